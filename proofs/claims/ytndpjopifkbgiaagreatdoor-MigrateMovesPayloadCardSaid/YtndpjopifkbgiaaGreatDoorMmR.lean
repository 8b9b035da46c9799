/-
  Several texts in one file: each has its own heading below.
-/
import Derived.Test.YtndpjopifkbgiaaGreatDoorMmQ
import Derived.Test.YtndpjopifkbgiaaGreatDoorMmP
import Derived.Test.YtndpjopifkbgiaaGreatDoorMmL
import Derived.Test.YtndpjopifkbgiaaGreatDoorMmC
set_option maxRecDepth 100000
set_option maxHeartbeats 4000000
namespace Go.Proofs.YtndpjopifkbgiaaGreatDoor
open Go.RowKit
namespace Pv
def Eh:List Int:=List.replicate 48 0
def JH(k:Nat):List (List Int):=List.replicate k Eh
def FV:Nat->List PC:=fun _=>[.lit (.int .i64 16)]
def z8F:Nat->List PC:=fun _=>[.lit (.int .u8 0)]
def Pq:Nat->List PC:=fun _=>[.sl 1 48 z8F]
theorem bBe{i:Nat}(hi:i<4):Pq i=bH (JH 4) i:=by
 unfold Pq bH JH;rw[zG,List.getElem?_replicate,if_pos hi]
 show[PC.sl 1 48 z8F]=[PC.sl 1 48 (qg Eh)]
 have:z8F=qg Eh:=by
  funext j;unfold z8F qg Eh;rw[zG,List.getElem?_replicate]
  split<;>rfl
 rw[this]
def TI(k:Nat):St:=⟨[(0,none,dh (.sl 1 4 FV)),(2,none,dh (.pt 0 0 0)),(4,none,dh (.pt 1000 0 0)),(5,none,h_ k)],[(0,none,0,.box 60 [.lit (.slice none 0 0)]),(1000,none,0,.box 60 [.ow 9009 0 1 0 k]),(9009,none,0,.arr 74 1 k Pq)]⟩
theorem JV:gU Tryz.prog a_ 63 false [dh (.sl 1 4 FV)] (.lh [.agg [.sl 1 4 (bH (JH 4))],.one (.lit (.int .i64 0))]):=by
 have M:=aAS
 have hb1:Tryz.prog.types[74].bytes=24:=by kernel_rfl
 have hb2:Tryz.prog.types[5].bytes=1:=by kernel_rfl
 have hs1:Tryz.prog.types[74].size=1:=by kernel_rfl
 refine bJ Tryz.func63 rfl rfl bP (fun A hS hn hI=>?_);refine aB M hI hn (by rfl) (by kernel_rfl) ?_ ?_
 ·simp
 refine aB M hI hn (by rfl) (by kernel_rfl) ?_ ?_
 ·simp
 refine aN ?_;refine aB M hI hn (by rfl) (by kernel_rfl) ?_ ?_
 ·simp
 refine aH (by rfl) (fun hc=>?_) (fun hc=>?_)
 ·cases hc
 ·refine aP ?_;change iw _ _ _ _ _;refine aN ?_;refine aB M hI hn (by rfl) (by kernel_rfl) ?_ ?_
  ·simp
  refine aG (s':=TI 0) (fun a w hg=>((hg.CY (x:=9009) (b:=1000) (e:=74) (n:=1) (l1:=[]) (by rfl) (by rfl)).reset (kT:=[0,2,4,5]) (kO:=[0,1000,9009]) (by rfl) (by simp)).same ?_ ?_) ?_
  ·exact .cons rfl (.cons rfl (.cons rfl (.cons rfl .nil)))
  ·exact .cons (.box rfl) (.cons (.box rfl) (.cons (.arr rfl (fun i hi=>by omega)) .nil))
  refine bG ?_;refine iL 4 (fun k t=>t=TI k) 0 rfl (by omega) (fun k t hJ hk=>?_);subst hJ;refine aN ?_;refine aB M hI hn (by rfl) (by kernel_rfl) ?_ ?_
  ·simp
  refine aH (by rfl) (fun hc=>?_) (fun hc=>?_)
  ·have hk2:k<4:=by have:=of_decide_eq_true hc;omega
   refine aP ?_;change iw _ _ _ _ _;refine aN ?_;refine bG ?_;refine aN ?_;refine aB M hI hn (by rfl) (by kernel_rfl) ?_ ?_
   ·simp;omega
   refine aH (by rfl) (fun hc=>?_) (fun hc=>?_)
   ·cases hc
   refine aP ?_;change iw _ _ _ _ _;refine aQ M hI hn (by rfl) (by kernel_rfl) ?_ ?_
   ·simp[hb1,hb2]
    have h48:IntKind.i64.wrap 48=48:=by decide
    exact⟨by omega,by rw[h48];omega,by omega⟩
   change iw _ _ _ _ _;refine aQ M hI hn (by rfl) (by kernel_rfl) ?_ ?_
   ·simp
   intro a w hg
   refine⟨k+1,_,by omega,by omega,rfl,(hg.CW (R:=[(9009,Pq)]) (kF:=[9007]) (kT:=[0,2,4,5]) (kO:=[0,1000,9009]) (.inr hS) (by rfl) ?_).same ?_ ?_⟩
   ·simp
    refine⟨fun i hi=>?_,fun i _=>?_⟩
    ·by_cases h:i<k
     ·unfold qh;rw[if_pos h];rfl
     ·obtain rfl:i=k:=by omega
      unfold qh;rw[if_neg h,Nat.sub_self];rfl
    ·rfl
   ·exact .cons rfl (.cons rfl (.cons rfl (.cons (by rw[fG k (by omega)]) .nil)))
   ·exact .cons (.box rfl) (.cons (.box rfl) (.cons (.arr rfl (fun i hi=>rfl)) .nil))
  ·have hk2:k=4:=by have:=of_decide_eq_false hc;omega
   subst hk2;refine gW ?_;change iw _ _ _ _ _;refine aB M hI hn (by rfl) (by kernel_rfl) ?_ ?_
   ·simp
   refine aO (fun a w hg=>⟨.inr rfl,_,?_,hg⟩);refine kH (by rfl) (by simp) (by rfl) ?_;refine .lh (.cons (.agg (.cons (.row rfl trivial (by omega) (fun i hi=>?_) (fun i hi=>rfl)) .nil)) (.cons (.one (.cold rfl)) .nil));rw[Nat.zero_add];exact bBe hi
def Cf(root:List UInt8):gy:=⟨JH 4,Bi,root⟩
def JU:List PV->Option (Prop×PV)
 |[.w (.one (.lit (.int .i64 n)))]=>some (n=128,.lh [.agg (Vr Bi),.one (.lit (.int .i64 0))])
 |_=>none
theorem bBj:aj Tryz.prog a_ 64 (bD true JU):=by
 refine aZ (aF Tryz.func64 (by kernel_rfl) rfl) (fun xs p r hg hp=>?_);unfold JU at hg
 split at hg
 ·cases hg
  obtain rfl:_=(128:Int):=hp
  exact JS
 ·cases hg
def JW:List PV->Option (Prop×PV)
 |[.w (.one (.sl 1 n f))]=>some (n=4/\∀ i,i<4->f i=FV i,.lh [.agg [.sl 1 4 (bH (JH 4))],.one (.lit (.int .i64 0))])
 |_=>none
theorem aLn{C:Ctx}{n:Nat}{f g:Nat->List PC}{v:Value}(h:RV C (dh (.sl 1 n f)) v)(he:∀ i,i<n->f i=g i):RV C (dh (.sl 1 n g)) v:=by
 cases h with
 |w h=>cases h with
  |one h=>exact .w (.one (h.yx he))
theorem bBk:aj Tryz.prog a_ 63 (bD false JW):=by
 refine aZ (aF Tryz.func63 (by kernel_rfl) rfl) (fun xs p r hg hp=>?_);unfold JW at hg
 split at hg
 ·cases hg;obtain⟨rfl,h⟩:=hp
  exact JV.args fun C vs hv=>by
   match vs,hv with
   |[x],⟨k0,_⟩=>exact⟨aLn k0 h,trivial⟩
 ·cases hg
def nwL:List (Nat×Spec):=[(63,bD false JW),(64,bD true JU)]
theorem Zu:∀ p∈nwL,aj Tryz.prog a_ p.1 p.2:=by
 intro p hp;simp only[nwL,List.mem_cons,List.not_mem_nil,or_false] at hp;rcases hp with rfl|rfl
 ·exact bBk
 ·exact bBj
theorem nwM:l_ Tryz.prog a_ (find nwL):=⟨bV Zu,fC⟩
theorem JQ(root:List UInt8):gU Tryz.prog a_ 33 false [.w (.agg [.bs 16 root]),dh (.sl 1 4 FV)] (.lh [.agg (lu (Cf root)),.one (.lit (.int .i64 0))]):=by
 have M:=nwM;refine bJ Tryz.func33 rfl rfl bP (fun A hS hn hI=>?_);refine aB M hI hn (by rfl) (by kernel_rfl) ?_ ?_
 ·simp
 refine aB M hI hn (by rfl) (by kernel_rfl) ?_ ?_
 ·simp
 refine aN ?_;refine aB M hI hn (by rfl) (by kernel_rfl) ?_ ?_
 ·simp
 refine aH (by rfl) (fun hc=>?_) (fun hc=>?_)
 ·cases hc
 refine aP ?_;change iw _ _ _ _ _;refine aB M hI hn (by rfl) (by kernel_rfl) ?_ ?_
 ·simp
 refine aB M hI hn (by rfl) (by kernel_rfl) ?_ ?_
 ·simp
 refine aO (fun a w hg=>⟨.inr rfl,_,?_,hg⟩);refine kH (by rfl) (by simp) (by rfl) ?_;refine .lh (.cons (.agg (.cons (.cold rfl) (.cons (.cold rfl) (.cons (.cold rfl) .nil)))) (.cons (.one (.cold rfl)) .nil))
def JR:List PV->Option (Prop×PV)
 |[.w (.agg [.bs 16 root]),.w (.one (.sl 1 n f))]=>some (n=4/\∀ i,i<4->f i=FV i,.lh [.agg (lu (Cf root)),.one (.lit (.int .i64 0))])
 |_=>none
theorem bBi:aj Tryz.prog a_ 33 (aJu JR):=by
 refine aWy (aF Tryz.func33 (by kernel_rfl) rfl) (fun xs p r hg hp=>?_);unfold JR at hg
 split at hg
 ·cases hg;obtain⟨rfl,h⟩:=hp
  exact (JQ _).args fun C vs hv=>by
   match vs,hv with
   |[x,y],⟨k0,k1,_⟩=>exact⟨k0,aLn k1 h,trivial⟩
 ·cases hg
section
variable {α β:Type}
def qc:ai α->gy->Except Int α×gy
 |.ret a,h=>(.ok a,h)
 |.ask c k,h=>if c.kind = -1 then (.error c.ay,h) else qc (k (gI h c Ci).2.1) (gI h c Ci).1
def nfB(f:α->gy->Except Int β×gy):Except Int α×gy->Except Int β×gy
 |(.ok a,h)=>f a h
 |(.error e,h)=>(.error e,h)
theorem aJb(p:ai α)(f:α->ai β):∀ h,qc (p.bind f) h=nfB (fun a h=>qc (f a) h) (qc p h):=by
 induction p with
 |ret a=>intro h;rfl
 |ask c k ih=>
  intro h;show qc (.ask c fun r=>(k r).bind f) h=_;rw[qc,qc]
  by_cases hc:c.kind = -1
  ·rw[if_pos hc,if_pos hc];rfl
  ·rw[if_neg hc,if_neg hc];exact ih _ _
theorem bT{p:ai α}{f:α->ai β}{h h':gy}{a:α}(hp:qc p h=(.ok a,h')):qc (p.bind f) h=qc (f a) h':=by rw[aJb,hp];rfl
theorem yF{p:ai α}{f:α->ai β}{h h':gy}{e:Int}(hp:qc p h=(.error e,h')):qc (p.bind f) h=(.error e,h'):=by rw[aJb,hp];rfl
def aCU(k:Int->α):Except Int α->α
 |.ok a=>a
 |.error e=>k e
theorem aRb(k:Int->α)(p:ai α):∀ h i,∃ n,dS [] (ai.catch k p) h i=(some (aCU k (qc p h).1),(qc p h).2,n):=by
 induction p with
 |ret a=>intro h i;exact⟨i,rfl⟩
 | ask c g ih=>
  intro h i;rw[qc]
  by_cases hc:c.kind = -1
  ·rw[if_pos hc];unfold ai.catch;rw[decide_eq_true hc]
   exact⟨i,rfl⟩
  ·rw[if_neg hc];rw[qL k g hc,dS];have hf:eX [] i=Ci:=rfl;rw[hf,if_neg (by decide)];exact ih _ _ _
theorem dB(e:Int)(h:gy):qc (iC true e) h=(.ok (),h):=rfl
theorem vU(e:Int)(h:gy):qc (iC false e) h=(.error e,h):=rfl
end
def cl(n:Nat):List Int:=List.replicate (3*n) 2++List.replicate (48-3*n) 0
def r_(c2 c3:List Int)(f:Fl)(r:List UInt8):gy:=⟨[Eh,Eh,c2,c3],f,r⟩
theorem WS:Eh=cl 0:=rfl
end Pv
section
section
variable {f:Fl} {u:S_}
theorem Lm(h:Fine f u){g:Fl}(hg:∀ t,(t<iy f u\/iy f u+8<=t)->sec g t=sec f t){rec k:Int}(h0:0<=rec)(h1:rec<=3)(h2:0<=k)(h3:k<=1)(hne:rec≠u.ig\/k=((jg f u.ig).2:Int)):Da g rec k=Da f rec k:=by
 have hf:=h.first;have hk:(jg f u.ig).2=0\/(jg f u.ig).2=1:=aUg _ _;unfold Da;rw[aEz (f:=g) (g:=f) (s:=dP rec k) (fun t h4 h5=>hg t ?_)];rw[uG h0 h1 h2 h3] at h4 h5;rcases hne with hne|rfl
 ·omega
 ·by_cases hr:rec=u.ig
  ·subst hr;omega
  ·omega
structure Dj(f:Fl)(u:S_)(x:Fl×Dt×Bool×List Acc):Prop where
 sz:Sz x.1
 far:∀ rec k:Int,0<=rec->rec<=3->0<=k->k<=1->(rec≠u.ig\/k=((jg f u.ig).2:Int))->Da x.1 rec k=Da f rec k
 done:x.2.2.1=true->x.2.1=⟨u.content,(jg f u.ig).1.1+1,0⟩/\Da x.1 u.ig (1-((jg f u.ig).2:Int))=((jg f u.ig).1.1+1,u.content.data.toList)
 left:x.2.2.1=false->x.2.1=EN/\Tv f u (Da x.1 u.ig (1-((jg f u.ig).2:Int)))
theorem UX(h:Fine f u):Dj f u (CX f u):=by
 have hl:=h.len;have hs:=h.nsec
 by_cases hw:u.cut<0\/17+(nsec (gu f u):Int)<=u.cut
 ·have hlast:(dU (iy f u) (gu f u))[nsec (gu f u)]?=some ⟨4,0,iy f u,strOf (jm (gu f u) 0)⟩:=qP _ _ hl.1;have FM:=aKu h (Nat.le_refl _) _ hlast (-1);have hd:=aLd h (cut := -1) (.inl (by decide));rw[<-GI h] at FM hd;rw[aDf h hw]
  exact⟨FM.1,fun rec k h0 h1 h2 h3 hne=>Lm h FM.2 h0 h1 h2 h3 hne,fun _=>⟨rfl,hd⟩,(fun hx=>by cases hx)⟩
 ·by_cases hr:u.cut<16
  ·rw[Ii h (by omega) hr]
   exact⟨h.sz,fun _ _ _ _ _ _ _=>rfl,(fun hx=>by cases hx),fun _=>⟨rfl,.old rfl⟩⟩
  ·obtain⟨j,hj⟩:∃ j:Nat,u.cut=16+(j:Int):=⟨(u.cut-16).toNat,by omega⟩
   have hjn:j<=nsec (gu f u):=by omega
   have hlen:=jF (iy f u) (gu f u) hl.1;obtain⟨a,ha⟩:∃ a,(dU (iy f u) (gu f u))[j]?=some a:=⟨_,zH (by omega)⟩;have FM:=aKu h hjn a ha (max 0 u.bytes);have hlf:=aUx h hjn a ha (cut:=max 0 u.bytes) (by omega);rw[bAm h hj hjn a ha]
   exact⟨FM.1,fun rec k h0 h1 h2 h3 hne=>Lm h FM.2 h0 h1 h2 h3 hne,(fun hx=>by cases hx),fun _=>⟨rfl,hlf⟩⟩
theorem Dj.same{x:Fl×Dt×Bool×List Acc}(h:Fine f u)(p:Dj f u x):Da x.1 u.ig ((jg f u.ig).2:Int)=(jg f u.ig).1:=by
 have hk:(jg f u.ig).2=0\/(jg f u.ig).2=1:=aUg _ _;rw[p.far u.ig _ h.r0 h.r3 (by omega) (by omega) (.inr rfl)];exact (aNz f u.ig).1
theorem Dj.whole{x:Fl×Dt×Bool×List Acc}(h:Fine f u)(p:Dj f u x)(hw:x.2.2.1=true):(jg x.1 u.ig).1=((jg f u.ig).1.1+1,u.content.data.toList):=RH (p.same h) (p.done hw).2
end
end
namespace Pv
def Wi(n:Nat)(c:Acc):Prop:=(c.kind=3/\(c.bytes=aS/\c.ay=0)/\0<=c.cell/\c.cell<n)\/(c.kind=4/\c.ay=0/\(0<=c.cell/\c.cell<n)/\c.bytes.size=256)
theorem MQ{b:List (List Int)}{f:Fl}{r:List UInt8}{c:Acc}(h:Wi f.length c):gI ⟨b,f,r⟩ c Ci=(⟨b,iW (-1) c f,r⟩,Bc c f,0):=by
 rcases h with⟨h1,h2,h3⟩|⟨h1,h2,h3,h4⟩
 ·rw[aKc h1 h2 h3];unfold iW Bc;rw[if_pos h1,if_pos h1];rfl
 ·rw[aKb h1 h2 h3 h4];unfold iW Bc;rw[if_neg (by omega),if_neg (by omega)];rfl
theorem aLm(cut:Int)(c:Acc)(f:Fl):(iW cut c f).length=f.length:=by
 unfold iW
 split
 ·rfl
 ·exact yM _ _ _ _
theorem aMp{α:Type}(p:ai α):∀ (b:List (List Int)) (f:Fl) (r:List UInt8),(∀ c∈m_ p f,Wi f.length c)->qc p ⟨b,f,r⟩=(.ok (yh p f),⟨b,uy (m_ p f) f,r⟩):=by
 induction p with
 |ret a=>intro b f r _;rfl
 |ask c k ih=>
  intro b f r h;have hc:Wi f.length c:=h c List.mem_cons_self
  have hk:c.kind ≠ -1:=by rcases hc with⟨h1,_⟩|⟨h1,_⟩<;>omega
  rw[qc,if_neg hk,MQ hc];refine (ih (Bc c f) b (iW (-1) c f) r (fun x hx=>?_)).trans rfl;rw[aLm];exact h x (List.mem_cons_of_mem _ hx)
theorem aDc{s:Int}(h0:0<=s)(h1:s+8<=128):∀ n,n<=8->∀ c∈nT s n,Wi 128 c
 |0,_,c,h=>by cases h
 |n+1,hn,c,h=>by
  rcases List.mem_cons.1 h with rfl|h
  ·exact .inl ⟨rfl,⟨rfl,rfl⟩,by show 0<=s+((7-n:Nat):Int);omega,by show s+((7-n:Nat):Int)<128;omega⟩
  ·exact aDc h0 h1 n (by omega) c h
theorem aYg{s:Int}{b:List UInt8}(h0:0<=s):∀ n i,s+((i+n:Nat):Int)<=128->∀ c∈AX s b n i,Wi 128 c
 |0,_,_,c,h=>by cases h
 |n+1,i,hn,c,h=>by
  rcases List.mem_cons.1 h with rfl|h
  ·exact .inr ⟨rfl,rfl,⟨by show 0<=s+(i:Int);omega,by show s+(i:Int)<128;omega⟩,by rw[bQ,eQ]⟩
  ·exact aYg h0 n (i+1) (by omega) c h
theorem aYi{s:Int}{b:List UInt8}(h0:0<=s)(h1:s+8<=128)(hb:nsec b<=8)(hb1:1<=nsec b):∀ c∈dU s b,Wi 128 c:=by
 intro c h;rcases List.mem_cons.1 h with rfl|h
 ·exact .inr ⟨rfl,rfl,⟨h0,by show s<128;omega⟩,by rw[bQ,lI]⟩
 ·rcases List.mem_append.1 h with h|h
  ·exact aYg h0 (nsec b-1) 1 (by omega) c h
  ·obtain rfl:=List.mem_singleton.1 h
   exact .inr ⟨rfl,rfl,⟨h0,by show s<128;omega⟩,by rw[bQ,eQ]⟩
theorem bAh:∀ c∈Go.Proofs.YtndpjopifkbgiaaGreatDoor.BL 3,Wi 128 c:=by
 intro c h;rcases List.mem_append.1 h with h|h
 ·exact aDc (by decide) (by decide) 8 (Nat.le_refl _) c h
 ·exact aDc (by decide) (by decide) 8 (Nat.le_refl _) c h
structure Ai(f:Fl)(s:Int)(c:List UInt8):Prop where
 sz:Sz f
 cur:(jg f 3).1=(s,c)
theorem bDf:Sz Bi:=⟨by unfold Bi;rw[List.length_replicate],fun x hx=>by
 rw[List.eq_of_mem_replicate hx,bQ];unfold DI
 rw[List.length_replicate]⟩
theorem Qp{t:Int}(h0:0<=t)(h1:t<128):(sec Bi t)[0]?=some 0:=by
 obtain⟨n,rfl⟩:=Int.eq_ofNat_of_zero_le h0
 have hn:n<128:=by omega
 have e:Bi.getD n aS=strOf DI:=by
  unfold Bi;rw[zG,List.getElem?_replicate,if_pos hn,Option.getD_some]
 unfold sec;rw[if_pos ⟨h0,by rw[bDf.1];exact h1⟩,Int.toNat_natCast,e,dA];unfold DI;rw[List.getElem?_replicate,if_pos (by omega)]
theorem uV:Ai Bi 0 []:=by
 refine⟨bDf,?_⟩
 have h:∀ k:Int,0<=k->k<=1->Da Bi 3 k=(0,[]):=fun k h0 h1=>by
  have e:=uG (rec:=3) (k:=k) (by omega) (by omega) h0 h1;exact aHw bDf (by omega) (by omega) (Qp (by omega) (by omega)) 3
 unfold jg;rw[h 0 (by omega) (by omega),h 1 (by omega) (by omega)];rfl
theorem aTi{f:Fl}{s:Int}{c:List UInt8}(h:Ai f s c)(b:List (List Int))(r:List UInt8):qc (ai.load 3) ⟨b,f,r⟩=(.ok (zS (s,c)),⟨b,f,r⟩):=by
 obtain⟨q1,q2⟩:=VD (rec:=3) (f:=f) (by omega) (by omega);have q3:=(OE 3 f).2.2;rw[(OE 3 f).1] at q3;rw[aMp _ b f r (by rw[q1,h.sz.1];exact bAh),q1,q2,q3,h.cur]
def Ep(f:Fl)(x:ByteArray):Fl:=(CX f ⟨3,x,-1,0⟩).1
theorem Ho{f:Fl}{s:Int}{c:List UInt8}(h:Ai f s c){x:ByteArray}(hx:x.size<=2000)(hs:s+1<=1099511627776)(b:List (List Int))(r:List UInt8):qc (ai.save 3 x) ⟨b,f,r⟩=(.ok ⟨x,s+1,0⟩,⟨b,Ep f x,r⟩):=by
 have hs':(jg f 3).1.1+1<=1099511627776:=by rw[h.cur];exact hs
 have hF:Fine f ⟨3,x,-1,0⟩:=⟨h.sz,(by show (0:Int)<=3;decide),(by show (3:Int)<=3;decide),hx,hs'⟩;obtain⟨q1,q2⟩:=aSm (rec:=3) (c:=x) (f:=f) (by omega) (by omega) hx hs';have q3:=(OE 3 f).2.2;rw[(OE 3 f).1] at q3;have hw:=aDf hF (.inl (by show (-1:Int)<0;decide));have h1:=hF.first;have h2:=hF.nsec
 have h0:(jg f 3).1.1=s:=by rw[h.cur]
 rw[aMp _ b f r,q1,q2,aEg,q3,h0]
 ·unfold Ep;rw[hw];dsimp only;unfold iy gu;rw[show (jg f (S_.ig ⟨3,x,-1,0⟩)).1.1=s from h0]
 ·rw[q1,h.sz.1];intro c hc;rcases List.mem_append.1 hc with hc|hc
  ·exact bAh c hc
  ·exact aYi (s:=iy f ⟨3,x,-1,0⟩) (b:=gu f ⟨3,x,-1,0⟩) h1.1 (by omega) h2.2 h2.1 c hc
theorem aZb{f:Fl}{s:Int}{c:List UInt8}(h:Ai f s c){x:ByteArray}(hx:x.size<=2000)(hs:s+1<=1099511627776):Ai (Ep f x) (s+1) x.data.toList:=by
 have hs':(jg f 3).1.1+1<=1099511627776:=by rw[h.cur];exact hs
 have hF:Fine f ⟨3,x,-1,0⟩:=⟨h.sz,(by show (0:Int)<=3;decide),(by show (3:Int)<=3;decide),hx,hs'⟩;have p:=UX hF
 have hd:(CX f ⟨3,x,-1,0⟩).2.2.1=true:=by rw[aDf hF (.inl (by show (-1:Int)<0;decide))]
 have hw:=p.whole hF hd
 refine⟨p.sz,hw.trans ?_⟩
 show ((jg f 3).1.1+1,_)=_;rw[h.cur]
structure Ah(r:lm):Prop where
 kind:r.kind=1\/r.kind=2
 l0:0<=r.level
 l1:r.level<=16
 ol:iq r.ol
 ot:r.ot.length=16
 p:r.payload.size<=1000
theorem uY{α:Type}(a b:List α){n:Nat}(h:n=a.length):(a++b).drop n=b:=by rw[h];exact List.drop_left
theorem bAz(root:List UInt8)(r:lm)(g:Ah r):yC root (oC root r)=.okR (tC r):=by
 have hl0:=g.l0;have hl1:=g.l1;unfold oC;obtain⟨C,hC⟩:∃ C,dQ (sV root) r.level (tC r)=C:=⟨_,rfl⟩;obtain⟨T,hT⟩:∃ T,qx (sV root) r.level C=T:=⟨_,rfl⟩
 have hTl:T.length=16:=by rw[<-hT];exact eP _ _ _
 have hCl:C.length<4611686018427387904:=by
  rw[<-hC,dZ];unfold tC bU;have h1:=aX r.kind;have h2:=aX r.level;have h3:=aX r.ol;have h4:=aX (r.payload.data.toList.length:Int);have h5:r.payload.data.toList.length=r.payload.size:=Array.length_toList;have h6:=g.p;have h7:=g.ot;simp only[List.length_append];omega
 rw[hC,hT];have e1:=kY (n:=r.level) (bU C++T) (by omega) (by omega);have e2:=uF C T hCl;unfold yC;rw[e1];dsimp only;rw[if_neg (by decide),uY _ _ rfl,e2];dsimp only;rw[if_neg (by simp only[List.length_append];omega)]
 have e3:(di r.level++(bU C++T)).drop ((di r.level).length+(bU C).length)=T:=by rw[<-List.append_assoc];exact uY _ _ (by rw[List.length_append])
 rw[e3];unfold ET;rw[if_pos hT,<-hC,aAi]
theorem bEa(root:List UInt8)(r:lm)(g:Ah r):OG root (iU root r)=(r,true):=by
 have hl0:=g.l0;have hl1:=g.l1;have hk:=g.kind;unfold OG;rw[show (iU root r).data.toList=oC root r from dA _,bAz root r g];unfold TM tC;dsimp only;have e1:=kY (n:=r.kind) (di r.level++(r.ot++(di r.ol++bU r.payload.data.toList))) (by omega) (by omega);have e2:=kY (n:=r.level) (r.ot++(di r.ol++bU r.payload.data.toList)) (by omega) (by omega);have e3:=kY (n:=r.ol) (bU r.payload.data.toList) g.ol.1 g.ol.2
 have e4:=uF r.payload.data.toList [] (by
  have h5:r.payload.data.toList.length=r.payload.size:=Array.length_toList;have:=g.p
  omega)
 rw[List.append_nil] at e4;rw[e1];dsimp only;rw[uY _ _ rfl,e2];dsimp only;rw[uY _ _ rfl];unfold mgT
 rw[if_neg (by
  have:=g.ot;rw[List.length_append];simp
  omega),uY _ _ g.ot.symm,e3]
 dsimp only;rw[uY _ _ rfl,e4];dsimp only;rw[show (r.ot++(di r.ol++bU r.payload.data.toList)).take 16=r.ot from by rw[<-g.ot];exact List.take_left,mF];unfold mgU;rw[decide_eq_true]
 exact⟨rfl,rfl,hk,hl0,hl1,rfl⟩
theorem wV(root:List UInt8)(r:lm)(g:Ah r):(iU root r).size<=2000:=by
 unfold iU;rw[bQ];unfold oC bU;have h1:=aX r.kind;have h2:=aX r.level;have h3:=aX r.ol;have h4:=aX (r.payload.data.toList.length:Int);have h5:r.payload.data.toList.length=r.payload.size:=Array.length_toList;have h6:=g.p;have h7:=g.ot;have h8:=aX ((dQ (sV root) r.level (tC r)).length:Int);simp only[List.length_append,dZ,eP];unfold tC bU;simp only[List.length_append];have h9:=aX ((di r.kind++(di r.level++(r.ot++(di r.ol++(di (r.payload.data.toList.length:Int)++r.payload.data.toList))))).length:Int);simp only[List.length_append] at h9;omega
structure Bf(f:Fl)(s:Int)(root:List UInt8)(r:lm):Prop where
 ig:Ai f s (oC root r)
 s1:1<=s
 ok:Ah r
theorem Ql{m:ji}{f:Fl}{s:Int}{r:lm}(h:Bf f s m.root r)(b:List (List Int))(q:List UInt8):qc (qo m) ⟨b,f,q⟩=(.ok r,⟨b,f,q⟩):=by
 have hs:=h.s1
 have e:zS (s,oC m.root r)=⟨iU m.root r,s,0⟩:=by unfold zS;rw[if_neg (by show ¬s=0;omega)];rfl
 unfold qo;rw[bT ((aTi h.ig b q).trans (by rw[e]))];dsimp only;rw[show ((0:Int)==0)=true from rfl,bT (dB _ _),bEa m.root r h.ok];exact bT (dB _ _)
theorem PE{m:ji}{f:Fl}{s:Int}{c:List UInt8}{r:lm}(h:Ai f s c)(hs:s+1<=1099511627776)(g:Ah r)(b:List (List Int))(q:List UInt8):qc (z_ m r) ⟨b,f,q⟩=(.ok (),⟨b,Ep f (iU m.root r),q⟩):=by
 unfold z_;rw[bT (Ho h (wV m.root r g) hs b q)];dsimp only;rw[show ((0:Int)==0)=true from rfl,bT (dB _ _)];rfl
theorem aDg{root:List UInt8}{f:Fl}{s:Int}{c:List UInt8}{r:lm}(h:Ai f s c)(h0:0<=s)(hs:s+1<=1099511627776)(g:Ah r):Bf (Ep f (iU root r)) (s+1) root r:=by
 have:=aZb h (wV root r g) hs;rw[show (iU root r).data.toList=oC root r from dA _] at this
 exact⟨this,by omega,g⟩
theorem VG{n:Nat}(h:n<=16):n=0\/n=1\/n=2\/n=3\/n=4\/n=5\/n=6\/n=7\/n=8\/n=9\/n=10\/n=11\/n=12\/n=13\/n=14\/n=15\/n=16:=by omega
theorem aKG{n:Nat}(hn:n<=16)(c2:List Int)(f:Fl)(r:List UInt8):qc (ai.jc 3 16) (r_ c2 (cl n) f r)=(.ok n,r_ c2 (cl n) f r):=by
 rcases VG hn with rfl|rfl|rfl|rfl|rfl|rfl|rfl|rfl|rfl|rfl|rfl|rfl|rfl|rfl|rfl|rfl|rfl
 all_goals kernel_rfl
theorem aKH{n:Nat}(hn:n<=16)(c3:List Int)(f:Fl)(r:List UInt8):qc (ai.jc 2 16) (r_ (cl n) c3 f r)=(.ok n,r_ (cl n) c3 f r):=by
 rcases VG hn with rfl|rfl|rfl|rfl|rfl|rfl|rfl|rfl|rfl|rfl|rfl|rfl|rfl|rfl|rfl|rfl|rfl
 all_goals kernel_rfl
theorem aAT{n:Nat}(h:n<16):n=0\/n=1\/n=2\/n=3\/n=4\/n=5\/n=6\/n=7\/n=8\/n=9\/n=10\/n=11\/n=12\/n=13\/n=14\/n=15:=by omega
theorem aJL{n:Nat}(hn:n<16)(c2:List Int)(f:Fl)(r:List UInt8):qc (ai.mg 3 16 (n+1)) (r_ c2 (cl n) f r)=(.ok (n+1,0),r_ c2 (cl (n+1)) f r):=by
 rcases aAT hn with rfl|rfl|rfl|rfl|rfl|rfl|rfl|rfl|rfl|rfl|rfl|rfl|rfl|rfl|rfl|rfl
 all_goals kernel_rfl
theorem aJM{n:Nat}(hn:n<16)(c3:List Int)(f:Fl)(r:List UInt8):qc (ai.mg 2 16 (n+1)) (r_ (cl n) c3 f r)=(.ok (n+1,0),r_ (cl (n+1)) c3 f r):=by
 rcases aAT hn with rfl|rfl|rfl|rfl|rfl|rfl|rfl|rfl|rfl|rfl|rfl|rfl|rfl|rfl|rfl|rfl
 all_goals kernel_rfl
theorem KH{n:Nat}(hn:n<=16):jT (cl n) false=n:=by
 rcases VG hn with rfl|rfl|rfl|rfl|rfl|rfl|rfl|rfl|rfl|rfl|rfl|rfl|rfl|rfl|rfl|rfl|rfl
 all_goals kernel_rfl
theorem aJq{m:ji}{f:Fl}{s:Int}{r:lm}(h:Bf f s m.root r)(c2 c3:List Int)(q:List UInt8):qc (qo m) (r_ c2 c3 f q)=(.ok r,r_ c2 c3 f q):=Ql h _ q
theorem aQd{m:ji}{f:Fl}{s:Int}{c:List UInt8}{r:lm}(h:Ai f s c)(hs:s+1<=1099511627776)(g:Ah r)(c2 c3:List Int)(q:List UInt8):qc (z_ m r) (r_ c2 c3 f q)=(.ok (),r_ c2 c3 (Ep f (iU m.root r)) q):=PE h hs g _ q
theorem P9{n:Nat}(hn:n<16)(c2:List Int)(f:Fl)(r:List UInt8):qc (kD 3 (n+1)) (r_ c2 (cl n) f r)=(.ok (n+1),r_ c2 (cl (n+1)) f r):=by
 unfold kD;rw[bT (aJL hn c2 f r)];rfl
theorem P_{n:Nat}(hn:n<16)(c3:List Int)(f:Fl)(r:List UInt8):qc (kD 2 (n+1)) (r_ (cl n) c3 f r)=(.ok (n+1),r_ (cl (n+1)) c3 f r):=by
 unfold kD;rw[bT (aJM hn c3 f r)];rfl
theorem aTf{n:Nat}(hn:n<16)(c2:List Int)(f:Fl)(r:List UInt8):qc (rW n) (r_ c2 (cl n) f r)=(.ok (),r_ c2 (cl (n+1)) f r):=by
 unfold rW;rw[bT (P9 hn c2 f r),show (((n+1:Nat):Int)==((n+1:Nat):Int))=true from beq_self_eq_true _,bT (dB _ _)];rfl
theorem aIs{n:Nat}(hn:n<16)(he:n % 2=0)(h:gy):qc (oJ n) h=(.ok (),h):=by
 unfold oJ;rw[he,show (((0:Nat):Int)==0)=true from rfl,bT (dB _ _),decide_eq_true (by omega),bT (dB _ _)];rfl
theorem IZ{n:Nat}(he:n % 2=1)(h:gy):qc (oJ n) h=(.error 21,h):=by
 unfold oJ;rw[he,show (((1:Nat):Int)==0)=false from rfl];exact yF (vU _ _)
theorem aBp{n:Nat}(hn:n<16){p:ByteArray}(hp:p.size<=1000):Ah (zT n p):=⟨.inl rfl,by show (0:Int)<=((n+1:Nat):Int);omega,by show ((n+1:Nat):Int)<=16;omega,by show iq 0;unfold iq;omega,rfl,hp⟩
theorem aHq{m:ji}{n:Nat}{f:Fl}{s:Int}{c:List UInt8}{p:ByteArray}(h:Ai f s c)(hs:s+1<=1099511627776)(hn:n<16)(hp:p.size<=1000)(c2:List Int)(q:List UInt8) :
  qc (nG m n p) (r_ c2 (cl n) f q)=(.ok { jr with payload:=p },r_ c2 (cl (n+1)) (Ep f (iU m.root (zT n p))) q):=by
 unfold nG;rw[bT (aQd h hs (aBp hn hp) _ _ q)];rw[bT (aTf hn c2 _ q)];rfl
theorem yP{m:ji}(hk:1<=m.kind/\m.kind<=7)(h:gy):qc (kR m) h=nfB (fun _ h=>(.ok (),h)) (qc (vX m) h):=by
 unfold kR;rw[decide_eq_true (show m.kind>=1 from hk.1),decide_eq_true hk.2,show (bif true then true else false)=true from rfl,bT (dB _ _),aJb];rfl
theorem oG{m:ji}(hk:m.kind=2\/m.kind=4\/m.kind=6)(h:gy):qc (kR m) h=(.ok (),h):=by
 rw[yP (by omega)];unfold vX;rw[if_neg (by omega),if_neg (by omega),if_neg (by omega)];rfl
theorem aOf{m:ji}(hk:m.kind=1\/m.kind=3)(hp:m.payload.size<=1000)(h:gy):qc (kR m) h=(.ok (),h):=by
 rw[yP (by omega)];unfold vX;rw[if_pos (by omega),decide_eq_true (by omega)];rfl
theorem aXp{m:ji}(hk:m.kind=5)(h0:0<=m.ol)(h1:m.ol<16)(h2:m.ol.tmod 2=0)(h3:(m.ot==m.id)=false)(h:gy):qc (kR m) h=(.ok (),h):=by
 rw[yP (by omega)];unfold vX;rw[if_neg (by omega),if_pos hk,decide_eq_true (show m.ol>=0 from h0),decide_eq_true h1,h2,h3];rfl
theorem aOg{m:ji}(hk:m.kind=7)(hx:(m.xt==m.id)=true)(h:gy):qc (kR m) h=(.ok (),h):=by
 rw[yP (by omega)];unfold vX;rw[if_neg (by omega),if_neg (by omega),if_pos hk,hx];rfl
theorem lY{m:ji}{n:Nat}{c2:List Int}{f:Fl}{q:List UInt8}(hc:∀ h,qc (kR m) h=(.ok (),h))(hn:n<=16):qc (lS m) (r_ c2 (cl n) f q)=qc (pO m n) (r_ c2 (cl n) f q):=by
 unfold lS;rw[bT (hc _),bT (aKG hn c2 f q)]
section
variable {m:ji} {n n2:Nat} {f:Fl} {s:Int} {c c2:List Int} {b:List UInt8} {r:lm} {q:List UInt8}
theorem aXk(hk:m.kind=1)(hp:m.payload.size<=1000)(h:Ai f s b)(hs:s+1<=1099511627776)(hn:n<16)(he:n % 2=0) :
  qc (lS m) (r_ c2 (cl n) f q)=(.ok { jr with payload:=m.payload },r_ c2 (cl (n+1)) (Ep f (iU m.root (zT n m.payload))) q):=by
 rw[lY (aOf (.inl hk) hp) (by omega)];unfold pO;rw[if_pos hk];unfold ZC;rw[bT (aIs hn he _),bT (aHq h hs hn hp c2 q)];rfl
theorem aMk(hk:m.kind=4)(hn:n<16)(he:n % 2=0):qc (lS m) (r_ c2 (cl n) f q)=(.ok { jr with ot:=m.id,ol:=n },r_ c2 (cl n) f q):=by
 rw[lY (oG (.inr (.inl hk))) (by omega)];unfold pO;rw[if_neg (by omega),if_neg (by omega),if_neg (by omega),if_pos hk];unfold Yz;rw[bT (aIs hn he _)];rfl
theorem aIi(hn:n<16)(ho:iq m.ol)(ht:m.ot.length=16)(g:Ah r):Ah (S9 m n r):=⟨.inr rfl,by show (0:Int)<=((n+1:Nat):Int);omega,by show ((n+1:Nat):Int)<=16;omega,ho,ht,g.p⟩
theorem aSk(hk:m.kind=5)(h0:0<=m.ol)(h1:m.ol<16)(h2:m.ol.tmod 2=0)(h3:(m.ot==m.id)=false)(ht:m.ot.length=16)(h:Bf f s m.root r)(hs:s+1<=1099511627776)(hn:n<16)(he:n % 2=1)(hr:r.kind=1)(hl:r.level=n) :
  qc (lS m) (r_ c2 (cl n) f q)=(.ok (fZ m.link (S9 m n r)),r_ c2 (cl (n+1)) (Ep f (iU m.root (S9 m n r))) q):=by
 rw[lY (aXp hk h0 h1 h2 h3) (by omega)];unfold pO;rw[if_neg (by omega),if_neg (by omega),if_neg (by omega),if_neg (by omega),if_pos hk];unfold Yp;rw[he,show (((1:Nat):Int)==1)=true from rfl,bT (dB _ _),bT (aJq h _ _ q),hr,hl,show ((1:Int)==1)=true from rfl,show ((n:Int)==(n:Int))=true from beq_self_eq_true _,show (bif true then true else false)=true from rfl,bT (dB _ _)];rw[bT (aTf hn c2 f q)];rw[bT (aQd h.ig hs (aIi hn (by unfold iq;omega) ht h.ok) _ _ q)];rfl
theorem aVs(hk:m.kind=6)(h:Bf f s m.root r)(hn:n<=16)(he:n % 2=0)(hr:r.kind=2)(hl:r.level=n):qc (lS m) (r_ c2 (cl n) f q)=(.ok (fZ m.link r),r_ c2 (cl n) f q):=by
 rw[lY (oG (.inr (.inr hk))) hn];unfold pO;rw[if_neg (by omega),if_neg (by omega),if_neg (by omega),if_neg (by omega),if_neg (by omega),if_pos hk];unfold zI;rw[he,show (((0:Nat):Int)==0)=true from rfl,bT (dB _ _),bT (aJq h _ _ q),hr,hl,show ((2:Int)==2)=true from rfl,show ((n:Int)==(n:Int))=true from beq_self_eq_true _,show (bif true then true else false)=true from rfl,bT (dB _ _)];rfl
structure Tra(m:ji)(p:ByteArray):Prop where
 xt:(m.xt==m.id)=true
 o:opened (keyS m.link m.xt m.xl) m.bn m.bc m.bt=true
 p:strOf (dQ (keyS m.link m.xt m.xl) m.bn m.bc.data.toList)=p
theorem aHt{p:ByteArray}(hk:m.kind=7)(t:Tra m p)(hp:p.size<=1000)(h:Ai f s b)(hs:s+1<=1099511627776)(hn:n<16)(he:n % 2=0)(hl:m.xl=n) :
  qc (lS m) (r_ c2 (cl n) f q)=(.ok { jr with payload:=p },r_ c2 (cl (n+1)) (Ep f (iU m.root (zT n p))) q):=by
 rw[lY (aOg hk t.xt) (by omega)];unfold pO;rw[if_neg (by omega),if_neg (by omega),if_neg (by omega),if_neg (by omega),if_neg (by omega),if_neg (by omega)]
 have e1:aUs m=0:=by unfold aUs;rw[t.o];rfl
 have e2:Tm m=p:=by unfold Tm;rw[t.o,t.p];rfl
 unfold xB;rw[bT (aIs hn he _),hl,show ((n:Int)==(n:Int))=true from beq_self_eq_true _,bT (dB _ _),e1,e2,show ((0:Int)==0)=true from rfl,bT (dB _ _),decide_eq_true (by omega),bT (dB _ _),bT (aHq h hs hn hp c2 q)];rfl
theorem aYb(hk:m.kind=7)(hx:(m.xt==m.id)=true)(hn:n<=16)(he:n % 2=1):qc (lS m) (r_ c2 (cl n) f q)=(.error 21,r_ c2 (cl n) f q):=by
 rw[lY (aOg hk hx) hn];unfold pO;rw[if_neg (by omega),if_neg (by omega),if_neg (by omega),if_neg (by omega),if_neg (by omega),if_neg (by omega)];unfold xB;exact yF (IZ he _)
theorem aPn(hk:m.kind=3)(hp:m.payload.size<=1000)(h:Ai f s b)(hs:s+1<=1099511627776)(hn:n<=16)(he:n % 2=1) :
  qc (lS m) (r_ c2 (cl n) f q)=(.ok { jr with payload:=m.payload },r_ c2 (cl n) (Ep f (iU m.root ⟨1,(n:Int),uz,0,m.payload⟩)) q):=by
 rw[lY (aOf (.inr hk) hp) hn];unfold pO;rw[if_neg (by omega),if_neg (by omega),if_pos hk];unfold Yo;have g:Ah ⟨1,(n:Int),uz,0,m.payload⟩:=⟨.inl rfl,by show (0:Int)<=(n:Int);omega,by show (n:Int)<=16;omega,by show iq 0;unfold iq;omega,rfl,hp⟩;rw[he,show (((1:Nat):Int)==1)=true from rfl,bT (dB _ _),bT (aQd h hs g _ _ q)];rfl
theorem yH(hk:m.kind=2)(h:Bf f s m.root r)(hn:n<=16)(he:n % 2=1)(hr:r.kind=1)(hl:r.level=n)(h2:n2<16):qc (lS m) (r_ (cl n2) (cl n) f q)=(.ok { jr with session:=n2,payload:=r.payload },r_ (cl (n2+1)) (cl n) f q):=by
 rw[lY (oG (.inl hk)) hn];unfold pO;rw[if_neg (by omega),if_pos hk];unfold Ry;rw[bT (aJq h _ _ q),hr,hl,he,show n+1-1=n from by omega,show ((1:Int)==1)=true from rfl,show ((n:Int)==(n:Int))=true from beq_self_eq_true _,show (bif true then true else false)=true from rfl,bT (dB _ _)];rw[show (((1:Nat):Int)==0)=false from rfl,show (bif false then rW n else ai.ret ())=ai.ret () from rfl,ai.NT];unfold KP;rw[bT (aKH (by omega) (cl n) f q),decide_eq_true (by omega),bT (dB _ _),bT (P_ h2 (cl n) f q)];rfl
theorem aGv(hk:m.kind=2)(h:Bf f s m.root r)(hn:n<=16)(hr:(bif r.kind==1 then r.level==((n+1-n % 2:Nat):Int) else false)=false):qc (lS m) (r_ c2 (cl n) f q)=(.error 14,r_ c2 (cl n) f q):=by
 rw[lY (oG (.inl hk)) (by omega)];unfold pO;rw[if_neg (by omega),if_pos hk];unfold Ry;rw[bT (aJq h _ _ q),hr];exact yF (vU _ _)
end
end Pv
namespace Pv
theorem aDM(a:Act)(h:a.tmps.size=39){ds:List Deferred}(hd:a.defers=ds):∃ u0 u1 u2 u3 u4 u5 u6 u7 u8 u9 u10 u11 u12 u13 u14 u15 u16 YU YT YS u20 u21 u22 u23 u24 u25 u26 u27 u28 u29 u30 u31 u32 u33 u34 u35 u36 u37 u38,a={ tmps:=#[u0,u1,u2,u3,u4,u5,u6,u7,u8,u9,u10,u11,u12,u13,u14,u15,u16,YU,YT,YS,u20,u21,u22,u23,u24,u25,u26,u27,u28,u29,u30,u31,u32,u33,u34,u35,u36,u37,u38],defers:=ds }:=by
 obtain⟨⟨L⟩,d⟩:=a
 obtain rfl:d=ds:=hd
 have hL:L=(List.range 39).map fun i=>L.getD i undef:=by
  apply List.ext_getElem
  ·simpa using h
  ·intro i h1 h2;rw[List.getElem_map,List.getElem_range,zG,zH h1];rfl
 exact⟨L.getD 0 undef,L.getD 1 undef,L.getD 2 undef,L.getD 3 undef,L.getD 4 undef,L.getD 5 undef,L.getD 6 undef,L.getD 7 undef,L.getD 8 undef,L.getD 9 undef,L.getD 10 undef,L.getD 11 undef,L.getD 12 undef,L.getD 13 undef,L.getD 14 undef,L.getD 15 undef,L.getD 16 undef,L.getD 17 undef,L.getD 18 undef,L.getD 19 undef,L.getD 20 undef,L.getD 21 undef,L.getD 22 undef,L.getD 23 undef,L.getD 24 undef,L.getD 25 undef,L.getD 26 undef,L.getD 27 undef,L.getD 28 undef,L.getD 29 undef,L.getD 30 undef,L.getD 31 undef,L.getD 32 undef,L.getD 33 undef,L.getD 34 undef,L.getD 35 undef,L.getD 36 undef,L.getD 37 undef,L.getD 38 undef,congrArg (fun l=>({ tmps:=⟨l⟩,defers:=d }:Act)) hL⟩
theorem dw.aJJ{A:jk}{s:St}{a:Act}{w:World}{env:Env}(h:dw A s a w env)(a':Act)(t':List (Nat×Option Bool×PV))(hs:a'.tmps.size=a.tmps.size)(ht:∀ t g pv,find t' t=some (g,pv)->g=none/\∃ v,a'.tmps[t]?=some v/\RV (aU A w env) pv v):dw { A with ds:=a'.defers } ⟨t',s.o⟩ a' w env:=
 { gm:=h.gm,size:=hs.trans h.size,dom:=h.dom,jf:=h.jf,live:=h.live,inj:=h.inj,tmps:=fun t g pv hf _=>(ht t g pv hf).2,defers:=rfl,und:=fun t pv hf=>(by cases (ht t _ pv hf).1),jo:=h.jo,dev:=h.dev }
def opC(m:ji):Array Value:=(#[.int .i64 m.kind]:Array Value)++Dh m.root++Dh m.id++Dh m.link++#[.string m.payload]++Dh m.ot++#[.int .i64 m.ol]++Dh m.xt++#[.int .i64 m.xl,.int .i64 m.bn,.string m.bc]++Dh m.bt
theorem aTd{C:Ctx}{m:ji}{xs:List Value}(h:RL C (zk m) xs):xs=(opC m).toList/\m.id.length=16/\m.bt.length=16:=by
 unfold zk at h
 cases h with|cons k0 h=>cases h with|cons k1 h=>cases h with|cons k2 h=>cases h with|cons k3 h=>cases h with|cons k4 h=>cases h with|cons k5 h=>cases h with|cons k6 h=>cases h with|cons k7 h=>cases h with|cons k8 h=>cases h with|cons k9 h=>cases h with|cons k10 h=>cases h with|cons k11 h=>
  cases h;cases k0;cases k4;cases k6;cases k8;cases k9;cases k10
  cases k1 with|bs k1=>cases k2 with|bs k2=>cases k3 with|bs k3=>cases k5 with|bs k5=>cases k7 with|bs k7=>cases k11 with|bs k11=>
   exact⟨by simp[opC,Dh],k2,k11⟩
structure yc(m:ji):Prop where
 root:m.root.length=16
 id:m.id.length=16
 link:m.link.length=16
 ot:m.ot.length=16
 xt:m.xt.length=16
 bt:m.bt.length=16
theorem bBb(C:Ctx){m:ji}(h:yc m):RL C (zk m) (opC m).toList:=by
 have e:(opC m).toList=[.int .i64 m.kind]++(m.root.map o7++(m.id.map o7++(m.link.map o7++([.string m.payload]++(m.ot.map o7++([.int .i64 m.ol]++(m.xt.map o7++([.int .i64 m.xl]++([.int .i64 m.bn]++([.string m.bc]++(m.bt.map o7++[]))))))))))):=by
  simp[opC,Dh]
 rw[e];exact .cons (.lit rfl) (.cons (.bs h.root) (.cons (.bs h.id) (.cons (.bs h.link) (.cons (.lit rfl) (.cons (.bs h.ot) (.cons (.lit rfl) (.cons (.bs h.xt) (.cons (.lit rfl) (.cons (.lit rfl) (.cons (.lit rfl) (.cons (.bs h.bt) .nil)))))))))))
theorem aJe:u_ Tryz.prog 31 102:=⟨⟨_,Tryz.underlying31,rfl⟩,by kernel_rfl⟩
theorem qZ{m:ji}(h:yc m):(opC m).size=102:=by
 unfold opC;simp only[Array.size_append,aUk,h.root,h.id,h.link,h.ot,h.xt,h.bt,List.size_toArray,List.length_cons,List.length_nil]
theorem aSv{C:Ctx}:∀ {l m:List PC} {xs:List Value},RL C (l++m) xs->∃ ys zs,xs=ys++zs/\RL C l ys/\RL C m zs
 |[],m,xs,h=>⟨[],xs,rfl,.nil,h⟩
 | c::l,m,xs,h=>by
  cases h with
  |@cons _ _ _ xa xb h1 h2=>
   obtain⟨ys,zs,rfl,h3,h4⟩:=aSv h2
   exact⟨xa++ys,zs,(List.append_assoc ..).symm,.cons h1 h3,h4⟩
def AA(hd:Value)(m:ji)(f:Int):Array Value:=(#[hd]:Array Value)++opC m++#[.int .i64 f]
theorem Pg{C:Ctx}{hd:Value}{m:ji}{f:Int}{xs:List Value}(h:RL C (.lit hd::jw m f) xs):xs=(AA hd m f).toList:=by
 have e:jw m f=zk m++[.lit (.int .i64 f)]:=rfl;rw[e] at h
 cases h with
 | cons k h=>
  cases k;obtain⟨ys,zs,rfl,h1,h2⟩:=aSv h;rw[(aTd h1).1]
  cases h2 with
  |cons k2 h2=>
   cases k2;cases h2;simp[AA]
theorem PZ{C:Ctx}{hd:Value}(hdv:R C .dv [hd]){m:ji}(h:yc m)(f:Int):RL C (.dv::jw m f) (AA hd m f).toList:=by
 have e:(AA hd m f).toList=[hd]++((opC m).toList++[.int .i64 f]):=by simp[AA]
 rw[e];exact .cons hdv ((bBb C h).append (.cons (xs:=[_]) (.lit rfl) .nil))
structure R3(m:ji)(hd:Value)(g g3:Nat)(ds:List Deferred)(w1:World)(a:Act)(W:World)(go:Nat):Prop where
 sz:a.tmps.size=39
 ds:a.defers=ds
 t0:a.tmps[0]?=some hd
 t1:a.tmps[1]?=some (.pointer (some ⟨g,0,none⟩))
 t3:a.tmps[3]?=some (.pointer (some ⟨g3,0,none⟩))
 t4:a.tmps[4]?=some (.pointer (some ⟨go,0,none⟩))
 gm:dm (fun b=>b=g) w1 W
 new:w1.heap.size<=go/\go<W.heap.size
 bg:au W g 31 (opC m)
 bo:au W go 122 (AA hd m 0)
def r3T(hd:Value)(g3:Nat):List (Nat×Option Bool×PV):=[(0,none,l9 hd),(1,none,dh (.pt 900001 0 0)),(3,none,l9 (.pointer (some ⟨g3,0,none⟩)))]
def r3S(m:ji)(hd:Value)(g3:Nat):St:=⟨r3T hd g3,[(900001,none,0,.box 31 (zk m))]⟩
def r3E(m:ji)(hd:Value)(g3:Nat):St:=⟨(4,none,dh (.pt 3003 0 0))::r3T hd g3,[(3003,none,0,.box 122 (.lit hd::jw m 0)),(900001,none,0,.box 31 (zk m))]⟩
structure R3A(g:Nat)(w1:World)(ds:List Deferred)(A:jk):Prop where
 nt:A.nt=Tryz.f45.ntmps
 ok:lw Tryz.prog (fun _=>True) A
 d_:∀ l,¬A.d_ l
 S:∀ b,A.S b->b=g
 w0:A.w0=w1
 ds:A.ds=ds
 eg:A.ext 900001=some (gY g)
theorem PH(m:ji)(hml:yc m)(w1:World)(g g3:Nat)(hd:Value)(h1:hd.oneCell'=true)(hB:au w1 g 31 (opC m))(a:Act)(h39:a.tmps.size=39)(t0:a.tmps[0]?=some hd)(t1:a.tmps[1]?=some (.pointer (some ⟨g,0,none⟩)))(t3:a.tmps[3]?=some (.pointer (some ⟨g3,0,none⟩))) :
  ∃ A:jk,R3A g w1 a.defers A/\o6 A (r3S m hd g3) a w1:=by
 have Aa:∀ b,SX [⟨900001,31,zk m,zk m⟩] (fun _=>g) Dv.non b->b=g:=by
  rintro b (h|⟨o,ho,rfl⟩)
  ·exact h.elim
  ·rfl
 have h3:∀ o∈[(⟨900001,31,zk m,zk m⟩:Ob)],(fun _=>True) ((fun _=>g) o.x)/\∃ cs,au w1 ((fun _=>g) o.x) o.t cs/\RL { w:=w1,ok:=fun _=>False,env:=fun _=>none } o.l cs.toList:=fun o ho=>by
  obtain rfl:=List.mem_singleton.1 ho
  exact⟨trivial,_,hB,bBb _ hml⟩
 have h4:∀ o∈[(⟨900001,31,zk m,zk m⟩:Ob)],∀ o'∈[(⟨900001,31,zk m,zk m⟩:Ob)],(fun _:Nat=>g) o.x=(fun _:Nat=>g) o'.x->o.x=o'.x:=fun o ho o' ho' _=>by
  obtain rfl:=List.mem_singleton.1 ho
  obtain rfl:=List.mem_singleton.1 ho'
  rfl
 have h5:mi { w:=w1,ok:=fun _=>False,env:=o5 [⟨900001,31,zk m,zk m⟩] (fun _=>g) none Dv.non.hd } [l9 hd,dh (.pt 900001 0 0)] [hd,.pointer (some ⟨g,0,none⟩)]:=
  ⟨.w (.one (.lit h1)),.w (.one (.pt ⟨_,_,rfl⟩ ⟨0,_,rfl,Nat.le_refl _,fun _=>⟨_,rfl,rfl⟩⟩)),trivial⟩
 obtain⟨hA,env,hE⟩:=aEf (P:=Tryz.prog) (I:=fun _=>True) (fn:=Tryz.f45) (os:=[⟨900001,31,zk m,zk m⟩]) (O:=fun _=>none) (dev:=none) (d_:=fun _=>False) (args:=[l9 hd,dh (.pt 900001 0 0)])
  (w:=w1) (ok0:=fun _=>False) (vs:=[hd,.pointer (some ⟨g,0,none⟩)]) (bl:=fun _=>g) (D:=Dv.non) (X0:=fun _=>True) rfl rfl (fun _ _=>trivial) (fun b hb=>⟨by rw[Aa b hb];exact hB.lt,fun h=>h⟩)
  (n_.non _) (fun _ _ _ _ _ _ h=>h.elim) rfl (fun p hp=>by cases hp) (fun _=>⟨fun _ h=>h,fun _ _ _ h=>h⟩) h3 h4 h5
 refine⟨⟨w1,SX [⟨900001,31,zk m,zk m⟩] (fun _=>g) Dv.non,fun _=>False,Tryz.f45.ntmps,mr [⟨900001,31,zk m,zk m⟩] (fun _=>g) none Dv.non.hd,Dv.non,fun _=>False,fun _=>True,a.defers⟩,
  ⟨rfl,⟨hA.mem,hA.sub,hA.old,hA.step,hA.dvh,hA.BR⟩,fun _ h=>h,Aa,rfl,rfl,rfl⟩,env,hE.aJJ a _ ?_ ?_⟩
 ·have:=hE.size;rw[h39];exact this.symm
 ·intro t gd pv hf;obtain⟨v1,e1,r1⟩:=hE.tmps 1 none _ rfl trivial
  have e1':v1=.pointer (some ⟨g,0,none⟩):=by simpa using e1.symm
  subst e1'
  by_cases h0:0=t
  ·subst h0;rw[r3T,aI] at hf;cases hf
   exact⟨rfl,_,t0,.w (.one (.lit h1))⟩
  ·rw[r3T,aJ _ _ h0] at hf
   by_cases h2:1=t
   ·subst h2;rw[aI] at hf;cases hf
    exact⟨rfl,_,t1,r1⟩
   ·rw[aJ _ _ h2] at hf
    by_cases h3:3=t
    ·subst h3;rw[aI] at hf;cases hf
     exact⟨rfl,_,t3,.w (.one (.lit rfl))⟩
    ·rw[aJ _ _ h3] at hf;cases hf
theorem PI{m:ji}{hd:Value}{g g3:Nat}{ds:List Deferred}{w1:World}{A:jk}(hA:R3A g w1 ds A){a:Act}{W:World}(h:o6 A (r3E m hd g3) a W):∃ go,R3 m hd g g3 ds w1 a W go:=by
 obtain⟨env,hE⟩:=h;obtain⟨v0,e0,r0⟩:=hE.tmps 0 none _ rfl trivial;obtain⟨v3,e3,r3⟩:=hE.tmps 3 none _ rfl trivial;obtain⟨g1,c1,e1,x1,b1,r1⟩:=o6.Aw hE (t:=1) (x:=900001) rfl rfl;obtain⟨go,c4,e4,x4,b4,r4⟩:=o6.Aw hE (t:=4) (x:=3003) rfl rfl
 have hg:g1=g:=by
  have:=(hE.jo 900001 _ hA.eg).2.now x1;exact (gG (b:=g1) (g:=g) (by rw[<-this];rfl))
 subst hg;have hlv:=hE.live 3003 0 _ go x4 rfl
 have hnew:w1.heap.size<=go:=by
  rcases hlv.2 with h|⟨_,h⟩
  ·rw[hA.w0] at h;exact h
  ·cases h
 have ec1:c1=opC m:=by apply Array.ext';exact (aTd r1).1
 have ec4:c4=AA hd m 0:=by apply Array.ext';exact Pg r4
 subst ec1 ec4;have hs:=hE.size;rw[hA.nt] at hs
 refine⟨go,⟨hs,hE.defers.trans hA.ds,e0.trans (congrArg some r0.dn),e1,e3.trans (congrArg some r3.dn),e4,?_,⟨hnew,b4.lt⟩,b1,b4⟩⟩
 have:=hE.gm;rw[hA.w0] at this;exact this.mono fun b _ hb=>hA.S b hb
theorem aXq{m:ji}{O:List Acc->Option je}(h:qN (go O (kR m) []).2):1<=m.kind/\m.kind<=7:=by
 unfold kR at h;rw[wS] at h
 cases hb:(bif decide (m.kind>=1) then decide (m.kind<=7) else false) with
 |false=>
  exfalso;rw[hb] at h
  exact h (rO 1) ((uD _ _ _).subset (by show _∈_++[_];simp)) rfl
 | true=>
  cases h1:decide (m.kind>=1) with
  |false=>rw[h1] at hb;cases hb
  |true=>
   rw[h1] at hb
   exact⟨of_decide_eq_true h1,of_decide_eq_true hb⟩
theorem bBc(m:ji):(opC m)[0]?=some (.int .i64 m.kind):=by
 unfold opC
 repeat rw[Array.getElem?_append_left (by simp only[Array.size_append,List.size_toArray,List.length_cons,List.length_nil];omega)]
 rfl
theorem bBa(hd:Value){m:ji}(h:yc m)(f:Int):(AA hd m f)[103]?=some (.int .i64 f):=by
 unfold AA;rw[Array.getElem?_append_right (by simp[qZ h])];simp[qZ h]
theorem J9(hd:Value){m:ji}(h:yc m)(f f':Int):(AA hd m f).setIfInBounds 103 (.int .i64 f')=AA hd m f':=by
 have hs:((#[hd]:Array Value)++opC m).size=103:=by simp[qZ h]
 unfold AA;rw[Array.setIfInBounds_append_right (by omega)];simp[qZ h]
theorem KX(m:ji)(hm:ut m)(n:Nat)(hn:n<=16)(hk:1<=m.kind/\m.kind<=7):uM Tryz.prog a_ ny (Ti m.kind) um (jw m n) (pO m n) [] (fun o=>.w (.agg (g_ o))):=by
 have hc:m.kind=1\/m.kind=2\/m.kind=3\/m.kind=4\/m.kind=5\/m.kind=6\/m.kind=7:=by omega
 unfold pO Ti
 rcases hc with h|h|h|h|h|h|h<;>rw[h]
 ·exact aXl m n (by omega) hm.root hm.payload
 ·exact bBu m n (by omega) hm.root
 ·exact bBo m n (by omega) hm.root hm.payload
 ·exact bBd m n (by omega)
 ·exact He m n (by omega) hm.root hm.link hm.ot hm.ol
 ·exact aVt m n (by omega) hm.root hm.link
 ·exact aYc m n (by omega) hm.root hm.link hm.xt hm.xl hm.bn hm.bc
theorem aAp{α:Type}(p:ai α):p.bind .ret=p:=by
 induction p with
 |ret a=>rfl
 |ask a k ih=>exact congrArg (ai.ask a) (funext fun r=>ih r)
theorem U9{C:Ctx}{o:jd}{v:Value}(h:RV C (.w (.agg (g_ o))) v):v=.agg (jq o)/\qj o:=by
 cases h with
 | w h=>cases h with
  |@agg _ cs h=>
   obtain⟨h1,h2⟩:=PT h
   exact⟨congrArg Value.agg (Array.ext' h1),h2⟩
theorem aWj(k:Int)(args:Array Value)(w:World):(callFunc (Ti k) args).run Tryz.prog w=.ok (.enter (Ti k) args) w:=by
 unfold Ti
 repeat' split
 all_goals kernel_rfl
theorem aMe(m:ji)(hm:ut m)(hml:yc m)(w:World)(g:Nat)(D:Dv)(X0:Nat->Prop)(hB:au w g 31 (opC m))(hM:∀ w',dm (fun b=>D.S b\/b=g) w w'->a_ w')(hold:∀ b,D.S b->b<w.heap.size)
  (hst:n_ Tryz.prog D (fun h=>h <+: (go D.O (bW m) []).2)) (AV:∀ l X Y w w' chain,D.pan l X w chain->dm X w w'->(∀ b,Y b->X b)->D.pan l Y w' chain) (hRe:Ei D) (Dq:OB D.O) (hinv:D.inv [] X0 w) (hX0:X0 g) :
  Calls Tryz.prog 45 #[D.hd,.pointer (some ⟨g,0,none⟩)] w fun e w'=>dm (fun b=>D.S b\/b=g) w w'/\aRx m D X0 e w':=by
 have hmf:∀ (fn:Fn) (first cap:Array Value) (w:World),(Instr.makeFunc fn first cap).run Tryz.prog w=.ok (.func fn first cap) w:=fun _ _ _ _=>rfl;have HH:=hide (And.intro hB (And.intro hM (And.intro hold (And.intro hst (And.intro AV (And.intro hRe (And.intro Dq (And.intro hinv hX0))))))));clear hB hM hold hst AV hRe Dq hinv hX0;generalize hhd:D.hd=hd
 go_enter_defers Tryz.func45,Tryz.ntmps45
 go_upto_region 2 with fail
 generalize hW0:World.alloc _ (.cells _ 40)=W0
 have z1:Ext w W0:=by
  rw[<-hW0]
  repeat' (first|(with_reducible exact dm.refl _ _)|(with_reducible exact Ext.refl _)|(with_reducible assumption)|(with_reducible refine dm.alloc ?_ _)|(with_reducible refine dm.drew ?_)|(with_reducible refine dm.drewN ?_ _)|(with_reducible refine dm.setCell ?_ ?_ _)|(with_reducible refine Ext.alloc ?_ _)|(with_reducible refine Ext.drew ?_)|(with_reducible refine Ext.drewN ?_ _)|(with_reducible refine Ext.setCell ?_ ?_ _)|(simp;done)|(simp;omega)|omega)
 have z2:au W0 w.heap.size 40 (jq jr):=by
  rw[<-hW0];exact au.new' _ _ _ (by simp)
 clear hW0;have HZ:=hide (And.intro z1 z2);clear z1 z2
 go_wp2_with (refine dH (ty:=31) (t:=31) (x:=.tmp 1) rfl rfl aJe rfl (cs:=opC m) ((aA HH).1.ext (aA HZ).1) (qZ hml) ?_)
 have hx0:=aA HZ;obtain⟨hB,hM,hold,hst,AV,hRe,Dq,hinv,hX0⟩:=aA HH;have hS:n_ Tryz.prog (gV ny D) (fun h=>h <+: (go (jV ny D.O) (lS m) []).2):=aIb hst fun l c hN hs=>aOi _ _ _ _ _ _ List.nil_prefix hN hs;have Ea:(gV ny D).inv [] (fun b=>X0 b\/b=w.heap.size) W0:=⟨D.grow _ _ _ _ _ hinv (hx0.1.mono fun _ _ h=>h.elim) (fun b hb=>hb.imp id fun e=>by subst e;exact⟨Nat.le_refl _,hx0.2.lt⟩),by simp[jV],fun _ h=>by cases h⟩;have hL0:Left (jV ny D.O) (lS m) [] (lS m) []:=Left.start _ _ _;have hL1:=Left.step (q:=kR m) hL0
 refine (bEj m (jV ny D.O) [] (aTw Dq) (aTv ny D.O) W0 (fun _=>False) [.agg (opC m)] (fun _=>0) (gV ny D) (fun b=>X0 b\/b=w.heap.size)
  (fun w' hc=>hM w' (hx0.1.trans' hc (fun _ _ h=>h.elim) (fun i _ h=>.inl (h.elim id (fun⟨o,ho,_⟩=>by cases ho))))) (fun b hb=>⟨Nat.lt_of_lt_of_le (hold b (hb.elim id (fun⟨o,ho,_⟩=>by cases ho))) hx0.1.size,fun h=>h⟩)
  (hS.mono fun h hh hO=>(Left.d_ hL0 h hh.1 hh.2 hO).2) (sF AV) rfl (fun p hp=>by cases hp;exact Ea) (fun h=>by cases h) (fun o ho=>by cases ho) (fun o ho=>by cases ho) ⟨.w (.agg (bBb _ hml)),trivial⟩).mono ?_
 rintro e w1 ⟨hc1,hq⟩;have hcs:dm (fun b=>D.S b\/b=g) w w1:=hx0.1.trans' hc1 (fun _ _ h=>h.elim) (fun i _ h=>.inl (h.elim id (fun⟨o,ho,_⟩=>by cases ho)));have hn3:∀ {X:Nat->Prop},¬SX [] (fun _=>0) (gV ny D) w.heap.size:=fun h=>h.elim ((gV ny D).notS _ _ _ _ Ea (.inr rfl)) (fun⟨o,ho,_⟩=>by cases ho);have hB3:au w1 w.heap.size 40 (jq jr):=hx0.2.gm hc1 (hn3 (X:=X0));rcases hq with⟨val,rfl,_,_,hdv⟩|⟨chain,l,rfl,hs1,FN,hp1⟩;rotate_left 1
 ·exact wK hRe AV (fun b h=>.inl h) (.inr rfl) (Nat.le_refl _) hp1 (Left.d_ hL0 l hs1.1 hs1.2 FN).2 FN hB3 (dN jL) rfl hcs
 have hi1:=hdv _ rfl;dsimp only at hi1;have hkd:=aXq hi1.2.2;have Qj:au w1 g 31 (opC m):=(hB.ext hx0.1).gm hc1 (fun h=>h.elim ((gV ny D).notS _ _ _ _ Ea (.inl hX0)) (fun⟨o,ho,_⟩=>by cases ho))
 have h1c:hd.oneCell'=true:=by rw[<-hhd];exact D.one
 generalize hl1:(go (jV ny D.O) (kR m) []).2=la at *;have H1:=hide (And.intro hi1 (And.intro hcs (And.intro hB3 (And.intro hkd (And.intro Qj (And.intro hS hL1))))));clear hx0 hB hM hold hst AV hRe Dq hinv hX0 hS Ea hL0 hL1 hc1 hcs hn3 hB3 hdv hi1 hkd Qj hl1 HZ
 go_upto_region 3 with fail
 refine (fun (h:∀ a0:Act,a0.tmps.size=39->a0.defers=TA w.heap.size->a0.tmps[0]?=some hd->a0.tmps[1]?=some (.pointer (some ⟨g,0,none⟩))->a0.tmps[3]?=some (.pointer (some ⟨w.heap.size,0,none⟩))->Code.wp _ _ _ a0 w1)=>h _ rfl rfl rfl rfl rfl) ?_;intro a0 h39 hds t0 t1 t3;obtain⟨A,hA,hg⟩:=PH m hml w1 g w.heap.size hd h1c (aA H1).2.2.2.2.1 a0 h39 t0 t1 t3;rw[hds] at hA;have hn:=hA.nt;have hI:=hA.ok;have M:l_ Tryz.prog (fun _=>True) (find ([]:List (Nat×Spec))):=zZ;refine (show iw Tryz.prog A (r3S m hd w.heap.size) _ (Exit.then _ _) from ?_) a0 w1 hg (fun chain a w _ ⟨l,hs,_⟩=>(hA.d_ l hs).elim);refine aQ M hI hn (by rfl) (by kernel_rfl) ?_ ?_
 ·simp
 intro a W hgW
 have aBL:o6 A (r3E m hd w.heap.size) a W:=by
  refine (hgW.reset (kT:=[4,0,1,3]) (kO:=[3003,900001]) (by rfl) (by simp)).same ?_ ?_
  ·exact .cons rfl (.cons rfl (.cons rfl (.cons rfl .nil)))
  ·exact .cons (.box rfl) (.cons (.box rfl) .nil)
 obtain⟨yt,R⟩:=PI hA aBL;clear hgW aBL hg hA hn hI M A h39 hds t0 t1 t3 a0;obtain⟨u0,u1,u2,u3,u4,u5,u6,u7,u8,u9,u10,u11,u12,u13,u14,u15,u16,YU,YT,YS,u20,u21,u22,u23,u24,u25,u26,u27,u28,u29,u30,u31,u32,u33,u34,u35,u36,u37,u38,ea⟩:=aDM a R.sz R.ds;have k0:=R.t0;have k1:=R.t1;have k3:=R.t3;have k4:=R.t4;have HR:=hide (And.intro R.gm (And.intro R.new (And.intro R.bg R.bo)));clear R;subst ea
 obtain rfl:u0=hd:=by simpa using k0
 obtain rfl:u1=.pointer (some ⟨g,0,none⟩):=by simpa using k1
 obtain rfl:u3=.pointer (some ⟨w.heap.size,0,none⟩):=by simpa using k3
 obtain rfl:u4=.pointer (some ⟨yt,0,none⟩):=by simpa using k4
 clear k0 k1 k3 k4;have mk:=Je W yt;have i0:=Jm W yt;have i1:=Jl W yt;have i2:=Jk W yt;have i3:=Jj W yt;have i4:=Ji W yt;have i5:=Jh W yt;have i6:=Jg W yt;unfold yj at i0 i1 i2 i3 i4 i5 i6;dsimp only[Exit.then]
 go_upto_region 5 with fail
 clear mk i0 i1 i2 i3 i4 i5 i6;have hmp:(tu W yt 7).heap[W.heap.size]?=some (.map (BD yt).toArray 7):=(MapKept.heap_alloc W _).1;have x4:Ext W (tu W yt 7):=(Ext.refl W).alloc _;generalize tu W yt 7=W4 at *;obtain⟨hB,hM,hold,hst,AV,hRe,Dq,hinv,hX0⟩:=aA HH;obtain⟨hi1,hcs,hB3,hkd,Qj,hS,hl1⟩:=aA H1;obtain⟨hcW,hnw,hbg,hbo⟩:=aA HR;have hlm:W.heap.size<W4.heap.size:=lt_of_heap hmp;have lg:=hB.lt;have l1:=hcs.size;have l2:=hcW.size;have c14:dm (fun b=>b=g) w1 W4:=hcW.ext x4;obtain⟨X4,Vg⟩:∃ X:Nat->Prop,X=fun b=>(X0 b\/b=w.heap.size)\/(w1.heap.size<=b/\b<W4.heap.size):=⟨_,rfl⟩
 have xg:X4 g:=by rw[Vg];exact .inl (.inl hX0)
 have x3:X4 w.heap.size:=by rw[Vg];exact .inl (.inr rfl)
 have xo:X4 yt:=by rw[Vg];exact .inr ⟨hnw.1,by omega⟩
 have xm:X4 W.heap.size:=by rw[Vg];exact .inr ⟨by omega,hlm⟩
 have xx:∀ b,X0 b->X4 b:=fun b hb=>by rw[Vg];exact .inl (.inl hb)
 have hi4:(gV ny D).inv la X4 W4:=(gV ny D).grow _ _ _ _ _ hi1 (c14.mono fun b _ e=>e ▸ .inl hX0) (fun b hb=>by rw[Vg] at hb;exact hb);have WQ:dm (fun b=>D.S b\/b=g) w W4:=hcs.trans' c14 (fun _ _ h=>h) (fun _ _ e=>.inr e);have h3W:au W4 w.heap.size 40 (jq jr):=hB3.gm c14 (by omega);have h6W:au W4 g 31 (opC m):=hbg.ext x4;have hoW:au W4 yt 122 (AA u0 m 0):=hbo.ext x4
 have hng:¬yt=g:=by omega
 have hgo:w.heap.size<yt/\yt<W.heap.size:=by
  have:=hB3.lt;omega
 clear hnw hbg hbo hcW c14 x4 hcs hB3 Qj hi1 HR H1 l1 l2;have hL0:Left (jV ny D.O) (lS m) [] (lS m) []:=Left.start _ _ _;have hL1:Left (jV ny D.O) (lS m) [] ((ai.jc 3 16).bind fun n=>pO m n) la:=hl1;have hL2:=Left.step (q:=ai.jc 3 16) hL1;have hle:=Tn (jV ny D.O) (aDy 3 16) la;have hns:∀ b:Nat,X4 b->¬SX [] (fun _=>0) (gV ny D) b:=fun _ hx h=>h.elim ((gV ny D).notS _ _ _ _ hi4 hx) (fun⟨o,ho,_⟩=>by cases ho);have HA:=hide (And.intro hM (And.intro hold (And.intro hst (And.intro AV (And.intro hRe (And.intro Dq hX0))))));have HB:=hide (And.intro hS (And.intro hL1 (And.intro hL2 (And.intro hle hns))));have HC:=hide (And.intro hmp (And.intro xg (And.intro x3 (And.intro xo (And.intro xm (And.intro xx (And.intro hi4 (And.intro WQ (And.intro h3W (And.intro h6W hoW))))))))));clear hB hM hold hst AV hRe Dq hinv hX0 hS hL0 hL1 hL2 hle hns hmp xg x3 xo xm xx hi4 WQ h3W h6W hoW Vg hl1 HH
 go_wp2_with fail
 obtain⟨hM,hold,hst,AV,hRe,Dq,hX0⟩:=aA HA;obtain⟨hS,hL1,hL2,hle,hns⟩:=aA HB;obtain⟨hmp,xg,x3,xo,xm,xx,hi4,WQ,h3W,h6W,hoW⟩:=aA HC
 refine (aDw (I:=a_) bP 3 16 (by decide) (jV ny D.O) la W4 (fun _=>False) [u0,.int .i64 3,.int .i64 16] (fun _=>0) (gV ny D) X4
  (fun w' hc=>hM w' (WQ.trans' hc (fun _ _ h=>h) (fun i _ h=>.inl (h.elim id (fun⟨o,ho,_⟩=>by cases ho))))) (fun b hb=>⟨Nat.lt_of_lt_of_le (hold b (hb.elim id (fun⟨o,ho,_⟩=>by cases ho))) WQ.size,fun h=>h⟩)
  (hS.mono fun h hh hO=>(Left.d_ hL1 h hh.1 hh.2 hO).2) (sF AV) rfl (fun p hp=>by cases hp;exact hi4) (fun h=>by cases h) (fun o ho=>by cases ho) (fun o ho=>by cases ho) ⟨.w (.one (.dv h1c ⟨0,D.hd,rfl,Nat.le_refl _,fun _=>hhd.symm⟩)),.w (.one (.lit rfl)),.w (.one (.lit rfl)),trivial⟩).mono ?_
 rintro e w5 ⟨hc5,hq⟩;have Yi:dm (fun b=>D.S b\/b=g) w w5:=WQ.trans' hc5 (fun _ _ h=>h) (fun i _ h=>.inl (h.elim id (fun⟨o,ho,_⟩=>by cases ho)));have h35:au w5 w.heap.size 40 (jq jr):=h3W.gm hc5 (hns _ x3);rcases hq with⟨val,rfl,hv,_,hdv⟩|⟨chain,l,rfl,hs1,FN,hp1⟩;rotate_left 1
 ·exact wK hRe AV xx x3 (Nat.le_refl _) hp1 (Left.d_ hL1 l hs1.1 hs1.2 FN).2 FN h35 (dN jL) rfl Yi
 have hi5:=hdv _ rfl;dsimp only at hi5;obtain⟨n,lb,hq2⟩:∃ n lb,go (jV ny D.O) (ai.jc 3 16) la=(n,lb):=⟨_,_,rfl⟩;rw[hq2] at hL2 hle hi5 hv;dsimp only at hL2 hle hi5 hv
 obtain rfl:val=.int .i64 (n:Int):=RV.dn hv
 have h65:au w5 g 31 (opC m):=h6W.gm hc5 (hns _ xg);have FI:au w5 yt 122 (AA u0 m 0):=hoW.gm hc5 (hns _ xo);have Yb:w5.heap[W.heap.size]?=some (.map (BD yt).toArray 7):=(hc5.block _ (lt_of_heap hmp) (hns _ xm)).trans hmp;have d3:=FI.cell 103;rw[bBa u0 hml] at d3;have f3:=FI.frozen;have HC2:=hide (And.intro xg (And.intro x3 (And.intro xo (And.intro xx (And.intro hi5 (And.intro Yi (And.intro h35 (And.intro h65 (And.intro FI Yb)))))))));have HB2:=hide (And.intro hS (And.intro hL2 hle));clear hv hdv hc5 WQ h3W h6W hoW hmp hi4 xg x3 xo xm xx hi5 Yi h35 h65 FI Yb hM hold hst AV hRe Dq hX0 hS hL1 hL2 hle hns HC HB hq2;have xk:=aWj m.kind
 go_upto_region 6 with fail
 obtain⟨xg,x3,xo,xx,hi5,Yi,h35,h65,FI,Yb⟩:=aA HC2;have h36:au (w5.setCell ⟨yt,103,none⟩ (.int .i64 (n:Int))) w.heap.size 40 (jq jr):=h35.far (p:=⟨yt,103,none⟩) (show ¬w.heap.size=yt by omega) _;have h66:au (w5.setCell ⟨yt,103,none⟩ (.int .i64 (n:Int))) g 31 (opC m):=h65.far (p:=⟨yt,103,none⟩) (show ¬g=yt by omega) _
 have Ya:au (w5.setCell ⟨yt,103,none⟩ (.int .i64 (n:Int))) yt 122 (AA u0 m n):=by
  have:=FI.wu 103 (.int .i64 (n:Int));rw[J9 u0 hml] at this;exact this
 have c56:dm (fun b=>b=yt) w5 (w5.setCell ⟨yt,103,none⟩ (.int .i64 (n:Int))):=dm.setCell (S:=fun b=>b=yt) (p:=⟨yt,103,none⟩) (dm.refl _ _) (.inl rfl) _;have hm6:=(c56.block _ (lt_of_heap Yb) (show ¬W.heap.size=yt by omega)).trans Yb;generalize w5.setCell ⟨yt,103,none⟩ (.int .i64 (n:Int))=w6 at *;have lk:=Jf hm6 hkd;unfold yj at lk;have d6:=h66.cell 0;rw[bBc] at d6;have Vb:(gV ny D).inv lb X4 w6:=(gV ny D).grow _ _ _ _ _ hi5 (c56.mono fun b _ e=>e ▸ xo) (fun b hb=>.inl hb);have WP:dm (fun b=>D.S b\/b=g) w w6:=Yi.trans' c56 (fun _ _ h=>h) (fun i hi e=>by omega);have HC3:=hide (And.intro xg (And.intro x3 (And.intro xo (And.intro xx (And.intro Vb (And.intro WP (And.intro h36 (And.intro h66 Ya))))))));clear xg x3 xo xx hi5 Yi h35 h65 FI Yb h36 h66 Ya c56 hm6 Vb WP HC2 d3 f3;generalize hmk:Ti m.kind=F at *
 go_wp2_with fail
 obtain⟨hM,hold,hst,AV,hRe,Dq,hX0⟩:=aA HA;obtain⟨hS,hL2,hle⟩:=aA HB2;obtain⟨xg,x3,xo,xx,Vb,WP,h36,h66,Ya⟩:=aA HC3
 have hL3:Left (jV ny D.O) (lS m) [] ((pO m n).bind ai.ret) lb:=by
  rw[aAp];exact hL2
 subst hmk
 refine (KX m hm n hle hkd (jV ny D.O) lb (aTw Dq) (aTv ny D.O) w6 (fun _=>False) [.pointer (some ⟨yt,0,none⟩)] yt (gV ny D) X4
  (fun w' hc=>hM w' (WP.trans' hc (fun _ _ h=>h) (fun i hi h=>h.elim .inl (fun e=>by omega)))) (fun b hb=>⟨hb.elim (fun h=>Nat.lt_of_lt_of_le (hold b h) WP.size) (fun e=>e ▸ Ya.lt),fun h=>h⟩)
  (hS.mono fun h hh hO=>(Left.d_ hL3 h hh.1 hh.2 hO).2) (sF AV) rfl Vb xo ⟨_,Ya,PZ (.dv h1c ⟨0,D.hd,rfl,Nat.le_refl _,fun _=>hhd.symm⟩) hml n⟩ ⟨.w (.one (.pt ⟨_,_,rfl⟩ ⟨0,_,rfl,Nat.le_refl _,fun _=>⟨_,rfl,rfl⟩⟩)),trivial⟩).mono ?_
 rintro e w7 ⟨D6,hq⟩;have hn7:¬SD yt (gV ny D) w.heap.size:=fun h=>h.elim ((gV ny D).notS _ _ _ _ Vb x3) (fun e=>by omega);have c07:dm (fun b=>D.S b\/b=g) w w7:=WP.trans' D6 (fun _ _ h=>h) (fun i hi h=>h.elim .inl (fun e=>by omega));have h37:au w7 w.heap.size 40 (jq jr):=h36.gm D6 hn7;rcases hq with⟨val,rfl,hv,_,Va⟩|⟨chain,l,rfl,hs1,FN,hp1⟩;rotate_left 1
 ·exact wK hRe AV xx x3 (Nat.le_refl _) hp1 (Left.d_ hL3 l hs1.1 hs1.2 FN).2 FN h37 (dN jL) rfl c07
 have hL4:=hL3.2;rw[aAp] at hL4;obtain⟨o,lc,hq3⟩:∃ o lc,go (jV ny D.O) (pO m n) lb=(o,lc):=⟨_,_,rfl⟩;rw[hq3] at hL4 hv Va;dsimp only at hv Va;obtain⟨rfl,hok⟩:=U9 hv
 have hC:go D.O (bW m) []=(o,lc):=by
  unfold bW;rw[NL pU ny D.O (lS m) [] (by rw[hL4];exact Va.2.2),hL4]
 have HC4:=hide (And.intro h37 (And.intro hok (And.intro c07 (And.intro Va.1 (And.intro x3 (And.intro xx hC))))));clear hL4 hv Va hok hC h37 c07 x3 xx hn7 D6 xg xo Vb WP h36 h66 Ya hL3 hS hL2 hle hM hold hst AV hRe Dq hX0 hq3 HC3 HB2 lk d6 HA xk;generalize hoc:jq o=oc at *
 go_wp2_with (refine aT (ty:=40) (t:=40) (x:=.tmp 3) (y:=.tmp 38) rfl rfl iV rfl rfl (aA HC4).1 (dN jL) (by rw[<-hoc];exact dN (aA HC4).2.1) (by rw[<-hoc];exact kX _) ?_;intro w8 hb8 hc8 hz8;have H8:=hide (And.intro hb8 (And.intro hc8 hz8));clear hb8 hc8 hz8)
 obtain⟨b8,c8,z8⟩:=aA H8;obtain⟨h37,hok,c07,Va,x3,xx,hC⟩:=aA HC4;refine leaves_cons (f:=46) (args:=#[.pointer (some ⟨w.heap.size,0,none⟩)]) (by simp) (by simp[go_sem]) ?_;refine (bAp _ _).mono ?_;rintro e u' w9 ⟨rfl,rfl,rfl⟩
 refine⟨_,aAo _ _ w.heap.size oc (by rw[<-hoc];exact dN hok) rfl b8,c07.trans' c8 (fun _ _ h=>h) (fun i hi e=>by omega),.inl ?_⟩
 rw[hC]
 exact⟨hok,by rw[hoc],D.grow _ _ _ _ _ Va (c8.mono fun i _ e=>e ▸ x3) (fun b hb=>.inl (xx b hb))⟩
end Pv
theorem rH:u_ Tryz.prog 65 18:=⟨⟨_,Tryz.underlying65,rfl⟩,by kernel_rfl⟩
theorem QJ(b:Nat)(n:Int):Pv.Loc Tryz.prog 3 b 3 #[.int .i64 n] (.int .i64 n):=by
 refine⟨fun w hB=>?_,fun w old ho hB=>⟨w.setCell ⟨b,0,none⟩ (.int .i64 n),?_,?_,dm.setCell (S:=fun k=>k=b) (p:=⟨b,0,none⟩) (dm.refl _ _) (.inl rfl) _,by simp⟩⟩
 ·have h0:=hB.cell 0;simp only[List.getElem?_toArray,List.getElem?_cons_zero] at h0;simp[go_sem,h0]
 ·obtain⟨x,rfl⟩:∃ x,old=#[x]:=by
   obtain⟨old⟩:=old
   match old,ho with
   |[x],_=>exact⟨x,rfl⟩
  have h0:=hB.cell 0;have hf:=hB.frozen 0;simp only[List.getElem?_toArray,List.getElem?_cons_zero] at h0;simp[go_sem,h0,hf]
 ·obtain⟨x,rfl⟩:∃ x,old=#[x]:=by
   obtain⟨old⟩:=old
   match old,ho with
   |[x],_=>exact⟨x,rfl⟩
  exact hB.wu 0 _
theorem aTh(b:Nat)(n:Bool):Pv.Loc Tryz.prog 4 b 4 #[.bool n] (.bool n):=by
 refine⟨fun w hB=>?_,fun w old ho hB=>⟨w.setCell ⟨b,0,none⟩ (.bool n),?_,?_,dm.setCell (S:=fun k=>k=b) (p:=⟨b,0,none⟩) (dm.refl _ _) (.inl rfl) _,by simp⟩⟩
 ·have h0:=hB.cell 0;simp only[List.getElem?_toArray,List.getElem?_cons_zero] at h0;simp[go_sem,h0]
 ·obtain⟨x,rfl⟩:∃ x,old=#[x]:=by
   obtain⟨old⟩:=old
   match old,ho with
   |[x],_=>exact⟨x,rfl⟩
  have h0:=hB.cell 0;have hf:=hB.frozen 0;simp only[List.getElem?_toArray,List.getElem?_cons_zero] at h0;simp[go_sem,h0,hf]
 ·obtain⟨x,rfl⟩:∃ x,old=#[x]:=by
   obtain⟨old⟩:=old
   match old,ho with
   |[x],_=>exact⟨x,rfl⟩
  exact hB.wu 0 _
theorem aAt(tmps:Array Value)(w:World)(Ab Ob Nb Db:Nat)(hw:Array Value)(hs:hw.size=18)(oc:Array Value)(ho:oc.size=55)(n d9:Value)(h6:tmps.getD 6 undef=.pointer (some ⟨Ab,0,none⟩))(h7:tmps.getD 7 undef=.pointer (some ⟨Ob,0,none⟩))(h8:tmps.getD 8 undef=.pointer (some ⟨Nb,0,none⟩))(h9:tmps.getD 9 undef=.pointer (some ⟨Db,0,none⟩))
  (hA:au w Ab 65 hw) (hO:au w Ob 40 oc) (hN:au w Nb 3 #[n]) (hD:au w Db 4 #[d9]) :
  (results Tryz.f34 tmps).run Tryz.prog w=.ok (.tuple #[.agg hw,.agg oc,n,d9]) w:=by
 have a0:=iR hA rH hs;have b0:=iR hO iV ho;have n0:=hN.cell 0;have d0:=hD.cell 0;simp only[List.getElem?_toArray,List.getElem?_cons_zero] at n0 d0;simp only[Array.getD_eq_getD_getElem?] at h6 h7 h8 h9
 have n1:(loadVar 3 ⟨Nb,0,none⟩).run Tryz.prog w=.ok n w:=by simp[go_sem,n0]
 have d1:(loadVar 4 ⟨Db,0,none⟩).run Tryz.prog w=.ok d9 w:=by simp[go_sem,d0]
 simp[results,Tryz.results34,h6,h7,h8,h9,asAddr,a0,b0,n1,d1]
theorem KT (G:Nat) (pc:Array Value) (hw:Array Value) (B:Option Addr) (nF cF:Nat) (V:Array Value->Int->Option Pv.jd->World->Prop) (g:Nat) (w:World) (hs:hw.size=18) (h1:hw.all (·.oneCell')=true) (hG:∀ (args:Array Value) (w:World),(callFunc G args).run Tryz.prog w=.ok (.enter G args) w) (hg:g<=w.heap.size)
    (hV:∀ a n o w1 w2,V a n o w1->dm (fun k=>w.heap.size<=k/\k<w.heap.size+6) w1 w2->V a n o w2)
    (hp : ∀ w1,Ext w w1->w1.heap.size=w.heap.size+6->au w1 (w.heap.size+1) 68 #[.slice B nF cF]->au w1 (w.heap.size+1+1) 65 hw->au w1 (w.heap.size+1+1+1+1) 3 #[.int .i64 0] ->
      Calls Tryz.prog G (#[.func (.func 65) #[] #[.pointer (some ⟨w.heap.size+1+1+1+1,0,none⟩),.pointer (some ⟨w.heap.size+1,0,none⟩),.pointer (some ⟨w.heap.size+1+1,0,none⟩)]]++pc) w1 fun e w2=>dm (fun k=>k=w.heap.size+1+1+1+1\/k=w.heap.size+1\/k=w.heap.size+1+1\/(g<=k/\k<w.heap.size)) w1 w2 /\
        ∃ hw' n,hw'.size=18/\hw'.all (·.oneCell')=true/\au w2 (w.heap.size+1+1) 65 hw'/\au w2 (w.heap.size+1+1+1+1) 3 #[.int .i64 n] /\
        ((∃ o,Pv.qj o/\e=.returned (.agg (Pv.jq o))/\V hw' n (some o) w2)\/(∃ older,Pv.Wq older/\e=.panicked ({ v:=Pv.cutV,recovered:=false }::older)/\V hw' n none w2))) :
    Calls Tryz.prog 34 #[.func (.func G) #[] pc,.agg hw,.slice B nF cF] w fun e w'=>dm (fun k=>g<=k) w w'/\∃ hw' n,hw'.size=18 /\
      (
       (∃ o,Pv.qj o/\e=.returned (.tuple #[.agg hw',.agg (Pv.jq o),.int .i64 n,.bool true])/\V hw' n (some o) w') \/
       (e=.returned (.tuple #[.agg hw',.agg (Pv.jq Pv.jr),.int .i64 n,.bool false])/\V hw' n none w')):=by
  have hmf:∀ (fn:Fn) (first cap:Array Value) (w:World),(Instr.makeFunc fn first cap).run Tryz.prog w=.ok (.func fn first cap) w:=fun _ _ _ _=>rfl;have HP:=hide hp;have HS:=hide (And.intro hs h1);have HV:=hide hV;clear hp hs h1 hV
  go_enter_defers Tryz.func34,Tryz.ntmps34
  go_upto_region 1 with fail
  generalize hW0:World.alloc _ (.cells _ 4)=W0
  have z1:Ext w W0:=by
    rw[<-hW0]
    repeat' (first|(with_reducible exact dm.refl _ _)|(with_reducible exact Ext.refl _)|(with_reducible assumption)|(with_reducible refine dm.alloc ?_ _)|(with_reducible refine dm.drew ?_)|(with_reducible refine dm.drewN ?_ _)|(with_reducible refine dm.setCell ?_ ?_ _)|(with_reducible refine Ext.alloc ?_ _)|(with_reducible refine Ext.drew ?_)|(with_reducible refine Ext.drewN ?_ _)|(with_reducible refine Ext.setCell ?_ ?_ _)|(simp;done)|(simp;omega)|omega)
  have z2:au W0 w.heap.size 65 hw:=by rw[<-hW0];exact (((((au.new w _ _).alloc _).alloc _).alloc _).alloc _).alloc _
  have z3:au W0 (w.heap.size+1) 68 #[.slice B nF cF]:=by rw[<-hW0];exact ((((au.new' _ _ _ (by simp)).alloc _).alloc _).alloc _).alloc _
  have z4:au W0 (w.heap.size+1+1) 65 (#[.slice none 0 0,.slice none 0 0]++Array.replicate 16 (.int .u8 0)):=by rw[<-hW0];exact (((au.new' _ _ _ (by simp)).alloc _).alloc _).alloc _
  have z5:au W0 (w.heap.size+1+1+1) 40 (Pv.jq Pv.jr):=by rw[<-hW0];exact ((au.new' _ _ _ (by simp)).alloc _).alloc _
  have z6:au W0 (w.heap.size+1+1+1+1) 3 #[.int .i64 0]:=by rw[<-hW0];exact (au.new' _ _ _ (by simp)).alloc _
  have z7:au W0 (w.heap.size+1+1+1+1+1) 4 #[.bool false]:=by rw[<-hW0];exact au.new' _ _ _ (by simp)
  have z8:W0.heap.size=w.heap.size+6:=by rw[<-hW0];simp
  have HZ:=hide (And.intro z1 (And.intro z2 (And.intro z3 (And.intro z4 (And.intro z5 (And.intro z6 (And.intro z7 z8)))))));clear hW0 z1 z2 z3 z4 z5 z6 z7 z8
  go_wp2_with (first
    |(refine dH (ty:=65) (t:=65) (x:=.tmp 4) rfl rfl rH rfl (cs:=hw) (aA HZ).2.1 (aA HS).1 ?_)
    |(refine aT (ty:=65) (t:=65) (x:=.tmp 6) (y:=.tmp 11) rfl rfl rH rfl rfl (aA HZ).2.2.2.1 rfl (aA HS).1 (aA HS).2 ?_;intro w1 hb1 hc1 hz1;have H1:=hide (And.intro hb1 (And.intro hc1 hz1));clear hb1 hc1 hz1))
  obtain⟨z1,z2,z3,z4,z5,z6,z7,z8⟩:=aA HZ;obtain⟨y1,y2,y3⟩:=aA H1;have hE1:Ext w w1:=z1.trans' y2 (fun _ _ h=>h) (fun i hi e=>by omega);refine (aA HP w1 hE1 (y3.trans z8) (z3.gm y2 (by omega)) y1 (z6.gm y2 (by omega))).mono ?_;rintro e w2 ⟨h2,hw',n,q1,q2,q3,q4,hq⟩;have hO:=(z5.gm y2 (by omega)).gm h2 (by omega);have hD:=(z7.gm y2 (by omega)).gm h2 (by omega);have hEx:Hid (dm (fun k=>g<=k) w w2):=hide (hE1.trans' h2 (fun _ _ h=>h.elim) (fun i hi e=>by omega));have hsz2:w1.heap.size<=w2.heap.size:=h2.size;rcases hq with⟨o,hok,rfl,hv⟩|⟨older,hne,rfl,hv⟩
  ·
    have HO:=hide (And.intro hO (And.intro hok (Pv.dN hok)));have HD:=hide hD;have HQ:=hide (And.intro q1 (And.intro q2 (And.intro q3 (And.intro q4 hv))))
    have hn1:w.heap.size+6<=w2.heap.size:=by omega
    clear z1 z2 z3 z4 z5 z6 z7 y1 y2 hE1 h2 q1 q2 q3 q4 hv hO hD HP H1 HZ hok;generalize hoc:Pv.jq o=oc at *
    go_upto_region 5 with (refine aT (ty:=40) (t:=40) (x:=.tmp 7) (y:=.tmp 16) rfl rfl iV rfl rfl (aA HO).1 (Pv.dN Pv.jL) (aA HO).2.2 (by rw[<-hoc];exact Pv.kX _) ?_;intro w3 hO3 hc3 hs3;have H3:=hide (And.intro hO3 (And.intro hc3 hs3));clear hO3 hc3 hs3)
    obtain⟨hO3,hc3,hs3⟩:=aA H3;have h55:=(aA HO).2.2;obtain⟨q1,q2,q3,q4,hv⟩:=aA HQ
    refine Pv.KQ (by kernel_rfl) ⟨_,_,w.heap.size+1+1,w.heap.size+1+1+1,w.heap.size+1+1+1+1,w.heap.size+1+1+1+1+1,65,40,3,4,hw',oc,#[.int .i64 n],.agg hw',.agg oc,.int .i64 n⟩
      (Pv.Loc.wide rH _ _ _ q1 q2) (Pv.Loc.wide iV _ _ _ h55 (by rw[<-hoc];exact Pv.kX _)) (QJ _ _) (aTh _ _) rfl rfl rfl rfl rfl (by dsimp only;omega) (by dsimp only;omega) (by dsimp only;omega) (by dsimp only;omega) (by dsimp only;omega) (by dsimp only;omega)
      (q3.gm hc3 (by omega)) hO3 (q4.gm hc3 (by omega)) ⟨_,(aA HD).gm hc3 (by omega)⟩ fun a4 w4 h4=>?_
    obtain⟨ds,sz,tm,l1,l2,l3,k1,k2,k3,⟨v4,k4,k5⟩,hc4,Bo⟩:=h4;dsimp only at ds tm k1 k2 k3 k4 hc4 Bo
    obtain rfl:=k5 rfl
    have H4:=hide (And.intro ds (And.intro sz (And.intro tm (And.intro k1 (And.intro k2 (And.intro k3 (And.intro k4 (And.intro hc4 Bo))))))));have H3:=hide (And.intro q1 (And.intro hv hc3));clear l1 l2 l3 k5 ds sz tm k1 k2 k3 k4 hc4 Bo q1 q2 q3 q4 hv hc3;dsimp only[Exit.then]
    go_wp2
    obtain⟨ds,sz,tm,k1,k2,k3,k4,hc4,Bo⟩:=aA H4;obtain⟨q1,hv,hc3⟩:=aA H3;show Leaves _ _ a4.tmps _ a4.defers .returning w4;rw[ds];refine leaves_cons (f:=67) (args:=#[.pointer (some ⟨w.heap.size+1+1+1,0,none⟩),.pointer (some ⟨w.heap.size+1+1+1+1+1,0,none⟩)]) (by simp) (by simp[go_sem]) ?_;refine (bCe _ _ _).mono ?_;rintro e u' w5 ⟨rfl,rfl,rfl⟩
    refine⟨_,aAt _ _ (w.heap.size+1+1) (w.heap.size+1+1+1) (w.heap.size+1+1+1+1) (w.heap.size+1+1+1+1+1) hw' q1 oc h55 (.int .i64 n) (.bool true) (tm 6 (by omega)) (tm 7 (by omega)) (tm 8 (by omega)) (tm 9 (by omega)) k1 k2 k3 k4,?_,hw',q1,n,.inl ⟨o,(aA HO).2.1,by rw[hoc],?_⟩⟩
    · exact (aA hEx).trans (hc3.mono fun k _ hk=>by omega) |>.trans (hc4.mono fun k _ hk=>by rcases hk with h|h|h|h<;>omega)
    · exact (aA HV) _ _ _ _ _ hv ((hc3.mono fun k _ hk=>by omega).trans (hc4.mono fun k _ hk=>by rcases hk with h|h|h|h<;>omega))
  ·
    have HO:=hide hO;have HD:=hide hD;have HQ:=hide (And.intro q1 (And.intro q2 (And.intro q3 (And.intro q4 hv))));clear z1 z2 z3 z4 z5 z6 z7 y1 y2 hE1 h2 q1 q2 q3 q4 hv hO hD HP H1 HZ
    go_wp2
    obtain⟨q1,q2,q3,q4,hv⟩:=aA HQ;refine leaves_cons (f:=67) (args:=#[.pointer (some ⟨w.heap.size+1+1+1,0,none⟩),.pointer (some ⟨w.heap.size+1+1+1+1+1,0,none⟩)]) (by simp) (by simp[go_sem]) ?_;refine (aWo _ _ _ _ older _ (Pv.dN Pv.jL) (aA HO) (aA HD) (by omega)).mono ?_;rintro e u' w5 ⟨rfl,rfl,hc,hO',hD'⟩;have hst:settle (.panicking ({ v:=Pv.cutV,recovered:=true }::older))=.returning:=Pv.yX hne;show Leaves _ _ _ _ _ (settle _) _;rw[hst]
    refine⟨_,aAt _ _ (w.heap.size+1+1) (w.heap.size+1+1+1) (w.heap.size+1+1+1+1) (w.heap.size+1+1+1+1+1) hw' q1 _ (Pv.dN Pv.jL) _ _ rfl rfl rfl rfl (q3.gm hc (by omega)) hO' (q4.gm hc (by omega)) hD',?_,hw',n,q1,.inr ⟨rfl,?_⟩⟩
    · exact (aA hEx).trans' hc (fun _ _ h=>h) (fun i hi e=>by omega)
    · exact (aA HV) _ _ _ _ _ hv (hc.mono fun k _ hk=>by omega)
namespace Pv
theorem aWn(K:Nat->Prop)(gN gF gH:Nat)(F:List pg)(h0:gy):Ei (Rx K gN gF gH F h0):=by
 rintro l X w chain ⟨⟨older,hn,rfl⟩,h⟩
 refine⟨aCR,.agg #[],older,rfl,hn,.inr rfl,⟨{ v:=cutV,recovered:=true }::older,fun e he=>?_,rfl⟩,h⟩
 rcases List.mem_cons.1 he with rfl|he
 ·rfl
 ·exact hn e he
theorem Hf{h:gy}(k:D5 h)(c:Int):(strOf (sec h.f c)).size<=1000000:=by
 rw[bQ];unfold sec
 split
 ·rename_i hc;rw[Array.length_toList,zG,zH (by omega)];exact k.sz _ (List.getElem_mem _)
 ·exact (by decide:([]:List UInt8).length<=1000000)
theorem QM(F:List pg){h0:gy}(hd:p_ h0):OB (nK F h0):=by
 intro l r hr;unfold nK at hr
 split at hr
 ·cases hr;exact (by decide:(0:Nat)<=1000000)
 ·rename_i c hc
  split at hr
  ·cases hr
  ·cases hr;have hk:D5 (zu F h0 l.dropLast 0):=Gm _ _ hd.ok
   have z:(jX.bytes).size<=1000000:=by decide
   have z2:aS.size<=1000000:=by decide
   unfold gI
   repeat' split
   all_goals first
    |exact z
    |exact z2
    |exact Hf hk _
def aEO(q:Option jd×gy×Nat)(e:Ending):Prop:=(∃ o,qj o/\q.1=some o/\e=.returned (.agg (jq o)))\/(q.1=none/\∃ older,Wq older/\e=.panicked ({ v:=cutV,recovered:=false }::older))
theorem aWd(m:ji)(hm:ut m)(hml:yc m)(F:List pg)(hF:F.length<=1000000)(h0:gy)(hd:p_ h0)(g:Nat)(w0 w:World)(hw0:Ext w0 w)(hmem:∀ w',dm (fun b=>g<=b) w w'->a_ w')(B0:au w0 g 31 (opC m))
  (gN gF gH:Nat) (hN:w0.heap.size<=gN) (hFb:w0.heap.size<=gF) (hH:w0.heap.size<=gH) (K X:Nat->Prop) (hX:X g) (hR:Be K gN gF gH F h0 [] X w) :
  Calls Tryz.prog 45 (#[.func (.func 65) #[] #[.pointer (some ⟨gN,0,none⟩),.pointer (some ⟨gF,0,none⟩),.pointer (some ⟨gH,0,none⟩)]]++#[.pointer (some ⟨g,0,none⟩)]) w fun e w2=>
   dm (fun k=>k=gN\/k=gF\/k=gH\/(g<=k/\k<w0.heap.size)) w w2 /\
   au w2 gN 3 #[.int .i64 ((dS F (bW m) h0 0).2.2:Int)]/\(∃ cs,au w2 gH 65 cs/\RL { w:=w2,ok:=O1 K X gN gF gH,env:=fun _=>none } (lu (dS F (bW m) h0 0).2.1) cs.toList) /\
   aEO (dS F (bW m) h0 0) e:=by
 have lg:=B0.lt;have lN:=hR.bn.lt;obtain⟨cF,f1,f2⟩:=hR.bf;obtain⟨cH,f3,f4⟩:=hR.bh;have lF:=f1.lt;have lH:=f3.lt;have hin:=Iq m;have hwi:=aMd m;have hgl:=LH F h0 (bW m) hin 900 hwi [] (by simp);have hlen:=Vj (nK F h0) (bW m) 900 hwi [];rw[List.length_nil,Nat.zero_add] at hlen;have hX0:(Rx K gN gF gH F h0).inv [] X w:=⟨hR,fun k hk=>by cases hk⟩;have hst:=aWp K gN gF gH F h0 hF hd (bW m) hin (by omega);refine (aMe m hm hml w g (Rx K gN gF gH F h0) X (B0.ext hw0) (fun w' hc=>hmem w' (hc.mono fun b _ hb=>?_)) (fun b hb=>?_) (hst.mono fun l hl _=>⟨List.nil_prefix,hl⟩) (bCf K gN gF gH F h0) (aWn K gN gF gH F h0) (QM F hd) hX0 hX).mono ?_
 ·rcases hb with (h|h|h)|h<;>omega
 ·rcases hb with h|h|h<;>omega
 rintro e w2 ⟨hc,hq⟩
 refine⟨hc.mono fun b _ hb=>by rcases hb with (h|h|h)|h<;>omega,?_⟩
 rcases hq with⟨hok,rfl,hB,hNC⟩|⟨chain,l,rfl,h1,h2,h3⟩
 ·have hx:dS F (bW m) h0 0=_:=hgl.1 hNC;rw[hx];obtain⟨c3,g3,g4⟩:=hB.bh
  exact⟨hB.bn,⟨c3,g3,g4⟩,.inl ⟨_,hok,rfl,rfl⟩⟩
 ·obtain⟨⟨older,hno,rfl⟩,hB,l',c,rfl,h4,h5⟩:=h3;have hx:dS F (bW m) h0 0=_:=hgl.2 l' c List.nil_prefix h1 h4 h5;rw[hx];obtain⟨c3,g3,g4⟩:=hB.bh;have hb:=hB.bn;rw[List.length_append,List.length_singleton] at hb
  exact⟨hb,⟨c3,g3,g4⟩,.inr ⟨rfl,older,hno,rfl⟩⟩
end Pv
theorem Pv.U8{C:Pv.Ctx}{l1 l2:List Pv.PC}{c1 c2:Array Value}{b:Int}{d:Bool}(h1:Pv.RL C l1 c1.toList)(h2:Pv.RL C l2 c2.toList):Pv.RV C (.lh [.agg l1,.agg l2,.one (.lit (.int .i64 b)),.one (.lit (.bool d))]) (.tuple #[.agg c1,.agg c2,.int .i64 b,.bool d]):=
 .lh rfl (fun i x hx=>by
  match i,hx with
  |0,hx=>cases hx;exact⟨_,rfl,.agg h1⟩
  |1,hx=>cases hx;exact⟨_,rfl,.agg h2⟩
  |2,hx=>cases hx;exact⟨_,rfl,.one (.lit rfl)⟩
  |3,hx=>cases hx;exact⟨_,rfl,.one (.lit rfl)⟩
  |i+4,hx=>cases hx)
theorem Jr(oc:Array Value)(w:World) :
  Calls Tryz.prog 29 #[.agg oc] w fun e w'=>e=.returned (.func (.func 45) #[] #[.pointer (some ⟨w.heap.size,0,none⟩)])/\Ext w w'/\w'.heap.size=w.heap.size+1/\au w' w.heap.size 31 oc:=by
 have hmf:∀ (fn:Fn) (first cap:Array Value) (w:World),(Instr.makeFunc fn first cap).run Tryz.prog w=.ok (.func fn first cap) w:=fun _ _ _ _=>rfl
 go_enter Tryz.func29,Tryz.ntmps29
 go_wp2
 refine bodyPost_ret (v:=.func (.func 45) #[] #[.pointer (some ⟨w.heap.size,0,none⟩)]) (by simp[results,Tryz.results29,go_sem]) rfl ⟨rfl,?_,?_,?_⟩
 ·repeat' (first|(with_reducible exact dm.refl _ _)|(with_reducible exact Ext.refl _)|(with_reducible assumption)|(with_reducible refine dm.alloc ?_ _)|(with_reducible refine dm.drew ?_)|(with_reducible refine dm.drewN ?_ _)|(with_reducible refine dm.setCell ?_ ?_ _)|(with_reducible refine Ext.alloc ?_ _)|(with_reducible refine Ext.drew ?_)|(with_reducible refine Ext.drewN ?_ _)|(with_reducible refine Ext.setCell ?_ ?_ _)|(simp;done)|(simp;omega)|omega)
 ·simp
 ·exact au.new w _ _
namespace Pv
def bI(o:Option jd):jd:=o.getD jr
def bBp(q:Option jd×gy×Nat):PV:=.lh [.agg (lu q.2.1),.agg (g_ (bI q.1)),.one (.lit (.int .i64 (q.2.2:Int))),.one (.lit (.bool q.1.isSome))]
def En(q:Option jd×gy×Nat)(ok:Nat->Prop)(hw:Array Value)(n:Int)(o:Option jd)(w:World):Prop:=
 n=(q.2.2:Int)/\RL { w:=w,ok:=ok,env:=fun _=>none } (lu q.2.1) hw.toList/\q.1=o
theorem En.le{q:Option jd×gy×Nat}{ok ok':Nat->Prop}{hw:Array Value}{n:Int}{o:Option jd}{w w':World}(hv:En q ok hw n o w)(hs:w.heap.size<=w'.heap.size)(hb:∀ b,b<w.heap.size->ok b->ok' b/\w'.heap[b]?=w.heap[b]?):En q ok' hw n o w':=
 ⟨hv.1,hv.2.1.le ⟨hs,fun b hb1 hb2=>hb b hb1 hb2,fun _ _ _ h=>by cases h⟩,hv.2.2⟩
theorem aBs{C:Ctx}{h:gy}{cs:Array Value}(hr:RL C (lu h) cs.toList):cs.size=18:=by
 unfold lu at hr;obtain⟨cs⟩:=cs;dsimp only at hr
 cases hr with
 | cons k1 hr=>cases hr with
  |cons k2 hr=>
   obtain⟨k3,k4⟩:=hr.Yj;have w1:=k1.width;have w2:=k2.width;subst k4;simp[PC.width] at w1 w2;simp[w1,w2,k3]
theorem aQv{C:Ctx}{h:gy}{cs:Array Value}(hr:RL C (lu h) cs.toList):cs.all (·.oneCell')=true:=by
 rw[<-Array.all_toList,List.all_eq_true];exact fun x hx=>hr.ones x hx
end Pv
theorem aLr{tmps:Array Value}{w:World}{Ab Ob:Nat}{hw oc:Array Value}(hs:hw.size=18)(ho:oc.size=55)(h6:tmps.getD 6 undef=.pointer (some ⟨Ab,0,none⟩))(h7:tmps.getD 7 undef=.pointer (some ⟨Ob,0,none⟩))
  (hA:au w Ab 65 hw) (hO:au w Ob 40 oc) :
  (results Tryz.f15 tmps).run Tryz.prog w=.ok (.tuple #[.agg hw,.agg oc,tmps.getD 8 undef,tmps.getD 9 undef]) w:=by
 have a0:=iR hA rH hs;have b0:=iR hO iV ho;simp only[Array.getD_eq_getD_getElem?] at h6 h7;simp[results,Tryz.results15,h6,h7,asAddr,a0,b0]
namespace Pv
def okF(ok0:Nat->Prop)(S:Nat):Nat->Prop:=fun b=>(ok0 b\/S<=b)/\¬(S<=b/\b<S+11)
theorem QL(m:ji)(hm:ut m)(hml:yc m)(F:List pg)(hF:F.length<=1000000)(h0:gy)(hd:p_ h0)(ok0:Nat->Prop)(hcs:Array Value)(B:Option Addr)(nF cF:Nat)(w:World)(hM:a_ w)
  (hH:RL { w:=w,ok:=ok0,env:=fun _=>none } (lu h0) hcs.toList) (hV:RL { w:=w,ok:=ok0,env:=fun _=>none } [rV F] [.slice B nF cF])
  (W0 w1:World) (z1:Ext w W0) (z7:W0.heap.size=w.heap.size+4) (k1:Ext W0 w1) (k2:w1.heap.size=W0.heap.size+1) (k3:au w1 W0.heap.size 31 (opC m)) :
  Calls Tryz.prog 34 #[.func (.func 45) #[] #[.pointer (some ⟨W0.heap.size,0,none⟩)],.agg hcs,.slice B nF cF] w1 fun e w2=>dm (fun k=>W0.heap.size<=k) w1 w2 /\
   ∃ hw',qj (bI (dS F (bW m) h0 0).1)/\e=.returned (.tuple #[.agg hw',.agg (jq (bI (dS F (bW m) h0 0).1)),.int .i64 ((dS F (bW m) h0 0).2.2:Int),.bool (dS F (bW m) h0 0).1.isSome]) /\
    RL { w:=w2,ok:=okF ok0 w.heap.size,env:=fun _=>none } (lu (dS F (bW m) h0 0).2.1) hw'.toList:=by
 obtain⟨q,hq⟩:∃ q,dS F (bW m) h0 0=q:=⟨_,rfl⟩;rw[hq];refine (KT 45 _ hcs B nF cF (En q (okF ok0 w.heap.size)) W0.heap.size w1 (aBs hH) (aQv hH) (fun args w=>by kernel_rfl) (by omega) (fun a n o wa wb hv hc=>?_) (fun wa hE hsz2 y1 y2 y3=>?_)).mono ?_
 ·exact hv.le hc.size (fun b hb hok=>⟨hok,hc.block b hb (fun hh=>hok.2 (by omega))⟩)
 ·have L_:Ext w wa:=(z1.trans k1).trans hE
  have hLe:∀ {p:List PC} {xs:List Value},RL { w:=w,ok:=ok0,env:=fun _=>none } p xs->RL { w:=wa,ok:=O1 (fun b=>ok0 b\/w.heap.size<=b) (fun b=>w.heap.size<=b/\b<w.heap.size+11/\b≠w1.heap.size+1+1+1+1/\b≠w1.heap.size+1/\b≠w1.heap.size+1+1) (w1.heap.size+1+1+1+1) (w1.heap.size+1) (w1.heap.size+1+1),env:=fun _=>none } p xs:=fun hr=>
   hr.le ⟨L_.size,fun b hb hok=>by
    have hb':b<w.heap.size:=hb
    exact⟨⟨.inl hok,fun hx=>by omega,by omega,by omega,by omega⟩,L_.block b hb (fun hh=>hh)⟩,fun _ _ _ h=>by cases h⟩
  have hsg:=aWd m hm hml F hF h0 hd W0.heap.size w1 wa hE (fun w' hc=>hM.past (B:=W0.heap.size) (by omega) (hM.ext L_) hc) k3 (w1.heap.size+1+1+1+1) (w1.heap.size+1) (w1.heap.size+1+1) (by omega) (by omega) (by omega)
   (fun b=>ok0 b\/w.heap.size<=b) (fun b=>w.heap.size<=b/\b<w.heap.size+11/\b≠w1.heap.size+1+1+1+1/\b≠w1.heap.size+1/\b≠w1.heap.size+1+1) (by omega)
   { bn:=y3,bf:=⟨_,y1,hLe hV⟩,bh:=⟨_,y2,hLe hH⟩,ne:=⟨by omega,by omega,by omega⟩,good:=fun c hc=>(by cases hc),mine:=fun b hb=>⟨by omega,hb.2.2.1,hb.2.2.2.1,hb.2.2.2.2⟩,mem:=hM.ext L_,tab:=fun b hb=>(by have:=Z5 hM hb;exact⟨fun hx=>by omega,by omega,by omega,by omega⟩),up:=fun b hb=>.inr (by omega) }
  rw[hq] at hsg;refine hsg.mono ?_;rintro e w2 ⟨hc,hN,⟨cs,hb,hrl⟩,hend⟩;have hok:∀ b,O1 (fun b=>ok0 b\/w.heap.size<=b) (fun b=>w.heap.size<=b/\b<w.heap.size+11/\b≠w1.heap.size+1+1+1+1/\b≠w1.heap.size+1/\b≠w1.heap.size+1+1) (w1.heap.size+1+1+1+1) (w1.heap.size+1) (w1.heap.size+1+1) b->okF ok0 w.heap.size b:=fun b hb=>⟨hb.1,fun hx=>hb.2.1 ⟨hx.1,hx.2,hb.2.2⟩⟩;have aBC:RL { w:=w2,ok:=okF ok0 w.heap.size,env:=fun _=>none } (lu q.2.1) cs.toList:=hrl.le ⟨Nat.le_refl _,fun b _ hb=>⟨hok b hb,rfl⟩,fun _ _ _ h=>by cases h⟩
  refine⟨hc,cs,_,aBs hrl,aQv hrl,hb,hN,?_⟩
  rcases hend with⟨o,ho,hq1,rfl⟩|⟨hq1,older,hno,rfl⟩
  ·exact .inl ⟨o,ho,rfl,rfl,aBC,hq1⟩
  ·exact .inr ⟨older,hno,rfl,rfl,aBC,hq1⟩
 rintro e w2 ⟨hc,hw',n,_,hq2⟩
 refine⟨hc,?_⟩
 rcases hq2 with⟨o,hok,rfl,v1,v2,v3⟩|⟨rfl,v1,v2,v3⟩
 ·refine⟨hw',?_,?_,v2⟩
  ·rw[v3];exact hok
  ·rw[v1,v3];rfl
 ·refine⟨hw',?_,?_,v2⟩
  ·rw[v3];exact jL
  ·rw[v1,v3];rfl
end Pv
end Go.Proofs.YtndpjopifkbgiaaGreatDoor
