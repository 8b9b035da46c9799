/-.-/
import Derived.Test.YtndpjopifkbgiaaGreatDoorMsQ
import Derived.Test.YtndpjopifkbgiaaGreatDoorMsP
import Derived.Test.YtndpjopifkbgiaaGreatDoorMsL
import Derived.Test.YtndpjopifkbgiaaGreatDoorMsC
set_option maxRecDepth 100000
set_option maxHeartbeats 4000000
namespace Go.Proofs.YtndpjopifkbgiaaGreatDoor
open Go.RowKit
namespace Pv
def GG:List Int:=List.replicate 48 0
def Ja(k:Nat):List (List Int):=List.replicate k GG
def Fg:Nat->List PC:=fun _=>[.lit (.int .i64 16)]
def z8F:Nat->List PC:=fun _=>[.lit (.int .u8 0)]
def QN:Nat->List PC:=fun _=>[.sl 1 48 z8F]
theorem bDp{i:Nat}(hi:i<4):QN i=bJ (Ja 4) i:=by
 unfold QN bJ Ja;rw[zG,List.getElem?_replicate,if_pos hi]
 show[PC.sl 1 48 z8F]=[PC.sl 1 48 (qc GG)]
 have:z8F=qc GG:=by
  funext j;unfold z8F qc GG;rw[zG,List.getElem?_replicate]
  split<;>rfl
 rw[this]
def U8(k:Nat):St:=⟨[(0,none,dn (.sl 1 4 Fg)),(2,none,dn (.pt 0 0 0)),(4,none,dn (.pt 1000 0 0)),(5,none,iy k)],[(0,none,0,.box 60 [.lit (.slice none 0 0)]),(1000,none,0,.box 60 [.ow 9009 0 1 0 k]),(9009,none,0,.arr 74 1 k QN)]⟩
theorem Jm:gQ Tryz.prog a_ 63 false [dn (.sl 1 4 Fg)] (.lw [.agg [.sl 1 4 (bJ (Ja 4))],.one (.lit (.int .i64 0))]):=by
 have M:=Vr
 have hb1:Tryz.prog.types[74].bytes=24:=by kernel_rfl
 have hb2:Tryz.prog.types[5].bytes=1:=by kernel_rfl
 have hs1:Tryz.prog.types[74].size=1:=by kernel_rfl
 refine bM Tryz.func63 rfl rfl bU (fun A hS hn hI=>?_);refine aB M hI hn (by rfl) (by kernel_rfl) ?_ ?_
 ·simp
 refine aB M hI hn (by rfl) (by kernel_rfl) ?_ ?_
 ·simp
 refine aP ?_;refine aB M hI hn (by rfl) (by kernel_rfl) ?_ ?_
 ·simp
 refine aH (by rfl) (fun hc=>?_) (fun hc=>?_)
 ·cases hc
 ·refine aO ?_;change ja _ _ _ _ _;refine aP ?_;refine aB M hI hn (by rfl) (by kernel_rfl) ?_ ?_
  ·simp
  refine aI (s':=U8 0) (fun a w hg=>((hg.D6 (x:=9009) (b:=1000) (e:=74) (n:=1) (l1:=[]) (by rfl) (by rfl)).reset (kT:=[0,2,4,5]) (kO:=[0,1000,9009]) (by rfl) (by simp)).same ?_ ?_) ?_
  ·exact .cons rfl (.cons rfl (.cons rfl (.cons rfl .nil)))
  ·exact .cons (.box rfl) (.cons (.box rfl) (.cons (.arr rfl (fun i hi=>by omega)) .nil))
  refine bP ?_;refine iY 4 (fun k t=>t=U8 k) 0 rfl (by omega) (fun k t hJ hk=>?_);subst hJ;refine aP ?_;refine aB M hI hn (by rfl) (by kernel_rfl) ?_ ?_
  ·simp
  refine aH (by rfl) (fun hc=>?_) (fun hc=>?_)
  ·have hk2:k<4:=by have:=of_decide_eq_true hc;omega
   refine aO ?_;change ja _ _ _ _ _;refine aP ?_;refine bP ?_;refine aP ?_;refine aB M hI hn (by rfl) (by kernel_rfl) ?_ ?_
   ·simp;omega
   refine aH (by rfl) (fun hc=>?_) (fun hc=>?_)
   ·cases hc
   refine aO ?_;change ja _ _ _ _ _;refine aQ M hI hn (by rfl) (by kernel_rfl) ?_ ?_
   ·simp[hb1,hb2]
    have h48:IntKind.i64.wrap 48=48:=by decide
    exact⟨by omega,by rw[h48];omega,by omega⟩
   change ja _ _ _ _ _;refine aQ M hI hn (by rfl) (by kernel_rfl) ?_ ?_
   ·simp
   intro a w hg
   refine⟨k+1,_,by omega,by omega,rfl,(hg.Cj (R:=[(9009,QN)]) (kF:=[9007]) (kT:=[0,2,4,5]) (kO:=[0,1000,9009]) (.inr hS) (by rfl) ?_).same ?_ ?_⟩
   ·simp
    refine⟨fun i hi=>?_,fun i _=>?_⟩
    ·by_cases h:i<k
     ·unfold qm;rw[if_pos h];rfl
     ·obtain rfl:i=k:=by omega
      unfold qm;rw[if_neg h,Nat.sub_self];rfl
    ·rfl
   ·exact .cons rfl (.cons rfl (.cons rfl (.cons (by rw[gU k (by omega)]) .nil)))
   ·exact .cons (.box rfl) (.cons (.box rfl) (.cons (.arr rfl (fun i hi=>rfl)) .nil))
  ·have hk2:k=4:=by have:=of_decide_eq_false hc;omega
   subst hk2;refine iM ?_;change ja _ _ _ _ _;refine aB M hI hn (by rfl) (by kernel_rfl) ?_ ?_
   ·simp
   refine aK (fun a w hg=>⟨.inr rfl,_,?_,hg⟩);refine kK (by rfl) (by simp) (by rfl) ?_;refine .lw (.cons (.agg (.cons (.row rfl trivial (by omega) (fun i hi=>?_) (fun i hi=>rfl)) .nil)) (.cons (.one (.cold rfl)) .nil));rw[Nat.zero_add];exact bDp hi
def Bi(root:List UInt8):j_:=⟨Ja 4,CG,root⟩
def Jl:List PV->Option (Prop×PV)
 |[.w (.one (.lit (.int .i64 n)))]=>some (n=128,.lw [.agg (Ws CG),.one (.lit (.int .i64 0))])
 |_=>none
theorem bDu:aj Tryz.prog a_ 64 (bD true Jl):=by
 refine bC (aF Tryz.func64 (by kernel_rfl) rfl) (fun xs p r hg hp=>?_);unfold Jl at hg
 split at hg
 ·cases hg
  obtain rfl:_=(128:Int):=hp
  exact Jk
 ·cases hg
def Jn:List PV->Option (Prop×PV)
 |[.w (.one (.sl 1 n f))]=>some (n=4/\∀ i,i<4->f i=Fg i,.lw [.agg [.sl 1 4 (bJ (Ja 4))],.one (.lit (.int .i64 0))])
 |_=>none
theorem aNo{C:Ctx}{n:Nat}{f g:Nat->List PC}{v:Value}(h:RV C (dn (.sl 1 n f)) v)(he:∀ i,i<n->f i=g i):RV C (dn (.sl 1 n g)) v:=by
 cases h with
 |w h=>cases h with
  |one h=>exact .w (.one (h.zt he))
theorem bDv:aj Tryz.prog a_ 63 (bD false Jn):=by
 refine bC (aF Tryz.func63 (by kernel_rfl) rfl) (fun xs p r hg hp=>?_);unfold Jn at hg
 split at hg
 ·cases hg;obtain⟨rfl,h⟩:=hp
  exact Jm.args fun C vs hv=>by
   match vs,hv with
   |[x],⟨k0,_⟩=>exact⟨aNo k0 h,trivial⟩
 ·cases hg
def nwL:List (Nat×Spec):=[(63,bD false Jn),(64,bD true Jl)]
theorem aCJ:∀ p∈nwL,aj Tryz.prog a_ p.1 p.2:=by
 intro p hp;simp only[nwL,List.mem_cons,List.not_mem_nil,or_false] at hp;rcases hp with rfl|rfl
 ·exact bDv
 ·exact bDu
theorem nwM:lm Tryz.prog a_ (find nwL):=⟨bV aCJ,fK⟩
theorem Ji(root:List UInt8):gQ Tryz.prog a_ 33 false [.w (.agg [.bs 16 root]),dn (.sl 1 4 Fg)] (.lw [.agg (m_ (Bi root)),.one (.lit (.int .i64 0))]):=by
 have M:=nwM;refine bM Tryz.func33 rfl rfl bU (fun A hS hn hI=>?_);refine aB M hI hn (by rfl) (by kernel_rfl) ?_ ?_
 ·simp
 refine aB M hI hn (by rfl) (by kernel_rfl) ?_ ?_
 ·simp
 refine aP ?_;refine aB M hI hn (by rfl) (by kernel_rfl) ?_ ?_
 ·simp
 refine aH (by rfl) (fun hc=>?_) (fun hc=>?_)
 ·cases hc
 refine aO ?_;change ja _ _ _ _ _;refine aB M hI hn (by rfl) (by kernel_rfl) ?_ ?_
 ·simp
 refine aB M hI hn (by rfl) (by kernel_rfl) ?_ ?_
 ·simp
 refine aK (fun a w hg=>⟨.inr rfl,_,?_,hg⟩);refine kK (by rfl) (by simp) (by rfl) ?_;refine .lw (.cons (.agg (.cons (.cold rfl) (.cons (.cold rfl) (.cons (.cold rfl) .nil)))) (.cons (.one (.cold rfl)) .nil))
def Jj:List PV->Option (Prop×PV)
 |[.w (.agg [.bs 16 root]),.w (.one (.sl 1 n f))]=>some (n=4/\∀ i,i<4->f i=Fg i,.lw [.agg (m_ (Bi root)),.one (.lit (.int .i64 0))])
 |_=>none
theorem bDt:aj Tryz.prog a_ 33 (aLu Jj):=by
 refine aZc (aF Tryz.func33 (by kernel_rfl) rfl) (fun xs p r hg hp=>?_);unfold Jj at hg
 split at hg
 ·cases hg;obtain⟨rfl,h⟩:=hp
  exact (Ji _).args fun C vs hv=>by
   match vs,hv with
   |[x,y],⟨k0,k1,_⟩=>exact⟨k0,aNo k1 h,trivial⟩
 ·cases hg
section
variable {α β:Type}
def mr:ah α->j_->Except Int α×j_
 |.ret a,h=>(.ok a,h)
 |.ask c k,h=>if c.kind = -1 then (.error c.ay,h) else mr (k (fJ h c tu).2.1) (fJ h c tu).1
def nfB(f:α->j_->Except Int β×j_):Except Int α×j_->Except Int β×j_
 |(.ok a,h)=>f a h
 |(.error e,h)=>(.error e,h)
theorem aLc(p:ah α)(f:α->ah β):∀ h,mr (p.bind f) h=nfB (fun a h=>mr (f a) h) (mr p h):=by
 induction p with
 |ret a=>intro h;rfl
 |ask c k ih=>
  intro h;show mr (.ask c fun r=>(k r).bind f) h=_;rw[mr,mr]
  by_cases hc:c.kind = -1
  ·rw[if_pos hc,if_pos hc];rfl
  ·rw[if_neg hc,if_neg hc];exact ih _ _
theorem aZ{p:ah α}{f:α->ah β}{h h':j_}{a:α}(hp:mr p h=(.ok a,h')):mr (p.bind f) h=mr (f a) h':=by rw[aLc,hp];rfl
theorem aCt{p:ah α}{f:α->ah β}{h h':j_}{e:Int}(hp:mr p h=(.error e,h')):mr (p.bind f) h=(.error e,h'):=by rw[aLc,hp];rfl
def Nr(k:Int->α):Except Int α->α
 |.ok a=>a
 |.error e=>k e
theorem aTd(k:Int->α)(p:ah α):∀ h i,∃ n,dK [] (ah.catch k p) h i=(some (Nr k (mr p h).1),(mr p h).2,n):=by
 induction p with
 |ret a=>intro h i;exact⟨i,rfl⟩
 | ask c g ih=>
  intro h i;rw[mr]
  by_cases hc:c.kind = -1
  ·rw[if_pos hc];unfold ah.catch;rw[decide_eq_true hc]
   exact⟨i,rfl⟩
  ·rw[if_neg hc];rw[nV k g hc,dK];have hf:eX [] i=tu:=rfl;rw[hf,if_neg (by decide)];exact ih _ _ _
theorem bI(e:Int)(h:j_):mr (gZ true e) h=(.ok (),h):=rfl
theorem wX(e:Int)(h:j_):mr (gZ false e) h=(.error e,h):=rfl
end
def cl(n:Nat):List Int:=List.replicate (3*n) 2++List.replicate (48-3*n) 0
def jf(c2 c3:List Int)(f:Fl)(r:List UInt8):j_:=⟨[GG,GG,c2,c3],f,r⟩
theorem XM:GG=cl 0:=rfl
end Pv
section
section
variable {f:Fl} {u:GU}
theorem MN(h:Fine f u){g:Fl}(hg:∀ t,(t<iq f u\/iq f u+8<=t)->sec g t=sec f t){rec k:Int}(h0:0<=rec)(h1:rec<=3)(h2:0<=k)(h3:k<=1)(hne:rec≠u.dh\/k=((eu f u.dh).2:Int)):Da g rec k=Da f rec k:=by
 have hf:=h.first;have hk:(eu f u.dh).2=0\/(eu f u.dh).2=1:=Xi _ _;unfold Da;rw[yH (f:=g) (g:=f) (s:=dP rec k) (fun t h4 h5=>hg t ?_)];rw[vJ h0 h1 h2 h3] at h4 h5;rcases hne with hne|rfl
 ·omega
 ·by_cases hr:rec=u.dh
  ·subst hr;omega
  ·omega
structure Bq(f:Fl)(u:GU)(x:Fl×Dw×Bool×List Acc):Prop where
 sz:Sz x.1
 far:∀ rec k:Int,0<=rec->rec<=3->0<=k->k<=1->(rec≠u.dh\/k=((eu f u.dh).2:Int))->Da x.1 rec k=Da f rec k
 done:x.2.2.1=true->x.2.1=⟨u.content,(eu f u.dh).1.1+1,0⟩/\Da x.1 u.dh (1-((eu f u.dh).2:Int))=((eu f u.dh).1.1+1,u.content.data.toList)
 left:x.2.2.1=false->x.2.1=bAm/\UZ f u (Da x.1 u.dh (1-((eu f u.dh).2:Int)))
theorem aVf(h:Fine f u):Bq f u (wu f u):=by
 have hl:=h.len;have hs:=h.nsec
 by_cases hw:u.cut<0\/17+(nsec (f_ f u):Int)<=u.cut
 ·have hlast:(dH (iq f u) (f_ f u))[nsec (f_ f u)]?=some ⟨4,0,iq f u,strOf (jm (f_ f u) 0)⟩:=oU _ _ hl.1;have FW:=aMx h (Nat.le_refl _) _ hlast (-1);have hd:=aDr h (cut := -1) (.inl (by decide));rw[<-Gn h] at FW hd;rw[zI h hw]
  exact⟨FW.1,fun rec k h0 h1 h2 h3 hne=>MN h FW.2 h0 h1 h2 h3 hne,fun _=>⟨rfl,hd⟩,(fun hx=>by cases hx)⟩
 ·by_cases hr:u.cut<16
  ·rw[aVe h (by omega) hr]
   exact⟨h.sz,fun _ _ _ _ _ _ _=>rfl,(fun hx=>by cases hx),fun _=>⟨rfl,.old rfl⟩⟩
  ·obtain⟨j,hj⟩:∃ j:Nat,u.cut=16+(j:Int):=⟨(u.cut-16).toNat,by omega⟩
   have hjn:j<=nsec (f_ f u):=by omega
   have hlen:=iT (iq f u) (f_ f u) hl.1;obtain⟨a,ha⟩:∃ a,(dH (iq f u) (f_ f u))[j]?=some a:=⟨_,zH (by omega)⟩;have FW:=aMx h hjn a ha (max 0 u.bytes);have hlf:=aXe h hjn a ha (cut:=max 0 u.bytes) (by omega);rw[aOh h hj hjn a ha]
   exact⟨FW.1,fun rec k h0 h1 h2 h3 hne=>MN h FW.2 h0 h1 h2 h3 hne,(fun hx=>by cases hx),fun _=>⟨rfl,hlf⟩⟩
theorem Bq.same{x:Fl×Dw×Bool×List Acc}(h:Fine f u)(p:Bq f u x):Da x.1 u.dh ((eu f u.dh).2:Int)=(eu f u.dh).1:=by
 have hk:(eu f u.dh).2=0\/(eu f u.dh).2=1:=Xi _ _;rw[p.far u.dh _ h.r0 h.r3 (by omega) (by omega) (.inr rfl)];exact (aQf f u.dh).1
theorem Bq.whole{x:Fl×Dw×Bool×List Acc}(h:Fine f u)(p:Bq f u x)(hw:x.2.2.1=true):(eu x.1 u.dh).1=((eu f u.dh).1.1+1,u.content.data.toList):=aGa (p.same h) (p.done hw).2
theorem Bq.y8{x:Fl×Dw×Bool×List Acc}(h:Fine f u)(p:Bq f u x)(hw:x.2.2.1=false):(eu x.1 u.dh).1=(eu f u.dh).1\/(eu x.1 u.dh).1=((eu f u.dh).1.1+1,u.content.data.toList) \/
  ∃ s,(eu x.1 u.dh).1=((eu f u.dh).1.1+1,s)/\s.length<=2000/\∀ i,i<(encS u.dh ((eu f u.dh).1.1+1) s).length->(encS u.dh ((eu f u.dh).1.1+1) s)[i]?=some 0\/(i<(f_ f u).length/\(encS u.dh ((eu f u.dh).1.1+1) s)[i]?=(f_ f u)[i]?):=by
 have hk:(eu f u.dh).2=0\/(eu f u.dh).2=1:=Xi _ _;rcases (p.left hw).2 with hx|hx|hx|⟨s,hx,hl,hc⟩
 ·left
  have e:eu x.1 u.dh=eu f u.dh:=aWm fun k h2 h3=>by
   by_cases hkk:k=((eu f u.dh).2:Int)
   ·exact p.far _ k h.r0 h.r3 h2 h3 (.inr hkk)
   ·have e:k=1-((eu f u.dh).2:Int):=by omega
    rw[e];exact hx
  rw[e]
 ·exact .inl (bHa (p.same h) hx)
 ·exact .inr (.inl (aGa (p.same h) hx))
 ·exact .inr (.inr ⟨s,aGa (p.same h) hx,hl,hc⟩)
end
end
namespace Pv
def Oc(n:Nat)(c:Acc):Prop:=(c.kind=3/\(c.bytes=aS/\c.ay=0)/\0<=c.cell/\c.cell<n)\/(c.kind=4/\c.ay=0/\(0<=c.cell/\c.cell<n)/\c.bytes.size=256)
theorem aWj{b:List (List Int)}{f:Fl}{r:List UInt8}{c:Acc}(h:Oc f.length c):fJ ⟨b,f,r⟩ c tu=(⟨b,gI (-1) c f,r⟩,BV c f,0):=by
 rcases h with⟨h1,h2,h3⟩|⟨h1,h2,h3,h4⟩
 ·rw[aFy h1 h2 h3];unfold gI BV;rw[if_pos h1,if_pos h1];rfl
 ·rw[aFx h1 h2 h3 h4];unfold gI BV;rw[if_neg (by omega),if_neg (by omega)];rfl
theorem aBp(cut:Int)(c:Acc)(f:Fl):(gI cut c f).length=f.length:=by
 unfold gI
 split
 ·rfl
 ·exact zW _ _ _ _
theorem aOt{α:Type}(p:ah α):∀ (b:List (List Int)) (f:Fl) (r:List UInt8),(∀ c∈jv p f,Oc f.length c)->mr p ⟨b,f,r⟩=(.ok (zf p f),⟨b,qo (jv p f) f,r⟩):=by
 induction p with
 |ret a=>intro b f r _;rfl
 |ask c k ih=>
  intro b f r h;have hc:Oc f.length c:=h c List.mem_cons_self
  have hk:c.kind ≠ -1:=by rcases hc with⟨h1,_⟩|⟨h1,_⟩<;>omega
  rw[mr,if_neg hk,aWj hc];refine (ih (BV c f) b (gI (-1) c f) r (fun x hx=>?_)).trans rfl;rw[aBp];exact h x (List.mem_cons_of_mem _ hx)
theorem aEl{s:Int}(h0:0<=s)(h1:s+8<=128):∀ n,n<=8->∀ c∈pG s n,Oc 128 c
 |0,_,c,h=>by cases h
 |n+1,hn,c,h=>by
  rcases List.mem_cons.1 h with rfl|h
  ·exact .inl ⟨rfl,⟨rfl,rfl⟩,by show 0<=s+((7-n:Nat):Int);omega,by show s+((7-n:Nat):Int)<128;omega⟩
  ·exact aEl h0 h1 n (by omega) c h
theorem bAo{s:Int}{b:List UInt8}(h0:0<=s):∀ n i,s+((i+n:Nat):Int)<=128->∀ c∈Ad s b n i,Oc 128 c
 |0,_,_,c,h=>by cases h
 |n+1,i,hn,c,h=>by
  rcases List.mem_cons.1 h with rfl|h
  ·exact .inr ⟨rfl,rfl,⟨by show 0<=s+(i:Int);omega,by show s+(i:Int)<128;omega⟩,by rw[bW,eQ]⟩
  ·exact bAo h0 n (i+1) (by omega) c h
theorem aMz{s:Int}{b:List UInt8}(h0:0<=s)(h1:s+8<=128)(hb:nsec b<=8)(hb1:1<=nsec b):∀ c∈dH s b,Oc 128 c:=by
 intro c h;rcases List.mem_cons.1 h with rfl|h
 ·exact .inr ⟨rfl,rfl,⟨h0,by show s<128;omega⟩,by rw[bW,jJ]⟩
 ·rcases List.mem_append.1 h with h|h
  ·exact bAo h0 (nsec b-1) 1 (by omega) c h
  ·obtain rfl:=List.mem_singleton.1 h
   exact .inr ⟨rfl,rfl,⟨h0,by show s<128;omega⟩,by rw[bW,eQ]⟩
theorem aKr:∀ c∈Go.Proofs.YtndpjopifkbgiaaGreatDoor.BM 3,Oc 128 c:=by
 intro c h;rcases List.mem_append.1 h with h|h
 ·exact aEl (by decide) (by decide) 8 (Nat.le_refl _) c h
 ·exact aEl (by decide) (by decide) 8 (Nat.le_refl _) c h
structure xu(f:Fl)(s:Int)(c:List UInt8):Prop where
 sz:Sz f
 cur:(eu f 3).1=(s,c)
theorem bFu:Sz CG:=⟨by unfold CG;rw[List.length_replicate],fun x hx=>by
 rw[List.eq_of_mem_replicate hx,bW];unfold DV
 rw[List.length_replicate]⟩
theorem Rk{t:Int}(h0:0<=t)(h1:t<128):(sec CG t)[0]?=some 0:=by
 obtain⟨n,rfl⟩:=Int.eq_ofNat_of_zero_le h0
 have hn:n<128:=by omega
 have e:CG.getD n aS=strOf DV:=by
  unfold CG;rw[zG,List.getElem?_replicate,if_pos hn,Option.getD_some]
 unfold sec;rw[if_pos ⟨h0,by rw[bFu.1];exact h1⟩,Int.toNat_natCast,e,dD];unfold DV;rw[List.getElem?_replicate,if_pos (by omega)]
theorem rX:xu CG 0 []:=by
 refine⟨bFu,?_⟩
 have h:∀ k:Int,0<=k->k<=1->Da CG 3 k=(0,[]):=fun k h0 h1=>by
  have e:=vJ (rec:=3) (k:=k) (by omega) (by omega) h0 h1;exact yK bFu (by omega) (by omega) (Rk (by omega) (by omega)) 3
 unfold eu;rw[h 0 (by omega) (by omega),h 1 (by omega) (by omega)];rfl
theorem aVn{f:Fl}{s:Int}{c:List UInt8}(h:xu f s c)(b:List (List Int))(r:List UInt8):mr (ah.load 3) ⟨b,f,r⟩=(.ok (GL (s,c)),⟨b,f,r⟩):=by
 obtain⟨q1,q2⟩:=Ku (rec:=3) (f:=f) (by omega) (by omega);have q3:=(Oi 3 f).2.2;rw[(Oi 3 f).1] at q3;rw[aOt _ b f r (by rw[q1,h.sz.1];exact aKr),q1,q2,q3,h.cur]
def DJ(f:Fl)(x:ByteArray):Fl:=(wu f ⟨3,x,-1,0⟩).1
theorem aKh{f:Fl}{s:Int}{c:List UInt8}(h:xu f s c){x:ByteArray}(hx:x.size<=2000)(hs:s+1<=1099511627776)(b:List (List Int))(r:List UInt8):mr (ah.save 3 x) ⟨b,f,r⟩=(.ok ⟨x,s+1,0⟩,⟨b,DJ f x,r⟩):=by
 have hs':(eu f 3).1.1+1<=1099511627776:=by rw[h.cur];exact hs
 have hF:Fine f ⟨3,x,-1,0⟩:=⟨h.sz,(by show (0:Int)<=3;decide),(by show (3:Int)<=3;decide),hx,hs'⟩;obtain⟨q1,q2⟩:=aNt (rec:=3) (c:=x) (f:=f) (by omega) (by omega) hx hs';have q3:=(Oi 3 f).2.2;rw[(Oi 3 f).1] at q3;have hw:=zI hF (.inl (by show (-1:Int)<0;decide));have h1:=hF.first;have h2:=hF.nsec
 have h0:(eu f 3).1.1=s:=by rw[h.cur]
 rw[aOt _ b f r,q1,q2,aFp,q3,h0]
 ·unfold DJ;rw[hw];dsimp only;unfold iq f_;rw[show (eu f (GU.dh ⟨3,x,-1,0⟩)).1.1=s from h0]
 ·rw[q1,h.sz.1];intro c hc;rcases List.mem_append.1 hc with hc|hc
  ·exact aKr c hc
  ·exact aMz (s:=iq f ⟨3,x,-1,0⟩) (b:=f_ f ⟨3,x,-1,0⟩) h1.1 (by omega) h2.2 h2.1 c hc
theorem bBi{f:Fl}{s:Int}{c:List UInt8}(h:xu f s c){x:ByteArray}(hx:x.size<=2000)(hs:s+1<=1099511627776):xu (DJ f x) (s+1) x.data.toList:=by
 have hs':(eu f 3).1.1+1<=1099511627776:=by rw[h.cur];exact hs
 have hF:Fine f ⟨3,x,-1,0⟩:=⟨h.sz,(by show (0:Int)<=3;decide),(by show (3:Int)<=3;decide),hx,hs'⟩;have p:=aVf hF
 have hd:(wu f ⟨3,x,-1,0⟩).2.2.1=true:=by rw[zI hF (.inl (by show (-1:Int)<0;decide))]
 have hw:=p.whole hF hd
 refine⟨p.sz,hw.trans ?_⟩
 show ((eu f 3).1.1+1,_)=_;rw[h.cur]
structure BX(r:kw):Prop where
 kind:r.kind=1\/r.kind=2
 l0:0<=r.level
 l1:r.level<=16
 ol:jb r.ol
 ot:r.ot.length=16
 p:r.payload.size<=1000
theorem wH{α:Type}(a b:List α){n:Nat}(h:n=a.length):(a++b).drop n=b:=by rw[h];exact List.drop_left
theorem bDj(root:List UInt8)(r:kw)(g:BX r):zK root (jM root r)=.okR (oH r):=by
 have hl0:=g.l0;have hl1:=g.l1;unfold jM;obtain⟨C,hC⟩:∃ C,dV (qY root) r.level (oH r)=C:=⟨_,rfl⟩;obtain⟨T,hT⟩:∃ T,qg (qY root) r.level C=T:=⟨_,rfl⟩
 have hTl:T.length=16:=by rw[<-hT];exact fE _ _ _
 have hCl:C.length<4611686018427387904:=by
  rw[<-hC,eY];unfold oH bT;have h1:=aY r.kind;have h2:=aY r.level;have h3:=aY r.ol;have h4:=aY (r.payload.data.toList.length:Int);have h5:r.payload.data.toList.length=r.payload.size:=Array.length_toList;have h6:=g.p;have h7:=g.ot;simp only[List.length_append];omega
 rw[hC,hT];have e1:=lW (n:=r.level) (bT C++T) (by omega) (by omega);have e2:=vH C T hCl;unfold zK;rw[e1];dsimp only;rw[if_neg (by decide),wH _ _ rfl,e2];dsimp only;rw[if_neg (by simp only[List.length_append];omega)]
 have e3:(b_ r.level++(bT C++T)).drop ((b_ r.level).length+(bT C).length)=T:=by rw[<-List.append_assoc];exact wH _ _ (by rw[List.length_append])
 rw[e3];unfold Ee;rw[if_pos hT,<-hC,aJo]
theorem bGu(root:List UInt8)(r:kw)(g:BX r):Oj root (fG root r)=(r,true):=by
 have hl0:=g.l0;have hl1:=g.l1;have hk:=g.kind;unfold Oj;rw[show (fG root r).data.toList=jM root r from dD _,bDj root r g];unfold UB oH;dsimp only;have e1:=lW (n:=r.kind) (b_ r.level++(r.ot++(b_ r.ol++bT r.payload.data.toList))) (by omega) (by omega);have e2:=lW (n:=r.level) (r.ot++(b_ r.ol++bT r.payload.data.toList)) (by omega) (by omega);have e3:=lW (n:=r.ol) (bT r.payload.data.toList) g.ol.1 g.ol.2
 have e4:=vH r.payload.data.toList [] (by
  have h5:r.payload.data.toList.length=r.payload.size:=Array.length_toList;have:=g.p
  omega)
 rw[List.append_nil] at e4;rw[e1];dsimp only;rw[wH _ _ rfl,e2];dsimp only;rw[wH _ _ rfl];unfold mgT
 rw[if_neg (by
  have:=g.ot;rw[List.length_append];simp
  omega),wH _ _ g.ot.symm,e3]
 dsimp only;rw[wH _ _ rfl,e4];dsimp only;rw[show (r.ot++(b_ r.ol++bT r.payload.data.toList)).take 16=r.ot from by rw[<-g.ot];exact List.take_left,qC];unfold mgU;rw[decide_eq_true]
 exact⟨rfl,rfl,hk,hl0,hl1,rfl⟩
theorem lI(root:List UInt8)(r:kw)(g:BX r):(fG root r).size<=2000:=by
 unfold fG;rw[bW];unfold jM bT;have h1:=aY r.kind;have h2:=aY r.level;have h3:=aY r.ol;have h4:=aY (r.payload.data.toList.length:Int);have h5:r.payload.data.toList.length=r.payload.size:=Array.length_toList;have h6:=g.p;have h7:=g.ot;have h8:=aY ((dV (qY root) r.level (oH r)).length:Int);simp only[List.length_append,eY,fE];unfold oH bT;simp only[List.length_append];have h9:=aY ((b_ r.kind++(b_ r.level++(r.ot++(b_ r.ol++(b_ (r.payload.data.toList.length:Int)++r.payload.data.toList))))).length:Int);simp only[List.length_append] at h9;omega
structure v_(f:Fl)(s:Int)(root:List UInt8)(r:kw):Prop where
 dh:xu f s (jM root r)
 s1:1<=s
 ok:BX r
theorem RZ{m:jl}{f:Fl}{s:Int}{r:kw}(h:v_ f s m.root r)(b:List (List Int))(q:List UInt8):mr (qj m) ⟨b,f,q⟩=(.ok r,⟨b,f,q⟩):=by
 have hs:=h.s1
 have e:GL (s,jM m.root r)=⟨fG m.root r,s,0⟩:=by unfold GL;rw[if_neg (by show ¬s=0;omega)];rfl
 unfold qj;rw[aZ ((aVn h.dh b q).trans (by rw[e]))];dsimp only;rw[show ((0:Int)==0)=true from rfl,aZ (bI _ _),bGu m.root r h.ok];exact aZ (bI _ _)
theorem Pz{m:jl}{f:Fl}{s:Int}{c:List UInt8}{r:kw}(h:xu f s c)(hs:s+1<=1099511627776)(g:BX r)(b:List (List Int))(q:List UInt8):mr (y_ m r) ⟨b,f,q⟩=(.ok (),⟨b,DJ f (fG m.root r),q⟩):=by
 unfold y_;rw[aZ (aKh h (lI m.root r g) hs b q)];dsimp only;rw[show ((0:Int)==0)=true from rfl,aZ (bI _ _)];rfl
theorem xN{root:List UInt8}{f:Fl}{s:Int}{c:List UInt8}{r:kw}(h:xu f s c)(h0:0<=s)(hs:s+1<=1099511627776)(g:BX r):v_ (DJ f (fG root r)) (s+1) root r:=by
 have:=bBi h (lI root r g) hs;rw[show (fG root r).data.toList=jM root r from dD _] at this
 exact⟨this,by omega,g⟩
theorem Vy{n:Nat}(h:n<=16):n=0\/n=1\/n=2\/n=3\/n=4\/n=5\/n=6\/n=7\/n=8\/n=9\/n=10\/n=11\/n=12\/n=13\/n=14\/n=15\/n=16:=by omega
theorem Qo{n:Nat}(hn:n<=16)(c2:List Int)(f:Fl)(r:List UInt8):mr (ah.ig 3 16) (jf c2 (cl n) f r)=(.ok n,jf c2 (cl n) f r):=by
 rcases Vy hn with rfl|rfl|rfl|rfl|rfl|rfl|rfl|rfl|rfl|rfl|rfl|rfl|rfl|rfl|rfl|rfl|rfl
 all_goals kernel_rfl
theorem Vu{n:Nat}(hn:n<=16)(c3:List Int)(f:Fl)(r:List UInt8):mr (ah.ig 2 16) (jf (cl n) c3 f r)=(.ok n,jf (cl n) c3 f r):=by
 rcases Vy hn with rfl|rfl|rfl|rfl|rfl|rfl|rfl|rfl|rfl|rfl|rfl|rfl|rfl|rfl|rfl|rfl|rfl
 all_goals kernel_rfl
theorem aCX{n:Nat}(h:n<16):n=0\/n=1\/n=2\/n=3\/n=4\/n=5\/n=6\/n=7\/n=8\/n=9\/n=10\/n=11\/n=12\/n=13\/n=14\/n=15:=by omega
theorem aCA{n:Nat}(hn:n<16)(c2:List Int)(f:Fl)(r:List UInt8):mr (ah.jh 3 16 (n+1)) (jf c2 (cl n) f r)=(.ok (n+1,0),jf c2 (cl (n+1)) f r):=by
 rcases aCX hn with rfl|rfl|rfl|rfl|rfl|rfl|rfl|rfl|rfl|rfl|rfl|rfl|rfl|rfl|rfl|rfl
 all_goals kernel_rfl
theorem Px{n:Nat}(hn:n<16)(c3:List Int)(f:Fl)(r:List UInt8):mr (ah.jh 2 16 (n+1)) (jf (cl n) c3 f r)=(.ok (n+1,0),jf (cl (n+1)) c3 f r):=by
 rcases aCX hn with rfl|rfl|rfl|rfl|rfl|rfl|rfl|rfl|rfl|rfl|rfl|rfl|rfl|rfl|rfl|rfl
 all_goals kernel_rfl
theorem KX{n:Nat}(hn:n<=16):kC (cl n) false=n:=by
 rcases Vy hn with rfl|rfl|rfl|rfl|rfl|rfl|rfl|rfl|rfl|rfl|rfl|rfl|rfl|rfl|rfl|rfl|rfl
 all_goals kernel_rfl
theorem aAu{m:jl}{f:Fl}{s:Int}{r:kw}(h:v_ f s m.root r)(c2 c3:List Int)(q:List UInt8):mr (qj m) (jf c2 c3 f q)=(.ok r,jf c2 c3 f q):=RZ h _ q
theorem aAn{m:jl}{f:Fl}{s:Int}{c:List UInt8}{r:kw}(h:xu f s c)(hs:s+1<=1099511627776)(g:BX r)(c2 c3:List Int)(q:List UInt8):mr (y_ m r) (jf c2 c3 f q)=(.ok (),jf c2 c3 (DJ f (fG m.root r)) q):=Pz h hs g _ q
theorem bCw{n:Nat}(hn:n<16)(c2:List Int)(f:Fl)(r:List UInt8):mr (jP 3 (n+1)) (jf c2 (cl n) f r)=(.ok (n+1),jf c2 (cl (n+1)) f r):=by
 unfold jP;rw[aZ (aCA hn c2 f r)];rfl
theorem bCx{n:Nat}(hn:n<16)(c3:List Int)(f:Fl)(r:List UInt8):mr (jP 2 (n+1)) (jf (cl n) c3 f r)=(.ok (n+1),jf (cl (n+1)) c3 f r):=by
 unfold jP;rw[aZ (Px hn c3 f r)];rfl
theorem aLe{n:Nat}(hn:n<16)(c2:List Int)(f:Fl)(r:List UInt8):mr (pW n) (jf c2 (cl n) f r)=(.ok (),jf c2 (cl (n+1)) f r):=by
 unfold pW;rw[aZ (bCw hn c2 f r),show (((n+1:Nat):Int)==((n+1:Nat):Int))=true from beq_self_eq_true _,aZ (bI _ _)];rfl
theorem aCp{n:Nat}(hn:n<16)(he:n % 2=0)(h:j_):mr (pF n) h=(.ok (),h):=by
 unfold pF;rw[he,show (((0:Nat):Int)==0)=true from rfl,aZ (bI _ _),decide_eq_true (by omega),aZ (bI _ _)];rfl
theorem aVc{n:Nat}(he:n % 2=1)(h:j_):mr (pF n) h=(.error 21,h):=by
 unfold pF;rw[he,show (((1:Nat):Int)==0)=false from rfl];exact aCt (wX _ _)
theorem kW{n:Nat}(hn:n<16){p:ByteArray}(hp:p.size<=1000):BX (oD n p):=⟨.inl rfl,by show (0:Int)<=((n+1:Nat):Int);omega,by show ((n+1:Nat):Int)<=16;omega,by show jb 0;unfold jb;omega,rfl,hp⟩
theorem aBg{m:jl}{n:Nat}{f:Fl}{s:Int}{c:List UInt8}{p:ByteArray}(h:xu f s c)(hs:s+1<=1099511627776)(hn:n<16)(hp:p.size<=1000)(c2:List Int)(q:List UInt8) :
  mr (lX m n p) (jf c2 (cl n) f q)=(.ok { jr with payload:=p },jf c2 (cl (n+1)) (DJ f (fG m.root (oD n p))) q):=by
 unfold lX;rw[aZ (aAn h hs (kW hn hp) _ _ q)];rw[aZ (aLe hn c2 _ q)];rfl
theorem aAb{m:jl}(hk:1<=m.kind/\m.kind<=7)(h:j_):mr (kM m) h=nfB (fun _ h=>(.ok (),h)) (mr (vO m) h):=by
 unfold kM;rw[decide_eq_true (show m.kind>=1 from hk.1),decide_eq_true hk.2,show (bif true then true else false)=true from rfl,aZ (bI _ _),aLc];rfl
theorem nG{m:jl}(hk:m.kind=2\/m.kind=4\/m.kind=6)(h:j_):mr (kM m) h=(.ok (),h):=by
 rw[aAb (by omega)];unfold vO;rw[if_neg (by omega),if_neg (by omega),if_neg (by omega)];rfl
theorem aGh{m:jl}(hk:m.kind=1\/m.kind=3)(hp:m.payload.size<=1000)(h:j_):mr (kM m) h=(.ok (),h):=by
 rw[aAb (by omega)];unfold vO;rw[if_pos (by omega),decide_eq_true (by omega)];rfl
theorem aZy{m:jl}(hk:m.kind=5)(h0:0<=m.ol)(h1:m.ol<16)(h2:m.ol.tmod 2=0)(h3:(m.ot==m.id)=false)(h:j_):mr (kM m) h=(.ok (),h):=by
 rw[aAb (by omega)];unfold vO;rw[if_neg (by omega),if_pos hk,decide_eq_true (show m.ol>=0 from h0),decide_eq_true h1,h2,h3];rfl
theorem vN{m:jl}(hk:m.kind=7)(hx:(m.xt==m.id)=true)(h:j_):mr (kM m) h=(.ok (),h):=by
 rw[aAb (by omega)];unfold vO;rw[if_neg (by omega),if_neg (by omega),if_pos hk,hx];rfl
theorem nJ{m:jl}{n:Nat}{c2:List Int}{f:Fl}{q:List UInt8}(hc:∀ h,mr (kM m) h=(.ok (),h))(hn:n<=16):mr (jD m) (jf c2 (cl n) f q)=mr (nT m n) (jf c2 (cl n) f q):=by
 unfold jD;rw[aZ (hc _),aZ (Qo hn c2 f q)]
section
variable {m:jl} {n n2:Nat} {f:Fl} {s:Int} {c c2:List Int} {b:List UInt8} {r:kw} {q:List UInt8}
theorem aZt(hk:m.kind=1)(hp:m.payload.size<=1000)(h:xu f s b)(hs:s+1<=1099511627776)(hn:n<16)(he:n % 2=0) :
  mr (jD m) (jf c2 (cl n) f q)=(.ok { jr with payload:=m.payload },jf c2 (cl (n+1)) (DJ f (fG m.root (oD n m.payload))) q):=by
 rw[nJ (aGh (.inl hk) hp) (by omega)];unfold nT;rw[if_pos hk];unfold aBf;rw[aZ (aCp hn he _),aZ (aBg h hs hn hp c2 q)];rfl
theorem bDn(hk:m.kind=4)(hn:n<16)(he:n % 2=0):mr (jD m) (jf c2 (cl n) f q)=(.ok { jr with ot:=m.id,ol:=n },jf c2 (cl n) f q):=by
 rw[nJ (nG (.inr (.inl hk))) (by omega)];unfold nT;rw[if_neg (by omega),if_neg (by omega),if_neg (by omega),if_pos hk];unfold Zr;rw[aZ (aCp hn he _)];rfl
theorem aUo(hn:n<16)(ho:jb m.ol)(ht:m.ot.length=16)(g:BX r):BX (UT m n r):=⟨.inr rfl,by show (0:Int)<=((n+1:Nat):Int);omega,by show ((n+1:Nat):Int)<=16;omega,ho,ht,g.p⟩
theorem IC(hk:m.kind=5)(h0:0<=m.ol)(h1:m.ol<16)(h2:m.ol.tmod 2=0)(h3:(m.ot==m.id)=false)(ht:m.ot.length=16)(h:v_ f s m.root r)(hs:s+1<=1099511627776)(hn:n<16)(he:n % 2=1)(hr:r.kind=1)(hl:r.level=n) :
  mr (jD m) (jf c2 (cl n) f q)=(.ok (eG m.link (UT m n r)),jf c2 (cl (n+1)) (DJ f (fG m.root (UT m n r))) q):=by
 rw[nJ (aZy hk h0 h1 h2 h3) (by omega)];unfold nT;rw[if_neg (by omega),if_neg (by omega),if_neg (by omega),if_neg (by omega),if_pos hk];unfold Zg;rw[he,show (((1:Nat):Int)==1)=true from rfl,aZ (bI _ _),aZ (aAu h _ _ q),hr,hl,show ((1:Int)==1)=true from rfl,show ((n:Int)==(n:Int))=true from beq_self_eq_true _,show (bif true then true else false)=true from rfl,aZ (bI _ _)];rw[aZ (aLe hn c2 f q)];rw[aZ (aAn h.dh hs (aUo hn (by unfold jb;omega) ht h.ok) _ _ q)];rfl
theorem aXx(hk:m.kind=6)(h:v_ f s m.root r)(hn:n<=16)(he:n % 2=0)(hr:r.kind=2)(hl:r.level=n):mr (jD m) (jf c2 (cl n) f q)=(.ok (eG m.link r),jf c2 (cl n) f q):=by
 rw[nJ (nG (.inr (.inr hk))) hn];unfold nT;rw[if_neg (by omega),if_neg (by omega),if_neg (by omega),if_neg (by omega),if_neg (by omega),if_pos hk];unfold aAk;rw[he,show (((0:Nat):Int)==0)=true from rfl,aZ (bI _ _),aZ (aAu h _ _ q),hr,hl,show ((2:Int)==2)=true from rfl,show ((n:Int)==(n:Int))=true from beq_self_eq_true _,show (bif true then true else false)=true from rfl,aZ (bI _ _)];rfl
structure Xn(m:jl)(p:ByteArray):Prop where
 xt:(m.xt==m.id)=true
 o:opened (keyS m.link m.xt m.xl) m.bn m.bc m.bt=true
 p:strOf (dV (keyS m.link m.xt m.xl) m.bn m.bc.data.toList)=p
theorem aBj{p:ByteArray}(hk:m.kind=7)(t:Xn m p)(hp:p.size<=1000)(h:xu f s b)(hs:s+1<=1099511627776)(hn:n<16)(he:n % 2=0)(hl:m.xl=n) :
  mr (jD m) (jf c2 (cl n) f q)=(.ok { jr with payload:=p },jf c2 (cl (n+1)) (DJ f (fG m.root (oD n p))) q):=by
 rw[nJ (vN hk t.xt) (by omega)];unfold nT;rw[if_neg (by omega),if_neg (by omega),if_neg (by omega),if_neg (by omega),if_neg (by omega),if_neg (by omega)]
 have e1:Zo m=0:=by unfold Zo;rw[t.o];rfl
 have e2:tJ m=p:=by unfold tJ;rw[t.o,t.p];rfl
 unfold qU;rw[aZ (aCp hn he _),hl,show ((n:Int)==(n:Int))=true from beq_self_eq_true _,aZ (bI _ _),e1,e2,show ((0:Int)==0)=true from rfl,aZ (bI _ _),decide_eq_true (by omega),aZ (bI _ _),aZ (aBg h hs hn hp c2 q)];rfl
theorem aJq(hk:m.kind=7)(hx:(m.xt==m.id)=true)(hn:n<=16)(he:n % 2=1):mr (jD m) (jf c2 (cl n) f q)=(.error 21,jf c2 (cl n) f q):=by
 rw[nJ (vN hk hx) hn];unfold nT;rw[if_neg (by omega),if_neg (by omega),if_neg (by omega),if_neg (by omega),if_neg (by omega),if_neg (by omega)];unfold qU;exact aCt (aVc he _)
theorem aRr(hk:m.kind=3)(hp:m.payload.size<=1000)(h:xu f s b)(hs:s+1<=1099511627776)(hn:n<=16)(he:n % 2=1) :
  mr (jD m) (jf c2 (cl n) f q)=(.ok { jr with payload:=m.payload },jf c2 (cl n) (DJ f (fG m.root ⟨1,(n:Int),yh,0,m.payload⟩)) q):=by
 rw[nJ (aGh (.inr hk) hp) hn];unfold nT;rw[if_neg (by omega),if_neg (by omega),if_pos hk];unfold Xc;have g:BX ⟨1,(n:Int),yh,0,m.payload⟩:=⟨.inl rfl,by show (0:Int)<=(n:Int);omega,by show (n:Int)<=16;omega,by show jb 0;unfold jb;omega,rfl,hp⟩;rw[he,show (((1:Nat):Int)==1)=true from rfl,aZ (bI _ _),aZ (aAn h hs g _ _ q)];rfl
theorem aFc(hk:m.kind=2)(h:v_ f s m.root r)(hn:n<=16)(he:n % 2=1)(hr:r.kind=1)(hl:r.level=n)(h2:n2<16):mr (jD m) (jf (cl n2) (cl n) f q)=(.ok { jr with session:=n2,payload:=r.payload },jf (cl (n2+1)) (cl n) f q):=by
 rw[nJ (nG (.inl hk)) hn];unfold nT;rw[if_neg (by omega),if_pos hk];unfold Ol;rw[aZ (aAu h _ _ q),hr,hl,he,show n+1-1=n from by omega,show ((1:Int)==1)=true from rfl,show ((n:Int)==(n:Int))=true from beq_self_eq_true _,show (bif true then true else false)=true from rfl,aZ (bI _ _)];rw[show (((1:Nat):Int)==0)=false from rfl,show (bif false then pW n else ah.ret ())=ah.ret () from rfl,ah.Bo];unfold bEn;rw[aZ (Vu (by omega) (cl n) f q),decide_eq_true (by omega),aZ (bI _ _),aZ (bCx h2 (cl n) f q)];rfl
theorem aYq(hk:m.kind=2)(h:v_ f s m.root r)(hn:n<=16)(hr:(bif r.kind==1 then r.level==((n+1-n % 2:Nat):Int) else false)=false):mr (jD m) (jf c2 (cl n) f q)=(.error 14,jf c2 (cl n) f q):=by
 rw[nJ (nG (.inl hk)) (by omega)];unfold nT;rw[if_neg (by omega),if_pos hk];unfold Ol;rw[aZ (aAu h _ _ q),hr];exact aCt (wX _ _)
end
theorem aGC(a:Act)(h:a.tmps.size=39){ds:List Deferred}(hd:a.defers=ds):∃ u0 u1 u2 u3 u4 u5 u6 u7 u8 u9 u10 u11 u12 u13 u14 u15 u16 ZJ ZI ZH u20 u21 u22 u23 u24 u25 u26 u27 u28 u29 u30 u31 u32 u33 u34 u35 u36 u37 u38,a={ tmps:=#[u0,u1,u2,u3,u4,u5,u6,u7,u8,u9,u10,u11,u12,u13,u14,u15,u16,ZJ,ZI,ZH,u20,u21,u22,u23,u24,u25,u26,u27,u28,u29,u30,u31,u32,u33,u34,u35,u36,u37,u38],defers:=ds }:=by
 obtain⟨⟨L⟩,d⟩:=a
 obtain rfl:d=ds:=hd
 have hL:L=(List.range 39).map fun i=>L.getD i undef:=by
  apply List.ext_getElem
  ·simpa using h
  ·intro i h1 h2;rw[List.getElem_map,List.getElem_range,zG,zH h1];rfl
 exact⟨L.getD 0 undef,L.getD 1 undef,L.getD 2 undef,L.getD 3 undef,L.getD 4 undef,L.getD 5 undef,L.getD 6 undef,L.getD 7 undef,L.getD 8 undef,L.getD 9 undef,L.getD 10 undef,L.getD 11 undef,L.getD 12 undef,L.getD 13 undef,L.getD 14 undef,L.getD 15 undef,L.getD 16 undef,L.getD 17 undef,L.getD 18 undef,L.getD 19 undef,L.getD 20 undef,L.getD 21 undef,L.getD 22 undef,L.getD 23 undef,L.getD 24 undef,L.getD 25 undef,L.getD 26 undef,L.getD 27 undef,L.getD 28 undef,L.getD 29 undef,L.getD 30 undef,L.getD 31 undef,L.getD 32 undef,L.getD 33 undef,L.getD 34 undef,L.getD 35 undef,L.getD 36 undef,L.getD 37 undef,L.getD 38 undef,congrArg (fun l=>({ tmps:=⟨l⟩,defers:=d }:Act)) hL⟩
theorem gm.aML{A:kz}{s:St}{a:Act}{w:World}{env:Env}(h:gm A s a w env)(a':Act)(t':List (Nat×Option Bool×PV))(hs:a'.tmps.size=a.tmps.size)(ht:∀ t g pv,find t' t=some (g,pv)->g=none/\∃ v,a'.tmps[t]?=some v/\RV (aU A w env) pv v):gm { A with ds:=a'.defers } ⟨t',s.o⟩ a' w env:=
 { gu:=h.gu,size:=hs.trans h.size,dom:=h.dom,ji:=h.ji,live:=h.live,inj:=h.inj,tmps:=fun t g pv hf _=>(ht t g pv hf).2,defers:=rfl,und:=fun t pv hf=>(by cases (ht t _ pv hf).1),l_:=h.l_,dev:=h.dev }
def opC(m:jl):Array Value:=(#[.int .i64 m.kind]:Array Value)++Du m.root++Du m.id++Du m.link++#[.string m.payload]++Du m.ot++#[.int .i64 m.ol]++Du m.xt++#[.int .i64 m.xl,.int .i64 m.bn,.string m.bc]++Du m.bt
theorem aVj{C:Ctx}{m:jl}{xs:List Value}(h:RL C (zo m) xs):xs=(opC m).toList/\m.id.length=16/\m.bt.length=16:=by
 unfold zo at h
 cases h with|cons k0 h=>cases h with|cons k1 h=>cases h with|cons k2 h=>cases h with|cons k3 h=>cases h with|cons k4 h=>cases h with|cons k5 h=>cases h with|cons k6 h=>cases h with|cons k7 h=>cases h with|cons k8 h=>cases h with|cons k9 h=>cases h with|cons k10 h=>cases h with|cons k11 h=>
  cases h;cases k0;cases k4;cases k6;cases k8;cases k9;cases k10
  cases k1 with|bs k1=>cases k2 with|bs k2=>cases k3 with|bs k3=>cases k5 with|bs k5=>cases k7 with|bs k7=>cases k11 with|bs k11=>
   exact⟨by simp[opC,Du],k2,k11⟩
structure yw(m:jl):Prop where
 root:m.root.length=16
 id:m.id.length=16
 link:m.link.length=16
 ot:m.ot.length=16
 xt:m.xt.length=16
 bt:m.bt.length=16
theorem bDl(C:Ctx){m:jl}(h:yw m):RL C (zo m) (opC m).toList:=by
 have e:(opC m).toList=[.int .i64 m.kind]++(m.root.map o9++(m.id.map o9++(m.link.map o9++([.string m.payload]++(m.ot.map o9++([.int .i64 m.ol]++(m.xt.map o9++([.int .i64 m.xl]++([.int .i64 m.bn]++([.string m.bc]++(m.bt.map o9++[]))))))))))):=by
  simp[opC,Du]
 rw[e];exact .cons (.lit rfl) (.cons (.bs h.root) (.cons (.bs h.id) (.cons (.bs h.link) (.cons (.lit rfl) (.cons (.bs h.ot) (.cons (.lit rfl) (.cons (.bs h.xt) (.cons (.lit rfl) (.cons (.lit rfl) (.cons (.lit rfl) (.cons (.bs h.bt) .nil)))))))))))
theorem aLf:u_ Tryz.prog 31 102:=⟨⟨_,Tryz.underlying31,rfl⟩,by kernel_rfl⟩
theorem sF{m:jl}(h:yw m):(opC m).size=102:=by
 unfold opC;simp only[Array.size_append,aWq,h.root,h.id,h.link,h.ot,h.xt,h.bt,List.size_toArray,List.length_cons,List.length_nil]
theorem aUy{C:Ctx}:∀ {l m:List PC} {xs:List Value},RL C (l++m) xs->∃ ys zs,xs=ys++zs/\RL C l ys/\RL C m zs
 |[],m,xs,h=>⟨[],xs,rfl,.nil,h⟩
 | c::l,m,xs,h=>by
  cases h with
  |@cons _ _ _ xa xb h1 h2=>
   obtain⟨ys,zs,rfl,h3,h4⟩:=aUy h2
   exact⟨xa++ys,zs,(List.append_assoc ..).symm,.cons h1 h3,h4⟩
def AU(hd:Value)(m:jl)(f:Int):Array Value:=(#[hd]:Array Value)++opC m++#[.int .i64 f]
theorem QI{C:Ctx}{hd:Value}{m:jl}{f:Int}{xs:List Value}(h:RL C (.lit hd::ku m f) xs):xs=(AU hd m f).toList:=by
 have e:ku m f=zo m++[.lit (.int .i64 f)]:=rfl;rw[e] at h
 cases h with
 | cons k h=>
  cases k;obtain⟨ys,zs,rfl,h1,h2⟩:=aUy h;rw[(aVj h1).1]
  cases h2 with
  |cons k2 h2=>
   cases k2;cases h2;simp[AU]
theorem QH{C:Ctx}{hd:Value}(hdv:R C .dv [hd]){m:jl}(h:yw m)(f:Int):RL C (.dv::ku m f) (AU hd m f).toList:=by
 have e:(AU hd m f).toList=[hd]++((opC m).toList++[.int .i64 f]):=by simp[AU]
 rw[e];exact .cons hdv ((bDl C h).append (.cons (xs:=[_]) (.lit rfl) .nil))
structure R3(m:jl)(hd:Value)(g g3:Nat)(ds:List Deferred)(w1:World)(a:Act)(W:World)(go:Nat):Prop where
 sz:a.tmps.size=39
 ds:a.defers=ds
 t0:a.tmps[0]?=some hd
 t1:a.tmps[1]?=some (.pointer (some ⟨g,0,none⟩))
 t3:a.tmps[3]?=some (.pointer (some ⟨g3,0,none⟩))
 t4:a.tmps[4]?=some (.pointer (some ⟨go,0,none⟩))
 gu:dm (fun b=>b=g) w1 W
 new:w1.heap.size<=go/\go<W.heap.size
 bg:au W g 31 (opC m)
 bo:au W go 122 (AU hd m 0)
def r3T(hd:Value)(g3:Nat):List (Nat×Option Bool×PV):=[(0,none,jo hd),(1,none,dn (.pt 900001 0 0)),(3,none,jo (.pointer (some ⟨g3,0,none⟩)))]
def r3S(m:jl)(hd:Value)(g3:Nat):St:=⟨r3T hd g3,[(900001,none,0,.box 31 (zo m))]⟩
def r3E(m:jl)(hd:Value)(g3:Nat):St:=⟨(4,none,dn (.pt 3003 0 0))::r3T hd g3,[(3003,none,0,.box 122 (.lit hd::ku m 0)),(900001,none,0,.box 31 (zo m))]⟩
structure R3A(g:Nat)(w1:World)(ds:List Deferred)(A:kz):Prop where
 nt:A.nt=Tryz.f45.ntmps
 ok:mi Tryz.prog (fun _=>True) A
 di:∀ l,¬A.di l
 S:∀ b,A.S b->b=g
 w0:A.w0=w1
 ds:A.ds=ds
 eg:A.ext 900001=some (iK g)
theorem Q4(m:jl)(hml:yw m)(w1:World)(g g3:Nat)(hd:Value)(h1:hd.oneCell'=true)(hB:au w1 g 31 (opC m))(a:Act)(h39:a.tmps.size=39)(t0:a.tmps[0]?=some hd)(t1:a.tmps[1]?=some (.pointer (some ⟨g,0,none⟩)))(t3:a.tmps[3]?=some (.pointer (some ⟨g3,0,none⟩))) :
  ∃ A:kz,R3A g w1 a.defers A/\o7 A (r3S m hd g3) a w1:=by
 have Ah:∀ b,SX [⟨900001,31,zo m,zo m⟩] (fun _=>g) Dv.non b->b=g:=by
  rintro b (h|⟨o,ho,rfl⟩)
  ·exact h.elim
  ·rfl
 have h3:∀ o∈[(⟨900001,31,zo m,zo m⟩:Ob)],(fun _=>True) ((fun _=>g) o.x)/\∃ cs,au w1 ((fun _=>g) o.x) o.t cs/\RL { w:=w1,ok:=fun _=>False,env:=fun _=>none } o.l cs.toList:=fun o ho=>by
  obtain rfl:=List.mem_singleton.1 ho
  exact⟨trivial,_,hB,bDl _ hml⟩
 have h4:∀ o∈[(⟨900001,31,zo m,zo m⟩:Ob)],∀ o'∈[(⟨900001,31,zo m,zo m⟩:Ob)],(fun _:Nat=>g) o.x=(fun _:Nat=>g) o'.x->o.x=o'.x:=fun o ho o' ho' _=>by
  obtain rfl:=List.mem_singleton.1 ho
  obtain rfl:=List.mem_singleton.1 ho'
  rfl
 have h5:mg { w:=w1,ok:=fun _=>False,env:=o5 [⟨900001,31,zo m,zo m⟩] (fun _=>g) none Dv.non.hd } [jo hd,dn (.pt 900001 0 0)] [hd,.pointer (some ⟨g,0,none⟩)]:=
  ⟨.w (.one (.lit h1)),.w (.one (.pt ⟨_,_,rfl⟩ ⟨0,_,rfl,Nat.le_refl _,fun _=>⟨_,rfl,rfl⟩⟩)),trivial⟩
 obtain⟨hA,env,hE⟩:=aFo (P:=Tryz.prog) (I:=fun _=>True) (fn:=Tryz.f45) (os:=[⟨900001,31,zo m,zo m⟩]) (O:=fun _=>none) (dev:=none) (di:=fun _=>False) (args:=[jo hd,dn (.pt 900001 0 0)])
  (w:=w1) (ok0:=fun _=>False) (vs:=[hd,.pointer (some ⟨g,0,none⟩)]) (bl:=fun _=>g) (D:=Dv.non) (X0:=fun _=>True) rfl rfl (fun _ _=>trivial) (fun b hb=>⟨by rw[Ah b hb];exact hB.lt,fun h=>h⟩)
  (ng.non _) (fun _ _ _ _ _ _ h=>h.elim) rfl (fun p hp=>by cases hp) (fun _=>⟨fun _ h=>h,fun _ _ _ h=>h⟩) h3 h4 h5
 refine⟨⟨w1,SX [⟨900001,31,zo m,zo m⟩] (fun _=>g) Dv.non,fun _=>False,Tryz.f45.ntmps,n_ [⟨900001,31,zo m,zo m⟩] (fun _=>g) none Dv.non.hd,Dv.non,fun _=>False,fun _=>True,a.defers⟩,
  ⟨rfl,⟨hA.mem,hA.sub,hA.old,hA.step,hA.dvh,hA.Bg⟩,fun _ h=>h,Ah,rfl,rfl,rfl⟩,env,hE.aML a _ ?_ ?_⟩
 ·have:=hE.size;rw[h39];exact this.symm
 ·intro t gd pv hf;obtain⟨v1,e1,r1⟩:=hE.tmps 1 none _ rfl trivial
  have e1':v1=.pointer (some ⟨g,0,none⟩):=by simpa using e1.symm
  subst e1'
  by_cases h0:0=t
  ·subst h0;rw[r3T,aJ] at hf;cases hf
   exact⟨rfl,_,t0,.w (.one (.lit h1))⟩
  ·rw[r3T,aN _ _ h0] at hf
   by_cases h2:1=t
   ·subst h2;rw[aJ] at hf;cases hf
    exact⟨rfl,_,t1,r1⟩
   ·rw[aN _ _ h2] at hf
    by_cases h3:3=t
    ·subst h3;rw[aJ] at hf;cases hf
     exact⟨rfl,_,t3,.w (.one (.lit rfl))⟩
    ·rw[aN _ _ h3] at hf;cases hf
theorem Q5{m:jl}{hd:Value}{g g3:Nat}{ds:List Deferred}{w1:World}{A:kz}(hA:R3A g w1 ds A){a:Act}{W:World}(h:o7 A (r3E m hd g3) a W):∃ go,R3 m hd g g3 ds w1 a W go:=by
 obtain⟨env,hE⟩:=h;obtain⟨v0,e0,r0⟩:=hE.tmps 0 none _ rfl trivial;obtain⟨v3,e3,r3⟩:=hE.tmps 3 none _ rfl trivial;obtain⟨g1,c1,e1,x1,b1,r1⟩:=o7.BD hE (t:=1) (x:=900001) rfl rfl;obtain⟨go,c4,e4,x4,b4,r4⟩:=o7.BD hE (t:=4) (x:=3003) rfl rfl
 have hg:g1=g:=by
  have:=(hE.l_ 900001 _ hA.eg).2.now x1;exact (gJ (b:=g1) (g:=g) (by rw[<-this];rfl))
 subst hg;have hlv:=hE.live 3003 0 _ go x4 rfl
 have hnew:w1.heap.size<=go:=by
  rcases hlv.2 with h|⟨_,h⟩
  ·rw[hA.w0] at h;exact h
  ·cases h
 have ec1:c1=opC m:=by apply Array.ext';exact (aVj r1).1
 have ec4:c4=AU hd m 0:=by apply Array.ext';exact QI r4
 subst ec1 ec4;have hs:=hE.size;rw[hA.nt] at hs
 refine⟨go,⟨hs,hE.defers.trans hA.ds,e0.trans (congrArg some r0.dw),e1,e3.trans (congrArg some r3.dw),e4,?_,⟨hnew,b4.lt⟩,b1,b4⟩⟩
 have:=hE.gu;rw[hA.w0] at this;exact this.mono fun b _ hb=>hA.S b hb
theorem aZz{m:jl}{O:List Acc->Option je}(h:rP (go O (kM m) []).2):1<=m.kind/\m.kind<=7:=by
 unfold kM at h;rw[xZ] at h
 cases hb:(bif decide (m.kind>=1) then decide (m.kind<=7) else false) with
 |false=>
  exfalso;rw[hb] at h
  exact h (sU 1) ((vG _ _ _).subset (by show _∈_++[_];simp)) rfl
 | true=>
  cases h1:decide (m.kind>=1) with
  |false=>rw[h1] at hb;cases hb
  |true=>
   rw[h1] at hb
   exact⟨of_decide_eq_true h1,of_decide_eq_true hb⟩
theorem bDm(m:jl):(opC m)[0]?=some (.int .i64 m.kind):=by
 unfold opC
 repeat rw[Array.getElem?_append_left (by simp only[Array.size_append,List.size_toArray,List.length_cons,List.length_nil];omega)]
 rfl
theorem bDk(hd:Value){m:jl}(h:yw m)(f:Int):(AU hd m f)[103]?=some (.int .i64 f):=by
 unfold AU;rw[Array.getElem?_append_right (by simp[sF h])];simp[sF h]
theorem JR(hd:Value){m:jl}(h:yw m)(f f':Int):(AU hd m f).setIfInBounds 103 (.int .i64 f')=AU hd m f':=by
 have hs:((#[hd]:Array Value)++opC m).size=103:=by simp[sF h]
 unfold AU;rw[Array.setIfInBounds_append_right (by omega)];simp[sF h]
theorem L6(m:jl)(hm:uz m)(n:Nat)(hn:n<=16)(hk:1<=m.kind/\m.kind<=7):vU Tryz.prog a_ ny (UQ m.kind) ul (ku m n) (nT m n) [] (fun o=>.w (.agg (h_ o))):=by
 have hc:m.kind=1\/m.kind=2\/m.kind=3\/m.kind=4\/m.kind=5\/m.kind=6\/m.kind=7:=by omega
 unfold nT UQ
 rcases hc with h|h|h|h|h|h|h<;>rw[h]
 ·exact aZu m n (by omega) hm.root hm.payload
 ·exact bEd m n (by omega) hm.root
 ·exact bDy m n (by omega) hm.root hm.payload
 ·exact bDo m n (by omega)
 ·exact IE m n (by omega) hm.root hm.link hm.ot hm.ol
 ·exact aXy m n (by omega) hm.root hm.link
 ·exact bAj m n (by omega) hm.root hm.link hm.xt hm.xl hm.bn hm.bc
theorem aBs{α:Type}(p:ah α):p.bind .ret=p:=by
 induction p with
 |ret a=>rfl
 |ask a k ih=>exact congrArg (ah.ask a) (funext fun r=>ih r)
theorem Ul{C:Ctx}{o:jk}{v:Value}(h:RV C (.w (.agg (h_ o))) v):v=.agg (jw o)/\qp o:=by
 cases h with
 | w h=>cases h with
  |@agg _ cs h=>
   obtain⟨h1,h2⟩:=QD h
   exact⟨congrArg Value.agg (Array.ext' h1),h2⟩
theorem aYn(k:Int)(args:Array Value)(w:World):(callFunc (UQ k) args).run Tryz.prog w=.ok (.enter (UQ k) args) w:=by
 unfold UQ
 repeat' split
 all_goals kernel_rfl
theorem aOj(m:jl)(hm:uz m)(hml:yw m)(w:World)(g:Nat)(D:Dv)(X0:Nat->Prop)(hB:au w g 31 (opC m))(hM:∀ w',dm (fun b=>D.S b\/b=g) w w'->a_ w')(hold:∀ b,D.S b->b<w.heap.size)
  (hst:ng Tryz.prog D (fun h=>h <+: (go D.O (cO m) []).2)) (Ac:∀ l X Y w w' chain,D.pan l X w chain->dm X w w'->(∀ b,Y b->X b)->D.pan l Y w' chain) (hRe:F5 D) (Dz:OB D.O) (hinv:D.inv [] X0 w) (hX0:X0 g) :
  Calls Tryz.prog 45 #[D.hd,.pointer (some ⟨g,0,none⟩)] w fun e w'=>dm (fun b=>D.S b\/b=g) w w'/\aUd m D X0 e w':=by
 have hmf:∀ (fn:Fn) (first cap:Array Value) (w:World),(Instr.makeFunc fn first cap).run Tryz.prog w=.ok (.func fn first cap) w:=fun _ _ _ _=>rfl;have HH:=hide (And.intro hB (And.intro hM (And.intro hold (And.intro hst (And.intro Ac (And.intro hRe (And.intro Dz (And.intro hinv hX0))))))));clear hB hM hold hst Ac hRe Dz hinv hX0;generalize hhd:D.hd=hd
 go_enter_defers Tryz.func45,Tryz.ntmps45
 go_upto_region 2 with fail
 generalize hW0:World.alloc _ (.cells _ 40)=W0
 have z1:Ext w W0:=by
  rw[<-hW0]
  repeat' (first|(with_reducible exact dm.refl _ _)|(with_reducible exact Ext.refl _)|(with_reducible assumption)|(with_reducible refine dm.alloc ?_ _)|(with_reducible refine dm.drew ?_)|(with_reducible refine dm.drewN ?_ _)|(with_reducible refine dm.setCell ?_ ?_ _)|(with_reducible refine Ext.alloc ?_ _)|(with_reducible refine Ext.drew ?_)|(with_reducible refine Ext.drewN ?_ _)|(with_reducible refine Ext.setCell ?_ ?_ _)|(simp;done)|(simp;omega)|omega)
 have z2:au W0 w.heap.size 40 (jw jr):=by
  rw[<-hW0];exact au.new' _ _ _ (by simp)
 clear hW0;have HZ:=hide (And.intro z1 z2);clear z1 z2
 go_wp2_with (refine dL (ty:=31) (t:=31) (x:=.tmp 1) rfl rfl aLf rfl (cs:=opC m) ((aA HH).1.ext (aA HZ).1) (sF hml) ?_)
 have hx0:=aA HZ;obtain⟨hB,hM,hold,hst,Ac,hRe,Dz,hinv,hX0⟩:=aA HH;have hS:ng Tryz.prog (iC ny D) (fun h=>h <+: (go (kE ny D.O) (jD m) []).2):=aJy hst fun l c hN hs=>aQm _ _ _ _ _ _ List.nil_prefix hN hs;have Ej:(iC ny D).inv [] (fun b=>X0 b\/b=w.heap.size) W0:=⟨D.grow _ _ _ _ _ hinv (hx0.1.mono fun _ _ h=>h.elim) (fun b hb=>hb.imp id fun e=>by subst e;exact⟨Nat.le_refl _,hx0.2.lt⟩),by simp[kE],fun _ h=>by cases h⟩;have hL0:Left (kE ny D.O) (jD m) [] (jD m) []:=Left.start _ _ _;have hL1:=Left.step (q:=kM m) hL0
 refine (bHg m (kE ny D.O) [] (aVz Dz) (aVy ny D.O) W0 (fun _=>False) [.agg (opC m)] (fun _=>0) (iC ny D) (fun b=>X0 b\/b=w.heap.size)
  (fun w' hc=>hM w' (hx0.1.trans' hc (fun _ _ h=>h.elim) (fun i _ h=>.inl (h.elim id (fun⟨o,ho,_⟩=>by cases ho))))) (fun b hb=>⟨Nat.lt_of_lt_of_le (hold b (hb.elim id (fun⟨o,ho,_⟩=>by cases ho))) hx0.1.size,fun h=>h⟩)
  (hS.mono fun h hh hO=>(Left.di hL0 h hh.1 hh.2 hO).2) (tZ Ac) rfl (fun p hp=>by cases hp;exact Ej) (fun h=>by cases h) (fun o ho=>by cases ho) (fun o ho=>by cases ho) ⟨.w (.agg (bDl _ hml)),trivial⟩).mono ?_
 rintro e w1 ⟨hc1,hq⟩;have hcs:dm (fun b=>D.S b\/b=g) w w1:=hx0.1.trans' hc1 (fun _ _ h=>h.elim) (fun i _ h=>.inl (h.elim id (fun⟨o,ho,_⟩=>by cases ho)));have hn3:∀ {X:Nat->Prop},¬SX [] (fun _=>0) (iC ny D) w.heap.size:=fun h=>h.elim ((iC ny D).notS _ _ _ _ Ej (.inr rfl)) (fun⟨o,ho,_⟩=>by cases ho);have hB3:au w1 w.heap.size 40 (jw jr):=hx0.2.gu hc1 (hn3 (X:=X0));rcases hq with⟨val,rfl,_,_,hdv⟩|⟨chain,l,rfl,hs1,FX,hp1⟩;rotate_left 1
 ·exact xP hRe Ac (fun b h=>.inl h) (.inr rfl) (Nat.le_refl _) hp1 (Left.di hL0 l hs1.1 hs1.2 FX).2 FX hB3 (dS jR) rfl hcs
 have hi1:=hdv _ rfl;dsimp only at hi1;have hkd:=aZz hi1.2.2;have RU:au w1 g 31 (opC m):=(hB.ext hx0.1).gu hc1 (fun h=>h.elim ((iC ny D).notS _ _ _ _ Ej (.inl hX0)) (fun⟨o,ho,_⟩=>by cases ho))
 have h1c:hd.oneCell'=true:=by rw[<-hhd];exact D.one
 generalize hl1:(go (kE ny D.O) (kM m) []).2=la at *;have H1:=hide (And.intro hi1 (And.intro hcs (And.intro hB3 (And.intro hkd (And.intro RU (And.intro hS hL1))))));clear hx0 hB hM hold hst Ac hRe Dz hinv hX0 hS Ej hL0 hL1 hc1 hcs hn3 hB3 hdv hi1 hkd RU hl1 HZ
 go_upto_region 3 with fail
 refine (fun (h:∀ a0:Act,a0.tmps.size=39->a0.defers=U2 w.heap.size->a0.tmps[0]?=some hd->a0.tmps[1]?=some (.pointer (some ⟨g,0,none⟩))->a0.tmps[3]?=some (.pointer (some ⟨w.heap.size,0,none⟩))->Code.wp _ _ _ a0 w1)=>h _ rfl rfl rfl rfl rfl) ?_;intro a0 h39 hds t0 t1 t3;obtain⟨A,hA,hg⟩:=Q4 m hml w1 g w.heap.size hd h1c (aA H1).2.2.2.2.1 a0 h39 t0 t1 t3;rw[hds] at hA;have hn:=hA.nt;have hI:=hA.ok;have M:lm Tryz.prog (fun _=>True) (find ([]:List (Nat×Spec))):=Fq;refine (show ja Tryz.prog A (r3S m hd w.heap.size) _ (Exit.then _ _) from ?_) a0 w1 hg (fun chain a w _ ⟨l,hs,_⟩=>(hA.di l hs).elim);refine aQ M hI hn (by rfl) (by kernel_rfl) ?_ ?_
 ·simp
 intro a W hgW
 have aDP:o7 A (r3E m hd w.heap.size) a W:=by
  refine (hgW.reset (kT:=[4,0,1,3]) (kO:=[3003,900001]) (by rfl) (by simp)).same ?_ ?_
  ·exact .cons rfl (.cons rfl (.cons rfl (.cons rfl .nil)))
  ·exact .cons (.box rfl) (.cons (.box rfl) .nil)
 obtain⟨zk,R⟩:=Q5 hA aDP;clear hgW aDP hg hA hn hI M A h39 hds t0 t1 t3 a0;obtain⟨u0,u1,u2,u3,u4,u5,u6,u7,u8,u9,u10,u11,u12,u13,u14,u15,u16,ZJ,ZI,ZH,u20,u21,u22,u23,u24,u25,u26,u27,u28,u29,u30,u31,u32,u33,u34,u35,u36,u37,u38,ea⟩:=aGC a R.sz R.ds;have k0:=R.t0;have k1:=R.t1;have k3:=R.t3;have k4:=R.t4;have HR:=hide (And.intro R.gu (And.intro R.new (And.intro R.bg R.bo)));clear R;subst ea
 obtain rfl:u0=hd:=by simpa using k0
 obtain rfl:u1=.pointer (some ⟨g,0,none⟩):=by simpa using k1
 obtain rfl:u3=.pointer (some ⟨w.heap.size,0,none⟩):=by simpa using k3
 obtain rfl:u4=.pointer (some ⟨zk,0,none⟩):=by simpa using k4
 clear k0 k1 k3 k4;have mk:=Js W zk;have i0:=KA W zk;have i1:=K_ W zk;have i2:=Jz W zk;have i3:=Jy W zk;have i4:=Jw W zk;have i5:=Jv W zk;have i6:=Ju W zk;unfold zi at i0 i1 i2 i3 i4 i5 i6;dsimp only[Exit.then]
 go_upto_region 5 with fail
 clear mk i0 i1 i2 i3 i4 i5 i6;have hmp:(tq W zk 7).heap[W.heap.size]?=some (.map (BN zk).toArray 7):=(MapKept.heap_alloc W _).1;have x4:Ext W (tq W zk 7):=(Ext.refl W).alloc _;generalize tq W zk 7=W4 at *;obtain⟨hB,hM,hold,hst,Ac,hRe,Dz,hinv,hX0⟩:=aA HH;obtain⟨hi1,hcs,hB3,hkd,RU,hS,hl1⟩:=aA H1;obtain⟨hcW,hnw,hbg,hbo⟩:=aA HR;have hlm:W.heap.size<W4.heap.size:=lt_of_heap hmp;have lg:=hB.lt;have l1:=hcs.size;have l2:=hcW.size;have c14:dm (fun b=>b=g) w1 W4:=hcW.ext x4;obtain⟨X4,WX⟩:∃ X:Nat->Prop,X=fun b=>(X0 b\/b=w.heap.size)\/(w1.heap.size<=b/\b<W4.heap.size):=⟨_,rfl⟩
 have xg:X4 g:=by rw[WX];exact .inl (.inl hX0)
 have x3:X4 w.heap.size:=by rw[WX];exact .inl (.inr rfl)
 have xo:X4 zk:=by rw[WX];exact .inr ⟨hnw.1,by omega⟩
 have xm:X4 W.heap.size:=by rw[WX];exact .inr ⟨by omega,hlm⟩
 have xx:∀ b,X0 b->X4 b:=fun b hb=>by rw[WX];exact .inl (.inl hb)
 have hi4:(iC ny D).inv la X4 W4:=(iC ny D).grow _ _ _ _ _ hi1 (c14.mono fun b _ e=>e ▸ .inl hX0) (fun b hb=>by rw[WX] at hb;exact hb);have XK:dm (fun b=>D.S b\/b=g) w W4:=hcs.trans' c14 (fun _ _ h=>h) (fun _ _ e=>.inr e);have h3W:au W4 w.heap.size 40 (jw jr):=hB3.gu c14 (by omega);have h6W:au W4 g 31 (opC m):=hbg.ext x4;have hoW:au W4 zk 122 (AU u0 m 0):=hbo.ext x4
 have hng:¬zk=g:=by omega
 have hgo:w.heap.size<zk/\zk<W.heap.size:=by
  have:=hB3.lt;omega
 clear hnw hbg hbo hcW c14 x4 hcs hB3 RU hi1 HR H1 l1 l2;have hL0:Left (kE ny D.O) (jD m) [] (jD m) []:=Left.start _ _ _;have hL1:Left (kE ny D.O) (jD m) [] ((ah.ig 3 16).bind fun n=>nT m n) la:=hl1;have hL2:=Left.step (q:=ah.ig 3 16) hL1;have hle:=UU (kE ny D.O) (aFg 3 16) la;have hns:∀ b:Nat,X4 b->¬SX [] (fun _=>0) (iC ny D) b:=fun _ hx h=>h.elim ((iC ny D).notS _ _ _ _ hi4 hx) (fun⟨o,ho,_⟩=>by cases ho);have HA:=hide (And.intro hM (And.intro hold (And.intro hst (And.intro Ac (And.intro hRe (And.intro Dz hX0))))));have HB:=hide (And.intro hS (And.intro hL1 (And.intro hL2 (And.intro hle hns))));have HC:=hide (And.intro hmp (And.intro xg (And.intro x3 (And.intro xo (And.intro xm (And.intro xx (And.intro hi4 (And.intro XK (And.intro h3W (And.intro h6W hoW))))))))));clear hB hM hold hst Ac hRe Dz hinv hX0 hS hL0 hL1 hL2 hle hns hmp xg x3 xo xm xx hi4 XK h3W h6W hoW WX hl1 HH
 go_wp2_with fail
 obtain⟨hM,hold,hst,Ac,hRe,Dz,hX0⟩:=aA HA;obtain⟨hS,hL1,hL2,hle,hns⟩:=aA HB;obtain⟨hmp,xg,x3,xo,xm,xx,hi4,XK,h3W,h6W,hoW⟩:=aA HC
 refine (aFe (I:=a_) bU 3 16 (by decide) (kE ny D.O) la W4 (fun _=>False) [u0,.int .i64 3,.int .i64 16] (fun _=>0) (iC ny D) X4
  (fun w' hc=>hM w' (XK.trans' hc (fun _ _ h=>h) (fun i _ h=>.inl (h.elim id (fun⟨o,ho,_⟩=>by cases ho))))) (fun b hb=>⟨Nat.lt_of_lt_of_le (hold b (hb.elim id (fun⟨o,ho,_⟩=>by cases ho))) XK.size,fun h=>h⟩)
  (hS.mono fun h hh hO=>(Left.di hL1 h hh.1 hh.2 hO).2) (tZ Ac) rfl (fun p hp=>by cases hp;exact hi4) (fun h=>by cases h) (fun o ho=>by cases ho) (fun o ho=>by cases ho) ⟨.w (.one (.dv h1c ⟨0,D.hd,rfl,Nat.le_refl _,fun _=>hhd.symm⟩)),.w (.one (.lit rfl)),.w (.one (.lit rfl)),trivial⟩).mono ?_
 rintro e w5 ⟨hc5,hq⟩;have Zb:dm (fun b=>D.S b\/b=g) w w5:=XK.trans' hc5 (fun _ _ h=>h) (fun i _ h=>.inl (h.elim id (fun⟨o,ho,_⟩=>by cases ho)));have h35:au w5 w.heap.size 40 (jw jr):=h3W.gu hc5 (hns _ x3);rcases hq with⟨val,rfl,hv,_,hdv⟩|⟨chain,l,rfl,hs1,FX,hp1⟩;rotate_left 1
 ·exact xP hRe Ac xx x3 (Nat.le_refl _) hp1 (Left.di hL1 l hs1.1 hs1.2 FX).2 FX h35 (dS jR) rfl Zb
 have hi5:=hdv _ rfl;dsimp only at hi5;obtain⟨n,lb,hq2⟩:∃ n lb,go (kE ny D.O) (ah.ig 3 16) la=(n,lb):=⟨_,_,rfl⟩;rw[hq2] at hL2 hle hi5 hv;dsimp only at hL2 hle hi5 hv
 obtain rfl:val=.int .i64 (n:Int):=RV.dw hv
 have h65:au w5 g 31 (opC m):=h6W.gu hc5 (hns _ xg);have FU:au w5 zk 122 (AU u0 m 0):=hoW.gu hc5 (hns _ xo);have ZQ:w5.heap[W.heap.size]?=some (.map (BN zk).toArray 7):=(hc5.block _ (lt_of_heap hmp) (hns _ xm)).trans hmp;have d3:=FU.cell 103;rw[bDk u0 hml] at d3;have f3:=FU.frozen;have HC2:=hide (And.intro xg (And.intro x3 (And.intro xo (And.intro xx (And.intro hi5 (And.intro Zb (And.intro h35 (And.intro h65 (And.intro FU ZQ)))))))));have HB2:=hide (And.intro hS (And.intro hL2 hle));clear hv hdv hc5 XK h3W h6W hoW hmp hi4 xg x3 xo xm xx hi5 Zb h35 h65 FU ZQ hM hold hst Ac hRe Dz hX0 hS hL1 hL2 hle hns HC HB hq2;have xk:=aYn m.kind
 go_upto_region 6 with fail
 obtain⟨xg,x3,xo,xx,hi5,Zb,h35,h65,FU,ZQ⟩:=aA HC2;have h36:au (w5.setCell ⟨zk,103,none⟩ (.int .i64 (n:Int))) w.heap.size 40 (jw jr):=h35.far (p:=⟨zk,103,none⟩) (show ¬w.heap.size=zk by omega) _;have h66:au (w5.setCell ⟨zk,103,none⟩ (.int .i64 (n:Int))) g 31 (opC m):=h65.far (p:=⟨zk,103,none⟩) (show ¬g=zk by omega) _
 have ZP:au (w5.setCell ⟨zk,103,none⟩ (.int .i64 (n:Int))) zk 122 (AU u0 m n):=by
  have:=FU.y9 103 (.int .i64 (n:Int));rw[JR u0 hml] at this;exact this
 have c56:dm (fun b=>b=zk) w5 (w5.setCell ⟨zk,103,none⟩ (.int .i64 (n:Int))):=dm.setCell (S:=fun b=>b=zk) (p:=⟨zk,103,none⟩) (dm.refl _ _) (.inl rfl) _;have hm6:=(c56.block _ (lt_of_heap ZQ) (show ¬W.heap.size=zk by omega)).trans ZQ;generalize w5.setCell ⟨zk,103,none⟩ (.int .i64 (n:Int))=w6 at *;have lk:=Jt hm6 hkd;unfold zi at lk;have d6:=h66.cell 0;rw[bDm] at d6;have ZR:(iC ny D).inv lb X4 w6:=(iC ny D).grow _ _ _ _ _ hi5 (c56.mono fun b _ e=>e ▸ xo) (fun b hb=>.inl hb);have XJ:dm (fun b=>D.S b\/b=g) w w6:=Zb.trans' c56 (fun _ _ h=>h) (fun i hi e=>by omega);have HC3:=hide (And.intro xg (And.intro x3 (And.intro xo (And.intro xx (And.intro ZR (And.intro XJ (And.intro h36 (And.intro h66 ZP))))))));clear xg x3 xo xx hi5 Zb h35 h65 FU ZQ h36 h66 ZP c56 hm6 ZR XJ HC2 d3 f3;generalize hmk:UQ m.kind=F at *
 go_wp2_with fail
 obtain⟨hM,hold,hst,Ac,hRe,Dz,hX0⟩:=aA HA;obtain⟨hS,hL2,hle⟩:=aA HB2;obtain⟨xg,x3,xo,xx,ZR,XJ,h36,h66,ZP⟩:=aA HC3
 have hL3:Left (kE ny D.O) (jD m) [] ((nT m n).bind ah.ret) lb:=by
  rw[aBs];exact hL2
 subst hmk
 refine (L6 m hm n hle hkd (kE ny D.O) lb (aVz Dz) (aVy ny D.O) w6 (fun _=>False) [.pointer (some ⟨zk,0,none⟩)] zk (iC ny D) X4
  (fun w' hc=>hM w' (XJ.trans' hc (fun _ _ h=>h) (fun i hi h=>h.elim .inl (fun e=>by omega)))) (fun b hb=>⟨hb.elim (fun h=>Nat.lt_of_lt_of_le (hold b h) XJ.size) (fun e=>e ▸ ZP.lt),fun h=>h⟩)
  (hS.mono fun h hh hO=>(Left.di hL3 h hh.1 hh.2 hO).2) (tZ Ac) rfl ZR xo ⟨_,ZP,QH (.dv h1c ⟨0,D.hd,rfl,Nat.le_refl _,fun _=>hhd.symm⟩) hml n⟩ ⟨.w (.one (.pt ⟨_,_,rfl⟩ ⟨0,_,rfl,Nat.le_refl _,fun _=>⟨_,rfl,rfl⟩⟩)),trivial⟩).mono ?_
 rintro e w7 ⟨DK,hq⟩;have hn7:¬SD zk (iC ny D) w.heap.size:=fun h=>h.elim ((iC ny D).notS _ _ _ _ ZR x3) (fun e=>by omega);have c07:dm (fun b=>D.S b\/b=g) w w7:=XJ.trans' DK (fun _ _ h=>h) (fun i hi h=>h.elim .inl (fun e=>by omega));have h37:au w7 w.heap.size 40 (jw jr):=h36.gu DK hn7;rcases hq with⟨val,rfl,hv,_,WT⟩|⟨chain,l,rfl,hs1,FX,hp1⟩;rotate_left 1
 ·exact xP hRe Ac xx x3 (Nat.le_refl _) hp1 (Left.di hL3 l hs1.1 hs1.2 FX).2 FX h37 (dS jR) rfl c07
 have hL4:=hL3.2;rw[aBs] at hL4;obtain⟨o,lc,hq3⟩:∃ o lc,go (kE ny D.O) (nT m n) lb=(o,lc):=⟨_,_,rfl⟩;rw[hq3] at hL4 hv WT;dsimp only at hv WT;obtain⟨rfl,hok⟩:=Ul hv
 have hC:go D.O (cO m) []=(o,lc):=by
  unfold cO;rw[Nq mZ ny D.O (jD m) [] (by rw[hL4];exact WT.2.2),hL4]
 have HC4:=hide (And.intro h37 (And.intro hok (And.intro c07 (And.intro WT.1 (And.intro x3 (And.intro xx hC))))));clear hL4 hv WT hok hC h37 c07 x3 xx hn7 DK xg xo ZR XJ h36 h66 ZP hL3 hS hL2 hle hM hold hst Ac hRe Dz hX0 hq3 HC3 HB2 lk d6 HA xk;generalize hoc:jw o=oc at *
 go_wp2_with (refine aT (ty:=40) (t:=40) (x:=.tmp 3) (y:=.tmp 38) rfl rfl iZ rfl rfl (aA HC4).1 (dS jR) (by rw[<-hoc];exact dS (aA HC4).2.1) (by rw[<-hoc];exact lV _) ?_;intro w8 hb8 hc8 hz8;have H8:=hide (And.intro hb8 (And.intro hc8 hz8));clear hb8 hc8 hz8)
 obtain⟨b8,c8,z8⟩:=aA H8;obtain⟨h37,hok,c07,WT,x3,xx,hC⟩:=aA HC4;refine leaves_cons (f:=46) (args:=#[.pointer (some ⟨w.heap.size,0,none⟩)]) (by simp) (by simp[go_sem]) ?_;refine (bDa _ _).mono ?_;rintro e u' w9 ⟨rfl,rfl,rfl⟩
 refine⟨_,aBr _ _ w.heap.size oc (by rw[<-hoc];exact dS hok) rfl b8,c07.trans' c8 (fun _ _ h=>h) (fun i hi e=>by omega),.inl ?_⟩
 rw[hC]
 exact⟨hok,by rw[hoc],D.grow _ _ _ _ _ WT (c8.mono fun i _ e=>e ▸ x3) (fun b hb=>.inl (xx b hb))⟩
end Pv
theorem sO:u_ Tryz.prog 65 18:=⟨⟨_,Tryz.underlying65,rfl⟩,by kernel_rfl⟩
theorem Qk(b:Nat)(n:Int):Pv.Loc Tryz.prog 3 b 3 #[.int .i64 n] (.int .i64 n):=by
 refine⟨fun w hB=>?_,fun w old ho hB=>⟨w.setCell ⟨b,0,none⟩ (.int .i64 n),?_,?_,dm.setCell (S:=fun k=>k=b) (p:=⟨b,0,none⟩) (dm.refl _ _) (.inl rfl) _,by simp⟩⟩
 ·have h0:=hB.cell 0;simp only[List.getElem?_toArray,List.getElem?_cons_zero] at h0;simp[go_sem,h0]
 ·obtain⟨x,rfl⟩:∃ x,old=#[x]:=by
   obtain⟨old⟩:=old
   match old,ho with
   |[x],_=>exact⟨x,rfl⟩
  have h0:=hB.cell 0;have hf:=hB.frozen 0;simp only[List.getElem?_toArray,List.getElem?_cons_zero] at h0;simp[go_sem,h0,hf]
 ·obtain⟨x,rfl⟩:∃ x,old=#[x]:=by
   obtain⟨old⟩:=old
   match old,ho with
   |[x],_=>exact⟨x,rfl⟩
  exact hB.y9 0 _
theorem aVm(b:Nat)(n:Bool):Pv.Loc Tryz.prog 4 b 4 #[.bool n] (.bool n):=by
 refine⟨fun w hB=>?_,fun w old ho hB=>⟨w.setCell ⟨b,0,none⟩ (.bool n),?_,?_,dm.setCell (S:=fun k=>k=b) (p:=⟨b,0,none⟩) (dm.refl _ _) (.inl rfl) _,by simp⟩⟩
 ·have h0:=hB.cell 0;simp only[List.getElem?_toArray,List.getElem?_cons_zero] at h0;simp[go_sem,h0]
 ·obtain⟨x,rfl⟩:∃ x,old=#[x]:=by
   obtain⟨old⟩:=old
   match old,ho with
   |[x],_=>exact⟨x,rfl⟩
  have h0:=hB.cell 0;have hf:=hB.frozen 0;simp only[List.getElem?_toArray,List.getElem?_cons_zero] at h0;simp[go_sem,h0,hf]
 ·obtain⟨x,rfl⟩:∃ x,old=#[x]:=by
   obtain⟨old⟩:=old
   match old,ho with
   |[x],_=>exact⟨x,rfl⟩
  exact hB.y9 0 _
theorem aBw(tmps:Array Value)(w:World)(Ab Ob Nb Db:Nat)(hw:Array Value)(hs:hw.size=18)(oc:Array Value)(ho:oc.size=55)(n d9:Value)(h6:tmps.getD 6 undef=.pointer (some ⟨Ab,0,none⟩))(h7:tmps.getD 7 undef=.pointer (some ⟨Ob,0,none⟩))(h8:tmps.getD 8 undef=.pointer (some ⟨Nb,0,none⟩))(h9:tmps.getD 9 undef=.pointer (some ⟨Db,0,none⟩))
  (hA:au w Ab 65 hw) (hO:au w Ob 40 oc) (hN:au w Nb 3 #[n]) (hD:au w Db 4 #[d9]) :
  (results Tryz.f34 tmps).run Tryz.prog w=.ok (.tuple #[.agg hw,.agg oc,n,d9]) w:=by
 have a0:=iV hA sO hs;have b0:=iV hO iZ ho;have n0:=hN.cell 0;have d0:=hD.cell 0;simp only[List.getElem?_toArray,List.getElem?_cons_zero] at n0 d0;simp only[Array.getD_eq_getD_getElem?] at h6 h7 h8 h9
 have n1:(loadVar 3 ⟨Nb,0,none⟩).run Tryz.prog w=.ok n w:=by simp[go_sem,n0]
 have d1:(loadVar 4 ⟨Db,0,none⟩).run Tryz.prog w=.ok d9 w:=by simp[go_sem,d0]
 simp[results,Tryz.results34,h6,h7,h8,h9,asAddr,a0,b0,n1,d1]
theorem Kw (G:Nat) (pc:Array Value) (hw:Array Value) (B:Option Addr) (nF cF:Nat) (V:Array Value->Int->Option Pv.jk->World->Prop) (g:Nat) (w:World) (hs:hw.size=18) (h1:hw.all (·.oneCell')=true) (hG:∀ (args:Array Value) (w:World),(callFunc G args).run Tryz.prog w=.ok (.enter G args) w) (hg:g<=w.heap.size)
    (hV:∀ a n o w1 w2,V a n o w1->dm (fun k=>w.heap.size<=k/\k<w.heap.size+6) w1 w2->V a n o w2)
    (hp : ∀ w1,Ext w w1->w1.heap.size=w.heap.size+6->au w1 (w.heap.size+1) 68 #[.slice B nF cF]->au w1 (w.heap.size+1+1) 65 hw->au w1 (w.heap.size+1+1+1+1) 3 #[.int .i64 0] ->
      Calls Tryz.prog G (#[.func (.func 65) #[] #[.pointer (some ⟨w.heap.size+1+1+1+1,0,none⟩),.pointer (some ⟨w.heap.size+1,0,none⟩),.pointer (some ⟨w.heap.size+1+1,0,none⟩)]]++pc) w1 fun e w2=>dm (fun k=>k=w.heap.size+1+1+1+1\/k=w.heap.size+1\/k=w.heap.size+1+1\/(g<=k/\k<w.heap.size)) w1 w2 /\
        ∃ hw' n,hw'.size=18/\hw'.all (·.oneCell')=true/\au w2 (w.heap.size+1+1) 65 hw'/\au w2 (w.heap.size+1+1+1+1) 3 #[.int .i64 n] /\
        ((∃ o,Pv.qp o/\e=.returned (.agg (Pv.jw o))/\V hw' n (some o) w2)\/(∃ older,Pv.Xf older/\e=.panicked ({ v:=Pv.cutV,recovered:=false }::older)/\V hw' n none w2))) :
    Calls Tryz.prog 34 #[.func (.func G) #[] pc,.agg hw,.slice B nF cF] w fun e w'=>dm (fun k=>g<=k) w w'/\∃ hw' n,hw'.size=18 /\
      (
       (∃ o,Pv.qp o/\e=.returned (.tuple #[.agg hw',.agg (Pv.jw o),.int .i64 n,.bool true])/\V hw' n (some o) w') \/
       (e=.returned (.tuple #[.agg hw',.agg (Pv.jw Pv.jr),.int .i64 n,.bool false])/\V hw' n none w')):=by
  have hmf:∀ (fn:Fn) (first cap:Array Value) (w:World),(Instr.makeFunc fn first cap).run Tryz.prog w=.ok (.func fn first cap) w:=fun _ _ _ _=>rfl;have HP:=hide hp;have HS:=hide (And.intro hs h1);have HV:=hide hV;clear hp hs h1 hV
  go_enter_defers Tryz.func34,Tryz.ntmps34
  go_upto_region 1 with fail
  generalize hW0:World.alloc _ (.cells _ 4)=W0
  have z1:Ext w W0:=by
    rw[<-hW0]
    repeat' (first|(with_reducible exact dm.refl _ _)|(with_reducible exact Ext.refl _)|(with_reducible assumption)|(with_reducible refine dm.alloc ?_ _)|(with_reducible refine dm.drew ?_)|(with_reducible refine dm.drewN ?_ _)|(with_reducible refine dm.setCell ?_ ?_ _)|(with_reducible refine Ext.alloc ?_ _)|(with_reducible refine Ext.drew ?_)|(with_reducible refine Ext.drewN ?_ _)|(with_reducible refine Ext.setCell ?_ ?_ _)|(simp;done)|(simp;omega)|omega)
  have z2:au W0 w.heap.size 65 hw:=by rw[<-hW0];exact (((((au.new w _ _).alloc _).alloc _).alloc _).alloc _).alloc _
  have z3:au W0 (w.heap.size+1) 68 #[.slice B nF cF]:=by rw[<-hW0];exact ((((au.new' _ _ _ (by simp)).alloc _).alloc _).alloc _).alloc _
  have z4:au W0 (w.heap.size+1+1) 65 (#[.slice none 0 0,.slice none 0 0]++Array.replicate 16 (.int .u8 0)):=by rw[<-hW0];exact (((au.new' _ _ _ (by simp)).alloc _).alloc _).alloc _
  have z5:au W0 (w.heap.size+1+1+1) 40 (Pv.jw Pv.jr):=by rw[<-hW0];exact ((au.new' _ _ _ (by simp)).alloc _).alloc _
  have z6:au W0 (w.heap.size+1+1+1+1) 3 #[.int .i64 0]:=by rw[<-hW0];exact (au.new' _ _ _ (by simp)).alloc _
  have z7:au W0 (w.heap.size+1+1+1+1+1) 4 #[.bool false]:=by rw[<-hW0];exact au.new' _ _ _ (by simp)
  have z8:W0.heap.size=w.heap.size+6:=by rw[<-hW0];simp
  have HZ:=hide (And.intro z1 (And.intro z2 (And.intro z3 (And.intro z4 (And.intro z5 (And.intro z6 (And.intro z7 z8)))))));clear hW0 z1 z2 z3 z4 z5 z6 z7 z8
  go_wp2_with (first
    |(refine dL (ty:=65) (t:=65) (x:=.tmp 4) rfl rfl sO rfl (cs:=hw) (aA HZ).2.1 (aA HS).1 ?_)
    |(refine aT (ty:=65) (t:=65) (x:=.tmp 6) (y:=.tmp 11) rfl rfl sO rfl rfl (aA HZ).2.2.2.1 rfl (aA HS).1 (aA HS).2 ?_;intro w1 hb1 hc1 hz1;have H1:=hide (And.intro hb1 (And.intro hc1 hz1));clear hb1 hc1 hz1))
  obtain⟨z1,z2,z3,z4,z5,z6,z7,z8⟩:=aA HZ;obtain⟨y1,y2,y3⟩:=aA H1;have hE1:Ext w w1:=z1.trans' y2 (fun _ _ h=>h) (fun i hi e=>by omega);refine (aA HP w1 hE1 (y3.trans z8) (z3.gu y2 (by omega)) y1 (z6.gu y2 (by omega))).mono ?_;rintro e w2 ⟨h2,hw',n,q1,q2,q3,q4,hq⟩;have hO:=(z5.gu y2 (by omega)).gu h2 (by omega);have hD:=(z7.gu y2 (by omega)).gu h2 (by omega);have hEx:Hid (dm (fun k=>g<=k) w w2):=hide (hE1.trans' h2 (fun _ _ h=>h.elim) (fun i hi e=>by omega));have hsz2:w1.heap.size<=w2.heap.size:=h2.size;rcases hq with⟨o,hok,rfl,hv⟩|⟨older,hne,rfl,hv⟩
  ·
    have HO:=hide (And.intro hO (And.intro hok (Pv.dS hok)));have HD:=hide hD;have HQ:=hide (And.intro q1 (And.intro q2 (And.intro q3 (And.intro q4 hv))))
    have hn1:w.heap.size+6<=w2.heap.size:=by omega
    clear z1 z2 z3 z4 z5 z6 z7 y1 y2 hE1 h2 q1 q2 q3 q4 hv hO hD HP H1 HZ hok;generalize hoc:Pv.jw o=oc at *
    go_upto_region 5 with (refine aT (ty:=40) (t:=40) (x:=.tmp 7) (y:=.tmp 16) rfl rfl iZ rfl rfl (aA HO).1 (Pv.dS Pv.jR) (aA HO).2.2 (by rw[<-hoc];exact Pv.lV _) ?_;intro w3 hO3 hc3 hs3;have H3:=hide (And.intro hO3 (And.intro hc3 hs3));clear hO3 hc3 hs3)
    obtain⟨hO3,hc3,hs3⟩:=aA H3;have h55:=(aA HO).2.2;obtain⟨q1,q2,q3,q4,hv⟩:=aA HQ
    refine Pv.Kv (by kernel_rfl) ⟨_,_,w.heap.size+1+1,w.heap.size+1+1+1,w.heap.size+1+1+1+1,w.heap.size+1+1+1+1+1,65,40,3,4,hw',oc,#[.int .i64 n],.agg hw',.agg oc,.int .i64 n⟩
      (Pv.Loc.wide sO _ _ _ q1 q2) (Pv.Loc.wide iZ _ _ _ h55 (by rw[<-hoc];exact Pv.lV _)) (Qk _ _) (aVm _ _) rfl rfl rfl rfl rfl (by dsimp only;omega) (by dsimp only;omega) (by dsimp only;omega) (by dsimp only;omega) (by dsimp only;omega) (by dsimp only;omega)
      (q3.gu hc3 (by omega)) hO3 (q4.gu hc3 (by omega)) ⟨_,(aA HD).gu hc3 (by omega)⟩ fun a4 w4 h4=>?_
    obtain⟨ds,sz,tm,l1,l2,l3,k1,k2,k3,⟨v4,k4,k5⟩,hc4,CP⟩:=h4;dsimp only at ds tm k1 k2 k3 k4 hc4 CP
    obtain rfl:=k5 rfl
    have H4:=hide (And.intro ds (And.intro sz (And.intro tm (And.intro k1 (And.intro k2 (And.intro k3 (And.intro k4 (And.intro hc4 CP))))))));have H3:=hide (And.intro q1 (And.intro hv hc3));clear l1 l2 l3 k5 ds sz tm k1 k2 k3 k4 hc4 CP q1 q2 q3 q4 hv hc3;dsimp only[Exit.then]
    go_wp2
    obtain⟨ds,sz,tm,k1,k2,k3,k4,hc4,CP⟩:=aA H4;obtain⟨q1,hv,hc3⟩:=aA H3;show Leaves _ _ a4.tmps _ a4.defers .returning w4;rw[ds];refine leaves_cons (f:=67) (args:=#[.pointer (some ⟨w.heap.size+1+1+1,0,none⟩),.pointer (some ⟨w.heap.size+1+1+1+1+1,0,none⟩)]) (by simp) (by simp[go_sem]) ?_;refine (bEo _ _ _).mono ?_;rintro e u' w5 ⟨rfl,rfl,rfl⟩
    refine⟨_,aBw _ _ (w.heap.size+1+1) (w.heap.size+1+1+1) (w.heap.size+1+1+1+1) (w.heap.size+1+1+1+1+1) hw' q1 oc h55 (.int .i64 n) (.bool true) (tm 6 (by omega)) (tm 7 (by omega)) (tm 8 (by omega)) (tm 9 (by omega)) k1 k2 k3 k4,?_,hw',q1,n,.inl ⟨o,(aA HO).2.1,by rw[hoc],?_⟩⟩
    · exact (aA hEx).trans (hc3.mono fun k _ hk=>by omega) |>.trans (hc4.mono fun k _ hk=>by rcases hk with h|h|h|h<;>omega)
    · exact (aA HV) _ _ _ _ _ hv ((hc3.mono fun k _ hk=>by omega).trans (hc4.mono fun k _ hk=>by rcases hk with h|h|h|h<;>omega))
  ·
    have HO:=hide hO;have HD:=hide hD;have HQ:=hide (And.intro q1 (And.intro q2 (And.intro q3 (And.intro q4 hv))));clear z1 z2 z3 z4 z5 z6 z7 y1 y2 hE1 h2 q1 q2 q3 q4 hv hO hD HP H1 HZ
    go_wp2
    obtain⟨q1,q2,q3,q4,hv⟩:=aA HQ;refine leaves_cons (f:=67) (args:=#[.pointer (some ⟨w.heap.size+1+1+1,0,none⟩),.pointer (some ⟨w.heap.size+1+1+1+1+1,0,none⟩)]) (by simp) (by simp[go_sem]) ?_;refine (aYt _ _ _ _ older _ (Pv.dS Pv.jR) (aA HO) (aA HD) (by omega)).mono ?_;rintro e u' w5 ⟨rfl,rfl,hc,hO',hD'⟩;have hst:settle (.panicking ({ v:=Pv.cutV,recovered:=true }::older))=.returning:=Pv.aAh hne;show Leaves _ _ _ _ _ (settle _) _;rw[hst]
    refine⟨_,aBw _ _ (w.heap.size+1+1) (w.heap.size+1+1+1) (w.heap.size+1+1+1+1) (w.heap.size+1+1+1+1+1) hw' q1 _ (Pv.dS Pv.jR) _ _ rfl rfl rfl rfl (q3.gu hc (by omega)) hO' (q4.gu hc (by omega)) hD',?_,hw',n,q1,.inr ⟨rfl,?_⟩⟩
    · exact (aA hEx).trans' hc (fun _ _ h=>h) (fun i hi e=>by omega)
    · exact (aA HV) _ _ _ _ _ hv (hc.mono fun k _ hk=>by omega)
namespace Pv
theorem aYs(K:Nat->Prop)(gN gF gH:Nat)(F:List lu)(h0:j_):F5 (TJ K gN gF gH F h0):=by
 rintro l X w chain ⟨⟨older,hn,rfl⟩,h⟩
 refine⟨aEZ,.agg #[],older,rfl,hn,.inr rfl,⟨{ v:=cutV,recovered:=true }::older,fun e he=>?_,rfl⟩,h⟩
 rcases List.mem_cons.1 he with rfl|he
 ·rfl
 ·exact hn e he
theorem IG{h:j_}(k:DI h)(c:Int):(strOf (sec h.f c)).size<=1000000:=by
 rw[bW];unfold sec
 split
 ·rename_i hc;rw[Array.length_toList,zG,zH (by omega)];exact k.sz _ (List.getElem_mem _)
 ·exact (by decide:([]:List UInt8).length<=1000000)
theorem Qn(F:List lu){h0:j_}(hd:o6 h0):OB (oK F h0):=by
 intro l r hr;unfold oK at hr
 split at hr
 ·cases hr;exact (by decide:(0:Nat)<=1000000)
 ·rename_i c hc
  split at hr
  ·cases hr
  ·cases hr;have hk:DI (AO F h0 l.dropLast 0):=Hu _ _ hd.ok
   have z:(kP.bytes).size<=1000000:=by decide
   have z2:aS.size<=1000000:=by decide
   unfold fJ
   repeat' split
   all_goals first
    |exact z
    |exact z2
    |exact IG hk _
def aHI(q:Option jk×j_×Nat)(e:Ending):Prop:=(∃ o,qp o/\q.1=some o/\e=.returned (.agg (jw o)))\/(q.1=none/\∃ older,Xf older/\e=.panicked ({ v:=cutV,recovered:=false }::older))
theorem aYi(m:jl)(hm:uz m)(hml:yw m)(F:List lu)(hF:F.length<=1000000)(h0:j_)(hd:o6 h0)(g:Nat)(w0 w:World)(hw0:Ext w0 w)(hmem:∀ w',dm (fun b=>g<=b) w w'->a_ w')(B0:au w0 g 31 (opC m))
  (gN gF gH:Nat) (hN:w0.heap.size<=gN) (hFb:w0.heap.size<=gF) (hH:w0.heap.size<=gH) (K X:Nat->Prop) (hX:X g) (hR:C9 K gN gF gH F h0 [] X w) :
  Calls Tryz.prog 45 (#[.func (.func 65) #[] #[.pointer (some ⟨gN,0,none⟩),.pointer (some ⟨gF,0,none⟩),.pointer (some ⟨gH,0,none⟩)]]++#[.pointer (some ⟨g,0,none⟩)]) w fun e w2=>
   dm (fun k=>k=gN\/k=gF\/k=gH\/(g<=k/\k<w0.heap.size)) w w2 /\
   au w2 gN 3 #[.int .i64 ((dK F (cO m) h0 0).2.2:Int)]/\(∃ cs,au w2 gH 65 cs/\RL { w:=w2,ok:=OV K X gN gF gH,env:=fun _=>none } (m_ (dK F (cO m) h0 0).2.1) cs.toList) /\
   aHI (dK F (cO m) h0 0) e:=by
 have lg:=B0.lt;have lN:=hR.bn.lt;obtain⟨cF,f1,f2⟩:=hR.bf;obtain⟨cH,f3,f4⟩:=hR.bh;have lF:=f1.lt;have lH:=f3.lt;have hin:=aKu m;have hwi:=aOi m;have hgl:=Ld F h0 (cO m) hin 900 hwi [] (by simp);have hlen:=WZ (oK F h0) (cO m) 900 hwi [];rw[List.length_nil,Nat.zero_add] at hlen;have hX0:(TJ K gN gF gH F h0).inv [] X w:=⟨hR,fun k hk=>by cases hk⟩;have hst:=aYu K gN gF gH F h0 hF hd (cO m) hin (by omega);refine (aOj m hm hml w g (TJ K gN gF gH F h0) X (B0.ext hw0) (fun w' hc=>hmem w' (hc.mono fun b _ hb=>?_)) (fun b hb=>?_) (hst.mono fun l hl _=>⟨List.nil_prefix,hl⟩) (bEp K gN gF gH F h0) (aYs K gN gF gH F h0) (Qn F hd) hX0 hX).mono ?_
 ·rcases hb with (h|h|h)|h<;>omega
 ·rcases hb with h|h|h<;>omega
 rintro e w2 ⟨hc,hq⟩
 refine⟨hc.mono fun b _ hb=>by rcases hb with (h|h|h)|h<;>omega,?_⟩
 rcases hq with⟨hok,rfl,hB,hNC⟩|⟨chain,l,rfl,h1,h2,h3⟩
 ·have hx:dK F (cO m) h0 0=_:=hgl.1 hNC;rw[hx];obtain⟨c3,g3,g4⟩:=hB.bh
  exact⟨hB.bn,⟨c3,g3,g4⟩,.inl ⟨_,hok,rfl,rfl⟩⟩
 ·obtain⟨⟨older,hno,rfl⟩,hB,l',c,rfl,h4,h5⟩:=h3;have hx:dK F (cO m) h0 0=_:=hgl.2 l' c List.nil_prefix h1 h4 h5;rw[hx];obtain⟨c3,g3,g4⟩:=hB.bh;have hb:=hB.bn;rw[List.length_append,List.length_singleton] at hb
  exact⟨hb,⟨c3,g3,g4⟩,.inr ⟨rfl,older,hno,rfl⟩⟩
end Pv
end Go.Proofs.YtndpjopifkbgiaaGreatDoor
