/-
  Several texts in one file: each has its own heading below.
-/
import Derived.Test.YtndpjopifkbgiaaGreatDoorMsO
import Derived.Test.YtndpjopifkbgiaaGreatDoorMsN
import Derived.Test.YtndpjopifkbgiaaGreatDoorMsK
import Derived.Test.YtndpjopifkbgiaaGreatDoorMsC
set_option maxRecDepth 100000
set_option maxHeartbeats 4000000
namespace Go.Proofs.YtndpjopifkbgiaaGreatDoor
open Go.RowKit Tryz
open _root_.And renaming intro->az
open _root_.List renaming length_append->ed,getElem?_cons_zero->YT,getElem?_toArray->YY,getElem?_replicate->Yx,replicate->DD,nil_prefix->aEH,length_nil->YN,length_replicate->Yk,size_toArray->YS,append_assoc->yl,length_cons->Lt
open _root_.Go renaming undef->dC,Value->ag,World->ae,Calls->ik
open _root_.Nat renaming le_refl->dE,lt_of_lt_of_le->Y1,zero_add->lL
open _root_.Array renaming length_toList->mf,getD_eq_getD_getElem?->YR,size_append->aEC,ext'->Ha
namespace Pv
def FB:List Int:=DD 48 0
def JI(k:Nat):List (List Int):=DD k FB
def Ew:Nat->List PC:=fun _=>[.lit (.int .i64 16)]
def z8F:Nat->List PC:=fun _=>[.lit (.int .u8 0)]
def QK:Nat->List PC:=fun _=>[.sl 1 48 z8F]
theorem bIq{i:Nat}(a:i<4):QK i=eX (JI 4) i:=by
 unfold QK eX JI;rw[zG,Yx,if_pos a]
 show[PC.sl 1 48 z8F]=[PC.sl 1 48 (BB FB)]
 have:z8F=BB FB:=by
  funext j;unfold z8F BB FB;rw[zG,Yx]
  split<;>rfl
 rw[this]
def Tq(k:Nat):St:=⟨[(0,none,d_ (.sl 1 4 Ew)),(2,none,d_ (.pt 0 0 0)),(4,none,d_ (.pt 1000 0 0)),(5,none,di k)],[(0,none,0,.box 60 [.lit (.slice none 0 0)]),(1000,none,0,.box 60 [.ow 9009 0 1 0 k]),(9009,none,0,.arr 74 1 k QK)]⟩
theorem JV:fP prog af 63 false [d_ (.sl 1 4 Ew)] (.lu [.agg [.sl 1 4 (eX (JI 4))],.one (.lit (.int .i64 0))]):=by
 have M:=aBQ;have l:prog.types[74].bytes=24:=by kernel_rfl
 have j:prog.types[5].bytes=1:=by kernel_rfl
 have o:prog.types[74].size=1:=by kernel_rfl
 refine bH func63 rfl rfl bK (fun A q p s=>?_);refine aB ?_;refine aB ?_;refine aG ?_;refine aB ?_;refine aI (fun c=>?_) (fun c=>?_);cases c;refine aJ ?_;refine aG ?_;refine aB ?_;refine bY (s':=Tq 0) (fun a w f=>((f.D8 (x:=9009) (b:=1000) (e:=74) (n:=1) (l1:=[]) f_ f_).reset (kT:=[0,2,4,5]) (kO:=[0,1000,9009]) f_ ay).same ?_ ?_) ?_;exact ig;exact .cons (.box rfl) (.cons (.box rfl) (.cons (.arr rfl (fun i g=>by omega)) .nil));refine aQ ?_;refine fF 4 (fun k t=>t=Tq k) 0 rfl a_ (fun k t r u=>?_);subst r;refine aG ?_;refine aB ?_;refine aI (fun c=>?_) (fun c=>?_);have d:k<4:=by have:=of_decide_eq_true c;omega
 refine aJ ?_;refine aG ?_;refine aQ ?_;refine aG ?_;refine aF ?_ ?_;simp;omega;refine aI (fun c=>?_) (fun c=>?_);cases c;refine aJ ?_;refine bC M s p (by rfl) (by kernel_rfl) ?_ ?_;simp[l,j];have m:IntKind.i64.wrap 48=48:=by decide
 exact⟨by omega,by rw[m];omega,by omega⟩;change lh _ _ _ _ _;refine gI ?_;intro a w f;refine⟨k+1,_,by omega,by omega,rfl,(f.Bl (R:=[(9009,QK)]) (kF:=[9007]) (kT:=[0,2,4,5]) (kO:=[0,1000,9009]) (.inr q) f_ ?_).same ?_ ?_⟩;simp;refine⟨fun i g=>?_,fun i _=>?_⟩;by_cases h:i<k;unfold o_;rw[if_pos h];rfl;obtain rfl:i=k:=by omega
 unfold o_;rw[if_neg h,Nat.sub_self];rfl;rfl;exact .cons rfl (.cons rfl (.cons rfl (.cons (by rw[cO k a_]) .nil)));exact o7;have d:k=4:=by have:=of_decide_eq_false c;omega
 subst d;refine eP ?_;change lh _ _ _ _ _;refine aB ?_;refine cZ (fun a w f=>⟨.inr rfl,_,?_,f⟩);refine oG (by rfl) (by simp) (by rfl) ?_;refine .lu (.cons (.agg (.cons (.row rfl trivial a_ (fun i g=>?_) (fun i g=>rfl)) .nil)) (.cons (.one (.cold rfl)) .nil));rw[lL];exact bIq g
def En(root:List UInt8):jk:=⟨JI 4,Cc,root⟩
def JU:List PV->Option (Prop×PV)
 |[.w (.one (.lit (.int .i64 n)))]=>some (n=128,.lu [.agg (RP Cc),.one (.lit (.int .i64 0))])|_=>none
theorem bIu:ai prog af 64 (aZ true JU):=by refine aW (aC func64 aj rfl) (fun c p r a b=>?_);unfold JU at a;split at a;cases a;obtain rfl:_=(128:Int):=b;exact JS;cases a
def JW:List PV->Option (Prop×PV)
 |[.w (.one (.sl 1 n f))]=>some (n=4/\∀ i,i<4->f i=Ew i,.lu [.agg [.sl 1 4 (eX (JI 4))],.one (.lit (.int .i64 0))])|_=>none
theorem aOt{C:Ctx}{n:Nat}{f g:Nat->List PC}{v:ag}(h:RV C (d_ (.sl 1 n f)) v)(a:∀ i,i<n->f i=g i):RV C (d_ (.sl 1 n g)) v:=by
 cases h with
 |w h=>cases h with
  |one h=>exact .w (.one (h.A_ a))
theorem bIv:ai prog af 63 (aZ false JW):=by
 refine aW (aC func63 aj rfl) (fun f p r a e=>?_);unfold JW at a;split at a;cases a;obtain⟨rfl,h⟩:=e
 exact JV.args fun C b d=>by
  match b,d with
  |[x],⟨c,_⟩=>exact⟨aOt c h,trivial⟩
 cases a
def nwL:List (Nat×Spec):=[(63,aZ false JW),(64,aZ true JU)]
theorem aBE:∀ p∈nwL,ai prog af p.1 p.2:=by intro p a;simp only[nwL,List.mem_cons,List.not_mem_nil,or_false] at a;rcases a with rfl|rfl;exact bIv;exact bIu
theorem nwM:jl prog af (find nwL):=⟨bD aBE,dG⟩
theorem JQ(root:List UInt8):fP prog af 33 false [.w (.agg [.bs 16 root]),d_ (.sl 1 4 Ew)] (.lu [.agg (pz (En root)),.one (.lit (.int .i64 0))]):=by have M:=nwM;refine bH func33 rfl rfl bK (fun A e d f=>?_);refine aB ?_;refine aB ?_;refine aG ?_;refine aB ?_;refine aI (fun b=>?_) (fun b=>?_);cases b;refine aJ ?_;refine aB ?_;refine aB ?_;refine cZ (fun a w c=>⟨.inr rfl,_,?_,c⟩);refine oG (by rfl) (by simp) (by rfl) ?_;refine .lu (.cons (.agg (.cons (.cold rfl) (.cons (.cold rfl) (.cons (.cold rfl) .nil)))) (.cons (.one (.cold rfl)) .nil))
def JR:List PV->Option (Prop×PV)
 |[.w (.agg [.bs 16 root]),.w (.one (.sl 1 n f))]=>some (n=4/\∀ i,i<4->f i=Ew i,.lu [.agg (pz (En root)),.one (.lit (.int .i64 0))])|_=>none
theorem bIt:ai prog af 33 (aMz JR):=by
 refine bCx (aC func33 aj rfl) (fun f p r a e=>?_);unfold JR at a;split at a;cases a;obtain⟨rfl,h⟩:=e
 exact (JQ _).args fun C b d=>by
  match b,d with
  |[x,y],⟨c,k1,_⟩=>exact⟨c,aOt k1 h,trivial⟩
 cases a
section
variable {α β:Type}
def uf:ah α->jk->Except Int α×jk
 |.ret a,h=>(.ok a,h)|.ask c k,h=>if c.kind = -1 then (.error c.jy,h) else uf (k (fQ h c AL).2.1) (fQ h c AL).1
def nfB(f:α->jk->Except Int β×jk):Except Int α×jk->Except Int β×jk
 |(.ok a,h)=>f a h|(.error e,h)=>(.error e,h)
theorem aMb(p:ah α)(f:α->ah β):∀ h,uf (p.bind f) h=nfB (fun a h=>uf (f a) h) (uf p h):=by
 induction p with
 |ret a=>intro h;rfl|ask c k d=>intro h;show uf (.ask c fun r=>(k r).bind f) h=_;rw[uf,uf];by_cases b:c.kind = -1;rw[if_pos b,if_pos b];rfl;rw[if_neg b,if_neg b];exact d _ _
theorem dB{p:ah α}{f:α->ah β}{h b:jk}{a:α}(c:uf p h=(.ok a,b)):uf (p.bind f) h=uf (f a) b:=by rw[aMb,c];rfl
theorem aMa{p:ah α}{f:α->ah β}{h a:jk}{e:Int}(b:uf p h=(.error e,a)):uf (p.bind f) h=(.error e,a):=by rw[aMb,b];rfl
def Et(k:Int->α):Except Int α->α
 |.ok a=>a|.error e=>k e
theorem aVs(k:Int->α)(p:ah α):∀ h i,∃ n,iF [] (ah.catch k p) h i=(some (Et k (uf p h).1),(uf p h).2,n):=by
 induction p with
 |ret a=>intro h i;exact⟨i,rfl⟩|ask c g d=>intro h i;rw[uf];by_cases b:c.kind = -1;rw[if_pos b];unfold ah.catch;rw[decide_eq_true b];exact⟨i,rfl⟩;rw[if_neg b];rw[qG k g b,iF];have e:eY [] i=AL:=rfl;rw[e,if_neg jc];exact d _ _ _
theorem dW(e:Int)(h:jk):uf (iH true e) h=(.ok (),h):=rfl
theorem yF(e:Int)(h:jk):uf (iH false e) h=(.error e,h):=rfl
end
def cl(n:Nat):List Int:=DD (3*n) 2++DD (48-3*n) 0
def y_(c2 a:List Int)(f:Fl)(r:List UInt8):jk:=⟨[FB,FB,c2,a],f,r⟩
theorem XI:FB=cl 0:=rfl
end Pv
section
section
variable {f:Fl} {u:TE}
theorem MI(h:Fine f u){g:Fl}(c:∀ t,(t<jf f u\/jf f u+8<=t)->sec g t=sec f t){rec k:Int}(h0:0<=rec)(h1:rec<=3)(h2:0<=k)(h3:k<=1)(a:rec≠u.jb\/k=((jv f u.jb).2:Int)):Da g rec k=Da f rec k:=by
 have j:=h.first;have i:(jv f u.jb).2=0\/(jv f u.jb).2=1:=aZl _ _;unfold Da;rw[aHp (f:=g) (g:=f) (s:=bF rec k) (fun t e d=>c t ?_)];rw[wS h0 h1 h2 h3] at e d;rcases a with a|rfl;omega
 by_cases b:rec=u.jb;subst b;omega;omega
structure Di(f:Fl)(u:TE)(x:Fl×Ce×Bool×List Acc):Prop where
 sz:Sz x.1
 far:∀ rec k:Int,0<=rec->rec<=3->0<=k->k<=1->(rec≠u.jb\/k=((jv f u.jb).2:Int))->Da x.1 rec k=Da f rec k
 done:x.2.2.1=true->x.2.1=⟨u.content,(jv f u.jb).1.1+1,0⟩/\Da x.1 u.jb (1-((jv f u.jb).2:Int))=((jv f u.jb).1.1+1,u.content.data.toList)
 left:x.2.2.1=false->x.2.1=EC/\UM f u (Da x.1 u.jb (1-((jv f u.jb).2:Int)))
theorem V9(h:Fine f u):Di f u (D6 f u):=by
 have s:=h.len;have z:=h.nsec;by_cases w:u.cut<0\/17+(nsec (iw f u):Int)<=u.cut;have d:(fC (jf f u) (iw f u))[nsec (iw f u)]?=some ⟨4,0,jf f u,strOf (jq (iw f u) 0)⟩:=sZ _ _ s.1;have b:=aNz h (dE _) _ d (-1);have t:=aOi h (cut := -1) (.inl jc);rw[<-Fa h] at b t;rw[aFp h w];exact⟨b.1,fun i k q p o n c=>MI h b.2 q p o n c,fun _=>⟨rfl,t⟩,(fun g=>by cases g)⟩;by_cases x:u.cut<16;rw[Ij h a_ x];exact⟨h.sz,fun _ _ _ _ _ _ _=>rfl,(fun g=>by cases g),fun _=>⟨rfl,.old rfl⟩⟩;obtain⟨j,y⟩:∃ j:Nat,u.cut=16+(j:Int):=⟨(u.cut-16).toNat,by omega⟩;have e:j<=nsec (iw f u):=by omega
 have r:=kD (jf f u) (iw f u) s.1;obtain⟨a,m⟩:∃ a,(fC (jf f u) (iw f u))[j]?=some a:=⟨_,zH a_⟩;have b:=aNz h e a m (max 0 u.bytes);have l:=bAa h e a m (cut:=max 0 u.bytes) a_;rw[bHu h y e a m];exact⟨b.1,fun i k q p o n c=>MI h b.2 q p o n c,(fun g=>by cases g),fun _=>⟨rfl,l⟩⟩
theorem Di.same{x:Fl×Ce×Bool×List Acc}(h:Fine f u)(p:Di f u x):Da x.1 u.jb ((jv f u.jb).2:Int)=(jv f u.jb).1:=by have a:(jv f u.jb).2=0\/(jv f u.jb).2=1:=aZl _ _;rw[p.far u.jb _ h.r0 h.r3 a_ a_ (.inr rfl)];exact (aRz f u.jb).1
theorem Di.whole{x:Fl×Ce×Bool×List Acc}(h:Fine f u)(p:Di f u x)(a:x.2.2.1=true):(jv x.1 u.jb).1=((jv f u.jb).1.1+1,u.content.data.toList):=Ry (p.same h) (p.done a).2
end
end
namespace Pv
def XT(n:Nat)(c:Acc):Prop:=(c.kind=3/\(c.bytes=aH/\c.jy=0)/\0<=c.cell/\c.cell<n)\/(c.kind=4/\c.jy=0/\(0<=c.cell/\c.cell<n)/\c.bytes.size=256)
theorem N9{b:List (List Int)}{f:Fl}{r:List UInt8}{c:Acc}(h:XT f.length c):fQ ⟨b,f,r⟩ c AL=(⟨b,jR (-1) c f,r⟩,CB c f,0):=by rcases h with⟨a,e,d⟩|⟨a,e,d,g⟩;rw[aNj a e d];unfold jR CB;rw[if_pos a,if_pos a];rfl;rw[aNi a e d g];unfold jR CB;rw[if_neg a_,if_neg a_];rfl
theorem aOr(cut:Int)(c:Acc)(f:Fl):(jR cut c f).length=f.length:=by
 unfold jR;split
 rfl;exact aBf _ _ _ _
theorem aQe{e:Type}(p:ah e):∀ (b:List (List Int)) (f:Fl) (r:List UInt8),(∀ c∈og p f,XT f.length c)->uf p ⟨b,f,r⟩=(.ok (zt p f),⟨b,y8 (og p f) f,r⟩):=by
 induction p with
 |ret a=>intro b f r _;rfl|ask c k g=>
  intro b f r h;have d:XT f.length c:=h c List.mem_cons_self
  have j:c.kind ≠ -1:=by rcases d with⟨l,_⟩|⟨l,_⟩<;>omega
  rw[uf,if_neg j,N9 d];refine (g (CB c f) b (jR (-1) c f) r (fun x i=>?_)).trans rfl;rw[aOr];exact h x (List.mem_cons_of_mem _ i)
theorem aFm{s:Int}(h0:0<=s)(h1:s+8<=128):∀ n,n<=8->∀ c∈pY s n,XT 128 c
 |0,_,c,h=>by cases h|n+1,a,c,h=>by rcases List.mem_cons.1 h with rfl|h;exact .inl ⟨rfl,⟨rfl,rfl⟩,by show 0<=s+((7-n:Nat):Int);omega,by show s+((7-n:Nat):Int)<128;omega⟩;exact aFm h0 h1 n a_ c h
theorem bEq{s:Int}{b:List UInt8}(h0:0<=s):∀ n i,s+((i+n:Nat):Int)<=128->∀ c∈Aj s b n i,XT 128 c
 |0,_,_,c,h=>by cases h|n+1,i,a,c,h=>by rcases List.mem_cons.1 h with rfl|h;exact .inr ⟨rfl,rfl,⟨by show 0<=s+(i:Int);omega,by show s+(i:Int)<128;omega⟩,by rw[bJ,fM]⟩;exact bEq h0 n (i+1) a_ c h
theorem bEs{s:Int}{b:List UInt8}(h0:0<=s)(h1:s+8<=128)(hb:nsec b<=8)(a:1<=nsec b):∀ c∈fC s b,XT 128 c:=by
 intro c h;rcases List.mem_cons.1 h with rfl|h;exact .inr ⟨rfl,rfl,⟨h0,by show s<128;omega⟩,by rw[bJ,nP]⟩;rcases List.mem_append.1 h with h|h;exact bEq h0 (nsec b-1) 1 a_ c h
 obtain rfl:=List.mem_singleton.1 h;exact .inr ⟨rfl,rfl,⟨h0,by show s<128;omega⟩,by rw[bJ,fM]⟩
theorem bHn:∀ c∈Go.Proofs.YtndpjopifkbgiaaGreatDoor.Bg 3,XT 128 c:=by intro c h;rcases List.mem_append.1 h with h|h;exact aFm jc jc 8 (dE _) c h;exact aFm jc jc 8 (dE _) c h
structure Bf(f:Fl)(s:Int)(c:List UInt8):Prop where
 sz:Sz f
 cur:(jv f 3).1=(s,c)
theorem bLk:Sz Cc:=⟨by unfold Cc;rw[Yk],fun x a=>by
 rw[List.eq_of_mem_replicate a,bJ];unfold DY
 rw[Yk]⟩
theorem RS{t:Int}(h0:0<=t)(h1:t<128):(sec Cc t)[0]?=some 0:=by
 obtain⟨n,rfl⟩:=Int.eq_ofNat_of_zero_le h0;have a:n<128:=by omega
 have e:Cc.getD n aH=strOf DY:=by unfold Cc;rw[zG,Yx,if_pos a,Option.getD_some]
 unfold sec;rw[if_pos ⟨h0,by rw[bLk.1];exact h1⟩,Int.toNat_natCast,e,bV];unfold DY;rw[Yx,if_pos a_]
theorem aDq:Bf Cc 0 []:=by
 refine⟨bLk,?_⟩;have h:∀ k:Int,0<=k->k<=1->Da Cc 3 k=(0,[]):=fun k b a=>by have e:=wS (rec:=3) (k:=k) a_ a_ b a;exact aKo bLk a_ a_ (RS a_ a_) 3
 unfold jv;rw[h 0 a_ a_,h 1 a_ a_];rfl
theorem KG{f:Fl}{s:Int}{c:List UInt8}(h:Bf f s c)(b:List (List Int))(r:List UInt8):uf (ah.load 3) ⟨b,f,r⟩=(.ok (uH (s,c)),⟨b,f,r⟩):=by obtain⟨d,e⟩:=Vp (rec:=3) (f:=f) a_ a_;have a:=(OV 3 f).2.2;rw[(OV 3 f).1] at a;rw[aQe _ b f r (by rw[d,h.sz.1];exact bHn),d,e,a,h.cur]
def F8(f:Fl)(x:ByteArray):Fl:=(D6 f ⟨3,x,-1,0⟩).1
theorem He{f:Fl}{s:Int}{c:List UInt8}(h:Bf f s c){x:ByteArray}(j:x.size<=2000)(hs:s+1<=1099511627776)(b:List (List Int))(r:List UInt8):uf (ah.save 3 x) ⟨b,f,r⟩=(.ok ⟨x,s+1,0⟩,⟨b,F8 f x,r⟩):=by
 have a:(jv f 3).1.1+1<=1099511627776:=by rw[h.cur];exact hs
 have e:Fine f ⟨3,x,-1,0⟩:=⟨h.sz,(by show (0:Int)<=3;decide),(by show (3:Int)<=3;decide),j,a⟩;obtain⟨i,m⟩:=aXh (rec:=3) (c:=x) (f:=f) a_ a_ j a;have g:=(OV 3 f).2.2;rw[(OV 3 f).1] at g;have n:=aFp e (.inl (by show (-1:Int)<0;decide));have o:=e.first;have k:=e.nsec;have l:(jv f 3).1.1=s:=by rw[h.cur]
 rw[aQe _ b f r,i,m,aGu,g,l];unfold F8;rw[n];dsimp only;unfold jf iw;rw[show (jv f (TE.jb ⟨3,x,-1,0⟩)).1.1=s from l];rw[i,h.sz.1];intro c d;rcases List.mem_append.1 d with d|d;exact bHn c d;exact bEs (s:=jf f ⟨3,x,-1,0⟩) (b:=iw f ⟨3,x,-1,0⟩) o.1 a_ k.2 k.1 c d
theorem Oy{f:Fl}{s:Int}{c:List UInt8}(h:Bf f s c){x:ByteArray}(d:x.size<=2000)(hs:s+1<=1099511627776):Bf (F8 f x) (s+1) x.data.toList:=by
 have a:(jv f 3).1.1+1<=1099511627776:=by rw[h.cur];exact hs
 have b:Fine f ⟨3,x,-1,0⟩:=⟨h.sz,(by show (0:Int)<=3;decide),(by show (3:Int)<=3;decide),d,a⟩;have p:=V9 b;have g:(D6 f ⟨3,x,-1,0⟩).2.2.1=true:=by rw[aFp b (.inl (by show (-1:Int)<0;decide))]
 have e:=p.whole b g;refine⟨p.sz,e.trans ?_⟩;show ((jv f 3).1.1+1,_)=_;rw[h.cur]
structure CX(r:jg):Prop where
 kind:r.kind=1\/r.kind=2
 l0:0<=r.level
 l1:r.level<=16
 ol:g_ r.ol
 ot:r.ot.length=16
 p:r.payload.size<=1000
theorem jI{c:Type}(a b:List c){n:Nat}(h:n=a.length):(a++b).drop n=b:=by rw[h];exact List.drop_left
theorem bIj(root:List UInt8)(r:jg)(g:CX r):wJ root (kZ root r)=.okR (jJ r):=by
 have e:=g.l0;have d:=g.l1;unfold kZ;obtain⟨C,c⟩:∃ C,dN (jT root) r.level (jJ r)=C:=⟨_,rfl⟩;obtain⟨T,a⟩:∃ T,qc (jT root) r.level C=T:=⟨_,rfl⟩;have f:T.length=16:=by rw[<-a];exact fZ _ _ _
 have b:C.length<4611686018427387904:=by rw[<-c,dH];unfold jJ bI;have t:=aP r.kind;have s:=aP r.level;have q:=aP r.ol;have o:=aP (r.payload.data.toList.length:Int);have m:r.payload.data.toList.length=r.payload.size:=mf;have l:=g.p;have k:=g.ot;simp only[ed];omega
 rw[c,a];have j:=iP (n:=r.level) (bI C++T) a_ a_;have i:=kX C T b;unfold wJ;rw[j];dsimp only;rw[if_neg jc,jI _ _ rfl,i];dsimp only;rw[if_neg (by simp only[ed];omega)];have h:(b_ r.level++(bI C++T)).drop ((b_ r.level).length+(bI C).length)=T:=by rw[<-yl];exact jI _ _ (by rw[ed])
 rw[h];unfold bIi;rw[if_pos a,<-c,xQ]
theorem bMo(root:List UInt8)(r:jg)(g:CX r):qM root (fK root r)=(r,true):=by
 have b:=g.l0;have a:=g.l1;have d:=g.kind;unfold qM;rw[show (fK root r).data.toList=kZ root r from bV _,bIj root r g];unfold OH jJ;dsimp only;have h:=iP (n:=r.kind) (b_ r.level++(r.ot++(b_ r.ol++bI r.payload.data.toList))) a_ a_;have f:=iP (n:=r.level) (r.ot++(b_ r.ol++bI r.payload.data.toList)) a_ a_;have e:=iP (n:=r.ol) (bI r.payload.data.toList) g.ol.1 g.ol.2
 have c:=kX r.payload.data.toList [] (by
  have i:r.payload.data.toList.length=r.payload.size:=mf;have:=g.p
  omega)
 rw[List.append_nil] at c;rw[h];dsimp only;rw[jI _ _ rfl,f];dsimp only;rw[jI _ _ rfl];unfold VW
 rw[if_neg (by
  have:=g.ot;rw[ed];simp
  omega),jI _ _ g.ot.symm,e]
 dsimp only;rw[jI _ _ rfl,c];dsimp only;rw[show (r.ot++(b_ r.ol++bI r.payload.data.toList)).take 16=r.ot from by rw[<-g.ot];exact List.take_left,jK];unfold VV;rw[decide_eq_true];exact⟨rfl,rfl,d,b,a,rfl⟩
theorem aHa(root:List UInt8)(r:jg)(g:CX r):(fK root r).size<=2000:=by unfold fK;rw[bJ];unfold kZ bI;have j:=aP r.kind;have i:=aP r.level;have h:=aP r.ol;have f:=aP (r.payload.data.toList.length:Int);have e:r.payload.data.toList.length=r.payload.size:=mf;have d:=g.p;have c:=g.ot;have b:=aP ((dN (jT root) r.level (jJ r)).length:Int);simp only[ed,dH,fZ];unfold jJ bI;simp only[ed];have a:=aP ((b_ r.kind++(b_ r.level++(r.ot++(b_ r.ol++(b_ (r.payload.data.toList.length:Int)++r.payload.data.toList))))).length:Int);simp only[ed] at a;omega
structure CZ(f:Fl)(s:Int)(root:List UInt8)(r:jg):Prop where
 jb:Bf f s (kZ root r)
 s1:1<=s
 ok:CX r
theorem RG{m:je}{f:Fl}{s:Int}{r:jg}(h:CZ f s m.root r)(b:List (List Int))(q:List UInt8):uf (r_ m) ⟨b,f,q⟩=(.ok r,⟨b,f,q⟩):=by
 have a:=h.s1;have e:uH (s,kZ m.root r)=⟨fK m.root r,s,0⟩:=by unfold uH;rw[if_neg (by show ¬s=0;omega)];rfl
 unfold r_;rw[dB ((KG h.jb b q).trans (by rw[e]))];dsimp only;rw[show ((0:Int)==0)=true from rfl,dB (dW _ _),bMo m.root r h.ok];exact dB (dW _ _)
theorem Pj{m:je}{f:Fl}{s:Int}{c:List UInt8}{r:jg}(h:Bf f s c)(hs:s+1<=1099511627776)(g:CX r)(b:List (List Int))(q:List UInt8):uf (z_ m r) ⟨b,f,q⟩=(.ok (),⟨b,F8 f (fK m.root r),q⟩):=by unfold z_;rw[dB (He h (aHa m.root r g) hs b q)];dsimp only;rw[show ((0:Int)==0)=true from rfl,dB (dW _ _)];rfl
theorem aUm{root:List UInt8}{f:Fl}{s:Int}{c:List UInt8}{r:jg}(h:Bf f s c)(h0:0<=s)(hs:s+1<=1099511627776)(g:CX r):CZ (F8 f (fK root r)) (s+1) root r:=by have:=Oy h (aHa root r g) hs;rw[show (fK root r).data.toList=kZ root r from bV _] at this;exact⟨this,by omega,g⟩
theorem Vs{n:Nat}(h:n<=16):n=0\/n=1\/n=2\/n=3\/n=4\/n=5\/n=6\/n=7\/n=8\/n=9\/n=10\/n=11\/n=12\/n=13\/n=14\/n=15\/n=16:=by omega
theorem aKL{n:Nat}(hn:n<=16)(c2:List Int)(f:Fl)(r:List UInt8):uf (ah.dn 3 16) (y_ c2 (cl n) f r)=(.ok n,y_ c2 (cl n) f r):=by
 rcases Vs hn with rfl|rfl|rfl|rfl|rfl|rfl|rfl|rfl|rfl|rfl|rfl|rfl|rfl|rfl|rfl|rfl|rfl
 all_goals kernel_rfl
theorem aKM{n:Nat}(hn:n<=16)(a:List Int)(f:Fl)(r:List UInt8):uf (ah.dn 2 16) (y_ (cl n) a f r)=(.ok n,y_ (cl n) a f r):=by
 rcases Vs hn with rfl|rfl|rfl|rfl|rfl|rfl|rfl|rfl|rfl|rfl|rfl|rfl|rfl|rfl|rfl|rfl|rfl
 all_goals kernel_rfl
theorem aBR{n:Nat}(h:n<16):n=0\/n=1\/n=2\/n=3\/n=4\/n=5\/n=6\/n=7\/n=8\/n=9\/n=10\/n=11\/n=12\/n=13\/n=14\/n=15:=by omega
theorem aJS{n:Nat}(hn:n<16)(c2:List Int)(f:Fl)(r:List UInt8):uf (ah.jw 3 16 (n+1)) (y_ c2 (cl n) f r)=(.ok (n+1,0),y_ c2 (cl (n+1)) f r):=by
 rcases aBR hn with rfl|rfl|rfl|rfl|rfl|rfl|rfl|rfl|rfl|rfl|rfl|rfl|rfl|rfl|rfl|rfl
 all_goals kernel_rfl
theorem aJT{n:Nat}(hn:n<16)(a:List Int)(f:Fl)(r:List UInt8):uf (ah.jw 2 16 (n+1)) (y_ (cl n) a f r)=(.ok (n+1,0),y_ (cl (n+1)) a f r):=by
 rcases aBR hn with rfl|rfl|rfl|rfl|rfl|rfl|rfl|rfl|rfl|rfl|rfl|rfl|rfl|rfl|rfl|rfl
 all_goals kernel_rfl
theorem KC{n:Nat}(hn:n<=16):kW (cl n) false=n:=by
 rcases Vs hn with rfl|rfl|rfl|rfl|rfl|rfl|rfl|rfl|rfl|rfl|rfl|rfl|rfl|rfl|rfl|rfl|rfl
 all_goals kernel_rfl
theorem aMs{m:je}{f:Fl}{s:Int}{r:jg}(h:CZ f s m.root r)(c2 a:List Int)(q:List UInt8):uf (r_ m) (y_ c2 a f q)=(.ok r,y_ c2 a f q):=RG h _ q
theorem bHv{m:je}{f:Fl}{s:Int}{c:List UInt8}{r:jg}(h:Bf f s c)(hs:s+1<=1099511627776)(g:CX r)(c2 a:List Int)(q:List UInt8):uf (z_ m r) (y_ c2 a f q)=(.ok (),y_ c2 a (F8 f (fK m.root r)) q):=Pj h hs g _ q
theorem Pe{n:Nat}(hn:n<16)(c2:List Int)(f:Fl)(r:List UInt8):uf (kS 3 (n+1)) (y_ c2 (cl n) f r)=(.ok (n+1),y_ c2 (cl (n+1)) f r):=by unfold kS;rw[dB (aJS hn c2 f r)];rfl
theorem Pg{n:Nat}(hn:n<16)(a:List Int)(f:Fl)(r:List UInt8):uf (kS 2 (n+1)) (y_ (cl n) a f r)=(.ok (n+1),y_ (cl (n+1)) a f r):=by unfold kS;rw[dB (aJT hn a f r)];rfl
theorem aYf{n:Nat}(hn:n<16)(c2:List Int)(f:Fl)(r:List UInt8):uf (qK n) (y_ c2 (cl n) f r)=(.ok (),y_ c2 (cl (n+1)) f r):=by unfold qK;rw[dB (Pe hn c2 f r),show (((n+1:Nat):Int)==((n+1:Nat):Int))=true from beq_self_eq_true _,dB (dW _ _)];rfl
theorem aLp{n:Nat}(hn:n<16)(a:n % 2=0)(h:jk):uf (nM n) h=(.ok (),h):=by unfold nM;rw[a,show (((0:Nat):Int)==0)=true from rfl,dB (dW _ _),decide_eq_true a_,dB (dW _ _)];rfl
theorem IY{n:Nat}(a:n % 2=1)(h:jk):uf (nM n) h=(.error 21,h):=by unfold nM;rw[a,show (((1:Nat):Int)==0)=false from rfl];exact aMa (yF _ _)
theorem aMh{n:Nat}(hn:n<16){p:ByteArray}(a:p.size<=1000):CX (qL n p):=⟨.inl rfl,by show (0:Int)<=((n+1:Nat):Int);omega,by show ((n+1:Nat):Int)<=16;omega,by show g_ 0;unfold g_;omega,rfl,a⟩
theorem aKi{m:je}{n:Nat}{f:Fl}{s:Int}{c:List UInt8}{p:ByteArray}(h:Bf f s c)(hs:s+1<=1099511627776)(hn:n<16)(a:p.size<=1000)(c2:List Int)(q:List UInt8) :
  uf (nJ m n p) (y_ c2 (cl n) f q)=(.ok { kz with payload:=p },y_ c2 (cl (n+1)) (F8 f (fK m.root (qL n p))) q):=by
 unfold nJ;rw[dB (bHv h hs (aMh hn a) _ _ q)];rw[dB (aYf hn c2 _ q)];rfl
theorem aBm{m:je}(a:1<=m.kind/\m.kind<=7)(h:jk):uf (lJ m) h=nfB (fun _ h=>(.ok (),h)) (uf (sQ m) h):=by unfold lJ;rw[decide_eq_true (show m.kind>=1 from a.1),decide_eq_true a.2,show (bif true then true else false)=true from rfl,dB (dW _ _),aMb];rfl
theorem uS{m:je}(a:m.kind=2\/m.kind=4\/m.kind=6)(h:jk):uf (lJ m) h=(.ok (),h):=by rw[aBm a_];unfold sQ;rw[if_neg a_,if_neg a_,if_neg a_];rfl
theorem bNq{m:je}(d:m.kind=1\/m.kind=3)(a:m.payload.size<=1000)(h:jk):uf (lJ m) h=(.ok (),h):=by rw[aBm a_];unfold sQ;rw[if_pos a_,decide_eq_true a_];rfl
theorem bDp{m:je}(a:m.kind=5)(h0:0<=m.ol)(h1:m.ol<16)(h2:m.ol.tmod 2=0)(h3:(m.ot==m.id)=false)(h:jk):uf (lJ m) h=(.ok (),h):=by rw[aBm a_];unfold sQ;rw[if_neg a_,if_pos a,decide_eq_true (show m.ol>=0 from h0),decide_eq_true h1,h2,h3];rfl
theorem aSg{m:je}(d:m.kind=7)(a:(m.xt==m.id)=true)(h:jk):uf (lJ m) h=(.ok (),h):=by rw[aBm a_];unfold sQ;rw[if_neg a_,if_neg a_,if_pos d,a];rfl
theorem qR{m:je}{n:Nat}{c2:List Int}{f:Fl}{q:List UInt8}(hc:∀ h,uf (lJ m) h=(.ok (),h))(hn:n<=16):uf (nN m) (y_ c2 (cl n) f q)=uf (pK m n) (y_ c2 (cl n) f q):=by unfold nN;rw[dB (hc _),dB (aKL hn c2 f q)]
section
variable {m:je} {n n2:Nat} {f:Fl} {s:Int} {c c2:List Int} {b:List UInt8} {r:jg} {q:List UInt8}
theorem bDj(d:m.kind=1)(a:m.payload.size<=1000)(h:Bf f s b)(hs:s+1<=1099511627776)(hn:n<16)(e:n % 2=0) :
  uf (nN m) (y_ c2 (cl n) f q)=(.ok { kz with payload:=m.payload },y_ c2 (cl (n+1)) (F8 f (fK m.root (qL n m.payload))) q):=by
 rw[qR (bNq (.inl d) a) a_];unfold pK;rw[if_pos d];unfold zN;rw[dB (aLp hn e _),dB (aKi h hs hn a c2 q)];rfl
theorem bIo(a:m.kind=4)(hn:n<16)(d:n % 2=0):uf (nN m) (y_ c2 (cl n) f q)=(.ok { kz with ot:=m.id,ol:=n },y_ c2 (cl n) f q):=by rw[qR (uS (.inr (.inl a))) a_];unfold pK;rw[if_neg a_,if_neg a_,if_neg a_,if_pos a];unfold Xe;rw[dB (aLp hn d _)];rfl
theorem aXf(hn:n<16)(d:g_ m.ol)(a:m.ot.length=16)(g:CX r):CX (yN m n r):=⟨.inr rfl,by show (0:Int)<=((n+1:Nat):Int);omega,by show ((n+1:Nat):Int)<=16;omega,d,a,g.p⟩
theorem Gs(a:m.kind=5)(h0:0<=m.ol)(h1:m.ol<16)(h2:m.ol.tmod 2=0)(h3:(m.ot==m.id)=false)(d:m.ot.length=16)(h:CZ f s m.root r)(hs:s+1<=1099511627776)(hn:n<16)(e:n % 2=1)(hr:r.kind=1)(hl:r.level=n) :
  uf (nN m) (y_ c2 (cl n) f q)=(.ok (gW m.link (yN m n r)),y_ c2 (cl (n+1)) (F8 f (fK m.root (yN m n r))) q):=by
 rw[qR (bDp a h0 h1 h2 h3) a_];unfold pK;rw[if_neg a_,if_neg a_,if_neg a_,if_neg a_,if_pos a];unfold Sv;rw[e,show (((1:Nat):Int)==1)=true from rfl,dB (dW _ _),dB (aMs h _ _ q),hr,hl,show ((1:Int)==1)=true from rfl,show ((n:Int)==(n:Int))=true from beq_self_eq_true _,show (bif true then true else false)=true from rfl,dB (dW _ _)];rw[dB (aYf hn c2 f q)];rw[dB (bHv h.jb hs (aXf hn (by unfold g_;omega) d h.ok) _ _ q)];rfl
theorem bBc(a:m.kind=6)(h:CZ f s m.root r)(hn:n<=16)(d:n % 2=0)(hr:r.kind=2)(hl:r.level=n):uf (nN m) (y_ c2 (cl n) f q)=(.ok (gW m.link r),y_ c2 (cl n) f q):=by rw[qR (uS (.inr (.inr a))) hn];unfold pK;rw[if_neg a_,if_neg a_,if_neg a_,if_neg a_,if_neg a_,if_pos a];unfold tN;rw[d,show (((0:Nat):Int)==0)=true from rfl,dB (dW _ _),dB (aMs h _ _ q),hr,hl,show ((2:Int)==2)=true from rfl,show ((n:Int)==(n:Int))=true from beq_self_eq_true _,show (bif true then true else false)=true from rfl,dB (dW _ _)];rfl
structure Tra(m:je)(p:ByteArray):Prop where
 xt:(m.xt==m.id)=true
 o:opened (keyS m.link m.xt m.xl) m.bn m.bc m.bt=true
 p:strOf (dN (keyS m.link m.xt m.xl) m.bn m.bc.data.toList)=p
theorem bEh{p:ByteArray}(d:m.kind=7)(t:Tra m p)(a:p.size<=1000)(h:Bf f s b)(hs:s+1<=1099511627776)(hn:n<16)(e:n % 2=0)(hl:m.xl=n) :
  uf (nN m) (y_ c2 (cl n) f q)=(.ok { kz with payload:=p },y_ c2 (cl (n+1)) (F8 f (fK m.root (qL n p))) q):=by
 rw[qR (aSg d t.xt) a_];unfold pK;rw[if_neg a_,if_neg a_,if_neg a_,if_neg a_,if_neg a_,if_neg a_];have i:UJ m=0:=by unfold UJ;rw[t.o];rfl
 have g:qZ m=p:=by unfold qZ;rw[t.o,t.p];rfl
 unfold qJ;rw[dB (aLp hn e _),hl,show ((n:Int)==(n:Int))=true from beq_self_eq_true _,dB (dW _ _),i,g,show ((0:Int)==0)=true from rfl,dB (dW _ _),decide_eq_true a_,dB (dW _ _),dB (aKi h hs hn a c2 q)];rfl
theorem bEg(d:m.kind=7)(a:(m.xt==m.id)=true)(hn:n<=16)(e:n % 2=1):uf (nN m) (y_ c2 (cl n) f q)=(.error 21,y_ c2 (cl n) f q):=by rw[qR (aSg d a) hn];unfold pK;rw[if_neg a_,if_neg a_,if_neg a_,if_neg a_,if_neg a_,if_neg a_];unfold qJ;exact aMa (IY e _)
theorem aQm(a:m.kind=2)(h:CZ f s m.root r)(hn:n<=16)(d:n % 2=1)(hr:r.kind=1)(hl:r.level=n)(h2:n2<16):uf (nN m) (y_ (cl n2) (cl n) f q)=(.ok { kz with session:=n2,payload:=r.payload },y_ (cl (n2+1)) (cl n) f q):=by rw[qR (uS (.inl a)) hn];unfold pK;rw[if_neg a_,if_pos a];unfold O5;rw[dB (aMs h _ _ q),hr,hl,d,show n+1-1=n from by omega,show ((1:Int)==1)=true from rfl,show ((n:Int)==(n:Int))=true from beq_self_eq_true _,show (bif true then true else false)=true from rfl,dB (dW _ _)];rw[show (((1:Nat):Int)==0)=false from rfl,show (bif false then qK n else ah.ret ())=ah.ret () from rfl,ah.Nl];unfold ZN;rw[dB (aKM a_ (cl n) f q),decide_eq_true a_,dB (dW _ _),dB (Pg h2 (cl n) f q)];rfl
theorem bCd(a:m.kind=2)(h:CZ f s m.root r)(hn:n<=16)(hr:(bif r.kind==1 then r.level==((n+1-n % 2:Nat):Int) else false)=false):uf (nN m) (y_ c2 (cl n) f q)=(.error 14,y_ c2 (cl n) f q):=by rw[qR (uS (.inl a)) a_];unfold pK;rw[if_neg a_,if_pos a];unfold O5;rw[dB (aMs h _ _ q),hr];exact aMa (yF _ _)
end
end Pv
namespace Pv
theorem aDZ(a:Act)(h:a.tmps.size=39){J:List Deferred}(hd:a.defers=J):∃ V U T S Q P O N u8 K I H G F E D C B A z y x w u t s r q p o n m k j g f e c b,a={ tmps:=#[V,U,T,S,Q,P,O,N,u8,K,I,H,G,F,E,D,C,B,A,z,y,x,w,u,t,s,r,q,p,o,n,m,k,j,g,f,e,c,b],defers:=J }:=by
 obtain⟨⟨L⟩,d⟩:=a;obtain rfl:d=J:=hd;have W:L=(List.range 39).map fun i=>L.getD i dC:=by apply List.ext_getElem;simpa using h;intro i X Y;rw[List.getElem_map,List.getElem_range,zG,zH X];rfl
 exact⟨L.getD 0 dC,L.getD 1 dC,L.getD 2 dC,L.getD 3 dC,L.getD 4 dC,L.getD 5 dC,L.getD 6 dC,L.getD 7 dC,L.getD 8 dC,L.getD 9 dC,L.getD 10 dC,L.getD 11 dC,L.getD 12 dC,L.getD 13 dC,L.getD 14 dC,L.getD 15 dC,L.getD 16 dC,L.getD 17 dC,L.getD 18 dC,L.getD 19 dC,L.getD 20 dC,L.getD 21 dC,L.getD 22 dC,L.getD 23 dC,L.getD 24 dC,L.getD 25 dC,L.getD 26 dC,L.getD 27 dC,L.getD 28 dC,L.getD 29 dC,L.getD 30 dC,L.getD 31 dC,L.getD 32 dC,L.getD 33 dC,L.getD 34 dC,L.getD 35 dC,L.getD 36 dC,L.getD 37 dC,L.getD 38 dC,congrArg (fun l=>({ tmps:=⟨l⟩,defers:=d }:Act)) W⟩
theorem gu.aJQ{A:n_}{s:St}{a:Act}{w:ae}{env:Env}(h:gu A s a w env)(b:Act)(d:List (Nat×Option Bool×PV))(hs:b.tmps.size=a.tmps.size)(e:∀ t g pv,find d t=some (g,pv)->g=none/\∃ v,b.tmps[t]?=some v/\RV (aT A w env) pv v):gu { A with ds:=b.defers } ⟨d,s.o⟩ b w env:={ gy:=h.gy,size:=hs.trans h.size,dom:=h.dom,l9:=h.l9,live:=h.live,inj:=h.inj,tmps:=fun t g pv c _=>(e t g pv c).2,defers:=rfl,und:=fun t pv c=>(by cases (e t _ pv c).1),oq:=h.oq,dev:=h.dev }
def opC(m:je):Array ag:=(#[.int .i64 m.kind]:Array ag)++Df m.root++Df m.id++Df m.link++#[.string m.payload]++Df m.ot++#[.int .i64 m.ol]++Df m.xt++#[.int .i64 m.xl,.int .i64 m.bn,.string m.bc]++Df m.bt
theorem aYd{C:Ctx}{m:je}{xs:List ag}(h:RL C (um m) xs):xs=(opC m).toList/\m.id.length=16/\m.bt.length=16:=by unfold um at h;cases h with|cons i h=>cases h with|cons k1 h=>cases h with|cons k2 h=>cases h with|cons k3 h=>cases h with|cons k4 h=>cases h with|cons d h=>cases h with|cons g h=>cases h with|cons c h=>cases h with|cons f h=>cases h with|cons e h=>cases h with|cons b h=>cases h with|cons a h=>cases h;cases i;cases k4;cases g;cases f;cases e;cases b;cases k1 with|bs k1=>cases k2 with|bs k2=>cases k3 with|bs k3=>cases d with|bs d=>cases c with|bs c=>cases a with|bs a=>exact⟨by simp[opC,Df],k2,a⟩
structure yj(m:je):Prop where
 root:m.root.length=16
 id:m.id.length=16
 link:m.link.length=16
 ot:m.ot.length=16
 xt:m.xt.length=16
 bt:m.bt.length=16
theorem bIl(C:Ctx){m:je}(h:yj m):RL C (um m) (opC m).toList:=by
 have e:(opC m).toList=[.int .i64 m.kind]++(m.root.map qj++(m.id.map qj++(m.link.map qj++([.string m.payload]++(m.ot.map qj++([.int .i64 m.ol]++(m.xt.map qj++([.int .i64 m.xl]++([.int .i64 m.bn]++([.string m.bc]++(m.bt.map qj++[]))))))))))):=by simp[opC,Df]
 rw[e];exact .cons (.lit rfl) (.cons (.bs h.root) (.cons (.bs h.id) (.cons (.bs h.link) (.cons (.lit rfl) (.cons (.bs h.ot) (.cons (.lit rfl) (.cons (.bs h.xt) (.cons (.lit rfl) (.cons (.lit rfl) (.cons (.lit rfl) (.cons (.bs h.bt) .nil)))))))))))
theorem aMd:ve prog 31 102:=⟨⟨_,underlying31,rfl⟩,by kernel_rfl⟩
theorem tZ{m:je}(h:yj m):(opC m).size=102:=by unfold opC;simp only[aEC,aZp,h.root,h.id,h.link,h.ot,h.xt,h.bt,YS,Lt,YN]
theorem aXo{C:Ctx}:∀ {l m:List PC} {a:List ag},RL C (l++m) a->∃ d b,a=d++b/\RL C l d/\RL C m b
 |[],m,a,h=>⟨[],a,rfl,.nil,h⟩| c::l,m,a,h=>by
  cases h with
  |@cons _ _ _ e k j i=>obtain⟨d,b,rfl,g,f⟩:=aXo i;exact⟨e++d,b,(yl ..).symm,.cons j g,f⟩
def Ad(hd:ag)(m:je)(f:Int):Array ag:=(#[hd]:Array ag)++opC m++#[.int .i64 f]
theorem QF{C:Ctx}{hd:ag}{m:je}{f:Int}{xs:List ag}(h:RL C (.lit hd::ng m f) xs):xs=(Ad hd m f).toList:=by
 have e:ng m f=um m++[.lit (.int .i64 f)]:=rfl;rw[e] at h;cases h with
 | cons k h=>
  cases k;obtain⟨d,c,rfl,b,a⟩:=aXo h;rw[(aYd b).1];cases a with
  |cons k2 a=>cases k2;cases a;simp[Ad]
theorem QE{C:Ctx}{hd:ag}(a:R C .dv [hd]){m:je}(h:yj m)(f:Int):RL C (.dv::ng m f) (Ad hd m f).toList:=by
 have e:(Ad hd m f).toList=[hd]++((opC m).toList++[.int .i64 f]):=by simp[Ad]
 rw[e];exact .cons a ((bIl C h).append (.cons (xs:=[_]) (.lit rfl) .nil))
structure R3(m:je)(hd:ag)(g g3:Nat)(ds:List Deferred)(w1:ae)(a:Act)(W:ae)(go:Nat):Prop where
 sz:a.tmps.size=39
 ds:a.defers=ds
 t0:a.tmps[0]?=some hd
 t1:a.tmps[1]?=some (.pointer (some ⟨g,0,none⟩))
 t3:a.tmps[3]?=some (.pointer (some ⟨g3,0,none⟩))
 t4:a.tmps[4]?=some (.pointer (some ⟨go,0,none⟩))
 gy:dm (fun b=>b=g) w1 W
 new:w1.heap.size<=go/\go<W.heap.size
 bg:dh W g 31 (opC m)
 bo:dh W go 122 (Ad hd m 0)
def r3T(hd:ag)(a:Nat):List (Nat×Option Bool×PV):=[(0,none,o9 hd),(1,none,d_ (.pt 900001 0 0)),(3,none,o9 (.pointer (some ⟨a,0,none⟩)))]
def r3S(m:je)(hd:ag)(a:Nat):St:=⟨r3T hd a,[(900001,none,0,.box 31 (um m))]⟩
def r3E(m:je)(hd:ag)(a:Nat):St:=⟨(4,none,d_ (.pt 3003 0 0))::r3T hd a,[(3003,none,0,.box 122 (.lit hd::ng m 0)),(900001,none,0,.box 31 (um m))]⟩
structure R3A(g:Nat)(w1:ae)(ds:List Deferred)(A:n_):Prop where
 nt:A.nt=Tryz.f45.ntmps
 ok:o5 prog (fun _=>True) A
 dw:∀ l,¬A.dw l
 S:∀ b,A.S b->b=g
 w0:A.w0=w1
 ds:A.ds=ds
 eg:A.ext 900001=some (jM g)
theorem Px(m:je)(q:yj m)(d:ae)(g E:Nat)(hd:ag)(h1:hd.oneCell'=true)(z:dh d g 31 (opC m))(a:Act)(s:a.tmps.size=39)(K:a.tmps[0]?=some hd)(J:a.tmps[1]?=some (.pointer (some ⟨g,0,none⟩)))(H:a.tmps[3]?=some (.pointer (some ⟨E,0,none⟩))) :
  ∃ A:n_,R3A g d a.defers A/\qh A (r3S m hd E) a d:=by
 have f:∀ b,SX [⟨900001,31,um m,um m⟩] (fun _=>g) Dv.non b->b=g:=by rintro b (h|⟨o,i,rfl⟩);exact h.elim;rfl
 have j:∀ o∈[(⟨900001,31,um m,um m⟩:Ob)],(fun _=>True) ((fun _=>g) o.x)/\∃ F,dh d ((fun _=>g) o.x) o.t F/\RL { w:=d,ok:=fun _=>False,env:=fun _=>none } o.l F.toList:=fun o i=>by obtain rfl:=List.mem_singleton.1 i;exact⟨trivial,_,z,bIl _ q⟩
 have T:∀ o∈[(⟨900001,31,um m,um m⟩:Ob)],∀ k∈[(⟨900001,31,um m,um m⟩:Ob)],(fun _:Nat=>g) o.x=(fun _:Nat=>g) k.x->o.x=k.x:=fun o i k n _=>by obtain rfl:=List.mem_singleton.1 i;obtain rfl:=List.mem_singleton.1 n;rfl
 have S:oh { w:=d,ok:=fun _=>False,env:=y9 [⟨900001,31,um m,um m⟩] (fun _=>g) none Dv.non.hd } [o9 hd,d_ (.pt 900001 0 0)] [hd,.pointer (some ⟨g,0,none⟩)]:=⟨.w (.one (.lit h1)),.w (.one (.pt ⟨_,_,rfl⟩ ⟨0,_,rfl,dE _,fun _=>⟨_,rfl,rfl⟩⟩)),trivial⟩
 obtain⟨e,u,r⟩:=aBh (P:=prog) (I:=fun _=>True) (fn:=Tryz.f45) (os:=[⟨900001,31,um m,um m⟩]) (O:=fun _=>none) (dev:=none) (dw:=fun _=>False) (args:=[o9 hd,d_ (.pt 900001 0 0)])
  (w:=d) (ok0:=fun _=>False) (vs:=[hd,.pointer (some ⟨g,0,none⟩)]) (bl:=fun _=>g) (D:=Dv.non) (X0:=fun _=>True) rfl rfl (fun _ _=>trivial) (fun b Q=>⟨by rw[f b Q];exact z.lt,fun h=>h⟩)
  (pq.non _) (fun _ _ _ _ _ _ h=>h.elim) rfl (fun p N=>by cases N) (fun _=>⟨fun _ h=>h,fun _ _ _ h=>h⟩) j T S
 refine⟨⟨d,SX [⟨900001,31,um m,um m⟩] (fun _=>g) Dv.non,fun _=>False,Tryz.f45.ntmps,ug [⟨900001,31,um m,um m⟩] (fun _=>g) none Dv.non.hd,Dv.non,fun _=>False,fun _=>True,a.defers⟩,
  ⟨rfl,⟨e.mem,e.sub,e.old,e.step,e.dvh,e.Bo⟩,fun _ h=>h,f,rfl,rfl,rfl⟩,u,r.aJQ a _ ?_ ?_⟩
 have:=r.size;rw[s];exact this.symm;intro t V pv c;obtain⟨G,U,L⟩:=r.tmps 1 none _ rfl trivial;have y:G=.pointer (some ⟨g,0,none⟩):=by simpa using U.symm
 subst y;by_cases C:0=t;subst C;rw[r3T,aK] at c;cases c;exact⟨rfl,_,K,.w (.one (.lit h1))⟩;rw[r3T,aN _ _ C] at c;by_cases B:1=t;subst B;rw[aK] at c;cases c;exact⟨rfl,_,J,L⟩;rw[aN _ _ B] at c;by_cases j:3=t;subst j;rw[aK] at c;cases c;exact⟨rfl,_,H,.w (.one (.lit rfl))⟩;rw[aN _ _ j] at c;cases c
theorem Py{m:je}{hd:ag}{g n:Nat}{p:List Deferred}{f:ae}{A:n_}(d:R3A g f p A){a:Act}{W:ae}(h:qh A (r3E m hd n) a W):∃ go,R3 m hd g n p f a W go:=by
 obtain⟨D,c⟩:=h;obtain⟨N,H,z⟩:=c.tmps 0 none _ rfl trivial;obtain⟨L,F,w⟩:=c.tmps 3 none _ rfl trivial;obtain⟨o,J,G,s,K,y⟩:=qh.BL c (t:=1) (x:=900001) rfl rfl;obtain⟨go,I,E,r,q,u⟩:=qh.BL c (t:=4) (x:=3003) rfl rfl;have B:o=g:=by have:=(c.oq 900001 _ d.eg).2.now s;exact (lG (b:=o) (g:=g) (by rw[<-this];rfl))
 subst B;have i:=c.live 3003 0 _ go r rfl;have e:f.heap.size<=go:=by rcases i.2 with h|⟨_,h⟩;rw[d.w0] at h;exact h;cases h
 have k:J=opC m:=by apply Ha;exact (aYd y).1
 have j:I=Ad hd m 0:=by apply Ha;exact QF u
 subst k j;have l:=c.size;rw[d.nt] at l;refine⟨go,⟨l,c.defers.trans d.ds,H.trans (congrArg some z.eu),G,F.trans (congrArg some w.eu),E,?_,⟨e,q.lt⟩,K,q⟩⟩;have:=c.gy;rw[d.w0] at this;exact this.mono fun b _ C=>d.S b C
theorem bDq{m:je}{O:List Acc->Option jh}(h:sV (go O (lJ m) []).2):1<=m.kind/\m.kind<=7:=by
 unfold lJ at h;rw[zK] at h;cases a:(bif decide (m.kind>=1) then decide (m.kind<=7) else false) with
 |false=>
  exfalso;rw[a] at h
  exact h (uQ 1) ((wR _ _ _).subset (by show _∈_++[_];simp)) rfl
 | true=>
  cases b:decide (m.kind>=1) with
  |false=>rw[b] at a;cases a|true=>rw[b] at a;exact⟨of_decide_eq_true b,of_decide_eq_true a⟩
theorem bIm(m:je):(opC m)[0]?=some (.int .i64 m.kind):=by
 unfold opC
 repeat rw[Array.getElem?_append_left (by simp only[aEC,YS,Lt,YN];omega)]
 rfl
theorem bIk(hd:ag){m:je}(h:yj m)(f:Int):(Ad hd m f)[103]?=some (.int .i64 f):=by unfold Ad;rw[Array.getElem?_append_right (by simp[tZ h])];simp[tZ h]
theorem J9(hd:ag){m:je}(h:yj m)(f a:Int):(Ad hd m f).setIfInBounds 103 (.int .i64 a)=Ad hd m a:=by
 have b:((#[hd]:Array ag)++opC m).size=103:=by simp[tZ h]
 unfold Ad;rw[Array.setIfInBounds_append_right a_];simp[tZ h]
theorem LD(m:je)(a:zh m)(n:Nat)(hn:n<=16)(c:1<=m.kind/\m.kind<=7):wZ prog af qg (UE m.kind) wu (ng m n) (pK m n) [] (fun o=>.w (.agg (gm o))):=by
 have b:m.kind=1\/m.kind=2\/m.kind=3\/m.kind=4\/m.kind=5\/m.kind=6\/m.kind=7:=by omega
 unfold pK UE
 rcases b with h|h|h|h|h|h|h<;>rw[h]
 exact bDk m n a_ a.root a.payload;exact bJc m n a_ a.root;exact bIz m n a_ a.root a.payload;exact bIp m n a_;exact Gt m n a_ a.root a.link a.ot a.ol;exact bBd m n a_ a.root a.link;exact bEi m n a_ a.root a.link a.xt a.xl a.bn a.bc
theorem aCs{b:Type}(p:ah b):p.bind .ret=p:=by
 induction p with
 |ret a=>rfl|ask a k c=>exact congrArg (ah.ask a) (funext fun r=>c r)
theorem UZ{C:Ctx}{o:ja}{v:ag}(h:RV C (.w (.agg (gm o))) v):v=.agg (mi o)/\tu o:=by
 cases h with
 | w h=>cases h with
  |@agg _ c h=>obtain⟨b,a⟩:=QA h;exact⟨congrArg Value.agg (Ha b),a⟩
theorem bCb(k:Int)(args:Array ag)(w:ae):(callFunc (UE k) args).run prog w=.ok (.enter (UE k) args) w:=by
 unfold UE
 repeat' split
 all_goals kernel_rfl
theorem aPs(m:je)(hm:zh m)(b2:yj m)(w:ae)(g:Nat)(D:Dv)(X0:Nat->Prop)(hB:dh w g 31 (opC m))(hM:∀ w',dm (fun b=>D.S b\/b=g) w w'->af w')(j:∀ b,D.S b->b<w.heap.size)
  (B:pq prog D (fun h=>h <+: (go D.O (dF m) []).2)) (k:∀ l X Y w w' z,D.pan l X w z->dm X w w'->(∀ b,Y b->X b)->D.pan l Y w' z) (s:EX D) (u:OB D.O) (E:D.inv [] X0 w) (r:X0 g) :
  ik prog 45 #[D.hd,.pointer (some ⟨g,0,none⟩)] w fun e w'=>dm (fun b=>D.S b\/b=g) w w'/\aWt m D X0 e w':=by
 have l4:∀ (fn:Fn) (first cap:Array ag) (w:ae),(Instr.makeFunc fn first cap).run prog w=.ok (.func fn first cap) w:=fun _ _ _ _=>rfl;have HH:=hide (az hB (az hM (az j (az B (az k (az s (az u (az E r))))))));clear hB hM j B k s u E r;generalize e5:D.hd=hd
 go_enter_defers func45,ntmps45
 go_upto_region 2 with fail
 generalize e8:World.alloc _ (.cells _ 40)=W0
 have z1:Ext w W0:=by
  rw[<-e8]
  repeat' (first|(with_reducible exact dm.refl _ _)|(with_reducible exact Ext.refl _)|(with_reducible assumption)|(with_reducible refine dm.alloc ?_ _)|(with_reducible refine dm.drew ?_)|(with_reducible refine dm.drewN ?_ _)|(with_reducible refine dm.setCell ?_ ?_ _)|(with_reducible refine Ext.alloc ?_ _)|(with_reducible refine Ext.drew ?_)|(with_reducible refine Ext.drewN ?_ _)|(with_reducible refine Ext.setCell ?_ ?_ _)|(simp;done)|(simp;omega)|omega)
 have z2:dh W0 w.heap.size 40 (mi kz):=by rw[<-e8];exact dh.new' _ _ _ ay
 clear e8;have HZ:=hide (az z1 z2);clear z1 z2
 go_wp2_with (refine fG (ty:=31) (t:=31) (x:=.tmp 1) rfl rfl aMd rfl (cs:=opC m) ((aA HH).1.ext (aA HZ).1) (tZ b2) ?_)
 have N:=aA HZ;obtain⟨hB,hM,j,B,k,s,u,E,r⟩:=aA HH;have hS:pq prog (iQ qg D) (fun h=>h <+: (go (kY qg D.O) (nN m) []).2):=aKu B fun l c hN hs=>aSi _ _ _ _ _ _ aEH hN hs;have K:(iQ qg D).inv [] (fun b=>X0 b\/b=w.heap.size) W0:=⟨D.grow _ _ _ _ _ E (N.1.mono fun _ _ h=>h.elim) (fun b V=>V.imp id fun e=>by subst e;exact⟨dE _,N.2.lt⟩),by simp[kY],fun _ h=>by cases h⟩;have b7:Left (kY qg D.O) (nN m) [] (nN m) []:=Left.start _ _ _;have J:=Left.step (q:=lJ m) b7
 refine (bNr m (kY qg D.O) [] (aZa u) (aYz qg D.O) W0 (fun _=>False) [.agg (opC m)] (fun _=>0) (iQ qg D) (fun b=>X0 b\/b=w.heap.size)
  (fun w' hc=>hM w' (N.1.trans' hc (fun _ _ h=>h.elim) (fun i _ h=>.inl (h.elim id (fun⟨o,C,_⟩=>by cases C))))) (fun b V=>⟨Y1 (j b (V.elim id (fun⟨o,C,_⟩=>by cases C))) N.1.size,fun h=>h⟩)
  (hS.mono fun h hh hO=>(Left.dw b7 h hh.1 hh.2 hO).2) (vM k) rfl (fun p hp=>by cases hp;exact K) (fun h=>by cases h) (fun o C=>by cases C) (fun o C=>by cases C) ⟨.w (.agg (bIl _ b2)),trivial⟩).mono ?_
 rintro e w1 ⟨d8,hq⟩;have a5:dm (fun b=>D.S b\/b=g) w w1:=N.1.trans' d8 (fun _ _ h=>h.elim) (fun i _ h=>.inl (h.elim id (fun⟨o,C,_⟩=>by cases C)));have f7:∀ {X:Nat->Prop},¬SX [] (fun _=>0) (iQ qg D) w.heap.size:=fun h=>h.elim ((iQ qg D).notS _ _ _ _ K (.inr rfl)) (fun⟨o,C,_⟩=>by cases C);have a7:dh w1 w.heap.size 40 (mi kz):=N.2.gy d8 (f7 (X:=X0));rcases hq with⟨e4,rfl,_,_,c5⟩|⟨z,l,rfl,P,U,c1⟩;rotate_left 1;exact yT s k (fun b h=>.inl h) (.inr rfl) (dE _) c1 (Left.dw b7 l P.1 P.2 U).2 U a7 (eF kN) rfl a5;have a4:=c5 _ rfl;dsimp only at a4;have c4:=bDq a4.2.2;have b0:dh w1 g 31 (opC m):=(hB.ext N.1).gy d8 (fun h=>h.elim ((iQ qg D).notS _ _ _ _ K (.inl r)) (fun⟨o,C,_⟩=>by cases C))
 have e9:hd.oneCell'=true:=by rw[<-e5];exact D.one
 generalize d7:(go (kY qg D.O) (lJ m) []).2=la at *;have H1:=hide (az a4 (az a5 (az a7 (az c4 (az b0 (az hS J))))));clear N hB hM j B k s u E r hS K b7 J d8 a5 f7 a7 c5 a4 c4 b0 d7 HZ
 go_upto_region 3 with fail
 refine (fun (h:∀ a0:Act,a0.tmps.size=39->a0.defers=Ti w.heap.size->a0.tmps[0]?=some hd->a0.tmps[1]?=some (.pointer (some ⟨g,0,none⟩))->a0.tmps[3]?=some (.pointer (some ⟨w.heap.size,0,none⟩))->Code.wp _ _ _ a0 w1)=>h _ rfl rfl rfl rfl rfl) ?_;intro a0 g5 g0 t0 t1 t3;obtain⟨A,hA,hg⟩:=Px m b2 w1 g w.heap.size hd e9 (aA H1).2.2.2.2.1 a0 g5 t0 t1 t3;rw[g0] at hA;have hn:=hA.nt;have hI:=hA.ok;have M:jl prog (fun _=>True) (find ([]:List (Nat×Spec))):=zM;refine (show lh prog A (r3S m hd w.heap.size) _ (Exit.then _ _) from ?_) a0 w1 hg (fun z a w _ ⟨l,hs,_⟩=>(hA.dw l hs).elim);refine gI ?_;intro a W f9;have e3:qh A (r3E m hd w.heap.size) a W:=by refine (f9.reset (kT:=[4,0,1,3]) (kO:=[3003,900001]) f_ ay).same ?_ ?_;exact ig;exact o7
 obtain⟨d,R⟩:=Py hA e3;clear f9 e3 hg hA hn hI M A g5 g0 t0 t1 t3 a0;obtain⟨u0,u1,u2,u3,u4,u5,u6,u7,u8,u9,l0,k9,k8,k7,k6,k5,k2,j9,j8,j7,j6,j5,j4,j3,j2,j1,j0,i9,i8,i7,h9,h8,h7,h6,h5,h4,h3,h2,h1,ea⟩:=aDZ a R.sz R.ds;have k0:=R.t0;have k1:=R.t1;have k3:=R.t3;have k4:=R.t4;have HR:=hide (az R.gy (az R.new (az R.bg R.bo)));clear R;subst ea;obtain rfl:u0=hd:=by simpa using k0
 obtain rfl:u1=.pointer (some ⟨g,0,none⟩):=by simpa using k1
 obtain rfl:u3=.pointer (some ⟨w.heap.size,0,none⟩):=by simpa using k3
 obtain rfl:u4=.pointer (some ⟨d,0,none⟩):=by simpa using k4
 clear k0 k1 k3 k4;have mk:=Ja W d;have i0:=Ji W d;have i1:=Jh W d;have i2:=Jg W d;have i3:=Jf W d;have i4:=Je W d;have i5:=Jd W d;have i6:=Jc W d;unfold zu at i0 i1 i2 i3 i4 i5 i6;dsimp only[Exit.then]
 go_upto_region 5 with fail
 clear mk i0 i1 i2 i3 i4 i5 i6;have a2:(uz W d 7).heap[W.heap.size]?=some (.map (BU d).toArray 7):=(MapKept.heap_alloc W _).1;have x4:Ext W (uz W d 7):=(Ext.refl W).alloc _;generalize uz W d 7=W4 at *;obtain⟨hB,hM,j,B,k,s,u,E,r⟩:=aA HH;obtain⟨a4,a5,a7,c4,b0,hS,d7⟩:=aA H1;obtain⟨e6,f5,g3,g2⟩:=aA HR;have h0:W.heap.size<W4.heap.size:=lt_of_heap a2;have lg:=hB.lt;have l1:=a5.size;have l2:=e6.size;have e2:dm (fun b=>b=g) w1 W4:=e6.ext x4;obtain⟨X4,a6⟩:∃ X:Nat->Prop,X=fun b=>(X0 b\/b=w.heap.size)\/(w1.heap.size<=b/\b<W4.heap.size):=⟨_,rfl⟩;have xg:X4 g:=by rw[a6];exact .inl (.inl r)
 have L:X4 w.heap.size:=by rw[a6];exact .inl (.inr rfl)
 have xo:X4 d:=by rw[a6];exact .inr ⟨f5.1,by omega⟩
 have xm:X4 W.heap.size:=by rw[a6];exact .inr ⟨by omega,h0⟩
 have Z:∀ b,X0 b->X4 b:=fun b V=>by rw[a6];exact .inl (.inl V)
 have b5:(iQ qg D).inv la X4 W4:=(iQ qg D).grow _ _ _ _ _ a4 (e2.mono fun b _ e=>e ▸ .inl r) (fun b V=>by rw[a6] at V;exact V);have a9:dm (fun b=>D.S b\/b=g) w W4:=a5.trans' e2 (fun _ _ h=>h) (fun _ _ e=>.inr e);have d1:dh W4 w.heap.size 40 (mi kz):=a7.gy e2 a_;have c7:dh W4 g 31 (opC m):=g3.ext x4;have c3:dh W4 d 122 (Ad u0 m 0):=g2.ext x4;have l3:¬d=g:=by omega
 have l5:w.heap.size<d/\d<W.heap.size:=by have:=a7.lt;omega
 clear f5 g3 g2 e6 e2 x4 a5 a7 b0 a4 HR H1 l1 l2;have b7:Left (kY qg D.O) (nN m) [] (nN m) []:=Left.start _ _ _;have J:Left (kY qg D.O) (nN m) [] ((ah.dn 3 16).bind fun n=>pK m n) la:=d7;have H:=Left.step (q:=ah.dn 3 16) J;have G:=UK (kY qg D.O) (aGk 3 16) la;have Q:∀ b:Nat,X4 b->¬SX [] (fun _=>0) (iQ qg D) b:=fun _ hx h=>h.elim ((iQ qg D).notS _ _ _ _ b5 hx) (fun⟨o,C,_⟩=>by cases C);have HA:=hide (az hM (az j (az B (az k (az s (az u r))))));have HB:=hide (az hS (az J (az H (az G Q))));have HC:=hide (az a2 (az xg (az L (az xo (az xm (az Z (az b5 (az a9 (az d1 (az c7 c3))))))))));clear hB hM j B k s u E r hS b7 J H G Q a2 xg L xo xm Z b5 a9 d1 c7 c3 a6 d7 HH
 go_wp2_with fail
 obtain⟨hM,j,B,k,s,u,r⟩:=aA HA;obtain⟨hS,J,H,G,Q⟩:=aA HB;obtain⟨a2,xg,L,xo,xm,Z,b5,a9,d1,c7,c3⟩:=aA HC
 refine (aGj (I:=af) bK 3 16 jc (kY qg D.O) la W4 (fun _=>False) [u0,.int .i64 3,.int .i64 16] (fun _=>0) (iQ qg D) X4
  (fun w' hc=>hM w' (a9.trans' hc (fun _ _ h=>h) (fun i _ h=>.inl (h.elim id (fun⟨o,C,_⟩=>by cases C))))) (fun b V=>⟨Y1 (j b (V.elim id (fun⟨o,C,_⟩=>by cases C))) a9.size,fun h=>h⟩)
  (hS.mono fun h hh hO=>(Left.dw J h hh.1 hh.2 hO).2) (vM k) rfl (fun p hp=>by cases hp;exact b5) (fun h=>by cases h) (fun o C=>by cases C) (fun o C=>by cases C) ⟨.w (.one (.dv e9 ⟨0,D.hd,rfl,dE _,fun _=>e5.symm⟩)),.w (.one (.lit rfl)),.w (.one (.lit rfl)),trivial⟩).mono ?_
 rintro e w5 ⟨b6,hq⟩;have c0:dm (fun b=>D.S b\/b=g) w w5:=a9.trans' b6 (fun _ _ h=>h) (fun i _ h=>.inl (h.elim id (fun⟨o,C,_⟩=>by cases C)));have b9:dh w5 w.heap.size 40 (mi kz):=d1.gy b6 (Q _ L);rcases hq with⟨e4,rfl,hv,_,c5⟩|⟨z,l,rfl,P,U,c1⟩;rotate_left 1;exact yT s k Z L (dE _) c1 (Left.dw J l P.1 P.2 U).2 U b9 (eF kN) rfl c0;have T:=c5 _ rfl;dsimp only at T;obtain⟨n,lb,f4⟩:∃ n lb,go (kY qg D.O) (ah.dn 3 16) la=(n,lb):=⟨_,_,rfl⟩;rw[f4] at H G T hv;dsimp only at H G T hv
 obtain rfl:e4=.int .i64 (n:Int):=RV.eu hv;have d0:dh w5 g 31 (opC m):=c7.gy b6 (Q _ xg);have a1:dh w5 d 122 (Ad u0 m 0):=c3.gy b6 (Q _ xo);have b3:w5.heap[W.heap.size]?=some (.map (BU d).toArray 7):=(b6.block _ (lt_of_heap a2) (Q _ xm)).trans a2;have d3:=a1.cell 103;rw[bIk u0 b2] at d3;have f3:=a1.frozen;have g7:=hide (az xg (az L (az xo (az Z (az T (az c0 (az b9 (az d0 (az a1 b3)))))))));have g8:=hide (az hS (az H G));clear hv c5 b6 a9 d1 c7 c3 a2 b5 xg L xo xm Z T c0 b9 d0 a1 b3 hM j B k s u r hS J H G Q HC HB f4;have xk:=bCb m.kind
 go_upto_region 6 with fail
 obtain⟨xg,L,xo,Z,T,c0,b9,d0,a1,b3⟩:=aA g7;have d2:dh (w5.setCell ⟨d,103,none⟩ (.int .i64 (n:Int))) w.heap.size 40 (mi kz):=b9.far (p:=⟨d,103,none⟩) (show ¬w.heap.size=d by omega) _;have c9:dh (w5.setCell ⟨d,103,none⟩ (.int .i64 (n:Int))) g 31 (opC m):=d0.far (p:=⟨d,103,none⟩) (show ¬g=d by omega) _;have b1:dh (w5.setCell ⟨d,103,none⟩ (.int .i64 (n:Int))) d 122 (Ad u0 m n):=by have:=a1.vk 103 (.int .i64 (n:Int));rw[J9 u0 b2] at this;exact this
 have e1:dm (fun b=>b=d) w5 (w5.setCell ⟨d,103,none⟩ (.int .i64 (n:Int))):=dm.setCell (S:=fun b=>b=d) (p:=⟨d,103,none⟩) (dm.refl _ _) (.inl rfl) _;have f8:=(e1.block _ (lt_of_heap b3) (show ¬W.heap.size=d by omega)).trans b3;generalize w5.setCell ⟨d,103,none⟩ (.int .i64 (n:Int))=w6 at *;have lk:=Jb f8 c4;unfold zu at lk;have d6:=c9.cell 0;rw[bIm] at d6;have b4:(iQ qg D).inv lb X4 w6:=(iQ qg D).grow _ _ _ _ _ T (e1.mono fun b _ e=>e ▸ xo) (fun b V=>.inl V);have a8:dm (fun b=>D.S b\/b=g) w w6:=c0.trans' e1 (fun _ _ h=>h) (fun i hi e=>by omega);have g6:=hide (az xg (az L (az xo (az Z (az b4 (az a8 (az d2 (az c9 b1))))))));clear xg L xo Z T c0 b9 d0 a1 b3 d2 c9 b1 e1 f8 b4 a8 g7 d3 f3;generalize g9:UE m.kind=F at *
 go_wp2_with fail
 obtain⟨hM,j,B,k,s,u,r⟩:=aA HA;obtain⟨hS,H,G⟩:=aA g8;obtain⟨xg,L,xo,Z,b4,a8,d2,c9,b1⟩:=aA g6;have d9:Left (kY qg D.O) (nN m) [] ((pK m n).bind ah.ret) lb:=by rw[aCs];exact H
 subst g9
 refine (LD m hm n G c4 (kY qg D.O) lb (aZa u) (aYz qg D.O) w6 (fun _=>False) [.pointer (some ⟨d,0,none⟩)] d (iQ qg D) X4
  (fun w' hc=>hM w' (a8.trans' hc (fun _ _ h=>h) (fun i hi h=>h.elim .inl (fun e=>by omega)))) (fun b V=>⟨V.elim (fun h=>Y1 (j b h) a8.size) (fun e=>e ▸ b1.lt),fun h=>h⟩)
  (hS.mono fun h hh hO=>(Left.dw d9 h hh.1 hh.2 hO).2) (vM k) rfl b4 xo ⟨_,b1,QE (.dv e9 ⟨0,D.hd,rfl,dE _,fun _=>e5.symm⟩) b2 n⟩ ⟨.w (.one (.pt ⟨_,_,rfl⟩ ⟨0,_,rfl,dE _,fun _=>⟨_,rfl,rfl⟩⟩)),trivial⟩).mono ?_
 rintro e w7 ⟨e7,hq⟩;have f6:¬SD d (iQ qg D) w.heap.size:=fun h=>h.elim ((iQ qg D).notS _ _ _ _ b4 L) (fun e=>by omega);have d4:dm (fun b=>D.S b\/b=g) w w7:=a8.trans' e7 (fun _ _ h=>h) (fun i hi h=>h.elim .inl (fun e=>by omega));have e0:dh w7 w.heap.size 40 (mi kz):=d2.gy e7 f6;rcases hq with⟨e4,rfl,hv,_,a3⟩|⟨z,l,rfl,P,U,c1⟩;rotate_left 1;exact yT s k Z L (dE _) c1 (Left.dw d9 l P.1 P.2 U).2 U e0 (eF kN) rfl d4;have c6:=d9.2;rw[aCs] at c6;obtain⟨o,lc,f2⟩:∃ o lc,go (kY qg D.O) (pK m n) lb=(o,lc):=⟨_,_,rfl⟩;rw[f2] at c6 hv a3;dsimp only at hv a3;obtain⟨rfl,c2⟩:=UZ hv
 have hC:go D.O (dF m) []=(o,lc):=by unfold dF;rw[Nb dX qg D.O (nN m) [] (by rw[c6];exact a3.2.2),c6]
 have f0:=hide (az e0 (az c2 (az d4 (az a3.1 (az L (az Z hC))))));clear c6 hv a3 c2 hC e0 d4 L Z f6 e7 xg xo b4 a8 d2 c9 b1 d9 hS H G hM j B k s u r f2 g6 g8 lk d6 HA xk;generalize d5:mi o=oc at *
 go_wp2_with (refine aS (ty:=40) (t:=40) (x:=.tmp 3) (y:=.tmp 38) rfl rfl jP rfl rfl (aA f0).1 (eF kN) (by rw[<-d5];exact eF (aA f0).2.1) (by rw[<-d5];exact nG _) ?_;intro w8 g4 g1 f1;have H8:=hide (az g4 (az g1 f1));clear g4 g1 f1)
 obtain⟨b8,c8,z8⟩:=aA H8;obtain⟨e0,c2,d4,a3,L,Z,hC⟩:=aA f0;refine leaves_cons (f:=46) (args:=#[.pointer (some ⟨w.heap.size,0,none⟩)]) ay (by simp[go_sem]) ?_;refine (bIa _ _).mono ?_;rintro e u' w9 ⟨rfl,rfl,rfl⟩;refine⟨_,aCr _ _ w.heap.size oc (by rw[<-d5];exact eF c2) rfl b8,d4.trans' c8 (fun _ _ h=>h) (fun i hi e=>by omega),.inl ?_⟩;rw[hC];exact⟨c2,by rw[d5],D.grow _ _ _ _ _ a3 (c8.mono fun i _ e=>e ▸ L) (fun b V=>.inl (Z b V))⟩
end Pv
theorem uM:ve prog 65 18:=⟨⟨_,underlying65,rfl⟩,by kernel_rfl⟩
theorem Qh(b:Nat)(n:Int):Pv.Loc prog 3 b 3 #[.int .i64 n] (.int .i64 n):=by
 refine⟨fun w a=>?_,fun w old d a=>⟨w.setCell ⟨b,0,none⟩ (.int .i64 n),?_,?_,dm.setCell (S:=fun k=>k=b) (p:=⟨b,0,none⟩) (dm.refl _ _) (.inl rfl) _,by simp⟩⟩
 ·have c:=a.cell 0;simp only[YY,YT] at c;simp[go_sem,c]
 ·obtain⟨x,rfl⟩:∃ x,old=#[x]:=by
   obtain⟨old⟩:=old
   match old,d with
   |[x],_=>exact⟨x,rfl⟩
  have c:=a.cell 0;have e:=a.frozen 0;simp only[YY,YT] at c;simp[go_sem,c,e]
 obtain⟨x,rfl⟩:∃ x,old=#[x]:=by
  obtain⟨old⟩:=old
  match old,d with
  |[x],_=>exact⟨x,rfl⟩
 exact a.vk 0 _
theorem aYh(b:Nat)(n:Bool):Pv.Loc prog 4 b 4 #[.bool n] (.bool n):=by
 refine⟨fun w a=>?_,fun w old d a=>⟨w.setCell ⟨b,0,none⟩ (.bool n),?_,?_,dm.setCell (S:=fun k=>k=b) (p:=⟨b,0,none⟩) (dm.refl _ _) (.inl rfl) _,by simp⟩⟩
 ·have c:=a.cell 0;simp only[YY,YT] at c;simp[go_sem,c]
 ·obtain⟨x,rfl⟩:∃ x,old=#[x]:=by
   obtain⟨old⟩:=old
   match old,d with
   |[x],_=>exact⟨x,rfl⟩
  have c:=a.cell 0;have e:=a.frozen 0;simp only[YY,YT] at c;simp[go_sem,c,e]
 obtain⟨x,rfl⟩:∃ x,old=#[x]:=by
  obtain⟨old⟩:=old
  match old,d with
  |[x],_=>exact⟨x,rfl⟩
 exact a.vk 0 _
theorem aCv(a:Array ag)(w:ae)(l Ob e f:Nat)(c:Array ag)(hs:c.size=18)(b:Array ag)(o:b.size=55)(n d:ag)(h6:a.getD 6 dC=.pointer (some ⟨l,0,none⟩))(j:a.getD 7 dC=.pointer (some ⟨Ob,0,none⟩))(i:a.getD 8 dC=.pointer (some ⟨e,0,none⟩))(h:a.getD 9 dC=.pointer (some ⟨f,0,none⟩))
  (s:dh w l 65 c) (p:dh w Ob 40 b) (q:dh w e 3 #[n]) (r:dh w f 4 #[d]) :
  (results Tryz.f34 a).run prog w=.ok (.tuple #[.agg c,.agg b,n,d]) w:=by
 have x:=jO s uM hs;have u:=jO p jP o;have g:=q.cell 0;have k:=r.cell 0;simp only[YY,YT] at g k;simp only[YR] at h6 j i h;have m:(loadVar 3 ⟨e,0,none⟩).run prog w=.ok n w:=by simp[go_sem,g]
 have t:(loadVar 4 ⟨f,0,none⟩).run prog w=.ok d w:=by simp[go_sem,k]
 simp[results,results34,h6,j,i,h,asAddr,x,u,m,t]
theorem KP (G:Nat) (pc:Array ag) (S:Array ag) (B:Option Addr) (nF cF:Nat) (V:Array ag->Int->Option Pv.ja->ae->Prop) (g:Nat) (w:ae) (hs:S.size=18) (h1:S.all (·.oneCell')=true) (hG:∀ (args:Array ag) (w:ae),(callFunc G args).run prog w=.ok (.enter G args) w) (hg:g<=w.heap.size)
    (hV:∀ a n o l q,V a n o l->dm (fun k=>w.heap.size<=k/\k<w.heap.size+6) l q->V a n o q)
    (hp : ∀ l,Ext w l->l.heap.size=w.heap.size+6->dh l (w.heap.size+1) 68 #[.slice B nF cF]->dh l (w.heap.size+1+1) 65 S->dh l (w.heap.size+1+1+1+1) 3 #[.int .i64 0] ->
      ik prog G (#[.func (.func 65) #[] #[.pointer (some ⟨w.heap.size+1+1+1+1,0,none⟩),.pointer (some ⟨w.heap.size+1,0,none⟩),.pointer (some ⟨w.heap.size+1+1,0,none⟩)]]++pc) l fun e q=>dm (fun k=>k=w.heap.size+1+1+1+1\/k=w.heap.size+1\/k=w.heap.size+1+1\/(g<=k/\k<w.heap.size)) l q /\
        ∃ b n,b.size=18/\b.all (·.oneCell')=true/\dh q (w.heap.size+1+1) 65 b/\dh q (w.heap.size+1+1+1+1) 3 #[.int .i64 n] /\
        ((∃ o,Pv.tu o/\e=.returned (.agg (Pv.mi o))/\V b n (some o) q)\/(∃ c,Pv.Xa c/\e=.panicked ({ v:=Pv.cutV,recovered:=false }::c)/\V b n none q))) :
    ik prog 34 #[.func (.func G) #[] pc,.agg S,.slice B nF cF] w fun e w'=>dm (fun k=>g<=k) w w'/\∃ b n,b.size=18 /\
      (
       (∃ o,Pv.tu o/\e=.returned (.tuple #[.agg b,.agg (Pv.mi o),.int .i64 n,.bool true])/\V b n (some o) w') \/
       (e=.returned (.tuple #[.agg b,.agg (Pv.mi Pv.kz),.int .i64 n,.bool false])/\V b n none w')):=by
  have b2:∀ (fn:Fn) (first cap:Array ag) (w:ae),(Instr.makeFunc fn first cap).run prog w=.ok (.func fn first cap) w:=fun _ _ _ _=>rfl;have HP:=hide hp;have HS:=hide (az hs h1);have HV:=hide hV;clear hp hs h1 hV
  go_enter_defers func34,ntmps34
  go_upto_region 1 with fail
  generalize j:World.alloc _ (.cells _ 4)=F
  have Q:Ext w F:=by
    rw[<-j]
    repeat' (first|(with_reducible exact dm.refl _ _)|(with_reducible exact Ext.refl _)|(with_reducible assumption)|(with_reducible refine dm.alloc ?_ _)|(with_reducible refine dm.drew ?_)|(with_reducible refine dm.drewN ?_ _)|(with_reducible refine dm.setCell ?_ ?_ _)|(with_reducible refine Ext.alloc ?_ _)|(with_reducible refine Ext.drew ?_)|(with_reducible refine Ext.drewN ?_ _)|(with_reducible refine Ext.setCell ?_ ?_ _)|(simp;done)|(simp;omega)|omega)
  have Y:dh F w.heap.size 65 S:=by rw[<-j];exact (((((dh.new w _ _).alloc _).alloc _).alloc _).alloc _).alloc _
  have P:dh F (w.heap.size+1) 68 #[.slice B nF cF]:=by rw[<-j];exact ((((dh.new' _ _ _ ay).alloc _).alloc _).alloc _).alloc _
  have X:dh F (w.heap.size+1+1) 65 (#[.slice none 0 0,.slice none 0 0]++Array.replicate 16 (.int .u8 0)):=by rw[<-j];exact (((dh.new' _ _ _ ay).alloc _).alloc _).alloc _
  have O:dh F (w.heap.size+1+1+1) 40 (Pv.mi Pv.kz):=by rw[<-j];exact ((dh.new' _ _ _ ay).alloc _).alloc _
  have N:dh F (w.heap.size+1+1+1+1) 3 #[.int .i64 0]:=by rw[<-j];exact (dh.new' _ _ _ ay).alloc _
  have L:dh F (w.heap.size+1+1+1+1+1) 4 #[.bool false]:=by rw[<-j];exact dh.new' _ _ _ ay
  have z8:F.heap.size=w.heap.size+6:=by rw[<-j];simp
  have HZ:=hide (az Q (az Y (az P (az X (az O (az N (az L z8)))))));clear j Q Y P X O N L z8
  go_wp2_with (first
    |(refine fG (ty:=65) (t:=65) (x:=.tmp 4) rfl rfl uM rfl (cs:=S) (aA HZ).2.1 (aA HS).1 ?_)
    |(refine aS (ty:=65) (t:=65) (x:=.tmp 6) (y:=.tmp 11) rfl rfl uM rfl rfl (aA HZ).2.2.2.1 rfl (aA HS).1 (aA HS).2 ?_;intro l a2 a1 a0;have H1:=hide (az a2 (az a1 a0));clear a2 a1 a0))
  obtain⟨Q,Y,P,X,O,N,L,z8⟩:=aA HZ;obtain⟨y1,H,y3⟩:=aA H1;have C:Ext w l:=Q.trans' H (fun _ _ h=>h) (fun i hi e=>by omega);refine (aA HP l C (y3.trans z8) (P.gy H a_) y1 (N.gy H a_)).mono ?_;rintro e q ⟨U,b,n,m,E,u,s,hq⟩;have hO:=(O.gy H a_).gy U a_;have hD:=(L.gy H a_).gy U a_;have a3:Hid (dm (fun k=>g<=k) w q):=hide (C.trans' U (fun _ _ h=>h.elim) (fun i hi e=>by omega));have b0:l.heap.size<=q.heap.size:=U.size;rcases hq with⟨o,J,rfl,r⟩|⟨c,a7,rfl,r⟩
  ·
    have W:=hide (az hO (az J (Pv.eF J)));have HD:=hide hD;have HQ:=hide (az m (az E (az u (az s r))));have b1:w.heap.size+6<=q.heap.size:=by omega
    clear Q Y P X O N L y1 H C U m E u s r hO hD HP H1 HZ J;generalize K:Pv.mi o=oc at *
    go_upto_region 5 with (refine aS (ty:=40) (t:=40) (x:=.tmp 7) (y:=.tmp 16) rfl rfl jP rfl rfl (aA W).1 (Pv.eF Pv.kN) (aA W).2.2 (by rw[<-K];exact Pv.nG _) ?_;intro w3 A d I;have H3:=hide (az A (az d I));clear A d I)
    obtain⟨A,d,I⟩:=aA H3;have a5:=(aA W).2.2;obtain⟨m,E,u,s,r⟩:=aA HQ
    refine Pv.KO aj ⟨_,_,w.heap.size+1+1,w.heap.size+1+1+1,w.heap.size+1+1+1+1,w.heap.size+1+1+1+1+1,65,40,3,4,b,oc,#[.int .i64 n],.agg b,.agg oc,.int .i64 n⟩
      (Pv.Loc.wide uM _ _ _ m E) (Pv.Loc.wide jP _ _ _ a5 (by rw[<-K];exact Pv.nG _)) (Qh _ _) (aYh _ _) rfl rfl rfl rfl rfl (by dsimp only;omega) (by dsimp only;omega) (by dsimp only;omega) (by dsimp only;omega) (by dsimp only;omega) (by dsimp only;omega)
      (u.gy d a_) A (s.gy d a_) ⟨_,(aA HD).gy d a_⟩ fun a4 w4 h4=>?_
    obtain⟨ds,sz,D,l1,l2,l3,k1,k2,k3,⟨v4,Z,k5⟩,p,z⟩:=h4;dsimp only at ds D k1 k2 k3 Z p z;obtain rfl:=k5 rfl;have H4:=hide (az ds (az sz (az D (az k1 (az k2 (az k3 (az Z (az p z))))))));have H3:=hide (az m (az r d));clear l1 l2 l3 k5 ds sz D k1 k2 k3 Z p z m E u s r d;dsimp only[Exit.then]
    go_wp2
    obtain⟨ds,sz,D,k1,k2,k3,Z,p,z⟩:=aA H4;obtain⟨m,r,d⟩:=aA H3;show Leaves _ _ a4.tmps _ a4.defers .returning w4;rw[ds];refine leaves_cons (f:=67) (args:=#[.pointer (some ⟨w.heap.size+1+1+1,0,none⟩),.pointer (some ⟨w.heap.size+1+1+1+1+1,0,none⟩)]) ay (by simp[go_sem]) ?_;refine (bJn _ _ _).mono ?_;rintro e u' w5 ⟨rfl,rfl,rfl⟩;refine⟨_,aCv _ _ (w.heap.size+1+1) (w.heap.size+1+1+1) (w.heap.size+1+1+1+1) (w.heap.size+1+1+1+1+1) b m oc a5 (.int .i64 n) (.bool true) (D 6 a_) (D 7 a_) (D 8 a_) (D 9 a_) k1 k2 k3 Z,?_,b,m,n,.inl ⟨o,(aA W).2.1,by rw[K],?_⟩⟩
    · exact (aA a3).trans (d.mono fun k _ T=>by omega) |>.trans (p.mono fun k _ T=>by rcases T with h|h|h|h<;>omega)
    · exact (aA HV) _ _ _ _ _ r ((d.mono fun k _ T=>by omega).trans (p.mono fun k _ T=>by rcases T with h|h|h|h<;>omega))
  ·
    have W:=hide hO;have HD:=hide hD;have HQ:=hide (az m (az E (az u (az s r))));clear Q Y P X O N L y1 H C U m E u s r hO hD HP H1 HZ
    go_wp2
    obtain⟨m,E,u,s,r⟩:=aA HQ;refine leaves_cons (f:=67) (args:=#[.pointer (some ⟨w.heap.size+1+1+1,0,none⟩),.pointer (some ⟨w.heap.size+1+1+1+1+1,0,none⟩)]) ay (by simp[go_sem]) ?_;refine (bCj _ _ _ _ c _ (Pv.eF Pv.kN) (aA W) (aA HD) a_).mono ?_;rintro e u' w5 ⟨rfl,rfl,hc,a8,a9⟩;have a6:settle (.panicking ({ v:=Pv.cutV,recovered:=true }::c))=.returning:=Pv.aBs a7;show Leaves _ _ _ _ _ (settle _) _;rw[a6];refine⟨_,aCv _ _ (w.heap.size+1+1) (w.heap.size+1+1+1) (w.heap.size+1+1+1+1) (w.heap.size+1+1+1+1+1) b m _ (Pv.eF Pv.kN) _ _ rfl rfl rfl rfl (u.gy hc a_) a8 (s.gy hc a_) a9,?_,b,n,m,.inr ⟨rfl,?_⟩⟩;exact (aA a3).trans' hc (fun _ _ h=>h) (fun i hi e=>by omega);exact (aA HV) _ _ _ _ _ r (hc.mono fun k _ T=>by omega)
namespace Pv
theorem bCi(K:Nat->Prop)(f g gH:Nat)(F:List qx)(h0:jk):EX (Sm K f g gH F h0):=by rintro l X w c ⟨⟨a,d,rfl⟩,h⟩;refine⟨aCZ,.agg #[],a,rfl,d,.inr rfl,⟨{ v:=cutV,recovered:=true }::a,fun e b=>?_,rfl⟩,h⟩;rcases List.mem_cons.1 b with rfl|b;rfl;exact d e b
theorem Gw{h:jk}(k:BN h)(c:Int):(strOf (sec h.f c)).size<=1000000:=by rw[bJ];unfold sec;split;rename_i a;rw[mf,zG,zH a_];exact k.sz _ (List.getElem_mem _);exact (by decide:([]:List UInt8).length<=1000000)
theorem Qk(F:List qx){h0:jk}(hd:vg h0):OB (pI F h0):=by
 intro l r a;unfold pI at a;split at a;cases a;exact (by decide:(0:Nat)<=1000000)
 ·rename_i c e;split at a;cases a
  ·cases a;have d:BN (AV F h0 l.dropLast 0):=GL _ _ hd.ok;have z:(iJ.bytes).size<=1000000:=by decide
   have b:aH.size<=1000000:=by decide
   unfold fQ
   repeat' split
   all_goals first
    |exact z
    |exact b
    |exact Gw d _
def aFP(q:Option ja×jk×Nat)(e:Ending):Prop:=(∃ o,tu o/\q.1=some o/\e=.returned (.agg (mi o)))\/(q.1=none/\∃ a,Xa a/\e=.panicked ({ v:=cutV,recovered:=false }::a))
theorem bBs(m:je)(S:zh m)(C:yj m)(F:List qx)(Y:F.length<=1000000)(h0:jk)(hd:vg h0)(g:Nat)(w0 w:ae)(y:Ext w0 w)(o:∀ t,dm (fun b=>g<=b) w t->af t)(O:dh w0 g 31 (opC m))
  (a d gH:Nat) (hN:w0.heap.size<=a) (W:w0.heap.size<=d) (hH:w0.heap.size<=gH) (K X:Nat->Prop) (V:X g) (u:CJ K a d gH F h0 [] X w) :
  ik prog 45 (#[.func (.func 65) #[] #[.pointer (some ⟨a,0,none⟩),.pointer (some ⟨d,0,none⟩),.pointer (some ⟨gH,0,none⟩)]]++#[.pointer (some ⟨g,0,none⟩)]) w fun e j=>
   dm (fun k=>k=a\/k=d\/k=gH\/(g<=k/\k<w0.heap.size)) w j /\
   dh j a 3 #[.int .i64 ((iF F (dF m) h0 0).2.2:Int)]/\(∃ N,dh j gH 65 N/\RL { w:=j,ok:=OG K X a d gH,env:=fun _=>none } (pz (iF F (dF m) h0 0).2.1) N.toList) /\
   aFP (iF F (dF m) h0 0) e:=by
 have lg:=O.lt;have lN:=u.bn.lt;obtain⟨cF,f1,f2⟩:=u.bf;obtain⟨cH,f3,f4⟩:=u.bh;have lF:=f1.lt;have lH:=f3.lt;have q:=Ir m;have n:=aPr m;have r:=La F h0 (dF m) q 900 n [] ay;have p:=WU (pI F h0) (dF m) 900 n [];rw[YN,lL] at p;have E:(Sm K a d gH F h0).inv [] X w:=⟨u,fun k U=>by cases U⟩;have z:=bCk K a d gH F h0 Y hd (dF m) q a_;refine (aPs m S C w g (Sm K a d gH F h0) X (O.ext y) (fun t D=>o t (D.mono fun b _ f=>?_)) (fun b f=>?_) (z.mono fun l T _=>⟨aEH,T⟩) (bJq K a d gH F h0) (bCi K a d gH F h0) (Qk F hd) E V).mono ?_
 ·rcases f with (h|h|h)|h<;>omega
 ·rcases f with h|h|h<;>omega
 rintro e j ⟨D,Q⟩
 refine⟨D.mono fun b _ f=>by rcases f with (h|h|h)|h<;>omega,?_⟩
 rcases Q with⟨A,rfl,s,G⟩|⟨J,l,rfl,h1,h2,h3⟩;have x:iF F (dF m) h0 0=_:=r.1 G;rw[x];obtain⟨L,I,H⟩:=s.bh
 exact⟨s.bn,⟨L,I,H⟩,.inl ⟨_,A,rfl,rfl⟩⟩;obtain⟨⟨i,B,rfl⟩,s,P,c,rfl,h4,Z⟩:=h3;have x:iF F (dF m) h0 0=_:=r.2 P c aEH h1 h4 Z;rw[x];obtain⟨L,I,H⟩:=s.bh;have f:=s.bn;rw[ed,List.length_singleton] at f;exact⟨f,⟨L,I,H⟩,.inr ⟨rfl,i,B,rfl⟩⟩
end Pv
theorem Pv.UY{C:Pv.Ctx}{l1 c:List Pv.PC}{e c2:Array ag}{b:Int}{d:Bool}(h1:Pv.RL C l1 e.toList)(h2:Pv.RL C c c2.toList):Pv.RV C (.lu [.agg l1,.agg c,.one (.lit (.int .i64 b)),.one (.lit (.bool d))]) (.tuple #[.agg e,.agg c2,.int .i64 b,.bool d]):=
 .lu rfl (fun i x a=>by
  match i,a with
  |0,a=>cases a;exact⟨_,rfl,.agg h1⟩|1,a=>cases a;exact⟨_,rfl,.agg h2⟩|2,a=>cases a;exact⟨_,rfl,.one (.lit rfl)⟩|3,a=>cases a;exact⟨_,rfl,.one (.lit rfl)⟩|i+4,a=>cases a)
theorem Jm(b:Array ag)(w:ae) :
  ik prog 29 #[.agg b] w fun e a=>e=.returned (.func (.func 45) #[] #[.pointer (some ⟨w.heap.size,0,none⟩)])/\Ext w a/\a.heap.size=w.heap.size+1/\dh a w.heap.size 31 b:=by
 have d:∀ (c:Fn) (first cap:Array ag) (w:ae),(Instr.makeFunc c first cap).run prog w=.ok (.func c first cap) w:=fun _ _ _ _=>rfl
 go_enter func29,ntmps29
 go_wp2
 refine bodyPost_ret (v:=.func (.func 45) #[] #[.pointer (some ⟨w.heap.size,0,none⟩)]) (by simp[results,results29,go_sem]) rfl ⟨rfl,?_,?_,?_⟩
 ·repeat' (first|(with_reducible exact dm.refl _ _)|(with_reducible exact Ext.refl _)|(with_reducible assumption)|(with_reducible refine dm.alloc ?_ _)|(with_reducible refine dm.drew ?_)|(with_reducible refine dm.drewN ?_ _)|(with_reducible refine dm.setCell ?_ ?_ _)|(with_reducible refine Ext.alloc ?_ _)|(with_reducible refine Ext.drew ?_)|(with_reducible refine Ext.drewN ?_ _)|(with_reducible refine Ext.setCell ?_ ?_ _)|(simp;done)|(simp;omega)|omega)
 simp;exact dh.new w _ _
namespace Pv
def bZ(o:Option ja):ja:=o.getD kz
def bJa(q:Option ja×jk×Nat):PV:=.lu [.agg (pz q.2.1),.agg (gm (bZ q.1)),.one (.lit (.int .i64 (q.2.2:Int))),.one (.lit (.bool q.1.isSome))]
def Ea(q:Option ja×jk×Nat)(ok:Nat->Prop)(a:Array ag)(n:Int)(o:Option ja)(w:ae):Prop:=n=(q.2.2:Int)/\RL { w:=w,ok:=ok,env:=fun _=>none } (pz q.2.1) a.toList/\q.1=o
theorem Ea.le{q:Option ja×jk×Nat}{ok a:Nat->Prop}{f:Array ag}{n:Int}{o:Option ja}{w w':ae}(c:Ea q ok f n o w)(hs:w.heap.size<=w'.heap.size)(hb:∀ b,b<w.heap.size->ok b->a b/\w'.heap[b]?=w.heap[b]?):Ea q a f n o w':=⟨c.1,c.2.1.le ⟨hs,fun b e d=>hb b e d,fun _ _ _ h=>by cases h⟩,c.2.2⟩
theorem aDx{C:Ctx}{h:jk}{cs:Array ag}(hr:RL C (pz h) cs.toList):cs.size=18:=by
 unfold pz at hr;obtain⟨cs⟩:=cs;dsimp only at hr;cases hr with
 | cons k1 hr=>cases hr with
  |cons k2 hr=>obtain⟨d,c⟩:=hr.ZH;have b:=k1.width;have a:=k2.width;subst c;simp[PC.width] at b a;simp[b,a,d]
theorem aVn{C:Ctx}{h:jk}{cs:Array ag}(hr:RL C (pz h) cs.toList):cs.all (·.oneCell')=true:=by rw[<-Array.all_toList,List.all_eq_true];exact fun x a=>hr.ones x a
end Pv
theorem aPa{a:Array ag}{w:ae}{e Ob:Nat}{c b:Array ag}(hs:c.size=18)(f:b.size=55)(h6:a.getD 6 dC=.pointer (some ⟨e,0,none⟩))(d:a.getD 7 dC=.pointer (some ⟨Ob,0,none⟩))
  (h:dh w e 65 c) (g:dh w Ob 40 b) :
  (results Tryz.f15 a).run prog w=.ok (.tuple #[.agg c,.agg b,a.getD 8 dC,a.getD 9 dC]) w:=by
 have j:=jO h uM hs;have i:=jO g jP f;simp only[YR] at h6 d;simp[results,results15,h6,d,asAddr,j,i]
namespace Pv
def okF(ok0:Nat->Prop)(S:Nat):Nat->Prop:=fun b=>(ok0 b\/S<=b)/\¬(S<=b/\b<S+11)
theorem Qj(m:je)(hm:zh m)(P:yj m)(F:List qx)(hF:F.length<=1000000)(h0:jk)(hd:vg h0)(ok0:Nat->Prop)(y:Array ag)(B:Option Addr)(L S:Nat)(w:ae)(I:af w)
  (Q:RL { w:=w,ok:=ok0,env:=fun _=>none } (pz h0) y.toList) (hV:RL { w:=w,ok:=ok0,env:=fun _=>none } [vC F] [.slice B L S])
  (l d:ae) (Z:Ext w l) (z7:l.heap.size=w.heap.size+4) (k1:Ext l d) (k2:d.heap.size=l.heap.size+1) (k3:dh d l.heap.size 31 (opC m)) :
  ik prog 34 #[.func (.func 45) #[] #[.pointer (some ⟨l.heap.size,0,none⟩)],.agg y,.slice B L S] d fun e z=>dm (fun k=>l.heap.size<=k) d z /\
   ∃ i,tu (bZ (iF F (dF m) h0 0).1)/\e=.returned (.tuple #[.agg i,.agg (mi (bZ (iF F (dF m) h0 0).1)),.int .i64 ((iF F (dF m) h0 0).2.2:Int),.bool (iF F (dF m) h0 0).1.isSome]) /\
    RL { w:=z,ok:=okF ok0 w.heap.size,env:=fun _=>none } (pz (iF F (dF m) h0 0).2.1) i.toList:=by
 obtain⟨q,V⟩:∃ q,iF F (dF m) h0 0=q:=⟨_,rfl⟩;rw[V];refine (KP 45 _ y B L S (Ea q (okF ok0 w.heap.size)) l.heap.size d (aDx Q) (aVn Q) (fun args w=>by kernel_rfl) a_ (fun a n o G wb hv j=>?_) (fun G X U y1 y2 y3=>?_)).mono ?_;exact hv.le j.size (fun b f g=>⟨g,j.block b f (fun W=>g.2 a_)⟩);have r:Ext w G:=(Z.trans k1).trans X
 have E:∀ {p:List PC} {T:List ag},RL { w:=w,ok:=ok0,env:=fun _=>none } p T->RL { w:=G,ok:=OG (fun b=>ok0 b\/w.heap.size<=b) (fun b=>w.heap.size<=b/\b<w.heap.size+11/\b≠d.heap.size+1+1+1+1/\b≠d.heap.size+1/\b≠d.heap.size+1+1) (d.heap.size+1+1+1+1) (d.heap.size+1) (d.heap.size+1+1),env:=fun _=>none } p T:=fun hr=>
  hr.le ⟨r.size,fun b f g=>by
   have a0:b<w.heap.size:=f
   exact⟨⟨.inl g,fun H=>by omega,by omega,by omega,by omega⟩,r.block b f (fun W=>W)⟩,fun _ _ _ h=>by cases h⟩
 have C:=bBs m hm P F hF h0 hd l.heap.size d G X (fun w' j=>I.past (B:=l.heap.size) a_ (I.ext r) j) k3 (d.heap.size+1+1+1+1) (d.heap.size+1) (d.heap.size+1+1) a_ a_ a_
  (fun b=>ok0 b\/w.heap.size<=b) (fun b=>w.heap.size<=b/\b<w.heap.size+11/\b≠d.heap.size+1+1+1+1/\b≠d.heap.size+1/\b≠d.heap.size+1+1) a_
  { bn:=y3,bf:=⟨_,y1,E hV⟩,bh:=⟨_,y2,E Q⟩,ne:=⟨by omega,by omega,by omega⟩,good:=fun c j=>(by cases j),mine:=fun b f=>⟨by omega,f.2.2.1,f.2.2.2.1,f.2.2.2.2⟩,mem:=I.ext r,tab:=fun b f=>(by have:=Zb I f;exact⟨fun H=>by omega,by omega,by omega,by omega⟩),up:=fun b f=>.inr a_ }
 rw[V] at C;refine C.mono ?_;rintro e z ⟨j,hN,⟨Y,f,u⟩,D⟩;have g:∀ b,OG (fun b=>ok0 b\/w.heap.size<=b) (fun b=>w.heap.size<=b/\b<w.heap.size+11/\b≠d.heap.size+1+1+1+1/\b≠d.heap.size+1/\b≠d.heap.size+1+1) (d.heap.size+1+1+1+1) (d.heap.size+1) (d.heap.size+1+1) b->okF ok0 w.heap.size b:=fun b f=>⟨f.1,fun H=>f.2.1 ⟨H.1,H.2,f.2.2⟩⟩;have s:RL { w:=z,ok:=okF ok0 w.heap.size,env:=fun _=>none } (pz q.2.1) Y.toList:=u.le ⟨dE _,fun b _ f=>⟨g b f,rfl⟩,fun _ _ _ h=>by cases h⟩;refine⟨j,Y,_,aDx u,aVn u,f,hN,?_⟩;rcases D with⟨o,ho,x,rfl⟩|⟨x,t,O,rfl⟩;exact .inl ⟨o,ho,rfl,rfl,s,x⟩;exact .inr ⟨t,O,rfl,rfl,s,x⟩;rintro e z ⟨j,i,n,_,N⟩
 refine⟨j,?_⟩;rcases N with⟨o,g,rfl,K,J,A⟩|⟨rfl,K,J,A⟩
 refine⟨i,?_,?_,J⟩;rw[A];exact g;rw[K,A];rfl;refine⟨i,?_,?_,J⟩;rw[A];exact kN;rw[K,A];rfl
end Pv
end Go.Proofs.YtndpjopifkbgiaaGreatDoor
