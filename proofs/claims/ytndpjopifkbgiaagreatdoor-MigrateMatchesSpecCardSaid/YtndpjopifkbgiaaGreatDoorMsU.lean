/-
  Several texts in one file: each has its own heading below.
-/
import Derived.Test.YtndpjopifkbgiaaGreatDoorMsT
import Derived.Test.YtndpjopifkbgiaaGreatDoorMsN
import Derived.Test.YtndpjopifkbgiaaGreatDoorMsQ
import Derived.Test.YtndpjopifkbgiaaGreatDoorMsR
import Derived.Test.YtndpjopifkbgiaaGreatDoorCards
import Derived.Test.YtndpjopifkbgiaaGreatDoorTie
import Derived.Test.YtndpjopifkbgiaaGreatDoorMsC
import Derived.WalkKit
import Derived.ProofKit
import Derived.OpenShut
import Derived.ShutString
import Derived.ChangeOld
import Derived.Lib.SmallJoins
import Derived.Deep.Slices
import Derived.Deep.DeepHandedRow
import Derived.Lib.LaidTab
import Derived.Stop.LaidErr
import Derived.Test.YtndpjopifkbgiaaGreatDoorMsJ
set_option maxRecDepth 100000
set_option maxHeartbeats 4000000
open Go.Proofs.Tryz
open _root_.Nat renaming le_trans->mr,le_refl->dE,succ_mul->aCR,lt_or_ge->Y6
open _root_.Int renaming eq_ofNat_of_zero_le->Ye,toNat->YK
open _root_.List renaming length_append->ed,mem_cons_self->Xv,mem_cons->xn,flatMap_cons->aDg,range->yf,getElem?_cons_zero->YT,getElem?_cons_succ->Yv,getElem?_eq_none->GM,mem_cons_of_mem->Y3,flatMap_append->aEO,getElem?_map->Xu,not_mem_nil->Xq,range_succ->aDR,drop_drop->aAD
open _root_.Bool renaming false_ne_true->Xw
open _root_.Go renaming Value->ag,TypeId->bu,MemPlace->Yf,World->ae,Program->gp
namespace Go.Proofs.YtndpjopifkbgiaaGreatDoor
open Go.RowKit
namespace Pv
def GY:Spec:=aZ true fun a=>match a with
 |[.w (.agg ol),.w (.agg b)]=>(match qI ol,FD b with
  |some m,some r=>some (g_ r.ol/\m.link.length=16/\r.ot.length=16/\r.payload.size<=10000,.w (.agg (gm (gW m.link r))))|_,_=>none)
 |_=>none
theorem PH:ai prog af 92 GY:=by refine aW (aC func92 aj rfl) (fun e p r a b=>?_);split at a;split at a;rename_i d c;cases a;rw[kM d,xP c];exact Hz _ _ b.1 b.2.1 b.2.2.1 b.2.2.2;cases a;cases a
def kmN(m:iy)(s:h_):List (Nat×Spec):=(59,dI 96 (uq m s bMm))::(87,dI 96 (uq m s bMp)) ::
 (88,dI 96 (uq m s bMu))::(92,GY)::kmK m s
theorem Ky(m:iy)(s:h_):∀ p∈kmN m s,ai prog af p.1 p.2:=by intro p a;simp only[kmN,xn] at a;rcases a with rfl|rfl|rfl|rfl|a;exact bAt m s;exact aTy m s;exact bAz m s;exact PH;exact L6 m s p (by simpa[kmK] using a)
theorem AU(m:iy)(s:h_):jl prog af (find (kmN m s)):=⟨bD (Ky m s),dG⟩
section
variable {op:je} {r:jg} {f:Nat} {m:iy} {s:h_}
theorem Po:s.i<=(t_ op r m s).2.i:=by rw[(aFq op r m s).1];exact bKi _ _ _
theorem aMc:s.i<=(mF (f+1) m s).2.i:=by rw[(aAv f m s).1];exact bKi _ _ _
theorem bHw(a:ru m s)(b:(t_ op r m s).2.i<=1000000):ru m (t_ op r m s).2/\DW s.h (t_ op r m s).2.h:=by rw[(aFq op r m s).1] at b ⊢;exact⟨bKj _ a b,aVj _ _ _⟩
theorem aGq(a:ru m s)(b:(jd op m s).2.i<=1000000):ru m (jd op m s).2/\DW s.h (jd op m s).2.h:=by rw[(aGr op m s).1] at b ⊢;exact⟨bKj _ a b,aVj _ _ _⟩
theorem aJj(a:ru m s)(b:(mF (f+1) m s).2.i<=1000000):ru m (mF (f+1) m s).2/\DW s.h (mF (f+1) m s).2.h:=by rw[(aAv f m s).1] at b ⊢;exact⟨bKj _ a b,aVj _ _ _⟩
end
theorem aMv(op:je)(_:op.root.length=16)(m:iy)(s:h_):(jd op m s).1.2=0->F7 (jd op m s).1.1/\(jd op m s).1.1.payload.size<=2000:=by
 intro h;have j:=aMk m s;unfold jd at h ⊢;split at h;rename_i c
 exact absurd c (fun b=>b.elim (fun a=>a h) (fun a=>by
  have e:xx (aO m (ah.load 3) s)=⟨aH,0,13⟩:=if_pos a;have d:(xx (aO m (ah.load 3) s)).err=0:=h;rw[e] at d
  exact absurd d jc))
 rename_i c;rw[if_neg c];split at h;rename_i b;rw[if_pos b];obtain⟨i,g⟩:=LH op.root _ a_ b;refine⟨g,?_⟩;have a:=congrArg ByteArray.size i;unfold fK at a;rw[bJ] at a;unfold kZ bI at a;rw[ed,ed,ed,dH] at a;unfold jJ bI at a;simp only[ed] at a;rw[show ((DI op.root (xx (aO m (ah.load 3) s)).content (xx (aO m (ah.load 3) s)).content.data.toList).1.payload.data.toList).length=(DI op.root (xx (aO m (ah.load 3) s)).content (xx (aO m (ah.load 3) s)).content.data.toList).1.payload.size from Array.length_toList] at a;show (DI op.root (xx (aO m (ah.load 3) s)).content (xx (aO m (ah.load 3) s)).content.data.toList).1.payload.size<=2000;omega;exact absurd h (by show ¬(8:Int)=0;decide)
theorem aYl{x y k v:Int}:(bif x != k then true else y != v)=true↔(x≠k\/y≠v):=by by_cases h:x=k;subst h;simp;rw[show (x != k)=true from by simpa using h];exact⟨fun _=>.inl h,fun _=>rfl⟩
theorem bKl{x y k v:Int}(h:(bif x != k then true else y != v)=false):¬(x≠k\/y≠v):=fun a=>by rw[aYl.2 a] at h;cases h
def aDF(m:iy)(s:h_)(op:je)(f:Nat)(p:ByteArray)(e:Int):St:=⟨[(0,none,d_ (.pt px 0 0)),(2,none,di f),(3,none,jr p),(8,none,d_ (.pt 1 0 0)),(9,none,di e)],[(px,none,0,.box 96 (qo m s)),(0,none,0,.box 31 (um op)),(1,none,0,.box 40 (gm kz))]⟩
theorem bEt{f:Nat}(a:f<=1000):IntKind.i64.wrap ((f:Int)+1)=((f+1:Nat):Int):=cO f a_
theorem aPo(op:je)(f:Nat)(p:ByteArray)(F:f<16)(hr:op.root.length=16)(B:p.size<=5000):uw 57 [.w (.agg (um op)),di f,jr p] (fun m s=>qp m s/\pg m s 3) (fun m s=>((uU op f p m s).2,.w (.agg (gm (uU op f p m s).1)))):=by
 intro m y l x t;have M:=AU m y;dsimp only at t ⊢;unfold uU at t ⊢;have o:=bEt (f:=f) a_;have q:O8 (qL f p):=⟨by show g_ 1;unfold g_;omega,by show g_ ((f+1:Nat):Int);unfold g_;omega,UC,rfl,B⟩;have c:=bHw (op:=op) (r:=qL f p) l;refine dM func57 rfl rfl rfl (fun A C D=>?_);obtain⟨a,u⟩:∃ a,t_ op (qL f p) m y=a:=⟨_,rfl⟩;rw[u] at t c ⊢;obtain⟨b,g⟩:∃ b,(if a.1=0/\a.2.stop=false then mF (f+1) m a.2 else a)=b:=⟨_,rfl⟩;rw[g] at t ⊢;have d:b.2.i<=1000000:=t;have e:a.2.i<=1000000:=by rw[<-g] at d;split at d;exact mr aMc d;exact d
 obtain⟨k,j⟩:=c e;refine aB ?_;refine aF ?_ ?_;simp;rw[o];exact⟨l,⟨⟨hr,q⟩,x.1⟩,by rw[<-u] at e;exact e⟩;refine aU (aDF m a.2 op f p a.1) ?_ ?_ ?_;refine .cons rfl (.cons rfl (.cons rfl (.cons rfl (.cons ?_ .nil))));change di (t_ op ⟨1,IntKind.i64.wrap ((f:Int)+1),vz,0,p⟩ m y).1=_;rw[o,<-u];rfl;refine .cons (.box ?_) (.cons (.box rfl) (.cons (.box rfl) .nil));change qo m (t_ op ⟨1,IntKind.i64.wrap ((f:Int)+1),vz,0,p⟩ m y).2=_;rw[o,<-u];rfl;refine qQ (aDF m b.2 op f p b.1) ?_ ?_;clear M;have M:=AU m a.2;refine aB ?_;refine aI (fun n=>?_) (fun n=>?_);have h:a.1=0/\a.2.stop=false:=aBB.1 n;rw[if_pos h] at g;refine bC M D C (by rfl) (by kernel_rfl) ?_ ?_;simp;rw[o];refine⟨k,⟨by omega,x.2.BF j⟩,?_⟩;show (mF (f+1) m a.2).2.i<=1000000;rw[g];exact d;intro E w z;refine⟨rfl,(z.reset (kT:=[0,2,3,8,9]) (kO:=[px,0,1]) f_ ay).same ?_ ?_⟩;refine .cons rfl (.cons rfl (.cons rfl (.cons rfl (.cons ?_ .nil))));change di (mF (IntKind.i64.wrap ((f:Int)+1)).toNat m a.2).1=_;rw[o,<-g];rfl;refine .cons (.box ?_) (.cons (.box rfl) (.cons (.box rfl) .nil));change qo m (mF (IntKind.i64.wrap ((f:Int)+1)).toNat m a.2).2=_;rw[o,<-g];rfl;have h:¬(a.1=0/\a.2.stop=false):=JF n;rw[if_neg h] at g;rw[<-g];refine iV ?_;intro E w z;refine⟨rfl,(z.reset (kT:=[0,2,3,8,9]) (kO:=[px,0,1]) f_ ay).same ?_ ?_⟩;exact ig;exact o7;clear g u j k e c;clear M;have M:=AU m b.2;unfold DK;refine aG ?_;refine aB ?_;refine aI (fun n=>?_) (fun n=>?_)
 ·have h:b.1≠0:=by simpa using n
  rw[if_pos h];refine aB ?_;refine bT ?_
  all_goals rfl
 ·have h:¬b.1≠0:=by simpa using n
  rw[if_neg h];refine aJ ?_;refine aB ?_;refine bT ?_
  all_goals rfl
def DF(m:iy)(s:h_)(op:je)(f:Nat)(r:jg)(e:Int):St:=⟨[(0,none,d_ (.pt px 0 0)),(2,none,di f),(4,none,d_ (.pt 0 0 0)),(6,none,d_ (.pt 1 0 0)),(7,none,d_ (.pt 1006 0 0)),(8,none,di e)],[(px,none,0,.box 96 (qo m s)),(0,none,0,.box 31 (um op)),(1,none,0,.box 40 (gm kz)),(1006,none,0,.box 131 (oz r))]⟩
theorem aPe(op:je)(f:Nat)(_:f<=16)(hr:op.root.length=16)(hl:op.link.length=16):uw 61 [.w (.agg (um op)),di f] (fun m s=>qp m s/\pg m s 3) (fun m s=>((wC op f m s).2,.w (.agg (gm (wC op f m s).1)))):=by
 intro m b d q e;have M:=AU m b;dsimp only at e ⊢;unfold wC at e ⊢
 have k:(jd op m b).1.2=0->(jd op m b).2.stop=false:=fun h=>by
  cases u:(jd op m b).2.stop with
  |false=>rfl|true=>exact absurd h ((aGr op m b).2.2 u)
 have l:=aMv op hr m b;have g:=aGq (op:=op) d;refine dM func61 rfl rfl rfl (fun A x z=>?_);obtain⟨a,n⟩:∃ a,jd op m b=a:=⟨_,rfl⟩;rw[n] at e k l g ⊢
 have p:a.2.i<=1000000:=by
  split at e;exact e
  ·split at e<;>exact e
 refine aB ?_;refine aF ?_ ?_;simp;refine⟨d,⟨hr,q.1⟩,?_⟩;show (jd op m b).2.i<=1000000;rw[n];exact p;refine aU (DF m a.2 op f a.1.1 a.1.2) ?_ ?_ ?_;refine .cons rfl (.cons rfl (.cons rfl (.cons rfl (.cons rfl (.cons ?_ .nil)))));change di (jd op m b).1.2=_;rw[n];refine .cons (.box ?_) (.cons (.box rfl) (.cons (.box rfl) (.cons (.box ?_) .nil)));change qo m (jd op m b).2=_;rw[n];change oz (jd op m b).1.1=_;rw[n];clear M;have M:=AU m a.2;refine aG ?_;refine aB ?_;refine aI (fun j=>?_) (fun j=>?_)
 ·have h:a.1.2≠0:=by simpa using j
  rw[if_pos h];refine aB ?_;refine bT ?_
  all_goals rfl
 have o:¬a.1.2≠0:=by simpa using j
 rw[if_neg o];rw[if_neg o] at e;have t:a.2.stop=false:=k (Decidable.not_not.1 o);refine aJ ?_;have c:=l (Decidable.not_not.1 o);refine aG ?_;refine aB ?_;refine aI (fun j=>?_) (fun j=>?_)
 ·have h:a.1.1.kind≠2\/a.1.1.level≠(f:Int):=aYl.1 j;rw[if_pos h];refine aB ?_;refine bT ?_
  all_goals rfl
 ·have h:¬(a.1.1.kind≠2\/a.1.1.level≠(f:Int)):=bKl j;rw[if_neg h];refine aJ ?_;refine aF ?_ ?_;simp;exact⟨c.1.ol,hl,c.1.ot,by have:=c.2;omega⟩;refine bT ?_
  all_goals rfl
theorem Gz(op:je)(f:Nat)(r:jg)(c:Int×h_):(Z7 op f r c).2=c.2:=by unfold Z7;split<;>rfl
theorem H_(op:je)(f:Nat)(r:jg)(m:iy)(b:Int×h_):b.2.i<=(sdB op f r m b).2.i:=by unfold sdB;split;exact dE _;rw[Gz];split;exact Po;exact dE _
theorem bAr(op:je)(f:Nat)(Z:f<16)(hr:op.root.length=16)(hl:op.link.length=16)(L:op.ot.length=16)(N:g_ op.ol):uw 60 [.w (.agg (um op)),di f] (fun m s=>qp m s/\pg m s 3) (fun m s=>((UH op f m s).2,.w (.agg (gm (UH op f m s).1)))):=by
 intro m k q u g;have M:=AU m k;dsimp only at g ⊢;unfold UH at g ⊢
 have F:(jd op m k).1.2=0->(jd op m k).2.stop=false:=fun h=>by
  cases V:(jd op m k).2.stop with
  |false=>rfl|true=>exact absurd h ((aGr op m k).2.2 V)
 have G:=aMv op hr m k;have n:=aGq (op:=op) q;refine dM func60 rfl rfl rfl (fun A S T=>?_);obtain⟨a,I⟩:∃ a,jd op m k=a:=⟨_,rfl⟩;rw[I] at g F G n ⊢;have J:=bEt (f:=f) a_;have E:a.2.i<=1000000:=by split at g;exact g;split at g;exact g;exact mr aMc (mr (H_ _ _ _ _ _) g)
 obtain⟨p,o⟩:=n E;refine aB ?_;refine aF ?_ ?_;simp;refine⟨q,⟨hr,u.1⟩,?_⟩;show (jd op m k).2.i<=1000000;rw[I];exact E;refine aU (DF m a.2 op f a.1.1 a.1.2) ?_ ?_ ?_;refine .cons rfl (.cons rfl (.cons rfl (.cons rfl (.cons rfl (.cons ?_ .nil)))));change di (jd op m k).1.2=_;rw[I];refine .cons (.box ?_) (.cons (.box rfl) (.cons (.box rfl) (.cons (.box ?_) .nil)));change qo m (jd op m k).2=_;rw[I];change oz (jd op m k).1.1=_;rw[I];clear M;have M:=AU m a.2;refine aG ?_;refine aB ?_;refine aI (fun d=>?_) (fun d=>?_)
 ·have h:a.1.2≠0:=by simpa using d
  rw[if_pos h];refine aB ?_;refine bT ?_
  all_goals rfl
 have K:¬a.1.2≠0:=by simpa using d
 rw[if_neg K];rw[if_neg K] at g;have x:a.2.stop=false:=F (Decidable.not_not.1 K);refine aJ ?_;obtain⟨Q,W⟩:=G (Decidable.not_not.1 K);refine aG ?_;refine aF ?_ ?_;simp;exact fun a b=>⟨a,b⟩;rw[x];refine aI (fun d=>?_) (fun d=>?_)
 ·have h:a.1.1.kind≠1\/a.1.1.level≠(f:Int):=aYl.1 d;rw[if_pos h];refine aB ?_;refine bT ?_
  all_goals rfl
 have X:¬(a.1.1.kind≠1\/a.1.1.level≠(f:Int)):=bKl d;rw[if_neg X] at g ⊢;refine aJ ?_;have e:=aJj (f:=f) p;obtain⟨b,H⟩:∃ b,mF (f+1) m a.2=b:=⟨_,rfl⟩;rw[H] at g e ⊢;have D:b.2.i<=1000000:=mr (H_ _ _ _ _ _) g;obtain⟨C,y⟩:=e D;refine aG ?_;refine aB ?_;rw[x];refine aI (fun d=>?_) (fun d=>?_);rotate_left 1;cases d;refine bC M T S (by rfl) (by kernel_rfl) ?_ ?_;simp;rw[J];refine⟨p,⟨by omega,u.2.BF o⟩,?_⟩;show (mF (f+1) m a.2).2.i<=1000000;rw[H];exact D;change lh _ _ _ _ _;refine aU (DF m b.2 op f a.1.1 b.1) ?_ ?_ ?_;refine .cons rfl (.cons rfl (.cons rfl (.cons rfl (.cons rfl (.cons ?_ .nil)))));change di (mF (IntKind.i64.wrap ((f:Int)+1)).toNat m a.2).1=_;rw[J,<-H];rfl;refine .cons (.box ?_) (.cons (.box rfl) (.cons (.box rfl) (.cons (.box rfl) .nil)));change qo m (mF (IntKind.i64.wrap ((f:Int)+1)).toNat m a.2).2=_;rw[J,<-H];rfl;clear M H e;have M:=AU m b.2;unfold sdB at g ⊢;refine aG ?_;refine aB ?_;refine aI (fun d=>?_) (fun d=>?_)
 ·have h:b.1≠0:=by simpa using d
  rw[if_pos h];refine aB ?_;refine bT ?_
  all_goals rfl
 have U:¬b.1≠0:=by simpa using d
 rw[if_neg U] at g ⊢;refine aJ ?_;refine aB ?_;have l:O8 (yN op f a.1.1):=⟨by show g_ 2;unfold g_;omega,by show g_ ((f+1:Nat):Int);unfold g_;omega,N,L,by show a.1.1.payload.size<=5000;omega⟩;have P:b.1=0:=Decidable.not_not.1 U;refine aU (DF m b.2 op f (yN op f a.1.1) 0) ?_ ?_ ?_;rw[P];exact ig;refine .cons (.box rfl) (.cons (.box rfl) (.cons (.box rfl) (.cons (.box ?_) .nil)));show oz ⟨2,IntKind.i64.wrap ((f:Int)+1),op.ot,op.ol,a.1.1.payload⟩=_;rw[J];rfl;obtain⟨r,t⟩:∃ r,yN op f a.1.1=r:=⟨_,rfl⟩;have B:r.payload.size<=10000:=by have:=l.payload;rw[t] at this;omega
 rw[t] at l g ⊢;have z:=t;obtain⟨c,j⟩:∃ c,(if b.2.stop=false then t_ op r m b.2 else (0,b.2))=c:=⟨_,rfl⟩;rw[j] at g ⊢;rw[Gz] at g;refine qQ (DF m c.2 op f r c.1) ?_ ?_;refine aB ?_;refine aI (fun d=>?_) (fun d=>?_);have h:b.2.stop=false:=by simpa using d
 rw[if_pos h] at j;refine bC M T S (by rfl) (by kernel_rfl) ?_ ?_;simp;refine⟨C,⟨⟨hr,l⟩,(u.1.BF o).BF y⟩,?_⟩;show (t_ op r m b.2).2.i<=1000000;rw[j];exact g;intro Y w O;refine⟨rfl,(O.reset (kT:=[0,2,4,6,7,8]) (kO:=[px,0,1,1006]) f_ ay).same ?_ ?_⟩;refine .cons rfl (.cons rfl (.cons rfl (.cons rfl (.cons rfl (.cons ?_ .nil)))));change di (t_ op r m b.2).1=_;rw[j];refine .cons (.box ?_) (.cons (.box rfl) (.cons (.box rfl) (.cons (.box rfl) .nil)));change qo m (t_ op r m b.2).2=_;rw[j];have h:¬b.2.stop=false:=by simpa using d
 rw[if_neg h] at j;rw[<-j];refine iV ?_;intro Y w O;refine⟨rfl,(O.reset (kT:=[0,2,4,6,7,8]) (kO:=[px,0,1,1006]) f_ ay).same ?_ ?_⟩;exact ig;exact o7;clear M j;have M:=AU m c.2;unfold Z7;rw[z];refine aG ?_;refine aB ?_;refine aI (fun d=>?_) (fun d=>?_)
 ·have h:c.1≠0:=by simpa using d
  rw[if_pos h];refine aB ?_;refine bT ?_
  all_goals rfl
 have h:¬c.1≠0:=by simpa using d
 rw[if_neg h];refine aJ ?_;refine aF ?_ ?_;simp;exact⟨l.ol,hl,l.ot,B⟩;refine bT ?_
 all_goals rfl
end Pv
namespace Pv
theorem V7(m:iy)(a:Int)(n t:Nat)(s:h_):(AX m a n t s).2=(aO m (ah.jw a n t) s).2:=(bHt m a n t s).1
theorem bJy(r:jg)(m:iy)(n:Nat×h_):n.2.i<=(Vu r m n).2.i:=by
 unfold Vu;split;exact dE _;split;exact dE _
 ·unfold Vt
  split<;>(show n.2.i<=(AX m 2 16 (n.1+1) n.2).2.i;rw[V7];exact jL _ _ _)
theorem KT(r:jg)(m:iy)(b:Int×h_):b.2.i<=(Vw r m b).2.i:=by unfold Vw;split;exact dE _;exact mr (jL _ _ _) (bJy _ _ _)
def bJx(m:iy)(s:h_)(r:jg):St:=⟨[(0,none,d_ (.pt px 0 0)),(6,none,d_ (.pt 1 0 0)),(7,none,d_ (.pt 1006 0 0))],[(px,none,0,.box 96 (qo m s)),(1,none,0,.box 40 (gm kz)),(1006,none,0,.box 131 (oz r))]⟩
def KR(m:iy)(s:h_)(r:jg)(n:Nat):St:=⟨(10,none,di n)::(bJx m s r).t,(bJx m s r).o⟩
def U3(m:iy)(s:h_)(r:jg)(n:Nat)(e:Int):St:=⟨(8,none,di e)::(KR m s r n).t,(bJx m s r).o⟩
def aBT(m:iy)(s:h_)(op:je)(f:Nat)(r:jg)(w:Int):St:=⟨(9,none,di w)::(DF m s op f r 0).t,(DF m s op f r 0).o⟩
theorem aPk(op:je)(f:Nat)(hf:f<=16)(hr:op.root.length=16):uw 58 [.w (.agg (um op)),di f] (fun m s=>qp m s/\pg m s 3/\pg m s 2) (fun m s=>((UD op f m s).2,.w (.agg (gm (UD op f m s).1)))):=by
 intro m D L J p;have M:=AU m D;dsimp only at p ⊢;unfold UD at p ⊢
 have X:(jd op m D).1.2=0->(jd op m D).2.stop=false:=fun h=>by
  cases hs:(jd op m D).2.stop with
  |false=>rfl|true=>exact absurd h ((aGr op m D).2.2 hs)
 have Y:=aMv op hr m D;have F:=aGq (op:=op) L;refine dM func58 rfl rfl rfl (fun A hn hI=>?_);obtain⟨a,ha⟩:∃ a,jd op m D=a:=⟨_,rfl⟩;rw[ha] at p X Y F ⊢;have hw:=bEt (f:=f) a_;have W:a.2.i<=1000000:=by split at p;exact p;split at p;exact p;refine mr ?_ (mr (KT _ _ _) p);split;exact aMc;exact dE _
 obtain⟨G,E⟩:=F W;refine aB ?_;refine aF ?_ ?_;simp;refine⟨L,⟨hr,J.1⟩,?_⟩;show (jd op m D).2.i<=1000000;rw[ha];exact W;refine aU (DF m a.2 op f a.1.1 a.1.2) ?_ ?_ ?_;refine .cons rfl (.cons rfl (.cons rfl (.cons rfl (.cons rfl (.cons ?_ .nil)))));change di (jd op m D).1.2=_;rw[ha];refine .cons (.box ?_) (.cons (.box rfl) (.cons (.box rfl) (.cons (.box ?_) .nil)));change qo m (jd op m D).2=_;rw[ha];change oz (jd op m D).1.1=_;rw[ha];clear M;have M:=AU m a.2;refine aG ?_;refine aB ?_;refine aI (fun e=>?_) (fun e=>?_)
 ·have h:a.1.2≠0:=by simpa using e
  rw[if_pos h];refine aB ?_;refine bT ?_
  all_goals rfl
 have hE:¬a.1.2≠0:=by simpa using e
 rw[if_neg hE];rw[if_neg hE] at p;have Q:a.2.stop=false:=X (Decidable.not_not.1 hE);refine aJ ?_;obtain⟨K,a1⟩:=Y (Decidable.not_not.1 hE);have Z:a.1.2=0:=Decidable.not_not.1 hE;obtain⟨r,a0⟩:∃ r,a.1.1=r:=⟨_,rfl⟩;rw[a0] at p K a1 ⊢;have a2:=K.l1;refine aB ?_;have I:(f:Int).tmod 2=((f % 2:Nat):Int):=rfl;refine qQ (aBT m a.2 op f r ((f+1-f % 2:Nat):Int)) ?_ ?_;refine aB ?_;refine aI (fun e=>?_) (fun e=>?_);have h:f % 2=0:=by have d:((f:Int).tmod 2==0)=true:=e;rw[I] at d;have:=beq_iff_eq.1 d;omega
 refine gI ?_;intro aa w hg;refine⟨rfl,(hg.reset (kT:=[9,0,2,4,6,7,8]) (kO:=[px,0,1,1006]) f_ ay).same ?_ ?_⟩;rw[Z];refine .cons ?_ (.cons rfl (.cons rfl (.cons rfl (.cons rfl (.cons rfl (.cons rfl .nil))))));rw[hw,show f+1-f % 2=f+1 by omega];exact o7;have h:¬f % 2=0:=by intro h;have d:((f:Int).tmod 2==0)=false:=e;rw[I,h] at d;cases d
 refine iV ?_;intro aa w hg;refine⟨rfl,(hg.reset (kT:=[9,0,2,4,6,7,8]) (kO:=[px,0,1,1006]) f_ ay).same ?_ ?_⟩;rw[Z];refine .cons ?_ (.cons rfl (.cons rfl (.cons rfl (.cons rfl (.cons rfl (.cons rfl .nil))))));rw[show f+1-f % 2=f by omega];exact o7;refine aG ?_;refine aF ?_ ?_;simp;exact fun a b=>⟨a,b⟩;rw[Q];refine aI (fun e=>?_) (fun e=>?_)
 ·have h:r.kind≠1\/r.level≠((f+1-f % 2:Nat):Int):=aYl.1 e;rw[if_pos h];refine aB ?_;refine bT ?_
  all_goals rfl
 have h1:¬(r.kind≠1\/r.level≠((f+1-f % 2:Nat):Int)):=bKl e;rw[if_neg h1] at p ⊢;have a3:r.level=((f+1-f % 2:Nat):Int):=Decidable.byContradiction fun h=>h1 (.inr h);refine aJ ?_;refine aG ?_;refine aB ?_;rw[Q];by_cases h2:f % 2=0
 ·rw [if_pos h2] at p ⊢;have B:=aJj (f:=f) G;obtain⟨b,hb⟩:∃ b,mF (f+1) m a.2=b:=⟨_,rfl⟩;rw[hb] at p B ⊢;have V:b.2.i<=1000000:=mr (KT _ _ _) p;obtain⟨U,T⟩:=B V;refine aI (fun e=>?_) (fun e=>?_);rotate_left 1;exfalso;have d:(bif (f:Int).tmod 2==0 then !false else false)=false:=e;rw[I,h2] at d;cases d;refine aF ?_ ?_;simp;rw[hw];refine⟨G,⟨by omega,J.2.1.BF E⟩,?_⟩;show (mF (f+1) m a.2).2.i<=1000000;rw[hb];exact V;refine aU (DF m b.2 op f r b.1) ?_ ?_ ?_;refine .cons rfl (.cons rfl (.cons rfl (.cons rfl (.cons rfl (.cons ?_ .nil)))));change di (mF (IntKind.i64.wrap ((f:Int)+1)).toNat m a.2).1=_;rw[hw,<-hb];rfl;refine .cons (.box ?_) (.cons (.box rfl) (.cons (.box rfl) (.cons (.box rfl) .nil)));change qo m (mF (IntKind.i64.wrap ((f:Int)+1)).toNat m a.2).2=_;rw[hw,<-hb];rfl;clear M;have M:=AU m b.2;unfold Vw at p ⊢;refine aB ?_;refine aI (fun e=>?_) (fun e=>?_)
  ·have h:b.1≠0:=by simpa using e
   rw[if_pos h];refine aB ?_;refine bT ?_
   all_goals rfl
  have h:¬b.1≠0:=by simpa using e
  rw[if_neg h] at p ⊢;refine aJ ?_;have z:=(J.2.2.BF E).BF T;obtain⟨S,hS⟩:∃ S,b.2=S:=⟨_,rfl⟩;have l:=U;have g:=p;rw[hS] at l g z ⊢;clear M;have M:=AU m S;have k:(aO m (ah.dn 2 16) S).2.i<=1000000:=mr (bJy _ _ _) g;have j:=jH (ah.dn 2 16) l k;have o:=z.BF (iO m (ah.dn 2 16) S);have u:=aLm m 2 16 S;refine lV (bJx m S r) ?_;refine aF ?_ ?_;simp;exact⟨l,z,k⟩;obtain⟨q,H⟩:∃ q,aO m (ah.dn 2 16) S=q:=⟨_,rfl⟩;refine aU (KR m q.2 r q.1) ?_ ?_ ?_;refine .cons ?_ (.cons rfl (.cons rfl (.cons rfl .nil)));rw[<-H];rfl;refine .cons (.box ?_) (.cons (.box rfl) (.cons (.box rfl) .nil));rw[<-H];rfl;rw[H] at g j o u ⊢;clear H k M;obtain⟨n,C⟩:=q;dsimp only at g j o u ⊢;have M:=AU m C;unfold Vu at g ⊢;dsimp only at g ⊢;refine aG ?_;refine aB ?_;cases t:C.stop with
  | true=>
   rw[t,if_pos rfl] at g;rw[if_pos rfl];refine aI (fun e=>?_) (fun e=>?_)
   ·exfalso;have d:(bif decide ((n:Int)>=16) then !true else false)=true:=e
    cases O:decide ((n:Int)>=16)<;>rw[O] at d<;>cases d
   refine aJ ?_;refine aG ?_;refine aB ?_;rw[t];refine aI (fun e=>?_) (fun e=>?_);cases e;refine aJ ?_;refine aB ?_;refine bT ?_
   all_goals rfl
  | false=>
   rw[t,if_neg Xw] at g;rw[if_neg Xw];refine aI (fun e=>?_) (fun e=>?_)
   ·have h:16<=n:=by
     have d:(bif decide ((n:Int)>=16) then !false else false)=true:=e;by_cases O:(n:Int)>=16
     omega;rw[decide_eq_false O] at d;cases d
    rw[if_pos h];refine aB ?_;refine bT ?_
    all_goals rfl
   have h:¬16<=n:=by intro h;have d:(bif decide ((n:Int)>=16) then !false else false)=false:=e;rw[decide_eq_true (show (n:Int)>=16 by omega)] at d;cases d
   rw[if_neg h] at g ⊢;have x:=bEt (f:=n) a_
   have N:(AX m 2 16 (n+1) C).2.i<=1000000:=by
    unfold Vt at g
    split at g<;>exact g
   refine aJ ?_;refine aG ?_;refine aB ?_;rw[t];refine aI (fun e=>?_) (fun e=>?_);rotate_left 1;cases e;refine aF ?_ ?_;simp;rw[x];refine⟨j,⟨o,by omega⟩,?_⟩;exact N;obtain⟨c,y⟩:∃ c,AX m 2 16 (n+1) C=c:=⟨_,rfl⟩;refine aU (U3 m c.2 r n c.1.2) ?_ ?_ ?_;refine .cons ?_ (.cons rfl (.cons rfl (.cons rfl (.cons rfl .nil))));change di (AX m 2 (YK 16) (IntKind.i64.wrap ((n:Int)+1)).toNat C).1.2=_;rw[x,<-y];rfl;refine .cons (.box ?_) (.cons (.box rfl) (.cons (.box rfl) .nil));change qo m (AX m 2 (YK 16) (IntKind.i64.wrap ((n:Int)+1)).toNat C).2=_;rw[x,<-y];rfl;rw[y];unfold Vt;refine aB ?_;refine aI (fun e=>?_) (fun e=>?_)
   ·have P:c.1.2≠0:=by simpa using e
    rw[if_pos P];refine aB ?_;refine bT ?_
    all_goals rfl
   have P:¬c.1.2≠0:=by simpa using e
   rw[if_neg P];refine aJ ?_;refine aB ?_;refine bT ?_
   all_goals rfl
 ·rw [if_neg h2] at p ⊢;unfold Vw at p ⊢;rw[if_neg (fun h=>h rfl)] at p ⊢;refine aI (fun e=>?_) (fun e=>?_);exfalso;have d:(bif (f:Int).tmod 2==0 then !false else false)=true:=e;rw[I,show f % 2=1 by omega] at d;cases d;refine aJ ?_;have z:=J.2.2.BF E;obtain⟨S,hS⟩:∃ S,a.2=S:=⟨_,rfl⟩;have l:=G;have g:=p;dsimp only at g;rw[hS] at l g z;dsimp only;rw[hS];clear M;have M:=AU m S;have k:(aO m (ah.dn 2 16) S).2.i<=1000000:=mr (bJy _ _ _) g;have j:=jH (ah.dn 2 16) l k;have o:=z.BF (iO m (ah.dn 2 16) S);have u:=aLm m 2 16 S;refine lV (bJx m S r) ?_;refine aF ?_ ?_;simp;exact⟨l,z,k⟩;obtain⟨q,H⟩:∃ q,aO m (ah.dn 2 16) S=q:=⟨_,rfl⟩;refine aU (KR m q.2 r q.1) ?_ ?_ ?_;refine .cons ?_ (.cons rfl (.cons rfl (.cons rfl .nil)));rw[<-H];rfl;refine .cons (.box ?_) (.cons (.box rfl) (.cons (.box rfl) .nil));rw[<-H];rfl;rw[H] at g j o u ⊢;clear H k M;obtain⟨n,C⟩:=q;dsimp only at g j o u ⊢;have M:=AU m C;unfold Vu at g ⊢;dsimp only at g ⊢;refine aG ?_;refine aB ?_;cases t:C.stop with
  | true=>
   rw[t,if_pos rfl] at g;rw[if_pos rfl];refine aI (fun e=>?_) (fun e=>?_)
   ·exfalso;have d:(bif decide ((n:Int)>=16) then !true else false)=true:=e
    cases O:decide ((n:Int)>=16)<;>rw[O] at d<;>cases d
   refine aJ ?_;refine aG ?_;refine aB ?_;rw[t];refine aI (fun e=>?_) (fun e=>?_);cases e;refine aJ ?_;refine aB ?_;refine bT ?_
   all_goals rfl
  | false=>
   rw[t,if_neg Xw] at g;rw[if_neg Xw];refine aI (fun e=>?_) (fun e=>?_)
   ·have h:16<=n:=by
     have d:(bif decide ((n:Int)>=16) then !false else false)=true:=e;by_cases O:(n:Int)>=16
     omega;rw[decide_eq_false O] at d;cases d
    rw[if_pos h];refine aB ?_;refine bT ?_
    all_goals rfl
   have h:¬16<=n:=by intro h;have d:(bif decide ((n:Int)>=16) then !false else false)=false:=e;rw[decide_eq_true (show (n:Int)>=16 by omega)] at d;cases d
   rw[if_neg h] at g ⊢;have x:=bEt (f:=n) a_
   have N:(AX m 2 16 (n+1) C).2.i<=1000000:=by
    unfold Vt at g
    split at g<;>exact g
   refine aJ ?_;refine aG ?_;refine aB ?_;rw[t];refine aI (fun e=>?_) (fun e=>?_);rotate_left 1;cases e;refine aF ?_ ?_;simp;rw[x];refine⟨j,⟨o,by omega⟩,?_⟩;exact N;obtain⟨c,y⟩:∃ c,AX m 2 16 (n+1) C=c:=⟨_,rfl⟩;refine aU (U3 m c.2 r n c.1.2) ?_ ?_ ?_;refine .cons ?_ (.cons rfl (.cons rfl (.cons rfl (.cons rfl .nil))));change di (AX m 2 (YK 16) (IntKind.i64.wrap ((n:Int)+1)).toNat C).1.2=_;rw[x,<-y];rfl;refine .cons (.box ?_) (.cons (.box rfl) (.cons (.box rfl) .nil));change qo m (AX m 2 (YK 16) (IntKind.i64.wrap ((n:Int)+1)).toNat C).2=_;rw[x,<-y];rfl;rw[y];unfold Vt;refine aB ?_;refine aI (fun e=>?_) (fun e=>?_)
   ·have P:c.1.2≠0:=by simpa using e
    rw[if_pos P];refine aB ?_;refine bT ?_
    all_goals rfl
   have P:¬c.1.2≠0:=by simpa using e
   rw[if_neg P];refine aJ ?_;refine aB ?_;refine bT ?_
   all_goals rfl
def bNd:List PV->Option (BC×Ai)
 |[.w (.agg ol),.w (.one (.lit (.int .i64 f))),.w (.one (.lit (.string p)))]=>match qI ol with
  |some op=>some (fun m s=>((0<=f/\f<16)/\op.root.length=16/\p.size<=5000)/\qp m s/\pg m s 3,fun m s=>((uU op f.toNat p m s).2,.w (.agg (gm (uU op f.toNat p m s).1))))|none=>none
 |_=>none
theorem aLs(m:iy)(s:h_):ai prog af 57 (dI 96 (uq m s bNd)):=
 eU (aC func57 aj rfl) (fun e C F h=>by
  unfold bNd at h;split at h;rename_i g f p;split at h;rename_i d;cases h;intro m s b a c;rw[kM d];obtain⟨k,rfl⟩:=Ye a.1.1.1;exact aPo _ k p (by have:=a.1.1.2;omega) a.1.2.1 a.1.2.2 m s b a.2 c;cases h
  cases h)
def bMs:List PV->Option (BC×Ai)
 |[.w (.agg ol),.w (.one (.lit (.int .i64 f)))]=>match qI ol with
  |some op=>some (fun m s=>((0<=f/\f<=16)/\op.root.length=16)/\(qp m s/\pg m s 3/\pg m s 2),fun m s=>((UD op f.toNat m s).2,.w (.agg (gm (UD op f.toNat m s).1))))|none=>none
 |_=>none
theorem aLl(m:iy)(s:h_):ai prog af 58 (dI 96 (uq m s bMs)):=
 eU (aC func58 aj rfl) (fun e C F h=>by
  unfold bMs at h;split at h;rename_i g f;split at h;rename_i d;cases h;intro m s b a c;rw[kM d];obtain⟨k,rfl⟩:=Ye a.1.1.1;exact aPk _ k (by have:=a.1.1.2;omega) a.1.2 m s b a.2 c;cases h
  cases h)
def bMe:List PV->Option (BC×Ai)
 |[.w (.agg ol),.w (.one (.lit (.int .i64 f)))]=>match qI ol with
  |some op=>some (fun m s=>((0<=f/\f<=15)/\(op.root.length=16/\op.link.length=16/\op.ot.length=16/\g_ op.ol))/\(qp m s/\pg m s 3),fun m s=>((UH op f.toNat m s).2,.w (.agg (gm (UH op f.toNat m s).1))))|none=>none
 |_=>none
theorem aTr(m:iy)(s:h_):ai prog af 60 (dI 96 (uq m s bMe)):=
 eU (aC func60 aj rfl) (fun e C F h=>by
  unfold bMe at h;split at h;rename_i g f;split at h;rename_i d;cases h;intro m s b a c;rw[kM d];obtain⟨k,rfl⟩:=Ye a.1.1.1;exact bAr _ k (by have:=a.1.1.2;omega) a.1.2.1 a.1.2.2.1 a.1.2.2.2.1 a.1.2.2.2.2 m s b a.2 c;cases h
  cases h)
def bMh:List PV->Option (BC×Ai)
 |[.w (.agg ol),.w (.one (.lit (.int .i64 f)))]=>match qI ol with
  |some op=>some (fun m s=>((0<=f/\f<=16)/\(op.root.length=16/\op.link.length=16))/\(qp m s/\pg m s 3),fun m s=>((wC op f.toNat m s).2,.w (.agg (gm (wC op f.toNat m s).1))))|none=>none
 |_=>none
theorem aLh(m:iy)(s:h_):ai prog af 61 (dI 96 (uq m s bMh)):=
 eU (aC func61 aj rfl) (fun e C F h=>by
  unfold bMh at h;split at h;rename_i g f;split at h;rename_i d;cases h;intro m s b a c;rw[kM d];obtain⟨k,rfl⟩:=Ye a.1.1.1;exact aPe _ k (by have:=a.1.1.2;omega) a.1.2.1 a.1.2.2 m s b a.2 c;cases h
  cases h)
structure UO(op:je):Prop where
 root:op.root.length=16
 link:op.link.length=16
 xt:op.xt.length=16
 xl:g_ op.xl
 bn:g_ op.bn
 bc:op.bc.size<=2000
def kmA(m:iy)(s:h_):List (Nat×Spec):=(57,dI 96 (uq m s bNd))::kmN m s
theorem L8(m:iy)(s:h_):∀ p∈kmA m s,ai prog af p.1 p.2:=by intro p a;rcases List.mem_cons.1 a with rfl|a;exact aLs m s;exact Ky m s p a
theorem aKR(m:iy)(s:h_):jl prog af (find (kmA m s)):=⟨bD (L8 m s),dG⟩
def acS(m:iy)(s:h_)(op:je)(f:Nat)(e:Int)(p:ByteArray):St:=⟨[(0,none,d_ (.pt px 0 0)),(2,none,di f),(4,none,d_ (.pt 0 0 0)),(6,none,d_ (.pt 1 0 0)),(8,none,jr p),(9,none,di e)],[(px,none,0,.box 96 (qo m s)),(0,none,0,.box 31 (um op)),(1,none,0,.box 40 (gm kz))]⟩
theorem aPq(op:je)(f:Nat)(q:f<16)(a:UO op):uw 62 [.w (.agg (um op)),di f] (fun m s=>qp m s/\pg m s 3) (fun m s=>((wY op f m s).2,.w (.agg (gm (wY op f m s).1)))):=by
 intro m j d i c;have M:=aKR m j;dsimp only at c ⊢;unfold wY at c ⊢;have g:=aHr op a.bc;refine dM func62 rfl rfl rfl (fun A o r=>?_);refine aB ?_;refine aB ?_;refine aG ?_;refine aB ?_;refine aI (fun b=>?_) (fun b=>?_)
 ·have h:op.xl≠(f:Int):=by simpa using b
  rw[if_pos h];refine aB ?_;refine bT ?_
  all_goals rfl
 have n:¬op.xl≠(f:Int):=by simpa using b
 rw[if_neg n] at c ⊢;refine aJ ?_;refine aF ?_ ?_;simp;exact⟨⟨a.xl,a.link,a.xt⟩,a.bn,by have:=a.bc;omega⟩;refine lV (acS m j op f (UJ op) (qZ op)) ?_;generalize UJ op=e at c ⊢;generalize qZ op=p at c g ⊢;refine aG ?_;refine aB ?_;refine aI (fun b=>?_) (fun b=>?_)
 ·have h:e≠0:=by simpa using b
  rw[if_pos h];refine aB ?_;refine bT ?_
  all_goals rfl
 have l:¬e≠0:=by simpa using b
 rw[if_neg l] at c ⊢;refine aJ ?_;refine aG ?_;refine aB ?_;refine aI (fun b=>?_) (fun b=>?_)
 ·have h:1000<p.size:=by
   have:=of_decide_eq_true (show decide ((p.size:Int) > 1000)=true from b);omega
  rw[if_pos h];refine aB ?_;refine bT ?_
  all_goals rfl
 have k:¬1000<p.size:=by have:=of_decide_eq_false (show decide ((p.size:Int) > 1000)=false from b);omega
 rw[if_neg k] at c ⊢;refine aJ ?_;refine aF ?_ ?_;simp;exact⟨d,⟨⟨by omega,a.root,by omega⟩,i⟩,c⟩;refine bT ?_
 all_goals rfl
def bNf:List PV->Option (BC×Ai)
 |[.w (.agg ol),.w (.one (.lit (.int .i64 f)))]=>match qI ol with
  |some op=>some (fun m s=>((0<=f/\f<=15)/\UO op)/\(qp m s/\pg m s 3),fun m s=>((wY op f.toNat m s).2,.w (.agg (gm (wY op f.toNat m s).1))))|none=>none
 |_=>none
theorem aLt(m:iy)(s:h_):ai prog af 62 (dI 96 (uq m s bNf)):=
 eU (aC func62 aj rfl) (fun e C F h=>by
  unfold bNf at h;split at h;rename_i g f;split at h;rename_i d;cases h;intro m s b a c;rw[kM d];obtain⟨k,rfl⟩:=Ye a.1.1.1;exact aPq _ k (by have:=a.1.1.2;omega) a.1.2 m s b a.2 c;cases h
  cases h)
def kmD(m:iy)(s:h_):List (Nat×Spec):=(58,dI 96 (uq m s bMs))::(60,dI 96 (uq m s bMe)) ::
 (61,dI 96 (uq m s bMh))::(62,dI 96 (uq m s bNf))::kmA m s
theorem WH(m:iy)(s:h_):∀ p∈kmD m s,ai prog af p.1 p.2:=by intro p a;simp only[kmD,xn] at a;rcases a with rfl|rfl|rfl|rfl|a;exact aLl m s;exact aTr m s;exact aLh m s;exact aLt m s;exact L8 m s p (by simpa[kmA] using a)
theorem WJ(m:iy)(s:h_):jl prog af (find (kmD m s)):=⟨bD (WH m s),dG⟩
theorem LG(op:je)(a:1<=op.kind/\op.kind<=7)(f:Nat)(m:iy)(s:h_):s.i<=(bKn op f m s).2.i:=by rw[(aYm op a f m s).1];exact bKi _ _ _
def Wy(m:iy)(s:h_)(op:je)(f:Nat):St:=⟨[(0,none,d_ (.pt px 0 0)),(3,none,d_ (.pt 0 0 0)),(4,none,d_ (.pt 1 0 0)),(5,none,di f)],[(px,none,0,.box 96 (qo m s)),(0,none,0,.box 31 (um op)),(1,none,0,.box 40 (gm kz))]⟩
def aLF(m:iy)(s:h_)(op:je)(f:Nat)(a b:Bool):St:=⟨(6,none,qy a)::(7,none,qy b)::(Wy m s op f).t,(Wy m s op f).o⟩
structure TG(op:je):Prop where
 ok:zh op
 id:op.id.length=16
 pay:op.payload.size<=5000
theorem Ib(op:je)(hk:1<=op.kind/\op.kind<=7)(d:TG op):uw 32 [.w (.agg (um op))] (fun m s=>qp m s/\pg m s 3/\pg m s 2) (fun m s=>((F_ op m s).2,.w (.agg (gm (F_ op m s).1)))):=by
 intro m J D B e;have M:=WJ m J;dsimp only at e ⊢;unfold F_ at e ⊢;have p:(aO m (ah.dn 3 16) J).2.i<=1000000:=by split at e;exact e;exact mr (LG op hk _ _ _) e
 have g:=jH (ah.dn 3 16) D p;have n:=iO m (ah.dn 3 16) J;have E:=aLm m 3 16 J;refine dM func32 rfl rfl rfl (fun A hn hI=>?_);refine aB ?_;refine aF ?_ ?_;simp;exact⟨D,B.2.1,p⟩;obtain⟨q,K⟩:∃ q,aO m (ah.dn 3 16) J=q:=⟨_,rfl⟩;refine aU (Wy m q.2 op q.1) ?_ ?_ ?_;refine .cons rfl (.cons rfl (.cons rfl (.cons ?_ .nil)));rw[<-K];rfl;refine .cons (.box ?_) (.cons (.box rfl) (.cons (.box rfl) .nil));rw[<-K];rfl;rw[K] at e g n E ⊢;obtain⟨f,s⟩:=q;dsimp only at e g n E ⊢;clear K p M;have M:=WJ m s;have I:=B.1.BF n;have r:=B.2.1.BF n;have Y:=B.2.2.BF n;refine aG ?_;refine aB ?_;refine aI (fun c=>?_) (fun c=>?_)
 ·have h:s.stop=true:=c;rw[if_pos h];refine aB ?_;refine bT ?_
  all_goals rfl
 have U:s.stop=false:=c;rw[if_neg (by rw[U];exact Xw)] at e ⊢;unfold bKn at e ⊢;refine aJ ?_;refine aB ?_;refine aB ?_;obtain⟨u,k⟩:∃ u,(bif (bif op.kind==1 then true else op.kind==4) then true else op.kind==7)=u:=⟨_,rfl⟩;obtain⟨H,l⟩:∃ H,(bif op.kind==3 then true else op.kind==5)=H:=⟨_,rfl⟩;refine aU (aLF m s op f u H) ?_ ?_ ?_;rw[<-k,<-l];exact ig;exact o7;have x:u=true->op.kind=1\/op.kind=4\/op.kind=7:=fun h=>by rw[h] at k;simp at k;omega
 have y:u=false->¬(op.kind=1\/op.kind=4\/op.kind=7):=fun h=>by rw[h] at k;simp at k;omega
 have F:H=true->op.kind=3\/op.kind=5:=fun h=>by rw[h] at l;simp at l;omega
 have G:H=false->¬(op.kind=3\/op.kind=5):=fun h=>by rw[h] at l;simp at l;omega
 clear k l;have W:(f:Int).tmod 2=((f % 2:Nat):Int):=rfl;have C:f % 2=0\/f % 2=1:=Nat.mod_two_eq_zero_or_one f
 have d6:∀ b,(bif (bif (bif u then true else op.kind==6) then ((f:Int).tmod 2==1) else false) then true else (bif H then ((f:Int).tmod 2==0) else false))=b->(b=true↔(((op.kind=1\/op.kind=4\/op.kind=7)\/op.kind=6)/\f % 2=1)\/((op.kind=3\/op.kind=5)/\f % 2=0)):=by
  intro b L;rw[W] at L;subst L
  cases j:u<;>cases z:H<;>rcases C with C|C<;>rw[C]<;>simp
  all_goals first
   |(have:=x j;have:=F z;omega)
   |(have:=x j;have:=G z;omega)
   |(have:=y j;have:=F z;omega)
   |(have:=y j;have:=G z;omega)
 have Z:∀ b,(bif u then decide ((f:Int)>=16) else false)=b->(b=true↔(op.kind=1\/op.kind=4\/op.kind=7)/\16<=f):=by
  intro b L;subst L
  cases j:u<;>simp
  all_goals first
   |(have:=x j;omega)
   |(have:=y j;omega)
 refine aG ?_;refine aF ?_ ?_;simp;refine⟨fun a b=>⟨a,b⟩,fun h=>?_⟩;cases u;by_cases h6:op.kind=6;exact .inr (h (.inr h6));exact .inl ⟨rfl,h6⟩;exact .inr (h (.inl rfl));refine aI (fun c=>?_) (fun c=>?_)
 ·rw[if_pos ((d6 true c).1 rfl)];refine aB ?_;refine bT ?_
  all_goals rfl
 have n6:¬((((op.kind=1\/op.kind=4\/op.kind=7)\/op.kind=6)/\f % 2=1)\/((op.kind=3\/op.kind=5)/\f % 2=0)):=fun h=>absurd ((d6 false c).2 h) jc;rw[if_neg n6] at e ⊢;refine aJ ?_;refine aG ?_;refine aB ?_;refine aI (fun c=>?_) (fun c=>?_)
 ·rw[if_pos ((Z true c).1 rfl)];refine aB ?_;refine bT ?_
  all_goals rfl
 have n8:¬((op.kind=1\/op.kind=4\/op.kind=7)/\16<=f):=fun h=>absurd ((Z false c).2 h) jc;rw[if_neg n8] at e ⊢;refine aJ ?_;refine aG ?_;refine aB ?_;refine aQ ?_;refine lV (⟨(64,none,di op.kind)::(Wy m s op f).t,(Wy m s op f).o⟩) ?_;clear d6 Z x y F G;refine aB ?_;refine aI (fun c=>?_) (fun c=>?_)
 ·have T:op.kind=1:=by simpa using c
  rw[if_pos T] at e ⊢;refine aF ?_ ?_;simp;exact⟨g,⟨⟨by omega,d.ok.root,d.pay⟩,I,r⟩,e⟩;refine bT ?_
  all_goals rfl
 have T:¬op.kind=1:=by simpa using c
 rw[if_neg T] at e ⊢;refine aB ?_;refine aI (fun c=>?_) (fun c=>?_)
 ·have S:op.kind=2:=by simpa using c
  rw[if_pos S] at e ⊢;refine aF ?_ ?_;simp;exact⟨g,⟨⟨by omega,d.ok.root⟩,I,r,Y⟩,e⟩;refine bT ?_
  all_goals rfl
 have S:¬op.kind=2:=by simpa using c
 rw[if_neg S] at e ⊢;refine aB ?_;refine aI (fun c=>?_) (fun c=>?_)
 ·have Q:op.kind=3:=by simpa using c
  rw[if_pos Q] at e ⊢;have V:O8 ⟨1,(f:Int),vz,0,op.payload⟩:=⟨by show g_ 1;unfold g_;omega,by show g_ (f:Int);unfold g_;omega,UC,rfl,d.pay⟩;unfold EG at e ⊢;refine aF ?_ ?_;simp;exact⟨g,⟨⟨d.ok.root,V⟩,I⟩,e⟩;obtain⟨a,X⟩:∃ a,t_ op ⟨1,(f:Int),vz,0,op.payload⟩ m s=a:=⟨_,rfl⟩;refine aU (⟨(8,none,di a.1)::(Wy m a.2 op f).t,(Wy m a.2 op f).o⟩) ?_ ?_ ?_;refine .cons ?_ (.cons rfl (.cons rfl (.cons rfl (.cons rfl .nil))));rw[<-X];rfl;refine .cons (.box ?_) (.cons (.box rfl) (.cons (.box rfl) .nil));rw[<-X];rfl;rw[X];unfold DK;clear M;have M:=WJ m a.2;refine aG ?_;refine aB ?_;refine aI (fun c=>?_) (fun c=>?_)
  ·have h:a.1≠0:=by simpa using c
   rw[if_pos h];refine aB ?_;refine bT ?_
   all_goals rfl
  have h:¬a.1≠0:=by simpa using c
  rw[if_neg h];refine aJ ?_;refine aB ?_;refine bT ?_
  all_goals rfl
 have Q:¬op.kind=3:=by simpa using c
 rw[if_neg Q] at e ⊢;refine aB ?_;refine aI (fun c=>?_) (fun c=>?_)
 ·have P:op.kind=4:=by simpa using c
  rw[if_pos P] at e ⊢;refine aB ?_;refine bT ?_
  all_goals rfl
 have P:¬op.kind=4:=by simpa using c
 rw[if_neg P] at e ⊢;refine aB ?_;refine aI (fun c=>?_) (fun c=>?_)
 ·have O:op.kind=5:=by simpa using c
  rw[if_pos O] at e ⊢;refine aF ?_ ?_;simp;exact⟨g,⟨⟨by omega,d.ok.root,d.ok.link,d.ok.ot,d.ok.ol⟩,I,r⟩,e⟩;refine bT ?_
  all_goals rfl
 have O:¬op.kind=5:=by simpa using c
 rw[if_neg O] at e ⊢;refine aB ?_;refine aI (fun c=>?_) (fun c=>?_)
 ·have N:op.kind=6:=by simpa using c
  rw[if_pos N] at e ⊢;refine aF ?_ ?_;simp;exact⟨g,⟨⟨by omega,d.ok.root,d.ok.link⟩,I,r⟩,e⟩;refine bT ?_
  all_goals rfl
 have N:¬op.kind=6:=by simpa using c
 rw[if_neg N] at e ⊢;refine aJ ?_;refine aF ?_ ?_;simp;exact⟨g,⟨⟨by omega,⟨d.ok.root,d.ok.link,d.ok.xt,d.ok.xl,d.ok.bn,d.ok.bc⟩⟩,I,r⟩,e⟩;refine bT ?_
 all_goals rfl
def bMx:List PV->Option (BC×Ai)
 |[.w (.agg ol)]=>match qI ol with
  |some op=>some (fun m s=>((1<=op.kind/\op.kind<=7)/\TG op)/\qp m s/\pg m s 3/\pg m s 2,fun m s=>((F_ op m s).2,.w (.agg (gm (F_ op m s).1))))|none=>none
 |_=>none
theorem bHj(m:iy)(s:h_):ai prog af 32 (dI 96 (uq m s bMx)):=
 eU (aC func32 aj rfl) (fun e C F h=>by
  unfold bMx at h;split at h;split at h;rename_i d;cases h;rw[kM d];exact fun m s a b c=>Ib _ b.1.1 b.1.2 m s a b.2 c;cases h
  cases h)
theorem XE(op:je)(h:Bc op≠0):dF op=.ret (dX (Bc op)):=by
 unfold Bc at h ⊢;unfold dF nN lJ;by_cases d:op.kind<1\/7<op.kind
 ·rw[if_pos d]
  rw[show (bif decide (op.kind>=1) then decide (op.kind<=7) else false)=false from by
   rcases d with k|k;rw[decide_eq_false a_];rfl
   ·rw[decide_eq_false (p:=op.kind<=7) a_];cases decide (op.kind>=1)<;>rfl]
  rfl
 rw[if_neg d] at h ⊢;rw[show (bif decide (op.kind>=1) then decide (op.kind<=7) else false)=true from by rw[decide_eq_true a_,decide_eq_true (p:=op.kind<=7) a_];rfl];unfold sQ;by_cases c:(op.kind=1\/op.kind=3)/\1000<op.payload.size;rw[if_pos c,if_pos c.1,decide_eq_false a_];rfl;rw[if_neg c] at h ⊢;by_cases b:op.kind=5/\(op.ol<0\/16<=op.ol\/¬op.ol.tmod 2=0\/op.ot=op.id)
 ·rw[if_pos b,if_neg a_,if_pos b.1]
  rw[show (bif bif bif decide (op.ol>=0) then decide (op.ol<16) else false then op.ol.tmod 2==0 else false then !(op.ot==op.id) else false)=false from by
   rcases b.2 with k|k|k|k;rw[decide_eq_false a_];rfl
   ·rw[decide_eq_false (p:=op.ol<16) a_];cases decide (op.ol>=0)<;>rfl
   ·rw[show (op.ol.tmod 2==0)=false from by simpa using k];cases decide (op.ol>=0)<;>cases decide (op.ol<16)<;>rfl
   ·rw[k];cases decide (op.ol>=0)<;>cases decide (op.ol<16)<;>cases op.ol.tmod 2==0<;>simp]
  rfl
 rw[if_neg b] at h ⊢;by_cases a:op.kind=7/\¬op.xt=op.id;rw[if_pos a,if_neg a_,if_neg a_,if_pos a.1];rw[show (op.xt==op.id)=false from by simpa using a.2];rfl;rw[if_neg a] at h;exact absurd rfl h
theorem bNp(op:je)(h:Bc op=0):(1<=op.kind/\op.kind<=7)/\dF op=(Ak ((ah.dn 3 16).bind fun n=>pK op n)).bind fun x=>.ret (Et dX x):=by
 unfold Bc at h;by_cases i:op.kind<1\/7<op.kind;rw[if_pos i] at h;exact absurd h jc;rw[if_neg i] at h;by_cases g:(op.kind=1\/op.kind=3)/\1000<op.payload.size;rw[if_pos g] at h;exact absurd h jc;rw[if_neg g] at h;by_cases b:op.kind=5/\(op.ol<0\/16<=op.ol\/¬op.ol.tmod 2=0\/op.ot=op.id);rw[if_pos b] at h;exact absurd h jc;rw[if_neg b] at h;by_cases f:op.kind=7/\¬op.xt=op.id;rw[if_pos f] at h;exact absurd h jc;refine⟨by omega,?_⟩;have o:sQ op=.ret ():=by unfold sQ;by_cases d:op.kind=1\/op.kind=3;rw[if_pos d,decide_eq_true a_];rfl;rw[if_neg d];by_cases a:op.kind=5;rw[if_pos a];have e:0<=op.ol:=Decidable.byContradiction fun h=>b ⟨a,.inl a_⟩;have l:op.ol<16:=Decidable.byContradiction fun h=>b ⟨a,.inr (.inl a_)⟩;have k:op.ol.tmod 2=0:=Decidable.byContradiction fun h=>b ⟨a,.inr (.inr (.inl h))⟩;have j:¬op.ot=op.id:=fun h=>b ⟨a,.inr (.inr (.inr h))⟩;rw[decide_eq_true (p:=op.ol>=0) a_,decide_eq_true l,k,show (op.ot==op.id)=false from by simpa using j];rfl;rw[if_neg a];by_cases c:op.kind=7;rw[if_pos c];have e:op.xt=op.id:=Decidable.byContradiction fun h=>f ⟨c,h⟩;rw[e,show (op.id==op.id)=true from by simp];rfl;rw[if_neg c]
 have m:nN op=(ah.dn 3 16).bind fun n=>pK op n:=by unfold nN lJ;rw[o,show (bif decide (op.kind>=1) then decide (op.kind<=7) else false)=true from by rw[decide_eq_true a_,decide_eq_true (p:=op.kind<=7) a_];rfl];rfl
 unfold dF;rw[bDt,m]
theorem Wx(op:je)(h:Bc op=0)(m:iy)(s:h_):(F_ op m s).2=(aO m (dF op) s).2/\((F_ op m s).2.stop=false->(F_ op m s).1=(aO m (dF op) s).1):=by obtain⟨a,e⟩:=bNp op h;obtain⟨c,b⟩:=X3 op a m s;rw[e,dS];exact⟨c,b⟩
def aKV:jk:=⟨[],[],List.replicate 16 0⟩
def Ef(a:List jh):iy:=⟨false,a,[]⟩
def DU:h_:=⟨0,⟨0,0,0,aH⟩,false,false,aKV⟩
theorem aBD(a:List jh)(h1:a.length<=1000000)(h2:∀ r∈a,r.bytes.size<=1000000):ru (Ef a) DU:=⟨⟨(by show 0<=1000;decide),fun l h=>(by cases h),fun l h=>(by cases h),(by show 0<=1000000;decide),fun x h=>(by cases h),rfl⟩,h1,h2,by show 0<=1000000;decide,by show 0<=1000000;decide⟩
def TS:Spec:=aZ true fun a=>match a with
 |[.w (.agg ol)]=>(match qI ol with
  |some m=>some (True,di (Bc m))|none=>none)
 |_=>none
theorem PN:ai prog af 30 TS:=by refine aW (aC func30 aj rfl) (fun c p r a d=>?_);split at a;split at a;rename_i b;cases a;rw[kM b];exact IG _;cases a;cases a
def kmX(m:iy)(s:h_):List (Nat×Spec):=[(32,dI 96 (uq m s bMx)),(30,TS),(31,bFw)]
theorem aKP(m:iy)(s:h_):jl prog af (find (kmX m s)):=⟨bD (fun p a=>by
 simp only[kmX,xn,Xq,or_false] at a;rcases a with rfl|rfl|rfl;exact bHj m s;exact PN
 exact aXp),dG⟩
theorem Uc(b:List jh)(p:ah ja):∀ i,i<=b.length->(match p.run (replay b) i with
  |.ok _ j=>j|.error _ j=>j)<=b.length:=by
 induction p with
 |ret v=>intro i h;exact h|ask a k c=>
  intro i h;simp only[ah.run,replay];cases d:b[i]? with
  |none=>exact h|some r=>exact c r (i+1) (by have:=(List.getElem?_eq_some_iff.1 d).1;omega)
def VO(a:List jh)(op:je)(s:h_):St:=⟨[(2,none,d_ (.pt 0 0 0)),(4,none,d_ (.pt 1 0 0)),(5,none,d_ (.pt 2 0 0)),(6,none,qy false),(8,none,d_ (.pt 4002 0 0))],
 [(0,none,0,.box 31 (um op)),(1,none,0,.box 37 (lT ⟨0,0,0,aH⟩)),(2,none,0,.box 40 (gm kz)),(4002,none,0,.box 96 (qo (Ef a) s))]⟩
theorem bGr(op:je)(y:TG op)(c:List jh)(h1:c.length<=1000000)(h2:∀ r∈c,r.bytes.size<=1000000):fP prog af 11 true [.w (.agg (um op)),d_ (.sl 2 c.length (AZ c))] (bIs ((dF op).run (replay c) 0)):=by
 have M:=aKP (Ef c) DU;refine bH func11 rfl rfl bK (fun A G F H=>?_);refine aB ?_;refine aB ?_;refine aG ?_;refine aB ?_;refine aI (fun g=>?_) (fun g=>?_);have h:Bc op≠0:=by simpa using g
 rw[XE op h];refine aB ?_;exact jC;have h:Bc op=0:=by simpa using g
 obtain⟨B,_⟩:=bNp op h;obtain⟨p,u⟩:=Wx op h (Ef c) DU;have d:=bKg (m:=Ef c) rfl (dF op) (s:=DU) rfl;have e:=Uc c (dF op) 0 (Nat.zero_le _);refine aJ ?_;refine aB ?_;refine bY (s':=VO c op DU) (fun I w D=>((D.aDB (b:=4002) (l':=qo (Ef c) DU) f_ (fun C E h=>h.BX (fun _ h=>h) (fun _ h=>h.BX (fun _ h=>h) (fun _ h=>h.BX (fun _ h=>h) (fun _ h=>h.BX (fun _ h=>h) (fun _ h=>h.BX (fun _ h=>h) (fun _ h=>h.BX (fun _ h=>h) (fun _ h=>h.BX (fun _ h=>h) (fun _ h=>h.BX (fun _ h=>h) (fun _ h=>h.BX (fun _=>Ii) (fun _ h=>h.BX (fun _=>Ii) (fun _ h=>h.BX (fun _ h=>h) (fun _ h=>h.BX (fun _=>Ii) (fun _ h=>h)))))))))))))).reset (kT:=[2,4,5,6,8]) (kO:=[0,1,2,4002]) f_ ay).same ?_ ?_) ?_;exact ig;exact o7
 have k:(F_ op (Ef c) DU).2.i<=1000000:=by
  rw[p];cases l:(dF op).run (replay (Ef c).log) DU.i with
  | ok a j=>
   rw[l] at d;rw[d];have:j<=c.length:=by have n:(dF op).run (replay c) 0=.ok a j:=l;rw[n] at e;exact e
   show j<=1000000;omega
  | error a j=>
   rw[l] at d;rw[d];have:j<=c.length:=by have n:(dF op).run (replay c) 0=.error a j:=l;rw[n] at e;exact e
   show j<=1000000;omega
 refine aF ?_ ?_;simp;exact⟨aBD c h1 h2,⟨⟨B,y⟩,fun h=>(by cases h),fun h=>(by cases h),fun h=>(by cases h)⟩,k⟩;obtain⟨x,q⟩:∃ x,F_ op (Ef c) DU=x:=⟨_,rfl⟩;refine aU (⟨(9,none,d_ (.pt 5003 0 0))::(VO c op x.2).t,(5003,none,0,.box 40 (gm x.1))::(VO c op x.2).o⟩) ?_ ?_ ?_;exact ig;refine .cons (.box ?_) (.cons (.box rfl) (.cons (.box rfl) (.cons (.box rfl) (.cons (.box ?_) .nil))));rw[<-q];rfl;rw[<-q];rfl;rw[q] at p u;clear q k e;obtain⟨o,s⟩:=x;dsimp only at p u ⊢;cases l:(dF op).run (replay c) 0 with
 | ok a j=>
  have f:aO (Ef c) (dF op) DU=(a,⟨j,DU.ask,false,DU.cut,DU.h⟩):=by have n:(dF op).run (replay (Ef c).log) DU.i=.ok a j:=l;rw[n] at d;exact d
  rw[f] at p u;subst p;have z:o=a:=u rfl;subst z;refine aG ?_;refine aB ?_;refine aI (fun g=>?_) (fun g=>?_);cases g;refine aJ ?_;refine aB ?_;exact jC
 | error a j=>
  have f:(aO (Ef c) (dF op) DU).2=⟨j,a,true,DU.cut,DU.h⟩:=by have n:(dF op).run (replay (Ef c).log) DU.i=.error a j:=l;rw[n] at d;exact d
  rw[f] at p;subst p;refine aG ?_;refine aB ?_;refine aI (fun g=>?_) (fun g=>?_);refine aB ?_;exact jC;cases g
def bGd:List PV->Option (Prop×PV)
 |[]=>some (True,qy true)|_=>none
theorem bAq:ai prog af 9 (aZ true bGd):=by refine aW (aC func9 aj rfl) (fun b p r a c=>?_);unfold bGd at a;split at a;cases a;exact bAp;cases a
theorem PQ{C:Ctx}{n:Nat}{f:Nat->List PC}{xs:List ag}(h:R C (.sl 2 n f) xs)(c:xU n f):R C (.sl 2 (nO n f).length (AZ (nO n f))) xs:=by
 rw[kH];cases h with
 |sl b e d=>exact .sl b e (fun i a=>by rw[<-aXt c i a];exact d i a)
def bGs:List PV->Option (Prop×PV)
 |[.w (.agg ol),.w (.one (.sl 2 n f))]=>(match qI ol with
  |some m=>some (xU n f/\TG m/\n<=1000000/\(∀ r∈nO n f,r.bytes.size<=1000000),bIs ((dF m).run (replay (nO n f)) 0))|none=>none)
 |_=>none
theorem bAw:ai prog af 11 (aZ true bGs):=by
 refine aW (aC func11 aj rfl) (fun o p r a j w b c k i=>?_);unfold bGs at a;split at a;rename_i q n f;split at a;rename_i m l;cases a;obtain⟨h,g,e,d⟩:=j
 match c,i with
 | [v1,v2],⟨k1,k2,_⟩=>
  cases k2 with
  | w k2=>cases k2 with
   |one k2=>rw[kM l] at k1;exact bGr m g (nO n f) (by rw[kH];exact e) d w b [v1,v2] k ⟨k1,.w (.one (PQ k2 h)),trivial⟩
 cases a;cases a
def msL:List (Nat×Spec):=[(9,aZ true bGd),(10,aZ true EK),(11,aZ true bGs)]
theorem msM:jl prog af (find msL):=⟨bD (fun p a=>by
 simp only[msL,xn,Xq,or_false] at a;rcases a with rfl|rfl|rfl;exact bAq;exact aQf
 exact bAw),dG⟩
def aBH(op:je)(a:List jh)(k:Nat):St:=⟨[(1,none,d_ (.sl 2 a.length (AZ a))),(2,none,d_ (.pt 0 0 0)),(5,none,qy true),(6,none,di k)],[(0,none,0,.box 31 (um op))]⟩
def aKA(a:Acc)(o:ja)(d:Bool):St:=
  ⟨
   [(5,none,qy true),(7,none,d_ (.pt 9007 0 0)),(8,none,d_ (.pt 9008 0 0)),(9,none,qy d),(10,none,d_ (.pt 10007 0 0)),(11,none,d_ (.pt 10008 0 0)),(12,none,qy d)],
   [(9007,none,0,.box 37 (lT a)),(9008,none,0,.box 40 (gm o)),(10007,none,0,.box 37 (lT a)),(10008,none,0,.box 40 (gm o))]⟩
theorem bIy(op:je)(d:yj op/\g_ op.ol/\g_ op.xl/\g_ op.bn)(b:List jh):fP prog af 3 true [.w (.agg (um op)),d_ (.sl 2 b.length (AZ b))] (qy true):=by
 have M:=msM;refine bH func3 rfl rfl bK (fun A H C F=>?_);refine aB ?_;refine aB ?_;refine aG ?_;refine aB ?_;refine aI (fun e=>?_) (fun e=>?_);refine aB ?_;exact jC;have z:op.payload.size<=1200/\op.bc.size<=1200/\b.length<=250:=by have c:(bif (bif decide ((op.payload.size:Int) > 1200) then true else decide ((op.bc.size:Int) > 1200)) then true else decide ((b.length:Int) > 250))=false:=e;by_cases y:(op.payload.size:Int) > 1200;rw[decide_eq_true y] at c;cases c;rw[decide_eq_false y] at c;by_cases u:(op.bc.size:Int) > 1200;rw[decide_eq_true u] at c;cases c;rw[decide_eq_false u] at c;have I:=of_decide_eq_false c;omega
 refine aJ ?_;refine aG ?_;refine aB ?_;refine aQ ?_;refine lV (aBH op b 0) ?_;refine fF b.length (fun k t=>t=aBH op b k/\∀ j,j<k->(b.getD j ⟨0,aH⟩).bytes.size<=300) 0 ⟨rfl,fun j n=>absurd n a_⟩ a_ (fun i t E G=>?_);obtain⟨rfl,g⟩:=E;refine aG ?_;refine aB ?_;refine aI (fun e=>?_) (fun e=>?_);have p:i<b.length:=by have c:decide ((i:Int)<(b.length:Int))=true:=e;have:=of_decide_eq_true c;omega
 refine aJ ?_;refine aG ?_;refine aQ ?_;refine aF ?_ ?_;simp;exact p;refine aI (fun e=>?_) (fun e=>?_);refine aB ?_;exact jC;have B:(b.getD i ⟨0,aH⟩).bytes.size<=300:=by have c:decide (((b.getD (i:Int).toNat ⟨0,aH⟩).bytes.size:Int) > 300)=false:=e;have:=of_decide_eq_false c;rw[Int.toNat_natCast] at this;omega
 refine aJ ?_;refine gI ?_;intro a w D;refine⟨i+1,_,by omega,by omega,⟨rfl,fun j n=>?_⟩,(D.reset (kT:=[1,2,5,6]) (kO:=[0]) f_ ay).same ?_ ?_⟩;by_cases o:j=i;rw[o];exact B;exact g j a_;exact .cons rfl (.cons rfl (.cons rfl (.cons (by rw[cO i a_]) .nil)));exact o7;have s:i=b.length:=by have c:decide ((i:Int)<(b.length:Int))=false:=e;have:=of_decide_eq_false c;omega
 rw[s] at g;have f:∀ r∈b,r.bytes.size<=300:=fun r l=>by obtain⟨j,n,rfl⟩:=List.getElem_of_mem l;have:=g j n;rwa [zG,zH n] at this
 have m:zh op:=⟨d.1.root,d.1.link,d.1.ot,d.1.xt,d.2.1,d.2.2.1,d.2.2.2,by omega,by omega⟩;refine eP ?_;change lh _ _ _ _ _;refine aF ?_ ?_;simp;exact⟨m,fun r l=>mr (f r l) jc⟩;refine aF ?_ ?_;simp;exact⟨⟨m,d.1.id,(by show op.payload.size<=5000;omega)⟩,by omega,fun r l=>mr (f r l) jc⟩;obtain⟨x,h⟩:∃ x,(dF op).run (replay (nO b.length (AZ b))) 0=x:=⟨_,rfl⟩;refine aU (aKA (UF x) (FI x) (OX x)) ?_ ?_ ?_;refine .cons rfl (.cons rfl (.cons rfl (.cons ?_ (.cons rfl (.cons rfl (.cons ?_ .nil))))));exact congrArg (fun q=>qy (OX q)) h;exact congrArg (fun q=>qy (OX q)) h;refine .cons (.box ?_) (.cons (.box ?_) (.cons (.box ?_) (.cons (.box ?_) .nil)));exact congrArg (fun q=>lT (UF q)) h;exact congrArg (fun q=>gm (FI q)) h;exact congrArg (fun q=>lT (UF q)) h;exact congrArg (fun q=>gm (FI q)) h;refine aKy M F C (outs:=?_) (s':=?_) ?_ ?_ ?_ ?_;rotate_left 2
 with_unfolding_all rfl
 kernel_rfl;simp;refine bU ?_;refine congrArg qy ?_;simp
end Pv
section
open Go.ChangeShapes Go.WideShapes Go.ChangeAt Go.RowKit Go.Joins Go.Deep
open Go.ChangeMaps (open_string shut_string)
set_option linter.unusedVariables false
theorem own:ownKnob prog.godebug=none:=by kernel_rfl
theorem laidOut:laidOutB prog=true:=by kernel_rfl
theorem gK:prog.globalNamed "bootchain/sha.constants" = some 2:=by kernel_rfl
theorem WW:(prog.globals[2]?).map (·.type)=some 269:=by kernel_rfl
theorem gH:prog.globalNamed "bootchain/sha.start" = some 0:=by kernel_rfl
theorem gHType:(prog.globals[0]?).map (·.type)=some 263:=by kernel_rfl
theorem XF:prog.cellsOf 269=64:=by kernel_rfl
theorem XG:prog.cellsOf 263=8:=by kernel_rfl
theorem aZn:prog.cellsOf 203=1:=by kernel_rfl
def Zc(l:List UInt32):List Int:=l.map fun x=>(x.toNat:Int)
theorem aCX:(Rows.laid_bootchain_sha_constants:DataW Unit)=Lib.tabData .u32 (Zc zk):=by kernel_rfl
theorem aCY:(Rows.laid_bootchain_sha_start:DataW Unit)=Lib.tabData .u32 (Zc oL):=by kernel_rfl
theorem aFn{W:ae}{a:String}{l:List UInt32}{g:Nat}(h:Lib.TabIs prog W a .u32 (Zc l))(f:prog.globalNamed a=some g):W.rangeAt g 0 (l.map w32):=by
 intro j v d;rw[Xu] at d;obtain⟨x,b,rfl⟩:=Option.map_eq_some_iff.1 d;have e:j<l.length:=by rcases Y6 j l.length with c|c;exact c;rw[GM c] at b;cases b
 have:=h.cell f j (by unfold Zc;simpa using e);rw[show (Zc l).getD j 0=(x.toNat:Int) from by unfold Zc;simp[List.getD,b]] at this;simpa[w32] using this
theorem aHy{W:ae}(h:laidMetH prog [("bootchain/sha.constants",Rows.laid_bootchain_sha_constants),("bootchain/sha.start",Rows.laid_bootchain_sha_start)] W):af W:=by
 have a:laidMet prog [("bootchain/sha.constants",Rows.laid_bootchain_sha_constants),("bootchain/sha.start",Rows.laid_bootchain_sha_start)] W:=h;have b:=laidMet.tail a;rw[aCX] at a;rw[aCY] at b
 exact⟨aFn (Lib.tabIs_of_head gK WW underlying269 underlying203 aZn XF a) gK,
  aFn (Lib.tabIs_of_head gH gHType underlying263 underlying203 aZn XG b) gH⟩
def aYj(cs:List ag):Obj->Obj
 |.cells _ t frozen=>.cells cs.toArray t frozen|o=>o
noncomputable def laidWorld (os:Os):ae:=
 { World.holding prog os ⟨#[],#[],[]⟩ with
  heap:=((World.holding prog os ⟨#[],#[],[]⟩).heap.modify 2 (aYj (zk.map w32))).modify 0 (aYj (oL.map w32)) }
section
variable {H:Type} {enc:bu×ag->H} {P:gp} {w:ae} {base:Nat} {spare:Nat->Bool} {held:Bool}
theorem bAd{t e:bu}{k:Nat}{y:Nat}{cs:List ag}{x:DataW H×List Yf}(V:P.underlying t=some (.slice e))(hk:P.cellsOf e=k)(K:0<k)(h:DataW.trod enc P w base spare held y t cs=some x) :
  ∃ (v:ag) (n:Nat) (E:Nat->List ag) (m:Nat) (Y:Nat->DataW H×List Yf),cs=[v]/\Reads w k v n ((yf n).flatMap E)/\∀ i,i<n->(E i).length=k/\DataW.trod enc P w base spare held m e (E i)=some (Y i):=by
 rcases open_slice V h with⟨rfl,_⟩|⟨a,len,cap,m,n,D,T,O,hb,Z,X,I,hx,N⟩
 exact⟨_,0,fun _=>[],0,fun _=>(.nil,[]),rfl,by simpa using Reads.nil w k,fun i N=>by omega⟩
 ·rw [hk] at N
  have g:len<=m:=by rw[I];split<;>omega
  have d:∀ i,∃ z,i<m->w.cells? base (a.add (i*k)) k=some z/\DataW.trod enc P w base spare held n e z=some (D i,T i):=fun i=>by by_cases h:i<m;obtain⟨c,hc⟩:=N i h;exact⟨c,fun _=>hc⟩;exact⟨[],fun A=>absurd A h⟩
  refine⟨_,len,fun i=>Classical.choose (d i),n,fun i=>(D i,T i),O,?_,fun i a0=>?_⟩;have o:∀ i,i<m->(Classical.choose (d i)).length=k/\∀ j,j<k->w.cell? ((a.add (i*k)).add j)=(Classical.choose (d i))[j]?:=fun i L=>by obtain⟨_,r,h3⟩:=World.cells?_some (Classical.choose_spec (d i) L).1;exact⟨r,h3⟩
  have f:∀ j,j<=m->((yf j).flatMap fun i=>Classical.choose (d i)).length=j*k:=by
   intro j
   induction j with
   |zero=>intro _;simp|succ j F=>intro hj;rw[aDR,aEO,ed,F a_];simp[(o j a_).1,aCR]
  have l:∀ j,j<=m->∀ q u,((yf j).flatMap fun i=>Classical.choose (d i))[q]?=some u->w.cell? (a.add q)=some u:=by
   intro j
   induction j with
   |zero=>intro _ q u h;simp at h| succ j F=>
    intro hj q u h;rw[aDR,aEO,List.getElem?_append] at h;rw[f j a_] at h;by_cases S:q<j*k;rw[if_pos S] at h;exact F a_ q u h;rw[if_neg S] at h;simp only[aDg,List.flatMap_nil,List.append_nil] at h
    have r:=(o j a_).2 (q-j*k) (by
     have:=(o j a_).1;rcases Y6 (q-j*k) k with A|A;exact A
     rw[GM a_] at h;cases h)
    rw[bEf,show j*k+(q-j*k)=q from by omega] at r;rw[r,h]
  refine⟨f len g,_,cap,rfl,Z,X,fun W=>?_⟩;have J:=f len g;obtain⟨B,G⟩:∃ B,((yf len).flatMap fun i=>Classical.choose (d i))[0]?=some B:=⟨_,zH (by rw[J];exact Nat.mul_pos W K)⟩;have Q:=l len g 0 B G;obtain⟨b,C,s⟩:=a;have p:s=none:=by simpa[Addr.add] using World.cell?_spot Q
  subst p;refine⟨b,C,rfl,fun j u U=>?_⟩;have:=l len g j u U;rwa [add_lit] at this;have r:=Classical.choose_spec (d i) a_;exact⟨(World.cells?_some r.1).2.1,r.2⟩
def toByte(z:Int):UInt8:=UInt8.ofNat z.toNat
theorem G_{z:Int}(h:(Lit.int .u8 z).wf=true):Value.int .u8 z=gq (toByte z):=by
 have:=bounds_u8 h;have e:((toByte z).toNat:Int)=z:=by unfold toByte;rw[UInt8.toNat_ofNat'];omega
 show Value.int .u8 z=Value.int .u8 ((toByte z).toNat:Int);rw[e]
end
end
section
open Go.ChangeShapes Go.WideShapes Go.ChangeAt Go.RowKit Go.Joins Go.Deep
section
variable {H:Type} {enc:bu×ag->H} {P:gp} {w:ae} {base:Nat} {spare:Nat->Bool} {held:Bool}
theorem aIg(cs:List ag)(h:∀ c∈cs,∃ b:UInt8,c=gq b):∃ l:List UInt8,cs=l.map gq:=by
 induction cs with
 |nil=>exact⟨[],rfl⟩|cons c cs a=>obtain⟨l,e⟩:=a fun x d=>h x (Y3 _ d);obtain⟨b,f⟩:=h c (Xv ..);exact⟨b::l,by rw[f,e];rfl⟩
theorem aKx{t e:bu}{n d:Nat}{cs:List ag}{x:DataW H×List Yf}(r:P.underlying t=some (.array n e))(y:P.underlying e=some (.int .u8))(s:P.cellsOf e=1)(hn:P.cellsOf t=n)(h:DataW.trod enc P w base spare held d t cs=some x) :
  ∃ l:List UInt8,l.length=n/\cs=l.map gq:=by
 obtain⟨B,m,_,_,f,p,k⟩:=DataW.trod_array r h;rw[hn] at f;rw[s] at k
 obtain⟨l,b⟩:=aIg cs fun c A=>by
  obtain⟨i,u,g⟩:=List.getElem_of_mem A;have o:=k i a_;rw[Nat.mul_one,List.drop_eq_getElem_cons u,List.take_succ_cons,List.take_zero,zH a_] at o;obtain⟨z,j,_,q⟩:=DataW.trod_int y o;cases a:cs[i]
  all_goals rw[a] at j
  all_goals (cases j)
  exact⟨toByte z,by rw[<-g,a];exact G_ q⟩
 exact⟨l,by rw[b] at f;simpa using f,b⟩
end
end
section
open Go.ChangeShapes Go.WideShapes Go.ChangeAt Go.RowKit Go.Joins Go.Deep
def splitBy:List Nat->List ag->List (List ag)
 |[],_=>[]|n::ns,cs=>cs.take n::splitBy ns (cs.drop n)
def uZ:Nat->List Nat->List (Nat×Nat)
 |_,[]=>[]|o,n::ns=>(o,n)::uZ (o+n) ns
theorem vS:∀ (b:List Nat) (a:List ag),a.length=b.sum->(splitBy b a).flatten=a
 |[],a,h=>by simpa[splitBy] using (List.eq_nil_of_length_eq_zero (by simpa using h)).symm|n::b,a,h=>by rw[List.sum_cons] at h;rw[splitBy,List.flatten_cons,vS b (a.drop n) (by rw[List.length_drop];omega),List.take_append_drop]
theorem aEq:∀ (b:List Nat) (d:List ag) (i o n:Nat) (c:Nat),(uZ c b)[i]?=some (c+o,n)->(splitBy b d).getD i []=(d.drop o).take n
 |[],d,i,o,n,c,h=>by simp[uZ] at h|m::b,d,0,o,n,c,h=>by
  simp only[uZ,YT,Option.some.injEq,Prod.mk.injEq] at h;obtain⟨j,f⟩:=h;obtain rfl:o=0:=by omega
  subst f;rfl
 | m :: b,d,i+1,o,n,c,h=>by
  simp only[uZ,Yv] at h
  have g:m<=o:=by
   have:∀ (b:List Nat) (a i o n:Nat),(uZ a b)[i]?=some (o,n)->a<=o:=by
    intro b
    induction b with
    |nil=>intro a i o n h;simp[uZ] at h|cons k b e=>
     intro a i o n h;cases i with
     |zero=>simp only[uZ,YT,Option.some.injEq,Prod.mk.injEq] at h;omega|succ i=>simp only[uZ,Yv] at h;have:=e _ _ _ _ h;omega
   have:=this _ _ _ _ _ h;omega
  have:=aEq b (d.drop m) i (o-m) n (c+m) (by rw[show c+m+(o-m)=c+o from by omega];exact h);show (splitBy b (d.drop m)).getD i []=_;rw[this,aAD,show m+(o-m)=o from by omega]
theorem rP{H:Type}{enc:bu×ag->H}{P:gp}{w:ae}{b:Nat}{a:Nat->Bool}{held:Bool}{t:bu}{l:Array Field}{ns:List Nat}{d:Nat}{cs:List ag}{x:DataW H×List Yf}(p:P.underlying t=some (.struct l))
  (k:l.toList.map (fun f=>(f.offset,P.cellsOf f.type))=uZ 0 ns) (hc:P.cellsOf t=ns.sum) (h:DataW.trod enc P w b a held d t cs=some x) :
  (splitBy ns cs).flatten=cs/\∀ i f,l[i]?=some f->∃ m y,DataW.trod enc P w b a held m f.type ((splitBy ns cs).getD i [])=some y:=by
 obtain⟨n,o,_,_,c,e,q⟩:=DataW.trod_struct p h;refine⟨vS ns cs (by rw[c,hc]),fun i f j=>?_⟩;have s:=q i f j;have g:i<n.length:=by rw[e];exact (Array.getElem?_eq_some_iff.1 j).1
 have r:(uZ 0 ns)[i]?=some (0+f.offset,P.cellsOf f.type):=by rw[<-k,Xu,Array.getElem?_toList,j,Nat.zero_add];rfl
 rw[aEq ns cs i f.offset _ 0 r];exact⟨o,n[i],by rw[s,zH g]⟩
theorem bBy{H:Type}{enc:bu×ag->H}{P:gp}{v:ag}{d:DataW H}{p:List Yf}{W:ae}{b:Nat}{t:bu}{e:Array Field}{ns:List Nat}(g:P.underlying t=some (.struct e))
  (c:e.toList.map (fun f=>(f.offset,P.cellsOf f.type))=uZ 0 ns) (hc:P.cellsOf t=ns.sum) (j:Value.okWide P W .any b t v) (h:DataW.Trod enc P W 0 (fun _=>true) true t v d p) :
  ∃ a:List ag,v=.agg a.toArray/\(splitBy ns a).flatten=a/\∀ i f,e[i]?=some f->∃ m y,DataW.trod enc P W 0 (fun _=>true) true m f.type ((splitBy ns a).getD i [])=some y:=by
 obtain⟨a,rfl,_⟩:=okWide_struct g j;obtain⟨m,h⟩:=h;have k:DataW.trod enc P W 0 (fun _=>true) true m t a.toList=some (d,p):=h;have:=rP g c hc k;exact⟨a.toList,by rw[Array.toArray_toList],this.1,this.2⟩
end
namespace Pv
open Go.ChangeShapes Go.WideShapes Go.ChangeAt Go.RowKit Go.Joins Go.Deep
theorem aYw{f:Type}(g:f->List ag)(n:Nat):∀ (l:List f),(∀ a∈l,(g a).length=n)->∀ (i:Nat) (c:i<l.length),((l.flatMap g).drop (i*n)).take n=g l[i]
 |[],_,i,c=>by simp at c|a::l,h,0,c=>by rw[Nat.zero_mul,List.drop_zero,aDg,List.take_append_of_le_length (by rw[h a Xv];omega),List.take_of_length_le (by rw[h a Xv];omega)];rfl|a::l,h,i+1,c=>by
  have e:i<l.length:=by simpa using c
  rw[aDg,show (i+1)*n=(g a).length+i*n by rw[h a Xv,aCR,Nat.add_comm],<-aAD,List.drop_left,aYw g n l (fun b j=>h b (Y3 _ j)) i e];rfl
def argX(w:ae):Ctx:={ w:=w,ok:=fun _=>True,env:=fun _=>none }
section
variable {H:Type} {enc:bu×ag->H} {w:ae} {base:Nat} {spare:Nat->Bool} {held:Bool}
end
section
variable {H:Type} {enc:bu×ag->H} {w:ae} {base:Nat} {spare:Nat->Bool} {held:Bool}
end
section
variable {H:Type} {enc:bu×ag->H} {v:ag} {d:DataW H} {p:List Yf} {W:ae} {base:Nat}
theorem fP.law{P:gp}{I:ae->Prop}{f:Nat}{new:Bool}{args:List PV}(h:fP P I f new args (qy true)){vs:List ag}(hI:I W)(b:oh (argX W) args vs):Calls P f vs.toArray W fun e i=>e=.returned (.bool true)/\Ext W i:=by refine (h W (fun _=>True) vs hI b).mono ?_;rintro e j ⟨a,rfl,g,c⟩;exact⟨congrArg Ending.returned c.eu,g⟩
end
end Pv
end Go.Proofs.YtndpjopifkbgiaaGreatDoor
