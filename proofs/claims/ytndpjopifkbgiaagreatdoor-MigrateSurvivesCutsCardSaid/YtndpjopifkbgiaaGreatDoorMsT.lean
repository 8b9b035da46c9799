/-.-/
import Derived.Test.YtndpjopifkbgiaaGreatDoorMsS
import Derived.Test.YtndpjopifkbgiaaGreatDoorMsR
import Derived.Test.YtndpjopifkbgiaaGreatDoorMsQ
import Derived.Test.YtndpjopifkbgiaaGreatDoorMsJ
import Derived.Test.YtndpjopifkbgiaaGreatDoorProg
import Derived.Deep.RegionLaw
import Derived.Test.YtndpjopifkbgiaaGreatDoorMsO
import Derived.Test.YtndpjopifkbgiaaGreatDoorMsP
set_option maxRecDepth 100000
set_option maxHeartbeats 4000000
namespace Go.Proofs.YtndpjopifkbgiaaGreatDoor
open Go.RowKit
namespace Pv
def TL:jl:={ zh 0 1 with payload:=strOf [115,116,97,116,101] }
theorem UV(k:Nat)(kind:Int):uz (zh k kind):=⟨rfl,rfl,rfl,rfl,by show jb 0;unfold jb;omega,by show jb 0;unfold jb;omega,by show jb 0;unfold jb;omega,by show aS.size<=10000;decide,by show aS.size<=2000;decide⟩
theorem JS:uz TL:=⟨rfl,rfl,rfl,rfl,by show jb 0;unfold jb;omega,by show jb 0;unfold jb;omega,by show jb 0;unfold jb;omega,by decide,by show aS.size<=2000;decide⟩
theorem bGo(root:List UInt8)(h:root.length=16):o6 (Bi root):=by
 refine⟨⟨by show (Ja 4).length<=1000;decide,?_,?_,?_,?_,h⟩,by show 3<(Ja 4).length;decide,by show ((Ja 4).getD 2 []).length=48;decide,by show ((Ja 4).getD 3 []).length=48;decide,by show 64<=CG.length;unfold CG;rw[List.length_replicate];decide⟩
 ·intro l hl
  have:∀ l∈Ja 4,l.length<=100000:=by decide
  exact this l hl
 ·intro l hl x hx
  have:∀ l∈Ja 4,∀ x∈l,0<=x/\x<=3:=by decide
  exact this l hl x hx
 ·show CG.length<=1000000;unfold CG;rw[List.length_replicate]
  decide
 ·intro x hx;have:x=strOf DV:=List.eq_of_mem_replicate hx;rw[this,bW];show DV.length<=1000000;unfold DV;rw[List.length_replicate]
  decide
abbrev QS:=Option jk×j_×Nat
def XY(q:QS):Bool:=bif !q.1.isSome then true else !((bG q.1).err==0)
def Ff(q:QS)(n1 n2:j_)(k:Nat):j_:=match k with
 |0=>q.2.1
 |1=>n1
 |_=>n2
def O3(k:Nat)(bad:Bool):List PC:=match k with
 |0=>[.lit (.slice none 0 0),.ow 1000 0 1 0 3,.lit (.slice none 0 0),.lit (.slice none 0 0),.ow 1001 0 1 0 3,.lit (.bool bad)]
 |k=>[.ow 12007 0 18 0 k,.ow 1000 0 1 0 3,.lit (.slice none 0 0),.lit (.slice none 0 0),.ow 1001 0 1 0 3,.lit (.bool bad)]
def bHq(H:Nat->j_):Nat->List PC:=fun i=>m_ (H i)
def flE(f:Fl):List PC:=[.sl 1 f.length (r_ f)]
def Sr(H:Nat->j_)(k i:Nat):List PC:=match Nat.blt i k with
 |true=>[.sl 1 1 (fun j=>[flE (H i).f].getD (0+j) [])]
 |false=>[.lit (.slice none 0 0)]
def bgS:Nat->List PC:=fun _=>[.lit (.slice none 0 0)]
def bgT(k:Nat):List (Nat×Option Bool×PV):=[(1,none,dn (.pt 1003 0 0)),(2,none,iy k)]
def bgO(H:Nat->j_)(k:Nat)(bad:Bool):Wr:=match k with
 |0=>[(1003,none,0,.box 57 (O3 0 bad)),(1000,none,0,.arr 100 1 3 (Sr H 0)),(1001,none,0,.arr 101 1 3 bgS)]
 |k=>[(1003,none,0,.box 57 (O3 k bad)),(12007,none,0,.arr 65 18 k (bHq H)),(1000,none,0,.arr 100 1 3 (Sr H k)),(1001,none,0,.arr 101 1 3 bgS)]
def Su(q:QS):Nat->Bool
 |0=>false
 |_=>XY q
def aFE(q:QS)(n1 n2:j_)(k:Nat):St:=⟨bgT k,bgO (Ff q n1 n2) k (Su q k)⟩
def Sm(q:QS)(n1 n2 h:j_)(k:Nat)(bad:Bool):St:=⟨(3,none,dn (.pt 5008 0 0))::bgT k,(5008,none,0,.box 65 (m_ h))::bgO (Ff q n1 n2) k bad⟩
def bgL:List (Nat×Spec):=[(14,bD true JO),(33,aLu Jj),(15,bD false bEa)]
theorem aFD:∀ p∈bgL,aj Tryz.prog a_ p.1 p.2:=by
 intro p hp;simp only[bgL,List.mem_cons,List.not_mem_nil,or_false] at hp;rcases hp with rfl|rfl|rfl
 ·exact aKz
 ·exact bDt
 ·exact aEv
theorem bgM:lm Tryz.prog a_ (find bgL):=⟨bV aFD,fK⟩
theorem wG(h:j_):∀ x∈m_ h,dG false x=true:=by
 intro x hx;simp only[m_,List.mem_cons,List.not_mem_nil,or_false] at hx
 rcases hx with rfl|rfl|rfl<;>rfl
theorem rM(H:Nat->j_)(n:Nat):∀ i,i<n->∀ x∈bHq H i,dG false x=true:=fun i _=>wG (H i)
theorem aJm(H:Nat->j_)(h:j_)(k:Nat):∀ i,i<k+1->∀ x∈qm k (bHq H) (fun i=>[m_ h][i]?.getD []) i,dG false x=true:=by
 intro i hi;unfold qm
 by_cases h1:i<k
 ·rw[if_pos h1];exact wG _
 ·rw[if_neg h1]
  obtain rfl:i=k:=by omega
  rw[Nat.sub_self];exact wG h
theorem nK(H:Nat->j_)(k n:Nat):∀ i,i<n->∀ x∈Sr H k i,dG false x=true:=fun i _=>by
 unfold Sr
 cases Nat.blt i k
 ·exact qG rfl
 ·exact qG rfl
theorem kL(n:Nat):∀ i,i<n->∀ x∈bgS i,dG false x=true:=fun _ _=>qG rfl
theorem aMl:(∀ i,i<4->∀ x∈([(PW.one (PC.lit (Value.int IntKind.i64 16))).cells,(PW.one (PC.lit (Value.int IntKind.i64 16))).cells,(PW.one (PC.lit (Value.int IntKind.i64 16))).cells,(PW.one (PC.lit (Value.int IntKind.i64 16))).cells][i]?.getD []),dG false x=true) /\
  ∀ i,i<4->[(PW.one (PC.lit (Value.int IntKind.i64 16))).cells,(PW.one (PC.lit (Value.int IntKind.i64 16))).cells,(PW.one (PC.lit (Value.int IntKind.i64 16))).cells,(PW.one (PC.lit (Value.int IntKind.i64 16))).cells][i]?.getD []=Fg i:=by
 refine⟨fun i hi=>?_,fun i hi=>?_⟩
 ·have:i=0\/i=1\/i=2\/i=3:=by omega
  rcases this with rfl|rfl|rfl|rfl<;>exact qG rfl
 ·have:i=0\/i=1\/i=2\/i=3:=by omega
  rcases this with rfl|rfl|rfl|rfl<;>rfl
def O1(q:QS)(n1 n2 h:j_)(k:Nat):St:=⟨(3,none,dn (.pt 5008 0 0))::bgT k,[(5008,none,0,.box 65 (m_ h)),(1003,none,0,.box 57 (O3 (k+1) (XY q))),(12007,none,0,.arr 65 18 (k+1) (bHq (Ff q n1 n2))),(1000,none,0,.arr 100 1 3 (Sr (Ff q n1 n2) k)),(1001,none,0,.arr 101 1 3 bgS)]⟩
def aPH(q:QS)(n1 n2 h:j_):St:=⟨(6,none,dn (.pt 9008 0 0))::(7,none,dn (.pt 9009 0 0))::(9,none,qi q.1.isSome)::(3,none,dn (.pt 5008 0 0))::bgT 0,
 (9008,none,0,.box 65 (m_ q.2.1))::(9009,none,0,.box 40 (h_ (bG q.1)))::(5008,none,0,.box 65 (m_ h))::bgO (Ff q n1 n2) 0 false⟩
def CY(H:Nat->j_)(bad:Bool):List PC:=[.sl 18 3 (fun i=>bHq H (0+i)),.sl 1 3 (fun i=>Sr H 3 (0+i)),.lit (.slice none 0 0),.lit (.slice none 0 0),.sl 1 3 (fun i=>bgS (0+i)),.lit (.bool bad)]
theorem Sl(q:QS)(n0 n1 n2:j_)(e0:Bi (bZ 0)=n0)(e1:Bi (bZ 1)=n1)(e2:Bi (bZ 2)=n2)(eq:dK [] (cO TL) n0 0=q){A:kz}(hS:A.S=Non)(hn:A.nt=Tryz.f12.ntmps)(hI:mi Tryz.prog a_ A):∃ c,Tryz.f12.body=some c/\∀ Q:Exit->Act->World->Prop,(∀ a w,o7 A ⟨[(0,none,dn (.pt 1003 0 0))],bgO (Ff q n1 n2) 3 (XY q)⟩ a w->Q .ret a w)->ja Tryz.prog A ⟨[],[]⟩ c Q:=by
 have M:=bgM
 have aMK:Tryz.prog.types[100].size=1:=by kernel_rfl
 have aMJ:Tryz.prog.types[101].size=1:=by kernel_rfl
 have aQP:Tryz.prog.types[100].bytes=24:=by kernel_rfl
 have aQO:Tryz.prog.types[101].bytes=24:=by kernel_rfl
 have b65:Tryz.prog.types[65].bytes<=1000:=Nat.le_of_ble_eq_true (by kernel_rfl)
 have s65:Tryz.prog.types[65].size=18:=by kernel_rfl
 have b63:Tryz.prog.types[63].bytes<=1000:=Nat.le_of_ble_eq_true (by kernel_rfl)
 have s63:Tryz.prog.types[63].size=1:=by kernel_rfl
 have d0:o6 n0:=by rw[<-e0];exact bGo _ rfl
 refine⟨_,rfl,fun Q hQ=>?_⟩
 refine aB M hI hn (by rfl) (by kernel_rfl) ?_ ?_
 ·simp
 refine aB M hI hn (by rfl) (by kernel_rfl) ?_ ?_
 ·simp;rw[aQP,aQO];omega
 refine aP ?_;refine aB M hI hn (by rfl) (by kernel_rfl) ?_ ?_
 ·simp
 refine aI (s':=aFE q n1 n2 0) (fun a w hg=>(hg.reset (kT:=[1,2]) (kO:=[1003,1000,1001]) (by rfl) (by simp;exact fun _ _=>rfl)).same ?_ ?_) ?_
 ·exact .cons rfl (.cons rfl .nil)
 ·refine .cons (.box ?_) (.cons (.arr rfl (fun i hi=>rfl)) (.cons (.arr rfl (fun i hi=>rfl)) .nil));rw[aMK,aMJ];rfl
 refine bP ?_;refine iY 3 (fun k t=>t=aFE q n1 n2 k) 0 rfl (by omega) (fun k t hJ hk=>?_);subst hJ
 have hkk:k=0\/k=1\/k=2\/k=3:=by omega
 rcases hkk with rfl|rfl|rfl|rfl
 ·refine aP ?_;refine aB M hI hn (by rfl) (by kernel_rfl) ?_ ?_
  ·simp
  refine aH (by rfl) (fun hc=>?_) (fun hc=>?_);rotate_left 1
  ·cases hc
  refine aO ?_;change ja _ _ _ _ _;refine aP ?_;refine bP ?_;refine aB M hI hn (by rfl) (by kernel_rfl) ?_ ?_
  ·simp;exact aMl
  refine aI (s':=Sm q n1 n2 n0 0 (Su q 0)) (fun a w hg=>(hg.reset (kT:=[3,1,2]) (kO:=[5008,1003,1000,1001]) (by rfl) (by simp;exact⟨nK _ _ _,kL _⟩)).same ?_ ?_) ?_
  ·exact .cons rfl (.cons rfl (.cons rfl .nil))
  ·refine .cons (.box ?_) (.cons (.box rfl) (.cons (.arr rfl (fun i hi=>rfl)) (.cons (.arr rfl (fun i hi=>rfl)) .nil)));rw[<-e0];rfl
  refine aP ?_;refine aB M hI hn (by rfl) (by kernel_rfl) ?_ ?_
  ·simp
  refine aH (by rfl) (fun hc=>?_) (fun hc=>?_);rotate_left 1
  ·cases hc
  refine aB M hI hn (by rfl) (by kernel_rfl) ?_ ?_
  ·simp
  refine aB M hI hn (by rfl) (by kernel_rfl) ?_ ?_
  ·simp
  refine aB M hI hn (by rfl) (by kernel_rfl) ?_ ?_
  ·simp
   exact⟨d0,JS⟩
  refine aI (s':=aPH q n1 n2 n0) (fun a w hg=>(hg.reset (kT:=[6,7,9,3,1,2]) (kO:=[9008,9009,5008,1003,1000,1001]) (by rfl) (by simp;exact⟨nK _ _ _,kL _⟩)).same ?_ ?_) ?_
  ·refine .cons rfl (.cons rfl (.cons ?_ (.cons rfl (.cons rfl (.cons rfl .nil)))));rw[<-eq];change qi (dK [] (cO TL) (⟨bF n0.b.length (bJ n0.b),iP n0.f.length (r_ n0.f),n0.r⟩:j_) 0).1.isSome=_;rw[aG,bK]
  ·refine .cons (.box ?_) (.cons (.box ?_) (.cons (.box rfl) (.cons (.box rfl) (.cons (.arr rfl (fun i hi=>rfl)) (.cons (.arr rfl (fun i hi=>rfl)) .nil)))))
   ·rw[<-eq];change m_ (dK [] (cO TL) (⟨bF n0.b.length (bJ n0.b),iP n0.f.length (r_ n0.f),n0.r⟩:j_) 0).2.1=_;rw[aG,bK]
   ·rw[<-eq];change h_ (bG (dK [] (cO TL) (⟨bF n0.b.length (bJ n0.b),iP n0.f.length (r_ n0.f),n0.r⟩:j_) 0).1)=_;rw[aG,bK]
  refine aB M hI hn (by rfl) (by kernel_rfl) ?_ ?_
  ·simp
  refine aQ M hI hn (by rfl) (by kernel_rfl) ?_ ?_
  ·simp
  change ja _ _ _ _ _;refine aI (s':=Sm q n1 n2 q.2.1 0 (XY q)) (fun a w hg=>(hg.reset (kT:=[3,1,2]) (kO:=[5008,1003,1000,1001]) (by rfl) (by simp;exact⟨nK _ _ _,kL _⟩)).same ?_ ?_) ?_
  ·exact .cons rfl (.cons rfl (.cons rfl .nil))
  ·exact .cons (.box rfl) (.cons (.box rfl) (.cons (.arr rfl (fun i hi=>rfl)) (.cons (.arr rfl (fun i hi=>rfl)) .nil)))
  refine aI (fun a w hg=>hg.D6 (x:=12007) (b:=1003) (e:=65) (n:=18) (l1:=[]) (by rfl) (by rfl)) ?_;refine aB M hI hn (by rfl) (by kernel_rfl) ?_ ?_
  ·simp;omega
  refine aI (s':=O1 q n1 n2 q.2.1 0) (fun a w hg=>(hg.reset (kT:=[3,1,2]) (kO:=[5008,1003,12007,1000,1001]) (by rfl) (by simp;exact⟨wG _,nK _ _ _,kL _⟩)).same ?_ ?_) ?_
  ·exact .cons rfl (.cons rfl (.cons rfl .nil))
  ·rw[s65];refine .cons (.box rfl) (.cons (.box rfl) (.cons (.arr rfl (fun i hi=>?_)) (.cons (.arr rfl (fun i hi=>rfl)) (.cons (.arr rfl (fun i hi=>rfl)) .nil))));have:i<0+1:=hi
   obtain rfl:i=0:=(by omega);rfl
  refine aQ M hI hn (by rfl) (by kernel_rfl) ?_ ?_
  ·simp;omega
  change ja _ _ _ _ _;refine aQ M hI hn (by rfl) (by kernel_rfl) ?_ ?_
  ·simp
  rw[s63];intro a w hg
  refine⟨0+1,_,by omega,by omega,rfl,(hg.Cj (R:=[(1000,Sr (Ff q n1 n2) (0+1))]) (kF:=[13015]) (kT:=[1,2]) (kO:=[1003,12007,1000,1001]) (.inr hS) (by rfl) ?_).same ?_ ?_⟩
  ·simp
   refine⟨wG _,fun i hi=>?_,kL _,qG rfl⟩
   have:i=0\/i=1\/i=2:=by omega
   rcases this with rfl|rfl|rfl<;>rfl
  ·exact .cons rfl (.cons rfl .nil)
  ·exact .cons (.box rfl) (.cons (.arr rfl (fun i hi=>rfl)) (.cons (.arr rfl (fun i hi=>rfl)) (.cons (.arr rfl (fun i hi=>rfl)) .nil)))
 ·refine aP ?_;refine aB M hI hn (by rfl) (by kernel_rfl) ?_ ?_
  ·simp
  refine aH (by rfl) (fun hc=>?_) (fun hc=>?_);rotate_left 1
  ·cases hc
  refine aO ?_;change ja _ _ _ _ _;refine aP ?_;refine bP ?_;refine aB M hI hn (by rfl) (by kernel_rfl) ?_ ?_
  ·simp;exact aMl
  refine aI (s':=Sm q n1 n2 n1 1 (Su q 1)) (fun a w hg=>(hg.reset (kT:=[3,1,2]) (kO:=[5008,1003,12007,1000,1001]) (by rfl) (by simp;exact⟨wG _,nK _ _ _,kL _⟩)).same ?_ ?_) ?_
  ·exact .cons rfl (.cons rfl (.cons rfl .nil))
  ·refine .cons (.box ?_) (.cons (.box rfl) (.cons (.arr rfl (fun i hi=>rfl)) (.cons (.arr rfl (fun i hi=>rfl)) (.cons (.arr rfl (fun i hi=>rfl)) .nil))));rw[<-e1];rfl
  refine aP ?_;refine aB M hI hn (by rfl) (by kernel_rfl) ?_ ?_
  ·simp
  refine aH (by rfl) (fun hc=>?_) (fun hc=>?_)
  ·cases hc
  rotate_left 1;refine aO ?_;change ja _ _ _ _ _;refine aB M hI hn (by rfl) (by kernel_rfl) ?_ ?_
  ·simp;omega
  refine aI (s':=O1 q n1 n2 n1 1) (fun a w hg=>(hg.reset (kT:=[3,1,2]) (kO:=[5008,1003,12007,1000,1001]) (by rfl) (by simp;exact⟨aJm _ _ _,nK _ _ _,kL _⟩)).same ?_ ?_) ?_
  ·exact .cons rfl (.cons rfl (.cons rfl .nil))
  ·rw[s65];refine .cons (.box rfl) (.cons (.box rfl) (.cons (.arr rfl (fun i hi=>?_)) (.cons (.arr rfl (fun i hi=>rfl)) (.cons (.arr rfl (fun i hi=>rfl)) .nil))));have:i<1+1:=hi
   (have:i=0\/i=1:=by omega);rcases this with rfl|rfl<;>rfl
  refine aQ M hI hn (by rfl) (by kernel_rfl) ?_ ?_
  ·simp;omega
  change ja _ _ _ _ _;refine aQ M hI hn (by rfl) (by kernel_rfl) ?_ ?_
  ·simp
  rw[s63];intro a w hg
  refine⟨1+1,_,by omega,by omega,rfl,(hg.Cj (R:=[(1000,Sr (Ff q n1 n2) (1+1))]) (kF:=[13015]) (kT:=[1,2]) (kO:=[1003,12007,1000,1001]) (.inr hS) (by rfl) ?_).same ?_ ?_⟩
  ·simp
   refine⟨rM _ _,fun i hi=>?_,kL _,qG rfl⟩
   have:i=0\/i=1\/i=2:=by omega
   rcases this with rfl|rfl|rfl<;>rfl
  ·exact .cons rfl (.cons rfl .nil)
  ·exact .cons (.box rfl) (.cons (.arr rfl (fun i hi=>rfl)) (.cons (.arr rfl (fun i hi=>rfl)) (.cons (.arr rfl (fun i hi=>rfl)) .nil)))
 ·refine aP ?_;refine aB M hI hn (by rfl) (by kernel_rfl) ?_ ?_
  ·simp
  refine aH (by rfl) (fun hc=>?_) (fun hc=>?_);rotate_left 1
  ·cases hc
  refine aO ?_;change ja _ _ _ _ _;refine aP ?_;refine bP ?_;refine aB M hI hn (by rfl) (by kernel_rfl) ?_ ?_
  ·simp;exact aMl
  refine aI (s':=Sm q n1 n2 n2 2 (Su q 2)) (fun a w hg=>(hg.reset (kT:=[3,1,2]) (kO:=[5008,1003,12007,1000,1001]) (by rfl) (by simp;exact⟨rM _ _,nK _ _ _,kL _⟩)).same ?_ ?_) ?_
  ·exact .cons rfl (.cons rfl (.cons rfl .nil))
  ·refine .cons (.box ?_) (.cons (.box rfl) (.cons (.arr rfl (fun i hi=>rfl)) (.cons (.arr rfl (fun i hi=>rfl)) (.cons (.arr rfl (fun i hi=>rfl)) .nil))));rw[<-e2];rfl
  refine aP ?_;refine aB M hI hn (by rfl) (by kernel_rfl) ?_ ?_
  ·simp
  refine aH (by rfl) (fun hc=>?_) (fun hc=>?_)
  ·cases hc
  rotate_left 1;refine aO ?_;change ja _ _ _ _ _;refine aB M hI hn (by rfl) (by kernel_rfl) ?_ ?_
  ·simp;omega
  refine aI (s':=O1 q n1 n2 n2 2) (fun a w hg=>(hg.reset (kT:=[3,1,2]) (kO:=[5008,1003,12007,1000,1001]) (by rfl) (by simp;exact⟨aJm _ _ _,nK _ _ _,kL _⟩)).same ?_ ?_) ?_
  ·exact .cons rfl (.cons rfl (.cons rfl .nil))
  ·rw[s65];refine .cons (.box rfl) (.cons (.box rfl) (.cons (.arr rfl (fun i hi=>?_)) (.cons (.arr rfl (fun i hi=>rfl)) (.cons (.arr rfl (fun i hi=>rfl)) .nil))));have:i<2+1:=hi
   (have:i=0\/i=1\/i=2:=by omega);rcases this with rfl|rfl|rfl<;>rfl
  refine aQ M hI hn (by rfl) (by kernel_rfl) ?_ ?_
  ·simp;omega
  change ja _ _ _ _ _;refine aQ M hI hn (by rfl) (by kernel_rfl) ?_ ?_
  ·simp
  rw[s63];intro a w hg
  refine⟨2+1,_,by omega,by omega,rfl,(hg.Cj (R:=[(1000,Sr (Ff q n1 n2) (2+1))]) (kF:=[13015]) (kT:=[1,2]) (kO:=[1003,12007,1000,1001]) (.inr hS) (by rfl) ?_).same ?_ ?_⟩
  ·simp
   refine⟨rM _ _,fun i hi=>?_,kL _,qG rfl⟩
   have:i=0\/i=1\/i=2:=by omega
   rcases this with rfl|rfl|rfl<;>rfl
  ·exact .cons rfl (.cons rfl .nil)
  ·exact .cons (.box rfl) (.cons (.arr rfl (fun i hi=>rfl)) (.cons (.arr rfl (fun i hi=>rfl)) (.cons (.arr rfl (fun i hi=>rfl)) .nil)))
 ·refine aP ?_;refine aB M hI hn (by rfl) (by kernel_rfl) ?_ ?_
  ·simp
  refine aH (by rfl) (fun hc=>?_) (fun hc=>?_)
  ·cases hc
  refine iM ?_;change ja _ _ _ _ _;refine aB M hI hn (by rfl) (by kernel_rfl) ?_ ?_
  ·simp
  refine aK (fun a w hg=>hQ a w ((hg.reset (kT:=[0]) (kO:=[1003,12007,1000,1001]) (by rfl) (by simp;exact⟨rM _ _,nK _ _ _,kL _⟩)).same ?_ ?_))
  ·exact .cons rfl .nil
  ·exact .cons (.box rfl) (.cons (.arr rfl (fun i hi=>rfl)) (.cons (.arr rfl (fun i hi=>rfl)) (.cons (.arr rfl (fun i hi=>rfl)) .nil)))
theorem O0(q:QS)(n0 n1 n2:j_)(e0:Bi (bZ 0)=n0)(e1:Bi (bZ 1)=n1)(e2:Bi (bZ 2)=n2)(eq:dK [] (cO TL) n0 0=q):Xd Tryz.prog a_ 12 57 (CY (Ff q n1 n2) (XY q)):=by
 have hbd:∃ c,Tryz.f12.body=some c:=⟨_,rfl⟩;obtain⟨c,hc⟩:=hbd;refine bFm Tryz.func12 hc bU (fun A hS hn hI=>?_);obtain⟨c',hc',hT⟩:=Sl q n0 n1 n2 e0 e1 e2 eq hS hn hI
 obtain rfl:c'=c:=Option.some.inj (hc'.symm.trans hc)
 refine hT _ (fun a w hg=>⟨.inr rfl,_,1003,?_,?_,?_,?_,?_,rfl,?_,?_,(hg.Iy (kF:=[12007,1000,1001]) (kT:=[0]) (kO:=[1003]) (.inr hS) (by rfl) ?_)⟩);rotate_left 1
 ·rfl
 ·simp
 ·rfl
 ·rfl
 ·rfl
 ·rfl
 ·simp
  exact⟨rM _ _,nK _ _ _,kL _⟩
end Pv
structure BZ(w:World)(Ew:List Value)(g_:List (List Int)):Prop where
 len:Ew.length=g_.length
 each:∀ (k:Nat) (bv:Value) (l:List Int),Ew[k]?=some bv->g_[k]?=some l->Reads w 1 bv l.length (l.map (Value.int .u8))
structure pz(w:World)(fv:Value)(g_:List (List Int)):Prop where
 ex:∃ Ew,Reads w 1 fv g_.length Ew/\BZ w Ew g_
theorem BZ.ext{w w':World}{Ew:List Value}{g_:List (List Int)}(h:BZ w Ew g_)(hc:Ext w w'):BZ w' Ew g_:=⟨h.len,fun k bv l h1 h2=>(h.each k bv l h1 h2).ext hc⟩
theorem pz.ext{w w':World}{fv:Value}{g_:List (List Int)}(h:pz w fv g_)(hc:Ext w w'):pz w' fv g_:=by
 obtain⟨Ew,h1,h2⟩:=h.ex
 exact⟨Ew,h1.ext hc,h2.ext hc⟩
theorem pz.at_{w:World}{fv:Value}{g_:List (List Int)}(h:pz w fv g_){k:Nat}(hk:k<g_.length) :
  ∃ b o c bv,fv=.slice (some ⟨b,o,none⟩) g_.length c/\b<w.heap.size/\w.cell? ⟨b,o+k,none⟩=some bv/\Reads w 1 bv g_[k].length (g_[k].map (Value.int .u8)):=by
 obtain⟨Ew,h1,h2⟩:=h.ex;obtain⟨b,o,c,u,e1,_,_,e4,e5,e6⟩:=h1.DN hk
 exact⟨b,o,c,u,e1,e4,e6,h2.each k u g_[k] e5 (zH hk)⟩
theorem aZi(fv:Value)(g_:List (List Int))(ay cell:Nat)(w:World)(h:pz w fv g_)(hb:ay<g_.length)(hc:cell<g_[ay].length) :
  Calls Tryz.prog 97 #[.agg #[fv],.int .i64 (ay:Int),.int .i64 (cell:Int)] w fun e w'=>e=.returned (.bool true)/\Ext w w':=by
 obtain⟨b,o,c,bv,rfl,hbw,hcell,hr⟩:=h.at_ hb
 have hm1:g_.length<=maxLen:=by
  obtain⟨Ew,h1,_⟩:=h.ex;exact h1.yu
 have hm2:=hr.yu;obtain⟨_,A,c2,rfl,_⟩:=hr;unfold maxLen at hm1 hm2;generalize g_[ay].length=m at *;clear h
 go_enter Tryz.func97,Tryz.ntmps97
 go_wp2
 go_ret
 refine⟨rfl,?_⟩
 repeat' (first|(with_reducible exact dm.refl _ _)|(with_reducible exact Ext.refl _)|(with_reducible assumption)|(with_reducible refine dm.alloc ?_ _)|(with_reducible refine dm.drew ?_)|(with_reducible refine dm.drewN ?_ _)|(with_reducible refine dm.setCell ?_ ?_ _)|(with_reducible refine Ext.alloc ?_ _)|(with_reducible refine Ext.drew ?_)|(with_reducible refine Ext.drewN ?_ _)|(with_reducible refine Ext.setCell ?_ ?_ _)|(simp;done)|(simp;omega)|omega)
theorem aFn(fv:Value)(g_:List (List Int))(ay cell:Nat)(iw:Bool)(w:World)(h:pz w fv g_)(hb:ay<g_.length)(hc:cell<g_[ay].length) :
  Calls Tryz.prog 72 #[.agg #[fv],.int .i64 (ay:Int),.int .i64 (cell:Int),.bool iw] w fun e w'=>e=.returned (.tuple #[.int .i64 (fV g_[ay][cell] iw),.int .i64 0])/\Ext w w':=by
 have HF:=hide h;obtain⟨b,o,c,bv,rfl,hbw,hcell,hr⟩:=h.at_ hb
 have hm1:g_.length<=maxLen:=by
  obtain⟨Ew,h1,_⟩:=h.ex;exact h1.yu
 have hm2:=hr.yu;obtain⟨b2,o2,c2,u,rfl,_,_,hb2,hu,hcell2⟩:=hr.DN hc;rw[List.getElem?_map,zH hc] at hu;cases hu;unfold maxLen at hm1 hm2;clear h
 have hq:∀ x:Int,fV x iw=if x=2 then 1 else if x=1 then (if iw=true then 1 else 0) else 0:=by
  intro x;unfold fV;by_cases h1:x=2<;>by_cases h2:x=1<;>cases iw<;>simp_all
 have HQ:=hide (hq g_[ay][cell]);have HE:=hide (aZi _ g_ ay cell (w.alloc (.cells #[.slice (some ⟨b,o,none⟩) g_.length c] 60)) ((aA HF).ext (dm.alloc (Ext.refl _) _)) hb hc);clear hq hr;generalize g_[ay][cell]=x at *;have hlt:cell<g_[ay].length:=hc;clear hc;generalize g_[ay].length=m at *
 go_enter Tryz.func72,Tryz.ntmps72
 go_wp2_with fail
 refine (aA HE).mono ?_;rintro e w1 ⟨rfl,hE⟩;have hcr:=hE.rules;simp only[World.size_alloc] at hcr;have hsz:=hE.size';simp only[World.size_alloc] at hsz;have HEE:=hide hE;clear hE;have hfin:Hid (Ext w w1):=hide ((dm.alloc (Ext.refl _) _).trans (aA HEE))
 by_cases h2:x=2
 ·have e1:(x==2)=true:=by simp[h2]
  have HX:=hide h2;clear h2
  go_wp2
  go_ret2
  exact⟨aCo (by rw[aA HQ,if_pos (aA HX)]),aA hfin⟩
 ·by_cases h1:x=1
  ·have e1:(x==2)=false:=by simp[h2]
   have e2:(x==1)=true:=by simp[h1]
   have HX:=hide h2;have HY:=hide h1;clear h2 h1
   cases iw with
   |true=>
    go_wp2
    go_ret2
    exact⟨aCo (by rw[aA HQ,if_neg (aA HX),if_pos (aA HY)];rfl),aA hfin⟩
   |false=>
    go_wp2
    go_ret2
    exact⟨aCo (by rw[aA HQ,if_neg (aA HX),if_pos (aA HY)];rfl),aA hfin⟩
  ·have e1:(x==2)=false:=by simp[h2]
   have e2:(x==1)=false:=by simp[h1]
   have HX:=hide h2;have HY:=hide h1;clear h2 h1
   go_wp2
   go_ret2
   exact⟨aCo (by rw[aA HQ,if_neg (aA HX),if_neg (aA HY)]),aA hfin⟩
namespace Pv
theorem bAd{C:Ctx}{k:Nat}{g:Nat->List PC}{bv:Value}(h:R C (.sl 1 k g) [bv])(hg:∀ j,j<k->bEv (g j)=true):Reads C.w 1 bv ((List.range k).map fun j=>Aq (g j)).length (((List.range k).map fun j=>Aq (g j)).map (Value.int .u8)):=by
 cases h with
 | sl hr hb he=>
  rename_i vs
  have:vs=((List.range k).map fun j=>Aq (g j)).flatMap fun z=>[Value.int .u8 z]:=by
   refine aSz (fun z=>[Value.int .u8 z]) 1 _ vs (fun a _=>rfl) (by simpa using hr.1) (fun i hi=>?_)
   have hi':i<k:=by simpa using hi
   have h1:=he i hi';rw[aLm (hg i hi')] at h1;rw[List.getElem_map,List.getElem_range];generalize (vs.drop (i*1)).take 1=xs at h1 ⊢
   cases h1 with
   |cons k1 h1=>cases h1;cases k1;rfl
  rw[List.length_map,List.length_range]
  have e:(((List.range k).map fun j=>Aq (g j)).map (Value.int .u8))=vs:=by
   rw[this];generalize (List.range k).map (fun j=>Aq (g j))=l
   induction l with
   |nil=>rfl
   |cons a l ih=>rw[List.map_cons,List.flatMap_cons,ih];rfl
  rw[e];exact hr
theorem Lr{C:Ctx}{n:Nat}{f:Nat->List PC}{fv:Value}(h:R C (.sl 1 n f) [fv])(hf:pV n f):pz C.w fv (bF n f):=by
 cases h with
 | sl hr hb he=>
  rename_i vs
  refine⟨vs,by rw[dR];exact hr,⟨by rw[dR];simpa using hr.1,fun k bv l h1 h2=>?_⟩⟩
  have hk:k<n:=by
   have:=(List.getElem?_eq_some_iff.1 h2).1;rwa [dR] at this
  have h3:=he k hk;have h4:=hf k hk
  have e1:(vs.drop (k*1)).take 1=[bv]:=by
   rw[Nat.mul_one];have hv:k<vs.length:=(List.getElem?_eq_some_iff.1 h1).1;rw[List.drop_eq_getElem_cons hv]
   have:vs[k]=bv:=by rw[zH hv] at h1;exact Option.some.inj h1
   rw[this];rfl
  rw[e1] at h3
  have e2:l=ER (f k):=by
   unfold bF at h2;rw[List.getElem?_map,List.getElem?_range hk] at h2;exact (Option.some.inj h2).symm
  rw[e2];clear e2 h2 h1 e1;generalize f k=c at h3 h4 ⊢;unfold bIm at h4
  split at h4
  ·rename_i kk g
   have h5:R C.cold (.sl 1 kk g) [bv]:=by
    have:=h3.single;exact this
   exact bAd (C:=C.cold) h5 h4
  ·exact h4.elim

end Pv
theorem bAx(fv:Value)(g_:List (List Int))(ay:Nat)(w:World)(h:pz w fv g_)(hb:ay<g_.length) :
  Calls Tryz.prog 71 #[.agg #[fv],.int .i64 (ay:Int)] w fun e w'=>e=.returned (.int .i64 ((g_[ay].length / 3:Nat):Int))/\Ext w w':=by
 obtain⟨b,o,c,bv,rfl,hbw,hcell,hr⟩:=h.at_ hb
 have hm1:g_.length<=maxLen:=by
  obtain⟨Ew,h1,_⟩:=h.ex;exact h1.yu
 have hm2:=hr.yu;unfold maxLen at hm1 hm2;obtain⟨_,B,c2,rfl,_,_,_⟩:=hr
 have h1:decide ((g_.length:Int)<=(ay:Int))=false:=by simp;omega
 have h2:decide ((g_.length)<=(ay))=false:=by simp;omega
 have h3:(ay:Int)<(g_.length:Int):=by omega
 clear h
 go_enter Tryz.func71,Tryz.ntmps71
 go_wp2
 go_ret
 exact⟨rW (by omega),by
  repeat' (first|(with_reducible exact dm.refl _ _)|(with_reducible exact Ext.refl _)|(with_reducible assumption)|(with_reducible refine dm.alloc ?_ _)|(with_reducible refine dm.drew ?_)|(with_reducible refine dm.drewN ?_ _)|(with_reducible refine dm.setCell ?_ ?_ _)|(with_reducible refine Ext.alloc ?_ _)|(with_reducible refine Ext.drew ?_)|(with_reducible refine Ext.drewN ?_ _)|(with_reducible refine Ext.setCell ?_ ?_ _)|(simp;done)|(simp;omega)|omega)
  ⟩
theorem aOf(fv:Value)(g_:List (List Int))(ay:Nat)(iw:Bool)(w:World)(h:pz w fv g_)(hb:ay<g_.length)(hn:g_[ay].length<=100000) :
  Calls Tryz.prog 42 #[.agg #[fv],.int .i64 (ay:Int),.bool iw] w fun e w'=>e=.returned (.int .i64 (kC g_[ay] iw))/\Ext w w':=by
 have HF:=hide h;obtain⟨_,⟨_,A,c,rfl,_⟩,_⟩:=h.ex;clear h;have HN:=hide (rfl:g_[ay].length / 3=g_[ay].length / 3);generalize hm:g_[ay].length / 3=m at HN
 have hm2:m<=100000:=by omega
 have HM:=hide hm
 go_enter Tryz.func42,Tryz.ntmps42
 go_wp2_with fail
 refine (bAx _ g_ ay _ ((aA HF).ext ((Ext.refl w).alloc _)) hb).mono ?_;rintro e w1 ⟨rfl,hE⟩;rw[hm];have HB:=hide (And.intro ((au.new w 60 #[.slice A g_.length c]).ext hE) (((Ext.refl w).alloc _).trans hE));clear hE hm
 go_wp2
 go_loopw [8] (fun i wr=>∃ k:Nat,k<=m/\i=.int .i64 k/\Ext w1 wr/\vF g_[ay] iw (m-k) k=kC g_[ay] iw) (fun i _=>m-(intOf i).toNat)
 case atStart=>exact⟨0,Nat.zero_le _,rfl,Ext.refl _,by rw[Nat.sub_zero,<-aA HM];rfl⟩
 case round=>
  obtain⟨k,hk,rfl,hE,hL⟩:=hrel;have HE:=hide (And.intro hE hL);clear hE hL
  by_cases hlt:k<m
  ·have hlen:=aA HM
   have b0:3*k<g_[ay].length:=by omega
   have b1:3*k+1<g_[ay].length:=by omega
   have b2:3*k+2<g_[ay].length:=by omega
   have HX:=hide (show Xg g_[ay] iw k=decide (2<=fV g_[ay][3*k] iw+fV g_[ay][3*k+1] iw+fV g_[ay][3*k+2] iw) from by unfold Xg;rw[getD_at b0,getD_at b1,getD_at b2]);have c0:=aFn (.slice A g_.length c) g_ ay (3*k) iw;have c1:=aFn (.slice A g_.length c) g_ ay (3*k+1) iw;have c2:=aFn (.slice A g_.length c) g_ ay (3*k+2) iw;have g0:=aAw g_[ay][3*k] iw;have g1:=aAw g_[ay][3*k+1] iw;have g2:=aAw g_[ay][3*k+2] iw;have C0:=hide fun w hF=>c0 w hF hb b0;have C1:=hide fun w hF=>c1 w hF hb b1;have C2:=hide fun w hF=>c2 w hF hb b2;generalize fV g_[ay][3*k] iw=x0 at *;generalize fV g_[ay][3*k+1] iw=x1 at *;generalize fV g_[ay][3*k+2] iw=x2 at *;clear c0 c1 c2 b0 b1 b2 hlen;obtain⟨q0,qf,ql⟩:=((aA HB).1.ext (aA HE).1).EP
   have i0:IntKind.i64.wrap (3*(k:Int))=((3*k:Nat):Int):=by rw[IntWalk.i64_in _ (by omega)];omega
   go_wp2_with fail
   refine (aA C0 _ ((aA HF).ext ((aA HB).2.trans (aA HE).1))).mono ?_;rintro e wa ⟨rfl,hEa⟩;have HEa:=hide ((aA HE).1.trans hEa);clear hEa q0 qf ql;obtain⟨q0,qf,ql⟩:=((aA HB).1.ext (aA HEa)).EP
   have i1:IntKind.i64.wrap (((3*k:Nat):Int)+1)=((3*k+1:Nat):Int):=by rw[IntWalk.i64_in _ (by omega)];omega
   have i2:IntKind.i64.wrap (((3*k:Nat):Int)+2)=((3*k+2:Nat):Int):=by rw[IntWalk.i64_in _ (by omega)];omega
   go_wp2_with fail
   refine (aA C1 _ ((aA HF).ext ((aA HB).2.trans (aA HEa)))).mono ?_;rintro e wb ⟨rfl,hEb⟩;have HEb:=hide ((aA HEa).trans hEb);clear hEb q0 qf ql HEa;obtain⟨q0,qf,ql⟩:=((aA HB).1.ext (aA HEb)).EP
   go_wp2_with fail
   refine (aA C2 _ ((aA HF).ext ((aA HB).2.trans (aA HEb)))).mono ?_;rintro e wc ⟨rfl,hEc⟩;have TN:=hide ((aA HEb).trans hEc);clear hEc q0 qf ql HEb i0 i1 i2
   by_cases hx:x0+x1+x2<2
   ·go_wp2
    go_ret
    have hb:Xg g_[ay] iw k=false:=by rw[aA HX];simpa using hx
    have hl:=(aA HE).2;obtain⟨r,hr⟩:∃ r,m-k=r+1:=⟨m-k-1,by omega⟩;rw[hr,aYv hb] at hl
    exact⟨rW (by rw[hl]),(aA HB).2.trans (aA TN)⟩
   ·have hx':decide (x0+x1+x2<2)=false:=by simpa using hx
    have hb:Hid (Xg g_[ay] iw k=true):=hide (by rw[aA HX];simp;omega)
    go_wp2
    go_roundw
    case rel=>
     have hl:=(aA HE).2;obtain⟨r,hr⟩:∃ r,m-k=r+1:=⟨m-k-1,by omega⟩;rw[hr,aSv (aA hb)] at hl
     exact⟨k+1,by omega,by go_num,aA TN,by rw[show m-(k+1)=r from by omega];exact hl⟩
    case measure=>simp[intOf];omega
  ·obtain rfl:k=m:=by omega
   go_wp2
   go_ret
   have hl:=(aA HE).2;rw[Nat.sub_self] at hl
   exact⟨rW (by rw[<-hl];rfl),(aA HB).2.trans (aA HE).1⟩
theorem bEs(fv:Value)(g_:List (List Int))(ay:Nat)(w:World)(h:pz w fv g_)(hb:ay<g_.length)(hn:g_[ay].length<=100000) :
  Calls Tryz.prog 27 #[.agg #[fv],.int .i64 (ay:Int)] w fun e w'=>e=.returned (.int .i64 (kC g_[ay] false))/\Ext w w':=by
 have HF:=hide h;obtain⟨_,⟨_,A,c,rfl,_⟩,_⟩:=h.ex;clear h
 go_enter Tryz.func27,Tryz.ntmps27
 go_wp2_with fail
 refine (aOf _ g_ ay false _ ((aA HF).ext ((Ext.refl w).alloc _)) hb hn).mono ?_;rintro e w1 ⟨rfl,hE⟩;have HE:=hide hE;clear hE
 go_wp2
 go_ret
 exact⟨rfl,((Ext.refl w).alloc _).trans (aA HE)⟩
namespace Pv
def aSx:List PV->Option (Prop×PV)
 |[.w (.agg [.sl 1 n f]),.w (.one (.lit (.int .i64 3)))]=>some (pV n f/\3<n/\((bF n f).getD 3 []).length<=100000,iy (kC ((bF n f).getD 3 []) false))
 |_=>none
theorem aSw:aj Tryz.prog a_ 27 (bD true aSx):=by
 refine bC (aF Tryz.func27 (by kernel_rfl) rfl) (fun xs p r hg hp w ok0 vs hI hv=>?_);unfold aSx at hg
 split at hg
 ·rename_i n f;cases hg;obtain⟨h1,h2,h3⟩:=hp
  match vs,hv with
  | [v1,v2],⟨k1,k2,_⟩=>
   obtain rfl:=k2.dw
   cases k1 with
   | w k1=>cases k1 with
    | @agg _ cs k1=>
     obtain⟨cs⟩:=cs;dsimp only at k1
     cases k1 with
     | cons a1 k1=>
      cases k1
      cases a1 with
      |sl b1 b2 b3=>
       have hF:=Lr (.sl b1 b2 b3) h1
       have hb:3<(bF n f).length:=by rw[dR];exact h2
       have e:(bF n f).getD 3 []=(bF n f)[3]:=by rw[zG,zH hb];rfl
       rw[e] at h3 ⊢;refine (bEs _ (bF n f) 3 w hF hb h3).mono ?_;rintro e w' ⟨rfl,hE⟩
       exact⟨_,rfl,hE,.w (.one (.lit rfl))⟩
 ·cases hg
def TU:List UInt8:=[115,116,97,116,101]
def Aw(o:jk):jl:={ zh 0 5 with ot:=o.ot,ol:=o.ol }
def zl(o:jk):jl:={ zh 1 7 with xt:=o.xt,xl:=o.xl,bn:=o.bn,bc:=o.bc,bt:=o.bt }
def op0:jl:=⟨0,yh,yh,yh,aS,yh,0,yh,0,0,aS,yh⟩
theorem XR(b:ByteArray)(n:Nat):∀ i r,b.size-i=n->ByteArray.toList.loop b i r=r.reverse++b.data.toList.drop i:=by
 induction n with
 |zero=>
  intro i r h
  rw[ByteArray.toList.loop,if_neg (by omega),List.drop_eq_nil_of_le (by show b.data.toList.length<=i;have:b.data.toList.length=b.size:=rfl;omega),List.append_nil]
 | succ n ih=>
  intro i r h
  have hi:i<b.data.toList.length:=by show i<b.size;omega
  rw[ByteArray.toList.loop,if_pos (by omega),ih (i+1) _ (by omega),List.reverse_cons,List.append_assoc,List.drop_eq_getElem_cons hi];congr 1
  show[b.get! i]++_=_
  have:b.get! i=b.data.toList[i]:=by
   show b.data[i]! = _;rw[getElem!_pos b.data i hi,Array.getElem_toList]
  rw[this];rfl
theorem vS(b:ByteArray):b.toList=b.data.toList:=by
 unfold ByteArray.toList;rw[XR b b.size 0 [] rfl];rfl
theorem aWu{h:j_}(d:o6 h):(h.b[3]?.getD []).length<=100000:=by
 have:=d.l3;rw[zG] at this;omega
theorem VL:uz op0:=⟨rfl,rfl,rfl,rfl,by show jb 0;unfold jb;omega,by show jb 0;unfold jb;omega,by show jb 0;unfold jb;omega,by show aS.size<=10000;decide,by show aS.size<=2000;decide⟩
def aMG(H:Nat->j_)(_ _ _ _ _ _ _ _:QS):St:=⟨[(1,none,dn (.pt 1000 0 0))],[(1000,none,0,.box 57 (CY H false))]⟩
def aMF(H:Nat->j_)(q1 _ _ _ _ _ _ _:QS):St:=⟨[(3,none,dn (.pt 2012 0 0)),(1,none,dn (.pt 1000 0 0))],[(2012,none,0,.box 40 (h_ (bG q1.1))),(1000,none,0,.box 57 (CY H false))]⟩
def aME(H:Nat->j_)(q1 _ _ _ _ _ _ _:QS):St:=⟨[(4,none,dn (.pt 3001 0 0)),(3,none,dn (.pt 2012 0 0)),(1,none,dn (.pt 1000 0 0))],[(3001,none,0,.box 31 (zo (Aw (bG q1.1)))),(2012,none,0,.box 40 (h_ (bG q1.1))),(1000,none,0,.box 57 (CY H false))]⟩
def aMD(H:Nat->j_)(q1 q2 _ _ _ _ _ _:QS):St:=⟨[(6,none,dn (.pt 5012 0 0)),(5,none,dn (.pt 5011 0 0)),(3,none,dn (.pt 2012 0 0)),(1,none,dn (.pt 1000 0 0))],[(5012,none,0,.box 40 (h_ (bG q2.1))),(5011,none,0,.box 65 (m_ q2.2.1)),(2012,none,0,.box 40 (h_ (bG q1.1))),(1000,none,0,.box 57 (CY H false))]⟩
def aMC(H:Nat->j_)(q1 q2 q3 _ _ _ _ _:QS):St:=⟨[(8,none,dn (.pt 6007 0 0)),(6,none,dn (.pt 5012 0 0)),(5,none,dn (.pt 5011 0 0)),(3,none,dn (.pt 2012 0 0)),(1,none,dn (.pt 1000 0 0))],[(6007,none,0,.box 40 (h_ (bG q3.1))),(5012,none,0,.box 40 (h_ (bG q2.1))),(5011,none,0,.box 65 (m_ q2.2.1)),(2012,none,0,.box 40 (h_ (bG q1.1))),(1000,none,0,.box 57 (CY H false))]⟩
def aMB(H:Nat->j_)(q1 q2 q3 _ _ _ _ _:QS):St:=⟨[(9,none,dn (.pt 7001 0 0)),(8,none,dn (.pt 6007 0 0)),(6,none,dn (.pt 5012 0 0)),(5,none,dn (.pt 5011 0 0)),(3,none,dn (.pt 2012 0 0)),(1,none,dn (.pt 1000 0 0))],[(7001,none,0,.box 31 (zo (zl (bG q2.1)))),(6007,none,0,.box 40 (h_ (bG q3.1))),(5012,none,0,.box 40 (h_ (bG q2.1))),(5011,none,0,.box 65 (m_ q2.2.1)),(2012,none,0,.box 40 (h_ (bG q1.1))),(1000,none,0,.box 57 (CY H false))]⟩
def aMA(H:Nat->j_)(q1 q2 q3 q4 _ _ _ _:QS):St:=⟨[(11,none,dn (.pt 9012 0 0)),(10,none,dn (.pt 9011 0 0)),(9,none,dn (.pt 7001 0 0)),(8,none,dn (.pt 6007 0 0)),(6,none,dn (.pt 5012 0 0)),(5,none,dn (.pt 5011 0 0)),(3,none,dn (.pt 2012 0 0)),(1,none,dn (.pt 1000 0 0))],[(9012,none,0,.box 40 (h_ (bG q4.1))),(9011,none,0,.box 65 (m_ q4.2.1)),(7001,none,0,.box 31 (zo (zl (bG q2.1)))),(6007,none,0,.box 40 (h_ (bG q3.1))),(5012,none,0,.box 40 (h_ (bG q2.1))),(5011,none,0,.box 65 (m_ q2.2.1)),(2012,none,0,.box 40 (h_ (bG q1.1))),(1000,none,0,.box 57 (CY H false))]⟩
def aBQ(H:Nat->j_)(q1 q2 q3 q4 q5 _ _ _:QS):St:=⟨[(13,none,dn (.pt 10007 0 0)),(11,none,dn (.pt 9012 0 0)),(10,none,dn (.pt 9011 0 0)),(8,none,dn (.pt 6007 0 0)),(6,none,dn (.pt 5012 0 0)),(5,none,dn (.pt 5011 0 0)),(3,none,dn (.pt 2012 0 0)),(1,none,dn (.pt 1000 0 0))],[(10007,none,0,.box 40 (h_ (bG q5.1))),(9012,none,0,.box 40 (h_ (bG q4.1))),(9011,none,0,.box 65 (m_ q4.2.1)),(6007,none,0,.box 40 (h_ (bG q3.1))),(5012,none,0,.box 40 (h_ (bG q2.1))),(5011,none,0,.box 65 (m_ q2.2.1)),(2012,none,0,.box 40 (h_ (bG q1.1))),(1000,none,0,.box 57 (CY H false))]⟩
def aBP(H:Nat->j_)(q1 q2 q3 q4 q5 q6 _ _:QS):St:=⟨[(15,none,dn (.pt 11007 0 0)),(14,none,dn (.pt 11006 0 0)),(13,none,dn (.pt 10007 0 0)),(11,none,dn (.pt 9012 0 0)),(10,none,dn (.pt 9011 0 0)),(8,none,dn (.pt 6007 0 0)),(6,none,dn (.pt 5012 0 0)),(5,none,dn (.pt 5011 0 0)),(3,none,dn (.pt 2012 0 0)),(1,none,dn (.pt 1000 0 0))],[(11007,none,0,.box 40 (h_ (bG q6.1))),(11006,none,0,.box 65 (m_ q6.2.1)),(10007,none,0,.box 40 (h_ (bG q5.1))),(9012,none,0,.box 40 (h_ (bG q4.1))),(9011,none,0,.box 65 (m_ q4.2.1)),(6007,none,0,.box 40 (h_ (bG q3.1))),(5012,none,0,.box 40 (h_ (bG q2.1))),(5011,none,0,.box 65 (m_ q2.2.1)),(2012,none,0,.box 40 (h_ (bG q1.1))),(1000,none,0,.box 57 (CY H false))]⟩
def aBO(H:Nat->j_)(q1 q2 q3 q4 q5 q6 q7 _:QS):St:=⟨[(17,none,dn (.pt 12007 0 0)),(15,none,dn (.pt 11007 0 0)),(13,none,dn (.pt 10007 0 0)),(11,none,dn (.pt 9012 0 0)),(10,none,dn (.pt 9011 0 0)),(8,none,dn (.pt 6007 0 0)),(6,none,dn (.pt 5012 0 0)),(5,none,dn (.pt 5011 0 0)),(3,none,dn (.pt 2012 0 0)),(1,none,dn (.pt 1000 0 0))],[(12007,none,0,.box 40 (h_ (bG q7.1))),(11007,none,0,.box 40 (h_ (bG q6.1))),(10007,none,0,.box 40 (h_ (bG q5.1))),(9012,none,0,.box 40 (h_ (bG q4.1))),(9011,none,0,.box 65 (m_ q4.2.1)),(6007,none,0,.box 40 (h_ (bG q3.1))),(5012,none,0,.box 40 (h_ (bG q2.1))),(5011,none,0,.box 65 (m_ q2.2.1)),(2012,none,0,.box 40 (h_ (bG q1.1))),(1000,none,0,.box 57 (CY H false))]⟩
def aBN(H:Nat->j_)(q1 q2 q3 q4 q5 q6 q7 q8:QS):St:=⟨[(19,none,dn (.pt 13007 0 0)),(17,none,dn (.pt 12007 0 0)),(15,none,dn (.pt 11007 0 0)),(13,none,dn (.pt 10007 0 0)),(11,none,dn (.pt 9012 0 0)),(10,none,dn (.pt 9011 0 0)),(8,none,dn (.pt 6007 0 0)),(6,none,dn (.pt 5012 0 0)),(5,none,dn (.pt 5011 0 0)),(3,none,dn (.pt 2012 0 0)),(1,none,dn (.pt 1000 0 0))],[(13007,none,0,.box 40 (h_ (bG q8.1))),(12007,none,0,.box 40 (h_ (bG q7.1))),(11007,none,0,.box 40 (h_ (bG q6.1))),(10007,none,0,.box 40 (h_ (bG q5.1))),(9012,none,0,.box 40 (h_ (bG q4.1))),(9011,none,0,.box 65 (m_ q4.2.1)),(6007,none,0,.box 40 (h_ (bG q3.1))),(5012,none,0,.box 40 (h_ (bG q2.1))),(5011,none,0,.box 65 (m_ q2.2.1)),(2012,none,0,.box 40 (h_ (bG q1.1))),(1000,none,0,.box 57 (CY H false))]⟩
def aBM(H:Nat->j_)(q1 q2 _ q4 q5 q6 q7 q8:QS):St:=⟨[(22,none,qi true),(19,none,dn (.pt 13007 0 0)),(17,none,dn (.pt 12007 0 0)),(15,none,dn (.pt 11007 0 0)),(13,none,dn (.pt 10007 0 0)),(11,none,dn (.pt 9012 0 0)),(10,none,dn (.pt 9011 0 0)),(8,none,dn (.pt 6007 0 0)),(6,none,dn (.pt 5012 0 0)),(5,none,dn (.pt 5011 0 0)),(3,none,dn (.pt 2012 0 0)),(1,none,dn (.pt 1000 0 0))],[(13007,none,0,.box 40 (h_ { bG q8.1 with err:=14 })),(12007,none,0,.box 40 (h_ { bG q7.1 with session:=1 })),(11007,none,0,.box 40 (h_ { bG q6.1 with payload:=strOf TU,session:=0 })),(10007,none,0,.box 40 (h_ { bG q5.1 with err:=21 })),(9012,none,0,.box 40 (h_ { bG q4.1 with err:=0,payload:=strOf TU })),(9011,none,0,.box 65 (m_ q4.2.1)),(6007,none,0,.box 40 (h_ { bG q2.1 with err:=0 })),(5012,none,0,.box 40 (h_ { bG q2.1 with err:=0 })),(5011,none,0,.box 65 (m_ q2.2.1)),(2012,none,0,.box 40 (h_ { bG q1.1 with ot:=Qs 1,ol:=0 })),(1000,none,0,.box 57 (CY H false))]⟩
def saL(H:Nat->j_):List (Nat×Spec):=[(12,newSpec 57 (CY H false)),(14,bD true JO),(20,bD false aLg),(10,bD true Jf),(27,bD true aSx),(26,bD true idG)]
theorem saM{H:Nat->j_}(hb:Xd Tryz.prog a_ 12 57 (CY H false)):lm Tryz.prog a_ (find (saL H)):=⟨bV (fun p hp=>by
 simp only[saL,List.mem_cons,List.not_mem_nil,or_false] at hp;rcases hp with rfl|rfl|rfl|rfl|rfl|rfl
 ·exact aIn (aF Tryz.func12 (by kernel_rfl) rfl) hb
 ·exact aKz
 ·exact aOz
 ·exact bDr
 ·exact aSw
 ·exact bEx),fK⟩
theorem PQ{H:Nat->j_}(hb:Xd Tryz.prog a_ 12 57 (CY H false))(q1 q2 q3 q4 q5 q6 q7 q8:QS)(nx:EStateM.Result Acc Nat jk)
  (e1:dK [] (cO (zh 1 4)) (H 1) 0=q1) (e2:dK [] (cO (Aw (bG q1.1))) (H 0) 0=q2) (e3:dK [] (cO (zh 0 6)) q2.2.1 0=q3) (e4:dK [] (cO (zl (bG q2.1))) (H 1) 0=q4)
  (e5:dK [] (cO (zl (bG q2.1))) q4.2.1 0=q5) (e6:dK [] (cO (zh 1 2)) q4.2.1 0=q6) (e7:dK [] (cO (zh 1 2)) q6.2.1 0=q7) (e8:dK [] (cO (zh 0 2)) q2.2.1 0=q8) (en:(cO op0).run (replay []) 0=nx)
  (d0:o6 (H 0)) (d1:o6 (H 1)) (da:o6 q2.2.1) (db:o6 q4.2.1) (dc:o6 q6.2.1) (o2:uz (Aw (bG q1.1))) (o4:uz (zl (bG q2.1)))
  (f1:(bG q1.1).ot=Qs 1/\(bG q1.1).ol=0) (f2:(bG q2.1).err=0) (f3:bG q3.1=bG q2.1) (f4:(bG q4.1).err=0/\(bG q4.1).payload=strOf TU) (f5:(bG q5.1).err=21) (f6:(bG q6.1).payload=strOf TU/\(bG q6.1).session=0) (f7:(bG q7.1).session=1) (f8:(bG q8.1).err=14) (hnx:Xa nx=true)
  (la:kC (q2.2.1.b.getD 3 []) false=2) (lb:kC (q4.2.1.b.getD 3 []) false=1):gQ Tryz.prog a_ 9 true [] (qi true):=by
 have M:=saM hb
 have WQ:bG q1.1={ bG q1.1 with ot:=Qs 1,ol:=0 }:=by rw[<-f1.1,<-f1.2]
 have WP:bG q2.1={ bG q2.1 with err:=0 }:=by rw[<-f2]
 have WO:bG q3.1={ bG q2.1 with err:=0 }:=by rw[f3,<-f2]
 have WN:bG q4.1={ bG q4.1 with err:=0,payload:=strOf TU }:=by rw[<-f4.1,<-f4.2]
 have R_:bG q5.1={ bG q5.1 with err:=21 }:=by rw[<-f5]
 have Qz:bG q6.1={ bG q6.1 with payload:=strOf TU,session:=0 }:=by rw[<-f6.1,<-f6.2]
 have Qy:bG q7.1={ bG q7.1 with session:=1 }:=by rw[<-f7]
 have Qx:bG q8.1={ bG q8.1 with err:=14 }:=by rw[<-f8]
 refine bM Tryz.func9 rfl rfl bU (fun A hS hn hI=>?_);refine aB M hI hn (by rfl) (by kernel_rfl) ?_ ?_
 ·simp
 refine aB M hI hn (by rfl) (by kernel_rfl) ?_ ?_
 ·simp
 refine aI (s':=aMG H q1 q2 q3 q4 q5 q6 q7 q8) (fun a w hg=>(hg.reset (kT:=[1]) (kO:=[1000]) (by rfl) (by simp)).same ?_ ?_) ?_
 ·exact .cons rfl (.nil)
 ·refine .cons (.box rfl) (.nil)
 refine aB M hI hn (by rfl) (by kernel_rfl) ?_ ?_
 ·simp
  exact⟨d1,UV 1 4⟩
 refine aI (s':=aMF H q1 q2 q3 q4 q5 q6 q7 q8) (fun a w hg=>(hg.reset (kT:=[3,1]) (kO:=[2012,1000]) (by rfl) (by simp)).same ?_ ?_) ?_
 ·exact .cons rfl (.cons rfl (.nil))
 ·refine .cons (.box ?_) (.cons (.box rfl) (.nil))
  ·rw[<-e1];change h_ (bG (dK [] (cO (zh 1 4)) (⟨bF (H 1).b.length (bJ (H 1).b),iP (H 1).f.length (r_ (H 1).f),(H 1).r⟩:j_) 0).1)=_;rw[aG,bK]
 refine aB M hI hn (by rfl) (by kernel_rfl) ?_ ?_
 ·simp
 refine aB M hI hn (by rfl) (by kernel_rfl) ?_ ?_
 ·simp
 refine aI (s':=aME H q1 q2 q3 q4 q5 q6 q7 q8) (fun a w hg=>(hg.reset (kT:=[4,3,1]) (kO:=[3001,2012,1000]) (by rfl) (by simp)).same ?_ ?_) ?_
 ·exact .cons rfl (.cons rfl (.cons rfl (.nil)))
 ·refine .cons (.box rfl) (.cons (.box rfl) (.cons (.box rfl) (.nil)))
 refine aB M hI hn (by rfl) (by kernel_rfl) ?_ ?_
 ·simp
  exact⟨d0,o2⟩
 refine aI (s':=aMD H q1 q2 q3 q4 q5 q6 q7 q8) (fun a w hg=>(hg.reset (kT:=[6,5,3,1]) (kO:=[5012,5011,2012,1000]) (by rfl) (by simp)).same ?_ ?_) ?_
 ·exact .cons rfl (.cons rfl (.cons rfl (.cons rfl (.nil))))
 ·refine .cons (.box ?_) (.cons (.box ?_) (.cons (.box rfl) (.cons (.box rfl) (.nil))))
  ·rw[<-e2];change h_ (bG (dK [] (cO (Aw (bG q1.1))) (⟨bF (H 0).b.length (bJ (H 0).b),iP (H 0).f.length (r_ (H 0).f),(H 0).r⟩:j_) 0).1)=_;rw[aG,bK]
  ·rw[<-e2];change m_ (dK [] (cO (Aw (bG q1.1))) (⟨bF (H 0).b.length (bJ (H 0).b),iP (H 0).f.length (r_ (H 0).f),(H 0).r⟩:j_) 0).2.1=_;rw[aG,bK]
 refine aB M hI hn (by rfl) (by kernel_rfl) ?_ ?_
 ·simp
  exact⟨da,UV 0 6⟩
 refine aI (s':=aMC H q1 q2 q3 q4 q5 q6 q7 q8) (fun a w hg=>(hg.reset (kT:=[8,6,5,3,1]) (kO:=[6007,5012,5011,2012,1000]) (by rfl) (by simp)).same ?_ ?_) ?_
 ·exact .cons rfl (.cons rfl (.cons rfl (.cons rfl (.cons rfl (.nil)))))
 ·refine .cons (.box ?_) (.cons (.box rfl) (.cons (.box rfl) (.cons (.box rfl) (.cons (.box rfl) (.nil)))))
  ·rw[<-e3];change h_ (bG (dK [] (cO (zh 0 6)) (⟨bF (q2.2.1).b.length (bJ (q2.2.1).b),iP (q2.2.1).f.length (r_ (q2.2.1).f),(q2.2.1).r⟩:j_) 0).1)=_;rw[aG,bK]
 refine aB M hI hn (by rfl) (by kernel_rfl) ?_ ?_
 ·simp
 refine aB M hI hn (by rfl) (by kernel_rfl) ?_ ?_
 ·simp
 refine aI (s':=aMB H q1 q2 q3 q4 q5 q6 q7 q8) (fun a w hg=>(hg.reset (kT:=[9,8,6,5,3,1]) (kO:=[7001,6007,5012,5011,2012,1000]) (by rfl) (by simp)).same ?_ ?_) ?_
 ·exact .cons rfl (.cons rfl (.cons rfl (.cons rfl (.cons rfl (.cons rfl (.nil))))))
 ·refine .cons (.box rfl) (.cons (.box rfl) (.cons (.box rfl) (.cons (.box rfl) (.cons (.box rfl) (.cons (.box rfl) (.nil))))))
 refine aB M hI hn (by rfl) (by kernel_rfl) ?_ ?_
 ·simp
  exact⟨d1,o4⟩
 refine aI (s':=aMA H q1 q2 q3 q4 q5 q6 q7 q8) (fun a w hg=>(hg.reset (kT:=[11,10,9,8,6,5,3,1]) (kO:=[9012,9011,7001,6007,5012,5011,2012,1000]) (by rfl) (by simp)).same ?_ ?_) ?_
 ·exact .cons rfl (.cons rfl (.cons rfl (.cons rfl (.cons rfl (.cons rfl (.cons rfl (.cons rfl (.nil))))))))
 ·refine .cons (.box ?_) (.cons (.box ?_) (.cons (.box rfl) (.cons (.box rfl) (.cons (.box rfl) (.cons (.box rfl) (.cons (.box rfl) (.cons (.box rfl) (.nil))))))))
  ·rw[<-e4];change h_ (bG (dK [] (cO (zl (bG q2.1))) (⟨bF (H 1).b.length (bJ (H 1).b),iP (H 1).f.length (r_ (H 1).f),(H 1).r⟩:j_) 0).1)=_;rw[aG,bK]
  ·rw[<-e4];change m_ (dK [] (cO (zl (bG q2.1))) (⟨bF (H 1).b.length (bJ (H 1).b),iP (H 1).f.length (r_ (H 1).f),(H 1).r⟩:j_) 0).2.1=_;rw[aG,bK]
 refine aB M hI hn (by rfl) (by kernel_rfl) ?_ ?_
 ·simp
  exact⟨db,o4⟩
 refine aI (s':=aBQ H q1 q2 q3 q4 q5 q6 q7 q8) (fun a w hg=>(hg.reset (kT:=[13,11,10,8,6,5,3,1]) (kO:=[10007,9012,9011,6007,5012,5011,2012,1000]) (by rfl) (by simp)).same ?_ ?_) ?_
 ·exact .cons rfl (.cons rfl (.cons rfl (.cons rfl (.cons rfl (.cons rfl (.cons rfl (.cons rfl (.nil))))))))
 ·refine .cons (.box ?_) (.cons (.box rfl) (.cons (.box rfl) (.cons (.box rfl) (.cons (.box rfl) (.cons (.box rfl) (.cons (.box rfl) (.cons (.box rfl) (.nil))))))))
  ·rw[<-e5];change h_ (bG (dK [] (cO (zl (bG q2.1))) (⟨bF (q4.2.1).b.length (bJ (q4.2.1).b),iP (q4.2.1).f.length (r_ (q4.2.1).f),(q4.2.1).r⟩:j_) 0).1)=_;rw[aG,bK]
 refine aB M hI hn (by rfl) (by kernel_rfl) ?_ ?_
 ·simp
  exact⟨db,UV 1 2⟩
 refine aI (s':=aBP H q1 q2 q3 q4 q5 q6 q7 q8) (fun a w hg=>(hg.reset (kT:=[15,14,13,11,10,8,6,5,3,1]) (kO:=[11007,11006,10007,9012,9011,6007,5012,5011,2012,1000]) (by rfl) (by simp)).same ?_ ?_) ?_
 ·exact .cons rfl (.cons rfl (.cons rfl (.cons rfl (.cons rfl (.cons rfl (.cons rfl (.cons rfl (.cons rfl (.cons rfl (.nil))))))))))
 ·refine .cons (.box ?_) (.cons (.box ?_) (.cons (.box rfl) (.cons (.box rfl) (.cons (.box rfl) (.cons (.box rfl) (.cons (.box rfl) (.cons (.box rfl) (.cons (.box rfl) (.cons (.box rfl) (.nil))))))))))
  ·rw[<-e6];change h_ (bG (dK [] (cO (zh 1 2)) (⟨bF (q4.2.1).b.length (bJ (q4.2.1).b),iP (q4.2.1).f.length (r_ (q4.2.1).f),(q4.2.1).r⟩:j_) 0).1)=_;rw[aG,bK]
  ·rw[<-e6];change m_ (dK [] (cO (zh 1 2)) (⟨bF (q4.2.1).b.length (bJ (q4.2.1).b),iP (q4.2.1).f.length (r_ (q4.2.1).f),(q4.2.1).r⟩:j_) 0).2.1=_;rw[aG,bK]
 refine aB M hI hn (by rfl) (by kernel_rfl) ?_ ?_
 ·simp
  exact⟨dc,UV 1 2⟩
 refine aI (s':=aBO H q1 q2 q3 q4 q5 q6 q7 q8) (fun a w hg=>(hg.reset (kT:=[17,15,13,11,10,8,6,5,3,1]) (kO:=[12007,11007,10007,9012,9011,6007,5012,5011,2012,1000]) (by rfl) (by simp)).same ?_ ?_) ?_
 ·exact .cons rfl (.cons rfl (.cons rfl (.cons rfl (.cons rfl (.cons rfl (.cons rfl (.cons rfl (.cons rfl (.cons rfl (.nil))))))))))
 ·refine .cons (.box ?_) (.cons (.box rfl) (.cons (.box rfl) (.cons (.box rfl) (.cons (.box rfl) (.cons (.box rfl) (.cons (.box rfl) (.cons (.box rfl) (.cons (.box rfl) (.cons (.box rfl) (.nil))))))))))
  ·rw[<-e7];change h_ (bG (dK [] (cO (zh 1 2)) (⟨bF (q6.2.1).b.length (bJ (q6.2.1).b),iP (q6.2.1).f.length (r_ (q6.2.1).f),(q6.2.1).r⟩:j_) 0).1)=_;rw[aG,bK]
 refine aB M hI hn (by rfl) (by kernel_rfl) ?_ ?_
 ·simp
  exact⟨da,UV 0 2⟩
 refine aI (s':=aBN H q1 q2 q3 q4 q5 q6 q7 q8) (fun a w hg=>(hg.reset (kT:=[19,17,15,13,11,10,8,6,5,3,1]) (kO:=[13007,12007,11007,10007,9012,9011,6007,5012,5011,2012,1000]) (by rfl) (by simp)).same ?_ ?_) ?_
 ·exact .cons rfl (.cons rfl (.cons rfl (.cons rfl (.cons rfl (.cons rfl (.cons rfl (.cons rfl (.cons rfl (.cons rfl (.cons rfl (.nil)))))))))))
 ·refine .cons (.box ?_) (.cons (.box rfl) (.cons (.box rfl) (.cons (.box rfl) (.cons (.box rfl) (.cons (.box rfl) (.cons (.box rfl) (.cons (.box rfl) (.cons (.box rfl) (.cons (.box rfl) (.cons (.box rfl) (.nil)))))))))))
  ·rw[<-e8];change h_ (bG (dK [] (cO (zh 0 2)) (⟨bF (q2.2.1).b.length (bJ (q2.2.1).b),iP (q2.2.1).f.length (r_ (q2.2.1).f),(q2.2.1).r⟩:j_) 0).1)=_;rw[aG,bK]
 refine aB M hI hn (by rfl) (by kernel_rfl) ?_ ?_
 ·simp
  exact⟨VL,by unfold bIl;simp⟩
 refine aI (s':=aBM H q1 q2 q3 q4 q5 q6 q7 q8) (fun a w hg=>(hg.reset (kT:=[22,19,17,15,13,11,10,8,6,5,3,1]) (kO:=[13007,12007,11007,10007,9012,9011,6007,5012,5011,2012,1000]) (by rfl) (by simp)).same ?_ ?_) ?_
 ·exact .cons (congrArg qi (by change Xa ((cO op0).run (replay []) 0)=true;rw[en];exact hnx)) (.cons rfl (.cons rfl (.cons rfl (.cons rfl (.cons rfl (.cons rfl (.cons rfl (.cons rfl (.cons rfl (.cons rfl (.cons rfl (.nil))))))))))))
 ·refine .cons (.box ?_) (.cons (.box ?_) (.cons (.box ?_) (.cons (.box ?_) (.cons (.box ?_) (.cons (.box rfl) (.cons (.box ?_) (.cons (.box ?_) (.cons (.box rfl) (.cons (.box ?_) (.cons (.box rfl) (.nil)))))))))))
  ·exact congrArg h_ Qx
  ·exact congrArg h_ Qy
  ·exact congrArg h_ Qz
  ·exact congrArg h_ R_
  ·exact congrArg h_ WN
  ·exact congrArg h_ WO
  ·exact congrArg h_ WP
  ·exact congrArg h_ WQ
 refine aB M hI hn (outs:=?_) (s':=?_) ?_ ?_ ?_ ?_;rotate_left 2
 ·with_unfolding_all rfl
 ·kernel_rfl
 ·simp[hP]
  exact⟨fun _=>⟨da.n,aWu da⟩,fun _ _=>⟨db.n,aWu db⟩⟩
 refine aI (s':=⟨[(0,none,qi true)],[]⟩) (fun a w hg=>(hg.reset (kT:=[0]) (kO:=[]) (by rfl) (by simp)).same ?_ ?_) ?_
 ·refine .cons (congrArg qi ?_) .nil
  have hs:(strOf TU).toList=[115,116,97,116,101]:=by rw[vS];exact dD _
  rw[zG] at la lb;simp[hs,la,lb]
 ·exact .nil
 refine aK (fun a w hg=>⟨.inr rfl,_,?_,hg⟩);refine aC (by rfl) (by simp) (by rfl) (by rfl) ?_;rfl
def stB:ByteArray:=strOf TU
theorem nP{m:jl}{h h':j_}{x:Except Int jk}(e:mr (jD m) h=(x,h')):∃ n,dK [] (cO m) h 0=(some (Nr mZ x),h',n):=by
 obtain⟨n,hn⟩:=aTd mZ (jD m) h 0;rw[e] at hn
 exact⟨n,hn⟩
theorem rJ{n:Nat}(hn:n<=16):(cl n).length=48:=by unfold cl;rw[List.length_append,List.length_replicate,List.length_replicate];omega
theorem XG{n:Nat}:∀ x∈cl n,0<=x/\x<=3:=by
 intro x hx;rcases List.mem_append.1 hx with hx|hx
 ·rw[List.eq_of_mem_replicate hx];omega
 ·rw[List.eq_of_mem_replicate hx];omega
theorem zZ{a b:Nat}{f:Fl}{r:List UInt8}(ha:a<=16)(hb:b<=16)(hz:Sz f)(hr:r.length=16):o6 (jf (cl a) (cl b) f r):=by
 have h0:GG=cl 0:=XM
 refine⟨⟨by show 4<=1000;decide,?_,?_,?_,?_,hr⟩,by show 3<4;decide,rJ ha,rJ hb,by show 64<=f.length;rw[hz.1];decide⟩
 ·intro l hl;have hl':l∈[GG,GG,cl a,cl b]:=hl;simp only[List.mem_cons,List.not_mem_nil,or_false,h0] at hl';rcases hl' with rfl|rfl|rfl|rfl
  ·rw[rJ (by omega)];decide
  ·rw[rJ (by omega)];decide
  ·rw[rJ ha];decide
  ·rw[rJ hb];decide
 ·intro l hl x hx;have hl':l∈[GG,GG,cl a,cl b]:=hl;simp only[List.mem_cons,List.not_mem_nil,or_false,h0] at hl'
  rcases hl' with rfl|rfl|rfl|rfl<;>exact XG x hx
 ·show f.length<=1000000;rw[hz.1]
  decide
 ·intro x hx;rw[hz.2 x hx]
  decide
def SI:jk:={ jr with payload:=stB }
theorem bHr:∃ n fA,dK [] (cO TL) (Bi (bZ 0)) 0=(some SI,jf (cl 0) (cl 1) fA (bZ 0),n)/\v_ fA 1 (bZ 0) (oD 0 stB):=by
 obtain⟨n,hn⟩:=nP (aZt (m:=TL) (n:=0) (c2:=cl 0) (f:=CG) (q:=bZ 0) rfl (by show (5:Nat)<=1000;decide) rX (by decide) (by decide) rfl)
 refine⟨n,_,hn,?_⟩
 exact xN (root:=bZ 0) rX (by decide) (by decide) (kW (p:=stB) (by decide) (by show (5:Nat)<=1000;decide))
theorem aBn{r:kw}(hx:r.ot=Qs 1):Xn (zl (eG (yg 7) r)) r.payload:=by
 refine⟨?_,?_,?_⟩
 ·show (r.ot==Qs 1)=true;rw[hx];exact beq_self_eq_true _
 ·show opened (keyS (yg 7) r.ot r.ol) r.ol (strOf _) _=true;unfold opened;rw[dD];exact beq_self_eq_true _
 ·show strOf (dV (keyS (yg 7) r.ot r.ol) r.ol (strOf (dV (keyS (yg 7) r.ot r.ol) r.ol r.payload.data.toList)).data.toList)=r.payload;rw[dD,aJo,qC]
theorem GK:jb 0:=by unfold jb;omega
theorem bIe{r:kw}(hx:r.ot.length=16)(ho:jb r.ol)(hp:r.payload.size<=1000):uz (zl (eG (yg 7) r)):=by
 refine⟨rfl,rfl,rfl,hx,GK,ho,ho,by show aS.size<=10000;decide,?_⟩
 show (strOf (dV (keyS (yg 7) r.ot r.ol) r.ol r.payload.data.toList)).size<=2000;rw[bW,eY];have:r.payload.data.toList.length=r.payload.size:=Array.length_toList;omega
theorem bBs{o:jk}(hx:o.ot.length=16)(ho:jb o.ol):uz (Aw o):=⟨rfl,rfl,hx,rfl,ho,GK,GK,by show aS.size<=10000;decide,by show aS.size<=2000;decide⟩
theorem Jc:Xa ((cO op0).run (replay []) 0)=true:=by kernel_rfl
def EF:jk:={ jr with ot:=Qs 1,ol:=((0:Nat):Int) }
def z_:kw:=UT (Aw EF) 1 (oD 0 stB)
structure aHV(n:Nat)(fA fB:Fl):Prop where
 cr:dK [] (cO TL) (Bi (bZ 0)) 0=(some SI,jf (cl 0) (cl 1) fA (bZ 0),n)
 hA:v_ fA 1 (bZ 0) (oD 0 stB)
 hB:v_ fB 2 (bZ 0) z_
 snd:mr (jD (Aw EF)) (jf (cl 0) (cl 1) fA (bZ 0))=(.ok (eG (yg 7) z_),jf (cl 0) (cl 2) fB (bZ 0))
theorem aWt:∃ n fA fB,aHV n fA fB:=by
 obtain⟨n,fA,h1,h2⟩:=bHr;have h3:=IC (m:=Aw EF) (n:=1) (c2:=cl 0) (q:=bZ 0) rfl (by decide) (by decide) (by decide) (by decide) rfl h2 (by decide) (by decide) rfl rfl rfl
 refine⟨n,fA,_,h1,h2,?_,h3⟩
 exact xN (root:=bZ 0) (r:=z_) h2.dh (by decide) (by decide) (aUo (by decide) GK rfl h2.ok)
theorem off1:mr (jD (zh 1 4)) (Bi (bZ 1))=(.ok EF,Bi (bZ 1)):=bDn (m:=zh 1 4) (n:=0) (c2:=cl 0) (f:=CG) (q:=bZ 1) rfl (by decide) rfl
theorem aXr:gQ Tryz.prog a_ 9 true [] (qi true):=by
 obtain⟨n,fA,fB,B⟩:=aWt;have hb:=O0 (SI |> some,jf (cl 0) (cl 1) fA (bZ 0),n) _ _ _ rfl rfl rfl B.cr;have hbad:XY (some SI,jf (cl 0) (cl 1) fA (bZ 0),n)=false:=rfl;rw[hbad] at hb;have tr:Xn (zl (eG (yg 7) z_)) stB:=aBn (r:=z_) rfl
 have hst:stB.size<=1000:=by show (5:Nat)<=1000;decide
 obtain⟨n1,e1⟩:=nP off1;obtain⟨n2,e2⟩:=nP B.snd;obtain⟨n3,e3⟩:=nP (aXx (m:=zh 0 6) (n:=2) (c2:=cl 0) (q:=bZ 0) rfl B.hB (by decide) rfl rfl rfl);have x4:=aBj (m:=zl (eG (yg 7) z_)) (n:=0) (c2:=cl 0) (q:=bZ 1) (f:=CG) rfl tr hst rX (by decide) (by decide) rfl rfl;have h4:=xN (root:=bZ 1) rX (by decide) (by decide) (kW (n:=0) (p:=stB) (by decide) hst);obtain⟨f4,hf4⟩:∃ f4,DJ CG (fG (bZ 1) (oD 0 stB))=f4:=⟨_,rfl⟩;have aNW:DJ CG (fG (zl (eG (yg 7) z_)).root (oD 0 stB))=f4:=hf4;rw[hf4] at h4;rw[aNW] at x4;obtain⟨n4,e4⟩:=nP x4;obtain⟨n5,e5⟩:=nP (aJq (m:=zl (eG (yg 7) z_)) (n:=1) (c2:=cl 0) (f:=f4) (q:=bZ 1) rfl tr.xt (by decide) rfl);obtain⟨n6,e6⟩:=nP (aFc (m:=zh 1 2) (n:=1) (n2:=0) (q:=bZ 1) rfl h4 (by decide) rfl rfl rfl (by decide));obtain⟨n7,e7⟩:=nP (aFc (m:=zh 1 2) (n:=1) (n2:=1) (q:=bZ 1) rfl h4 (by decide) rfl rfl rfl (by decide))
 obtain⟨n8,e8⟩:=nP (aYq (m:=zh 0 2) (n:=2) (c2:=cl 0) (q:=bZ 0) rfl B.hB (by decide) rfl);have zB:=B.hB.dh.sz;have z4:=h4.dh.sz;have zA:=B.hA.dh.sz;refine PQ hb _ _ _ _ _ _ _ _ _ e1 e2 e3 e4 e5 e6 e7 e8 rfl (zZ (by decide) (by decide) zA rfl) (bGo _ rfl) (zZ (by decide) (by decide) zB rfl) (zZ (by decide) (by decide) z4 rfl) (zZ (by decide) (by decide) z4 rfl) (bBs (o:=EF) rfl GK) (bIe (r:=z_) rfl GK hst) ⟨rfl,rfl⟩ rfl rfl ⟨rfl,rfl⟩ rfl ⟨rfl,rfl⟩ rfl rfl Jc (KX (by decide)) (KX (by decide))
section
variable {α β:Type}
def uy(t:lu):ah α->j_->List j_
 |.ret _,_=>[]
 |.ask c k,h=>if c.kind = -1 then[] else (fJ h c t).1::uy t (k (fJ h c tu).2.1) (fJ h c tu).1
def aOZ(t:lu)(f:α->ah β):Except Int α×j_->List j_
 |(.ok a,h)=>uy t (f a) h
 |(.error _,_)=>[]
theorem aQe(t:lu)(p:ah α)(f:α->ah β):∀ h,uy t (p.bind f) h=uy t p h++aOZ t f (mr p h):=by
 induction p with
 |ret a=>intro h;rfl
 | ask c k ih=>
  intro h;show uy t (.ask c fun r=>(k r).bind f) h=_;rw[uy,uy,mr]
  by_cases hc:c.kind = -1
  ·rw[if_pos hc,if_pos hc,if_pos hc];rfl
  ·rw[if_neg hc,if_neg hc,if_neg hc,List.cons_append];rw[<-ih]
theorem NT{t:lu}{p:ah α}{f:α->ah β}{h h':j_}{a:α}(hp:mr p h=(.ok a,h')):uy t (p.bind f) h=uy t p h++uy t (f a) h':=by rw[aQe,hp];rfl
def aHH(F:List lu)(c:Nat)(t:lu):Prop:=t.cut=true/\∀ i,eX F i=if i=c then t else tu
def UX(F:List lu)(c:Nat):Prop:=∀ i,c<=i->eX F i=tu
theorem aZj{F:List lu}(k:Int->α)(p:ah α):∀ h i,UX F i->∃ n,dK F (ah.catch k p) h i=(some (Nr k (mr p h).1),(mr p h).2,n):=by
 induction p with
 |ret a=>intro h i _;exact⟨i,rfl⟩
 | ask c g ih=>
  intro h i hF;rw[mr]
  by_cases hc:c.kind = -1
  ·rw[if_pos hc];unfold ah.catch;rw[decide_eq_true hc]
   exact⟨i,rfl⟩
  ·rw[if_neg hc];rw[nV k g hc,dK,hF i (Nat.le_refl _),if_neg (by decide)];exact ih _ _ _ (fun j hj=>hF j (by omega))
theorem bGe{F:List lu}{c:Nat}{t:lu}(hF:aHH F c t)(k:Int->α)(p:ah α):∀ h i,i<=c->(∃ h' n,h'∈uy t p h/\dK F (ah.catch k p) h i=(none,h',n))\/∃ n,dK F (ah.catch k p) h i=(some (Nr k (mr p h).1),(mr p h).2,n):=by
 induction p with
 |ret a=>intro h i _;exact .inr ⟨i,rfl⟩
 | ask a g ih=>
  intro h i hi;rw[mr,uy]
  by_cases hc:a.kind = -1
  ·rw[if_pos hc,if_pos hc];unfold ah.catch;rw[decide_eq_true hc];exact .inr ⟨i,rfl⟩
  ·rw[if_neg hc,if_neg hc];rw[nV k g hc,dK,hF.2 i]
   by_cases hic:i=c
   ·rw[if_pos hic,if_pos hF.1];exact .inl ⟨_,_,List.mem_cons_self,rfl⟩
   ·rw[if_neg hic,if_neg (by decide)];rcases ih (fJ h a tu).2.1 (fJ h a tu).1 (i+1) (by omega) with⟨h',n,h1,h2⟩|h1
    ·exact .inl ⟨h',n,List.mem_cons_of_mem _ h1,h2⟩
    ·exact .inr h1
end
def jc(t:lu){α:Type}(p:ah α)(h:j_)(R:j_->Prop):Prop:=∀ h'∈uy t p h,R h'
theorem jc.bind{α β:Type}{t:lu}{p:ah α}{f:α->ah β}{h h':j_}{a:α}{R:j_->Prop}(hp:mr p h=(.ok a,h'))(h1:jc t p h R)(h2:jc t (f a) h' R):jc t (p.bind f) h R:=fun x hx=>by
 rw[NT hp] at hx;rcases List.mem_append.1 hx with hx|hx
 ·exact h1 x hx
 ·exact h2 x hx
theorem jc.ret{α:Type}{t:lu}{a:α}{h:j_}{R:j_->Prop}:jc t (.ret a) h R:=fun x hx=>by cases hx
theorem jc.mono{α:Type}{t:lu}{p:ah α}{h:j_}{R S:j_->Prop}(h1:jc t p h R)(h2:∀ h',R h'->S h'):jc t p h S:=fun x hx=>h2 x (h1 x hx)
def hf:Nat->List Int
 |0=>cl 0
 |1=>1::List.replicate 47 0
 |2=>2::1::List.replicate 46 0
 |_=>2::2::1::List.replicate 45 0
def tf(b:Int):lu:=⟨true,b,false⟩
theorem aZr(b:Int)(c2:List Int)(f:Fl)(r:List UInt8):uy (tf b) (ah.ig 3 16) (jf c2 (cl 0) f r)=List.replicate 3 (jf c2 (cl 0) f r):=by kernel_rfl
theorem aJh(b:Int)(c2:List Int)(f:Fl)(r:List UInt8):uy (tf b) (ah.ig 3 16) (jf c2 (cl 1) f r)=List.replicate 9 (jf c2 (cl 1) f r):=by kernel_rfl
theorem aZs(b:Int)(c3:List Int)(f:Fl)(r:List UInt8):uy (tf b) (ah.ig 2 16) (jf (cl 0) c3 f r)=List.replicate 3 (jf (cl 0) c3 f r):=by kernel_rfl
theorem aZq(b:Int)(c3:List Int)(f:Fl)(r:List UInt8):uy (tf b) (ah.jh 2 16 1) (jf (cl 0) c3 f r)=List.replicate 3 (jf (cl 0) c3 f r)++([jf (hf 1) c3 f r,jf (hf 2) c3 f r,jf (hf 3) c3 f r]++List.replicate 3 (jf (cl 1) c3 f r)):=by kernel_rfl
theorem aZp(b:Int)(c2:List Int)(f:Fl)(r:List UInt8):uy (tf b) (ah.jh 3 16 1) (jf c2 (cl 0) f r)=List.replicate 3 (jf c2 (cl 0) f r)++([jf c2 (hf 1) f r,jf c2 (hf 2) f r,jf c2 (hf 3) f r]++List.replicate 3 (jf c2 (cl 1) f r)):=by kernel_rfl
theorem bFc{k:Nat}(hk:k=1\/k=2)(c3:List Int)(f:Fl)(r:List UInt8):mr (ah.ig 2 16) (jf (hf k) c3 f r)=(.ok 0,jf (hf k) c3 f r):=by
 rcases hk with rfl|rfl<;>kernel_rfl
theorem LP(c3:List Int)(f:Fl)(r:List UInt8):mr (ah.ig 2 16) (jf (hf 3) c3 f r)=(.ok 1,jf (cl 1) c3 f r):=by kernel_rfl
theorem bFa{k:Nat}(hk:k=1\/k=2)(c3:List Int)(f:Fl)(r:List UInt8):mr (ah.jh 2 16 1) (jf (hf k) c3 f r)=(.ok (1,0),jf (cl 1) c3 f r):=by
 rcases hk with rfl|rfl<;>kernel_rfl
theorem bFb{k:Nat}(hk:k=1\/k=2)(c2:List Int)(f:Fl)(r:List UInt8):mr (ah.ig 3 16) (jf c2 (hf k) f r)=(.ok 0,jf c2 (hf k) f r):=by
 rcases hk with rfl|rfl<;>kernel_rfl
theorem LM(c2:List Int)(f:Fl)(r:List UInt8):mr (ah.ig 3 16) (jf c2 (hf 3) f r)=(.ok 1,jf c2 (cl 1) f r):=by kernel_rfl
theorem bEz{k:Nat}(hk:k=1\/k=2)(c2:List Int)(f:Fl)(r:List UInt8):mr (ah.jh 3 16 1) (jf c2 (hf k) f r)=(.ok (1,0),jf c2 (cl 1) f r):=by
 rcases hk with rfl|rfl<;>kernel_rfl
theorem SE{b:Int}(h0:0<=b)(h1:b<=255):CQ (tf b)=b:=by
 show min (max b 0) 256=b;omega
theorem bGq{b:Int}(h0:0<=b)(h1:b<=255){bk:List (List Int)}{f:Fl}{r:List UInt8}{c:Acc}(h:Oc f.length c):(fJ ⟨bk,f,r⟩ c (tf b)).1=⟨bk,gI (max 0 b) c f,r⟩:=by
 have hb:max 0 b=b:=by omega
 rcases h with⟨k1,k2,k3⟩|⟨k1,k2,k3,k4⟩
 ·rw[aFy k1 k2 k3];unfold gI;rw[if_pos k1]
 ·rw[aFx k1 k2 k3 k4];unfold gI;rw[if_neg (by omega),SE h0 h1,hb]
theorem aQd{α:Type}{b:Int}(h0:0<=b)(h1:b<=255)(p:ah α):∀ (bk:List (List Int)) (f:Fl) (r:List UInt8),(∀ c∈jv p f,Oc f.length c)->∀ h'∈uy (tf b) p ⟨bk,f,r⟩,∃ (j:Nat) (a:Acc),(jv p f)[j]?=some a/\h'=⟨bk,gI (max 0 b) a (qo ((jv p f).take j) f),r⟩:=by
 induction p with
 |ret a=>intro bk f r _ h' hh;cases hh
 | ask c k ih=>
  intro bk f r h h' hh;have hc:Oc f.length c:=h c List.mem_cons_self
  have hk:c.kind ≠ -1:=by rcases hc with⟨h1,_⟩|⟨h1,_⟩<;>omega
  rw[uy,if_neg hk] at hh;rcases List.mem_cons.1 hh with rfl|hh
  ·exact⟨0,c,rfl,bGq h0 h1 hc⟩
  ·rw[aWj hc] at hh;obtain⟨j,a,e1,e2⟩:=ih (BV c f) bk (gI (-1) c f) r (fun x hx=>by rw[aBp];exact h x (List.mem_cons_of_mem _ hx)) h' hh
   exact⟨j+1,a,e1,e2⟩
theorem NV{b:Int}(h0:0<=b)(h1:b<=255){f:Fl}(hz:Sz f)(bk:List (List Int))(r:List UInt8):jc (tf b) (ah.load 3) ⟨bk,f,r⟩ (fun h'=>h'=⟨bk,f,r⟩):=by
 obtain⟨q1,q2⟩:=Ku (rec:=3) (f:=f) (by omega) (by omega);intro h' hh;obtain⟨j,a,e1,e2⟩:=aQd h0 h1 (ah.load 3) bk f r (by rw[q1,hz.1];exact aKr) h' hh;rw[q1] at e1 e2
 have hk:∀ c∈Go.Proofs.YtndpjopifkbgiaaGreatDoor.BM 3,c.kind=3:=by decide +kernel
 have ha:a.kind=3:=hk a (List.mem_of_getElem? e1)
 have ht:∀ (L:List Acc),(∀ c∈L,c.kind=3)->∀ g,qo L g=g:=by
  intro L
  induction L with
  |nil=>intro _ g;rfl
  |cons x L ih=>
   intro hL g;show qo L (gI (-1) x g)=g;rw[show gI (-1) x g=g from if_pos (hL x List.mem_cons_self)];exact ih (fun c hc=>hL c (List.mem_cons_of_mem _ hc)) g
 rw[e2,ht _ (fun c hc=>hk c (List.mem_of_mem_take hc))];unfold gI;rw[if_pos ha]
theorem aWl{b:Int}(h0:0<=b)(h1:b<=255){f:Fl}{s:Int}{c:List UInt8}(h:xu f s c){x:ByteArray}(hx:x.size<=2000)(hs:s+1<=1099511627776)(bk:List (List Int))(r:List UInt8) :
  jc (tf b) (ah.save 3 x) ⟨bk,f,r⟩ (fun h'=>∃ j:Nat,h'=⟨bk,(wu f ⟨3,x,j,b⟩).1,r⟩/\(wu f ⟨3,x,j,b⟩).2.2.1=false):=by
 have hs':(eu f 3).1.1+1<=1099511627776:=by rw[h.cur];exact hs
 have hF:Fine f ⟨3,x,-1,0⟩:=⟨h.sz,(by show (0:Int)<=3;decide),(by show (3:Int)<=3;decide),hx,hs'⟩;obtain⟨q1,q2⟩:=aNt (rec:=3) (c:=x) (f:=f) (by omega) (by omega) hx hs';have k1:=hF.first;have k2:=hF.nsec;intro h' hh
 obtain⟨j,a,e1,e2⟩:=aQd h0 h1 (ah.save 3 x) bk f r (by
  rw[q1,h.sz.1];intro c hc;rcases List.mem_append.1 hc with hc|hc
  ·exact aKr c hc
  ·exact aMz (s:=iq f ⟨3,x,-1,0⟩) (b:=f_ f ⟨3,x,-1,0⟩) k1.1 (by omega) k2.2 k2.1 c hc) h' hh
 have hj:j<(jv (ah.save 3 x) f).length:=(List.getElem?_eq_some_iff.1 e1).1
 have hput:wu f ⟨3,x,j,b⟩=(gI (max 0 b) a (qo ((jv (ah.save 3 x) f).take j) f),bAm,false,(jv (ah.save 3 x) f).take (j+1)):=by
  unfold wu;rw[aDb,dif_pos (show (([]:List Acc).length:Int)<=(j:Int)/\((j:Int)-(([]:List Acc).length:Int)).toNat<(jv (ah.save 3 x) f).length from⟨by simp,by simp;exact hj⟩)]
  have e3:((j:Int)-(([]:List Acc).length:Int)).toNat=j:=by simp
  have e4:(jv (ah.save 3 x) f)[j]'hj=a:=by
   rw[zH hj] at e1;exact Option.some.inj e1
  simp only[e3,List.nil_append];rw[e4]
 exact⟨j,by rw[hput];exact e2,by rw[hput]⟩
theorem Gz{b:Int}{f:Fl}{s:Int}{c:List UInt8}(h:xu f s c){x:ByteArray}(hx:x.size<=2000)(hs:s+1<=1099511627776){j:Nat}(hp:(wu f ⟨3,x,j,b⟩).2.2.1=false) :
  ∃ s' c',xu (wu f ⟨3,x,j,b⟩).1 s' c'/\(s'=s\/s'=s+1):=by
 have hs':(eu f 3).1.1+1<=1099511627776:=by rw[h.cur];exact hs
 have hF:Fine f ⟨3,x,j,b⟩:=⟨h.sz,(by show (0:Int)<=3;decide),(by show (3:Int)<=3;decide),hx,hs'⟩;have p:=aVf hF;have hc:(eu f 3).1=(s,c):=h.cur;rcases p.y8 hF hp with e|e|⟨t,e,_⟩
 ·exact⟨s,c,⟨p.sz,e.trans hc⟩,.inl rfl⟩
 ·refine⟨s+1,x.data.toList,⟨p.sz,e.trans ?_⟩,.inr rfl⟩
  show ((eu f 3).1.1+1,_)=_;rw[hc]
 ·refine⟨s+1,t,⟨p.sz,e.trans ?_⟩,.inr rfl⟩
  show ((eu f 3).1.1+1,_)=_;rw[hc]
section
variable {α:Type} {t:lu} {R:j_->Prop}
theorem NU(t:lu)(b:Bool)(e:Int)(h:j_):uy t (gZ b e) h=[]:=by cases b<;>rfl
theorem jc.pq{b:Bool}{e:Int}{f:Unit->ah α}{h:j_}(hf:b=true->jc t (f ()) h R):jc t ((gZ b e).bind f) h R:=fun x hx=>by
 rw[aQe,NU,List.nil_append] at hx
 cases b with
 |true=>exact hf rfl x hx
 |false=>cases hx
theorem jc.all{p:ah α}{h h0:j_}{n:Nat}(e:uy t p h=List.replicate n h0)(hR:R h0):jc t p h R:=fun x hx=>by
 rw[e] at hx;rw[List.eq_of_mem_replicate hx];exact hR
theorem aBe(t:lu)(m:jl)(h:j_)(R:j_->Prop):jc t (kM m) h R:=by
 unfold kM;refine jc.pq (fun _=>?_);unfold vO
 split
 ·exact jc.pq (fun _=>jc.ret)
 ·split
  ·exact jc.pq (fun _=>jc.ret)
  ·split
   ·exact jc.pq (fun _=>jc.ret)
   ·exact jc.ret
end
section
variable {m:jl} {n n2:Nat} {f:Fl} {s b:Int} {c:List UInt8} {c2 c2' Si c3 c3':List Int} {r:kw} {q:List UInt8} {p:ByteArray} {R:j_->Prop}
theorem Kq(hk:m.kind=2)(h:v_ f s m.root r)(hn:n<=16)(he:n % 2=1)(hr:r.kind=1)(hl:r.level=n)(h2:n2<16)(e1:mr (ah.ig 2 16) (jf c2 (cl n) f q)=(.ok n2,jf c2' (cl n) f q))(e2:mr (ah.jh 2 16 (n2+1)) (jf c2' (cl n) f q)=(.ok (n2+1,0),jf Si (cl n) f q)) :
  mr (jD m) (jf c2 (cl n) f q)=(.ok { jr with session:=n2,payload:=r.payload },jf Si (cl n) f q):=by
 rw[nJ (nG (.inl hk)) hn];unfold nT;rw[if_neg (by omega),if_pos hk];unfold Ol;rw[aZ (aAu h _ _ q),hr,hl,he,show n+1-1=n from by omega,show ((1:Int)==1)=true from rfl,show ((n:Int)==(n:Int))=true from beq_self_eq_true _,show (bif true then true else false)=true from rfl,aZ (bI _ _)];rw[show (((1:Nat):Int)==0)=false from rfl,show (bif false then pW n else ah.ret ())=ah.ret () from rfl,ah.Bo];unfold bEn;rw[aZ e1,decide_eq_true (by omega),aZ (bI _ _)];unfold jP;rw[ah.bind_assoc,aZ e2,ah.bind_assoc,show (((n2+1,(0:Int)):Nat×Int).2==0)=true from rfl,aZ (bI _ _)];rfl
theorem aJr(hk:m.kind=7)(t:Xn m p)(hp:p.size<=1000)(h:xu f s c)(hs:s+1<=1099511627776)(hl:m.xl=0)(e1:∀ f,mr (ah.ig 3 16) (jf c2 c3 f q)=(.ok 0,jf c2 c3 f q))(e2:∀ f,mr (ah.jh 3 16 1) (jf c2 c3 f q)=(.ok (1,0),jf c2 c3' f q)) :
  mr (jD m) (jf c2 c3 f q)=(.ok { jr with payload:=p },jf c2 c3' (DJ f (fG m.root (oD 0 p))) q):=by
 unfold jD;rw[aZ (vN hk t.xt _),aZ (e1 f)];unfold nT;rw[if_neg (by omega),if_neg (by omega),if_neg (by omega),if_neg (by omega),if_neg (by omega),if_neg (by omega)]
 have x1:Zo m=0:=by unfold Zo;rw[t.o];rfl
 have x2:tJ m=p:=by unfold tJ;rw[t.o,t.p];rfl
 unfold qU;rw[aZ (aCp (by decide) rfl _),hl,show ((0:Int)==((0:Nat):Int))=true from rfl,aZ (bI _ _),x1,x2,show ((0:Int)==0)=true from rfl,aZ (bI _ _),decide_eq_true (by omega),aZ (bI _ _)];unfold lX;rw[ah.bind_assoc,aZ (aAn h hs (kW (by decide) hp) _ _ q),ah.bind_assoc];unfold pW jP;rw[ah.bind_assoc,ah.bind_assoc,aZ (e2 _),ah.bind_assoc,show (((0+1,(0:Int)):Nat×Int).2==0)=true from rfl,aZ (bI _ _)];rfl
theorem aUb(hk:m.kind=7)(hx:(m.xt==m.id)=true)(e1:mr (ah.ig 3 16) (jf c2 c3 f q)=(.ok 1,jf c2 c3' f q)):mr (jD m) (jf c2 c3 f q)=(.error 21,jf c2 c3' f q):=by
 unfold jD;rw[aZ (vN hk hx _),aZ e1];unfold nT;rw[if_neg (by omega),if_neg (by omega),if_neg (by omega),if_neg (by omega),if_neg (by omega),if_neg (by omega)];unfold qU;exact aCt (aVc rfl _)
theorem NS(h0:0<=b)(h1:b<=255)(h:v_ f s m.root r)(hR:R (jf c2 c3 f q)):jc (tf b) (qj m) (jf c2 c3 f q) R:=by
 unfold qj;refine jc.bind (aVn h.dh _ q) ((NV h0 h1 h.dh.sz _ q).mono fun h' e=>by rw[e];exact hR) (jc.pq fun _=>jc.pq fun _=>jc.ret)
theorem bGy(h0:0<=b)(h1:b<=255)(hk:m.kind=2)(h:v_ f s m.root r)(_:r.kind=1)(_:r.level=((1:Nat):Int)) :
  jc (tf b) (jD m) (jf (cl 0) (cl 1) f q) (fun h'=>∃ k,h'=jf k (cl 1) f q/\(k=cl 0\/k=hf 1\/k=hf 2\/k=hf 3\/k=cl 1)):=by
 have hA:∃ k,jf (cl 0) (cl 1) f q=jf k (cl 1) f q/\(k=cl 0\/k=hf 1\/k=hf 2\/k=hf 3\/k=cl 1):=⟨_,rfl,.inl rfl⟩;unfold jD;refine jc.bind (nG (.inl hk) _) (aBe _ _ _ _) (jc.bind (Qo (by decide) _ _ _) (jc.all (aJh _ _ _ _) hA) ?_);unfold nT;rw[if_neg (by omega),if_pos hk];unfold Ol;refine jc.bind (aAu h _ _ q) (NS h0 h1 h hA) (jc.pq fun _=>?_);rw[show (((1 % 2:Nat):Int)==0)=false from rfl,show (bif false then pW 1 else ah.ret ())=ah.ret () from rfl,ah.Bo];unfold bEn;refine jc.bind (Vu (by decide) _ _ _) (jc.all (aZs _ _ _ _) hA) (jc.pq fun _=>?_);refine jc.bind (bCx (n:=0) (by decide) _ _ _) ?_ jc.ret;unfold jP;refine jc.bind (Px (n:=0) (by decide) _ _ _) ?_ (jc.pq fun _=>jc.ret);intro x hx;rw[aZq] at hx;rcases List.mem_append.1 hx with hx|hx
 ·rw[List.eq_of_mem_replicate hx];exact hA
 ·rcases List.mem_append.1 hx with hx|hx
  ·simp only[List.mem_cons,List.not_mem_nil,or_false] at hx;rcases hx with rfl|rfl|rfl
   ·exact⟨_,rfl,.inr (.inl rfl)⟩
   ·exact⟨_,rfl,.inr (.inr (.inl rfl))⟩
   ·exact⟨_,rfl,.inr (.inr (.inr (.inl rfl)))⟩
  ·rw[List.eq_of_mem_replicate hx]
   exact⟨_,rfl,.inr (.inr (.inr (.inr rfl)))⟩
theorem aTo(h0:0<=b)(h1:b<=255)(hk:m.kind=7)(t:Xn m p)(hp:p.size<=1000)(h:xu f s c)(hs:s+1<=1099511627776)(_:m.xl=0) :
  jc (tf b) (jD m) (jf (cl 0) (cl 0) f q) (fun h'=>(∃ f' s' c',h'=jf (cl 0) (cl 0) f' q/\xu f' s' c'/\(s'=s\/s'=s+1))\/∃ k,h'=jf (cl 0) k (DJ f (fG m.root (oD 0 p))) q/\(k=hf 1\/k=hf 2\/k=hf 3\/k=cl 1)):=by
 have hA:(∃ f' s' c',jf (cl 0) (cl 0) f q=jf (cl 0) (cl 0) f' q/\xu f' s' c'/\(s'=s\/s'=s+1))\/∃ k,jf (cl 0) (cl 0) f q=jf (cl 0) k (DJ f (fG m.root (oD 0 p))) q/\(k=hf 1\/k=hf 2\/k=hf 3\/k=cl 1):=.inl ⟨f,s,c,rfl,h,.inl rfl⟩;unfold jD;refine jc.bind (vN hk t.xt _) (aBe _ _ _ _) (jc.bind (Qo (n:=0) (by decide) _ _ _) (jc.all (aZr _ _ _ _) hA) ?_);unfold nT;rw[if_neg (by omega),if_neg (by omega),if_neg (by omega),if_neg (by omega),if_neg (by omega),if_neg (by omega)]
 have x2:tJ m=p:=by unfold tJ;rw[t.o,t.p];rfl
 unfold qU pF;rw[ah.bind_assoc];refine jc.pq fun _=>?_;rw[ah.bind_assoc];refine jc.pq fun _=>?_;refine jc.pq fun _=>jc.pq fun _=>jc.pq fun _=>?_;rw[x2];have hrec:=bBi h (lI m.root _ (kW (n:=0) (by decide) hp)) hs;refine jc.bind (aBg (n:=0) h hs (by decide) hp _ q) ?_ jc.ret;unfold lX;refine jc.bind (aAn h hs (kW (by decide) hp) _ _ q) ?_ (jc.bind (aLe (n:=0) (by decide) _ _ _) ?_ jc.ret)
 ·unfold y_;refine jc.bind (aKh h (lI m.root _ (kW (by decide) hp)) hs _ q) ((aWl h0 h1 h (lI m.root _ (kW (by decide) hp)) hs _ q).mono ?_) (jc.pq fun _=>jc.ret);rintro h' ⟨j,e1,e2⟩;obtain⟨s',c',k1,k2⟩:=Gz h (lI m.root _ (kW (by decide) hp)) hs e2;exact .inl ⟨_,s',c',e1,k1,k2⟩
 ·generalize DJ f (fG m.root (oD 0 p))=fN at hrec ⊢;obtain⟨cN,hcN⟩:∃ cN,(fG m.root (oD 0 p)).data.toList=cN:=⟨_,rfl⟩;rw[hcN] at hrec;have hB:∃ f'' s' c',jf (cl 0) (cl 0) fN q=jf (cl 0) (cl 0) f'' q/\xu f'' s' c'/\(s'=s\/s'=s+1):=⟨fN,s+1,cN,rfl,hrec,.inr rfl⟩;unfold pW;refine jc.bind (bCw (n:=0) (by decide) _ _ _) ?_ (jc.pq fun _=>jc.ret);unfold jP;refine jc.bind (aCA (n:=0) (by decide) _ _ _) ?_ (jc.pq fun _=>jc.ret);intro x hx;rw[aZp] at hx;rcases List.mem_append.1 hx with hx|hx
  ·rw[List.eq_of_mem_replicate hx];exact .inl hB
  ·rcases List.mem_append.1 hx with hx|hx
   ·simp only[List.mem_cons,List.not_mem_nil,or_false] at hx;rcases hx with rfl|rfl|rfl
    ·exact .inr ⟨_,rfl,.inl rfl⟩
    ·exact .inr ⟨_,rfl,.inr (.inl rfl)⟩
    ·exact .inr ⟨_,rfl,.inr (.inr (.inl rfl))⟩
   ·rw[List.eq_of_mem_replicate hx];exact .inr ⟨_,rfl,.inr (.inr (.inr rfl))⟩
end
end Pv
section
inductive UY(f:Fl)(u:GU)(cut:Int)(x:Int×List UInt8):Prop
 |old (h:x=Da f u.dh (1-((eu f u.dh).2:Int)))
 |bad (h:x=(0,[]))
 |new (h:x=((eu f u.dh).1.1+1,u.content.data.toList))
 |odd (s:List UInt8) (h:x=((eu f u.dh).1.1+1,s)) (hl:s.length<=u.content.data.toList.length) (hcut:cut<=255) (hc:∀ i,i<(encS u.dh ((eu f u.dh).1.1+1) s).length->i<256->(encS u.dh ((eu f u.dh).1.1+1) s)[i]?=if (i:Int)<cut then (f_ f u)[i]? else some 0)
section
variable {f:Fl} {u:GU}
theorem aQy(h:Fine f u){j:Nat}(hj:j<=nsec (f_ f u))(a:Acc)(ha:(dH (iq f u) (f_ f u))[j]?=some a){cut:Int}(h0:0<=cut):UY f u cut (Da (gI cut a (qo ((dH (iq f u) (f_ f u)).take j) f)) u.dh (1-((eu f u.dh).2:Int))):=by
 have hl:=h.len;have hf:=h.first;have hs:=h.nsec;have hr:=aAa f u.dh;have hz:Sz (qo ((dH (iq f u) (f_ f u)).take j) f):=aPt h.sz;have hD:∀ g,Da g u.dh (1-((eu f u.dh).2:Int))=oh u.dh (sV g (iq f u)):=fun g=>rfl;rw[hD];rcases Nat.eq_zero_or_pos j with rfl|hp
 ·rw[dH,List.getElem?_cons_zero] at ha;cases ha;have e:gI cut ⟨4,0,iq f u,strOf iD⟩ (qo ((dH (iq f u) (f_ f u)).take 0) f)=iQ f (iq f u) (strOf iD) cut:=rfl;have Dk:=mO h.sz hf.1 (by omega) (b:=iD) jJ cut;rw[e]
  by_cases hc:cut=0
  ·subst hc;refine .old ?_;rw[hD];congr 1;refine yH fun t h3 h4=>?_;rw[Dk]
   split
   ·rename_i ht;subst ht;unfold y8;rw[if_neg (by rw[jJ];decide)];simp
   ·rfl
  ·refine .bad (yK (aFm h.sz _ _ _) hf.1 (by omega) ?_ _);rw[Dk,if_pos rfl];unfold y8
   split
   ·exact xC (by omega)
   ·rename_i hc2;have:iD.length=256:=jJ;rw[List.getElem?_append_left (by rw[List.length_take];omega),List.getElem?_take,if_pos (by omega)];exact xC (by omega)
 ·rcases Nat.lt_or_eq_of_le hj with hlt|rfl
  ·rw[aDk hp hlt] at ha;cases ha;refine .bad (yK (rU hz _ _) hf.1 (by omega) ?_ _);have e:gI cut ⟨4,0,iq f u+(j:Int),strOf (jm (f_ f u) j)⟩ (qo ((dH (iq f u) (f_ f u)).take j) f)=iQ (qo ((dH (iq f u) (f_ f u)).take j) f) (iq f u+(j:Int)) (strOf (jm (f_ f u) j)) cut:=rfl;rw[e,mO hz (by omega) (by omega) (eQ _ _),if_neg (by omega),vV h.sz hf.1 (by omega) hl.1 hp hj,if_pos rfl];exact xC (by omega)
  ·rw [oU _ _ hl.1] at ha;cases ha
   by_cases hc:256<=cut
   ·exact .new (aDr h (.inr hc))
   ·by_cases hcb:cut.toNat<=(f_ f u).length
    ·have hb:=last_at h cut;obtain⟨W,hW⟩:∃ W,sV (gI cut ⟨4,0,iq f u,strOf (jm (f_ f u) 0)⟩ (qo ((dH (iq f u) (f_ f u)).take (nsec (f_ f u))) f)) (iq f u)=W:=⟨_,rfl⟩;rw[hW] at hb ⊢;rcases aQb (rec:=u.dh) (seq:=(eu f u.dh).1.1+1) (c:=u.content.data.toList) (W:=W) (cut:=cut.toNat) (by omega) h.s (by rw[Array.length_toList];exact h.c) hcb (fun i hi=>(hb i).1 (by omega) (by omega)) (fun i hi hi2=>(hb i).2 h0 (by omega) (by omega) hi2) with hd|⟨s,hd,hsl,hw⟩
     ·exact .bad hd
     ·have hle:(encS u.dh ((eu f u.dh).1.1+1) s).length<=(f_ f u).length:=aPz _ _ hsl;refine .odd s hd hsl (by omega) fun i hi hi3=>?_
      have hwi:(encS u.dh ((eu f u.dh).1.1+1) s)[i]?=W[i]?:=by rw[<-hw,List.getElem?_take,if_pos hi]
      rw[hwi]
      by_cases hi2:(i:Int)<cut
      ·rw[if_pos hi2];exact (hb i).1 (by omega) (by omega)
      ·rw[if_neg hi2];exact (hb i).2 h0 (by omega) (by omega) (by omega)
    ·refine .new ?_;have hb:=last_at h cut;obtain⟨W,hW⟩:∃ W,sV (gI cut ⟨4,0,iq f u,strOf (jm (f_ f u) 0)⟩ (qo ((dH (iq f u) (f_ f u)).take (nsec (f_ f u))) f)) (iq f u)=W:=⟨_,rfl⟩;rw[hW] at hb ⊢
     have e:W=f_ f u++W.drop (f_ f u).length:=by
      have:W.take (f_ f u).length=f_ f u:=by
       apply List.ext_getElem?;intro i;rw[List.getElem?_take]
       split
       ·rename_i hi;exact (hb i).1 hi (by omega)
       ·rw[List.getElem?_eq_none (by omega)]
      conv=>lhs;rw[<-List.take_append_drop (f_ f u).length W,this]
     rw[e];exact aMf _ _ _ _ (by omega) h.s (by rw[Array.length_toList];exact h.c)
theorem aAS(h:Fine f u)(hp:(wu f u).2.2.1=false):(eu (wu f u).1 u.dh).1=(eu f u.dh).1\/(eu (wu f u).1 u.dh).1=((eu f u.dh).1.1+1,u.content.data.toList) \/
  ∃ s,(eu (wu f u).1 u.dh).1=((eu f u.dh).1.1+1,s)/\s.length<=u.content.data.toList.length/\∃ cut:Int,0<=cut/\cut<=255/\∀ i,i<(encS u.dh ((eu f u.dh).1.1+1) s).length->i<256->(encS u.dh ((eu f u.dh).1.1+1) s)[i]?=if (i:Int)<cut then (f_ f u)[i]? else some 0:=by
 have p:=aVf h;have hk:(eu f u.dh).2=0\/(eu f u.dh).2=1:=Xi _ _;have hl:=h.len;have hs:=h.nsec
 have hL:UY f u (max 0 u.bytes) (Da (wu f u).1 u.dh (1-((eu f u.dh).2:Int))):=by
  by_cases hw:u.cut<0\/17+(nsec (f_ f u):Int)<=u.cut
  ·rw[zI h hw] at hp;cases hp
  ·by_cases hr:u.cut<16
   ·rw[aVe h (by omega) hr];exact .old rfl
   ·obtain⟨j,hj⟩:∃ j:Nat,u.cut=16+(j:Int):=⟨(u.cut-16).toNat,by omega⟩
    have hjn:j<=nsec (f_ f u):=by omega
    have hlen:=iT (iq f u) (f_ f u) hl.1;obtain⟨a,ha⟩:∃ a,(dH (iq f u) (f_ f u))[j]?=some a:=⟨_,zH (by omega)⟩;rw[aOh h hj hjn a ha];exact aQy h hjn a ha (cut:=max 0 u.bytes) (by omega)
 rcases hL with hx|hx|hx|⟨s,hx,hsl,hcut,hc⟩
 ·left
  have e:eu (wu f u).1 u.dh=eu f u.dh:=aWm fun k h2 h3=>by
   by_cases hkk:k=((eu f u.dh).2:Int)
   ·exact p.far _ k h.r0 h.r3 h2 h3 (.inr hkk)
   ·have e:k=1-((eu f u.dh).2:Int):=by omega
    rw[e];exact hx
  rw[e]
 ·exact .inl (bHa (p.same h) hx)
 ·exact .inr (.inl (aGa (p.same h) hx))
 ·exact .inr (.inr ⟨s,aGa (p.same h) hx,hsl,max 0 u.bytes,by omega,hcut,hc⟩)
end
end
end Go.Proofs.YtndpjopifkbgiaaGreatDoor
