/-
  Several texts in one file: each has its own heading below.
-/
import Derived.Test.YtndpjopifkbgiaaGreatDoorMmO
import Derived.WalkMore
import Derived.Test.YtndpjopifkbgiaaGreatDoorMmM
import Derived.Test.YtndpjopifkbgiaaGreatDoorMmJ
set_option maxRecDepth 100000
set_option maxHeartbeats 4000000
namespace Go.Proofs.YtndpjopifkbgiaaGreatDoor
open Go.RowKit
namespace Pv
theorem app0(f g:Nat->List PC):qh 0 f g=g:=by
 funext i;unfold qh;rw[if_neg (by omega)];rfl
theorem NI(b:List (List Int))(h0:0<b.length)(hl:b.length<=100000):ZA Tryz.prog a_ 159 [dh (.sl 1 b.length (bH b))] 74 1 b.length (bH b):=by
 have M:=zZ (I:=a_)
 have hb1:Tryz.prog.types[74].bytes=24:=by kernel_rfl
 have hs1:Tryz.prog.types[74].size=1:=by kernel_rfl
 refine aWw Tryz.func159 rfl rfl bP (fun A hS hn hI=>?_);refine aB M hI hn (by rfl) (by kernel_rfl) ?_ ?_
 ·simp
 refine aN ?_;refine aB M hI hn (by rfl) (by kernel_rfl) ?_ ?_
 ·simp;omega
 refine aH (by rfl) (fun hc=>?_) (fun hc=>?_)
 ·cases hc
 refine aP ?_;change iw _ _ _ _ _;refine aB M hI hn (by rfl) (by kernel_rfl) ?_ ?_
 ·simp;rw[hb1];omega
 refine aG (s':=⟨[(2,none,dh (.ow 3000 0 1 0 b.length))],[(3000,none,0,.arr 74 1 b.length (bH b))]⟩) (fun a w hg=>(hg.reset (kT:=[2]) (kO:=[3000]) (by rfl) ?_).same ?_ ?_) ?_
 ·simp;rw[app0]
  exact fun i _ x hx=>by
   have:x∈[_]:=hx;rw[List.mem_singleton] at this;subst this;rfl
 ·refine .cons ?_ .nil;change dh (.ow 3000 0 Tryz.prog.types[74].size 0 (0+b.length))=_;rw[hs1,Nat.zero_add]
 ·refine .cons (.arr ?_ (fun i hi=>?_)) .nil
  ·exact Nat.zero_add _
  ·rw[app0]
 refine aO (fun a w hg=>⟨.inr rfl,_,?_,hg⟩);refine aZv (x:=3000) (ah:=0) (g:=none) (f:=?_) (out:=?_) ?_ ?_ ?_ ?_ ?_ trivial ?_;rotate_left 2
 ·rfl
 ·simp
 ·rfl
 ·rfl
 ·rfl
 exact fun i hi=>⟨rfl,rfl⟩
theorem NH(b:List Int)(h0:0<b.length)(hl:b.length<=100000):Wp Tryz.prog a_ 160 [dh (.sl 1 b.length (qg b))] 5 1 b.length (qg b):=by
 have M:=zZ (I:=a_)
 have hb1:Tryz.prog.types[5].bytes=1:=by kernel_rfl
 have hs1:Tryz.prog.types[5].size=1:=by kernel_rfl
 refine aNn Tryz.func160 rfl rfl bP (fun A hS hn hI=>?_);refine aB M hI hn (by rfl) (by kernel_rfl) ?_ ?_
 ·simp
 refine aN ?_;refine aB M hI hn (by rfl) (by kernel_rfl) ?_ ?_
 ·simp;omega
 refine aH (by rfl) (fun hc=>?_) (fun hc=>?_)
 ·cases hc
 refine aP ?_;change iw _ _ _ _ _;refine aB M hI hn (by rfl) (by kernel_rfl) ?_ ?_
 ·simp;rw[hb1];omega
 refine aG (s':=⟨[(2,none,dh (.ow 3000 0 1 0 b.length))],[(3000,none,0,.arr 5 1 b.length (qg b))]⟩) (fun a w hg=>(hg.reset (kT:=[2]) (kO:=[3000]) (by rfl) ?_).same ?_ ?_) ?_
 ·simp;rw[app0]
  exact fun i _ x hx=>by
   have:x∈[_]:=hx;rw[List.mem_singleton] at this;subst this;rfl
 ·refine .cons ?_ .nil;change dh (.ow 3000 0 Tryz.prog.types[5].size 0 (0+b.length))=_;rw[hs1,Nat.zero_add]
 ·refine .cons (.arr ?_ (fun i hi=>?_)) .nil
  ·exact Nat.zero_add _
  ·rw[app0]
 refine aO (fun a w hg=>⟨.inr rfl,_,?_,hg⟩);refine aSs (x:=3000) (ah:=0) (g:=none) (f:=?_) (out:=?_) ?_ ?_ ?_ ?_ ?_ trivial ?_;rotate_left 2
 ·rfl
 ·simp
 ·rfl
 ·rfl
 ·rfl
 exact fun i hi=>⟨rfl,rfl⟩
def Gw:Spec:=aIm fun xs=>match xs with
 |[.w (.one (.sl 1 n f))]=>some (0<n/\n<=100000/\oI n f,74,1,(aY n f).length,bH (aY n f))
 |_=>none
theorem U7{C:Ctx}{n:Nat}{f:Nat->List PC}{v:Value}(hf:oI n f)(h:RV C (dh (.sl 1 n f)) v):RV C (dh (.sl 1 (aY n f).length (bH (aY n f)))) v:=by
 cases h with
 |w h=>cases h with
  |one h=>exact .w (.one (aEy hf h))
theorem ZA.args{P:Program}{I:World->Prop}{f:Nat}{args args':List PV}{e n len:Nat}{f':Nat->List PC}(h:ZA P I f args' e n len f')(hv:∀ C vs,mi C args vs->mi C args' vs):ZA P I f args e n len f':=fun w ok0 vs hI hV=>h w ok0 vs hI (hv _ _ hV)
theorem Wp.args{P:Program}{I:World->Prop}{f:Nat}{args args':List PV}{e n len:Nat}{f':Nat->List PC}(h:Wp P I f args' e n len f')(hv:∀ C vs,mi C args vs->mi C args' vs):Wp P I f args e n len f':=fun w ok0 vs hI hV=>h w ok0 vs hI (hv _ _ hV)
theorem RY:aj Tryz.prog a_ 159 Gw:=by
 refine aPs (aF Tryz.func159 (by kernel_rfl) rfl) (fun xs p e n len f' hg hp=>?_)
 split at hg
 ·rename_i n0 f0;cases hg;obtain⟨h0,h1,h2⟩:=hp
  exact (NI (aY n0 f0) (by rw[dM];exact h0) (by rw[dM];exact h1)).args fun C vs hv=>by
   match vs,hv with
   |[x],⟨k0,_⟩=>exact⟨U7 h2 k0,trivial⟩
 ·cases hg
def aOu(n:Nat)(g:Nat->List PC):Prop:=∀ j,j<n->bCl (g j)=true
def rowCell(n:Nat)(g:Nat->List PC):List Int:=(List.range n).map fun j=>Ak (g j)
theorem jO(l:List Int):rowCell l.length (qg l)=l:=aOk l
theorem NK{C:Ctx}{n:Nat}{g:Nat->List PC}{v:Value}(hf:aOu n g)(h:RV C (dh (.sl 1 n g)) v):RV C (dh (.sl 1 (rowCell n g).length (qg (rowCell n g)))) v:=by
 have hl:(rowCell n g).length=n:=by unfold rowCell;simp
 rw[hl]
 cases h with
 | w h=>cases h with
  |one h=>exact .w (.one (h.yx fun j hj=>by
   unfold qg rowCell;rw[kE n j (fun j=>Ak (g j)) hj]
   exact aJm (hf j hj)))
@[simp] theorem cO(n:Nat)(g:Nat->List PC):(rowCell n g).length=n:=by unfold rowCell;simp
theorem oO{b:List (List Int)}{nb nc:Nat}{cut:Bool}(h:nb<b.length):bH (su b (nb:Int) (nc:Int) cut) nb=Af ((b.getD nb []).set nc (eF (dD b (nb:Int) (nc:Int)) cut)):=by
 unfold bH su;rw[Int.toNat_natCast,zG,List.getElem?_set_self h];rfl
theorem sZ{b:List (List Int)}{nb nc:Nat}{cut:Bool}{i:Nat}(h:i≠nb):bH (su b (nb:Int) (nc:Int) cut) i=bH b i:=by
 unfold bH su;rw[Int.toNat_natCast,zG,List.getElem?_set_ne (fun e=>h e.symm),<-zG]
theorem sG{l:List Int}{nc:Nat}{x:Int}(h:nc<l.length){k:Nat}:(if k=nc then[PC.lit (.int .u8 x)] else qg l k)=qg (l.set nc x) k:=by
 unfold qg
 by_cases hk:k=nc
 ·subst hk;rw[if_pos rfl,zG,List.getElem?_set_self h];rfl
 ·rw[if_neg hk,zG,zG,List.getElem?_set_ne (fun e=>hk e.symm)]
theorem D_.vk{s:St}{new:Bool}{c:PC}{n len len':Nat}{f:Nat->List PC}(e:len'=len)(h:D_ s new c (.sl n len' f)):D_ s new c (.sl n len f):=by subst e;exact h
theorem jQ(b:List (List Int))(ay cell:Int)(cut:Bool):(su b ay cell cut).length=b.length:=List.length_set ..
def Gu:Spec:=aIn fun xs=>match xs with
 |[.w (.one (.sl 1 n f))]=>some (0<n/\n<=100000/\aOu n f,5,1,(rowCell n f).length,qg (rowCell n f))
 |_=>none
theorem RU:aj Tryz.prog a_ 160 Gu:=by
 refine aGk (aF Tryz.func160 (by kernel_rfl) rfl) (fun xs p e n len f' hg hp=>?_)
 split at hg
 ·rename_i n0 f0;cases hg;obtain⟨h0,h1,h2⟩:=hp
  have hl:(rowCell n0 f0).length=n0:=by unfold rowCell;simp
  exact (NH (rowCell n0 f0) (by rw[hl];exact h0) (by rw[hl];exact h1)).args fun C vs hv=>by
   match vs,hv with
   |[x],⟨k0,_⟩=>exact⟨NK h2 k0,trivial⟩
 ·cases hg
def puL:List (Nat×Spec):=[(157,bD true exG),(159,Gw),(160,Gu)]
theorem Zp:∀ p∈puL,aj Tryz.prog a_ p.1 p.2:=by
 intro p hp;simp only[puL,List.mem_cons,List.not_mem_nil,or_false] at hp;rcases hp with rfl|rfl|rfl
 ·exact aAy
 ·exact RY
 ·exact RU
theorem puM:l_ Tryz.prog a_ (find puL):=⟨bV Zp,fC⟩
def Nq(b:List (List Int))(e:Int):PV:=.lh [.agg (AP b),.one (.lit (.int .i64 e))]
def DU(b:List (List Int))(nb nc:Nat)(x:Int):St:=⟨[(1,none,h_ (nb:Int)),(2,none,h_ (nc:Int)),(4,none,dh (.pt 0 0 0)),(8,none,dh (.pt 1 0 0)),(10,none,l9 (.int .u8 x))],[(0,none,0,.box 60 (AP b)),(1,none,0,.box 60 [.lit (.slice none 0 0)])]⟩
theorem Il(b:List (List Int))(nc:Nat)(cut:Bool)(hl4:b.length<=1000)(hlb:∀ l∈b,l.length<=100000)(hv:∀ l∈b,∀ x∈l,0<=x/\x<=3)(he:BA b 2 (nc:Int)=true):gU Tryz.prog a_ 125 false [.w (.agg (AP b)),h_ ((2:Nat):Int),h_ (nc:Int),rq cut] (Nq (su b 2 (nc:Int) cut) 0):=by
 have M:=puM;have hex:=aTz he;refine bJ Tryz.func125 rfl rfl bP (fun A hS hn hI=>?_);refine aB M hI hn (by rfl) (by kernel_rfl) ?_ ?_
 ·simp
 refine aN ?_;refine aB M hI hn (by rfl) (by kernel_rfl) ?_ ?_
 ·simp
 rw[aK,show ((2:Nat):Int)=2 from rfl,he];refine aH (by rfl) (fun hc=>?_) (fun hc=>?_)
 ·cases hc
 refine aP ?_;change iw _ _ _ _ _;refine aB M hI hn (by rfl) (by kernel_rfl) ?_ ?_
 ·simp
 have h2b:2<b.length:=by have:=hex.1.2;omega
 have hlm:b.getD 2 []∈b:=getD_mem h2b [];have hcl:(nc:Int)<((b.getD 2 []).length:Int):=hex.2.2;have hcm:0<=dD b 2 (nc:Int)/\dD b 2 (nc:Int)<=3:=hv _ hlm _ (getD_mem (by omega) 0);refine aN ?_;refine aB M hI hn (by rfl) (by kernel_rfl) ?_ ?_
 ·simp
 refine aH (by rfl) (fun hc=>?_) (fun hc=>?_)
 ·have hcut:cut=true:=hc;refine aQ M hI hn (by rfl) (by kernel_rfl) ?_ ?_
  ·simp
  change iw _ _ _ _ _;refine aN ?_;refine aB M hI hn (by rfl) (by kernel_rfl) ?_ ?_
  ·simp;rw[<-zG];omega
  refine aB M hI hn (by rfl) (by kernel_rfl) ?_ ?_
  ·simp
  refine aH (by rfl) (fun hc=>?_) (fun hc=>?_)
  ·have hc2:(bif dD b 2 (nc:Int)==2 then true else dD b 2 (nc:Int)==3)=true:=hc
   have hx:eF (dD b 2 (nc:Int)) cut=dD b 2 (nc:Int):=by
    unfold eF
    have h5:¬dD b 2 (nc:Int)<=1:=fun h=>by
     by_cases h2:dD b 2 (nc:Int)=2
     ·omega
     ·rw[beq_eq_false_iff_ne.2 h2] at hc2;have h3:=eq_of_beq hc2;omega
    rw[if_neg h5]
   refine aQ M hI hn (by rfl) (by kernel_rfl) ?_ ?_
   ·simp
   change iw _ _ _ _ _;refine aG (s':=DU b 2 nc (eF (dD b 2 (nc:Int)) cut)) (fun a w hg=>(hg.reset (kT:=[1,2,4,8,10]) (kO:=[0,1]) (by rfl) (by simp)).same ?_ ?_) ?_
   ·exact .cons rfl (.cons rfl (.cons rfl (.cons rfl (.cons (congrArg (fun z=>l9 (.int .u8 z)) hx.symm) .nil))))
   ·exact .cons (.box rfl) (.cons (.box rfl) .nil)
   refine aB M hI hn (by rfl) (by kernel_rfl) ?_ ?_
   ·simp;omega
   refine aB M hI hn (by rfl) (by kernel_rfl) ?_ ?_
   ·simp;rw[<-zG]
    exact⟨by omega,by omega,⟨by omega,hlb _ hlm,fun _ _=>rfl⟩,by omega,by omega⟩
   refine aB M hI hn (by rfl) (by kernel_rfl) ?_ ?_
   ·simp;rw[<-zG];omega
   refine aB M hI hn (by rfl) (by kernel_rfl) ?_ ?_
   ·simp
   refine aO (fun a w hg=>⟨.inr rfl,_,?_,hg⟩);unfold Nq AP;rw[jQ];refine kH (by rfl) (by simp) (by rfl) ?_;refine .lh (.cons (.agg (.cons ?_ .nil)) (.cons (.one (.cold rfl)) .nil));have e9:(aY b.length (bH b)).length=b.length:=dM _ _;refine D_.vk e9 (.rows rfl trivial (by omega) (fun i hi=>?_));rw[Nat.zero_add]
   by_cases hi2:i=2
   ·subst hi2;refine .inr ⟨10008,0,1,0,(b.getD 2 []).length,_,_,_,_,qg ((b.getD 2 []).set nc (eF (dD b 2 (nc:Int)) cut)),?_,?_,rfl,trivial,?_,fun k hk=>⟨?_,rfl⟩⟩
    ·change [PC.ow 10008 0 1 0 (rowCell ((aY b.length (bH b)).getD 2 []).length (qg ((aY b.length (bH b)).getD 2 []))).length]=_;rw[aK,cO]
    ·rw[show (2:Int)=((2:Nat):Int) from rfl,oO h2b];unfold Af;rw[List.length_set]
    ·change 0+(b.getD 2 []).length<=(rowCell ((aY b.length (bH b)).getD 2 []).length (qg ((aY b.length (bH b)).getD 2 []))).length;rw[aK,cO];omega
    ·rw[Nat.zero_add];change (if k=0+(nc:Int).toNat then[PC.lit (.int .u8 (eF (dD b 2 (nc:Int)) cut))] else qg (rowCell ((aY b.length (bH b)).getD 2 []).length (qg ((aY b.length (bH b)).getD 2 []))) k)=_;rw[aK,jO,Int.toNat_natCast,Nat.zero_add];exact sG (by omega)
   ·refine .inl ⟨?_,rfl⟩;rw[if_neg (by rw[Nat.zero_add];exact hi2),aK];exact (sZ (nb:=2) hi2).symm
  ·have hc2:(bif dD b 2 (nc:Int)==2 then true else dD b 2 (nc:Int)==3)=false:=hc
   have hx:eF (dD b 2 (nc:Int)) cut=1:=by
    unfold eF
    have h5:dD b 2 (nc:Int)<=1:=by
     by_cases h2:dD b 2 (nc:Int)=2
     ·rw[h2] at hc2;cases hc2
     ·rw[beq_eq_false_iff_ne.2 h2] at hc2
      by_cases h3:dD b 2 (nc:Int)=3
      ·rw[h3] at hc2;cases hc2
      ·omega
    rw[if_pos h5,hcut];rfl
   refine aP ?_;change iw _ _ _ _ _;refine aG (s':=DU b 2 nc (eF (dD b 2 (nc:Int)) cut)) (fun a w hg=>(hg.reset (kT:=[1,2,4,8,10]) (kO:=[0,1]) (by rfl) (by simp)).same ?_ ?_) ?_
   ·exact .cons rfl (.cons rfl (.cons rfl (.cons rfl (.cons (congrArg (fun z=>l9 (.int .u8 z)) hx.symm) .nil))))
   ·exact .cons (.box rfl) (.cons (.box rfl) .nil)
   refine aB M hI hn (by rfl) (by kernel_rfl) ?_ ?_
   ·simp;omega
   refine aB M hI hn (by rfl) (by kernel_rfl) ?_ ?_
   ·simp;rw[<-zG]
    exact⟨by omega,by omega,⟨by omega,hlb _ hlm,fun _ _=>rfl⟩,by omega,by omega⟩
   refine aB M hI hn (by rfl) (by kernel_rfl) ?_ ?_
   ·simp;rw[<-zG];omega
   refine aB M hI hn (by rfl) (by kernel_rfl) ?_ ?_
   ·simp
   refine aO (fun a w hg=>⟨.inr rfl,_,?_,hg⟩);unfold Nq AP;rw[jQ];refine kH (by rfl) (by simp) (by rfl) ?_;refine .lh (.cons (.agg (.cons ?_ .nil)) (.cons (.one (.cold rfl)) .nil));have e9:(aY b.length (bH b)).length=b.length:=dM _ _;refine D_.vk e9 (.rows rfl trivial (by omega) (fun i hi=>?_));rw[Nat.zero_add]
   by_cases hi2:i=2
   ·subst hi2;refine .inr ⟨10008,0,1,0,(b.getD 2 []).length,_,_,_,_,qg ((b.getD 2 []).set nc (eF (dD b 2 (nc:Int)) cut)),?_,?_,rfl,trivial,?_,fun k hk=>⟨?_,rfl⟩⟩
    ·change [PC.ow 10008 0 1 0 (rowCell ((aY b.length (bH b)).getD 2 []).length (qg ((aY b.length (bH b)).getD 2 []))).length]=_;rw[aK,cO]
    ·rw[show (2:Int)=((2:Nat):Int) from rfl,oO h2b];unfold Af;rw[List.length_set]
    ·change 0+(b.getD 2 []).length<=(rowCell ((aY b.length (bH b)).getD 2 []).length (qg ((aY b.length (bH b)).getD 2 []))).length;rw[aK,cO];omega
    ·rw[Nat.zero_add];change (if k=0+(nc:Int).toNat then[PC.lit (.int .u8 (eF (dD b 2 (nc:Int)) cut))] else qg (rowCell ((aY b.length (bH b)).getD 2 []).length (qg ((aY b.length (bH b)).getD 2 []))) k)=_;rw[aK,jO,Int.toNat_natCast,Nat.zero_add];exact sG (by omega)
   ·refine .inl ⟨?_,rfl⟩;rw[if_neg (by rw[Nat.zero_add];exact hi2),aK];exact (sZ (nb:=2) hi2).symm
 ·have hcut:cut=false:=hc;refine aP ?_;change iw _ _ _ _ _;refine aN ?_;refine aB M hI hn (by rfl) (by kernel_rfl) ?_ ?_
  ·simp;rw[<-zG];omega
  refine aB M hI hn (by rfl) (by kernel_rfl) ?_ ?_
  ·simp
  refine aH (by rfl) (fun hc=>?_) (fun hc=>?_)
  ·have hc2:(bif dD b 2 (nc:Int)==2 then true else dD b 2 (nc:Int)==3)=true:=hc
   have hx:eF (dD b 2 (nc:Int)) cut=dD b 2 (nc:Int):=by
    unfold eF
    have h5:¬dD b 2 (nc:Int)<=1:=fun h=>by
     by_cases h2:dD b 2 (nc:Int)=2
     ·omega
     ·rw[beq_eq_false_iff_ne.2 h2] at hc2;have h3:=eq_of_beq hc2;omega
    rw[if_neg h5]
   refine aQ M hI hn (by rfl) (by kernel_rfl) ?_ ?_
   ·simp
   change iw _ _ _ _ _;refine aG (s':=DU b 2 nc (eF (dD b 2 (nc:Int)) cut)) (fun a w hg=>(hg.reset (kT:=[1,2,4,8,10]) (kO:=[0,1]) (by rfl) (by simp)).same ?_ ?_) ?_
   ·exact .cons rfl (.cons rfl (.cons rfl (.cons rfl (.cons (congrArg (fun z=>l9 (.int .u8 z)) hx.symm) .nil))))
   ·exact .cons (.box rfl) (.cons (.box rfl) .nil)
   refine aB M hI hn (by rfl) (by kernel_rfl) ?_ ?_
   ·simp;omega
   refine aB M hI hn (by rfl) (by kernel_rfl) ?_ ?_
   ·simp;rw[<-zG]
    exact⟨by omega,by omega,⟨by omega,hlb _ hlm,fun _ _=>rfl⟩,by omega,by omega⟩
   refine aB M hI hn (by rfl) (by kernel_rfl) ?_ ?_
   ·simp;rw[<-zG];omega
   refine aB M hI hn (by rfl) (by kernel_rfl) ?_ ?_
   ·simp
   refine aO (fun a w hg=>⟨.inr rfl,_,?_,hg⟩);unfold Nq AP;rw[jQ];refine kH (by rfl) (by simp) (by rfl) ?_;refine .lh (.cons (.agg (.cons ?_ .nil)) (.cons (.one (.cold rfl)) .nil));have e9:(aY b.length (bH b)).length=b.length:=dM _ _;refine D_.vk e9 (.rows rfl trivial (by omega) (fun i hi=>?_));rw[Nat.zero_add]
   by_cases hi2:i=2
   ·subst hi2;refine .inr ⟨10008,0,1,0,(b.getD 2 []).length,_,_,_,_,qg ((b.getD 2 []).set nc (eF (dD b 2 (nc:Int)) cut)),?_,?_,rfl,trivial,?_,fun k hk=>⟨?_,rfl⟩⟩
    ·change [PC.ow 10008 0 1 0 (rowCell ((aY b.length (bH b)).getD 2 []).length (qg ((aY b.length (bH b)).getD 2 []))).length]=_;rw[aK,cO]
    ·rw[show (2:Int)=((2:Nat):Int) from rfl,oO h2b];unfold Af;rw[List.length_set]
    ·change 0+(b.getD 2 []).length<=(rowCell ((aY b.length (bH b)).getD 2 []).length (qg ((aY b.length (bH b)).getD 2 []))).length;rw[aK,cO];omega
    ·rw[Nat.zero_add];change (if k=0+(nc:Int).toNat then[PC.lit (.int .u8 (eF (dD b 2 (nc:Int)) cut))] else qg (rowCell ((aY b.length (bH b)).getD 2 []).length (qg ((aY b.length (bH b)).getD 2 []))) k)=_;rw[aK,jO,Int.toNat_natCast,Nat.zero_add];exact sG (by omega)
   ·refine .inl ⟨?_,rfl⟩;rw[if_neg (by rw[Nat.zero_add];exact hi2),aK];exact (sZ (nb:=2) hi2).symm
  ·have hc2:(bif dD b 2 (nc:Int)==2 then true else dD b 2 (nc:Int)==3)=false:=hc
   have hx:eF (dD b 2 (nc:Int)) cut=2:=by
    unfold eF
    have h5:dD b 2 (nc:Int)<=1:=by
     by_cases h2:dD b 2 (nc:Int)=2
     ·rw[h2] at hc2;cases hc2
     ·rw[beq_eq_false_iff_ne.2 h2] at hc2
      by_cases h3:dD b 2 (nc:Int)=3
      ·rw[h3] at hc2;cases hc2
      ·omega
    rw[if_pos h5,hcut];rfl
   refine aP ?_;change iw _ _ _ _ _;refine aG (s':=DU b 2 nc (eF (dD b 2 (nc:Int)) cut)) (fun a w hg=>(hg.reset (kT:=[1,2,4,8,10]) (kO:=[0,1]) (by rfl) (by simp)).same ?_ ?_) ?_
   ·exact .cons rfl (.cons rfl (.cons rfl (.cons rfl (.cons (congrArg (fun z=>l9 (.int .u8 z)) hx.symm) .nil))))
   ·exact .cons (.box rfl) (.cons (.box rfl) .nil)
   refine aB M hI hn (by rfl) (by kernel_rfl) ?_ ?_
   ·simp;omega
   refine aB M hI hn (by rfl) (by kernel_rfl) ?_ ?_
   ·simp;rw[<-zG]
    exact⟨by omega,by omega,⟨by omega,hlb _ hlm,fun _ _=>rfl⟩,by omega,by omega⟩
   refine aB M hI hn (by rfl) (by kernel_rfl) ?_ ?_
   ·simp;rw[<-zG];omega
   refine aB M hI hn (by rfl) (by kernel_rfl) ?_ ?_
   ·simp
   refine aO (fun a w hg=>⟨.inr rfl,_,?_,hg⟩);unfold Nq AP;rw[jQ];refine kH (by rfl) (by simp) (by rfl) ?_;refine .lh (.cons (.agg (.cons ?_ .nil)) (.cons (.one (.cold rfl)) .nil));have e9:(aY b.length (bH b)).length=b.length:=dM _ _;refine D_.vk e9 (.rows rfl trivial (by omega) (fun i hi=>?_));rw[Nat.zero_add]
   by_cases hi2:i=2
   ·subst hi2;refine .inr ⟨10008,0,1,0,(b.getD 2 []).length,_,_,_,_,qg ((b.getD 2 []).set nc (eF (dD b 2 (nc:Int)) cut)),?_,?_,rfl,trivial,?_,fun k hk=>⟨?_,rfl⟩⟩
    ·change [PC.ow 10008 0 1 0 (rowCell ((aY b.length (bH b)).getD 2 []).length (qg ((aY b.length (bH b)).getD 2 []))).length]=_;rw[aK,cO]
    ·rw[show (2:Int)=((2:Nat):Int) from rfl,oO h2b];unfold Af;rw[List.length_set]
    ·change 0+(b.getD 2 []).length<=(rowCell ((aY b.length (bH b)).getD 2 []).length (qg ((aY b.length (bH b)).getD 2 []))).length;rw[aK,cO];omega
    ·rw[Nat.zero_add];change (if k=0+(nc:Int).toNat then[PC.lit (.int .u8 (eF (dD b 2 (nc:Int)) cut))] else qg (rowCell ((aY b.length (bH b)).getD 2 []).length (qg ((aY b.length (bH b)).getD 2 []))) k)=_;rw[aK,jO,Int.toNat_natCast,Nat.zero_add];exact sG (by omega)
   ·refine .inl ⟨?_,rfl⟩;rw[if_neg (by rw[Nat.zero_add];exact hi2),aK];exact (sZ (nb:=2) hi2).symm
theorem Ik(b:List (List Int))(nc:Nat)(cut:Bool)(hl4:b.length<=1000)(hlb:∀ l∈b,l.length<=100000)(hv:∀ l∈b,∀ x∈l,0<=x/\x<=3)(he:BA b 3 (nc:Int)=true):gU Tryz.prog a_ 125 false [.w (.agg (AP b)),h_ ((3:Nat):Int),h_ (nc:Int),rq cut] (Nq (su b 3 (nc:Int) cut) 0):=by
 have M:=puM;have hex:=aTz he;refine bJ Tryz.func125 rfl rfl bP (fun A hS hn hI=>?_);refine aB M hI hn (by rfl) (by kernel_rfl) ?_ ?_
 ·simp
 refine aN ?_;refine aB M hI hn (by rfl) (by kernel_rfl) ?_ ?_
 ·simp
 rw[aK,show ((3:Nat):Int)=3 from rfl,he];refine aH (by rfl) (fun hc=>?_) (fun hc=>?_)
 ·cases hc
 refine aP ?_;change iw _ _ _ _ _;refine aB M hI hn (by rfl) (by kernel_rfl) ?_ ?_
 ·simp
 have h2b:3<b.length:=by have:=hex.1.2;omega
 have hlm:b.getD 3 []∈b:=getD_mem h2b [];have hcl:(nc:Int)<((b.getD 3 []).length:Int):=hex.2.2;have hcm:0<=dD b 3 (nc:Int)/\dD b 3 (nc:Int)<=3:=hv _ hlm _ (getD_mem (by omega) 0);refine aN ?_;refine aB M hI hn (by rfl) (by kernel_rfl) ?_ ?_
 ·simp
 refine aH (by rfl) (fun hc=>?_) (fun hc=>?_)
 ·have hcut:cut=true:=hc;refine aQ M hI hn (by rfl) (by kernel_rfl) ?_ ?_
  ·simp
  change iw _ _ _ _ _;refine aN ?_;refine aB M hI hn (by rfl) (by kernel_rfl) ?_ ?_
  ·simp;rw[<-zG];omega
  refine aB M hI hn (by rfl) (by kernel_rfl) ?_ ?_
  ·simp
  refine aH (by rfl) (fun hc=>?_) (fun hc=>?_)
  ·have hc2:(bif dD b 3 (nc:Int)==2 then true else dD b 3 (nc:Int)==3)=true:=hc
   have hx:eF (dD b 3 (nc:Int)) cut=dD b 3 (nc:Int):=by
    unfold eF
    have h5:¬dD b 3 (nc:Int)<=1:=fun h=>by
     by_cases h2:dD b 3 (nc:Int)=2
     ·omega
     ·rw[beq_eq_false_iff_ne.2 h2] at hc2;have h3:=eq_of_beq hc2;omega
    rw[if_neg h5]
   refine aQ M hI hn (by rfl) (by kernel_rfl) ?_ ?_
   ·simp
   change iw _ _ _ _ _;refine aG (s':=DU b 3 nc (eF (dD b 3 (nc:Int)) cut)) (fun a w hg=>(hg.reset (kT:=[1,2,4,8,10]) (kO:=[0,1]) (by rfl) (by simp)).same ?_ ?_) ?_
   ·exact .cons rfl (.cons rfl (.cons rfl (.cons rfl (.cons (congrArg (fun z=>l9 (.int .u8 z)) hx.symm) .nil))))
   ·exact .cons (.box rfl) (.cons (.box rfl) .nil)
   refine aB M hI hn (by rfl) (by kernel_rfl) ?_ ?_
   ·simp;omega
   refine aB M hI hn (by rfl) (by kernel_rfl) ?_ ?_
   ·simp;rw[<-zG]
    exact⟨by omega,by omega,⟨by omega,hlb _ hlm,fun _ _=>rfl⟩,by omega,by omega⟩
   refine aB M hI hn (by rfl) (by kernel_rfl) ?_ ?_
   ·simp;rw[<-zG];omega
   refine aB M hI hn (by rfl) (by kernel_rfl) ?_ ?_
   ·simp
   refine aO (fun a w hg=>⟨.inr rfl,_,?_,hg⟩);unfold Nq AP;rw[jQ];refine kH (by rfl) (by simp) (by rfl) ?_;refine .lh (.cons (.agg (.cons ?_ .nil)) (.cons (.one (.cold rfl)) .nil));have e9:(aY b.length (bH b)).length=b.length:=dM _ _;refine D_.vk e9 (.rows rfl trivial (by omega) (fun i hi=>?_));rw[Nat.zero_add]
   by_cases hi2:i=3
   ·subst hi2;refine .inr ⟨10008,0,1,0,(b.getD 3 []).length,_,_,_,_,qg ((b.getD 3 []).set nc (eF (dD b 3 (nc:Int)) cut)),?_,?_,rfl,trivial,?_,fun k hk=>⟨?_,rfl⟩⟩
    ·change [PC.ow 10008 0 1 0 (rowCell ((aY b.length (bH b)).getD 3 []).length (qg ((aY b.length (bH b)).getD 3 []))).length]=_;rw[aK,cO]
    ·rw[show (3:Int)=((3:Nat):Int) from rfl,oO h2b];unfold Af;rw[List.length_set]
    ·change 0+(b.getD 3 []).length<=(rowCell ((aY b.length (bH b)).getD 3 []).length (qg ((aY b.length (bH b)).getD 3 []))).length;rw[aK,cO];omega
    ·rw[Nat.zero_add];change (if k=0+(nc:Int).toNat then[PC.lit (.int .u8 (eF (dD b 3 (nc:Int)) cut))] else qg (rowCell ((aY b.length (bH b)).getD 3 []).length (qg ((aY b.length (bH b)).getD 3 []))) k)=_;rw[aK,jO,Int.toNat_natCast,Nat.zero_add];exact sG (by omega)
   ·refine .inl ⟨?_,rfl⟩;rw[if_neg (by rw[Nat.zero_add];exact hi2),aK];exact (sZ (nb:=3) hi2).symm
  ·have hc2:(bif dD b 3 (nc:Int)==2 then true else dD b 3 (nc:Int)==3)=false:=hc
   have hx:eF (dD b 3 (nc:Int)) cut=1:=by
    unfold eF
    have h5:dD b 3 (nc:Int)<=1:=by
     by_cases h2:dD b 3 (nc:Int)=2
     ·rw[h2] at hc2;cases hc2
     ·rw[beq_eq_false_iff_ne.2 h2] at hc2
      by_cases h3:dD b 3 (nc:Int)=3
      ·rw[h3] at hc2;cases hc2
      ·omega
    rw[if_pos h5,hcut];rfl
   refine aP ?_;change iw _ _ _ _ _;refine aG (s':=DU b 3 nc (eF (dD b 3 (nc:Int)) cut)) (fun a w hg=>(hg.reset (kT:=[1,2,4,8,10]) (kO:=[0,1]) (by rfl) (by simp)).same ?_ ?_) ?_
   ·exact .cons rfl (.cons rfl (.cons rfl (.cons rfl (.cons (congrArg (fun z=>l9 (.int .u8 z)) hx.symm) .nil))))
   ·exact .cons (.box rfl) (.cons (.box rfl) .nil)
   refine aB M hI hn (by rfl) (by kernel_rfl) ?_ ?_
   ·simp;omega
   refine aB M hI hn (by rfl) (by kernel_rfl) ?_ ?_
   ·simp;rw[<-zG]
    exact⟨by omega,by omega,⟨by omega,hlb _ hlm,fun _ _=>rfl⟩,by omega,by omega⟩
   refine aB M hI hn (by rfl) (by kernel_rfl) ?_ ?_
   ·simp;rw[<-zG];omega
   refine aB M hI hn (by rfl) (by kernel_rfl) ?_ ?_
   ·simp
   refine aO (fun a w hg=>⟨.inr rfl,_,?_,hg⟩);unfold Nq AP;rw[jQ];refine kH (by rfl) (by simp) (by rfl) ?_;refine .lh (.cons (.agg (.cons ?_ .nil)) (.cons (.one (.cold rfl)) .nil));have e9:(aY b.length (bH b)).length=b.length:=dM _ _;refine D_.vk e9 (.rows rfl trivial (by omega) (fun i hi=>?_));rw[Nat.zero_add]
   by_cases hi2:i=3
   ·subst hi2;refine .inr ⟨10008,0,1,0,(b.getD 3 []).length,_,_,_,_,qg ((b.getD 3 []).set nc (eF (dD b 3 (nc:Int)) cut)),?_,?_,rfl,trivial,?_,fun k hk=>⟨?_,rfl⟩⟩
    ·change [PC.ow 10008 0 1 0 (rowCell ((aY b.length (bH b)).getD 3 []).length (qg ((aY b.length (bH b)).getD 3 []))).length]=_;rw[aK,cO]
    ·rw[show (3:Int)=((3:Nat):Int) from rfl,oO h2b];unfold Af;rw[List.length_set]
    ·change 0+(b.getD 3 []).length<=(rowCell ((aY b.length (bH b)).getD 3 []).length (qg ((aY b.length (bH b)).getD 3 []))).length;rw[aK,cO];omega
    ·rw[Nat.zero_add];change (if k=0+(nc:Int).toNat then[PC.lit (.int .u8 (eF (dD b 3 (nc:Int)) cut))] else qg (rowCell ((aY b.length (bH b)).getD 3 []).length (qg ((aY b.length (bH b)).getD 3 []))) k)=_;rw[aK,jO,Int.toNat_natCast,Nat.zero_add];exact sG (by omega)
   ·refine .inl ⟨?_,rfl⟩;rw[if_neg (by rw[Nat.zero_add];exact hi2),aK];exact (sZ (nb:=3) hi2).symm
 ·have hcut:cut=false:=hc;refine aP ?_;change iw _ _ _ _ _;refine aN ?_;refine aB M hI hn (by rfl) (by kernel_rfl) ?_ ?_
  ·simp;rw[<-zG];omega
  refine aB M hI hn (by rfl) (by kernel_rfl) ?_ ?_
  ·simp
  refine aH (by rfl) (fun hc=>?_) (fun hc=>?_)
  ·have hc2:(bif dD b 3 (nc:Int)==2 then true else dD b 3 (nc:Int)==3)=true:=hc
   have hx:eF (dD b 3 (nc:Int)) cut=dD b 3 (nc:Int):=by
    unfold eF
    have h5:¬dD b 3 (nc:Int)<=1:=fun h=>by
     by_cases h2:dD b 3 (nc:Int)=2
     ·omega
     ·rw[beq_eq_false_iff_ne.2 h2] at hc2;have h3:=eq_of_beq hc2;omega
    rw[if_neg h5]
   refine aQ M hI hn (by rfl) (by kernel_rfl) ?_ ?_
   ·simp
   change iw _ _ _ _ _;refine aG (s':=DU b 3 nc (eF (dD b 3 (nc:Int)) cut)) (fun a w hg=>(hg.reset (kT:=[1,2,4,8,10]) (kO:=[0,1]) (by rfl) (by simp)).same ?_ ?_) ?_
   ·exact .cons rfl (.cons rfl (.cons rfl (.cons rfl (.cons (congrArg (fun z=>l9 (.int .u8 z)) hx.symm) .nil))))
   ·exact .cons (.box rfl) (.cons (.box rfl) .nil)
   refine aB M hI hn (by rfl) (by kernel_rfl) ?_ ?_
   ·simp;omega
   refine aB M hI hn (by rfl) (by kernel_rfl) ?_ ?_
   ·simp;rw[<-zG]
    exact⟨by omega,by omega,⟨by omega,hlb _ hlm,fun _ _=>rfl⟩,by omega,by omega⟩
   refine aB M hI hn (by rfl) (by kernel_rfl) ?_ ?_
   ·simp;rw[<-zG];omega
   refine aB M hI hn (by rfl) (by kernel_rfl) ?_ ?_
   ·simp
   refine aO (fun a w hg=>⟨.inr rfl,_,?_,hg⟩);unfold Nq AP;rw[jQ];refine kH (by rfl) (by simp) (by rfl) ?_;refine .lh (.cons (.agg (.cons ?_ .nil)) (.cons (.one (.cold rfl)) .nil));have e9:(aY b.length (bH b)).length=b.length:=dM _ _;refine D_.vk e9 (.rows rfl trivial (by omega) (fun i hi=>?_));rw[Nat.zero_add]
   by_cases hi2:i=3
   ·subst hi2;refine .inr ⟨10008,0,1,0,(b.getD 3 []).length,_,_,_,_,qg ((b.getD 3 []).set nc (eF (dD b 3 (nc:Int)) cut)),?_,?_,rfl,trivial,?_,fun k hk=>⟨?_,rfl⟩⟩
    ·change [PC.ow 10008 0 1 0 (rowCell ((aY b.length (bH b)).getD 3 []).length (qg ((aY b.length (bH b)).getD 3 []))).length]=_;rw[aK,cO]
    ·rw[show (3:Int)=((3:Nat):Int) from rfl,oO h2b];unfold Af;rw[List.length_set]
    ·change 0+(b.getD 3 []).length<=(rowCell ((aY b.length (bH b)).getD 3 []).length (qg ((aY b.length (bH b)).getD 3 []))).length;rw[aK,cO];omega
    ·rw[Nat.zero_add];change (if k=0+(nc:Int).toNat then[PC.lit (.int .u8 (eF (dD b 3 (nc:Int)) cut))] else qg (rowCell ((aY b.length (bH b)).getD 3 []).length (qg ((aY b.length (bH b)).getD 3 []))) k)=_;rw[aK,jO,Int.toNat_natCast,Nat.zero_add];exact sG (by omega)
   ·refine .inl ⟨?_,rfl⟩;rw[if_neg (by rw[Nat.zero_add];exact hi2),aK];exact (sZ (nb:=3) hi2).symm
  ·have hc2:(bif dD b 3 (nc:Int)==2 then true else dD b 3 (nc:Int)==3)=false:=hc
   have hx:eF (dD b 3 (nc:Int)) cut=2:=by
    unfold eF
    have h5:dD b 3 (nc:Int)<=1:=by
     by_cases h2:dD b 3 (nc:Int)=2
     ·rw[h2] at hc2;cases hc2
     ·rw[beq_eq_false_iff_ne.2 h2] at hc2
      by_cases h3:dD b 3 (nc:Int)=3
      ·rw[h3] at hc2;cases hc2
      ·omega
    rw[if_pos h5,hcut];rfl
   refine aP ?_;change iw _ _ _ _ _;refine aG (s':=DU b 3 nc (eF (dD b 3 (nc:Int)) cut)) (fun a w hg=>(hg.reset (kT:=[1,2,4,8,10]) (kO:=[0,1]) (by rfl) (by simp)).same ?_ ?_) ?_
   ·exact .cons rfl (.cons rfl (.cons rfl (.cons rfl (.cons (congrArg (fun z=>l9 (.int .u8 z)) hx.symm) .nil))))
   ·exact .cons (.box rfl) (.cons (.box rfl) .nil)
   refine aB M hI hn (by rfl) (by kernel_rfl) ?_ ?_
   ·simp;omega
   refine aB M hI hn (by rfl) (by kernel_rfl) ?_ ?_
   ·simp;rw[<-zG]
    exact⟨by omega,by omega,⟨by omega,hlb _ hlm,fun _ _=>rfl⟩,by omega,by omega⟩
   refine aB M hI hn (by rfl) (by kernel_rfl) ?_ ?_
   ·simp;rw[<-zG];omega
   refine aB M hI hn (by rfl) (by kernel_rfl) ?_ ?_
   ·simp
   refine aO (fun a w hg=>⟨.inr rfl,_,?_,hg⟩);unfold Nq AP;rw[jQ];refine kH (by rfl) (by simp) (by rfl) ?_;refine .lh (.cons (.agg (.cons ?_ .nil)) (.cons (.one (.cold rfl)) .nil));have e9:(aY b.length (bH b)).length=b.length:=dM _ _;refine D_.vk e9 (.rows rfl trivial (by omega) (fun i hi=>?_));rw[Nat.zero_add]
   by_cases hi2:i=3
   ·subst hi2;refine .inr ⟨10008,0,1,0,(b.getD 3 []).length,_,_,_,_,qg ((b.getD 3 []).set nc (eF (dD b 3 (nc:Int)) cut)),?_,?_,rfl,trivial,?_,fun k hk=>⟨?_,rfl⟩⟩
    ·change [PC.ow 10008 0 1 0 (rowCell ((aY b.length (bH b)).getD 3 []).length (qg ((aY b.length (bH b)).getD 3 []))).length]=_;rw[aK,cO]
    ·rw[show (3:Int)=((3:Nat):Int) from rfl,oO h2b];unfold Af;rw[List.length_set]
    ·change 0+(b.getD 3 []).length<=(rowCell ((aY b.length (bH b)).getD 3 []).length (qg ((aY b.length (bH b)).getD 3 []))).length;rw[aK,cO];omega
    ·rw[Nat.zero_add];change (if k=0+(nc:Int).toNat then[PC.lit (.int .u8 (eF (dD b 3 (nc:Int)) cut))] else qg (rowCell ((aY b.length (bH b)).getD 3 []).length (qg ((aY b.length (bH b)).getD 3 []))) k)=_;rw[aK,jO,Int.toNat_natCast,Nat.zero_add];exact sG (by omega)
   ·refine .inl ⟨?_,rfl⟩;rw[if_neg (by rw[Nat.zero_add];exact hi2),aK];exact (sZ (nb:=3) hi2).symm
def UY:List PV->Option (Prop×PV)
 |[.w (.agg [.sl 1 n f]),.w (.one (.lit (.int .i64 bk))),.w (.one (.lit (.int .i64 c))),.w (.one (.lit (.bool cut)))]=>some (oI n f/\n<=1000/\(∀ l∈aY n f,l.length<=100000)/\(∀ l∈aY n f,∀ x∈l,0<=x/\x<=3)/\(bk=2\/bk=3)/\BA (aY n f) bk c=true,Nq (su (aY n f) bk c cut) 0)
 |_=>none
theorem Io:aj Tryz.prog a_ 125 (bD false UY):=by
 refine aZ (aF Tryz.func125 (by kernel_rfl) rfl) (fun xs p r hg hp w ok0 vs hI hv=>?_);unfold UY at hg
 split at hg
 ·rename_i n f bk c cut;cases hg;obtain⟨h1,h2,h3,h4,hbk,h5⟩:=hp;obtain⟨nc,rfl⟩:∃ nc:Nat,c=(nc:Int):=⟨c.toNat,by have:=(aTz h5).2.1;omega⟩
  match vs,hv with
  |[v1,v2,v3,v4],⟨k1,k2,k3,k4,_⟩=>
   rcases hbk with rfl|rfl
   ·exact Il (aY n f) nc cut (by rw[dM];exact h2) h3 h4 h5 w ok0 [v1,v2,v3,v4] hI ⟨aTs h1 k1,k2,k3,k4,trivial⟩
   ·exact Ik (aY n f) nc cut (by rw[dM];exact h2) h3 h4 h5 w ok0 [v1,v2,v3,v4] hI ⟨aTs h1 k1,k2,k3,k4,trivial⟩
 ·cases hg
end Pv
theorem aHu:u_ Tryz.prog 173 10:=⟨⟨_,Tryz.underlying173,rfl⟩,by kernel_rfl⟩
def aDN:Array Value:=#[.nilFunc,.nilFunc,.func (.func 121) #[] #[],.func (.func 122) #[] #[],.func (.func 121) #[] #[],.func (.func 124) #[] #[],
 .func (.func 126) #[] #[],.func (.func 127) #[] #[],.func (.func 129) #[] #[],.func (.func 130) #[] #[]]
theorem aOt(w:World):Calls Tryz.prog 94 #[] w fun e w'=>e=.returned (.agg aDN)/\Ext w w':=by
 go_enter Tryz.func94,Tryz.ntmps94
 go_wp2_with (refine aT (ty:=173) (t:=173) (x:=.tmp 0) (y:=.tmp 8) rfl rfl aHu rfl rfl (au.new w _ _) rfl rfl (by rw[<-Array.all_toList];rfl) ?_;intro w2 hb2 hc2 hz2)
 refine bodyPost_ret (v:=.agg aDN) (dG aHu rfl hb2 rfl rfl) rfl ⟨rfl,?_⟩;exact ((Ext.refl w).alloc _).trans' hc2 (fun _ _ h=>h) (fun i hi e=>by omega)
def xE(c:Acc):Prop:=((c.kind=1\/c.kind=2)/\(c.ay=2\/c.ay=3)/\(0<=c.cell/\c.cell<48)/\c.bytes=aS)\/((c.kind=3/\c.bytes=aS\/c.kind=4/\c.bytes.size=256)/\c.ay=0/\0<=c.cell/\c.cell<64)
instance (c:Acc):Decidable (xE c):=by unfold xE;infer_instance
structure p_(h:gy):Prop where
 ok:D5 h
 n:3<h.b.length
 l2:(h.b.getD 2 []).length=48
 l3:(h.b.getD 3 []).length=48
 f:64<=h.f.length
theorem Lu{b:List (List Int)}{k c:Int}(h0:0<=k)(h1:k<b.length)(h2:0<=c)(h3:c<((b.getD k.toNat []).length:Int)):BA b k c=true:=by
 unfold BA;simp only[Bool.and_eq_true,decide_eq_true_eq]
 exact⟨⟨⟨h0,h1⟩,h2⟩,h3⟩
theorem p_.ex{h:gy}(d:p_ h){k c:Int}(hk:k=2\/k=3)(hc:0<=c/\c<48):BA h.b k c=true:=by
 have h1:=d.n;rcases hk with rfl|rfl
 ·refine Lu (by decide) (by omega) hc.1 ?_;rw[show (2:Int).toNat=2 from rfl,d.l2];exact hc.2
 ·refine Lu (by decide) (by omega) hc.1 ?_;rw[show (3:Int).toNat=3 from rfl,d.l3];exact hc.2
theorem aGp(b:List (List Int))(k c:Int)(cut:Bool)(j:Nat):((su b k c cut).getD j []).length=(b.getD j []).length:=by
 unfold su;rw[zG,List.getElem?_set]
 split
 ·rename_i e;subst e
  split
  ·rename_i hl;rw[Option.getD_some,List.length_set]
  ·rename_i hl;rw[zG,List.getElem?_eq_none (by omega)]
 ·rw[<-zG]
theorem yM(f:Fl)(s:Int)(b:ByteArray)(cut:Int):(iT f s b cut).length=f.length:=by
 unfold iT
 split
 ·exact List.length_set ..
 ·rfl
theorem aRe{h:gy}{a:Acc}{t:pg}(hk:a.kind=1)(hb:a.bytes=aS)(hx:BA h.b a.ay a.cell=true):gI h a t=(h,if t.cut then jX else⟨fQ (dD h.b a.ay a.cell) t.j_,aS⟩,0):=by
 unfold gI;rw[if_pos hk,if_pos hb,if_pos hx]
theorem aRd{h:gy}{a:Acc}{t:pg}(hk:a.kind=2)(hb:a.bytes=aS)(hx:BA h.b a.ay a.cell=true):gI h a t=({ h with b:=su h.b a.ay a.cell t.cut },jX,0):=by
 unfold gI;rw[if_neg (by omega),if_pos hk,if_pos hb,if_pos hx]
theorem aKc{h:gy}{a:Acc}{t:pg}(hk:a.kind=3)(hb:a.bytes=aS/\a.ay=0)(hx:0<=a.cell/\a.cell<h.f.length):gI h a t=(h,if t.cut then jX else⟨0,strOf (sec h.f a.cell)⟩,0):=by
 unfold gI;rw[if_neg (by omega),if_neg (by omega),if_pos hk,if_pos hb,if_pos hx]
theorem aKb{h:gy}{a:Acc}{t:pg}(hk:a.kind=4)(hb:a.ay=0)(hx:0<=a.cell/\a.cell<h.f.length)(hs:a.bytes.size=256):gI h a t=({ h with f:=iT h.f a.cell a.bytes (Cj t) },jX,0):=by
 unfold gI;rw[if_neg (by omega),if_neg (by omega),if_neg (by omega),if_pos hk,if_pos hb,if_pos hx,if_pos hs]
theorem p_.step{h:gy}(d:p_ h){c:Acc}(g:xE c)(t:pg):p_ (gI h c t).1:=by
 have hok:=aUd c t d.ok;have hf:=d.f;rcases g with⟨hk|hk,hb,hc,hs⟩|⟨⟨hk,hs⟩|⟨hk,hs⟩,hb,hc⟩
 ·rw[aRe hk hs (d.ex hb hc)];exact d
 ·rw[aRd hk hs (d.ex hb hc)] at hok ⊢
  refine⟨hok,?_,?_,?_,d.f⟩
  ·show 3<(su _ _ _ _).length;unfold su;rw[List.length_set];exact d.n
  ·exact (aGp _ _ _ _ 2).trans d.l2
  ·exact (aGp _ _ _ _ 3).trans d.l3
 ·rw[aKc hk ⟨hs,hb⟩ ⟨hc.1,by omega⟩];exact d
 ·rw[aKb hk hb ⟨hc.1,by omega⟩ hs] at hok ⊢
  exact⟨hok,d.n,d.l2,d.l3,by show 64<=(iT _ _ _ _).length;rw[yM];exact hf⟩
theorem aSi{F:List pg}:∀ (l:List Acc) (i:Nat) {h:gy},p_ h->(∀ c∈l,xE c)->p_ (zu F h l i)
 |[],_,_,d,_=>d
 |c::l,i,_,d,g=>aSi l (i+1) (d.step (g c List.mem_cons_self) _) (fun x hx=>g x (List.mem_cons_of_mem _ hx))
def ai.ZG{α:Type}:ai α->Prop
 |.ret _=>True
 |.ask a k=>xE a/\∀ r,ai.ZG (k r)
namespace Pv
def nK(F:List pg)(h:gy)(l:List Acc):Option je:=match l.getLast? with
 |none=>some jX
 |some c=>if (eX F (l.length-1)).cut=true\/¬xE c\/1000000<l.length-1 then none else some (gI (zu F h l.dropLast 0) c (eX F (l.length-1))).2.1
theorem aGw(F:List pg)(h:gy)(l:List Acc)(c:Acc):nK F h (l++[c])=if (eX F l.length).cut=true\/¬xE c\/1000000<l.length then none else some (gI (zu F h l 0) c (eX F l.length)).2.1:=by
 unfold nK;rw[List.getLast?_append,List.dropLast_concat,List.length_append,List.length_singleton,Nat.add_sub_cancel];rfl
theorem LH{α:Type}(F:List pg)(h0:gy)(p:ai α):ai.ZG p->∀ (n:Nat),p.Within n->∀ l:List Acc,l.length+n<=1000000 ->
  (Em F (go (nK F h0) p l).2.length->dS F p (zu F h0 l 0) l.length=(some (go (nK F h0) p l).1,zu F h0 (go (nK F h0) p l).2 0,(go (nK F h0) p l).2.length)) /\
  ∀ l' c,l <+: l'->l'++[c] <+: (go (nK F h0) p l).2->Em F l'.length->(eX F l'.length).cut=true->dS F p (zu F h0 l 0) l.length=(none,zu F h0 (l'++[c]) 0,l'.length+1):=by
 induction p with
 |ret a=>
  intro _ n _ l _
  refine⟨fun _=>rfl,fun l' c h1 h2 _ _=>?_⟩
  rw[go_ret] at h2;have e1:=h1.length_le;have e2:(l'++[c]).length<=l.length:=h2.length_le;rw[List.length_append,List.length_singleton] at e2;exfalso
  omega
 | ask a k ih=>
  intro hIn n hW l hln
  obtain⟨n,rfl⟩:∃ m,n=m+1:=by
   cases n with
   |zero=>exact hW.elim
   |succ m=>exact⟨m,rfl⟩
  have hgd:xE a:=hIn.1;rw[vW];have hs:=aSh F l a h0;have hO:=aGw F h0 l a
  have hlen:(l++[a]).length=l.length+1:=by rw[List.length_append,List.length_singleton]
  have hpre:=uD (nK F h0) (k (ans (nK F h0) (l++[a]))) (l++[a]);obtain⟨i1,i2⟩:=ih (ans (nK F h0) (l++[a])) (hIn.2 _) n (hW _) (l++[a]) (by rw[List.length_append,List.length_singleton];omega)
  by_cases hc:(eX F l.length).cut=true
  ·have hex:dS F (.ask a k) (zu F h0 l 0) l.length=(none,zu F h0 (l++[a]) 0,l.length+1):=by
    rw[dS,if_pos hc,hs]
   refine⟨fun hn=>?_,fun l' c h1 h2 hn hc2=>?_⟩
   ·have:=hn l.length (by have:=hpre.length_le;omega);rw[this] at hc;cases hc
   ·have e1:=h1.length_le
    have hll:l'.length=l.length:=by
     rcases Nat.lt_or_ge l.length l'.length with h|h
     ·have:=hn _ h;rw[this] at hc;cases hc
     ·omega
    obtain⟨t,ht⟩:=h1
    have ht0:t=[]:=by
     have:=congrArg List.length ht;rw[List.length_append] at this;exact List.eq_nil_of_length_eq_zero (by omega)
    subst ht0;rw[List.append_nil] at ht;subst ht
    have he:l++[c]=l++[a]:=by
     obtain⟨u,hu⟩:=hpre;obtain⟨v,hv⟩:=h2;rw[<-hu,List.append_assoc,List.append_assoc] at hv;have h6:=List.append_cancel_left hv;simp only[List.singleton_append,List.cons.injEq] at h6;rw[h6.1]
    rw[he,hex]
  ·have hans:ans (nK F h0) (l++[a])=(gI (zu F h0 l 0) a (eX F l.length)).2.1:=by
    unfold ans;rw[hO,if_neg (fun h=>h.elim hc fun h=>h.elim (fun h=>h hgd) (fun h=>by omega))];rfl
   have hex:dS F (.ask a k) (zu F h0 l 0) l.length=dS F (k (ans (nK F h0) (l++[a]))) (zu F h0 (l++[a]) 0) (l++[a]).length:=by
    rw[dS,if_neg hc,hs,hlen,hans]
   refine⟨fun hn=>by rw[hex];exact i1 hn,fun l' c h1 h2 hn hc2=>?_⟩
   rw[hex];refine i2 l' c ?_ h2 hn hc2;obtain⟨t,ht⟩:=h1
   cases t with
   |nil=>
    rw[List.append_nil] at ht;subst ht
    exact absurd hc2 hc
   | cons x t=>
    subst ht;obtain⟨u,hu⟩:=hpre;obtain⟨v,hv⟩:=h2;rw[<-hu] at hv
    have h6:x=a:=by
     simp only[List.append_assoc,List.cons_append,List.nil_append] at hv;have h7:=List.append_cancel_left hv;simp only[List.cons.injEq] at h7;exact h7.1
    subst h6
    exact⟨t,by simp⟩
theorem LJ{α:Type}(O:List Acc->Option je)(p:ai α):ai.ZG p->∀ l:List Acc,(∀ c∈l,xE c)->∀ c∈(go O p l).2,xE c:=by
 induction p with
 |ret a=>intro _ l h;exact h
 | ask a k ih=>
  intro hIn l h;rw[vW];refine ih _ (hIn.2 _) _ (fun c hc=>?_);rcases List.mem_append.1 hc with hc|hc
  ·exact h c hc
  ·obtain rfl:=List.mem_singleton.1 hc
   exact hIn.1
end Pv
namespace Pv
def aEQ(A:jk)(s:St):Exit->Act->World->Prop
 |.panic chain,a,w=>a.defers=A.ds/\C9 A chain w
 |e,a,w=>e=.normal/\o6 A s a w
theorem aSe{P:Program}{A:jk}{s:St}(s':St){x y:Code}{Q:Exit->Act->World->Prop}(h1:iw P A s x (aEQ A s'))(h2:iw P A s' y Q):iw P A s (.seq x y) Q:=fun a w hg AO=>
 wp_seq (wp_mono (h1 a w hg (fun _ _ _ hd hp=>⟨hd,hp⟩)) (fun e a' w' he=>by
  cases e with
  |panic chain=>exact AO chain a' w' he.1 he.2
  |normal=>exact h2 a' w' he.2 AO
  |_=>cases he.1))
def lu(h:gy):List PC:=[.sl 1 h.b.length (bH h.b),.sl 1 h.f.length (qi h.f),.bs 16 h.r]
def vJ(t:pg):List PC:=[.lit (.bool t.cut),.lit (.int .i64 t.bytes),.lit (.bool t.j_)]
def w_(k b c:Int):Acc:=⟨k,b,c,aS⟩
def AZ:List PC->Option (Prop×gy)
 |[.sl 1 n f,.sl 1 m g,.bs 16 r]=>some (oI n f/\aKr m g,⟨aY n f,iF m g,r⟩)
 |_=>none
theorem Ih{C:Ctx}{n len:Nat}{f:Nat->List PC}{xs:List Value}(h:R C (.sl n len f) xs):∃ v,xs=[v]:=by cases h;exact⟨_,rfl⟩
theorem wQ{C:Ctx}{l:List PC}{p:Prop}{h:gy}(e:AZ l=some (p,h))(hp:p){xs:List Value}(hr:RL C l xs):RL C (lu h) xs:=by
 unfold AZ at e
 split at e
 ·rename_i n f m g r;cases e;obtain⟨h1,h2⟩:=hp;unfold lu;dsimp only
  cases hr with
  | cons k1 hr=>cases hr with
   |cons k2 hr=>
    obtain⟨v,rfl⟩:=Ih k1;refine .cons (aEy h1 k1) (.cons ?_ hr);rw[aAx];exact k2.yx (bCy h2)
 ·cases e
theorem v_.Ef{P:Program}{I:World->Prop}{f:Nat}{new:Bool}{x:Nat}{t:TypeId}{l l1 l':List PC}{O:List Acc->Option je}{dev:Option (List Acc×List Acc)}{d_:List Acc->Prop}{args:List PV}{res:PV}(h:v_ P I f new [⟨x,t,l1,l'⟩] O dev d_ args res)
  (hl:∀ C xs,RL C l xs->RL C l1 xs):v_ P I f new [⟨x,t,l,l'⟩] O dev d_ args res:=by
 intro w ok0 vs bl D X0 hM hold hst AV hO hdv hnd hob hinj hv
 have hS:∀ b,SX [⟨x,t,l,l'⟩] bl D b↔SX [⟨x,t,l1,l'⟩] bl D b:=fun b=>by
  constructor<;>rintro (h|⟨o,ho,rfl⟩)
  ·exact .inl h
  ·obtain rfl:=List.mem_singleton.1 ho
   exact .inr ⟨_,List.mem_singleton_self _,rfl⟩
  ·exact .inl h
  ·obtain rfl:=List.mem_singleton.1 ho
   exact .inr ⟨_,List.mem_singleton_self _,rfl⟩
 refine (h w ok0 vs bl D X0 (fun w' hc=>hM w' (hc.mono fun b _ hb=>(hS b).2 hb)) (fun b hb=>hold b ((hS b).2 hb)) hst AV hO hdv hnd (fun o ho=>?_) (fun o ho o' ho' _=>?_) hv).mono ?_
 ·obtain rfl:=List.mem_singleton.1 ho
  obtain⟨h1,cs,h2,h3⟩:=hob _ (List.mem_singleton_self _)
  exact⟨h1,cs,h2,hl _ _ h3⟩
 ·obtain rfl:=List.mem_singleton.1 ho
  obtain rfl:=List.mem_singleton.1 ho'
  rfl
 ·rintro e w' ⟨h1,h2⟩
  refine⟨h1.mono fun b _ hb=>(hS b).2 hb,?_⟩
  rcases h2 with⟨val,rfl,h3,h4,h5⟩|h2
  ·refine .inl ⟨val,rfl,h3,fun o ho=>?_,h5⟩
   obtain rfl:=List.mem_singleton.1 ho
   exact h4 ⟨x,t,l1,l'⟩ (List.mem_singleton_self _)
  ·exact .inr h2
theorem Pm(k b c:Int):gU Tryz.prog a_ 121 true [.w (.agg (rX (w_ k b c)))] (rq true):=by
 have M:=zZ (I:=a_);refine bJ Tryz.func121 rfl rfl bP (fun A hS hn hI=>?_);refine aB M hI hn (by rfl) (by kernel_rfl) ?_ ?_
 ·simp
 refine aB M hI hn (by rfl) (by kernel_rfl) ?_ ?_
 ·simp
 refine aO (fun a w hg=>⟨.inr rfl,_,?_,hg⟩);refine aC (by rfl) (by simp) (by rfl) (by rfl) ?_;refine congrArg rq (?_:(aS.toList==(⟨#[]⟩:ByteArray).toList)=true);exact beq_self_eq_true _
def Ui:List PV->Option (Prop×PV)
 |[.w (.agg [.lit (.int .i64 _),.lit (.int .i64 _),.lit (.int .i64 _),.lit (.string s)])]=>some (s=aS,rq true)
 |_=>none
theorem JC:aj Tryz.prog a_ 121 (bD true Ui):=by
 refine aZ (aF Tryz.func121 (by kernel_rfl) rfl) (fun xs p r hg hp=>?_);unfold Ui at hg
 split at hg
 ·cases hg
  obtain rfl:=hp
  exact Pm _ _ _
 ·cases hg
theorem Pj(k c:Int):gU Tryz.prog a_ 126 true [.w (.agg (rX (w_ k 0 c)))] (rq true):=by
 have M:=zZ (I:=a_);refine bJ Tryz.func126 rfl rfl bP (fun A hS hn hI=>?_);refine aB M hI hn (by rfl) (by kernel_rfl) ?_ ?_
 ·simp
 refine aB M hI hn (by rfl) (by kernel_rfl) ?_ ?_
 ·simp
 refine aO (fun a w hg=>⟨.inr rfl,_,?_,hg⟩);refine aC (by rfl) (by simp) (by rfl) (by rfl) ?_;refine congrArg rq (?_:(bif (aS.toList==(⟨#[]⟩:ByteArray).toList) then ((0:Int)==0) else false)=true);rw[show (aS.toList==(⟨#[]⟩:ByteArray).toList)=true from beq_self_eq_true _];rfl
def Uh:List PV->Option (Prop×PV)
 |[.w (.agg [.lit (.int .i64 _),.lit (.int .i64 b),.lit (.int .i64 _),.lit (.string s)])]=>some (b=0/\s=aS,rq true)
 |_=>none
theorem JB:aj Tryz.prog a_ 126 (bD true Uh):=by
 refine aZ (aF Tryz.func126 (by kernel_rfl) rfl) (fun xs p r hg hp=>?_);unfold Uh at hg
 split at hg
 ·cases hg;obtain⟨rfl,rfl⟩:=hp;exact Pj _ _
 ·cases hg
theorem Ph(a:Acc)(hb:a.ay=0):gU Tryz.prog a_ 129 true [.w (.agg (rX a))] (rq true):=by
 have M:=zZ (I:=a_);refine bJ Tryz.func129 rfl rfl bP (fun A hS hn hI=>?_);obtain⟨k,b,c,s⟩:=a
 obtain rfl:b=0:=hb
 refine aB M hI hn (by rfl) (by kernel_rfl) ?_ ?_
 ·simp
 refine aB M hI hn (by rfl) (by kernel_rfl) ?_ ?_
 ·simp
 refine aO (fun a w hg=>⟨.inr rfl,_,?_,hg⟩);refine aC (by rfl) (by simp) (by rfl) (by rfl) ?_;rfl
def Ug:List PV->Option (Prop×PV)
 |[.w (.agg [.lit (.int .i64 _),.lit (.int .i64 b),.lit (.int .i64 _),.lit (.string _)])]=>some (b=0,rq true)
 |_=>none
theorem JA:aj Tryz.prog a_ 129 (bD true Ug):=by
 refine aZ (aF Tryz.func129 (by kernel_rfl) rfl) (fun xs p r hg hp=>?_);unfold Ug at hg
 split at hg
 ·rename_i k b c s;cases hg;exact Ph ⟨k,b,c,s⟩ hp
 ·cases hg
def dcL:List (Nat×Spec):=[(123,bD true Vq),(125,bD false UY),(128,ZV),(131,ZU)]
theorem aCN:∀ p∈dcL,aj Tryz.prog a_ p.1 p.2:=by
 intro p hp;simp only[dcL,List.mem_cons,List.not_mem_nil,or_false] at hp;rcases hp with rfl|rfl|rfl|rfl
 ·exact LY
 ·exact Io
 ·exact LX
 ·exact bCv
theorem dcM:l_ Tryz.prog a_ (find dcL):=⟨bV aCN,fC⟩
structure Az(h:gy)(b c:Int):Prop where
 ok:D5 h
 bk:b=2\/b=3
 ex:BA h.b b c=true
structure BB(h:gy)(c:Int):Prop where
 ok:D5 h
 ex:0<=c/\c<h.f.length
theorem BB.has{h:gy}{c:Int}(k:BB h c):zh h.f c=true:=by
 unfold zh;rw[decide_eq_true k.ex.1,decide_eq_true k.ex.2];rfl
theorem bDs(h:gy)(k b c:Int)(t:pg)(hc:Az h b c):v_ Tryz.prog a_ 122 false [⟨px,65,lu h,lu h⟩] (fun _=>none) none (fun _=>False) [dh (.pt px 0 0),.w (.agg (rX (w_ k b c))),.w (.agg (vJ t))]
  (.lh [.agg (lG ⟨fQ (dD h.b b c) t.j_,aS⟩),.one (.lit (.int .i64 0))]):=by
 have M:=dcM;refine jU Tryz.func122 rfl rfl rfl (fun A hn hI=>?_);refine aB M hI hn (by rfl) (by kernel_rfl) ?_ ?_
 ·simp
 refine aB M hI hn (by rfl) (by kernel_rfl) ?_ ?_
 ·simp
 refine aB M hI hn (by rfl) (by kernel_rfl) ?_ ?_
 ·simp
 refine aO (fun a w hg=>⟨.inr rfl,_,⟨?_,(fun o ho=>by obtain rfl:=List.mem_singleton.1 ho;exact⟨_,rfl,dV rfl⟩),fun p hp=>(by cases hp)⟩,hg⟩);refine aC (by rfl) (by simp) (by rfl) (by rfl) ?_;change PV.lh [.agg [.lit (.int .i64 (if BA (aY h.b.length (bH h.b)) b c=true then fQ (dD (aY h.b.length (bH h.b)) b c) t.j_ else 0)),.lit (.string aS)],.one (.lit (.int .i64 (if BA (aY h.b.length (bH h.b)) b c=true then 0 else 1)))]=_;rw[aK,hc.ex,if_pos rfl,if_pos rfl];rfl
theorem ML(h:gy)(k b c:Int)(t:pg)(hc:Az h b c):v_ Tryz.prog a_ 124 false [⟨px,65,lu h,lu { h with b:=su h.b b c t.cut }⟩] (fun _=>none) none (fun _=>False) [dh (.pt px 0 0),.w (.agg (rX (w_ k b c))),.w (.agg (vJ t))]
  (.lh [.agg (lG jX),.one (.lit (.int .i64 0))]):=by
 have M:=dcM;refine jU Tryz.func124 rfl rfl rfl (fun A hn hI=>?_);refine aB M hI hn (by rfl) (by kernel_rfl) ?_ ?_
 ·simp
 refine aB M hI hn (by rfl) (by kernel_rfl) ?_ ?_
 ·simp
  exact⟨hc.ok.nb,hc.ok.nc,hc.ok.val,hc.bk,hc.ex⟩
 refine aN ?_;refine aB M hI hn (by rfl) (by kernel_rfl) ?_ ?_
 ·simp
 refine aH (by rfl) (fun hc=>?_) (fun hc=>?_)
 ·refine aQ M hI hn (by rfl) (by kernel_rfl) ?_ ?_
  ·simp
  change iw _ _ _ _ _;refine aB M hI hn (by rfl) (by kernel_rfl) ?_ ?_
  ·simp
  refine aG (s':=⟨[(6,none,dh (.pt 2 0 0)),(7,none,h_ 0)],[(px,none,0,.box 65 (lu { h with b:=su h.b b c t.cut })),(2,none,0,.box 35 (lG jX))]⟩) (fun a w hg=>(hg.reset (kT:=[6,7]) (kO:=[px,2]) (by rfl) (by simp)).same ?_ ?_) ?_
  ·exact .cons rfl (.cons rfl .nil)
  ·refine .cons (.box ?_) (.cons (.box rfl) .nil);change [PC.sl 1 (su (aY h.b.length (bH h.b)) b c t.cut).length (bH (su (aY h.b.length (bH h.b)) b c t.cut)),.sl 1 h.f.length (qi h.f),.bs 16 h.r]=_;rw[aK];rfl
  refine aO (fun a w hg=>⟨.inr rfl,_,⟨?_,(fun o ho=>by obtain rfl:=List.mem_singleton.1 ho;exact⟨_,rfl,dV rfl⟩),fun p hp=>(by cases hp)⟩,hg⟩);refine aC (by rfl) (by simp) (by rfl) (by rfl) ?_;rfl
 ·cases hc
theorem MJ(h:gy)(k c:Int)(t:pg)(hc:BB h c):v_ Tryz.prog a_ 127 false [⟨px,65,lu h,lu h⟩] (fun _=>none) none (fun _=>False) [dh (.pt px 0 0),.w (.agg (rX (w_ k 0 c))),.w (.agg (vJ t))]
  (.lh [.agg (lG ⟨0,strOf (sec h.f c)⟩),.one (.lit (.int .i64 0))]):=by
 have M:=dcM;refine jU Tryz.func127 rfl rfl rfl (fun A hn hI=>?_);refine aB M hI hn (by rfl) (by kernel_rfl) ?_ ?_
 ·simp
 refine aB M hI hn (by rfl) (by kernel_rfl) ?_ ?_
 ·simp
 refine aB M hI hn (by rfl) (by kernel_rfl) ?_ ?_
 ·simp
 refine aO (fun a w hg=>⟨.inr rfl,_,⟨?_,(fun o ho=>by obtain rfl:=List.mem_singleton.1 ho;exact⟨_,rfl,dV rfl⟩),fun p hp=>(by cases hp)⟩,hg⟩);refine aC (by rfl) (by simp) (by rfl) (by rfl) ?_;change PV.lh [.agg [.lit (.int .i64 0),.lit (.string (strOf (sec (iF h.f.length (qi h.f)) c)))],.one (.lit (.int .i64 (if zh (iF h.f.length (qi h.f)) c=true then 0 else 13)))]=_;rw[bM,hc.has,if_pos rfl];rfl
def aCK(h:gy)(a:Acc)(_:pg)(cut:Int):St:=⟨[(0,none,dh (.pt px 0 0)),(4,none,dh (.pt 0 0 0)),(6,none,dh (.pt 2 0 0)),(8,none,h_ cut)],[(px,none,0,.box 65 (lu h)),(0,none,0,.box 37 (rX a)),(2,none,0,.box 35 (lG jX))]⟩
theorem Qv(h:gy)(a:Acc)(t:pg)(hc:BB h a.cell)(hs:a.bytes.size=256):v_ Tryz.prog a_ 130 false [⟨px,65,lu h,lu { h with f:=iT h.f a.cell a.bytes (Cj t) }⟩] (fun _=>none) none (fun _=>False) [dh (.pt px 0 0),.w (.agg (rX a)),.w (.agg (vJ t))]
  (.lh [.agg (lG jX),.one (.lit (.int .i64 0))]):=by
 have M:=dcM;refine jU Tryz.func130 rfl rfl rfl (fun A hn hI=>?_);refine aB M hI hn (by rfl) (by kernel_rfl) ?_ ?_
 ·simp
 refine aB M hI hn (by rfl) (by kernel_rfl) ?_ ?_
 ·simp
 refine aSe (aCK h a t (Cj t)) ?_ ?_
 ·refine aB M hI hn (by rfl) (by kernel_rfl) ?_ ?_
  ·simp
  refine aH (by rfl) (fun hc=>?_) (fun hc=>?_)
  ·have hcut:t.cut=true:=hc;refine aQ M hI hn (by rfl) (by kernel_rfl) ?_ ?_
   ·simp
   refine fun a' w hg=>⟨rfl,(hg.reset (kT:=[0,4,6,8]) (kO:=[px,0,2]) (by rfl) (by simp)).same ?_ ?_⟩
   ·refine .cons rfl (.cons rfl (.cons rfl (.cons ?_ .nil)));unfold Cj;rw[if_pos hcut]
   ·exact .cons (.box rfl) (.cons (.box rfl) (.cons (.box rfl) .nil))
  ·have hcut:t.cut=false:=hc;refine aP (fun a' w hg=>⟨rfl,(hg.reset (kT:=[0,4,6,8]) (kO:=[px,0,2]) (by rfl) (by simp)).same ?_ ?_⟩)
   ·refine .cons rfl (.cons rfl (.cons rfl (.cons ?_ .nil)));unfold Cj;rw[if_neg (by rw[hcut];exact Bool.false_ne_true)]
   ·exact .cons (.box rfl) (.cons (.box rfl) (.cons (.box rfl) .nil))
 have hfs:=bM h.f;refine aB M hI hn (by rfl) (by kernel_rfl) ?_ ?_
 ·simp
  exact⟨hc.ok.sz,hc.ok.nf⟩
 refine aN ?_;refine aB M hI hn (by rfl) (by kernel_rfl) ?_ ?_
 ·simp
 rw[hfs]
 have hw:vN h.f a.cell a.bytes=0:=by unfold vN;rw[hc.has,if_pos rfl,if_pos hs]
 rw[hw];refine aH (by rfl) (fun hc=>?_) (fun hc=>?_)
 ·refine aQ M hI hn (by rfl) (by kernel_rfl) ?_ ?_
  ·simp
  change iw _ _ _ _ _;refine aB M hI hn (by rfl) (by kernel_rfl) ?_ ?_
  ·simp
  refine aO (fun a w hg=>⟨.inr rfl,_,⟨?_,(fun o ho=>by obtain rfl:=List.mem_singleton.1 ho;exact⟨_,rfl,dV rfl⟩),fun p hp=>(by cases hp)⟩,hg⟩);refine aC (by rfl) (by simp) (by rfl) (by rfl) ?_;rfl
 ·cases hc
def Fe:List PV->Option (Acc×pg)
 |[.w (.agg [.lit (.int .i64 k),.lit (.int .i64 b),.lit (.int .i64 c),.lit (.string s)]),.w (.agg [.lit (.bool cut),.lit (.int .i64 fb),.lit (.bool nz)])]=>some (⟨k,b,c,s⟩,⟨cut,fb,nz⟩)
 |_=>none
theorem aNs{ys:List PV}{a:Acc}{t:pg}(h:Fe ys=some (a,t)):ys=[.w (.agg (rX a)),.w (.agg (vJ t))]:=by
 unfold Fe at h
 split at h
 ·cases h;rfl
 ·cases h
def bDt:List PC->List PV->Option (Prop×List PC×PV):=fun l ys=>match AZ l,Fe ys with
 |some (p,h),some (a,t)=>some (p/\a.bytes=aS/\Az h a.ay a.cell,lu h,.lh [.agg (lG ⟨fQ (dD h.b a.ay a.cell) t.j_,aS⟩),.one (.lit (.int .i64 0))])
 |_,_=>none
def MN:List PC->List PV->Option (Prop×List PC×PV):=fun l ys=>match AZ l,Fe ys with
 |some (p,h),some (a,t)=>some (p/\a.bytes=aS/\Az h a.ay a.cell,lu { h with b:=su h.b a.ay a.cell t.cut },.lh [.agg (lG jX),.one (.lit (.int .i64 0))])
 |_,_=>none
def MK:List PC->List PV->Option (Prop×List PC×PV):=fun l ys=>match AZ l,Fe ys with
 |some (p,h),some (a,_)=>some (p/\a.ay=0/\a.bytes=aS/\BB h a.cell,lu h,.lh [.agg (lG ⟨0,strOf (sec h.f a.cell)⟩),.one (.lit (.int .i64 0))])
 |_,_=>none
def W_:List PC->List PV->Option (Prop×List PC×PV):=fun l ys=>match AZ l,Fe ys with
 |some (p,h),some (a,t)=>some (p/\a.bytes.size=256/\BB h a.cell,lu { h with f:=iT h.f a.cell a.bytes (Cj t) },.lh [.agg (lG jX),.one (.lit (.int .i64 0))])
 |_,_=>none
theorem aXh:aj Tryz.prog a_ 122 (vT 65 bDt):=by
 refine yB (aF Tryz.func122 (by kernel_rfl) rfl) (fun l ys p l' r hg hp=>?_);unfold bDt at hg
 cases hq:AZ l with
 |none=>rw[hq] at hg;cases hg
 | some q=>
  cases hy:Fe ys with
  |none=>rw[hq,hy] at hg;cases hg
  |some y=>
   obtain⟨p0,h⟩:=q;obtain⟨⟨k,b,c,s⟩,t⟩:=y;rw[hq,hy] at hg;cases hg;obtain⟨h0,h2,h3⟩:=hp;have h2':s=aS:=h2;subst h2';rw[aNs hy];exact (bDs h k b c t h3).Ef (fun C xs hr=>wQ hq h0 hr)
theorem bDu:aj Tryz.prog a_ 124 (vT 65 MN):=by
 refine yB (aF Tryz.func124 (by kernel_rfl) rfl) (fun l ys p l' r hg hp=>?_);unfold MN at hg
 cases hq:AZ l with
 |none=>rw[hq] at hg;cases hg
 | some q=>
  cases hy:Fe ys with
  |none=>rw[hq,hy] at hg;cases hg
  |some y=>
   obtain⟨p0,h⟩:=q;obtain⟨⟨k,b,c,s⟩,t⟩:=y;rw[hq,hy] at hg;cases hg;obtain⟨h0,h2,h3⟩:=hp;have h2':s=aS:=h2;subst h2';rw[aNs hy];exact (ML h k b c t h3).Ef (fun C xs hr=>wQ hq h0 hr)
theorem bDr:aj Tryz.prog a_ 127 (vT 65 MK):=by
 refine yB (aF Tryz.func127 (by kernel_rfl) rfl) (fun l ys p l' r hg hp=>?_);unfold MK at hg
 cases hq:AZ l with
 |none=>rw[hq] at hg;cases hg
 | some q=>
  cases hy:Fe ys with
  |none=>rw[hq,hy] at hg;cases hg
  |some y=>
   obtain⟨p0,h⟩:=q;obtain⟨⟨k,b,c,s⟩,t⟩:=y;rw[hq,hy] at hg;cases hg;obtain⟨h0,h1,h2,h3⟩:=hp;have h1':b=0:=h1;have h2':s=aS:=h2;subst h1' h2';rw[aNs hy];exact (MJ h k c t h3).Ef (fun C xs hr=>wQ hq h0 hr)
theorem MG:aj Tryz.prog a_ 130 (vT 65 W_):=by
 refine yB (aF Tryz.func130 (by kernel_rfl) rfl) (fun l ys p l' r hg hp=>?_);unfold W_ at hg
 cases hq:AZ l with
 |none=>rw[hq] at hg;cases hg
 | some q=>
  cases hy:Fe ys with
  |none=>rw[hq,hy] at hg;cases hg
  |some y=>
   obtain⟨p0,h⟩:=q;obtain⟨⟨k,b,c,s⟩,t⟩:=y;rw[hq,hy] at hg;cases hg;obtain⟨h0,h2,h3⟩:=hp;rw[aNs hy];exact (Qv h ⟨k,b,c,s⟩ t h3 h2).Ef (fun C xs hr=>wQ hq h0 hr)
def Nh:List PC:=[.lit .nilFunc,.lit .nilFunc,.lit (.func (.func 121) #[] #[]),.lit (.func (.func 122) #[] #[]),.lit (.func (.func 121) #[] #[]),.lit (.func (.func 124) #[] #[]),
 .lit (.func (.func 126) #[] #[]),.lit (.func (.func 127) #[] #[]),.lit (.func (.func 129) #[] #[]),.lit (.func (.func 130) #[] #[])]
theorem Nc:gU Tryz.prog a_ 94 true [] (.w (.agg Nh)):=by
 intro w ok0 vs hI hv
 match vs,hv with
 |[],_=>
  refine (aOt w).mono ?_;rintro e w' ⟨rfl,hE⟩
  refine⟨_,rfl,hE,.w (.agg ?_)⟩
  exact .cons (xs:=[_]) (.lit rfl) (.cons (xs:=[_]) (.lit rfl) (.cons (xs:=[_]) (.lit rfl) (.cons (xs:=[_]) (.lit rfl) (.cons (xs:=[_]) (.lit rfl) (.cons (xs:=[_]) (.lit rfl) (.cons (xs:=[_]) (.lit rfl) (.cons (xs:=[_]) (.lit rfl) (.cons (xs:=[_]) (.lit rfl) (.cons (xs:=[_]) (.lit rfl) .nil)))))))))
def Nj:List PV->Option (Prop×PV)
 |[]=>some (True,.w (.agg Nh))
 |_=>none
theorem bFf:aj Tryz.prog a_ 94 (bD true Nj):=by
 refine aZ (aF Tryz.func94 (by kernel_rfl) rfl) (fun xs p r hg hp=>?_);unfold Nj at hg
 split at hg
 ·cases hg;exact Nc
 ·cases hg
def ddL:List (Nat×Spec):=[(94,bD true Nj),(121,bD true Ui),(122,vT 65 bDt),(124,vT 65 MN),
 (126,bD true Uh),(127,vT 65 MK),(129,bD true Ug),(130,vT 65 W_)]
theorem aCM:∀ p∈ddL,aj Tryz.prog a_ p.1 p.2:=by
 intro p hp;simp only[ddL,List.mem_cons,List.not_mem_nil,or_false] at hp;rcases hp with rfl|rfl|rfl|rfl|rfl|rfl|rfl|rfl
 ·exact bFf
 ·exact JC
 ·exact aXh
 ·exact bDu
 ·exact JB
 ·exact bDr
 ·exact JA
 ·exact MG
theorem ddM:l_ Tryz.prog a_ (find ddL):=⟨bV aCM,fC⟩
def FT(x:gy×je×Int):PV:=.lh [.agg (lu x.1),.agg (lG x.2.1),.one (.lit (.int .i64 x.2.2))]
def RD(_ h':gy)(_:Acc)(t:pg)(r:je):St:=⟨[(5,none,dh (.pt 2 0 0)),(6,none,dh (.pt 3 0 0)),(7,none,dh (.pt 4 0 0)),(10,none,dh (.pt 4001 0 0)),(11,none,dh (.pt 5011 0 0)),(12,none,h_ 0)],[(2,none,0,.box 104 (vJ t)),(3,none,0,.box 65 [.lit (.slice none 0 0),.lit (.slice none 0 0),.bs 16 (List.replicate 16 0)]),(4,none,0,.box 35 (lG jX)),(4001,none,0,.box 65 (lu h')),(5011,none,0,.box 35 (lG r))]⟩
theorem R_(h:gy)(b c:Int)(t:pg)(hc0:Az h b c)  : gU Tryz.prog a_ 66 false [.w (.agg (lu h)),.w (.agg (rX (w_ 1 b c))),.w (.agg (vJ t))] (FT (gI h (w_ 1 b c) t)):=by
 have M:=ddM;have hdv:=aRe (t:=t) (show (w_ 1 b c).kind=1 from rfl) rfl hc0.ex;rw[hdv];refine bJ Tryz.func66 rfl rfl bP (fun A hS hn hI=>?_);refine aB M hI hn (by rfl) (by kernel_rfl) ?_ ?_
 ·simp
 refine aB M hI hn (by rfl) (by kernel_rfl) ?_ ?_
 ·simp
 refine aN ?_;refine aB M hI hn (by rfl) (by kernel_rfl) ?_ ?_
 ·simp
  exact⟨fun _ _=>⟨(by decide:(0:Int)<=1),(by decide:(1:Int)<5)⟩,fun _ _=>rfl⟩
 refine aH (by rfl) (fun hc=>?_) (fun hc=>?_)
 ·simp[w_] at hc
 refine aP ?_;change iw _ _ _ _ _;refine aB M hI hn (by rfl) (by kernel_rfl) ?_ ?_
 ·simp
 refine aB M hI hn (by rfl) (by kernel_rfl) ?_ ?_
 ·simp
  exact⟨⟨(by decide:(0:Int)<=1),(by decide:(1:Int)<5)⟩,rfl,hc0⟩
 refine aG (s':=RD h h (w_ 1 b c) t ⟨fQ (dD h.b b c) t.j_,aS⟩) (fun a w hg=>(hg.reset (kT:=[5,6,7,10,11,12]) (kO:=[2,3,4,4001,5011]) (by rfl) (by simp)).same ?_ ?_) ?_
 ·exact .cons rfl (.cons rfl (.cons rfl (.cons rfl (.cons rfl (.cons rfl .nil)))))
 ·refine .cons (.box rfl) (.cons (.box rfl) (.cons (.box rfl) (.cons (.box ?_) (.cons (.box ?_) .nil))))
  ·change lu ⟨aY h.b.length (bH h.b),iF h.f.length (qi h.f),h.r⟩=_;rw[aK,bM]
  ·change lG ⟨fQ (dD (aY h.b.length (bH h.b)) b c) t.j_,aS⟩=_
   first|rw[aK]|rw[bM]|rfl
 refine aN ?_;refine aB M hI hn (by rfl) (by kernel_rfl) ?_ ?_
 ·simp
 refine aH (by rfl) (fun hc=>?_) (fun hc=>?_)
 ·cases hc
 refine aP ?_;change iw _ _ _ _ _;refine aN ?_;refine aB M hI hn (by rfl) (by kernel_rfl) ?_ ?_
 ·simp
 refine aH (by rfl) (fun hc=>?_) (fun hc=>?_)
 ·have hcut:t.cut=true:=hc;refine aQ M hI hn (by rfl) (by kernel_rfl) ?_ ?_
  ·simp
  change iw _ _ _ _ _;refine aB M hI hn (by rfl) (by kernel_rfl) ?_ ?_
  ·simp
  refine aO (fun a w hg=>⟨.inr rfl,_,?_,hg⟩);refine aC (by rfl) (by simp) (by rfl) (by rfl) ?_
  try rw[hcut]
  rfl
 ·have hcut:t.cut=false:=hc;refine aP ?_;change iw _ _ _ _ _;refine aB M hI hn (by rfl) (by kernel_rfl) ?_ ?_
  ·simp
  refine aO (fun a w hg=>⟨.inr rfl,_,?_,hg⟩);refine aC (by rfl) (by simp) (by rfl) (by rfl) ?_
  try rw[hcut]
  rfl
theorem Qz(h:gy)(b c:Int)(t:pg)(hc0:Az h b c)  : gU Tryz.prog a_ 66 false [.w (.agg (lu h)),.w (.agg (rX (w_ 2 b c))),.w (.agg (vJ t))] (FT (gI h (w_ 2 b c) t)):=by
 have M:=ddM;have hdv:=aRd (t:=t) (show (w_ 2 b c).kind=2 from rfl) rfl hc0.ex;rw[hdv];refine bJ Tryz.func66 rfl rfl bP (fun A hS hn hI=>?_);refine aB M hI hn (by rfl) (by kernel_rfl) ?_ ?_
 ·simp
 refine aB M hI hn (by rfl) (by kernel_rfl) ?_ ?_
 ·simp
 refine aN ?_;refine aB M hI hn (by rfl) (by kernel_rfl) ?_ ?_
 ·simp
  exact⟨fun _ _=>⟨(by decide:(0:Int)<=2),(by decide:(2:Int)<5)⟩,fun _ _=>rfl⟩
 refine aH (by rfl) (fun hc=>?_) (fun hc=>?_)
 ·simp[w_] at hc
 refine aP ?_;change iw _ _ _ _ _;refine aB M hI hn (by rfl) (by kernel_rfl) ?_ ?_
 ·simp
 refine aB M hI hn (by rfl) (by kernel_rfl) ?_ ?_
 ·simp
  exact⟨⟨(by decide:(0:Int)<=2),(by decide:(2:Int)<5)⟩,rfl,hc0⟩
 refine aG (s':=RD h ⟨su h.b b c t.cut,h.f,h.r⟩ (w_ 2 b c) t jX) (fun a w hg=>(hg.reset (kT:=[5,6,7,10,11,12]) (kO:=[2,3,4,4001,5011]) (by rfl) (by simp)).same ?_ ?_) ?_
 ·exact .cons rfl (.cons rfl (.cons rfl (.cons rfl (.cons rfl (.cons rfl .nil)))))
 ·refine .cons (.box rfl) (.cons (.box rfl) (.cons (.box rfl) (.cons (.box ?_) (.cons (.box ?_) .nil))))
  ·change lu ⟨su (aY h.b.length (bH h.b)) b c t.cut,iF h.f.length (qi h.f),h.r⟩=_;rw[aK,bM]
  ·change lG jX=_
   first|rw[aK]|rw[bM]|rfl
 refine aN ?_;refine aB M hI hn (by rfl) (by kernel_rfl) ?_ ?_
 ·simp
 refine aH (by rfl) (fun hc=>?_) (fun hc=>?_)
 ·cases hc
 refine aP ?_;change iw _ _ _ _ _;refine aN ?_;refine aB M hI hn (by rfl) (by kernel_rfl) ?_ ?_
 ·simp
 refine aH (by rfl) (fun hc=>?_) (fun hc=>?_)
 ·have hcut:t.cut=true:=hc;refine aQ M hI hn (by rfl) (by kernel_rfl) ?_ ?_
  ·simp
  change iw _ _ _ _ _;refine aB M hI hn (by rfl) (by kernel_rfl) ?_ ?_
  ·simp
  refine aO (fun a w hg=>⟨.inr rfl,_,?_,hg⟩);refine aC (by rfl) (by simp) (by rfl) (by rfl) ?_
  try rw[hcut]
  rfl
 ·have hcut:t.cut=false:=hc;refine aP ?_;change iw _ _ _ _ _;refine aB M hI hn (by rfl) (by kernel_rfl) ?_ ?_
  ·simp
  refine aO (fun a w hg=>⟨.inr rfl,_,?_,hg⟩);refine aC (by rfl) (by simp) (by rfl) (by rfl) ?_
  try rw[hcut]
  rfl
theorem Qy(h:gy)(c:Int)(t:pg)(hc0:BB h c)  : gU Tryz.prog a_ 66 false [.w (.agg (lu h)),.w (.agg (rX (w_ 3 0 c))),.w (.agg (vJ t))] (FT (gI h (w_ 3 0 c) t)):=by
 have M:=ddM;have hdv:=aKc (t:=t) (show (w_ 3 0 c).kind=3 from rfl) ⟨rfl,rfl⟩ hc0.ex;rw[hdv];refine bJ Tryz.func66 rfl rfl bP (fun A hS hn hI=>?_);refine aB M hI hn (by rfl) (by kernel_rfl) ?_ ?_
 ·simp
 refine aB M hI hn (by rfl) (by kernel_rfl) ?_ ?_
 ·simp
 refine aN ?_;refine aB M hI hn (by rfl) (by kernel_rfl) ?_ ?_
 ·simp
  exact⟨fun _ _=>⟨(by decide:(0:Int)<=3),(by decide:(3:Int)<5)⟩,fun _ _=>⟨rfl,rfl⟩⟩
 refine aH (by rfl) (fun hc=>?_) (fun hc=>?_)
 ·simp[w_] at hc
 refine aP ?_;change iw _ _ _ _ _;refine aB M hI hn (by rfl) (by kernel_rfl) ?_ ?_
 ·simp
 refine aB M hI hn (by rfl) (by kernel_rfl) ?_ ?_
 ·simp
  exact⟨⟨(by decide:(0:Int)<=3),(by decide:(3:Int)<5)⟩,rfl,rfl,hc0⟩
 refine aG (s':=RD h h (w_ 3 0 c) t ⟨0,strOf (sec h.f c)⟩) (fun a w hg=>(hg.reset (kT:=[5,6,7,10,11,12]) (kO:=[2,3,4,4001,5011]) (by rfl) (by simp)).same ?_ ?_) ?_
 ·exact .cons rfl (.cons rfl (.cons rfl (.cons rfl (.cons rfl (.cons rfl .nil)))))
 ·refine .cons (.box rfl) (.cons (.box rfl) (.cons (.box rfl) (.cons (.box ?_) (.cons (.box ?_) .nil))))
  ·change lu ⟨aY h.b.length (bH h.b),iF h.f.length (qi h.f),h.r⟩=_;rw[aK,bM]
  ·change lG ⟨0,strOf (sec (iF h.f.length (qi h.f)) c)⟩=_
   first|rw[aK]|rw[bM]|rfl
 refine aN ?_;refine aB M hI hn (by rfl) (by kernel_rfl) ?_ ?_
 ·simp
 refine aH (by rfl) (fun hc=>?_) (fun hc=>?_)
 ·cases hc
 refine aP ?_;change iw _ _ _ _ _;refine aN ?_;refine aB M hI hn (by rfl) (by kernel_rfl) ?_ ?_
 ·simp
 refine aH (by rfl) (fun hc=>?_) (fun hc=>?_)
 ·have hcut:t.cut=true:=hc;refine aQ M hI hn (by rfl) (by kernel_rfl) ?_ ?_
  ·simp
  change iw _ _ _ _ _;refine aB M hI hn (by rfl) (by kernel_rfl) ?_ ?_
  ·simp
  refine aO (fun a w hg=>⟨.inr rfl,_,?_,hg⟩);refine aC (by rfl) (by simp) (by rfl) (by rfl) ?_
  try rw[hcut]
  rfl
 ·have hcut:t.cut=false:=hc;refine aP ?_;change iw _ _ _ _ _;refine aB M hI hn (by rfl) (by kernel_rfl) ?_ ?_
  ·simp
  refine aO (fun a w hg=>⟨.inr rfl,_,?_,hg⟩);refine aC (by rfl) (by simp) (by rfl) (by rfl) ?_
  try rw[hcut]
  rfl
theorem Qx(h:gy)(c:Int)(x:ByteArray)(t:pg)(hc0:BB h c)(hs:x.size=256):gU Tryz.prog a_ 66 false [.w (.agg (lu h)),.w (.agg (rX (⟨4,0,c,x⟩:Acc))),.w (.agg (vJ t))] (FT (gI h (⟨4,0,c,x⟩:Acc) t)):=by
 have M:=ddM;have hdv:=aKb (h:=h) (a:=⟨4,0,c,x⟩) (t:=t) rfl rfl hc0.ex hs;rw[hdv];refine bJ Tryz.func66 rfl rfl bP (fun A hS hn hI=>?_);refine aB M hI hn (by rfl) (by kernel_rfl) ?_ ?_
 ·simp
 refine aB M hI hn (by rfl) (by kernel_rfl) ?_ ?_
 ·simp
 refine aN ?_;refine aB M hI hn (by rfl) (by kernel_rfl) ?_ ?_
 ·simp
  done
 refine aH (by rfl) (fun hc=>?_) (fun hc=>?_)
 ·simp[] at hc
 refine aP ?_;change iw _ _ _ _ _;refine aB M hI hn (by rfl) (by kernel_rfl) ?_ ?_
 ·simp
 refine aB M hI hn (by rfl) (by kernel_rfl) ?_ ?_
 ·simp
  exact⟨hs,hc0⟩
 refine aG (s':=RD h ⟨h.b,iT h.f c x (Cj t),h.r⟩ (⟨4,0,c,x⟩:Acc) t jX) (fun a w hg=>(hg.reset (kT:=[5,6,7,10,11,12]) (kO:=[2,3,4,4001,5011]) (by rfl) (by simp)).same ?_ ?_) ?_
 ·exact .cons rfl (.cons rfl (.cons rfl (.cons rfl (.cons rfl (.cons rfl .nil)))))
 ·refine .cons (.box rfl) (.cons (.box rfl) (.cons (.box rfl) (.cons (.box ?_) (.cons (.box ?_) .nil))))
  ·change lu ⟨aY h.b.length (bH h.b),iT (iF h.f.length (qi h.f)) c x (Cj t),h.r⟩=_;rw[aK,bM]
  ·change lG jX=_
   first|rw[aK]|rw[bM]|rfl
 refine aN ?_;refine aB M hI hn (by rfl) (by kernel_rfl) ?_ ?_
 ·simp
 refine aH (by rfl) (fun hc=>?_) (fun hc=>?_)
 ·cases hc
 refine aP ?_;change iw _ _ _ _ _;refine aN ?_;refine aB M hI hn (by rfl) (by kernel_rfl) ?_ ?_
 ·simp
 refine aH (by rfl) (fun hc=>?_) (fun hc=>?_)
 ·have hcut:t.cut=true:=hc;refine aQ M hI hn (by rfl) (by kernel_rfl) ?_ ?_
  ·simp
  change iw _ _ _ _ _;refine aB M hI hn (by rfl) (by kernel_rfl) ?_ ?_
  ·simp
  refine aO (fun a w hg=>⟨.inr rfl,_,?_,hg⟩);refine aC (by rfl) (by simp) (by rfl) (by rfl) ?_
  try rw[hcut]
  rfl
 ·have hcut:t.cut=false:=hc;refine aP ?_;change iw _ _ _ _ _;refine aB M hI hn (by rfl) (by kernel_rfl) ?_ ?_
  ·simp
  refine aO (fun a w hg=>⟨.inr rfl,_,?_,hg⟩);refine aC (by rfl) (by simp) (by rfl) (by rfl) ?_
  try rw[hcut]
  rfl
structure Dk(h:gy)(a:Acc):Prop where
 MP:p_ h
 good:xE a
theorem Qw{h:gy}{a:Acc}(g:Dk h a)(t:pg):gU Tryz.prog a_ 66 false [.w (.agg (lu h)),.w (.agg (rX a)),.w (.agg (vJ t))] (FT (gI h a t)):=by
 obtain⟨k,b,c,s⟩:=a;obtain⟨d,g⟩:=g;have hf:=d.f;rcases g with⟨hk,hb,hc,hs⟩|⟨⟨hk,hs⟩|⟨hk,hs⟩,hb,hc⟩
 ·have hx:=d.ex hb hc;dsimp only at hk hb hc hs hx;subst hs;rcases hk with rfl|rfl
  ·exact R_ h b c t ⟨d.ok,hb,hx⟩
  ·exact Qz h b c t ⟨d.ok,hb,hx⟩
 ·dsimp only at hk hb hc hs;subst hk hs hb;exact Qy h c t ⟨d.ok,hc.1,by omega⟩
 ·dsimp only at hk hb hc hs;subst hk hb;exact Qx h c s t ⟨d.ok,hc.1,by omega⟩ hs
def ddG:List PV->Option (Prop×PV)
 |.w (.agg l)::ys=>(match AZ l,Fe ys with
  |some (p,h),some (a,t)=>some (p/\Dk h a,FT (gI h a t))
  |_,_=>none)
 |_=>none
theorem Mc:aj Tryz.prog a_ 66 (bD false ddG):=by
 refine aZ (aF Tryz.func66 (by kernel_rfl) rfl) (fun xs p r hg hp=>?_);unfold ddG at hg
 split at hg
 ·rename_i l ys
  cases hq:AZ l with
  |none=>rw[hq] at hg;cases hg
  | some q=>
   cases hy:Fe ys with
   |none=>rw[hq,hy] at hg;cases hg
   | some y=>
    obtain⟨p0,h⟩:=q;obtain⟨a,t⟩:=y;rw[hq,hy] at hg;cases hg;rw[aNs hy]
    exact (Qw hp.2 t).args fun C vs hv=>by
     match vs,hv with
     | [x,y,z],⟨h0,h1,h2,_⟩=>
      refine⟨?_,h1,h2,trivial⟩
      cases h0 with
      |w h3=>cases h3 with
       |agg h4=>exact .w (.agg (wQ hq hp.1 h4))
 ·cases hg
def aCJ(F:List pg):Nat->List PC:=fun i=>vJ (F.getD i Ci)
def rV(F:List pg):PC:=.sl 3 F.length (aCJ F)
def cutV:Value:=.iface 139 (.agg #[])
def nZ(F:List pg)(h h':gy)(i:Nat):List Ob:=[⟨900001,3,[.lit (.int .i64 i)],[.lit (.int .i64 ((i+1:Nat):Int))]⟩,⟨900002,68,[rV F],[rV F]⟩,⟨900003,65,lu h,lu h'⟩]
def Wj(x:gy×je×Int)(t:pg):Sum PV (List PanicEntry):=if t.cut then .inr [{ v:=cutV,recovered:=false }] else .inl (.w (.agg (lG x.2.1)))
def aAO:List (Nat×Spec):=[(66,bD false ddG)]
theorem V_:∀ p∈aAO,aj Tryz.prog a_ p.1 p.2:=by
 intro p hp
 obtain rfl:=List.mem_singleton.1 hp
 exact Mc
theorem aKD:l_ Tryz.prog a_ (find aAO):=⟨bV V_,fC⟩
def lvO(F:List pg)(h:gy)(i:Int)(a:Acc):Wr:=[(900001,none,0,.box 3 [.lit (.int .i64 i)]),(900002,none,0,.box 68 [rV F]),(900003,none,0,.box 65 (lu h)),(0,none,0,.box 37 (rX a)),(1,none,0,.box 35 (lG jX))]
def lvT:List (Nat×Option Bool×PV):=[(1,none,dh (.pt 900001 0 0)),(2,none,dh (.pt 900002 0 0)),(3,none,dh (.pt 900003 0 0)),(4,none,dh (.pt 0 0 0)),(5,none,dh (.pt 1 0 0)),(6,none,dh (.pt 1000 0 0))]
def TN(F:List pg)(h:gy)(i:Int)(a:Acc)(t:pg):St:=⟨lvT,(1000,none,0,.box 104 (vJ t))::lvO F h i a⟩
def aAR(F:List pg)(h h':gy)(i:Int)(a:Acc)(t:pg)(r:je):St:=⟨(7,none,dh (.pt 5008 0 0))::(8,none,dh (.pt 5009 0 0))::(9,none,h_ 0)::lvT,(5008,none,0,.box 65 (lu h'))::(5009,none,0,.box 35 (lG r))::(1000,none,0,.box 104 (vJ t))::lvO F h i a⟩
def aAQ(F:List pg)(h':gy)(i:Int)(a:Acc)(t:pg)(r:je):St:=⟨(8,none,dh (.pt 5009 0 0))::lvT,(5009,none,0,.box 35 (lG r))::(1000,none,0,.box 104 (vJ t))::lvO F h' i a⟩
theorem LD{h:gy}{a:Acc}(g:Dk h a)(t:pg):(gI h a t).2.2=0:=by
 obtain⟨d,g⟩:=g;have hf:=d.f;rcases g with⟨hk|hk,hb,hc,hs⟩|⟨⟨hk,hs⟩|⟨hk,hs⟩,hb,hc⟩
 ·rw[aRe hk hs (d.ex hb hc)]
 ·rw[aRd hk hs (d.ex hb hc)]
 ·rw[aKc hk ⟨hs,hb⟩ ⟨hc.1,by omega⟩]
 ·rw[aKb hk hb ⟨hc.1,by omega⟩ hs]
theorem dw.forget{A:jk}{s:St}{a a':Act}{w:World}{env:Env}(h:dw A s a w env)(h1:a'.tmps.size=a.tmps.size)(h2:a'.defers=a.defers):dw A ⟨[],s.o⟩ a' w env:=
 { gm:=h.gm,size:=h1.trans h.size,dom:=h.dom,jf:=h.jf,live:=h.live,inj:=h.inj,tmps:=fun t g pv hf=>(by cases hf),defers:=h2.trans h.defers,und:=fun t pv hf=>(by cases hf),jo:=h.jo,dev:=h.dev }
theorem wp_cut(t1 t2:Nat)(ops:Array Oper)(p1 p2 p3:String)(f1 f2 f3:Array Edge)(hops:ops=#[{ dst:=some 33,op:=Op.build 139 #[],type:=139,pos:=p1,after:=f1,guard:=none },{ dst:=some 34,op:=Op.makeInterface 139 (Operand.tmp 33),type:=t1,pos:=p2,after:=f2,guard:=none },{ dst:=none,op:=Op.panic (Operand.tmp 34),type:=t2,pos:=p3,after:=f3,guard:=none }])
  {a:Act} {w:World} {Q:Exit->Act->World->Prop} (hsz:a.tmps.size=36) (hQ:∀ a',a'.tmps.size=a.tmps.size->a'.defers=a.defers->Q (.panic [{ v:=cutV,recovered:=false }]) a' w):(Code.region 9 ops false).wp Tryz.prog Q a w:=by
 subst hops;apply wp_region;simp[wpOps,go_sem,Region.wanted];refine .inl (.inl (.inl ?_));rw[if_pos (by omega),if_pos (by omega)];simp[Instr.panic];exact hQ _ (by simp) rfl
theorem aWm(F:List pg)(h:gy)(i:Nat)(c:Acc)(g:Dk h c)(hi:i<=1000000)(_:F.length<=1000000):aEZ Tryz.prog a_ 65 (nZ F h (gI h c (eX F i)).1 i)
  [.w (.agg (rX c)),dh (.pt 900001 0 0),dh (.pt 900002 0 0),dh (.pt 900003 0 0)] (Wj (gI h c (eX F i)) (eX F i)):=by
 have M:=aKD;have herr:=LD g (eX F i);refine Qn Tryz.func65 rfl rfl rfl (fun A hn hI=>?_);refine aB M hI hn (by rfl) (by kernel_rfl) ?_ ?_
 ·simp
 refine aB M hI hn (by rfl) (by kernel_rfl) ?_ ?_
 ·simp
 refine aN ?_;refine aB M hI hn (by rfl) (by kernel_rfl) ?_ ?_
 ·simp
 refine aH (by rfl) (fun hc=>?_) (fun hc=>?_)
 ·have hlt:i<F.length:=by have:=of_decide_eq_true hc;omega
  refine aQ M hI hn (by rfl) (by kernel_rfl) ?_ ?_
  ·simp;exact hlt
  change iw _ _ _ _ _;refine aG (s':=TN F h (i:Int) c (eX F i)) (fun a w hg=>(hg.reset (kT:=[1,2,3,4,5,6]) (kO:=[1000,900001,900002,900003,0,1]) (by rfl) (by simp)).same ?_ ?_) ?_
  ·exact .cons rfl (.cons rfl (.cons rfl (.cons rfl (.cons rfl (.cons rfl .nil)))))
  ·exact .cons (.box rfl) (.cons (.box rfl) (.cons (.box rfl) (.cons (.box rfl) (.cons (.box rfl) (.cons (.box rfl) .nil)))))
  refine aB M hI hn (by rfl) (by kernel_rfl) ?_ ?_
  ·simp
  refine aB M hI hn (by rfl) (by kernel_rfl) ?_ ?_
  ·simp;exact g
  refine aG (s':=aAR F h (gI h c (eX F i)).1 ((i+1:Nat):Int) c (eX F i) (gI h c (eX F i)).2.1) (fun a w hg=>(hg.reset (kT:=[7,8,9,1,2,3,4,5,6]) (kO:=[5008,5009,1000,900001,900002,900003,0,1]) (by rfl) (by simp)).same ?_ ?_) ?_
  ·refine .cons rfl (.cons rfl (.cons ?_ (.cons rfl (.cons rfl (.cons rfl (.cons rfl (.cons rfl (.cons rfl .nil))))))));change h_ (gI ⟨aY h.b.length (bH h.b),iF h.f.length (qi h.f),h.r⟩ c (eX F i)).2.2=_;rw[aK,bM,herr]
  ·refine .cons (.box ?_) (.cons (.box ?_) (.cons (.box rfl) (.cons (.box ?_) (.cons (.box rfl) (.cons (.box rfl) (.cons (.box rfl) (.cons (.box rfl) .nil)))))))
   ·change lu (gI ⟨aY h.b.length (bH h.b),iF h.f.length (qi h.f),h.r⟩ c (eX F i)).1=_;rw[aK,bM]
   ·change lG (gI ⟨aY h.b.length (bH h.b),iF h.f.length (qi h.f),h.r⟩ c (eX F i)).2.1=_;rw[aK,bM]
   ·rw[fG i (by omega)]
  generalize (gI h c (eX F i)).1=h' at herr ⊢;refine aN ?_;refine aB M hI hn (by rfl) (by kernel_rfl) ?_ ?_
  ·simp
  refine aH (by rfl) (fun hc=>?_) (fun hc=>?_)
  ·refine aQ M hI hn (by rfl) (by kernel_rfl) ?_ ?_
   ·simp
   change iw _ _ _ _ _;refine aG (s':=aAQ F h' ((i+1:Nat):Int) c (eX F i) (gI h c (eX F i)).2.1) (fun a w hg=>(hg.reset (kT:=[8,1,2,3,4,5,6]) (kO:=[5009,1000,900001,900002,900003,0,1]) (by rfl) (by simp)).same ?_ ?_) ?_
   ·exact .cons rfl (.cons rfl (.cons rfl (.cons rfl (.cons rfl (.cons rfl (.cons rfl .nil))))))
   ·exact .cons (.box rfl) (.cons (.box rfl) (.cons (.box rfl) (.cons (.box rfl) (.cons (.box rfl) (.cons (.box rfl) (.cons (.box rfl) .nil))))))
   refine aN ?_;refine aB M hI hn (by rfl) (by kernel_rfl) ?_ ?_
   ·simp
   refine aH (by rfl) (fun hc=>?_) (fun hc=>?_)
   ·have hcut:(eX F i).cut=true:=hc;have he:Wj (gI h c (eX F i)) (eX F i)=.inr [{ v:=cutV,recovered:=false }]:=if_pos hcut;intro a w hg AO;obtain⟨env,hE⟩:=hg;refine wp_cut _ _ _ _ _ _ _ _ _ rfl (by rw[hE.size,hn];rfl) (fun a' h1 h2=>?_)
    refine⟨h2.trans hE.defers,he,⟨[],_⟩,?_,env,hE.forget h1 h2⟩
    intro o ho;simp only[nZ,List.mem_cons,List.not_mem_nil,or_false] at ho
    rcases ho with rfl|rfl|rfl<;>exact⟨_,rfl,dV rfl⟩
   ·have hcut:¬(eX F i).cut=true:=fun h5=>by
     have h6:(eX F i).cut=false:=hc;rw[h6] at h5;cases h5
    have he:Wj (gI h c (eX F i)) (eX F i)=.inl (.w (.agg (lG (gI h c (eX F i)).2.1))):=if_neg hcut;refine aP ?_;change iw _ _ _ _ _;refine aB M hI hn (by rfl) (by kernel_rfl) ?_ ?_
    ·simp
    refine aO (fun a w hg=>⟨.inr rfl,_,he,_,⟨?_,?_⟩,hg⟩)
    ·refine aC (by rfl) (by simp) (by rfl) (by rfl) ?_;rfl
    ·intro o ho;simp only[nZ,List.mem_cons,List.not_mem_nil,or_false] at ho
     rcases ho with rfl|rfl|rfl<;>exact⟨_,rfl,dV rfl⟩
  ·cases hc
 ·have hge:F.length<=i:=by have:=of_decide_eq_false hc;omega
  have ht:eX F i=Ci:=by
   unfold eX;rw[zG,List.getElem?_eq_none hge];rfl
  refine aP ?_;change iw _ _ _ _ _;refine aG (s':=TN F h (i:Int) c (eX F i)) (fun a w hg=>(hg.reset (kT:=[1,2,3,4,5,6]) (kO:=[1000,900001,900002,900003,0,1]) (by rfl) (by simp)).same ?_ ?_) ?_
  ·exact .cons rfl (.cons rfl (.cons rfl (.cons rfl (.cons rfl (.cons rfl .nil)))))
  ·exact .cons (.box (by rw[ht];rfl)) (.cons (.box rfl) (.cons (.box rfl) (.cons (.box rfl) (.cons (.box rfl) (.cons (.box rfl) .nil)))))
  refine aB M hI hn (by rfl) (by kernel_rfl) ?_ ?_
  ·simp
  refine aB M hI hn (by rfl) (by kernel_rfl) ?_ ?_
  ·simp;exact g
  refine aG (s':=aAR F h (gI h c (eX F i)).1 ((i+1:Nat):Int) c (eX F i) (gI h c (eX F i)).2.1) (fun a w hg=>(hg.reset (kT:=[7,8,9,1,2,3,4,5,6]) (kO:=[5008,5009,1000,900001,900002,900003,0,1]) (by rfl) (by simp)).same ?_ ?_) ?_
  ·refine .cons rfl (.cons rfl (.cons ?_ (.cons rfl (.cons rfl (.cons rfl (.cons rfl (.cons rfl (.cons rfl .nil))))))));change h_ (gI ⟨aY h.b.length (bH h.b),iF h.f.length (qi h.f),h.r⟩ c (eX F i)).2.2=_;rw[aK,bM,herr]
  ·refine .cons (.box ?_) (.cons (.box ?_) (.cons (.box rfl) (.cons (.box ?_) (.cons (.box rfl) (.cons (.box rfl) (.cons (.box rfl) (.cons (.box rfl) .nil)))))))
   ·change lu (gI ⟨aY h.b.length (bH h.b),iF h.f.length (qi h.f),h.r⟩ c (eX F i)).1=_;rw[aK,bM]
   ·change lG (gI ⟨aY h.b.length (bH h.b),iF h.f.length (qi h.f),h.r⟩ c (eX F i)).2.1=_;rw[aK,bM]
   ·rw[fG i (by omega)]
  generalize (gI h c (eX F i)).1=h' at herr ⊢;refine aN ?_;refine aB M hI hn (by rfl) (by kernel_rfl) ?_ ?_
  ·simp
  refine aH (by rfl) (fun hc=>?_) (fun hc=>?_)
  ·refine aQ M hI hn (by rfl) (by kernel_rfl) ?_ ?_
   ·simp
   change iw _ _ _ _ _;refine aG (s':=aAQ F h' ((i+1:Nat):Int) c (eX F i) (gI h c (eX F i)).2.1) (fun a w hg=>(hg.reset (kT:=[8,1,2,3,4,5,6]) (kO:=[5009,1000,900001,900002,900003,0,1]) (by rfl) (by simp)).same ?_ ?_) ?_
   ·exact .cons rfl (.cons rfl (.cons rfl (.cons rfl (.cons rfl (.cons rfl (.cons rfl .nil))))))
   ·exact .cons (.box rfl) (.cons (.box rfl) (.cons (.box rfl) (.cons (.box rfl) (.cons (.box rfl) (.cons (.box rfl) (.cons (.box rfl) .nil))))))
   refine aN ?_;refine aB M hI hn (by rfl) (by kernel_rfl) ?_ ?_
   ·simp
   refine aH (by rfl) (fun hc=>?_) (fun hc=>?_)
   ·have hcut:(eX F i).cut=true:=hc;have he:Wj (gI h c (eX F i)) (eX F i)=.inr [{ v:=cutV,recovered:=false }]:=if_pos hcut;intro a w hg AO;obtain⟨env,hE⟩:=hg;refine wp_cut _ _ _ _ _ _ _ _ _ rfl (by rw[hE.size,hn];rfl) (fun a' h1 h2=>?_)
    refine⟨h2.trans hE.defers,he,⟨[],_⟩,?_,env,hE.forget h1 h2⟩
    intro o ho;simp only[nZ,List.mem_cons,List.not_mem_nil,or_false] at ho
    rcases ho with rfl|rfl|rfl<;>exact⟨_,rfl,dV rfl⟩
   ·have hcut:¬(eX F i).cut=true:=fun h5=>by
     have h6:(eX F i).cut=false:=hc;rw[h6] at h5;cases h5
    have he:Wj (gI h c (eX F i)) (eX F i)=.inl (.w (.agg (lG (gI h c (eX F i)).2.1))):=if_neg hcut;refine aP ?_;change iw _ _ _ _ _;refine aB M hI hn (by rfl) (by kernel_rfl) ?_ ?_
    ·simp
    refine aO (fun a w hg=>⟨.inr rfl,_,he,_,⟨?_,?_⟩,hg⟩)
    ·refine aC (by rfl) (by simp) (by rfl) (by rfl) ?_;rfl
    ·intro o ho;simp only[nZ,List.mem_cons,List.not_mem_nil,or_false] at ho
     rcases ho with rfl|rfl|rfl<;>exact⟨_,rfl,dV rfl⟩
  ·cases hc
end Pv
end Go.Proofs.YtndpjopifkbgiaaGreatDoor
