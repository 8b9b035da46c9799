/-
  Several texts in one file: each has its own heading below.
-/
import Derived.Test.YtndpjopifkbgiaaGreatDoorMfO
import Derived.WalkMore
import Derived.Test.YtndpjopifkbgiaaGreatDoorMfM
import Derived.Test.YtndpjopifkbgiaaGreatDoorMfJ
set_option maxRecDepth 100000
set_option maxHeartbeats 4000000
namespace Go.Proofs.YtndpjopifkbgiaaGreatDoor
open Go.RowKit
namespace Pv
theorem app0(f g:Nat->List PC):ou 0 f g=g:=by
 funext i;unfold ou;rw[if_neg (by omega)];rfl
theorem N7(b:List (List Int))(h0:0<b.length)(hl:b.length<=100000):Z8 Tryz.prog a_ 159 [dm (.sl 1 b.length (bJ b))] 74 1 b.length (bJ b):=by
 have M:=zZ (I:=a_)
 have hb1:Tryz.prog.types[74].bytes=24:=by kernel_rfl
 have hs1:Tryz.prog.types[74].size=1:=by kernel_rfl
 refine aWe Tryz.func159 rfl rfl bQ (fun A hS hn hI=>?_);refine aB M hI hn (by rfl) (by kernel_rfl) ?_ ?_
 ·simp
 refine aJ ?_;refine aB M hI hn (by rfl) (by kernel_rfl) ?_ ?_
 ·simp;omega
 refine aG (by rfl) (fun hc=>?_) (fun hc=>?_)
 ·cases hc
 refine aO ?_;change h_ _ _ _ _ _;refine aB M hI hn (by rfl) (by kernel_rfl) ?_ ?_
 ·simp;rw[hb1];omega
 refine aI (s':=⟨[(2,none,dm (.ow 3000 0 1 0 b.length))],[(3000,none,0,.arr 74 1 b.length (bJ b))]⟩) (fun a w hg=>(hg.reset (kT:=[2]) (kO:=[3000]) (by rfl) ?_).same ?_ ?_) ?_
 ·simp;rw[app0]
  exact fun i _ x hx=>by
   have:x∈[_]:=hx;rw[List.mem_singleton] at this;subst this;rfl
 ·refine .cons ?_ .nil;change dm (.ow 3000 0 Tryz.prog.types[74].size 0 (0+b.length))=_;rw[hs1,Nat.zero_add]
 ·refine .cons (.arr ?_ (fun i hi=>?_)) .nil
  ·exact Nat.zero_add _
  ·rw[app0]
 refine aK (fun a w hg=>⟨.inr rfl,_,?_,hg⟩);refine aZb (x:=3000) (ai:=0) (g:=none) (f:=?_) (out:=?_) ?_ ?_ ?_ ?_ ?_ trivial ?_;rotate_left 2
 ·rfl
 ·simp
 ·rfl
 ·rfl
 ·rfl
 exact fun i hi=>⟨rfl,rfl⟩
theorem Me(b:List Int)(h0:0<b.length)(hl:b.length<=100000):TW Tryz.prog a_ 160 [dm (.sl 1 b.length (pg b))] 5 1 b.length (pg b):=by
 have M:=zZ (I:=a_)
 have hb1:Tryz.prog.types[5].bytes=1:=by kernel_rfl
 have hs1:Tryz.prog.types[5].size=1:=by kernel_rfl
 refine aEd Tryz.func160 rfl rfl bQ (fun A hS hn hI=>?_);refine aB M hI hn (by rfl) (by kernel_rfl) ?_ ?_
 ·simp
 refine aJ ?_;refine aB M hI hn (by rfl) (by kernel_rfl) ?_ ?_
 ·simp;omega
 refine aG (by rfl) (fun hc=>?_) (fun hc=>?_)
 ·cases hc
 refine aO ?_;change h_ _ _ _ _ _;refine aB M hI hn (by rfl) (by kernel_rfl) ?_ ?_
 ·simp;rw[hb1];omega
 refine aI (s':=⟨[(2,none,dm (.ow 3000 0 1 0 b.length))],[(3000,none,0,.arr 5 1 b.length (pg b))]⟩) (fun a w hg=>(hg.reset (kT:=[2]) (kO:=[3000]) (by rfl) ?_).same ?_ ?_) ?_
 ·simp;rw[app0]
  exact fun i _ x hx=>by
   have:x∈[_]:=hx;rw[List.mem_singleton] at this;subst this;rfl
 ·refine .cons ?_ .nil;change dm (.ow 3000 0 Tryz.prog.types[5].size 0 (0+b.length))=_;rw[hs1,Nat.zero_add]
 ·refine .cons (.arr ?_ (fun i hi=>?_)) .nil
  ·exact Nat.zero_add _
  ·rw[app0]
 refine aK (fun a w hg=>⟨.inr rfl,_,?_,hg⟩);refine aIh (x:=3000) (ai:=0) (g:=none) (f:=?_) (out:=?_) ?_ ?_ ?_ ?_ ?_ trivial ?_;rotate_left 2
 ·rfl
 ·simp
 ·rfl
 ·rfl
 ·rfl
 exact fun i hi=>⟨rfl,rfl⟩
def Gt:Spec:=aIi fun xs=>match xs with
 |[.w (.one (.sl 1 n f))]=>some (0<n/\n<=100000/\lW n f,74,1,(bC n f).length,bJ (bC n f))
 |_=>none
theorem Tv{C:Ctx}{n:Nat}{f:Nat->List PC}{v:Value}(hf:lW n f)(h:RV C (dm (.sl 1 n f)) v):RV C (dm (.sl 1 (bC n f).length (bJ (bC n f)))) v:=by
 cases h with
 |w h=>cases h with
  |one h=>exact .w (.one (aEw hf h))
theorem Z8.args{P:Program}{I:World->Prop}{f:Nat}{args args':List PV}{e n len:Nat}{f':Nat->List PC}(h:Z8 P I f args' e n len f')(hv:∀ C vs,lm C args vs->lm C args' vs):Z8 P I f args e n len f':=fun w ok0 vs hI hV=>h w ok0 vs hI (hv _ _ hV)
theorem TW.args{P:Program}{I:World->Prop}{f:Nat}{args args':List PV}{e n len:Nat}{f':Nat->List PC}(h:TW P I f args' e n len f')(hv:∀ C vs,lm C args vs->lm C args' vs):TW P I f args e n len f':=fun w ok0 vs hI hV=>h w ok0 vs hI (hv _ _ hV)
theorem R_:aj Tryz.prog a_ 159 Gt:=by
 refine aPi (aF Tryz.func159 (by kernel_rfl) rfl) (fun xs p e n len f' hg hp=>?_)
 split at hg
 ·rename_i n0 f0;cases hg;obtain⟨h0,h1,h2⟩:=hp
  exact (N7 (bC n0 f0) (by rw[dF];exact h0) (by rw[dF];exact h1)).args fun C vs hv=>by
   match vs,hv with
   |[x],⟨k0,_⟩=>exact⟨Tv h2 k0,trivial⟩
 ·cases hg
def aOm(n:Nat)(g:Nat->List PC):Prop:=∀ j,j<n->bBp (g j)=true
def rowCell(n:Nat)(g:Nat->List PC):List Int:=(List.range n).map fun j=>Aj (g j)
theorem jM(l:List Int):rowCell l.length (pg l)=l:=aOd l
theorem N9{C:Ctx}{n:Nat}{g:Nat->List PC}{v:Value}(hf:aOm n g)(h:RV C (dm (.sl 1 n g)) v):RV C (dm (.sl 1 (rowCell n g).length (pg (rowCell n g)))) v:=by
 have hl:(rowCell n g).length=n:=by unfold rowCell;simp
 rw[hl]
 cases h with
 | w h=>cases h with
  |one h=>exact .w (.one (h.zf fun j hj=>by
   unfold pg rowCell;rw[kE n j (fun j=>Aj (g j)) hj]
   exact aJf (hf j hj)))
@[simp] theorem bZ(n:Nat)(g:Nat->List PC):(rowCell n g).length=n:=by unfold rowCell;simp
theorem oO{b:List (List Int)}{nb nc:Nat}{cut:Bool}(h:nb<b.length):bJ (qw b (nb:Int) (nc:Int) cut) nb=Ah ((b.getD nb []).set nc (dX (cZ b (nb:Int) (nc:Int)) cut)):=by
 unfold bJ qw;rw[Int.toNat_natCast,zG,List.getElem?_set_self h];rfl
theorem sZ{b:List (List Int)}{nb nc:Nat}{cut:Bool}{i:Nat}(h:i≠nb):bJ (qw b (nb:Int) (nc:Int) cut) i=bJ b i:=by
 unfold bJ qw;rw[Int.toNat_natCast,zG,List.getElem?_set_ne (fun e=>h e.symm),<-zG]
theorem sF{l:List Int}{nc:Nat}{x:Int}(h:nc<l.length){k:Nat}:(if k=nc then[PC.lit (.int .u8 x)] else pg l k)=pg (l.set nc x) k:=by
 unfold pg
 by_cases hk:k=nc
 ·subst hk;rw[if_pos rfl,zG,List.getElem?_set_self h];rfl
 ·rw[if_neg hk,zG,zG,List.getElem?_set_ne (fun e=>hk e.symm)]
theorem DI.v_{s:St}{new:Bool}{c:PC}{n len len':Nat}{f:Nat->List PC}(e:len'=len)(h:DI s new c (.sl n len' f)):DI s new c (.sl n len f):=by subst e;exact h
theorem jP(b:List (List Int))(ay cell:Int)(cut:Bool):(qw b ay cell cut).length=b.length:=List.length_set ..
def Gs:Spec:=aCr fun xs=>match xs with
 |[.w (.one (.sl 1 n f))]=>some (0<n/\n<=100000/\aOm n f,5,1,(rowCell n f).length,pg (rowCell n f))
 |_=>none
theorem Qz:aj Tryz.prog a_ 160 Gs:=by
 refine zJ (aF Tryz.func160 (by kernel_rfl) rfl) (fun xs p e n len f' hg hp=>?_)
 split at hg
 ·rename_i n0 f0;cases hg;obtain⟨h0,h1,h2⟩:=hp
  have hl:(rowCell n0 f0).length=n0:=by unfold rowCell;simp
  exact (Me (rowCell n0 f0) (by rw[hl];exact h0) (by rw[hl];exact h1)).args fun C vs hv=>by
   match vs,hv with
   |[x],⟨k0,_⟩=>exact⟨N9 h2 k0,trivial⟩
 ·cases hg
def puL:List (Nat×Spec):=[(157,aZ true exG),(159,Gt),(160,Gs)]
theorem Zj:∀ p∈puL,aj Tryz.prog a_ p.1 p.2:=by
 intro p hp;simp only[puL,List.mem_cons,List.not_mem_nil,or_false] at hp;rcases hp with rfl|rfl|rfl
 ·exact aAw
 ·exact R_
 ·exact Qz
theorem puM:kw Tryz.prog a_ (find puL):=⟨bV Zj,fC⟩
def NZ(b:List (List Int))(e:Int):PV:=.kz [.agg (y9 b),.one (.lit (.int .i64 e))]
def DW(b:List (List Int))(nb nc:Nat)(x:Int):St:=⟨[(1,none,gy (nb:Int)),(2,none,gy (nc:Int)),(4,none,dm (.pt 0 0 0)),(8,none,dm (.pt 1 0 0)),(10,none,ji (.int .u8 x))],[(0,none,0,.box 60 (y9 b)),(1,none,0,.box 60 [.lit (.slice none 0 0)])]⟩
theorem Ip(b:List (List Int))(nc:Nat)(cut:Bool)(hl4:b.length<=1000)(hlb:∀ l∈b,l.length<=100000)(hv:∀ l∈b,∀ x∈l,0<=x/\x<=3)(he:BB b 2 (nc:Int)=true):gB Tryz.prog a_ 125 false [.w (.agg (y9 b)),gy ((2:Nat):Int),gy (nc:Int),qc cut] (NZ (qw b 2 (nc:Int) cut) 0):=by
 have M:=puM;have hex:=aTk he;refine bI Tryz.func125 rfl rfl bQ (fun A hS hn hI=>?_);refine aB M hI hn (by rfl) (by kernel_rfl) ?_ ?_
 ·simp
 refine aJ ?_;refine aB M hI hn (by rfl) (by kernel_rfl) ?_ ?_
 ·simp
 rw[aH,show ((2:Nat):Int)=2 from rfl,he];refine aG (by rfl) (fun hc=>?_) (fun hc=>?_)
 ·cases hc
 refine aO ?_;change h_ _ _ _ _ _;refine aB M hI hn (by rfl) (by kernel_rfl) ?_ ?_
 ·simp
 have h2b:2<b.length:=by have:=hex.1.2;omega
 have hlm:b.getD 2 []∈b:=getD_mem h2b [];have hcl:(nc:Int)<((b.getD 2 []).length:Int):=hex.2.2;have hcm:0<=cZ b 2 (nc:Int)/\cZ b 2 (nc:Int)<=3:=hv _ hlm _ (getD_mem (by omega) 0);refine aJ ?_;refine aB M hI hn (by rfl) (by kernel_rfl) ?_ ?_
 ·simp
 refine aG (by rfl) (fun hc=>?_) (fun hc=>?_)
 ·have hcut:cut=true:=hc;refine aP M hI hn (by rfl) (by kernel_rfl) ?_ ?_
  ·simp
  change h_ _ _ _ _ _;refine aJ ?_;refine aB M hI hn (by rfl) (by kernel_rfl) ?_ ?_
  ·simp;rw[<-zG];omega
  refine aB M hI hn (by rfl) (by kernel_rfl) ?_ ?_
  ·simp
  refine aG (by rfl) (fun hc=>?_) (fun hc=>?_)
  ·have hc2:(bif cZ b 2 (nc:Int)==2 then true else cZ b 2 (nc:Int)==3)=true:=hc
   have hx:dX (cZ b 2 (nc:Int)) cut=cZ b 2 (nc:Int):=by
    unfold dX
    have h5:¬cZ b 2 (nc:Int)<=1:=fun h=>by
     by_cases h2:cZ b 2 (nc:Int)=2
     ·omega
     ·rw[beq_eq_false_iff_ne.2 h2] at hc2;have h3:=eq_of_beq hc2;omega
    rw[if_neg h5]
   refine aP M hI hn (by rfl) (by kernel_rfl) ?_ ?_
   ·simp
   change h_ _ _ _ _ _;refine aI (s':=DW b 2 nc (dX (cZ b 2 (nc:Int)) cut)) (fun a w hg=>(hg.reset (kT:=[1,2,4,8,10]) (kO:=[0,1]) (by rfl) (by simp)).same ?_ ?_) ?_
   ·exact .cons rfl (.cons rfl (.cons rfl (.cons rfl (.cons (congrArg (fun z=>ji (.int .u8 z)) hx.symm) .nil))))
   ·exact .cons (.box rfl) (.cons (.box rfl) .nil)
   refine aB M hI hn (by rfl) (by kernel_rfl) ?_ ?_
   ·simp;omega
   refine aB M hI hn (by rfl) (by kernel_rfl) ?_ ?_
   ·simp;rw[<-zG]
    exact⟨by omega,by omega,⟨by omega,hlb _ hlm,fun _ _=>rfl⟩,by omega,by omega⟩
   refine aB M hI hn (by rfl) (by kernel_rfl) ?_ ?_
   ·simp;rw[<-zG];omega
   refine aB M hI hn (by rfl) (by kernel_rfl) ?_ ?_
   ·simp
   refine aK (fun a w hg=>⟨.inr rfl,_,?_,hg⟩);unfold NZ y9;rw[jP];refine kH (by rfl) (by simp) (by rfl) ?_;refine .kz (.cons (.agg (.cons ?_ .nil)) (.cons (.one (.cold rfl)) .nil));have e9:(bC b.length (bJ b)).length=b.length:=dF _ _;refine DI.v_ e9 (.rows rfl trivial (by omega) (fun i hi=>?_));rw[Nat.zero_add]
   by_cases hi2:i=2
   ·subst hi2;refine .inr ⟨10008,0,1,0,(b.getD 2 []).length,_,_,_,_,pg ((b.getD 2 []).set nc (dX (cZ b 2 (nc:Int)) cut)),?_,?_,rfl,trivial,?_,fun k hk=>⟨?_,rfl⟩⟩
    ·change [PC.ow 10008 0 1 0 (rowCell ((bC b.length (bJ b)).getD 2 []).length (pg ((bC b.length (bJ b)).getD 2 []))).length]=_;rw[aH,bZ]
    ·rw[show (2:Int)=((2:Nat):Int) from rfl,oO h2b];unfold Ah;rw[List.length_set]
    ·change 0+(b.getD 2 []).length<=(rowCell ((bC b.length (bJ b)).getD 2 []).length (pg ((bC b.length (bJ b)).getD 2 []))).length;rw[aH,bZ];omega
    ·rw[Nat.zero_add];change (if k=0+(nc:Int).toNat then[PC.lit (.int .u8 (dX (cZ b 2 (nc:Int)) cut))] else pg (rowCell ((bC b.length (bJ b)).getD 2 []).length (pg ((bC b.length (bJ b)).getD 2 []))) k)=_;rw[aH,jM,Int.toNat_natCast,Nat.zero_add];exact sF (by omega)
   ·refine .inl ⟨?_,rfl⟩;rw[if_neg (by rw[Nat.zero_add];exact hi2),aH];exact (sZ (nb:=2) hi2).symm
  ·have hc2:(bif cZ b 2 (nc:Int)==2 then true else cZ b 2 (nc:Int)==3)=false:=hc
   have hx:dX (cZ b 2 (nc:Int)) cut=1:=by
    unfold dX
    have h5:cZ b 2 (nc:Int)<=1:=by
     by_cases h2:cZ b 2 (nc:Int)=2
     ·rw[h2] at hc2;cases hc2
     ·rw[beq_eq_false_iff_ne.2 h2] at hc2
      by_cases h3:cZ b 2 (nc:Int)=3
      ·rw[h3] at hc2;cases hc2
      ·omega
    rw[if_pos h5,hcut];rfl
   refine aO ?_;change h_ _ _ _ _ _;refine aI (s':=DW b 2 nc (dX (cZ b 2 (nc:Int)) cut)) (fun a w hg=>(hg.reset (kT:=[1,2,4,8,10]) (kO:=[0,1]) (by rfl) (by simp)).same ?_ ?_) ?_
   ·exact .cons rfl (.cons rfl (.cons rfl (.cons rfl (.cons (congrArg (fun z=>ji (.int .u8 z)) hx.symm) .nil))))
   ·exact .cons (.box rfl) (.cons (.box rfl) .nil)
   refine aB M hI hn (by rfl) (by kernel_rfl) ?_ ?_
   ·simp;omega
   refine aB M hI hn (by rfl) (by kernel_rfl) ?_ ?_
   ·simp;rw[<-zG]
    exact⟨by omega,by omega,⟨by omega,hlb _ hlm,fun _ _=>rfl⟩,by omega,by omega⟩
   refine aB M hI hn (by rfl) (by kernel_rfl) ?_ ?_
   ·simp;rw[<-zG];omega
   refine aB M hI hn (by rfl) (by kernel_rfl) ?_ ?_
   ·simp
   refine aK (fun a w hg=>⟨.inr rfl,_,?_,hg⟩);unfold NZ y9;rw[jP];refine kH (by rfl) (by simp) (by rfl) ?_;refine .kz (.cons (.agg (.cons ?_ .nil)) (.cons (.one (.cold rfl)) .nil));have e9:(bC b.length (bJ b)).length=b.length:=dF _ _;refine DI.v_ e9 (.rows rfl trivial (by omega) (fun i hi=>?_));rw[Nat.zero_add]
   by_cases hi2:i=2
   ·subst hi2;refine .inr ⟨10008,0,1,0,(b.getD 2 []).length,_,_,_,_,pg ((b.getD 2 []).set nc (dX (cZ b 2 (nc:Int)) cut)),?_,?_,rfl,trivial,?_,fun k hk=>⟨?_,rfl⟩⟩
    ·change [PC.ow 10008 0 1 0 (rowCell ((bC b.length (bJ b)).getD 2 []).length (pg ((bC b.length (bJ b)).getD 2 []))).length]=_;rw[aH,bZ]
    ·rw[show (2:Int)=((2:Nat):Int) from rfl,oO h2b];unfold Ah;rw[List.length_set]
    ·change 0+(b.getD 2 []).length<=(rowCell ((bC b.length (bJ b)).getD 2 []).length (pg ((bC b.length (bJ b)).getD 2 []))).length;rw[aH,bZ];omega
    ·rw[Nat.zero_add];change (if k=0+(nc:Int).toNat then[PC.lit (.int .u8 (dX (cZ b 2 (nc:Int)) cut))] else pg (rowCell ((bC b.length (bJ b)).getD 2 []).length (pg ((bC b.length (bJ b)).getD 2 []))) k)=_;rw[aH,jM,Int.toNat_natCast,Nat.zero_add];exact sF (by omega)
   ·refine .inl ⟨?_,rfl⟩;rw[if_neg (by rw[Nat.zero_add];exact hi2),aH];exact (sZ (nb:=2) hi2).symm
 ·have hcut:cut=false:=hc;refine aO ?_;change h_ _ _ _ _ _;refine aJ ?_;refine aB M hI hn (by rfl) (by kernel_rfl) ?_ ?_
  ·simp;rw[<-zG];omega
  refine aB M hI hn (by rfl) (by kernel_rfl) ?_ ?_
  ·simp
  refine aG (by rfl) (fun hc=>?_) (fun hc=>?_)
  ·have hc2:(bif cZ b 2 (nc:Int)==2 then true else cZ b 2 (nc:Int)==3)=true:=hc
   have hx:dX (cZ b 2 (nc:Int)) cut=cZ b 2 (nc:Int):=by
    unfold dX
    have h5:¬cZ b 2 (nc:Int)<=1:=fun h=>by
     by_cases h2:cZ b 2 (nc:Int)=2
     ·omega
     ·rw[beq_eq_false_iff_ne.2 h2] at hc2;have h3:=eq_of_beq hc2;omega
    rw[if_neg h5]
   refine aP M hI hn (by rfl) (by kernel_rfl) ?_ ?_
   ·simp
   change h_ _ _ _ _ _;refine aI (s':=DW b 2 nc (dX (cZ b 2 (nc:Int)) cut)) (fun a w hg=>(hg.reset (kT:=[1,2,4,8,10]) (kO:=[0,1]) (by rfl) (by simp)).same ?_ ?_) ?_
   ·exact .cons rfl (.cons rfl (.cons rfl (.cons rfl (.cons (congrArg (fun z=>ji (.int .u8 z)) hx.symm) .nil))))
   ·exact .cons (.box rfl) (.cons (.box rfl) .nil)
   refine aB M hI hn (by rfl) (by kernel_rfl) ?_ ?_
   ·simp;omega
   refine aB M hI hn (by rfl) (by kernel_rfl) ?_ ?_
   ·simp;rw[<-zG]
    exact⟨by omega,by omega,⟨by omega,hlb _ hlm,fun _ _=>rfl⟩,by omega,by omega⟩
   refine aB M hI hn (by rfl) (by kernel_rfl) ?_ ?_
   ·simp;rw[<-zG];omega
   refine aB M hI hn (by rfl) (by kernel_rfl) ?_ ?_
   ·simp
   refine aK (fun a w hg=>⟨.inr rfl,_,?_,hg⟩);unfold NZ y9;rw[jP];refine kH (by rfl) (by simp) (by rfl) ?_;refine .kz (.cons (.agg (.cons ?_ .nil)) (.cons (.one (.cold rfl)) .nil));have e9:(bC b.length (bJ b)).length=b.length:=dF _ _;refine DI.v_ e9 (.rows rfl trivial (by omega) (fun i hi=>?_));rw[Nat.zero_add]
   by_cases hi2:i=2
   ·subst hi2;refine .inr ⟨10008,0,1,0,(b.getD 2 []).length,_,_,_,_,pg ((b.getD 2 []).set nc (dX (cZ b 2 (nc:Int)) cut)),?_,?_,rfl,trivial,?_,fun k hk=>⟨?_,rfl⟩⟩
    ·change [PC.ow 10008 0 1 0 (rowCell ((bC b.length (bJ b)).getD 2 []).length (pg ((bC b.length (bJ b)).getD 2 []))).length]=_;rw[aH,bZ]
    ·rw[show (2:Int)=((2:Nat):Int) from rfl,oO h2b];unfold Ah;rw[List.length_set]
    ·change 0+(b.getD 2 []).length<=(rowCell ((bC b.length (bJ b)).getD 2 []).length (pg ((bC b.length (bJ b)).getD 2 []))).length;rw[aH,bZ];omega
    ·rw[Nat.zero_add];change (if k=0+(nc:Int).toNat then[PC.lit (.int .u8 (dX (cZ b 2 (nc:Int)) cut))] else pg (rowCell ((bC b.length (bJ b)).getD 2 []).length (pg ((bC b.length (bJ b)).getD 2 []))) k)=_;rw[aH,jM,Int.toNat_natCast,Nat.zero_add];exact sF (by omega)
   ·refine .inl ⟨?_,rfl⟩;rw[if_neg (by rw[Nat.zero_add];exact hi2),aH];exact (sZ (nb:=2) hi2).symm
  ·have hc2:(bif cZ b 2 (nc:Int)==2 then true else cZ b 2 (nc:Int)==3)=false:=hc
   have hx:dX (cZ b 2 (nc:Int)) cut=2:=by
    unfold dX
    have h5:cZ b 2 (nc:Int)<=1:=by
     by_cases h2:cZ b 2 (nc:Int)=2
     ·rw[h2] at hc2;cases hc2
     ·rw[beq_eq_false_iff_ne.2 h2] at hc2
      by_cases h3:cZ b 2 (nc:Int)=3
      ·rw[h3] at hc2;cases hc2
      ·omega
    rw[if_pos h5,hcut];rfl
   refine aO ?_;change h_ _ _ _ _ _;refine aI (s':=DW b 2 nc (dX (cZ b 2 (nc:Int)) cut)) (fun a w hg=>(hg.reset (kT:=[1,2,4,8,10]) (kO:=[0,1]) (by rfl) (by simp)).same ?_ ?_) ?_
   ·exact .cons rfl (.cons rfl (.cons rfl (.cons rfl (.cons (congrArg (fun z=>ji (.int .u8 z)) hx.symm) .nil))))
   ·exact .cons (.box rfl) (.cons (.box rfl) .nil)
   refine aB M hI hn (by rfl) (by kernel_rfl) ?_ ?_
   ·simp;omega
   refine aB M hI hn (by rfl) (by kernel_rfl) ?_ ?_
   ·simp;rw[<-zG]
    exact⟨by omega,by omega,⟨by omega,hlb _ hlm,fun _ _=>rfl⟩,by omega,by omega⟩
   refine aB M hI hn (by rfl) (by kernel_rfl) ?_ ?_
   ·simp;rw[<-zG];omega
   refine aB M hI hn (by rfl) (by kernel_rfl) ?_ ?_
   ·simp
   refine aK (fun a w hg=>⟨.inr rfl,_,?_,hg⟩);unfold NZ y9;rw[jP];refine kH (by rfl) (by simp) (by rfl) ?_;refine .kz (.cons (.agg (.cons ?_ .nil)) (.cons (.one (.cold rfl)) .nil));have e9:(bC b.length (bJ b)).length=b.length:=dF _ _;refine DI.v_ e9 (.rows rfl trivial (by omega) (fun i hi=>?_));rw[Nat.zero_add]
   by_cases hi2:i=2
   ·subst hi2;refine .inr ⟨10008,0,1,0,(b.getD 2 []).length,_,_,_,_,pg ((b.getD 2 []).set nc (dX (cZ b 2 (nc:Int)) cut)),?_,?_,rfl,trivial,?_,fun k hk=>⟨?_,rfl⟩⟩
    ·change [PC.ow 10008 0 1 0 (rowCell ((bC b.length (bJ b)).getD 2 []).length (pg ((bC b.length (bJ b)).getD 2 []))).length]=_;rw[aH,bZ]
    ·rw[show (2:Int)=((2:Nat):Int) from rfl,oO h2b];unfold Ah;rw[List.length_set]
    ·change 0+(b.getD 2 []).length<=(rowCell ((bC b.length (bJ b)).getD 2 []).length (pg ((bC b.length (bJ b)).getD 2 []))).length;rw[aH,bZ];omega
    ·rw[Nat.zero_add];change (if k=0+(nc:Int).toNat then[PC.lit (.int .u8 (dX (cZ b 2 (nc:Int)) cut))] else pg (rowCell ((bC b.length (bJ b)).getD 2 []).length (pg ((bC b.length (bJ b)).getD 2 []))) k)=_;rw[aH,jM,Int.toNat_natCast,Nat.zero_add];exact sF (by omega)
   ·refine .inl ⟨?_,rfl⟩;rw[if_neg (by rw[Nat.zero_add];exact hi2),aH];exact (sZ (nb:=2) hi2).symm
theorem Io(b:List (List Int))(nc:Nat)(cut:Bool)(hl4:b.length<=1000)(hlb:∀ l∈b,l.length<=100000)(hv:∀ l∈b,∀ x∈l,0<=x/\x<=3)(he:BB b 3 (nc:Int)=true):gB Tryz.prog a_ 125 false [.w (.agg (y9 b)),gy ((3:Nat):Int),gy (nc:Int),qc cut] (NZ (qw b 3 (nc:Int) cut) 0):=by
 have M:=puM;have hex:=aTk he;refine bI Tryz.func125 rfl rfl bQ (fun A hS hn hI=>?_);refine aB M hI hn (by rfl) (by kernel_rfl) ?_ ?_
 ·simp
 refine aJ ?_;refine aB M hI hn (by rfl) (by kernel_rfl) ?_ ?_
 ·simp
 rw[aH,show ((3:Nat):Int)=3 from rfl,he];refine aG (by rfl) (fun hc=>?_) (fun hc=>?_)
 ·cases hc
 refine aO ?_;change h_ _ _ _ _ _;refine aB M hI hn (by rfl) (by kernel_rfl) ?_ ?_
 ·simp
 have h2b:3<b.length:=by have:=hex.1.2;omega
 have hlm:b.getD 3 []∈b:=getD_mem h2b [];have hcl:(nc:Int)<((b.getD 3 []).length:Int):=hex.2.2;have hcm:0<=cZ b 3 (nc:Int)/\cZ b 3 (nc:Int)<=3:=hv _ hlm _ (getD_mem (by omega) 0);refine aJ ?_;refine aB M hI hn (by rfl) (by kernel_rfl) ?_ ?_
 ·simp
 refine aG (by rfl) (fun hc=>?_) (fun hc=>?_)
 ·have hcut:cut=true:=hc;refine aP M hI hn (by rfl) (by kernel_rfl) ?_ ?_
  ·simp
  change h_ _ _ _ _ _;refine aJ ?_;refine aB M hI hn (by rfl) (by kernel_rfl) ?_ ?_
  ·simp;rw[<-zG];omega
  refine aB M hI hn (by rfl) (by kernel_rfl) ?_ ?_
  ·simp
  refine aG (by rfl) (fun hc=>?_) (fun hc=>?_)
  ·have hc2:(bif cZ b 3 (nc:Int)==2 then true else cZ b 3 (nc:Int)==3)=true:=hc
   have hx:dX (cZ b 3 (nc:Int)) cut=cZ b 3 (nc:Int):=by
    unfold dX
    have h5:¬cZ b 3 (nc:Int)<=1:=fun h=>by
     by_cases h2:cZ b 3 (nc:Int)=2
     ·omega
     ·rw[beq_eq_false_iff_ne.2 h2] at hc2;have h3:=eq_of_beq hc2;omega
    rw[if_neg h5]
   refine aP M hI hn (by rfl) (by kernel_rfl) ?_ ?_
   ·simp
   change h_ _ _ _ _ _;refine aI (s':=DW b 3 nc (dX (cZ b 3 (nc:Int)) cut)) (fun a w hg=>(hg.reset (kT:=[1,2,4,8,10]) (kO:=[0,1]) (by rfl) (by simp)).same ?_ ?_) ?_
   ·exact .cons rfl (.cons rfl (.cons rfl (.cons rfl (.cons (congrArg (fun z=>ji (.int .u8 z)) hx.symm) .nil))))
   ·exact .cons (.box rfl) (.cons (.box rfl) .nil)
   refine aB M hI hn (by rfl) (by kernel_rfl) ?_ ?_
   ·simp;omega
   refine aB M hI hn (by rfl) (by kernel_rfl) ?_ ?_
   ·simp;rw[<-zG]
    exact⟨by omega,by omega,⟨by omega,hlb _ hlm,fun _ _=>rfl⟩,by omega,by omega⟩
   refine aB M hI hn (by rfl) (by kernel_rfl) ?_ ?_
   ·simp;rw[<-zG];omega
   refine aB M hI hn (by rfl) (by kernel_rfl) ?_ ?_
   ·simp
   refine aK (fun a w hg=>⟨.inr rfl,_,?_,hg⟩);unfold NZ y9;rw[jP];refine kH (by rfl) (by simp) (by rfl) ?_;refine .kz (.cons (.agg (.cons ?_ .nil)) (.cons (.one (.cold rfl)) .nil));have e9:(bC b.length (bJ b)).length=b.length:=dF _ _;refine DI.v_ e9 (.rows rfl trivial (by omega) (fun i hi=>?_));rw[Nat.zero_add]
   by_cases hi2:i=3
   ·subst hi2;refine .inr ⟨10008,0,1,0,(b.getD 3 []).length,_,_,_,_,pg ((b.getD 3 []).set nc (dX (cZ b 3 (nc:Int)) cut)),?_,?_,rfl,trivial,?_,fun k hk=>⟨?_,rfl⟩⟩
    ·change [PC.ow 10008 0 1 0 (rowCell ((bC b.length (bJ b)).getD 3 []).length (pg ((bC b.length (bJ b)).getD 3 []))).length]=_;rw[aH,bZ]
    ·rw[show (3:Int)=((3:Nat):Int) from rfl,oO h2b];unfold Ah;rw[List.length_set]
    ·change 0+(b.getD 3 []).length<=(rowCell ((bC b.length (bJ b)).getD 3 []).length (pg ((bC b.length (bJ b)).getD 3 []))).length;rw[aH,bZ];omega
    ·rw[Nat.zero_add];change (if k=0+(nc:Int).toNat then[PC.lit (.int .u8 (dX (cZ b 3 (nc:Int)) cut))] else pg (rowCell ((bC b.length (bJ b)).getD 3 []).length (pg ((bC b.length (bJ b)).getD 3 []))) k)=_;rw[aH,jM,Int.toNat_natCast,Nat.zero_add];exact sF (by omega)
   ·refine .inl ⟨?_,rfl⟩;rw[if_neg (by rw[Nat.zero_add];exact hi2),aH];exact (sZ (nb:=3) hi2).symm
  ·have hc2:(bif cZ b 3 (nc:Int)==2 then true else cZ b 3 (nc:Int)==3)=false:=hc
   have hx:dX (cZ b 3 (nc:Int)) cut=1:=by
    unfold dX
    have h5:cZ b 3 (nc:Int)<=1:=by
     by_cases h2:cZ b 3 (nc:Int)=2
     ·rw[h2] at hc2;cases hc2
     ·rw[beq_eq_false_iff_ne.2 h2] at hc2
      by_cases h3:cZ b 3 (nc:Int)=3
      ·rw[h3] at hc2;cases hc2
      ·omega
    rw[if_pos h5,hcut];rfl
   refine aO ?_;change h_ _ _ _ _ _;refine aI (s':=DW b 3 nc (dX (cZ b 3 (nc:Int)) cut)) (fun a w hg=>(hg.reset (kT:=[1,2,4,8,10]) (kO:=[0,1]) (by rfl) (by simp)).same ?_ ?_) ?_
   ·exact .cons rfl (.cons rfl (.cons rfl (.cons rfl (.cons (congrArg (fun z=>ji (.int .u8 z)) hx.symm) .nil))))
   ·exact .cons (.box rfl) (.cons (.box rfl) .nil)
   refine aB M hI hn (by rfl) (by kernel_rfl) ?_ ?_
   ·simp;omega
   refine aB M hI hn (by rfl) (by kernel_rfl) ?_ ?_
   ·simp;rw[<-zG]
    exact⟨by omega,by omega,⟨by omega,hlb _ hlm,fun _ _=>rfl⟩,by omega,by omega⟩
   refine aB M hI hn (by rfl) (by kernel_rfl) ?_ ?_
   ·simp;rw[<-zG];omega
   refine aB M hI hn (by rfl) (by kernel_rfl) ?_ ?_
   ·simp
   refine aK (fun a w hg=>⟨.inr rfl,_,?_,hg⟩);unfold NZ y9;rw[jP];refine kH (by rfl) (by simp) (by rfl) ?_;refine .kz (.cons (.agg (.cons ?_ .nil)) (.cons (.one (.cold rfl)) .nil));have e9:(bC b.length (bJ b)).length=b.length:=dF _ _;refine DI.v_ e9 (.rows rfl trivial (by omega) (fun i hi=>?_));rw[Nat.zero_add]
   by_cases hi2:i=3
   ·subst hi2;refine .inr ⟨10008,0,1,0,(b.getD 3 []).length,_,_,_,_,pg ((b.getD 3 []).set nc (dX (cZ b 3 (nc:Int)) cut)),?_,?_,rfl,trivial,?_,fun k hk=>⟨?_,rfl⟩⟩
    ·change [PC.ow 10008 0 1 0 (rowCell ((bC b.length (bJ b)).getD 3 []).length (pg ((bC b.length (bJ b)).getD 3 []))).length]=_;rw[aH,bZ]
    ·rw[show (3:Int)=((3:Nat):Int) from rfl,oO h2b];unfold Ah;rw[List.length_set]
    ·change 0+(b.getD 3 []).length<=(rowCell ((bC b.length (bJ b)).getD 3 []).length (pg ((bC b.length (bJ b)).getD 3 []))).length;rw[aH,bZ];omega
    ·rw[Nat.zero_add];change (if k=0+(nc:Int).toNat then[PC.lit (.int .u8 (dX (cZ b 3 (nc:Int)) cut))] else pg (rowCell ((bC b.length (bJ b)).getD 3 []).length (pg ((bC b.length (bJ b)).getD 3 []))) k)=_;rw[aH,jM,Int.toNat_natCast,Nat.zero_add];exact sF (by omega)
   ·refine .inl ⟨?_,rfl⟩;rw[if_neg (by rw[Nat.zero_add];exact hi2),aH];exact (sZ (nb:=3) hi2).symm
 ·have hcut:cut=false:=hc;refine aO ?_;change h_ _ _ _ _ _;refine aJ ?_;refine aB M hI hn (by rfl) (by kernel_rfl) ?_ ?_
  ·simp;rw[<-zG];omega
  refine aB M hI hn (by rfl) (by kernel_rfl) ?_ ?_
  ·simp
  refine aG (by rfl) (fun hc=>?_) (fun hc=>?_)
  ·have hc2:(bif cZ b 3 (nc:Int)==2 then true else cZ b 3 (nc:Int)==3)=true:=hc
   have hx:dX (cZ b 3 (nc:Int)) cut=cZ b 3 (nc:Int):=by
    unfold dX
    have h5:¬cZ b 3 (nc:Int)<=1:=fun h=>by
     by_cases h2:cZ b 3 (nc:Int)=2
     ·omega
     ·rw[beq_eq_false_iff_ne.2 h2] at hc2;have h3:=eq_of_beq hc2;omega
    rw[if_neg h5]
   refine aP M hI hn (by rfl) (by kernel_rfl) ?_ ?_
   ·simp
   change h_ _ _ _ _ _;refine aI (s':=DW b 3 nc (dX (cZ b 3 (nc:Int)) cut)) (fun a w hg=>(hg.reset (kT:=[1,2,4,8,10]) (kO:=[0,1]) (by rfl) (by simp)).same ?_ ?_) ?_
   ·exact .cons rfl (.cons rfl (.cons rfl (.cons rfl (.cons (congrArg (fun z=>ji (.int .u8 z)) hx.symm) .nil))))
   ·exact .cons (.box rfl) (.cons (.box rfl) .nil)
   refine aB M hI hn (by rfl) (by kernel_rfl) ?_ ?_
   ·simp;omega
   refine aB M hI hn (by rfl) (by kernel_rfl) ?_ ?_
   ·simp;rw[<-zG]
    exact⟨by omega,by omega,⟨by omega,hlb _ hlm,fun _ _=>rfl⟩,by omega,by omega⟩
   refine aB M hI hn (by rfl) (by kernel_rfl) ?_ ?_
   ·simp;rw[<-zG];omega
   refine aB M hI hn (by rfl) (by kernel_rfl) ?_ ?_
   ·simp
   refine aK (fun a w hg=>⟨.inr rfl,_,?_,hg⟩);unfold NZ y9;rw[jP];refine kH (by rfl) (by simp) (by rfl) ?_;refine .kz (.cons (.agg (.cons ?_ .nil)) (.cons (.one (.cold rfl)) .nil));have e9:(bC b.length (bJ b)).length=b.length:=dF _ _;refine DI.v_ e9 (.rows rfl trivial (by omega) (fun i hi=>?_));rw[Nat.zero_add]
   by_cases hi2:i=3
   ·subst hi2;refine .inr ⟨10008,0,1,0,(b.getD 3 []).length,_,_,_,_,pg ((b.getD 3 []).set nc (dX (cZ b 3 (nc:Int)) cut)),?_,?_,rfl,trivial,?_,fun k hk=>⟨?_,rfl⟩⟩
    ·change [PC.ow 10008 0 1 0 (rowCell ((bC b.length (bJ b)).getD 3 []).length (pg ((bC b.length (bJ b)).getD 3 []))).length]=_;rw[aH,bZ]
    ·rw[show (3:Int)=((3:Nat):Int) from rfl,oO h2b];unfold Ah;rw[List.length_set]
    ·change 0+(b.getD 3 []).length<=(rowCell ((bC b.length (bJ b)).getD 3 []).length (pg ((bC b.length (bJ b)).getD 3 []))).length;rw[aH,bZ];omega
    ·rw[Nat.zero_add];change (if k=0+(nc:Int).toNat then[PC.lit (.int .u8 (dX (cZ b 3 (nc:Int)) cut))] else pg (rowCell ((bC b.length (bJ b)).getD 3 []).length (pg ((bC b.length (bJ b)).getD 3 []))) k)=_;rw[aH,jM,Int.toNat_natCast,Nat.zero_add];exact sF (by omega)
   ·refine .inl ⟨?_,rfl⟩;rw[if_neg (by rw[Nat.zero_add];exact hi2),aH];exact (sZ (nb:=3) hi2).symm
  ·have hc2:(bif cZ b 3 (nc:Int)==2 then true else cZ b 3 (nc:Int)==3)=false:=hc
   have hx:dX (cZ b 3 (nc:Int)) cut=2:=by
    unfold dX
    have h5:cZ b 3 (nc:Int)<=1:=by
     by_cases h2:cZ b 3 (nc:Int)=2
     ·rw[h2] at hc2;cases hc2
     ·rw[beq_eq_false_iff_ne.2 h2] at hc2
      by_cases h3:cZ b 3 (nc:Int)=3
      ·rw[h3] at hc2;cases hc2
      ·omega
    rw[if_pos h5,hcut];rfl
   refine aO ?_;change h_ _ _ _ _ _;refine aI (s':=DW b 3 nc (dX (cZ b 3 (nc:Int)) cut)) (fun a w hg=>(hg.reset (kT:=[1,2,4,8,10]) (kO:=[0,1]) (by rfl) (by simp)).same ?_ ?_) ?_
   ·exact .cons rfl (.cons rfl (.cons rfl (.cons rfl (.cons (congrArg (fun z=>ji (.int .u8 z)) hx.symm) .nil))))
   ·exact .cons (.box rfl) (.cons (.box rfl) .nil)
   refine aB M hI hn (by rfl) (by kernel_rfl) ?_ ?_
   ·simp;omega
   refine aB M hI hn (by rfl) (by kernel_rfl) ?_ ?_
   ·simp;rw[<-zG]
    exact⟨by omega,by omega,⟨by omega,hlb _ hlm,fun _ _=>rfl⟩,by omega,by omega⟩
   refine aB M hI hn (by rfl) (by kernel_rfl) ?_ ?_
   ·simp;rw[<-zG];omega
   refine aB M hI hn (by rfl) (by kernel_rfl) ?_ ?_
   ·simp
   refine aK (fun a w hg=>⟨.inr rfl,_,?_,hg⟩);unfold NZ y9;rw[jP];refine kH (by rfl) (by simp) (by rfl) ?_;refine .kz (.cons (.agg (.cons ?_ .nil)) (.cons (.one (.cold rfl)) .nil));have e9:(bC b.length (bJ b)).length=b.length:=dF _ _;refine DI.v_ e9 (.rows rfl trivial (by omega) (fun i hi=>?_));rw[Nat.zero_add]
   by_cases hi2:i=3
   ·subst hi2;refine .inr ⟨10008,0,1,0,(b.getD 3 []).length,_,_,_,_,pg ((b.getD 3 []).set nc (dX (cZ b 3 (nc:Int)) cut)),?_,?_,rfl,trivial,?_,fun k hk=>⟨?_,rfl⟩⟩
    ·change [PC.ow 10008 0 1 0 (rowCell ((bC b.length (bJ b)).getD 3 []).length (pg ((bC b.length (bJ b)).getD 3 []))).length]=_;rw[aH,bZ]
    ·rw[show (3:Int)=((3:Nat):Int) from rfl,oO h2b];unfold Ah;rw[List.length_set]
    ·change 0+(b.getD 3 []).length<=(rowCell ((bC b.length (bJ b)).getD 3 []).length (pg ((bC b.length (bJ b)).getD 3 []))).length;rw[aH,bZ];omega
    ·rw[Nat.zero_add];change (if k=0+(nc:Int).toNat then[PC.lit (.int .u8 (dX (cZ b 3 (nc:Int)) cut))] else pg (rowCell ((bC b.length (bJ b)).getD 3 []).length (pg ((bC b.length (bJ b)).getD 3 []))) k)=_;rw[aH,jM,Int.toNat_natCast,Nat.zero_add];exact sF (by omega)
   ·refine .inl ⟨?_,rfl⟩;rw[if_neg (by rw[Nat.zero_add];exact hi2),aH];exact (sZ (nb:=3) hi2).symm
def UO:List PV->Option (Prop×PV)
 |[.w (.agg [.sl 1 n f]),.w (.one (.lit (.int .i64 bk))),.w (.one (.lit (.int .i64 c))),.w (.one (.lit (.bool cut)))]=>some (lW n f/\n<=1000/\(∀ l∈bC n f,l.length<=100000)/\(∀ l∈bC n f,∀ x∈l,0<=x/\x<=3)/\(bk=2\/bk=3)/\BB (bC n f) bk c=true,NZ (qw (bC n f) bk c cut) 0)
 |_=>none
theorem Iq:aj Tryz.prog a_ 125 (aZ false UO):=by
 refine aY (aF Tryz.func125 (by kernel_rfl) rfl) (fun xs p r hg hp w ok0 vs hI hv=>?_);unfold UO at hg
 split at hg
 ·rename_i n f bk c cut;cases hg;obtain⟨h1,h2,h3,h4,hbk,h5⟩:=hp;obtain⟨nc,rfl⟩:∃ nc:Nat,c=(nc:Int):=⟨c.toNat,by have:=(aTk h5).2.1;omega⟩
  match vs,hv with
  |[v1,v2,v3,v4],⟨k1,k2,k3,k4,_⟩=>
   rcases hbk with rfl|rfl
   ·exact Ip (bC n f) nc cut (by rw[dF];exact h2) h3 h4 h5 w ok0 [v1,v2,v3,v4] hI ⟨Yu h1 k1,k2,k3,k4,trivial⟩
   ·exact Io (bC n f) nc cut (by rw[dF];exact h2) h3 h4 h5 w ok0 [v1,v2,v3,v4] hI ⟨Yu h1 k1,k2,k3,k4,trivial⟩
 ·cases hg
end Pv
theorem aHr:ru Tryz.prog 173 10:=⟨⟨_,Tryz.underlying173,rfl⟩,by kernel_rfl⟩
def aDA:Array Value:=#[.nilFunc,.nilFunc,.func (.func 121) #[] #[],.func (.func 122) #[] #[],.func (.func 121) #[] #[],.func (.func 124) #[] #[],
 .func (.func 126) #[] #[],.func (.func 127) #[] #[],.func (.func 129) #[] #[],.func (.func 130) #[] #[]]
theorem aOl(w:World):Calls Tryz.prog 94 #[] w fun e w'=>e=.returned (.agg aDA)/\Ext w w':=by
 go_enter Tryz.func94,Tryz.ntmps94
 go_wp2_with (refine aT (ty:=173) (t:=173) (x:=.tmp 0) (y:=.tmp 8) rfl rfl aHr rfl rfl (au.new w _ _) rfl rfl (by rw[<-Array.all_toList];rfl) ?_;intro w2 hb2 hc2 hz2)
 refine bodyPost_ret (v:=.agg aDA) (dB aHr rfl hb2 rfl rfl) rfl ⟨rfl,?_⟩;exact ((Ext.refl w).alloc _).trans' hc2 (fun _ _ h=>h) (fun i hi e=>by omega)
def xC(c:Acc):Prop:=((c.kind=1\/c.kind=2)/\(c.ay=2\/c.ay=3)/\(0<=c.cell/\c.cell<48)/\c.bytes=aS)\/((c.kind=3/\c.bytes=aS\/c.kind=4/\c.bytes.size=256)/\c.ay=0/\0<=c.cell/\c.cell<64)
instance (c:Acc):Decidable (xC c):=by unfold xC;infer_instance
structure qh(h:j_):Prop where
 ok:D7 h
 n:3<h.b.length
 l2:(h.b.getD 2 []).length=48
 l3:(h.b.getD 3 []).length=48
 f:64<=h.f.length
theorem Lh{b:List (List Int)}{k c:Int}(h0:0<=k)(h1:k<b.length)(h2:0<=c)(h3:c<((b.getD k.toNat []).length:Int)):BB b k c=true:=by
 unfold BB;simp only[Bool.and_eq_true,decide_eq_true_eq]
 exact⟨⟨⟨h0,h1⟩,h2⟩,h3⟩
theorem qh.ex{h:j_}(d:qh h){k c:Int}(hk:k=2\/k=3)(hc:0<=c/\c<48):BB h.b k c=true:=by
 have h1:=d.n;rcases hk with rfl|rfl
 ·refine Lh (by decide) (by omega) hc.1 ?_;rw[show (2:Int).toNat=2 from rfl,d.l2];exact hc.2
 ·refine Lh (by decide) (by omega) hc.1 ?_;rw[show (3:Int).toNat=3 from rfl,d.l3];exact hc.2
theorem aGi(b:List (List Int))(k c:Int)(cut:Bool)(j:Nat):((qw b k c cut).getD j []).length=(b.getD j []).length:=by
 unfold qw;rw[zG,List.getElem?_set]
 split
 ·rename_i e;subst e
  split
  ·rename_i hl;rw[Option.getD_some,List.length_set]
  ·rename_i hl;rw[zG,List.getElem?_eq_none (by omega)]
 ·rw[<-zG]
theorem yM(f:Fl)(s:Int)(b:ByteArray)(cut:Int):(iO f s b cut).length=f.length:=by
 unfold iO
 split
 ·exact List.length_set ..
 ·rfl
theorem aQu{h:j_}{a:Acc}{t:oh}(hk:a.kind=1)(hb:a.bytes=aS)(hx:BB h.b a.ay a.cell=true):fZ h a t=(h,if t.cut then jX else⟨fK (cZ h.b a.ay a.cell) t.iy,aS⟩,0):=by
 unfold fZ;rw[if_pos hk,if_pos hb,if_pos hx]
theorem aQt{h:j_}{a:Acc}{t:oh}(hk:a.kind=2)(hb:a.bytes=aS)(hx:BB h.b a.ay a.cell=true):fZ h a t=({ h with b:=qw h.b a.ay a.cell t.cut },jX,0):=by
 unfold fZ;rw[if_neg (by omega),if_pos hk,if_pos hb,if_pos hx]
theorem aJw{h:j_}{a:Acc}{t:oh}(hk:a.kind=3)(hb:a.bytes=aS/\a.ay=0)(hx:0<=a.cell/\a.cell<h.f.length):fZ h a t=(h,if t.cut then jX else⟨0,strOf (sec h.f a.cell)⟩,0):=by
 unfold fZ;rw[if_neg (by omega),if_neg (by omega),if_pos hk,if_pos hb,if_pos hx]
theorem aJv{h:j_}{a:Acc}{t:oh}(hk:a.kind=4)(hb:a.ay=0)(hx:0<=a.cell/\a.cell<h.f.length)(hs:a.bytes.size=256):fZ h a t=({ h with f:=iO h.f a.cell a.bytes (Cm t) },jX,0):=by
 unfold fZ;rw[if_neg (by omega),if_neg (by omega),if_neg (by omega),if_pos hk,if_pos hb,if_pos hx,if_pos hs]
theorem qh.step{h:j_}(d:qh h){c:Acc}(g:xC c)(t:oh):qh (fZ h c t).1:=by
 have hok:=aTo c t d.ok;have hf:=d.f;rcases g with⟨hk|hk,hb,hc,hs⟩|⟨⟨hk,hs⟩|⟨hk,hs⟩,hb,hc⟩
 ·rw[aQu hk hs (d.ex hb hc)];exact d
 ·rw[aQt hk hs (d.ex hb hc)] at hok ⊢
  refine⟨hok,?_,?_,?_,d.f⟩
  ·show 3<(qw _ _ _ _).length;unfold qw;rw[List.length_set];exact d.n
  ·exact (aGi _ _ _ _ 2).trans d.l2
  ·exact (aGi _ _ _ _ 3).trans d.l3
 ·rw[aJw hk ⟨hs,hb⟩ ⟨hc.1,by omega⟩];exact d
 ·rw[aJv hk hb ⟨hc.1,by omega⟩ hs] at hok ⊢
  exact⟨hok,d.n,d.l2,d.l3,by show 64<=(iO _ _ _ _).length;rw[yM];exact hf⟩
theorem aRx{F:List oh}:∀ (l:List Acc) (i:Nat) {h:j_},qh h->(∀ c∈l,xC c)->qh (zy F h l i)
 |[],_,_,d,_=>d
 |c::l,i,_,d,g=>aRx l (i+1) (d.step (g c List.mem_cons_self) _) (fun x hx=>g x (List.mem_cons_of_mem _ hx))
def ah.ZB{α:Type}:ah α->Prop
 |.ret _=>True
 |.ask a k=>xC a/\∀ r,ah.ZB (k r)
namespace Pv
def nJ(F:List oh)(h:j_)(l:List Acc):Option jc:=match l.getLast? with
 |none=>some jX
 |some c=>if (eX F (l.length-1)).cut=true\/¬xC c\/1000000<l.length-1 then none else some (fZ (zy F h l.dropLast 0) c (eX F (l.length-1))).2.1
theorem aGq(F:List oh)(h:j_)(l:List Acc)(c:Acc):nJ F h (l++[c])=if (eX F l.length).cut=true\/¬xC c\/1000000<l.length then none else some (fZ (zy F h l 0) c (eX F l.length)).2.1:=by
 unfold nJ;rw[List.getLast?_append,List.dropLast_concat,List.length_append,List.length_singleton,Nat.add_sub_cancel];rfl
theorem L6{α:Type}(F:List oh)(h0:j_)(p:ah α):ah.ZB p->∀ (n:Nat),p.Within n->∀ l:List Acc,l.length+n<=1000000 ->
  (En F (go (nJ F h0) p l).2.length->eG F p (zy F h0 l 0) l.length=(some (go (nJ F h0) p l).1,zy F h0 (go (nJ F h0) p l).2 0,(go (nJ F h0) p l).2.length)) /\
  ∀ l' c,l <+: l'->l'++[c] <+: (go (nJ F h0) p l).2->En F l'.length->(eX F l'.length).cut=true->eG F p (zy F h0 l 0) l.length=(none,zy F h0 (l'++[c]) 0,l'.length+1):=by
 induction p with
 |ret a=>
  intro _ n _ l _
  refine⟨fun _=>rfl,fun l' c h1 h2 _ _=>?_⟩
  rw[go_ret] at h2;have e1:=h1.length_le;have e2:(l'++[c]).length<=l.length:=h2.length_le;rw[List.length_append,List.length_singleton] at e2;exfalso
  omega
 | ask a k ih=>
  intro hIn n hW l hln
  obtain⟨n,rfl⟩:∃ m,n=m+1:=by
   cases n with
   |zero=>exact hW.elim
   |succ m=>exact⟨m,rfl⟩
  have hgd:xC a:=hIn.1;rw[vY];have hs:=aRw F l a h0;have hO:=aGq F h0 l a
  have hlen:(l++[a]).length=l.length+1:=by rw[List.length_append,List.length_singleton]
  have hpre:=uD (nJ F h0) (k (ans (nJ F h0) (l++[a]))) (l++[a]);obtain⟨i1,i2⟩:=ih (ans (nJ F h0) (l++[a])) (hIn.2 _) n (hW _) (l++[a]) (by rw[List.length_append,List.length_singleton];omega)
  by_cases hc:(eX F l.length).cut=true
  ·have hex:eG F (.ask a k) (zy F h0 l 0) l.length=(none,zy F h0 (l++[a]) 0,l.length+1):=by
    rw[eG,if_pos hc,hs]
   refine⟨fun hn=>?_,fun l' c h1 h2 hn hc2=>?_⟩
   ·have:=hn l.length (by have:=hpre.length_le;omega);rw[this] at hc;cases hc
   ·have e1:=h1.length_le
    have hll:l'.length=l.length:=by
     rcases Nat.lt_or_ge l.length l'.length with h|h
     ·have:=hn _ h;rw[this] at hc;cases hc
     ·omega
    obtain⟨t,ht⟩:=h1
    have ht0:t=[]:=by
     have:=congrArg List.length ht;rw[List.length_append] at this;exact List.eq_nil_of_length_eq_zero (by omega)
    subst ht0;rw[List.append_nil] at ht;subst ht
    have he:l++[c]=l++[a]:=by
     obtain⟨u,hu⟩:=hpre;obtain⟨v,hv⟩:=h2;rw[<-hu,List.append_assoc,List.append_assoc] at hv;have h6:=List.append_cancel_left hv;simp only[List.singleton_append,List.cons.injEq] at h6;rw[h6.1]
    rw[he,hex]
  ·have hans:ans (nJ F h0) (l++[a])=(fZ (zy F h0 l 0) a (eX F l.length)).2.1:=by
    unfold ans;rw[hO,if_neg (fun h=>h.elim hc fun h=>h.elim (fun h=>h hgd) (fun h=>by omega))];rfl
   have hex:eG F (.ask a k) (zy F h0 l 0) l.length=eG F (k (ans (nJ F h0) (l++[a]))) (zy F h0 (l++[a]) 0) (l++[a]).length:=by
    rw[eG,if_neg hc,hs,hlen,hans]
   refine⟨fun hn=>by rw[hex];exact i1 hn,fun l' c h1 h2 hn hc2=>?_⟩
   rw[hex];refine i2 l' c ?_ h2 hn hc2;obtain⟨t,ht⟩:=h1
   cases t with
   |nil=>
    rw[List.append_nil] at ht;subst ht
    exact absurd hc2 hc
   | cons x t=>
    subst ht;obtain⟨u,hu⟩:=hpre;obtain⟨v,hv⟩:=h2;rw[<-hu] at hv
    have h6:x=a:=by
     simp only[List.append_assoc,List.cons_append,List.nil_append] at hv;have h7:=List.append_cancel_left hv;simp only[List.cons.injEq] at h7;exact h7.1
    subst h6
    exact⟨t,by simp⟩
theorem L8{α:Type}(O:List Acc->Option jc)(p:ah α):ah.ZB p->∀ l:List Acc,(∀ c∈l,xC c)->∀ c∈(go O p l).2,xC c:=by
 induction p with
 |ret a=>intro _ l h;exact h
 | ask a k ih=>
  intro hIn l h;rw[vY];refine ih _ (hIn.2 _) _ (fun c hc=>?_);rcases List.mem_append.1 hc with hc|hc
  ·exact h c hc
  ·obtain rfl:=List.mem_singleton.1 hc
   exact hIn.1
end Pv
namespace Pv
def aED(A:jq)(s:St):Exit->Act->World->Prop
 |.panic chain,a,w=>a.defers=A.ds/\D6 A chain w
 |e,a,w=>e=.normal/\n_ A s a w
theorem aRt{P:Program}{A:jq}{s:St}(s':St){x y:Code}{Q:Exit->Act->World->Prop}(h1:h_ P A s x (aED A s'))(h2:h_ P A s' y Q):h_ P A s (.seq x y) Q:=fun a w hg AP=>
 wp_seq (wp_mono (h1 a w hg (fun _ _ _ hd hp=>⟨hd,hp⟩)) (fun e a' w' he=>by
  cases e with
  |panic chain=>exact AP chain a' w' he.1 he.2
  |normal=>exact h2 a' w' he.2 AP
  |_=>cases he.1))
def lw(h:j_):List PC:=[.sl 1 h.b.length (bJ h.b),.sl 1 h.f.length (tu h.f),.bs 16 h.r]
def vN(t:oh):List PC:=[.lit (.bool t.cut),.lit (.int .i64 t.bytes),.lit (.bool t.iy)]
def vz(k b c:Int):Acc:=⟨k,b,c,aS⟩
def Ac:List PC->Option (Prop×j_)
 |[.sl 1 n f,.sl 1 m g,.bs 16 r]=>some (lW n f/\aKk m g,⟨bC n f,iP m g,r⟩)
 |_=>none
theorem Ij{C:Ctx}{n len:Nat}{f:Nat->List PC}{xs:List Value}(h:R C (.sl n len f) xs):∃ v,xs=[v]:=by cases h;exact⟨_,rfl⟩
theorem wR{C:Ctx}{l:List PC}{p:Prop}{h:j_}(e:Ac l=some (p,h))(hp:p){xs:List Value}(hr:RL C l xs):RL C (lw h) xs:=by
 unfold Ac at e
 split at e
 ·rename_i n f m g r;cases e;obtain⟨h1,h2⟩:=hp;unfold lw;dsimp only
  cases hr with
  | cons k1 hr=>cases hr with
   |cons k2 hr=>
    obtain⟨v,rfl⟩:=Ij k1;refine .cons (aEw h1 k1) (.cons ?_ hr);rw[aAv];exact k2.zf (bCc h2)
 ·cases e
theorem uq.Eh{P:Program}{I:World->Prop}{f:Nat}{new:Bool}{x:Nat}{t:TypeId}{l l1 l':List PC}{O:List Acc->Option jc}{dev:Option (List Acc×List Acc)}{dh:List Acc->Prop}{args:List PV}{res:PV}(h:uq P I f new [⟨x,t,l1,l'⟩] O dev dh args res)
  (hl:∀ C xs,RL C l xs->RL C l1 xs):uq P I f new [⟨x,t,l,l'⟩] O dev dh args res:=by
 intro w ok0 vs bl D X0 hM hold hst AX hO hdv hnd hob hinj hv
 have hS:∀ b,SX [⟨x,t,l,l'⟩] bl D b↔SX [⟨x,t,l1,l'⟩] bl D b:=fun b=>by
  constructor<;>rintro (h|⟨o,ho,rfl⟩)
  ·exact .inl h
  ·obtain rfl:=List.mem_singleton.1 ho
   exact .inr ⟨_,List.mem_singleton_self _,rfl⟩
  ·exact .inl h
  ·obtain rfl:=List.mem_singleton.1 ho
   exact .inr ⟨_,List.mem_singleton_self _,rfl⟩
 refine (h w ok0 vs bl D X0 (fun w' hc=>hM w' (hc.mono fun b _ hb=>(hS b).2 hb)) (fun b hb=>hold b ((hS b).2 hb)) hst AX hO hdv hnd (fun o ho=>?_) (fun o ho o' ho' _=>?_) hv).mono ?_
 ·obtain rfl:=List.mem_singleton.1 ho
  obtain⟨h1,cs,h2,h3⟩:=hob _ (List.mem_singleton_self _)
  exact⟨h1,cs,h2,hl _ _ h3⟩
 ·obtain rfl:=List.mem_singleton.1 ho
  obtain rfl:=List.mem_singleton.1 ho'
  rfl
 ·rintro e w' ⟨h1,h2⟩
  refine⟨h1.mono fun b _ hb=>(hS b).2 hb,?_⟩
  rcases h2 with⟨val,rfl,h3,h4,h5⟩|h2
  ·refine .inl ⟨val,rfl,h3,fun o ho=>?_,h5⟩
   obtain rfl:=List.mem_singleton.1 ho
   exact h4 ⟨x,t,l1,l'⟩ (List.mem_singleton_self _)
  ·exact .inr h2
theorem PN(k b c:Int):gB Tryz.prog a_ 121 true [.w (.agg (rW (vz k b c)))] (qc true):=by
 have M:=zZ (I:=a_);refine bI Tryz.func121 rfl rfl bQ (fun A hS hn hI=>?_);refine aB M hI hn (by rfl) (by kernel_rfl) ?_ ?_
 ·simp
 refine aB M hI hn (by rfl) (by kernel_rfl) ?_ ?_
 ·simp
 refine aK (fun a w hg=>⟨.inr rfl,_,?_,hg⟩);refine aC (by rfl) (by simp) (by rfl) (by rfl) ?_;refine congrArg qc (?_:(aS.toList==(⟨#[]⟩:ByteArray).toList)=true);exact beq_self_eq_true _
def Ua:List PV->Option (Prop×PV)
 |[.w (.agg [.lit (.int .i64 _),.lit (.int .i64 _),.lit (.int .i64 _),.lit (.string s)])]=>some (s=aS,qc true)
 |_=>none
theorem JD:aj Tryz.prog a_ 121 (aZ true Ua):=by
 refine aY (aF Tryz.func121 (by kernel_rfl) rfl) (fun xs p r hg hp=>?_);unfold Ua at hg
 split at hg
 ·cases hg
  obtain rfl:=hp
  exact PN _ _ _
 ·cases hg
theorem PM(k c:Int):gB Tryz.prog a_ 126 true [.w (.agg (rW (vz k 0 c)))] (qc true):=by
 have M:=zZ (I:=a_);refine bI Tryz.func126 rfl rfl bQ (fun A hS hn hI=>?_);refine aB M hI hn (by rfl) (by kernel_rfl) ?_ ?_
 ·simp
 refine aB M hI hn (by rfl) (by kernel_rfl) ?_ ?_
 ·simp
 refine aK (fun a w hg=>⟨.inr rfl,_,?_,hg⟩);refine aC (by rfl) (by simp) (by rfl) (by rfl) ?_;refine congrArg qc (?_:(bif (aS.toList==(⟨#[]⟩:ByteArray).toList) then ((0:Int)==0) else false)=true);rw[show (aS.toList==(⟨#[]⟩:ByteArray).toList)=true from beq_self_eq_true _];rfl
def UZ:List PV->Option (Prop×PV)
 |[.w (.agg [.lit (.int .i64 _),.lit (.int .i64 b),.lit (.int .i64 _),.lit (.string s)])]=>some (b=0/\s=aS,qc true)
 |_=>none
theorem JC:aj Tryz.prog a_ 126 (aZ true UZ):=by
 refine aY (aF Tryz.func126 (by kernel_rfl) rfl) (fun xs p r hg hp=>?_);unfold UZ at hg
 split at hg
 ·cases hg;obtain⟨rfl,rfl⟩:=hp;exact PM _ _
 ·cases hg
theorem PL(a:Acc)(hb:a.ay=0):gB Tryz.prog a_ 129 true [.w (.agg (rW a))] (qc true):=by
 have M:=zZ (I:=a_);refine bI Tryz.func129 rfl rfl bQ (fun A hS hn hI=>?_);obtain⟨k,b,c,s⟩:=a
 obtain rfl:b=0:=hb
 refine aB M hI hn (by rfl) (by kernel_rfl) ?_ ?_
 ·simp
 refine aB M hI hn (by rfl) (by kernel_rfl) ?_ ?_
 ·simp
 refine aK (fun a w hg=>⟨.inr rfl,_,?_,hg⟩);refine aC (by rfl) (by simp) (by rfl) (by rfl) ?_;rfl
def UY:List PV->Option (Prop×PV)
 |[.w (.agg [.lit (.int .i64 _),.lit (.int .i64 b),.lit (.int .i64 _),.lit (.string _)])]=>some (b=0,qc true)
 |_=>none
theorem JB:aj Tryz.prog a_ 129 (aZ true UY):=by
 refine aY (aF Tryz.func129 (by kernel_rfl) rfl) (fun xs p r hg hp=>?_);unfold UY at hg
 split at hg
 ·rename_i k b c s;cases hg;exact PL ⟨k,b,c,s⟩ hp
 ·cases hg
def dcL:List (Nat×Spec):=[(123,aZ true Vf),(125,aZ false UO),(128,ZO),(131,ZN)]
theorem aBZ:∀ p∈dcL,aj Tryz.prog a_ p.1 p.2:=by
 intro p hp;simp only[dcL,List.mem_cons,List.not_mem_nil,or_false] at hp;rcases hp with rfl|rfl|rfl|rfl
 ·exact LM
 ·exact Iq
 ·exact LK
 ·exact bBz
theorem dcM:kw Tryz.prog a_ (find dcL):=⟨bV aBZ,fC⟩
structure B_(h:j_)(b c:Int):Prop where
 ok:D7 h
 bk:b=2\/b=3
 ex:BB h.b b c=true
structure BC(h:j_)(c:Int):Prop where
 ok:D7 h
 ex:0<=c/\c<h.f.length
theorem BC.has{h:j_}{c:Int}(k:BC h c):zk h.f c=true:=by
 unfold zk;rw[decide_eq_true k.ex.1,decide_eq_true k.ex.2];rfl
theorem bCy(h:j_)(k b c:Int)(t:oh)(hc:B_ h b c):uq Tryz.prog a_ 122 false [⟨px,65,lw h,lw h⟩] (fun _=>none) none (fun _=>False) [dm (.pt px 0 0),.w (.agg (rW (vz k b c))),.w (.agg (vN t))]
  (.kz [.agg (lG ⟨fK (cZ h.b b c) t.iy,aS⟩),.one (.lit (.int .i64 0))]):=by
 have M:=dcM;refine jT Tryz.func122 rfl rfl rfl (fun A hn hI=>?_);refine aB M hI hn (by rfl) (by kernel_rfl) ?_ ?_
 ·simp
 refine aB M hI hn (by rfl) (by kernel_rfl) ?_ ?_
 ·simp
 refine aB M hI hn (by rfl) (by kernel_rfl) ?_ ?_
 ·simp
 refine aK (fun a w hg=>⟨.inr rfl,_,⟨?_,(fun o ho=>by obtain rfl:=List.mem_singleton.1 ho;exact⟨_,rfl,dS rfl⟩),fun p hp=>(by cases hp)⟩,hg⟩);refine aC (by rfl) (by simp) (by rfl) (by rfl) ?_;change PV.kz [.agg [.lit (.int .i64 (if BB (bC h.b.length (bJ h.b)) b c=true then fK (cZ (bC h.b.length (bJ h.b)) b c) t.iy else 0)),.lit (.string aS)],.one (.lit (.int .i64 (if BB (bC h.b.length (bJ h.b)) b c=true then 0 else 1)))]=_;rw[aH,hc.ex,if_pos rfl,if_pos rfl];rfl
theorem MB(h:j_)(k b c:Int)(t:oh)(hc:B_ h b c):uq Tryz.prog a_ 124 false [⟨px,65,lw h,lw { h with b:=qw h.b b c t.cut }⟩] (fun _=>none) none (fun _=>False) [dm (.pt px 0 0),.w (.agg (rW (vz k b c))),.w (.agg (vN t))]
  (.kz [.agg (lG jX),.one (.lit (.int .i64 0))]):=by
 have M:=dcM;refine jT Tryz.func124 rfl rfl rfl (fun A hn hI=>?_);refine aB M hI hn (by rfl) (by kernel_rfl) ?_ ?_
 ·simp
 refine aB M hI hn (by rfl) (by kernel_rfl) ?_ ?_
 ·simp
  exact⟨hc.ok.nb,hc.ok.nc,hc.ok.val,hc.bk,hc.ex⟩
 refine aJ ?_;refine aB M hI hn (by rfl) (by kernel_rfl) ?_ ?_
 ·simp
 refine aG (by rfl) (fun hc=>?_) (fun hc=>?_)
 ·refine aP M hI hn (by rfl) (by kernel_rfl) ?_ ?_
  ·simp
  change h_ _ _ _ _ _;refine aB M hI hn (by rfl) (by kernel_rfl) ?_ ?_
  ·simp
  refine aI (s':=⟨[(6,none,dm (.pt 2 0 0)),(7,none,gy 0)],[(px,none,0,.box 65 (lw { h with b:=qw h.b b c t.cut })),(2,none,0,.box 35 (lG jX))]⟩) (fun a w hg=>(hg.reset (kT:=[6,7]) (kO:=[px,2]) (by rfl) (by simp)).same ?_ ?_) ?_
  ·exact .cons rfl (.cons rfl .nil)
  ·refine .cons (.box ?_) (.cons (.box rfl) .nil);change [PC.sl 1 (qw (bC h.b.length (bJ h.b)) b c t.cut).length (bJ (qw (bC h.b.length (bJ h.b)) b c t.cut)),.sl 1 h.f.length (tu h.f),.bs 16 h.r]=_;rw[aH];rfl
  refine aK (fun a w hg=>⟨.inr rfl,_,⟨?_,(fun o ho=>by obtain rfl:=List.mem_singleton.1 ho;exact⟨_,rfl,dS rfl⟩),fun p hp=>(by cases hp)⟩,hg⟩);refine aC (by rfl) (by simp) (by rfl) (by rfl) ?_;rfl
 ·cases hc
theorem Lu(h:j_)(k c:Int)(t:oh)(hc:BC h c):uq Tryz.prog a_ 127 false [⟨px,65,lw h,lw h⟩] (fun _=>none) none (fun _=>False) [dm (.pt px 0 0),.w (.agg (rW (vz k 0 c))),.w (.agg (vN t))]
  (.kz [.agg (lG ⟨0,strOf (sec h.f c)⟩),.one (.lit (.int .i64 0))]):=by
 have M:=dcM;refine jT Tryz.func127 rfl rfl rfl (fun A hn hI=>?_);refine aB M hI hn (by rfl) (by kernel_rfl) ?_ ?_
 ·simp
 refine aB M hI hn (by rfl) (by kernel_rfl) ?_ ?_
 ·simp
 refine aB M hI hn (by rfl) (by kernel_rfl) ?_ ?_
 ·simp
 refine aK (fun a w hg=>⟨.inr rfl,_,⟨?_,(fun o ho=>by obtain rfl:=List.mem_singleton.1 ho;exact⟨_,rfl,dS rfl⟩),fun p hp=>(by cases hp)⟩,hg⟩);refine aC (by rfl) (by simp) (by rfl) (by rfl) ?_;change PV.kz [.agg [.lit (.int .i64 0),.lit (.string (strOf (sec (iP h.f.length (tu h.f)) c)))],.one (.lit (.int .i64 (if zk (iP h.f.length (tu h.f)) c=true then 0 else 13)))]=_;rw[bK,hc.has,if_pos rfl];rfl
def aBW(h:j_)(a:Acc)(_:oh)(cut:Int):St:=⟨[(0,none,dm (.pt px 0 0)),(4,none,dm (.pt 0 0 0)),(6,none,dm (.pt 2 0 0)),(8,none,gy cut)],[(px,none,0,.box 65 (lw h)),(0,none,0,.box 37 (rW a)),(2,none,0,.box 35 (lG jX))]⟩
theorem Qj(h:j_)(a:Acc)(t:oh)(hc:BC h a.cell)(hs:a.bytes.size=256):uq Tryz.prog a_ 130 false [⟨px,65,lw h,lw { h with f:=iO h.f a.cell a.bytes (Cm t) }⟩] (fun _=>none) none (fun _=>False) [dm (.pt px 0 0),.w (.agg (rW a)),.w (.agg (vN t))]
  (.kz [.agg (lG jX),.one (.lit (.int .i64 0))]):=by
 have M:=dcM;refine jT Tryz.func130 rfl rfl rfl (fun A hn hI=>?_);refine aB M hI hn (by rfl) (by kernel_rfl) ?_ ?_
 ·simp
 refine aB M hI hn (by rfl) (by kernel_rfl) ?_ ?_
 ·simp
 refine aRt (aBW h a t (Cm t)) ?_ ?_
 ·refine aB M hI hn (by rfl) (by kernel_rfl) ?_ ?_
  ·simp
  refine aG (by rfl) (fun hc=>?_) (fun hc=>?_)
  ·have hcut:t.cut=true:=hc;refine aP M hI hn (by rfl) (by kernel_rfl) ?_ ?_
   ·simp
   refine fun a' w hg=>⟨rfl,(hg.reset (kT:=[0,4,6,8]) (kO:=[px,0,2]) (by rfl) (by simp)).same ?_ ?_⟩
   ·refine .cons rfl (.cons rfl (.cons rfl (.cons ?_ .nil)));unfold Cm;rw[if_pos hcut]
   ·exact .cons (.box rfl) (.cons (.box rfl) (.cons (.box rfl) .nil))
  ·have hcut:t.cut=false:=hc;refine aO (fun a' w hg=>⟨rfl,(hg.reset (kT:=[0,4,6,8]) (kO:=[px,0,2]) (by rfl) (by simp)).same ?_ ?_⟩)
   ·refine .cons rfl (.cons rfl (.cons rfl (.cons ?_ .nil)));unfold Cm;rw[if_neg (by rw[hcut];exact Bool.false_ne_true)]
   ·exact .cons (.box rfl) (.cons (.box rfl) (.cons (.box rfl) .nil))
 have hfs:=bK h.f;refine aB M hI hn (by rfl) (by kernel_rfl) ?_ ?_
 ·simp
  exact⟨hc.ok.sz,hc.ok.nf⟩
 refine aJ ?_;refine aB M hI hn (by rfl) (by kernel_rfl) ?_ ?_
 ·simp
 rw[hfs]
 have hw:vP h.f a.cell a.bytes=0:=by unfold vP;rw[hc.has,if_pos rfl,if_pos hs]
 rw[hw];refine aG (by rfl) (fun hc=>?_) (fun hc=>?_)
 ·refine aP M hI hn (by rfl) (by kernel_rfl) ?_ ?_
  ·simp
  change h_ _ _ _ _ _;refine aB M hI hn (by rfl) (by kernel_rfl) ?_ ?_
  ·simp
  refine aK (fun a w hg=>⟨.inr rfl,_,⟨?_,(fun o ho=>by obtain rfl:=List.mem_singleton.1 ho;exact⟨_,rfl,dS rfl⟩),fun p hp=>(by cases hp)⟩,hg⟩);refine aC (by rfl) (by simp) (by rfl) (by rfl) ?_;rfl
 ·cases hc
def Fa:List PV->Option (Acc×oh)
 |[.w (.agg [.lit (.int .i64 k),.lit (.int .i64 b),.lit (.int .i64 c),.lit (.string s)]),.w (.agg [.lit (.bool cut),.lit (.int .i64 fb),.lit (.bool nz)])]=>some (⟨k,b,c,s⟩,⟨cut,fb,nz⟩)
 |_=>none
theorem aNn{ys:List PV}{a:Acc}{t:oh}(h:Fa ys=some (a,t)):ys=[.w (.agg (rW a)),.w (.agg (vN t))]:=by
 unfold Fa at h
 split at h
 ·cases h;rfl
 ·cases h
def bCz:List PC->List PV->Option (Prop×List PC×PV):=fun l ys=>match Ac l,Fa ys with
 |some (p,h),some (a,t)=>some (p/\a.bytes=aS/\B_ h a.ay a.cell,lw h,.kz [.agg (lG ⟨fK (cZ h.b a.ay a.cell) t.iy,aS⟩),.one (.lit (.int .i64 0))])
 |_,_=>none
def MC:List PC->List PV->Option (Prop×List PC×PV):=fun l ys=>match Ac l,Fa ys with
 |some (p,h),some (a,t)=>some (p/\a.bytes=aS/\B_ h a.ay a.cell,lw { h with b:=qw h.b a.ay a.cell t.cut },.kz [.agg (lG jX),.one (.lit (.int .i64 0))])
 |_,_=>none
def M_:List PC->List PV->Option (Prop×List PC×PV):=fun l ys=>match Ac l,Fa ys with
 |some (p,h),some (a,_)=>some (p/\a.ay=0/\a.bytes=aS/\BC h a.cell,lw h,.kz [.agg (lG ⟨0,strOf (sec h.f a.cell)⟩),.one (.lit (.int .i64 0))])
 |_,_=>none
def Vr:List PC->List PV->Option (Prop×List PC×PV):=fun l ys=>match Ac l,Fa ys with
 |some (p,h),some (a,t)=>some (p/\a.bytes.size=256/\BC h a.cell,lw { h with f:=iO h.f a.cell a.bytes (Cm t) },.kz [.agg (lG jX),.one (.lit (.int .i64 0))])
 |_,_=>none
theorem aWp:aj Tryz.prog a_ 122 (vV 65 bCz):=by
 refine yC (aF Tryz.func122 (by kernel_rfl) rfl) (fun l ys p l' r hg hp=>?_);unfold bCz at hg
 cases hq:Ac l with
 |none=>rw[hq] at hg;cases hg
 | some q=>
  cases hy:Fa ys with
  |none=>rw[hq,hy] at hg;cases hg
  |some y=>
   obtain⟨p0,h⟩:=q;obtain⟨⟨k,b,c,s⟩,t⟩:=y;rw[hq,hy] at hg;cases hg;obtain⟨h0,h2,h3⟩:=hp;have h2':s=aS:=h2;subst h2';rw[aNn hy];exact (bCy h k b c t h3).Eh (fun C xs hr=>wR hq h0 hr)
theorem bDa:aj Tryz.prog a_ 124 (vV 65 MC):=by
 refine yC (aF Tryz.func124 (by kernel_rfl) rfl) (fun l ys p l' r hg hp=>?_);unfold MC at hg
 cases hq:Ac l with
 |none=>rw[hq] at hg;cases hg
 | some q=>
  cases hy:Fa ys with
  |none=>rw[hq,hy] at hg;cases hg
  |some y=>
   obtain⟨p0,h⟩:=q;obtain⟨⟨k,b,c,s⟩,t⟩:=y;rw[hq,hy] at hg;cases hg;obtain⟨h0,h2,h3⟩:=hp;have h2':s=aS:=h2;subst h2';rw[aNn hy];exact (MB h k b c t h3).Eh (fun C xs hr=>wR hq h0 hr)
theorem bCx:aj Tryz.prog a_ 127 (vV 65 M_):=by
 refine yC (aF Tryz.func127 (by kernel_rfl) rfl) (fun l ys p l' r hg hp=>?_);unfold M_ at hg
 cases hq:Ac l with
 |none=>rw[hq] at hg;cases hg
 | some q=>
  cases hy:Fa ys with
  |none=>rw[hq,hy] at hg;cases hg
  |some y=>
   obtain⟨p0,h⟩:=q;obtain⟨⟨k,b,c,s⟩,t⟩:=y;rw[hq,hy] at hg;cases hg;obtain⟨h0,h1,h2,h3⟩:=hp;have h1':b=0:=h1;have h2':s=aS:=h2;subst h1' h2';rw[aNn hy];exact (Lu h k c t h3).Eh (fun C xs hr=>wR hq h0 hr)
theorem Lp:aj Tryz.prog a_ 130 (vV 65 Vr):=by
 refine yC (aF Tryz.func130 (by kernel_rfl) rfl) (fun l ys p l' r hg hp=>?_);unfold Vr at hg
 cases hq:Ac l with
 |none=>rw[hq] at hg;cases hg
 | some q=>
  cases hy:Fa ys with
  |none=>rw[hq,hy] at hg;cases hg
  |some y=>
   obtain⟨p0,h⟩:=q;obtain⟨⟨k,b,c,s⟩,t⟩:=y;rw[hq,hy] at hg;cases hg;obtain⟨h0,h2,h3⟩:=hp;rw[aNn hy];exact (Qj h ⟨k,b,c,s⟩ t h3 h2).Eh (fun C xs hr=>wR hq h0 hr)
def NS:List PC:=[.lit .nilFunc,.lit .nilFunc,.lit (.func (.func 121) #[] #[]),.lit (.func (.func 122) #[] #[]),.lit (.func (.func 121) #[] #[]),.lit (.func (.func 124) #[] #[]),
 .lit (.func (.func 126) #[] #[]),.lit (.func (.func 127) #[] #[]),.lit (.func (.func 129) #[] #[]),.lit (.func (.func 130) #[] #[])]
theorem NR:gB Tryz.prog a_ 94 true [] (.w (.agg NS)):=by
 intro w ok0 vs hI hv
 match vs,hv with
 |[],_=>
  refine (aOl w).mono ?_;rintro e w' ⟨rfl,hE⟩
  refine⟨_,rfl,hE,.w (.agg ?_)⟩
  exact .cons (xs:=[_]) (.lit rfl) (.cons (xs:=[_]) (.lit rfl) (.cons (xs:=[_]) (.lit rfl) (.cons (xs:=[_]) (.lit rfl) (.cons (xs:=[_]) (.lit rfl) (.cons (xs:=[_]) (.lit rfl) (.cons (xs:=[_]) (.lit rfl) (.cons (xs:=[_]) (.lit rfl) (.cons (xs:=[_]) (.lit rfl) (.cons (xs:=[_]) (.lit rfl) .nil)))))))))
def NT:List PV->Option (Prop×PV)
 |[]=>some (True,.w (.agg NS))
 |_=>none
theorem bEn:aj Tryz.prog a_ 94 (aZ true NT):=by
 refine aY (aF Tryz.func94 (by kernel_rfl) rfl) (fun xs p r hg hp=>?_);unfold NT at hg
 split at hg
 ·cases hg;exact NR
 ·cases hg
def ddL:List (Nat×Spec):=[(94,aZ true NT),(121,aZ true Ua),(122,vV 65 bCz),(124,vV 65 MC),
 (126,aZ true UZ),(127,vV 65 M_),(129,aZ true UY),(130,vV 65 Vr)]
theorem aBY:∀ p∈ddL,aj Tryz.prog a_ p.1 p.2:=by
 intro p hp;simp only[ddL,List.mem_cons,List.not_mem_nil,or_false] at hp;rcases hp with rfl|rfl|rfl|rfl|rfl|rfl|rfl|rfl
 ·exact bEn
 ·exact JD
 ·exact aWp
 ·exact bDa
 ·exact JC
 ·exact bCx
 ·exact JB
 ·exact Lp
theorem ddM:kw Tryz.prog a_ (find ddL):=⟨bV aBY,fC⟩
def FP(x:j_×jc×Int):PV:=.kz [.agg (lw x.1),.agg (lG x.2.1),.one (.lit (.int .i64 x.2.2))]
def Qp(_ h':j_)(_:Acc)(t:oh)(r:jc):St:=⟨[(5,none,dm (.pt 2 0 0)),(6,none,dm (.pt 3 0 0)),(7,none,dm (.pt 4 0 0)),(10,none,dm (.pt 4001 0 0)),(11,none,dm (.pt 5011 0 0)),(12,none,gy 0)],[(2,none,0,.box 104 (vN t)),(3,none,0,.box 65 [.lit (.slice none 0 0),.lit (.slice none 0 0),.bs 16 (List.replicate 16 0)]),(4,none,0,.box 35 (lG jX)),(4001,none,0,.box 65 (lw h')),(5011,none,0,.box 35 (lG r))]⟩
theorem Qo(h:j_)(b c:Int)(t:oh)(hc0:B_ h b c)  : gB Tryz.prog a_ 66 false [.w (.agg (lw h)),.w (.agg (rW (vz 1 b c))),.w (.agg (vN t))] (FP (fZ h (vz 1 b c) t)):=by
 have M:=ddM;have hdv:=aQu (t:=t) (show (vz 1 b c).kind=1 from rfl) rfl hc0.ex;rw[hdv];refine bI Tryz.func66 rfl rfl bQ (fun A hS hn hI=>?_);refine aB M hI hn (by rfl) (by kernel_rfl) ?_ ?_
 ·simp
 refine aB M hI hn (by rfl) (by kernel_rfl) ?_ ?_
 ·simp
 refine aJ ?_;refine aB M hI hn (by rfl) (by kernel_rfl) ?_ ?_
 ·simp
  exact⟨fun _ _=>⟨(by decide:(0:Int)<=1),(by decide:(1:Int)<5)⟩,fun _ _=>rfl⟩
 refine aG (by rfl) (fun hc=>?_) (fun hc=>?_)
 ·simp[vz] at hc
 refine aO ?_;change h_ _ _ _ _ _;refine aB M hI hn (by rfl) (by kernel_rfl) ?_ ?_
 ·simp
 refine aB M hI hn (by rfl) (by kernel_rfl) ?_ ?_
 ·simp
  exact⟨⟨(by decide:(0:Int)<=1),(by decide:(1:Int)<5)⟩,rfl,hc0⟩
 refine aI (s':=Qp h h (vz 1 b c) t ⟨fK (cZ h.b b c) t.iy,aS⟩) (fun a w hg=>(hg.reset (kT:=[5,6,7,10,11,12]) (kO:=[2,3,4,4001,5011]) (by rfl) (by simp)).same ?_ ?_) ?_
 ·exact .cons rfl (.cons rfl (.cons rfl (.cons rfl (.cons rfl (.cons rfl .nil)))))
 ·refine .cons (.box rfl) (.cons (.box rfl) (.cons (.box rfl) (.cons (.box ?_) (.cons (.box ?_) .nil))))
  ·change lw ⟨bC h.b.length (bJ h.b),iP h.f.length (tu h.f),h.r⟩=_;rw[aH,bK]
  ·change lG ⟨fK (cZ (bC h.b.length (bJ h.b)) b c) t.iy,aS⟩=_
   first|rw[aH]|rw[bK]|rfl
 refine aJ ?_;refine aB M hI hn (by rfl) (by kernel_rfl) ?_ ?_
 ·simp
 refine aG (by rfl) (fun hc=>?_) (fun hc=>?_)
 ·cases hc
 refine aO ?_;change h_ _ _ _ _ _;refine aJ ?_;refine aB M hI hn (by rfl) (by kernel_rfl) ?_ ?_
 ·simp
 refine aG (by rfl) (fun hc=>?_) (fun hc=>?_)
 ·have hcut:t.cut=true:=hc;refine aP M hI hn (by rfl) (by kernel_rfl) ?_ ?_
  ·simp
  change h_ _ _ _ _ _;refine aB M hI hn (by rfl) (by kernel_rfl) ?_ ?_
  ·simp
  refine aK (fun a w hg=>⟨.inr rfl,_,?_,hg⟩);refine aC (by rfl) (by simp) (by rfl) (by rfl) ?_
  try rw[hcut]
  rfl
 ·have hcut:t.cut=false:=hc;refine aO ?_;change h_ _ _ _ _ _;refine aB M hI hn (by rfl) (by kernel_rfl) ?_ ?_
  ·simp
  refine aK (fun a w hg=>⟨.inr rfl,_,?_,hg⟩);refine aC (by rfl) (by simp) (by rfl) (by rfl) ?_
  try rw[hcut]
  rfl
theorem Qn(h:j_)(b c:Int)(t:oh)(hc0:B_ h b c)  : gB Tryz.prog a_ 66 false [.w (.agg (lw h)),.w (.agg (rW (vz 2 b c))),.w (.agg (vN t))] (FP (fZ h (vz 2 b c) t)):=by
 have M:=ddM;have hdv:=aQt (t:=t) (show (vz 2 b c).kind=2 from rfl) rfl hc0.ex;rw[hdv];refine bI Tryz.func66 rfl rfl bQ (fun A hS hn hI=>?_);refine aB M hI hn (by rfl) (by kernel_rfl) ?_ ?_
 ·simp
 refine aB M hI hn (by rfl) (by kernel_rfl) ?_ ?_
 ·simp
 refine aJ ?_;refine aB M hI hn (by rfl) (by kernel_rfl) ?_ ?_
 ·simp
  exact⟨fun _ _=>⟨(by decide:(0:Int)<=2),(by decide:(2:Int)<5)⟩,fun _ _=>rfl⟩
 refine aG (by rfl) (fun hc=>?_) (fun hc=>?_)
 ·simp[vz] at hc
 refine aO ?_;change h_ _ _ _ _ _;refine aB M hI hn (by rfl) (by kernel_rfl) ?_ ?_
 ·simp
 refine aB M hI hn (by rfl) (by kernel_rfl) ?_ ?_
 ·simp
  exact⟨⟨(by decide:(0:Int)<=2),(by decide:(2:Int)<5)⟩,rfl,hc0⟩
 refine aI (s':=Qp h ⟨qw h.b b c t.cut,h.f,h.r⟩ (vz 2 b c) t jX) (fun a w hg=>(hg.reset (kT:=[5,6,7,10,11,12]) (kO:=[2,3,4,4001,5011]) (by rfl) (by simp)).same ?_ ?_) ?_
 ·exact .cons rfl (.cons rfl (.cons rfl (.cons rfl (.cons rfl (.cons rfl .nil)))))
 ·refine .cons (.box rfl) (.cons (.box rfl) (.cons (.box rfl) (.cons (.box ?_) (.cons (.box ?_) .nil))))
  ·change lw ⟨qw (bC h.b.length (bJ h.b)) b c t.cut,iP h.f.length (tu h.f),h.r⟩=_;rw[aH,bK]
  ·change lG jX=_
   first|rw[aH]|rw[bK]|rfl
 refine aJ ?_;refine aB M hI hn (by rfl) (by kernel_rfl) ?_ ?_
 ·simp
 refine aG (by rfl) (fun hc=>?_) (fun hc=>?_)
 ·cases hc
 refine aO ?_;change h_ _ _ _ _ _;refine aJ ?_;refine aB M hI hn (by rfl) (by kernel_rfl) ?_ ?_
 ·simp
 refine aG (by rfl) (fun hc=>?_) (fun hc=>?_)
 ·have hcut:t.cut=true:=hc;refine aP M hI hn (by rfl) (by kernel_rfl) ?_ ?_
  ·simp
  change h_ _ _ _ _ _;refine aB M hI hn (by rfl) (by kernel_rfl) ?_ ?_
  ·simp
  refine aK (fun a w hg=>⟨.inr rfl,_,?_,hg⟩);refine aC (by rfl) (by simp) (by rfl) (by rfl) ?_
  try rw[hcut]
  rfl
 ·have hcut:t.cut=false:=hc;refine aO ?_;change h_ _ _ _ _ _;refine aB M hI hn (by rfl) (by kernel_rfl) ?_ ?_
  ·simp
  refine aK (fun a w hg=>⟨.inr rfl,_,?_,hg⟩);refine aC (by rfl) (by simp) (by rfl) (by rfl) ?_
  try rw[hcut]
  rfl
theorem Qm(h:j_)(c:Int)(t:oh)(hc0:BC h c)  : gB Tryz.prog a_ 66 false [.w (.agg (lw h)),.w (.agg (rW (vz 3 0 c))),.w (.agg (vN t))] (FP (fZ h (vz 3 0 c) t)):=by
 have M:=ddM;have hdv:=aJw (t:=t) (show (vz 3 0 c).kind=3 from rfl) ⟨rfl,rfl⟩ hc0.ex;rw[hdv];refine bI Tryz.func66 rfl rfl bQ (fun A hS hn hI=>?_);refine aB M hI hn (by rfl) (by kernel_rfl) ?_ ?_
 ·simp
 refine aB M hI hn (by rfl) (by kernel_rfl) ?_ ?_
 ·simp
 refine aJ ?_;refine aB M hI hn (by rfl) (by kernel_rfl) ?_ ?_
 ·simp
  exact⟨fun _ _=>⟨(by decide:(0:Int)<=3),(by decide:(3:Int)<5)⟩,fun _ _=>⟨rfl,rfl⟩⟩
 refine aG (by rfl) (fun hc=>?_) (fun hc=>?_)
 ·simp[vz] at hc
 refine aO ?_;change h_ _ _ _ _ _;refine aB M hI hn (by rfl) (by kernel_rfl) ?_ ?_
 ·simp
 refine aB M hI hn (by rfl) (by kernel_rfl) ?_ ?_
 ·simp
  exact⟨⟨(by decide:(0:Int)<=3),(by decide:(3:Int)<5)⟩,rfl,rfl,hc0⟩
 refine aI (s':=Qp h h (vz 3 0 c) t ⟨0,strOf (sec h.f c)⟩) (fun a w hg=>(hg.reset (kT:=[5,6,7,10,11,12]) (kO:=[2,3,4,4001,5011]) (by rfl) (by simp)).same ?_ ?_) ?_
 ·exact .cons rfl (.cons rfl (.cons rfl (.cons rfl (.cons rfl (.cons rfl .nil)))))
 ·refine .cons (.box rfl) (.cons (.box rfl) (.cons (.box rfl) (.cons (.box ?_) (.cons (.box ?_) .nil))))
  ·change lw ⟨bC h.b.length (bJ h.b),iP h.f.length (tu h.f),h.r⟩=_;rw[aH,bK]
  ·change lG ⟨0,strOf (sec (iP h.f.length (tu h.f)) c)⟩=_
   first|rw[aH]|rw[bK]|rfl
 refine aJ ?_;refine aB M hI hn (by rfl) (by kernel_rfl) ?_ ?_
 ·simp
 refine aG (by rfl) (fun hc=>?_) (fun hc=>?_)
 ·cases hc
 refine aO ?_;change h_ _ _ _ _ _;refine aJ ?_;refine aB M hI hn (by rfl) (by kernel_rfl) ?_ ?_
 ·simp
 refine aG (by rfl) (fun hc=>?_) (fun hc=>?_)
 ·have hcut:t.cut=true:=hc;refine aP M hI hn (by rfl) (by kernel_rfl) ?_ ?_
  ·simp
  change h_ _ _ _ _ _;refine aB M hI hn (by rfl) (by kernel_rfl) ?_ ?_
  ·simp
  refine aK (fun a w hg=>⟨.inr rfl,_,?_,hg⟩);refine aC (by rfl) (by simp) (by rfl) (by rfl) ?_
  try rw[hcut]
  rfl
 ·have hcut:t.cut=false:=hc;refine aO ?_;change h_ _ _ _ _ _;refine aB M hI hn (by rfl) (by kernel_rfl) ?_ ?_
  ·simp
  refine aK (fun a w hg=>⟨.inr rfl,_,?_,hg⟩);refine aC (by rfl) (by simp) (by rfl) (by rfl) ?_
  try rw[hcut]
  rfl
theorem Ql(h:j_)(c:Int)(x:ByteArray)(t:oh)(hc0:BC h c)(hs:x.size=256):gB Tryz.prog a_ 66 false [.w (.agg (lw h)),.w (.agg (rW (⟨4,0,c,x⟩:Acc))),.w (.agg (vN t))] (FP (fZ h (⟨4,0,c,x⟩:Acc) t)):=by
 have M:=ddM;have hdv:=aJv (h:=h) (a:=⟨4,0,c,x⟩) (t:=t) rfl rfl hc0.ex hs;rw[hdv];refine bI Tryz.func66 rfl rfl bQ (fun A hS hn hI=>?_);refine aB M hI hn (by rfl) (by kernel_rfl) ?_ ?_
 ·simp
 refine aB M hI hn (by rfl) (by kernel_rfl) ?_ ?_
 ·simp
 refine aJ ?_;refine aB M hI hn (by rfl) (by kernel_rfl) ?_ ?_
 ·simp
  done
 refine aG (by rfl) (fun hc=>?_) (fun hc=>?_)
 ·simp[] at hc
 refine aO ?_;change h_ _ _ _ _ _;refine aB M hI hn (by rfl) (by kernel_rfl) ?_ ?_
 ·simp
 refine aB M hI hn (by rfl) (by kernel_rfl) ?_ ?_
 ·simp
  exact⟨hs,hc0⟩
 refine aI (s':=Qp h ⟨h.b,iO h.f c x (Cm t),h.r⟩ (⟨4,0,c,x⟩:Acc) t jX) (fun a w hg=>(hg.reset (kT:=[5,6,7,10,11,12]) (kO:=[2,3,4,4001,5011]) (by rfl) (by simp)).same ?_ ?_) ?_
 ·exact .cons rfl (.cons rfl (.cons rfl (.cons rfl (.cons rfl (.cons rfl .nil)))))
 ·refine .cons (.box rfl) (.cons (.box rfl) (.cons (.box rfl) (.cons (.box ?_) (.cons (.box ?_) .nil))))
  ·change lw ⟨bC h.b.length (bJ h.b),iO (iP h.f.length (tu h.f)) c x (Cm t),h.r⟩=_;rw[aH,bK]
  ·change lG jX=_
   first|rw[aH]|rw[bK]|rfl
 refine aJ ?_;refine aB M hI hn (by rfl) (by kernel_rfl) ?_ ?_
 ·simp
 refine aG (by rfl) (fun hc=>?_) (fun hc=>?_)
 ·cases hc
 refine aO ?_;change h_ _ _ _ _ _;refine aJ ?_;refine aB M hI hn (by rfl) (by kernel_rfl) ?_ ?_
 ·simp
 refine aG (by rfl) (fun hc=>?_) (fun hc=>?_)
 ·have hcut:t.cut=true:=hc;refine aP M hI hn (by rfl) (by kernel_rfl) ?_ ?_
  ·simp
  change h_ _ _ _ _ _;refine aB M hI hn (by rfl) (by kernel_rfl) ?_ ?_
  ·simp
  refine aK (fun a w hg=>⟨.inr rfl,_,?_,hg⟩);refine aC (by rfl) (by simp) (by rfl) (by rfl) ?_
  try rw[hcut]
  rfl
 ·have hcut:t.cut=false:=hc;refine aO ?_;change h_ _ _ _ _ _;refine aB M hI hn (by rfl) (by kernel_rfl) ?_ ?_
  ·simp
  refine aK (fun a w hg=>⟨.inr rfl,_,?_,hg⟩);refine aC (by rfl) (by simp) (by rfl) (by rfl) ?_
  try rw[hcut]
  rfl
structure Dn(h:j_)(a:Acc):Prop where
 dim:qh h
 good:xC a
theorem Qk{h:j_}{a:Acc}(g:Dn h a)(t:oh):gB Tryz.prog a_ 66 false [.w (.agg (lw h)),.w (.agg (rW a)),.w (.agg (vN t))] (FP (fZ h a t)):=by
 obtain⟨k,b,c,s⟩:=a;obtain⟨d,g⟩:=g;have hf:=d.f;rcases g with⟨hk,hb,hc,hs⟩|⟨⟨hk,hs⟩|⟨hk,hs⟩,hb,hc⟩
 ·have hx:=d.ex hb hc;dsimp only at hk hb hc hs hx;subst hs;rcases hk with rfl|rfl
  ·exact Qo h b c t ⟨d.ok,hb,hx⟩
  ·exact Qn h b c t ⟨d.ok,hb,hx⟩
 ·dsimp only at hk hb hc hs;subst hk hs hb;exact Qm h c t ⟨d.ok,hc.1,by omega⟩
 ·dsimp only at hk hb hc hs;subst hk hb;exact Ql h c s t ⟨d.ok,hc.1,by omega⟩ hs
def ddG:List PV->Option (Prop×PV)
 |.w (.agg l)::ys=>(match Ac l,Fa ys with
  |some (p,h),some (a,t)=>some (p/\Dn h a,FP (fZ h a t))
  |_,_=>none)
 |_=>none
theorem MN:aj Tryz.prog a_ 66 (aZ false ddG):=by
 refine aY (aF Tryz.func66 (by kernel_rfl) rfl) (fun xs p r hg hp=>?_);unfold ddG at hg
 split at hg
 ·rename_i l ys
  cases hq:Ac l with
  |none=>rw[hq] at hg;cases hg
  | some q=>
   cases hy:Fa ys with
   |none=>rw[hq,hy] at hg;cases hg
   | some y=>
    obtain⟨p0,h⟩:=q;obtain⟨a,t⟩:=y;rw[hq,hy] at hg;cases hg;rw[aNn hy]
    exact (Qk hp.2 t).args fun C vs hv=>by
     match vs,hv with
     | [x,y,z],⟨h0,h1,h2,_⟩=>
      refine⟨?_,h1,h2,trivial⟩
      cases h0 with
      |w h3=>cases h3 with
       |agg h4=>exact .w (.agg (wR hq hp.1 h4))
 ·cases hg
def aBS(F:List oh):Nat->List PC:=fun i=>vN (F.getD i Cj)
def rU(F:List oh):PC:=.sl 3 F.length (aBS F)
def cutV:Value:=.iface 139 (.agg #[])
def oC(F:List oh)(h h':j_)(i:Nat):List Ob:=[⟨900001,3,[.lit (.int .i64 i)],[.lit (.int .i64 ((i+1:Nat):Int))]⟩,⟨900002,68,[rU F],[rU F]⟩,⟨900003,65,lw h,lw h'⟩]
def WU(x:j_×jc×Int)(t:oh):Sum PV (List PanicEntry):=if t.cut then .inr [{ v:=cutV,recovered:=false }] else .inl (.w (.agg (lG x.2.1)))
def Zx:List (Nat×Spec):=[(66,aZ false ddG)]
theorem Uz:∀ p∈Zx,aj Tryz.prog a_ p.1 p.2:=by
 intro p hp
 obtain rfl:=List.mem_singleton.1 hp
 exact MN
theorem aJB:kw Tryz.prog a_ (find Zx):=⟨bV Uz,fC⟩
def lvO(F:List oh)(h:j_)(i:Int)(a:Acc):Wr:=[(900001,none,0,.box 3 [.lit (.int .i64 i)]),(900002,none,0,.box 68 [rU F]),(900003,none,0,.box 65 (lw h)),(0,none,0,.box 37 (rW a)),(1,none,0,.box 35 (lG jX))]
def lvT:List (Nat×Option Bool×PV):=[(1,none,dm (.pt 900001 0 0)),(2,none,dm (.pt 900002 0 0)),(3,none,dm (.pt 900003 0 0)),(4,none,dm (.pt 0 0 0)),(5,none,dm (.pt 1 0 0)),(6,none,dm (.pt 1000 0 0))]
def TE(F:List oh)(h:j_)(i:Int)(a:Acc)(t:oh):St:=⟨lvT,(1000,none,0,.box 104 (vN t))::lvO F h i a⟩
def aAA(F:List oh)(h h':j_)(i:Int)(a:Acc)(t:oh)(r:jc):St:=⟨(7,none,dm (.pt 5008 0 0))::(8,none,dm (.pt 5009 0 0))::(9,none,gy 0)::lvT,(5008,none,0,.box 65 (lw h'))::(5009,none,0,.box 35 (lG r))::(1000,none,0,.box 104 (vN t))::lvO F h i a⟩
def Zz(F:List oh)(h':j_)(i:Int)(a:Acc)(t:oh)(r:jc):St:=⟨(8,none,dm (.pt 5009 0 0))::lvT,(5009,none,0,.box 35 (lG r))::(1000,none,0,.box 104 (vN t))::lvO F h' i a⟩
theorem Ky{h:j_}{a:Acc}(g:Dn h a)(t:oh):(fZ h a t).2.2=0:=by
 obtain⟨d,g⟩:=g;have hf:=d.f;rcases g with⟨hk|hk,hb,hc,hs⟩|⟨⟨hk,hs⟩|⟨hk,hs⟩,hb,hc⟩
 ·rw[aQu hk hs (d.ex hb hc)]
 ·rw[aQt hk hs (d.ex hb hc)]
 ·rw[aJw hk ⟨hs,hb⟩ ⟨hc.1,by omega⟩]
 ·rw[aJv hk hb ⟨hc.1,by omega⟩ hs]
theorem eu.forget{A:jq}{s:St}{a a':Act}{w:World}{env:Env}(h:eu A s a w env)(h1:a'.tmps.size=a.tmps.size)(h2:a'.defers=a.defers):eu A ⟨[],s.o⟩ a' w env:=
 { g_:=h.g_,size:=h1.trans h.size,dom:=h.dom,jf:=h.jf,live:=h.live,inj:=h.inj,tmps:=fun t g pv hf=>(by cases hf),defers:=h2.trans h.defers,und:=fun t pv hf=>(by cases hf),jy:=h.jy,dev:=h.dev }
theorem wp_cut(t1 t2:Nat)(ops:Array Oper)(p1 p2 p3:String)(f1 f2 f3:Array Edge)(hops:ops=#[{ dst:=some 33,op:=Op.build 139 #[],type:=139,pos:=p1,after:=f1,guard:=none },{ dst:=some 34,op:=Op.makeInterface 139 (Operand.tmp 33),type:=t1,pos:=p2,after:=f2,guard:=none },{ dst:=none,op:=Op.panic (Operand.tmp 34),type:=t2,pos:=p3,after:=f3,guard:=none }])
  {a:Act} {w:World} {Q:Exit->Act->World->Prop} (hsz:a.tmps.size=36) (hQ:∀ a',a'.tmps.size=a.tmps.size->a'.defers=a.defers->Q (.panic [{ v:=cutV,recovered:=false }]) a' w):(Code.region 9 ops false).wp Tryz.prog Q a w:=by
 subst hops;apply wp_region;simp[wpOps,go_sem,Region.wanted];refine .inl (.inl (.inl ?_));rw[if_pos (by omega),if_pos (by omega)];simp[Instr.panic];exact hQ _ (by simp) rfl
theorem aVu(F:List oh)(h:j_)(i:Nat)(c:Acc)(g:Dn h c)(hi:i<=1000000)(_:F.length<=1000000):aEM Tryz.prog a_ 65 (oC F h (fZ h c (eX F i)).1 i)
  [.w (.agg (rW c)),dm (.pt 900001 0 0),dm (.pt 900002 0 0),dm (.pt 900003 0 0)] (WU (fZ h c (eX F i)) (eX F i)):=by
 have M:=aJB;have herr:=Ky g (eX F i);refine Qa Tryz.func65 rfl rfl rfl (fun A hn hI=>?_);refine aB M hI hn (by rfl) (by kernel_rfl) ?_ ?_
 ·simp
 refine aB M hI hn (by rfl) (by kernel_rfl) ?_ ?_
 ·simp
 refine aJ ?_;refine aB M hI hn (by rfl) (by kernel_rfl) ?_ ?_
 ·simp
 refine aG (by rfl) (fun hc=>?_) (fun hc=>?_)
 ·have hlt:i<F.length:=by have:=of_decide_eq_true hc;omega
  refine aP M hI hn (by rfl) (by kernel_rfl) ?_ ?_
  ·simp;exact hlt
  change h_ _ _ _ _ _;refine aI (s':=TE F h (i:Int) c (eX F i)) (fun a w hg=>(hg.reset (kT:=[1,2,3,4,5,6]) (kO:=[1000,900001,900002,900003,0,1]) (by rfl) (by simp)).same ?_ ?_) ?_
  ·exact .cons rfl (.cons rfl (.cons rfl (.cons rfl (.cons rfl (.cons rfl .nil)))))
  ·exact .cons (.box rfl) (.cons (.box rfl) (.cons (.box rfl) (.cons (.box rfl) (.cons (.box rfl) (.cons (.box rfl) .nil)))))
  refine aB M hI hn (by rfl) (by kernel_rfl) ?_ ?_
  ·simp
  refine aB M hI hn (by rfl) (by kernel_rfl) ?_ ?_
  ·simp;exact g
  refine aI (s':=aAA F h (fZ h c (eX F i)).1 ((i+1:Nat):Int) c (eX F i) (fZ h c (eX F i)).2.1) (fun a w hg=>(hg.reset (kT:=[7,8,9,1,2,3,4,5,6]) (kO:=[5008,5009,1000,900001,900002,900003,0,1]) (by rfl) (by simp)).same ?_ ?_) ?_
  ·refine .cons rfl (.cons rfl (.cons ?_ (.cons rfl (.cons rfl (.cons rfl (.cons rfl (.cons rfl (.cons rfl .nil))))))));change gy (fZ ⟨bC h.b.length (bJ h.b),iP h.f.length (tu h.f),h.r⟩ c (eX F i)).2.2=_;rw[aH,bK,herr]
  ·refine .cons (.box ?_) (.cons (.box ?_) (.cons (.box rfl) (.cons (.box ?_) (.cons (.box rfl) (.cons (.box rfl) (.cons (.box rfl) (.cons (.box rfl) .nil)))))))
   ·change lw (fZ ⟨bC h.b.length (bJ h.b),iP h.f.length (tu h.f),h.r⟩ c (eX F i)).1=_;rw[aH,bK]
   ·change lG (fZ ⟨bC h.b.length (bJ h.b),iP h.f.length (tu h.f),h.r⟩ c (eX F i)).2.1=_;rw[aH,bK]
   ·rw[fP i (by omega)]
  generalize (fZ h c (eX F i)).1=h' at herr ⊢;refine aJ ?_;refine aB M hI hn (by rfl) (by kernel_rfl) ?_ ?_
  ·simp
  refine aG (by rfl) (fun hc=>?_) (fun hc=>?_)
  ·refine aP M hI hn (by rfl) (by kernel_rfl) ?_ ?_
   ·simp
   change h_ _ _ _ _ _;refine aI (s':=Zz F h' ((i+1:Nat):Int) c (eX F i) (fZ h c (eX F i)).2.1) (fun a w hg=>(hg.reset (kT:=[8,1,2,3,4,5,6]) (kO:=[5009,1000,900001,900002,900003,0,1]) (by rfl) (by simp)).same ?_ ?_) ?_
   ·exact .cons rfl (.cons rfl (.cons rfl (.cons rfl (.cons rfl (.cons rfl (.cons rfl .nil))))))
   ·exact .cons (.box rfl) (.cons (.box rfl) (.cons (.box rfl) (.cons (.box rfl) (.cons (.box rfl) (.cons (.box rfl) (.cons (.box rfl) .nil))))))
   refine aJ ?_;refine aB M hI hn (by rfl) (by kernel_rfl) ?_ ?_
   ·simp
   refine aG (by rfl) (fun hc=>?_) (fun hc=>?_)
   ·have hcut:(eX F i).cut=true:=hc;have he:WU (fZ h c (eX F i)) (eX F i)=.inr [{ v:=cutV,recovered:=false }]:=if_pos hcut;intro a w hg AP;obtain⟨env,hE⟩:=hg;refine wp_cut _ _ _ _ _ _ _ _ _ rfl (by rw[hE.size,hn];rfl) (fun a' h1 h2=>?_)
    refine⟨h2.trans hE.defers,he,⟨[],_⟩,?_,env,hE.forget h1 h2⟩
    intro o ho;simp only[oC,List.mem_cons,List.not_mem_nil,or_false] at ho
    rcases ho with rfl|rfl|rfl<;>exact⟨_,rfl,dS rfl⟩
   ·have hcut:¬(eX F i).cut=true:=fun h5=>by
     have h6:(eX F i).cut=false:=hc;rw[h6] at h5;cases h5
    have he:WU (fZ h c (eX F i)) (eX F i)=.inl (.w (.agg (lG (fZ h c (eX F i)).2.1))):=if_neg hcut;refine aO ?_;change h_ _ _ _ _ _;refine aB M hI hn (by rfl) (by kernel_rfl) ?_ ?_
    ·simp
    refine aK (fun a w hg=>⟨.inr rfl,_,he,_,⟨?_,?_⟩,hg⟩)
    ·refine aC (by rfl) (by simp) (by rfl) (by rfl) ?_;rfl
    ·intro o ho;simp only[oC,List.mem_cons,List.not_mem_nil,or_false] at ho
     rcases ho with rfl|rfl|rfl<;>exact⟨_,rfl,dS rfl⟩
  ·cases hc
 ·have hge:F.length<=i:=by have:=of_decide_eq_false hc;omega
  have ht:eX F i=Cj:=by
   unfold eX;rw[zG,List.getElem?_eq_none hge];rfl
  refine aO ?_;change h_ _ _ _ _ _;refine aI (s':=TE F h (i:Int) c (eX F i)) (fun a w hg=>(hg.reset (kT:=[1,2,3,4,5,6]) (kO:=[1000,900001,900002,900003,0,1]) (by rfl) (by simp)).same ?_ ?_) ?_
  ·exact .cons rfl (.cons rfl (.cons rfl (.cons rfl (.cons rfl (.cons rfl .nil)))))
  ·exact .cons (.box (by rw[ht];rfl)) (.cons (.box rfl) (.cons (.box rfl) (.cons (.box rfl) (.cons (.box rfl) (.cons (.box rfl) .nil)))))
  refine aB M hI hn (by rfl) (by kernel_rfl) ?_ ?_
  ·simp
  refine aB M hI hn (by rfl) (by kernel_rfl) ?_ ?_
  ·simp;exact g
  refine aI (s':=aAA F h (fZ h c (eX F i)).1 ((i+1:Nat):Int) c (eX F i) (fZ h c (eX F i)).2.1) (fun a w hg=>(hg.reset (kT:=[7,8,9,1,2,3,4,5,6]) (kO:=[5008,5009,1000,900001,900002,900003,0,1]) (by rfl) (by simp)).same ?_ ?_) ?_
  ·refine .cons rfl (.cons rfl (.cons ?_ (.cons rfl (.cons rfl (.cons rfl (.cons rfl (.cons rfl (.cons rfl .nil))))))));change gy (fZ ⟨bC h.b.length (bJ h.b),iP h.f.length (tu h.f),h.r⟩ c (eX F i)).2.2=_;rw[aH,bK,herr]
  ·refine .cons (.box ?_) (.cons (.box ?_) (.cons (.box rfl) (.cons (.box ?_) (.cons (.box rfl) (.cons (.box rfl) (.cons (.box rfl) (.cons (.box rfl) .nil)))))))
   ·change lw (fZ ⟨bC h.b.length (bJ h.b),iP h.f.length (tu h.f),h.r⟩ c (eX F i)).1=_;rw[aH,bK]
   ·change lG (fZ ⟨bC h.b.length (bJ h.b),iP h.f.length (tu h.f),h.r⟩ c (eX F i)).2.1=_;rw[aH,bK]
   ·rw[fP i (by omega)]
  generalize (fZ h c (eX F i)).1=h' at herr ⊢;refine aJ ?_;refine aB M hI hn (by rfl) (by kernel_rfl) ?_ ?_
  ·simp
  refine aG (by rfl) (fun hc=>?_) (fun hc=>?_)
  ·refine aP M hI hn (by rfl) (by kernel_rfl) ?_ ?_
   ·simp
   change h_ _ _ _ _ _;refine aI (s':=Zz F h' ((i+1:Nat):Int) c (eX F i) (fZ h c (eX F i)).2.1) (fun a w hg=>(hg.reset (kT:=[8,1,2,3,4,5,6]) (kO:=[5009,1000,900001,900002,900003,0,1]) (by rfl) (by simp)).same ?_ ?_) ?_
   ·exact .cons rfl (.cons rfl (.cons rfl (.cons rfl (.cons rfl (.cons rfl (.cons rfl .nil))))))
   ·exact .cons (.box rfl) (.cons (.box rfl) (.cons (.box rfl) (.cons (.box rfl) (.cons (.box rfl) (.cons (.box rfl) (.cons (.box rfl) .nil))))))
   refine aJ ?_;refine aB M hI hn (by rfl) (by kernel_rfl) ?_ ?_
   ·simp
   refine aG (by rfl) (fun hc=>?_) (fun hc=>?_)
   ·have hcut:(eX F i).cut=true:=hc;have he:WU (fZ h c (eX F i)) (eX F i)=.inr [{ v:=cutV,recovered:=false }]:=if_pos hcut;intro a w hg AP;obtain⟨env,hE⟩:=hg;refine wp_cut _ _ _ _ _ _ _ _ _ rfl (by rw[hE.size,hn];rfl) (fun a' h1 h2=>?_)
    refine⟨h2.trans hE.defers,he,⟨[],_⟩,?_,env,hE.forget h1 h2⟩
    intro o ho;simp only[oC,List.mem_cons,List.not_mem_nil,or_false] at ho
    rcases ho with rfl|rfl|rfl<;>exact⟨_,rfl,dS rfl⟩
   ·have hcut:¬(eX F i).cut=true:=fun h5=>by
     have h6:(eX F i).cut=false:=hc;rw[h6] at h5;cases h5
    have he:WU (fZ h c (eX F i)) (eX F i)=.inl (.w (.agg (lG (fZ h c (eX F i)).2.1))):=if_neg hcut;refine aO ?_;change h_ _ _ _ _ _;refine aB M hI hn (by rfl) (by kernel_rfl) ?_ ?_
    ·simp
    refine aK (fun a w hg=>⟨.inr rfl,_,he,_,⟨?_,?_⟩,hg⟩)
    ·refine aC (by rfl) (by simp) (by rfl) (by rfl) ?_;rfl
    ·intro o ho;simp only[oC,List.mem_cons,List.not_mem_nil,or_false] at ho
     rcases ho with rfl|rfl|rfl<;>exact⟨_,rfl,dS rfl⟩
  ·cases hc
end Pv
end Go.Proofs.YtndpjopifkbgiaaGreatDoor
