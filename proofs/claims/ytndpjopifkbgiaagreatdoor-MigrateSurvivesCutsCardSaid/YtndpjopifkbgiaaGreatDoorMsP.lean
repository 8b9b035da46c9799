/-.-/
import Derived.Test.YtndpjopifkbgiaaGreatDoorMsO
import Derived.WalkMore
import Derived.Test.YtndpjopifkbgiaaGreatDoorMsM
import Derived.Test.YtndpjopifkbgiaaGreatDoorMsJ
set_option maxRecDepth 100000
set_option maxHeartbeats 4000000
namespace Go.Proofs.YtndpjopifkbgiaaGreatDoor
open Go.RowKit
namespace Pv
theorem app0(f g:Nat->List PC):qm 0 f g=g:=by
 funext i;unfold qm;rw[if_neg (by omega)];rfl
theorem Nk(b:List (List Int))(h0:0<b.length)(hl:b.length<=100000):aBl Tryz.prog a_ 159 [dn (.sl 1 b.length (bJ b))] 74 1 b.length (bJ b):=by
 have M:=Fq (I:=a_)
 have hb1:Tryz.prog.types[74].bytes=24:=by kernel_rfl
 have hs1:Tryz.prog.types[74].size=1:=by kernel_rfl
 refine aZb Tryz.func159 rfl rfl bU (fun A hS hn hI=>?_);refine aB M hI hn (by rfl) (by kernel_rfl) ?_ ?_
 ·simp
 refine aP ?_;refine aB M hI hn (by rfl) (by kernel_rfl) ?_ ?_
 ·simp;omega
 refine aH (by rfl) (fun hc=>?_) (fun hc=>?_)
 ·cases hc
 refine aO ?_;change ja _ _ _ _ _;refine aB M hI hn (by rfl) (by kernel_rfl) ?_ ?_
 ·simp;rw[hb1];omega
 refine aI (s':=⟨[(2,none,dn (.ow 3000 0 1 0 b.length))],[(3000,none,0,.arr 74 1 b.length (bJ b))]⟩) (fun a w hg=>(hg.reset (kT:=[2]) (kO:=[3000]) (by rfl) ?_).same ?_ ?_) ?_
 ·simp;rw[app0]
  exact fun i _ x hx=>by
   have:x∈[_]:=hx;rw[List.mem_singleton] at this;subst this;rfl
 ·refine .cons ?_ .nil;change dn (.ow 3000 0 Tryz.prog.types[74].size 0 (0+b.length))=_;rw[hs1,Nat.zero_add]
 ·refine .cons (.arr ?_ (fun i hi=>?_)) .nil
  ·exact Nat.zero_add _
  ·rw[app0]
 refine aK (fun a w hg=>⟨.inr rfl,_,?_,hg⟩);refine bCf (x:=3000) (ai:=0) (g:=none) (f:=?_) (out:=?_) ?_ ?_ ?_ ?_ ?_ trivial ?_;rotate_left 2
 ·rfl
 ·simp
 ·rfl
 ·rfl
 ·rfl
 exact fun i hi=>⟨rfl,rfl⟩
theorem Nj(b:List Int)(h0:0<b.length)(hl:b.length<=100000):Xe Tryz.prog a_ 160 [dn (.sl 1 b.length (qc b))] 5 1 b.length (qc b):=by
 have M:=Fq (I:=a_)
 have hb1:Tryz.prog.types[5].bytes=1:=by kernel_rfl
 have hs1:Tryz.prog.types[5].size=1:=by kernel_rfl
 refine aPo Tryz.func160 rfl rfl bU (fun A hS hn hI=>?_);refine aB M hI hn (by rfl) (by kernel_rfl) ?_ ?_
 ·simp
 refine aP ?_;refine aB M hI hn (by rfl) (by kernel_rfl) ?_ ?_
 ·simp;omega
 refine aH (by rfl) (fun hc=>?_) (fun hc=>?_)
 ·cases hc
 refine aO ?_;change ja _ _ _ _ _;refine aB M hI hn (by rfl) (by kernel_rfl) ?_ ?_
 ·simp;rw[hb1];omega
 refine aI (s':=⟨[(2,none,dn (.ow 3000 0 1 0 b.length))],[(3000,none,0,.arr 5 1 b.length (qc b))]⟩) (fun a w hg=>(hg.reset (kT:=[2]) (kO:=[3000]) (by rfl) ?_).same ?_ ?_) ?_
 ·simp;rw[app0]
  exact fun i _ x hx=>by
   have:x∈[_]:=hx;rw[List.mem_singleton] at this;subst this;rfl
 ·refine .cons ?_ .nil;change dn (.ow 3000 0 Tryz.prog.types[5].size 0 (0+b.length))=_;rw[hs1,Nat.zero_add]
 ·refine .cons (.arr ?_ (fun i hi=>?_)) .nil
  ·exact Nat.zero_add _
  ·rw[app0]
 refine aK (fun a w hg=>⟨.inr rfl,_,?_,hg⟩);refine aUv (x:=3000) (ai:=0) (g:=none) (f:=?_) (out:=?_) ?_ ?_ ?_ ?_ ?_ trivial ?_;rotate_left 2
 ·rfl
 ·simp
 ·rfl
 ·rfl
 ·rfl
 exact fun i hi=>⟨rfl,rfl⟩
def I8:Spec:=aKk fun xs=>match xs with
 |[.w (.one (.sl 1 n f))]=>some (0<n/\n<=100000/\pV n f,74,1,(bF n f).length,bJ (bF n f))
 |_=>none
theorem Uj{C:Ctx}{n:Nat}{f:Nat->List PC}{v:Value}(hf:pV n f)(h:RV C (dn (.sl 1 n f)) v):RV C (dn (.sl 1 (bF n f).length (bJ (bF n f)))) v:=by
 cases h with
 |w h=>cases h with
  |one h=>exact .w (.one (aGn hf h))
theorem aBl.args{P:Program}{I:World->Prop}{f:Nat}{args args':List PV}{e n len:Nat}{f':Nat->List PC}(h:aBl P I f args' e n len f')(hv:∀ C vs,mg C args vs->mg C args' vs):aBl P I f args e n len f':=fun w ok0 vs hI hV=>h w ok0 vs hI (hv _ _ hV)
theorem Xe.args{P:Program}{I:World->Prop}{f:Nat}{args args':List PV}{e n len:Nat}{f':Nat->List PC}(h:Xe P I f args' e n len f')(hv:∀ C vs,mg C args vs->mg C args' vs):Xe P I f args e n len f':=fun w ok0 vs hI hV=>h w ok0 vs hI (hv _ _ hV)
theorem SV:aj Tryz.prog a_ 159 I8:=by
 refine aRx (aF Tryz.func159 (by kernel_rfl) rfl) (fun xs p e n len f' hg hp=>?_)
 split at hg
 ·rename_i n0 f0;cases hg;obtain⟨h0,h1,h2⟩:=hp
  exact (Nk (bF n0 f0) (by rw[dR];exact h0) (by rw[dR];exact h1)).args fun C vs hv=>by
   match vs,hv with
   |[x],⟨k0,_⟩=>exact⟨Uj h2 k0,trivial⟩
 ·cases hg
def aQx(n:Nat)(g:Nat->List PC):Prop:=∀ j,j<n->bEv (g j)=true
def rowCell(n:Nat)(g:Nat->List PC):List Int:=(List.range n).map fun j=>Aq (g j)
theorem jW(l:List Int):rowCell l.length (qc l)=l:=aQo l
theorem Np{C:Ctx}{n:Nat}{g:Nat->List PC}{v:Value}(hf:aQx n g)(h:RV C (dn (.sl 1 n g)) v):RV C (dn (.sl 1 (rowCell n g).length (qc (rowCell n g)))) v:=by
 have hl:(rowCell n g).length=n:=by unfold rowCell;simp
 rw[hl]
 cases h with
 | w h=>cases h with
  |one h=>exact .w (.one (h.zt fun j hj=>by
   unfold qc rowCell;rw[kS n j (fun j=>Aq (g j)) hj]
   exact aLm (hf j hj)))
@[simp] theorem dF(n:Nat)(g:Nat->List PC):(rowCell n g).length=n:=by unfold rowCell;simp
theorem qE{b:List (List Int)}{nb nc:Nat}{cut:Bool}(h:nb<b.length):bJ (ru b (nb:Int) (nc:Int) cut) nb=Am ((b.getD nb []).set nc (eH (dI b (nb:Int) (nc:Int)) cut)):=by
 unfold bJ ru;rw[Int.toNat_natCast,zG,List.getElem?_set_self h];rfl
theorem uS{b:List (List Int)}{nb nc:Nat}{cut:Bool}{i:Nat}(h:i≠nb):bJ (ru b (nb:Int) (nc:Int) cut) i=bJ b i:=by
 unfold bJ ru;rw[Int.toNat_natCast,zG,List.getElem?_set_ne (fun e=>h e.symm),<-zG]
theorem uD{l:List Int}{nc:Nat}{x:Int}(h:nc<l.length){k:Nat}:(if k=nc then[PC.lit (.int .u8 x)] else qc l k)=qc (l.set nc x) k:=by
 unfold qc
 by_cases hk:k=nc
 ·subst hk;rw[if_pos rfl,zG,List.getElem?_set_self h];rfl
 ·rw[if_neg hk,zG,zG,List.getElem?_set_ne (fun e=>hk e.symm)]
theorem DT.w_{s:St}{new:Bool}{c:PC}{n len len':Nat}{f:Nat->List PC}(e:len'=len)(h:DT s new c (.sl n len' f)):DT s new c (.sl n len f):=by subst e;exact h
theorem jX(b:List (List Int))(ay cell:Int)(cut:Bool):(ru b ay cell cut).length=b.length:=List.length_set ..
def I7:Spec:=aKl fun xs=>match xs with
 |[.w (.one (.sl 1 n f))]=>some (0<n/\n<=100000/\aQx n f,5,1,(rowCell n f).length,qc (rowCell n f))
 |_=>none
theorem SS:aj Tryz.prog a_ 160 I7:=by
 refine aId (aF Tryz.func160 (by kernel_rfl) rfl) (fun xs p e n len f' hg hp=>?_)
 split at hg
 ·rename_i n0 f0;cases hg;obtain⟨h0,h1,h2⟩:=hp
  have hl:(rowCell n0 f0).length=n0:=by unfold rowCell;simp
  exact (Nj (rowCell n0 f0) (by rw[hl];exact h0) (by rw[hl];exact h1)).args fun C vs hv=>by
   match vs,hv with
   |[x],⟨k0,_⟩=>exact⟨Np h2 k0,trivial⟩
 ·cases hg
def puL:List (Nat×Spec):=[(157,bD true exG),(159,I8),(160,I7)]
theorem aCD:∀ p∈puL,aj Tryz.prog a_ p.1 p.2:=by
 intro p hp;simp only[puL,List.mem_cons,List.not_mem_nil,or_false] at hp;rcases hp with rfl|rfl|rfl
 ·exact aCb
 ·exact SV
 ·exact SS
theorem puM:lm Tryz.prog a_ (find puL):=⟨bV aCD,fK⟩
def OG(b:List (List Int))(e:Int):PV:=.lw [.agg (AY b),.one (.lit (.int .i64 e))]
def Dh(b:List (List Int))(nb nc:Nat)(x:Int):St:=⟨[(1,none,iy (nb:Int)),(2,none,iy (nc:Int)),(4,none,dn (.pt 0 0 0)),(8,none,dn (.pt 1 0 0)),(10,none,jo (.int .u8 x))],[(0,none,0,.box 60 (AY b)),(1,none,0,.box 60 [.lit (.slice none 0 0)])]⟩
theorem JB(b:List (List Int))(nc:Nat)(cut:Bool)(hl4:b.length<=1000)(hlb:∀ l∈b,l.length<=100000)(hv:∀ l∈b,∀ x∈l,0<=x/\x<=3)(he:BI b 2 (nc:Int)=true):gQ Tryz.prog a_ 125 false [.w (.agg (AY b)),iy ((2:Nat):Int),iy (nc:Int),qi cut] (OG (ru b 2 (nc:Int) cut) 0):=by
 have M:=puM;have hex:=aWc he;refine bM Tryz.func125 rfl rfl bU (fun A hS hn hI=>?_);refine aB M hI hn (by rfl) (by kernel_rfl) ?_ ?_
 ·simp
 refine aP ?_;refine aB M hI hn (by rfl) (by kernel_rfl) ?_ ?_
 ·simp
 rw[aG,show ((2:Nat):Int)=2 from rfl,he];refine aH (by rfl) (fun hc=>?_) (fun hc=>?_)
 ·cases hc
 refine aO ?_;change ja _ _ _ _ _;refine aB M hI hn (by rfl) (by kernel_rfl) ?_ ?_
 ·simp
 have h2b:2<b.length:=by have:=hex.1.2;omega
 have hlm:b.getD 2 []∈b:=getD_mem h2b [];have hcl:(nc:Int)<((b.getD 2 []).length:Int):=hex.2.2;have hcm:0<=dI b 2 (nc:Int)/\dI b 2 (nc:Int)<=3:=hv _ hlm _ (getD_mem (by omega) 0);refine aP ?_;refine aB M hI hn (by rfl) (by kernel_rfl) ?_ ?_
 ·simp
 refine aH (by rfl) (fun hc=>?_) (fun hc=>?_)
 ·have hcut:cut=true:=hc;refine aQ M hI hn (by rfl) (by kernel_rfl) ?_ ?_
  ·simp
  change ja _ _ _ _ _;refine aP ?_;refine aB M hI hn (by rfl) (by kernel_rfl) ?_ ?_
  ·simp;rw[<-zG];omega
  refine aB M hI hn (by rfl) (by kernel_rfl) ?_ ?_
  ·simp
  refine aH (by rfl) (fun hc=>?_) (fun hc=>?_)
  ·have hc2:(bif dI b 2 (nc:Int)==2 then true else dI b 2 (nc:Int)==3)=true:=hc
   have hx:eH (dI b 2 (nc:Int)) cut=dI b 2 (nc:Int):=by
    unfold eH
    have h5:¬dI b 2 (nc:Int)<=1:=fun h=>by
     by_cases h2:dI b 2 (nc:Int)=2
     ·omega
     ·rw[beq_eq_false_iff_ne.2 h2] at hc2;have h3:=eq_of_beq hc2;omega
    rw[if_neg h5]
   refine aQ M hI hn (by rfl) (by kernel_rfl) ?_ ?_
   ·simp
   change ja _ _ _ _ _;refine aI (s':=Dh b 2 nc (eH (dI b 2 (nc:Int)) cut)) (fun a w hg=>(hg.reset (kT:=[1,2,4,8,10]) (kO:=[0,1]) (by rfl) (by simp)).same ?_ ?_) ?_
   ·exact .cons rfl (.cons rfl (.cons rfl (.cons rfl (.cons (congrArg (fun z=>jo (.int .u8 z)) hx.symm) .nil))))
   ·exact .cons (.box rfl) (.cons (.box rfl) .nil)
   refine aB M hI hn (by rfl) (by kernel_rfl) ?_ ?_
   ·simp;omega
   refine aB M hI hn (by rfl) (by kernel_rfl) ?_ ?_
   ·simp;rw[<-zG]
    exact⟨by omega,by omega,⟨by omega,hlb _ hlm,fun _ _=>rfl⟩,by omega,by omega⟩
   refine aB M hI hn (by rfl) (by kernel_rfl) ?_ ?_
   ·simp;rw[<-zG];omega
   refine aB M hI hn (by rfl) (by kernel_rfl) ?_ ?_
   ·simp
   refine aK (fun a w hg=>⟨.inr rfl,_,?_,hg⟩);unfold OG AY;rw[jX];refine kK (by rfl) (by simp) (by rfl) ?_;refine .lw (.cons (.agg (.cons ?_ .nil)) (.cons (.one (.cold rfl)) .nil));have e9:(bF b.length (bJ b)).length=b.length:=dR _ _;refine DT.w_ e9 (.rows rfl trivial (by omega) (fun i hi=>?_));rw[Nat.zero_add]
   by_cases hi2:i=2
   ·subst hi2;refine .inr ⟨10008,0,1,0,(b.getD 2 []).length,_,_,_,_,qc ((b.getD 2 []).set nc (eH (dI b 2 (nc:Int)) cut)),?_,?_,rfl,trivial,?_,fun k hk=>⟨?_,rfl⟩⟩
    ·change [PC.ow 10008 0 1 0 (rowCell ((bF b.length (bJ b)).getD 2 []).length (qc ((bF b.length (bJ b)).getD 2 []))).length]=_;rw[aG,dF]
    ·rw[show (2:Int)=((2:Nat):Int) from rfl,qE h2b];unfold Am;rw[List.length_set]
    ·change 0+(b.getD 2 []).length<=(rowCell ((bF b.length (bJ b)).getD 2 []).length (qc ((bF b.length (bJ b)).getD 2 []))).length;rw[aG,dF];omega
    ·rw[Nat.zero_add];change (if k=0+(nc:Int).toNat then[PC.lit (.int .u8 (eH (dI b 2 (nc:Int)) cut))] else qc (rowCell ((bF b.length (bJ b)).getD 2 []).length (qc ((bF b.length (bJ b)).getD 2 []))) k)=_;rw[aG,jW,Int.toNat_natCast,Nat.zero_add];exact uD (by omega)
   ·refine .inl ⟨?_,rfl⟩;rw[if_neg (by rw[Nat.zero_add];exact hi2),aG];exact (uS (nb:=2) hi2).symm
  ·have hc2:(bif dI b 2 (nc:Int)==2 then true else dI b 2 (nc:Int)==3)=false:=hc
   have hx:eH (dI b 2 (nc:Int)) cut=1:=by
    unfold eH
    have h5:dI b 2 (nc:Int)<=1:=by
     by_cases h2:dI b 2 (nc:Int)=2
     ·rw[h2] at hc2;cases hc2
     ·rw[beq_eq_false_iff_ne.2 h2] at hc2
      by_cases h3:dI b 2 (nc:Int)=3
      ·rw[h3] at hc2;cases hc2
      ·omega
    rw[if_pos h5,hcut];rfl
   refine aO ?_;change ja _ _ _ _ _;refine aI (s':=Dh b 2 nc (eH (dI b 2 (nc:Int)) cut)) (fun a w hg=>(hg.reset (kT:=[1,2,4,8,10]) (kO:=[0,1]) (by rfl) (by simp)).same ?_ ?_) ?_
   ·exact .cons rfl (.cons rfl (.cons rfl (.cons rfl (.cons (congrArg (fun z=>jo (.int .u8 z)) hx.symm) .nil))))
   ·exact .cons (.box rfl) (.cons (.box rfl) .nil)
   refine aB M hI hn (by rfl) (by kernel_rfl) ?_ ?_
   ·simp;omega
   refine aB M hI hn (by rfl) (by kernel_rfl) ?_ ?_
   ·simp;rw[<-zG]
    exact⟨by omega,by omega,⟨by omega,hlb _ hlm,fun _ _=>rfl⟩,by omega,by omega⟩
   refine aB M hI hn (by rfl) (by kernel_rfl) ?_ ?_
   ·simp;rw[<-zG];omega
   refine aB M hI hn (by rfl) (by kernel_rfl) ?_ ?_
   ·simp
   refine aK (fun a w hg=>⟨.inr rfl,_,?_,hg⟩);unfold OG AY;rw[jX];refine kK (by rfl) (by simp) (by rfl) ?_;refine .lw (.cons (.agg (.cons ?_ .nil)) (.cons (.one (.cold rfl)) .nil));have e9:(bF b.length (bJ b)).length=b.length:=dR _ _;refine DT.w_ e9 (.rows rfl trivial (by omega) (fun i hi=>?_));rw[Nat.zero_add]
   by_cases hi2:i=2
   ·subst hi2;refine .inr ⟨10008,0,1,0,(b.getD 2 []).length,_,_,_,_,qc ((b.getD 2 []).set nc (eH (dI b 2 (nc:Int)) cut)),?_,?_,rfl,trivial,?_,fun k hk=>⟨?_,rfl⟩⟩
    ·change [PC.ow 10008 0 1 0 (rowCell ((bF b.length (bJ b)).getD 2 []).length (qc ((bF b.length (bJ b)).getD 2 []))).length]=_;rw[aG,dF]
    ·rw[show (2:Int)=((2:Nat):Int) from rfl,qE h2b];unfold Am;rw[List.length_set]
    ·change 0+(b.getD 2 []).length<=(rowCell ((bF b.length (bJ b)).getD 2 []).length (qc ((bF b.length (bJ b)).getD 2 []))).length;rw[aG,dF];omega
    ·rw[Nat.zero_add];change (if k=0+(nc:Int).toNat then[PC.lit (.int .u8 (eH (dI b 2 (nc:Int)) cut))] else qc (rowCell ((bF b.length (bJ b)).getD 2 []).length (qc ((bF b.length (bJ b)).getD 2 []))) k)=_;rw[aG,jW,Int.toNat_natCast,Nat.zero_add];exact uD (by omega)
   ·refine .inl ⟨?_,rfl⟩;rw[if_neg (by rw[Nat.zero_add];exact hi2),aG];exact (uS (nb:=2) hi2).symm
 ·have hcut:cut=false:=hc;refine aO ?_;change ja _ _ _ _ _;refine aP ?_;refine aB M hI hn (by rfl) (by kernel_rfl) ?_ ?_
  ·simp;rw[<-zG];omega
  refine aB M hI hn (by rfl) (by kernel_rfl) ?_ ?_
  ·simp
  refine aH (by rfl) (fun hc=>?_) (fun hc=>?_)
  ·have hc2:(bif dI b 2 (nc:Int)==2 then true else dI b 2 (nc:Int)==3)=true:=hc
   have hx:eH (dI b 2 (nc:Int)) cut=dI b 2 (nc:Int):=by
    unfold eH
    have h5:¬dI b 2 (nc:Int)<=1:=fun h=>by
     by_cases h2:dI b 2 (nc:Int)=2
     ·omega
     ·rw[beq_eq_false_iff_ne.2 h2] at hc2;have h3:=eq_of_beq hc2;omega
    rw[if_neg h5]
   refine aQ M hI hn (by rfl) (by kernel_rfl) ?_ ?_
   ·simp
   change ja _ _ _ _ _;refine aI (s':=Dh b 2 nc (eH (dI b 2 (nc:Int)) cut)) (fun a w hg=>(hg.reset (kT:=[1,2,4,8,10]) (kO:=[0,1]) (by rfl) (by simp)).same ?_ ?_) ?_
   ·exact .cons rfl (.cons rfl (.cons rfl (.cons rfl (.cons (congrArg (fun z=>jo (.int .u8 z)) hx.symm) .nil))))
   ·exact .cons (.box rfl) (.cons (.box rfl) .nil)
   refine aB M hI hn (by rfl) (by kernel_rfl) ?_ ?_
   ·simp;omega
   refine aB M hI hn (by rfl) (by kernel_rfl) ?_ ?_
   ·simp;rw[<-zG]
    exact⟨by omega,by omega,⟨by omega,hlb _ hlm,fun _ _=>rfl⟩,by omega,by omega⟩
   refine aB M hI hn (by rfl) (by kernel_rfl) ?_ ?_
   ·simp;rw[<-zG];omega
   refine aB M hI hn (by rfl) (by kernel_rfl) ?_ ?_
   ·simp
   refine aK (fun a w hg=>⟨.inr rfl,_,?_,hg⟩);unfold OG AY;rw[jX];refine kK (by rfl) (by simp) (by rfl) ?_;refine .lw (.cons (.agg (.cons ?_ .nil)) (.cons (.one (.cold rfl)) .nil));have e9:(bF b.length (bJ b)).length=b.length:=dR _ _;refine DT.w_ e9 (.rows rfl trivial (by omega) (fun i hi=>?_));rw[Nat.zero_add]
   by_cases hi2:i=2
   ·subst hi2;refine .inr ⟨10008,0,1,0,(b.getD 2 []).length,_,_,_,_,qc ((b.getD 2 []).set nc (eH (dI b 2 (nc:Int)) cut)),?_,?_,rfl,trivial,?_,fun k hk=>⟨?_,rfl⟩⟩
    ·change [PC.ow 10008 0 1 0 (rowCell ((bF b.length (bJ b)).getD 2 []).length (qc ((bF b.length (bJ b)).getD 2 []))).length]=_;rw[aG,dF]
    ·rw[show (2:Int)=((2:Nat):Int) from rfl,qE h2b];unfold Am;rw[List.length_set]
    ·change 0+(b.getD 2 []).length<=(rowCell ((bF b.length (bJ b)).getD 2 []).length (qc ((bF b.length (bJ b)).getD 2 []))).length;rw[aG,dF];omega
    ·rw[Nat.zero_add];change (if k=0+(nc:Int).toNat then[PC.lit (.int .u8 (eH (dI b 2 (nc:Int)) cut))] else qc (rowCell ((bF b.length (bJ b)).getD 2 []).length (qc ((bF b.length (bJ b)).getD 2 []))) k)=_;rw[aG,jW,Int.toNat_natCast,Nat.zero_add];exact uD (by omega)
   ·refine .inl ⟨?_,rfl⟩;rw[if_neg (by rw[Nat.zero_add];exact hi2),aG];exact (uS (nb:=2) hi2).symm
  ·have hc2:(bif dI b 2 (nc:Int)==2 then true else dI b 2 (nc:Int)==3)=false:=hc
   have hx:eH (dI b 2 (nc:Int)) cut=2:=by
    unfold eH
    have h5:dI b 2 (nc:Int)<=1:=by
     by_cases h2:dI b 2 (nc:Int)=2
     ·rw[h2] at hc2;cases hc2
     ·rw[beq_eq_false_iff_ne.2 h2] at hc2
      by_cases h3:dI b 2 (nc:Int)=3
      ·rw[h3] at hc2;cases hc2
      ·omega
    rw[if_pos h5,hcut];rfl
   refine aO ?_;change ja _ _ _ _ _;refine aI (s':=Dh b 2 nc (eH (dI b 2 (nc:Int)) cut)) (fun a w hg=>(hg.reset (kT:=[1,2,4,8,10]) (kO:=[0,1]) (by rfl) (by simp)).same ?_ ?_) ?_
   ·exact .cons rfl (.cons rfl (.cons rfl (.cons rfl (.cons (congrArg (fun z=>jo (.int .u8 z)) hx.symm) .nil))))
   ·exact .cons (.box rfl) (.cons (.box rfl) .nil)
   refine aB M hI hn (by rfl) (by kernel_rfl) ?_ ?_
   ·simp;omega
   refine aB M hI hn (by rfl) (by kernel_rfl) ?_ ?_
   ·simp;rw[<-zG]
    exact⟨by omega,by omega,⟨by omega,hlb _ hlm,fun _ _=>rfl⟩,by omega,by omega⟩
   refine aB M hI hn (by rfl) (by kernel_rfl) ?_ ?_
   ·simp;rw[<-zG];omega
   refine aB M hI hn (by rfl) (by kernel_rfl) ?_ ?_
   ·simp
   refine aK (fun a w hg=>⟨.inr rfl,_,?_,hg⟩);unfold OG AY;rw[jX];refine kK (by rfl) (by simp) (by rfl) ?_;refine .lw (.cons (.agg (.cons ?_ .nil)) (.cons (.one (.cold rfl)) .nil));have e9:(bF b.length (bJ b)).length=b.length:=dR _ _;refine DT.w_ e9 (.rows rfl trivial (by omega) (fun i hi=>?_));rw[Nat.zero_add]
   by_cases hi2:i=2
   ·subst hi2;refine .inr ⟨10008,0,1,0,(b.getD 2 []).length,_,_,_,_,qc ((b.getD 2 []).set nc (eH (dI b 2 (nc:Int)) cut)),?_,?_,rfl,trivial,?_,fun k hk=>⟨?_,rfl⟩⟩
    ·change [PC.ow 10008 0 1 0 (rowCell ((bF b.length (bJ b)).getD 2 []).length (qc ((bF b.length (bJ b)).getD 2 []))).length]=_;rw[aG,dF]
    ·rw[show (2:Int)=((2:Nat):Int) from rfl,qE h2b];unfold Am;rw[List.length_set]
    ·change 0+(b.getD 2 []).length<=(rowCell ((bF b.length (bJ b)).getD 2 []).length (qc ((bF b.length (bJ b)).getD 2 []))).length;rw[aG,dF];omega
    ·rw[Nat.zero_add];change (if k=0+(nc:Int).toNat then[PC.lit (.int .u8 (eH (dI b 2 (nc:Int)) cut))] else qc (rowCell ((bF b.length (bJ b)).getD 2 []).length (qc ((bF b.length (bJ b)).getD 2 []))) k)=_;rw[aG,jW,Int.toNat_natCast,Nat.zero_add];exact uD (by omega)
   ·refine .inl ⟨?_,rfl⟩;rw[if_neg (by rw[Nat.zero_add];exact hi2),aG];exact (uS (nb:=2) hi2).symm
theorem JA(b:List (List Int))(nc:Nat)(cut:Bool)(hl4:b.length<=1000)(hlb:∀ l∈b,l.length<=100000)(hv:∀ l∈b,∀ x∈l,0<=x/\x<=3)(he:BI b 3 (nc:Int)=true):gQ Tryz.prog a_ 125 false [.w (.agg (AY b)),iy ((3:Nat):Int),iy (nc:Int),qi cut] (OG (ru b 3 (nc:Int) cut) 0):=by
 have M:=puM;have hex:=aWc he;refine bM Tryz.func125 rfl rfl bU (fun A hS hn hI=>?_);refine aB M hI hn (by rfl) (by kernel_rfl) ?_ ?_
 ·simp
 refine aP ?_;refine aB M hI hn (by rfl) (by kernel_rfl) ?_ ?_
 ·simp
 rw[aG,show ((3:Nat):Int)=3 from rfl,he];refine aH (by rfl) (fun hc=>?_) (fun hc=>?_)
 ·cases hc
 refine aO ?_;change ja _ _ _ _ _;refine aB M hI hn (by rfl) (by kernel_rfl) ?_ ?_
 ·simp
 have h2b:3<b.length:=by have:=hex.1.2;omega
 have hlm:b.getD 3 []∈b:=getD_mem h2b [];have hcl:(nc:Int)<((b.getD 3 []).length:Int):=hex.2.2;have hcm:0<=dI b 3 (nc:Int)/\dI b 3 (nc:Int)<=3:=hv _ hlm _ (getD_mem (by omega) 0);refine aP ?_;refine aB M hI hn (by rfl) (by kernel_rfl) ?_ ?_
 ·simp
 refine aH (by rfl) (fun hc=>?_) (fun hc=>?_)
 ·have hcut:cut=true:=hc;refine aQ M hI hn (by rfl) (by kernel_rfl) ?_ ?_
  ·simp
  change ja _ _ _ _ _;refine aP ?_;refine aB M hI hn (by rfl) (by kernel_rfl) ?_ ?_
  ·simp;rw[<-zG];omega
  refine aB M hI hn (by rfl) (by kernel_rfl) ?_ ?_
  ·simp
  refine aH (by rfl) (fun hc=>?_) (fun hc=>?_)
  ·have hc2:(bif dI b 3 (nc:Int)==2 then true else dI b 3 (nc:Int)==3)=true:=hc
   have hx:eH (dI b 3 (nc:Int)) cut=dI b 3 (nc:Int):=by
    unfold eH
    have h5:¬dI b 3 (nc:Int)<=1:=fun h=>by
     by_cases h2:dI b 3 (nc:Int)=2
     ·omega
     ·rw[beq_eq_false_iff_ne.2 h2] at hc2;have h3:=eq_of_beq hc2;omega
    rw[if_neg h5]
   refine aQ M hI hn (by rfl) (by kernel_rfl) ?_ ?_
   ·simp
   change ja _ _ _ _ _;refine aI (s':=Dh b 3 nc (eH (dI b 3 (nc:Int)) cut)) (fun a w hg=>(hg.reset (kT:=[1,2,4,8,10]) (kO:=[0,1]) (by rfl) (by simp)).same ?_ ?_) ?_
   ·exact .cons rfl (.cons rfl (.cons rfl (.cons rfl (.cons (congrArg (fun z=>jo (.int .u8 z)) hx.symm) .nil))))
   ·exact .cons (.box rfl) (.cons (.box rfl) .nil)
   refine aB M hI hn (by rfl) (by kernel_rfl) ?_ ?_
   ·simp;omega
   refine aB M hI hn (by rfl) (by kernel_rfl) ?_ ?_
   ·simp;rw[<-zG]
    exact⟨by omega,by omega,⟨by omega,hlb _ hlm,fun _ _=>rfl⟩,by omega,by omega⟩
   refine aB M hI hn (by rfl) (by kernel_rfl) ?_ ?_
   ·simp;rw[<-zG];omega
   refine aB M hI hn (by rfl) (by kernel_rfl) ?_ ?_
   ·simp
   refine aK (fun a w hg=>⟨.inr rfl,_,?_,hg⟩);unfold OG AY;rw[jX];refine kK (by rfl) (by simp) (by rfl) ?_;refine .lw (.cons (.agg (.cons ?_ .nil)) (.cons (.one (.cold rfl)) .nil));have e9:(bF b.length (bJ b)).length=b.length:=dR _ _;refine DT.w_ e9 (.rows rfl trivial (by omega) (fun i hi=>?_));rw[Nat.zero_add]
   by_cases hi2:i=3
   ·subst hi2;refine .inr ⟨10008,0,1,0,(b.getD 3 []).length,_,_,_,_,qc ((b.getD 3 []).set nc (eH (dI b 3 (nc:Int)) cut)),?_,?_,rfl,trivial,?_,fun k hk=>⟨?_,rfl⟩⟩
    ·change [PC.ow 10008 0 1 0 (rowCell ((bF b.length (bJ b)).getD 3 []).length (qc ((bF b.length (bJ b)).getD 3 []))).length]=_;rw[aG,dF]
    ·rw[show (3:Int)=((3:Nat):Int) from rfl,qE h2b];unfold Am;rw[List.length_set]
    ·change 0+(b.getD 3 []).length<=(rowCell ((bF b.length (bJ b)).getD 3 []).length (qc ((bF b.length (bJ b)).getD 3 []))).length;rw[aG,dF];omega
    ·rw[Nat.zero_add];change (if k=0+(nc:Int).toNat then[PC.lit (.int .u8 (eH (dI b 3 (nc:Int)) cut))] else qc (rowCell ((bF b.length (bJ b)).getD 3 []).length (qc ((bF b.length (bJ b)).getD 3 []))) k)=_;rw[aG,jW,Int.toNat_natCast,Nat.zero_add];exact uD (by omega)
   ·refine .inl ⟨?_,rfl⟩;rw[if_neg (by rw[Nat.zero_add];exact hi2),aG];exact (uS (nb:=3) hi2).symm
  ·have hc2:(bif dI b 3 (nc:Int)==2 then true else dI b 3 (nc:Int)==3)=false:=hc
   have hx:eH (dI b 3 (nc:Int)) cut=1:=by
    unfold eH
    have h5:dI b 3 (nc:Int)<=1:=by
     by_cases h2:dI b 3 (nc:Int)=2
     ·rw[h2] at hc2;cases hc2
     ·rw[beq_eq_false_iff_ne.2 h2] at hc2
      by_cases h3:dI b 3 (nc:Int)=3
      ·rw[h3] at hc2;cases hc2
      ·omega
    rw[if_pos h5,hcut];rfl
   refine aO ?_;change ja _ _ _ _ _;refine aI (s':=Dh b 3 nc (eH (dI b 3 (nc:Int)) cut)) (fun a w hg=>(hg.reset (kT:=[1,2,4,8,10]) (kO:=[0,1]) (by rfl) (by simp)).same ?_ ?_) ?_
   ·exact .cons rfl (.cons rfl (.cons rfl (.cons rfl (.cons (congrArg (fun z=>jo (.int .u8 z)) hx.symm) .nil))))
   ·exact .cons (.box rfl) (.cons (.box rfl) .nil)
   refine aB M hI hn (by rfl) (by kernel_rfl) ?_ ?_
   ·simp;omega
   refine aB M hI hn (by rfl) (by kernel_rfl) ?_ ?_
   ·simp;rw[<-zG]
    exact⟨by omega,by omega,⟨by omega,hlb _ hlm,fun _ _=>rfl⟩,by omega,by omega⟩
   refine aB M hI hn (by rfl) (by kernel_rfl) ?_ ?_
   ·simp;rw[<-zG];omega
   refine aB M hI hn (by rfl) (by kernel_rfl) ?_ ?_
   ·simp
   refine aK (fun a w hg=>⟨.inr rfl,_,?_,hg⟩);unfold OG AY;rw[jX];refine kK (by rfl) (by simp) (by rfl) ?_;refine .lw (.cons (.agg (.cons ?_ .nil)) (.cons (.one (.cold rfl)) .nil));have e9:(bF b.length (bJ b)).length=b.length:=dR _ _;refine DT.w_ e9 (.rows rfl trivial (by omega) (fun i hi=>?_));rw[Nat.zero_add]
   by_cases hi2:i=3
   ·subst hi2;refine .inr ⟨10008,0,1,0,(b.getD 3 []).length,_,_,_,_,qc ((b.getD 3 []).set nc (eH (dI b 3 (nc:Int)) cut)),?_,?_,rfl,trivial,?_,fun k hk=>⟨?_,rfl⟩⟩
    ·change [PC.ow 10008 0 1 0 (rowCell ((bF b.length (bJ b)).getD 3 []).length (qc ((bF b.length (bJ b)).getD 3 []))).length]=_;rw[aG,dF]
    ·rw[show (3:Int)=((3:Nat):Int) from rfl,qE h2b];unfold Am;rw[List.length_set]
    ·change 0+(b.getD 3 []).length<=(rowCell ((bF b.length (bJ b)).getD 3 []).length (qc ((bF b.length (bJ b)).getD 3 []))).length;rw[aG,dF];omega
    ·rw[Nat.zero_add];change (if k=0+(nc:Int).toNat then[PC.lit (.int .u8 (eH (dI b 3 (nc:Int)) cut))] else qc (rowCell ((bF b.length (bJ b)).getD 3 []).length (qc ((bF b.length (bJ b)).getD 3 []))) k)=_;rw[aG,jW,Int.toNat_natCast,Nat.zero_add];exact uD (by omega)
   ·refine .inl ⟨?_,rfl⟩;rw[if_neg (by rw[Nat.zero_add];exact hi2),aG];exact (uS (nb:=3) hi2).symm
 ·have hcut:cut=false:=hc;refine aO ?_;change ja _ _ _ _ _;refine aP ?_;refine aB M hI hn (by rfl) (by kernel_rfl) ?_ ?_
  ·simp;rw[<-zG];omega
  refine aB M hI hn (by rfl) (by kernel_rfl) ?_ ?_
  ·simp
  refine aH (by rfl) (fun hc=>?_) (fun hc=>?_)
  ·have hc2:(bif dI b 3 (nc:Int)==2 then true else dI b 3 (nc:Int)==3)=true:=hc
   have hx:eH (dI b 3 (nc:Int)) cut=dI b 3 (nc:Int):=by
    unfold eH
    have h5:¬dI b 3 (nc:Int)<=1:=fun h=>by
     by_cases h2:dI b 3 (nc:Int)=2
     ·omega
     ·rw[beq_eq_false_iff_ne.2 h2] at hc2;have h3:=eq_of_beq hc2;omega
    rw[if_neg h5]
   refine aQ M hI hn (by rfl) (by kernel_rfl) ?_ ?_
   ·simp
   change ja _ _ _ _ _;refine aI (s':=Dh b 3 nc (eH (dI b 3 (nc:Int)) cut)) (fun a w hg=>(hg.reset (kT:=[1,2,4,8,10]) (kO:=[0,1]) (by rfl) (by simp)).same ?_ ?_) ?_
   ·exact .cons rfl (.cons rfl (.cons rfl (.cons rfl (.cons (congrArg (fun z=>jo (.int .u8 z)) hx.symm) .nil))))
   ·exact .cons (.box rfl) (.cons (.box rfl) .nil)
   refine aB M hI hn (by rfl) (by kernel_rfl) ?_ ?_
   ·simp;omega
   refine aB M hI hn (by rfl) (by kernel_rfl) ?_ ?_
   ·simp;rw[<-zG]
    exact⟨by omega,by omega,⟨by omega,hlb _ hlm,fun _ _=>rfl⟩,by omega,by omega⟩
   refine aB M hI hn (by rfl) (by kernel_rfl) ?_ ?_
   ·simp;rw[<-zG];omega
   refine aB M hI hn (by rfl) (by kernel_rfl) ?_ ?_
   ·simp
   refine aK (fun a w hg=>⟨.inr rfl,_,?_,hg⟩);unfold OG AY;rw[jX];refine kK (by rfl) (by simp) (by rfl) ?_;refine .lw (.cons (.agg (.cons ?_ .nil)) (.cons (.one (.cold rfl)) .nil));have e9:(bF b.length (bJ b)).length=b.length:=dR _ _;refine DT.w_ e9 (.rows rfl trivial (by omega) (fun i hi=>?_));rw[Nat.zero_add]
   by_cases hi2:i=3
   ·subst hi2;refine .inr ⟨10008,0,1,0,(b.getD 3 []).length,_,_,_,_,qc ((b.getD 3 []).set nc (eH (dI b 3 (nc:Int)) cut)),?_,?_,rfl,trivial,?_,fun k hk=>⟨?_,rfl⟩⟩
    ·change [PC.ow 10008 0 1 0 (rowCell ((bF b.length (bJ b)).getD 3 []).length (qc ((bF b.length (bJ b)).getD 3 []))).length]=_;rw[aG,dF]
    ·rw[show (3:Int)=((3:Nat):Int) from rfl,qE h2b];unfold Am;rw[List.length_set]
    ·change 0+(b.getD 3 []).length<=(rowCell ((bF b.length (bJ b)).getD 3 []).length (qc ((bF b.length (bJ b)).getD 3 []))).length;rw[aG,dF];omega
    ·rw[Nat.zero_add];change (if k=0+(nc:Int).toNat then[PC.lit (.int .u8 (eH (dI b 3 (nc:Int)) cut))] else qc (rowCell ((bF b.length (bJ b)).getD 3 []).length (qc ((bF b.length (bJ b)).getD 3 []))) k)=_;rw[aG,jW,Int.toNat_natCast,Nat.zero_add];exact uD (by omega)
   ·refine .inl ⟨?_,rfl⟩;rw[if_neg (by rw[Nat.zero_add];exact hi2),aG];exact (uS (nb:=3) hi2).symm
  ·have hc2:(bif dI b 3 (nc:Int)==2 then true else dI b 3 (nc:Int)==3)=false:=hc
   have hx:eH (dI b 3 (nc:Int)) cut=2:=by
    unfold eH
    have h5:dI b 3 (nc:Int)<=1:=by
     by_cases h2:dI b 3 (nc:Int)=2
     ·rw[h2] at hc2;cases hc2
     ·rw[beq_eq_false_iff_ne.2 h2] at hc2
      by_cases h3:dI b 3 (nc:Int)=3
      ·rw[h3] at hc2;cases hc2
      ·omega
    rw[if_pos h5,hcut];rfl
   refine aO ?_;change ja _ _ _ _ _;refine aI (s':=Dh b 3 nc (eH (dI b 3 (nc:Int)) cut)) (fun a w hg=>(hg.reset (kT:=[1,2,4,8,10]) (kO:=[0,1]) (by rfl) (by simp)).same ?_ ?_) ?_
   ·exact .cons rfl (.cons rfl (.cons rfl (.cons rfl (.cons (congrArg (fun z=>jo (.int .u8 z)) hx.symm) .nil))))
   ·exact .cons (.box rfl) (.cons (.box rfl) .nil)
   refine aB M hI hn (by rfl) (by kernel_rfl) ?_ ?_
   ·simp;omega
   refine aB M hI hn (by rfl) (by kernel_rfl) ?_ ?_
   ·simp;rw[<-zG]
    exact⟨by omega,by omega,⟨by omega,hlb _ hlm,fun _ _=>rfl⟩,by omega,by omega⟩
   refine aB M hI hn (by rfl) (by kernel_rfl) ?_ ?_
   ·simp;rw[<-zG];omega
   refine aB M hI hn (by rfl) (by kernel_rfl) ?_ ?_
   ·simp
   refine aK (fun a w hg=>⟨.inr rfl,_,?_,hg⟩);unfold OG AY;rw[jX];refine kK (by rfl) (by simp) (by rfl) ?_;refine .lw (.cons (.agg (.cons ?_ .nil)) (.cons (.one (.cold rfl)) .nil));have e9:(bF b.length (bJ b)).length=b.length:=dR _ _;refine DT.w_ e9 (.rows rfl trivial (by omega) (fun i hi=>?_));rw[Nat.zero_add]
   by_cases hi2:i=3
   ·subst hi2;refine .inr ⟨10008,0,1,0,(b.getD 3 []).length,_,_,_,_,qc ((b.getD 3 []).set nc (eH (dI b 3 (nc:Int)) cut)),?_,?_,rfl,trivial,?_,fun k hk=>⟨?_,rfl⟩⟩
    ·change [PC.ow 10008 0 1 0 (rowCell ((bF b.length (bJ b)).getD 3 []).length (qc ((bF b.length (bJ b)).getD 3 []))).length]=_;rw[aG,dF]
    ·rw[show (3:Int)=((3:Nat):Int) from rfl,qE h2b];unfold Am;rw[List.length_set]
    ·change 0+(b.getD 3 []).length<=(rowCell ((bF b.length (bJ b)).getD 3 []).length (qc ((bF b.length (bJ b)).getD 3 []))).length;rw[aG,dF];omega
    ·rw[Nat.zero_add];change (if k=0+(nc:Int).toNat then[PC.lit (.int .u8 (eH (dI b 3 (nc:Int)) cut))] else qc (rowCell ((bF b.length (bJ b)).getD 3 []).length (qc ((bF b.length (bJ b)).getD 3 []))) k)=_;rw[aG,jW,Int.toNat_natCast,Nat.zero_add];exact uD (by omega)
   ·refine .inl ⟨?_,rfl⟩;rw[if_neg (by rw[Nat.zero_add];exact hi2),aG];exact (uS (nb:=3) hi2).symm
def VD:List PV->Option (Prop×PV)
 |[.w (.agg [.sl 1 n f]),.w (.one (.lit (.int .i64 bk))),.w (.one (.lit (.int .i64 c))),.w (.one (.lit (.bool cut)))]=>some (pV n f/\n<=1000/\(∀ l∈bF n f,l.length<=100000)/\(∀ l∈bF n f,∀ x∈l,0<=x/\x<=3)/\(bk=2\/bk=3)/\BI (bF n f) bk c=true,OG (ru (bF n f) bk c cut) 0)
 |_=>none
theorem JC:aj Tryz.prog a_ 125 (bD false VD):=by
 refine bC (aF Tryz.func125 (by kernel_rfl) rfl) (fun xs p r hg hp w ok0 vs hI hv=>?_);unfold VD at hg
 split at hg
 ·rename_i n f bk c cut;cases hg;obtain⟨h1,h2,h3,h4,hbk,h5⟩:=hp;obtain⟨nc,rfl⟩:∃ nc:Nat,c=(nc:Int):=⟨c.toNat,by have:=(aWc h5).2.1;omega⟩
  match vs,hv with
  |[v1,v2,v3,v4],⟨k1,k2,k3,k4,_⟩=>
   rcases hbk with rfl|rfl
   ·exact JB (bF n f) nc cut (by rw[dR];exact h2) h3 h4 h5 w ok0 [v1,v2,v3,v4] hI ⟨aVx h1 k1,k2,k3,k4,trivial⟩
   ·exact JA (bF n f) nc cut (by rw[dR];exact h2) h3 h4 h5 w ok0 [v1,v2,v3,v4] hI ⟨aVx h1 k1,k2,k3,k4,trivial⟩
 ·cases hg
end Pv
theorem aJt:u_ Tryz.prog 173 10:=⟨⟨_,Tryz.underlying173,rfl⟩,by kernel_rfl⟩
def aGD:Array Value:=#[.nilFunc,.nilFunc,.func (.func 121) #[] #[],.func (.func 122) #[] #[],.func (.func 121) #[] #[],.func (.func 124) #[] #[],
 .func (.func 126) #[] #[],.func (.func 127) #[] #[],.func (.func 129) #[] #[],.func (.func 130) #[] #[]]
theorem aQw(w:World):Calls Tryz.prog 94 #[] w fun e w'=>e=.returned (.agg aGD)/\Ext w w':=by
 go_enter Tryz.func94,Tryz.ntmps94
 go_wp2_with (refine aT (ty:=173) (t:=173) (x:=.tmp 0) (y:=.tmp 8) rfl rfl aJt rfl rfl (au.new w _ _) rfl rfl (by rw[<-Array.all_toList];rfl) ?_;intro w2 hb2 hc2 hz2)
 refine bodyPost_ret (v:=.agg aGD) (dJ aJt rfl hb2 rfl rfl) rfl ⟨rfl,?_⟩;exact ((Ext.refl w).alloc _).trans' hc2 (fun _ _ h=>h) (fun i hi e=>by omega)
def yJ(c:Acc):Prop:=((c.kind=1\/c.kind=2)/\(c.ay=2\/c.ay=3)/\(0<=c.cell/\c.cell<48)/\c.bytes=aS)\/((c.kind=3/\c.bytes=aS\/c.kind=4/\c.bytes.size=256)/\c.ay=0/\0<=c.cell/\c.cell<64)
instance (c:Acc):Decidable (yJ c):=by unfold yJ;infer_instance
structure o6(h:j_):Prop where
 ok:DI h
 n:3<h.b.length
 l2:(h.b.getD 2 []).length=48
 l3:(h.b.getD 3 []).length=48
 f:64<=h.f.length
theorem MR{b:List (List Int)}{k c:Int}(h0:0<=k)(h1:k<b.length)(h2:0<=c)(h3:c<((b.getD k.toNat []).length:Int)):BI b k c=true:=by
 unfold BI;simp only[Bool.and_eq_true,decide_eq_true_eq]
 exact⟨⟨⟨h0,h1⟩,h2⟩,h3⟩
theorem o6.ex{h:j_}(d:o6 h){k c:Int}(hk:k=2\/k=3)(hc:0<=c/\c<48):BI h.b k c=true:=by
 have h1:=d.n;rcases hk with rfl|rfl
 ·refine MR (by decide) (by omega) hc.1 ?_;rw[show (2:Int).toNat=2 from rfl,d.l2];exact hc.2
 ·refine MR (by decide) (by omega) hc.1 ?_;rw[show (3:Int).toNat=3 from rfl,d.l3];exact hc.2
theorem aIh(b:List (List Int))(k c:Int)(cut:Bool)(j:Nat):((ru b k c cut).getD j []).length=(b.getD j []).length:=by
 unfold ru;rw[zG,List.getElem?_set]
 split
 ·rename_i e;subst e
  split
  ·rename_i hl;rw[Option.getD_some,List.length_set]
  ·rename_i hl;rw[zG,List.getElem?_eq_none (by omega)]
 ·rw[<-zG]
theorem zW(f:Fl)(s:Int)(b:ByteArray)(cut:Int):(iQ f s b cut).length=f.length:=by
 unfold iQ
 split
 ·exact List.length_set ..
 ·rfl
theorem aTh{h:j_}{a:Acc}{t:lu}(hk:a.kind=1)(hb:a.bytes=aS)(hx:BI h.b a.ay a.cell=true):fJ h a t=(h,if t.cut then kP else⟨fV (dI h.b a.ay a.cell) t.iw,aS⟩,0):=by
 unfold fJ;rw[if_pos hk,if_pos hb,if_pos hx]
theorem aTg{h:j_}{a:Acc}{t:lu}(hk:a.kind=2)(hb:a.bytes=aS)(hx:BI h.b a.ay a.cell=true):fJ h a t=({ h with b:=ru h.b a.ay a.cell t.cut },kP,0):=by
 unfold fJ;rw[if_neg (by omega),if_pos hk,if_pos hb,if_pos hx]
theorem aFy{h:j_}{a:Acc}{t:lu}(hk:a.kind=3)(hb:a.bytes=aS/\a.ay=0)(hx:0<=a.cell/\a.cell<h.f.length):fJ h a t=(h,if t.cut then kP else⟨0,strOf (sec h.f a.cell)⟩,0):=by
 unfold fJ;rw[if_neg (by omega),if_neg (by omega),if_pos hk,if_pos hb,if_pos hx]
theorem aFx{h:j_}{a:Acc}{t:lu}(hk:a.kind=4)(hb:a.ay=0)(hx:0<=a.cell/\a.cell<h.f.length)(hs:a.bytes.size=256):fJ h a t=({ h with f:=iQ h.f a.cell a.bytes (CQ t) },kP,0):=by
 unfold fJ;rw[if_neg (by omega),if_neg (by omega),if_neg (by omega),if_pos hk,if_pos hb,if_pos hx,if_pos hs]
theorem o6.step{h:j_}(d:o6 h){c:Acc}(g:yJ c)(t:lu):o6 (fJ h c t).1:=by
 have hok:=aWi c t d.ok;have hf:=d.f;rcases g with⟨hk|hk,hb,hc,hs⟩|⟨⟨hk,hs⟩|⟨hk,hs⟩,hb,hc⟩
 ·rw[aTh hk hs (d.ex hb hc)];exact d
 ·rw[aTg hk hs (d.ex hb hc)] at hok ⊢
  refine⟨hok,?_,?_,?_,d.f⟩
  ·show 3<(ru _ _ _ _).length;unfold ru;rw[List.length_set];exact d.n
  ·exact (aIh _ _ _ _ 2).trans d.l2
  ·exact (aIh _ _ _ _ 3).trans d.l3
 ·rw[aFy hk ⟨hs,hb⟩ ⟨hc.1,by omega⟩];exact d
 ·rw[aFx hk hb ⟨hc.1,by omega⟩ hs] at hok ⊢
  exact⟨hok,d.n,d.l2,d.l3,by show 64<=(iQ _ _ _ _).length;rw[zW];exact hf⟩
theorem aUm{F:List lu}:∀ (l:List Acc) (i:Nat) {h:j_},o6 h->(∀ c∈l,yJ c)->o6 (AO F h l i)
 |[],_,_,d,_=>d
 |c::l,i,_,d,g=>aUm l (i+1) (d.step (g c List.mem_cons_self) _) (fun x hx=>g x (List.mem_cons_of_mem _ hx))
def ah.Xq{α:Type}:ah α->Prop
 |.ret _=>True
 |.ask a k=>yJ a/\∀ r,ah.Xq (k r)
namespace Pv
def oK(F:List lu)(h:j_)(l:List Acc):Option je:=match l.getLast? with
 |none=>some kP
 |some c=>if (eX F (l.length-1)).cut=true\/¬yJ c\/1000000<l.length-1 then none else some (fJ (AO F h l.dropLast 0) c (eX F (l.length-1))).2.1
theorem aIo(F:List lu)(h:j_)(l:List Acc)(c:Acc):oK F h (l++[c])=if (eX F l.length).cut=true\/¬yJ c\/1000000<l.length then none else some (fJ (AO F h l 0) c (eX F l.length)).2.1:=by
 unfold oK;rw[List.getLast?_append,List.dropLast_concat,List.length_append,List.length_singleton,Nat.add_sub_cancel];rfl
theorem Ld{α:Type}(F:List lu)(h0:j_)(p:ah α):ah.Xq p->∀ (n:Nat),p.Within n->∀ l:List Acc,l.length+n<=1000000 ->
  (F7 F (go (oK F h0) p l).2.length->dK F p (AO F h0 l 0) l.length=(some (go (oK F h0) p l).1,AO F h0 (go (oK F h0) p l).2 0,(go (oK F h0) p l).2.length)) /\
  ∀ l' c,l <+: l'->l'++[c] <+: (go (oK F h0) p l).2->F7 F l'.length->(eX F l'.length).cut=true->dK F p (AO F h0 l 0) l.length=(none,AO F h0 (l'++[c]) 0,l'.length+1):=by
 induction p with
 |ret a=>
  intro _ n _ l _
  refine⟨fun _=>rfl,fun l' c h1 h2 _ _=>?_⟩
  rw[go_ret] at h2;have e1:=h1.length_le;have e2:(l'++[c]).length<=l.length:=h2.length_le;rw[List.length_append,List.length_singleton] at e2;exfalso
  omega
 | ask a k ih=>
  intro hIn n hW l hln
  obtain⟨n,rfl⟩:∃ m,n=m+1:=by
   cases n with
   |zero=>exact hW.elim
   |succ m=>exact⟨m,rfl⟩
  have hgd:yJ a:=hIn.1;rw[wZ];have hs:=aUl F l a h0;have hO:=aIo F h0 l a
  have hlen:(l++[a]).length=l.length+1:=by rw[List.length_append,List.length_singleton]
  have hpre:=vG (oK F h0) (k (ans (oK F h0) (l++[a]))) (l++[a]);obtain⟨i1,i2⟩:=ih (ans (oK F h0) (l++[a])) (hIn.2 _) n (hW _) (l++[a]) (by rw[List.length_append,List.length_singleton];omega)
  by_cases hc:(eX F l.length).cut=true
  ·have hex:dK F (.ask a k) (AO F h0 l 0) l.length=(none,AO F h0 (l++[a]) 0,l.length+1):=by
    rw[dK,if_pos hc,hs]
   refine⟨fun hn=>?_,fun l' c h1 h2 hn hc2=>?_⟩
   ·have:=hn l.length (by have:=hpre.length_le;omega);rw[this] at hc;cases hc
   ·have e1:=h1.length_le
    have hll:l'.length=l.length:=by
     rcases Nat.lt_or_ge l.length l'.length with h|h
     ·have:=hn _ h;rw[this] at hc;cases hc
     ·omega
    obtain⟨t,ht⟩:=h1
    have ht0:t=[]:=by
     have:=congrArg List.length ht;rw[List.length_append] at this;exact List.eq_nil_of_length_eq_zero (by omega)
    subst ht0;rw[List.append_nil] at ht;subst ht
    have he:l++[c]=l++[a]:=by
     obtain⟨u,hu⟩:=hpre;obtain⟨v,hv⟩:=h2;rw[<-hu,List.append_assoc,List.append_assoc] at hv;have h6:=List.append_cancel_left hv;simp only[List.singleton_append,List.cons.injEq] at h6;rw[h6.1]
    rw[he,hex]
  ·have hans:ans (oK F h0) (l++[a])=(fJ (AO F h0 l 0) a (eX F l.length)).2.1:=by
    unfold ans;rw[hO,if_neg (fun h=>h.elim hc fun h=>h.elim (fun h=>h hgd) (fun h=>by omega))];rfl
   have hex:dK F (.ask a k) (AO F h0 l 0) l.length=dK F (k (ans (oK F h0) (l++[a]))) (AO F h0 (l++[a]) 0) (l++[a]).length:=by
    rw[dK,if_neg hc,hs,hlen,hans]
   refine⟨fun hn=>by rw[hex];exact i1 hn,fun l' c h1 h2 hn hc2=>?_⟩
   rw[hex];refine i2 l' c ?_ h2 hn hc2;obtain⟨t,ht⟩:=h1
   cases t with
   |nil=>
    rw[List.append_nil] at ht;subst ht
    exact absurd hc2 hc
   | cons x t=>
    subst ht;obtain⟨u,hu⟩:=hpre;obtain⟨v,hv⟩:=h2;rw[<-hu] at hv
    have h6:x=a:=by
     simp only[List.append_assoc,List.cons_append,List.nil_append] at hv;have h7:=List.append_cancel_left hv;simp only[List.cons.injEq] at h7;exact h7.1
    subst h6
    exact⟨t,by simp⟩
theorem Lh{α:Type}(O:List Acc->Option je)(p:ah α):ah.Xq p->∀ l:List Acc,(∀ c∈l,yJ c)->∀ c∈(go O p l).2,yJ c:=by
 induction p with
 |ret a=>intro _ l h;exact h
 | ask a k ih=>
  intro hIn l h;rw[wZ];refine ih _ (hIn.2 _) _ (fun c hc=>?_);rcases List.mem_append.1 hc with hc|hc
  ·exact h c hc
  ·obtain rfl:=List.mem_singleton.1 hc
   exact hIn.1
def aHK(A:kz)(s:St):Exit->Act->World->Prop
 |.panic chain,a,w=>a.defers=A.ds/\DF A chain w
 |e,a,w=>e=.normal/\o7 A s a w
theorem aCm{P:Program}{A:kz}{s:St}(s':St){x y:Code}{Q:Exit->Act->World->Prop}(h1:ja P A s x (aHK A s'))(h2:ja P A s' y Q):ja P A s (.seq x y) Q:=fun a w hg AX=>
 wp_seq (wp_mono (h1 a w hg (fun _ _ _ hd hp=>⟨hd,hp⟩)) (fun e a' w' he=>by
  cases e with
  |panic chain=>exact AX chain a' w' he.1 he.2
  |normal=>exact h2 a' w' he.2 AX
  |_=>cases he.1))
def m_(h:j_):List PC:=[.sl 1 h.b.length (bJ h.b),.sl 1 h.f.length (r_ h.f),.bs 16 h.r]
def oL(t:lu):List PC:=[.lit (.bool t.cut),.lit (.int .i64 t.bytes),.lit (.bool t.iw)]
def xq(k b c:Int):Acc:=⟨k,b,c,aS⟩
def Ag:List PC->Option (Prop×j_)
 |[.sl 1 n f,.sl 1 m g,.bs 16 r]=>some (pV n f/\aMu m g,⟨bF n f,iP m g,r⟩)
 |_=>none
theorem J9{C:Ctx}{n len:Nat}{f:Nat->List PC}{xs:List Value}(h:R C (.sl n len f) xs):∃ v,xs=[v]:=by cases h;exact⟨_,rfl⟩
theorem xX{C:Ctx}{l:List PC}{p:Prop}{h:j_}(e:Ag l=some (p,h))(hp:p){xs:List Value}(hr:RL C l xs):RL C (m_ h) xs:=by
 unfold Ag at e
 split at e
 ·rename_i n f m g r;cases e;obtain⟨h1,h2⟩:=hp;unfold m_;dsimp only
  cases hr with
  | cons k1 hr=>cases hr with
   |cons k2 hr=>
    obtain⟨v,rfl⟩:=J9 k1;refine .cons (aGn h1 k1) (.cons ?_ hr);rw[aCa];exact k2.zt (bFn h2)
 ·cases e
theorem ve.Eu{P:Program}{I:World->Prop}{f:Nat}{new:Bool}{x:Nat}{t:TypeId}{l l1 l':List PC}{O:List Acc->Option je}{dev:Option (List Acc×List Acc)}{di:List Acc->Prop}{args:List PV}{res:PV}(h:ve P I f new [⟨x,t,l1,l'⟩] O dev di args res)
  (hl:∀ C xs,RL C l xs->RL C l1 xs):ve P I f new [⟨x,t,l,l'⟩] O dev di args res:=by
 intro w ok0 vs bl D X0 hM hold hst Ac hO hdv hnd hob hinj hv
 have hS:∀ b,SX [⟨x,t,l,l'⟩] bl D b↔SX [⟨x,t,l1,l'⟩] bl D b:=fun b=>by
  constructor<;>rintro (h|⟨o,ho,rfl⟩)
  ·exact .inl h
  ·obtain rfl:=List.mem_singleton.1 ho
   exact .inr ⟨_,List.mem_singleton_self _,rfl⟩
  ·exact .inl h
  ·obtain rfl:=List.mem_singleton.1 ho
   exact .inr ⟨_,List.mem_singleton_self _,rfl⟩
 refine (h w ok0 vs bl D X0 (fun w' hc=>hM w' (hc.mono fun b _ hb=>(hS b).2 hb)) (fun b hb=>hold b ((hS b).2 hb)) hst Ac hO hdv hnd (fun o ho=>?_) (fun o ho o' ho' _=>?_) hv).mono ?_
 ·obtain rfl:=List.mem_singleton.1 ho
  obtain⟨h1,cs,h2,h3⟩:=hob _ (List.mem_singleton_self _)
  exact⟨h1,cs,h2,hl _ _ h3⟩
 ·obtain rfl:=List.mem_singleton.1 ho
  obtain rfl:=List.mem_singleton.1 ho'
  rfl
 ·rintro e w' ⟨h1,h2⟩
  refine⟨h1.mono fun b _ hb=>(hS b).2 hb,?_⟩
  rcases h2 with⟨val,rfl,h3,h4,h5⟩|h2
  ·refine .inl ⟨val,rfl,h3,fun o ho=>?_,h5⟩
   obtain rfl:=List.mem_singleton.1 ho
   exact h4 ⟨x,t,l1,l'⟩ (List.mem_singleton_self _)
  ·exact .inr h2
theorem QL(k b c:Int):gQ Tryz.prog a_ 121 true [.w (.agg (tN (xq k b c)))] (qi true):=by
 have M:=Fq (I:=a_);refine bM Tryz.func121 rfl rfl bU (fun A hS hn hI=>?_);refine aB M hI hn (by rfl) (by kernel_rfl) ?_ ?_
 ·simp
 refine aB M hI hn (by rfl) (by kernel_rfl) ?_ ?_
 ·simp
 refine aK (fun a w hg=>⟨.inr rfl,_,?_,hg⟩);refine aC (by rfl) (by simp) (by rfl) (by rfl) ?_;refine congrArg qi (?_:(aS.toList==(⟨#[]⟩:ByteArray).toList)=true);exact beq_self_eq_true _
def VP:List PV->Option (Prop×PV)
 |[.w (.agg [.lit (.int .i64 _),.lit (.int .i64 _),.lit (.int .i64 _),.lit (.string s)])]=>some (s=aS,qi true)
 |_=>none
theorem JW:aj Tryz.prog a_ 121 (bD true VP):=by
 refine bC (aF Tryz.func121 (by kernel_rfl) rfl) (fun xs p r hg hp=>?_);unfold VP at hg
 split at hg
 ·cases hg
  obtain rfl:=hp
  exact QL _ _ _
 ·cases hg
theorem QK(k c:Int):gQ Tryz.prog a_ 126 true [.w (.agg (tN (xq k 0 c)))] (qi true):=by
 have M:=Fq (I:=a_);refine bM Tryz.func126 rfl rfl bU (fun A hS hn hI=>?_);refine aB M hI hn (by rfl) (by kernel_rfl) ?_ ?_
 ·simp
 refine aB M hI hn (by rfl) (by kernel_rfl) ?_ ?_
 ·simp
 refine aK (fun a w hg=>⟨.inr rfl,_,?_,hg⟩);refine aC (by rfl) (by simp) (by rfl) (by rfl) ?_;refine congrArg qi (?_:(bif (aS.toList==(⟨#[]⟩:ByteArray).toList) then ((0:Int)==0) else false)=true);rw[show (aS.toList==(⟨#[]⟩:ByteArray).toList)=true from beq_self_eq_true _];rfl
def VO:List PV->Option (Prop×PV)
 |[.w (.agg [.lit (.int .i64 _),.lit (.int .i64 b),.lit (.int .i64 _),.lit (.string s)])]=>some (b=0/\s=aS,qi true)
 |_=>none
theorem JV:aj Tryz.prog a_ 126 (bD true VO):=by
 refine bC (aF Tryz.func126 (by kernel_rfl) rfl) (fun xs p r hg hp=>?_);unfold VO at hg
 split at hg
 ·cases hg;obtain⟨rfl,rfl⟩:=hp;exact QK _ _
 ·cases hg
theorem QJ(a:Acc)(hb:a.ay=0):gQ Tryz.prog a_ 129 true [.w (.agg (tN a))] (qi true):=by
 have M:=Fq (I:=a_);refine bM Tryz.func129 rfl rfl bU (fun A hS hn hI=>?_);obtain⟨k,b,c,s⟩:=a
 obtain rfl:b=0:=hb
 refine aB M hI hn (by rfl) (by kernel_rfl) ?_ ?_
 ·simp
 refine aB M hI hn (by rfl) (by kernel_rfl) ?_ ?_
 ·simp
 refine aK (fun a w hg=>⟨.inr rfl,_,?_,hg⟩);refine aC (by rfl) (by simp) (by rfl) (by rfl) ?_;rfl
def VN:List PV->Option (Prop×PV)
 |[.w (.agg [.lit (.int .i64 _),.lit (.int .i64 b),.lit (.int .i64 _),.lit (.string _)])]=>some (b=0,qi true)
 |_=>none
theorem JU:aj Tryz.prog a_ 129 (bD true VN):=by
 refine bC (aF Tryz.func129 (by kernel_rfl) rfl) (fun xs p r hg hp=>?_);unfold VN at hg
 split at hg
 ·rename_i k b c s;cases hg;exact QJ ⟨k,b,c,s⟩ hp
 ·cases hg
def dcL:List (Nat×Spec):=[(123,bD true Wp),(125,bD false VD),(128,aBI),(131,aBH)]
theorem aEV:∀ p∈dcL,aj Tryz.prog a_ p.1 p.2:=by
 intro p hp;simp only[dcL,List.mem_cons,List.not_mem_nil,or_false] at hp;rcases hp with rfl|rfl|rfl|rfl
 ·exact MB
 ·exact JC
 ·exact M_
 ·exact bFk
theorem dcM:lm Tryz.prog a_ (find dcL):=⟨bV aEV,fK⟩
structure BF(h:j_)(b c:Int):Prop where
 ok:DI h
 bk:b=2\/b=3
 ex:BI h.b b c=true
structure BJ(h:j_)(c:Int):Prop where
 ok:DI h
 ex:0<=c/\c<h.f.length
theorem BJ.has{h:j_}{c:Int}(k:BJ h c):zx h.f c=true:=by
 unfold zx;rw[decide_eq_true k.ex.1,decide_eq_true k.ex.2];rfl
theorem bGl(h:j_)(k b c:Int)(t:lu)(hc:BF h b c):ve Tryz.prog a_ 122 false [⟨px,65,m_ h,m_ h⟩] (fun _=>none) none (fun _=>False) [dn (.pt px 0 0),.w (.agg (tN (xq k b c))),.w (.agg (oL t))]
  (.lw [.agg (mG ⟨fV (dI h.b b c) t.iw,aS⟩),.one (.lit (.int .i64 0))]):=by
 have M:=dcM;refine kD Tryz.func122 rfl rfl rfl (fun A hn hI=>?_);refine aB M hI hn (by rfl) (by kernel_rfl) ?_ ?_
 ·simp
 refine aB M hI hn (by rfl) (by kernel_rfl) ?_ ?_
 ·simp
 refine aB M hI hn (by rfl) (by kernel_rfl) ?_ ?_
 ·simp
 refine aK (fun a w hg=>⟨.inr rfl,_,⟨?_,(fun o ho=>by obtain rfl:=List.mem_singleton.1 ho;exact⟨_,rfl,dX rfl⟩),fun p hp=>(by cases hp)⟩,hg⟩);refine aC (by rfl) (by simp) (by rfl) (by rfl) ?_;change PV.lw [.agg [.lit (.int .i64 (if BI (bF h.b.length (bJ h.b)) b c=true then fV (dI (bF h.b.length (bJ h.b)) b c) t.iw else 0)),.lit (.string aS)],.one (.lit (.int .i64 (if BI (bF h.b.length (bJ h.b)) b c=true then 0 else 1)))]=_;rw[aG,hc.ex,if_pos rfl,if_pos rfl];rfl
theorem NC(h:j_)(k b c:Int)(t:lu)(hc:BF h b c):ve Tryz.prog a_ 124 false [⟨px,65,m_ h,m_ { h with b:=ru h.b b c t.cut }⟩] (fun _=>none) none (fun _=>False) [dn (.pt px 0 0),.w (.agg (tN (xq k b c))),.w (.agg (oL t))]
  (.lw [.agg (mG kP),.one (.lit (.int .i64 0))]):=by
 have M:=dcM;refine kD Tryz.func124 rfl rfl rfl (fun A hn hI=>?_);refine aB M hI hn (by rfl) (by kernel_rfl) ?_ ?_
 ·simp
 refine aB M hI hn (by rfl) (by kernel_rfl) ?_ ?_
 ·simp
  exact⟨hc.ok.nb,hc.ok.nc,hc.ok.val,hc.bk,hc.ex⟩
 refine aP ?_;refine aB M hI hn (by rfl) (by kernel_rfl) ?_ ?_
 ·simp
 refine aH (by rfl) (fun hc=>?_) (fun hc=>?_)
 ·refine aQ M hI hn (by rfl) (by kernel_rfl) ?_ ?_
  ·simp
  change ja _ _ _ _ _;refine aB M hI hn (by rfl) (by kernel_rfl) ?_ ?_
  ·simp
  refine aI (s':=⟨[(6,none,dn (.pt 2 0 0)),(7,none,iy 0)],[(px,none,0,.box 65 (m_ { h with b:=ru h.b b c t.cut })),(2,none,0,.box 35 (mG kP))]⟩) (fun a w hg=>(hg.reset (kT:=[6,7]) (kO:=[px,2]) (by rfl) (by simp)).same ?_ ?_) ?_
  ·exact .cons rfl (.cons rfl .nil)
  ·refine .cons (.box ?_) (.cons (.box rfl) .nil);change [PC.sl 1 (ru (bF h.b.length (bJ h.b)) b c t.cut).length (bJ (ru (bF h.b.length (bJ h.b)) b c t.cut)),.sl 1 h.f.length (r_ h.f),.bs 16 h.r]=_;rw[aG];rfl
  refine aK (fun a w hg=>⟨.inr rfl,_,⟨?_,(fun o ho=>by obtain rfl:=List.mem_singleton.1 ho;exact⟨_,rfl,dX rfl⟩),fun p hp=>(by cases hp)⟩,hg⟩);refine aC (by rfl) (by simp) (by rfl) (by rfl) ?_;rfl
 ·cases hc
theorem N9(h:j_)(k c:Int)(t:lu)(hc:BJ h c):ve Tryz.prog a_ 127 false [⟨px,65,m_ h,m_ h⟩] (fun _=>none) none (fun _=>False) [dn (.pt px 0 0),.w (.agg (tN (xq k 0 c))),.w (.agg (oL t))]
  (.lw [.agg (mG ⟨0,strOf (sec h.f c)⟩),.one (.lit (.int .i64 0))]):=by
 have M:=dcM;refine kD Tryz.func127 rfl rfl rfl (fun A hn hI=>?_);refine aB M hI hn (by rfl) (by kernel_rfl) ?_ ?_
 ·simp
 refine aB M hI hn (by rfl) (by kernel_rfl) ?_ ?_
 ·simp
 refine aB M hI hn (by rfl) (by kernel_rfl) ?_ ?_
 ·simp
 refine aK (fun a w hg=>⟨.inr rfl,_,⟨?_,(fun o ho=>by obtain rfl:=List.mem_singleton.1 ho;exact⟨_,rfl,dX rfl⟩),fun p hp=>(by cases hp)⟩,hg⟩);refine aC (by rfl) (by simp) (by rfl) (by rfl) ?_;change PV.lw [.agg [.lit (.int .i64 0),.lit (.string (strOf (sec (iP h.f.length (r_ h.f)) c)))],.one (.lit (.int .i64 (if zx (iP h.f.length (r_ h.f)) c=true then 0 else 13)))]=_;rw[bK,hc.has,if_pos rfl];rfl
def aES(h:j_)(a:Acc)(_:lu)(cut:Int):St:=⟨[(0,none,dn (.pt px 0 0)),(4,none,dn (.pt 0 0 0)),(6,none,dn (.pt 2 0 0)),(8,none,iy cut)],[(px,none,0,.box 65 (m_ h)),(0,none,0,.box 37 (tN a)),(2,none,0,.box 35 (mG kP))]⟩
theorem Rw(h:j_)(a:Acc)(t:lu)(hc:BJ h a.cell)(hs:a.bytes.size=256):ve Tryz.prog a_ 130 false [⟨px,65,m_ h,m_ { h with f:=iQ h.f a.cell a.bytes (CQ t) }⟩] (fun _=>none) none (fun _=>False) [dn (.pt px 0 0),.w (.agg (tN a)),.w (.agg (oL t))]
  (.lw [.agg (mG kP),.one (.lit (.int .i64 0))]):=by
 have M:=dcM;refine kD Tryz.func130 rfl rfl rfl (fun A hn hI=>?_);refine aB M hI hn (by rfl) (by kernel_rfl) ?_ ?_
 ·simp
 refine aB M hI hn (by rfl) (by kernel_rfl) ?_ ?_
 ·simp
 refine aCm (aES h a t (CQ t)) ?_ ?_
 ·refine aB M hI hn (by rfl) (by kernel_rfl) ?_ ?_
  ·simp
  refine aH (by rfl) (fun hc=>?_) (fun hc=>?_)
  ·have hcut:t.cut=true:=hc;refine aQ M hI hn (by rfl) (by kernel_rfl) ?_ ?_
   ·simp
   refine fun a' w hg=>⟨rfl,(hg.reset (kT:=[0,4,6,8]) (kO:=[px,0,2]) (by rfl) (by simp)).same ?_ ?_⟩
   ·refine .cons rfl (.cons rfl (.cons rfl (.cons ?_ .nil)));unfold CQ;rw[if_pos hcut]
   ·exact .cons (.box rfl) (.cons (.box rfl) (.cons (.box rfl) .nil))
  ·have hcut:t.cut=false:=hc;refine aO (fun a' w hg=>⟨rfl,(hg.reset (kT:=[0,4,6,8]) (kO:=[px,0,2]) (by rfl) (by simp)).same ?_ ?_⟩)
   ·refine .cons rfl (.cons rfl (.cons rfl (.cons ?_ .nil)));unfold CQ;rw[if_neg (by rw[hcut];exact Bool.false_ne_true)]
   ·exact .cons (.box rfl) (.cons (.box rfl) (.cons (.box rfl) .nil))
 have hfs:=bK h.f;refine aB M hI hn (by rfl) (by kernel_rfl) ?_ ?_
 ·simp
  exact⟨hc.ok.sz,hc.ok.nf⟩
 refine aP ?_;refine aB M hI hn (by rfl) (by kernel_rfl) ?_ ?_
 ·simp
 rw[hfs]
 have hw:wQ h.f a.cell a.bytes=0:=by unfold wQ;rw[hc.has,if_pos rfl,if_pos hs]
 rw[hw];refine aH (by rfl) (fun hc=>?_) (fun hc=>?_)
 ·refine aQ M hI hn (by rfl) (by kernel_rfl) ?_ ?_
  ·simp
  change ja _ _ _ _ _;refine aB M hI hn (by rfl) (by kernel_rfl) ?_ ?_
  ·simp
  refine aK (fun a w hg=>⟨.inr rfl,_,⟨?_,(fun o ho=>by obtain rfl:=List.mem_singleton.1 ho;exact⟨_,rfl,dX rfl⟩),fun p hp=>(by cases hp)⟩,hg⟩);refine aC (by rfl) (by simp) (by rfl) (by rfl) ?_;rfl
 ·cases hc
def G9:List PV->Option (Acc×lu)
 |[.w (.agg [.lit (.int .i64 k),.lit (.int .i64 b),.lit (.int .i64 c),.lit (.string s)]),.w (.agg [.lit (.bool cut),.lit (.int .i64 fb),.lit (.bool nz)])]=>some (⟨k,b,c,s⟩,⟨cut,fb,nz⟩)
 |_=>none
theorem aPu{ys:List PV}{a:Acc}{t:lu}(h:G9 ys=some (a,t)):ys=[.w (.agg (tN a)),.w (.agg (oL t))]:=by
 unfold G9 at h
 split at h
 ·cases h;rfl
 ·cases h
def bGm:List PC->List PV->Option (Prop×List PC×PV):=fun l ys=>match Ag l,G9 ys with
 |some (p,h),some (a,t)=>some (p/\a.bytes=aS/\BF h a.ay a.cell,m_ h,.lw [.agg (mG ⟨fV (dI h.b a.ay a.cell) t.iw,aS⟩),.one (.lit (.int .i64 0))])
 |_,_=>none
def ND:List PC->List PV->Option (Prop×List PC×PV):=fun l ys=>match Ag l,G9 ys with
 |some (p,h),some (a,t)=>some (p/\a.bytes=aS/\BF h a.ay a.cell,m_ { h with b:=ru h.b a.ay a.cell t.cut },.lw [.agg (mG kP),.one (.lit (.int .i64 0))])
 |_,_=>none
def N_:List PC->List PV->Option (Prop×List PC×PV):=fun l ys=>match Ag l,G9 ys with
 |some (p,h),some (a,_)=>some (p/\a.ay=0/\a.bytes=aS/\BJ h a.cell,m_ h,.lw [.agg (mG ⟨0,strOf (sec h.f a.cell)⟩),.one (.lit (.int .i64 0))])
 |_,_=>none
def X8:List PC->List PV->Option (Prop×List PC×PV):=fun l ys=>match Ag l,G9 ys with
 |some (p,h),some (a,t)=>some (p/\a.bytes.size=256/\BJ h a.cell,m_ { h with f:=iQ h.f a.cell a.bytes (CQ t) },.lw [.agg (mG kP),.one (.lit (.int .i64 0))])
 |_,_=>none
theorem aZm:aj Tryz.prog a_ 122 (wW 65 bGm):=by
 refine zJ (aF Tryz.func122 (by kernel_rfl) rfl) (fun l ys p l' r hg hp=>?_);unfold bGm at hg
 cases hq:Ag l with
 |none=>rw[hq] at hg;cases hg
 | some q=>
  cases hy:G9 ys with
  |none=>rw[hq,hy] at hg;cases hg
  |some y=>
   obtain⟨p0,h⟩:=q;obtain⟨⟨k,b,c,s⟩,t⟩:=y;rw[hq,hy] at hg;cases hg;obtain⟨h0,h2,h3⟩:=hp;have h2':s=aS:=h2;subst h2';rw[aPu hy];exact (bGl h k b c t h3).Eu (fun C xs hr=>xX hq h0 hr)
theorem bGn:aj Tryz.prog a_ 124 (wW 65 ND):=by
 refine zJ (aF Tryz.func124 (by kernel_rfl) rfl) (fun l ys p l' r hg hp=>?_);unfold ND at hg
 cases hq:Ag l with
 |none=>rw[hq] at hg;cases hg
 | some q=>
  cases hy:G9 ys with
  |none=>rw[hq,hy] at hg;cases hg
  |some y=>
   obtain⟨p0,h⟩:=q;obtain⟨⟨k,b,c,s⟩,t⟩:=y;rw[hq,hy] at hg;cases hg;obtain⟨h0,h2,h3⟩:=hp;have h2':s=aS:=h2;subst h2';rw[aPu hy];exact (NC h k b c t h3).Eu (fun C xs hr=>xX hq h0 hr)
theorem bGk:aj Tryz.prog a_ 127 (wW 65 N_):=by
 refine zJ (aF Tryz.func127 (by kernel_rfl) rfl) (fun l ys p l' r hg hp=>?_);unfold N_ at hg
 cases hq:Ag l with
 |none=>rw[hq] at hg;cases hg
 | some q=>
  cases hy:G9 ys with
  |none=>rw[hq,hy] at hg;cases hg
  |some y=>
   obtain⟨p0,h⟩:=q;obtain⟨⟨k,b,c,s⟩,t⟩:=y;rw[hq,hy] at hg;cases hg;obtain⟨h0,h1,h2,h3⟩:=hp;have h1':b=0:=h1;have h2':s=aS:=h2;subst h1' h2';rw[aPu hy];exact (N9 h k c t h3).Eu (fun C xs hr=>xX hq h0 hr)
theorem Me:aj Tryz.prog a_ 130 (wW 65 X8):=by
 refine zJ (aF Tryz.func130 (by kernel_rfl) rfl) (fun l ys p l' r hg hp=>?_);unfold X8 at hg
 cases hq:Ag l with
 |none=>rw[hq] at hg;cases hg
 | some q=>
  cases hy:G9 ys with
  |none=>rw[hq,hy] at hg;cases hg
  |some y=>
   obtain⟨p0,h⟩:=q;obtain⟨⟨k,b,c,s⟩,t⟩:=y;rw[hq,hy] at hg;cases hg;obtain⟨h0,h2,h3⟩:=hp;rw[aPu hy];exact (Rw h ⟨k,b,c,s⟩ t h3 h2).Eu (fun C xs hr=>xX hq h0 hr)
def O_:List PC:=[.lit .nilFunc,.lit .nilFunc,.lit (.func (.func 121) #[] #[]),.lit (.func (.func 122) #[] #[]),.lit (.func (.func 121) #[] #[]),.lit (.func (.func 124) #[] #[]),
 .lit (.func (.func 126) #[] #[]),.lit (.func (.func 127) #[] #[]),.lit (.func (.func 129) #[] #[]),.lit (.func (.func 130) #[] #[])]
theorem O9:gQ Tryz.prog a_ 94 true [] (.w (.agg O_)):=by
 intro w ok0 vs hI hv
 match vs,hv with
 |[],_=>
  refine (aQw w).mono ?_;rintro e w' ⟨rfl,hE⟩
  refine⟨_,rfl,hE,.w (.agg ?_)⟩
  exact .cons (xs:=[_]) (.lit rfl) (.cons (xs:=[_]) (.lit rfl) (.cons (xs:=[_]) (.lit rfl) (.cons (xs:=[_]) (.lit rfl) (.cons (xs:=[_]) (.lit rfl) (.cons (xs:=[_]) (.lit rfl) (.cons (xs:=[_]) (.lit rfl) (.cons (xs:=[_]) (.lit rfl) (.cons (xs:=[_]) (.lit rfl) (.cons (xs:=[_]) (.lit rfl) .nil)))))))))
def OA:List PV->Option (Prop×PV)
 |[]=>some (True,.w (.agg O_))
 |_=>none
theorem bId:aj Tryz.prog a_ 94 (bD true OA):=by
 refine bC (aF Tryz.func94 (by kernel_rfl) rfl) (fun xs p r hg hp=>?_);unfold OA at hg
 split at hg
 ·cases hg;exact O9
 ·cases hg
def ddL:List (Nat×Spec):=[(94,bD true OA),(121,bD true VP),(122,wW 65 bGm),(124,wW 65 ND),
 (126,bD true VO),(127,wW 65 N_),(129,bD true VN),(130,wW 65 X8)]
theorem aEU:∀ p∈ddL,aj Tryz.prog a_ p.1 p.2:=by
 intro p hp;simp only[ddL,List.mem_cons,List.not_mem_nil,or_false] at hp;rcases hp with rfl|rfl|rfl|rfl|rfl|rfl|rfl|rfl
 ·exact bId
 ·exact JW
 ·exact aZm
 ·exact bGn
 ·exact JV
 ·exact bGk
 ·exact JU
 ·exact Me
theorem ddM:lm Tryz.prog a_ (find ddL):=⟨bV aEU,fK⟩
def Fb(x:j_×je×Int):PV:=.lw [.agg (m_ x.1),.agg (mG x.2.1),.one (.lit (.int .i64 x.2.2))]
def SA(_ h':j_)(_:Acc)(t:lu)(r:je):St:=⟨[(5,none,dn (.pt 2 0 0)),(6,none,dn (.pt 3 0 0)),(7,none,dn (.pt 4 0 0)),(10,none,dn (.pt 4001 0 0)),(11,none,dn (.pt 5011 0 0)),(12,none,iy 0)],[(2,none,0,.box 104 (oL t)),(3,none,0,.box 65 [.lit (.slice none 0 0),.lit (.slice none 0 0),.bs 16 (List.replicate 16 0)]),(4,none,0,.box 35 (mG kP)),(4001,none,0,.box 65 (m_ h')),(5011,none,0,.box 35 (mG r))]⟩
theorem S_(h:j_)(b c:Int)(t:lu)(hc0:BF h b c)  : gQ Tryz.prog a_ 66 false [.w (.agg (m_ h)),.w (.agg (tN (xq 1 b c))),.w (.agg (oL t))] (Fb (fJ h (xq 1 b c) t)):=by
 have M:=ddM;have hdv:=aTh (t:=t) (show (xq 1 b c).kind=1 from rfl) rfl hc0.ex;rw[hdv];refine bM Tryz.func66 rfl rfl bU (fun A hS hn hI=>?_);refine aB M hI hn (by rfl) (by kernel_rfl) ?_ ?_
 ·simp
 refine aB M hI hn (by rfl) (by kernel_rfl) ?_ ?_
 ·simp
 refine aP ?_;refine aB M hI hn (by rfl) (by kernel_rfl) ?_ ?_
 ·simp
  exact⟨fun _ _=>⟨(by decide:(0:Int)<=1),(by decide:(1:Int)<5)⟩,fun _ _=>rfl⟩
 refine aH (by rfl) (fun hc=>?_) (fun hc=>?_)
 ·simp[xq] at hc
 refine aO ?_;change ja _ _ _ _ _;refine aB M hI hn (by rfl) (by kernel_rfl) ?_ ?_
 ·simp
 refine aB M hI hn (by rfl) (by kernel_rfl) ?_ ?_
 ·simp
  exact⟨⟨(by decide:(0:Int)<=1),(by decide:(1:Int)<5)⟩,rfl,hc0⟩
 refine aI (s':=SA h h (xq 1 b c) t ⟨fV (dI h.b b c) t.iw,aS⟩) (fun a w hg=>(hg.reset (kT:=[5,6,7,10,11,12]) (kO:=[2,3,4,4001,5011]) (by rfl) (by simp)).same ?_ ?_) ?_
 ·exact .cons rfl (.cons rfl (.cons rfl (.cons rfl (.cons rfl (.cons rfl .nil)))))
 ·refine .cons (.box rfl) (.cons (.box rfl) (.cons (.box rfl) (.cons (.box ?_) (.cons (.box ?_) .nil))))
  ·change m_ ⟨bF h.b.length (bJ h.b),iP h.f.length (r_ h.f),h.r⟩=_;rw[aG,bK]
  ·change mG ⟨fV (dI (bF h.b.length (bJ h.b)) b c) t.iw,aS⟩=_
   first|rw[aG]|rw[bK]|rfl
 refine aP ?_;refine aB M hI hn (by rfl) (by kernel_rfl) ?_ ?_
 ·simp
 refine aH (by rfl) (fun hc=>?_) (fun hc=>?_)
 ·cases hc
 refine aO ?_;change ja _ _ _ _ _;refine aP ?_;refine aB M hI hn (by rfl) (by kernel_rfl) ?_ ?_
 ·simp
 refine aH (by rfl) (fun hc=>?_) (fun hc=>?_)
 ·have hcut:t.cut=true:=hc;refine aQ M hI hn (by rfl) (by kernel_rfl) ?_ ?_
  ·simp
  change ja _ _ _ _ _;refine aB M hI hn (by rfl) (by kernel_rfl) ?_ ?_
  ·simp
  refine aK (fun a w hg=>⟨.inr rfl,_,?_,hg⟩);refine aC (by rfl) (by simp) (by rfl) (by rfl) ?_
  try rw[hcut]
  rfl
 ·have hcut:t.cut=false:=hc;refine aO ?_;change ja _ _ _ _ _;refine aB M hI hn (by rfl) (by kernel_rfl) ?_ ?_
  ·simp
  refine aK (fun a w hg=>⟨.inr rfl,_,?_,hg⟩);refine aC (by rfl) (by simp) (by rfl) (by rfl) ?_
  try rw[hcut]
  rfl
theorem S9(h:j_)(b c:Int)(t:lu)(hc0:BF h b c)  : gQ Tryz.prog a_ 66 false [.w (.agg (m_ h)),.w (.agg (tN (xq 2 b c))),.w (.agg (oL t))] (Fb (fJ h (xq 2 b c) t)):=by
 have M:=ddM;have hdv:=aTg (t:=t) (show (xq 2 b c).kind=2 from rfl) rfl hc0.ex;rw[hdv];refine bM Tryz.func66 rfl rfl bU (fun A hS hn hI=>?_);refine aB M hI hn (by rfl) (by kernel_rfl) ?_ ?_
 ·simp
 refine aB M hI hn (by rfl) (by kernel_rfl) ?_ ?_
 ·simp
 refine aP ?_;refine aB M hI hn (by rfl) (by kernel_rfl) ?_ ?_
 ·simp
  exact⟨fun _ _=>⟨(by decide:(0:Int)<=2),(by decide:(2:Int)<5)⟩,fun _ _=>rfl⟩
 refine aH (by rfl) (fun hc=>?_) (fun hc=>?_)
 ·simp[xq] at hc
 refine aO ?_;change ja _ _ _ _ _;refine aB M hI hn (by rfl) (by kernel_rfl) ?_ ?_
 ·simp
 refine aB M hI hn (by rfl) (by kernel_rfl) ?_ ?_
 ·simp
  exact⟨⟨(by decide:(0:Int)<=2),(by decide:(2:Int)<5)⟩,rfl,hc0⟩
 refine aI (s':=SA h ⟨ru h.b b c t.cut,h.f,h.r⟩ (xq 2 b c) t kP) (fun a w hg=>(hg.reset (kT:=[5,6,7,10,11,12]) (kO:=[2,3,4,4001,5011]) (by rfl) (by simp)).same ?_ ?_) ?_
 ·exact .cons rfl (.cons rfl (.cons rfl (.cons rfl (.cons rfl (.cons rfl .nil)))))
 ·refine .cons (.box rfl) (.cons (.box rfl) (.cons (.box rfl) (.cons (.box ?_) (.cons (.box ?_) .nil))))
  ·change m_ ⟨ru (bF h.b.length (bJ h.b)) b c t.cut,iP h.f.length (r_ h.f),h.r⟩=_;rw[aG,bK]
  ·change mG kP=_
   first|rw[aG]|rw[bK]|rfl
 refine aP ?_;refine aB M hI hn (by rfl) (by kernel_rfl) ?_ ?_
 ·simp
 refine aH (by rfl) (fun hc=>?_) (fun hc=>?_)
 ·cases hc
 refine aO ?_;change ja _ _ _ _ _;refine aP ?_;refine aB M hI hn (by rfl) (by kernel_rfl) ?_ ?_
 ·simp
 refine aH (by rfl) (fun hc=>?_) (fun hc=>?_)
 ·have hcut:t.cut=true:=hc;refine aQ M hI hn (by rfl) (by kernel_rfl) ?_ ?_
  ·simp
  change ja _ _ _ _ _;refine aB M hI hn (by rfl) (by kernel_rfl) ?_ ?_
  ·simp
  refine aK (fun a w hg=>⟨.inr rfl,_,?_,hg⟩);refine aC (by rfl) (by simp) (by rfl) (by rfl) ?_
  try rw[hcut]
  rfl
 ·have hcut:t.cut=false:=hc;refine aO ?_;change ja _ _ _ _ _;refine aB M hI hn (by rfl) (by kernel_rfl) ?_ ?_
  ·simp
  refine aK (fun a w hg=>⟨.inr rfl,_,?_,hg⟩);refine aC (by rfl) (by simp) (by rfl) (by rfl) ?_
  try rw[hcut]
  rfl
theorem Rz(h:j_)(c:Int)(t:lu)(hc0:BJ h c)  : gQ Tryz.prog a_ 66 false [.w (.agg (m_ h)),.w (.agg (tN (xq 3 0 c))),.w (.agg (oL t))] (Fb (fJ h (xq 3 0 c) t)):=by
 have M:=ddM;have hdv:=aFy (t:=t) (show (xq 3 0 c).kind=3 from rfl) ⟨rfl,rfl⟩ hc0.ex;rw[hdv];refine bM Tryz.func66 rfl rfl bU (fun A hS hn hI=>?_);refine aB M hI hn (by rfl) (by kernel_rfl) ?_ ?_
 ·simp
 refine aB M hI hn (by rfl) (by kernel_rfl) ?_ ?_
 ·simp
 refine aP ?_;refine aB M hI hn (by rfl) (by kernel_rfl) ?_ ?_
 ·simp
  exact⟨fun _ _=>⟨(by decide:(0:Int)<=3),(by decide:(3:Int)<5)⟩,fun _ _=>⟨rfl,rfl⟩⟩
 refine aH (by rfl) (fun hc=>?_) (fun hc=>?_)
 ·simp[xq] at hc
 refine aO ?_;change ja _ _ _ _ _;refine aB M hI hn (by rfl) (by kernel_rfl) ?_ ?_
 ·simp
 refine aB M hI hn (by rfl) (by kernel_rfl) ?_ ?_
 ·simp
  exact⟨⟨(by decide:(0:Int)<=3),(by decide:(3:Int)<5)⟩,rfl,rfl,hc0⟩
 refine aI (s':=SA h h (xq 3 0 c) t ⟨0,strOf (sec h.f c)⟩) (fun a w hg=>(hg.reset (kT:=[5,6,7,10,11,12]) (kO:=[2,3,4,4001,5011]) (by rfl) (by simp)).same ?_ ?_) ?_
 ·exact .cons rfl (.cons rfl (.cons rfl (.cons rfl (.cons rfl (.cons rfl .nil)))))
 ·refine .cons (.box rfl) (.cons (.box rfl) (.cons (.box rfl) (.cons (.box ?_) (.cons (.box ?_) .nil))))
  ·change m_ ⟨bF h.b.length (bJ h.b),iP h.f.length (r_ h.f),h.r⟩=_;rw[aG,bK]
  ·change mG ⟨0,strOf (sec (iP h.f.length (r_ h.f)) c)⟩=_
   first|rw[aG]|rw[bK]|rfl
 refine aP ?_;refine aB M hI hn (by rfl) (by kernel_rfl) ?_ ?_
 ·simp
 refine aH (by rfl) (fun hc=>?_) (fun hc=>?_)
 ·cases hc
 refine aO ?_;change ja _ _ _ _ _;refine aP ?_;refine aB M hI hn (by rfl) (by kernel_rfl) ?_ ?_
 ·simp
 refine aH (by rfl) (fun hc=>?_) (fun hc=>?_)
 ·have hcut:t.cut=true:=hc;refine aQ M hI hn (by rfl) (by kernel_rfl) ?_ ?_
  ·simp
  change ja _ _ _ _ _;refine aB M hI hn (by rfl) (by kernel_rfl) ?_ ?_
  ·simp
  refine aK (fun a w hg=>⟨.inr rfl,_,?_,hg⟩);refine aC (by rfl) (by simp) (by rfl) (by rfl) ?_
  try rw[hcut]
  rfl
 ·have hcut:t.cut=false:=hc;refine aO ?_;change ja _ _ _ _ _;refine aB M hI hn (by rfl) (by kernel_rfl) ?_ ?_
  ·simp
  refine aK (fun a w hg=>⟨.inr rfl,_,?_,hg⟩);refine aC (by rfl) (by simp) (by rfl) (by rfl) ?_
  try rw[hcut]
  rfl
theorem Ry(h:j_)(c:Int)(x:ByteArray)(t:lu)(hc0:BJ h c)(hs:x.size=256):gQ Tryz.prog a_ 66 false [.w (.agg (m_ h)),.w (.agg (tN (⟨4,0,c,x⟩:Acc))),.w (.agg (oL t))] (Fb (fJ h (⟨4,0,c,x⟩:Acc) t)):=by
 have M:=ddM;have hdv:=aFx (h:=h) (a:=⟨4,0,c,x⟩) (t:=t) rfl rfl hc0.ex hs;rw[hdv];refine bM Tryz.func66 rfl rfl bU (fun A hS hn hI=>?_);refine aB M hI hn (by rfl) (by kernel_rfl) ?_ ?_
 ·simp
 refine aB M hI hn (by rfl) (by kernel_rfl) ?_ ?_
 ·simp
 refine aP ?_;refine aB M hI hn (by rfl) (by kernel_rfl) ?_ ?_
 ·simp
  done
 refine aH (by rfl) (fun hc=>?_) (fun hc=>?_)
 ·simp[] at hc
 refine aO ?_;change ja _ _ _ _ _;refine aB M hI hn (by rfl) (by kernel_rfl) ?_ ?_
 ·simp
 refine aB M hI hn (by rfl) (by kernel_rfl) ?_ ?_
 ·simp
  exact⟨hs,hc0⟩
 refine aI (s':=SA h ⟨h.b,iQ h.f c x (CQ t),h.r⟩ (⟨4,0,c,x⟩:Acc) t kP) (fun a w hg=>(hg.reset (kT:=[5,6,7,10,11,12]) (kO:=[2,3,4,4001,5011]) (by rfl) (by simp)).same ?_ ?_) ?_
 ·exact .cons rfl (.cons rfl (.cons rfl (.cons rfl (.cons rfl (.cons rfl .nil)))))
 ·refine .cons (.box rfl) (.cons (.box rfl) (.cons (.box rfl) (.cons (.box ?_) (.cons (.box ?_) .nil))))
  ·change m_ ⟨bF h.b.length (bJ h.b),iQ (iP h.f.length (r_ h.f)) c x (CQ t),h.r⟩=_;rw[aG,bK]
  ·change mG kP=_
   first|rw[aG]|rw[bK]|rfl
 refine aP ?_;refine aB M hI hn (by rfl) (by kernel_rfl) ?_ ?_
 ·simp
 refine aH (by rfl) (fun hc=>?_) (fun hc=>?_)
 ·cases hc
 refine aO ?_;change ja _ _ _ _ _;refine aP ?_;refine aB M hI hn (by rfl) (by kernel_rfl) ?_ ?_
 ·simp
 refine aH (by rfl) (fun hc=>?_) (fun hc=>?_)
 ·have hcut:t.cut=true:=hc;refine aQ M hI hn (by rfl) (by kernel_rfl) ?_ ?_
  ·simp
  change ja _ _ _ _ _;refine aB M hI hn (by rfl) (by kernel_rfl) ?_ ?_
  ·simp
  refine aK (fun a w hg=>⟨.inr rfl,_,?_,hg⟩);refine aC (by rfl) (by simp) (by rfl) (by rfl) ?_
  try rw[hcut]
  rfl
 ·have hcut:t.cut=false:=hc;refine aO ?_;change ja _ _ _ _ _;refine aB M hI hn (by rfl) (by kernel_rfl) ?_ ?_
  ·simp
  refine aK (fun a w hg=>⟨.inr rfl,_,?_,hg⟩);refine aC (by rfl) (by simp) (by rfl) (by rfl) ?_
  try rw[hcut]
  rfl
structure Dx(h:j_)(a:Acc):Prop where
 dim:o6 h
 good:yJ a
theorem Rx{h:j_}{a:Acc}(g:Dx h a)(t:lu):gQ Tryz.prog a_ 66 false [.w (.agg (m_ h)),.w (.agg (tN a)),.w (.agg (oL t))] (Fb (fJ h a t)):=by
 obtain⟨k,b,c,s⟩:=a;obtain⟨d,g⟩:=g;have hf:=d.f;rcases g with⟨hk,hb,hc,hs⟩|⟨⟨hk,hs⟩|⟨hk,hs⟩,hb,hc⟩
 ·have hx:=d.ex hb hc;dsimp only at hk hb hc hs hx;subst hs;rcases hk with rfl|rfl
  ·exact S_ h b c t ⟨d.ok,hb,hx⟩
  ·exact S9 h b c t ⟨d.ok,hb,hx⟩
 ·dsimp only at hk hb hc hs;subst hk hs hb;exact Rz h c t ⟨d.ok,hc.1,by omega⟩
 ·dsimp only at hk hb hc hs;subst hk hb;exact Ry h c s t ⟨d.ok,hc.1,by omega⟩ hs
def ddG:List PV->Option (Prop×PV)
 |.w (.agg l)::ys=>(match Ag l,G9 ys with
  |some (p,h),some (a,t)=>some (p/\Dx h a,Fb (fJ h a t))
  |_,_=>none)
 |_=>none
theorem NK:aj Tryz.prog a_ 66 (bD false ddG):=by
 refine bC (aF Tryz.func66 (by kernel_rfl) rfl) (fun xs p r hg hp=>?_);unfold ddG at hg
 split at hg
 ·rename_i l ys
  cases hq:Ag l with
  |none=>rw[hq] at hg;cases hg
  | some q=>
   cases hy:G9 ys with
   |none=>rw[hq,hy] at hg;cases hg
   | some y=>
    obtain⟨p0,h⟩:=q;obtain⟨a,t⟩:=y;rw[hq,hy] at hg;cases hg;rw[aPu hy]
    exact (Rx hp.2 t).args fun C vs hv=>by
     match vs,hv with
     | [x,y,z],⟨h0,h1,h2,_⟩=>
      refine⟨?_,h1,h2,trivial⟩
      cases h0 with
      |w h3=>cases h3 with
       |agg h4=>exact .w (.agg (xX hq hp.1 h4))
 ·cases hg
def uw(F:List lu):Nat->List PC:=fun i=>oL (F.getD i tu)
def tH(F:List lu):PC:=.sl 3 F.length (uw F)
def cutV:Value:=.iface 139 (.agg #[])
def pO(F:List lu)(h h':j_)(i:Nat):List Ob:=[⟨900001,3,[.lit (.int .i64 i)],[.lit (.int .i64 ((i+1:Nat):Int))]⟩,⟨900002,68,[tH F],[tH F]⟩,⟨900003,65,m_ h,m_ h'⟩]
def XZ(x:j_×je×Int)(t:lu):Sum PV (List PanicEntry):=if t.cut then .inr [{ v:=cutV,recovered:=false }] else .inl (.w (.agg (mG x.2.1)))
def aCT:List (Nat×Spec):=[(66,bD false ddG)]
theorem Vp:∀ p∈aCT,aj Tryz.prog a_ p.1 p.2:=by
 intro p hp
 obtain rfl:=List.mem_singleton.1 hp
 exact NK
theorem aNC:lm Tryz.prog a_ (find aCT):=⟨bV Vp,fK⟩
def lvO(F:List lu)(h:j_)(i:Int)(a:Acc):Wr:=[(900001,none,0,.box 3 [.lit (.int .i64 i)]),(900002,none,0,.box 68 [tH F]),(900003,none,0,.box 65 (m_ h)),(0,none,0,.box 37 (tN a)),(1,none,0,.box 35 (mG kP))]
def lvT:List (Nat×Option Bool×PV):=[(1,none,dn (.pt 900001 0 0)),(2,none,dn (.pt 900002 0 0)),(3,none,dn (.pt 900003 0 0)),(4,none,dn (.pt 0 0 0)),(5,none,dn (.pt 1 0 0)),(6,none,dn (.pt 1000 0 0))]
def UD(F:List lu)(h:j_)(i:Int)(a:Acc)(t:lu):St:=⟨lvT,(1000,none,0,.box 104 (oL t))::lvO F h i a⟩
def aCW(F:List lu)(h h':j_)(i:Int)(a:Acc)(t:lu)(r:je):St:=⟨(7,none,dn (.pt 5008 0 0))::(8,none,dn (.pt 5009 0 0))::(9,none,iy 0)::lvT,(5008,none,0,.box 65 (m_ h'))::(5009,none,0,.box 35 (mG r))::(1000,none,0,.box 104 (oL t))::lvO F h i a⟩
def aCV(F:List lu)(h':j_)(i:Int)(a:Acc)(t:lu)(r:je):St:=⟨(8,none,dn (.pt 5009 0 0))::lvT,(5009,none,0,.box 35 (mG r))::(1000,none,0,.box 104 (oL t))::lvO F h' i a⟩
theorem La{h:j_}{a:Acc}(g:Dx h a)(t:lu):(fJ h a t).2.2=0:=by
 obtain⟨d,g⟩:=g;have hf:=d.f;rcases g with⟨hk|hk,hb,hc,hs⟩|⟨⟨hk,hs⟩|⟨hk,hs⟩,hb,hc⟩
 ·rw[aTh hk hs (d.ex hb hc)]
 ·rw[aTg hk hs (d.ex hb hc)]
 ·rw[aFy hk ⟨hs,hb⟩ ⟨hc.1,by omega⟩]
 ·rw[aFx hk hb ⟨hc.1,by omega⟩ hs]
theorem gm.forget{A:kz}{s:St}{a a':Act}{w:World}{env:Env}(h:gm A s a w env)(h1:a'.tmps.size=a.tmps.size)(h2:a'.defers=a.defers):gm A ⟨[],s.o⟩ a' w env:=
 { gu:=h.gu,size:=h1.trans h.size,dom:=h.dom,ji:=h.ji,live:=h.live,inj:=h.inj,tmps:=fun t g pv hf=>(by cases hf),defers:=h2.trans h.defers,und:=fun t pv hf=>(by cases hf),l_:=h.l_,dev:=h.dev }
theorem wp_cut(t1 t2:Nat)(ops:Array Oper)(p1 p2 p3:String)(f1 f2 f3:Array Edge)(hops:ops=#[{ dst:=some 33,op:=Op.build 139 #[],type:=139,pos:=p1,after:=f1,guard:=none },{ dst:=some 34,op:=Op.makeInterface 139 (Operand.tmp 33),type:=t1,pos:=p2,after:=f2,guard:=none },{ dst:=none,op:=Op.panic (Operand.tmp 34),type:=t2,pos:=p3,after:=f3,guard:=none }])
  {a:Act} {w:World} {Q:Exit->Act->World->Prop} (hsz:a.tmps.size=36) (hQ:∀ a',a'.tmps.size=a.tmps.size->a'.defers=a.defers->Q (.panic [{ v:=cutV,recovered:=false }]) a' w):(Code.region 9 ops false).wp Tryz.prog Q a w:=by
 subst hops;apply wp_region;simp[wpOps,go_sem,Region.wanted];refine .inl (.inl (.inl ?_));rw[if_pos (by omega),if_pos (by omega)];simp[Instr.panic];exact hQ _ (by simp) rfl
theorem aYr(F:List lu)(h:j_)(i:Nat)(c:Acc)(g:Dx h c)(hi:i<=1000000)(_:F.length<=1000000):aHT Tryz.prog a_ 65 (pO F h (fJ h c (eX F i)).1 i)
  [.w (.agg (tN c)),dn (.pt 900001 0 0),dn (.pt 900002 0 0),dn (.pt 900003 0 0)] (XZ (fJ h c (eX F i)) (eX F i)):=by
 have M:=aNC;have herr:=La g (eX F i);refine Rh Tryz.func65 rfl rfl rfl (fun A hn hI=>?_);refine aB M hI hn (by rfl) (by kernel_rfl) ?_ ?_
 ·simp
 refine aB M hI hn (by rfl) (by kernel_rfl) ?_ ?_
 ·simp
 refine aP ?_;refine aB M hI hn (by rfl) (by kernel_rfl) ?_ ?_
 ·simp
 refine aH (by rfl) (fun hc=>?_) (fun hc=>?_)
 ·have hlt:i<F.length:=by have:=of_decide_eq_true hc;omega
  refine aQ M hI hn (by rfl) (by kernel_rfl) ?_ ?_
  ·simp;exact hlt
  change ja _ _ _ _ _;refine aI (s':=UD F h (i:Int) c (eX F i)) (fun a w hg=>(hg.reset (kT:=[1,2,3,4,5,6]) (kO:=[1000,900001,900002,900003,0,1]) (by rfl) (by simp)).same ?_ ?_) ?_
  ·exact .cons rfl (.cons rfl (.cons rfl (.cons rfl (.cons rfl (.cons rfl .nil)))))
  ·exact .cons (.box rfl) (.cons (.box rfl) (.cons (.box rfl) (.cons (.box rfl) (.cons (.box rfl) (.cons (.box rfl) .nil)))))
  refine aB M hI hn (by rfl) (by kernel_rfl) ?_ ?_
  ·simp
  refine aB M hI hn (by rfl) (by kernel_rfl) ?_ ?_
  ·simp;exact g
  refine aI (s':=aCW F h (fJ h c (eX F i)).1 ((i+1:Nat):Int) c (eX F i) (fJ h c (eX F i)).2.1) (fun a w hg=>(hg.reset (kT:=[7,8,9,1,2,3,4,5,6]) (kO:=[5008,5009,1000,900001,900002,900003,0,1]) (by rfl) (by simp)).same ?_ ?_) ?_
  ·refine .cons rfl (.cons rfl (.cons ?_ (.cons rfl (.cons rfl (.cons rfl (.cons rfl (.cons rfl (.cons rfl .nil))))))));change iy (fJ ⟨bF h.b.length (bJ h.b),iP h.f.length (r_ h.f),h.r⟩ c (eX F i)).2.2=_;rw[aG,bK,herr]
  ·refine .cons (.box ?_) (.cons (.box ?_) (.cons (.box rfl) (.cons (.box ?_) (.cons (.box rfl) (.cons (.box rfl) (.cons (.box rfl) (.cons (.box rfl) .nil)))))))
   ·change m_ (fJ ⟨bF h.b.length (bJ h.b),iP h.f.length (r_ h.f),h.r⟩ c (eX F i)).1=_;rw[aG,bK]
   ·change mG (fJ ⟨bF h.b.length (bJ h.b),iP h.f.length (r_ h.f),h.r⟩ c (eX F i)).2.1=_;rw[aG,bK]
   ·rw[gU i (by omega)]
  generalize (fJ h c (eX F i)).1=h' at herr ⊢;refine aP ?_;refine aB M hI hn (by rfl) (by kernel_rfl) ?_ ?_
  ·simp
  refine aH (by rfl) (fun hc=>?_) (fun hc=>?_)
  ·refine aQ M hI hn (by rfl) (by kernel_rfl) ?_ ?_
   ·simp
   change ja _ _ _ _ _;refine aI (s':=aCV F h' ((i+1:Nat):Int) c (eX F i) (fJ h c (eX F i)).2.1) (fun a w hg=>(hg.reset (kT:=[8,1,2,3,4,5,6]) (kO:=[5009,1000,900001,900002,900003,0,1]) (by rfl) (by simp)).same ?_ ?_) ?_
   ·exact .cons rfl (.cons rfl (.cons rfl (.cons rfl (.cons rfl (.cons rfl (.cons rfl .nil))))))
   ·exact .cons (.box rfl) (.cons (.box rfl) (.cons (.box rfl) (.cons (.box rfl) (.cons (.box rfl) (.cons (.box rfl) (.cons (.box rfl) .nil))))))
   refine aP ?_;refine aB M hI hn (by rfl) (by kernel_rfl) ?_ ?_
   ·simp
   refine aH (by rfl) (fun hc=>?_) (fun hc=>?_)
   ·have hcut:(eX F i).cut=true:=hc;have he:XZ (fJ h c (eX F i)) (eX F i)=.inr [{ v:=cutV,recovered:=false }]:=if_pos hcut;intro a w hg AX;obtain⟨env,hE⟩:=hg;refine wp_cut _ _ _ _ _ _ _ _ _ rfl (by rw[hE.size,hn];rfl) (fun a' h1 h2=>?_)
    refine⟨h2.trans hE.defers,he,⟨[],_⟩,?_,env,hE.forget h1 h2⟩
    intro o ho;simp only[pO,List.mem_cons,List.not_mem_nil,or_false] at ho
    rcases ho with rfl|rfl|rfl<;>exact⟨_,rfl,dX rfl⟩
   ·have hcut:¬(eX F i).cut=true:=fun h5=>by
     have h6:(eX F i).cut=false:=hc;rw[h6] at h5;cases h5
    have he:XZ (fJ h c (eX F i)) (eX F i)=.inl (.w (.agg (mG (fJ h c (eX F i)).2.1))):=if_neg hcut;refine aO ?_;change ja _ _ _ _ _;refine aB M hI hn (by rfl) (by kernel_rfl) ?_ ?_
    ·simp
    refine aK (fun a w hg=>⟨.inr rfl,_,he,_,⟨?_,?_⟩,hg⟩)
    ·refine aC (by rfl) (by simp) (by rfl) (by rfl) ?_;rfl
    ·intro o ho;simp only[pO,List.mem_cons,List.not_mem_nil,or_false] at ho
     rcases ho with rfl|rfl|rfl<;>exact⟨_,rfl,dX rfl⟩
  ·cases hc
 ·have hge:F.length<=i:=by have:=of_decide_eq_false hc;omega
  have ht:eX F i=tu:=by
   unfold eX;rw[zG,List.getElem?_eq_none hge];rfl
  refine aO ?_;change ja _ _ _ _ _;refine aI (s':=UD F h (i:Int) c (eX F i)) (fun a w hg=>(hg.reset (kT:=[1,2,3,4,5,6]) (kO:=[1000,900001,900002,900003,0,1]) (by rfl) (by simp)).same ?_ ?_) ?_
  ·exact .cons rfl (.cons rfl (.cons rfl (.cons rfl (.cons rfl (.cons rfl .nil)))))
  ·exact .cons (.box (by rw[ht];rfl)) (.cons (.box rfl) (.cons (.box rfl) (.cons (.box rfl) (.cons (.box rfl) (.cons (.box rfl) .nil)))))
  refine aB M hI hn (by rfl) (by kernel_rfl) ?_ ?_
  ·simp
  refine aB M hI hn (by rfl) (by kernel_rfl) ?_ ?_
  ·simp;exact g
  refine aI (s':=aCW F h (fJ h c (eX F i)).1 ((i+1:Nat):Int) c (eX F i) (fJ h c (eX F i)).2.1) (fun a w hg=>(hg.reset (kT:=[7,8,9,1,2,3,4,5,6]) (kO:=[5008,5009,1000,900001,900002,900003,0,1]) (by rfl) (by simp)).same ?_ ?_) ?_
  ·refine .cons rfl (.cons rfl (.cons ?_ (.cons rfl (.cons rfl (.cons rfl (.cons rfl (.cons rfl (.cons rfl .nil))))))));change iy (fJ ⟨bF h.b.length (bJ h.b),iP h.f.length (r_ h.f),h.r⟩ c (eX F i)).2.2=_;rw[aG,bK,herr]
  ·refine .cons (.box ?_) (.cons (.box ?_) (.cons (.box rfl) (.cons (.box ?_) (.cons (.box rfl) (.cons (.box rfl) (.cons (.box rfl) (.cons (.box rfl) .nil)))))))
   ·change m_ (fJ ⟨bF h.b.length (bJ h.b),iP h.f.length (r_ h.f),h.r⟩ c (eX F i)).1=_;rw[aG,bK]
   ·change mG (fJ ⟨bF h.b.length (bJ h.b),iP h.f.length (r_ h.f),h.r⟩ c (eX F i)).2.1=_;rw[aG,bK]
   ·rw[gU i (by omega)]
  generalize (fJ h c (eX F i)).1=h' at herr ⊢;refine aP ?_;refine aB M hI hn (by rfl) (by kernel_rfl) ?_ ?_
  ·simp
  refine aH (by rfl) (fun hc=>?_) (fun hc=>?_)
  ·refine aQ M hI hn (by rfl) (by kernel_rfl) ?_ ?_
   ·simp
   change ja _ _ _ _ _;refine aI (s':=aCV F h' ((i+1:Nat):Int) c (eX F i) (fJ h c (eX F i)).2.1) (fun a w hg=>(hg.reset (kT:=[8,1,2,3,4,5,6]) (kO:=[5009,1000,900001,900002,900003,0,1]) (by rfl) (by simp)).same ?_ ?_) ?_
   ·exact .cons rfl (.cons rfl (.cons rfl (.cons rfl (.cons rfl (.cons rfl (.cons rfl .nil))))))
   ·exact .cons (.box rfl) (.cons (.box rfl) (.cons (.box rfl) (.cons (.box rfl) (.cons (.box rfl) (.cons (.box rfl) (.cons (.box rfl) .nil))))))
   refine aP ?_;refine aB M hI hn (by rfl) (by kernel_rfl) ?_ ?_
   ·simp
   refine aH (by rfl) (fun hc=>?_) (fun hc=>?_)
   ·have hcut:(eX F i).cut=true:=hc;have he:XZ (fJ h c (eX F i)) (eX F i)=.inr [{ v:=cutV,recovered:=false }]:=if_pos hcut;intro a w hg AX;obtain⟨env,hE⟩:=hg;refine wp_cut _ _ _ _ _ _ _ _ _ rfl (by rw[hE.size,hn];rfl) (fun a' h1 h2=>?_)
    refine⟨h2.trans hE.defers,he,⟨[],_⟩,?_,env,hE.forget h1 h2⟩
    intro o ho;simp only[pO,List.mem_cons,List.not_mem_nil,or_false] at ho
    rcases ho with rfl|rfl|rfl<;>exact⟨_,rfl,dX rfl⟩
   ·have hcut:¬(eX F i).cut=true:=fun h5=>by
     have h6:(eX F i).cut=false:=hc;rw[h6] at h5;cases h5
    have he:XZ (fJ h c (eX F i)) (eX F i)=.inl (.w (.agg (mG (fJ h c (eX F i)).2.1))):=if_neg hcut;refine aO ?_;change ja _ _ _ _ _;refine aB M hI hn (by rfl) (by kernel_rfl) ?_ ?_
    ·simp
    refine aK (fun a w hg=>⟨.inr rfl,_,he,_,⟨?_,?_⟩,hg⟩)
    ·refine aC (by rfl) (by simp) (by rfl) (by rfl) ?_;rfl
    ·intro o ho;simp only[pO,List.mem_cons,List.not_mem_nil,or_false] at ho
     rcases ho with rfl|rfl|rfl<;>exact⟨_,rfl,dX rfl⟩
  ·cases hc
end Pv
end Go.Proofs.YtndpjopifkbgiaaGreatDoor
