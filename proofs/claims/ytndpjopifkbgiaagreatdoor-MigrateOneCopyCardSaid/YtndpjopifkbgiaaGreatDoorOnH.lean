/-
  Several texts in one file.
-/
import Derived.Test.YtndpjopifkbgiaaGreatDoorOnG
import Derived.Test.YtndpjopifkbgiaaGreatDoorOnF
import Derived.Test.YtndpjopifkbgiaaGreatDoorOnB
import Derived.Test.YtndpjopifkbgiaaGreatDoorProg
import Derived.Deep.RegionLaw
import Derived.Test.YtndpjopifkbgiaaGreatDoorOnD
import Derived.Test.YtndpjopifkbgiaaGreatDoorOnA
import Derived.Test.YtndpjopifkbgiaaGreatDoorOnE
set_option maxRecDepth 100000
set_option maxHeartbeats 4000000
namespace Go.Proofs.YtndpjopifkbgiaaGreatDoor
open Go.RowKit Tryz
open _root_.List renaming getElem?_cons_succ->Ya,cons_append->yz,nil_append->Ha,append_nil->Lt,getElem?_append_left->YW,length_replicate->Z_,map_cons->DD,length_append->gp,not_mem_nil->YP,getElem?_append_right->Ye,mem_cons->zg,flatMap_cons->ZQ,range->AC,mem_cons_of_mem->VM,mem_cons_self->MM,getElem?_map->XN,getElem?_eq_none->YQ,length_cons->zl,drop->Z5,zipWith->Z7,getElem?_take->x8,drop_eq_getElem_cons->aBD,eq_of_mem_replicate->aGs,length_zipWith->aAF,take_length->Zc,getElem_mem->ZN,length_nil->Yg,foldl_cons->aAK,map_take->aAU,getElem?_replicate->aAG,map_congr_left->aFJ,getElem?_range->Zb,ext_getElem?->YZ,length_take->xe,length_drop->YO,length_map->YU,drop_zero->Yh
open _root_.UInt8 renaming ofNat->uB,toNat_ofNat'->aGA
open _root_.Go.IntKind renaming wrap_i64->TC,i64->aAY,u8->ry
open _root_.Nat renaming le_of_ble_eq_true->Yp,le_refl->dC,mod_eq_of_lt->Yq,le_succ->aAm,zero_add->ik,beq->bu,le_trans->PP,xor->ZW,sub_self->Yf,shiftRight->aGy,shiftLeft_eq->aDq,zero_le->xn,blt->Hm,lt_or_eq_of_le->aAX,beq_refl->aCg
open _root_.UInt32 renaming toNat->Za,ofNat->Yl,toNat_shiftRight->aGB,toNat_shiftLeft->aGC
open _root_.Go.Value renaming int->ed
open _root_.Array renaming length_toList->uA
open _root_.Int renaming toNat_natCast->WF,tmod_eq_emod_of_nonneg->aCo,le_refl->aCp
open _root_.Bool renaming and_eq_true->ww,or_eq_true->aAR
open _root_.Go renaming World->ae,Value->ag,maxLen->uk
namespace Pv
def Oj:jy:={ BG 0 1 with payload:=strOf [115,116,97,116,101] }
theorem Y8(k:Nat)(a:Int):vk (BG k a):=⟨rfl,rfl,rfl,rfl,by show ja 0;unfold ja;omega,by show ja 0;unfold ja;omega,by show ja 0;unfold ja;omega,by show aG.size<=10000;decide,by show aG.size<=2000;decide⟩
theorem Jo:vk Oj:=⟨rfl,rfl,rfl,rfl,by show ja 0;unfold ja;omega,by show ja 0;unfold ja;omega,by show ja 0;unfold ja;omega,g_,by show aG.size<=2000;decide⟩
theorem aQc(root:dh)(h:root.length=16):qc (D5 root):=by refine⟨⟨by show (Jy 4).length<=1000;decide,?_,?_,?_,?_,h⟩,by show 3<(Jy 4).length;decide,by show ((Jy 4).getD 2 []).length=48;decide,by show ((Jy 4).getD 3 []).length=48;decide,by show 64<=D7.length;unfold D7;rw[Z_];decide⟩;intro l b;have:∀ l∈Jy 4,l.length<=100000:=g_;exact this l b;intro l b x a;have:∀ l∈Jy 4,∀ x∈l,0<=x/\x<=3:=g_;exact this l b x a;show D7.length<=1000000;unfold D7;rw[Z_];decide;intro x a;have:x=strOf ED:=aGs a;rw[this,aW];show ED.length<=1000000;unfold ED;rw[Z_];decide
abbrev QS:=Option kz×jd×Nat
def Gs(q:QS):Bool:=bif !q.1.isSome then true else !((aP q.1).err==0)
def E8(q:QS)(a n2:jd)(k:Nat):jd:=match k with
 |0=>q.2.1|1=>a|_=>n2
def bIy(k:Nat)(a:Bool):dw:=match k with
 |0=>[.lit (.slice none 0 0),.ow 1000 0 1 0 3,.lit (.slice none 0 0),.lit (.slice none 0 0),.ow 1001 0 1 0 3,.lit (.bool a)]|k=>[.ow 12007 0 18 0 k,.ow 1000 0 1 0 3,.lit (.slice none 0 0),.lit (.slice none 0 0),.ow 1001 0 1 0 3,.lit (.bool a)]
def Xu(H:Nat->jd):Nat->dw:=fun i=>p_ (H i)
def flE(f:Fl):dw:=[.sl 1 f.length (uo f)]
def bgP(H:Nat->jd)(k i:Nat):dw:=match Hm i k with
 |true=>[.sl 1 1 (fun j=>[flE (H i).f].getD (0+j) [])]|false=>[.lit (.slice none 0 0)]
def Xl:Nat->dw:=fun _=>[.lit (.slice none 0 0)]
def bgT(k:Nat):List (Nat×mi×PV):=[(1,none,dm (.pt 1003 0 0)),(2,none,iy k)]
def bgN(k:Nat):Nat:=match k with
 |0=>13016|1=>13017|_=>13018
def E5(k i:Nat):dw:=match Hm i k with
 |true=>[.ow (bgN i) 0 1 0 1]|false=>[.lit (.slice none 0 0)]
def bgV(k i:Nat):dw:=match bu i k with
 |true=>[.ow 13015 0 1 0 1]|false=>E5 k i
def bgF(h:jd):Nat->dw:=fun j=>[flE h.f].getD j []
def Dt(H:Nat->jd)(k:Nat):Nat×mi×Nat×lu:=(bgN k,none,0,.arr 63 1 1 (bgF (H k)))
def Xm(k x:Nat):Nat:=match bu x 13015 with
 |true=>bgN k|false=>x
def bgO(H:Nat->jd)(k:Nat)(a:Bool):Wr:=match k with
 |0=>[(1003,none,0,.box 57 (bIy 0 a)),(1000,none,0,.arr 100 1 3 (E5 0)),(1001,none,0,.arr 101 1 3 Xl)]|1=>[(1003,none,0,.box 57 (bIy 1 a)),(12007,none,0,.arr 65 18 1 (Xu H)),(1000,none,0,.arr 100 1 3 (E5 1)),(1001,none,0,.arr 101 1 3 Xl),Dt H 0]|2=>[(1003,none,0,.box 57 (bIy 2 a)),(12007,none,0,.arr 65 18 2 (Xu H)),(1000,none,0,.arr 100 1 3 (E5 2)),(1001,none,0,.arr 101 1 3 Xl),Dt H 0,Dt H 1]|k=>[(1003,none,0,.box 57 (bIy k a)),(12007,none,0,.arr 65 18 k (Xu H)),(1000,none,0,.arr 100 1 3 (E5 k)),(1001,none,0,.arr 101 1 3 Xl),Dt H 0,Dt H 1,Dt H 2]
def TV(q:QS):Nat->Bool
 |0=>false|_=>Gs q
def aEZ(q:QS)(a n2:jd)(k:Nat):St:=⟨bgT k,bgO (E8 q a n2) k (TV q k)⟩
def TU(q:QS)(b n2 h:jd)(k:Nat)(a:Bool):St:=⟨(3,none,dm (.pt 5008 0 0))::bgT k,(5008,none,0,.box 65 (p_ h))::bgO (E8 q b n2) k a⟩
def bgL:List (Nat×Spec):=[(14,aU true G6),(33,aLp KH),(15,aU false Zy)]
theorem aEY:∀ p∈bgL,d_ prog af p.1 p.2:=by intro p a;simp only[bgL,zg,YP,or_false] at a;rcases a with rfl|rfl|rfl;exact aDb;exact bEz;exact aAa
theorem bgM:jq prog af (find bgL):=⟨bG aEY,dV⟩
theorem ca{n:Nat}{f:Nat->dw}(h:∀ i,i<n->∀ x∈f i,aY false x=true):∀ i,i<n->(f i).all (aY false)=true:=fun i a=>List.all_eq_true.2 (h i a)
theorem ES{i:Nat}(h:i<3):i=0\/i=1\/i=2:=a_
theorem aAh(h:jd):∀ x∈p_ h,aY false x=true:=by
 intro x a;simp only[p_,zg,YP,or_false] at a
 rcases a with rfl|rfl|rfl<;>rfl
theorem eP(H:Nat->jd)(n:Nat):∀ i,i<n->∀ x∈Xu H i,aY false x=true:=fun i _=>aAh (H i)
theorem OO(H:Nat->jd)(k n:Nat):∀ i,i<n->∀ x∈bgP H k i,aY false x=true:=fun i _=>by unfold bgP;cases Hm i k;exact wK rfl;exact wK rfl
theorem aXp(n:Nat):∀ i,i<n->∀ x∈E5 0 i,aY false x=true:=fun i _=>by unfold E5;have:Hm i 0=false:=rfl;rw[this];exact wK rfl
theorem xx(h:jd):∀ i,i<1->(bgF h i).all (aY false)=true:=fun i a=>by obtain rfl:i=0:=a_;rfl
theorem iJ(n:Nat):∀ i,i<n->∀ x∈Xl i,aY false x=true:=fun _ _=>wK rfl
theorem aMk:(∀ i,i<4->∀ x∈([(PW.one (PC.lit (ed aAY 16))).cells,(PW.one (PC.lit (ed aAY 16))).cells,(PW.one (PC.lit (ed aAY 16))).cells,(PW.one (PC.lit (ed aAY 16))).cells][i]?.getD []),aY false x=true) /\
  ∀ i,i<4->[(PW.one (PC.lit (ed aAY 16))).cells,(PW.one (PC.lit (ed aAY 16))).cells,(PW.one (PC.lit (ed aAY 16))).cells,(PW.one (PC.lit (ed aAY 16))).cells][i]?.getD []=GU i:=by
 refine⟨fun i a=>?_,fun i a=>?_⟩
 ·have:i=0\/i=1\/i=2\/i=3:=a_
  rcases this with rfl|rfl|rfl|rfl<;>exact wK rfl
 ·have:i=0\/i=1\/i=2\/i=3:=a_
  rcases this with rfl|rfl|rfl|rfl<;>rfl
def OM(q:QS)(a n2 h:jd)(k:Nat):St:=⟨(3,none,dm (.pt 5008 0 0))::bgT k,[(5008,none,0,.box 65 (p_ h)),(1003,none,0,.box 57 (bIy (k+1) (Gs q))),(12007,none,0,.arr 65 18 (k+1) (Xu (E8 q a n2))),(1000,none,0,.arr 100 1 3 (E5 k)),(1001,none,0,.arr 101 1 3 Xl)]++(match k with|0=>[]|1=>[Dt (E8 q a n2) 0]|_=>[Dt (E8 q a n2) 0,Dt (E8 q a n2) 1])⟩
def aNM(q:QS)(a n2 h:jd):St:=⟨(6,none,dm (.pt 9008 0 0))::(7,none,dm (.pt 9009 0 0))::(9,none,rf q.1.isSome)::(3,none,dm (.pt 5008 0 0))::bgT 0,
 (9008,none,0,.box 65 (p_ q.2.1))::(9009,none,0,.box 40 (j_ (aP q.1)))::(5008,none,0,.box 65 (p_ h))::bgO (E8 q a n2) 0 false⟩
def ER(H:Nat->jd)(a:Bool):dw:=[.sl 18 3 (fun i=>Xu H (0+i)),.sl 1 3 (fun i=>bgP H 3 (0+i)),.lit (.slice none 0 0),.lit (.slice none 0 0),.sl 1 3 (fun i=>Xl (0+i)),.lit (.bool a)]
theorem bIx(q:QS)(n0 j n2:jd)(B:D5 (bT 0)=n0)(e1:D5 (bT 1)=j)(e2:D5 (bT 2)=n2)(eq:cZ [] (bU Oj) n0 0=q){A:lh}(hS:A.S=Non)(hn:A.nt=Tryz.f12.ntmps)(hI:jo prog af A):∃ c,Tryz.f12.body=some c/\∀ Q:Exit->Act->ae->Prop,(∀ a w,oq A ⟨[(0,none,dm (.pt 1003 0 0))],bgO (E8 q j n2) 3 (Gs q)⟩ a w->Q .ret a w)->jw prog A ⟨[],[]⟩ c Q:=by
 have M:=bgM;have s:prog.types[100].size=1:=ah;have p:prog.types[101].size=1:=ah;have y:prog.types[100].bytes=24:=ah;have u:prog.types[101].bytes=24:=ah;have F:prog.types[65].bytes<=1000:=Yp ah;have l:prog.types[65].size=18:=ah;have G:prog.types[63].bytes<=1000:=Yp ah;have o:prog.types[63].size=1:=ah;have E:qc n0:=by rw[<-B];exact aQc _ rfl
 refine⟨_,rfl,fun Q C=>?_⟩;refine bY ?_ ?_;simp;rw[y,u];omega;refine lM ?_;refine bF (s':=aEZ q j n2 0) (fun a w g=>(g.reset (kT:=[1,2]) (kO:=[1003,1000,1001]) ai (by simp;exact fun _ _=>rfl)).same ?_ ?_) ?_;exact jg;refine .cons (.box ?_) ((fD _));rw[s,p];rfl;refine aS ?_;refine fJ 3 (fun k t=>t=aEZ q j n2 k) 0 rfl a_ (fun k t D H=>?_);subst D;have z:k=0\/k=1\/k=2\/k=3:=a_;rcases z with rfl|rfl|rfl|rfl
 ·refine bC (fun h=>?_) (fun h=>?_);rotate_left 1;cases h;refine jM ?_;refine aS ?_;refine aH ?_ ?_;simp;exact aMk
  refine bF (s':=TU q j n2 n0 0 (TV q 0)) (fun a w g=>(g.ul (R:=[(1000,E5 0)]) (kF:=[]) (kT:=[3,1,2]) (kO:=[5008,1003,1000,1001]) (.inl rfl) ai (by simp only[Lt,Ha,yz,All,and_true];exact⟨(fun i d=>by rcases ES d with rfl|rfl|rfl<;>rfl),ca (iJ _)⟩)).same ?_ ?_) ?_
  exact jg;refine .cons (.box ?_) ((fD _));rw[<-B];rfl;refine bC (fun h=>?_) (fun h=>?_);rotate_left 1;cases h;refine aN ?_;refine bY ?_ ?_;simp;exact⟨E,Jo⟩;refine bF (s':=aNM q j n2 n0) (fun a w g=>(g.reset (kT:=[6,7,9,3,1,2]) (kO:=[9008,9009,5008,1003,1000,1001]) ai (by simp;exact⟨aXp _,iJ _⟩)).same ?_ ?_) ?_;refine .cr (.cr (.cons ?_ ((iP _))));rw[<-eq];change rf (cZ [] (bU Oj) (⟨bW n0.b.length (dK n0.b),iG n0.f.length (uo n0.f),n0.r⟩:jd) 0).1.isSome=_;rw[aJ,aZ];refine .cons (.box ?_) (.cons (.box ?_) ((fD _)));rw[<-eq];change p_ (cZ [] (bU Oj) (⟨bW n0.b.length (dK n0.b),iG n0.f.length (uo n0.f),n0.r⟩:jd) 0).2.1=_;rw[aJ,aZ];rw[<-eq];change j_ (aP (cZ [] (bU Oj) (⟨bW n0.b.length (dK n0.b),iG n0.f.length (uo n0.f),n0.r⟩:jd) 0).1)=_;rw[aJ,aZ];refine aN ?_;refine oQ ?_;refine bF (s':=TU q j n2 q.2.1 0 (Gs q)) (fun a w g=>(g.reset (kT:=[3,1,2]) (kO:=[5008,1003,1000,1001]) ai (by simp;exact⟨aXp _,iJ _⟩)).same ?_ ?_) ?_;exact jg;exact BR;refine bF (fun a w g=>g.BV (x:=12007) (b:=1003) (e:=65) (n:=18) (l1:=[]) ai ai) ?_;refine aH ?_ ?_;simp;omega
  refine bF (s':=OM q j n2 q.2.1 0) (fun a w g=>(g.ul (R:=[(1000,E5 0)]) (kF:=[]) (kT:=[3,1,2]) (kO:=[5008,1003,12007,1000,1001]) (.inl rfl) ai (by simp only[Lt,Ha,yz,All,and_true];exact⟨ca (wC (fun i d=>absurd d (Nat.not_lt_zero _)) (aAh _)),(fun i d=>by rcases ES d with rfl|rfl|rfl<;>rfl),ca (iJ _)⟩)).same ?_ ?_) ?_
  exact jg;rw[l];refine .cb (.cb (.cons (.arr rfl (fun i d=>?_)) ((fD _))));have:i<0+1:=d;obtain rfl:i=0:=a_;rfl;refine aX M hI hn (ai) ah ?_ ?_;simp;omega;change jw _ _ _ _ _;refine fP ?_;rw[o];intro a w g;refine⟨0+1,_,a_,a_,rfl,((g.ul (R:=[(1000,bgV 0)]) (kF:=[]) (kT:=[1,2]) (kO:=[1003,12007,1000,1001,13015]) (.inl rfl) ai ?_).ren (m:=Xm 0) (R:=[(1000,E5 (0+1))]) hS ai ?_).same ?_ ?_⟩
  ·simp only[Lt,Ha,yz,All,and_true];refine⟨ca (eP _ _),fun i d=>?_,ca (iJ _),fun i d=>by obtain rfl:i=0:=a_;rfl⟩;have:i=0\/i=1\/i=2:=a_
   rcases this with rfl|rfl|rfl<;>rfl
  ·simp only[All,and_true];refine⟨ca (eP _ _),fun i d=>?_,ca (iJ _),fun i d=>by obtain rfl:i=0:=a_;rfl⟩;have:i=0\/i=1\/i=2:=a_
   rcases this with rfl|rfl|rfl<;>rfl
  exact jg;exact .cb (.cons (.arr rfl (fun i d=>rfl)) (.cons (.arr rfl (fun i d=>rfl)) (.cons (.arr rfl (fun i d=>rfl)) (.cons (.arr rfl (fun i d=>(by obtain rfl:i=0:=a_;rfl))) .nil))))
 ·refine bC (fun h=>?_) (fun h=>?_);rotate_left 1;cases h;refine jM ?_;refine aS ?_;refine aH ?_ ?_;simp;exact aMk
  refine bF (s':=TU q j n2 j 1 (TV q 1)) (fun a w g=>(g.ul (R:=[(1000,E5 1)]) (kF:=[]) (kT:=[3,1,2]) (kO:=[5008,1003,12007,1000,1001,13016]) (.inl rfl) ai (by simp only[Lt,Ha,yz,All,and_true];exact⟨ca (eP _ _),(fun i d=>by rcases ES d with rfl|rfl|rfl<;>rfl),ca (iJ _),xx _⟩)).same ?_ ?_) ?_
  exact jg;refine .cons (.box ?_) ((fD _));rw[<-e1];rfl;refine bC (fun h=>?_) (fun h=>?_);cases h;rotate_left 1;refine qM ?_ ?_;simp;omega
  refine bF (s':=OM q j n2 j 1) (fun a w g=>(g.ul (R:=[(1000,E5 1)]) (kF:=[]) (kT:=[3,1,2]) (kO:=[5008,1003,12007,1000,1001,13016]) (.inl rfl) ai (by simp only[Lt,Ha,yz,All,and_true];exact⟨ca (wC (eP _ _) (aAh _)),(fun i d=>by rcases ES d with rfl|rfl|rfl<;>rfl),ca (iJ _),xx _⟩)).same ?_ ?_) ?_
  exact jg
  ·rw[l];refine .cb (.cb (.cons (.arr rfl (fun i d=>?_)) ((fD _))));have:i<1+1:=d
   (have:i=0\/i=1:=by omega);rcases this with rfl|rfl<;>rfl
  refine aX M hI hn (ai) ah ?_ ?_;simp;omega;change jw _ _ _ _ _;refine fP ?_;rw[o];intro a w g;refine⟨1+1,_,a_,a_,rfl,((g.ul (R:=[(1000,bgV 1)]) (kF:=[]) (kT:=[1,2]) (kO:=[1003,12007,1000,1001,13016,13015]) (.inl rfl) ai ?_).ren (m:=Xm 1) (R:=[(1000,E5 (1+1))]) hS ai ?_).same ?_ ?_⟩
  ·simp only[Lt,Ha,yz,All,and_true];refine⟨ca (eP _ _),fun i d=>?_,ca (iJ _),xx _,fun i d=>by obtain rfl:i=0:=a_;rfl⟩;have:i=0\/i=1\/i=2:=a_
   rcases this with rfl|rfl|rfl<;>rfl
  ·simp only[All,and_true];refine⟨ca (eP _ _),fun i d=>?_,ca (iJ _),xx _,fun i d=>by obtain rfl:i=0:=a_;rfl⟩;have:i=0\/i=1\/i=2:=a_
   rcases this with rfl|rfl|rfl<;>rfl
  exact jg;exact .cb (.cons (.arr rfl (fun i d=>rfl)) (.cons (.arr rfl (fun i d=>rfl)) (.cons (.arr rfl (fun i d=>rfl)) (.cons (.arr rfl (fun i d=>rfl)) (.cons (.arr rfl (fun i d=>(by obtain rfl:i=0:=a_;rfl))) .nil)))))
 ·refine bC (fun h=>?_) (fun h=>?_);rotate_left 1;cases h;refine jM ?_;refine aS ?_;refine aH ?_ ?_;simp;exact aMk
  refine bF (s':=TU q j n2 n2 2 (TV q 2)) (fun a w g=>(g.ul (R:=[(1000,E5 2)]) (kF:=[]) (kT:=[3,1,2]) (kO:=[5008,1003,12007,1000,1001,13016,13017]) (.inl rfl) ai (by simp only[Lt,Ha,yz,All,and_true];exact⟨ca (eP _ _),(fun i d=>by rcases ES d with rfl|rfl|rfl<;>rfl),ca (iJ _),xx _,xx _⟩)).same ?_ ?_) ?_
  exact jg;refine .cons (.box ?_) ((fD _));rw[<-e2];rfl;refine bC (fun h=>?_) (fun h=>?_);cases h;rotate_left 1;refine qM ?_ ?_;simp;omega
  refine bF (s':=OM q j n2 n2 2) (fun a w g=>(g.ul (R:=[(1000,E5 2)]) (kF:=[]) (kT:=[3,1,2]) (kO:=[5008,1003,12007,1000,1001,13016,13017]) (.inl rfl) ai (by simp only[Lt,Ha,yz,All,and_true];exact⟨ca (wC (eP _ _) (aAh _)),(fun i d=>by rcases ES d with rfl|rfl|rfl<;>rfl),ca (iJ _),xx _,xx _⟩)).same ?_ ?_) ?_
  exact jg
  ·rw[l];refine .cb (.cb (.cons (.arr rfl (fun i d=>?_)) ((fD _))));have:i<2+1:=d
   (have:i=0\/i=1\/i=2:=by omega);rcases this with rfl|rfl|rfl<;>rfl
  refine aX M hI hn (ai) ah ?_ ?_;simp;omega;change jw _ _ _ _ _;refine fP ?_;rw[o];intro a w g;refine⟨2+1,_,a_,a_,rfl,((g.ul (R:=[(1000,bgV 2)]) (kF:=[]) (kT:=[1,2]) (kO:=[1003,12007,1000,1001,13016,13017,13015]) (.inl rfl) ai ?_).ren (m:=Xm 2) (R:=[(1000,E5 (2+1))]) hS ai ?_).same ?_ ?_⟩
  ·simp only[Lt,Ha,yz,All,and_true];refine⟨ca (eP _ _),fun i d=>?_,ca (iJ _),xx _,xx _,fun i d=>by obtain rfl:i=0:=a_;rfl⟩;have:i=0\/i=1\/i=2:=a_
   rcases this with rfl|rfl|rfl<;>rfl
  ·simp only[All,and_true];refine⟨ca (eP _ _),fun i d=>?_,ca (iJ _),xx _,xx _,fun i d=>by obtain rfl:i=0:=a_;rfl⟩;have:i=0\/i=1\/i=2:=a_
   rcases this with rfl|rfl|rfl<;>rfl
  exact jg;exact .cb (.cons (.arr rfl (fun i d=>rfl)) (.cons (.arr rfl (fun i d=>rfl)) (.cons (.arr rfl (fun i d=>rfl)) (.cons (.arr rfl (fun i d=>rfl)) (.cons (.arr rfl (fun i d=>rfl)) (.cons (.arr rfl (fun i d=>(by obtain rfl:i=0:=a_;rfl))) .nil))))))
 ·refine bC (fun h=>?_) (fun h=>?_);cases h;refine dY ?_;change jw _ _ _ _ _;refine aN ?_
  refine bI (fun a w g=>C a w ((g.ul (R:=[(1000,E5 3)]) (kF:=[]) (kT:=[0]) (kO:=[1003,12007,1000,1001,13016,13017,13018]) (.inl rfl) ai (by simp only[Lt,Ha,yz,All,and_true];exact⟨ca (eP _ _),(fun i d=>by rcases ES d with rfl|rfl|rfl<;>rfl),ca (iJ _),xx _,xx _,xx _⟩)).same ?_ ?_))
  exact jg;exact BR
theorem Xj(q:QS)(n0 b n2:jd)(n:D5 (bT 0)=n0)(e1:D5 (bT 1)=b)(e2:D5 (bT 2)=n2)(eq:cZ [] (bU Oj) n0 0=q):aRj prog af 12 57 (ER (E8 q b n2) (Gs q)):=by
 have e:∃ c,Tryz.f12.body=some c:=⟨_,rfl⟩;obtain⟨c,g⟩:=e;refine bGs func12 g bJ (fun A f h m=>?_);obtain⟨o,d,l⟩:=bIx q n0 b n2 n e1 e2 eq f h m;obtain rfl:o=c:=Option.some.inj (d.symm.trans g)
 refine l _ (fun a w k=>⟨.inr rfl,_,1003,?_,?_,?_,?_,?_,rfl,?_,?_,((k.ul (R:=[(1000,bgP (E8 q b n2) 3)]) (kF:=[13016,13017,13018]) (kT:=[0]) (kO:=[1003,12007,1000,1001]) (.inr f) ai (by simp only[Lt,Ha,yz,All,and_true];exact⟨ca (eP _ _),(fun i j=>by rcases ES j with rfl|rfl|rfl<;>rfl),ca (iJ _),xx _,xx _,xx _⟩)).JI (kF:=[12007,1000,1001]) (kT:=[0]) (kO:=[1003]) (.inr f) ai ?_)⟩)
 rotate_left 1;rfl;simp;rfl;rfl;rfl;rfl;simp;exact⟨eP _ _,OO _ _ _,iJ _⟩
end Pv
structure Cc(w:ae)(bvs:ji)(EN:y5):Prop where
 len:bvs.length=EN.length
 each:∀ (k:Nat) (bv:ag) (l:List Int),bvs[k]?=some bv->EN[k]?=some l->Reads w 1 bv l.length (l.map (ed .u8))
structure u_(w:ae)(fv:ag)(EN:y5):Prop where
 ex:∃ bvs,Reads w 1 fv EN.length bvs/\Cc w bvs EN
theorem Cc.ext{w w':ae}{b:ji}{a:y5}(h:Cc w b a)(hc:Ext w w'):Cc w' b a:=⟨h.len,fun k e l d c=>(h.each k e l d c).ext hc⟩
theorem u_.ext{w w':ae}{c:ag}{a:y5}(h:u_ w c a)(hc:Ext w w'):u_ w' c a:=by obtain⟨b,e,d⟩:=h.ex;exact⟨b,e.ext hc,d.ext hc⟩
theorem u_.at_{w:ae}{e:ag}{a:y5}(h:u_ w e a){k:Nat}(d:k<a.length) :
  ∃ b o c f,e=.slice (some ⟨b,o,none⟩) a.length c/\b<w.heap.size/\w.cell? ⟨b,o+k,none⟩=some f/\Reads w 1 f a[k].length (a[k].map (ed .u8)):=by
 obtain⟨p,i,g⟩:=h.ex;obtain⟨b,o,c,u,n,_,_,m,l,j⟩:=i.GV d;exact⟨b,o,c,u,n,m,j,g.each k u a[k] l (zH d)⟩
theorem bAj(k:ag)(a:y5)(d cell:Nat)(w:ae)(h:u_ w k a)(hb:d<a.length)(hc:cell<a[d].length) :
  Calls prog 97 #[.agg #[k],.int .i64 (d:Int),.int .i64 (cell:Int)] w fun e l=>e=.returned (.bool true)/\Ext w l:=by
 obtain⟨b,o,c,s,rfl,n,i,j⟩:=h.at_ hb;have g:a.length<=uk:=by obtain⟨q,p,_⟩:=h.ex;exact p.AZ
 have f:=j.AZ;obtain⟨_,A,r,rfl,_⟩:=j;unfold uk at g f;generalize a[d].length=m at *;clear h
 go_enter func97,ntmps97
 go_wp2
 go_ret;refine⟨rfl,?_⟩
 all_goals exact DL
theorem aFy(E:ag)(a:y5)(d cell:Nat)(f:Bool)(w:ae)(h:u_ w E a)(hb:d<a.length)(hc:cell<a[d].length) :
  Calls prog 72 #[.agg #[E],.int .i64 (d:Int),.int .i64 (cell:Int),.bool f] w fun e H=>e=.returned (.tuple #[.int .i64 (dF a[d][cell] f),.int .i64 0])/\Ext w H:=by
 have O:=hide h;obtain⟨b,o,c,T,rfl,J,A,s⟩:=h.at_ hb;have y:a.length<=uk:=by obtain⟨N,j,_⟩:=h.ex;exact j.AZ
 have t:=s.AZ;obtain⟨U,Q,S,u,rfl,_,_,K,C,l⟩:=s.GV hc;rw[XN,zH hc] at C;cases C;unfold uk at y t;clear h
 have D:∀ x:Int,dF x f=if x=2 then 1 else if x=1 then (if f=true then 1 else 0) else 0:=by intro x;unfold dF;by_cases j:x=2<;>by_cases i:x=1<;>cases f<;>simp_all
 have q:=hide (D a[d][cell]);have P:=hide (bAj _ a d cell (w.alloc (.cells #[.slice (some ⟨b,o,none⟩) a.length c] 60)) ((aA O).ext (gu.alloc (Ext.refl _) _)) hb hc);clear D s;generalize a[d][cell]=x at *;have I:cell<a[d].length:=hc;clear hc;generalize a[d].length=m at *
 go_enter func72,ntmps72
 go_wp2_with fail
 refine (aA P).mono ?_;rintro e G ⟨rfl,n⟩;have z:=n.rules;simp only[World.size_alloc] at z;have r:=n.size';simp only[World.size_alloc] at r;have B:=hide n;clear n;have g:Hid (Ext w G):=hide ((gu.alloc (Ext.refl _) _).trans (aA B));by_cases i:x=2
 ·have F:(x==2)=true:=by simp[i]
  have k:=hide i;clear i
  go_wp2
  go_ret2
  exact⟨aCz (by rw[aA q,au (aA k)]),aA g⟩
 ·by_cases j:x=1
  ·have F:(x==2)=false:=by simp[i]
   have L:(x==1)=true:=by simp[j]
   have k:=hide i;have p:=hide j;clear i j;cases f with
   |true=>
    go_wp2
    go_ret2
    exact⟨aCz (by rw[aA q,ay (aA k),au (aA p)];rfl),aA g⟩
   |false=>
    go_wp2
    go_ret2
    exact⟨aCz (by rw[aA q,ay (aA k),au (aA p)];rfl),aA g⟩
  ·have F:(x==2)=false:=by simp[i]
   have L:(x==1)=false:=by simp[j]
   have k:=hide i;have p:=hide j;clear i j
   go_wp2
   go_ret2
   exact⟨aCz (by rw[aA q,ay (aA k),ay (aA p)]),aA g⟩
namespace Pv
theorem bAz{C:Ctx}{k:Nat}{g:Nat->dw}{m:ag}(h:R C (.sl 1 k g) [m])(p:∀ j,j<k->bGe (g j)=true):Reads C.w 1 m ((AC k).map fun j=>Bh (g j)).length (((AC k).map fun j=>Bh (g j)).map (ed .u8)):=by
 cases h with
 | sl f s q=>
  rename_i d
  have:d=((AC k).map fun j=>Bh (g j)).flatMap fun z=>[ed .u8 z]:=by
   refine aTu (fun z=>[ed .u8 z]) 1 _ d (fun a _=>rfl) (by simpa using f.1) (fun i o=>?_);have b:i<k:=by simpa using o
   have c:=q i b;rw[aLh (p i b)] at c;rw[List.getElem_map,List.getElem_range];generalize (d.drop (i*1)).take 1=r at c ⊢;cases c with
   |cons k1 c=>cases c;cases k1;rfl
  rw[YU,List.length_range]
  have e:(((AC k).map fun j=>Bh (g j)).map (ed .u8))=d:=by
   rw[this];generalize (AC k).map (fun j=>Bh (g j))=l
   induction l with
   |nil=>rfl|cons a l n=>rw[DD,ZQ,n];rfl
  rw[e];exact f
theorem MO{C:Ctx}{n:Nat}{f:Nat->dw}{q:ag}(h:R C (.sl 1 n f) [q])(u:pX n f):u_ C.w q (bW n f):=by
 cases h with
 | sl p z x=>
  rename_i d;refine⟨d,by rw[fQ];exact p,⟨by rw[fQ];simpa using p.1,fun k m l e b=>?_⟩⟩;have i:k<n:=by have:=(List.getElem?_eq_some_iff.1 b).1;rwa [fQ] at this
  have j:=x k i;have a:=u k i
  have s:(d.drop (k*1)).take 1=[m]:=by
   rw[Nat.mul_one];have o:k<d.length:=(List.getElem?_eq_some_iff.1 e).1;rw[aBD o];have:d[k]=m:=by rw[zH o] at e;exact Option.some.inj e
   rw[this];rfl
  rw[s] at j;have r:l=Ep (f k):=by unfold bW at b;rw[XN,Zb i] at b;exact (Option.some.inj b).symm
  rw[r];clear r b e s;generalize f k=c at j a ⊢;unfold bJv at a;split at a;rename_i t g;have y:R C.cold (.sl 1 t g) [m]:=by have:=j.single;exact this
  exact bAz (C:=C.cold) y a;exact a.elim

end Pv
theorem bBw(l:ag)(a:y5)(d:Nat)(w:ae)(h:u_ w l a)(hb:d<a.length) :
  Calls prog 71 #[.agg #[l],.int .i64 (d:Int)] w fun e m=>e=.returned (.int .i64 ((a[d].length / 3:Nat):Int))/\Ext w m:=by
 obtain⟨b,o,c,t,rfl,n,i,j⟩:=h.at_ hb;have g:a.length<=uk:=by obtain⟨p,k,_⟩:=h.ex;exact k.AZ
 have f:=j.AZ;unfold uk at g f;obtain⟨_,B,s,rfl,_,_,_⟩:=j;have k:decide ((a.length:Int)<=(d:Int))=false:=jr;have r:decide ((a.length)<=(d))=false:=jr;have q:(d:Int)<(a.length:Int):=a_;clear h
 go_enter func71,ntmps71
 go_wp2
 go_ret
 exact⟨uY a_,by
  all_goals exact DL
  ⟩
theorem aOg(O:ag)(a:y5)(b:Nat)(d:Bool)(w:ae)(h:u_ w O a)(hb:b<a.length)(hn:a[b].length<=100000) :
  Calls prog 42 #[.agg #[O],.int .i64 (b:Int),.bool d] w fun e W=>e=.returned (.int .i64 (kQ a[b] d))/\Ext w W:=by
 have C:=hide h;obtain⟨_,⟨_,A,c,rfl,_⟩,_⟩:=h.ex;clear h;have HN:=hide (rfl:a[b].length / 3=a[b].length / 3);generalize E:a[b].length / 3=m at HN;have a1:m<=100000:=a_;have U:=hide E
 go_enter func42,ntmps42
 go_wp2_with fail
 refine (bBw _ a b _ ((aA C).ext ((Ext.refl w).alloc _)) hb).mono ?_;rintro e V ⟨rfl,o⟩;rw[E];have l:=hide (And.intro ((f_.new w 60 #[.slice A a.length c]).ext o) (((Ext.refl w).alloc _).trans o));clear o E
 go_wp2
 go_loopw [8] (fun i wr=>∃ k:Nat,k<=m/\i=.int .i64 k/\Ext V wr/\vN a[b] d (m-k) k=kQ a[b] d) (fun i _=>m-(intOf i).toNat)
 case atStart=>exact⟨0,xn _,rfl,Ext.refl _,by rw[Nat.sub_zero,<-aA U];rfl⟩
 case round=>
  obtain⟨k,hk,rfl,o,N⟩:=hrel;have n:=hide (And.intro o N);clear o N;by_cases a2:k<m
  ·have t:=aA U;have H:3*k<a[b].length:=a_;have G:3*k+1<a[b].length:=a_;have F:3*k+2<a[b].length:=a_;have T:=hide (show iD a[b] d k=decide (2<=dF a[b][3*k] d+dF a[b][3*k+1] d+dF a[b][3*k+2] d) from by unfold iD;rw[getD_at H,getD_at G,getD_at F]);have S:=aFy (.slice A a.length c) a b (3*k) d;have Q:=aFy (.slice A a.length c) a b (3*k+1) d;have P:=aFy (.slice A a.length c) a b (3*k+2) d;have g0:=oM a[b][3*k] d;have g1:=oM a[b][3*k+1] d;have g2:=oM a[b][3*k+2] d;have C0:=hide fun w u=>S w u hb H;have C1:=hide fun w u=>Q w u hb G;have C2:=hide fun w u=>P w u hb F;generalize dF a[b][3*k] d=K at *;generalize dF a[b][3*k+1] d=J at *;generalize dF a[b][3*k+2] d=I at *;clear S Q P H G F t;obtain⟨s,q,p⟩:=((aA l).1.ext (aA n).1).En;have Z:IntKind.wrap .i64 (3*(k:Int))=((3*k:Nat):Int):=by rw[IntWalk.i64_in _ a_];omega
   go_wp2_with fail
   refine (aA C0 _ ((aA C).ext ((aA l).2.trans (aA n).1))).mono ?_;rintro e wa ⟨rfl,z⟩;have g:=hide ((aA n).1.trans z);clear z s q p;obtain⟨s,q,p⟩:=((aA l).1.ext (aA g)).En;have Y:IntKind.wrap .i64 (((3*k:Nat):Int)+1)=((3*k+1:Nat):Int):=by rw[IntWalk.i64_in _ a_];omega
   have X:IntKind.wrap .i64 (((3*k:Nat):Int)+2)=((3*k+2:Nat):Int):=by rw[IntWalk.i64_in _ a_];omega
   go_wp2_with fail
   refine (aA C1 _ ((aA C).ext ((aA l).2.trans (aA g)))).mono ?_;rintro e wb ⟨rfl,y⟩;have f:=hide ((aA g).trans y);clear y s q p g;obtain⟨s,q,p⟩:=((aA l).1.ext (aA f)).En
   go_wp2_with fail
   refine (aA C2 _ ((aA C).ext ((aA l).2.trans (aA f)))).mono ?_;rintro e wc ⟨rfl,x⟩;have B:=hide ((aA f).trans x);clear x s q p f Z Y X;by_cases L:K+J+I<2
   ·go_wp2
    go_ret;have hb:iD a[b] d k=false:=by rw[aA T];simpa using L
    have j:=(aA n).2;obtain⟨r,D⟩:∃ r,m-k=r+1:=⟨m-k-1,a_⟩;rw[D,aZw hb] at j;exact⟨uY (by rw[j]),(aA l).2.trans (aA B)⟩
   ·have a0:decide (K+J+I<2)=false:=by simpa using L
    have hb:Hid (iD a[b] d k=true):=hide (by rw[aA T];simp;omega)
    go_wp2
    go_roundw
    case rel=>have j:=(aA n).2;obtain⟨r,D⟩:∃ r,m-k=r+1:=⟨m-k-1,a_⟩;rw[D,aTl (aA hb)] at j;exact⟨k+1,a_,by go_num,aA B,by rw[show m-(k+1)=r from a_];exact j⟩
    case measure=>simp[intOf];omega
  ·obtain rfl:k=m:=a_
   go_wp2
   go_ret;have j:=(aA n).2;rw[Yf] at j
   exact⟨uY (by rw[<-j];rfl),(aA l).2.trans (aA n).1⟩
theorem bFy(f:ag)(a:y5)(b:Nat)(w:ae)(h:u_ w f a)(hb:b<a.length)(hn:a[b].length<=100000) :
  Calls prog 27 #[.agg #[f],.int .i64 (b:Int)] w fun e g=>e=.returned (.int .i64 (kQ a[b] false))/\Ext w g:=by
 have i:=hide h;obtain⟨_,⟨_,A,c,rfl,_⟩,_⟩:=h.ex;clear h
 go_enter func27,ntmps27
 go_wp2_with fail
 refine (aOg _ a b false _ ((aA i).ext ((Ext.refl w).alloc _)) hb hn).mono ?_;rintro e k ⟨rfl,d⟩;have j:=hide d;clear d
 go_wp2
 go_ret;exact⟨rfl,((Ext.refl w).alloc _).trans (aA j)⟩
namespace Pv
def aTn:jl->Option (Prop×PV)
 |[.w (.agg [.sl 1 n f]),.w (.one (.lit (.int .i64 3)))]=>some (pX n f/\3<n/\((bW n f).getD 3 []).length<=100000,iy (kQ ((bW n f).getD 3 []) false))|_=>none
theorem aTm:d_ prog af 27 (aU true aTn):=by
 refine aT (aB func27 ah rfl) (fun s p r a j w h g u i=>?_);unfold aTn at a;split at a;rename_i n f;cases a;obtain⟨o,m,c⟩:=j
 match g,i with
 | [v1,v2],⟨k1,k2,_⟩=>
  obtain rfl:=k2.h_;cases k1 with
  | w k1=>cases k1 with
   | @agg _ d k1=>
    obtain⟨d⟩:=d;dsimp only at k1;cases k1 with
    | cons q k1=>
     cases k1;cases q with
     |sl b1 b2 b3=>
      have k:=MO (.sl b1 b2 b3) o;have b:3<(bW n f).length:=by rw[fQ];exact m
      have e:(bW n f).getD 3 []=(bW n f)[3]:=by rw[zG,zH b];rfl
      rw[e] at c ⊢;refine (bFy _ (bW n f) 3 w k b c).mono ?_;rintro e t ⟨rfl,l⟩;exact⟨_,rfl,l,.w (.one (.lit rfl))⟩
 cases a
def U8:dh:=[115,116,97,116,101]
def Df(o:kz):jy:={ BG 0 5 with ot:=o.ot,ol:=o.ol }
def Be(o:kz):jy:={ BG 1 7 with xt:=o.xt,xl:=o.xl,bn:=o.bn,bc:=o.bc,bt:=o.bt }
def op0:jy:=⟨0,AO,AO,AO,aG,AO,0,AO,0,0,aG,AO⟩
theorem Xo(b:l9)(n:Nat):∀ i r,b.size-i=n->ByteArray.toList.loop b i r=r.reverse++b.data.toList.drop i:=by
 induction n with
 |zero=>intro i r h;rw[ByteArray.toList.loop,ay a_,List.drop_eq_nil_of_le (by show b.data.toList.length<=i;have:b.data.toList.length=b.size:=rfl;omega),Lt]| succ n c=>
  intro i r h;have a:i<b.data.toList.length:=by show i<b.size;omega
  rw[ByteArray.toList.loop,au a_,c (i+1) _ a_,List.reverse_cons,List.append_assoc,aBD a];congr 1
  show[b.get! i]++_=_
  have:b.get! i=b.data.toList[i]:=by show b.data[i]! = _;rw[getElem!_pos b.data i a,Array.getElem_toList]
  rw[this];rfl
theorem bJb(b:l9):b.toList=b.data.toList:=by unfold ByteArray.toList;rw[Xo b b.size 0 [] rfl];rfl
theorem aXr{h:jd}(d:qc h):(h.b[3]?.getD []).length<=100000:=by have:=d.l3;rw[zG] at this;omega
theorem Vm:vk op0:=⟨rfl,rfl,rfl,rfl,by show ja 0;unfold ja;omega,by show ja 0;unfold ja;omega,by show ja 0;unfold ja;omega,by show aG.size<=10000;decide,by show aG.size<=2000;decide⟩
def aLI(H:Nat->jd)(_ _ _ _ _ _ _ _:QS):St:=⟨[(1,none,dm (.pt 1000 0 0))],[(1000,none,0,.box 57 (ER H false))]⟩
def aLH(H:Nat->jd)(a _ _ _ _ _ _ _:QS):St:=⟨[(3,none,dm (.pt 2012 0 0)),(1,none,dm (.pt 1000 0 0))],[(2012,none,0,.box 40 (j_ (aP a.1))),(1000,none,0,.box 57 (ER H false))]⟩
def aLG(H:Nat->jd)(a _ _ _ _ _ _ _:QS):St:=⟨[(4,none,dm (.pt 3001 0 0)),(3,none,dm (.pt 2012 0 0)),(1,none,dm (.pt 1000 0 0))],[(3001,none,0,.box 31 (Ad (Df (aP a.1)))),(2012,none,0,.box 40 (j_ (aP a.1))),(1000,none,0,.box 57 (ER H false))]⟩
def aLF(H:Nat->jd)(b a _ _ _ _ _ _:QS):St:=⟨[(6,none,dm (.pt 5012 0 0)),(5,none,dm (.pt 5011 0 0)),(3,none,dm (.pt 2012 0 0)),(1,none,dm (.pt 1000 0 0))],[(5012,none,0,.box 40 (j_ (aP a.1))),(5011,none,0,.box 65 (p_ a.2.1)),(2012,none,0,.box 40 (j_ (aP b.1))),(1000,none,0,.box 57 (ER H false))]⟩
def aLE(H:Nat->jd)(c a b _ _ _ _ _:QS):St:=⟨[(8,none,dm (.pt 6007 0 0)),(6,none,dm (.pt 5012 0 0)),(5,none,dm (.pt 5011 0 0)),(3,none,dm (.pt 2012 0 0)),(1,none,dm (.pt 1000 0 0))],[(6007,none,0,.box 40 (j_ (aP b.1))),(5012,none,0,.box 40 (j_ (aP a.1))),(5011,none,0,.box 65 (p_ a.2.1)),(2012,none,0,.box 40 (j_ (aP c.1))),(1000,none,0,.box 57 (ER H false))]⟩
def aLD(H:Nat->jd)(c a b _ _ _ _ _:QS):St:=⟨[(9,none,dm (.pt 7001 0 0)),(8,none,dm (.pt 6007 0 0)),(6,none,dm (.pt 5012 0 0)),(5,none,dm (.pt 5011 0 0)),(3,none,dm (.pt 2012 0 0)),(1,none,dm (.pt 1000 0 0))],[(7001,none,0,.box 31 (Ad (Be (aP a.1)))),(6007,none,0,.box 40 (j_ (aP b.1))),(5012,none,0,.box 40 (j_ (aP a.1))),(5011,none,0,.box 65 (p_ a.2.1)),(2012,none,0,.box 40 (j_ (aP c.1))),(1000,none,0,.box 57 (ER H false))]⟩
def aLC(H:Nat->jd)(d a c b _ _ _ _:QS):St:=⟨[(11,none,dm (.pt 9012 0 0)),(10,none,dm (.pt 9011 0 0)),(9,none,dm (.pt 7001 0 0)),(8,none,dm (.pt 6007 0 0)),(6,none,dm (.pt 5012 0 0)),(5,none,dm (.pt 5011 0 0)),(3,none,dm (.pt 2012 0 0)),(1,none,dm (.pt 1000 0 0))],[(9012,none,0,.box 40 (j_ (aP b.1))),(9011,none,0,.box 65 (p_ b.2.1)),(7001,none,0,.box 31 (Ad (Be (aP a.1)))),(6007,none,0,.box 40 (j_ (aP c.1))),(5012,none,0,.box 40 (j_ (aP a.1))),(5011,none,0,.box 65 (p_ a.2.1)),(2012,none,0,.box 40 (j_ (aP d.1))),(1000,none,0,.box 57 (ER H false))]⟩
def aCJ(H:Nat->jd)(e b d a c _ _ _:QS):St:=⟨[(13,none,dm (.pt 10007 0 0)),(11,none,dm (.pt 9012 0 0)),(10,none,dm (.pt 9011 0 0)),(8,none,dm (.pt 6007 0 0)),(6,none,dm (.pt 5012 0 0)),(5,none,dm (.pt 5011 0 0)),(3,none,dm (.pt 2012 0 0)),(1,none,dm (.pt 1000 0 0))],[(10007,none,0,.box 40 (j_ (aP c.1))),(9012,none,0,.box 40 (j_ (aP a.1))),(9011,none,0,.box 65 (p_ a.2.1)),(6007,none,0,.box 40 (j_ (aP d.1))),(5012,none,0,.box 40 (j_ (aP b.1))),(5011,none,0,.box 65 (p_ b.2.1)),(2012,none,0,.box 40 (j_ (aP e.1))),(1000,none,0,.box 57 (ER H false))]⟩
def aCI(H:Nat->jd)(f c e b d a _ _:QS):St:=⟨[(15,none,dm (.pt 11007 0 0)),(14,none,dm (.pt 11006 0 0)),(13,none,dm (.pt 10007 0 0)),(11,none,dm (.pt 9012 0 0)),(10,none,dm (.pt 9011 0 0)),(8,none,dm (.pt 6007 0 0)),(6,none,dm (.pt 5012 0 0)),(5,none,dm (.pt 5011 0 0)),(3,none,dm (.pt 2012 0 0)),(1,none,dm (.pt 1000 0 0))],[(11007,none,0,.box 40 (j_ (aP a.1))),(11006,none,0,.box 65 (p_ a.2.1)),(10007,none,0,.box 40 (j_ (aP d.1))),(9012,none,0,.box 40 (j_ (aP b.1))),(9011,none,0,.box 65 (p_ b.2.1)),(6007,none,0,.box 40 (j_ (aP e.1))),(5012,none,0,.box 40 (j_ (aP c.1))),(5011,none,0,.box 65 (p_ c.2.1)),(2012,none,0,.box 40 (j_ (aP f.1))),(1000,none,0,.box 57 (ER H false))]⟩
def aCH(H:Nat->jd)(g b f a e d c _:QS):St:=⟨[(17,none,dm (.pt 12007 0 0)),(15,none,dm (.pt 11007 0 0)),(13,none,dm (.pt 10007 0 0)),(11,none,dm (.pt 9012 0 0)),(10,none,dm (.pt 9011 0 0)),(8,none,dm (.pt 6007 0 0)),(6,none,dm (.pt 5012 0 0)),(5,none,dm (.pt 5011 0 0)),(3,none,dm (.pt 2012 0 0)),(1,none,dm (.pt 1000 0 0))],[(12007,none,0,.box 40 (j_ (aP c.1))),(11007,none,0,.box 40 (j_ (aP d.1))),(10007,none,0,.box 40 (j_ (aP e.1))),(9012,none,0,.box 40 (j_ (aP a.1))),(9011,none,0,.box 65 (p_ a.2.1)),(6007,none,0,.box 40 (j_ (aP f.1))),(5012,none,0,.box 40 (j_ (aP b.1))),(5011,none,0,.box 65 (p_ b.2.1)),(2012,none,0,.box 40 (j_ (aP g.1))),(1000,none,0,.box 57 (ER H false))]⟩
def aCG(H:Nat->jd)(h b g a f e d c:QS):St:=⟨[(19,none,dm (.pt 13007 0 0)),(17,none,dm (.pt 12007 0 0)),(15,none,dm (.pt 11007 0 0)),(13,none,dm (.pt 10007 0 0)),(11,none,dm (.pt 9012 0 0)),(10,none,dm (.pt 9011 0 0)),(8,none,dm (.pt 6007 0 0)),(6,none,dm (.pt 5012 0 0)),(5,none,dm (.pt 5011 0 0)),(3,none,dm (.pt 2012 0 0)),(1,none,dm (.pt 1000 0 0))],[(13007,none,0,.box 40 (j_ (aP c.1))),(12007,none,0,.box 40 (j_ (aP d.1))),(11007,none,0,.box 40 (j_ (aP e.1))),(10007,none,0,.box 40 (j_ (aP f.1))),(9012,none,0,.box 40 (j_ (aP a.1))),(9011,none,0,.box 65 (p_ a.2.1)),(6007,none,0,.box 40 (j_ (aP g.1))),(5012,none,0,.box 40 (j_ (aP b.1))),(5011,none,0,.box 65 (p_ b.2.1)),(2012,none,0,.box 40 (j_ (aP h.1))),(1000,none,0,.box 57 (ER H false))]⟩
def aCF(H:Nat->jd)(g a _ b f e d c:QS):St:=⟨[(22,none,rf true),(19,none,dm (.pt 13007 0 0)),(17,none,dm (.pt 12007 0 0)),(15,none,dm (.pt 11007 0 0)),(13,none,dm (.pt 10007 0 0)),(11,none,dm (.pt 9012 0 0)),(10,none,dm (.pt 9011 0 0)),(8,none,dm (.pt 6007 0 0)),(6,none,dm (.pt 5012 0 0)),(5,none,dm (.pt 5011 0 0)),(3,none,dm (.pt 2012 0 0)),(1,none,dm (.pt 1000 0 0))],[(13007,none,0,.box 40 (j_ { aP c.1 with err:=14 })),(12007,none,0,.box 40 (j_ { aP d.1 with session:=1 })),(11007,none,0,.box 40 (j_ { aP e.1 with payload:=strOf U8,session:=0 })),(10007,none,0,.box 40 (j_ { aP f.1 with err:=21 })),(9012,none,0,.box 40 (j_ { aP b.1 with err:=0,payload:=strOf U8 })),(9011,none,0,.box 65 (p_ b.2.1)),(6007,none,0,.box 40 (j_ { aP a.1 with err:=0 })),(5012,none,0,.box 40 (j_ { aP a.1 with err:=0 })),(5011,none,0,.box 65 (p_ a.2.1)),(2012,none,0,.box 40 (j_ { aP g.1 with ot:=Cb 1,ol:=0 })),(1000,none,0,.box 57 (ER H false))]⟩
def saL(H:Nat->jd):List (Nat×Spec):=[(12,newSpec 57 (ER H false)),(14,aU true G6),(20,aU false aTi),(10,aU true KD),(27,aU true aTn),(26,aU true idG)]
theorem saM{H:Nat->jd}(hb:aRj prog af 12 57 (ER H false)):jq prog af (find (saL H)):=⟨bG (fun p a=>by
 simp only[saL,zg,YP,or_false] at a;rcases a with rfl|rfl|rfl|rfl|rfl|rfl;exact aZm (aB func12 ah rfl) hb;exact aDb;exact bFr;exact bEx;exact aTm
 exact bGg),dV⟩
theorem QA{H:Nat->jd}(hb:aRj prog af 12 57 (ER H false))(e a j c i d h g:QS)(z:EStateM.Result Acc Nat kz)
  (e1:cZ [] (bU (BG 1 4)) (H 1) 0=e) (e2:cZ [] (bU (Df (aP e.1))) (H 0) 0=a) (Y:cZ [] (bU (BG 0 6)) a.2.1 0=j) (I:cZ [] (bU (Be (aP a.1))) (H 1) 0=c)
  (X:cZ [] (bU (Be (aP a.1))) c.2.1 0=i) (G:cZ [] (bU (BG 1 2)) c.2.1 0=d) (W:cZ [] (bU (BG 1 2)) d.2.1 0=h) (V:cZ [] (bU (BG 0 2)) a.2.1 0=g) (U:(bU op0).run (replay []) 0=z)
  (d0:qc (H 0)) (J:qc (H 1)) (w:qc a.2.1) (u:qc c.2.1) (Z:qc d.2.1) (K:vk (Df (aP e.1))) (y:vk (Be (aP a.1)))
  (F:(aP e.1).ot=Cb 1/\(aP e.1).ol=0) (E:(aP a.1).err=0) (T:aP j.1=aP a.1) (D:(aP c.1).err=0/\(aP c.1).payload=strOf U8) (S:(aP i.1).err=21) (C:(aP d.1).payload=strOf U8/\(aP d.1).session=0) (Q:(aP h.1).session=1) (P:(aP g.1).err=14) (x:Xy z=true)
  (B:kQ (a.2.1.b.getD 3 []) false=2) (lb:kQ (c.2.1.b.getD 3 []) false=1):fF prog af 9 true [] (rf true):=by
 have M:=saM hb;have t:aP e.1={ aP e.1 with ot:=Cb 1,ol:=0 }:=by rw[<-F.1,<-F.2]
 have s:aP a.1={ aP a.1 with err:=0 }:=by rw[<-E]
 have q:aP j.1={ aP a.1 with err:=0 }:=by rw[T,<-E]
 have p:aP c.1={ aP c.1 with err:=0,payload:=strOf U8 }:=by rw[<-D.1,<-D.2]
 have o:aP i.1={ aP i.1 with err:=21 }:=by rw[<-S]
 have m:aP d.1={ aP d.1 with payload:=strOf U8,session:=0 }:=by rw[<-C.1,<-C.2]
 have l:aP h.1={ aP h.1 with session:=1 }:=by rw[<-Q]
 have k:aP g.1={ aP g.1 with err:=14 }:=by rw[<-P]
 refine bD func9 rfl rfl bJ (fun A hS N O=>?_);refine mQ ?_;refine bM (aLI H e a j c i d h g) ?_ ?_ ?_;exact .cr (.nil);refine .cb (.nil);refine aH ?_ ?_;simp;exact⟨J,Y8 1 4⟩;refine bM (aLH H e a j c i d h g) ?_ ?_ ?_;exact .cr (.cr (.nil));refine .cons (.box ?_) (.cb (.nil));rw[<-e1];change j_ (aP (cZ [] (bU (BG 1 4)) (⟨bW (H 1).b.length (dK (H 1).b),iG (H 1).f.length (uo (H 1).f),(H 1).r⟩:jd) 0).1)=_;rw[aJ,aZ];refine mQ ?_;refine bM (aLG H e a j c i d h g) ?_ ?_ ?_;exact .cr (.cr (.cr (.nil)));refine .cb (.cb (.cb (.nil)));refine aH ?_ ?_;simp;exact⟨d0,K⟩;refine bM (aLF H e a j c i d h g) ?_ ?_ ?_;exact .cr (.cr (.cr (.cr (.nil))));refine .cons (.box ?_) (.cons (.box ?_) (.cb (.cb (.nil))));rw[<-e2];change j_ (aP (cZ [] (bU (Df (aP e.1))) (⟨bW (H 0).b.length (dK (H 0).b),iG (H 0).f.length (uo (H 0).f),(H 0).r⟩:jd) 0).1)=_;rw[aJ,aZ];rw[<-e2];change p_ (cZ [] (bU (Df (aP e.1))) (⟨bW (H 0).b.length (dK (H 0).b),iG (H 0).f.length (uo (H 0).f),(H 0).r⟩:jd) 0).2.1=_;rw[aJ,aZ];refine aH ?_ ?_;simp;exact⟨w,Y8 0 6⟩;refine bM (aLE H e a j c i d h g) ?_ ?_ ?_;exact .cr (.cr (.cr (.cr (.cr (.nil)))));refine .cons (.box ?_) (.cb (.cb (.cb (.cb (.nil)))));rw[<-Y];change j_ (aP (cZ [] (bU (BG 0 6)) (⟨bW (a.2.1).b.length (dK (a.2.1).b),iG (a.2.1).f.length (uo (a.2.1).f),(a.2.1).r⟩:jd) 0).1)=_;rw[aJ,aZ];refine mQ ?_;refine bM (aLD H e a j c i d h g) ?_ ?_ ?_;exact .cr (.cr (.cr (.cr (.cr (.cr (.nil))))));refine .cb (.cb (.cb (.cb (.cb (.cb (.nil))))));refine aH ?_ ?_;simp;exact⟨J,y⟩;refine bM (aLC H e a j c i d h g) ?_ ?_ ?_;exact .cr (.cr (.cr (.cr (.cr (.cr (.cr (.cr (.nil))))))));refine .cons (.box ?_) (.cons (.box ?_) (.cb (.cb (.cb (.cb (.cb (.cb (.nil))))))));rw[<-I];change j_ (aP (cZ [] (bU (Be (aP a.1))) (⟨bW (H 1).b.length (dK (H 1).b),iG (H 1).f.length (uo (H 1).f),(H 1).r⟩:jd) 0).1)=_;rw[aJ,aZ];rw[<-I];change p_ (cZ [] (bU (Be (aP a.1))) (⟨bW (H 1).b.length (dK (H 1).b),iG (H 1).f.length (uo (H 1).f),(H 1).r⟩:jd) 0).2.1=_;rw[aJ,aZ];refine aH ?_ ?_;simp;exact⟨u,y⟩;refine bM (aCJ H e a j c i d h g) ?_ ?_ ?_;exact .cr (.cr (.cr (.cr (.cr (.cr (.cr (.cr (.nil))))))));refine .cons (.box ?_) (.cb (.cb (.cb (.cb (.cb (.cb (.cb (.nil))))))));rw[<-X];change j_ (aP (cZ [] (bU (Be (aP a.1))) (⟨bW (c.2.1).b.length (dK (c.2.1).b),iG (c.2.1).f.length (uo (c.2.1).f),(c.2.1).r⟩:jd) 0).1)=_;rw[aJ,aZ];refine aH ?_ ?_;simp;exact⟨u,Y8 1 2⟩;refine bM (aCI H e a j c i d h g) ?_ ?_ ?_;exact .cr (.cr (.cr (.cr (.cr (.cr (.cr (.cr (.cr (.cr (.nil))))))))));refine .cons (.box ?_) (.cons (.box ?_) (.cb (.cb (.cb (.cb (.cb (.cb (.cb (.cb (.nil))))))))));rw[<-G];change j_ (aP (cZ [] (bU (BG 1 2)) (⟨bW (c.2.1).b.length (dK (c.2.1).b),iG (c.2.1).f.length (uo (c.2.1).f),(c.2.1).r⟩:jd) 0).1)=_;rw[aJ,aZ];rw[<-G];change p_ (cZ [] (bU (BG 1 2)) (⟨bW (c.2.1).b.length (dK (c.2.1).b),iG (c.2.1).f.length (uo (c.2.1).f),(c.2.1).r⟩:jd) 0).2.1=_;rw[aJ,aZ];refine aH ?_ ?_;simp;exact⟨Z,Y8 1 2⟩;refine bM (aCH H e a j c i d h g) ?_ ?_ ?_;exact .cr (.cr (.cr (.cr (.cr (.cr (.cr (.cr (.cr (.cr (.nil))))))))));refine .cons (.box ?_) (.cb (.cb (.cb (.cb (.cb (.cb (.cb (.cb (.cb (.nil))))))))));rw[<-W];change j_ (aP (cZ [] (bU (BG 1 2)) (⟨bW (d.2.1).b.length (dK (d.2.1).b),iG (d.2.1).f.length (uo (d.2.1).f),(d.2.1).r⟩:jd) 0).1)=_;rw[aJ,aZ];refine aH ?_ ?_;simp;exact⟨w,Y8 0 2⟩;refine bM (aCG H e a j c i d h g) ?_ ?_ ?_;exact .cr (.cr (.cr (.cr (.cr (.cr (.cr (.cr (.cr (.cr (.cr (.nil)))))))))));refine .cons (.box ?_) (.cb (.cb (.cb (.cb (.cb (.cb (.cb (.cb (.cb (.cb (.nil)))))))))));rw[<-V];change j_ (aP (cZ [] (bU (BG 0 2)) (⟨bW (a.2.1).b.length (dK (a.2.1).b),iG (a.2.1).f.length (uo (a.2.1).f),(a.2.1).r⟩:jd) 0).1)=_;rw[aJ,aZ];refine aH ?_ ?_;simp;exact⟨Vm,by unfold bJu;simp⟩
 refine bM (aCF H e a j c i d h g) ?_ ?_ ?_;exact .cons (congrArg rf (by change Xy ((bU op0).run (replay []) 0)=true;rw[U];exact x)) (.cr (.cr (.cr (.cr (.cr (.cr (.cr (.cr (.cr (.cr (.cr (.nil))))))))))));refine .cons (.box ?_) (.cons (.box ?_) (.cons (.box ?_) (.cons (.box ?_) (.cons (.box ?_) (.cb (.cons (.box ?_) (.cons (.box ?_) (.cb (.cons (.box ?_) (.cb (.nil)))))))))));exact congrArg j_ k;exact congrArg j_ l;exact congrArg j_ m;exact congrArg j_ o;exact congrArg j_ p;exact congrArg j_ q;exact congrArg j_ s;exact congrArg j_ t;refine aRt M O N (outs:=?_) (s':=?_) ?_ ?_ ?_ ?_;rotate_left 2
 with_unfolding_all rfl
 kernel_rfl;simp[hP]
 exact⟨fun _=>⟨w.n,aXr w⟩,fun _ _=>⟨u.n,aXr u⟩⟩;refine bM (⟨[(0,none,rf true)],[]⟩) ?_ ?_ ?_;refine .cons (congrArg rf ?_) .nil;have L:(strOf U8).toList=[115,116,97,116,101]:=by rw[bJb];exact dI _
 rw[zG] at B lb;simp[L,B,lb];exact .nil;exact mP
def stB:l9:=strOf U8
theorem zL{m:jy}{h b:jd}{x:Except Int kz}(e:uf (lJ m) h=(x,b)):∃ n,cZ [] (bU m) h 0=(some (TQ kH x),b,n):=by obtain⟨n,a⟩:=aTy kH (lJ m) h 0;rw[e] at a;exact⟨n,a⟩
theorem rH{n:Nat}(hn:n<=16):(cl n).length=48:=by unfold cl;rw[gp,Z_,Z_];omega
theorem Xb{n:Nat}:∀ x∈cl n,0<=x/\x<=3:=by intro x a;rcases List.mem_append.1 a with a|a;rw[aGs a];omega;rw[aGs a];omega
theorem aDj{a b:Nat}{f:Fl}{r:dh}(h:a<=16)(hb:b<=16)(d:Sz f)(hr:r.length=16):qc (qi (cl a) (cl b) f r):=by
 have i:Gn=cl 0:=Xg;refine⟨⟨by show 4<=1000;decide,?_,?_,?_,?_,hr⟩,by show 3<4;decide,rH h,rH hb,by show 64<=f.length;rw[d.1];decide⟩;intro l g;have c:l∈[Gn,Gn,cl a,cl b]:=g;simp only[zg,YP,or_false,i] at c;rcases c with rfl|rfl|rfl|rfl;rw[rH a_];decide;rw[rH a_];decide;rw[rH h];decide;rw[rH hb];decide
 ·intro l g x e;have c:l∈[Gn,Gn,cl a,cl b]:=g;simp only[zg,YP,or_false,i] at c
  rcases c with rfl|rfl|rfl|rfl<;>exact Xb x e
 show f.length<=1000000;rw[d.1];decide;intro x e;rw[d.2 x e];decide
def TI:kz:={ ni with payload:=stB }
theorem bIz:∃ n a,cZ [] (bU Oj) (D5 (bT 0)) 0=(some TI,qi (cl 0) (cl 1) a (bT 0),n)/\DY a 1 (bT 0) (FZ 0 stB):=by obtain⟨n,b⟩:=zL (bAp (m:=Oj) (n:=0) (c2:=cl 0) (f:=D7) (q:=bT 0) rfl (by show (5:Nat)<=1000;decide) zT g_ g_ rfl);refine⟨n,_,b,?_⟩;exact aSv (root:=bT 0) zT g_ g_ (aDd (p:=stB) g_ (by show (5:Nat)<=1000;decide))
theorem aNj{r:l_}(a:r.ot=Cb 1):Tra (Be (gV (C9 7) r)) r.payload:=by refine⟨?_,?_,?_⟩;show (r.ot==Cb 1)=true;rw[a];exact beq_self_eq_true _;show opened (keyS (C9 7) r.ot r.ol) r.ol (strOf _) _=true;unfold opened;rw[dI];exact beq_self_eq_true _;show strOf (dW (keyS (C9 7) r.ot r.ol) r.ol (strOf (dW (keyS (C9 7) r.ot r.ol) r.ol r.payload.data.toList)).data.toList)=r.payload;rw[dI,aJr,qF]
theorem Ut:ja 0:=by unfold ja;omega
theorem Tc{r:l_}(b:r.ot.length=16)(a:ja r.ol)(c:r.payload.size<=1000):vk (Be (gV (C9 7) r)):=by refine⟨rfl,rfl,rfl,b,Ut,a,a,by show aG.size<=10000;decide,?_⟩;show (strOf (dW (keyS (C9 7) r.ot r.ol) r.ol r.payload.data.toList)).size<=2000;rw[aW,dA];have:r.payload.data.toList.length=r.payload.size:=uA;omega
theorem Q7{o:kz}(a:o.ot.length=16)(b:ja o.ol):vk (Df o):=⟨rfl,rfl,a,rfl,b,Ut,Ut,by show aG.size<=10000;decide,by show aG.size<=2000;decide⟩
theorem K_:Xy ((bU op0).run (replay []) 0)=true:=ah
def Jv:kz:={ ni with ot:=Cb 1,ol:=((0:Nat):Int) }
def Dc:l_:=Tu (Df Jv) 1 (FZ 0 stB)
structure V8(n:Nat)(fA fB:Fl):Prop where
 cr:cZ [] (bU Oj) (D5 (bT 0)) 0=(some TI,qi (cl 0) (cl 1) fA (bT 0),n)
 hA:DY fA 1 (bT 0) (FZ 0 stB)
 hB:DY fB 2 (bT 0) Dc
 snd:uf (lJ (Df Jv)) (qi (cl 0) (cl 1) fA (bT 0))=(.ok (gV (C9 7) Dc),qi (cl 0) (cl 2) fB (bT 0))
theorem aXq:∃ n b e,V8 n b e:=by obtain⟨n,b,d,a⟩:=bIz;have c:=Iw (m:=Df Jv) (n:=1) (c2:=cl 0) (q:=bT 0) rfl g_ g_ g_ g_ rfl a g_ g_ rfl rfl rfl;refine⟨n,b,_,d,a,?_,c⟩;exact aSv (root:=bT 0) (r:=Dc) a.gq g_ g_ (aVh g_ Ut rfl a.ok)
theorem off1:uf (lJ (BG 1 4)) (D5 (bT 1))=(.ok Jv,D5 (bT 1)):=bEt (m:=BG 1 4) (n:=0) (c2:=cl 0) (f:=D7) (q:=bT 1) rfl g_ rfl
theorem aYq:fF prog af 9 true [] (rf true):=by
 obtain⟨n,k,K,B⟩:=aXq;have j:=Xj (TI |> some,qi (cl 0) (cl 1) k (bT 0),n) _ _ _ rfl rfl rfl B.cr;have d:Gs (some TI,qi (cl 0) (cl 1) k (bT 0),n)=false:=rfl;rw[d] at j;have i:Tra (Be (gV (C9 7) Dc)) stB:=aNj (r:=Dc) rfl;have a:stB.size<=1000:=by show (5:Nat)<=1000;decide
 obtain⟨J,A⟩:=zL off1;obtain⟨I,z⟩:=zL B.snd;obtain⟨H,y⟩:=zL (aYw (m:=BG 0 6) (n:=2) (c2:=cl 0) (q:=bT 0) rfl B.hB g_ rfl rfl rfl);have h:=bBh (m:=Be (gV (C9 7) Dc)) (n:=0) (c2:=cl 0) (q:=bT 1) (f:=D7) rfl i a zT g_ g_ rfl rfl;have e:=aSv (root:=bT 1) zT g_ g_ (aDd (n:=0) (p:=stB) g_ a);obtain⟨l,c⟩:=lm (Gl D7 (gX (bT 1) (FZ 0 stB)));have b:Gl D7 (gX (Be (gV (C9 7) Dc)).root (FZ 0 stB))=l:=c;rw[c] at e;rw[b] at h;obtain⟨G,x⟩:=zL h;obtain⟨F,w⟩:=zL (bBg (m:=Be (gV (C9 7) Dc)) (n:=1) (c2:=cl 0) (f:=l) (q:=bT 1) rfl i.xt g_ rfl);obtain⟨E,u⟩:=zL (aOz (m:=BG 1 2) (n:=1) (n2:=0) (q:=bT 1) rfl e g_ rfl rfl rfl g_);obtain⟨D,t⟩:=zL (aOz (m:=BG 1 2) (n:=1) (n2:=1) (q:=bT 1) rfl e g_ rfl rfl rfl g_);obtain⟨C,s⟩:=zL (aZq (m:=BG 0 2) (n:=2) (c2:=cl 0) (q:=bT 0) rfl B.hB g_ rfl);have zB:=B.hB.gq.sz;have g:=e.gq.sz;have zA:=B.hA.gq.sz;refine QA j _ _ _ _ _ _ _ _ _ A z y x w u t s rfl (aDj g_ g_ zA rfl) (aQc _ rfl) (aDj g_ g_ zB rfl) (aDj g_ g_ g rfl) (aDj g_ g_ g rfl) (Q7 (o:=Jv) rfl Ut) (Tc (r:=Dc) rfl Ut a) ⟨rfl,rfl⟩ rfl rfl ⟨rfl,rfl⟩ rfl ⟨rfl,rfl⟩ rfl rfl K_ (LP g_) (LP g_)
section
variable {α β:Type}
def GL(t:pq):aj α->jd->List jd
 |.ret _,_=>[]|.ask c k,h=>if c.kind = -1 then[] else (dM h c t).1::GL t (k (dM h c AA).2.1) (dM h c AA).1
end
def Gi(t:pq){α:Type}(p:aj α)(h:jd)(R:jd->Prop):Prop:=∀ a∈GL t p h,R a
theorem Gi.mono{α:Type}{t:pq}{p:aj α}{h:jd}{R S:jd->Prop}(h1:Gi t p h R)(h2:∀ a,R a->S a):Gi t p h S:=fun x b=>h2 x (h1 x b)
def tf(b:Int):pq:=⟨true,b,false⟩
theorem TD{b:Int}(h0:0<=b)(h1:b<=255):DT (tf b)=b:=by show min (max b 0) 256=b;omega
theorem bHx{b:Int}(h0:0<=b)(h1:b<=255){g:y5}{f:Fl}{r:dh}{c:Acc}(h:Gp f.length c):(dM ⟨g,f,r⟩ c (tf b)).1=⟨g,eX (max 0 b) c f,r⟩:=by have j:max 0 b=b:=a_;rcases h with⟨a,e,d⟩|⟨a,e,d,i⟩;rw[sV a e d];unfold eX;rw[au a];rw[sU a e d i];unfold eX;rw[ay a_,TD h0 h1,j]
theorem aQl{l:Type}{b:Int}(h0:0<=b)(h1:b<=255)(p:aj l):∀ (e:y5) (f:Fl) (r:dh),(∀ c∈mg p f,Gp f.length c)->∀ g∈GL (tf b) p ⟨e,f,r⟩,∃ (j:Nat) (a:Acc),(mg p f)[j]?=some a/\g=⟨e,eX (max 0 b) a (ui ((mg p f).take j) f),r⟩:=by
 induction p with
 |ret a=>intro e f r _ g d;cases d|ask c k m=>
  intro e f r h g d;have i:Gp f.length c:=h c MM
  have o:c.kind ≠ -1:=by rcases i with⟨h1,_⟩|⟨h1,_⟩<;>omega
  rw[GL,ay o] at d;rcases List.mem_cons.1 d with rfl|d
  exact⟨0,c,rfl,bHx h0 h1 i⟩;rw[aLz i] at d;obtain⟨j,a,s,q⟩:=m (Bd c f) e (eX (-1) c f) r (fun x n=>by rw[uN];exact h x (VM _ n)) g d;exact⟨j+1,a,s,q⟩
theorem Nz{b:Int}(h0:0<=b)(h1:b<=255){f:Fl}(p:Sz f)(h:y5)(r:dh):Gi (tf b) (aj.load 3) ⟨h,f,r⟩ (fun e=>e=⟨h,f,r⟩):=by
 obtain⟨i,u⟩:=bFt (rec:=3) (f:=f) a_ a_;intro e s;obtain⟨j,a,n,m⟩:=aQl h0 h1 (aj.load 3) h f r (by rw[i,p.1];exact aBb) e s;rw[i] at n m;have k:∀ c∈Go.Proofs.YtndpjopifkbgiaaGreatDoor.CQ 3,c.kind=3:=by decide +kernel
 have t:a.kind=3:=k a (List.mem_of_getElem? n)
 have q:∀ (L:jc),(∀ c∈L,c.kind=3)->∀ g,ui L g=g:=by
  intro L
  induction L with
  |nil=>intro _ g;rfl|cons x L o=>intro l g;show ui L (eX (-1) x g)=g;rw[show eX (-1) x g=g from au (l x MM)];exact o (fun c d=>l c (VM _ d)) g
 rw[m,q _ (fun c d=>k c (List.mem_of_mem_take d))];unfold eX;rw[au t]
theorem Ny{b:Int}(h0:0<=b)(h1:b<=255){f:Fl}{s:Int}{c:dh}(h:zf f s c){x:l9}(o:x.size<=2000)(hs:s+1<=1099511627776)(m:y5)(r:dh) :
  Gi (tf b) (aj.save 3 x) ⟨m,f,r⟩ (fun k=>∃ j:Nat,k=⟨m,(zy f ⟨3,x,j,b⟩).1,r⟩/\(zy f ⟨3,x,j,b⟩).2.2.1=false):=by
 have e:(iw f 3).1.1+1<=1099511627776:=by rw[h.cur];exact hs
 have p:Fine f ⟨3,x,-1,0⟩:=⟨h.sz,(by show (0:Int)<=3;decide),(by show (3:Int)<=3;decide),o,e⟩;obtain⟨q,A⟩:=aId (rec:=3) (c:=x) (f:=f) a_ a_ o e;have t:=p.first;have n:=p.nsec;intro k u
 obtain⟨j,a,l,z⟩:=aQl h0 h1 (aj.save 3 x) m f r (by
  rw[q,h.sz.1];intro c g;rcases List.mem_append.1 g with g|g;exact aBb c g
  exact aDr (s:=jb f ⟨3,x,-1,0⟩) (b:=gm f ⟨3,x,-1,0⟩) t.1 a_ n.2 n.1 c g) k u
 have i:j<(mg (aj.save 3 x) f).length:=(List.getElem?_eq_some_iff.1 l).1
 have d:zy f ⟨3,x,j,b⟩=(eX (max 0 b) a (ui ((mg (aj.save 3 x) f).take j) f),bBl,false,(mg (aj.save 3 x) f).take (j+1)):=by
  unfold zy;rw[aDh,dif_pos (show (([]:jc).length:Int)<=(j:Int)/\((j:Int)-(([]:jc).length:Int)).toNat<(mg (aj.save 3 x) f).length from⟨b_,by simp;exact i⟩)];have y:((j:Int)-(([]:jc).length:Int)).toNat=j:=b_;have w:(mg (aj.save 3 x) f)[j]'i=a:=by rw[zH i] at l;exact Option.some.inj l
  simp only[y,Ha];rw[w]
 exact⟨j,by rw[d];exact z,by rw[d]⟩
end Pv
section
inductive V6(f:Fl)(u:Om)(cut:Int)(x:Int×dh):Prop
 |old (h:x=Da f u.gq (1-((iw f u.gq).2:Int)))
 |bad (h:x=(0,[]))
 |new (h:x=((iw f u.gq).1.1+1,u.content.data.toList))
 |odd (s:dh) (h:x=((iw f u.gq).1.1+1,s)) (hl:s.length<=u.content.data.toList.length) (hcut:cut<=255) (hc:∀ i,i<(encS u.gq ((iw f u.gq).1.1+1) s).length->i<256->(encS u.gq ((iw f u.gq).1.1+1) s)[i]?=if (i:Int)<cut then (gm f u)[i]? else some 0)
section
variable {f:Fl} {u:Om}
theorem aRl(h:Fine f u){j:Nat}(D:j<=nsec (gm f u))(a:Acc)(m:(bV (jb f u) (gm f u))[j]?=some a){cut:Int}(h0:0<=cut):V6 f u cut (Da (eX cut a (ui ((bV (jb f u) (gm f u)).take j) f)) u.gq (1-((iw f u.gq).2:Int))):=by
 have C:=h.len;have p:=h.first;have K:=h.nsec;have L:=aAp f u.gq;have A:Sz (ui ((bV (jb f u) (gm f u)).take j) f):=aPu h.sz;have E:∀ g,Da g u.gq (1-((iw f u.gq).2:Int))=qw u.gq (sZ g (jb f u)):=fun g=>rfl;rw[E];rcases Nat.eq_zero_or_pos j with rfl|B;rw[bV,List.getElem?_cons_zero] at m;cases m;have e:eX cut ⟨4,0,jb f u,strOf gB⟩ (ui ((bV (jb f u) (gm f u)).take 0) f)=iO f (jb f u) (strOf gB) cut:=rfl;have k:=mX h.sz p.1 a_ (b:=gB) jS cut;rw[e]
 by_cases y:cut=0;subst y;refine .old ?_;rw[E];congr 1;refine yQ fun t O N=>?_;rw[k];split;rename_i G;subst G;unfold Ah;rw[ay (by rw[jS];decide)];simp;rfl;refine .bad (yT (aFx h.sz _ _ _) p.1 a_ ?_ _);rw[k,au rfl];unfold Ah;split;exact xP a_;rename_i J;have:gB.length=256:=jS;rw[YW (by rw[xe];omega),x8,au a_];exact xP a_
 ·rcases aAX D with r|rfl;rw[aDs B r] at m;cases m;refine .bad (yT (rV A _ _) p.1 a_ ?_ _);have e:eX cut ⟨4,0,jb f u+(j:Int),strOf (l7 (gm f u) j)⟩ (ui ((bV (jb f u) (gm f u)).take j) f)=iO (ui ((bV (jb f u) (gm f u)).take j) f) (jb f u+(j:Int)) (strOf (l7 (gm f u) j)) cut:=rfl;rw[e,mX A a_ a_ (dR _ _),ay a_,wG h.sz p.1 a_ C.1 B D,au rfl];exact xP a_
  ·rw [oP _ _ C.1] at m;cases m;by_cases y:256<=cut;exact .new (aDz h (.inr y))
   ·by_cases x:cut.toNat<=(gm f u).length;have l:=last_at h cut;obtain⟨W,z⟩:=lm (sZ (eX cut ⟨4,0,jb f u,strOf (l7 (gm f u) 0)⟩ (ui ((bV (jb f u) (gm f u)).take (nsec (gm f u))) f)) (jb f u));rw[z] at l ⊢;rcases aQi (rec:=u.gq) (seq:=(iw f u.gq).1.1+1) (c:=u.content.data.toList) (W:=W) (cut:=cut.toNat) a_ h.s (by rw[uA];exact h.c) x (fun i o=>(l i).1 a_ a_) (fun i o d=>(l i).2 h0 a_ a_ d) with w|⟨s,w,n,F⟩;exact .bad w;have H:(encS u.gq ((iw f u.gq).1.1+1) s).length<=(gm f u).length:=aQb _ _ n;refine .odd s w n a_ fun i o I=>?_
    have q:(encS u.gq ((iw f u.gq).1.1+1) s)[i]?=W[i]?:=by rw[<-F,x8,au o]
    rw[q];by_cases d:(i:Int)<cut;rw[au d];exact (l i).1 a_ a_;rw[ay d];exact (l i).2 h0 a_ a_ a_
    ·refine .new ?_;have l:=last_at h cut;obtain⟨W,z⟩:=lm (sZ (eX cut ⟨4,0,jb f u,strOf (l7 (gm f u) 0)⟩ (ui ((bV (jb f u) (gm f u)).take (nsec (gm f u))) f)) (jb f u));rw[z] at l ⊢
     have e:W=gm f u++W.drop (gm f u).length:=by
      have:W.take (gm f u).length=gm f u:=by apply YZ;intro i;rw[x8];split;rename_i o;exact (l i).1 o a_;rw[YQ a_]
      conv=>lhs;rw[<-List.take_append_drop (gm f u).length W,this]
     rw[e];exact aMc _ _ _ _ a_ h.s (by rw[uA];exact h.c)
theorem aBP(h:Fine f u)(m:(zy f u).2.2.1=false):(iw (zy f u).1 u.gq).1=(iw f u.gq).1\/(iw (zy f u).1 u.gq).1=((iw f u.gq).1.1+1,u.content.data.toList) \/
  ∃ s,(iw (zy f u).1 u.gq).1=((iw f u.gq).1.1+1,s)/\s.length<=u.content.data.toList.length/\∃ cut:Int,0<=cut/\cut<=255/\∀ i,i<(encS u.gq ((iw f u.gq).1.1+1) s).length->i<256->(encS u.gq ((iw f u.gq).1.1+1) s)[i]?=if (i:Int)<cut then (gm f u)[i]? else some 0:=by
 have p:=bDx h;have C:(iw f u.gq).2=0\/(iw f u.gq).2=1:=aJk _ _;have t:=h.len;have B:=h.nsec;have y:V6 f u (max 0 u.bytes) (Da (zy f u).1 u.gq (1-((iw f u.gq).2:Int))):=by by_cases q:u.cut<0\/17+(nsec (gm f u):Int)<=u.cut;rw[zW h q] at m;cases m;by_cases r:u.cut<16;rw[aVx h a_ r];exact .old rfl;obtain⟨j,w⟩:∃ j:Nat,u.cut=16+(j:Int):=⟨(u.cut-16).toNat,a_⟩;have c:j<=nsec (gm f u):=a_;have n:=iU (jb f u) (gm f u) t.1;obtain⟨a,o⟩:∃ a,(bV (jb f u) (gm f u))[j]?=some a:=⟨_,zH a_⟩;rw[aOi h w c a o];exact aRl h c a o (cut:=max 0 u.bytes) a_
 rcases y with b|b|b|⟨s,b,g,d,x⟩
 left;have e:iw (zy f u).1 u.gq=iw f u.gq:=O1 fun k A z=>by by_cases l:k=((iw f u.gq).2:Int);exact p.far _ k h.r0 h.r3 A z (.inr l);have e:k=1-((iw f u.gq).2:Int):=a_;rw[e];exact b
 rw[e];exact .inl (TF (p.same h) b);exact .inr (.inl (aUi (p.same h) b));exact .inr (.inr ⟨s,aUi (p.same h) b,g,max 0 u.bytes,a_,d,x⟩)
end
end
namespace Pv
theorem aQe{y:Type}{Q:Except Int y->jd->Prop}{C:jd->Prop}(p:aj y):∀ (b:y5) (f:Fl) (r:dh),(∀ c∈mg p f,Gp f.length c)->Q (uf p ⟨b,f,r⟩).1 (uf p ⟨b,f,r⟩).2->(∀ x,0<=x->x<=255->Gi (tf x) p ⟨b,f,r⟩ C)->ng Q C p ⟨b,f,r⟩:=by
 induction p with
 |ret a=>intro b f r _ h _;exact h| ask c k E=>
  intro b f r h z A;have n:Gp f.length c:=h c MM
  have m:c.kind ≠ -1:=by rcases n with⟨l,_⟩|⟨l,_⟩<;>omega
  have u:=aLz (b:=b) (r:=r) n;rw[uf,ay m,u] at z;refine⟨fun e=>absurd e m,fun _=>⟨fun t q w l=>?_,fun t q=>?_⟩⟩;have e:(dM ⟨b,f,r⟩ c t).1=(dM ⟨b,f,r⟩ c (tf t.bytes)).1:=by obtain⟨o,D,B⟩:=t;obtain rfl:o=true:=q;rcases n with⟨i,g,d⟩|⟨i,g,d,j⟩;rw[sV i g d,sV i g d];rw[sU i g d j,sU i g d j];rfl
  rw[e];refine A t.bytes w l _ ?_;rw[GL,ay m];exact MM;have e:dM ⟨b,f,r⟩ c t=(⟨b,eX (-1) c f,r⟩,Bd c f,0):=by rw[<-u];obtain⟨o,D,B⟩:=t;obtain rfl:o=false:=q;rcases n with⟨i,g,d⟩|⟨i,g,d,j⟩;rw[sV i g d,sV i g d];rfl;rw[sU i g d j,sU i g d j];rfl
  rw[e];refine E (Bd c f) b (eX (-1) c f) r (fun x F=>by rw[uN];exact h x (VM _ F)) z (fun x w l H G=>?_);refine A x w l H ?_;rw[GL,ay m,u];exact VM _ G
section
variable {f:Fl} {s:Int} {c:dh}
theorem Na(h:zf f s c)(b:y5)(r:dh):ng (fun x a=>x=.ok (wY (s,c))/\a=⟨b,f,r⟩) (fun a=>a=⟨b,f,r⟩) (aj.load 3) ⟨b,f,r⟩:=by obtain⟨d,i⟩:=bFt (rec:=3) (f:=f) a_ a_;refine aQe _ b f r (by rw[d,h.sz.1];exact aBb) ?_ (fun x g e=>Nz g e h.sz b r);rw[aWg h b r];exact⟨rfl,rfl⟩
def V5(f':Fl)(s:Int)(c x:dh):Prop:=zf f' s c\/zf f' (s+1) x\/∃ o,zf f' (s+1) o/\o.length<=x.length/\∃ cut:Int,0<=cut/\cut<=255/\∀ i,i<(encS 3 (s+1) o).length->i<256->(encS 3 (s+1) o)[i]?=if (i:Int)<cut then (encS 3 (s+1) x)[i]? else some 0
theorem VF{b:Int}(h:zf f s c){x:l9}(l:x.size<=2000)(hs:s+1<=1099511627776){j:Nat}(m:(zy f ⟨3,x,j,b⟩).2.2.1=false):V5 (zy f ⟨3,x,j,b⟩).1 s c x.data.toList:=by
 have d:(iw f 3).1.1+1<=1099511627776:=by rw[h.cur];exact hs
 have g:Fine f ⟨3,x,j,b⟩:=⟨h.sz,(by show (0:Int)<=3;decide),(by show (3:Int)<=3;decide),l,d⟩;have p:=bDx g;have n:(iw f 3).1=(s,c):=h.cur;have a:=aBP g m;unfold gm at a;dsimp only at a;rw[n] at a;rcases a with e|e|⟨o,e,k,i⟩;exact .inl ⟨p.sz,e⟩;exact .inr (.inl ⟨p.sz,e⟩);exact .inr (.inr ⟨o,⟨p.sz,e⟩,k,i⟩)
theorem NZ(h:zf f s c){x:l9}(a:x.size<=2000)(hs:s+1<=1099511627776)(b:y5)(r:dh) :
  ng (fun y i=>y=.ok ⟨x,s+1,0⟩/\∃ g,i=⟨b,g,r⟩/\zf g (s+1) x.data.toList) (fun i=>∃ g,i=⟨b,g,r⟩/\V5 g s c x.data.toList) (aj.save 3 x) ⟨b,f,r⟩:=by
 have d:(iw f 3).1.1+1<=1099511627776:=by rw[h.cur];exact hs
 have l:Fine f ⟨3,x,-1,0⟩:=⟨h.sz,(by show (0:Int)<=3;decide),(by show (3:Int)<=3;decide),a,d⟩;obtain⟨m,w⟩:=aId (rec:=3) (c:=x) (f:=f) a_ a_ a d;have n:=l.first;have k:=l.nsec;refine aQe _ b f r ?_ ?_ (fun t p o=>(Ny p o h a hs b r).mono ?_);rw[m,h.sz.1];intro c e;rcases List.mem_append.1 e with e|e;exact aBb c e;exact aDr (s:=jb f ⟨3,x,-1,0⟩) (b:=gm f ⟨3,x,-1,0⟩) n.1 a_ k.2 k.1 c e;rw[aVj h a hs b r]
 exact⟨rfl,_,rfl,bCk h a hs⟩;rintro i ⟨j,u,q⟩;exact⟨_,u,VF h a hs q⟩
end
end Pv
def aIw{a:Type}(n:Nat)(f:Nat->a):a:=Nat.rec (motive:=fun _=>a) (f 0) (fun m _=>f (Nat.succ m)) n
theorem vT{a:Type}(n:Nat)(f:Nat->a):aIw n f=f n:=by cases n<;>rfl
def addN(a b:Nat):Nat:=Nat.mod (Nat.add a b) 4294967296
def CP(x n m:Nat):Nat:=Nat.lor (aGy x n) (Nat.mod (Nat.shiftLeft x m) 4294967296)
def UI(x:Nat):Nat:=ZW (ZW (CP x 7 25) (CP x 18 14)) (aGy x 3)
def UH(x:Nat):Nat:=ZW (ZW (CP x 17 15) (CP x 19 13)) (aGy x 10)
def t1N(e f g h k w:Nat):Nat:=addN (addN (addN (addN h (ZW (ZW (CP e 6 26) (CP e 11 21)) (CP e 25 7))) (ZW (Nat.land e f) (Nat.land (Nat.sub 4294967295 e) g))) k) w
def t2N(a b c:Nat):Nat:=addN (ZW (ZW (CP a 2 30) (CP a 13 19)) (CP a 22 10)) (ZW (ZW (Nat.land a b) (Nat.land a c)) (Nat.land b c))
def nwN(w0 c b a:Nat):Nat:=addN (addN (addN w0 (UI c)) b) (UH a)
def aGd:List Nat->Nat->Nat->Nat->Nat->Nat->Nat->Nat->Nat->Nat->Nat->Nat->Nat->Nat->Nat->Nat->Nat->Nat->Nat->Nat->Nat->Nat->Nat->Nat->Nat->List Nat
 |[],_,_,_,_,_,_,_,_,_,_,_,_,_,_,_,_,a,b,c,d,e,f,g,h=>[a,b,c,d,e,f,g,h]| k::ks,w0,w1,w2,w3,w4,w5,w6,w7,w8,w9,w10,w11,w12,w13,w14,w15,a,b,c,d,e,f,g,h=>aIw (t1N e f g h k w0) fun t=>aIw (addN t (t2N a b c)) fun x=>aIw (addN d t) fun y=>aIw (nwN w0 w1 w9 w14) fun n=>aGd ks w1 w2 w3 w4 w5 w6 w7 w8 w9 w10 w11 w12 w13 w14 w15 n x a b c y e f g
def t1W(e f g h k w:UInt32):UInt32:=h+((fV e 6 ^^^ fV e 11) ^^^ fV e 25)+((e &&& f) ^^^ (~~~e &&& g))+k+w
def t2W(a b c:UInt32):UInt32:=((fV a 2 ^^^ fV a 13) ^^^ fV a 22)+(((a &&& b) ^^^ (a &&& c)) ^^^ (b &&& c))
def nwW(w0 b c a:UInt32):UInt32:=w0+((fV b 7 ^^^ fV b 18) ^^^ (b >>> 3))+c+((fV a 17 ^^^ fV a 19) ^^^ (a >>> 10))
def yN:List UInt32->UInt32->UInt32->UInt32->UInt32->UInt32->UInt32->UInt32->UInt32->UInt32->UInt32->UInt32->UInt32->UInt32->UInt32->UInt32->UInt32->UInt32->UInt32->UInt32->UInt32->UInt32->UInt32->UInt32->UInt32->List UInt32
 |[],_,_,_,_,_,_,_,_,_,_,_,_,_,_,_,_,a,b,c,d,e,f,g,h=>[a,b,c,d,e,f,g,h]|k::ks,w0,w1,w2,w3,w4,w5,w6,w7,w8,w9,w10,w11,w12,w13,w14,w15,a,b,c,d,e,f,g,h=>yN ks w1 w2 w3 w4 w5 w6 w7 w8 w9 w10 w11 w12 w13 w14 w15 (nwW w0 w1 w9 w14) (t1W e f g h k w0+t2W a b c) a b c (d+t1W e f g h k w0) e f g
theorem Oi(a b:UInt32):addN a.toNat b.toNat=(a+b).toNat:=(UInt32.toNat_add a b).symm
theorem PQ(x:UInt32)(n m:Nat)(hn:0<n)(a:n<32)(b:m=32-n):CP x.toNat n m=(fV x (Yl n)).toNat:=by
 subst b;unfold CP fV;have d:(Yl n).toNat=n:=jr;have c:(32-Yl n:UInt32).toNat=32-n:=by rw[UInt32.toNat_sub];simp;omega
 rw[UInt32.toNat_or,aGB,aGC,d,c,Yq a,Yq (show 32-n<32 by omega)];rfl
theorem Ol(a b:UInt32):ZW a.toNat b.toNat=(a ^^^ b).toNat:=(UInt32.toNat_xor a b).symm
theorem bJj(a b:UInt32):Nat.land a.toNat b.toNat=(a &&& b).toNat:=(UInt32.toNat_and a b).symm
theorem aDH(a:UInt32):Nat.sub 4294967295 a.toNat=(~~~a).toNat:=by rw[UInt32.toNat_not];rfl
theorem UJ(a:UInt32)(n:Nat)(hn:n<32):aGy a.toNat n=(a >>> Yl n).toNat:=by have b:(Yl n).toNat=n:=jr;rw[aGB,b,Yq hn];rfl
theorem aKV(e f g h k w:UInt32):t1N e.toNat f.toNat g.toNat h.toNat k.toNat w.toNat=(t1W e f g h k w).toNat:=by unfold t1N t1W;rw[PQ e 6 26 a_ a_ rfl,PQ e 11 21 a_ a_ rfl,PQ e 25 7 a_ a_ rfl,aDH,bJj,bJj,Ol,Ol,Ol,Oi,Oi,Oi,Oi];rfl
theorem aKS(a b c:UInt32):t2N a.toNat b.toNat c.toNat=(t2W a b c).toNat:=by unfold t2N t2W;rw[PQ a 2 30 a_ a_ rfl,PQ a 13 19 a_ a_ rfl,PQ a 22 10 a_ a_ rfl,bJj,bJj,bJj,Ol,Ol,Ol,Ol,Oi];rfl
theorem aLT(w0 b c a:UInt32):nwN w0.toNat b.toNat c.toNat a.toNat=(nwW w0 b c a).toNat:=by unfold nwN nwW UI UH;rw[PQ b 7 25 a_ a_ rfl,PQ b 18 14 a_ a_ rfl,PQ a 17 15 a_ a_ rfl,PQ a 19 13 a_ a_ rfl,UJ b 3 a_,UJ a 10 a_,Ol,Ol,Ol,Ol,Oi,Oi,Oi];rfl
theorem aVo:∀ (p:List UInt32) (A z y x w u t s r q o n m l j i a b c d e f g h:UInt32),
  aGd (p.map Za) A.toNat z.toNat y.toNat x.toNat w.toNat u.toNat t.toNat s.toNat r.toNat q.toNat o.toNat n.toNat m.toNat l.toNat j.toNat i.toNat a.toNat b.toNat c.toNat d.toNat e.toNat f.toNat g.toNat h.toNat =
   (yN p A z y x w u t s r q o n m l j i a b c d e f g h).map Za
 |[],_,_,_,_,_,_,_,_,_,_,_,_,_,_,_,_,_,_,_,_,_,_,_,_=>rfl|k::p,A,z,y,x,w,u,t,s,r,q,o,n,m,l,j,i,a,b,c,d,e,f,g,h=>by rw[DD,aGd,yN,vT,vT,vT,vT,aKV,aKS,aLT,Oi,Oi];exact aVo p _ _ _ _ _ _ _ _ _ _ _ _ _ _ _ _ _ _ _ _ _ _ _ _
theorem aNu(b:dh)(i m n:Nat)(h1:i<m)(h2:m<=n):(dB b n).getD i 0=(dB b m).getD i 0:=by
 induction n with
 |zero=>omega|succ n a=>rcases Nat.lt_or_ge m (n+1) with h|h;rw[dB,zG,YW (by rw[fK];omega),<-zG,a a_];rw[show m=n+1 by omega]
def sw(b:dh)(i:Nat):UInt32:=(dB b (i+1)).getD i 0
theorem bCj(b:dh)(i n:Nat)(h:i<n):(dB b n).getD i 0=sw b i:=aNu b i (i+1) n a_ a_
theorem Py(b:dh)(j:Nat):sw b (j+16)=nwW (sw b j) (sw b (j+1)) (sw b (j+9)) (sw b (j+14)):=by rw[sw,aYp,zG,Ye (by rw[fK];omega),fK,Yf];rw[bCj b j _ a_,bCj b (j+1) _ a_,bCj b (j+9) _ a_,bCj b (j+14) _ a_];rfl
theorem aEG(b:dh)(v:List UInt32)(l:v.length=8):∀ (n i:Nat),n+i=64 ->
  yN (yu.drop i) (sw b i) (sw b (i+1)) (sw b (i+2)) (sw b (i+3)) (sw b (i+4)) (sw b (i+5)) (sw b (i+6)) (sw b (i+7)) (sw b (i+8)) (sw b (i+9)) (sw b (i+10)) (sw b (i+11)) (sw b (i+12)) (sw b (i+13)) (sw b (i+14)) (sw b (i+15))
   ((bP b v i).getD 0 0) ((bP b v i).getD 1 0) ((bP b v i).getD 2 0) ((bP b v i).getD 3 0) ((bP b v i).getD 4 0) ((bP b v i).getD 5 0) ((bP b v i).getD 6 0) ((bP b v i).getD 7 0)=bP b v 64
 |0,i,h=>by
  obtain rfl:i=64:=a_;rw[show yu.drop 64=[] from rfl,yN];have:=kL b v l 64
  match p:bP b v 64,this with
  |[a,b,c,d,e,f,g,h],_=>rfl
 | n+1,i,h=>by
  have j:i<64:=a_;have k:=aEG b v l n (i+1) a_;rw[aBD (show i<yu.length from j),yN,<-Py b i];have o:yu[i]'(show i<yu.length from j)=yu.getD i 0:=by rw[zG,zH j];rfl
  rw[o];have m:bP b v (i+1)=aCy (bP b v i) (yu.getD i 0) (sw b i):=by rw[bP,sched,bCj b i 64 j]
  rw[m] at k;rw[show i+1+1=i+2 from rfl,show i+1+2=i+3 from rfl,show i+1+3=i+4 from rfl,show i+1+4=i+5 from rfl,show i+1+5=i+6 from rfl,show i+1+6=i+7 from rfl,show i+1+7=i+8 from rfl,show i+1+8=i+9 from rfl,show i+1+9=i+10 from rfl,show i+1+10=i+11 from rfl,show i+1+11=i+12 from rfl,show i+1+12=i+13 from rfl,show i+1+13=i+14 from rfl,show i+1+14=i+15 from rfl,show i+1+15=i+16 from rfl] at k;exact k
def bN(l:dh):List Nat:=l.map UInt8.toNat
def aHu:List Nat->List Nat
 |a::b::c::d::r=>Nat.add (Nat.mul (Nat.add (Nat.mul (Nat.add (Nat.mul a 256) b) 256) c) 256) d::aHu r|_=>[]
def kN:List Nat:=yu.map Za
def bHf(v w:List Nat):List Nat:=
 match w,v with
 |[w0,y,x,u,t,s,r,q,p,o,n,m,l,k,j,i],[a,b,c,d,e,f,g,h]=>Z7 addN (aGd kN w0 y x u t s r q p o n m l k j i a b c d e f g h) [a,b,c,d,e,f,g,h]|_,_=>[]
theorem aMj(n:UInt32)(b:UInt8)(h:n.toNat<16777216):((n <<< 8) ||| b.toUInt32).toNat=n.toNat*256+b.toNat:=by have a:=b.toNat_lt;rw[UInt32.toNat_or,aGC,UInt8.toNat_toUInt32,show (8:UInt32).toNat % 32=8 from rfl,aDq,Yq a_,<-aDq,<-Nat.shiftLeft_add_eq_or_of_lt a_,aDq]
theorem OT(a b c d:UInt8):(oC [a,b,c,d]).toNat=((a.toNat*256+b.toNat)*256+c.toNat)*256+d.toNat:=by have l:=a.toNat_lt;have k:=b.toNat_lt;have j:=c.toNat_lt;unfold oC;simp only[aAK,List.foldl_nil];have h:(0:UInt32).toNat=0:=rfl;have g:=aMj 0 a (by rw[h];omega);rw[h,Nat.zero_mul,ik] at g;have f:=aMj _ b (show ((0:UInt32) <<< 8 ||| a.toUInt32).toNat<16777216 by rw[g];omega);rw[g] at f;have e:=aMj _ c (show (((0:UInt32) <<< 8 ||| a.toUInt32) <<< 8 ||| b.toUInt32).toNat<16777216 by rw[f];omega);rw[f] at e;have i:=aMj _ d (show ((((0:UInt32) <<< 8 ||| a.toUInt32) <<< 8 ||| b.toUInt32) <<< 8 ||| c.toUInt32).toNat<16777216 by rw[e];omega);rw[i,e]
theorem bBt:∀ (n:Nat) (b:dh),b.length=4*n->aHu (bN b)=(AC n).map fun i=>(oC ((b.drop (4*i)).take 4)).toNat
 |0,b,h=>by obtain rfl:b=[]:=List.length_eq_zero_iff.1 a_;rfl
 | n+1,b,h=>by
  match b,h with
  |w::x::y::z::r,h=>have a:=bBt n r (by simp at h;omega);rw[List.range_succ_eq_map,DD,List.map_map];have e:aHu (bN (w::x::y::z::r))=(((w.toNat*256+x.toNat)*256+y.toNat)*256+z.toNat)::aHu (bN r):=rfl;rw[e,a,<-OT];congr 1
theorem QL(f:Nat->Nat):(AC 16).map f=[f 0,f 1,f 2,f 3,f 4,f 5,f 6,f 7,f 8,f 9,f 10,f 11,f 12,f 13,f 14,f 15]:=rfl
theorem bHe(w0 x w u t s r q p o n m l k j i a b c d e f g h:Nat):bHf [a,b,c,d,e,f,g,h] [w0,x,w,u,t,s,r,q,p,o,n,m,l,k,j,i] =
  Z7 addN (aGd kN w0 x w u t s r q p o n m l k j i a b c d e f g h) [a,b,c,d,e,f,g,h]:=rfl
theorem U5:∀ (r v:List UInt32),Z7 addN (r.map Za) (v.map Za)=(Z7 (·+·) r v).map Za
 |[],v=>b_|x::r,[]=>b_|x::r,y::v=>by simp only[DD,List.zipWith_cons_cons];rw[U5 r v,Oi]
theorem aEH(b:dh)(a i c d e f g h:UInt32):yN yu (sw b 0) (sw b 1) (sw b 2) (sw b 3) (sw b 4) (sw b 5) (sw b 6) (sw b 7) (sw b 8) (sw b 9) (sw b 10) (sw b 11) (sw b 12) (sw b 13) (sw b 14) (sw b 15) a i c d e f g h=zK b [a,i,c,d,e,f,g,h]:=by have:=aEG b [a,i,c,d,e,f,g,h] rfl 64 0 rfl;rw[Yh,bP] at this;exact this
theorem TS(v:List UInt32)(b:dh)(k:v.length=8)(hb:b.length=64):bHf (v.map Za) (aHu (bN b))=(nM v b).map Za:=by
 rw[bBt 16 b hb]
 have l:∀ i,i<16->(oC ((b.drop (4*i)).take 4))=sw b i:=fun i j=>by
  rw[sw,dB,zG,Ye (by rw[fK];omega),fK,Yf,au j]
  first|done|rfl
 have m:((AC 16).map fun i=>(oC ((b.drop (4*i)).take 4)).toNat)=((AC 16).map fun i=>(sw b i).toNat):=aFJ fun i j=>by rw[l i (List.mem_range.1 j)]
 rw[m,QL]
 match v,k with
 |[a,n,c,d,e,f,g,h],k=>rw[DD,DD,DD,DD,DD,DD,DD,DD,List.map_nil,bHe,kN,aVo,aEH];exact U5 _ [a,n,c,d,e,f,g,h]
def Tz{a:Type}:List Nat->(List Nat->a)->a
 |[],k=>k []|x::r,k=>aIw x fun y=>Tz r fun s=>k (y::s)
theorem pR{a:Type}:∀ (l:List Nat) (k:List Nat->a),Tz l k=k l
 |[],k=>rfl|x::r,k=>by rw[Tz,vT,pR r]
def aLs:Nat->List Nat->List Nat->List Nat
 |0,v,_=>v|n+1,v,m=>Tz (bHf v (aHu (m.take 64))) fun s=>aLs n s (m.drop 64)
theorem aXn:∀ (n:Nat) (v:List UInt32) (m:dh),v.length=8->m.length=64*n->aLs n (v.map Za) (bN m)=(lT n v m).map Za
 |0,v,m,_,_=>rfl| n+1,v,m,a,e=>by
  have d:(bN m).take 64=bN (m.take 64):=(aAU ..).symm;have c:(bN m).drop 64=bN (m.drop 64):=(List.map_drop ..).symm;rw[aLs,pR,d,c,TS v _ a (by rw[xe];omega)];have b:(nM v (m.take 64)).length=8:=by have:=iZ (m.take 64) [0] v a;unfold oU at this;simp only[aAK,List.foldl_nil,Nat.mul_zero,Yh] at this;rwa [List.take_take] at this
  exact aXn n _ _ b (by rw[YO];omega)
def OU(n:Nat):Nat->List Nat
 |0=>[]|k+1=>Nat.mod (Nat.div n (256 ^ k)) 256::OU n k
theorem Xn(n:Nat):∀ k,bN (beBytes n k)=OU n k
 |0=>rfl|k+1=>by have:=Xn n k;unfold bN at this ⊢;rw[beBytes,OU,DD,this];congr 1
def F8(l:List Nat):List Nat:=l++[128]++List.replicate ((119-l.length % 64) % 64) 0++OU (8*l.length) 8
theorem vY(l:dh):(bN l).length=l.length:=YU ..
theorem kU(a b:dh):bN (a++b)=bN a++bN b:=List.map_append ..
theorem aCZ(l:dh):bN (iF l)=F8 (bN l):=by unfold iF F8;rw[kU,kU,kU,Xn,vY];congr 2;unfold bN;rw[List.map_replicate];rfl
def h0N:List Nat:=tY.map Za
def Vh(v:List Nat):List Nat:=v.flatMap fun w=>OU w 4
def Fh(l:List Nat):List Nat:=Vh (aLs ((F8 l).length / 64) h0N (F8 l))
theorem aDA(v:List UInt32):bN (v.flatMap fun w=>beBytes w.toNat 4)=Vh (v.map Za):=by
 unfold Vh
 induction v with
 |nil=>rfl|cons x v a=>rw[ZQ,kU,a,DD,ZQ,Xn]
theorem QZ(l:dh):∃ m,(iF l).length=64*m:=by refine⟨(iF l).length / 64,?_⟩;unfold iF;simp[beBytes_length];omega
theorem Iq(l:dh):bN (sha l)=Fh (bN l):=by obtain⟨m,a⟩:=QZ l;unfold sha Fh;rw[aDA,<-aCZ,vY,a,Nat.mul_div_cancel_left _ a_,h0N,aXn m tY _ rfl a]
def F7(k:List Nat)(x:Nat):List Nat:=(AC 64).map fun i=>ZW (k.getD i 0) x
def bGj(a m:List Nat):List Nat:=Tz (if a.length > 64 then Fh a else a) fun k=>Tz (Fh (F7 k 54++m)) fun h=>Fh (F7 k 92++h)
theorem Je(k:dh)(x:UInt8):bN (qA k x)=F7 (bN k) x.toNat:=by
 unfold qA Jf F7;unfold bN;rw[List.map_map];apply aFJ;intro i _;show ((k.getD i 0) ^^^ x).toNat=_;rw[UInt8.toNat_xor]
 have:(k.map UInt8.toNat).getD i 0=(k.getD i 0).toNat:=by
  rw[zG,zG,XN]
  cases k[i]?<;>rfl
 rw[this];rfl
theorem M_(a m:dh):bN (CX a m)=bGj (bN a) (bN m):=by
 rw[aTt,Iq,kU,Je,Iq,kU,Je];have b:bN (if a.length > 64 then sha a else a)=if (bN a).length > 64 then Fh (bN a) else bN a:=by rw[vY];split;exact Iq a;rfl
 rw[b];unfold bGj;rw[pR,pR];rfl
def WT(a m:List Nat):List Nat:=(bGj a m).take 16
theorem aDP(a m:dh):bN (LG a m)=WT (bN a) (bN m):=by unfold LG WT;rw[<-M_];exact aAU ..
def NL(a:List (List Nat)):List Nat:=a.flatMap fun p=>bN (eu p.length)++p
theorem XM(a:List dh):bN (encs a)=NL (a.map bN):=by
 unfold encs NL
 induction a with
 |nil=>rfl|cons p a b=>rw[ZQ,kU,b,DD,ZQ,bH,kU,vY]
def aGi(b a:List Nat)(c:List (List Nat)):List Nat:=Tz (WT b (bN (eu a.length)++a++NL c)) fun d=>d
theorem aXf(b a:dh)(c:List dh):bN (nH b a c)=aGi (bN b) (bN a) (c.map bN):=by unfold nH aGi;rw[pR,aDP,kU,XM,bH,kU,vY]
def Ro(b:List Nat)(a:Int):List Nat:=aGi b [101,110,99,114,121,112,116] [bN (eu a)]
theorem aDW(b:dh)(a:Int):bN (keyS b a)=Ro (bN b) a:=by unfold keyS Ro;rw[aXf];rfl
def aKb(a:List Nat)(n:Nat):List Nat:=((AC ((n+31) / 32)).flatMap fun j:Nat=>bGj a (bN (eu (j:Int)))).take n
theorem Ui(f:Nat->dh)(g:Nat->List Nat)(h:∀ k,bN (f k)=g k):∀ l:List Nat,bN (l.flatMap f)=l.flatMap g
 |[]=>rfl|k::l=>by rw[ZQ,ZQ,kU,Ui f g h l,h]
theorem IL(a:dh)(n:Nat):bN (jG a (n:Int))=aKb (bN a) n:=by unfold jG aKb gW;rw[WF];have:∀ (l:dh) (k:Nat),bN (l.take k)=(bN l).take k:=fun l k=>aAU ..;rw[this,Ui _ (fun j=>bGj (bN a) (bN (eu (j:Int)))) (fun k=>M_ _ _)]
namespace Pv
theorem tJ{l:Nat}(h:l<64):eu (l:Int)=[uB (2*l)]:=by
 unfold eu
 have e:zig (l:Int)=2*l:=by
  unfold zig
  split<;>omega
 rw[e];exact iW a_
theorem YA{a b:Nat}(d:a<256)(hb:b<256)(h:uB a=uB b):a=b:=by have:=congrArg UInt8.toNat h;rw[aGA,aGA] at this;have e:∀ n,n<256->n % 2 ^ 8=n:=fun n c=>Yq c;rw[e a d,e b hb] at this;exact this
theorem qC(n:Int):1<=(eu n).length:=by
 unfold eu varint
 split<;>simp
def rtN(k:Nat):List Nat:=[100,k,0,0,0,0,0,0,0,0,0,0,0,0,0,0]
def ksC(a:Nat)(l:List Nat):Bool:=!Nat.beq (l.getD 1 0) (2*a)&&!Nat.beq (l.getD 17 0) 0&&(!Nat.beq (l.getD 18 0 % 4) 0||Hm 60 (l.getD 18 0)||Hm 10 (l.getD 19 0))
def Rj(k a:Nat):Bool:=Tz (aGi (rtN k) [109,111,118,101] []) fun r=>Tz (aKb (Ro r a) 20) fun l=>ksC a l
def Zw(k:Nat):Nat->Bool
 |0=>true|n+1=>Rj k n&&Zw k n
theorem aML:Zw 0 17=true:=ah
theorem aMK:Zw 1 17=true:=ah
theorem aMJ:Zw 2 17=true:=ah
theorem aDe(k:Nat):∀ m,Zw k m=true->∀ n,n<m->Rj k n=true
 |0,_,n,h=>a_|m+1,a,n,h=>by rw[Zw,ww] at a;rcases aAX (Nat.lt_succ_iff.1 h) with b|rfl;exact aDe k m a.2 n b;exact a.1
def FH(k a n:Nat):dh:=jG (Go.Proofs.YtndpjopifkbgiaaGreatDoor.keyS (pY (bT k)) (a:Int)) (n:Int)
theorem Wn(k a:Nat){n i:Nat}(hn:20<=n)(b:i<20):(FH k a n)[i]?=(FH k a 20)[i]?:=by have h:=aHf (Go.Proofs.YtndpjopifkbgiaaGreatDoor.keyS (pY (bT k)) (a:Int)) 20 (n-20);rw[show max (20:Int) 0+((n-20:Nat):Int)=(n:Int) from a_] at h;have e:FH k a 20=(FH k a n).take 20:=h.symm;rw[e,x8,au b]
theorem Ri{k a:Nat}(c:k<3)(hl:a<=16):ksC a (bN (FH k a 20))=true:=by
 have h:Rj k a=true:=by have b:k=0\/k=1\/k=2:=a_;rcases b with rfl|rfl|rfl;exact aDe 0 17 aML a a_;exact aDe 1 17 aMK a a_;exact aDe 2 17 aMJ a a_
 have e:bN (FH k a 20)=aKb (Ro (aGi (rtN k) [109,111,118,101] []) a) 20:=by
  unfold FH;rw[IL,aDW];unfold pY;rw[aXf];have b:k=0\/k=1\/k=2:=a_
  rcases b with rfl|rfl|rfl<;>rfl
 unfold Rj at h;rw[pR,pR] at h;rw[e];exact h
theorem FW{l:dh}{i:Nat}{a:UInt8}(h:l[i]?=some a):(bN l).getD i 0=a.toNat:=by unfold bN;rw[zG,XN,h];rfl
theorem PZ{a b k:UInt8}(h:a ^^^ k=b ^^^ k):a=b:=by have:=congrArg (· ^^^ k) h;simpa[UInt8.xor_assoc] using this
theorem xor_zero{a k:UInt8}(h:a ^^^ k=0):a=k:=by have:=congrArg (· ^^^ k) h;simpa[UInt8.xor_assoc] using this
theorem U4{P K:dh}{i:Nat}(h1:i<P.length)(h2:i<K.length):(Z7 (· ^^^ ·) P K)[i]?=some (P[i] ^^^ K[i]):=by rw[List.getElem?_zipWith,zH h1,zH h2]
theorem aGk{root:dh}{s:l9}{r:l_}(h:xB root s=(r,true)):(r.kind=1\/r.kind=2)/\0<=r.level/\r.level<=16/\gX root r=s:=by
 unfold xB at h;cases a:wV root s.data.toList with
 |Dk=>rw[a] at h;cases h|EI=>rw[a] at h;cases h|okR p=>rw[a] at h;unfold P7 at h;dsimp only at h;unfold WG at h;split at h;cases h;unfold WE at h;obtain⟨rfl,b⟩:=Prod.mk.inj h;exact (of_decide_eq_true b).2.2
theorem NP{q:Nat}(a:q<64){x:dh}(h:x.length<64):∃ d,encS 3 (q:Int) x=uB (2*q)::uB (2*x.length)::(x++d)/\d.length=16:=by unfold encS AL bH;rw[tJ h,tJ a];exact⟨_,rfl,kD _ _⟩
theorem bEg{r:l_}{b a:Nat}(c:r.kind=b)(hl:r.level=a)(h1:b<64)(h2:a<64):iM r=uB (2*b)::uB (2*a)::(r.ot++(eu r.ol++bH r.payload.data.toList)):=by unfold iM;rw[c,hl,tJ h1,tJ h2];rfl
theorem Uk(root:dh){r:l_}{a n:Nat}(hl:r.level=a)(h1:a<64)(hn:(iM r).length=n)(h2:n<64):∃ t,gU root r=uB (2*a)::uB (2*n)::(Z7 (· ^^^ ·) (iM r) (jG (Go.Proofs.YtndpjopifkbgiaaGreatDoor.keyS (pY root) (a:Int)) (n:Int))++t)/\t.length=16:=by unfold gU bH;rw[dA,hn,hl,tJ h1,tJ h2];unfold dW;rw[hn];exact⟨_,rfl,jV _ _ _⟩
theorem yB(p:l9):p.data.toList.length=p.size:=uA
theorem Ju{o t q:dh}(c:o.length=16){a b:UInt8}(j:Nat):(a::b::(o++(t++q)))[18+j]?=(t++q)[j]?:=by rw[show 18+j=16+j+1+1 from a_,Ya,Ya,Ye a_,show 16+j-o.length=j from a_]
theorem Ji{o t:dh}{a b:UInt8}{j:Nat}(c:j<o.length):(a::b::(o++t))[2+j]?=o[j]?:=by rw[show 2+j=j+1+1 from a_,Ya,Ya,YW c]
theorem aYh{k:Nat}{r c:l_}{n p:Nat}{o:dh}{cut:Int}(hl:r.level=p)(h1:p<=16)(hn:(iM r).length=n)(h2:n<40)(Z:1<=n)(l0:0<=c.level)(l1:c.level<=16)(Q:gU (bT k) c=o){s:Int}(hs:0<=s/\s<60)(_:0<=cut)(E:o.length<=(gU (bT k) r).length)
  (hc:∀ i,i<(encS 3 (s+1) o).length->i<256->(encS 3 (s+1) o)[i]?=if (i:Int)<cut then (encS 3 (s+1) (gU (bT k) r))[i]? else some 0) :
  c.level=p/\(iM c).length=n/\∃ d,(∀ i,i<n->i<d->(iM c)[i]?=(iM r)[i]?)/\∀ i,i<n->¬i<d->(iM c)[i]?=(FH k p n)[i]?:=by
 obtain⟨a,l⟩:∃ a:Nat,c.level=a:=⟨c.level.toNat,a_⟩;obtain⟨e,j⟩:=lm ((iM c).length);obtain⟨t,ex,X⟩:=Uk (bT k) hl a_ hn a_;obtain⟨q,rfl⟩:∃ q:Nat,s=q:=⟨s.toNat,a_⟩;have D:(gU (bT k) r).length=n+18:=by rw[ex];simp only[zl,gp,aAF,nJ,hn,X];omega
 have y:(gU (bT k) c).length=1+((eu (e:Int)).length+e)+16:=by unfold gU bH;rw[l,tJ a_];simp only[gp,zl,Yg,dA,jV,j];omega
 have U:=qC (e:Int);rw[Q] at y;have g:e<64:=a_;have V:(eu (e:Int)).length=1:=by rw[tJ g];rfl
 obtain⟨t',B,W⟩:=Uk (bT k) l a_ j g;rw[Q] at B;obtain⟨x,T⟩:=lm (gU (bT k) r);rw[T] at D E hc ex;obtain⟨N,L,a3⟩:=NP (q:=q+1) a_ (x:=o) a_;obtain⟨a4,K,a2⟩:=NP (q:=q+1) a_ (x:=x) a_;rw[show (q:Int)+1=((q+1:Nat):Int) from a_,L,K] at hc;have A:(uB (2*(q+1))::uB (2*o.length)::(o++N)).length=o.length+18:=by simp only[zl,gp];omega
 rw[A] at hc;have S:=hc 0 a_ a_;have J:0<cut:=by apply Decidable.byContradiction;intro w;rw[ay a_] at S;have:=YA (b:=0) a_ a_ (Option.some.inj S);omega
 have C:=hc 1 a_ a_;have I:1<cut:=by apply Decidable.byContradiction;intro w;rw[ay a_] at C;have:=YA (b:=0) a_ a_ (Option.some.inj C);omega
 rw[au a_] at C;have Y:=YA a_ a_ (Option.some.inj C);have G:e=n:=a_;subst G;have F:∀ i,i<o.length->o[i]?=if (i:Int)<cut-2 then x[i]? else some 0:=fun i m=>by have:=hc (2+i) a_ a_;rw[show 2+i=i+1+1 from a_,Ya,Ya,Ya,Ya,YW m,YW a_] at this;rw[this];by_cases f:(i:Int)<cut-2;rw[au f,au a_];rw[ay f,ay a_]
 have O:=F 1 a_;have H:(1:Int)<cut-2:=by apply Decidable.byContradiction;intro w;rw[ay a_,B] at O;have:=YA (b:=0) a_ a_ (Option.some.inj O);omega
 have P:=F 0 a_;rw[au a_,B,ex] at P;have a0:=YA a_ a_ (Option.some.inj P);have z:a=p:=a_;subst z;refine⟨l,j,(cut-4).toNat,?_⟩;have a1:(jG (Go.Proofs.YtndpjopifkbgiaaGreatDoor.keyS (pY (bT k)) (a:Int)) (e:Int)).length=e:=by rw[nJ];omega
 have u:∀ i (m:i<e),(some ((iM c)[i] ^^^ (FH k a e)[i]'(by unfold FH;omega)):Option UInt8)=if (i:Int)<cut-4 then some ((iM r)[i] ^^^ (FH k a e)[i]'(by unfold FH;omega)) else some 0:=fun i m=>by have h:=F (2+i) a_;rw[B,ex,show 2+i=i+1+1 from a_,Ya,Ya,Ya,Ya,YW (by rw[aAF];omega),YW (by rw[aAF];omega),U4 a_ a_,U4 a_ a_] at h;refine h.trans ?_;by_cases f:(i:Int)<cut-4;rw[au f,au a_];rfl;rw[ay f,ay a_]
 refine⟨fun i m hd=>?_,fun i m hd=>?_⟩;have h:=u i m;rw[au a_] at h;rw[zH a_,zH a_,PZ (Option.some.inj h)];have h:=u i m;rw[ay a_] at h;rw[zH a_,zH (by unfold FH;omega),xor_zero (Option.some.inj h)]
theorem Rk{b:Nat}{l:List Nat}(h:ksC b l=true):l.getD 1 0≠2*b/\l.getD 17 0≠0/\(l.getD 18 0 % 4≠0\/60<l.getD 18 0\/10<l.getD 19 0):=by
 unfold ksC at h;rw[ww,ww,aAR,aAR] at h;obtain⟨⟨d,c⟩,a⟩:=h;refine⟨fun e=>(by rw[e,aCg] at d;cases d),fun e=>(by rw[e] at c;cases c),?_⟩;rcases a with (a|a)|a
 exact .inl fun e=>by rw[e] at a;cases a
 exact .inr (.inl (Yp a));exact .inr (.inr (Yp a))
theorem IE{k:Nat}(hk:k<3){r a:l_}(g:CB r)(hp:r.payload.size<=5)(ho:0<=r.ol/\r.ol<16){o:dh}{cut s:Int}(hs:0<=s/\s<60)(h0:0<=cut)(y:o.length<=(gU (bT k) r).length)
  (hc:∀ i,i<(encS 3 (s+1) o).length->i<256->(encS 3 (s+1) o)[i]?=if (i:Int)<cut then (encS 3 (s+1) (gU (bT k) r))[i]? else some 0) (hd:xB (bT k) (strOf o)=(a,true)) :
  a.kind=r.kind/\a.level=r.level/\a.payload.size<=5/\∀ t l:Nat,l % 2=0->l<16->a.ot=Cb t->a.ol=l->r.ot=Cb t/\r.ol=l:=by
 obtain⟨d1,d2,d3,d4⟩:=aGk hd
 have G:gU (bT k) a=o:=by
  have:(gX (bT k) a).data.toList=(strOf o).data.toList:=by rw[d4]
  unfold gX at this;rw[dI,dI] at this;exact this
 obtain⟨m,E⟩:∃ m:Nat,r.level=m:=⟨r.level.toNat,by have:=g.l0;omega⟩;obtain⟨K,x⟩:∃ K:Nat,r.ol=K:=⟨r.ol.toNat,a_⟩;obtain⟨n,A,S⟩:∃ n:Nat,r.kind=n/\n<3:=⟨r.kind.toNat,by have:=g.kind;omega,by have:=g.kind;omega⟩;obtain⟨C,f,F⟩:∃ n:Nat,a.kind=n/\n<3:=⟨a.kind.toNat,a_,a_⟩;have z:m<=16:=by have:=g.l1;omega
 have hot:=g.ot;have p:=bEg A E a_ a_;unfold bH at p;rw[x,tJ a_,tJ (by rw[yB];omega)] at p;have Z:(iM r).length=20+r.payload.size:=by rw[p];simp only[zl,gp,Yg,yB];omega
 obtain⟨L,V,d,H,hB⟩:=aYh E z Z a_ a_ d2 d3 G hs h0 y hc;obtain⟨f1,f2,f3⟩:=Rk (Ri hk z);have c:∀ i,i<20->¬i<d->(iM a)[i]?=(FH k m 20)[i]?:=fun i hi hd=>by rw[hB i a_ hd,Wn k m a_ hi]
 have b:=bEg f L a_ a_;have I:(iM a)[1]?=some (uB (2*m)):=by rw[b];rfl
 have a2:2<=d:=by apply Decidable.byContradiction;intro N;rw[c 1 a_ a_] at I;have:=FW I;rw[aGA,Yq a_] at this;exact f1 this
 have J:=H 0 a_ a_;rw[p,b] at J;have a1:=YA a_ a_ (Option.some.inj J);have Y:(eu a.ol).length+((eu (a.payload.data.toList.length:Int)).length+a.payload.size)+2+a.ot.length=20+r.payload.size:=by rw[<-V,b];unfold bH;simp only[zl,gp,yB];omega
 have X:=qC a.ol;have W:=qC (a.payload.data.toList.length:Int)
 have e:a.ot.length=16:=by
  have:=(aMe (bT k) (strOf o) (by
   rw[aW,<-G];have:=sS (bT k) r g;unfold gX at this;rw[aW] at this;rw[<-G] at y
   omega)).ot
  rw[hd] at this;exact this
 refine⟨by rw[A,f];omega,by rw[L,E],a_,fun t l a0 Q O D=>?_⟩;have w:(iM a)[17]?=some 0:=by rw[b,show 17=2+15 from rfl,Ji a_,O];rfl
 have U:18<=d:=by apply Decidable.byContradiction;intro N;rw[c 17 a_ a_] at w;exact f2 (FW w)
 have B:iM a=uB (2*C)::uB (2*m)::(a.ot++([uB (2*l)]++bH a.payload.data.toList)):=by rw[b,D,tJ a_]
 have h:(iM a)[18]?=some (uB (2*l)):=by rw[B,show 18=18+0 from rfl,Ju e];rfl
 have P:a.payload.size<=5:=a_
 have T:19<=d:=by
  apply Decidable.byContradiction;intro N;have u:(iM a)[19]?=some (uB (2*a.payload.size)):=by rw[B,show 19=18+1 from rfl,Ju e];unfold bH;rw[yB,tJ a_];rfl
  rw[c 18 a_ a_] at h;rw[c 19 a_ a_] at u;have g1:=FW h;have g2:=FW u;rw[aGA,Yq a_] at g1 g2;omega
 refine⟨?_,?_⟩;rw[<-O];apply YZ;intro j;by_cases hj:j<16;have:=H (2+j) a_ a_;rw[p,b,Ji a_,Ji a_] at this;exact this.symm;rw[YQ a_,YQ a_];have q:=H 18 a_ a_;rw[h,p,show 18=18+0 from rfl,Ju hot] at q;have:=YA a_ a_ (Option.some.inj q);omega
structure YE where
 t:dh
 l:Int
structure Oo where
 t:dh
 l:Int
 n:Int
 c:l9
 g:dh
structure qf where
 h:Nat->jd
 p:Nat->List Fl
 CG:List YE
 zu:List Oo
 se:Nat->List Int
 bad:Bool
def Ee:YE:=⟨AO,0⟩
def Ag:Oo:=⟨AO,0,0,aG,AO⟩
def Ez{a:Type}(g:a->dw)(d:a)(l:List a):Nat->dw:=fun i=>g (l.getD i d)
def aDE(o:YE):dw:=[.bs 16 o.t,.lit (.int .i64 o.l)]
def aBO(o:Oo):dw:=[.bs 16 o.t,.lit (.int .i64 o.l),.lit (.int .i64 o.n),.lit (.string o.c),.bs 16 o.g]
def Iu(n:Int):dw:=[.lit (.int .i64 n)]
def wPn(k:Nat):Nat:=match k with
 |0=>900013|1=>900014|_=>900015
def wSn(k:Nat):Nat:=match k with
 |0=>900019|1=>900020|_=>900021
def zi(S:qf)(i:Nat):dw:=[.ow (wPn i) 0 1 0 (S.p i).length]
def zq(S:qf)(i:Nat):dw:=[.ow (wSn i) 0 1 0 (S.se i).length]
def aBL(S:qf):dw:=[.ow 900011 0 18 0 3,.ow 900012 0 1 0 3,.ow 900016 0 17 0 S.CG.length,.ow 900017 0 35 0 S.zu.length,.ow 900018 0 1 0 3,.lit (.bool S.bad)]
def uy:List Nat:=[900010,900011,900012,900013,900014,900015,900016,900017,900018,900019,900020,900021]
def Ac(S:qf):ug:=[(900010,.box 57 (aBL S)),(900011,.arr 65 18 3 (Xu S.h)),(900012,.arr 100 1 3 (zi S)),
 (900013,.arr 63 1 (S.p 0).length (Ez flE [] (S.p 0))),(900014,.arr 63 1 (S.p 1).length (Ez flE [] (S.p 1))),(900015,.arr 63 1 (S.p 2).length (Ez flE [] (S.p 2))),
 (900016,.arr 25 17 S.CG.length (Ez aDE Ee S.CG)),(900017,.arr 29 35 S.zu.length (Ez aBO Ag S.zu)),(900018,.arr 101 1 3 (zq S)),
 (900019,.arr 3 1 (S.se 0).length (Ez Iu 0 (S.se 0))),(900020,.arr 3 1 (S.se 1).length (Ez Iu 0 (S.se 1))),(900021,.arr 3 1 (S.se 2).length (Ez Iu 0 (S.se 2)))]
theorem Ls{os:ug}{c:PC}(h:aY false c=true):xq os c=true:=by cases c<;>first|exact h|cases h
theorem aPh{os:ug}{l:dw}(h:l.all (aY false)=true):l.all (xq os)=true:=List.all_eq_true.2 fun c a=>Ls (List.all_eq_true.1 h c a)
theorem uS{b:Type}{g:b->dw}(c:∀ a,(g a).all (aY false)=true){os:ug}{d:b}{l:List b}(i:Nat):(Ez g d l i).all (xq os)=true:=aPh (c _)
theorem iQ(S:qf):∀ q∈Ac S,D6 (Ac S) q.2:=by
 intro q b;simp only[Ac,zg,YP,or_false] at b;rcases b with rfl|rfl|rfl|rfl|rfl|rfl|rfl|rfl|rfl|rfl|rfl|rfl;rfl;exact fun i _=>aPh (List.all_eq_true.2 (aAh (S.h i)))
 ·intro i a
  rcases ES a with rfl|rfl|rfl<;>rfl
 exact fun i _=>uS (fun _=>rfl) i;exact fun i _=>uS (fun _=>rfl) i;exact fun i _=>uS (fun _=>rfl) i;exact fun i _=>uS (fun _=>rfl) i;exact fun i _=>uS (fun _=>rfl) i
 ·intro i a
  rcases ES a with rfl|rfl|rfl<;>rfl
 exact fun i _=>uS (fun _=>rfl) i;exact fun i _=>uS (fun _=>rfl) i;exact fun i _=>uS (fun _=>rfl) i
theorem qV(S:qf):(Ac S).map (·.1)=uy:=rfl
theorem gY:Gt uy=true:=ai
theorem nX{P:Program}{fn:Func}{os:ug}{a:PV}{out:Out}{t:List (Nat×mi×PV)}(h:(yx P fn.results).exec none ⟨t,headW os⟩ [] [] [] []=some out)(hc:All out.conds)(c:out.wr=[])(d:out.val=a)(f:rZ (xq os) a=true)(e:∀ q∈os,D6 os q.2)(hd:Gt (os.map (·.1))=true):YD P fn os a ⟨t,headW os⟩:=⟨out,h,hc,c,d,f,fun q b=>⟨by show find (headW os) q.1=_;rw[rE,sO b hd];rfl,e q b⟩⟩
def GR(H:Nat->jd)(a:Bool):qf:=⟨H,fun k=>[(H k).f],[],[],fun _=>[],a⟩
def aNO(x:Nat):Nat:=match bu x 1003,bu x 12007,bu x 1000,bu x 1001,bu x 13016,bu x 13017,bu x 13018 with
 |true,_,_,_,_,_,_=>900010|_,true,_,_,_,_,_=>900011|_,_,true,_,_,_,_=>900012|_,_,_,true,_,_,_=>900018|_,_,_,_,true,_,_=>900013|_,_,_,_,_,true,_=>900014|_,_,_,_,_,_,true=>900015|_,_,_,_,_,_,_=>x
def Xk(k i:Nat):dw:=match Hm i k with
 |true=>[.ow (wSn i) 0 1 0 0]|false=>[.lit (.slice none 0 0)]
theorem TT(q:QS)(n0 g n2:jd)(L:D5 (bT 0)=n0)(e1:D5 (bT 1)=g)(e2:D5 (bT 2)=n2)(eq:cZ [] (bU Oj) n0 0=q):DI prog af 12 [] (Ac (GR (E8 q g n2) (Gs q))) [] (dm (.pt 900010 0 0)):=by
 have p:∃ c,Tryz.f12.body=some c:=⟨_,rfl⟩;obtain⟨c,r⟩:=p;refine aFz func12 r rfl rfl (by rw[qV];exact gY) (fun x t l h=>by cases h) (fun q s=>by cases s) rfl (fun A u C k B=>?_);have k:=k rfl;obtain⟨N,o,z⟩:=bIx q n0 g n2 L e1 e2 eq k u B;obtain rfl:N=c:=Option.some.inj (o.symm.trans r);have f:∀ {i:Nat},i<3->i=0\/i=1\/i=2:=fun h=>a_;refine z _ (fun a w y=>?_)
 have K:=y.ren (m:=aNO) (R:=[(1000,zi (GR (E8 q g n2) (Gs q)))]) k ai (by
  simp only[All,and_true]
  exact⟨ca (eP _ _),(fun i d=>by rcases f d with rfl|rfl|rfl<;>rfl),ca (iJ _),xx _,xx _,xx _⟩)
 have J:=K.BV (x:=900016) (b:=900010) (e:=25) (n:=17) (l1:=[.ow 900011 0 18 0 3,.ow 900012 0 1 0 3]) ai ai;have I:=J.BV (x:=900017) (b:=900010) (e:=29) (n:=35) (l1:=[.ow 900011 0 18 0 3,.ow 900012 0 1 0 3,.ow 900016 0 17 0 0]) ai ai
 have H:=I.Dj (x:=900019) (b:=900018) (e:=3) (n:=1) (j:=0) (f':=Xk 1) ai ai rfl rfl (fun i d h=>by rcases f d with rfl|rfl|rfl<;>first|rfl|exact absurd rfl h)
 have G:=H.Dj (x:=900020) (b:=900018) (e:=3) (n:=1) (j:=1) (f':=Xk 2) ai ai rfl rfl (fun i d h=>by rcases f d with rfl|rfl|rfl<;>first|rfl|exact absurd rfl h)
 have F:=G.Dj (x:=900021) (b:=900018) (e:=3) (n:=1) (j:=2) (f':=Xk 3) ai ai rfl rfl (fun i d h=>by rcases f d with rfl|rfl|rfl<;>first|rfl|exact absurd rfl h)
 have E:=F.jh (os:=[]) (R:=[(900012,zi (GR (E8 q g n2) (Gs q))),(900018,zq (GR (E8 q g n2) (Gs q)))]) (kT:=[0]) (kO:=uy) C ai (by
  simp only[Lt,Ha,yz,All,and_true]
  exact⟨ca (eP _ _),(fun i d=>by rcases f d with rfl|rfl|rfl<;>rfl),xx _,xx _,xx _,(fun i d=>a_),(fun i d=>a_),(fun i d=>by rcases f d with rfl|rfl|rfl<;>rfl),(fun i d=>a_),(fun i d=>a_),(fun i d=>a_)⟩)
 have D:oq A ⟨[(0,none,dm (.pt 900010 0 0))],headW (Ac (GR (E8 q g n2) (Gs q)))⟩ a w:=E.same ((iP _))
  (
   .cb (.cons (.arr rfl fun _ _=>rfl) (.cons (.arr rfl fun _ _=>rfl)
   (.cons (.arr rfl fun i d=>by obtain rfl:i=0:=a_;rfl) (.cons (.arr rfl fun i d=>by obtain rfl:i=0:=a_;rfl) (.cons (.arr rfl fun i d=>by obtain rfl:i=0:=a_;rfl)
   (.cons (.arr rfl fun i d=>absurd d (Nat.not_lt_zero _)) (.cons (.arr rfl fun i d=>absurd d (Nat.not_lt_zero _)) (.cons (.arr rfl fun _ _=>rfl)
   (.cons (.arr rfl fun i d=>absurd d (Nat.not_lt_zero _)) (.cons (.arr rfl fun i d=>absurd d (Nat.not_lt_zero _)) (.cons (.arr rfl fun i d=>absurd d (Nat.not_lt_zero _)) .nil))))))))))))
 exact⟨.inr rfl,_,nX ai b_ rfl rfl rfl (iQ _) (by rw[qV];exact gY),D⟩
def BA(e:EvS):Nat:=(e.dev % 3).toNat
def bK(e:EvS):Int:=2+e.kind % 6
def Ur(e:EvS):jy:={ BG (BA e) (bK e) with payload:=strOf [112,uB e.msg.toNat] }
def E_{a:Type}(l:List a)(d:a)(n:Int):a:=l.getD (n % l.length).toNat d
def GZ(S:qf)(e:EvS)(m:jy):jy:=bif bK e==5 then { m with ot:=(E_ S.CG Ee e.msg).t,ol:=(E_ S.CG Ee e.msg).l } else m
def Gu(S:qf)(e:EvS)(m:jy):jy:=bif bK e==7 then { m with xt:=(E_ S.zu Ag e.msg).t,xl:=(E_ S.zu Ag e.msg).l,bn:=(E_ S.zu Ag e.msg).n,bc:=(E_ S.zu Ag e.msg).c,bt:=(E_ S.zu Ag e.msg).g } else m
def BD(S:qf)(e:EvS):jy:=Gu S e (GZ S e (Ur e))
def CJ(S:qf)(e:EvS):jd:=bif e.replay % 2==1 then { S.h (BA e) with f:=E_ (S.p (BA e)) [] (e.replay / 2) } else S.h (BA e)
def zx{b:Type}(f:Nat->b)(k:Nat)(a:b)(i:Nat):b:=match bu i k with
 |true=>a|false=>f i
def NG(S:qf)(e:EvS):QS:=cZ (mG e) (bU (BD S e)) (CJ S e) 0
def uM(S:qf)(k:Nat)(q:QS):qf:={ S with h:=zx S.h k q.2.1,p:=zx S.p k (S.p k++[q.2.1.f]) }
def Tv(q:QS):Bool:=bif !q.1.isSome then true else (aP q.1).err != 0
def bCn(b:Bool)(q:QS):Bool:=bif b then true else bif q.1.isSome then (aP q.1).err==12 else false
def Ce(o:Int)(b:Bool)(l:List Int):Bool:=l.foldl (fun b x=>bif b then true else decide (o<=x)) b
def stepT(S:qf)(k:Nat)(a:Int)(q:QS):qf:=bif Tv q then { uM S k q with bad:=bCn S.bad q }
 else bif a==2 then { uM S k q with bad:=Ce (aP q.1).session S.bad (S.se k),se:=zx S.se k (S.se k++[(aP q.1).session]) }
 else bif a==4 then { uM S k q with CG:=S.CG++[⟨(aP q.1).ot,(aP q.1).ol⟩] }
 else bif a==5||a==6 then { uM S k q with zu:=S.zu++[⟨(aP q.1).xt,(aP q.1).xl,(aP q.1).bn,(aP q.1).bc,(aP q.1).bt⟩] } else uM S k q
def Uy(S:qf)(e:EvS):Bool:=(bK e==5&&S.CG.isEmpty)||(bK e==7&&S.zu.isEmpty)
def stepS(S:qf)(e:EvS):qf:=bif Uy S e then S else stepT S (BA e) (bK e) (NG S e)
structure ET(S:qf):Prop where
 PG:∀ k,k<3->qc (S.h k)
 p1:∀ k,k<3->1<=(S.p k).length/\(S.p k).length<=100000
 pf:∀ k,k<3->∀ f∈S.p k,qc { S.h k with f:=f }
 on:S.CG.length<=100000
 ok:∀ o∈S.CG,o.t.length=16/\ja o.l
 tn:S.zu.length<=100000
 tk:∀ o∈S.zu,o.t.length=16/\ja o.l/\ja o.n/\o.c.size<=2000
 sn:∀ k,k<3->(S.se k).length<=100000
def Ap:List (Nat×Spec):=[(14,aU true G6),(16,aU true XA),(15,aU false Zy)]
theorem aBT:∀ p∈Ap,d_ prog af p.1 p.2:=by intro p a;simp only[Ap,zg,YP,or_false] at a;rcases a with rfl|rfl|rfl;exact aDb;exact MX;exact aAa
theorem stM:jq prog af (find Ap):=⟨bG aBT,dV⟩
def st3(S:qf)(e:EvS)(k:Nat)(m:jy):St:=⟨[(5,none,dm (.pt 2007 0 0)),(4,none,iy k),(3,none,dm (.pt 0 0 0)),(0,none,dm (.pt 900010 0 0))],
 (2007,none,0,.box 31 (Ad m))::(0,none,0,.box 46 (PE e))::headW (Ac S)⟩
def aBY(S:qf)(e:EvS)(k:Nat)(m:jy)(h:jd):St:=⟨[(6,none,dm (.pt 10007 0 0)),(5,none,dm (.pt 2007 0 0)),(4,none,iy k),(3,none,dm (.pt 0 0 0)),(0,none,dm (.pt 900010 0 0))],
 (10007,none,0,.box 65 (p_ h))::(2007,none,0,.box 31 (Ad m))::(0,none,0,.box 46 (PE e))::headW (Ac S)⟩
def aLB(S:qf)(k:Nat)(m:jy)(q:QS):St:=⟨[(10,none,rf q.1.isSome),(8,none,dm (.pt 13011 0 0)),(7,none,dm (.pt 13010 0 0)),(5,none,dm (.pt 2007 0 0)),(4,none,iy k),(0,none,dm (.pt 900010 0 0))],
 (13010,none,0,.box 65 (p_ q.2.1))::(13011,none,0,.box 40 (j_ (aP q.1)))::(2007,none,0,.box 31 (Ad m))::headW (Ac S)⟩
def aBX(U:qf)(k:Nat)(m:jy)(q:QS):St:=⟨[(10,none,rf q.1.isSome),(8,none,dm (.pt 13011 0 0)),(5,none,dm (.pt 2007 0 0)),(4,none,iy k),(0,none,dm (.pt 900010 0 0))],
 (13011,none,0,.box 40 (j_ (aP q.1)))::(2007,none,0,.box 31 (Ad m))::headW (Ac U)⟩
theorem J7{b:Type}{g:b->dw}(c:∀ a,(g a).all (aY false)=true){d:b}{l:List b}{n:Nat}:∀ i,i<n->(Ez g d l i).all (aY false)=true:=fun _ _=>c _
theorem XK{e:EvS}(a:vw e):(IntKind.wrap .i64 e.dev).tmod 3=((BA e:Nat):Int):=by obtain⟨b,c⟩:=a.dev;unfold BA;rw[TC,show (e.dev+9223372036854775808) % 18446744073709551616-9223372036854775808=e.dev by omega,aCo b];omega
theorem SS{e:EvS}(a:vw e):IntKind.wrap .i64 (2+(IntKind.wrap .i64 e.kind).tmod 6)=bK e:=by obtain⟨b,c⟩:=a.kind;unfold bK;rw[TC,TC,show (e.kind+9223372036854775808) % 18446744073709551616-9223372036854775808=e.kind by omega,aCo b];omega
theorem XI{e:EvS}(b:vw e):e.replay.tmod 2=e.replay % 2/\IntKind.wrap .i64 (IntKind.wrap .u8 (e.replay.tdiv 2))=e.replay / 2/\0<=e.replay / 2:=by
 obtain⟨a,d⟩:=b.replay;have c:IntKind.wrap .u8 (e.replay.tdiv 2)=e.replay / 2:=by rw[Int.tdiv_eq_ediv_of_nonneg a];show (e.replay / 2) % 256=e.replay / 2;omega
 refine⟨aCo a,?_,a_⟩;rw[c,TC];omega
theorem Y6(e:EvS):BA e<3:=by unfold BA;omega
theorem aXs{n:Int}(hn:0<=n){a:Type}{l:List a}(hl:¬l=[]):n.tmod l.length=n % l.length/\0<=n % (l.length:Int)/\n % (l.length:Int)<l.length/\(n % (l.length:Int)).toNat<l.length:=by
 have e:0<l.length:=by
  cases l with
  |nil=>exact absurd rfl hl|cons x l=>simp
 have d:=Int.emod_nonneg n (b:=(l.length:Int)) a_;have c:=Int.emod_lt_of_pos n (b:=(l.length:Int)) a_;exact⟨aCo hn,d,c,a_⟩
theorem aLf{a:Type}{l:List a}:((l.length:Int)==0)=l.isEmpty:=by
 cases l with
 |nil=>rfl|cons x l=>simp;omega
theorem XH{e:EvS}(a:vw e):FX 2 fun i=>[[PC.lit (ed ry 112)],[PC.lit (ed ry e.msg)]][i]?.getD []:=by intro i f;obtain⟨d,c⟩:=a.msg;have b:i=0\/i=1:=a_;rcases b with rfl|rfl;rfl;simp[isByte,d,c]
theorem OW{a:Type}{g:a->dw}{d x:a}{l:List a}{c:Nat->dw}(h:c 0=g x):∀ i,i<l.length+1->uh l.length (Ez g d l) c i=Ez g d (l++[x]) i:=by intro i e;unfold uh Ez;rw[zG,zG];by_cases b:i<l.length;rw[au b,YW b];obtain rfl:i=l.length:=a_;rw[ay b,Yf,h,Ye (dC _),Yf];rfl
theorem wB{a:Type}{l:List a}{x:a}:l.length+1=(l++[x]).length:=by rw[gp];rfl
def wPX(S:qf)(k i:Nat):dw:=[.ow (wPn i) 0 1 0 (match bu i k with
 |true=>(S.p i).length+1|false=>(S.p i).length)]
theorem VB(S:qf)(k:Nat)(q:QS)(i:Nat):wPX S k i=zi (uM S k q) i:=by
 unfold wPX zi uM zx;dsimp only;cases h:bu i k with
 |false=>rfl|true=>rw[ig h];dsimp only;rw[wB]
def wSX(S:qf)(k i:Nat):dw:=[.ow (wSn i) 0 1 0 (match bu i k with
 |true=>(S.se i).length+1|false=>(S.se i).length)]
theorem VA(S:qf)(k:Nat)(b:Bool)(x:Int)(i:Nat):wSX S k i=zq { S with bad:=b,se:=zx S.se k (S.se k++[x]) } i:=by
 unfold wSX zq zx;dsimp only;cases h:bu i k with
 |false=>rfl|true=>rw[ig h];dsimp only;rw[wB]
theorem aCK{b:Type}{g:b->dw}(c:∀ a,(g a).all (aY false)=true){d:b}{l:List b}:∀ i,i<l.length->∀ x∈Ez g d l i,aY false x=true:=fun _ _=>List.all_eq_true.1 (c _)
theorem Qu{a b:Nat}(h1:a<=100000)(h2:b<=1000):(a+1)*b<=140737488355328:=PP (Nat.mul_le_mul (Nat.succ_le_succ h1) h2) a_
theorem Am:∀ l:Wr,yj l l
 |[]=>.nil|(_,_,_,.box _ _)::l=>.cb (Am l)|(_,_,_,.arr _ _ _ _)::l=>.cons (.arr rfl fun _ _=>rfl) (Am l)|(_,_,_,.dead)::l=>.cons .dead (Am l)|(_,_,_,.dev _ _ _)::l=>.cons (.dev rfl) (Am l)
theorem s25:prog.types[25].size=17:=ah
theorem s29:prog.types[29].size=35:=ah
theorem AU{cs:List Prop} (h:All cs:=by
  simp only[Lt,Ha,yz,All,and_true];refine⟨?_,?_,?_,?_,?_,?_,?_,?_,?_,?_,?_⟩
  all_goals
   first
    |exact J7 (fun _=>rfl)
    |exact ca (eP _ _)
    |exact ca (wC (aCK (fun _=>rfl)) (List.all_eq_true.1 rfl))
    |(intro i a;rcases ES a with rfl|rfl|rfl<;>rfl)
    |exact fun i a=>rfl):All cs:=h
theorem wsm{o a:Wr} (h:yj o a:=by
  refine .cons ?_ (.cons ?_ (.cons ?_ (.cons ?_ (.cons ?_ (.cons ?_ (.cons ?_ (.cons ?_ (.cons ?_ (.cons ?_ (.cons ?_ (.cons ?_ .nil)))))))))))
  all_goals
   first
    |exact .box rfl
    |exact .arr rfl fun _ _=>rfl
    |exact .arr wB (OW rfl)
    |exact .arr rfl fun i _=>VB _ _ _ i|exact .arr rfl fun i _=>VA _ _ _ _ i
    |(refine .arr rfl ?_;intro i b;rcases ES b with rfl|rfl|rfl<;>rfl)
    |(refine .box ?_;unfold aBL;dsimp only;rw[<-wB];first|rw[s25]|rw[s29])):yj o a:=h
theorem Vs:prog.types[25].bytes<=1000:=Yp ah
theorem Vr:prog.types[29].bytes<=1000:=Yp ah
theorem aDD:prog.types[3].bytes<=1000:=Yp ah
def aKZ(U:qf)(k:Nat)(m:jy)(q:QS)(b:Bool):St:=⟨[(236,none,rf b),(8,none,dm (.pt 13011 0 0)),(5,none,dm (.pt 2007 0 0)),(4,none,iy k),(0,none,dm (.pt 900010 0 0))],
 (13011,none,0,.box 40 (j_ (aP q.1)))::(2007,none,0,.box 31 (Ad m))::headW (Ac U)⟩
theorem bCv(o:Int)(b:Bool)(l:List Int){i:Nat}(h:i<l.length):Ce o b (l.take (i+1))=(bif Ce o b (l.take i) then true else decide (o<=l.getD i 0)):=by unfold Ce;rw[lS l i h,List.foldl_append,zG,zH h];rfl
def aBU(U:qf)(k:Nat)(m:jy)(q:QS)(i:Nat)(b:Bool):St:=⟨[(11,none,iy i),(8,none,dm (.pt 13011 0 0)),(5,none,dm (.pt 2007 0 0)),(4,none,iy k),(0,none,dm (.pt 900010 0 0))],
 (13011,none,0,.box 40 (j_ (aP q.1)))::(2007,none,0,.box 31 (Ad m))::headW (Ac { U with bad:=b })⟩
theorem MF(S:qf){x:Nat}(h:x∈uy):qp (Ac S) x=true:=by
 simp only[uy,zg,YP,or_false] at h
 rcases h with rfl|rfl|rfl|rfl|rfl|rfl|rfl|rfl|rfl|rfl|rfl|rfl<;>rfl
theorem aGw{a:Type}{l:List a}{d:a}{n:Int}(hn:0<=n)(hl:¬l=[]):E_ l d n∈l:=by obtain⟨_,_,_,h⟩:=aXs hn hl;unfold E_;rw[zG,zH h];exact ZN h
theorem bJc{a:Type}{p:a->Prop}{l:List a}{d:a}{n:Int}(hn:0<=n)(h:∀ x∈l,p x)(hd:p d):p (E_ l d n):=by by_cases b:l=[];subst b;exact hd;exact h _ (aGw hn b)
theorem bHl{S:qf}{e:EvS}(h:vw e)(hS:ET S):vk (BD S e):=by
 have b:vk (Ur e):=by have a:=Y8 (BA e) (bK e);exact⟨a.root,a.link,a.ot,a.xt,a.ol,a.xl,a.bn,by show (strOf _).size<=10000;rw[aW];simp,a.bc⟩
 have g:ja 0:=by unfold ja;omega
 have i:=bJc (n:=e.msg) h.msg.1 hS.ok (d:=Ee) ⟨rfl,g⟩;have f:=bJc (n:=e.msg) h.msg.1 hS.tk (d:=Ag) ⟨rfl,g,g,by show aG.size<=2000;decide⟩;have c:vk (GZ S e (Ur e)):=by unfold GZ;cases (bK e==5);exact b;exact⟨b.root,b.link,i.1,b.xt,i.2,b.xl,b.bn,b.payload,b.bc⟩
 unfold BD Gu;cases (bK e==7);exact c;exact⟨c.root,c.link,c.ot,f.1,c.ol,f.2.1,f.2.2.1,c.payload,f.2.2.2⟩
theorem NI{S:qf}{e:EvS}(a:vw e)(hS:ET S):qc (CJ S e):=by unfold CJ;cases (e.replay % 2==1);exact hS.PG _ (Y6 e);refine hS.pf _ (Y6 e) _ (aGw (by have:=a.replay.1;omega) (fun h=>?_));have:=(hS.p1 _ (Y6 e)).1;rw[h] at this;cases this
theorem IU(S:qf)(e:EvS)(E:vw e)(hS:ET S)(B:qf)(O:stepS S e=B):DI prog af 13 (Ac S) (Ac B) [dm (.pt 900010 0 0),.w (.agg (PE e))] (.og []):=by
 have M:=stM;have V:=Y6 e;have ek:=XK E;have e8:IntKind.wrap .i64 e.msg=e.msg:=by rw[TC];obtain⟨h1,h2⟩:=E.msg;omega
 refine aFz func13 rfl rfl (by rw[qV];exact gY) (by rw[qV];exact gY) (fun x t l h=>?_) (iQ S) rfl (fun A Q n _ W=>?_);exact MF B (by rw[<-qV S];exact wM (kG h));refine aN ?_;refine bY ?_ ?_;simp;rw[ek];omega;refine aH ?_ ?_;simp;exact XH E;obtain⟨m0,H⟩:∃ m,Ur e=m:=⟨_,rfl⟩;have I:m0.kind=bK e:=by rw[<-H];rfl
 refine bF (s':=st3 S e (BA e) m0) (fun a w g=>(
  (
   g.jh n (R:=[(900012,zi S),(900018,zq S)]) (kT:=[5,4,3,0]) (kO:=2007::0::uy) ai (by
   exact AU
   ))
  ).same ?_ ?_) ?_
 refine .cr (.cons ?_ ((iP _)));show iy _=iy _;rw[ek];refine .cons (.box ?_) (.cons (.box rfl) ?_);rw[<-H,ek,SS E];rfl
 exact
  (Am _)
 refine yX (fun u=>u=st3 S e (BA e) (GZ S e m0)/\(bK e==5&&S.CG.isEmpty)=false) ?_ (fun u o=>?_)
 ·refine lQ (fun d=>?_) (fun d=>?_)
  ·rw[I] at d;refine lM ?_;refine yY (b:=?_) ?_ (fun c=>?_) (fun c=>?_);rotate_left 1;rfl;rw[aLf] at c;have z:B=S:=by rw[<-O];unfold stepS Uy;rw[d,c];rfl
   rw[z]
   refine bI (fun a w g=>⟨.inr rfl,_,nX (t:=[]) ai b_ rfl rfl rfl (iQ _) (by rw[qV];exact gY),
    (
     g.jh n (R:=[(900012,zi S),(900018,zq S)]) (kT:=[]) (kO:=uy) ai (by
     exact AU
     ))
    ⟩)
   refine jD ?_;rw[aLf] at c;have s:¬S.CG=[]:=fun h=>by rw[h] at c;cases c
   obtain⟨P,Z,Y,X⟩:=aXs E.msg.1 s;refine aX M W Q (ai) ah ?_ ?_;simp;rw[e8,P];exact⟨s,⟨Z,Y⟩,X⟩
   refine fun a w g=>⟨_,⟨rfl,by rw[d,c];rfl⟩,(
    (
     g.jh n (R:=[(900012,zi S),(900018,zq S)]) (kT:=[5,4,3,0]) (kO:=2007::0::uy) ai (by
     exact AU
     ))
    ).same ?_ ?_⟩
   exact jg;refine .cons (.box ?_) (.cons (.box rfl) ?_);rw[e8,P];simp only[ik];unfold GZ;rw[d];rfl
   exact
    (Am _)
  rw[I] at d;refine iH ?_
  refine fun a w g=>⟨_,⟨rfl,by rw[d];rfl⟩,(
   (
    g.jh n (R:=[(900012,zi S),(900018,zq S)]) (kT:=[5,4,3,0]) (kO:=2007::0::uy) ai (by
    exact AU
    ))
   ).same ?_ ?_⟩
  exact jg;refine .cons (.box ?_) (.cons (.box rfl) ?_);unfold GZ;rw[d];rfl
  exact
   (Am _)
 obtain⟨rfl,a3⟩:=o;obtain⟨m1,G⟩:∃ m,GZ S e m0=m:=⟨_,rfl⟩
 have y:m1.kind=bK e:=by
  rw[<-G];unfold GZ
  cases (bK e==5)<;>exact I
 rw[G];refine yX (fun u=>u=st3 S e (BA e) (Gu S e m1)/\(bK e==7&&S.zu.isEmpty)=false) ?_ (fun u o=>?_)
 ·refine lQ (fun d=>?_) (fun d=>?_)
  ·rw [y] at d;refine lM ?_;refine yY (b:=?_) ?_ (fun c=>?_) (fun c=>?_);rotate_left 1;rfl
   ·rw[aLf] at c
    have z:B=S:=by
     rw[<-O];unfold stepS Uy;rw[d,c]
     cases (bK e==5&&S.CG.isEmpty)<;>rfl
    rw[z]
    refine bI (fun a w g=>⟨.inr rfl,_,nX (t:=[]) ai b_ rfl rfl rfl (iQ _) (by rw[qV];exact gY),
     (
      g.jh n (R:=[(900012,zi S),(900018,zq S)]) (kT:=[]) (kO:=uy) ai (by
      exact AU
      ))
     ⟩)
   refine jD ?_;rw[aLf] at c;have s:¬S.zu=[]:=fun h=>by rw[h] at c;cases c
   obtain⟨P,Z,Y,X⟩:=aXs E.msg.1 s;refine aX M W Q (ai) ah ?_ ?_;simp;rw[e8,P];exact⟨s,⟨Z,Y⟩,X⟩
   refine fun a w g=>⟨_,⟨rfl,by rw[d,c];rfl⟩,(
    (
     g.jh n (R:=[(900012,zi S),(900018,zq S)]) (kT:=[5,4,3,0]) (kO:=2007::0::uy) ai (by
     exact AU
     ))
    ).same ?_ ?_⟩
   exact jg;refine .cons (.box ?_) (.cons (.box rfl) ?_);rw[e8,P];simp only[ik];unfold Gu;rw[d];rfl
   exact
    (Am _)
  rw[y] at d;refine iH ?_
  refine fun a w g=>⟨_,⟨rfl,by rw[d];rfl⟩,(
   (
    g.jh n (R:=[(900012,zi S),(900018,zq S)]) (kT:=[5,4,3,0]) (kO:=2007::0::uy) ai (by
    exact AU
    ))
   ).same ?_ ?_⟩
  exact jg;refine .cons (.box ?_) (.cons (.box rfl) ?_);unfold Gu;rw[d];rfl
  exact
   (Am _)
 obtain⟨rfl,a2⟩:=o;obtain⟨m,hm⟩:=lm (BD S e);have T:Gu S e m1=m:=by rw[<-hm,<-G,<-H];rfl
 have j:m.kind=bK e:=by
  rw[<-T];unfold Gu
  cases (bK e==7)<;>exact y
 have D:stepT S (BA e) (bK e) (cZ (mG e) (bU m) (CJ S e) 0)=B:=by rw[<-O];unfold stepS Uy NG;rw[a3,a2,hm];rfl
 rw[T];clear T G H I y;have a8:prog.types[63].bytes<=1000:=Yp ah;have a4:vk m:=hm ▸ bHl E hS;have a7:qc (CJ S e):=NI E hS;obtain⟨r1,r2,r3⟩:=XI E;have hF:uV 250 (yg (mG e))=mG e:=by have:=bDh (mG e);rw[aLv] at this;exact this
 obtain⟨k,C⟩:=lm (BA e);rw[C] at V D;refine aH ?_ ?_;simp;rw[C];exact⟨a_,V⟩;rw[C]
 refine bF (s':=aBY S e k m (S.h k)) (fun a w g=>(
  (
   g.jh n (R:=[(900012,zi S),(900018,zq S)]) (kT:=[6,5,4,3,0]) (kO:=10007::2007::0::uy) ai (by
   exact AU
   ))
  ).same ?_ ?_) ?_
 exact jg;refine .cons (.box ?_) (.cb (.cons (.box rfl) ?_));simp only[ik,WF];rfl
 exact
  (Am _)
 have a5:=ES V;rcases a5 with rfl|rfl|rfl
 let K:=0;rotate_left;let K:=1;rotate_left;let K:=2;rotate_left
 all_goals
  refine yX (fun u=>u=aBY S e K m (CJ S e)) ?_ (fun u o=>?_);refine lQ (fun d=>?_) (fun d=>?_);rw[r1] at d;have s:¬S.p K=[]:=fun h=>by have:=(hS.p1 K V).1;rw[h] at this;cases this
  obtain⟨P,Z,Y,X⟩:=aXs r3 s;refine aX M W Q (ai) ah ?_ ?_;simp;rw[r2,P];exact⟨s,⟨Z,Y⟩,X⟩
  refine fun a w g=>⟨_,rfl,(
   (
    g.jh n (R:=[(900012,zi S),(900018,zq S)]) (kT:=[6,5,4,3,0]) (kO:=10007::2007::0::uy) ai (by
    exact AU
    ))
   ).same ?_ ?_⟩
  exact jg;refine .cons (.box ?_) (.cb (.cons (.box rfl) ?_));change [_,PC.sl 1 (List.length ((S.p K).getD (0+((IntKind.wrap .i64 (IntKind.wrap .u8 (e.replay.tdiv 2))).tmod ↑(S.p K).length).toNat) [])) (uo ((S.p K).getD (0+((IntKind.wrap .i64 (IntKind.wrap .u8 (e.replay.tdiv 2))).tmod ↑(S.p K).length).toNat) [])),_]=_;rw[r2,P];simp only[ik];unfold CJ;rw[C,d];rfl
  exact
   (Am _)
  rw[r1] at d;refine iH ?_
  refine fun a w g=>⟨_,rfl,(
   (
    g.jh n (R:=[(900012,zi S),(900018,zq S)]) (kT:=[6,5,4,3,0]) (kO:=10007::2007::0::uy) ai (by
    exact AU
    ))
   ).same ?_ ?_⟩
  exact jg;refine .cons (.box ?_) (.cb (.cons (.box rfl) ?_));unfold CJ;rw[C,d];rfl
  exact
   (Am _)
  obtain rfl:=o;refine aH ?_ ?_;simp;refine⟨E,fun _ _=>rfl,a7,by simp[uV],a4⟩;obtain⟨q,hq⟩:=lm (cZ (mG e) (bU m) (CJ S e) 0);rw[hq] at D
  refine bF (s':=aLB S K m q) (fun a w g=>(
   (
    g.jh n (R:=[(900012,zi S),(900018,zq S)]) (kT:=[10,8,7,5,4,0]) (kO:=13010::13011::2007::uy) ai (by
    exact AU
    ))
   ).same ?_ ?_) ?_
  refine .cons ?_ ((iP _));rw[<-hq];change rf (cZ (uV 250 (yg (mG e))) (bU m) (⟨bW (CJ S e).b.length (dK (CJ S e).b),iG (CJ S e).f.length (uo (CJ S e).f),(CJ S e).r⟩:jd) 0).1.isSome=_;rw[aJ,aZ,hF];refine .cons (.box ?_) (.cons (.box ?_) (.cons (.box rfl) ?_));rw[<-hq];change p_ (cZ (uV 250 (yg (mG e))) (bU m) (⟨bW (CJ S e).b.length (dK (CJ S e).b),iG (CJ S e).f.length (uo (CJ S e).f),(CJ S e).r⟩:jd) 0).2.1=_;rw[aJ,aZ,hF];rw[<-hq];change j_ (aP (cZ (uV 250 (yg (mG e))) (bU m) (⟨bW (CJ S e).b.length (dK (CJ S e).b),iG (CJ S e).f.length (uo (CJ S e).f),(CJ S e).r⟩:jd) 0).1)=_;rw[aJ,aZ,hF]
  exact
   (Am _)
  refine aH ?_ ?_;simp[K];refine aH ?_ ?_;simp[K];exact Qu (hS.p1 _ V).2 a8;obtain⟨U,hU⟩:=lm (uM S K q);have L:U.CG=S.CG/\U.zu=S.zu/\U.se=S.se/\U.bad=S.bad:=by rw[<-hU];exact⟨rfl,rfl,rfl,rfl⟩
  refine bF (s':=aBX U K m q) (fun a w g=>(g.jh n (R:=[(900012,wPX S K),(900018,zq S)]) (kT:=[10,8,5,4,0]) (kO:=13011::2007::uy) ai AU).same ?_ ?_) ?_;exact jg;rw[<-hU];exact .cb (.cons (.box rfl) wsm);refine yX (fun u=>u=aBX U K m q/\Tv q=false) ?_ (fun u o=>?_);refine lQ (fun d=>?_) (fun d=>?_);refine aH ?_ ?_;simp;exact fun a b=>⟨a,b⟩;have z:{ U with bad:=bCn U.bad q }=B:=by rw[<-D,<-hU];unfold stepT;rw[show Tv q=true from d];rfl
  rw[<-z]
  refine bI (fun a w g=>⟨.inr rfl,_,nX (t:=[]) ai b_ rfl rfl rfl (iQ _) (by rw[qV];exact gY),
   (
    g.jh n (R:=[(900012,zi U),(900018,zq U)]) (kT:=[]) (kO:=uy) ai (by
    exact AU
    )).same .nil ?_⟩)
  exact
   (Am _)
  refine iH ?_
  exact fun a w g=>⟨_,⟨rfl,d⟩,g.jh n (R:=[(900012,zi U),(900018,zq U)]) (kT:=[10,8,5,4,0]) (kO:=13011::2007::uy) ai (by
   exact AU
   )⟩
  obtain⟨rfl,a1⟩:=o
  have N:(bif bK e==2 then { U with bad:=Ce (aP q.1).session U.bad (U.se K),se:=zx U.se K (U.se K++[(aP q.1).session]) }
    else bif bK e==4 then { U with CG:=U.CG++[⟨(aP q.1).ot,(aP q.1).ol⟩] }
    else bif bK e==5||bK e==6 then { U with zu:=U.zu++[⟨(aP q.1).xt,(aP q.1).xl,(aP q.1).bn,(aP q.1).bc,(aP q.1).bt⟩] } else U)=B:=by
   rw[<-D,<-hU];unfold stepT;rw[a1];rfl
  clear D O;refine aN ?_;refine aS ?_;refine aN ?_;refine yY (b:=?_) ?_ (fun c=>?_) (fun c=>?_);rotate_left 1;rfl
  ·rw [j] at c;refine lM ?_
   refine bF (s':=aBU U K m q 0 (Ce (aP q.1).session U.bad ((U.se K).take 0))) (fun a w g=>(g.jh n (R:=[(900012,zi U),(900018,zq U)]) (kT:=[11,8,5,4,0]) (kO:=13011::2007::uy) ai (by
    exact AU
    )).same ?_ ?_) ?_
   exact jg;refine .cb (.cons (.box rfl) ?_)
   exact
    (Am _)
   refine aS ?_;refine fJ (U.se K).length (fun i t=>t=aBU U K m q i (Ce (aP q.1).session U.bad ((U.se K).take i))) 0 rfl a_ (fun i t hJ hi=>?_);subst hJ;obtain⟨b,hb⟩:=lm (Ce (aP q.1).session U.bad ((U.se K).take i));rw[hb];refine xU ?_ ?_;simp[K];refine dU (fun d=>?_) (fun d=>?_)
   ·refine jM ?_;refine aS ?_;have a0:i<(U.se K).length:=by simp at d;omega
    have F:=hS.sn K V;rw[<-L.2.2.1] at F;refine aX M W Q (ai) ah ?_ ?_;simp[K];exact fun _=>a0;change jw _ _ _ _ _;refine fP ?_
    refine fun a w g=>⟨i+1,_,a_,a_,rfl,(g.jh n (R:=[(900012,zi U),(900018,zq U)]) (kT:=[11,8,5,4,0]) (kO:=13011::2007::uy) ai (by
     exact AU
     )).same ?_ ?_⟩
    refine .cons ?_ ((iP _));have hw:IntKind.wrap .i64 ((i:Int)+1)=((i+1:Nat):Int):=by rw[TC];omega
    show iy _=_;rw[hw]
    ·refine .cb (.cons (.box rfl) ?_);rw[bCv _ _ _ a0,hb]
     exact
      (.cons (.box (by first|rfl|(simp only[ik,WF];rfl))) (Am _))
   refine dY ?_;change jw _ _ _ _ _;refine aX M W Q (ai) ah ?_ ?_;simp[K];have F:=hS.sn K V;rw[<-L.2.2.1] at F;exact Qu F aDD;have a6:i=(U.se K).length:=by simp at d;omega
   rw[a6,Zc] at hb;have z:{ U with bad:=b,se:=zx U.se K (U.se K++[(aP q.1).session]) }=B:=by rw[<-N,c,<-hb];rfl
   rw[<-z];exact fun a w g=>⟨.inl rfl,_,nX (t:=[]) ai b_ rfl rfl rfl (iQ _) (by rw[qV];exact gY),(g.jh n (R:=[(900012,zi U),(900018,wSX U K)]) (kT:=[]) (kO:=uy) ai AU).same .nil wsm⟩
  refine aN ?_;refine yY (b:=?_) ?_ (fun d=>?_) (fun J=>?_);rotate_left 1;rfl;refine aX M W Q (ai) ah ?_ ?_;simp;rw[L.1];exact Qu hS.on Vs;rw[j] at d c;have z:{ U with CG:=U.CG++[⟨(aP q.1).ot,(aP q.1).ol⟩] }=B:=by rw[<-N,c,d];rfl
  rw[<-z];exact fun a w g=>⟨.inl rfl,_,nX (t:=[]) ai b_ rfl rfl rfl (iQ _) (by rw[qV];exact gY),(g.jh n (R:=[(900012,zi U),(900018,zq U)]) (kT:=[]) (kO:=uy) ai AU).same .nil wsm⟩;refine yX (fun u=>u=aKZ U K m q (bK e==5||bK e==6)) ?_ (fun u o=>?_);refine lQ (fun d=>?_) (fun d=>?_);rw[j] at d;refine iH ?_
  refine fun a w g=>⟨_,rfl,(g.jh n (R:=[(900012,zi U),(900018,zq U)]) (kT:=[236,8,5,4,0]) (kO:=13011::2007::uy) ai (by
   exact AU
   )).same ?_ ?_⟩
  refine .cons ?_ ((iP _));show o7 (.bool _)=o7 (.bool _);rw[j,d];rfl;refine .cb (.cons (.box rfl) ?_)
  exact
   (Am _)
  rw[j] at d;refine fP ?_
  refine fun a w g=>⟨_,rfl,(g.jh n (R:=[(900012,zi U),(900018,zq U)]) (kT:=[236,8,5,4,0]) (kO:=13011::2007::uy) ai (by
   exact AU
   )).same ?_ ?_⟩
  refine .cons ?_ ((iP _));show o7 (.bool _)=o7 (.bool _);rw[j,d];rfl;refine .cb (.cons (.box rfl) ?_)
  exact
   (Am _)
  obtain rfl:=o;refine dU (fun d=>?_) (fun d=>?_);refine aX M W Q (ai) ah ?_ ?_;simp;rw[L.2.1];exact Qu hS.tn Vr;rw[j] at c J;have z:{ U with zu:=U.zu++[⟨(aP q.1).xt,(aP q.1).xl,(aP q.1).bn,(aP q.1).bc,(aP q.1).bt⟩] }=B:=by rw[<-N,c,J,d];rfl
  rw[<-z];exact fun a w g=>⟨.inl rfl,_,nX (t:=[]) ai b_ rfl rfl rfl (iQ _) (by rw[qV];exact gY),(g.jh n (R:=[(900012,zi U),(900018,zq U)]) (kT:=[]) (kO:=uy) ai AU).same .nil wsm⟩;refine iH ?_;rw[j] at c J;have z:U=B:=by rw[<-N,c,J,d];rfl
  rw[<-z];exact fun a w g=>⟨.inl rfl,_,nX (t:=[]) ai b_ rfl rfl rfl (iQ _) (by rw[qV];exact gY),(g.jh n (R:=[(900012,zi U),(900018,zq U)]) (kT:=[]) (kO:=uy) ai AU).same .nil wsm⟩
structure CZ(o:kz):Prop where
 ot:o.ot.length=16
 ol:ja o.ol
 xt:o.xt.length=16
 xl:ja o.xl
 bn:ja o.bn
 bc:o.bc.size<=2000
theorem aIt:ja 0:=by unfold ja;omega
theorem CZ.pl(s:Int)(p:l9)(e:Int):CZ { ni with session:=s,payload:=p,err:=e }:=⟨rfl,aIt,rfl,aIt,aIt,by show aG.size<=2000;decide⟩
theorem bIc(root:dh)(s:l9):(xB root s).1.payload.size<=s.size:=by
 unfold xB;cases b:wV root s.data.toList with
 |Dk=>exact xn _|EI=>exact xn _|okR p=>have a:=aFd b;rw[show s.data.toList.length=s.size from uA] at a;unfold P7;dsimp only;unfold WG;split;exact xn _;unfold WE;dsimp only;have c:=nD (Z5 (di (Z5 16 (Z5 (di (Z5 (di p).2.1 p)).2.1 (Z5 (di p).2.1 p)))).2.1 (Z5 16 (Z5 (di (Z5 (di p).2.1 p)).2.1 (Z5 (di p).2.1 p))));simp only[YO] at c;show (strOf _).size<=_;rw[aW];omega
theorem aPm(m:jy):aj.All (fun r:l_=>D9 r/\r.payload.size<=2000) (tu m):=by refine aj.All.bind (aFn 3) (fun s a=>?_);refine aj.All.bind (R:=fun _=>True) (aj.All.yt _) (fun _ _=>?_);refine aj.All.bind (R:=fun _=>True) (aj.All.yt _) (fun _ _=>?_);exact⟨aMe m.root s.content a_,PP (bIc _ _) a⟩
theorem aIa{a:dh}{r:l_}(h1:r.ot.length=16)(h2:ja r.ol)(h3:r.payload.size<=2000):CZ (gV a r):=by refine⟨rfl,aIt,h1,h2,h2,?_⟩;show (strOf _).size<=2000;rw[aW,dA,show r.payload.data.toList.length=r.payload.size from uA];exact h3
theorem Rl(m:jy)(e:vk m)(b:m.id.length=16){f:Nat}(j:f<=16):aj.All CZ (oJ m f):=by have t:∀ {d c:Type} {R:c->Prop} {p:aj d} {g:d->aj c},(∀ a,aj.All R (g a))->aj.All R (p.bind g):=fun h=>aj.All.bind (R:=fun _=>True) (aj.All.yt _) fun a _=>h a;have i:∀ p,aj.All CZ (mJ m f p):=fun p=>t fun _=>t fun _=>CZ.pl 0 p 0;unfold oJ;split;exact t fun _=>aj.All.bind (i _) fun o h=>h;split;exact t fun _=>t fun _=>t fun _=>t fun _=>t fun _=>t fun _=>CZ.pl _ _ 0;split;exact t fun _=>t fun _=>CZ.pl 0 _ 0;split;exact t fun _=>⟨b,by show ja (f:Int);unfold ja;omega,rfl,aIt,aIt,by show aG.size<=2000;decide⟩;split;exact t fun _=>aj.All.bind (aPm m) fun r h=>t fun _=>t fun _=>t fun _=>aIa e.ot e.ol h.2;split;exact t fun _=>aj.All.bind (aPm m) fun r h=>t fun _=>aIa h.1.ot h.1.ol h.2;exact t fun _=>t fun _=>t fun _=>t fun _=>aj.All.bind (i _) fun o h=>h
theorem bIq{b:Type}{R:b->Prop}{k:Int->b}(f:∀ e,R (k e)){p:aj b}(h:aj.All R p):aj.All R (aj.catch k p):=by
 induction p with
 |ret a=>exact h|ask c g d=>unfold aj.catch;split;exact f _;exact fun r=>d r (h r)
theorem QV(m:jy)(c:vk m)(a:m.id.length=16):aj.All CZ (bU m):=by refine bIq (fun e=>CZ.pl 0 aG e) ?_;refine aj.All.bind (R:=fun _=>True) (aj.All.yt _) fun _ _=>?_;exact aj.All.bind (aBh 3 16) fun n b=>Rl m c a b
theorem bHj{b:Type}{R:b->Prop}(F:List pq){p:aj b}:aj.All R p->∀ h i o,(cZ F p h i).1=some o->R o:=by
 induction p with
 |ret a=>intro h _ _ o e;cases e;exact h|ask c k d=>intro f h i o e;rw[cZ] at e;split at e;cases e;exact d _ (f _) _ _ _ e
theorem aJd{e:Type}(F:List pq)(p:aj e):aj.YG p->∀ h i,qc h->qc (cZ F p h i).2.1:=by
 induction p with
 |ret a=>intro _ h i d;exact d|ask c k f=>intro b h i d;rw[cZ];split;exact d.step b.1 _;exact f _ (b.2 _) _ _ (d.step b.1 _)
theorem NY{h g:jd}(d:qc h)(e:qc g):qc { h with f:=g.f }:=⟨⟨d.ok.nb,d.ok.nc,d.ok.val,e.ok.nf,e.ok.sz,d.ok.rt⟩,d.n,d.l2,d.l3,e.f⟩
structure U1(S:qf):Prop where
 PG:∀ k,k<3->qc (S.h k)
 p1:∀ k,k<3->1<=(S.p k).length
 pf:∀ k,k<3->∀ f∈S.p k,qc { S.h k with f:=f }
 ok:∀ o∈S.CG,o.t.length=16/\ja o.l
 tk:∀ o∈S.zu,o.t.length=16/\ja o.l/\ja o.n/\o.c.size<=2000
structure U0(n:Nat)(S:qf):Prop where
 p:∀ k,k<3->(S.p k).length<=n
 o:S.CG.length<=n
 t:S.zu.length<=n
 s:∀ k,k<3->(S.se k).length<=n
theorem ET.of{n:Nat}{S:qf}(h:U1 S)(l:U0 n S)(hn:n<=100000):ET S:=⟨h.PG,fun k a=>⟨h.p1 k a,PP (l.p k a) hn⟩,h.pf,PP l.o hn,h.ok,PP l.t hn,h.tk,fun k a=>PP (l.s k a) hn⟩
theorem jA{b:Type}(f:Nat->b)(k:Nat)(a:b):zx f k a k=a:=by unfold zx;rw[aCg]
theorem lX{b:Type}(f:Nat->b){k i:Nat}(a:b)(h:i≠k):zx f k a i=f i:=by
 unfold zx;cases c:bu i k with
 |true=>exact absurd (ig c) h|false=>rfl
theorem SV(S:qf)(e:EvS):(BD S e).id.length=16:=by
 unfold BD Gu GZ
 cases (bK e==7)<;>cases (bK e==5)<;>rfl
theorem IX{S:qf}{k:Nat}(j:k<3){q:QS}(h:U1 S)(d:qc q.2.1):U1 (uM S k q):=by
 have c:∀ i,(uM S k q).p i=if i=k then S.p k++[q.2.1.f] else S.p i:=fun i=>by by_cases e:i=k;subst e;rw[au rfl];exact jA _ _ _;rw[ay e];exact lX _ _ e
 have g:∀ i,(uM S k q).h i=if i=k then q.2.1 else S.h i:=fun i=>by by_cases e:i=k;subst e;rw[au rfl];exact jA _ _ _;rw[ay e];exact lX _ _ e
 refine⟨fun i b=>?_,fun i b=>?_,fun i b f a=>?_,h.ok,h.tk⟩;rw[g];split;exact d;exact h.PG i b;rw[c];split;rw[gp];simp;exact h.p1 i b;rw[c] at a;rw[g];by_cases e:i=k;rw[au e] at a ⊢;rcases List.mem_append.1 a with a|a;exact NY d (h.pf k j f a);rw[List.mem_singleton.1 a];exact d;rw[ay e] at a ⊢;exact h.pf i b f a
theorem IW{S:qf}{k n:Nat}(b:k<3){q:QS}(h:U0 n S):U0 (n+1) (uM S k q):=by refine⟨fun i a=>?_,Nat.le_succ_of_le h.o,Nat.le_succ_of_le h.t,fun i a=>Nat.le_succ_of_le (h.s i a)⟩;by_cases e:i=k;subst e;show (zx S.p i (S.p i++[q.2.1.f]) i).length<=_;rw[jA,<-wB];exact Nat.succ_le_succ (h.p i a);show (zx S.p k (S.p k++[q.2.1.f]) i).length<=_;rw[lX _ _ e];exact Nat.le_succ_of_le (h.p i a)
theorem aNl{S:qf}{e:EvS}{n:Nat}(j:vw e)(h:U1 S)(l:U0 n S)(hn:n<=100000):U1 (stepS S e)/\U0 (n+1) (stepS S e):=by
 have m:=ET.of h l hn;have f:=Y6 e;unfold stepS;cases Uy S e with
 |true=>exact⟨h,fun k f=>Nat.le_succ_of_le (l.p k f),Nat.le_succ_of_le l.o,Nat.le_succ_of_le l.t,fun k f=>Nat.le_succ_of_le (l.s k f)⟩| false=>
  have w:=bHl j m;have d:qc (NG S e).2.1:=aJd _ _ (aKu _) _ _ (NI j m)
  have g:CZ (aP (NG S e).1):=by
   cases u:(NG S e).1 with
   |none=>exact CZ.pl 0 aG 0|some o=>exact bHj _ (QV _ w (SV S e)) _ _ o u
  have a:=IX f h d;have b:=IW (q:=NG S e) f l;show U1 (stepT S (BA e) (bK e) (NG S e))/\U0 (n+1) (stepT S (BA e) (bK e) (NG S e));unfold stepT;cases Tv (NG S e);cases (bK e==2);cases (bK e==4);cases (bK e==5||bK e==6);exact⟨a,b⟩;refine⟨⟨a.PG,a.p1,a.pf,a.ok,fun o c=>?_⟩,b.p,b.o,?_,b.s⟩;rcases List.mem_append.1 c with c|c;exact h.tk o c;rw[List.mem_singleton.1 c];exact⟨g.xt,g.xl,g.bn,g.bc⟩;show (S.zu++[_]).length<=_;rw[<-wB];exact Nat.succ_le_succ l.t
  refine⟨⟨a.PG,a.p1,a.pf,fun o c=>?_,a.tk⟩,b.p,?_,b.t,b.s⟩;rcases List.mem_append.1 c with c|c;exact h.ok o c;rw[List.mem_singleton.1 c];exact⟨g.ot,g.ol⟩;show (S.CG++[_]).length<=_;rw[<-wB];exact Nat.succ_le_succ l.o
  refine⟨⟨a.PG,a.p1,a.pf,a.ok,a.tk⟩,b.p,b.o,b.t,fun i x=>?_⟩;show (zx S.se (BA e) (S.se (BA e)++[_]) i).length<=_;by_cases r:i=BA e;rw[r,jA,<-wB];exact Nat.succ_le_succ (l.s _ f);rw[lX _ _ r];exact Nat.le_succ_of_le (l.s i x);exact⟨⟨a.PG,a.p1,a.pf,a.ok,a.tk⟩,b.p,b.o,b.t,b.s⟩
structure Ab where
 N:Nat->Nat
 W:Nat->Bool
 N2:Nat->Nat
 W2:Nat->Bool
 L:Nat->Nat->Prop
 T:Nat->Nat->Prop
 O:Nat->Nat->Prop
def Can(a:Ab)(k:Nat):Prop:=a.N k % 2=1\/a.W k=true\/a.L k (a.N k+1)\/a.T k (a.N k)
structure ou(a:Ab):Prop where
 one:∀ i j,i<3->j<3->Can a i->Can a j->i=j
 Zh:∀ k n,k<3->a.L k n->n % 2=1/\n<=a.N k+1
 DN:∀ t l,t<3->a.T t l->a.O t l
 Dz:∀ t l,t<3->a.O t l->l % 2=0/\l<=a.N t
def yw(a:Ab)(k n:Nat)(w:Bool):Ab:={ a with N:=zx a.N k n,W:=zx a.W k w }
def BC(a:Ab)(k n:Nat)(w:Bool):Ab:={ a with N2:=zx a.N2 k n,W2:=zx a.W2 k w }
def BL(R:Nat->qo)(k n:Nat):Nat->Nat->Prop:=fun i m=>R i m\/(i=k/\m=n)
section
variable {a b c:Ab} {k n t l:Nat}
theorem Xe{w:Bool}{i:Nat}(d:i≠k)(h:Can (yw a k n w) i):Can a i:=by unfold Can at h ⊢;rw[show (yw a k n w).N i=a.N i from lX _ _ d,show (yw a k n w).W i=a.W i from lX _ _ d] at h;exact h
theorem ou.only(h:ou a)(g:k<3)(hc:Can a k){w:Bool}{i:Nat}(j:i<3)(d:Can (yw a k n w) i):i=k:=by by_cases e:i=k;exact e;exact h.one i k j g (Xe e d) hc
theorem ou.set(h:ou a)(o:k<3)(hc:Can a k)(w:Bool)(hn:a.N k<=n):ou (yw a k n w):=by
 have hN:∀ i,a.N i<=(yw a k n w).N i:=fun i=>by by_cases e:i=k;subst e;rw[show (yw a i n w).N i=n from jA _ _ _];exact hn;rw[show (yw a k n w).N i=a.N i from lX _ _ e];exact dC _
 refine⟨fun i j d p r q=>(h.only o hc d r).trans (h.only o hc p q).symm,fun i m d g=>?_,h.DN,fun i m d g=>?_⟩;have:=h.Zh i m d g;have:=hN i;omega;have:=h.Dz i m d g;have:=hN i;omega
theorem ou.gone(h:ou a)(e:k<3)(g:a.N k % 2=1){i:Nat}(j:i<3):¬Can (yw a k (a.N k+1) false) i:=by intro d;obtain rfl:=h.only e (.inl g) j d;unfold Can at d;rw[show (yw a i (a.N i+1) false).N i=a.N i+1 from jA _ _ _,show (yw a i (a.N i+1) false).W i=false from jA _ _ _] at d;rcases d with d|d|d|d;omega;cases d;have:=h.Zh i _ e d;omega;have:=h.Dz i _ e (h.DN i _ e d);omega
theorem ou.aFV(h:ou a)(r:k<3)(h1:n % 2=1)(h2:n<=a.N k+1)(hc:Can a k):ou { a with L:=BL a.L k n }:=by
 have g:∀ i,i<3->Can { a with L:=BL a.L k n } i->Can a i:=fun i d h=>by rcases h with h|h|(h|⟨rfl,_⟩)|h;exact .inl h;exact .inr (.inl h);exact .inr (.inr (.inl h));exact hc;exact .inr (.inr (.inr h))
 refine⟨fun i j d o q p=>h.one i j d o (g i d q) (g j o p),fun i m d e=>?_,h.DN,h.Dz⟩;rcases e with e|⟨rfl,rfl⟩;exact h.Zh i m d e
 exact⟨h1,h2⟩
theorem ou.aPC(h:ou a)(p:a.O t l)(e:∀ i,i<3->¬Can a i):ou { a with T:=BL a.T t l }:=by
 have o:∀ i,i<3->Can { a with T:=BL a.T t l } i->i=t:=fun i d h=>by rcases h with h|h|h|(h|⟨rfl,_⟩);exact (e i d (.inl h)).elim;exact (e i d (.inr (.inl h))).elim;exact (e i d (.inr (.inr (.inl h)))).elim;exact (e i d (.inr (.inr (.inr h)))).elim;rfl
 refine⟨fun i j d q s r=>(o i d s).trans (o j q r).symm,h.Zh,fun i m d g=>?_,h.Dz⟩;rcases g with g|⟨rfl,rfl⟩;exact h.DN i m d g;exact p
theorem ou.aPD(h:ou a)(h1:l % 2=0)(h2:l<=a.N k):ou { a with O:=BL a.O k l }:=by
 refine⟨h.one,h.Zh,fun i m e d=>.inl (h.DN i m e d),fun i m e d=>?_⟩;rcases d with d|⟨rfl,rfl⟩;exact h.Dz i m e d
 exact⟨h1,h2⟩
theorem ou.Zf(h:ou a)(n:Nat)(w:Bool):ou (BC a k n w):=⟨h.one,h.Zh,h.DN,h.Dz⟩
structure pz(k:Nat)(a b:Ab):Prop where
 neq:∀ i,i≠k->b.N i=a.N i/\b.W i=a.W i/\b.N2 i=a.N2 i/\b.W2 i=a.W2 i
 s:a.N2 k<=b.N2 k
 L:∀ i m,a.L i m->b.L i m
 T:∀ i m,a.T i m->b.T i m
 O:∀ i m,a.O i m->b.O i m
theorem pz.refl(k:Nat)(a:Ab):pz k a a:=⟨fun _ _=>⟨rfl,rfl,rfl,rfl⟩,dC _,fun _ _ h=>h,fun _ _ h=>h,fun _ _ h=>h⟩
theorem pz.trans(h:pz k a b)(g:pz k b c):pz k a c:=⟨fun i d=>by
 obtain⟨p,o,j,e⟩:=h.neq i d;obtain⟨w,u,r,q⟩:=g.neq i d
 exact⟨w.trans p,u.trans o,r.trans j,q.trans e⟩,PP h.s g.s,fun i m x=>g.L i m (h.L i m x),fun i m x=>g.T i m (h.T i m x),fun i m x=>g.O i m (h.O i m x)⟩
theorem yG(w:Bool):pz k a (yw a k n w):=⟨fun _ d=>⟨lX _ _ d,lX _ _ d,rfl,rfl⟩,dC _,fun _ _ h=>h,fun _ _ h=>h,fun _ _ h=>h⟩
theorem aBi(w:Bool)(hn:a.N2 k<=n):pz k a (BC a k n w):=⟨fun i d=>⟨rfl,rfl,lX _ _ d,lX _ _ d⟩,by rw[show (BC a k n w).N2 k=n from jA _ _ _];exact hn,fun _ _ h=>h,fun _ _ h=>h,fun _ _ h=>h⟩
theorem bGb{j:Nat}:pz k a { a with L:=BL a.L j n }:=⟨fun _ _=>⟨rfl,rfl,rfl,rfl⟩,dC _,fun _ _ h=>.inl h,fun _ _ h=>h,fun _ _ h=>h⟩
theorem Rh:pz k a { a with T:=BL a.T t l }:=⟨fun _ _=>⟨rfl,rfl,rfl,rfl⟩,dC _,fun _ _ h=>h,fun _ _ h=>.inl h,fun _ _ h=>h⟩
theorem bGa{j:Nat}:pz k a { a with O:=BL a.O j l }:=⟨fun _ _=>⟨rfl,rfl,rfl,rfl⟩,dC _,fun _ _ h=>h,fun _ _ h=>h,fun _ _ h=>.inl h⟩
def Gh(T:Nat->qo)(d:dh)(e:Int):Prop:=∀ t l:Nat,t<3->l % 2=0->l<16->d=Cb t->e=l->T t l
def Fg(L:qo)(T:Nat->qo)(r:l_):Prop:=r.payload.size<=5/\((r.kind=1/\∃ n:Nat,r.level=n/\L n)\/(r.kind=2/\Gh T r.ot r.ol))
def Cont(k:Nat)(L:qo)(T:Nat->qo)(c:dh):Prop:=∀ r,xB (bT k) (strOf c)=(r,true)->Fg L T r
def FG(a:Ab)(k:Nat)(M:Int)(f:Fl):Prop:=∃ s c,zf f s c/\0<=s/\s<=M/\Cont k (a.L k) a.T c
def vz(a:Ab)(k:Nat)(M:Int)(h:jd):Prop:=∃ e d f,h=qi e d f (bT k)/\Bk d (a.N k) (a.W k)/\Bk e (a.N2 k) (a.W2 k)/\FG a k M f
variable {a b:Ab} {k:Nat} {M M':Int} {f:Fl} {x:jd}
theorem Gh.mono{T g:Nat->qo}(j:∀ i m,T i m->g i m){d:dh}{e:Int}(h:Gh T d e):Gh g d e:=fun t l s r q p o=>j _ _ (h t l s r q p o)
theorem FG.mono{j:Nat}(hl:pz j a b)(w:M<=M')(h:FG a k M f):FG b k M' f:=by obtain⟨s,c,p,o,y,i⟩:=h;refine⟨s,c,p,o,a_,fun r g=>?_⟩;obtain⟨q,d⟩:=i r g;refine⟨q,?_⟩;rcases d with⟨e,n,u,d⟩|⟨e,d⟩;exact .inl ⟨e,n,u,hl.L _ _ d⟩;exact .inr ⟨e,d.mono hl.T⟩
theorem vz.mono{j:Nat}(hl:pz j a b)(d:M<=M')(e:b.N k=a.N k/\b.W k=a.W k/\b.N2 k=a.N2 k/\b.W2 k=a.W2 k)(h:vz a k M x):vz b k M' x:=by obtain⟨y,w,f,p,o,i,g⟩:=h;obtain⟨u,s,r,q⟩:=e;exact⟨y,w,f,p,by rw[u,s];exact o,by rw[r,q];exact i,g.mono hl d⟩
def GG(k:Nat)(a:Ab)(M:Int)(h:jd):Prop:=∃ b,ou b/\pz k a b/\vz b k M h
theorem GG.le(hl:pz k a b)(h:GG k b M x):GG k a M x:=by obtain⟨c,g,e,d⟩:=h;exact⟨c,g,hl.trans e,d⟩
theorem GG.up(d:M<=M')(h:GG k a M x):GG k a M' x:=by obtain⟨c,i,g,e⟩:=h;exact⟨c,i,g,e.mono (pz.refl k c) d ⟨rfl,rfl,rfl,rfl⟩⟩
variable {a:Ab} {M:Int} {m:jy}
theorem aBS(z:k<3)(h:ou a)(d:vz a k M x):ng (fun y w=>∃ n b,y=.ok n/\ou b/\pz k a b/\vz b k M w/\b.N k=n/\n<=16/\b.L=a.L/\b.T=a.T/\b.O=a.O/\b.N2=a.N2/\(Can b k->Can a k)/\(n=a.N k\/a.W k=true)) (GG k a M) (aj.jf 3 16) x:=by obtain⟨j,B,f,rfl,s,q,p⟩:=d;have o:a.W k=true->ou (yw a k (a.N k+1) false):=fun o=>h.set z (.inr (.inl o)) false (aAm _);have u:(yw a k (a.N k+1) false).N k=a.N k+1:=jA _ _ _;have A:(yw a k (a.N k+1) false).W k=false:=jA _ _ _;have r:∀ i,Bk i (a.N k+1) false->vz (yw a k (a.N k+1) false) k M (qi j i f (bT k)):=fun i g=>⟨j,i,f,rfl,by rw[u,A];exact g,q,p⟩;refine ng.mono ?_ ?_ (Nb j f (bT k) s.len (aMb 3 s));rintro _ _ ⟨n,i,rfl,rfl,⟨rfl,g⟩|⟨e,rfl,g⟩⟩;exact⟨_,a,rfl,h,pz.refl k a,⟨j,i,f,rfl,g,q,p⟩,rfl,g.le,rfl,rfl,rfl,rfl,fun x=>x,.inl rfl⟩;exact⟨_,_,rfl,o e,yG false,r i g,u,g.le,rfl,rfl,rfl,rfl,fun _=>.inr (.inl e),.inr e⟩;rintro _ ⟨i,rfl,g|⟨e,g⟩⟩;exact⟨a,h,pz.refl k a,j,i,f,rfl,g,q,p⟩;exact⟨_,o e,yG false,r i g⟩
theorem aBR(r:k<3)(h:ou a)(d:vz a k M x)(hc:Can a k)(o:a.N k<16):ng (fun y u=>y=.ok (a.N k+1)/\vz (yw a k (a.N k+1) false) k M u) (GG k a M) (kC 3 (a.N k+1)) x:=by obtain⟨q,B,f,rfl,s,A,z⟩:=d;have j:∀ n w g,Bk g n w->vz (yw a k n w) k M (qi q g f (bT k)):=fun n w g i=>⟨q,g,f,rfl,by rw[show (yw a k n w).N k=n from jA _ _ _,show (yw a k n w).W k=w from jA _ _ _];exact i,A,z⟩;unfold kC;refine ng.bind (ng.mono ?_ ?_ (Nb q f (bT k) s.len (aXg 3 s o)));rintro _ _ ⟨p,g,rfl,rfl,rfl,i⟩;exact ng.qx (fun _=>⟨rfl,j _ _ g i⟩) (fun e=>by cases e);rintro _ ⟨g,rfl,i|i⟩;exact⟨_,h.set r hc true (dC _),yG true,j _ _ g i⟩;exact⟨_,h.set r hc false (aAm _),yG false,j _ _ g i⟩
theorem bCi(j:k<3)(h:ou a)(d:vz a k M x)(hc:Can a k)(g:a.N k<16):ng (fun y i=>y=.ok ()/\vz (yw a k (a.N k+1) false) k M i) (GG k a M) (qP (a.N k)) x:=by unfold qP;refine ng.bind (ng.mono ?_ (fun _ h=>h) (aBR j h d hc g));rintro _ i ⟨rfl,o⟩;exact ng.qx (fun _=>⟨rfl,o⟩) (fun e=>by rw[show (((a.N k+1:Nat):Int)==((a.N k+1:Nat):Int))=true from beq_self_eq_true _] at e;cases e)
theorem VH(h:ou a)(d:vz a k M x):ng (fun y q=>∃ n w,y=.ok n/\a.N2 k<=n/\vz (BC a k n w) k M q) (GG k a M) (aj.jf 2 16) x:=by obtain⟨u,o,f,rfl,s,p,r⟩:=d;have i:∀ n w e,Bk e n w->vz (BC a k n w) k M (qi e o f (bT k)):=fun n w e g=>⟨e,o,f,rfl,s,by rw[show (BC a k n w).N2 k=n from jA _ _ _,show (BC a k n w).W2 k=w from jA _ _ _];exact g,r⟩;refine ng.mono ?_ ?_ (Nc o f (bT k) p.len (aMb 2 p));rintro _ _ ⟨n,e,rfl,rfl,⟨rfl,g⟩|⟨j,rfl,g⟩⟩;exact⟨_,_,rfl,dC _,i _ _ e g⟩;exact⟨_,_,rfl,aAm _,i _ _ e g⟩;rintro _ ⟨e,rfl,g|⟨j,g⟩⟩;exact⟨_,h.Zf _ _,aBi _ (dC _),i _ _ e g⟩;exact⟨_,h.Zf _ _,aBi _ (aAm _),i _ _ e g⟩
theorem VG(h:ou a)(d:vz a k M x)(o:a.N2 k<16):ng (fun y s=>y=.ok (a.N2 k+1)/\vz (BC a k (a.N2 k+1) false) k M s) (GG k a M) (kC 2 (a.N2 k+1)) x:=by obtain⟨A,q,f,rfl,z,r,u⟩:=d;have j:∀ n w g,Bk g n w->vz (BC a k n w) k M (qi g q f (bT k)):=fun n w g i=>⟨g,q,f,rfl,z,by rw[show (BC a k n w).N2 k=n from jA _ _ _,show (BC a k n w).W2 k=w from jA _ _ _];exact i,u⟩;unfold kC;refine ng.bind (ng.mono ?_ ?_ (Nc q f (bT k) r.len (aXg 2 r o)));rintro _ _ ⟨p,g,rfl,rfl,rfl,i⟩;exact ng.qx (fun _=>⟨rfl,j _ _ g i⟩) (fun e=>by cases e);rintro _ ⟨g,rfl,i|i⟩;exact⟨_,h.Zf _ _,aBi _ (dC _),j _ _ g i⟩;exact⟨_,h.Zf _ _,aBi _ (aAm _),j _ _ g i⟩
theorem IK(hr:m.root=bT k)(d:vz a k M x):ng (fun y j=>j=x/\((∃ r,y=.ok r/\Fg (a.L k) a.T r/\r.level<=16)\/∃ e,y=.error e/\(e≠12/\e≠0)/\e≠17)) (fun j=>j=x) (tu m) x:=by
 obtain⟨D,C,f,rfl,B,A,s,c,q,z,w,p⟩:=d;unfold tu;rw[hr];refine ng.bind (ng.mono ?_ (fun _ h=>h) (Na q _ (bT k)));rintro _ _ ⟨rfl,rfl⟩;refine ng.qx (fun g=>ng.qx (fun i=>?_) (fun i=>⟨rfl,.inr ⟨8,rfl,g_,g_⟩⟩)) (fun g=>⟨rfl,.inr ⟨13,?_,g_,g_⟩⟩);have u:(wY (s,c)).content=strOf c:=by unfold wY at g ⊢;split;rename_i o;rw[au o] at g;cases g;rfl
 rw[u] at i ⊢;exact⟨rfl,.inl ⟨_,rfl,p _ (Prod.ext rfl i),(aGk (Prod.ext rfl i)).2.2.1⟩⟩;unfold wY at g ⊢;split
 rfl;rename_i o;rw[ay o] at g;cases g
theorem aWq{r:l_}(g:CB r)(e:Fg (a.L k) a.T r):Cont k (a.L k) a.T (gU (bT k) r):=fun h d=>by have:=aQk (bT k) r g;unfold gX at this;rw[this] at d;cases d;exact e
theorem IJ(S:k<3)(hr:m.root=bT k)(d:vz a k M x)(hM:M<59){r:l_}(g:CB r)(P:0<=r.ol/\r.ol<16)(w:Fg (a.L k) a.T r):ng (fun y q=>y=.ok ()/\vz a k (M+1) q) (fun q=>vz a k (M+1) q) (AX m r) x:=by
 obtain⟨G,F,f,rfl,Z,Y,s,c,X,E,h5,W⟩:=d;unfold AX;rw[hr];have p:∀ i,FG a k (M+1) i->vz a k (M+1) (qi G F i (bT k)):=fun i h=>⟨G,F,i,rfl,Z,Y,h⟩;have D:(gX (bT k) r).data.toList=gU (bT k) r:=dI _;have hN:∀ {i},zf i (s+1) (gU (bT k) r)->FG a k (M+1) i:=fun h=>⟨s+1,_,h,a_,a_,aWq g w⟩;refine ng.bind (ng.mono ?_ ?_ (NZ X (sS (bT k) r g) a_ _ (bT k)));rintro _ _ ⟨rfl,i,rfl,h⟩;rw[D] at h;exact ng.qx (fun _=>⟨rfl,p _ (hN h)⟩) (fun e=>by cases e);rintro _ ⟨i,rfl,h⟩;rw[D] at h;rcases h with h|h|⟨o,h,Q,cut,z,U,V⟩;exact p _ ⟨s,c,h,E,a_,W⟩;exact p _ (hN h);refine p _ ⟨s+1,o,h,a_,a_,fun r' u=>?_⟩;obtain⟨B,O,N,K⟩:=IE S g w.1 P ⟨E,a_⟩ z Q V u
 refine⟨N,?_⟩;rcases w.2 with⟨e,n,e2,A⟩|⟨e,A⟩;exact .inl ⟨B.trans e,n,O.trans e2,A⟩
 exact .inr ⟨B.trans e,fun t l H C j e3 e4=>by
  obtain⟨J,I⟩:=K t l C j e3 e4
  exact A t l H C j J I⟩
def aTZ(k:Nat)(a b:Ab)(m:jy):Except Int kz->Prop
 |.error e=>(e≠12/\e≠0)/\(e=17->m.kind=2->Can a k)|.ok o=>o.err=0/\(m.kind=2->Can a k/\∃ n:Nat,o.session=n/\a.N2 k<=n/\n<b.N2 k)/\(m.kind=4->∃ l:Nat,o.ot=Cb k/\o.ol=l/\b.O k l)/\(m.kind=5\/m.kind=6->Gh b.T o.xt o.xl/\o.bc.size<=5)/\(m.kind=7->Can a k)
def BB(k:Nat)(a:Ab)(M:Int)(m:jy)(y:Except Int kz)(x:jd):Prop:=∃ b,ou b/\pz k a b/\vz b k M x/\aTZ k a b m y
structure OpF(a:Ab)(k:Nat)(m:jy):Prop where
 root:m.root=bT k
 id:m.id=Cb k
 kdq:2<=m.kind/\m.kind<=7
 aCY:m.payload.size<=5
 Dz:m.kind=5->∃ t l:Nat,t<3/\m.ot=Cb t/\m.ol=l/\a.O t l
 DN:m.kind=7->Gh a.T m.xt m.xl/\m.bc.size<=5
theorem Rw{i j:Nat}(e:i<3)(d:j<3)(h:Cb i=Cb j):i=j:=by
 have c:∀ n,n<3->n=0\/n=1\/n=2:=fun n f=>a_
 rcases c i e with rfl|rfl|rfl<;>rcases c j d with rfl|rfl|rfl<;>first|rfl|exact absurd h g_
theorem Gh.add{T:Nat->qo}{t l:Nat}(c:t<3):Gh (BL T t l) (Cb t) (l:Int):=fun f g e _ _ d h=>.inr ⟨(Rw c e d).symm,a_⟩
variable {a b:Ab}
theorem vz.LZ(d:vz a k M x):a.N k<=16:=by obtain⟨_,_,_,_,h,_⟩:=d;exact h.le
theorem BB.err{e:Int}(h:ou a)(d:vz a k M x)(h1:e≠12/\e≠0)(h2:e=17->m.kind=2->Can a k):BB k a M m (.error e) x:=⟨a,h,pz.refl k a,d,h1,h2⟩
theorem aBs{p q:Bool}(h:(bif p then q else false)=true):p=true/\q=true:=by cases p<;>cases q<;>first|exact⟨rfl,rfl⟩|cases h
theorem II{C:jd->Prop}(f:Nat)(x:jd):ng (fun y c=>c=x/\((y=.ok ()/\f % 2=0/\f<16)\/y=.error 21\/y=.error 17)) C (oD f) x:=by unfold oD;refine ng.qx (fun e=>ng.qx (fun d=>⟨rfl,.inl ⟨rfl,?_,?_⟩⟩) fun _=>⟨rfl,.inr (.inr rfl)⟩) fun _=>⟨rfl,.inr (.inl rfl)⟩;have:=eq_of_beq e;omega;have:=of_decide_eq_true d;omega
theorem Rt{r:l_}(h:ou b)(d:vz b k M x):ng (fun y p=>∃ c,ou c/\pz k b c/\vz c k M p/\((∃ e,y=.error e/\e≠12/\e≠0)\/∃ o n,y=.ok o/\o.err=0/\o.session=((n:Nat):Int)/\b.N2 k<=n/\n<c.N2 k)) (GG k b M) (Zx m r) x:=by
 unfold Zx;refine ng.bind (ng.mono ?_ (fun _ h=>h) (VH h d));rintro _ p ⟨n,w,rfl,q,t⟩;have s:(BC b k n w).N2 k=n:=jA _ _ _;have l:=h.Zf (k:=k) n w;have i:pz k b (BC b k n w):=aBi w q;refine ng.qx (fun u=>?_) (fun _=>⟨_,l,i,t,.inl ⟨17,rfl,g_⟩⟩);have j:(BC b k n w).N2 k<16:=by have:=of_decide_eq_true u;omega
 have f:=VG l t j;rw[s] at f;refine ng.bind (ng.mono ?_ (fun _ g=>g.le i) f);rintro _ A ⟨rfl,z⟩;refine⟨_,l.Zf (n+1) false,i.trans (aBi false (by rw[s];exact aAm n)),z,.inr ⟨_,n,rfl,rfl,rfl,q,?_⟩⟩;rw[show (BC (BC b k n w) k (n+1) false).N2 k=n+1 from jA _ _ _];exact Nat.lt_succ_self n
theorem Wu(z:k<3)(h:ou a)(d:vz a k M x)(hr:m.root=bT k)(I:m.kind=2):ng (BB k a M m) (GG k a M) (PM m (a.N k)) x:=by
 unfold PM;refine ng.bind (ng.mono ?_ (fun y e=>by rw[e];exact⟨a,h,pz.refl k a,d⟩) (IK hr d));rintro y _ ⟨rfl,⟨r,rfl,J,S⟩|⟨e,rfl,q,p⟩⟩;refine ng.qx (fun l=>?_) (fun _=>BB.err h d g_ (fun e=>absurd e g_));obtain⟨C,s⟩:=aBs l;have C:=eq_of_beq C;have s:=eq_of_beq s;have A:a.L k (a.N k+1-a.N k % 2):=by rcases J.2 with⟨_,n,e,g⟩|⟨e,_⟩;rw[s] at e;rw[show a.N k+1-a.N k % 2=n from a_];exact g;omega
 have B:∀ {c:Ab} {x:jd},ou c->pz k a c->a.N2 k=c.N2 k->Can a k->vz c k M x->ng (BB k a M m) (GG k a M) (Zx m r) x:=fun l j e f O=>by refine ng.mono ?_ (fun _ g=>g.le j) (Rt l O);rintro y E ⟨D,w,u,t,⟨T,rfl,K⟩|⟨o,n,rfl,H,G,Q,F⟩⟩;exact⟨D,w,j.trans u,t,K,fun _ _=>f⟩;exact⟨D,w,j.trans u,t,H,fun _=>⟨f,n,G,a_,F⟩,fun e=>a_,fun e=>a_,fun e=>a_⟩
 rcases Nat.mod_two_eq_zero_or_one (a.N k) with i|i;rw[i] at A;have f:Can a k:=.inr (.inr (.inl A));rw[i,show (((0:Nat):Int)==0)=true from rfl];refine ng.bind (ng.mono ?_ (fun _ g=>g) (bCi z h d f a_));rintro _ E ⟨rfl,P⟩;exact B (h.set z f false (aAm _)) (yG false) rfl f P;rw[i,show (((1:Nat):Int)==0)=false from rfl];exact B h (pz.refl k a) rfl (.inl i) d;exact BB.err h d q (fun e=>absurd e p)
theorem Ws(g:k<3)(h:ou a)(d:vz a k M x)(q:M<59)(hr:m.root=bT k)(o:m.kind=3)(l:m.payload.size<=5):ng (BB k a (M+1) m) (GG k a (M+1)) (Y1 m (a.N k)) x:=by
 have s:vz a k (M+1) x:=d.mono (pz.refl k a) a_ ⟨rfl,rfl,rfl,rfl⟩;have n:=d.LZ;unfold Y1;refine ng.qx (fun p=>?_) (fun _=>BB.err h s g_ (fun e=>absurd e g_));have c:a.N k % 2=1:=by have:=eq_of_beq p;omega
 have i:=h.aFV g c (aAm _) (.inl c);have f:pz k a { a with L:=BL a.L k (a.N k) }:=bGb;have t:=d.mono f (aCp M) ⟨rfl,rfl,rfl,rfl⟩;refine ng.bind (ng.mono ?_ (fun j dx=>⟨_,i,f,dx⟩) (IJ g hr t q (r:=⟨1,(a.N k:Int),AO,0,m.payload⟩) ⟨.inl rfl,by show (0:Int)<=(a.N k:Int);omega,by show (a.N k:Int)<=16;omega,Ut,rfl,by show m.payload.size<=1000;omega⟩ ⟨by show (0:Int)<=0;decide,by show (0:Int)<16;decide⟩ ⟨l,.inl ⟨rfl,a.N k,rfl,.inr ⟨rfl,rfl⟩⟩⟩));rintro _ j ⟨rfl,dx⟩;exact⟨_,i,f,dx,rfl,fun e=>a_,fun e=>a_,fun e=>a_,fun e=>a_⟩
theorem Rq(h:ou a)(d:vz a k M x)(c:m.id=Cb k)(f:m.kind=4):ng (BB k a M m) (GG k a M) (V3 m (a.N k)) x:=by unfold V3;refine ng.bind (ng.mono ?_ (fun _ g=>g) (II (a.N k) x));rintro y _ ⟨rfl,⟨rfl,i,j⟩|rfl|rfl⟩;exact⟨_,h.aPD (k:=k) i (dC _),bGa,d.mono (bGa (k:=k)) (aCp M) ⟨rfl,rfl,rfl,rfl⟩,rfl,fun e=>a_,fun _=>⟨a.N k,c,rfl,.inr ⟨rfl,rfl⟩⟩,fun e=>a_,fun e=>a_⟩;exact BB.err h d g_ (fun e=>absurd e g_);exact BB.err h d g_ (fun _ e=>a_)
theorem Wq(j:k<3)(h:ou a)(d:vz a k M x)(Q:M<59)(hr:m.root=bT k)(L:m.kind=5)(K:∃ t l:Nat,t<3/\m.ot=Cb t/\m.ol=l/\a.O t l)(s:m.ol<16):ng (BB k a (M+1) m) (GG k a (M+1)) (Ux m (a.N k)) x:=by
 have o:vz a k (M+1) x:=d.mono (pz.refl k a) a_ ⟨rfl,rfl,rfl,rfl⟩;obtain⟨t,l,J,f,w,u⟩:=K;unfold Ux;refine ng.qx (fun A=>?_) (fun _=>BB.err h o g_ (fun e=>absurd e g_));have c:a.N k % 2=1:=by have:=eq_of_beq A;omega
 refine ng.bind (ng.mono ?_ (fun y e=>by rw[e];exact⟨a,h,pz.refl k a,o⟩) (IK hr d));rintro y _ ⟨rfl,⟨r,rfl,z,W⟩|⟨e,rfl,C,B⟩⟩;refine ng.qx (fun A=>?_) (fun _=>BB.err h o g_ (fun e=>absurd e g_));obtain⟨X,G⟩:=aBs A;have G:=eq_of_beq G;refine ng.bind (ng.mono ?_ (fun _ g=>g.up a_) (bCi j h d (.inl c) a_));rintro _ H ⟨rfl,F⟩;obtain⟨b,n⟩:=lm (yw a k (a.N k+1) false);have S:ou b:=n ▸ h.set j (.inl c) false (aAm _);have I:∀ i,i<3->¬Can b i:=n ▸ fun i P=>h.gone j c P;have q:pz k a b:=n ▸ yG false;rw[n] at F;have E:=S.aPC (q.O t l u) I;have p:pz k b { b with T:=BL b.T t l }:=Rh;have U:=F.mono p (aCp M) ⟨rfl,rfl,rfl,rfl⟩;have D:Gh (BL b.T t l) m.ot m.ol:=by rw[f,w];exact Gh.add J
 refine ng.bind (ng.mono ?_ (fun H dx=>⟨_,E,q.trans p,dx⟩) (IJ j hr U Q (r:=Tu m (a.N k) r) ⟨.inr rfl,by show (0:Int)<=((a.N k+1:Nat):Int);omega,by show ((a.N k+1:Nat):Int)<=16;omega,by show ja m.ol;unfold ja;omega,by show m.ot.length=16;rw[f];rfl,by show r.payload.size<=1000;have:=z.1;omega⟩ ⟨by show 0<=m.ol;omega,s⟩ ⟨z.1,.inr ⟨rfl,D⟩⟩));rintro _ V ⟨rfl,dx⟩;refine⟨_,E,q.trans p,dx,rfl,fun e=>a_,fun e=>a_,fun _=>⟨D,?_⟩,fun e=>a_⟩;show (strOf _).size<=5;rw[aW,dA,yB];exact z.1;exact BB.err h o C (fun e=>absurd e B)
theorem Ld(h:ou a)(d:vz a k M x)(hr:m.root=bT k)(n:m.kind=6):ng (BB k a M m) (GG k a M) (uZ m (a.N k)) x:=by
 unfold uZ;refine ng.qx (fun j=>?_) (fun _=>BB.err h d g_ (fun e=>absurd e g_));refine ng.bind (ng.mono ?_ (fun y e=>by rw[e];exact⟨a,h,pz.refl k a,d⟩) (IK hr d));rintro y _ ⟨rfl,⟨r,rfl,i,p⟩|⟨e,rfl,f,c⟩⟩;refine ng.qx (fun j=>?_) (fun _=>BB.err h d g_ (fun e=>absurd e g_));obtain⟨l,q⟩:=aBs j;have l:=eq_of_beq l;have o:Gh a.T r.ot r.ol:=by rcases i.2 with⟨e,_⟩|⟨_,g⟩;omega;exact g
 refine⟨a,h,pz.refl k a,d,rfl,fun e=>a_,fun e=>a_,fun _=>⟨o,?_⟩,fun e=>a_⟩;show (strOf _).size<=5;rw[aW,dA,yB];exact i.1;exact BB.err h d f (fun e=>absurd e c)
theorem Oe(hc:m.bc.size<=5):(wE m).size<=5:=by unfold wE;cases opened (keyS m.link m.xt m.xl) m.bn m.bc m.bt;exact (by decide:(0:Nat)<=5);show (strOf _).size<=5;rw[aW,dA,yB];exact hc
theorem Lh(i:k<3)(h:ou a)(d:vz a k M x)(B:M<59)(hr:m.root=bT k)(w:m.kind=7)(t:m.xt=Cb k)(A:Gh a.T m.xt m.xl)(hb:m.bc.size<=5):ng (BB k a (M+1) m) (GG k a (M+1)) (tC m (a.N k)) x:=by have j:vz a k (M+1) x:=d.mono (pz.refl k a) a_ ⟨rfl,rfl,rfl,rfl⟩;unfold tC;refine ng.bind (ng.mono ?_ (fun _ g=>g) (II (a.N k) x));rintro y _ ⟨rfl,⟨rfl,C,p⟩|rfl|rfl⟩;refine ng.qx (fun z=>?_) (fun _=>BB.err h j g_ (fun e=>absurd e g_));have o:=eq_of_beq z;have f:Can a k:=.inr (.inr (.inr (A k (a.N k) i C p t o)));refine ng.qx (fun _=>ng.qx (fun _=>?_) (fun _=>BB.err h j g_ (fun e=>absurd e g_))) (fun _=>BB.err h j g_ (fun e=>absurd e g_));have q:=h.aFV i (n:=a.N k+1) a_ (dC _) f;have l:pz k a { a with L:=BL a.L k (a.N k+1) }:=bGb;have E:=d.mono l (aCp M) ⟨rfl,rfl,rfl,rfl⟩;have u:=Oe (m:=m) hb;unfold mJ;rw[aj.bind_assoc];refine ng.bind (ng.mono ?_ (fun s dx=>⟨_,q,l,dx⟩) (IJ i hr E B (r:=FZ (a.N k) (wE m)) (aDd p a_) ⟨by show (0:Int)<=0;decide,by show (0:Int)<16;decide⟩ ⟨u,.inl ⟨rfl,a.N k+1,rfl,.inr ⟨rfl,rfl⟩⟩⟩));rintro _ s ⟨rfl,dx⟩;have c:Can { a with L:=BL a.L k (a.N k+1) } k:=.inr (.inr (.inl (.inr ⟨rfl,rfl⟩)));show ng _ _ (((qP (a.N k)).bind _).bind _) s;rw[aj.bind_assoc];refine ng.bind (ng.mono ?_ (fun _ g=>g.le l) (bCi (a:={ a with L:=BL a.L k (a.N k+1) }) i q dx c p));rintro _ F ⟨rfl,D⟩;exact⟨_,q.set i c false (aAm _),l.trans (yG false),D,rfl,fun e=>a_,fun e=>a_,fun e=>a_,fun _=>f⟩;exact BB.err h j g_ (fun e=>absurd e g_);exact BB.err h j g_ (fun _ e=>a_)
theorem BB.up{c:Int}(d:M<=c){y:Except Int kz}(h:BB k a M m y x):BB k a c m y x:=by obtain⟨b,i,g,f,e⟩:=h;exact⟨b,i,g,f.mono (pz.refl k b) d ⟨rfl,rfl,rfl,rfl⟩,e⟩
theorem aDZ(f:k<3)(h:ou a)(d:vz a k M x)(i:M<59)(c:OpF a k m)(l:m.kind=5->m.ol<16)(j:m.kind=7->m.xt=Cb k):ng (BB k a (M+1) m) (GG k a (M+1)) (oJ m (a.N k)) x:=by obtain⟨o,n⟩:=c.kdq;unfold oJ;rw[ay a_];split;exact ng.mono (fun _ _ q=>q.up a_) (fun _ g=>g.up a_) (Wu f h d c.root o_);split;exact Ws f h d i c.root o_ c.aCY;split;exact ng.mono (fun _ _ q=>q.up a_) (fun _ g=>g.up a_) (Rq h d c.id o_);split;rename_i e;exact Wq f h d i c.root e (c.Dz e) (l e);split;exact ng.mono (fun _ _ q=>q.up a_) (fun _ g=>g.up a_) (Ld h d c.root o_);have e:m.kind=7:=a_;exact Lh f h d i c.root e (j e) (c.DN e).1 (c.DN e).2
theorem bEq(t:k<3)(h:ou a)(d:vz a k M x)(E:M<59)(f:OpF a k m):ng (BB k a (M+1) m) (GG k a (M+1)) (lJ m) x:=by
 have H:vz a k (M+1) x:=d.mono (pz.refl k a) a_ ⟨rfl,rfl,rfl,rfl⟩;have j:∀ e:Int,e=1\/e=2->BB k a (M+1) m (.error e) x:=fun e T=>BB.err h H ⟨a_,a_⟩ (fun U=>a_)
 have i:(m.kind=5->m.ol<16)->(m.kind=7->m.xt=Cb k)->ng (BB k a (M+1) m) (GG k a (M+1)) ((aj.jf 3 16).bind fun n=>oJ m n) x:=fun D C=>by
  refine ng.bind (ng.mono ?_ (fun _ g=>g.up a_) (aBS t h d));rintro _ S ⟨n,b,rfl,P,u,O,rfl,_,V,L,N,bN,r,_⟩;have l:OpF b k m:=⟨f.root,f.id,f.kdq,f.aCY,by rw[N];exact f.Dz,by rw[L];exact f.DN⟩;refine ng.mono ?_ (fun _ g=>g.le u) (aDZ t P O E l D C);rintro y Q ⟨c,K,J,I,q⟩;refine⟨c,K,u.trans J,I,?_⟩;cases y with
  |error e=>exact⟨q.1,fun G F=>r (q.2 G F)⟩|ok o=>obtain⟨B,s,A,z,w⟩:=q;exact⟨B,fun e=>⟨r (s e).1,by rw[<-bN];exact (s e).2⟩,A,z,fun e=>r (w e)⟩
 unfold lJ kY;rw[aj.bind_assoc];refine ng.qx (fun _=>?_) (fun _=>j 1 (.inl rfl));show ng _ _ (((tX m).bind _).bind _) x;rw[aj.bind_assoc];unfold tX;split;exact ng.qx (fun _=>i (fun e=>a_) (fun e=>a_)) (fun _=>j 2 (.inr rfl));split;refine ng.qx (fun p=>i (fun _=>?_) (fun e=>a_)) (fun _=>j 1 (.inl rfl));exact of_decide_eq_true (aBs (aBs (aBs p).1).1).2;split;refine ng.qx (fun p=>i (fun e=>a_) (fun _=>?_)) (fun _=>j 1 (.inl rfl));rw[eq_of_beq p];exact f.id;exact i (fun e=>a_) (fun e=>a_)
structure Rel(a:Ab)(n:Int)(S:qf):Prop where
 inv:ou a
 dv:∀ k,k<3->vz a k n (S.h k)
 P5:∀ k,k<3->∀ f∈S.p k,FG a k n f
 Dz:∀ o∈S.CG,∃ t l:Nat,t<3/\o.t=Cb t/\o.l=l/\a.O t l
 DN:∀ o∈S.zu,Gh a.T o.t o.l/\o.c.size<=5
 se:∀ k,k<3->∀ s∈S.se k,∃ m:Nat,s=m/\m<a.N2 k
 bad:S.bad=false
variable {n:Int} {S:qf} {e:EvS} {q:QS}
theorem Rel.up(h:Rel a n S):Rel a (n+1) S:=⟨h.inv,fun k c=>(h.dv k c).mono (pz.refl k a) a_ ⟨rfl,rfl,rfl,rfl⟩,fun k c f d=>(h.P5 k c f d).mono (pz.refl k a) a_,h.Dz,h.DN,h.se,h.bad⟩
theorem vz.Uj{M:Int}{x:jd}(h:vz a k M x):FG a k M x.f:=by obtain⟨_,_,_,rfl,_,_,h⟩:=h;exact h
theorem vz.with{M:Int}{x:jd}{f:Fl}(h:vz a k M x)(c:FG a k M f):vz a k M { x with f:=f }:=by obtain⟨j,i,_,rfl,g,d,_⟩:=h;exact⟨j,i,f,rfl,g,d,c⟩
theorem Rel.step(h:Rel a n S)(y:k<3)(hb:ou b)(hl:pz k a b)(hd:vz b k (n+1) q.2.1):Rel b (n+1) (uM S k q):=by
 refine⟨hb,fun i d=>?_,fun i d f c=>?_,fun o g=>?_,fun o g=>?_,fun i d s u=>?_,h.bad⟩;by_cases e:i=k;subst e;rw[show (uM S i q).h i=q.2.1 from jA _ _ _];exact hd;rw[show (uM S k q).h i=S.h i from lX _ _ e];exact (h.dv i d).mono hl a_ (hl.neq i e);by_cases e:i=k;subst e;rw[show (uM S i q).p i=S.p i++[q.2.1.f] from jA _ _ _] at c;rcases List.mem_append.1 c with c|c;exact (h.P5 i d f c).mono hl a_;rw[List.mem_singleton.1 c];exact hd.Uj;rw[show (uM S k q).p i=S.p i from lX _ _ e] at c;exact (h.P5 i d f c).mono hl a_;obtain⟨t,l,r,j,x,w⟩:=h.Dz o g
 exact⟨t,l,r,j,x,hl.O t l w⟩;exact⟨(h.DN o g).1.mono hl.T,(h.DN o g).2⟩;obtain⟨m,r,j⟩:=h.se i d s u;refine⟨m,r,?_⟩;by_cases e:i=k;subst e;exact Nat.lt_of_lt_of_le j hl.s;rw[(hl.neq i e).2.2.1];exact j
theorem XJ(f:vw e):FOk (mG e):=fun i=>by
 have h:=f.replay;have c:dP (mG e) i=Tn e i\/dP (mG e) i=AA:=by unfold dP mG;rw[zG,XN];by_cases d:i<250;rw[Zb d];exact .inl rfl;rw[YQ jr];exact .inr rfl
 rcases c with c|c;rw[c];unfold Tn
 split;show 0<=e.replay/\e.replay<=255;omega
 exact⟨by show (0:Int)<=0;decide,by show (0:Int)<=255;decide⟩;rw[c];exact⟨by show (0:Int)<=0;decide,by show (0:Int)<=255;decide⟩
theorem Rel.dvH(h:Rel a n S)(d:vw e)(f:ET S):vz a (BA e) n (CJ S e):=by have c:=Y6 e;unfold CJ;cases (e.replay % 2==1);exact h.dv _ c;refine (h.dv _ c).with (h.P5 _ c _ (aGw (by have:=d.replay.1;omega) (fun h=>?_)));have:=(f.p1 _ c).1;rw[h] at this;cases this
theorem Rel.opF(h:Rel a n S)(s:vw e)(hs:Uy S e=false):OpF a (BA e) (BD S e):=by
 have o:2<=bK e/\bK e<=7:=by unfold bK;omega
 have m:(Ur e).payload.size<=5:=by show (strOf _).size<=5;rw[aW];exact (by decide:2<=5)
 have hN:¬(bK e=5/\S.CG=[])/\¬(bK e=7/\S.zu=[]):=by unfold Uy at hs;refine⟨fun⟨r,p⟩=>?_,fun⟨r,p⟩=>?_⟩;rw[r,p] at hs;cases hs;rw[r,p] at hs;cases hs
 have w:bK e=5->BD S e={ Ur e with ot:=(E_ S.CG Ee e.msg).t,ol:=(E_ S.CG Ee e.msg).l }:=fun f=>by unfold BD Gu GZ;rw[f];rfl
 have u:bK e=7->BD S e={ Ur e with xt:=(E_ S.zu Ag e.msg).t,xl:=(E_ S.zu Ag e.msg).l,bn:=(E_ S.zu Ag e.msg).n,bc:=(E_ S.zu Ag e.msg).c,bt:=(E_ S.zu Ag e.msg).g }:=fun f=>by unfold BD Gu GZ;rw[f];rfl
 have x:bK e≠5->bK e≠7->BD S e=Ur e:=fun j i=>by unfold BD Gu GZ;rw[show (bK e==5)=false from beq_false_of_ne j,show (bK e==7)=false from beq_false_of_ne i];rfl
 by_cases j:bK e=5;rw[w j];obtain⟨t,l,g⟩:=h.Dz _ (aGw (d:=Ee) s.msg.1 (fun f=>hN.1 ⟨j,f⟩));exact⟨rfl,rfl,o,m,fun _=>⟨t,l,g⟩,fun (f:bK e=7)=>a_⟩;by_cases i:bK e=7;rw[u i];exact⟨rfl,rfl,o,m,fun (f:bK e=5)=>a_,fun _=>h.DN _ (aGw (d:=Ag) s.msg.1 (fun f=>hN.2 ⟨i,f⟩))⟩;rw[x j i];exact⟨rfl,rfl,o,m,fun (f:bK e=5)=>absurd f j,fun (f:bK e=7)=>absurd f i⟩
theorem Q9{o:Int}{l:List Int}(h:∀ x∈l,x<o):Ce o false l=false:=by
 induction l with
 |nil=>rfl|cons x l c=>unfold Ce;rw[aAK,show (bif false then true else decide (o<=x))=false from Bg (by have:=h x MM;omega)];exact c fun y d=>h y (VM _ d)
theorem bHm(S:qf)(e:EvS):(BD S e).kind=bK e:=by
 unfold BD Gu GZ
 cases (bK e==7)<;>cases (bK e==5)<;>rfl
theorem rel_step(h:Rel a n S)(B:vw e)(Z:ET S)(hn:n<59):∃ b,Rel b (n+1) (stepS S e):=by
 have j:=Y6 e;cases d:Uy S e with
 |true=>unfold stepS;rw[d];exact⟨a,h.up⟩| false=>
  have Y:=h.opF B d;have A:=bHm S e;have e0:stepS S e=stepT S (BA e) (bK e) (NG S e):=by unfold stepS;rw[d];rfl
  rw[e0];obtain⟨q,L⟩:=lm (NG S e);have p:(q.1=none/\GG (BA e) a (n+1) q.2.1)\/∃ y,q.1=some (TQ kH y)/\BB (BA e) a (n+1) (BD S e) y q.2.1:=by rw[<-L];exact aMa (XJ B) kH (bEq j h.inv (h.dvH B Z) hn Y) 0
  rw[L];rcases p with⟨g,b,u,t,r⟩|⟨y,g,b,u,t,r,J⟩;have R:=h.step j u t r
  refine⟨b,?_⟩;unfold stepT Tv bCn;rw[g,h.bad];exact⟨R.inv,R.dv,R.P5,R.Dz,R.DN,R.se,rfl⟩
  ·have R:=h.step j u t r;refine⟨b,?_⟩;cases y with
   | error z=>
    have K:=J.1;have F:Tv q=true:=by unfold Tv;rw[g];show (z != 0)=true;exact bne_iff_ne.2 K.2
    have E:bCn S.bad q=false:=by unfold bCn;rw[g,h.bad];show (z==12)=false;exact beq_false_of_ne K.1
    unfold stepT;rw[F,E];exact⟨R.inv,R.dv,R.P5,R.Dz,R.DN,R.se,rfl⟩
   | ok o=>
    obtain⟨Q,I,H,G,P⟩:=J;rw[A] at I H G P;have F:Tv q=false:=by unfold Tv;rw[g];show (o.err != 0)=false;rw[Q];rfl
    have E:aP q.1=o:=by rw[g];rfl
    unfold stepT;rw[F,E];by_cases D:bK e=2;rw[D];obtain⟨_,m,U,m2,T⟩:=I D;refine⟨R.inv,R.dv,R.P5,R.Dz,R.DN,fun i N s d=>?_,?_⟩;by_cases O:i=BA e;subst O;rcases List.mem_append.1 (show s∈S.se (BA e)++[o.session] by rw[<-show zx S.se (BA e) (S.se (BA e)++[o.session]) (BA e)=_ from jA _ _ _];exact d) with d|d;exact R.se _ N s d
    exact⟨m,(List.mem_singleton.1 d).trans U,T⟩;exact R.se i N s (show s∈S.se i by rw[<-show zx S.se (BA e) (S.se (BA e)++[o.session]) i=S.se i from lX _ _ O];exact d);show Ce o.session S.bad (S.se (BA e))=false;rw[h.bad];refine Q9 fun x c=>?_;obtain⟨w,w1,w2⟩:=h.se _ j x c;omega
    ·rw[show (bK e==2)=false from beq_false_of_ne D];by_cases C:bK e=4;rw[C];obtain⟨l,X,W,V⟩:=H C;refine⟨R.inv,R.dv,R.P5,fun x c=>?_,R.DN,R.se,R.bad⟩;rcases List.mem_append.1 c with c|c;exact R.Dz x c;rw[List.mem_singleton.1 c]
     exact⟨BA e,l,j,X,W,V⟩
     ·rw[show (bK e==4)=false from beq_false_of_ne C];by_cases f:bK e=5\/bK e=6
      ·rw[show (bK e==5||bK e==6)=true from by rcases f with f|f<;>rw[f]<;>rfl]
       refine⟨R.inv,R.dv,R.P5,R.Dz,fun x c=>?_,R.se,R.bad⟩;rcases List.mem_append.1 c with c|c;exact R.DN x c;rw[List.mem_singleton.1 c];exact G f
      rw[show (bK e==5||bK e==6)=false from by
       rw[show (bK e==5)=false from beq_false_of_ne fun x=>f (.inl x),show (bK e==6)=false from beq_false_of_ne fun x=>f (.inr x)]
       rfl]
      exact R
def FM(q:QS):Bool:=bif q.1.isSome then (bif (aP q.1).err==0 then true else (aP q.1).err==17) else false
def holdL(S:qf)(k:Nat)(f:Fl):Bool:=FM (cZ [] (bU (BG k 2)) { S.h k with f:=f } 0)
def Eu(k:Nat)(o:Oo):jy:={ BG k 7 with xt:=o.t,xl:=o.l,bn:=o.n,bc:=o.c,bt:=o.g }
def FK(q:QS):Bool:=bif q.1.isSome then (aP q.1).err==0 else false
def holdT(S:qf)(k:Nat)(o:Oo):Bool:=FK (cZ [] (bU (Eu k o)) (S.h k) 0)
def holdsB(S:qf)(k:Nat):Bool:=(S.p k).any (holdL S k)||S.zu.any (holdT S k)
def Em(b:Bool)(n:Nat):Nat:=bif b then n+1 else n
def aAi(S:qf):Nat:=Em (holdsB S 2) (Em (holdsB S 1) (Em (holdsB S 0) 0))
theorem bGx:FOk []:=fun i=>⟨by show (0:Int)<=0;decide,by show (0:Int)<=255;decide⟩
theorem aFu(h:Rel a n S)(hn:n<59)(l:k<3)(i:holdsB S k=true):Can a k:=by
 unfold holdsB at i;rw[aAR] at i;rcases i with i|i;obtain⟨f,r,c⟩:=List.any_eq_true.1 i;unfold holdL at c;have m:OpF a k (BG k 2):=⟨rfl,rfl,⟨by show (2:Int)<=2;decide,by show (2:Int)<=7;decide⟩,by show aG.size<=5;decide,fun e=>absurd e (by show ¬(2:Int)=5;decide),fun e=>absurd e (by show ¬(2:Int)=7;decide)⟩;have d:=aMa bGx kH (bEq l h.inv ((h.dv k l).with (h.P5 k l f r)) hn m) 0;change FM (cZ [] (aj.catch kH (lJ (BG k 2))) _ 0)=true at c;generalize cZ [] (aj.catch kH (lJ (BG k 2))) { S.h k with f:=f } 0=q at d c;unfold FM at c;rcases d with⟨g,_⟩|⟨y,g,b,_,_,_,j⟩;rw[g] at c;cases c;rw[g] at c
 cases y with
 |ok o=>exact (j.2.1 rfl).1|error z=>change (bif z==0 then true else z==17)=true at c;rw[show (z==0)=false from beq_false_of_ne j.1.2] at c;exact j.2 (eq_of_beq c) rfl
 obtain⟨o,p,c⟩:=List.any_eq_true.1 i;unfold holdT at c;have m:OpF a k (Eu k o):=⟨rfl,rfl,⟨by show (2:Int)<=7;decide,by show (7:Int)<=7;decide⟩,by show aG.size<=5;decide,fun e=>absurd e (by show ¬(7:Int)=5;decide),fun _=>h.DN o p⟩;have d:=aMa bGx kH (bEq l h.inv (h.dv k l) hn m) 0;change FK (cZ [] (aj.catch kH (lJ (Eu k o))) _ 0)=true at c;generalize cZ [] (aj.catch kH (lJ (Eu k o))) (S.h k) 0=q at d c;unfold FK at c;rcases d with⟨g,_⟩|⟨y,g,b,_,_,_,j⟩;rw[g] at c;cases c;rw[g] at c
 cases y with
 |ok o=>exact j.2.2.2.2 rfl|error z=>change (z==0)=true at c;exact absurd (eq_of_beq c) j.1.2
theorem aZz(h:Rel a n S)(hn:n<59):aAi S<=1:=by
 have g:=fun x=>aFu h hn (k:=0) g_ x;have f:=fun x=>aFu h hn (k:=1) g_ x;have d:=fun x=>aFu h hn (k:=2) g_ x;have c:=h.inv.one;unfold aAi
 cases l:holdsB S 0<;>cases j:holdsB S 1<;>cases i:holdsB S 2<;>first
  |exact (by decide:(0:Nat)<=1)
  |exact (by decide:(1:Nat)<=1)
  |exact absurd (c 0 1 g_ g_ (g l) (f j)) g_
  |exact absurd (c 0 2 g_ g_ (g l) (d i)) g_
  |exact absurd (c 1 2 g_ g_ (f j) (d i)) g_
end
def ab0:Ab:=⟨fun k=>if k=0 then 1 else 0,fun _=>false,fun _=>0,fun _=>false,fun k n=>k=0/\n=1,fun _ _=>False,fun _ _=>False⟩
theorem Tf:ou ab0:=by
 have h:∀ i,Can ab0 i->i=0:=fun i h=>by rcases h with h|h|h|h;apply Decidable.byContradiction;intro c;have e:ab0.N i=0:=ay c;rw[e] at h;cases h;cases h;exact h.1;exact h.elim
 refine⟨fun i j _ _ a b=>(h i a).trans (h j b).symm,fun k n _ ⟨f,d⟩=>?_,fun t l _ h=>h.elim,fun t l _ h=>h.elim⟩;subst f d;exact⟨rfl,by show 1<=1+1;decide⟩
theorem Zt{n:Nat}(h:n<=1):Bk (cl n) n false:=by
 have d:∀ j,cell (cl n) j=if j<3*n then 2 else 0:=fun j=>by
  unfold cell cl;rw[zG];by_cases c:j<3*n;rw[YW (by rw[Z_];exact c),aAG,au c,au c];rfl
  ·rw[Ye (by rw[Z_];omega),aAG,ay c]
   split<;>rfl
 refine⟨by unfold cl;rw[gp,Z_,Z_];omega,fun j=>by rw[d];split<;>omega,a_,fun b g=>aUn fun j c i=>by rw[d,au a_],fun _=>qJ (fun j f=>by rw[d,ay a_]) false,fun j f=>by rw[d,ay (by simp at f;omega)]⟩
theorem N8(k:Nat):FG ab0 k 1 D7:=by refine⟨0,[],zT,g_,g_,fun r c=>?_⟩;have:=congrArg ByteArray.size (aGk c).2.2.2;unfold gX at this;rw[aW,aW] at this;unfold gU at this;have h:=qC r.level;rw[gp,Yg] at this;omega
theorem bDp{m:Nat}{c p:Fl}(B:V8 m c p):Rel ab0 1 (GR (E8 (some TI,qi (cl 0) (cl 1) c (bT 0),m) (D5 (bT 1)) (D5 (bT 2))) false):=by
 have l:FG ab0 0 1 c:=⟨1,_,B.hA.gq,g_,g_,aWq B.hA.ok ⟨by show (5:Nat)<=5;decide,.inl ⟨rfl,1,rfl,rfl,rfl⟩⟩⟩
 have h:∀ k,k<3->vz ab0 k 1 (E8 (some TI,qi (cl 0) (cl 1) c (bT 0),m) (D5 (bT 1)) (D5 (bT 2)) k):=fun k g=>by
  rcases ES g with rfl|rfl|rfl
  exact⟨cl 0,cl 1,c,rfl,Zt g_,Zt g_,l⟩;exact⟨cl 0,cl 0,D7,rfl,Zt g_,Zt g_,N8 1⟩;exact⟨cl 0,cl 0,D7,rfl,Zt g_,Zt g_,N8 2⟩
 refine⟨Tf,h,fun k g f j=>?_,(fun o d=>by cases d),(fun o d=>by cases d),(fun k _ s i=>by cases i),rfl⟩;rw[List.mem_singleton.1 j];exact (h k g).Uj
def hdL:List (Nat×Spec):=[(14,aU true G6),(15,aU false Zy)]
theorem hd_ok:∀ p∈hdL,d_ prog af p.1 p.2:=by intro p a;simp only[hdL,zg,YP,or_false] at a;rcases a with rfl|rfl;exact aDb;exact aAa
theorem hdM:jq prog af (find hdL):=⟨bG hd_ok,dV⟩
def hdA(S:qf)(t k i:Nat):St:=⟨[(t,none,iy i),(1,none,iy k),(0,none,dm (.pt 900010 0 0))],headW (Ac S)⟩
def hdC(S:qf)(t k i:Nat)(h:jd):St:=⟨[(6,none,dm (.pt 4007 0 0)),(t,none,iy i),(1,none,iy k),(0,none,dm (.pt 900010 0 0))],(4007,none,0,.box 65 (p_ h))::headW (Ac S)⟩
def hdD(S:qf)(k i:Nat)(m:jy):St:=⟨[(12,none,dm (.pt 12002 0 0)),(11,none,iy i),(1,none,iy k),(0,none,dm (.pt 900010 0 0))],(12002,none,0,.box 31 (Ad m))::headW (Ac S)⟩
def hdR(S:qf)(d o t k i a:Nat)(q:QS):St:=⟨[(d,none,rf q.1.isSome),(o,none,dm (.pt a 0 0)),(t,none,iy i),(1,none,iy k),(0,none,dm (.pt 900010 0 0))],(a,none,0,.box 40 (j_ (aP q.1)))::headW (Ac S)⟩
theorem aXx{a:Type}{l:List a}{f:a->Bool}{d:a}{i:Nat}(h:i<l.length)(hb:(l.take i).any f=false)(b:f (l.getD i d)=false):(l.take (i+1)).any f=false:=by rw[zG,zH h] at b;rw[lS l i h,List.any_append,hb,List.any_cons,show f l[i]=false from b];rfl
theorem bGh(S:qf)(k:Nat)(D:k<3)(hS:ET S):DI prog af 36 (Ac S) (Ac S) [dm (.pt 900010 0 0),iy k] (rf (holdsB S k)):=by
 have M:=hdM;refine aFz func36 rfl rfl (by rw[qV];exact gY) (by rw[qV];exact gY) (fun x t l h=>?_) (iQ S) rfl (fun A T o _ U=>?_);exact kG h;refine aN ?_;have G:=ES D;rcases G with rfl|rfl|rfl
 let K:=0;rotate_left;let K:=1;rotate_left;let K:=2;rotate_left
 all_goals
  refine lM ?_
  refine bF (s':=hdA S 5 K 0) (fun a w c=>(
   (
    c.jh o (R:=[(900012,zi S),(900018,zq S)]) (kT:=[5,1,0]) (kO:=uy) ai (by
    exact AU
    ))
   ).same ?_ ?_) ?_
  exact jg
  exact
   (Am _)
  refine aS ?_;refine fJ (S.p K).length (fun i t=>t=hdA S 5 K i/\((S.p K).take i).any (holdL S K)=false) 0 ⟨rfl,rfl⟩ a_ (fun i t L Q=>?_);obtain⟨rfl,J⟩:=L;refine xU ?_ ?_;simp[K];refine dU (fun n=>?_) (fun n=>?_);have d:i<(S.p K).length:=by simp at n;omega
  refine jM ?_;refine aS ?_;refine aH ?_ ?_;simp[K];refine aH ?_ ?_;simp[K];exact d
  refine bF (s':=hdC S 5 K i { S.h K with f:=(S.p K).getD i [] }) (fun a w c=>(
   (
    c.jh o (R:=[(900012,zi S),(900018,zq S)]) (kT:=[6,5,1,0]) (kO:=4007::uy) ai (by
    exact AU
    ))
   ).same ?_ ?_) ?_
  exact jg;refine .cons (.box ?_) ?_;simp only[ik,WF];rfl
  exact
   (Am _)
  have j:(S.p K).getD i []∈S.p K:=by rw[zG,zH d];exact ZN d
  have E:=hS.pf K D _ j;obtain⟨h,O⟩:∃ h:jd,{ S.h K with f:=(S.p K).getD i [] }=h:=⟨_,rfl⟩;rw[O] at E ⊢;refine aH ?_ ?_;simp[K];exact⟨E,Y8 K 2⟩;obtain⟨q,u⟩:=lm (cZ [] (bU (BG K 2)) h 0);have C:holdL S K ((S.p K).getD i [])=FM q:=by unfold holdL;rw[O,u]
  have e:(⟨bW h.b.length (dK h.b),iG h.f.length (uo h.f),h.r⟩:jd)=h:=by rw[aJ,aZ]
  refine bF (s':=hdR S 10 8 5 K i 6010 q) (fun a w c=>(
   (
    c.jh o (R:=[(900012,zi S),(900018,zq S)]) (kT:=[10,8,5,1,0]) (kO:=6010::uy) ai (by
    exact AU
    ))
   ).same ?_ ?_) ?_
  refine .cons ?_ ((iP _));rw[<-u];change rf (cZ [] (bU (BG K 2)) (⟨bW h.b.length (dK h.b),iG h.f.length (uo h.f),h.r⟩:jd) 0).1.isSome=_;rw[e];refine .cons (.box ?_) ?_;rw[<-u];change j_ (aP (cZ [] (bU (BG K 2)) (⟨bW h.b.length (dK h.b),iG h.f.length (uo h.f),h.r⟩:jd) 0).1)=_;rw[e]
  exact
   (Am _)
  refine aH ?_ ?_;simp;exact fun a b=>⟨a,b⟩;refine dU (fun n=>?_) (fun n=>?_);refine aN ?_;have g:holdsB S K=true:=by unfold holdsB;rw[show (S.p K).any (holdL S K)=true from List.any_eq_true.2 ⟨_,j,C.trans n⟩];rfl
  refine bI (fun a w c=>⟨.inr rfl,_,nX (t:=[(4,none,rf true)]) ai b_ rfl (by rw[g]) rfl (iQ _) (by rw[qV];exact gY),(
   (
    c.jh o (R:=[(900012,zi S),(900018,zq S)]) (kT:=[4]) (kO:=uy) ai (by
    exact AU
    ))
   ).same ((iP _)) ?_⟩)
  exact
   (Am _)
  refine jD ?_;refine fP ?_
  refine fun a w c=>⟨i+1,_,a_,a_,⟨rfl,aXx d J (C.trans n)⟩,(
   (
    c.jh o (R:=[(900012,zi S),(900018,zq S)]) (kT:=[5,1,0]) (kO:=uy) ai (by
    exact AU
    ))
   ).same ?_ ?_⟩
  refine .cons ?_ ((iP _));have I:=(hS.p1 K D).2;have F:IntKind.wrap .i64 ((i:Int)+1)=((i+1:Nat):Int):=by rw[TC];omega
  show iy _=_;rw[F]
  exact
   (Am _)
  have H:i=(S.p K).length:=by simp at n;omega
  rw[H,Zc] at J;refine dY ?_;change jw _ _ _ _ _;refine lM ?_
  refine bF (s':=hdA S 11 K 0) (fun a w c=>(
   (
    c.jh o (R:=[(900012,zi S),(900018,zq S)]) (kT:=[11,1,0]) (kO:=uy) ai (by
    exact AU
    ))
   ).same ?_ ?_) ?_
  exact jg
  exact
   (Am _)
  refine aS ?_;refine fJ S.zu.length (fun i t=>t=hdA S 11 K i/\(S.zu.take i).any (holdT S K)=false) 0 ⟨rfl,rfl⟩ a_ (fun i t L Q=>?_);obtain⟨rfl,y⟩:=L;refine bC (fun n=>?_) (fun n=>?_);have d:i<S.zu.length:=by simp at n;omega
  refine jM ?_;refine aS ?_;refine aH ?_ ?_;simp[K];refine aH ?_ ?_;simp[K];exact d
  refine bF (s':=hdD S K i (Eu K (S.zu.getD i Ag))) (fun a w c=>(
   (
    c.jh o (R:=[(900012,zi S),(900018,zq S)]) (kT:=[12,11,1,0]) (kO:=12002::uy) ai (by
    exact AU
    ))
   ).same ?_ ?_) ?_
  exact jg;refine .cons (.box ?_) ?_;simp only[ik,WF];rfl
  exact
   (Am _)
  have j:S.zu.getD i Ag∈S.zu:=by rw[zG,zH d];exact ZN d
  have s:=hS.tk _ j;have N:vk (Eu K (S.zu.getD i Ag)):=⟨rfl,rfl,rfl,s.1,Ut,s.2.1,s.2.2.1,by show aG.size<=10000;decide,s.2.2.2⟩;obtain⟨m,z⟩:=lm (Eu K (S.zu.getD i Ag));have E:=hS.PG K D;rw[z] at N ⊢;refine aH ?_ ?_;simp[K];exact⟨E,N⟩;obtain⟨q,u⟩:=lm (cZ [] (bU m) (S.h K) 0);have C:holdT S K (S.zu.getD i Ag)=FK q:=by unfold holdT;rw[z,u]
  have e:(⟨bW (S.h K).b.length (dK (S.h K).b),iG (S.h K).f.length (uo (S.h K).f),(S.h K).r⟩:jd)=S.h K:=by rw[aJ,aZ]
  have P:0+((K:Nat):Int).toNat=K:=by rw[WF];omega
  refine bF (s':=hdR S 16 14 11 K i 14015 q) (fun a w c=>(
   (
    c.jh o (R:=[(900012,zi S),(900018,zq S)]) (kT:=[16,14,11,1,0]) (kO:=14015::uy) ai (by
    exact AU
    ))
   ).same ?_ ?_) ?_
  refine .cons ?_ ((iP _));rw[<-u];change rf (cZ [] (bU m) (⟨bW (S.h (0+((K:Nat):Int).toNat)).b.length (dK (S.h (0+((K:Nat):Int).toNat)).b),iG (S.h (0+((K:Nat):Int).toNat)).f.length (uo (S.h (0+((K:Nat):Int).toNat)).f),(S.h (0+((K:Nat):Int).toNat)).r⟩:jd) 0).1.isSome=_;rw[P,e];refine .cons (.box ?_) ?_;rw[<-u];change j_ (aP (cZ [] (bU m) (⟨bW (S.h (0+((K:Nat):Int).toNat)).b.length (dK (S.h (0+((K:Nat):Int).toNat)).b),iG (S.h (0+((K:Nat):Int).toNat)).f.length (uo (S.h (0+((K:Nat):Int).toNat)).f),(S.h (0+((K:Nat):Int).toNat)).r⟩:jd) 0).1)=_;rw[P,e]
  exact
   (Am _)
  refine lQ (fun n=>?_) (fun n=>?_);refine aN ?_;have g:holdsB S K=true:=by unfold holdsB;rw[show S.zu.any (holdT S K)=true from List.any_eq_true.2 ⟨_,j,C.trans n⟩,Bool.or_true]
  refine bI (fun a w c=>⟨.inr rfl,_,nX (t:=[(4,none,rf true)]) ai b_ rfl (by rw[g]) rfl (iQ _) (by rw[qV];exact gY),(
   (
    c.jh o (R:=[(900012,zi S),(900018,zq S)]) (kT:=[4]) (kO:=uy) ai (by
    exact AU
    ))
   ).same ((iP _)) ?_⟩)
  exact
   (Am _)
  refine jD ?_;refine fP ?_
  refine fun a w c=>⟨i+1,_,a_,a_,⟨rfl,aXx d y (C.trans n)⟩,(
   (
    c.jh o (R:=[(900012,zi S),(900018,zq S)]) (kT:=[11,1,0]) (kO:=uy) ai (by
    exact AU
    ))
   ).same ?_ ?_⟩
  refine .cons ?_ ((iP _));have I:=hS.tn;have F:IntKind.wrap .i64 ((i:Int)+1)=((i+1:Nat):Int):=by rw[TC];omega
  show iy _=_;rw[F]
  exact
   (Am _)
  have B:i=S.zu.length:=by simp at n;omega
  rw[B,Zc] at y;refine dY ?_;change jw _ _ _ _ _;refine aN ?_;have g:holdsB S K=false:=by unfold holdsB;rw[J,y];rfl
  refine bI (fun a w c=>⟨.inr rfl,_,nX (t:=[(4,none,rf false)]) ai b_ rfl (by rw[g]) rfl (iQ _) (by rw[qV];exact gY),(
   (
    c.jh o (R:=[(900012,zi S),(900018,zq S)]) (kT:=[4]) (kO:=uy) ai (by
    exact AU
    ))
   ).same ((iP _)) ?_⟩)
  exact
   (Am _)
def hN(S:qf):Nat->Nat
 |0=>0|k+1=>Em (holdsB S k) (hN S k)
theorem Uf(S:qf):∀ k,hN S k<=k
 |0=>dC 0|k+1=>by have:=Uf S k;unfold hN Em;cases holdsB S k;show hN S k<=k+1;omega;show hN S k+1<=k+1;omega
def Uh(S:qf)(k:Nat)(os:ug)(ys:jl):Option (Prop×ug×PV):=some (os=Ac S/\ys=[dm (.pt 900010 0 0),iy k]/\ET S/\k<3,Ac S,rf (holdsB S k))
theorem bGi(S:qf)(k:Nat):d_ prog af 36 (wSpec false uy (Uh S k)):=aCv (aB func36 ah rfl) fun g f p a r c b=>by cases c;obtain⟨rfl,rfl,e,d⟩:=b;exact bGh S k d e
def hoL(S:qf)(k:Nat):List (Nat×Spec):=[(36,wSpec false uy (Uh S k))]
theorem hoM(S:qf)(k:Nat):jq prog af (find (hoL S k)):=⟨bG (fun p a=>by
 simp only[hoL,zg,YP,or_false] at a;rcases a with rfl
 exact bGi S k),dV⟩
def aEA(S:qf)(k n:Nat):St:=⟨[(4,none,iy k),(3,none,iy n),(0,none,dm (.pt 900010 0 0))],headW (Ac S)⟩
theorem aTs(S:qf)(hS:ET S):DI prog af 19 (Ac S) (Ac S) [dm (.pt 900010 0 0)] (iy (aAi S)):=by
 have M:=hoM S 0;refine aFz func19 rfl rfl (by rw[qV];exact gY) (by rw[qV];exact gY) (fun x t l h=>?_) (iQ S) rfl (fun A r g _ u=>?_);exact kG h;refine mQ ?_;refine lM ?_
 refine bF (s':=aEA S 0 (hN S 0)) (fun a w d=>(
  (
   d.jh g (R:=[(900012,zi S),(900018,zq S)]) (kT:=[4,3,0]) (kO:=uy) ai (by
   exact AU
   ))
  ).same ?_ ?_) ?_
 exact jg
 exact
  (Am _)
 refine aS ?_;refine fJ 3 (fun k t=>t=aEA S k (hN S k)) 0 rfl a_ (fun k t q s=>?_);subst q;clear M;have M:=hoM S k;obtain⟨n,c⟩:=lm (hN S k);have p:n<=k:=c ▸ Uf S k;rw[c];refine bC (fun e=>?_) (fun e=>?_);have j:k<3:=by simp at e;omega
 refine jM ?_;refine aS ?_;refine aH ?_ ?_;have o:=iQ S;simp[Ac] at o;simp;exact⟨⟨rfl,hS,j⟩,o,fun a b h=>iQ _ (a,b) h⟩;refine dU (fun e=>?_) (fun e=>?_);refine oQ ?_;refine fP ?_;have i:hN S (k+1)=n+1:=by show Em (holdsB S k) (hN S k)=_;rw[c,e];rfl
 refine fun a w d=>⟨k+1,_,a_,a_,rfl,(
  (
   d.jh g (R:=[(900012,zi S),(900018,zq S)]) (kT:=[4,3,0]) (kO:=uy) ai (by
   exact AU
   ))
  ).same ?_ ?_⟩
 refine .cons ?_ (.cons ?_ ((iP _)));have f:IntKind.wrap .i64 ((k:Int)+1)=((k+1:Nat):Int):=by rw[TC];omega
 show iy _=_;rw[f];show iy _=iy _;rw[i];have f:IntKind.wrap .i64 ((n:Int)+1)=((n+1:Nat):Int):=(by rw[TC];omega);rw[f]
 exact
  (Am _)
 refine jD ?_;refine fP ?_;have i:hN S (k+1)=n:=by show Em (holdsB S k) (hN S k)=_;rw[c,e];rfl
 refine fun a w d=>⟨k+1,_,a_,a_,rfl,(
  (
   d.jh g (R:=[(900012,zi S),(900018,zq S)]) (kT:=[4,3,0]) (kO:=uy) ai (by
   exact AU
   ))
  ).same ?_ ?_⟩
 refine .cons ?_ (.cons ?_ ((iP _)));have f:IntKind.wrap .i64 ((k:Int)+1)=((k+1:Nat):Int):=by rw[TC];omega
 show iy _=_;rw[f];show iy _=iy _;rw[i]
 exact
  (Am _)
 have m:k=3:=by simp at e;omega
 subst m;refine dY ?_;change jw _ _ _ _ _;refine aN ?_
 refine bI (fun a w d=>⟨.inr rfl,_,nX (t:=[(2,none,iy n)]) ai b_ rfl (by rw[<-c];rfl) rfl (iQ _) (by rw[qV];exact gY),(
  (
   d.jh g (R:=[(900012,zi S),(900018,zq S)]) (kT:=[2]) (kO:=uy) ai (by
   exact AU
   ))
  ).same ((iP _)) ?_⟩)
 exact
  (Am _)
end Pv
end Go.Proofs.YtndpjopifkbgiaaGreatDoor
