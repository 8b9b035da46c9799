/-
  Several texts in one file.
-/
import Derived.Test.YtndpjopifkbgiaaGreatDoorOnD
import Derived.Test.YtndpjopifkbgiaaGreatDoorOnA
import Derived.WalkMore
import Derived.StillTail
import Derived.RegionTactic
import Derived.Test.YtndpjopifkbgiaaGreatDoorOnB
import Derived.Shelf.Spec.SlicesGrow
import Derived.Test.YtndpjopifkbgiaaGreatDoorProg
set_option maxRecDepth 100000
set_option maxHeartbeats 4000000
open Go.Proofs.Tryz
open _root_.List renaming length_append->gp,length_drop->YO,mem_cons->zg,prefix_append->ZG,prefix_refl->aAf,append_nil->Lt,mem_cons_of_mem->VM,drop->Z5,length_take->xe,cons_append->yz,take_of_length_le->YY,nil_append->Ha,mem_cons_self->MM,getElem?_map->XN,take_length->Zc,range->AC,take_append_drop->ZZ,getElem?_eq_none->YQ,getElem_range->ZI,take_add_one->aEd,append_assoc->Pi,not_mem_nil->YP,length_cons->zl,getElem_map->ZU,ext_getElem->Z9,map_append->Z8,replicate->PR,drop_zero->Yh,map_cons->DD
open _root_.And renaming intro->az
open _root_.Go.World renaming putObj_heap_other->ZT
open _root_.Go.IntKind renaming wrap_i64->TC
open _root_.Go renaming undef->bz,fenced_wide->ZX,World->ae,wpAnyIn_take->aAA,Program->dE,PanicEntry->Yr,FuncId->ZK,Value->ag,Code->yf,TypeId->bi,Calls->mf,Exit->nz
open _root_.Array renaming length_toList->uA,replicate->IR,ext'->GM
open _root_.Int renaming toNat_natCast->WF
open _root_.Nat renaming zero_le->xn,le_refl->dC,zero_add->ik,le_trans->PP,beq->bu,succ_mul->aBu,sub_self->Yf,lt_or_ge->Yk,lt_of_lt_of_le->YX,add_zero->ZA,add_comm->ZB,mul_one->Yy
namespace Go.Proofs.YtndpjopifkbgiaaGreatDoor
open Go.RowKit
namespace Pv
def U9:Spec:=aU true fun a=>match a with
 |[.w (.one (.lit (.string s))),.w (.one (.lit (.int .i64 c)))]=>some (0<=c/\c<=1000000/\s.size<=1,t_ (strOf (Lib.repeatL s.data.toList c.toNat)))|_=>none
theorem VY{I:je}:d_ prog I 141 U9:=by
 refine aT (aB func141 ah rfl) (fun j p r a g w d b l f=>?_);split at a;rename_i s c;cases a
 match b,f with
 |[v1,v2],⟨k1,k2,_⟩=>obtain rfl:=k1.h_;obtain rfl:=k2.h_;obtain⟨o,m,i⟩:=g;obtain⟨n,rfl⟩:∃ n:Nat,c=(n:Int):=⟨c.toNat,a_⟩;refine (aEt s n w a_ (by have:=Nat.mul_le_mul i (show n<=1000000 by omega);omega)).mono ?_;rintro e k ⟨rfl,h⟩;exact⟨_,rfl,Ext.of_below h,.w (.one (.lit rfl))⟩
 cases a
def U_:Spec:=aU true fun a=>match a with
 |[.w (.one (.lit (.string s))),.w (.one (.lit (.string p)))]=>some (True,rf (Lib.hasPrefix s.data.toList p.data.toList))|_=>none
theorem Ve{I:je}:d_ prog I 170 U_:=by
 refine aT (aB func170 ah rfl) (fun f p r a h w c b i d=>?_);split at a;rename_i s p;cases a
 match b,d with
 |[v1,v2],⟨k1,k2,_⟩=>obtain rfl:=k1.h_;obtain rfl:=k2.h_;refine (aLj s p w).mono ?_;rintro e g ⟨rfl,rfl⟩;exact⟨_,rfl,Ext.refl _,.w (.one (.lit rfl))⟩
 cases a
theorem xK(s p:dh):Lib.hasPrefix s p=decide (s.take p.length=p):=by
 unfold Lib.hasPrefix;by_cases h:s.take p.length=p;rw[rq h,List.isPrefixOf_iff_prefix];rw[<-h];exact List.take_prefix _ _;rw[Bg h];cases a:p.isPrefixOf s with
 |false=>rfl|true=>exact absurd (List.prefix_iff_eq_take.1 (List.isPrefixOf_iff_prefix.1 a)).symm h
theorem aIz(rec k:Int):-1<=dG rec k/\dG rec k<=56:=by unfold dG;split<;>omega
theorem bHb{I:je}(b:∀ w c,Ext w c->I w->I c)(rec k:Int):fF prog I 134 true [iy rec,iy k] (iy (dG rec k)):=by
 have M:jq prog I (find []):=⟨bG (fun p d=>by cases d),dV⟩;refine bD func134 rfl rfl b (fun A f e g=>?_);refine aN ?_;refine bC (fun a=>?_) (fun a=>?_);refine eQ ?_;have h:rec<0\/3<rec\/k<0\/1<k:=by simp at a;omega
 unfold dG;rw[au h];refine iK ?_;refine kJ ?_;have h:¬(rec<0\/3<rec\/k<0\/1<k):=by simp at a;omega
 refine congrArg iy ?_;unfold dG;rw[ay h];simp only[TC];omega
theorem aYu{I:je}(b:∀ w c,Ext w c->I w->I c)(rec k:Int):fF prog I 115 true [iy rec,iy k] (iy (dG rec k)):=by
 have M:jq prog I (find []):=⟨bG (fun p d=>by cases d),dV⟩;refine bD func115 rfl rfl b (fun A f e g=>?_);refine aN ?_;refine bC (fun a=>?_) (fun a=>?_);refine eQ ?_;have h:rec<0\/3<rec\/k<0\/1<k:=by simp at a;omega
 unfold dG;rw[au h];refine iK ?_;refine kJ ?_;have h:¬(rec<0\/3<rec\/k<0\/1<k):=by simp at a;omega
 refine congrArg iy ?_;unfold dG;rw[ay h];simp only[TC];omega
theorem aMg(X Y:dh):uh X.length (su X) (su Y)=su (X++Y):=by funext i;unfold uh su;by_cases h:i<X.length;rw[au h,zG,zG,List.getElem?_append_left h];rw[ay h,zG,zG,List.getElem?_append_right a_]
theorem aGn{n:Nat}{f g:Nat->dw}(h1:∀ i,(f i).all (aY false)=true)(h2:∀ i,(g i).all (aY false)=true):∀ i,(uh n f g i).all (aY false)=true:=fun i=>by unfold uh;split;exact h1 i;exact h2 _
theorem aJh(rec seq:Int)(c:l9)(h1:ja rec)(h2:ja seq)(hc:c.size<=3000):Y3 prog af 143 [iy rec,iy seq,t_ c] 5 1 (encS rec seq c.data.toList).length (su (encS rec seq c.data.toList)):=by
 have M:=Ub;have h:prog.types[5].bytes=1:=ah;have b:prog.types[5].size=1:=ah;have m:=aQ seq;have l:=aQ rec;have k:=jU c.data.toList;have p:c.data.toList.length=c.size:=uA;refine aPp func143 rfl rfl bJ (fun A r q s=>?_);refine bY ?_ ?_;simp;refine⟨h2,a_,?_⟩;rw[h];omega;refine bF (s':=⟨[(0,none,iy rec),(7,none,dm (.ow 1001 0 1 0 (AL seq c.data.toList).length))],[(1001,none,0,.arr 5 1 (AL seq c.data.toList).length (su (AL seq c.data.toList)))]⟩) (fun a w d=>(d.reset (kT:=[0,7]) (kO:=[1001]) ai ?_).same ?_ ?_) ?_;simp only[All,and_true,Lt];exact fun i _=>aGn (fun _=>rfl) (fun _=>rfl) i;refine .cr (.cons ?_ .nil);rw[b,AL,gp];refine .cons (.arr ?_ (fun i j=>?_)) .nil;rw[AL,gp];simp only[ik];exact congrFun (aMg (eu seq) (bH c.data.toList)) i;have o:(AL seq c.data.toList).length<=4000:=by unfold AL;rw[gp];omega
 have e:=kD 5 [eu rec,AL seq c.data.toList];refine aH ?_ ?_;simp;exact⟨h1,a_,a_⟩;refine aH ?_ ?_;simp;rw[h];omega;refine bF (s':=⟨[(6,none,dm (.ow 1001 0 1 0 (encS rec seq c.data.toList).length))],[(1001,none,0,.arr 5 1 (encS rec seq c.data.toList).length (su (encS rec seq c.data.toList)))]⟩) (fun a w d=>(d.reset (kT:=[6]) (kO:=[1001]) ai ?_).same ?_ ?_) ?_;simp only[All,and_true,Lt,Ha,yz];exact fun i _=>aGn (fun _=>rfl) (fun _=>rfl) i;refine .cons ?_ .nil;rw[encS,gp,e];exact congrArg (fun n=>dm (.ow 1001 0 n 0 ((AL seq c.data.toList).length+16))) b;refine .cons (.arr ?_ (fun i j=>?_)) .nil;rw[encS,gp,e];simp only[eF];exact congrFun (aMg (AL seq c.data.toList) (qU 5 [eu rec,AL seq c.data.toList])) i;refine bI (fun a w d=>⟨.inr rfl,_,?_,d⟩);refine aVn (x:=1001) (jm:=0) (g:=none) (f:=?_) (out:=?_) ?_ ?_ ?_ ?_ ?_ trivial ?_;rotate_left 2;rfl;simp;rfl;rfl;rfl;intro i j;exact⟨rfl,rfl⟩
def UE:Spec:=aKl fun a=>match a with
 |[.w (.one (.lit (.int .i64 rec))),.w (.one (.lit (.int .i64 seq))),.w (.one (.lit (.string c)))]=>some (ja rec/\ja seq/\c.size<=3000,5,1,(encS rec seq c.data.toList).length,su (encS rec seq c.data.toList))|_=>none
theorem XO:d_ prog af 143 UE:=by refine aIg (aB func143 ah rfl) (fun g p e n len h f d=>?_);split at f;rename_i b a c;cases f;exact aJh b a c d.1 d.2.1 d.2.2;cases f
def aKd:Spec:=aU true fun a=>match a with
 |[.w (.one (.lit (.int .i64 rec))),.w (.one (.lit (.int .i64 k)))]=>some (True,iy (dG rec k))|_=>none
theorem MZ:d_ prog af 134 aKd:=by refine aT (aB func134 ah rfl) (fun b p r a c=>?_);split at a;cases a;exact bHb bJ _ _;cases a
theorem bDk:d_ prog af 115 aKd:=by refine aT (aB func115 ah rfl) (fun b p r a c=>?_);split at a;cases a;exact aYu bJ _ _;cases a
def Q5:List (Nat×Spec):=(143,UE)::(170,U_)::(141,U9)::(134,aKd)::(115,aKd)::aES
theorem Ib:∀ p∈Q5,d_ prog af p.1 p.2:=by intro p a;simp only[Q5,zg] at a;rcases a with rfl|rfl|rfl|rfl|rfl|a;exact XO;exact Ve;exact VY;exact MZ;exact bDk;exact XW p a
theorem aLA:jq prog af (find Q5):=⟨bG Ib,dV⟩
def aFT(x:Int×dh):PV:=.w (.agg [.lit (.int .i64 x.1),.lit (.string (strOf x.2))])
theorem bAo(rec:Int)(b:dh)(h1:ja rec)(hb:b.length<4611686018427387904):fF prog af 166 true [iy rec,r_ b] (aFT (qw rec b)):=by
 have M:=aLA;have w:=qQ b;have C:=iR b;refine bD func166 rfl rfl bJ (fun A H F I=>?_);refine bY ?_ ?_;simp;exact hb;refine bM (⟨[(0,none,iy rec),(1,none,r_ b),(4,none,dm (.pt 0 0 0)),(5,none,iy (di b).1),(6,none,iy ((di b).2.1:Int)),(7,none,iy (di b).2.2)],[(0,none,0,.box 205 [.lit (.int .i64 0),.lit (.string aG)])]⟩) ?_ ?_ ?_;rw[eF];exact jg;exact BR;obtain⟨m,l⟩:=lm (qw rec b);rw[l];have a:jL (b.drop (di b).2.1)=uz b:=rfl;have o:=bAa (b.drop (di b).2.1)
 have r:(uz b).2.2=0->(uz b).2.1≠0:=fun E h1=>by
  have z:jL (b.drop (di b).2.1)=((uz b).1,(uz b).2.1,0):=by rw[a,<-E]
  have p:=(ML z).1;rw[h1,List.take_zero] at p;have d:=congrArg List.length p;have x:=aQ ((uz b).1.length:Int);unfold bH at d;rw[gp] at d;have K:(eu ((uz b).1.length:Int)).length=0:=by simp at d;omega
  have D:=nD (b.drop (di b).2.1);rw[a,YO] at D;have J:=qC ((uz b).1.length:Int) a_ a_;omega
 unfold qw at l;have u:=nD (b.drop (di b).2.1);rw[a,YO] at u;rw[a] at o;generalize G:di b=g at *;obtain⟨q,k,e⟩:=g;dsimp only at *;refine bC (fun j=>?_) (fun j=>?_);refine eQ ?_;have h:e≠0\/q<1\/1099511627776<q:=by simp at j;omega
 rw[au h] at l;rw[<-l];rfl;have h:¬(e≠0\/q<1\/1099511627776<q):=by simp at j;omega
 rw[ay h] at l;refine qM ?_ ?_;simp;refine⟨w.1,?_⟩;unfold jO;rw[dZ];omega;have t:(rowB ((b.length:Int)-(k:Int)).toNat fun i=>su b ((k:Int).toNat+i))=b.drop k:=by rw[show ((b.length:Int)-(k:Int)).toNat=b.length-k from a_,show (k:Int).toNat=k from a_,nR a_];exact YY (by rw[YO];exact dC _)
 refine bM (⟨[(0,none,iy rec),(1,none,r_ b),(4,none,dm (.pt 0 0 0)),(5,none,iy q),(7,none,iy (uz b).2.2),(8,none,t_ (strOf (uz b).1)),(9,none,iy ((uz b).2.1:Int))],[(0,none,0,.box 205 [.lit (.int .i64 0),.lit (.string aG)])]⟩) ?_ ?_ ?_;rw[t,a];exact jg;exact BR;generalize uz b=c at *;obtain⟨s,n,y⟩:=c;dsimp only at *;have f:(strOf s).size=s.length:=aW s;refine xU ?_ ?_;simp;intro z B;rw[f] at B ⊢;exact⟨h1,by unfold ja;omega,a_⟩;refine dU (fun j=>?_) (fun j=>?_);refine eQ ?_;simp[xK,eF,dI,f] at j
 have p:y≠0\/2000<s.length\/b.take (encS rec q s).length≠encS rec q s:=by
  rcases j with ((d|d)|d)|d;exact .inl d;exact .inr (.inl a_);exact .inr (.inr d)
  by_cases x:y=0;exact absurd d (r x);exact .inl x
 rw[au p] at l;rw[<-l];rfl;refine iK ?_;refine kJ ?_;simp[xK,eF,dI,f] at j;have p:¬(y≠0\/2000<s.length\/b.take (encS rec q s).length≠encS rec q s):=by rintro (d|d|d);exact d j.1.1.1;omega;exact d j.1.2
 rw[ay p] at l;rw[<-l];rfl
def UF:Spec:=aU true fun a=>match a with
 |[.w (.one (.lit (.int .i64 rec))),v]=>(match FY v with
  |some (p,l)=>some (p/\ja rec/\l.length<4611686018427387904,aFT (qw rec l))|none=>none)
 |_=>none
theorem XQ:d_ prog af 166 UF:=by
 refine aT (aB func166 ah rfl) (fun i p r a d=>?_);split at a;rename_i b v;cases c:FY v with
 |none=>rw[c] at a;cases a| some q=>
  obtain⟨k,l⟩:=q;rw[c] at a;cases a
  exact (bAo b l d.2.1 d.2.2).args fun C e f=>by
   match e,f with
   |[j,x],⟨h,g,_⟩=>exact⟨h,wR c d.1 g,trivial⟩
 cases a
theorem aTu{e:Type}(g:e->ji)(k:Nat):∀ (l:List e) (c:ji),(∀ a∈l,(g a).length=k)->c.length=l.length*k->(∀ (i:Nat) (f:i<l.length),(c.drop (i*k)).take k=g l[i])->c=l.flatMap g
 |[],c,_,d,_=>by
  have:c.length=0:=by simpa using d
  rw[List.eq_nil_of_length_eq_zero this];rfl
 | a::l,c,hg,d,h=>by
  have n:c.take k=g a:=by have:=h 0 b_;rw[Nat.zero_mul,Yh] at this;exact this
  have j:=aTu g k l (c.drop k) (fun b m=>hg b (VM _ m)) (by rw[YO,d,zl,aBu];omega) (fun i f=>by
   have:=h (i+1) (by simpa using f);rw[aBu] at this;rw[List.drop_drop,ZB]
   exact this)
  rw[List.flatMap_cons,<-j,<-n];exact (ZZ k c).symm
def mO(r:qj):dw:=[.lit (.int .i64 r.val),.lit (.string r.bytes)]
def Fq(l:List qj):Nat->dw:=fun i=>mO (l.getD i ⟨0,aG⟩)
def JJ:dw->qj
 |[.lit (.int _ n),.lit (.string s)]=>⟨n,s⟩|_=>⟨0,aG⟩
def Ll:dw->Bool
 |[.lit (.int .i64 _),.lit (.string _)]=>true|_=>false
theorem Lj{l:dw}(h:Ll l=true):l=mO (JJ l):=by
 unfold Ll at h;split at h
 rfl;cases h
def tK(n:Nat)(f:Nat->dw):List qj:=(AC n).map fun i=>JJ (f i)
def aDm(n:Nat)(f:Nat->dw):Prop:=∀ i,i<n->Ll (f i)=true
@[simp] theorem lW(n:Nat)(f:Nat->dw):(tK n f).length=n:=by simp[tK]
theorem JK{n:Nat}{f:Nat->dw}(h:aDm n f):∀ i,i<n->f i=Fq (tK n f) i:=fun i a=>by unfold Fq tK;rw[zG,XN,List.getElem?_range a];exact Lj (h i a)
@[simp] theorem P8(n:Nat)(l:List qj):aDm n (Fq l):=fun _ _=>rfl
@[simp] theorem UM(l:List qj):tK l.length (Fq l)=l:=by apply Z9 b_;intro i b a;simp only[tK,ZU,ZI,Fq,mO,JJ];rw[zG,zH a];rfl
theorem bDm{C:Ctx}{n:Nat}{f:Nat->dw}{v:ag}(h:R C (.sl 2 n f) [v])(g:aDm n f):Reads C.w 2 v (tK n f).length (logCells (tK n f)):=by
 cases h with
 | sl e l j=>
  rename_i d
  have:d=logCells (tK n f):=by
   refine aTu qj.cells 2 (tK n f) d (fun a _=>rfl) (by rw[lW];exact e.1) (fun i c=>?_);rw[lW] at c;have b:=j i c;rw[JK g i c] at b;unfold Fq at b;rw[zG,zH (by rw[lW];exact c)] at b;generalize (tK n f)[i]'(by rw[lW];exact c)=r at b ⊢;generalize (d.drop (i*2)).take 2=k at b ⊢;cases b with
   | cons k1 b=>cases b with
    |cons k2 b=>cases b;cases k1;cases k2;rfl
  rw[<-this,lW];exact e
def VU:PC->Option (Prop×List qj)
 |.sl 2 n f=>some (aDm n f,tK n f)|.lit (.slice none 0 0)=>some (True,[])|_=>none
theorem QF{C:Ctx}{c:PC}{v:ag}{p:Prop}{l:List qj}(h:VU c=some (p,l))(a:p)(hr:R C c [v]):Reads C.w 2 v l.length (logCells l):=by unfold VU at h;split at h;cases h;exact bDm hr a;cases h;cases hr;exact Reads.nil _ 2;cases h
def uD(a:Acc):dw:=[.lit (.int .i64 a.kind),.lit (.int .i64 a.pg),.lit (.int .i64 a.cell),.lit (.string a.bytes)]
def yR(O:qy){a:Type}(p:aj a)(l:jc)(q:aj a)(k:jc):Prop:=l <+: k/\go O p l=go O q k
theorem yR.start(O:qy){a:Type}(p:aj a)(l:jc):yR O p l p l:=⟨aAf _,rfl⟩
theorem yR.step{b a:Type}{O:qy}{p:aj b}{l k:jc}{q:aj a}{f:a->aj b}(h:yR O p l (q.bind f) k):yR O p l (f (go O q k).1) (go O q k).2:=⟨h.1.trans (vO O q k),h.2.trans (yL O q f k)⟩
theorem yR.dn{b a:Type}{O:qy}{p:aj b}{l k:jc}{q:aj a}{f:a->aj b}(h:yR O p l (q.bind f) k):∀ g,k <+: g->g <+: (go O q k).2->O g=none->l <+: g/\g <+: (go O p l).2:=fun g d c _=>by refine⟨h.1.trans d,c.trans ?_⟩;rw[h.step.2];exact vO _ _ _
theorem W9{I:je}:jq prog I (find ([]:List (Nat×Spec))):=⟨fun f a h=>(by cases h),ah⟩
theorem Va{I:je}(c:Int):DJ prog I 165 (aj.rd c) [.w (.one .dv),iy c] t_:=by intro O l;have M:=W9 (I:=I);refine kR func165 rfl rfl rfl (fun A f g=>?_);refine bY ?_ ?_;exact⟨aKw (oG _) (oG _),trivial⟩;refine bI (fun a w e=>⟨.inr rfl,_,⟨?_,(fun o d=>by cases d),fun p b=>?_⟩,e⟩);rotate_left 1;cases b;rfl;refine aO (ai) b_ ai ai ?_;rfl
theorem Hg{I:je}(c:Int)(b:l9):DJ prog I 140 (aj.wr c b) [.w (.one .dv),iy c,t_ b] (fun _=>.og []):=by intro O l;have M:=W9 (I:=I);refine kR func140 rfl rfl rfl (fun A f h=>?_);refine aX M h f (ai) ah ?_ ?_;exact⟨aKw (oG _) (oG _),trivial⟩;intro a w g;refine⟨.inl rfl,_,⟨?_,(fun o e=>by cases e),fun p d=>?_⟩,g⟩;rotate_left 1;cases d;rfl;refine aO (ai) b_ ai ai ?_;rfl
def Nk:jl->Option (Prop×aj l9×(l9->PV))
 |[.w (.one (.lit (.int .i64 c)))]=>some (True,aj.rd c,t_)|_=>none
def Nh:jl->Option (Prop×aj Unit×(Unit->PV))
 |[.w (.one (.lit (.int .i64 c))),.w (.one (.lit (.string b)))]=>some (True,aj.wr c b,fun _=>.og [])|_=>none
theorem QK{I:je}:d_ prog I 165 (lY Nk):=
 pF (aB func165 ah rfl) (fun a c p v h _=>by
  unfold Nk at h;split at h;cases h;exact (Va _).toB
  cases h)
theorem Pg{I:je}:d_ prog I 140 (lY Nh):=
 pF (aB func140 ah rfl) (fun a c p v h _=>by
  unfold Nh at h;split at h;cases h;exact (Hg _ _).toB
  cases h)
def D8(a b:Int):Int:=if a<b then -1 else if b<a then 1 else 0
theorem Qs{I:je}(b:∀ w c,Ext w c->I w->I c)(a:Int):fF prog I 197 true [iy a] (rf false):=by have M:=W9 (I:=I);refine bD func197 rfl rfl b (fun A e d f=>?_);refine aN ?_;refine eQ ?_;simp
def UC:Spec:=aU true fun a=>match a with
 |[.w (.one (.lit (.int .i64 _)))]=>some (True,rf false)|_=>none
theorem WA:d_ prog af 197 UC:=by refine aT (aB func197 ah rfl) (fun b p r a c=>?_);split at a;cases a;exact Qs bJ _;cases a
def aNI:List (Nat×Spec):=[(197,UC)]
theorem aNK:jq prog af (find aNI):=⟨bG (fun p a=>by
 obtain rfl:=List.mem_singleton.1 a
 exact WA),dV⟩
theorem TL(a b:Int):fF prog af 185 true [iy a,iy b] (iy (D8 a b)):=by have M:=aNK;refine bD func185 rfl rfl bJ (fun A f e g=>?_);refine mQ ?_;refine aN ?_;refine bC (fun c=>?_) (fun c=>?_);cases c;refine rU (fun c=>?_) (fun c=>?_);cases c;refine rU (fun c=>?_) (fun c=>?_);refine eQ ?_;unfold D8;rw[au (of_decide_eq_true c)];refine jD ?_;have d:¬a<b:=of_decide_eq_false c;refine bC (fun c=>?_) (fun c=>?_);refine eQ ?_;unfold D8;rw[ay d,au (of_decide_eq_true c)];refine iK ?_;refine kJ ?_;unfold D8;rw[ay d,ay (of_decide_eq_false c)]
def UG:Spec:=aU true fun c=>match c with
 |[.w (.one (.lit (.int .i64 a))),.w (.one (.lit (.int .i64 b)))]=>some (True,iy (D8 a b))|_=>none
theorem TM:d_ prog af 185 UG:=by refine aT (aB func185 ah rfl) (fun b p r a c=>?_);split at a;cases a;exact TL _ _;cases a
def aNH:List (Nat×Spec):=[(185,UG)]
theorem aNJ:jq prog af (find aNH):=⟨bG (fun p a=>by
 obtain rfl:=List.mem_singleton.1 a
 exact TM),dV⟩
def arL(a:Int)(s:l9):PV:=.w (.agg [.lit (.int .i64 a),.lit (.string s)])
theorem aUj(a b:Int)(s t:l9):fF prog af 167 true [arL a s,arL b t] (iy (D8 a b)):=by have M:=aNJ;refine bD func167 rfl rfl bJ (fun A d c e=>?_);refine mQ ?_;exact mP
def Ik:Spec:=aU true fun c=>match c with
 |[.w (.agg [.lit (.int .i64 a),.lit (.string _)]),.w (.agg [.lit (.int .i64 b),.lit (.string _)])]=>some (True,iy (D8 a b))|_=>none
theorem TW:d_ prog af 167 Ik:=by refine aT (aB func167 ah rfl) (fun b p r a c=>?_);split at a;cases a;exact aUj _ _ _ _;cases a
def Q4:List (Nat×Spec):=(165,lY Nk)::(140,lY Nh)::(167,Ik)::(166,UF)::Q5
theorem Ia:∀ p∈Q4,d_ prog af p.1 p.2:=by intro p a;simp only[Q4,zg] at a;rcases a with rfl|rfl|rfl|rfl|a;exact QK;exact Pg;exact TW;exact XQ;exact Ib p a
theorem aKY:jq prog af (find Q4):=⟨bG Ia,dV⟩
def bDs(rec:Int):Nat->Int×dh->Int×dh->aj ((Int×dh)×Nat)
 |0,_,_=>aj.cur rec|1,x,_=>(aj.w_ (dG rec 1) 8 []).bind fun b=>.ret (xu x (qw rec b))|_,x,y=>.ret (xu x y)
def rdO(x y:Int×dh):Wr:=[(0,none,0,.box 205 [.lit (.int .i64 0),.lit (.string aG)]),(1000,none,0,.box 233 [.lit (.int .i64 x.1),.lit (.string (strOf x.2)),.lit (.int .i64 y.1),.lit (.string (strOf y.2))])]
def rdT(rec:Int)(k:Nat):List (Nat×mi×PV):=[(0,none,.w (.one .dv)),(1,none,iy rec),(4,none,dm (.pt 0 0 0)),(5,none,iy 0),(6,none,dm (.pt 1000 0 0)),(11,none,iy k)]
def IY(O:qy)(dn:jc->Prop)(rec:Int)(k:Nat)(x y:Int×dh)(a:jc):St:=⟨rdT rec k,(dx,none,0,.dev O dn a)::rdO x y⟩
def aCT(O:qy)(dn:jc->Prop)(rec:Int)(k:Nat)(x y:Int×dh)(i:Nat)(b:dh)(a:jc):St:=⟨(7,none,iy k)::(8,none,dm (.ow 5000 0 1 0 b.length))::(14,none,iy i)::rdT rec k,(dx,none,0,.dev O dn a)::(5000,none,0,.arr 5 1 b.length (su b))::rdO x y⟩
def JR(rec:Int):Nat->Int×dh->dh->aj ((Int×dh)×Nat)
 |0,_,a=>bDs rec 1 (qw rec a) (0,[])|_,x,b=>.ret (xu x (qw rec b))
theorem bDr{rec:Int}{k:Nat}(a:k<2)(x y:Int×dh):bDs rec k x y=(aj.w_ (dG rec k) 8 []).bind (JR rec k x):=by rcases (by omega:k=0\/k=1) with rfl|rfl<;>rfl
theorem aYo{F:Int}{i:Nat}(c:i<8)(b:dh){a:Type}(f:dh->aj a):(aj.w_ F (8-i) b).bind f=(aj.rd (F+i)).bind fun s=>(aj.w_ F (8-(i+1)) (b++s.data.toList)).bind f:=by have e:8-i=(7-i)+1:=a_;rw[e,aj.w_,aj.bind_assoc,show 7-(7-i)=i from a_,show 8-(i+1)=7-i from a_]
theorem aXi(b:dh)(i:Nat):∀ x∈su b i,aY false x=true:=fun x a=>by change x∈[_] at a;rw[List.mem_singleton] at a;subst a;rfl
theorem aOb(b:dh):(rowB b.length fun i=>su b (0+i))=b:=by simp only[ik];exact eF b
theorem bIj(a b:Int):decide (D8 a b<0)=decide (a<b):=by
 unfold D8;by_cases h:a<b;rw[au h,rq h];rfl
 ·rw[ay h,Bg h]
  split<;>rfl
theorem aYl(rec:Int)(hr:ja rec):bJw prog af 135 (aj.cur rec) [.w (.one .dv),iy rec] (fun p=>.og [.agg [.lit (.int .i64 p.1.1),.lit (.string (strOf p.1.2))],.one (.lit (.int .i64 (p.2:Int)))]):=by
 intro O l S;have M:=aKY;refine kR func135 rfl rfl rfl (fun A K N=>?_);generalize E:(fun h=>l <+: h/\h <+: (go O (aj.cur rec) l).2)=dn;refine mQ ?_;refine lM ?_;refine aS ?_;refine bM (IY O dn rec 0 (0,[]) (0,[]) l) ?_ ?_ ?_;exact jg;exact .cons (.dev rfl) ((fD _));refine fJ 2 (fun k s=>∃ x y D,s=IY O dn rec k x y D/\yR O (aj.cur rec) l (bDs rec k x y) D) 0 ⟨_,_,_,rfl,yR.start _ _ _⟩ a_ (fun k s L X=>?_);obtain⟨x,y,D,rfl,F⟩:=L;refine nZ ?_;refine dU (fun m=>?_) (fun m=>?_);have z:k<2:=by have:=of_decide_eq_true m;omega
 refine jM ?_;refine aS ?_;refine mQ ?_;refine lM ?_;refine aS ?_;refine bF (s':=aCT O dn rec k x y 0 [] D) (fun a w g=>((g.nilRow (x:=5000) (e:=5) (n:=1) (t:=8) ai ai).reset (kT:=[7,8,14,0,1,4,5,6,11]) (kO:=[900000,5000,0,1000]) ai b_).same ?_ ?_) ?_;exact jg;exact .cons (.dev rfl) (.cons (.arr rfl (fun i P=>absurd P b_)) ((fD _)));rw[bDr z] at F;generalize U:JR rec k x=f at F;refine fJ 8 (fun i s=>∃ b u,s=aCT O dn rec k x y i b u/\b.length<=i*1000000/\yR O (aj.cur rec) l ((aj.w_ (dG rec k) (8-i) b).bind f) u) 0 ⟨_,_,rfl,b_,F⟩ a_ (fun i s L P=>?_);obtain⟨b,u,rfl,Q,r⟩:=L;refine nZ ?_;refine dU (fun m=>?_) (fun m=>?_);have B:i<8:=by have:=of_decide_eq_true m;omega
 refine jM ?_;refine aS ?_;refine aN ?_;have d:IntKind.wrap .i64 (dG rec k+(i:Int))=dG rec k+(i:Int):=by have:=aIz rec k;exact dQ a_ a_
 rw[aYo B] at r;have T:=S.ans (u++[⟨3,0,dG rec k+(i:Int),aG⟩]);change ((go O (aj.rd (dG rec k+(i:Int))) u).1).size<=1000000 at T;have q:=r.step;refine aX M N K (ai) ah ?_ ?_;simp;rw[d];refine⟨S,fun h c W V=>?_,a_⟩;rw[<-E];exact r.dn h c W V;change jw _ _ _ _ _;refine fP ?_;intro a w g;refine⟨i+1,_,a_,a_,⟨_,_,rfl,?_,q⟩,(g.reset (kT:=[7,8,14,0,1,4,5,6,11]) (kO:=[900000,5000,0,1000]) ai ?_).same ?_ ?_⟩;rw[gp,uA];change b.length+((go O (aj.rd (dG rec k+(i:Int))) u).1).size<=_;omega;simp only[All,and_true,Lt,Ha];exact fun i _=>aGn (fun _=>rfl) (fun _=>rfl) i;refine .cr (.cons ?_ (.cons (by rw[fH i a_]) ((iP _))));rw[d,gp,uA];rfl;refine .cons (.dev ?_) (.cons (.arr ?_ (fun j Y=>?_)) ((fD _)));show (go O (aj.rd (IntKind.wrap .i64 (dG rec k+(i:Int)))) u).2=_;rw[d];rw[d,gp,uA];rfl;rw[d];exact congrFun (aMg b _) j;have B:i=8:=by have:=of_decide_eq_false m;omega
 subst B;have q:yR O (aj.cur rec) l (f b) u:=r;subst U;refine dY ?_;change jw _ _ _ _ _;rcases (by omega:k=0\/k=1) with rfl|rfl;refine aX M N K (ai) ah ?_ ?_;simp
 exact⟨fun i _ x H=>aXi b i x H,hr,a_⟩;change jw _ _ _ _ _;refine fP ?_;intro a w g;refine⟨1,_,a_,a_,⟨qw rec b,y,_,rfl,q⟩,(g.reset (kT:=[0,1,4,5,6,11]) (kO:=[900000,0,1000]) ai b_).same ?_ ?_⟩;exact jg;rw[aOb];exact .cons (.dev rfl) ((fD _));refine aX M N K (ai) ah ?_ ?_;simp;exact⟨fun i _ x H=>aXi b i x H,hr,a_⟩;change jw _ _ _ _ _;refine fP ?_;intro a w g;refine⟨2,_,a_,a_,⟨x,qw rec b,_,rfl,q⟩,(g.reset (kT:=[0,1,4,5,6,11]) (kO:=[900000,0,1000]) ai b_).same ?_ ?_⟩;exact jg;rw[aOb];exact .cons (.dev rfl) ((fD _))
 ·have z:k=2:=by have:=of_decide_eq_false m;omega
  subst z;have G:go O (aj.cur rec) l=(xu x y,D):=F.2;refine dY ?_;change jw _ _ _ _ _;refine aN ?_;refine bC (fun m=>?_) (fun m=>?_)
  ·refine aN ?_;have h:x.1=0\/x.1<y.1:=by have c:(bif x.1==0 then true else decide (D8 x.1 y.1<0))=true:=m;rw[bIj] at c;by_cases C:x.1=0;exact .inl C;rw[show (x.1==0)=false from beq_eq_false_iff_ne.2 C] at c;exact .inr (of_decide_eq_true c)
   have e:xu x y=(y,1):=by unfold xu;rw[au h]
   refine bI (fun a w g=>⟨.inr rfl,_,⟨?_,(fun o J=>by cases J),fun p I=>?_⟩,g⟩);rotate_left 1;cases I;rw[G];rfl;refine aO (ai) b_ ai ai ?_;rw[G,e];rfl
  ·refine iK ?_
   have h:¬(x.1=0\/x.1<y.1):=by
    have c:(bif x.1==0 then true else decide (D8 x.1 y.1<0))=false:=m;rw[bIj] at c;rintro (C|C);rw[show (x.1==0)=true from beq_iff_eq.2 C] at c;cases c
    ·rw[rq C] at c
     cases Q:(x.1==0)<;>rw[Q] at c<;>cases c
   have e:xu x y=(x,0):=by unfold xu;rw[ay h]
   refine bI (fun a w g=>⟨.inr rfl,_,⟨?_,(fun o J=>by cases J),fun p I=>?_⟩,g⟩);rotate_left 1;cases I;rw[G];rfl;refine aO (ai) b_ ai ai ?_;rw[G,e];rfl
def aEW(p:(Int×dh)×Nat):PV:=.og [.agg [.lit (.int .i64 p.1.1),.lit (.string (strOf p.1.2))],.one (.lit (.int .i64 (p.2:Int)))]
def bIe:jl->Option (Prop×aj ((Int×dh)×Nat)×((Int×dh)×Nat->PV))
 |[.w (.one (.lit (.int .i64 rec)))]=>some (ja rec,aj.cur rec,aEW)|_=>none
theorem aRx:d_ prog af 135 (lY bIe):=
 pF (aB func135 ah rfl) (fun b c p v h a=>by
  unfold bIe at h;split at h;cases h;exact aYl _ a
  cases h)
def aBV:List (Nat×Spec):=(135,lY bIe)::Q4
theorem VI:∀ p∈aBV,d_ prog af p.1 p.2:=by intro p a;rcases List.mem_cons.1 a with rfl|a;exact aRx;exact Ia p a
theorem aBW:jq prog af (find aBV):=⟨bG VI,dV⟩
def aYk(o:EU):dw:=[.lit (.string o.content),.lit (.int .i64 o.seq),.lit (.int .i64 o.err)]
def Ey(o:EU):PV:=.w (.agg (aYk o))
theorem LV(rec:Int)(hr:ja rec):bJw prog af 98 (aj.load rec) [.w (.one .dv),iy rec] Ey:=by
 intro O l t;have M:=aBW;refine kR func98 rfl rfl rfl (fun A z B=>?_);have b:aj.load rec=if dG rec 0<0 then .ret ⟨aG,0,1⟩ else (aj.cur rec).bind fun p=>.ret (wY p.1):=rfl
 generalize aj.load rec=k at *;generalize f:(fun h=>l <+: h/\h <+: (go O k l).2)=dn;refine aN ?_;refine bC (fun c=>?_) (fun c=>?_)
 ·have h:dG rec 0<0:=of_decide_eq_true c;rw[au h] at b;have d:go O k l=(⟨aG,0,1⟩,l):=by rw[b];rfl
  refine aN ?_;refine bI (fun a w i=>⟨.inr rfl,_,⟨?_,(fun o g=>by cases g),fun p b=>?_⟩,i⟩);rotate_left 1;cases b;rw[d];rfl;refine aO (ai) b_ ai ai ?_;rw[d];rfl
 ·have h:¬dG rec 0<0:=of_decide_eq_false c;rw[ay h] at b;refine jD ?_;have j:yR O k l ((aj.cur rec).bind fun p=>.ret (wY p.1)) l:=by rw[b];exact yR.start _ _ _
  have s:=j.step;refine aH ?_ ?_;simp;refine⟨⟨t,hr⟩,fun h y x u=>?_⟩;rw[<-f];exact j.dn h y x u;obtain⟨q,m,n⟩:∃ q m,go O (aj.cur rec) l=(q,m):=⟨_,_,rfl⟩;rw[n] at s;have d:go O k l=(wY q.1,m):=s.2;refine bM (⟨[(4,none,dm (.pt 0 0 0)),(5,none,dm (.pt 3006 0 0))],[(dx,none,0,.dev O dn m),(0,none,0,.box 164 [.lit (.string aG),.lit (.int .i64 0),.lit (.int .i64 0)]),(3006,none,0,.box 205 [.lit (.int .i64 q.1.1),.lit (.string (strOf q.1.2))])]⟩) ?_ ?_ ?_;exact jg;refine .cons (.dev ?_) (.cb (.cons (.box ?_) .nil));show (go O (aj.cur rec) l).2=_;rw[n]
  show[PC.lit (.int .i64 (go O (aj.cur rec) l).1.1.1),PC.lit (.string (strOf (go O (aj.cur rec) l).1.1.2))]=_
  rw[n];refine bC (fun c=>?_) (fun c=>?_)
  ·refine aN ?_;have r:q.1.1=0:=by simpa using c
   have e:wY q.1=⟨aG,0,13⟩:=au r;refine bI (fun a w i=>⟨.inr rfl,_,⟨?_,(fun o g=>by cases g),fun p b=>?_⟩,i⟩);rotate_left 1;cases b;rw[d];rfl;refine aO (ai) b_ ai ai ?_;rw[d,e];rfl
  ·refine iK ?_;have r:¬q.1.1=0:=by simpa using c
   have e:wY q.1=⟨strOf q.1.2,q.1.1,0⟩:=ay r;refine bI (fun a w i=>⟨.inr rfl,_,⟨?_,(fun o g=>by cases g),fun p b=>?_⟩,i⟩);rotate_left 1;cases b;rw[d];rfl;refine aO (ai) b_ ai ai ?_;rw[d,e];rfl
end Pv
section
section
variable {P:dE} {f0:ZK} {Q:nz->Act->je} {a:Act} {w:ae}
def EC(P:dE)(f0:ZK)(c:yf)(Q:nz->Act->je)(a:Act)(w:ae):Prop:=∀ (b:Frame) (k:List Item) (f:List Frame),b.roundOf=none->b.fn=f0->∃ e g d,Q e g d/\ArrivesIn (Machine.fenced P Fence.wide) P (lone (b.atR a (.code c::k)) f w) b k f e g d
theorem aDt{c:yf}(h:c.wp P Q a w):EC P f0 c Q a w:=fun b k e d _=>(wpIn_wide (n:=3)).2 h b k e d trivial (room_wide _)
theorem Hr{c:yf}{f:nz->Act->je}(h:EC P f0 c Q a w)(i:∀ e a w,Q e a w->f e a w):EC P f0 c f a w:=fun b k l d j=>
 let ⟨e,m,g,q,r⟩:=h b k l d j
 ⟨e,m,g,i _ _ _ q,r⟩
theorem aRm{x y:yf}(h:EC P f0 x (Exit.then (EC P f0 y Q) Q) a w):EC P f0 (.seq x y) Q a w:=by
 intro b k o j q;have r:=ZX P (lone (b.atR a (.code (.seq x y)::k)) o w);obtain⟨e,n,i,p,d⟩:=h b (.code y::k) o j q;cases e with
 |normal=>obtain⟨l,m,g,f,c⟩:=p b k o j q;exact⟨l,m,g,f,.of_steps (.head r stepR_seq d) c⟩
 |_=>exact⟨_,n,i,p,.of_steps (.one r stepR_seq) (.pass (x:=.code y) rfl (fun _ _=>.inl b_) d)⟩
theorem bBs{i:Nat}{c:yf}(h:EC P f0 c (fun e a w=>match e with|.normal=>Q .normal a w|.panic o=>Q (.panic o) a w|_=>False) a w):EC P f0 (.block i c) Q a w:=by
 intro b k n j p;have m:=ZX P (lone (b.atR a (.code (.block i c)::k)) n w);obtain⟨e,g,d,l,f⟩:=h b (.inBlock i::k) n j p;cases e with
 |normal=>exact⟨.normal,g,d,l,.head m stepR_block (StepsIn.trans f (.one (ZX _ _) stepR_inBlock))⟩|panic o=>exact⟨_,g,d,l,.of_steps (.one m stepR_block) f⟩|_=>exact l.elim
def aYs(P:dE)(l:Nat)(R:Ending->je):nz->Act->ae->Prop
 |.normal,_,w=>∃ v b,(Instr.endRound l none).run P w=.ok v b/\R (.returned v) b|.panic chain,a,w=>a.defers=[]/\R (.panicked chain) w|_,_,_=>False
theorem aKm{n l:Nat}{f:ZK}{j:kw}{assign body:yf}{R:Ending->je}(H:∃ J,P.funcs[f]?=some J)
  (h:assign.wpIn (Fence.wide.inRound l) n P (Exit.then (fun k m=>∃ i,(Instr.beginRound l).run P m=.ok () i/\body.wpIn (Fence.wide.inRound l) n P (aYs P l R) k i) (fun _ _ _=>False)) { tmps:=j,defers:=[] } w) :
  RoundIn Fence.wide n P l f j assign body w R:=by
 refine⟨trivial,fun c x G=>?_⟩;let b:Frame:={ (default:Frame) with fn:=f,kind:=.normal,roundOf:=some l };have z:Frame.round l f j assign body .normal=b.atR { tmps:=j,defers:=[] } [.code assign,.beginRound,.code body]:=by simp[Frame.round,Frame.atR,b]
 have s:(Fence.wide.inRound l).room ((c::x).length+1+n):=G;obtain⟨e,k,m,D,o⟩:=h b [.beginRound,.code body] (c::x) rfl trivial s;rw[<-z] at o;cases e with
 | normal=>
  obtain⟨i,y,p⟩:=D;have C:StepsIn (Machine.fenced P Fence.wide) P (lone (b.atR k [.beginRound,.code body]) (c::x) m) (lone (b.atR k [.code body]) (c::x) i):=.one (ZX _ _) (stepR_beginRound rfl y);obtain⟨u,E,r,g,d⟩:=p b [] (c::x) rfl trivial s;cases u with
  |normal=>obtain⟨v,q,t,A⟩:=g;exact⟨.returned v,q,A,(StepsIn.trans o C).trans (StepsIn.trans d (.one (ZX _ _) (stepR_round_end rfl rfl t)))⟩
  |panic chain=>obtain⟨I,A⟩:=g;obtain⟨B,F⟩:=d;refine⟨.panicked chain,r,A,(StepsIn.trans o C).trans (StepsIn.trans F (.one (ZX _ _) (step_leave_panicked ⟨rfl,?_,?_⟩)))⟩;exact I;exact H
  |_=>exact g.elim
 |_=>exact D.elim
def aZc(P:dE)(l:Nat)(Q:nz->Act->je)(d:Act):Ending->ae->Prop
 |.returned _,b=>∃ c,(Instr.endLoop l).run P b=.ok none c/\Q .normal d c|.panicked chain,b=>Q (.panic chain) d b|.outgrown,_=>False
theorem aJx{n:Nat}{g:Operand}{B:Array Tmp}{assign body:yf}
  (
   h:∃ (l:Nat) (c:List Deferred) (q:ae) (d:Deferred) (i:ae) (f:ZK) (args:kw) (p:ae),
   (Instr.enterLoop f0 a.tmps B assign body none).run P w=.ok (l,c) q/\(resolve a.eval (rangeCall g l) 0).run P q=.ok d i /\
   (invoke d.target d.args).run P i=.ok (.enter f args) p/\CallsIn Fence.wide n P f args p (aZc P l Q { a with defers:=c++a.defers })) :
  EC P f0 (.rangeFunc g B assign body) Q a w:=by
 intro b k D z G;obtain⟨l,c,q,d,i,f,args,p,C,u,x,H,r⟩:=h;rw[<-z,<-G] at C;have o:=stepR_rangeFunc (P:=P) (b:=b) (a:=a) (k:=k) (cs:=D) (w:=w) C u x;obtain⟨e,t,I,A,j,F,m⟩:=r (b.atR { a with defers:=c++a.defers } (.inRangeFunc l::k)::D) (room_wide _);cases e with
 |outgrown=>exact A.elim|returned v=>obtain⟨s,y,E⟩:=A;refine⟨.normal,_,s,E,.head (ZX _ _) o (StepsIn.trans j (.head (ZX _ _) ?_ (.one (ZX _ _) (stepR_endRangeFunc (b:=b) (a:={ a with defers:=c++a.defers }) (k:=k) y))))⟩;rw[<-finish_atR_inRangeFunc l v];exact step_leave_returned m
 |panicked chain=>refine⟨.panic chain,_,t,A,.inRangeFunc l::k,.head (ZX _ _) o (StepsIn.trans j (.one (ZX _ _) ?_))⟩;rw[<-Frame.raise_atR];exact step_leave_panicked m
theorem aQu{f:ZK}{fn:Func}{c:yf}{args:kw}{R:Ending->je}(x:P.funcs[f]?=some fn)(hb:fn.body=some c)
  (h:EC P f c (bodyPostM Fence.wide 3 P fn R) { tmps:=args++IR (fn.ntmps-args.size) bz,defers:=[] } w):CallsIn Fence.wide 3 P f args w R:=by
 refine⟨trivial,fun y z=>?_⟩;let b:Frame:={ (default:Frame) with fn:=f,kind:=.normal,roundOf:=none };have n:Frame.enter P f args .normal=b.atR { tmps:=args++IR (fn.ntmps-args.size) bz,defers:=[] } [.code c]:=by simp[Frame.enter,Frame.atR,x,hb,b]
 obtain⟨e,p,u,o,d⟩:=h b [] y rfl rfl;rw[<-n] at d;cases e with
 |normal=>obtain⟨t,i,m,s,q,k,r⟩:=leaves_stepsInM p.defers .returning u { b.atR p [] with mode:=.returning } y rfl rfl rfl x rfl trivial z o;exact⟨t,i,m,s,ComesIn.of_steps (StepsIn.trans d (.one (ZX _ _) (stepR_end rfl))) q,k,r⟩
 |ret=>obtain⟨j,g⟩:=d.1 rfl;obtain⟨t,i,m,s,q,k,r⟩:=leaves_stepsInM p.defers .returning u { b.atR p j with mode:=.returning } y rfl rfl rfl x rfl trivial z o;exact⟨t,i,m,s,ComesIn.of_steps g q,k,r⟩
 |panic chain=>obtain⟨j,g⟩:=d;obtain⟨t,i,m,s,q,k,r⟩:=leaves_stepsInM p.defers (.panicking chain) u { b.atR p j with mode:=.panicking chain } y rfl rfl rfl x rfl trivial z o;exact⟨t,i,m,s,ComesIn.of_steps g q,k,r⟩
 |exit id=>exact o.elim|goto l=>exact o.elim|outgrown=>exact⟨.outgrown,u,b,o,d.resolve_left (by simp[b]),rfl,trivial⟩
def KpS(S:qo)(n0:Nat)(W c:ae):Prop:=∀ b,b<n0->¬S b->c.heap[b]?=W.heap[b]?
def Oq(P:dE)(gf:ZK)(lb:kw)(encs:Nat->kw)(S:qo)(N:Nat)(w:ae):Prop:=
 ∀ (l:Nat) (J:Nat->je) (f:List Yr->je) (W:ae),Below w.heap.size w W->(∀ k A B,J k A->Ext A B->J k B) ->
  (∀ k d,J k d->k<N->YieldAt Fence.wide 1 P l (encs k) d fun e b=>(e=.returned (.bool true)/\J (k+1) b/\KpS S w.heap.size d b)\/∃ c,e=.panicked c/\f c b) ->
  J 0 W->CallsIn Fence.wide 2 P gf (#[.func (.yield l) #[] #[]]++lb) W fun e b=>((∃ v,e=.returned v)/\J N b)\/∃ c,e=.panicked c/\f c b
def Ox(n0:Nat)(W c:ae):Prop:=∀ b o,n0<=b->W.heap[b]?=some o->o.isCells=false->c.heap[b]?=some o
theorem aFt{W:ae}{l:Nat}{o d:Obj}(h:W.heap[l]?=some o)(f:o.isCells=false):PH W (W.putObj l d):=fun k q b c=>by by_cases e:k=l;subst e;rw[h] at b;cases b;rw[f] at c;cases c;exact (ZT e).trans b
def Two(n0 b:Nat):Prop:=b=n0\/b=n0+1
theorem aUl{n0:Nat}(W:ae){l:Nat}(hl:Two n0 l)(o:Obj):gu (Two n0) W (W.putObj l o):=⟨rfl,rfl,rfl,b_,fun b _ c=>ZT (fun e=>c (e ▸ hl))⟩
theorem aYe{g:Operand}{Y:Array Tmp}{assign body:yf}{gf:ZK}{lb:kw}{encs:Nat->kw}{S:qo}{N:Nat}
  (hf:∃ fn,P.funcs[f0]?=some fn) (hg:a.eval g=.func (.func gf) #[] lb) (eg:∀ args w,(callFunc gf args).run P w=.ok (.enter gf args) w) (G:Oq P gf lb encs S N w) (a0:∀ k,(encs k).size=Y.size)
  (J:Nat->je) (X:∀ k W f,J k W->gu (Two w.heap.size) W f->PH W f->J k f) (h0:∀ W,Ext w W->w.heap.size+2<=W.heap.size->J 0 W) (Pn:List Yr->je) (Ax:Nat->Act->Prop)
  (i:∀ (l k:Nat) (W:ae) (K:Act->je),(∀ E f,Ext W f->Ax k E->K E f)->assign.wpIn (Fence.wide.inRound l) 1 P (Exit.then K (fun _ _ _=>False)) { tmps:=(Y.zip (encs k)).foldl (fun t (p,v)=>t.setIfInBounds p v) a.tmps,defers:=[] } W)
  (
   hbody:∀ (l k:Nat) (E:Act) (W:ae),J k W->Ax k E->k<N->body.wpIn (Fence.wide.inRound l) 1 P (fun e a2 f=>match e with
   |.normal=>J (k+1) f/\KpS S w.heap.size W f/\Ox w.heap.size W f|.panic m=>a2.defers=[]/\Pn m f/\Ox w.heap.size W f|_=>False) E W)
  (hdone:∀ (D:Nat) (W:ae),J N W->W.heap[D]?=some (.deferred (some []))->D=w.heap.size->Q .normal { a with defers:={ target:=.collected D,args:=#[] }::a.defers } W)
  (H:∀ (D:Nat) (m:List Yr) (W:ae),Pn m W->W.heap[D]?=some (.deferred (some []))->D=w.heap.size->Q (.panic m) { a with defers:={ target:=.collected D,args:=#[] }::a.defers } W) :
  EC P f0 (.rangeFunc g Y assign body) Q a w:=by
 obtain⟨c,d⟩:∃ c:LoopState->Loop,c=fun st=>{ state:=st,pending:=none,fn:=f0,tmps:=a.tmps,params:=Y,assign,body,defers:=w.heap.size }:=⟨_,rfl⟩;obtain⟨s,r⟩:=lm ((w.alloc (.deferred (some []))).alloc (.loop (c .ready)));have V:s.heap[w.heap.size+1]?=some (.loop (c .ready)):=by rw[<-r];have:=World.alloc_heap_new (w.alloc (.deferred (some []))) (.loop (c .ready));rwa [World.size_alloc] at this
 have b0:s.heap[w.heap.size]?=some (.deferred (some [])):=by rw[<-r];exact (Below.heap_alloc _ _ _ b_).trans (World.alloc_heap_new w _)
 have C:Ext w s:=by rw[<-r];exact ((Ext.refl w).alloc _).alloc _
 have T:∀ {A B:ae},Ext A B->PH A B:=fun h k o z _=>h.blk z
 refine aJx (n:=2) ⟨w.heap.size+1,[{ target:=.collected w.heap.size,args:=#[] }],s,{ target:=.fn (.func gf) lb,args:=#[.func (.yield (w.heap.size+1)) #[] #[]] },s,gf,
  #[.func (.yield (w.heap.size+1)) #[] #[]]++lb,s,?_,?_,?_,?_⟩
 rw[<-r,d];exact run_enterLoop_outer _ _ _ _ _
 ·simp only[resolve,hg];simp[go_sem]
 ·simp[invoke,go_sem,eg]
 refine (G (w.heap.size+1) (fun k W=>J k W/\W.heap[w.heap.size+1]?=some (.loop (c .ready))/\W.heap[w.heap.size]?=some (.deferred (some [])))
  (fun m W=>Pn m W/\W.heap[w.heap.size]?=some (.deferred (some []))) s C.below (fun k A B h j=>⟨X k A B h.1 j.iq (T j),j.blk h.2.1,j.blk h.2.2⟩) ?_ ⟨h0 s C (by have:=lt_of_heap V;omega),V,b0⟩).mono ?_
 rintro k W ⟨hi,F,z⟩ L;have hy:=run_yield (P:=P) (args:=encs k) F (by rw[d];exact a0 k);rw[d] at hy;refine⟨f0,_,assign,body,hy,aKm hf (i _ k W _ ?_)⟩;clear hy;intro E Z j a9;have x:=j.blk F;have a4:=j.blk z;have I:=lt_of_heap x;have a5:=X k W Z hi j.iq (T j);refine⟨_,run_beginRound x (by rw[d]),?_⟩;have a1:(Z.putObj (w.heap.size+1) (.loop { c .ready with state:=.busy })).heap[w.heap.size+1]?=some (.loop { c .ready with state:=.busy }):=World.putObj_heap_same I;have U:(Z.putObj (w.heap.size+1) (.loop { c .ready with state:=.busy })).heap[w.heap.size]?=some (.deferred (some [])):=(ZT a_).trans a4;have a7:=X k _ _ a5 (aUl Z (n0:=w.heap.size) (l:=w.heap.size+1) (.inr rfl) (.loop { c .ready with state:=.busy })) (aFt x rfl);refine wpIn_mono (hbody _ k E _ a7 a9 L) ?_;rintro e a3 W3 hp;cases e with
 |normal=>obtain⟨a6,O,q⟩:=hp;have y:=q _ _ a_ a1 rfl;have a8:=q _ _ (dC _) U rfl;have hr:=run_endRound (P:=P) none y;refine⟨_,_,hr,.inl ⟨rfl,⟨X _ _ _ a6 (aUl W3 (.inr rfl) _) (aFt y rfl),?_,(ZT a_).trans a8⟩,?_⟩⟩;rw[World.putObj_heap_same (lt_of_heap y),d];rfl;intro b hb hn;rw[ZT a_,O b hb hn,ZT a_];exact j.block b (by have:=C.size';have:=lt_of_heap F;omega) (fun h=>h)
 |panic m=>obtain⟨hd,u,q⟩:=hp;exact⟨hd,.inr ⟨m,rfl,u,q _ _ (dC _) U rfl⟩⟩
 |_=>exact hp.elim
 rintro e W2 (⟨⟨v,rfl⟩,hi,F,z⟩|⟨m,rfl,u,z⟩);have he:=run_endLoop (P:=P) F (by rw[d];simp);refine⟨_,?_,hdone w.heap.size (W2.putObj (w.heap.size+1) (.loop { c .ready with state:=.exhausted })) (X _ _ _ hi (aUl W2 (.inr rfl) _) (aFt F rfl)) ((ZT a_).trans z) rfl⟩;rw[he,d];exact H w.heap.size m W2 u z rfl
end
end
section
theorem Qq{b:dh}{k:Nat}(h:k<nsec b):256*k<b.length:=by unfold nsec at h;omega
theorem Qr{b:dh}{k:Nat}(h:¬k<nsec b):b.length<=256*k:=by unfold nsec at h;omega
theorem aEu(n:Nat):Lib.repeatL [(0:UInt8)] n=PR n 0:=by
 induction n with
 |zero=>rfl|succ n a=>rw[Lib.repeatL,a];rfl
theorem J3(b:dh)(k n:Nat)(hn:n=256-((b.drop (256*k)).take 256).length):(strOf ((b.drop (256*k)).take 256))++(⟨(Lib.repeatL (ByteArray.mk #[0]).data.toList n).toArray⟩:l9)=strOf (l7 b k):=by subst hn;unfold l7;rw[show (ByteArray.mk #[0]).data.toList=[0] from rfl,aEu];apply ByteArray.ext;rw[ByteArray.data_append];simp[strOf]
theorem aDf{S:qo}{n0 g o:Nat}{W a:ae}{v:ag}(h:KpS S n0 W a)(b:g<n0)(hS:¬S g)(hc:W.cell? ⟨g,o,none⟩=some v):a.cell? ⟨g,o,none⟩=some v:=by have:=h g b hS;unfold World.cell? at hc ⊢;dsimp only at hc ⊢;rw[this];exact hc
attribute [local go_sem] Oper.semAt_some
theorem aSa(b:dh)(hb:b.length<=3000)(b0:0<b.length)(B G c:Nat)(S:qo)(w:ae)(F:¬S B)(E:¬S G)
  (h1:w.cell? ⟨B,0,none⟩=some (.slice (some ⟨G,0,none⟩) b.length c)) (a9:b.length<=c) (a8:c<=maxLen) (hB:B<w.heap.size) (hG:G<w.heap.size) (h2:w.rangeAt G 0 (b.map jk)) :
  Oq prog 175 #[.pointer (some ⟨B,0,none⟩)] (fun k=>#[.int .i64 (k:Int),.string (strOf (l7 b k))]) S (nsec b) w:=by
 intro l J Pn W V hJ hY h0;have y:=Ext.of_below V;have Z:=Ext.lw y h1;have HG:=hide (show W.rangeAt G 0 (b.map jk) from fun j v g=>Ext.lw y (h2 j v g));have d:=hide (az F (az E (az hB hG)));clear h1 h2 y V F E;refine callsIn_wide.2 ?_
 go_enter func175,ntmps175
 go_wp2
 go_loopw [3] (fun i wr=>∃ k:Nat,k<=nsec b/\i=.int .i64 k/\Hid (J k wr/\wr.cell? ⟨B,0,none⟩=some (.slice (some ⟨G,0,none⟩) b.length c)/\wr.rangeAt G 0 (b.map jk))) (fun i _=>nsec b-(intOf i).toNat)
 case atStart=>exact⟨0,xn _,rfl,hide ⟨h0,Z,aA HG⟩⟩
 case round=>
  obtain⟨k,hk,rfl,s⟩:=hrel;have a6:k<=12:=by have:nsec b<=12:=by { unfold nsec;omega };omega
  have a3:wrap64 ((k:Int)*256)=(k:Int)*256:=by unfold wrap64;omega
  have a2:wrap64 ((k:Int)+1)=(k:Int)+1:=by unfold wrap64;omega
  have a1:wrap64 (((k:Int)+1)*256)=((k:Int)+1)*256:=by unfold wrap64;omega
  have k2:=(aA s).2.1;by_cases x:k<nsec b
  ·have hI:(k:Int)*256<(b.length:Int):=by have:=Qq x;omega
   have Q:((b.drop (256*k)).take 256).length=(min (((k:Int)+1)*256) (b.length:Int)).toNat-k*256:=by rw[xe,YO];omega
   have HR:Hid (Reads wr 1 (.slice (some ⟨G,k*256,none⟩) ((min (((k:Int)+1)*256) (b.length:Int)).toNat-k*256) (c-k*256)) ((min (((k:Int)+1)*256) (b.length:Int)).toNat-k*256) (((b.drop (256*k)).take 256).map jk)):=by
    refine hide ⟨by rw[List.length_map,Q,Yy],some ⟨G,k*256,none⟩,_,rfl,a_,a_,fun _=>⟨G,k*256,rfl,fun j v g=>?_⟩⟩
    have X:=(aA s).2.2 (k*256+j) v (by
     rw[XN] at g ⊢;rw[List.getElem?_take] at g;split at g;rw[List.getElem?_drop] at g;rw[Nat.mul_comm k 256];exact g
     cases g)
    rw[ik] at X;exact X
   generalize H:(b.drop (256*k)).take 256=D at *
   go_upto_region 4 with fail
   generalize a7:c-k*256=cc at *;generalize a4:(min (((k:Int)+1)*256) (b.length:Int)).toNat-k*256=m at *;have a5:m<=256:=a_;have a0:IntKind.wrap .i64 (256-(m:Int))=((256-m:Nat):Int):=(Pv.dQ a_ a_).trans a_;have L:Hid (strOf D++(⟨(Lib.repeatL [0] (256-m)).toArray⟩:l9)=strOf (l7 b k)):=hide (by have:=J3 b k (256-m) (by rw[H,Q]);rw[H] at this;exact this);have b1:¬(9223372036854775807<(strOf D).size+(Lib.repeatL [(0:UInt8)] (256-m)).length):=by rw[aEu,List.length_replicate,aW,Q];omega
   have r:=hide (fun w=>aEt (ByteArray.mk #[0]) (256-m) w a_ (by change 1*(256-m)<=_;omega));have Y:=hide (fun W (y:Ext wr W)=>hY k W (hJ _ _ W (aA s).1 y) x);have I:∀ N,Ext wr N->(convert 74 9 (.slice (some ⟨G,k*256,none⟩) m cc)).run prog N=.ok (.string (strOf D)) N:=fun N y=>aBa underlying74 underlying5 underlying9 ((aA HR).ext y);refine (wpIn_wide (n:=2)).1 ?_;refine wpIn_region_any ah ?_;change wpAnyIn _ _ _ _ _ _ _ _ _ (World.drew _)
   (refine aAA (i:=0) (v:=?_) rfl rfl ah ah ah (fun _ _ _ h=>h) ⟨Or.inl ⟨ai,?_⟩,fun _=>rfl⟩ ?_;rotate_left;focus ((intro w;go_simp);try with_reducible rfl))
   (refine aAA (i:=1) (v:=?_) rfl rfl ah ah ah (fun _ _ _ h=>h) ⟨Or.inl ⟨ai,?_⟩,fun _=>rfl⟩ ?_;rotate_left;focus ((intro w;go_simp);try with_reducible rfl))
   (refine aAA (i:=2) (v:=?_) rfl rfl ah ah ah (fun _ _ _ h=>h) ⟨Or.inl ⟨ai,?_⟩,fun _=>rfl⟩ ?_;rotate_left;focus ((intro w;go_simp);try with_reducible rfl))
   (refine aAA (i:=4) (v:=?_) rfl rfl ah ah ah (fun _ _ _ h=>h) ⟨Or.inl ⟨ai,?_⟩,fun _=>rfl⟩ ?_;rotate_left;focus ((intro w;go_simp);try with_reducible rfl))
   (refine aAA (i:=5) (v:=?_) rfl rfl ah ah ah (fun _ _ _ h=>h) ⟨Or.inl ⟨ai,?_⟩,fun _=>rfl⟩ ?_;rotate_left;focus ((intro w;go_simp);try with_reducible rfl))
   (refine aAA (i:=6) (v:=?_) rfl rfl ah ah ah (fun _ _ _ h=>h) ⟨Or.inl ⟨ai,?_⟩,fun _=>rfl⟩ ?_;rotate_left;focus ((intro w;go_simp);try with_reducible rfl))
   refine wpAnyIn_ready (rs:=[3,7]) ah b_ (AllReadyIn.cons rfl (fun K a=>?_) (AllReadyIn.cons rfl (fun K a=>?_) AllReadyIn.nil))
   ·go_simp;rw[I _ ((Ext.refl _).drew)]
    go_simp;refine a _ _ ?_;clear a K;refine wpAnyIn_ready (rs:=[7]) ah b_ (AllReadyIn.cons rfl (fun K a=>?_) AllReadyIn.nil)
    go_simp;refine⟨trivial,(callsIn_wide.2 (aA r _)).mono ?_⟩
    rintro e O ⟨rfl,p⟩;have t:=hide (((Ext.refl wr).drew).trans (Ext.of_below p));clear p;refine a _ _ ?_;clear a K;refine aAA (i:=8) (v:=.string (strOf D++(⟨(Lib.repeatL [0] (256-m)).toArray⟩:l9))) rfl rfl ah ah ah (fun _ _ _ h=>h) ⟨Or.inl ⟨ai,fun w=>?_⟩,fun _=>rfl⟩ ?_
    ·go_simp
    rw[aA L];refine wpAnyIn_ready (rs:=[9]) ah b_ (AllReadyIn.cons rfl (fun K a=>?_) AllReadyIn.nil);obtain⟨fn,C,q,body,P,T⟩:=aA Y O (aA t);go_simp;clear P;refine T.mono ?_;rintro e z (⟨rfl,o,f⟩|⟨U,rfl,u⟩)
    ·have A:=hide (show J (k+1) z/\z.cell? ⟨B,0,none⟩=some (.slice (some ⟨G,0,none⟩) b.length c)/\z.rangeAt G 0 (b.map jk) from
      ⟨o,aDf f (aA d).2.2.1 (aA d).1 (Ext.lw (aA t) (aA s).2.1),fun j v g=>aDf f (aA d).2.2.2 (aA d).2.1 (Ext.lw (aA t) ((aA s).2.2 j v g))⟩)
     clear o f;refine a _ _ ?_;clear a K
     (refine aAA (i:=10) (v:=?_) rfl rfl ah ah ah (fun _ _ _ h=>h) ⟨Or.inl ⟨ai,?_⟩,fun _=>rfl⟩ ?_;rotate_left;focus ((intro w;go_simp);try with_reducible rfl))
     refine wpAnyIn_done ah ?_ _
     go_wp2
     go_roundw
     case rel=>exact⟨k+1,a_,by go_num,A⟩
     case measure=>simp[intOf];omega
    exact⟨rfl,.inr ⟨U,rfl,u⟩⟩
   ·go_simp;refine⟨trivial,(callsIn_wide.2 (aA r _)).mono ?_⟩
    rintro e O ⟨rfl,p⟩;have t:=hide (((Ext.refl wr).drew).trans (Ext.of_below p));clear p;refine a _ _ ?_;clear a K;refine wpAnyIn_ready (rs:=[3]) ah b_ (AllReadyIn.cons rfl (fun K a=>?_) AllReadyIn.nil);go_simp;rw[I _ (aA t)];go_simp;refine a _ _ ?_;clear a K;refine aAA (i:=8) (v:=.string (strOf D++(⟨(Lib.repeatL [0] (256-m)).toArray⟩:l9))) rfl rfl ah ah ah (fun _ _ _ h=>h) ⟨Or.inl ⟨ai,fun w=>?_⟩,fun _=>rfl⟩ ?_
    ·go_simp
    rw[aA L];refine wpAnyIn_ready (rs:=[9]) ah b_ (AllReadyIn.cons rfl (fun K a=>?_) AllReadyIn.nil);obtain⟨fn,C,q,body,P,T⟩:=aA Y O (aA t);go_simp;clear P;refine T.mono ?_;rintro e z (⟨rfl,o,f⟩|⟨U,rfl,u⟩)
    ·have A:=hide (show J (k+1) z/\z.cell? ⟨B,0,none⟩=some (.slice (some ⟨G,0,none⟩) b.length c)/\z.rangeAt G 0 (b.map jk) from
      ⟨o,aDf f (aA d).2.2.1 (aA d).1 (Ext.lw (aA t) (aA s).2.1),fun j v g=>aDf f (aA d).2.2.2 (aA d).2.1 (Ext.lw (aA t) ((aA s).2.2 j v g))⟩)
     clear o f;refine a _ _ ?_;clear a K
     (refine aAA (i:=10) (v:=?_) rfl rfl ah ah ah (fun _ _ _ h=>h) ⟨Or.inl ⟨ai,?_⟩,fun _=>rfl⟩ ?_;rotate_left;focus ((intro w;go_simp);try with_reducible rfl))
     refine wpAnyIn_done ah ?_ _
     go_wp2
     go_roundw
     case rel=>exact⟨k+1,a_,by go_num,A⟩
     case measure=>simp[intOf];omega
    exact⟨rfl,.inr ⟨U,rfl,u⟩⟩
  ·have hI:¬(k:Int)*256<(b.length:Int):=by have:=Qr x;omega
   obtain rfl:k=nsec b:=a_
   go_wp2
   go_end0
   exact .inl ⟨⟨_,rfl⟩,(aA s).1⟩
end
namespace Pv
def aHE(P:dE)(I:je)(f:Nat)(os:List Ob)(args:jl)(i:Sum PV (List Yr)):Prop:=
 ∀ (w:ae) (a:qo) (j:ji) (c:Nat->Nat),
  (∀ d,gu (SX os c Dv.non) w d->I d)->(∀ b,SX os c Dv.non b->b<w.heap.size/\¬a b) ->
  (∀ o∈os,∃ h,f_ w (c o.x) o.t h/\RL { w,ok:=a,env:=fun _=>none } o.l h.toList)->(∀ o∈os,∀ k∈os,c o.x=c k.x->o.x=k.x) ->
  o5 { w,ok:=a,env:=z_ os c none Dv.non.hd } args j ->
  mf P f j.toArray w fun e d=>gu (SX os c Dv.non) w d/\(∀ o∈os,∃ h,f_ d (c o.x) o.t h/\RL { w:=d,ok:=pI w a false,env:=fun _=>none } o.l' h.toList) /\
   match i with
   |.inl r=>∃ g,e=.returned g/\RV { w:=d,ok:=pI w a false,env:=fun _=>none } r g|.inr chain=>e=.panicked chain
def YL(os:List Ob)(s:St):Prop:=∀ o∈os,∃ l,find s.o o.x=some (none,0,.box o.t l)/\Gy s false l o.l'
def RQB(P:dE)(A:lh)(fn:Func)(os:List Ob)(b:Sum PV (List Yr)):nz->Act->ae->Prop
 |.panic chain,a,w=>a.defers=A.ds/\b=.inr chain/\∃ s,YL os s/\oq A s a w|e,a,w=>(e=.normal\/e=.ret)/\∃ r,b=.inl r/\∃ s,(Tj P fn false r s/\YL os s)/\oq A s a w
theorem SE{P:dE}{I:je}{f:Nat}{fn:Func}{c:yf}{os:List Ob}{args:jl}{L:Sum PV (List Yr)}(hf:P.funcs[f]?=some fn)(hb:fn.body=some c)(a5:Nat.ble args.length fn.ntmps=true)
  (a2:(os.all fun o=>Nat.blt dx o.x)=true)
  (hT:∀ A:lh,A.nt=fn.ntmps->jo P I A->jw P A ⟨slots 0 args,os.map (fun o=>(o.x,none,0,.box o.t o.l))⟩ c (RQB P A fn os L)):aHE P I f os args L:=by
 intro w B vs z hM S a3 U hv;obtain⟨hA,hg⟩:=aAl (fn:=fn) (O:=fun _=>none) (dev:=none) (dn:=fun _=>False) (X0:=fun _=>True) (D:=Dv.non) a5 a2 hM S (oz.non P) (fun _ _ _ _ _ _ h=>h.elim) rfl (fun p hp=>by cases hp) (fun _=>⟨fun _ h=>h,fun _ _ _ h=>h⟩) (fun o y=>⟨trivial,a3 o y⟩) U hv;generalize k:(⟨w,SX os z Dv.non,B,fn.ntmps,uq os z none Dv.non.hd,Dv.non,fun _=>False,fun _=>True,[]⟩:lh)=A at hA hg
 have N:∀ (s:St) (K:Act) (u:ae) (d:Env),YL os s->gy A s K u d->DC A s d/\∀ o∈os,∃ cs,f_ u (z o.x) o.t cs/\RL { w:=u,ok:=pI w B false,env:=fun _=>none } o.l' cs.toList:=by
  intro s K u d j i;subst k
  have E:∀ o∈os,d o.x=some (0,iY (z o.x)):=fun o y=>by
   obtain⟨l,m,_⟩:=j o y;obtain⟨J,Y,_⟩:=i.jv o.x none 0 _ m;have h9:uq os z none Dv.non.hd o.x=some (iY (z o.x)):=by unfold uq;rw[aAd y]
   have:=(i.n_ o.x _ h9).2.now Y;rw[Y,this]
  have Z:DC (⟨w,SX os z Dv.non,B,fn.ntmps,uq os z none Dv.non.hd,Dv.non,fun _=>False,fun _=>True,[]⟩:lh) s d:=by intro x g a0 e n len f0 J b V a6 a7 hs;rcases hs with hs|⟨o,y,rfl⟩;exact hs.elim;obtain⟨l,m,_⟩:=j o y;have:=i.inj x o.x a0 J 0 _ (z o.x) a6 (E o y) a7 rfl;subst this;rw[m] at V;cases V
  refine⟨Z,fun o y=>?_⟩;obtain⟨l,m,hx⟩:=j o y;obtain⟨J,Y,h9⟩:=i.jv o.x none 0 _ m;obtain⟨g,cs,e1,a9,a8⟩:=h9 trivial;rw[E o y] at Y;cases Y;cases e1;exact⟨cs,a9,aPz i Z hx a8⟩
 have C:∀ {s:St} {K:Act} {u:ae} {d:Env},gy A s K u d->gu (SX os z Dv.non) w u:=by intro s K u d i;subst k;exact i.iq
 have a4:A.nt=fn.ntmps:=by subst k;rfl
 have a1:A.dn=fun _=>False:=by subst k;rfl
 have X:A.ds=[]:=by subst k;rfl
 refine calls_of_wp hf hb (wp_mono (hT A a4 hA _ w hg (fun H a w J h=>?_)) (fun e K u W=>?_));obtain⟨l,q,_⟩:=h;rw[a1] at q;exact q.elim;cases e with
 |panic H=>obtain⟨J,rfl,s,j,d,i⟩:=W;exact⟨J.trans X,C i,(N s _ _ d j i).2,rfl⟩
 |exit id=>obtain⟨q|q,_⟩:=W<;>cases q
 |goto _=>obtain⟨q|q,_⟩:=W<;>cases q
 |outgrown=>obtain⟨q|q,_⟩:=W<;>cases q
 | normal|ret=>
  obtain⟨_,r,rfl,s,⟨⟨v,h2,h3⟩,j⟩,d,i⟩:=W;obtain⟨v',F,h5,h6,h7,_⟩:=rY i h2;subst h7;obtain⟨Z,T⟩:=N s _ _ d j i;have Q:=aPy i Z h3 h6;have G:RV { w:=u,ok:=pI w B false,env:=fun _=>none } r F:=by subst k;exact Q
  exact⟨i.defers.trans X,F,h5,C i,T,F,rfl,G⟩
def RX(A:lh)(new:Bool)(O:qy)(H:jc)(dn:jc->Prop)(c:PV)(e:Ending)(w':ae):Prop:=gu A.dv.S A.w0 w'/\((∃ b,e=.returned b/\RV { w:=w',ok:=pI A.w0 A.ok0 new,env:=fun _=>none } c b/\A.dv.inv H A.X0 w')\/∃ a l,e=.panicked a/\dn l/\O l=none/\A.dv.pan l A.X0 w' a)
theorem MQ{P:dE}{I:je}{f:Nat}{fn:Func}{c:yf}{new:Bool}{O:qy}{y H:jc}{dn:jc->Prop}{args:jl}{d:PV}(G:P.funcs[f]?=some fn)(hb:fn.body=some c)(t:Nat.ble args.length fn.ntmps=true)
  (J:∀ A:lh,A.nt=fn.ntmps->jo P I A->A.dv.O=O->A.dn=dn->((∀ b,A.S b↔A.dv.S b)/\A.ds=[])->∀ a,oq A ⟨slots 0 args,[(dx,none,0,.dev O dn y)]⟩ a A.w0->EC P f c (bodyPostM Fence.wide 3 P fn (RX A new O H dn d)) a A.w0):zh P I f new [] O (some (y,H)) dn args d:=by
 intro w B Z X D X0 L g k l z u r m i C;obtain⟨N,F⟩:=aAl (fn:=fn) (dn:=dn) t rfl L g k l z u r m i C;have K:∀ b,SX [] X D b↔D.S b:=fun b=>⟨fun h=>h.elim id (fun⟨o,q,_⟩=>by cases q),.inl⟩;refine (callsIn_wide (n:=3)).1 ((aQu G hb (J _ rfl N z rfl ⟨K,rfl⟩ _ F)).mono ?_);rintro e Y ⟨W,V⟩;refine⟨W.mono fun b _ h=>.inl h,?_⟩;rcases V with⟨j,x,U,T⟩|x;exact .inl ⟨j,x,U,(fun o q=>by cases q),(fun p E=>by cases E;exact T)⟩;exact .inr x
def Dw(P:dE)(f0:ZK)(A:lh)(s:St)(c:yf)(Q:nz->Act->je):Prop:=∀ a w,oq A s a w->D_ A Q->EC P f0 c Q a w
section
variable {P:dE} {f0:ZK} {A:lh} {s:St} {Q:nz->Act->je}
def aUB(P:dE)(f0:ZK)(A:lh)(c:yf)(Q:nz->Act->je):Act->ae->Prop:=fun a w=>D_ A Q->EC P f0 c Q a w
theorem aCx{x y:yf}(h:jw P A s x (Exit.then (aUB P f0 A y Q) Q)):Dw P f0 A s (.seq x y) Q:=fun a w d b=>aRm (Hr (aDt (h a w d b)) (fun e g f c=>by cases e<;>first|exact c|exact c b))
theorem bCg{c:yf}{a:Act}{w:ae}(h:Dw P f0 A s c Q)(d:oq A s a w)(b:D_ A Q):EC P f0 c Q a w:=h a w d b
theorem aNh{s':St}{c:yf}(h:∀ a w,oq A s a w->oq A s' a w)(e:Dw P f0 A s' c Q):Dw P f0 A s c Q:=fun a w d b=>e a w (h a w d) b
theorem wJ{P:dE}{I:je}{G:Specs}{f0:ZK}{A:lh}{s s':St}{Q:nz->Act->je}(M:jq P I G)(hI:jo P I A){f:Nat}(d:A.nt=f){c:Nat}{ops:Array Oper}{b:Bool}{outs:List (Option Nat×Out)}{y:yf}(h:gZ (pJ P G c ops.toList) 0 ops.toList s=some (outs,s'))(e:(dO b ops.toList outs&&qR f ops.toList)=true)(hc:All ((outs.map fun q=>q.2.conds).flatten))(i:Dw P f0 A s' y Q):Dw P f0 A s (.seq (.region c ops b) y) Q:=aCx (aX M hI d h e hc (fun a w g=>i a w g))
theorem aZj(P:dE)(A:lh)(fn:Func)(O:qy)(H:jc)(dn:jc->Prop)(new:Bool)(d:PV)(f:A.dv.O=O)(hs:A.dn=dn)(hS:(∀ b,A.S b↔A.dv.S b)/\A.ds=[]):D_ A (bodyPostM Fence.wide 3 P fn (RX A new O H dn d)):=by rintro c a w e ⟨l,k,j,i,g⟩;show LeavesInM Fence.wide 3 P fn a.tmps _ a.defers (.panicking c) w;rw[e,hS.2];exact⟨g.mono fun b _ h=>(hS.1 b).1 h,.inr ⟨c,l,rfl,by rw[<-hs];exact k,by rw[<-f];exact j,i⟩⟩
theorem aEp{P:dE}{A:lh}{fn:Func}{O:qy}{H:jc}{dn:jc->Prop}{new:Bool}{d:PV}{s:St}(hS:(∀ b,A.S b↔A.dv.S b)/\A.ds=[])(h:Tj P fn new d s)(hd:find s.o dx=some (none,0,.dev O dn H)){a:Act}{w:ae}(t:oq A s a w):bodyPostM Fence.wide 3 P fn (RX A new O H dn d) .ret a w:=by
 obtain⟨v,E,D⟩:=h;obtain⟨p,i⟩:=t;obtain⟨F,c,C,B,z,_⟩:=rY i E;subst z;obtain⟨_,_,q⟩:=i.dev none 0 _ _ _ hd trivial;have m:DC A s p:=by intro x g j e n len f0 hd b u k l r;exact A.dv.notS _ _ _ _ q (.inr ⟨x,j,hd,k,l⟩) ((hS.1 b).1 r)
 have f:=aPy i m D B;show LeavesInM Fence.wide 3 P fn a.tmps _ a.defers .returning w;rw[i.defers,hS.2];exact⟨c,C,i.iq.mono fun b _ h=>(hS.1 b).1 h,.inl ⟨c,rfl,f,A.dv.grow _ _ _ _ _ q (gu.refl _ _) (fun b y=>.inl (.inl y))⟩⟩
theorem oq.C_{A:lh}{s:St}{a:Act}{w:ae}{env:Env}(h:gy A s a w env){t x:Nat}{ty:bi}{l:dw}(d:find s.t t=some (none,dm (.pt x 0 0)))(e:find s.o x=some (none,0,.box ty l)) :
  ∃ g b,a.tmps[t]?=some (.pointer (some ⟨g,0,none⟩))/\env x=some (0,iY g)/\f_ w g ty b/\RL (aI A w env) l b.toList:=by
 obtain⟨v,m,k⟩:=h.tmps t none _ d trivial;obtain⟨p,c,j⟩:=h.jv x none 0 _ e;obtain⟨g,b,rfl,i,f⟩:=j trivial;obtain⟨q,n,rfl⟩:=RV.BJ k c;cases n;exact⟨_,b,m,c,i,f⟩
def Aq(F:Int)(b:dh)(i:Nat):Acc:=⟨4,0,F+(i:Int),strOf (l7 b i)⟩
def hist(F:Int)(b:dh)(lz:jc)(k:Nat):jc:=lz++(AC (k-1)).map fun j=>Aq F b (1+j)
theorem aWo(F:Int)(b:dh)(lz:jc):hist F b lz 1=lz:=Lt _
theorem nT(F:Int)(b:dh)(lz:jc):hist F b lz 0=lz:=Lt _
theorem aAj(F:Int)(b:dh)(lz:jc)(k:Nat)(a:0<k):hist F b lz (k+1)=hist F b lz k++[Aq F b k]:=by obtain⟨m,rfl⟩:∃ m,k=m+1:=⟨k-1,a_⟩;unfold hist;rw[show m+1+1-1=m+1 from rfl,show m+1-1=m from rfl,List.range_succ,Z8,Pi,ZB m 1];rfl
theorem yK(F:Int)(b:dh)(lz:jc){k m:Nat}(h:k<=m):hist F b lz k <+: hist F b lz m:=by
 induction m with
 |zero=>obtain rfl:k=0:=a_;exact aAf _
 |succ m c=>
  rcases Yk m k with a|a
  obtain rfl:k=m+1:=a_;exact aAf _;refine (c a).trans ?_;rcases Nat.eq_zero_or_pos m with rfl|d;rw[nT,aWo];exact aAf _;rw[aAj F b lz m d];exact ZG _ _
theorem MI(O:qy)(F:Int)(b:dh):∀ (n i:Nat) (l:jc),(go O (aj.Hf F b n i) l).2=l++(AC n).map fun j=>Aq F b (i+j)
 |0,i,l=>(Lt _).symm|n+1,i,l=>by rw[aj.Hf,yL,MI O F b n (i+1),List.range_succ_eq_map,DD,List.map_map];show (l++[Aq F b i])++_=_;rw[Pi];congr 1;rw[ZA];show Aq F b i::_=_;congr 1;refine List.map_congr_left fun j _=>?_;show Aq F b (i+1+j)=Aq F b (i+(j+1));congr 1;omega
theorem TG(rec:Int):aj.All (fun p:(Int×dh)×Nat=>(0<=p.1.1/\p.1.1<=1099511627776)/\(p.2=0\/p.2=1)) (aj.cur rec):=by refine (aj.All.yt _).bind fun a _=>(aj.All.yt _).bind fun b _=>?_;show _/\_;unfold xu;split;exact⟨oN _ _,.inr rfl⟩;exact⟨oN _ _,.inl rfl⟩
theorem bBq{A:lh}(hI:jo prog af A){l:jc}{X:qo}{w:ae}(r:A.dv.inv l X w)(hS:∀ b,A.S b↔A.dv.S b)(hc:gu A.dv.S A.w0 w)(k:Int)(b:l9)(j:∀ c,l <+: c->c <+: l++[⟨4,0,k,b⟩]->A.dv.O c=none->A.dn c) :
  mf prog 140 #[A.dv.hd,.int .i64 k,.string b] w fun e f=>gu A.dv.S w f /\
   ((∃ v,e=.returned v/\A.dv.inv (l++[⟨4,0,k,b⟩]) X f)\/∃ a c,e=.panicked a/\(l <+: c/\c <+: l++[⟨4,0,k,b⟩])/\A.dv.O c=none/\A.dv.pan c X f a):=by
 have d:∀ b,SX [] (fun _=>0) A.dv b->A.dv.S b:=by rintro b (h|⟨o,g,_⟩);exact h;cases g
 refine ((Hg (I:=af) k b A.dv.O l) w (fun _=>False) [A.dv.hd,.int .i64 k,.string b] (fun _=>0) A.dv X
  (fun f h=>hI.mem f ((hc.mono fun b _ h=>(hS b).2 h).trans (h.mono fun b _ h=>(hS b).2 (d b h))))
  (fun b s=>⟨YX (hI.old b ((hS b).2 (d b s))).1 hc.size,fun h=>h⟩) (hI.step.mono fun q i n=>j q i.1 i.2 n) hI.Ci rfl (fun p j=>by cases j;exact r) (fun h=>by cases h) (fun o g=>by cases g) (fun o g=>by cases g)
  ⟨.w (.one (.dv A.dv.one ⟨0,A.dv.hd,rfl,dC _,fun _=>rfl⟩)),.w (.one (.lit rfl)),.w (.one (.lit rfl)),trivial⟩).mono ?_
 rintro e f ⟨i,n⟩;refine⟨i.mono fun b _ h=>d b h,?_⟩;rcases n with⟨v,rfl,_,_,m⟩|⟨a,c,rfl,m,u,t⟩;exact .inl ⟨v,rfl,m _ rfl⟩;exact .inr ⟨a,c,rfl,m,u,t⟩
structure PS(A:lh)(X:qo)(n0 g3 g6 g10 g11:Nat)(F:Int)(b:dh)(lz:jc)(k:Nat)(W:ae):Prop where
 iq:gu A.dv.S A.w0 W
 inv:A.dv.inv (hist F b lz k) X W
 b3:f_ W g3 116 #[A.dv.hd]
 b6:f_ W g6 164 #[.string aG,.int .i64 0,.int .i64 0]
 b10:f_ W g10 3 #[.int .i64 F]
 b11:f_ W g11 9 #[.string (if k=0 then aG else strOf (l7 b 0))]
 sz:n0<=W.heap.size
variable {X:qo} {n0 g3 g6 g10 g11:Nat} {F:Int} {b:dh} {lz:jc} {k:Nat} {W W':ae}
theorem PS.keep(h:PS A X n0 g3 g6 g10 g11 F b lz k W){n1:Nat}(h0:A.w0.heap.size<=n1)(h1:∀ i,Two n1 i->X i)(hc:gu (Two n1) W W')(hk:PH W W'):PS A X n0 g3 g6 g10 g11 F b lz k W' where
 iq:=h.iq.trans' hc (fun _ _ h=>h) (fun i hi hn=>by rcases hn with h|h<;>omega)
 inv:=A.dv.grow _ _ _ _ _ h.inv (hc.mono fun i _ hn=>h1 i hn) (fun i hi=>.inl hi)
 b3:=hk.blk h.b3
 b6:=hk.blk h.b6
 b10:=hk.blk h.b10
 b11:=hk.blk h.b11
 sz:=PP h.sz hc.size
theorem PS.notS(h:PS A X n0 g3 g6 g10 g11 F b lz k W){i:Nat}(a:X i):¬A.dv.S i:=A.dv.notS _ _ _ _ h.inv a
theorem PS.wrote(h:PS A X n0 g3 g6 g10 g11 F b lz k W)(h3:X g3)(h6:X g6)(h10:X g10)(h11:X g11)(hk:0<k)(hc:gu A.dv.S W W')(hi:A.dv.inv (hist F b lz k++[Aq F b k]) X W'):PS A X n0 g3 g6 g10 g11 F b lz (k+1) W' where
 iq:=h.iq.trans hc
 inv:=by rw[aAj _ _ _ _ hk];exact hi
 b3:=h.b3.iq hc (h.notS h3)
 b6:=h.b6.iq hc (h.notS h6)
 b10:=h.b10.iq hc (h.notS h10)
 b11:=by
  have:=h.b11.iq hc (h.notS h11);rw[ay a_] at this ⊢;exact this
 sz:=PP h.sz hc.size
end
theorem aFW(a:Act)(h:a.tmps.size=65)(hd:a.defers=[]):∃ u0 u1 u2 u3 u4 u5 u6 u7 u8 u9 b1 b0 a9 a8 a7 a6 a5 a4 a3 a2 a1 a0 Z Y X W V U T S Q P O N K J I H G F E D C B A z y x w u t s r q p o n m k j g f e c b,a={ tmps:=#[u0,u1,u2,u3,u4,u5,u6,u7,u8,u9,b1,b0,a9,a8,a7,a6,a5,a4,a3,a2,a1,a0,Z,Y,X,W,V,U,T,S,Q,P,O,N,K,J,I,H,G,F,E,D,C,B,A,z,y,x,w,u,t,s,r,q,p,o,n,m,k,j,g,f,e,c,b],defers:=[] }:=by
 obtain⟨⟨L⟩,d⟩:=a;obtain rfl:d=[]:=hd;have hL:L=(AC 65).map fun i=>L.getD i bz:=by apply Z9;simpa using h;intro i h1 h2;rw[ZU,ZI,zG,zH h1];rfl
 exact⟨L.getD 0 bz,L.getD 1 bz,L.getD 2 bz,L.getD 3 bz,L.getD 4 bz,L.getD 5 bz,L.getD 6 bz,L.getD 7 bz,L.getD 8 bz,L.getD 9 bz,L.getD 10 bz,L.getD 11 bz,L.getD 12 bz,L.getD 13 bz,L.getD 14 bz,L.getD 15 bz,L.getD 16 bz,L.getD 17 bz,L.getD 18 bz,L.getD 19 bz,L.getD 20 bz,L.getD 21 bz,L.getD 22 bz,L.getD 23 bz,L.getD 24 bz,L.getD 25 bz,L.getD 26 bz,L.getD 27 bz,L.getD 28 bz,L.getD 29 bz,L.getD 30 bz,L.getD 31 bz,L.getD 32 bz,L.getD 33 bz,L.getD 34 bz,L.getD 35 bz,L.getD 36 bz,L.getD 37 bz,L.getD 38 bz,L.getD 39 bz,L.getD 40 bz,L.getD 41 bz,L.getD 42 bz,L.getD 43 bz,L.getD 44 bz,L.getD 45 bz,L.getD 46 bz,L.getD 47 bz,L.getD 48 bz,L.getD 49 bz,L.getD 50 bz,L.getD 51 bz,L.getD 52 bz,L.getD 53 bz,L.getD 54 bz,L.getD 55 bz,L.getD 56 bz,L.getD 57 bz,L.getD 58 bz,L.getD 59 bz,L.getD 60 bz,L.getD 61 bz,L.getD 62 bz,L.getD 63 bz,L.getD 64 bz,congrArg (fun l=>({ tmps:=l.toArray,defers:=[] }:Act)) hL⟩
theorem aEo{C:Ctx}:∀ {b a:ji},RL C (b.map PC.lit) a->a=b
 |[],_,h=>by cases h;rfl| v::b,_,h=>by
  cases h with
  |cons d c=>
   rename_i a e;have:a=[v]:=by cases d;rfl
   rw[this,aEo c];rfl
theorem xX{C:Ctx}{vs:ji}{cs:kw}(h:RL C (vs.map PC.lit) cs.toList):cs=vs.toArray:=by rw[<-aEo h]
theorem aCM{C:Ctx}{cs:kw}{v:ag}(h:RL C [.dv] cs.toList)(g:∀ a b,C.env dx=some (a,b)->0=a/\b=v):cs=#[v]:=by
 have c:=h.single;generalize f:cs.toList=m at c;cases c with
 |dv o l=>rename_i d;obtain⟨a,b,i,n,k⟩:=l;obtain⟨rfl,e⟩:=g a b i;have j:d=v:=(k rfl).trans e;subst j;rw[<-f]
theorem bFw{A:lh}{s:St}{a:Act}{w:ae}{env:Env}(h:gy A s a w env){t:Nat}{v:ag}(e:find s.t t=some (none,o7 v)):a.tmps[t]?=some v:=by obtain⟨c,g,f⟩:=h.tmps t none _ e trivial;have b:=f.inv;generalize d:[c]=i at b;cases b;cases d;exact g
theorem NM(rec seq:Int)(c:l9)(h1:ja rec)(h2:ja seq)(hc:c.size<=3000)(w:ae)(E:af w):mf prog 143 #[.int .i64 rec,.int .i64 seq,.string c] w fun e f=>
  ∃ G cap,e=.returned (.slice (some ⟨G,0,none⟩) (encS rec seq c.data.toList).length cap)/\Ext w f/\w.heap.size<=G/\G<f.heap.size/\(encS rec seq c.data.toList).length<=cap/\cap<=maxLen/\f.rangeAt G 0 ((encS rec seq c.data.toList).map jk):=by
 have r:0<(encS rec seq c.data.toList).length:=by rw[nG];omega
 refine (aJh rec seq c h1 h2 hc w (fun _=>False) [.int .i64 rec,.int .i64 seq,.string c] E ⟨.w (.one (.lit rfl)),.w (.one (.lit rfl)),.w (.one (.lit rfl)),trivial⟩).mono ?_;rintro e f ⟨u,d,rfl,F,o,y⟩;generalize encS rec seq c.data.toList=b at *
 have k:d=b.map jk:=by
  apply List.ext_getElem?;intro i;have s:=o.1;rcases Yk i b.length with a|a;have h:=y { w:=w,ok:=fun _=>False,env:=fun _=>none } i a;rw[Yy] at h
  have B:(d.drop i).take 1=[d[i]'(a_)]:=by rw[List.drop_eq_getElem_cons a_];rfl
  rw[B] at h;unfold su at h;have t:=h.single;generalize l:d[i]'(a_)=x at t;cases t with
  |lit _=>rw[zH a_,l,XN,zH a,zG,zH a];rfl
  rw[YQ a_,YQ (by simpa using a)]
 subst k;have n:=o;rcases o.2 with⟨_,H⟩|⟨g,cap,cur,rfl,D,A,p,q,C,m⟩;omega
 refine⟨g,cap,rfl,F,D,lt_of_heap A,p,q,fun j v z=>?_⟩;have:=n.cells (g:=g) rfl j v z;rw[add_lit] at this;exact this
theorem aSb(v:ag)(c:v.oneCell'=true)(w:ae):mf prog 142 #[v] w fun e a=>e=.returned (.func (.func 175) #[] #[.pointer (some ⟨w.heap.size,0,none⟩)]) /\
  w.alloc (.cells #[v] 74)=a:=by
 have b:=aDK
 go_enter func142,ntmps142
 go_wp2
 go_ret;exact⟨rfl,rfl⟩
theorem IQ:y7 prog 164 3:=⟨⟨_,underlying164,rfl⟩,ah⟩
attribute [local go_sem] Oper.semAt_some
theorem J6 (rec:Int) (hr:ja rec) (c:l9):bJw prog af 101 (aj.save rec c) [.w (.one .dv),iy rec,t_ c] Ey:=by
 intro O l hO;have M:=aBW
 have hp:aj.save rec c=if dG rec 0<0 then .ret ⟨aG,0,1⟩ else if 2000<c.size then .ret ⟨aG,0,19⟩ else
  (aj.cur rec).bind fun p=>if 1099511627776<p.1.1+1 then .ret ⟨aG,0,19⟩ else (aj.write (dG rec (1-(p.2:Int))) (encS rec (p.1.1+1) c.data.toList)).bind fun _=>.ret ⟨c,p.1.1+1,0⟩:=rfl
 generalize aj.save rec c=pr at *;refine MQ func101 rfl rfl (fun A hn hI hAO hAs PD a hga=>?_);generalize hstp:(fun h=>l <+: h/\h <+: (go O pr l).2)=dn;rw[hstp] at hAs hga;refine bCg ?_ hga (aZj _ _ _ _ _ _ _ _ hAO hAs PD);clear hga a;refine wJ M hI hn (ai) ah ?_ ?_
 ·simp
 refine aCx ?_;refine lQ (fun hc=>?_) (fun hc=>?_)
 ·have h:dG rec 0<0:=of_decide_eq_true hc;rw[au h] at hp;have hE:go O pr l=(⟨aG,0,1⟩,l):=by rw[hp];rfl
  refine aN ?_;refine bI (fun a w hg=>aEp PD ?_ ?_ hg);rotate_left 1
  ·rw[hE];rfl
  refine aO (ai) b_ ai ai ?_;rw[hE];rfl
 ·have h:¬dG rec 0<0:=of_decide_eq_false hc;rw[ay h] at hp;refine iH ?_;change Dw _ _ _ _ _ _;refine aCx ?_;refine lQ (fun hc=>?_) (fun hc=>?_)
  ·have h2:2000<c.size:=by have:=of_decide_eq_true hc;omega
   rw[au h2] at hp;have hE:go O pr l=(⟨aG,0,19⟩,l):=by rw[hp];rfl
   refine aN ?_;refine bI (fun a w hg=>aEp PD ?_ ?_ hg);rotate_left 1
   ·rw[hE];rfl
   refine aO (ai) b_ ai ai ?_;rw[hE];rfl
  ·have h2:¬2000<c.size:=by have:=of_decide_eq_false hc;omega
   rw[ay h2] at hp;refine iH ?_;change Dw _ _ _ _ _ _;have hL0:yR O pr l ((aj.cur rec).bind fun p=>if 1099511627776<p.1.1+1 then .ret ⟨aG,0,19⟩ else (aj.write (dG rec (1-(p.2:Int))) (encS rec (p.1.1+1) c.data.toList)).bind fun _=>.ret ⟨c,p.1.1+1,0⟩) l:=by rw[hp];exact yR.start _ _ _
   have hL:=hL0.step;refine wJ M hI hn (ai) ah ?_ ?_
   ·simp;refine⟨⟨hO,hr⟩,fun h h1 h2 h3=>?_⟩;rw[<-hstp];exact hL0.dn h h1 h2 h3
   have hq1:=Uz (R:=fun p:(Int×dh)×Nat=>(0<=p.1.1/\p.1.1<=1099511627776)/\(p.2=0\/p.2=1)) O (TG rec) l;obtain⟨q,lq,hq⟩:∃ q lq,go O (aj.cur rec) l=(q,lq):=⟨_,_,rfl⟩;rw[hq] at hL hq1;dsimp only at hL hq1;refine aNh (s':=⟨[(1,none,iy rec),(2,none,t_ c),(3,none,dm (.pt 0 0 0)),(6,none,dm (.pt 1 0 0)),(7,none,dm (.pt 5006 0 0)),(8,none,iy (q.2:Int))],[(dx,none,0,.dev O dn lq),(0,none,0,.box 116 [.dv]),(1,none,0,.box 164 [.lit (.string aG),.lit (.int .i64 0),.lit (.int .i64 0)]),(5006,none,0,.box 205 [.lit (.int .i64 q.1.1),.lit (.string (strOf q.1.2))])]⟩) (fun a w hg=>(hg.reset (kT:=[1,2,3,6,7,8]) (kO:=[900000,0,1,5006]) ai b_).same ?_ ?_) ?_
   ·refine .cr (.cr (.cr (.cr (.cr (.cons ?_ .nil)))));rw[hq]
   ·refine .cons (.dev ?_) (.cb (.cb (.cons (.box ?_) .nil)))
    ·show (go O (aj.cur rec) l).2=_;rw[hq]
    ·show[PC.lit (.int .i64 (go O (aj.cur rec) l).1.1.1),PC.lit (.string (strOf (go O (aj.cur rec) l).1.1.2))]=_
     rw[hq]
   refine wJ M hI hn (ai) ah ?_ ?_
   ·simp
   have hw6:IntKind.wrap .i64 (q.1.1+1)=q.1.1+1:=dQ a_ a_;refine aCx ?_;refine lQ (fun hc=>?_) (fun hc=>?_)
   ·have h7:1099511627776<q.1.1+1:=by have:=of_decide_eq_true hc;rw[hw6] at this;exact this
    have hE:go O pr l=(⟨aG,0,19⟩,lq):=by have:=hL.2;rw[au h7] at this;exact this
    refine aN ?_;refine bI (fun a w hg=>aEp PD ?_ ?_ hg);rotate_left 1
    ·rw[hE];rfl
    refine aO (ai) b_ ai ai ?_;rw[hE];rfl
   ·have h7:¬1099511627776<q.1.1+1:=by have:=of_decide_eq_false hc;rw[hw6] at this;exact this
    rw[ay h7] at hL;refine iH ?_;change Dw _ _ _ _ _ _;have hF1:IntKind.wrap .i64 (1-(q.2:Int))=1-(q.2:Int):=dQ a_ a_;refine wJ M hI hn (ai) ah ?_ ?_
    ·simp
    unfold aj.write at hL;rw[aj.bind_assoc] at hL;have hzs:strOf (Lib.repeatL [0] 256)=strOf gB:=by rw[aEu];rfl
    have hz2:(ByteArray.mk #[0]).size<=1:=dC _;have hFB:=aIz rec (1-(q.2:Int));generalize hF:dG rec (1-(q.2:Int))=F at *;generalize hb:encS rec (q.1.1+1) c.data.toList=b at *;obtain⟨lz,hlz⟩:=lm (lq++[(⟨4,0,F,strOf gB⟩:Acc)]);have hGO:go O pr l=(⟨c,q.1.1+1,0⟩,hist F b lz (nsec b)++[Aq F b 0]):=by rw[hL.2,yL,yL,yL];show ((⟨c,q.1.1+1,0⟩:EU),(go O (aj.Hf F b (nsec b-1) 1) (lq++[(⟨4,0,F,strOf gB⟩:Acc)])).2++[(⟨4,0,F,strOf (l7 b 0)⟩:Acc)])=_;rw[hlz,MI];unfold Aq;rw[show F+((0:Nat):Int)=F from Int.add_zero F];rfl
    have hlq:l <+: lq:=hL.1;refine wJ M hI hn (ai) ah ?_ ?_
    ·simp;rw[hF1,hF,hzs];refine⟨hz2,hO,fun h h3 h4 _=>?_⟩;rw[<-hstp];refine⟨hlq.trans h3,h4.trans ?_⟩;rw[hGO];show lq++[(⟨4,0,F,strOf gB⟩:Acc)] <+: _;rw[hlz];show lz <+: hist F b lz (nsec b)++[Aq F b 0];have hz:=yK F b lz (xn (nsec b));rw[nT] at hz;exact hz.trans (ZG _ _)
    refine wJ M hI hn (ai) ah ?_ ?_
    ·simp
    refine aNh (s':=⟨[(1,none,iy rec),(2,none,t_ c),(3,none,dm (.pt 0 0 0)),(6,none,dm (.pt 1 0 0)),(9,none,iy (q.1.1+1)),(10,none,dm (.pt 9004 0 0)),(11,none,dm (.pt 11000 0 0))],[(dx,none,0,.dev O dn lz),(0,none,0,.box 116 [.dv]),(1,none,0,.box 164 [.lit (.string aG),.lit (.int .i64 0),.lit (.int .i64 0)]),(9004,none,0,.box 3 [.lit (.int .i64 F)]),(11000,none,0,.box 9 [.lit (.string aG)])]⟩) (fun a w hg=>(hg.reset (kT:=[1,2,3,6,9,10,11]) (kO:=[900000,0,1,9004,11000]) ai b_).same ?_ ?_) ?_
    ·refine .cr (.cr (.cr (.cr (.cons ?_ ((iP _))))));rw[hw6]
    ·refine .cons (.dev ?_) (.cb (.cb (.cons (.box ?_) ((fD _)))))
     ·show lq++[(⟨4,0,dG rec (IntKind.wrap .i64 (1-(q.2:Int))),strOf (Lib.repeatL [0] 256)⟩:Acc)]=lz;rw[hF1,hF,hzs,hlz]
     ·rw[hF1,hF]
    intro a w hg hPQ;obtain⟨env,hE⟩:=hg;obtain⟨g3,cs3,t3,e3,b3,r3⟩:=oq.C_ hE (t:=3) (x:=0) rfl rfl;obtain⟨g6,cs6,t6,e6,b6,r6⟩:=oq.C_ hE (t:=6) (x:=1) rfl rfl;obtain⟨g10,aNG,t10,e10,b10,r10⟩:=oq.C_ hE (t:=10) (x:=9004) rfl rfl;obtain⟨g11,aNF,t11,e11,b11,r11⟩:=oq.C_ hE (t:=11) (x:=11000) rfl rfl;obtain⟨dv1,dv2,hi⟩:=hE.dev none 0 O dn lz rfl trivial;clear dv1 dv2;have hcg:gu A.dv.S A.w0 w:=hE.iq.mono fun b _ h=>(PD.1 b).1 h;have x3:ownB A env g3:=.inr ⟨0,0,_,e3,rfl⟩;have x6:ownB A env g6:=.inr ⟨1,0,_,e6,rfl⟩;have x10:ownB A env g10:=.inr ⟨9004,0,_,e10,rfl⟩;have x11:ownB A env g11:=.inr ⟨11000,0,_,e11,rfl⟩;have n6:g6≠g11:=fun e=>by have:=hE.inj 1 11000 0 _ 0 _ g6 e6 e11 rfl (by rw[e];rfl);cases this
    have n3:g3≠g11:=fun e=>by have:=hE.inj 0 11000 0 _ 0 _ g3 e3 e11 rfl (by rw[e];rfl);cases this
    have n10:g10≠g11:=fun e=>by have:=hE.inj 9004 11000 0 _ 0 _ g10 e10 e11 rfl (by rw[e];rfl);cases this
    have n36:g3≠g6:=fun e=>by have:=hE.inj 0 1 0 _ 0 _ g3 e3 e6 rfl (by rw[e];rfl);cases this
    have n106:g10≠g6:=fun e=>by have:=hE.inj 9004 1 0 _ 0 _ g10 e10 e6 rfl (by rw[e];rfl);cases this
    have l6:A.w0.heap.size<=g6:=(hE.live 1 0 _ g6 e6 rfl).2.resolve_right (fun h=>A.dv.notS _ _ _ _ hi x6 ((PD.1 _).1 h.1));have l11:A.w0.heap.size<=g11:=(hE.live 11000 0 _ g11 e11 rfl).2.resolve_right (fun h=>A.dv.notS _ _ _ _ hi x11 ((PD.1 _).1 h.1));obtain rfl:cs6=#[.string aG,.int .i64 0,.int .i64 0]:=xX (vs:=[.string aG,.int .i64 0,.int .i64 0]) r6;obtain rfl:aNG=#[.int .i64 F]:=xX (vs:=[.int .i64 F]) r10;obtain rfl:aNF=#[.string aG]:=xX (vs:=[.string aG]) r11
    obtain rfl:cs3=#[A.dv.hd]:=aCM r3 (fun jm hd h=>by
     obtain⟨hd2,e5,_⟩:=hE.jv dx none 0 _ rfl;have h0:env dx=some (jm,hd):=h;rw[e5] at h0;cases h0
     exact⟨rfl,(hE.n_ dx A.dv.hd (hI.dvh _ _ _ hi)).2.now e5⟩)
    have hsz:a.tmps.size=65:=hE.size.trans (hn.trans rfl);have t1:=bFw hE (t:=1) rfl;have t2:=bFw hE (t:=2) rfl;have t9:=bFw hE (t:=9) rfl;obtain⟨u0,u1,u2,u3,u4,u5,u6,u7,u8,u9,u10,u11,u12,u13,u14,u15,u16,u17,u18,u19,u20,u21,u22,u23,u24,u25,u26,u27,u28,u29,u30,u31,u32,u33,u34,u35,u36,u37,u38,u39,u40,u41,u42,u43,u44,u45,u46,u47,u48,u49,u50,u51,u52,u53,u54,u55,u56,u57,u58,u59,u60,u61,u62,u63,u64,rfl⟩:=aFW a hsz (hE.defers.trans PD.2);obtain rfl:u1=_:=Option.some.inj t1;obtain rfl:u2=_:=Option.some.inj t2;obtain rfl:u3=_:=Option.some.inj t3;obtain rfl:u6=_:=Option.some.inj t6;obtain rfl:u9=_:=Option.some.inj t9;obtain rfl:u10=_:=Option.some.inj t10;obtain rfl:u11=_:=Option.some.inj t11;have hM:=hI.mem w hE.iq;have HW:=hide (az hi (az hcg (az b3 (az b6 (az b10 b11)))));have HX:=hide (az x3 (az x6 (az x10 x11)));have HL:=hide (az l6 l11);have HN:=hide (az n6 (az n3 (az n10 (az n36 n106))));have HE:=hide hE.iq.size;have hbl:b.length<=3000/\0<b.length:=by rw[<-hb,nG,pV];have:=aQ (q.1.1+1);have:=aQ (c.data.toList.length:Int);have hcl:c.data.toList.length=c.size:=uA;omega
    have HEc:=hide (NM rec (q.1.1+1) c hr ⟨a_,a_⟩ a_ w hM);have HSc:=hide (fun v hv W=>aSb v hv W);rw[hb] at HEc;have HG:=hide (az hGO (az hL.1 (az hlz (az hAO (az hAs (az PD (az hI (az hstp hPQ))))))));have hP0:∀ l',lz <+: l'->l' <+: hist F b lz (nsec b)++[Aq F b 0]->A.dn l':=fun l' h1 h2=>by rw[hAs,<-hstp];refine⟨hL.1.trans ((?_:lq <+: lz).trans h1),by rw[hGO];exact h2⟩;have:=ZG lq [(⟨4,0,F,strOf gB⟩:Acc)];rwa [hlz] at this
    have HP:=hide (show (∀ k,0<k->k<nsec b->∀ l',hist F b lz k <+: l'->l' <+: hist F b lz k++[Aq F b k]->A.dn l')/\(∀ l',hist F b lz (nsec b) <+: l'->l' <+: hist F b lz (nsec b)++[Aq F b 0]->A.dn l') from
     ⟨
      fun k hk0 hkn l' h1 h2=>hP0 l' (by have hz:=yK F b lz (xn k);rw[nT] at hz;exact hz.trans h1) (by
      have hz:=yK F b lz (Nat.succ_le_of_lt hkn);rw[aAj F b lz k hk0] at hz
      exact (h2.trans hz).trans (ZG _ _)),
     fun l' h1 h2=>hP0 l' (by have hz:=yK F b lz (xn (nsec b));rw[nT] at hz;exact hz.trans h1) h2⟩)
    clear hP0;have HC:=hide (az hbl hq1);have HFB:=hide hFB;clear hFB;clear l6 l11 hPQ hM hi hcg b3 b6 b10 b11 x3 x6 x10 x11 n6 n3 n10 n36 n106 hE t1 t2 t3 t6 t9 t10 t11 e3 e6 e10 e11 r3 r6 r10 r11 hsz hGO hL hL0 hlz hAO hAs PD hI hstp hbl hq1 hlq hzs hz2 hF1 hb hF hq h7 hw6 h2 h hp hO hr M hn;refine aRm (aRm (aDt ?_))
    go_wp2_with (first
     |(go_at_call 143;refine (aA HEc).mono ?_;rintro e w1 ⟨G,cap,rfl,k1,k2,k3,k4,k5,k6⟩;have H1:=hide (az k1 (az k2 (az k3 (az k4 (az k5 k6)))));clear k1 k2 k3 k4 k5 k6)
     |(go_at_call 142;refine (aA HSc _ rfl _).mono ?_;rintro e w2 ⟨rfl,rfl⟩))
    change EC _ _ _ _ _ _;refine bBs ?_;obtain⟨W0,hW0⟩:∃ x,w1.alloc (.cells #[.slice (some ⟨G,0,none⟩) b.length cap] 74)=x:=⟨_,rfl⟩;have hsz0:W0.heap.size=w1.heap.size+1:=by rw[<-hW0];simp
    have hwW:Ext w W0:=by rw[<-hW0];exact (aA H1).1.alloc _
    have hBx:W0.cell? ⟨w1.heap.size,0,none⟩=some (.slice (some ⟨G,0,none⟩) b.length cap):=by rw[<-hW0];exact eY _ _ _ rfl rfl
    have hGr:W0.rangeAt G 0 (b.map jk):=by rw[<-hW0];exact fun j v hj=>Ext.lw ((Ext.refl w1).alloc _) ((aA H1).2.2.2.2.2 j v hj)
    obtain⟨X,S_⟩:∃ X:Nat->Prop,X=fun i=>ownB A env i\/(w.heap.size<=i/\i<W0.heap.size+2):=⟨_,rfl⟩;have hX3:X g3:=by rw[S_];exact .inl (aA HX).1
    have hX6:X g6:=by rw[S_];exact .inl (aA HX).2.1
    have aMR:X g10:=by rw[S_];exact .inl (aA HX).2.2.1
    have aEC:X g11:=by rw[S_];exact .inl (aA HX).2.2.2
    have S9:∀ i,w.heap.size<=i->i<W0.heap.size+2->X i:=fun i h1 h2=>by rw[S_];exact .inr ⟨h1,h2⟩
    have hin0:∀ W,Ext W0 W->W0.heap.size+2<=W.heap.size->PS A X W0.heap.size g3 g6 g10 g11 F b lz 0 W:=fun W hE hs=>by
     have Zm:Ext w W:=hwW.trans hE;refine⟨(aA HW).2.1.ext Zm,?_,(aA HW).2.2.1.ext Zm,(aA HW).2.2.2.1.ext Zm,(aA HW).2.2.2.2.1.ext Zm,?_,hE.size'⟩
     ·rw[nT];refine A.dv.grow _ _ _ _ _ (aA HW).1 Zm.iq (fun i hi=>?_);rw[S_] at hi;rcases hi with hi|⟨h1,h2⟩
      ·exact .inl hi
      ·exact .inr ⟨h1,a_⟩
     ·rw[au rfl];exact (aA HW).2.2.2.2.2.ext Zm
    have hnS:∀ i,X i->¬A.dv.S i:=fun i hi hs=>by
     rw[S_] at hi;rcases hi with hi|⟨h1,h2⟩
     ·exact A.dv.notS _ _ _ _ (aA HW).1 hi hs
     ·have:=((aA HG).2.2.2.2.2.2.1.old i (((aA HG).2.2.2.2.2.1.1 i).2 hs)).1;have:=aA HE;omega
    have hseq:=aSa b (aA HC).1.1 (aA HC).1.2 w1.heap.size G cap (fun i=>A.dv.S i\/i=g11) W0 (fun h=>?s1) (fun h=>?s2) hBx (aA H1).2.2.2.1 (aA H1).2.2.2.2.1 a_ (by have:=(aA H1).2.2.1;omega) hGr
    case s1=>
     rcases h with h|h
     ·exact hnS _ (S9 _ (aA H1).1.size' a_) h
     ·have:=(aA HW).2.2.2.2.2.lt;have:=(aA H1).1.size';omega
    case s2=>
     rcases h with h|h
     ·exact hnS _ (S9 _ (aA H1).2.1 (by have:=(aA H1).2.2.1;omega)) h
     ·have:=(aA HW).2.2.2.2.2.lt;have:=(aA H1).2.1;omega
    have HXD:=hide S_;clear S_;rw[hW0];have hn1:A.w0.heap.size<=W0.heap.size:=PP (aA HE) hwW.size';have hwn:=hwW.size';obtain⟨Sx,hSx⟩:∃ S:Nat->Prop,S=fun i=>A.dv.S i\/i=g11:=⟨_,rfl⟩;rw[<-hSx] at hseq;have HSX:=hide hSx;clear hSx
    refine aYe (gf:=175) (lb:=#[.pointer (some ⟨w1.heap.size,0,none⟩)]) (encs:=fun k=>#[.int .i64 (k:Int),.string (strOf (l7 b k))]) (S:=Sx) (N:=nsec b) ⟨_,func101⟩ rfl (aB func175 ah rfl) hseq (fun _=>rfl)
     (PS A X W0.heap.size g3 g6 g10 g11 F b lz) (fun k W W' h hc hk=>h.keep hn1 (fun i hi=>S9 i (by rcases hi with h|h<;>omega) (by rcases hi with h|h<;>omega)) hc hk) hin0
     (fun ch W=>gu A.dv.S A.w0 W/\∃ l',(lz <+: l'/\l' <+: hist F b lz (nsec b))/\A.dv.O l'=none/\A.dv.pan l' X W ch)
     (fun k a'=>a'={ tmps:=#[u0,.int .i64 rec,.string c,.pointer (some ⟨g3,0,none⟩),u4,u5,.pointer (some ⟨g6,0,none⟩),u7,u8,.int .i64 (q.1.1+1),.pointer (some ⟨g10,0,none⟩),.pointer (some ⟨g11,0,none⟩),.int .i64 (k:Int),.string (strOf (l7 b k)),u14,u15,u16,u17,u18,u19,u20,u21,u22,u23,u24,u25,u26,u27,u28,u29,u30,u31,u32,u33,u34,u35,u36,u37,u38,u39,u40,u41,.int .i64 rec,.int .i64 (q.1.1+1),.string c,.slice (some ⟨G,0,none⟩) b.length cap,.func (.func 175) #[] #[.pointer (some ⟨w1.heap.size,0,none⟩)],.int .i64 (k:Int),.string (strOf (l7 b k)),u49,u50,u51,u52,u53,u54,u55,u56,u57,u58,u59,u60,u61,u62,u63,u64],defers:=[] }) ?assign ?body ?done ?pan
    case assign=>
     intro l1 k W K hK;clear hseq hin0 S9 hnS HEc HSc
     gi_wp2
     exact hK _ _ (Ext.refl _) rfl
    case body=>
     rintro l1 k a' W hJ rfl hlt;by_cases hk0:k=0
     ·subst hk0;have c11:=hJ.b11.cell 0;have f11:=hJ.b11.frozen 0;have bGT:=hJ.b11.lt;rw[au rfl] at c11;have c11':W.cell? ⟨g11,0,none⟩=some (.string aG):=c11;clear c11 hseq hin0 HEc HSc hW0 hsz0;have HJ:=hide hJ;clear hJ
      gi_wp2
      have c1:gu (fun i=>i=g11) W (W.setCell ⟨g11,0,none⟩ (.string (strOf (l7 b 0)))):=(gu.refl (fun i=>i=g11) W).setCell (p:=⟨g11,0,none⟩) (.inl rfl) _;refine⟨⟨(aA HJ).iq.trans' c1 (fun _ _ h=>h) (fun i hi e=>by have:=(aA HL).2;omega),?_,(aA HJ).b3.far (aA HN).2.1 _,(aA HJ).b6.far (aA HN).1 _,(aA HJ).b10.far (aA HN).2.2.1 _,?_,PP (aA HJ).sz c1.size⟩,fun i hi hn=>?_,fun i o hi ho hno=>?_⟩
      ·have:=A.dv.grow _ _ _ _ _ (aA HJ).inv (c1.mono fun i _ e=>e ▸ aEC) (fun i hi=>.inl hi);rw[nT] at this;rw[aWo];exact this
      ·have:=(aA HJ).b11.BH 0 (.string (strOf (l7 b 0)));rw[ay a_];exact this
      ·exact Below.heap_setCell W _ _ i (fun e=>hn (by rw[aA HSX];exact .inr e))
      ·rw[Below.heap_setCell W _ _ i (fun e=>by
        have e2:i=g11:=e;have:=(aA HW).2.2.2.2.2.lt
        omega)]
       exact ho
     ·have hkI:¬(k:Int)=0:=a_;have c3:W.cell? ⟨g3,0,none⟩=some A.dv.hd:=hJ.b3.cell 0;have c10:W.cell? ⟨g10,0,none⟩=some (.int .i64 F):=hJ.b10.cell 0;have hkn:k<=12:=by have:=(aA HC).1.1;unfold nsec at hlt;omega
      have hwF:wrap64 (F+(k:Int))=F+(k:Int):=by have:=aA HFB;unfold wrap64;omega
      have HJ:=hide hJ;have HWr:=hide (bBq (aA HG).2.2.2.2.2.2.1 hJ.inv (aA HG).2.2.2.2.2.1.1 hJ.iq (F+(k:Int)) (strOf (l7 b k)) (fun l' h1 h2 _=>(aA HP).1 k a_ hlt l' h1 h2));clear hJ hseq hin0 HEc HSc hW0 hsz0
      gi_wp2_with ((refine⟨trivial,?_⟩;gi_at_call 140;refine (CallsIn.inRound l1 (callsIn_wide.2 (aA HWr))).mono ?_))
      have hkp:∀ W',gu A.dv.S W W'->KpS Sx W0.heap.size W W':=fun W' hc1 i hi hn=>hc1.block i (YX hi (aA HJ).sz) (fun h=>hn (by rw[aA HSX];exact .inl h))
      have hko:∀ W',gu A.dv.S W W'->Ox W0.heap.size W W':=fun W' hc1 i o hi ho hno=>(hc1.block i (lt_of_heap ho) (fun h=>by
       have:=((aA HG).2.2.2.2.2.2.1.old i (((aA HG).2.2.2.2.2.1.1 i).2 h)).1
       omega)).trans ho
      rintro e w' ⟨hc1,⟨v,rfl,hi2⟩|⟨ch,l',rfl,hl',hO2,X3⟩⟩
      ·have HJ2:=hide ((aA HJ).wrote hX3 hX6 aMR aEC a_ hc1 hi2);have HK:=hide (az (hkp _ hc1) (hko _ hc1));clear hkp hko hc1 hi2
       gi_wp2
       exact⟨aA HJ2,(aA HK).1,(aA HK).2⟩
      ·refine⟨rfl,⟨(aA HJ).iq.trans hc1,l',⟨?_,?_⟩,hO2,X3⟩,hko _ hc1⟩
       ·have hz:=yK F b lz (xn k);rw[nT] at hz;exact hz.trans hl'.1
       ·refine hl'.2.trans ?_;have hz:=yK F b lz (Nat.succ_le_of_lt hlt);rw[aAj F b lz k a_] at hz;exact hz
    case done=>
     intro D W hJ hD hDl;have hnp:0<nsec b:=by have:=(aA HC).1.2;unfold nsec;omega
     change EC _ _ _ _ _ _;refine aDt ?_;have c3:W.cell? ⟨g3,0,none⟩=some A.dv.hd:=hJ.b3.cell 0;have c10:W.cell? ⟨g10,0,none⟩=some (.int .i64 F):=hJ.b10.cell 0;have c11:W.cell? ⟨g11,0,none⟩=some (.string (strOf (l7 b 0))):=by have:=hJ.b11.cell 0;rw[ay a_] at this;exact this
     have HJ:=hide hJ;have HD:=hide (az hD hDl);have HWr:=hide (bBq (aA HG).2.2.2.2.2.2.1 hJ.inv (aA HG).2.2.2.2.2.1.1 hJ.iq F (strOf (l7 b 0)) (fun l' h1 h2 _=>(aA HP).2 l' h1 (by unfold Aq;rw[show F+((0:Nat):Int)=F from Int.add_zero F];exact h2)));clear hJ hseq hin0 HEc HSc hW0 hsz0 hD hDl
     go_wp2_with ((go_at_call 140;refine (aA HWr).mono ?_))
     have hAX:∀ i,A.X0 i->X i:=fun i h=>by rw[aA HXD];exact .inl (.inl h)
     have h0f:F+((0:Nat):Int)=F:=Int.add_zero F;rintro e w2 ⟨hc1,⟨v,rfl,hi2⟩|⟨ch,l',rfl,hl',hO2,X3⟩⟩
     ·have H2:=hide (az ((aA HJ).iq.trans hc1) (az hi2 (az ((aA HJ).b6.iq hc1 ((aA HJ).notS hX6)) (show w2.heap[D]?=some (.deferred (some [])) from (hc1.block D (lt_of_heap (aA HD).1) ((aA HJ).notS (S9 D (by have:=(aA HD).2;omega) (by have:=(aA HD).2;omega)))).trans (aA HD).1))));clear hc1 hi2;have c60:w2.cell? ⟨g6,0,none⟩=some (.string aG):=(aA H2).2.2.1.cell 0;have c61:w2.cell? ⟨g6,1,none⟩=some (.int .i64 0):=(aA H2).2.2.1.cell 1;have c62:w2.cell? ⟨g6,2,none⟩=some (.int .i64 0):=(aA H2).2.2.1.cell 2;have f60:=(aA H2).2.2.1.frozen 0;have f61:=(aA H2).2.2.1.frozen 1;have f62:=(aA H2).2.2.1.frozen 2;have lt6:=(aA H2).2.2.1.lt
      go_wp2
      obtain rfl:=(aA HD).2;have hb6:f_ (((w2.setCell ⟨g6,0,none⟩ (.string c)).setCell ⟨g6,1,none⟩ (.int .i64 (q.1.1+1))).setCell ⟨g6,2,none⟩ (.int .i64 0)) g6 164 #[.string c,.int .i64 (q.1.1+1),.int .i64 0]:=(((aA H2).2.2.1.BH 0 _).BH 1 _).BH 2 _;have c6:gu (fun i=>i=g6) w2 (((w2.setCell ⟨g6,0,none⟩ (.string c)).setCell ⟨g6,1,none⟩ (.int .i64 (q.1.1+1))).setCell ⟨g6,2,none⟩ (.int .i64 0)):=(((gu.refl (fun i=>i=g6) w2).setCell (p:=⟨g6,0,none⟩) (.inl rfl) _).setCell (p:=⟨g6,1,none⟩) (.inl rfl) _).setCell (p:=⟨g6,2,none⟩) (.inl rfl) _;generalize ((w2.setCell ⟨g6,0,none⟩ (.string c)).setCell ⟨g6,1,none⟩ (.int .i64 (q.1.1+1))).setCell ⟨g6,2,none⟩ (.int .i64 0)=W3 at *;have g6w:g6<W0.heap.size:=by have:=(aA HW).2.2.2.1.lt;omega
      have hD3:W3.heap[W0.heap.size]?=some (.deferred (some [])):=(c6.block _ (lt_of_heap (aA H2).2.2.2) (fun e=>a_)).trans (aA H2).2.2.2;have hcp:gu (fun i=>i=W0.heap.size) W3 (W3.putObj W0.heap.size (.deferred none)):=⟨rfl,rfl,rfl,b_,fun b _ hn=>ZT hn⟩;refine aIq (v:=.agg #[.string c,.int .i64 (q.1.1+1),.int .i64 0]) rfl hD3 (gI IQ rfl ((ZT a_).trans hb6) rfl rfl) ?_;have ct:gu X w2 (W3.putObj W0.heap.size (.deferred none)):=(c6.mono fun i _ e=>e ▸ hX6).trans' hcp (fun _ _ h=>h) (fun i _ e=>S9 i a_ a_);refine⟨((aA H2).1.trans' c6 (fun _ _ h=>h) (fun i hi e=>by have:=(aA HL).1;omega)).trans' hcp (fun _ _ h=>h) (fun i hi e=>a_),.inl ⟨_,rfl,?_,?_⟩⟩
      ·rw[(aA HG).1];exact .w (.agg (.cons (.lit rfl) (.cons (.lit rfl) (.cons (.lit rfl) .nil))))
      ·rw[(aA HG).1];have:=A.dv.grow _ _ _ _ _ (aA H2).2.1 ct (fun i hi=>.inl (hAX i hi));unfold Aq;rw[h0f];exact this
     ·have hcp:gu (fun i=>i=W0.heap.size) w2 (w2.putObj W0.heap.size (.deferred none)):=⟨rfl,rfl,rfl,b_,fun b _ hn=>ZT hn⟩;obtain rfl:=(aA HD).2;have hD2:w2.heap[W0.heap.size]?=some (.deferred (some [])):=(hc1.block _ (lt_of_heap (aA HD).1) ((aA HJ).notS (S9 _ a_ a_))).trans (aA HD).1;show LeavesInM Fence.wide 3 _ _ _ _ [{ target:=.collected W0.heap.size,args:=#[] }] (.panicking ch) w2;refine⟨b_,.inl ⟨_,_,rfl,run_takeDeferred hD2,?_⟩⟩;refine⟨((aA HJ).iq.trans hc1).trans' hcp (fun _ _ h=>h) (fun i hi e=>a_),.inr ⟨ch,l',rfl,?_,by rw[<-(aA HG).2.2.2.1];exact hO2,(aA HG).2.2.2.2.2.2.1.Ci _ _ _ _ _ _ X3 (hcp.mono fun i _ e=>S9 i a_ a_) hAX⟩⟩;rw[<-(aA HG).2.2.2.2.2.2.2.1];refine⟨(aA HG).2.1.trans (?_:lq <+: l'),hl'.2.trans ?_⟩
      ·have:=ZG lq [(⟨4,0,F,strOf gB⟩:Acc)];rw[(aA HG).2.2.1] at this;have hz:=yK F b lz (xn (nsec b));rw[nT] at hz;exact (this.trans hz).trans hl'.1
      ·rw[(aA HG).1];unfold Aq;rw[h0f];exact aAf _
    case pan=>
     rintro D ch W ⟨hc,l',h1,h2,h3⟩ hD rfl;have hAX:∀ i,A.X0 i->X i:=fun i h=>by rw[aA HXD];exact .inl (.inl h)
     have hcp:gu (fun i=>i=W0.heap.size) W (W.putObj W0.heap.size (.deferred none)):=⟨rfl,rfl,rfl,b_,fun b _ hn=>ZT hn⟩;show LeavesInM Fence.wide 3 _ _ _ _ [{ target:=.collected W0.heap.size,args:=#[] }] (.panicking ch) W;refine⟨b_,.inl ⟨_,_,rfl,run_takeDeferred hD,?_⟩⟩;refine⟨hc.trans' hcp (fun _ _ h=>h) (fun i hi e=>a_),.inr ⟨ch,l',rfl,?_,by rw[<-(aA HG).2.2.2.1];exact h2,(aA HG).2.2.2.2.2.2.1.Ci _ _ _ _ _ _ h3 (hcp.mono fun i _ e=>S9 i a_ a_) hAX⟩⟩;rw[<-(aA HG).2.2.2.2.2.2.2.1];refine⟨(aA HG).2.1.trans (?_:lq <+: l'),h1.2.trans ?_⟩
     ·have:=ZG lq [(⟨4,0,F,strOf gB⟩:Acc)];rw[(aA HG).2.2.1] at this;exact this.trans h1.1
     ·rw[(aA HG).1];exact ZG _ _
def qh:bi:=118
theorem KP(b:Bool)(e:Int)(w:ae):mf prog 73 #[.bool b,.int .i64 e] w fun a c=>c=w/\((b=true/\a=.returned (.tuple #[]))\/(b=false/\a=.panicked (aGc qh e))):=by
 cases b
 ·go_enter func73,ntmps73
  go_wp2_with fail
  exact⟨rfl,rfl,.inr ⟨trivial,rfl⟩⟩
 ·go_enter func73,ntmps73
  go_wp2_with fail
  go_returns
  exact⟨rfl,.inl ⟨trivial,rfl⟩⟩
theorem KO{I:je}(b:Bool)(e:Int):Oy prog I qh 73 (gJ b e) [rf b,iy e] (fun _=>.og []):=by
 intro O l u g w k j H D C F d c n z a t r f m
 match j,m with
 |[x,y],⟨B,A,_⟩=>obtain rfl:x=.bool b:=RV.h_ B;obtain rfl:y=.int .i64 e:=RV.h_ A;refine (KP b e w).mono ?_;rintro G E ⟨rfl,⟨rfl,rfl⟩|⟨rfl,rfl⟩⟩;exact⟨gu.refl _ _,.inl ⟨_,rfl,.og rfl (fun i x h=>by cases h),(fun o s=>by cases s),(fun p q=>by cases q;exact a _ rfl)⟩⟩;refine⟨gu.refl _ _,.inr ⟨_,l++[sQ e],rfl,⟨QW l _,oG _⟩,g.2 l e,((c.fail qh (z ▸ g) l C _ (a _ rfl)).2 e)⟩⟩
def aUf:jl->Option (Prop×aj Unit×(Unit->PV))
 |[.w (.one (.lit (.bool b))),.w (.one (.lit (.int .i64 e)))]=>some (True,gJ b e,fun _=>.og [])|_=>none
theorem bFd{I:je}:d_ prog I 73 (aKv qh aUf):=
 aSy (aB func73 ah rfl) (fun a c p v h _=>by
  unfold aUf at h;split at h;cases h;exact KO _ _
  cases h)
end Pv
section
section
variable {P:dE} {ops:Array Oper} {md:Region.Mode} {Q:nz->Act->je}
end
end
section
section
variable {P:Nat->ag->Prop} {i1:Nat} {w0:ae} {ca ha:Array ag} {i:Nat} {v u:ag} {W W':ae} {L:Nat->Bool} {xs:Nat->ag}
end
end
section
section
variable {w0:ae} {gd gb:Nat} {wo:Int} {c:l9} {l1 l2:List UInt8} {bGR:Array ag} {i:Nat} {v u:ag} {W W':ae}
end
end
namespace Pv
def bCp(a:Nat):Spec:=fun _ c=>match c with
 |[.w (.agg [.bs 16 k]),.w (.one (.lit (.int .i64 n))),.w (.one (.lit (.string b)))]=>.need (ja n/\b.size<=a) (.ret (.w (.agg [.lit (.int .i64 n),.lit (.string (strOf (dW k n b.data.toList))),.bs 16 (Ai k n (dW k n b.data.toList))])))|_=>.fail
def opened(k:dh)(n:Int)(c:l9)(t:dh):Bool:=Ai k n c.data.toList==t
def bCq(a:Nat):Spec:=fun _ b=>match b with
 |[.w (.agg [.bs 16 k]),.w (.agg [.lit (.int .i64 n),.lit (.string c),.bs 16 t])]=>.need (ja n/\c.size<=a) (.ret (.og [.one (.lit (.string (bif opened k n c t then strOf (dW k n c.data.toList) else { data:=#[] }))),.one (.lit (.int .i64 (bif opened k n c t then 0 else 8)))]))|_=>.fail
theorem VN{C:Ctx}{n:Int}{c:l9}{t:dh}{v:ag}(h:RV C (.w (.agg [.lit (.int .i64 n),.lit (.string c),.bs 16 t])) v):t.length=16/\v=.agg (EL n c t):=by
 cases h with
 | w h=>cases h with
  | @agg _ g h=>
   generalize a:g.toList=q at h;cases h with
   | cons f h=>cases h with
    |cons e h=>cases f;cases e;obtain⟨d,b⟩:=h.Zq;refine⟨d,?_⟩;congr 1;apply GM;rw[a,b];rfl
theorem bCz{C:Ctx}{n:Int}{c:l9}{t:dh}(h:t.length=16):RV C (.w (.agg [.lit (.int .i64 n),.lit (.string c),.bs 16 t])) (.agg (EL n c t)):=
 .w (.agg (by
  have:=RL.cons (C:=C) (R.lit (v:=.int .i64 n) rfl) (RL.cons (R.lit (v:=.string c) rfl) (RL.cons (R.bs h) RL.nil))
  simpa[EL,I4] using this))
theorem Q_:d_ prog af 103 (bCp 100000):=by
 refine⟨aB func103 ah rfl,fun A s a w f z i g F h l j c=>?_⟩;unfold bCp at c;split at c;rotate_left;exact c.elim;rename_i k n b;obtain⟨⟨⟨u,t⟩,r⟩,c⟩:=c
 match g,j with
 |[B,y,v],⟨q,p,o,_⟩=>obtain rfl:=RV.h_ (show RV _ _ _ from p);obtain rfl:=RV.h_ (show RV _ _ _ from o);obtain⟨d,rfl⟩:=J8 q;refine (J4 k n b w (l.mem w h.iq) d u t r).mono ?_;rintro e x ⟨rfl,m⟩;exact .inl ⟨_,[],_,f,rfl,c,h.ext m,bCz (jV _ _ _)⟩
theorem Qg:d_ prog af 81 (bCq 100000):=by
 refine⟨aB func81 ah rfl,fun A s a w j G B z F h p C d=>?_⟩;unfold bCq at d;split at d;rotate_left;exact d.elim;rename_i k n c t;obtain⟨⟨⟨u,r⟩,q⟩,d⟩:=d
 match z,C with
 |[H,v],⟨E,D,_⟩=>
  obtain⟨g,rfl⟩:=J8 E;obtain⟨f,rfl⟩:=VN D;by_cases l:Ai k n c.data.toList=t;refine (Jk k n c t w (p.mem w h.iq) g f u r q l).mono ?_;rintro e y ⟨rfl,o⟩;refine .inl ⟨_,[],_,j,rfl,d,h.ext o,.og rfl (fun i x b=>?_)⟩;have m:opened k n c t=true:=by unfold opened;rw[l];simp
  rw[m] at b
  match i,b with
  |0,b=>cases b;exact⟨_,rfl,.one (.lit rfl)⟩|1,b=>cases b;exact⟨_,rfl,.one (.lit rfl)⟩|i+2,b=>cases b
  refine (Qh k n c t w (p.mem w h.iq) g f u r q l).mono ?_;rintro e y ⟨rfl,o⟩;refine .inl ⟨_,[],_,j,rfl,d,h.ext o,.og rfl (fun i x b=>?_)⟩;have m:opened k n c t=false:=by unfold opened;simpa using l
  rw[m] at b
  match i,b with
  |0,b=>cases b;exact⟨_,rfl,.one (.lit rfl)⟩|1,b=>cases b;exact⟨_,rfl,.one (.lit rfl)⟩|i+2,b=>cases b
@[simp] theorem Zn:prog.eqGuardType prog.depth 27=false:=ah
def aIo:List (Nat×Spec):=(103,bCp 100000)::(81,bCq 100000)::bFs
theorem aDc:∀ p∈aIo,d_ prog af p.1 p.2:=by intro p a;simp only[aIo,zg] at a;rcases a with rfl|rfl|a;exact Q_;exact Qg;exact aTj p a
theorem WZ:jq prog af (find aIo):=⟨bG aDc,dV⟩
structure jy where
 kind:Int
 root:dh
 id:dh
 link:dh
 payload:l9
 ot:dh
 ol:Int
 xt:dh
 xl:Int
 bn:Int
 bc:l9
 bt:dh
structure l_ where
 kind:Int
 level:Int
 ot:dh
 ol:Int
 payload:l9
structure kz where
 session:Int
 payload:l9
 ot:dh
 ol:Int
 xt:dh
 xl:Int
 bn:Int
 bc:l9
 bt:dh
 err:Int
def AO:dh:=PR 16 0
def G5:l_:=⟨0,0,AO,0,aG⟩
def ni:kz:=⟨0,aG,AO,0,AO,0,0,aG,AO,0⟩
def Ad(m:jy):dw:=[.lit (.int .i64 m.kind),.bs 16 m.root,.bs 16 m.id,.bs 16 m.link,.lit (.string m.payload),.bs 16 m.ot,.lit (.int .i64 m.ol),.bs 16 m.xt,.lit (.int .i64 m.xl),.lit (.int .i64 m.bn),.lit (.string m.bc),.bs 16 m.bt]
def ny(m:jy)(f:Int):dw:=[.lit (.int .i64 m.kind),.bs 16 m.root,.bs 16 m.id,.bs 16 m.link,.lit (.string m.payload),.bs 16 m.ot,.lit (.int .i64 m.ol),.bs 16 m.xt,.lit (.int .i64 m.xl),.lit (.int .i64 m.bn),.lit (.string m.bc),.bs 16 m.bt,.lit (.int .i64 f)]
def y9(r:l_):dw:=[.lit (.int .i64 r.kind),.lit (.int .i64 r.level),.bs 16 r.ot,.lit (.int .i64 r.ol),.lit (.string r.payload)]
def j_(o:kz):dw:=[.lit (.int .i64 o.session),.lit (.string o.payload),.bs 16 o.ot,.lit (.int .i64 o.ol),.bs 16 o.xt,.lit (.int .i64 o.xl),.lit (.int .i64 o.bn),.lit (.string o.bc),.bs 16 o.bt,.lit (.int .i64 o.err)]
def y_:bi:=122
def keyS(a t:dh)(l:Int):dh:=nH a [116,114,97,110,115,102,101,114] [t,eu l]
def aCE(k:dh)(n:Int)(b:dh):l9:=strOf (dW k n b)
def aCD(k:dh)(n:Int)(b:dh):dh:=Ai k n (dW k n b)
def gV(a:dh)(r:l_):kz:={ ni with xt:=r.ot,xl:=r.ol,bn:=r.ol,bc:=aCE (keyS a r.ot r.ol) r.ol r.payload.data.toList,bt:=aCD (keyS a r.ot r.ol) r.ol r.payload.data.toList }
theorem Rn(m:jy)(f:Int)(t:dh)(n:Int)(b:ja n)(hl:m.link.length=16)(e:t.length=16):wF prog af qh 82 y_ (ny m f) (.ret (keyS m.link t n)) [.w (.agg [.bs 16 t,.lit (.int .i64 n)])] (fun k=>.w (.agg [.bs 16 k])):=by intro O l _ _;have M:=WZ;have d:=aQ n;refine lK func82 rfl rfl (fun A g h=>?_);refine bY ?_ ?_;simp;exact⟨b,a_,g_,a_,a_⟩;refine bI (fun a w c=>⟨.inr rfl,_,⟨?_,⟨ny m f,rfl,dN rfl⟩,?_⟩,c⟩);rotate_left 1;rfl;refine aO (ai) b_ ai ai ?_;simp[keyS,go]
def DV:dw->Option (jy×Int)
 |[.lit (.int .i64 k),.bs 16 r,.bs 16 i,.bs 16 l,.lit (.string p),.bs 16 ot,.lit (.int .i64 ol),.bs 16 xt,.lit (.int .i64 xl),.lit (.int .i64 bn),.lit (.string bc),.bs 16 bt,.lit (.int .i64 f)]=>some (⟨k,r,i,l,p,ot,ol,xt,xl,bn,bc,bt⟩,f)|_=>none
theorem vZ{l:dw}{m:jy}{f:Int}(h:DV l=some (m,f)):l=ny m f:=by unfold DV at h;split at h;cases h;rfl;cases h
def aXh(l:dw)(ys:jl):Option (Prop×aj dh×(dh->PV)):=match DV l,ys with
 |some (m,_),[.w (.agg [.bs 16 t,.lit (.int .i64 n)])]=>some (ja n/\m.link.length=16/\t.length=16,.ret (keyS m.link t n),fun k=>.w (.agg [.bs 16 k]))|_,_=>none
theorem aWj:d_ prog af 82 (iI qh y_ aXh):=
 kM (aB func82 ah rfl) (fun l d c p v h a=>by
  unfold aXh at h;split at h;rename_i m f t n b;cases h;rw[vZ b];exact Rn m f t n a.1 a.2.1 a.2.2
  cases h)
def WL:List (Nat×Spec):=(82,iI qh y_ aXh)::aIo
theorem WO:∀ p∈WL,d_ prog af p.1 p.2:=by intro p a;simp only[WL,zg] at a;rcases a with rfl|a;exact aWj;exact aDc p a
theorem aMC:jq prog af (find WL):=⟨bG WO,dV⟩
theorem aNi(m:jy)(f:Int)(r:l_)(b:ja r.ol)(hl:m.link.length=16)(e:r.ot.length=16)(k:r.payload.size<=10000):wF prog af qh 80 y_ (ny m f) (.ret (gV m.link r)) [.w (.agg (y9 r))] (fun o=>.w (.agg (j_ o))):=by intro O l c d;have M:=aMC;refine lK func80 rfl rfl (fun A n p=>?_);refine bY ?_ ?_;simp;exact⟨⟨c,d,b,hl,e⟩,fun h j i _=>⟨j,i⟩,b,a_⟩;refine bI (fun a w g=>⟨.inr rfl,_,⟨?_,⟨ny m f,rfl,dN rfl⟩,?_⟩,g⟩);rotate_left 1;rfl;refine aO (ai) b_ ai ai ?_;rfl
end Pv
section
open Go.RowKit Go.Shelf
def bZ:Ren:=
{
 f:=fun x=>
  match x with
  |4=>177
  |n=>n,
 t:=fun x=>
  match x with
  |22=>74
  |25=>5
  |3=>3
  |4=>4
  |9=>9
  |20=>20
  |0=>0
  |n=>n,
 g:=fun x=>
  have n:=x;
  n }
theorem La:Lays8.n4 prog bZ:=
{mixed := Eq.refl true,
  f4:=
    Exists.intro "slices.Grow[[]byte,byte]"
      ⟨of_decide_eq_true (id (Eq.refl true)),
        Eq.trans func177
          (congrArg some
            (
             Eq.refl
             ({
              name := "slices.Grow[[]byte,byte]",origin:=(Body8.n4 bZ).origin,
              targs:=(Body8.n4 bZ).targs,params:=(Body8.n4 bZ).params,
              resultTypes:=(Body8.n4 bZ).resultTypes,nfree:=(Body8.n4 bZ).nfree,
              ntmps:=(Body8.n4 bZ).ntmps,results:=(Body8.n4 bZ).results,
              body:=(Body8.n4 bZ).body,norace:=(Body8.n4 bZ).norace,
              ours:=(Body8.n4 bZ).ours,file:=(Body8.n4 bZ).file,
              endLine := (Body8.n4 bZ).endLine, litNo := (Body8.n4 bZ).litNo,
              met:=(Body8.n4 bZ).met,tmpNames:=(Body8.n4 bZ).tmpNames }:Go.Func)))⟩,
  t0:=underlying0,a0:=isAgg0,z0:=sizeOf0,v0:=zeroValue0,t3:=underlying3,
  a3:=isAgg3,z3:=sizeOf3,v3:=zeroValue3,t4:=underlying4,a4:=isAgg4,
  z4:=sizeOf4,v4:=zeroValue4,t9:=underlying9,a9:=isAgg9,z9:=sizeOf9,
  v9:=zeroValue9,t20:=underlying20,a20:=isAgg20,z20:=sizeOf20,v20:=zeroValue20,
  t22:=underlying74,a22:=isAgg74,z22:=sizeOf74,v22:=zeroValue74 }
theorem aMt(z:kw)(n:Nat):(Builtin.zeroCells z n).size=n*z.size:=by unfold Builtin.zeroCells;simp
theorem MG(n:Nat)(w:ae)(hn:0<n)(hb:n<=1000000000000):mf prog 177 #[.slice none 0 0,.int .i64 n] w fun e b=>∃ c,e=.returned (.slice (some ⟨w.heap.size,0,none⟩) 0 c)/\b.ownsRow w.heap.size 5 1 (.slice (some ⟨w.heap.size,0,none⟩) 0 c) 0 []/\Ext w b:=by obtain⟨_,⟨g,z,k,i,j,f,d⟩,_,_⟩:=kW;refine (Any8.slices_Grow_grow La g z k i a_ none 0 0 n [] w (dC _) a_ (by rw[f];omega) a_ b_ (fun _=>rfl) (fun a h=>by cases h)).mono ?_;rintro e b ⟨rfl,rfl⟩;have m:=grownCap_ge w (0+n) 0 (bZ.t 25);have l:=grownCap_le_maxLen w (0+n) 0 (bZ.t 25) (by unfold maxLen;omega);refine⟨_,rfl,⟨b_,.inr ⟨w.heap.size,_,_,rfl,dC _,heap_alloc_new w.drew _,xn _,l,?_,b_⟩⟩,(Ext.refl w).drew.alloc _⟩;simp only[Array.size_append,aMt,d];simp;rw[ik] at m;omega
end
theorem aPt(a:List dh)(k:Nat)(h:k<a.length):(a.take (k+1)).flatten=(a.take k).flatten++a[k]:=by rw[aEd,zH h,List.flatten_append];simp
theorem bAf(a:List dh)(m:Nat)(h:∀ p∈a,p.length<=m):a.flatten.length<=a.length*m:=by
 induction a with
 |nil=>simp|cons p l b=>have e:=h p b_;have d:=b (fun q c=>h q (by simp[c]));rw[List.flatten_cons,gp,zl,aBu];omega
theorem aPs(a:List dh)(k:Nat):(a.take k).flatten.length<=a.flatten.length:=by have h:=congrArg (fun l=>l.flatten.length) (ZZ k a);simp only[List.flatten_append,gp] at h;omega
theorem Vg{w:ae}{B:Nat}{e:bi}{s:Nat}{v:ag}{n:Nat}{xs:ji}(h:w.ownsRow B e s v n xs):∀ g,v.ownBlock=some g->B<=g:=by intro g a;rcases h.2 with⟨rfl,rfl⟩|⟨c,cap,d,rfl,b,_⟩;simp[Value.ownBlock] at a;simp[Value.ownBlock] at a;omega
theorem bAs(pv:ag)(a:List dh)(w:ae)(J:Parts w pv a)(a0:a.length<=1000)(j:∀ p∈a,p.length<=1000000)(h0:0<a.flatten.length)(hS:∀ X,Ext w X->Parts X pv a) :
  mf prog 144 #[pv] w fun e S=>∃ A c,e=.returned (.slice A a.flatten.length c)/\S.ownsRow w.heap.size 5 1 (.slice A a.flatten.length c) a.flatten.length (a.flatten.map jk)/\Ext w S:=by
 have HP:=hide J;have HS:=hide hS;have O:=hide j;have D:=bAf a 1000000 j;have G:=hide (aPs a);obtain⟨A1,c1,rfl⟩:∃ A c,pv=.slice A a.length c:=by obtain⟨U,_,⟨_,A,c,h,_⟩,_⟩:=J;exact⟨A,c,h⟩
 obtain⟨T,L⟩:∃ T,T=a.flatten.length:=⟨_,rfl⟩;rw[<-L] at h0 D ⊢;have H:=hide L;clear J hS j L;have HG:=hide (fun (w:ae)=>MG T w h0 a_)
 go_enter func144,ntmps144
 go_wp2
 go_loopw [3,11] (fun b i wr=>∃ (k n:Nat),k<=a.length/\i=.int .i64 k/\b=.int .i64 n/\n<=T/\Hid (n=(a.take k).flatten.length)/\wr=w) (fun _ i _=>a.length-(intOf i).toNat)
 case atStart=>exact⟨0,0,xn _,rfl,rfl,xn _,hide b_,rfl⟩
 case round=>
  obtain⟨k,n,hk,rfl,rfl,hn,P,B⟩:=hrel;have z:=B.symm;clear B;subst z;by_cases d:k<a.length
  ·have g:Parts w (.slice A1 a.length c1) a:=aA HP;obtain⟨U,I,y,x⟩:=g;obtain⟨u,t,q⟩:=x k a[k] (zH d);obtain⟨b,o,c',u',r,_,_,hb,C,K⟩:=y.GV d;cases r;rw[t] at C;cases C;obtain⟨Au,cu,rfl⟩:∃ A c,u=.slice A a[k].length c:=by obtain⟨_,A,c,h,_⟩:=q;exact⟨A,c,h⟩
   have a1:=aA O a[k] (List.getElem_mem d);have s:=hide (aPt a k d);have l:=aA G (k+1);rw[aA s,gp,<-aA P,<-aA H] at l;clear I y x t q;generalize a[k]=p at *;have W:¬((n:Int)+(p.length:Int)<0):=a_
   go_wp2
   refine⟨⟨k+1,n+p.length,a_,by go_num,by go_num,a_,hide ?_,trivial⟩,by simp[intOf];omega⟩;rw[aA s,gp,<-aA P]
  ·obtain rfl:k=a.length:=a_;obtain rfl:n=T:=by rw[aA P,aA H,Zc]
   go_wp2_with (go_at_call 177;refine (aA HG _).mono ?_;rintro e w3 ⟨c3,rfl,E,F⟩;have H3:=hide (az E F);clear E F)
   go_loopw [6,27] (fun b i Q=>∃ (k m:Nat) (A:Option Addr) (c:Nat),k<=a.length/\i=.int .i64 k/\b=.slice A m c/\m<=n/\Hid (m=(a.take k).flatten.length/\Q.ownsRow w.heap.size 5 1 (.slice A m c) m ((a.take k).flatten.map jk)/\Ext w Q)) (fun _ i _=>a.length-(intOf i).toNat)
   case atStart=>exact⟨0,0,_,c3,xn _,rfl,rfl,xn _,hide ⟨b_,by simpa using (aA H3).1,(aA H3).2⟩⟩
   case round=>
    obtain⟨k,m,A,c,hk,rfl,rfl,hm,f⟩:=hrel;by_cases d:k<a.length
    ·have g:Parts wr (.slice A1 a.length c1) a:=aA HS wr (aA f).2.2;obtain⟨U,I,y,x⟩:=g;obtain⟨u,t,q⟩:=x k a[k] (zH d);obtain⟨b,o,c',u',r,_,_,hb,C,K⟩:=y.GV d;cases r;rw[t] at C;cases C;obtain⟨Au,cu,rfl⟩:∃ A c,u=.slice A a[k].length c:=by obtain⟨_,A,c,h,_⟩:=q;exact⟨A,c,h⟩
     have s:=hide (aPt a k d);have l:=aA G (k+1);rw[aA s,gp,<-(aA f).1,<-aA H] at l;have N:=hide q;clear I y x t q;generalize a[k]=p at *
     go_wp2_with (at_builtin;refine fE rfl rfl kW rfl (aA f).2.1 rfl (aA N) (fG.u8 _) a_ (aA f).2.2.size' ?_;intro A' c4 w4 V Y r;have H4:=hide (az V (Onto.FB (aA f).2.2 (Onto.app Y r) (Vg (aA f).2.1)));clear V Y r)
     go_roundw
     case rel=>refine⟨k+1,m+p.length,A',c4,a_,by go_num,rfl,a_,hide ⟨?_,?_,(aA H4).2⟩⟩;rw[aA s,gp,<-(aA f).1];rw[aA s,Z8];exact (aA H4).1
     case measure=>simp[intOf];omega
    ·obtain rfl:k=a.length:=a_
     go_wp2
     go_ret;obtain⟨h1,Z,h3⟩:=aA f;rw[Zc] at h1 Z
     obtain rfl:m=n:=by rw[h1,aA H]
     exact⟨A,c,rfl,Z,h3⟩
namespace Pv
def aKg:Spec:=fun a b=>match b with
 |[c]=>Hu c fun pl=>.need (pl.length<=1000/\(∀ p∈pl,p.length<=1000000)/\0<pl.flatten.length) (.new a (.arr 5 1 pl.flatten.length (su pl.flatten)) fun v=>.ret (dm (.ow a v 1 0 pl.flatten.length)))|_=>.fail
theorem bIi:d_ prog af 144 aKg:=by
 refine⟨aB func144 ah rfl,fun A s a w x l k j F h G m b=>?_⟩;unfold aKg at b;split at b;rotate_left;exact b.elim;rename_i E
 match j,m with
 |[pv],⟨u,_⟩=>obtain⟨pl,g,b⟩:=aRr h u b;obtain⟨⟨B,z,y⟩,b⟩:=b;refine (bAs pv pl w g B z y (fun X p=>g.ext p)).mono ?_;rintro e D ⟨H,c,rfl,n,q⟩;obtain⟨d,t,r⟩:=h.B_ l 5 1 pl.flatten.length (f:=su pl.flatten) q n (fun C i o=>nV C pl.flatten i o);exact .inl ⟨_,_,_,d,rfl,b,t,r⟩
def RD:List (Nat×Spec):=(144,aKg)::aIo
theorem L9:∀ p∈RD,d_ prog af p.1 p.2:=by intro p a;simp only[RD,zg] at a;rcases a with rfl|a;exact bIi;exact aDc p a
theorem aMB:jq prog af (find RD):=⟨bG L9,dV⟩
def iM(r:l_):dh:=eu r.kind++(eu r.level++(r.ot++(eu r.ol++bH r.payload.data.toList)))
def pY(root:dh):dh:=nH root [109,111,118,101] []
def gU(root:dh)(r:l_):dh:=eu r.level++(bH (dW (pY root) r.level (iM r))++Ai (pY root) r.level (dW (pY root) r.level (iM r)))
def gX(root:dh)(r:l_):l9:=strOf (gU root r)
theorem bFl(r:l_)(root:dh)(h1:ja r.kind)(h2:ja r.level)(h3:ja r.ol)(h4:r.ot.length=16)(h5:root.length=16)(g:r.payload.size<=10000):fF prog af 102 true [.w (.agg (y9 r)),.w (.agg [.bs 16 root])] (t_ (gX root r)):=by have M:=aMB;have f:=aQ r.kind;have e:=aQ r.level;have d:=aQ r.ol;have c:=jU r.payload.data.toList;have b:r.payload.data.toList.length=r.payload.size:=uA;refine bD func102 rfl rfl bJ (fun A i h j=>?_);refine bY ?_ ?_;simp;exact⟨h1,h2,h3,a_,⟨a_,a_,a_,a_,a_⟩,a_⟩;refine aH ?_ ?_;simp[↓eF];refine⟨⟨a_,g_⟩,h2,?_⟩;show (strOf _).size<=100000;rw[aW];simp;omega;refine aH ?_ ?_;have a:=jU (dW (nH root [109,111,118,101] []) r.level (iM r));rw[dA] at a;simp[iM] at a;simp[↓eF,aW,dI,dA,jV];exact⟨h2,a_⟩;refine kJ ?_;simp[↓eF,dI,gX,gU,iM,pY];rfl
def R_:List (Nat×Spec):=(138,Uw jO fun l=>yI (di l))::(139,Uw jO fun l=>Eo (jL l))::RD
theorem L8:∀ p∈R_,d_ prog af p.1 p.2:=by intro p a;simp only[R_,zg] at a;rcases a with rfl|rfl|a;exact rW (aB func138 ah rfl) aIu;exact rW (aB func139 ah rfl) aCh;exact L9 p a
theorem aDN:jq prog af (find R_):=⟨bG L8,dV⟩
inductive DX where
 |Dk|EI|okR (p:dh)
def DX.pv:DX->PV
 |.Dk=>.og [.one (.lit (.slice none 0 0)),.one (.lit (.bool false))]|.EI=>.og [.one (.sl 1 0 (su [])),.one (.lit (.bool false))]|.okR p=>.og [.one (.sl 1 p.length (su p)),.one (.lit (.bool true))]
def F9(root:dh)(q:Int)(c t:dh):DX:=if Ai (pY root) q c=t then .okR (dW (pY root) q c) else .EI
def wV(root b:dh):DX:=
 if (di b).2.2≠0 then .Dk else
  if (jL (b.drop (di b).2.1)).2.2≠0\/b.length≠(di b).2.1+(jL (b.drop (di b).2.1)).2.1+16 then .Dk else
   F9 root (di b).1 (jL (b.drop (di b).2.1)).1 (b.drop ((di b).2.1+(jL (b.drop (di b).2.1)).2.1))
theorem Jl(root:dh)(s:l9)(hr:root.length=16)(hs:s.size<=100000):fF prog af 136 false [.w (.agg [.bs 16 root]),t_ s] (wV root s.data.toList).pv:=by
 have M:=aDN;have D:s.data.toList.length=s.size:=uA;refine bD func136 rfl rfl bJ (fun A O L P=>?_);refine bY ?_ ?_;simp;omega;refine bM (⟨[(2,none,dm (.pt 0 0 0)),(6,none,r_ s.data.toList)],[(0,none,0,.box 23 [.bs 16 root])]⟩) ?_ ?_ ?_;refine .cr (.cons ?_ .nil);rw[<-D];exact BR;generalize s.data.toList=b at *;refine aH ?_ ?_;simp;show b.length<4611686018427387904;omega;refine bM (⟨[(2,none,dm (.pt 0 0 0)),(6,none,r_ b),(7,none,iy (di b).1),(8,none,iy ((di b).2.1:Int)),(9,none,iy (di b).2.2)],[(0,none,0,.box 23 [.bs 16 root])]⟩) ?_ ?_ ?_;rw[eF];exact jg;exact BR;have C:=qQ b;have l:=iR b;obtain⟨m,a⟩:=lm (wV root b);rw[a];unfold wV at a;generalize N:di b=g at *;obtain⟨q,k,e⟩:=g;dsimp only at *;refine bC (fun d=>?_) (fun d=>?_);refine eQ ?_;have h:e≠0:=by simpa using d
 rw[au h] at a;rw[<-a];rfl;have h:¬e≠0:=by simpa using d
 rw[ay h] at a;refine qM ?_ ?_;simp;refine⟨C.1,?_⟩;unfold jO;rw[dZ];omega;have r:(rowB ((b.length:Int)-(k:Int)).toNat fun i=>su b ((k:Int).toNat+i))=b.drop k:=by rw[show ((b.length:Int)-(k:Int)).toNat=b.length-k from a_,show (k:Int).toNat=k from a_,nR a_];exact YY (by rw[YO];exact dC _)
 have y:=nD (b.drop k);have o:=MN (b.drop k);rw[YO] at y o;refine bM (⟨[(2,none,dm (.pt 0 0 0)),(6,none,r_ b),(7,none,iy q),(8,none,iy (k:Int)),(9,none,iy (jL (b.drop k)).2.2),(10,none,t_ (strOf (jL (b.drop k)).1)),(11,none,iy ((jL (b.drop k)).2.1:Int))],[(0,none,0,.box 23 [.bs 16 root])]⟩) ?_ ?_ ?_;rw[r];exact jg;exact BR;generalize jL (b.drop k)=K at *;obtain⟨c,n,H⟩:=K;dsimp only at *;have f:IntKind.wrap .i64 ((k:Int)+(n:Int))=((k+n:Nat):Int):=by rw[TC];omega
 have I:IntKind.wrap .i64 (((k+n:Nat):Int)+16)=((k+n+16:Nat):Int):=by rw[TC];omega
 refine bC (fun d=>?_) (fun d=>?_);refine eQ ?_;simp[f] at d;have x:H≠0\/b.length≠k+n+16:=by rcases d with j|j;exact .inl j;refine .inr (fun G=>j ?_);rw[TC];omega
 rw[au x] at a;rw[<-a];rfl;refine jD ?_;simp[f] at d;have x:¬(H≠0\/b.length≠k+n+16):=by rintro (j|j);exact j d.1;have G:=d.2;rw[TC] at G;omega
 rw[ay x] at a;have E:b.length=k+n+16:=by by_cases F:b.length=k+n+16;exact F;exact absurd (.inr F) x
 have z:ja q:=l;refine aH ?_ ?_;simp;rw[f,aW];exact⟨⟨a_,g_⟩,⟨a_,a_⟩,⟨a_,a_⟩,a_,z,a_⟩;have p:(rowB 16 fun i=>su b ((IntKind.wrap .i64 ((k:Int)+(n:Int))).toNat+i))=b.drop (k+n):=by rw[f,WF,nR a_];exact YY (by rw[YO];omega)
 generalize b.drop (k+n)=t at *;refine bM (⟨[(9,none,iy (bif opened (pY root) q (strOf c) t then 0 else 8)),(12,none,t_ (bif opened (pY root) q (strOf c) t then strOf (dW (pY root) q (strOf c).data.toList) else { data:=#[] }))],[]⟩) ?_ ?_ ?_;rw[p];exact jg;exact .nil;unfold F9 at a;by_cases u:Ai (pY root) q c=t;have B:opened (pY root) q (strOf c) t=true:=by unfold opened;rw[dI,u];simp
 rw[B,dI];rw[au u] at a;have J:=dA (pY root) q c;generalize dW (pY root) q c=X at *;change jw _ _ ⟨[(9,none,iy 0),(12,none,t_ (strOf X))],[]⟩ _ _;refine aH ?_ ?_;simp;rw[aW];omega;refine kJ ?_;rw[<-a];show PV.og [.one (.sl 1 (strOf X).size (su (strOf X).data.toList)),_]=_;rw[aW,dI];rfl;have B:opened (pY root) q (strOf c) t=false:=by unfold opened;rw[dI];simpa using u
 rw[B];rw[ay u] at a;change jw _ _ ⟨[(9,none,iy 8),(12,none,t_ { data:=#[] })],[]⟩ _ _;refine aH ?_ ?_;simp;decide;refine kJ ?_;rw[<-a];rfl
theorem YC(x y:Nat)(t u:bi)(l d c m a:dw)(bl:Nat->Nat)(D:Dv):SX [⟨x,t,l,c⟩,⟨y,u,m,a⟩] bl D=SX [⟨x,t,d,c⟩,⟨y,u,m,a⟩] bl D:=by funext b;simp[SX]
theorem zh.cells2{P:dE}{I:je}{f:Nat}{new:Bool}{x y:Nat}{t u:bi}{l g b m d:dw}{O:qy}{dn:jc->Prop}{args:jl}{c:PV}
  (h:zh P I f new [⟨x,t,g,b⟩,⟨y,u,m,d⟩] O none dn args c) (hl:∀ C z,RL C l z->RL C g z):zh P I f new [⟨x,t,l,b⟩,⟨y,u,m,d⟩] O none dn args c:=by
 intro w j H bl D X0 G F h3 Z Y X W E V s;rw[YC x y t u l g b m d] at G F ⊢;refine (h w j H bl D X0 G F h3 Z Y X W (fun o a=>?_) (fun o a S r B=>?_) s).mono ?_;rcases List.mem_cons.1 a with rfl|a;obtain⟨q,cs,p,n⟩:=E _ MM
 exact⟨q,cs,p,hl _ _ n⟩;exact E _ (VM _ a)
 have e:∀ o:Ob,o∈[(⟨x,t,g,b⟩:Ob),⟨y,u,m,d⟩]->∃ k∈[(⟨x,t,l,b⟩:Ob),⟨y,u,m,d⟩],k.x=o.x:=fun o a=>by
  rcases List.mem_cons.1 a with rfl|a
  exact⟨_,MM,rfl⟩;exact⟨o,VM _ a,rfl⟩
 obtain⟨k,N,L⟩:=e o a;obtain⟨Q,K,J⟩:=e S r;rw[<-L,<-J] at B ⊢;exact V k N Q K B;rintro e w' ⟨q,p⟩;refine⟨q,p.imp (fun⟨i,n,U,A,T⟩=>⟨i,n,U,fun o a=>?_,T⟩) id⟩;rcases List.mem_cons.1 a with rfl|a;exact A ⟨x,t,g,b⟩ MM;exact A o (VM _ a)
def UX(L:dh)(ok:Bool):List Ob:=[⟨px,74,[.sl 1 L.length (su L)],[.sl 1 (L.drop (di L).2.1).length (su (L.drop (di L).2.1))]⟩,⟨px+1,4,[.lit (.bool ok)],[.lit (.bool (ok&&(di L).2.2==0))]⟩]
theorem aNz{L:dh}{k:Nat}(h:k<=L.length):PC.sl 1 ((L.length:Int)-(k:Int)).toNat (fun i=>su L ((k:Int).toNat+i))=.sl 1 (L.drop k).length (su (L.drop k)):=by rw[WF,OE,YO];congr 1;omega
theorem Jz(L:dh)(ok:Bool)(f:jO L):zh prog af 137 false (UX L ok) (fun _=>none) none (fun _=>False) [dm (.pt px 0 0),dm (.pt (px+1) 0 0)] (iy (di L).1):=by
 have M:=aDN;have b:=qQ L;refine kR func137 rfl rfl ai (fun A g h=>?_);refine bY ?_ ?_;simp;exact f;refine aN ?_;refine bM (⟨[(0,none,dm (.pt px 0 0)),(3,none,iy (di L).1),(4,none,iy ((di L).2.1:Int))],[(px,none,0,.box 74 [.sl 1 L.length (su L)]),(px+1,none,0,.box 4 [.lit (.bool (ok&&(di L).2.2==0))])]⟩) ?_ ?_ ?_;rw[eF];exact jg
 ·refine .cb (.cons (.box ?_) .nil);rw[eF]
  cases ok<;>rfl
 refine aH ?_ ?_;simp;exact b.1;refine aN ?_;refine bI (fun a w e=>⟨.inr rfl,_,⟨?_,fun o c=>?_,fun p d=>by cases d⟩,e⟩);rotate_left 1;simp only[UX,zg,YP,or_false] at c;rcases c with rfl|rfl
 refine⟨_,rfl,?_⟩;rw[aNz b.1];exact dN rfl;exact⟨_,rfl,dN rfl⟩;refine aO (ai) b_ ai ai ?_;rfl
def FI(i:Nat):PV->Bool
 |.w (.one (.pt x v o))=>bu x (px+i)&&(bu v 0&&bu o 0)|_=>false
theorem aWm{i:Nat}{v:PV}(h:FI i v=true):v=dm (.pt (px+i) 0 0):=by unfold FI at h;split at h;rw[Bool.and_eq_true,Bool.and_eq_true] at h;rw[ig h.1,ig h.2.1,ig h.2.2];cases h
def UB:Spec:=aWc fun c a=>match c,a with
 |[(t0,[.sl k len f]),(t1,[.lit (.bool ok)])],[b,p1]=>
  (match bu t0 74&&(bu t1 4&&(bu k 1&&(FI 0 b&&FI 1 p1))) with
  |true=>some (FX len f/\jO (rowB len f),[[.sl 1 ((rowB len f).drop (di (rowB len f)).2.1).length (su ((rowB len f).drop (di (rowB len f)).2.1))],[.lit (.bool (ok&&(di (rowB len f)).2.2==0))]],iy (di (rowB len f)).1)|false=>none)
 |_,_=>none
theorem Vz:d_ prog af 137 UB:=by
 refine aOq (aB func137 ah rfl) (fun l y p H r b e d=>?_);split at b;rename_i B k len f A ok E D a;split at b;rename_i g;simp only[Bool.and_eq_true] at g;obtain⟨x,w,u,j,i⟩:=g;cases b
 match l,a with
 | [G,F],a=>
  simp only[DD,List.map_nil,List.cons.injEq,Prod.mk.injEq,and_true] at a;obtain⟨⟨q,n⟩,⟨c,m⟩⟩:=a;have t:=ig x;have s:=ig w;obtain rfl:=ig u;have:=Jz (rowB len f) ok d.2;unfold Gg Gg Gg;rw[aWm j,aWm i,q,c,t,s,n,m];refine zh.cells2 this (fun C z h=>?_);cases h with
  |cons c o=>refine .cons ?_ o;rw[dZ];exact c.Ar (bIs d.1)
 cases b;cases b
def UA(R:DX):Spec:=aU false fun a=>match a with
 |[.w (.agg [.bs 16 root]),.w (.one (.lit (.string s)))]=>some (root.length=16/\s.size<=100000/\wV root s.data.toList=R,R.pv)|_=>none
theorem Vk(R:DX):d_ prog af 136 (UA R):=by refine aT (aB func136 ah rfl) (fun c p r b a=>?_);split at b;cases b;have:=Jl _ _ a.1 a.2.1;rw[a.2.2] at this;exact this;cases b
def Un:dw->Option l_
 |[.lit (.int .i64 k),.lit (.int .i64 l),.bs 16 t,.lit (.int .i64 n),.lit (.string p)]=>some ⟨k,l,t,n,p⟩|_=>none
theorem aMl{l:dw}{r:l_}(h:Un l=some r):l=y9 r:=by unfold Un at h;split at h;cases h;rfl;cases h
structure D9(r:l_):Prop where
 kind:ja r.kind
 level:ja r.level
 ol:ja r.ol
 ot:r.ot.length=16
 payload:r.payload.size<=10000
def bCs:Spec:=aU true fun a=>match a with
 |[.w (.agg l),.w (.agg [.bs 16 root])]=>(match Un l with
  |some r=>some (D9 r/\root.length=16,t_ (gX root r))|none=>none)
 |_=>none
theorem bFq:d_ prog af 102 bCs:=by
 refine aT (aB func102 ah rfl) (fun e p r b a=>?_);split at b;rename_i l c;cases d:Un l with
 |none=>rw[d] at b;cases b|some q=>rw[d] at b;cases b;rw[aMl d];exact bFl q c a.1.kind a.1.level a.1.ol a.1.ot a.2 a.1.payload
 cases b
def WJ(R:DX):List (Nat×Spec):=(137,UB)::(136,UA R)::(102,bCs)::R_
theorem WN(R:DX):∀ p∈WJ R,d_ prog af p.1 p.2:=by intro p a;simp only[WJ,zg] at a;rcases a with rfl|rfl|rfl|a;exact Vz;exact Vk R;exact bFq;exact L8 p a
theorem aMA(R:DX):jq prog af (find (WJ R)):=⟨bG (WN R),dV⟩
def WE(root:dh)(s:l9)(b a:Int)(r:l_):l_×Bool:=(r,decide (b=0/\a=0/\(r.kind=1\/r.kind=2)/\0<=r.level/\r.level<=16/\gX root r=s))
def WG(root:dh)(s:l9)(b:Bool)(d c:Int)(a:dh):l_×Bool:=
 if b=false\/a.length<16 then (G5,false) else
  WE root s (di (a.drop 16)).2.2 (jL ((a.drop 16).drop (di (a.drop 16)).2.1)).2.2 ⟨d,c,a.take 16,(di (a.drop 16)).1,strOf (jL ((a.drop 16).drop (di (a.drop 16)).2.1)).1⟩
def P7(root:dh)(s:l9):DX->l_×Bool
 |.Dk=>(G5,false)|.EI=>(G5,false)|.okR p=>WG root s ((true&&(di p).2.2==0)&&(di (p.drop (di p).2.1)).2.2==0) (di p).1 (di (p.drop (di p).2.1)).1 ((p.drop (di p).2.1).drop (di (p.drop (di p).2.1)).2.1)
def Ul(d:l_×Bool):PV:=.og [.agg (y9 d.1),.one (.lit (.bool d.2))]
theorem aFd{root b p:dh}(h:wV root b=.okR p):p.length<=b.length:=by have a:=nD (b.drop (di b).2.1);rw[YO] at a;unfold wV at h;split at h;cases h;split at h;cases h;unfold F9 at h;split at h;cases h;rw[dA];omega;cases h
theorem bFm(root:dh)(s:l9)(hr:root.length=16)(hs:s.size<=5000):fF prog af 99 true [.w (.agg [.bs 16 root]),t_ s] (Ul (P7 root s (wV root s.data.toList))):=by
 obtain⟨R,u⟩:=lm (wV root s.data.toList);rw[u];have M:=aMA R;refine bD func99 rfl rfl bJ (fun A hS hn hI=>?_);refine aN ?_;cases R with
 |Dk=>refine aH ?_ ?_;simp;exact⟨hr,a_,u⟩;refine bC (fun j=>?_) (fun j=>?_);refine aN ?_;exact mP;cases j|EI=>refine aH ?_ ?_;simp;exact⟨hr,a_,u⟩;refine bC (fun j=>?_) (fun j=>?_);refine aN ?_;exact mP;cases j| okR p=>
  refine aH ?_ ?_;simp;exact⟨hr,a_,u⟩;refine bC (fun j=>?_) (fun j=>?_);cases j;refine iK ?_;have I:=aFd u;rw[show s.data.toList.length=s.size from uA] at I;have P:=qQ p;have C:=iR p;refine aH ?_ ?_;simp;unfold jO;rw[dZ];omega;obtain⟨e,n⟩:=lm ((p.drop (di p).2.1).drop (di (p.drop (di p).2.1)).2.1);obtain⟨f,l⟩:=lm (((true&&(di p).2.2==0)&&(di (p.drop (di p).2.1)).2.2==0))
  refine bF (s':=⟨[(1,none,t_ s),(2,none,dm (.pt 0 0 0)),(4,none,dm (.pt 1 0 0)),(5,none,dm (.pt 2 0 0)),(6,none,dm (.pt 1006 0 0)),(7,none,dm (.fn (.func 137) [] [.pt 1006 0 0,.pt 2 0 0]))],
   [(0,none,0,.box 23 [.bs 16 root]),(1,none,0,.box 149 (y9 ⟨(di p).1,(di (p.drop (di p).2.1)).1,AO,0,aG⟩)),(2,none,0,.box 4 [.lit (.bool f)]),(1006,none,0,.box 74 [.sl 1 e.length (su e)])]⟩) (fun a w r=>(r.reset (kT:=[1,2,4,5,6,7]) (kO:=[0,1,2,1006]) ai b_).same ?_ ?_) ?_
  exact jg;refine .cb (.cons (.box ?_) (.cons (.box ?_) (.cons (.box ?_) .nil)));simp only[eF];rfl;simp only[eF];rw[<-l];simp only[eF];rw[<-n];have B:=iR (p.drop (di p).2.1);have N:e.length<=p.length:=by rw[<-n,YO,YO];omega
  obtain⟨d,o⟩:=lm (P7 root s (.okR p));rw[o];unfold P7 at o;dsimp only at o;rw[n,l] at o;unfold WG at o;generalize (di p).1=y at *;generalize (di (p.drop (di p).2.1)).1=x at *;clear n l u;refine bC (fun j=>?_) (fun j=>?_);refine eQ ?_;have h:f=false\/e.length<16:=by cases f;exact .inl rfl;simp at j;exact .inr a_
  rw[au h] at o;rw[<-o];rfl;refine jD ?_;have h:¬(f=false\/e.length<16):=by cases f;cases j;simp at j;intro h;rcases h with h|h;cases h;omega
  have J:16<=e.length:=by rcases Yk e.length 16 with D|D;exact absurd (.inr D) h;exact D
  obtain rfl:f=true:=by cases f;exact absurd (.inl rfl) h;rfl
  rw[ay h] at o;refine aH ?_ ?_;simp;omega
  refine bF (s':=⟨[(1,none,t_ s),(2,none,dm (.pt 0 0 0)),(4,none,dm (.pt 1 0 0)),(5,none,dm (.pt 2 0 0)),(6,none,dm (.pt 1006 0 0)),(7,none,dm (.fn (.func 137) [] [.pt 1006 0 0,.pt 2 0 0]))],
   [(0,none,0,.box 23 [.bs 16 root]),(1,none,0,.box 149 (y9 ⟨y,x,e.take 16,0,aG⟩)),(2,none,0,.box 4 [.lit (.bool true)]),(1006,none,0,.box 74 [.sl 1 (e.drop 16).length (su (e.drop 16))])]⟩) (fun a w r=>(r.reset (kT:=[1,2,4,5,6,7]) (kO:=[0,1,2,1006]) ai b_).same ?_ ?_) ?_
  exact jg;refine .cb (.cons (.box ?_) (.cb (.cons (.box ?_) .nil)));rw[show (rowB 16 fun i=>su e (Int.toNat 0+i))=e.take 16 from (nR (L:=e) (k:=0) (m:=16) a_).trans (by rw[Yh])];rfl;exact congrArg (fun c=>[c]) (aNz J);have S:(e.drop 16).length<=e.length:=by rw[YO];omega
  have H:(e.take 16).length=16:=by rw[xe];omega
  generalize e.drop 16=g at *;generalize e.take 16=t at *;have O:=qQ g;have z:=iR g;refine aH ?_ ?_;simp;unfold jO;omega;have Q:(g.drop (di g).2.1).length<=g.length:=by rw[YO];omega
  refine bF (s':=⟨[(1,none,t_ s),(2,none,dm (.pt 0 0 0)),(4,none,dm (.pt 1 0 0)),(5,none,dm (.pt 2 0 0)),(6,none,dm (.pt 1006 0 0))],
   [(0,none,0,.box 23 [.bs 16 root]),(1,none,0,.box 149 (y9 ⟨y,x,t,(di g).1,aG⟩)),(2,none,0,.box 4 [.lit (.bool ((di g).2.2==0))]),(1006,none,0,.box 74 [.sl 1 (g.drop (di g).2.1).length (su (g.drop (di g).2.1))])]⟩) (fun a w r=>(r.reset (kT:=[1,2,4,5,6]) (kO:=[0,1,2,1006]) ai b_).same ?_ ?_) ?_
  exact jg;refine .cb (.cons (.box ?_) (.cons (.box ?_) (.cons (.box ?_) .nil)));simp only[eF];rfl;simp only[eF];rfl;simp only[eF];generalize g.drop (di g).2.1=F at *;generalize di g=X at *;obtain⟨G,u3,Y⟩:=X;dsimp only at *;have K:=nD F;refine aH ?_ ?_;simp;unfold jO;omega
  refine bF (s':=⟨[(1,none,t_ s),(2,none,dm (.pt 0 0 0)),(4,none,dm (.pt 1 0 0)),(5,none,dm (.pt 2 0 0)),(8,none,t_ (strOf (jL F).1)),(10,none,iy (jL F).2.2)],
   [(0,none,0,.box 23 [.bs 16 root]),(1,none,0,.box 149 (y9 ⟨y,x,t,G,aG⟩)),(2,none,0,.box 4 [.lit (.bool (Y==0))])]⟩) (fun a w r=>(r.reset (kT:=[1,2,4,5,8,10]) (kO:=[0,1,2]) ai b_).same ?_ ?_) ?_
  rw[eF];exact jg;exact BR;generalize jL F=W at *;obtain⟨q,Z,e4⟩:=W;dsimp only at *;refine bY ?_ ?_;simp;exact⟨fun V D U=>⟨⟨V,D⟩,U⟩,fun _ _ _ _ _=>⟨⟨C,B,z,H,by show (strOf q).size<=10000;rw[aW];omega⟩,hr⟩⟩;refine eQ ?_;rw[<-o];refine congrArg (fun b=>PV.og [.agg (y9 ⟨y,x,t,G,strOf q⟩),.one (.lit (.bool b))]) ?_;unfold WE;dsimp only;generalize gX root ⟨y,x,t,G,strOf q⟩=E;have T:E.toList=s.toList↔E=s:=by rw[ByteArray.toList_eq,ByteArray.toList_eq];exact⟨fun h=>ByteArray.ext (GM h),fun h=>by rw[h]⟩
  rw[Bool.eq_iff_iff];simp[and_assoc,T]
theorem noM{I:je}:jq prog I (find ([]:List (Nat×Spec))):=⟨fun f a h=>(by cases h),ah⟩
theorem MP{I:je}(b c:Int):DJ prog I 108 (aj.Bv b c) [.w (.one .dv),iy b,iy c] iy:=by intro O l;have M:=noM (I:=I);refine kR func108 rfl rfl rfl (fun A g h=>?_);refine bY ?_ ?_;exact⟨aKw (oG _) (oG _),trivial⟩;refine bI (fun a w f=>⟨.inr rfl,_,⟨?_,(fun o e=>by cases e),fun p d=>?_⟩,f⟩);rotate_left 1;cases d;rfl;refine aO (ai) b_ ai ai ?_;rfl
theorem bEa{I:je}(b c:Int):DJ prog I 110 (aj.AQ b c) [.w (.one .dv),iy b,iy c] (fun _=>.og []):=by intro O l;have M:=noM (I:=I);refine kR func110 rfl rfl rfl (fun A f h=>?_);refine aX M h f (ai) ah ?_ ?_;exact⟨aKw (oG _) (oG _),trivial⟩;intro a w g;refine⟨.inl rfl,_,⟨?_,(fun o e=>by cases e),fun p d=>?_⟩,g⟩;rotate_left 1;cases d;rfl;refine aO (ai) b_ ai ai ?_;rfl
def Np(p:Int->Int->aj Int):jl->Option (Prop×aj Int×(Int->PV))
 |[.w (.one (.lit (.int .i64 b))),.w (.one (.lit (.int .i64 c)))]=>some (True,p b c,iy)|_=>none
def GI(p:Int->Int->aj Unit)(q:Int->Int->Prop):jl->Option (Prop×aj Unit×(Unit->PV))
 |[.w (.one (.lit (.int .i64 b))),.w (.one (.lit (.int .i64 c)))]=>some (q b c,p b c,fun _=>.og [])|_=>none
theorem bGr{I:je}:d_ prog I 108 (lZ (Np aj.Bv)):=
 oL (aB func108 ah rfl) (fun a c p v h _=>by
  unfold Np at h;split at h;cases h;exact MP _ _
  cases h)
theorem aZg{I:je}:d_ prog I 110 (lZ (GI aj.AQ fun _ _=>True)):=
 oL (aB func110 ah rfl) (fun a c p v h _=>by
  unfold GI at h;split at h;cases h;exact bEa _ _
  cases h)
theorem aOt(l:List Int)(x:Int):nonzero (l++[x])=nonzero l+if x=0 then 0 else 1:=by
 unfold nonzero;rw[List.filter_append,gp]
 by_cases h:x=0<;>simp[h]
theorem aIn(l:List Int):nonzero l<=l.length:=List.length_filter_le _ _
theorem aOs{l:List Int}{k:Nat}(h:k<l.length):nonzero (l.take (k+1))=nonzero (l.take k)+if l.getD k 0=0 then 0 else 1:=by rw[aEd,zH h,zG,zH h];exact aOt _ _
theorem bBd{k:Nat}{f g:Nat->dw}(h1:∀ i,i<k->(f i).all (aY false)=true)(h2:(g 0).all (aY false)=true):∀ i,i<k+1->(uh k f g i).all (aY false)=true:=fun i a=>by unfold uh;by_cases h:i<k;rw[au h];exact h1 i h;obtain rfl:i=k:=a_;rw[ay h,Yf];exact h2
def aDL(l:List Int)(k:Nat):St:=⟨[(0,none,dm (.sl 1 l.length (Dp l))),(3,none,iy (nonzero (l.take k))),(6,none,dm (.sl 1 l.length (Dp l))),(7,none,iy l.length),(8,none,iy k)],[]⟩
theorem RH{I:je}(m:∀ w n,Ext w n->I w->I n)(l:List Int)(hl:l.length<=1000):fF prog I 109 true [dm (.sl 1 l.length (Dp l))] (rf (pK l)):=by
 have M:=noM (I:=I);refine bD func109 rfl rfl m (fun A r p t=>?_);refine mQ ?_;refine lM ?_;refine aS ?_;refine aHz (aDL l 0) ?_;refine fJ l.length (fun k s=>s=aDL l k) 0 rfl a_ (fun k s o q=>?_);subst o;refine nZ ?_;refine dU (fun b=>?_) (fun b=>?_);have i:k<l.length:=by simpa using b
 have d:=aOs i;have c:=aIn (l.take k);rw[xe] at c;refine jM ?_;refine aS ?_;refine aH ?_ ?_;simp;omega;refine lQ (fun b=>?_) (fun b=>?_);have f:¬l.getD k 0=0:=by have h:(l.getD k 0 != 0)=true:=b;simpa using h
 refine oQ ?_;refine fP ?_;intro a w j;refine⟨k+1,_,a_,a_,rfl,(j.reset (kT:=[0,3,6,7,8]) (kO:=[]) ai b_).same ?_ ?_⟩;refine .cr (.cons ?_ (.cr (.cr (.cons (by rw[fH k a_]) .nil))));rw[fH _ a_,d,ay f];exact .nil;have f:l.getD k 0=0:=by have h:(l.getD k 0 != 0)=false:=b;simpa using h
 refine jD ?_;refine fP ?_;intro a w j;refine⟨k+1,_,a_,a_,rfl,(j.reset (kT:=[0,3,6,7,8]) (kO:=[]) ai b_).same ?_ ?_⟩;refine .cr (.cons ?_ (.cr (.cr (.cons (by rw[fH k a_]) .nil))));rw[d,au f,ZA];exact .nil
 have g:k=l.length:=by
  have:¬k<l.length:=by simpa using b
  omega
 subst g;have c:=aIn l;refine dY ?_;change jw _ _ _ _ _;refine eQ ?_;refine congrArg rf ?_;rw[Zc];unfold pK;have e:IntKind.wrap .i64 (2*(nonzero l:Int))=2*(nonzero l:Int):=by rw[TC];omega
 have u:∀ x:Int,decide (x > (l.length:Int))=decide ((l.length:Int)<x):=fun x=>rfl;refine decide_eq_decide.2 ?_;show IntKind.wrap .i64 (2*(nonzero l:Int)) > (l.length:Int)↔_;rw[e];omega
def WR:jl->Option (Prop×PV)
 |[.w (.one (.sl 1 n f))]=>some (aMr n f/\n<=1000,rf (pK (V4 n f)))|_=>none
theorem LD{I:je}(c:∀ w d,Ext w d->I w->I d):d_ prog I 109 (aU true WR):=by
 refine aT (aB func109 ah rfl) (fun k p r a e=>?_);unfold WR at a;split at a;rename_i n f;cases a;have h:=RH c (V4 n f) (by rw[zS];exact e.2);rw[zS] at h;intro w b g j i
 match g,i with
 |[v],⟨k1,_⟩=>exact h w b [v] j ⟨.w (.one (k1.inv.Ar (Lp e.1))),trivial⟩
 cases a
def CQ:List (Nat×Spec):=[(108,lZ (Np aj.Bv)),(110,lZ (GI aj.AQ fun _ _=>True)),(109,aU true WR)]
theorem UQ{I:je}(a:∀ w b,Ext w b->I w->I b):∀ p∈CQ,d_ prog I p.1 p.2:=by intro p c;simp only[CQ,zg,YP,or_false] at c;rcases c with rfl|rfl|rfl;exact bGr;exact aZg;exact LD a
theorem rdM{I:je}(a:∀ w b,Ext w b->I w->I b):jq prog I (find CQ):=⟨bG (UQ a),dV⟩
def Oz(a b c:Int)(l:jc):Nat->jc
 |0=>l|k+1=>Oz a b c l k++[⟨a,b,3*c+k,aG⟩]
def rdV(O:qy)(b c:Int)(l:jc)(k:Nat):Int:=(ans O (Oz 1 b c l (k+1))).val
def Vb(O:qy)(b c:Int)(l:jc):List Int:=[rdV O b c l 0,rdV O b c l 1,rdV O b c l 2]
theorem SA(O:qy)(b c:Int)(l:jc):go O (aj.read b c) l=(pK (Vb O b c l),Oz 1 b c l 3):=rfl
theorem aDa(a b c:Int)(l:jc)(k:Nat):Oz a b c l k <+: Oz a b c l (k+1):=ZG _ _
theorem bDt(a b c:Int)(l:jc):∀ k,l <+: Oz a b c l k
 |0=>aAf _|k+1=>(bDt a b c l k).trans (aDa a b c l k)
theorem JS(a b c:Int)(l:jc){k:Nat}(d:k<3):Oz a b c l (k+1) <+: Oz a b c l 3:=by
 match k,d with
 |0,_=>exact (aDa _ _ _ _ 1).trans (aDa _ _ _ _ 2)|1,_=>exact aDa _ _ _ _ 2|2,_=>exact aAf _
theorem U7{c:Int}{k:Nat}(hc:0<=c/\c<=100000)(a:k<3):IntKind.wrap .i64 (IntKind.wrap .i64 (3*c)+(k:Int))=3*c+k:=by rw[TC,TC];omega
def aCS(O:qy)(dn:jc->Prop)(b c:Int)(l:jc)(k:Nat):St:=⟨[(0,none,.w (.one .dv)),(1,none,iy b),(2,none,iy c),(7,none,dm (.ow 5009 0 1 0 k)),(9,none,iy k)],
 [(dx,none,0,.dev O dn (Oz 1 b c l k)),(5009,none,0,.arr 3 1 k (Dp (Vb O b c l)))]⟩
theorem JP{I:je}(y:∀ w z,Ext w z->I w->I z)(b c:Int)(u:0<=c/\c<=100000):DJ prog I 83 (aj.read b c) [.w (.one .dv),iy b,iy c] rf:=by
 intro O l;have M:=rdM y;have r:prog.types[3].bytes=8:=ah;have D:prog.types[3].size=1:=ah;refine kR func83 rfl rfl rfl (fun A G J=>?_);generalize f:(fun h=>l <+: h/\h <+: (go O (aj.read b c) l).2)=dn;refine mQ ?_;refine lM ?_;refine aS ?_;refine bF (s':=aCS O dn b c l 0) (fun a w g=>((g.nilRow (x:=5009) (e:=3) (n:=1) (t:=7) ai ai).reset (kT:=[0,1,2,7,9]) (kO:=[900000,5009]) ai b_).same ?_ ?_) ?_;exact jg;exact .cons (.dev rfl) (.cons (.arr rfl (fun i B=>a_)) .nil);refine fJ 3 (fun k s=>s=aCS O dn b c l k) 0 rfl a_ (fun k s H L=>?_);subst H;refine nZ ?_;refine dU (fun q=>?_) (fun q=>?_);have d:k<3:=by have:=of_decide_eq_true q;omega
 have j:=U7 u d;refine jM ?_;refine aS ?_;refine aN ?_;refine aX M J G (ai) ah ?_ ?_;simp;refine⟨fun h K C _=>?_,by rw[r];omega⟩;rw[j] at C;rw[<-f];exact⟨(bDt 1 b c l k).trans K,C.trans (JS 1 b c l d)⟩;change jw _ _ _ _ _;refine fP ?_;intro a w g;refine⟨k+1,_,a_,a_,rfl,(g.reset (kT:=[0,1,2,7,9]) (kO:=[900000,5009]) ai ?_).same ?_ ?_⟩;simp only[All,and_true,Lt,Ha];exact bBd (fun i B=>rfl) rfl;exact .cr (.cr (.cr (.cr (.cons (by rw[fH k a_]) .nil))));refine .cons (.dev ?_) (.cons (.arr rfl (aXu (fun i B=>rfl) ?_)) .nil);rw[j];rfl;rw[j]
 match k,d with
 |0,_=>rfl|1,_=>rfl|2,_=>rfl
 ·have m:k=3:=by
   have:=of_decide_eq_false q;omega
  subst m;refine dY ?_;change jw _ _ _ _ _;refine aH ?_ ?_;simp;exact fun i _=>wK rfl;refine bI (fun a w g=>⟨.inr rfl,_,⟨?_,(fun o F=>by cases F),fun p E=>?_⟩,g⟩);rotate_left 1;cases E;rfl;refine aO (ai) b_ ai ai ?_;rw[SA];have:=aSj (Vb O b c l);simp only[ik];exact congrArg (fun x=>rf (pK x)) this
def aCX(O:qy)(dn:jc->Prop)(b c:Int)(l:jc)(k:Nat):St:=⟨[(0,none,.w (.one .dv)),(1,none,iy b),(2,none,iy c),(7,none,iy k)],[(dx,none,0,.dev O dn (Oz 2 b c l k))]⟩
theorem aZe{I:je}(m:∀ w n,Ext w n->I w->I n)(b c:Int)(j:0<=c/\c<=100000):DJ prog I 84 (aj.tq b c) [.w (.one .dv),iy b,iy c] (fun _=>.og []):=by
 intro O l;have M:=rdM m;refine kR func84 rfl rfl rfl (fun A x z=>?_);generalize d:(fun h=>l <+: h/\h <+: (go O (aj.tq b c) l).2)=dn;refine aN ?_;refine aS ?_;refine bM (aCX O dn b c l 0) ?_ ?_ ?_;exact jg;exact .cons (.dev rfl) .nil;refine fJ 3 (fun k s=>s=aCX O dn b c l k) 0 rfl a_ (fun k s y C=>?_);subst y;refine nZ ?_;refine dU (fun i=>?_) (fun i=>?_);have e:k<3:=by have:=of_decide_eq_true i;omega
 have q:=U7 j e;refine jM ?_;refine aS ?_;refine aN ?_;refine aX M z x (ai) ah ?_ ?_;simp;refine fun h B r _=>?_;rw[q] at r;rw[<-d];exact⟨(bDt 2 b c l k).trans B,r.trans (JS 2 b c l e)⟩;change jw _ _ _ _ _;refine fP ?_;intro a w g;refine⟨k+1,_,a_,a_,rfl,(g.reset (kT:=[0,1,2,7]) (kO:=[900000]) ai b_).same ?_ ?_⟩;exact .cr (.cr (.cr (.cons (by rw[fH k a_]) .nil)));refine .cons (.dev ?_) .nil;rw[q];rfl
 ·have f:k=3:=by
   have:=of_decide_eq_false i;omega
  subst f;refine dY ?_;change YM _ _ _;intro a w g;refine⟨.inl rfl,_,⟨?_,(fun o u=>by cases u),fun p t=>?_⟩,g⟩;rotate_left 1;cases t;rfl;refine aO (ai) b_ ai ai ?_;rfl
def XR:jl->Option (Prop×aj Bool×(Bool->PV))
 |[.w (.one (.lit (.int .i64 b))),.w (.one (.lit (.int .i64 c)))]=>some (0<=c/\c<=100000,aj.read b c,rf)|_=>none
theorem bDq{I:je}(a:∀ w b,Ext w b->I w->I b):d_ prog I 83 (lZ XR):=
 oL (aB func83 ah rfl) (fun e c p v h d=>by
  unfold XR at h;split at h;cases h;exact JP a _ _ d
  cases h)
theorem aSw{I:je}(a:∀ w b,Ext w b->I w->I b):d_ prog I 84 (lZ (GI aj.tq fun _ c=>0<=c/\c<=100000)):=
 oL (aB func84 ah rfl) (fun e c p v h d=>by
  unfold GI at h;split at h;cases h;exact aZe a _ _ d
  cases h)
theorem aRu{P:dE}{A:lh}{s:St}{Q:nz->Act->je}{x y:yf}(J:St->Prop)(h:jw P A s x (Exit.then (fun a w=>∃ b,J b/\oq A b a w) Q))(h2:∀ b,J b->jw P A b y Q):jw P A s (.seq x y) Q:=fun a w j d=>wp_seq (wp_mono (h a w j (fun c a w k i=>d c a w k i)) (fun e n g f=>by cases e<;>first|exact f|(obtain⟨b,m,l⟩:=f;exact h2 b m n g l d)))
def lvL:List (Nat×Spec):=(83,lZ XR)::(84,lZ (GI aj.tq fun _ c=>0<=c/\c<=100000))::CQ
theorem Ua{I:je}(a:∀ w c,Ext w c->I w->I c):∀ p∈lvL,d_ prog I p.1 p.2:=by intro p b;simp only[lvL,zg] at b;rcases b with rfl|rfl|b;exact bDq a;exact aSw a;exact UQ a p b
theorem lvM{I:je}(a:∀ w b,Ext w b->I w->I b):jq prog I (find lvL):=⟨bG (Ua a),dV⟩
def Left{a:Type}(O:qy)(p:aj a)(l:jc)(q:aj a)(k:jc):Prop:=l <+: k/\go O p l=go O q k
theorem Left.start{a:Type}(O:qy)(p:aj a)(l:jc):Left O p l p l:=⟨aAf _,rfl⟩
theorem Left.step{b a:Type}{O:qy}{p:aj b}{l k:jc}{q:aj a}{f:a->aj b}(h:Left O p l (q.bind f) k):Left O p l (f (go O q k).1) (go O q k).2:=⟨h.1.trans (vO O q k),h.2.trans (yL O q f k)⟩
theorem Left.dn{b a:Type}{O:qy}{p:aj b}{l k:jc}{q:aj a}{f:a->aj b}(h:Left O p l (q.bind f) k):∀ g,k <+: g->g <+: (go O q k).2->O g=none->l <+: g/\g <+: (go O p l).2:=fun g d c _=>by refine⟨h.1.trans d,c.trans ?_⟩;rw[h.step.2];exact vO _ _ _
def WW(O:qy)(dn:jc->Prop)(b:Int)(m:Nat)(n:Nat)(a:jc):St:=⟨[(0,none,.w (.one .dv)),(1,none,iy b),(2,none,iy m),(7,none,iy n)],[(dx,none,0,.dev O dn a)]⟩
def aDR(O:qy)(dn:jc->Prop)(b:Int)(m:Nat)(n k:Nat)(a:jc):St:=⟨[(0,none,.w (.one .dv)),(1,none,iy b),(2,none,iy m),(7,none,iy n),(19,none,iy n),(20,none,iy k)],[(dx,none,0,.dev O dn a)]⟩
theorem aFq{I:je}(z:∀ w E,Ext w E->I w->I E)(b:Int)(m:Nat)(S:m<=1000):DJ prog I 55 (aj.jf b m) [.w (.one .dv),iy b,iy m] (fun n=>iy n):=by
 intro O l;have M:=lvM z;refine kR func55 rfl rfl rfl (fun A L Q=>?_);generalize g:(fun h=>l <+: h/\h <+: (go O (aj.jf b m) l).2)=dn;refine aN ?_;refine bCd ?_;refine nZ ?_;refine bCf ?_;change jw _ _ _ _ _;refine aRu (fun F=>∃ n d,F=WW O dn b m n d/\n<=m/\Left O (aj.jf b m) l ((aj.down b n 0).bind fun _=>.ret n) d) ?_ ?_;refine aS ?_;refine bM (WW O dn b m 0 l) ?_ ?_ ?_;exact jg;exact .cons (.dev rfl) .nil;refine fJ m (fun n s=>∃ d,s=WW O dn b m n d/\Left O (aj.jf b m) l ((aj.up b (m-n) n).bind fun n=>(aj.down b n 0).bind fun _=>.ret n) d) 0 ⟨l,rfl,Left.start _ _ _⟩ a_ (fun n s y P=>?_);obtain⟨d,rfl,i⟩:=y;refine bC (fun e=>?_) (fun e=>?_);have K:n<m:=by have:=of_decide_eq_true e;omega
 have t:m-n=(m-(n+1))+1:=a_;rw[t,aj.up,aj.bind_assoc] at i;refine jD ?_;refine aS ?_;refine xU ?_ ?_;simp;refine⟨a_,fun h D C B=>?_⟩;rw[<-g];exact i.dn h D C B;refine dU (fun e=>?_) (fun e=>?_);have x:(go O (aj.read b n) d).1=false:=by have h:(!(go O (aj.read b n) d).1)=true:=e;simpa using h
 have c:=i.step;rw[x,ay b_] at c;refine dY ?_;intro a w f;refine⟨_,⟨n,_,rfl,a_,c⟩,(f.reset (kT:=[0,1,2,7]) (kO:=[900000]) ai b_).same ?_ ?_⟩;exact jg;exact .cons (.dev rfl) .nil;have x:(go O (aj.read b n) d).1=true:=by have h:(!(go O (aj.read b n) d).1)=false:=e;simpa using h
 have c:=i.step;rw[x,au rfl] at c;refine jD ?_;refine fP ?_;intro a w f;refine⟨n+1,_,a_,a_,⟨_,rfl,c⟩,(f.reset (kT:=[0,1,2,7]) (kO:=[900000]) ai b_).same ?_ ?_⟩;exact .cr (.cr (.cr (.cons (by rw[fH n a_]) .nil)));exact .cons (.dev rfl) .nil;have j:n=m:=by have:=of_decide_eq_false e;omega
 refine dY ?_;intro a w f;refine⟨_,⟨n,d,rfl,a_,?_⟩,(f.reset (kT:=[0,1,2,7]) (kO:=[900000]) ai b_).same ?_ ?_⟩;rw[j,Yf] at i;rw[j];exact i;exact jg;exact .cons (.dev rfl) .nil
 ·rintro F ⟨n,d,rfl,j,i⟩;refine lM ?_;refine aS ?_;refine bM (aDR O dn b m n 0 d) ?_ ?_ ?_;exact jg;exact .cons (.dev rfl) .nil;refine fJ n (fun k s=>∃ d,s=aDR O dn b m n k d/\Left O (aj.jf b m) l ((aj.down b (n-k) k).bind fun _=>.ret n) d) 0 ⟨d,rfl,i⟩ a_ (fun k s y P=>?_);obtain⟨q,rfl,c⟩:=y;refine nZ ?_;refine dU (fun e=>?_) (fun e=>?_);have N:k<n:=by have:=of_decide_eq_true e;omega
  have r:n-k=(n-(k+1))+1:=a_;rw[r,aj.down,aj.bind_assoc] at c;refine jM ?_;refine aS ?_;refine aN ?_;refine aX M Q L (ai) ah ?_ ?_;simp;refine⟨a_,fun h D C B=>?_⟩;rw[<-g];exact c.dn h D C B;change jw _ _ _ _ _;refine fP ?_;intro a w f;refine⟨k+1,_,a_,a_,⟨_,rfl,c.step⟩,(f.reset (kT:=[0,1,2,7,19,20]) (kO:=[900000]) ai b_).same ?_ ?_⟩;exact .cr (.cr (.cr (.cr (.cr (.cons (by rw[fH k a_]) .nil)))));exact .cons (.dev rfl) .nil
  ·have u:k=n:=by have:=of_decide_eq_false e;omega
   rw[u,Yf] at c;have G:go O (aj.jf b m) l=(n,q):=c.2;refine dY ?_;change jw _ _ _ _ _;refine aN ?_;refine bI (fun a w f=>⟨.inr rfl,_,⟨?_,(fun o J=>by cases J),fun p H=>?_⟩,f⟩);rotate_left 1;cases H;rw[G];rfl;refine aO (ai) b_ ai ai ?_;rw[G]
def FQ:jl->Option (Prop×aj Nat×(Nat->PV))
 |[.w (.one (.lit (.int .i64 b))),.w (.one (.lit (.int .i64 m)))]=>some (0<=m/\m<=1000,aj.jf b m.toNat,fun n=>iy n)|_=>none
theorem aCf{I:je}(a:∀ w d,Ext w d->I w->I d):d_ prog I 55 (lZ FQ):=
 oL (aB func55 ah rfl) (fun e c p v h f=>by
  unfold FQ at h;split at h;rename_i b m;cases h;obtain⟨k,rfl⟩:∃ k:Nat,m=(k:Int):=⟨m.toNat,a_⟩;rw[WF];exact aFq a b k a_
  cases h)
def raL:List (Nat×Spec):=(55,lZ FQ)::lvL
theorem aCU{I:je}(a:∀ w c,Ext w c->I w->I c):∀ p∈raL,d_ prog I p.1 p.2:=by intro p b;simp only[raL,zg] at b;rcases b with rfl|b;exact aCf a;exact Ua a p b
theorem raM{I:je}(a:∀ w b,Ext w b->I w->I b):jq prog I (find raL):=⟨bG (aCU a),dV⟩
def aCV(O:qy)(dn:jc->Prop)(b:Int)(t:Nat)(n:Nat)(a:jc):St:=⟨[(0,none,.w (.one .dv)),(1,none,iy b),(3,none,iy t),(10,none,iy n)],[(dx,none,0,.dev O dn a)]⟩
def raV(p:Nat×Int):PV:=.og [.one (.lit (.int .i64 p.1)),.one (.lit (.int .i64 p.2))]
theorem aSt{I:je}(H:∀ w J,Ext w J->I w->I J)(b:Int)(m t:Nat)(P:m<=1000)(L:t<=1000):DJ prog I 100 (aj.o6 b m t) [.w (.one .dv),iy b,iy m,iy t] raV:=by
 intro O l;have M:=raM H;refine kR func100 rfl rfl rfl (fun A N S=>?_);generalize c:(fun h=>l <+: h/\h <+: (go O (aj.o6 b m t) l).2)=dn;have r:Left O (aj.o6 b m t) l ((aj.jf b m).bind fun n=>aj.ru b (t-n) n) l:=Left.start _ _ _;have j:(go O (aj.jf b m) l).1<=m:=Uz O (aFr b m) l;have e:=r.step;refine bY ?_ ?_;simp;refine⟨a_,fun h z y x=>?_⟩;rw[<-c];exact r.dn h z y x;obtain⟨B,C,D⟩:∃ B C,go O (aj.jf b m) l=(B,C):=⟨_,_,rfl⟩;rw[D] at j e;dsimp only at j e;refine bCe ?_;refine bM (aCV O dn b t B C) ?_ ?_ ?_;exact .cr (.cr (.cr (.cons (by show iy ((go O (aj.jf b m) l).1:Int)=_;rw[D]) .nil)));exact .cons (.dev (by show (go O (aj.jf b m) l).2=_;rw[D])) .nil;refine fJ (m+t) (fun n s=>∃ f,s=aCV O dn b t n f/\Left O (aj.o6 b m t) l (aj.ru b (t-n) n) f) B ⟨C,rfl,e⟩ a_ (fun n s K Q=>?_);obtain⟨f,rfl,e⟩:=K;refine bC (fun g=>?_) (fun g=>?_)
 ·have i:n<t:=by have:=of_decide_eq_true g;omega
  rw[show t-n=(t-(n+1))+1 by omega,aj.ru] at e;have q:=e.step;have d:=q.step;refine jM ?_;refine aS ?_;refine aH ?_ ?_;simp;refine⟨a_,fun h z y x=>?_⟩;rw[<-c];exact e.dn h z y x;refine aH ?_ ?_;simp;refine⟨a_,fun h z y x=>?_⟩;rw[<-c];exact q.dn h z y x;refine dU (fun g=>?_) (fun g=>?_)
  ·have G:(go O (aj.read b n) (go O (aj.tq b n) f).2).1=false:=by
    have h:(!(go O (aj.read b n) (go O (aj.tq b n) f).2).1)=true:=g;simpa using h
   rw[G,ay b_] at d;have u:=d.2;refine aN ?_;refine bI (fun a w k=>⟨.inr rfl,_,⟨?_,(fun o F=>by cases F),fun p E=>?_⟩,k⟩);rotate_left 1;cases E;rw[u];rfl;refine aO (ai) b_ ai ai ?_;rw[u];rfl
  have G:(go O (aj.read b n) (go O (aj.tq b n) f).2).1=true:=by have h:(!(go O (aj.read b n) (go O (aj.tq b n) f).2).1)=false:=g;simpa using h
  rw[G,au rfl] at d;refine jD ?_;refine fP ?_;intro a w k;refine⟨n+1,_,a_,a_,⟨_,rfl,d⟩,(k.reset (kT:=[0,1,3,10]) (kO:=[900000]) ai b_).same ?_ ?_⟩;exact .cr (.cr (.cr (.cons (by rw[fH n a_]) .nil)));exact .cons (.dev rfl) .nil
 ·have i:t-n=0:=by have:=of_decide_eq_false g;omega
  rw[i] at e;have u:go O (aj.o6 b m t) l=((n,0),f):=e.2;refine dY ?_;change jw _ _ _ _ _;refine aN ?_;refine bI (fun a w k=>⟨.inr rfl,_,⟨?_,(fun o F=>by cases F),fun p E=>?_⟩,k⟩);rotate_left 1;cases E;rw[u];rfl;refine aO (ai) b_ ai ai ?_;rw[u];rfl
def Nl:jl->Option (Prop×aj (Nat×Int)×(Nat×Int->PV))
 |[.w (.one (.lit (.int .i64 b))),.w (.one (.lit (.int .i64 m))),.w (.one (.lit (.int .i64 t)))]=>some ((0<=m/\m<=1000)/\0<=t/\t<=1000,aj.o6 b m.toNat t.toNat,raV)|_=>none
theorem aOh{I:je}(a:∀ w d,Ext w d->I w->I d):d_ prog I 100 (lZ Nl):=
 oL (aB func100 ah rfl) (fun e c p v h f=>by
  unfold Nl at h;split at h;rename_i b m t;cases h;obtain⟨k,rfl⟩:∃ k:Nat,m=(k:Int):=⟨m.toNat,a_⟩;obtain⟨j,rfl⟩:∃ j:Nat,t=(j:Int):=⟨t.toNat,a_⟩;rw[WF,WF];exact aSt a b k j a_ a_
  cases h)
def aUh:jl->Option (Prop×aj EU×(EU->PV))
 |[.w (.one (.lit (.int .i64 rec)))]=>some (ja rec,aj.load rec,Ey)|_=>none
def aUc:jl->Option (Prop×aj EU×(EU->PV))
 |[.w (.one (.lit (.int .i64 rec))),.w (.one (.lit (.string c)))]=>some (ja rec,aj.save rec c,Ey)|_=>none
theorem LM:d_ prog af 98 (lY aUh):=
 pF (aB func98 ah rfl) (fun b c p v h a=>by
  unfold aUh at h;split at h;cases h;exact LV _ a
  cases h)
theorem LH:d_ prog af 101 (lY aUc):=
 pF (aB func101 ah rfl) (fun b c p v h a=>by
  unfold aUc at h;split at h;cases h;exact J6 _ a _
  cases h)
def Ih:Spec:=aU true fun a=>match a with
 |[.w (.agg [.bs 16 root]),.w (.one (.lit (.string s)))]=>some (root.length=16/\s.size<=5000,Ul (P7 root s (wV root s.data.toList)))|_=>none
theorem RN:d_ prog af 99 Ih:=by refine aT (aB func99 ah rfl) (fun c p r a b=>?_);split at a;cases a;exact bFm _ _ b.1 b.2;cases a
def Qz:List (Nat×Spec):=(73,aKv qh aUf)::(98,lY aUh)::(101,lY aUc)::(55,lZ FQ)::(100,lZ Nl) ::
 (99,Ih)::(102,bCs)::(82,iI qh y_ aXh)::aIo
theorem L6:∀ p∈Qz,d_ prog af p.1 p.2:=by intro p a;simp only[Qz,zg] at a;rcases a with rfl|rfl|rfl|rfl|rfl|rfl|rfl|rfl|a;exact bFd;exact LM;exact LH;exact aCf bJ;exact aOh bJ;exact RN;exact bFq;exact aWj;exact aDc p a
theorem RF:jq prog af (find Qz):=⟨bG L6,dV⟩
def xB(root:dh)(s:l9):l_×Bool:=P7 root s (wV root s.data.toList)
def tu(m:jy):aj l_:=(aj.load 3).bind fun s=>(gJ (s.err==0) s.err).bind fun _=>(gJ (xB m.root s.content).2 8).bind fun _=>.ret (xB m.root s.content).1
def AX(m:jy)(r:l_):aj Unit:=(aj.save 3 (gX m.root r)).bind fun s=>(gJ (s.err==0) s.err).bind fun _=>.ret ()
def kC(b:Int)(t:Nat):aj Nat:=(aj.o6 b 16 t).bind fun p=>(gJ (p.2==0) p.2).bind fun _=>.ret p.1
def qP(f:Nat):aj Unit:=(kC 3 (f+1)).bind fun n=>(gJ ((n:Int)==((f+1:Nat):Int)) 21).bind fun _=>.ret ()
def oD(f:Nat):aj Unit:=(gJ (((f % 2:Nat):Int)==0) 21).bind fun _=>(gJ (decide ((f:Int)<16)) 17).bind fun _=>.ret ()
theorem aQj(rec:Int)(b:dh):(qw rec b).2.length<=2000:=by unfold qw;split;simp;split;simp;show (uz b).1.length<=2000;omega
theorem aFn(rec:Int):aj.All (fun o:EU=>o.content.size<=2000) (aj.load rec):=by unfold aj.load;split;exact (by decide:(0:Nat)<=2000);refine aj.All.bind (R:=fun p:(Int×dh)×Nat=>p.1.2.length<=2000) ?_ (fun p c=>?_);unfold aj.cur;refine aj.All.bind (R:=fun _=>True) (aj.All.yt _) (fun a _=>?_);refine aj.All.bind (R:=fun _=>True) (aj.All.yt _) (fun b _=>?_);show (xu (qw rec a) (qw rec b)).1.2.length<=2000;unfold xu;split;exact aQj _ _;exact aQj _ _;show (wY p.1).content.size<=2000;unfold wY;split;exact (by decide:(0:Nat)<=2000);show (strOf p.1.2).size<=2000;rw[aW];exact c
theorem SC(m:jy)(f:Int)(hr:m.root.length=16):wF prog af qh 76 y_ (ny m f) (tu m) [] (fun r=>.w (.agg (y9 r))):=by intro O l u x;have M:=RF;have j:Left O (tu m) l (tu m) l:=Left.start _ _ _;have c:=Left.step (q:=aj.load 3) j;have e:=Uz O (aFn 3) l;generalize b:(fun h=>l <+: h/\h <+: (go O (tu m) l).2)=dn;refine lK func76 rfl rfl (fun A B C=>?_);refine bY ?_ ?_;simp;refine⟨⟨u,by unfold ja;omega⟩,?_⟩;intro h o n k;rw[<-b];exact Left.dn (q:=aj.load 3) j h o n k;obtain⟨s,p,t⟩:∃ s p,go O (aj.load 3) l=(s,p):=⟨_,_,rfl⟩;rw[t] at c e;dsimp only at c e;refine bM (⟨[(0,none,dm (.pt px 0 0)),(2,none,dm (.pt 0 0 0)),(3,none,dm (.pt 1005 0 0))],[(dx,none,0,.dev O dn p),(px,none,0,.box y_ (.dv::ny m f)),(0,none,0,.box 149 (y9 G5)),(1005,none,0,.box 164 (aYk s))]⟩) ?_ ?_ ?_;exact jg;refine .cons (.dev ?_) (.cb (.cb (.cons (.box ?_) .nil)));show (go O (aj.load 3) l).2=_;rw[t];show aYk (go O (aj.load 3) l).1=_;rw[t];have d:=Left.step c;refine aH ?_ ?_;simp;refine⟨⟨u,x⟩,?_⟩;intro h o n k;rw[<-b];exact Left.dn c h o n k;obtain⟨y,g⟩:=lm ((go O (gJ (s.err==0) s.err) p).2);rw[g] at d;refine bM (⟨[(0,none,dm (.pt px 0 0)),(2,none,dm (.pt 0 0 0)),(3,none,dm (.pt 1005 0 0))],[(dx,none,0,.dev O dn y),(px,none,0,.box y_ (.dv::ny m f)),(0,none,0,.box 149 (y9 G5)),(1005,none,0,.box 164 (aYk s))]⟩) ?_ ?_ ?_;exact jg;exact .cons (.dev g) ((fD _));refine aH ?_ ?_;simp;exact⟨hr,a_⟩;refine aH ?_ ?_;simp;refine⟨⟨u,x⟩,?_⟩;intro h o n k;rw[<-b];exact Left.dn d h o n k;have i:=Left.step d;refine aN ?_;refine bI (fun a w z=>⟨.inr rfl,_,⟨?_,⟨ny m f,rfl,dN rfl⟩,?_⟩,z⟩);rotate_left 1;rw[i.2];rfl;refine aO (ai) b_ ai ai ?_;rw[i.2];rfl
theorem QQ(m:jy)(f:Int)(r:l_)(hr:m.root.length=16)(d:D9 r):wF prog af qh 79 y_ (ny m f) (AX m r) [.w (.agg (y9 r))] (fun _=>.og []):=by intro O l p y;have M:=RF;have e:Left O (AX m r) l (AX m r) l:=Left.start _ _ _;have b:=Left.step (q:=aj.save 3 (gX m.root r)) e;generalize c:(fun h=>l <+: h/\h <+: (go O (AX m r) l).2)=dn;refine lK func79 rfl rfl (fun A t x=>?_);refine bY ?_ ?_;simp;refine⟨⟨d,hr⟩,⟨p,by unfold ja;omega⟩,?_⟩;intro h o n k;rw[<-c];exact Left.dn (q:=aj.save 3 (gX m.root r)) e h o n k;obtain⟨s,g,i⟩:∃ s g,go O (aj.save 3 (gX m.root r)) l=(s,g):=⟨_,_,rfl⟩;rw[i] at b;dsimp only at b;refine bM (⟨[(0,none,dm (.pt px 0 0)),(4,none,dm (.pt 1012 0 0))],[(dx,none,0,.dev O dn g),(px,none,0,.box y_ (.dv::ny m f)),(1012,none,0,.box 164 (aYk s))]⟩) ?_ ?_ ?_;exact jg;refine .cons (.dev ?_) (.cb (.cons (.box ?_) .nil));show (go O (aj.save 3 (gX m.root r)) l).2=_;rw[i];show aYk (go O (aj.save 3 (gX m.root r)) l).1=_;rw[i];have j:=Left.step b;refine aX M x t (ai) ah ?_ ?_;simp;refine⟨⟨p,y⟩,?_⟩;intro h o n k;rw[<-c];exact Left.dn b h o n k;intro a w u;refine⟨.inl rfl,_,⟨?_,⟨ny m f,rfl,dN rfl⟩,?_⟩,u⟩;rotate_left 1;rw[j.2];rfl;refine aO (ai) b_ ai ai ?_;rfl
theorem bDw(m:jy)(f:Int)(b:Int)(t:Nat)(x:t<=1000):wF prog af qh 78 y_ (ny m f) (kC b t) [iy b,iy t] (fun n=>iy n):=by intro O l s u;have M:=RF;have g:Left O (kC b t) l (kC b t) l:=Left.start _ _ _;have c:=Left.step (q:=aj.o6 b 16 t) g;generalize d:(fun h=>l <+: h/\h <+: (go O (kC b t) l).2)=dn;refine lK func78 rfl rfl (fun A y z=>?_);refine bY ?_ ?_;simp;refine⟨a_,?_⟩;intro h p o k;rw[<-d];exact Left.dn (q:=aj.o6 b 16 t) g h p o k;obtain⟨q,j,i⟩:∃ q j,go O (aj.o6 b 16 t) l=(q,j):=⟨_,_,rfl⟩;rw[i] at c;dsimp only at c;refine bM (⟨[(7,none,iy q.1),(8,none,iy q.2)],[(dx,none,0,.dev O dn j),(px,none,0,.box y_ (.dv::ny m f))]⟩) ?_ ?_ ?_;refine .cons ?_ (.cons ?_ .nil);show iy (go O (aj.o6 b 16 t) l).1.1=_;rw[i];show iy (go O (aj.o6 b 16 t) l).1.2=_;rw[i];refine .cons (.dev ?_) ((fD _));show (go O (aj.o6 b 16 t) l).2=_;rw[i];have e:=Left.step c;refine aH ?_ ?_;simp;refine⟨⟨s,u⟩,?_⟩;intro h p o k;rw[<-d];exact Left.dn c h p o k;refine aN ?_;refine bI (fun a w r=>⟨.inr rfl,_,⟨?_,⟨ny m f,rfl,dN rfl⟩,?_⟩,r⟩);rotate_left 1;rw[e.2];rfl;refine aO (ai) b_ ai ai ?_;rw[e.2];rfl
def aMd(l:dw)(ys:jl):Option (Prop×aj Nat×(Nat->PV)):=match DV l,ys with
 |some _,[.w (.one (.lit (.int .i64 b))),.w (.one (.lit (.int .i64 t)))]=>some (0<=t/\t<=1000,kC b t.toNat,fun n=>iy n)|_,_=>none
theorem JU:d_ prog af 78 (iI qh y_ aMd):=
 kM (aB func78 ah rfl) (fun l e c p v h g=>by
  unfold aMd at h;split at h;rename_i a b t d;cases h;rw[vZ (m:=a.1) (f:=a.2) d];obtain⟨k,rfl⟩:∃ k:Nat,t=(k:Int):=⟨t.toNat,a_⟩;rw[WF];exact bDw a.1 a.2 b k a_
  cases h)
def Qy:List (Nat×Spec):=(78,iI qh y_ aMd)::Qz
theorem Kz:∀ p∈Qy,d_ prog af p.1 p.2:=by intro p a;simp only[Qy,zg] at a;rcases a with rfl|a;exact JU;exact L6 p a
theorem aLZ:jq prog af (find Qy):=⟨bG Kz,dV⟩
theorem Kt(m:jy)(f:Nat)(x:f<=900):wF prog af qh 77 y_ (ny m f) (qP f) [] (fun _=>.og []):=by
 intro O l r s;have M:=aLZ;have e:Left O (qP f) l (qP f) l:=Left.start _ _ _;have d:=Left.step (q:=kC 3 (f+1)) e;have k:=Left.step d;have i:IntKind.wrap .i64 ((f:Int)+1)=((f+1:Nat):Int):=by rw[TC];omega
 generalize b:(fun h=>l <+: h/\h <+: (go O (qP f) l).2)=dn;obtain⟨g,j⟩:∃ g:Int,(f:Int)=g:=⟨_,rfl⟩;rw[j] at i ⊢;refine lK func77 rfl rfl (fun A t u=>?_);refine aX M u t (ai) ah ?_ ?_;simp;rw[i];refine⟨⟨r,s,a_,a_⟩,?_,⟨r,s⟩,?_⟩;intro h p o n;rw[<-b];exact Left.dn (q:=kC 3 (f+1)) e h p o n;intro h p o n;rw[<-b];exact Left.dn d h p o n;have c:(go O (gJ (((go O (kC 3 (IntKind.wrap .i64 (g+1)).toNat) l).1:Int)==IntKind.wrap .i64 (g+1)) 21) (go O (kC 3 (IntKind.wrap .i64 (g+1)).toNat) l).2).2=(go O (qP f) l).2:=by rw[i,k.2];rfl
 intro a w j;refine⟨.inl rfl,_,⟨?_,⟨ny m g,rfl,dN rfl⟩,?_⟩,j⟩;rotate_left 1;exact congrArg (fun h=>some (none,0,lu.dev O dn h)) c;refine aO (ai) b_ ai ai ?_;rfl
theorem JO(m:jy)(f:Nat)(_:f<=900):wF prog af qh 74 y_ (ny m f) (oD f) [] (fun _=>.og []):=by
 intro O l k n;have M:=RF;have d:Left O (oD f) l (oD f) l:=Left.start _ _ _;have c:=Left.step (q:=gJ (((f % 2:Nat):Int)==0) 21) d;have e:=Left.step c;generalize b:(fun h=>l <+: h/\h <+: (go O (oD f) l).2)=dn;refine lK func74 rfl rfl (fun A o s=>?_);have p:((f:Int).tmod 2==0)=(((f % 2:Nat):Int)==0):=by rw[show (f:Int).tmod 2=((f % 2:Nat):Int) from rfl]
 refine aH ?_ ?_;simp;refine⟨⟨k,n⟩,?_⟩;rw[p];intro h j i g;rw[<-b];exact Left.dn (q:=gJ (((f % 2:Nat):Int)==0) 21) d h j i g;refine aX M s o (ai) ah ?_ ?_;simp;refine⟨⟨k,n⟩,?_⟩;intro h j i g;rw[<-b];exact Left.dn c h j i g;intro a w r;refine⟨.inl rfl,_,⟨?_,⟨ny m f,rfl,dN rfl⟩,?_⟩,r⟩;rotate_left 1;rw[e.2];rfl;refine aO (ai) b_ ai ai ?_;rfl
def bIb(l:dw)(ys:jl):Option (Prop×aj Unit×(Unit->PV)):=match DV l,ys with
 |some (m,_),[.w (.agg a)]=>(match Un a with
  |some r=>some (m.root.length=16/\D9 r,AX m r,fun _=>.og [])|none=>none)
 |_,_=>none
theorem RI:d_ prog af 79 (iI qh y_ bIb):=
 kM (aB func79 ah rfl) (fun l g c p v h b=>by
  unfold bIb at h;split at h;rename_i m f d e;cases a:Un d with
  |none=>rw[a] at h;cases h|some r=>rw[a] at h;cases h;rw[vZ e,aMl a];exact QQ m f r b.1 b.2
  cases h)
def bId(l:dw)(ys:jl):Option (Prop×aj l_×(l_->PV)):=match DV l,ys with
 |some (m,_),[]=>some (m.root.length=16,tu m,fun r=>.w (.agg (y9 r)))|_,_=>none
theorem RJ:d_ prog af 76 (iI qh y_ bId):=
 kM (aB func76 ah rfl) (fun l d c p v h b=>by
  unfold bId at h;split at h;rename_i m f a;cases h;rw[vZ a];exact SC m f b
  cases h)
def aUg(l:dw)(ys:jl):Option (Prop×aj Unit×(Unit->PV)):=match DV l,ys with
 |some (_,f),[]=>some (0<=f/\f<=900,qP f.toNat,fun _=>.og [])|_,_=>none
theorem LK:d_ prog af 77 (iI qh y_ aUg):=
 kM (aB func77 ah rfl) (fun l b c p v h d=>by
  unfold aUg at h;split at h;rename_i m f a;cases h;rw[vZ a];obtain⟨k,rfl⟩:∃ k:Nat,f=(k:Int):=⟨f.toNat,a_⟩;rw[WF];exact Kt m k a_
  cases h)
def aUd(l:dw)(ys:jl):Option (Prop×aj Unit×(Unit->PV)):=match DV l,ys with
 |some (_,f),[]=>some (0<=f/\f<=900,oD f.toNat,fun _=>.og [])|_,_=>none
theorem LJ:d_ prog af 74 (iI qh y_ aUd):=
 kM (aB func74 ah rfl) (fun l b c p v h d=>by
  unfold aUd at h;split at h;rename_i m f a;cases h;rw[vZ a];obtain⟨k,rfl⟩:∃ k:Nat,f=(k:Int):=⟨f.toNat,a_⟩;rw[WF];exact JO m k a_
  cases h)
def Qx:List (Nat×Spec):=(79,iI qh y_ bIb)::(76,iI qh y_ bId)::(77,iI qh y_ aUg)::(74,iI qh y_ aUd)::Qy
theorem Ky:∀ p∈Qx,d_ prog af p.1 p.2:=by intro p a;simp only[Qx,zg] at a;rcases a with rfl|rfl|rfl|rfl|a;exact RI;exact RJ;exact LK;exact LJ;exact Kz p a
theorem aLY:jq prog af (find Qx):=⟨bG Ky,dV⟩
def FZ(f:Nat)(p:l9):l_:=⟨1,((f+1:Nat):Int),AO,0,p⟩
def mJ(m:jy)(f:Nat)(p:l9):aj kz:=(AX m (FZ f p)).bind fun _=>(qP f).bind fun _=>.ret { ni with payload:=p }
theorem bAy(m:jy)(f:Nat)(p:l9)(z:f<=900)(hr:m.root.length=16)(u:p.size<=10000):wF prog af qh 75 y_ (ny m f) (mJ m f p) [t_ p] (fun o=>.w (.agg (j_ o))):=by
 intro O l r s;have M:=aLY;have e:Left O (mJ m f p) l (mJ m f p) l:=Left.start _ _ _;have d:=Left.step (q:=AX m (FZ f p)) e;have c:=Left.step d;have k:IntKind.wrap .i64 ((f:Int)+1)=((f+1:Nat):Int):=by rw[TC];omega
 generalize b:(fun h=>l <+: h/\h <+: (go O (mJ m f p) l).2)=dn;refine lK func75 rfl rfl (fun A y B=>?_);refine bY ?_ ?_;simp;rw[k];refine⟨⟨r,s,hr,⟨(by show ja 1;unfold ja;omega),(by show ja ((f+1:Nat):Int);unfold ja;omega),(by show ja 0;unfold ja;omega),rfl,u⟩⟩,?_⟩;intro h j i g;rw[<-b];exact Left.dn (q:=AX m (FZ f p)) e h j i g;obtain⟨t,n⟩:=lm ((go O (AX m (FZ f p)) l).2);rw[n] at d c;refine bM (⟨[(0,none,dm (.pt px 0 0)),(1,none,t_ p),(4,none,dm (.pt 0 0 0))],[(dx,none,0,.dev O dn t),(px,none,0,.box y_ (.dv::ny m f)),(0,none,0,.box 40 (j_ ni))]⟩) ?_ ?_ ?_;exact jg;refine .cons (.dev ?_) ((fD _));show (go O (AX m ⟨1,IntKind.wrap .i64 ((f:Int)+1),AO,0,p⟩) l).2=_;rw[k];exact n;refine aH ?_ ?_;simp;refine⟨⟨r,s,a_⟩,?_⟩;intro h j i g;rw[<-b];exact Left.dn d h j i g;refine aN ?_;refine bI (fun a w x=>⟨.inr rfl,_,⟨?_,⟨ny m f,rfl,dN rfl⟩,?_⟩,x⟩);rotate_left 1;rw[c.2];rfl;refine aO (ai) b_ ai ai ?_;rw[c.2];rfl
def aGl(l:dw)(ys:jl):Option (Prop×aj kz×(kz->PV)):=match DV l,ys with
 |some (m,f),[.w (.one (.lit (.string p)))]=>some (0<=f/\f<=900/\m.root.length=16/\p.size<=10000,mJ m f.toNat p,fun o=>.w (.agg (j_ o)))|_,_=>none
theorem aZp:d_ prog af 75 (iI qh y_ aGl):=
 kM (aB func75 ah rfl) (fun l d c p v h a=>by
  unfold aGl at h;split at h;rename_i m f q b;cases h;rw[vZ b];obtain⟨k,rfl⟩:∃ k:Nat,f=(k:Int):=⟨f.toNat,a_⟩;rw[WF];exact bAy m k q a_ a.2.2.1 a.2.2.2
  cases h)
def Qw:List (Nat×Spec):=(75,iI qh y_ aGl)::Qx
theorem Kw:∀ p∈Qw,d_ prog af p.1 p.2:=by intro p a;simp only[Qw,zg] at a;rcases a with rfl|a;exact aZp;exact Ky p a
theorem aDM:jq prog af (find Qw):=⟨bG Kw,dV⟩
def aBr(m:jy)(f:Nat):aj kz:=(oD f).bind fun _=>(mJ m f m.payload).bind fun o=>.ret o
theorem bAq(m:jy)(f:Nat)(t:f<=900)(hr:m.root.length=16)(p:m.payload.size<=10000):wF prog af qh 48 y_ (ny m f) (aBr m f) [] (fun o=>.w (.agg (j_ o))):=by intro O l k n;have M:=aDM;have e:Left O (aBr m f) l (aBr m f) l:=Left.start _ _ _;have d:=Left.step (q:=oD f) e;have c:=Left.step d;generalize b:(fun h=>l <+: h/\h <+: (go O (aBr m f) l).2)=dn;refine lK func48 rfl rfl (fun A s u=>?_);refine bY ?_ ?_;simp;refine⟨⟨k,n,a_⟩,?_⟩;intro h j i g;rw[<-b];exact Left.dn (q:=oD f) e h j i g;refine aH ?_ ?_;simp;refine⟨⟨k,n,a_,hr,p⟩,?_⟩;intro h j i g;rw[<-b];exact Left.dn d h j i g;refine bI (fun a w r=>⟨.inr rfl,_,⟨?_,⟨ny m f,rfl,dN rfl⟩,?_⟩,r⟩);rotate_left 1;rw[c.2];rfl;refine aO (ai) b_ ai ai ?_;rw[c.2];rfl
def V3(m:jy)(f:Nat):aj kz:=(oD f).bind fun _=>.ret { ni with ot:=m.id,ol:=f }
theorem bEu(m:jy)(f:Nat)(r:f<=900):wF prog af qh 51 y_ (ny m f) (V3 m f) [] (fun o=>.w (.agg (j_ o))):=by intro O l g i;have M:=aDM;have d:Left O (V3 m f) l (V3 m f) l:=Left.start _ _ _;have c:=Left.step (q:=oD f) d;generalize b:(fun h=>l <+: h/\h <+: (go O (V3 m f) l).2)=dn;refine lK func51 rfl rfl (fun A p s=>?_);refine bY ?_ ?_;simp;refine⟨⟨g,i,a_⟩,?_⟩;intro h n k j;rw[<-b];exact Left.dn (q:=oD f) d h n k j;refine aN ?_;refine bI (fun a w e=>⟨.inr rfl,_,⟨?_,⟨ny m f,rfl,dN rfl⟩,?_⟩,e⟩);rotate_left 1;rw[c.2];rfl;refine aO (ai) b_ ai ai ?_;rw[c.2];rfl
def Nj(l:dw)(ys:jl):Option (Prop×aj kz×(kz->PV)):=match DV l,ys with
 |some (m,_),[.w (.agg a)]=>(match Un a with
  |some r=>some (ja r.ol/\m.link.length=16/\r.ot.length=16/\r.payload.size<=10000,.ret (gV m.link r),fun o=>.w (.agg (j_ o)))|none=>none)
 |_,_=>none
theorem WU:d_ prog af 80 (iI qh y_ Nj):=
 kM (aB func80 ah rfl) (fun l g c p v h a=>by
  unfold Nj at h;split at h;rename_i m f d e;cases b:Un d with
  |none=>rw[b] at h;cases h|some r=>rw[b] at h;cases h;rw[vZ e,aMl b];exact aNi m f r a.1 a.2.1 a.2.2.1 a.2.2.2
  cases h)
def WH:List (Nat×Spec):=(80,iI qh y_ Nj)::Qw
theorem WM:∀ p∈WH,d_ prog af p.1 p.2:=by intro p a;simp only[WH,zg] at a;rcases a with rfl|a;exact WU;exact Kw p a
theorem G8:jq prog af (find WH):=⟨bG WM,dV⟩
def Y1(m:jy)(f:Nat):aj kz:=(gJ (((f % 2:Nat):Int)==1) 21).bind fun _=>(AX m ⟨1,(f:Int),AO,0,m.payload⟩).bind fun _=>.ret { ni with payload:=m.payload }
theorem aYi(f:Nat):(f:Int).tmod 2=((f % 2:Nat):Int):=rfl
theorem bFe(m:jy)(f:Nat)(x:f<=900)(hr:m.root.length=16)(s:m.payload.size<=10000):wF prog af qh 50 y_ (ny m f) (Y1 m f) [] (fun o=>.w (.agg (j_ o))):=by intro O l n p;have M:=G8;have e:Left O (Y1 m f) l (Y1 m f) l:=Left.start _ _ _;have d:=Left.step (q:=gJ (((f % 2:Nat):Int)==1) 21) e;have c:=Left.step d;generalize b:(fun h=>l <+: h/\h <+: (go O (Y1 m f) l).2)=dn;refine lK func50 rfl rfl (fun A u y=>?_);refine bY ?_ ?_;simp;refine⟨⟨n,p⟩,?_⟩;rw[aYi];intro h j i g;rw[<-b];exact Left.dn (q:=gJ (((f % 2:Nat):Int)==1) 21) e h j i g;obtain⟨r,k⟩:=lm ((go O (gJ (((f % 2:Nat):Int)==1) 21) l).2);rw[k] at d c;refine bM (⟨[(0,none,dm (.pt px 0 0)),(2,none,dm (.pt 0 0 0))],[(dx,none,0,.dev O dn r),(px,none,0,.box y_ (.dv::ny m f)),(0,none,0,.box 40 (j_ ni))]⟩) ?_ ?_ ?_;exact jg;exact .cons (.dev k) ((fD _));refine aH ?_ ?_;simp;refine⟨⟨n,p,hr,⟨(by show ja 1;unfold ja;omega),(by show ja (f:Int);unfold ja;omega),(by show ja 0;unfold ja;omega),rfl,s⟩⟩,?_⟩;intro h j i g;rw[<-b];exact Left.dn d h j i g;refine aN ?_;refine bI (fun a w t=>⟨.inr rfl,_,⟨?_,⟨ny m f,rfl,dN rfl⟩,?_⟩,t⟩);rotate_left 1;rw[c.2];rfl;refine aO (ai) b_ ai ai ?_;rw[c.2];rfl
theorem aMe(root:dh)(s:l9)(hs:s.size<=5000):D9 (xB root s).1:=by
 have b:D9 G5:=⟨by show ja 0;unfold ja;omega,by show ja 0;unfold ja;omega,by show ja 0;unfold ja;omega,rfl,g_⟩;unfold xB;cases c:wV root s.data.toList with
 |Dk=>exact b|EI=>exact b|okR p=>have a:=aFd c;rw[show s.data.toList.length=s.size from uA] at a;unfold P7;dsimp only;unfold WG;split;exact b;rename_i h;unfold WE;dsimp only;have d:=nD (Z5 (di (Z5 16 (Z5 (di (Z5 (di p).2.1 p)).2.1 (Z5 (di p).2.1 p)))).2.1 (Z5 16 (Z5 (di (Z5 (di p).2.1 p)).2.1 (Z5 (di p).2.1 p))));simp only[YO] at d;refine⟨iR _,iR _,iR _,?_,?_⟩;simp only[YO,not_or,Nat.not_lt] at h;simp only[xe,YO];omega;show (strOf _).size<=10000;rw[aW];omega
theorem aLm(m:jy):aj.All (fun r:l_=>D9 r) (tu m):=by refine aj.All.bind (aFn 3) (fun s a=>?_);refine aj.All.bind (R:=fun _=>True) (aj.All.yt _) (fun _ _=>?_);refine aj.All.bind (R:=fun _=>True) (aj.All.yt _) (fun _ _=>?_);exact aMe m.root s.content a_
def uZ(m:jy)(f:Nat):aj kz:=(gJ (((f % 2:Nat):Int)==0) 21).bind fun _=>(tu m).bind fun r=>(gJ (bif r.kind==2 then r.level==(f:Int) else false) 14).bind fun _=>.ret (gV m.link r)
theorem aYx(m:jy)(f:Nat)(_:f<=900)(hr:m.root.length=16)(hl:m.link.length=16):wF prog af qh 53 y_ (ny m f) (uZ m f) [] (fun o=>.w (.agg (j_ o))):=by
 intro O l y z;have M:=G8;have x:Left O (uZ m f) l (uZ m f) l:=Left.start _ _ _;have n:=Left.step (q:=gJ (((f % 2:Nat):Int)==0) 21) x;have e:=Left.step n;generalize d:(fun h=>l <+: h/\h <+: (go O (uZ m f) l).2)=dn;refine lK func53 rfl rfl (fun A E G=>?_);refine bY ?_ ?_;simp;refine⟨⟨y,z⟩,?_⟩;rw[aYi];intro h t s p;rw[<-d];exact Left.dn (q:=gJ (((f % 2:Nat):Int)==0) 21) x h t s p;obtain⟨u,C⟩:=lm ((go O (gJ (((f % 2:Nat):Int)==0) 21) l).2);rw[C] at n e;refine bM (⟨[(0,none,dm (.pt px 0 0)),(2,none,dm (.pt 0 0 0))],[(dx,none,0,.dev O dn u),(px,none,0,.box y_ (.dv::ny m f)),(0,none,0,.box 40 (j_ ni))]⟩) ?_ ?_ ?_;exact jg;exact .cons (.dev C) ((fD _));have c:=Uz O (aLm m) u;refine aH ?_ ?_;simp;refine⟨⟨y,z,hr⟩,?_⟩;intro h t s p;rw[<-d];exact Left.dn n h t s p;obtain⟨r,B,j⟩:∃ r B,go O (tu m) u=(r,B):=⟨_,_,rfl⟩;rw[j] at e c;dsimp only at e c;refine bM (⟨[(0,none,dm (.pt px 0 0)),(2,none,dm (.pt 0 0 0)),(3,none,dm (.pt 2002 0 0))],[(dx,none,0,.dev O dn B),(px,none,0,.box y_ (.dv::ny m f)),(0,none,0,.box 40 (j_ ni)),(2002,none,0,.box 149 (y9 r))]⟩) ?_ ?_ ?_;exact jg;refine .cons (.dev ?_) (.cb (.cb (.cons (.box ?_) .nil)));show (go O (tu m) u).2=_;rw[j];show y9 (go O (tu m) u).1=_;rw[j];have k:=Left.step e;have i:=e;have g:=k
 rw[show ∀ a b:Bool,(bif a then b else false)=(a&&b) from fun a b=>by cases a<;>rfl] at i g
 refine aH ?_ ?_;simp;refine⟨⟨y,z⟩,?_⟩;intro h t s p;rw[<-d];exact Left.dn i h t s p;refine aH ?_ ?_;simp;refine⟨⟨y,z,c.ol,hl,c.ot,c.payload⟩,?_⟩;intro h t s p;rw[<-d];exact Left.dn (q:=.ret (gV m.link r)) (f:=fun o=>.ret o) g h t s p;refine bI (fun a w D=>⟨.inr rfl,_,⟨?_,⟨ny m f,rfl,dN rfl⟩,?_⟩,D⟩);rotate_left 1;rw[k.2];rfl;refine aO (ai) b_ ai ai ?_;rw[k.2];rfl
def Tu(m:jy)(f:Nat)(r:l_):l_:=⟨2,((f+1:Nat):Int),m.ot,m.ol,r.payload⟩
def Ux(m:jy)(f:Nat):aj kz:=(gJ (((f % 2:Nat):Int)==1) 21).bind fun _=>(tu m).bind fun r=>(gJ (bif r.kind==1 then r.level==(f:Int) else false) 14).bind fun _=>(qP f).bind fun _=>(AX m (Tu m f r)).bind fun _=>.ret (gV m.link (Tu m f r))
theorem Iy(m:jy)(f:Nat)(Q:f<=900)(hr:m.root.length=16)(hl:m.link.length=16)(J:m.ot.length=16)(D:ja m.ol):wF prog af qh 52 y_ (ny m f) (Ux m f) [] (fun o=>.w (.agg (j_ o))):=by
 intro O l x y;have M:=G8;have F:Left O (Ux m f) l (Ux m f) l:=Left.start _ _ _;have u:=Left.step (q:=gJ (((f % 2:Nat):Int)==1) 21) F;have e:=Left.step u;generalize c:(fun h=>l <+: h/\h <+: (go O (Ux m f) l).2)=dn;refine lK func52 rfl rfl (fun A P S=>?_);refine bY ?_ ?_;simp;refine⟨⟨x,y⟩,?_⟩;rw[aYi];intro h j i g;rw[<-c];exact Left.dn (q:=gJ (((f % 2:Nat):Int)==1) 21) F h j i g;obtain⟨z,I⟩:=lm ((go O (gJ (((f % 2:Nat):Int)==1) 21) l).2);rw[I] at u e;refine bM (⟨[(0,none,dm (.pt px 0 0)),(2,none,dm (.pt 0 0 0))],[(dx,none,0,.dev O dn z),(px,none,0,.box y_ (.dv::ny m f)),(0,none,0,.box 40 (j_ ni))]⟩) ?_ ?_ ?_;exact jg;exact .cons (.dev I) ((fD _));have d:=Uz O (aLm m) z;refine aH ?_ ?_;simp;refine⟨⟨x,y,hr⟩,?_⟩;intro h j i g;rw[<-c];exact Left.dn u h j i g;obtain⟨r,G,t⟩:∃ r G,go O (tu m) z=(r,G):=⟨_,_,rfl⟩;rw[t] at e d;dsimp only at e d;refine bM (⟨[(0,none,dm (.pt px 0 0)),(2,none,dm (.pt 0 0 0)),(3,none,dm (.pt 2002 0 0))],[(dx,none,0,.dev O dn G),(px,none,0,.box y_ (.dv::ny m f)),(0,none,0,.box 40 (j_ ni)),(2002,none,0,.box 149 (y9 r))]⟩) ?_ ?_ ?_;exact jg;refine .cons (.dev ?_) (.cb (.cb (.cons (.box ?_) .nil)));show (go O (tu m) z).2=_;rw[t];show y9 (go O (tu m) z).1=_;rw[t];have p:=Left.step e;have s:=e;have E:=p
 rw[show ∀ a b:Bool,(bif a then b else false)=(a&&b) from fun a b=>by cases a<;>rfl] at s E
 have L:IntKind.wrap .i64 ((f:Int)+1)=((f+1:Nat):Int):=by rw[TC];omega
 refine aH ?_ ?_;simp;refine⟨⟨x,y⟩,?_⟩;intro h j i g;rw[<-c];exact Left.dn s h j i g;have n:=Left.step p;obtain⟨H,C⟩:=lm ((go O (gJ (bif r.kind==1 then r.level==(f:Int) else false) 14) G).2);rw[C] at p n;refine bM (⟨[(0,none,dm (.pt px 0 0)),(2,none,dm (.pt 0 0 0)),(3,none,dm (.pt 2002 0 0))],[(dx,none,0,.dev O dn H),(px,none,0,.box y_ (.dv::ny m f)),(0,none,0,.box 40 (j_ ni)),(2002,none,0,.box 149 (y9 r))]⟩) ?_ ?_ ?_;exact jg;exact .cons (.dev C) ((fD _));refine aH ?_ ?_;simp;refine⟨⟨x,y,a_⟩,?_⟩;intro h j i g;rw[<-c];exact Left.dn p h j i g;obtain⟨K,B⟩:=lm ((go O (qP f) H).2);have k:=Left.step n;rw[B] at n k;refine aN ?_;refine bM (⟨[(0,none,dm (.pt px 0 0)),(2,none,dm (.pt 0 0 0)),(3,none,dm (.pt 2002 0 0))],[(dx,none,0,.dev O dn K),(px,none,0,.box y_ (.dv::ny m f)),(0,none,0,.box 40 (j_ ni)),(2002,none,0,.box 149 (y9 (Tu m f r)))]⟩) ?_ ?_ ?_;exact jg;refine .cons (.dev B) (.cb (.cb (.cons (.box ?_) .nil)));show y9 ⟨2,IntKind.wrap .i64 ((f:Int)+1),m.ot,m.ol,r.payload⟩=_;rw[L];rfl;refine aH ?_ ?_;simp;refine⟨⟨x,y,hr,⟨(by show ja 2;unfold ja;omega),(by show ja ((f+1:Nat):Int);unfold ja;omega),D,J,d.payload⟩⟩,?_⟩;intro h j i g;rw[<-c];exact Left.dn n h j i g;refine aH ?_ ?_;simp;refine⟨⟨x,y,D,hl,J,d.payload⟩,?_⟩;intro h j i g;rw[<-c];exact Left.dn (q:=.ret (gV m.link (Tu m f r))) (f:=fun o=>.ret o) k h j i g;refine bI (fun a w N=>⟨.inr rfl,_,⟨?_,⟨ny m f,rfl,dN rfl⟩,?_⟩,N⟩);rotate_left 1;rw[k.2];rfl;refine aO (ai) b_ ai ai ?_;rw[k.2];rfl
end Pv
end Go.Proofs.YtndpjopifkbgiaaGreatDoor
