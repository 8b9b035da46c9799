/-
  Several texts in one file: each has its own heading below.
-/
import Derived.Test.YtndpjopifkbgiaaGreatDoorMsJ
import Derived.Test.YtndpjopifkbgiaaGreatDoorMsI
import Derived.Test.YtndpjopifkbgiaaGreatDoorMsC
import Derived.Test.YtndpjopifkbgiaaGreatDoorMsA
set_option maxRecDepth 100000
set_option maxHeartbeats 4000000
namespace Go.Proofs.YtndpjopifkbgiaaGreatDoor
open Go.RowKit Tryz
open _root_.List renaming length_append->ed,getElem?_append_left->YO,length_take->uk,getElem?_take->xe,getElem?_append_right->YC,length_cons->Lt,getElem?_eq_none->GM,length_drop->AC,ext_getElem?->YE,take_append_drop->aBd,nil_append->WF,getElem?_drop->PR,mem_cons->xn,getElem?_cons_succ->Yv,take_of_length_le->IR,length_set->VM,append_assoc->yl,take_append_of_le_length->aDd,not_mem_nil->Xq,getElem_mem->YV,cons_append->We,append_nil->Pi,getElem?_cons_zero->YT,getElem?_set_self->aCx,drop_of_length_le->aAh,singleton_append->aDj,length_singleton->Yd,length_replicate->Yk,mem_cons_of_mem->Y3,getElem?_set_ne->aCD,take_succ_cons->aFD,getElem?_range->aDH,getElem_range->Yl,getElem?_map->Xu,getElem_map->Yp,ext_getElem->YX,foldl_cons->aDO,replicate->DD,range->yf
open _root_.Array renaming length_toList->mf
open _root_.Int renaming toNat_natCast->MM
open _root_.Nat renaming zero_add->lL,eq_zero_or_pos->Yi,le_refl->dE,beq->bz,lt_or_eq_of_le->aEF,succ_mul->aCR,mul_zero->aEN
open _root_.Bool renaming and_eq_true->PP
namespace Pv
abbrev jr(s:ByteArray):PV:=o9 (.string s)
theorem zM{I:World->Prop}:jl prog I (find ([]:List (Nat×Spec))):=⟨fun f a h=>(by cases h),aj⟩
def su(l:List ByteArray):Nat->List PC:=fun i=>[.lit (.string (l.getD i aH))]
def WX:List PC->ByteArray
 |[.lit (.string s)]=>s|_=>aH
def WO:List PC->Bool
 |[.lit (.string _)]=>true|_=>false
theorem Qw{l:List PC}(h:WO l=true):l=[.lit (.string (WX l))]:=by
 unfold WO at h;split at h
 rfl;cases h
def jX(n:Nat)(f:Nat->List PC):List ByteArray:=(yf n).map fun i=>WX (f i)
def aNw(n:Nat)(f:Nat->List PC):Prop:=∀ i,i<n->WO (f i)=true
@[simp] theorem aCz(n:Nat)(f:Nat->List PC):(jX n f).length=n:=by simp[jX]
theorem bLd{n:Nat}{f:Nat->List PC}(h:aNw n f):∀ i,i<n->f i=su (jX n f) i:=fun i a=>by unfold su jX;rw[zG,Xu,aDH a];exact Qw (h i a)
@[simp] theorem U9(n:Nat)(l:List ByteArray):aNw n (su l):=fun _ _=>rfl
@[simp] theorem bW(l:List ByteArray):jX l.length (su l)=l:=by apply YX ay;intro i b a;simp only[jX,Yp,Yl,su,WX];rw[zG,zH a];rfl
theorem Gp{C:Ctx}{n len:Nat}{f g:Nat->List PC}(h:∀ i,i<len->f i=g i){xs:List Value}(hr:R C (.sl n len f) xs):R C (.sl n len g) xs:=by
 cases hr with
 |sl d c b=>exact .sl d c (fun i a=>by rw[<-h i a];exact b i a)
theorem RL.head{C:Ctx}{c b:PC}{l:List PC}(h:∀ a,R C c a->R C b a){xs:List Value}(hr:RL C (c::l) xs):RL C (b::l) xs:=by
 cases hr with
 |cons e d=>exact .cons (h _ e) d
def ZF(f:Fl):PV:=.w (.agg [.sl 1 f.length (su f)])
def AB(f:Fl)(s:Int):Bool:=decide (0<=s)&&decide (s<f.length)
theorem bKt{f:Fl}{s:Int}(h:AB f s=true):0<=s/\s<f.length:=by unfold AB at h;rw[PP] at h;exact⟨of_decide_eq_true h.1,of_decide_eq_true h.2⟩
theorem LW{f:Fl}{s:Int}(h:AB f s=false):¬(0<=s/\s<f.length):=fun a=>by unfold AB at h;rw[decide_eq_true a.1,decide_eq_true a.2] at h;cases h
def aYr(i:Nat):PV->Bool
 |.w (.one (.pt x v o))=>bz x (px+i)&&(bz v 0&&bz o 0)|_=>false
theorem aQx{i:Nat}{v:PV}(h:aYr i v=true):v=d_ (.pt (px+i) 0 0):=by unfold aYr at h;split at h;rw[PP,PP] at h;rw[iq h.1,iq h.2.1,iq h.2.2];cases h
theorem Qz(f:Fl)(s:Int):fP prog af 161 true [ZF f,di s] (qy (AB f s)):=by have M:=zM (I:=af);refine bH func161 rfl rfl bK (fun A b a c=>?_);refine aB ?_;refine aB ?_;refine bU ?_;change qy (bif decide (s>=0) then decide (s<(f.length:Int)) else false)=_;unfold AB;by_cases h:0<=s;rw[decide_eq_true h];rfl;rw[decide_eq_false h];rfl
theorem ext_list(b:ByteArray)(l h:Nat):b.extract l h=strOf ((b.data.toList.take h).drop l):=by apply ByteArray.ext;rw[ByteArray.data_extract];apply Array.toList_inj.1;unfold strOf;simp[Array.toList_extract,List.drop_take]
theorem bFp(a b:List UInt8):strOf a++strOf b=strOf (a++b):=by apply ByteArray.ext;rw[ByteArray.data_append];simp[strOf]
theorem bJi(cut:Int)(b old:ByteArray)(k:b.size<=1000000)(i:old.size<=1000000):ui prog af 162 false [⟨900001,3,[.lit (.int .i64 cut)],[.lit (.int .i64 cut)]⟩,⟨900002,9,[.lit (.string b)],[.lit (.string b)]⟩] (fun _=>none) none (fun _=>False)
  [jr old,d_ (.pt 900001 0 0),d_ (.pt 900002 0 0)] (jr (strOf (yx cut b.data.toList old.data.toList))):=by
 have M:=zM (I:=af);have j:b.data.toList.length=b.size:=mf;refine dM func162 rfl rfl rfl (fun A m n=>?_);refine aB ?_;refine aG ?_;refine aB ?_;refine aI (fun f=>?_) (fun f=>?_)
 ·refine aB ?_;have h:cut<0\/(b.data.toList.length:Int)<=cut:=by simp at f;omega
  unfold yx;rw[if_pos h,jK]
  refine cZ (fun a w e=>⟨.inr rfl,_,⟨?_,(fun o c=>by
   simp only[xn,Xq,or_false] at c
   rcases c with rfl|rfl<;>exact⟨_,rfl,eQ rfl⟩),fun p d=>(by cases d)⟩,e⟩)
  refine aY (by rfl) (by simp) (by rfl) (by rfl) ?_;rfl
 ·refine aJ ?_;have h:¬(cut<0\/(b.data.toList.length:Int)<=cut):=by simp at f;omega
  unfold yx;rw[if_neg h];refine aF ?_ ?_;simp;omega
  refine cZ (fun a w e=>⟨.inr rfl,_,⟨?_,(fun o c=>by
   simp only[xn,Xq,or_false] at c
   rcases c with rfl|rfl<;>exact⟨_,rfl,eQ rfl⟩),fun p d=>(by cases d)⟩,e⟩)
  refine aY (by rfl) (by simp) (by rfl) (by rfl) ?_;change jr (b.extract (Int.toNat 0) cut.toNat++old.extract (min cut (old.size:Int)).toNat ((old.size:Int)).toNat)=_;rw[ext_list,ext_list,bFp];have g:old.data.toList.length=old.size:=mf;have l:(old.data.toList.take ((old.size:Int)).toNat).drop (min cut (old.size:Int)).toNat=old.data.toList.drop cut.toNat:=by rw[MM,IR a_];by_cases q:cut<=(old.size:Int);rw[show (min cut (old.size:Int))=cut from by omega];rw[aAh a_,aAh a_]
  rw[l];rfl
def Bd:PV->Option (Prop×Fl)
 |.w (.agg [.sl 1 n f])=>some (aNw n f,jX n f)|_=>none
theorem aGv{C:Ctx}{v:PV}{p:Prop}{f:Fl}{x:Value}(h:Bd v=some (p,f))(a:p)(hr:RV C v x):RV C (ZF f) x:=by
 unfold Bd at h;split at h;rename_i n g;cases h;cases hr with
 | w d=>cases d with
  |agg c=>refine .w (.agg (c.head fun e b=>?_));rw[aCz];exact Gp (bLd a) b
 cases h
def TT:Spec:=aZ true fun a=>match a with
 |[v,.w (.one (.lit (.int .i64 s)))]=>(match Bd v with
  |some (p,f)=>some (p,qy (AB f s))|none=>none)
 |_=>none
theorem LV:ai prog af 161 TT:=by
 refine aW (aC func161 aj rfl) (fun i p r a e=>?_);split at a;rename_i v s;cases b:Bd v with
 |none=>rw[b] at a;cases a| some q=>
  obtain⟨k,f⟩:=q;rw[b] at a;cases a
  exact (Qz f s).args fun C c d=>by
   match c,d with
   |[j,x],⟨h,g,_⟩=>exact⟨aGv b e h,g,trivial⟩
 cases a
def Wl:List (Nat×Spec):=[(161,TT)]
theorem aLD:jl prog af (find Wl):=⟨bD (fun p a=>by
 obtain rfl:=List.mem_singleton.1 a
 exact LV),dG⟩
theorem bLg(f:Fl)(s:Int):fP prog af 128 true [ZF f,di s] (.lu [.one (.lit (.string (strOf (sec f s)))),.one (.lit (.int .i64 (if AB f s then 0 else 13)))]):=by
 have M:=aLD;refine bH func128 rfl rfl bK (fun A d c g=>?_);refine aB ?_;refine aG ?_;refine aB ?_;rw[bW];refine aI (fun a=>?_) (fun a=>?_);refine aB ?_;have h:AB f s=false:=by simpa using a
 have e:sec f s=[]:=by unfold sec;rw[if_neg (LW h)]
 rw[h,e];exact jC;have h:AB f s=true:=by simpa using a
 have b:=bKt h;refine aJ ?_;refine aF ?_ ?_;simp;exact b;have e:strOf (sec f s)=f.getD s.toNat aH:=by unfold sec;rw[if_pos b,jK]
 rw[h,e];exact jC
def Zx:Spec:=aZ true fun a=>match a with
 |[v,.w (.one (.lit (.int .i64 s)))]=>(match Bd v with
  |some (p,f)=>some (p,.lu [.one (.lit (.string (strOf (sec f s)))),.one (.lit (.int .i64 (if AB f s then 0 else 13)))])|none=>none)
 |_=>none
theorem Lr:ai prog af 128 Zx:=by
 refine aW (aC func128 aj rfl) (fun i p r a e=>?_);split at a;rename_i v s;cases b:Bd v with
 |none=>rw[b] at a;cases a| some q=>
  obtain⟨k,f⟩:=q;rw[b] at a;cases a
  exact (bLg f s).args fun C c d=>by
   match c,d with
   |[j,x],⟨h,g,_⟩=>exact⟨aGv b e h,g,trivial⟩
 cases a
def bFu:Spec:=aYe fun e a=>match e,a with
 |[(t0,[.lit (.int .i64 cut)]),(t1,[.lit (.string b)])],[.w (.one (.lit (.string old))),d,c]=>
  (match bz t0 3&&(bz t1 9&&(aYr 0 d&&aYr 1 c)) with
  |true=>some (b.size<=1000000/\old.size<=1000000,[[.lit (.int .i64 cut)],[.lit (.string b)]],jr (strOf (yx cut b.data.toList old.data.toList)))|false=>none)
 |_,_=>none
theorem Jt:ai prog af 162 bFu:=by
 refine aQb (aC func162 aj rfl) (fun j u p C r c f e=>?_);split at c;rename_i x d w b old z y a;split at c;rename_i g;simp only[PP] at g;obtain⟨t,s,i,h⟩:=g;cases c
 match j,a with
 |[B,A],a=>simp only[List.map_cons,List.map_nil,List.cons.injEq,Prod.mk.injEq,and_true] at a;obtain⟨⟨n,l⟩,⟨m,k⟩⟩:=a;have q:=iq t;have o:=iq s;have:=bJi d b old e.1 e.2;unfold F6 F6 F6;rw[n,l,m,k,q,o,aQx i,aQx h];exact this
 cases c;cases c
def Wj:List (Nat×Spec):=(162,bFu)::Wl
theorem Wn:∀ p∈Wj,ai prog af p.1 p.2:=by intro p a;simp only[Wj,Wl,xn,Xq,or_false] at a;rcases a with rfl|rfl;exact Jt;exact LV
theorem aLC:jl prog af (find Wj):=⟨bD Wn,dG⟩
def yB(f:Fl)(s:Int)(b:ByteArray):Int:=if AB f s then (if b.size=256 then 0 else 1) else 13
theorem bCu(f:Fl)(s:Int)(b:ByteArray)(cut:Int)(u:∀ x∈f,x.size<=1000000)(r:f.length<=1000000):fP prog af 131 false [ZF f,di s,jr b,di cut] (.lu [.agg [.sl 1 (fU f s b cut).length (su (fU f s b cut))],.one (.lit (.int .i64 (yB f s b)))]):=by
 have M:=aLC;have p:prog.types[9].bytes=16:=by kernel_rfl
 have m:prog.types[9].size=1:=by kernel_rfl
 refine bH func131 rfl rfl bK (fun A B z C=>?_);refine aB ?_;refine aG ?_;refine aQ ?_;refine aB ?_;rw[bW];refine aI (fun c=>?_) (fun c=>?_);refine aB ?_;have h:AB f s=false:=by simpa using c
 have j:fU f s b cut=f:=if_neg (fun k=>LW h ⟨k.1,k.2.1⟩);have g:yB f s b=13:=by unfold yB;rw[h];rfl
 rw[j,g];exact jC
 ·have h:AB f s=true:=by simpa using c
  have q:=bKt h;refine aB ?_;refine aI (fun c=>?_) (fun c=>?_);refine aB ?_;have d:¬b.size=256:=by simp at c;omega
  have j:fU f s b cut=f:=if_neg (fun k=>d k.2.2);have g:yB f s b=1:=by unfold yB;rw[h,if_neg d];rfl
  rw[j,g];exact jC
  ·refine aJ ?_;refine aB ?_;have d:b.size=256:=by simp at c;omega
   have j:fU f s b cut=f.set s.toNat (strOf (yx cut b.data.toList (sec f s))):=if_pos ⟨q.1,q.2,d⟩;have g:yB f s b=0:=by unfold yB;rw[h,if_pos d];rfl
   have y:sec f s=(f.getD s.toNat aH).data.toList:=if_pos q;rw[j,g,y];refine aF ?_ ?_;simp;rw[p];omega;refine aB ?_;refine bY (s':=⟨[(1,none,di s),(8,none,d_ (.pt 3 0 0)),(10,none,d_ (.fn (.func 162) [] [.pt 2 0 0,.pt 1 0 0])),(11,none,d_ (.ow 6003 0 1 0 f.length))],[(6003,none,0,.arr 9 1 f.length (su f)),(1,none,0,.box 9 [.lit (.string b)]),(2,none,0,.box 3 [.lit (.int .i64 cut)]),(3,none,0,.box 63 [.lit (.slice none 0 0)])]⟩) (fun a w o=>(o.reset (kT:=[1,8,10,11]) (kO:=[6003,1,2,3]) f_ ?_).same ?_ ?_) ?_
   ·refine⟨fun i _=>?_,trivial⟩;unfold XB
    split<;>rfl
   refine .cons rfl (.cons rfl (.cons rfl (.cons ?_ .nil)));change d_ (.ow 6003 0 prog.types[9].size 0 ((f.length:Int)).toNat)=_;rw[m,MM];refine .cons (.arr ?_ (fun i n=>?_)) (.cons (.box rfl) (.cons (.box rfl) (.cons (.box rfl) .nil)));exact MM _;unfold XB;rw[MM] at n ⊢;rw[if_pos a_];have t:(f.getD s.toNat aH).size<=1000000:=by rw[zG,zH a_];exact u _ (YV _)
   refine aF ?_ ?_;simp;rw[<-zG];omega;refine aB ?_;rw[VM];refine cZ (fun a w o=>⟨.inr rfl,_,?_,o⟩);refine oG (by rfl) (by simp) (by rfl) ?_;refine .lu (.cons (.agg (.cons (.row rfl trivial a_ (fun i n=>?_) (fun i n=>rfl)) .nil)) (.cons (.one (.cold rfl)) .nil));rw[lL];split;rename_i e;obtain rfl:i=s.toNat:=by omega
   unfold su;rw[zG (l:=f.set _ _),aCx a_,lL];rfl;rename_i e;unfold su;rw[zG (l:=f.set _ _),aCD a_,zG]
def RP(f:Fl):List PC:=[.sl 1 f.length (su f)]
def Zw:Spec:=aZ false fun a=>match a with
 |[v,.w (.one (.lit (.int .i64 s))),.w (.one (.lit (.string b))),.w (.one (.lit (.int .i64 cut)))]=>(match Bd v with
  |some (p,f)=>some (p/\(∀ x∈f,x.size<=1000000)/\f.length<=1000000,.lu [.agg (RP (fU f s b cut)),.one (.lit (.int .i64 (yB f s b)))])|none=>none)
 |_=>none
theorem bKz:ai prog af 131 Zw:=by
 refine aW (aC func131 aj rfl) (fun m p r a d=>?_);split at a;rename_i v s b e;cases c:Bd v with
 |none=>rw[c] at a;cases a| some q=>
  obtain⟨o,f⟩:=q;rw[c] at a;cases a
  exact (bCu f s b e d.2.1 d.2.2).args fun C g h=>by
   match g,h with
   |[n,x,y,z],⟨l,k,j,i,_⟩=>exact⟨aGv c d.1 l,k,j,i,trivial⟩
 cases a
end Pv
section
def bF(rec a:Int):Int:=if rec<0\/3<rec\/a<0\/1<a then -1 else 8*(2*rec+a)
def qf(seq:Int)(c:List UInt8):List UInt8:=b_ seq++bI c
def encS(rec seq:Int)(c:List UInt8):List UInt8:=qf seq c++lQ 5 [b_ rec,qf seq c]
def tq(b:List UInt8):List UInt8×Nat×Int:=gJ (b.drop (au b).2.1)
def o6(rec:Int)(b:List UInt8):Int×List UInt8:=
 if (au b).2.2≠0\/(au b).1<1\/1099511627776<(au b).1 then (0,[]) else
 if (tq b).2.2≠0\/2000<(tq b).1.length\/b.take (encS rec (au b).1 (tq b).1).length≠encS rec (au b).1 (tq b).1 then (0,[]) else ((au b).1,(tq b).1)
def ut(x y:Int×List UInt8):(Int×List UInt8)×Nat:=if x.1=0\/x.1<y.1 then (y,1) else (x,0)
structure Ce where
 content:ByteArray
 seq:Int
 err:Int
def uH(x:Int×List UInt8):Ce:=if x.1=0 then⟨aH,0,13⟩ else⟨strOf x.2,x.1,0⟩
def ah.rd(s:Int):ah ByteArray:=.ask ⟨3,0,s,aH⟩ fun r=>.ret r.bytes
def ah.wr(s:Int)(b:ByteArray):ah Unit:=.ask ⟨4,0,s,b⟩ fun _=>.ret ()
def ah.l_(f:Int):Nat->List UInt8->ah (List UInt8)
 |0,b=>.ret b|n+1,b=>(ah.rd (f+((7-n:Nat):Int))).bind fun s=>ah.l_ f n (b++s.data.toList)
def ah.cur(rec:Int):ah ((Int×List UInt8)×Nat):=(ah.l_ (bF rec 0) 8 []).bind fun a=>(ah.l_ (bF rec 1) 8 []).bind fun b=>.ret (ut (o6 rec a) (o6 rec b))
def ah.load(rec:Int):ah Ce:=if bF rec 0<0 then .ret ⟨aH,0,1⟩ else (ah.cur rec).bind fun p=>.ret (uH p.1)
def jq(b:List UInt8)(k:Nat):List UInt8:=(b.drop (256*k)).take 256++DD (256-((b.drop (256*k)).take 256).length) 0
def gU:List UInt8:=DD 256 0
def nsec(b:List UInt8):Nat:=(b.length+255) / 256
def ah.ED(f:Int)(b:List UInt8):Nat->Nat->ah Unit
 |0,_=>.ret ()|n+1,i=>(ah.wr (f+(i:Int)) (strOf (jq b i))).bind fun _=>ah.ED f b n (i+1)
def ah.write(f:Int)(b:List UInt8):ah Unit:=(ah.wr f (strOf gU)).bind fun _=>(ah.ED f b (nsec b-1) 1).bind fun _=>ah.wr f (strOf (jq b 0))
def ah.save(rec:Int)(c:ByteArray):ah Ce:=if bF rec 0<0 then .ret ⟨aH,0,1⟩ else if 2000<c.size then .ret ⟨aH,0,19⟩ else
 (ah.cur rec).bind fun p=>if 1099511627776<p.1.1+1 then .ret ⟨aH,0,19⟩ else (ah.write (bF rec (1-(p.2:Int))) (encS rec (p.1.1+1) c.data.toList)).bind fun _=>.ret ⟨c,p.1.1+1,0⟩
theorem nX(seq:Int)(c:List UInt8):(qf seq c).length=(b_ seq).length+((b_ (c.length:Int)).length+c.length):=by unfold qf bI;simp
theorem mX(rec seq:Int)(c:List UInt8):(encS rec seq c).length=(qf seq c).length+16:=by unfold encS;rw[ed,jB]
theorem sK(rec:Int)(b:List UInt8):0<=(o6 rec b).1/\(o6 rec b).1<=1099511627776:=by unfold o6;split;exact⟨Int.le_refl _,by decide⟩;split;exact⟨Int.le_refl _,by decide⟩;rename_i h _;dsimp only;omega
theorem aEm:∀ (f u v:Nat),u<=v->(varint f u).length<=(varint f v).length
 |0,_,_,_=>by simp[varint]|f+1,u,v,h=>by by_cases a:v<128;rw[jZ a,jZ a_];simp;rw[nR a];by_cases b:u<128;rw[jZ b];simp;rw[nR b,Lt,Lt];exact Nat.succ_le_succ (aEm f _ _ (Nat.div_le_div_right h))
theorem bLv(rec seq:Int){s c:List UInt8}(h:s.length<=c.length):(encS rec seq s).length<=(encS rec seq c).length:=by have a:(b_ (s.length:Int)).length<=(b_ (c.length:Int)).length:=aEm 9 _ _ (by unfold zig;rw[if_pos a_,if_pos a_];omega);rw[mX,mX,nX,nX];omega
theorem aZh(rec seq:Int)(c r:List UInt8)(h1:1<=seq)(h2:seq<=1099511627776)(hc:c.length<=2000):o6 rec (encS rec seq c++r)=(seq,c):=by
 obtain⟨d,b⟩:∃ d,lQ 5 [b_ rec,qf seq c]=d:=⟨_,rfl⟩;have a:encS rec seq c++r=b_ seq++(bI c++(d++r)):=by unfold encS;rw[b];unfold qf;simp
 have g:au (encS rec seq c++r)=(seq,(b_ seq).length,0):=by rw[a];exact iP _ a_ a_
 have k:tq (encS rec seq c++r)=(c,(bI c).length,0):=by unfold tq;rw[g];dsimp only;rw[a,List.drop_left];exact kX _ _ a_
 unfold o6;rw[g,k];dsimp only;rw[if_neg a_,List.take_left,if_neg mg]
theorem bMf(rec:Int)(b:List UInt8):o6 rec (0::b)=(0,[]):=by have h:au (0::b)=(0,1,0):=iP (n:=0) b jc jc;unfold o6;rw[h];rfl
theorem bFc{n:Int}(h1:-9223372036854775808<=n)(h2:n<9223372036854775808)(h0:n≠0):(b_ n).getD ((b_ n).length-1) 0≠0:=by
 have c:=aKv n h1 h2
 have a:zig n≠0:=by unfold zig;split<;>omega
 have b:yJ (b_ n):=aQc 9 _ (by have:=Zd h1 h2;omega) a;exact (uF (b_ n) ((b_ n).length-1) a_).1 b
theorem aRe{v:Int}{r W:List UInt8}{cut n k:Nat}{q:Int}(h1:-9223372036854775808<=v)(h2:v<9223372036854775808)(l:∀ i,i<cut->W[i]?=(b_ v++r)[i]?)(j:∀ i,cut<=i->i<n->W[i]?=some 0)(hn:10<=n)(m:au W=(q,k,0)) :
  (q=v/\k=(b_ v).length)\/(q=0/\k=1):=by
 obtain⟨c,u,t,s,h,g⟩:=bKv m;by_cases p:k<=cut;left;have e:(b_ v++r).take k=b_ q:=by rw[<-c];apply YE;intro i;rw[xe,xe];split;exact (l i a_).symm;rfl
 have o:b_ v++r=b_ q++(b_ v++r).drop k:=by rw[<-e,aBd]
 have d:=iP r h1 h2;rw[o,iP _ h g] at d;simp only[Prod.mk.injEq,and_true] at d;refine⟨d.1,?_⟩;have:(W.take k).length=k:=by rw[uk];omega
 rw[c] at this;rw[<-this,d.2];right;have b:(b_ q).length=k:=by rw[<-c,uk];omega
 have a:(b_ q).getD (k-1) 0=0:=by rw[<-c,zG,xe,if_pos a_,j (k-1) a_ a_];rfl
 by_cases f:q=0;subst f;exact⟨rfl,by rw[<-b];rfl⟩;exact absurd (b ▸ a) (by rw[b];have:=bFc h g f;rw[b] at this;exact this)
theorem bMg{rec seq:Int}{c W:List UInt8}{cut:Nat}(h1:1<=seq)(h2:seq<=1099511627776)(hc:c.length<=2000)(G:cut<=(encS rec seq c).length)(B:∀ i,i<cut->W[i]?=(encS rec seq c)[i]?)(A:∀ i,cut<=i->i<256->W[i]?=some 0) :
  o6 rec W=(0,[])\/∃ s,o6 rec W=(seq,s)/\s.length<=c.length/\W.take (encS rec seq s).length=encS rec seq s:=by
 obtain⟨d,F⟩:∃ d,lQ 5 [b_ rec,qf seq c]=d:=⟨_,rfl⟩;have C:encS rec seq c=b_ seq++(b_ (c.length:Int)++(c++d)):=by unfold encS;rw[F];unfold qf bI;simp
 have E:=aP seq;have D:=aP (c.length:Int);by_cases f:o6 rec W=(0,[]);exact .inl f;right;unfold o6 at f;split at f;exact absurd rfl f
 ·rename_i o;split at f;exact absurd rfl f
  ·rename_i l;obtain⟨q,k,e,g⟩:∃ q k e,au W=(q,k,e):=⟨_,_,_,rfl⟩;have t:=o;rw[g] at o;dsimp only at o;obtain rfl:e=0:=by omega
   have p:q=seq/\k=(b_ seq).length:=by rcases aRe (v:=seq) (r:=b_ (c.length:Int)++(c++d)) (W:=W) (cut:=cut) (n:=256) a_ a_ (fun i z=>by rw[B i z,C]) A a_ g with h|h;exact h;omega
   obtain⟨rfl,rfl⟩:=p;have a:tq W=gJ (W.drop (b_ q).length):=by unfold tq;rw[g]
   have y:(tq W).1.length<=c.length:=by
    by_cases b:(au (W.drop (b_ q).length)).2.2=0
    ·obtain⟨m,j,e,x⟩:∃ m j e,au (W.drop (b_ q).length)=(m,j,e):=⟨_,_,_,rfl⟩;rw[x] at b;obtain rfl:e=0:=b
     have w:m=(c.length:Int)\/m=0:=by
      have u:∀ i,i<cut-(b_ q).length->(W.drop (b_ q).length)[i]?=(b_ (c.length:Int)++(c++d))[i]?:=fun i z=>by rw[PR,B _ a_,C,YC a_,show (b_ q).length+i-(b_ q).length=i from by omega]
      rcases aRe (v:=(c.length:Int)) (r:=c++d) (W:=W.drop (b_ q).length) (cut:=cut-(b_ q).length) (n:=256-(b_ q).length) a_ a_ u (fun i z H=>by rw[PR];exact A _ a_ a_) a_ x with h|h;exact .inl h.1;exact .inr h.1
     rw[a];unfold gJ;rw[x];dsimp only;rw[if_neg ay];split;simp
     ·split;simp
      ·rw[uk];rcases w with rfl|rfl<;>omega
    rw[a];unfold gJ;rw[if_pos b];simp
   refine⟨(tq W).1,?_,y,?_⟩;unfold o6;rw[if_neg t,if_neg l,g];rw[g] at l;dsimp only at l;by_cases h:W.take (encS rec q (tq W).1).length=encS rec q (tq W).1;exact h;exact absurd (.inr (.inr h)) l
def jR(cut:Int)(a:Acc)(f:Fl):Fl:=if a.kind=3 then f else fU f a.cell a.bytes cut
def CB(a:Acc)(f:Fl):jh:=⟨0,if a.kind=3 then strOf (sec f a.cell) else aH⟩
section
variable {α β:Type}
def zt:ah α->Fl->α
 |.ret a,_=>a|.ask a k,f=>zt (k (CB a f)) (jR (-1) a f)
def og:ah α->Fl->List Acc
 |.ret _,_=>[]|.ask a k,f=>a::og (k (CB a f)) (jR (-1) a f)
def y8(L:List Acc)(f:Fl):Fl:=L.foldl (fun f a=>jR (-1) a f) f
theorem aGu(L M:List Acc)(f:Fl):y8 (L++M) f=y8 M (y8 L f):=List.foldl_append ..
theorem sU(p:ah α)(g:α->ah β):∀ f,og (p.bind g) f=og p f++og (g (zt p f)) (y8 (og p f) f):=by
 induction p with
 |ret a=>intro f;rfl|ask a k b=>intro f;show a::og ((k (CB a f)).bind g) (jR (-1) a f)=_;rw[b];rfl
theorem wI(p:ah α)(g:α->ah β):∀ f,zt (p.bind g) f=zt (g (zt p f)) (y8 (og p f) f):=by
 induction p with
 |ret a=>intro f;rfl|ask a k b=>intro f;show zt ((k (CB a f)).bind g) (jR (-1) a f)=_;rw[b];rfl
def bLr(cut bytes:Int):ah α->Fl->List Acc->Fl×Option α×List Acc
 |.ret o,f,l=>(f,some o,l)|.ask a k,f,l=>if (l.length:Int)=cut then (jR (max 0 bytes) a f,none,l++[a]) else bLr cut bytes (k (CB a f)) (jR (-1) a f) (l++[a])
theorem aNe(cut bytes:Int)(p:ah α):∀ (f:Fl) (l:List Acc),bLr cut bytes p f l =
  if h:(l.length:Int)<=cut/\(cut-l.length).toNat<(og p f).length then
   (jR (max 0 bytes) ((og p f)[(cut-l.length).toNat]'h.2) (y8 ((og p f).take (cut-l.length).toNat) f),none,l++(og p f).take ((cut-l.length).toNat+1))
  else (y8 (og p f) f,some (zt p f),l++og p f):=by
 induction p with
 |ret a=>intro f l;rw[dif_neg (by simp[og])];simp[bLr,og,y8,zt]| ask a k e=>
  intro f l;rw[bLr];by_cases b:(l.length:Int)=cut;rw[if_pos b];have d:(cut-(l.length:Int)).toNat=0:=by omega
  rw[dif_pos ⟨by omega,by rw[d];simp[og]⟩];simp[d,og,y8];rw[if_neg b,e];have g:((l++[a]).length:Int)=l.length+1:=by simp
  by_cases h:(((l++[a]).length:Nat):Int)<=cut/\(cut-((l++[a]).length:Nat)).toNat<(og (k (CB a f)) (jR (-1) a f)).length;have c:(cut-(l.length:Int)).toNat=(cut-((l++[a]).length:Nat)).toNat+1:=by omega
  rw[dif_pos h,dif_pos ⟨by omega,by rw[c];simp only[og,Lt];omega⟩];simp only[c,og,List.getElem_cons_succ,aFD,y8,aDO,yl,aDj]
  rw[dif_neg h,dif_neg (by
   simp only[og,Lt]
   omega)]
  simp only[og,y8,aDO,yl,aDj,zt]
end
def FM(f:Fl)(s:Int):Nat->List UInt8
 |0=>[]|n+1=>sec f (s+((7-n:Nat):Int))++FM f s n
def zV(f:Fl)(s:Int):List UInt8:=FM f s 8
def pY(s:Int):Nat->List Acc
 |0=>[]|n+1=>⟨3,0,s+((7-n:Nat):Int),aH⟩::pY s n
theorem rX(s:Int):∀ (n:Nat) (f:Fl),y8 (pY s n) f=f
 |0,_=>rfl|n+1,f=>rX s n f
theorem aTi(s:Int):∀ (n:Nat) (b:List UInt8) (f:Fl),og (ah.l_ s n b) f=pY s n/\zt (ah.l_ s n b) f=b++FM f s n
 |0,b,f=>⟨rfl,by simp[ah.l_,zt,FM]⟩|n+1,b,f=>by have a:=aTi s n (b++sec f (s+((7-n:Nat):Int))) f;have e:ah.l_ s (n+1) b=.ask ⟨3,0,s+((7-n:Nat):Int),aH⟩ fun r=>ah.l_ s n (b++r.bytes.data.toList):=rfl;rw[e];simp only[og,zt,jR,CB,if_pos,bV];rw[a.1,a.2];exact⟨rfl,by rw[FM,yl]⟩
def Da(f:Fl)(rec k:Int):Int×List UInt8:=o6 rec (zV f (bF rec k))
def jv(f:Fl)(rec:Int):(Int×List UInt8)×Nat:=ut (Da f rec 0) (Da f rec 1)
def Bg(rec:Int):List Acc:=pY (bF rec 0) 8++pY (bF rec 1) 8
theorem OV(rec:Int)(f:Fl):og (ah.cur rec) f=Bg rec/\zt (ah.cur rec) f=jv f rec/\y8 (og (ah.cur rec) f) f=f:=by
 have a:=aTi (bF rec 0) 8 [] f;have b:=aTi (bF rec 1) 8 [] f;have e:og (ah.cur rec) f=Bg rec:=by unfold ah.cur;rw[sU,sU,a.1,rX,b.1];simp[og,Bg]
 refine⟨e,?_,?_⟩;unfold ah.cur;rw[wI,wI,a.1,rX,a.2,b.2];rfl;rw[e];unfold Bg;rw[aGu,rX,rX]
theorem nU(rec:Int):(Bg rec).length=16:=rfl
def Aj(s:Int)(b:List UInt8):Nat->Nat->List Acc
 |0,_=>[]|n+1,i=>⟨4,0,s+(i:Int),strOf (jq b i)⟩::Aj s b n (i+1)
def fC(s:Int)(b:List UInt8):List Acc:=⟨4,0,s,strOf gU⟩::(Aj s b (nsec b-1) 1++[⟨4,0,s,strOf (jq b 0)⟩])
theorem TI(s:Int)(b:List UInt8):∀ (n i:Nat) (f:Fl),og (ah.ED s b n i) f=Aj s b n i
 |0,_,_=>rfl|n+1,i,f=>by have e:ah.ED s b (n+1) i=.ask ⟨4,0,s+(i:Int),strOf (jq b i)⟩ fun _=>ah.ED s b n (i+1):=rfl;rw[e,og,TI s b n (i+1)];rfl
theorem Oi(s:Int)(b:List UInt8)(f:Fl):og (ah.write s b) f=fC s b:=by have e:ah.write s b=.ask ⟨4,0,s,strOf gU⟩ fun _=>(ah.ED s b (nsec b-1) 1).bind fun _=>ah.wr s (strOf (jq b 0)):=rfl;rw[e,og,sU,TI];rfl
theorem mO(s:Int)(b:List UInt8):∀ n i,(Aj s b n i).length=n
 |0,_=>rfl|n+1,i=>by rw[Aj,Lt,mO]
theorem aKq(s:Int)(b:List UInt8):∀ (n i j:Nat),j<n->(Aj s b n i)[j]?=some ⟨4,0,s+((i+j:Nat):Int),strOf (jq b (i+j))⟩
 |0,_,_,h=>by omega|n+1,i,0,_=>rfl|n+1,i,j+1,h=>by rw[Aj,Yv,aKq s b n (i+1) j a_,show i+1+j=i+(j+1) from by omega]
theorem wS{rec k:Int}(h1:0<=rec)(h2:rec<=3)(h3:0<=k)(h4:k<=1):bF rec k=8*(2*rec+k):=by unfold bF;rw[if_neg a_]
theorem aZl(x y:Int×List UInt8):(ut x y).2=0\/(ut x y).2=1:=by unfold ut;split<;>simp
theorem aXh{rec:Int}{c:ByteArray}{f:Fl}(h1:0<=rec)(h2:rec<=3)(hc:c.size<=2000)(hs:(jv f rec).1.1+1<=1099511627776) :
  og (ah.save rec c) f=Bg rec++fC (bF rec (1-((jv f rec).2:Int))) (encS rec ((jv f rec).1.1+1) c.data.toList)/\zt (ah.save rec c) f=⟨c,(jv f rec).1.1+1,0⟩:=by
 obtain⟨d,b,a⟩:=OV rec f;have e:¬bF rec 0<0:=by rw[wS h1 h2 a_ a_];omega
 unfold ah.save;rw[if_neg e,if_neg a_,sU,wI,a,b,d,if_neg a_,sU,wI,Oi];simp[og,zt]
theorem Vp{rec:Int}{f:Fl}(h1:0<=rec)(h2:rec<=3):og (ah.load rec) f=Bg rec/\zt (ah.load rec) f=uH (jv f rec).1:=by
 obtain⟨c,b,a⟩:=OV rec f;have d:¬bF rec 0<0:=by rw[wS h1 h2 a_ a_];omega
 unfold ah.load;rw[if_neg d,sU,wI,a,b,c];simp[og,zt]
def Sz(f:Fl):Prop:=f.length=128/\∀ x∈f,x.size=256
theorem Sz.sec{f:Fl}(h:Sz f){s:Int}(h1:0<=s)(h2:s<128):(sec f s).length=256:=by
 obtain⟨k,rfl⟩:∃ k:Nat,s=(k:Int):=⟨s.toNat,by omega⟩;have a:k<f.length:=by rw[h.1];omega
 unfold Go.Proofs.YtndpjopifkbgiaaGreatDoor.sec;rw[if_pos a_,MM,zG,zH a,Option.getD_some,mf];exact h.2 _ (YV a)
theorem aTd{cut:Int}{b old:List UInt8}(hb:b.length=256)(a:old.length=256):(yx cut b old).length=256:=by unfold yx;split;exact hb;rw[ed,uk,AC];omega
theorem aRi{f:Fl}(h:Sz f)(s:Int)(b:ByteArray)(cut:Int):Sz (fU f s b cut):=by unfold fU;split;rename_i q;refine⟨by rw[VM];exact h.1,fun x a=>?_⟩;rcases List.mem_or_eq_of_mem_set a with a|rfl;exact h.2 x a;rw[bJ];exact aTd (by rw[mf];exact q.2.2) (h.sec q.1 (by have:=h.1;omega));exact h
theorem xE{f:Fl}(h:Sz f)(cut:Int)(a:Acc):Sz (jR cut a f):=by unfold jR;split;exact h;exact aRi h _ _ _
theorem aYx:∀ {L:List Acc} {f:Fl},Sz f->Sz (y8 L f)
 |[],_,h=>h|a::L,_,h=>aYx (L:=L) (xE h (-1) a)
theorem rU{f:Fl}(h:Sz f){s:Int}(h1:0<=s)(h2:s<128){b:List UInt8}(hb:b.length=256)(cut t:Int):sec (fU f s (strOf b) cut) t=if t=s then yx cut b (sec f s) else sec f t:=by
 have c:=h.1;unfold fU;rw[if_pos ⟨h1,by omega,by rw[bJ];exact hb⟩,bV];by_cases a:t=s;subst a;rw[if_pos rfl];have e:∀ x:ByteArray,sec (f.set t.toNat x) t=x.data.toList:=fun x=>by unfold sec;rw[if_pos (by rw[VM];omega),zG,aCx a_,Option.getD_some]
 rw[e,bV];rw[if_neg a];unfold sec;rw[VM];split;rw[zG,aCD a_,<-zG];rfl
theorem fM(b:List UInt8)(k:Nat):(jq b k).length=256:=by unfold jq;rw[ed,Yk,uk];omega
theorem aTl{b:List UInt8}{k j:Nat}(a:j<256)(h:256*k+j<b.length):(jq b k)[j]?=b[256*k+j]?:=by unfold jq;rw[YO (by rw[uk,AC];omega),xe,if_pos a,PR]
theorem nP:gU.length=256:=Yk
theorem aKp{j:Nat}(a:j<256):gU[j]?=some 0:=by unfold gU;rw[List.getElem?_replicate,if_pos a]
theorem aXg{f:Fl}(h:Sz f){s:Int}(h1:0<=s)(h2:s<128){b:List UInt8}(hb:b.length=256)(t:Int):sec (jR (-1) ⟨4,0,s,strOf b⟩ f) t=if t=s then b else sec f t:=by have:jR (-1) ⟨4,0,s,strOf b⟩ f=fU f s (strOf b) (-1):=rfl;rw[this,rU h h1 h2 hb];have e:yx (-1) b (sec f s)=b:=if_pos (.inl jc);rw[e]
theorem aFf{f g:Fl}{s:Int}:∀ n,n<=8->(∀ t,s+((8-n:Nat):Int)<=t->t<s+8->sec f t=sec g t)->FM f s n=FM g s n
 |0,_,_=>rfl|n+1,b,h=>by rw[FM,FM,h _ a_ a_,aFf n a_ (fun t c a=>h t a_ a)]
theorem aHp{f g:Fl}{s:Int}(h:∀ t,s<=t->t<s+8->sec f t=sec g t):zV f s=zV g s:=aFf 8 (dE _) (fun t b a=>h t a_ a)
theorem aXr{f:Fl}(h:Sz f){s:Int}(h1:0<=s)(h2:s+8<=128){j:Nat}(c:j<256):∀ (n i:Nat),n<=8->i<n->(FM f s n)[256*i+j]?=(sec f (s+((8-n+i:Nat):Int)))[j]?
 |0,_,_,d=>by omega|n+1,0,b,_=>by rw[FM,YO (by rw[h.sec a_ a_];omega)];rw[show 8-(n+1)+0=7-n from by omega];congr 1;omega|n+1,i+1,b,d=>by have a:=h.sec (s:=s+((7-n:Nat):Int)) a_ a_;rw[FM,YC (by rw[a];omega),a,show 256*(i+1)+j-256=256*i+j from by omega,aXr h h1 h2 c n i a_ a_];rw[show 8-(n+1)+(i+1)=8-n+i from by omega]
theorem aZs{f:Fl}(h:Sz f){s:Int}(h1:0<=s)(h2:s+8<=128){i j:Nat}(b:i<8)(a:j<256):(zV f s)[256*i+j]?=(sec f (s+(i:Int)))[j]?:=by have:=aXr h h1 h2 a 8 i (dE _) b;rw[show 8-8+i=i from by omega] at this;exact this
theorem aWv{s:Int}{b:List UInt8}:∀ (n i:Nat) {f:Fl},Sz f->0<=s->s+((i+n:Nat):Int)<=128->∀ t:Int,sec (y8 (Aj s b n i) f) t=if s+(i:Int)<=t/\t<s+((i+n:Nat):Int) then jq b (t-s).toNat else sec f t
 |0,i,f,_,_,_,t=>by rw[if_neg a_];rfl|n+1,i,f,h,e,g,t=>by have d:=aWv (b:=b) n (i+1) (xE h (-1) ⟨4,0,s+(i:Int),strOf (jq b i)⟩) e a_ t;rw[Aj];show sec (y8 (Aj s b n (i+1)) (jR (-1) ⟨4,0,s+(i:Int),strOf (jq b i)⟩ f)) t=_;rw[d,aXg h a_ a_ (fM _ _)];by_cases a:t=s+(i:Int);subst a;rw[if_neg a_,if_pos rfl,if_pos a_,show (s+(i:Int)-s).toNat=i from by omega];rw[if_neg a];by_cases c:s+(i:Int)<=t/\t<s+((i+(n+1):Nat):Int);rw[if_pos c,if_pos a_];rw[if_neg c,if_neg a_]
theorem aBq{s:Int}{b:List UInt8}{f:Fl}(h:Sz f)(h1:0<=s)(h2:s+(nsec b:Int)<=128)(hb:0<b.length){m:Nat}(l:1<=m)(e:m<=nsec b)(t:Int) :
  sec (y8 ((fC s b).take m) f) t=if t=s then gU else if s<t/\t<s+(m:Int) then jq b (t-s).toNat else sec f t:=by
 have i:1<=nsec b:=by unfold nsec;omega
 obtain⟨m,rfl⟩:∃ k,m=k+1:=⟨m-1,by omega⟩;have g:(Aj s b (nsec b-1) 1++[(⟨4,0,s,strOf (jq b 0)⟩:Acc)]).take m=Aj s b m 1:=by apply YE;intro j;rw[xe];by_cases c:j<m;rw[if_pos c,YO (by rw[mO];omega),aKq _ _ _ _ _ a_,aKq _ _ _ _ _ c];rw[if_neg c,GM (by rw[mO];omega)]
 rw[fC,aFD,g];show sec (y8 (Aj s b m 1) (jR (-1) ⟨4,0,s,strOf gU⟩ f)) t=_;rw[aWv m 1 (xE h _ _) h1 a_,aXg h h1 a_ nP];by_cases a:t=s;subst a;rw[if_neg a_,if_pos rfl,if_pos rfl];rw[if_neg a,if_neg a];by_cases d:s<t/\t<s+((m+1:Nat):Int);rw[if_pos d,if_pos a_];rw[if_neg d,if_neg a_]
theorem kD(s:Int)(b:List UInt8)(hb:0<b.length):(fC s b).length=nsec b+1:=by
 have a:1<=nsec b:=by unfold nsec;omega
 rw[fC,Lt,ed,mO,Yd];omega
theorem sZ(s:Int)(b:List UInt8)(hb:0<b.length):(fC s b)[nsec b]?=some ⟨4,0,s,strOf (jq b 0)⟩:=by
 have c:1<=nsec b:=by unfold nsec;omega
 obtain⟨k,a⟩:∃ k,nsec b=k+1:=⟨nsec b-1,by omega⟩;rw[fC,a,Yv,YC (by rw[mO];omega),mO];simp
theorem aOb{s:Int}{b:List UInt8}{m:Nat}(c:1<=m)(a:m<nsec b):(fC s b)[m]?=some ⟨4,0,s+(m:Int),strOf (jq b m)⟩:=by obtain⟨k,rfl⟩:∃ k,m=k+1:=⟨m-1,by omega⟩;rw[fC,Yv,YO (by rw[mO];omega),aKq _ _ _ _ _ a_,show 1+k=k+1 from by omega]
end
section
structure TE where
 jb:Int
 content:ByteArray
 cut:Int
 bytes:Int
def EC:Ce:=⟨aH,0,0⟩
def D6(f:Fl)(u:TE):Fl×Ce×Bool×List Acc:=match bLr u.cut u.bytes (ah.save u.jb u.content) f [] with
 |(a,some o,l)=>(a,o,true,l)|(a,none,l)=>(a,EC,false,l)
theorem aRz(f:Fl)(rec:Int):Da f rec ((jv f rec).2:Int)=(jv f rec).1/\(Da f rec (1-((jv f rec).2:Int))).1<=(jv f rec).1.1:=by have b:=(sK rec (zV f (bF rec 0))).1;have a:=(sK rec (zV f (bF rec 1))).1;change 0<=(Da f rec 0).1 at b;change 0<=(Da f rec 1).1 at a;unfold jv ut;by_cases h:(Da f rec 0).1=0\/(Da f rec 0).1<(Da f rec 1).1;rw[if_pos h];exact⟨rfl,by show (Da f rec 0).1<=(Da f rec 1).1;omega⟩;rw[if_neg h];exact⟨rfl,by show (Da f rec 1).1<=(Da f rec 0).1;omega⟩
theorem aHe(f:Fl)(rec:Int):0<=(jv f rec).1.1/\(jv f rec).1.1<=1099511627776:=by have:=sK rec (zV f (bF rec ((jv f rec).2:Int)));change 0<=(Da f rec _).1/\(Da f rec _).1<=_ at this;rwa [(aRz f rec).1] at this
theorem Ry{f g:Fl}{rec:Int}{x:List UInt8}(h:Da g rec ((jv f rec).2:Int)=(jv f rec).1)(hb:Da g rec (1-((jv f rec).2:Int))=((jv f rec).1.1+1,x)):(jv g rec).1=((jv f rec).1.1+1,x):=by
 have e:=aHe f rec;rcases aZl (Da f rec 0) (Da f rec 1) with b|b
 ·have a:(jv f rec).2=0:=b;rw[a] at h hb;have d:Da g rec 0=(jv f rec).1:=h;have c:Da g rec 1=_:=hb
  conv=>lhs;unfold jv
  rw[d,c];unfold ut;rw[if_pos (.inr (by dsimp only;omega))]
 ·have a:(jv f rec).2=1:=b;rw[a] at h hb;have c:Da g rec 1=(jv f rec).1:=h;have d:Da g rec 0=_:=hb
  conv=>lhs;unfold jv
  rw[d,c];unfold ut;rw[if_neg (by dsimp only;omega)]
def iw(f:Fl)(u:TE):List UInt8:=encS u.jb ((jv f u.jb).1.1+1) u.content.data.toList
def jf(f:Fl)(u:TE):Int:=bF u.jb (1-((jv f u.jb).2:Int))
structure Fine(f:Fl)(u:TE):Prop where
 sz:Sz f
 r0:0<=u.jb
 r3:u.jb<=3
 c:u.content.size<=2000
 s:(jv f u.jb).1.1+1<=1099511627776
section
variable {f:Fl} {u:TE}
theorem Fine.len(h:Fine f u):0<(iw f u).length/\(iw f u).length<=2048:=by have e:=aP ((jv f u.jb).1.1+1);have d:=aP (u.content.data.toList.length:Int);have b:u.content.data.toList.length=u.content.size:=mf;have a:=h.c;unfold iw;rw[mX,nX];omega
theorem Fine.first(h:Fine f u):0<=jf f u/\jf f u+8<=64/\jf f u=16*u.jb+8*(1-((jv f u.jb).2:Int)):=by have b:=h.r0;have a:=h.r3;have c:(jv f u.jb).2=0\/(jv f u.jb).2=1:=aZl _ _;unfold jf;rw[wS b a a_ a_];omega
theorem Fine.nsec(h:Fine f u):1<=nsec (iw f u)/\nsec (iw f u)<=8:=by have:=h.len;unfold Go.Proofs.YtndpjopifkbgiaaGreatDoor.nsec;omega
theorem aFp(h:Fine f u)(hc:u.cut<0\/17+(nsec (iw f u):Int)<=u.cut):D6 f u=(y8 (fC (jf f u) (iw f u)) f,⟨u.content,(jv f u.jb).1.1+1,0⟩,true,Bg u.jb++fC (jf f u) (iw f u)):=by
 obtain⟨b,d⟩:=aXh (c:=u.content) h.r0 h.r3 h.c h.s;have a:=(OV u.jb f).2.2;rw[(OV u.jb f).1] at a;unfold D6
 rw[aNe,dif_neg (by
  rw[b,ed,nU];change ¬(_/\_<16+(fC (jf f u) (iw f u)).length);rw[kD _ _ h.len.1,List.length_nil]
  omega)]
 dsimp only;rw[b,d,aGu,a];rfl
theorem Ij(h:Fine f u)(h0:0<=u.cut)(h1:u.cut<16):D6 f u=(f,EC,false,(Bg u.jb).take (u.cut.toNat+1)):=by
 obtain⟨j,x⟩:=aXh (c:=u.content) h.r0 h.r3 h.c h.s
 have k:∀ (s:Int) (n:Nat) (a:Acc),a∈pY s n->a.kind=3:=by
  intro s n
  induction n with
  |zero=>intro a d;cases d|succ n m=>intro a d;rcases List.mem_cons.1 d with rfl|d;rfl;exact m a d
 have e:∀ a∈Bg u.jb,a.kind=3:=fun a d=>by rcases List.mem_append.1 d with d|d;exact k _ _ a d;exact k _ _ a d
 have p:∀ (L:List Acc) (g:Fl),(∀ a∈L,a.kind=3)->y8 L g=g:=by
  intro L
  induction L with
  |nil=>intro g _;rfl|cons a L m=>intro g r;show y8 L (jR (-1) a g)=g;rw[show jR (-1) a g=g from if_pos (r a List.mem_cons_self)];exact m g fun b w=>r b (Y3 _ w)
 have l:(u.cut-(([]:List Acc).length:Int)).toNat=u.cut.toNat:=by simp
 have i:u.cut.toNat<(Bg u.jb).length:=by rw[nU];omega
 unfold D6;rw[aNe,dif_pos ⟨by simpa using h0,by rw[j,l,ed];omega⟩];dsimp only;have t:(og (ah.save u.jb u.content) f).take u.cut.toNat=(Bg u.jb).take u.cut.toNat:=by rw[j,aDd a_]
 have o:(og (ah.save u.jb u.content) f).take (u.cut.toNat+1)=(Bg u.jb).take (u.cut.toNat+1):=by rw[j,aDd a_]
 have q:(og (ah.save u.jb u.content) f)[(u.cut-(([]:List Acc).length:Int)).toNat]?=(Bg u.jb)[u.cut.toNat]?:=by rw[l,j,YO i]
 rw[WF];rw[zH (by rw[l,j,ed];omega),zH i] at q;rw[Option.some.inj q];simp only[l];rw[t,o,p _ f (fun a d=>e a (List.mem_of_mem_take d))];rw[show jR (max 0 u.bytes) (Bg u.jb)[u.cut.toNat] f=f from if_pos (e _ (YV i))]
theorem bHu(h:Fine f u){j:Nat}(hc:u.cut=16+(j:Int))(o:j<=nsec (iw f u))(a:Acc)(l:(fC (jf f u) (iw f u))[j]?=some a) :
  D6 f u=(jR (max 0 u.bytes) a (y8 ((fC (jf f u) (iw f u)).take j) f),EC,false,Bg u.jb++(fC (jf f u) (iw f u)).take (j+1)):=by
 obtain⟨d,n⟩:=aXh (c:=u.content) h.r0 h.r3 h.c h.s;change og (ah.save u.jb u.content) f=Bg u.jb++fC (jf f u) (iw f u) at d;have g:=(OV u.jb f).2.2;rw[(OV u.jb f).1] at g;have e:(u.cut-(([]:List Acc).length:Int)).toNat=16+j:=by simp;omega
 have b:(og (ah.save u.jb u.content) f).length=16+(nsec (iw f u)+1):=by rw[d,ed,nU,kD _ _ h.len.1]
 unfold D6;rw[aNe,dif_pos ⟨by simp;omega,by rw[e,b];omega⟩];dsimp only;have k:(og (ah.save u.jb u.content) f)[(u.cut-(([]:List Acc).length:Int)).toNat]?=some a:=by rw[e,d,YC (by rw[nU];omega),nU,show 16+j-16=j from by omega];exact l
 rw[zH (by rw[e,b];omega)] at k;rw[Option.some.inj k,WF];simp only[e];have i:∀ m,(og (ah.save u.jb u.content) f).take (16+m)=Bg u.jb++(fC (jf f u) (iw f u)).take m:=fun m=>by rw[d,List.take_append,nU,show 16+m-16=m from by omega,IR (by rw[nU];omega)]
 rw[i j,show 16+j+1=16+(j+1) from by omega,i (j+1),aGu,g]
theorem aNz(h:Fine f u){j:Nat}(n:j<=nsec (iw f u))(a:Acc)(c:(fC (jf f u) (iw f u))[j]?=some a)(cut:Int):Sz (jR cut a (y8 ((fC (jf f u) (iw f u)).take j) f)) /\
  ∀ t,(t<jf f u\/jf f u+8<=t)->sec (jR cut a (y8 ((fC (jf f u) (iw f u)).take j) f)) t=sec f t:=by
 have l:=h.len;have o:=h.first;have r:=h.nsec;have k:Sz (y8 ((fC (jf f u) (iw f u)).take j) f):=aYx h.sz;refine⟨xE k _ _,fun t q=>?_⟩
 have p:∃ (m:Nat) (b:List UInt8),m<8/\b.length=256/\a=⟨4,0,jf f u+(m:Int),strOf b⟩:=by
  rcases Yi j with rfl|d;rw[fC,YT] at c;cases c
  exact⟨0,gU,by omega,nP,by simp⟩;rcases aEF n with g|rfl;rw[aOb d g] at c;cases c
  exact⟨j,_,by omega,fM _ _,rfl⟩;rw[sZ _ _ l.1] at c;cases c;exact⟨0,jq (iw f u) 0,by omega,fM _ _,by simp⟩
 obtain⟨m,b,s,i,rfl⟩:=p;have e:jR cut ⟨4,0,jf f u+(m:Int),strOf b⟩ (y8 ((fC (jf f u) (iw f u)).take j) f)=fU (y8 ((fC (jf f u) (iw f u)).take j) f) (jf f u+(m:Int)) (strOf b) cut:=rfl;rw[e,rU k a_ a_ i,if_neg a_];rcases Yi j with rfl|d;rfl;rw[aBq h.sz o.1 a_ l.1 d n,if_neg a_,if_neg a_]
theorem Fa(h:Fine f u):y8 (fC (jf f u) (iw f u)) f=jR (-1) ⟨4,0,jf f u,strOf (jq (iw f u) 0)⟩ (y8 ((fC (jf f u) (iw f u)).take (nsec (iw f u))) f):=by
 have a:=h.len;have e:fC (jf f u) (iw f u)=(fC (jf f u) (iw f u)).take (nsec (iw f u))++[⟨4,0,jf f u,strOf (jq (iw f u) 0)⟩]:=by apply YE;intro i;rcases Nat.lt_trichotomy i (nsec (iw f u)) with b|rfl|b;rw[YO (by rw[uk,kD _ _ a.1];omega),xe,if_pos b];rw[sZ _ _ a.1,YC (by rw[uk];omega),uk,kD _ _ a.1,Nat.min_eq_left a_,Nat.sub_self];rfl;rw[GM (by rw[kD _ _ a.1];omega),GM (by rw[ed,uk,kD _ _ a.1,Yd];omega)]
 conv=>lhs;rw[e,aGu]
 rfl
theorem last_at(h:Fine f u)(cut:Int)(i:Nat):let W:=zV (jR cut ⟨4,0,jf f u,strOf (jq (iw f u) 0)⟩ (y8 ((fC (jf f u) (iw f u)).take (nsec (iw f u))) f)) (jf f u)
  (i<(iw f u).length->(cut<0\/256<=cut\/(i:Int)<cut\/256<=i)->W[i]?=(iw f u)[i]?)/\(0<=cut->cut<256->cut<=i->i<256->W[i]?=some 0):=by
 intro W;have p:=h.len;have g:=h.first;have o:=h.nsec;have l:Sz (y8 ((fC (jf f u) (iw f u)).take (nsec (iw f u))) f):=aYx h.sz;have d:=xE l cut ⟨4,0,jf f u,strOf (jq (iw f u) 0)⟩
 have a:∀ t,sec (jR cut ⟨4,0,jf f u,strOf (jq (iw f u) 0)⟩ (y8 ((fC (jf f u) (iw f u)).take (nsec (iw f u))) f)) t=if t=jf f u then yx cut (jq (iw f u) 0) gU else if jf f u<t/\t<jf f u+(nsec (iw f u):Int) then jq (iw f u) (t-jf f u).toNat else sec f t:=fun t=>by
  have e:jR cut ⟨4,0,jf f u,strOf (jq (iw f u) 0)⟩ (y8 ((fC (jf f u) (iw f u)).take (nsec (iw f u))) f)=fU (y8 ((fC (jf f u) (iw f u)).take (nsec (iw f u))) f) (jf f u) (strOf (jq (iw f u) 0)) cut:=rfl;rw[e,rU l g.1 a_ (fM _ _)];have w:=fun t=>aBq h.sz g.1 (b:=iw f u) a_ p.1 o.1 (dE _) t;rw[w t,w (jf f u),if_pos rfl];split
  rfl;rfl
 have c:i<2048->W[i]?=(sec (jR cut ⟨4,0,jf f u,strOf (jq (iw f u) 0)⟩ (y8 ((fC (jf f u) (iw f u)).take (nsec (iw f u))) f)) (jf f u+((i / 256:Nat):Int)))[i % 256]?:=fun q=>by have:=aZs d g.1 a_ (i:=i / 256) (j:=i % 256) a_ a_;rw[show 256*(i / 256)+i % 256=i from by omega] at this;exact this
 refine⟨fun q m=>?_,fun y x s r=>?_⟩;rw[c a_,a];by_cases n:i<256;rw[if_pos a_,show i % 256=i from by omega];unfold yx;by_cases k:cut<0\/((jq (iw f u) 0).length:Int)<=cut;rw[if_pos k,aTl n a_,aEN,lL];rw[if_neg k];rw[fM] at k;rw[YO (by rw[uk,fM];omega),xe,if_pos a_,aTl n a_,aEN,lL];rw[if_neg a_,if_pos (by unfold nsec;omega),show (jf f u+((i / 256:Nat):Int)-jf f u).toNat=i / 256 from by omega,aTl a_ a_,show 256*(i / 256)+i % 256=i from by omega];rw[c a_,a,if_pos a_,show i % 256=i from by omega];unfold yx;rw[if_neg (by rw[fM];omega),YC (by rw[uk,fM];omega),uk,fM,PR,aKp a_]
inductive UM(f:Fl)(u:TE)(x:Int×List UInt8):Prop
 |old (h:x=Da f u.jb (1-((jv f u.jb).2:Int)))
 |bad (h:x=(0,[]))
 |new (h:x=((jv f u.jb).1.1+1,u.content.data.toList))
 |odd (s:List UInt8) (h:x=((jv f u.jb).1.1+1,s)) (hl:s.length<=2000) (hc:∀ i,i<(encS u.jb ((jv f u.jb).1.1+1) s).length->(encS u.jb ((jv f u.jb).1.1+1) s)[i]?=some 0\/(i<(iw f u).length/\(encS u.jb ((jv f u.jb).1.1+1) s)[i]?=(iw f u)[i]?))
theorem aOi(h:Fine f u){cut:Int}(hc:cut<0\/256<=cut):o6 u.jb (zV (jR cut ⟨4,0,jf f u,strOf (jq (iw f u) 0)⟩ (y8 ((fC (jf f u) (iw f u)).take (nsec (iw f u))) f)) (jf f u))=((jv f u.jb).1.1+1,u.content.data.toList):=by
 have g:=aHe f u.jb;have a:=last_at h cut;obtain⟨W,d⟩:∃ W,zV (jR cut ⟨4,0,jf f u,strOf (jq (iw f u) 0)⟩ (y8 ((fC (jf f u) (iw f u)).take (nsec (iw f u))) f)) (jf f u)=W:=⟨_,rfl⟩;rw[d] at a ⊢
 have e:W=iw f u++W.drop (iw f u).length:=by
  have:W.take (iw f u).length=iw f u:=by apply YE;intro i;rw[xe];split;rename_i b;exact (a i).1 b a_;rw[GM a_]
  conv=>lhs;rw[<-aBd (iw f u).length W,this]
 rw[e];exact aZh _ _ _ _ a_ h.s (by rw[mf];exact h.c)
theorem aKo{g:Fl}(d:Sz g){s:Int}(h1:0<=s)(h2:s+8<=128)(h:(sec g s)[0]?=some 0)(rec:Int):o6 rec (zV g s)=(0,[]):=by
 have a:=aZs d h1 h2 (i:=0) (j:=0) a_ a_;rw[show s+((0:Nat):Int)=s from by omega,h] at a;cases c:zV g s with
 |nil=>rw[c] at a;cases a|cons b l=>rw[c] at a;cases a;exact bMf _ _
theorem bAa(h:Fine f u){j:Nat}(D:j<=nsec (iw f u))(a:Acc)(m:(fC (jf f u) (iw f u))[j]?=some a){cut:Int}(h0:0<=cut):UM f u (Da (jR cut a (y8 ((fC (jf f u) (iw f u)).take j) f)) u.jb (1-((jv f u.jb).2:Int))):=by
 have C:=h.len;have p:=h.first;have J:=h.nsec;have K:=aHe f u.jb;have A:Sz (y8 ((fC (jf f u) (iw f u)).take j) f):=aYx h.sz;have E:∀ g,Da g u.jb (1-((jv f u.jb).2:Int))=o6 u.jb (zV g (jf f u)):=fun g=>rfl;rw[E];rcases Yi j with rfl|B;rw[fC,YT] at m;cases m;have e:jR cut ⟨4,0,jf f u,strOf gU⟩ (y8 ((fC (jf f u) (iw f u)).take 0) f)=fU f (jf f u) (strOf gU) cut:=rfl;have d:=rU h.sz p.1 a_ (b:=gU) nP cut;rw[e]
 by_cases y:cut=0;subst y;refine .old ?_;rw[E];congr 1;refine aHp fun t N L=>?_;rw[d];split;rename_i G;subst G;unfold yx;rw[if_neg (by rw[nP];decide)];simp;rfl;refine .bad (aKo (aRi h.sz _ _ _) p.1 a_ ?_ _);rw[d,if_pos rfl];unfold yx;split;exact aKp a_;rename_i I;have:gU.length=256:=nP;rw[YO (by rw[uk];omega),xe,if_pos a_];exact aKp a_
 ·rcases aEF D with r|rfl;rw[aOb B r] at m;cases m;refine .bad (aKo (xE A _ _) p.1 a_ ?_ _);have e:jR cut ⟨4,0,jf f u+(j:Int),strOf (jq (iw f u) j)⟩ (y8 ((fC (jf f u) (iw f u)).take j) f)=fU (y8 ((fC (jf f u) (iw f u)).take j) f) (jf f u+(j:Int)) (strOf (jq (iw f u) j)) cut:=rfl;rw[e,rU A a_ a_ (fM _ _),if_neg a_,aBq h.sz p.1 a_ C.1 B D,if_pos rfl];exact aKp a_
  ·rw [sZ _ _ C.1] at m;cases m;by_cases y:256<=cut;exact .new (aOi h (.inr y))
   ·by_cases x:cut.toNat<=(iw f u).length;have k:=last_at h cut;obtain⟨W,z⟩:∃ W,zV (jR cut ⟨4,0,jf f u,strOf (jq (iw f u) 0)⟩ (y8 ((fC (jf f u) (iw f u)).take (nsec (iw f u))) f)) (jf f u)=W:=⟨_,rfl⟩;rw[z] at k ⊢;rcases bMg (rec:=u.jb) (seq:=(jv f u.jb).1.1+1) (c:=u.content.data.toList) (W:=W) (cut:=cut.toNat) a_ h.s (by rw[mf];exact h.c) x (fun i o=>(k i).1 a_ a_) (fun i o n=>(k i).2 h0 a_ a_ n) with w|⟨s,w,l,F⟩;exact .bad w;have H:(encS u.jb ((jv f u.jb).1.1+1) s).length<=(iw f u).length:=bLv _ _ l;refine .odd s w (by have:=h.c;rw[mf] at l;change s.length<=u.content.size at l;omega) fun i o=>?_
    have q:(encS u.jb ((jv f u.jb).1.1+1) s)[i]?=W[i]?:=by rw[<-F,xe,if_pos o]
    rw[q];by_cases n:(i:Int)<cut\/256<=i;exact .inr ⟨by omega,(k i).1 a_ a_⟩;exact .inl ((k i).2 h0 a_ a_ a_)
    ·refine .new ?_;have k:=last_at h cut;obtain⟨W,z⟩:∃ W,zV (jR cut ⟨4,0,jf f u,strOf (jq (iw f u) 0)⟩ (y8 ((fC (jf f u) (iw f u)).take (nsec (iw f u))) f)) (jf f u)=W:=⟨_,rfl⟩;rw[z] at k ⊢
     have e:W=iw f u++W.drop (iw f u).length:=by
      have:W.take (iw f u).length=iw f u:=by apply YE;intro i;rw[xe];split;rename_i o;exact (k i).1 o a_;rw[GM a_]
      conv=>lhs;rw[<-aBd (iw f u).length W,this]
     rw[e];exact aZh _ _ _ _ a_ h.s (by rw[mf];exact h.c)
end
end
namespace Pv
def TL:Spec:=aZ true fun a=>match a with
 |[.w (.one (.lit (.string s))),.w (.one (.lit (.int .i64 c)))]=>some (0<=c/\c<=1000000/\s.size<=1,jr (strOf (Lib.repeatL s.data.toList c.toNat)))|_=>none
theorem Uy{I:World->Prop}:ai prog I 141 TL:=by
 refine aW (aC func141 aj rfl) (fun j p r a g w d b l f=>?_);split at a;rename_i s c;cases a
 match b,f with
 |[v1,v2],⟨k1,k2,_⟩=>obtain rfl:=k1.eu;obtain rfl:=k2.eu;obtain⟨o,m,i⟩:=g;obtain⟨n,rfl⟩:∃ n:Nat,c=(n:Int):=⟨c.toNat,by omega⟩;refine (aFi s n w a_ (by have:=Nat.mul_le_mul i (show n<=1000000 by omega);omega)).mono ?_;rintro e k ⟨rfl,h⟩;exact⟨_,rfl,Ext.of_below h,.w (.one (.lit rfl))⟩
 cases a
def TN:Spec:=aZ true fun a=>match a with
 |[.w (.one (.lit (.string s))),.w (.one (.lit (.string p)))]=>some (True,qy (Lib.hasPrefix s.data.toList p.data.toList))|_=>none
theorem VA{I:World->Prop}:ai prog I 170 TN:=by
 refine aW (aC func170 aj rfl) (fun f p r a h w c b i d=>?_);split at a;rename_i s p;cases a
 match b,d with
 |[v1,v2],⟨k1,k2,_⟩=>obtain rfl:=k1.eu;obtain rfl:=k2.eu;refine (aMr s p w).mono ?_;rintro e g ⟨rfl,rfl⟩;exact⟨_,rfl,Ext.refl _,.w (.one (.lit rfl))⟩
 cases a
theorem yG(s p:List UInt8):Lib.hasPrefix s p=decide (s.take p.length=p):=by
 unfold Lib.hasPrefix;by_cases h:s.take p.length=p;rw[decide_eq_true h,List.isPrefixOf_iff_prefix];rw[<-h];exact List.take_prefix _ _;rw[decide_eq_false h];cases a:p.isPrefixOf s with
 |false=>rfl|true=>exact absurd (List.prefix_iff_eq_take.1 (List.isPrefixOf_iff_prefix.1 a)).symm h
theorem aCf(rec k:Int):-1<=bF rec k/\bF rec k<=56:=by unfold bF;split<;>omega
theorem bLl{I:World->Prop}(b:∀ w c,Ext w c->I w->I c)(rec k:Int):fP prog I 134 true [di rec,di k] (di (bF rec k)):=by
 have M:jl prog I (find []):=⟨bD (fun p d=>by cases d),dG⟩;refine bH func134 rfl rfl b (fun A f e g=>?_);refine aB ?_;refine aG ?_;refine aB ?_;refine aI (fun a=>?_) (fun a=>?_);refine aB ?_;refine bU ?_;have h:rec<0\/3<rec\/k<0\/1<k:=by simp at a;omega
 unfold bF;rw[if_pos h];refine aJ ?_;refine aB ?_;refine bU ?_;have h:¬(rec<0\/3<rec\/k<0\/1<k):=by simp at a;omega
 refine congrArg di ?_;unfold bF;rw[if_neg h];simp only[IntKind.wrap_i64];omega
theorem bBa{I:World->Prop}(b:∀ w c,Ext w c->I w->I c)(rec k:Int):fP prog I 115 true [di rec,di k] (di (bF rec k)):=by
 have M:jl prog I (find []):=⟨bD (fun p d=>by cases d),dG⟩;refine bH func115 rfl rfl b (fun A f e g=>?_);refine aB ?_;refine aG ?_;refine aB ?_;refine aI (fun a=>?_) (fun a=>?_);refine aB ?_;refine bU ?_;have h:rec<0\/3<rec\/k<0\/1<k:=by simp at a;omega
 unfold bF;rw[if_pos h];refine aJ ?_;refine aB ?_;refine bU ?_;have h:¬(rec<0\/3<rec\/k<0\/1<k):=by simp at a;omega
 refine congrArg di ?_;unfold bF;rw[if_neg h];simp only[IntKind.wrap_i64];omega
theorem uT(X Y:List UInt8):o_ X.length (m_ X) (m_ Y)=m_ (X++Y):=by funext i;unfold o_ m_;by_cases h:i<X.length;rw[if_pos h,zG,zG,YO h];rw[if_neg h,zG,zG,YC a_]
theorem sN{n:Nat}{f g:Nat->List PC}(h1:∀ i,(f i).all (dJ false)=true)(h2:∀ i,(g i).all (dJ false)=true):∀ i,(o_ n f g i).all (dJ false)=true:=fun i=>by unfold o_;split;exact h1 i;exact h2 _
theorem aKc(rec seq:Int)(c:ByteArray)(h1:g_ rec)(h2:g_ seq)(hc:c.size<=3000):T_ prog af 143 [di rec,di seq,jr c] 5 1 (encS rec seq c.data.toList).length (m_ (encS rec seq c.data.toList)):=by
 have M:=U1;have h:prog.types[5].bytes=1:=by kernel_rfl
 have b:prog.types[5].size=1:=by kernel_rfl
 have m:=aP seq;have l:=aP rec;have k:=fD c.data.toList;have p:c.data.toList.length=c.size:=mf;refine aBi func143 rfl rfl bK (fun A r q s=>?_);refine aB ?_;refine aF ?_ ?_;simp;refine⟨h2,by omega,?_⟩;rw[h];omega;refine bY (s':=⟨[(0,none,di rec),(7,none,d_ (.ow 1001 0 1 0 (qf seq c.data.toList).length))],[(1001,none,0,.arr 5 1 (qf seq c.data.toList).length (m_ (qf seq c.data.toList)))]⟩) (fun a w d=>(d.reset (kT:=[0,7]) (kO:=[1001]) f_ ?_).same ?_ ?_) ?_;simp only[All,and_true,Pi];exact fun i _=>sN (fun _=>rfl) (fun _=>rfl) i;refine .cons rfl (.cons ?_ .nil);rw[b,qf,ed];refine .cons (.arr ?_ (fun i j=>?_)) .nil;rw[qf,ed];simp only[lL];exact congrFun (uT (b_ seq) (bI c.data.toList)) i;have o:(qf seq c.data.toList).length<=4000:=by unfold qf;rw[ed];omega
 have e:=jB 5 [b_ rec,qf seq c.data.toList];refine aF ?_ ?_;simp;exact⟨h1,by omega,by omega⟩;refine aF ?_ ?_;simp;rw[h];omega;refine bY (s':=⟨[(6,none,d_ (.ow 1001 0 1 0 (encS rec seq c.data.toList).length))],[(1001,none,0,.arr 5 1 (encS rec seq c.data.toList).length (m_ (encS rec seq c.data.toList)))]⟩) (fun a w d=>(d.reset (kT:=[6]) (kO:=[1001]) f_ ?_).same ?_ ?_) ?_;simp only[All,and_true,Pi,WF,We];exact fun i _=>sN (fun _=>rfl) (fun _=>rfl) i;refine .cons ?_ .nil;rw[encS,ed,e];exact congrArg (fun n=>d_ (.ow 1001 0 n 0 ((qf seq c.data.toList).length+16))) b;refine .cons (.arr ?_ (fun i j=>?_)) .nil;rw[encS,ed,e];simp only[dY];exact congrFun (uT (qf seq c.data.toList) (lQ 5 [b_ rec,qf seq c.data.toList])) i;refine cZ (fun a w d=>⟨.inr rfl,_,?_,d⟩);refine aDo (x:=1001) (jm:=0) (g:=none) (f:=?_) (out:=?_) ?_ ?_ ?_ ?_ ?_ trivial ?_;rotate_left 2;rfl;simp;rfl;rfl;rfl;intro i j;exact⟨rfl,rfl⟩
def EF:Spec:=aFa fun a=>match a with
 |[.w (.one (.lit (.int .i64 rec))),.w (.one (.lit (.int .i64 seq))),.w (.one (.lit (.string c)))]=>some (g_ rec/\g_ seq/\c.size<=3000,5,1,(encS rec seq c.data.toList).length,m_ (encS rec seq c.data.toList))|_=>none
theorem Wu:ai prog af 143 EF:=by refine xI (aC func143 aj rfl) (fun g p e n len h f d=>?_);split at f;rename_i b a c;cases f;exact aKc b a c d.1 d.2.1 d.2.2;cases f
def aLb:Spec:=aZ true fun a=>match a with
 |[.w (.one (.lit (.int .i64 rec))),.w (.one (.lit (.int .i64 k)))]=>some (True,di (bF rec k))|_=>none
theorem MB:ai prog af 134 aLb:=by refine aW (aC func134 aj rfl) (fun b p r a c=>?_);split at a;cases a;exact bLl bK _ _;cases a
theorem bHb:ai prog af 115 aLb:=by refine aW (aC func115 aj rfl) (fun b p r a c=>?_);split at a;cases a;exact bBa bK _ _;cases a
def GN:List (Nat×Spec):=(143,EF)::(170,TN)::(141,TL)::(134,aLb)::(115,aLb)::aCV
theorem bFt:∀ p∈GN,ai prog af p.1 p.2:=by intro p a;simp only[GN,xn] at a;rcases a with rfl|rfl|rfl|rfl|rfl|a;exact Wu;exact VA;exact Uy;exact MB;exact bHb;exact X_ p a
theorem Zu:jl prog af (find GN):=⟨bD bFt,dG⟩
def aDW(x:Int×List UInt8):PV:=.w (.agg [.lit (.int .i64 x.1),.lit (.string (strOf x.2))])
theorem bDh(rec:Int)(b:List UInt8)(h1:g_ rec)(hb:b.length<4611686018427387904):fP prog af 166 true [di rec,l7 b] (aDW (o6 rec b)):=by
 have M:=Zu;have w:=mV b;have C:=fJ b;refine bH func166 rfl rfl bK (fun A H F I=>?_);refine aB ?_;refine aF ?_ ?_;simp;exact hb;refine aU (⟨[(0,none,di rec),(1,none,l7 b),(4,none,d_ (.pt 0 0 0)),(5,none,di (au b).1),(6,none,di ((au b).2.1:Int)),(7,none,di (au b).2.2)],[(0,none,0,.box 205 [.lit (.int .i64 0),.lit (.string aH)])]⟩) ?_ ?_ ?_;rw[dY];exact ig;exact o7;obtain⟨m,l⟩:∃ m,o6 rec b=m:=⟨_,rfl⟩;rw[l];have a:gJ (b.drop (au b).2.1)=tq b:=rfl;have o:=bCr (b.drop (au b).2.1)
 have r:(tq b).2.2=0->(tq b).2.1≠0:=fun E h1=>by
  have z:gJ (b.drop (au b).2.1)=((tq b).1,(tq b).2.1,0):=by rw[a,<-E]
  have p:=(Ld z).1;rw[h1,List.take_zero] at p;have d:=congrArg List.length p;have x:=aP ((tq b).1.length:Int);unfold bI at d;rw[ed] at d;have K:(b_ ((tq b).1.length:Int)).length=0:=by simp at d;omega
  have D:=jW (b.drop (au b).2.1);rw[a,AC] at D;have J:=aKv ((tq b).1.length:Int) a_ a_;omega
 unfold o6 at l;have u:=jW (b.drop (au b).2.1);rw[a,AC] at u;rw[a] at o;generalize G:au b=g at *;obtain⟨q,k,e⟩:=g;dsimp only at *;refine aG ?_;refine aB ?_;refine aI (fun j=>?_) (fun j=>?_);refine aB ?_;refine bU ?_;have h:e≠0\/q<1\/1099511627776<q:=by simp at j;omega
 rw[if_pos h] at l;rw[<-l];rfl;have h:¬(e≠0\/q<1\/1099511627776<q):=by simp at j;omega
 rw[if_neg h] at l;refine aJ ?_;refine aF ?_ ?_;simp;refine⟨w.1,?_⟩;unfold iM;rw[dQ];omega;have t:(rowB ((b.length:Int)-(k:Int)).toNat fun i=>m_ b ((k:Int).toNat+i))=b.drop k:=by rw[show ((b.length:Int)-(k:Int)).toNat=b.length-k from by omega,show (k:Int).toNat=k from by omega,kQ a_];exact IR (by rw[AC];exact dE _)
 refine aU (⟨[(0,none,di rec),(1,none,l7 b),(4,none,d_ (.pt 0 0 0)),(5,none,di q),(7,none,di (tq b).2.2),(8,none,jr (strOf (tq b).1)),(9,none,di ((tq b).2.1:Int))],[(0,none,0,.box 205 [.lit (.int .i64 0),.lit (.string aH)])]⟩) ?_ ?_ ?_;rw[t,a];exact ig;exact o7;generalize tq b=c at *;obtain⟨s,n,y⟩:=c;dsimp only at *;have f:(strOf s).size=s.length:=bJ s;refine aG ?_;refine aF ?_ ?_;simp;intro z B;rw[f] at B ⊢;exact⟨h1,by unfold g_;omega,by omega⟩;refine aI (fun j=>?_) (fun j=>?_);refine aB ?_;refine bU ?_;simp[yG,dY,bV,f] at j
 have p:y≠0\/2000<s.length\/b.take (encS rec q s).length≠encS rec q s:=by
  rcases j with ((d|d)|d)|d;exact .inl d;exact .inr (.inl a_);exact .inr (.inr d)
  by_cases x:y=0;exact absurd d (r x);exact .inl x
 rw[if_pos p] at l;rw[<-l];rfl;refine aJ ?_;refine aB ?_;refine bU ?_;simp[yG,dY,bV,f] at j;have p:¬(y≠0\/2000<s.length\/b.take (encS rec q s).length≠encS rec q s):=by rintro (d|d|d);exact d j.1.1.1;omega;exact d j.1.2
 rw[if_neg p] at l;rw[<-l];rfl
def TU:Spec:=aZ true fun a=>match a with
 |[.w (.one (.lit (.int .i64 rec))),v]=>(match vH v with
  |some (p,l)=>some (p/\g_ rec/\l.length<4611686018427387904,aDW (o6 rec l))|none=>none)
 |_=>none
theorem X5:ai prog af 166 TU:=by
 refine aW (aC func166 aj rfl) (fun i p r a d=>?_);split at a;rename_i b v;cases c:vH v with
 |none=>rw[c] at a;cases a| some q=>
  obtain⟨k,l⟩:=q;rw[c] at a;cases a
  exact (bDh b l d.2.1 d.2.2).args fun C e f=>by
   match e,f with
   |[j,x],⟨h,g,_⟩=>exact⟨h,qY c d.1 g,trivial⟩
 cases a
theorem aVp{e:Type}(g:e->List Value)(k:Nat):∀ (l:List e) (c:List Value),(∀ a∈l,(g a).length=k)->c.length=l.length*k->(∀ (i:Nat) (f:i<l.length),(c.drop (i*k)).take k=g l[i])->c=l.flatMap g
 |[],c,_,d,_=>by
  have:c.length=0:=by simpa using d
  rw[List.eq_nil_of_length_eq_zero this];rfl
 | a::l,c,hg,d,h=>by
  have n:c.take k=g a:=by have:=h 0 ay;rw[Nat.zero_mul,List.drop_zero] at this;exact this
  have j:=aVp g k l (c.drop k) (fun b m=>hg b (Y3 _ m)) (by rw[AC,d,Lt,aCR];omega) (fun i f=>by
   have:=h (i+1) (by simpa using f);rw[aCR] at this;rw[List.drop_drop,Nat.add_comm]
   exact this)
  rw[List.flatMap_cons,<-j,<-n];exact (aBd k c).symm
def iW(r:jh):List PC:=[.lit (.int .i64 r.val),.lit (.string r.bytes)]
def AZ(l:List jh):Nat->List PC:=fun i=>iW (l.getD i ⟨0,aH⟩)
def IX:List PC->jh
 |[.lit (.int _ n),.lit (.string s)]=>⟨n,s⟩|_=>⟨0,aH⟩
def LK:List PC->Bool
 |[.lit (.int .i64 _),.lit (.string _)]=>true|_=>false
theorem LJ{l:List PC}(h:LK l=true):l=iW (IX l):=by
 unfold LK at h;split at h
 rfl;cases h
def nO(n:Nat)(f:Nat->List PC):List jh:=(yf n).map fun i=>IX (f i)
def xU(n:Nat)(f:Nat->List PC):Prop:=∀ i,i<n->LK (f i)=true
@[simp] theorem kH(n:Nat)(f:Nat->List PC):(nO n f).length=n:=by simp[nO]
theorem aXt{n:Nat}{f:Nat->List PC}(h:xU n f):∀ i,i<n->f i=AZ (nO n f) i:=fun i a=>by unfold AZ nO;rw[zG,Xu,aDH a];exact LJ (h i a)
@[simp] theorem OI(n:Nat)(l:List jh):xU n (AZ l):=fun _ _=>rfl
@[simp] theorem TY(l:List jh):nO l.length (AZ l)=l:=by apply YX ay;intro i b a;simp only[nO,Yp,Yl,AZ,iW,IX];rw[zG,zH a];rfl
theorem bHe{C:Ctx}{n:Nat}{f:Nat->List PC}{v:Value}(h:R C (.sl 2 n f) [v])(g:xU n f):Reads C.w 2 v (nO n f).length (logCells (nO n f)):=by
 cases h with
 | sl e l j=>
  rename_i d
  have:d=logCells (nO n f):=by
   refine aVp jh.cells 2 (nO n f) d (fun a _=>rfl) (by rw[kH];exact e.1) (fun i c=>?_);rw[kH] at c;have b:=j i c;rw[aXt g i c] at b;unfold AZ at b;rw[zG,zH (by rw[kH];exact c)] at b;generalize (nO n f)[i]'(by rw[kH];exact c)=r at b ⊢;generalize (d.drop (i*2)).take 2=k at b ⊢;cases b with
   | cons k1 b=>cases b with
    |cons k2 b=>cases b;cases k1;cases k2;rfl
  rw[<-this,kH];exact e
def Uj:PC->Option (Prop×List jh)
 |.sl 2 n f=>some (xU n f,nO n f)|.lit (.slice none 0 0)=>some (True,[])|_=>none
theorem PI{C:Ctx}{c:PC}{v:Value}{p:Prop}{l:List jh}(h:Uj c=some (p,l))(a:p)(hr:R C c [v]):Reads C.w 2 v l.length (logCells l):=by unfold Uj at h;split at h;cases h;exact bHe hr a;cases h;cases hr;exact Reads.nil _ 2;cases h
def lT(a:Acc):List PC:=[.lit (.int .i64 a.kind),.lit (.int .i64 a.jy),.lit (.int .i64 a.cell),.lit (.string a.bytes)]
def zW(O:List Acc->Option jh){a:Type}(p:ah a)(l:List Acc)(q:ah a)(k:List Acc):Prop:=l <+: k/\go O p l=go O q k
theorem zW.start(O:List Acc->Option jh){a:Type}(p:ah a)(l:List Acc):zW O p l p l:=⟨List.prefix_refl _,rfl⟩
theorem zW.step{b a:Type}{O:List Acc->Option jh}{p:ah b}{l k:List Acc}{q:ah a}{f:a->ah b}(h:zW O p l (q.bind f) k):zW O p l (f (go O q k).1) (go O q k).2:=⟨h.1.trans (wR O q k),h.2.trans (zK O q f k)⟩
theorem zW.dw{b a:Type}{O:List Acc->Option jh}{p:ah b}{l k:List Acc}{q:ah a}{f:a->ah b}(h:zW O p l (q.bind f) k):∀ g,k <+: g->g <+: (go O q k).2->O g=none->l <+: g/\g <+: (go O p l).2:=fun g d c _=>by refine⟨h.1.trans d,c.trans ?_⟩;rw[h.step.2];exact wR _ _ _
theorem VR{I:World->Prop}:jl prog I (find ([]:List (Nat×Spec))):=⟨fun f a h=>(by cases h),aj⟩
theorem V3{I:World->Prop}(c:Int):CO prog I 165 (ah.rd c) [.w (.one .dv),di c] jr:=by intro O l;have M:=VR (I:=I);refine dM func165 rfl rfl rfl (fun A f g=>?_);refine aB ?_;refine aF ?_ ?_;exact⟨aLw (pF _) (pF _),trivial⟩;refine cZ (fun a w e=>⟨.inr rfl,_,⟨?_,(fun o d=>by cases d),fun p b=>?_⟩,e⟩);rotate_left 1;cases b;rfl;refine aY (by rfl) (by simp) (by rfl) (by rfl) ?_;rfl
theorem FU{I:World->Prop}(c:Int)(b:ByteArray):CO prog I 140 (ah.wr c b) [.w (.one .dv),di c,jr b] (fun _=>.lu []):=by intro O l;have M:=VR (I:=I);refine dM func140 rfl rfl rfl (fun A f h=>?_);refine bC M h f (by rfl) (by kernel_rfl) ?_ ?_;exact⟨aLw (pF _) (pF _),trivial⟩;intro a w g;refine⟨.inl rfl,_,⟨?_,(fun o e=>by cases e),fun p d=>?_⟩,g⟩;rotate_left 1;cases d;rfl;refine aY (by rfl) (by simp) (by rfl) (by rfl) ?_;rfl
def ND:List PV->Option (Prop×ah ByteArray×(ByteArray->PV))
 |[.w (.one (.lit (.int .i64 c)))]=>some (True,ah.rd c,jr)|_=>none
def N_:List PV->Option (Prop×ah Unit×(Unit->PV))
 |[.w (.one (.lit (.int .i64 c))),.w (.one (.lit (.string b)))]=>some (True,ah.wr c b,fun _=>.lu [])|_=>none
theorem PY{I:World->Prop}:ai prog I 165 (nC ND):=
 qB (aC func165 aj rfl) (fun a c p v h _=>by
  unfold ND at h;split at h;cases h;exact (V3 _).toB
  cases h)
theorem Oj{I:World->Prop}:ai prog I 140 (nC N_):=
 qB (aC func140 aj rfl) (fun a c p v h _=>by
  unfold N_ at h;split at h;cases h;exact (FU _ _).toB
  cases h)
def C_(a b:Int):Int:=if a<b then -1 else if b<a then 1 else 0
theorem QN{I:World->Prop}(b:∀ w c,Ext w c->I w->I c)(a:Int):fP prog I 197 true [di a] (qy false):=by have M:=VR (I:=I);refine bH func197 rfl rfl b (fun A e d f=>?_);refine aB ?_;refine aB ?_;refine bU ?_;simp
def TR:Spec:=aZ true fun a=>match a with
 |[.w (.one (.lit (.int .i64 _)))]=>some (True,qy false)|_=>none
theorem VS:ai prog af 197 TR:=by refine aW (aC func197 aj rfl) (fun b p r a c=>?_);split at a;cases a;exact QN bK _;cases a
def aLP:List (Nat×Spec):=[(197,TR)]
theorem aLR:jl prog af (find aLP):=⟨bD (fun p a=>by
 obtain rfl:=List.mem_singleton.1 a
 exact VS),dG⟩
theorem S_(a b:Int):fP prog af 185 true [di a,di b] (di (C_ a b)):=by have M:=aLR;refine bH func185 rfl rfl bK (fun A f e g=>?_);refine aB ?_;refine aB ?_;refine aB ?_;refine aG ?_;refine aB ?_;refine aI (fun c=>?_) (fun c=>?_);cases c;refine aJ ?_;refine aG ?_;refine aB ?_;refine aI (fun c=>?_) (fun c=>?_);cases c;refine aJ ?_;refine aG ?_;refine aB ?_;refine aI (fun c=>?_) (fun c=>?_);refine aB ?_;refine bU ?_;unfold C_;rw[if_pos (of_decide_eq_true c)];refine aJ ?_;have d:¬a<b:=of_decide_eq_false c;refine aG ?_;refine aB ?_;refine aI (fun c=>?_) (fun c=>?_);refine aB ?_;refine bU ?_;unfold C_;rw[if_neg d,if_pos (of_decide_eq_true c)];refine aJ ?_;refine aB ?_;refine bU ?_;unfold C_;rw[if_neg d,if_neg (of_decide_eq_false c)]
def TV:Spec:=aZ true fun c=>match c with
 |[.w (.one (.lit (.int .i64 a))),.w (.one (.lit (.int .i64 b)))]=>some (True,di (C_ a b))|_=>none
theorem SA:ai prog af 185 TV:=by refine aW (aC func185 aj rfl) (fun b p r a c=>?_);split at a;cases a;exact S_ _ _;cases a
def aLO:List (Nat×Spec):=[(185,TV)]
theorem aLQ:jl prog af (find aLO):=⟨bD (fun p a=>by
 obtain rfl:=List.mem_singleton.1 a
 exact SA),dG⟩
def arL(a:Int)(s:ByteArray):PV:=.w (.agg [.lit (.int .i64 a),.lit (.string s)])
theorem aWh(a b:Int)(s t:ByteArray):fP prog af 167 true [arL a s,arL b t] (di (C_ a b)):=by have M:=aLQ;refine bH func167 rfl rfl bK (fun A d c e=>?_);refine aB ?_;refine aB ?_;exact jC
def Gm:Spec:=aZ true fun c=>match c with
 |[.w (.agg [.lit (.int .i64 a),.lit (.string _)]),.w (.agg [.lit (.int .i64 b),.lit (.string _)])]=>some (True,di (C_ a b))|_=>none
theorem SQ:ai prog af 167 Gm:=by refine aW (aC func167 aj rfl) (fun b p r a c=>?_);split at a;cases a;exact aWh _ _ _ _;cases a
def P5:List (Nat×Spec):=(165,nC ND)::(140,nC N_)::(167,Gm)::(166,TU)::GN
theorem GR:∀ p∈P5,ai prog af p.1 p.2:=by intro p a;simp only[P5,xn] at a;rcases a with rfl|rfl|rfl|rfl|a;exact PY;exact Oj;exact SQ;exact X5;exact bFt p a
theorem aJG:jl prog af (find P5):=⟨bD GR,dG⟩
def bHm(rec:Int):Nat->Int×List UInt8->Int×List UInt8->ah ((Int×List UInt8)×Nat)
 |0,_,_=>ah.cur rec|1,x,_=>(ah.l_ (bF rec 1) 8 []).bind fun b=>.ret (ut x (o6 rec b))|_,x,y=>.ret (ut x y)
def rdO(x y:Int×List UInt8):Wr:=[(0,none,0,.box 205 [.lit (.int .i64 0),.lit (.string aH)]),(1000,none,0,.box 233 [.lit (.int .i64 x.1),.lit (.string (strOf x.2)),.lit (.int .i64 y.1),.lit (.string (strOf y.2))])]
def rdT(rec:Int)(k:Nat):List (Nat×Option Bool×PV):=[(0,none,.w (.one .dv)),(1,none,di rec),(4,none,d_ (.pt 0 0 0)),(5,none,di 0),(6,none,d_ (.pt 1000 0 0)),(11,none,di k)]
def GK(O:List Acc->Option jh)(dw:List Acc->Prop)(rec:Int)(k:Nat)(x y:Int×List UInt8)(a:List Acc):St:=⟨rdT rec k,(dx,none,0,.dev O dw a)::rdO x y⟩
def aAU(O:List Acc->Option jh)(dw:List Acc->Prop)(rec:Int)(k:Nat)(x y:Int×List UInt8)(i:Nat)(b:List UInt8)(a:List Acc):St:=⟨(7,none,di k)::(8,none,d_ (.ow 5000 0 1 0 b.length))::(14,none,di i)::rdT rec k,(dx,none,0,.dev O dw a)::(5000,none,0,.arr 5 1 b.length (m_ b))::rdO x y⟩
def Ie(rec:Int):Nat->Int×List UInt8->List UInt8->ah ((Int×List UInt8)×Nat)
 |0,_,a=>bHm rec 1 (o6 rec a) (0,[])|_,x,b=>.ret (ut x (o6 rec b))
theorem bHl{rec:Int}{k:Nat}(a:k<2)(x y:Int×List UInt8):bHm rec k x y=(ah.l_ (bF rec k) 8 []).bind (Ie rec k x):=by rcases (by omega:k=0\/k=1) with rfl|rfl<;>rfl
theorem bAm{F:Int}{i:Nat}(c:i<8)(b:List UInt8){a:Type}(f:List UInt8->ah a):(ah.l_ F (8-i) b).bind f=(ah.rd (F+i)).bind fun s=>(ah.l_ F (8-(i+1)) (b++s.data.toList)).bind f:=by
 have e:8-i=(7-i)+1:=by omega
 rw[e,ah.l_,ah.bind_assoc,show 7-(7-i)=i from by omega,show 8-(i+1)=7-i from by omega]
theorem pM(b:List UInt8)(i:Nat):∀ x∈m_ b i,dJ false x=true:=fun x a=>by change x∈[_] at a;rw[List.mem_singleton] at a;subst a;rfl
theorem vY(b:List UInt8):(rowB b.length fun i=>m_ b (0+i))=b:=by simp only[lL];exact dY b
theorem bNn(a b:Int):decide (C_ a b<0)=decide (a<b):=by
 unfold C_;by_cases h:a<b;rw[if_pos h,decide_eq_true h];rfl
 ·rw[if_neg h,decide_eq_false h]
  split<;>rfl
theorem bAj(rec:Int)(hr:g_ rec):bOx prog af 135 (ah.cur rec) [.w (.one .dv),di rec] (fun p=>.lu [.agg [.lit (.int .i64 p.1.1),.lit (.string (strOf p.1.2))],.one (.lit (.int .i64 (p.2:Int)))]):=by
 intro O l S;have M:=aJG;refine dM func135 rfl rfl rfl (fun A K N=>?_);generalize E:(fun h=>l <+: h/\h <+: (go O (ah.cur rec) l).2)=dw;refine aB ?_;refine aB ?_;refine aG ?_;refine aB ?_;refine aQ ?_;refine aU (GK O dw rec 0 (0,[]) (0,[]) l) ?_ ?_ ?_;exact ig;exact .cons (.dev rfl) (.cons (.box rfl) (.cons (.box rfl) .nil));refine fF 2 (fun k s=>∃ x y D,s=GK O dw rec k x y D/\zW O (ah.cur rec) l (bHm rec k x y) D) 0 ⟨_,_,_,rfl,zW.start _ _ _⟩ a_ (fun k s L X=>?_);obtain⟨x,y,D,rfl,F⟩:=L;refine aB ?_;refine aG ?_;refine aI (fun m=>?_) (fun m=>?_);have z:k<2:=by have:=of_decide_eq_true m;omega
 refine aJ ?_;refine aG ?_;refine aQ ?_;refine aB ?_;refine aB ?_;refine aG ?_;refine aB ?_;refine aQ ?_;refine bY (s':=aAU O dw rec k x y 0 [] D) (fun a w g=>((g.nilRow (x:=5000) (e:=5) (n:=1) (t:=8) f_ f_).reset (kT:=[7,8,14,0,1,4,5,6,11]) (kO:=[900000,5000,0,1000]) f_ ay).same ?_ ?_) ?_;exact ig;exact .cons (.dev rfl) (.cons (.arr rfl (fun i P=>absurd P ay)) (.cons (.box rfl) (.cons (.box rfl) .nil)));rw[bHl z] at F;generalize U:Ie rec k x=f at F;refine fF 8 (fun i s=>∃ b u,s=aAU O dw rec k x y i b u/\b.length<=i*1000000/\zW O (ah.cur rec) l ((ah.l_ (bF rec k) (8-i) b).bind f) u) 0 ⟨_,_,rfl,by simp,F⟩ a_ (fun i s L P=>?_);obtain⟨b,u,rfl,Q,r⟩:=L;refine aB ?_;refine aG ?_;refine aI (fun m=>?_) (fun m=>?_);have B:i<8:=by have:=of_decide_eq_true m;omega
 refine aJ ?_;refine aG ?_;refine aQ ?_;refine aB ?_;have d:IntKind.i64.wrap (bF rec k+(i:Int))=bF rec k+(i:Int):=by have:=aCf rec k;exact dD a_ a_
 rw[bAm B] at r;have T:=S.ans (u++[⟨3,0,bF rec k+(i:Int),aH⟩]);change ((go O (ah.rd (bF rec k+(i:Int))) u).1).size<=1000000 at T;have q:=r.step;refine bC M N K (by rfl) (by kernel_rfl) ?_ ?_;simp;rw[d];refine⟨S,fun h c W V=>?_,by omega⟩;rw[<-E];exact r.dw h c W V;change lh _ _ _ _ _;refine gI ?_;intro a w g;refine⟨i+1,_,by omega,by omega,⟨_,_,rfl,?_,q⟩,(g.reset (kT:=[7,8,14,0,1,4,5,6,11]) (kO:=[900000,5000,0,1000]) f_ ?_).same ?_ ?_⟩;rw[ed,mf];change b.length+((go O (ah.rd (bF rec k+(i:Int))) u).1).size<=_;omega;simp only[All,and_true,Pi,WF];exact fun i _=>sN (fun _=>rfl) (fun _=>rfl) i;refine .cons rfl (.cons ?_ (.cons (by rw[cO i a_]) (.cons rfl (.cons rfl (.cons rfl (.cons rfl (.cons rfl (.cons rfl .nil))))))));rw[d,ed,mf];rfl;refine .cons (.dev ?_) (.cons (.arr ?_ (fun j Y=>?_)) (.cons (.box rfl) (.cons (.box rfl) .nil)));show (go O (ah.rd (IntKind.i64.wrap (bF rec k+(i:Int)))) u).2=_;rw[d];rw[d,ed,mf];rfl;rw[d];exact congrFun (uT b _) j;have B:i=8:=by have:=of_decide_eq_false m;omega
 subst B;have q:zW O (ah.cur rec) l (f b) u:=r;subst U;refine eP ?_;change lh _ _ _ _ _;rcases (by omega:k=0\/k=1) with rfl|rfl;refine bC M N K (by rfl) (by kernel_rfl) ?_ ?_;simp
 exact⟨fun i _ x H=>pM b i x H,hr,by omega⟩;change lh _ _ _ _ _;refine gI ?_;intro a w g;refine⟨1,_,by omega,by omega,⟨o6 rec b,y,_,rfl,q⟩,(g.reset (kT:=[0,1,4,5,6,11]) (kO:=[900000,0,1000]) f_ ay).same ?_ ?_⟩;exact ig;rw[vY];exact .cons (.dev rfl) (.cons (.box rfl) (.cons (.box rfl) .nil));refine bC M N K (by rfl) (by kernel_rfl) ?_ ?_;simp;exact⟨fun i _ x H=>pM b i x H,hr,by omega⟩;change lh _ _ _ _ _;refine gI ?_;intro a w g;refine⟨2,_,by omega,by omega,⟨x,o6 rec b,_,rfl,q⟩,(g.reset (kT:=[0,1,4,5,6,11]) (kO:=[900000,0,1000]) f_ ay).same ?_ ?_⟩;exact ig;rw[vY];exact .cons (.dev rfl) (.cons (.box rfl) (.cons (.box rfl) .nil))
 ·have z:k=2:=by have:=of_decide_eq_false m;omega
  subst z;have G:go O (ah.cur rec) l=(ut x y,D):=F.2;refine eP ?_;change lh _ _ _ _ _;refine aB ?_;refine aG ?_;refine aB ?_;refine aI (fun m=>?_) (fun m=>?_)
  ·refine aB ?_;have h:x.1=0\/x.1<y.1:=by have c:(bif x.1==0 then true else decide (C_ x.1 y.1<0))=true:=m;rw[bNn] at c;by_cases C:x.1=0;exact .inl C;rw[show (x.1==0)=false from beq_eq_false_iff_ne.2 C] at c;exact .inr (of_decide_eq_true c)
   have e:ut x y=(y,1):=by unfold ut;rw[if_pos h]
   refine cZ (fun a w g=>⟨.inr rfl,_,⟨?_,(fun o J=>by cases J),fun p I=>?_⟩,g⟩);rotate_left 1;cases I;rw[G];rfl;refine aY (by rfl) (by simp) (by rfl) (by rfl) ?_;rw[G,e];rfl
  ·refine aJ ?_;refine aB ?_
   have h:¬(x.1=0\/x.1<y.1):=by
    have c:(bif x.1==0 then true else decide (C_ x.1 y.1<0))=false:=m;rw[bNn] at c;rintro (C|C);rw[show (x.1==0)=true from beq_iff_eq.2 C] at c;cases c
    ·rw[decide_eq_true C] at c
     cases Q:(x.1==0)<;>rw[Q] at c<;>cases c
   have e:ut x y=(x,0):=by unfold ut;rw[if_neg h]
   refine cZ (fun a w g=>⟨.inr rfl,_,⟨?_,(fun o J=>by cases J),fun p I=>?_⟩,g⟩);rotate_left 1;cases I;rw[G];rfl;refine aY (by rfl) (by simp) (by rfl) (by rfl) ?_;rw[G,e];rfl
def aDA(p:(Int×List UInt8)×Nat):PV:=.lu [.agg [.lit (.int .i64 p.1.1),.lit (.string (strOf p.1.2))],.one (.lit (.int .i64 (p.2:Int)))]
def bNa:List PV->Option (Prop×ah ((Int×List UInt8)×Nat)×((Int×List UInt8)×Nat->PV))
 |[.w (.one (.lit (.int .i64 rec)))]=>some (g_ rec,ah.cur rec,aDA)|_=>none
theorem aTf:ai prog af 135 (nC bNa):=
 qB (aC func135 aj rfl) (fun b c p v h a=>by
  unfold bNa at h;split at h;cases h;exact bAj _ a
  cases h)
def Zr:List (Nat×Spec):=(135,nC bNa)::P5
theorem UW:∀ p∈Zr,ai prog af p.1 p.2:=by intro p a;rcases List.mem_cons.1 a with rfl|a;exact aTf;exact GR p a
theorem Zt:jl prog af (find Zr):=⟨bD UW,dG⟩
def ZR(o:Ce):List PC:=[.lit (.string o.content),.lit (.int .i64 o.seq),.lit (.int .i64 o.err)]
def ZT(o:Ce):PV:=.w (.agg (ZR o))
theorem KI(rec:Int)(hr:g_ rec):bOx prog af 98 (ah.load rec) [.w (.one .dv),di rec] ZT:=by
 intro O l t;have M:=Zt;refine dM func98 rfl rfl rfl (fun A z B=>?_);have b:ah.load rec=if bF rec 0<0 then .ret ⟨aH,0,1⟩ else (ah.cur rec).bind fun p=>.ret (uH p.1):=rfl
 generalize ah.load rec=k at *;generalize f:(fun h=>l <+: h/\h <+: (go O k l).2)=dw;refine aB ?_;refine aG ?_;refine aB ?_;refine aI (fun c=>?_) (fun c=>?_)
 ·have h:bF rec 0<0:=of_decide_eq_true c;rw[if_pos h] at b;have d:go O k l=(⟨aH,0,1⟩,l):=by rw[b];rfl
  refine aB ?_;refine cZ (fun a w i=>⟨.inr rfl,_,⟨?_,(fun o g=>by cases g),fun p b=>?_⟩,i⟩);rotate_left 1;cases b;rw[d];rfl;refine aY (by rfl) (by simp) (by rfl) (by rfl) ?_;rw[d];rfl
 ·have h:¬bF rec 0<0:=of_decide_eq_false c;rw[if_neg h] at b;refine aJ ?_;have j:zW O k l ((ah.cur rec).bind fun p=>.ret (uH p.1)) l:=by rw[b];exact zW.start _ _ _
  have s:=j.step;refine aF ?_ ?_;simp;refine⟨⟨t,hr⟩,fun h y x u=>?_⟩;rw[<-f];exact j.dw h y x u;obtain⟨q,m,n⟩:∃ q m,go O (ah.cur rec) l=(q,m):=⟨_,_,rfl⟩;rw[n] at s;have d:go O k l=(uH q.1,m):=s.2;refine aU (⟨[(4,none,d_ (.pt 0 0 0)),(5,none,d_ (.pt 3006 0 0))],[(dx,none,0,.dev O dw m),(0,none,0,.box 164 [.lit (.string aH),.lit (.int .i64 0),.lit (.int .i64 0)]),(3006,none,0,.box 205 [.lit (.int .i64 q.1.1),.lit (.string (strOf q.1.2))])]⟩) ?_ ?_ ?_;exact ig;refine .cons (.dev ?_) (.cons (.box rfl) (.cons (.box ?_) .nil));show (go O (ah.cur rec) l).2=_;rw[n]
  show[PC.lit (.int .i64 (go O (ah.cur rec) l).1.1.1),PC.lit (.string (strOf (go O (ah.cur rec) l).1.1.2))]=_
  rw[n];refine aG ?_;refine aB ?_;refine aI (fun c=>?_) (fun c=>?_)
  ·refine aB ?_;have r:q.1.1=0:=by simpa using c
   have e:uH q.1=⟨aH,0,13⟩:=if_pos r;refine cZ (fun a w i=>⟨.inr rfl,_,⟨?_,(fun o g=>by cases g),fun p b=>?_⟩,i⟩);rotate_left 1;cases b;rw[d];rfl;refine aY (by rfl) (by simp) (by rfl) (by rfl) ?_;rw[d,e];rfl
  ·refine aJ ?_;refine aB ?_;have r:¬q.1.1=0:=by simpa using c
   have e:uH q.1=⟨strOf q.1.2,q.1.1,0⟩:=if_neg r;refine cZ (fun a w i=>⟨.inr rfl,_,⟨?_,(fun o g=>by cases g),fun p b=>?_⟩,i⟩);rotate_left 1;cases b;rw[d];rfl;refine aY (by rfl) (by simp) (by rfl) (by rfl) ?_;rw[d,e];rfl
end Pv

end Go.Proofs.YtndpjopifkbgiaaGreatDoor
