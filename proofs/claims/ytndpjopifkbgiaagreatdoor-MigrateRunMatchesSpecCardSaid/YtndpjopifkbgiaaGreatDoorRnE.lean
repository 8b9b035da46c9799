/-
  Several texts in one file.
-/
import Derived.Test.YtndpjopifkbgiaaGreatDoorRnD
import Derived.Test.YtndpjopifkbgiaaGreatDoorRnC
import Derived.Test.YtndpjopifkbgiaaGreatDoorProg
import Derived.Deep.RegionLaw
import Derived.Test.YtndpjopifkbgiaaGreatDoorRnB
import Derived.WalkMore
import Derived.Test.YtndpjopifkbgiaaGreatDoorRnA
set_option maxRecDepth 100000
set_option maxHeartbeats 4000000
namespace Go.Proofs.YtndpjopifkbgiaaGreatDoor
open Go.RowKit Tryz
open _root_.List renaming length_append->gz,append_nil->AC,getElem?_eq_none->PR,cons_append->C_,nil_append->IR,length_drop->MM,mem_cons->xn,take_of_length_le->WF,not_mem_nil->aAe,length_take->ww,length_replicate->aCG,length_set->aAA,append_assoc->GM,replicate->Pi,drop_eq_getElem_cons->aEz,getElem_mem->aBI,mem_cons_of_mem->aAD,map_cons->aAJ,mem_cons_self->aAw,eq_of_mem_replicate->aIn,getElem?_append->aEO,range->yz,getElem?_map->aAg,drop_drop->aCW,getElem?_set_self->aDZ,length_singleton->aBY,getElem?_set_ne->aEb,take_add_one->aDR,getElem_map->aCI
open _root_.Bool renaming false_ne_true->aAQ,and_eq_true->zg
open _root_.Array renaming length_toList->nz
open _root_.Nat renaming le_trans->ry,le_refl->dE,zero_add->mf,le_of_ble_eq_true->aBO,lt_or_ge->aAW,lt_of_lt_of_le->aAF,beq->bz,zero_le->x8,blt->XN,sub_self->aBa,ble_eq_true_of_le->aET,mul_one->aBq,eq_zero_or_pos->aCE,sub_zero->aDU,le_of_lt->aFG,beq_refl->aFF
open _root_.Int renaming eq_ofNat_of_zero_le->aBZ,toNat_natCast->VM,toNat->aBF,emod_eq_of_lt->aEU
open _root_.Go.IntKind renaming wrap_i64->PP,i64->aEf
open _root_.Go.Value renaming int->gp,slice->aAP
open _root_.Option renaming getD_some->aCM
open _root_.Go renaming Value->ag,World->ae,bodyPost_ret->aAT,maxLen->uu,Program->ed,Calls->lL
open _root_.And renaming intro->az
namespace Pv
section
variable {P:ed} {I:jg} {A:o_} {s:St} {a:Act} {w:ae} {env:Env} {F:og->PV->Wr->Prop}
theorem bAc{f:Nat}{j:Bool}{NS:List Nat}{g:yg->ji->Option (Prop×yg×PV)}(W:∀ args w,(callFunc f args).run P w=.ok (.enter f args) w)
  (hg:∀ i ys p c r,g i ys=some (p,c,r)->p->Eb P I f i c ys r):b_ P I f (wSpec j NS g):=by
 refine⟨W,fun A s a w env nm J vs F h hI hv z=>?_⟩;unfold wSpec at z;obtain⟨i,E,hq,z⟩:=KW h z
 cases a2:J.all (vP (zt i))<;>cases G:IB NS<;>cases a1:g i J<;>simp only[a2,G,a1] at z<;>try exact z.elim
 rename_i q;obtain⟨p,c,r⟩:=q;dsimp only at z
 cases a0:eqN c NS<;>cases Z:(j||Zk i c)<;>cases Y:vP (zt c) r<;>simp only[a0,Z,Y] at z<;>try exact z.elim
 obtain⟨hp,⟨b1,b0⟩,z⟩:=z;have H:=bPg a0;obtain⟨wr,N,hF⟩:=bAa z;have hF:F none (GZ (Ec c (OD j)) r) (wr++[]):=hF;rw[AC] at hF;have X:IB (i.map (·.1))=true:=by rw[E];cases j;exact G;rfl
 have V:∀ x o,find i x=some o->∃ gd hd,find s.o x=some (gd,0,o)/\gT gd/\env x=some (0,hd)/\pJ (aP A w env) hd o:=fun x o m=>hq (x,o) (sS m)
 obtain⟨k,d⟩:∃ k:Nat->ag,∀ x o,find i x=some o->env x=some (0,k x):=⟨fun x=>((env x).map (·.2)).getD undef,fun x o m=>by
  obtain⟨_,hd,_,_,L,_⟩:=V x o m;show env x=some (0,((env x).map (·.2)).getD undef)
  rw[L];rfl⟩
 have a3:∀ b,CG i k b->∃ x,env x=some (0,k x)/\hblk (k x)=some b:=fun b ⟨x,o,n,D⟩=>⟨x,d x o n,D⟩;have U:Ad (aP A w env) ⟨w,(aP A w env).ok,Af i k⟩ i fun _=>0:=⟨⟨dE _,fun b _ K=>⟨K,rfl⟩,fun _ _ _ h=>by cases h⟩,fun x o m=>⟨k x,d x o m,by show Af i k x=_;unfold Af;rw[m]⟩⟩;have T:∀ x o,find i x=some o->DZ i o:=fun x o m=>b1 _ (sS m);refine (hg i J p c r a1 hp w (aP A w env).ok vs k (fun w' hw=>hI.mem w' (h.iw.trans' hw (fun _ _ h=>h) (fun b b7 K=>?_))) (fun b K=>?_) (fun x y b B hy b5 b4=>?_) (fun x o m=>?_) (hv.En U a2)).mono ?_;obtain⟨x,n,D⟩:=a3 b K;rcases (h.live x _ _ b n D).2 with L|L;omega;exact L.1;obtain⟨x,n,D⟩:=a3 b K
 exact⟨(h.live x _ _ b n D).1,fun a6=>a6.2 x _ _ n D⟩;obtain⟨o,m⟩:=kU B;obtain⟨o2,a8⟩:=kU hy;exact h.inj x y _ _ _ _ b (d x o m) (d y o2 a8) b5 b4;obtain⟨_,hd,_,_,L,h4⟩:=V x o m;rw[d x o m] at L;cases L;exact h4.En U rfl (T x o m);rintro e w' ⟨b6,a4,rfl,hw,b3,K,S,a7,Q⟩;have b2:∀ x,uo c x=true->dx<x:=fun x B=>aPp G x (by rw[<-H];exact zK B)
 have a9:j=false->∀ x,uo c x=true->uo i x=true:=fun C x B=>by
  subst C;have n:x∈i.map (·.1):=by rw[E,<-H];exact zK B
  obtain⟨q,D,rfl⟩:=List.mem_map.1 n;exact mV (wI D X)
 have O:∀ x,uo i x=true->uo c x=true:=fun x B=>by
  cases C:j with
  |true=>have n:=zK B;rw[E,C] at n;cases n| false=>
   have n:x∈c.map (·.1):=by have h0:=zK B;rw[E,C] at h0;rw[H];exact h0
   obtain⟨q,D,rfl⟩:=List.mem_map.1 n;exact mV (wI D (by rw[H];exact G))
 obtain⟨v,u⟩:=jc ((OD j));rw[u] at N hF;have a5:v=0\/(j=false/\v=1):=by cases j;exact .inr ⟨rfl,u.symm⟩;exact .inl u.symm
 obtain⟨k1,k2,k3⟩:=h.aHX N a5 b2 O a9 d (fun C=>by subst C;exact u.symm) (fun C=>by subst C;exact u.symm) hw (fun C x t l B=>by
  subst C;obtain⟨t',l',n⟩:=aIl (by simpa using Z) B
  exact b3 x t' l' n) K S a7 (fun x o m=>b0 _ (sS m))
 exact .inl ⟨_,_,a4,_,rfl,hF,k1,Q.hot k3 Y⟩
def FQ(os:yg)(b:Nat->ag):Nat->Option ag:=fun x=>match find os x with
 |some (.box _ _)=>some (b x)|_=>none
def EZ(os:yg)(b:Nat->ag)(w:ae)(ok0:uy)(c:Nat):o_:=⟨w,CG os b,ok0,c,FQ os b,Dv.non,fun _=>False,Non,[]⟩
def headW(os:yg):Wr:=os.map fun q=>(q.1,none,0,q.2)
theorem uS:∀ {b:yg} {x:Nat},find (headW b) x=(find b x).map fun o=>(none,0,o)
 |[],x=>rfl|(y,o)::b,x=>by by_cases c:y=x;subst c;unfold headW;rw[aAJ,aG,aG];rfl;unfold headW;rw[aAJ,aF _ _ c,aF _ _ c];exact uS
def bCA(b:yg)(s:St):Prop:=∀ q∈b,find s.o q.1=some (none,0,q.2)/\DZ b q.2
def aAM(P:ed)(fn:Func)(d:yg)(c:PV)(s:St):Prop:=∃ b,(AQ P fn.results).exec none s [] [] [] []=some b/\All b.conds/\b.wr=[]/\b.val=c/\vP (zt d) c=true/\bCA d s
def RQW(P:ed)(A:o_)(fn:Func)(c:yg)(b:PV):Exit->Act->ae->Prop
 |.panic chain,a,w=>a.defers=A.ds/\E5 A chain w|e,a,w=>(e=.normal\/e=.ret)/\∃ s,aAM P fn c b s/\qj A s a w
def aAS(os:yg)(A:o_):Prop:=∀ x b,A.ext x=some b->∃ t l,find os x=some (.box t l)
theorem aYq{f:Nat}{fn:Func}{c:Code}{os j:yg}{args:ji}{L:PV}(hf:P.funcs[f]?=some fn)(hb:fn.body=some c)(a4:Nat.ble args.length fn.ntmps=true)(a6:IB (os.map (·.1))=true)(_:IB (j.map (·.1))=true)
  (a7:∀ x t l,find os x=some (.box t l)->uo j x=true) (b0:∀ q∈os,DZ os q.2) (b2:args.all (vP (zt os))=true)
  (hT:∀ A:o_,A.nt=fn.ntmps->aAS os A->(os=[]->A.S=Non)->l_ P I A->kw P A ⟨slots 0 args,headW os⟩ c (RQW P A fn j L)):Eb P I f os j args L:=by
 intro w m vs d hM J Y a2 hv;have a9:=hv.length;have hn:=aBO a4;have N:∀ x,uo os x=true->dx<x:=fun x r=>aPp a6 x (zK r);have hA:l_ P I (EZ os d w m fn.ntmps):=⟨hM,fun _ h=>h.elim,J,qw.non P,fun _ _ _ h=>h.elim,fun _ _ _ _ _ _ h=>h.elim⟩;have hX:aAS os (EZ os d w m fn.ntmps):=fun x C r=>by have E:FQ os d x=some C:=r;unfold FQ at E;split at E;exact⟨_,_,by assumption⟩;cases E
 have G:∀ {x B C},Af os d x=some (B,C)->uo os x=true/\B=0/\C=d x:=fun {x B C} h=>by unfold Af at h;split at h;cases h;exact⟨mV qm,rfl,rfl⟩;cases h
 have X:Ctx.Le ⟨w,m,Af os d⟩ (aP (EZ os d w m fn.ntmps) w (Af os d)):=⟨dE _,fun b _ hb=>⟨⟨.inl hb,fun x B C r e=>by
  obtain⟨D,rfl,rfl⟩:=G r;obtain⟨o,u⟩:=kU D
  exact (J b ⟨x,o,u,e⟩).2 hb⟩,rfl⟩,fun x B C h=>⟨B,C,h,dE _,fun _=>rfl⟩⟩
 have hg:qj (EZ os d w m fn.ntmps) ⟨slots 0 args,headW os⟩ { tmps:=vs.toArray++Array.replicate (fn.ntmps-vs.toArray.size) undef,defers:=[] } w:=by
  refine⟨Af os d,{ iw:=gq.refl _ _,size:=?_,dom:=fun x r=>?_,lu:=fun x g B o h=>?_,live:=fun x B C b h hb=>?_,inj:=fun x y v1 D v2 W b r hy V U=>?_,tmps:=fun t g pv h N=>?_,defers:=rfl,und:=fun t pv h=>(by obtain⟨k,_,W⟩:=rU h;cases W),pg:=fun x C r=>?_,dev:=fun g B O a8 l h _=>?_ }⟩;simp[EZ];omega;rw[uS] at r;cases z:find os x with
  |none=>unfold Af;rw[z]|some o=>rw[z] at r;cases r
  rw[uS] at h;cases z:find os x with
  |none=>rw[z] at h;cases h|some o2=>rw[z] at h;cases h;refine⟨d x,by unfold Af;rw[z],fun _=>?_⟩;exact (a2 x _ z).Az X (fun b _ _=>rfl)
  obtain⟨D,rfl,rfl⟩:=G h;obtain⟨o,u⟩:=kU D;exact⟨(J b ⟨x,o,u,hb⟩).1,.inr ⟨⟨x,o,u,hb⟩,aET (aFG (N x D))⟩⟩;obtain⟨k1,rfl,rfl⟩:=G r;obtain⟨k2,rfl,rfl⟩:=G hy;exact Y x y b k1 k2 V U;obtain⟨k,D,W⟩:=uQ h;obtain⟨v,h3,h4⟩:=hv.at W;rw[mf] at D;subst D;have hk:t<vs.length:=(List.getElem?_eq_some_iff.1 h3).1;refine⟨v,?_,h4.le X⟩;rw[Array.getElem?_append_left (by simpa using hk)];simpa using h3;obtain⟨t,l,D⟩:=hX x C r;refine⟨aET (aFG (N x (mV D))),0,d x,by show Af os d x=_;unfold Af;rw[D],dE _,fun _=>?_⟩;have E:FQ os d x=some C:=r;unfold FQ at E;rw[D] at E;cases E;rfl;rw[uS] at h;cases z:find os dx with
  |none=>rw[z] at h;cases h|some o2=>have:=N dx (mV z);omega
 refine calls_of_wp hf hb (wp_mono (hT (EZ os d w m fn.ntmps) rfl hX (fun e=>by subst e;funext b;exact propext ⟨fun⟨x,o,h,_⟩=>(by cases h),False.elim⟩) hA _ w hg (fun _ _ _ C h=>⟨C,h⟩)) (fun e a' K he=>?_))
 have a5:(e=.normal\/e=.ret)/\∃ s,aAM P fn j L s/\qj (EZ os d w m fn.ntmps) s a' K:=by
  cases e with
  |panic chain=>obtain⟨_,l,hl,_⟩:=he;exact hl.elim
  |_=>exact he
 obtain⟨D,s,⟨a0,k1,k2,k3,k4,k5,k6⟩,env,Q⟩:=a5;rw[zL] at k1;have a1:(AQ P fn.results).ok none s (fun _ v' wr=>v'=L/\wr=[]):=M.zy _ none s a0 _ k1 (fun p hp=>k2.mem p hp) ⟨k4,k3⟩;obtain⟨v',H,h5,h6,h7,_⟩:=vN Q a1;subst h7;have T:∀ x o,find j x=some o->find s.o x=some (none,0,o)/\DZ j o:=fun x o u=>k6 (x,o) (sS u)
 obtain⟨i,n⟩:∃ i:Nat->ag,∀ x o,find j x=some o->env x=some (0,i x):=⟨fun x=>((env x).map (·.2)).getD undef,fun x o u=>by
  obtain⟨C,h3,_⟩:=Q.lu x none 0 o (T x o u).1;show env x=some (0,((env x).map (·.2)).getD undef)
  rw[h3];rfl⟩
 have Z:Ad (aP (EZ os d w m fn.ntmps) K env) (Et K w m j i) j fun _=>0:=⟨⟨dE _,fun b _ hb=>⟨⟨hb.1,fun⟨x,o,D,W⟩=>hb.2 x 0 _ (n x o D) W⟩,rfl⟩,fun _ _ _ h=>by cases h⟩,fun x o u=>⟨i x,n x o u,by show Af j i x=_;unfold Af;rw[u]⟩⟩
 have:a'.defers=[]/\∃ v,(results fn a'.tmps).run P K=.ok v K/\∃ i H,Ending.returned v=.returned H/\gq (CG os d) w K/\(∀ x t l,find os x=some (.box t l)->i x=d x) /\
   (∀ x b,uo j x=true->hblk (i x)=some b->b<K.heap.size/\(w.heap.size<=b\/CG os d b))/\(∀ x y b,uo j x=true->uo j y=true->hblk (i x)=some b->hblk (i y)=some b->x=y) /\
   (∀ x o,find j x=some o->pJ (Et K w m j i) (i x) o)/\RV (Et K w m j i) v' H:=by
  refine⟨Q.defers,H,h5,i,H,rfl,Q.iw,fun x t l r=>?_,fun x b r hb=>?_,fun x y b r hy V U=>?_,fun x o u=>?_,h6.En Z k5⟩;obtain⟨o,u⟩:=kU (a7 x t l r);have e1:(EZ os d w m fn.ntmps).ext x=some (d x):=by show FQ os d x=_;unfold FQ;rw[r]
  exact (Q.pg x _ e1).2.now (n x o u);obtain⟨o,u⟩:=kU r;obtain⟨h8,h9⟩:=Q.live x _ _ b (n x o u) hb;exact⟨h8,h9.imp id fun h=>h.1⟩;obtain⟨o,u⟩:=kU r;obtain⟨o2,a3⟩:=kU hy;exact Q.inj x y _ _ _ _ b (n x o u) (n y o2 a3) V U;obtain⟨C,h8,h9⟩:=Q.lu x none 0 o (T x o u).1;rw[n x o u] at h8;cases h8;exact (h9 trivial).En Z rfl (T x o u).2
 rcases D with rfl|rfl<;>exact this
end
section
variable {A:o_} {s s':St} {a:Act} {w:ae} {env:Env}
def aBg(kO:List Nat)(s:St):yg->Bool
 |[]=>true|(x,.box _ _)::l=>(match find s.o x with
  |some (_,0,_)=>kO.any (bz x)|_=>false)&&aBg kO s l
 |_::l=>aBg kO s l
theorem aMn{kO:List Nat}:∀ {os:yg} {x:Nat} {t:TypeId} {l:g_},aBg kO s os=true->find os x=some (.box t l)->∃ g ob,find s.o x=some (g,0,ob)/\kO.any (bz x)=true
 |(y,o)::os,x,t,l,h,hf=>by by_cases hy:y=x;subst hy;rw[aG] at hf;cases hf;unfold aBg at h;rw[zg] at h;have h1:=h.1;split at h1;exact⟨_,_,by assumption,h1⟩;cases h1;rw[aF _ _ hy] at hf;refine aMn (os:=os) ?_ hf;unfold aBg at h;split at h;rename_i e;cases e;rename_i e;cases e;rw[zg] at h;exact h.2;rename_i e;cases e;exact h
def bAw(os:yg)(R:List (Nat×(Nat->g_)))(kT kO:List Nat)(s:St):Option (List Prop×St):=match Fb [] kO s kT,wU R [] kO s kO,aBg kO s os with
 |some t,some (b,o),true=>some (b,⟨t,o⟩)|_,_,_=>none
theorem qj.m_{os:yg}{R:List (Nat×(Nat->g_))}{kT kO:List Nat}{cs:List Prop}(h:qj A s a w)(g:aAS os A)(hr:bAw os R kT kO s=some (cs,s'))(hc:All cs):qj A s' a w:=by
 unfold bAw at hr
 cases d:Fb [] kO s kT<;>cases c:wU R [] kO s kO<;>cases b:aBg kO s os<;>simp only[d,c,b] at hr<;>try (cases hr;done)
 rename_i t q;obtain⟨j,o⟩:=q;cases hr
 exact h.KI d c hc Bh.nil (fun x f e=>by
  obtain⟨t,l,i⟩:=g x f e
  exact aMn b i)
def Gq(m:Nat->Nat):PC->Option PC
 |.lit v=>some (.lit v)|.bs n l=>some (.bs n l)|.sl n len f=>some (.sl n len f)|.ow x b n c len=>some (.ow (m x) b n c len)|.pt x b c=>some (.pt (m x) b c)|.any=>some .any|_=>none
def Bq(m:Nat->Nat):g_->Option g_
 |[]=>some []|c::l=>match Gq m c,Bq m l with
  |some c,some l=>some (c::l)|_,_=>none
def KO(m:Nat->Nat):PW->Option PW
 |.one c=>match Gq m c with|some c=>some (.one c)|none=>none
 |.agg l=>match Bq m l with|some l=>some (.agg l)|none=>none
def Gp(m:Nat->Nat):List (Nat×og×PV)->Option (List (Nat×og×PV))
 |[]=>some []|(t,g,.w x)::l=>(match KO m x,Gp m l with
  |some x,some l=>some ((t,g,.w x)::l)|_,_=>none)
 |_=>none
def BV(m:Nat->Nat)(R:List (Nat×(Nat->g_))):Wr->Option (List Prop×Wr)
 |[]=>some ([],[])|(x,g,b,.box t l)::o=>(match Bq m l,BV m R o with
  |some l,some (c,o)=>some (c,(m x,g,b,.box t l)::o)|_,_=>none)
 |(x,g,b,.arr e n len f)::o=>(match find R x,BV m R o with
  |some d,some (c,o)=>some ((∀ i,i<len->Bq m (f i)=some (d i))::c,(m x,g,b,.arr e n len d)::o)|none,some (c,o)=>some ((∀ i,i<len->(f i).all (bT false)=true)::c,(m x,g,b,.arr e n len f)::o)|_,_=>none)
 |_=>none
def FH(m:Nat->Nat):List Nat->Bool
 |[]=>true|x::l=>(l.all fun y=>!Nat.beq (m x) (m y))&&FH m l
def aHA(m:Nat->Nat)(l:List Nat):Bool:=l.all fun x=>XN x dx||bz (m x) x
def aGY(m:Nat->Nat)(R:List (Nat×(Nat->g_)))(s:St):Option (List Prop×St):=match Gp m s.t,BV m R s.o,FH m (s.o.map (·.1))&&aHA m (s.o.map (·.1)) with
 |some t,some (b,o),true=>some (b,⟨t,o⟩)|_,_,_=>none
def Eo(m:Nat->Nat)(l:List Nat)(env:Env):Env:=fun z=>match find (l.map fun x=>(m x,x)) z with
 |some x=>env x|none=>none
theorem bKr:∀ {m:Nat->Nat} {l:List Nat},FH m l=true->∀ x∈l,find (l.map fun x=>(m x,x)) (m x)=some x
 | m,y::l,h,x,b=>by
  simp only[FH,zg] at h;rw[aAJ];rcases List.mem_cons.1 b with rfl|b;exact aG _ _ _
  have c:m y≠m x:=fun e=>by have:=List.all_eq_true.1 h.1 x b;rw[e,aFF] at this;cases this
  rw[aF _ _ c];exact bKr h.2 x b
theorem aEr{m:Nat->Nat}:∀ {l:List Nat} {z x:Nat},find (l.map fun x=>(m x,x)) z=some x->x∈l/\m x=z
 |y::l,z,x,h=>by rw[aAJ] at h;by_cases b:m y=z;rw[<-b,aG] at h;cases h;exact⟨aAw,b⟩;rw[aF _ _ b] at h;obtain⟨d,c⟩:=aEr h;exact⟨aAD _ d,c⟩
theorem find_some_of{c:Type}:∀ {o:List (Nat×c)} {x:Nat},find o x≠none->x∈o.map (·.1)
 |[],x,h=>absurd rfl h|(y,p)::o,x,h=>by by_cases b:y=x;subst b;exact aAw;rw[aF _ _ b] at h;exact aAD _ (find_some_of h)
section
variable {m:Nat->Nat} {C C':Ctx}
theorem R.ren(hc:C.cold.Le C'.cold)(l:∀ x d g,C.env x=some (d,g)->C'.env (m x)=some (d,g)){c j:PC}{xs:jl}(hr:R C c xs)(h:Gq m c=some j):R C' j xs:=by
 have f:∀ {x d p},At C x d p->At C' (m x) d p:=fun⟨k,g,b,e,i⟩=>⟨k,g,l _ _ _ b,e,i⟩;cases hr with
 |ow b e=>cases h;exact .ow b (f e)|pt b e=>cases h;exact .pt b (f e)|lit b=>cases h;exact .lit b|bs b=>cases h;exact .bs b|any b=>cases h;exact .any b|sl b e i=>cases h;exact (R.sl (C:=C.cold) b e i).le (C':=C'.cold) hc |>.le ⟨dE _,fun _ _ n=>⟨n,rfl⟩,fun _ _ _ h=>by cases h⟩|_=>cases h
theorem RL.ren(hc:C.cold.Le C'.cold)(g:∀ x b i,C.env x=some (b,i)->C'.env (m x)=some (b,i)):∀ {l f:g_} {e:jl},RL C l e->Bq m l=some f->RL C' f e
 |[],_,_,d,h=>by cases h;cases d;exact .nil|c::l,_,_,d,h=>by
  unfold Bq at h
  cases k:Gq m c<;>cases j:Bq m l<;>simp only[k,j] at h<;>try (cases h;done)
  cases h;cases d with
  |cons o n=>exact .cons (o.ren hc g k) (RL.ren hc g n j)
theorem RW.ren(hc:C.cold.Le C'.cold)(g:∀ x b i,C.env x=some (b,i)->C'.env (m x)=some (b,i)){x f:PW}{v:ag}(hr:RW C x v)(h:KO m x=some f):RW C' f v:=by
 unfold KO at h;cases hr with
 |@one c _ e=>
  cases d:Gq m c<;>simp only[d] at h<;>cases h
  exact .one (e.ren hc g d)
 |@agg l _ e=>
  cases d:Bq m l<;>simp only[d] at h<;>cases h
  exact .agg (e.ren hc g d)
end
theorem aXb{m:Nat->Nat}:∀ {l c:List (Nat×og×PV)} {t:Nat} {g:og} {pv:PV},Gp m l=some c->find c t=some (g,pv)->∃ x e,find l t=some (g,.w x)/\KO m x=some e/\pv=.w e
 |[],_,t,g,pv,h,b=>by cases h;cases b|(t0,p,.w x)::l,c,t,g,pv,h,b=>by
  unfold Gp at h
  cases i:KO m x<;>cases f:Gp m l<;>simp only[i,f] at h<;>cases h
  by_cases d:t0=t;subst d;rw[aG] at b;cases b;exact⟨x,_,aG _ _ _,i,rfl⟩;rw[aF _ _ d] at b;obtain⟨y,j,o,n,k⟩:=aXb f b;exact⟨y,j,(aF _ _ d).trans o,n,k⟩
 |(_,_,.o7 _)::_,_,_,_,_,h,_=>by cases h|(_,_,.none)::_,_,_,_,_,h,_=>by cases h
def aGZ(m:Nat->Nat):oh->oh->Prop
 |.box t l,.box c l'=>t=c/\Bq m l=some l'|.arr e n len f,.arr h d b g=>e=h/\n=d/\len=b/\∀ i,i<len->Bq m (f i)=some (g i)|_,_=>False
theorem aSe{m:Nat->Nat}:∀ {l:g_},l.all (bT false)=true->Bq m l=some l
 |[],_=>rfl| c::l,h=>by
  rw[List.all_cons,zg] at h
  have d:Gq m c=some c:=by
   have b:=h.1
   cases c<;>first|rfl|cases b
  rw[Bq,d,aSe h.2]
theorem aNv{m:Nat->Nat}{R:List (Nat×(Nat->g_))}:∀ {o r:Wr} {B:List Prop} {z:Nat} {g:og} {b:Nat} {c:oh},BV m R o=some (B,r)->All B->find r z=some (g,b,c)->∃ x j,(x,g,b,j)∈o/\m x=z/\aGZ m j c
 |[],_,_,z,g,b,c,h,_,d=>by cases h;cases d|(x,K,I,.box t l)::o,r,B,z,g,b,c,h,hc,d=>by
  unfold BV at h
  cases u:Bq m l<;>cases p:BV m R o<;>simp only[u,p] at h<;>cases h
  rename_i q;obtain⟨G,J⟩:=q;by_cases k:m x=z;subst k;rw[aG] at d;cases d;exact⟨x,_,aAw,rfl,rfl,u⟩;rw[aF _ _ k] at d;obtain⟨y,j,F,E,D⟩:=aNv p hc d;exact⟨y,j,aAD _ F,E,D⟩
 | (x,K,I,.arr e n len f)::o,r,B,z,g,b,c,h,hc,d=>by
  unfold BV at h
  cases u:find R x<;>cases p:BV m R o<;>simp only[u,p] at h<;>cases h
  all_goals
   rename_i q;obtain⟨G,J⟩:=q;by_cases k:m x=z
   ·subst k;rw[aG] at d;cases d;refine⟨x,_,aAw,rfl,rfl,rfl,rfl,fun i H=>?_⟩
    first|exact hc.1 i H|exact aSe (hc.1 i H)
   rw[aF _ _ k] at d;obtain⟨y,j,F,E,D⟩:=aNv p hc.2 d;exact⟨y,j,aAD _ F,E,D⟩
 |(_,_,_,.dead)::_,_,_,_,_,_,_,h,_,_=>by cases h|(_,_,_,.dev _ _ _)::_,_,_,_,_,_,_,h,_,_=>by cases h
end
section
variable {A:o_} {s s':St} {a:Act} {w:ae} {env:Env}
theorem aSd{m:Nat->Nat}:∀ {o:Wr} {x:Nat} {p:og×Nat×oh},FH m (o.map (·.1))=true->(x,p)∈o->find o x=some p
 | (y,q)::o,x,p,h,b=>by
  simp only[aAJ,FH,zg] at h;rcases List.mem_cons.1 b with e|b
  cases e;exact aG _ _ _;have c:y≠x:=fun e=>by have:=List.all_eq_true.1 h.1 x (List.mem_map.2 ⟨_,b,rfl⟩);rw[e,aFF] at this;cases this
  rw[aF _ _ c];exact aSd h.2 b
theorem qj.ren{m:Nat->Nat}{R:List (Nat×(Nat->g_))}{cs:List Prop}(h:qj A s a w)(hS:A.S=Non)(hr:aGY m R s=some (cs,s'))(Z:All cs):qj A s' a w:=by
 obtain⟨env,h⟩:=h;unfold aGY at hr
 cases T:Gp m s.t<;>cases N:BV m R s.o<;>cases L:FH m (s.o.map (·.1))&&aHA m (s.o.map (·.1))<;>simp only[T,N,L] at hr<;>try (cases hr;done)
 rename_i t q;obtain⟨b0,o⟩:=q;cases hr;rw[zg] at L;obtain⟨h3,a8⟩:=L;have Y:∀ x c d,env x=some (c,d)->x∈s.o.map (·.1):=fun x c d B=>find_some_of (fun Q=>by rw[h.dom x Q] at B;cases B);have eN:∀ x c d,env x=some (c,d)->Eo m (s.o.map (·.1)) env (m x)=some (c,d):=fun x c d B=>by unfold Eo;rw[bKr h3 x (Y x c d B)];exact B
 have eO:∀ z c d,Eo m (s.o.map (·.1)) env z=some (c,d)->∃ x,m x=z/\x∈s.o.map (·.1)/\env x=some (c,d):=fun z c d B=>by unfold Eo at B;split at B;rename_i x u;obtain⟨H,W⟩:=aEr u;exact⟨x,W,H,B⟩;cases B
 have a5:∀ b,(aP A w env).ok b->(aP A w (Eo m (s.o.map (·.1)) env)).ok b:=fun b D=>⟨D.1,fun z c d J e=>by
  obtain⟨x,_,_,u⟩:=eO z c d J
  exact D.2 x c d u e⟩
 have j:(aP A w env).cold.Le (aP A w (Eo m (s.o.map (·.1)) env)).cold:=⟨dE _,fun b _ D=>⟨a5 b D,rfl⟩,fun _ _ _ h=>by cases h⟩;refine⟨Eo m (s.o.map (·.1)) env,{ iw:=h.iw,size:=h.size,dom:=fun z J=>?_,lu:=fun z g c ob K=>?_,live:=fun z c d b J D=>?_,inj:=fun y z v1 T v2 N b X J a7 a6=>?_,tmps:=fun t' g pv K hg=>?_,defers:=h.defers,und:=fun t' pv K=>?_,pg:=fun x d u=>?_,dev:=fun g c O gm l K hg=>?_ }⟩
 ·cases a4:Eo m (s.o.map (·.1)) env z with
  |none=>rfl| some p=>
   obtain⟨c,d⟩:=p;obtain⟨x,rfl,u,_⟩:=eO z c d a4;exfalso
   have a2:∀ {R:List (Nat×(Nat->g_))} {l o:Wr} {cs:List Prop},BV m R l=some (cs,o)->x∈l.map (·.1)->find o (m x)=none->False:=by
    intro R l
    induction l with
    |nil=>intro o cs _ u _;cases u| cons p l ih=>
     intro o cs E u Q;obtain⟨y,g,P,ob⟩:=p;have r:∀ {U:oh} {o2:Wr} {a1:List Prop},BV m R l=some (a1,o2)->o=(m y,g,P,U)::o2->False:=fun {U o2 a1} h5 e=>by subst e;by_cases X:m y=m x;rw[<-X,aG] at Q;cases Q;rw[aF _ _ X] at Q;rcases List.mem_cons.1 u with e|u;exact X (by rw[e]);exact ih h5 u Q
     cases ob with
     |box t l2=>
      unfold BV at E
      cases h6:Bq m l2<;>cases C:BV m R l<;>simp only[h6,C] at E<;>cases E
      exact r C rfl
     |arr e n len f=>
      unfold BV at E
      cases h6:find R y<;>cases C:BV m R l<;>simp only[h6,C] at E<;>cases E
      exact r C rfl;exact r C rfl
     |dead=>cases E|dev _ _ _=>cases E
   exact a2 N u J
 ·obtain⟨x,F,H,rfl,I⟩:=aNv N Z K;obtain⟨d,V,k5⟩:=h.lu x g c F (aSd h3 H);refine⟨d,eN x c d V,fun hg=>?_⟩;have k6:=k5 hg
  cases F<;>cases ob<;>try exact I.elim
  obtain⟨rfl,k7⟩:=I;obtain⟨g0,a9,k8,k9,a3⟩:=k6;exact⟨g0,a9,k8,k9,a3.ren j eN k7⟩;obtain⟨rfl,rfl,rfl,k7⟩:=I;obtain⟨vs,k8,k9⟩:=k6;exact⟨vs,k8,fun i hi=>(k9 i hi).ren j eN (k7 i hi)⟩
 obtain⟨x,rfl,_,B⟩:=eO z c d J;exact⟨(h.live x c d b B D).1,.inl ((h.live x c d b B D).2.resolve_right fun k=>by have:=k.1;rw[hS] at this;exact this.elim)⟩;obtain⟨x1,rfl,_,e1⟩:=eO y v1 T X;obtain⟨x2,rfl,_,e2⟩:=eO z v2 N J;rw[h.inj x1 x2 v1 T v2 N b e1 e2 a7 a6];obtain⟨x,x',H,W,rfl⟩:=aXb T K;obtain⟨v,I,V⟩:=h.tmps t' g _ H hg;cases V with
 |w V=>exact⟨v,I,.w (V.ren j eN W)⟩
 obtain⟨x,x',H,W,rfl⟩:=aXb T K;exact h.und t' _ H;obtain⟨D,P,G,E,h5,h6⟩:=h.pg x d u;have a0:env x=some (P,G):=E;have C:=List.all_eq_true.1 a8 x (Y x P G a0)
 have h8:m x=x:=by
  rw[Bool.or_eq_true] at C;rcases C with C|C
  have h9:x+1<=dx:=by simpa[XN] using C
  have:=aBO D;omega;exact iy C
 refine⟨D,P,G,?_,h5,h6⟩;have:=eN x P G a0;rw[h8] at this;exact this
 ·obtain⟨x,F,H,W,I⟩:=aNv N Z K
  cases F<;>exact I.elim
end
theorem qj.EL{A:o_}{s:St}{a:Act}{w:ae}{x e n b y G len j:Nat}{f f':Nat->g_}(h:qj A s a w)(F:find s.o x=none)(hb:find s.o b=some (none,y,.arr G 1 len f))(h1:f j=[.lit (.slice none 0 0)])(h2:f' j=[.ow x 0 n 0 0])(h3:∀ i,i<len->i≠j->f' i=f i) :
  qj A { t:=s.t,o:=(b,none,y,.arr G 1 len f')::(x,none,0,.arr e n 0 (fun _=>[]))::s.o } a w:=by
 obtain⟨env,h⟩:=h;have C:fresh s x=0:=by unfold fresh;rw[F]
 obtain⟨m,P⟩:=h.new (w':=w) x none (.slice none 0 0) (.arr e n 0 (fun _=>[])) (Ext.refl w) (fun b hb=>by cases hb) (fun _ _=>⟨[],⟨d_,.inl ⟨rfl,rfl⟩⟩,fun i u=>a_⟩);rw[C] at m P;have B:x≠b:=fun e=>by subst e;rw[F] at hb;cases hb
 refine⟨_,{ m with dom:=fun p d=>?_,lu:=fun p g k o d=>?_,tmps:=fun H g pv d r=>m.tmps H g pv d r,dev:=fun g k O gm l d r=>?_ }⟩;by_cases c:b=p;subst c;rw[aG] at d;cases d;rw[aF _ _ c] at d;exact m.dom p d;by_cases c:b=p;subst c;rw[aG] at d;cases d;obtain⟨Q,N,L⟩:=m.lu b none y _ (show find ((x,none,0,oh.arr e n 0 (fun _=>[]))::s.o) b=_ by rw[aF _ _ B];exact hb);refine⟨Q,N,fun r=>?_⟩;obtain⟨D,K,E⟩:=L r;refine⟨D,K,fun i u=>?_⟩;by_cases q:i=j;subst q;have z:=E i u;rw[h1] at z;rw[h2];generalize (D.drop (i*1)).take 1=S at z;cases z with
 |@cons _ _ _ U T J I=>cases I;cases J;exact .cons (xs:=[_]) (.ow ⟨_,_,rfl⟩ ⟨0,_,jA _ _ _ _,dE _,fun _=>⟨none,0,0,rfl,a_,rfl⟩⟩) .nil
 rw[h3 i u q];exact E i u;rw[aF _ _ c] at d;exact m.lu p g k o d;by_cases c:b=dx;subst c;rw[aG] at d;cases d;rw[aF _ _ c] at d;exact m.dev g k O gm l d r
def QW:jm:={ Bv 0 1 with payload:=strOf [115,116,97,116,101] }
theorem Zw(k:Nat)(a:Int):zl (Bv k a):=⟨rfl,rfl,rfl,rfl,by show gy 0;unfold gy;omega,by show gy 0;unfold gy;omega,by show gy 0;unfold gy;omega,by show aC.size<=10000;decide,by show aC.size<=2000;decide⟩
theorem LK:zl QW:=⟨rfl,rfl,rfl,rfl,by show gy 0;unfold gy;omega,by show gy 0;unfold gy;omega,by show gy 0;unfold gy;omega,jb,by show aC.size<=2000;decide⟩
theorem aUj(root:di)(h:root.length=16):qx (ET root):=by refine⟨⟨by show (LZ 4).length<=1000;decide,?_,?_,?_,?_,h⟩,by show 3<(LZ 4).length;decide,by show ((LZ 4).getD 2 []).length=48;decide,by show ((LZ 4).getD 3 []).length=48;decide,by show 64<=ED.length;unfold ED;rw[aCG];decide⟩;intro l b;have:∀ l∈LZ 4,l.length<=100000:=jb;exact this l b;intro l b x a;have:∀ l∈LZ 4,∀ x∈l,0<=x/\x<=3:=jb;exact this l b x a;show ED.length<=1000000;unfold ED;rw[aCG];decide;intro x a;have:x=strOf Em:=aIn a;rw[this,bC];show Em.length<=1000000;unfold Em;rw[aCG];decide
abbrev QS:=Option jk×jr×Nat
def QT(q:QS):Bool:=bif !q.1.isSome then true else !((bG q.1).err==0)
def F7(q:QS)(a n2:jr)(k:Nat):jr:=match k with
 |0=>q.2.1|1=>a|_=>n2
def bRp(k:Nat)(a:Bool):g_:=match k with
 |0=>[.lit (.slice none 0 0),.ow 1000 0 1 0 3,.lit (.slice none 0 0),.lit (.slice none 0 0),.ow 1001 0 1 0 3,.lit (.bool a)]|k=>[.ow 12007 0 18 0 k,.ow 1000 0 1 0 3,.lit (.slice none 0 0),.lit (.slice none 0 0),.ow 1001 0 1 0 3,.lit (.bool a)]
def Zg(H:Nat->jr):Nat->g_:=fun i=>qi (H i)
def flE(f:Fl):g_:=[.sl 1 f.length (vz f)]
def bgP(H:Nat->jr)(k i:Nat):g_:=match XN i k with
 |true=>[.sl 1 1 (fun j=>[flE (H i).f].getD (0+j) [])]|false=>[.lit (.slice none 0 0)]
def ZY:Nat->g_:=fun _=>[.lit (.slice none 0 0)]
def bgT(k:Nat):List (Nat×og×PV):=[(1,none,dm (.pt 1003 0 0)),(2,none,dw k)]
def bgN(k:Nat):Nat:=match k with
 |0=>13016|1=>13017|_=>13018
def Ed(k i:Nat):g_:=match XN i k with
 |true=>[.ow (bgN i) 0 1 0 1]|false=>[.lit (.slice none 0 0)]
def bgV(k i:Nat):g_:=match bz i k with
 |true=>[.ow 13015 0 1 0 1]|false=>Ed k i
def bgF(h:jr):Nat->g_:=fun j=>[flE h.f].getD j []
def EY(H:Nat->jr)(k:Nat):Nat×og×Nat×oh:=(bgN k,none,0,.arr 63 1 1 (bgF (H k)))
def ZZ(k x:Nat):Nat:=match bz x 13015 with
 |true=>bgN k|false=>x
def bgO(H:Nat->jr)(k:Nat)(a:Bool):Wr:=match k with
 |0=>[(1003,none,0,.box 57 (bRp 0 a)),(1000,none,0,.arr 100 1 3 (Ed 0)),(1001,none,0,.arr 101 1 3 ZY)]|1=>[(1003,none,0,.box 57 (bRp 1 a)),(12007,none,0,.arr 65 18 1 (Zg H)),(1000,none,0,.arr 100 1 3 (Ed 1)),(1001,none,0,.arr 101 1 3 ZY),EY H 0]|2=>[(1003,none,0,.box 57 (bRp 2 a)),(12007,none,0,.arr 65 18 2 (Zg H)),(1000,none,0,.arr 100 1 3 (Ed 2)),(1001,none,0,.arr 101 1 3 ZY),EY H 0,EY H 1]|k=>[(1003,none,0,.box 57 (bRp k a)),(12007,none,0,.arr 65 18 k (Zg H)),(1000,none,0,.arr 100 1 3 (Ed k)),(1001,none,0,.arr 101 1 3 ZY),EY H 0,EY H 1,EY H 2]
def VA(q:QS):Nat->Bool
 |0=>false|_=>QT q
def aJS(q:QS)(a n2:jr)(k:Nat):St:=⟨bgT k,bgO (F7 q a n2) k (VA q k)⟩
def V_(q:QS)(b n2 h:jr)(k:Nat)(a:Bool):St:=⟨(3,none,dm (.pt 5008 0 0))::bgT k,(5008,none,0,.box 65 (qi h))::bgO (F7 q b n2) k a⟩
def bgL:List (Nat×Spec):=[(14,aV true Gw),(33,aPi Lr),(15,aV false bFj)]
theorem aJR:∀ p∈bgL,b_ prog af p.1 p.2:=by intro p a;simp only[bgL,xn,aAe,or_false] at a;rcases a with rfl|rfl|rfl;exact aFp;exact bMe;exact aCh
theorem bgM:jq prog af (find bgL):=⟨aY aJR,dB⟩
theorem ca{n:Nat}{f:Nat->g_}(h:∀ i,i<n->∀ x∈f i,bT false x=true):∀ i,i<n->(f i).all (bT false)=true:=fun i a=>List.all_eq_true.2 (h i a)
theorem Gf{i:Nat}(h:i<3):i=0\/i=1\/i=2:=a_
theorem aCq(h:jr):∀ x∈qi h,bT false x=true:=by
 intro x a;simp only[qi,xn,aAe,or_false] at a
 rcases a with rfl|rfl|rfl<;>rfl
theorem iM(H:Nat->jr)(n:Nat):∀ i,i<n->∀ x∈Zg H i,bT false x=true:=fun i _=>aCq (H i)
theorem QF(H:Nat->jr)(k n:Nat):∀ i,i<n->∀ x∈bgP H k i,bT false x=true:=fun i _=>by unfold bgP;cases XN i k;exact yZ rfl;exact yZ rfl
theorem bCx(n:Nat):∀ i,i<n->∀ x∈Ed 0 i,bT false x=true:=fun i _=>by unfold Ed;have:XN i 0=false:=rfl;rw[this];exact yZ rfl
theorem zx(h:jr):∀ i,i<1->(bgF h i).all (bT false)=true:=fun i a=>by obtain rfl:i=0:=a_;rfl
theorem jY(n:Nat):∀ i,i<n->∀ x∈ZY i,bT false x=true:=fun _ _=>yZ rfl
theorem aQa:(∀ i,i<4->∀ x∈([(PW.one (PC.lit (gp aEf 16))).cells,(PW.one (PC.lit (gp aEf 16))).cells,(PW.one (PC.lit (gp aEf 16))).cells,(PW.one (PC.lit (gp aEf 16))).cells][i]?.getD []),bT false x=true) /\
  ∀ i,i<4->[(PW.one (PC.lit (gp aEf 16))).cells,(PW.one (PC.lit (gp aEf 16))).cells,(PW.one (PC.lit (gp aEf 16))).cells,(PW.one (PC.lit (gp aEf 16))).cells][i]?.getD []=Hu i:=by
 refine⟨fun i a=>?_,fun i a=>?_⟩
 ·have:i=0\/i=1\/i=2\/i=3:=a_
  rcases this with rfl|rfl|rfl|rfl<;>exact yZ rfl
 ·have:i=0\/i=1\/i=2\/i=3:=a_
  rcases this with rfl|rfl|rfl|rfl<;>rfl
def QE(q:QS)(a n2 h:jr)(k:Nat):St:=⟨(3,none,dm (.pt 5008 0 0))::bgT k,[(5008,none,0,.box 65 (qi h)),(1003,none,0,.box 57 (bRp (k+1) (QT q))),(12007,none,0,.arr 65 18 (k+1) (Zg (F7 q a n2))),(1000,none,0,.arr 100 1 3 (Ed k)),(1001,none,0,.arr 101 1 3 ZY)]++(match k with|0=>[]|1=>[EY (F7 q a n2) 0]|_=>[EY (F7 q a n2) 0,EY (F7 q a n2) 1])⟩
def aTM(q:QS)(a n2 h:jr):St:=⟨(6,none,dm (.pt 9008 0 0))::(7,none,dm (.pt 9009 0 0))::(9,none,t_ q.1.isSome)::(3,none,dm (.pt 5008 0 0))::bgT 0,
 (9008,none,0,.box 65 (qi q.2.1))::(9009,none,0,.box 40 (h_ (bG q.1)))::(5008,none,0,.box 65 (qi h))::bgO (F7 q a n2) 0 false⟩
def F5(H:Nat->jr)(a:Bool):g_:=[.sl 18 3 (fun i=>Zg H (0+i)),.sl 1 3 (fun i=>bgP H 3 (0+i)),.lit (.slice none 0 0),.lit (.slice none 0 0),.sl 1 3 (fun i=>ZY (0+i)),.lit (.bool a)]
theorem bRo(q:QS)(n0 j n2:jr)(B:ET (lI 0)=n0)(e1:ET (lI 1)=j)(e2:ET (lI 2)=n2)(eq:fE [] (dA QW) n0 0=q){A:o_}(hS:A.S=Non)(hn:A.nt=Tryz.f12.ntmps)(hI:l_ prog af A):∃ c,Tryz.f12.body=some c/\∀ Q:Exit->Act->ae->Prop,(∀ a w,qj A ⟨[(0,none,dm (.pt 1003 0 0))],bgO (F7 q j n2) 3 (QT q)⟩ a w->Q .ret a w)->kw prog A ⟨[],[]⟩ c Q:=by
 have M:=bgM;have s:prog.types[100].size=1:=ai;have p:prog.types[101].size=1:=ai;have y:prog.types[100].bytes=24:=ai;have u:prog.types[101].bytes=24:=ai;have F:prog.types[65].bytes<=1000:=aBO ai;have l:prog.types[65].size=18:=ai;have G:prog.types[63].bytes<=1000:=aBO ai;have o:prog.types[63].size=1:=ai;have E:qx n0:=by rw[<-B];exact aUj _ rfl
 refine⟨_,rfl,fun Q C=>?_⟩;refine bU ?_ ?_;simp;rw[y,u];omega;refine jG ?_;refine bK (s':=aJS q j n2 0) (fun a w g=>(g.reset (kT:=[1,2]) (kO:=[1003,1000,1001]) ay (by simp;exact fun _ _=>rfl)).same ?_ ?_) ?_;exact iq;refine .cons (.box ?_) ((dU _));rw[s,p];rfl;refine aN ?_;refine dX 3 (fun k t=>t=aJS q j n2 k) 0 rfl a_ (fun k t D H=>?_);subst D;have z:k=0\/k=1\/k=2\/k=3:=a_;rcases z with rfl|rfl|rfl|rfl
 ·refine aJ (fun h=>?_) (fun h=>?_);rotate_left 1;cases h;refine gQ ?_;refine aN ?_;refine aH ?_ ?_;simp;exact aQa
  refine bK (s':=V_ q j n2 n0 0 (VA q 0)) (fun a w g=>(g.x_ (R:=[(1000,Ed 0)]) (kF:=[]) (kT:=[3,1,2]) (kO:=[5008,1003,1000,1001]) (.inl rfl) ay (by simp only[AC,IR,C_,All,and_true];exact⟨(fun i d=>by rcases Gf d with rfl|rfl|rfl<;>rfl),ca (jY _)⟩)).same ?_ ?_) ?_
  exact iq;refine .cons (.box ?_) ((dU _));rw[<-B];rfl;refine aJ (fun h=>?_) (fun h=>?_);rotate_left 1;cases h;refine aI ?_;refine bU ?_ ?_;simp;exact⟨E,LK⟩;refine bK (s':=aTM q j n2 n0) (fun a w g=>(g.reset (kT:=[6,7,9,3,1,2]) (kO:=[9008,9009,5008,1003,1000,1001]) ay (by simp;exact⟨bCx _,jY _⟩)).same ?_ ?_) ?_;refine .cr (.cr (.cons ?_ ((iT _))));rw[<-eq];change t_ (fE [] (dA QW) (⟨dF n0.b.length (eY n0.b),kC n0.f.length (vz n0.f),n0.r⟩:jr) 0).1.isSome=_;rw[aQ,bV];refine .cons (.box ?_) (.cons (.box ?_) ((dU _)));rw[<-eq];change qi (fE [] (dA QW) (⟨dF n0.b.length (eY n0.b),kC n0.f.length (vz n0.f),n0.r⟩:jr) 0).2.1=_;rw[aQ,bV];rw[<-eq];change h_ (bG (fE [] (dA QW) (⟨dF n0.b.length (eY n0.b),kC n0.f.length (vz n0.f),n0.r⟩:jr) 0).1)=_;rw[aQ,bV];refine aI ?_;refine mY ?_;refine bK (s':=V_ q j n2 q.2.1 0 (QT q)) (fun a w g=>(g.reset (kT:=[3,1,2]) (kO:=[5008,1003,1000,1001]) ay (by simp;exact⟨bCx _,jY _⟩)).same ?_ ?_) ?_;exact iq;exact r_;refine bK (fun a w g=>g.C9 (x:=12007) (b:=1003) (e:=65) (n:=18) (l1:=[]) ay ay) ?_;refine aH ?_ ?_;simp;omega
  refine bK (s':=QE q j n2 q.2.1 0) (fun a w g=>(g.x_ (R:=[(1000,Ed 0)]) (kF:=[]) (kT:=[3,1,2]) (kO:=[5008,1003,12007,1000,1001]) (.inl rfl) ay (by simp only[AC,IR,C_,All,and_true];exact⟨ca (yN (fun i d=>absurd d (Nat.not_lt_zero _)) (aCq _)),(fun i d=>by rcases Gf d with rfl|rfl|rfl<;>rfl),ca (jY _)⟩)).same ?_ ?_) ?_
  exact iq;rw[l];refine .cb (.cb (.cons (.arr rfl (fun i d=>?_)) ((dU _))));have:i<0+1:=d;obtain rfl:i=0:=a_;rfl;refine aS M hI hn (ay) ai ?_ ?_;simp;omega;change kw _ _ _ _ _;refine fJ ?_;rw[o];intro a w g;refine⟨0+1,_,a_,a_,rfl,((g.x_ (R:=[(1000,bgV 0)]) (kF:=[]) (kT:=[1,2]) (kO:=[1003,12007,1000,1001,13015]) (.inl rfl) ay ?_).ren (m:=ZZ 0) (R:=[(1000,Ed (0+1))]) hS ay ?_).same ?_ ?_⟩
  ·simp only[AC,IR,C_,All,and_true];refine⟨ca (iM _ _),fun i d=>?_,ca (jY _),fun i d=>by obtain rfl:i=0:=a_;rfl⟩;have:i=0\/i=1\/i=2:=a_
   rcases this with rfl|rfl|rfl<;>rfl
  ·simp only[All,and_true];refine⟨ca (iM _ _),fun i d=>?_,ca (jY _),fun i d=>by obtain rfl:i=0:=a_;rfl⟩;have:i=0\/i=1\/i=2:=a_
   rcases this with rfl|rfl|rfl<;>rfl
  exact iq;exact .cb (.cons (.arr rfl (fun i d=>rfl)) (.cons (.arr rfl (fun i d=>rfl)) (.cons (.arr rfl (fun i d=>rfl)) (.cons (.arr rfl (fun i d=>(by obtain rfl:i=0:=a_;rfl))) .nil))))
 ·refine aJ (fun h=>?_) (fun h=>?_);rotate_left 1;cases h;refine gQ ?_;refine aN ?_;refine aH ?_ ?_;simp;exact aQa
  refine bK (s':=V_ q j n2 j 1 (VA q 1)) (fun a w g=>(g.x_ (R:=[(1000,Ed 1)]) (kF:=[]) (kT:=[3,1,2]) (kO:=[5008,1003,12007,1000,1001,13016]) (.inl rfl) ay (by simp only[AC,IR,C_,All,and_true];exact⟨ca (iM _ _),(fun i d=>by rcases Gf d with rfl|rfl|rfl<;>rfl),ca (jY _),zx _⟩)).same ?_ ?_) ?_
  exact iq;refine .cons (.box ?_) ((dU _));rw[<-e1];rfl;refine aJ (fun h=>?_) (fun h=>?_);cases h;rotate_left 1;refine jK ?_ ?_;simp;omega
  refine bK (s':=QE q j n2 j 1) (fun a w g=>(g.x_ (R:=[(1000,Ed 1)]) (kF:=[]) (kT:=[3,1,2]) (kO:=[5008,1003,12007,1000,1001,13016]) (.inl rfl) ay (by simp only[AC,IR,C_,All,and_true];exact⟨ca (yN (iM _ _) (aCq _)),(fun i d=>by rcases Gf d with rfl|rfl|rfl<;>rfl),ca (jY _),zx _⟩)).same ?_ ?_) ?_
  exact iq
  ·rw[l];refine .cb (.cb (.cons (.arr rfl (fun i d=>?_)) ((dU _))));have:i<1+1:=d
   (have:i=0\/i=1:=by omega);rcases this with rfl|rfl<;>rfl
  refine aS M hI hn (ay) ai ?_ ?_;simp;omega;change kw _ _ _ _ _;refine fJ ?_;rw[o];intro a w g;refine⟨1+1,_,a_,a_,rfl,((g.x_ (R:=[(1000,bgV 1)]) (kF:=[]) (kT:=[1,2]) (kO:=[1003,12007,1000,1001,13016,13015]) (.inl rfl) ay ?_).ren (m:=ZZ 1) (R:=[(1000,Ed (1+1))]) hS ay ?_).same ?_ ?_⟩
  ·simp only[AC,IR,C_,All,and_true];refine⟨ca (iM _ _),fun i d=>?_,ca (jY _),zx _,fun i d=>by obtain rfl:i=0:=a_;rfl⟩;have:i=0\/i=1\/i=2:=a_
   rcases this with rfl|rfl|rfl<;>rfl
  ·simp only[All,and_true];refine⟨ca (iM _ _),fun i d=>?_,ca (jY _),zx _,fun i d=>by obtain rfl:i=0:=a_;rfl⟩;have:i=0\/i=1\/i=2:=a_
   rcases this with rfl|rfl|rfl<;>rfl
  exact iq;exact .cb (.cons (.arr rfl (fun i d=>rfl)) (.cons (.arr rfl (fun i d=>rfl)) (.cons (.arr rfl (fun i d=>rfl)) (.cons (.arr rfl (fun i d=>rfl)) (.cons (.arr rfl (fun i d=>(by obtain rfl:i=0:=a_;rfl))) .nil)))))
 ·refine aJ (fun h=>?_) (fun h=>?_);rotate_left 1;cases h;refine gQ ?_;refine aN ?_;refine aH ?_ ?_;simp;exact aQa
  refine bK (s':=V_ q j n2 n2 2 (VA q 2)) (fun a w g=>(g.x_ (R:=[(1000,Ed 2)]) (kF:=[]) (kT:=[3,1,2]) (kO:=[5008,1003,12007,1000,1001,13016,13017]) (.inl rfl) ay (by simp only[AC,IR,C_,All,and_true];exact⟨ca (iM _ _),(fun i d=>by rcases Gf d with rfl|rfl|rfl<;>rfl),ca (jY _),zx _,zx _⟩)).same ?_ ?_) ?_
  exact iq;refine .cons (.box ?_) ((dU _));rw[<-e2];rfl;refine aJ (fun h=>?_) (fun h=>?_);cases h;rotate_left 1;refine jK ?_ ?_;simp;omega
  refine bK (s':=QE q j n2 n2 2) (fun a w g=>(g.x_ (R:=[(1000,Ed 2)]) (kF:=[]) (kT:=[3,1,2]) (kO:=[5008,1003,12007,1000,1001,13016,13017]) (.inl rfl) ay (by simp only[AC,IR,C_,All,and_true];exact⟨ca (yN (iM _ _) (aCq _)),(fun i d=>by rcases Gf d with rfl|rfl|rfl<;>rfl),ca (jY _),zx _,zx _⟩)).same ?_ ?_) ?_
  exact iq
  ·rw[l];refine .cb (.cb (.cons (.arr rfl (fun i d=>?_)) ((dU _))));have:i<2+1:=d
   (have:i=0\/i=1\/i=2:=by omega);rcases this with rfl|rfl|rfl<;>rfl
  refine aS M hI hn (ay) ai ?_ ?_;simp;omega;change kw _ _ _ _ _;refine fJ ?_;rw[o];intro a w g;refine⟨2+1,_,a_,a_,rfl,((g.x_ (R:=[(1000,bgV 2)]) (kF:=[]) (kT:=[1,2]) (kO:=[1003,12007,1000,1001,13016,13017,13015]) (.inl rfl) ay ?_).ren (m:=ZZ 2) (R:=[(1000,Ed (2+1))]) hS ay ?_).same ?_ ?_⟩
  ·simp only[AC,IR,C_,All,and_true];refine⟨ca (iM _ _),fun i d=>?_,ca (jY _),zx _,zx _,fun i d=>by obtain rfl:i=0:=a_;rfl⟩;have:i=0\/i=1\/i=2:=a_
   rcases this with rfl|rfl|rfl<;>rfl
  ·simp only[All,and_true];refine⟨ca (iM _ _),fun i d=>?_,ca (jY _),zx _,zx _,fun i d=>by obtain rfl:i=0:=a_;rfl⟩;have:i=0\/i=1\/i=2:=a_
   rcases this with rfl|rfl|rfl<;>rfl
  exact iq;exact .cb (.cons (.arr rfl (fun i d=>rfl)) (.cons (.arr rfl (fun i d=>rfl)) (.cons (.arr rfl (fun i d=>rfl)) (.cons (.arr rfl (fun i d=>rfl)) (.cons (.arr rfl (fun i d=>rfl)) (.cons (.arr rfl (fun i d=>(by obtain rfl:i=0:=a_;rfl))) .nil))))))
 ·refine aJ (fun h=>?_) (fun h=>?_);cases h;refine dK ?_;change kw _ _ _ _ _;refine aI ?_
  refine bZ (fun a w g=>C a w ((g.x_ (R:=[(1000,Ed 3)]) (kF:=[]) (kT:=[0]) (kO:=[1003,12007,1000,1001,13016,13017,13018]) (.inl rfl) ay (by simp only[AC,IR,C_,All,and_true];exact⟨ca (iM _ _),(fun i d=>by rcases Gf d with rfl|rfl|rfl<;>rfl),ca (jY _),zx _,zx _,zx _⟩)).same ?_ ?_))
  exact iq;exact r_
theorem ZW(q:QS)(n0 b n2:jr)(n:ET (lI 0)=n0)(e1:ET (lI 1)=b)(e2:ET (lI 2)=n2)(eq:fE [] (dA QW) n0 0=q):aVo prog af 12 57 (F5 (F7 q b n2) (QT q)):=by
 have e:∃ c,Tryz.f12.body=some c:=⟨_,rfl⟩;obtain⟨c,g⟩:=e;refine bOk func12 g bJ (fun A f h m=>?_);obtain⟨o,d,l⟩:=bRo q n0 b n2 n e1 e2 eq f h m;obtain rfl:o=c:=Option.some.inj (d.symm.trans g)
 refine l _ (fun a w k=>⟨.inr rfl,_,1003,?_,?_,?_,?_,?_,rfl,?_,?_,((k.x_ (R:=[(1000,bgP (F7 q b n2) 3)]) (kF:=[13016,13017,13018]) (kT:=[0]) (kO:=[1003,12007,1000,1001]) (.inr f) ay (by simp only[AC,IR,C_,All,and_true];exact⟨ca (iM _ _),(fun i j=>by rcases Gf j with rfl|rfl|rfl<;>rfl),ca (jY _),zx _,zx _,zx _⟩)).KJ (kF:=[12007,1000,1001]) (kT:=[0]) (kO:=[1003]) (.inr f) ay ?_)⟩)
 rotate_left 1;rfl;simp;rfl;rfl;rfl;rfl;simp;exact⟨iM _ _,QF _ _ _,jY _⟩
end Pv
structure DR(w:ae)(Ql:jl)(Cm:vk):Prop where
 len:Ql.length=Cm.length
 each:∀ (k:Nat) (bv:ag) (l:List Int),Ql[k]?=some bv->Cm[k]?=some l->Reads w 1 bv l.length (l.map (gp .u8))
structure uq(w:ae)(fv:ag)(Cm:vk):Prop where
 ex:∃ Ql,Reads w 1 fv Cm.length Ql/\DR w Ql Cm
theorem DR.ext{w w':ae}{b:jl}{a:vk}(h:DR w b a)(hc:Ext w w'):DR w' b a:=⟨h.len,fun k e l d c=>(h.each k e l d c).ext hc⟩
theorem uq.ext{w w':ae}{c:ag}{a:vk}(h:uq w c a)(hc:Ext w w'):uq w' c a:=by obtain⟨b,e,d⟩:=h.ex;exact⟨b,e.ext hc,d.ext hc⟩
theorem uq.at_{w:ae}{e:ag}{a:vk}(h:uq w e a){k:Nat}(d:k<a.length) :
  ∃ b o c f,e=.slice (some ⟨b,o,none⟩) a.length c/\b<w.heap.size/\w.cell? ⟨b,o+k,none⟩=some f/\Reads w 1 f a[k].length (a[k].map (gp .u8)):=by
 obtain⟨p,i,g⟩:=h.ex;obtain⟨b,o,c,u,n,_,_,m,l,j⟩:=i.Ef d;exact⟨b,o,c,u,n,m,j,g.each k u a[k] l (zH d)⟩
theorem aMc(k:ag)(a:vk)(d cell:Nat)(w:ae)(h:uq w k a)(hb:d<a.length)(hc:cell<a[d].length) :
  lL prog 97 #[.agg #[k],.int .i64 (d:Int),.int .i64 (cell:Int)] w fun e l=>e=.returned (.bool true)/\Ext w l:=by
 obtain⟨b,o,c,s,rfl,n,i,j⟩:=h.at_ hb;have g:a.length<=uu:=by obtain⟨q,p,_⟩:=h.ex;exact p.Aw
 have f:=j.Aw;obtain⟨_,A,r,rfl,_⟩:=j;unfold uu at g f;generalize a[d].length=m at *;clear h
 go_enter func97,ntmps97
 go_wp2
 go_ret;refine⟨rfl,?_⟩
 all_goals exact Dp
theorem aCt(E:ag)(a:vk)(d cell:Nat)(f:Bool)(w:ae)(h:uq w E a)(hb:d<a.length)(hc:cell<a[d].length) :
  lL prog 72 #[.agg #[E],.int .i64 (d:Int),.int .i64 (cell:Int),.bool f] w fun e H=>e=.returned (.tuple #[.int .i64 (gJ a[d][cell] f),.int .i64 0])/\Ext w H:=by
 have O:=hide h;obtain⟨b,o,c,T,rfl,J,A,s⟩:=h.at_ hb;have y:a.length<=uu:=by obtain⟨N,j,_⟩:=h.ex;exact j.Aw
 have t:=s.Aw;obtain⟨U,Q,S,u,rfl,_,_,K,C,l⟩:=s.Ef hc;rw[aAg,zH hc] at C;cases C;unfold uu at y t;clear h
 have D:∀ x:Int,gJ x f=if x=2 then 1 else if x=1 then (if f=true then 1 else 0) else 0:=by intro x;unfold gJ;by_cases j:x=2<;>by_cases i:x=1<;>cases f<;>simp_all
 have q:=hide (D a[d][cell]);have P:=hide (aMc _ a d cell (w.alloc (.cells #[.slice (some ⟨b,o,none⟩) a.length c] 60)) ((aA O).ext (gq.alloc (Ext.refl _) _)) hb hc);clear D s;generalize a[d][cell]=x at *;have I:cell<a[d].length:=hc;clear hc;generalize a[d].length=m at *
 go_enter func72,ntmps72
 go_wp2_with fail
 refine (aA P).mono ?_;rintro e G ⟨rfl,n⟩;have z:=n.rules;simp only[World.size_alloc] at z;have r:=n.size';simp only[World.size_alloc] at r;have B:=hide n;clear n;have g:Hid (Ext w G):=hide ((gq.alloc (Ext.refl _) _).trans (aA B));by_cases i:x=2
 ·have F:(x==2)=true:=by simp[i]
  have k:=hide i;clear i
  go_wp2
  go_ret2
  exact⟨aFj (by rw[aA q,au (aA k)]),aA g⟩
 ·by_cases j:x=1
  ·have F:(x==2)=false:=by simp[i]
   have L:(x==1)=true:=by simp[j]
   have k:=hide i;have p:=hide j;clear i j;cases f with
   |true=>
    go_wp2
    go_ret2
    exact⟨aFj (by rw[aA q,ah (aA k),au (aA p)];rfl),aA g⟩
   |false=>
    go_wp2
    go_ret2
    exact⟨aFj (by rw[aA q,ah (aA k),au (aA p)];rfl),aA g⟩
  ·have F:(x==2)=false:=by simp[i]
   have L:(x==1)=false:=by simp[j]
   have k:=hide i;have p:=hide j;clear i j
   go_wp2
   go_ret2
   exact⟨aFj (by rw[aA q,ah (aA k),ah (aA p)]),aA g⟩
theorem RY:AZ prog 74 5 1 1:=AZ.mk' (z:=.int .u8 0) ai ai rfl a_ a_
theorem QI:AZ prog 58 74 1 24:=AZ.mk' (z:=.slice none 0 0) ai ai rfl a_ a_
structure o5(w:ae)(B:Nat)(Ql:jl)(Cm:vk):Prop where
 len:Ql.length=Cm.length
 each:∀ (k:Nat) (bv:ag) (l:List Int),Ql[k]?=some bv->Cm[k]?=some l->w.ownsRow B 5 1 bv l.length (l.map (gp .u8))
 apart:∀ (i j:Nat) (bi bj:ag) (g:Nat),Ql[i]?=some bi->Ql[j]?=some bj->i≠j->bi.ownBlock=some g->bj.ownBlock≠some g
theorem o5.nil(w:ae)(B:Nat):o5 w B [] []:=⟨rfl,fun k a l h=>by simp at h,fun i j c b g h=>by simp at h⟩
theorem o5.iw{w w':ae}{B:Nat}{b:jl}{a:vk}{S:uy}(h:o5 w B b a)(hc:gq S w w')(hS:∀ (k:Nat) (c:ag) (g:Nat),b[k]?=some c->c.ownBlock=some g->¬S g):o5 w' B b a:=⟨h.len,fun k c l d f=>gX (h.each k c l d f) hc (fun g e=>hS k c g d e),h.apart⟩
theorem o5.snoc{w:ae}{B:Nat}{a:jl}{f:vk}(h:o5 w B a f){o:ag}{l:List Int}(C:w.ownsRow B 5 1 o l.length (l.map (gp .u8)))
  (hn:∀ (k:Nat) (b:ag) (g:Nat),a[k]?=some b->b.ownBlock=some g->o.ownBlock≠some g):o5 w B (a++[o]) (f++[l]):=by
 have m:=h.len;refine⟨by simp[m],fun k b x d c=>?_,fun i j u r g d c s t=>?_⟩;rw[aEO] at d c;by_cases y:k<a.length;rw[au y] at d;rw[au a_] at c;exact h.each k b x d c;rw[ah y] at d;rw[ah a_] at c;have A:k-a.length=0:=by rcases aCE (k-a.length) with e|e;exact e;rw[PR l7] at d;cases d
 rw[A] at d;rw[<-m,A] at c;cases d;cases c;exact C;rw[aEO] at d c;have z:∀ (i:Nat) (b:ag),¬i<a.length->([o]:jl)[i-a.length]?=some b->i=a.length/\b=o:=by intro i b p q;rcases aCE (i-a.length) with e|e;rw[e] at q;cases q;exact⟨a_,rfl⟩;rw[PR l7] at q;cases q
 by_cases p:i<a.length;rw[au p] at d;by_cases n:j<a.length;rw[au n] at c;exact h.apart i j u r g d c s t;rw[ah n] at c;obtain⟨_,rfl⟩:=z j r n c;exact hn i u g d t;rw[ah p] at d;obtain⟨E,rfl⟩:=z i u p d;by_cases n:j<a.length;rw[au n] at c;exact fun F=>hn j r g c F t;rw[ah n] at c;obtain⟨D,_⟩:=z j r n c;omega
theorem aXn{c wr x d:ae}{k:Nat}{f:jl}{a:vk}{l:List Int}{v:ag}{t n:Option Addr}{s m:Nat}
  (E:eu wr c.heap.size 60 #[v]) (u:wr.ownsRow c.heap.size 74 1 v k f) (r:o5 wr c.heap.size f a) (B:Ext c wr)
  (L:x.ownsRow c.heap.size 5 1 (.slice t l.length s) l.length (l.map (gp .u8))) (y:gq (fun j=>(aAP (some ⟨wr.heap.size,0,none⟩) 0 0).ownBlock=some j) (wr.alloc (.cells #[] 5)).drew x)
  (U:(aAP t l.length s).ownBlock=(aAP (some ⟨wr.heap.size,0,none⟩) 0 0).ownBlock\/∃ g,(aAP t l.length s).ownBlock=some g/\(wr.alloc (.cells #[] 5)).drew.heap.size<=g/\g<x.heap.size)
  (A:d.ownsRow c.heap.size 74 1 (.slice n (k+1) m) (k+1) (f++[.slice t l.length s])) (q:gq (fun j=>v.ownBlock=some j) (x.alloc (.cells #[.slice t l.length s] 74)) d) :
  eu (d.setCell ⟨c.heap.size,0,none⟩ (.slice n (k+1) m)) c.heap.size 60 #[.slice n (k+1) m] /\
  (d.setCell ⟨c.heap.size,0,none⟩ (.slice n (k+1) m)).ownsRow c.heap.size 74 1 (.slice n (k+1) m) (k+1) (f++[.slice t l.length s]) /\
  o5 (d.setCell ⟨c.heap.size,0,none⟩ (.slice n (k+1) m)) c.heap.size (f++[.slice t l.length s]) (a++[l]) /\
  Ext c (d.setCell ⟨c.heap.size,0,none⟩ (.slice n (k+1) m)):=by
 have hB:=B.size';have a0:=E.lt;have z:=u.lt;have N:Ext wr (wr.alloc (.cells #[] 5)).drew:=gq.drew (gq.alloc (Ext.refl _) _);have W:Ext x (x.alloc (.cells #[.slice t l.length s] 74)):=gq.alloc (Ext.refl _) _;have b8:eu x c.heap.size 60 #[v]:=(E.ext N).iw y (vZ a_);have Q:v.ownBlock≠some c.heap.size:=uN u E jb;have H:eu d c.heap.size 60 #[v]:=(b8.ext W).iw q Q;have Y:x.ownsRow c.heap.size 74 1 v k f:=gX (bP u N) y (fun g I=>vZ (by have:=(z g I).2;omega));have X:gq (fun j=>j=c.heap.size) d (d.setCell ⟨c.heap.size,0,none⟩ (.slice n (k+1) m)):=gq.setCell (S:=fun j=>j=c.heap.size) (p:=⟨c.heap.size,0,none⟩) (gq.refl _ _) (.inl rfl) _;have O:(aAP n (k+1) m).ownBlock≠some c.heap.size:=uN A H jb
 have J:o5 x c.heap.size f a:=(r.iw N (fun _ _ _ _ _ h=>h)).iw y (fun j G g o F=>by
  have D:j<a.length:=by have:=r.len;rcases aAW j f.length with w|w;omega;rw[PR w] at o;cases o
  have:=((r.each j G a[j] o (zH D)).lt g F).2
  exact vZ a_)
 have K:o5 d c.heap.size f a:=(J.iw W (fun _ _ _ _ _ h=>h)).iw q (fun j G g o F=>by
  have D:j<a.length:=by have:=r.len;rcases aAW j f.length with w|w;omega;rw[PR w] at o;cases o
  exact own_ne (J.each j G a[j] o (zH D)) Y jb F)
 have P:d.ownsRow c.heap.size 5 1 (.slice t l.length s) l.length (l.map (gp .u8)):=gX (bP L W) q (fun g I=>own_ne L Y jb I)
 have C:o5 d c.heap.size (f++[.slice t l.length s]) (a++[l]):=K.snoc P (fun j G g o F=>by
  have D:j<a.length:=by have:=r.len;rcases aAW j f.length with w|w;omega;rw[PR w] at o;cases o
  have I:=((r.each j G a[j] o (zH D)).lt g F).2;rcases U with e|⟨g',e,V,_⟩;rw[e];exact vZ a_;rw[e];intro e2
  injection e2 with e2
  simp at V
  omega)
 refine⟨H.zq 0 _,gX A X (fun g I e=>O (by rw[I,e])),C.iw X (fun j G g o F e=>?_),?_⟩;have D:j<(a++[l]).length:=by have:=C.len;rcases aAW j (f++[aAP t l.length s]).length with w|w;omega;rw[PR w] at o;cases o
 exact uN (C.each j G (a++[l])[j] o (zH D)) H jb (by rw[F,e]);refine gq.trans' (S:=Non) (T:=fun j=>j=c.heap.size) (b:=d) ?_ X (fun _ _ h=>h) (fun i Z e=>a_);refine gq.trans' (S:=Non) (T:=fun j=>v.ownBlock=some j) (b:=x.alloc (.cells #[.slice t l.length s] 74)) ?_ q (fun _ _ h=>h) (fun i Z e=>by have:=(z i e).1;omega);refine gq.alloc ?_ _
 exact gq.trans' (S:=Non) (B.trans N) y (fun _ _ h=>h) (fun i Z e=>by
  simp only[Value.ownBlock,Option.some.injEq] at e
  omega)
theorem o5.zq{w:ae}{B:Nat}{c:jl}{a:vk}(h:o5 w B c a){b cell:Nat}{g cap:Nat}{l:List Int}(i:c[b]?=some (.slice (some ⟨g,0,none⟩) l.length cap))(hl:a[b]?=some l)(hc:cell<l.length)(y:Int) :
  o5 (w.setCell ⟨g,cell,none⟩ (.int .u8 y)) B c (a.set b (l.set cell y)):=by
 refine⟨by rw[aAA];exact h.len,fun k n x f d=>?_,h.apart⟩;by_cases m:k=b;subst m;rw[i] at f;cases f;have q:k<a.length:=(List.getElem?_eq_some_iff.1 hl).1;rw[aDZ q] at d;cases d;have:=TD (h.each k _ l i hl) cell hc (.int .u8 y);rw[aAA,List.map_set];exact this;rw[aEb (fun e=>m e.symm)] at d;exact gX (S:=fun j=>j=g) (h.each k n x f d) (gq.setCell (S:=fun j=>j=g) (p:=⟨g,cell,none⟩) (gq.refl _ _) (.inl rfl) _) (fun j o e=>h.apart k b n _ j f i m o (by rw[e];rfl))
def wP(B:Nat)(w:ae)(d:ag)(a:vk):Prop:=∃ c b,B<=c/\w.ownsRow c 74 1 d a.length b/\o5 w c b a
theorem wP.iw{B:Nat}{w w':ae}{i:ag}{a:vk}(h:wP B w i a){S:uy}(hc:gq S w w')(hS:∀ k,B<=k->¬S k):wP B w' i a:=by
 obtain⟨p,b,c,g,d⟩:=h;refine⟨p,b,c,gX g hc (fun j m=>hS j (ry c (g.lt j m).1)),d.iw hc (fun k o j e n=>?_)⟩;have l:k<a.length:=by have:=d.len;rcases aAW k b.length with f|f;omega;rw[PR f] at e;cases e
 exact hS j (ry c ((d.each k o a[k] e (zH l)).lt j n).1)
theorem aDs{w wr:ae}{B r:Nat}{b:jl}{a:vk}{g cap:Nat}{V:ag}(c:wr.ownsRow B 74 1 (.slice (some ⟨g,0,none⟩) a.length cap) a.length b)(f:o5 wr B b a)(hr:r<B)(h:w.heap.size<=r)(i:Ext w wr) :
  wP w.heap.size (wr.setCell ⟨r,0,none⟩ V) (.slice (some ⟨g,0,none⟩) a.length cap) a/\Ext w (wr.setCell ⟨r,0,none⟩ V):=by
 have l:gq (fun j=>j=r) wr (wr.setCell ⟨r,0,none⟩ V):=gq.setCell (S:=fun j=>j=r) (p:=⟨r,0,none⟩) (gq.refl _ _) (.inl rfl) _;have o:wP B wr (.slice (some ⟨g,0,none⟩) a.length cap) a:=⟨B,b,dE _,c,f⟩;obtain⟨q,d,t,n,m⟩:=o.iw l (fun k s e=>a_);exact⟨⟨q,d,a_,n,m⟩,gq.setCell (p:=⟨r,0,none⟩) i (.inr h) _⟩
theorem bDl{a:Type}(l:List a)(k:Nat)(h:k<l.length):l.take (k+1)=l.take k++[l[k]]:=by rw[aDR,zH h];rfl
theorem bGf (fv:ag) (a:vk) (d cell:Nat) (cut:Bool) (w:ae) (h:uq w fv a) (hb:d<a.length) (hc:cell<a[d].length) (hn:a.length<=1000) (a1:∀ l∈a,l.length<=100000) :
    lL prog 194 #[.agg #[fv],.int .i64 (d:Int),.int .i64 (cell:Int),.bool cut] w fun e w'=>∃ a6,e=.returned (.tuple #[.agg #[a6],.int .i64 0])/\wP w.heap.size w' a6 (a.set d (a[d].set cell (lM a[d][cell] cut)))/\Ext w w':=by
  have HF:=hide h;obtain⟨_,⟨_,A,c,rfl,_⟩,_⟩:=h.ex;have HE:=hide (aMc _ a d cell ((w.alloc (.cells #[.slice A a.length c] 60)).alloc (.cells #[.slice none 0 0] 60)) ((aA HF).ext (gq.alloc (gq.alloc (Ext.refl _) _) _)) hb hc);clear h
  go_enter func194,ntmps194
  go_wp2_with fail
  refine (aA HE).mono ?_;rintro e t ⟨rfl,hE⟩;have W:=((eu.new w 60 #[.slice A a.length c]).alloc (.cells #[.slice none 0 0] 60)).ext hE;have V:=(eu.new' (w.alloc (.cells #[.slice A a.length c] 60)) 60 #[.slice none 0 0] (g:=w.heap.size+1) d_).ext hE;have a8:=hE.size';simp only[World.size_alloc] at a8;have HX:Hid (Ext w t):=hide ((gq.alloc (gq.alloc (Ext.refl _) _) _).trans hE);clear hE HE;obtain⟨f0,ff,fl⟩:=W.BL;obtain⟨r0,rf,rl⟩:=V.BL;have HB:=hide (az W V);clear W V
  go_wp2
  have Y:Hid (w.heap.size+1<t.heap.size):=hide a_
  go_loopw [11] (fun i wr=>∃ (k:Nat) (K:jl) (v:ag),k<=a.length/\i=.int .i64 k/\eu wr t.heap.size 60 #[v]/\wr.ownsRow t.heap.size 74 1 v k K/\o5 wr t.heap.size K (a.take k)/\Ext t wr) (fun i _=>a.length-(intOf i).toNat)
  case atStart=>exact⟨0,[],.slice none 0 0,a_,rfl,eu.new _ _ _,World.ownsRow_nil _ _ _ _,o5.nil _ _,gq.alloc (Ext.refl _) _⟩
  case round =>
    obtain⟨k,K,v,hk,rfl,J,q,y,f⟩:=hrel;have T:=(aA HB).1.ext f;obtain⟨g0,gf,gl⟩:=T.BL;obtain⟨o0,of,ol⟩:=J.BL;by_cases Q:k<a.length
    ·
      obtain ⟨b,o,c',bv,hv,c6,C,hr⟩:=(aA HF).at_ Q;cases hv;have U:Ext w wr:=(aA HX).trans f;have C:=U.jh C;have hr:=hr.ext U;have a2:a[k].length<=100000:=a1 _ (aBI Q);have b7:(0:Int)<=(k:Int):=a_;have b6:(k:Int)<(a.length:Int):=a_;have H:=hide (az J (az q (az y f)));have HR:=hide hr;clear J q y hr T f0 ff r0 rf f U;have hB:t.heap.size<=wr.heap.size:=(aA H).2.2.2.size'
      go_wp2
      have F:∀ g,v.ownBlock=some g->t.heap.size<=g/\g<wr.heap.size/\¬g=t.heap.size:=fun g hg=>⟨((aA H).2.1.lt g hg).1,((aA H).2.1.lt g hg).2,fun e=>uN (aA H).2.1 (aA H).1 jb (e ▸ hg)⟩;have b1:b<wr.heap.size:=a_
      go_region_law (first
          | (
           refine aNg (s:=.tmp 28) (x:=.tmp 33) rfl rfl RY (v:=.slice (some ⟨wr.heap.size,0,none⟩) 0 0) rfl (B:=t.heap.size) (n:=0) (xs:=[]) (aCe wr _ _ _ hB) rfl (by exact ((aA HR).ext (gq.alloc (Ext.refl _) _)).ext (gq.drew (Ext.refl _))) (dN.map (fun _=>rfl) _) a_ (ry hB d_) ?_;intro A8 c8 w8 P m O;simp only[mf,IR] at P O;have a9:t.heap.size<w8.heap.size:=aAF l7 m.size
           have D:w8.cell? ⟨t.heap.size,0,none⟩=some v/\w8.cell? ⟨w.heap.size,0,none⟩=some (.slice (some ⟨b,o,none⟩) a.length c)/\w8.cell? ⟨b,o+k,none⟩=some bv:=⟨m.jh (Ext.jh (gq.drew (gq.alloc (Ext.refl _) _)) o0) (vZ (by simp only;omega)),m.jh (Ext.jh (gq.drew (gq.alloc (Ext.refl _) _)) g0) (vZ (by simp only;omega)),m.jh (Ext.jh (gq.drew (gq.alloc (Ext.refl _) _)) C) (vZ (by simp only;omega))⟩)
          | (
           refine aNg (s:=.tmp 27) (x:=.tmp 35) rfl rfl QI (v:=v) rfl (B:=t.heap.size) (n:=k) (xs:=K) (by exact bP (gX (bP (aA H).2.1 (gq.drew (gq.alloc (Ext.refl _) _))) m (fun g hg=>vZ (by have:=(F g hg).2.1;omega))) (gq.alloc (Ext.refl _) _)) rfl (Reads.yj _ _ _) (dN.one rfl) a_ (by exact ry hB (ry d_ (ry m.size d_))) ?_;intro d3 d2 I L r Z;have a0:I.cell? ⟨t.heap.size,0,none⟩=some v/\I.cell? ⟨w.heap.size,0,none⟩=some (.slice (some ⟨b,o,none⟩) a.length c)/\I.cell? ⟨b,o+k,none⟩=some bv:=⟨r.jh (Ext.jh (gq.alloc (Ext.refl _) _) D.1) (fun e=>(F _ e).2.2 rfl),r.jh (Ext.jh (gq.alloc (Ext.refl _) _) D.2.1) (fun e=>by have:=(F _ e).1;simp only at this;omega),r.jh (Ext.jh (gq.alloc (Ext.refl _) _) D.2.2) (fun e=>by have:=(F _ e).1;simp only at this;omega)⟩
           have a4:I.frozen? ⟨t.heap.size,0,none⟩=false:=r.uz (Ext.uz (gq.alloc (Ext.refl _) _) (m.uz (Ext.uz (gq.drew (gq.alloc (Ext.refl _) _)) (of 0) ol) l7 (vZ (by simp only;omega))) (aAF l7 m.size)) (aAF (aAF l7 m.size) d_) (fun e=>(F _ e).2.2 rfl)))
      all_goals
        have z:=hide (aXn (aA H).1 (aA H).2.1 (aA H).2.2.1 (aA H).2.2.2 P m O L r);clear D a0 a4 a9 P m O L r Z H
        go_wp2
        go_roundw
        case rel=>exact⟨k+1,_,_,a_,by go_num,(aA z).1,(aA z).2.1,by rw[bDl a k Q];exact (aA z).2.2.1,(aA z).2.2.2⟩
        case measure=>simp[intOf];omega
    ·
      obtain rfl:k=a.length:=a_;rw[List.take_length] at y;obtain⟨g,cap,u,rfl,c2,c1,hu,c4,c0⟩:=aSp q hb;obtain⟨E,cb,x,a7,d0,c9,hx,c3,c7⟩:=aSp (y.each d u a[d] hu (zH hb)) hc;subst a7;rw[aAg,zH hc] at hx;cases hx;have a3:¬E=g:=fun e=>own_ne (y.each d _ a[d] hu (zH hb)) q jb (g:=E) rfl (by rw[e];rfl);have a5:=(aA HB).2.ext f;obtain⟨N,b3,b2⟩:=a5.BL;have b8:¬E=w.heap.size+1:=by have:=aA Y;omega
      have b0:¬g=w.heap.size+1:=by have:=aA Y;omega
      have b9:¬E=t.heap.size:=fun e=>uN (y.each d _ a[d] hu (zH hb)) J jb (by rw[<-e];rfl);have b5:¬w.heap.size+1=t.heap.size:=by have:=aA Y;omega
      have z:=hide (az q (az y (az f hu)));have d1:(d:Int)<(a.length:Int):=a_;have c5:(cell:Int)<(a[d].length:Int):=a_;have a2:a[d].length<=100000:=a1 _ (aBI hb);clear q y f hu T a5 r0 rf f0 ff;generalize hX:a[d][cell]=x at *;have X:=hide hX;clear hX;have HP:=hide (show lM x cut=if x<=1 then (if cut then 1 else 2) else x from rfl);by_cases G:x<=1
      ·
        have HL:=hide G;cases cut with
        |
         true=>
         have HY:Hid (lM a[d][cell] true=1):=hide (by rw[aA X,aA HP,au G];rfl)
         go_wp2
         refine aAT (v:=.tuple #[.agg #[.slice (some ⟨g,0,none⟩) a.length cap],.int .i64 0]) (by simp[results,results194,go_sem,N]) rfl ⟨_,rfl,?_⟩;rw[aA HY];have h0:=gX (S:=fun j=>j=E) (aA z).1 (gq.setCell (S:=fun j=>j=E) (p:=⟨E,cell,none⟩) (gq.refl _ _) (.inl rfl) (.int .u8 1)) (fun j hj e=>by cases hj;exact a3 e.symm);have h1:=(aA z).2.1.zq (aA z).2.2.2 (zH hb) hc 1;have hl:(a.set d (a[d].set cell 1)).length=a.length:=aAA;rw[<-hl] at h0 ⊢;exact aDs h0 h1 (aA Y) a_ (gq.setCell (p:=⟨E,cell,none⟩) ((aA HX).trans (aA z).2.2.1) (.inr (by simp only;omega)) _)
        |
         false=>
         have HY:Hid (lM a[d][cell] false=2):=hide (by rw[aA X,aA HP,au G];rfl)
         go_wp2
         refine aAT (v:=.tuple #[.agg #[.slice (some ⟨g,0,none⟩) a.length cap],.int .i64 0]) (by simp[results,results194,go_sem,N]) rfl ⟨_,rfl,?_⟩;rw[aA HY];have h0:=gX (S:=fun j=>j=E) (aA z).1 (gq.setCell (S:=fun j=>j=E) (p:=⟨E,cell,none⟩) (gq.refl _ _) (.inl rfl) (.int .u8 2)) (fun j hj e=>by cases hj;exact a3 e.symm);have h1:=(aA z).2.1.zq (aA z).2.2.2 (zH hb) hc 2;have hl:(a.set d (a[d].set cell 2)).length=a.length:=aAA;rw[<-hl] at h0 ⊢;exact aDs h0 h1 (aA Y) a_ (gq.setCell (p:=⟨E,cell,none⟩) ((aA HX).trans (aA z).2.2.1) (.inr (by simp only;omega)) _)
      ·
        have b4:¬x<=1:=G;have HY:Hid (lM a[d][cell] cut=a[d][cell]):=hide (by rw[aA X,aA HP,ah G])
        go_wp2
        refine aAT (v:=.tuple #[.agg #[.slice (some ⟨g,0,none⟩) a.length cap],.int .i64 0]) (by simp[results,results194,go_sem,N]) rfl ⟨_,rfl,?_⟩;rw[aA HY,List.set_getElem_self,List.set_getElem_self];exact aDs (aA z).1 (aA z).2.1 (aA Y) a_ ((aA HX).trans (aA z).2.2.1)
namespace Pv
theorem bHh{C:Ctx}{k:Nat}{g:Nat->g_}{m:ag}(h:R C (.sl 1 k g) [m])(p:∀ j,j<k->bNw (g j)=true):Reads C.w 1 m ((yz k).map fun j=>CU (g j)).length (((yz k).map fun j=>CU (g j)).map (gp .u8)):=by
 cases h with
 | sl f s q=>
  rename_i d
  have:d=((yz k).map fun j=>CU (g j)).flatMap fun z=>[gp .u8 z]:=by
   refine aYr (fun z=>[gp .u8 z]) 1 _ d (fun a _=>rfl) (by simpa using f.1) (fun i o=>?_);have b:i<k:=by simpa using o
   have c:=q i b;rw[aOw (p i b)] at c;rw[aCI,List.getElem_range];generalize (d.drop (i*1)).take 1=r at c ⊢;cases c with
   |cons k1 c=>cases c;cases k1;rfl
  rw[List.length_map,List.length_range]
  have e:(((yz k).map fun j=>CU (g j)).map (gp .u8))=d:=by
   rw[this];generalize (yz k).map (fun j=>CU (g j))=l
   induction l with
   |nil=>rfl|cons a l n=>rw[aAJ,List.flatMap_cons,n];rfl
  rw[e];exact f
theorem bBz{C:Ctx}{n:Nat}{f:Nat->g_}{q:ag}(h:R C (.sl 1 n f) [q])(u:nX n f):uq C.w q (dF n f):=by
 cases h with
 | sl p z x=>
  rename_i d;refine⟨d,by rw[iE];exact p,⟨by rw[iE];simpa using p.1,fun k m l e b=>?_⟩⟩;have i:k<n:=by have:=(List.getElem?_eq_some_iff.1 b).1;rwa [iE] at this
  have j:=x k i;have a:=u k i
  have s:(d.drop (k*1)).take 1=[m]:=by
   rw[aBq];have o:k<d.length:=(List.getElem?_eq_some_iff.1 e).1;rw[aEz o];have:d[k]=m:=by rw[zH o] at e;exact Option.some.inj e
   rw[this];rfl
  rw[s] at j;have r:l=FU (f k):=by unfold dF at b;rw[aAg,List.getElem?_range i] at b;exact (Option.some.inj b).symm
  rw[r];clear r b e s;generalize f k=c at j a ⊢;unfold bSl at a;split at a;rename_i t g;have y:R C.cold (.sl 1 t g) [m]:=by have:=j.single;exact this
  exact bHh (C:=C.cold) y a;exact a.elim
theorem Xg{C:Ctx}{a:ag}{l:List Int}(h:Reads C.w 1 a l.length (l.map (gp .u8)))(hb:∀ g,a.ownBlock=some g->0<l.length->C.ok g/\g<C.w.heap.size):R C (.sl 1 l.length (CQ l)) [a]:=
 .sl h hb (fun i b=>by
  have e:((l.map (gp .u8)).drop (i*1)).take 1=[.int .u8 (l.getD i 0)]:=by rw[aBq,aEz (by simpa using b),aCI,zG,zH b];rfl
  rw[e]
  exact .cons (xs:=[_]) (.lit rfl) .nil)
theorem bOh{w':ae}{B:Nat}{p:ag}{a:vk}(h:wP B w' p a){ok:uy}(d:∀ b,B<=b->ok b):R { w:=w',ok:=ok,env:=fun _=>none } (.sl 1 a.length (eY a)) [p]:=by
 obtain⟨r,c,o,l,n⟩:=h;refine .sl (Reads.ou l) (fun g f _=>⟨d g (ry o (l.lt g f).1),(l.lt g f).2⟩) (fun i j=>?_);have m:i<c.length:=by rw[n.len];exact j
 have e:(c.drop (i*1)).take 1=[c[i]]:=by rw[aBq,aEz m];rfl
 rw[e];have k:=n.each i c[i] a[i] (zH m) (zH j);have q:eY a i=EX a[i]:=by unfold eY;rw[zG,zH j];rfl
 rw[q];refine .cons (xs:=[_]) (Xg (Reads.ou k) (fun g f _=>⟨d g (ry o (k.lt g f).1),(k.lt g f).2⟩)) .nil
end Pv
structure Eg(h h':jr):Prop where
 n:h'.b.length=h.b.length
 l:∀ k,(h'.b.getD k []).length=(h.b.getD k []).length
 f:h'.f.length=h.f.length
theorem Eg.refl(h:jr):Eg h h:=⟨rfl,fun _=>rfl,rfl⟩
theorem Eg.trans{a b c:jr}(h1:Eg a b)(h2:Eg b c):Eg a c:=⟨h2.n.trans h1.n,fun k=>(h2.l k).trans (h1.l k),h2.f.trans h1.f⟩
theorem bBc(b:vk)(a cell:Int)(cut:Bool):(ug b a cell cut).length=b.length/\∀ k,((ug b a cell cut).getD k []).length=(b.getD k []).length:=by unfold ug;refine⟨aAA ..,fun k=>?_⟩;rw[zG,zG (l:=b) (i:=k),List.getElem?_set];split;rename_i e;subst e;split;rename_i c;rw[aCM,aAA,zG];rename_i c;rw[PR a_];rfl
theorem bGc(f:Fl)(s:Int)(b:jy)(cut:Int):(gU f s b cut).length=f.length:=by unfold gU;split;exact aAA ..;rfl
theorem bPn(h:jr)(a:Acc)(t:qy):Eg h (fM h a t).1:=by
 unfold fM
 repeat' split
 all_goals first
  |exact Eg.refl h
  |exact⟨(bBc _ _ _ _).1,(bBc _ _ _ _).2,rfl⟩
  |exact⟨rfl,fun _=>rfl,bGc _ _ _ _⟩
def bHt(h:jr)(a:Acc):Prop:=((a.kind=1\/a.kind=2)/\a.bytes=aC/\BD h.b a.ng a.cell=true)\/(a.kind=3/\a.ng=0/\a.bytes=aC/\0<=a.cell/\a.cell<h.f.length)\/(a.kind=4/\a.ng=0/\(0<=a.cell/\a.cell<h.f.length)/\a.bytes.size=256)
namespace Pv
structure jf where
 live:Bool
 log:List u_
 F:List qy
structure ja where
 i:Nat
 ask:Acc
 stop:Bool
 cut:Bool
 h:jr
def dW(m:jf)(a:Acc)(s:ja):u_×ja:=
 if s.stop=true then (iW,s)
 else if m.live=true then
  if (eG m.F s.i).cut=true then (iW,⟨s.i+1,s.ask,true,true,(fM s.h a (eG m.F s.i)).1⟩)
  else ((fM s.h a (eG m.F s.i)).2.1,⟨s.i+1,s.ask,s.stop,s.cut,(fM s.h a (eG m.F s.i)).1⟩)
 else match m.log[s.i]? with
  |some r=>(r,⟨s.i+1,s.ask,s.stop,s.cut,s.h⟩)|none=>(iW,⟨s.i,a,true,s.cut,s.h⟩)
def aK{b:Type}(m:jf):aj b->ja->b×ja
 |.ret a,s=>(a,s)|.ask c k,s=>aK m (k (dW m c s).1) (dW m c s).2
theorem dR{b d:Type}(m:jf)(p:aj b)(f:b->aj d):∀ s,aK m (p.bind f) s=aK m (f (aK m p s).1) (aK m p s).2:=by
 induction p with
 |ret a=>intro s;rfl|ask c k e=>intro s;exact e _ _
structure v_(m:jf)(s:ja):Prop where
 hw:CP s.h
 ll:m.log.length<=1000000
 lb:∀ r∈m.log,r.bytes.size<=1000000
 lf:m.F.length<=1000000
 i:s.i<=1000000
theorem bNm(m:jf)(a:Acc)(s:ja):s.i<=(dW m a s).2.i:=by
 unfold dW
 repeat' split
 all_goals first
  |exact dE _
  |exact Nat.le_succ _
theorem bFu(m:jf)(a:Acc)(s:ja):Eg s.h (dW m a s).2.h:=by
 unfold dW
 repeat' split
 all_goals first
  |exact Eg.refl _
  |exact bPn _ _ _
theorem bNo(m:jf)(a:Acc)(s:ja)(h:CP s.h):CP (dW m a s).2.h:=by
 unfold dW
 repeat' split
 all_goals first
  |exact h
  |exact aPr _ _ h
theorem bNn{m:jf}{a:Acc}{s:ja}(h:v_ m s)(b:(dW m a s).2.i<=1000000):v_ m (dW m a s).2:=⟨bNo m a s h.hw,h.ll,h.lb,h.lf,b⟩
theorem kH{b:Type}(m:jf)(p:aj b):∀ s,s.i<=(aK m p s).2.i:=by
 induction p with
 |ret a=>intro s;exact dE _|ask c k d=>intro s;exact ry (bNm m c s) (d _ _)
theorem jD{b:Type}(m:jf)(p:aj b):∀ s,Eg s.h (aK m p s).2.h:=by
 induction p with
 |ret a=>intro s;exact Eg.refl _|ask c k d=>intro s;exact (bFu m c s).trans (d _ _)
theorem jW{d:Type}{m:jf}(p:aj d):∀ {s},v_ m s->(aK m p s).2.i<=1000000->v_ m (aK m p s).2:=by
 induction p with
 |ret a=>intro s h _;exact h|ask c k e=>intro s h b;exact e _ (bNn h (ry (kH m _ _) b)) b
theorem wB(m:jf)(a:Acc){s:ja}(h:s.stop=true):dW m a s=(iW,s):=au h
theorem qW{b:Type}(m:jf)(p:aj b):∀ s:ja,s.stop=true->(aK m p s).2=s:=by
 induction p with
 |ret a=>intro s h;rfl|ask c k d=>intro s h;rw[aK,wB m c h];exact d _ _ h
theorem aIk{b:Type}{R:b->Prop}{p:aj b}(h:aj.All R p)(m:jf):∀ s,R (aK m p s).1:=by
 induction p with
 |ret a=>intro s;exact h|ask c k d=>intro s;exact d _ (h _) _
theorem bFv{n:Type}{m:jf}(l:m.live=true)(p:aj n):∀ {s:ja},s.stop=false->s.cut=false ->
  match fE m.F p s.h s.i with
  |(some a,g,j)=>aK m p s=(a,⟨j,s.ask,false,false,g⟩)|(none,g,j)=>(aK m p s).2=⟨j,s.ask,true,true,g⟩:=by
 induction p with
 |ret a=>intro s b f;obtain⟨i,q,r,t,h⟩:=s;dsimp only at b f;subst b f;rfl
 | ask c k o=>
  intro s b f;simp only[fE,aK];by_cases d:(eG m.F s.i).cut=true;rw[au d];have e:dW m c s=(iW,⟨s.i+1,s.ask,true,true,(fM s.h c (eG m.F s.i)).1⟩):=by unfold dW;rw[ah (by rw[b];exact aAQ),au l,au d]
  rw[e];exact qW m _ _ rfl;rw[ah d];have e:dW m c s=((fM s.h c (eG m.F s.i)).2.1,⟨s.i+1,s.ask,s.stop,s.cut,(fM s.h c (eG m.F s.i)).1⟩):=by unfold dW;rw[ah (by rw[b];exact aAQ),au l,ah d]
  rw[e];exact o _ (s:=⟨s.i+1,s.ask,s.stop,s.cut,(fM s.h c (eG m.F s.i)).1⟩) b f
def uj(m:jf)(s:ja):g_:=[.sl 2 m.log.length (FD m.log),.lit (.int .i64 (s.i:Int)),.lit (.int .i64 s.ask.kind),.lit (.int .i64 s.ask.ng),.lit (.int .i64 s.ask.cell),.lit (.string s.ask.bytes),.lit (.bool s.stop),.lit (.bool m.live),.sl 1 s.h.b.length (eY s.h.b),.sl 1 s.h.f.length (vz s.h.f),.bs 16 s.h.r,.sl 3 m.F.length (yu m.F),.lit (.bool s.cut)]
abbrev CS:=jf->ja->Prop
abbrev Bj:=jf->ja->ja×PV
def z_(f:Nat)(ys:ji)(C:CS)(F:Bj):Prop:=∀ m s,v_ m s->C m s->(F m s).1.i<=1000000 ->
 y_ prog af f false [⟨px,96,uj m s,uj m (F m s).1⟩] (fun _=>none) none (fun _=>False) (.w (.one (.pt px 0 0))::ys) (F m s).2
def yt(m:jf)(s:ja)(a:ji->Option (CS×Bj)):g_->ji->Option (Prop×g_×PV):=fun l b=>match a b with
 |some (C,F)=>some ((l=uj m s/\v_ m s)/\C m s/\(F m s).1.i<=1000000,uj m (F m s).1,(F m s).2)|none=>none
theorem fD{f:Nat}{a:ji->Option (CS×Bj)}{m:jf}{s:ja}(e:∀ args w,(callFunc f args).run prog w=.ok (.enter f args) w)
  (k:∀ b C F,a b=some (C,F)->z_ f b C F):b_ prog af f (dI 96 (yt m s a)):=by
 refine xX e (fun l b p o r c i=>?_);unfold yt at c;cases h:a b with
 |none=>rw[h] at c;cases c|some d=>obtain⟨C,F⟩:=d;rw[h] at c;cases c;obtain⟨⟨rfl,g⟩,n,j⟩:=i;exact k b C F h m s g n j
theorem Oa{C:Ctx}{b:vk}{v:ag}(h:RV C (.w (.agg (BK b))) v):∃ a,v=.agg #[a]/\uq C.w a b:=by
 cases h with
 | w h=>cases h with
  | @agg _ c h=>
   unfold BK at h;obtain⟨c⟩:=c;change RL _ _ c at h;cases h with
   |cons k1 k2=>cases k2;obtain⟨a,e⟩:=bBa k1;subst e;refine⟨a,rfl,?_⟩;have:=bBz k1 (wE _ b);rwa [aQ] at this
theorem Oo{b:vk}{c cell:Int}(h:BD b c cell=true):∃ a d:Nat,c=a/\cell=d/\∃ f:a<b.length,d<b[a].length:=by
 have e:=aUh h;obtain⟨a,rfl⟩:=aBZ e.1.1;obtain⟨d,rfl⟩:=aBZ e.2.1;have f:a<b.length:=by have:=e.1.2;omega
 refine⟨a,d,rfl,rfl,f,?_⟩;have g:=e.2.2;rw[show ((a:Int)).toNat=a from rfl,zG,zH f,aCM] at g;exact Int.ofNat_lt.1 g
theorem Jz(b:vk)(a cell:Int)(g:Bool)(o:BD b a cell=true):fQ prog af 72 true [.w (.agg (BK b)),dw a,dw cell,t_ g] (.o7 [.one (.lit (.int .i64 (gJ (iV b a cell) g))),.one (.lit (.int .i64 0))]):=by
 intro w l k u m
 match k,m with
 | [v1,v2,v3,t],⟨k1,k2,k3,k4,_⟩=>
  obtain⟨q,rfl,n⟩:=Oa k1;obtain rfl:=k2.gu;obtain rfl:=k3.gu;obtain rfl:=k4.gu;obtain⟨f,d,rfl,rfl,j,h⟩:=Oo o;have r:iV b (f:Int) (d:Int)=b[f][d]:=by unfold iV;rw[show ((f:Int)).toNat=f from rfl,show ((d:Int)).toNat=d from rfl,zG,zG,zH j,aCM,zH h,aCM]
  rw[r];refine (aCt q b f d g w n j h).mono ?_;rintro e s ⟨rfl,p⟩;refine⟨_,rfl,p,.o7 rfl (fun i x c=>?_)⟩
  match i,c with
  |0,c=>cases c;exact⟨_,rfl,.one (.lit rfl)⟩|1,c=>cases c;exact⟨_,rfl,.one (.lit rfl)⟩|i+2,c=>cases c
theorem KA(b:vk)(a cell:Int)(cut:Bool)(q:BD b a cell=true)(hn:b.length<=1000)(h:∀ l∈b,l.length<=100000):fQ prog af 194 false [.w (.agg (BK b)),dw a,dw cell,t_ cut] (Zm (ug b a cell cut) 0):=by
 intro w g m C n
 match m,n with
 | [v1,v2,v3,B],⟨k1,k2,k3,k4,_⟩=>
  obtain⟨y,rfl,p⟩:=Oa k1;obtain rfl:=k2.gu;obtain rfl:=k3.gu;obtain rfl:=k4.gu;obtain⟨c,f,rfl,rfl,k,j⟩:=Oo q;have z:ug b (c:Int) (f:Int) cut=b.set c (b[c].set f (lM b[c][f] cut)):=by unfold ug iV;rw[show ((c:Int)).toNat=c from rfl,show ((f:Int)).toNat=f from rfl,zG,zG,zH k,aCM,zH j,aCM]
  rw[z];refine (bGf y b c f cut w p k j hn h).mono ?_;rintro e A ⟨u,rfl,s,t⟩;refine⟨_,rfl,t,?_⟩;have o:=bOh s (ok:=fun b=>(false=false/\g b)\/w.heap.size<=b) (fun b r=>.inr r);refine .o7 rfl (fun i x d=>?_)
  match i,d with
  |0,d=>cases d;exact⟨_,rfl,.agg (.cons (xs:=[_]) o .nil)⟩|1,d=>cases d;exact⟨_,rfl,.one (.lit rfl)⟩|i+2,d=>cases d
def K_:ji->Option (Prop×PV)
 |[.w (.agg [.sl 1 n f]),.w (.one (.lit (.int .i64 ng))),.w (.one (.lit (.int .i64 cell))),.w (.one (.lit (.bool a)))]=>some (nX n f/\BD (dF n f) ng cell=true,.o7 [.one (.lit (.int .i64 (gJ (iV (dF n f) ng cell) a))),.one (.lit (.int .i64 0))])|_=>none
theorem bKh:b_ prog af 72 (aV true K_):=by
 refine aU (aB func72 ai rfl) (fun k p r b d w c e j i=>?_);unfold K_ at b;split at b;rename_i n f a cell h;cases b
 match e,i with
 |[v1,v2,v3,g],⟨k1,k2,k3,k4,_⟩=>exact Jz (dF n f) a cell h d.2 w c [v1,v2,v3,g] j ⟨Wp d.1 k1,k2,k3,k4,trivial⟩
 cases b
def KC:ji->Option (Prop×PV)
 |[.w (.agg [.sl 1 n f]),.w (.one (.lit (.int .i64 ng))),.w (.one (.lit (.int .i64 c))),.w (.one (.lit (.bool cut)))]=>some (nX n f/\n<=1000/\(∀ l∈dF n f,l.length<=100000)/\BD (dF n f) ng c=true,Zm (ug (dF n f) ng c cut) 0)|_=>none
theorem bKi:b_ prog af 194 (aV false KC):=by
 refine aU (aB func194 ai rfl) (fun s p r b j w d g k i=>?_);unfold KC at b;split at b;rename_i n f a c e;cases b;obtain⟨q,o,m,l⟩:=j
 match g,i with
 |[v1,v2,v3,h],⟨k1,k2,k3,k4,_⟩=>exact KA (dF n f) a c e l (by rw[iE];exact o) m w d [v1,v2,v3,h] k ⟨Wp q k1,k2,k3,k4,trivial⟩
 cases b
end Pv
theorem bIk(l:ag)(a:vk)(d:Nat)(w:ae)(h:uq w l a)(hb:d<a.length) :
  lL prog 71 #[.agg #[l],.int .i64 (d:Int)] w fun e m=>e=.returned (.int .i64 ((a[d].length / 3:Nat):Int))/\Ext w m:=by
 obtain⟨b,o,c,t,rfl,n,i,j⟩:=h.at_ hb;have g:a.length<=uu:=by obtain⟨p,k,_⟩:=h.ex;exact k.Aw
 have f:=j.Aw;unfold uu at g f;obtain⟨_,B,s,rfl,_,_,_⟩:=j;have k:decide ((a.length:Int)<=(d:Int))=false:=l7;have r:decide ((a.length)<=(d))=false:=l7;have q:(d:Int)<(a.length:Int):=a_;clear h
 go_enter func71,ntmps71
 go_wp2
 go_ret
 exact⟨vM a_,by
  all_goals exact Dp
  ⟩
theorem aSf(O:ag)(a:vk)(b:Nat)(d:Bool)(w:ae)(h:uq w O a)(hb:b<a.length)(hn:a[b].length<=100000) :
  lL prog 42 #[.agg #[O],.int .i64 (b:Int),.bool d] w fun e W=>e=.returned (.int .i64 (lZ a[b] d))/\Ext w W:=by
 have C:=hide h;obtain⟨_,⟨_,A,c,rfl,_⟩,_⟩:=h.ex;clear h;have HN:=hide (rfl:a[b].length / 3=a[b].length / 3);generalize E:a[b].length / 3=m at HN;have a1:m<=100000:=a_;have U:=hide E
 go_enter func42,ntmps42
 go_wp2_with fail
 refine (bIk _ a b _ ((aA C).ext ((Ext.refl w).alloc _)) hb).mono ?_;rintro e V ⟨rfl,o⟩;rw[E];have l:=hide (az ((eu.new w 60 #[.slice A a.length c]).ext o) (((Ext.refl w).alloc _).trans o));clear o E
 go_wp2
 go_loopw [8] (fun i wr=>∃ k:Nat,k<=m/\i=.int .i64 k/\Ext V wr/\yE a[b] d (m-k) k=lZ a[b] d) (fun i _=>m-(intOf i).toNat)
 case atStart=>exact⟨0,x8 _,rfl,Ext.refl _,by rw[aDU,<-aA U];rfl⟩
 case round=>
  obtain⟨k,hk,rfl,o,N⟩:=hrel;have n:=hide (az o N);clear o N;by_cases a2:k<m
  ·have t:=aA U;have H:3*k<a[b].length:=a_;have G:3*k+1<a[b].length:=a_;have F:3*k+2<a[b].length:=a_;have T:=hide (show Zr a[b] d k=decide (2<=gJ a[b][3*k] d+gJ a[b][3*k+1] d+gJ a[b][3*k+2] d) from by unfold Zr;rw[getD_at H,getD_at G,getD_at F]);have S:=aCt (.slice A a.length c) a b (3*k) d;have Q:=aCt (.slice A a.length c) a b (3*k+1) d;have P:=aCt (.slice A a.length c) a b (3*k+2) d;have g0:=aDt a[b][3*k] d;have g1:=aDt a[b][3*k+1] d;have g2:=aDt a[b][3*k+2] d;have C0:=hide fun w u=>S w u hb H;have C1:=hide fun w u=>Q w u hb G;have C2:=hide fun w u=>P w u hb F;generalize gJ a[b][3*k] d=K at *;generalize gJ a[b][3*k+1] d=J at *;generalize gJ a[b][3*k+2] d=I at *;clear S Q P H G F t;obtain⟨s,q,p⟩:=((aA l).1.ext (aA n).1).BL;have Z:IntKind.wrap .i64 (3*(k:Int))=((3*k:Nat):Int):=by rw[IntWalk.i64_in _ a_];omega
   go_wp2_with fail
   refine (aA C0 _ ((aA C).ext ((aA l).2.trans (aA n).1))).mono ?_;rintro e wa ⟨rfl,z⟩;have g:=hide ((aA n).1.trans z);clear z s q p;obtain⟨s,q,p⟩:=((aA l).1.ext (aA g)).BL;have Y:IntKind.wrap .i64 (((3*k:Nat):Int)+1)=((3*k+1:Nat):Int):=by rw[IntWalk.i64_in _ a_];omega
   have X:IntKind.wrap .i64 (((3*k:Nat):Int)+2)=((3*k+2:Nat):Int):=by rw[IntWalk.i64_in _ a_];omega
   go_wp2_with fail
   refine (aA C1 _ ((aA C).ext ((aA l).2.trans (aA g)))).mono ?_;rintro e wb ⟨rfl,y⟩;have f:=hide ((aA g).trans y);clear y s q p g;obtain⟨s,q,p⟩:=((aA l).1.ext (aA f)).BL
   go_wp2_with fail
   refine (aA C2 _ ((aA C).ext ((aA l).2.trans (aA f)))).mono ?_;rintro e wc ⟨rfl,x⟩;have B:=hide ((aA f).trans x);clear x s q p f Z Y X;by_cases L:K+J+I<2
   ·go_wp2
    go_ret;have hb:Zr a[b] d k=false:=by rw[aA T];simpa using L
    have j:=(aA n).2;obtain⟨r,D⟩:∃ r,m-k=r+1:=⟨m-k-1,a_⟩;rw[D,bFt hb] at j;exact⟨vM (by rw[j]),(aA l).2.trans (aA B)⟩
   ·have a0:decide (K+J+I<2)=false:=by simpa using L
    have hb:Hid (Zr a[b] d k=true):=hide (by rw[aA T];simp;omega)
    go_wp2
    go_roundw
    case rel=>have j:=(aA n).2;obtain⟨r,D⟩:∃ r,m-k=r+1:=⟨m-k-1,a_⟩;rw[D,aYf (aA hb)] at j;exact⟨k+1,a_,by go_num,aA B,by rw[show m-(k+1)=r from a_];exact j⟩
    case measure=>simp[intOf];omega
  ·obtain rfl:k=m:=a_
   go_wp2
   go_ret;have j:=(aA n).2;rw[aBa] at j
   exact⟨vM (by rw[<-j];rfl),(aA l).2.trans (aA n).1⟩
theorem bNe(f:ag)(a:vk)(b:Nat)(w:ae)(h:uq w f a)(hb:b<a.length)(hn:a[b].length<=100000) :
  lL prog 27 #[.agg #[f],.int .i64 (b:Int)] w fun e g=>e=.returned (.int .i64 (lZ a[b] false))/\Ext w g:=by
 have i:=hide h;obtain⟨_,⟨_,A,c,rfl,_⟩,_⟩:=h.ex;clear h
 go_enter func27,ntmps27
 go_wp2_with fail
 refine (aSf _ a b false _ ((aA i).ext ((Ext.refl w).alloc _)) hb hn).mono ?_;rintro e k ⟨rfl,d⟩;have j:=hide d;clear d
 go_wp2
 go_ret;exact⟨rfl,((Ext.refl w).alloc _).trans (aA j)⟩
namespace Pv
def aYh:ji->Option (Prop×PV)
 |[.w (.agg [.sl 1 n f]),.w (.one (.lit (.int .i64 3)))]=>some (nX n f/\3<n/\((dF n f).getD 3 []).length<=100000,dw (lZ ((dF n f).getD 3 []) false))|_=>none
theorem aYg:b_ prog af 27 (aV true aYh):=by
 refine aU (aB func27 ai rfl) (fun s p r a j w h g u i=>?_);unfold aYh at a;split at a;rename_i n f;cases a;obtain⟨o,m,c⟩:=j
 match g,i with
 | [v1,v2],⟨k1,k2,_⟩=>
  obtain rfl:=k2.gu;cases k1 with
  | w k1=>cases k1 with
   | @agg _ d k1=>
    obtain⟨d⟩:=d;dsimp only at k1;cases k1 with
    | cons q k1=>
     cases k1;cases q with
     |sl b1 b2 b3=>
      have k:=bBz (.sl b1 b2 b3) o;have b:3<(dF n f).length:=by rw[iE];exact m
      have e:(dF n f).getD 3 []=(dF n f)[3]:=by rw[zG,zH b];rfl
      rw[e] at c ⊢;refine (bNe _ (dF n f) 3 w k b c).mono ?_;rintro e t ⟨rfl,l⟩;exact⟨_,rfl,l,.w (.one (.lit rfl))⟩
 cases a
def Va:di:=[115,116,97,116,101]
def EG(o:jk):jm:={ Bv 0 5 with ot:=o.ot,ol:=o.ol }
def CJ(o:jk):jm:={ Bv 1 7 with xt:=o.xt,xl:=o.xl,bn:=o.bn,bc:=o.bc,bt:=o.bt }
def op0:jm:=⟨0,y8,y8,y8,aC,y8,0,y8,0,0,aC,y8⟩
theorem Za(b:jy)(n:Nat):∀ i r,b.size-i=n->ByteArray.toList.loop b i r=r.reverse++b.data.toList.drop i:=by
 induction n with
 |zero=>intro i r h;rw[ByteArray.toList.loop,ah a_,List.drop_eq_nil_of_le (by show b.data.toList.length<=i;have:b.data.toList.length=b.size:=rfl;omega),AC]| succ n c=>
  intro i r h;have a:i<b.data.toList.length:=by show i<b.size;omega
  rw[ByteArray.toList.loop,au a_,c (i+1) _ a_,List.reverse_cons,GM,aEz a];congr 1
  show[b.get! i]++_=_
  have:b.get! i=b.data.toList[i]:=by show b.data[i]! = _;rw[getElem!_pos b.data i a,Array.getElem_toList]
  rw[this];rfl
theorem bRs(b:jy):b.toList=b.data.toList:=by unfold ByteArray.toList;rw[Za b b.size 0 [] rfl];rfl
theorem bCy{h:jr}(d:qx h):(h.b[3]?.getD []).length<=100000:=by have:=d.l3;rw[zG] at this;omega
theorem Xq:zl op0:=⟨rfl,rfl,rfl,rfl,by show gy 0;unfold gy;omega,by show gy 0;unfold gy;omega,by show gy 0;unfold gy;omega,by show aC.size<=10000;decide,by show aC.size<=2000;decide⟩
def aRB(H:Nat->jr)(_ _ _ _ _ _ _ _:QS):St:=⟨[(1,none,dm (.pt 1000 0 0))],[(1000,none,0,.box 57 (F5 H false))]⟩
def aRA(H:Nat->jr)(a _ _ _ _ _ _ _:QS):St:=⟨[(3,none,dm (.pt 2012 0 0)),(1,none,dm (.pt 1000 0 0))],[(2012,none,0,.box 40 (h_ (bG a.1))),(1000,none,0,.box 57 (F5 H false))]⟩
def aQZ(H:Nat->jr)(a _ _ _ _ _ _ _:QS):St:=⟨[(4,none,dm (.pt 3001 0 0)),(3,none,dm (.pt 2012 0 0)),(1,none,dm (.pt 1000 0 0))],[(3001,none,0,.box 31 (w_ (EG (bG a.1)))),(2012,none,0,.box 40 (h_ (bG a.1))),(1000,none,0,.box 57 (F5 H false))]⟩
def aQY(H:Nat->jr)(b a _ _ _ _ _ _:QS):St:=⟨[(6,none,dm (.pt 5012 0 0)),(5,none,dm (.pt 5011 0 0)),(3,none,dm (.pt 2012 0 0)),(1,none,dm (.pt 1000 0 0))],[(5012,none,0,.box 40 (h_ (bG a.1))),(5011,none,0,.box 65 (qi a.2.1)),(2012,none,0,.box 40 (h_ (bG b.1))),(1000,none,0,.box 57 (F5 H false))]⟩
def aQX(H:Nat->jr)(c a b _ _ _ _ _:QS):St:=⟨[(8,none,dm (.pt 6007 0 0)),(6,none,dm (.pt 5012 0 0)),(5,none,dm (.pt 5011 0 0)),(3,none,dm (.pt 2012 0 0)),(1,none,dm (.pt 1000 0 0))],[(6007,none,0,.box 40 (h_ (bG b.1))),(5012,none,0,.box 40 (h_ (bG a.1))),(5011,none,0,.box 65 (qi a.2.1)),(2012,none,0,.box 40 (h_ (bG c.1))),(1000,none,0,.box 57 (F5 H false))]⟩
def aQW(H:Nat->jr)(c a b _ _ _ _ _:QS):St:=⟨[(9,none,dm (.pt 7001 0 0)),(8,none,dm (.pt 6007 0 0)),(6,none,dm (.pt 5012 0 0)),(5,none,dm (.pt 5011 0 0)),(3,none,dm (.pt 2012 0 0)),(1,none,dm (.pt 1000 0 0))],[(7001,none,0,.box 31 (w_ (CJ (bG a.1)))),(6007,none,0,.box 40 (h_ (bG b.1))),(5012,none,0,.box 40 (h_ (bG a.1))),(5011,none,0,.box 65 (qi a.2.1)),(2012,none,0,.box 40 (h_ (bG c.1))),(1000,none,0,.box 57 (F5 H false))]⟩
def aQV(H:Nat->jr)(d a c b _ _ _ _:QS):St:=⟨[(11,none,dm (.pt 9012 0 0)),(10,none,dm (.pt 9011 0 0)),(9,none,dm (.pt 7001 0 0)),(8,none,dm (.pt 6007 0 0)),(6,none,dm (.pt 5012 0 0)),(5,none,dm (.pt 5011 0 0)),(3,none,dm (.pt 2012 0 0)),(1,none,dm (.pt 1000 0 0))],[(9012,none,0,.box 40 (h_ (bG b.1))),(9011,none,0,.box 65 (qi b.2.1)),(7001,none,0,.box 31 (w_ (CJ (bG a.1)))),(6007,none,0,.box 40 (h_ (bG c.1))),(5012,none,0,.box 40 (h_ (bG a.1))),(5011,none,0,.box 65 (qi a.2.1)),(2012,none,0,.box 40 (h_ (bG d.1))),(1000,none,0,.box 57 (F5 H false))]⟩
def aGN(H:Nat->jr)(e b d a c _ _ _:QS):St:=⟨[(13,none,dm (.pt 10007 0 0)),(11,none,dm (.pt 9012 0 0)),(10,none,dm (.pt 9011 0 0)),(8,none,dm (.pt 6007 0 0)),(6,none,dm (.pt 5012 0 0)),(5,none,dm (.pt 5011 0 0)),(3,none,dm (.pt 2012 0 0)),(1,none,dm (.pt 1000 0 0))],[(10007,none,0,.box 40 (h_ (bG c.1))),(9012,none,0,.box 40 (h_ (bG a.1))),(9011,none,0,.box 65 (qi a.2.1)),(6007,none,0,.box 40 (h_ (bG d.1))),(5012,none,0,.box 40 (h_ (bG b.1))),(5011,none,0,.box 65 (qi b.2.1)),(2012,none,0,.box 40 (h_ (bG e.1))),(1000,none,0,.box 57 (F5 H false))]⟩
def aGM(H:Nat->jr)(f c e b d a _ _:QS):St:=⟨[(15,none,dm (.pt 11007 0 0)),(14,none,dm (.pt 11006 0 0)),(13,none,dm (.pt 10007 0 0)),(11,none,dm (.pt 9012 0 0)),(10,none,dm (.pt 9011 0 0)),(8,none,dm (.pt 6007 0 0)),(6,none,dm (.pt 5012 0 0)),(5,none,dm (.pt 5011 0 0)),(3,none,dm (.pt 2012 0 0)),(1,none,dm (.pt 1000 0 0))],[(11007,none,0,.box 40 (h_ (bG a.1))),(11006,none,0,.box 65 (qi a.2.1)),(10007,none,0,.box 40 (h_ (bG d.1))),(9012,none,0,.box 40 (h_ (bG b.1))),(9011,none,0,.box 65 (qi b.2.1)),(6007,none,0,.box 40 (h_ (bG e.1))),(5012,none,0,.box 40 (h_ (bG c.1))),(5011,none,0,.box 65 (qi c.2.1)),(2012,none,0,.box 40 (h_ (bG f.1))),(1000,none,0,.box 57 (F5 H false))]⟩
def aGL(H:Nat->jr)(g b f a e d c _:QS):St:=⟨[(17,none,dm (.pt 12007 0 0)),(15,none,dm (.pt 11007 0 0)),(13,none,dm (.pt 10007 0 0)),(11,none,dm (.pt 9012 0 0)),(10,none,dm (.pt 9011 0 0)),(8,none,dm (.pt 6007 0 0)),(6,none,dm (.pt 5012 0 0)),(5,none,dm (.pt 5011 0 0)),(3,none,dm (.pt 2012 0 0)),(1,none,dm (.pt 1000 0 0))],[(12007,none,0,.box 40 (h_ (bG c.1))),(11007,none,0,.box 40 (h_ (bG d.1))),(10007,none,0,.box 40 (h_ (bG e.1))),(9012,none,0,.box 40 (h_ (bG a.1))),(9011,none,0,.box 65 (qi a.2.1)),(6007,none,0,.box 40 (h_ (bG f.1))),(5012,none,0,.box 40 (h_ (bG b.1))),(5011,none,0,.box 65 (qi b.2.1)),(2012,none,0,.box 40 (h_ (bG g.1))),(1000,none,0,.box 57 (F5 H false))]⟩
def aGK(H:Nat->jr)(h b g a f e d c:QS):St:=⟨[(19,none,dm (.pt 13007 0 0)),(17,none,dm (.pt 12007 0 0)),(15,none,dm (.pt 11007 0 0)),(13,none,dm (.pt 10007 0 0)),(11,none,dm (.pt 9012 0 0)),(10,none,dm (.pt 9011 0 0)),(8,none,dm (.pt 6007 0 0)),(6,none,dm (.pt 5012 0 0)),(5,none,dm (.pt 5011 0 0)),(3,none,dm (.pt 2012 0 0)),(1,none,dm (.pt 1000 0 0))],[(13007,none,0,.box 40 (h_ (bG c.1))),(12007,none,0,.box 40 (h_ (bG d.1))),(11007,none,0,.box 40 (h_ (bG e.1))),(10007,none,0,.box 40 (h_ (bG f.1))),(9012,none,0,.box 40 (h_ (bG a.1))),(9011,none,0,.box 65 (qi a.2.1)),(6007,none,0,.box 40 (h_ (bG g.1))),(5012,none,0,.box 40 (h_ (bG b.1))),(5011,none,0,.box 65 (qi b.2.1)),(2012,none,0,.box 40 (h_ (bG h.1))),(1000,none,0,.box 57 (F5 H false))]⟩
def aGJ(H:Nat->jr)(g a _ b f e d c:QS):St:=⟨[(22,none,t_ true),(19,none,dm (.pt 13007 0 0)),(17,none,dm (.pt 12007 0 0)),(15,none,dm (.pt 11007 0 0)),(13,none,dm (.pt 10007 0 0)),(11,none,dm (.pt 9012 0 0)),(10,none,dm (.pt 9011 0 0)),(8,none,dm (.pt 6007 0 0)),(6,none,dm (.pt 5012 0 0)),(5,none,dm (.pt 5011 0 0)),(3,none,dm (.pt 2012 0 0)),(1,none,dm (.pt 1000 0 0))],[(13007,none,0,.box 40 (h_ { bG c.1 with err:=14 })),(12007,none,0,.box 40 (h_ { bG d.1 with session:=1 })),(11007,none,0,.box 40 (h_ { bG e.1 with payload:=strOf Va,session:=0 })),(10007,none,0,.box 40 (h_ { bG f.1 with err:=21 })),(9012,none,0,.box 40 (h_ { bG b.1 with err:=0,payload:=strOf Va })),(9011,none,0,.box 65 (qi b.2.1)),(6007,none,0,.box 40 (h_ { bG a.1 with err:=0 })),(5012,none,0,.box 40 (h_ { bG a.1 with err:=0 })),(5011,none,0,.box 65 (qi a.2.1)),(2012,none,0,.box 40 (h_ { bG g.1 with ot:=UI 1,ol:=0 })),(1000,none,0,.box 57 (F5 H false))]⟩
def saL(H:Nat->jr):List (Nat×Spec):=[(12,newSpec 57 (F5 H false)),(14,aV true Gw),(20,aV false aYc),(10,aV true Lj),(27,aV true aYh),(26,aV true idG)]
theorem saM{H:Nat->jr}(hb:aVo prog af 12 57 (F5 H false)):jq prog af (find (saL H)):=⟨aY (fun p a=>by
 simp only[saL,xn,aAe,or_false] at a;rcases a with rfl|rfl|rfl|rfl|rfl|rfl;exact bFh (aB func12 ai rfl) hb;exact aFp;exact bMu;exact bMc;exact aYg
 exact bNy),dB⟩
theorem Rq{H:Nat->jr}(hb:aVo prog af 12 57 (F5 H false))(e a j c i d h g:QS)(z:EStateM.Result Acc Nat jk)
  (e1:fE [] (dA (Bv 1 4)) (H 1) 0=e) (e2:fE [] (dA (EG (bG e.1))) (H 0) 0=a) (Y:fE [] (dA (Bv 0 6)) a.2.1 0=j) (I:fE [] (dA (CJ (bG a.1))) (H 1) 0=c)
  (X:fE [] (dA (CJ (bG a.1))) c.2.1 0=i) (G:fE [] (dA (Bv 1 2)) c.2.1 0=d) (W:fE [] (dA (Bv 1 2)) d.2.1 0=h) (V:fE [] (dA (Bv 0 2)) a.2.1 0=g) (U:(dA op0).run (replay []) 0=z)
  (d0:qx (H 0)) (J:qx (H 1)) (w:qx a.2.1) (u:qx c.2.1) (Z:qx d.2.1) (K:zl (EG (bG e.1))) (y:zl (CJ (bG a.1)))
  (F:(bG e.1).ot=UI 1/\(bG e.1).ol=0) (E:(bG a.1).err=0) (T:bG j.1=bG a.1) (D:(bG c.1).err=0/\(bG c.1).payload=strOf Va) (S:(bG i.1).err=21) (C:(bG d.1).payload=strOf Va/\(bG d.1).session=0) (Q:(bG h.1).session=1) (P:(bG g.1).err=14) (x:Zl z=true)
  (B:lZ (a.2.1.b.getD 3 []) false=2) (lb:lZ (c.2.1.b.getD 3 []) false=1):fQ prog af 9 true [] (t_ true):=by
 have M:=saM hb;have t:bG e.1={ bG e.1 with ot:=UI 1,ol:=0 }:=by rw[<-F.1,<-F.2]
 have s:bG a.1={ bG a.1 with err:=0 }:=by rw[<-E]
 have q:bG j.1={ bG a.1 with err:=0 }:=by rw[T,<-E]
 have p:bG c.1={ bG c.1 with err:=0,payload:=strOf Va }:=by rw[<-D.1,<-D.2]
 have o:bG i.1={ bG i.1 with err:=21 }:=by rw[<-S]
 have m:bG d.1={ bG d.1 with payload:=strOf Va,session:=0 }:=by rw[<-C.1,<-C.2]
 have l:bG h.1={ bG h.1 with session:=1 }:=by rw[<-Q]
 have k:bG g.1={ bG g.1 with err:=14 }:=by rw[<-P]
 refine bH func9 rfl rfl bJ (fun A hS N O=>?_);refine iC ?_;refine aW (aRB H e a j c i d h g) ?_ ?_ ?_;exact .cr (.nil);refine .cb (.nil);refine aH ?_ ?_;simp;exact⟨J,Zw 1 4⟩;refine aW (aRA H e a j c i d h g) ?_ ?_ ?_;exact .cr (.cr (.nil));refine .cons (.box ?_) (.cb (.nil));rw[<-e1];change h_ (bG (fE [] (dA (Bv 1 4)) (⟨dF (H 1).b.length (eY (H 1).b),kC (H 1).f.length (vz (H 1).f),(H 1).r⟩:jr) 0).1)=_;rw[aQ,bV];refine iC ?_;refine aW (aQZ H e a j c i d h g) ?_ ?_ ?_;exact .cr (.cr (.cr (.nil)));refine .cb (.cb (.cb (.nil)));refine aH ?_ ?_;simp;exact⟨d0,K⟩;refine aW (aQY H e a j c i d h g) ?_ ?_ ?_;exact .cr (.cr (.cr (.cr (.nil))));refine .cons (.box ?_) (.cons (.box ?_) (.cb (.cb (.nil))));rw[<-e2];change h_ (bG (fE [] (dA (EG (bG e.1))) (⟨dF (H 0).b.length (eY (H 0).b),kC (H 0).f.length (vz (H 0).f),(H 0).r⟩:jr) 0).1)=_;rw[aQ,bV];rw[<-e2];change qi (fE [] (dA (EG (bG e.1))) (⟨dF (H 0).b.length (eY (H 0).b),kC (H 0).f.length (vz (H 0).f),(H 0).r⟩:jr) 0).2.1=_;rw[aQ,bV];refine aH ?_ ?_;simp;exact⟨w,Zw 0 6⟩;refine aW (aQX H e a j c i d h g) ?_ ?_ ?_;exact .cr (.cr (.cr (.cr (.cr (.nil)))));refine .cons (.box ?_) (.cb (.cb (.cb (.cb (.nil)))));rw[<-Y];change h_ (bG (fE [] (dA (Bv 0 6)) (⟨dF (a.2.1).b.length (eY (a.2.1).b),kC (a.2.1).f.length (vz (a.2.1).f),(a.2.1).r⟩:jr) 0).1)=_;rw[aQ,bV];refine iC ?_;refine aW (aQW H e a j c i d h g) ?_ ?_ ?_;exact .cr (.cr (.cr (.cr (.cr (.cr (.nil))))));refine .cb (.cb (.cb (.cb (.cb (.cb (.nil))))));refine aH ?_ ?_;simp;exact⟨J,y⟩;refine aW (aQV H e a j c i d h g) ?_ ?_ ?_;exact .cr (.cr (.cr (.cr (.cr (.cr (.cr (.cr (.nil))))))));refine .cons (.box ?_) (.cons (.box ?_) (.cb (.cb (.cb (.cb (.cb (.cb (.nil))))))));rw[<-I];change h_ (bG (fE [] (dA (CJ (bG a.1))) (⟨dF (H 1).b.length (eY (H 1).b),kC (H 1).f.length (vz (H 1).f),(H 1).r⟩:jr) 0).1)=_;rw[aQ,bV];rw[<-I];change qi (fE [] (dA (CJ (bG a.1))) (⟨dF (H 1).b.length (eY (H 1).b),kC (H 1).f.length (vz (H 1).f),(H 1).r⟩:jr) 0).2.1=_;rw[aQ,bV];refine aH ?_ ?_;simp;exact⟨u,y⟩;refine aW (aGN H e a j c i d h g) ?_ ?_ ?_;exact .cr (.cr (.cr (.cr (.cr (.cr (.cr (.cr (.nil))))))));refine .cons (.box ?_) (.cb (.cb (.cb (.cb (.cb (.cb (.cb (.nil))))))));rw[<-X];change h_ (bG (fE [] (dA (CJ (bG a.1))) (⟨dF (c.2.1).b.length (eY (c.2.1).b),kC (c.2.1).f.length (vz (c.2.1).f),(c.2.1).r⟩:jr) 0).1)=_;rw[aQ,bV];refine aH ?_ ?_;simp;exact⟨u,Zw 1 2⟩;refine aW (aGM H e a j c i d h g) ?_ ?_ ?_;exact .cr (.cr (.cr (.cr (.cr (.cr (.cr (.cr (.cr (.cr (.nil))))))))));refine .cons (.box ?_) (.cons (.box ?_) (.cb (.cb (.cb (.cb (.cb (.cb (.cb (.cb (.nil))))))))));rw[<-G];change h_ (bG (fE [] (dA (Bv 1 2)) (⟨dF (c.2.1).b.length (eY (c.2.1).b),kC (c.2.1).f.length (vz (c.2.1).f),(c.2.1).r⟩:jr) 0).1)=_;rw[aQ,bV];rw[<-G];change qi (fE [] (dA (Bv 1 2)) (⟨dF (c.2.1).b.length (eY (c.2.1).b),kC (c.2.1).f.length (vz (c.2.1).f),(c.2.1).r⟩:jr) 0).2.1=_;rw[aQ,bV];refine aH ?_ ?_;simp;exact⟨Z,Zw 1 2⟩;refine aW (aGL H e a j c i d h g) ?_ ?_ ?_;exact .cr (.cr (.cr (.cr (.cr (.cr (.cr (.cr (.cr (.cr (.nil))))))))));refine .cons (.box ?_) (.cb (.cb (.cb (.cb (.cb (.cb (.cb (.cb (.cb (.nil))))))))));rw[<-W];change h_ (bG (fE [] (dA (Bv 1 2)) (⟨dF (d.2.1).b.length (eY (d.2.1).b),kC (d.2.1).f.length (vz (d.2.1).f),(d.2.1).r⟩:jr) 0).1)=_;rw[aQ,bV];refine aH ?_ ?_;simp;exact⟨w,Zw 0 2⟩;refine aW (aGK H e a j c i d h g) ?_ ?_ ?_;exact .cr (.cr (.cr (.cr (.cr (.cr (.cr (.cr (.cr (.cr (.cr (.nil)))))))))));refine .cons (.box ?_) (.cb (.cb (.cb (.cb (.cb (.cb (.cb (.cb (.cb (.cb (.nil)))))))))));rw[<-V];change h_ (bG (fE [] (dA (Bv 0 2)) (⟨dF (a.2.1).b.length (eY (a.2.1).b),kC (a.2.1).f.length (vz (a.2.1).f),(a.2.1).r⟩:jr) 0).1)=_;rw[aQ,bV];refine aH ?_ ?_;simp;exact⟨Xq,by unfold bSk;simp⟩
 refine aW (aGJ H e a j c i d h g) ?_ ?_ ?_;exact .cons (congrArg t_ (by change Zl ((dA op0).run (replay []) 0)=true;rw[U];exact x)) (.cr (.cr (.cr (.cr (.cr (.cr (.cr (.cr (.cr (.cr (.cr (.nil))))))))))));refine .cons (.box ?_) (.cons (.box ?_) (.cons (.box ?_) (.cons (.box ?_) (.cons (.box ?_) (.cb (.cons (.box ?_) (.cons (.box ?_) (.cb (.cons (.box ?_) (.cb (.nil)))))))))));exact congrArg h_ k;exact congrArg h_ l;exact congrArg h_ m;exact congrArg h_ o;exact congrArg h_ p;exact congrArg h_ q;exact congrArg h_ s;exact congrArg h_ t;refine aNe M O N (outs:=?_) (s':=?_) ?_ ?_ ?_ ?_;rotate_left 2
 with_unfolding_all rfl
 kernel_rfl;simp[hP]
 exact⟨fun _=>⟨w.n,bCy w⟩,fun _ _=>⟨u.n,bCy u⟩⟩;refine aW (⟨[(0,none,t_ true)],[]⟩) ?_ ?_ ?_;refine .cons (congrArg t_ ?_) .nil;have L:(strOf Va).toList=[115,116,97,116,101]:=by rw[bRs];exact bY _
 rw[zG] at B lb;simp[L,B,lb];exact .nil;exact kE
def stB:jy:=strOf Va
theorem VQ{m:jm}{h b:jr}{x:Except Int jk}(e:xu (oO m) h=(x,b)):∃ n,fE [] (dA m) h 0=(some (Hr eF x),b,n):=by obtain⟨n,a⟩:=aYv eF (oO m) h 0;rw[e] at a;exact⟨n,a⟩
theorem uY{n:Nat}(hn:n<=16):(cl n).length=48:=by unfold cl;rw[gz,aCG,aCG];omega
theorem ZN{n:Nat}:∀ x∈cl n,0<=x/\x<=3:=by intro x a;rcases List.mem_append.1 a with a|a;rw[aIn a];omega;rw[aIn a];omega
theorem aFv{a b:Nat}{f:Fl}{r:di}(h:a<=16)(hb:b<=16)(d:Sz f)(hr:r.length=16):qx (AY (cl a) (cl b) f r):=by
 have i:I9=cl 0:=ZT;refine⟨⟨by show 4<=1000;decide,?_,?_,?_,?_,hr⟩,by show 3<4;decide,uY h,uY hb,by show 64<=f.length;rw[d.1];decide⟩;intro l g;have c:l∈[I9,I9,cl a,cl b]:=g;simp only[xn,aAe,or_false,i] at c;rcases c with rfl|rfl|rfl|rfl;rw[uY a_];decide;rw[uY a_];decide;rw[uY h];decide;rw[uY hb];decide
 ·intro l g x e;have c:l∈[I9,I9,cl a,cl b]:=g;simp only[xn,aAe,or_false,i] at c
  rcases c with rfl|rfl|rfl|rfl<;>exact ZN x e
 show f.length<=1000000;rw[d.1];decide;intro x e;rw[d.2 x e];decide
def crO:jk:={ ni with payload:=stB }
theorem bRq:∃ n a,fE [] (dA QW) (ET (lI 0)) 0=(some crO,AY (cl 0) (cl 1) a (lI 0),n)/\E_ a 1 (lI 0) (sF 0 stB):=by obtain⟨n,b⟩:=VQ (bGt (m:=QW) (n:=0) (c2:=cl 0) (f:=ED) (q:=lI 0) rfl (by show (5:Nat)<=1000;decide) aFk jb jb rfl);refine⟨n,_,b,?_⟩;exact aXl (root:=lI 0) aFk jb jb (aOp (p:=stB) jb (by show (5:Nat)<=1000;decide))
theorem aRc{r:jv}(a:r.ot=UI 1):Tra (CJ (iD (Cc 7) r)) r.payload:=by refine⟨?_,?_,?_⟩;show (r.ot==UI 1)=true;rw[a];exact beq_self_eq_true _;show opened (keyS (Cc 7) r.ot r.ol) r.ol (strOf _) _=true;unfold opened;rw[bY];exact beq_self_eq_true _;show strOf (dM (keyS (Cc 7) r.ot r.ol) r.ol (strOf (dM (keyS (Cc 7) r.ot r.ol) r.ol r.payload.data.toList)).data.toList)=r.payload;rw[bY,zQ,kG]
theorem QU:gy 0:=by unfold gy;omega
theorem VF{r:jv}(b:r.ot.length=16)(a:gy r.ol)(c:r.payload.size<=1000):zl (CJ (iD (Cc 7) r)):=by refine⟨rfl,rfl,rfl,b,QU,a,a,by show aC.size<=10000;decide,?_⟩;show (strOf (dM (keyS (Cc 7) r.ot r.ol) r.ol r.payload.data.toList)).size<=2000;rw[bC,cZ];have:r.payload.data.toList.length=r.payload.size:=nz;omega
theorem Rl{o:jk}(a:o.ot.length=16)(b:gy o.ol):zl (EG o):=⟨rfl,rfl,a,rfl,b,QU,QU,by show aC.size<=10000;decide,by show aC.size<=2000;decide⟩
theorem Lc:Zl ((dA op0).run (replay []) 0)=true:=ai
def LX:jk:={ ni with ot:=UI 1,ol:=((0:Nat):Int) }
def EF:jv:=Fe (EG LX) 1 (sF 0 stB)
structure aMO(n:Nat)(fA fB:Fl):Prop where
 cr:fE [] (dA QW) (ET (lI 0)) 0=(some crO,AY (cl 0) (cl 1) fA (lI 0),n)
 hA:E_ fA 1 (lI 0) (sF 0 stB)
 hB:E_ fB 2 (lI 0) EF
 snd:xu (oO (EG LX)) (AY (cl 0) (cl 1) fA (lI 0))=(.ok (iD (Cc 7) EF),AY (cl 0) (cl 2) fB (lI 0))
theorem QG:∃ n b e,aMO n b e:=by obtain⟨n,b,d,a⟩:=bRq;have c:=JQ (m:=EG LX) (n:=1) (c2:=cl 0) (q:=lI 0) rfl jb jb jb jb rfl a jb jb rfl rfl rfl;refine⟨n,b,_,d,a,?_,c⟩;exact aXl (root:=lI 0) (r:=EF) a.jo jb jb (bAk jb QU rfl a.ok)
theorem off1:xu (oO (Bv 1 4)) (ET (lI 1))=(.ok LX,ET (lI 1)):=bLy (m:=Bv 1 4) (n:=0) (c2:=cl 0) (f:=ED) (q:=lI 1) rfl jb rfl
theorem bDv:fQ prog af 9 true [] (t_ true):=by
 obtain⟨n,k,K,B⟩:=QG;have j:=ZW (crO |> some,AY (cl 0) (cl 1) k (lI 0),n) _ _ _ rfl rfl rfl B.cr;have d:QT (some crO,AY (cl 0) (cl 1) k (lI 0),n)=false:=rfl;rw[d] at j;have i:Tra (CJ (iD (Cc 7) EF)) stB:=aRc (r:=EF) rfl;have a:stB.size<=1000:=by show (5:Nat)<=1000;decide
 obtain⟨J,A⟩:=VQ off1;obtain⟨I,z⟩:=VQ B.snd;obtain⟨H,y⟩:=VQ (bEl (m:=Bv 0 6) (n:=2) (c2:=cl 0) (q:=lI 0) rfl B.hB jb rfl rfl rfl);have h:=bHq (m:=CJ (iD (Cc 7) EF)) (n:=0) (c2:=cl 0) (q:=lI 1) (f:=ED) rfl i a aFk jb jb rfl rfl;have e:=aXl (root:=lI 1) aFk jb jb (aOp (n:=0) (p:=stB) jb a);obtain⟨l,c⟩:=jc (I7 ED (gG (lI 1) (sF 0 stB)));have b:I7 ED (gG (CJ (iD (Cc 7) EF)).root (sF 0 stB))=l:=c;rw[c] at e;rw[b] at h;obtain⟨G,x⟩:=VQ h;obtain⟨F,w⟩:=VQ (bHp (m:=CJ (iD (Cc 7) EF)) (n:=1) (c2:=cl 0) (f:=l) (q:=lI 1) rfl i.xt jb rfl);obtain⟨E,u⟩:=VQ (aTa (m:=Bv 1 2) (n:=1) (n2:=0) (q:=lI 1) rfl e jb rfl rfl rfl jb);obtain⟨D,t⟩:=VQ (aTa (m:=Bv 1 2) (n:=1) (n2:=1) (q:=lI 1) rfl e jb rfl rfl rfl jb);obtain⟨C,s⟩:=VQ (bFl (m:=Bv 0 2) (n:=2) (c2:=cl 0) (q:=lI 0) rfl B.hB jb rfl);have zB:=B.hB.jo.sz;have g:=e.jo.sz;have zA:=B.hA.jo.sz;refine Rq j _ _ _ _ _ _ _ _ _ A z y x w u t s rfl (aFv jb jb zA rfl) (aUj _ rfl) (aFv jb jb zB rfl) (aFv jb jb g rfl) (aFv jb jb g rfl) (Rl (o:=LX) rfl QU) (VF (r:=EF) rfl QU a) ⟨rfl,rfl⟩ rfl rfl ⟨rfl,rfl⟩ rfl ⟨rfl,rfl⟩ rfl rfl Lc (NI jb) (NI jb)
theorem G6{l l':List (Nat×og×PV)}(h:l=l'):Am l l':=by
 subst h
 induction l with
 |nil=>exact .nil|cons a l b=>obtain⟨t,g,v⟩:=a;exact .cons rfl b
theorem bEk{l l':Wr}(h:l=l'):zo l l':=by
 subst h
 induction l with
 |nil=>exact .nil|cons a l b=>
  obtain⟨x,g,c,o⟩:=a;refine .cons ?_ b;cases o with
  |box t l=>exact .box rfl|arr e n len f=>exact .arr rfl (fun _ _=>rfl)|dead=>exact .dead|dev O gm l=>exact .dev rfl
def Vt(L:di)(k:Nat):St:=⟨[(1,none,dm (.pt 0 0 0)),(3,none,dm (.ow 7000 0 1 0 k)),(4,none,dw k)],[(0,none,0,.box 23 [.bs 16 L]),(7000,none,0,.arr 5 1 k (oz (L.take k)))]⟩
theorem SL(L:di)(s:L.length=16):VP prog af 23 [.w (.agg [.bs 16 L])] 5 1 16 (oz L):=by
 have M:=aJL;have j:prog.types[5].bytes=1:=ai;refine aCv func23 rfl rfl bJ (fun A r l p=>?_);refine iC ?_;refine jG ?_;refine bK (s':=Vt L 0) (fun a w b=>((b.nilRow (x:=7000) (e:=5) (n:=1) (t:=3) ay ay).reset (kT:=[1,3,4]) (kO:=[0,7000]) ay d_).same ?_ ?_) ?_;exact iq;exact .cb (.cons (.arr rfl (fun i d=>a_)) .nil);refine aN ?_;refine dX 16 (fun k t=>t=Vt L k) 0 rfl a_ (fun k t o q=>?_);subst o;refine aJ (fun h=>?_) (fun h=>?_)
 have m:k<16:=by
  have:(k:Int)<16:=by simpa using h
  omega
 refine gQ ?_;refine aN ?_;refine aS M p l (ay) ai ?_ ?_;simp;rw[j];omega;change kw _ _ _ _ _;refine fJ ?_;intro a w b;refine⟨k+1,_,a_,a_,rfl,(b.reset (kT:=[1,3,4]) (kO:=[0,7000]) ay ?_).same ?_ ?_⟩;simp only[All,and_true,AC,IR];intro i d;unfold ru;split
 rfl;rw[show i-k=0 from a_];rfl;exact .cr (.cr (.cons (by rw[bW k a_]) .nil));refine .cb (.cons (.arr rfl (fun i d=>?_)) .nil);rw[VM];unfold ru
 split;unfold oz;rw[getD_take a_,getD_take a_]
 obtain rfl:i=k:=a_;rw[aBa];unfold oz;rw[getD_take a_];rfl
 ·have c:k=16:=by
   have:¬(k:Int)<16:=by simpa using h
   omega
  subst c;refine dK ?_;change kw _ _ _ _ _;refine aI ?_;refine bZ (fun a w b=>⟨.inr rfl,_,?_,b⟩);refine aFi (x:=7000) (l9:=0) (g:=none) (f:=?_) (out:=?_) ?_ ?_ ?_ ?_ ?_ trivial ?_;rotate_left 2;rfl;simp;rfl;rfl;rfl;intro i d;refine⟨?_,rfl⟩;rw[WF a_]
def Vd:Spec:=aGx fun a=>match a with
 |[.w (.agg [.bs 16 l])]=>some (True,5,1,16,oz l)|_=>none
theorem Xe:b_ prog af 23 Vd:=by refine yY (aB func23 ai rfl) (fun g p e n len i b h=>?_);split at b;cases b;exact fun w a d f c=>SL _ (Ic c) w a d f c;cases b
def aSO(n m:Nat)(f g:Nat->g_):Prop:=n=m/\nX n f/\nX m g/\dF n f=dF m g/\n<=1000/\∀ l∈dF n f,l.length<=100000
def Nk:List (Nat×Spec):=[(72,aV true K_),(194,aV false KC)]
theorem UA:∀ p∈Nk,b_ prog af p.1 p.2:=by intro p a;simp only[Nk,xn,aAe,or_false] at a;rcases a with rfl|rfl;exact bKh;exact bKi
theorem WM:jq prog af (find Nk):=⟨aY UA,dB⟩
def yF(m:jf)(s:ja)(k b c:Int)(x:jy)(t:qy):St:=⟨[(0,none,dm (.pt px 0 0)),(3,none,dm (.pt 0 0 0)),(4,none,dm (.pt 1 0 0)),(5,none,dm (.pt 1001 0 0)),(6,none,dm (.pt 5001 0 0)),(46,none,dw k)],
 [(px,none,0,.box 96 (uj m s)),(0,none,0,.box 37 (oP ⟨k,b,c,x⟩)),(1,none,0,.box 35 (jR iW)),(1001,none,0,.box 104 (nT t)),(5001,none,0,.box 35 (jR iW))]⟩
def aOs(m:jf)(s:ja)(k b c:Int)(x:jy)(t:qy):St:=⟨[(0,none,dm (.pt px 0 0)),(3,none,dm (.pt 0 0 0)),(4,none,dm (.pt 1 0 0)),(5,none,dm (.pt 1001 0 0))],
 [(px,none,0,.box 96 (uj m s)),(0,none,0,.box 37 (oP ⟨k,b,c,x⟩)),(1,none,0,.box 35 (jR iW)),(1001,none,0,.box 104 (nT t))]⟩
def aCm(m:jf)(s:ja)(r:u_)(t:qy):St:=⟨[(0,none,dm (.pt px 0 0)),(4,none,dm (.pt 1 0 0)),(5,none,dm (.pt 1001 0 0)),(6,none,dm (.pt 5001 0 0))],
 [(px,none,0,.box 96 (uj m s)),(1,none,0,.box 35 (jR iW)),(1001,none,0,.box 104 (nT t)),(5001,none,0,.box 35 (jR r))]⟩
theorem aTd(m:jf)(i:Nat)(d:Acc)(g:Bool)(h:jr)(b c:Int)(_:jy)(u:m.live=true)(o:v_ m ⟨i,d,false,g,h⟩)(C:i+1<=1000000)(r:BD h.b b c=true):y_ prog af 180 false [⟨px,96,uj m ⟨i,d,false,g,h⟩,uj m (dW m ⟨1,b,c,aC⟩ ⟨i,d,false,g,h⟩).2⟩] (fun _=>none) none (fun _=>False) [.w (.one (.pt px 0 0)),.w (.agg (oP ⟨1,b,c,aC⟩))] (.w (.agg (jR (dW m ⟨1,b,c,aC⟩ ⟨i,d,false,g,h⟩).1))):=by
 have M:=WM;obtain⟨t,n⟩:=jc (eG m.F i);have y:=o.lf;have l:IntKind.wrap .i64 ((i:Int)+1)=((i+1:Nat):Int):=bW i a_
 have B:dW m ⟨1,b,c,aC⟩ ⟨i,d,false,g,h⟩=if t.cut=true then (iW,⟨i+1,d,true,true,h⟩) else (⟨gJ (iV h.b b c) t.ul,aC⟩,⟨i+1,d,false,g,h⟩):=by
  unfold dW fM;rw[ah (aAQ),au u];dsimp only;rw[n,au rfl,au rfl,au r]
  all_goals (cases t.cut<;>rfl)
 rw[B];refine dL func180 rfl rfl rfl (fun A s z=>?_);refine iC ?_;refine sN (aOs m ⟨i,d,false,g,h⟩ 1 b c aC t) ?_ ?_;refine eH (fun f=>?_) (fun f=>?_);have k:i<m.F.length:=by have j:decide ((i:Int)<(m.F.length:Int))=true:=f;have:=of_decide_eq_true j;omega
 have q:m.F.getD ((i:Int)).toNat yw=t:=n;refine aS M z s (ay) ai ?_ ?_;simp;exact k;refine fun a w p=>⟨rfl,(p.reset (kT:=[0,3,4,5]) (kO:=[px,0,1,1001]) ay d_).same ?_ ?_⟩;exact iq;exact .cb (.cb (.cb (.cons (.box (congrArg nT q)) .nil)));have k:¬i<m.F.length:=by have j:decide ((i:Int)<(m.F.length:Int))=false:=f;have:=of_decide_eq_false j;omega
 have q:t=yw:=by rw[<-n];unfold eG;rw[zG,PR a_];rfl
 refine fH (fun a w p=>⟨rfl,(p.reset (kT:=[0,3,4,5]) (kO:=[px,0,1,1001]) ay d_).same ?_ ?_⟩);exact iq;exact .cb (.cb (.cb (.cons (.box (by rw[q];rfl)) .nil)));refine iC ?_;refine jG ?_;refine aW (yF m ⟨i+1,d,false,g,h⟩ 1 b c aC t) ?_ ?_ ?_;exact iq;refine .cons (.box ?_) (.cb (.cb (.cons (.box ?_) ((dU _)))));unfold uj;dsimp only;rw[<-l];rfl;refine aN ?_;refine eH (fun f=>?_) (fun f=>?_)
 ·refine aH ?_ ?_;simp;exact r;refine mY ?_;refine aW (aCm m ⟨i+1,d,false,g,h⟩ ⟨gJ (iV h.b b c) t.ul,aC⟩ t) ?_ ?_ ?_;exact iq;refine .cons (.box ?_) (.cb (.cb (.cons (.box ?_) .nil)));rfl
  (rw[show iV h.b b c=iV (dF h.b.length (eY h.b)) b c by rw[aQ]];rfl)
  refine aJ (fun f=>?_) (fun f=>?_)
  ·have e:t.cut=true:=f;rw[au e];refine iC ?_;refine iJ ?_
   all_goals rfl
  ·have e:t.cut=false:=f;rw[ah (by rw[e];exact aAQ)];refine dS ?_;refine gZ ?_
   all_goals rfl
 cases f
theorem aTc(m:jf)(i:Nat)(d:Acc)(j:Bool)(h:jr)(b c:Int)(_:jy)(z:m.live=true)(k:v_ m ⟨i,d,false,j,h⟩)(E:i+1<=1000000)(u:BD h.b b c=true):y_ prog af 180 false [⟨px,96,uj m ⟨i,d,false,j,h⟩,uj m (dW m ⟨2,b,c,aC⟩ ⟨i,d,false,j,h⟩).2⟩] (fun _=>none) none (fun _=>False) [.w (.one (.pt px 0 0)),.w (.agg (oP ⟨2,b,c,aC⟩))] (.w (.agg (jR (dW m ⟨2,b,c,aC⟩ ⟨i,d,false,j,h⟩).1))):=by
 have M:=WM;obtain⟨t,p⟩:=jc (eG m.F i);have B:=k.lf;have o:IntKind.wrap .i64 ((i:Int)+1)=((i+1:Nat):Int):=bW i a_
 have D:dW m ⟨2,b,c,aC⟩ ⟨i,d,false,j,h⟩=if t.cut=true then (iW,⟨i+1,d,true,true,⟨ug h.b b c t.cut,h.f,h.r⟩⟩) else (iW,⟨i+1,d,false,j,⟨ug h.b b c t.cut,h.f,h.r⟩⟩):=by
  unfold dW fM;rw[ah (aAQ),au z];dsimp only;rw[p,ah (show ¬((2:Int)=1) by decide),au rfl,au rfl,au u]
  all_goals (cases t.cut<;>rfl)
 rw[D];refine dL func180 rfl rfl rfl (fun A y C=>?_);refine iC ?_;refine sN (aOs m ⟨i,d,false,j,h⟩ 2 b c aC t) ?_ ?_;refine eH (fun e=>?_) (fun e=>?_);have n:i<m.F.length:=by have l:decide ((i:Int)<(m.F.length:Int))=true:=e;have:=of_decide_eq_true l;omega
 have s:m.F.getD ((i:Int)).toNat yw=t:=p;refine aS M C y (ay) ai ?_ ?_;simp;exact n;refine fun a w q=>⟨rfl,(q.reset (kT:=[0,3,4,5]) (kO:=[px,0,1,1001]) ay d_).same ?_ ?_⟩;exact iq;exact .cb (.cb (.cb (.cons (.box (congrArg nT s)) .nil)));have n:¬i<m.F.length:=by have l:decide ((i:Int)<(m.F.length:Int))=false:=e;have:=of_decide_eq_false l;omega
 have s:t=yw:=by rw[<-p];unfold eG;rw[zG,PR a_];rfl
 refine fH (fun a w q=>⟨rfl,(q.reset (kT:=[0,3,4,5]) (kO:=[px,0,1,1001]) ay d_).same ?_ ?_⟩);exact iq;exact .cb (.cb (.cb (.cons (.box (by rw[s];rfl)) .nil)));refine iC ?_;refine jG ?_;refine aW (yF m ⟨i+1,d,false,j,h⟩ 2 b c aC t) ?_ ?_ ?_;exact iq;refine .cons (.box ?_) (.cb (.cb (.cons (.box ?_) ((dU _)))));unfold uj;dsimp only;rw[<-o];rfl;refine aN ?_;refine eH (fun e=>?_) (fun e=>?_);cases e;refine eH (fun e=>?_) (fun e=>?_)
 ·refine aH ?_ ?_;simp;exact⟨k.hw.nb,k.hw.nc,u⟩;refine eH (fun e=>?_) (fun e=>?_)
  ·refine mY ?_;refine aW (aCm m ⟨i+1,d,false,j,⟨ug h.b b c t.cut,h.f,h.r⟩⟩ iW t) ?_ ?_ ?_;exact iq;refine .cons (.box ?_) (.cb (.cb (.cons (.box ?_) .nil)))
   (rw[show ug h.b b c t.cut=ug (dF h.b.length (eY h.b)) b c t.cut by rw[aQ]];rfl)
   rfl;refine aJ (fun e=>?_) (fun e=>?_)
   ·have g:t.cut=true:=e;rw[au g];refine iC ?_;refine iJ ?_
    all_goals rfl
   ·have g:t.cut=false:=e;rw[ah (by rw[g];exact aAQ)];refine dS ?_;refine gZ ?_
    all_goals rfl
  cases e
 cases e
def bHu(h:jr)(a:Acc):Prop:=(a.kind=1\/a.kind=2)/\a.bytes=aC/\BD h.b a.ng a.cell=true
theorem bMx(a:Acc):z_ 180 [.w (.agg (oP a))] (fun m s=>m.live=true/\s.stop=false/\bHu s.h a) (fun m s=>((dW m a s).2,.w (.agg (jR (dW m a s).1)))):=by
 intro m s g ⟨l,f,t⟩ n;obtain⟨i,d,u,p,h⟩:=s;obtain⟨k,b,c,x⟩:=a;dsimp only at f t n ⊢;subst f
 have j:i+1<=1000000:=by
  have e:(dW m ⟨k,b,c,x⟩ ⟨i,d,false,p,h⟩).2.i=i+1:=by
   unfold dW;rw[ah (aAQ),au l]
   split<;>rfl
  rw[e] at n;exact n
 obtain⟨r,q,o⟩:=t;dsimp only at r q o;subst q;rcases r with rfl|rfl;exact aTd m i d p h b c aC l g j o;exact aTc m i d p h b c aC l g j o
def bQd:ji->Option (CS×Bj)
 |[.w (.agg [.lit (.int .i64 k),.lit (.int .i64 b),.lit (.int .i64 c),.lit (.string x)])]=>some (fun m s=>m.live=true/\s.stop=false/\bHu s.h ⟨k,b,c,x⟩,fun m s=>((dW m ⟨k,b,c,x⟩ s).2,.w (.agg (jR (dW m ⟨k,b,c,x⟩ s).1))))|_=>none
theorem bFo(m:jf)(s:ja):b_ prog af 180 (dI 96 (yt m s bQd)):=
 fD (aB func180 ai rfl) (fun a C F h=>by
  unfold bQd at h;split at h;cases h;exact bMx _
  cases h)
def aIJ(m:jf)(s:ja):List (Nat×Spec):=[(180,dI 96 (yt m s bQd))]
theorem aII(m:jf)(s:ja):jq prog af (find (aIJ m s)):=⟨aY (fun p a=>by
 obtain rfl:=List.mem_singleton.1 a
 exact bFo m s),dB⟩
theorem aLr{m:jf}{a:Acc}{s:ja}(b:m.live=false)(hs:s.stop=false):dW m a s=match m.log[s.i]? with
  |some r=>(r,⟨s.i+1,s.ask,s.stop,s.cut,s.h⟩)|none=>(iW,⟨s.i,a,true,s.cut,s.h⟩):=by
 unfold dW;rw[ah (by rw[hs];exact aAQ),ah (by rw[b];exact aAQ)]
 all_goals rfl
theorem Uk(a:Acc):z_ 150 [.w (.agg (oP a))] (fun m s=>m.live=true->s.stop=false->bHu s.h a) (fun m s=>((dW m a s).2,.w (.agg (jR (dW m a s).1)))):=by
 intro m s e y q;have M:=aII m s;dsimp only at q ⊢;refine dL func150 rfl rfl rfl (fun A z B=>?_);obtain⟨t,b,F⟩:=m;obtain⟨i,g,r,p,h⟩:=s;cases r with
 | true=>
  rw[wB _ a (s:=⟨i,g,true,p,h⟩) rfl];refine aI ?_;refine aJ (fun c=>?_) (fun c=>?_)
  ·refine iJ ?_
   all_goals rfl
  cases c
 | false=>
  cases t with
  | true=>
   have x:=y rfl rfl;refine aI ?_;refine aJ (fun c=>?_) (fun c=>?_);cases c;refine jU (fun c=>?_) (fun c=>?_)
   ·refine aH ?_ ?_;simp;exact⟨e,x,q⟩;refine gZ ?_
    all_goals rfl
   cases c
  | false=>
   have l:=e.ll;have n:=e.i;dsimp only at l n;rw[aLr (m:=⟨false,b,F⟩) (s:=⟨i,g,false,p,h⟩) rfl rfl];refine aI ?_;refine aJ (fun c=>?_) (fun c=>?_);cases c;refine jU (fun c=>?_) (fun c=>?_);cases c;refine jU (fun c=>?_) (fun c=>?_)
   ·refine iC ?_;refine aI ?_;have o:b.length<=i:=by have f:decide ((i:Int)>=(b.length:Int))=true:=c;have:=of_decide_eq_true f;omega
    dsimp only;rw[PR o];refine gZ ?_
    all_goals rfl
   ·have k:i<b.length:=by
     have f:decide ((i:Int)>=(b.length:Int))=false:=c;have:=of_decide_eq_false f;omega
    refine dS ?_;have d:IntKind.wrap .i64 ((i:Int)+1)=((i+1:Nat):Int):=bW i a_;have j:IntKind.wrap .i64 (((i+1:Nat):Int)-1)=(i:Int):=by rw[show (((i+1:Nat):Int)-1)=(i:Int) by omega,PP,aEU a_ a_];omega
    refine aH ?_ ?_;simp;rw[d,j];omega;have u:b[i]?=some (b.getD i ⟨0,aC⟩):=by rw[zG,zH k];rfl
    dsimp only;rw[u];refine aW (⟨[(4,none,dm (.pt 1 0 0))],[(px,none,0,.box 96 (uj ⟨false,b,F⟩ ⟨i+1,g,false,p,h⟩)),(1,none,0,.box 35 (jR (b.getD i ⟨0,aC⟩)))]⟩) ?_ ?_ ?_;exact iq;refine .cons (.box ?_) (.cons (.box ?_) .nil);unfold uj;dsimp only;rw[<-d]
    show[PC.lit (.int .i64 (b.getD (IntKind.wrap .i64 (IntKind.wrap .i64 ((i:Int)+1)-1)).toNat ⟨0,aC⟩).val),PC.lit (.string (b.getD (IntKind.wrap .i64 (IntKind.wrap .i64 ((i:Int)+1)-1)).toNat ⟨0,aC⟩).bytes)]=_
    rw[d,j];rfl;refine gZ ?_
    all_goals rfl
end Pv
theorem yB(l:List Int)(x:Int):nonzero (l++[x])=nonzero l+if x=0 then 0 else 1:=by
 unfold nonzero;rw[List.filter_append,gz]
 by_cases h:x=0<;>simp[h]
theorem zI(l:List Int):nonzero l<=l.length:=List.length_filter_le _ _
def aj.A_(a b:Int):Nat->List Int->aj Bool
 |0,l=>.ret (nJ l)|n+1,l=>(aj.zu a (3*b+((2-n:Nat):Int))).bind fun x=>aj.A_ a b n (l++[x])
def aj.xq(a b:Int):Nat->aj Unit
 |0=>.ret ()|n+1=>(aj.yh a (3*b+((2-n:Nat):Int))).bind fun _=>aj.xq a b n
theorem aj.SH(a b:Int):aj.read a b=aj.A_ a b 3 []:=rfl
theorem aj.Gt(a b:Int):aj.lh a b=aj.xq a b 3:=rfl
namespace Pv
def qp(m:jf)(s:ja)(a:Int):Prop:=m.live=true->(0<=a/\a<(s.h.b.length:Int))/\(s.h.b.getD a.toNat []).length=48
theorem qp.CW{m:jf}{s s':ja}{a:Int}(h:qp m s a)(e:Eg s.h s'.h):qp m s' a:=fun b=>by rw[e.n,e.l];exact h b
theorem qp.ex{m:jf}{s:ja}{a:Int}(h:qp m s a)(d:m.live=true){c:Int}(hc:0<=c/\c<48):BD s.h.b a c=true:=by obtain⟨f,e⟩:=h d;unfold BD;rw[e];simp only[zg,decide_eq_true_eq];omega
def bQl:ji->Option (CS×Bj)
 |[.w (.agg [.lit (.int .i64 k),.lit (.int .i64 b),.lit (.int .i64 c),.lit (.string x)])]=>some (fun m s=>m.live=true->s.stop=false->bHu s.h ⟨k,b,c,x⟩,fun m s=>((dW m ⟨k,b,c,x⟩ s).2,.w (.agg (jR (dW m ⟨k,b,c,x⟩ s).1))))|_=>none
theorem PI(m:jf)(s:ja):b_ prog af 150 (dI 96 (yt m s bQl)):=
 fD (aB func150 ai rfl) (fun a C F h=>by
  unfold bQl at h;split at h;cases h;exact Uk _
  cases h)
def aSF(m:jf)(s:ja):List (Nat×Spec):=[(150,dI 96 (yt m s bQl))]
theorem aIF(m:jf)(s:ja):jq prog af (find (aSF m s)):=⟨aY (fun p a=>by
 obtain rfl:=List.mem_singleton.1 a
 exact PI m s),dB⟩
theorem bHc(b c:Int):z_ 111 [dw b,dw c] (fun m s=>qp m s b/\0<=c/\c<48) (fun m s=>((aK m (aj.zu b c) s).2,dw (aK m (aj.zu b c) s).1)):=by
 intro m s a d f;have M:=aIF m s;have g:m.live=true->s.stop=false->bHu s.h ⟨1,b,c,aC⟩:=fun e _=>⟨.inl rfl,rfl,d.1.ex e d.2⟩;refine dL func111 rfl rfl rfl (fun A i j=>?_);refine bU ?_ ?_;simp;exact⟨a,g,f⟩;refine iJ ?_
 all_goals rfl
theorem aZj(b c:Int):z_ 112 [dw b,dw c] (fun m s=>qp m s b/\0<=c/\c<48) (fun m s=>((aK m (aj.yh b c) s).2,.o7 [])):=by
 intro m s d f l;have M:=aIF m s;have e:m.live=true->s.stop=false->bHu s.h ⟨2,b,c,aC⟩:=fun k _=>⟨.inr rfl,rfl,f.1.ex k f.2⟩;refine dL func112 rfl rfl rfl (fun A j n=>?_);refine aS M n j (ay) ai ?_ ?_;simp;exact⟨d,e,l⟩;intro a w e;refine⟨.inl rfl,_,⟨?_,(fun o i=>by obtain rfl:=List.mem_singleton.1 i;exact⟨_,rfl,eQ rfl⟩),fun p g=>(by cases g)⟩,e⟩;refine aZ (ay) d_ ay ay ?_
 all_goals rfl
def bQj:ji->Option (CS×Bj)
 |[.w (.one (.lit (.int .i64 b))),.w (.one (.lit (.int .i64 c)))]=>some (fun m s=>qp m s b/\0<=c/\c<48,fun m s=>((aK m (aj.zu b c) s).2,dw (aK m (aj.zu b c) s).1))|_=>none
def bPx:ji->Option (CS×Bj)
 |[.w (.one (.lit (.int .i64 b))),.w (.one (.lit (.int .i64 c)))]=>some (fun m s=>qp m s b/\0<=c/\c<48,fun m s=>((aK m (aj.yh b c) s).2,.o7 []))|_=>none
theorem aZn(m:jf)(s:ja):b_ prog af 111 (dI 96 (yt m s bQj)):=
 fD (aB func111 ai rfl) (fun a C F h=>by
  unfold bQj at h;split at h;cases h;exact bHc _ _
  cases h)
theorem aUr(m:jf)(s:ja):b_ prog af 112 (dI 96 (yt m s bPx)):=
 fD (aB func112 ai rfl) (fun a C F h=>by
  unfold bPx at h;split at h;cases h;exact aZj _ _
  cases h)
def aIH(m:jf)(s:ja):List (Nat×Spec):=[(111,dI 96 (yt m s bQj)),(112,dI 96 (yt m s bPx))]
theorem U_(m:jf)(s:ja):jq prog af (find (aIH m s)):=⟨aY (fun p a=>by
 simp only[aIH,xn,aAe,or_false] at a;rcases a with rfl|rfl;exact aZn m s
 exact aUr m s),dB⟩
theorem wr3{b i:Nat}(hb:b<16)(c:i<3):IntKind.wrap .i64 (IntKind.wrap .i64 (3*(b:Int))+(i:Int))=3*(b:Int)+(i:Int):=by
 have a:IntKind.wrap .i64 (3*(b:Int))=3*(b:Int):=by rw[PP,aEU a_ a_];omega
 rw[a,PP,aEU a_ a_];omega
def bNj(m:jf)(s:ja)(a:Int)(b i:Nat):St:=⟨[(0,none,dm (.pt px 0 0)),(1,none,dw a),(2,none,dw (b:Int)),(6,none,dw (i:Int))],[(px,none,0,.box 96 (uj m s))]⟩
theorem aXr(m:jf)(a:Int)(b i:Nat)(c:i<3)(s:ja):aK m (aj.xq a b (3-i)) s=aK m (aj.xq a b (3-(i+1))) (aK m (aj.yh a (3*(b:Int)+(i:Int))) s).2:=by rw[show 3-i=(2-i)+1 from a_,aj.xq,dR,show 2-(2-i)=i from a_,show 3-(i+1)=2-i from a_]
theorem aWq(c:Int)(b:Nat)(hb:b<16):z_ 86 [dw c,dw (b:Int)] (fun m s=>qp m s c) (fun m s=>((aK m (aj.lh c b) s).2,.o7 [])):=by
 intro m n h x l;dsimp only at l ⊢;rw[aj.Gt] at l ⊢;obtain⟨R,z⟩:=jc (aK m (aj.xq c (b:Int) 3) n);rw[z] at l ⊢;refine dL func86 rfl rfl rfl (fun A E G=>?_);have M:=U_ m n;refine aI ?_;refine aN ?_;refine mZ (bNj m n c b 0) ?_;refine dX 3 (fun i t=>∃ s,t=bNj m s c b i/\v_ m s/\qp m s c/\aK m (aj.xq c b (3-i)) s=R) 0 ⟨_,rfl,h,x,z⟩ a_ (fun i t f F=>?_);obtain⟨s,rfl,j,B,f⟩:=f;refine aJ (fun r=>?_) (fun r=>?_);have d:i<3:=by have e:decide ((i:Int)<3)=true:=r;have:=of_decide_eq_true e;omega
 refine gQ ?_;refine aN ?_;rw[aXr m c b i d] at f;have k:(aK m (aj.yh c (3*(b:Int)+(i:Int))) s).2.i<=1000000:=ry (kH m _ _) (by rw[f];exact l);have g:=jW (aj.yh c (3*(b:Int)+(i:Int))) j k;have u:=B.CW (jD m (aj.yh c (3*(b:Int)+(i:Int))) s);have y:=wr3 hb d;have M:=U_ m s;refine aS M G E (ay) ai ?_ ?_;simp;rw[y];exact⟨j,⟨B,a_,a_⟩,k⟩;change kw _ _ _ _ _;refine fJ ?_;intro a w q;refine⟨i+1,_,a_,a_,⟨_,rfl,g,u,f⟩,(q.reset (kT:=[0,1,2,6]) (kO:=[px]) ay d_).same ?_ ?_⟩;exact .cr (.cr (.cr (.cons (by rw[bW i a_]) .nil)));refine .cons (.box ?_) .nil;show uj m (aK m (aj.yh c (IntKind.wrap .i64 (IntKind.wrap .i64 (3*(b:Int))+(i:Int)))) s).2=_;rw[y]
 ·have d:i=3:=by
   have e:decide ((i:Int)<3)=false:=r;have:=of_decide_eq_false e;omega
  subst d;have H:R=((),s):=f.symm;rw[H];refine dK ?_;change Wv _ _ _;intro a w q;refine⟨.inl rfl,_,⟨?_,(fun o D=>by obtain rfl:=List.mem_singleton.1 D;exact⟨_,rfl,eQ rfl⟩),fun p C=>(by cases C)⟩,q⟩;refine aZ (ay) d_ ay ay ?_
  all_goals rfl
def bNl(m:jf)(s:ja)(a:Int)(b n i:Nat):St:=⟨[(0,none,dm (.pt px 0 0)),(1,none,dw a),(2,none,dw (b:Int)),(7,none,dw (n:Int)),(8,none,dw (i:Int))],[(px,none,0,.box 96 (uj m s))]⟩
def Nh(m:jf)(q:Int×ja)(a:Int)(b n i:Nat):St:=⟨[(0,none,dm (.pt px 0 0)),(1,none,dw a),(2,none,dw (b:Int)),(7,none,dw (n:Int)),(8,none,dw (i:Int)),(9,none,dw q.1)],[(px,none,0,.box 96 (uj m q.2))]⟩
theorem aXe(m:jf)(a:Int)(b i:Nat)(c:i<3)(l:List Int)(s:ja):aK m (aj.A_ a b (3-i) l) s=aK m (aj.A_ a b (3-(i+1)) (l++[(aK m (aj.zu a (3*(b:Int)+(i:Int))) s).1])) (aK m (aj.zu a (3*(b:Int)+(i:Int))) s).2:=by rw[show 3-i=(2-i)+1 from a_,aj.A_,dR,show 2-(2-i)=i from a_,show 3-(i+1)=2-i from a_]
theorem bLb(c:Int)(b:Nat)(hb:b<16):z_ 85 [dw c,dw (b:Int)] (fun m s=>qp m s c) (fun m s=>((aK m (aj.read c b) s).2,t_ (aK m (aj.read c b) s).1)):=by
 intro m u n C r;dsimp only at r ⊢;rw[aj.SH] at r ⊢;obtain⟨R,D⟩:=jc (aK m (aj.A_ c (b:Int) 3 []) u);rw[D] at r ⊢;refine dL func85 rfl rfl rfl (fun A J K=>?_);have M:=U_ m u;refine iC ?_;refine jG ?_;refine aN ?_;refine mZ (bNl m u c b (nonzero []) 0) ?_;refine dX 3 (fun i t=>∃ s l,t=bNl m s c b (nonzero l) i/\l.length=i/\v_ m s/\qp m s c/\aK m (aj.A_ c b (3-i) l) s=R) 0 ⟨_,[],rfl,rfl,n,C,D⟩ a_ (fun i t h H=>?_);obtain⟨s,l,rfl,z,o,E,h⟩:=h;refine aJ (fun j=>?_) (fun j=>?_);have g:i<3:=by have d:decide ((i:Int)<3)=true:=j;have:=of_decide_eq_true d;omega
 refine gQ ?_;refine aN ?_;rw[aXe m c b i g] at h;have p:(aK m (aj.zu c (3*(b:Int)+(i:Int))) s).2.i<=1000000:=ry (kH m _ _) (by rw[h];exact r);have e:=jW (aj.zu c (3*(b:Int)+(i:Int))) o p;have k:=E.CW (jD m (aj.zu c (3*(b:Int)+(i:Int))) s);have x:=wr3 hb g;have M:=U_ m s;refine aH ?_ ?_;simp;rw[x];exact⟨o,⟨E,a_,a_⟩,p⟩;refine aW (Nh m (aK m (aj.zu c (3*(b:Int)+(i:Int))) s) c b (nonzero l) i) ?_ ?_ ?_;refine .cr (.cr (.cr (.cr (.cr (.cons ?_ .nil)))));show dw (aK m (aj.zu c (IntKind.wrap .i64 (IntKind.wrap .i64 (3*(b:Int))+(i:Int)))) s).1=_;rw[x];refine .cons (.box ?_) .nil;show uj m (aK m (aj.zu c (IntKind.wrap .i64 (IntKind.wrap .i64 (3*(b:Int))+(i:Int)))) s).2=_;rw[x];generalize aK m (aj.zu c (3*(b:Int)+(i:Int))) s=q at h e k ⊢;have f:=yB l q.1;have F:=zI l;refine eH (fun j=>?_) (fun j=>?_);have y:q.1≠0:=by have d:(q.1 != 0)=true:=j;simpa using d
 rw[ah y] at f;refine mY ?_;refine fJ ?_;intro a w B;refine⟨i+1,_,a_,a_,⟨_,_,rfl,by rw[gz,aBY,z],e,k,h⟩,(B.reset (kT:=[0,1,2,7,8]) (kO:=[px]) ay d_).same ?_ ?_⟩;exact .cr (.cr (.cr (.cons (by rw[bW (nonzero l) a_,f]) (.cons (by rw[bW i a_]) .nil))));exact r_;have y:q.1=0:=by have d:(q.1 != 0)=false:=j;simpa using d
 rw[au y] at f;refine fZ ?_;refine fJ ?_;intro a w B;refine⟨i+1,_,a_,a_,⟨_,_,rfl,by rw[gz,aBY,z],e,k,h⟩,(B.reset (kT:=[0,1,2,7,8]) (kO:=[px]) ay d_).same ?_ ?_⟩;exact .cr (.cr (.cr (.cons (by rw[f,Nat.add_zero]) (.cons (by rw[bW i a_]) .nil))));exact r_
 ·have g:i=3:=by
   have d:decide ((i:Int)<3)=false:=j;have:=of_decide_eq_false d;omega
  subst g;have I:R=(nJ l,s):=h.symm;rw[I];refine dK ?_;change kw _ _ _ _ _;have G:nJ l=decide ((nonzero l:Int) > 1):=by unfold nJ;rw[z];exact decide_eq_decide.2 a_
  rw[G];refine iJ ?_
  all_goals rfl
def bQp:ji->Option (CS×Bj)
 |[.w (.one (.lit (.int .i64 ng))),.w (.one (.lit (.int .i64 b)))]=>some (fun m s=>qp m s ng/\0<=b/\b<16,fun m s=>((aK m (aj.read ng b) s).2,t_ (aK m (aj.read ng b) s).1))|_=>none
def bPz:ji->Option (CS×Bj)
 |[.w (.one (.lit (.int .i64 ng))),.w (.one (.lit (.int .i64 b)))]=>some (fun m s=>qp m s ng/\0<=b/\b<16,fun m s=>((aK m (aj.lh ng b) s).2,.o7 []))|_=>none
theorem bEu(m:jf)(s:ja):b_ prog af 85 (dI 96 (yt m s bQp)):=
 fD (aB func85 ai rfl) (fun f C F h=>by
  unfold bQp at h;split at h;rename_i a b;cases h;intro m s c d e;obtain⟨k,rfl⟩:=aBZ d.2.1;exact bLb a k (by have:=d.2.2;omega) m s c d.1 e
  cases h)
theorem aRw(m:jf)(s:ja):b_ prog af 86 (dI 96 (yt m s bPz)):=
 fD (aB func86 ai rfl) (fun f C F h=>by
  unfold bPz at h;split at h;rename_i a b;cases h;intro m s c d e;obtain⟨k,rfl⟩:=aBZ d.2.1;exact aWq a k (by have:=d.2.2;omega) m s c d.1 e
  cases h)
def UB(m:jf)(s:ja):List (Nat×Spec):=[(85,dI 96 (yt m s bQp)),(86,dI 96 (yt m s bPz))]
theorem Np(m:jf)(s:ja):∀ p∈UB m s,b_ prog af p.1 p.2:=by intro p a;simp only[UB,xn,aAe,or_false] at a;rcases a with rfl|rfl;exact bEu m s;exact aRw m s
theorem U9(m:jf)(s:ja):jq prog af (find (UB m s)):=⟨aY (Np m s),dB⟩
theorem bKs(m:jf)(b c:Int){s:ja}(h:s.stop=true):aK m (aj.read b c) s=(false,s):=by have e:∀ a,dW m a s=(iW,s):=fun a=>wB m a h;unfold aj.read aj.zu;simp only[aj.bind,aK,e];rfl
theorem RS(m:jf)(a:Int)(f n:Nat){s:ja}(h:s.stop=true):aK m (aj.up a f n) s=(n,s):=by
 cases f with
 |zero=>rfl|succ f=>rw[aj.up,dR,bKs m a _ h];rfl
def U7(a:Int)(n:Nat):aj Nat:=(aj.down a n 0).bind fun _=>.ret n
def bBo(m:jf)(s:ja)(b:Int)(a n:Nat):St:=⟨[(0,none,dm (.pt px 0 0)),(1,none,dw b),(2,none,dw (a:Int)),(7,none,dw (n:Int))],[(px,none,0,.box 96 (uj m s))]⟩
def bNk(m:jf)(q:Bool×ja)(b:Int)(a n:Nat):St:=⟨[(0,none,dm (.pt px 0 0)),(1,none,dw b),(2,none,dw (a:Int)),(7,none,dw (n:Int)),(8,none,t_ q.1)],[(px,none,0,.box 96 (uj m q.2))]⟩
def aCn(m:jf)(s:ja)(a:Int)(n b:Nat):St:=⟨[(0,none,dm (.pt px 0 0)),(1,none,dw a),(7,none,dw (n:Int)),(9,none,dw (b:Int))],[(px,none,0,.box 96 (uj m s))]⟩
theorem bKd(c:Int)(d:Nat)(O:d<=16):z_ 56 [dw c,dw (d:Int)] (fun m s=>qp m s c) (fun m s=>((aK m (aj.f_ c d) s).2,dw ((aK m (aj.f_ c d) s).1:Nat))):=by
 intro m C y H z;dsimp only at z ⊢;obtain⟨R,F⟩:=jc (aK m (aj.f_ c d) C);rw[F] at z ⊢;change aK m ((aj.up c d 0).bind (U7 c)) C=R at F;refine dL func56 rfl rfl rfl (fun A J K=>?_);have M:=U9 m C;refine iC ?_;refine aQz ?_;refine mZ (bBo m C c d 0) ?_;refine dX d (fun n t=>∃ s,t=bBo m s c d n/\v_ m s/\qp m s c/\aK m ((aj.up c (d-n) n).bind (U7 c)) s=R) 0 ⟨_,rfl,y,H,F⟩ a_ (fun n t j L=>?_);obtain⟨s,rfl,f,o,j⟩:=j;refine aJ (fun p=>?_) (fun p=>?_)
 ·have e:(bif decide ((n:Int)<(d:Int)) then !s.stop else false)=true:=p;have N:n<d:=by by_cases h:n<d;exact h;rw[su a_] at e;cases e
  refine fZ ?_;refine aN ?_;rw[show d-n=(d-(n+1))+1 by omega,aj.up,aj.bind_assoc,dR] at j;have k:(aK m (aj.read c (n:Int)) s).2.i<=1000000:=ry (kH m _ _) (by rw[j];exact z);have g:=jW (aj.read c (n:Int)) f k;have l:=o.CW (jD m (aj.read c (n:Int)) s);have M:=U9 m s;refine aH ?_ ?_;simp;exact⟨f,⟨o,a_⟩,k⟩;refine mZ (bNk m (aK m (aj.read c (n:Int)) s) c d n) ?_;generalize aK m (aj.read c (n:Int)) s=q at j g l ⊢;obtain⟨one,I⟩:=q;dsimp only at g l j ⊢;clear f o;have f:=g;have o:=l;clear g l k;refine aJ (fun p=>?_) (fun p=>?_)
  ·have D:one=false:=by
    have u:(!one)=true:=p;simpa using u
   subst D;refine dK ?_;change kw _ _ _ _ _;have x:aK m (U7 c n) I=R:=j;clear j;generalize I=s at f o x ⊢;refine jG ?_;refine aN ?_;refine mZ (aCn m s c n 0) ?_;refine dX n (fun b t=>∃ s,t=aCn m s c n b/\v_ m s/\qp m s c/\aK m ((aj.down c (n-b) b).bind fun _=>.ret n) s=R) 0 ⟨_,rfl,f,o,x⟩ a_ (fun b t j P=>?_);clear f o x;obtain⟨s,rfl,f,o,j⟩:=j;refine aJ (fun p=>?_) (fun p=>?_);have e:(bif decide ((b:Int)<(n:Int)) then !s.stop else false)=true:=p;have E:b<n:=by by_cases h:b<n;exact h;rw[su a_] at e;cases e
   refine gQ ?_;refine aN ?_;rw[show n-b=(n-(b+1))+1 by omega,aj.down,aj.bind_assoc,dR] at j;have k:(aK m (aj.lh c (b:Int)) s).2.i<=1000000:=ry (kH m _ _) (by rw[j];exact z);have g:=jW (aj.lh c (b:Int)) f k;have l:=o.CW (jD m (aj.lh c (b:Int)) s);have M:=U9 m s;refine aS M K J (ay) ai ?_ ?_;simp;exact⟨f,⟨o,a_⟩,k⟩;change kw _ _ _ _ _;refine fJ ?_;intro a w B;refine⟨b+1,_,a_,a_,⟨_,rfl,g,l,j⟩,(B.reset (kT:=[0,1,7,9]) (kO:=[px]) ay d_).same ?_ ?_⟩;exact .cr (.cr (.cr (.cons (by rw[bW b a_]) .nil)));exact r_
   ·have e:(bif decide ((b:Int)<(n:Int)) then !s.stop else false)=false:=p
    have G:R=(n,s):=by
     rw[<-j,dR];by_cases h:b<n;rw[mi a_] at e;have r:s.stop=true:=by simpa using e
     rw[qW m _ s r];rfl;rw[show n-b=0 by omega];rfl
    rw[G];refine dK ?_;change kw _ _ _ _ _;refine iJ ?_
    all_goals rfl
  have D:one=true:=by have u:(!one)=false:=p;simpa using u
  subst D;refine fZ ?_;refine fJ ?_;intro a w B;refine⟨n+1,_,a_,a_,⟨_,rfl,f,o,j⟩,(B.reset (kT:=[0,1,2,7]) (kO:=[px]) ay d_).same ?_ ?_⟩;exact .cr (.cr (.cr (.cons (by rw[bW n a_]) .nil)));exact r_
 ·have e:(bif decide ((n:Int)<(d:Int)) then !s.stop else false)=false:=p
  have x:aK m (U7 c n) s=R:=by
   rw[<-j,dR m (aj.up c (d-n) n)];by_cases h:n<d;rw[mi a_] at e;have r:s.stop=true:=by simpa using e
   rw[RS m c _ n r];rw[show d-n=0 by omega];rfl
  refine dK ?_;change kw _ _ _ _ _;clear j;refine jG ?_;refine aN ?_;refine mZ (aCn m s c n 0) ?_;refine dX n (fun b t=>∃ s,t=aCn m s c n b/\v_ m s/\qp m s c/\aK m ((aj.down c (n-b) b).bind fun _=>.ret n) s=R) 0 ⟨_,rfl,f,o,x⟩ a_ (fun b t j P=>?_);clear f o x;obtain⟨s,rfl,f,o,j⟩:=j;refine aJ (fun p=>?_) (fun p=>?_);have e:(bif decide ((b:Int)<(n:Int)) then !s.stop else false)=true:=p;have E:b<n:=by by_cases h:b<n;exact h;rw[su a_] at e;cases e
  refine gQ ?_;refine aN ?_;rw[show n-b=(n-(b+1))+1 by omega,aj.down,aj.bind_assoc,dR] at j;have k:(aK m (aj.lh c (b:Int)) s).2.i<=1000000:=ry (kH m _ _) (by rw[j];exact z);have g:=jW (aj.lh c (b:Int)) f k;have l:=o.CW (jD m (aj.lh c (b:Int)) s);have M:=U9 m s;refine aS M K J (ay) ai ?_ ?_;simp;exact⟨f,⟨o,a_⟩,k⟩;change kw _ _ _ _ _;refine fJ ?_;intro a w B;refine⟨b+1,_,a_,a_,⟨_,rfl,g,l,j⟩,(B.reset (kT:=[0,1,7,9]) (kO:=[px]) ay d_).same ?_ ?_⟩;exact .cr (.cr (.cr (.cons (by rw[bW b a_]) .nil)));exact r_
  ·have e:(bif decide ((b:Int)<(n:Int)) then !s.stop else false)=false:=p
   have G:R=(n,s):=by
    rw[<-j,dR];by_cases h:b<n;rw[mi a_] at e;have r:s.stop=true:=by simpa using e
    rw[qW m _ s r];rfl;rw[show n-b=0 by omega];rfl
   rw[G];refine dK ?_;change kw _ _ _ _ _;refine iJ ?_
   all_goals rfl
theorem RL.aRY{C:Ctx}{c b:PC}{l l':g_}{xs:jl}(h:RL C (c::l) xs)(h1:∀ a,R C c a->R C b a)(h2:∀ a,RL C l a->RL C l' a):RL C (b::l') xs:=by
 cases h with
 |cons k1 k2=>exact .cons (h1 _ k1) (h2 _ k2)
theorem qj.aJQ{A:o_}{s:St}{a:Act}{w:ae}{b ty m:Nat}{g:og}{l l':g_}(h:qj A s a w)(hb:find s.o b=some (g,m,.box ty l))(hl:∀ C j,RL C l j->RL C l' j) :
  qj A { t:=s.t,o:=(b,g,m,.box ty l')::s.o } a w:=by
 obtain⟨i,h⟩:=h;refine⟨i,{ h with dom:=fun x c=>?_,lu:=fun x u f o c=>?_,tmps:=fun n g pv c e=>h.tmps n g pv c e,dev:=fun u f O gm l c e=>?_ }⟩;by_cases d:b=x;subst d;rw[aG] at c;cases c;rw[aF _ _ d] at c;exact h.dom x c;by_cases d:b=x;subst d;rw[aG] at c;cases c;obtain⟨p,r,q⟩:=h.lu b _ _ _ hb
 exact⟨p,r,fun e=>by
  obtain⟨k,D,B,z,y⟩:=q e
  exact⟨k,D,B,z,hl _ _ y⟩⟩
 rw[aF _ _ d] at c;exact h.lu x _ _ _ c;by_cases d:b=dx;subst d;rw[aG] at c;cases c;rw[aF _ _ d] at c;exact h.dev _ _ _ _ _ c e
theorem aHI{C:Ctx}{n:Nat}{f:Nat->g_}{xs:jl}(h:R C (.lit (.slice none 0 0)) xs):R C (.sl n 0 f) xs:=by cases h;exact .sl (vs:=[]) (Reads.nil _ _) (fun g b=>by cases b) (fun i a=>absurd a a_)
def Dq(m:jf)(a:Int):Nat->Nat->ja->(Nat×Int)×ja
 |0,n,s=>((n,0),s)|f+1,n,s=>if s.stop=true then ((n,0),s)
  else if (aK m (aj.read a n) (aK m (aj.lh a n) s).2).1=true then Dq m a f (n+1) (aK m (aj.read a n) (aK m (aj.lh a n) s).2).2
  else ((n,12),(aK m (aj.read a n) (aK m (aj.lh a n) s).2).2)
def BU(m:jf)(a:Int)(b c:Nat)(s:ja):(Nat×Int)×ja:=Dq m a (c-(aK m (aj.f_ a b) s).1) (aK m (aj.f_ a b) s).1 (aK m (aj.f_ a b) s).2
theorem aXj(m:jf)(a:Int):∀ f n s,(Dq m a f n s).2=(aK m (aj.rq a f n) s).2/\((Dq m a f n s).2.stop=false->(Dq m a f n s).1=(aK m (aj.rq a f n) s).1)
 |0,n,s=>⟨rfl,fun _=>rfl⟩|f+1,n,s=>by
  rw[Dq,aj.rq];by_cases b:s.stop=true;rw[au b];exact⟨(qW m _ s b).symm,fun h=>by rw[b] at h;cases h⟩;rw[ah b,dR,dR];by_cases c:(aK m (aj.read a n) (aK m (aj.lh a n) s).2).1=true;rw[au c,c,au rfl];exact aXj m a f (n+1) _;rw[ah c];have d:(aK m (aj.read a n) (aK m (aj.lh a n) s).2).1=false:=by simpa using c
  rw[d,ah aAQ];exact⟨rfl,fun _=>rfl⟩
theorem bLe(m:jf)(b:Int)(c a:Nat)(s:ja):(BU m b c a s).2=(aK m (aj.mr b c a) s).2/\((BU m b c a s).2.stop=false->(BU m b c a s).1=(aK m (aj.mr b c a) s).1):=by unfold BU aj.mr;rw[dR];exact aXj m b _ _ _
theorem bLd(m:jf)(a:Int)(f n:Nat)(s:ja):s.i<=(Dq m a f n s).2.i:=by rw[(aXj m a f n s).1];exact kH m _ _
theorem aNs(m:jf)(b:Int)(a:Nat)(s:ja):(aK m (aj.f_ b a) s).1<=a:=aIk (aAv b a) m s
def bCp:ji->Option (CS×Bj)
 |[.w (.one (.lit (.int .i64 ng))),.w (.one (.lit (.int .i64 bits)))]=>some (fun m s=>qp m s ng/\0<=bits/\bits<=16,fun m s=>((aK m (aj.f_ ng bits.toNat) s).2,dw ((aK m (aj.f_ ng bits.toNat) s).1:Nat)))|_=>none
theorem aLb(m:jf)(s:ja):b_ prog af 56 (dI 96 (yt m s bCp)):=
 fD (aB func56 ai rfl) (fun f C F h=>by
  unfold bCp at h;split at h;rename_i a b;cases h;intro m s c d e;obtain⟨k,rfl⟩:=aBZ d.2.1;exact bKd a k (by have:=d.2.2;omega) m s c d.1 e
  cases h)
def aIG(m:jf)(s:ja):List (Nat×Spec):=(56,dI 96 (yt m s bCp))::UB m s
theorem YW(m:jf)(s:ja):∀ p∈aIG m s,b_ prog af p.1 p.2:=by intro p a;rcases List.mem_cons.1 a with rfl|a;exact aLb m s;exact Np m s p a
theorem YT(m:jf)(s:ja):jq prog af (find (aIG m s)):=⟨aY (YW m s),dB⟩
def aYi(m:jf)(s:ja)(b:Int)(a n:Nat):St:=⟨[(0,none,dm (.pt px 0 0)),(1,none,dw b),(3,none,dw (a:Int)),(10,none,dw (n:Int))],[(px,none,0,.box 96 (uj m s))]⟩
def Nc(m:jf)(q:Bool×ja)(b:Int)(a n:Nat):St:=⟨[(0,none,dm (.pt px 0 0)),(1,none,dw b),(3,none,dw (a:Int)),(10,none,dw (n:Int)),(11,none,t_ q.1)],[(px,none,0,.box 96 (uj m q.2))]⟩
def aHH(p:Nat×Int):PV:=.o7 [.one (.lit (.int .i64 (p.1:Int))),.one (.lit (.int .i64 p.2))]
theorem aWp(c:Int)(d b:Nat)(U:d<=16)(P:b<=16):z_ 89 [dw c,dw (d:Int),dw (b:Int)] (fun m s=>qp m s c) (fun m s=>((BU m c d b s).2,aHH (BU m c d b s).1)):=by
 intro m o p J F;dsimp only at F ⊢;obtain⟨R,G⟩:=jc (BU m c d b o);rw[G] at F ⊢;have I:=aNs m c d o;unfold BU at G;have u:(aK m (aj.f_ c d) o).2.i<=1000000:=ry (bLd m c _ _ _) (by rw[G];exact F);have k:=jW (aj.f_ c d) p u;have D:=J.CW (jD m (aj.f_ c d) o);refine dL func89 rfl rfl rfl (fun A Y Z=>?_);have M:=YT m o;refine bU ?_ ?_;simp;exact⟨p,⟨J,a_⟩,u⟩;refine aQz ?_;refine mZ (aYi m (aK m (aj.f_ c d) o).2 c b (aK m (aj.f_ c d) o).1) ?_;generalize aK m (aj.f_ c d) o=O at G I k D ⊢;obtain⟨L,X⟩:=O;dsimp only at G I k D ⊢;refine dX (max L b) (fun n t=>∃ s,t=aYi m s c b n/\v_ m s/\qp m s c/\Dq m c (b-n) n s=R) L ⟨_,rfl,k,D,G⟩ a_ (fun n t f Q=>?_);obtain⟨s,rfl,H,N,f⟩:=f;refine aJ (fun z=>?_) (fun z=>?_)
 ·have e:(bif decide ((n:Int)<(b:Int)) then !s.stop else false)=true:=z;have S:n<b:=by by_cases h:n<b;exact h;rw[su a_] at e;cases e
  rw[mi a_] at e;have x:s.stop=false:=by simpa using e
  refine fZ ?_;refine aN ?_;rw[show b-n=(b-(n+1))+1 by omega,Dq,ah (by rw[x];exact aAQ)] at f;have l:(aK m (aj.read c (n:Int)) (aK m (aj.lh c (n:Int)) s).2).2.i<=1000000:=by by_cases E:(aK m (aj.read c (n:Int)) (aK m (aj.lh c (n:Int)) s).2).1=true;rw[au E] at f;exact ry (bLd m c _ _ _) (by rw[f];exact F);rw[ah E] at f;rw[<-f] at F;exact F
  have r:(aK m (aj.lh c (n:Int)) s).2.i<=1000000:=ry (kH m _ _) l;have j:=jW (aj.lh c (n:Int)) H r;have C:=N.CW (jD m (aj.lh c (n:Int)) s);have M:=YT m s;refine aH ?_ ?_;simp;exact⟨H,⟨N,a_⟩,r⟩;refine mZ (aYi m (aK m (aj.lh c (n:Int)) s).2 c b n) ?_;generalize (aK m (aj.lh c (n:Int)) s).2=K at f l j C ⊢;have g:=jW (aj.read c (n:Int)) j l;have B:=C.CW (jD m (aj.read c (n:Int)) K);have M:=YT m K;refine aH ?_ ?_;simp;exact⟨j,⟨C,a_⟩,l⟩;refine mZ (Nc m (aK m (aj.read c (n:Int)) K) c b n) ?_;generalize aK m (aj.read c (n:Int)) K=q at f g B ⊢;obtain⟨one,W⟩:=q;dsimp only at g B f ⊢;refine aJ (fun z=>?_) (fun z=>?_)
  ·have E:one=false:=by
    have y:(!one)=true:=z;simpa using y
   subst E;rw[ah aAQ] at f;rw[<-f];refine iJ ?_
   all_goals rfl
  have E:one=true:=by have y:(!one)=false:=z;simpa using y
  subst E;rw[au rfl] at f;refine fZ ?_;refine fJ ?_;intro a w T;refine⟨n+1,_,a_,a_,⟨_,rfl,g,B,f⟩,(T.reset (kT:=[0,1,3,10]) (kO:=[px]) ay d_).same ?_ ?_⟩;exact .cr (.cr (.cr (.cons (by rw[bW n a_]) .nil)));exact r_
 ·have e:(bif decide ((n:Int)<(b:Int)) then !s.stop else false)=false:=z
  have V:R=((n,0),s):=by
   rw[<-f];by_cases h:n<b;rw[mi a_] at e;have x:s.stop=true:=by simpa using e
   rw[show b-n=(b-(n+1))+1 by omega,Dq,au x];rw[show b-n=0 by omega];rfl
  rw[V];refine dK ?_;change kw _ _ _ _ _;refine iJ ?_
  all_goals rfl
def bPv:ji->Option (CS×Bj)
 |[.w (.one (.lit (.int .i64 ng))),.w (.one (.lit (.int .i64 bits))),.w (.one (.lit (.int .i64 target)))]=>some (fun m s=>qp m s ng/\(0<=bits/\bits<=16)/\0<=target/\target<=16,fun m s=>((BU m ng bits.toNat target.toNat s).2,aHH (BU m ng bits.toNat target.toNat s).1))|_=>none
theorem aRv(m:jf)(s:ja):b_ prog af 89 (dI 96 (yt m s bPv)):=
 fD (aB func89 ai rfl) (fun f C F h=>by
  unfold bPv at h;split at h;rename_i c b t;cases h;intro m s d a e;obtain⟨k,rfl⟩:=aBZ a.2.1.1;obtain⟨j,rfl⟩:=aBZ a.2.2.1;exact aWp c k j (by have:=a.2.1.2;omega) (by have:=a.2.2.2;omega) m s d a.1 e
  cases h)
theorem KF(f:Fl)(s:Int)(h2:0<=s/\s<f.length):fQ prog af 195 true [flV f,dw s] (.o7 [.one (.lit (.string (strOf (sec f s)))),.one (.lit (.int .i64 0))]):=by
 have M:=Fa (I:=af);refine bH func195 rfl rfl bJ (fun A d c g=>?_);refine aI ?_;refine aJ (fun b=>?_) (fun b=>?_);exfalso;have a:(bif decide (s<0) then true else decide (s>=(f.length:Int)))=true:=b;rw[su a_,su a_] at a;cases a;refine jK ?_ ?_;simp;exact h2;have e:strOf (sec f s)=f.getD s.toNat aC:=by unfold sec;rw[au h2,kG]
 rw[e];exact kE
def KG:ji->Option (Prop×PV)
 |[v,.w (.one (.lit (.int .i64 s)))]=>(match DF v with
  |some (p,f)=>some (p/\0<=s/\s<f.length,.o7 [.one (.lit (.string (strOf (sec f s)))),.one (.lit (.int .i64 0))])|none=>none)
 |_=>none
theorem bKk:b_ prog af 195 (aV true KG):=by
 refine aU (aB func195 ai rfl) (fun i p r a c=>?_);unfold KG at a;split at a;rename_i v s;cases b:DF v with
 |none=>rw[b] at a;cases a| some q=>
  obtain⟨k,f⟩:=q;rw[b] at a;cases a
  exact (KF f s c.2).args fun C d e=>by
   match d,e with
   |[j,x],⟨h,g,_⟩=>exact⟨aIv b c.1 h,g,trivial⟩
 cases a
def Qu(cut:Int)(b old:jy):jy:=strOf (Ai cut b.data.toList old.data.toList)
theorem RJ{cut:Int}{b old:jy}(h:0<=cut/\cut<256)(hb:b.size=256)(_:cut<(old.size:Int)):b.extract (aBF 0) cut.toNat++old.extract cut.toNat ((old.size:Int)).toNat=Qu cut b old:=by
 have c:b.data.toList.length=256:=by rw[nz];exact hb
 have a:old.data.toList.length=old.size:=nz;unfold Qu Ai;rw[ah a_,ext_list,ext_list,bIy,VM,WF (i:=old.size) a_];rfl
theorem RI{cut:Int}{b old:jy}(h:0<=cut/\cut<256)(hb:b.size=256)(h2:(old.size:Int)<=cut):b.extract (aBF 0) cut.toNat=Qu cut b old:=by
 have c:b.data.toList.length=256:=by rw[nz];exact hb
 have a:old.data.toList.length=old.size:=nz;unfold Qu Ai;rw[ah a_,ext_list,List.drop_of_length_le (l:=old.data.toList) a_,AC];rfl
theorem RH{cut:Int}{b old:jy}(h:¬(0<=cut/\cut<256))(hb:b.size=256):b=Qu cut b old:=by
 have a:b.data.toList.length=256:=by rw[nz];exact hb
 unfold Qu Ai;rw[au a_,kG]
theorem KD(f:Fl)(s:Int)(b:jy)(cut:Int)(h2:0<=s/\s<f.length)(hb:b.size=256)(D:∀ x∈f,x.size<=1000000)(y:f.length<=1000000):fQ prog af 196 false [flV f,dw s,n_ b,dw cut] (.o7 [.agg [.sl 1 (gU f s b cut).length (vz (gU f s b cut))],.one (.lit (.int .i64 0))]):=by
 have M:=Fa (I:=af);have t:prog.types[9].bytes=16:=ai;have n:prog.types[9].size=1:=ai;refine bH func196 rfl rfl bJ (fun A J C E=>?_);refine aI ?_;refine mP ?_;refine aI ?_;refine cO (fun d=>?_) (fun d=>?_);exfalso;have k:(bif decide (s<0) then true else decide (s>=(f.length:Int)))=true:=d;rw[decide_eq_false a_,decide_eq_false a_] at k;cases k;refine fZ ?_;refine mP ?_;refine aI ?_;refine cO (fun d=>?_) (fun d=>?_);exfalso;simp at d;omega;refine fZ ?_;refine aH ?_ ?_;simp;exact h2;refine aI ?_;have B:f.getD s.toNat aC=strOf (sec f s):=by unfold sec;rw[if_pos h2,kG]
 have m:(f.getD s.toNat aC).size<=1000000:=by rw[zG,zH a_];exact D _ (aBI _)
 have H:gU f s b cut=f.set s.toNat (Qu cut b (f.getD s.toNat aC)):=by unfold gU Qu sec;rw[if_pos ⟨h2.1,h2.2,hb⟩,if_pos h2]
 rw[H];generalize f.getD s.toNat aC=old at m ⊢;refine sK (fun u=>u=⟨[(1,none,dw s),(4,none,dm (.pt 0 0 0)),(8,none,dm (.pt 1 0 0)),(11,none,n_ (Qu cut b old))],[(0,none,0,.box 63 [.sl 1 f.length (vz f)]),(1,none,0,.box 63 [.lit (.slice none 0 0)])]⟩) ?_ (fun u o=>?_);refine aI ?_;refine cO (fun d=>?_) (fun d=>?_);have c:(bif decide (cut>=0) then decide (cut<256) else false)=true:=d;have j:0<=cut/\cut<256:=by by_cases h:0<=cut;rw[decide_eq_true (show cut>=0 from h)] at c;exact⟨h,of_decide_eq_true c⟩;rw[decide_eq_false (show ¬cut>=0 from h)] at c;cases c
 refine aH ?_ ?_;simp;omega;refine aI ?_;refine cO (fun d=>?_) (fun d=>?_);have r:cut<(old.size:Int):=of_decide_eq_true d;refine aS M E C (ay) ai ?_ ?_;simp;omega;exact fun a w g=>⟨_,rfl,(g.reset (kT:=[1,4,8,11]) (kO:=[0,1]) ay d_).same (.cons rfl (.cons rfl (.cons rfl (.cons (congrArg n_ (RJ j hb r)) .nil)))) (.cons (.box rfl) (.cons (.box rfl) .nil))⟩;have q:(old.size:Int)<=cut:=by have:=of_decide_eq_false d;omega
 refine fH ?_;exact fun a w g=>⟨_,rfl,(g.reset (kT:=[1,4,8,11]) (kO:=[0,1]) ay d_).same (.cons rfl (.cons rfl (.cons rfl (.cons (congrArg n_ (RI j hb q)) .nil)))) (.cons (.box rfl) (.cons (.box rfl) .nil))⟩;have p:¬(0<=cut/\cut<256):=by have c:(bif decide (cut>=0) then decide (cut<256) else false)=false:=d;rintro⟨G,F⟩;rw[decide_eq_true (show cut>=0 from G),decide_eq_true F] at c;cases c
 refine fH ?_;exact fun a w g=>⟨_,rfl,(g.reset (kT:=[1,4,8,11]) (kO:=[0,1]) ay d_).same (.cons rfl (.cons rfl (.cons rfl (.cons (congrArg n_ (RH p hb)) .nil)))) (.cons (.box rfl) (.cons (.box rfl) .nil))⟩;obtain rfl:=o;generalize Qu cut b old=X;refine aH ?_ ?_;simp;rw[t];omega;refine bK (s':=⟨[(1,none,dw s),(8,none,dm (.pt 1 0 0)),(11,none,n_ X),(12,none,dm (.ow 11000 0 1 0 f.length))],[(11000,none,0,.arr 9 1 f.length (vz f)),(1,none,0,.box 63 [.lit (.slice none 0 0)])]⟩) (fun a w g=>(g.reset (kT:=[1,8,11,12]) (kO:=[11000,1]) ay ?_).same ?_ ?_) ?_;refine⟨fun i _=>?_,trivial⟩;unfold ru;split
 omega;rfl;refine .cons rfl (.cons rfl (.cons rfl (.cons ?_ .nil)));change dm (.ow 11000 0 prog.types[9].size 0 (0+f.length))=_;rw[n,mf];refine .cons (.arr ?_ (fun i z=>?_)) (.cons (.box rfl) .nil);exact mf _;unfold ru;rw[if_neg a_];rfl;refine aH ?_ ?_;simp
 exact⟨h2,a_⟩;refine aI ?_;rw[aAA];refine bZ (fun a w g=>⟨.inr rfl,_,?_,g⟩);refine qL (ay) d_ ay ?_;refine .o7 (.cons (.agg (.cons (.row rfl trivial a_ (fun i z=>?_) (fun i z=>rfl)) .nil)) (.cons (.one (.cold rfl)) .nil));rw[mf];split;rename_i e;obtain rfl:i=s.toNat:=a_;unfold vz;rw[zG (l:=f.set _ _),aDZ a_];rfl;rename_i e;unfold vz;rw[zG (l:=f.set _ _),aEb a_,zG]
def KE:ji->Option (Prop×PV)
 |[v,.w (.one (.lit (.int .i64 s))),.w (.one (.lit (.string b))),.w (.one (.lit (.int .i64 cut)))]=>(match DF v with
  |some (p,f)=>some (p/\(0<=s/\s<f.length)/\b.size=256/\(∀ x∈f,x.size<=1000000)/\f.length<=1000000,.o7 [.agg (UX (gU f s b cut)),.one (.lit (.int .i64 0))])|none=>none)
 |_=>none
theorem bKj:b_ prog af 196 (aV false KE):=by
 refine aU (aB func196 ai rfl) (fun m p r a c=>?_);unfold KE at a;split at a;rename_i v s b e;cases d:DF v with
 |none=>rw[d] at a;cases a| some q=>
  obtain⟨o,f⟩:=q;rw[d] at a;cases a
  exact (KD f s b e c.2.1 c.2.2.1 c.2.2.2.1 c.2.2.2.2).args fun C g h=>by
   match g,h with
   |[n,x,y,z],⟨l,k,j,i,_⟩=>exact⟨aIv d c.1 l,k,j,i,trivial⟩
 cases a
def bNp:List (Nat×Spec):=[(195,aV true KG),(196,aV false KE)]
theorem Nl:∀ p∈bNp,b_ prog af p.1 p.2:=by intro p a;simp only[bNp,xn,aAe,or_false] at a;rcases a with rfl|rfl;exact bKk;exact bKj
theorem Nj:jq prog af (find bNp):=⟨aY Nl,dB⟩
theorem bNb(m:jf)(i:Nat)(d:Acc)(j:Bool)(h:jr)(b c:Int)(_:jy)(z:m.live=true)(p:v_ m ⟨i,d,false,j,h⟩)(E:i+1<=1000000)(u:0<=c/\c<h.f.length)(r:b=0):y_ prog af 180 false [⟨px,96,uj m ⟨i,d,false,j,h⟩,uj m (dW m ⟨3,b,c,aC⟩ ⟨i,d,false,j,h⟩).2⟩] (fun _=>none) none (fun _=>False) [.w (.one (.pt px 0 0)),.w (.agg (oP ⟨3,b,c,aC⟩))] (.w (.agg (jR (dW m ⟨3,b,c,aC⟩ ⟨i,d,false,j,h⟩).1))):=by
 have M:=Nj;obtain⟨t,o⟩:=jc (eG m.F i);have B:=p.lf;have n:IntKind.wrap .i64 ((i:Int)+1)=((i+1:Nat):Int):=bW i a_
 have D:dW m ⟨3,b,c,aC⟩ ⟨i,d,false,j,h⟩=if t.cut=true then (iW,⟨i+1,d,true,true,h⟩) else (⟨0,strOf (sec h.f c)⟩,⟨i+1,d,false,j,h⟩):=by
  unfold dW fM;rw[ah (aAQ),au z];dsimp only;rw[o,ah (show ¬((3:Int)=1) by decide),ah (show ¬((3:Int)=2) by decide),au (show (3:Int)=3 from rfl),au (show aC=aC/\b=0 from⟨rfl,r⟩),au u]
  all_goals (cases t.cut<;>rfl)
 rw[D];refine dL func180 rfl rfl rfl (fun A y C=>?_);refine iC ?_;refine sN (aOs m ⟨i,d,false,j,h⟩ 3 b c aC t) ?_ ?_;refine eH (fun e=>?_) (fun e=>?_);have l:i<m.F.length:=by have k:decide ((i:Int)<(m.F.length:Int))=true:=e;have:=of_decide_eq_true k;omega
 have s:m.F.getD ((i:Int)).toNat yw=t:=o;refine aS M C y (ay) ai ?_ ?_;simp;exact l;refine fun a w q=>⟨rfl,(q.reset (kT:=[0,3,4,5]) (kO:=[px,0,1,1001]) ay d_).same ?_ ?_⟩;exact iq;exact .cb (.cb (.cb (.cons (.box (congrArg nT s)) .nil)));have l:¬i<m.F.length:=by have k:decide ((i:Int)<(m.F.length:Int))=false:=e;have:=of_decide_eq_false k;omega
 have s:t=yw:=by rw[<-o];unfold eG;rw[zG,PR a_];rfl
 refine fH (fun a w q=>⟨rfl,(q.reset (kT:=[0,3,4,5]) (kO:=[px,0,1,1001]) ay d_).same ?_ ?_⟩);exact iq;exact .cb (.cb (.cb (.cons (.box (by rw[s];rfl)) .nil)));refine iC ?_;refine jG ?_;refine aW (yF m ⟨i+1,d,false,j,h⟩ 3 b c aC t) ?_ ?_ ?_;exact iq;refine .cons (.box ?_) (.cb (.cb (.cons (.box ?_) ((dU _)))));unfold uj;dsimp only;rw[<-n];rfl;refine aN ?_;refine eH (fun e=>?_) (fun e=>?_);cases e;refine eH (fun e=>?_) (fun e=>?_);cases e;refine eH (fun e=>?_) (fun e=>?_)
 ·refine aH ?_ ?_;simp;exact u;refine mY ?_;refine aW (aCm m ⟨i+1,d,false,j,h⟩ ⟨0,strOf (sec h.f c)⟩ t) ?_ ?_ ?_;exact iq;refine .cons (.box ?_) (.cb (.cb (.cons (.box ?_) .nil)));rfl
  (rw[show sec h.f c=sec (kC h.f.length (vz h.f)) c by rw[bV]];rfl)
  refine aJ (fun e=>?_) (fun e=>?_)
  ·have g:t.cut=true:=e;rw[au g];refine iC ?_;refine iJ ?_
   all_goals rfl
  ·have g:t.cut=false:=e;rw[ah (by rw[g];exact aAQ)];refine dS ?_;refine gZ ?_
   all_goals rfl
 cases e
theorem bNa(m:jf)(i:Nat)(g:Acc)(j:Bool)(h:jr)(b c:Int)(x:jy)(D:m.live=true)(k:v_ m ⟨i,g,false,j,h⟩)(I:i+1<=1000000)(q:0<=c/\c<h.f.length)(z:b=0)(l:x.size=256):y_ prog af 180 false [⟨px,96,uj m ⟨i,g,false,j,h⟩,uj m (dW m ⟨4,b,c,x⟩ ⟨i,g,false,j,h⟩).2⟩] (fun _=>none) none (fun _=>False) [.w (.one (.pt px 0 0)),.w (.agg (oP ⟨4,b,c,x⟩))] (.w (.agg (jR (dW m ⟨4,b,c,x⟩ ⟨i,g,false,j,h⟩).1))):=by
 have M:=Nj;obtain⟨t,u⟩:=jc (eG m.F i);have E:=k.lf;have s:IntKind.wrap .i64 ((i:Int)+1)=((i+1:Nat):Int):=bW i a_
 have H:dW m ⟨4,b,c,x⟩ ⟨i,g,false,j,h⟩=if t.cut=true then (iW,⟨i+1,g,true,true,⟨h.b,gU h.f c x (Ag t),h.r⟩⟩) else (iW,⟨i+1,g,false,j,⟨h.b,gU h.f c x (Ag t),h.r⟩⟩):=by
  unfold dW fM;rw[ah (aAQ),au D];dsimp only;rw[u,ah (show ¬((4:Int)=1) by decide),ah (show ¬((4:Int)=2) by decide),ah (show ¬((4:Int)=3) by decide),au (show (4:Int)=4 from rfl),au z,au q,au l]
  all_goals (cases t.cut<;>rfl)
 rw[H];refine dL func180 rfl rfl rfl (fun A C G=>?_);refine iC ?_;refine sN (aOs m ⟨i,g,false,j,h⟩ 4 b c x t) ?_ ?_;refine eH (fun e=>?_) (fun e=>?_);have p:i<m.F.length:=by have n:decide ((i:Int)<(m.F.length:Int))=true:=e;have:=of_decide_eq_true n;omega
 have B:m.F.getD ((i:Int)).toNat yw=t:=u;refine aS M G C (ay) ai ?_ ?_;simp;exact p;refine fun a w y=>⟨rfl,(y.reset (kT:=[0,3,4,5]) (kO:=[px,0,1,1001]) ay d_).same ?_ ?_⟩;exact iq;exact .cb (.cb (.cb (.cons (.box (congrArg nT B)) .nil)));have p:¬i<m.F.length:=by have n:decide ((i:Int)<(m.F.length:Int))=false:=e;have:=of_decide_eq_false n;omega
 have B:t=yw:=by rw[<-u];unfold eG;rw[zG,PR a_];rfl
 refine fH (fun a w y=>⟨rfl,(y.reset (kT:=[0,3,4,5]) (kO:=[px,0,1,1001]) ay d_).same ?_ ?_⟩);exact iq;exact .cb (.cb (.cb (.cons (.box (by rw[B];rfl)) .nil)));refine iC ?_;refine jG ?_;refine aW (yF m ⟨i+1,g,false,j,h⟩ 4 b c x t) ?_ ?_ ?_;exact iq;refine .cons (.box ?_) (.cb (.cb (.cons (.box ?_) ((dU _)))));unfold uj;dsimp only;rw[<-s];rfl;refine aN ?_;refine eH (fun e=>?_) (fun e=>?_);cases e;refine eH (fun e=>?_) (fun e=>?_);cases e;refine eH (fun e=>?_) (fun e=>?_);cases e;refine eH (fun e=>?_) (fun e=>?_)
 ·refine aI ?_;refine aJ (fun e=>?_) (fun e=>?_)
  ·have d:t.cut=true:=e;refine mY ?_;refine aW (⟨(yF m ⟨i+1,g,false,j,h⟩ 4 b c x t).t++[(13,none,dw (Ag t))],(yF m ⟨i+1,g,false,j,h⟩ 4 b c x t).o⟩) ?_ ?_ ?_;exact .cr (.cr (.cr (.cr (.cr (.cr (.cons (congrArg dw (by unfold Ag;rw[d];rfl)) .nil))))));exact r_;refine aH ?_ ?_;simp;exact⟨q,l,k.hw.sz,k.hw.nf⟩;refine eH (fun e=>?_) (fun e=>?_)
   ·refine mY ?_;refine aW (aCm m ⟨i+1,g,false,j,⟨h.b,gU h.f c x (Ag t),h.r⟩⟩ iW t) ?_ ?_ ?_;exact iq;refine .cons (.box ?_) (.cb (.cb (.cons (.box ?_) .nil)))
    (rw[show gU h.f c x (Ag t)=gU (kC h.f.length (vz h.f)) c x (Ag t) by rw[bV]];rfl)
    rfl;refine aJ (fun e=>?_) (fun e=>?_)
    ·have d:t.cut=true:=e;rw[au d];refine iC ?_;refine iJ ?_
     all_goals rfl
    ·have d:t.cut=false:=e;rw[ah (by rw[d];exact aAQ)];refine dS ?_;refine gZ ?_
     all_goals rfl
   cases e
  ·have d:t.cut=false:=e;refine fZ ?_;refine aW (⟨(yF m ⟨i+1,g,false,j,h⟩ 4 b c x t).t++[(13,none,dw (Ag t))],(yF m ⟨i+1,g,false,j,h⟩ 4 b c x t).o⟩) ?_ ?_ ?_;exact .cr (.cr (.cr (.cr (.cr (.cr (.cons (congrArg dw (by unfold Ag;rw[d];rfl)) .nil))))));exact r_;refine aH ?_ ?_;simp;exact⟨q,l,k.hw.sz,k.hw.nf⟩;refine eH (fun e=>?_) (fun e=>?_)
   ·refine mY ?_;refine aW (aCm m ⟨i+1,g,false,j,⟨h.b,gU h.f c x (Ag t),h.r⟩⟩ iW t) ?_ ?_ ?_;exact iq;refine .cons (.box ?_) (.cb (.cb (.cons (.box ?_) .nil)))
    (rw[show gU h.f c x (Ag t)=gU (kC h.f.length (vz h.f)) c x (Ag t) by rw[bV]];rfl)
    rfl;refine aJ (fun e=>?_) (fun e=>?_)
    ·have d:t.cut=true:=e;rw[au d];refine iC ?_;refine iJ ?_
     all_goals rfl
    ·have d:t.cut=false:=e;rw[ah (by rw[d];exact aAQ)];refine dS ?_;refine gZ ?_
     all_goals rfl
   cases e
 cases e
def Dw(rec seq:Int)(c:di)(k:Nat):di:=tu seq c++(mW 5 [dn rec,tu seq c]).take k
theorem aJc(rec seq:Int)(c:di){k:Nat}(a:k<=16):(Dw rec seq c k).length=(tu seq c).length+k:=by unfold Dw;rw[gz,ww,jP];omega
def aHB(rec seq:Int)(c:di)(k:Nat):St:=⟨[(7,none,dm (.ow 1001 0 1 0 ((tu seq c).length+k))),(8,none,dm (.pt 2005 0 0)),(9,none,dw k)],[(2005,none,0,.box 23 [.bs 16 (mW 5 [dn rec,tu seq c])]),(1001,none,0,.arr 5 1 ((tu seq c).length+k) (oz (Dw rec seq c k)))]⟩
theorem aXa(rec seq:Int)(c:jy)(h1:gy rec)(h2:gy seq)(hc:c.size<=3000):VP prog af 117 [dw rec,dw seq,n_ c] 5 1 (encS rec seq c.data.toList).length (oz (encS rec seq c.data.toList)):=by
 have M:=aSC;have m:prog.types[5].bytes=1:=ai;have l:prog.types[5].size=1:=ai;have y:=aO seq;have u:=aO rec;have s:=fG c.data.toList;have E:c.data.toList.length=c.size:=nz;refine aCv func117 rfl rfl bJ (fun A I z G=>?_);refine bU ?_ ?_;simp;refine⟨h2,a_,?_⟩;rw[m];omega;refine bK (s':=⟨[(0,none,dw rec),(7,none,dm (.ow 1001 0 1 0 (tu seq c.data.toList).length))],[(1001,none,0,.arr 5 1 (tu seq c.data.toList).length (oz (tu seq c.data.toList)))]⟩) (fun a w b=>(b.reset (kT:=[0,7]) (kO:=[1001]) ay ?_).same ?_ ?_) ?_;simp only[All,and_true,AC];exact fun i _=>uX (fun _=>rfl) (fun _=>rfl) i;refine .cr (.cons ?_ .nil);rw[l,tu,gz];refine .cons (.arr ?_ (fun i o=>?_)) .nil;rw[tu,gz];simp only[mf];exact congrFun (wL (dn seq) (bI c.data.toList)) i;have C:(tu seq c.data.toList).length<=4000:=by unfold tu;rw[gz];omega
 have D:=jP 5 [dn rec,tu seq c.data.toList];refine aH ?_ ?_;simp;exact⟨h1,a_,a_⟩;refine jG ?_;refine bK (s':=aHB rec seq c.data.toList 0) (fun a w b=>(b.reset (kT:=[7,8,9]) (kO:=[2005,1001]) ay (by simp;exact fun i _ x p=>qU _ i x p)).same ?_ ?_) ?_;exact iq;refine .cons (.box ?_) (.cons (.arr rfl (fun i o=>?_)) .nil);simp only[eP];rfl;unfold Dw;rw[List.take_zero,AC];refine aN ?_;refine dX 16 (fun k t=>t=aHB rec seq c.data.toList k) 0 rfl a_ (fun k t F H=>?_);subst F;refine aJ (fun hc=>?_) (fun hc=>?_)
 ·have B:k<16:=by
   have:(k:Int)<16:=by simpa using hc
   omega
  refine gQ ?_;refine aN ?_;refine aS M G z (ay) ai ?_ ?_;simp;rw[m];omega;change kw _ _ _ _ _;refine fJ ?_;intro a w b;refine⟨k+1,_,a_,a_,rfl,(b.reset (kT:=[7,8,9]) (kO:=[2005,1001]) ay ?_).same ?_ ?_⟩
  ·simp only[All,and_true,AC,IR];refine fun i _=>uX (fun _=>rfl) (fun j=>?_) i;rw[mf]
   cases j<;>rfl
  exact .cons (congrArg (fun n=>dm (.ow 1001 0 n 0 ((tu seq c.data.toList).length+(k+1)))) l) (.cr (.cons (by rw[bW k a_]) .nil));refine .cb (.cons (.arr ?_ (fun i o=>?_)) .nil);rfl;have e:Dw rec seq c.data.toList (k+1)=Dw rec seq c.data.toList k++[(mW 5 [dn rec,tu seq c.data.toList]).getD k 0]:=by unfold Dw;rw[GM];congr 1;rw[aDR,zG,zH a_];rfl
  have r:=congrFun (wL (Dw rec seq c.data.toList k) [(mW 5 [dn rec,tu seq c.data.toList]).getD k 0]) i;rw[aJc _ _ _ a_] at r;rw[e,<-r,VM];unfold ru;split
  rfl;rw[show i-((tu seq c.data.toList).length+k)=0 from a_];rfl
 ·have q:k=16:=by
   have:¬(k:Int)<16:=by simpa using hc
   omega
  subst q;refine dK ?_;change kw _ _ _ _ _;have d:Dw rec seq c.data.toList 16=encS rec seq c.data.toList:=by unfold Dw encS;rw[WF a_]
  have h:(tu seq c.data.toList).length+16=(encS rec seq c.data.toList).length:=by rw[<-d,aJc _ _ _ (dE 16)]
  refine bK (s':=⟨[(7,none,dm (.ow 1001 0 1 0 (encS rec seq c.data.toList).length))],[(1001,none,0,.arr 5 1 (encS rec seq c.data.toList).length (oz (encS rec seq c.data.toList)))]⟩) (fun a w b=>(b.reset (kT:=[7]) (kO:=[1001]) ay (by simp;exact fun i _ x p=>qU _ i x p)).same ?_ ?_) ?_;exact .cons (by rw[h]) .nil;exact .cons (.arr h (fun i o=>by rw[d])) .nil;refine aI ?_;refine bZ (fun a w b=>⟨.inr rfl,_,?_,b⟩);refine aFi (x:=1001) (l9:=0) (g:=none) (f:=?_) (out:=?_) ?_ ?_ ?_ ?_ ?_ trivial ?_;rotate_left 2;rfl;simp;rfl;rfl;rfl;intro i o;exact⟨rfl,rfl⟩
theorem SG:b_ prog af 117 Fq:=by refine yY (aB func117 ai rfl) (fun g p e n len h f d=>?_);split at f;rename_i b a c;cases f;exact aXa b a c d.1 d.2.1 d.2.2;cases f
def XW:List (Nat×Spec):=(117,Fq)::J8
theorem KH:∀ p∈XW,b_ prog af p.1 p.2:=by intro p a;rcases List.mem_cons.1 a with rfl|a;exact SG;exact bJe p a
theorem aRH:jq prog af (find XW):=⟨aY KH,dB⟩
def seK(b:di)(k i:Nat):di:=((b.drop (256*k)).take i)++Pi (256-((b.drop (256*k)).take i).length) 0
theorem aNl(b:di)(k i j:Nat):(seK b k i).getD j 0=if j<i then b.getD (256*k+j) 0 else 0:=by
 unfold seK;rw[zG,aEO];split;rename_i h;rw[ww,MM] at h;rw[List.getElem?_take,au a_,au a_,List.getElem?_drop,zG]
 ·rename_i h;rw[ww,MM] at h
  have a:∀ n m:Nat,((Pi n (0:UInt8))[m]?).getD 0=0:=fun n m=>by rw[show (Pi n (0:UInt8))[m]?=if m<n then some 0 else none from List.getElem?_replicate];split<;>rfl
  rw[a];split;rw[zG,PR a_];rfl;rfl
theorem Ro(b:di)(k i:Nat)(a:i<=256)(h:i=256\/b.length<=256*k+i):seK b k i=lm b k:=by unfold seK lm;rcases h with rfl|h;rfl;rw[WF (by rw[MM];omega),WF (i:=256) (by rw[MM];omega)]
def aGG(b:di)(k i:Nat):St:=⟨[(0,none,o6 b),(1,none,dw (k:Int)),(5,none,dm (.ow 1000 0 1 0 256)),(6,none,dw (i:Int))],[(1000,none,0,.arr 5 1 256 (oz (seK b k i)))]⟩
theorem bDt(b:di)(k:Nat)(s:k<=1000)(_:b.length<=1000000):fQ prog af 119 true [o6 b,dw k] (n_ (strOf (lm b k))):=by
 have M:=aFV;refine bH func119 rfl rfl bJ (fun A x p r=>?_);refine aI ?_;have m:prog.types[5].bytes=1:=ai;have g:prog.types[5].size=1:=ai;refine aH ?_ ?_;simp;rw[m];omega;refine jG ?_;refine bK (s':=aGG b k 0) (fun a w h=>(h.reset (kT:=[0,1,5,6]) (kO:=[1000]) ay ?_).same ?_ ?_) ?_;exact⟨fun i _=>rfl,trivial⟩;exact .cr (.cr (.cons (congrArg (fun n=>dm (.ow 1000 0 n 0 256)) g) ((iT _))));refine .cons (.arr ?_ (fun i o=>?_)) .nil;rfl;unfold oz;rw[aNl,ah a_];rfl;refine aN ?_;refine dX 256 (fun i t=>t=aGG b k i) 0 rfl a_ (fun i t q o=>?_);subst q;refine mP ?_;have c:IntKind.wrap .i64 (IntKind.wrap .i64 (256*(k:Int))+(i:Int))=256*(k:Int)+(i:Int):=by rw[dH (n:=256*(k:Int)) a_ a_];exact dH a_ a_
 refine aI ?_;rw[c];refine cO (fun l=>?_) (fun l=>?_)
 ·have f:i<256/\256*k+i<b.length:=by simp at l;omega
  refine gQ ?_;refine aN ?_;refine aS M r p (ay) ai ?_ ?_;simp;rw[c];omega;change kw _ _ _ _ _;refine fJ ?_;intro a w h;refine⟨i+1,_,a_,a_,rfl,(h.reset (kT:=[0,1,5,6]) (kO:=[1000]) ay ?_).same ?_ ?_⟩
  ·refine⟨fun j _=>?_,trivial⟩;dsimp only
   split<;>rfl
  exact .cr (.cr (.cr (.cons (by rw[bW i a_]) .nil)));refine .cons (.arr rfl (fun j u=>?_)) .nil;rw[c];split;rename_i e;obtain rfl:j=i:=a_;unfold oz;rw[aNl,au a_,show (256*(k:Int)+(j:Int)).toNat=256*k+j from a_];rfl;unfold oz;rw[aNl,aNl];by_cases d:j<i;rw[au d,au a_];rw[ah d,ah a_]
 have f:i=256\/b.length<=256*k+i:=by simp at l;omega
 refine dK ?_;change kw _ _ _ _ _;refine gB ?_;rw[Ro b k i o f,nD (gI b k)];rfl
theorem bJq(b W:di):(bif decide ((b.length:Int)<(W.length:Int)) then true else !((rowB ((W.length:Int)-0).toNat fun i=>oz b (aBF 0+i))==rowB W.length fun i=>oz W (0+i)))=decide (b.take W.length≠W):=by
 rw[xP];by_cases h:b.length<W.length;rw[mi (by omega:(b.length:Int)<(W.length:Int)),cond_true,mi];intro e;have:=congrArg List.length e;rw[ww] at this;omega;rw[su (by omega:¬(b.length:Int)<(W.length:Int)),cond_false];have e:(rowB ((W.length:Int)-0).toNat fun i=>oz b (aBF 0+i))=b.take W.length:=by have:=lU (L:=b) (k:=0) (m:=W.length) a_;rw[show ((W.length:Int)-0).toNat=W.length from a_];exact this
 rw[e];by_cases a:b.take W.length=W;rw[a,beq_self_eq_true,su d_];rfl;rw[beq_eq_false_iff_ne.2 a,mi a];rfl
theorem aXd(rec:Int)(b:di)(h1:gy rec)(hb:b.length<4611686018427387904):fQ prog af 155 true [dw rec,o6 b] (.o7 [.one (.lit (.int .i64 (qh rec b).1)),.one (.lit (.string (strOf (qh rec b).2)))]):=by
 have M:=aRH;have t:=nR b;have z:=fV b;refine bH func155 rfl rfl bJ (fun A E B F=>?_);refine bU ?_ ?_;simp;exact hb;refine aW (⟨[(0,none,dw rec),(1,none,o6 b),(6,none,dw (dh b).1),(7,none,dw ((dh b).2.1:Int)),(8,none,dw (dh b).2.2)],[]⟩) ?_ ?_ ?_;rw[eP];exact iq;exact .nil;obtain⟨m,d⟩:=jc (qh rec b);rw[d];have j:iF (b.drop (dh b).2.1)=vg b:=rfl;unfold qh at d;have r:=kD (b.drop (dh b).2.1);rw[j,MM] at r;generalize D:dh b=g at *;obtain⟨q,k,e⟩:=g;dsimp only at *;refine aJ (fun f=>?_) (fun f=>?_);refine gB ?_;have h:e≠0\/q<1\/1099511627776<q:=by simp at f;omega
 rw[au h] at d;rw[<-d];rfl;have h:¬(e≠0\/q<1\/1099511627776<q):=by simp at f;omega
 rw[ah h] at d;refine jK ?_ ?_;simp;refine⟨t.1,?_⟩;unfold jC;rw[dP];omega;have o:(rowB ((b.length:Int)-(k:Int)).toNat fun i=>oz b ((k:Int).toNat+i))=b.drop k:=by rw[show ((b.length:Int)-(k:Int)).toNat=b.length-k from a_,show (k:Int).toNat=k from a_,lU a_];exact WF (by rw[MM];exact dE _)
 refine aW (⟨[(0,none,dw rec),(1,none,o6 b),(6,none,dw q),(9,none,n_ (strOf (vg b).1)),(11,none,dw (vg b).2.2)],[]⟩) ?_ ?_ ?_;rw[o,j];exact iq;exact .nil;generalize vg b=c at *;obtain⟨s,n,w⟩:=c;dsimp only at *;have a:(strOf s).size=s.length:=bC s;refine aJ (fun f=>?_) (fun f=>?_);refine gB ?_;have p:w≠0\/2000<s.length:=by simp[a] at f;omega
 rw[au (p.elim .inl (fun h=>.inr (.inl h)))] at d;rw[<-d];rfl;have p:¬(w≠0\/2000<s.length):=by simp[a] at f;omega
 refine jK ?_ ?_;simp;exact⟨h1,by unfold gy;omega,by rw[a];omega⟩;refine qG ?_ ?_;simp;refine⟨fun _ i _ x y=>qU _ i x y,fun C=>?_⟩;unfold jC;rw[dP];omega;rw[bY,bJq];refine cO (fun f=>?_) (fun f=>?_);refine gB ?_;have u:b.take (encS rec q s).length≠encS rec q s:=of_decide_eq_true f;rw[au (.inr (.inr u))] at d;rw[<-d];rfl;refine dS ?_;refine jB ?_;have u:b.take (encS rec q s).length=encS rec q s:=Classical.not_not.1 (of_decide_eq_false f);rw[ah (fun l=>by rcases l with l|l|l;exact p (.inl l);exact p (.inr l);exact l u)] at d;rw[<-d]
def aGD:ji->Option (Prop×PV)
 |[v,.w (.one (.lit (.int .i64 k)))]=>(match wX v with
  |some (p,l)=>some (p/\0<=k/\k<=1000/\l.length<=1000000,n_ (strOf (lm l k.toNat)))|none=>none)
 |_=>none
def JA:Spec:=aV true aGD
def JG:Spec:=aV true fun a=>match a with
 |[.w (.one (.lit (.int .i64 rec))),v]=>(match wX v with
  |some (p,l)=>some (p/\gy rec/\l.length<4611686018427387904,.o7 [.one (.lit (.int .i64 (qh rec l).1)),.one (.lit (.string (strOf (qh rec l).2)))])|none=>none)
 |_=>none
theorem bMy(a:Acc):z_ 180 [.w (.agg (oP a))] (fun m s=>m.live=true/\s.stop=false/\bHt s.h a) (fun m s=>((dW m a s).2,.w (.agg (jR (dW m a s).1)))):=by
 intro m s f ⟨o,n,z⟩ u;obtain⟨i,d,A,t,h⟩:=s;obtain⟨k,b,c,x⟩:=a;dsimp only at n z u ⊢;subst n
 have g:i+1<=1000000:=by
  have e:(dW m ⟨k,b,c,x⟩ ⟨i,d,false,t,h⟩).2.i=i+1:=by
   unfold dW;rw[ah (aAQ),au o]
   split<;>rfl
  rw[e] at u;exact u
 rcases z with⟨j,l,y⟩|⟨j,p,l,r,q⟩|⟨j,p,r,q⟩;dsimp only at j l y;subst l;rcases j with rfl|rfl;exact aTd m i d t h b c aC o f g y;exact aTc m i d t h b c aC o f g y;dsimp only at j p l r q;subst j l;exact bNb m i d t h b c aC o f g ⟨r,q⟩ p;dsimp only at j p r q;subst j;exact bNa m i d t h b c x o f g r p q
def bQe:ji->Option (CS×Bj)
 |[.w (.agg [.lit (.int .i64 k),.lit (.int .i64 b),.lit (.int .i64 c),.lit (.string x)])]=>some (fun m s=>m.live=true/\s.stop=false/\bHt s.h ⟨k,b,c,x⟩,fun m s=>((dW m ⟨k,b,c,x⟩ s).2,.w (.agg (jR (dW m ⟨k,b,c,x⟩ s).1))))|_=>none
theorem bFp(m:jf)(s:ja):b_ prog af 180 (dI 96 (yt m s bQe)):=
 fD (aB func180 ai rfl) (fun a C F h=>by
  unfold bQe at h;split at h;cases h;exact bMy _
  cases h)
def YV(m:jf)(s:ja):List (Nat×Spec):=[(180,dI 96 (yt m s bQe))]
theorem YU(m:jf)(s:ja):jq prog af (find (YV m s)):=⟨aY (fun p a=>by
 obtain rfl:=List.mem_singleton.1 a
 exact bFp m s),dB⟩
theorem Ul(a:Acc):z_ 150 [.w (.agg (oP a))] (fun m s=>m.live=true->s.stop=false->bHt s.h a) (fun m s=>((dW m a s).2,.w (.agg (jR (dW m a s).1)))):=by
 intro m s e y q;have M:=YU m s;dsimp only at q ⊢;refine dL func150 rfl rfl rfl (fun A z B=>?_);obtain⟨t,b,F⟩:=m;obtain⟨i,g,r,p,h⟩:=s;cases r with
 | true=>
  rw[wB _ a (s:=⟨i,g,true,p,h⟩) rfl];refine aI ?_;refine aJ (fun c=>?_) (fun c=>?_)
  ·refine iJ ?_
   all_goals rfl
  cases c
 | false=>
  cases t with
  | true=>
   have x:=y rfl rfl;refine aI ?_;refine aJ (fun c=>?_) (fun c=>?_);cases c;refine jU (fun c=>?_) (fun c=>?_)
   ·refine aH ?_ ?_;simp;exact⟨e,x,q⟩;refine gZ ?_
    all_goals rfl
   cases c
  | false=>
   have l:=e.ll;have n:=e.i;dsimp only at l n;rw[aLr (m:=⟨false,b,F⟩) (s:=⟨i,g,false,p,h⟩) rfl rfl];refine aI ?_;refine aJ (fun c=>?_) (fun c=>?_);cases c;refine jU (fun c=>?_) (fun c=>?_);cases c;refine jU (fun c=>?_) (fun c=>?_)
   ·refine iC ?_;refine aI ?_;have o:b.length<=i:=by have f:decide ((i:Int)>=(b.length:Int))=true:=c;have:=of_decide_eq_true f;omega
    dsimp only;rw[PR o];refine gZ ?_
    all_goals rfl
   ·have k:i<b.length:=by
     have f:decide ((i:Int)>=(b.length:Int))=false:=c;have:=of_decide_eq_false f;omega
    refine dS ?_;have d:IntKind.wrap .i64 ((i:Int)+1)=((i+1:Nat):Int):=bW i a_;have j:IntKind.wrap .i64 (((i+1:Nat):Int)-1)=(i:Int):=by rw[show (((i+1:Nat):Int)-1)=(i:Int) by omega,PP,aEU a_ a_];omega
    refine aH ?_ ?_;simp;rw[d,j];omega;have u:b[i]?=some (b.getD i ⟨0,aC⟩):=by rw[zG,zH k];rfl
    dsimp only;rw[u];refine aW (⟨[(4,none,dm (.pt 1 0 0))],[(px,none,0,.box 96 (uj ⟨false,b,F⟩ ⟨i+1,g,false,p,h⟩)),(1,none,0,.box 35 (jR (b.getD i ⟨0,aC⟩)))]⟩) ?_ ?_ ?_;exact iq;refine .cons (.box ?_) (.cons (.box ?_) .nil);unfold uj;dsimp only;rw[<-d]
    show[PC.lit (.int .i64 (b.getD (IntKind.wrap .i64 (IntKind.wrap .i64 ((i:Int)+1)-1)).toNat ⟨0,aC⟩).val),PC.lit (.string (b.getD (IntKind.wrap .i64 (IntKind.wrap .i64 ((i:Int)+1)-1)).toNat ⟨0,aC⟩).bytes)]=_
    rw[d,j];rfl;refine gZ ?_
    all_goals rfl
def bQm:ji->Option (CS×Bj)
 |[.w (.agg [.lit (.int .i64 k),.lit (.int .i64 b),.lit (.int .i64 c),.lit (.string x)])]=>some (fun m s=>m.live=true->s.stop=false->bHt s.h ⟨k,b,c,x⟩,fun m s=>((dW m ⟨k,b,c,x⟩ s).2,.w (.agg (jR (dW m ⟨k,b,c,x⟩ s).1))))|_=>none
theorem PK(m:jf)(s:ja):b_ prog af 150 (dI 96 (yt m s bQm)):=
 fD (aB func150 ai rfl) (fun a C F h=>by
  unfold bQm at h;split at h;cases h;exact Ul _
  cases h)
def aSG(m:jf)(s:ja):List (Nat×Spec):=[(150,dI 96 (yt m s bQm))]
theorem aIM(m:jf)(s:ja):jq prog af (find (aSG m s)):=⟨aY (fun p a=>by
 obtain rfl:=List.mem_singleton.1 a
 exact PK m s),dB⟩
def um(m:jf)(s:ja):Prop:=m.live=true->64<=s.h.f.length
theorem um.CW{m:jf}{s s':ja}(h:um m s)(e:Eg s.h s'.h):um m s':=fun a=>by rw[e.f];exact h a
theorem bGv(c:Int):z_ 184 [dw c] (fun m s=>um m s/\0<=c/\c<64) (fun m s=>((aK m (aj.rd c) s).2,n_ (aK m (aj.rd c) s).1)):=by
 intro m s a b e;have M:=aIM m s;have g:m.live=true->s.stop=false->bHt s.h ⟨3,0,c,aC⟩:=fun d _=>.inr (.inl ⟨rfl,rfl,rfl,b.2.1,by have:=b.1 d;have:=b.2.2;show c<(s.h.f.length:Int);omega⟩);refine dL func184 rfl rfl rfl (fun A i j=>?_);refine bU ?_ ?_;simp;exact⟨a,g,e⟩;refine iJ ?_
 all_goals rfl
theorem aZh(c:Int)(b:jy):z_ 118 [dw c,n_ b] (fun m s=>um m s/\(0<=c/\c<64)/\b.size=256) (fun m s=>((aK m (aj.wr c b) s).2,.o7 [])):=by
 intro m s e d n;have M:=aIM m s;have g:m.live=true->s.stop=false->bHt s.h ⟨4,0,c,b⟩:=fun l _=>.inr (.inr ⟨rfl,rfl,⟨d.2.1.1,by have:=d.1 l;have:=d.2.1.2;show c<(s.h.f.length:Int);omega⟩,d.2.2⟩);refine dL func118 rfl rfl rfl (fun A k q=>?_);refine aS M q k (ay) ai ?_ ?_;simp;exact⟨e,g,n⟩;intro a w g;refine⟨.inl rfl,_,⟨?_,(fun o j=>by obtain rfl:=List.mem_singleton.1 j;exact⟨_,rfl,eQ rfl⟩),fun p i=>(by cases i)⟩,g⟩;refine aZ (ay) d_ ay ay ?_
 all_goals rfl
def bPu:ji->Option (CS×Bj)
 |[.w (.one (.lit (.int .i64 c)))]=>some (fun m s=>um m s/\0<=c/\c<64,fun m s=>((aK m (aj.rd c) s).2,n_ (aK m (aj.rd c) s).1))|_=>none
def bPo:ji->Option (CS×Bj)
 |[.w (.one (.lit (.int .i64 c))),.w (.one (.lit (.string b)))]=>some (fun m s=>um m s/\(0<=c/\c<64)/\b.size=256,fun m s=>((aK m (aj.wr c b) s).2,.o7 []))|_=>none
theorem aZi(m:jf)(s:ja):b_ prog af 184 (dI 96 (yt m s bPu)):=
 fD (aB func184 ai rfl) (fun a C F h=>by
  unfold bPu at h;split at h;cases h;exact bGv _
  cases h)
theorem aUo(m:jf)(s:ja):b_ prog af 118 (dI 96 (yt m s bPo)):=
 fD (aB func118 ai rfl) (fun a C F h=>by
  unfold bPo at h;split at h;cases h;exact aZh _ _
  cases h)
theorem bFw:b_ prog af 119 JA:=by
 refine aU (aB func119 ai rfl) (fun j p r a h=>?_);unfold aGD at a;split at a;rename_i v k;cases b:wX v with
 |none=>rw[b] at a;cases a| some q=>
  obtain⟨o,l⟩:=q;rw[b] at a;cases a;obtain⟨c,e,d,i⟩:=h;obtain⟨n,rfl⟩:∃ n:Nat,k=(n:Int):=⟨k.toNat,a_⟩;rw[VM]
  exact (bDt l n a_ i).args fun C f g=>by
   match f,g with
   |[m,x],⟨e,d,_⟩=>exact⟨sW b c e,d,trivial⟩
 cases a
theorem Nu:b_ prog af 155 JG:=by
 refine aU (aB func155 ai rfl) (fun i p r a d=>?_);split at a;rename_i b v;cases c:wX v with
 |none=>rw[c] at a;cases a| some q=>
  obtain⟨k,l⟩:=q;rw[c] at a;cases a
  exact (aXd b l d.2.1 d.2.2).args fun C e f=>by
   match e,f with
   |[j,x],⟨h,g,_⟩=>exact⟨h,sW c d.1 g,trivial⟩
 cases a
def UE(m:jf)(s:ja):List (Nat×Spec):=(184,dI 96 (yt m s bPu))::(118,dI 96 (yt m s bPo))::(119,JA)::(155,JG)::XW
theorem Ns(m:jf)(s:ja):∀ p∈UE m s,b_ prog af p.1 p.2:=by intro p a;simp only[UE,xn] at a;rcases a with rfl|rfl|rfl|rfl|a;exact aZi m s;exact aUo m s;exact bFw;exact Nu;exact KH p a
theorem aIL(m:jf)(s:ja):jq prog af (find (UE m s)):=⟨aY (Ns m s),dB⟩
theorem aKa{h:jr}(a:CP h)(c:Int):(strOf (sec h.f c)).size<=1000000:=by rw[bC];unfold sec;split;rename_i b;obtain⟨n,rfl⟩:=aBZ b.1;rw[show ((n:Int)).toNat=n from rfl,zG,zH a_,aCM,nz];exact a.sz _ (aBI _);exact x8 _
theorem aTh{m:jf}{a:Acc}{s:ja}(h:v_ m s):(dW m a s).1.bytes.size<=1000000:=by
 have b:iW.bytes.size<=1000000:=jb;have d:aC.size<=1000000:=jb;unfold dW;split;exact b;split
 ·split;exact b
  ·show (fM s.h a (eG m.F s.i)).2.1.bytes.size<=1000000;unfold fM
   repeat' split
   all_goals first
    |exact b
    |exact d
    |skip
   exact aKa h.hw _
 split;rename_i r c;exact h.lb r (List.mem_of_getElem? c);exact b
theorem aTj{m:jf}{c:Int}{s:ja}(h:v_ m s):(aK m (aj.rd c) s).1.size<=1000000:=aTh h
theorem yG{m:jf}(F:Int):∀ (n:Nat) (b:di) {s:ja},v_ m s->(aK m (aj.o9 F n b) s).2.i<=1000000->(aK m (aj.o9 F n b) s).1.length<=b.length+n*1000000
 |0,b,s,h,_=>by show b.length<=_;omega|n+1,b,s,h,a=>by
  rw[aj.o9,dR] at a ⊢;have e:=aTj (c:=F+((7-n:Nat):Int)) h;have d:=yG F n (b++(aK m (aj.rd (F+((7-n:Nat):Int))) s).1.data.toList) (jW (aj.rd (F+((7-n:Nat):Int))) h (ry (kH m _ _) a)) a;have f:(aK m (aj.rd (F+((7-n:Nat):Int))) s).1.data.toList.length<=1000000:=by rw[nz];exact e
  rw[gz] at d;omega
def WP(m:jf)(rec k:Int)(s:ja)(b:di)(i:Nat):St:=⟨[(0,none,dm (.pt px 0 0)),(1,none,dw rec),(2,none,dw k),(7,none,dm (.ow 7000 0 1 0 b.length)),(8,none,dw (i:Int))],[(px,none,0,.box 96 (uj m s)),(7000,none,0,.arr 5 1 b.length (oz b))]⟩
theorem aYk{F:Int}{i:Nat}(a:i<8)(b:di)(m:jf)(s:ja):aK m (aj.o9 F (8-i) b) s=aK m (aj.o9 F (8-(i+1)) (b++(aK m (aj.rd (F+i)) s).1.data.toList)) (aK m (aj.rd (F+i)) s).2:=by have e:8-i=(7-i)+1:=a_;rw[e,aj.o9,dR,show 7-(7-i)=i from a_,show 8-(i+1)=7-i from a_]
theorem bRy(rec k:Int)(O:0<=bD rec k):z_ 154 [dw rec,dw k] (fun m s=>um m s) (fun m s=>((aK m (aj.o9 (bD rec k) 8 []) s).2,o6 (aK m (aj.o9 (bD rec k) 8 []) s).1)):=by
 intro m z r E h;have C:prog.types[5].bytes=1:=ai;have M:=aIL m z;have N:=aDu rec k;dsimp only at h ⊢;refine dL func154 rfl rfl rfl (fun A J L=>?_);generalize K:aK m (aj.o9 (bD rec k) 8 []) z=R at h ⊢;refine iC ?_;refine jG ?_;refine bK (s':=WP m rec k z [] 0) (fun a w y=>((y.nilRow (x:=7000) (e:=5) (n:=1) (t:=7) ay ay).reset (kT:=[0,1,2,7,8]) (kO:=[px,7000]) ay d_).same ?_ ?_) ?_;exact iq;exact .cb (.cons (.arr rfl (fun i F=>absurd F d_)) .nil);refine aN ?_;refine dX 8 (fun i t=>∃ s b,t=WP m rec k s b i/\v_ m s/\um m s/\b.length<=i*1000000/\aK m (aj.o9 (bD rec k) (8-i) b) s=R) 0 ⟨_,_,rfl,r,E,d_,K⟩ a_ (fun i t l F=>?_);obtain⟨s,b,rfl,f,G,T,l⟩:=l;clear M;have M:=aIL m s;refine aJ (fun B=>?_) (fun B=>?_);have g:i<8:=by have:=of_decide_eq_true B;omega
 refine gQ ?_;refine aN ?_;have d:IntKind.wrap .i64 (bD rec k+(i:Int))=bD rec k+(i:Int):=dH a_ a_;rw[aYk g] at l;have u:(aK m (aj.rd (bD rec k+(i:Int))) s).2.i<=1000000:=ry (kH m _ _) (by rw[l];exact h);refine aH ?_ ?_;simp;rw[d];exact⟨f,⟨G,a_,a_⟩,u⟩;have Q:=aTj (c:=bD rec k+(i:Int)) f;have q:=jW (aj.rd (bD rec k+(i:Int))) f u;have D:=G.CW (jD m (aj.rd (bD rec k+(i:Int))) s);refine aS M L J (ay) ai ?_ ?_;simp;change ((aK m (aj.rd (IntKind.wrap .i64 (bD rec k+(i:Int)))) s).1).size<=_/\(b.length+((aK m (aj.rd (IntKind.wrap .i64 (bD rec k+(i:Int)))) s).1).size)*_<=_;rw[d,C];omega;change kw _ _ _ _ _;refine fJ ?_;intro a w y;refine⟨i+1,_,a_,a_,⟨_,_,rfl,q,D,?_,l⟩,(y.reset (kT:=[0,1,2,7,8]) (kO:=[px,7000]) ay ?_).same ?_ ?_⟩;rw[gz,nz];change b.length+((aK m (aj.rd (bD rec k+(i:Int))) s).1).size<=_;omega;simp only[All,and_true,AC,IR];exact fun i _=>uX (fun _=>rfl) (fun _=>rfl) i;refine .cr (.cr (.cr (.cons ?_ (.cons (by rw[bW i a_]) .nil))));change dm (.ow 7000 0 prog.types[5].size 0 (b.length+((aK m (aj.rd (IntKind.wrap .i64 (bD rec k+(i:Int)))) s).1).size))=_;rw[d,gz,nz];rfl;refine .cons (.box ?_) (.cons (.arr ?_ (fun j S=>?_)) .nil);show uj m (aK m (aj.rd (IntKind.wrap .i64 (bD rec k+(i:Int)))) s).2=_;rw[d];change b.length+((aK m (aj.rd (IntKind.wrap .i64 (bD rec k+(i:Int)))) s).1).size=_;rw[d,gz,nz];rfl;change ru b.length (oz b) (oz ((aK m (aj.rd (IntKind.wrap .i64 (bD rec k+(i:Int)))) s).1).data.toList) j=_;rw[d];exact congrFun (wL b _) j;have g:i=8:=by have:=of_decide_eq_false B;omega
 subst g;have P:(b,s)=R:=l;refine dK ?_;change kw _ _ _ _ _;refine aI ?_;rw[<-P];refine bZ (fun a w y=>⟨.inr rfl,_,⟨?_,(fun o I=>by obtain rfl:=List.mem_singleton.1 I;exact⟨_,rfl,eQ rfl⟩),fun p H=>(by cases H)⟩,y⟩);refine qL (ay) d_ ay ?_;exact .w (.one (.row rfl trivial a_ (fun i _=>by rw[mf]) (fun i _=>rfl)))
def bQr:ji->Option (CS×Bj)
 |[.w (.one (.lit (.int .i64 rec))),.w (.one (.lit (.int .i64 k)))]=>some (fun m s=>0<=bD rec k/\um m s,fun m s=>((aK m (aj.o9 (bD rec k) 8 []) s).2,o6 (aK m (aj.o9 (bD rec k) 8 []) s).1))|_=>none
theorem bHl(m:jf)(s:ja):b_ prog af 154 (dI 96 (yt m s bQr)):=
 fD (aB func154 ai rfl) (fun d C F h=>by
  unfold bQr at h;split at h;cases h;exact fun m s a b c=>bRy _ _ b.1 m s a b.2 c
  cases h)
def YY(m:jf)(s:ja):List (Nat×Spec):=(154,dI 96 (yt m s bQr))::UE m s
theorem Nr(m:jf)(s:ja):∀ p∈YY m s,b_ prog af p.1 p.2:=by intro p a;rcases List.mem_cons.1 a with rfl|a;exact bHl m s;exact Ns m s p a
theorem aIK(m:jf)(s:ja):jq prog af (find (YY m s)):=⟨aY (Nr m s),dB⟩
def aIU(n:Int)(seq:Int)(c:jy):PV:=.o7 [.one (.lit (.int .i64 n)),.one (.lit (.int .i64 seq)),.one (.lit (.string c))]
def Be(x:((Int×di)×Nat)×ja):Int×Int×jy:=if x.2.stop then (0,0,aC) else ((x.1.2:Int),x.1.1.1,strOf x.1.1.2)
def aIT(x:((Int×di)×Nat)×ja):PV:=aIU (Be x).1 (Be x).2.1 (Be x).2.2
theorem qX{rec:Int}(hr:0<=rec/\rec<=3){k:Int}(a:0<=k/\k<=1):0<=bD rec k/\bD rec k<=56:=by unfold bD;rw[ah a_];omega
theorem aUp(rec:Int)(hr:0<=rec/\rec<=3):z_ 116 [dw rec] (fun m s=>um m s) (fun m s=>((aK m (aj.cur rec) s).2,aIT (aK m (aj.cur rec) s))):=by
 intro m s l F t;have M:=aIK m s;dsimp only at t ⊢;have f:gy rec:=by unfold gy;omega
 have w:=(qX hr (k:=0) a_).1;have u:=(qX hr (k:=1) a_).1;refine dL func116 rfl rfl rfl (fun A J K=>?_);obtain⟨R,z⟩:=jc (aK m (aj.cur rec) s);rw[z] at t ⊢;obtain⟨a,c,d⟩:∃ a c,aK m (aj.o9 (bD rec 0) 8 []) s=(a,c):=⟨_,_,rfl⟩;obtain⟨b,r,q⟩:∃ b r,aK m (aj.o9 (bD rec 1) 8 []) c=(b,r):=⟨_,_,rfl⟩;have B:R=(yx (qh rec a) (qh rec b),r):=by rw[<-z];unfold aj.cur;rw[dR,d,dR,q];rfl
 have n:r.i<=1000000:=by rw[B] at t;exact t
 have o:c.i<=1000000:=by have:=kH m (aj.o9 (bD rec 1) 8 []) c;rw[q] at this;exact ry this n
 have g:v_ m c:=by have:=jW (aj.o9 (bD rec 0) 8 []) l (by rw[d];exact o);rw[d] at this;exact this
 have C:um m c:=by have:=F.CW (jD m (aj.o9 (bD rec 0) 8 []) s);rw[d] at this;exact this
 have H:a.length<=8000000:=by have:=yG (bD rec 0) 8 [] l (by rw[d];exact o);rw[d] at this;simpa using this
 have G:b.length<=8000000:=by have:=yG (bD rec 1) 8 [] g (by rw[q];exact n);rw[q] at this;simpa using this
 rw[B];clear B z t R;refine bU ?_ ?_;simp;rw[d];exact⟨l,⟨w,F⟩,o⟩;refine aW (⟨[(0,none,dm (.pt px 0 0)),(1,none,dw rec),(7,none,o6 a)],[(px,none,0,.box 96 (uj m c))]⟩) ?_ ?_ ?_;refine .cr (.cr (.cons ?_ .nil));change o6 (aK m (aj.o9 (bD rec 0) 8 []) s).1=_;rw[d];refine .cons (.box ?_) .nil;change uj m (aK m (aj.o9 (bD rec 0) 8 []) s).2=_;rw[d];clear M;have M:=aIK m c;refine aH ?_ ?_;simp;rw[q];exact⟨g,⟨u,C⟩,n⟩;refine aW (⟨[(0,none,dm (.pt px 0 0)),(1,none,dw rec),(7,none,o6 a),(8,none,o6 b)],[(px,none,0,.box 96 (uj m r))]⟩) ?_ ?_ ?_;refine .cr (.cr (.cr (.cons ?_ .nil)));change o6 (aK m (aj.o9 (bD rec 1) 8 []) c).1=_;rw[q];refine .cons (.box ?_) .nil;change uj m (aK m (aj.o9 (bD rec 1) 8 []) c).2=_;rw[q];obtain⟨i,D,E,I,h⟩:=r;refine aJ (fun p=>?_) (fun p=>?_)
 ·refine aI ?_;have j:E=true:=p;subst j;refine gZ ?_
  all_goals rfl
 ·have j:E=false:=p;subst j;refine jK ?_ ?_;simp;exact⟨f,a_⟩;refine aH ?_ ?_;simp;exact⟨f,a_⟩;refine aW (⟨[(9,none,dw (qh rec a).1),(10,none,n_ (strOf (qh rec a).2)),(11,none,dw (qh rec b).1),(12,none,n_ (strOf (qh rec b).2))],[(px,none,0,.box 96 (uj m ⟨i,D,false,I,h⟩))]⟩) ?_ ?_ ?_;rw[eP,eP];exact iq;exact r_;generalize qh rec a=x;generalize qh rec b=y;refine aJ (fun p=>?_) (fun p=>?_)
  ·refine aI ?_;have h:x.1=0\/x.1<y.1:=by simp at p;omega
   have e:yx x y=(y,1):=by unfold yx;rw[au h]
   rw[e];refine gZ ?_
   all_goals rfl
  ·refine dS ?_;have h:¬(x.1=0\/x.1<y.1):=by simp at p;omega
   have e:yx x y=(x,0):=by unfold yx;rw[ah h]
   rw[e];refine gZ ?_
   all_goals rfl
def bQo:ji->Option (CS×Bj)
 |[.w (.one (.lit (.int .i64 rec)))]=>some (fun m s=>(0<=rec/\rec<=3)/\um m s,fun m s=>((aK m (aj.cur rec) s).2,aIT (aK m (aj.cur rec) s)))|_=>none
theorem aPw(m:jf)(s:ja):b_ prog af 116 (dI 96 (yt m s bQo)):=
 fD (aB func116 ai rfl) (fun d C F h=>by
  unfold bQo at h;split at h;cases h;exact fun m s a b c=>aUp _ b.1 m s a b.2 c
  cases h)
def aIN(m:jf)(s:ja):List (Nat×Spec):=(116,dI 96 (yt m s bQo))::YY m s
theorem YZ(m:jf)(s:ja):∀ p∈aIN m s,b_ prog af p.1 p.2:=by intro p a;rcases List.mem_cons.1 a with rfl|a;exact aPw m s;exact Nr m s p a
theorem UD(m:jf)(s:ja):jq prog af (find (aIN m s)):=⟨aY (YZ m s),dB⟩
def AU(x:EE×ja):EE:=if x.2.stop then⟨aC,0,13⟩ else x.1
def Yf(rec:Int):Bj:=fun m s=>((aK m (aj.load rec) s).2,bDn (AU (aK m (aj.load rec) s)))
theorem bEg(rec:Int)(hr:0<=rec/\rec<=3):z_ 113 [dw rec] (fun m s=>um m s) (Yf rec):=by
 intro m s n w g;have M:=UD m s;unfold Yf at g ⊢;dsimp only at g ⊢;have u:=(qX hr (k:=0) a_).1;have t:aj.load rec=(aj.cur rec).bind fun p=>.ret (vY p.1):=ah a_;rw[t,dR] at g ⊢;have o:(aK m (aj.cur rec) s).2.i<=1000000:=g;refine dL func113 rfl rfl rfl (fun A x y=>?_);refine aI ?_;refine aJ (fun c=>?_) (fun c=>?_);have h:bD rec 0<0:=of_decide_eq_true c;omega;refine jK ?_ ?_;simp;exact⟨n,⟨hr,w⟩,o⟩;obtain⟨q,b,f⟩:∃ q b,aK m (aj.cur rec) s=(q,b):=⟨_,_,rfl⟩;refine aW (⟨[(4,none,dm (.pt 0 0 0)),(6,none,dw (Be (q,b)).2.1),(7,none,n_ (Be (q,b)).2.2)],[(px,none,0,.box 96 (uj m b)),(0,none,0,.box 164 [.lit (.string aC),.lit (.int .i64 0),.lit (.int .i64 0)])]⟩) ?_ ?_ ?_;refine .cr (.cons ?_ (.cons ?_ .nil));change dw (Be (aK m (aj.cur rec) s)).2.1=_;rw[f];change n_ (Be (aK m (aj.cur rec) s)).2.2=_;rw[f];refine .cons (.box ?_) ((dU _));change uj m (aK m (aj.cur rec) s).2=_;rw[f];rw[f];obtain⟨i,a,d,l,h⟩:=b;refine aJ (fun c=>?_) (fun c=>?_)
 ·refine aI ?_;have j:(Be (q,⟨i,a,d,l,h⟩)).2.1=0:=by simpa using c
  have e:AU (vY q.1,⟨i,a,d,l,h⟩)=⟨aC,0,13⟩:=by
   cases d with
   |true=>rfl|false=>have r:q.1.1=0:=j;show vY q.1=_;unfold vY;rw[au r]
  change kw _ _ _ _ _;simp only[aK];rw[e];refine gZ ?_
  all_goals rfl
 ·refine dS ?_;have j:¬(Be (q,⟨i,a,d,l,h⟩)).2.1=0:=by simpa using c
  cases d with
  |true=>exact absurd rfl j| false=>
   have r:¬q.1.1=0:=j;have e:AU (vY q.1,⟨i,a,false,l,h⟩)=⟨strOf q.1.2,q.1.1,0⟩:=by show vY q.1=_;unfold vY;rw[ah r]
   simp only[aK];rw[e];refine gZ ?_
   all_goals rfl
def bQg:ji->Option (CS×Bj)
 |[.w (.one (.lit (.int .i64 rec)))]=>some (fun m s=>(0<=rec/\rec<=3)/\um m s,Yf rec)|_=>none
theorem aWw(m:jf)(s:ja):b_ prog af 113 (dI 96 (yt m s bQg)):=
 fD (aB func113 ai rfl) (fun d C F h=>by
  unfold bQg at h;split at h;cases h;exact fun m s a b c=>bEg _ b.1 m s a b.2 c
  cases h)
def DY(rec:Int)(c:jy)(m:jf)(s:ja):ja×EE:=
 if 2000<c.size then (s,⟨aC,0,19⟩) else
 if (aK m (aj.cur rec) s).2.stop=true then ((aK m (aj.cur rec) s).2,⟨aC,0,0⟩) else ((aK m (aj.save rec c) s).2,(aK m (aj.save rec c) s).1)
def YX(rec:Int)(c:jy):Bj:=fun m s=>((DY rec c m s).1,bDn (DY rec c m s).2)
theorem aLq:rowB 256 (fun _=>[PC.lit (.int .u8 0)])=iH:=by decide +kernel
def Dt(c:jy)(seq F:Int)(b:di)(i:Nat):aj EE:=(aj.Fh F b (nsec b-i) i).bind fun _=>(aj.wr F (strOf (lm b 0))).bind fun _=>.ret ⟨c,seq,0⟩
theorem bNs(c:jy)(seq F:Int)(b:di){i:Nat}(a:i<nsec b)(m:jf)(s:ja):aK m (Dt c seq F b i) s=aK m (Dt c seq F b (i+1)) (aK m (aj.wr (F+(i:Int)) (strOf (lm b i))) s).2:=by have e:nsec b-i=(nsec b-(i+1))+1:=a_;unfold Dt;rw[e,aj.Fh,aj.bind_assoc,dR]
theorem Nq(c:jy)(seq F:Int)(b:di){i:Nat}(a:¬i<nsec b)(m:jf)(s:ja):aK m (Dt c seq F b i) s=(⟨c,seq,0⟩,(aK m (aj.wr F (strOf (lm b 0))) s).2):=by have e:nsec b-i=0:=a_;unfold Dt;rw[e];rfl
def WN(m:jf)(c:jy)(a:Int)(b:di)(F:Int)(cs:ja)(i:Nat):St:=
 ⟨
  [(0,none,dm (.pt px 0 0)),(2,none,n_ c),(6,none,dm (.pt 0 0 0)),(8,none,dw a),(10,none,dm (.ow 10004 0 1 0 b.length)),(11,none,dw F),(12,none,dw (i:Int))],
  [(px,none,0,.box 96 (uj m cs)),(10004,none,0,.arr 5 1 b.length (oz b)),(0,none,0,.box 164 [.lit (.string aC),.lit (.int .i64 0),.lit (.int .i64 0)])]⟩
theorem aTi(b:di)(k:Nat):(strOf (lm b k)).size=256:=by rw[bC];unfold lm;rw[gz,aCG,ww];omega
theorem bDz(rec:Int)(hr:0<=rec/\rec<=3)(c:jy):z_ 90 [dw rec,n_ c] (fun m s=>um m s) (YX rec c):=by
 intro m s V hC o;have M:=UD m s;have a4:prog.types[5].bytes=1:=ai;have a5:prog.types[5].size=1:=ai;have T:gy rec:=by unfold gy;omega
 have a8:=(qX hr (k:=0) a_).1;unfold YX at o ⊢;dsimp only at o ⊢;obtain⟨R,f⟩:=jc (DY rec c m s);rw[f] at o ⊢;unfold DY at f;refine dL func90 rfl rfl rfl (fun A hn hI=>?_);refine aI ?_;refine aJ (fun g=>?_) (fun g=>?_);have h:bD rec 0<0:=of_decide_eq_true g;omega;refine jU (fun g=>?_) (fun g=>?_)
 ·have Y:2000<c.size:=by have:=of_decide_eq_true g;omega
  rw[au Y] at f;refine aI ?_;rw[<-f];refine gZ ?_
  all_goals rfl
 have Y:¬2000<c.size:=by have:=of_decide_eq_false g;omega
 rw[ah Y] at f;refine fZ ?_;have hp:aj.save rec c=(aj.cur rec).bind fun p=>if 1099511627776<p.1.1+1 then .ret ⟨aC,0,19⟩ else (aj.write (bD rec (1-(p.2:Int))) (encS rec (p.1.1+1) c.data.toList)).bind fun _=>.ret ⟨c,p.1.1+1,0⟩:=by unfold aj.save;rw[ah a_,ah Y]
 rw[hp,dR] at f;have C:(aK m (aj.cur rec) s).2.i<=1000000:=by split at f;rw[<-f] at o;exact o;rw[<-f] at o;exact ry (kH m _ _) o
 refine aH ?_ ?_;simp;exact⟨V,⟨hr,hC⟩,C⟩;have j:=jW (aj.cur rec) V C;have E:=hC.CW (jD m (aj.cur rec) s);have N:=aIk (bQv rec) m s;obtain⟨q,Q,U⟩:∃ q Q,aK m (aj.cur rec) s=(q,Q):=⟨_,_,rfl⟩;rw[U] at f j N E;dsimp only at f j N E;refine aW (⟨[(0,none,dm (.pt px 0 0)),(1,none,dw rec),(2,none,n_ c),(6,none,dm (.pt 0 0 0)),(7,none,dw (Be (q,Q)).1),(8,none,dw (Be (q,Q)).2.1)],[(px,none,0,.box 96 (uj m Q)),(0,none,0,.box 164 [.lit (.string aC),.lit (.int .i64 0),.lit (.int .i64 0)])]⟩) ?_ ?_ ?_;refine .cr (.cr (.cr (.cr (.cons ?_ (.cons ?_ .nil)))));change dw (Be (aK m (aj.cur rec) s)).1=_;rw[U];change dw (Be (aK m (aj.cur rec) s)).2.1=_;rw[U];refine .cons (.box ?_) ((dU _));change uj m (aK m (aj.cur rec) s).2=_;rw[U];clear U C M;obtain⟨G,d,Z,I,H⟩:=Q;refine mP ?_;have M:=UD m ⟨G,d,Z,I,H⟩;refine eH (fun g=>?_) (fun g=>?_)
 ·have L:Z=true:=g;subst L;rw[au rfl] at f;refine aI ?_;rw[<-f];refine gZ ?_
  all_goals rfl
 have L:Z=false:=g;subst L;rw[ah d_] at f;refine fZ ?_;have e1:(Be (q,⟨G,d,false,I,H⟩)).1=(q.2:Int):=rfl;have e2:(Be (q,⟨G,d,false,I,H⟩)).2.1=q.1.1:=rfl;rw[e1,e2];obtain⟨⟨e,co⟩,l⟩:=q;dsimp only at f N ⊢;refine aJ (fun g=>?_) (fun g=>?_)
 ·have h7:1099511627776<e+1:=by have h0:e=1099511627776:=(by simpa using g);omega
  rw[au h7] at f;refine aI ?_;rw[<-f];refine gZ ?_
  all_goals rfl
 have h7:¬1099511627776<e+1:=by have h0:¬e=1099511627776:=(by simpa using g);omega
 rw[ah h7] at f;refine fZ ?_;have y:IntKind.wrap .i64 (e+1)=e+1:=dH a_ a_;have O:IntKind.wrap .i64 (1-(l:Int))=1-(l:Int):=dH a_ a_;have W:=qX hr (k:=1-(l:Int)) a_;refine aH ?_ ?_;simp;rw[y];exact⟨T,⟨a_,a_⟩,a_⟩;refine aI ?_;have a3:(encS rec (e+1) c.data.toList).length<=2048/\0<(encS rec (e+1) c.data.toList).length:=by rw[nU,pI];have:=aO (e+1);have:=aO (c.data.toList.length:Int);have a9:c.data.toList.length=c.size:=nz;omega
 have D:R=((aK m (Dt c (e+1) (bD rec (1-(l:Int))) (encS rec (e+1) c.data.toList) 1) (aK m (aj.wr (bD rec (1-(l:Int))) (strOf iH)) ⟨G,d,false,I,H⟩).2).2,(aK m (Dt c (e+1) (bD rec (1-(l:Int))) (encS rec (e+1) c.data.toList) 1) (aK m (aj.wr (bD rec (1-(l:Int))) (strOf iH)) ⟨G,d,false,I,H⟩).2).1):=by rw[<-f];unfold aj.write;rw[aj.bind_assoc,dR];unfold Dt;rw[aj.bind_assoc]
 clear f;have B:(aK m (aj.wr (bD rec (1-(l:Int))) (strOf iH)) ⟨G,d,false,I,H⟩).2.i<=1000000:=by rw[D] at o;exact ry (kH m _ _) o
 refine aH ?_ ?_;simp;rw[O,aLq];exact⟨by rw[a4];omega,fun i _=>rfl,j,⟨E,⟨W.1,a_⟩,by decide +kernel⟩,B⟩;refine jG ?_;have J:=jW (aj.wr (bD rec (1-(l:Int))) (strOf iH)) j B;have X:=E.CW (jD m (aj.wr (bD rec (1-(l:Int))) (strOf iH)) ⟨G,d,false,I,H⟩);refine bK (s':=WN m c e (encS rec (e+1) c.data.toList) (bD rec (1-(l:Int))) (aK m (aj.wr (bD rec (1-(l:Int))) (strOf iH)) ⟨G,d,false,I,H⟩).2 1) (fun a w hg=>(hg.reset (kT:=[0,2,6,8,10,11,12]) (kO:=[px,10004,0]) ay (by simp;exact fun i _ x K=>qU _ i x K)).same ?_ ?_) ?_;refine .cr (.cr (.cr (.cr (.cons ?_ (.cons ?_ ((iT _)))))));rw[y];rw[O];refine .cons (.box ?_) (.cons (.arr ?_ (fun i _=>?_)) ((dU _)));change uj m (aK m (aj.wr (bD rec (IntKind.wrap .i64 (1-(l:Int)))) (strOf (rowB 256 (fun _=>[PC.lit (.int .u8 0)])))) ⟨G,d,false,I,H⟩).2=_;rw[O,aLq];rw[y];rw[y];clear M j E B;generalize (aK m (aj.wr (bD rec (1-(l:Int))) (strOf iH)) ⟨G,d,false,I,H⟩).2=s2 at D J X ⊢;generalize bD rec (1-(l:Int))=F at D W ⊢;generalize encS rec (e+1) c.data.toList=b at D a3 ⊢;have hN:nsec b<=8/\0<nsec b:=by unfold nsec;omega
 refine aN ?_;refine dX (nsec b) (fun i t=>∃ u,t=WN m c e b F u i/\0<i/\v_ m u/\um m u/\R=((aK m (Dt c (e+1) F b i) u).2,(aK m (Dt c (e+1) F b i) u).1)) 1 ⟨_,rfl,a_,J,X,D⟩ a_ (fun i t hJ a6=>?_);obtain⟨u,rfl,a7,z,P,r⟩:=hJ;have M:=UD m u;refine mP ?_;have a0:IntKind.wrap .i64 (256*(i:Int))=256*(i:Int):=dH a_ a_;refine aI ?_;rw[a0];refine cO (fun g=>?_) (fun g=>?_);have a1:i<nsec b:=by have h0:=of_decide_eq_true g;unfold nsec;omega
 refine gQ ?_;refine aN ?_;have S:IntKind.wrap .i64 (F+(i:Int))=F+(i:Int):=dH a_ a_;rw[bNs _ _ _ _ a1] at r;have n:(aK m (aj.wr (F+(i:Int)) (strOf (lm b i))) u).2.i<=1000000:=by rw[r] at o;exact ry (kH m _ _) o
 refine aS M hI hn (ay) ai ?_ ?_;simp;rw[S];exact⟨fun i _ x K=>qU _ i x K,⟨a_,a_⟩,z,⟨P,a_,aTi _ _⟩,n⟩;change kw _ _ _ _ _;refine fJ ?_;intro a w hg;refine⟨i+1,_,a_,a_,⟨_,rfl,a_,jW _ z n,P.CW (jD m _ _),r⟩,(hg.reset (kT:=[0,2,6,8,10,11,12]) (kO:=[px,10004,0]) ay (by simp;exact fun i _ x K=>qU _ i x K)).same ?_ ?_⟩;exact .cr (.cr (.cr (.cr (.cr (.cr (.cons (by rw[bW i a_]) .nil))))));refine .cons (.box ?_) ((dU _));change uj m (aK m (aj.wr (IntKind.wrap .i64 (F+(i:Int))) (strOf (lm (rowB b.length fun i=>oz b (0+i)) ((i:Int)).toNat))) u).2=_;rw[S,xP,VM]
 ·have a2:¬i<nsec b:=by have h0:=of_decide_eq_false g;unfold nsec;omega
  rw[Nq _ _ _ _ a2] at r;have n:(aK m (aj.wr F (strOf (lm b 0))) u).2.i<=1000000:=by rw[r] at o;exact o
  refine dK ?_;change kw _ _ _ _ _;refine aH ?_ ?_;simp;exact⟨fun i _ x K=>qU _ i x K,a_,z,⟨P,a_,aTi _ _⟩,n⟩;refine aI ?_;rw[r];refine aW (⟨[(6,none,dm (.pt 0 0 0))],[(px,none,0,.box 96 (uj m (aK m (aj.wr F (strOf (lm b 0))) u).2)),(0,none,0,.box 164 [.lit (.string c),.lit (.int .i64 (e+1)),.lit (.int .i64 0)])]⟩) ?_ ?_ ?_;exact iq;refine .cons (.box ?_) (.cons (.box ?_) .nil);change uj m (aK m (aj.wr F (strOf (lm (rowB b.length fun i=>oz b (0+i)) (aBF 0)))) u).2=_;rw[xP];rfl;change [PC.lit (.string c),PC.lit (.int .i64 (IntKind.wrap .i64 (e+1))),PC.lit (.int .i64 0)]=_;rw[y];refine gZ ?_
  all_goals rfl
def bPp:ji->Option (CS×Bj)
 |[.w (.one (.lit (.int .i64 rec))),.w (.one (.lit (.string c)))]=>some (fun m s=>(0<=rec/\rec<=3)/\um m s,YX rec c)|_=>none
theorem aWm(m:jf)(s:ja):b_ prog af 90 (dI 96 (yt m s bPp)):=
 fD (aB func90 ai rfl) (fun d C F h=>by
  unfold bPp at h;split at h;cases h;exact fun m s a b c=>bDz _ b.1 _ m s a b.2 c
  cases h)
theorem aXw:jq prog af (find []):=⟨aY (fun p a=>by cases a),dB⟩
theorem bKm(e:Int):fQ prog af 31 true [dw e] (.w (.agg (h_ (eF e)))):=by have M:=aXw;refine bH func31 rfl rfl bJ (fun A b a c=>?_);refine iC ?_;exact kE
def DC(m:jm):Int:=if m.kind<1\/7<m.kind then 1 else if (m.kind=1\/m.kind=3)/\1000<m.payload.size then 2 else
 if m.kind=5/\(m.ol<0\/16<=m.ol\/¬m.ol.tmod 2=0\/m.ot=m.id) then 1 else if m.kind=7/\¬m.xt=m.id then 1 else 0
theorem Jy(m:jm):fQ prog af 30 true [.w (.agg (w_ m))] (dw (DC m)):=by
 have M:=aXw;refine bH func30 rfl rfl bJ (fun A p o q=>?_);obtain⟨e,g⟩:=jc (DC m);rw[g];unfold DC at g;refine aI ?_;refine aJ (fun f=>?_) (fun f=>?_);refine aI ?_;have h:m.kind<1\/7<m.kind:=by simp at f;omega
 rw[au h] at g;rw[<-g];exact kE;have i:¬(m.kind<1\/7<m.kind):=by simp at f;omega
 rw[ah i] at g;refine jU (fun f=>?_) (fun f=>?_);refine aI ?_;have h:(m.kind=1\/m.kind=3)/\1000<m.payload.size:=by simp at f;omega
 rw[au h] at g;rw[<-g];exact kE;have n:¬((m.kind=1\/m.kind=3)/\1000<m.payload.size):=by simp at f;omega
 rw[ah n] at g;refine dS ?_;refine qG ?_ ?_;simp;exact⟨fun a b=>⟨a,b⟩,fun a b c=>⟨a,b,c⟩,fun a b c d=>⟨a,⟨b,c⟩,d⟩⟩;refine cO (fun f=>?_) (fun f=>?_);refine aI ?_
 have h:m.kind=5/\(m.ol<0\/16<=m.ol\/¬m.ol.tmod 2=0\/m.ot=m.id):=by
  simp at f;rcases f with⟨i,((h|h)|h)|h⟩
  exact⟨i,.inl h⟩;exact⟨i,.inr (.inl h)⟩;exact⟨i,.inr (.inr (.inl h))⟩;exact⟨i,.inr (.inr (.inr h))⟩
 rw[au h] at g;rw[<-g];exact kE;have l:¬(m.kind=5/\(m.ol<0\/16<=m.ol\/¬m.ol.tmod 2=0\/m.ot=m.id)):=by simp at f;rintro⟨j,h⟩;obtain⟨⟨⟨a,b⟩,c⟩,d⟩:=f j;rcases h with h|h|h|h;omega;omega;exact h c;exact d h
 rw[ah l] at g;refine jU (fun f=>?_) (fun f=>?_);refine aI ?_;have h:m.kind=7/\¬m.xt=m.id:=by simp at f;exact f
 rw[au h] at g;rw[<-g];exact kE;have k:¬(m.kind=7/\¬m.xt=m.id):=by simp at f;exact fun h=>h.2 (f h.1)
 rw[ah k] at g;rw[<-g];refine dS ?_;exact kE
def dgK(b:di)(k:Nat):di:=b.take k++Pi (16-k) 0
theorem PM(b:di){k:Nat}(d:k<16)(hb:16<=b.length):(dgK b k).set k (UInt8.ofNat ((((b.getD k 0).toNat:Int))).toNat)=dgK b (k+1):=by
 have c:UInt8.ofNat ((((b.getD k 0).toNat:Int))).toNat=b.getD k 0:=by rw[VM];exact UInt8.ofNat_toNat
 rw[c];unfold dgK;have a:(b.take k).length=k:=by rw[ww];omega
 rw[List.set_append_right _ _ a_,a,aBa,show 16-k=(15-k)+1 by omega,List.replicate_succ,List.set_cons_zero,List.take_succ_eq_append_getElem a_,GM,show 16-(k+1)=15-k by omega,
  zG,zH a_,aCM]
 rfl
def aJH(b:di)(k:Nat):St:=⟨[(0,none,o6 b),(2,none,dm (.pt 0 0 0)),(3,none,dm (.pt 1001 0 0)),(4,none,dw k)],[(0,none,0,.box 23 [.bs 16 (Pi 16 0)]),(1001,none,0,.box 23 [.bs 16 (dgK b k)])]⟩
theorem KU(b:di)(hb:16<=b.length):fQ prog af 153 true [o6 b] (.w (.agg [.bs 16 (b.take 16)])):=by
 have M:=aXw;refine bH func153 rfl rfl bJ (fun A j e h=>?_);refine iC ?_;refine jG ?_;refine mZ (aJH b 0) ?_;refine aN ?_;refine dX 16 (fun k t=>t=aJH b k) 0 rfl a_ (fun k t g i=>?_);subst g;refine aJ (fun d=>?_) (fun d=>?_)
 have c:k<16:=by
  have:(k:Int)<16:=by simpa using d
  omega
 refine gQ ?_;refine aN ?_;refine aS M h e (ay) ai ?_ ?_;simp;exact⟨a_,a_,c,Int.ofNat_lt.2 (UInt8.toNat_lt _)⟩;change kw _ _ _ _ _;refine fJ ?_;intro a w f;refine⟨k+1,_,a_,a_,rfl,(f.reset (kT:=[0,2,3,4]) (kO:=[0,1001]) ay d_).same ?_ ?_⟩;exact .cr (.cr (.cr (.cons (by rw[bW k a_]) .nil)));refine .cb (.cons (.box ?_) .nil);rw[<-PM b c hb];rfl
 have c:k=16:=by
  have:¬(k:Int)<16:=by simpa using d
  omega
 subst c;refine dK ?_;change kw _ _ _ _ _;refine gB ?_;show PV.w (PW.agg [PC.bs 16 (List.take 16 b++[])])=_;rw[AC]
def Yb:List (Nat×Spec):=(23,Vd)::NL
theorem O4:∀ p∈Yb,b_ prog af p.1 p.2:=by intro p a;rcases List.mem_cons.1 a with rfl|a;exact Xe;exact U2 p a
theorem aIP:jq prog af (find Yb):=⟨aY O4,dB⟩
theorem Jw(m:jm)(t:di)(n:Int)(a:gy n)(hl:m.link.length=16)(b:t.length=16):fQ prog af 93 true [.w (.agg (w_ m)),.w (.agg [.bs 16 t,.lit (.int .i64 n)])] (.w (.agg [.bs 16 (keyS m.link t n)])):=by have M:=aIP;have c:=aO n;refine bH func93 rfl rfl bJ (fun A e d f=>?_);refine bU ?_ ?_;simp;rw[nD hl,nD b];exact⟨a,a_,jb,a_,a_⟩;refine jB ?_;show PV.w (PW.agg [PC.bs 16 (mX (rowB 16 (oz m.link)) _ ([]++[rowB 16 (oz t)]++[rowB (dn n).length (oz (dn n))]))])=_;rw[nD hl,nD b,eP];rfl
def rX(l:g_):Option jm:=match l with
 |[.lit (.int .i64 k),.bs 16 r,.bs 16 i,.bs 16 a,.lit (.string p),.bs 16 ot,.lit (.int .i64 ol),.bs 16 xt,.lit (.int .i64 xl),.lit (.int .i64 bn),.lit (.string bc),.bs 16 bt]=>some ⟨k,r,i,a,p,ot,ol,xt,xl,bn,bc,bt⟩|_=>none
theorem lQ{l:g_}{m:jm}(h:rX l=some m):l=w_ m:=by unfold rX at h;split at h;cases h;rfl;cases h
def JD:Spec:=aV true fun a=>match a with
 |[.w (.agg ol),.w (.agg [.bs 16 t,.lit (.int .i64 n)])]=>(match rX ol with
  |some m=>some (gy n/\m.link.length=16/\t.length=16,.w (.agg [.bs 16 (keyS m.link t n)]))|none=>none)
 |_=>none
theorem SA:b_ prog af 93 JD:=by
 refine aU (aB func93 ai rfl) (fun e p r a c=>?_);split at a;rename_i d t n;cases b:rX d with
 |none=>rw[b] at a;cases a|some m=>rw[b] at a;cases a;rw[lQ b];exact Jw m t n c.1 c.2.1 c.2.2
 cases a
def Ya:List (Nat×Spec):=(93,JD)::Yb
theorem O3:∀ p∈Ya,b_ prog af p.1 p.2:=by intro p a;rcases List.mem_cons.1 a with rfl|a;exact SA;exact O4 p a
theorem aSL:jq prog af (find Ya):=⟨aY O3,dB⟩
theorem Jm(m:jm)(r:jv)(a:gy r.ol)(hl:m.link.length=16)(b:r.ot.length=16)(c:r.payload.size<=10000):fQ prog af 92 true [.w (.agg (w_ m)),.w (.agg (qo r))] (.w (.agg (h_ (iD m.link r)))):=by have M:=aSL;refine bH func92 rfl rfl bJ (fun A e d f=>?_);refine aI ?_;refine bU ?_ ?_;simp;exact⟨⟨a,hl,b⟩,a,c⟩;refine aI ?_;exact kE
def Nv(root:di)(r:jv)(L:di):St:=⟨[(2,none,dm (.pt 0 0 0)),(3,none,dm (.pt 1 0 0)),(5,none,dm (.ow 1000 0 1 0 L.length))],[(0,none,0,.box 23 [.bs 16 root]),(1,none,0,.box 131 (qo r)),(1000,none,0,.arr 5 1 L.length (oz L))]⟩
def WO(n:Int)(c:jy)(a:di)(L:di):St:=⟨[(6,none,dm (.pt 6008 0 0)),(7,none,dm (.ow 7000 0 1 0 L.length))],[(6008,none,0,.box 27 [.lit (.int .i64 n),.lit (.string c),.bs 16 a]),(7000,none,0,.arr 5 1 L.length (oz L))]⟩
theorem aQe(Y:di)(i:Nat):ru 0 (fun i=>([]:List g_).getD i []) (fun i=>oz Y (0+i)) i=oz Y i:=by unfold ru;rw[ah a_,aDU];dsimp only;rw[mf]
theorem wO(X Y:di)(i:Nat):ru X.length (oz X) (fun i=>oz Y (0+i)) i=oz (X++Y) i:=by simp only[mf];exact congrFun (wL X Y) i
theorem aVj(Y:di)(i:Nat):(ru 0 (fun i=>([]:List g_).getD i []) (fun i=>oz Y (0+i)) i).all (bT false)=true:=by rw[aQe];rfl
theorem yO(X Y:di)(i:Nat):(ru X.length (oz X) (fun i=>oz Y (0+i)) i).all (bT false)=true:=by rw[wO];rfl
theorem bEp(r:jv)(root:di)(h1:gy r.kind)(h2:gy r.level)(h3:gy r.ol)(h4:r.ot.length=16)(h5:root.length=16)(I:r.payload.size<=5000):fQ prog af 91 true [.w (.agg [.bs 16 root]),.w (.agg (qo r))] (n_ (gG root r)):=by
 have M:=aIP;have b:prog.types[5].bytes=1:=ai;have d:prog.types[5].size=1:=ai;have H:=aO r.kind;have G:=aO r.level;have F:=aO r.ol;have E:=fG r.payload.data.toList;have D:r.payload.data.toList.length=r.payload.size:=nz;refine bH func91 rfl rfl bJ (fun A K J L=>?_);refine bU ?_ ?_;simp;rw[b];exact⟨h1,a_⟩;refine bK (s':=Nv root r (dn r.kind)) (fun a w e=>(e.reset (kT:=[2,3,5]) (kO:=[0,1,1000]) ay ?_).same ?_ ?_) ?_;exact⟨fun i _=>aVj _ i,trivial⟩;exact .cr (.cr (.cons (by rw[d,mf]) .nil));exact .cb (.cb (.cons (.arr (by rw[mf]) (fun i _=>aQe _ i)) .nil));refine aH ?_ ?_;simp;rw[b];exact⟨h2,a_⟩;refine bK (s':=Nv root r (dn r.kind++dn r.level)) (fun a w e=>(e.reset (kT:=[2,3,5]) (kO:=[0,1,1000]) ay ?_).same ?_ ?_) ?_;exact⟨fun i _=>yO _ _ i,trivial⟩;exact .cr (.cr (.cons (by rw[d,gz]) .nil));exact .cb (.cb (.cons (.arr (by rw[gz]) (fun i _=>wO _ _ i)) .nil));obtain⟨q,j⟩:∃ X,dn r.kind++dn r.level=X:=⟨_,rfl⟩;have x:q.length<=20:=by rw[<-j,gz];omega
 rw[j];refine aH ?_ ?_;simp;rw[b];omega;refine bK (s':=Nv root r (q++r.ot)) (fun a w e=>(e.reset (kT:=[2,3,5]) (kO:=[0,1,1000]) ay ?_).same ?_ ?_) ?_;exact⟨fun i _=>yO _ _ i,trivial⟩;exact .cr (.cr (.cons (by rw[d,gz,h4]) .nil));exact .cb (.cb (.cons (.arr (by rw[gz,h4]) (fun i _=>wO _ _ i)) .nil));obtain⟨p,h⟩:∃ X,q++r.ot=X:=⟨_,rfl⟩;have u:p.length<=36:=by rw[<-h,gz];omega
 rw[h];refine aH ?_ ?_;simp;rw[b];exact⟨h3,a_⟩;refine bK (s':=Nv root r (p++dn r.ol)) (fun a w e=>(e.reset (kT:=[2,3,5]) (kO:=[0,1,1000]) ay ?_).same ?_ ?_) ?_;exact⟨fun i _=>yO _ _ i,trivial⟩;exact .cr (.cr (.cons (by rw[d,gz]) .nil));exact .cb (.cb (.cons (.arr (by rw[gz]) (fun i _=>wO _ _ i)) .nil));obtain⟨o,g⟩:∃ X,p++dn r.ol=X:=⟨_,rfl⟩;have t:o.length<=46:=by rw[<-g,gz];omega
 rw[g];refine aH ?_ ?_;simp;rw[b];exact⟨a_,a_⟩;refine bK (s':=Nv root r (o++bI r.payload.data.toList)) (fun a w e=>(e.reset (kT:=[2,3,5]) (kO:=[0,1,1000]) ay ?_).same ?_ ?_) ?_;exact⟨fun i _=>yO _ _ i,trivial⟩;exact .cr (.cr (.cons (by rw[d,gz]) .nil));exact .cb (.cb (.cons (.arr (by rw[gz]) (fun i _=>wO _ _ i)) .nil));have l:o++bI r.payload.data.toList=jZ r:=by rw[<-g,<-h,<-j];unfold jZ;simp only[GM]
 rw[l];have y:(jZ r).length<=6000:=by rw[<-l,gz];omega
 obtain⟨P,hP⟩:=jc (jZ r);rw[hP] at y ⊢;refine aH ?_ ?_;simp;rw[nD h5];exact⟨⟨a_,jb⟩,h2,by show (strOf P).size<=10000;rw[bC];omega⟩;obtain⟨c,n⟩:=jc (dM (kR root) r.level P);refine aW (⟨[(6,none,dm (.pt 6008 0 0))],[(6008,none,0,.box 27 [.lit (.int .i64 r.level),.lit (.string (strOf c)),.bs 16 (tq (kR root) r.level c)])]⟩) ?_ ?_ ?_;exact iq;refine .cons (.box ?_) .nil;rw[nD h5,eP,<-n];rfl;have z:c.length=P.length:=by rw[<-n,cZ]
 have m:(tq (kR root) r.level c).length=16:=gW _ _ _;have C:=fG c;refine aH ?_ ?_;simp;rw[b];exact⟨h2,a_⟩;refine bK (s':=WO r.level (strOf c) (tq (kR root) r.level c) (dn r.level)) (fun a w e=>(e.reset (kT:=[6,7]) (kO:=[6008,7000]) ay ?_).same ?_ ?_) ?_;exact⟨fun i _=>aVj _ i,trivial⟩;exact .cr (.cons (by rw[d,mf]) .nil);exact .cb (.cons (.arr (by rw[mf]) (fun i _=>aQe _ i)) .nil);refine aH ?_ ?_;simp;rw[b,bY,bC];omega;rw[bY];refine bK (s':=WO r.level (strOf c) (tq (kR root) r.level c) (dn r.level++bI c)) (fun a w e=>(e.reset (kT:=[6,7]) (kO:=[6008,7000]) ay ?_).same ?_ ?_) ?_;exact⟨fun i _=>yO _ _ i,trivial⟩;exact .cr (.cons (by rw[d,gz]) .nil);exact .cb (.cons (.arr (by rw[gz]) (fun i _=>wO _ _ i)) .nil);obtain⟨k,f⟩:∃ X,dn r.level++bI c=X:=⟨_,rfl⟩;have s:k.length<=7000:=by rw[<-f,gz];omega
 rw[f];refine aH ?_ ?_;simp;rw[b];omega;refine jB ?_;show PV.w (PW.one (PC.lit (Value.string (strOf (rowB (k.length+16) (ru k.length (oz k) fun i=>oz (tq (kR root) r.level c) (0+i)))))))=n_ (gG root r);have B:(ru k.length (oz k) fun i=>oz (tq (kR root) r.level c) (0+i))=oz (k++tq (kR root) r.level c):=funext fun i=>wO _ _ i;rw[B,nD (by rw[gz,m])];unfold gG mG;rw[hP,n,<-f,GM]
def JE:Spec:=aV true fun a=>match a with
 |[.w (.agg [.bs 16 root]),.w (.agg l)]=>(match IA l with
  |some r=>some ((gy r.kind/\gy r.level/\gy r.ol/\r.ot.length=16/\r.payload.size<=5000)/\root.length=16,n_ (gG root r))|none=>none)
 |_=>none
theorem bKq:b_ prog af 91 JE:=by
 refine aU (aB func91 ai rfl) (fun e p r b a=>?_);split at b;rename_i c l;cases d:IA l with
 |none=>rw[d] at b;cases b|some q=>rw[d] at b;cases b;rw[zN d];exact bEp q c a.1.1 a.1.2.1 a.1.2.2.1 a.1.2.2.2.1 a.2 a.1.2.2.2.2
 cases b
theorem SI:b_ prog af 153 (IG (fun l=>16<=l.length) fun l=>.w (.agg [.bs 16 (l.take 16)])):=pM (aB func153 ai rfl) KU
def kdT(root:di)(s:jy)(q:Int)(p:di):jv×Bool:=
 if (dh p).2.2≠0 then (BA,false) else
 if (dh (p.drop (dh p).2.1)).2.2≠0\/p.length<(dh p).2.1+(dh (p.drop (dh p).2.1)).2.1+16\/(dh (p.drop (dh p).2.1)).1≠q\/(dh (p.drop (dh p).2.1)).1<0\/16<(dh (p.drop (dh p).2.1)).1\/(dh p).1<1\/2<(dh p).1 then (BA,false) else
 if (dh (p.drop ((dh p).2.1+(dh (p.drop (dh p).2.1)).2.1+16))).2.2≠0 then (BA,false) else
 if (iF (p.drop ((dh p).2.1+(dh (p.drop (dh p).2.1)).2.1+16+(dh (p.drop ((dh p).2.1+(dh (p.drop (dh p).2.1)).2.1+16))).2.1))).2.2≠0 \/
  (dh p).2.1+(dh (p.drop (dh p).2.1)).2.1+16+(dh (p.drop ((dh p).2.1+(dh (p.drop (dh p).2.1)).2.1+16))).2.1+(iF (p.drop ((dh p).2.1+(dh (p.drop (dh p).2.1)).2.1+16+(dh (p.drop ((dh p).2.1+(dh (p.drop (dh p).2.1)).2.1+16))).2.1))).2.1≠p.length then (BA,false) else
 (
  ⟨(dh p).1,(dh (p.drop (dh p).2.1)).1,(p.drop ((dh p).2.1+(dh (p.drop (dh p).2.1)).2.1)).take 16,(dh (p.drop ((dh p).2.1+(dh (p.drop (dh p).2.1)).2.1+16))).1,strOf (iF (p.drop ((dh p).2.1+(dh (p.drop (dh p).2.1)).2.1+16+(dh (p.drop ((dh p).2.1+(dh (p.drop (dh p).2.1)).2.1+16))).2.1))).1⟩,
  (gG root ⟨(dh p).1,(dh (p.drop (dh p).2.1)).1,(p.drop ((dh p).2.1+(dh (p.drop (dh p).2.1)).2.1)).take 16,(dh (p.drop ((dh p).2.1+(dh (p.drop (dh p).2.1)).2.1+16))).1,strOf (iF (p.drop ((dh p).2.1+(dh (p.drop (dh p).2.1)).2.1+16+(dh (p.drop ((dh p).2.1+(dh (p.drop (dh p).2.1)).2.1+16))).2.1))).1⟩).toList==s.toList)
def ER(root:di)(s:jy)(b:di):jv×Bool:=
 if (dh b).2.2≠0 then (BA,false) else
 if (iF (b.drop (dh b).2.1)).2.2≠0\/b.length≠(dh b).2.1+(iF (b.drop (dh b).2.1)).2.1+16 then (BA,false) else
 if tq (kR root) (dh b).1 (iF (b.drop (dh b).2.1)).1=b.drop ((dh b).2.1+(iF (b.drop (dh b).2.1)).2.1) then kdT root s (dh b).1 (dM (kR root) (dh b).1 (iF (b.drop (dh b).2.1)).1) else (BA,false)
def Ny:List (Nat×Spec):=(91,JE)::(153,IG (fun l=>16<=l.length) fun l=>.w (.agg [.bs 16 (l.take 16)]))::(151,IG jC fun l=>zV (dh l))::(152,IG jC fun l=>Ew (iF l))::Ya
theorem O1:∀ p∈Ny,b_ prog af p.1 p.2:=by intro p a;simp only[Ny,xn] at a;rcases a with rfl|rfl|rfl|rfl|a;exact bKq;exact SI;exact pM (aB func151 ai rfl) aHa;exact pM (aB func152 ai rfl) aBz;exact O3 p a
theorem aSK:jq prog af (find Ny):=⟨aY O1,dB⟩
def FP(root:di):Wr:=[(0,none,0,.box 23 [.bs 16 root]),(1,none,0,.box 131 (qo BA))]
def Bd(s:jy):List (Nat×og×PV):=[(1,none,n_ s),(2,none,dm (.pt 0 0 0)),(4,none,dm (.pt 1 0 0))]
theorem yX{b:di}{k:Nat}(h:k<=b.length):(rowB ((b.length:Int)-(k:Int)).toNat fun i=>oz b ((k:Int).toNat+i))=b.drop k:=by rw[show ((b.length:Int)-(k:Int)).toNat=b.length-k from a_,show (k:Int).toNat=k from a_,lU a_];exact WF (by rw[MM];exact dE _)
theorem bEs(root:di)(s:jy)(hr:root.length=16)(hs:s.size<=5000):fQ prog af 114 true [.w (.agg [.bs 16 root]),n_ s] (GU (ER root s s.data.toList)):=by
 have M:=aSK;have L:s.data.toList.length=s.size:=nz;obtain⟨m,d⟩:=jc (ER root s s.data.toList);rw[d];unfold ER at d;refine bH func114 rfl rfl bJ (fun A hS hn hI=>?_);refine bU ?_ ?_;simp;omega;refine aW (⟨(6,none,o6 s.data.toList)::Bd s,FP root⟩) ?_ ?_ ?_;refine .cons ?_ ((iT _));rw[<-L];exact r_;generalize s.data.toList=b at d L ⊢;refine aH ?_ ?_;simp;show b.length<4611686018427387904;omega;refine aW (⟨(7,none,dw (dh b).1)::(8,none,dw ((dh b).2.1:Int))::(9,none,dw (dh b).2.2)::(6,none,o6 b)::Bd s,FP root⟩) ?_ ?_ ?_;rw[eP];exact iq;exact r_;have K:=nR b;have J:=fV b;generalize hg:dh b=g at *;obtain⟨q,k,e⟩:=g;dsimp only at *;refine aJ (fun a=>?_) (fun a=>?_);refine aI ?_;have h:e≠0:=by simpa using a
 rw[au h] at d;refine jB ?_;rw[<-d];rfl;have h:¬e≠0:=by simpa using a
 rw[ah h] at d;refine jK ?_ ?_;simp;refine⟨K.1,?_⟩;unfold jC;rw[dP];omega;have I:=kD (b.drop k);have B:=aPe (b.drop k);rw[MM] at I B;refine aW (⟨(10,none,n_ (strOf (iF (b.drop k)).1))::(11,none,dw ((iF (b.drop k)).2.1:Int))::(9,none,dw (iF (b.drop k)).2.2)::(7,none,dw q)::(8,none,dw (k:Int))::(6,none,o6 b)::Bd s,FP root⟩) ?_ ?_ ?_;rw[yX a_];exact iq;exact r_;generalize iF (b.drop k)=g2 at *;obtain⟨c,n,F⟩:=g2;dsimp only at *;have u:IntKind.wrap .i64 ((k:Int)+(n:Int))=((k+n:Nat):Int):=by rw[PP];omega
 have a1:IntKind.wrap .i64 (((k+n:Nat):Int)+16)=((k+n+16:Nat):Int):=by rw[PP];omega
 refine aJ (fun a=>?_) (fun a=>?_);refine aI ?_;simp[u] at a;have P:F≠0\/b.length≠k+n+16:=by rcases a with z|z;exact .inl z;refine .inr (fun V=>z ?_);rw[PP];omega
 rw[au P] at d;refine jB ?_;rw[<-d];rfl;simp[u] at a;have P:¬(F≠0\/b.length≠k+n+16):=by rintro (z|z);exact z a.1;have V:=a.2;rw[PP] at V;omega
 rw[ah P] at d;have a5:b.length=k+n+16:=by by_cases U:b.length=k+n+16;exact U;exact absurd (.inr U) P
 refine fZ ?_;have a2:gy q:=J;have x:(rowB ((b.length:Int)-IntKind.wrap .i64 ((k:Int)+(n:Int))).toNat fun i=>oz b ((IntKind.wrap .i64 ((k:Int)+(n:Int))).toNat+i))=b.drop (k+n):=by rw[u];exact yX a_
 have p:(b.drop (k+n)).length=16:=by rw[MM];omega
 refine aH ?_ ?_;simp;rw[x,p,nD hr,bC,u];exact⟨⟨a_,jb⟩,⟨a_,a_⟩,a_,a2,a_⟩;refine aW (⟨(9,none,dw (bif opened (kR root) q (strOf c) (b.drop (k+n)) then 0 else 8))::(12,none,n_ (bif opened (kR root) q (strOf c) (b.drop (k+n)) then strOf (dM (kR root) q (strOf c).data.toList) else { data:=#[] }))::(7,none,dw q)::Bd s,FP root⟩) ?_ ?_ ?_;rw[x,nD hr,WF (Nat.le_of_eq p)];exact iq;exact r_;generalize b.drop (k+n)=t at *;have a7:=cZ (kR root) q c;by_cases H:tq (kR root) q c=t;rotate_left 1;have T:opened (kR root) q (strOf c) t=false:=by unfold opened;rw[bY];simpa using H
 rw[T];rw[ah H] at d;change kw _ _ ⟨(9,none,dw 8)::(12,none,n_ { data:=#[] })::(7,none,dw q)::Bd s,FP root⟩ _ _;refine aJ (fun a=>?_) (fun a=>?_);refine gB ?_;rw[<-d];rfl;cases a;have T:opened (kR root) q (strOf c) t=true:=by unfold opened;rw[bY,H];simp
 rw[T,bY];rw[au H] at d;generalize dM (kR root) q c=X at *;change kw _ _ ⟨(9,none,dw 0)::(12,none,n_ (strOf X))::(7,none,dw q)::Bd s,FP root⟩ _ _;refine aJ (fun a=>?_) (fun a=>?_);cases a;refine jK ?_ ?_;simp;rw[bC];omega;refine aW (⟨(13,none,o6 X)::(7,none,dw q)::Bd s,FP root⟩) ?_ ?_ ?_;refine .cons ?_ ((iT _));show dm (.sl 1 (strOf X).size (oz (strOf X).data.toList))=_;rw[bC,bY];exact r_;have a8:X.length<=5000:=a_;clear hg T H x p I B K u a1 P a;unfold kdT at d;refine aH ?_ ?_;simp;unfold jC;omega;have p1:=nR X;have q1:=fV X;refine aW (⟨(14,none,dw (dh X).1)::(15,none,dw ((dh X).2.1:Int))::(16,none,dw (dh X).2.2)::(13,none,o6 X)::(7,none,dw q)::Bd s,FP root⟩) ?_ ?_ ?_;rw[eP];exact iq;exact r_;generalize dh X=g1 at *;obtain⟨r,l,e1⟩:=g1;dsimp only at *;refine aJ (fun a=>?_) (fun a=>?_);refine aI ?_;have h:e1≠0:=by simpa using a
 rw[au h] at d;refine jB ?_;rw[<-d];rfl;have h1:¬e1≠0:=by simpa using a
 rw[ah h1] at d;refine jK ?_ ?_;simp;refine⟨a_,?_⟩;unfold jC;rw[dP];omega;have p2:=nR (X.drop l);have q2:=fV (X.drop l);rw[MM] at p2;refine aW (⟨(17,none,dw (dh (X.drop l)).1)::(18,none,dw ((dh (X.drop l)).2.1:Int))::(19,none,dw (dh (X.drop l)).2.2)::(14,none,dw r)::(15,none,dw (l:Int))::(13,none,o6 X)::(7,none,dw q)::Bd s,FP root⟩) ?_ ?_ ?_;rw[yX a_];exact iq;exact r_;generalize dh (X.drop l)=g2 at *;obtain⟨o,E,F⟩:=g2;dsimp only at *;have a0:IntKind.wrap .i64 ((l:Int)+(E:Int))=((l+E:Nat):Int):=by rw[PP];omega
 have y:IntKind.wrap .i64 (((l+E:Nat):Int)+16)=((l+E+16:Nat):Int):=by rw[PP];omega
 refine aI ?_;refine aW (⟨(20,none,dw ((l+E:Nat):Int))::(17,none,dw o)::(19,none,dw F)::(14,none,dw r)::(13,none,o6 X)::(7,none,dw q)::Bd s,FP root⟩) ?_ ?_ ?_;exact .cons (by rw[a0]) ((iT _));exact r_;obtain⟨j,a4⟩:=jc (l+E);rw[a4] at d y ⊢;refine aJ (fun a=>?_) (fun a=>?_);refine aI ?_;have h:F≠0\/X.length<j+16\/o≠q\/o<0\/16<o\/r<1\/2<r:=by simp[y] at a;omega
 rw[au h] at d;refine jB ?_;rw[<-d];rfl;have z:¬(F≠0\/X.length<j+16\/o≠q\/o<0\/16<o\/r<1\/2<r):=by simp[y] at a;omega
 rw[ah z] at d;have a3:j+16<=X.length:=by rcases aAW X.length (j+16) with h|h;exact absurd (.inr (.inl h)) z;exact h
 refine dS ?_;refine aH ?_ ?_;simp;rw[dP];omega;obtain⟨D,C⟩:=jc ((X.drop j).take 16);have W:D.length=16:=by rw[<-C,ww,MM];omega
 rw[C] at d;refine aW (⟨(20,none,dw (j:Int))::(21,none,dm (.pt 19003 0 0))::(13,none,o6 X)::Bd s,(19003,none,0,.box 131 (qo ⟨r,o,D,0,aC⟩))::FP root⟩) ?_ ?_ ?_;exact iq;refine .cons (.box ?_) ((dU _));rw[yX a_,C];rfl;refine aI ?_;have Z:IntKind.wrap .i64 ((j:Int)+16)=((j+16:Nat):Int):=y;refine aW (⟨(20,none,dw ((j+16:Nat):Int))::(21,none,dm (.pt 19003 0 0))::(13,none,o6 X)::Bd s,(19003,none,0,.box 131 (qo ⟨r,o,D,0,aC⟩))::FP root⟩) ?_ ?_ ?_;exact .cons (by rw[Z]) ((iT _));exact r_;obtain⟨at2,O⟩:=jc (j+16);rw[O] at d a3 ⊢;refine aH ?_ ?_;simp;refine⟨a_,?_⟩;unfold jC;rw[dP];omega;have p3:=nR (X.drop at2);have q3:=fV (X.drop at2);rw[MM] at p3;refine aW (⟨(8,none,dw (dh (X.drop at2)).1)::(22,none,dw ((dh (X.drop at2)).2.1:Int))::(23,none,dw (dh (X.drop at2)).2.2)::(20,none,dw (at2:Int))::(21,none,dm (.pt 19003 0 0))::(13,none,o6 X)::Bd s,(19003,none,0,.box 131 (qo ⟨r,o,D,0,aC⟩))::FP root⟩) ?_ ?_ ?_;rw[yX a_];exact iq;exact r_;generalize dh (X.drop at2)=g3 at *;obtain⟨ol,S,e3⟩:=g3;dsimp only at *;refine aJ (fun a=>?_) (fun a=>?_);refine aI ?_;have h:e3≠0:=by simpa using a
 rw[au h] at d;refine jB ?_;rw[<-d];rfl;have V:¬e3≠0:=by simpa using a
 rw[ah V] at d;refine fZ ?_;have Y:IntKind.wrap .i64 ((at2:Int)+(S:Int))=((at2+S:Nat):Int):=by rw[PP];omega
 refine iC ?_;refine aW (⟨(20,none,dw ((at2+S:Nat):Int))::(21,none,dm (.pt 19003 0 0))::(13,none,o6 X)::Bd s,(19003,none,0,.box 131 (qo ⟨r,o,D,ol,aC⟩))::FP root⟩) ?_ ?_ ?_;exact .cons (by rw[Y]) ((iT _));exact r_;obtain⟨f,N⟩:=jc (at2+S);rw[N] at d ⊢;refine aH ?_ ?_;simp;refine⟨a_,?_⟩;unfold jC;rw[dP];omega;have p4:=aPe (X.drop f);have z4:=kD (X.drop f);rw[MM] at p4 z4;refine aW (⟨(24,none,n_ (strOf (iF (X.drop f)).1))::(25,none,dw ((iF (X.drop f)).2.1:Int))::(26,none,dw (iF (X.drop f)).2.2)::(20,none,dw (f:Int))::(21,none,dm (.pt 19003 0 0))::(13,none,o6 X)::Bd s,(19003,none,0,.box 131 (qo ⟨r,o,D,ol,aC⟩))::FP root⟩) ?_ ?_ ?_;rw[yX a_];exact iq;exact r_;generalize iF (X.drop f)=g4 at *;obtain⟨a6,Q,e4⟩:=g4;dsimp only at *;have G:IntKind.wrap .i64 ((f:Int)+(Q:Int))=((f+Q:Nat):Int):=by rw[PP];omega
 refine aJ (fun a=>?_) (fun a=>?_);refine aI ?_;have h:e4≠0\/f+Q≠X.length:=by simp[G] at a;omega
 rw[au h] at d;refine jB ?_;rw[<-d];rfl;have U:¬(e4≠0\/f+Q≠X.length):=by simp[G] at a;omega
 rw[ah U] at d;refine dS ?_;refine aH ?_ ?_;simp;exact⟨⟨q1,q2,q3,W,by rw[bC];omega⟩,hr⟩;refine jB ?_;rw[<-d];rfl
def JF:Spec:=aV true fun a=>match a with
 |[.w (.agg [.bs 16 root]),.w (.one (.lit (.string s)))]=>some (root.length=16/\s.size<=5000,GU (ER root s s.data.toList))|_=>none
theorem bKv:b_ prog af 114 JF:=by refine aU (aB func114 ai rfl) (fun c p r a b=>?_);split at a;cases a;exact bEs _ _ b.1 b.2;cases a
def bJh:Spec:=aV true fun a=>match a with
 |[.w (.one (.lit (.int .i64 e)))]=>some (True,.w (.agg (h_ (eF e))))|_=>none
theorem bAt:b_ prog af 31 bJh:=by refine aU (aB func31 ai rfl) (fun b p r a c=>?_);split at a;cases a;exact bKm _;cases a
def kmK(m:jf)(s:ja):List (Nat×Spec):=(113,dI 96 (yt m s bQg))::(90,dI 96 (yt m s bPp)) ::
 (56,dI 96 (yt m s bCp))::(89,dI 96 (yt m s bPv)) ::
 (114,JF)::(31,bJh)::Ny
theorem Nz(m:jf)(s:ja):∀ p∈kmK m s,b_ prog af p.1 p.2:=by intro p a;simp only[kmK,xn] at a;rcases a with rfl|rfl|rfl|rfl|rfl|rfl|a;exact aWw m s;exact aWm m s;exact aLb m s;exact aRv m s;exact bKv;exact bAt;exact O1 p (by simpa[Ny] using a)
theorem Yc(m:jf)(s:ja):jq prog af (find (kmK m s)):=⟨aY (Nz m s),dB⟩
theorem bPf{e:Int}{b:Bool}:(bif e != 0 then true else b)=true↔(e≠0\/b=true):=by
 by_cases h:e=0
 ·subst h
  cases b<;>simp
 rw[show (e != 0)=true from by simpa using h];exact⟨fun _=>.inl h,fun _=>rfl⟩
theorem aYx{e:Int}{b:Bool}(h:(bif e != 0 then true else b)=false):¬(e≠0\/b=true):=fun a=>by rw[bPf.2 a] at h;cases h
theorem aHN{e:Int}{b:Bool}:(bif e==0 then !b else false)=true↔(e=0/\b=false):=by
 by_cases h:e=0
 ·subst h
  cases b<;>simp
 rw[show (e==0)=false from by simpa using h];exact⟨fun h=>by (cases h),fun a=>absurd a.1 h⟩
theorem LW{e:Int}{b:Bool}(h:(bif e==0 then !b else false)=false):¬(e=0/\b=false):=fun a=>by rw[aHN.2 a] at h;cases h
def jw(op:jm)(m:jf)(s:ja):(jv×Int)×ja:=
 if (AU (aK m (aj.load 3) s)).err≠0\/(aK m (aj.load 3) s).2.stop=true then ((BA,(AU (aK m (aj.load 3) s)).err),(aK m (aj.load 3) s).2)
 else if (ER op.root (AU (aK m (aj.load 3) s)).content (AU (aK m (aj.load 3) s)).content.data.toList).2=true then (((ER op.root (AU (aK m (aj.load 3) s)).content (AU (aK m (aj.load 3) s)).content.data.toList).1,0),(aK m (aj.load 3) s).2)
 else ((BA,8),(aK m (aj.load 3) s).2)
def aHC(p:jv×Int):PV:=.o7 [.agg (qo p.1),.one (.lit (.int .i64 p.2))]
theorem UR(op:jm)(m:jf)(s:ja):(jw op m s).2=(aK m (aj.load 3) s).2:=by
 unfold jw;split;rfl
 ·split<;>rfl
theorem aOt(m:jf)(s:ja):(AU (aK m (aj.load 3) s)).content.size<=2000:=by unfold AU;split;exact x8 _;exact aIk (aCk 3) m s
theorem bKg(op:jm)(hr:op.root.length=16):z_ 88 [.w (.agg (w_ op))] (fun m s=>um m s) (fun m s=>((jw op m s).2,aHC (jw op m s).1)):=by
 intro m c e k i;have M:=Yc m c;dsimp only at i ⊢;rw[UR] at i;obtain⟨R,a⟩:=jc (jw op m c);rw[a];unfold jw at a;have f:=aOt m c;refine dL func88 rfl rfl rfl (fun A n p=>?_);refine bU ?_ ?_;simp;exact⟨e,k,i⟩;obtain⟨o,g⟩:=jc (AU (aK m (aj.load 3) c));obtain⟨s,l⟩:=jc ((aK m (aj.load 3) c).2);refine aW (⟨[(0,none,dm (.pt px 0 0)),(3,none,dm (.pt 0 0 0)),(4,none,dm (.pt 1 0 0)),(5,none,dw 0),(6,none,dm (.pt 1002 0 0))],[(px,none,0,.box 96 (uj m s)),(0,none,0,.box 31 (w_ op)),(1,none,0,.box 131 (qo BA)),(1002,none,0,.box 164 [.lit (.string o.content),.lit (.int .i64 o.seq),.lit (.int .i64 o.err)])]⟩) ?_ ?_ ?_;exact iq;refine .cons (.box ?_) (.cb (.cb (.cons (.box ?_) .nil)));show uj m (aK m (aj.load 3) c).2=_;rw[l];rw[<-g];rw[g,l] at a;rw[g] at f;refine aJ (fun b=>?_) (fun b=>?_)
 ·have h:o.err≠0\/s.stop=true:=bPf.1 b;rw[au h] at a;refine aI ?_;rw[<-a];refine gZ ?_
  all_goals rfl
 have h:¬(o.err≠0\/s.stop=true):=aYx b;rw[ah h] at a;refine jK ?_ ?_;simp;exact⟨hr,a_⟩;obtain⟨d,j⟩:=jc (ER op.root o.content o.content.data.toList);rw[j] at a;obtain⟨r,ok⟩:=d;dsimp only at a;refine aW (⟨[(4,none,dm (.pt 1 0 0)),(5,none,dw 0),(7,none,dm (.pt 4008 0 0)),(8,none,t_ ok)],[(px,none,0,.box 96 (uj m s)),(1,none,0,.box 131 (qo BA)),(4008,none,0,.box 131 (qo r))]⟩) ?_ ?_ ?_;refine .cr (.cr (.cr (.cons ?_ .nil)));rw[j];refine .cb (.cb (.cons (.box ?_) .nil));rw[j];rfl;refine jG ?_;cases ok with
 | false=>
  rw[ah aAQ] at a;refine cO (fun b=>?_) (fun b=>?_)
  ·refine aI ?_;rw[<-a];refine gZ ?_
   all_goals rfl
  cases b
 |true=>
  rw[au rfl] at a;refine cO (fun b=>?_) (fun b=>?_);cases b;refine dS ?_;rw[<-a];refine gZ ?_
  all_goals rfl
def ve(op:jm)(r:jv)(m:jf)(s:ja):Int×ja:=((DY 3 (gG op.root r) m s).2.err,(DY 3 (gG op.root r) m s).1)
structure QZ(r:jv):Prop where
 kind:gy r.kind
 level:gy r.level
 ol:gy r.ol
 ot:r.ot.length=16
 payload:r.payload.size<=5000
theorem bJy(op:jm)(r:jv)(hr:op.root.length=16)(h:QZ r):z_ 59 [.w (.agg (w_ op)),.w (.agg (qo r))] (fun m s=>um m s) (fun m s=>((ve op r m s).2,dw (ve op r m s).1)):=by
 intro m d a c b;have M:=Yc m d;unfold ve at b ⊢;dsimp only at b ⊢;refine dL func59 rfl rfl rfl (fun A e f=>?_);refine bU ?_ ?_;simp;exact⟨⟨⟨h.kind,h.level,h.ol,h.ot,h.payload⟩,hr⟩,a,c,b⟩;refine iJ ?_
 all_goals rfl
def nI(t:Nat)(m:jf)(s:ja):Int×ja:=(if (BU m 3 16 t s).1.2=0/\(BU m 3 16 t s).1.1≠t then 21 else (BU m 3 16 t s).1.2,(BU m 3 16 t s).2)
theorem bEe(t:Nat)(l:t<=16):z_ 87 [dw t] (fun m s=>qp m s 3) (fun m s=>((nI t m s).2,dw (nI t m s).1)):=by
 intro m b c k g;have M:=Yc m b;dsimp only at g ⊢;obtain⟨R,a⟩:=jc (nI t m b);rw[a] at g ⊢;unfold nI at a;have j:(BU m 3 16 t b).2.i<=1000000:=by rw[<-a] at g;exact g
 refine dL func87 rfl rfl rfl (fun A o p=>?_);refine bU ?_ ?_;simp;exact⟨c,⟨k,a_⟩,j⟩;obtain⟨q,f⟩:=jc (BU m 3 16 t b);obtain⟨⟨n,e⟩,s⟩:=q;rw[f] at a;dsimp only at a;refine aW (⟨[(1,none,dw t),(5,none,dw n),(6,none,dw e)],[(px,none,0,.box 96 (uj m s))]⟩) ?_ ?_ ?_;refine .cr (.cons ?_ (.cons ?_ .nil));show dw ((BU m 3 (aBF 16) (t:Int).toNat b).1.1:Int)=_;rw[show aBF 16=16 from rfl,VM,f];show dw (BU m 3 (aBF 16) (t:Int).toNat b).1.2=_;rw[show aBF 16=16 from rfl,VM,f];refine .cons (.box ?_) .nil;show uj m (BU m 3 (aBF 16) (t:Int).toNat b).2=_;rw[show aBF 16=16 from rfl,VM,f];refine aJ (fun d=>?_) (fun d=>?_)
 ·have h:e=0/\n≠t:=by
   simp at d;exact⟨d.1,a_⟩
  rw[au h] at a;refine aI ?_;rw[<-a];refine gZ ?_
  all_goals rfl
 ·have h:¬(e=0/\n≠t):=by
   simp at d;exact fun h=>by have:=d h.1;omega
  rw[ah h] at a;refine dS ?_;rw[<-a];refine gZ ?_
  all_goals rfl
def bPy:ji->Option (CS×Bj)
 |[.w (.agg ol),.w (.agg a)]=>match rX ol,IA a with
  |some op,some r=>some (fun m s=>(op.root.length=16/\QZ r)/\um m s,fun m s=>((ve op r m s).2,dw (ve op r m s).1))|_,_=>none
 |_=>none
theorem bEb(m:jf)(s:ja):b_ prog af 59 (dI 96 (yt m s bPy)):=
 fD (aB func59 ai rfl) (fun f C F h=>by
  unfold bPy at h;split at h;split at h;rename_i e d;cases h;rw[lQ e,zN d];exact fun m s a b c=>bJy _ _ b.1.1 b.1.2 m s a b.2 c;cases h
  cases h)
def bQc:ji->Option (CS×Bj)
 |[.w (.one (.lit (.int .i64 t)))]=>some (fun m s=>(0<=t/\t<=16)/\qp m s 3,fun m s=>((nI t.toNat m s).2,dw (nI t.toNat m s).1))|_=>none
theorem aWu(m:jf)(s:ja):b_ prog af 87 (dI 96 (yt m s bQc)):=
 fD (aB func87 ai rfl) (fun d C F h=>by
  unfold bQc at h;split at h;rename_i t;cases h;intro m s a b c;obtain⟨k,rfl⟩:=aBZ b.1.1;exact bEe k (by have:=b.1.2;omega) m s a b.2 c
  cases h)
def bQh:ji->Option (CS×Bj)
 |[.w (.agg ol)]=>match rX ol with
  |some op=>some (fun m s=>op.root.length=16/\um m s,fun m s=>((jw op m s).2,aHC (jw op m s).1))|none=>none
 |_=>none
theorem bEh(m:jf)(s:ja):b_ prog af 88 (dI 96 (yt m s bQh)):=
 fD (aB func88 ai rfl) (fun e C F h=>by
  unfold bQh at h;split at h;split at h;rename_i d;cases h;rw[lQ d];exact fun m s a b c=>bKg _ b.1 m s a b.2 c;cases h
  cases h)
section
variable {α β:Type}
def Bo:aj α->aj (Except Int α)
 |.ret a=>.ret (.ok a)|.ask c g=>if c.kind = -1 then .ret (.error c.ng) else .ask c fun r=>Bo (g r)
def Aa:aj α->Prop
 |.ret _=>True|.ask c k=>c.kind ≠ -1/\∀ r,Aa (k r)
theorem Aa.bind{p:aj α}{f:α->aj β}(b:Aa p)(e:∀ a,Aa (f a)):Aa (p.bind f):=by
 induction p with
 |ret a=>exact e a|ask c k d=>exact⟨b.1,fun r=>d r (b.2 r)⟩
def aSX(f:α->aj (Except Int β)):Except Int α->aj (Except Int β)
 |.ok a=>f a|.error e=>.ret (.error e)
theorem bAe(c:Acc)(g:u_->aj α):Bo (.ask c g)=if c.kind = -1 then .ret (.error c.ng) else .ask c fun r=>Bo (g r):=rfl
theorem bIt(p:aj α)(f:α->aj β):Bo (p.bind f)=(Bo p).bind (aSX fun a=>Bo (f a)):=by
 induction p with
 |ret a=>rfl|ask c k d=>show Bo (.ask c fun r=>(k r).bind f)=_;rw[bAe,bAe];by_cases b:c.kind = -1;rw[au b,au b];rfl;rw[ah b,ah b];show aj.ask c _=aj.ask c _;congr 1;funext r;exact d r
theorem Ip{p:aj α}(h:Aa p):Bo p=p.bind fun a=>.ret (.ok a):=by
 induction p with
 |ret a=>rfl|ask c k b=>unfold Bo;rw[ah h.1];show aj.ask c _=aj.ask c _;congr 1;funext r;exact b r (h.2 r)
theorem bHd(k:Int->α)(p:aj α):aj.catch k p=(Bo p).bind fun x=>.ret (Hr k x):=by
 induction p with
 |ret a=>rfl|ask c g d=>unfold Bo;by_cases b:c.kind = -1;rw[au b];unfold aj.catch;rw[mi b];rfl;rw[ah b,rV k g b];show aj.ask c _=aj.ask c _;congr 1;funext r;exact d r
def AL(m:jf)(p:aj α)(s:ja):Except Int α×ja:=aK m (Bo p) s
theorem aCo(m:jf)(p:aj α)(f:α->aj β)(s:ja):AL m (p.bind f) s=match AL m p s with
  |(.ok a,b)=>AL m (f a) b|(.error e,b)=>(.error e,b):=by
 unfold AL;rw[bIt,dR];obtain⟨x,b⟩:=aK m (Bo p) s
 cases x<;>rfl
theorem kN{m:jf}{p:aj α}{f:α->aj β}{s s':ja}{a:α}(h:AL m p s=(.ok a,s')):AL m (p.bind f) s=AL m (f a) s':=by rw[aCo,h]
theorem qQ{m:jf}{p:aj α}{f:α->aj β}{s s':ja}{e:Int}(h:AL m p s=(.error e,s')):AL m (p.bind f) s=(.error e,s'):=by rw[aCo,h]
theorem aDp{m:jf}{p:aj α}(h:Aa p)(s:ja):AL m p s=(.ok (aK m p s).1,(aK m p s).2):=by unfold AL;rw[Ip h,dR];rfl
theorem pR(m:jf)(e:Int)(s:ja):AL m (iU true e) s=(.ok (),s):=rfl
theorem oL(m:jf)(e:Int)(s:ja):AL m (iU false e) s=(.error e,s):=rfl
theorem tY(m:jf)(a:α)(s:ja):AL m (.ret a) s=(.ok a,s):=rfl
theorem aFr(m:jf)(p:aj α){s:ja}(h:s.stop=true):(AL m p s).2=s:=qW m _ s h
theorem bNq(m:jf)(p:aj α)(s:ja):s.i<=(AL m p s).2.i:=kH m _ s
theorem aYj(m:jf)(p:aj α)(s:ja):Eg s.h (AL m p s).2.h:=jD m _ s
theorem bNr{m:jf}(p:aj α){s:ja}(h:v_ m s)(a:(AL m p s).2.i<=1000000):v_ m (AL m p s).2:=jW _ h a
theorem aPg(b c:Int):Aa (aj.zu b c):=⟨by show (1:Int) ≠ -1;decide,fun _=>trivial⟩
theorem aHp(b c:Int):Aa (aj.yh b c):=⟨by show (2:Int) ≠ -1;decide,fun _=>trivial⟩
theorem Xc(c:Int):Aa (aj.rd c):=⟨by show (3:Int) ≠ -1;decide,fun _=>trivial⟩
theorem bIe(c:Int)(b:jy):Aa (aj.wr c b):=⟨by show (4:Int) ≠ -1;decide,fun _=>trivial⟩
theorem bAz(a b:Int):Aa (aj.read a b):=Aa.bind (aPg _ _) fun _=>Aa.bind (aPg _ _) fun _=>Aa.bind (aPg _ _) fun _=>trivial
theorem aLh(a b:Int):Aa (aj.lh a b):=Aa.bind (aHp _ _) fun _=>Aa.bind (aHp _ _) fun _=>Aa.bind (aHp _ _) fun _=>trivial
theorem Ig(a:Int):∀ (f b:Nat),Aa (aj.up a f b)
 |0,_=>trivial|f+1,b=>Aa.bind (bAz _ _) fun x=>by
  cases x with
  |true=>exact Ig a f (b+1)|false=>exact trivial
theorem bCn(a:Int):∀ (r b:Nat),Aa (aj.down a r b)
 |0,_=>trivial|r+1,b=>Aa.bind (aLh _ _) fun _=>bCn a r (b+1)
theorem aAu(a:Int)(n:Nat):Aa (aj.f_ a n):=Aa.bind (Ig a n 0) fun m=>Aa.bind (bCn a m 0) fun _=>trivial
theorem aCd(a:Int):∀ (f b:Nat),Aa (aj.rq a f b)
 |0,_=>trivial|f+1,b=>Aa.bind (aLh _ _) fun _=>Aa.bind (bAz _ _) fun x=>by
  cases x with
  |true=>exact aCd a f (b+1)|false=>exact trivial
theorem aHl(a:Int)(n t:Nat):Aa (aj.mr a n t):=Aa.bind (aAu a n) fun _=>aCd a _ _
theorem aGs(f:Int):∀ (n:Nat) (b:di),Aa (aj.o9 f n b)
 |0,_=>trivial|n+1,_=>Aa.bind (Xc _) fun _=>aGs f n _
theorem bQu(rec:Int):Aa (aj.cur rec):=Aa.bind (aGs _ 8 []) fun _=>Aa.bind (aGs _ 8 []) fun _=>trivial
theorem NR(rec:Int):Aa (aj.load rec):=by
 unfold aj.load;split
 trivial;exact Aa.bind (bQu rec) fun _=>trivial
theorem bHy(f:Int)(b:di):∀ (n i:Nat),Aa (aj.Fh f b n i)
 |0,_=>trivial|n+1,i=>Aa.bind (bIe _ _) fun _=>bHy f b n (i+1)
theorem Jc(rec:Int)(c:jy):Aa (aj.save rec c):=by
 unfold aj.save;split;trivial;split
 trivial;refine Aa.bind (bQu rec) fun p=>?_
 split
 trivial;exact Aa.bind (Aa.bind (bIe _ _) fun _=>Aa.bind (bHy _ _ _ _) fun _=>bIe _ _) fun _=>trivial
structure I4(r:jv):Prop where
 kind:r.kind=1\/r.kind=2
 l0:0<=r.level
 l1:r.level<=16
 ol:gy r.ol
 ot:r.ot.length=16
 p:r.payload.size<=100000
theorem bFg(root:di)(r:jv)(g:I4 r):wV root (mG root r)=.okR (jZ r):=by
 have e:=g.l0;have d:=g.l1;unfold mG;obtain⟨C,c⟩:=jc (dM (kR root) r.level (jZ r));obtain⟨T,a⟩:=jc (tq (kR root) r.level C);have f:T.length=16:=by rw[<-a];exact gW _ _ _
 have b:C.length<4611686018427387904:=by rw[<-c,cZ];unfold jZ bI;have t:=aO r.kind;have s:=aO r.level;have q:=aO r.ol;have o:=aO (r.payload.data.toList.length:Int);have m:r.payload.data.toList.length=r.payload.size:=nz;have l:=g.p;have k:=g.ot;simp only[gz];omega
 rw[c,a];have j:=jE (n:=r.level) (bI C++T) a_ a_;have i:=mD C T b;unfold wV;rw[j];dsimp only;rw[ah jb,jX _ _ rfl,i];dsimp only;rw[ah (by simp only[gz];omega)];have h:(dn r.level++(bI C++T)).drop ((dn r.level).length+(bI C).length)=T:=by rw[<-GM];exact jX _ _ (by rw[gz])
 rw[h];unfold bLt;rw[au a,<-c,zQ]
theorem bGs(root:di)(r:jv)(g:I4 r):qR root (gG root r)=(r,true):=by
 have b:=g.l0;have a:=g.l1;have d:=g.kind;unfold qR;rw[show (gG root r).data.toList=mG root r from bY _,bFg root r g];unfold MX jZ;dsimp only;have h:=jE (n:=r.kind) (dn r.level++(r.ot++(dn r.ol++bI r.payload.data.toList))) a_ a_;have f:=jE (n:=r.level) (r.ot++(dn r.ol++bI r.payload.data.toList)) a_ a_;have e:=jE (n:=r.ol) (bI r.payload.data.toList) g.ol.1 g.ol.2
 have c:=mD r.payload.data.toList [] (by
  have i:r.payload.data.toList.length=r.payload.size:=nz;have:=g.p
  omega)
 rw[AC] at c;rw[h];dsimp only;rw[jX _ _ rfl,f];dsimp only;rw[jX _ _ rfl];unfold WC
 rw[ah (by
  have:=g.ot;rw[gz];simp
  omega),jX _ _ g.ot.symm,e]
 dsimp only;rw[jX _ _ rfl,c];dsimp only;rw[show (r.ot++(dn r.ol++bI r.payload.data.toList)).take 16=r.ot from by rw[<-g.ot];exact List.take_left,kG];unfold WB;rw[mi];exact⟨rfl,rfl,d,b,a,rfl⟩
theorem Us(root:di)(s:jy)(hs:s.size<=5000)(h:(qR root s).2=true):gG root (qR root s).1=s/\I4 (qR root s).1:=by
 have c:=aPv root s hs;obtain⟨d,a⟩:=jc (qR root s);rw[a] at h c ⊢;unfold qR at a
 have b:(d.1.kind=1\/d.1.kind=2)/\0<=d.1.level/\d.1.level<=16/\gG root d.1=s:=by
  cases f:wV root s.data.toList with
  |EM=>rw[f] at a;rw[<-a] at h;cases h|Es=>rw[f] at a;rw[<-a] at h;cases h|okR p=>rw[f] at a;unfold MX WC at a;dsimp only at a;split at a;rw[<-a] at h;cases h;unfold WB at a;rw[<-a] at h ⊢;have e:=of_decide_eq_true h;exact⟨e.2.2.1,e.2.2.2.1,e.2.2.2.2.1,e.2.2.2.2.2⟩
 exact⟨b.2.2.2,⟨b.1,b.2.1,b.2.2.1,c.ol,c.ot,ry c.payload jb⟩⟩
theorem Yh(root:di)(r:jv)(g:I4 r):ER root (gG root r) (mG root r)=(r,true):=by
 have o:=g.l0;have m:=g.l1;have D:=g.kind;have hot:=g.ot;obtain⟨E,h⟩:=jc (gG root r);rw[h];unfold mG;obtain⟨C,f⟩:=jc (dM (kR root) r.level (jZ r));obtain⟨T,c⟩:=jc (tq (kR root) r.level C);have q:T.length=16:=by rw[<-c];exact gW _ _ _
 have b:r.payload.data.toList.length<4611686018427387904:=by have s:r.payload.data.toList.length=r.payload.size:=nz;have:=g.p;omega
 have d:(jZ r).length<4611686018427387904:=by unfold jZ bI;have J:=aO r.kind;have I:=aO r.level;have H:=aO r.ol;have G:=aO (r.payload.data.toList.length:Int);have s:r.payload.data.toList.length=r.payload.size:=nz;have F:=g.p;simp only[gz];omega
 have e:C.length<4611686018427387904:=by rw[<-f,cZ];exact d
 rw[f,c];have A:=jE (n:=r.level) (bI C++T) a_ a_;have z:=mD C T e;unfold ER;rw[A];dsimp only;rw[ah jb,jX _ _ rfl,z];dsimp only;rw[ah (by simp only[gz];omega)];have y:(dn r.level++(bI C++T)).drop ((dn r.level).length+(bI C).length)=T:=by rw[<-GM];exact jX _ _ (by rw[gz])
 rw[y,au c,<-f,zQ];unfold kdT;have x:=jE (n:=r.kind) (dn r.level++(r.ot++(dn r.ol++bI r.payload.data.toList))) a_ a_;have w:=jE (n:=r.level) (r.ot++(dn r.ol++bI r.payload.data.toList)) a_ a_;have u:=jE (n:=r.ol) (bI r.payload.data.toList) g.ol.1 g.ol.2;have i:=mD r.payload.data.toList [] b;rw[AC] at i;have t:dh (jZ r)=(r.kind,(dn r.kind).length,0):=x;have l:(jZ r).drop (dn r.kind).length=dn r.level++(r.ot++(dn r.ol++bI r.payload.data.toList)):=jX _ _ rfl;have k:(jZ r).drop ((dn r.kind).length+(dn r.level).length)=r.ot++(dn r.ol++bI r.payload.data.toList):=by rw[<-aCW,l];exact jX _ _ rfl
 have j:(jZ r).drop ((dn r.kind).length+(dn r.level).length+16)=dn r.ol++bI r.payload.data.toList:=by rw[<-aCW,k];exact jX _ _ hot.symm
 have B:(jZ r).drop ((dn r.kind).length+(dn r.level).length+16+(dn r.ol).length)=bI r.payload.data.toList:=by rw[<-aCW,j];exact jX _ _ rfl
 have a:(jZ r).length=(dn r.kind).length+(dn r.level).length+16+(dn r.ol).length+(bI r.payload.data.toList).length:=by unfold jZ;simp only[gz,hot];omega
 rw[t];dsimp only;rw[ah jb,l,w];dsimp only;rw[j,u];dsimp only;rw[B,i];dsimp only;rw[ah (by rw[a];omega),ah jb,ah (by rw[a];omega),k,List.take_append_of_le_length a_,WF a_,kG];rw[h];simp
theorem O7(root:di)(s:jy)(hs:s.size<=5000)(h:(ER root s s.data.toList).2=true):gG root (ER root s s.data.toList).1=s/\I4 (ER root s s.data.toList).1:=by
 have m:s.data.toList.length=s.size:=nz;generalize s.data.toList=b at *;unfold ER at h ⊢;split at h;cases h;rename_i B;rw[ah B];split at h;cases h;rename_i A;rw[ah A];split at h;rotate_left 1;cases h;rename_i z;rw[au z];have F:=cZ (kR root) (dh b).1 (iF (b.drop (dh b).2.1)).1;have n:=kD (b.drop (dh b).2.1);rw[MM] at n;generalize dM (kR root) (dh b).1 (iF (b.drop (dh b).2.1)).1=X at *;generalize (dh b).1=q at *;unfold kdT at h ⊢;have C:=fV X;generalize dh X=t at *;obtain⟨g,a,J⟩:=t;dsimp only at *;split at h;cases h;rename_i y;rw[ah y];generalize dh (X.drop a)=r at *;obtain⟨f,c,I⟩:=r;dsimp only at *;split at h;cases h;rename_i x;rw[ah x];have k:=fV (X.drop (a+c+16));generalize dh (X.drop (a+c+16))=p at *;obtain⟨D,e,H⟩:=p;dsimp only at *;split at h;cases h;rename_i w;rw[ah w];have j:=kD (X.drop (a+c+16+e));rw[MM] at j;generalize iF (X.drop (a+c+16+e))=o at *;obtain⟨d,E,G⟩:=o;dsimp only at *;split at h;cases h;rename_i u;rw[ah u];have l:((X.drop (a+c)).take 16).length=16:=by rw[ww,MM];omega
 refine⟨?_,⟨by show g=1\/g=2;omega,by show 0<=f;omega,by show f<=16;omega,k,l,by show (strOf d).size<=100000;rw[bC];omega⟩⟩;have i:=beq_iff_eq.1 h;rw[ByteArray.toList_eq,ByteArray.toList_eq] at i;exact ByteArray.ext (Array.ext' i)
theorem aIS(root:di)(s:jy)(hs:s.size<=5000):(ER root s s.data.toList).2=(qR root s).2/\((qR root s).2=true->(ER root s s.data.toList).1=(qR root s).1):=by
 have e:∀ r,gG root r=s->s.data.toList=mG root r:=fun r h=>by rw[<-h];exact bY _
 cases c:(ER root s s.data.toList).2 with
 |true=>obtain⟨a,b⟩:=O7 root s hs c;have:=bGs root _ b;rw[a] at this;rw[this];exact⟨rfl,fun _=>rfl⟩
 | false=>
  cases d:(qR root s).2 with
  |false=>exact⟨rfl,fun h=>by cases h⟩|true=>obtain⟨a,b⟩:=Us root s hs d;have:=Yh root _ b;rw[a,<-e _ a] at this;rw[this] at c;cases c
def Py{α:Type}:Except Int α->Int->Prop
 |.ok _,x=>x=0|.error e,x=>x=e/\e≠0
def aST:Except Int jv->jv×Int->Prop
 |.ok r,x=>x=(r,0)|.error e,x=>x.2=e/\e≠0
theorem UC(rec:Int)(hr:0<=rec/\rec<=3)(c:jy)(m:jf)(s:ja):(DY rec c m s).1=(aK m (aj.save rec c) s).2/\((DY rec c m s).1.stop=false->(DY rec c m s).2=(aK m (aj.save rec c) s).1):=by
 have d:¬bD rec 0<0:=by have:=(qX hr (k:=0) a_).1;omega
 unfold DY;by_cases b:2000<c.size;rw[au b];have e:aj.save rec c=.ret ⟨aC,0,19⟩:=by unfold aj.save;rw[ah d,au b]
 rw[e];exact⟨rfl,fun _=>rfl⟩;rw[ah b];by_cases a:(aK m (aj.cur rec) s).2.stop=true;rw[au a];have e:(aK m (aj.save rec c) s).2=(aK m (aj.cur rec) s).2:=by unfold aj.save;rw[ah d,ah b,dR];exact qW m _ _ a
 exact⟨e.symm,fun h=>by rw[a] at h;cases h⟩;rw[ah a];exact⟨rfl,fun _=>rfl⟩
theorem aHn(op:jm)(r:jv)(m:jf)(s:ja):(ve op r m s).2=(AL m (Ak op r) s).2/\((ve op r m s).2.stop=false->Py (AL m (Ak op r) s).1 (ve op r m s).1):=by obtain⟨b,a⟩:=UC 3 a_ (gG op.root r) m s;unfold ve Ak;dsimp only;rw[kN (aDp (Jc 3 _) s)];generalize DY 3 (gG op.root r) m s=x at b a;generalize aK m (aj.save 3 (gG op.root r)) s=y at b a;obtain⟨g,f⟩:=x;obtain⟨c,e⟩:=y;dsimp only at b a ⊢;subst b;by_cases h:c.err=0;rw[show (c.err==0)=true from by simpa using h,kN (pR _ _ _)];exact⟨rfl,fun d=>by rw[a d];exact h⟩;rw[show (c.err==0)=false from by simpa using h,qQ (oL _ _ _)];exact⟨rfl,fun d=>by rw[a d];exact⟨rfl,h⟩⟩
theorem aIr(op:jm)(m:jf)(s:ja):(jw op m s).2=(AL m (uw op) s).2/\((jw op m s).2.stop=false->aST (AL m (uw op) s).1 (jw op m s).1)/\((jw op m s).2.stop=true->(jw op m s).1.2≠0):=by
 have d:=aOt m s;unfold jw uw;rw[kN (aDp (NR 3) s)];generalize l:aK m (aj.load 3) s=y at d ⊢;obtain⟨o,c⟩:=y;dsimp only;by_cases b:c.stop=true;have e:AU (o,c)=⟨aC,0,13⟩:=au b;rw[au (.inr b),e];refine⟨(aFr m _ b).symm,fun h=>absurd h (by show ¬c.stop=false;rw[b];exact fun h=>Bool.noConfusion h),fun _=>by show (13:Int)≠0;decide⟩;have e:AU (o,c)=o:=ah b;rw[e] at d ⊢;have i:c.stop=false:=by simpa using b
 by_cases h:o.err=0;rw[ah (fun k=>k.elim (fun a=>a h) (fun a=>b a)),show (o.err==0)=true from by simpa using h,kN (pR _ _ _)];obtain⟨f,j⟩:=aIS op.root o.content a_;cases g:(qR op.root o.content).2 with
 |true=>rw[g] at f;rw[au f,kN (pR _ _ _)];exact⟨rfl,fun _=>by rw[j g];rfl,fun h=>absurd h b⟩|false=>rw[g] at f;rw[ah (by rw[f];exact aAQ),qQ (oL _ _ _)];exact⟨rfl,fun _=>⟨rfl,jb⟩,fun h=>absurd h b⟩
 rw[au (.inl h),show (o.err==0)=false from by simpa using h,qQ (oL _ _ _)];exact⟨rfl,fun _=>⟨rfl,h⟩,fun h=>absurd h b⟩
theorem aCi(f:Nat)(m:jf)(s:ja):(nI (f+1) m s).2=(AL m (rZ f) s).2/\((nI (f+1) m s).2.stop=false->Py (AL m (rZ f) s).1 (nI (f+1) m s).1):=by obtain⟨c,a⟩:=bLe m 3 16 (f+1) s;unfold nI rZ lW;rw[aCo,kN (aDp (aHl 3 16 (f+1)) s)];generalize BU m 3 16 (f+1) s=x at c a;generalize aK m (aj.mr 3 16 (f+1)) s=y at c a;obtain⟨⟨i,d⟩,n⟩:=x;obtain⟨⟨g,e⟩,l⟩:=y;dsimp only at c a ⊢;subst c;by_cases h:e=0;rw[h] at a ⊢;rw[show ((0:Int)==0)=true from rfl,kN (pR _ _ _),tY];dsimp only;by_cases j:g=f+1;subst j;rw[show (((f+1:Nat):Int)==((f+1:Nat):Int))=true from d_,kN (pR _ _ _)];refine⟨rfl,fun b=>?_⟩;cases a b;show (if (0:Int)=0/\f+1≠f+1 then (21:Int) else 0)=0;rw[ah a_];rw[show ((g:Int)==((f+1:Nat):Int))=false from by rw[beq_eq_false_iff_ne];omega,qQ (oL _ _ _)];refine⟨rfl,fun b=>?_⟩;cases a b;refine⟨?_,jb⟩;show (if (0:Int)=0/\i≠f+1 then (21:Int) else 0)=21;rw[au ⟨rfl,j⟩];rw[show (e==0)=false from by simpa using h,qQ (oL _ _ _)];refine⟨rfl,fun b=>?_⟩;cases a b;refine⟨?_,h⟩;show (if d=0/\i≠f+1 then (21:Int) else d)=d;rw[ah (fun k=>h k.1)]
def EU(p:jy)(b:Int×ja):jk×ja:=(if b.1≠0 then eF b.1 else { ni with payload:=p },b.2)
def wM(op:jm)(f:Nat)(p:jy)(m:jf)(s:ja):jk×ja:=EU p (if (ve op (sF f p) m s).1=0/\(ve op (sF f p) m s).2.stop=false then nI (f+1) m (ve op (sF f p) m s).2 else ve op (sF f p) m s)
def YQ(r:jv)(n:Nat)(c:(Nat×Int)×ja):jk×ja:=if c.1.2≠0 then (eF c.1.2,c.2) else ({ ni with session:=n,payload:=r.payload },c.2)
def YR(r:jv)(m:jf)(n:Nat×ja):jk×ja:=if n.2.stop=true then ({ ni with session:=n.1,payload:=r.payload },n.2) else if 16<=n.1 then (eF 17,n.2) else YQ r n.1 (BU m 2 16 (n.1+1) n.2)
def YS(r:jv)(m:jf)(b:Int×ja):jk×ja:=if b.1≠0 then (eF b.1,b.2) else YR r m (aK m (aj.f_ 2 16) b.2)
def WZ(op:jm)(f:Nat)(m:jf)(s:ja):jk×ja:=
 if (jw op m s).1.2≠0 then (eF (jw op m s).1.2,(jw op m s).2) else
 if (jw op m s).1.1.kind≠1\/(jw op m s).1.1.level≠((f+1-f % 2:Nat):Int) then (eF 14,(jw op m s).2) else
 YS (jw op m s).1.1 m (if f % 2=0 then nI (f+1) m (jw op m s).2 else (0,(jw op m s).2))
def sdC(op:jm)(f:Nat)(r:jv)(c:Int×ja):jk×ja:=if c.1≠0 then (eF c.1,c.2) else (iD op.link (Fe op f r),c.2)
def sdB(op:jm)(f:Nat)(r:jv)(m:jf)(b:Int×ja):jk×ja:=if b.1≠0 then (eF b.1,b.2) else sdC op f r (if b.2.stop=false then ve op (Fe op f r) m b.2 else (0,b.2))
def Wj(op:jm)(f:Nat)(m:jf)(s:ja):jk×ja:=
 if (jw op m s).1.2≠0 then (eF (jw op m s).1.2,(jw op m s).2) else
 if (jw op m s).1.1.kind≠1\/(jw op m s).1.1.level≠(f:Int) then (eF 14,(jw op m s).2) else
 sdB op f (jw op m s).1.1 m (nI (f+1) m (jw op m s).2)
def xU(op:jm)(f:Nat)(m:jf)(s:ja):jk×ja:=
 if (jw op m s).1.2≠0 then (eF (jw op m s).1.2,(jw op m s).2) else
 if (jw op m s).1.1.kind≠2\/(jw op m s).1.1.level≠(f:Int) then (eF 14,(jw op m s).2) else
 (iD op.link (jw op m s).1.1,(jw op m s).2)
def yP(op:jm)(f:Nat)(m:jf)(s:ja):jk×ja:=if op.xl≠(f:Int) then (eF 14,s) else if Wn op≠0 then (eF 8,s) else if 1000<(sZ op).size then (eF 2,s) else wM op f (sZ op) m s
def Fv(op:jm)(f:Nat)(m:jf)(s:ja):jk×ja:=EU op.payload (ve op ⟨1,(f:Int),y8,0,op.payload⟩ m s)
def bNv(op:jm)(f:Nat)(m:jf)(s:ja):jk×ja:=
 if (((op.kind=1\/op.kind=4\/op.kind=7)\/op.kind=6)/\f % 2=1)\/((op.kind=3\/op.kind=5)/\f % 2=0) then (eF 21,s) else
 if (op.kind=1\/op.kind=4\/op.kind=7)/\16<=f then (eF 17,s) else
 if op.kind=1 then wM op f op.payload m s else if op.kind=2 then WZ op f m s else if op.kind=3 then Fv op f m s else
 if op.kind=4 then ({ ni with ot:=op.id,ol:=f },s) else if op.kind=5 then Wj op f m s else if op.kind=6 then xU op f m s else yP op f m s
def Hl(op:jm)(m:jf)(s:ja):jk×ja:=if (aK m (aj.f_ 3 16) s).2.stop=true then (ni,(aK m (aj.f_ 3 16) s).2) else bNv op (aK m (aj.f_ 3 16) s).1 m (aK m (aj.f_ 3 16) s).2
def kz(m:jf)(x:jk×ja)(p:aj jk)(s:ja):Prop:=x.2=(AL m p s).2/\(x.2.stop=false->x.1=Hr eF (AL m p s).1)
theorem kz.of{m:jf}{x:jk×ja}{p:aj jk}{s s':ja}{y:Except Int jk}(h:AL m p s=(y,s'))(h1:x.2=s')(h2:s'.stop=false->x.1=Hr eF y):kz m x p s:=by unfold kz;rw[h];exact⟨h1,fun a=>h2 (h1 ▸ a)⟩
theorem kz.step{m:jf}{b:Type}{x:jk×ja}{p:aj b}{f:b->aj jk}{s s':ja}{a:b}(h:AL m p s=(.ok a,s'))(h1:kz m x (f a) s'):kz m x (p.bind f) s:=by unfold kz;rw[kN h];exact h1
theorem kz.fail{m:jf}{a:Type}{p:aj a}{f:a->aj jk}{s s':ja}{e:Int}(h:AL m p s=(.error e,s')):kz m (eF e,s') (p.bind f) s:=by unfold kz;rw[qQ h];exact⟨rfl,fun _=>rfl⟩
theorem kz.stop{m:jf}{b:Type}{x:jk×ja}{p:aj b}{f:b->aj jk}{s:ja}(h:(AL m p s).2.stop=true)(h1:x.2=(AL m p s).2):kz m x (p.bind f) s:=by
 unfold kz
 have e:(AL m (p.bind f) s).2=(AL m p s).2:=by
  rw[aCo];generalize AL m p s=z at h ⊢;obtain⟨y,d⟩:=z;cases y with
  |error e=>rfl|ok a=>exact aFr m _ h
 rw[e,h1];exact⟨rfl,fun c=>by rw[h] at c;cases c⟩
theorem qY{m:jf}{d:Type}{p:aj d}{s:ja}{a:Int×ja}(h:a.2=(AL m p s).2/\(a.2.stop=false->Py (AL m p s).1 a.1)):(a.2.stop=true/\a.2=(AL m p s).2)\/(a.2.stop=false/\a.1=0/\∃ y,AL m p s=(.ok y,a.2))\/(a.2.stop=false/\a.1≠0/\AL m p s=(.error a.1,a.2)):=by
 obtain⟨c,g⟩:=h;cases f:a.2.stop with
 |true=>exact .inl ⟨rfl,c⟩|false=>
  have b:=g f;generalize AL m p s=z at c b ⊢;obtain⟨y,i⟩:=z;dsimp only at c b;subst c;cases y with
  |ok v=>exact .inr (.inl ⟨rfl,b,v,rfl⟩)|error e=>exact .inr (.inr ⟨rfl,by rw[b.1];exact b.2,by rw[b.1]⟩)
theorem aMp(op:jm)(f:Nat)(p:jy)(m:jf)(s:ja):kz m (wM op f p m s) (nV op f p) s:=by
 unfold wM nV;have d:=qY (aHn op (sF f p) m s);generalize ve op (sF f p) m s=a at d ⊢;rcases d with⟨h,e⟩|⟨h,e,y,k⟩|⟨h,e,k⟩;rw[ah (fun c=>by rw[h] at c;exact absurd c.2 jb)];exact kz.stop (by rw[<-e];exact h) e;rw[au ⟨e,h⟩];refine kz.step k ?_;have c:=qY (aCi f m a.2);generalize nI (f+1) m a.2=b at c ⊢;rcases c with⟨h,e⟩|⟨h,e,y,k⟩|⟨h,e,k⟩;exact kz.stop (by rw[<-e];exact h) e;refine kz.step k (kz.of (tY _ _ _) rfl fun _=>?_);show (if b.1≠0 then eF b.1 else _)=_;rw[ah (fun c=>c e)];rfl
 have:EU p b=(eF b.1,b.2):=by unfold EU;rw[au e]
 rw[this];exact kz.fail k;rw[ah (fun c=>e c.1)];have:EU p a=(eF a.1,a.2):=by unfold EU;rw[au e]
 rw[this];exact kz.fail k
theorem aIp(op:jm)(m:jf)(s:ja):((jw op m s).1.2≠0/\∀ f:jv->aj jk,kz m (eF (jw op m s).1.2,(jw op m s).2) ((uw op).bind f) s)\/((jw op m s).1.2=0/\(jw op m s).2.stop=false/\AL m (uw op) s=(.ok (jw op m s).1.1,(jw op m s).2)):=by
 obtain⟨b,j,i⟩:=aIr op m s;cases g:(jw op m s).2.stop with
 |true=>exact .inl ⟨i g,fun f=>kz.stop (by rw[<-b];exact g) b⟩| false=>
  have d:=j g;generalize jw op m s=a at g b d ⊢;obtain⟨z,h⟩:=jc (AL m (uw op) s);rw[h] at b d;obtain⟨y,k⟩:=z;dsimp only at b d;cases y with
  |ok r=>have c:a.1=(r,0):=d;refine .inr ⟨by rw[c],rfl,?_⟩;rw[h,c,b]|error e=>have c:a.1.2=e/\e≠0:=d;refine .inl ⟨by rw[c.1];exact c.2,fun f=>?_⟩;rw[b,c.1];exact kz.fail h
theorem nG{m:jf}{x:jk×ja}{b:Bool}{e:Int}{f:Unit->aj jk}{s:ja}(hb:b=true)(h:kz m x (f ()) s):kz m x ((iU b e).bind f) s:=by subst hb;exact kz.step (pR m e s) h
theorem nH{m:jf}{b:Bool}{e:Int}{f:Unit->aj jk}{s:ja}(hb:b=false):kz m (eF e,s) ((iU b e).bind f) s:=by subst hb;exact kz.fail (oL m e s)
theorem aYl{k:Int}{r:jv}{v:Int}(h:¬(r.kind≠k\/r.level≠v)):(bif r.kind==k then r.level==v else false)=true:=by have b:r.kind=k:=Decidable.byContradiction fun a=>h (.inl a);have a:r.level=v:=Decidable.byContradiction fun a=>h (.inr a);rw[b,a];simp
theorem aOu{k:Int}{r:jv}{v:Int}(h:r.kind≠k\/r.level≠v):(bif r.kind==k then r.level==v else false)=false:=by
 rcases h with h|h;rw[show (r.kind==k)=false from by simpa using h];rfl
 ·rw[show (r.level==v)=false from by simpa using h];cases r.kind==k<;>rfl
theorem bNi(r:jv)(op:jm)(m:jf)(s:ja):kz m (YR r m (aK m (aj.f_ 2 16) s)) (bFm op r) s:=by
 unfold YR bFm;have d:=aDp (m:=m) (aAu 2 16) s;generalize aK m (aj.f_ 2 16) s=q at d ⊢;obtain⟨n,b⟩:=q;dsimp only at d ⊢;by_cases k:b.stop=true;rw[au k];exact kz.stop (by rw[d];exact k) (by rw[d]);rw[ah k];refine kz.step d ?_;by_cases t:16<=n;rw[au t];exact nH (su a_);rw[ah t];refine nG (mi a_) ?_;unfold YQ lW;obtain⟨g,f⟩:=bLe m 2 16 (n+1) b;have c:=aDp (m:=m) (aHl 2 16 (n+1)) b;generalize BU m 2 16 (n+1) b=x at g f ⊢;generalize aK m (aj.mr 2 16 (n+1)) b=y at g f c;obtain⟨⟨u,l⟩,i⟩:=x;obtain⟨⟨A,z⟩,w⟩:=y;dsimp only at g f c ⊢;subst g;cases j:i.stop with
 | true=>
  have o:(AL m ((aj.mr 2 16 (n+1)).bind fun p=>(iU (p.2==0) p.2).bind fun _=>.ret p.1) b).2=i:=by rw[kN c];exact aFr m _ j
  refine kz.stop (by rw[o];exact j) ?_;rw[o]
  split<;>rfl
 |false=>cases f j;by_cases e:l=0;rw[ah (fun h=>h e)];refine kz.step (a:=u) (s':=i) ?_ (kz.of (tY _ _ _) rfl fun _=>rfl);rw[kN c];dsimp only;rw[e,show ((0:Int)==0)=true from rfl,kN (pR _ _ _),tY];rw[au e];refine kz.fail ?_;rw[kN c];dsimp only;rw[show (l==0)=false from by simpa using e,qQ (oL _ _ _)]
theorem NU(op:jm)(f:Nat)(m:jf)(s:ja):kz m (WZ op f m s) (QV op f) s:=by
 unfold WZ QV;rcases aIp op m s with⟨h,k⟩|⟨h,i,k⟩;rw[au h];exact k _;rw[ah (fun c=>c h)];generalize jw op m s=a at h i k ⊢;refine kz.step k ?_
 by_cases d:a.1.1.kind≠1\/a.1.1.level≠((f+1-f % 2:Nat):Int);rw[au d];exact nH (aOu d);rw[ah d];refine nG (aYl d) ?_;by_cases c:f % 2=0;rw[au c,show ((((f % 2:Nat):Int)==0))=true from by rw[c];rfl];show kz m _ ((rZ f).bind fun _=>bFm op a.1.1) a.2;have g:=qY (aCi f m a.2);generalize nI (f+1) m a.2=b at g ⊢;unfold YS;rcases g with⟨h,e⟩|⟨h,e,y,k⟩|⟨h,e,k⟩;refine kz.stop (by rw[<-e];exact h) ?_;rw[<-e]
 split
 rfl;exact (bNi a.1.1 op m b.2).1.trans (aFr m _ h);rw[ah (fun c=>c e)];exact kz.step k (bNi a.1.1 op m b.2);rw[au e];exact kz.fail k;rw[ah c,show ((((f % 2:Nat):Int)==0))=false from by rw[beq_eq_false_iff_ne];omega];refine kz.step (tY m () a.2) ?_;unfold YS;rw[ah (fun h=>h rfl)];exact bNi a.1.1 op m a.2
theorem JS(op:jm)(f:Nat)(n:f % 2=1)(m:jf)(s:ja):kz m (Wj op f m s) (VO op f) s:=by
 unfold Wj VO;refine nG (by rw[n];rfl) ?_;rcases aIp op m s with⟨h,k⟩|⟨h,l,k⟩;rw[au h];exact k _;rw[ah (fun d=>d h)];generalize jw op m s=a at h l k ⊢;refine kz.step k ?_
 by_cases g:a.1.1.kind≠1\/a.1.1.level≠(f:Int);rw[au g];exact nH (aOu g);rw[ah g];refine nG (aYl g) ?_;have j:=qY (aCi f m a.2);generalize nI (f+1) m a.2=b at j ⊢;unfold sdB;rcases j with⟨h,e⟩|⟨h,e,y,k⟩|⟨h,e,k⟩
 ·refine kz.stop (by rw[<-e];exact h) ?_;rw[<-e,ah (show ¬b.2.stop=false from by rw[h];decide)];unfold sdC;split;rfl
  ·split<;>rfl
 ·rw[ah (fun d=>d e),au h];refine kz.step k ?_;have i:=qY (aHn op (Fe op f a.1.1) m b.2);generalize ve op (Fe op f a.1.1) m b.2=c at i ⊢;unfold sdC;rcases i with⟨h,e⟩|⟨h,e,y,k⟩|⟨h,e,k⟩
  ·refine kz.stop (by rw[<-e];exact h) ?_;rw[<-e]
   split<;>rfl
  rw[ah (fun d=>d e)];exact kz.step k (kz.of (tY _ _ _) rfl fun _=>rfl);rw[au e];exact kz.fail k
 rw[au e];exact kz.fail k
theorem bEn(op:jm)(f:Nat)(d:f % 2=0)(m:jf)(s:ja):kz m (xU op f m s) (vO op f) s:=by
 unfold xU vO;refine nG (by rw[d];rfl) ?_;rcases aIp op m s with⟨h,k⟩|⟨h,c,k⟩;rw[au h];exact k _;rw[ah (fun e=>e h)];generalize jw op m s=a at h c k ⊢;refine kz.step k ?_
 by_cases b:a.1.1.kind≠2\/a.1.1.level≠(f:Int);rw[au b];exact nH (aOu b);rw[ah b];exact nG (aYl b) (kz.of (tY _ _ _) rfl fun _=>rfl)
theorem kz.map{m:jf}{x:jk×ja}{p:aj jk}{s:ja}(h:kz m x p s):kz m x (p.bind fun o=>.ret o) s:=by
 have e:AL m (p.bind fun o=>.ret o) s=AL m p s:=by
  rw[aCo];generalize AL m p s=z;obtain⟨y,a⟩:=z
  cases y<;>rfl
 unfold kz at h ⊢;rw[e];exact h
theorem aDi{m:jf}{x:jk×ja}{f:Nat}{g:Unit->aj jk}{s:ja}(h0:f % 2=0)(h1:f<16)(h:kz m x (g ()) s):kz m x ((oN f).bind g) s:=by refine kz.step (a:=()) (s':=s) ?_ h;unfold oN;rw[show ((((f % 2:Nat):Int)==0))=true from by rw[h0];rfl,kN (pR _ _ _),mi (show (f:Int)<16 by omega),kN (pR _ _ _),tY]
theorem aHh{m:jf}{f:Nat}{g:Unit->aj jk}{s:ja}(h0:¬f % 2=0):kz m (eF 21,s) ((oN f).bind g) s:=by refine kz.fail ?_;unfold oN;rw[show ((((f % 2:Nat):Int)==0))=false from by rw[beq_eq_false_iff_ne];omega,qQ (oL _ _ _)]
theorem aDj{m:jf}{f:Nat}{g:Unit->aj jk}{s:ja}(h0:f % 2=0)(h1:¬f<16):kz m (eF 17,s) ((oN f).bind g) s:=by refine kz.fail ?_;unfold oN;rw[show ((((f % 2:Nat):Int)==0))=true from by rw[h0];rfl,kN (pR _ _ _),su (show ¬(f:Int)<16 by omega),qQ (oL _ _ _)]
theorem bHs(op:jm)(f:Nat)(h0:f % 2=0)(h1:f<16)(m:jf)(s:ja):kz m (yP op f m s) (rY op f) s:=by unfold yP rY;refine aDi h0 h1 ?_;by_cases b:op.xl≠(f:Int);rw[au b];exact nH (by simpa using b);rw[ah b];refine nG (by simpa using b) ?_;by_cases a:Wn op≠0;rw[au a];exact nH (by simpa using a);rw[ah a];refine nG (by simpa using a) ?_;by_cases c:1000<(sZ op).size;rw[au c];exact nH (su a_);rw[ah c];exact nG (mi a_) (aMp op f (sZ op) m s).map
theorem Jd(op:jm)(f:Nat)(c:f % 2=1)(m:jf)(s:ja):kz m (Fv op f m s) (Wi op f) s:=by unfold Fv Wi;refine nG (by rw[c];rfl) ?_;have b:=qY (aHn op ⟨1,(f:Int),y8,0,op.payload⟩ m s);generalize ve op ⟨1,(f:Int),y8,0,op.payload⟩ m s=a at b ⊢;unfold EU;rcases b with⟨h,e⟩|⟨h,e,y,k⟩|⟨h,e,k⟩;exact kz.stop (by rw[<-e];exact h) e;rw[ah (fun d=>d e)];exact kz.step k (kz.of (tY _ _ _) rfl fun _=>rfl);rw[au e];exact kz.fail k
theorem bBq(op:jm)(j:1<=op.kind/\op.kind<=7)(f:Nat)(m:jf)(s:ja):kz m (bNv op f m s) (pY op f) s:=by unfold bNv pY;by_cases a:op.kind=1;by_cases c:f % 2=0;rw[ah a_];by_cases h:f<16;rw[ah a_,au a,au a];exact aDi c h (aMp op f op.payload m s).map;rw[au a_,au a];exact aDj c h;rw[au a_,au a];exact aHh c;by_cases b:op.kind=2;rw[ah a_,ah a_,ah a,au b,ah a,au b];exact NU op f m s;by_cases d:op.kind=3;by_cases c:f % 2=1;rw[ah a_,ah a_,ah a,ah b,au d,ah a,ah b,au d];exact Jd op f c m s;rw[au a_,ah a,ah b,au d];exact nH (by rw[beq_eq_false_iff_ne];omega);by_cases e:op.kind=4;by_cases c:f % 2=0;rw[ah a_];by_cases h:f<16;rw[ah a_,ah a,ah b,ah d,au e,ah a,ah b,ah d,au e];exact aDi c h (kz.of (tY _ _ _) rfl fun _=>rfl);rw[au a_,ah a,ah b,ah d,au e];exact aDj c h;rw[au a_,ah a,ah b,ah d,au e];exact aHh c;by_cases g:op.kind=5;by_cases c:f % 2=1;rw[ah a_,ah a_,ah a,ah b,ah d,ah e,au g,ah a,ah b,ah d,ah e,au g];exact JS op f c m s;rw[au a_,ah a,ah b,ah d,ah e,au g];exact nH (by rw[beq_eq_false_iff_ne];omega);by_cases i:op.kind=6;by_cases c:f % 2=0;rw[ah a_,ah a_,ah a,ah b,ah d,ah e,ah g,au i,ah a,ah b,ah d,ah e,ah g,au i];exact bEn op f c m s;rw[au a_,ah a,ah b,ah d,ah e,ah g,au i];exact nH (by rw[beq_eq_false_iff_ne];omega);rw[show (if op.kind=1 then aBb op f else if op.kind=2 then QV op f else if op.kind=3 then Wi op f else if op.kind=4 then Zv op f else if op.kind=5 then VO op f else if op.kind=6 then vO op f else rY op f)=rY op f from by rw[ah a,ah b,ah d,ah e,ah g,ah i]];by_cases c:f % 2=0;rw[ah a_];by_cases h:f<16;rw[ah a_,ah a,ah b,ah d,ah e,ah g,ah i];exact bHs op f c h m s;rw[au a_];exact aDj c h;rw[au a_];exact aHh c
theorem ZC(op:jm)(d:1<=op.kind/\op.kind<=7)(m:jf)(s:ja):kz m (Hl op m s) ((aj.f_ 3 16).bind fun n=>pY op n) s:=by unfold Hl;have a:=aDp (m:=m) (aAu 3 16) s;generalize aK m (aj.f_ 3 16) s=q at a ⊢;obtain⟨n,c⟩:=q;dsimp only at a ⊢;by_cases b:c.stop=true;rw[au b];exact kz.stop (by rw[a];exact b) (by rw[a]);rw[ah b];exact kz.step a (bBq op d n m c)
def JC:Spec:=aV true fun a=>match a with
 |[.w (.agg ol),.w (.agg b)]=>(match rX ol,IA b with
  |some m,some r=>some (gy r.ol/\m.link.length=16/\r.ot.length=16/\r.payload.size<=10000,.w (.agg (h_ (iD m.link r))))|_,_=>none)
 |_=>none
theorem Ry:b_ prog af 92 JC:=by refine aU (aB func92 ai rfl) (fun e p r a b=>?_);split at a;split at a;rename_i d c;cases a;rw[lQ d,zN c];exact Jm _ _ b.1 b.2.1 b.2.2.1 b.2.2.2;cases a;cases a
def kmN(m:jf)(s:ja):List (Nat×Spec):=(59,dI 96 (yt m s bPy))::(87,dI 96 (yt m s bQc)) ::
 (88,dI 96 (yt m s bQh))::(92,JC)::kmK m s
theorem Nw(m:jf)(s:ja):∀ p∈kmN m s,b_ prog af p.1 p.2:=by intro p a;simp only[kmN,xn] at a;rcases a with rfl|rfl|rfl|rfl|a;exact bEb m s;exact aWu m s;exact bEh m s;exact Ry;exact Nz m s p (by simpa[kmK] using a)
theorem BR(m:jf)(s:ja):jq prog af (find (kmN m s)):=⟨aY (Nw m s),dB⟩
variable {op:jm} {r:jv} {f:Nat} {m:jf} {s:ja}
theorem Si:s.i<=(ve op r m s).2.i:=by rw[(aHn op r m s).1];exact bNq _ _ _
theorem aOl:s.i<=(nI (f+1) m s).2.i:=by rw[(aCi f m s).1];exact bNq _ _ _
theorem bLh(a:v_ m s)(b:(ve op r m s).2.i<=1000000):v_ m (ve op r m s).2/\Eg s.h (ve op r m s).2.h:=by rw[(aHn op r m s).1] at b ⊢;exact⟨bNr _ a b,aYj _ _ _⟩
theorem aIq(a:v_ m s)(b:(jw op m s).2.i<=1000000):v_ m (jw op m s).2/\Eg s.h (jw op m s).2.h:=by rw[(aIr op m s).1] at b ⊢;exact⟨bNr _ a b,aYj _ _ _⟩
theorem aLm(a:v_ m s)(b:(nI (f+1) m s).2.i<=1000000):v_ m (nI (f+1) m s).2/\Eg s.h (nI (f+1) m s).2.h:=by rw[(aCi f m s).1] at b ⊢;exact⟨bNr _ a b,aYj _ _ _⟩
end
theorem aPd(op:jm)(_:op.root.length=16)(m:jf)(s:ja):(jw op m s).1.2=0->I4 (jw op m s).1.1/\(jw op m s).1.1.payload.size<=2000:=by
 intro h;have j:=aOt m s;unfold jw at h ⊢;split at h;rename_i c
 exact absurd c (fun b=>b.elim (fun a=>a h) (fun a=>by
  have e:AU (aK m (aj.load 3) s)=⟨aC,0,13⟩:=au a;have d:(AU (aK m (aj.load 3) s)).err=0:=h;rw[e] at d
  exact absurd d jb))
 rename_i c;rw[ah c];split at h;rename_i b;rw[au b];obtain⟨i,g⟩:=O7 op.root _ a_ b;refine⟨g,?_⟩;have a:=congrArg ByteArray.size i;unfold gG at a;rw[bC] at a;unfold mG bI at a;rw[gz,gz,gz,cZ] at a;unfold jZ bI at a;simp only[gz] at a;rw[show ((ER op.root (AU (aK m (aj.load 3) s)).content (AU (aK m (aj.load 3) s)).content.data.toList).1.payload.data.toList).length=(ER op.root (AU (aK m (aj.load 3) s)).content (AU (aK m (aj.load 3) s)).content.data.toList).1.payload.size from nz] at a;show (ER op.root (AU (aK m (aj.load 3) s)).content (AU (aK m (aj.load 3) s)).content.data.toList).1.payload.size<=2000;omega;exact absurd h (by show ¬(8:Int)=0;decide)
theorem bBp{x y k v:Int}:(bif x != k then true else y != v)=true↔(x≠k\/y≠v):=by by_cases h:x=k;subst h;simp;rw[show (x != k)=true from by simpa using h];exact⟨fun _=>.inl h,fun _=>rfl⟩
theorem bNt{x y k v:Int}(h:(bif x != k then true else y != v)=false):¬(x≠k\/y≠v):=fun a=>by rw[bBp.2 a] at h;cases h
def aJT(m:jf)(s:ja)(op:jm)(f:Nat)(p:jy)(e:Int):St:=⟨[(0,none,dm (.pt px 0 0)),(2,none,dw f),(3,none,n_ p),(8,none,dm (.pt 1 0 0)),(9,none,dw e)],[(px,none,0,.box 96 (uj m s)),(0,none,0,.box 31 (w_ op)),(1,none,0,.box 40 (h_ ni))]⟩
theorem bIc{f:Nat}(a:f<=1000):IntKind.wrap .i64 ((f:Int)+1)=((f+1:Nat):Int):=bW f a_
theorem aSh(op:jm)(f:Nat)(p:jy)(F:f<16)(hr:op.root.length=16)(B:p.size<=5000):z_ 57 [.w (.agg (w_ op)),dw f,n_ p] (fun m s=>um m s/\qp m s 3) (fun m s=>((wM op f p m s).2,.w (.agg (h_ (wM op f p m s).1)))):=by
 intro m y l x t;have M:=BR m y;dsimp only at t ⊢;unfold wM at t ⊢;have o:=bIc (f:=f) a_;have q:QZ (sF f p):=⟨by show gy 1;unfold gy;omega,by show gy ((f+1:Nat):Int);unfold gy;omega,QU,rfl,B⟩;have c:=bLh (op:=op) (r:=sF f p) l;refine dL func57 rfl rfl rfl (fun A C D=>?_);obtain⟨a,u⟩:=jc (ve op (sF f p) m y);rw[u] at t c ⊢;obtain⟨b,g⟩:=jc ((if a.1=0/\a.2.stop=false then nI (f+1) m a.2 else a));rw[g] at t ⊢;have d:b.2.i<=1000000:=t;have e:a.2.i<=1000000:=by rw[<-g] at d;split at d;exact ry aOl d;exact d
 obtain⟨k,j⟩:=c e;refine bU ?_ ?_;simp;rw[o];exact⟨l,⟨⟨hr,q⟩,x.1⟩,by rw[<-u] at e;exact e⟩;refine aW (aJT m a.2 op f p a.1) ?_ ?_ ?_;refine .cr (.cr (.cr (.cr (.cons ?_ .nil))));change dw (ve op ⟨1,IntKind.wrap .i64 ((f:Int)+1),y8,0,p⟩ m y).1=_;rw[o,<-u];rfl;refine .cons (.box ?_) ((dU _));change uj m (ve op ⟨1,IntKind.wrap .i64 ((f:Int)+1),y8,0,p⟩ m y).2=_;rw[o,<-u];rfl;refine sN (aJT m b.2 op f p b.1) ?_ ?_;clear M;have M:=BR m a.2;refine eH (fun n=>?_) (fun n=>?_);have h:a.1=0/\a.2.stop=false:=aHN.1 n;rw[au h] at g;refine aS M D C (ay) ai ?_ ?_;simp;rw[o];refine⟨k,⟨a_,x.2.CW j⟩,?_⟩;show (nI (f+1) m a.2).2.i<=1000000;rw[g];exact d;intro E w z;refine⟨rfl,(z.reset (kT:=[0,2,3,8,9]) (kO:=[px,0,1]) ay d_).same ?_ ?_⟩;refine .cr (.cr (.cr (.cr (.cons ?_ .nil))));change dw (nI (IntKind.wrap .i64 ((f:Int)+1)).toNat m a.2).1=_;rw[o,<-g];rfl;refine .cons (.box ?_) ((dU _));change uj m (nI (IntKind.wrap .i64 ((f:Int)+1)).toNat m a.2).2=_;rw[o,<-g];rfl;have h:¬(a.1=0/\a.2.stop=false):=LW n;rw[ah h] at g;rw[<-g];refine fH ?_;intro E w z;refine⟨rfl,(z.reset (kT:=[0,2,3,8,9]) (kO:=[px,0,1]) ay d_).same ?_ ?_⟩;exact iq;exact r_;clear g u j k e c;clear M;have M:=BR m b.2;unfold EU;refine aJ (fun n=>?_) (fun n=>?_)
 ·have h:b.1≠0:=by simpa using n
  rw[au h];refine iJ ?_
  all_goals rfl
 ·have h:¬b.1≠0:=by simpa using n
  rw[ah h];refine dS ?_;refine gZ ?_
  all_goals rfl
def EQ(m:jf)(s:ja)(op:jm)(f:Nat)(r:jv)(e:Int):St:=⟨[(0,none,dm (.pt px 0 0)),(2,none,dw f),(4,none,dm (.pt 0 0 0)),(6,none,dm (.pt 1 0 0)),(7,none,dm (.pt 1006 0 0)),(8,none,dw e)],[(px,none,0,.box 96 (uj m s)),(0,none,0,.box 31 (w_ op)),(1,none,0,.box 40 (h_ ni)),(1006,none,0,.box 131 (qo r))]⟩
theorem aRu(op:jm)(f:Nat)(_:f<=16)(hr:op.root.length=16)(hl:op.link.length=16):z_ 61 [.w (.agg (w_ op)),dw f] (fun m s=>um m s/\qp m s 3) (fun m s=>((xU op f m s).2,.w (.agg (h_ (xU op f m s).1)))):=by
 intro m b d q e;have M:=BR m b;dsimp only at e ⊢;unfold xU at e ⊢
 have k:(jw op m b).1.2=0->(jw op m b).2.stop=false:=fun h=>by
  cases u:(jw op m b).2.stop with
  |false=>rfl|true=>exact absurd h ((aIr op m b).2.2 u)
 have l:=aPd op hr m b;have g:=aIq (op:=op) d;refine dL func61 rfl rfl rfl (fun A x z=>?_);obtain⟨a,n⟩:=jc (jw op m b);rw[n] at e k l g ⊢
 have p:a.2.i<=1000000:=by
  split at e;exact e
  ·split at e<;>exact e
 refine bU ?_ ?_;simp;refine⟨d,⟨hr,q.1⟩,?_⟩;show (jw op m b).2.i<=1000000;rw[n];exact p;refine aW (EQ m a.2 op f a.1.1 a.1.2) ?_ ?_ ?_;refine .cr (.cr (.cr (.cr (.cr (.cons ?_ .nil)))));change dw (jw op m b).1.2=_;rw[n];refine .cons (.box ?_) (.cb (.cb (.cons (.box ?_) .nil)));change uj m (jw op m b).2=_;rw[n];change qo (jw op m b).1.1=_;rw[n];clear M;have M:=BR m a.2;refine aJ (fun j=>?_) (fun j=>?_)
 ·have h:a.1.2≠0:=by simpa using j
  rw[au h];refine iJ ?_
  all_goals rfl
 have o:¬a.1.2≠0:=by simpa using j
 rw[ah o];rw[ah o] at e;have t:a.2.stop=false:=k (Decidable.not_not.1 o);refine fZ ?_;have c:=l (Decidable.not_not.1 o);refine aJ (fun j=>?_) (fun j=>?_)
 ·have h:a.1.1.kind≠2\/a.1.1.level≠(f:Int):=bBp.1 j;rw[au h];refine iJ ?_
  all_goals rfl
 ·have h:¬(a.1.1.kind≠2\/a.1.1.level≠(f:Int)):=bNt j;rw[ah h];refine jK ?_ ?_;simp;exact⟨c.1.ol,hl,c.1.ot,by have:=c.2;omega⟩;refine gZ ?_
  all_goals rfl
theorem JX(op:jm)(f:Nat)(r:jv)(c:Int×ja):(sdC op f r c).2=c.2:=by unfold sdC;split<;>rfl
theorem JY(op:jm)(f:Nat)(r:jv)(m:jf)(b:Int×ja):b.2.i<=(sdB op f r m b).2.i:=by unfold sdB;split;exact dE _;rw[JX];split;exact Si;exact dE _
theorem bDy(op:jm)(f:Nat)(Y:f<16)(hr:op.root.length=16)(hl:op.link.length=16)(hot:op.ot.length=16)(L:gy op.ol):z_ 60 [.w (.agg (w_ op)),dw f] (fun m s=>um m s/\qp m s 3) (fun m s=>((Wj op f m s).2,.w (.agg (h_ (Wj op f m s).1)))):=by
 intro m k q u g;have M:=BR m k;dsimp only at g ⊢;unfold Wj at g ⊢
 have F:(jw op m k).1.2=0->(jw op m k).2.stop=false:=fun h=>by
  cases U:(jw op m k).2.stop with
  |false=>rfl|true=>exact absurd h ((aIr op m k).2.2 U)
 have G:=aPd op hr m k;have n:=aIq (op:=op) q;refine dL func60 rfl rfl rfl (fun A Q S=>?_);obtain⟨a,I⟩:=jc (jw op m k);rw[I] at g F G n ⊢;have J:=bIc (f:=f) a_;have E:a.2.i<=1000000:=by split at g;exact g;split at g;exact g;exact ry aOl (ry (JY _ _ _ _ _) g)
 obtain⟨p,o⟩:=n E;refine bU ?_ ?_;simp;refine⟨q,⟨hr,u.1⟩,?_⟩;show (jw op m k).2.i<=1000000;rw[I];exact E;refine aW (EQ m a.2 op f a.1.1 a.1.2) ?_ ?_ ?_;refine .cr (.cr (.cr (.cr (.cr (.cons ?_ .nil)))));change dw (jw op m k).1.2=_;rw[I];refine .cons (.box ?_) (.cb (.cb (.cons (.box ?_) .nil)));change uj m (jw op m k).2=_;rw[I];change qo (jw op m k).1.1=_;rw[I];clear M;have M:=BR m a.2;refine aJ (fun d=>?_) (fun d=>?_)
 ·have h:a.1.2≠0:=by simpa using d
  rw[au h];refine iJ ?_
  all_goals rfl
 have K:¬a.1.2≠0:=by simpa using d
 rw[ah K];rw[ah K] at g;have x:a.2.stop=false:=F (Decidable.not_not.1 K);refine fZ ?_;obtain⟨P,V⟩:=G (Decidable.not_not.1 K);refine qG ?_ ?_;simp;exact fun a b=>⟨a,b⟩;rw[x];refine cO (fun d=>?_) (fun d=>?_)
 ·have h:a.1.1.kind≠1\/a.1.1.level≠(f:Int):=bBp.1 d;rw[au h];refine iJ ?_
  all_goals rfl
 have W:¬(a.1.1.kind≠1\/a.1.1.level≠(f:Int)):=bNt d;rw[ah W] at g ⊢;refine fZ ?_;have e:=aLm (f:=f) p;obtain⟨b,H⟩:=jc (nI (f+1) m a.2);rw[H] at g e ⊢;have D:b.2.i<=1000000:=ry (JY _ _ _ _ _) g;obtain⟨C,y⟩:=e D;refine jG ?_;rw[x];refine cO (fun d=>?_) (fun d=>?_);rotate_left 1;cases d;refine aS M S Q (ay) ai ?_ ?_;simp;rw[J];refine⟨p,⟨a_,u.2.CW o⟩,?_⟩;show (nI (f+1) m a.2).2.i<=1000000;rw[H];exact D;change kw _ _ _ _ _;refine aW (EQ m b.2 op f a.1.1 b.1) ?_ ?_ ?_;refine .cr (.cr (.cr (.cr (.cr (.cons ?_ .nil)))));change dw (nI (IntKind.wrap .i64 ((f:Int)+1)).toNat m a.2).1=_;rw[J,<-H];rfl;refine .cons (.box ?_) ((dU _));change uj m (nI (IntKind.wrap .i64 ((f:Int)+1)).toNat m a.2).2=_;rw[J,<-H];rfl;clear M H e;have M:=BR m b.2;unfold sdB at g ⊢;refine aJ (fun d=>?_) (fun d=>?_)
 ·have h:b.1≠0:=by simpa using d
  rw[au h];refine iJ ?_
  all_goals rfl
 have T:¬b.1≠0:=by simpa using d
 rw[ah T] at g ⊢;refine dS ?_;have l:QZ (Fe op f a.1.1):=⟨by show gy 2;unfold gy;omega,by show gy ((f+1:Nat):Int);unfold gy;omega,L,hot,by show a.1.1.payload.size<=5000;omega⟩;have O:b.1=0:=Decidable.not_not.1 T;refine aW (EQ m b.2 op f (Fe op f a.1.1) 0) ?_ ?_ ?_;rw[O];exact iq;refine .cb (.cb (.cb (.cons (.box ?_) .nil)));show qo ⟨2,IntKind.wrap .i64 ((f:Int)+1),op.ot,op.ol,a.1.1.payload⟩=_;rw[J];rfl;obtain⟨r,t⟩:=jc (Fe op f a.1.1);have B:r.payload.size<=10000:=by have:=l.payload;rw[t] at this;omega
 rw[t] at l g ⊢;have z:=t;obtain⟨c,j⟩:=jc ((if b.2.stop=false then ve op r m b.2 else (0,b.2)));rw[j] at g ⊢;rw[JX] at g;refine sN (EQ m c.2 op f r c.1) ?_ ?_;refine eH (fun d=>?_) (fun d=>?_);have h:b.2.stop=false:=by simpa using d
 rw[au h] at j;refine aS M S Q (ay) ai ?_ ?_;simp;refine⟨C,⟨⟨hr,l⟩,(u.1.CW o).CW y⟩,?_⟩;show (ve op r m b.2).2.i<=1000000;rw[j];exact g;intro X w N;refine⟨rfl,(N.reset (kT:=[0,2,4,6,7,8]) (kO:=[px,0,1,1006]) ay d_).same ?_ ?_⟩;refine .cr (.cr (.cr (.cr (.cr (.cons ?_ .nil)))));change dw (ve op r m b.2).1=_;rw[j];refine .cons (.box ?_) ((dU _));change uj m (ve op r m b.2).2=_;rw[j];have h:¬b.2.stop=false:=by simpa using d
 rw[ah h] at j;rw[<-j];refine fH ?_;intro X w N;refine⟨rfl,(N.reset (kT:=[0,2,4,6,7,8]) (kO:=[px,0,1,1006]) ay d_).same ?_ ?_⟩;exact iq;exact r_;clear M j;have M:=BR m c.2;unfold sdC;rw[z];refine aJ (fun d=>?_) (fun d=>?_)
 ·have h:c.1≠0:=by simpa using d
  rw[au h];refine iJ ?_
  all_goals rfl
 have h:¬c.1≠0:=by simpa using d
 rw[ah h];refine jK ?_ ?_;simp;exact⟨l.ol,hl,l.ot,B⟩;refine gZ ?_
 all_goals rfl
theorem Xf(m:jf)(a:Int)(n t:Nat)(s:ja):(BU m a n t s).2=(aK m (aj.mr a n t) s).2:=(bLe m a n t s).1
theorem bNh(r:jv)(m:jf)(n:Nat×ja):n.2.i<=(YR r m n).2.i:=by
 unfold YR;split;exact dE _;split;exact dE _
 ·unfold YQ
  split<;>(show n.2.i<=(BU m 2 16 (n.1+1) n.2).2.i;rw[Xf];exact kH _ _ _)
theorem Na(r:jv)(m:jf)(b:Int×ja):b.2.i<=(YS r m b).2.i:=by unfold YS;split;exact dE _;exact ry (kH _ _ _) (bNh _ _ _)
def bNg(m:jf)(s:ja)(r:jv):St:=⟨[(0,none,dm (.pt px 0 0)),(6,none,dm (.pt 1 0 0)),(7,none,dm (.pt 1006 0 0))],[(px,none,0,.box 96 (uj m s)),(1,none,0,.box 40 (h_ ni)),(1006,none,0,.box 131 (qo r))]⟩
def NZ(m:jf)(s:ja)(r:jv)(n:Nat):St:=⟨(10,none,dw n)::(bNg m s r).t,(bNg m s r).o⟩
def WL(m:jf)(s:ja)(r:jv)(n:Nat)(e:Int):St:=⟨(8,none,dw e)::(NZ m s r n).t,(bNg m s r).o⟩
def aIE(m:jf)(s:ja)(op:jm)(f:Nat)(r:jv)(w:Int):St:=⟨(9,none,dw w)::(EQ m s op f r 0).t,(EQ m s op f r 0).o⟩
theorem aSb(op:jm)(f:Nat)(hf:f<=16)(hr:op.root.length=16):z_ 58 [.w (.agg (w_ op)),dw f] (fun m s=>um m s/\qp m s 3/\qp m s 2) (fun m s=>((WZ op f m s).2,.w (.agg (h_ (WZ op f m s).1)))):=by
 intro m D L J p;have M:=BR m D;dsimp only at p ⊢;unfold WZ at p ⊢
 have X:(jw op m D).1.2=0->(jw op m D).2.stop=false:=fun h=>by
  cases hs:(jw op m D).2.stop with
  |false=>rfl|true=>exact absurd h ((aIr op m D).2.2 hs)
 have Y:=aPd op hr m D;have F:=aIq (op:=op) L;refine dL func58 rfl rfl rfl (fun A hn hI=>?_);obtain⟨a,ha⟩:=jc (jw op m D);rw[ha] at p X Y F ⊢;have hw:=bIc (f:=f) a_;have W:a.2.i<=1000000:=by split at p;exact p;split at p;exact p;refine ry ?_ (ry (Na _ _ _) p);split;exact aOl;exact dE _
 obtain⟨G,E⟩:=F W;refine bU ?_ ?_;simp;refine⟨L,⟨hr,J.1⟩,?_⟩;show (jw op m D).2.i<=1000000;rw[ha];exact W;refine aW (EQ m a.2 op f a.1.1 a.1.2) ?_ ?_ ?_;refine .cr (.cr (.cr (.cr (.cr (.cons ?_ .nil)))));change dw (jw op m D).1.2=_;rw[ha];refine .cons (.box ?_) (.cb (.cb (.cons (.box ?_) .nil)));change uj m (jw op m D).2=_;rw[ha];change qo (jw op m D).1.1=_;rw[ha];clear M;have M:=BR m a.2;refine aJ (fun e=>?_) (fun e=>?_)
 ·have h:a.1.2≠0:=by simpa using e
  rw[au h];refine iJ ?_
  all_goals rfl
 have hE:¬a.1.2≠0:=by simpa using e
 rw[ah hE];rw[ah hE] at p;have Q:a.2.stop=false:=X (Decidable.not_not.1 hE);refine fZ ?_;obtain⟨K,a1⟩:=Y (Decidable.not_not.1 hE);have Z:a.1.2=0:=Decidable.not_not.1 hE;obtain⟨r,a0⟩:=jc (a.1.1);rw[a0] at p K a1 ⊢;have a2:=K.l1;refine aI ?_;have I:(f:Int).tmod 2=((f % 2:Nat):Int):=rfl;refine sN (aIE m a.2 op f r ((f+1-f % 2:Nat):Int)) ?_ ?_;refine eH (fun e=>?_) (fun e=>?_);have h:f % 2=0:=by have d:((f:Int).tmod 2==0)=true:=e;rw[I] at d;have:=beq_iff_eq.1 d;omega
 refine fJ ?_;intro aa w hg;refine⟨rfl,(hg.reset (kT:=[9,0,2,4,6,7,8]) (kO:=[px,0,1,1006]) ay d_).same ?_ ?_⟩;rw[Z];refine .cons ?_ ((iT _));rw[hw,show f+1-f % 2=f+1 by omega];exact r_;have h:¬f % 2=0:=by intro h;have d:((f:Int).tmod 2==0)=false:=e;rw[I,h] at d;cases d
 refine fH ?_;intro aa w hg;refine⟨rfl,(hg.reset (kT:=[9,0,2,4,6,7,8]) (kO:=[px,0,1,1006]) ay d_).same ?_ ?_⟩;rw[Z];refine .cons ?_ ((iT _));rw[show f+1-f % 2=f by omega];exact r_;refine qG ?_ ?_;simp;exact fun a b=>⟨a,b⟩;rw[Q];refine cO (fun e=>?_) (fun e=>?_)
 ·have h:r.kind≠1\/r.level≠((f+1-f % 2:Nat):Int):=bBp.1 e;rw[au h];refine iJ ?_
  all_goals rfl
 have h1:¬(r.kind≠1\/r.level≠((f+1-f % 2:Nat):Int)):=bNt e;rw[ah h1] at p ⊢;have a3:r.level=((f+1-f % 2:Nat):Int):=Decidable.byContradiction fun h=>h1 (.inr h);refine gQ ?_;refine aI ?_;rw[Q];by_cases h2:f % 2=0
 ·rw [au h2] at p ⊢;have B:=aLm (f:=f) G;obtain⟨b,hb⟩:=jc (nI (f+1) m a.2);rw[hb] at p B ⊢;have V:b.2.i<=1000000:=ry (Na _ _ _) p;obtain⟨U,T⟩:=B V;refine cO (fun e=>?_) (fun e=>?_);rotate_left 1;exfalso;have d:(bif (f:Int).tmod 2==0 then !false else false)=false:=e;rw[I,h2] at d;cases d;refine aH ?_ ?_;simp;rw[hw];refine⟨G,⟨a_,J.2.1.CW E⟩,?_⟩;show (nI (f+1) m a.2).2.i<=1000000;rw[hb];exact V;refine aW (EQ m b.2 op f r b.1) ?_ ?_ ?_;refine .cr (.cr (.cr (.cr (.cr (.cons ?_ .nil)))));change dw (nI (IntKind.wrap .i64 ((f:Int)+1)).toNat m a.2).1=_;rw[hw,<-hb];rfl;refine .cons (.box ?_) ((dU _));change uj m (nI (IntKind.wrap .i64 ((f:Int)+1)).toNat m a.2).2=_;rw[hw,<-hb];rfl;clear M;have M:=BR m b.2;unfold YS at p ⊢;refine eH (fun e=>?_) (fun e=>?_)
  ·have h:b.1≠0:=by simpa using e
   rw[au h];refine iJ ?_
   all_goals rfl
  have h:¬b.1≠0:=by simpa using e
  rw[ah h] at p ⊢;refine fZ ?_;have z:=(J.2.2.CW E).CW T;obtain⟨S,hS⟩:=jc (b.2);have l:=U;have g:=p;rw[hS] at l g z ⊢;clear M;have M:=BR m S;have k:(aK m (aj.f_ 2 16) S).2.i<=1000000:=ry (bNh _ _ _) g;have j:=jW (aj.f_ 2 16) l k;have o:=z.CW (jD m (aj.f_ 2 16) S);have u:=aNs m 2 16 S;refine mZ (bNg m S r) ?_;refine aH ?_ ?_;simp;exact⟨l,z,k⟩;obtain⟨q,H⟩:=jc (aK m (aj.f_ 2 16) S);refine aW (NZ m q.2 r q.1) ?_ ?_ ?_;refine .cons ?_ ((iT _));rw[<-H];rfl;refine .cons (.box ?_) ((dU _));rw[<-H];rfl;rw[H] at g j o u ⊢;clear H k M;obtain⟨n,C⟩:=q;dsimp only at g j o u ⊢;have M:=BR m C;unfold YR at g ⊢;dsimp only at g ⊢;refine jG ?_;cases t:C.stop with
  | true=>
   rw[t,au rfl] at g;rw[au rfl];refine cO (fun e=>?_) (fun e=>?_)
   ·exfalso;have d:(bif decide ((n:Int)>=16) then !true else false)=true:=e
    cases O:decide ((n:Int)>=16)<;>rw[O] at d<;>cases d
   refine gQ ?_;refine aI ?_;rw[t];refine cO (fun e=>?_) (fun e=>?_);cases e;refine dS ?_;refine gZ ?_
   all_goals rfl
  | false=>
   rw[t,ah aAQ] at g;rw[ah aAQ];refine cO (fun e=>?_) (fun e=>?_)
   ·have h:16<=n:=by
     have d:(bif decide ((n:Int)>=16) then !false else false)=true:=e;by_cases O:(n:Int)>=16
     omega;rw[su O] at d;cases d
    rw[au h];refine iJ ?_
    all_goals rfl
   have h:¬16<=n:=by intro h;have d:(bif decide ((n:Int)>=16) then !false else false)=false:=e;rw[mi (show (n:Int)>=16 by omega)] at d;cases d
   rw[ah h] at g ⊢;have x:=bIc (f:=n) a_
   have N:(BU m 2 16 (n+1) C).2.i<=1000000:=by
    unfold YQ at g
    split at g<;>exact g
   refine gQ ?_;refine aI ?_;rw[t];refine cO (fun e=>?_) (fun e=>?_);rotate_left 1;cases e;refine aH ?_ ?_;simp;rw[x];refine⟨j,⟨o,a_⟩,?_⟩;exact N;obtain⟨c,y⟩:=jc (BU m 2 16 (n+1) C);refine aW (WL m c.2 r n c.1.2) ?_ ?_ ?_;refine .cons ?_ ((iT _));change dw (BU m 2 (aBF 16) (IntKind.wrap .i64 ((n:Int)+1)).toNat C).1.2=_;rw[x,<-y];rfl;refine .cons (.box ?_) ((dU _));change uj m (BU m 2 (aBF 16) (IntKind.wrap .i64 ((n:Int)+1)).toNat C).2=_;rw[x,<-y];rfl;rw[y];unfold YQ;refine eH (fun e=>?_) (fun e=>?_)
   ·have P:c.1.2≠0:=by simpa using e
    rw[au P];refine iJ ?_
    all_goals rfl
   have P:¬c.1.2≠0:=by simpa using e
   rw[ah P];refine dS ?_;refine gZ ?_
   all_goals rfl
 ·rw [ah h2] at p ⊢;unfold YS at p ⊢;rw[ah (fun h=>h rfl)] at p ⊢;refine cO (fun e=>?_) (fun e=>?_);exfalso;have d:(bif (f:Int).tmod 2==0 then !false else false)=true:=e;rw[I,show f % 2=1 by omega] at d;cases d;refine fZ ?_;have z:=J.2.2.CW E;obtain⟨S,hS⟩:=jc (a.2);have l:=G;have g:=p;dsimp only at g;rw[hS] at l g z;dsimp only;rw[hS];clear M;have M:=BR m S;have k:(aK m (aj.f_ 2 16) S).2.i<=1000000:=ry (bNh _ _ _) g;have j:=jW (aj.f_ 2 16) l k;have o:=z.CW (jD m (aj.f_ 2 16) S);have u:=aNs m 2 16 S;refine mZ (bNg m S r) ?_;refine aH ?_ ?_;simp;exact⟨l,z,k⟩;obtain⟨q,H⟩:=jc (aK m (aj.f_ 2 16) S);refine aW (NZ m q.2 r q.1) ?_ ?_ ?_;refine .cons ?_ ((iT _));rw[<-H];rfl;refine .cons (.box ?_) ((dU _));rw[<-H];rfl;rw[H] at g j o u ⊢;clear H k M;obtain⟨n,C⟩:=q;dsimp only at g j o u ⊢;have M:=BR m C;unfold YR at g ⊢;dsimp only at g ⊢;refine jG ?_;cases t:C.stop with
  | true=>
   rw[t,au rfl] at g;rw[au rfl];refine cO (fun e=>?_) (fun e=>?_)
   ·exfalso;have d:(bif decide ((n:Int)>=16) then !true else false)=true:=e
    cases O:decide ((n:Int)>=16)<;>rw[O] at d<;>cases d
   refine gQ ?_;refine aI ?_;rw[t];refine cO (fun e=>?_) (fun e=>?_);cases e;refine dS ?_;refine gZ ?_
   all_goals rfl
  | false=>
   rw[t,ah aAQ] at g;rw[ah aAQ];refine cO (fun e=>?_) (fun e=>?_)
   ·have h:16<=n:=by
     have d:(bif decide ((n:Int)>=16) then !false else false)=true:=e;by_cases O:(n:Int)>=16
     omega;rw[su O] at d;cases d
    rw[au h];refine iJ ?_
    all_goals rfl
   have h:¬16<=n:=by intro h;have d:(bif decide ((n:Int)>=16) then !false else false)=false:=e;rw[mi (show (n:Int)>=16 by omega)] at d;cases d
   rw[ah h] at g ⊢;have x:=bIc (f:=n) a_
   have N:(BU m 2 16 (n+1) C).2.i<=1000000:=by
    unfold YQ at g
    split at g<;>exact g
   refine gQ ?_;refine aI ?_;rw[t];refine cO (fun e=>?_) (fun e=>?_);rotate_left 1;cases e;refine aH ?_ ?_;simp;rw[x];refine⟨j,⟨o,a_⟩,?_⟩;exact N;obtain⟨c,y⟩:=jc (BU m 2 16 (n+1) C);refine aW (WL m c.2 r n c.1.2) ?_ ?_ ?_;refine .cons ?_ ((iT _));change dw (BU m 2 (aBF 16) (IntKind.wrap .i64 ((n:Int)+1)).toNat C).1.2=_;rw[x,<-y];rfl;refine .cons (.box ?_) ((dU _));change uj m (BU m 2 (aBF 16) (IntKind.wrap .i64 ((n:Int)+1)).toNat C).2=_;rw[x,<-y];rfl;rw[y];unfold YQ;refine eH (fun e=>?_) (fun e=>?_)
   ·have P:c.1.2≠0:=by simpa using e
    rw[au P];refine iJ ?_
    all_goals rfl
   have P:¬c.1.2≠0:=by simpa using e
   rw[ah P];refine dS ?_;refine gZ ?_
   all_goals rfl
def bQq:ji->Option (CS×Bj)
 |[.w (.agg ol),.w (.one (.lit (.int .i64 f))),.w (.one (.lit (.string p)))]=>match rX ol with
  |some op=>some (fun m s=>((0<=f/\f<16)/\op.root.length=16/\p.size<=5000)/\um m s/\qp m s 3,fun m s=>((wM op f.toNat p m s).2,.w (.agg (h_ (wM op f.toNat p m s).1))))|none=>none
 |_=>none
theorem aNz(m:jf)(s:ja):b_ prog af 57 (dI 96 (yt m s bQq)):=
 fD (aB func57 ai rfl) (fun e C F h=>by
  unfold bQq at h;split at h;rename_i g f p;split at h;rename_i d;cases h;intro m s b a c;rw[lQ d];obtain⟨k,rfl⟩:=aBZ a.1.1.1;exact aSh _ k p (by have:=a.1.1.2;omega) a.1.2.1 a.1.2.2 m s b a.2 c;cases h
  cases h)
def bQf:ji->Option (CS×Bj)
 |[.w (.agg ol),.w (.one (.lit (.int .i64 f)))]=>match rX ol with
  |some op=>some (fun m s=>((0<=f/\f<=16)/\op.root.length=16)/\(um m s/\qp m s 3/\qp m s 2),fun m s=>((WZ op f.toNat m s).2,.w (.agg (h_ (WZ op f.toNat m s).1))))|none=>none
 |_=>none
theorem aNr(m:jf)(s:ja):b_ prog af 58 (dI 96 (yt m s bQf)):=
 fD (aB func58 ai rfl) (fun e C F h=>by
  unfold bQf at h;split at h;rename_i g f;split at h;rename_i d;cases h;intro m s b a c;rw[lQ d];obtain⟨k,rfl⟩:=aBZ a.1.1.1;exact aSb _ k (by have:=a.1.1.2;omega) a.1.2 m s b a.2 c;cases h
  cases h)
def bPq:ji->Option (CS×Bj)
 |[.w (.agg ol),.w (.one (.lit (.int .i64 f)))]=>match rX ol with
  |some op=>some (fun m s=>((0<=f/\f<=15)/\(op.root.length=16/\op.link.length=16/\op.ot.length=16/\gy op.ol))/\(um m s/\qp m s 3),fun m s=>((Wj op f.toNat m s).2,.w (.agg (h_ (Wj op f.toNat m s).1))))|none=>none
 |_=>none
theorem aWl(m:jf)(s:ja):b_ prog af 60 (dI 96 (yt m s bPq)):=
 fD (aB func60 ai rfl) (fun e C F h=>by
  unfold bPq at h;split at h;rename_i g f;split at h;rename_i d;cases h;intro m s b a c;rw[lQ d];obtain⟨k,rfl⟩:=aBZ a.1.1.1;exact bDy _ k (by have:=a.1.1.2;omega) a.1.2.1 a.1.2.2.1 a.1.2.2.2.1 a.1.2.2.2.2 m s b a.2 c;cases h
  cases h)
def bPt:ji->Option (CS×Bj)
 |[.w (.agg ol),.w (.one (.lit (.int .i64 f)))]=>match rX ol with
  |some op=>some (fun m s=>((0<=f/\f<=16)/\(op.root.length=16/\op.link.length=16))/\(um m s/\qp m s 3),fun m s=>((xU op f.toNat m s).2,.w (.agg (h_ (xU op f.toNat m s).1))))|none=>none
 |_=>none
theorem aNn(m:jf)(s:ja):b_ prog af 61 (dI 96 (yt m s bPt)):=
 fD (aB func61 ai rfl) (fun e C F h=>by
  unfold bPt at h;split at h;rename_i g f;split at h;rename_i d;cases h;intro m s b a c;rw[lQ d];obtain⟨k,rfl⟩:=aBZ a.1.1.1;exact aRu _ k (by have:=a.1.1.2;omega) a.1.2.1 a.1.2.2 m s b a.2 c;cases h
  cases h)
structure Wx(op:jm):Prop where
 root:op.root.length=16
 link:op.link.length=16
 xt:op.xt.length=16
 xl:gy op.xl
 bn:gy op.bn
 bc:op.bc.size<=2000
def kmA(m:jf)(s:ja):List (Nat×Spec):=(57,dI 96 (yt m s bQq))::kmN m s
theorem O0(m:jf)(s:ja):∀ p∈kmA m s,b_ prog af p.1 p.2:=by intro p a;rcases List.mem_cons.1 a with rfl|a;exact aNz m s;exact Nw m s p a
theorem aSJ(m:jf)(s:ja):jq prog af (find (kmA m s)):=⟨aY (O0 m s),dB⟩
def acS(m:jf)(s:ja)(op:jm)(f:Nat)(e:Int)(p:jy):St:=⟨[(0,none,dm (.pt px 0 0)),(2,none,dw f),(4,none,dm (.pt 0 0 0)),(6,none,dm (.pt 1 0 0)),(8,none,n_ p),(9,none,dw e)],[(px,none,0,.box 96 (uj m s)),(0,none,0,.box 31 (w_ op)),(1,none,0,.box 40 (h_ ni))]⟩
theorem aSj(op:jm)(f:Nat)(q:f<16)(a:Wx op):z_ 62 [.w (.agg (w_ op)),dw f] (fun m s=>um m s/\qp m s 3) (fun m s=>((yP op f m s).2,.w (.agg (h_ (yP op f m s).1)))):=by
 intro m j d i c;have M:=aSJ m j;dsimp only at c ⊢;unfold yP at c ⊢;have g:=aJt op a.bc;refine dL func62 rfl rfl rfl (fun A o r=>?_);refine iC ?_;refine aJ (fun b=>?_) (fun b=>?_)
 ·have h:op.xl≠(f:Int):=by simpa using b
  rw[au h];refine iJ ?_
  all_goals rfl
 have n:¬op.xl≠(f:Int):=by simpa using b
 rw[ah n] at c ⊢;refine jK ?_ ?_;simp;exact⟨⟨a.xl,a.link,a.xt⟩,a.bn,by have:=a.bc;omega⟩;refine mZ (acS m j op f (Wn op) (sZ op)) ?_;generalize Wn op=e at c ⊢;generalize sZ op=p at c g ⊢;refine aJ (fun b=>?_) (fun b=>?_)
 ·have h:e≠0:=by simpa using b
  rw[au h];refine iJ ?_
  all_goals rfl
 have l:¬e≠0:=by simpa using b
 rw[ah l] at c ⊢;refine jU (fun b=>?_) (fun b=>?_)
 ·have h:1000<p.size:=by
   have:=of_decide_eq_true (show decide ((p.size:Int) > 1000)=true from b);omega
  rw[au h];refine iJ ?_
  all_goals rfl
 have k:¬1000<p.size:=by have:=of_decide_eq_false (show decide ((p.size:Int) > 1000)=false from b);omega
 rw[ah k] at c ⊢;refine jK ?_ ?_;simp;exact⟨d,⟨⟨a_,a.root,a_⟩,i⟩,c⟩;refine gZ ?_
 all_goals rfl
def bQs:ji->Option (CS×Bj)
 |[.w (.agg ol),.w (.one (.lit (.int .i64 f)))]=>match rX ol with
  |some op=>some (fun m s=>((0<=f/\f<=15)/\Wx op)/\(um m s/\qp m s 3),fun m s=>((yP op f.toNat m s).2,.w (.agg (h_ (yP op f.toNat m s).1))))|none=>none
 |_=>none
theorem aOa(m:jf)(s:ja):b_ prog af 62 (dI 96 (yt m s bQs)):=
 fD (aB func62 ai rfl) (fun e C F h=>by
  unfold bQs at h;split at h;rename_i g f;split at h;rename_i d;cases h;intro m s b a c;rw[lQ d];obtain⟨k,rfl⟩:=aBZ a.1.1.1;exact aSj _ k (by have:=a.1.1.2;omega) a.1.2 m s b a.2 c;cases h
  cases h)
def kmD(m:jf)(s:ja):List (Nat×Spec):=(58,dI 96 (yt m s bQf))::(60,dI 96 (yt m s bPq)) ::
 (61,dI 96 (yt m s bPt))::(62,dI 96 (yt m s bQs))::kmA m s
theorem Yd(m:jf)(s:ja):∀ p∈kmD m s,b_ prog af p.1 p.2:=by intro p a;simp only[kmD,xn] at a;rcases a with rfl|rfl|rfl|rfl|a;exact aNr m s;exact aWl m s;exact aNn m s;exact aOa m s;exact O0 m s p (by simpa[kmA] using a)
theorem Ye(m:jf)(s:ja):jq prog af (find (kmD m s)):=⟨aY (Yd m s),dB⟩
theorem O6(op:jm)(a:1<=op.kind/\op.kind<=7)(f:Nat)(m:jf)(s:ja):s.i<=(bNv op f m s).2.i:=by rw[(bBq op a f m s).1];exact bNq _ _ _
def ZB(m:jf)(s:ja)(op:jm)(f:Nat):St:=⟨[(0,none,dm (.pt px 0 0)),(3,none,dm (.pt 0 0 0)),(4,none,dm (.pt 1 0 0)),(5,none,dw f)],[(px,none,0,.box 96 (uj m s)),(0,none,0,.box 31 (w_ op)),(1,none,0,.box 40 (h_ ni))]⟩
def aSY(m:jf)(s:ja)(op:jm)(f:Nat)(a b:Bool):St:=⟨(6,none,t_ a)::(7,none,t_ b)::(ZB m s op f).t,(ZB m s op f).o⟩
structure Ff(op:jm):Prop where
 ok:zl op
 id:op.id.length=16
 pay:op.payload.size<=5000
theorem KT(op:jm)(hk:1<=op.kind/\op.kind<=7)(d:Ff op):z_ 32 [.w (.agg (w_ op))] (fun m s=>um m s/\qp m s 3/\qp m s 2) (fun m s=>((Hl op m s).2,.w (.agg (h_ (Hl op m s).1)))):=by
 intro m I D z e;have M:=Ye m I;dsimp only at e ⊢;unfold Hl at e ⊢;have p:(aK m (aj.f_ 3 16) I).2.i<=1000000:=by split at e;exact e;exact ry (O6 op hk _ _ _) e
 have g:=jW (aj.f_ 3 16) D p;have n:=jD m (aj.f_ 3 16) I;have E:=aNs m 3 16 I;refine dL func32 rfl rfl rfl (fun A hn hI=>?_);refine bU ?_ ?_;simp;exact⟨D,z.2.1,p⟩;obtain⟨q,K⟩:=jc (aK m (aj.f_ 3 16) I);refine aW (ZB m q.2 op q.1) ?_ ?_ ?_;refine .cr (.cr (.cr (.cons ?_ .nil)));rw[<-K];rfl;refine .cons (.box ?_) ((dU _));rw[<-K];rfl;rw[K] at e g n E ⊢;obtain⟨f,s⟩:=q;dsimp only at e g n E ⊢;clear K p M;have M:=Ye m s;have H:=z.1.CW n;have r:=z.2.1.CW n;have Y:=z.2.2.CW n;refine aJ (fun c=>?_) (fun c=>?_)
 ·have h:s.stop=true:=c;rw[au h];refine iJ ?_
  all_goals rfl
 have U:s.stop=false:=c;rw[ah (by rw[U];exact aAQ)] at e ⊢;unfold bNv at e ⊢;refine dS ?_;refine aI ?_;obtain⟨C,k⟩:=jc ((bif (bif op.kind==1 then true else op.kind==4) then true else op.kind==7));obtain⟨J,l⟩:=jc ((bif op.kind==3 then true else op.kind==5));refine aW (aSY m s op f C J) ?_ ?_ ?_;rw[<-k,<-l];exact iq;exact r_;have u:C=true->op.kind=1\/op.kind=4\/op.kind=7:=fun h=>by rw[h] at k;simp at k;omega
 have x:C=false->¬(op.kind=1\/op.kind=4\/op.kind=7):=fun h=>by rw[h] at k;simp at k;omega
 have F:J=true->op.kind=3\/op.kind=5:=fun h=>by rw[h] at l;simp at l;omega
 have G:J=false->¬(op.kind=3\/op.kind=5):=fun h=>by rw[h] at l;simp at l;omega
 clear k l;have W:(f:Int).tmod 2=((f % 2:Nat):Int):=rfl;have B:f % 2=0\/f % 2=1:=Nat.mod_two_eq_zero_or_one f
 have d6:∀ b,(bif (bif (bif C then true else op.kind==6) then ((f:Int).tmod 2==1) else false) then true else (bif J then ((f:Int).tmod 2==0) else false))=b->(b=true↔(((op.kind=1\/op.kind=4\/op.kind=7)\/op.kind=6)/\f % 2=1)\/((op.kind=3\/op.kind=5)/\f % 2=0)):=by
  intro b L;rw[W] at L;subst L
  cases j:C<;>cases y:J<;>rcases B with B|B<;>rw[B]<;>simp
  all_goals first
   |(have:=u j;have:=F y;omega)
   |(have:=u j;have:=G y;omega)
   |(have:=x j;have:=F y;omega)
   |(have:=x j;have:=G y;omega)
 have Z:∀ b,(bif C then decide ((f:Int)>=16) else false)=b->(b=true↔(op.kind=1\/op.kind=4\/op.kind=7)/\16<=f):=by
  intro b L;subst L
  cases j:C<;>simp
  all_goals first
   |(have:=u j;omega)
   |(have:=x j;omega)
 refine qG ?_ ?_;simp;refine⟨fun a b=>⟨a,b⟩,fun h=>?_⟩;cases C;by_cases h6:op.kind=6;exact .inr (h (.inr h6));exact .inl ⟨rfl,h6⟩;exact .inr (h (.inl rfl));refine cO (fun c=>?_) (fun c=>?_)
 ·rw[au ((d6 true c).1 rfl)];refine iJ ?_
  all_goals rfl
 have n6:¬((((op.kind=1\/op.kind=4\/op.kind=7)\/op.kind=6)/\f % 2=1)\/((op.kind=3\/op.kind=5)/\f % 2=0)):=fun h=>absurd ((d6 false c).2 h) jb;rw[ah n6] at e ⊢;refine jU (fun c=>?_) (fun c=>?_)
 ·rw[au ((Z true c).1 rfl)];refine iJ ?_
  all_goals rfl
 have n8:¬((op.kind=1\/op.kind=4\/op.kind=7)/\16<=f):=fun h=>absurd ((Z false c).2 h) jb;rw[ah n8] at e ⊢;refine gQ ?_;refine aI ?_;refine aN ?_;refine mZ (⟨(64,none,dw op.kind)::(ZB m s op f).t,(ZB m s op f).o⟩) ?_;clear d6 Z u x F G;refine eH (fun c=>?_) (fun c=>?_)
 ·have T:op.kind=1:=by simpa using c
  rw[au T] at e ⊢;refine aH ?_ ?_;simp;exact⟨g,⟨⟨a_,d.ok.root,d.pay⟩,H,r⟩,e⟩;refine gZ ?_
  all_goals rfl
 have T:¬op.kind=1:=by simpa using c
 rw[ah T] at e ⊢;refine eH (fun c=>?_) (fun c=>?_)
 ·have S:op.kind=2:=by simpa using c
  rw[au S] at e ⊢;refine aH ?_ ?_;simp;exact⟨g,⟨⟨a_,d.ok.root⟩,H,r,Y⟩,e⟩;refine gZ ?_
  all_goals rfl
 have S:¬op.kind=2:=by simpa using c
 rw[ah S] at e ⊢;refine eH (fun c=>?_) (fun c=>?_)
 ·have Q:op.kind=3:=by simpa using c
  rw[au Q] at e ⊢;have V:QZ ⟨1,(f:Int),y8,0,op.payload⟩:=⟨by show gy 1;unfold gy;omega,by show gy (f:Int);unfold gy;omega,QU,rfl,d.pay⟩;unfold Fv at e ⊢;refine aH ?_ ?_;simp;exact⟨g,⟨⟨d.ok.root,V⟩,H⟩,e⟩;obtain⟨a,X⟩:=jc (ve op ⟨1,(f:Int),y8,0,op.payload⟩ m s);refine aW (⟨(8,none,dw a.1)::(ZB m a.2 op f).t,(ZB m a.2 op f).o⟩) ?_ ?_ ?_;refine .cons ?_ ((iT _));rw[<-X];rfl;refine .cons (.box ?_) ((dU _));rw[<-X];rfl;rw[X];unfold EU;clear M;have M:=Ye m a.2;refine aJ (fun c=>?_) (fun c=>?_)
  ·have h:a.1≠0:=by simpa using c
   rw[au h];refine iJ ?_
   all_goals rfl
  have h:¬a.1≠0:=by simpa using c
  rw[ah h];refine dS ?_;refine gZ ?_
  all_goals rfl
 have Q:¬op.kind=3:=by simpa using c
 rw[ah Q] at e ⊢;refine eH (fun c=>?_) (fun c=>?_)
 ·have P:op.kind=4:=by simpa using c
  rw[au P] at e ⊢;refine iJ ?_
  all_goals rfl
 have P:¬op.kind=4:=by simpa using c
 rw[ah P] at e ⊢;refine eH (fun c=>?_) (fun c=>?_)
 ·have O:op.kind=5:=by simpa using c
  rw[au O] at e ⊢;refine aH ?_ ?_;simp;exact⟨g,⟨⟨a_,d.ok.root,d.ok.link,d.ok.ot,d.ok.ol⟩,H,r⟩,e⟩;refine gZ ?_
  all_goals rfl
 have O:¬op.kind=5:=by simpa using c
 rw[ah O] at e ⊢;refine eH (fun c=>?_) (fun c=>?_)
 ·have N:op.kind=6:=by simpa using c
  rw[au N] at e ⊢;refine aH ?_ ?_;simp;exact⟨g,⟨⟨a_,d.ok.root,d.ok.link⟩,H,r⟩,e⟩;refine gZ ?_
  all_goals rfl
 have N:¬op.kind=6:=by simpa using c
 rw[ah N] at e ⊢;refine jK ?_ ?_;simp;exact⟨g,⟨⟨a_,⟨d.ok.root,d.ok.link,d.ok.xt,d.ok.xl,d.ok.bn,d.ok.bc⟩⟩,H,r⟩,e⟩;refine gZ ?_
 all_goals rfl
def bQk:ji->Option (CS×Bj)
 |[.w (.agg ol)]=>match rX ol with
  |some op=>some (fun m s=>((1<=op.kind/\op.kind<=7)/\Ff op)/\um m s/\qp m s 3/\qp m s 2,fun m s=>((Hl op m s).2,.w (.agg (h_ (Hl op m s).1))))|none=>none
 |_=>none
theorem bKu(m:jf)(s:ja):b_ prog af 32 (dI 96 (yt m s bQk)):=
 fD (aB func32 ai rfl) (fun e C F h=>by
  unfold bQk at h;split at h;split at h;rename_i d;cases h;rw[lQ d];exact fun m s a b c=>KT _ b.1.1 b.1.2 m s a b.2 c;cases h
  cases h)
theorem ZO(op:jm)(h:DC op≠0):dA op=.ret (eF (DC op)):=by
 unfold DC at h ⊢;unfold dA oO mO;by_cases d:op.kind<1\/7<op.kind
 ·rw[au d]
  rw[show (bif decide (op.kind>=1) then decide (op.kind<=7) else false)=false from by
   rcases d with k|k;rw[su a_];rfl
   ·rw[su (p:=op.kind<=7) a_];cases decide (op.kind>=1)<;>rfl]
  rfl
 rw[ah d] at h ⊢;rw[show (bif decide (op.kind>=1) then decide (op.kind<=7) else false)=true from by rw[mi a_,mi (p:=op.kind<=7) a_];rfl];unfold uZ;by_cases c:(op.kind=1\/op.kind=3)/\1000<op.payload.size;rw[au c,au c.1,su a_];rfl;rw[ah c] at h ⊢;by_cases b:op.kind=5/\(op.ol<0\/16<=op.ol\/¬op.ol.tmod 2=0\/op.ot=op.id)
 ·rw[au b,ah a_,au b.1]
  rw[show (bif bif bif decide (op.ol>=0) then decide (op.ol<16) else false then op.ol.tmod 2==0 else false then !(op.ot==op.id) else false)=false from by
   rcases b.2 with k|k|k|k;rw[su a_];rfl
   ·rw[su (p:=op.ol<16) a_];cases decide (op.ol>=0)<;>rfl
   ·rw[show (op.ol.tmod 2==0)=false from by simpa using k];cases decide (op.ol>=0)<;>cases decide (op.ol<16)<;>rfl
   ·rw[k];cases decide (op.ol>=0)<;>cases decide (op.ol<16)<;>cases op.ol.tmod 2==0<;>simp]
  rfl
 rw[ah b] at h ⊢;by_cases a:op.kind=7/\¬op.xt=op.id;rw[au a,ah a_,ah a_,au a.1];rw[show (op.xt==op.id)=false from by simpa using a.2];rfl;rw[ah a] at h;exact absurd rfl h
theorem bRb(op:jm)(h:DC op=0):(1<=op.kind/\op.kind<=7)/\dA op=(Bo ((aj.f_ 3 16).bind fun n=>pY op n)).bind fun x=>.ret (Hr eF x):=by
 unfold DC at h;by_cases i:op.kind<1\/7<op.kind;rw[au i] at h;exact absurd h jb;rw[ah i] at h;by_cases g:(op.kind=1\/op.kind=3)/\1000<op.payload.size;rw[au g] at h;exact absurd h jb;rw[ah g] at h;by_cases b:op.kind=5/\(op.ol<0\/16<=op.ol\/¬op.ol.tmod 2=0\/op.ot=op.id);rw[au b] at h;exact absurd h jb;rw[ah b] at h;by_cases f:op.kind=7/\¬op.xt=op.id;rw[au f] at h;exact absurd h jb;refine⟨a_,?_⟩;have o:uZ op=.ret ():=by unfold uZ;by_cases d:op.kind=1\/op.kind=3;rw[au d,mi a_];rfl;rw[ah d];by_cases a:op.kind=5;rw[au a];have e:0<=op.ol:=Decidable.byContradiction fun h=>b ⟨a,.inl a_⟩;have l:op.ol<16:=Decidable.byContradiction fun h=>b ⟨a,.inr (.inl a_)⟩;have k:op.ol.tmod 2=0:=Decidable.byContradiction fun h=>b ⟨a,.inr (.inr (.inl h))⟩;have j:¬op.ot=op.id:=fun h=>b ⟨a,.inr (.inr (.inr h))⟩;rw[mi (p:=op.ol>=0) a_,mi l,k,show (op.ot==op.id)=false from by simpa using j];rfl;rw[ah a];by_cases c:op.kind=7;rw[au c];have e:op.xt=op.id:=Decidable.byContradiction fun h=>f ⟨c,h⟩;rw[e,show (op.id==op.id)=true from d_];rfl;rw[ah c]
 have m:oO op=(aj.f_ 3 16).bind fun n=>pY op n:=by unfold oO mO;rw[o,show (bif decide (op.kind>=1) then decide (op.kind<=7) else false)=true from by rw[mi a_,mi (p:=op.kind<=7) a_];rfl];rfl
 unfold dA;rw[bHd,m]
theorem ZA(op:jm)(h:DC op=0)(m:jf)(s:ja):(Hl op m s).2=(aK m (dA op) s).2/\((Hl op m s).2.stop=false->(Hl op m s).1=(aK m (dA op) s).1):=by obtain⟨a,e⟩:=bRb op h;obtain⟨c,b⟩:=ZC op a m s;rw[e,dR];exact⟨c,b⟩
def Vj:Spec:=aV true fun a=>match a with
 |[.w (.agg ol)]=>(match rX ol with
  |some m=>some (True,dw (DC m))|none=>none)
 |_=>none
theorem SB:b_ prog af 30 Vj:=by refine aU (aB func30 ai rfl) (fun c p r a d=>?_);split at a;split at a;rename_i b;cases a;rw[lQ b];exact Jy _;cases a;cases a
def kmX(m:jf)(s:ja):List (Nat×Spec):=[(32,dI 96 (yt m s bQk)),(30,Vj),(31,bJh)]
theorem aSH(m:jf)(s:ja):jq prog af (find (kmX m s)):=⟨aY (fun p a=>by
 simp only[kmX,xn,aAe,or_false] at a;rcases a with rfl|rfl|rfl;exact bKu m s;exact SB
 exact bAt),dB⟩
theorem aYu{c:Type}(F:List qy){p:aj c}:∀ {n:Nat},p.Within n->∀ h i,(fE F p h i).2.2<=i+n:=by
 induction p with
 |ret a=>intro n _ h i;exact Nat.le_add_right _ _| ask a k d=>
  intro n b h i;cases n with
  |zero=>exact b.elim|succ n=>rw[fE];split;show i+1<=i+(n+1);omega;have:=d (fM h a (eG F i)).2.1 (b _) (fM h a (eG F i)).1 (i+1);omega
def aRD(m:jf)(s:ja)(op:jm):St:=⟨[(4,none,dm (.pt 1 0 0)),(6,none,dm (.pt 2 0 0)),(7,none,dm (.pt 3 0 0)),(11,none,dm (.pt 4003 0 0))],
 [(1,none,0,.box 31 (w_ op)),(2,none,0,.box 65 ([.lit (.slice none 0 0),.lit (.slice none 0 0),.bs 16 (Pi 16 0)])),(3,none,0,.box 40 (h_ ni)),(4003,none,0,.box 96 (uj m s))]⟩
def aRE(m:jf)(x:jk×ja):St:=⟨[(6,none,dm (.pt 2 0 0)),(7,none,dm (.pt 3 0 0)),(11,none,dm (.pt 4003 0 0)),(12,none,dm (.pt 5003 0 0))],
 [(2,none,0,.box 65 ([.lit (.slice none 0 0),.lit (.slice none 0 0),.bs 16 (Pi 16 0)])),(3,none,0,.box 40 (h_ ni)),(4003,none,0,.box 96 (uj m x.2)),(5003,none,0,.box 40 (h_ x.1))]⟩
theorem bEa(op:jm)(y:Ff op)(h0:jr)(F:List qy)(hd:qx h0)(H:F.length<=1000000):fQ prog af 17 false [.w (.agg (qi h0)),.w (.agg (w_ op)),dm (uP F)] (aSx (fE F (dA op) h0 0)):=by
 obtain⟨m,x⟩:∃ m:jf,m=⟨true,[],F⟩:=⟨_,rfl⟩;obtain⟨e,d⟩:∃ s:ja,s=⟨0,⟨0,0,0,aC⟩,false,false,h0⟩:=⟨_,rfl⟩;have M:=aSH m e;refine bH func17 rfl rfl bJ (fun A P B Q=>?_);refine iC ?_;refine aJ (fun g=>?_) (fun g=>?_);have h:DC op≠0:=by simpa using g
 rw[ZO op h];refine aI ?_;exact kE;have h:DC op=0:=by simpa using g
 obtain⟨D,_⟩:=bRb op h;obtain⟨l,u⟩:=ZA op h m e;have c:=bFv (m:=m) (by rw[x]) (dA op) (s:=e) (by rw[d]) (by rw[d]);have p:=aYu F (aEh op) h0 0;refine dS ?_;refine bK (s':=aRD m e op) (fun a w G=>((G.aJQ (b:=4003) (l':=uj m e) ay (fun C J h=>by subst x d;exact h.aRY (fun _=>aHI) (fun _ h=>h))).reset (kT:=[4,6,7,11]) (kO:=[1,2,3,4003]) ay d_).same ?_ ?_) ?_;exact iq;exact r_;have t:v_ m e:=by subst x d;exact⟨hd.ok,x8 _,fun r z=>absurd z d_,H,x8 _⟩
 have k:qp m e 2/\qp m e 3/\um m e:=by subst d;have B:=hd.n;exact⟨fun _=>⟨⟨a_,by show (2:Int)<(h0.b.length:Int);omega⟩,hd.l2⟩,fun _=>⟨⟨a_,by show (3:Int)<(h0.b.length:Int);omega⟩,hd.l3⟩,fun _=>hd.f⟩
 rw[show m.F=F by rw[x],show e.h=h0 by rw[d],show e.i=0 by rw[d],show e.ask=⟨0,0,0,aC⟩ by rw[d]] at c;generalize fE F (dA op) h0 0=q at p c ⊢;obtain⟨o,S,j⟩:=q;generalize aK m (dA op) e=r at c l u;obtain⟨O,N⟩:=r;dsimp only at p l u
 have E:(Hl op m e).2.i<=1000000:=by
  rw[l];cases o with
  |none=>dsimp only at c;rw[c];show j<=_;omega|some a=>dsimp only at c;cases c;show j<=_;omega
 refine aH ?_ ?_;simp;exact⟨t,⟨⟨D,y⟩,k.2.2,k.2.1,k.1⟩,E⟩;refine mZ (aRE m (Hl op m e)) ?_;generalize Hl op m e=w at l u ⊢;obtain⟨L,K⟩:=w;dsimp only at l u;subst l;refine mP ?_;cases o with
 | none=>
  dsimp only at c;subst c;refine eH (fun g=>?_) (fun g=>?_)
  ·refine gB ?_
   all_goals rfl
  cases g
 | some a=>
  dsimp only at c;cases c;have I:=u rfl;subst I;refine eH (fun g=>?_) (fun g=>?_);cases g
  ·refine dS ?_;refine jB ?_
   all_goals rfl
def GH(b:vk)(k:Nat):St:=⟨[(2,none,dm (.pt 0 0 0)),(3,none,dm (.pt 1 0 0)),(5,none,dw k)],[(0,none,0,.box 60 (BK b)),(1,none,0,.box 60 (BK b))]⟩
def WT(b:vk)(k j:Nat):St:=⟨(6,none,dw j)::(GH b k).t,(GH b k).o⟩
theorem bGe(b:vk)(hb:b.length<=1000)(h:∀ l∈b,l.length<=100000):fQ prog af 35 true [.w (.agg (BK b)),.w (.agg (BK b))] (t_ true):=by
 have M:=noM (I:=af);refine bH func35 rfl rfl bJ (fun A q n r=>?_);refine aI ?_;refine aJ (fun c=>?_) (fun c=>?_);have e:((b.length:Int) != (b.length:Int))=true:=c;simp at e;refine gQ ?_;refine aI ?_;refine aN ?_;refine aW (GH b 0) ?_ ?_ ?_;exact G6 rfl;exact bEk rfl;refine dX b.length (fun k t=>t=GH b k) 0 rfl a_ (fun k t i o=>?_);subst i;refine aJ (fun c=>?_) (fun c=>?_);have d:k<b.length:=by simpa using c
 refine gQ ?_;refine aN ?_;refine mP ?_;have m:(b.getD k []).length<=100000:=by rw[zG,zH d];exact h _ (aBI d)
 refine aH ?_ ?_;simp;exact d;refine cO (fun c=>?_) (fun c=>?_);have e:(((b.getD (k:Int).toNat []).length:Int) != ((b.getD (k:Int).toNat []).length:Int))=true:=c;simp at e;refine dS ?_;refine aN ?_;refine aW (WT b k 0) ?_ ?_ ?_;exact G6 rfl;exact bEk rfl;refine dX (b.getD k []).length (fun j t=>t=WT b k j) 0 rfl a_ (fun j t i p=>?_);subst i;refine qG ?_ ?_;simp;exact d;refine cO (fun c=>?_) (fun c=>?_);have f:j<(b.getD k []).length:=by simpa using c
 refine gQ ?_;refine aN ?_;refine aH ?_ ?_;simp;rw[zG] at f;exact⟨d,f,d,f⟩;refine cO (fun c=>?_) (fun c=>?_);have e:((b.getD (k:Int).toNat []).getD (j:Int).toNat 0 != (b.getD (k:Int).toNat []).getD (j:Int).toNat 0)=true:=c;simp at e;refine fZ ?_;refine fJ ?_;intro a w g;refine⟨j+1,_,a_,a_,rfl,(g.reset (kT:=[6,2,3,5]) (kO:=[0,1]) ay d_).same ?_ ?_⟩;exact .cons (by rw[bW j a_]) (G6 rfl);exact bEk rfl;refine dK ?_;change kw _ _ _ _ _;refine fJ ?_;intro a w g;refine⟨k+1,_,a_,a_,rfl,(g.reset (kT:=[2,3,5]) (kO:=[0,1]) ay d_).same ?_ ?_⟩;exact .cr (.cr (.cons (by rw[bW k a_]) .nil));exact bEk rfl;refine dK ?_;change kw _ _ _ _ _;refine aI ?_;exact kE
def OY:ji->Option (Prop×PV)
 |[.w (.agg [.sl 1 n f]),.w (.agg [.sl 1 m g])]=>some (aSO n m f g,t_ true)|_=>none
theorem bOj:b_ prog af 35 (aV true OY):=by
 refine aU (aB func35 ai rfl) (fun s p r a h w b d i e=>?_);unfold OY at a;split at a;rename_i n f m g;cases a;obtain⟨rfl,q,o,l,k,j⟩:=h
 match d,e with
 |[v1,v2],⟨k1,k2,_⟩=>have c:=Wp o k2;rw[<-l] at c;exact bGe (dF n f) (by rw[iE];exact k) j w b [v1,v2] i ⟨Wp q k1,c,trivial⟩
 cases a
def s9L:List (Nat×Spec):=[(35,aV true OY)]
theorem aGO:∀ p∈s9L,b_ prog af p.1 p.2:=by intro p a;simp only[s9L,xn,aAe,or_false] at a;subst a;exact bOj
theorem s9M:jq prog af (find s9L):=⟨aY aGO,dB⟩
def aGC(h:jr)(k:Nat):St:=⟨[(2,none,dm (.pt 0 0 0)),(3,none,dm (.pt 1 0 0)),(5,none,dw k)],[(0,none,0,.box 65 (qi h)),(1,none,0,.box 65 (qi h))]⟩
theorem bDx(h:jr)(hb:h.b.length<=1000)(e:∀ l∈h.b,l.length<=100000)(n:h.f.length<=1000000):fQ prog af 18 true [.w (.agg (qi h)),.w (.agg (qi h))] (t_ true):=by
 have M:=s9M;refine bH func18 rfl rfl bJ (fun A o j p=>?_);refine aI ?_;refine aJ (fun c=>?_) (fun c=>?_);simp at c;refine gQ ?_;refine aI ?_;refine aN ?_;refine aW (aGC h 0) ?_ ?_ ?_;exact G6 rfl;exact bEk rfl;refine dX h.f.length (fun k t=>t=aGC h k) 0 rfl a_ (fun k t i m=>?_);subst i;refine aJ (fun c=>?_) (fun c=>?_);have d:k<h.f.length:=by simpa using c
 refine gQ ?_;refine aN ?_;refine aH ?_ ?_;simp;exact d;refine cO (fun c=>?_) (fun c=>?_);simp at c;refine fZ ?_;refine fJ ?_;intro a w g;refine⟨k+1,_,a_,a_,rfl,(g.reset (kT:=[2,3,5]) (kO:=[0,1]) ay d_).same ?_ ?_⟩;exact .cr (.cr (.cons (by rw[bW k a_]) .nil));exact bEk rfl;refine dK ?_;change kw _ _ _ _ _;refine aH ?_ ?_;simp;exact⟨rfl,wE _ _,wE _ _,rfl,hb,by rw[aQ];exact e⟩;exact kE
structure aAN where
 t:di
 l:Int
structure aAK where
 t:di
 l:Int
 n:Int
 c:jy
 g:di
structure vw where
 h:Nat->jr
 p:Nat->List Fl
 Bz:List aAN
 BO:List aAK
 se:Nat->List Int
 bad:Bool
def FK:aAN:=⟨y8,0⟩
def CV:aAK:=⟨y8,0,0,aC,y8⟩
def Fz{a:Type}(g:a->g_)(d:a)(l:List a):Nat->g_:=fun i=>g (l.getD i d)
def aHO(o:aAN):g_:=[.bs 16 o.t,.lit (.int .i64 o.l)]
def aFP(o:aAK):g_:=[.bs 16 o.t,.lit (.int .i64 o.l),.lit (.int .i64 o.n),.lit (.string o.c),.bs 16 o.g]
def JP(n:Int):g_:=[.lit (.int .i64 n)]
def wPn(k:Nat):Nat:=match k with
 |0=>900013|1=>900014|_=>900015
def wSn(k:Nat):Nat:=match k with
 |0=>900019|1=>900020|_=>900021
def BN(S:vw)(i:Nat):g_:=[.ow (wPn i) 0 1 0 (S.p i).length]
def BQ(S:vw)(i:Nat):g_:=[.ow (wSn i) 0 1 0 (S.se i).length]
def aFN(S:vw):g_:=[.ow 900011 0 18 0 3,.ow 900012 0 1 0 3,.ow 900016 0 17 0 S.Bz.length,.ow 900017 0 35 0 S.BO.length,.ow 900018 0 1 0 3,.lit (.bool S.bad)]
def Aq:List Nat:=[900010,900011,900012,900013,900014,900015,900016,900017,900018,900019,900020,900021]
def D6(S:vw):yg:=[(900010,.box 57 (aFN S)),(900011,.arr 65 18 3 (Zg S.h)),(900012,.arr 100 1 3 (BN S)),
 (900013,.arr 63 1 (S.p 0).length (Fz flE [] (S.p 0))),(900014,.arr 63 1 (S.p 1).length (Fz flE [] (S.p 1))),(900015,.arr 63 1 (S.p 2).length (Fz flE [] (S.p 2))),
 (900016,.arr 25 17 S.Bz.length (Fz aHO FK S.Bz)),(900017,.arr 29 35 S.BO.length (Fz aFP CV S.BO)),(900018,.arr 101 1 3 (BQ S)),
 (900019,.arr 3 1 (S.se 0).length (Fz JP 0 (S.se 0))),(900020,.arr 3 1 (S.se 1).length (Fz JP 0 (S.se 1))),(900021,.arr 3 1 (S.se 2).length (Fz JP 0 (S.se 2)))]
theorem OE{os:yg}{c:PC}(h:bT false c=true):zt os c=true:=by cases c<;>first|exact h|cases h
theorem aTo{os:yg}{l:g_}(h:l.all (bT false)=true):l.all (zt os)=true:=List.all_eq_true.2 fun c a=>OE (List.all_eq_true.1 h c a)
theorem xM{b:Type}{g:b->g_}(c:∀ a,(g a).all (bT false)=true){os:yg}{d:b}{l:List b}(i:Nat):(Fz g d l i).all (zt os)=true:=aTo (c _)
theorem qF(S:vw):∀ q∈D6 S,DZ (D6 S) q.2:=by
 intro q b;simp only[D6,xn,aAe,or_false] at b;rcases b with rfl|rfl|rfl|rfl|rfl|rfl|rfl|rfl|rfl|rfl|rfl|rfl;rfl;exact fun i _=>aTo (List.all_eq_true.2 (aCq (S.h i)))
 ·intro i a
  rcases Gf a with rfl|rfl|rfl<;>rfl
 exact fun i _=>xM (fun _=>rfl) i;exact fun i _=>xM (fun _=>rfl) i;exact fun i _=>xM (fun _=>rfl) i;exact fun i _=>xM (fun _=>rfl) i;exact fun i _=>xM (fun _=>rfl) i
 ·intro i a
  rcases Gf a with rfl|rfl|rfl<;>rfl
 exact fun i _=>xM (fun _=>rfl) i;exact fun i _=>xM (fun _=>rfl) i;exact fun i _=>xM (fun _=>rfl) i
theorem IJ(S:vw):(D6 S).map (·.1)=Aq:=rfl
theorem oC:IB Aq=true:=ay
theorem xR{P:ed}{fn:Func}{os:yg}{a:PV}{out:Out}{t:List (Nat×og×PV)}(h:(AQ P fn.results).exec none ⟨t,headW os⟩ [] [] [] []=some out)(hc:All out.conds)(c:out.wr=[])(d:out.val=a)(f:vP (zt os) a=true)(e:∀ q∈os,DZ os q.2)(hd:IB (os.map (·.1))=true):aAM P fn os a ⟨t,headW os⟩:=⟨out,h,hc,c,d,f,fun q b=>⟨by show find (headW os) q.1=_;rw[uS,wI b hd];rfl,e q b⟩⟩
def QD(H:Nat->jr)(a:Bool):vw:=⟨H,fun k=>[(H k).f],[],[],fun _=>[],a⟩
def aTO(x:Nat):Nat:=match bz x 1003,bz x 12007,bz x 1000,bz x 1001,bz x 13016,bz x 13017,bz x 13018 with
 |true,_,_,_,_,_,_=>900010|_,true,_,_,_,_,_=>900011|_,_,true,_,_,_,_=>900012|_,_,_,true,_,_,_=>900018|_,_,_,_,true,_,_=>900013|_,_,_,_,_,true,_=>900014|_,_,_,_,_,_,true=>900015|_,_,_,_,_,_,_=>x
def ZX(k i:Nat):g_:=match XN i k with
 |true=>[.ow (wSn i) 0 1 0 0]|false=>[.lit (.slice none 0 0)]
theorem V9(q:QS)(n0 g n2:jr)(L:ET (lI 0)=n0)(e1:ET (lI 1)=g)(e2:ET (lI 2)=n2)(eq:fE [] (dA QW) n0 0=q):Eb prog af 12 [] (D6 (QD (F7 q g n2) (QT q))) [] (dm (.pt 900010 0 0)):=by
 have p:∃ c,Tryz.f12.body=some c:=⟨_,rfl⟩;obtain⟨c,r⟩:=p;refine aYq func12 r rfl rfl (by rw[IJ];exact oC) (fun x t l h=>by cases h) (fun q s=>by cases s) rfl (fun A u C k B=>?_);have k:=k rfl;obtain⟨N,o,z⟩:=bRo q n0 g n2 L e1 e2 eq k u B;obtain rfl:N=c:=Option.some.inj (o.symm.trans r);have f:∀ {i:Nat},i<3->i=0\/i=1\/i=2:=fun h=>a_;refine z _ (fun a w y=>?_)
 have K:=y.ren (m:=aTO) (R:=[(1000,BN (QD (F7 q g n2) (QT q)))]) k ay (by
  simp only[All,and_true]
  exact⟨ca (iM _ _),(fun i d=>by rcases f d with rfl|rfl|rfl<;>rfl),ca (jY _),zx _,zx _,zx _⟩)
 have J:=K.C9 (x:=900016) (b:=900010) (e:=25) (n:=17) (l1:=[.ow 900011 0 18 0 3,.ow 900012 0 1 0 3]) ay ay;have I:=J.C9 (x:=900017) (b:=900010) (e:=29) (n:=35) (l1:=[.ow 900011 0 18 0 3,.ow 900012 0 1 0 3,.ow 900016 0 17 0 0]) ay ay
 have H:=I.EL (x:=900019) (b:=900018) (e:=3) (n:=1) (j:=0) (f':=ZX 1) ay ay rfl rfl (fun i d h=>by rcases f d with rfl|rfl|rfl<;>first|rfl|exact absurd rfl h)
 have G:=H.EL (x:=900020) (b:=900018) (e:=3) (n:=1) (j:=1) (f':=ZX 2) ay ay rfl rfl (fun i d h=>by rcases f d with rfl|rfl|rfl<;>first|rfl|exact absurd rfl h)
 have F:=G.EL (x:=900021) (b:=900018) (e:=3) (n:=1) (j:=2) (f':=ZX 3) ay ay rfl rfl (fun i d h=>by rcases f d with rfl|rfl|rfl<;>first|rfl|exact absurd rfl h)
 have E:=F.m_ (os:=[]) (R:=[(900012,BN (QD (F7 q g n2) (QT q))),(900018,BQ (QD (F7 q g n2) (QT q)))]) (kT:=[0]) (kO:=Aq) C ay (by
  simp only[AC,IR,C_,All,and_true]
  exact⟨ca (iM _ _),(fun i d=>by rcases f d with rfl|rfl|rfl<;>rfl),zx _,zx _,zx _,(fun i d=>a_),(fun i d=>a_),(fun i d=>by rcases f d with rfl|rfl|rfl<;>rfl),(fun i d=>a_),(fun i d=>a_),(fun i d=>a_)⟩)
 have D:qj A ⟨[(0,none,dm (.pt 900010 0 0))],headW (D6 (QD (F7 q g n2) (QT q)))⟩ a w:=E.same ((iT _))
  (
   .cb (.cons (.arr rfl fun _ _=>rfl) (.cons (.arr rfl fun _ _=>rfl)
   (.cons (.arr rfl fun i d=>by obtain rfl:i=0:=a_;rfl) (.cons (.arr rfl fun i d=>by obtain rfl:i=0:=a_;rfl) (.cons (.arr rfl fun i d=>by obtain rfl:i=0:=a_;rfl)
   (.cons (.arr rfl fun i d=>absurd d (Nat.not_lt_zero _)) (.cons (.arr rfl fun i d=>absurd d (Nat.not_lt_zero _)) (.cons (.arr rfl fun _ _=>rfl)
   (.cons (.arr rfl fun i d=>absurd d (Nat.not_lt_zero _)) (.cons (.arr rfl fun i d=>absurd d (Nat.not_lt_zero _)) (.cons (.arr rfl fun i d=>absurd d (Nat.not_lt_zero _)) .nil))))))))))))
 exact⟨.inr rfl,_,xR ay d_ rfl rfl rfl (qF _) (by rw[IJ];exact oC),D⟩
end Pv
end Go.Proofs.YtndpjopifkbgiaaGreatDoor
