/-
  Several texts in one file.
-/
import Derived.Test.YtndpjopifkbgiaaGreatDoorOnC
import Derived.Test.YtndpjopifkbgiaaGreatDoorOnB
import Derived.Scope
import Derived.WalkMore
import Derived.Great.BuildSlice
import Derived.Test.YtndpjopifkbgiaaGreatDoorOnA
import Derived.Deep.RegionLaw
import Derived.Deep.Cut
import Derived.Shelf.Strings.Repeat
import Derived.Shelf.Strings.Prefix
import Derived.Test.YtndpjopifkbgiaaGreatDoorProg
set_option maxRecDepth 100000
set_option maxHeartbeats 4000000
open Go.Proofs.Tryz
open _root_.List renaming length_take->xe,getElem?_append_left->YW,getElem?_take->x8,getElem?_append_right->Ye,length_append->gp,length_cons->zl,getElem?_eq_none->YQ,mem_of_getElem?->ZO,mem_cons_self->MM,getElem?_drop->YN,ext_getElem?->YZ,length_drop->YO,mem_cons_of_mem->VM,mem_cons->zg,getD_cons_succ->aFD,append_assoc->Pi,getElem?_cons_succ->Ya,not_mem_nil->YP,getElem_mem->ZN,ext_getElem->Z9,take_of_length_le->YY,drop_of_length_le->aAE,take_append_drop->ZZ,length_set->Yb,drop_zero->Yh,take_succ_cons->aGN,getD_cons_zero->aGO,prefix_append->ZG,getElem_range->ZI,take_append_of_le_length->aAW,getElem_map->ZU,getElem?_zip_eq_some->aGX,map_cons->DD,getElem?_cons_zero->Yv,getElem?_set_self->aBE,singleton_append->aAT,length_singleton->ZV,length_replicate->Z_,getElem?_set_ne->aBF,getElem?_range->Zb,range->AC,getElem?_map->XN,prefix_refl->aAf,cons_append->yz,nil_append->Ha,foldl_cons->aAK,replicate->PR,drop_left->aFQ
open _root_.Nat renaming le_refl->dC,beq->bu,mod_eq_of_lt->Yq,lt_of_lt_of_le->YX,lt_or_eq_of_le->aAX,zero_add->ik,min_eq_left->aAs,eq_zero_or_pos->ZP,pow_succ->aBG,div_lt_iff_lt_mul->aGM,ble_eq_true_of_le->aCn,le_of_lt_succ->aGP,and_two_pow_sub_one_eq_mod->aGD,sub_self->Yf,le_of_ble_eq_true->Yp,zero_mul->aAH,mul_zero->aEP,lt_or_ge->Yk,le_trans->PP,le_of_lt->aFF,add_zero->ZA,blt->Hm,ble->ZC
open _root_.Array renaming length_toList->uA,replicate->IR,getElem?_append_left->aCc
open _root_.Int renaming toNat_natCast->WF,tmod_eq_emod_of_nonneg->aCo,le_refl->aCp
open _root_.Go renaming Program->dE,TypeId->bi,Value->ag,callFunc->YR,World->ae
open _root_.Bool renaming and_eq_true->ww
open _root_.Eq renaming trans->Yo,refl->Z4
open _root_.Go.IntKind renaming wrap_i64->TC
namespace Go.Proofs.YtndpjopifkbgiaaGreatDoor
open Go.RowKit
namespace Pv
structure Ob where
 x:Nat
 t:bi
 l:dw
 l':dw
def PL(os:List Ob)(x:Nat):Bool:=os.any fun o=>bu o.x x
theorem nU{os:List Ob}{x:Nat}(h:PL os x=true):∃ o∈os,o.x=x:=by obtain⟨o,b,a⟩:=List.any_eq_true.1 h;exact⟨o,b,ig a⟩
theorem aAd{os:List Ob}{o:Ob}(h:o∈os):PL os o.x=true:=List.any_eq_true.2 ⟨o,h,Nat.beq_refl _⟩
def uq(os:List Ob)(bl:Nat->Nat)(dev:Option (jc×jc))(hd:ag):Nat->Option ag:=fun x=>match PL os x,dev,bu x dx with
 |true,_,_=>some (iY (bl x))|false,some _,true=>some hd|false,_,_=>none
def z_(os:List Ob)(bl:Nat->Nat)(dev:Option (jc×jc))(hd:ag):Env:=fun x=>(uq os bl dev hd x).map fun h=>(0,h)
def SX(os:List Ob)(bl:Nat->Nat)(D:Dv):Nat->Prop:=fun b=>D.S b\/∃ o∈os,b=bl o.x
def zh(P:dE)(I:je)(f:Nat)(new:Bool)(os:List Ob)(O:qy)(dev:Option (jc×jc))(dn:jc->Prop)(args:jl)(k:PV):Prop:=
 ∀ (w:ae) (d:qo) (m:ji) (g:Nat->Nat) (D:Dv) (j:qo),
  (∀ c,gu (SX os g D) w c->I c)->(∀ b,SX os g D b->b<w.heap.size/\¬d b)->oz P D dn->(∀ l X Y w c a,D.pan l X w a->gu X w c->(∀ b,Y b->X b)->D.pan l Y c a)->D.O=O ->
  (∀ p,dev=some p->D.inv p.1 j w)->(dev=none->(∀ b,¬D.S b)/\∀ l X w,¬D.inv l X w) ->
  (∀ o∈os,j (g o.x)/\∃ i,f_ w (g o.x) o.t i/\RL { w,ok:=d,env:=fun _=>none } o.l i.toList)->(∀ o∈os,∀ n∈os,g o.x=g n.x->o.x=n.x) ->
  o5 { w,ok:=d,env:=z_ os g dev D.hd } args m ->
  Calls P f m.toArray w fun e c=>gu (SX os g D) w c /\
   ((∃ h,e=.returned h/\RV { w:=c,ok:=pI w d new,env:=fun _=>none } k h/\(∀ o∈os,∃ i,f_ c (g o.x) o.t i/\RL { w:=c,ok:=pI w d new,env:=fun _=>none } o.l' i.toList)/\(∀ p,dev=some p->D.inv p.2 j c))
   \/ (∃ a l,e=.panicked a/\dn l/\O l=none/\D.pan l j c a))
def aUE(new:Bool)(os:List Ob)(O:qy)(dev:Option (jc×jc))(dn:jc->Prop)(s:St):Prop:=(∀ o∈os,∃ l,find s.o o.x=some (none,0,.box o.t l)/\Gy s new l o.l')/\(∀ p,dev=some p->find s.o dx=some (none,0,.dev O dn p.2))
def RQX(P:dE)(A:lh)(fn:Func)(new:Bool)(os:List Ob)(O:qy)(dev:Option (jc×jc))(dn:jc->Prop)(b:PV):Exit->Act->ae->Prop
 |.panic chain,a,w=>a.defers=[]/\DW A chain w|e,a,w=>(e=.normal\/e=.ret)/\∃ s,(Tj P fn new b s/\aUE new os O dev dn s)/\oq A s a w
def Us(os:List Ob)(O:qy)(dev:Option (jc×jc))(dn:jc->Prop):Wr:=match dev with
 |some p=>(dx,none,0,.dev O dn p.1)::os.map (fun o=>(o.x,none,0,.box o.t o.l))|none=>os.map (fun o=>(o.x,none,0,.box o.t o.l))
theorem aWu{os:List Ob}{x:Nat}{p:mi×Nat×lu}:find (os.map (fun o=>(o.x,none,0,lu.box o.t o.l))) x=some p->∃ o∈os,o.x=x/\p=(none,0,.box o.t o.l):=by intro h;obtain⟨o,b,a⟩:=List.mem_map.1 (qH h);cases a;exact⟨o,b,rfl,rfl⟩
theorem aAo{os:List Ob}{x:Nat}(h:find (os.map (fun o=>(o.x,(none:mi),0,lu.box o.t o.l))) x=none):PL os x=false:=by
 induction os with
 |nil=>rfl| cons o os c=>
  by_cases a:o.x=x;rw[DD,<-a,aF] at h;cases h;rw[DD,aC _ _ a] at h
  have b:bu o.x x=false:=by
   cases b:bu o.x x with
   |false=>rfl|true=>exact absurd (ig b) a
  have:=c h;unfold PL at this ⊢;rw[List.any_cons,b,Bool.false_or];exact this
theorem kV{g b:Nat}(h:hblk (iY g)=some b):b=g:=by cases h;rfl
theorem aAl{P:dE}{I:je}{fn:Func}{os:List Ob}{O:qy}{dev:Option (jc×jc)}{dn:jc->Prop}{args:jl}(a5:ZC args.length fn.ntmps=true)
  (a3:(os.all fun o=>Hm dx o.x)=true) {w:ae} {ok0:qo} {vs:ji} {bl:Nat->Nat} {D:Dv} {X0:qo}
  (hM:∀ F,gu (SX os bl D) w F->I F) (s:∀ b,SX os bl D b->b<w.heap.size/\¬ok0 b) (a1:oz P D dn) (a2:∀ l X Y w F E,D.pan l X w E->gu X w F->(∀ b,Y b->X b)->D.pan l Y F E) (hO:D.O=O)
  (a7:∀ p,dev=some p->D.inv p.1 X0 w) (a4:dev=none->(∀ b,¬D.S b)/\∀ l X w,¬D.inv l X w)
  (U:∀ o∈os,X0 (bl o.x)/\∃ cs,f_ w (bl o.x) o.t cs/\RL { w,ok:=ok0,env:=fun _=>none } o.l cs.toList) (W:∀ o∈os,∀ o'∈os,bl o.x=bl o'.x->o.x=o'.x)
  (hv:o5 { w,ok:=ok0,env:=z_ os bl dev D.hd } args vs):jo P I ⟨w,SX os bl D,ok0,fn.ntmps,uq os bl dev D.hd,D,dn,X0,[]⟩/\oq ⟨w,SX os bl D,ok0,fn.ntmps,uq os bl dev D.hd,D,dn,X0,[]⟩ ⟨slots 0 args,Us os O dev dn⟩ { tmps:=vs.toArray++IR (fn.ntmps-vs.toArray.size) undef,defers:=[] } w:=by
 have a9:=hv.length;have hn:=Yp a5
 have B:∀ o∈os,dx<o.x:=fun o K=>by
  have:=List.all_eq_true.1 a3 o K;have i:dx+1<=o.x:=by simpa[Hm] using this
  exact i
 have C:PL os dx=false:=by
  cases h:PL os dx with
  |false=>rfl|true=>obtain⟨o,e,m⟩:=nU h;have:=B o e;omega
 subst hO;let A:lh:=⟨w,SX os bl D,ok0,fn.ntmps,uq os bl dev D.hd,D,dn,X0,[]⟩;have f:∀ x d,uq os bl dev D.hd x=some d->(PL os x=true/\d=iY (bl x))\/(x=dx/\d=D.hd/\dev.isSome=true):=by intro x d h;unfold uq at h;split at h;rename_i e;cases h;exact .inl ⟨e,rfl⟩;rename_i e m i;cases h;exact .inr ⟨ig i,rfl,rfl⟩;cases h
 have hA:jo P I A:=⟨hM,fun b h=>.inl h,s,a1,fun l X F hi=>by
  cases d:dev with
  |none=>exact ((a4 d).2 l X F hi).elim|some p=>show uq os bl dev D.hd dx=_;unfold uq;rw[C,d];rfl,a2⟩
 have Q:∀ b,ownB A (z_ os bl dev D.hd) b->X0 b:=by
  rintro b (h|⟨x,j,d,e,m⟩);exact h;unfold z_ at e;cases a:uq os bl dev D.hd x with
  |none=>rw[a] at e;cases e|some h=>rw[a] at e;cases e;rcases f x _ a with⟨i,rfl⟩|⟨_,rfl,_⟩;obtain⟨o,r,rfl⟩:=nU i;rw[kV m];exact (U o r).1;rw[D.yc] at m;cases m
 have z:∀ x p,find (Us os D.O dev dn) x=some p->(∃ o∈os,o.x=x/\p=(none,0,.box o.t o.l))\/(x=dx/\∃ q,dev=some q/\p=(none,0,.dev D.O dn q.1)):=by
  intro x p h;unfold Us at h;cases d:dev with
  |none=>rw[d] at h;exact .inl (aWu h)|some q=>rw[d] at h;by_cases a:dx=x;subst a;rw[aF] at h;cases h;exact .inr ⟨rfl,q,rfl,rfl⟩;rw[aC _ _ a] at h;exact .inl (aWu h)
 have Z:∀ o∈os,z_ os bl dev D.hd o.x=some (0,iY (bl o.x)):=fun o K=>by unfold z_ uq;rw[aAd K];rfl
 have V:∀ {pv:PV} {v:ag},RV { w,ok:=ok0,env:=z_ os bl dev D.hd } pv v->RV (aI A w (z_ os bl dev D.hd)) pv v:=fun h=>h.le ⟨dC _,fun b a6 K=>⟨⟨.inl K,fun x j d a n=>by
   unfold z_ at a;cases c:uq os bl dev D.hd x with
   |none=>rw[c] at a;cases a|some h=>
    rw[c] at a;cases a;rcases f x _ c with⟨i,rfl⟩|⟨_,rfl,_⟩;obtain⟨o,r,rfl⟩:=nU i;have:=kV n;subst this;exact (s _ (.inr ⟨o,r,rfl⟩)).2 K
    rw[D.yc] at n;cases n⟩,rfl⟩,fun x j d h=>⟨j,d,h,dC _,fun _=>rfl⟩⟩
 have hg:oq A ⟨slots 0 args,Us os D.O dev dn⟩ { tmps:=vs.toArray++IR (fn.ntmps-vs.toArray.size) undef,defers:=[] } w:=by
  refine⟨z_ os bl dev D.hd,{ iq:=gu.refl _ _,size:=?_,dom:=fun x a=>?_,jv:=fun x g j o h=>?_,live:=fun x j d b h n=>?_,inj:=fun x y v1 e v2 m b a N J H=>?_,tmps:=fun t g pv h B=>?_,defers:=rfl,und:=fun t pv h=>(by obtain⟨k,_,m⟩:=pU h;cases m),n_:=fun x d a=>?_,dev:=fun g j O a8 l h _=>?_ }⟩;simp[A];omega;unfold z_ uq
  have e:PL os x=false:=by
   unfold Us at a;cases d:dev with
   |none=>rw[d] at a;exact aAo a|some q=>rw[d] at a;by_cases a0:dx=x;subst a0;exact C;rw[aC _ _ a0] at a;exact aAo a
  rw[e];cases d:dev with
  |none=>rfl| some q=>
   have:bu x dx=false:=by
    cases n:bu x dx with
    |false=>rfl|true=>obtain rfl:=ig n;unfold Us at a;rw[d,aF] at a;cases a
   rw[this];rfl
  rcases z x _ h with⟨L,e,rfl,m⟩|⟨rfl,q,e,m⟩;cases m;obtain⟨_,cs,i,r⟩:=U L e
  refine⟨iY (bl L.x),Z L e,fun _=>⟨_,cs,rfl,i,?_⟩⟩;refine r.le ⟨dC _,fun b a6 T=>⟨⟨.inl T,fun x j d a n=>?_⟩,rfl⟩,fun _ _ _ h=>by cases h⟩;have u:z_ os bl dev D.hd x=some (j,d):=a;unfold z_ at u;cases c:uq os bl dev D.hd x with
  |none=>rw[c] at u;cases u|some h=>rw[c] at u;cases u;rcases f x _ c with⟨h5,rfl⟩|⟨_,rfl,_⟩;obtain⟨o,h6,rfl⟩:=nU h5;have:=kV n;subst this;exact (s _ (.inr ⟨o,h6,rfl⟩)).2 T;rw[D.yc] at n;cases n
  cases m;refine⟨D.hd,?_,fun _=>trivial⟩;unfold z_ uq;rw[C,e];rfl;unfold z_ at h;cases c:uq os bl dev D.hd x with
  |none=>rw[c] at h;cases h|some h'=>
   rw[c] at h;cases h;rcases f x _ c with⟨i,rfl⟩|⟨_,rfl,_⟩;obtain⟨o,r,rfl⟩:=nU i;have:=kV n;subst this
   exact⟨(s _ (.inr ⟨o,r,rfl⟩)).1,.inr ⟨.inr ⟨o,r,rfl⟩,aCn (aFF (B o r))⟩⟩;rw[D.yc] at n;cases n
  unfold z_ at a N;cases c:uq os bl dev D.hd x with
  |none=>rw[c] at a;cases a| some b1=>
   cases G:uq os bl dev D.hd y with
   |none=>rw[G] at N;cases N|some b0=>rw[c] at a;rw[G] at N;cases a;cases N;rcases f x _ c with⟨i,rfl⟩|⟨_,rfl,_⟩;rcases f y _ G with⟨r,rfl⟩|⟨_,rfl,_⟩;obtain⟨o,h5,rfl⟩:=nU i;obtain⟨o',h6,rfl⟩:=nU r;refine W o h5 o' h6 ?_;rw[<-kV J,<-kV H];rw[D.yc] at H;cases H;rw[D.yc] at J;cases J
  obtain⟨k,e,m⟩:=rD h;obtain⟨v,i,r⟩:=hv.at m;rw[ik] at e;subst e;have hk:t<vs.length:=(List.getElem?_eq_some_iff.1 i).1;refine⟨v,?_,V r⟩;rw[aCc (by simpa using hk)];simpa using i;refine⟨?_,0,d,?_,dC _,fun _=>rfl⟩;rcases f x d a with⟨i,_⟩|⟨rfl,_,_⟩;obtain⟨o,r,rfl⟩:=nU i;exact aCn (aFF (B o r));exact aCn (dC _);show z_ os bl dev D.hd x=some (0,d);unfold z_;have:uq os bl dev D.hd x=some d:=a;rw[this];rfl;rcases z dx _ h with⟨L,e,m,_⟩|⟨_,q,e,m⟩;have:=B L e;omega;cases m
  exact⟨rfl,rfl,D.grow _ _ _ _ _ (a7 q e) (gu.refl _ _) (fun b n=>.inl (Q b n))⟩
 exact⟨hA,hg⟩
theorem kR{P:dE}{I:je}{f:Nat}{fn:Func}{c:Code}{new:Bool}{os:List Ob}{O:qy}{dev:Option (jc×jc)}{dn:jc->Prop}{args:jl}{B:PV}(hf:P.funcs[f]?=some fn)(hb:fn.body=some c)(a3:ZC args.length fn.ntmps=true)
  (a1:(os.all fun o=>Hm dx o.x)=true)
  (hT:∀ A:lh,A.nt=fn.ntmps->jo P I A->jw P A ⟨slots 0 args,Us os O dev dn⟩ c (RQX P A fn new os O dev dn B)):zh P I f new os O dev dn args B:=by
 intro w C vs z D X0 hM H Z a0 hO a4 J a2 K hv;let A:lh:=⟨w,SX os z D,C,fn.ntmps,uq os z dev D.hd,D,dn,X0,[]⟩;obtain⟨hA,hg⟩:jo P I A/\oq A ⟨slots 0 args,Us os O dev dn⟩ { tmps:=vs.toArray++IR (fn.ntmps-vs.toArray.size) undef,defers:=[] } w:=aAl a3 a1 hM H Z a0 hO a4 J a2 K hv;subst hO;refine calls_of_wp hf hb (wp_mono (hT A rfl hA _ w hg (fun _ _ _ u h=>⟨u,h⟩)) (fun e a' m Q=>?_));cases e with
 |panic a=>obtain⟨u,l,k,h2,h3,h4⟩:=Q;exact⟨u,h4,.inr ⟨a,l,rfl,k,h2,h3⟩⟩
 |exit id=>obtain⟨k|k,_⟩:=Q<;>cases k
 |goto _=>obtain⟨k|k,_⟩:=Q<;>cases k
 |outgrown=>obtain⟨k|k,_⟩:=Q<;>cases k
 | normal|ret=>
  obtain⟨_,s,⟨⟨v,h2,h3⟩,E,U⟩,W,j⟩:=Q;obtain⟨v',d,h5,h6,h7,_⟩:=rY j h2;subst h7
  have y:∀ o∈os,W o.x=some (0,iY (z o.x)):=fun o r=>by
   obtain⟨l,i,_⟩:=E o r;obtain⟨u,V,_⟩:=j.jv o.x none 0 _ i;have h9:uq os z dev D.hd o.x=some (iY (z o.x)):=by unfold uq;rw[aAd r]
   have:=(j.n_ o.x _ h9).2.now V;rw[V,this]
  have hS:DC A s W:=by
   intro x g F e n len f0 u b L N T X;rcases X with X|⟨o,r,rfl⟩
   cases S:dev with
   |none=>exact (J S).1 b X|some q=>obtain⟨_,_,hi⟩:=j.dev none 0 _ _ _ (U q S) trivial;exact D.notS _ _ _ _ hi (.inr ⟨x,F,u,N,T⟩) X
   obtain⟨l,i,_⟩:=E o r;have:=j.inj x o.x F u 0 _ (z o.x) N (y o r) T rfl;subst this;rw[i] at L;cases L
  have G:=aPy j hS h3 h6
  have this:a'.defers=[]/\∃ v,(results fn a'.tmps).run P m=.ok v m/\(gu (SX os z D) w m /\
   ((∃ d,Ending.returned v=.returned d/\RV { w:=m,ok:=pI w C new,env:=fun _=>none } B d/\(∀ o∈os,∃ Y,f_ m (z o.x) o.t Y/\RL { w:=m,ok:=pI w C new,env:=fun _=>none } o.l' Y.toList)/\(∀ p,dev=some p->D.inv p.2 X0 m))
   \/ (∃ a l,Ending.returned v=.panicked a/\dn l/\D.O l=none/\D.pan l X0 m a))):=by
   refine⟨j.defers,d,h5,j.iq,.inl ⟨d,rfl,G,fun o r=>?_,fun p hp=>?_⟩⟩;obtain⟨l,i,hx⟩:=E o r;obtain⟨u,V,h9⟩:=j.jv o.x none 0 _ i;obtain⟨g,Y,e1,a6,a5⟩:=h9 trivial;rw[y o r] at V;cases V;cases e1;exact⟨Y,a6,aPz j hS hx a5⟩;obtain⟨_,_,hi⟩:=j.dev none 0 _ _ _ (U p hp) trivial;exact D.grow _ _ _ _ _ hi (gu.refl _ _) (fun b hb=>.inl (.inl hb))
  exact this
theorem IA{P:dE}{A:lh}{s:St}{Q:Exit->Act->je}{fn:Func}{new:Bool}{os:List Ob}{O:qy}{dev:Option (jc×jc)}{dn:jc->Prop}{b:PV}{out:Out}(i:out.val=b)(j:Q .ret=RQX P A fn new os O dev dn b .ret:=by rfl)(h:(yx P fn.results).exec none s [] [] [] []=some out:=by rfl)(hc:All out.conds:=by simp)(e:out.wr=[]:=by rfl)(d:rZ (aY new) out.val=true:=by rfl)
  (c:∀ o∈os,∃ l,find s.o o.x=some (none,0,.box o.t l)/\Gy s new l o.l':=by intro o c;obtain rfl:=List.mem_singleton.1 c;exact⟨_,rfl,dN rfl⟩) (hd:∀ p,dev=some p->find s.o dx=some (none,0,.dev O dn p.2):=by intro p f;cases f):jw P A s .ret Q:=bI (fun a w g=>by rw[j];exact⟨.inr rfl,_,⟨aO h hc e d i,c,hd⟩,g⟩)
theorem I_{P:dE}{A:lh}{s:St}{Q:Exit->Act->je}{fn:Func}{new:Bool}{os:List Ob}{O:qy}{dev:Option (jc×jc)}{dn:jc->Prop}{a:PV}{out:Out}(g:Q .ret=RQX P A fn new os O dev dn a .ret:=by rfl)(h:(yx P fn.results).exec none s [] [] [] []=some out:=by rfl)(hc:All out.conds:=by simp)(d:out.wr=[]:=by rfl)(c:rZ (aY new) out.val=true:=by rfl)
  (b:∀ o∈os,∃ l,find s.o o.x=some (none,0,.box o.t l)/\Gy s new l o.l':=by intro o b;obtain rfl:=List.mem_singleton.1 b;exact⟨_,rfl,dN rfl⟩) (hd:∀ p,dev=some p->find s.o dx=some (none,0,.dev O dn p.2):=by intro p e;cases e) (f:out.val=a:=by rfl):jw P A s .ret Q:=IA f g h hc d c b hd
theorem IC{P:dE}{I:je}{G:Specs}{A:lh}{s s':St}{Q:Exit->Act->je}{i b:Nat}{ops:Array Oper}{a:Bool}{outs:List (Option Nat×Out)}{fn:Func}{new:Bool}{os:List Ob}{O:qy}{dev:Option (jc×jc)}{dn:jc->Prop}{c:PV}{out:Out}(n:out.val=c)(M:jq P I G:=by assumption)(hI:jo P I A:=by assumption)(e:A.nt=i:=by assumption)(h:gZ (pJ P G b ops.toList) 0 ops.toList s=some (outs,s'):=by rfl)(f:(dO a ops.toList outs&&qR i ops.toList)=true:=by kernel_rfl)(hc:All ((outs.map fun q=>q.2.conds).flatten):=by simp)(r:Q .ret=RQX P A fn new os O dev dn c .ret:=by rfl)(hr:(yx P fn.results).exec none s' [] [] [] []=some out:=by rfl)(g:All out.conds:=by simp)(k:out.wr=[]:=by rfl)(j:rZ (aY new) out.val=true:=by rfl)
  (d:∀ o∈os,∃ l,find s'.o o.x=some (none,0,.box o.t l)/\Gy s' new l o.l':=by intro o d;obtain rfl:=List.mem_singleton.1 d;exact⟨_,rfl,dN rfl⟩) (hd:∀ p,dev=some p->find s'.o dx=some (none,0,.dev O dn p.2):=by intro p m;cases m):jw P A s (.seq (.region b ops a) .ret) Q:=aN (IA n r hr g k j d hd) M hI e h f hc
def px:Nat:=900001
def Xr(l:dw):Option dw:=match l.all (fun c=>bu c.width 1) with
 |true=>some (l.map fun _=>.any)|false=>none
def GX:PC->Option PC
 |.lit v=>some (.lit v)|.bs n l=>some (.bs n l)|.sl n len f=>some (.sl n len f)|.fn f first cap=>match Xr first,Xr cap with
  |some a,some b=>some (.fn f a b)|_,_=>none
 |.pt _ _ _=>some .any|.any=>some .any|_=>none
def Et:dw->Option dw
 |[]=>some []|c::l=>match GX c,Et l with
  |some c,some l=>some (c::l)|_,_=>none
def Es:PV->Option PV
 |.w (.one c)=>match GX c with
  |some c=>some (.w (.one c))|none=>none
 |.w (.agg l)=>match Et l with
  |some l=>some (.w (.agg l))|none=>none
 |_=>none
def GY:jl->Option jl
 |[]=>some []|v::l=>match Es v,GY l with
  |some v,some l=>some (v::l)|_,_=>none
theorem aUv{C C':Ctx}:∀ {l:dw} {b:ji},RL C l b->(l.all fun c=>bu c.width 1)=true->RL C' (l.map fun _=>.any) b
 |[],_,h,_=>by cases h;exact .nil| c::l,_,h,hc=>by
  rw[List.all_cons,ww] at hc;cases h with
  |@cons _ _ _ b g d f=>
   have e:=d.width;rw[ig hc.1] at e
   match b,e,d with
   |[v],_,d=>exact .cons (xs:=[v]) (.any (d.ones v b_)) (aUv f hc.2)
theorem bJg{C C':Ctx}(e:C.cold.Le C'){c i:PC}{xs:ji}(h:GX c=some i)(hr:R C c xs):R C' i xs:=by
 unfold GX at h;split at h;cases h;cases hr;exact .lit o_;cases h;cases hr;exact .bs o_;cases h;exact (aGp hr rfl).le e
 ·rename_i f first cap;unfold Xr at h
  cases d:first.all fun c=>bu c.width 1<;>cases g:cap.all fun c=>bu c.width 1<;>simp only[d,g] at h<;>try (cases h;done)
  cases h;cases hr with
  |fn k j=>exact .fn (aUv k d) (aUv j g)
 cases h;cases hr with
 |pt d _=>obtain⟨b,o,rfl⟩:=d;exact .any rfl
 cases h;cases hr;exact .any o_;cases h
theorem bJf{C C':Ctx}(b:C.cold.Le C'):∀ {l f:dw} {e:ji},Et l=some f->RL C l e->RL C' f e
 |[],_,_,h,d=>by simp only[Et,Option.some.injEq] at h;subst h;cases d;exact .nil|c::l,_,_,h,d=>by
  unfold Et at h
  cases i:GX c<;>cases g:Et l<;>simp only[i,g] at h<;>try (cases h;done)
  cases h;cases d with
  |cons k j=>exact .cons (bJg b i k) (bJf b g j)
theorem bJe{C C':Ctx}(b:C.cold.Le C'){v e:PV}{x:ag}(h:Es v=some e)(hr:RV C v x):RV C' e x:=by
 unfold Es at h;split at h
 ·rename_i c
  cases d:GX c<;>simp only[d] at h<;>try (cases h;done)
  cases h;exact .w (.one (bJg b d hr.inv))
 ·rename_i l
  cases d:Et l<;>simp only[d] at h<;>try (cases h;done)
  cases h;cases hr with
  |w hr=>cases hr with
   |agg hr=>exact .w (.agg (bJf b d hr))
 cases h
theorem aAt{C C':Ctx}(c:C.cold.Le C'):∀ {d b:jl} {l:ji},GY d=some b->o5 C d l->o5 C' b l
 |[],_,[],h,_=>by simp only[GY,Option.some.injEq] at h;subst h;exact trivial|[],_,_::_,_,h=>h.elim|_::_,_,[],_,h=>h.elim|v::d,_,x::l,h,⟨h1,h2⟩=>by
  unfold GY at h
  cases f:Es v<;>cases e:GY d<;>simp only[f,e] at h<;>try (cases h;done)
  cases h;exact⟨bJe c f h1,aAt c e h2⟩
section
variable {P:dE} {I:je} {A:lh} {s:St} {a:Act} {w:ae} {env:Env} {F:mi->PV->Wr->Prop}
theorem aGm{e:Env}:(aI A w env).cold.Le { w,ok:=(aI A w env).ok,env:=e }:=⟨dC _,fun b _ c=>⟨c,rfl⟩,fun _ _ _ h=>by cases h⟩
theorem xY(h:gy A s a w env){w':ae}(_:w.heap.size<=w'.heap.size){new:Bool}:({ w:=w',ok:=pI w (aI A w env).ok new,env:=fun _=>none }:Ctx).Le (aI A w' env):=
 ⟨
  dC _,fun b _ c=>⟨(by
  rcases c with⟨_,c⟩|c;exact c
  exact⟨.inr (PP h.iq.size c),fun x d i g e=>by have:=(h.live x d i b g e).1;omega⟩),rfl⟩,fun _ _ _ h=>by cases h⟩
def xI (t:bi) (g:dw->jl->Option (Prop×dw×PV)):Spec:=fun _ f=>match f with
 | .w (.one (.pt x b c))::rest=>(match bu c 0,GY rest with
  | true,some e=>.obj x fun j d i=>jE j (match bu b d,i with
   |true,.box h l=>(match bu t h,l.all (aY false),g l e with
    |true,true,some (p,l',r)=>.need p (.upd x d (.box t l') (.ret r))|_,_,_=>.fail)
   |_,_=>.fail)
  |_,_=>.fail)
 |_=>.fail
theorem zX{f:Nat}{t:bi}{g:dw->jl->Option (Prop×dw×PV)}(Q:∀ args w,(YR f args).run P w=.ok (.enter f args) w)
  (hg:∀ l J p z r,g l J=some (p,z,r)->p->zh P I f false [⟨px,t,l,z⟩] (fun _=>none) none (fun _=>False) (.w (.one (.pt px 0 0))::J) r):d_ P I f (xI t g):=by
 refine⟨Q,fun A s a w env nm b2 X F h hI hv n=>?_⟩;unfold xI at n;split at n
 ·rename_i x d Z K
  cases k:bu Z 0<;>cases hr:GY K<;>simp only[k,hr] at n<;>try exact n.elim
  rename_i J;obtain rfl:=ig k;obtain⟨gd,vr,ob,a5,n⟩:=n;have a3:=dD n;clear n;obtain⟨a4,n⟩:=a3;obtain⟨hd,D,a1⟩:=jQ h a5 a4
  cases U:bu d vr<;>cases ob<;>simp only[U] at n<;>try exact n.elim
  rename_i t' l;obtain rfl:=ig U
  cases T:bu t t'<;>cases hc:l.all (aY false)<;>cases hq:g l J<;>simp only[T,hc,hq] at n<;>try exact n.elim
  rename_i q;obtain⟨p,z,r⟩:=q;obtain rfl:=ig T;obtain⟨hp,_,hF⟩:=n
  match X,hv with
  | v::X,⟨hv1,hv2⟩=>
   obtain⟨m,rfl,rfl⟩:=hv1.BJ D;obtain⟨g1,cs,e1,hB,hR⟩:=a1;cases e1;have O:m<w.heap.size:=hB.lt;have E:∀ b,SX [⟨px,t,l,z⟩] (fun _=>m) Dv.non b->b=m:=by rintro b (h|⟨o,V,rfl⟩);exact h.elim;rfl
   have a7:∀ b,SX [⟨px,t,l,z⟩] (fun _=>m) Dv.non b->b<A.w0.heap.size->A.S b:=fun b k C=>by rw[E b k] at C ⊢;rcases (h.live x d _ m D rfl).2 with H|H;omega;exact H.1
   have b4:SX [⟨px,t,l,z⟩] (fun _=>m) Dv.non m:=.inr ⟨_,MM,rfl⟩;have N:¬(aI A w env).ok m:=fun a0=>a0.2 x d _ D rfl
   refine (hg l J p z r hq hp w (aI A w env).ok (iY m::X) (fun _=>m) Dv.non (fun b=>b=m)
    (fun W G=>hI.mem W (h.iq.trans' G (fun _ _ h=>h) (fun b C k=>a7 b k C)))
    (fun b k=>by rw[E b k];exact⟨O,N⟩) (oz.non P) (fun _ _ _ _ _ _ h=>h.elim) rfl (fun p hp=>by cases hp) (fun _=>⟨fun _ h=>h,fun _ _ _ h=>h⟩)
    (
     fun o V=>by
     obtain rfl:o=⟨px,t,l,z⟩:=by simpa using V
     exact⟨rfl,cs,hB,jK hR hc⟩)
    (
     fun o V o' a2 _=>by
     obtain rfl:o=⟨px,t,l,z⟩:=by simpa using V
     obtain rfl:o'=⟨px,t,l,z⟩:=by simpa using a2
     rfl)
    ⟨.w (.one (.pt ⟨m,0,rfl⟩ ⟨0,iY m,rfl,dC _,fun _=>⟨m,rfl,rfl⟩⟩)),aAt aGm hr hv2⟩).mono ?_
   rintro e W ⟨G,⟨Y,rfl,L,a6,_⟩|⟨b1,l2,rfl,H,_⟩⟩;obtain⟨b0,a9,a8⟩:=a6 _ MM
   obtain⟨H,h2⟩:=h.upd (w':=W) x none d (iY m) (.box t z) (G.mono fun b _ k=>⟨d,_,D,by rw[E b k];rfl⟩) (fun v hd e=>by rw[D] at e;cases e;exact .inr ⟨rfl,rfl⟩)
    (fun b k=>by cases k;exact⟨YX O G.size,.inr ⟨d,_,D,rfl⟩⟩)
    (
     fun b3 _=>⟨m,b0,rfl,a9,(a8.le (xY h G.size)).le ⟨dC _,fun b _ k=>⟨⟨k.1,fun y u i B=>by
     by_cases j:y=x;subst j;have c:zt env y d (iY m) y=some (u,i):=B;rw[fO] at c;cases c;exact k.2 y d _ D;have c:zt env x d (iY m) y=some (u,i):=B;rw[kK j] at c
     exact k.2 y u i c⟩,rfl⟩,fun y u i B=>by
     by_cases j:y=x;subst j;have c:env y=some (u,i):=B;rw[D] at c;cases c;exact⟨d,_,fO _ _ _ _,dC _,fun _=>rfl⟩
     exact⟨u,i,(kK j).trans B,dC _,fun _=>rfl⟩⟩⟩)
   exact .inl ⟨r,_,Y,_,rfl,hF,H,(L.le (xY h G.size)).le ⟨dC _,fun b _ k=>⟨⟨k.1,fun y u i B=>by
     by_cases j:y=x;subst j;have c:zt env y d (iY m) y=some (u,i):=B;rw[fO] at c;cases c;exact k.2 y d _ D;have c:zt env x d (iY m) y=some (u,i):=B;rw[kK j] at c
     exact k.2 y u i c⟩,rfl⟩,fun y u i B=>by
     by_cases j:y=x;subst j;have c:env y=some (u,i):=B;rw[D] at c;cases c;exact⟨d,_,fO _ _ _ _,dC _,fun _=>rfl⟩
     exact⟨u,i,(kK j).trans B,dC _,fun _=>rfl⟩⟩⟩
   exact H.elim
 exact n.elim
def aLy (hist:(jc->Option qj)->jc->jl->jc) (c:(jc->Option qj)->jc->jl->Option (Prop×PV)):Spec:=fun _ d=>match d with
 | .w (.one .dv)::rest=>(match GY rest with
  | some b=>.obj dx fun g e f=>jE g (match bu e 0,f with
   |true,.dev O dn l=>(match c O l b with
    |some (p,r)=>.need p (.need (∀ h,l <+: h->h <+: hist O l b->O h=none->dn h) (.upd dx 0 (.dev O dn (hist O l b)) (.ret r)))|none=>.fail)
   |_,_=>.fail)
  |none=>.fail)
 |_=>.fail
theorem aJi{f:Nat}{hist:(jc->Option qj)->jc->jl->jc}{n:(jc->Option qj)->jc->jl->Option (Prop×PV)}(K:∀ args w,(YR f args).run P w=.ok (.enter f args) w)
  (hg:∀ O l m p r,n O l m=some (p,r)->p->zh P I f false [] O (some (l,hist O l m)) (fun h=>l <+: h/\h <+: hist O l m) (.w (.one .dv)::m) r):d_ P I f (aLy hist n):=by
 refine⟨K,fun A s a w env nm a1 T F h d hv c=>?_⟩;unfold aLy at c;split at c
 ·rename_i y;cases V:GY y with
  |none=>rw[V] at c;exact c.elim| some m=>
   rw[V] at c;obtain⟨gd,vr,ob,t,c⟩:=c;have Z:=dD c;clear c;obtain⟨H,c⟩:=Z
   cases L:bu vr 0<;>cases ob<;>simp only[L] at c<;>try exact c.elim
   rename_i O dn l;obtain rfl:=ig L;cases W:n O l m with
   |none=>rw[W] at c;exact c.elim| some q=>
    obtain⟨p,r⟩:=q;rw[W] at c;obtain⟨X,D,_,hF⟩:=c;obtain⟨hO,C,j⟩:=h.dev gd 0 O dn l t H;subst hO C;have J:=d.dvh _ _ _ j;obtain⟨hd,he,_⟩:=h.jv dx gd 0 _ t;obtain rfl:=(h.n_ dx _ J).2.now he
    match T,hv with
    | v::T,⟨hv1,hv2⟩=>
     have B:v=A.dv.hd:=hv1.NR.now he;have i:∀ b,SX [] (fun _=>0) A.dv b->A.dv.S b:=by rintro b (h|⟨o,G,rfl⟩);exact h;cases G
     refine (hg A.dv.O l m p r W X w (aI A w env).ok (v::T) (fun _=>0) A.dv (ownB A env)
      (fun Q z=>d.mem Q (h.iq.trans' z (fun _ _ h=>h) (fun b _ g=>d.sub b (i b g))))
      (
       fun b g=>by
       have k:=d.old b (d.sub b (i b g));refine⟨YX k.1 h.iq.size,fun Y=>?_⟩;rcases Y.1 with u|u;exact k.2 u
       omega)
      (d.step.mono fun N k u=>D N k.1 k.2 u) d.Ci rfl (fun p X=>by cases X;exact j) (fun h=>by cases h) (fun o G=>by cases G) (fun o G=>by cases G)
      ⟨.w (.one (.dv (by rw[B];exact A.dv.one) ⟨0,A.dv.hd,rfl,dC _,fun _=>B⟩)),aAt aGm V hv2⟩).mono ?_
     rintro e Q ⟨z,⟨U,rfl,E,_,a0⟩|⟨x,N,rfl,k,u,h3⟩⟩;obtain⟨h4,h5⟩:=h.asked (w':=Q) t H d.sub (fun b g=>d.old b (d.sub b g)) (z.mono fun b _ g=>i b g) (a0 _ rfl);exact .inl ⟨r,_,U,env,rfl,hF,h4,E.le (xY h z.size)⟩;exact .inr ⟨x,rfl,N,D N k.1 k.2 u,u,d.Ci _ _ _ _ _ _ h3 (gu.refl _ _) (fun b g=>.inl g),h.iq.trans (z.mono fun b _ g=>d.sub b (i b g))⟩
 exact c.elim
def Ej(g:Nat)(hd:ag):Nat->Option ag:=fun x=>match bu x px,bu x dx with
 |true,_=>some (iY g)|false,true=>some hd|false,false=>none
def CY(g:Nat)(hd:ag):Env:=fun x=>(Ej g hd x).map fun h=>(0,h)
def EH(hd:ag):Env:=fun x=>match bu x dx with
 |true=>some (0,hd)|false=>none
theorem aJc{g:Nat}{hd:ag}{x:Nat}{h:ag}(e:Ej g hd x=some h):(x=px/\h=iY g)\/(x=dx/\h=hd):=by unfold Ej at e;split at e;rename_i b;cases e;exact .inl ⟨ig b,rfl⟩;rename_i b c;cases e;exact .inr ⟨ig c,rfl⟩;cases e
theorem rG{g:Nat}{hd:ag}{x jm:Nat}{h:ag}(e:CY g hd x=some (jm,h)):jm=0/\((x=px/\h=iY g)\/(x=dx/\h=hd)):=by
 unfold CY at e;cases b:Ej g hd x with
 |none=>rw[b] at e;cases e|some c=>rw[b] at e;cases e;exact⟨rfl,aJc b⟩
theorem aJf{hd:ag}{x jm:Nat}{h:ag}(e:EH hd x=some (jm,h)):x=dx/\jm=0/\h=hd:=by unfold EH at e;split at e;rename_i b;cases e;exact⟨ig b,rfl,rfl⟩;cases e
def SD(g:Nat)(D:Dv):Nat->Prop:=fun b=>D.S b\/b=g
def YH(P:dE)(I:je)(f:Nat)(t:bi)(l p:dw)(O:qy)(h0 h1:jc)(dn:jc->Prop)(args:jl)(n:PV):Prop:=
 ∀ (w:ae) (h:qo) (o:ji) (g:Nat) (D:Dv) (m:qo),
  (∀ d,gu (SD g D) w d->I d)->(∀ b,SD g D b->b<w.heap.size/\¬h b)->oz P D dn->(∀ l X Y w d c,D.pan l X w c->gu X w d->(∀ b,Y b->X b)->D.pan l Y d c)->D.O=O ->
  D.inv h0 m w->m g->(∃ j,f_ w g t j/\RL { w,ok:=h,env:=EH D.hd } (.dv::l) j.toList) ->
  o5 { w,ok:=h,env:=CY g D.hd } args o ->
  Calls P f o.toArray w fun e d=>gu (SD g D) w d /\
   ((∃ i,e=.returned i/\RV { w:=d,ok:=pI w h false,env:=fun _=>none } n i/\(∃ j,f_ d g t j/\RL { w:=d,ok:=pI w h false,env:=EH D.hd } (.dv::p) j.toList)/\D.inv h1 m d)
   \/ (∃ c k,e=.panicked c/\dn k/\O k=none/\D.pan k m d c))
def aUG(t:bi)(c:dw)(O:qy)(h1:jc)(dn:jc->Prop)(s:St):Prop:=(∃ b,find s.o px=some (none,0,.box t (.dv::b))/\Gy s false b c)/\find s.o dx=some (none,0,.dev O dn h1)
def RQD(P:dE)(A:lh)(fn:Func)(t:bi)(c:dw)(O:qy)(h1:jc)(dn:jc->Prop)(b:PV):Exit->Act->ae->Prop
 |.panic chain,a,w=>a.defers=[]/\DW A chain w|e,a,w=>(e=.normal\/e=.ret)/\∃ s,(Tj P fn false b s/\aUG t c O h1 dn s)/\oq A s a w
theorem lK{P:dE}{I:je}{f:Nat}{fn:Func}{c:Code}{t:bi}{l l':dw}{O:qy}{h0 h1:jc}{dn:jc->Prop}{args:jl}{N:PV}(hf:P.funcs[f]?=some fn)(hb:fn.body=some c)(b3:ZC args.length fn.ntmps=true)
  (hT:∀ A:lh,A.nt=fn.ntmps->jo P I A->jw P A ⟨slots 0 args,[(dx,none,0,.dev O dn h0),(px,none,0,.box t (.dv::l))]⟩ c (RQD P A fn t l' O h1 dn N)):YH P I f t l l' O h0 h1 dn args N:=by
 intro w u vs g D X0 hM C a7 a9 hO b4 b5 b0 hv;have b8:=hv.length;have hn:=Yp b3;subst hO;let A:lh:=⟨w,SD g D,u,fn.ntmps,Ej g D.hd,D,dn,X0,[]⟩;have hA:jo P I A:=⟨hM,fun b h=>.inl h,C,a7,fun l X B hi=>rfl,a9⟩;have Y:g<w.heap.size/\¬u g:=C g (.inr rfl);have V:∀ b,ownB A (CY g D.hd) b->X0 b:=by rintro b (h|⟨x,d,i,h1,j⟩);exact h;rcases (rG h1).2 with⟨_,rfl⟩|⟨_,rfl⟩;rw[kV j];exact b5;rw[D.yc] at j;cases j
 have G:∀ {b x d i},CY g D.hd x=some (d,i)->hblk i=some b->b=g:=by intro b x d i h1 j;rcases (rG h1).2 with⟨_,rfl⟩|⟨_,rfl⟩;exact kV j;rw[D.yc] at j;cases j
 have H:∀ {E:Env},(∀ x d i,E x=some (d,i)->∃ p,CY g D.hd x=some (p,i)/\d<=p/\(d=p->i=i))->({ w,ok:=u,env:=E }:Ctx).Le (aI A w (CY g D.hd)):=fun r=>
  ⟨
   dC _,fun b b9 ho=>⟨⟨.inl ho,fun x d i q hb=>Y.2 (G q hb ▸ ho)⟩,rfl⟩,fun x d i h=>by
   obtain⟨p,h1,j,_⟩:=r x d i h
   exact⟨p,i,h1,j,fun _=>rfl⟩⟩
 have W:({ w,ok:=u,env:=EH D.hd }:Ctx).Le (aI A w (CY g D.hd)):=H fun x d i h=>by obtain⟨rfl,rfl,rfl⟩:=aJf h;exact⟨0,rfl,dC _,fun _=>rfl⟩
 have hg:oq A ⟨slots 0 args,[(dx,none,0,.dev D.O dn h0),(px,none,0,.box t (.dv::l))]⟩ { tmps:=vs.toArray++IR (fn.ntmps-vs.toArray.size) undef,defers:=[] } w:=by
  refine⟨CY g D.hd,{ iq:=gu.refl _ _,size:=?_,dom:=fun x q=>?_,jv:=fun x g' d o h=>?_,live:=fun x d i b h hb=>?_,inj:=fun x y v1 h1 v2 j b q hy a4 a3=>?_,tmps:=fun t g pv h c0=>?_,defers:=rfl,und:=fun t pv h=>(by obtain⟨k,_,j⟩:=pU h;cases j),n_:=fun x i q=>?_,dev:=fun g' d O b7 l h _=>?_ }⟩;simp[A];omega;by_cases h1:dx=x;subst h1;rw[aF] at q;cases q;rw[aC _ _ h1] at q;by_cases j:px=x;subst j;rw[aF] at q;cases q;unfold CY Ej
  have b1:bu x px=false:=by
   cases hb:bu x px with
   |false=>rfl|true=>exact absurd (ig hb).symm j
  have b2:bu x dx=false:=by
   cases hb:bu x dx with
   |false=>rfl|true=>exact absurd (ig hb).symm h1
  rw[b1,b2];rfl;by_cases h1:dx=x;subst h1;rw[aF] at h;cases h;exact⟨D.hd,rfl,fun _=>trivial⟩;rw[aC _ _ h1] at h;by_cases j:px=x;subst j;rw[aF] at h;cases h;obtain⟨S,L,h4⟩:=b0;exact⟨iY g,rfl,fun _=>⟨g,S,rfl,L,h4.le W⟩⟩;rw[aC _ _ j] at h;cases h;have:=G h hb;subst this;refine⟨Y.1,.inr ⟨.inr rfl,?_⟩⟩;rcases (rG h).2 with⟨rfl,_⟩|⟨rfl,rfl⟩;rfl;rw[D.yc] at hb;cases hb;rcases (rG q).2 with⟨rfl,_⟩|⟨_,rfl⟩;rcases (rG hy).2 with⟨rfl,_⟩|⟨_,rfl⟩;rfl;rw[D.yc] at a3;cases a3;rw[D.yc] at a4;cases a4;obtain⟨k,h1,j⟩:=rD h;obtain⟨v,L,h4⟩:=hv.at j;rw[ik] at h1;subst h1;have hk:t<vs.length:=(List.getElem?_eq_some_iff.1 L).1
  refine⟨v,?_,h4.le (H fun x d i h=>⟨d,h,dC _,fun _=>rfl⟩)⟩;rw[aCc (by simpa using hk)];simpa using L
  ·refine⟨?_,0,i,?_,dC _,fun _=>rfl⟩
   ·rcases aJc q with⟨rfl,_⟩|⟨rfl,_⟩<;>rfl
   show CY g D.hd x=some (0,i);unfold CY;have:Ej g D.hd x=some i:=q;rw[this];rfl
  rw[aF] at h;cases h;exact⟨rfl,rfl,D.grow _ _ _ _ _ b4 (gu.refl _ _) (fun b hb=>.inl (V b hb))⟩
 refine calls_of_wp hf hb (wp_mono (hT A rfl hA _ w hg (fun _ _ _ i h=>⟨i,h⟩)) (fun e a' B he=>?_));cases e with
 |panic m=>obtain⟨i,l,h1,j,L,h4⟩:=he;exact⟨i,h4,.inr ⟨m,l,rfl,h1,j,L⟩⟩
 |exit id=>obtain⟨h1|h1,_⟩:=he<;>cases h1
 |goto _=>obtain⟨h1|h1,_⟩:=he<;>cases h1
 |outgrown=>obtain⟨h1|h1,_⟩:=he<;>cases h1
 | normal|ret=>
  obtain⟨_,s,⟨⟨v,j,L⟩,⟨l2,Q,q⟩,a5⟩,env,r⟩:=he;obtain⟨v',z,h5,h6,h7,_⟩:=rY r j;subst h7;have J:env px=some (0,iY g):=by obtain⟨i,K,_⟩:=r.jv px none 0 _ Q;have:=(r.n_ px (iY g) rfl).2.now K;rw[K,this]
  have a1:env dx=some (0,D.hd):=by obtain⟨i,K,_⟩:=r.jv dx none 0 _ a5;have:=(r.n_ dx D.hd rfl).2.now K;rw[K,this]
  obtain⟨_,_,hi⟩:=r.dev none 0 _ _ _ a5 trivial;have hS:DC A s env:=by intro x g' d e n len f0 i b Z a0 a2 T;rcases T with T|T;exact D.notS _ _ _ _ hi (.inr ⟨x,d,i,a0,a2⟩) T;have a8:b=g:=T;subst a8;have:=r.inj x px d i 0 _ b a0 J a2 rfl;subst this;rw[Q] at Z;cases Z
  have U:=aPy r hS L h6
  have this:a'.defers=[]/\∃ v,(results fn a'.tmps).run P B=.ok v B/\(gu (SD g D) w B /\
   ((∃ z,Ending.returned v=.returned z/\RV { w:=B,ok:=pI w u false,env:=fun _=>none } N z/\(∃ S,f_ B g t S/\RL { w:=B,ok:=pI w u false,env:=EH D.hd } (.dv::l') S.toList)/\D.inv h1 X0 B)
   \/ (∃ m l,Ending.returned v=.panicked m/\dn l/\D.O l=none/\D.pan l X0 B m))):=by
   refine⟨r.defers,z,h5,r.iq,.inl ⟨z,rfl,U,?_,D.grow _ _ _ _ _ hi (gu.refl _ _) (fun b hb=>.inl (.inl hb))⟩⟩;obtain⟨i,K,h9⟩:=r.jv px none 0 _ Q;obtain⟨g1,S,e1,b6,a6⟩:=h9 trivial;rw[J] at K;cases K;cases e1;refine⟨S,b6,?_⟩;generalize S.toList=zs at a6 ⊢;cases a6 with
   | cons k1 k2=>
    refine .cons ?_ ((aPz r hS q k2).le ⟨dC _,fun b _ hb=>⟨hb,rfl⟩,fun _ _ _ h=>by cases h⟩);cases k1 with
    |dv j1 j2=>have e3:=j2.now a1;subst e3;exact .dv j1 ⟨0,D.hd,rfl,dC _,fun _=>rfl⟩
  exact this
theorem gy.OV(h:gy A s a w env){w':ae}{O:qy}{dn:jc->Prop}{l X:jc}{K g':mi}{x jm u t:Nat}{p p':dw}(E:find s.o dx=some (K,0,.dev O dn l))(Q:gT K)(sub:∀ b,A.dv.S b->A.S b)(old:∀ b,A.dv.S b->b<A.w0.heap.size/\¬A.ok0 b)
  (D:find s.o x=some (g',jm,.box t p)) (J:env x=some (jm,iY u)) (z:gu (fun b=>A.dv.S b\/b=u) w w') (hi:A.dv.inv X (ownB A env) w') (N:(aI A w env).Le (aI A w' env)->∃ L,f_ w' u t L/\RL (aI A w' env) p' L.toList) :
  gy A { s with o:=(dx,none,0,.dev O dn X)::(x,none,jm,.box t p')::s.o } a w' env/\(aI A w env).Le (aI A w' env):=by
 obtain⟨hO,B,C⟩:=h.dev K 0 O dn l E Q;have Z:x≠dx:=fun e=>by subst e;rw[E] at D;cases D
 have k:(aI A w env).Le (aI A w' env):=⟨z.size,fun b q r=>⟨r,z.block b q (fun j=>by
  rcases j with j|rfl;rcases r.1 with d|d;exact (old b j).2 d;have:=(old b j).1;omega
  exact r.2 x jm _ J rfl)⟩,fun x jm i hx=>⟨jm,i,hx,dC _,fun _=>rfl⟩⟩
 have T:=h.live x jm _ u J rfl;refine⟨{ iq:=h.iq.trans' z (fun _ _ h=>h) (fun b q j=>?_),size:=h.size,dom:=fun y n=>?_,jv:=fun y Y f o c=>?_,live:=fun y jm i b d m=>⟨YX (h.live y jm i b d m).1 z.size,(h.live y jm i b d m).2⟩,inj:=h.inj,tmps:=fun t g pv E U=>let ⟨v,d,m⟩:=h.tmps t g pv E U;⟨v,d,m.le k⟩,defers:=h.defers,und:=h.und,n_:=fun y i n=>⟨(h.n_ y i n).1,(h.n_ y i n).2.le k⟩,dev:=fun Y f O2 W l2 c a0=>?_ },k⟩;rcases j with j|rfl;exact sub b j;rcases T.2 with d|d;omega;exact d.1
 by_cases d:dx=y;subst d;rw[aF] at n;cases n;rw[aC _ _ d] at n;by_cases m:x=y;subst m;rw[aF] at n;cases n;rw[aC _ _ m] at n;exact h.dom y n;by_cases d:dx=y;subst d;rw[aF] at c;cases c;obtain⟨i,d,_⟩:=h.jv dx K 0 _ E;exact⟨i,d,fun _=>trivial⟩;rw[aC _ _ d] at c;by_cases m:x=y;subst m;rw[aF] at c;cases c;obtain⟨L,H,V⟩:=N k;exact⟨iY u,J,fun _=>⟨u,L,rfl,H,V⟩⟩;rw[aC _ _ m] at c;obtain⟨i,H,V⟩:=h.jv y Y f o c
 exact⟨i,H,fun U=>(V U).Aa k (fun b G q=>z.block b q (fun j=>by
  rcases j with j|rfl;exact A.dv.notS _ _ _ _ C (.inr ⟨y,f,i,H,G⟩) j
  exact m (h.inj x y jm _ f i b J H rfl G)))⟩
 rw[aF] at c;cases c;exact⟨hO,B,hi⟩
theorem gy.GH{l:jc}{O:qy}{dn:jc->Prop}{x jm:Nat}{q m:mi}{o:lu}{r:lu}(h:gy A { s with o:=(dx,none,0,.dev O dn l)::(x,none,jm,o)::s.o } a w env)(p:find s.o x=some (q,jm,o))(_:find s.o dx=some (m,0,r))(_:gT q):gy A { s with o:=(dx,none,0,.dev O dn l)::s.o } a w env:=by
 have j:∀ y g v e,find ((dx,none,0,lu.dev O dn l)::s.o) y=some (g,v,e)->∃ f,find ((dx,none,0,lu.dev O dn l)::(x,none,jm,o)::s.o) y=some (f,v,e)/\(gT g->gT f):=by intro y g v e b;by_cases d:dx=y;subst d;rw[aF] at b ⊢;exact⟨g,b,id⟩;rw[aC _ _ d] at b ⊢;by_cases c:x=y;subst c;rw[p] at b;cases b;rw[aF];exact⟨none,rfl,fun _=>trivial⟩;rw[aC _ _ c];exact⟨g,b,id⟩
 refine { iq:=h.iq,size:=h.size,dom:=fun y b=>h.dom y ?_,jv:=fun y g v e b=>?_,live:=h.live,inj:=h.inj,tmps:=h.tmps,defers:=h.defers,und:=h.und,n_:=h.n_,dev:=fun g v B i t b k=>?_ };by_cases d:dx=y;subst d;rw[aF] at b;cases b;rw[aC _ _ d] at b ⊢;by_cases c:x=y;subst c;rw[p] at b;cases b;rw[aC _ _ c];exact b;obtain⟨f,d,c⟩:=j y g v e b;obtain⟨hd,z,u⟩:=h.jv y f v e d;exact⟨hd,z,fun n=>u (c n)⟩;obtain⟨f,d,c⟩:=j dx g v _ b;exact h.dev f v B i t d (c k)
def aSz (t:bi) (hist:(jc->Option qj)->jc->dw->jl->jc) (g:(jc->Option qj)->jc->dw->jl->Option (Prop×PV)):Spec:=fun _ j=>match j with
 | .w (.one (.pt x d e))::rest=>(match bu e 0,GY rest with
  | true,some b=>.obj x fun q m o=>jE q (match bu d m,o with
   | true,.box n (.dv::l)=>(match bu t n,l.all (aY false) with
    | true,true=>.obj dx fun i c f=>jE i (match bu c 0,f with
     |true,.dev O dn k=>(match g O k l b with
      |some (p,r)=>.need p (.need (∀ h,k <+: h->h <+: hist O k l b->O h=none->dn h) (.upd dx 0 (.dev O dn (hist O k l b)) (.ret r)))|none=>.fail)
     |_,_=>.fail)
    |_,_=>.fail)
   |_,_=>.fail)
  |_,_=>.fail)
 |_=>.fail
theorem aZi {f:Nat} {t:bi} {hist:(jc->Option qj)->jc->dw->jl->jc} {g:(jc->Option qj)->jc->dw->jl->Option (Prop×PV)} (Z:∀ args w,(YR f args).run P w=.ok (.enter f args) w)
  (hg:∀ O k l D p r,g O k l D=some (p,r)->p->YH P I f t l l O k (hist O k l D) (fun h=>k <+: h/\h <+: hist O k l D) (.w (.one (.pt px 0 0))::D) r):d_ P I f (aSz t hist g):=by
 refine⟨Z,fun A s a w env nm b6 vs F h n hv c=>?_⟩;unfold aSz at c;split at c
 ·rename_i x o a9 L
  cases d:bu a9 0<;>cases hr:GY L<;>simp only[d,hr] at c<;>try exact c.elim
  rename_i D;obtain rfl:=ig d;obtain⟨gd,vr,ob,G,c⟩:=c;have E:=dD c;clear c;obtain⟨W,c⟩:=E;obtain⟨hd,he,b1⟩:=jQ h G W
  cases a3:bu o vr<;>simp only[a3] at c<;>try exact c.elim
  obtain rfl:=ig a3;split at c
  ·rename_i t' l _
   cases a2:bu t t'<;>cases hc:l.all (aY false)<;>simp only[a2,hc] at c<;>try exact c.elim
   obtain rfl:=ig a2;obtain⟨a5,a7,b0,j,c⟩:=c;have E:=dD c;clear c;obtain⟨B,c⟩:=E
   cases a1:bu a7 0<;>cases b0<;>simp only[a1] at c<;>try exact c.elim
   rename_i O dn k;obtain rfl:=ig a1;cases hq:g O k l D with
   |none=>rw[hq] at c;exact c.elim| some q=>
    obtain⟨p,r⟩:=q;rw[hq] at c;obtain⟨hp,S,_,hF⟩:=c;obtain⟨hO,Q,z⟩:=h.dev a5 0 O dn k j B;subst hO Q;have Y:=n.dvh _ _ _ z;obtain⟨b8,u,_⟩:=h.jv dx a5 0 _ j;obtain rfl:=(h.n_ dx _ Y).2.now u
    match vs,hv with
    | v :: vs,⟨hv1,hv2⟩=>
     obtain⟨C,rfl,rfl⟩:=hv1.BJ he;obtain⟨g1,cs,e1,hB,hR⟩:=b1;cases e1;have b2:C<w.heap.size:=hB.lt;have X:=h.live x o _ C he rfl;have U:¬(aI A w env).ok C:=fun i=>i.2 x o _ he rfl
     have H:RL { w:=w,ok:=(aI A w env).ok,env:=EH A.dv.hd } (.dv::l) cs.toList:=by
      generalize cs.toList=zs at hR ⊢;cases hR with
      | cons k1 k2=>
       refine .cons ?_ ((jK k2 hc).le ⟨dC _,fun b _ d=>⟨d,rfl⟩,fun _ _ _ h=>by cases h⟩);cases k1 with
       |dv j1 j2=>have e3:=j2.now u;subst e3;exact .dv j1 ⟨0,A.dv.hd,rfl,dC _,fun _=>rfl⟩
     refine (hg A.dv.O k l D p r hq hp w (aI A w env).ok (iY C::vs) C A.dv (ownB A env)
      (
       fun w' N=>n.mem w' (h.iq.trans' N (fun _ _ h=>h) (fun b V d=>by
       rcases d with d|rfl;exact n.sub b d;rcases X.2 with m|m;omega
       exact m.1)))
      (
       fun b d=>by
       rcases d with d|rfl;have m:=n.old b (n.sub b d)
       refine⟨YX m.1 h.iq.size,fun i=>?_⟩;rcases i.1 with J|J;exact m.2 J;omega
       exact⟨b2,U⟩)
      (n.step.mono fun l2 m J=>S l2 m.1 m.2 J) n.Ci rfl z (.inr ⟨x,o,_,he,rfl⟩) ⟨cs,hB,H⟩
      ⟨.w (.one (.pt ⟨C,0,rfl⟩ ⟨0,iY C,rfl,dC _,fun _=>⟨C,rfl,rfl⟩⟩)),aAt aGm hr hv2⟩).mono ?_
     rintro e w' ⟨N,⟨a8,rfl,T,⟨a6,b5,a4⟩,b3⟩|⟨K,l2,rfl,m,J,h3⟩⟩
     obtain⟨h4,h5⟩:=h.OV (w':=w') (p':=.dv::l) j B n.sub (fun b d=>n.old b (n.sub b d)) G he N b3 (fun b7=>⟨a6,b5,by
      generalize a6.toList=zs at a4 ⊢;cases a4 with
      | cons k1 k2=>
       refine .cons ?_ (?_:RL _ _ _);cases k1 with
       |dv j1 j2=>have e3:=j2.now (show EH A.dv.hd dx=some (0,A.dv.hd) from rfl);subst e3;exact .dv j1 ⟨0,A.dv.hd,u,dC _,fun _=>rfl⟩
       refine k2.le ⟨dC _,fun b d i=>⟨?_,rfl⟩,fun y v2 a0 hy=>?_⟩;rcases i with⟨_,i⟩|i;exact i
       exact⟨.inr (PP h.iq.size i),fun y v2 a0 hy b4=>by have:=(h.live y v2 a0 b hy b4).1;omega⟩;obtain⟨rfl,rfl,rfl⟩:=aJf hy
       exact⟨0,_,u,dC _,fun _=>rfl⟩⟩)
     exact .inl ⟨r,_,a8,env,rfl,hF,h4.GH G j W,T.le (xY h N.size)⟩;refine .inr ⟨K,rfl,l2,S l2 m.1 m.2 J,J,n.Ci _ _ _ _ _ _ h3 (gu.refl _ _) (fun b d=>.inl d),h.iq.trans' N (fun _ _ h=>h) (fun b V d=>?_)⟩;rcases d with d|rfl;exact n.sub b d;rcases X.2 with m|m;omega;exact m.1
  exact c.elim
 exact c.elim
variable {w w':ae}
theorem gy.many(h:gy A s a w env)(wr:Wr)(C:gu (fun b=>∃ p∈wr,∃ d,env p.1=some (p.2.2.1,d)/\hblk d=some b) w w')
  (G:∀ p∈wr,p.2.1=none/\(∀ O dn l,p.2.2.2≠.dev O dn l)/\∃ d,env p.1=some (p.2.2.1,d)/\((aI A w env).Le (aI A w' env)->nI (aI A w' env) d p.2.2.2)) :
  gy A { s with o:=wr++s.o } a w' env/\(aI A w env).Le (aI A w' env):=by
 have u:(aI A w env).Le (aI A w' env):=⟨C.size,fun b B H=>⟨H,C.block b B (fun⟨p,_,d,m,f⟩=>H.2 _ _ _ m f)⟩,fun x c d Q=>⟨c,d,Q,dC _,fun _=>rfl⟩⟩
 have n:∀ (l:Wr) x,(∃ p∈l,p.1=x/\find (l++s.o) x=some p.2)\/((∀ p∈l,p.1≠x)/\find (l++s.o) x=find s.o x):=by
  intro l x
  induction l with
  |nil=>exact .inr ⟨(fun p z=>by cases z),rfl⟩|cons p l Z=>by_cases z:p.1=x;exact .inl ⟨p,MM,z,by rw[<-z];exact aF _ _ _⟩;have e:find (p::l++s.o) x=find (l++s.o) x:=aC _ _ z;rcases Z with⟨q,m,f,r⟩|⟨m,f⟩;exact .inl ⟨q,VM _ m,f,e.trans r⟩;refine .inr ⟨fun q S=>?_,e.trans f⟩;rcases List.mem_cons.1 S with rfl|S;exact z;exact m q S
 refine⟨{ iq:=?_,size:=h.size,dom:=fun x Q=>?_,jv:=fun x g c o K=>?_,live:=fun x c d b m f=>⟨YX (h.live x c d b m f).1 C.size,(h.live x c d b m f).2⟩,inj:=h.inj,tmps:=fun t g pv K J=>let ⟨v,m,f⟩:=h.tmps t g pv K J;⟨v,m,f.le u⟩,defers:=h.defers,und:=h.und,n_:=fun y d V=>⟨(h.n_ y d V).1,(h.n_ y d V).2.le u⟩,dev:=fun g c O dn l K J=>?_ },u⟩;refine h.iq.trans' C (fun _ _ h=>h) (fun i hi ⟨p,_,d,m,f⟩=>?_);rcases (h.live _ _ d i m f).2 with r|r;omega;exact r.1;rcases n wr x with⟨p,_,_,r⟩|⟨_,f⟩;have E:find (wr++s.o) x=none:=Q;rw[r] at E;cases E;exact h.dom x (f.symm.trans Q);have j:find (wr++s.o) x=some (g,c,o):=K;rcases n wr x with⟨p,m,f,r⟩|⟨m,f⟩;rw[r] at j;obtain⟨D,_,d,N,L⟩:=G p m;obtain⟨W,g',X,Y⟩:=p;dsimp only at D N L f;subst f;cases j
 exact⟨d,N,fun _=>L u⟩;rw[f] at j;obtain⟨d,r,h4⟩:=h.jv x g c o j;exact⟨d,r,fun J=>(h4 J).Aa u (fun b U B=>C.block b B (fun⟨p,z,T,h5,h6⟩=>m p z (h.inj p.1 x _ T c d b h5 r h6 U)))⟩;have j:find (wr++s.o) dx=some (g,c,.dev O dn l):=K;rcases n wr dx with⟨p,m,f,r⟩|⟨m,f⟩;rw[r] at j;obtain⟨_,D,_⟩:=G p m;obtain⟨W,g',X,Y⟩:=p;cases j;exact absurd rfl (D O dn l);rw[f] at j;obtain⟨D,N,L⟩:=h.dev g c O dn l j J
 exact⟨D,N,A.dv.grow _ _ _ _ _ L (C.mono fun k _ ⟨p,_,d,e1,e2⟩=>.inr ⟨p.1,_,d,e1,e2⟩) (fun b hb=>.inl hb)⟩
structure Gv where
 x:Nat
 vr:Nat
 t:bi
 l:dw
def aBk:jl->Nat->(List Gv->jl->M)->M
 |[],_,k=>k [] []| .w (.one (.pt x d f))::l,i,k=>(match bu f 0 with
  | true=>.obj x fun m g j=>jE m (match bu d g,j with
   |true,.box t c=>(match c.all (aY false) with
    |true=>aBk l (i+1) fun e b=>k (⟨x,g,t,c⟩::e) (dm (.pt (px+i) 0 0)::b)|false=>.fail)
   |_,_=>.fail)
  |false=>.fail)
 |v::l,i,k=>(match Es v with
  |some h=>aBk l i fun e b=>k e (h::b)|none=>.fail)
def writeM:List Gv->List dw->M->M
 |[],[],k=>k|o::os,c::cs,k=>.upd o.x o.vr (.box o.t c) (writeM os cs k)|_,_,_=>.fail
def distinct:List Gv->Bool
 |[]=>true|o::os=>(os.all fun p=>!Nat.beq o.x p.x)&&distinct os
def Gg:Nat->List Gv->List dw->List Ob
 |i,o::os,c::cs=>⟨px+i,o.t,o.l,c⟩::Gg (i+1) os cs|_,_,_=>[]
def aWc(g:List (bi×dw)->jl->Option (Prop×List dw×PV)):Spec:=fun _ e=>aBk e 0 fun b d=>(match distinct b,g (b.map fun o=>(o.t,o.l)) d with
 |true,some (p,c,r)=>(match bu c.length b.length with
  |true=>.need p (writeM b c (.ret r))|false=>.fail)
 |_,_=>.fail)
def aEB:Option (Nat×ag)->Nat
 |some (_,.pointer (some a))=>a.block|_=>0
def DU(os:List Gv)(env:Nat->Option (Nat×ag))(n:Nat):Nat:=aEB ((os[n-px]?).bind fun o=>env o.x)
def aHD(C:Ctx)(o:Gv):Prop:=∃ g b,C.env o.x=some (o.vr,iY g)/\f_ C.w g o.t b/\RL C.cold o.l b.toList
theorem aFv(h:gy A s a w env):∀ {d:jl} {D:ji} {i:Nat} {k:List Gv->jl->M},o5 (aI A w env) d D->(aBk d i k).ok none s F ->
  ∃ e f,(∀ o∈e,aHD (aI A w env) o)/\(∀ g:Ctx,(aI A w env).cold.Le g->(∀ (j:Nat) o,e[j]?=some o->∀ p,env o.x=some (o.vr,p)->g.env (px+(i+j))=some (0,p))->o5 g f D)/\(k e f).ok none s F
 |[],[],i,k,_,b=>⟨[],[],(fun o B=>by cases B),fun _ _ _=>trivial,b⟩|[],_::_,_,_,hv,_=>hv.elim|_::_,[],_,_,hv,_=>hv.elim| pv::d,v::D,i,k,⟨h1,h2⟩,b=>by
  have r:∀ y,Es pv=some y->(aBk d i fun e f=>k e (y::f)).ok none s F->∃ e f,(∀ o∈e,aHD (aI A w env) o)/\(∀ g:Ctx,(aI A w env).cold.Le g->(∀ (j:Nat) o,e[j]?=some o->∀ p,env o.x=some (o.vr,p)->g.env (px+(i+j))=some (0,p))->o5 g f (v::D))/\(k e f).ok none s F:=by intro y H N;obtain⟨e,f,W,V,U⟩:=aFv h h2 N;exact⟨e,y::f,W,fun g m E=>⟨bJe m H h1,V g m E⟩,U⟩
  unfold aBk at b;split at b;cases ‹_::_=[]›
  ·rename_i x q z l u;obtain⟨rfl,rfl⟩:pv=.w (.one (.pt x q z))/\d=l:=by simpa using u
   cases Y:bu z 0<;>rw[Y] at b
   exact b.elim;obtain rfl:=ig Y;obtain⟨gd,Z,ob,S,b⟩:=b;have L:=dD b;clear b;obtain⟨Q,b⟩:=L;obtain⟨p,T,K⟩:=jQ h S Q
   cases C:bu q Z<;>cases ob<;>simp only[C] at b<;>try exact b.elim
   rename_i t c;obtain rfl:=ig C
   cases X:c.all (aY false)<;>rw[X] at b
   exact b.elim;obtain⟨G,rfl,rfl⟩:=h1.BJ T;obtain⟨g1,cs,e1,hB,hR⟩:=K;cases e1;obtain⟨e,f,W,V,U⟩:=aFv h h2 b;refine⟨⟨x,q,t,c⟩::e,dm (.pt (px+_) 0 0)::f,fun o B=>?_,fun g m E=>⟨?_,V g m (fun j o O p hx=>?_)⟩,U⟩;rcases List.mem_cons.1 B with rfl|B
   exact⟨G,cs,T,hB,jK hR X⟩;exact W o B;have:=E 0 _ rfl _ T;rw[ZA] at this;exact .w (.one (.pt ⟨G,0,rfl⟩ ⟨0,iY G,this,dC _,fun _=>⟨G,rfl,rfl⟩⟩));have:=E (j+1) o (by simpa using O) p hx;rw[show ∀ n:Nat,n+1+j=n+(j+1) from fun n=>a_];exact this
  rename_i v0 l0 _ u;obtain⟨rfl,rfl⟩:pv=v0/\d=l0:=by simpa using u
  cases J:Es pv with
  |none=>rw[J] at b;exact b.elim|some y=>rw[J] at b;exact r y J b
theorem aMw{r:PV}:∀ {b:List Gv} {d:List dw} {F:mi->PV->Wr->Prop},(writeM b d (.ret r)).ok none s F->b.length=d.length/\F none r ((b.zip d).map fun p=>(p.1.x,none,p.1.vr,.box p.1.t p.2))
 |[],[],F,h=>⟨rfl,h⟩|[],_::_,_,h=>h.elim|_::_,[],_,h=>h.elim|o::b,c::d,F,h=>by obtain⟨_,h⟩:=h;obtain⟨f,e⟩:=aMw h;exact⟨by simp[f],e⟩
theorem aGh:∀ {b:List Gv},distinct b=true->∀ (i j:Nat) o p,b[i]?=some o->b[j]?=some p->o.x=p.x->i=j
 |[],_,i,j,o,p,d,_,_=>by simp at d| q::b,h,i,j,o,p,d,hj,e=>by
  rw[distinct,ww] at h;have c:∀ p∈b,q.x≠p.x:=fun p f e=>by have:=List.all_eq_true.1 h.1 p f;rw[e] at this;simp at this
  match i,j with
  |0,0=>rfl|0,j+1=>
   obtain rfl:q=o:=by simpa using d
   exact absurd e (c p (ZO (by simpa using hj:b[j]?=some p)))
  |i+1,0=>
   obtain rfl:q=p:=by simpa using hj
   exact absurd e.symm (c o (ZO (by simpa using d:b[i]?=some o)))
  |i+1,j+1=>rw[aGh h.2 i j o p (by simpa using d) (by simpa using hj) e]
theorem zZ:∀ {d:List Gv} {e:List dw} {i:Nat} {b:Ob},b∈Gg i d e->∃ j o c,d[j]?=some o/\e[j]?=some c/\b=⟨px+(i+j),o.t,o.l,c⟩
 |[],_,_,_,h=>by cases h|_::_,[],_,_,h=>by cases h|o::d,c::e,i,b,h=>by
  rcases List.mem_cons.1 h with rfl|h
  exact⟨0,o,c,rfl,rfl,rfl⟩;obtain⟨j,f,n,m,k,g⟩:=zZ h;exact⟨j+1,f,n,by simpa using m,by simpa using k,by rw[g,show i+1+j=i+(j+1) from a_]⟩
theorem aFh:∀ {b:List Gv} {d:List dw} {i j:Nat} {o:Gv} {c:dw},b[j]?=some o->d[j]?=some c->(⟨px+(i+j),o.t,o.l,c⟩:Ob)∈Gg i b d
 |[],_,_,_,_,_,h,_=>by simp at h|_::_,[],_,_,_,_,_,h=>by simp at h|o::b,c::d,i,0,o',c',h1,h2=>by
  obtain rfl:o=o':=by simpa using h1
  obtain rfl:c=c':=by simpa using h2
  exact MM
 |o::b,c::d,i,j+1,o',c',h1,h2=>by refine VM _ ?_;rw[show i+(j+1)=i+1+j from a_];exact aFh (by simpa using h1) (by simpa using h2)
theorem aOq{f:Nat}{g:List (bi×dw)->jl->Option (Prop×List dw×PV)}(T:∀ args w,(YR f args).run P w=.ok (.enter f args) w)
  (hg:∀ (d:List Gv) K p m r,g (d.map fun o=>(o.t,o.l)) K=some (p,m,r)->d.length=m.length->p->zh P I f false (Gg 0 d m) (fun _=>none) none (fun _=>False) K r):d_ P I f (aWc g):=by
 refine⟨T,fun A s a w env nm a6 vs F h hI hv B=>?_⟩;unfold aWc at B;obtain⟨d,K,h1,h2,B⟩:=aFv h hv B
 cases hd:distinct d<;>cases V:g (d.map fun o=>(o.t,o.l)) K<;>simp only[hd,V] at B<;>try exact B.elim
 rename_i q;obtain⟨p,m,r⟩:=q;dsimp only at B
 cases D:bu m.length d.length<;>rw[D] at B
 exact B.elim;have z:=ig D;obtain⟨hp,B⟩:=B;obtain⟨_,hF⟩:=aMw B;have u:∀ (j:Nat) o,d[j]?=some o->∃ g,env o.x=some (o.vr,iY g)/\DU d env (px+(0+j))=g:=fun j o n=>by obtain⟨g,C,k,_⟩:=h1 o (ZO n);refine⟨g,k,?_⟩;unfold DU;rw[ik,Nat.add_sub_cancel_left,n];have H:env o.x=some (o.vr,iY g):=k;rw[Option.bind_some,H];rfl
 have J:∀ b,SX (Gg 0 d m) (DU d env) Dv.non b->∃ o∈d,env o.x=some (o.vr,iY b):=by rintro b (D|⟨ob,y,rfl⟩);exact D.elim;obtain⟨j,o,c,k,_,rfl⟩:=zZ y;obtain⟨g,G,E⟩:=u j o k;exact⟨o,ZO k,by rw[E];exact G⟩
 refine (hg d K p m r V z.symm hp w (aI A w env).ok vs (DU d env) Dv.non (fun _=>True)
  (
   fun w' N=>hI.mem w' (h.iq.trans' N (fun _ _ h=>h) (fun b a5 D=>by
   obtain⟨o,ho,k⟩:=J b D;rcases (h.live _ _ _ b k rfl).2 with W|W;omega
   exact W.1)))
  (
   fun b D=>by
   obtain⟨o,ho,k⟩:=J b D
   exact⟨(h.live _ _ _ b k rfl).1,fun a0=>a0.2 _ _ _ k rfl⟩)
  (oz.non P) (fun _ _ _ _ _ _ h=>h.elim) rfl (fun p hp=>by cases hp) (fun _=>⟨fun _ h=>h,fun _ _ _ h=>h⟩)
  (
   fun ob y=>by
   obtain⟨j,o,c,k,_,rfl⟩:=zZ y;obtain⟨g,G,E⟩:=u j o k;obtain⟨g',C,e4,h4,h5⟩:=h1 o (ZO k);have U:env o.x=some (o.vr,iY g'):=e4;rw[G] at U;cases U;refine⟨trivial,C,?_,h5⟩;show f_ w (DU d env (px+(0+j))) _ _;rw[E]
   exact h4)
  (
   fun ob y a7 Q e=>by
   obtain⟨j,o,c,k,_,rfl⟩:=zZ y;obtain⟨Z,Y,c',H,_,rfl⟩:=zZ Q;obtain⟨g,G,E⟩:=u j o k;obtain⟨g',a3,a2⟩:=u Z Y H;have e':DU d env (px+(0+j))=DU d env (px+(0+Z)):=e;rw[E,a2] at e';subst e';have:=h.inj o.x Y.x _ _ _ _ g G a3 rfl rfl
   rw[aGh hd j Z o Y k H this])
  (
   h2 _ aGm (fun j o n hd hx=>by
   obtain⟨g,G,E⟩:=u j o n;rw[G] at hx;cases hx
   have hm:∃ c,m[j]?=some c:=by
    have:j<m.length:=by rw[z];exact (List.getElem?_eq_some_iff.1 n).1
    exact⟨_,zH this⟩
   obtain⟨c,hc⟩:=hm;show z_ (Gg 0 d m) (DU d env) none Dv.non.hd (px+(0+j))=_;have S:PL (Gg 0 d m) (px+(0+j))=true:=aAd (aFh (i:=0) n hc);unfold z_ uq;rw[S];show some (0,iY (DU d env (px+(0+j))))=_
   rw[E]))).mono ?_
 rintro e w' ⟨N,⟨X,rfl,O,a1,_⟩|⟨a4,l2,rfl,W,_⟩⟩
 obtain⟨h4,h5⟩:=h.many (w':=w') ((d.zip m).map fun p=>(p.1.x,none,p.1.vr,.box p.1.t p.2))
  (
   N.mono fun b a8 D=>by
   obtain⟨o,ho,k⟩:=J b D;obtain⟨j,n⟩:=List.getElem?_of_mem ho;have hm:j<m.length:=by rw[z];exact (List.getElem?_eq_some_iff.1 n).1
   exact⟨(o.x,none,o.vr,.box o.t m[j]),List.mem_map.2 ⟨(o,m[j]),ZO (i:=j) (by rw[aGX];exact⟨n,zH hm⟩),rfl⟩,_,k,rfl⟩)
  (
   fun q V=>by
   obtain⟨⟨o,c⟩,hz,rfl⟩:=List.mem_map.1 V;obtain⟨j,n⟩:=List.getElem?_of_mem hz;rw[aGX] at n;obtain⟨g,G,E⟩:=u j o n.1;refine⟨rfl,(fun _ _ _ e=>by cases e),iY g,G,fun a9=>?_⟩;obtain⟨C,k1,k2⟩:=a1 _ (aFh (i:=0) n.1 n.2);have L:f_ w' (DU d env (px+(0+j))) o.t C:=k1;rw[E] at L
   exact⟨g,C,rfl,L,k2.le (xY h N.size)⟩)
 exact .inl ⟨r,_,X,env,rfl,hF,h4,O.le (xY h N.size)⟩;exact W.elim
def ans(O:qy)(l:jc):qj:=(O l).getD ⟨0,aG⟩
def go{b:Type}(O:qy):aj b->jc->b×jc
 |.ret a,l=>(a,l)|.ask c k,l=>go O (k (ans O (l++[c]))) (l++[c])
theorem go_ret{b:Type}(O:qy)(a:b)(l:jc):go O (.ret a) l=(a,l):=rfl
theorem xM{a:Type}(O:qy)(c:Acc)(k:qj->aj a)(l:jc):go O (.ask c k) l=go O (k (ans O (l++[c]))) (l++[c]):=rfl
theorem yL{b d:Type}(O:qy)(p:aj b)(f:b->aj d):∀ l,go O (p.bind f) l=go O (f (go O p l).1) (go O p l).2:=by
 induction p with
 |ret a=>intro l;rfl|ask c k e=>intro l;exact e _ _
theorem vO{b:Type}(O:qy)(p:aj b):∀ l,l <+: (go O p l).2:=by
 induction p with
 |ret a=>intro l;exact aAf _|ask c k d=>intro l;exact (ZG l [c]).trans (d _ _)
theorem Uz{b:Type}{R:b->Prop}(O:qy){p:aj b}(h:aj.All R p):∀ l,R (go O p l).1:=by
 induction p with
 |ret a=>intro l;exact h|ask c k d=>intro l;exact d _ (h _) _
def lZ{d:Type}(a:jl->Option (Prop×aj d×(d->PV))):Spec:=aLy (fun O l b=>match a b with|some (_,p,_)=>(go O p l).2|none=>l) (fun O l b=>match a b with|some (c,p,f)=>some (c,f (go O p l).1)|none=>none)
def DJ(P:dE)(I:je)(f:Nat){a:Type}(p:aj a)(args:jl)(val:a->PV):Prop:=∀ O l,zh P I f false [] O (some (l,(go O p l).2)) (fun h=>l <+: h/\h <+: (go O p l).2) args (val (go O p l).1)
theorem oL{P:dE}{I:je}{f:Nat}{h:Type}{a:jl->Option (Prop×aj h×(h->PV))}(d:∀ args w,(YR f args).run P w=.ok (.enter f args) w)
  (k:∀ b c p v,a b=some (c,p,v)->c->DJ P I f p (.w (.one .dv)::b) v):d_ P I f (lZ a):=by
 refine aJi d (fun O l b p r e j=>?_);cases g:a b with
 |none=>rw[g] at e;cases e|some q=>obtain⟨c,i,v⟩:=q;rw[g] at e;cases e;exact k b _ i v g j O l
theorem aKw{H L l:jc}{c:Acc}{X:Prop}(h1:L <+: l)(h2:l++[c] <+: H):X->L <+: l++[c]/\l++[c] <+: H:=fun _=>⟨h1.trans (ZG l [c]),h2⟩
theorem oG(l:jc):l <+: l:=aAf l
theorem QW(l:jc)(c:Acc):l <+: l++[c]:=ZG l [c]
theorem bCf{P:dE}{A:lh}{s:St}{Q:Exit->Act->je}{b:Nat}(h:YM A s (Q .normal)):jw P A s (.label b) Q:=fun a w c _=>wp_label (h a w c)
theorem bCd{P:dE}{A:lh}{s:St}{Q:Exit->Act->je}{c:Code}(h:jw P A s c (Exit.noGoto Q)):jw P A s (.scope c) Q:=fun a w f d=>wp_scope_straight (h a w f (fun b a w g e=>d b a w g e))
def OB(O:qy):Prop:=∀ l r,O l=some r->r.bytes.size<=1000000
theorem OB.ans{O:qy}(h:OB O)(l:jc):(ans O l).bytes.size<=1000000:=by
 unfold Pv.ans;cases a:O l with
 |none=>exact (by decide:(0:Nat)<=1000000)|some r=>exact h l r a
def bJw(P:dE)(I:je)(f:Nat){a:Type}(p:aj a)(args:jl)(val:a->PV):Prop:=∀ O l,OB O->zh P I f false [] O (some (l,(go O p l).2)) (fun h=>l <+: h/\h <+: (go O p l).2) args (val (go O p l).1)
theorem DJ.toB{P:dE}{I:je}{f:Nat}{a:Type}{p:aj a}{args:jl}{val:a->PV}(h:DJ P I f p args val):bJw P I f p args val:=fun O l _=>h O l
def lY{d:Type}(a:jl->Option (Prop×aj d×(d->PV))):Spec:=aLy (fun O l b=>match a b with|some (_,p,_)=>(go O p l).2|none=>l) (fun O l b=>match a b with|some (c,p,f)=>some (OB O/\c,f (go O p l).1)|none=>none)
theorem pF{P:dE}{I:je}{f:Nat}{h:Type}{a:jl->Option (Prop×aj h×(h->PV))}(d:∀ args w,(YR f args).run P w=.ok (.enter f args) w)
  (k:∀ b c p v,a b=some (c,p,v)->c->bJw P I f p (.w (.one .dv)::b) v):d_ P I f (lY a):=by
 refine aJi d (fun O l b p r e i=>?_);cases g:a b with
 |none=>rw[g] at e;cases e|some q=>obtain⟨c,j,v⟩:=q;rw[g] at e;cases e;exact k b _ j v g i.2 O l i.1
def gJ:Bool->Int->aj Unit
 |true,_=>.ret ()|false,e=>.ask (sQ e) fun _=>.ret ()
def Oy(P:dE)(I:je)(T:bi)(f:Nat){a:Type}(p:aj a)(args:jl)(val:a->PV):Prop:=∀ O l,OB O->Zr T O->zh P I f false [] O (some (l,(go O p l).2)) (fun h=>l <+: h/\h <+: (go O p l).2) args (val (go O p l).1)
def wF(P:dE)(I:je)(T:bi)(f:Nat)(t:bi)(cells:dw){a:Type}(p:aj a)(args:jl)(val:a->PV):Prop:=∀ O l,OB O->Zr T O->YH P I f t cells cells O l (go O p l).2 (fun h=>l <+: h/\h <+: (go O p l).2) (.w (.one (.pt px 0 0))::args) (val (go O p l).1)
def aUw(hist:(jc->Option qj)->jc->jl->jc)(b:(jc->Option qj)->jc->jl->Option (Prop×PV)):Spec:=fun _ c=>match GY c with
 | some a=>.obj dx fun g d e=>jE g (match bu d 0,e with
  |true,.dev O dn l=>(match b O l a with
   |some (p,r)=>.need p (.need (∀ h,l <+: h->h <+: hist O l a->O h=none->dn h) (.upd dx 0 (.dev O dn (hist O l a)) (.ret r)))|none=>.fail)
  |_,_=>.fail)
 |none=>.fail
theorem bBe{f:Nat}{hist:(jc->Option qj)->jc->jl->jc}{m:(jc->Option qj)->jc->jl->Option (Prop×PV)}(H:∀ args w,(YR f args).run P w=.ok (.enter f args) w)
  (hg:∀ O l k p r,m O l k=some (p,r)->p->zh P I f false [] O (some (l,hist O l k)) (fun h=>l <+: h/\h <+: hist O l k) k r):d_ P I f (aUw hist m):=by
 refine⟨H,fun A s a w t nm Q Z F h g hv c=>?_⟩;unfold aUw at c;cases T:GY Q with
 |none=>rw[T] at c;exact c.elim| some k=>
  rw[T] at c;obtain⟨gd,vr,ob,G,c⟩:=c;have X:=dD c;clear c;obtain⟨E,c⟩:=X
  cases J:bu vr 0<;>cases ob<;>simp only[J] at c<;>try exact c.elim
  rename_i O dn l;obtain rfl:=ig J;cases U:m O l k with
  |none=>rw[U] at c;exact c.elim| some q=>
   obtain⟨p,r⟩:=q;rw[U] at c;obtain⟨V,z,_,hF⟩:=c;obtain⟨hO,y,D⟩:=h.dev gd 0 O dn l G E;subst hO y;have i:∀ b,SX [] (fun _=>0) A.dv b->A.dv.S b:=by rintro b (h|⟨o,C,rfl⟩);exact h;cases C
   refine (hg A.dv.O l k p r U V w (aI A w t).ok Z (fun _=>0) A.dv (ownB A t)
    (fun L x=>g.mem L (h.iq.trans' x (fun _ _ h=>h) (fun b _ d=>g.sub b (i b d))))
    (
     fun b d=>by
     have j:=g.old b (g.sub b (i b d));refine⟨YX j.1 h.iq.size,fun W=>?_⟩;rcases W.1 with n|n;exact j.2 n
     omega)
    (g.step.mono fun K j n=>z K j.1 j.2 n) g.Ci rfl (fun p V=>by cases V;exact D) (fun h=>by cases h) (fun o C=>by cases C) (fun o C=>by cases C)
    (aAt aGm T hv)).mono ?_
   rintro e L ⟨x,⟨N,rfl,B,_,Y⟩|⟨u,K,rfl,j,n,h3⟩⟩;obtain⟨h4,h5⟩:=h.asked (w':=L) G E g.sub (fun b d=>g.old b (g.sub b d)) (x.mono fun b _ d=>i b d) (Y _ rfl);exact .inl ⟨r,_,N,t,rfl,hF,h4,B.le (xY h x.size)⟩;exact .inr ⟨u,rfl,K,z K j.1 j.2 n,n,g.Ci _ _ _ _ _ _ h3 (gu.refl _ _) (fun b d=>.inl d),h.iq.trans (x.mono fun b _ d=>g.sub b (i b d))⟩
def aKv(T:bi){d:Type}(a:jl->Option (Prop×aj d×(d->PV))):Spec:=aUw (fun O l b=>match a b with|some (_,p,_)=>(go O p l).2|none=>l) (fun O l b=>match a b with|some (c,p,f)=>some (OB O/\Zr T O/\c,f (go O p l).1)|none=>none)
theorem aSy{f:Nat}{T:bi}{i:Type}{a:jl->Option (Prop×aj i×(i->PV))}(d:∀ args w,(YR f args).run P w=.ok (.enter f args) w)
  (k:∀ b c p v,a b=some (c,p,v)->c->Oy P I T f p b v):d_ P I f (aKv T a):=by
 refine bBe d (fun O l b p r e g=>?_);cases h:a b with
 |none=>rw[h] at e;cases e|some q=>obtain⟨c,j,v⟩:=q;rw[h] at e;cases e;exact k b _ j v h g.2.2 O l g.1 g.2.1
def iI(T t:bi){d:Type}(a:dw->jl->Option (Prop×aj d×(d->PV))):Spec:=aSz t (fun O k l b=>match a l b with|some (_,p,_)=>(go O p k).2|none=>k) (fun O k l b=>match a l b with|some (c,p,f)=>some (OB O/\Zr T O/\c,f (go O p k).1)|none=>none)
theorem kM{f:Nat}{T t:bi}{i:Type}{a:dw->jl->Option (Prop×aj i×(i->PV))}(d:∀ args w,(YR f args).run P w=.ok (.enter f args) w)
  (m:∀ l b c p v,a l b=some (c,p,v)->c->wF P I T f t l p b v):d_ P I f (iI T t a):=by
 refine aZi d (fun O k l b p r e g=>?_);cases h:a l b with
 |none=>rw[h] at e;cases e|some q=>obtain⟨c,j,v⟩:=q;rw[h] at e;cases e;exact m l b _ j v h g.2.2 O k g.1 g.2.1
end
end Pv
section
section
variable {w w':ae} {v:ag} {ds:List (List UInt8)}
end
section
variable {P:dE}
end
end
theorem af.lt{w:ae}(h:af w):2<w.heap.size/\0<w.heap.size:=⟨lt_of_cell (h.k 0 _ rfl),lt_of_cell (h.h 0 _ rfl)⟩
theorem af.past{w0 w w':ae}{B:Nat}(h0:af w0)(a:w0.heap.size<=B)(h:af w)(hc:gu (fun k=>B<=k) w w'):af w':=h.iq hc (by have:=h0.lt;omega) (by have:=h0.lt;omega)
theorem aDK(fn:Fn)(first cap:kw)(w:ae):(Instr.makeFunc fn first cap).run prog w=.ok (.func fn first cap) w:=rfl



namespace Pv
theorem I4:ql=jk:=rfl
theorem JG{C:Ctx}{k:Nat}{b:dh}{cs:kw}(h:RL C [.bs k b] cs.toList):b.length=k/\cs=(b.map jk).toArray:=by obtain⟨d,c⟩:=h.Zq;exact⟨d,by apply Array.ext';simpa[I4] using c⟩
theorem J8{C:Ctx}{k:Nat}{b:dh}{v:ag}(h:RV C (.w (.agg [.bs k b])) v):b.length=k/\v=.agg (b.map jk).toArray:=by
 cases h with
 | w h=>cases h with
  |agg h=>obtain⟨d,c⟩:=JG h;exact⟨d,by rw[c]⟩
theorem aEi{C:Ctx}{b:dh}{k:Nat}(h:b.length=k):RV C (.w (.agg [.bs k b])) (.agg (b.map jk).toArray):=.w (.agg (by simpa[I4] using RL.cons (R.bs (C:=C) h) RL.nil))
def VD:Nat->(Nat->dw)->(List dh->M)->M
 |0,_,k=>k []|n+1,f,k=>VD n f fun l=>(match f n with
  |[c]=>Y5 (dm c) fun b=>k (l++[b])|_=>.fail)
def Hu(v:PV)(k:List dh->M):M:=match v with
 | .w (.one (.ow x b n d len))=>.obj x fun g e h=>jE g (match bu b e,bu n 1,bu d 0,h with
  |true,true,true,.arr _ m c f=>(match bu n m,bu len c with
   |true,true=>VD len f k|_,_=>.fail)
  |_,_,_,_=>.fail)
 |.w (.one (.lit (.slice none 0 0)))=>k []|_=>.fail
section
variable {A:lh} {s:St} {a:Act} {w:ae} {env:Env} {F:mi->PV->Wr->Prop}
theorem bBy(h:gy A s a w env){vs:ji}{f:Nat->dw}:∀ {n:Nat} {k:List dh->M},n<=vs.length->(∀ i,i<n->RL (aI A w env) (f i) ((vs.drop (i*1)).take 1))->(VD n f k).ok none s F ->
  ∃ g,g.length=n/\(∀ (i:Nat) (p:dh),g[i]?=some p->∃ u,vs[i]?=some u/\Reads w 1 u p.length (p.map jk))/\(k g).ok none s F
 |0,k,_,_,d=>⟨[],rfl,fun i p b=>by simp at b,d⟩| n+1,k,D,r,d=>by
  obtain⟨g,x,C,d⟩:=bBy h (n:=n) a_ (fun i t=>r i a_) d;split at d;rename_i c m;have o:=r n a_;rw[m] at o
  have y:(vs.drop (n*1)).take 1=[vs[n]]:=by
   apply YZ;intro q;rw[x8,YN,Nat.mul_one];cases q with
   |zero=>rw[au a_,ZA,zH a_];rfl|succ q=>rw[ay a_];simp
  rw[y] at o;obtain⟨l,B,d⟩:=vX h (.w (.one o.single)) d;refine⟨g++[l],by simp[x],fun i p b=>?_,d⟩;rcases Yk i n with z|j;rw[YW a_] at b;exact C i p b;rw[Ye a_] at b
  have t:i=n:=by rcases Nat.eq_or_lt_of_le j with e|e;exact e.symm;rw[YQ jr] at b;cases b
  subst t;rw[x,Yf] at b;cases b;exact⟨vs[i],zH _,B⟩;exact d.elim
theorem aRr(h:gy A s a w env){v:PV}{val:ag}(I:RV (aI A w env) v val){k:List dh->M}(b:(Hu v k).ok none s F):∃ q,Parts w val q/\(k q).ok none s F:=by
 unfold Hu at b;split at b
 ·rename_i x r n u len;obtain⟨g,N,O,C,b⟩:=b;have B:=dD b;clear b;obtain⟨P,b⟩:=B;obtain⟨T,D,y⟩:=jQ h C P
  cases K:bu r N<;>cases p:bu n 1<;>cases o:bu u 0<;>cases O<;>simp only[K,p,o] at b<;>try exact b.elim
  rename_i e m t f;obtain rfl:=ig K;obtain rfl:=ig p;obtain rfl:=ig o
  cases l:bu 1 m<;>cases j:bu len t<;>simp only[l,j] at b<;>try exact b.elim
  obtain rfl:=ig l;obtain rfl:=ig j;obtain⟨X,H,V,rfl,J,rfl⟩:=I.AY D;obtain⟨G,c,E⟩:=y;have i:=Reads.zk c;have z:H=len:=by obtain⟨_,W,U,S,_⟩:=i;cases S;rfl
  subst z;have d:=mY (off:=0) (m:=H) a_ i;rw[aAH,Yh,YY (by rw[c.1];omega)] at d;obtain⟨q,L,Q,b⟩:=bBy h (vs:=G) (by rw[c.1];omega) E b;exact⟨q,⟨G,by rw[c.1,L];omega,by rw[L,aAH];exact d,Q⟩,b⟩
 have:=I.h_;subst this;exact⟨[],Parts.nil w,b⟩;exact b.elim
end
def ja(n:Int):Prop := -9223372036854775808<=n/\n<9223372036854775808
def aYm:Spec:=fun b c=>match c with
 |[.w (.one (.lit (.int .i64 n)))]=>.need (ja n) (.new b (.arr 5 1 (eu n).length (su (eu n))) fun v=>.ret (dm (.ow b v 1 0 (eu n).length)))|_=>.fail
def aAx:Spec:=fun c d=>match d with
 |[.w (.one (.lit (.string b)))]=>.need (b.size<=1000000000) (.new c (.arr 5 1 (bH b.data.toList).length (su (bH b.data.toList))) fun v=>.ret (dm (.ow c v 1 0 (bH b.data.toList).length)))|_=>.fail
def aKe:Spec:=fun _ c=>match c with
 |[.w (.one (.lit (.int .i64 b))),d]=>Hu d fun pl=>.need (pl.length<=1000/\∀ p∈pl,p.length<=10000) (.ret (.w (.agg [.bs 16 (qU b pl)])))|_=>.fail
def aKf:Spec:=fun _ d=>match d with
 |[k,.w (.one (.lit (.string b))),e]=>Y5 k fun c=>Hu e fun pl=>.need (c.length<=10000/\b.size<=10000/\pl.length<=90/\∀ p∈pl,p.length<=10000) (.ret (.w (.agg [.bs 16 (nH c b.data.toList pl)])))|_=>.fail
def Ig:Spec:=fun _ e=>match e with
 |[k,b]=>Y5 k fun c=>Y5 b fun d=>.need (c.length<=1000000/\d.length<=1000000) (.ret (.w (.agg [.bs 16 (LG c d)])))|_=>.fail
theorem Wx:d_ prog af 107 aYm:=by
 refine⟨aB func107 ah rfl,fun A s a w env l k j F h y m b=>?_⟩;unfold aYm at b;split at b;rotate_left;exact b.elim;rename_i n;obtain⟨g,b⟩:=b
 match j,m with
 |[v],⟨u,_⟩=>obtain rfl:=RV.h_ (show RV _ _ _ from u);refine (wH n w g.1 g.2).mono ?_;rintro e x ⟨z,c,rfl,o,q⟩;obtain⟨d,t,r⟩:=h.B_ l 5 1 (eu n).length (f:=su (eu n)) q o (fun C i p=>nV C (eu n) i p);exact .inl ⟨_,_,_,d,rfl,b,t,r⟩
theorem QH:d_ prog af 24 aYm:=by
 refine⟨aB func24 ah rfl,fun A s a w env l k j F h y m b=>?_⟩;unfold aYm at b;split at b;rotate_left;exact b.elim;rename_i n;obtain⟨g,b⟩:=b
 match j,m with
 |[v],⟨u,_⟩=>obtain rfl:=RV.h_ (show RV _ _ _ from u);refine (aVr n w g.1 g.2).mono ?_;rintro e x ⟨z,c,rfl,o,q⟩;obtain⟨d,t,r⟩:=h.B_ l 5 1 (eu n).length (f:=su (eu n)) q o (fun C i p=>nV C (eu n) i p);exact .inl ⟨_,_,_,d,rfl,b,t,r⟩
theorem OD:d_ prog af 145 aAx:=by
 refine⟨aB func145 ah rfl,fun A s a w env l k j F h y m d=>?_⟩;unfold aAx at d;split at d;rotate_left;exact d.elim;rename_i b;obtain⟨o,d⟩:=d
 match j,m with
 |[v],⟨u,_⟩=>obtain rfl:=RV.h_ (show RV _ _ _ from u);refine (wI b w o).mono ?_;rintro e x ⟨z,c,rfl,n,q⟩;obtain⟨g,t,r⟩:=h.B_ l 5 1 (bH b.data.toList).length (f:=su (bH b.data.toList)) q n (fun C i p=>nV C _ i p);exact .inl ⟨_,_,_,g,rfl,d,t,r⟩
theorem bDv:d_ prog af 39 aAx:=by
 refine⟨aB func39 ah rfl,fun A s a w env l k j F h y m d=>?_⟩;unfold aAx at d;split at d;rotate_left;exact d.elim;rename_i b;obtain⟨o,d⟩:=d
 match j,m with
 |[v],⟨u,_⟩=>obtain rfl:=RV.h_ (show RV _ _ _ from u);refine (aZa b w o).mono ?_;rintro e x ⟨z,c,rfl,n,q⟩;obtain⟨g,t,r⟩:=h.B_ l 5 1 (bH b.data.toList).length (f:=su (bH b.data.toList)) q n (fun C i p=>nV C _ i p);exact .inl ⟨_,_,_,g,rfl,d,t,r⟩
theorem bHw:d_ prog af 176 aKe:=by
 refine⟨aB func176 ah rfl,fun A s a w env r f d F h j g b=>?_⟩;unfold aKe at b;split at b;rotate_left;exact b.elim;rename_i c q
 match d,g with
 |[v,pv],⟨m,l,_⟩=>obtain rfl:=RV.h_ (show RV _ _ _ from m);obtain⟨pl,i,b⟩:=aRr h l b;obtain⟨⟨o,n⟩,b⟩:=b;refine (bAn c pl pv w (j.mem w h.iq) i o n).mono ?_;rintro e p ⟨rfl,k⟩;exact .inl ⟨_,[],_,env,rfl,b,h.ext k,aEi (kD _ _)⟩
theorem bHy:d_ prog af 106 aKf:=by
 refine⟨aB func106 ah rfl,fun A s a w env C g f F h n l c=>?_⟩;unfold aKf at c;split at c;rotate_left;exact c.elim;rename_i k b B
 match f,l with
 |[i,v,pv],⟨r,q,p,_⟩=>obtain rfl:=RV.h_ (show RV _ _ _ from q);obtain⟨j,d,c⟩:=vX h r c;obtain⟨pl,m,c⟩:=aRr h p c;obtain⟨⟨y,x,u,t⟩,c⟩:=c;refine (aBq j i b pl pv w (n.mem w h.iq) d y x m u t).mono ?_;rintro e z ⟨rfl,o⟩;exact .inl ⟨_,[],_,env,rfl,c,h.ext o,aEi (jC _ _ _)⟩
theorem WS:d_ prog af 146 Ig:=by
 refine⟨aB func146 ah rfl,fun A s a w env z i g F h n m c=>?_⟩;unfold Ig at c;split at c;rotate_left;exact c.elim;rename_i k b
 match g,m with
 |[j,u],⟨q,p,_⟩=>obtain⟨l,d,c⟩:=vX h q c;obtain⟨x,f,c⟩:=vX h p c;obtain⟨⟨t,r⟩,c⟩:=c;refine (aTh l x j u w (n.mem w h.iq) d f t r).mono ?_;rintro e y ⟨rfl,o⟩;exact .inl ⟨_,[],_,env,rfl,c,h.ext o,aEi (rC _ _)⟩
theorem bG{P:dE}{I:je}{l:List (Nat×Spec)}(h:∀ p∈l,d_ P I p.1 p.2):aGz P I (find l):=by
 intro f i a
 induction l with
 |nil=>cases a|cons p l d=>by_cases c:p.1=f;obtain⟨g,b⟩:=p;subst c;rw[aF] at a;cases a;exact h _ MM;obtain⟨g,b⟩:=p;rw[aC _ _ c] at a;exact d (fun q e=>h q (VM _ e)) a
theorem dV:prog.follows .mixedOrders=true:=ah
theorem bJ:∀ w a,Ext w a->af w->af a:=fun _ _ h b=>b.ext h
theorem kX{a:Type} [Inhabited a] (n i:Nat) (g:Nat->a) (h:i<n) (d:a):((AC n).map g).getD i d=g i:=by rw[zG,XN,Zb h];rfl
def Dp(l:List Int):Nat->dw:=fun i=>[.lit (.int .i64 (l.getD i 0))]
def intOf:dw->Int
 |[.lit (.int _ n)]=>n|_=>0
def isInt:dw->Bool
 |[.lit (.int .i64 _)]=>true|_=>false
def V4(n:Nat)(f:Nat->dw):List Int:=(AC n).map fun i=>intOf (f i)
def aMr(n:Nat)(f:Nat->dw):Prop:=∀ i,i<n->isInt (f i)=true
theorem Lm{l:dw}(h:isInt l=true):l=[.lit (.int .i64 (intOf l))]:=by
 unfold isInt at h;split at h
 rfl;cases h
@[simp] theorem zS(n:Nat)(f:Nat->dw):(V4 n f).length=n:=by simp[V4]
theorem Lp{n:Nat}{f:Nat->dw}(h:aMr n f):∀ i,i<n->f i=Dp (V4 n f) i:=fun i a=>by unfold Dp V4;rw[kX n i _ a];exact Lm (h i a)
@[simp] theorem P9(n:Nat)(l:List Int):aMr n (Dp l):=fun _ _=>rfl
@[simp] theorem aSj(l:List Int):V4 l.length (Dp l)=l:=by apply Z9 b_;intro i b a;simp only[V4,ZU,ZI,Dp,intOf];rw[zG,zH a];rfl
theorem R.Ar{C:Ctx}{n len:Nat}{f f':Nat->dw}{xs:ji}(h:R C (.sl n len f) xs)(b:∀ i,i<len->f i=f' i):R C (.sl n len f') xs:=by
 cases h with
 |sl e d c=>exact .sl e d (fun i a=>by rw[<-b i a];exact c i a)
theorem fF.args{P:dE}{I:je}{f:Nat}{new:Bool}{args a:jl}{c:PV}(h:fF P I f new a c)(e:∀ C b,o5 C args b->o5 C a b):fF P I f new args c:=fun w d b i g=>h w d b i (e _ b g)
theorem fH(k:Nat)(h:k<9223372036854775807):IntKind.wrap .i64 ((k:Int)+1)=((k+1:Nat):Int):=by rw[TC];omega
theorem getD_mem{a:Type}{l:List a}{i:Nat}(h:i<l.length)(d:a):l.getD i d∈l:=by rw[zG,zH h];exact ZN h
theorem aDl{l:dw}(h:l.all (aY false)=true):∀ x∈l,aY false x=true:=fun x a=>List.all_eq_true.1 h x a
def bFs:List (Nat×Spec):=[(107,aYm),(24,aYm),(145,aAx),(39,aAx),(176,aKe),(106,aKf),(146,Ig)]
theorem aTj:∀ p∈bFs,d_ prog af p.1 p.2:=by intro p a;simp only[bFs,zg,YP,or_false] at a;rcases a with rfl|rfl|rfl|rfl|rfl|rfl|rfl;exact Wx;exact QH;exact OD;exact bDv;exact bHw;exact bHy;exact WS
theorem Ub:jq prog af (find bFs):=⟨bG aTj,dV⟩
end Pv
def term:Nat->List UInt8->Option Nat
 |0,_=>none|_+1,[]=>none|n+1,b::l=>if b.toNat<128 then some 0 else (term n l).map (·+1)
def m_:List UInt8->Nat
 |[]=>0|b::l=>b.toNat % 128+128*m_ l
def mW(u:Nat):Int:=if u % 2=0 then ((u / 2:Nat):Int) else -((u / 2:Nat):Int)-1
def di(b:List UInt8):Int×Nat×Int:=match term 10 b with
 |none=>(0,0,if b.length<10 then 6 else 7)|some k=>if m_ (b.take (k+1))<18446744073709551616/\(k=0\/b.getD k 0≠0) then (mW (m_ (b.take (k+1))),k+1,0) else (0,0,7)
def Oh:List UInt8->Prop
 |[]=>False|[b]=>b.toNat<128|b::l=>128<=b.toNat/\Oh l
def xO:List UInt8->Prop
 |[]=>False|[b]=>b≠0|_::b::l=>xO (b::l)
theorem bBk{u:Nat}:zig (mW u)=u:=by
 unfold zig mW
 split<;>split<;>omega
theorem aNg(n:Int):mW (zig n)=n:=by
 unfold zig mW
 split<;>split<;>omega
theorem xR{u:Nat}(h:u<18446744073709551616):-9223372036854775808<=mW u/\mW u<9223372036854775808:=by
 unfold mW
 split<;>omega
theorem kP{u:Nat}(h:u<256):(UInt8.ofNat u).toNat=u:=by simp;omega
theorem aNe:∀ (f u:Nat),u<128 ^ (f+1)->Oh (varint f u):=by
 intro f
 induction f with
 |zero=>intro u h;simp only[varint,Oh];rw[kP (by omega)];omega| succ f e=>
  intro u h;by_cases c:u<128;rw[iW c];simp only[Oh];rw[kP (by omega)];exact c;rw[mV c];have a:=e (u / 128) (by rw[aGM (by omega)];rw[aBG] at h;exact h);cases d:varint f (u / 128) with
  |nil=>rw[d] at a;exact a.elim|cons b l=>rw[d] at a;refine⟨?_,a⟩;rw[kP (by omega)];omega
theorem aEc:∀ (f u:Nat),u<128 ^ (f+1)->m_ (varint f u)=u:=by
 intro f
 induction f with
 |zero=>intro u h;simp only[varint,m_];rw[kP (by omega)];omega|succ f b=>intro u h;by_cases a:u<128;rw[iW a];simp only[m_];rw[kP (by omega)];omega;rw[mV a];have c:=b (u / 128) (by rw[aGM (by omega)];rw[aBG] at h;exact h);simp only[m_];rw[c,kP (by omega)];omega
theorem aOr:∀ (f u:Nat),u<128 ^ (f+1)->u≠0->xO (varint f u):=by
 intro f
 induction f with
 |zero=>intro u h d;simp only[varint,xO];intro e;have:=congrArg UInt8.toNat e;rw[kP (by omega)] at this;exact d this|succ f j=>
  intro u h d;by_cases i:u<128;rw[iW i];simp only[xO];intro e;have:=congrArg UInt8.toNat e;rw[kP (by omega)] at this;exact d this;rw[mV i];have c:u / 128<128 ^ (f+1):=by rw[aGM (by omega)];rw[aBG] at h;exact h
  have a:=j (u / 128) c (by omega);cases g:varint f (u / 128) with
  |nil=>rw[g] at a;exact a.elim|cons b l=>rw[g] at a;exact a
theorem aVc:∀ (l:List UInt8),Oh l->xO l->m_ l≠0
 |[],h,_=>h.elim|[b],h,k=>by
  simp only[m_];have d:b.toNat<128:=h;intro e;have a:b.toNat=0:=by omega
  exact k (UInt8.toNat_inj.1 (by rw[a];rfl))
 |b::c::l,h,k=>by have:=aVc (c::l) h.2 k;rw[m_];omega
theorem aEa:∀ (f:Nat) (l:List UInt8),Oh l->(l.length=1\/xO l)->l.length<=f+1->varint f (m_ l)=l
 |_,[],h,_,_=>h.elim|f,[b],h,_,_=>by
  have i:b.toNat<128:=h;have e:m_ [b]=b.toNat:=by simp only[m_];omega
  rw[e,iW i];simp
 |0,b::c::l,_,_,hl=>by simp at hl| f+1,b::c::l,h,k,hl=>by
  have a:xO (c::l):=by rcases k with k|k;simp at k;exact k
  have n:=aVc (c::l) h.2 a;have d:=aEa f (c::l) h.2 (.inr a) (by simpa using hl);have o:128<=b.toNat:=h.1;have g:=b.toNat_lt;have e:m_ (b::c::l)=b.toNat % 128+128*m_ (c::l):=rfl;rw[e,mV (by omega)];have m:(b.toNat % 128+128*m_ (c::l)) % 128=b.toNat % 128:=by omega
  have j:(b.toNat % 128+128*m_ (c::l)) / 128=m_ (c::l):=by omega
  rw[m,j,d];congr 1;rw[show 128+b.toNat % 128=b.toNat from by omega];simp
theorem qW:∀ (n:Nat) (b:List UInt8) (k:Nat),term n b=some k->Oh (b.take (k+1))/\k<n/\k<b.length
 |0,_,_,h=>by cases h|_+1,[],_,h=>by cases h| n+1,b::l,k,h=>by
  rw[term] at h;by_cases e:b.toNat<128;rw[if_pos e] at h;cases h;exact⟨by simpa[Oh] using e,by omega,by simp⟩;rw[if_neg e] at h;cases d:term n l with
  |none=>rw[d] at h;cases h|some j=>
   rw[d] at h;cases h;obtain⟨a,i,g⟩:=qW n l j d;refine⟨?_,(by show j+1<n+1;omega),(by show j+1<(b::l).length;simp;omega)⟩;rw[aGN];cases f:l.take (j+1) with
   |nil=>rw[f] at a;exact a.elim|cons c r=>rw[f] at a;exact⟨by omega,a⟩
theorem yZ:∀ (l r:List UInt8) (n:Nat),Oh l->l.length<=n->term n (l++r)=some (l.length-1)
 |[],_,_,h,_=>h.elim| [b],r,n,h,a=>by
  cases n with
  |zero=>simp at a|succ n=>have e:b.toNat<128:=h;simp[term,e]
 | b::c::l,r,n,h,a=>by
  cases n with
  |zero=>simp at a|succ n=>have f:128<=b.toNat:=h.1;have d:=yZ (c::l) r n h.2 (by simpa using a);rw[yz,term,if_neg (by omega),d];simp
theorem sH:∀ (l:List UInt8) (k:Nat),l.length=k+1->(xO l↔l.getD k 0≠0)
 |[],k,h=>by simp at h|[b],k,h=>by
  obtain rfl:k=0:=by simpa using h.symm
  simp[xO]
 |b::c::l,0,h=>by simp at h|b::c::l,k+1,h=>by have:=sH (c::l) k (by simpa using h);rw[aFD];exact this
theorem getD_take{l:List UInt8}{k n:Nat}(h:k<n):(l.take n).getD k 0=l.getD k 0:=by rw[zG,zG,x8,if_pos h]
theorem aRq{l:List UInt8}{k:Nat}(h:Oh l)(c:l.length=k+1)(g:k<10):eu (mW (m_ l % 18446744073709551616))=l↔(m_ l<18446744073709551616/\(k=0\/l.getD k 0≠0)):=by
 have b:m_ l % 18446744073709551616<128 ^ (9+1):=by have:m_ l % 18446744073709551616<18446744073709551616:=Nat.mod_lt _ (by omega);omega
 unfold eu;rw[bBk];constructor;intro e;have f:=aEc 9 _ b;rw[e] at f;refine⟨by omega,?_⟩;rcases ZP k with a|a;exact .inl a;refine .inr ((sH l k c).1 ?_);rw[<-e];refine aOr 9 _ b (fun i=>?_);rw[i] at e;rw[<-e] at c;simp[varint] at c;omega
 rintro⟨f,d⟩;rw[Yq f];refine aEa 9 l h ?_ (by omega);rcases d with d|d;exact .inl (by omega);exact .inr ((sH l k c).2 d)
theorem aPl{b:List UInt8}{k:Nat}(h:term 10 b=some k):di b=if m_ (b.take (k+1))<18446744073709551616/\(k=0\/b.getD k 0≠0) then (mW (m_ (b.take (k+1))),k+1,0) else (0,0,7):=by unfold di;rw[h]
theorem aHw{n:Int}(h1:-9223372036854775808<=n)(h2:n<9223372036854775808):Oh (eu n):=aNe 9 _ (by have:=aHs h1 h2;omega)
theorem qC(n:Int)(h1:-9223372036854775808<=n)(h2:n<9223372036854775808):0<(eu n).length:=by
 have:=aHw h1 h2;cases h:eu n with
 |nil=>rw[h] at this;exact this.elim|cons b l=>simp
theorem mF{n:Int}(r:List UInt8)(h1:-9223372036854775808<=n)(h2:n<9223372036854775808):di (eu n++r)=(n,(eu n).length,0):=by
 have b:=aHw h1 h2;have g:=aQ n;have i:=qC n h1 h2;have f:=yZ (eu n) r 10 b g;rw[aPl f];have e:(eu n++r).take ((eu n).length-1+1)=eu n:=by rw[show (eu n).length-1+1=(eu n).length from by omega,List.take_left]
 have d:=aHs h1 h2;have c:m_ (eu n)=zig n:=aEc 9 _ (by omega);have a:=(aRq b (k:=(eu n).length-1) (by omega) (by omega)).1 (by rw[c,Yq d,aNg]);have h:(eu n++r).getD ((eu n).length-1) 0=(eu n).getD ((eu n).length-1) 0:=by rw[zG,zG,YW (by omega)]
 rw[e,h,if_pos a,c,aNg];congr 2;omega
theorem bGm{b:List UInt8}{n:Int}{k:Nat}(h:di b=(n,k,0)):b.take k=eu n/\0<k/\k<=10/\k<=b.length /\ -9223372036854775808<=n/\n<9223372036854775808:=by
 unfold di at h;split at h
 ·split at h<;>simp at h
 rename_i j e;split at h;rename_i c;simp only[Prod.mk.injEq,and_true] at h;obtain⟨rfl,rfl⟩:=h;obtain⟨g,m,i⟩:=qW _ _ _ e;have f:(b.take (j+1)).length=j+1:=by rw[xe];omega
 have a:=c;rw[<-getD_take (l:=b) (show j<j+1 by omega)] at a;have:=(aRq g f (by omega)).2 a;rw[Yq c.1] at this;have d:=xR c.1;exact⟨this.symm,by omega,by omega,by omega,d.1,d.2⟩;simp at h
theorem bGn(b:List UInt8):(di b).2.2=0\/((di b).1=0/\(di b).2.1=0/\((di b).2.2=6\/(di b).2.2=7)):=by
 unfold di;split
 ·split<;>simp
 ·split<;>simp
theorem qQ(b:List UInt8):(di b).2.1<=b.length/\(di b).2.1<=10:=by
 unfold di;split
 ·split<;>simp
 ·rename_i j a;obtain⟨_,d,c⟩:=qW _ _ _ a
  split<;>simp<;>omega
theorem iR(b:List UInt8):-9223372036854775808<=(di b).1/\(di b).1<9223372036854775808:=by
 unfold di;split
 ·split<;>simp
 split;rename_i h;exact xR h.1;simp
def jL(b:List UInt8):List UInt8×Nat×Int:=
 if (di b).2.2≠0 then ([],0,(di b).2.2) else if (di b).1<0 then ([],0,7) else if (di b).1 > (b.length:Int)-(di b).2.1 then ([],0,6)
 else ((b.drop (di b).2.1).take (di b).1.toNat,(di b).2.1+(di b).1.toNat,0)
theorem vP(l r:List UInt8)(h:l.length<4611686018427387904):jL (bH l++r)=(l,(bH l).length,0):=by
 unfold jL bH;rw[Pi,mF (n:=(l.length:Int)) (l++r) (by omega) (by omega)];have a:¬((l.length:Int) > ((eu (l.length:Int)++(l++r)).length:Int)-((eu (l.length:Int)).length:Nat)):=by simp only[gp];omega
 dsimp only;rw[if_neg (by simp),if_neg (by omega),if_neg a,aFQ];simp
theorem ML{b c:List UInt8}{k:Nat}(h:jL b=(c,k,0)):b.take k=bH c/\k<=b.length:=by
 unfold jL at h;split at h;rename_i d;simp only[Prod.mk.injEq] at h;exact absurd h.2.2 d;rename_i d;split at h;simp at h;split at h;simp at h;rename_i n m;simp only[Prod.mk.injEq,and_true] at h;obtain⟨rfl,rfl⟩:=h
 have e:di b=((di b).1,(di b).2.1,0):=by
  have:(di b).2.2=0:=by simpa using d
  rw[<-this]
 obtain⟨f,l,j,i,_⟩:=bGm e;have g:(di b).1.toNat<=b.length-(di b).2.1:=by omega
 refine⟨?_,by omega⟩;unfold bH;have a:(((b.drop (di b).2.1).take (di b).1.toNat).length:Int)=(di b).1:=by rw[xe,YO];omega
 rw[a,<-f,List.take_add]
theorem bAa(b:List UInt8):(jL b).2.2=0\/((jL b).1=[]/\(jL b).2.1=0/\((jL b).2.2=6\/(jL b).2.2=7)):=by
 unfold jL;split;rename_i h;rcases bGn b with a|⟨_,_,a⟩;exact absurd a h;exact .inr ⟨rfl,rfl,a⟩
 ·split;simp
  ·split<;>simp
theorem MN(b:List UInt8):(jL b).2.1<=b.length:=by unfold jL;have:=(qQ b).1;split;simp;split;simp;split;simp;simp only;omega
theorem nD(b:List UInt8):(jL b).1.length<=b.length:=by unfold jL;split;simp;split;simp;split;simp;simp only[xe,YO];omega
theorem aRs(l m:List UInt8):m_ (l++m)=m_ l+128 ^ l.length*m_ m:=by
 induction l with
 |nil=>simp[m_]|cons b l a=>simp only[yz,m_,a,zl,aBG];rw[Nat.mul_add,<-Nat.mul_assoc,Nat.mul_comm 128 (128 ^ l.length)];omega
theorem bBz(l:List UInt8):m_ l<128 ^ l.length:=by
 induction l with
 |nil=>simp[m_]|cons b l a=>simp only[m_,zl,aBG];omega
theorem aNf{L:List UInt8}{k:Nat}(h:k<L.length):m_ (L.take (k+1))=m_ (L.take k)+128 ^ k*((L.getD k 0).toNat % 128):=by rw[List.take_add_one,zH h,Option.toList_some,aRs,xe,aAs (by omega),zG,zH h];simp[m_]
theorem nO(n:Nat):IntKind.u64.wrap (n:Int)=((n % 18446744073709551616:Nat):Int):=by rw[IntKind.wrap_u64];omega
theorem zY(n:Nat):(BitVec.ofInt 64 (n:Int)).toNat=n % 18446744073709551616:=by simp
theorem Jj{u a i:Nat}(h:u<2 ^ i):u ||| a*2 ^ i=u+a*2 ^ i:=by rw[Nat.or_comm,Nat.add_comm,<-Nat.shiftLeft_eq,Nat.shiftLeft_add_eq_or_of_lt h]
theorem Xt(c:UInt8):IntKind.u8.wrap ↑(BitVec.ofInt IntKind.u8.bits (c.toNat:Int) &&& BitVec.ofInt IntKind.u8.bits 127).toNat=((c.toNat % 128:Nat):Int):=by have a:=c.toNat_lt;have:=u8_and (c.toNat:Int) 127 (by omega) (by omega) (by omega) (by omega);refine (show _=bits .and .u8 (c.toNat:Int) 127 from rfl).trans (this.trans ?_);rw[WF,show (127:Int).toNat=2 ^ 7-1 from rfl,aGD]
theorem Q3{k u:Nat}(c:UInt8)(o:k<=9)(f:u<128 ^ k) :
  IntKind.u64.wrap ↑(BitVec.ofInt IntKind.u64.bits (u:Int) ||| BitVec.ofInt IntKind.u64.bits (IntKind.u64.wrap (IntKind.u64.wrap (IntKind.u8.wrap ↑(BitVec.ofInt IntKind.u8.bits (c.toNat:Int) &&& BitVec.ofInt IntKind.u8.bits 127).toNat)*2 ^ min (IntKind.i64.wrap (7*(k:Int))).toNat IntKind.u64.bits))).toNat =
   (((u+128 ^ k*(c.toNat % 128)) % 18446744073709551616:Nat):Int):=by
 have m:(IntKind.i64.wrap (7*(k:Int))).toNat=7*k:=by clear f;rw[TC,Int.emod_eq_of_lt (by omega) (by omega)];omega
 have e:IntKind.u64.bits=64:=rfl;rw[Xt,m,e,nO (c.toNat % 128),Yq (show c.toNat % 128<18446744073709551616 by omega),aAs (show 7*k<=64 by omega)];have l:((c.toNat % 128:Nat):Int)*2 ^ (7*k)=((c.toNat % 128*2 ^ (7*k):Nat):Int):=by simp
 rw[l,nO,nO,BitVec.toNat_or,zY,zY];have n:c.toNat % 128<128:=by omega
 generalize c.toNat % 128=x at *;have d:k=0\/k=1\/k=2\/k=3\/k=4\/k=5\/k=6\/k=7\/k=8\/k=9:=by omega
 congr 1
 have b:∀ i a,u<2 ^ i->a*2 ^ i<18446744073709551616-u->x*2 ^ (7*k) % 18446744073709551616=a*2 ^ i->(u+128 ^ k*x) % 18446744073709551616=u+a*2 ^ i ->
   (u % 18446744073709551616 ||| x*2 ^ (7*k) % 18446744073709551616 % 18446744073709551616) % 18446744073709551616=(u+128 ^ k*x) % 18446744073709551616:=by
  intro i a j p h g;rw[g,Nat.mod_mod,h,Yq (show u<18446744073709551616 by omega),Jj j,Yq (by omega)]
 rcases d with rfl|rfl|rfl|rfl|rfl|rfl|rfl|rfl|rfl|rfl;exact b 0 x (by omega) (by omega) (by omega) (by omega);exact b 7 x (by omega) (by omega) (by omega) (by omega);exact b 14 x (by omega) (by omega) (by omega) (by omega);exact b 21 x (by omega) (by omega) (by omega) (by omega);exact b 28 x (by omega) (by omega) (by omega) (by omega);exact b 35 x (by omega) (by omega) (by omega) (by omega);exact b 42 x (by omega) (by omega) (by omega) (by omega);exact b 49 x (by omega) (by omega) (by omega) (by omega);exact b 56 x (by omega) (by omega) (by omega) (by omega);exact b 63 (x % 2) (by omega) (by omega) (by omega) (by omega)
theorem Q8{u:Nat}(a:u<18446744073709551616):IntKind.i64.wrap ((u:Int).fdiv (2 ^ min (1:Int).toNat IntKind.u64.bits))=((u / 2:Nat):Int):=by
 rw[show (2:Int) ^ min (1:Int).toNat IntKind.u64.bits=2 from rfl,TC];have:(u:Int).fdiv 2=((u / 2:Nat):Int):=by rw[Int.fdiv_eq_ediv_of_nonneg _ (by omega)];omega
 rw[this];omega
theorem TZ(u:Nat)(b:u<18446744073709551616):IntKind.u64.wrap ↑(BitVec.ofInt IntKind.u64.bits (u:Int) &&& BitVec.ofInt IntKind.u64.bits 1).toNat=((u % 2:Nat):Int):=by have a:IntKind.u64.bits=64:=rfl;rw[a,BitVec.toNat_and,zY,show (1:Int)=((1:Nat):Int) from rfl,zY,nO,Yq b,show 1 % 18446744073709551616=2 ^ 1-1 from rfl,aGD];congr 1;omega
theorem aBJ{n:Nat}(hn:n<9223372036854775808):IntKind.i64.wrap ↑(BitVec.ofInt IntKind.i64.bits (if IntKind.i64.signed=true then -1 else IntKind.i64.max) ^^^ BitVec.ofInt IntKind.i64.bits (n:Int)).toNat = -(n:Int)-1:=by have a:IntKind.i64.bits=64:=rfl;have b:(if IntKind.i64.signed=true then -1 else IntKind.i64.max:Int) = -1:=rfl;rw[b,a,show BitVec.ofInt 64 (-1)=BitVec.allOnes 64 from by decide,BitVec.allOnes_xor,BitVec.toNat_not,zY,TC];omega
namespace Pv
abbrev r_(l:dh):PV:=dm (.sl 1 l.length (su l))
def yI(r:Int×Nat×Int):PV:=.og [.one (.lit (.int .i64 r.1)),.one (.lit (.int .i64 (r.2.1:Int))),.one (.lit (.int .i64 r.2.2))]
def aEE(L:dh)(k:Nat):St:=⟨[(0,none,r_ L),(5,none,o7 (.int .u64 ((m_ (L.take k) % 18446744073709551616:Nat):Int))),(13,none,dm (.sl 1 (min L.length 10) (su L))),(14,none,iy ((min L.length 10:Nat):Int)),(15,none,iy k)],[]⟩
def aED(L:dh)(k:Nat):St:=⟨[(0,none,r_ L),(5,none,o7 (.int .u64 ((m_ (L.take (k+1)) % 18446744073709551616:Nat):Int))),(6,none,iy k),(7,none,o7 (ql (L.getD k 0))),(13,none,dm (.sl 1 (min L.length 10) (su L))),(14,none,iy ((min L.length 10:Nat):Int)),(15,none,iy k)],[]⟩
theorem dQ{n:Int}(h1:-9223372036854775808<=n)(h2:n<9223372036854775808):IntKind.wrap .i64 n=n:=by rw[TC,Int.emod_eq_of_lt a_ a_];omega
theorem uK:∀ (n:Nat) (L:dh),(∀ i,i<min L.length n->128<=(L.getD i 0).toNat)->term n L=none
 |0,_,_=>rfl|_+1,[],_=>rfl| n+1,b::l,h=>by
  have a:=h 0 b_;rw[aGO] at a
  rw[term,ay a_,uK n l (fun i c=>by
   have:=h (i+1) jr
   rwa [aFD] at this)]
  rfl
theorem uJ:∀ (n:Nat) (L:dh) (k:Nat),(∀ i,i<k->128<=(L.getD i 0).toNat)->k<L.length->k<n->(L.getD k 0).toNat<128->term n L=some k
 |0,_,_,_,_,h,_=>a_|_+1,[],_,_,h,_,_=>by simp at h|n+1,b::l,0,_,_,_,h=>by rw[aGO] at h;rw[term,au h]| n+1,b::l,k+1,h,h1,h2,h3=>by
  have a:=h 0 a_;rw[aGO] at a;rw[aFD] at h3
  rw[term,ay a_,uJ n l k (fun i c=>by
   have:=h (i+1) a_
   rwa [aFD] at this) (by simpa using h1) a_ h3]
  rfl
theorem aIu(L:dh)(N:L.length<4611686018427387904):fF prog af 138 true [r_ L] (yI (di L)):=by
 have M:=Ub;refine bD func138 rfl rfl bJ (fun A K I O=>?_);refine aN ?_;refine nZ ?_;refine aH ?_ ?_;simp;omega;refine aS ?_;refine bM (aEE L 0) ?_ ?_ ?_;refine .cr (.cr (.cons ?_ (.cons ?_ ((iP _)))));have e:(min (L.length:Int) 10-0).toNat=min L.length 10:=a_;exact congrArg dm (by rw[e];congr 1;funext i;simp);exact congrArg iy a_;exact .nil;refine fJ (min L.length 10) (fun k s=>s=aEE L k/\∀ i,i<k->128<=(L.getD i 0).toNat) 0 ⟨rfl,fun i x=>a_⟩ a_ (fun k s G J=>?_);obtain⟨rfl,g⟩:=G;refine nZ ?_;refine dU (fun b=>?_) (fun b=>?_)
 ·have j:k<L.length/\k<10:=by
   have:(k:Int)<((min L.length 10:Nat):Int):=by simpa using b
   omega
  refine jM ?_;refine aS ?_;refine aH ?_ ?_;simp;omega;refine aH ?_ ?_;simp;rw[dQ a_ a_];omega;refine bM (aED L k) ?_ ?_ ?_;refine .cr (.cons ?_ ((iP _)));refine congrArg (fun n=>o7 (.int .u64 n)) ?_;have r:=bBz (L.take k);rw[xe,aAs a_] at r;have C:(128:Nat) ^ k<=128 ^ 9:=Nat.pow_le_pow_right a_ a_;rw[Yq (show m_ (L.take k)<18446744073709551616 by omega),WF];refine (Q3 _ a_ r).trans ?_;rw[aNf j.1];exact .nil;refine bC (fun b=>?_) (fun b=>?_);refine dY ?_;change jw _ _ _ _ _;refine fP ?_;intro a w F;refine⟨k+1,_,a_,a_,⟨rfl,?_⟩,(F.reset (kT:=[0,5,13,14,15]) (kO:=[]) ai b_).same ?_ ?_⟩;intro i x;rcases aAX (aGP x) with h|rfl;exact g i h
  have:((L.getD i 0).toNat:Int)>=128:=by simpa using b
  omega;exact .cr (.cr (.cr (.cr (.cons (by rw[fH k a_]) .nil))));exact .nil
  ·have p:(L.getD k 0).toNat<128:=by
    have:¬((L.getD k 0).toNat:Int)>=128:=by simpa using b
    omega
   have t:=uJ 10 L k g j.1 j.2 p;have l:=aPl t
   have f:m_ (L.take (k+1))<18446744073709551616↔(k=9->(L.getD k 0).toNat<=1):=by
    have r:=bBz (L.take k);rw[xe,aAs a_] at r;rw[aNf j.1,Yq p];rcases Yk k 9 with C|C
    ·have H:(128:Nat) ^ k<=128 ^ 8:=Nat.pow_le_pow_right a_ a_;have:128 ^ k*(L.getD k 0).toNat<=128 ^ 8*127:=Nat.mul_le_mul H a_
     constructor<;>intro<;>omega
    ·obtain rfl:k=9:=a_
     constructor<;>intro<;>omega
   have z:(L.getD k 0=0)↔(L.getD k 0).toNat=0:=by rw[<-UInt8.toNat_inj];rfl
   refine jM ?_;refine aH ?_ ?_;simp;generalize (L[k]?.getD 0).toNat=c;omega;refine dU (fun b=>?_) (fun b=>?_);have o:¬(m_ (L.take (k+1))<18446744073709551616/\(k=0\/L.getD k 0≠0)):=by rw[f,ne_eq,z];simp only[Bool.cond_eq_ite,Bool.if_true_left,ww,Bool.or_eq_true,decide_eq_true_eq,beq_iff_eq,Bool.if_false_right] at b;omega
   refine eQ ?_;rw[l,ay o];rfl;have d:m_ (L.take (k+1))<18446744073709551616/\(k=0\/L.getD k 0≠0):=by rw[f,ne_eq,z];simp only[Bool.cond_eq_ite,Bool.if_true_left,Bool.and_eq_false_iff,Bool.or_eq_false_iff,decide_eq_false_iff_not,Bool.if_false_right] at b;simp only[ww,decide_eq_true_eq,beq_iff_eq] at b;omega
   have u:=Yq d.1;have m:=Q8 d.1;have q:=TZ _ d.1;refine iK ?_;refine bC (fun b=>?_) (fun b=>?_);refine oQ ?_;refine eQ ?_;rw[u,q] at b;have D:=aBJ (n:=m_ (L.take (k+1)) / 2) a_
   have B:m_ (L.take (k+1)) % 2=1:=by
    have:((m_ (L.take (k+1)) % 2:Nat):Int)=1:=by simpa using b
    omega
   rw[l,au d,u,m,D,fH k a_];unfold mW yI;rw[ay a_];refine iK ?_;refine kJ ?_;rw[u,q] at b
   have y:m_ (L.take (k+1)) % 2=0:=by
    have:¬((m_ (L.take (k+1)) % 2:Nat):Int)=1:=by simpa using b
    omega
   rw[l,au d,u,m,fH k a_];unfold mW yI;rw[au y]
 have E:k=min L.length 10:=by
  have:¬(k:Int)<((min L.length 10:Nat):Int):=by simpa using b
  omega
 have t:=uK 10 L (fun i x=>g i a_);refine dY ?_;change jw _ _ _ _ _;refine bC (fun b=>?_) (fun b=>?_);refine eQ ?_;have:(L.length:Int)<10:=by simpa using b
 unfold di;rw[t];dsimp only;rw[au a_];rfl;refine iK ?_;refine kJ ?_;have:¬(L.length:Int)<10:=by simpa using b
 unfold di;rw[t];dsimp only;rw[ay a_];rfl
theorem bIs{len:Nat}{f:Nat->dw}(h:FX len f):∀ i,i<len->f i=su (rowB len f) i:=fun i a=>by unfold su rowB;rw[kX len i _ a];exact aPe (h i a)
theorem QG{C:Ctx}{len:Nat}{f:Nat->dw}{x:ag}(h:FX len f)(a:RV C (dm (.sl 1 len f)) x):RV C (r_ (rowB len f)) x:=by refine .w (.one ?_);rw[dZ];exact (a.inv).Ar (bIs h)
theorem JE{C:Ctx}{x:ag}(a:RV C (dm (.lit (.slice none 0 0))) x):RV C (r_ []) x:=by have:=a.h_;subst this;exact .w (.one (.sl (Reads.nil _ _) (fun g c=>by simp[Value.ownBlock] at c) (fun i b=>by simp at b)))
def FY:PV->Option (Prop×dh)
 |.w (.one (.sl n len f))=>(match bu n 1 with
  |true=>some (FX len f,rowB len f)|false=>none)
 |.w (.one (.lit (.slice none 0 0)))=>some (True,[])|_=>none
theorem wR{C:Ctx}{v:PV}{p:Prop}{l:dh}{x:ag}(h:FY v=some (p,l))(c:p)(a:RV C v x):RV C (r_ l) x:=by
 unfold FY at h;split at h
 ·rename_i n len f
  cases b:bu n 1<;>rw[b] at h<;>cases h
  obtain rfl:=ig b;exact QG c a
 cases h;exact JE a;cases h
def Uw(pre:dh->Prop)(a:dh->PV):Spec:=aU true fun b=>match b with
 |[v]=>(match FY v with
  |some (p,l)=>some (p/\pre l,a l)|none=>none)
 |_=>none
theorem rW{f:Nat}{pre:dh->Prop}{b:dh->PV}(c:∀ args w,(YR f args).run prog w=.ok (.enter f args) w)(h:∀ l,pre l->fF prog af f true [r_ l] (b l)):d_ prog af f (Uw pre b):=by
 refine aT c (fun k p r a e=>?_);split at a;rename_i v;cases d:FY v with
 |none=>rw[d] at a;cases a| some q=>
  obtain⟨m,l⟩:=q;rw[d] at a;cases a
  exact (h l e.2).args fun C g i=>by
   match g,i with
   |[x],⟨j,_⟩=>exact⟨wR d e.1 j,trivial⟩
 cases a
def jO(l:dh):Prop:=l.length<4611686018427387904
def Ba(l:dh):Int×Nat×Int:=((di l).1,(di l).2.1,if (di l).2.2≠0 then (di l).2.2 else if (di l).1<0 then 7 else if (di l).1 > (l.length:Int)-(di l).2.1 then 6 else 0)
def Eo(r:dh×Nat×Int):PV:=.og [.one (.lit (.string (strOf r.1))),.one (.lit (.int .i64 (r.2.1:Int))),.one (.lit (.int .i64 r.2.2))]
theorem nR{L:dh}{k m:Nat}(h:k+m<=L.length):rowB m (fun i=>su L (k+i))=(L.drop k).take m:=by apply Z9;rw[dZ,xe,YO];omega;intro i a b;rw[dZ] at a;simp only[rowB,ZU,ZI,aJm,List.getElem_take,List.getElem_drop];rw[zG,zH a_];rfl
theorem OE(L:dh)(k:Nat):(fun i=>su L (k+i))=su (L.drop k):=by funext i;unfold su;rw[zG,zG,YN]
@[simp] theorem Ud(n k:Nat)(L:dh):FX n (fun i=>su L (k+i)):=fun _ _=>aIs L _
def XV:List (Nat×Spec):=(138,Uw jO fun l=>yI (di l))::bFs
theorem Nw:∀ p∈XV,d_ prog af p.1 p.2:=by intro p a;rcases List.mem_cons.1 a with rfl|a;exact rW (aB func138 ah rfl) aIu;exact aTj p a
theorem aNE:jq prog af (find XV):=⟨bG Nw,dV⟩
theorem bIh(L:dh)(h:jO L):fF prog af 168 true [r_ L,iy 1] (yI (Ba L)):=by
 have M:=aNE;have j:=qQ L;have i:=iR L;have l:L.length<4611686018427387904:=h;refine bD func168 rfl rfl bJ (fun A o m p=>?_);refine bY ?_ ?_;simp[h];refine bM (⟨[(0,none,r_ L),(1,none,iy 1),(4,none,iy (di L).1),(5,none,iy ((di L).2.1:Int)),(6,none,iy (di L).2.2)],[]⟩) ?_ ?_ ?_;rw[eF];exact jg;exact .nil;unfold Ba;generalize di L=g at *;obtain⟨n,k,e⟩:=g;dsimp only at *;refine bCe ?_;refine lQ (fun a=>?_) (fun a=>?_);have f:e≠0:=by simpa using a
 refine iK ?_;refine kJ ?_;unfold yI;rw[au f];have f:e=0:=by simpa using a
 subst f;refine lQ (fun a=>?_) (fun a=>?_);have b:n<0:=by simpa using a
 refine oQ ?_;refine eQ ?_;unfold yI;rw[ay b_,au b];have b:¬n<0:=by simpa using a
 refine lQ (fun a=>?_) (fun a=>?_);have c:n > (L.length:Int)-k:=by have d:IntKind.wrap .i64 ((L.length:Int)-k)=(L.length:Int)-k:=dQ a_ a_;rw[d,Int.tdiv_one,d] at a;simpa using a
 refine oQ ?_;refine eQ ?_;unfold yI;rw[ay b_,ay b,au c];have c:¬n > (L.length:Int)-k:=by have d:IntKind.wrap .i64 ((L.length:Int)-k)=(L.length:Int)-k:=dQ a_ a_;rw[d,Int.tdiv_one,d] at a;simpa using a
 refine iK ?_;refine kJ ?_;unfold yI;rw[ay b_,ay b,ay c]
def bCt:Spec:=aU true fun a=>match a with
 |[v,.w (.one (.lit (.int .i64 1)))]=>(match FY v with
  |some (p,l)=>some (p/\jO l,yI (Ba l))|none=>none)
 |_=>none
theorem O4:d_ prog af 168 bCt:=by
 refine aT (aB func168 ah rfl) (fun h p r a c=>?_);split at a;rename_i v;cases b:FY v with
 |none=>rw[b] at a;cases a| some q=>
  obtain⟨i,l⟩:=q;rw[b] at a;cases a
  exact (bIh l c.2).args fun C d e=>by
   match d,e with
   |[x,y],⟨g,f,_⟩=>exact⟨wR b c.1 g,f,trivial⟩
 cases a
def XU:List (Nat×Spec):=(168,bCt)::XV
theorem Nv:∀ p∈XU,d_ prog af p.1 p.2:=by intro p a;rcases List.mem_cons.1 a with rfl|a;exact O4;exact Nw p a
theorem XX:jq prog af (find XU):=⟨bG Nv,dV⟩
theorem aQq(L:dh):(Ba L).2.2=0->(di L).2.2=0/\0<=(di L).1/\(di L).1<=(L.length:Int)-(di L).2.1:=by unfold Ba;dsimp only;split;rename_i h;intro a;exact absurd a h;rename_i h;split;intro a;cases a;split;intro a;cases a;intro _;exact⟨by simpa using h,a_,a_⟩
theorem aPn(L:dh):jL L=if (Ba L).2.2≠0 then ([],0,(Ba L).2.2) else ((L.drop (di L).2.1).take (di L).1.toNat,(di L).2.1+(di L).1.toNat,0):=by
 unfold jL Ba;dsimp only;by_cases h:(di L).2.2=0;by_cases a:(di L).1<0;simp[h,a];by_cases b:(di L).1 > (L.length:Int)-(di L).2.1;have e:(if (di L).2.2≠0 then (di L).2.2 else if (di L).1<0 then (7:Int) else if (di L).1 > (L.length:Int)-(di L).2.1 then 6 else 0)=6:=by rw[ay (by simp[h]),ay a,au b]
 rw[e,ay (by simp[h]),ay a,au b,au g_];have e:(if (di L).2.2≠0 then (di L).2.2 else if (di L).1<0 then (7:Int) else if (di L).1 > (L.length:Int)-(di L).2.1 then 6 else 0)=0:=by rw[ay (by simp[h]),ay a,ay b]
 rw[e,ay (by simp[h]),ay a,ay b,ay g_];rw[au h,au h,au h]
theorem aCh(L:dh)(d:jO L):fF prog af 139 true [r_ L] (Eo (jL L)):=by
 have M:=XX;have l:=qQ L;have h:=iR L;have m:L.length<4611686018427387904:=d;refine bD func139 rfl rfl bJ (fun A q p r=>?_);refine bY ?_ ?_;simp[d];refine bM (⟨[(0,none,r_ L),(5,none,iy (di L).1),(6,none,iy ((di L).2.1:Int)),(7,none,iy (Ba L).2.2)],[]⟩) ?_ ?_ ?_;rw[eF];exact jg;exact .nil;have b:=aQq L;rw[aPn L];generalize (Ba L).2.2=e at *;generalize di L=g at *;obtain⟨n,k,s⟩:=g;dsimp only at *;refine bC (fun c=>?_) (fun c=>?_);have a:e≠0:=by simpa using c
 refine eQ ?_;rw[au a];rfl;have a:e=0:=by simpa using c
 subst a;obtain⟨_,j,i⟩:=b rfl;have f:IntKind.wrap .i64 ((k:Int)+n)=((k+n.toNat:Nat):Int):=by rw[dQ a_ a_];omega
 refine qM ?_ ?_;simp;rw[f];omega;refine kJ ?_;rw[ay b_,f];have o:(((k+n.toNat:Nat):Int)-(k:Int)).toNat=n.toNat:=a_;unfold Eo;rw[o,WF,nR a_];rfl
def ku(L:dh):Nat:=match term 10 L with
 |none=>0|some k=>k+1
def aDV(L:dh)(k:Nat):St:=⟨[(0,none,r_ L),(3,none,iy k)],[]⟩
theorem aSl(L:dh)(_:jO L):fF prog af 181 true [r_ L] (iy (ku L)):=by
 have M:=XX;refine bD func181 rfl rfl bJ (fun A r p u=>?_);refine aN ?_;refine lM ?_;refine aHz (aDV L 0) ?_;refine aS ?_;refine fJ (min L.length 10) (fun k s=>s=aDV L k/\∀ i,i<k->128<=(L.getD i 0).toNat) 0 ⟨rfl,fun i g=>a_⟩ a_ (fun k s n q=>?_);obtain⟨rfl,b⟩:=n;refine bC (fun c=>?_) (fun c=>?_)
 have d:k<L.length/\k<10:=by
  have o:(k:Int)<(L.length:Int)/\(k:Int)<10:=by simpa using c
  omega
 refine jM ?_;refine aS ?_;refine aH ?_ ?_;simp;omega;refine dU (fun c=>?_) (fun c=>?_)
 have f:(L.getD k 0).toNat<128:=by
  have:((L.getD k 0).toNat:Int)<128:=by simpa using c
  omega
 have e:=uJ 10 L k b d.1 d.2 f;refine eQ ?_;unfold ku;rw[e,fH k a_]
 have j:128<=(L.getD k 0).toNat:=by
  have:¬((L.getD k 0).toNat:Int)<128:=by simpa using c
  omega
 refine jD ?_;refine fP ?_;intro a w m;refine⟨k+1,_,a_,a_,⟨rfl,fun i g=>?_⟩,(m.reset (kT:=[0,3]) (kO:=[]) ai b_).same ?_ ?_⟩;rcases aAX (aGP g) with h|rfl;exact b i h;exact j;exact .cr (.cons (by rw[fH k a_]) .nil);exact .nil
 have l:k=min L.length 10:=by
  have o:¬((k:Int)<(L.length:Int)/\(k:Int)<10):=by simpa using c
  omega
 have e:=uK 10 L (fun i g=>b i a_);refine dY ?_;change jw _ _ _ _ _;refine eQ ?_;unfold ku;rw[e];rfl
def aCC(X Y:dh)(k:Nat):St:=⟨[(0,none,r_ X),(1,none,r_ Y),(5,none,iy k)],[]⟩
theorem bAk{X Y:dh}(hl:X.length=Y.length)(h:∀ i,i<X.length->X.getD i 0=Y.getD i 0):X=Y:=by apply Z9 hl;intro i a b;have:=h i a;rw[zG,zG,zH a,zH b] at this;exact this
theorem bDf(X Y:dh)(p:jO X):fF prog af 182 true [r_ X,r_ Y] (rf (X==Y)):=by
 have M:=XX;have o:X.length<4611686018427387904:=p;refine bD func182 rfl rfl bJ (fun A u r x=>?_);refine aN ?_;refine bC (fun b=>?_) (fun b=>?_)
 have c:X≠Y:=by
  have:¬(X.length:Int)=Y.length:=by simpa using b
  intro e;subst e;exact this rfl
 refine eQ ?_;rw[beq_eq_false_iff_ne.2 c]
 have j:X.length=Y.length:=by
  have:(X.length:Int)=Y.length:=by simpa using b
  omega
 refine jM ?_;refine aN ?_;refine aHz (aCC X Y 0) ?_;refine aS ?_;refine fJ X.length (fun k s=>s=aCC X Y k/\∀ i,i<k->X.getD i 0=Y.getD i 0) 0 ⟨rfl,fun i f=>a_⟩ a_ (fun k s q t=>?_);obtain⟨rfl,d⟩:=q;refine bC (fun b=>?_) (fun b=>?_);have m:k<X.length:=by simpa using b
 refine jM ?_;refine aS ?_;refine aH ?_ ?_;simp;omega;refine dU (fun b=>?_) (fun b=>?_);have c:X≠Y:=by intro e;subst e;simp at b
 refine eQ ?_;rw[beq_eq_false_iff_ne.2 c]
 have g:X.getD k 0=Y.getD k 0:=by
  have:((X.getD k 0).toNat:Int)=(Y.getD k 0).toNat:=by simpa using b
  exact UInt8.toNat_inj.1 a_
 refine jD ?_;refine fP ?_;intro a w n;refine⟨k+1,_,a_,a_,⟨rfl,fun i f=>?_⟩,(n.reset (kT:=[0,1,5]) (kO:=[]) ai b_).same ?_ ?_⟩;rcases aAX (aGP f) with h|rfl;exact d i h;exact g;exact .cr (.cr (.cons (by rw[fH k a_]) .nil));exact .nil
 have l:k=X.length:=by
  have:¬k<X.length:=by simpa using b
  omega
 have g:=bAk j (fun i f=>d i a_);refine dY ?_;change jw _ _ _ _ _;refine eQ ?_;subst g;simp
def Ie:Spec:=aU true fun a=>match a with
 |[v,u]=>(match FY v,FY u with
  |some (p,l),some (q,m)=>some (p/\q/\jO l,rf (l==m))|_,_=>none)
 |_=>none
theorem JD:d_ prog af 182 Ie:=by
 refine aT (aB func182 ah rfl) (fun i p r b c=>?_);split at b
 ·rename_i v u
  cases d:FY v<;>cases a:FY u<;>simp only[d,a] at b<;>try (cases b;done)
  cases b
  exact (bDf _ _ c.2.2).args fun C e f=>by
   match e,f with
   |[x,y],⟨h,g,_⟩=>exact⟨wR d c.1 h,wR a c.2.1 g,trivial⟩
 cases b
def TB:List (Nat×Spec):=(181,Uw jO fun l=>iy (ku l))::(182,Ie)::XU
theorem Nu:∀ p∈TB,d_ prog af p.1 p.2:=by intro p a;simp only[TB,zg] at a;rcases a with rfl|rfl|a;exact rW (aB func181 ah rfl) aSl;exact JD;exact Nv p a
theorem aND:jq prog af (find TB):=⟨bG Nu,dV⟩
theorem Rf(L:dh):ku L<=L.length/\ku L<=10:=by
 unfold ku;cases h:term 10 L with
 |none=>simp|some k=>obtain⟨_,b,a⟩:=qW _ _ _ h;dsimp only;omega
theorem aWr(L:dh):di L=if ku L=0 then (0,0,if L.length<10 then 6 else 7) else if eu (mW (m_ (L.take (ku L)) % 18446744073709551616))=L.take (ku L) then (mW (m_ (L.take (ku L)) % 18446744073709551616),ku L,0) else (0,0,7):=by
 unfold di ku;cases h:term 10 L with
 |none=>rfl|some k=>
  obtain⟨f,d,g⟩:=qW _ _ _ h;dsimp only;rw[ay (show ¬k+1=0 by omega)];have c:(L.take (k+1)).length=k+1:=by rw[xe];omega
  have a:=aRq f c d;rw[getD_take a_] at a;by_cases b:m_ (L.take (k+1))<18446744073709551616/\(k=0\/L.getD k 0≠0);rw[au b,au (a.2 b),Yq b.1];rw[ay b,ay (fun e=>b (a.1 e))]
theorem I7(u c:Nat):IntKind.wrap .u64 (IntKind.wrap .u64 (128*(u:Int))+IntKind.wrap .u64 ((c:Int).tmod 128))=(((c % 128+128*u) % 18446744073709551616:Nat):Int):=by
 have e:(c:Int).tmod 128=((c % 128:Nat):Int):=by rw[aCo a_];omega
 rw[e,show (128:Int)*(u:Int)=((128*u:Nat):Int) from a_,nO,nO,<-Int.natCast_add,nO];congr 1;omega
theorem bCa{l:dh}{k:Nat}(h:k<l.length):m_ (l.drop k)=(l.getD k 0).toNat % 128+128*m_ (l.drop (k+1)):=by rw[List.drop_eq_getElem_cons h,zG,zH h];rfl
def EZ(L:dh)(r:Nat):Nat:=m_ ((L.take (ku L)).drop (ku L-r)) % 18446744073709551616
def aCN(L:dh)(r:Nat):St:=⟨[(0,none,r_ L),(5,none,iy (ku L)),(6,none,o7 (.int .u64 (EZ L r:Int))),(7,none,iy ((ku L:Int)-1-r))],[]⟩
theorem aSm(L:dh)(C:jO L):fF prog af 151 true [r_ L] (yI (di L)):=by
 have M:=aND;have O:L.length<4611686018427387904:=C;have F:=Rf L;refine bD func151 rfl rfl bJ (fun A V E Q=>?_);refine bY ?_ ?_;simp[C];refine bM (⟨[(0,none,r_ L),(5,none,iy (ku L))],[]⟩) ?_ ?_ ?_;rw[eF];exact jg;exact .nil;refine bC (fun b=>?_) (fun b=>?_)
 have t:ku L=0/\L.length<10:=by
  have:((ku L:Nat):Int)=0/\(L.length:Int)<10:=by simpa using b
  omega
 refine eQ ?_;rw[aWr,au t.1,au t.2];rfl;have t:¬(ku L=0/\L.length<10):=by intro h;simp[h.1] at b;omega
 refine iK ?_;refine lM ?_;refine bM (aCN L 0) ?_ ?_ ?_;refine .cr (.cr (.cons ?_ (.cons ?_ .nil)));unfold EZ;rw[Nat.sub_zero,aAE (by rw[xe];omega)];rfl;exact congrArg iy (by rw[dQ a_ a_];omega);exact .nil;refine aS ?_;refine fJ (ku L) (fun k s=>s=aCN L k) 0 rfl a_ (fun k s P S=>?_);subst P;refine bC (fun b=>?_) (fun b=>?_)
 have G:k<ku L:=by
  have:((ku L:Nat):Int)-1-k>=0:=by simpa using b
  omega
 refine jM ?_;refine aS ?_;refine aX M Q E (ai) ah ?_ ?_;simp;omega;change jw _ _ _ _ _;refine fP ?_;intro a w J;refine⟨k+1,_,a_,a_,rfl,(J.reset (kT:=[0,5,6,7]) (kO:=[]) ai b_).same ?_ ?_⟩;refine .cr (.cr (.cons ?_ (.cons ?_ .nil)));refine congrArg (fun n=>o7 (.int .u64 n)) ?_;rw[show ((ku L:Nat):Int)-1-k=((ku L-1-k:Nat):Int) from a_,WF,I7];unfold EZ;have c:=bCa (l:=L.take (ku L)) (k:=ku L-1-k) (by rw[xe];omega);rw[getD_take a_,show ku L-1-k+1=ku L-k from a_] at c;rw[show ku L-(k+1)=ku L-1-k from a_,c];congr 1;omega;exact congrArg iy (by rw[dQ a_ a_];omega);exact .nil
 have z:k=ku L:=by
  have:¬((ku L:Nat):Int)-1-k>=0:=by simpa using b
  omega
 subst z;have D:EZ L (ku L)=m_ (L.take (ku L)) % 18446744073709551616:=by unfold EZ;rw[Yf,Yh]
 have y:EZ L (ku L)<18446744073709551616:=Nat.mod_lt _ a_;have p:=xR y;refine dY ?_;change jw _ _ _ _ _;refine aN ?_
 have I:IntKind.wrap .i64 (IntKind.wrap .u64 (((EZ L (ku L):Nat):Int).tdiv 2))=((EZ L (ku L) / 2:Nat):Int):=by
  have e:((EZ L (ku L):Nat):Int).tdiv 2=((EZ L (ku L) / 2:Nat):Int):=by rw[Int.tdiv_eq_ediv_of_nonneg a_];omega
  rw[e,nO,Yq a_,dQ a_ a_]
 refine bM (⟨[(0,none,r_ L),(5,none,iy (ku L)),(6,none,o7 (.int .u64 (EZ L (ku L):Int))),(8,none,iy ((EZ L (ku L) / 2:Nat):Int))],[]⟩) ?_ ?_ ?_;exact .cr (.cr (.cr (.cons (congrArg iy I) .nil)));exact .nil;have q:((EZ L (ku L):Nat):Int).tmod 2=((EZ L (ku L) % 2:Nat):Int):=by rw[aCo a_];omega
 have d:=aWr L;rw[<-D] at d;generalize T:EZ L (ku L)=U at *;have r:ja (mW U):=p;have N:=aQ (mW U);have g:(rowB (eu (mW U)).length fun i=>su (eu (mW U)) (0+i))=eu (mW U):=by rw[nR a_,Yh,List.take_length]
 have f:(rowB (((ku L:Nat):Int)-0).toNat fun i=>su L (Int.toNat 0+i))=L.take (ku L):=by rw[show (((ku L:Nat):Int)-0).toNat=ku L from a_];exact (nR (L:=L) (k:=0) (m:=ku L) a_).trans (by rw[Yh])
 refine bC (fun b=>?_) (fun b=>?_)
 have o:IntKind.wrap .i64 (IntKind.wrap .i64 (0-((U / 2:Nat):Int))-1)=mW U:=by
  rw[q] at b;have B:((U % 2:Nat):Int)=1:=by simpa using b
  have e:IntKind.wrap .i64 (0-((U / 2:Nat):Int))=0-((U / 2:Nat):Int):=dQ a_ a_;rw[e,dQ a_ a_];unfold mW;rw[ay a_];omega
 refine oQ ?_;refine bM (⟨[(0,none,r_ L),(5,none,iy (ku L)),(8,none,iy (mW U))],[]⟩) ?_ ?_ ?_;exact .cr (.cr (.cons (congrArg iy o) .nil));exact .nil;refine xU ?_ ?_;simp[r];exact⟨fun _=>a_,fun _ i H x u=>aDl (show (su _ i).all (aY false)=true from rfl) x u,fun _=>by unfold jO;omega⟩;refine dU (fun b=>?_) (fun b=>?_);rw[g,f] at b;have j:di L=(0,0,7):=by rw[d];by_cases c:ku L=0;rw[au c,ay (fun h=>t ⟨c,h⟩)];rw[ay c,ay];intro e;rw[e] at b;simp[c] at b
 refine eQ ?_;rw[j];rfl;rw[g,f] at b;have j:ku L≠0/\eu (mW U)=L.take (ku L):=by by_cases c:ku L=0;simp[c] at b;refine⟨c,?_⟩;simp[c] at b;exact b
 refine iK ?_;refine kJ ?_;rw[d,ay j.1,au j.2];rfl
 have o:((U / 2:Nat):Int)=mW U:=by
  rw[q] at b;have K:¬((U % 2:Nat):Int)=1:=by simpa using b
  unfold mW;rw[au a_]
 refine jD ?_;refine bM (⟨[(0,none,r_ L),(5,none,iy (ku L)),(8,none,iy (mW U))],[]⟩) ?_ ?_ ?_;exact .cr (.cr (.cons (congrArg iy o) .nil));exact .nil;refine xU ?_ ?_;simp[r];exact⟨fun _=>a_,fun _ i H x u=>aDl (show (su _ i).all (aY false)=true from rfl) x u,fun _=>by unfold jO;omega⟩;refine dU (fun b=>?_) (fun b=>?_);rw[g,f] at b;have j:di L=(0,0,7):=by rw[d];by_cases c:ku L=0;rw[au c,ay (fun h=>t ⟨c,h⟩)];rw[ay c,ay];intro e;rw[e] at b;simp[c] at b
 refine eQ ?_;rw[j];rfl;rw[g,f] at b;have j:ku L≠0/\eu (mW U)=L.take (ku L):=by by_cases c:ku L=0;simp[c] at b;refine⟨c,?_⟩;simp[c] at b;exact b
 refine iK ?_;refine kJ ?_;rw[d,ay j.1,au j.2];rfl
def TA:List (Nat×Spec):=(151,Uw jO fun l=>yI (di l))::(139,Uw jO fun l=>Eo (jL l))::TB
theorem Ns:∀ p∈TA,d_ prog af p.1 p.2:=by intro p a;simp only[TA,zg] at a;rcases a with rfl|rfl|a;exact rW (aB func151 ah rfl) aSm;exact rW (aB func139 ah rfl) aCh;exact Nu p a
theorem aNC:jq prog af (find TA):=⟨bG Ns,dV⟩
def Y0(L:dh):Int×Nat×Int:=if (Ba L).2.2=0 then ((di L).1,(di L).2.1,0) else (0,0,(Ba L).2.2)
theorem aYz(L:dh)(i:jO L):fF prog af 183 true [r_ L,iy 1] (yI (Y0 L)):=by
 have M:=aNC;have o:=qQ L;have m:=iR L;have p:L.length<4611686018427387904:=i;refine bD func183 rfl rfl bJ (fun A r q s=>?_);refine bY ?_ ?_;simp[i];refine bM (⟨[(0,none,r_ L),(1,none,iy 1),(7,none,iy (di L).1),(8,none,iy ((di L).2.1:Int)),(9,none,iy (di L).2.2)],[]⟩) ?_ ?_ ?_;rw[eF];exact jg;exact .nil;unfold Y0 Ba;generalize di L=g at *;obtain⟨n,k,e⟩:=g;dsimp only at *;refine bC (fun a=>?_) (fun a=>?_);have f:e≠0:=by simpa using a
 refine eQ ?_;rw[au f,ay f];rfl;have f:e=0:=by simpa using a
 subst f;refine rU (fun a=>?_) (fun a=>?_);have b:n<0:=by simpa using a
 refine eQ ?_;have d:(if (0:Int)≠0 then (0:Int) else if n<0 then (7:Int) else if n > (L.length:Int)-k then 6 else 0)=7:=by rw[ay b_,au b]
 rw[d];rfl;have b:¬n<0:=by simpa using a
 refine jM ?_;refine aN ?_;have l:IntKind.wrap .i64 ((L.length:Int)-k)=(L.length:Int)-k:=dQ a_ a_;have j:IntKind.wrap .i64 (n*1)=n:=by rw[Int.mul_one];exact dQ a_ a_
 refine dU (fun a=>?_) (fun a=>?_);rw[l,j] at a
 have c:n > (L.length:Int)-k:=by
  by_cases h:(L.length:Int)<n
  omega;simp[h] at a;exact a
 refine eQ ?_;have d:(if (0:Int)≠0 then (0:Int) else if n<0 then (7:Int) else if n > (L.length:Int)-k then 6 else 0)=6:=by rw[ay b_,ay b,au c]
 rw[d];rfl;rw[l,j] at a;have c:¬n > (L.length:Int)-k:=by by_cases h:(L.length:Int)<n;simp[h] at a;simp[h] at a;omega
 refine iK ?_;refine kJ ?_;have d:(if (0:Int)≠0 then (0:Int) else if n<0 then (7:Int) else if n > (L.length:Int)-k then 6 else 0)=0:=by rw[ay b_,ay b,ay c]
 rw[d];rfl
def aVg:Spec:=aU true fun a=>match a with
 |[v,.w (.one (.lit (.int .i64 1)))]=>(match FY v with
  |some (p,l)=>some (p/\jO l,yI (Y0 l))|none=>none)
 |_=>none
theorem bDu:d_ prog af 183 aVg:=by
 refine aT (aB func183 ah rfl) (fun h p r a c=>?_);split at a;rename_i v;cases b:FY v with
 |none=>rw[b] at a;cases a| some q=>
  obtain⟨i,l⟩:=q;rw[b] at a;cases a
  exact (aYz l c.2).args fun C d e=>by
   match d,e with
   |[x,y],⟨g,f,_⟩=>exact⟨wR b c.1 g,f,trivial⟩
 cases a
def XT:List (Nat×Spec):=(183,aVg)::TA
theorem Nr:∀ p∈XT,d_ prog af p.1 p.2:=by intro p a;rcases List.mem_cons.1 a with rfl|a;exact bDu;exact Ns p a
theorem aNB:jq prog af (find XT):=⟨bG Nr,dV⟩
theorem aKn(L:dh)(d:jO L):fF prog af 152 true [r_ L] (Eo (jL L)):=by
 have M:=aNB;have m:=qQ L;have i:=iR L;have o:L.length<4611686018427387904:=d;refine bD func152 rfl rfl bJ (fun A r q s=>?_);refine bY ?_ ?_;simp[d];refine bM (⟨[(0,none,r_ L),(5,none,iy (Y0 L).1),(6,none,iy ((Y0 L).2.1:Int)),(7,none,iy (Y0 L).2.2)],[]⟩) ?_ ?_ ?_;rw[eF];exact jg;exact .nil;have c:=aQq L;rw[aPn L];unfold Y0;generalize (Ba L).2.2=e at *;generalize di L=g at *;obtain⟨n,k,t⟩:=g;dsimp only at *;refine bC (fun a=>?_) (fun a=>?_);have b:e≠0:=by intro h;rw[au h] at a;simp at a
 refine eQ ?_;rw[au b,ay b];rfl;have b:e=0:=by rcases Decidable.em (e=0) with h|h;exact h;rw[ay h] at a;exact absurd (by simpa using a) h
 subst b;obtain⟨_,l,j⟩:=c rfl;have f:IntKind.wrap .i64 ((k:Int)+n)=((k+n.toNat:Nat):Int):=by rw[dQ a_ a_];omega
 refine jD ?_;simp only[au];refine aH ?_ ?_;simp;rw[f];omega;refine kJ ?_;rw[ay b_,f];have p:(((k+n.toNat:Nat):Int)-(k:Int)).toNat=n.toNat:=a_;unfold Eo;rw[p,WF,nR a_];rfl
def aES:List (Nat×Spec):=(152,Uw jO fun l=>Eo (jL l))::XT
theorem XW:∀ p∈aES,d_ prog af p.1 p.2:=by intro p a;rcases List.mem_cons.1 a with rfl|a;exact rW (aB func152 ah rfl) aKn;exact Nr p a
end Pv
section
open Go.RowKit Go.Shelf
def laysRepeat_ren:Ren:=
{
 f:=fun x=>
  match x with
  |105=>141
  |212=>169
  |99=>170
  |165=>171
  |166=>172
  |170=>173
  |169=>174
  |263=>186
  |264=>187
  |206=>188
  |240=>189
  |241=>190
  |276=>198
  |277=>199
  |n=>n,
 t:=fun x=>
  match x with
  |9=>9
  |3=>3
  |4=>4
  |20=>20
  |0=>0
  |46=>220
  |109=>238
  |5=>5
  |72=>243
  |76=>247
  |51=>203
  |146=>253
  |53=>110
  |148=>255
  |70=>241
  |37=>74
  |75=>246
  |127=>257
  |164=>259
  |80=>249
  |n=>n,
 g:=fun x=>
  have n:=x;
  n }
theorem laysRepeat:Lays.n105 prog laysRepeat_ren:=
{mixed:=Z4 true,f99:=Yo func170 (congrArg some (Z4 (Body.n99 laysRepeat_ren))),
 f105:=Yo func141 (congrArg some (Z4 (Body.n105 laysRepeat_ren))),
 f165:=Yo func171 (congrArg some (Z4 (Body.n165 laysRepeat_ren))),
 f166:=Yo func172 (congrArg some (Z4 (Body.n166 laysRepeat_ren))),
 f169:=Yo func174 (congrArg some (Z4 (Body.n169 laysRepeat_ren))),
 f170:=Yo func173 (congrArg some (Z4 (Body.n170 laysRepeat_ren))),
 f206:=Yo func188 (congrArg some (Z4 (Body.n206 laysRepeat_ren))),
 f212:=Yo func169 (congrArg some (Z4 (Body.n212 laysRepeat_ren))),
 f240:=Yo func189 (congrArg some (Z4 (Body.n240 laysRepeat_ren))),
 f241:=Yo func190 (congrArg some (Z4 (Body.n241 laysRepeat_ren))),
 f263:=Yo func186 (congrArg some (Z4 (Body.n263 laysRepeat_ren))),
 f264:=Yo func187 (congrArg some (Z4 (Body.n264 laysRepeat_ren))),
 f276:=Yo func198 (congrArg some (Z4 (Body.n276 laysRepeat_ren))),
 f277:=Yo func199 (congrArg some (Z4 (Body.n277 laysRepeat_ren))),t0:=underlying0,
 a0:=isAgg0,z0:=sizeOf0,v0:=zeroValue0,t3:=underlying3,a3:=isAgg3,
 z3:=sizeOf3,v3:=zeroValue3,t4:=underlying4,a4:=isAgg4,z4:=sizeOf4,
 v4:=zeroValue4,t5:=underlying5,a5:=isAgg5,z5:=sizeOf5,v5:=zeroValue5,
 t9:=underlying9,a9:=isAgg9,z9:=sizeOf9,v9:=zeroValue9,t20:=underlying20,
 a20:=isAgg20,z20:=sizeOf20,v20:=zeroValue20,t37:=underlying74,a37:=isAgg74,
 z37:=sizeOf74,v37:=zeroValue74,t46:=underlying220,a46:=isAgg220,z46:=sizeOf220,
 v46:=zeroValue220,t51:=underlying203,a51:=isAgg203,z51:=sizeOf203,
 v51:=zeroValue203,t53:=underlying110,a53:=isAgg110,z53:=sizeOf110,
 v53:=zeroValue110,t70:=underlying241,a70:=isAgg241,z70:=sizeOf241,
 v70:=zeroValue241,t72:=underlying243,a72:=isAgg243,z72:=sizeOf243,
 v72:=zeroValue243,t75:=underlying246,a75:=isAgg246,z75:=sizeOf246,
 v75:=zeroValue246,t76:=underlying247,a76:=isAgg247,z76:=sizeOf247,
 v76:=zeroValue247,t109:=underlying238,a109:=isAgg238,z109:=sizeOf238,
 v109:=zeroValue238,t127:=underlying257,a127:=isAgg257,z127:=sizeOf257,
 v127:=zeroValue257,t146:=underlying253,a146:=isAgg253,z146:=sizeOf253,
 v146:=zeroValue253,t148:=underlying255,a148:=isAgg255,z148:=sizeOf255,
 v148:=zeroValue255,t164:=underlying259,a164:=isAgg259,z164:=sizeOf259,
 v164:=zeroValue259 }
theorem aTx:Builder.Extra prog laysRepeat_ren where
 sizeBuilder:=ah
 liesBuilder:=ah
 t5:=laysRepeat.t5
 a5:=laysRepeat.a5
 z5:=laysRepeat.z5
 v5:=laysRepeat.v5
 infoByte:=ah
 cellsByte:=ah
 sizeByte:=ah
 neB5:=g_
theorem aEt(s:l9)(c:Nat)(w:ae)(hc:c<=9223372036854775807)(a:s.size*c<=140737488355328) :
  Calls prog 141 #[.string s,.int .i64 c] w fun e b=>e=.returned (.string ⟨(Lib.repeatL s.data.toList c).toArray⟩)/\Below w.heap.size w b:=
 Any.strings_Repeat laysRepeat aTx s c w hc a
theorem aLj(s p:l9)(w:ae):Calls prog 170 #[.string s,.string p] w fun e a=>e=.returned (.bool (Lib.hasPrefix s.data.toList p.data.toList))/\a=w:=Any.strings_HasPrefix { laysRepeat with } s p w
end
abbrev Fl:=List l9
def sec(f:Fl)(s:Int):dh:=if 0<=s/\s<f.length then (f.getD s.toNat aG).data.toList else[]
def Ah(cut:Int)(b old:dh):dh:=if cut<0\/(b.length:Int)<=cut then b else b.take cut.toNat++old.drop cut.toNat
def iO(f:Fl)(s:Int)(b:l9)(cut:Int):Fl:=if 0<=s/\s<f.length/\b.size=256 then f.set s.toNat (strOf (Ah cut b.data.toList (sec f s))) else f
namespace Pv
abbrev t_(s:l9):PV:=o7 (.string s)
theorem Gf{I:je}:jq prog I (find ([]:List (Nat×Spec))):=⟨fun f a h=>(by cases h),ah⟩
def uo(l:List l9):Nat->dw:=fun i=>[.lit (.string (l.getD i aG))]
def X7:dw->l9
 |[.lit (.string s)]=>s|_=>aG
def Wv:dw->Bool
 |[.lit (.string _)]=>true|_=>false
theorem Ru{l:dw}(h:Wv l=true):l=[.lit (.string (X7 l))]:=by
 unfold Wv at h;split at h
 rfl;cases h
def iG(n:Nat)(f:Nat->dw):List l9:=(AC n).map fun i=>X7 (f i)
def aMs(n:Nat)(f:Nat->dw):Prop:=∀ i,i<n->Wv (f i)=true
@[simp] theorem aCi(n:Nat)(f:Nat->dw):(iG n f).length=n:=by simp[iG]
theorem bGt{n:Nat}{f:Nat->dw}(h:aMs n f):∀ i,i<n->f i=uo (iG n f) i:=fun i a=>by unfold uo iG;rw[zG,XN,Zb a];exact Ru (h i a)
@[simp] theorem Ue(n:Nat)(l:List l9):aMs n (uo l):=fun _ _=>rfl
@[simp] theorem aZ(l:List l9):iG l.length (uo l)=l:=by apply Z9 b_;intro i b a;simp only[iG,ZU,ZI,uo,X7];rw[zG,zH a];rfl
theorem Io{C:Ctx}{n len:Nat}{f g:Nat->dw}(h:∀ i,i<len->f i=g i){xs:ji}(hr:R C (.sl n len f) xs):R C (.sl n len g) xs:=by
 cases hr with
 |sl d c b=>exact .sl d c (fun i a=>by rw[<-h i a];exact b i a)
theorem RL.head{C:Ctx}{c b:PC}{l:dw}(h:∀ a,R C c a->R C b a){xs:ji}(hr:RL C (c::l) xs):RL C (b::l) xs:=by
 cases hr with
 |cons e d=>exact .cons (h _ e) d
def flV(f:Fl):PV:=.w (.agg [.sl 1 f.length (uo f)])
def Aw(f:Fl)(s:Int):Bool:=decide (0<=s)&&decide (s<f.length)
theorem bGk{f:Fl}{s:Int}(h:Aw f s=true):0<=s/\s<f.length:=by unfold Aw at h;rw[ww] at h;exact⟨of_decide_eq_true h.1,of_decide_eq_true h.2⟩
theorem MC{f:Fl}{s:Int}(h:Aw f s=false):¬(0<=s/\s<f.length):=fun a=>by unfold Aw at h;rw[rq a.1,rq a.2] at h;cases h
def aWn(i:Nat):PV->Bool
 |.w (.one (.pt x v o))=>bu x (px+i)&&(bu v 0&&bu o 0)|_=>false
theorem aPd{i:Nat}{v:PV}(h:aWn i v=true):v=dm (.pt (px+i) 0 0):=by unfold aWn at h;split at h;rw[ww,ww] at h;rw[ig h.1,ig h.2.1,ig h.2.2];cases h
theorem Rz(f:Fl)(s:Int):fF prog af 161 true [flV f,iy s] (rf (Aw f s)):=by have M:=Gf (I:=af);refine bD func161 rfl rfl bJ (fun A b a c=>?_);refine aN ?_;refine eQ ?_;change rf (bif decide (s>=0) then decide (s<(f.length:Int)) else false)=_;unfold Aw;by_cases h:0<=s;rw[rq h];rfl;rw[Bg h];rfl
theorem ext_list(b:l9)(l h:Nat):b.extract l h=strOf ((b.data.toList.take h).drop l):=by apply ByteArray.ext;rw[ByteArray.data_extract];apply Array.toList_inj.1;unfold strOf;simp[Array.toList_extract,List.drop_take]
theorem Pz(a b:dh):strOf a++strOf b=strOf (a++b):=by apply ByteArray.ext;rw[ByteArray.data_append];simp[strOf]
theorem bFn(cut:Int)(b old:l9)(k:b.size<=1000000)(i:old.size<=1000000):zh prog af 162 false [⟨900001,3,[.lit (.int .i64 cut)],[.lit (.int .i64 cut)]⟩,⟨900002,9,[.lit (.string b)],[.lit (.string b)]⟩] (fun _=>none) none (fun _=>False)
  [t_ old,dm (.pt 900001 0 0),dm (.pt 900002 0 0)] (t_ (strOf (Ah cut b.data.toList old.data.toList))):=by
 have M:=Gf (I:=af);have j:b.data.toList.length=b.size:=uA;refine kR func162 rfl rfl rfl (fun A m n=>?_);refine aN ?_;refine bC (fun f=>?_) (fun f=>?_)
 ·refine aN ?_;have h:cut<0\/(b.data.toList.length:Int)<=cut:=by simp at f;omega
  unfold Ah;rw[au h,qF]
  refine bI (fun a w e=>⟨.inr rfl,_,⟨?_,(fun o c=>by
   simp only[zg,YP,or_false] at c
   rcases c with rfl|rfl<;>exact⟨_,rfl,dN rfl⟩),fun p d=>(by cases d)⟩,e⟩)
  refine aO (ai) b_ ai ai ?_;rfl
 ·refine jD ?_;have h:¬(cut<0\/(b.data.toList.length:Int)<=cut):=by simp at f;omega
  unfold Ah;rw[ay h];refine aH ?_ ?_;simp;omega
  refine bI (fun a w e=>⟨.inr rfl,_,⟨?_,(fun o c=>by
   simp only[zg,YP,or_false] at c
   rcases c with rfl|rfl<;>exact⟨_,rfl,dN rfl⟩),fun p d=>(by cases d)⟩,e⟩)
  refine aO (ai) b_ ai ai ?_;change t_ (b.extract (Int.toNat 0) cut.toNat++old.extract (min cut (old.size:Int)).toNat ((old.size:Int)).toNat)=_;rw[ext_list,ext_list,Pz];have g:old.data.toList.length=old.size:=uA;have l:(old.data.toList.take ((old.size:Int)).toNat).drop (min cut (old.size:Int)).toNat=old.data.toList.drop cut.toNat:=by rw[WF,YY a_];by_cases q:cut<=(old.size:Int);rw[show (min cut (old.size:Int))=cut from a_];rw[aAE a_,aAE a_]
  rw[l];rfl
def EF:PV->Option (Prop×Fl)
 |.w (.agg [.sl 1 n f])=>some (aMs n f,iG n f)|_=>none
theorem aTv{C:Ctx}{v:PV}{p:Prop}{f:Fl}{x:ag}(h:EF v=some (p,f))(a:p)(hr:RV C v x):RV C (flV f) x:=by
 unfold EF at h;split at h;rename_i n g;cases h;cases hr with
 | w d=>cases d with
  |agg c=>refine .w (.agg (c.head fun e b=>?_));rw[aCi];exact Io (bGt a) b
 cases h
def UD:Spec:=aU true fun a=>match a with
 |[v,.w (.one (.lit (.int .i64 s)))]=>(match EF v with
  |some (p,f)=>some (p,rf (Aw f s))|none=>none)
 |_=>none
theorem MB:d_ prog af 161 UD:=by
 refine aT (aB func161 ah rfl) (fun i p r a e=>?_);split at a;rename_i v s;cases b:EF v with
 |none=>rw[b] at a;cases a| some q=>
  obtain⟨k,f⟩:=q;rw[b] at a;cases a
  exact (Rz f s).args fun C c d=>by
   match c,d with
   |[j,x],⟨h,g,_⟩=>exact⟨aTv b e h,g,trivial⟩
 cases a
def XD:List (Nat×Spec):=[(161,UD)]
theorem aMW:jq prog af (find XD):=⟨bG (fun p a=>by
 obtain rfl:=List.mem_singleton.1 a
 exact MB),dV⟩
theorem bGw(f:Fl)(s:Int):fF prog af 128 true [flV f,iy s] (.og [.one (.lit (.string (strOf (sec f s)))),.one (.lit (.int .i64 (if Aw f s then 0 else 13)))]):=by
 have M:=aMW;refine bD func128 rfl rfl bJ (fun A d c g=>?_);refine aN ?_;refine lM ?_;rw[aZ];refine dU (fun a=>?_) (fun a=>?_);refine aN ?_;have h:Aw f s=false:=by simpa using a
 have e:sec f s=[]:=by unfold sec;rw[ay (MC h)]
 rw[h,e];exact mP;have h:Aw f s=true:=by simpa using a
 have b:=bGk h;refine qM ?_ ?_;simp;exact b;have e:strOf (sec f s)=f.getD s.toNat aG:=by unfold sec;rw[au b,qF]
 rw[h,e];exact mP
def aCB:Spec:=aU true fun a=>match a with
 |[v,.w (.one (.lit (.int .i64 s)))]=>(match EF v with
  |some (p,f)=>some (p,.og [.one (.lit (.string (strOf (sec f s)))),.one (.lit (.int .i64 (if Aw f s then 0 else 13)))])|none=>none)
 |_=>none
theorem MR:d_ prog af 128 aCB:=by
 refine aT (aB func128 ah rfl) (fun i p r a e=>?_);split at a;rename_i v s;cases b:EF v with
 |none=>rw[b] at a;cases a| some q=>
  obtain⟨k,f⟩:=q;rw[b] at a;cases a
  exact (bGw f s).args fun C c d=>by
   match c,d with
   |[j,x],⟨h,g,_⟩=>exact⟨aTv b e h,g,trivial⟩
 cases a
def bCr:Spec:=aWc fun d a=>match d,a with
 |[(t0,[.lit (.int .i64 cut)]),(t1,[.lit (.string b)])],[.w (.one (.lit (.string old))),c,p1]=>
  (match bu t0 3&&(bu t1 9&&(aWn 0 c&&aWn 1 p1)) with
  |true=>some (b.size<=1000000/\old.size<=1000000,[[.lit (.int .i64 cut)],[.lit (.string b)]],t_ (strOf (Ah cut b.data.toList old.data.toList)))|false=>none)
 |_,_=>none
theorem L_:d_ prog af 162 bCr:=by
 refine aOq (aB func162 ah rfl) (fun i t p B r c e d=>?_);split at c;rename_i w cut u b old y x a;split at c;rename_i f;simp only[ww] at f;obtain⟨s,q,h,g⟩:=f;cases c
 match i,a with
 |[A,z],a=>simp only[DD,List.map_nil,List.cons.injEq,Prod.mk.injEq,and_true] at a;obtain⟨⟨m,k⟩,⟨l,j⟩⟩:=a;have o:=ig s;have n:=ig q;have:=bFn cut b old d.1 d.2;unfold Gg Gg Gg;rw[m,k,l,j,o,n,aPd h,aPd g];exact this
 cases c;cases c
def XC:List (Nat×Spec):=(162,bCr)::XD
theorem XE:∀ p∈XC,d_ prog af p.1 p.2:=by intro p a;simp only[XC,XD,zg,YP,or_false] at a;rcases a with rfl|rfl;exact L_;exact MB
theorem aMV:jq prog af (find XC):=⟨bG XE,dV⟩
def xC(f:Fl)(s:Int)(b:l9):Int:=if Aw f s then (if b.size=256 then 0 else 1) else 13
theorem bAc(f:Fl)(s:Int)(b:l9)(cut:Int)(u:∀ x∈f,x.size<=1000000)(r:f.length<=1000000):fF prog af 131 false [flV f,iy s,t_ b,iy cut] (.og [.agg [.sl 1 (iO f s b cut).length (uo (iO f s b cut))],.one (.lit (.int .i64 (xC f s b)))]):=by
 have M:=aMV;have p:prog.types[9].bytes=16:=ah;have m:prog.types[9].size=1:=ah;refine bD func131 rfl rfl bJ (fun A B z C=>?_);refine aN ?_;refine bCe ?_;refine aN ?_;rw[aZ];refine dU (fun c=>?_) (fun c=>?_);refine aN ?_;have h:Aw f s=false:=by simpa using c
 have j:iO f s b cut=f:=ay (fun k=>MC h ⟨k.1,k.2.1⟩);have g:xC f s b=13:=by unfold xC;rw[h];rfl
 rw[j,g];exact mP
 ·have h:Aw f s=true:=by simpa using c
  have q:=bGk h;refine lQ (fun c=>?_) (fun c=>?_);refine aN ?_;have d:¬b.size=256:=by simp at c;omega
  have j:iO f s b cut=f:=ay (fun k=>d k.2.2);have g:xC f s b=1:=by unfold xC;rw[h,ay d];rfl
  rw[j,g];exact mP
  ·refine iK ?_;have d:b.size=256:=by simp at c;omega
   have j:iO f s b cut=f.set s.toNat (strOf (Ah cut b.data.toList (sec f s))):=au ⟨q.1,q.2,d⟩;have g:xC f s b=0:=by unfold xC;rw[h,au d];rfl
   have y:sec f s=(f.getD s.toNat aG).data.toList:=au q;rw[j,g,y];refine aH ?_ ?_;simp;rw[p];omega;refine aN ?_;refine bF (s':=⟨[(1,none,iy s),(8,none,dm (.pt 3 0 0)),(10,none,dm (.fn (.func 162) [] [.pt 2 0 0,.pt 1 0 0])),(11,none,dm (.ow 6003 0 1 0 f.length))],[(6003,none,0,.arr 9 1 f.length (uo f)),(1,none,0,.box 9 [.lit (.string b)]),(2,none,0,.box 3 [.lit (.int .i64 cut)]),(3,none,0,.box 63 [.lit (.slice none 0 0)])]⟩) (fun a w o=>(o.reset (kT:=[1,8,10,11]) (kO:=[6003,1,2,3]) ai ?_).same ?_ ?_) ?_
   ·refine⟨fun i _=>?_,trivial⟩;unfold XY
    split<;>rfl
   refine .cr (.cr (.cr (.cons ?_ .nil)));change dm (.ow 6003 0 prog.types[9].size 0 ((f.length:Int)).toNat)=_;rw[m,WF];refine .cons (.arr ?_ (fun i n=>?_)) ((fD _));exact WF _;unfold XY;rw[WF] at n ⊢;rw[au a_];have t:(f.getD s.toNat aG).size<=1000000:=by rw[zG,zH a_];exact u _ (ZN _)
   refine aH ?_ ?_;simp;rw[<-zG];omega;refine aN ?_;rw[Yb];refine bI (fun a w o=>⟨.inr rfl,_,?_,o⟩);refine rX (ai) b_ ai ?_;refine .og (.cons (.agg (.cons (.row rfl trivial a_ (fun i n=>?_) (fun i n=>rfl)) .nil)) (.cons (.one (.cold rfl)) .nil));rw[ik];split;rename_i e;obtain rfl:i=s.toNat:=a_;unfold uo;rw[zG (l:=f.set _ _),aBE a_,ik];rfl;rename_i e;unfold uo;rw[zG (l:=f.set _ _),aBF a_,zG]
def XB(f:Fl):dw:=[.sl 1 f.length (uo f)]
def aCA:Spec:=aU false fun a=>match a with
 |[v,.w (.one (.lit (.int .i64 s))),.w (.one (.lit (.string b))),.w (.one (.lit (.int .i64 cut)))]=>(match EF v with
  |some (p,f)=>some (p/\(∀ x∈f,x.size<=1000000)/\f.length<=1000000,.og [.agg (XB (iO f s b cut)),.one (.lit (.int .i64 (xC f s b)))])|none=>none)
 |_=>none
theorem bGq:d_ prog af 131 aCA:=by
 refine aT (aB func131 ah rfl) (fun l p r a d=>?_);split at a;rename_i v s b cut;cases c:EF v with
 |none=>rw[c] at a;cases a| some q=>
  obtain⟨n,f⟩:=q;rw[c] at a;cases a
  exact (bAc f s b cut d.2.1 d.2.2).args fun C e g=>by
   match e,g with
   |[m,x,y,z],⟨k,j,i,h,_⟩=>exact⟨aTv c d.1 k,j,i,h,trivial⟩
 cases a
end Pv
section
def dG(rec a:Int):Int:=if rec<0\/3<rec\/a<0\/1<a then -1 else 8*(2*rec+a)
def AL(seq:Int)(c:dh):dh:=eu seq++bH c
def encS(rec seq:Int)(c:dh):dh:=AL seq c++qU 5 [eu rec,AL seq c]
def uz(b:dh):dh×Nat×Int:=jL (b.drop (di b).2.1)
def qw(rec:Int)(b:dh):Int×dh:=
 if (di b).2.2≠0\/(di b).1<1\/1099511627776<(di b).1 then (0,[]) else
 if (uz b).2.2≠0\/2000<(uz b).1.length\/b.take (encS rec (di b).1 (uz b).1).length≠encS rec (di b).1 (uz b).1 then (0,[]) else ((di b).1,(uz b).1)
def xu(x y:Int×dh):(Int×dh)×Nat:=if x.1=0\/x.1<y.1 then (y,1) else (x,0)
structure EU where
 content:l9
 seq:Int
 err:Int
def wY(x:Int×dh):EU:=if x.1=0 then⟨aG,0,13⟩ else⟨strOf x.2,x.1,0⟩
def aj.rd(s:Int):aj l9:=.ask ⟨3,0,s,aG⟩ fun r=>.ret r.bytes
def aj.wr(s:Int)(b:l9):aj Unit:=.ask ⟨4,0,s,b⟩ fun _=>.ret ()
def aj.w_(f:Int):Nat->dh->aj dh
 |0,b=>.ret b|n+1,b=>(aj.rd (f+((7-n:Nat):Int))).bind fun s=>aj.w_ f n (b++s.data.toList)
def aj.cur(rec:Int):aj ((Int×dh)×Nat):=(aj.w_ (dG rec 0) 8 []).bind fun a=>(aj.w_ (dG rec 1) 8 []).bind fun b=>.ret (xu (qw rec a) (qw rec b))
def aj.load(rec:Int):aj EU:=if dG rec 0<0 then .ret ⟨aG,0,1⟩ else (aj.cur rec).bind fun p=>.ret (wY p.1)
def l7(b:dh)(k:Nat):dh:=(b.drop (256*k)).take 256++PR (256-((b.drop (256*k)).take 256).length) 0
def gB:dh:=PR 256 0
def nsec(b:dh):Nat:=(b.length+255) / 256
def aj.Hf(f:Int)(b:dh):Nat->Nat->aj Unit
 |0,_=>.ret ()|n+1,i=>(aj.wr (f+(i:Int)) (strOf (l7 b i))).bind fun _=>aj.Hf f b n (i+1)
def aj.write(f:Int)(b:dh):aj Unit:=(aj.wr f (strOf gB)).bind fun _=>(aj.Hf f b (nsec b-1) 1).bind fun _=>aj.wr f (strOf (l7 b 0))
def aj.save(rec:Int)(c:l9):aj EU:=if dG rec 0<0 then .ret ⟨aG,0,1⟩ else if 2000<c.size then .ret ⟨aG,0,19⟩ else
 (aj.cur rec).bind fun p=>if 1099511627776<p.1.1+1 then .ret ⟨aG,0,19⟩ else (aj.write (dG rec (1-(p.2:Int))) (encS rec (p.1.1+1) c.data.toList)).bind fun _=>.ret ⟨c,p.1.1+1,0⟩
theorem pV(seq:Int)(c:dh):(AL seq c).length=(eu seq).length+((eu (c.length:Int)).length+c.length):=by unfold AL bH;simp
theorem nG(rec seq:Int)(c:dh):(encS rec seq c).length=(AL seq c).length+16:=by unfold encS;rw[gp,kD]
theorem oN(rec:Int)(b:dh):0<=(qw rec b).1/\(qw rec b).1<=1099511627776:=by unfold qw;split;exact⟨aCp _,g_⟩;split;exact⟨aCp _,g_⟩;rename_i h _;dsimp only;omega
theorem aEb:∀ (f u v:Nat),u<=v->(varint f u).length<=(varint f v).length
 |0,_,_,_=>by simp[varint]|f+1,u,v,h=>by by_cases a:v<128;rw[iW a,iW a_];simp;rw[mV a];by_cases b:u<128;rw[iW b];simp;rw[mV b,zl,zl];exact Nat.succ_le_succ (aEb f _ _ (Nat.div_le_div_right h))
theorem aQb(rec seq:Int){s c:dh}(h:s.length<=c.length):(encS rec seq s).length<=(encS rec seq c).length:=by have a:(eu (s.length:Int)).length<=(eu (c.length:Int)).length:=aEb 9 _ _ (by unfold zig;rw[au a_,au a_];omega);rw[nG,nG,pV,pV];omega
theorem aMc(rec seq:Int)(c r:dh)(h1:1<=seq)(h2:seq<=1099511627776)(hc:c.length<=2000):qw rec (encS rec seq c++r)=(seq,c):=by
 obtain⟨d,b⟩:=lm (qU 5 [eu rec,AL seq c]);have a:encS rec seq c++r=eu seq++(bH c++(d++r)):=by unfold encS;rw[b];unfold AL;simp
 have g:di (encS rec seq c++r)=(seq,(eu seq).length,0):=by rw[a];exact mF _ a_ a_
 have k:uz (encS rec seq c++r)=(c,(bH c).length,0):=by unfold uz;rw[g];dsimp only;rw[a,aFQ];exact vP _ _ a_
 unfold qw;rw[g,k];dsimp only;rw[ay a_,List.take_left,ay jr]
theorem bIa(rec:Int)(b:dh):qw rec (0::b)=(0,[]):=by have h:di (0::b)=(0,1,0):=mF (n:=0) b g_ g_;unfold qw;rw[h];rfl
theorem bBx{n:Int}(h1:-9223372036854775808<=n)(h2:n<9223372036854775808)(h0:n≠0):(eu n).getD ((eu n).length-1) 0≠0:=by
 have c:=qC n h1 h2
 have a:zig n≠0:=by unfold zig;split<;>omega
 have b:xO (eu n):=aOr 9 _ (by have:=aHs h1 h2;omega) a;exact (sH (eu n) ((eu n).length-1) a_).1 b
theorem aPk{v:Int}{r W:dh}{cut n k:Nat}{q:Int}(h1:-9223372036854775808<=v)(h2:v<9223372036854775808)(l:∀ i,i<cut->W[i]?=(eu v++r)[i]?)(j:∀ i,cut<=i->i<n->W[i]?=some 0)(hn:10<=n)(m:di W=(q,k,0)) :
  (q=v/\k=(eu v).length)\/(q=0/\k=1):=by
 obtain⟨c,u,t,s,h,g⟩:=bGm m;by_cases p:k<=cut;left;have e:(eu v++r).take k=eu q:=by rw[<-c];apply YZ;intro i;rw[x8,x8];split;exact (l i a_).symm;rfl
 have o:eu v++r=eu q++(eu v++r).drop k:=by rw[<-e,ZZ]
 have d:=mF r h1 h2;rw[o,mF _ h g] at d;simp only[Prod.mk.injEq,and_true] at d;refine⟨d.1,?_⟩;have:(W.take k).length=k:=by rw[xe];omega
 rw[c] at this;rw[<-this,d.2];right;have b:(eu q).length=k:=by rw[<-c,xe];omega
 have a:(eu q).getD (k-1) 0=0:=by rw[<-c,zG,x8,au a_,j (k-1) a_ a_];rfl
 by_cases f:q=0;subst f;exact⟨rfl,by rw[<-b];rfl⟩;exact absurd (b ▸ a) (by rw[b];have:=bBx h g f;rw[b] at this;exact this)
theorem aQi{rec seq:Int}{c W:dh}{cut:Nat}(h1:1<=seq)(h2:seq<=1099511627776)(hc:c.length<=2000)(G:cut<=(encS rec seq c).length)(B:∀ i,i<cut->W[i]?=(encS rec seq c)[i]?)(A:∀ i,cut<=i->i<256->W[i]?=some 0) :
  qw rec W=(0,[])\/∃ s,qw rec W=(seq,s)/\s.length<=c.length/\W.take (encS rec seq s).length=encS rec seq s:=by
 obtain⟨d,F⟩:=lm (qU 5 [eu rec,AL seq c]);have C:encS rec seq c=eu seq++(eu (c.length:Int)++(c++d)):=by unfold encS;rw[F];unfold AL bH;simp
 have E:=aQ seq;have D:=aQ (c.length:Int);by_cases f:qw rec W=(0,[]);exact .inl f;right;unfold qw at f;split at f;exact absurd rfl f
 ·rename_i o;split at f;exact absurd rfl f
  ·rename_i l;obtain⟨q,k,e,g⟩:∃ q k e,di W=(q,k,e):=⟨_,_,_,rfl⟩;have t:=o;rw[g] at o;dsimp only at o;obtain rfl:e=0:=a_;have p:q=seq/\k=(eu seq).length:=by rcases aPk (v:=seq) (r:=eu (c.length:Int)++(c++d)) (W:=W) (cut:=cut) (n:=256) a_ a_ (fun i z=>by rw[B i z,C]) A a_ g with h|h;exact h;omega
   obtain⟨rfl,rfl⟩:=p;have a:uz W=jL (W.drop (eu q).length):=by unfold uz;rw[g]
   have y:(uz W).1.length<=c.length:=by
    by_cases b:(di (W.drop (eu q).length)).2.2=0
    ·obtain⟨m,j,e,x⟩:∃ m j e,di (W.drop (eu q).length)=(m,j,e):=⟨_,_,_,rfl⟩;rw[x] at b;obtain rfl:e=0:=b
     have w:m=(c.length:Int)\/m=0:=by
      have u:∀ i,i<cut-(eu q).length->(W.drop (eu q).length)[i]?=(eu (c.length:Int)++(c++d))[i]?:=fun i z=>by rw[YN,B _ a_,C,Ye a_,show (eu q).length+i-(eu q).length=i from a_]
      rcases aPk (v:=(c.length:Int)) (r:=c++d) (W:=W.drop (eu q).length) (cut:=cut-(eu q).length) (n:=256-(eu q).length) a_ a_ u (fun i z H=>by rw[YN];exact A _ a_ a_) a_ x with h|h;exact .inl h.1;exact .inr h.1
     rw[a];unfold jL;rw[x];dsimp only;rw[ay b_];split;simp
     ·split;simp
      ·rw[xe];rcases w with rfl|rfl<;>omega
    rw[a];unfold jL;rw[au b];simp
   refine⟨(uz W).1,?_,y,?_⟩;unfold qw;rw[ay t,ay l,g];rw[g] at l;dsimp only at l;by_cases h:W.take (encS rec q (uz W).1).length=encS rec q (uz W).1;exact h;exact absurd (.inr (.inr h)) l
def eX(cut:Int)(a:Acc)(f:Fl):Fl:=if a.kind=3 then f else iO f a.cell a.bytes cut
def Bd(a:Acc)(f:Fl):qj:=⟨0,if a.kind=3 then strOf (sec f a.cell) else aG⟩
section
variable {α β:Type}
def Aj:aj α->Fl->α
 |.ret a,_=>a|.ask a k,f=>Aj (k (Bd a f)) (eX (-1) a f)
def mg:aj α->Fl->jc
 |.ret _,_=>[]|.ask a k,f=>a::mg (k (Bd a f)) (eX (-1) a f)
def ui(L:jc)(f:Fl):Fl:=L.foldl (fun f a=>eX (-1) a f) f
theorem aGa(L M:jc)(f:Fl):ui (L++M) f=ui M (ui L f):=List.foldl_append ..
theorem rM(p:aj α)(g:α->aj β):∀ f,mg (p.bind g) f=mg p f++mg (g (Aj p f)) (ui (mg p f) f):=by
 induction p with
 |ret a=>intro f;rfl|ask a k b=>intro f;show a::mg ((k (Bd a f)).bind g) (eX (-1) a f)=_;rw[b];rfl
theorem vH(p:aj α)(g:α->aj β):∀ f,Aj (p.bind g) f=Aj (g (Aj p f)) (ui (mg p f) f):=by
 induction p with
 |ret a=>intro f;rfl|ask a k b=>intro f;show Aj ((k (Bd a f)).bind g) (eX (-1) a f)=_;rw[b];rfl
def bHi(cut bytes:Int):aj α->Fl->jc->Fl×Option α×jc
 |.ret o,f,l=>(f,some o,l)|.ask a k,f,l=>if (l.length:Int)=cut then (eX (max 0 bytes) a f,none,l++[a]) else bHi cut bytes (k (Bd a f)) (eX (-1) a f) (l++[a])
theorem aDh(cut bytes:Int)(p:aj α):∀ (f:Fl) (l:jc),bHi cut bytes p f l =
  if h:(l.length:Int)<=cut/\(cut-l.length).toNat<(mg p f).length then
   (eX (max 0 bytes) ((mg p f)[(cut-l.length).toNat]'h.2) (ui ((mg p f).take (cut-l.length).toNat) f),none,l++(mg p f).take ((cut-l.length).toNat+1))
  else (ui (mg p f) f,some (Aj p f),l++mg p f):=by
 induction p with
 |ret a=>intro f l;rw[dif_neg (by simp[mg])];simp[bHi,mg,ui,Aj]| ask a k e=>
  intro f l;rw[bHi];by_cases b:(l.length:Int)=cut;rw[au b];have d:(cut-(l.length:Int)).toNat=0:=a_;rw[dif_pos ⟨a_,by rw[d];simp[mg]⟩];simp[d,mg,ui];rw[ay b,e];have g:((l++[a]).length:Int)=l.length+1:=b_;by_cases h:(((l++[a]).length:Nat):Int)<=cut/\(cut-((l++[a]).length:Nat)).toNat<(mg (k (Bd a f)) (eX (-1) a f)).length;have c:(cut-(l.length:Int)).toNat=(cut-((l++[a]).length:Nat)).toNat+1:=a_;rw[dif_pos h,dif_pos ⟨a_,by rw[c];simp only[mg,zl];omega⟩];simp only[c,mg,List.getElem_cons_succ,aGN,ui,aAK,Pi,aAT]
  rw[dif_neg h,dif_neg (by
   simp only[mg,zl]
   omega)]
  simp only[mg,ui,aAK,Pi,aAT,Aj]
end
def Gx(f:Fl)(s:Int):Nat->dh
 |0=>[]|n+1=>sec f (s+((7-n:Nat):Int))++Gx f s n
def sZ(f:Fl)(s:Int):dh:=Gx f s 8
def Y_(s:Int):Nat->jc
 |0=>[]|n+1=>⟨3,0,s+((7-n:Nat):Int),aG⟩::Y_ s n
theorem qY(s:Int):∀ (n:Nat) (f:Fl),ui (Y_ s n) f=f
 |0,_=>rfl|n+1,f=>qY s n f
theorem aRz(s:Int):∀ (n:Nat) (b:dh) (f:Fl),mg (aj.w_ s n b) f=Y_ s n/\Aj (aj.w_ s n b) f=b++Gx f s n
 |0,b,f=>⟨rfl,by simp[aj.w_,Aj,Gx]⟩|n+1,b,f=>by have a:=aRz s n (b++sec f (s+((7-n:Nat):Int))) f;have e:aj.w_ s (n+1) b=.ask ⟨3,0,s+((7-n:Nat):Int),aG⟩ fun r=>aj.w_ s n (b++r.bytes.data.toList):=rfl;rw[e];simp only[mg,Aj,eX,Bd,au,dI];rw[a.1,a.2];exact⟨rfl,by rw[Gx,Pi]⟩
def Da(f:Fl)(rec k:Int):Int×dh:=qw rec (sZ f (dG rec k))
def iw(f:Fl)(rec:Int):(Int×dh)×Nat:=xu (Da f rec 0) (Da f rec 1)
def CQ(rec:Int):jc:=Y_ (dG rec 0) 8++Y_ (dG rec 1) 8
theorem PK(rec:Int)(f:Fl):mg (aj.cur rec) f=CQ rec/\Aj (aj.cur rec) f=iw f rec/\ui (mg (aj.cur rec) f) f=f:=by
 have a:=aRz (dG rec 0) 8 [] f;have b:=aRz (dG rec 1) 8 [] f;have e:mg (aj.cur rec) f=CQ rec:=by unfold aj.cur;rw[rM,rM,a.1,qY,b.1];simp[mg,CQ]
 refine⟨e,?_,?_⟩;unfold aj.cur;rw[vH,vH,a.1,qY,a.2,b.2];rfl;rw[e];unfold CQ;rw[aGa,qY,qY]
theorem mZ(rec:Int):(CQ rec).length=16:=rfl
def BQ(s:Int)(b:dh):Nat->Nat->jc
 |0,_=>[]|n+1,i=>⟨4,0,s+(i:Int),strOf (l7 b i)⟩::BQ s b n (i+1)
def bV(s:Int)(b:dh):jc:=⟨4,0,s,strOf gB⟩::(BQ s b (nsec b-1) 1++[⟨4,0,s,strOf (l7 b 0)⟩])
theorem U6(s:Int)(b:dh):∀ (n i:Nat) (f:Fl),mg (aj.Hf s b n i) f=BQ s b n i
 |0,_,_=>rfl|n+1,i,f=>by have e:aj.Hf s b (n+1) i=.ask ⟨4,0,s+(i:Int),strOf (l7 b i)⟩ fun _=>aj.Hf s b n (i+1):=rfl;rw[e,mg,U6 s b n (i+1)];rfl
theorem Pe(s:Int)(b:dh)(f:Fl):mg (aj.write s b) f=bV s b:=by have e:aj.write s b=.ask ⟨4,0,s,strOf gB⟩ fun _=>(aj.Hf s b (nsec b-1) 1).bind fun _=>aj.wr s (strOf (l7 b 0)):=rfl;rw[e,mg,rM,U6];rfl
theorem kZ(s:Int)(b:dh):∀ n i,(BQ s b n i).length=n
 |0,_=>rfl|n+1,i=>by rw[BQ,zl,kZ]
theorem aJv(s:Int)(b:dh):∀ (n i j:Nat),j<n->(BQ s b n i)[j]?=some ⟨4,0,s+((i+j:Nat):Int),strOf (l7 b (i+j))⟩
 |0,_,_,h=>a_|n+1,i,0,_=>rfl|n+1,i,j+1,h=>by rw[BQ,Ya,aJv s b n (i+1) j a_,show i+1+j=i+(j+1) from a_]
theorem vU{rec k:Int}(h1:0<=rec)(h2:rec<=3)(h3:0<=k)(h4:k<=1):dG rec k=8*(2*rec+k):=by unfold dG;rw[ay a_]
theorem aJk(x y:Int×dh):(xu x y).2=0\/(xu x y).2=1:=by unfold xu;split<;>simp
theorem aId{rec:Int}{c:l9}{f:Fl}(h1:0<=rec)(h2:rec<=3)(hc:c.size<=2000)(hs:(iw f rec).1.1+1<=1099511627776) :
  mg (aj.save rec c) f=CQ rec++bV (dG rec (1-((iw f rec).2:Int))) (encS rec ((iw f rec).1.1+1) c.data.toList)/\Aj (aj.save rec c) f=⟨c,(iw f rec).1.1+1,0⟩:=by
 obtain⟨d,b,a⟩:=PK rec f;have e:¬dG rec 0<0:=by rw[vU h1 h2 a_ a_];omega
 unfold aj.save;rw[ay e,ay a_,rM,vH,a,b,d,ay a_,rM,vH,Pe];simp[mg,Aj]
theorem bFt{rec:Int}{f:Fl}(h1:0<=rec)(h2:rec<=3):mg (aj.load rec) f=CQ rec/\Aj (aj.load rec) f=wY (iw f rec).1:=by
 obtain⟨c,b,a⟩:=PK rec f;have d:¬dG rec 0<0:=by rw[vU h1 h2 a_ a_];omega
 unfold aj.load;rw[ay d,rM,vH,a,b,c];simp[mg,Aj]
def Sz(f:Fl):Prop:=f.length=128/\∀ x∈f,x.size=256
theorem Sz.sec{f:Fl}(h:Sz f){s:Int}(h1:0<=s)(h2:s<128):(sec f s).length=256:=by
 obtain⟨k,rfl⟩:∃ k:Nat,s=(k:Int):=⟨s.toNat,a_⟩;have a:k<f.length:=by rw[h.1];omega
 unfold Go.Proofs.YtndpjopifkbgiaaGreatDoor.sec;rw[au a_,WF,zG,zH a,Option.getD_some,uA];exact h.2 _ (ZN a)
theorem aRv{cut:Int}{b old:dh}(hb:b.length=256)(a:old.length=256):(Ah cut b old).length=256:=by unfold Ah;split;exact hb;rw[gp,xe,YO];omega
theorem aFx{f:Fl}(h:Sz f)(s:Int)(b:l9)(cut:Int):Sz (iO f s b cut):=by unfold iO;split;rename_i q;refine⟨by rw[Yb];exact h.1,fun x a=>?_⟩;rcases List.mem_or_eq_of_mem_set a with a|rfl;exact h.2 x a;rw[aW];exact aRv (by rw[uA];exact q.2.2) (h.sec q.1 (by have:=h.1;omega));exact h
theorem rV{f:Fl}(h:Sz f)(cut:Int)(a:Acc):Sz (eX cut a f):=by unfold eX;split;exact h;exact aFx h _ _ _
theorem aPu:∀ {L:jc} {f:Fl},Sz f->Sz (ui L f)
 |[],_,h=>h|a::L,_,h=>aPu (L:=L) (rV h (-1) a)
theorem mX{f:Fl}(h:Sz f){s:Int}(h1:0<=s)(h2:s<128){b:dh}(hb:b.length=256)(cut t:Int):sec (iO f s (strOf b) cut) t=if t=s then Ah cut b (sec f s) else sec f t:=by
 have c:=h.1;unfold iO;rw[au ⟨h1,a_,by rw[aW];exact hb⟩,dI];by_cases a:t=s;subst a;rw[au rfl];have e:∀ x:l9,sec (f.set t.toNat x) t=x.data.toList:=fun x=>by unfold sec;rw[au (by rw[Yb];omega),zG,aBE a_,Option.getD_some]
 rw[e,dI];rw[ay a];unfold sec;rw[Yb];split;rw[zG,aBF a_,<-zG];rfl
theorem dR(b:dh)(k:Nat):(l7 b k).length=256:=by unfold l7;rw[gp,Z_,xe];omega
theorem aSc{b:dh}{k j:Nat}(a:j<256)(h:256*k+j<b.length):(l7 b k)[j]?=b[256*k+j]?:=by unfold l7;rw[YW (by rw[xe,YO];omega),x8,au a,YN]
theorem jS:gB.length=256:=Z_
theorem xP{j:Nat}(a:j<256):gB[j]?=some 0:=by unfold gB;rw[List.getElem?_replicate,au a]
theorem aVi{f:Fl}(h:Sz f){s:Int}(h1:0<=s)(h2:s<128){b:dh}(hb:b.length=256)(t:Int):sec (eX (-1) ⟨4,0,s,strOf b⟩ f) t=if t=s then b else sec f t:=by have:eX (-1) ⟨4,0,s,strOf b⟩ f=iO f s (strOf b) (-1):=rfl;rw[this,mX h h1 h2 hb];have e:Ah (-1) b (sec f s)=b:=au (.inl g_);rw[e]
theorem aEq{f g:Fl}{s:Int}:∀ n,n<=8->(∀ t,s+((8-n:Nat):Int)<=t->t<s+8->sec f t=sec g t)->Gx f s n=Gx g s n
 |0,_,_=>rfl|n+1,b,h=>by rw[Gx,Gx,h _ a_ a_,aEq n a_ (fun t c a=>h t a_ a)]
theorem yQ{f g:Fl}{s:Int}(h:∀ t,s<=t->t<s+8->sec f t=sec g t):sZ f s=sZ g s:=aEq 8 (dC _) (fun t b a=>h t a_ a)
theorem aVt{f:Fl}(h:Sz f){s:Int}(h1:0<=s)(h2:s+8<=128){j:Nat}(c:j<256):∀ (n i:Nat),n<=8->i<n->(Gx f s n)[256*i+j]?=(sec f (s+((8-n+i:Nat):Int)))[j]?
 |0,_,_,d=>a_|n+1,0,b,_=>by rw[Gx,YW (by rw[h.sec a_ a_];omega)];rw[show 8-(n+1)+0=7-n from a_];congr 1;omega|n+1,i+1,b,d=>by have a:=h.sec (s:=s+((7-n:Nat):Int)) a_ a_;rw[Gx,Ye (by rw[a];omega),a,show 256*(i+1)+j-256=256*i+j from a_,aVt h h1 h2 c n i a_ a_];rw[show 8-(n+1)+(i+1)=8-n+i from a_]
theorem aXt{f:Fl}(h:Sz f){s:Int}(h1:0<=s)(h2:s+8<=128){i j:Nat}(b:i<8)(a:j<256):(sZ f s)[256*i+j]?=(sec f (s+(i:Int)))[j]?:=by have:=aVt h h1 h2 a 8 i (dC _) b;rw[show 8-8+i=i from a_] at this;exact this
theorem aUz{s:Int}{b:dh}:∀ (n i:Nat) {f:Fl},Sz f->0<=s->s+((i+n:Nat):Int)<=128->∀ t:Int,sec (ui (BQ s b n i) f) t=if s+(i:Int)<=t/\t<s+((i+n:Nat):Int) then l7 b (t-s).toNat else sec f t
 |0,i,f,_,_,_,t=>by rw[ay a_];rfl|n+1,i,f,h,e,g,t=>by have d:=aUz (b:=b) n (i+1) (rV h (-1) ⟨4,0,s+(i:Int),strOf (l7 b i)⟩) e a_ t;rw[BQ];show sec (ui (BQ s b n (i+1)) (eX (-1) ⟨4,0,s+(i:Int),strOf (l7 b i)⟩ f)) t=_;rw[d,aVi h a_ a_ (dR _ _)];by_cases a:t=s+(i:Int);subst a;rw[ay a_,au rfl,au a_,show (s+(i:Int)-s).toNat=i from a_];rw[ay a];by_cases c:s+(i:Int)<=t/\t<s+((i+(n+1):Nat):Int);rw[au c,au a_];rw[ay c,ay a_]
theorem wG{s:Int}{b:dh}{f:Fl}(h:Sz f)(h1:0<=s)(h2:s+(nsec b:Int)<=128)(hb:0<b.length){m:Nat}(l:1<=m)(e:m<=nsec b)(t:Int) :
  sec (ui ((bV s b).take m) f) t=if t=s then gB else if s<t/\t<s+(m:Int) then l7 b (t-s).toNat else sec f t:=by
 have i:1<=nsec b:=by unfold nsec;omega
 obtain⟨m,rfl⟩:∃ k,m=k+1:=⟨m-1,a_⟩;have g:(BQ s b (nsec b-1) 1++[(⟨4,0,s,strOf (l7 b 0)⟩:Acc)]).take m=BQ s b m 1:=by apply YZ;intro j;rw[x8];by_cases c:j<m;rw[au c,YW (by rw[kZ];omega),aJv _ _ _ _ _ a_,aJv _ _ _ _ _ c];rw[ay c,YQ (by rw[kZ];omega)]
 rw[bV,aGN,g];show sec (ui (BQ s b m 1) (eX (-1) ⟨4,0,s,strOf gB⟩ f)) t=_;rw[aUz m 1 (rV h _ _) h1 a_,aVi h h1 a_ jS];by_cases a:t=s;subst a;rw[ay a_,au rfl,au rfl];rw[ay a,ay a];by_cases d:s<t/\t<s+((m+1:Nat):Int);rw[au d,au a_];rw[ay d,ay a_]
theorem iU(s:Int)(b:dh)(hb:0<b.length):(bV s b).length=nsec b+1:=by
 have a:1<=nsec b:=by unfold nsec;omega
 rw[bV,zl,gp,kZ,ZV];omega
theorem oP(s:Int)(b:dh)(hb:0<b.length):(bV s b)[nsec b]?=some ⟨4,0,s,strOf (l7 b 0)⟩:=by
 have c:1<=nsec b:=by unfold nsec;omega
 obtain⟨k,a⟩:∃ k,nsec b=k+1:=⟨nsec b-1,a_⟩;rw[bV,a,Ya,Ye (by rw[kZ];omega),kZ];simp
theorem aDs{s:Int}{b:dh}{m:Nat}(c:1<=m)(a:m<nsec b):(bV s b)[m]?=some ⟨4,0,s+(m:Int),strOf (l7 b m)⟩:=by obtain⟨k,rfl⟩:∃ k,m=k+1:=⟨m-1,a_⟩;rw[bV,Ya,YW (by rw[kZ];omega),aJv _ _ _ _ _ a_,show 1+k=k+1 from a_]
end
section
structure Om where
 gq:Int
 content:l9
 cut:Int
 bytes:Int
def bBl:EU:=⟨aG,0,0⟩
def zy(f:Fl)(u:Om):Fl×EU×Bool×jc:=match bHi u.cut u.bytes (aj.save u.gq u.content) f [] with
 |(a,some o,l)=>(a,o,true,l)|(a,none,l)=>(a,bBl,false,l)
theorem aQm(f:Fl)(rec:Int):Da f rec ((iw f rec).2:Int)=(iw f rec).1/\(Da f rec (1-((iw f rec).2:Int))).1<=(iw f rec).1.1:=by have b:=(oN rec (sZ f (dG rec 0))).1;have a:=(oN rec (sZ f (dG rec 1))).1;change 0<=(Da f rec 0).1 at b;change 0<=(Da f rec 1).1 at a;unfold iw xu;by_cases h:(Da f rec 0).1=0\/(Da f rec 0).1<(Da f rec 1).1;rw[au h];exact⟨rfl,by show (Da f rec 0).1<=(Da f rec 1).1;omega⟩;rw[ay h];exact⟨rfl,by show (Da f rec 1).1<=(Da f rec 0).1;omega⟩
theorem aAp(f:Fl)(rec:Int):0<=(iw f rec).1.1/\(iw f rec).1.1<=1099511627776:=by have:=oN rec (sZ f (dG rec ((iw f rec).2:Int)));change 0<=(Da f rec _).1/\(Da f rec _).1<=_ at this;rwa [(aQm f rec).1] at this
theorem TE{f:Fl}{rec:Int}(h:(iw f rec).2=0):0<(iw f rec).1.1:=by have b:=(oN rec (sZ f (dG rec 0))).1;change 0<=(Da f rec 0).1 at b;unfold iw xu at h ⊢;by_cases a:(Da f rec 0).1=0\/(Da f rec 0).1<(Da f rec 1).1;rw[au a] at h;cases h;rw[ay a];dsimp only;omega
theorem O1{f g:Fl}{rec:Int}(h:∀ k:Int,0<=k->k<=1->Da g rec k=Da f rec k):iw g rec=iw f rec:=by unfold iw;rw[h 0 a_ a_,h 1 a_ a_]
theorem TF{f g:Fl}{rec:Int}(h:Da g rec ((iw f rec).2:Int)=(iw f rec).1)(hb:Da g rec (1-((iw f rec).2:Int))=(0,[])):(iw g rec).1=(iw f rec).1:=by
 rcases aJk (Da f rec 0) (Da f rec 1) with b|b
 ·have a:(iw f rec).2=0:=b;have e:=TE a;rw[a] at h hb;have d:Da g rec 0=(iw f rec).1:=h;have c:Da g rec 1=(0,[]):=hb
  conv=>lhs;unfold iw
  rw[d,c];unfold xu;rw[ay (by dsimp only;omega)]
 ·have a:(iw f rec).2=1:=b;rw[a] at h hb;have c:Da g rec 1=(iw f rec).1:=h;have d:Da g rec 0=(0,[]):=hb
  conv=>lhs;unfold iw
  rw[d,c];unfold xu;rw[au (.inl rfl)]
theorem aUi{f g:Fl}{rec:Int}{x:dh}(h:Da g rec ((iw f rec).2:Int)=(iw f rec).1)(hb:Da g rec (1-((iw f rec).2:Int))=((iw f rec).1.1+1,x)):(iw g rec).1=((iw f rec).1.1+1,x):=by
 have e:=aAp f rec;rcases aJk (Da f rec 0) (Da f rec 1) with b|b
 ·have a:(iw f rec).2=0:=b;rw[a] at h hb;have d:Da g rec 0=(iw f rec).1:=h;have c:Da g rec 1=_:=hb
  conv=>lhs;unfold iw
  rw[d,c];unfold xu;rw[au (.inr (by dsimp only;omega))]
 ·have a:(iw f rec).2=1:=b;rw[a] at h hb;have c:Da g rec 1=(iw f rec).1:=h;have d:Da g rec 0=_:=hb
  conv=>lhs;unfold iw
  rw[d,c];unfold xu;rw[ay (by dsimp only;omega)]
def gm(f:Fl)(u:Om):dh:=encS u.gq ((iw f u.gq).1.1+1) u.content.data.toList
def jb(f:Fl)(u:Om):Int:=dG u.gq (1-((iw f u.gq).2:Int))
structure Fine(f:Fl)(u:Om):Prop where
 sz:Sz f
 r0:0<=u.gq
 r3:u.gq<=3
 c:u.content.size<=2000
 s:(iw f u.gq).1.1+1<=1099511627776
section
variable {f:Fl} {u:Om}
theorem Fine.len(h:Fine f u):0<(gm f u).length/\(gm f u).length<=2048:=by have e:=aQ ((iw f u.gq).1.1+1);have d:=aQ (u.content.data.toList.length:Int);have b:u.content.data.toList.length=u.content.size:=uA;have a:=h.c;unfold gm;rw[nG,pV];omega
theorem Fine.first(h:Fine f u):0<=jb f u/\jb f u+8<=64/\jb f u=16*u.gq+8*(1-((iw f u.gq).2:Int)):=by have b:=h.r0;have a:=h.r3;have c:(iw f u.gq).2=0\/(iw f u.gq).2=1:=aJk _ _;unfold jb;rw[vU b a a_ a_];omega
theorem Fine.nsec(h:Fine f u):1<=nsec (gm f u)/\nsec (gm f u)<=8:=by have:=h.len;unfold Go.Proofs.YtndpjopifkbgiaaGreatDoor.nsec;omega
theorem zW(h:Fine f u)(hc:u.cut<0\/17+(nsec (gm f u):Int)<=u.cut):zy f u=(ui (bV (jb f u) (gm f u)) f,⟨u.content,(iw f u.gq).1.1+1,0⟩,true,CQ u.gq++bV (jb f u) (gm f u)):=by
 obtain⟨b,d⟩:=aId (c:=u.content) h.r0 h.r3 h.c h.s;have a:=(PK u.gq f).2.2;rw[(PK u.gq f).1] at a;unfold zy
 rw[aDh,dif_neg (by
  rw[b,gp,mZ];change ¬(_/\_<16+(bV (jb f u) (gm f u)).length);rw[iU _ _ h.len.1,List.length_nil]
  omega)]
 dsimp only;rw[b,d,aGa,a];rfl
theorem aVx(h:Fine f u)(h0:0<=u.cut)(h1:u.cut<16):zy f u=(f,bBl,false,(CQ u.gq).take (u.cut.toNat+1)):=by
 obtain⟨j,x⟩:=aId (c:=u.content) h.r0 h.r3 h.c h.s
 have k:∀ (s:Int) (n:Nat) (a:Acc),a∈Y_ s n->a.kind=3:=by
  intro s n
  induction n with
  |zero=>intro a d;cases d|succ n m=>intro a d;rcases List.mem_cons.1 d with rfl|d;rfl;exact m a d
 have e:∀ a∈CQ u.gq,a.kind=3:=fun a d=>by rcases List.mem_append.1 d with d|d;exact k _ _ a d;exact k _ _ a d
 have p:∀ (L:jc) (g:Fl),(∀ a∈L,a.kind=3)->ui L g=g:=by
  intro L
  induction L with
  |nil=>intro g _;rfl|cons a L m=>intro g r;show ui L (eX (-1) a g)=g;rw[show eX (-1) a g=g from au (r a MM)];exact m g fun b w=>r b (VM _ w)
 have l:(u.cut-(([]:jc).length:Int)).toNat=u.cut.toNat:=b_;have i:u.cut.toNat<(CQ u.gq).length:=by rw[mZ];omega
 unfold zy;rw[aDh,dif_pos ⟨by simpa using h0,by rw[j,l,gp];omega⟩];dsimp only;have t:(mg (aj.save u.gq u.content) f).take u.cut.toNat=(CQ u.gq).take u.cut.toNat:=by rw[j,aAW a_]
 have o:(mg (aj.save u.gq u.content) f).take (u.cut.toNat+1)=(CQ u.gq).take (u.cut.toNat+1):=by rw[j,aAW a_]
 have q:(mg (aj.save u.gq u.content) f)[(u.cut-(([]:jc).length:Int)).toNat]?=(CQ u.gq)[u.cut.toNat]?:=by rw[l,j,YW i]
 rw[Ha];rw[zH (by rw[l,j,gp];omega),zH i] at q;rw[Option.some.inj q];simp only[l];rw[t,o,p _ f (fun a d=>e a (List.mem_of_mem_take d))];rw[show eX (max 0 u.bytes) (CQ u.gq)[u.cut.toNat] f=f from au (e _ (ZN i))]
theorem aOi(h:Fine f u){j:Nat}(hc:u.cut=16+(j:Int))(o:j<=nsec (gm f u))(a:Acc)(l:(bV (jb f u) (gm f u))[j]?=some a) :
  zy f u=(eX (max 0 u.bytes) a (ui ((bV (jb f u) (gm f u)).take j) f),bBl,false,CQ u.gq++(bV (jb f u) (gm f u)).take (j+1)):=by
 obtain⟨d,n⟩:=aId (c:=u.content) h.r0 h.r3 h.c h.s;change mg (aj.save u.gq u.content) f=CQ u.gq++bV (jb f u) (gm f u) at d;have g:=(PK u.gq f).2.2;rw[(PK u.gq f).1] at g;have e:(u.cut-(([]:jc).length:Int)).toNat=16+j:=jr;have b:(mg (aj.save u.gq u.content) f).length=16+(nsec (gm f u)+1):=by rw[d,gp,mZ,iU _ _ h.len.1]
 unfold zy;rw[aDh,dif_pos ⟨jr,by rw[e,b];omega⟩];dsimp only;have k:(mg (aj.save u.gq u.content) f)[(u.cut-(([]:jc).length:Int)).toNat]?=some a:=by rw[e,d,Ye (by rw[mZ];omega),mZ,show 16+j-16=j from a_];exact l
 rw[zH (by rw[e,b];omega)] at k;rw[Option.some.inj k,Ha];simp only[e];have i:∀ m,(mg (aj.save u.gq u.content) f).take (16+m)=CQ u.gq++(bV (jb f u) (gm f u)).take m:=fun m=>by rw[d,List.take_append,mZ,show 16+m-16=m from a_,YY (by rw[mZ];omega)]
 rw[i j,show 16+j+1=16+(j+1) from a_,i (j+1),aGa,g]
theorem aMv(h:Fine f u){j:Nat}(n:j<=nsec (gm f u))(a:Acc)(c:(bV (jb f u) (gm f u))[j]?=some a)(cut:Int):Sz (eX cut a (ui ((bV (jb f u) (gm f u)).take j) f)) /\
  ∀ t,(t<jb f u\/jb f u+8<=t)->sec (eX cut a (ui ((bV (jb f u) (gm f u)).take j) f)) t=sec f t:=by
 have l:=h.len;have o:=h.first;have r:=h.nsec;have k:Sz (ui ((bV (jb f u) (gm f u)).take j) f):=aPu h.sz;refine⟨rV k _ _,fun t q=>?_⟩
 have p:∃ (m:Nat) (b:dh),m<8/\b.length=256/\a=⟨4,0,jb f u+(m:Int),strOf b⟩:=by
  rcases ZP j with rfl|d;rw[bV,Yv] at c;cases c
  exact⟨0,gB,a_,jS,b_⟩;rcases aAX n with g|rfl;rw[aDs d g] at c;cases c
  exact⟨j,_,a_,dR _ _,rfl⟩;rw[oP _ _ l.1] at c;cases c;exact⟨0,l7 (gm f u) 0,a_,dR _ _,b_⟩
 obtain⟨m,b,s,i,rfl⟩:=p;have e:eX cut ⟨4,0,jb f u+(m:Int),strOf b⟩ (ui ((bV (jb f u) (gm f u)).take j) f)=iO (ui ((bV (jb f u) (gm f u)).take j) f) (jb f u+(m:Int)) (strOf b) cut:=rfl;rw[e,mX k a_ a_ i,ay a_];rcases ZP j with rfl|d;rfl;rw[wG h.sz o.1 a_ l.1 d n,ay a_,ay a_]
theorem Ht(h:Fine f u):ui (bV (jb f u) (gm f u)) f=eX (-1) ⟨4,0,jb f u,strOf (l7 (gm f u) 0)⟩ (ui ((bV (jb f u) (gm f u)).take (nsec (gm f u))) f):=by
 have a:=h.len;have e:bV (jb f u) (gm f u)=(bV (jb f u) (gm f u)).take (nsec (gm f u))++[⟨4,0,jb f u,strOf (l7 (gm f u) 0)⟩]:=by apply YZ;intro i;rcases Nat.lt_trichotomy i (nsec (gm f u)) with b|rfl|b;rw[YW (by rw[xe,iU _ _ a.1];omega),x8,au b];rw[oP _ _ a.1,Ye (by rw[xe];omega),xe,iU _ _ a.1,aAs a_,Yf];rfl;rw[YQ (by rw[iU _ _ a.1];omega),YQ (by rw[gp,xe,iU _ _ a.1,ZV];omega)]
 conv=>lhs;rw[e,aGa]
 rfl
theorem last_at(h:Fine f u)(cut:Int)(i:Nat):let W:=sZ (eX cut ⟨4,0,jb f u,strOf (l7 (gm f u) 0)⟩ (ui ((bV (jb f u) (gm f u)).take (nsec (gm f u))) f)) (jb f u)
  (i<(gm f u).length->(cut<0\/256<=cut\/(i:Int)<cut\/256<=i)->W[i]?=(gm f u)[i]?)/\(0<=cut->cut<256->cut<=i->i<256->W[i]?=some 0):=by
 intro W;have p:=h.len;have g:=h.first;have o:=h.nsec;have l:Sz (ui ((bV (jb f u) (gm f u)).take (nsec (gm f u))) f):=aPu h.sz;have d:=rV l cut ⟨4,0,jb f u,strOf (l7 (gm f u) 0)⟩
 have a:∀ t,sec (eX cut ⟨4,0,jb f u,strOf (l7 (gm f u) 0)⟩ (ui ((bV (jb f u) (gm f u)).take (nsec (gm f u))) f)) t=if t=jb f u then Ah cut (l7 (gm f u) 0) gB else if jb f u<t/\t<jb f u+(nsec (gm f u):Int) then l7 (gm f u) (t-jb f u).toNat else sec f t:=fun t=>by
  have e:eX cut ⟨4,0,jb f u,strOf (l7 (gm f u) 0)⟩ (ui ((bV (jb f u) (gm f u)).take (nsec (gm f u))) f)=iO (ui ((bV (jb f u) (gm f u)).take (nsec (gm f u))) f) (jb f u) (strOf (l7 (gm f u) 0)) cut:=rfl;rw[e,mX l g.1 a_ (dR _ _)];have w:=fun t=>wG h.sz g.1 (b:=gm f u) a_ p.1 o.1 (dC _) t;rw[w t,w (jb f u),au rfl];split
  rfl;rfl
 have c:i<2048->W[i]?=(sec (eX cut ⟨4,0,jb f u,strOf (l7 (gm f u) 0)⟩ (ui ((bV (jb f u) (gm f u)).take (nsec (gm f u))) f)) (jb f u+((i / 256:Nat):Int)))[i % 256]?:=fun q=>by have:=aXt d g.1 a_ (i:=i / 256) (j:=i % 256) a_ a_;rw[show 256*(i / 256)+i % 256=i from a_] at this;exact this
 refine⟨fun q m=>?_,fun y x s r=>?_⟩;rw[c a_,a];by_cases n:i<256;rw[au a_,show i % 256=i from a_];unfold Ah;by_cases k:cut<0\/((l7 (gm f u) 0).length:Int)<=cut;rw[au k,aSc n a_,aEP,ik];rw[ay k];rw[dR] at k;rw[YW (by rw[xe,dR];omega),x8,au a_,aSc n a_,aEP,ik];rw[ay a_,au (by unfold nsec;omega),show (jb f u+((i / 256:Nat):Int)-jb f u).toNat=i / 256 from a_,aSc a_ a_,show 256*(i / 256)+i % 256=i from a_];rw[c a_,a,au a_,show i % 256=i from a_];unfold Ah;rw[ay (by rw[dR];omega),Ye (by rw[xe,dR];omega),xe,dR,YN,xP a_]
inductive V7(f:Fl)(u:Om)(x:Int×dh):Prop
 |old (h:x=Da f u.gq (1-((iw f u.gq).2:Int)))
 |bad (h:x=(0,[]))
 |new (h:x=((iw f u.gq).1.1+1,u.content.data.toList))
 |odd (s:dh) (h:x=((iw f u.gq).1.1+1,s)) (hl:s.length<=2000) (hc:∀ i,i<(encS u.gq ((iw f u.gq).1.1+1) s).length->(encS u.gq ((iw f u.gq).1.1+1) s)[i]?=some 0\/(i<(gm f u).length/\(encS u.gq ((iw f u.gq).1.1+1) s)[i]?=(gm f u)[i]?))
theorem aDz(h:Fine f u){cut:Int}(hc:cut<0\/256<=cut):qw u.gq (sZ (eX cut ⟨4,0,jb f u,strOf (l7 (gm f u) 0)⟩ (ui ((bV (jb f u) (gm f u)).take (nsec (gm f u))) f)) (jb f u))=((iw f u.gq).1.1+1,u.content.data.toList):=by
 have g:=aAp f u.gq;have a:=last_at h cut;obtain⟨W,d⟩:=lm (sZ (eX cut ⟨4,0,jb f u,strOf (l7 (gm f u) 0)⟩ (ui ((bV (jb f u) (gm f u)).take (nsec (gm f u))) f)) (jb f u));rw[d] at a ⊢
 have e:W=gm f u++W.drop (gm f u).length:=by
  have:W.take (gm f u).length=gm f u:=by apply YZ;intro i;rw[x8];split;rename_i b;exact (a i).1 b a_;rw[YQ a_]
  conv=>lhs;rw[<-ZZ (gm f u).length W,this]
 rw[e];exact aMc _ _ _ _ a_ h.s (by rw[uA];exact h.c)
theorem yT{g:Fl}(d:Sz g){s:Int}(h1:0<=s)(h2:s+8<=128)(h:(sec g s)[0]?=some 0)(rec:Int):qw rec (sZ g s)=(0,[]):=by
 have a:=aXt d h1 h2 (i:=0) (j:=0) a_ a_;rw[show s+((0:Nat):Int)=s from a_,h] at a;cases c:sZ g s with
 |nil=>rw[c] at a;cases a|cons b l=>rw[c] at a;cases a;exact bIa _ _
theorem aYd(h:Fine f u){j:Nat}(D:j<=nsec (gm f u))(a:Acc)(m:(bV (jb f u) (gm f u))[j]?=some a){cut:Int}(h0:0<=cut):V7 f u (Da (eX cut a (ui ((bV (jb f u) (gm f u)).take j) f)) u.gq (1-((iw f u.gq).2:Int))):=by
 have C:=h.len;have p:=h.first;have J:=h.nsec;have K:=aAp f u.gq;have A:Sz (ui ((bV (jb f u) (gm f u)).take j) f):=aPu h.sz;have E:∀ g,Da g u.gq (1-((iw f u.gq).2:Int))=qw u.gq (sZ g (jb f u)):=fun g=>rfl;rw[E];rcases ZP j with rfl|B;rw[bV,Yv] at m;cases m;have e:eX cut ⟨4,0,jb f u,strOf gB⟩ (ui ((bV (jb f u) (gm f u)).take 0) f)=iO f (jb f u) (strOf gB) cut:=rfl;have d:=mX h.sz p.1 a_ (b:=gB) jS cut;rw[e]
 by_cases y:cut=0;subst y;refine .old ?_;rw[E];congr 1;refine yQ fun t N L=>?_;rw[d];split;rename_i G;subst G;unfold Ah;rw[ay (by rw[jS];decide)];simp;rfl;refine .bad (yT (aFx h.sz _ _ _) p.1 a_ ?_ _);rw[d,au rfl];unfold Ah;split;exact xP a_;rename_i I;have:gB.length=256:=jS;rw[YW (by rw[xe];omega),x8,au a_];exact xP a_
 ·rcases aAX D with r|rfl;rw[aDs B r] at m;cases m;refine .bad (yT (rV A _ _) p.1 a_ ?_ _);have e:eX cut ⟨4,0,jb f u+(j:Int),strOf (l7 (gm f u) j)⟩ (ui ((bV (jb f u) (gm f u)).take j) f)=iO (ui ((bV (jb f u) (gm f u)).take j) f) (jb f u+(j:Int)) (strOf (l7 (gm f u) j)) cut:=rfl;rw[e,mX A a_ a_ (dR _ _),ay a_,wG h.sz p.1 a_ C.1 B D,au rfl];exact xP a_
  ·rw [oP _ _ C.1] at m;cases m;by_cases y:256<=cut;exact .new (aDz h (.inr y))
   ·by_cases x:cut.toNat<=(gm f u).length;have k:=last_at h cut;obtain⟨W,z⟩:=lm (sZ (eX cut ⟨4,0,jb f u,strOf (l7 (gm f u) 0)⟩ (ui ((bV (jb f u) (gm f u)).take (nsec (gm f u))) f)) (jb f u));rw[z] at k ⊢;rcases aQi (rec:=u.gq) (seq:=(iw f u.gq).1.1+1) (c:=u.content.data.toList) (W:=W) (cut:=cut.toNat) a_ h.s (by rw[uA];exact h.c) x (fun i o=>(k i).1 a_ a_) (fun i o n=>(k i).2 h0 a_ a_ n) with w|⟨s,w,l,F⟩;exact .bad w;have H:(encS u.gq ((iw f u.gq).1.1+1) s).length<=(gm f u).length:=aQb _ _ l;refine .odd s w (by have:=h.c;rw[uA] at l;change s.length<=u.content.size at l;omega) fun i o=>?_
    have q:(encS u.gq ((iw f u.gq).1.1+1) s)[i]?=W[i]?:=by rw[<-F,x8,au o]
    rw[q];by_cases n:(i:Int)<cut\/256<=i;exact .inr ⟨a_,(k i).1 a_ a_⟩;exact .inl ((k i).2 h0 a_ a_ a_)
    ·refine .new ?_;have k:=last_at h cut;obtain⟨W,z⟩:=lm (sZ (eX cut ⟨4,0,jb f u,strOf (l7 (gm f u) 0)⟩ (ui ((bV (jb f u) (gm f u)).take (nsec (gm f u))) f)) (jb f u));rw[z] at k ⊢
     have e:W=gm f u++W.drop (gm f u).length:=by
      have:W.take (gm f u).length=gm f u:=by apply YZ;intro i;rw[x8];split;rename_i o;exact (k i).1 o a_;rw[YQ a_]
      conv=>lhs;rw[<-ZZ (gm f u).length W,this]
     rw[e];exact aMc _ _ _ _ a_ h.s (by rw[uA];exact h.c)
end
end
end Go.Proofs.YtndpjopifkbgiaaGreatDoor
