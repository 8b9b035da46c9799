/-
  Several texts in one file: each has its own heading below.
-/
import Derived.Test.YtndpjopifkbgiaaGreatDoorMsH
import Derived.Test.YtndpjopifkbgiaaGreatDoorMsA
import Derived.Scope
import Derived.WalkMore
namespace Go.Proofs.YtndpjopifkbgiaaGreatDoor
open Go.RowKit Tryz
open _root_.Nat renaming le_refl->dE,beq->bz,lt_of_lt_of_le->Y1,le_of_ble_eq_true->Yz,ble_eq_true_of_le->aGh,zero_add->lL,le_trans->mr,blt->XN,ble->YZ
open _root_.Go renaming Program->gp,World->ae,Value->ag,callFunc->Xy,TypeId->bu
open _root_.List renaming mem_of_getElem?->Yy,mem_cons_self->Xv,prefix_append->Yb,getElem?_zip_eq_some->aGL,all_cons->aBc,mem_cons_of_mem->Y3,prefix_refl->aAE,map_cons->YQ
open _root_.Bool renaming and_eq_true->PP
open _root_.Array renaming replicate->yz,getElem?_append_left->aEV
namespace Pv
section
variable {P:gp} {I:ae->Prop} {A:n_} {s:St} {a:Act} {w:ae} {env:Env} {F:Option Bool->PV->Wr->Prop}
theorem gu.AQ(h:gu A s a w env)(d:Nat)(e n len:Nat){f:Nat->List PC}{v:ag}{xs:List ag}{w':ae}(x:Ext w w')(j:w'.ownsRow w.heap.size e n v len xs)(hr:∀ C:Ctx,∀ i,i<len->RL C (f i) ((xs.drop (i*n)).take n)) :
  ∃ c,gu A { s with o:=[(d,none,fresh s d,.arr e n len f)]++s.o } a w' c/\RV (aT A w' c) (d_ (.ow d (fresh s d) n 0 len)) v:=by
 have m:w'.ownsRow 0 e n v len xs:=⟨j.1,j.2.imp id (fun⟨g,cap,cur,p,_,y⟩=>⟨g,cap,cur,p,Nat.zero_le _,y⟩)⟩;obtain⟨l,q,rfl⟩:=oN j
 obtain⟨p,z⟩:=h.new (w':=w') d none (.slice l len q) (.arr e n len f) x (fun b u=>by
   have k:(Value.slice l len q).ownBlock=some b:=by cases l<;>exact u
   exact⟨(j.lt b k).2,(j.lt b k).1⟩)
  (fun r _=>⟨xs,yU m,fun i t=>hr _ i t⟩)
 refine⟨_,p,.w (.one (.ow ⟨_,_,rfl⟩ ⟨_,_,iR _ _ _ _,dE _,fun _=>⟨_,_,_,rfl,by omega,?_⟩⟩))⟩;cases l with
 |none=>simp|some B=>simp[Addr.add]
def RZ (c:PC) (k:PC->M):M:=match c with
 |.lit v=>k (.lit v)|.bs n l=>k (.bs n l)|.sl n len f=>k (.sl n len f)| .ow x d n b len=>.obj x fun g e j=>jV g (match bz d e,j with
  |true,.arr _ m h f=>(match bz n m with
   |true=>.need (b+len<=h/\∀ i,i<len->(f (b+i)).all (dJ false)=true) (k (.sl n len (fun i=>f (b+i))))|false=>.fail)
  |_,_=>.fail)
 | .ob x d b len=>.obj x fun g e j=>jV g (match bz d e,j with
  | true,.box _ l=>(match xu l b with
   |some (m,bs)=>(match bz len m with
    |true=>k (.sl 1 len (m_ bs))|false=>.fail)
   |none=>.fail)
  |_,_=>.fail)
 |.any=>k .any|_=>.fail
def Wq:List PC->(List PC->M)->M
 |[],k=>k []|c::l,k=>RZ c fun c=>Wq l fun l=>k (c::l)
def Wp(v:PV)(k:PV->M):M:=match v with
 |.w (.one c)=>RZ c fun c=>k (.w (.one c))|.w (.agg l)=>Wq l fun l=>k (.w (.agg l))|_=>.fail
def ER:List PV->(List PV->M)->M
 |[],k=>k []|v::l,k=>Wp v fun v=>ER l fun l=>k (v::l)
def aSr(w:ae):Ctx:={ w,ok:=fun _=>True,env:=fun _=>none }
theorem aSe:(aT A w env).cold.Le (aSr w).cold:=⟨dE _,fun b _ _=>⟨trivial,rfl⟩,fun _ _ _ h=>by cases h⟩
theorem bLq(h:gu A s a w env){c:PC}{xs:List ag}(hr:R (aT A w env) c xs){k:PC->M}(d:(RZ c k).ok none s F):∃ c',R (aSr w) c' xs/\(k c').ok none s F:=by
 unfold RZ at d;split at d;cases hr;exact⟨_,.lit ou,d⟩;cases hr;exact⟨_,.bs ou,d⟩;cases hr with
 |sl Z h2 h3=>exact⟨_,.sl Z (fun g K hl=>⟨trivial,(h2 g K hl).2⟩) (fun i J=>(h3 i J).le aSe),d⟩
 ·rename_i x r n p len;obtain⟨g,O,S,B,d⟩:=d;have z:=eG d;clear d;obtain⟨K,d⟩:=z;obtain⟨hd,t,y⟩:=kL h B K
  cases o:bz r O<;>cases S<;>simp only[o] at d<;>try exact d.elim
  rename_i e m Q f;obtain rfl:=iq o
  cases L:bz n m<;>rw[L] at d
  exact d.elim;obtain rfl:=iq L;obtain⟨⟨V,C⟩,d⟩:=d;cases hr with
  | ow Z D=>
   obtain⟨A0,n0,c0,rfl,a0,rfl⟩:=D.now t;obtain⟨vs,H,W⟩:=y;have G:=Reads.yh H;have U:n0=Q:=by obtain⟨_,A1,c1,e1,_⟩:=G;cases e1;rfl
   subst U;refine⟨_,.sl (vs:=(vs.drop (p*n)).take (len*n)) (nT V G) (fun b o a1=>⟨trivial,?_⟩) (fun i J=>?_),d⟩;cases A0 with
   |none=>simp[Value.ownBlock] at o|some ad=>simp only[Option.map_some,Value.ownBlock,Option.some.injEq,qW] at o;exact (h.live x r _ b t (by simp[hblk,o])).1
   rw[kG vs J];exact (jY (W _ a_) (C i J)).le aSe
 ·rename_i x r p len;obtain⟨g,O,S,B,d⟩:=d;have z:=eG d;clear d;obtain⟨K,d⟩:=z;obtain⟨hd,t,y⟩:=kL h B K
  cases o:bz r O<;>cases S<;>simp only[o] at d<;>try exact d.elim
  rename_i bt l;obtain rfl:=iq o;cases T:xu l p with
  |none=>rw[T] at d;exact d.elim| some q=>
   obtain⟨m,bs⟩:=q;rw[T] at d;dsimp only at d
   cases N:bz len m<;>rw[N] at d
   exact d.elim;obtain rfl:=iq N;cases hr with
   |ob Z D=>obtain⟨g1,c,rfl,Y,X,rfl⟩:=D.now t;obtain⟨g2,cs,e2,hB,hR⟩:=y;cases e2;obtain⟨k1,k2,k3⟩:=pW hR T;have E:=jU hB.range p len;rw[lL,k2] at E;refine⟨_,.sl (vs:=bs.map qj) ⟨by simp[k1],_,c,rfl,Y,X,fun hn=>⟨g1,p,rfl,fun j u hj=>E j u hj⟩⟩ (fun b o _=>⟨trivial,?_⟩) (fun i J=>oU _ bs i a_),d⟩;simp only[Value.ownBlock,Option.some.injEq] at o;subst o;exact hB.lt
 cases hr;exact⟨_,.any ou,d⟩;exact d.elim
theorem bLp(h:gu A s a w env):∀ {l:List PC} {i:List ag} {k:List PC->M},RL (aT A w env) l i->(Wq l k).ok none s F->∃ b,RL (aSr w) b i/\(k b).ok none s F
 |[],_,k,d,g=>by cases d;exact⟨[],.nil,g⟩| c::l,_,k,d,g=>by
  cases d with
  |cons o n=>obtain⟨p,m,f⟩:=bLq h o g;obtain⟨b,j,e⟩:=bLp h n f;exact⟨p::b,.cons m j,e⟩
theorem RY(h:gu A s a w env){v:PV}{val:ag}{k:PV->M}(hr:RV (aT A w env) v val)(b:(Wp v k).ok none s F):∃ e,RV (aSr w) e val/\(k e).ok none s F:=by
 unfold Wp at b;split at b;obtain⟨g,d,c⟩:=bLq h hr.inv b;exact⟨_,.w (.one d),c⟩;cases hr with
 | w hr=>cases hr with
  |agg hr=>obtain⟨f,d,c⟩:=bLp h hr b;exact⟨_,.w (.agg d),c⟩
 exact b.elim
theorem aNd(h:gu A s a w env):∀ {c:List PV} {l:List ag} {k:List PV->M},oh (aT A w env) c l->(ER c k).ok none s F->∃ b,oh (aSr w) b l/\(k b).ok none s F
 |[],[],k,_,f=>⟨[],trivial,f⟩|[],_::_,_,h,_=>h.elim|_::_,[],_,h,_=>h.elim|v::c,x::l,k,⟨h1,h2⟩,f=>by obtain⟨g,j,e⟩:=RY h h1 f;obtain⟨b,i,d⟩:=aNd h h2 e;exact⟨g::b,⟨j,i⟩,d⟩
def uK:PV->Bool
 |.w (.one c)=>dJ false c|.w (.agg l)=>l.all (dJ false)|_=>false
def aZ(new:Bool)(g:List PV->Option (Prop×PV)):Spec:=fun _ b=>match new with
 |true=>ER b fun c=>(match g c with
  |some (p,r)=>.need p (.ret r)|none=>.fail)
 |false=>(match b.all uK,g b with
  |true,some (p,r)=>.need p (.ret r)|_,_=>.fail)
theorem aZm{C:Ctx}{v:PV}{x:ag}(h:RV C v x)(hc:uK v=true):RV C.cold v x:=by
 unfold uK at hc;split at hc;exact .w (.one (aHh h.inv hc));cases h with
 |w h=>cases h with
  |agg h=>exact .w (.agg (jY h hc))
 cases hc
theorem aHg{C:Ctx}:∀ {b:List PV} {l:List ag},oh C b l->b.all uK=true->oh C.cold b l
 |[],[],_,_=>trivial|[],_::_,h,_=>h.elim|_::_,[],h,_=>h.elim|v::b,x::l,⟨h1,h2⟩,hc=>by rw[aBc,PP] at hc;exact⟨aZm h1 hc.1,aHg h2 hc.2⟩
theorem bHf(h:gu A s a w env){w':ae}(_:Ext w w'){new:Bool}:({ w:=w',ok:=fun b=>(new=false/\(aT A w env).ok b)\/w.heap.size<=b,env:=fun _=>none }:Ctx).Le (aT A w' env):=
 ⟨
  dE _,fun b _ c=>⟨(by
  rcases c with⟨_,c⟩|c;exact c
  exact⟨.inr (mr h.gy.size c),fun x d g f e=>by have:=(h.live x d g b f e).1;omega⟩),rfl⟩,fun _ _ _ h=>by cases h⟩
theorem aW{f:Nat}{new:Bool}{g:List PV->Option (Prop×PV)}(k:∀ args w,(Xy f args).run P w=.ok (.enter f args) w)(B:∀ x p r,g x=some (p,r)->p->fP P I f new x r):ai P I f (aZ new g):=by
 refine⟨k,fun A s a w env J i y F h D z c=>?_⟩;unfold aZ at c;cases new with
 | true=>
  obtain⟨u,H,c⟩:=aNd h z c;cases j:g u with
  |none=>rw[j] at c;exact c.elim|some q=>obtain⟨p,r⟩:=q;rw[j] at c;obtain⟨n,t⟩:=c;refine (B u p r j n w (fun _=>True) y (D.mem w h.gy) H).mono ?_;rintro e E ⟨d,rfl,l,m⟩;refine .inl ⟨r,[],d,env,rfl,t,h.ext l,m.le ⟨dE _,fun b G o=>?_,fun _ _ _ h=>by cases h⟩⟩;exact (bHf (new:=true) h l).blk b G (o.elim (fun h=>by cases h.1) (fun h=>.inr h))
 |false=>
  dsimp only at c
  cases C:i.all uK<;>cases j:g i<;>simp only[C,j] at c<;>try exact c.elim
  rename_i q;obtain⟨p,r⟩:=q;obtain⟨n,t⟩:=c;refine (B i p r j n w (aT A w env).ok y (D.mem w h.gy) (aHg z C)).mono ?_;rintro e E ⟨d,rfl,l,m⟩;exact .inl ⟨r,[],d,env,rfl,t,h.ext l,m.le (bHf (new:=false) h l)⟩
end
end Pv
namespace Pv
theorem bLi{C f:Ctx}:∀ {l:List PC} {a:List ag},RL C l a->l.all (dJ true)=true->RL f l a
 |[],_,h,_=>by cases h;exact .nil| c::l,a,h,hc=>by
  rw[aBc,PP] at hc;cases h with
  |cons e d=>
   refine .cons ?_ (bLi d hc.2);have b:=hc.1
   cases e<;>first|exact .lit ou|exact .bs ou|(cases b;done)
def T_(P:gp)(I:ae->Prop)(f:Nat)(args:List PV)(e n len:Nat)(h:Nat->List PC):Prop:=
 ∀ (w:ae) (b:Nat->Prop) (g:List ag),I w->oh { w,ok:=b,env:=fun _=>none } args g ->
  Calls P f g.toArray w fun r d=>∃ a c,r=.returned a/\Ext w d/\d.ownsRow w.heap.size e n a len c/\∀ (C:Ctx) i,i<len->RL C (h i) ((c.drop (i*n)).take n)
def O7(P:gp)(fn:Func)(e n len:Nat)(b:Nat->List PC)(s:St):Prop:=∃ x a g f,(AA P fn.results).ok none s (fun _ c wr=>c=d_ (.ow x a n 0 len)/\wr=[])/\find s.o x=some (g,a,.arr e n len f)/\gT g/\∀ i,i<len->f i=b i/\(b i).all (dJ true)=true
def RQR(P:gp)(A:n_)(fn:Func)(e n len:Nat)(b:Nat->List PC):Exit->Act->ae->Prop
 |.panic chain,a,w=>a.defers=[]/\DT A chain w|x,a,w=>(x=.normal\/x=.ret)/\∃ s,O7 P fn e n len b s/\qh A s a w
theorem aDo{P:gp}{fn:Func}{e n len x jm:Nat}{g:Option Bool}{f b:Nat->List PC}{s:St}{out:Out}(h:(AA P fn.results).exec none s [] [] [] []=some out)(hc:All out.conds)(d:out.wr=[])(c:out.val=d_ (.ow x jm n 0 len))(l:find s.o x=some (g,jm,.arr e n len f))(k:gT g)(a:∀ i,i<len->f i=b i/\(b i).all (dJ true)=true):O7 P fn e n len b s:=by rw[aBl] at h;exact⟨x,jm,g,f,M.zf _ none s out _ h (fun p j=>hc.mem p j) ⟨c,d⟩,l,k,a⟩
theorem aBi{P:gp}{I:ae->Prop}{f:Nat}{fn:Func}{c:Code}{args:List PV}{e n len:Nat}{z:Nat->List PC}(hf:P.funcs[f]?=some fn)(hb:fn.body=some c)(q:YZ args.length fn.ntmps=true)(hI:∀ w b,Ext w b->I w->I b)
  (hT:∀ A:n_,A.S=Non->A.nt=fn.ntmps->o5 P I A->lh P A ⟨slots 0 args,[]⟩ c (RQR P A fn e n len z)) (G:XN e Eg=true:=by rfl):T_ P I f args e n len z:=by
 intro w m vs O T;have hn:=Yz q;have U:=T.length;refine calls_of_wp hf hb (wp_mono (hT (n_.plain w m fn.ntmps) rfl rfl (o5.plain fun b hc=>hI w b hc O) _ w (aGt q T) (fun _ _ _ X h=>⟨X,h⟩)) (fun x Q b W=>?_))
 have N:(x=.normal\/x=.ret)/\∃ s,O7 P fn e n len z s/\qh (n_.plain w m fn.ntmps) s Q b:=by
  cases x with
  |panic chain=>obtain⟨_,l,hl,_⟩:=W;exact hl.elim
  |_=>exact W
 obtain⟨y,s,⟨x0,D,g,f0,h2,K,J,r⟩,h4⟩:=N;obtain⟨a0,u⟩:=h4;obtain⟨v',j,h5,h6,h7,_⟩:=wB u h2;subst h7;obtain⟨X,t,E⟩:=kL u K J;obtain⟨B,o,c0,rfl,V,rfl⟩:=h6.zl t;obtain⟨k,a,L⟩:=E;have F:o=len:=by obtain⟨_,A1,c1,e1,_⟩:=Reads.yh a;cases e1;rfl
 have a:=a.plain G;subst F
 have Y:B.map (fun p=>p.add (0*n))=B:=by
  cases B with
  |none=>rfl|some ad=>simp[Addr.add]
 have d:b.ownsRow w.heap.size e n (.slice B o c0) o k:=⟨a.1,a.2.imp id (fun⟨g,cap,cur,y,_,h3⟩=>⟨g,cap,cur,y,by
  have:=(u.live x0 D _ g t (by rw[y];rfl)).2
  exact this.resolve_right (fun h=>h.1),h3⟩)⟩
 have this:Q.defers=[]/\∃ v,(results fn Q.tmps).run P b=.ok v b/\∃ j k,Ending.returned v=.returned j/\Ext w b/\b.ownsRow w.heap.size e n j o k/\∀ (C:Ctx) i,i<o->RL C (z i) ((k.drop (i*n)).take n):=by
  refine⟨u.defers,_,h5,_,k,rfl,u.gy,?_,fun C i H=>?_⟩
  ·first|exact d|(simp only[Nat.zero_mul,Nat.sub_zero] at Y ⊢;rw[Y];exact d)
  have Z:=L i H;rw[(r i H).1] at Z;exact bLi Z (r i H).2
 rcases y with rfl|rfl<;>exact this
def aFa(g:List PV->Option (Prop×Nat×Nat×Nat×(Nat->List PC))):Spec:=fun a c=>ER c fun b=>match g b with
 |some (p,e,n,len,f)=>.need p (.new a (.arr e n len f) fun v=>.ret (d_ (.ow a v n 0 len)))|none=>.fail
theorem xI{P:gp}{I:ae->Prop}{f:Nat}{g:List PV->Option (Prop×Nat×Nat×Nat×(Nat->List PC))}(c:∀ args w,(Xy f args).run P w=.ok (.enter f args) w)(C:∀ j p e n len d,g j=some (p,e,n,len,d)->p->T_ P I f j e n len d):ai P I f (aFa g):=by
 refine⟨c,fun A s a w K u t m F h D x b=>?_⟩;unfold aFa at b;obtain⟨l,J,b⟩:=aNd h x b;cases k:g l with
 |none=>rw[k] at b;exact b.elim|some q=>obtain⟨p,e,n,len,d⟩:=q;rw[k] at b;obtain⟨z,b⟩:=b;refine (C l p e n len d k z w (fun _=>True) m (D.mem w h.gy) J).mono ?_;rintro r L ⟨o,j,rfl,E,B,y⟩;obtain⟨i,H,G⟩:=h.AQ u e n len (f:=d) E B y;exact .inl ⟨_,_,_,i,rfl,b,H,G⟩
@[simp] theorem Z8(b:Bool):Iu true b=b:=rfl
@[simp] theorem VB(b:Bool):Iu false b=!b:=rfl
@[simp] theorem aDX:All []=True:=rfl
@[simp] theorem ZV(p:Prop)(l:List Prop):All (p::l)=(p/\All l):=rfl
@[simp] theorem aGH(p:Prop):hP none p=p:=rfl
@[simp] theorem aGG(b:Bool)(p:Prop):hP (some b) p=(b=true->p):=rfl
structure Ob where
 x:Nat
 t:bu
 l:List PC
 l':List PC
def OW(os:List Ob)(x:Nat):Bool:=os.any fun o=>bz o.x x
theorem oP{os:List Ob}{x:Nat}(h:OW os x=true):∃ o∈os,o.x=x:=by obtain⟨o,b,a⟩:=List.any_eq_true.1 h;exact⟨o,b,iq a⟩
theorem aAw{os:List Ob}{o:Ob}(h:o∈os):OW os o.x=true:=List.any_eq_true.2 ⟨o,h,Nat.beq_refl _⟩
def ug(os:List Ob)(bl:Nat->Nat)(dev:Option (List Acc×List Acc))(hd:ag):Nat->Option ag:=fun x=>match OW os x,dev,bz x dx with
 |true,_,_=>some (jM (bl x))|false,some _,true=>some hd|false,_,_=>none
def y9(os:List Ob)(bl:Nat->Nat)(dev:Option (List Acc×List Acc))(hd:ag):Env:=fun x=>(ug os bl dev hd x).map fun h=>(0,h)
def SX(os:List Ob)(bl:Nat->Nat)(D:Dv):Nat->Prop:=fun b=>D.S b\/∃ o∈os,b=bl o.x
def ui(P:gp)(I:ae->Prop)(f:Nat)(new:Bool)(os:List Ob)(O:List Acc->Option jh)(dev:Option (List Acc×List Acc))(dw:List Acc->Prop)(args:List PV)(k:PV):Prop:=
 ∀ (w:ae) (d:Nat->Prop) (m:List ag) (g:Nat->Nat) (D:Dv) (j:Nat->Prop),
  (∀ c,dm (SX os g D) w c->I c)->(∀ b,SX os g D b->b<w.heap.size/\¬d b)->pq P D dw->(∀ l X Y w c a,D.pan l X w a->dm X w c->(∀ b,Y b->X b)->D.pan l Y c a)->D.O=O ->
  (∀ p,dev=some p->D.inv p.1 j w)->(dev=none->(∀ b,¬D.S b)/\∀ l X w,¬D.inv l X w) ->
  (∀ o∈os,j (g o.x)/\∃ i,dh w (g o.x) o.t i/\RL { w,ok:=d,env:=fun _=>none } o.l i.toList)->(∀ o∈os,∀ n∈os,g o.x=g n.x->o.x=n.x) ->
  oh { w,ok:=d,env:=y9 os g dev D.hd } args m ->
  Calls P f m.toArray w fun e c=>dm (SX os g D) w c /\
   ((∃ h,e=.returned h/\RV { w:=c,ok:=qC w d new,env:=fun _=>none } k h/\(∀ o∈os,∃ i,dh c (g o.x) o.t i/\RL { w:=c,ok:=qC w d new,env:=fun _=>none } o.l' i.toList)/\(∀ p,dev=some p->D.inv p.2 j c))
   \/ (∃ a l,e=.panicked a/\dw l/\O l=none/\D.pan l j c a))
def aTO(new:Bool)(os:List Ob)(O:List Acc->Option jh)(dev:Option (List Acc×List Acc))(dw:List Acc->Prop)(s:St):Prop:=(∀ o∈os,∃ l,find s.o o.x=some (none,0,.box o.t l)/\OD s new l o.l')/\(∀ p,dev=some p->find s.o dx=some (none,0,.dev O dw p.2))
def RQX(P:gp)(A:n_)(fn:Func)(new:Bool)(os:List Ob)(O:List Acc->Option jh)(dev:Option (List Acc×List Acc))(dw:List Acc->Prop)(b:PV):Exit->Act->ae->Prop
 |.panic chain,a,w=>a.defers=[]/\DT A chain w|e,a,w=>(e=.normal\/e=.ret)/\∃ s,(Sl P fn new b s/\aTO new os O dev dw s)/\qh A s a w
def UA(os:List Ob)(O:List Acc->Option jh)(dev:Option (List Acc×List Acc))(dw:List Acc->Prop):Wr:=match dev with
 |some p=>(dx,none,0,.dev O dw p.1)::os.map (fun o=>(o.x,none,0,.box o.t o.l))|none=>os.map (fun o=>(o.x,none,0,.box o.t o.l))
theorem aYy{os:List Ob}{x:Nat}{p:Option Bool×Nat×qm}:find (os.map (fun o=>(o.x,none,0,qm.box o.t o.l))) x=some p->∃ o∈os,o.x=x/\p=(none,0,.box o.t o.l):=by intro h;obtain⟨o,b,a⟩:=List.mem_map.1 (aNb h);cases a;exact⟨o,b,rfl,rfl⟩
theorem aBk{os:List Ob}{x:Nat}(h:find (os.map (fun o=>(o.x,(none:Option Bool),0,qm.box o.t o.l))) x=none):OW os x=false:=by
 induction os with
 |nil=>rfl| cons o os c=>
  by_cases a:o.x=x;rw[YQ,<-a,aK] at h;cases h;rw[YQ,aN _ _ a] at h
  have b:bz o.x x=false:=by
   cases b:bz o.x x with
   |false=>rfl|true=>exact absurd (iq b) a
  have:=c h;unfold OW at this ⊢;rw[List.any_cons,b,Bool.false_or];exact this
theorem lG{g b:Nat}(h:hblk (jM g)=some b):b=g:=by cases h;rfl
theorem aBh{P:gp}{I:ae->Prop}{fn:Func}{os:List Ob}{O:List Acc->Option jh}{dev:Option (List Acc×List Acc)}{dw:List Acc->Prop}{args:List PV}(a5:YZ args.length fn.ntmps=true)
  (a3:(os.all fun o=>XN dx o.x)=true) {w:ae} {ok0:Nat->Prop} {vs:List ag} {bl:Nat->Nat} {D:Dv} {X0:Nat->Prop}
  (hM:∀ F,dm (SX os bl D) w F->I F) (s:∀ b,SX os bl D b->b<w.heap.size/\¬ok0 b) (a1:pq P D dw) (a2:∀ l X Y w F E,D.pan l X w E->dm X w F->(∀ b,Y b->X b)->D.pan l Y F E) (hO:D.O=O)
  (a7:∀ p,dev=some p->D.inv p.1 X0 w) (a4:dev=none->(∀ b,¬D.S b)/\∀ l X w,¬D.inv l X w)
  (U:∀ o∈os,X0 (bl o.x)/\∃ cs,dh w (bl o.x) o.t cs/\RL { w,ok:=ok0,env:=fun _=>none } o.l cs.toList) (W:∀ o∈os,∀ o'∈os,bl o.x=bl o'.x->o.x=o'.x)
  (hv:oh { w,ok:=ok0,env:=y9 os bl dev D.hd } args vs):o5 P I ⟨w,SX os bl D,ok0,fn.ntmps,ug os bl dev D.hd,D,dw,X0,[]⟩/\qh ⟨w,SX os bl D,ok0,fn.ntmps,ug os bl dev D.hd,D,dw,X0,[]⟩ ⟨slots 0 args,UA os O dev dw⟩ { tmps:=vs.toArray++yz (fn.ntmps-vs.toArray.size) undef,defers:=[] } w:=by
 have a9:=hv.length;have hn:=Yz a5
 have B:∀ o∈os,dx<o.x:=fun o K=>by
  have:=List.all_eq_true.1 a3 o K;have i:dx+1<=o.x:=by simpa[XN] using this
  exact i
 have C:OW os dx=false:=by
  cases h:OW os dx with
  |false=>rfl|true=>obtain⟨o,e,m⟩:=oP h;have:=B o e;omega
 subst hO;let A:n_:=⟨w,SX os bl D,ok0,fn.ntmps,ug os bl dev D.hd,D,dw,X0,[]⟩;have f:∀ x d,ug os bl dev D.hd x=some d->(OW os x=true/\d=jM (bl x))\/(x=dx/\d=D.hd/\dev.isSome=true):=by intro x d h;unfold ug at h;split at h;rename_i e;cases h;exact .inl ⟨e,rfl⟩;rename_i e m i;cases h;exact .inr ⟨iq i,rfl,rfl⟩;cases h
 have hA:o5 P I A:=⟨hM,fun b h=>.inl h,s,a1,fun l X F hi=>by
  cases d:dev with
  |none=>exact ((a4 d).2 l X F hi).elim|some p=>show ug os bl dev D.hd dx=_;unfold ug;rw[C,d];rfl,a2⟩
 have Q:∀ b,ownB A (y9 os bl dev D.hd) b->X0 b:=by
  rintro b (h|⟨x,j,d,e,m⟩);exact h;unfold y9 at e;cases a:ug os bl dev D.hd x with
  |none=>rw[a] at e;cases e|some h=>rw[a] at e;cases e;rcases f x _ a with⟨i,rfl⟩|⟨_,rfl,_⟩;obtain⟨o,r,rfl⟩:=oP i;rw[lG m];exact (U o r).1;rw[D.x_] at m;cases m
 have z:∀ x p,find (UA os D.O dev dw) x=some p->(∃ o∈os,o.x=x/\p=(none,0,.box o.t o.l))\/(x=dx/\∃ q,dev=some q/\p=(none,0,.dev D.O dw q.1)):=by
  intro x p h;unfold UA at h;cases d:dev with
  |none=>rw[d] at h;exact .inl (aYy h)|some q=>rw[d] at h;by_cases a:dx=x;subst a;rw[aK] at h;cases h;exact .inr ⟨rfl,q,rfl,rfl⟩;rw[aN _ _ a] at h;exact .inl (aYy h)
 have Z:∀ o∈os,y9 os bl dev D.hd o.x=some (0,jM (bl o.x)):=fun o K=>by unfold y9 ug;rw[aAw K];rfl
 have V:∀ {pv:PV} {v:ag},RV { w,ok:=ok0,env:=y9 os bl dev D.hd } pv v->RV (aT A w (y9 os bl dev D.hd)) pv v:=fun h=>h.le ⟨dE _,fun b a6 K=>⟨⟨.inl K,fun x j d a n=>by
   unfold y9 at a;cases c:ug os bl dev D.hd x with
   |none=>rw[c] at a;cases a|some h=>
    rw[c] at a;cases a;rcases f x _ c with⟨i,rfl⟩|⟨_,rfl,_⟩;obtain⟨o,r,rfl⟩:=oP i;have:=lG n;subst this;exact (s _ (.inr ⟨o,r,rfl⟩)).2 K
    rw[D.x_] at n;cases n⟩,rfl⟩,fun x j d h=>⟨j,d,h,dE _,fun _=>rfl⟩⟩
 have hg:qh A ⟨slots 0 args,UA os D.O dev dw⟩ { tmps:=vs.toArray++yz (fn.ntmps-vs.toArray.size) undef,defers:=[] } w:=by
  refine⟨y9 os bl dev D.hd,{ gy:=dm.refl _ _,size:=?_,dom:=fun x a=>?_,l9:=fun x g j o h=>?_,live:=fun x j d b h n=>?_,inj:=fun x y v1 e v2 m b a N J H=>?_,tmps:=fun t g pv h B=>?_,defers:=rfl,und:=fun t pv h=>(by obtain⟨k,_,m⟩:=uP h;cases m),oq:=fun x d a=>?_,dev:=fun g j O a8 l h _=>?_ }⟩;simp[A];omega;unfold y9 ug
  have e:OW os x=false:=by
   unfold UA at a;cases d:dev with
   |none=>rw[d] at a;exact aBk a|some q=>rw[d] at a;by_cases a0:dx=x;subst a0;exact C;rw[aN _ _ a0] at a;exact aBk a
  rw[e];cases d:dev with
  |none=>rfl| some q=>
   have:bz x dx=false:=by
    cases n:bz x dx with
    |false=>rfl|true=>obtain rfl:=iq n;unfold UA at a;rw[d,aK] at a;cases a
   rw[this];rfl
  rcases z x _ h with⟨L,e,rfl,m⟩|⟨rfl,q,e,m⟩;cases m;obtain⟨_,cs,i,r⟩:=U L e
  refine⟨jM (bl L.x),Z L e,fun _=>⟨_,cs,rfl,i,?_⟩⟩;refine r.le ⟨dE _,fun b a6 T=>⟨⟨.inl T,fun x j d a n=>?_⟩,rfl⟩,fun _ _ _ h=>by cases h⟩;have u:y9 os bl dev D.hd x=some (j,d):=a;unfold y9 at u;cases c:ug os bl dev D.hd x with
  |none=>rw[c] at u;cases u|some h=>rw[c] at u;cases u;rcases f x _ c with⟨h5,rfl⟩|⟨_,rfl,_⟩;obtain⟨o,h6,rfl⟩:=oP h5;have:=lG n;subst this;exact (s _ (.inr ⟨o,h6,rfl⟩)).2 T;rw[D.x_] at n;cases n
  cases m;refine⟨D.hd,?_,fun _=>trivial⟩;unfold y9 ug;rw[C,e];rfl;unfold y9 at h;cases c:ug os bl dev D.hd x with
  |none=>rw[c] at h;cases h|some h'=>
   rw[c] at h;cases h;rcases f x _ c with⟨i,rfl⟩|⟨_,rfl,_⟩;obtain⟨o,r,rfl⟩:=oP i;have:=lG n;subst this
   exact⟨(s _ (.inr ⟨o,r,rfl⟩)).1,.inr ⟨.inr ⟨o,r,rfl⟩,aGh (Nat.le_of_lt (B o r))⟩⟩;rw[D.x_] at n;cases n
  unfold y9 at a N;cases c:ug os bl dev D.hd x with
  |none=>rw[c] at a;cases a| some b1=>
   cases G:ug os bl dev D.hd y with
   |none=>rw[G] at N;cases N|some b0=>rw[c] at a;rw[G] at N;cases a;cases N;rcases f x _ c with⟨i,rfl⟩|⟨_,rfl,_⟩;rcases f y _ G with⟨r,rfl⟩|⟨_,rfl,_⟩;obtain⟨o,h5,rfl⟩:=oP i;obtain⟨o',h6,rfl⟩:=oP r;refine W o h5 o' h6 ?_;rw[<-lG J,<-lG H];rw[D.x_] at H;cases H;rw[D.x_] at J;cases J
  obtain⟨k,e,m⟩:=xN h;obtain⟨v,i,r⟩:=hv.at m;rw[lL] at e;subst e;have hk:t<vs.length:=(List.getElem?_eq_some_iff.1 i).1;refine⟨v,?_,V r⟩;rw[aEV (by simpa using hk)];simpa using i;refine⟨?_,0,d,?_,dE _,fun _=>rfl⟩;rcases f x d a with⟨i,_⟩|⟨rfl,_,_⟩;obtain⟨o,r,rfl⟩:=oP i;exact aGh (Nat.le_of_lt (B o r));exact aGh (dE _);show y9 os bl dev D.hd x=some (0,d);unfold y9;have:ug os bl dev D.hd x=some d:=a;rw[this];rfl;rcases z dx _ h with⟨L,e,m,_⟩|⟨_,q,e,m⟩;have:=B L e;omega;cases m
  exact⟨rfl,rfl,D.grow _ _ _ _ _ (a7 q e) (dm.refl _ _) (fun b n=>.inl (Q b n))⟩
 exact⟨hA,hg⟩
theorem dM{P:gp}{I:ae->Prop}{f:Nat}{fn:Func}{c:Code}{new:Bool}{os:List Ob}{O:List Acc->Option jh}{dev:Option (List Acc×List Acc)}{dw:List Acc->Prop}{args:List PV}{B:PV}(hf:P.funcs[f]?=some fn)(hb:fn.body=some c)(a3:YZ args.length fn.ntmps=true)
  (a1:(os.all fun o=>XN dx o.x)=true)
  (hT:∀ A:n_,A.nt=fn.ntmps->o5 P I A->lh P A ⟨slots 0 args,UA os O dev dw⟩ c (RQX P A fn new os O dev dw B)):ui P I f new os O dev dw args B:=by
 intro w C vs z D X0 hM H Z a0 hO a4 J a2 K hv;let A:n_:=⟨w,SX os z D,C,fn.ntmps,ug os z dev D.hd,D,dw,X0,[]⟩;obtain⟨hA,hg⟩:o5 P I A/\qh A ⟨slots 0 args,UA os O dev dw⟩ { tmps:=vs.toArray++yz (fn.ntmps-vs.toArray.size) undef,defers:=[] } w:=aBh a3 a1 hM H Z a0 hO a4 J a2 K hv;subst hO;refine calls_of_wp hf hb (wp_mono (hT A rfl hA _ w hg (fun _ _ _ u h=>⟨u,h⟩)) (fun e a' m Q=>?_));cases e with
 |panic a=>obtain⟨u,l,k,h2,h3,h4⟩:=Q;exact⟨u,h4,.inr ⟨a,l,rfl,k,h2,h3⟩⟩
 |exit id=>obtain⟨k|k,_⟩:=Q<;>cases k
 |goto _=>obtain⟨k|k,_⟩:=Q<;>cases k
 |outgrown=>obtain⟨k|k,_⟩:=Q<;>cases k
 | normal|ret=>
  obtain⟨_,s,⟨⟨v,h2,h3⟩,E,U⟩,W,j⟩:=Q;obtain⟨v',d,h5,h6,h7,_⟩:=wB j h2;subst h7
  have y:∀ o∈os,W o.x=some (0,jM (z o.x)):=fun o r=>by
   obtain⟨l,i,_⟩:=E o r;obtain⟨u,V,_⟩:=j.l9 o.x none 0 _ i;have h9:ug os z dev D.hd o.x=some (jM (z o.x)):=by unfold ug;rw[aAw r]
   have:=(j.oq o.x _ h9).2.now V;rw[V,this]
  have hS:CG A s W:=by
   intro x g F e n len f0 u b L N T X;rcases X with X|⟨o,r,rfl⟩
   cases S:dev with
   |none=>exact (J S).1 b X|some q=>obtain⟨_,_,hi⟩:=j.dev none 0 _ _ _ (U q S) trivial;exact D.notS _ _ _ _ hi (.inr ⟨x,F,u,N,T⟩) X
   obtain⟨l,i,_⟩:=E o r;have:=j.inj x o.x F u 0 _ (z o.x) N (y o r) T rfl;subst this;rw[i] at L;cases L
  have G:=aRq j hS h3 h6
  have this:a'.defers=[]/\∃ v,(results fn a'.tmps).run P m=.ok v m/\(dm (SX os z D) w m /\
   ((∃ d,Ending.returned v=.returned d/\RV { w:=m,ok:=qC w C new,env:=fun _=>none } B d/\(∀ o∈os,∃ Y,dh m (z o.x) o.t Y/\RL { w:=m,ok:=qC w C new,env:=fun _=>none } o.l' Y.toList)/\(∀ p,dev=some p->D.inv p.2 X0 m))
   \/ (∃ a l,Ending.returned v=.panicked a/\dw l/\D.O l=none/\D.pan l X0 m a))):=by
   refine⟨j.defers,d,h5,j.gy,.inl ⟨d,rfl,G,fun o r=>?_,fun p hp=>?_⟩⟩;obtain⟨l,i,hx⟩:=E o r;obtain⟨u,V,h9⟩:=j.l9 o.x none 0 _ i;obtain⟨g,Y,e1,a6,a5⟩:=h9 trivial;rw[y o r] at V;cases V;cases e1;exact⟨Y,a6,aRr j hS hx a5⟩;obtain⟨_,_,hi⟩:=j.dev none 0 _ _ _ (U p hp) trivial;exact D.grow _ _ _ _ _ hi (dm.refl _ _) (fun b hb=>.inl (.inl hb))
  exact this
theorem bT{P:gp}{A:n_}{s:St}{Q:Exit->Act->ae->Prop}{fn:Func}{new:Bool}{os:List Ob}{O:List Acc->Option jh}{dev:Option (List Acc×List Acc)}{dw:List Acc->Prop}{b:PV}{out:Out}(i:out.val=b)(j:Q .ret=RQX P A fn new os O dev dw b .ret:=by rfl)(h:(AA P fn.results).exec none s [] [] [] []=some out:=by rfl)(hc:All out.conds:=by simp)(e:out.wr=[]:=by rfl)(d:ZO (dJ new) out.val=true:=by rfl)
  (c:∀ o∈os,∃ l,find s.o o.x=some (none,0,.box o.t l)/\OD s new l o.l':=by intro o c;obtain rfl:=List.mem_singleton.1 c;exact⟨_,rfl,eQ rfl⟩) (hd:∀ p,dev=some p->find s.o dx=some (none,0,.dev O dw p.2):=by intro p f;cases f):lh P A s .ret Q:=cZ (fun a w g=>by rw[j];exact⟨.inr rfl,_,⟨aY h hc e d i,c,hd⟩,g⟩)
theorem G8{P:gp}{A:n_}{s:St}{Q:Exit->Act->ae->Prop}{fn:Func}{new:Bool}{os:List Ob}{O:List Acc->Option jh}{dev:Option (List Acc×List Acc)}{dw:List Acc->Prop}{a:PV}{out:Out}(g:Q .ret=RQX P A fn new os O dev dw a .ret:=by rfl)(h:(AA P fn.results).exec none s [] [] [] []=some out:=by rfl)(hc:All out.conds:=by simp)(d:out.wr=[]:=by rfl)(c:ZO (dJ new) out.val=true:=by rfl)
  (b:∀ o∈os,∃ l,find s.o o.x=some (none,0,.box o.t l)/\OD s new l o.l':=by intro o b;obtain rfl:=List.mem_singleton.1 b;exact⟨_,rfl,eQ rfl⟩) (hd:∀ p,dev=some p->find s.o dx=some (none,0,.dev O dw p.2):=by intro p e;cases e) (f:out.val=a:=by rfl):lh P A s .ret Q:=bT f g h hc d c b hd
def px:Nat:=900001
def XQ(l:List PC):Option (List PC):=match l.all (fun c=>bz c.width 1) with
 |true=>some (l.map fun _=>.any)|false=>none
def Ey:PC->Option PC
 |.lit v=>some (.lit v)|.bs n l=>some (.bs n l)|.sl n len f=>some (.sl n len f)|.fn f first cap=>match XQ first,XQ cap with
  |some a,some b=>some (.fn f a b)|_,_=>none
 |.pt _ _ _=>some .any|.any=>some .any|_=>none
def E_:List PC->Option (List PC)
 |[]=>some []|c::l=>match Ey c,E_ l with
  |some c,some l=>some (c::l)|_,_=>none
def E8:PV->Option PV
 |.w (.one c)=>match Ey c with
  |some c=>some (.w (.one c))|none=>none
 |.w (.agg l)=>match E_ l with
  |some l=>some (.w (.agg l))|none=>none
 |_=>none
def F5:List PV->Option (List PV)
 |[]=>some []|v::l=>match E8 v,F5 l with
  |some v,some l=>some (v::l)|_,_=>none
theorem aWr{C g:Ctx}:∀ {l:List PC} {b:List ag},RL C l b->(l.all fun c=>bz c.width 1)=true->RL g (l.map fun _=>.any) b
 |[],_,h,_=>by cases h;exact .nil| c::l,_,h,hc=>by
  rw[aBc,PP] at hc;cases h with
  |@cons _ _ _ b i d f=>
   have e:=d.width;rw[iq hc.1] at e
   match b,e,d with
   |[v],_,d=>exact .cons (xs:=[v]) (.any (d.ones v ay)) (aWr f hc.2)
theorem bOh{C j:Ctx}(e:C.cold.Le j){c i:PC}{xs:List ag}(h:Ey c=some i)(hr:R C c xs):R j i xs:=by
 unfold Ey at h;split at h;cases h;cases hr;exact .lit ou;cases h;cases hr;exact .bs ou;cases h;exact (aHh hr rfl).le e
 ·rename_i f first cap;unfold XQ at h
  cases d:first.all fun c=>bz c.width 1<;>cases g:cap.all fun c=>bz c.width 1<;>simp only[d,g] at h<;>try (cases h;done)
  cases h;cases hr with
  |fn l k=>exact .fn (aWr l d) (aWr k g)
 cases h;cases hr with
 |pt d _=>obtain⟨b,o,rfl⟩:=d;exact .any rfl
 cases h;cases hr;exact .any ou;cases h
theorem bOg{C j:Ctx}(b:C.cold.Le j):∀ {l f:List PC} {e:List ag},E_ l=some f->RL C l e->RL j f e
 |[],_,_,h,d=>by simp only[E_,Option.some.injEq] at h;subst h;cases d;exact .nil|c::l,_,_,h,d=>by
  unfold E_ at h
  cases i:Ey c<;>cases g:E_ l<;>simp only[i,g] at h<;>try (cases h;done)
  cases h;cases d with
  |cons m k=>exact .cons (bOh b i m) (bOg b g k)
theorem bOf{C f:Ctx}(b:C.cold.Le f){v e:PV}{x:ag}(h:E8 v=some e)(hr:RV C v x):RV f e x:=by
 unfold E8 at h;split at h
 ·rename_i c
  cases d:Ey c<;>simp only[d] at h<;>try (cases h;done)
  cases h;exact .w (.one (bOh b d hr.inv))
 ·rename_i l
  cases d:E_ l<;>simp only[d] at h<;>try (cases h;done)
  cases h;cases hr with
  |w hr=>cases hr with
   |agg hr=>exact .w (.agg (bOg b d hr))
 cases h
theorem aBn{C g:Ctx}(c:C.cold.Le g):∀ {d b:List PV} {l:List ag},F5 d=some b->oh C d l->oh g b l
 |[],_,[],h,_=>by simp only[F5,Option.some.injEq] at h;subst h;exact trivial|[],_,_::_,_,h=>h.elim|_::_,_,[],_,h=>h.elim|v::d,_,x::l,h,⟨h1,h2⟩=>by
  unfold F5 at h
  cases f:E8 v<;>cases e:F5 d<;>simp only[f,e] at h<;>try (cases h;done)
  cases h;exact⟨bOf c f h1,aBn c e h2⟩
section
variable {P:gp} {I:ae->Prop} {A:n_} {s:St} {a:Act} {w:ae} {env:Env} {F:Option Bool->PV->Wr->Prop}
theorem aHf{e:Env}:(aT A w env).cold.Le { w,ok:=(aT A w env).ok,env:=e }:=⟨dE _,fun b _ c=>⟨c,rfl⟩,fun _ _ _ h=>by cases h⟩
theorem yQ(h:gu A s a w env){w':ae}(_:w.heap.size<=w'.heap.size){new:Bool}:({ w:=w',ok:=qC w (aT A w env).ok new,env:=fun _=>none }:Ctx).Le (aT A w' env):=
 ⟨
  dE _,fun b _ c=>⟨(by
  rcases c with⟨_,c⟩|c;exact c
  exact⟨.inr (mr h.gy.size c),fun x d i g e=>by have:=(h.live x d i b g e).1;omega⟩),rfl⟩,fun _ _ _ h=>by cases h⟩
def dI (t:bu) (g:List PC->List PV->Option (Prop×List PC×PV)):Spec:=fun _ f=>match f with
 | .w (.one (.pt x b c))::rest=>(match bz c 0,F5 rest with
  | true,some e=>.obj x fun j d i=>jV j (match bz b d,i with
   |true,.box h l=>(match bz t h,l.all (dJ false),g l e with
    |true,true,some (p,l',r)=>.need p (.upd x d (.box t l') (.ret r))|_,_,_=>.fail)
   |_,_=>.fail)
  |_,_=>.fail)
 |_=>.fail
theorem wF{f:Nat}{t:bu}{g:List PC->List PV->Option (Prop×List PC×PV)}(Q:∀ args w,(Xy f args).run P w=.ok (.enter f args) w)
  (hg:∀ l J p z r,g l J=some (p,z,r)->p->ui P I f false [⟨px,t,l,z⟩] (fun _=>none) none (fun _=>False) (.w (.one (.pt px 0 0))::J) r):ai P I f (dI t g):=by
 refine⟨Q,fun A s a w env nm b2 X F h hI hv n=>?_⟩;unfold dI at n;split at n
 ·rename_i x d Z K
  cases k:bz Z 0<;>cases hr:F5 K<;>simp only[k,hr] at n<;>try exact n.elim
  rename_i J;obtain rfl:=iq k;obtain⟨gd,vr,ob,a5,n⟩:=n;have a3:=eG n;clear n;obtain⟨a4,n⟩:=a3;obtain⟨hd,D,a1⟩:=kL h a5 a4
  cases U:bz d vr<;>cases ob<;>simp only[U] at n<;>try exact n.elim
  rename_i t' l;obtain rfl:=iq U
  cases T:bz t t'<;>cases hc:l.all (dJ false)<;>cases hq:g l J<;>simp only[T,hc,hq] at n<;>try exact n.elim
  rename_i q;obtain⟨p,z,r⟩:=q;obtain rfl:=iq T;obtain⟨hp,_,hF⟩:=n
  match X,hv with
  | v::X,⟨hv1,hv2⟩=>
   obtain⟨m,rfl,rfl⟩:=hv1.Ac D;obtain⟨g1,cs,e1,hB,hR⟩:=a1;cases e1;have O:m<w.heap.size:=hB.lt;have E:∀ b,SX [⟨px,t,l,z⟩] (fun _=>m) Dv.non b->b=m:=by rintro b (h|⟨o,V,rfl⟩);exact h.elim;rfl
   have a7:∀ b,SX [⟨px,t,l,z⟩] (fun _=>m) Dv.non b->b<A.w0.heap.size->A.S b:=fun b k C=>by rw[E b k] at C ⊢;rcases (h.live x d _ m D rfl).2 with H|H;omega;exact H.1
   have b4:SX [⟨px,t,l,z⟩] (fun _=>m) Dv.non m:=.inr ⟨_,Xv,rfl⟩;have N:¬(aT A w env).ok m:=fun a0=>a0.2 x d _ D rfl
   refine (hg l J p z r hq hp w (aT A w env).ok (jM m::X) (fun _=>m) Dv.non (fun b=>b=m)
    (fun W G=>hI.mem W (h.gy.trans' G (fun _ _ h=>h) (fun b C k=>a7 b k C)))
    (fun b k=>by rw[E b k];exact⟨O,N⟩) (pq.non P) (fun _ _ _ _ _ _ h=>h.elim) rfl (fun p hp=>by cases hp) (fun _=>⟨fun _ h=>h,fun _ _ _ h=>h⟩)
    (
     fun o V=>by
     obtain rfl:o=⟨px,t,l,z⟩:=by simpa using V
     exact⟨rfl,cs,hB,jY hR hc⟩)
    (
     fun o V o' a2 _=>by
     obtain rfl:o=⟨px,t,l,z⟩:=by simpa using V
     obtain rfl:o'=⟨px,t,l,z⟩:=by simpa using a2
     rfl)
    ⟨.w (.one (.pt ⟨m,0,rfl⟩ ⟨0,jM m,rfl,dE _,fun _=>⟨m,rfl,rfl⟩⟩)),aBn aHf hr hv2⟩).mono ?_
   rintro e W ⟨G,⟨Y,rfl,L,a6,_⟩|⟨b1,l2,rfl,H,_⟩⟩;obtain⟨b0,a9,a8⟩:=a6 _ Xv
   obtain⟨H,h2⟩:=h.upd (w':=W) x none d (jM m) (.box t z) (G.mono fun b _ k=>⟨d,_,D,by rw[E b k];rfl⟩) (fun v hd e=>by rw[D] at e;cases e;exact .inr ⟨rfl,rfl⟩)
    (fun b k=>by cases k;exact⟨Y1 O G.size,.inr ⟨d,_,D,rfl⟩⟩)
    (
     fun b3 _=>⟨m,b0,rfl,a9,(a8.le (yQ h G.size)).le ⟨dE _,fun b _ k=>⟨⟨k.1,fun y u i B=>by
     by_cases j:y=x;subst j;have c:yt env y d (jM m) y=some (u,i):=B;rw[iR] at c;cases c;exact k.2 y d _ D;have c:yt env x d (jM m) y=some (u,i):=B;rw[kP j] at c
     exact k.2 y u i c⟩,rfl⟩,fun y u i B=>by
     by_cases j:y=x;subst j;have c:env y=some (u,i):=B;rw[D] at c;cases c;exact⟨d,_,iR _ _ _ _,dE _,fun _=>rfl⟩
     exact⟨u,i,(kP j).trans B,dE _,fun _=>rfl⟩⟩⟩)
   exact .inl ⟨r,_,Y,_,rfl,hF,H,(L.le (yQ h G.size)).le ⟨dE _,fun b _ k=>⟨⟨k.1,fun y u i B=>by
     by_cases j:y=x;subst j;have c:yt env y d (jM m) y=some (u,i):=B;rw[iR] at c;cases c;exact k.2 y d _ D;have c:yt env x d (jM m) y=some (u,i):=B;rw[kP j] at c
     exact k.2 y u i c⟩,rfl⟩,fun y u i B=>by
     by_cases j:y=x;subst j;have c:env y=some (u,i):=B;rw[D] at c;cases c;exact⟨d,_,iR _ _ _ _,dE _,fun _=>rfl⟩
     exact⟨u,i,(kP j).trans B,dE _,fun _=>rfl⟩⟩⟩
   exact H.elim
 exact n.elim
def aNg (hist:(List Acc->Option jh)->List Acc->List PV->List Acc) (c:(List Acc->Option jh)->List Acc->List PV->Option (Prop×PV)):Spec:=fun _ d=>match d with
 | .w (.one .dv)::rest=>(match F5 rest with
  | some b=>.obj dx fun g e f=>jV g (match bz e 0,f with
   |true,.dev O dw l=>(match c O l b with
    |some (p,r)=>.need p (.need (∀ h,l <+: h->h <+: hist O l b->O h=none->dw h) (.upd dx 0 (.dev O dw (hist O l b)) (.ret r)))|none=>.fail)
   |_,_=>.fail)
  |none=>.fail)
 |_=>.fail
theorem aKd{f:Nat}{hist:(List Acc->Option jh)->List Acc->List PV->List Acc}{n:(List Acc->Option jh)->List Acc->List PV->Option (Prop×PV)}(K:∀ args w,(Xy f args).run P w=.ok (.enter f args) w)
  (hg:∀ O l m p r,n O l m=some (p,r)->p->ui P I f false [] O (some (l,hist O l m)) (fun h=>l <+: h/\h <+: hist O l m) (.w (.one .dv)::m) r):ai P I f (aNg hist n):=by
 refine⟨K,fun A s a w env nm a1 T F h d hv c=>?_⟩;unfold aNg at c;split at c
 ·rename_i y;cases V:F5 y with
  |none=>rw[V] at c;exact c.elim| some m=>
   rw[V] at c;obtain⟨gd,vr,ob,t,c⟩:=c;have Z:=eG c;clear c;obtain⟨H,c⟩:=Z
   cases L:bz vr 0<;>cases ob<;>simp only[L] at c<;>try exact c.elim
   rename_i O dw l;obtain rfl:=iq L;cases W:n O l m with
   |none=>rw[W] at c;exact c.elim| some q=>
    obtain⟨p,r⟩:=q;rw[W] at c;obtain⟨X,D,_,hF⟩:=c;obtain⟨hO,C,j⟩:=h.dev gd 0 O dw l t H;subst hO C;have J:=d.dvh _ _ _ j;obtain⟨hd,he,_⟩:=h.l9 dx gd 0 _ t;obtain rfl:=(h.oq dx _ J).2.now he
    match T,hv with
    | v::T,⟨hv1,hv2⟩=>
     have B:v=A.dv.hd:=hv1.MV.now he;have i:∀ b,SX [] (fun _=>0) A.dv b->A.dv.S b:=by rintro b (h|⟨o,G,rfl⟩);exact h;cases G
     refine (hg A.dv.O l m p r W X w (aT A w env).ok (v::T) (fun _=>0) A.dv (ownB A env)
      (fun Q z=>d.mem Q (h.gy.trans' z (fun _ _ h=>h) (fun b _ g=>d.sub b (i b g))))
      (
       fun b g=>by
       have k:=d.old b (d.sub b (i b g));refine⟨Y1 k.1 h.gy.size,fun Y=>?_⟩;rcases Y.1 with u|u;exact k.2 u
       omega)
      (d.step.mono fun N k u=>D N k.1 k.2 u) d.Bo rfl (fun p X=>by cases X;exact j) (fun h=>by cases h) (fun o G=>by cases G) (fun o G=>by cases G)
      ⟨.w (.one (.dv (by rw[B];exact A.dv.one) ⟨0,A.dv.hd,rfl,dE _,fun _=>B⟩)),aBn aHf V hv2⟩).mono ?_
     rintro e Q ⟨z,⟨U,rfl,E,_,a0⟩|⟨x,N,rfl,k,u,h3⟩⟩;obtain⟨h4,h5⟩:=h.asked (w':=Q) t H d.sub (fun b g=>d.old b (d.sub b g)) (z.mono fun b _ g=>i b g) (a0 _ rfl);exact .inl ⟨r,_,U,env,rfl,hF,h4,E.le (yQ h z.size)⟩;exact .inr ⟨x,rfl,N,D N k.1 k.2 u,u,d.Bo _ _ _ _ _ _ h3 (dm.refl _ _) (fun b g=>.inl g),h.gy.trans (z.mono fun b _ g=>d.sub b (i b g))⟩
 exact c.elim
end
end Pv
namespace Pv
def Dy(g:Nat)(hd:ag):Nat->Option ag:=fun x=>match bz x px,bz x dx with
 |true,_=>some (jM g)|false,true=>some hd|false,false=>none
def Be(g:Nat)(hd:ag):Env:=fun x=>(Dy g hd x).map fun h=>(0,h)
def Dc(hd:ag):Env:=fun x=>match bz x dx with
 |true=>some (0,hd)|false=>none
theorem aJy{g:Nat}{hd:ag}{x:Nat}{h:ag}(e:Dy g hd x=some h):(x=px/\h=jM g)\/(x=dx/\h=hd):=by unfold Dy at e;split at e;rename_i b;cases e;exact .inl ⟨iq b,rfl⟩;rename_i b c;cases e;exact .inr ⟨iq c,rfl⟩;cases e
theorem sJ{g:Nat}{hd:ag}{x jm:Nat}{h:ag}(e:Be g hd x=some (jm,h)):jm=0/\((x=px/\h=jM g)\/(x=dx/\h=hd)):=by
 unfold Be at e;cases b:Dy g hd x with
 |none=>rw[b] at e;cases e|some c=>rw[b] at e;cases e;exact⟨rfl,aJy b⟩
theorem aKa{hd:ag}{x jm:Nat}{h:ag}(e:Dc hd x=some (jm,h)):x=dx/\jm=0/\h=hd:=by unfold Dc at e;split at e;rename_i b;cases e;exact⟨iq b,rfl,rfl⟩;cases e
def SD(g:Nat)(D:Dv):Nat->Prop:=fun b=>D.S b\/b=g
def Xm(P:gp)(I:ae->Prop)(f:Nat)(t:bu)(l l':List PC)(O:List Acc->Option jh)(h0 h1:List Acc)(dw:List Acc->Prop)(args:List PV)(n:PV):Prop:=
 ∀ (w:ae) (h:Nat->Prop) (o:List ag) (g:Nat) (D:Dv) (m:Nat->Prop),
  (∀ d,dm (SD g D) w d->I d)->(∀ b,SD g D b->b<w.heap.size/\¬h b)->pq P D dw->(∀ l X Y w d c,D.pan l X w c->dm X w d->(∀ b,Y b->X b)->D.pan l Y d c)->D.O=O ->
  D.inv h0 m w->m g->(∃ j,dh w g t j/\RL { w,ok:=h,env:=Dc D.hd } (.dv::l) j.toList) ->
  oh { w,ok:=h,env:=Be g D.hd } args o ->
  Calls P f o.toArray w fun e d=>dm (SD g D) w d /\
   ((∃ i,e=.returned i/\RV { w:=d,ok:=qC w h false,env:=fun _=>none } n i/\(∃ j,dh d g t j/\RL { w:=d,ok:=qC w h false,env:=Dc D.hd } (.dv::l') j.toList)/\D.inv h1 m d)
   \/ (∃ c k,e=.panicked c/\dw k/\O k=none/\D.pan k m d c))
def aTP(t:bu)(l':List PC)(O:List Acc->Option jh)(h1:List Acc)(dw:List Acc->Prop)(s:St):Prop:=(∃ b,find s.o px=some (none,0,.box t (.dv::b))/\OD s false b l')/\find s.o dx=some (none,0,.dev O dw h1)
def RQD(P:gp)(A:n_)(fn:Func)(t:bu)(l':List PC)(O:List Acc->Option jh)(h1:List Acc)(dw:List Acc->Prop)(b:PV):Exit->Act->ae->Prop
 |.panic chain,a,w=>a.defers=[]/\DT A chain w|e,a,w=>(e=.normal\/e=.ret)/\∃ s,(Sl P fn false b s/\aTP t l' O h1 dw s)/\qh A s a w
theorem mW{P:gp}{I:ae->Prop}{f:Nat}{fn:Func}{c:Code}{t:bu}{l l':List PC}{O:List Acc->Option jh}{h0 h1:List Acc}{dw:List Acc->Prop}{args:List PV}{N:PV}(hf:P.funcs[f]?=some fn)(hb:fn.body=some c)(b3:YZ args.length fn.ntmps=true)
  (hT:∀ A:n_,A.nt=fn.ntmps->o5 P I A->lh P A ⟨slots 0 args,[(dx,none,0,.dev O dw h0),(px,none,0,.box t (.dv::l))]⟩ c (RQD P A fn t l' O h1 dw N)):Xm P I f t l l' O h0 h1 dw args N:=by
 intro w u vs g D X0 hM C a7 a9 hO b4 b5 b0 hv;have b8:=hv.length;have hn:=Yz b3;subst hO;let A:n_:=⟨w,SD g D,u,fn.ntmps,Dy g D.hd,D,dw,X0,[]⟩;have hA:o5 P I A:=⟨hM,fun b h=>.inl h,C,a7,fun l X B hi=>rfl,a9⟩;have Y:g<w.heap.size/\¬u g:=C g (.inr rfl);have V:∀ b,ownB A (Be g D.hd) b->X0 b:=by rintro b (h|⟨x,d,i,h1,j⟩);exact h;rcases (sJ h1).2 with⟨_,rfl⟩|⟨_,rfl⟩;rw[lG j];exact b5;rw[D.x_] at j;cases j
 have G:∀ {b x d i},Be g D.hd x=some (d,i)->hblk i=some b->b=g:=by intro b x d i h1 j;rcases (sJ h1).2 with⟨_,rfl⟩|⟨_,rfl⟩;exact lG j;rw[D.x_] at j;cases j
 have H:∀ {E:Env},(∀ x d i,E x=some (d,i)->∃ p,Be g D.hd x=some (p,i)/\d<=p/\(d=p->i=i))->({ w,ok:=u,env:=E }:Ctx).Le (aT A w (Be g D.hd)):=fun r=>
  ⟨
   dE _,fun b b9 ho=>⟨⟨.inl ho,fun x d i q hb=>Y.2 (G q hb ▸ ho)⟩,rfl⟩,fun x d i h=>by
   obtain⟨p,h1,j,_⟩:=r x d i h
   exact⟨p,i,h1,j,fun _=>rfl⟩⟩
 have W:({ w,ok:=u,env:=Dc D.hd }:Ctx).Le (aT A w (Be g D.hd)):=H fun x d i h=>by obtain⟨rfl,rfl,rfl⟩:=aKa h;exact⟨0,rfl,dE _,fun _=>rfl⟩
 have hg:qh A ⟨slots 0 args,[(dx,none,0,.dev D.O dw h0),(px,none,0,.box t (.dv::l))]⟩ { tmps:=vs.toArray++yz (fn.ntmps-vs.toArray.size) undef,defers:=[] } w:=by
  refine⟨Be g D.hd,{ gy:=dm.refl _ _,size:=?_,dom:=fun x q=>?_,l9:=fun x g' d o h=>?_,live:=fun x d i b h hb=>?_,inj:=fun x y v1 h1 v2 j b q hy a4 a3=>?_,tmps:=fun t g pv h c0=>?_,defers:=rfl,und:=fun t pv h=>(by obtain⟨k,_,j⟩:=uP h;cases j),oq:=fun x i q=>?_,dev:=fun g' d O b7 l h _=>?_ }⟩;simp[A];omega;by_cases h1:dx=x;subst h1;rw[aK] at q;cases q;rw[aN _ _ h1] at q;by_cases j:px=x;subst j;rw[aK] at q;cases q;unfold Be Dy
  have b1:bz x px=false:=by
   cases hb:bz x px with
   |false=>rfl|true=>exact absurd (iq hb).symm j
  have b2:bz x dx=false:=by
   cases hb:bz x dx with
   |false=>rfl|true=>exact absurd (iq hb).symm h1
  rw[b1,b2];rfl;by_cases h1:dx=x;subst h1;rw[aK] at h;cases h;exact⟨D.hd,rfl,fun _=>trivial⟩;rw[aN _ _ h1] at h;by_cases j:px=x;subst j;rw[aK] at h;cases h;obtain⟨S,L,h4⟩:=b0;exact⟨jM g,rfl,fun _=>⟨g,S,rfl,L,h4.le W⟩⟩;rw[aN _ _ j] at h;cases h;have:=G h hb;subst this;refine⟨Y.1,.inr ⟨.inr rfl,?_⟩⟩;rcases (sJ h).2 with⟨rfl,_⟩|⟨rfl,rfl⟩;rfl;rw[D.x_] at hb;cases hb;rcases (sJ q).2 with⟨rfl,_⟩|⟨_,rfl⟩;rcases (sJ hy).2 with⟨rfl,_⟩|⟨_,rfl⟩;rfl;rw[D.x_] at a3;cases a3;rw[D.x_] at a4;cases a4;obtain⟨k,h1,j⟩:=xN h;obtain⟨v,L,h4⟩:=hv.at j;rw[lL] at h1;subst h1;have hk:t<vs.length:=(List.getElem?_eq_some_iff.1 L).1
  refine⟨v,?_,h4.le (H fun x d i h=>⟨d,h,dE _,fun _=>rfl⟩)⟩;rw[aEV (by simpa using hk)];simpa using L
  ·refine⟨?_,0,i,?_,dE _,fun _=>rfl⟩
   ·rcases aJy q with⟨rfl,_⟩|⟨rfl,_⟩<;>rfl
   show Be g D.hd x=some (0,i);unfold Be;have:Dy g D.hd x=some i:=q;rw[this];rfl
  rw[aK] at h;cases h;exact⟨rfl,rfl,D.grow _ _ _ _ _ b4 (dm.refl _ _) (fun b hb=>.inl (V b hb))⟩
 refine calls_of_wp hf hb (wp_mono (hT A rfl hA _ w hg (fun _ _ _ i h=>⟨i,h⟩)) (fun e a' B he=>?_));cases e with
 |panic m=>obtain⟨i,l,h1,j,L,h4⟩:=he;exact⟨i,h4,.inr ⟨m,l,rfl,h1,j,L⟩⟩
 |exit id=>obtain⟨h1|h1,_⟩:=he<;>cases h1
 |goto _=>obtain⟨h1|h1,_⟩:=he<;>cases h1
 |outgrown=>obtain⟨h1|h1,_⟩:=he<;>cases h1
 | normal|ret=>
  obtain⟨_,s,⟨⟨v,j,L⟩,⟨l2,Q,q⟩,a5⟩,env,r⟩:=he;obtain⟨v',z,h5,h6,h7,_⟩:=wB r j;subst h7;have J:env px=some (0,jM g):=by obtain⟨i,K,_⟩:=r.l9 px none 0 _ Q;have:=(r.oq px (jM g) rfl).2.now K;rw[K,this]
  have a1:env dx=some (0,D.hd):=by obtain⟨i,K,_⟩:=r.l9 dx none 0 _ a5;have:=(r.oq dx D.hd rfl).2.now K;rw[K,this]
  obtain⟨_,_,hi⟩:=r.dev none 0 _ _ _ a5 trivial;have hS:CG A s env:=by intro x g' d e n len f0 i b Z a0 a2 T;rcases T with T|T;exact D.notS _ _ _ _ hi (.inr ⟨x,d,i,a0,a2⟩) T;have a8:b=g:=T;subst a8;have:=r.inj x px d i 0 _ b a0 J a2 rfl;subst this;rw[Q] at Z;cases Z
  have U:=aRq r hS L h6
  have this:a'.defers=[]/\∃ v,(results fn a'.tmps).run P B=.ok v B/\(dm (SD g D) w B /\
   ((∃ z,Ending.returned v=.returned z/\RV { w:=B,ok:=qC w u false,env:=fun _=>none } N z/\(∃ S,dh B g t S/\RL { w:=B,ok:=qC w u false,env:=Dc D.hd } (.dv::l') S.toList)/\D.inv h1 X0 B)
   \/ (∃ m l,Ending.returned v=.panicked m/\dw l/\D.O l=none/\D.pan l X0 B m))):=by
   refine⟨r.defers,z,h5,r.gy,.inl ⟨z,rfl,U,?_,D.grow _ _ _ _ _ hi (dm.refl _ _) (fun b hb=>.inl (.inl hb))⟩⟩;obtain⟨i,K,h9⟩:=r.l9 px none 0 _ Q;obtain⟨g1,S,e1,b6,a6⟩:=h9 trivial;rw[J] at K;cases K;cases e1;refine⟨S,b6,?_⟩;generalize S.toList=zs at a6 ⊢;cases a6 with
   | cons k1 k2=>
    refine .cons ?_ ((aRr r hS q k2).le ⟨dE _,fun b _ hb=>⟨hb,rfl⟩,fun _ _ _ h=>by cases h⟩);cases k1 with
    |dv j1 j2=>have e3:=j2.now a1;subst e3;exact .dv j1 ⟨0,D.hd,rfl,dE _,fun _=>rfl⟩
  exact this
section
variable {P:gp} {I:ae->Prop} {A:n_} {s:St} {a:Act} {w:ae} {env:Env} {F:Option Bool->PV->Wr->Prop}
theorem gu.Nv(h:gu A s a w env){w':ae}{O:List Acc->Option jh}{dw:List Acc->Prop}{l l':List Acc}{K g':Option Bool}{x jm u t:Nat}{p p':List PC}(E:find s.o dx=some (K,0,.dev O dw l))(Q:gT K)(sub:∀ b,A.dv.S b->A.S b)(old:∀ b,A.dv.S b->b<A.w0.heap.size/\¬A.ok0 b)
  (D:find s.o x=some (g',jm,.box t p)) (J:env x=some (jm,jM u)) (z:dm (fun b=>A.dv.S b\/b=u) w w') (hi:A.dv.inv l' (ownB A env) w') (N:(aT A w env).Le (aT A w' env)->∃ L,dh w' u t L/\RL (aT A w' env) p' L.toList) :
  gu A { s with o:=(dx,none,0,.dev O dw l')::(x,none,jm,.box t p')::s.o } a w' env/\(aT A w env).Le (aT A w' env):=by
 obtain⟨hO,B,C⟩:=h.dev K 0 O dw l E Q;have Y:x≠dx:=fun e=>by subst e;rw[E] at D;cases D
 have k:(aT A w env).Le (aT A w' env):=⟨z.size,fun b q r=>⟨r,z.block b q (fun j=>by
  rcases j with j|rfl;rcases r.1 with d|d;exact (old b j).2 d;have:=(old b j).1;omega
  exact r.2 x jm _ J rfl)⟩,fun x jm i Z=>⟨jm,i,Z,dE _,fun _=>rfl⟩⟩
 have T:=h.live x jm _ u J rfl;refine⟨{ gy:=h.gy.trans' z (fun _ _ h=>h) (fun b q j=>?_),size:=h.size,dom:=fun y n=>?_,l9:=fun y X f o c=>?_,live:=fun y jm i b d m=>⟨Y1 (h.live y jm i b d m).1 z.size,(h.live y jm i b d m).2⟩,inj:=h.inj,tmps:=fun t g pv E U=>let ⟨v,d,m⟩:=h.tmps t g pv E U;⟨v,d,m.le k⟩,defers:=h.defers,und:=h.und,oq:=fun y i n=>⟨(h.oq y i n).1,(h.oq y i n).2.le k⟩,dev:=fun X f O2 W l2 c a0=>?_ },k⟩;rcases j with j|rfl;exact sub b j;rcases T.2 with d|d;omega;exact d.1
 by_cases d:dx=y;subst d;rw[aK] at n;cases n;rw[aN _ _ d] at n;by_cases m:x=y;subst m;rw[aK] at n;cases n;rw[aN _ _ m] at n;exact h.dom y n;by_cases d:dx=y;subst d;rw[aK] at c;cases c;obtain⟨i,d,_⟩:=h.l9 dx K 0 _ E;exact⟨i,d,fun _=>trivial⟩;rw[aN _ _ d] at c;by_cases m:x=y;subst m;rw[aK] at c;cases c;obtain⟨L,H,V⟩:=N k;exact⟨jM u,J,fun _=>⟨u,L,rfl,H,V⟩⟩;rw[aN _ _ m] at c;obtain⟨i,H,V⟩:=h.l9 y X f o c
 exact⟨i,H,fun U=>(V U).Am k (fun b G q=>z.block b q (fun j=>by
  rcases j with j|rfl;exact A.dv.notS _ _ _ _ C (.inr ⟨y,f,i,H,G⟩) j
  exact m (h.inj x y jm _ f i b J H rfl G)))⟩
 rw[aK] at c;cases c;exact⟨hO,B,hi⟩
theorem gu.Eo{l:List Acc}{O:List Acc->Option jh}{dw:List Acc->Prop}{x jm:Nat}{q m:Option Bool}{o:qm}{r:qm}(h:gu A { s with o:=(dx,none,0,.dev O dw l)::(x,none,jm,o)::s.o } a w env)(p:find s.o x=some (q,jm,o))(_:find s.o dx=some (m,0,r))(_:gT q):gu A { s with o:=(dx,none,0,.dev O dw l)::s.o } a w env:=by
 have j:∀ y g v e,find ((dx,none,0,qm.dev O dw l)::s.o) y=some (g,v,e)->∃ f,find ((dx,none,0,qm.dev O dw l)::(x,none,jm,o)::s.o) y=some (f,v,e)/\(gT g->gT f):=by intro y g v e b;by_cases d:dx=y;subst d;rw[aK] at b ⊢;exact⟨g,b,id⟩;rw[aN _ _ d] at b ⊢;by_cases c:x=y;subst c;rw[p] at b;cases b;rw[aK];exact⟨none,rfl,fun _=>trivial⟩;rw[aN _ _ c];exact⟨g,b,id⟩
 refine { gy:=h.gy,size:=h.size,dom:=fun y b=>h.dom y ?_,l9:=fun y g v e b=>?_,live:=h.live,inj:=h.inj,tmps:=h.tmps,defers:=h.defers,und:=h.und,oq:=h.oq,dev:=fun g v B i t b k=>?_ };by_cases d:dx=y;subst d;rw[aK] at b;cases b;rw[aN _ _ d] at b ⊢;by_cases c:x=y;subst c;rw[p] at b;cases b;rw[aN _ _ c];exact b;obtain⟨f,d,c⟩:=j y g v e b;obtain⟨hd,z,u⟩:=h.l9 y f v e d;exact⟨hd,z,fun n=>u (c n)⟩;obtain⟨f,d,c⟩:=j dx g v _ b;exact h.dev f v B i t d (c k)
def aUt (t:bu) (hist:(List Acc->Option jh)->List Acc->List PC->List PV->List Acc) (g:(List Acc->Option jh)->List Acc->List PC->List PV->Option (Prop×PV)):Spec:=fun _ j=>match j with
 | .w (.one (.pt x d e))::rest=>(match bz e 0,F5 rest with
  | true,some b=>.obj x fun q m o=>jV q (match bz d m,o with
   | true,.box n (.dv::l)=>(match bz t n,l.all (dJ false) with
    | true,true=>.obj dx fun i c f=>jV i (match bz c 0,f with
     |true,.dev O dw k=>(match g O k l b with
      |some (p,r)=>.need p (.need (∀ h,k <+: h->h <+: hist O k l b->O h=none->dw h) (.upd dx 0 (.dev O dw (hist O k l b)) (.ret r)))|none=>.fail)
     |_,_=>.fail)
    |_,_=>.fail)
   |_,_=>.fail)
  |_,_=>.fail)
 |_=>.fail
theorem bBt {f:Nat} {t:bu} {hist:(List Acc->Option jh)->List Acc->List PC->List PV->List Acc} {g:(List Acc->Option jh)->List Acc->List PC->List PV->Option (Prop×PV)} (Z:∀ args w,(Xy f args).run P w=.ok (.enter f args) w)
  (hg:∀ O k l D p r,g O k l D=some (p,r)->p->Xm P I f t l l O k (hist O k l D) (fun h=>k <+: h/\h <+: hist O k l D) (.w (.one (.pt px 0 0))::D) r):ai P I f (aUt t hist g):=by
 refine⟨Z,fun A s a w env nm b6 vs F h n hv c=>?_⟩;unfold aUt at c;split at c
 ·rename_i x o a9 L
  cases d:bz a9 0<;>cases hr:F5 L<;>simp only[d,hr] at c<;>try exact c.elim
  rename_i D;obtain rfl:=iq d;obtain⟨gd,vr,ob,G,c⟩:=c;have E:=eG c;clear c;obtain⟨W,c⟩:=E;obtain⟨hd,he,b1⟩:=kL h G W
  cases a3:bz o vr<;>simp only[a3] at c<;>try exact c.elim
  obtain rfl:=iq a3;split at c
  ·rename_i t' l _
   cases a2:bz t t'<;>cases hc:l.all (dJ false)<;>simp only[a2,hc] at c<;>try exact c.elim
   obtain rfl:=iq a2;obtain⟨a5,a7,b0,j,c⟩:=c;have E:=eG c;clear c;obtain⟨B,c⟩:=E
   cases a1:bz a7 0<;>cases b0<;>simp only[a1] at c<;>try exact c.elim
   rename_i O dw k;obtain rfl:=iq a1;cases hq:g O k l D with
   |none=>rw[hq] at c;exact c.elim| some q=>
    obtain⟨p,r⟩:=q;rw[hq] at c;obtain⟨hp,S,_,hF⟩:=c;obtain⟨hO,Q,z⟩:=h.dev a5 0 O dw k j B;subst hO Q;have Y:=n.dvh _ _ _ z;obtain⟨b8,u,_⟩:=h.l9 dx a5 0 _ j;obtain rfl:=(h.oq dx _ Y).2.now u
    match vs,hv with
    | v :: vs,⟨hv1,hv2⟩=>
     obtain⟨C,rfl,rfl⟩:=hv1.Ac he;obtain⟨g1,cs,e1,hB,hR⟩:=b1;cases e1;have b2:C<w.heap.size:=hB.lt;have X:=h.live x o _ C he rfl;have U:¬(aT A w env).ok C:=fun i=>i.2 x o _ he rfl
     have H:RL { w:=w,ok:=(aT A w env).ok,env:=Dc A.dv.hd } (.dv::l) cs.toList:=by
      generalize cs.toList=zs at hR ⊢;cases hR with
      | cons k1 k2=>
       refine .cons ?_ ((jY k2 hc).le ⟨dE _,fun b _ d=>⟨d,rfl⟩,fun _ _ _ h=>by cases h⟩);cases k1 with
       |dv j1 j2=>have e3:=j2.now u;subst e3;exact .dv j1 ⟨0,A.dv.hd,rfl,dE _,fun _=>rfl⟩
     refine (hg A.dv.O k l D p r hq hp w (aT A w env).ok (jM C::vs) C A.dv (ownB A env)
      (
       fun w' N=>n.mem w' (h.gy.trans' N (fun _ _ h=>h) (fun b V d=>by
       rcases d with d|rfl;exact n.sub b d;rcases X.2 with m|m;omega
       exact m.1)))
      (
       fun b d=>by
       rcases d with d|rfl;have m:=n.old b (n.sub b d)
       refine⟨Y1 m.1 h.gy.size,fun i=>?_⟩;rcases i.1 with J|J;exact m.2 J;omega
       exact⟨b2,U⟩)
      (n.step.mono fun l2 m J=>S l2 m.1 m.2 J) n.Bo rfl z (.inr ⟨x,o,_,he,rfl⟩) ⟨cs,hB,H⟩
      ⟨.w (.one (.pt ⟨C,0,rfl⟩ ⟨0,jM C,rfl,dE _,fun _=>⟨C,rfl,rfl⟩⟩)),aBn aHf hr hv2⟩).mono ?_
     rintro e w' ⟨N,⟨a8,rfl,T,⟨a6,b5,a4⟩,b3⟩|⟨K,l2,rfl,m,J,h3⟩⟩
     obtain⟨h4,h5⟩:=h.Nv (w':=w') (p':=.dv::l) j B n.sub (fun b d=>n.old b (n.sub b d)) G he N b3 (fun b7=>⟨a6,b5,by
      generalize a6.toList=zs at a4 ⊢;cases a4 with
      | cons k1 k2=>
       refine .cons ?_ (?_:RL _ _ _);cases k1 with
       |dv j1 j2=>have e3:=j2.now (show Dc A.dv.hd dx=some (0,A.dv.hd) from rfl);subst e3;exact .dv j1 ⟨0,A.dv.hd,u,dE _,fun _=>rfl⟩
       refine k2.le ⟨dE _,fun b d i=>⟨?_,rfl⟩,fun y v2 a0 hy=>?_⟩;rcases i with⟨_,i⟩|i;exact i
       exact⟨.inr (mr h.gy.size i),fun y v2 a0 hy b4=>by have:=(h.live y v2 a0 b hy b4).1;omega⟩;obtain⟨rfl,rfl,rfl⟩:=aKa hy
       exact⟨0,_,u,dE _,fun _=>rfl⟩⟩)
     exact .inl ⟨r,_,a8,env,rfl,hF,h4.Eo G j W,T.le (yQ h N.size)⟩;refine .inr ⟨K,rfl,l2,S l2 m.1 m.2 J,J,n.Bo _ _ _ _ _ _ h3 (dm.refl _ _) (fun b d=>.inl d),h.gy.trans' N (fun _ _ h=>h) (fun b V d=>?_)⟩;rcases d with d|rfl;exact n.sub b d;rcases X.2 with m|m;omega;exact m.1
  exact c.elim
 exact c.elim
end
end Pv
namespace Pv
section
variable {P:gp} {I:ae->Prop} {A:n_} {s:St} {a:Act} {w w':ae} {env:Env} {F:Option Bool->PV->Wr->Prop}
theorem gu.many(h:gu A s a w env)(wr:Wr)(C:dm (fun b=>∃ p∈wr,∃ d,env p.1=some (p.2.2.1,d)/\hblk d=some b) w w')
  (G:∀ p∈wr,p.2.1=none/\(∀ O dw l,p.2.2.2≠.dev O dw l)/\∃ d,env p.1=some (p.2.2.1,d)/\((aT A w env).Le (aT A w' env)->EW (aT A w' env) d p.2.2.2)) :
  gu A { s with o:=wr++s.o } a w' env/\(aT A w env).Le (aT A w' env):=by
 have u:(aT A w env).Le (aT A w' env):=⟨C.size,fun b B H=>⟨H,C.block b B (fun⟨p,_,d,m,f⟩=>H.2 _ _ _ m f)⟩,fun x c d Q=>⟨c,d,Q,dE _,fun _=>rfl⟩⟩
 have n:∀ (l:Wr) x,(∃ p∈l,p.1=x/\find (l++s.o) x=some p.2)\/((∀ p∈l,p.1≠x)/\find (l++s.o) x=find s.o x):=by
  intro l x
  induction l with
  |nil=>exact .inr ⟨(fun p z=>by cases z),rfl⟩|cons p l Z=>by_cases z:p.1=x;exact .inl ⟨p,Xv,z,by rw[<-z];exact aK _ _ _⟩;have e:find (p::l++s.o) x=find (l++s.o) x:=aN _ _ z;rcases Z with⟨q,m,f,r⟩|⟨m,f⟩;exact .inl ⟨q,Y3 _ m,f,e.trans r⟩;refine .inr ⟨fun q S=>?_,e.trans f⟩;rcases List.mem_cons.1 S with rfl|S;exact z;exact m q S
 refine⟨{ gy:=?_,size:=h.size,dom:=fun x Q=>?_,l9:=fun x g c o K=>?_,live:=fun x c d b m f=>⟨Y1 (h.live x c d b m f).1 C.size,(h.live x c d b m f).2⟩,inj:=h.inj,tmps:=fun t g pv K J=>let ⟨v,m,f⟩:=h.tmps t g pv K J;⟨v,m,f.le u⟩,defers:=h.defers,und:=h.und,oq:=fun y d V=>⟨(h.oq y d V).1,(h.oq y d V).2.le u⟩,dev:=fun g c O dw l K J=>?_ },u⟩;refine h.gy.trans' C (fun _ _ h=>h) (fun i hi ⟨p,_,d,m,f⟩=>?_);rcases (h.live _ _ d i m f).2 with r|r;omega;exact r.1;rcases n wr x with⟨p,_,_,r⟩|⟨_,f⟩;have E:find (wr++s.o) x=none:=Q;rw[r] at E;cases E;exact h.dom x (f.symm.trans Q);have j:find (wr++s.o) x=some (g,c,o):=K;rcases n wr x with⟨p,m,f,r⟩|⟨m,f⟩;rw[r] at j;obtain⟨D,_,d,N,L⟩:=G p m;obtain⟨W,g',X,Y⟩:=p;dsimp only at D N L f;subst f;cases j
 exact⟨d,N,fun _=>L u⟩;rw[f] at j;obtain⟨d,r,h4⟩:=h.l9 x g c o j;exact⟨d,r,fun J=>(h4 J).Am u (fun b U B=>C.block b B (fun⟨p,z,T,h5,h6⟩=>m p z (h.inj p.1 x _ T c d b h5 r h6 U)))⟩;have j:find (wr++s.o) dx=some (g,c,.dev O dw l):=K;rcases n wr dx with⟨p,m,f,r⟩|⟨m,f⟩;rw[r] at j;obtain⟨_,D,_⟩:=G p m;obtain⟨W,g',X,Y⟩:=p;cases j;exact absurd rfl (D O dw l);rw[f] at j;obtain⟨D,N,L⟩:=h.dev g c O dw l j J
 exact⟨D,N,A.dv.grow _ _ _ _ _ L (C.mono fun k _ ⟨p,_,d,e1,e2⟩=>.inr ⟨p.1,_,d,e1,e2⟩) (fun b hb=>.inl hb)⟩
structure Gv where
 x:Nat
 vr:Nat
 t:bu
 l:List PC
def Zg:List PV->Nat->(List Gv->List PV->M)->M
 |[],_,k=>k [] []| .w (.one (.pt x d f))::l,i,k=>(match bz f 0 with
  | true=>.obj x fun m g j=>jV m (match bz d g,j with
   |true,.box t c=>(match c.all (dJ false) with
    |true=>Zg l (i+1) fun e b=>k (⟨x,g,t,c⟩::e) (d_ (.pt (px+i) 0 0)::b)|false=>.fail)
   |_,_=>.fail)
  |false=>.fail)
 |v::l,i,k=>(match E8 v with
  |some h=>Zg l i fun e b=>k e (h::b)|none=>.fail)
def writeM:List Gv->List (List PC)->M->M
 |[],[],k=>k|o::os,c::cs,k=>.upd o.x o.vr (.box o.t c) (writeM os cs k)|_,_,_=>.fail
def distinct:List Gv->Bool
 |[]=>true|o::os=>(os.all fun p=>!Nat.beq o.x p.x)&&distinct os
def F6:Nat->List Gv->List (List PC)->List Ob
 |i,o::os,c::cs=>⟨px+i,o.t,o.l,c⟩::F6 (i+1) os cs|_,_,_=>[]
def aYe(g:List (bu×List PC)->List PV->Option (Prop×List (List PC)×PV)):Spec:=fun _ e=>Zg e 0 fun b d=>(match distinct b,g (b.map fun o=>(o.t,o.l)) d with
 |true,some (p,c,r)=>(match bz c.length b.length with
  |true=>.need p (writeM b c (.ret r))|false=>.fail)
 |_,_=>.fail)
def aCK:Option (Nat×ag)->Nat
 |some (_,.pointer (some a))=>a.block|_=>0
def CV(os:List Gv)(env:Nat->Option (Nat×ag))(n:Nat):Nat:=aCK ((os[n-px]?).bind fun o=>env o.x)
def aFU(C:Ctx)(o:Gv):Prop:=∃ g b,C.env o.x=some (o.vr,jM g)/\dh C.w g o.t b/\RL C.cold o.l b.toList
theorem aGs(h:gu A s a w env):∀ {d:List PV} {D:List ag} {i:Nat} {k:List Gv->List PV->M},oh (aT A w env) d D->(Zg d i k).ok none s F ->
  ∃ e f,(∀ o∈e,aFU (aT A w env) o)/\(∀ g:Ctx,(aT A w env).cold.Le g->(∀ (j:Nat) o,e[j]?=some o->∀ p,env o.x=some (o.vr,p)->g.env (px+(i+j))=some (0,p))->oh g f D)/\(k e f).ok none s F
 |[],[],i,k,_,b=>⟨[],[],(fun o B=>by cases B),fun _ _ _=>trivial,b⟩|[],_::_,_,_,hv,_=>hv.elim|_::_,[],_,_,hv,_=>hv.elim| pv::d,v::D,i,k,⟨h1,h2⟩,b=>by
  have r:∀ y,E8 pv=some y->(Zg d i fun e f=>k e (y::f)).ok none s F->∃ e f,(∀ o∈e,aFU (aT A w env) o)/\(∀ g:Ctx,(aT A w env).cold.Le g->(∀ (j:Nat) o,e[j]?=some o->∀ p,env o.x=some (o.vr,p)->g.env (px+(i+j))=some (0,p))->oh g f (v::D))/\(k e f).ok none s F:=by intro y H N;obtain⟨e,f,W,V,U⟩:=aGs h h2 N;exact⟨e,y::f,W,fun g m E=>⟨bOf m H h1,V g m E⟩,U⟩
  unfold Zg at b;split at b;cases ‹_::_=[]›
  ·rename_i x q z l u;obtain⟨rfl,rfl⟩:pv=.w (.one (.pt x q z))/\d=l:=by simpa using u
   cases Y:bz z 0<;>rw[Y] at b
   exact b.elim;obtain rfl:=iq Y;obtain⟨gd,Z,ob,S,b⟩:=b;have L:=eG b;clear b;obtain⟨Q,b⟩:=L;obtain⟨p,T,K⟩:=kL h S Q
   cases C:bz q Z<;>cases ob<;>simp only[C] at b<;>try exact b.elim
   rename_i t c;obtain rfl:=iq C
   cases X:c.all (dJ false)<;>rw[X] at b
   exact b.elim;obtain⟨G,rfl,rfl⟩:=h1.Ac T;obtain⟨g1,cs,e1,hB,hR⟩:=K;cases e1;obtain⟨e,f,W,V,U⟩:=aGs h h2 b;refine⟨⟨x,q,t,c⟩::e,d_ (.pt (px+_) 0 0)::f,fun o B=>?_,fun g m E=>⟨?_,V g m (fun j o O p hx=>?_)⟩,U⟩;rcases List.mem_cons.1 B with rfl|B
   exact⟨G,cs,T,hB,jY hR X⟩;exact W o B;have:=E 0 _ rfl _ T;rw[Nat.add_zero] at this;exact .w (.one (.pt ⟨G,0,rfl⟩ ⟨0,jM G,this,dE _,fun _=>⟨G,rfl,rfl⟩⟩));have:=E (j+1) o (by simpa using O) p hx;rw[show ∀ n:Nat,n+1+j=n+(j+1) from fun n=>by omega];exact this
  rename_i v0 l0 _ u;obtain⟨rfl,rfl⟩:pv=v0/\d=l0:=by simpa using u
  cases J:E8 pv with
  |none=>rw[J] at b;exact b.elim|some y=>rw[J] at b;exact r y J b
theorem aOa{r:PV}:∀ {b:List Gv} {d:List (List PC)} {F:Option Bool->PV->Wr->Prop},(writeM b d (.ret r)).ok none s F->b.length=d.length/\F none r ((b.zip d).map fun p=>(p.1.x,none,p.1.vr,.box p.1.t p.2))
 |[],[],F,h=>⟨rfl,h⟩|[],_::_,_,h=>h.elim|_::_,[],_,h=>h.elim|o::b,c::d,F,h=>by obtain⟨_,h⟩:=h;obtain⟨f,e⟩:=aOa h;exact⟨by simp[f],e⟩
theorem aHc:∀ {b:List Gv},distinct b=true->∀ (i j:Nat) o p,b[i]?=some o->b[j]?=some p->o.x=p.x->i=j
 |[],_,i,j,o,p,d,_,_=>by simp at d| q::b,h,i,j,o,p,d,hj,e=>by
  rw[distinct,PP] at h;have c:∀ p∈b,q.x≠p.x:=fun p f e=>by have:=List.all_eq_true.1 h.1 p f;rw[e] at this;simp at this
  match i,j with
  |0,0=>rfl|0,j+1=>
   obtain rfl:q=o:=by simpa using d
   exact absurd e (c p (Yy (by simpa using hj:b[j]?=some p)))
  |i+1,0=>
   obtain rfl:q=p:=by simpa using hj
   exact absurd e.symm (c o (Yy (by simpa using d:b[i]?=some o)))
  |i+1,j+1=>rw[aHc h.2 i j o p (by simpa using d) (by simpa using hj) e]
theorem aAu:∀ {d:List Gv} {e:List (List PC)} {i:Nat} {b:Ob},b∈F6 i d e->∃ j o c,d[j]?=some o/\e[j]?=some c/\b=⟨px+(i+j),o.t,o.l,c⟩
 |[],_,_,_,h=>by cases h|_::_,[],_,_,h=>by cases h|o::d,c::e,i,b,h=>by
  rcases List.mem_cons.1 h with rfl|h
  exact⟨0,o,c,rfl,rfl,rfl⟩;obtain⟨j,f,n,m,k,g⟩:=aAu h;exact⟨j+1,f,n,by simpa using m,by simpa using k,by rw[g,show i+1+j=i+(j+1) from by omega]⟩
theorem aFy:∀ {b:List Gv} {d:List (List PC)} {i j:Nat} {o:Gv} {c:List PC},b[j]?=some o->d[j]?=some c->(⟨px+(i+j),o.t,o.l,c⟩:Ob)∈F6 i b d
 |[],_,_,_,_,_,h,_=>by simp at h|_::_,[],_,_,_,_,_,h=>by simp at h|o::b,c::d,i,0,o',c',h1,h2=>by
  obtain rfl:o=o':=by simpa using h1
  obtain rfl:c=c':=by simpa using h2
  exact Xv
 |o::b,c::d,i,j+1,o',c',h1,h2=>by refine Y3 _ ?_;rw[show i+(j+1)=i+1+j from by omega];exact aFy (by simpa using h1) (by simpa using h2)
theorem aQb{f:Nat}{g:List (bu×List PC)->List PV->Option (Prop×List (List PC)×PV)}(T:∀ args w,(Xy f args).run P w=.ok (.enter f args) w)
  (hg:∀ (d:List Gv) K p m r,g (d.map fun o=>(o.t,o.l)) K=some (p,m,r)->d.length=m.length->p->ui P I f false (F6 0 d m) (fun _=>none) none (fun _=>False) K r):ai P I f (aYe g):=by
 refine⟨T,fun A s a w env nm a6 vs F h hI hv B=>?_⟩;unfold aYe at B;obtain⟨d,K,h1,h2,B⟩:=aGs h hv B
 cases hd:distinct d<;>cases V:g (d.map fun o=>(o.t,o.l)) K<;>simp only[hd,V] at B<;>try exact B.elim
 rename_i q;obtain⟨p,m,r⟩:=q;dsimp only at B
 cases D:bz m.length d.length<;>rw[D] at B
 exact B.elim;have z:=iq D;obtain⟨hp,B⟩:=B;obtain⟨_,hF⟩:=aOa B;have u:∀ (j:Nat) o,d[j]?=some o->∃ g,env o.x=some (o.vr,jM g)/\CV d env (px+(0+j))=g:=fun j o n=>by obtain⟨g,C,k,_⟩:=h1 o (Yy n);refine⟨g,k,?_⟩;unfold CV;rw[lL,Nat.add_sub_cancel_left,n];have H:env o.x=some (o.vr,jM g):=k;rw[Option.bind_some,H];rfl
 have J:∀ b,SX (F6 0 d m) (CV d env) Dv.non b->∃ o∈d,env o.x=some (o.vr,jM b):=by rintro b (D|⟨ob,y,rfl⟩);exact D.elim;obtain⟨j,o,c,k,_,rfl⟩:=aAu y;obtain⟨g,G,E⟩:=u j o k;exact⟨o,Yy k,by rw[E];exact G⟩
 refine (hg d K p m r V z.symm hp w (aT A w env).ok vs (CV d env) Dv.non (fun _=>True)
  (
   fun w' N=>hI.mem w' (h.gy.trans' N (fun _ _ h=>h) (fun b a5 D=>by
   obtain⟨o,ho,k⟩:=J b D;rcases (h.live _ _ _ b k rfl).2 with W|W;omega
   exact W.1)))
  (
   fun b D=>by
   obtain⟨o,ho,k⟩:=J b D
   exact⟨(h.live _ _ _ b k rfl).1,fun a0=>a0.2 _ _ _ k rfl⟩)
  (pq.non P) (fun _ _ _ _ _ _ h=>h.elim) rfl (fun p hp=>by cases hp) (fun _=>⟨fun _ h=>h,fun _ _ _ h=>h⟩)
  (
   fun ob y=>by
   obtain⟨j,o,c,k,_,rfl⟩:=aAu y;obtain⟨g,G,E⟩:=u j o k;obtain⟨g',C,e4,h4,h5⟩:=h1 o (Yy k);have U:env o.x=some (o.vr,jM g'):=e4;rw[G] at U;cases U;refine⟨trivial,C,?_,h5⟩;show dh w (CV d env (px+(0+j))) _ _;rw[E]
   exact h4)
  (
   fun ob y a7 Q e=>by
   obtain⟨j,o,c,k,_,rfl⟩:=aAu y;obtain⟨Z,Y,c',H,_,rfl⟩:=aAu Q;obtain⟨g,G,E⟩:=u j o k;obtain⟨g',a3,a2⟩:=u Z Y H;have e':CV d env (px+(0+j))=CV d env (px+(0+Z)):=e;rw[E,a2] at e';subst e';have:=h.inj o.x Y.x _ _ _ _ g G a3 rfl rfl
   rw[aHc hd j Z o Y k H this])
  (
   h2 _ aHf (fun j o n hd hx=>by
   obtain⟨g,G,E⟩:=u j o n;rw[G] at hx;cases hx
   have hm:∃ c,m[j]?=some c:=by
    have:j<m.length:=by rw[z];exact (List.getElem?_eq_some_iff.1 n).1
    exact⟨_,zH this⟩
   obtain⟨c,hc⟩:=hm;show y9 (F6 0 d m) (CV d env) none Dv.non.hd (px+(0+j))=_;have S:OW (F6 0 d m) (px+(0+j))=true:=aAw (aFy (i:=0) n hc);unfold y9 ug;rw[S];show some (0,jM (CV d env (px+(0+j))))=_
   rw[E]))).mono ?_
 rintro e w' ⟨N,⟨X,rfl,O,a1,_⟩|⟨a4,l2,rfl,W,_⟩⟩
 obtain⟨h4,h5⟩:=h.many (w':=w') ((d.zip m).map fun p=>(p.1.x,none,p.1.vr,.box p.1.t p.2))
  (
   N.mono fun b a8 D=>by
   obtain⟨o,ho,k⟩:=J b D;obtain⟨j,n⟩:=List.getElem?_of_mem ho;have hm:j<m.length:=by rw[z];exact (List.getElem?_eq_some_iff.1 n).1
   exact⟨(o.x,none,o.vr,.box o.t m[j]),List.mem_map.2 ⟨(o,m[j]),Yy (i:=j) (by rw[aGL];exact⟨n,zH hm⟩),rfl⟩,_,k,rfl⟩)
  (
   fun q V=>by
   obtain⟨⟨o,c⟩,hz,rfl⟩:=List.mem_map.1 V;obtain⟨j,n⟩:=List.getElem?_of_mem hz;rw[aGL] at n;obtain⟨g,G,E⟩:=u j o n.1;refine⟨rfl,(fun _ _ _ e=>by cases e),jM g,G,fun a9=>?_⟩;obtain⟨C,k1,k2⟩:=a1 _ (aFy (i:=0) n.1 n.2);have L:dh w' (CV d env (px+(0+j))) o.t C:=k1;rw[E] at L
   exact⟨g,C,rfl,L,k2.le (yQ h N.size)⟩)
 exact .inl ⟨r,_,X,env,rfl,hF,h4,O.le (yQ h N.size)⟩;exact W.elim
end
end Pv
def nonzero(l:List Int):Nat:=(l.filter (fun n=>n != 0)).length
def mG(l:List Int):Bool:=decide (l.length<2*nonzero l)
def ah.vw(a b:Int):ah Int:=.ask ⟨1,a,b,aH⟩ fun r=>.ret r.val
def ah.ul(a b:Int):ah Unit:=.ask ⟨2,a,b,aH⟩ fun _=>.ret ()
def ah.read(d e:Int):ah Bool:=(ah.vw d (3*e+0)).bind fun a=>(ah.vw d (3*e+1)).bind fun b=>(ah.vw d (3*e+2)).bind fun c=>.ret (mG [a,b,c])
def ah.jo(a b:Int):ah Unit:=(ah.ul a (3*b+0)).bind fun _=>(ah.ul a (3*b+1)).bind fun _=>(ah.ul a (3*b+2)).bind fun _=>.ret ()
def ah.up(a:Int):Nat->Nat->ah Nat
 |0,n=>.ret n|f+1,n=>(ah.read a n).bind fun b=>if b then ah.up a f (n+1) else .ret n
def ah.down(a:Int):Nat->Nat->ah Unit
 |0,_=>.ret ()|r+1,b=>(ah.jo a b).bind fun _=>ah.down a r (b+1)
def ah.dn(a:Int)(b:Nat):ah Nat:=(ah.up a b 0).bind fun n=>(ah.down a n 0).bind fun _=>.ret n
def ah.p_(a:Int):Nat->Nat->ah (Nat×Int)
 |0,n=>.ret (n,0)|f+1,n=>(ah.jo a n).bind fun _=>(ah.read a n).bind fun b=>if b then ah.p_ a f (n+1) else .ret (n,12)
def ah.jw(b:Int)(c a:Nat):ah (Nat×Int):=(ah.dn b c).bind fun n=>ah.p_ b (a-n) n
theorem Fh(a:Int):∀ f n,ah.All (fun m=>m<=n+f) (ah.up a f n)
 |0,n=>dE _|f+1,n=>by refine ah.All.bind (R:=fun _=>True) (ah.All.zo _) (fun b _=>?_);cases b;exact (by show n<=n+(f+1);omega);exact (Fh a f (n+1)).mono (fun m c=>by omega)
def fO(x:Int)(a:Bool):Int:=if x=2\/(x=1/\a=true) then 1 else 0
def kK(x:Int)(cut:Bool):Int:=if x<=1 then (if cut then 1 else 2) else x
def Xb(cells:List Int)(a:Bool)(b:Nat):Bool:=decide (2<=fO (cells.getD (3*b) 0) a+fO (cells.getD (3*b+1) 0) a+fO (cells.getD (3*b+2) 0) a)
def wO(cells:List Int)(a:Bool):Nat->Nat->Nat
 |0,b=>b|f+1,b=>if Xb cells a b then wO cells a f (b+1) else b
def kW(cells:List Int)(a:Bool):Nat:=wO cells a (cells.length / 3) 0
theorem aCe(x:Int)(n:Bool):0<=fO x n/\fO x n<=1:=by unfold fO;split<;>omega
theorem bCl{cells:List Int}{a:Bool}{f b:Nat}(h:Xb cells a b=false):wO cells a (f+1) b=b:=by simp[wO,h]
theorem aVf{cells:List Int}{a:Bool}{f b:Nat}(h:Xb cells a b=true):wO cells a (f+1) b=wO cells a f (b+1):=by simp[wO,h]
theorem getD_at{l:List Int}{i:Nat}(h:i<l.length):l.getD i 0=l[i]:=by rw[zG,zH h];rfl
theorem EE:∀ (c:Int) (f b:Nat),ah.All (fun m=>m<=b+f) (ah.up c f b)
 |_,0,b=>dE _|c,f+1,b=>(ah.All.zo (ah.read c b)).bind fun x _=>by
  cases x with
  |true=>exact (EE c f (b+1)).mono fun a h=>by omega|false=>exact (by omega:b<=b+(f+1))
theorem yZ(b:Int)(a:Nat):ah.All (fun m=>m<=a) (ah.dn b a):=(EE b a 0).bind fun m h=>(ah.All.zo (ah.down b m 0)).bind fun _ _=>by show m<=a;omega
abbrev cell(c:List Int)(j:Nat):Int:=c.getD j 0
def ah.Within{a:Type}:Nat->ah a->Prop
 |_,.ret _=>True|0,.ask _ _=>False|n+1,.ask _ k=>∀ r,ah.Within n (k r)
theorem Within.mono{b:Type}{p:ah b}:∀ {n m:Nat},p.Within n->n<=m->p.Within m:=by
 induction p with
 |ret a=>intro n m _ _;cases m<;>trivial| ask a k c=>
  intro n m h d;cases n with
  |zero=>exact h.elim|succ n=>
   cases m with
   |zero=>omega|succ m=>exact fun r=>c r (h r) a_
theorem Within.bind{c d:Type}{p:ah c}{f:c->ah d}{m:Nat}:∀ {n:Nat},p.Within n->(∀ a,(f a).Within m)->(p.bind f).Within (n+m):=by
 induction p with
 |ret a=>intro n _ b;exact Within.mono (b a) a_| ask a k e=>
  intro n h b;cases n with
  |zero=>exact h.elim|succ n=>rw[show n+1+m=(n+m)+1 from by omega];exact fun r=>e r (h r) b
theorem Within.Np{b e:Type}{R:b->Prop}{p:ah b}{f:b->ah e}{m:Nat}:∀ {n:Nat},p.Within n->ah.All R p->(∀ a,R a->(f a).Within m)->(p.bind f).Within (n+m):=by
 induction p with
 |ret a=>intro n _ d c;exact Within.mono (c a d) a_| ask a k g=>
  intro n h d c;cases n with
  |zero=>exact h.elim|succ n=>rw[show n+1+m=(n+m)+1 from by omega];exact fun r=>g r (h r) (d r) c
theorem yK(a b:Int):(ah.vw a b).Within 1:=fun _=>trivial
theorem vK(a b:Int):(ah.ul a b).Within 1:=fun _=>trivial
theorem aEj(a b:Int):(ah.read a b).Within 3:=Within.bind (m:=2) (yK _ _) fun _=>Within.bind (m:=1) (yK _ _) fun _=>Within.bind (m:=0) (yK _ _) fun _=>trivial
theorem aAa(a b:Int):(ah.jo a b).Within 3:=Within.bind (m:=2) (vK _ _) fun _=>Within.bind (m:=1) (vK _ _) fun _=>Within.bind (m:=0) (vK _ _) fun _=>trivial
theorem aOg(a:Int):∀ f n,(ah.up a f n).Within (3*f)
 |0,n=>trivial|f+1,n=>by
  rw[show 3*(f+1)=3+3*f from by omega];refine Within.bind (aEj a n) fun b=>?_;cases b with
  |true=>exact aOg a f (n+1)|false=>exact Within.mono (n:=0) (show (ah.ret n:ah Nat).Within 0 from trivial) a_
theorem aEk(a:Int):∀ r b,(ah.down a r b).Within (3*r)
 |0,b=>trivial|r+1,b=>by rw[show 3*(r+1)=3+3*r from by omega];exact Within.bind (aAa a b) fun _=>aEk a r (b+1)
theorem rD(a:Int)(b:Nat):(ah.dn a b).Within (6*b):=by rw[show 6*b=3*b+(3*b+0) from by omega];refine Within.Np (aOg a b 0) (EE a b 0) fun n c=>?_;exact Within.bind (Within.mono (aEk a n 0) a_) fun _=>trivial
theorem uY(a:Int):∀ f n,(ah.p_ a f n).Within (6*f)
 |0,n=>trivial|f+1,n=>by
  rw[show 6*(f+1)=3+(3+6*f) from by omega];refine Within.bind (aAa a n) fun _=>Within.bind (aEj a n) fun b=>?_;cases b with
  |true=>exact uY a f (n+1)|false=>exact Within.mono (n:=0) (show (ah.ret (n,(12:Int)):ah (Nat×Int)).Within 0 from trivial) a_
theorem aHw(a:Int)(c b:Nat):(ah.jw a c b).Within (6*c+6*b):=Within.bind (rD a c) fun n=>Within.mono (uY a (b-n) n) a_
namespace Pv
def ans(O:List Acc->Option jh)(l:List Acc):jh:=(O l).getD ⟨0,aH⟩
def go{b:Type}(O:List Acc->Option jh):ah b->List Acc->b×List Acc
 |.ret a,l=>(a,l)|.ask c k,l=>go O (k (ans O (l++[c]))) (l++[c])
theorem go_ret{b:Type}(O:List Acc->Option jh)(a:b)(l:List Acc):go O (.ret a) l=(a,l):=rfl
theorem yH{a:Type}(O:List Acc->Option jh)(c:Acc)(k:jh->ah a)(l:List Acc):go O (.ask c k) l=go O (k (ans O (l++[c]))) (l++[c]):=rfl
theorem zK{b d:Type}(O:List Acc->Option jh)(p:ah b)(f:b->ah d):∀ l,go O (p.bind f) l=go O (f (go O p l).1) (go O p l).2:=by
 induction p with
 |ret a=>intro l;rfl|ask c k e=>intro l;exact e _ _
theorem wR{b:Type}(O:List Acc->Option jh)(p:ah b):∀ l,l <+: (go O p l).2:=by
 induction p with
 |ret a=>intro l;exact aAE _|ask c k d=>intro l;exact (Yb l [c]).trans (d _ _)
theorem UK{b:Type}{R:b->Prop}(O:List Acc->Option jh){p:ah b}(h:ah.All R p):∀ l,R (go O p l).1:=by
 induction p with
 |ret a=>intro l;exact h|ask c k d=>intro l;exact d _ (h _) _
def nD{d:Type}(a:List PV->Option (Prop×ah d×(d->PV))):Spec:=aNg (fun O l b=>match a b with|some (_,p,_)=>(go O p l).2|none=>l) (fun O l b=>match a b with|some (c,p,f)=>some (c,f (go O p l).1)|none=>none)
def CO(P:gp)(I:ae->Prop)(f:Nat){a:Type}(p:ah a)(args:List PV)(val:a->PV):Prop:=∀ O l,ui P I f false [] O (some (l,(go O p l).2)) (fun h=>l <+: h/\h <+: (go O p l).2) args (val (go O p l).1)
theorem pO{P:gp}{I:ae->Prop}{f:Nat}{h:Type}{a:List PV->Option (Prop×ah h×(h->PV))}(d:∀ args w,(Xy f args).run P w=.ok (.enter f args) w)
  (k:∀ b c p v,a b=some (c,p,v)->c->CO P I f p (.w (.one .dv)::b) v):ai P I f (nD a):=by
 refine aKd d (fun O l b p r e j=>?_);cases g:a b with
 |none=>rw[g] at e;cases e|some q=>obtain⟨c,i,v⟩:=q;rw[g] at e;cases e;exact k b _ i v g j O l
theorem aLw{H L l:List Acc}{c:Acc}{X:Prop}(h1:L <+: l)(h2:l++[c] <+: H):X->L <+: l++[c]/\l++[c] <+: H:=fun _=>⟨h1.trans (Yb l [c]),h2⟩
theorem pF(l:List Acc):l <+: l:=aAE l
theorem Pz(l:List Acc)(c:Acc):l <+: l++[c]:=Yb l [c]
theorem bFm{P:gp}{A:n_}{s:St}{Q:Exit->Act->ae->Prop}{b:Nat}(h:UN A s (Q .normal)):lh P A s (.label b) Q:=fun a w c _=>wp_label (h a w c)
theorem bFl{P:gp}{A:n_}{s:St}{Q:Exit->Act->ae->Prop}{c:Code}(h:lh P A s c (Exit.noGoto Q)):lh P A s (.scope c) Q:=fun a w f d=>wp_scope_straight (h a w f (fun b a w g e=>d b a w g e))
def OB(O:List Acc->Option jh):Prop:=∀ l r,O l=some r->r.bytes.size<=1000000
theorem OB.ans{O:List Acc->Option jh}(h:OB O)(l:List Acc):(ans O l).bytes.size<=1000000:=by
 unfold Pv.ans;cases a:O l with
 |none=>exact (by decide:(0:Nat)<=1000000)|some r=>exact h l r a
def bOx(P:gp)(I:ae->Prop)(f:Nat){a:Type}(p:ah a)(args:List PV)(val:a->PV):Prop:=∀ O l,OB O->ui P I f false [] O (some (l,(go O p l).2)) (fun h=>l <+: h/\h <+: (go O p l).2) args (val (go O p l).1)
theorem CO.toB{P:gp}{I:ae->Prop}{f:Nat}{a:Type}{p:ah a}{args:List PV}{val:a->PV}(h:CO P I f p args val):bOx P I f p args val:=fun O l _=>h O l
def nC{d:Type}(a:List PV->Option (Prop×ah d×(d->PV))):Spec:=aNg (fun O l b=>match a b with|some (_,p,_)=>(go O p l).2|none=>l) (fun O l b=>match a b with|some (c,p,f)=>some (OB O/\c,f (go O p l).1)|none=>none)
theorem qB{P:gp}{I:ae->Prop}{f:Nat}{h:Type}{a:List PV->Option (Prop×ah h×(h->PV))}(d:∀ args w,(Xy f args).run P w=.ok (.enter f args) w)
  (k:∀ b c p v,a b=some (c,p,v)->c->bOx P I f p (.w (.one .dv)::b) v):ai P I f (nC a):=by
 refine aKd d (fun O l b p r e i=>?_);cases g:a b with
 |none=>rw[g] at e;cases e|some q=>obtain⟨c,j,v⟩:=q;rw[g] at e;cases e;exact k b _ j v g i.2 O l i.1
end Pv
end Go.Proofs.YtndpjopifkbgiaaGreatDoor
