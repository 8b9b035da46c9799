/-
  Several texts in one file: each has its own heading below.
-/
import Derived.Test.YtndpjopifkbgiaaGreatDoorMsG
import Derived.Laws.Cover3
import Derived.Deep.LoopGhost
namespace Go.Proofs.YtndpjopifkbgiaaGreatDoor
open Go.RowKit Tryz
open _root_.Array renaming ext'->Ha
open _root_.Bool renaming and_eq_true->PP,or_eq_true->aES
open _root_.Go renaming Value->ag,World->ae,Program->gp,Operand->nz,yielded->Xx,execOp->uu,TypeId->bu,undef->dC,invoke->Yh,callFunc->Xy,Oper->gz,Code->Hm
open _root_.List renaming length_cons->Lt,all_cons->aBc
open _root_.Nat renaming le_refl->dE,beq->bz,le_of_ble_eq_true->Yz,sub_self->YB,ble->YZ
open _root_.Go.Value renaming ownBlock->Xr
namespace Pv
def oh(C:Ctx):List PV->List ag->Prop
 |[],[]=>True|v::vs,x::l=>RV C v x/\oh C vs l|_,_=>False
theorem oh.append{C:Ctx}:∀ {c:List PV} {l:List ag} {b:List PV} {d:List ag},oh C c l->oh C b d->oh C (c++b) (l++d)
 |[],[],_,_,_,h=>h|[],_::_,_,_,h,_=>h.elim|_::_,[],_,_,h,_=>h.elim|_::_,_::_,_,_,⟨h1,h2⟩,h=>⟨h1,h2.append h⟩
theorem oh.Dt{C:Ctx}:∀ {d:List PC} {l:List ag},RL C d l->(d.all fun c=>bz c.width 1)=true->oh C (d.map d_) l
 |[],l,h,_=>by cases h;exact trivial| c::d,l,h,hw=>by
  rw[aBc,PP] at hw;cases h with
  |@cons _ _ _ f i b g=>
   have e:=b.width;rw[iq hw.1] at e
   match f,e,b with
   |[v],_,b=>exact⟨.w (.one b),oh.Dt g hw.2⟩
theorem OT.vals{C:Ctx}{a:Act}:∀ {b:List PV} {l:List nz},OT C a b l->oh C b (l.map a.eval)
 |[],[],_=>trivial|[],_::_,h=>h.elim|_::_,[],h=>h.elim|_::_,_::_,⟨h1,h2⟩=>⟨h1,h2.vals⟩
def DT(A:n_)(b:List PanicEntry)(w:ae):Prop:=∃ l,A.dw l/\A.dv.O l=none/\A.dv.pan l A.X0 w b/\dm A.S A.w0 w
def CE(A:n_)(Q:Exit->Act->ae->Prop):Prop:=∀ b a w,a.defers=A.ds->DT A b w->Q (.panic b) a w
def uQ(e:Int):Acc:=⟨-1,e,0,aH⟩
def aGx(T:bu)(e:Int):List PanicEntry:=[{ v:=.iface T (.agg #[.int .i64 e]),recovered:=false }]
def ZI(T:bu)(O:List Acc->Option jh):Prop:=O []=some ⟨(T:Int)+1,aH⟩/\∀ l e,O (l++[uQ e])=none
structure pq(P:gp)(D:Dv)(dw:List Acc->Prop):Prop where
 step:∀ l X w,D.inv l X w->∃ F caps,D.hd=.func (.func F) #[] caps/\(∀ args w,(Xy F args).run P w=.ok (.enter F args) w) /\
  ∀ c:Acc,c.kind ≠ -1->(D.O (l++[c])=none->dw (l++[c]))->Calls P F (#[c.v]++caps) w fun e w'=>dm D.S w w'/\((∃ r,D.O (l++[c])=some r/\e=.returned r.v/\D.inv (l++[c]) X w')\/(∃ chain,D.O (l++[c])=none/\e=.panicked chain/\D.pan (l++[c]) X w' chain))
 fail:∀ T,ZI T D.O->∀ l X w,D.inv l X w->D.O l≠none/\∀ e,D.pan (l++[uQ e]) X w (aGx T e)
theorem pq.mono{P:gp}{D:Dv}{dw b:List Acc->Prop}(h:pq P D dw)(hs:∀ l,b l->D.O l=none->dw l):pq P D b:=⟨fun l X w f=>by
 obtain⟨F,d,k,j,i⟩:=h.step l X w f
 exact⟨F,d,k,j,fun c m g=>i c m fun e=>hs _ (g e) e⟩,h.fail⟩
structure o5(P:gp)(I:ae->Prop)(A:n_):Prop where
 mem:∀ w,dm A.S A.w0 w->I w
 sub:∀ b,A.dv.S b->A.S b
 old:∀ b,A.S b->b<A.w0.heap.size/\¬A.ok0 b
 step:pq P A.dv A.dw
 dvh:∀ l X w,A.dv.inv l X w->A.ext dx=some A.dv.hd
 Bo:∀ l X Y w w' chain,A.dv.pan l X w chain->dm X w w'->(∀ b,Y b->X b)->A.dv.pan l Y w' chain
structure ai(P:gp)(I:ae->Prop)(f:Nat)(sp:Spec):Prop where
 enters:∀ args w,(Xy f args).run P w=.ok (.enter f args) w
 calls:∀ (A:n_) (s:St) (a:Act) (w:ae) (env:Env) (nm:Nat) (pvs:List PV) (vs:List ag) (F:Option Bool->PV->Wr->Prop),gu A s a w env->o5 P I A->oh (aT A w env) pvs vs->(sp nm pvs).ok none s F ->
  Calls P f vs.toArray w fun e w'=>(∃ v wr val env',e=.returned val/\F none v wr/\gu A { s with o:=wr++s.o } a w' env'/\RV (aT A w' env') v val)\/(∃ chain,e=.panicked chain/\DT A chain w')
def aHs(P:gp)(I:ae->Prop)(G:Specs):Prop:=∀ f b,G f=some b->ai P I f b
section
variable {P:gp} {I:ae->Prop} {G:Specs} {A:n_} {s:St} {a:Act} {w:ae} {env:Env} {o:gz} {K:Act->ae->Prop} {Q:Exit->Act->ae->Prop} {F:Option Bool->PV->Wr->Prop}
theorem RV.MV{C:Ctx}{v:ag}(h:RV C (.w (.one .dv)) v):At C dx 0 (fun b=>v=b):=by cases h.inv with|dv _ h=>exact h
theorem bGu{C:Ctx}:∀ {l:List ag},(l.all (·.oneCell'))=true->RL C (l.map PC.lit) l
 |[],_=>.nil|v::l,h=>by rw[aBc,PP] at h;exact .cons (xs:=[v]) (.lit h.1) (bGu h.2)
theorem aQq{C:Ctx}:∀ {l:List PC} {f e:List ag},aQr l=some f->RL C l e->e=f
 |[],_,_,h,b=>by cases h;cases b;rfl| c::l,_,_,h,b=>by
  cases c<;>simp only[aQr] at h<;>try (cases h;done)
  rename_i v;cases d:aQr l with
  |none=>rw[d] at h;cases h|some r=>
   rw[d] at h;cases h;cases b with
   |cons i g=>cases i;rw[aQq d g];rfl
theorem aQk(h:gu A s a w env){fn:Fn}{first cap:Array nz}(g:o.op=.makeFunc fn first cap){e cs:List PV}{l:List ag}(h1:OT (aT A w env) a e first.toList)(h2:OT (aT A w env) a cs cap.toList)(h3:bJu e=some l)(h4:FK cs=some [])
  (k:F none (o9 (.func fn #[.agg l.toArray] #[])) []) (i:Fin A s a o K F):o.wp P a w K Q:=by
 have j:cap=#[]:=by
  cases cs with
  |nil=>
   cases d:cap.toList with
   |nil=>apply Ha;simpa using d|cons y t=>rw[d] at h2;exact h2.elim
  |cons v l=>
   unfold FK at h4
   cases n:Ph v<;>cases m:FK l<;>simp only[n,m] at h4<;>cases h4
 unfold bJu at h3;split at h3
 ·rename_i u
  match d:first.toList,h1 with
  | [y],h1=>
   obtain⟨b,_⟩:=h1;have r:first=#[y]:=by apply Ha;simpa using d
   generalize f:a.eval y=q at b;cases b with
   | w b=>cases b with
    |@agg _ c b=>
     have p:c=l.toArray:=by apply Ha;simpa using aQq h3 b
     refine aX (v:=.func fn (first.map a.eval) (cap.map a.eval)) (w':=w) ?_ (i.same h k (.w (.one ?_)));simp[uu,g,Instr.makeFunc];rw[r,j];simp only[List.map_toArray,List.map_cons,List.map_nil,f,p];exact .lit rfl
 cases h3
theorem SE (hG:aHs P I G) (hI:o5 P I A) (hQ:CE A Q) (h:gu A s a w env) {nm:Nat} {f:nz} {args:Array nz} {a6:Array bu} (ho:o.op=.call { callee:=.value f,args:=args,argTypes:=a6 }) {fv:PV} (C:RV (aT A w env) fv (a.eval f)) {xs:List PV} (p:OT (aT A w env) a xs args.toList)
  (d:(Nc G nm fv xs).ok none s F) (hf:Fin A s a o K F):o.wp P a w K Q:=by
 have V:∀ (g:Nat) (z:Spec) (B:List PV) (vs:List ag),G g=some z->oh (aT A w env) B vs->(z nm B).ok none s F->(uu a.eval o).run P w=(Xy g vs.toArray).run P w->o.wp P a w K Q:=by intro g z B vs hg j d u;have hs:=hG g z hg;unfold Oper.wp;rw[u,hs.enters,Oper.upon_enter];refine (hs.calls A s a w env nm B vs F h hI j d).mono ?_;rintro e X (⟨v,wr,a5,a3,rfl,i,U,T⟩|⟨m,rfl,i⟩);exact hf v wr a5 X a3 i U T;exact hQ m a X h.defers i
 unfold Nc at d;split at d
 ·unfold doM at d;split at d
  ·rename_i k b c x
   cases a0:decide (k = -1)<;>rw[a0] at d
   rotate_left;exact d.elim;unfold aDV at d;obtain⟨g,vr,ob,N,d⟩:=d;have a7:=eG d;clear d;obtain⟨hg,d⟩:=a7
   cases W:bz vr 0<;>cases ob<;>simp only[W] at d<;>try exact d.elim
   rename_i O dw l;obtain rfl:=iq W;obtain⟨Z,_,hF⟩:=d;obtain⟨hO,Y,E⟩:=h.dev g 0 O dw l N hg;subst hO Y;obtain⟨F0,a4,a8,a2,L⟩:=hI.step.step l _ w E;obtain⟨hd,he,_⟩:=h.l9 dx g 0 _ N;have t:a.eval f=hd:=C.MV.now he;have H:=(h.oq dx _ (hI.dvh _ _ _ E)).2.now he;rw[a8] at H;rw[H] at t
   have S : args.map a.eval=#[(⟨k,b,c,x⟩:Acc).v]:=by
    apply Ha;rw[Array.toList_map]
    match hl:args.toList,p with
    | [y], p=>
     obtain⟨j,_⟩:=p;generalize hq:a.eval y=q at j;cases j with
     | w j => cases j with
      | @agg _ n j=>
       have a9:n.toList=[.int .i64 k,.int .i64 b,.int .i64 c,.string x]:=by
        generalize n.toList=cl at j;cases j with
        | cons i j=>cases i;cases j with
         | cons i j=>cases i;cases j with
          |cons i j=>cases i;cases j with
           |cons i j=>cases i;cases j;rfl
       have:n=#[.int .i64 k,.int .i64 b,.int .i64 c,.string x]:=by apply Ha;simpa using a9
       simp[hq,this,Acc.v]
   have u:(uu a.eval o).run P w=(Xy F0 (#[(⟨k,b,c,x⟩:Acc).v]++a4)).run P w:=by simp[uu,ho,resolve,t,Deferred.ofValue,Yh,S]
   unfold Oper.wp;rw[u,a2,Oper.upon_enter];refine (L ⟨k,b,c,x⟩ (of_decide_eq_false a0) Z).mono ?_;rintro e X ⟨hc,⟨r,D,rfl,hi⟩|⟨m,D,rfl,hp⟩⟩;obtain⟨i,b1⟩:=h.asked N hg hI.sub (fun b W=>hI.old b (hI.sub b W)) hc hi;have b0:F none (Uw (A.dv.O (l++[(⟨k,b,c,x⟩:Acc)]))) [(dx,none,0,.dev A.dv.O A.dw (l++[(⟨k,b,c,x⟩:Acc)]))]:=hF;refine hf (Uw (A.dv.O (l++[(⟨k,b,c,x⟩:Acc)]))) [(dx,none,0,.dev A.dv.O A.dw (l++[(⟨k,b,c,x⟩:Acc)]))] r.v X env b0 i ?_;rw[D];refine .w (.agg ?_);show RL _ [.lit (.int .i64 r.val),.lit (.string r.bytes)] [.int .i64 r.val,.string r.bytes];exact .cons (xs:=[_]) (.lit rfl) (.cons (xs:=[_]) (.lit rfl) .nil);exact hQ m a X h.defers ⟨l++[(⟨k,b,c,x⟩:Acc)],Z D,D,hI.Bo _ _ _ _ _ _ hp (dm.refl _ _) (fun b W=>.inl W),h.gy.trans (hc.mono fun b _ hs=>hI.sub b hs)⟩
  exact d.elim
 ·rename_i g first cap
  split at d
  ·rename_i z i U T;have t:=C.eu;have e1:first=#[]:=by apply Ha;simpa using i
   have e2:cap=#[]:=by apply Ha;simpa using U
   subst e1 e2;refine V g z xs (args.toList.map a.eval) T p.vals d ?_;have e3:(args.toList.map a.eval).toArray=args.map a.eval:=by apply Ha;simp
   rw[e3];simp[uu,ho,resolve,t,Deferred.ofValue,Yh]
  ·rename_i n z i U T
   cases J:n.toList.all (·.oneCell')<;>simp only[J] at d<;>try exact d.elim
   have t:=C.eu;have e1:first=#[.agg n]:=by apply Ha;simpa using i
   have e2:cap=#[]:=by apply Ha;simpa using U
   subst e1 e2;refine V g z (.w (.agg (n.toList.map .lit))::xs) (.agg n::args.toList.map a.eval) T ⟨.w (.agg (bGu J)),p.vals⟩ d ?_;have e3:(Value.agg n::args.toList.map a.eval).toArray=#[.agg n]++args.map a.eval:=by apply Ha;simp
   rw[e3];simp[uu,ho,resolve,t,Deferred.ofValue,Yh]
  exact d.elim
 ·rename_i g first cap
  split at d;rename_i z i U T;have a1:=C.inv;generalize hq:a.eval f=q at a1;cases a1 with
  |@fn _ _ _ _ fs n r1 r2=>
   refine V g z _ (fs++args.toList.map a.eval++n) i (((oh.Dt r1 U).append p.vals).append (oh.Dt r2 T)) d ?_;have e3:(fs++args.toList.map a.eval++n).toArray=fs.toArray++args.map a.eval++n.toArray:=by apply Ha;simp
   rw[e3];simp[uu,ho,resolve,hq,Deferred.ofValue,Yh]
  exact d.elim
 exact d.elim
theorem aRd{t:bu}{k:M}(b:(aYt P t k).ok none s F):P.eqGuardType P.depth t=false/\k.ok none s F:=by unfold aYt at b;split at b;split at b;rename_i c;exact⟨c,b⟩;exact b.elim;exact b
theorem aAj{t e:bu}(f:P.underlying t=some (.slice e))(d:Nat)(b:Addr)(l c:Nat)(w:ae):(Op.equalIn (d+1) t (.slice (some b) l c) (.slice none 0 0)).run P w=.ok false w:=by simp[Op.equalIn,run_underlying f]
theorem aTp{t e:bu}(d:P.underlying t=some (.slice e))(b:Addr)(l c:Nat)(w:ae):(binOp .eql t (.slice (some b) l c) (.slice none 0 0)).run P w=.ok (.bool false) w:=by
 show (do pure (Value.bool (<-Op.equal t (.slice (some b) l c) (.slice none 0 0))):Sem ag).run P w=_;rw[Sem.run_bind,show Op.equal t (.slice (some b) l c) (.slice none 0 0)=Op.equalIn (9999+1) t (.slice (some b) l c) (.slice none 0 0) from rfl,aAj d];rfl
theorem aTn{t e:bu}(d:P.underlying t=some (.slice e))(b:Addr)(l c:Nat)(w:ae):(binOp .neq t (.slice (some b) l c) (.slice none 0 0)).run P w=.ok (.bool true) w:=by
 show (do pure (Value.bool (!(<-Op.equal t (.slice (some b) l c) (.slice none 0 0)))):Sem ag).run P w=_;rw[Sem.run_bind,show Op.equal t (.slice (some b) l c) (.slice none 0 0)=Op.equalIn (9999+1) t (.slice (some b) l c) (.slice none 0 0) from rfl,aAj d];rfl
theorem XJ(h:gu A s a w env){op:BinOp}{t ty:bu}{x y:nz}(Z:o.op=.binOp op t x y ty){p q:PV}(C:RV (aT A w env) p (a.eval x))(L:RV (aT A w env) q (a.eval y))(c:(XK P op t x y p q).ok none s F)(u:Fin A s a o K F):o.wp P a w K Q:=by
 have b:∀ v,(do eqGuard op t x y (a.eval x) (a.eval y);binOp op t (a.eval x) (a.eval y):Sem ag).run P w=.ok v w->(uu a.eval o).run P w=.ok (.value v) w:=fun v J=>by
  simp only[uu,Z,Sem.run_bind] at J ⊢;rw[J];simp
 unfold XK at c
 split at c
 rename_i va vb;have H:=C.eu;have z:=L.eu;rw[H,z] at b
 split at c
 split at c
 rename_i D;subst D;obtain⟨i,d⟩:=c;have g:¬_=(0:Int):=i;exact aX (b _ (by simp[eqGuard,binOp,Op.intDiv,g])) (u.same h d (.w (.one (.lit rfl))));exact c.elim
 split at c
 rename_i D;subst D;obtain⟨i,d⟩:=c;have g:¬_=(0:Int):=i;exact aX (b _ (by simp[eqGuard,binOp,Op.intDiv,g])) (u.same h d (.w (.one (.lit rfl))));exact c.elim;obtain⟨i,d⟩:=c;have g:¬_<(0:Int):=Int.not_lt.2 i;exact aX (b _ (by simp[eqGuard,binOp,Op.shift,g])) (u.same h d (.w (.one (.lit rfl))));obtain⟨i,d⟩:=c;have g:¬_<(0:Int):=Int.not_lt.2 i;exact aX (b _ (by simp[eqGuard,binOp,Op.shift,g])) (u.same h d (.w (.one (.lit rfl))));obtain⟨i,d⟩:=c;refine aX (b _ ?_) (u.same h d (.w (.one (.lit rfl))));rename_i m n
 have B:¬(((m.size+n.size:Nat):Int) > IntKind.i64.max):=by
  have:m.size+n.size<=9223372036854775807:=i
  have e:IntKind.i64.max=9223372036854775807:=by decide
  rw[e];omega
 simp only[eqGuard,binOp,Op.stringOp,Sem.run_bind];rw[if_neg B];rfl;obtain⟨r,B,E,d⟩:=aUb c;exact aX (b r (aBw B)) (u.same h d (.w (.one (.lit E))));rename_i l m
 have N:∀ r,ZG P 8 t l m=some r->iT P t=some true->∃ k j,a.eval x=.agg k/\a.eval y=.agg j/\(Op.equalIn 10000 t (.agg k) (.agg j)).run P w=.ok r w:=by
  intro r J U
  have H:BV P t l=some (.agg l):=by unfold BV;rw[U]
  have z:BV P t m=some (.agg m):=by unfold BV;rw[U]
  generalize a.eval x=W at C;generalize a.eval y=vy at L
  cases C with
  | w C=>cases C with
   | @agg _ k B=>cases L with
    |w L=>cases L with
     |@agg _ j E=>exact⟨k,j,rfl,rfl,MQ 8 J H z (.agg B) (.agg E) 9991 w⟩
 split at c
 rename_i r B S;obtain⟨E,c⟩:=aRd c;obtain⟨k,j,H,z,T⟩:=N r B S;rw[H,z] at b;refine aX (b (.bool r) ?_) (u.same h c (.w (.one (.lit rfl))));rw[Sem.run_bind,run_eqGuard_agg w _ t x y k j E,Result.andThen_ok,run_eql_struct w t k j,T,Result.andThen_ok];rename_i r B S;obtain⟨E,c⟩:=aRd c;obtain⟨k,j,H,z,T⟩:=N r B S;rw[H,z] at b;refine aX (b (.bool (!r)) ?_) (u.same h c (.w (.one (.lit rfl))));rw[Sem.run_bind,run_eqGuard_agg w _ t x y k j E,Result.andThen_ok,run_neq_struct w t k j,T,Result.andThen_ok];exact c.elim;rename_i n len f;have z:=L.eu;generalize Y:a.eval x=W at C b
 cases C.inv with
 |@sl _ _ _ _ _ vs J a1 a0=>
  obtain⟨_,A1,c1,rfl,_,_,V⟩:=J
  split at c
  rename_i e O;obtain⟨i,d⟩:=c;obtain⟨b',X,rfl,_⟩:=V i;refine aX (b (.bool false) ?_) (u.same h d (.w (.one (.lit rfl))));rw[z,Sem.run_bind,show (eqGuard .eql t x y (.slice (some _) _ _) (.slice none 0 0):Sem Unit).run P w=.ok () w from rfl,Result.andThen_ok,aTp O];rename_i e O;obtain⟨i,d⟩:=c;obtain⟨b',X,rfl,_⟩:=V i;refine aX (b (.bool true) ?_) (u.same h d (.w (.one (.lit rfl))));rw[z,Sem.run_bind,show (eqGuard .neq t x y (.slice (some _) _ _) (.slice none 0 0):Sem Unit).run P w=.ok () w from rfl,Result.andThen_ok,aTn O];exact c.elim
 exact c.elim
theorem aUy(h:gu A s a w env){x:nz}(i:o.op=.nilCheck x){v:PV}(c:RV (aT A w env) v (a.eval x))(g:bKp v=true)(k:F none v [])(j:Fin A s a o K F):o.wp P a w K Q:=by
 have e:∃ b o,a.eval x=.pointer (some ⟨b,o,none⟩):=by
  unfold bKp at g
  split at g<;>first|(cases g;done)|skip
  cases c.inv with|pt d _=>exact d
  cases c.inv with|pk d _=>exact d
  cases c.inv with|pe d _=>exact d
  generalize a.eval x=q at c;cases c.inv with|pf _ _ _ _=>exact⟨_,_,rfl⟩
  generalize a.eval x=q at c;cases c.inv with|pa _ _ _ _=>exact⟨_,_,rfl⟩
 obtain⟨b,f,e⟩:=e;rw[e] at c;exact aX (v:=.pointer (some ⟨b,f,none⟩)) (w':=w) (by simp[uu,i,e]) (j.same h k c)
theorem bEa(h:gu A s a w env){t:bu}{x:nz}(C:o.op=.sliceToArrayPointer t x){v:PV}(m:RV (aT A w env) v (a.eval x))(d:(aNq P t v).ok none s F)(D:Fin A s a o K F):o.wp P a w K Q:=by
 unfold aNq at d;split at d;rename_i n e k len f y;split at d;rename_i T E;obtain rfl:=iq E;obtain⟨⟨g,b⟩,H⟩:=d;generalize B:a.eval x=q at m;cases m.inv with
 |@sl _ _ _ _ _ S z l i=>obtain⟨N,U,r,rfl,L,J,p⟩:=z;obtain⟨O,u,rfl,j⟩:=p b;refine aX (v:=.pointer (some ⟨O,u,none⟩)) (w':=w) (by simp[uu,C,B,run_arrayAt w t e n _ len r y g]) (D.same h H (.w (.one (.pa (c:=r) ⟨N,_,_,rfl,L,J,p⟩ (l _ rfl b) i b))))
 exact d.elim;exact d.elim
theorem VT(h:gu A s a w env){args:Array nz}{c:Array bu}{x y:nz}(g:o.op=.call { callee:=.builtin .min,args:=args,argTypes:=c })(j:args=#[x,y]){p q:PV}(f:RV (aT A w env) p (a.eval x))(e:RV (aT A w env) q (a.eval y))(b:(VU p q).ok none s F)(i:Fin A s a o K F):o.wp P a w K Q:=by
 subst j;unfold VU at b;split at b
 ·split at b
  ·rename_i k m u n d;subst d;have t:=f.eu;have r:=e.eu;refine aX (v:=.int k (min m n)) (w':=w) ?_ (i.same h b (.w (.one (.lit rfl))))
   have l:(if n<m then n else m)=min m n:=by split<;>omega
   simp[uu,g,resolve,Yh,t,r,builtin,Builtin.min_,Builtin.min2,l]
  exact b.elim
 exact b.elim
theorem Ve(h:gu A s a w env){args:Array nz}{c:Array bu}{x y:nz}(g:o.op=.call { callee:=.builtin .max,args:=args,argTypes:=c })(j:args=#[x,y]){p q:PV}(f:RV (aT A w env) p (a.eval x))(e:RV (aT A w env) q (a.eval y))(b:(Vf p q).ok none s F)(i:Fin A s a o K F):o.wp P a w K Q:=by
 subst j;unfold Vf at b;split at b
 ·split at b
  ·rename_i k m u n d;subst d;have t:=f.eu;have r:=e.eu;refine aX (v:=.int k (max m n)) (w':=w) ?_ (i.same h b (.w (.one (.lit rfl))))
   have l:(if m<n then n else m)=max m n:=by split<;>omega
   simp[uu,g,resolve,Yh,t,r,builtin,Builtin.max_,Builtin.max2,l]
  exact b.elim
 exact b.elim
theorem bNy(T:aHs P I G)(hI:o5 P I A)(S:CE A Q)(h:gu A s a w env){N:Nat}(b:(body P G N o).ok none s F)(d:Fin A s a o K F):o.wp P a w K Q:=by
 obtain⟨V,Y,X,L,D,C⟩:=o;unfold body at b;dsimp only at b;split at b;exact bJb h (.inl rfl) b d;exact bJb h (.inr rfl) b d;exact Q3 h rfl b d;split at b;rename_i l q;exact Nw h rfl q b d;exact b.elim;obtain⟨pv,c,b⟩:=iG h b;split at b;split at b;cases c with|w c=>exact XH h rfl c b d
 exact b.elim;exact b.elim;obtain⟨pv,c,b⟩:=iG h b;exact Qi h rfl c b d;obtain⟨pv,c,b⟩:=iG h b;obtain⟨j,g,b⟩:=iG h b;exact GH h rfl c g b d;obtain⟨pv,c,b⟩:=iG h b;exact aRp h rfl c b d;obtain⟨pv,c,b⟩:=iG h b;obtain⟨j,g,b⟩:=iG h b;exact aQz h rfl c g b d;obtain⟨pv,c,b⟩:=iG h b;exact MH h rfl c b d;obtain⟨pv,c,b⟩:=iG h b;exact bDc h rfl c b d;obtain⟨J,c,b⟩:=aCi h b;split at b;rename_i l q;exact Nk h rfl c q b d;exact b.elim;obtain⟨J,c,b⟩:=aCi h b;exact aNn h rfl c b d;obtain⟨pv,c,b⟩:=iG h b;obtain⟨Z,u,b⟩:=aZd h b;obtain⟨hv,O,b⟩:=aZd h b;exact Gn h rfl c u O b d;obtain⟨pv,c,b⟩:=iG h b;obtain⟨j,g,b⟩:=iG h b;exact XJ h rfl c g b d;obtain⟨pv,c,b⟩:=iG h b;split at b;rename_i v u;exact Ot h rfl c u b d;exact b.elim;obtain⟨pv,c,b⟩:=iG h b;exact bDm h rfl c b d;obtain⟨pv,c,b⟩:=iG h b;obtain⟨j,g,b⟩:=iG h b;exact QY h rfl c g b d;rename_i args e;split at b;rename_i x y t E i k;split at b;rename_i p;obtain rfl:=iq p;obtain⟨pv,c,b⟩:=iG h b;obtain⟨j,g,b⟩:=iG h b;obtain rfl:args=#[x,y]:=by apply Ha;simpa using i
 obtain rfl:e=#[t,t]:=by apply Ha;simpa using k
 exact Rz h rfl c g b d;exact b.elim;exact b.elim;obtain⟨pv,c,b⟩:=iG h b;split at b;rename_i p;exact aUy h rfl c p b d;exact b.elim;obtain⟨pv,c,b⟩:=iG h b;exact bEa h rfl c b d;rename_i args e;split at b;rename_i x y i;obtain⟨pv,c,b⟩:=iG h b;obtain⟨j,g,b⟩:=iG h b;exact VT h rfl (by apply Ha;simpa using i) c g b d;exact b.elim;rename_i args e;split at b;rename_i x y i;obtain⟨pv,c,b⟩:=iG h b;obtain⟨j,g,b⟩:=iG h b;exact Ve h rfl (by apply Ha;simpa using i) c g b d;exact b.elim;obtain⟨fs,m,b⟩:=aDy h b;obtain⟨cs,n,b⟩:=aDy h b;split at b;rename_i fp cp H B;exact aVa h rfl m n H B b d;rename_i H B;split at b;rename_i l U;exact aQk h rfl m n U B b d;exact b.elim;exact b.elim;rename_i f args e;obtain⟨fv,z,b⟩:=iG h b;obtain⟨W,r,b⟩:=aDy h b;exact SE T hI S h rfl z r b d;rename_i args e;split at b;rename_i x t i k;obtain⟨pv,c,b⟩:=iG h b;obtain rfl:args=#[x]:=by apply Ha;simpa using i
 obtain rfl:e=#[t]:=by apply Ha;simpa using k
 exact Vq h rfl c b d;exact b.elim;rename_i args e;split at b;rename_i x y t E i k;split at b;rename_i p;obtain rfl:=iq p;obtain⟨pv,c,b⟩:=iG h b;obtain⟨j,g,b⟩:=iG h b;obtain rfl:args=#[x,y]:=by apply Ha;simpa using i
 obtain rfl:e=#[t,t]:=by apply Ha;simpa using k
 exact bOj h rfl c g b d;obtain⟨pv,c,b⟩:=iG h b;obtain⟨j,g,b⟩:=iG h b;obtain rfl:args=#[x,y]:=by apply Ha;simpa using i
 obtain rfl:e=#[t,E]:=by apply Ha;simpa using k
 exact bOk h rfl c g b d;exact b.elim;exact b.elim
theorem VD(hG:aHs P I G)(hI:o5 P I A)(hQ:CE A Q)(C:Nat)(ops:Array gz)(hd:∀ (i:Nat) (o:gz) d,ops[i]?=some o->o.dst=some d->d<A.nt):EY P ops Q (qh A) (Sr P G C ops.toList):=by
 intro i o s a w U W Z E hc K hK;have c:=M.zf _ none s U (fun g v wr=>∀ k f,qh A (appW o.dst g v wr s) k f->K k f) E hc (fun k f h=>hK k f ((aRh A) _ _ _ _ (fun _=>rfl) (fun _=>rfl) h));obtain⟨env,N⟩:=Z
 have r:∀ (F:Option Bool->PV->Wr->Prop),(∀ v wr,F none v wr->∀ k f,qh A (appW o.dst none v wr s) k f->K k f)->Fin A s a o K F:=by
  intro F hF v wr B f m z O h3;refine hF v wr z _ _ ⟨m,?_⟩;have:=O.put o.dst none v B (fun t V=>hd i o t W V) (fun _=>h3) (fun h=>by cases h)
  have e:appW o.dst none v wr s=Ik o.dst none v { s with o:=wr++s.o }:=by unfold appW app Ik;cases o.dst<;>rfl
  rw[e];exact this
 unfold wpOp;rw[W];dsimp only;unfold Sr at c;cases n:o.guard with
 |none=>
  rw[n] at c;have hw:Region.wanted o (Xx ops a.tmps)=true:=by simp[Region.wanted,n]
  rw[if_pos hw];exact .inl (bNy hG hI hQ N c (r _ fun v wr h=>h))
 | some jp=>
  obtain⟨j,x⟩:=jp;rw[n] at c;dsimp only at c;cases X:(ops.toList[j]?).bind (·.dst) with
  |none=>rw[X] at c;exact c.elim| some T=>
   rw[X] at c;obtain⟨g,v,J,c⟩:=c;have L:(ops[j]?).bind (·.dst)=some T:=by simpa using X
   have u:∀ S,Region.wanted o (Xx ops a.tmps)=S->(M.gate S (body P G (C*1000+i) o)).ok none s (fun g v wr=>∀ k f,qh A (appW o.dst g v wr s) k f->K k f) ->
     (if Region.wanted o (Xx ops a.tmps)=true then o.wp P a w K Q\/(o.asks P a w/\LetsOut Q) else K (a.put o.dst dC) w):=by
    intro S l c;obtain⟨_,c⟩:=c;cases S with
    |true=>rw[if_pos l];refine .inl (bNy hG hI hQ N (bKy _ s _ c) (r _ fun v wr h=>?_));intro k f H;exact h.2.2 k f (H.aCO h.2.1)|false=>
     rw[if_neg (by rw[l];exact Bool.false_ne_true)];obtain⟨v,wr,z,O⟩:=bCs _ s _ c;obtain⟨m,h3⟩:=gu.aJF wr s env N O;refine z _ _ ⟨m,?_⟩;have:=h3.put o.dst (some false) v dC (fun t V=>hd i o t W V) (fun Z=>absurd Z (by simp[gT])) (fun _=>rfl)
     have e:appW o.dst (some false) v wr s=Ik o.dst (some false) v { s with o:=wr++s.o }:=by unfold appW app Ik;cases o.dst<;>rfl
     rw[e];exact this
   have q:Region.wanted o (Xx ops a.tmps)=(Xx ops a.tmps j==some x):=by simp[Region.wanted,n]
   have p:∀ b,gT g->v=o9 (.bool b)->Region.wanted o (Xx ops a.tmps)=Iu x b:=by
    intro b Y hv;subst hv;obtain⟨B,z,O⟩:=N.tmps T g _ J Y;have D:=O.AP;subst D;have y:Xx ops a.tmps j=some b:=by unfold Xx;rw[L];simp[z]
    rw[q,y]
    cases x<;>cases b<;>rfl
   dsimp only at c;split at c;rename_i b;exact u _ (p b trivial rfl) c;rename_i b0 b;refine u _ ?_ c;cases b0 with
   |true=>rw[Bool.true_and];exact p b rfl rfl| false=>
    have z:=N.und T _ J;have y:Xx ops a.tmps j=none:=by unfold Xx;rw[L];simp[z,dC]
    rw[q,y,Bool.false_and];rfl
   exact c.elim
end
end Pv
namespace Pv
def lh(P:gp)(A:n_)(s:St)(c:Hm)(Q:Exit->Act->ae->Prop):Prop:=∀ a w,qh A s a w->CE A Q->c.wp P Q a w
def UN(A:n_)(s:St)(Q:Act->ae->Prop):Prop:=∀ a w,qh A s a w->Q a w
def Nxt(P:gp)(A:n_)(c:Hm)(Q:Exit->Act->ae->Prop):Act->ae->Prop:=fun a w=>CE A Q->c.wp P Q a w
structure jl(P:gp)(I:ae->Prop)(G:Specs):Prop where
 Zv:aHs P I G
 mixed:P.follows .mixedOrders=true
def XV(a:Nat)(l:List gz):Bool:=l.all fun o=>match o.dst with
 |some d=>Nat.blt d a|none=>true
def bLf(s:St)(x:Nat)(k:Nat->Option Out):Option Out:=match find s.o x with
 |some (_,vr,_)=>k (vr+1)|none=>k 0
theorem bLe(s:St)(x:Nat)(k:Nat->Option Out):bLf s x k=k (fresh s x):=by
 unfold bLf fresh;cases find s.o x with
 |none=>rfl|some p=>rfl
def M.exec:M->Option Bool->St->List Prop->List Nat->List Nat->Wr->Option Out
 |.ret v,h,_,c,rt,ro,wr=>some ⟨h,v,c,rt,ro,wr⟩|.fail,_,_,_,_,_,_=>none|.need p k,h,s,c,rt,ro,wr=>k.exec h s (c++[hP h p]) rt ro wr|.tmp t k,h,s,c,rt,ro,wr=>match find s.t t with
  |some (g,v)=>(k g v).exec h s c (rt++[t]) ro wr|none=>none
 |.obj x k,h,s,c,rt,ro,wr=>match find s.o x with
  |some (g,vr,ob)=>(k g vr ob).exec h s c rt (ro++[x]) wr|none=>none
 |.new x ob k,h,s,c,rt,ro,wr=>bLf s x fun v=>(k v).exec h s c rt (ro++[x]) (wr++[(x,h,v,ob)])|.upd x vr ob k,h,s,c,rt,ro,wr=>match h with
  |none=>k.exec none s c rt ro (wr++[(x,none,vr,ob)])|some _=>none
 |.gate b k,h,s,c,rt,ro,wr=>match h with
  |none=>k.exec (some b) s c rt ro wr|some _=>none
def U_(c:List Prop)(a b:List Nat)(wr:Wr)(o:Out):Out:=⟨o.g,o.val,c++o.conds,a++o.rt,b++o.ro,wr++o.wr⟩
theorem Rf:∀ (m:M) (h:Option Bool) (s:St) (c:List Prop) (d e:List Nat) (wr:Wr),m.exec h s c d e wr=(m.run h s).map (U_ c d e wr):=by
 intro m
 induction m with
 |ret v=>intro h s c d e wr;simp[M.exec,M.run,U_]|fail=>intro h s c d e wr;rfl|need p k a=>intro h s c d e wr;rw[M.exec,M.run,a];cases k.run h s<;>simp[U_]|tmp t k a=>
  intro h s c d e wr;rw[M.exec,M.run];cases find s.t t with
  |none=>rfl|some p=>obtain⟨g,v⟩:=p;dsimp only;rw[a];cases (k g v).run h s<;>simp[U_]
 |obj x k a=>
  intro h s c d e wr;rw[M.exec,M.run];cases find s.o x with
  |none=>rfl|some p=>obtain⟨g,i,f⟩:=p;dsimp only;rw[a];cases (k g i f).run h s<;>simp[U_]
 |new x f k a=>intro h s c d e wr;rw[M.exec,M.run,bLe,a];cases (k (fresh s x)).run h s<;>simp[U_]|upd x i f k a=>
  intro h s c d e wr;cases h with
  |some b=>rfl|none=>rw[M.exec,M.run,a];cases k.run none s<;>simp[U_]
 |gate b k a=>
  intro h s c d e wr;cases h with
  |some b=>rfl|none=>rw[M.exec,M.run,a]
theorem aBl(m:M)(h:Option Bool)(s:St):m.exec h s [] [] [] []=m.run h s:=by
 rw[Rf]
 cases m.run h s<;>simp[U_]
def EJ{a:Type}:Wr->Wr->(Wr->a)->a
 |[],o,k=>k o|p::l,o,k=>EJ l o fun r=>k (p::r)
theorem aXx{a:Type}:∀ (l o:Wr) (k:Wr->a),EJ l o k=k (l++o)
 |[],_,_=>rfl|p::l,o,k=>by rw[EJ,aXx l];rfl
def XP{a:Type}(d:Option Nat)(out:Out)(s:St)(k:St->a):a:=match out,s with
 |⟨g,v,_,_,_,wr⟩,⟨t,o⟩=>EJ wr o fun b=>match d with
  |some d=>k ⟨(d,g,v)::t,b⟩|none=>k ⟨t,b⟩
theorem SS{a:Type}(d:Option Nat)(out:Out)(s:St)(k:St->a):XP d out s k=k (app d out s):=by
 obtain⟨g,v,c,b,e,wr⟩:=out;obtain⟨t,o⟩:=s;unfold XP;dsimp only;rw[aXx]
 cases d<;>rfl
def rG(b:Nat->gz->M):Nat->List gz->St->Option (List (Option Nat×Out)×St)
 |_,[],s=>some ([],s)| i,o::l,s=>match (b i o).exec none s [] [] [] [] with
  |some out=>XP o.dst out s fun c=>(match rG b (i+1) l c with
   |some (a,s')=>some ((o.dst,out)::a,s')|none=>none)
  |none=>none
theorem aIv(a:Nat->gz->M):∀ (l:List gz) (i:Nat) (s:St),rG a i l s=rW a i l s
 |[],_,_=>rfl| o::l,i,s=>by
  rw[rG,rW,aBl];cases (a i o).run none s with
  |none=>rfl|some out=>dsimp only;rw[SS,aIv a l];rfl
def All:List Prop->Prop
 |[]=>True|p::l=>p/\All l
theorem All.mem:∀ {l:List Prop},All l->∀ p∈l,p
 |[],_,p,h=>by cases h|q::l,⟨h1,h2⟩,p,h=>by rcases List.mem_cons.1 h with rfl|h;exact h1;exact h2.mem p h
section
variable {P:gp} {I:ae->Prop} {G:Specs} {A:n_} {s s':St} {Q:Exit->Act->ae->Prop}
theorem bC(M:jl P I G)(hI:o5 P I A){k:Nat}(f:A.nt=k){c:Nat}{ops:Array gz}{b:Bool}{outs:List (Option Nat×Out)}(h:rG (Sr P G c ops.toList) 0 ops.toList s=some (outs,s'))(e:(nI b ops.toList outs&&XV k ops.toList)=true)(hc:All ((outs.map fun q=>q.2.conds).flatten))(x:UN A s' (Q .normal)):lh P A s (.region c ops b) Q:=by
 intro a w t j;subst f;rw[aIv] at h;rw[PP] at e;refine aOd (VD M.Zv hI j c ops (fun i o d l u=>?_)) (aRh A) (fun s a w h=>h.drew) M.mixed h (fun q n p r=>hc.mem p (List.mem_flatten.2 ⟨_,List.mem_map.2 ⟨q,n,rfl⟩,r⟩)) e.1 t (fun B m g=>x B m g);have:=List.all_eq_true.1 e.2 o (by rw[<-Array.getElem?_toList] at l;exact List.mem_of_getElem? l);rw[u] at this;have z:d+1<=A.nt:=by simpa[Nat.blt] using this
 exact z
theorem aG{x y:Hm}(h:lh P A s x (Exit.then (Nxt P A y Q) Q)):lh P A s (.seq x y) Q:=fun a w d b=>wp_seq (wp_mono (h a w d b) (fun e g f c=>by cases e<;>first|exact c|exact c b))
theorem aKy(M:jl P I G)(hI:o5 P I A){f:Nat}(d:A.nt=f){c:Nat}{ops:Array gz}{b:Bool}{outs:List (Option Nat×Out)}{y:Hm}(h:rG (Sr P G c ops.toList) 0 ops.toList s=some (outs,s'))(e:(nI b ops.toList outs&&XV f ops.toList)=true)(hc:All ((outs.map fun q=>q.2.conds).flatten))(i:lh P A s' y Q):lh P A s (.seq (.region c ops b) y) Q:=aG (bC M hI d h e hc (fun a w g=>i a w g))
def bNl(s:St)(c:nz):Option Bool:=match c with
 |.tmp t=>(match find s.t t with
  |some (none,.w (.one (.lit (.bool b))))=>some b|_=>none)
 |_=>none
theorem iV(h:UN A s (Q .normal)):lh P A s .skip Q:=fun a w b _=>wp_skip (h a w b)
theorem eP{b:Nat}(h:UN A s (Q (.exit b))):lh P A s (.exit b) Q:=fun a w c _=>wp_exit (h a w c)
theorem cZ(h:UN A s (Q .ret)):lh P A s .ret Q:=fun a w b _=>wp_ret (h a w b)
theorem aQ{d:Nat}{c:Hm}(h:lh P A s c (Exit.inBlock d Q)):lh P A s (.block d c) Q:=fun a w e b=>wp_block (h a w e b)
theorem G9{c:nz}{x y:Hm}{b:Bool}(hc:bNl s c=some b)(h1:b=true->lh P A s x Q)(h2:b=false->lh P A s y Q):lh P A s (.cond c x y) Q:=fun a w h d=>by
 obtain⟨e,f⟩:=h
 have g:a.eval c=.bool b:=by
  cases c with
  |tmp t=>unfold bNl at hc;dsimp only at hc;split at hc;rename_i l i;cases hc;obtain⟨v,k,j⟩:=f.tmps t none _ i trivial;have:=j.AP;subst this;simp only[Act.eval];rw[Array.getD_eq_getD_getElem?,k];rfl;cases hc
  |_=>cases hc
 refine wp_cond g ?_;cases b with
 |true=>exact h1 rfl a w ⟨e,f⟩ d|false=>exact h2 rfl a w ⟨e,f⟩ d
theorem bY{c:Hm}(h:∀ a w,qh A s a w->qh A s' a w)(e:lh P A s' c Q):lh P A s c Q:=fun a w d b=>e a w (h a w d) b
theorem fF{c:Hm}(n:Nat)(J:Nat->St->Prop)(d:Nat)(h0:J d s)(l:d<=n)
  (round:∀ k s,J k s->k<=n->lh P A s c (Exit.then (fun a w=>∃ b s',k<b/\b<=n/\J b s'/\qh A s' a w) Q)):lh P A s (.loop c) Q:=fun a w g h=>by
 refine wp_loop_ghost (fun m a w=>∃ k s,m=n-k/\k<=n/\J k s/\qh A s a w) (n-d) ⟨d,s,rfl,l,h0,g⟩ (fun m a w j=>?_);obtain⟨k,s,rfl,f,o,g⟩:=j;refine wp_mono (round k s o f a w g h) (fun e x t i=>?_)
 cases e<;>first|exact i|skip
 obtain⟨b,s',u,r,q,p⟩:=i;exact⟨n-b,by omega,b,s',rfl,r,q,p⟩
def Ec(a:Array ag)(r:ResultVar):Sem ag:=match r with
 |.tmp t=>pure (a.getD t dC)
 |.cell b t=>do loadVar t (<-asAddr (a.getD b dC))
theorem bBb(fn:Func)(a:Array ag):results fn a=(do let b <-fn.results.mapM (Ec a);pure (if h:b.size=1 then b[0] else .tuple b)):=by
 unfold results;congr 1
theorem aUc{a:Act}{w:ae}{env:Env}(h:gu A s a w env){F:Option Bool->PV->Wr->Prop}:∀ {n:List ResultVar} {k:List PW->M},(PS P n k).ok none s F ->
  ∃ e f,(n.mapM (Ec a.tmps)).run P w=.ok f w/\e.length=f.length/\(∀ (i:Nat) (x:PW),e[i]?=some x->∃ v:ag,f[i]?=some v/\RW (aT A w env) x v)/\(k e).ok none s F
 |[],k,c=>⟨[],[],by simp,rfl,fun i x E=>by simp at E,c⟩| .tmp t::n,k,c=>by
  obtain⟨pv,m,c⟩:=iG h c;split at c;rename_i x;obtain⟨e,f,z,u,r,q⟩:=aUc h c;refine⟨x::e,a.tmps.getD t dC::f,?_,by simp[u],fun i y j=>?_,q⟩;rw[List.mapM_cons,show Ec a.tmps (.tmp t)=pure (a.tmps.getD t dC) from rfl];simp only[Sem.run_bind,Sem.run_pure,Result.andThen_ok,z];cases i with
  |zero=>
   obtain rfl:x=y:=by simpa using j
   cases m with|w m=>exact⟨_,rfl,m⟩
  |succ i=>exact r i y (by simpa using j)
  exact c.elim
 | .cell b t::n,k,c=>by
  obtain⟨pv,m,c⟩:=iG h c;obtain⟨D,B,x,g,C,d,l,c⟩:=aYi h m c;obtain⟨e,f,z,u,r,q⟩:=aUc h c;have o:a.tmps.getD b dC=.pointer (some ⟨D,B,none⟩):=C;have p:(loadVar t ⟨D,B,none⟩).run P w=.ok g w:=by rw[C] at d;simpa[Instr.loadAt,Instr.sureAddr] using d
  have H:(Ec a.tmps (.cell b t)).run P w=.ok g w:=by unfold Ec;simp only[o,asAddr,Sem.run_bind,Sem.run_pure,Result.andThen_ok,p]
  refine⟨x::e,g::f,?_,by simp[u],fun i y j=>?_,q⟩;rw[List.mapM_cons];simp only[Sem.run_bind,Sem.run_pure,Result.andThen_ok,H,z];cases i with
  |zero=>
   obtain rfl:x=y:=by simpa using j
   exact⟨_,rfl,l⟩
  |succ i=>exact r i y (by simpa using j)
theorem wB{a:Act}{w:ae}{env:Env}(h:gu A s a w env){F:Option Bool->PV->Wr->Prop}{fn:Func}(d:(AA P fn.results).ok none s F):∃ v f,(results fn a.tmps).run P w=.ok f w/\RV (aT A w env) v f/\F none v []:=by
 unfold AA at d;obtain⟨m,k,p,c,j,d⟩:=aUc h d;have o:(fn.results.mapM (Ec a.tmps)).run P w=.ok k.toArray w:=by rw[Array.mapM_eq_mapM_toList,Sem.run_map,p];rfl
 rw[bBb];simp only[Sem.run_bind,o,Result.andThen_ok,Sem.run_pure];split at d;rename_i x
 match k,c,j with
 |[v],_,j=>obtain⟨q,e,l⟩:=j 0 x rfl;cases e;exact⟨_,_,rfl,.w l,d⟩
 rename_i b
 have g:¬k.toArray.size=1:=by
  intro e
  match m,c,b with
  |[x],_,b=>exact b x rfl|[],c,_=>simp at e c;omega|_::_::_,c,_=>simp at e c;omega
 rw[dif_neg g]
 exact⟨_,_,rfl,.lu (by simpa using c) (fun i x n=>by
  obtain⟨v,e,l⟩:=j i x n
  exact⟨v,by simpa using e,l⟩),d⟩
def slots:Nat->List PV->List (Nat×Option Bool×PV)
 |_,[]=>[]|i,v::vs=>(i,none,v)::slots (i+1) vs
theorem xN{i:Nat}:∀ {a:List PV} {t:Nat} {g:Option Bool} {pv:PV},find (slots i a) t=some (g,pv)->∃ k,t=i+k/\a[k]?=some pv
 |[],t,g,pv,h=>by cases h|v::a,t,g,pv,h=>by by_cases b:i=t;subst b;rw[slots,aK] at h;cases h;exact⟨0,rfl,rfl⟩;rw[slots,aN _ _ b] at h;obtain⟨k,d,c⟩:=xN (i:=i+1) h;exact⟨k+1,by omega,by simpa using c⟩
theorem uP{i:Nat}:∀ {a:List PV} {t:Nat} {g:Option Bool} {pv:PV},find (slots i a) t=some (g,pv)->∃ k:Nat,t=i+k/\g=none
 |[],t,g,pv,h=>by cases h|v::a,t,g,pv,h=>by by_cases b:i=t;subst b;rw[slots,aK] at h;cases h;exact⟨0,rfl,rfl⟩;rw[slots,aN _ _ b] at h;obtain⟨k,d,c⟩:=uP (i:=i+1) h;exact⟨k+1,by omega,c⟩
theorem oh.at{C:Ctx}:∀ {a:List PV} {l:List ag} {k:Nat} {pv:PV},oh C a l->a[k]?=some pv->∃ v,l[k]?=some v/\RV C pv v
 |[],[],_,_,_,h=>by simp at h|[],_::_,_,_,h,_=>h.elim|_::_,[],_,_,h,_=>h.elim| v::a,x::l,k,pv,⟨h1,h2⟩,h=>by
  cases k with
  |zero=>
   obtain rfl:v=pv:=by simpa using h
   exact⟨x,rfl,h1⟩
  |succ k=>obtain⟨b,d,c⟩:=oh.at h2 (by simpa using h:a[k]?=some pv);exact⟨b,by simpa using d,c⟩
theorem oh.length{C:Ctx}:∀ {a:List PV} {l:List ag},oh C a l->a.length=l.length
 |[],[],_=>rfl|[],_::_,h=>h.elim|_::_,[],h=>h.elim|_::_,_::_,⟨_,h⟩=>by rw[Lt,Lt,h.length]
def fP(P:gp)(I:ae->Prop)(f:Nat)(new:Bool)(args:List PV)(d:PV):Prop:=
 ∀ (w:ae) (c:Nat->Prop) (h:List ag),I w->oh { w,ok:=c,env:=fun _=>none } args h ->
  Calls P f h.toArray w fun e g=>∃ a,e=.returned a/\Ext w g/\RV { w:=g,ok:=fun b=>(new=false/\c b)\/w.heap.size<=b,env:=fun _=>none } d a
def dJ(new:Bool):PC->Bool
 |.lit _=>true|.bs _ _=>true|.sl _ _ _=>!new|_=>false
theorem aHh{C:Ctx}{c:PC}{xs:List ag}(h:R C c xs)(hc:dJ false c=true):R C.cold c xs:=by
 cases h<;>first|(cases hc;done)|skip
 exact .lit ou;exact .bs ou;exact .sl ou ou ou
theorem jY{C:Ctx}:∀ {l:List PC} {a:List ag},RL C l a->l.all (dJ false)=true->RL C.cold l a
 |[],_,h,_=>by cases h;exact .nil|c::l,_,h,hc=>by
  rw[aBc,PP] at hc;cases h with
  |cons d b=>exact .cons (aHh d hc.1) (jY b hc.2)
def Row1(s:St)(new:Bool)(l l':List PC):Prop:=∃ x b n a len c e g f d,l=[.ow x b n a len]/\l'=[.sl n len d]/\find s.o x=some (g,b,.arr e n c f)/\gT g/\a+len<=c/\∀ i,i<len->f (a+i)=d i/\(d i).all (dJ new)=true
inductive FO(s:St)(new:Bool):PC->PC->Prop where
 |rows {x jm n off len tot e:Nat} {g:Option Bool} {f f':Nat->List PC} (hf:find s.o x=some (g,jm,.arr e n tot f)) (hg:gT g) (hl:off+len<=tot) (he:∀ i,i<len->(f (off+i)=f' i/\(f' i).all (dJ new)=true)\/Row1 s new (f (off+i)) (f' i)):FO s new (.ow x jm n off len) (.sl n len f')
 |cold {c:PC} (h:dJ new c=true):FO s new c c
 |row {x jm n off len tot e:Nat} {g:Option Bool} {f f':Nat->List PC} (hf:find s.o x=some (g,jm,.arr e n tot f)) (hg:gT g) (hl:off+len<=tot) (he:∀ i,i<len->f (off+i)=f' i) (hc:∀ i,i<len->(f' i).all (dJ new)=true):FO s new (.ow x jm n off len) (.sl n len f')
 |nil {n:Nat} {f:Nat->List PC}:FO s new (.lit (.slice none 0 0)) (.sl n 0 f)
inductive OD(s:St)(new:Bool):List PC->List PC->Prop where
 |nil:OD s new [] []
 |cons {c c':PC} {l l':List PC} (h:FO s new c c') (hl:OD s new l l'):OD s new (c::l) (c'::l')
inductive Xn(s:St)(new:Bool):PW->PW->Prop where
 |one {c c':PC} (h:FO s new c c'):Xn s new (.one c) (.one c')
 |agg {l l':List PC} (h:OD s new l l'):Xn s new (.agg l) (.agg l')
inductive Oc(s:St)(new:Bool):List PW->List PW->Prop where
 |nil:Oc s new [] []
 |cons {c c':PW} {l l':List PW} (h:Xn s new c c') (hl:Oc s new l l'):Oc s new (c::l) (c'::l')
inductive Xo(s:St)(new:Bool):PV->PV->Prop where
 |w {x x':PW} (h:Xn s new x x'):Xo s new (.w x) (.w x')
 |lu {l l':List PW} (h:Oc s new l l'):Xo s new (.lu l) (.lu l')
def CG(A:n_)(s:St)(env:Env):Prop:=∀ x g a e n len f c b,find s.o x=some (g,a,.arr e n len f)->env x=some (a,c)->hblk c=some b->A.S b->False
theorem CG.VK{A:n_}{s:St}{env:Env}(h:A.S=Non):CG A s env:=fun _ _ _ _ _ _ _ _ _ _ _ _ a=>by rw[h] at a;exact a
def qC(w0:ae)(ok0:Nat->Prop)(new:Bool):Nat->Prop:=fun b=>(new=false/\ok0 b)\/w0.heap.size<=b
theorem MN{a:Act}{w:ae}{env:Env}(h:gu A s a w env)(hS:CG A s env){new:Bool}{c c':PC}{xs:List ag}(hx:FO s new c c')(hr:R (aT A w env) c xs):R { w,ok:=qC A.w0 A.ok0 new,env:=fun _=>none } c' xs:=by
 have d:∀ {l:List PC} {xs:List ag},RL (aT A w env) l xs->l.all (dJ new)=true->RL { w,ok:=qC A.w0 A.ok0 new,env:=fun _=>none } l xs:=by
  intro l xs F J;cases new with
  |false=>exact (jY F J).le ⟨dE _,fun b _ t=>⟨t.1.elim (fun h=>.inl ⟨rfl,h⟩) .inr,rfl⟩,fun _ _ _ h=>by cases h⟩| true=>
   have T:∀ {l:List PC} {xs:List ag},RL (aT A w env) l xs->l.all (dJ true)=true->RL { w,ok:=qC A.w0 A.ok0 true,env:=fun _=>none } l xs:=by
    intro l
    induction l with
    |nil=>intro xs h _;cases h;exact .nil| cons c l ih=>
     intro xs h E;rw[aBc,PP] at E;cases h with
     |cons h3 S=>
      refine .cons ?_ (ih S E.2);have Z:=E.1
      cases h3<;>first|exact .lit ou|exact .bs ou|(cases Z;done)
   exact T F J
 have q:∀ {x j n m len p e:Nat} {g:Option Bool} {f U:Nat->List PC} {xs:List ag},find s.o x=some (g,j,.arr e n p f)->gT g->m+len<=p->R (aT A w env) (.ow x j n m len) xs ->
   (∀ i,i<len->∀ u,RL (aT A w env) (f (m+i)) u->RL { w,ok:=qC A.w0 A.ok0 new,env:=fun _=>none } (U i) u)->R { w,ok:=qC A.w0 A.ok0 new,env:=fun _=>none } (.sl n len U) xs:=by
  intro x j n m len p e g f U xs H B O hr D;obtain⟨hd,C,V⟩:=kL h H B;cases hr with
  | ow F a0=>
   obtain⟨A0,n0,c0,rfl,a1,rfl⟩:=a0.now C;obtain⟨vs,N,X⟩:=V;have L:=Reads.yh N;have W:n0=p:=by obtain⟨_,A1,c1,e1,_⟩:=L;cases e1;rfl
   subst W;refine .sl (vs:=(vs.drop (m*n)).take (len*n)) (nT O L) (fun b t a2=>?_) (fun i r=>?_);cases A0 with
   |none=>simp[Xr] at t|some ad=>simp only[Option.map_some,Xr,Option.some.injEq,qW] at t;have:=h.live x j _ b C (by simp[hblk,t]);refine⟨.inr (this.2.resolve_right (fun S=>hS x g j e n n0 f _ b H C (by simp[hblk,t]) S.1)),this.1⟩
   rw[kG vs r];exact (D i r _ (X _ a_)).le ⟨dE _,fun b _ t=>⟨t,rfl⟩,fun _ _ _ h=>by cases h⟩
 cases hx with
 |cold E=>have:=(d (RL.cons hr RL.nil) (by simp[E])).single;simpa using this|nil=>cases hr;exact .sl (Reads.nil w _) (fun g B=>by simp[Xr] at B) (fun i r=>by omega)|@row x j n m len p e g f U H B O Y E=>refine q H B O hr (fun i r u z=>?_);rw[Y i r] at z;exact d z (E i r)|@rows x j n m len p e g f U H B O Y=>refine q H B O hr (fun i r u z=>?_);rcases Y i r with⟨F,J⟩|⟨x1,v1,n1,o1,l1,t1,e1,g1,f1,a3,F,J,h3,S,h5,h6⟩;rw[F] at z;exact d z J;rw[F] at z;rw[J];have hz:u=u++[]:=(List.append_nil u).symm;rw[hz];refine .cons (q h3 S h5 z.single (fun k hk zs K=>?_)) .nil;rw[(h6 k hk).1] at K;exact d K (h6 k hk).2
theorem aRr{a:Act}{w:ae}{env:Env}(h:gu A s a w env)(hS:CG A s env){new:Bool}:∀ {l f:List PC} {e:List ag},OD s new l f->RL (aT A w env) l e->RL { w,ok:=qC A.w0 A.ok0 new,env:=fun _=>none } f e
 |[],_,_,b,d=>by cases b;cases d;exact .nil| c::l,_,_,b,d=>by
  cases b with
  |cons k j=>cases d with
   |cons i g=>exact .cons (MN h hS k i) (aRr h hS j g)
theorem MK{a:Act}{w:ae}{env:Env}(h:gu A s a w env)(hS:CG A s env){new:Bool}{x d:PW}{v:ag}(e:Xn s new x d)(hr:RW (aT A w env) x v):RW { w,ok:=qC A.w0 A.ok0 new,env:=fun _=>none } d v:=by
 cases e with
 |one c=>cases hr with|one b=>exact .one (MN h hS c b)
 |agg c=>cases hr with|agg b=>exact .agg (aRr h hS c b)
theorem Oc.at{s:St}{new:Bool}:∀ {l b:List PW} {i:Nat} {a:PW},Oc s new l b->b[i]?=some a->∃ x,l[i]?=some x/\Xn s new x a
 |[],_,i,a,h,c=>by cases h;simp at c| y::l,_,i,a,h,c=>by
  cases h with
  | @cons _ d _ b j g=>
   cases i with
   |zero=>
    obtain rfl:d=a:=by simpa using c
    exact⟨y,rfl,j⟩
   |succ i=>obtain⟨x,f,e⟩:=Oc.at g (by simpa using c:b[i]?=some a);exact⟨x,by simpa using f,e⟩
theorem Oc.length{s:St}{new:Bool}:∀ {l a:List PW},Oc s new l a->l.length=a.length
 |[],_,h=>by cases h;rfl|_::_,_,h=>by cases h with|cons _ b=>rw[Lt,Lt,b.length]
theorem aRq{a:Act}{w:ae}{env:Env}(h:gu A s a w env)(hS:CG A s env){new:Bool}{x c:PV}{v:ag}(e:Xo s new x c)(hr:RV (aT A w env) x v):RV { w,ok:=qC A.w0 A.ok0 new,env:=fun _=>none } c v:=by
 cases e with
 |w b=>cases hr with|w d=>exact .w (MK h hS b d)
 | lu b=>
  cases hr with
  |lu f d=>refine .lu (by rw[<-b.length];exact f) (fun i c g=>?_);obtain⟨x,m,l⟩:=b.at g;obtain⟨v,k,j⟩:=d i x m;exact⟨v,k,MK h hS l j⟩
def Sl(P:gp)(fn:Func)(new:Bool)(a:PV)(s:St):Prop:=∃ v,(AA P fn.results).ok none s (fun _ b wr=>b=v/\wr=[])/\Xo s new v a
theorem aXq{fn:Func}{new:Bool}{a:PV}{out:Out}(h:(AA P fn.results).run none s=some out)(hc:All out.conds)(c:out.wr=[])(b:Xo s new out.val a):Sl P fn new a s:=⟨out.val,M.zf _ none s out _ h (fun p d=>hc.mem p d) ⟨rfl,c⟩,b⟩
def EI(p:PC->Bool):PW->Bool
 |.one c=>p c|.agg l=>l.all p
def ZO(p:PC->Bool):PV->Bool
 |.w x=>EI p x|.lu l=>l.all (EI p)|.none=>false
theorem eQ{s:St}{new:Bool}:∀ {l:List PC},l.all (dJ new)=true->OD s new l l
 |[],_=>.nil|c::l,h=>by rw[aBc,PP] at h;exact .cons (.cold h.1) (eQ h.2)
theorem aZb{s:St}{new:Bool}{x:PW}(h:EI (dJ new) x=true):Xn s new x x:=by
 cases x with
 |one c=>exact .one (.cold h)|agg l=>exact .agg (eQ h)
theorem aZc{s:St}{new:Bool}:∀ {l:List PW},l.all (EI (dJ new))=true->Oc s new l l
 |[],_=>.nil|c::l,h=>by rw[aBc,PP] at h;exact .cons (aZb h.1) (aZc h.2)
theorem ML{s:St}{new:Bool}{v:PV}(h:ZO (dJ new) v=true):Xo s new v v:=by
 cases v with
 |w x=>exact .w (aZb h)|lu l=>exact .lu (aZc h)|none=>cases h
theorem aY{fn:Func}{new:Bool}{a:PV}{out:Out}(h:(AA P fn.results).exec none s [] [] [] []=some out)(hc:All out.conds)(c:out.wr=[])(b:ZO (dJ new) out.val=true)(d:out.val=a):Sl P fn new a s:=by rw[aBl] at h;subst d;exact aXq h hc c (ML b)
theorem oG{fn:Func}{new:Bool}{a:PV}{out:Out}(h:(AA P fn.results).exec none s [] [] [] []=some out)(hc:All out.conds)(c:out.wr=[])(b:Xo s new out.val a):Sl P fn new a s:=by rw[aBl] at h;exact aXq h hc c b
def RQ(P:gp)(A:n_)(fn:Func)(new:Bool)(b:PV):Exit->Act->ae->Prop
 |.panic chain,a,w=>a.defers=A.ds/\DT A chain w|e,a,w=>(e=.normal\/e=.ret)/\∃ s,Sl P fn new b s/\qh A s a w
theorem Q4(P:gp)(A:n_)(fn:Func)(new:Bool)(a:PV):CE A (RQ P A fn new a):=fun _ _ _ b h=>⟨b,h⟩
theorem pq.non(P:gp){dw:List Acc->Prop}:pq P Dv.non dw:=⟨fun _ _ _ h=>h.elim,fun _ _ _ _ _ h=>h.elim⟩
theorem o5.plain{P:gp}{I:ae->Prop}{w:ae}{ok0:Nat->Prop}{b:Nat}(h:∀ a,Ext w a->I a):o5 P I (n_.plain w ok0 b):=⟨h,fun _ h=>h,fun _ h=>h.elim,pq.non P,fun _ _ _ h=>h.elim,fun _ _ _ _ _ _ h=>h.elim⟩
theorem aGt{fn:Func}{args:List PV}{vs:List ag}{w:ae}{ok0:Nat->Prop}(d:YZ args.length fn.ntmps=true)(f:oh { w:=w,ok:=ok0,env:=fun _=>none } args vs):qh (n_.plain w ok0 fn.ntmps) ⟨slots 0 args,[]⟩ { tmps:=vs.toArray++Array.replicate (fn.ntmps-vs.toArray.size) dC,defers:=[] } w:=by have i:=f.length;have B:=Yz d;refine⟨fun _=>none,{ gy:=dm.refl _ _,size:=?_,dom:=fun x _=>rfl,l9:=fun x g a o h=>(by cases h),live:=fun x a p b h=>(by cases h),inj:=fun x y z e u c b h=>(by cases h),tmps:=fun t g pv h n=>?_,defers:=rfl,und:=fun t pv h=>(by obtain⟨k,_,c⟩:=uP h;cases c),oq:=fun x p h=>(by cases h),dev:=fun g a O dw l h=>(by cases h) }⟩;simp[n_.plain];omega;obtain⟨k,e,c⟩:=xN h;obtain⟨v,j,r⟩:=f.at c;rw[Nat.zero_add] at e;subst e;have m:t<vs.length:=(List.getElem?_eq_some_iff.1 j).1;refine⟨v,?_,?_⟩;rw[Array.getElem?_append_left (by simpa using m)];simpa using j;refine r.le ⟨dE _,fun b _ q=>⟨⟨.inl q,fun _ _ _ h=>by cases h⟩,rfl⟩,fun _ _ _ h=>by cases h⟩
theorem bH{f:Nat}{fn:Func}{c:Hm}{new:Bool}{args:List PV}{g:PV}(u:P.funcs[f]?=some fn)(hb:fn.body=some c)(j:YZ args.length fn.ntmps=true)(hI:∀ w d,Ext w d->I w->I d)
  (z:∀ A:n_,A.S=Non->A.nt=fn.ntmps->o5 P I A->lh P A ⟨slots 0 args,[]⟩ c (RQ P A fn new g)):fP P I f new args g:=by
 intro w h L n p;have q:=p.length;have O:=Yz j;refine calls_of_wp u hb (wp_mono (z (n_.plain w h fn.ntmps) rfl rfl (o5.plain fun d x=>hI w d x n) _ w (aGt j p) (Q4 _ _ _ _ _)) (fun e o d r=>?_))
 have m:(e=.normal\/e=.ret)/\∃ s,Sl P fn new g s/\qh (n_.plain w h fn.ntmps) s o d:=by
  cases e with
  |panic chain=>obtain⟨_,l,t,_⟩:=r;exact t.elim
  |_=>exact r
 obtain⟨J,s,⟨v,H,F⟩,E⟩:=m;obtain⟨K,k⟩:=E;obtain⟨N,a,D,C,B,_⟩:=wB k H;subst B;have i:=aRq k (.VK rfl) F C;have:o.defers=[]/\∃ v,(results fn o.tmps).run P d=.ok v d/\∃ a,Ending.returned v=.returned a/\Ext w d/\RV { w:=d,ok:=fun b=>(new=false/\h b)\/w.heap.size<=b,env:=fun _=>none } g a:=⟨k.defers,a,D,a,rfl,k.gy,i⟩
 rcases J with rfl|rfl<;>exact this
end
section
variable {P:gp} {I:ae->Prop} {G:Specs} {A:n_} {s s':St} {Q Q':Exit->Act->ae->Prop} {y:Hm}
theorem aB{e b:Nat}{ops:Array gz}{a:Bool}{outs:List (Option Nat×Out)}(f:lh P A s' y Q)(M:jl P I G:=by assumption)(hI:o5 P I A:=by assumption)(c:A.nt=e:=by assumption)(h:rG (Sr P G b ops.toList) 0 ops.toList s=some (outs,s'):=by rfl)(d:(nI a ops.toList outs&&XV e ops.toList)=true:=by kernel_rfl)(hc:All ((outs.map fun q=>q.2.conds).flatten):=by simp):lh P A s (.seq (.region b ops a) y) Q:=aKy M hI c h d hc f
theorem aF{e b:Nat}{ops:Array gz}{a:Bool}{outs:List (Option Nat×Out)}(hc:All ((outs.map fun q=>q.2.conds).flatten))(f:lh P A s' y Q)(M:jl P I G:=by assumption)(hI:o5 P I A:=by assumption)(c:A.nt=e:=by assumption)(h:rG (Sr P G b ops.toList) 0 ops.toList s=some (outs,s'):=by rfl)(d:(nI a ops.toList outs&&XV e ops.toList)=true:=by kernel_rfl):lh P A s (.seq (.region b ops a) y) Q:=aKy M hI c h d hc f
theorem lU{f c:Nat}{ops:Array gz}{b:Bool}{outs:List (Option Nat×Out)}(i:lh P A s' y Q')(M:jl P I G:=by assumption)(hI:o5 P I A:=by assumption)(d:A.nt=f:=by assumption)(h:rG (Sr P G c ops.toList) 0 ops.toList s=some (outs,s'):=by rfl)(e:(nI b ops.toList outs&&XV f ops.toList)=true:=by kernel_rfl)(hc:All ((outs.map fun q=>q.2.conds).flatten):=by simp)(j:Q .normal=Nxt P A y Q':=by rfl):lh P A s (.region c ops b) Q:=bC M hI d h e hc (fun a w g=>by rw[j];exact i a w g)
theorem gI{e b:Nat}{ops:Array gz}{a:Bool}{outs:List (Option Nat×Out)}(f:UN A s' (Q .normal))(M:jl P I G:=by assumption)(hI:o5 P I A:=by assumption)(c:A.nt=e:=by assumption)(h:rG (Sr P G b ops.toList) 0 ops.toList s=some (outs,s'):=by rfl)(d:(nI a ops.toList outs&&XV e ops.toList)=true:=by kernel_rfl)(hc:All ((outs.map fun q=>q.2.conds).flatten):=by simp):lh P A s (.region b ops a) Q:=bC M hI c h d hc f
theorem aI{c:nz}{x y:Hm}{b:Bool}(h1:b=true->lh P A s x Q)(h2:b=false->lh P A s y Q)(hc:bNl s c=some b:=by rfl):lh P A s (.cond c x y) Q:=G9 hc h1 h2
theorem aJ(c:lh P A s y Q')(d:Q .normal=Nxt P A y Q':=by rfl):lh P A s .skip Q:=iV (fun a w b=>by rw[d];exact c a w b)
theorem bU{fn:Func}{new:Bool}{b:PV}{out:Out}(f:out.val=b)(g:Q .ret=RQ P A fn new b .ret:=by rfl)(h:(AA P fn.results).exec none s [] [] [] []=some out:=by rfl)(hc:All out.conds:=by simp)(d:out.wr=[]:=by rfl)(c:ZO (dJ new) out.val=true:=by rfl):lh P A s .ret Q:=cZ (fun a w e=>by rw[g];exact⟨.inr rfl,_,aY h hc d c f,e⟩)
theorem jC{fn:Func}{new:Bool}{a:PV}{out:Out}(e:Q .ret=RQ P A fn new a .ret:=by rfl)(h:(AA P fn.results).exec none s [] [] [] []=some out:=by rfl)(hc:All out.conds:=by simp)(c:out.wr=[]:=by rfl)(b:ZO (dJ new) out.val=true:=by rfl)(d:out.val=a:=by rfl):lh P A s .ret Q:=bU d e h hc c b
end
end Pv
namespace Pv
def xX(kO:List Nat)(s:St)(x jm:Nat):Bool:=match kO.any (bz x),find s.o x with
 |true,some (_,vr,_)=>bz jm vr|_,_=>false
def EQ(kF:List Nat)(s:St)(x jm n:Nat):Option (Nat->List PC):=match kF.any (bz x),find s.o x with
 |true,some (none,vr,.arr _ m _ f)=>(match bz jm vr,bz n m with
  |true,true=>some f|_,_=>none)
 |_,_=>none
mutual
def rv(kF kO:List Nat)(s:St):PC->Option PC
 |.lit v=>some (.lit v)|.bs n l=>some (.bs n l)|.sl n len f=>some (.sl n len f)|.ow x c n d len=>match xX kO s x c with|true=>some (.ow x 0 n d len)|false=>(match EQ kF s x c n with|some f=>some (.sl n len (fun i=>f (d+i)))|none=>none)
 |.ob x c d len=>match xX kO s x c with|true=>some (.ob x 0 d len)|false=>none
 |.pt x c d=>match xX kO s x c with|true=>some (.pt x 0 d)|false=>none
 |.pk x c d k=>match xX kO s x c with|true=>some (.pk x 0 d k)|false=>none
 |.pe x c n i j=>match xX kO s x c with|true=>some (.pe x 0 n i j)|false=>none
 |.pf n len f i j=>some (.pf n len f i j)|.fn f first cap=>match EH kF kO s first,EH kF kO s cap with
  |some a,some b=>some (.fn f a b)|_,_=>none
 |.dv=>match xX kO s dx 0 with|true=>some .dv|false=>none
 |.any=>some .any|.pa len f=>some (.pa len f)
def EH(kF kO:List Nat)(s:St):List PC->Option (List PC)
 |[]=>some []|c::l=>match rv kF kO s c,EH kF kO s l with
  |some b,some l'=>some (b::l')|_,_=>none
end
def P_(kF kO:List Nat)(s:St):PW->Option PW
 |.one c=>match rv kF kO s c with|some c=>some (.one c)|none=>none
 |.agg l=>match EH kF kO s l with|some l=>some (.agg l)|none=>none
def Bj(kF kO:List Nat)(s:St):List PW->Option (List PW)
 |[]=>some []|x::l=>match P_ kF kO s x,Bj kF kO s l with
  |some x,some l=>some (x::l)|_,_=>none
def Ub(kF kO:List Nat)(s:St):PV->Option PV
 |.w x=>match P_ kF kO s x with|some x=>some (.w x)|none=>none
 |.lu l=>match Bj kF kO s l with|some l=>some (.lu l)|none=>none
 |.none=>some .none
def FH(kF kO:List Nat)(s:St):List Nat->Option (List (Nat×Option Bool×PV))
 |[]=>some []|t::l=>match find s.t t,FH kF kO s l with
  |some (g,v),some r=>(match Ub kF kO s v with|some b=>some ((t,g,b)::r)|none=>none)
  |_,_=>none
def PE(kF kO:List Nat)(s:St):qm->Option (List Prop×qm)
 |.box t l=>match EH kF kO s l with|some l=>some ([],.box t l)|none=>none
 |.arr e n len f=>some ([∀ i,i<len->(f i).all (dJ false)=true],.arr e n len f)|.dead=>some ([],.dead)|.dev O dw l=>some ([],.dev O dw l)
def ZM(kF kO:List Nat)(s:St):List Nat->Option (List Prop×Wr)
 |[]=>some ([],[])|x::l=>match find s.o x,ZM kF kO s l with
  |some (g,_,ob),some (d,r)=>(match PE kF kO s ob with|some (c,b)=>some (c++d,(x,g,0,b)::r)|none=>none)
  |_,_=>none
def aGy(kO:List Nat)(s:St):Bool:=s.o.all fun p=>match YZ dx p.1 with
 |true=>kO.any (bz p.1)&&bz p.2.2.1 0|false=>true
def XW(s:St):List Nat->Option (List Prop)
 |[]=>some []|x::l=>match find s.o x,XW s l with
  |some (_,_,.arr _ _ len f),some b=>some ((∀ i,i<len->(f i).all (dJ false)=true)::b)|_,_=>none
def aXs(kF kT kO:List Nat)(s:St):Option (List Prop×St):=match FH kF kO s kT,ZM kF kO s kO,aGy kO s,XW s kF with
 |some t,some (b,o),true,some c=>some (b++c,⟨t,o⟩)|_,_,_,_=>none
def aLo(kT kO:List Nat)(s:St):Option (List Prop×St):=match FH [] kO s kT,ZM [] kO s kO,aGy kO s with
 |some t,some (b,o),true=>some (b,⟨t,o⟩)|_,_,_=>none
def BO(A:n_)(kF:List Nat)(s:St):Prop:=∀ x,kF.any (bz x)=true->A.S=Non/\∀ g b e n len f,find s.o x=some (g,b,.arr e n len f)->∀ i,i<len->(f i).all (dJ false)=true
theorem BO.nil{A:n_}{s:St}:BO A [] s:=fun x h=>by cases h
theorem aYo{A:n_}(hS:A.S=Non){s:St}:∀ {kF:List Nat} {d:List Prop},XW s kF=some d->All d->BO A kF s
 |[],_,_,_=>BO.nil|y::l,d,h,hc=>fun x b=>⟨hS,fun g c e n len f i=>by
  unfold XW at h;split at h;rename_i j k;cases h;rw[List.any_cons,aES] at b;rcases b with b|b
  obtain rfl:x=y:=iq b;rw[i] at j;cases j;exact hc.1;exact ((aYo hS k hc.2) x b).2 g c e n len f i
  cases h⟩
def v_(kO:List Nat)(env:Env):Env:=fun x=>match kO.any (bz x) with
 |true=>(env x).map fun p=>(0,p.2)|false=>none
section
variable {A:n_} {s:St} {a:Act} {w:ae} {env:Env} {kF kO:List Nat}
theorem aFw{b:Nat}(h:(aT A w env).ok b):(aT A w (v_ kO env)).ok b:=⟨h.1,fun x d i f=>by
 have c:v_ kO env x=some (d,i):=f;unfold v_ at c;split at c;cases e:env x with
 |none=>rw[e] at c;cases c|some p=>obtain⟨v,g⟩:=p;rw[e] at c;cases c;exact h.2 x v _ e
 cases c⟩
theorem aSd:(aT A w env).cold.Le (aT A w (v_ kO env)):=⟨dE _,fun b _ h=>⟨aFw h,rfl⟩,fun _ _ _ h=>by cases h⟩
theorem xO:(aT A w env).cold.Le (aT A w (v_ kO env)).cold:=⟨dE _,fun b _ h=>⟨aFw (w:=w) (env:=env) (kO:=kO) h,rfl⟩,fun _ _ _ h=>by cases h⟩
theorem Zf(h:gu A s a w env){x jm:Nat}{p:ag->Prop}(b:xX kO s x jm=true)(j:At (aT A w env) x jm p):At (aT A w (v_ kO env)) x 0 p:=by unfold xX at b;split at b;rename_i g e f l k;obtain⟨c,d,_⟩:=h.l9 x g e f k;have i:=j.now (hd:=c) (by rw[iq b];exact d);refine⟨0,c,?_,dE _,fun _=>i⟩;show v_ kO env x=some (0,c);unfold v_;rw[l,d];rfl;cases b
theorem WY(h:gu A s a w env)(hF:BO A kF s){x jm n off len:Nat}{f:Nat->List PC}{xs:List ag}(l:xX kO s x jm=false)(o:EQ kF s x jm n=some f)(hR:R (aT A w env) (.ow x jm n off len) xs):R (aT A w (v_ kO env)) (.sl n len (fun i=>f (off+i))) xs:=by
 unfold EQ at o;split at o;rename_i vr e m D f0 Z j;split at o;rename_i B L;cases o;obtain rfl:=iq B;obtain rfl:=iq L
 have I:kO.any (bz x)=false:=by
  unfold xX at l;rw[j] at l;cases J:kO.any (bz x) with
  |false=>rfl|true=>rw[J] at l;dsimp only at l;rw[B] at l;cases l
 obtain⟨hS,d⟩:=hF x Z;have d:=d _ _ _ _ _ _ j;obtain⟨hd,k,g⟩:=h.l9 x none jm _ j;have g:=g trivial;cases hR with
 | ow h1 O=>
  obtain⟨S,Q,c0,rfl,t,rfl⟩:=O.now k;obtain⟨P,r,K⟩:=g;have q:=Reads.yh r;have H:Q=D:=by obtain⟨_,A1,c1,e1,_⟩:=q;cases e1;rfl
  subst H;refine .sl (vs:=(P.drop (off*n)).take (len*n)) (nT t q) (fun b N Y=>?_) (fun i hi=>?_)
  have z:hblk (.slice S Q c0)=some b:=by
   cases S with
   |none=>simp[Xr] at N|some ad=>simp only[Option.map_some,Xr,Option.some.injEq,qW] at N;simp[hblk,N]
  obtain⟨W,V⟩:=h.live x jm _ b k z;refine⟨⟨.inr (V.resolve_right (fun C=>by have C:=C.1;rw[hS] at C;exact C)),fun y T X he E=>?_⟩,W⟩;have c:v_ kO env y=some (T,X):=he;unfold v_ at c;split at c;rename_i u;cases G:env y with
  |none=>rw[G] at c;cases c|some p=>obtain⟨U,a0⟩:=p;rw[G] at c;cases c;have F:=h.inj x y jm _ U _ b k G z E;subst F;rw[I] at u;cases u
  cases c;rw[kG P hi];exact (jY (K _ a_) (d _ a_)).le xO
 cases o;cases o
mutual
theorem TW(h:gu A s a w env)(C:BO A kF s):∀ {c r:PC} {q:List ag},rv kF kO s c=some r->R (aT A w env) c q->R (aT A w (v_ kO env)) r q
 |.lit v,r,q,b,d=>by simp only[rv,Option.some.injEq] at b;subst b;cases d;exact .lit ou|.bs n l,r,q,b,d=>by simp only[rv,Option.some.injEq] at b;subst b;cases d;exact .bs ou|.sl n len f,r,q,b,d=>by
  simp only[rv,Option.some.injEq] at b;subst b;cases d with
  |sl o e u=>exact .sl o (fun g E D=>⟨aFw (e g E D).1,(e g E D).2⟩) (fun i y=>(u i y).le xO)
 | .ow x m n t len,r,q,b,d=>by
  unfold rv at b;cases p:xX kO s x m with
  |true=>rw[p] at b;cases b;cases d with|ow o e=>exact .ow o (Zf h p e)
  | false=>
   rw[p] at b;dsimp only at b;cases B:EQ kF s x m n with
   |none=>rw[B] at b;cases b|some f=>rw[B] at b;cases b;exact WY h C p B d
 |.ob x m t len,r,q,b,d=>by
  unfold rv at b
  cases p:xX kO s x m<;>rw[p] at b<;>cases b
  cases d with|ob o e=>exact .ob o (Zf h p e)
 |.pt x m t,r,q,b,d=>by
  unfold rv at b
  cases p:xX kO s x m<;>rw[p] at b<;>cases b
  cases d with|pt o e=>exact .pt o (Zf h p e)
 |.pk x m t k,r,q,b,d=>by
  unfold rv at b
  cases p:xX kO s x m<;>rw[p] at b<;>cases b
  cases d with|pk o e=>exact .pk o (Zf h p e)
 |.pe x m n i j,r,q,b,d=>by
  unfold rv at b
  cases p:xX kO s x m<;>rw[p] at b<;>cases b
  cases d with|pe o e=>exact .pe o (Zf h p e)
 |.pf n len f i j,r,q,b,d=>by
  simp only[rv,Option.some.injEq] at b;subst b;cases d with
  |pf o e u z=>exact .pf o ⟨aFw e.1,e.2⟩ (fun i y=>(u i y).le xO) z
 |.fn f first cap,r,q,b,d=>by
  unfold rv at b
  cases o:EH kF kO s first<;>cases e:EH kF kO s cap<;>simp only[o,e] at b<;>try (cases b;done)
  cases b;cases d with
  |fn u z=>exact .fn (Za h C o u) (Za h C e z)
 |.dv,r,q,b,d=>by
  unfold rv at b
  cases p:xX kO s dx 0<;>rw[p] at b<;>cases b
  cases d with|dv o e=>exact .dv o (Zf h p e)
 |.any,r,q,b,d=>by simp only[rv,Option.some.injEq] at b;subst b;cases d;exact .any ou|.pa len f,r,q,b,d=>by
  simp only[rv,Option.some.injEq] at b;subst b;cases d with
  |pa o e u z=>exact .pa o ⟨aFw e.1,e.2⟩ (fun i y=>(u i y).le xO) z
theorem Za(h:gu A s a w env)(g:BO A kF s):∀ {l e:List PC} {d:List ag},EH kF kO s l=some e->RL (aT A w env) l d->RL (aT A w (v_ kO env)) e d
 |[],e,d,b,f=>by simp only[EH,Option.some.injEq] at b;subst b;cases f;exact .nil|c::l,e,d,b,f=>by
  unfold EH at b
  cases j:rv kF kO s c<;>cases i:EH kF kO s l<;>simp only[j,i] at b<;>try (cases b;done)
  cases b;cases f with
  |cons m k=>exact .cons (TW h g j m) (Za h g i k)
end
theorem Hr(h:gu A s a w env)(f:BO A kF s){x e:PW}{v:ag}(hr:P_ kF kO s x=some e)(g:RW (aT A w env) x v):RW (aT A w (v_ kO env)) e v:=by
 cases g with
 |@one c _ d=>
  unfold P_ at hr
  cases b:rv kF kO s c<;>simp only[b] at hr<;>try (cases hr;done)
  cases hr;exact .one (TW h f b d)
 |@agg l _ d=>
  unfold P_ at hr
  cases b:EH kF kO s l<;>simp only[b] at hr<;>try (cases hr;done)
  cases hr;exact .agg (Za h f b d)
theorem bGf:∀ {l c:List PW} {i:Nat} {b:PW},Bj kF kO s l=some c->c[i]?=some b->∃ x,l[i]?=some x/\P_ kF kO s x=some b
 |[],c,i,b,h,d=>by simp only[Bj,Option.some.injEq] at h;subst h;simp at d| y::l,c,i,b,h,d=>by
  unfold Bj at h
  cases f:P_ kF kO s y<;>cases e:Bj kF kO s l<;>simp only[f,e] at h<;>try (cases h;done)
  rename_i g j;cases h;cases i with
  |zero=>
   obtain rfl:g=b:=by simpa using d
   exact⟨y,rfl,f⟩
  |succ i=>obtain⟨x,m,k⟩:=bGf e (by simpa using d:j[i]?=some b);exact⟨x,by simpa using m,k⟩
theorem aXi:∀ {l b:List PW},Bj kF kO s l=some b->l.length=b.length
 |[],b,h=>by simp only[Bj,Option.some.injEq] at h;subst h;rfl|y::l,b,h=>by
  unfold Bj at h
  cases d:P_ kF kO s y<;>cases c:Bj kF kO s l<;>simp only[d,c] at h<;>try (cases h;done)
  cases h;rw[Lt,Lt,aXi c]
theorem Ua(h:gu A s a w env)(e:BO A kF s){x c:PV}{v:ag}(hr:Ub kF kO s x=some c)(j:RV (aT A w env) x v):RV (aT A w (v_ kO env)) c v:=by
 cases j with
 |@w x _ d=>
  unfold Ub at hr
  cases b:P_ kF kO s x<;>simp only[b] at hr<;>try (cases hr;done)
  cases hr;exact .w (Hr h e b d)
 |@lu l _ f d=>
  unfold Ub at hr
  cases b:Bj kF kO s l<;>simp only[b] at hr<;>try (cases hr;done)
  cases hr;refine .lu (by rw[<-aXi b];exact f) (fun i c g=>?_);obtain⟨x,o,n⟩:=bGf b g;obtain⟨v,m,k⟩:=d i x o;exact⟨v,m,Hr h e n k⟩
 |none=>simp only[Ub,Option.some.injEq] at hr;subst hr;exact .none
theorem aMm:∀ {c:List Nat} {l:List (Nat×Option Bool×PV)} {t:Nat} {g:Option Bool} {pv:PV},FH kF kO s c=some l->find l t=some (g,pv)->∃ v,find s.t t=some (g,v)/\Ub kF kO s v=some pv
 |[],l,t,g,pv,h,b=>by simp only[FH,Option.some.injEq] at h;subst h;cases b|t0::c,l,t,g,pv,h,b=>by
  unfold FH at h
  cases j:find s.t t0<;>cases i:FH kF kO s c<;>simp only[j,i] at h<;>try (cases h;done)
  rename_i p r;obtain⟨k,d⟩:=p;dsimp only at h
  cases f:Ub kF kO s d<;>simp only[f] at h<;>try (cases h;done)
  cases h;by_cases e:t0=t;subst e;rw[aK] at b;cases b;exact⟨d,j,f⟩;rw[aN _ _ e] at b;exact aMm i b
theorem bGg(h:gu A s a w env)(q:BO A kF s){ob b:qm}{c:List Prop}{hd:ag}(hr:PE kF kO s ob=some (c,b))(hc:All c)(o:EW (aT A w env) hd ob):EW (aT A w (v_ kO env)) hd b:=by
 cases ob with
 |dead=>simp only[PE,Option.some.injEq,Prod.mk.injEq] at hr;obtain⟨_,rfl⟩:=hr;trivial
 |dev O dw l=>simp only[PE,Option.some.injEq,Prod.mk.injEq] at hr;obtain⟨_,rfl⟩:=hr;trivial
 |box t l=>
  unfold PE at hr
  cases k:EH kF kO s l<;>simp only[k] at hr<;>try (cases hr;done)
  cases hr;obtain⟨g,r,rfl,j,d⟩:=o;exact⟨g,r,rfl,j,Za h q k d⟩
 |arr e n len f=>simp only[PE,Option.some.injEq,Prod.mk.injEq] at hr;obtain⟨rfl,rfl⟩:=hr;obtain⟨p,j,d⟩:=o;exact⟨p,j,fun i m=>(jY (d i m) (hc.1 i m)).le aSd⟩
theorem aNb{b:Type}:∀ {l:List (Nat×b)} {x:Nat} {p:b},find l x=some p->(x,p)∈l
 |(k,y)::l,x,p,h=>by by_cases c:k=x;subst c;rw[aK] at h;cases h;exact List.mem_cons_self;rw[aN _ _ c] at h;exact List.mem_cons_of_mem _ (aNb h)
theorem bOn:∀ {a b:List Prop},All (a++b)->All a/\All b:=by
 intro a
 induction a with
 |nil=>intro b h;exact⟨trivial,h⟩|cons p a c=>intro b h;exact⟨⟨h.1,(c h.2).1⟩,(c h.2).2⟩
variable {R:List (Nat×(Nat->List PC))}
def Dq(R:List (Nat×(Nat->List PC)))(kF kO:List Nat)(s:St)(x:Nat):qm->Option (List Prop×qm)
 |.arr e n len f=>(match find R x with
  |some b=>some ([∀ i,i<len->EH kF kO s (f i)=some (b i)],.arr e n len b)|none=>some ([∀ i,i<len->(f i).all (dJ false)=true],.arr e n len f))
 |ob=>PE kF kO s ob
def TA(R:List (Nat×(Nat->List PC)))(kF kO:List Nat)(s:St):List Nat->Option (List Prop×Wr)
 |[]=>some ([],[])|x::l=>match find s.o x,TA R kF kO s l with
  |some (g,_,ob),some (d,r)=>(match Dq R kF kO s x ob with|some (c,b)=>some (c++d,(x,g,0,b)::r)|none=>none)
  |_,_=>none
def aLn(R:List (Nat×(Nat->List PC)))(kF kT kO:List Nat)(s:St):Option (List Prop×St):=match FH kF kO s kT,TA R kF kO s kO,aGy kO s,XW s kF with
 |some t,some (b,o),true,some c=>some (b++c,⟨t,o⟩)|_,_,_,_=>none
theorem aBb:∀ {l:List Nat} {t:List Prop} {r:Wr} {x:Nat},TA R kF kO s l=some (t,r)->(find r x=none->¬(l.any (bz x)=true))/\∀ g d k,find r x=some (g,d,k)->d=0/\l.any (bz x)=true/\∃ y i c,find s.o x=some (g,y,i)/\Dq R kF kO s x i=some (c,k)/\(All t->All c)
 |[],t,r,x,h=>by simp only[TA,Option.some.injEq,Prod.mk.injEq] at h;obtain⟨rfl,rfl⟩:=h;exact⟨fun _=>by simp,fun g d k f=>by cases f⟩
 | x0::l,t,r,x,h=>by
  unfold TA at h
  cases E:find s.o x0<;>cases D:TA R kF kO s l<;>simp only[E,D] at h<;>try (cases h;done)
  rename_i p q;obtain⟨P,u,i⟩:=p;obtain⟨L,O⟩:=q;dsimp only at h
  cases C:Dq R kF kO s x0 i<;>simp only[C] at h<;>try (cases h;done)
  rename_i z;obtain⟨c,F⟩:=z;cases h
  have j:∀ {a b:List Prop},All (a++b)->All a/\All b:=by
   intro a
   induction a with
   |nil=>intro b h;exact⟨trivial,h⟩|cons p a m=>intro b h;exact⟨⟨h.1,(m h.2).1⟩,(m h.2).2⟩
  by_cases n:x0=x;subst n;refine⟨fun f=>(by rw[aK] at f;cases f),fun g d k f=>?_⟩;rw[aK] at f;cases f;exact⟨rfl,by simp,u,i,c,E,C,fun h=>(j h).1⟩;have m:=aBb (x:=x) D;refine⟨fun f=>?_,fun g d k f=>?_⟩;rw[aN _ _ n] at f;have:=m.1 f;rw[List.any_cons];simp only[aES,not_or];exact⟨fun e=>n (iq e).symm,this⟩;rw[aN _ _ n] at f;obtain⟨K,J,y,B,N,I,H,G⟩:=m.2 g d k f;exact⟨K,by rw[List.any_cons,J,Bool.or_true],y,B,N,I,H,fun h=>G (j h).2⟩
theorem PD(h:gu A s a w env)(j:BO A kF s){x:Nat}{ob b:qm}{c:List Prop}{hd:ag}(hr:Dq R kF kO s x ob=some (c,b))(hc:All c)(g:EW (aT A w env) hd ob):EW (aT A w (v_ kO env)) hd b:=by
 cases ob with
 |dead=>exact bGg (ob:=.dead) h j hr hc g|dev O dw l=>exact bGg (ob:=.dev O dw l) h j hr hc g|box t l=>exact bGg (ob:=.box t l) h j hr hc g| arr e n len f=>
  unfold Dq at hr;cases p:find R x with
  |none=>simp only[p,Option.some.injEq,Prod.mk.injEq] at hr;obtain⟨rfl,rfl⟩:=hr;obtain⟨k,o,m⟩:=g;exact⟨k,o,fun i d=>(jY (m i d) (hc.1 i d)).le aSd⟩
  |some q=>simp only[p,Option.some.injEq,Prod.mk.injEq] at hr;obtain⟨rfl,rfl⟩:=hr;obtain⟨k,o,m⟩:=g;exact⟨k,o,fun i d=>Za h j (hc.1 i d) (m i d)⟩
theorem qh.Bl{kT:List Nat}{cs:List Prop}{s':St}(h:qh A s a w)(Y:kF=[]\/A.S=Non)(hr:aLn R kF kT kO s=some (cs,s'))(I:All cs):qh A s' a w:=by
 obtain⟨env,h⟩:=h;unfold aLn at hr
 cases L:FH kF kO s kT<;>cases J:TA R kF kO s kO<;>cases h3:aGy kO s<;>cases k:XW s kF<;>simp only[L,J,h3,k] at hr<;>try (cases hr;done)
 rename_i t q cf;obtain⟨a2,o⟩:=q;cases hr;have hc:All a2:=(bOn I).1;have hF:BO A kF s:=by rcases Y with rfl|hS;exact BO.nil;exact aYo hS k (bOn I).2
 refine⟨v_ kO env,{ gy:=h.gy,size:=h.size,dom:=fun x m=>?_,l9:=fun x g z U n=>?_,live:=fun x z K b F r=>?_,inj:=fun x y v1 L v2 J b e d X W=>?_,tmps:=fun T g pv n H=>?_,defers:=h.defers,und:=fun T pv n=>(by obtain⟨v,k,_⟩:=aMm L n;exact h.und T v k),oq:=fun x K m=>?_,dev:=fun g z O dw l n H=>?_ }⟩;have:=(aBb (x:=x) J).1 m;unfold v_;cases r:kO.any (bz x) with
 |true=>exact absurd r this|false=>rfl
 obtain⟨rfl,hk,G,B,c,k,j,u⟩:=(aBb (x:=x) J).2 g z U n;obtain⟨K,D,Z⟩:=h.l9 x g G B k;refine⟨K,?_,fun H=>PD h hF j (u hc) (Z H)⟩;unfold v_;rw[hk,D];rfl;unfold v_ at F;split at F;cases m:env x with
 |none=>rw[m] at F;cases F|some p=>obtain⟨v,i⟩:=p;rw[m] at F;cases F;exact h.live x v _ b m r
 cases F;unfold v_ at e d;split at e;split at d;cases m:env x with
 |none=>rw[m] at e;cases e|some p=>
  cases E:env y with
  |none=>rw[E] at d;cases d|some q=>obtain⟨v,i⟩:=p;obtain⟨Q,a3⟩:=q;rw[m] at e;rw[E] at d;cases e;cases d;exact h.inj x y v _ Q _ b m E X W
 cases d;cases e;obtain⟨v,k,j⟩:=aMm L n;obtain⟨P,u,D⟩:=h.tmps T g v k H;exact⟨P,u,Ua h hF j D⟩;obtain⟨r,ha⟩:=h.oq x K m;refine⟨r,?_⟩;obtain⟨G,i,k,_,j⟩:=ha;have C:env x=some (G,i):=k;cases n:find s.o x with
 |none=>rw[h.dom x n] at C;cases C|some p=>obtain⟨g,N,U⟩:=p;have u:=List.all_eq_true.1 h3 _ (aNb n);dsimp only at u;rw[r] at u;rw[PP] at u;obtain⟨V,D,_⟩:=h.l9 x g N U n;rw[C] at D;cases D;refine⟨0,i,?_,dE _,fun _=>j (iq u.2).symm⟩;show v_ kO env x=some (0,i);unfold v_;rw[u.1,C];rfl
 ·obtain⟨rfl,hk,G,B,c,k,j,u⟩:=(aBb (x:=dx) J).2 g z _ n
  have D:B=.dev O dw l:=by
   cases B<;>simp only[Dq,PE] at j
   ·split at j<;>cases j
   ·split at j<;>cases j
   cases j;cases j;rfl
  subst D;obtain⟨Z,h9,a1⟩:=h.dev g G O dw l k H;refine⟨Z,h9,A.dv.grow _ _ _ _ _ a1 (dm.refl _ _) (fun b r=>.inl ?_)⟩;rcases r with r|⟨y,v2,V,f,a0⟩;exact .inl r;unfold v_ at f
  split at f;cases E:env y with
  |none=>rw[E] at f;cases f|some p=>obtain⟨v,i⟩:=p;rw[E] at f;cases f;exact .inr ⟨y,v,_,E,a0⟩
  cases f
theorem aJp:∀ l,TA [] kF kO s l=ZM kF kO s l
 |[]=>rfl|x::l=>by
  have h:∀ b,Dq [] kF kO s x b=PE kF kO s b:=fun b=>by cases b<;>rfl
  simp only[TA,ZM,aJp l,h]
theorem qh.IW{kT:List Nat}{cs:List Prop}{s':St}(h:qh A s a w)(c:kF=[]\/A.S=Non)(hr:aXs kF kT kO s=some (cs,s'))(b:All cs):qh A s' a w:=h.Bl (R:=[]) c (by unfold aLn;rw[aJp];exact hr) b
theorem qh.reset{kT:List Nat}{cs:List Prop}{s':St}(h:qh A s a w)(hr:aLo kT kO s=some (cs,s'))(hc:All cs):qh A s' a w:=by
 refine h.IW (kF:=[]) (kT:=kT) (kO:=kO) (cs:=cs) (.inl rfl) ?_ hc;unfold aLo at hr;unfold aXs XW
 cases d:FH [] kO s kT<;>cases c:ZM [] kO s kO<;>cases b:aGy kO s<;>simp only[d,c,b] at hr<;>try (cases hr;done)
 cases hr;simp
inductive BA:qm->qm->Prop where
 |box {t:bu} {l l':List PC} (h:l=l'):BA (.box t l) (.box t l')
 |arr {e n len len':Nat} {f f':Nat->List PC} (hl:len=len') (h:∀ i,i<len->f i=f' i):BA (.arr e n len f) (.arr e n len' f')
 |dead {o:qm}:BA o .dead
 |dev {O:List Acc->Option jh} {dw:List Acc->Prop} {l l':List Acc} (h:l=l'):BA (.dev O dw l) (.dev O dw l')
inductive B_:List (Nat×Option Bool×PV)->List (Nat×Option Bool×PV)->Prop where
 |nil:B_ [] []
 |cons {t:Nat} {g:Option Bool} {v v':PV} {l l':List (Nat×Option Bool×PV)} (h:v=v') (hl:B_ l l'):B_ ((t,g,v)::l) ((t,g,v')::l')
inductive Az:Wr->Wr->Prop where
 |nil:Az [] []
 |cons {x jm:Nat} {g:Option Bool} {o o':qm} {l l':Wr} (h:BA o o') (hl:Az l l'):Az ((x,g,jm,o)::l) ((x,g,jm,o')::l')
theorem B_.eq{l l':List (Nat×Option Bool×PV)}(h:B_ l l'):l=l':=by
 induction h with
 |nil=>rfl|cons h _ b=>rw[h,b]
theorem Az.find{l l':Wr}(h:Az l l')(x:Nat):(find l x=none/\find l' x=none)\/∃ g b o c,find l x=some (g,b,o)/\find l' x=some (g,b,c)/\BA o c:=by
 induction h with
 |nil=>exact .inl ⟨rfl,rfl⟩|@cons y b g o c l l' h _ e=>by_cases d:y=x;subst d;exact .inr ⟨g,b,o,c,aK _ _ _,aK _ _ _,h⟩;rw[aN _ _ d,aN _ _ d];exact e
theorem BA.ok{C:Ctx}{hd:ag}{o b:qm}(h:BA o b)(d:EW C hd o):EW C hd b:=by
 cases h with
 |box h=>rw[<-h];exact d|arr f h=>subst f;obtain⟨e,j,g⟩:=d;exact⟨e,j,fun i c=>by rw[<-h i c];exact g i c⟩
 |dead=>trivial|dev _=>trivial
theorem qh.same{s':St}(h:qh A s a w)(q:B_ s.t s'.t)(k:Az s.o s'.o):qh A s' a w:=by
 obtain⟨env,h⟩:=h;refine⟨env,{ gy:=h.gy,size:=h.size,dom:=fun x p=>?_,l9:=fun x g d B b=>?_,live:=h.live,inj:=h.inj,tmps:=fun t g pv b=>?_,defers:=h.defers,und:=fun t pv b=>(by rw[<-q.eq] at b;exact h.und t pv b),oq:=h.oq,dev:=fun g d O dw l b j=>?_ }⟩;rcases k.find x with c|⟨g,d,o,n,_,i,_⟩;exact h.dom x c.1;rw[i] at p;cases p;rcases k.find x with c|⟨z,f,o,n,c,i,m⟩;rw[c.2] at b;cases b;rw[i] at b;cases b;obtain⟨r,y,u⟩:=h.l9 x _ _ o c
 exact⟨r,y,fun j=>m.ok (u j)⟩;rw[<-q.eq] at b;exact h.tmps t g pv b;rcases k.find dx with c|⟨z,f,o,n,c,i,m⟩;rw[c.2] at b;cases b;rw[i] at b;cases b
 cases m with
 |dev e=>subst e;exact h.dev g d _ _ _ c j
theorem qh.nilRow{x e n t:Nat}(h:qh A s a w)(l:find s.o x=none)(m:find s.t t=some (none,o9 (.slice none 0 0))):qh A { t:=(t,none,d_ (.ow x 0 n 0 0))::s.t,o:=(x,none,0,.arr e n 0 (fun _=>[]))::s.o } a w:=by
 obtain⟨env,h⟩:=h;have k:fresh s x=0:=by unfold fresh;rw[l]
 obtain⟨j,y⟩:=h.new (w':=w) x none (.slice none 0 0) (.arr e n 0 (fun _=>[])) (Ext.refl w) (fun b q=>by cases q) (fun _ _=>⟨[],⟨by simp,.inl ⟨rfl,rfl⟩⟩,fun i z=>by omega⟩);rw[k] at j y;refine⟨_,{ j with tmps:=fun f g pv d p=>?_,und:=fun f pv d=>?_ }⟩;rotate_left 1;by_cases c:t=f;subst c;rw[aK] at d;cases d;rw[aN _ _ c] at d;exact j.und f pv d;by_cases c:t=f;subst c;rw[aK] at d;cases d;obtain⟨v,u,r⟩:=h.tmps t none _ m trivial;have:=r.eu;subst this;exact⟨_,u,.w (.one (.ow ⟨_,_,rfl⟩ ⟨0,_,iR _ _ _ _,dE _,fun _=>⟨none,0,0,rfl,by omega,rfl⟩⟩))⟩;rw[aN _ _ c] at d;exact j.tmps f g pv d p
end
theorem RL.aAQ{C:Ctx}{c c':PC}{l2:List PC}(hc:∀ ys,R C c ys->R C c' ys):∀ {l1:List PC} {xs:List ag},RL C (l1++c::l2) xs->RL C (l1++c'::l2) xs
 |[],_,h=>by cases h with|cons h1 h2=>exact .cons (hc _ h1) h2
 |_::l1,_,h=>by cases h with|cons h1 h2=>exact .cons h1 (RL.aAQ hc (l1:=l1) h2)
theorem qh.D8{A:n_}{s:St}{a:Act}{w:ae}{x e n b p ty:Nat}{l1 u:List PC}(h:qh A s a w)(y:find s.o x=none)(hb:find s.o b=some (none,p,.box ty (l1++.lit (.slice none 0 0)::u))) :
  qh A { t:=s.t,o:=(b,none,p,.box ty (l1++.ow x 0 n 0 0::u))::(x,none,0,.arr e n 0 (fun _=>[]))::s.o } a w:=by
 obtain⟨env,h⟩:=h;have r:fresh s x=0:=by unfold fresh;rw[y]
 obtain⟨j,H⟩:=h.new (w':=w) x none (.slice none 0 0) (.arr e n 0 (fun _=>[])) (Ext.refl w) (fun b hb=>by cases hb) (fun _ _=>⟨[],⟨by simp,.inl ⟨rfl,rfl⟩⟩,fun i K=>by omega⟩);rw[r] at j H;have q:x≠b:=fun e=>by subst e;rw[y] at hb;cases hb
 refine⟨_,{ j with dom:=fun k d=>?_,l9:=fun k g f o d=>?_,tmps:=fun z g pv d m=>j.tmps z g pv d m,dev:=fun g f O dw l d m=>?_ }⟩;by_cases c:b=k;subst c;rw[aK] at d;cases d;rw[aN _ _ c] at d;exact j.dom k d;by_cases c:b=k;subst c;rw[aK] at d;cases d;obtain⟨C,G,F⟩:=j.l9 b none p _ (show find ((x,none,0,qm.arr e n 0 (fun _=>[]))::s.o) b=_ by rw[aN _ _ q];exact hb);refine⟨C,G,fun m=>?_⟩;obtain⟨g,I,rfl,E,D⟩:=F m;refine⟨g,I,rfl,E,D.aAQ (fun J B=>?_)⟩;cases B;exact .ow ⟨_,_,rfl⟩ ⟨0,_,iR _ _ _ _,dE _,fun _=>⟨none,0,0,rfl,by omega,rfl⟩⟩;rw[aN _ _ c] at d;exact j.l9 k g f o d;by_cases c:b=dx;subst c;rw[aK] at d;cases d;rw[aN _ _ c] at d;exact j.dev g f O dw l d m
theorem aZt{k:Nat}{f g b:Nat->List PC}(h1:∀ i,i<k->f i=b i)(h2:g 0=b k):∀ i,i<k+1->o_ k f g i=b i:=fun i c=>by
 unfold o_;by_cases h:i<k;rw[if_pos h];exact h1 i h;obtain rfl:i=k:=by omega
 rw[if_neg h,YB];exact h2
theorem bOl{k:Nat}{f g:Nat->List PC}(h1:∀ i,i<k->∀ x∈f i,dJ false x=true)(h2:∀ x∈g 0,dJ false x=true):∀ i,i<k+1->∀ x∈o_ k f g i,dJ false x=true:=fun i c x b=>by
 unfold o_ at b;by_cases h:i<k;rw[if_pos h] at b;exact h1 i h x b;obtain rfl:i=k:=by omega
 rw[if_neg h,YB] at b;exact h2 x b
theorem qV{c:PC}(h:dJ false c=true):∀ x∈[c],dJ false x=true:=fun x b=>by rw[List.mem_singleton.1 b];exact h
theorem lV{P:gp}{A:n_}{s:St}{Q:Exit->Act->ae->Prop}{c:Hm}(s':St){cs:List Prop}(d:lh P A s' c Q)(hr:aLo (s'.t.map (·.1)) (s'.o.map (·.1)) s=some (cs,s'):=by rfl)(hc:All cs:=by simp):lh P A s c Q:=bY (fun _ _ b=>b.reset hr hc) d
theorem aU{P:gp}{A:n_}{s s1:St}{Q:Exit->Act->ae->Prop}{c:Hm}(s':St){cs:List Prop}(h1:B_ s1.t s'.t)(h2:Az s1.o s'.o)(d:lh P A s' c Q)(hr:aLo (s'.t.map (·.1)) (s'.o.map (·.1)) s=some (cs,s1):=by rfl)(hc:All cs:=by simp):lh P A s c Q:=bY (fun _ _ b=>(b.reset hr hc).same h1 h2) d
theorem NR:∀ (l:List (Nat×Option Bool×PV)),B_ l l
 |[]=>.nil|(_,_,_)::l=>.cons rfl (NR l)
theorem ig{l m:List (Nat×Option Bool×PV)}(h:l=m:=by rfl):B_ l m:=h ▸ NR l
theorem XC:∀ o:qm,BA o o
 |.box _ _=>.box rfl|.arr _ _ _ _=>.arr rfl fun _ _=>rfl|.dead=>.dead|.dev _ _ _=>.dev rfl
theorem NM:∀ l:Wr,Az l l
 |[]=>.nil|(_,_,_,_)::l=>.cons (XC _) (NM l)
theorem o7{l m:Wr}(h:l=m:=by rfl):Az l m:=h ▸ NM l
end Pv
end Go.Proofs.YtndpjopifkbgiaaGreatDoor
