/-
  Several texts in one file: each has its own heading below.
-/
import Derived.Test.YtndpjopifkbgiaaGreatDoorMmH
import Derived.Deep.LoopGhost
namespace Go.Proofs.YtndpjopifkbgiaaGreatDoor
open Go.RowKit
namespace Pv
def iw(P:Program)(A:jk)(s:St)(c:Code)(Q:Exit->Act->World->Prop):Prop:=∀ a w,o6 A s a w->BK A Q->c.wp P Q a w
def ZJ(A:jk)(s:St)(Q:Act->World->Prop):Prop:=∀ a w,o6 A s a w->Q a w
def Nxt(P:Program)(A:jk)(c:Code)(Q:Exit->Act->World->Prop):Act->World->Prop:=fun a w=>BK A Q->c.wp P Q a w
structure l_(P:Program)(I:World->Prop)(G:Specs):Prop where
 ZT:aFc P I G
 mixed:P.follows .mixedOrders=true
def MI(nt:Nat)(l:List Oper):Bool:=l.all fun o=>match o.dst with
 |some d=>Nat.blt d nt
 |none=>true
def bDa(s:St)(x:Nat)(k:Nat->Option Out):Option Out:=match find s.o x with
 |some (_,vr,_)=>k (vr+1)
 |none=>k 0
theorem bCz(s:St)(x:Nat)(k:Nat->Option Out):bDa s x k=k (fresh s x):=by
 unfold bDa fresh
 cases find s.o x with
 |none=>rfl
 |some p=>rfl
def M.exec:M->Option Bool->St->List Prop->List Nat->List Nat->Wr->Option Out
 |.ret v,h,_,c,rt,ro,wr=>some ⟨h,v,c,rt,ro,wr⟩
 |.fail,_,_,_,_,_,_=>none
 |.need p k,h,s,c,rt,ro,wr=>k.exec h s (c++[hP h p]) rt ro wr
 |.tmp t k,h,s,c,rt,ro,wr=>match find s.t t with
  |some (g,v)=>(k g v).exec h s c (rt++[t]) ro wr
  |none=>none
 |.obj x k,h,s,c,rt,ro,wr=>match find s.o x with
  |some (g,vr,ob)=>(k g vr ob).exec h s c rt (ro++[x]) wr
  |none=>none
 |.new x ob k,h,s,c,rt,ro,wr=>bDa s x fun v=>(k v).exec h s c rt (ro++[x]) (wr++[(x,h,v,ob)])
 |.upd x vr ob k,h,s,c,rt,ro,wr=>match h with
  |none=>k.exec none s c rt ro (wr++[(x,none,vr,ob)])
  |some _=>none
 |.gate b k,h,s,c,rt,ro,wr=>match h with
  |none=>k.exec (some b) s c rt ro wr
  |some _=>none
def TW(c:List Prop)(rt ro:List Nat)(wr:Wr)(o:Out):Out:=⟨o.g,o.val,c++o.conds,rt++o.rt,ro++o.ro,wr++o.wr⟩
theorem Qu:∀ (m:M) (h:Option Bool) (s:St) (c:List Prop) (rt ro:List Nat) (wr:Wr),m.exec h s c rt ro wr=(m.run h s).map (TW c rt ro wr):=by
 intro m
 induction m with
 |ret v=>intro h s c rt ro wr;simp[M.exec,M.run,TW]
 |fail=>intro h s c rt ro wr;rfl
 |need p k ih=>intro h s c rt ro wr;rw[M.exec,M.run,ih];cases k.run h s<;>simp[TW]
 |tmp t k ih=>
  intro h s c rt ro wr;rw[M.exec,M.run]
  cases find s.t t with
  |none=>rfl
  |some p=>obtain⟨g,v⟩:=p;dsimp only;rw[ih];cases (k g v).run h s<;>simp[TW]
 |obj x k ih=>
  intro h s c rt ro wr;rw[M.exec,M.run]
  cases find s.o x with
  |none=>rfl
  |some p=>obtain⟨g,vr,ob⟩:=p;dsimp only;rw[ih];cases (k g vr ob).run h s<;>simp[TW]
 |new x ob k ih=>intro h s c rt ro wr;rw[M.exec,M.run,bCz,ih];cases (k (fresh s x)).run h s<;>simp[TW]
 |upd x vr ob k ih=>
  intro h s c rt ro wr
  cases h with
  |some b=>rfl
  |none=>rw[M.exec,M.run,ih];cases k.run none s<;>simp[TW]
 |gate b k ih=>
  intro h s c rt ro wr
  cases h with
  |some b=>rfl
  |none=>rw[M.exec,M.run,ih]
theorem yO(m:M)(h:Option Bool)(s:St):m.exec h s [] [] [] []=m.run h s:=by
 rw[Qu]
 cases m.run h s<;>simp[TW]
def ES{α:Type}:Wr->Wr->(Wr->α)->α
 |[],o,k=>k o
 |p::l,o,k=>ES l o fun r=>k (p::r)
theorem aTa{α:Type}:∀ (l o:Wr) (k:Wr->α),ES l o k=k (l++o)
 |[],_,_=>rfl
 |p::l,o,k=>by rw[ES,aTa l];rfl
def WY{α:Type}(d:Option Nat)(out:Out)(s:St)(k:St->α):α:=match out,s with
 |⟨g,v,_,_,_,wr⟩,⟨t,o⟩=>ES wr o fun o'=>match d with
  |some d=>k ⟨(d,g,v)::t,o'⟩
  |none=>k ⟨t,o'⟩
theorem Rl{α:Type}(d:Option Nat)(out:Out)(s:St)(k:St->α):WY d out s k=k (app d out s):=by
 obtain⟨g,v,c,rt,ro,wr⟩:=out;obtain⟨t,o⟩:=s;unfold WY;dsimp only;rw[aTa]
 cases d<;>rfl
def yZ(AY:Nat->Oper->M):Nat->List Oper->St->Option (List (Option Nat×Out)×St)
 |_,[],s=>some ([],s)
 | i,o::l,s=>match (AY i o).exec none s [] [] [] [] with
  |some out=>WY o.dst out s fun s1=>(match yZ AY (i+1) l s1 with
   |some (outs,s')=>some ((o.dst,out)::outs,s')
   |none=>none)
  |none=>none
theorem aGi(AY:Nat->Oper->M):∀ (l:List Oper) (i:Nat) (s:St),yZ AY i l s=qA AY i l s
 |[],_,_=>rfl
 | o::l,i,s=>by
  rw[yZ,qA,yO]
  cases (AY i o).run none s with
  |none=>rfl
  |some out=>
   dsimp only;rw[Rl,aGi AY l];rfl
def All:List Prop->Prop
 |[]=>True
 |p::l=>p/\All l
theorem All.mem:∀ {l:List Prop},All l->∀ p∈l,p
 |[],_,p,h=>by cases h
 |q::l,⟨h1,h2⟩,p,h=>by
  rcases List.mem_cons.1 h with rfl|h
  ·exact h1
  ·exact h2.mem p h
section
variable {P:Program} {I:World->Prop} {G:Specs} {A:jk} {s s':St} {Q:Exit->Act->World->Prop}
theorem aQ(M:l_ P I G)(hI:lw P I A){nt:Nat}(hnt:A.nt=nt){Dn:Nat}{ops:Array Oper}{draw:Bool}{outs:List (Option Nat×Out)}(h:yZ (bBt P G Dn ops.toList) 0 ops.toList s=some (outs,s'))(hcl:(uI draw ops.toList outs&&MI nt ops.toList)=true)(hc:All ((outs.map fun q=>q.2.conds).flatten))(hQ:ZJ A s' (Q .normal)):iw P A s (.region Dn ops draw) Q:=by
 intro a w hg AO;subst hnt;rw[aGi] at h;rw[Bool.and_eq_true] at hcl;refine aKy (Uc M.ZT hI AO Dn ops (fun i o d ho hd=>?_)) (aNl A) (fun s a w h=>h.drew) M.mixed h (fun q hq p hp=>hc.mem p (List.mem_flatten.2 ⟨_,List.mem_map.2 ⟨q,hq,rfl⟩,hp⟩)) hcl.1 hg (fun a' w' hg'=>hQ a' w' hg');have:=List.all_eq_true.1 hcl.2 o (by rw[<-Array.getElem?_toList] at ho;exact List.mem_of_getElem? ho);rw[hd] at this
 have h3:d+1<=A.nt:=by simpa[Nat.blt] using this
 exact h3
theorem aN{x y:Code}(h:iw P A s x (Exit.then (Nxt P A y Q) Q)):iw P A s (.seq x y) Q:=fun a w hg AO=>
 wp_seq (wp_mono (h a w hg AO) (fun e a' w' he=>by
  cases e<;>first|exact he|exact he AO))
theorem aB(M:l_ P I G)(hI:lw P I A){nt:Nat}(hnt:A.nt=nt){Dn:Nat}{ops:Array Oper}{draw:Bool}{outs:List (Option Nat×Out)}{y:Code}(h:yZ (bBt P G Dn ops.toList) 0 ops.toList s=some (outs,s'))(hcl:(uI draw ops.toList outs&&MI nt ops.toList)=true)(hc:All ((outs.map fun q=>q.2.conds).flatten))(hQ:iw P A s' y Q):iw P A s (.seq (.region Dn ops draw) y) Q:=
 aN (aQ M hI hnt h hcl hc (fun a w hg=>hQ a w hg))
def NG(s:St)(c:Operand):Option Bool:=match c with
 |.tmp t=>(match find s.t t with
  |some (none,.w (.one (.lit (.bool b))))=>some b
  |_=>none)
 |_=>none
theorem aP(h:ZJ A s (Q .normal)):iw P A s .skip Q:=fun a w hg _=>wp_skip (h a w hg)
theorem gW{id:Nat}(h:ZJ A s (Q (.exit id))):iw P A s (.exit id) Q:=fun a w hg _=>wp_exit (h a w hg)
theorem aO(h:ZJ A s (Q .ret)):iw P A s .ret Q:=fun a w hg _=>wp_ret (h a w hg)
theorem bG{id:Nat}{c:Code}(h:iw P A s c (Exit.inBlock id Q)):iw P A s (.block id c) Q:=fun a w hg AO=>wp_block (h a w hg AO)
theorem aH{c:Operand}{x y:Code}{b:Bool}(hc:NG s c=some b)(h1:b=true->iw P A s x Q)(h2:b=false->iw P A s y Q):iw P A s (.cond c x y) Q:=fun a w hg AO=>by
 obtain⟨env,hE⟩:=hg
 have hv:a.eval c=.bool b:=by
  cases c with
  | tmp t=>
   unfold NG at hc;dsimp only at hc
   split at hc
   ·rename_i b' hf;cases hc;obtain⟨v,h3,h4⟩:=hE.tmps t none _ hf trivial;have:=h4.zi;subst this;simp only[Act.eval];rw[Array.getD_eq_getD_getElem?,h3];rfl
   ·cases hc
  |_=>cases hc
 refine wp_cond hv ?_
 cases b with
 |true=>exact h1 rfl a w ⟨env,hE⟩ AO
 |false=>exact h2 rfl a w ⟨env,hE⟩ AO
theorem aG{c:Code}(h:∀ a w,o6 A s a w->o6 A s' a w)(hT:iw P A s' c Q):iw P A s c Q:=fun a w hg AO=>hT a w (h a w hg) AO
theorem iL{c:Code}(n:Nat)(J:Nat->St->Prop)(k0:Nat)(h0:J k0 s)(hk:k0<=n)
  (round:∀ k s,J k s->k<=n->iw P A s c (Exit.then (fun a w=>∃ k' s',k<k'/\k'<=n/\J k' s'/\o6 A s' a w) Q)):iw P A s (.loop c) Q:=fun a w hg AO=>by
 refine wp_loop_ghost (fun m a w=>∃ k s,m=n-k/\k<=n/\J k s/\o6 A s a w) (n-k0) ⟨k0,s,rfl,hk,h0,hg⟩ (fun m a w hm=>?_);obtain⟨k,s,rfl,hkn,hJ,hg⟩:=hm;refine wp_mono (round k s hJ hkn a w hg AO) (fun e a' w' he=>?_)
 cases e<;>first|exact he|skip
 obtain⟨k',s',h1,h2,h3,h4⟩:=he
 exact⟨n-k',by omega,k',s',rfl,h2,h3,h4⟩
def Ew(tmps:Array Value)(r:ResultVar):Sem Value:=match r with
 |.tmp t=>pure (tmps.getD t undef)
 |.cell b t=>do loadVar t (<-asAddr (tmps.getD b undef))
theorem aVr(fn:Func)(tmps:Array Value):results fn tmps=(do let vs <-fn.results.mapM (Ew tmps);pure (if h:vs.size=1 then vs[0] else .tuple vs)):=by
 unfold results;congr 1
theorem aPy{a:Act}{w:World}{env:Env}(h:dw A s a w env){F:Option Bool->PV->Wr->Prop}:∀ {rs:List ResultVar} {k:List PW->M},(P7 P rs k).ok none s F ->
  ∃ xs vs,(rs.mapM (Ew a.tmps)).run P w=.ok vs w/\xs.length=vs.length/\(∀ (i:Nat) (x:PW),xs[i]?=some x->∃ v:Value,vs[i]?=some v/\RW (aU A w env) x v)/\(k xs).ok none s F
 |[],k,hk=>⟨[],[],by simp,rfl,fun i x hx=>by simp at hx,hk⟩
 | .tmp t::rs,k,hk=>by
  obtain⟨pv,hp,hk⟩:=gB h hk
  split at hk
  ·rename_i x;obtain⟨xs,vs,h1,h2,h3,h4⟩:=aPy h hk
   refine⟨x::xs,a.tmps.getD t undef::vs,?_,by simp[h2],fun i y hy=>?_,h4⟩
   ·rw[List.mapM_cons,show Ew a.tmps (.tmp t)=pure (a.tmps.getD t undef) from rfl];simp only[Sem.run_bind,Sem.run_pure,Result.andThen_ok,h1]
   ·cases i with
    |zero=>
     obtain rfl:x=y:=by simpa using hy
     cases hp with|w hp=>exact⟨_,rfl,hp⟩
    |succ i=>exact h3 i y (by simpa using hy)
  ·exact hk.elim
 | .cell b t::rs,k,hk=>by
  obtain⟨pv,hp,hk⟩:=gB h hk;obtain⟨b1,o1,x,val,hv,hrun,hval,hk⟩:=aTj h hp hk;obtain⟨xs,vs,h1,h2,h3,h4⟩:=aPy h hk;have hv':a.tmps.getD b undef=.pointer (some ⟨b1,o1,none⟩):=hv
  have hld:(loadVar t ⟨b1,o1,none⟩).run P w=.ok val w:=by
   rw[hv] at hrun
   simpa[Instr.loadAt,Instr.sureAddr] using hrun
  have h0:(Ew a.tmps (.cell b t)).run P w=.ok val w:=by
   unfold Ew;simp only[hv',asAddr,Sem.run_bind,Sem.run_pure,Result.andThen_ok,hld]
  refine⟨x::xs,val::vs,?_,by simp[h2],fun i y hy=>?_,h4⟩
  ·rw[List.mapM_cons];simp only[Sem.run_bind,Sem.run_pure,Result.andThen_ok,h0,h1]
  ·cases i with
   |zero=>
    obtain rfl:x=y:=by simpa using hy
    exact⟨_,rfl,hval⟩
   |succ i=>exact h3 i y (by simpa using hy)
theorem qV{a:Act}{w:World}{env:Env}(h:dw A s a w env){F:Option Bool->PV->Wr->Prop}{fn:Func}(hk:(zx P fn.results).ok none s F):∃ v val,(results fn a.tmps).run P w=.ok val w/\RV (aU A w env) v val/\F none v []:=by
 unfold zx at hk;obtain⟨xs,vs,h1,h2,h3,hk⟩:=aPy h hk
 have hm:(fn.results.mapM (Ew a.tmps)).run P w=.ok vs.toArray w:=by
  rw[Array.mapM_eq_mapM_toList,Sem.run_map,h1];rfl
 rw[aVr];simp only[Sem.run_bind,hm,Result.andThen_ok,Sem.run_pure]
 split at hk
 ·rename_i x
  match vs,h2,h3 with
  |[v],_,h3=>
   obtain⟨v',e,hr⟩:=h3 0 x rfl;cases e
   exact⟨_,_,rfl,.w hr,hk⟩
 ·rename_i hne
  have hlen:¬vs.toArray.size=1:=by
   intro e
   match xs,h2,hne with
   |[x],_,hne=>exact hne x rfl
   |[],h2,_=>simp at e h2;omega
   |_::_::_,h2,_=>simp at e h2;omega
  rw[dif_neg hlen]
  exact⟨_,_,rfl,.lh (by simpa using h2) (fun i x hx=>by
   obtain⟨v,e,hr⟩:=h3 i x hx
   exact⟨v,by simpa using e,hr⟩),hk⟩
def slots:Nat->List PV->List (Nat×Option Bool×PV)
 |_,[]=>[]
 |i,v::vs=>(i,none,v)::slots (i+1) vs
theorem lV{i:Nat}:∀ {vs:List PV} {t:Nat} {g:Option Bool} {pv:PV},find (slots i vs) t=some (g,pv)->∃ k,t=i+k/\vs[k]?=some pv
 |[],t,g,pv,h=>by cases h
 | v::vs,t,g,pv,h=>by
  by_cases ht:i=t
  ·subst ht;rw[slots,aI] at h;cases h
   exact⟨0,rfl,rfl⟩
  ·rw[slots,aJ _ _ ht] at h;obtain⟨k,h1,h2⟩:=lV (i:=i+1) h
   exact⟨k+1,by omega,by simpa using h2⟩
theorem kN{i:Nat}:∀ {vs:List PV} {t:Nat} {g:Option Bool} {pv:PV},find (slots i vs) t=some (g,pv)->∃ k:Nat,t=i+k/\g=none
 |[],t,g,pv,h=>by cases h
 | v::vs,t,g,pv,h=>by
  by_cases ht:i=t
  ·subst ht;rw[slots,aI] at h;cases h
   exact⟨0,rfl,rfl⟩
  ·rw[slots,aJ _ _ ht] at h;obtain⟨k,h1,h2⟩:=kN (i:=i+1) h
   exact⟨k+1,by omega,h2⟩
theorem mi.at{C:Ctx}:∀ {vs:List PV} {l:List Value} {k:Nat} {pv:PV},mi C vs l->vs[k]?=some pv->∃ v,l[k]?=some v/\RV C pv v
 |[],[],_,_,_,h=>by simp at h
 |[],_::_,_,_,h,_=>h.elim
 |_::_,[],_,_,h,_=>h.elim
 | v::vs,x::l,k,pv,⟨h1,h2⟩,h=>by
  cases k with
  |zero=>
   obtain rfl:v=pv:=by simpa using h
   exact⟨x,rfl,h1⟩
  |succ k=>
   obtain⟨v',h3,h4⟩:=mi.at h2 (by simpa using h:vs[k]?=some pv)
   exact⟨v',by simpa using h3,h4⟩
theorem mi.length{C:Ctx}:∀ {vs:List PV} {l:List Value},mi C vs l->vs.length=l.length
 |[],[],_=>rfl
 |[],_::_,h=>h.elim
 |_::_,[],h=>h.elim
 |_::_,_::_,⟨_,h⟩=>by rw[List.length_cons,List.length_cons,h.length]
def gU(P:Program)(I:World->Prop)(f:Nat)(new:Bool)(args:List PV)(res:PV):Prop:=
 ∀ (w:World) (ok0:Nat->Prop) (vs:List Value),I w->mi { w,ok:=ok0,env:=fun _=>none } args vs ->
  Calls P f vs.toArray w fun e w'=>∃ val,e=.returned val/\Ext w w'/\RV { w:=w',ok:=fun b=>(new=false/\ok0 b)\/w.heap.size<=b,env:=fun _=>none } res val
def cZ(new:Bool):PC->Bool
 |.lit _=>true
 |.bs _ _=>true
 |.sl _ _ _=>!new
 |_=>false
theorem aEq{C:Ctx}{c:PC}{xs:List Value}(h:R C c xs)(hc:cZ false c=true):R C.cold c xs:=by
 cases h<;>first|(cases hc;done)|skip
 ·exact .lit (by assumption)
 ·exact .bs (by assumption)
 ·exact .sl (by assumption) (by assumption) (by assumption)
theorem iP{C:Ctx}:∀ {l:List PC} {xs:List Value},RL C l xs->l.all (cZ false)=true->RL C.cold l xs
 |[],_,h,_=>by cases h;exact .nil
 |c::l,_,h,hc=>by
  rw[List.all_cons,Bool.and_eq_true] at hc
  cases h with
  |cons h1 h2=>exact .cons (aEq h1 hc.1) (iP h2 hc.2)
def Row1(s:St)(new:Bool)(l l':List PC):Prop:=∃ x ah n off len tot e g f f',l=[.ow x ah n off len]/\l'=[.sl n len f']/\find s.o x=some (g,ah,.arr e n tot f)/\gT g/\off+len<=tot/\∀ i,i<len->f (off+i)=f' i/\(f' i).all (cZ new)=true
inductive D_(s:St)(new:Bool):PC->PC->Prop where
 |rows {x ah n off len tot e:Nat} {g:Option Bool} {f f':Nat->List PC} (hf:find s.o x=some (g,ah,.arr e n tot f)) (hg:gT g) (hl:off+len<=tot) (he:∀ i,i<len->(f (off+i)=f' i/\(f' i).all (cZ new)=true)\/Row1 s new (f (off+i)) (f' i)):D_ s new (.ow x ah n off len) (.sl n len f')
 |cold {c:PC} (h:cZ new c=true):D_ s new c c
 |row {x ah n off len tot e:Nat} {g:Option Bool} {f f':Nat->List PC} (hf:find s.o x=some (g,ah,.arr e n tot f)) (hg:gT g) (hl:off+len<=tot) (he:∀ i,i<len->f (off+i)=f' i) (hc:∀ i,i<len->(f' i).all (cZ new)=true):D_ s new (.ow x ah n off len) (.sl n len f')
 |nil {n:Nat} {f:Nat->List PC}:D_ s new (.lit (.slice none 0 0)) (.sl n 0 f)
inductive SE(s:St)(new:Bool):List PC->List PC->Prop where
 |nil:SE s new [] []
 |cons {c c':PC} {l l':List PC} (h:D_ s new c c') (hl:SE s new l l'):SE s new (c::l) (c'::l')
inductive XB(s:St)(new:Bool):PW->PW->Prop where
 |one {c c':PC} (h:D_ s new c c'):XB s new (.one c) (.one c')
 |agg {l l':List PC} (h:SE s new l l'):XB s new (.agg l) (.agg l')
inductive OM(s:St)(new:Bool):List PW->List PW->Prop where
 |nil:OM s new [] []
 |cons {c c':PW} {l l':List PW} (h:XB s new c c') (hl:OM s new l l'):OM s new (c::l) (c'::l')
inductive XC(s:St)(new:Bool):PV->PV->Prop where
 |w {x x':PW} (h:XB s new x x'):XC s new (.w x) (.w x')
 |lh {l l':List PW} (h:OM s new l l'):XC s new (.lh l) (.lh l')
def Bd(A:jk)(s:St)(env:Env):Prop:=∀ x g ah e n len f hd b,find s.o x=some (g,ah,.arr e n len f)->env x=some (ah,hd)->hblk hd=some b->A.S b->False
theorem Bd.Uj{A:jk}{s:St}{env:Env}(h:A.S=Non):Bd A s env:=fun _ _ _ _ _ _ _ _ _ _ _ _ hb=>by rw[h] at hb;exact hb
def nY(w0:World)(ok0:Nat->Prop)(new:Bool):Nat->Prop:=fun b=>(new=false/\ok0 b)\/w0.heap.size<=b
theorem Ls{a:Act}{w:World}{env:Env}(h:dw A s a w env)(hS:Bd A s env){new:Bool}{c c':PC}{xs:List Value}(hx:D_ s new c c')(hr:R (aU A w env) c xs):R { w,ok:=nY A.w0 A.ok0 new,env:=fun _=>none } c' xs:=by
 have qy:∀ {l:List PC} {xs:List Value},RL (aU A w env) l xs->l.all (cZ new)=true->RL { w,ok:=nY A.w0 A.ok0 new,env:=fun _=>none } l xs:=by
  intro l xs h1 h2
  cases new with
  |false=>exact (iP h1 h2).le ⟨Nat.le_refl _,fun b _ hb=>⟨hb.1.elim (fun h=>.inl ⟨rfl,h⟩) .inr,rfl⟩,fun _ _ _ h=>by cases h⟩
  | true=>
   have flat:∀ {l:List PC} {xs:List Value},RL (aU A w env) l xs->l.all (cZ true)=true->RL { w,ok:=nY A.w0 A.ok0 true,env:=fun _=>none } l xs:=by
    intro l
    induction l with
    |nil=>intro xs h _;cases h;exact .nil
    | cons c l ih=>
     intro xs h hc;rw[List.all_cons,Bool.and_eq_true] at hc
     cases h with
     |cons h3 h4=>
      refine .cons ?_ (ih h4 hc.2);have hc1:=hc.1
      cases h3<;>first|exact .lit (by assumption)|exact .bs (by assumption)|(cases hc1;done)
   exact flat h1 h2
 have hrow:∀ {x ah n off len tot e:Nat} {g:Option Bool} {f f':Nat->List PC} {xs:List Value},find s.o x=some (g,ah,.arr e n tot f)->gT g->off+len<=tot->R (aU A w env) (.ow x ah n off len) xs ->
   (∀ i,i<len->∀ ys,RL (aU A w env) (f (off+i)) ys->RL { w,ok:=nY A.w0 A.ok0 new,env:=fun _=>none } (f' i) ys)->R { w,ok:=nY A.w0 A.ok0 new,env:=fun _=>none } (.sl n len f') xs:=by
  intro x ah n off len tot e g f f' xs hf hg hl hr hconv;obtain⟨hd,hev,hob⟩:=jJ h hf hg
  cases hr with
  | ow h1 hat=>
   obtain⟨A0,n0,c0,rfl,hle0,rfl⟩:=hat.now hev;obtain⟨vs,hown,hel⟩:=hob;have hrd:=Reads.ve hown
   have hn0:n0=tot:=by
    obtain⟨_,A1,c1,e1,_⟩:=hrd
    cases e1;rfl
   subst hn0;refine .sl (vs:=(vs.drop (off*n)).take (len*n)) (lM hl hrd) (fun b hb hlt=>?_) (fun i hi=>?_)
   ·cases A0 with
    |none=>simp[Value.ownBlock] at hb
    |some ad=>
     simp only[Option.map_some,Value.ownBlock,Option.some.injEq,oV] at hb;have:=h.live x ah _ b hev (by simp[hblk,hb])
     refine⟨.inr (this.2.resolve_right (fun h4=>hS x g ah e n n0 f _ b hf hev (by simp[hblk,hb]) h4.1)),this.1⟩
   ·rw[jH vs hi];exact (hconv i hi _ (hel _ (by omega))).le ⟨Nat.le_refl _,fun b _ hb=>⟨hb,rfl⟩,fun _ _ _ h=>by cases h⟩
 cases hx with
 |cold hc=>
  have:=(qy (RL.cons hr RL.nil) (by simp[hc])).single
  simpa using this
 |nil=>
  cases hr
  exact .sl (Reads.nil w _) (fun g hg=>by simp[Value.ownBlock] at hg) (fun i hi=>by omega)
 |@row x ah n off len tot e g f f' hf hg hl he hc=>
  refine hrow hf hg hl hr (fun i hi ys hy=>?_);rw[he i hi] at hy
  exact qy hy (hc i hi)
 | @rows x ah n off len tot e g f f' hf hg hl he=>
  refine hrow hf hg hl hr (fun i hi ys hy=>?_);rcases he i hi with⟨h1,h2⟩|⟨x1,v1,n1,o1,l1,t1,e1,g1,f1,f1',h1,h2,h3,h4,h5,h6⟩
  ·rw[h1] at hy;exact qy hy h2
  ·rw[h1] at hy;rw[h2];have hz:ys=ys++[]:=(List.append_nil ys).symm;rw[hz];refine .cons (hrow h3 h4 h5 hy.single (fun k hk zs hzs=>?_)) .nil;rw[(h6 k hk).1] at hzs;exact qy hzs (h6 k hk).2
theorem aNw{a:Act}{w:World}{env:Env}(h:dw A s a w env)(hS:Bd A s env){new:Bool}:∀ {l l':List PC} {xs:List Value},SE s new l l'->RL (aU A w env) l xs->RL { w,ok:=nY A.w0 A.ok0 new,env:=fun _=>none } l' xs
 |[],_,_,hx,hr=>by cases hx;cases hr;exact .nil
 | c::l,_,_,hx,hr=>by
  cases hx with
  |cons h1 h2=>cases hr with
   |cons h3 h4=>exact .cons (Ls h hS h1 h3) (aNw h hS h2 h4)
theorem Lp{a:Act}{w:World}{env:Env}(h:dw A s a w env)(hS:Bd A s env){new:Bool}{x x':PW}{v:Value}(hx:XB s new x x')(hr:RW (aU A w env) x v):RW { w,ok:=nY A.w0 A.ok0 new,env:=fun _=>none } x' v:=by
 cases hx with
 |one h1=>cases hr with|one h2=>exact .one (Ls h hS h1 h2)
 |agg h1=>cases hr with|agg h2=>exact .agg (aNw h hS h1 h2)
theorem OM.at{s:St}{new:Bool}:∀ {l l':List PW} {i:Nat} {x':PW},OM s new l l'->l'[i]?=some x'->∃ x,l[i]?=some x/\XB s new x x'
 |[],_,i,x',h,hi=>by cases h;simp at hi
 | y::l,_,i,x',h,hi=>by
  cases h with
  | @cons _ y' _ l' h1 h2=>
   cases i with
   |zero=>
    obtain rfl:y'=x':=by simpa using hi
    exact⟨y,rfl,h1⟩
   |succ i=>
    obtain⟨x,h3,h4⟩:=OM.at h2 (by simpa using hi:l'[i]?=some x')
    exact⟨x,by simpa using h3,h4⟩
theorem OM.length{s:St}{new:Bool}:∀ {l l':List PW},OM s new l l'->l.length=l'.length
 |[],_,h=>by cases h;rfl
 |_::_,_,h=>by cases h with|cons _ h2=>rw[List.length_cons,List.length_cons,h2.length]
theorem aNv{a:Act}{w:World}{env:Env}(h:dw A s a w env)(hS:Bd A s env){new:Bool}{x x':PV}{v:Value}(hx:XC s new x x')(hr:RV (aU A w env) x v):RV { w,ok:=nY A.w0 A.ok0 new,env:=fun _=>none } x' v:=by
 cases hx with
 |w h1=>cases hr with|w h2=>exact .w (Lp h hS h1 h2)
 | lh h1=>
  cases hr with
  |lh hl h2=>
   refine .lh (by rw[<-h1.length];exact hl) (fun i x' hi=>?_);obtain⟨x,h3,h4⟩:=h1.at hi;obtain⟨v,h5,h6⟩:=h2 i x h3
   exact⟨v,h5,Lp h hS h4 h6⟩
def Ru(P:Program)(fn:Func)(new:Bool)(res:PV)(s:St):Prop:=∃ v,(zx P fn.results).ok none s (fun _ v' wr=>v'=v/\wr=[])/\XC s new v res
theorem aSw{fn:Func}{new:Bool}{res:PV}{out:Out}(h:(zx P fn.results).run none s=some out)(hc:All out.conds)(hw:out.wr=[])(hx:XC s new out.val res):Ru P fn new res s:=
 ⟨out.val,M.ui _ none s out _ h (fun p hp=>hc.mem p hp) ⟨rfl,hw⟩,hx⟩
def ER(p:PC->Bool):PW->Bool
 |.one c=>p c
 |.agg l=>l.all p
def T_(p:PC->Bool):PV->Bool
 |.w x=>ER p x
 |.lh l=>l.all (ER p)
 |.none=>false
theorem dV{s:St}{new:Bool}:∀ {l:List PC},l.all (cZ new)=true->SE s new l l
 |[],_=>.nil
 |c::l,h=>by rw[List.all_cons,Bool.and_eq_true] at h;exact .cons (.cold h.1) (dV h.2)
theorem aTx{s:St}{new:Bool}{x:PW}(h:ER (cZ new) x=true):XB s new x x:=by
 cases x with
 |one c=>exact .one (.cold h)
 |agg l=>exact .agg (dV h)
theorem aTy{s:St}{new:Bool}:∀ {l:List PW},l.all (ER (cZ new))=true->OM s new l l
 |[],_=>.nil
 |c::l,h=>by rw[List.all_cons,Bool.and_eq_true] at h;exact .cons (aTx h.1) (aTy h.2)
theorem Lr{s:St}{new:Bool}{v:PV}(h:T_ (cZ new) v=true):XC s new v v:=by
 cases v with
 |w x=>exact .w (aTx h)
 |lh l=>exact .lh (aTy h)
 |none=>cases h
theorem aC{fn:Func}{new:Bool}{res:PV}{out:Out}(h:(zx P fn.results).exec none s [] [] [] []=some out)(hc:All out.conds)(hw:out.wr=[])(hx:T_ (cZ new) out.val=true)(he:out.val=res):Ru P fn new res s:=by
 rw[yO] at h;subst he;exact aSw h hc hw (Lr hx)
theorem kH{fn:Func}{new:Bool}{res:PV}{out:Out}(h:(zx P fn.results).exec none s [] [] [] []=some out)(hc:All out.conds)(hw:out.wr=[])(hx:XC s new out.val res):Ru P fn new res s:=by
 rw[yO] at h;exact aSw h hc hw hx
def RQ(P:Program)(A:jk)(fn:Func)(new:Bool)(res:PV):Exit->Act->World->Prop
 |.panic chain,a,w=>a.defers=A.ds/\C9 A chain w
 |e,a,w=>(e=.normal\/e=.ret)/\∃ s,Ru P fn new res s/\o6 A s a w
theorem PM(P:Program)(A:jk)(fn:Func)(new:Bool)(res:PV):BK A (RQ P A fn new res):=fun _ _ _ hd h=>⟨hd,h⟩
theorem n_.non(P:Program){d_:List Acc->Prop}:n_ P Dv.non d_:=⟨fun _ _ _ h=>h.elim,fun _ _ _ _ _ h=>h.elim⟩
theorem lw.plain{P:Program}{I:World->Prop}{w:World}{ok0:Nat->Prop}{nt:Nat}(h:∀ w',Ext w w'->I w'):lw P I (jk.plain w ok0 nt):=
 ⟨h,fun _ h=>h,fun _ h=>h.elim,n_.non P,fun _ _ _ h=>h.elim,fun _ _ _ _ _ _ h=>h.elim⟩
theorem bJ{f:Nat}{fn:Func}{c:Code}{new:Bool}{args:List PV}{res:PV}(hf:P.funcs[f]?=some fn)(hb:fn.body=some c)(hnb:Nat.ble args.length fn.ntmps=true)(hI:∀ w w',Ext w w'->I w->I w')
  (hT:∀ A:jk,A.S=Non->A.nt=fn.ntmps->lw P I A->iw P A ⟨slots 0 args,[]⟩ c (RQ P A fn new res)):gU P I f new args res:=by
 intro w ok0 vs Qh hv;have hlen:=hv.length;have hn:=Nat.le_of_ble_eq_true hnb
 have hg:o6 (jk.plain w ok0 fn.ntmps) ⟨slots 0 args,[]⟩ { tmps:=vs.toArray++Array.replicate (fn.ntmps-vs.toArray.size) undef,defers:=[] } w:=by
  refine⟨fun _=>none,{ gm:=dm.refl _ _,size:=?_,dom:=fun x _=>rfl,jf:=fun x g ah o h=>(by cases h),live:=fun x ah hd b h=>(by cases h),inj:=fun x y v1 h1 v2 h2 b h=>(by cases h),tmps:=fun t g pv h hgt=>?_,defers:=rfl,und:=fun t pv h=>(by obtain⟨k,_,h2⟩:=kN h;cases h2),jo:=fun x hd h=>(by cases h),dev:=fun g ah O d_ l h=>(by cases h) }⟩
  ·simp[jk.plain];omega
  ·obtain⟨k,h1,h2⟩:=lV h;obtain⟨v,h3,h4⟩:=hv.at h2;rw[Nat.zero_add] at h1;subst h1;have hk:t<vs.length:=(List.getElem?_eq_some_iff.1 h3).1
   refine⟨v,?_,?_⟩
   ·rw[Array.getElem?_append_left (by simpa using hk)]
    simpa using h3
   ·refine h4.le ⟨Nat.le_refl _,fun b _ hb=>⟨⟨.inl hb,fun _ _ _ h=>by cases h⟩,rfl⟩,fun _ _ _ h=>by cases h⟩
 refine calls_of_wp hf hb (wp_mono (hT (jk.plain w ok0 fn.ntmps) rfl rfl (lw.plain fun w' hc=>hI w w' hc Qh) _ w hg (PM _ _ _ _ _)) (fun e a' w' he=>?_))
 have he':(e=.normal\/e=.ret)/\∃ s,Ru P fn new res s/\o6 (jk.plain w ok0 fn.ntmps) s a' w':=by
  cases e with
  |panic chain=>obtain⟨_,l,hl,_⟩:=he;exact hl.elim
  |_=>exact he
 obtain⟨h1,s,⟨v,h2,h3⟩,h4⟩:=he';obtain⟨env,hE⟩:=h4;obtain⟨v',val,h5,h6,h7,_⟩:=qV hE h2;subst h7;have hres:=aNv hE (.Uj rfl) h3 h6
 have:a'.defers=[]/\∃ v,(results fn a'.tmps).run P w'=.ok v w'/\∃ val,Ending.returned v=.returned val/\Ext w w'/\RV { w:=w',ok:=fun b=>(new=false/\ok0 b)\/w.heap.size<=b,env:=fun _=>none } res val:=
  ⟨hE.defers,val,h5,val,rfl,hE.gm,hres⟩
 rcases h1 with rfl|rfl<;>exact this
end
end Pv
namespace Pv
def vH(kO:List Nat)(s:St)(x ah:Nat):Bool:=match kO.any (Nat.beq x),find s.o x with
 |true,some (_,vr,_)=>Nat.beq ah vr
 |_,_=>false
def Ec(kF:List Nat)(s:St)(x ah n:Nat):Option (Nat->List PC):=match kF.any (Nat.beq x),find s.o x with
 |true,some (none,vr,.arr _ m _ f)=>(match Nat.beq ah vr,Nat.beq n m with
  |true,true=>some f
  |_,_=>none)
 |_,_=>none
mutual
def rv(kF kO:List Nat)(s:St):PC->Option PC
 |.lit v=>some (.lit v)
 |.bs n l=>some (.bs n l)
 |.sl n len f=>some (.sl n len f)
 |.ow x ah n off len=>match vH kO s x ah with|true=>some (.ow x 0 n off len)|false=>(match Ec kF s x ah n with|some f=>some (.sl n len (fun i=>f (off+i)))|none=>none)
 |.ob x ah off len=>match vH kO s x ah with|true=>some (.ob x 0 off len)|false=>none
 |.pt x ah off=>match vH kO s x ah with|true=>some (.pt x 0 off)|false=>none
 |.pk x ah off k=>match vH kO s x ah with|true=>some (.pk x 0 off k)|false=>none
 |.pe x ah n i j=>match vH kO s x ah with|true=>some (.pe x 0 n i j)|false=>none
 |.pf n len f i j=>some (.pf n len f i j)
 |.fn f first cap=>match EQ kF kO s first,EQ kF kO s cap with
  |some a,some b=>some (.fn f a b)
  |_,_=>none
 |.dv=>match vH kO s dx 0 with|true=>some .dv|false=>none
 |.any=>some .any
 |.pa len f=>some (.pa len f)
def EQ(kF kO:List Nat)(s:St):List PC->Option (List PC)
 |[]=>some []
 |c::l=>match rv kF kO s c,EQ kF kO s l with
  |some c',some l'=>some (c'::l')
  |_,_=>none
end
def Ot(kF kO:List Nat)(s:St):PW->Option PW
 |.one c=>match rv kF kO s c with|some c=>some (.one c)|none=>none
 |.agg l=>match EQ kF kO s l with|some l=>some (.agg l)|none=>none
def BQ(kF kO:List Nat)(s:St):List PW->Option (List PW)
 |[]=>some []
 |x::l=>match Ot kF kO s x,BQ kF kO s l with
  |some x,some l=>some (x::l)
  |_,_=>none
def U_(kF kO:List Nat)(s:St):PV->Option PV
 |.w x=>match Ot kF kO s x with|some x=>some (.w x)|none=>none
 |.lh l=>match BQ kF kO s l with|some l=>some (.lh l)|none=>none
 |.none=>some .none
def zU(kF kO:List Nat)(s:St):List Nat->Option (List (Nat×Option Bool×PV))
 |[]=>some []
 |t::l=>match find s.t t,zU kF kO s l with
  |some (g,v),some r=>(match U_ kF kO s v with|some v'=>some ((t,g,v')::r)|none=>none)
  |_,_=>none
def IA(kF kO:List Nat)(s:St):o_->Option (List Prop×o_)
 |.box t l=>match EQ kF kO s l with|some l=>some ([],.box t l)|none=>none
 |.arr e n len f=>some ([∀ i,i<len->(f i).all (cZ false)=true],.arr e n len f)
 |.dead=>some ([],.dead)
 |.dev O d_ l=>some ([],.dev O d_ l)
def Rw(kF kO:List Nat)(s:St):List Nat->Option (List Prop×Wr)
 |[]=>some ([],[])
 |x::l=>match find s.o x,Rw kF kO s l with
  |some (g,_,ob),some (cs,r)=>(match IA kF kO s ob with|some (c,ob')=>some (c++cs,(x,g,0,ob')::r)|none=>none)
  |_,_=>none
def ZE(kO:List Nat)(s:St):Bool:=s.o.all fun p=>match Nat.ble dx p.1 with
 |true=>kO.any (Nat.beq p.1)&&Nat.beq p.2.2.1 0
 |false=>true
def Tf(s:St):List Nat->Option (List Prop)
 |[]=>some []
 |x::l=>match find s.o x,Tf s l with
  |some (_,_,.arr _ _ len f),some cs=>some ((∀ i,i<len->(f i).all (cZ false)=true)::cs)
  |_,_=>none
def aIr(kF kT kO:List Nat)(s:St):Option (List Prop×St):=match zU kF kO s kT,Rw kF kO s kO,ZE kO s,Tf s kF with
 |some t,some (cs,o),true,some cf=>some (cs++cf,⟨t,o⟩)
 |_,_,_,_=>none
def bAb(kT kO:List Nat)(s:St):Option (List Prop×St):=match zU [] kO s kT,Rw [] kO s kO,ZE kO s with
 |some t,some (cs,o),true=>some (cs,⟨t,o⟩)
 |_,_,_=>none
def AU(A:jk)(kF:List Nat)(s:St):Prop:=∀ x,kF.any (Nat.beq x)=true->A.S=Non/\∀ g ah e n len f,find s.o x=some (g,ah,.arr e n len f)->∀ i,i<len->(f i).all (cZ false)=true
theorem AU.nil{A:jk}{s:St}:AU A [] s:=fun x h=>by cases h
theorem aJl{A:jk}(hS:A.S=Non){s:St}:∀ {kF:List Nat} {cs:List Prop},Tf s kF=some cs->All cs->AU A kF s
 |[],_,_,_=>AU.nil
 | y::l,cs,h,hc=>fun x hx=>⟨hS,fun g ah e n len f hf=>by
  unfold Tf at h
  split at h
  ·rename_i h1 h2;cases h;rw[List.any_cons,Bool.or_eq_true] at hx;rcases hx with hx|hx
   ·obtain rfl:x=y:=gq hx
    rw[hf] at h1;cases h1;exact hc.1
   ·exact ((aJl hS h2 hc.2) x hx).2 g ah e n len f hf
  ·cases h⟩
def oh(kO:List Nat)(env:Env):Env:=fun x=>match kO.any (Nat.beq x) with
 |true=>(env x).map fun p=>(0,p.2)
 |false=>none
section
variable {A:jk} {s:St} {a:Act} {w:World} {env:Env} {kF kO:List Nat}
theorem aDn{b:Nat}(h:(aU A w env).ok b):(aU A w (oh kO env)).ok b:=⟨h.1,fun x ah hd he=>by
 have he':oh kO env x=some (ah,hd):=he;unfold oh at he'
 split at he'
 ·cases hx:env x with
  |none=>rw[hx] at he';cases he'
  |some p=>
   obtain⟨v,hd'⟩:=p;rw[hx] at he'
   cases he'
   exact h.2 x v _ hx
 ·cases he'⟩
theorem aOc:(aU A w env).cold.Le (aU A w (oh kO env)):=⟨Nat.le_refl _,fun b _ h=>⟨aDn h,rfl⟩,fun _ _ _ h=>by cases h⟩
theorem uZ:(aU A w env).cold.Le (aU A w (oh kO env)).cold:=⟨Nat.le_refl _,fun b _ h=>⟨aDn (w:=w) (env:=env) (kO:=kO) h,rfl⟩,fun _ _ _ h=>by cases h⟩
theorem ZB(h:dw A s a w env){x ah:Nat}{p:Value->Prop}(hv:vH kO s x ah=true)(ha:At (aU A w env) x ah p):At (aU A w (oh kO env)) x 0 p:=by
 unfold vH at hv
 split at hv
 ·rename_i g vr ob h1 h2;obtain⟨hd,h3,_⟩:=h.jf x g vr ob h2;have hp:=ha.now (hd:=hd) (by rw[gq hv];exact h3)
  refine⟨0,hd,?_,Nat.le_refl _,fun _=>hp⟩
  show oh kO env x=some (0,hd);unfold oh;rw[h1,h3];rfl
 ·cases hv
theorem Vo(h:dw A s a w env)(hF:AU A kF s){x ah n off len:Nat}{f:Nat->List PC}{xs:List Value}(hv:vH kO s x ah=false)(hq:Ec kF s x ah n=some f)(hR:R (aU A w env) (.ow x ah n off len) xs):R (aU A w (oh kO env)) (.sl n len (fun i=>f (off+i))) xs:=by
 unfold Ec at hq
 split at hq
 ·rename_i vr e m tot f0 hk hfo
  split at hq
  ·rename_i hb1 hb2;cases hq
   obtain rfl:=gq hb1
   obtain rfl:=gq hb2
   have hkO:kO.any (Nat.beq x)=false:=by
    unfold vH at hv;rw[hfo] at hv
    cases hk2:kO.any (Nat.beq x) with
    |false=>rfl
    |true=>rw[hk2] at hv;dsimp only at hv;rw[hb1] at hv;cases hv
   obtain⟨hS,qy⟩:=hF x hk;have qy:=qy _ _ _ _ _ _ hfo;obtain⟨hd,hev,hob⟩:=h.jf x none ah _ hfo;have hob:=hob trivial
   cases hR with
   | ow h1 hat=>
    obtain⟨A0,n0,c0,rfl,hle0,rfl⟩:=hat.now hev;obtain⟨vs,hown,hel⟩:=hob;have hrd:=Reads.ve hown
    have hn0:n0=tot:=by
     obtain⟨_,A1,c1,e1,_⟩:=hrd
     cases e1;rfl
    subst hn0;refine .sl (vs:=(vs.drop (off*n)).take (len*n)) (lM hle0 hrd) (fun b hb hlt=>?_) (fun i hi=>?_)
    ·have hbl:hblk (.slice A0 n0 c0)=some b:=by
      cases A0 with
      |none=>simp[Value.ownBlock] at hb
      |some ad=>
       simp only[Option.map_some,Value.ownBlock,Option.some.injEq,oV] at hb;simp[hblk,hb]
     obtain⟨k1,k2⟩:=h.live x ah _ b hev hbl
     refine⟨⟨.inr (k2.resolve_right (fun hs=>by have hs:=hs.1;rw[hS] at hs;exact hs)),fun y vy hy he hyb=>?_⟩,k1⟩
     have he':oh kO env y=some (vy,hy):=he;unfold oh at he'
     split at he'
     ·rename_i hky
      cases hx:env y with
      |none=>rw[hx] at he';cases he'
      |some p=>
       obtain⟨v',hd'⟩:=p;rw[hx] at he'
       cases he'
       have hxy:=h.inj x y ah _ v' _ b hev hx hbl hyb;subst hxy;rw[hkO] at hky;cases hky
     ·cases he'
    ·rw[jH vs hi];exact (iP (hel _ (by omega)) (qy _ (by omega))).le uZ
  ·cases hq
 ·cases hq
mutual
theorem Sl(h:dw A s a w env)(hF:AU A kF s):∀ {c c':PC} {xs:List Value},rv kF kO s c=some c'->R (aU A w env) c xs->R (aU A w (oh kO env)) c' xs
 |.lit v,c',xs,hr,hR=>by
  simp only[rv,Option.some.injEq] at hr;subst hr;cases hR;exact .lit (by assumption)
 |.bs n l,c',xs,hr,hR=>by
  simp only[rv,Option.some.injEq] at hr;subst hr;cases hR;exact .bs (by assumption)
 |.sl n len f,c',xs,hr,hR=>by
  simp only[rv,Option.some.injEq] at hr;subst hr
  cases hR with
  |sl h1 h2 h3=>exact .sl h1 (fun g hg hl=>⟨aDn (h2 g hg hl).1,(h2 g hg hl).2⟩) (fun i hi=>(h3 i hi).le uZ)
 | .ow x ah n off len,c',xs,hr,hR=>by
  unfold rv at hr
  cases hv:vH kO s x ah with
  |true=>
   rw[hv] at hr;cases hr
   cases hR with|ow h1 h2=>exact .ow h1 (ZB h hv h2)
  | false=>
   rw[hv] at hr;dsimp only at hr
   cases hq:Ec kF s x ah n with
   |none=>rw[hq] at hr;cases hr
   |some f=>
    rw[hq] at hr;cases hr
    exact Vo h hF hv hq hR
 |.ob x ah off len,c',xs,hr,hR=>by
  unfold rv at hr
  cases hv:vH kO s x ah<;>rw[hv] at hr<;>cases hr
  cases hR with|ob h1 h2=>exact .ob h1 (ZB h hv h2)
 |.pt x ah off,c',xs,hr,hR=>by
  unfold rv at hr
  cases hv:vH kO s x ah<;>rw[hv] at hr<;>cases hr
  cases hR with|pt h1 h2=>exact .pt h1 (ZB h hv h2)
 |.pk x ah off k,c',xs,hr,hR=>by
  unfold rv at hr
  cases hv:vH kO s x ah<;>rw[hv] at hr<;>cases hr
  cases hR with|pk h1 h2=>exact .pk h1 (ZB h hv h2)
 |.pe x ah n i j,c',xs,hr,hR=>by
  unfold rv at hr
  cases hv:vH kO s x ah<;>rw[hv] at hr<;>cases hr
  cases hR with|pe h1 h2=>exact .pe h1 (ZB h hv h2)
 |.pf n len f i j,c',xs,hr,hR=>by
  simp only[rv,Option.some.injEq] at hr;subst hr
  cases hR with
  |pf h1 h2 h3 h4=>exact .pf h1 ⟨aDn h2.1,h2.2⟩ (fun i hi=>(h3 i hi).le uZ) h4
 |.fn f first cap,c',xs,hr,hR=>by
  unfold rv at hr
  cases h1:EQ kF kO s first<;>cases h2:EQ kF kO s cap<;>simp only[h1,h2] at hr<;>try (cases hr;done)
  cases hr
  cases hR with
  |fn h3 h4=>exact .fn (Z4 h hF h1 h3) (Z4 h hF h2 h4)
 |.dv,c',xs,hr,hR=>by
  unfold rv at hr
  cases hv:vH kO s dx 0<;>rw[hv] at hr<;>cases hr
  cases hR with|dv h1 h2=>exact .dv h1 (ZB h hv h2)
 |.any,c',xs,hr,hR=>by
  simp only[rv,Option.some.injEq] at hr;subst hr;cases hR;exact .any (by assumption)
 |.pa len f,c',xs,hr,hR=>by
  simp only[rv,Option.some.injEq] at hr;subst hr
  cases hR with
  |pa h1 h2 h3 h4=>exact .pa h1 ⟨aDn h2.1,h2.2⟩ (fun i hi=>(h3 i hi).le uZ) h4
theorem Z4(h:dw A s a w env)(hF:AU A kF s):∀ {l l':List PC} {xs:List Value},EQ kF kO s l=some l'->RL (aU A w env) l xs->RL (aU A w (oh kO env)) l' xs
 |[],l',xs,hr,hR=>by
  simp only[EQ,Option.some.injEq] at hr;subst hr;cases hR;exact .nil
 |c::l,l',xs,hr,hR=>by
  unfold EQ at hr
  cases h1:rv kF kO s c<;>cases h2:EQ kF kO s l<;>simp only[h1,h2] at hr<;>try (cases hr;done)
  cases hr
  cases hR with
  |cons h3 h4=>exact .cons (Sl h hF h1 h3) (Z4 h hF h2 h4)
end
theorem I9(h:dw A s a w env)(hF:AU A kF s){x x':PW}{v:Value}(hr:Ot kF kO s x=some x')(hR:RW (aU A w env) x v):RW (aU A w (oh kO env)) x' v:=by
 cases hR with
 |@one c _ h1=>
  unfold Ot at hr
  cases hq:rv kF kO s c<;>simp only[hq] at hr<;>try (cases hr;done)
  cases hr
  exact .one (Sl h hF hq h1)
 |@agg l _ h1=>
  unfold Ot at hr
  cases hq:EQ kF kO s l<;>simp only[hq] at hr<;>try (cases hr;done)
  cases hr;exact .agg (Z4 h hF hq h1)
theorem aZo:∀ {l l':List PW} {i:Nat} {x':PW},BQ kF kO s l=some l'->l'[i]?=some x'->∃ x,l[i]?=some x/\Ot kF kO s x=some x'
 |[],l',i,x',h,hi=>by simp only[BQ,Option.some.injEq] at h;subst h;simp at hi
 | y::l,l',i,x',h,hi=>by
  unfold BQ at h
  cases h1:Ot kF kO s y<;>cases h2:BQ kF kO s l<;>simp only[h1,h2] at h<;>try (cases h;done)
  rename_i y' l2;cases h
  cases i with
  |zero=>
   obtain rfl:y'=x':=by simpa using hi
   exact⟨y,rfl,h1⟩
  |succ i=>
   obtain⟨x,h3,h4⟩:=aZo h2 (by simpa using hi:l2[i]?=some x')
   exact⟨x,by simpa using h3,h4⟩
theorem aSo:∀ {l l':List PW},BQ kF kO s l=some l'->l.length=l'.length
 |[],l',h=>by simp only[BQ,Option.some.injEq] at h;subst h;rfl
 |y::l,l',h=>by
  unfold BQ at h
  cases h1:Ot kF kO s y<;>cases h2:BQ kF kO s l<;>simp only[h1,h2] at h<;>try (cases h;done)
  cases h;rw[List.length_cons,List.length_cons,aSo h2]
theorem I_(h:dw A s a w env)(hF:AU A kF s){x x':PV}{v:Value}(hr:U_ kF kO s x=some x')(hR:RV (aU A w env) x v):RV (aU A w (oh kO env)) x' v:=by
 cases hR with
 |@w x _ h1=>
  unfold U_ at hr
  cases hq:Ot kF kO s x<;>simp only[hq] at hr<;>try (cases hr;done)
  cases hr
  exact .w (I9 h hF hq h1)
 |@lh l _ hl h1=>
  unfold U_ at hr
  cases hq:BQ kF kO s l<;>simp only[hq] at hr<;>try (cases hr;done)
  cases hr;refine .lh (by rw[<-aSo hq];exact hl) (fun i x' hi=>?_);obtain⟨x,h3,h4⟩:=aZo hq hi;obtain⟨v,h5,h6⟩:=h1 i x h3
  exact⟨v,h5,I9 h hF h4 h6⟩
 |none=>
  simp only[U_,Option.some.injEq] at hr;subst hr;exact .none
theorem yI:∀ {kT:List Nat} {l:List (Nat×Option Bool×PV)} {t:Nat} {g:Option Bool} {pv:PV},zU kF kO s kT=some l->find l t=some (g,pv)->∃ v,find s.t t=some (g,v)/\U_ kF kO s v=some pv
 |[],l,t,g,pv,h,hf=>by simp only[zU,Option.some.injEq] at h;subst h;cases hf
 | t0::kT,l,t,g,pv,h,hf=>by
  unfold zU at h
  cases h1:find s.t t0<;>cases h2:zU kF kO s kT<;>simp only[h1,h2] at h<;>try (cases h;done)
  rename_i p r;obtain⟨g0,v0⟩:=p;dsimp only at h
  cases h3:U_ kF kO s v0<;>simp only[h3] at h<;>try (cases h;done)
  cases h
  by_cases ht:t0=t
  ·subst ht;rw[aI] at hf;cases hf
   exact⟨v0,h1,h3⟩
  ·rw[aJ _ _ ht] at hf;exact yI h2 hf
theorem aBr:∀ {l:List Nat} {cs:List Prop} {r:Wr} {x:Nat},Rw kF kO s l=some (cs,r)->(find r x=none->¬(l.any (Nat.beq x)=true))/\∀ g ah ob,find r x=some (g,ah,ob)->ah=0/\l.any (Nat.beq x)=true/\∃ vr Bl c,find s.o x=some (g,vr,Bl)/\IA kF kO s Bl=some (c,ob)/\(All cs->All c)
 |[],cs,r,x,h=>by
  simp only[Rw,Option.some.injEq,Prod.mk.injEq] at h;obtain⟨rfl,rfl⟩:=h
  exact⟨fun _=>by simp,fun g ah ob hf=>by cases hf⟩
 | x0::l,cs,r,x,h=>by
  unfold Rw at h
  cases h1:find s.o x0<;>cases h2:Rw kF kO s l<;>simp only[h1,h2] at h<;>try (cases h;done)
  rename_i p q;obtain⟨g0,vr0,Bl⟩:=p;obtain⟨cs2,r2⟩:=q;dsimp only at h
  cases h3:IA kF kO s Bl<;>simp only[h3] at h<;>try (cases h;done)
  rename_i z;obtain⟨c,ob'⟩:=z;cases h
  have allL:∀ {a b:List Prop},All (a++b)->All a/\All b:=by
   intro a
   induction a with
   |nil=>intro b h;exact⟨trivial,h⟩
   |cons p a ih=>intro b h;exact⟨⟨h.1,(ih h.2).1⟩,(ih h.2).2⟩
  by_cases hx:x0=x
  ·subst hx
   refine⟨fun hf=>(by rw[aI] at hf;cases hf),fun g ah ob hf=>?_⟩
   rw[aI] at hf;cases hf
   exact⟨rfl,by simp,vr0,Bl,c,h1,h3,fun h=>(allL h).1⟩
  ·have ih:=aBr (x:=x) h2
   refine⟨fun hf=>?_,fun g ah ob hf=>?_⟩
   ·rw[aJ _ _ hx] at hf;have:=ih.1 hf;rw[List.any_cons];simp only[Bool.or_eq_true,not_or]
    exact⟨fun e=>hx (gq e).symm,this⟩
   ·rw[aJ _ _ hx] at hf;obtain⟨h4,h5,vr,ob1,c1,h6,h7,h8⟩:=ih.2 g ah ob hf
    exact⟨h4,by rw[List.any_cons,h5,Bool.or_true],vr,ob1,c1,h6,h7,fun h=>h8 (allL h).2⟩
theorem aSp(h:dw A s a w env)(hF:AU A kF s){ob ob':o_}{c:List Prop}{hd:Value}(hr:IA kF kO s ob=some (c,ob'))(hc:All c)(hO:vM (aU A w env) hd ob):vM (aU A w (oh kO env)) hd ob':=by
 cases ob with
 |dead=>simp only[IA,Option.some.injEq,Prod.mk.injEq] at hr;obtain⟨_,rfl⟩:=hr;trivial
 |dev O d_ l=>simp only[IA,Option.some.injEq,Prod.mk.injEq] at hr;obtain⟨_,rfl⟩:=hr;trivial
 |box t l=>
  unfold IA at hr
  cases hq:EQ kF kO s l<;>simp only[hq] at hr<;>try (cases hr;done)
  cases hr;obtain⟨g,cs,rfl,h1,h2⟩:=hO
  exact⟨g,cs,rfl,h1,Z4 h hF hq h2⟩
 |arr e n len f=>
  simp only[IA,Option.some.injEq,Prod.mk.injEq] at hr;obtain⟨rfl,rfl⟩:=hr;obtain⟨vs,h1,h2⟩:=hO
  exact⟨vs,h1,fun i hi=>(iP (h2 i hi) (hc.1 i hi)).le aOc⟩
theorem aBu{α:Type}:∀ {l:List (Nat×α)} {x:Nat} {p:α},find l x=some p->(x,p)∈l
 |(k,y)::l,x,p,h=>by
  by_cases hk:k=x
  ·subst hk;rw[aI] at h;cases h;exact List.mem_cons_self
  ·rw[aJ _ _ hk] at h;exact List.mem_cons_of_mem _ (aBu h)
theorem aKm:∀ {a b:List Prop},All (a++b)->All a/\All b:=by
 intro a
 induction a with
 |nil=>intro b h;exact⟨trivial,h⟩
 |cons p a ih=>intro b h;exact⟨⟨h.1,(ih h.2).1⟩,(ih h.2).2⟩
theorem o6.Dz{kT:List Nat}{cs:List Prop}{s':St}(h:o6 A s a w)(hSF:kF=[]\/A.S=Non)(hr:aIr kF kT kO s=some (cs,s'))(hcA:All cs):o6 A s' a w:=by
 obtain⟨env,h⟩:=h;unfold aIr at hr
 cases h1:zU kF kO s kT<;>cases h2:Rw kF kO s kO<;>cases h3:ZE kO s<;>cases h4:Tf s kF<;>simp only[h1,h2,h3,h4] at hr<;>try (cases hr;done)
 rename_i t q cf;obtain⟨cs',o⟩:=q;cases hr;have hc:All cs':=(aKm hcA).1
 have hF:AU A kF s:=by
  rcases hSF with rfl|hS
  ·exact AU.nil
  ·exact aJl hS h4 (aKm hcA).2
 refine⟨oh kO env,{ gm:=h.gm,size:=h.size,dom:=fun x hx=>?_,jf:=fun x g ah ob hf=>?_,live:=fun x ah hd b he hb=>?_,inj:=fun x y v1 h1 v2 h2 b he1 he2 hb1 hb2=>?_,tmps:=fun t' g pv hf hg=>?_,defers:=h.defers,und:=fun t' pv hf=>(by obtain⟨v,h4,_⟩:=yI h1 hf;exact h.und t' v h4),jo:=fun x hd hx=>?_,dev:=fun g ah O d_ l hf hg=>?_ }⟩
 ·have:=(aBr (x:=x) h2).1 hx;unfold oh
  cases hb:kO.any (Nat.beq x) with
  |true=>exact absurd hb this
  |false=>rfl
 ·obtain⟨rfl,hk,vr,Bl,c,h4,h5,h6⟩:=(aBr (x:=x) h2).2 g ah ob hf;obtain⟨hd,h7,h8⟩:=h.jf x g vr Bl h4
  refine⟨hd,?_,fun hg=>aSp h hF h5 (h6 hc) (h8 hg)⟩
  unfold oh;rw[hk,h7];rfl
 ·unfold oh at he
  split at he
  ·cases hx:env x with
   |none=>rw[hx] at he;cases he
   |some p=>obtain⟨v,hd'⟩:=p;rw[hx] at he;cases he;exact h.live x v _ b hx hb
  ·cases he
 ·unfold oh at he1 he2
  split at he1
  ·split at he2
   ·cases hx:env x with
    |none=>rw[hx] at he1;cases he1
    |some p=>
     cases hy:env y with
     |none=>rw[hy] at he2;cases he2
     |some q=>obtain⟨v,hd'⟩:=p;obtain⟨v2',aLD⟩:=q;rw[hx] at he1;rw[hy] at he2;cases he1;cases he2;exact h.inj x y v _ v2' _ b hx hy hb1 hb2
   ·cases he2
  ·cases he1
 ·obtain⟨v,h4,h5⟩:=yI h1 hf;obtain⟨val,h6,h7⟩:=h.tmps t' g v h4 hg
  exact⟨val,h6,I_ h hF h5 h7⟩
 ·obtain⟨hb,ha⟩:=h.jo x hd hx
  refine⟨hb,?_⟩
  obtain⟨vr,hd',h4,_,h5⟩:=ha;have h4':env x=some (vr,hd'):=h4
  cases hf:find s.o x with
  |none=>rw[h.dom x hf] at h4';cases h4'
  |some p=>
   obtain⟨g,U3,ob⟩:=p;have h6:=List.all_eq_true.1 h3 _ (aBu hf);dsimp only at h6;rw[hb] at h6;rw[Bool.and_eq_true] at h6;obtain⟨hd2,h7,_⟩:=h.jf x g U3 ob hf;rw[h4'] at h7;cases h7
   refine⟨0,hd',?_,Nat.le_refl _,fun _=>h5 (gq h6.2).symm⟩
   show oh kO env x=some (0,hd');unfold oh;rw[h6.1,h4'];rfl
 ·obtain⟨rfl,hk,vr,Bl,c,h4,h5,h6⟩:=(aBr (x:=dx) h2).2 g ah _ hf
  have h7:Bl=.dev O d_ l:=by
   cases Bl<;>simp only[IA] at h5
   ·split at h5<;>cases h5
   ·cases h5
   ·cases h5
   ·cases h5;rfl
  subst h7;obtain⟨h8,h9,h10⟩:=h.dev g vr O d_ l h4 hg
  refine⟨h8,h9,A.dv.grow _ _ _ _ _ h10 (dm.refl _ _) (fun b hb=>.inl ?_)⟩
  rcases hb with hb|⟨y,v2,hd2,h11,h12⟩
  ·exact .inl hb
  ·unfold oh at h11
   split at h11
   ·cases hy:env y with
    |none=>rw[hy] at h11;cases h11
    |some p=>obtain⟨v,hd'⟩:=p;rw[hy] at h11;cases h11;exact .inr ⟨y,v,_,hy,h12⟩
   ·cases h11
theorem o6.reset{kT:List Nat}{cs:List Prop}{s':St}(h:o6 A s a w)(hr:bAb kT kO s=some (cs,s'))(hc:All cs):o6 A s' a w:=by
 refine h.Dz (kF:=[]) (kT:=kT) (kO:=kO) (cs:=cs) (.inl rfl) ?_ hc;unfold bAb at hr;unfold aIr Tf
 cases h1:zU [] kO s kT<;>cases h2:Rw [] kO s kO<;>cases h3:ZE kO s<;>simp only[h1,h2,h3] at hr<;>try (cases hr;done)
 cases hr;simp
inductive BC:o_->o_->Prop where
 |box {t:TypeId} {l l':List PC} (h:l=l'):BC (.box t l) (.box t l')
 |arr {e n len len':Nat} {f f':Nat->List PC} (hl:len=len') (h:∀ i,i<len->f i=f' i):BC (.arr e n len f) (.arr e n len' f')
 |dead {o:o_}:BC o .dead
 |dev {O:List Acc->Option je} {d_:List Acc->Prop} {l l':List Acc} (h:l=l'):BC (.dev O d_ l) (.dev O d_ l')
inductive CO:List (Nat×Option Bool×PV)->List (Nat×Option Bool×PV)->Prop where
 |nil:CO [] []
 |cons {t:Nat} {g:Option Bool} {v v':PV} {l l':List (Nat×Option Bool×PV)} (h:v=v') (hl:CO l l'):CO ((t,g,v)::l) ((t,g,v')::l')
inductive CJ:Wr->Wr->Prop where
 |nil:CJ [] []
 |cons {x ah:Nat} {g:Option Bool} {o o':o_} {l l':Wr} (h:BC o o') (hl:CJ l l'):CJ ((x,g,ah,o)::l) ((x,g,ah,o')::l')
theorem CO.eq{l l':List (Nat×Option Bool×PV)}(h:CO l l'):l=l':=by
 induction h with
 |nil=>rfl
 |cons h _ ih=>rw[h,ih]
theorem CJ.find{l l':Wr}(h:CJ l l')(x:Nat):(find l x=none/\find l' x=none)\/∃ g ah o o',find l x=some (g,ah,o)/\find l' x=some (g,ah,o')/\BC o o':=by
 induction h with
 |nil=>exact .inl ⟨rfl,rfl⟩
 |@cons y ah g o o' l l' h _ ih=>
  by_cases hy:y=x
  ·subst hy;exact .inr ⟨g,ah,o,o',aI _ _ _,aI _ _ _,h⟩
  ·rw[aJ _ _ hy,aJ _ _ hy];exact ih
theorem BC.ok{C:Ctx}{hd:Value}{o o':o_}(h:BC o o')(hO:vM C hd o):vM C hd o':=by
 cases h with
 |box h=>rw[<-h];exact hO
 |arr hl h=>
  subst hl;obtain⟨vs,h1,h2⟩:=hO
  exact⟨vs,h1,fun i hi=>by rw[<-h i hi];exact h2 i hi⟩
 |dead=>trivial
 |dev _=>trivial
theorem o6.same{s':St}(h:o6 A s a w)(hT:CO s.t s'.t)(hO:CJ s.o s'.o):o6 A s' a w:=by
 obtain⟨env,h⟩:=h
 refine⟨env,{ gm:=h.gm,size:=h.size,dom:=fun x hx=>?_,jf:=fun x g ah ob hf=>?_,live:=h.live,inj:=h.inj,tmps:=fun t g pv hf=>?_,defers:=h.defers,und:=fun t pv hf=>(by rw[<-hT.eq] at hf;exact h.und t pv hf),jo:=h.jo,dev:=fun g ah O d_ l hf hg=>?_ }⟩
 ·rcases hO.find x with h1|⟨g,ah,o,o',_,h2,_⟩
  ·exact h.dom x h1.1
  ·rw[h2] at hx;cases hx
 ·rcases hO.find x with h1|⟨g',uh,o,o',h1,h2,h3⟩
  ·rw[h1.2] at hf;cases hf
  ·rw[h2] at hf;cases hf;obtain⟨hd,h4,h5⟩:=h.jf x _ _ o h1
   exact⟨hd,h4,fun hg=>h3.ok (h5 hg)⟩
 ·rw[<-hT.eq] at hf;exact h.tmps t g pv hf
 ·rcases hO.find dx with h1|⟨g',uh,o,o',h1,h2,h3⟩
  ·rw[h1.2] at hf;cases hf
  ·rw[h2] at hf;cases hf
   cases h3 with
   |dev e=>subst e;exact h.dev g ah _ _ _ h1 hg
theorem o6.nilRow{x e n t:Nat}(h:o6 A s a w)(hx:find s.o x=none)(ht:find s.t t=some (none,l9 (.slice none 0 0))):o6 A { t:=(t,none,dh (.ow x 0 n 0 0))::s.t,o:=(x,none,0,.arr e n 0 (fun _=>[]))::s.o } a w:=by
 obtain⟨env,h⟩:=h
 have hfr:fresh s x=0:=by unfold fresh;rw[hx]
 obtain⟨h1,h2⟩:=h.new (w':=w) x none (.slice none 0 0) (.arr e n 0 (fun _=>[])) (Ext.refl w) (fun b hb=>by cases hb) (fun _ _=>⟨[],⟨by simp,.inl ⟨rfl,rfl⟩⟩,fun i hi=>by omega⟩);rw[hfr] at h1 h2
 refine⟨_,{ h1 with tmps:=fun t' g pv hf hg=>?_,und:=fun t' pv hf=>?_ }⟩
 rotate_left 1
 ·by_cases ht':t=t'
  ·subst ht';rw[aI] at hf;cases hf
  ·rw[aJ _ _ ht'] at hf;exact h1.und t' pv hf
 by_cases ht':t=t'
 ·subst ht';rw[aI] at hf;cases hf;obtain⟨v,h3,h4⟩:=h.tmps t none _ ht trivial;have:=h4.dn;subst this
  exact⟨_,h3,.w (.one (.ow ⟨_,_,rfl⟩ ⟨0,_,eH _ _ _ _,Nat.le_refl _,fun _=>⟨none,0,0,rfl,by omega,rfl⟩⟩))⟩
 ·rw[aJ _ _ ht'] at hf;exact h1.tmps t' g pv hf hg
end
theorem RL.Zk{C:Ctx}{c c':PC}{l2:List PC}(hc:∀ ys,R C c ys->R C c' ys):∀ {l1:List PC} {xs:List Value},RL C (l1++c::l2) xs->RL C (l1++c'::l2) xs
 |[],_,h=>by cases h with|cons h1 h2=>exact .cons (hc _ h1) h2
 |_::l1,_,h=>by cases h with|cons h1 h2=>exact .cons h1 (RL.Zk hc (l1:=l1) h2)
theorem o6.CY{A:jk}{s:St}{a:Act}{w:World}{x e n b vr ty:Nat}{l1 l2:List PC}(h:o6 A s a w)(hx:find s.o x=none)(hb:find s.o b=some (none,vr,.box ty (l1++.lit (.slice none 0 0)::l2))) :
  o6 A { t:=s.t,o:=(b,none,vr,.box ty (l1++.ow x 0 n 0 0::l2))::(x,none,0,.arr e n 0 (fun _=>[]))::s.o } a w:=by
 obtain⟨env,h⟩:=h
 have hfr:fresh s x=0:=by unfold fresh;rw[hx]
 obtain⟨h1,h2⟩:=h.new (w':=w) x none (.slice none 0 0) (.arr e n 0 (fun _=>[])) (Ext.refl w) (fun b hb=>by cases hb) (fun _ _=>⟨[],⟨by simp,.inl ⟨rfl,rfl⟩⟩,fun i hi=>by omega⟩);rw[hfr] at h1 h2
 have hxb:x≠b:=fun e=>by subst e;rw[hx] at hb;cases hb
 refine⟨_,{ h1 with dom:=fun x' hf=>?_,jf:=fun x' g ah o hf=>?_,tmps:=fun t' g pv hf hg=>h1.tmps t' g pv hf hg,dev:=fun g ah O d_ l hf hg=>?_ }⟩
 ·by_cases hbx:b=x'
  ·subst hbx;rw[aI] at hf;cases hf
  ·rw[aJ _ _ hbx] at hf;exact h1.dom x' hf
 ·by_cases hbx:b=x'
  ·subst hbx;rw[aI] at hf;cases hf;obtain⟨hd,h3,h4⟩:=h1.jf b none vr _ (show find ((x,none,0,o_.arr e n 0 (fun _=>[]))::s.o) b=_ by rw[aJ _ _ hxb];exact hb)
   refine⟨hd,h3,fun hg=>?_⟩
   obtain⟨g,cs,rfl,h5,h6⟩:=h4 hg
   refine⟨g,cs,rfl,h5,h6.Zk (fun ys hr=>?_)⟩
   cases hr;exact .ow ⟨_,_,rfl⟩ ⟨0,_,eH _ _ _ _,Nat.le_refl _,fun _=>⟨none,0,0,rfl,by omega,rfl⟩⟩
  ·rw[aJ _ _ hbx] at hf;exact h1.jf x' g ah o hf
 ·by_cases hbx:b=dx
  ·subst hbx;rw[aI] at hf;cases hf
  ·rw[aJ _ _ hbx] at hf;exact h1.dev g ah O d_ l hf hg
theorem aUp{k:Nat}{f g f2:Nat->List PC}(h1:∀ i,i<k->f i=f2 i)(h2:g 0=f2 k):∀ i,i<k+1->qh k f g i=f2 i:=fun i hi=>by
 unfold qh
 by_cases h:i<k
 ·rw[if_pos h];exact h1 i h
 ·obtain rfl:i=k:=by omega
  rw[if_neg h,Nat.sub_self];exact h2
theorem bFd{k:Nat}{f g:Nat->List PC}(h1:∀ i,i<k->∀ x∈f i,cZ false x=true)(h2:∀ x∈g 0,cZ false x=true):∀ i,i<k+1->∀ x∈qh k f g i,cZ false x=true:=fun i hi x hx=>by
 unfold qh at hx
 by_cases h:i<k
 ·rw[if_pos h] at hx;exact h1 i h x hx
 ·obtain rfl:i=k:=by omega
  rw[if_neg h,Nat.sub_self] at hx;exact h2 x hx
theorem oQ{c:PC}(h:cZ false c=true):∀ x∈[c],cZ false x=true:=fun x hx=>by
 rw[List.mem_singleton.1 hx];exact h
end Pv
namespace Pv
section
variable {P:Program} {I:World->Prop} {A:jk} {s:St} {a:Act} {w:World} {env:Env} {F:Option Bool->PV->Wr->Prop}
theorem dw.zl(h:dw A s a w env)(nm:Nat)(e n len:Nat){f:Nat->List PC}{v:Value}{xs:List Value}{w':World}(hE:Ext w w')(ho:w'.ownsRow w.heap.size e n v len xs)(hr:∀ C:Ctx,∀ i,i<len->RL C (f i) ((xs.drop (i*n)).take n)) :
  ∃ env',dw A { s with o:=[(nm,none,fresh s nm,.arr e n len f)]++s.o } a w' env'/\RV (aU A w' env') (dh (.ow nm (fresh s nm) n 0 len)) v:=by
 have ho0:w'.ownsRow 0 e n v len xs:=⟨ho.1,ho.2.imp id (fun⟨g,cap,cur,h1,_,h3⟩=>⟨g,cap,cur,h1,Nat.zero_le _,h3⟩)⟩;obtain⟨A0,c0,rfl⟩:=mP ho
 obtain⟨h1,h2⟩:=h.new (w':=w') nm none (.slice A0 len c0) (.arr e n len f) hE (fun b hb=>by
   have hb':(Value.slice A0 len c0).ownBlock=some b:=by cases A0<;>exact hb
   exact⟨(ho.lt b hb').2,(ho.lt b hb').1⟩)
  (fun hle _=>⟨xs,wL ho0,fun i hi=>hr _ i hi⟩)
 refine⟨_,h1,.w (.one (.ow ⟨_,_,rfl⟩ ⟨_,_,eH _ _ _ _,Nat.le_refl _,fun _=>⟨_,_,_,rfl,by omega,?_⟩⟩))⟩
 cases A0 with
 |none=>simp
 |some ad=>simp[Addr.add]
def Qs (c:PC) (k:PC->M):M:=match c with
 |.lit v=>k (.lit v)
 |.bs n l=>k (.bs n l)
 |.sl n len f=>k (.sl n len f)
 | .ow x ah n off len=>.obj x fun g vr ob=>jA g (match Nat.beq ah vr,ob with
  |true,.arr _ m tot f=>(match Nat.beq n m with
   |true=>.need (off+len<=tot/\∀ i,i<len->(f (off+i)).all (cZ false)=true) (k (.sl n len (fun i=>f (off+i))))
   |false=>.fail)
  |_,_=>.fail)
 | .ob x ah off len=>.obj x fun g vr ob=>jA g (match Nat.beq ah vr,ob with
  | true,.box _ l=>(match uq l off with
   |some (m,bs)=>(match Nat.beq len m with
    |true=>k (.sl 1 len (ou bs))
    |false=>.fail)
   |none=>.fail)
  |_,_=>.fail)
 |.any=>k .any
 |_=>.fail
def Vx:List PC->(List PC->M)->M
 |[],k=>k []
 |c::l,k=>Qs c fun c=>Vx l fun l=>k (c::l)
def Vw(v:PV)(k:PV->M):M:=match v with
 |.w (.one c)=>Qs c fun c=>k (.w (.one c))
 |.w (.agg l)=>Vx l fun l=>k (.w (.agg l))
 |_=>.fail
def Ed:List PV->(List PV->M)->M
 |[],k=>k []
 |v::l,k=>Vw v fun v=>Ed l fun l=>k (v::l)
def aOr(w:World):Ctx:={ w,ok:=fun _=>True,env:=fun _=>none }
theorem aOd:(aU A w env).cold.Le (aOr w).cold:=⟨Nat.le_refl _,fun b _ _=>⟨trivial,rfl⟩,fun _ _ _ h=>by cases h⟩
theorem bDl(h:dw A s a w env){c:PC}{xs:List Value}(hr:R (aU A w env) c xs){k:PC->M}(hk:(Qs c k).ok none s F):∃ c',R (aOr w) c' xs/\(k c').ok none s F:=by
 unfold Qs at hk
 split at hk
 ·cases hr;exact⟨_,.lit (by assumption),hk⟩
 ·cases hr;exact⟨_,.bs (by assumption),hk⟩
 ·cases hr with
  |sl h1 h2 h3=>exact⟨_,.sl h1 (fun g hg hl=>⟨trivial,(h2 g hg hl).2⟩) (fun i hi=>(h3 i hi).le aOd),hk⟩
 ·rename_i x ah n off len;obtain⟨g,vr,ob,hfo,hk⟩:=hk;have hk2:=dO hk;clear hk;obtain⟨hg,hk⟩:=hk2;obtain⟨hd,hev,hob⟩:=jJ h hfo hg
  cases hb:Nat.beq ah vr<;>cases ob<;>simp only[hb] at hk<;>try exact hk.elim
  rename_i e m tot f
  obtain rfl:=gq hb
  cases hb4:Nat.beq n m<;>rw[hb4] at hk
  ·exact hk.elim
  obtain rfl:=gq hb4
  obtain⟨⟨hle,qy⟩,hk⟩:=hk
  cases hr with
  | ow h1 hat=>
   obtain⟨A0,n0,c0,rfl,hle0,rfl⟩:=hat.now hev;obtain⟨vs,hown,hel⟩:=hob;have hrd:=Reads.ve hown
   have hn0:n0=tot:=by
    obtain⟨_,A1,c1,e1,_⟩:=hrd
    cases e1;rfl
   subst hn0
   refine⟨_,.sl (vs:=(vs.drop (off*n)).take (len*n)) (lM hle hrd) (fun b hb hlt=>⟨trivial,?_⟩) (fun i hi=>?_),hk⟩
   ·cases A0 with
    |none=>simp[Value.ownBlock] at hb
    |some ad=>
     simp only[Option.map_some,Value.ownBlock,Option.some.injEq,oV] at hb;exact (h.live x ah _ b hev (by simp[hblk,hb])).1
   ·rw[jH vs hi];exact (iP (hel _ (by omega)) (qy i hi)).le aOd
 ·rename_i x ah off len;obtain⟨g,vr,ob,hfo,hk⟩:=hk;have hk2:=dO hk;clear hk;obtain⟨hg,hk⟩:=hk2;obtain⟨hd,hev,hob⟩:=jJ h hfo hg
  cases hb:Nat.beq ah vr<;>cases ob<;>simp only[hb] at hk<;>try exact hk.elim
  rename_i bt l
  obtain rfl:=gq hb
  cases hs:uq l off with
  |none=>rw[hs] at hk;exact hk.elim
  | some q=>
   obtain⟨m,bs⟩:=q;rw[hs] at hk;dsimp only at hk
   cases hb2:Nat.beq len m<;>rw[hb2] at hk
   ·exact hk.elim
   obtain rfl:=gq hb2
   cases hr with
   |ob h1 hat=>
    obtain⟨g1,c,rfl,hc1,hc2,rfl⟩:=hat.now hev;obtain⟨g2,cs,e2,hB,hR⟩:=hob;cases e2;obtain⟨k1,k2,k3⟩:=nR hR hs;have hrg:=iZ hB.range off len;rw[Nat.zero_add,k2] at hrg
    refine⟨_,.sl (vs:=bs.map o7) ⟨by simp[k1],_,c,rfl,hc1,hc2,fun hn=>⟨g1,off,rfl,fun j u hj=>hrg j u hj⟩⟩ (fun b hb _=>⟨trivial,?_⟩) (fun i hi=>mW _ bs i (by omega)),hk⟩
    simp only[Value.ownBlock,Option.some.injEq] at hb;subst hb;exact hB.lt
 ·cases hr;exact⟨_,.any (by assumption),hk⟩
 ·exact hk.elim
theorem bDk(h:dw A s a w env):∀ {l:List PC} {xs:List Value} {k:List PC->M},RL (aU A w env) l xs->(Vx l k).ok none s F->∃ l',RL (aOr w) l' xs/\(k l').ok none s F
 |[],_,k,hr,hk=>by cases hr;exact⟨[],.nil,hk⟩
 | c::l,_,k,hr,hk=>by
  cases hr with
  |cons h1 h2=>
   obtain⟨c',h3,hk2⟩:=bDl h h1 hk;obtain⟨l',h4,hk3⟩:=bDk h h2 hk2
   exact⟨c'::l',.cons h3 h4,hk3⟩
theorem Qr(h:dw A s a w env){v:PV}{val:Value}{k:PV->M}(hr:RV (aU A w env) v val)(hk:(Vw v k).ok none s F):∃ v',RV (aOr w) v' val/\(k v').ok none s F:=by
 unfold Vw at hk
 split at hk
 ·obtain⟨c',h1,h2⟩:=bDl h hr.inv hk
  exact⟨_,.w (.one h1),h2⟩
 ·cases hr with
  | w hr=>cases hr with
   |agg hr=>
    obtain⟨l',h1,h2⟩:=bDk h hr hk
    exact⟨_,.w (.agg h1),h2⟩
 ·exact hk.elim
theorem aJx(h:dw A s a w env):∀ {vs:List PV} {l:List Value} {k:List PV->M},mi (aU A w env) vs l->(Ed vs k).ok none s F->∃ vs',mi (aOr w) vs' l/\(k vs').ok none s F
 |[],[],k,_,hk=>⟨[],trivial,hk⟩
 |[],_::_,_,h,_=>h.elim
 |_::_,[],_,h,_=>h.elim
 |v::vs,x::l,k,⟨h1,h2⟩,hk=>by
  obtain⟨v',h3,hk2⟩:=Qr h h1 hk;obtain⟨vs',h4,hk3⟩:=aJx h h2 hk2
  exact⟨v'::vs',⟨h3,h4⟩,hk3⟩
def rG:PV->Bool
 |.w (.one c)=>cZ false c
 |.w (.agg l)=>l.all (cZ false)
 |_=>false
def bD(new:Bool)(g:List PV->Option (Prop×PV)):Spec:=fun _ xs=>match new with
 |true=>Ed xs fun ys=>(match g ys with
  |some (p,r)=>.need p (.ret r)
  |none=>.fail)
 |false=>(match xs.all rG,g xs with
  |true,some (p,r)=>.need p (.ret r)
  |_,_=>.fail)
theorem aUi{C:Ctx}{v:PV}{x:Value}(h:RV C v x)(hc:rG v=true):RV C.cold v x:=by
 unfold rG at hc
 split at hc
 ·exact .w (.one (aEq h.inv hc))
 ·cases h with
  |w h=>cases h with
   |agg h=>exact .w (.agg (iP h hc))
 ·cases hc
theorem aEp{C:Ctx}:∀ {vs:List PV} {l:List Value},mi C vs l->vs.all rG=true->mi C.cold vs l
 |[],[],_,_=>trivial
 |[],_::_,h,_=>h.elim
 |_::_,[],h,_=>h.elim
 |v::vs,x::l,⟨h1,h2⟩,hc=>by
  rw[List.all_cons,Bool.and_eq_true] at hc
  exact⟨aUi h1 hc.1,aEp h2 hc.2⟩
theorem bAd(h:dw A s a w env){w':World}(_:Ext w w'){new:Bool}:({ w:=w',ok:=fun b=>(new=false/\(aU A w env).ok b)\/w.heap.size<=b,env:=fun _=>none }:Ctx).Le (aU A w' env):=
 ⟨
  Nat.le_refl _,fun b _ hb=>⟨(by
  rcases hb with⟨_,hb⟩|hb
  ·exact hb
  ·exact⟨.inr (Nat.le_trans h.gm.size hb),fun x ah hd he hbl=>by have:=(h.live x ah hd b he hbl).1;omega⟩),rfl⟩,fun _ _ _ h=>by cases h⟩
theorem aZ{f:Nat}{new:Bool}{g:List PV->Option (Prop×PV)}(hent:∀ args w,(callFunc f args).run P w=.ok (.enter f args) w)(hg:∀ xs p r,g xs=some (p,r)->p->gU P I f new xs r):aj P I f (bD new g):=by
 refine⟨hent,fun A s a w env nm ul vs F h hI hv hk=>?_⟩
 unfold bD at hk
 cases new with
 | true=>
  obtain⟨ys,h1,hk⟩:=aJx h hv hk
  cases hq:g ys with
  |none=>rw[hq] at hk;exact hk.elim
  |some q=>
   obtain⟨p,r⟩:=q;rw[hq] at hk;obtain⟨hp,hF⟩:=hk;refine (hg ys p r hq hp w (fun _=>True) vs (hI.mem w h.gm) h1).mono ?_;rintro e w' ⟨val,rfl,hE,hr⟩;refine .inl ⟨r,[],val,env,rfl,hF,h.ext hE,hr.le ⟨Nat.le_refl _,fun b hb hok=>?_,fun _ _ _ h=>by cases h⟩⟩
   exact (bAd (new:=true) h hE).blk b hb (hok.elim (fun h=>by cases h.1) (fun h=>.inr h))
 |false=>
  dsimp only at hk
  cases hc:ul.all rG<;>cases hq:g ul<;>simp only[hc,hq] at hk<;>try exact hk.elim
  rename_i q;obtain⟨p,r⟩:=q;obtain⟨hp,hF⟩:=hk;refine (hg ul p r hq hp w (aU A w env).ok vs (hI.mem w h.gm) (aEp hv hc)).mono ?_;rintro e w' ⟨val,rfl,hE,hr⟩;exact .inl ⟨r,[],val,env,rfl,hF,h.ext hE,hr.le (bAd (new:=false) h hE)⟩
end
end Pv
namespace Pv
theorem bDd{C C':Ctx}:∀ {l:List PC} {xs:List Value},RL C l xs->l.all (cZ true)=true->RL C' l xs
 |[],_,h,_=>by cases h;exact .nil
 | c::l,xs,h,hc=>by
  rw[List.all_cons,Bool.and_eq_true] at hc
  cases h with
  |cons h3 h4=>
   refine .cons ?_ (bDd h4 hc.2);have hc1:=hc.1
   cases h3<;>first|exact .lit (by assumption)|exact .bs (by assumption)|(cases hc1;done)
def Wp(P:Program)(I:World->Prop)(f:Nat)(args:List PV)(e n len:Nat)(f':Nat->List PC):Prop:=
 ∀ (w:World) (ok0:Nat->Prop) (vs:List Value),I w->mi { w,ok:=ok0,env:=fun _=>none } args vs ->
  Calls P f vs.toArray w fun r w'=>∃ val xs,r=.returned val/\Ext w w'/\w'.ownsRow w.heap.size e n val len xs/\∀ (C:Ctx) i,i<len->RL C (f' i) ((xs.drop (i*n)).take n)
def Ns(P:Program)(fn:Func)(e n len:Nat)(f':Nat->List PC)(s:St):Prop:=
 ∃ x ah g f,(zx P fn.results).ok none s (fun _ v' wr=>v'=dh (.ow x ah n 0 len)/\wr=[])/\find s.o x=some (g,ah,.arr e n len f)/\gT g/\∀ i,i<len->f i=f' i/\(f' i).all (cZ true)=true
def RQR(P:Program)(A:jk)(fn:Func)(e n len:Nat)(f':Nat->List PC):Exit->Act->World->Prop
 |.panic chain,a,w=>a.defers=[]/\C9 A chain w
 |x,a,w=>(x=.normal\/x=.ret)/\∃ s,Ns P fn e n len f' s/\o6 A s a w
theorem aSs{P:Program}{fn:Func}{e n len x ah:Nat}{g:Option Bool}{f f':Nat->List PC}{s:St}{out:Out}(h:(zx P fn.results).exec none s [] [] [] []=some out)(hc:All out.conds)(hw:out.wr=[])(hx:out.val=dh (.ow x ah n 0 len))(hf:find s.o x=some (g,ah,.arr e n len f))(hg:gT g)(QZ:∀ i,i<len->f i=f' i/\(f' i).all (cZ true)=true):Ns P fn e n len f' s:=by
 rw[yO] at h
 exact⟨x,ah,g,f,M.ui _ none s out _ h (fun p hp=>hc.mem p hp) ⟨hx,hw⟩,hf,hg,QZ⟩
theorem aNn{P:Program}{I:World->Prop}{f:Nat}{fn:Func}{c:Code}{args:List PV}{e n len:Nat}{f':Nat->List PC}(hf:P.funcs[f]?=some fn)(hb:fn.body=some c)(hnb:Nat.ble args.length fn.ntmps=true)(hI:∀ w w',Ext w w'->I w->I w')
  (hT:∀ A:jk,A.S=Non->A.nt=fn.ntmps->lw P I A->iw P A ⟨slots 0 args,[]⟩ c (RQR P A fn e n len f')) (hmk:Nat.blt e F8=true:=by rfl):Wp P I f args e n len f':=by
 intro w ok0 vs Qh hv;have hn:=Nat.le_of_ble_eq_true hnb;have hlen:=hv.length
 have hg:o6 (jk.plain w ok0 fn.ntmps) ⟨slots 0 args,[]⟩ { tmps:=vs.toArray++Array.replicate (fn.ntmps-vs.toArray.size) undef,defers:=[] } w:=by
  refine⟨fun _=>none,{ gm:=dm.refl _ _,size:=?_,dom:=fun x _=>rfl,jf:=fun x g ah o h=>(by cases h),live:=fun x ah hd b h=>(by cases h),inj:=fun x y v1 h1 v2 h2 b h=>(by cases h),tmps:=fun t g pv h hgt=>?_,defers:=rfl,und:=fun t pv h=>(by obtain⟨k,_,h2⟩:=kN h;cases h2),jo:=fun x hd h=>(by cases h),dev:=fun g ah O d_ l h=>(by cases h) }⟩
  ·simp[jk.plain];omega
  ·obtain⟨k,h1,h2⟩:=lV h;obtain⟨v,h3,h4⟩:=hv.at h2;rw[Nat.zero_add] at h1;subst h1;have hk:t<vs.length:=(List.getElem?_eq_some_iff.1 h3).1
   refine⟨v,?_,?_⟩
   ·rw[Array.getElem?_append_left (by simpa using hk)]
    simpa using h3
   ·refine h4.le ⟨Nat.le_refl _,fun b _ hb=>⟨⟨.inl hb,fun _ _ _ h=>by cases h⟩,rfl⟩,fun _ _ _ h=>by cases h⟩
 refine calls_of_wp hf hb (wp_mono (hT (jk.plain w ok0 fn.ntmps) rfl rfl (lw.plain fun w' hc=>hI w w' hc Qh) _ w hg (fun _ _ _ hd h=>⟨hd,h⟩)) (fun x a' w' he=>?_))
 have he':(x=.normal\/x=.ret)/\∃ s,Ns P fn e n len f' s/\o6 (jk.plain w ok0 fn.ntmps) s a' w':=by
  cases x with
  |panic chain=>obtain⟨_,l,hl,_⟩:=he;exact hl.elim
  |_=>exact he
 obtain⟨h1,s,⟨x0,ah,g,f0,h2,hfo,hgt,QZ⟩,h4⟩:=he';obtain⟨env,hE⟩:=h4;obtain⟨v',val,h5,h6,h7,_⟩:=qV hE h2;subst h7;obtain⟨hd,hev,hob⟩:=jJ hE hfo hgt;obtain⟨A0,n0,c0,rfl,hle0,rfl⟩:=h6.y9 hev;obtain⟨xs,hown,hel⟩:=hob
 have hn0:n0=len:=by
  obtain⟨_,A1,c1,e1,_⟩:=Reads.ve hown
  cases e1;rfl
 have hown:=hown.plain hmk;subst hn0
 have hA:A0.map (fun p=>p.add (0*n))=A0:=by
  cases A0 with
  |none=>rfl
  |some ad=>simp[Addr.add]
 have hown2:w'.ownsRow w.heap.size e n (.slice A0 n0 c0) n0 xs:=⟨hown.1,hown.2.imp id (fun⟨g,cap,cur,h1,_,h3⟩=>⟨g,cap,cur,h1,by
  have:=(hE.live x0 ah _ g hev (by rw[h1];rfl)).2
  exact this.resolve_right (fun h=>h.1),h3⟩)⟩
 have this:a'.defers=[]/\∃ v,(results fn a'.tmps).run P w'=.ok v w'/\∃ val xs,Ending.returned v=.returned val/\Ext w w'/\w'.ownsRow w.heap.size e n val n0 xs/\∀ (C:Ctx) i,i<n0->RL C (f' i) ((xs.drop (i*n)).take n):=by
  refine⟨hE.defers,_,h5,_,xs,rfl,hE.gm,?_,fun C i hi=>?_⟩
  ·first|exact hown2|(simp only[Nat.zero_mul,Nat.sub_zero] at hA ⊢;rw[hA];exact hown2)
  ·have h8:=hel i hi;rw[(QZ i hi).1] at h8;exact bDd h8 (QZ i hi).2
 rcases h1 with rfl|rfl<;>exact this
def aIn(g:List PV->Option (Prop×Nat×Nat×Nat×(Nat->List PC))):Spec:=fun nm xs=>Ed xs fun ys=>match g ys with
 |some (p,e,n,len,f)=>.need p (.new nm (.arr e n len f) fun v=>.ret (dh (.ow nm v n 0 len)))
 |none=>.fail
theorem aGk{P:Program}{I:World->Prop}{f:Nat}{g:List PV->Option (Prop×Nat×Nat×Nat×(Nat->List PC))}(hent:∀ args w,(callFunc f args).run P w=.ok (.enter f args) w)(hg:∀ xs p e n len f',g xs=some (p,e,n,len,f')->p->Wp P I f xs e n len f'):aj P I f (aIn g):=by
 refine⟨hent,fun A s a w env nm ul vs F h hI hv hk=>?_⟩
 unfold aIn at hk;obtain⟨ys,h1,hk⟩:=aJx h hv hk
 cases hq:g ys with
 |none=>rw[hq] at hk;exact hk.elim
 |some q=>
  obtain⟨p,e,n,len,f'⟩:=q;rw[hq] at hk;obtain⟨hp,hk⟩:=hk;refine (hg ys p e n len f' hq hp w (fun _=>True) vs (hI.mem w h.gm) h1).mono ?_;rintro r w' ⟨val,xs,rfl,hE,ho,hr⟩;obtain⟨env',h3,h4⟩:=h.zl nm e n len (f:=f') hE ho hr;exact .inl ⟨_,_,_,env',rfl,hk,h3,h4⟩
@[simp] theorem YV(b:Bool):Ir true b=b:=rfl
@[simp] theorem Ua(b:Bool):Ir false b=!b:=rfl
@[simp] theorem aDK:All []=True:=rfl
@[simp] theorem Yl(p:Prop)(l:List Prop):All (p::l)=(p/\All l):=rfl
@[simp] theorem aFP(p:Prop):hP none p=p:=rfl
@[simp] theorem aFO(b:Bool)(p:Prop):hP (some b) p=(b=true->p):=rfl
structure Ob where
 x:Nat
 t:TypeId
 l:List PC
 l':List PC
def yL(os:List Ob)(x:Nat):Bool:=os.any fun o=>Nat.beq o.x x
theorem iD{os:List Ob}{x:Nat}(h:yL os x=true):∃ o∈os,o.x=x:=by
 obtain⟨o,h1,h2⟩:=List.any_eq_true.1 h
 exact⟨o,h1,gq h2⟩
theorem tX{os:List Ob}{o:Ob}(h:o∈os):yL os o.x=true:=List.any_eq_true.2 ⟨o,h,Nat.beq_refl _⟩
def mr(os:List Ob)(bl:Nat->Nat)(dev:Option (List Acc×List Acc))(hd:Value):Nat->Option Value:=fun x=>match yL os x,dev,Nat.beq x dx with
 |true,_,_=>some (gY (bl x))
 |false,some _,true=>some hd
 |false,_,_=>none
def o5(os:List Ob)(bl:Nat->Nat)(dev:Option (List Acc×List Acc))(hd:Value):Env:=fun x=>(mr os bl dev hd x).map fun h=>(0,h)
def SX(os:List Ob)(bl:Nat->Nat)(D:Dv):Nat->Prop:=fun b=>D.S b\/∃ o∈os,b=bl o.x
def v_(P:Program)(I:World->Prop)(f:Nat)(new:Bool)(os:List Ob)(O:List Acc->Option je)(dev:Option (List Acc×List Acc))(d_:List Acc->Prop)(args:List PV)(res:PV):Prop:=
 ∀ (w:World) (ok0:Nat->Prop) (vs:List Value) (bl:Nat->Nat) (D:Dv) (X0:Nat->Prop),
  (∀ w',dm (SX os bl D) w w'->I w')->(∀ b,SX os bl D b->b<w.heap.size/\¬ok0 b)->n_ P D d_->(∀ l X Y w w' chain,D.pan l X w chain->dm X w w'->(∀ b,Y b->X b)->D.pan l Y w' chain)->D.O=O ->
  (∀ p,dev=some p->D.inv p.1 X0 w)->(dev=none->(∀ b,¬D.S b)/\∀ l X w,¬D.inv l X w) ->
  (∀ o∈os,X0 (bl o.x)/\∃ cs,au w (bl o.x) o.t cs/\RL { w,ok:=ok0,env:=fun _=>none } o.l cs.toList)->(∀ o∈os,∀ o'∈os,bl o.x=bl o'.x->o.x=o'.x) ->
  mi { w,ok:=ok0,env:=o5 os bl dev D.hd } args vs ->
  Calls P f vs.toArray w fun e w'=>dm (SX os bl D) w w' /\
   ((∃ val,e=.returned val/\RV { w:=w',ok:=nY w ok0 new,env:=fun _=>none } res val/\(∀ o∈os,∃ cs,au w' (bl o.x) o.t cs/\RL { w:=w',ok:=nY w ok0 new,env:=fun _=>none } o.l' cs.toList)/\(∀ p,dev=some p->D.inv p.2 X0 w'))
   \/ (∃ chain l,e=.panicked chain/\d_ l/\O l=none/\D.pan l X0 w' chain))
def aSM(new:Bool)(os:List Ob)(O:List Acc->Option je)(dev:Option (List Acc×List Acc))(d_:List Acc->Prop)(s:St):Prop:=
 (∀ o∈os,∃ l,find s.o o.x=some (none,0,.box o.t l)/\SE s new l o.l')/\(∀ p,dev=some p->find s.o dx=some (none,0,.dev O d_ p.2))
def RQX(P:Program)(A:jk)(fn:Func)(new:Bool)(os:List Ob)(O:List Acc->Option je)(dev:Option (List Acc×List Acc))(d_:List Acc->Prop)(res:PV):Exit->Act->World->Prop
 |.panic chain,a,w=>a.defers=[]/\C9 A chain w
 |e,a,w=>(e=.normal\/e=.ret)/\∃ s,(Ru P fn new res s/\aSM new os O dev d_ s)/\o6 A s a w
def Fj(os:List Ob)(O:List Acc->Option je)(dev:Option (List Acc×List Acc))(d_:List Acc->Prop):Wr:=match dev with
 |some p=>(dx,none,0,.dev O d_ p.1)::os.map (fun o=>(o.x,none,0,.box o.t o.l))
 |none=>os.map (fun o=>(o.x,none,0,.box o.t o.l))
theorem aBt{os:List Ob}{x:Nat}{p:Option Bool×Nat×o_}:find (os.map (fun o=>(o.x,none,0,o_.box o.t o.l))) x=some p->∃ o∈os,o.x=x/\p=(none,0,.box o.t o.l):=by
 intro h;obtain⟨o,h1,h2⟩:=List.mem_map.1 (aBu h);cases h2
 exact⟨o,h1,rfl,rfl⟩
theorem nM{os:List Ob}{x:Nat}(h:find (os.map (fun o=>(o.x,(none:Option Bool),0,o_.box o.t o.l))) x=none):yL os x=false:=by
 induction os with
 |nil=>rfl
 | cons o os ih=>
  by_cases hx:o.x=x
  ·rw[List.map_cons,<-hx,aI] at h;cases h
  ·rw[List.map_cons,aJ _ _ hx] at h
   have hb:Nat.beq o.x x=false:=by
    cases hb:Nat.beq o.x x with
    |false=>rfl
    |true=>exact absurd (gq hb) hx
   have:=ih h;unfold yL at this ⊢;rw[List.any_cons,hb,Bool.false_or];exact this
theorem gG{g b:Nat}(h:hblk (gY g)=some b):b=g:=by cases h;rfl
theorem jU{P:Program}{I:World->Prop}{f:Nat}{fn:Func}{c:Code}{new:Bool}{os:List Ob}{O:List Acc->Option je}{dev:Option (List Acc×List Acc)}{d_:List Acc->Prop}{args:List PV}{res:PV}(hf:P.funcs[f]?=some fn)(hb:fn.body=some c)(hnb:Nat.ble args.length fn.ntmps=true)
  (hos:(os.all fun o=>Nat.blt dx o.x)=true)
  (hT:∀ A:jk,A.nt=fn.ntmps->lw P I A->iw P A ⟨slots 0 args,Fj os O dev d_⟩ c (RQX P A fn new os O dev d_ res)):v_ P I f new os O dev d_ args res:=by
 intro w ok0 vs bl D X0 hM hold hst AV hO hdv hnd hob hinj hv;have hlen:=hv.length;have hn:=Nat.le_of_ble_eq_true hnb
 have hgt:∀ o∈os,dx<o.x:=fun o ho=>by
  have:=List.all_eq_true.1 hos o ho
  have h3:dx+1<=o.x:=by simpa[Nat.blt] using this
  exact h3
 have EE:yL os dx=false:=by
  cases h:yL os dx with
  |false=>rfl
  |true=>
   obtain⟨o,h1,h2⟩:=iD h;have:=hgt o h1;omega
 subst hO
 let A:jk:=⟨w,SX os bl D,ok0,fn.ntmps,mr os bl dev D.hd,D,d_,X0,[]⟩
 have hext:∀ x hd,mr os bl dev D.hd x=some hd->(yL os x=true/\hd=gY (bl x))\/(x=dx/\hd=D.hd/\dev.isSome=true):=by
  intro x hd h;unfold mr at h
  split at h
  ·rename_i h1;cases h;exact .inl ⟨h1,rfl⟩
  ·rename_i h1 h2 h3;cases h;exact .inr ⟨gq h3,rfl,rfl⟩
  ·cases h
 have hA:lw P I A:=⟨hM,fun b h=>.inl h,hold,hst,fun l X w' hi=>by
  cases hd:dev with
  |none=>exact ((hnd hd).2 l X w' hi).elim
  |some p=>show mr os bl dev D.hd dx=_;unfold mr;rw[EE,hd];rfl,AV⟩
 have hown:∀ b,ownB A (o5 os bl dev D.hd) b->X0 b:=by
  rintro b (h|⟨x,ah,hd,h1,h2⟩)
  ·exact h
  ·unfold o5 at h1
   cases hx:mr os bl dev D.hd x with
   |none=>rw[hx] at h1;cases h1
   | some h=>
    rw[hx] at h1;cases h1;rcases hext x _ hx with⟨h3,rfl⟩|⟨_,rfl,_⟩
    ·obtain⟨o,h4,rfl⟩:=iD h3;rw[gG h2];exact (hob o h4).1
    ·rw[D.oz] at h2;cases h2
 have hhead:∀ x p,find (Fj os D.O dev d_) x=some p->(∃ o∈os,o.x=x/\p=(none,0,.box o.t o.l))\/(x=dx/\∃ q,dev=some q/\p=(none,0,.dev D.O d_ q.1)):=by
  intro x p h;unfold Fj at h
  cases hd:dev with
  |none=>rw[hd] at h;exact .inl (aBt h)
  |some q=>
   rw[hd] at h
   by_cases hx:dx=x
   ·subst hx;rw[aI] at h;cases h;exact .inr ⟨rfl,q,rfl,rfl⟩
   ·rw[aJ _ _ hx] at h;exact .inl (aBt h)
 have henv:∀ o∈os,o5 os bl dev D.hd o.x=some (0,gY (bl o.x)):=fun o ho=>by
  unfold o5 mr;rw[tX ho];rfl
 have hle0:∀ {pv:PV} {v:Value},RV { w,ok:=ok0,env:=o5 os bl dev D.hd } pv v->RV (aU A w (o5 os bl dev D.hd)) pv v:=fun h=>h.le ⟨Nat.le_refl _,fun b hlt ho=>⟨⟨.inl ho,fun x ah hd hx hb=>by
   unfold o5 at hx
   cases hx2:mr os bl dev D.hd x with
   |none=>rw[hx2] at hx;cases hx
   | some h=>
    rw[hx2] at hx;cases hx;rcases hext x _ hx2 with⟨h3,rfl⟩|⟨_,rfl,_⟩
    ·obtain⟨o,h4,rfl⟩:=iD h3;have:=gG hb;subst this;exact (hold _ (.inr ⟨o,h4,rfl⟩)).2 ho
    ·rw[D.oz] at hb;cases hb⟩,rfl⟩,fun x ah hd h=>⟨ah,hd,h,Nat.le_refl _,fun _=>rfl⟩⟩
 have hg:o6 A ⟨slots 0 args,Fj os D.O dev d_⟩ { tmps:=vs.toArray++Array.replicate (fn.ntmps-vs.toArray.size) undef,defers:=[] } w:=by
  refine⟨o5 os bl dev D.hd,{ gm:=dm.refl _ _,size:=?_,dom:=fun x hx=>?_,jf:=fun x g ah o h=>?_,live:=fun x ah hd b h hb=>?_,inj:=fun x y v1 h1 v2 h2 b hx hy hb1 hb2=>?_,tmps:=fun t g pv h hgt=>?_,defers:=rfl,und:=fun t pv h=>(by obtain⟨k,_,h2⟩:=kN h;cases h2),jo:=fun x hd hx=>?_,dev:=fun g ah O CQ l h _=>?_ }⟩
  ·simp[A];omega
  ·unfold o5 mr
   have h1:yL os x=false:=by
    unfold Fj at hx
    cases hd:dev with
    |none=>rw[hd] at hx;exact nM hx
    |some q=>
     rw[hd] at hx
     by_cases TT:dx=x
     ·subst TT;exact EE
     ·rw[aJ _ _ TT] at hx;exact nM hx
   rw[h1]
   cases hd:dev with
   |none=>rfl
   | some q=>
    have:Nat.beq x dx=false:=by
     cases hb:Nat.beq x dx with
     |false=>rfl
     |true=>
      obtain rfl:=gq hb
      unfold Fj at hx;rw[hd,aI] at hx;cases hx
    rw[this];rfl
  ·rcases hhead x _ h with⟨ob,h1,rfl,h2⟩|⟨rfl,q,h1,h2⟩
   ·cases h2;obtain⟨_,cs,h3,h4⟩:=hob ob h1
    refine⟨gY (bl ob.x),henv ob h1,fun _=>⟨_,cs,rfl,h3,?_⟩⟩
    refine h4.le ⟨Nat.le_refl _,fun b hlt hok=>⟨⟨.inl hok,fun x ah hd hx hb=>?_⟩,rfl⟩,fun _ _ _ h=>by cases h⟩;have hx':o5 os bl dev D.hd x=some (ah,hd):=hx;unfold o5 at hx'
    cases hx2:mr os bl dev D.hd x with
    |none=>rw[hx2] at hx';cases hx'
    | some h=>
     rw[hx2] at hx'
     cases hx'
     rcases hext x _ hx2 with⟨h5,rfl⟩|⟨_,rfl,_⟩
     ·obtain⟨o,h6,rfl⟩:=iD h5;have:=gG hb;subst this;exact (hold _ (.inr ⟨o,h6,rfl⟩)).2 hok
     ·rw[D.oz] at hb;cases hb
   ·cases h2
    refine⟨D.hd,?_,fun _=>trivial⟩
    unfold o5 mr;rw[EE,h1];rfl
  ·unfold o5 at h
   cases hx2:mr os bl dev D.hd x with
   |none=>rw[hx2] at h;cases h
   | some h'=>
    rw[hx2] at h;cases h;rcases hext x _ hx2 with⟨h3,rfl⟩|⟨_,rfl,_⟩
    ·obtain⟨o,h4,rfl⟩:=iD h3;have:=gG hb;subst this
     exact⟨(hold _ (.inr ⟨o,h4,rfl⟩)).1,.inr ⟨.inr ⟨o,h4,rfl⟩,Nat.ble_eq_true_of_le (Nat.le_of_lt (hgt o h4))⟩⟩
    ·rw[D.oz] at hb;cases hb
  ·unfold o5 at hx hy
   cases hx2:mr os bl dev D.hd x with
   |none=>rw[hx2] at hx;cases hx
   | some hx3=>
    cases hy2:mr os bl dev D.hd y with
    |none=>rw[hy2] at hy;cases hy
    | some hy3=>
     rw[hx2] at hx;rw[hy2] at hy;cases hx;cases hy;rcases hext x _ hx2 with⟨h3,rfl⟩|⟨_,rfl,_⟩
     ·rcases hext y _ hy2 with⟨h4,rfl⟩|⟨_,rfl,_⟩
      ·obtain⟨o,h5,rfl⟩:=iD h3;obtain⟨o',h6,rfl⟩:=iD h4;refine hinj o h5 o' h6 ?_;rw[<-gG hb1,<-gG hb2]
      ·rw[D.oz] at hb2;cases hb2
     ·rw[D.oz] at hb1;cases hb1
  ·obtain⟨k,h1,h2⟩:=lV h;obtain⟨v,h3,h4⟩:=hv.at h2;rw[Nat.zero_add] at h1;subst h1;have hk:t<vs.length:=(List.getElem?_eq_some_iff.1 h3).1
   refine⟨v,?_,hle0 h4⟩
   rw[Array.getElem?_append_left (by simpa using hk)]
   simpa using h3
  ·refine⟨?_,0,hd,?_,Nat.le_refl _,fun _=>rfl⟩
   ·rcases hext x hd hx with⟨h3,_⟩|⟨rfl,_,_⟩
    ·obtain⟨o,h4,rfl⟩:=iD h3;exact Nat.ble_eq_true_of_le (Nat.le_of_lt (hgt o h4))
    ·exact Nat.ble_eq_true_of_le (Nat.le_refl _)
   ·show o5 os bl dev D.hd x=some (0,hd);unfold o5;have:mr os bl dev D.hd x=some hd:=hx;rw[this];rfl
  ·rcases hhead dx _ h with⟨ob,h1,h2,_⟩|⟨_,q,h1,h2⟩
   ·have:=hgt ob h1;omega
   ·cases h2
    exact⟨rfl,rfl,D.grow _ _ _ _ _ (hdv q h1) (dm.refl _ _) (fun b hb=>.inl (hown b hb))⟩
 refine calls_of_wp hf hb (wp_mono (hT A rfl hA _ w hg (fun _ _ _ hd h=>⟨hd,h⟩)) (fun e a' w' he=>?_))
 cases e with
 |panic chain=>
  obtain⟨hd,l,h1,h2,h3,h4⟩:=he
  exact⟨hd,h4,.inr ⟨chain,l,rfl,h1,h2,h3⟩⟩
 |exit id=>obtain⟨h1|h1,_⟩:=he<;>cases h1
 |goto _=>obtain⟨h1|h1,_⟩:=he<;>cases h1
 |outgrown=>obtain⟨h1|h1,_⟩:=he<;>cases h1
 | normal|ret=>
  obtain⟨_,s,⟨⟨v,h2,h3⟩,hE1,hE2⟩,env,hE⟩:=he;obtain⟨v',val,h5,h6,h7,_⟩:=qV hE h2;subst h7
  have hbox:∀ o∈os,env o.x=some (0,gY (bl o.x)):=fun o ho=>by
   obtain⟨l,hf',_⟩:=hE1 o ho;obtain⟨hd,h8,_⟩:=hE.jf o.x none 0 _ hf'
   have h9:mr os bl dev D.hd o.x=some (gY (bl o.x)):=by unfold mr;rw[tX ho]
   have:=(hE.jo o.x _ h9).2.now h8;rw[h8,this]
  have hS:Bd A s env:=by
   intro x g ah e n len f0 hd b hfx hex hbx hs;rcases hs with hs|⟨o,ho,rfl⟩
   ·cases hd2:dev with
    |none=>exact (hnd hd2).1 b hs
    |some q=>
     obtain⟨_,_,hi⟩:=hE.dev none 0 _ _ _ (hE2 q hd2) trivial;exact D.notS _ _ _ _ hi (.inr ⟨x,ah,hd,hex,hbx⟩) hs
   ·obtain⟨l,hf',_⟩:=hE1 o ho;have:=hE.inj x o.x ah hd 0 _ (bl o.x) hex (hbox o ho) hbx rfl;subst this;rw[hf'] at hfx;cases hfx
  have hres:=aNv hE hS h3 h6
  have this:a'.defers=[]/\∃ v,(results fn a'.tmps).run P w'=.ok v w'/\(dm (SX os bl D) w w' /\
   ((∃ val,Ending.returned v=.returned val/\RV { w:=w',ok:=nY w ok0 new,env:=fun _=>none } res val/\(∀ o∈os,∃ cs,au w' (bl o.x) o.t cs/\RL { w:=w',ok:=nY w ok0 new,env:=fun _=>none } o.l' cs.toList)/\(∀ p,dev=some p->D.inv p.2 X0 w'))
   \/ (∃ chain l,Ending.returned v=.panicked chain/\d_ l/\D.O l=none/\D.pan l X0 w' chain))):=by
   refine⟨hE.defers,val,h5,hE.gm,.inl ⟨val,rfl,hres,fun o ho=>?_,fun p hp=>?_⟩⟩
   ·obtain⟨l,hf',hx⟩:=hE1 o ho;obtain⟨hd,h8,h9⟩:=hE.jf o.x none 0 _ hf';obtain⟨g,cs,e1,h10,h11⟩:=h9 trivial;rw[hbox o ho] at h8;cases h8;cases e1
    exact⟨cs,h10,aNw hE hS hx h11⟩
   ·obtain⟨_,_,hi⟩:=hE.dev none 0 _ _ _ (hE2 p hp) trivial;exact D.grow _ _ _ _ _ hi (dm.refl _ _) (fun b hb=>.inl (.inl hb))
  exact this
end Pv
end Go.Proofs.YtndpjopifkbgiaaGreatDoor
