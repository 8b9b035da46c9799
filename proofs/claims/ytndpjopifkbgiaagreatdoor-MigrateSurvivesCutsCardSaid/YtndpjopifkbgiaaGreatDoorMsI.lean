/-.-/
import Derived.Test.YtndpjopifkbgiaaGreatDoorMsH
import Derived.Deep.LoopGhost
namespace Go.Proofs.YtndpjopifkbgiaaGreatDoor
open Go.RowKit
namespace Pv
def ja(P:Program)(A:kz)(s:St)(c:Code)(Q:Exit->Act->World->Prop):Prop:=∀ a w,o7 A s a w->Bv A Q->c.wp P Q a w
def Aft(A:kz)(s:St)(Q:Act->World->Prop):Prop:=∀ a w,o7 A s a w->Q a w
def Nxt(P:Program)(A:kz)(c:Code)(Q:Exit->Act->World->Prop):Act->World->Prop:=fun a w=>Bv A Q->c.wp P Q a w
structure lm(P:Program)(I:World->Prop)(G:Specs):Prop where
 aBG:aGr P I G
 mixed:P.follows .mixedOrders=true
def N8(nt:Nat)(l:List Oper):Bool:=l.all fun o=>match o.dst with
 |some d=>Nat.blt d nt
 |none=>true
def bFp(s:St)(x:Nat)(k:Nat->Option Out):Option Out:=match find s.o x with
 |some (_,vr,_)=>k (vr+1)
 |none=>k 0
theorem bFo(s:St)(x:Nat)(k:Nat->Option Out):bFp s x k=k (fresh s x):=by
 unfold bFp fresh
 cases find s.o x with
 |none=>rfl
 |some p=>rfl
def M.exec:M->Option Bool->St->List Prop->List Nat->List Nat->Wr->Option Out
 |.ret v,h,_,c,rt,ro,wr=>some ⟨h,v,c,rt,ro,wr⟩
 |.fail,_,_,_,_,_,_=>none
 |.need p k,h,s,c,rt,ro,wr=>k.exec h s (c++[hP h p]) rt ro wr
 |.tmp t k,h,s,c,rt,ro,wr=>match find s.t t with
  |some (g,v)=>(k g v).exec h s c (rt++[t]) ro wr
  |none=>none
 |.obj x k,h,s,c,rt,ro,wr=>match find s.o x with
  |some (g,vr,ob)=>(k g vr ob).exec h s c rt (ro++[x]) wr
  |none=>none
 |.new x ob k,h,s,c,rt,ro,wr=>bFp s x fun v=>(k v).exec h s c rt (ro++[x]) (wr++[(x,h,v,ob)])
 |.upd x vr ob k,h,s,c,rt,ro,wr=>match h with
  |none=>k.exec none s c rt ro (wr++[(x,none,vr,ob)])
  |some _=>none
 |.gate b k,h,s,c,rt,ro,wr=>match h with
  |none=>k.exec (some b) s c rt ro wr
  |some _=>none
def UL(c:List Prop)(rt ro:List Nat)(wr:Wr)(o:Out):Out:=⟨o.g,o.val,c++o.conds,rt++o.rt,ro++o.ro,wr++o.wr⟩
theorem Rq:∀ (m:M) (h:Option Bool) (s:St) (c:List Prop) (rt ro:List Nat) (wr:Wr),m.exec h s c rt ro wr=(m.run h s).map (UL c rt ro wr):=by
 intro m
 induction m with
 |ret v=>intro h s c rt ro wr;simp[M.exec,M.run,UL]
 |fail=>intro h s c rt ro wr;rfl
 |need p k ih=>intro h s c rt ro wr;rw[M.exec,M.run,ih];cases k.run h s<;>simp[UL]
 |tmp t k ih=>
  intro h s c rt ro wr;rw[M.exec,M.run]
  cases find s.t t with
  |none=>rfl
  |some p=>obtain⟨g,v⟩:=p;dsimp only;rw[ih];cases (k g v).run h s<;>simp[UL]
 |obj x k ih=>
  intro h s c rt ro wr;rw[M.exec,M.run]
  cases find s.o x with
  |none=>rfl
  |some p=>obtain⟨g,vr,ob⟩:=p;dsimp only;rw[ih];cases (k g vr ob).run h s<;>simp[UL]
 |new x ob k ih=>intro h s c rt ro wr;rw[M.exec,M.run,bFo,ih];cases (k (fresh s x)).run h s<;>simp[UL]
 |upd x vr ob k ih=>
  intro h s c rt ro wr
  cases h with
  |some b=>rfl
  |none=>rw[M.exec,M.run,ih];cases k.run none s<;>simp[UL]
 |gate b k ih=>
  intro h s c rt ro wr
  cases h with
  |some b=>rfl
  |none=>rw[M.exec,M.run,ih]
theorem zY(m:M)(h:Option Bool)(s:St):m.exec h s [] [] [] []=m.run h s:=by
 rw[Rq]
 cases m.run h s<;>simp[UL]
def Eb{α:Type}:Wr->Wr->(Wr->α)->α
 |[],o,k=>k o
 |p::l,o,k=>Eb l o fun r=>k (p::r)
theorem aVg{α:Type}:∀ (l o:Wr) (k:Wr->α),Eb l o k=k (l++o)
 |[],_,_=>rfl
 |p::l,o,k=>by rw[Eb,aVg l];rfl
def XU{α:Type}(d:Option Nat)(out:Out)(s:St)(k:St->α):α:=match out,s with
 |⟨g,v,_,_,_,wr⟩,⟨t,o⟩=>Eb wr o fun o'=>match d with
  |some d=>k ⟨(d,g,v)::t,o'⟩
  |none=>k ⟨t,o'⟩
theorem TA{α:Type}(d:Option Nat)(out:Out)(s:St)(k:St->α):XU d out s k=k (app d out s):=by
 obtain⟨g,v,c,rt,ro,wr⟩:=out;obtain⟨t,o⟩:=s;unfold XU;dsimp only;rw[aVg]
 cases d<;>rfl
def aAj(Ae:Nat->Oper->M):Nat->List Oper->St->Option (List (Option Nat×Out)×St)
 |_,[],s=>some ([],s)
 | i,o::l,s=>match (Ae i o).exec none s [] [] [] [] with
  |some out=>XU o.dst out s fun s1=>(match aAj Ae (i+1) l s1 with
   |some (outs,s')=>some ((o.dst,out)::outs,s')
   |none=>none)
  |none=>none
theorem aIb(Ae:Nat->Oper->M):∀ (l:List Oper) (i:Nat) (s:St),aAj Ae i l s=qX Ae i l s
 |[],_,_=>rfl
 | o::l,i,s=>by
  rw[aAj,qX,zY]
  cases (Ae i o).run none s with
  |none=>rfl
  |some out=>
   dsimp only;rw[TA,aIb Ae l];rfl
def All:List Prop->Prop
 |[]=>True
 |p::l=>p/\All l
theorem All.mem:∀ {l:List Prop},All l->∀ p∈l,p
 |[],_,p,h=>by cases h
 |q::l,⟨h1,h2⟩,p,h=>by
  rcases List.mem_cons.1 h with rfl|h
  ·exact h1
  ·exact h2.mem p h
section
variable {P:Program} {I:World->Prop} {G:Specs} {A:kz} {s s':St} {Q:Exit->Act->World->Prop}
theorem aQ(M:lm P I G)(hI:mi P I A){nt:Nat}(hnt:A.nt=nt){Dy:Nat}{ops:Array Oper}{draw:Bool}{outs:List (Option Nat×Out)}(h:aAj (bEc P G Dy ops.toList) 0 ops.toList s=some (outs,s'))(hcl:(vM draw ops.toList outs&&N8 nt ops.toList)=true)(hc:All ((outs.map fun q=>q.2.conds).flatten))(hQ:Aft A s' (Q .normal)):ja P A s (.region Dy ops draw) Q:=by
 intro a w hg AX;subst hnt;rw[aIb] at h;rw[Bool.and_eq_true] at hcl;refine aNb (VI M.aBG hI AX Dy ops (fun i o d ho hd=>?_)) (aPn A) (fun s a w h=>h.drew) M.mixed h (fun q hq p hp=>hc.mem p (List.mem_flatten.2 ⟨_,List.mem_map.2 ⟨q,hq,rfl⟩,hp⟩)) hcl.1 hg (fun a' w' hg'=>hQ a' w' hg');have:=List.all_eq_true.1 hcl.2 o (by rw[<-Array.getElem?_toList] at ho;exact List.mem_of_getElem? ho);rw[hd] at this
 have h3:d+1<=A.nt:=by simpa[Nat.blt] using this
 exact h3
theorem aP{x y:Code}(h:ja P A s x (Exit.then (Nxt P A y Q) Q)):ja P A s (.seq x y) Q:=fun a w hg AX=>
 wp_seq (wp_mono (h a w hg AX) (fun e a' w' he=>by
  cases e<;>first|exact he|exact he AX))
theorem aB(M:lm P I G)(hI:mi P I A){nt:Nat}(hnt:A.nt=nt){Dy:Nat}{ops:Array Oper}{draw:Bool}{outs:List (Option Nat×Out)}{y:Code}(h:aAj (bEc P G Dy ops.toList) 0 ops.toList s=some (outs,s'))(hcl:(vM draw ops.toList outs&&N8 nt ops.toList)=true)(hc:All ((outs.map fun q=>q.2.conds).flatten))(hQ:ja P A s' y Q):ja P A s (.seq (.region Dy ops draw) y) Q:=
 aP (aQ M hI hnt h hcl hc (fun a w hg=>hQ a w hg))
def Nh(s:St)(c:Operand):Option Bool:=match c with
 |.tmp t=>(match find s.t t with
  |some (none,.w (.one (.lit (.bool b))))=>some b
  |_=>none)
 |_=>none
theorem aO(h:Aft A s (Q .normal)):ja P A s .skip Q:=fun a w hg _=>wp_skip (h a w hg)
theorem iM{id:Nat}(h:Aft A s (Q (.exit id))):ja P A s (.exit id) Q:=fun a w hg _=>wp_exit (h a w hg)
theorem aK(h:Aft A s (Q .ret)):ja P A s .ret Q:=fun a w hg _=>wp_ret (h a w hg)
theorem bP{id:Nat}{c:Code}(h:ja P A s c (Exit.inBlock id Q)):ja P A s (.block id c) Q:=fun a w hg AX=>wp_block (h a w hg AX)
theorem aH{c:Operand}{x y:Code}{b:Bool}(hc:Nh s c=some b)(h1:b=true->ja P A s x Q)(h2:b=false->ja P A s y Q):ja P A s (.cond c x y) Q:=fun a w hg AX=>by
 obtain⟨env,hE⟩:=hg
 have hv:a.eval c=.bool b:=by
  cases c with
  | tmp t=>
   unfold Nh at hc;dsimp only at hc
   split at hc
   ·rename_i b' hf;cases hc;obtain⟨v,h3,h4⟩:=hE.tmps t none _ hf trivial;have:=h4.zy;subst this;simp only[Act.eval];rw[Array.getD_eq_getD_getElem?,h3];rfl
   ·cases hc
  |_=>cases hc
 refine wp_cond hv ?_
 cases b with
 |true=>exact h1 rfl a w ⟨env,hE⟩ AX
 |false=>exact h2 rfl a w ⟨env,hE⟩ AX
theorem aI{c:Code}(h:∀ a w,o7 A s a w->o7 A s' a w)(hT:ja P A s' c Q):ja P A s c Q:=fun a w hg AX=>hT a w (h a w hg) AX
theorem iY{c:Code}(n:Nat)(J:Nat->St->Prop)(k0:Nat)(h0:J k0 s)(hk:k0<=n)
  (round:∀ k s,J k s->k<=n->ja P A s c (Exit.then (fun a w=>∃ k' s',k<k'/\k'<=n/\J k' s'/\o7 A s' a w) Q)):ja P A s (.loop c) Q:=fun a w hg AX=>by
 refine wp_loop_ghost (fun m a w=>∃ k s,m=n-k/\k<=n/\J k s/\o7 A s a w) (n-k0) ⟨k0,s,rfl,hk,h0,hg⟩ (fun m a w hm=>?_);obtain⟨k,s,rfl,hkn,hJ,hg⟩:=hm;refine wp_mono (round k s hJ hkn a w hg AX) (fun e a' w' he=>?_)
 cases e<;>first|exact he|skip
 obtain⟨k',s',h1,h2,h3,h4⟩:=he
 exact⟨n-k',by omega,k',s',rfl,h2,h3,h4⟩
def FC(tmps:Array Value)(r:ResultVar):Sem Value:=match r with
 |.tmp t=>pure (tmps.getD t undef)
 |.cell b t=>do loadVar t (<-asAddr (tmps.getD b undef))
theorem aXw(fn:Func)(tmps:Array Value):results fn tmps=(do let vs <-fn.results.mapM (FC tmps);pure (if h:vs.size=1 then vs[0] else .tuple vs)):=by
 unfold results;congr 1
theorem aSd{a:Act}{w:World}{env:Env}(h:gm A s a w env){F:Option Bool->PV->Wr->Prop}:∀ {rs:List ResultVar} {k:List PW->M},(Pm P rs k).ok none s F ->
  ∃ xs vs,(rs.mapM (FC a.tmps)).run P w=.ok vs w/\xs.length=vs.length/\(∀ (i:Nat) (x:PW),xs[i]?=some x->∃ v:Value,vs[i]?=some v/\RW (aU A w env) x v)/\(k xs).ok none s F
 |[],k,hk=>⟨[],[],by simp,rfl,fun i x hx=>by simp at hx,hk⟩
 | .tmp t::rs,k,hk=>by
  obtain⟨pv,hp,hk⟩:=gG h hk
  split at hk
  ·rename_i x;obtain⟨xs,vs,h1,h2,h3,h4⟩:=aSd h hk
   refine⟨x::xs,a.tmps.getD t undef::vs,?_,by simp[h2],fun i y hy=>?_,h4⟩
   ·rw[List.mapM_cons,show FC a.tmps (.tmp t)=pure (a.tmps.getD t undef) from rfl];simp only[Sem.run_bind,Sem.run_pure,Result.andThen_ok,h1]
   ·cases i with
    |zero=>
     obtain rfl:x=y:=by simpa using hy
     cases hp with|w hp=>exact⟨_,rfl,hp⟩
    |succ i=>exact h3 i y (by simpa using hy)
  ·exact hk.elim
 | .cell b t::rs,k,hk=>by
  obtain⟨pv,hp,hk⟩:=gG h hk;obtain⟨b1,o1,x,val,hv,hrun,hval,hk⟩:=aVo h hp hk;obtain⟨xs,vs,h1,h2,h3,h4⟩:=aSd h hk;have hv':a.tmps.getD b undef=.pointer (some ⟨b1,o1,none⟩):=hv
  have hld:(loadVar t ⟨b1,o1,none⟩).run P w=.ok val w:=by
   rw[hv] at hrun
   simpa[Instr.loadAt,Instr.sureAddr] using hrun
  have h0:(FC a.tmps (.cell b t)).run P w=.ok val w:=by
   unfold FC;simp only[hv',asAddr,Sem.run_bind,Sem.run_pure,Result.andThen_ok,hld]
  refine⟨x::xs,val::vs,?_,by simp[h2],fun i y hy=>?_,h4⟩
  ·rw[List.mapM_cons];simp only[Sem.run_bind,Sem.run_pure,Result.andThen_ok,h0,h1]
  ·cases i with
   |zero=>
    obtain rfl:x=y:=by simpa using hy
    exact⟨_,rfl,hval⟩
   |succ i=>exact h3 i y (by simpa using hy)
theorem uP{a:Act}{w:World}{env:Env}(h:gm A s a w env){F:Option Bool->PV->Wr->Prop}{fn:Func}(hk:(Az P fn.results).ok none s F):∃ v val,(results fn a.tmps).run P w=.ok val w/\RV (aU A w env) v val/\F none v []:=by
 unfold Az at hk;obtain⟨xs,vs,h1,h2,h3,hk⟩:=aSd h hk
 have hm:(fn.results.mapM (FC a.tmps)).run P w=.ok vs.toArray w:=by
  rw[Array.mapM_eq_mapM_toList,Sem.run_map,h1];rfl
 rw[aXw];simp only[Sem.run_bind,hm,Result.andThen_ok,Sem.run_pure]
 split at hk
 ·rename_i x
  match vs,h2,h3 with
  |[v],_,h3=>
   obtain⟨v',e,hr⟩:=h3 0 x rfl;cases e
   exact⟨_,_,rfl,.w hr,hk⟩
 ·rename_i hne
  have hlen:¬vs.toArray.size=1:=by
   intro e
   match xs,h2,hne with
   |[x],_,hne=>exact hne x rfl
   |[],h2,_=>simp at e h2;omega
   |_::_::_,h2,_=>simp at e h2;omega
  rw[dif_neg hlen]
  exact⟨_,_,rfl,.lw (by simpa using h2) (fun i x hx=>by
   obtain⟨v,e,hr⟩:=h3 i x hx
   exact⟨v,by simpa using e,hr⟩),hk⟩
def slots:Nat->List PV->List (Nat×Option Bool×PV)
 |_,[]=>[]
 |i,v::vs=>(i,none,v)::slots (i+1) vs
theorem mY{i:Nat}:∀ {vs:List PV} {t:Nat} {g:Option Bool} {pv:PV},find (slots i vs) t=some (g,pv)->∃ k,t=i+k/\vs[k]?=some pv
 |[],t,g,pv,h=>by cases h
 | v::vs,t,g,pv,h=>by
  by_cases ht:i=t
  ·subst ht;rw[slots,aJ] at h;cases h
   exact⟨0,rfl,rfl⟩
  ·rw[slots,aN _ _ ht] at h;obtain⟨k,h1,h2⟩:=mY (i:=i+1) h
   exact⟨k+1,by omega,by simpa using h2⟩
theorem lG{i:Nat}:∀ {vs:List PV} {t:Nat} {g:Option Bool} {pv:PV},find (slots i vs) t=some (g,pv)->∃ k:Nat,t=i+k/\g=none
 |[],t,g,pv,h=>by cases h
 | v::vs,t,g,pv,h=>by
  by_cases ht:i=t
  ·subst ht;rw[slots,aJ] at h;cases h
   exact⟨0,rfl,rfl⟩
  ·rw[slots,aN _ _ ht] at h;obtain⟨k,h1,h2⟩:=lG (i:=i+1) h
   exact⟨k+1,by omega,h2⟩
theorem mg.at{C:Ctx}:∀ {vs:List PV} {l:List Value} {k:Nat} {pv:PV},mg C vs l->vs[k]?=some pv->∃ v,l[k]?=some v/\RV C pv v
 |[],[],_,_,_,h=>by simp at h
 |[],_::_,_,_,h,_=>h.elim
 |_::_,[],_,_,h,_=>h.elim
 | v::vs,x::l,k,pv,⟨h1,h2⟩,h=>by
  cases k with
  |zero=>
   obtain rfl:v=pv:=by simpa using h
   exact⟨x,rfl,h1⟩
  |succ k=>
   obtain⟨v',h3,h4⟩:=mg.at h2 (by simpa using h:vs[k]?=some pv)
   exact⟨v',by simpa using h3,h4⟩
theorem mg.length{C:Ctx}:∀ {vs:List PV} {l:List Value},mg C vs l->vs.length=l.length
 |[],[],_=>rfl
 |[],_::_,h=>h.elim
 |_::_,[],h=>h.elim
 |_::_,_::_,⟨_,h⟩=>by rw[List.length_cons,List.length_cons,h.length]
def gQ(P:Program)(I:World->Prop)(f:Nat)(new:Bool)(args:List PV)(res:PV):Prop:=
 ∀ (w:World) (ok0:Nat->Prop) (vs:List Value),I w->mg { w,ok:=ok0,env:=fun _=>none } args vs ->
  Calls P f vs.toArray w fun e w'=>∃ val,e=.returned val/\Ext w w'/\RV { w:=w',ok:=fun b=>(new=false/\ok0 b)\/w.heap.size<=b,env:=fun _=>none } res val
def dG(new:Bool):PC->Bool
 |.lit _=>true
 |.bs _ _=>true
 |.sl _ _ _=>!new
 |_=>false
theorem aGf{C:Ctx}{c:PC}{xs:List Value}(h:R C c xs)(hc:dG false c=true):R C.cold c xs:=by
 cases h<;>first|(cases hc;done)|skip
 ·exact .lit (by assumption)
 ·exact .bs (by assumption)
 ·exact .sl (by assumption) (by assumption) (by assumption)
theorem jF{C:Ctx}:∀ {l:List PC} {xs:List Value},RL C l xs->l.all (dG false)=true->RL C.cold l xs
 |[],_,h,_=>by cases h;exact .nil
 |c::l,_,h,hc=>by
  rw[List.all_cons,Bool.and_eq_true] at hc
  cases h with
  |cons h1 h2=>exact .cons (aGf h1 hc.1) (jF h2 hc.2)
def Row1(s:St)(new:Bool)(l l':List PC):Prop:=∃ x ai n off len tot e g f f',l=[.ow x ai n off len]/\l'=[.sl n len f']/\find s.o x=some (g,ai,.arr e n tot f)/\gT g/\off+len<=tot/\∀ i,i<len->f (off+i)=f' i/\(f' i).all (dG new)=true
inductive DT(s:St)(new:Bool):PC->PC->Prop where
 |rows {x ai n off len tot e:Nat} {g:Option Bool} {f f':Nat->List PC} (hf:find s.o x=some (g,ai,.arr e n tot f)) (hg:gT g) (hl:off+len<=tot) (he:∀ i,i<len->(f (off+i)=f' i/\(f' i).all (dG new)=true)\/Row1 s new (f (off+i)) (f' i)):DT s new (.ow x ai n off len) (.sl n len f')
 |cold {c:PC} (h:dG new c=true):DT s new c c
 |row {x ai n off len tot e:Nat} {g:Option Bool} {f f':Nat->List PC} (hf:find s.o x=some (g,ai,.arr e n tot f)) (hg:gT g) (hl:off+len<=tot) (he:∀ i,i<len->f (off+i)=f' i) (hc:∀ i,i<len->(f' i).all (dG new)=true):DT s new (.ow x ai n off len) (.sl n len f')
 |nil {n:Nat} {f:Nat->List PC}:DT s new (.lit (.slice none 0 0)) (.sl n 0 f)
inductive TQ(s:St)(new:Bool):List PC->List PC->Prop where
 |nil:TQ s new [] []
 |cons {c c':PC} {l l':List PC} (h:DT s new c c') (hl:TQ s new l l'):TQ s new (c::l) (c'::l')
inductive Xx(s:St)(new:Bool):PW->PW->Prop where
 |one {c c':PC} (h:DT s new c c'):Xx s new (.one c) (.one c')
 |agg {l l':List PC} (h:TQ s new l l'):Xx s new (.agg l) (.agg l')
inductive Ov(s:St)(new:Bool):List PW->List PW->Prop where
 |nil:Ov s new [] []
 |cons {c c':PW} {l l':List PW} (h:Xx s new c c') (hl:Ov s new l l'):Ov s new (c::l) (c'::l')
inductive Xy(s:St)(new:Bool):PV->PV->Prop where
 |w {x x':PW} (h:Xx s new x x'):Xy s new (.w x) (.w x')
 |lw {l l':List PW} (h:Ov s new l l'):Xy s new (.lw l) (.lw l')
def Bz(A:kz)(s:St)(env:Env):Prop:=∀ x g ai e n len f hd b,find s.o x=some (g,ai,.arr e n len f)->env x=some (ai,hd)->hblk hd=some b->A.S b->False
theorem Bz.VQ{A:kz}{s:St}{env:Env}(h:A.S=Non):Bz A s env:=fun _ _ _ _ _ _ _ _ _ _ _ _ hb=>by rw[h] at hb;exact hb
def pK(w0:World)(ok0:Nat->Prop)(new:Bool):Nat->Prop:=fun b=>(new=false/\ok0 b)\/w0.heap.size<=b
theorem MQ{a:Act}{w:World}{env:Env}(h:gm A s a w env)(hS:Bz A s env){new:Bool}{c c':PC}{xs:List Value}(hx:DT s new c c')(hr:R (aU A w env) c xs):R { w,ok:=pK A.w0 A.ok0 new,env:=fun _=>none } c' xs:=by
 have vk:∀ {l:List PC} {xs:List Value},RL (aU A w env) l xs->l.all (dG new)=true->RL { w,ok:=pK A.w0 A.ok0 new,env:=fun _=>none } l xs:=by
  intro l xs h1 h2
  cases new with
  |false=>exact (jF h1 h2).le ⟨Nat.le_refl _,fun b _ hb=>⟨hb.1.elim (fun h=>.inl ⟨rfl,h⟩) .inr,rfl⟩,fun _ _ _ h=>by cases h⟩
  | true=>
   have flat:∀ {l:List PC} {xs:List Value},RL (aU A w env) l xs->l.all (dG true)=true->RL { w,ok:=pK A.w0 A.ok0 true,env:=fun _=>none } l xs:=by
    intro l
    induction l with
    |nil=>intro xs h _;cases h;exact .nil
    | cons c l ih=>
     intro xs h hc;rw[List.all_cons,Bool.and_eq_true] at hc
     cases h with
     |cons h3 h4=>
      refine .cons ?_ (ih h4 hc.2);have hc1:=hc.1
      cases h3<;>first|exact .lit (by assumption)|exact .bs (by assumption)|(cases hc1;done)
   exact flat h1 h2
 have hrow:∀ {x ai n off len tot e:Nat} {g:Option Bool} {f f':Nat->List PC} {xs:List Value},find s.o x=some (g,ai,.arr e n tot f)->gT g->off+len<=tot->R (aU A w env) (.ow x ai n off len) xs ->
   (∀ i,i<len->∀ ys,RL (aU A w env) (f (off+i)) ys->RL { w,ok:=pK A.w0 A.ok0 new,env:=fun _=>none } (f' i) ys)->R { w,ok:=pK A.w0 A.ok0 new,env:=fun _=>none } (.sl n len f') xs:=by
  intro x ai n off len tot e g f f' xs hf hg hl hr hconv;obtain⟨hd,hev,hob⟩:=jQ h hf hg
  cases hr with
  | ow h1 hat=>
   obtain⟨A0,n0,c0,rfl,hle0,rfl⟩:=hat.now hev;obtain⟨vs,hown,hel⟩:=hob;have hrd:=Reads.vg hown
   have hn0:n0=tot:=by
    obtain⟨_,A1,c1,e1,_⟩:=hrd
    cases e1;rfl
   subst hn0;refine .sl (vs:=(vs.drop (off*n)).take (len*n)) (mP hl hrd) (fun b hb hlt=>?_) (fun i hi=>?_)
   ·cases A0 with
    |none=>simp[Value.ownBlock] at hb
    |some ad=>
     simp only[Option.map_some,Value.ownBlock,Option.some.injEq,qH] at hb;have:=h.live x ai _ b hev (by simp[hblk,hb])
     refine⟨.inr (this.2.resolve_right (fun h4=>hS x g ai e n n0 f _ b hf hev (by simp[hblk,hb]) h4.1)),this.1⟩
   ·rw[jL vs hi];exact (hconv i hi _ (hel _ (by omega))).le ⟨Nat.le_refl _,fun b _ hb=>⟨hb,rfl⟩,fun _ _ _ h=>by cases h⟩
 cases hx with
 |cold hc=>
  have:=(vk (RL.cons hr RL.nil) (by simp[hc])).single
  simpa using this
 |nil=>
  cases hr
  exact .sl (Reads.nil w _) (fun g hg=>by simp[Value.ownBlock] at hg) (fun i hi=>by omega)
 |@row x ai n off len tot e g f f' hf hg hl he hc=>
  refine hrow hf hg hl hr (fun i hi ys hy=>?_);rw[he i hi] at hy
  exact vk hy (hc i hi)
 | @rows x ai n off len tot e g f f' hf hg hl he=>
  refine hrow hf hg hl hr (fun i hi ys hy=>?_);rcases he i hi with⟨h1,h2⟩|⟨x1,v1,n1,o1,l1,t1,e1,g1,f1,f1',h1,h2,h3,h4,h5,h6⟩
  ·rw[h1] at hy;exact vk hy h2
  ·rw[h1] at hy;rw[h2];have hz:ys=ys++[]:=(List.append_nil ys).symm;rw[hz];refine .cons (hrow h3 h4 h5 hy.single (fun k hk zs hzs=>?_)) .nil;rw[(h6 k hk).1] at hzs;exact vk hzs (h6 k hk).2
theorem aPy{a:Act}{w:World}{env:Env}(h:gm A s a w env)(hS:Bz A s env){new:Bool}:∀ {l l':List PC} {xs:List Value},TQ s new l l'->RL (aU A w env) l xs->RL { w,ok:=pK A.w0 A.ok0 new,env:=fun _=>none } l' xs
 |[],_,_,hx,hr=>by cases hx;cases hr;exact .nil
 | c::l,_,_,hx,hr=>by
  cases hx with
  |cons h1 h2=>cases hr with
   |cons h3 h4=>exact .cons (MQ h hS h1 h3) (aPy h hS h2 h4)
theorem MO{a:Act}{w:World}{env:Env}(h:gm A s a w env)(hS:Bz A s env){new:Bool}{x x':PW}{v:Value}(hx:Xx s new x x')(hr:RW (aU A w env) x v):RW { w,ok:=pK A.w0 A.ok0 new,env:=fun _=>none } x' v:=by
 cases hx with
 |one h1=>cases hr with|one h2=>exact .one (MQ h hS h1 h2)
 |agg h1=>cases hr with|agg h2=>exact .agg (aPy h hS h1 h2)
theorem Ov.at{s:St}{new:Bool}:∀ {l l':List PW} {i:Nat} {x':PW},Ov s new l l'->l'[i]?=some x'->∃ x,l[i]?=some x/\Xx s new x x'
 |[],_,i,x',h,hi=>by cases h;simp at hi
 | y::l,_,i,x',h,hi=>by
  cases h with
  | @cons _ y' _ l' h1 h2=>
   cases i with
   |zero=>
    obtain rfl:y'=x':=by simpa using hi
    exact⟨y,rfl,h1⟩
   |succ i=>
    obtain⟨x,h3,h4⟩:=Ov.at h2 (by simpa using hi:l'[i]?=some x')
    exact⟨x,by simpa using h3,h4⟩
theorem Ov.length{s:St}{new:Bool}:∀ {l l':List PW},Ov s new l l'->l.length=l'.length
 |[],_,h=>by cases h;rfl
 |_::_,_,h=>by cases h with|cons _ h2=>rw[List.length_cons,List.length_cons,h2.length]
theorem aPx{a:Act}{w:World}{env:Env}(h:gm A s a w env)(hS:Bz A s env){new:Bool}{x x':PV}{v:Value}(hx:Xy s new x x')(hr:RV (aU A w env) x v):RV { w,ok:=pK A.w0 A.ok0 new,env:=fun _=>none } x' v:=by
 cases hx with
 |w h1=>cases hr with|w h2=>exact .w (MO h hS h1 h2)
 | lw h1=>
  cases hr with
  |lw hl h2=>
   refine .lw (by rw[<-h1.length];exact hl) (fun i x' hi=>?_);obtain⟨x,h3,h4⟩:=h1.at hi;obtain⟨v,h5,h6⟩:=h2 i x h3
   exact⟨v,h5,MO h hS h4 h6⟩
def TF(P:Program)(fn:Func)(new:Bool)(res:PV)(s:St):Prop:=∃ v,(Az P fn.results).ok none s (fun _ v' wr=>v'=v/\wr=[])/\Xy s new v res
theorem aUz{fn:Func}{new:Bool}{res:PV}{out:Out}(h:(Az P fn.results).run none s=some out)(hc:All out.conds)(hw:out.wr=[])(hx:Xy s new out.val res):TF P fn new res s:=
 ⟨out.val,M.yc _ none s out _ h (fun p hp=>hc.mem p hp) ⟨rfl,hw⟩,hx⟩
def Ea(p:PC->Bool):PW->Bool
 |.one c=>p c
 |.agg l=>l.all p
def U1(p:PC->Bool):PV->Bool
 |.w x=>Ea p x
 |.lw l=>l.all (Ea p)
 |.none=>false
theorem dX{s:St}{new:Bool}:∀ {l:List PC},l.all (dG new)=true->TQ s new l l
 |[],_=>.nil
 |c::l,h=>by rw[List.all_cons,Bool.and_eq_true] at h;exact .cons (.cold h.1) (dX h.2)
theorem aWa{s:St}{new:Bool}{x:PW}(h:Ea (dG new) x=true):Xx s new x x:=by
 cases x with
 |one c=>exact .one (.cold h)
 |agg l=>exact .agg (dX h)
theorem aWb{s:St}{new:Bool}:∀ {l:List PW},l.all (Ea (dG new))=true->Ov s new l l
 |[],_=>.nil
 |c::l,h=>by rw[List.all_cons,Bool.and_eq_true] at h;exact .cons (aWa h.1) (aWb h.2)
theorem MP{s:St}{new:Bool}{v:PV}(h:U1 (dG new) v=true):Xy s new v v:=by
 cases v with
 |w x=>exact .w (aWa h)
 |lw l=>exact .lw (aWb h)
 |none=>cases h
theorem aC{fn:Func}{new:Bool}{res:PV}{out:Out}(h:(Az P fn.results).exec none s [] [] [] []=some out)(hc:All out.conds)(hw:out.wr=[])(hx:U1 (dG new) out.val=true)(he:out.val=res):TF P fn new res s:=by
 rw[zY] at h;subst he;exact aUz h hc hw (MP hx)
theorem kK{fn:Func}{new:Bool}{res:PV}{out:Out}(h:(Az P fn.results).exec none s [] [] [] []=some out)(hc:All out.conds)(hw:out.wr=[])(hx:Xy s new out.val res):TF P fn new res s:=by
 rw[zY] at h;exact aUz h hc hw hx
def RQ(P:Program)(A:kz)(fn:Func)(new:Bool)(res:PV):Exit->Act->World->Prop
 |.panic chain,a,w=>a.defers=A.ds/\DF A chain w
 |e,a,w=>(e=.normal\/e=.ret)/\∃ s,TF P fn new res s/\o7 A s a w
theorem Q9(P:Program)(A:kz)(fn:Func)(new:Bool)(res:PV):Bv A (RQ P A fn new res):=fun _ _ _ hd h=>⟨hd,h⟩
theorem ng.non(P:Program){di:List Acc->Prop}:ng P Dv.non di:=⟨fun _ _ _ h=>h.elim,fun _ _ _ _ _ h=>h.elim⟩
theorem mi.plain{P:Program}{I:World->Prop}{w:World}{ok0:Nat->Prop}{nt:Nat}(h:∀ w',Ext w w'->I w'):mi P I (kz.plain w ok0 nt):=
 ⟨h,fun _ h=>h,fun _ h=>h.elim,ng.non P,fun _ _ _ h=>h.elim,fun _ _ _ _ _ _ h=>h.elim⟩
theorem bM{f:Nat}{fn:Func}{c:Code}{new:Bool}{args:List PV}{res:PV}(hf:P.funcs[f]?=some fn)(hb:fn.body=some c)(hnb:Nat.ble args.length fn.ntmps=true)(hI:∀ w w',Ext w w'->I w->I w')
  (hT:∀ A:kz,A.S=Non->A.nt=fn.ntmps->mi P I A->ja P A ⟨slots 0 args,[]⟩ c (RQ P A fn new res)):gQ P I f new args res:=by
 intro w ok0 vs WY hv;have hlen:=hv.length;have hn:=Nat.le_of_ble_eq_true hnb
 have hg:o7 (kz.plain w ok0 fn.ntmps) ⟨slots 0 args,[]⟩ { tmps:=vs.toArray++Array.replicate (fn.ntmps-vs.toArray.size) undef,defers:=[] } w:=by
  refine⟨fun _=>none,{ gu:=dm.refl _ _,size:=?_,dom:=fun x _=>rfl,ji:=fun x g ai o h=>(by cases h),live:=fun x ai hd b h=>(by cases h),inj:=fun x y v1 h1 v2 h2 b h=>(by cases h),tmps:=fun t g pv h hgt=>?_,defers:=rfl,und:=fun t pv h=>(by obtain⟨k,_,h2⟩:=lG h;cases h2),l_:=fun x hd h=>(by cases h),dev:=fun g ai O di l h=>(by cases h) }⟩
  ·simp[kz.plain];omega
  ·obtain⟨k,h1,h2⟩:=mY h;obtain⟨v,h3,h4⟩:=hv.at h2;rw[Nat.zero_add] at h1;subst h1;have hk:t<vs.length:=(List.getElem?_eq_some_iff.1 h3).1
   refine⟨v,?_,?_⟩
   ·rw[Array.getElem?_append_left (by simpa using hk)]
    simpa using h3
   ·refine h4.le ⟨Nat.le_refl _,fun b _ hb=>⟨⟨.inl hb,fun _ _ _ h=>by cases h⟩,rfl⟩,fun _ _ _ h=>by cases h⟩
 refine calls_of_wp hf hb (wp_mono (hT (kz.plain w ok0 fn.ntmps) rfl rfl (mi.plain fun w' hc=>hI w w' hc WY) _ w hg (Q9 _ _ _ _ _)) (fun e a' w' he=>?_))
 have he':(e=.normal\/e=.ret)/\∃ s,TF P fn new res s/\o7 (kz.plain w ok0 fn.ntmps) s a' w':=by
  cases e with
  |panic chain=>obtain⟨_,l,hl,_⟩:=he;exact hl.elim
  |_=>exact he
 obtain⟨h1,s,⟨v,h2,h3⟩,h4⟩:=he';obtain⟨env,hE⟩:=h4;obtain⟨v',val,h5,h6,h7,_⟩:=uP hE h2;subst h7;have hres:=aPx hE (.VQ rfl) h3 h6
 have:a'.defers=[]/\∃ v,(results fn a'.tmps).run P w'=.ok v w'/\∃ val,Ending.returned v=.returned val/\Ext w w'/\RV { w:=w',ok:=fun b=>(new=false/\ok0 b)\/w.heap.size<=b,env:=fun _=>none } res val:=
  ⟨hE.defers,val,h5,val,rfl,hE.gu,hres⟩
 rcases h1 with rfl|rfl<;>exact this
end
def wM(kO:List Nat)(s:St)(x ai:Nat):Bool:=match kO.any (Nat.beq x),find s.o x with
 |true,some (_,vr,_)=>Nat.beq ai vr
 |_,_=>false
def En(kF:List Nat)(s:St)(x ai n:Nat):Option (Nat->List PC):=match kF.any (Nat.beq x),find s.o x with
 |true,some (none,vr,.arr _ m _ f)=>(match Nat.beq ai vr,Nat.beq n m with
  |true,true=>some f
  |_,_=>none)
 |_,_=>none
mutual
def rv(kF kO:List Nat)(s:St):PC->Option PC
 |.lit v=>some (.lit v)
 |.bs n l=>some (.bs n l)
 |.sl n len f=>some (.sl n len f)
 |.ow x ai n off len=>match wM kO s x ai with|true=>some (.ow x 0 n off len)|false=>(match En kF s x ai n with|some f=>some (.sl n len (fun i=>f (off+i)))|none=>none)
 |.ob x ai off len=>match wM kO s x ai with|true=>some (.ob x 0 off len)|false=>none
 |.pt x ai off=>match wM kO s x ai with|true=>some (.pt x 0 off)|false=>none
 |.pk x ai off k=>match wM kO s x ai with|true=>some (.pk x 0 off k)|false=>none
 |.pe x ai n i j=>match wM kO s x ai with|true=>some (.pe x 0 n i j)|false=>none
 |.pf n len f i j=>some (.pf n len f i j)
 |.fn f first cap=>match EZ kF kO s first,EZ kF kO s cap with
  |some a,some b=>some (.fn f a b)
  |_,_=>none
 |.dv=>match wM kO s dx 0 with|true=>some .dv|false=>none
 |.any=>some .any
 |.pa len f=>some (.pa len f)
def EZ(kF kO:List Nat)(s:St):List PC->Option (List PC)
 |[]=>some []
 |c::l=>match rv kF kO s c,EZ kF kO s l with
  |some c',some l'=>some (c'::l')
  |_,_=>none
end
def PS(kF kO:List Nat)(s:St):PW->Option PW
 |.one c=>match rv kF kO s c with|some c=>some (.one c)|none=>none
 |.agg l=>match EZ kF kO s l with|some l=>some (.agg l)|none=>none
def Bf(kF kO:List Nat)(s:St):List PW->Option (List PW)
 |[]=>some []
 |x::l=>match PS kF kO s x,Bf kF kO s l with
  |some x,some l=>some (x::l)
  |_,_=>none
def Um(kF kO:List Nat)(s:St):PV->Option PV
 |.w x=>match PS kF kO s x with|some x=>some (.w x)|none=>none
 |.lw l=>match Bf kF kO s l with|some l=>some (.lw l)|none=>none
 |.none=>some .none
def Fv(kF kO:List Nat)(s:St):List Nat->Option (List (Nat×Option Bool×PV))
 |[]=>some []
 |t::l=>match find s.t t,Fv kF kO s l with
  |some (g,v),some r=>(match Um kF kO s v with|some v'=>some ((t,g,v')::r)|none=>none)
  |_,_=>none
def Ic(kF kO:List Nat)(s:St):og->Option (List Prop×og)
 |.box t l=>match EZ kF kO s l with|some l=>some ([],.box t l)|none=>none
 |.arr e n len f=>some ([∀ i,i<len->(f i).all (dG false)=true],.arr e n len f)
 |.dead=>some ([],.dead)
 |.dev O di l=>some ([],.dev O di l)
def TI(kF kO:List Nat)(s:St):List Nat->Option (List Prop×Wr)
 |[]=>some ([],[])
 |x::l=>match find s.o x,TI kF kO s l with
  |some (g,_,ob),some (cs,r)=>(match Ic kF kO s ob with|some (c,ob')=>some (c++cs,(x,g,0,ob')::r)|none=>none)
  |_,_=>none
def aBa(kO:List Nat)(s:St):Bool:=s.o.all fun p=>match Nat.ble dx p.1 with
 |true=>kO.any (Nat.beq p.1)&&Nat.beq p.2.2.1 0
 |false=>true
def UO(s:St):List Nat->Option (List Prop)
 |[]=>some []
 |x::l=>match find s.o x,UO s l with
  |some (_,_,.arr _ _ len f),some cs=>some ((∀ i,i<len->(f i).all (dG false)=true)::cs)
  |_,_=>none
def aKp(kF kT kO:List Nat)(s:St):Option (List Prop×St):=match Fv kF kO s kT,TI kF kO s kO,aBa kO s,UO s kF with
 |some t,some (cs,o),true,some cf=>some (cs++cf,⟨t,o⟩)
 |_,_,_,_=>none
def bCm(kT kO:List Nat)(s:St):Option (List Prop×St):=match Fv [] kO s kT,TI [] kO s kO,aBa kO s with
 |some t,some (cs,o),true=>some (cs,⟨t,o⟩)
 |_,_,_=>none
def Aa(A:kz)(kF:List Nat)(s:St):Prop:=∀ x,kF.any (Nat.beq x)=true->A.S=Non/\∀ g ai e n len f,find s.o x=some (g,ai,.arr e n len f)->∀ i,i<len->(f i).all (dG false)=true
theorem Aa.nil{A:kz}{s:St}:Aa A [] s:=fun x h=>by cases h
theorem aLl{A:kz}(hS:A.S=Non){s:St}:∀ {kF:List Nat} {cs:List Prop},UO s kF=some cs->All cs->Aa A kF s
 |[],_,_,_=>Aa.nil
 | y::l,cs,h,hc=>fun x hx=>⟨hS,fun g ai e n len f hf=>by
  unfold UO at h
  split at h
  ·rename_i h1 h2;cases h;rw[List.any_cons,Bool.or_eq_true] at hx;rcases hx with hx|hx
   ·obtain rfl:x=y:=gy hx
    rw[hf] at h1;cases h1;exact hc.1
   ·exact ((aLl hS h2 hc.2) x hx).2 g ai e n len f hf
  ·cases h⟩
def ou(kO:List Nat)(env:Env):Env:=fun x=>match kO.any (Nat.beq x) with
 |true=>(env x).map fun p=>(0,p.2)
 |false=>none
section
variable {A:kz} {s:St} {a:Act} {w:World} {env:Env} {kF kO:List Nat}
theorem aEt{b:Nat}(h:(aU A w env).ok b):(aU A w (ou kO env)).ok b:=⟨h.1,fun x ai hd he=>by
 have he':ou kO env x=some (ai,hd):=he;unfold ou at he'
 split at he'
 ·cases hx:env x with
  |none=>rw[hx] at he';cases he'
  |some p=>
   obtain⟨v,hd'⟩:=p;rw[hx] at he'
   cases he'
   exact h.2 x v _ hx
 ·cases he'⟩
theorem aQi:(aU A w env).cold.Le (aU A w (ou kO env)):=⟨Nat.le_refl _,fun b _ h=>⟨aEt h,rfl⟩,fun _ _ _ h=>by cases h⟩
theorem wI:(aU A w env).cold.Le (aU A w (ou kO env)).cold:=⟨Nat.le_refl _,fun b _ h=>⟨aEt (w:=w) (env:=env) (kO:=kO) h,rfl⟩,fun _ _ _ h=>by cases h⟩
theorem aBh(h:gm A s a w env){x ai:Nat}{p:Value->Prop}(hv:wM kO s x ai=true)(ha:At (aU A w env) x ai p):At (aU A w (ou kO env)) x 0 p:=by
 unfold wM at hv
 split at hv
 ·rename_i g vr ob h1 h2;obtain⟨hd,h3,_⟩:=h.ji x g vr ob h2;have hp:=ha.now (hd:=hd) (by rw[gy hv];exact h3)
  refine⟨0,hd,?_,Nat.le_refl _,fun _=>hp⟩
  show ou kO env x=some (0,hd);unfold ou;rw[h1,h3];rfl
 ·cases hv
theorem Wl(h:gm A s a w env)(hF:Aa A kF s){x ai n off len:Nat}{f:Nat->List PC}{xs:List Value}(hv:wM kO s x ai=false)(hq:En kF s x ai n=some f)(hR:R (aU A w env) (.ow x ai n off len) xs):R (aU A w (ou kO env)) (.sl n len (fun i=>f (off+i))) xs:=by
 unfold En at hq
 split at hq
 ·rename_i vr e m tot f0 hk hfo
  split at hq
  ·rename_i hb1 hb2;cases hq
   obtain rfl:=gy hb1
   obtain rfl:=gy hb2
   have hkO:kO.any (Nat.beq x)=false:=by
    unfold wM at hv;rw[hfo] at hv
    cases hk2:kO.any (Nat.beq x) with
    |false=>rfl
    |true=>rw[hk2] at hv;dsimp only at hv;rw[hb1] at hv;cases hv
   obtain⟨hS,vk⟩:=hF x hk;have vk:=vk _ _ _ _ _ _ hfo;obtain⟨hd,hev,hob⟩:=h.ji x none ai _ hfo;have hob:=hob trivial
   cases hR with
   | ow h1 hat=>
    obtain⟨A0,n0,c0,rfl,hle0,rfl⟩:=hat.now hev;obtain⟨vs,hown,hel⟩:=hob;have hrd:=Reads.vg hown
    have hn0:n0=tot:=by
     obtain⟨_,A1,c1,e1,_⟩:=hrd
     cases e1;rfl
    subst hn0;refine .sl (vs:=(vs.drop (off*n)).take (len*n)) (mP hle0 hrd) (fun b hb hlt=>?_) (fun i hi=>?_)
    ·have hbl:hblk (.slice A0 n0 c0)=some b:=by
      cases A0 with
      |none=>simp[Value.ownBlock] at hb
      |some ad=>
       simp only[Option.map_some,Value.ownBlock,Option.some.injEq,qH] at hb;simp[hblk,hb]
     obtain⟨k1,k2⟩:=h.live x ai _ b hev hbl
     refine⟨⟨.inr (k2.resolve_right (fun hs=>by have hs:=hs.1;rw[hS] at hs;exact hs)),fun y vy hy he hyb=>?_⟩,k1⟩
     have he':ou kO env y=some (vy,hy):=he;unfold ou at he'
     split at he'
     ·rename_i hky
      cases hx:env y with
      |none=>rw[hx] at he';cases he'
      |some p=>
       obtain⟨v',hd'⟩:=p;rw[hx] at he'
       cases he'
       have hxy:=h.inj x y ai _ v' _ b hev hx hbl hyb;subst hxy;rw[hkO] at hky;cases hky
     ·cases he'
    ·rw[jL vs hi];exact (jF (hel _ (by omega)) (vk _ (by omega))).le wI
  ·cases hq
 ·cases hq
mutual
theorem Tt(h:gm A s a w env)(hF:Aa A kF s):∀ {c c':PC} {xs:List Value},rv kF kO s c=some c'->R (aU A w env) c xs->R (aU A w (ou kO env)) c' xs
 |.lit v,c',xs,hr,hR=>by
  simp only[rv,Option.some.injEq] at hr;subst hr;cases hR;exact .lit (by assumption)
 |.bs n l,c',xs,hr,hR=>by
  simp only[rv,Option.some.injEq] at hr;subst hr;cases hR;exact .bs (by assumption)
 |.sl n len f,c',xs,hr,hR=>by
  simp only[rv,Option.some.injEq] at hr;subst hr
  cases hR with
  |sl h1 h2 h3=>exact .sl h1 (fun g hg hl=>⟨aEt (h2 g hg hl).1,(h2 g hg hl).2⟩) (fun i hi=>(h3 i hi).le wI)
 | .ow x ai n off len,c',xs,hr,hR=>by
  unfold rv at hr
  cases hv:wM kO s x ai with
  |true=>
   rw[hv] at hr;cases hr
   cases hR with|ow h1 h2=>exact .ow h1 (aBh h hv h2)
  | false=>
   rw[hv] at hr;dsimp only at hr
   cases hq:En kF s x ai n with
   |none=>rw[hq] at hr;cases hr
   |some f=>
    rw[hq] at hr;cases hr
    exact Wl h hF hv hq hR
 |.ob x ai off len,c',xs,hr,hR=>by
  unfold rv at hr
  cases hv:wM kO s x ai<;>rw[hv] at hr<;>cases hr
  cases hR with|ob h1 h2=>exact .ob h1 (aBh h hv h2)
 |.pt x ai off,c',xs,hr,hR=>by
  unfold rv at hr
  cases hv:wM kO s x ai<;>rw[hv] at hr<;>cases hr
  cases hR with|pt h1 h2=>exact .pt h1 (aBh h hv h2)
 |.pk x ai off k,c',xs,hr,hR=>by
  unfold rv at hr
  cases hv:wM kO s x ai<;>rw[hv] at hr<;>cases hr
  cases hR with|pk h1 h2=>exact .pk h1 (aBh h hv h2)
 |.pe x ai n i j,c',xs,hr,hR=>by
  unfold rv at hr
  cases hv:wM kO s x ai<;>rw[hv] at hr<;>cases hr
  cases hR with|pe h1 h2=>exact .pe h1 (aBh h hv h2)
 |.pf n len f i j,c',xs,hr,hR=>by
  simp only[rv,Option.some.injEq] at hr;subst hr
  cases hR with
  |pf h1 h2 h3 h4=>exact .pf h1 ⟨aEt h2.1,h2.2⟩ (fun i hi=>(h3 i hi).le wI) h4
 |.fn f first cap,c',xs,hr,hR=>by
  unfold rv at hr
  cases h1:EZ kF kO s first<;>cases h2:EZ kF kO s cap<;>simp only[h1,h2] at hr<;>try (cases hr;done)
  cases hr
  cases hR with
  |fn h3 h4=>exact .fn (Zt h hF h1 h3) (Zt h hF h2 h4)
 |.dv,c',xs,hr,hR=>by
  unfold rv at hr
  cases hv:wM kO s dx 0<;>rw[hv] at hr<;>cases hr
  cases hR with|dv h1 h2=>exact .dv h1 (aBh h hv h2)
 |.any,c',xs,hr,hR=>by
  simp only[rv,Option.some.injEq] at hr;subst hr;cases hR;exact .any (by assumption)
 |.pa len f,c',xs,hr,hR=>by
  simp only[rv,Option.some.injEq] at hr;subst hr
  cases hR with
  |pa h1 h2 h3 h4=>exact .pa h1 ⟨aEt h2.1,h2.2⟩ (fun i hi=>(h3 i hi).le wI) h4
theorem Zt(h:gm A s a w env)(hF:Aa A kF s):∀ {l l':List PC} {xs:List Value},EZ kF kO s l=some l'->RL (aU A w env) l xs->RL (aU A w (ou kO env)) l' xs
 |[],l',xs,hr,hR=>by
  simp only[EZ,Option.some.injEq] at hr;subst hr;cases hR;exact .nil
 |c::l,l',xs,hr,hR=>by
  unfold EZ at hr
  cases h1:rv kF kO s c<;>cases h2:EZ kF kO s l<;>simp only[h1,h2] at hr<;>try (cases hr;done)
  cases hr
  cases hR with
  |cons h3 h4=>exact .cons (Tt h hF h1 h3) (Zt h hF h2 h4)
end
theorem Ia(h:gm A s a w env)(hF:Aa A kF s){x x':PW}{v:Value}(hr:PS kF kO s x=some x')(hR:RW (aU A w env) x v):RW (aU A w (ou kO env)) x' v:=by
 cases hR with
 |@one c _ h1=>
  unfold PS at hr
  cases hq:rv kF kO s c<;>simp only[hq] at hr<;>try (cases hr;done)
  cases hr
  exact .one (Tt h hF hq h1)
 |@agg l _ h1=>
  unfold PS at hr
  cases hq:EZ kF kO s l<;>simp only[hq] at hr<;>try (cases hr;done)
  cases hr;exact .agg (Zt h hF hq h1)
theorem bBy:∀ {l l':List PW} {i:Nat} {x':PW},Bf kF kO s l=some l'->l'[i]?=some x'->∃ x,l[i]?=some x/\PS kF kO s x=some x'
 |[],l',i,x',h,hi=>by simp only[Bf,Option.some.injEq] at h;subst h;simp at hi
 | y::l,l',i,x',h,hi=>by
  unfold Bf at h
  cases h1:PS kF kO s y<;>cases h2:Bf kF kO s l<;>simp only[h1,h2] at h<;>try (cases h;done)
  rename_i y' l2;cases h
  cases i with
  |zero=>
   obtain rfl:y'=x':=by simpa using hi
   exact⟨y,rfl,h1⟩
  |succ i=>
   obtain⟨x,h3,h4⟩:=bBy h2 (by simpa using hi:l2[i]?=some x')
   exact⟨x,by simpa using h3,h4⟩
theorem aUr:∀ {l l':List PW},Bf kF kO s l=some l'->l.length=l'.length
 |[],l',h=>by simp only[Bf,Option.some.injEq] at h;subst h;rfl
 |y::l,l',h=>by
  unfold Bf at h
  cases h1:PS kF kO s y<;>cases h2:Bf kF kO s l<;>simp only[h1,h2] at h<;>try (cases h;done)
  cases h;rw[List.length_cons,List.length_cons,aUr h2]
theorem Ib(h:gm A s a w env)(hF:Aa A kF s){x x':PV}{v:Value}(hr:Um kF kO s x=some x')(hR:RV (aU A w env) x v):RV (aU A w (ou kO env)) x' v:=by
 cases hR with
 |@w x _ h1=>
  unfold Um at hr
  cases hq:PS kF kO s x<;>simp only[hq] at hr<;>try (cases hr;done)
  cases hr
  exact .w (Ia h hF hq h1)
 |@lw l _ hl h1=>
  unfold Um at hr
  cases hq:Bf kF kO s l<;>simp only[hq] at hr<;>try (cases hr;done)
  cases hr;refine .lw (by rw[<-aUr hq];exact hl) (fun i x' hi=>?_);obtain⟨x,h3,h4⟩:=bBy hq hi;obtain⟨v,h5,h6⟩:=h1 i x h3
  exact⟨v,h5,Ia h hF h4 h6⟩
 |none=>
  simp only[Um,Option.some.injEq] at hr;subst hr;exact .none
theorem zS:∀ {kT:List Nat} {l:List (Nat×Option Bool×PV)} {t:Nat} {g:Option Bool} {pv:PV},Fv kF kO s kT=some l->find l t=some (g,pv)->∃ v,find s.t t=some (g,v)/\Um kF kO s v=some pv
 |[],l,t,g,pv,h,hf=>by simp only[Fv,Option.some.injEq] at h;subst h;cases hf
 | t0::kT,l,t,g,pv,h,hf=>by
  unfold Fv at h
  cases h1:find s.t t0<;>cases h2:Fv kF kO s kT<;>simp only[h1,h2] at h<;>try (cases h;done)
  rename_i p r;obtain⟨g0,v0⟩:=p;dsimp only at h
  cases h3:Um kF kO s v0<;>simp only[h3] at h<;>try (cases h;done)
  cases h
  by_cases ht:t0=t
  ·subst ht;rw[aJ] at hf;cases hf
   exact⟨v0,h1,h3⟩
  ·rw[aN _ _ ht] at hf;exact zS h2 hf
theorem aCx:∀ {l:List Nat} {cs:List Prop} {r:Wr} {x:Nat},TI kF kO s l=some (cs,r)->(find r x=none->¬(l.any (Nat.beq x)=true))/\∀ g ai ob,find r x=some (g,ai,ob)->ai=0/\l.any (Nat.beq x)=true/\∃ vr CO c,find s.o x=some (g,vr,CO)/\Ic kF kO s CO=some (c,ob)/\(All cs->All c)
 |[],cs,r,x,h=>by
  simp only[TI,Option.some.injEq,Prod.mk.injEq] at h;obtain⟨rfl,rfl⟩:=h
  exact⟨fun _=>by simp,fun g ai ob hf=>by cases hf⟩
 | x0::l,cs,r,x,h=>by
  unfold TI at h
  cases h1:find s.o x0<;>cases h2:TI kF kO s l<;>simp only[h1,h2] at h<;>try (cases h;done)
  rename_i p q;obtain⟨g0,vr0,CO⟩:=p;obtain⟨cs2,r2⟩:=q;dsimp only at h
  cases h3:Ic kF kO s CO<;>simp only[h3] at h<;>try (cases h;done)
  rename_i z;obtain⟨c,ob'⟩:=z;cases h
  have allL:∀ {a b:List Prop},All (a++b)->All a/\All b:=by
   intro a
   induction a with
   |nil=>intro b h;exact⟨trivial,h⟩
   |cons p a ih=>intro b h;exact⟨⟨h.1,(ih h.2).1⟩,(ih h.2).2⟩
  by_cases hx:x0=x
  ·subst hx
   refine⟨fun hf=>(by rw[aJ] at hf;cases hf),fun g ai ob hf=>?_⟩
   rw[aJ] at hf;cases hf
   exact⟨rfl,by simp,vr0,CO,c,h1,h3,fun h=>(allL h).1⟩
  ·have ih:=aCx (x:=x) h2
   refine⟨fun hf=>?_,fun g ai ob hf=>?_⟩
   ·rw[aN _ _ hx] at hf;have:=ih.1 hf;rw[List.any_cons];simp only[Bool.or_eq_true,not_or]
    exact⟨fun e=>hx (gy e).symm,this⟩
   ·rw[aN _ _ hx] at hf;obtain⟨h4,h5,vr,ob1,c1,h6,h7,h8⟩:=ih.2 g ai ob hf
    exact⟨h4,by rw[List.any_cons,h5,Bool.or_true],vr,ob1,c1,h6,h7,fun h=>h8 (allL h).2⟩
theorem aUs(h:gm A s a w env)(hF:Aa A kF s){ob ob':og}{c:List Prop}{hd:Value}(hr:Ic kF kO s ob=some (c,ob'))(hc:All c)(hO:Ey (aU A w env) hd ob):Ey (aU A w (ou kO env)) hd ob':=by
 cases ob with
 |dead=>simp only[Ic,Option.some.injEq,Prod.mk.injEq] at hr;obtain⟨_,rfl⟩:=hr;trivial
 |dev O di l=>simp only[Ic,Option.some.injEq,Prod.mk.injEq] at hr;obtain⟨_,rfl⟩:=hr;trivial
 |box t l=>
  unfold Ic at hr
  cases hq:EZ kF kO s l<;>simp only[hq] at hr<;>try (cases hr;done)
  cases hr;obtain⟨g,cs,rfl,h1,h2⟩:=hO
  exact⟨g,cs,rfl,h1,Zt h hF hq h2⟩
 |arr e n len f=>
  simp only[Ic,Option.some.injEq,Prod.mk.injEq] at hr;obtain⟨rfl,rfl⟩:=hr;obtain⟨vs,h1,h2⟩:=hO
  exact⟨vs,h1,fun i hi=>(jF (h2 i hi) (hc.1 i hi)).le aQi⟩
theorem aDa{α:Type}:∀ {l:List (Nat×α)} {x:Nat} {p:α},find l x=some p->(x,p)∈l
 |(k,y)::l,x,p,h=>by
  by_cases hk:k=x
  ·subst hk;rw[aJ] at h;cases h;exact List.mem_cons_self
  ·rw[aN _ _ hk] at h;exact List.mem_cons_of_mem _ (aDa h)
theorem aMp:∀ {a b:List Prop},All (a++b)->All a/\All b:=by
 intro a
 induction a with
 |nil=>intro b h;exact⟨trivial,h⟩
 |cons p a ih=>intro b h;exact⟨⟨h.1,(ih h.2).1⟩,(ih h.2).2⟩
theorem o7.Iy{kT:List Nat}{cs:List Prop}{s':St}(h:o7 A s a w)(hSF:kF=[]\/A.S=Non)(hr:aKp kF kT kO s=some (cs,s'))(hcA:All cs):o7 A s' a w:=by
 obtain⟨env,h⟩:=h;unfold aKp at hr
 cases h1:Fv kF kO s kT<;>cases h2:TI kF kO s kO<;>cases h3:aBa kO s<;>cases h4:UO s kF<;>simp only[h1,h2,h3,h4] at hr<;>try (cases hr;done)
 rename_i t q cf;obtain⟨cs',o⟩:=q;cases hr;have hc:All cs':=(aMp hcA).1
 have hF:Aa A kF s:=by
  rcases hSF with rfl|hS
  ·exact Aa.nil
  ·exact aLl hS h4 (aMp hcA).2
 refine⟨ou kO env,{ gu:=h.gu,size:=h.size,dom:=fun x hx=>?_,ji:=fun x g ai ob hf=>?_,live:=fun x ai hd b he hb=>?_,inj:=fun x y v1 h1 v2 h2 b he1 he2 hb1 hb2=>?_,tmps:=fun t' g pv hf hg=>?_,defers:=h.defers,und:=fun t' pv hf=>(by obtain⟨v,h4,_⟩:=zS h1 hf;exact h.und t' v h4),l_:=fun x hd hx=>?_,dev:=fun g ai O di l hf hg=>?_ }⟩
 ·have:=(aCx (x:=x) h2).1 hx;unfold ou
  cases hb:kO.any (Nat.beq x) with
  |true=>exact absurd hb this
  |false=>rfl
 ·obtain⟨rfl,hk,vr,CO,c,h4,h5,h6⟩:=(aCx (x:=x) h2).2 g ai ob hf;obtain⟨hd,h7,h8⟩:=h.ji x g vr CO h4
  refine⟨hd,?_,fun hg=>aUs h hF h5 (h6 hc) (h8 hg)⟩
  unfold ou;rw[hk,h7];rfl
 ·unfold ou at he
  split at he
  ·cases hx:env x with
   |none=>rw[hx] at he;cases he
   |some p=>obtain⟨v,hd'⟩:=p;rw[hx] at he;cases he;exact h.live x v _ b hx hb
  ·cases he
 ·unfold ou at he1 he2
  split at he1
  ·split at he2
   ·cases hx:env x with
    |none=>rw[hx] at he1;cases he1
    |some p=>
     cases hy:env y with
     |none=>rw[hy] at he2;cases he2
     |some q=>obtain⟨v,hd'⟩:=p;obtain⟨v2',aNZ⟩:=q;rw[hx] at he1;rw[hy] at he2;cases he1;cases he2;exact h.inj x y v _ v2' _ b hx hy hb1 hb2
   ·cases he2
  ·cases he1
 ·obtain⟨v,h4,h5⟩:=zS h1 hf;obtain⟨val,h6,h7⟩:=h.tmps t' g v h4 hg
  exact⟨val,h6,Ib h hF h5 h7⟩
 ·obtain⟨hb,ha⟩:=h.l_ x hd hx
  refine⟨hb,?_⟩
  obtain⟨vr,hd',h4,_,h5⟩:=ha;have h4':env x=some (vr,hd'):=h4
  cases hf:find s.o x with
  |none=>rw[h.dom x hf] at h4';cases h4'
  |some p=>
   obtain⟨g,Ue,ob⟩:=p;have h6:=List.all_eq_true.1 h3 _ (aDa hf);dsimp only at h6;rw[hb] at h6;rw[Bool.and_eq_true] at h6;obtain⟨hd2,h7,_⟩:=h.ji x g Ue ob hf;rw[h4'] at h7;cases h7
   refine⟨0,hd',?_,Nat.le_refl _,fun _=>h5 (gy h6.2).symm⟩
   show ou kO env x=some (0,hd');unfold ou;rw[h6.1,h4'];rfl
 ·obtain⟨rfl,hk,vr,CO,c,h4,h5,h6⟩:=(aCx (x:=dx) h2).2 g ai _ hf
  have h7:CO=.dev O di l:=by
   cases CO<;>simp only[Ic] at h5
   ·split at h5<;>cases h5
   ·cases h5
   ·cases h5
   ·cases h5;rfl
  subst h7;obtain⟨h8,h9,h10⟩:=h.dev g vr O di l h4 hg
  refine⟨h8,h9,A.dv.grow _ _ _ _ _ h10 (dm.refl _ _) (fun b hb=>.inl ?_)⟩
  rcases hb with hb|⟨y,v2,hd2,h11,h12⟩
  ·exact .inl hb
  ·unfold ou at h11
   split at h11
   ·cases hy:env y with
    |none=>rw[hy] at h11;cases h11
    |some p=>obtain⟨v,hd'⟩:=p;rw[hy] at h11;cases h11;exact .inr ⟨y,v,_,hy,h12⟩
   ·cases h11
theorem o7.reset{kT:List Nat}{cs:List Prop}{s':St}(h:o7 A s a w)(hr:bCm kT kO s=some (cs,s'))(hc:All cs):o7 A s' a w:=by
 refine h.Iy (kF:=[]) (kT:=kT) (kO:=kO) (cs:=cs) (.inl rfl) ?_ hc;unfold bCm at hr;unfold aKp UO
 cases h1:Fv [] kO s kT<;>cases h2:TI [] kO s kO<;>cases h3:aBa kO s<;>simp only[h1,h2,h3] at hr<;>try (cases hr;done)
 cases hr;simp
inductive BK:og->og->Prop where
 |box {t:TypeId} {l l':List PC} (h:l=l'):BK (.box t l) (.box t l')
 |arr {e n len len':Nat} {f f':Nat->List PC} (hl:len=len') (h:∀ i,i<len->f i=f' i):BK (.arr e n len f) (.arr e n len' f')
 |dead {o:og}:BK o .dead
 |dev {O:List Acc->Option je} {di:List Acc->Prop} {l l':List Acc} (h:l=l'):BK (.dev O di l) (.dev O di l')
inductive Cc:List (Nat×Option Bool×PV)->List (Nat×Option Bool×PV)->Prop where
 |nil:Cc [] []
 |cons {t:Nat} {g:Option Bool} {v v':PV} {l l':List (Nat×Option Bool×PV)} (h:v=v') (hl:Cc l l'):Cc ((t,g,v)::l) ((t,g,v')::l')
inductive Cb:Wr->Wr->Prop where
 |nil:Cb [] []
 |cons {x ai:Nat} {g:Option Bool} {o o':og} {l l':Wr} (h:BK o o') (hl:Cb l l'):Cb ((x,g,ai,o)::l) ((x,g,ai,o')::l')
theorem Cc.eq{l l':List (Nat×Option Bool×PV)}(h:Cc l l'):l=l':=by
 induction h with
 |nil=>rfl
 |cons h _ ih=>rw[h,ih]
theorem Cb.find{l l':Wr}(h:Cb l l')(x:Nat):(find l x=none/\find l' x=none)\/∃ g ai o o',find l x=some (g,ai,o)/\find l' x=some (g,ai,o')/\BK o o':=by
 induction h with
 |nil=>exact .inl ⟨rfl,rfl⟩
 |@cons y ai g o o' l l' h _ ih=>
  by_cases hy:y=x
  ·subst hy;exact .inr ⟨g,ai,o,o',aJ _ _ _,aJ _ _ _,h⟩
  ·rw[aN _ _ hy,aN _ _ hy];exact ih
theorem BK.ok{C:Ctx}{hd:Value}{o o':og}(h:BK o o')(hO:Ey C hd o):Ey C hd o':=by
 cases h with
 |box h=>rw[<-h];exact hO
 |arr hl h=>
  subst hl;obtain⟨vs,h1,h2⟩:=hO
  exact⟨vs,h1,fun i hi=>by rw[<-h i hi];exact h2 i hi⟩
 |dead=>trivial
 |dev _=>trivial
theorem o7.same{s':St}(h:o7 A s a w)(hT:Cc s.t s'.t)(hO:Cb s.o s'.o):o7 A s' a w:=by
 obtain⟨env,h⟩:=h
 refine⟨env,{ gu:=h.gu,size:=h.size,dom:=fun x hx=>?_,ji:=fun x g ai ob hf=>?_,live:=h.live,inj:=h.inj,tmps:=fun t g pv hf=>?_,defers:=h.defers,und:=fun t pv hf=>(by rw[<-hT.eq] at hf;exact h.und t pv hf),l_:=h.l_,dev:=fun g ai O di l hf hg=>?_ }⟩
 ·rcases hO.find x with h1|⟨g,ai,o,o',_,h2,_⟩
  ·exact h.dom x h1.1
  ·rw[h2] at hx;cases hx
 ·rcases hO.find x with h1|⟨g',uh,o,o',h1,h2,h3⟩
  ·rw[h1.2] at hf;cases hf
  ·rw[h2] at hf;cases hf;obtain⟨hd,h4,h5⟩:=h.ji x _ _ o h1
   exact⟨hd,h4,fun hg=>h3.ok (h5 hg)⟩
 ·rw[<-hT.eq] at hf;exact h.tmps t g pv hf
 ·rcases hO.find dx with h1|⟨g',uh,o,o',h1,h2,h3⟩
  ·rw[h1.2] at hf;cases hf
  ·rw[h2] at hf;cases hf
   cases h3 with
   |dev e=>subst e;exact h.dev g ai _ _ _ h1 hg
theorem o7.nilRow{x e n t:Nat}(h:o7 A s a w)(hx:find s.o x=none)(ht:find s.t t=some (none,jo (.slice none 0 0))):o7 A { t:=(t,none,dn (.ow x 0 n 0 0))::s.t,o:=(x,none,0,.arr e n 0 (fun _=>[]))::s.o } a w:=by
 obtain⟨env,h⟩:=h
 have hfr:fresh s x=0:=by unfold fresh;rw[hx]
 obtain⟨h1,h2⟩:=h.new (w':=w) x none (.slice none 0 0) (.arr e n 0 (fun _=>[])) (Ext.refl w) (fun b hb=>by cases hb) (fun _ _=>⟨[],⟨by simp,.inl ⟨rfl,rfl⟩⟩,fun i hi=>by omega⟩);rw[hfr] at h1 h2
 refine⟨_,{ h1 with tmps:=fun t' g pv hf hg=>?_,und:=fun t' pv hf=>?_ }⟩
 rotate_left 1
 ·by_cases ht':t=t'
  ·subst ht';rw[aJ] at hf;cases hf
  ·rw[aN _ _ ht'] at hf;exact h1.und t' pv hf
 by_cases ht':t=t'
 ·subst ht';rw[aJ] at hf;cases hf;obtain⟨v,h3,h4⟩:=h.tmps t none _ ht trivial;have:=h4.dw;subst this
  exact⟨_,h3,.w (.one (.ow ⟨_,_,rfl⟩ ⟨0,_,iE _ _ _ _,Nat.le_refl _,fun _=>⟨none,0,0,rfl,by omega,rfl⟩⟩))⟩
 ·rw[aN _ _ ht'] at hf;exact h1.tmps t' g pv hf hg
end
theorem RL.aBX{C:Ctx}{c c':PC}{l2:List PC}(hc:∀ ys,R C c ys->R C c' ys):∀ {l1:List PC} {xs:List Value},RL C (l1++c::l2) xs->RL C (l1++c'::l2) xs
 |[],_,h=>by cases h with|cons h1 h2=>exact .cons (hc _ h1) h2
 |_::l1,_,h=>by cases h with|cons h1 h2=>exact .cons h1 (RL.aBX hc (l1:=l1) h2)
theorem o7.D6{A:kz}{s:St}{a:Act}{w:World}{x e n b vr ty:Nat}{l1 l2:List PC}(h:o7 A s a w)(hx:find s.o x=none)(hb:find s.o b=some (none,vr,.box ty (l1++.lit (.slice none 0 0)::l2))) :
  o7 A { t:=s.t,o:=(b,none,vr,.box ty (l1++.ow x 0 n 0 0::l2))::(x,none,0,.arr e n 0 (fun _=>[]))::s.o } a w:=by
 obtain⟨env,h⟩:=h
 have hfr:fresh s x=0:=by unfold fresh;rw[hx]
 obtain⟨h1,h2⟩:=h.new (w':=w) x none (.slice none 0 0) (.arr e n 0 (fun _=>[])) (Ext.refl w) (fun b hb=>by cases hb) (fun _ _=>⟨[],⟨by simp,.inl ⟨rfl,rfl⟩⟩,fun i hi=>by omega⟩);rw[hfr] at h1 h2
 have hxb:x≠b:=fun e=>by subst e;rw[hx] at hb;cases hb
 refine⟨_,{ h1 with dom:=fun x' hf=>?_,ji:=fun x' g ai o hf=>?_,tmps:=fun t' g pv hf hg=>h1.tmps t' g pv hf hg,dev:=fun g ai O di l hf hg=>?_ }⟩
 ·by_cases hbx:b=x'
  ·subst hbx;rw[aJ] at hf;cases hf
  ·rw[aN _ _ hbx] at hf;exact h1.dom x' hf
 ·by_cases hbx:b=x'
  ·subst hbx;rw[aJ] at hf;cases hf;obtain⟨hd,h3,h4⟩:=h1.ji b none vr _ (show find ((x,none,0,og.arr e n 0 (fun _=>[]))::s.o) b=_ by rw[aN _ _ hxb];exact hb)
   refine⟨hd,h3,fun hg=>?_⟩
   obtain⟨g,cs,rfl,h5,h6⟩:=h4 hg
   refine⟨g,cs,rfl,h5,h6.aBX (fun ys hr=>?_)⟩
   cases hr;exact .ow ⟨_,_,rfl⟩ ⟨0,_,iE _ _ _ _,Nat.le_refl _,fun _=>⟨none,0,0,rfl,by omega,rfl⟩⟩
  ·rw[aN _ _ hbx] at hf;exact h1.ji x' g ai o hf
 ·by_cases hbx:b=dx
  ·subst hbx;rw[aJ] at hf;cases hf
  ·rw[aN _ _ hbx] at hf;exact h1.dev g ai O di l hf hg
theorem aWx{k:Nat}{f g f2:Nat->List PC}(h1:∀ i,i<k->f i=f2 i)(h2:g 0=f2 k):∀ i,i<k+1->qm k f g i=f2 i:=fun i hi=>by
 unfold qm
 by_cases h:i<k
 ·rw[if_pos h];exact h1 i h
 ·obtain rfl:i=k:=by omega
  rw[if_neg h,Nat.sub_self];exact h2
theorem bIa{k:Nat}{f g:Nat->List PC}(h1:∀ i,i<k->∀ x∈f i,dG false x=true)(h2:∀ x∈g 0,dG false x=true):∀ i,i<k+1->∀ x∈qm k f g i,dG false x=true:=fun i hi x hx=>by
 unfold qm at hx
 by_cases h:i<k
 ·rw[if_pos h] at hx;exact h1 i h x hx
 ·obtain rfl:i=k:=by omega
  rw[if_neg h,Nat.sub_self] at hx;exact h2 x hx
theorem qG{c:PC}(h:dG false c=true):∀ x∈[c],dG false x=true:=fun x hx=>by
 rw[List.mem_singleton.1 hx];exact h
end Pv
namespace Pv
section
variable {P:Program} {I:World->Prop} {A:kz} {s:St} {a:Act} {w:World} {env:Env} {F:Option Bool->PV->Wr->Prop}
theorem gm.A_(h:gm A s a w env)(nm:Nat)(e n len:Nat){f:Nat->List PC}{v:Value}{xs:List Value}{w':World}(hE:Ext w w')(ho:w'.ownsRow w.heap.size e n v len xs)(hr:∀ C:Ctx,∀ i,i<len->RL C (f i) ((xs.drop (i*n)).take n)) :
  ∃ env',gm A { s with o:=[(nm,none,fresh s nm,.arr e n len f)]++s.o } a w' env'/\RV (aU A w' env') (dn (.ow nm (fresh s nm) n 0 len)) v:=by
 have ho0:w'.ownsRow 0 e n v len xs:=⟨ho.1,ho.2.imp id (fun⟨g,cap,cur,h1,_,h3⟩=>⟨g,cap,cur,h1,Nat.zero_le _,h3⟩)⟩;obtain⟨A0,c0,rfl⟩:=nS ho
 obtain⟨h1,h2⟩:=h.new (w':=w') nm none (.slice A0 len c0) (.arr e n len f) hE (fun b hb=>by
   have hb':(Value.slice A0 len c0).ownBlock=some b:=by cases A0<;>exact hb
   exact⟨(ho.lt b hb').2,(ho.lt b hb').1⟩)
  (fun hle _=>⟨xs,xQ ho0,fun i hi=>hr _ i hi⟩)
 refine⟨_,h1,.w (.one (.ow ⟨_,_,rfl⟩ ⟨_,_,iE _ _ _ _,Nat.le_refl _,fun _=>⟨_,_,_,rfl,by omega,?_⟩⟩))⟩
 cases A0 with
 |none=>simp
 |some ad=>simp[Addr.add]
def Ro (c:PC) (k:PC->M):M:=match c with
 |.lit v=>k (.lit v)
 |.bs n l=>k (.bs n l)
 |.sl n len f=>k (.sl n len f)
 | .ow x ai n off len=>.obj x fun g vr ob=>jE g (match Nat.beq ai vr,ob with
  |true,.arr _ m tot f=>(match Nat.beq n m with
   |true=>.need (off+len<=tot/\∀ i,i<len->(f (off+i)).all (dG false)=true) (k (.sl n len (fun i=>f (off+i))))
   |false=>.fail)
  |_,_=>.fail)
 | .ob x ai off len=>.obj x fun g vr ob=>jE g (match Nat.beq ai vr,ob with
  | true,.box _ l=>(match uo l off with
   |some (m,bs)=>(match Nat.beq len m with
    |true=>k (.sl 1 len (p_ bs))
    |false=>.fail)
   |none=>.fail)
  |_,_=>.fail)
 |.any=>k .any
 |_=>.fail
def X3:List PC->(List PC->M)->M
 |[],k=>k []
 |c::l,k=>Ro c fun c=>X3 l fun l=>k (c::l)
def Wy(v:PV)(k:PV->M):M:=match v with
 |.w (.one c)=>Ro c fun c=>k (.w (.one c))
 |.w (.agg l)=>X3 l fun l=>k (.w (.agg l))
 |_=>.fail
def Ep:List PV->(List PV->M)->M
 |[],k=>k []
 |v::l,k=>Wy v fun v=>Ep l fun l=>k (v::l)
def aQu(w:World):Ctx:={ w,ok:=fun _=>True,env:=fun _=>none }
theorem aQj:(aU A w env).cold.Le (aQu w).cold:=⟨Nat.le_refl _,fun b _ _=>⟨trivial,rfl⟩,fun _ _ _ h=>by cases h⟩
theorem bGc(h:gm A s a w env){c:PC}{xs:List Value}(hr:R (aU A w env) c xs){k:PC->M}(hk:(Ro c k).ok none s F):∃ c',R (aQu w) c' xs/\(k c').ok none s F:=by
 unfold Ro at hk
 split at hk
 ·cases hr;exact⟨_,.lit (by assumption),hk⟩
 ·cases hr;exact⟨_,.bs (by assumption),hk⟩
 ·cases hr with
  |sl h1 h2 h3=>exact⟨_,.sl h1 (fun g hg hl=>⟨trivial,(h2 g hg hl).2⟩) (fun i hi=>(h3 i hi).le aQj),hk⟩
 ·rename_i x ai n off len;obtain⟨g,vr,ob,hfo,hk⟩:=hk;have hk2:=dU hk;clear hk;obtain⟨hg,hk⟩:=hk2;obtain⟨hd,hev,hob⟩:=jQ h hfo hg
  cases hb:Nat.beq ai vr<;>cases ob<;>simp only[hb] at hk<;>try exact hk.elim
  rename_i e m tot f
  obtain rfl:=gy hb
  cases hb4:Nat.beq n m<;>rw[hb4] at hk
  ·exact hk.elim
  obtain rfl:=gy hb4
  obtain⟨⟨hle,vk⟩,hk⟩:=hk
  cases hr with
  | ow h1 hat=>
   obtain⟨A0,n0,c0,rfl,hle0,rfl⟩:=hat.now hev;obtain⟨vs,hown,hel⟩:=hob;have hrd:=Reads.vg hown
   have hn0:n0=tot:=by
    obtain⟨_,A1,c1,e1,_⟩:=hrd
    cases e1;rfl
   subst hn0
   refine⟨_,.sl (vs:=(vs.drop (off*n)).take (len*n)) (mP hle hrd) (fun b hb hlt=>⟨trivial,?_⟩) (fun i hi=>?_),hk⟩
   ·cases A0 with
    |none=>simp[Value.ownBlock] at hb
    |some ad=>
     simp only[Option.map_some,Value.ownBlock,Option.some.injEq,qH] at hb;exact (h.live x ai _ b hev (by simp[hblk,hb])).1
   ·rw[jL vs hi];exact (jF (hel _ (by omega)) (vk i hi)).le aQj
 ·rename_i x ai off len;obtain⟨g,vr,ob,hfo,hk⟩:=hk;have hk2:=dU hk;clear hk;obtain⟨hg,hk⟩:=hk2;obtain⟨hd,hev,hob⟩:=jQ h hfo hg
  cases hb:Nat.beq ai vr<;>cases ob<;>simp only[hb] at hk<;>try exact hk.elim
  rename_i bt l
  obtain rfl:=gy hb
  cases hs:uo l off with
  |none=>rw[hs] at hk;exact hk.elim
  | some q=>
   obtain⟨m,bs⟩:=q;rw[hs] at hk;dsimp only at hk
   cases hb2:Nat.beq len m<;>rw[hb2] at hk
   ·exact hk.elim
   obtain rfl:=gy hb2
   cases hr with
   |ob h1 hat=>
    obtain⟨g1,c,rfl,hc1,hc2,rfl⟩:=hat.now hev;obtain⟨g2,cs,e2,hB,hR⟩:=hob;cases e2;obtain⟨k1,k2,k3⟩:=oQ hR hs;have hrg:=jC hB.range off len;rw[Nat.zero_add,k2] at hrg
    refine⟨_,.sl (vs:=bs.map o9) ⟨by simp[k1],_,c,rfl,hc1,hc2,fun hn=>⟨g1,off,rfl,fun j u hj=>hrg j u hj⟩⟩ (fun b hb _=>⟨trivial,?_⟩) (fun i hi=>nZ _ bs i (by omega)),hk⟩
    simp only[Value.ownBlock,Option.some.injEq] at hb;subst hb;exact hB.lt
 ·cases hr;exact⟨_,.any (by assumption),hk⟩
 ·exact hk.elim
theorem bGb(h:gm A s a w env):∀ {l:List PC} {xs:List Value} {k:List PC->M},RL (aU A w env) l xs->(X3 l k).ok none s F->∃ l',RL (aQu w) l' xs/\(k l').ok none s F
 |[],_,k,hr,hk=>by cases hr;exact⟨[],.nil,hk⟩
 | c::l,_,k,hr,hk=>by
  cases hr with
  |cons h1 h2=>
   obtain⟨c',h3,hk2⟩:=bGc h h1 hk;obtain⟨l',h4,hk3⟩:=bGb h h2 hk2
   exact⟨c'::l',.cons h3 h4,hk3⟩
theorem Rn(h:gm A s a w env){v:PV}{val:Value}{k:PV->M}(hr:RV (aU A w env) v val)(hk:(Wy v k).ok none s F):∃ v',RV (aQu w) v' val/\(k v').ok none s F:=by
 unfold Wy at hk
 split at hk
 ·obtain⟨c',h1,h2⟩:=bGc h hr.inv hk
  exact⟨_,.w (.one h1),h2⟩
 ·cases hr with
  | w hr=>cases hr with
   |agg hr=>
    obtain⟨l',h1,h2⟩:=bGb h hr hk
    exact⟨_,.w (.agg h1),h2⟩
 ·exact hk.elim
theorem aLy(h:gm A s a w env):∀ {vs:List PV} {l:List Value} {k:List PV->M},mg (aU A w env) vs l->(Ep vs k).ok none s F->∃ vs',mg (aQu w) vs' l/\(k vs').ok none s F
 |[],[],k,_,hk=>⟨[],trivial,hk⟩
 |[],_::_,_,h,_=>h.elim
 |_::_,[],_,h,_=>h.elim
 |v::vs,x::l,k,⟨h1,h2⟩,hk=>by
  obtain⟨v',h3,hk2⟩:=Rn h h1 hk;obtain⟨vs',h4,hk3⟩:=aLy h h2 hk2
  exact⟨v'::vs',⟨h3,h4⟩,hk3⟩
def sN:PV->Bool
 |.w (.one c)=>dG false c
 |.w (.agg l)=>l.all (dG false)
 |_=>false
def bD(new:Bool)(g:List PV->Option (Prop×PV)):Spec:=fun _ xs=>match new with
 |true=>Ep xs fun ys=>(match g ys with
  |some (p,r)=>.need p (.ret r)
  |none=>.fail)
 |false=>(match xs.all sN,g xs with
  |true,some (p,r)=>.need p (.ret r)
  |_,_=>.fail)
theorem aWo{C:Ctx}{v:PV}{x:Value}(h:RV C v x)(hc:sN v=true):RV C.cold v x:=by
 unfold sN at hc
 split at hc
 ·exact .w (.one (aGf h.inv hc))
 ·cases h with
  |w h=>cases h with
   |agg h=>exact .w (.agg (jF h hc))
 ·cases hc
theorem aGe{C:Ctx}:∀ {vs:List PV} {l:List Value},mg C vs l->vs.all sN=true->mg C.cold vs l
 |[],[],_,_=>trivial
 |[],_::_,h,_=>h.elim
 |_::_,[],h,_=>h.elim
 |v::vs,x::l,⟨h1,h2⟩,hc=>by
  rw[List.all_cons,Bool.and_eq_true] at hc
  exact⟨aWo h1 hc.1,aGe h2 hc.2⟩
theorem bCo(h:gm A s a w env){w':World}(_:Ext w w'){new:Bool}:({ w:=w',ok:=fun b=>(new=false/\(aU A w env).ok b)\/w.heap.size<=b,env:=fun _=>none }:Ctx).Le (aU A w' env):=
 ⟨
  Nat.le_refl _,fun b _ hb=>⟨(by
  rcases hb with⟨_,hb⟩|hb
  ·exact hb
  ·exact⟨.inr (Nat.le_trans h.gu.size hb),fun x ai hd he hbl=>by have:=(h.live x ai hd b he hbl).1;omega⟩),rfl⟩,fun _ _ _ h=>by cases h⟩
theorem bC{f:Nat}{new:Bool}{g:List PV->Option (Prop×PV)}(hent:∀ args w,(callFunc f args).run P w=.ok (.enter f args) w)(hg:∀ xs p r,g xs=some (p,r)->p->gQ P I f new xs r):aj P I f (bD new g):=by
 refine⟨hent,fun A s a w env nm uq vs F h hI hv hk=>?_⟩
 unfold bD at hk
 cases new with
 | true=>
  obtain⟨ys,h1,hk⟩:=aLy h hv hk
  cases hq:g ys with
  |none=>rw[hq] at hk;exact hk.elim
  |some q=>
   obtain⟨p,r⟩:=q;rw[hq] at hk;obtain⟨hp,hF⟩:=hk;refine (hg ys p r hq hp w (fun _=>True) vs (hI.mem w h.gu) h1).mono ?_;rintro e w' ⟨val,rfl,hE,hr⟩;refine .inl ⟨r,[],val,env,rfl,hF,h.ext hE,hr.le ⟨Nat.le_refl _,fun b hb hok=>?_,fun _ _ _ h=>by cases h⟩⟩
   exact (bCo (new:=true) h hE).blk b hb (hok.elim (fun h=>by cases h.1) (fun h=>.inr h))
 |false=>
  dsimp only at hk
  cases hc:uq.all sN<;>cases hq:g uq<;>simp only[hc,hq] at hk<;>try exact hk.elim
  rename_i q;obtain⟨p,r⟩:=q;obtain⟨hp,hF⟩:=hk;refine (hg uq p r hq hp w (aU A w env).ok vs (hI.mem w h.gu) (aGe hv hc)).mono ?_;rintro e w' ⟨val,rfl,hE,hr⟩;exact .inl ⟨r,[],val,env,rfl,hF,h.ext hE,hr.le (bCo (new:=false) h hE)⟩
end
theorem bFs{C C':Ctx}:∀ {l:List PC} {xs:List Value},RL C l xs->l.all (dG true)=true->RL C' l xs
 |[],_,h,_=>by cases h;exact .nil
 | c::l,xs,h,hc=>by
  rw[List.all_cons,Bool.and_eq_true] at hc
  cases h with
  |cons h3 h4=>
   refine .cons ?_ (bFs h4 hc.2);have hc1:=hc.1
   cases h3<;>first|exact .lit (by assumption)|exact .bs (by assumption)|(cases hc1;done)
def Xe(P:Program)(I:World->Prop)(f:Nat)(args:List PV)(e n len:Nat)(f':Nat->List PC):Prop:=
 ∀ (w:World) (ok0:Nat->Prop) (vs:List Value),I w->mg { w,ok:=ok0,env:=fun _=>none } args vs ->
  Calls P f vs.toArray w fun r w'=>∃ val xs,r=.returned val/\Ext w w'/\w'.ownsRow w.heap.size e n val len xs/\∀ (C:Ctx) i,i<len->RL C (f' i) ((xs.drop (i*n)).take n)
def OJ(P:Program)(fn:Func)(e n len:Nat)(f':Nat->List PC)(s:St):Prop:=
 ∃ x ai g f,(Az P fn.results).ok none s (fun _ v' wr=>v'=dn (.ow x ai n 0 len)/\wr=[])/\find s.o x=some (g,ai,.arr e n len f)/\gT g/\∀ i,i<len->f i=f' i/\(f' i).all (dG true)=true
def RQR(P:Program)(A:kz)(fn:Func)(e n len:Nat)(f':Nat->List PC):Exit->Act->World->Prop
 |.panic chain,a,w=>a.defers=[]/\DF A chain w
 |x,a,w=>(x=.normal\/x=.ret)/\∃ s,OJ P fn e n len f' s/\o7 A s a w
theorem aUv{P:Program}{fn:Func}{e n len x ai:Nat}{g:Option Bool}{f f':Nat->List PC}{s:St}{out:Out}(h:(Az P fn.results).exec none s [] [] [] []=some out)(hc:All out.conds)(hw:out.wr=[])(hx:out.val=dn (.ow x ai n 0 len))(hf:find s.o x=some (g,ai,.arr e n len f))(hg:gT g)(RF:∀ i,i<len->f i=f' i/\(f' i).all (dG true)=true):OJ P fn e n len f' s:=by
 rw[zY] at h
 exact⟨x,ai,g,f,M.yc _ none s out _ h (fun p hp=>hc.mem p hp) ⟨hx,hw⟩,hf,hg,RF⟩
theorem aPo{P:Program}{I:World->Prop}{f:Nat}{fn:Func}{c:Code}{args:List PV}{e n len:Nat}{f':Nat->List PC}(hf:P.funcs[f]?=some fn)(hb:fn.body=some c)(hnb:Nat.ble args.length fn.ntmps=true)(hI:∀ w w',Ext w w'->I w->I w')
  (hT:∀ A:kz,A.S=Non->A.nt=fn.ntmps->mi P I A->ja P A ⟨slots 0 args,[]⟩ c (RQR P A fn e n len f')) (hmk:Nat.blt e FM=true:=by rfl):Xe P I f args e n len f':=by
 intro w ok0 vs WY hv;have hn:=Nat.le_of_ble_eq_true hnb;have hlen:=hv.length
 have hg:o7 (kz.plain w ok0 fn.ntmps) ⟨slots 0 args,[]⟩ { tmps:=vs.toArray++Array.replicate (fn.ntmps-vs.toArray.size) undef,defers:=[] } w:=by
  refine⟨fun _=>none,{ gu:=dm.refl _ _,size:=?_,dom:=fun x _=>rfl,ji:=fun x g ai o h=>(by cases h),live:=fun x ai hd b h=>(by cases h),inj:=fun x y v1 h1 v2 h2 b h=>(by cases h),tmps:=fun t g pv h hgt=>?_,defers:=rfl,und:=fun t pv h=>(by obtain⟨k,_,h2⟩:=lG h;cases h2),l_:=fun x hd h=>(by cases h),dev:=fun g ai O di l h=>(by cases h) }⟩
  ·simp[kz.plain];omega
  ·obtain⟨k,h1,h2⟩:=mY h;obtain⟨v,h3,h4⟩:=hv.at h2;rw[Nat.zero_add] at h1;subst h1;have hk:t<vs.length:=(List.getElem?_eq_some_iff.1 h3).1
   refine⟨v,?_,?_⟩
   ·rw[Array.getElem?_append_left (by simpa using hk)]
    simpa using h3
   ·refine h4.le ⟨Nat.le_refl _,fun b _ hb=>⟨⟨.inl hb,fun _ _ _ h=>by cases h⟩,rfl⟩,fun _ _ _ h=>by cases h⟩
 refine calls_of_wp hf hb (wp_mono (hT (kz.plain w ok0 fn.ntmps) rfl rfl (mi.plain fun w' hc=>hI w w' hc WY) _ w hg (fun _ _ _ hd h=>⟨hd,h⟩)) (fun x a' w' he=>?_))
 have he':(x=.normal\/x=.ret)/\∃ s,OJ P fn e n len f' s/\o7 (kz.plain w ok0 fn.ntmps) s a' w':=by
  cases x with
  |panic chain=>obtain⟨_,l,hl,_⟩:=he;exact hl.elim
  |_=>exact he
 obtain⟨h1,s,⟨x0,ai,g,f0,h2,hfo,hgt,RF⟩,h4⟩:=he';obtain⟨env,hE⟩:=h4;obtain⟨v',val,h5,h6,h7,_⟩:=uP hE h2;subst h7;obtain⟨hd,hev,hob⟩:=jQ hE hfo hgt;obtain⟨A0,n0,c0,rfl,hle0,rfl⟩:=h6.yt hev;obtain⟨xs,hown,hel⟩:=hob
 have hn0:n0=len:=by
  obtain⟨_,A1,c1,e1,_⟩:=Reads.vg hown
  cases e1;rfl
 have hown:=hown.plain hmk;subst hn0
 have hA:A0.map (fun p=>p.add (0*n))=A0:=by
  cases A0 with
  |none=>rfl
  |some ad=>simp[Addr.add]
 have hown2:w'.ownsRow w.heap.size e n (.slice A0 n0 c0) n0 xs:=⟨hown.1,hown.2.imp id (fun⟨g,cap,cur,h1,_,h3⟩=>⟨g,cap,cur,h1,by
  have:=(hE.live x0 ai _ g hev (by rw[h1];rfl)).2
  exact this.resolve_right (fun h=>h.1),h3⟩)⟩
 have this:a'.defers=[]/\∃ v,(results fn a'.tmps).run P w'=.ok v w'/\∃ val xs,Ending.returned v=.returned val/\Ext w w'/\w'.ownsRow w.heap.size e n val n0 xs/\∀ (C:Ctx) i,i<n0->RL C (f' i) ((xs.drop (i*n)).take n):=by
  refine⟨hE.defers,_,h5,_,xs,rfl,hE.gu,?_,fun C i hi=>?_⟩
  ·first|exact hown2|(simp only[Nat.zero_mul,Nat.sub_zero] at hA ⊢;rw[hA];exact hown2)
  ·have h8:=hel i hi;rw[(RF i hi).1] at h8;exact bFs h8 (RF i hi).2
 rcases h1 with rfl|rfl<;>exact this
def aKl(g:List PV->Option (Prop×Nat×Nat×Nat×(Nat->List PC))):Spec:=fun nm xs=>Ep xs fun ys=>match g ys with
 |some (p,e,n,len,f)=>.need p (.new nm (.arr e n len f) fun v=>.ret (dn (.ow nm v n 0 len)))
 |none=>.fail
theorem aId{P:Program}{I:World->Prop}{f:Nat}{g:List PV->Option (Prop×Nat×Nat×Nat×(Nat->List PC))}(hent:∀ args w,(callFunc f args).run P w=.ok (.enter f args) w)(hg:∀ xs p e n len f',g xs=some (p,e,n,len,f')->p->Xe P I f xs e n len f'):aj P I f (aKl g):=by
 refine⟨hent,fun A s a w env nm uq vs F h hI hv hk=>?_⟩
 unfold aKl at hk;obtain⟨ys,h1,hk⟩:=aLy h hv hk
 cases hq:g ys with
 |none=>rw[hq] at hk;exact hk.elim
 |some q=>
  obtain⟨p,e,n,len,f'⟩:=q;rw[hq] at hk;obtain⟨hp,hk⟩:=hk;refine (hg ys p e n len f' hq hp w (fun _=>True) vs (hI.mem w h.gu) h1).mono ?_;rintro r w' ⟨val,xs,rfl,hE,ho,hr⟩;obtain⟨env',h3,h4⟩:=h.A_ nm e n len (f:=f') hE ho hr;exact .inl ⟨_,_,_,env',rfl,hk,h3,h4⟩
@[simp] theorem ZK(b:Bool):JE true b=b:=rfl
@[simp] theorem VF(b:Bool):JE false b=!b:=rfl
@[simp] theorem aGA:All []=True:=rfl
@[simp] theorem Ze(p:Prop)(l:List Prop):All (p::l)=(p/\All l):=rfl
@[simp] theorem aIK(p:Prop):hP none p=p:=rfl
@[simp] theorem aIJ(b:Bool)(p:Prop):hP (some b) p=(b=true->p):=rfl
structure Ob where
 x:Nat
 t:TypeId
 l:List PC
 l':List PC
def zV(os:List Ob)(x:Nat):Bool:=os.any fun o=>Nat.beq o.x x
theorem iG{os:List Ob}{x:Nat}(h:zV os x=true):∃ o∈os,o.x=x:=by
 obtain⟨o,h1,h2⟩:=List.any_eq_true.1 h
 exact⟨o,h1,gy h2⟩
theorem uZ{os:List Ob}{o:Ob}(h:o∈os):zV os o.x=true:=List.any_eq_true.2 ⟨o,h,Nat.beq_refl _⟩
def n_(os:List Ob)(bl:Nat->Nat)(dev:Option (List Acc×List Acc))(hd:Value):Nat->Option Value:=fun x=>match zV os x,dev,Nat.beq x dx with
 |true,_,_=>some (iK (bl x))
 |false,some _,true=>some hd
 |false,_,_=>none
def o5(os:List Ob)(bl:Nat->Nat)(dev:Option (List Acc×List Acc))(hd:Value):Env:=fun x=>(n_ os bl dev hd x).map fun h=>(0,h)
def SX(os:List Ob)(bl:Nat->Nat)(D:Dv):Nat->Prop:=fun b=>D.S b\/∃ o∈os,b=bl o.x
def ve(P:Program)(I:World->Prop)(f:Nat)(new:Bool)(os:List Ob)(O:List Acc->Option je)(dev:Option (List Acc×List Acc))(di:List Acc->Prop)(args:List PV)(res:PV):Prop:=
 ∀ (w:World) (ok0:Nat->Prop) (vs:List Value) (bl:Nat->Nat) (D:Dv) (X0:Nat->Prop),
  (∀ w',dm (SX os bl D) w w'->I w')->(∀ b,SX os bl D b->b<w.heap.size/\¬ok0 b)->ng P D di->(∀ l X Y w w' chain,D.pan l X w chain->dm X w w'->(∀ b,Y b->X b)->D.pan l Y w' chain)->D.O=O ->
  (∀ p,dev=some p->D.inv p.1 X0 w)->(dev=none->(∀ b,¬D.S b)/\∀ l X w,¬D.inv l X w) ->
  (∀ o∈os,X0 (bl o.x)/\∃ cs,au w (bl o.x) o.t cs/\RL { w,ok:=ok0,env:=fun _=>none } o.l cs.toList)->(∀ o∈os,∀ o'∈os,bl o.x=bl o'.x->o.x=o'.x) ->
  mg { w,ok:=ok0,env:=o5 os bl dev D.hd } args vs ->
  Calls P f vs.toArray w fun e w'=>dm (SX os bl D) w w' /\
   ((∃ val,e=.returned val/\RV { w:=w',ok:=pK w ok0 new,env:=fun _=>none } res val/\(∀ o∈os,∃ cs,au w' (bl o.x) o.t cs/\RL { w:=w',ok:=pK w ok0 new,env:=fun _=>none } o.l' cs.toList)/\(∀ p,dev=some p->D.inv p.2 X0 w'))
   \/ (∃ chain l,e=.panicked chain/\di l/\O l=none/\D.pan l X0 w' chain))
def aVY(new:Bool)(os:List Ob)(O:List Acc->Option je)(dev:Option (List Acc×List Acc))(di:List Acc->Prop)(s:St):Prop:=
 (∀ o∈os,∃ l,find s.o o.x=some (none,0,.box o.t l)/\TQ s new l o.l')/\(∀ p,dev=some p->find s.o dx=some (none,0,.dev O di p.2))
def RQX(P:Program)(A:kz)(fn:Func)(new:Bool)(os:List Ob)(O:List Acc->Option je)(dev:Option (List Acc×List Acc))(di:List Acc->Prop)(res:PV):Exit->Act->World->Prop
 |.panic chain,a,w=>a.defers=[]/\DF A chain w
 |e,a,w=>(e=.normal\/e=.ret)/\∃ s,(TF P fn new res s/\aVY new os O dev di s)/\o7 A s a w
def GI(os:List Ob)(O:List Acc->Option je)(dev:Option (List Acc×List Acc))(di:List Acc->Prop):Wr:=match dev with
 |some p=>(dx,none,0,.dev O di p.1)::os.map (fun o=>(o.x,none,0,.box o.t o.l))
 |none=>os.map (fun o=>(o.x,none,0,.box o.t o.l))
theorem aCz{os:List Ob}{x:Nat}{p:Option Bool×Nat×og}:find (os.map (fun o=>(o.x,none,0,og.box o.t o.l))) x=some p->∃ o∈os,o.x=x/\p=(none,0,.box o.t o.l):=by
 intro h;obtain⟨o,h1,h2⟩:=List.mem_map.1 (aDa h);cases h2
 exact⟨o,h1,rfl,rfl⟩
theorem oM{os:List Ob}{x:Nat}(h:find (os.map (fun o=>(o.x,(none:Option Bool),0,og.box o.t o.l))) x=none):zV os x=false:=by
 induction os with
 |nil=>rfl
 | cons o os ih=>
  by_cases hx:o.x=x
  ·rw[List.map_cons,<-hx,aJ] at h;cases h
  ·rw[List.map_cons,aN _ _ hx] at h
   have hb:Nat.beq o.x x=false:=by
    cases hb:Nat.beq o.x x with
    |false=>rfl
    |true=>exact absurd (gy hb) hx
   have:=ih h;unfold zV at this ⊢;rw[List.any_cons,hb,Bool.false_or];exact this
theorem gJ{g b:Nat}(h:hblk (iK g)=some b):b=g:=by cases h;rfl
theorem kD{P:Program}{I:World->Prop}{f:Nat}{fn:Func}{c:Code}{new:Bool}{os:List Ob}{O:List Acc->Option je}{dev:Option (List Acc×List Acc)}{di:List Acc->Prop}{args:List PV}{res:PV}(hf:P.funcs[f]?=some fn)(hb:fn.body=some c)(hnb:Nat.ble args.length fn.ntmps=true)
  (hos:(os.all fun o=>Nat.blt dx o.x)=true)
  (hT:∀ A:kz,A.nt=fn.ntmps->mi P I A->ja P A ⟨slots 0 args,GI os O dev di⟩ c (RQX P A fn new os O dev di res)):ve P I f new os O dev di args res:=by
 intro w ok0 vs bl D X0 hM hold hst Ac hO hdv hnd hob hinj hv;have hlen:=hv.length;have hn:=Nat.le_of_ble_eq_true hnb
 have hgt:∀ o∈os,dx<o.x:=fun o ho=>by
  have:=List.all_eq_true.1 hos o ho
  have h3:dx+1<=o.x:=by simpa[Nat.blt] using this
  exact h3
 have EM:zV os dx=false:=by
  cases h:zV os dx with
  |false=>rfl
  |true=>
   obtain⟨o,h1,h2⟩:=iG h;have:=hgt o h1;omega
 subst hO
 let A:kz:=⟨w,SX os bl D,ok0,fn.ntmps,n_ os bl dev D.hd,D,di,X0,[]⟩
 have hext:∀ x hd,n_ os bl dev D.hd x=some hd->(zV os x=true/\hd=iK (bl x))\/(x=dx/\hd=D.hd/\dev.isSome=true):=by
  intro x hd h;unfold n_ at h
  split at h
  ·rename_i h1;cases h;exact .inl ⟨h1,rfl⟩
  ·rename_i h1 h2 h3;cases h;exact .inr ⟨gy h3,rfl,rfl⟩
  ·cases h
 have hA:mi P I A:=⟨hM,fun b h=>.inl h,hold,hst,fun l X w' hi=>by
  cases hd:dev with
  |none=>exact ((hnd hd).2 l X w' hi).elim
  |some p=>show n_ os bl dev D.hd dx=_;unfold n_;rw[EM,hd];rfl,Ac⟩
 have hown:∀ b,ownB A (o5 os bl dev D.hd) b->X0 b:=by
  rintro b (h|⟨x,ai,hd,h1,h2⟩)
  ·exact h
  ·unfold o5 at h1
   cases hx:n_ os bl dev D.hd x with
   |none=>rw[hx] at h1;cases h1
   | some h=>
    rw[hx] at h1;cases h1;rcases hext x _ hx with⟨h3,rfl⟩|⟨_,rfl,_⟩
    ·obtain⟨o,h4,rfl⟩:=iG h3;rw[gJ h2];exact (hob o h4).1
    ·rw[D.oz] at h2;cases h2
 have hhead:∀ x p,find (GI os D.O dev di) x=some p->(∃ o∈os,o.x=x/\p=(none,0,.box o.t o.l))\/(x=dx/\∃ q,dev=some q/\p=(none,0,.dev D.O di q.1)):=by
  intro x p h;unfold GI at h
  cases hd:dev with
  |none=>rw[hd] at h;exact .inl (aCz h)
  |some q=>
   rw[hd] at h
   by_cases hx:dx=x
   ·subst hx;rw[aJ] at h;cases h;exact .inr ⟨rfl,q,rfl,rfl⟩
   ·rw[aN _ _ hx] at h;exact .inl (aCz h)
 have henv:∀ o∈os,o5 os bl dev D.hd o.x=some (0,iK (bl o.x)):=fun o ho=>by
  unfold o5 n_;rw[uZ ho];rfl
 have hle0:∀ {pv:PV} {v:Value},RV { w,ok:=ok0,env:=o5 os bl dev D.hd } pv v->RV (aU A w (o5 os bl dev D.hd)) pv v:=fun h=>h.le ⟨Nat.le_refl _,fun b hlt ho=>⟨⟨.inl ho,fun x ai hd hx hb=>by
   unfold o5 at hx
   cases hx2:n_ os bl dev D.hd x with
   |none=>rw[hx2] at hx;cases hx
   | some h=>
    rw[hx2] at hx;cases hx;rcases hext x _ hx2 with⟨h3,rfl⟩|⟨_,rfl,_⟩
    ·obtain⟨o,h4,rfl⟩:=iG h3;have:=gJ hb;subst this;exact (hold _ (.inr ⟨o,h4,rfl⟩)).2 ho
    ·rw[D.oz] at hb;cases hb⟩,rfl⟩,fun x ai hd h=>⟨ai,hd,h,Nat.le_refl _,fun _=>rfl⟩⟩
 have hg:o7 A ⟨slots 0 args,GI os D.O dev di⟩ { tmps:=vs.toArray++Array.replicate (fn.ntmps-vs.toArray.size) undef,defers:=[] } w:=by
  refine⟨o5 os bl dev D.hd,{ gu:=dm.refl _ _,size:=?_,dom:=fun x hx=>?_,ji:=fun x g ai o h=>?_,live:=fun x ai hd b h hb=>?_,inj:=fun x y v1 h1 v2 h2 b hx hy hb1 hb2=>?_,tmps:=fun t g pv h hgt=>?_,defers:=rfl,und:=fun t pv h=>(by obtain⟨k,_,h2⟩:=lG h;cases h2),l_:=fun x hd hx=>?_,dev:=fun g ai O Cf l h _=>?_ }⟩
  ·simp[A];omega
  ·unfold o5 n_
   have h1:zV os x=false:=by
    unfold GI at hx
    cases hd:dev with
    |none=>rw[hd] at hx;exact oM hx
    |some q=>
     rw[hd] at hx
     by_cases hdx:dx=x
     ·subst hdx;exact EM
     ·rw[aN _ _ hdx] at hx;exact oM hx
   rw[h1]
   cases hd:dev with
   |none=>rfl
   | some q=>
    have:Nat.beq x dx=false:=by
     cases hb:Nat.beq x dx with
     |false=>rfl
     |true=>
      obtain rfl:=gy hb
      unfold GI at hx;rw[hd,aJ] at hx;cases hx
    rw[this];rfl
  ·rcases hhead x _ h with⟨ob,h1,rfl,h2⟩|⟨rfl,q,h1,h2⟩
   ·cases h2;obtain⟨_,cs,h3,h4⟩:=hob ob h1
    refine⟨iK (bl ob.x),henv ob h1,fun _=>⟨_,cs,rfl,h3,?_⟩⟩
    refine h4.le ⟨Nat.le_refl _,fun b hlt hok=>⟨⟨.inl hok,fun x ai hd hx hb=>?_⟩,rfl⟩,fun _ _ _ h=>by cases h⟩;have hx':o5 os bl dev D.hd x=some (ai,hd):=hx;unfold o5 at hx'
    cases hx2:n_ os bl dev D.hd x with
    |none=>rw[hx2] at hx';cases hx'
    | some h=>
     rw[hx2] at hx'
     cases hx'
     rcases hext x _ hx2 with⟨h5,rfl⟩|⟨_,rfl,_⟩
     ·obtain⟨o,h6,rfl⟩:=iG h5;have:=gJ hb;subst this;exact (hold _ (.inr ⟨o,h6,rfl⟩)).2 hok
     ·rw[D.oz] at hb;cases hb
   ·cases h2
    refine⟨D.hd,?_,fun _=>trivial⟩
    unfold o5 n_;rw[EM,h1];rfl
  ·unfold o5 at h
   cases hx2:n_ os bl dev D.hd x with
   |none=>rw[hx2] at h;cases h
   | some h'=>
    rw[hx2] at h;cases h;rcases hext x _ hx2 with⟨h3,rfl⟩|⟨_,rfl,_⟩
    ·obtain⟨o,h4,rfl⟩:=iG h3;have:=gJ hb;subst this
     exact⟨(hold _ (.inr ⟨o,h4,rfl⟩)).1,.inr ⟨.inr ⟨o,h4,rfl⟩,Nat.ble_eq_true_of_le (Nat.le_of_lt (hgt o h4))⟩⟩
    ·rw[D.oz] at hb;cases hb
  ·unfold o5 at hx hy
   cases hx2:n_ os bl dev D.hd x with
   |none=>rw[hx2] at hx;cases hx
   | some hx3=>
    cases hy2:n_ os bl dev D.hd y with
    |none=>rw[hy2] at hy;cases hy
    | some hy3=>
     rw[hx2] at hx;rw[hy2] at hy;cases hx;cases hy;rcases hext x _ hx2 with⟨h3,rfl⟩|⟨_,rfl,_⟩
     ·rcases hext y _ hy2 with⟨h4,rfl⟩|⟨_,rfl,_⟩
      ·obtain⟨o,h5,rfl⟩:=iG h3;obtain⟨o',h6,rfl⟩:=iG h4;refine hinj o h5 o' h6 ?_;rw[<-gJ hb1,<-gJ hb2]
      ·rw[D.oz] at hb2;cases hb2
     ·rw[D.oz] at hb1;cases hb1
  ·obtain⟨k,h1,h2⟩:=mY h;obtain⟨v,h3,h4⟩:=hv.at h2;rw[Nat.zero_add] at h1;subst h1;have hk:t<vs.length:=(List.getElem?_eq_some_iff.1 h3).1
   refine⟨v,?_,hle0 h4⟩
   rw[Array.getElem?_append_left (by simpa using hk)]
   simpa using h3
  ·refine⟨?_,0,hd,?_,Nat.le_refl _,fun _=>rfl⟩
   ·rcases hext x hd hx with⟨h3,_⟩|⟨rfl,_,_⟩
    ·obtain⟨o,h4,rfl⟩:=iG h3;exact Nat.ble_eq_true_of_le (Nat.le_of_lt (hgt o h4))
    ·exact Nat.ble_eq_true_of_le (Nat.le_refl _)
   ·show o5 os bl dev D.hd x=some (0,hd);unfold o5;have:n_ os bl dev D.hd x=some hd:=hx;rw[this];rfl
  ·rcases hhead dx _ h with⟨ob,h1,h2,_⟩|⟨_,q,h1,h2⟩
   ·have:=hgt ob h1;omega
   ·cases h2
    exact⟨rfl,rfl,D.grow _ _ _ _ _ (hdv q h1) (dm.refl _ _) (fun b hb=>.inl (hown b hb))⟩
 refine calls_of_wp hf hb (wp_mono (hT A rfl hA _ w hg (fun _ _ _ hd h=>⟨hd,h⟩)) (fun e a' w' he=>?_))
 cases e with
 |panic chain=>
  obtain⟨hd,l,h1,h2,h3,h4⟩:=he
  exact⟨hd,h4,.inr ⟨chain,l,rfl,h1,h2,h3⟩⟩
 |exit id=>obtain⟨h1|h1,_⟩:=he<;>cases h1
 |goto _=>obtain⟨h1|h1,_⟩:=he<;>cases h1
 |outgrown=>obtain⟨h1|h1,_⟩:=he<;>cases h1
 | normal|ret=>
  obtain⟨_,s,⟨⟨v,h2,h3⟩,hE1,hE2⟩,env,hE⟩:=he;obtain⟨v',val,h5,h6,h7,_⟩:=uP hE h2;subst h7
  have hbox:∀ o∈os,env o.x=some (0,iK (bl o.x)):=fun o ho=>by
   obtain⟨l,hf',_⟩:=hE1 o ho;obtain⟨hd,h8,_⟩:=hE.ji o.x none 0 _ hf'
   have h9:n_ os bl dev D.hd o.x=some (iK (bl o.x)):=by unfold n_;rw[uZ ho]
   have:=(hE.l_ o.x _ h9).2.now h8;rw[h8,this]
  have hS:Bz A s env:=by
   intro x g ai e n len f0 hd b hfx hex hbx hs;rcases hs with hs|⟨o,ho,rfl⟩
   ·cases hd2:dev with
    |none=>exact (hnd hd2).1 b hs
    |some q=>
     obtain⟨_,_,hi⟩:=hE.dev none 0 _ _ _ (hE2 q hd2) trivial;exact D.notS _ _ _ _ hi (.inr ⟨x,ai,hd,hex,hbx⟩) hs
   ·obtain⟨l,hf',_⟩:=hE1 o ho;have:=hE.inj x o.x ai hd 0 _ (bl o.x) hex (hbox o ho) hbx rfl;subst this;rw[hf'] at hfx;cases hfx
  have hres:=aPx hE hS h3 h6
  have this:a'.defers=[]/\∃ v,(results fn a'.tmps).run P w'=.ok v w'/\(dm (SX os bl D) w w' /\
   ((∃ val,Ending.returned v=.returned val/\RV { w:=w',ok:=pK w ok0 new,env:=fun _=>none } res val/\(∀ o∈os,∃ cs,au w' (bl o.x) o.t cs/\RL { w:=w',ok:=pK w ok0 new,env:=fun _=>none } o.l' cs.toList)/\(∀ p,dev=some p->D.inv p.2 X0 w'))
   \/ (∃ chain l,Ending.returned v=.panicked chain/\di l/\D.O l=none/\D.pan l X0 w' chain))):=by
   refine⟨hE.defers,val,h5,hE.gu,.inl ⟨val,rfl,hres,fun o ho=>?_,fun p hp=>?_⟩⟩
   ·obtain⟨l,hf',hx⟩:=hE1 o ho;obtain⟨hd,h8,h9⟩:=hE.ji o.x none 0 _ hf';obtain⟨g,cs,e1,h10,h11⟩:=h9 trivial;rw[hbox o ho] at h8;cases h8;cases e1
    exact⟨cs,h10,aPy hE hS hx h11⟩
   ·obtain⟨_,_,hi⟩:=hE.dev none 0 _ _ _ (hE2 p hp) trivial;exact D.grow _ _ _ _ _ hi (dm.refl _ _) (fun b hb=>.inl (.inl hb))
  exact this
end Pv
end Go.Proofs.YtndpjopifkbgiaaGreatDoor
