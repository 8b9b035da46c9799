/-.-/
import Derived.Test.YtndpjopifkbgiaaGreatDoorMsE
namespace Go.Proofs.YtndpjopifkbgiaaGreatDoor
open Go.RowKit
namespace Pv
def gT:Option Bool->Prop
 |none=>True
 |some b=>b=true
def hblk:Value->Option Nat
 |.pointer (some a)=>some a.block
 |.slice (some a) _ _=>some a.block
 |_=>none
def FM:Nat:=1000000
def D5(w:World)(e n:Nat)(v:Value)(len:Nat)(xs:List Value):Prop:=
 xs.length=len*n/\((v=.slice none 0 0/\len=0)\/∃ g cap cur t fr,v=.slice (some ⟨g,0,none⟩) len cap/\w.heap[g]?=some (.cells cur t fr) /\
  ((t=e/\fr=(0,0))\/(Nat.blt e FM=false/\cur.size<=fr.1))/\len<=cap/\cap<=maxLen/\cur.size=cap*n/\cur.toList.take (len*n)=xs)
section
variable {w:World} {e n len:Nat} {v:Value} {xs:List Value}
theorem xQ{B:Nat}(h:w.ownsRow B e n v len xs):D5 w e n v len xs:=
 ⟨h.1,h.2.imp id (fun⟨g,cap,cur,h1,_,h3,h4⟩=>⟨g,cap,cur,e,(0,0),h1,h3,.inl ⟨rfl,rfl⟩,h4⟩)⟩
theorem D5.plain(h:D5 w e n v len xs)(he:Nat.blt e FM=true):w.ownsRow 0 e n v len xs:=by
 refine⟨h.1,h.2.imp id ?_⟩
 rintro⟨g,cap,cur,t,fr,h1,h2,h3|h3,h4⟩
 ·obtain⟨rfl,rfl⟩:=h3
  exact⟨g,cap,cur,h1,Nat.zero_le _,h2,h4⟩
 ·rw[he] at h3;cases h3.1
theorem D5.range{g n0 c0:Nat}(h:D5 w e n (.slice (some ⟨g,0,none⟩) n0 c0) len xs):w.rangeAt g 0 xs:=fun j u hj=>by
 rcases h.2 with⟨e0,_⟩|⟨g',cap,cur,t,fr,e0,hg,_,_,_,_,htake⟩
 ·cases e0
 ·cases e0;rw[Nat.zero_add,cell_of_row w g j cur t fr hg];rw[<-htake,List.getElem?_take] at hj
  split at hj
  ·simpa using hj
  ·cases hj
theorem Reads.vg(h:D5 w e n v len xs):Reads w n v len xs:=by
 refine⟨h.1,?_⟩
 rcases h.2 with⟨rfl,rfl⟩|⟨g,cap,cur,t,fr,rfl,hg,_,hnc,hcm,hcs,htake⟩
 ·exact⟨none,0,rfl,Nat.le_refl _,Nat.zero_le _,fun h=>absurd h (by omega)⟩
 ·refine⟨_,cap,rfl,hnc,hcm,fun _=>⟨g,0,rfl,fun j u hu=>?_⟩⟩
  exact h.range j u hu
end
def Ey(C:Ctx)(hd:Value):og->Prop
 |.box t l=>∃ g cs,hd=iK g/\au C.w g t cs/\RL C l cs.toList
 |.arr e n len f=>∃ vs,D5 C.w e n hd len vs/\∀ i,i<len->RL C (f i) ((vs.drop (i*n)).take n)
 |.dead=>True
 |.dev _ _ _=>True
structure Dv where
 hd:Value
 O:List Acc->Option je
 S:Nat->Prop
 inv:List Acc->(Nat->Prop)->World->Prop
 pan:List Acc->(Nat->Prop)->World->List PanicEntry->Prop
 one:hd.oneCell'=true
 oz:hblk hd=none
 notS:∀ l X w b,inv l X w->X b->¬S b
 grow:∀ l X Y w w',inv l X w->dm X w w'->(∀ b,Y b->X b\/(w.heap.size<=b/\b<w'.heap.size))->inv l Y w'
def Dv.non:Dv:=⟨.bool false,fun _=>none,Non,fun _ _ _=>False,fun _ _ _ _=>False,rfl,rfl,fun _ _ _ _ h=>h.elim,fun _ _ _ _ _ h=>h.elim⟩
structure kz where
 w0:World
 S:Nat->Prop
 ok0:Nat->Prop
 nt:Nat
 ext:Nat->Option Value
 dv:Dv
 di:List Acc->Prop
 X0:Nat->Prop
 ds:List Deferred
def kz.plain(w:World)(ok0:Nat->Prop)(nt:Nat):kz:=⟨w,Non,ok0,nt,fun _=>none,Dv.non,fun _=>False,Non,[]⟩
abbrev Env:=Nat->Option (Nat×Value)
def aU(A:kz)(w:World)(env:Env):Ctx:={ w,ok:=fun b=>(A.ok0 b\/A.w0.heap.size<=b)/\∀ x ai hd,env x=some (ai,hd)->hblk hd≠some b,env }
def ownB(A:kz)(env:Env)(b:Nat):Prop:=A.X0 b\/∃ x ai hd,env x=some (ai,hd)/\hblk hd=some b
structure gm(A:kz)(s:St)(a:Act)(w:World)(env:Env):Prop where
 gu:dm A.S A.w0 w
 size:a.tmps.size=A.nt
 dom:∀ x,find s.o x=none->env x=none
 ji:∀ x g ai o,find s.o x=some (g,ai,o)->∃ hd,env x=some (ai,hd)/\(gT g->Ey (aU A w env) hd o)
 live:∀ x ai hd b,env x=some (ai,hd)->hblk hd=some b->b<w.heap.size/\(A.w0.heap.size<=b\/A.S b/\Nat.ble dx x=true)
 inj:∀ x y v1 h1 v2 h2 b,env x=some (v1,h1)->env y=some (v2,h2)->hblk h1=some b->hblk h2=some b->x=y
 tmps:∀ t g pv,find s.t t=some (g,pv)->gT g->∃ v,a.tmps[t]?=some v/\RV (aU A w env) pv v
 defers:a.defers=A.ds
 und:∀ t pv,find s.t t=some (some false,pv)->a.tmps[t]?=some undef
 l_:∀ x hd,A.ext x=some hd->Nat.ble dx x=true/\At (aU A w env) x 0 (fun hd'=>hd'=hd)
 dev:∀ g ai O di l,find s.o dx=some (g,ai,.dev O di l)->gT g->O=A.dv.O/\di=A.di/\A.dv.inv l (ownB A env) w
def o7(A:kz)(s:St)(a:Act)(w:World):Prop:=∃ env,gm A s a w env
theorem Ey.Af{C C':Ctx}{hd:Value}{o:og}(h:Ey C hd o)(hle:C.Le C')(hb:∀ b,hblk hd=some b->b<C.w.heap.size->C'.w.heap[b]?=C.w.heap[b]?):Ey C' hd o:=by
 cases o with
 |dead=>trivial
 |dev O di l=>trivial
 |box t l=>
  obtain⟨g,cs,rfl,h1,h2⟩:=h
  exact⟨g,cs,rfl,(hb g rfl h1.lt).trans h1,h2.le hle⟩
 |arr e n len f=>
  obtain⟨vs,h1,h2⟩:=h
  refine⟨vs,⟨h1.1,?_⟩,fun i hi=>(h2 i hi).le hle⟩
  rcases h1.2 with hn|⟨g,cap,cur,t,fr,rfl,hgg,rest⟩
  ·exact .inl hn
  ·exact .inr ⟨g,cap,cur,t,fr,rfl,(hb g rfl (lt_of_heap hgg)).trans hgg,rest⟩
section
variable {A:kz} {s:St} {a:Act} {w w':World} {env:Env}
theorem bEt(he:Ext w w'):(aU A w env).Le (aU A w' env):=
 ⟨he.size',fun b hb ho=>⟨ho,he.block b hb (fun h=>h)⟩,fun _ ai hd h=>⟨ai,hd,h,Nat.le_refl _,fun _=>rfl⟩⟩
theorem gm.ext(h:gm A s a w env)(he:Ext w w'):gm A s a w' env where
 gu:=h.gu.ext he
 size:=h.size
 dom:=h.dom
 ji:=fun x g ai o hf=>by
  obtain⟨hd,h1,h2⟩:=h.ji x g ai o hf
  exact⟨hd,h1,fun hg=>(h2 hg).Af (bEt he) (fun b _ hlt=>he.block b hlt (fun h=>h))⟩
 live:=fun x ai hd b h1 h2=>⟨Nat.lt_of_lt_of_le (h.live x ai hd b h1 h2).1 he.size',(h.live x ai hd b h1 h2).2⟩
 inj:=h.inj
 tmps:=fun t g pv hf hg=>let ⟨v,h1,h2⟩:=h.tmps t g pv hf hg;⟨v,h1,h2.le (bEt he)⟩
 defers:=h.defers
 und:=h.und
 l_:=fun x hd hx=>⟨(h.l_ x hd hx).1,(h.l_ x hd hx).2.le (bEt he)⟩
 dev:=fun g ai O di l hf hg=>let ⟨h1,h2,h3⟩:=h.dev g ai O di l hf hg;⟨h1,h2,A.dv.grow _ _ _ _ _ h3 (Ext.gu he) (fun _ h=>.inl h)⟩
theorem o7.drew(h:o7 A s a w):o7 A s a w.drew:=let ⟨env,h⟩:=h;⟨env,h.ext (Ext.refl w).drew⟩
theorem aPn(A:kz):Finds (o7 A):=fun _ _ _ _ ht ho ⟨env,h⟩=>⟨env,{
 gu:=h.gu,size:=h.size,dom:=fun x hx=>h.dom x ((ho x).trans hx),ji:=fun x g ai o hf=>h.ji x g ai o ((ho x).trans hf),live:=h.live,inj:=h.inj
 tmps:=fun t g pv hf=>h.tmps t g pv ((ht t).trans hf),defers:=h.defers,und:=fun t pv hf=>h.und t pv ((ht t).trans hf),l_:=h.l_,dev:=fun g ai O di l hf=>h.dev g ai O di l ((ho dx).trans hf) }⟩
def J_(d:Option Nat)(g:Option Bool)(pv:PV)(s:St):St:={ t:=(match d with|some d=>(d,g,pv)::s.t|none=>s.t),o:=s.o }
theorem gm.put(h:gm A s a w env)(d:Option Nat)(g:Option Bool)(pv:PV)(v:Value)(hd:∀ t,d=some t->t<A.nt)(hv:gT g->RV (aU A w env) pv v)(hu:g=some false->v=undef) :
  gm A (J_ d g pv s) (a.put d v) w env:=by
 cases d with
 |none=>exact { h with }
 | some d=>
  refine { gu:=h.gu,size:=by simpa[Act.put] using h.size,dom:=h.dom,ji:=h.ji,live:=h.live,inj:=h.inj,tmps:=fun t g' pv' hf hg=>?_,defers:=h.defers,und:=fun t pv' hf=>?_,l_:=h.l_,dev:=h.dev }
  ·have hf:find ((d,g,pv)::s.t) t=some (g',pv'):=hf
   by_cases ht:d=t
   ·subst ht;rw[aJ] at hf;cases hf
    refine⟨v,?_,hv hg⟩
    have:=hd d rfl;simp[Act.put,h.size,this]
   ·rw[aN _ _ ht] at hf;obtain⟨v',h1,h2⟩:=h.tmps t g' pv' hf hg
    exact⟨v',by simp only[Act.put];rw[Array.getElem?_setIfInBounds_ne ht];exact h1,h2⟩
  ·have hf':find ((d,g,pv)::s.t) t=some (some false,pv'):=hf
   by_cases ht:d=t
   ·subst ht;rw[aJ] at hf'
    cases hf'
    have:=hd d rfl;rw[hu rfl];simp[Act.put,h.size,this]
   ·rw[aN _ _ ht] at hf';simp only[Act.put];rw[Array.getElem?_setIfInBounds_ne ht];exact h.und t pv' hf'
def vz(env:Env)(x ai:Nat)(hd:Value):Env:=fun y=>if y=x then some (ai,hd) else env y
theorem iE(env:Env)(x ai:Nat)(hd:Value):vz env x ai hd x=some (ai,hd):=if_pos rfl
theorem jU{env:Env}{x ai:Nat}{hd:Value}{y:Nat}(h:y≠x):vz env x ai hd y=env y:=if_neg h
theorem gm.upd(h:gm A s a w env)(x:Nat)(g':Option Bool)(uh:Nat)(hd':Value)(o':og)
  (hw:dm (fun k=>∃ ai hd,env x=some (ai,hd)/\hblk hd=some k) w w')
  (hv:∀ ai hd,env x=some (ai,hd)->ai<uh\/(ai=uh/\hd'=hd))
  (hb:∀ b,hblk hd'=some b->b<w'.heap.size/\(w.heap.size<=b\/∃ ai hd,env x=some (ai,hd)/\hblk hd=some b))
  (ho:(aU A w env).Le (aU A w' (vz env x uh hd'))->gT g'->Ey (aU A w' (vz env x uh hd')) hd' o')
  (hnd:gT g'->∀ O di l,o'=.dev O di l->O=A.dv.O/\di=A.di/\A.dv.inv l (ownB A (vz env x uh hd')) w':=by intro _ _ _ _ h;cases h) :
  gm A { s with o:=(x,g',uh,o')::s.o } a w' (vz env x uh hd')/\(aU A w env).Le (aU A w' (vz env x uh hd')):=by
 have hle:(aU A w env).Le (aU A w' (vz env x uh hd')):=by
  refine⟨hw.size,fun b hlt hok=>⟨⟨hok.1,fun y ai hd hy=>?_⟩,?_⟩,fun y ai hd hy=>?_⟩
  ·by_cases hyx:y=x
   ·subst hyx;change vz env y uh hd' y=some (ai,hd) at hy;rw[iE] at hy;cases hy;intro e;rcases (hb b e).2 with h1|⟨ai,hd,h1,h2⟩
    ·have:b<w.heap.size:=hlt;omega
    ·exact hok.2 y ai hd h1 h2
   ·rw[jU hyx] at hy;exact hok.2 y ai hd hy
  ·exact hw.block b hlt (fun⟨ai,hd,h1,h2⟩=>hok.2 x ai hd h1 h2)
  ·by_cases hyx:y=x
   ·subst hyx
    refine⟨uh,hd',iE _ _ _ _,?_,fun e=>?_⟩
    ·rcases hv ai hd hy with h1|⟨h1,_⟩<;>omega
    ·rcases hv ai hd hy with h1|⟨_,h2⟩
     ·omega
     ·exact h2
   ·exact⟨ai,hd,(jU hyx).trans hy,Nat.le_refl _,fun _=>rfl⟩
 refine⟨?_,hle⟩
 refine { gu:=?_,size:=h.size,dom:=fun y hy=>?_,ji:=fun y g ai o hf=>?_,live:=fun y ai hd b hy hbl=>?_,inj:=fun y z v1 h1 v2 h2 b hy hz hb1 hb2=>?_,tmps:=fun t g pv hf hg=>?_,defers:=h.defers,und:=h.und,l_:=fun y hd hy=>⟨(h.l_ y hd hy).1,(h.l_ y hd hy).2.le hle⟩,dev:=fun g ai O di l hf hg=>?_ }
 ·refine h.gu.trans' hw (fun _ _ h=>h) (fun i hi ⟨ai,hd,h1,h2⟩=>?_);rcases (h.live x ai hd i h1 h2).2 with h3|h3
  ·omega
  ·exact h3.1
 ·by_cases hyx:x=y
  ·subst hyx;rw[aJ] at hy;cases hy
  ·rw[aN _ _ hyx] at hy;rw[jU (Ne.symm hyx)];exact h.dom y hy
 ·by_cases hyx:x=y
  ·subst hyx;rw[aJ] at hf;cases hf
   exact⟨hd',iE _ _ _ _,ho hle⟩
  ·rw[aN _ _ hyx] at hf;obtain⟨hd,h1,h2⟩:=h.ji y g ai o hf
   refine⟨hd,(jU (Ne.symm hyx)).trans h1,fun hg=>(h2 hg).Af hle (fun b hbl hlt=>hw.block b hlt (fun⟨CJ,hd2,h3,h4⟩=>hyx (h.inj x y CJ hd2 ai hd b h3 h1 h4 hbl)))⟩
 ·by_cases hyx:y=x
  ·subst hyx;rw[iE] at hy;cases hy
   refine⟨(hb b hbl).1,?_⟩
   rcases (hb b hbl).2 with h1|⟨CJ,hd2,h1,h2⟩
   ·exact .inl (Nat.le_trans h.gu.size h1)
   ·exact (h.live y CJ hd2 b h1 h2).2
  ·rw[jU hyx] at hy
   exact⟨Nat.lt_of_lt_of_le (h.live y ai hd b hy hbl).1 hw.size,(h.live y ai hd b hy hbl).2⟩
 ·have key:∀ y v1 h1,y≠x->env y=some (v1,h1)->hblk h1=some b->hblk hd'=some b->False:=by
   intro y v1 h1 hyx hy hb1 hb2;rcases (hb b hb2).2 with h3|⟨CJ,hd2,h3,h4⟩
   ·have:=(h.live y v1 h1 b hy hb1).1;omega
   ·exact hyx (h.inj y x v1 h1 CJ hd2 b hy h3 hb1 h4)
  by_cases hyx:y=x
  ·by_cases hzx:z=x
   ·rw[hyx,hzx]
   ·subst hyx;rw[iE] at hy;rw[jU hzx] at hz;cases hy;exact (key z v2 h2 hzx hz hb2 hb1).elim
  ·by_cases hzx:z=x
   ·subst hzx;rw[iE] at hz;rw[jU hyx] at hy;cases hz;exact (key y v1 h1 hyx hy hb1 hb2).elim
   ·rw[jU hyx] at hy;rw[jU hzx] at hz;exact h.inj y z v1 h1 v2 h2 b hy hz hb1 hb2
 ·obtain⟨v,h1,h2⟩:=h.tmps t g pv hf hg
  exact⟨v,h1,h2.le hle⟩
 ·by_cases hyx:x=dx
  ·subst hyx;rw[aJ] at hf;cases hf;exact hnd hg O di l rfl
  ·rw[aN _ _ hyx] at hf;obtain⟨h1,h2,h3⟩:=h.dev g ai O di l hf hg
   refine⟨h1,h2,A.dv.grow _ _ _ _ _ h3 (hw.mono fun k _ ⟨ai,hd,e1,e2⟩=>.inr ⟨x,ai,hd,e1,e2⟩) (fun b hb'=>?_)⟩
   rcases hb' with h4|⟨y,v2,hd2,h4,h5⟩
   ·exact .inl (.inl h4)
   ·by_cases hy:y=x
    ·subst hy;rw[iE] at h4;cases h4;rcases (hb b h5).2 with h6|⟨v3,hd3,h6,h7⟩
     ·exact .inr ⟨h6,(hb b h5).1⟩
     ·exact .inl (.inr ⟨y,v3,hd3,h6,h7⟩)
    ·rw[jU hy] at h4;exact .inl (.inr ⟨y,v2,hd2,h4,h5⟩)
theorem gm.new(h:gm A s a w env)(x:Nat)(g':Option Bool)(hd':Value)(o':og)(hw:Ext w w')(hb:∀ b,hblk hd'=some b->b<w'.heap.size/\w.heap.size<=b)
  (ho:(aU A w env).Le (aU A w' (vz env x (fresh s x) hd'))->gT g'->Ey (aU A w' (vz env x (fresh s x) hd')) hd' o')
  (hnd:gT g'->∀ O di l,o'=.dev O di l->O=A.dv.O/\di=A.di/\A.dv.inv l (ownB A (vz env x (fresh s x) hd')) w':=by intro _ _ _ _ h;cases h) :
  gm A { s with o:=(x,g',fresh s x,o')::s.o } a w' (vz env x (fresh s x) hd')/\(aU A w env).Le (aU A w' (vz env x (fresh s x) hd')):=by
 refine h.upd x g' (fresh s x) hd' o' hw.gu (fun ai hd he=>.inl ?_) (fun b hbl=>⟨(hb b hbl).1,.inl (hb b hbl).2⟩) ho hnd;unfold fresh
 cases hf:find s.o x with
 |none=>rw[h.dom x hf] at he;cases he
 |some p=>
  obtain⟨g,vr,ob⟩:=p;obtain⟨hd2,h1,_⟩:=h.ji x g vr ob hf;rw[h1] at he;cases he;exact Nat.lt_succ_self _
def appW(d:Option Nat)(g:Option Bool)(v:PV)(wr:List (Nat×Option Bool×Nat×og))(s:St):St:=app d ⟨g,v,[],[],[],wr⟩ s
theorem M.QM:∀ (m:M) (h0:Option Bool) (s:St) (F G:Option Bool->PV->Wr->Prop),m.ok h0 s F->(∀ g v wr,F g v wr->G g v wr)->m.ok h0 s G:=by
 intro m
 induction m with
 |ret v=>intro h0 s F G h hm;exact hm _ _ _ h
 |fail=>intro h0 s F G h hm;exact h
 |need p k ih=>intro h0 s F G h hm;exact⟨h.1,ih _ _ _ _ h.2 hm⟩
 |tmp t k ih=>intro h0 s F G h hm;obtain⟨g,v,h1,h⟩:=h;exact⟨g,v,h1,ih _ _ _ _ _ _ h hm⟩
 |obj x k ih=>intro h0 s F G h hm;obtain⟨g,vr,ob,h1,h⟩:=h;exact⟨g,vr,ob,h1,ih _ _ _ _ _ _ _ h hm⟩
 |new x ob k ih=>intro h0 s F G h hm;exact ih _ _ _ _ _ h (fun _ _ _ h=>hm _ _ _ h)
 |upd x vr ob k ih=>intro h0 s F G h hm;exact⟨h.1,ih _ _ _ _ h.2 (fun _ _ _ h=>hm _ _ _ h)⟩
 |gate b k ih=>intro h0 s F G h hm;exact⟨h.1,ih _ _ _ _ h.2 hm⟩
theorem aYz:∀ (m:M) (s:St) (F:Option Bool->PV->Wr->Prop),m.ok (some false) s F->∃ v wr,F (some false) v wr/\∀ p∈wr,∃ ob,p=(p.1,some false,fresh s p.1,ob):=by
 intro m
 induction m with
 |ret v=>intro s F h;exact⟨v,[],h,fun p hp=>by cases hp⟩
 |fail=>intro s F h;exact h.elim
 |need p k ih=>intro s F h;exact ih s F h.2
 |tmp t k ih=>intro s F h;obtain⟨g,v,_,h⟩:=h;exact ih g v s F h
 |obj x k ih=>intro s F h;obtain⟨g,vr,ob,_,h⟩:=h;exact ih g vr ob s F h
 | new x ob k ih=>
  intro s F h;obtain⟨v,wr,h1,h2⟩:=ih _ s _ h
  exact⟨v,_,h1,fun p hp=>by
   rcases List.mem_cons.1 hp with rfl|hp
   ·exact⟨ob,rfl⟩
   ·exact h2 p hp⟩
 |upd x vr ob k ih=>intro s F h;cases h.1
 |gate b k ih=>intro s F h;cases h.1
def wO(wr:Wr):Wr:=wr.map fun p=>(p.1,some true,p.2.2)
theorem bFj:∀ (m:M) (s:St) (F:Option Bool->PV->Wr->Prop),m.ok (some true) s F->m.ok none s (fun g v wr=>g=none/\(∀ p∈wr,p.2.1=none)/\F (some true) v (wO wr)):=by
 intro m
 induction m with
 |ret v=>intro s F h;exact⟨rfl,fun p hp=>(by cases hp),h⟩
 |fail=>intro s F h;exact h.elim
 |need p k ih=>intro s F h;exact⟨h.1 rfl,ih s F h.2⟩
 |tmp t k ih=>intro s F h;obtain⟨g,v,h0,h⟩:=h;exact⟨g,v,h0,ih g v s F h⟩
 |obj x k ih=>intro s F h;obtain⟨g,vr,ob,h0,h⟩:=h;exact⟨g,vr,ob,h0,ih g vr ob s F h⟩
 |new x ob k ih=>
  intro s F h;show (k (fresh s x)).ok none s _;refine M.QM (k (fresh s x)) none s _ _ (ih _ s _ h) (fun g v wr h=>⟨h.1,fun p hp=>?_,h.2.2⟩);rcases List.mem_cons.1 hp with rfl|hp
  ·rfl
  ·exact h.2.1 p hp
 |upd x vr ob k ih=>intro s F h;cases h.1
 |gate b k ih=>intro s F h;cases h.1
theorem gm.aLJ:∀ (wr:List (Nat×Option Bool×Nat×og)) (s:St) (env:Env),gm A s a w env->(∀ p∈wr,∃ ob,p=(p.1,some false,fresh s p.1,ob))->∃ env',gm A { s with o:=wr++s.o } a w env':=by
 intro wr
 induction wr with
 |nil=>intro s env h _;exact⟨env,h⟩
 | cons p wr ih=>
  intro s env h hp;obtain⟨env',h'⟩:=ih s env h (fun q hq=>hp q (List.mem_cons_of_mem _ hq));obtain⟨ob,e⟩:=hp p List.mem_cons_self;rw[e]
  have hfr:∀ ai hd,env' p.1=some (ai,hd)->ai<=fresh s p.1:=by
   intro ai hd he
   cases hf:find (wr++s.o) p.1 with
   |none=>rw[h'.dom p.1 hf] at he;cases he
   | some z=>
    obtain⟨g,vr,o2⟩:=z;obtain⟨hd2,h1,_⟩:=h'.ji p.1 g vr o2 hf;rw[h1] at he;cases he
    by_cases hin:∃ q∈wr,q.1=p.1
    ·have:∀ (l:List (Nat×Option Bool×Nat×og)),(∀ q∈l,∃ ob,q=(q.1,some false,fresh s q.1,ob))->(∃ q∈l,q.1=p.1)->∀ z,find (l++s.o) p.1=some z->z.2.1=fresh s p.1:=by
      intro l
      induction l with
      |nil=>intro _ h;obtain⟨q,hq,_⟩:=h;cases hq
      | cons q l ih2=>
       intro hl hex z hz;obtain⟨ob2,e2⟩:=hl q List.mem_cons_self
       by_cases hq:q.1=p.1
       ·rw[List.cons_append,e2,hq,aJ] at hz;cases hz;rfl
       ·rw[List.cons_append,e2,aN _ _ hq] at hz;refine ih2 (fun q hq=>hl q (List.mem_cons_of_mem _ hq)) ?_ z hz;obtain⟨q2,hq2,e3⟩:=hex;rcases List.mem_cons.1 hq2 with rfl|hq2
        ·exact absurd e3 hq
        ·exact⟨q2,hq2,e3⟩
     have h3:=this wr (fun q hq=>hp q (List.mem_cons_of_mem _ hq)) hin _ hf;exact Nat.le_of_eq h3
    ·rw[oG _ _ (fun q hq e=>hin ⟨q,hq,e⟩)] at hf;unfold fresh;rw[hf];exact Nat.le_succ _
  have hle2:=hfr
  by_cases hs:∃ hd,env' p.1=some (fresh s p.1,hd)
  ·obtain⟨hd,hhd⟩:=hs
   exact⟨_,(h'.upd p.1 (some false) (fresh s p.1) hd ob (dm.refl _ _) (fun ai hd2 he=>by rw[hhd] at he;cases he;exact .inr ⟨rfl,rfl⟩) (fun b hb=>⟨(h'.live _ _ _ _ hhd hb).1,.inr ⟨_,_,hhd,hb⟩⟩) (fun _ hg=>absurd hg (by simp[gT])) (fun hg=>absurd hg (by simp[gT]))).1⟩
  ·exact⟨_,(h'.upd p.1 (some false) (fresh s p.1) undef ob (dm.refl _ _) (fun ai hd2 he=>.inl (by
    have:=hfr ai hd2 he;rcases Nat.lt_or_eq_of_le this with h1|h1
    ·exact h1
    ·exact absurd ⟨hd2,by rw[he,h1]⟩ hs)) (fun b hb=>by simp[hblk,undef] at hb) (fun _ hg=>absurd hg (by simp[gT])) (fun hg=>absurd hg (by simp[gT]))).1⟩
theorem aZf(l r:List (Nat×Option Bool×Nat×og))(x:Nat):find (wO l++r) x=find (l++r) x\/∃ g q,find (l++r) x=some (g,q)/\find (wO l++r) x=some (some true,q):=by
 induction l with
 |nil=>exact .inl rfl
 | cons p l ih=>
  by_cases hp:p.1=x
  ·refine .inr ⟨p.2.1,p.2.2,?_,?_⟩
   ·rw[<-hp];exact aJ _ _ _
   ·rw[<-hp];exact aJ _ _ _
  ·have e1:find (p::l++r) x=find (l++r) x:=aN _ _ hp;have e2:find (wO (p::l)++r) x=find (wO l++r) x:=aN _ _ hp;rw[e1,e2];exact ih
theorem o7.aEM{d:Option Nat}{v:PV}{wr:Wr}(hwr:∀ p∈wr,p.2.1=none)(h:o7 A (appW d none v wr s) a w):o7 A (appW d (some true) v (wO wr) s) a w:=by
 obtain⟨env,h⟩:=h
 have key:∀ (x:Nat) (g:Option Bool) (ai:Nat) (o:og) (l:Wr),(∀ p∈l,p.2.1=none)->find (wO l++s.o) x=some (g,ai,o)->find (l++s.o) x=some (g,ai,o)\/(g=some true/\find (l++s.o) x=some (none,ai,o)):=by
  intro x g ai o l
  induction l with
  |nil=>intro _ hl;exact .inl hl
  | cons p l ih=>
   intro hp hl
   by_cases hx:p.1=x
   ·have e1:find (wO (p::l)++s.o) x=some (some true,p.2.2):=by rw[<-hx];exact aJ _ _ _
    have e2:find (p::l++s.o) x=some p.2:=by rw[<-hx];exact aJ _ _ _
    rw[e1] at hl;rw[e2];have h0:=hp p List.mem_cons_self;obtain⟨x',g',vr,ob⟩:=p;cases hl;dsimp only at h0;subst h0;exact .inr ⟨rfl,rfl⟩
   ·have e1:find (wO (p::l)++s.o) x=find (wO l++s.o) x:=aN _ _ hx;have e2:find (p::l++s.o) x=find (l++s.o) x:=aN _ _ hx;rw[e1] at hl;rw[e2];exact ih (fun q hq=>hp q (List.mem_cons_of_mem _ hq)) hl
 refine⟨env,{ gu:=h.gu,size:=h.size,dom:=fun x hx=>?_,ji:=fun x g ai o hf=>?_,live:=h.live,inj:=h.inj,tmps:=fun t g pv hf hg=>?_,defers:=h.defers,und:=fun t pv hf=>?_,l_:=h.l_,dev:=fun g ai O di l hf hg=>?_ }⟩
 ·refine h.dom x ?_;rcases aZf wr s.o x with e|⟨g,q,_,e2⟩
  ·exact e.symm.trans hx
  ·have:find (wO wr++s.o) x=none:=hx;rw[e2] at this;cases this
 ·have hf':find (wO wr++s.o) x=some (g,ai,o):=hf;rcases key x g ai o wr hwr hf' with e|⟨rfl,e⟩
  ·exact h.ji x g ai o e
  ·obtain⟨hd,h1,h2⟩:=h.ji x none ai o e
   exact⟨hd,h1,fun _=>h2 trivial⟩
 ·cases d with
  |none=>exact h.tmps t g pv hf hg
  | some d=>
   by_cases hdt:d=t
   ·subst hdt;have e1:find (appW (some d) (some true) v (wO wr) s).t d=some (some true,v):=aJ _ _ _;have e2:find (appW (some d) none v wr s).t d=some (none,v):=aJ _ _ _;rw[e1] at hf;cases hf;exact h.tmps d none v e2 trivial
   ·have e1:find (appW (some d) (some true) v (wO wr) s).t t=find s.t t:=aN _ _ hdt;have e2:find (appW (some d) none v wr s).t t=find s.t t:=aN _ _ hdt;rw[e1] at hf;exact h.tmps t g pv (e2.trans hf) hg
 ·cases d with
  |none=>exact h.und t pv hf
  | some d=>
   by_cases hdt:d=t
   ·subst hdt;have e1:find (appW (some d) (some true) v (wO wr) s).t d=some (some true,v):=aJ _ _ _;rw[e1] at hf;cases hf
   ·have e1:find (appW (some d) (some true) v (wO wr) s).t t=find s.t t:=aN _ _ hdt;have e2:find (appW (some d) none v wr s).t t=find s.t t:=aN _ _ hdt;rw[e1] at hf;exact h.und t pv (e2.trans hf)
 ·rcases key dx g ai (.dev O di l) wr hwr hf with e|⟨rfl,e⟩
  ·exact h.dev g ai O di l e hg
  ·exact h.dev none ai O di l e trivial
theorem gm.asked(h:gm A s a w env){O:List Acc->Option je}{di:List Acc->Prop}{l l':List Acc}{g:Option Bool}(hf:find s.o dx=some (g,0,.dev O di l))(hg:gT g)(sub:∀ b,A.dv.S b->A.S b)(old:∀ b,A.dv.S b->b<A.w0.heap.size/\¬A.ok0 b)
  (hw:dm A.dv.S w w') (hi:A.dv.inv l' (ownB A env) w'):gm A { s with o:=(dx,none,0,.dev O di l')::s.o } a w' env/\(aU A w env).Le (aU A w' env):=by
 obtain⟨hO,hstp,hinv⟩:=h.dev g 0 O di l hf hg
 have hle:(aU A w env).Le (aU A w' env):=⟨hw.size,fun b hlt hok=>⟨hok,hw.block b hlt (fun hs=>by
  rcases hok.1 with h1|h1
  ·exact (old b hs).2 h1
  ·have:=(old b hs).1;omega)⟩,fun x ai hd hx=>⟨ai,hd,hx,Nat.le_refl _,fun _=>rfl⟩⟩
 refine⟨{ gu:=h.gu.trans (hw.mono fun b _ hs=>sub b hs),size:=h.size,dom:=fun x hx=>?_,ji:=fun x g' ai o hf'=>?_,live:=fun x ai hd b h1 h2=>⟨Nat.lt_of_lt_of_le (h.live x ai hd b h1 h2).1 hw.size,(h.live x ai hd b h1 h2).2⟩,inj:=h.inj,tmps:=fun t g pv hf hg=>let ⟨v,h1,h2⟩:=h.tmps t g pv hf hg;⟨v,h1,h2.le hle⟩,defers:=h.defers,und:=h.und,l_:=fun y hd hy=>⟨(h.l_ y hd hy).1,(h.l_ y hd hy).2.le hle⟩,dev:=fun g' ai O' Cf l2 hf' hg'=>?_ },hle⟩
 ·by_cases hx':dx=x
  ·subst hx';rw[aJ] at hx;cases hx
  ·rw[aN _ _ hx'] at hx;exact h.dom x hx
 ·by_cases hx':dx=x
  ·subst hx';rw[aJ] at hf'
   cases hf'
   obtain⟨hd,h1,_⟩:=h.ji dx g 0 _ hf
   exact⟨hd,h1,fun _=>trivial⟩
  ·rw[aN _ _ hx'] at hf';obtain⟨hd,h1,h2⟩:=h.ji x g' ai o hf'
   exact⟨hd,h1,fun hg=>(h2 hg).Af hle (fun b hbl hlt=>hw.block b hlt (A.dv.notS _ _ _ _ hinv (.inr ⟨x,ai,hd,h1,hbl⟩)))⟩
 ·rw[aJ] at hf'
  cases hf'
  exact⟨hO,hstp,hi⟩
end
abbrev jo(v:Value):PV:=.w (.one (.lit v))
abbrev iy(n:Int):PV:=.w (.one (.lit (.int .i64 n)))
abbrev qi(b:Bool):PV:=.w (.one (.lit (.bool b)))
abbrev dn(c:PC):PV:=.w (.one c)
def PW.cells:PW->List PC
 |.one c=>[c]
 |.agg l=>l
def qm(len:Nat)(f f':Nat->List PC):Nat->List PC:=fun i=>if i<len then f i else f' (i-len)
def p_(l:List UInt8):Nat->List PC:=fun i=>[.lit (o9 (l.getD i 0))]
def byteAt:List PC->UInt8
 |[.lit (.int _ n)]=>UInt8.ofNat n.toNat
 |_=>0
def isByte:List PC->Bool
 |[.lit (.int .u8 n)]=>decide (0<=n)&&decide (n<256)
 |_=>false
def rowB(len:Nat)(f:Nat->List PC):List UInt8:=(List.range len).map fun i=>byteAt (f i)
def Fj(len:Nat)(f:Nat->List PC):Prop:=∀ i,i<len->isByte (f i)=true
theorem aPg{l:List PC}(h:isByte l=true):l=[.lit (o9 (byteAt l))]:=by
 unfold isByte at h
 split at h
 ·rename_i n;rw[Bool.and_eq_true,decide_eq_true_eq,decide_eq_true_eq] at h
  have:o9 (byteAt [.lit (.int .u8 n)])=.int .u8 n:=by
   show Value.int .u8 (((UInt8.ofNat n.toNat).toNat:Nat):Int)=.int .u8 n;rw[UInt8.toNat_ofNat_of_lt' (show n.toNat<256 by omega)];congr 1;omega
  rw[this]
 ·cases h
theorem P8(b:UInt8):UInt8.ofNat ((b.toNat:Int)).toNat=b:=by simp
theorem aJj(l:List UInt8)(i:Nat):byteAt (p_ l i)=l.getD i 0:=P8 _
theorem aIq(l:List UInt8)(i:Nat):isByte (p_ l i)=true:=by
 show (decide (0<=(((l.getD i 0).toNat:Nat):Int))&&decide ((((l.getD i 0).toNat:Nat):Int)<256))=true;have:=(l.getD i 0).toNat_lt;rw[Bool.and_eq_true,decide_eq_true_eq,decide_eq_true_eq];omega
@[simp] theorem ZN(n:Nat)(l:List UInt8):Fj n (p_ l):=fun i _=>aIq l i
theorem fP(n:Nat)(f:Nat->List PC):(rowB n f).length=n:=by simp[rowB]
@[simp] theorem fQ(l:List UInt8):rowB l.length (p_ l)=l:=by
 apply List.ext_getElem (fP _ _);intro i h1 h2;simp only[rowB,List.getElem_map,List.getElem_range,aJj];rw[zG,zH h2];rfl
@[simp] theorem ZO {a b:Nat} {f g:Nat->List PC}:Fj (a+b) (qm a f g)↔Fj a f/\Fj b g:=by
 constructor
 ·intro h
  refine⟨fun i hi=>?_,fun i hi=>?_⟩
  ·have:=h i (by omega);unfold qm at this;rwa [if_pos hi] at this
  ·have:=h (a+i) (by omega);unfold qm at this;rwa [if_neg (by omega),show a+i-a=i from by omega] at this
 ·rintro⟨h1,h2⟩ i hi
  unfold qm
  split
  ·exact h1 i (by assumption)
  ·exact h2 _ (by omega)
@[simp] theorem aBR(a b:Nat)(f g:Nat->List PC):rowB (a+b) (qm a f g)=rowB a f++rowB b g:=by
 apply List.ext_getElem (by simp[fP]);intro i h1 h2;rw[List.getElem_append];simp only[rowB,List.getElem_map,List.getElem_range,List.length_map,List.length_range];unfold qm
 split<;>rfl
theorem aEb{C:Ctx}{len:Nat}{f:Nat->List PC}{vs:List Value}(hl:vs.length=len*1)(h:∀ i,i<len->RL C (f i) ((vs.drop (i*1)).take 1))(hb:Fj len f):vs=(rowB len f).map o9:=by
 apply List.ext_getElem (by simp[fP,hl]);intro i h1 h2
 have hi:i<len:=by omega
 have h3:=h i hi;rw[aPg (hb i hi)] at h3;have h4:=h3.single;generalize hq:(vs.drop (i*1)).take 1=q at h4;cases h4;have h5:=congrArg (·[0]?) hq;simp only[List.getElem?_take,List.getElem?_drop,Nat.mul_one,Nat.add_zero,List.getElem?_cons_zero] at h5;rw[if_pos (by omega),zH h1] at h5;simp only[rowB,List.map_map,List.getElem_map,List.getElem_range,Function.comp];exact Option.some.inj h5
section
variable (P:Program)
def o_(t:TypeId):Option Nat:=(P.info? t).map (·.size)
def iF(t:TypeId):Option Bool:=match P.underlying t with
 |some (.struct _)=>some true
 |some (.array _ _)=>some true
 |some _=>some false
 |none=>none
def BO(t:TypeId)(l:List PC):Option PW:=match iF P t with
 |none=>none
 |some true=>some (.agg l)
 | some false=>match l with
  |[c]=>(match Nat.beq c.width 1 with
   |true=>some (.one c)
   |false=>none)
  |_=>none
def shapeOf:Nat->TypeId->Option (List Nat)
 |0,_=>none
 | d+1,t=>match P.underlying t with
  |some (.struct fs)=>fs.toList.foldr (fun f acc=>match shapeOf d f.type,acc with|some x,some y=>some (x++y)|_,_=>none) (some [])
  | some (.array n e)=>(match P.underlying e with
   |some (.int .u8)=>some [n]
   |_=>match shapeOf d e with
    |some x=>some (List.flatten (List.replicate n x))
    |none=>none)
  |some _=>some [0]
  |none=>none
def byteOf:Value->Option UInt8
 |.int .u8 n=>if n=((UInt8.ofNat n.toNat).toNat:Int) then some (UInt8.ofNat n.toNat) else none
 |_=>none
def jI:Nat->List Value->Option (List UInt8)
 |0,_=>some []
 |n+1,v::l=>match byteOf v,jI n l with
  |some b,some bs=>some (b::bs)
  |_,_=>none
 |_+1,[]=>none
def pack:List Nat->List Value->Option (List PC)
 |[],[]=>some []
 |[],_::_=>none
 |0::sh,v::l=>if v.oneCell'=true then (match pack sh l with|some r=>some (.lit v::r)|none=>none) else none
 |0::_,[]=>none
 |(n+1)::sh,l=>match jI (n+1) l,pack sh (l.drop (n+1)) with
  |some bs,some r=>some (.bs (n+1) bs::r)
  |_,_=>none
def Xm(t:TypeId):Option (List PC):=match (P.info? t).bind (·.zero),shapeOf P 8 t with
 |some z,some sh=>pack sh z.cells.toList
 |_,_=>none
def splice:List PC->Nat->List PC->Option (List PC)
 |l,0,m=>match Aj l (widths m) with
  |some r=>some (m++r)
  |none=>none
 |[],_+1,_=>none
 |c::l,off+1,m=>if c.width<=off+1 then (match splice l (off+1-c.width) m with|some r=>some (c::r)|none=>none) else none
where
 Aj:List PC->Nat->Option (List PC)
  |l,0=>some l
  |[],_+1=>none
  |c::l,n+1=>if c.width<=n+1 then Aj l (n+1-c.width) else none
def uo:List PC->Nat->Option (Nat×List UInt8)
 |.bs n l::_,0=>some (n,l)
 |_,0=>none
 |[],_+1=>none
 |c::l,off+1=>if c.width<=off+1 then uo l (off+1-c.width) else none
def Zh:List PC->Nat->List UInt8->List PC
 |.bs n _::l,0,m=>.bs n m::l
 |l,0,_=>l
 |[],_+1,_=>[]
 |c::l,off+1,m=>c::Zh l (off+1-c.width) m
def yQ (t:TypeId):Option (Nat×Nat×Nat):=match P.underlying t with
 | some (.slice e)=>(match P.info? e with
  | some i=>(match i.zero with
   |some z=>(match Nat.beq z.cells.size i.size,Nat.blt 0 i.size,Nat.blt 0 i.bytes with
    |true,true,true=>some (e,i.size,i.bytes)
    |_,_,_=>none)
   |none=>none)
  |none=>none)
 |_=>none
def yj(x:Operand)(k:PV->M):M:=match x with
 |.tmp t=>.tmp t fun g v=>match g with
  |none=>k v
  |some b=>.need (b=true) (k v)
 |.const (.agg _)=>.fail
 |.const (.tuple _)=>.fail
 |.const v=>k (jo v)
 |.global g=>k (jo (.pointer (some ⟨g,0,none⟩)))
 |.func f=>k (jo (.func (.func f) #[] #[]))
def X5(h:Prop)(x:Operand)(k:PV->M):M:=match x with
 |.tmp t=>.tmp t fun g v=>match g with
  |none=>k v
  |some b=>.need (h->b=true) (k v)
 |.const (.agg _)=>.fail
 |.const (.tuple _)=>.fail
 |.const v=>k (jo v)
 |.global g=>k (jo (.pointer (some ⟨g,0,none⟩)))
 |.func f=>k (jo (.func (.func f) #[] #[]))
def bGh:List Operand->(List PV->M)->M
 |[],k=>k []
 |x::l,k=>yj x fun v=>bGh l fun vs=>k (v::vs)
def aAp{α:Type}:Sem α->Option α
 |.pure v=>some v
 |.program k=>aAp (k P)
 |_=>none
def isLit:PV->Option Value
 |.w (.one (.lit v))=>some v
 |_=>none
def jE(g:Option Bool)(k:M):M:=match g with
 |none=>k
 |some b=>.need (b=true) k
abbrev Spec:=Nat->List PV->M
abbrev Specs:=Nat->Option Spec
def Pj(x:Option PW):M:=match x with
 |some x=>.ret (.w x)
 |none=>.fail
def FB(x:Option Value):M:=match x with
 |some v=>(match v.oneCell' with
  |true=>.ret (jo v)
  |false=>.fail)
 |none=>.fail
def bAw(x:Option PW)(k:PW->M):M:=match x with
 |some x=>k x
 |none=>.fail
def JY:List PC->Option (Nat×List UInt8)
 |[.bs n l]=>some (n,l)
 |_=>none
def Eh (t:TypeId) (p:PV) (k:PW->M):M:=match p with
 | .w (.one (.pt x ai off))=>.obj x fun g vr ob=>jE g (match Nat.beq ai vr,ob,o_ P t with
  |true,.box _ l,some n=>(match qL l off n with
   |some m=>bAw (BO P t m) k
   |none=>.fail)
  |_,_,_=>.fail)
 | .w (.one (.pk x ai off kk))=>.obj x fun g vr ob=>jE g (match Nat.beq ai vr,ob,iF P t with
  |true,.box _ l,some false=>(match uo l off with
   |some (n,bs)=>.need (kk<n) (k (.one (.lit (o9 (bs.getD kk 0)))))
   |none=>.fail)
  |_,_,_=>.fail)
 | .w (.one (.pe x ai n i j))=>.obj x fun g vr ob=>jE g (match Nat.beq ai vr,ob,o_ P t with
  |true,.arr _ n' len f,some sz=>(match Nat.beq n n',qL (f i) j sz with
   |true,some m=>.need (i<len) (bAw (BO P t m) k)
   |_,_=>.fail)
  |_,_,_=>.fail)
 | .w (.one (.pf _ _ f i j))=>(match o_ P t with
  | some sz=>(match JY (f i),Nat.beq sz 1,iF P t with
   |some (n,bs),true,some false=>.need (j<n) (k (.one (.lit (o9 (bs.getD j 0)))))
   |_,_,_=>(match qL (f i) j sz with
    |some m=>bAw (BO P t m) k
    |none=>.fail))
  |none=>.fail)
 | .w (.one (.pa len f))=>(match P.underlying t with
  | some (.array n e)=>(match o_ P t,o_ P e with
   |some m,some 1=>(match Nat.beq m n with
    |true=>.need (n<=len/\Fj n f) (bAw (BO P t [.bs n (rowB n f)]) k)
    |false=>.fail)
   |_,_=>.fail)
  |_=>.fail)
 |_=>.fail
def UF(t:TypeId)(p:PV):M:=Eh P t p fun x=>.ret (.w x)
def bBn (t:TypeId) (p v:PV):M:=match v with
 | .w pw=>(match o_ P t with
  | some sz=>(match Nat.beq sz (widths pw.cells) with
   | true=>(match p with
    | .w (.one (.pt x ai off))=>.obj x fun g vr ob=>jE g (match Nat.beq ai vr,ob with
     |true,.box bt l=>(match splice l off pw.cells with
      |some l'=>.upd x vr (.box bt l') (.ret .none)
      |none=>.fail)
     |_,_=>.fail)
    | .w (.one (.pk x ai off k))=>.obj x fun g vr ob=>jE g (match Nat.beq ai vr,ob,pw with
     |true,.box bt l,.one (.lit (.int .u8 b))=>(match uo l off with
      |some (n,bs)=>.need (k<n/\0<=b/\b<256) (.upd x vr (.box bt (Zh l off (bs.set k (UInt8.ofNat b.toNat)))) (.ret .none))
      |none=>.fail)
     |_,_,_=>.fail)
    | .w (.one (.pe x ai n i j))=>.obj x fun g vr ob=>jE g (match Nat.beq ai vr,ob with
     |true,.arr e n' len f=>(match Nat.beq n n',splice (f i) j pw.cells with
      |true,some m=>.need (i<len) (.upd x vr (.arr e n len (fun i'=>if i'=i then m else f i')) (.ret .none))
      |_,_=>.fail)
     |_,_=>.fail)
    |_=>.fail)
   |false=>.fail)
  |none=>.fail)
 |_=>.fail
def aAy (t:TypeId) (p:PV) (f:Nat):M:=match P.underlying t with
 | some (.struct fs)=>(match fs[f]? with
  | some fd=>(match o_ P fd.type with
   |some (_+1)=>(match p with
    |.w (.one (.pt x ai off))=>.ret (dn (.pt x ai (off+fd.offset)))
    |.w (.one (.pe x ai n i j))=>.ret (dn (.pe x ai n i (j+fd.offset)))
    |.w (.one (.pf n len f i j))=>.ret (dn (.pf n len f i (j+fd.offset)))
    |_=>.fail)
   |_=>.fail)
  |none=>.fail)
 |_=>.fail
def aAt (t:TypeId) (p:PV) (i:PV):M:=match isLit i with
 | some (.int _ i)=>(match P.underlying t with
  | some (.slice e)=>(match p with
   | .w (.one (.sl n len f))=>(match o_ P e with
    |some n'=>(match Nat.beq n n' with
     |true=>.need (0<=i/\i<len) (.ret (dn (.pf n len f i.toNat 0)))
     |false=>.fail)
    |none=>.fail)
   | .w (.one (.ow x ai n off len))=>(match o_ P e with
    | some n'=>(match Nat.beq n n' with
     |true=>.obj x fun g vr ob=>jE g (match Nat.beq ai vr,ob with
      |true,.arr _ _ _ _=>.need (0<=i/\i<len) (.ret (dn (.pe x ai n (off+i.toNat) 0)))
      |_,_=>.fail)
     |false=>.fail)
    |none=>.fail)
   |_=>.fail)
  |some (.array n e)=>(match o_ P e,p with
   |some 1,.w (.one (.pt x ai off))=>.need (0<=i/\i<n) (.ret (dn (.pk x ai off i.toNat)))
   |some 1,.w (.one (.pf n0 len f i0 j))=>.need (0<=i/\i<n) (.ret (dn (.pf n0 len f i0 (j+i.toNat))))
   |some (m+2),.w (.one (.pt x ai off))=>.need (0<=i/\i<n) (.ret (dn (.pt x ai (off+i.toNat*(m+2)))))
   |_,_=>.fail)
  |_=>.fail)
 |_=>.fail
def bFy (t:TypeId) (v:PV) (f:Nat):M:=match P.underlying t with
 | some (.struct fs)=>(match fs[f]? with
  | some fd=>(match o_ P fd.type,v with
   |some n,.w (.agg l)=>(match qL l fd.offset n with
    |some m=>Pj (BO P fd.type m)
    |none=>.fail)
   |_,_=>.fail)
  |none=>.fail)
 |_=>.fail
def Zp:List (Nat×Nat)->List (Nat×PV)->List PC->Option (List PC)
 |_,[],l=>some l
 | places,(i,v)::ps,l=>match v,places[i]? with
  |.w pw,some (off,n)=>(match Nat.beq n (widths pw.cells),splice l off pw.cells with
   |true,some l'=>Zp places ps l'
   |_,_=>none)
  |_,_=>none
def bHm(t:TypeId)(vs:List (Nat×PV))(l:List PC):M:=match P.underlying t with
 | some (.struct fs)=>(match fs.toList.mapM (fun f=>(P.info? f.type).map fun i=>(f.offset,i.size)) with
  |some places=>(match Zp places vs l with
   |some l'=>.ret (.w (.agg l'))
   |none=>.fail)
  |none=>.fail)
 | some (.array _ e)=>(match o_ P e,l with
  |some 1,[.bs n bs]=>(match vs with
   |[]=>.ret (.w (.agg [.bs n bs]))
   |[(i,.w (.one (.lit (.int .u8 b))))]=>.need (i<n/\0<=b/\b<256) (.ret (.w (.agg [.bs n (bs.set i (UInt8.ofNat b.toNat))])))
   |[(i,.w (.one (.lit (.int .u8 b)))),(j,.w (.one (.lit (.int .u8 c))))]=>.need (i<n/\j<n/\0<=b/\b<256/\0<=c/\c<256) (.ret (.w (.agg [.bs n ((bs.set i (UInt8.ofNat b.toNat)).set j (UInt8.ofNat c.toNat))])))
   |_=>.fail)
  |_,_=>.fail)
 |_=>.fail
def Xl(n:Nat):Nat->List (Nat×PV)->Option (List (List PC))
 |_,[]=>some []
 | k,(i,v)::ps=>match Nat.beq i k,v,Xl n (k+1) ps with
  |true,.w pw,some r=>(match Nat.beq (widths pw.cells) n with
   |true=>some (pw.cells::r)
   |false=>none)
  |_,_,_=>none
def yF(nm:Nat)(t:TypeId)(len:Nat)(ps:List (Nat×PV)):M:=match yQ P t with
 |
  some (e,n,_)=>(match Xl n 0 ps,Nat.beq ps.length len,Nat.ble (len*n) 16777216 with
  |some l,true,true=>.new nm (.arr e n len (fun i=>l.getD i [])) fun v=>.ret (dn (.ow nm v n 0 len))
  |_,_,_=>.fail)
 |none=>.fail
def Fe(d:Int)(x:Option PV)(k:Int->M):M:=match x with
 |none=>k d
 |some v=>(match isLit v with
  |some (.int _ i)=>k i
  |_=>.fail)
def bBt (t:TypeId) (p:PV) (lo hi:Option PV):M:=
 match P.underlying t with
 |some .string=>(match p with
  |.w (.one (.lit (.string b)))=>Fe 0 lo fun l=>Fe (b.size:Int) hi fun h=>.need (0<=l/\l<=h/\h<=(b.size:Int)) (.ret (jo (.string (b.extract l.toNat h.toNat))))
  |_=>.fail)
 | some (.slice e)=>(match p with
  | .w (.one (.sl n len f))=>(match o_ P e with
   |some n'=>(match Nat.beq n n' with
    |true=>Fe 0 lo fun l=>Fe len hi fun h=>.need (0<=l/\l<=h/\h<=len) (.ret (dn (.sl n (h-l).toNat (fun i=>f (l.toNat+i)))))
    |false=>.fail)
   |none=>.fail)
  |_=>.fail)
 | some (.array n e)=>(match o_ P e,p,lo,hi with
  | some 1,.w (.one (.pt x ai off)),none,none=>.obj x fun g vr ob=>jE g (match Nat.beq ai vr,ob with
   | true,.box _ l=>(match uo l off with
    |some (m,_)=>(match Nat.beq m n,Nat.ble n 65536 with
     |true,true=>.ret (dn (.ob x ai off n))
     |_,_=>.fail)
    |none=>.fail)
   |_,_=>.fail)
  |_,_,_,_=>.fail)
 |_=>.fail
def Vx(t:TypeId)(v:PV):M:=match P.underlying t,v with
 |some (.slice _),.w (.one (.sl _ len _))=>.ret (iy len)
 |some (.slice _),.w (.one (.ow _ _ _ _ len))=>.ret (iy len)
 |some (.slice _),.w (.one (.ob _ _ _ len))=>.ret (iy len)
 |some (.slice _),.w (.one (.lit (.slice none 0 0)))=>.ret (iy 0)
 |some .string,.w (.one (.lit (.string s)))=>.ret (iy s.size)
 |_,_=>.fail
def Hz(n:Nat)(v:PV)(k:Nat->(Nat->List PC)->M):M:=match v with
 |.w (.one (.sl n' len f))=>(match Nat.beq n n' with
  |true=>k len f
  |false=>.fail)
 | .w (.one (.ow x ai n' off len))=>.obj x fun g vr ob=>jE g (match Nat.beq ai vr,Nat.beq n n',ob with
  |true,true,.arr _ m tot f=>(match Nat.beq n m with
   |true=>.need (off+len<=tot) (k len (fun i=>f (off+i)))
   |false=>.fail)
  |_,_,_=>.fail)
 | .w (.one (.ob x ai off len))=>.obj x fun g vr ob=>jE g (match Nat.beq ai vr,Nat.beq n 1,ob with
  |true,true,.box _ l=>(match uo l off with
   |some (m,bs)=>.need (len<=m) (k len (fun i=>[.lit (o9 (bs.getD i 0))]))
   |none=>.fail)
  |_,_,_=>.fail)
 |.w (.one (.lit (.slice none 0 0)))=>k 0 (fun _=>[])
 |_=>.fail
def Xh (v:PV) (k:List UInt8->M):M:=match v with
 |.w (.one (.sl n len f))=>(match Nat.beq n 1 with
  |true=>.need (Fj len f) (k (rowB len f))
  |false=>.fail)
 | .w (.one (.ow x ai n off len))=>.obj x fun g vr ob=>jE g (match Nat.beq ai vr,Nat.beq n 1,Nat.beq off 0,ob with
  |true,true,true,.arr _ m tot f=>(match Nat.beq n m with
   |true=>.need (len<=tot/\Fj len f) (k (rowB len f))
   |false=>.fail)
  |_,_,_,_=>.fail)
 | .w (.one (.ob x ai off len))=>.obj x fun g vr ob=>jE g (match Nat.beq ai vr,ob with
  | true,.box _ l=>(match uo l off with
   |some (m,bs)=>(match Nat.beq len m with
    |true=>k bs
    |false=>.fail)
   |none=>.fail)
  |_,_=>.fail)
 |.w (.one (.lit (.slice none 0 0)))=>k []
 |_=>.fail
def aTx (nm:Nat) (t:TypeId) (s x:PV):M:=match yQ P t with
 |
  some (e,n,by')=>(match s with
  | .w (.one (.ow y ai n' off len))=>.obj y fun g vr ob=>jE g (match Nat.beq ai vr,Nat.beq n n',Nat.beq off 0,ob with
   |true,true,true,.arr e' m tot f=>(match Nat.beq n m,Nat.beq e e'&&Nat.blt e FM with
    |true,true=>.need (len=tot) (Hz n x fun k f'=>.need ((tot+k)*by'<=140737488355328) (.upd y (ai+1) (.arr e n (tot+k) (qm tot f f')) (.ret (dn (.ow y (ai+1) n 0 (tot+k))))))
    |_,_=>.fail)
   |_,_,_,_=>.fail)
  |.w (.one (.lit (.slice none 0 0)))=>Hz n x fun k f'=>.need (k*by'<=140737488355328) (.new nm (.arr e n k f') fun v=>.ret (dn (.ow nm v n 0 k)))
  |_=>.fail)
 |none=>.fail
def ZG(e:TypeId):Bool:=match P.info? e with
 |some i=>(match i.zero with
  |some (.int .u8 0)=>true
  |_=>false)
 |none=>false
def E5(n:Nat):ByteArray:=⟨(List.replicate n (0:UInt8)).toArray⟩
def aWz(e:TypeId)(s:PV)(b:ByteArray):M:=match s with
 | .w (.one (.ow y ai n' off len))=>.obj y fun g vr ob=>jE g (match Nat.beq ai vr,Nat.beq 1 n',Nat.beq off 0,ob with
  |true,true,true,.arr e' m tot f=>(match Nat.beq 1 m,Nat.beq e e'&&Nat.blt e FM,ZG P e with
   |true,true,true=>.need (len=tot/\tot+b.size<=140737488355328) (.upd y (ai+1) (.arr e 1 (tot+b.size) (qm tot f (p_ b.data.toList))) (.ret (dn (.ow y (ai+1) 1 0 (tot+b.size)))))
   |_,_,_=>.fail)
  |_,_,_,_=>.fail)
 |_=>.fail
def aTy(_nm:Nat)(t u:TypeId)(s x:PV):M:=match yQ P t,P.underlying u,x with
 |some (e,1,1),some .string,.w (.one (.lit (.string b)))=>aWz P e s b
 |some (e,1,1),some (.int _),.w (.one (.lit (.int .i64 n)))=>(match P.underlying 9 with
  |some .string=>.need (0<=n) (aWz P e s (E5 n.toNat))
  |_=>.fail)
 |_,_,_=>.fail
def V8(r:Option je):PV:=.w (.agg [.lit (.int .i64 (r.getD ⟨0,aS⟩).val),.lit (.string (r.getD ⟨0,aS⟩).bytes)])
def aFY(c:Acc):M:=.obj dx fun g vr ob=>jE g (match Nat.beq vr 0,ob with
 |true,.dev O di l=>.need (O (l++[c])=none->di (l++[c])) (.upd dx 0 (.dev O di (l++[c])) (.ret (V8 (O (l++[c])))))
 |_,_=>.fail)
def doM(xs:List PV):M:=match xs with
 |[.w (.agg [.lit (.int .i64 k),.lit (.int .i64 b),.lit (.int .i64 c),.lit (.string x)])]=>(match decide (k = -1) with
  |true=>.fail
  |false=>aFY ⟨k,b,c,x⟩)
 |_=>.fail
def Ns(G:Specs)(nm:Nat)(fv:PV)(xs:List PV):M:=match fv with
 |.w (.one .dv)=>doM xs
 | .w (.one (.lit (.func (.func f) first cap)))=>(match first.toList,cap.toList,G f with
  |[],[],some sp=>sp nm xs
  |[.agg cs],[],some sp=>(match cs.toList.all (·.oneCell') with
   |true=>sp nm (.w (.agg (cs.toList.map .lit))::xs)
   |false=>.fail)
  |_,_,_=>.fail)
 |.w (.one (.fn (.func f) first cap))=>(match G f,first.all (fun c=>Nat.beq c.width 1),cap.all (fun c=>Nat.beq c.width 1) with
  |some sp,true,true=>sp nm (first.map dn++xs++cap.map dn)
  |_,_,_=>.fail)
 |_=>.fail
def aPb:List PC->Option (List Value)
 |[]=>some []
 |.lit v::l=>(match aPb l with
  |some r=>some (v::r)
  |none=>none)
 |_::_=>none
def bEr:List PV->Option (List Value)
 |[.w (.agg l)]=>aPb l
 |_=>none
def Py(x:PV):Option PC:=match x with
 |.w (.one c)=>some c
 |_=>none
def GN:List PV->Option (List PC)
 |[]=>some []
 |v::l=>match Py v,GN l with
  |some c,some r=>some (c::r)
  |_,_=>none
def Gy:PV->Nat->Option PW
 |.lw l,i=>l[i]?
 |_,_=>none
def aLz:List (Nat×Operand)->(List (Nat×PV)->M)->M
 |[],k=>k []
 |(i,x)::l,k=>yj x fun v=>aLz l fun vs=>k ((i,v)::vs)
def MS(x:Option Operand)(k:Option PV->M):M:=match x with
 |none=>k none
 |some x=>yj x fun v=>k (some v)
def ZZ:Nat->TypeId->List PC->List PC->Option Bool
 |0,_,_,_=>none
 | d + 1,t,l,m=>match P.underlying t with
  |some (.int _)=>(match l,m with
   |[.lit (.int k a)],[.lit (.int k' b)]=>if k=k' then some (a==b) else none
   |_,_=>none)
  |some .string=>(match l,m with
   |[.lit (.string a)],[.lit (.string b)]=>some (a.toList==b.toList)
   |_,_=>none)
  |some .bool=>(match l,m with
   |[.lit (.bool a)],[.lit (.bool b)]=>some (a==b)
   |_,_=>none)
  | some (.array n e)=>(match P.underlying e,o_ P e,l,m with
   |some (.int .u8),some 1,[.bs n1 a],[.bs n2 b]=>(match Nat.beq n n1,Nat.beq n n2 with
    |true,true=>some (a==b)
    |_,_=>none)
   |_,_,_,_=>none)
  | some (.struct fs)=>(match P.stoodInHeld t with
   | false=>fs.toList.foldr (fun f acc=>match acc,f.name != "_",o_ P f.type with
    | some r,true,some n=>(match qL l f.offset n,qL m f.offset n with
     |some x,some y=>(match BO P f.type x,BO P f.type y,ZZ d f.type x y with
      |some _,some _,some q=>some (q&&r)
      |_,_,_=>none)
     |_,_=>none)
    |_,_,_=>none) (some true)
   |true=>none)
  |_=>none
def aVv(t:TypeId)(k:M):M:=match P.underlying t with
 |some (.array _ _)=>(match P.eqGuardType P.depth t with|false=>k|true=>.fail)
 |_=>.need (P.eqGuardType P.depth t=false) k
def XP(op:BinOp)(t:TypeId)(x y:Operand)(a b:PV):M:=match a,b with
 |.w (.one (.lit va)),.w (.one (.lit vb))=>(match op,va,vb with
  |.quo,.int k m,.int k' n=>if k=k' then .need (n≠0) (.ret (jo (.int k (k.wrap (m.tdiv n))))) else .fail
  |.rem,.int k m,.int k' n=>if k=k' then .need (n≠0) (.ret (jo (.int k (m.tmod n)))) else .fail
  |.shl,.int k m,.int _ n=>.need (0<=n) (.ret (jo (.int k (k.wrap (m*2 ^ (min n.toNat k.bits))))))
  |.shr,.int k m,.int _ n=>.need (0<=n) (.ret (jo (.int k (m.fdiv (2 ^ (min n.toNat k.bits))))))
  |.add,.string m,.string n=>.need ((m.size+n.size:Nat)<=9223372036854775807) (.ret (jo (.string (m++n))))
  |op,va,vb=>FB (aAp P (do eqGuard op t x y va vb;binOp op t va vb)))
 |.w (.agg l),.w (.agg m)=>(match op,ZZ P 8 t l m,iF P t with
  |.eql,some r,some true=>aVv P t (.ret (qi r))
  |.neq,some r,some true=>aVv P t (.ret (qi (!r)))
  |_,_,_=>.fail)
 |.w (.one (.sl _ len _)),.w (.one (.lit (.slice none 0 0)))=>(match op,P.underlying t with
  |.eql,some (.slice _)=>.need (0<len) (.ret (qi false))
  |.neq,some (.slice _)=>.need (0<len) (.ret (qi true))
  |_,_=>.fail)
 |_,_=>.fail
def U4(c a b:Operand):M:=yj c fun cv=>match cv with
 |.w (.one (.lit (.bool h)))=>X5 (h=true) a fun av=>X5 (h=false) b fun bv=>(match av,bv with
  |.w (.one (.lit (.bool x))),.w (.one (.lit (.bool y)))=>.ret (qi (bif h then x else y))
  |_,_=>.fail)
 |_=>.fail
def QC:Nat:=0
def Nc(own:Bool)(nm:Nat)(src dst:TypeId)(v:PV):M:=match P.underlying src,P.underlying dst with
 | some .string,some (.slice e)=>(match P.underlying e,v with
  |some (.int .u8),.w (.one (.lit (.string b)))=>(match own with
   |false=>.need (b.size<=9223372036854775807) (.ret (dn (.sl 1 b.size (p_ b.data.toList))))
   |true=>.need (b.size<=9223372036854775807) (.new nm (.arr FM 1 b.size (p_ b.data.toList)) fun v=>.ret (dn (.ow nm v 1 0 b.size))))
  |_,_=>.fail)
 |some (.slice e),some .string=>(match P.underlying e with
  |some (.int .u8)=>Xh v fun l=>.ret (jo (.string ⟨l.toArray⟩))
  |_=>.fail)
 |_,_=>(match isLit v with
  |some u=>FB (aAp P (convert src dst u))
  |none=>.fail)
def KP(nm:Nat)(t:TypeId)(l c:PV):M:=match yQ P t,isLit l,isLit c with
 |some (e,n,by'),some (.int _ l),some (.int _ c)=>(match Xm P e with
  |some z=>.need (0<=l/\l<=c/\(by':Int)*c<=140737488355328) (.new nm (.arr e n l.toNat (fun _=>z)) fun v=>.ret (dn (.ow nm v n 0 l.toNat)))
  |none=>.fail)
 |_,_,_=>.fail
def XF(k:Nat)(f f':Nat->List PC):Nat->List PC:=fun i=>if i<k then f' i else f i
def Na(t:TypeId)(x y:PV):M:=match yQ P t,x with
 | some (e,n,_),.w (.one (.ow z ai n' off len))=>.obj z fun g vr ob=>jE g (match Nat.beq ai vr,Nat.beq n n',Nat.beq off 0,ob with
  |true,true,true,.arr e' m tot f=>(match Nat.beq n m,Nat.beq e e'&&Nat.blt e FM with
   |true,true=>.need (len=tot) (Hz n y fun k f'=>.upd z ai (.arr e n tot (XF (min k tot) f f')) (.ret (iy (min k tot:Nat))))
   |_,_=>.fail)
  |_,_,_,_=>.fail)
 |_,_=>.fail
def bEw:PV->Bool
 |.w (.one (.pt _ _ _))=>true
 |.w (.one (.pk _ _ _ _))=>true
 |.w (.one (.pe _ _ _ _ _))=>true
 |.w (.one (.pf _ _ _ _ _))=>true
 |.w (.one (.pa _ _))=>true
 |_=>false
def aMo(t:TypeId)(v:PV):M:=match P.underlying t,v with
 |some (.array n e),.w (.one (.sl k len f))=>(match o_ P e,Nat.beq k 1 with
  |some 1,true=>.need (n<=len/\0<len) (.ret (dn (.pa len f)))
  |_,_=>.fail)
 |_,_=>.fail
def Va(a b:PV):M:=match a,b with
 |.w (.one (.lit (.int k m))),.w (.one (.lit (.int k' n)))=>if k=k' then .ret (jo (.int k (min m n))) else .fail
 |_,_=>.fail
def Vk(a b:PV):M:=match a,b with
 |.w (.one (.lit (.int k m))),.w (.one (.lit (.int k' n)))=>if k=k' then .ret (jo (.int k (max m n))) else .fail
 |_,_=>.fail
def body(G:Specs)(nm:Nat)(o:Oper):M:=match o.op with
 |.move x=>yj x fun v=>.ret v
 |.assign x=>yj x fun v=>.ret v
 |.pick c a b=>U4 c a b
 |.alloc t=>(match Xm P t with
  |some l=>.new nm (.box t l) fun v=>.ret (dn (.pt nm v 0))
  |none=>.fail)
 | .box t x=>yj x fun v=>(match v,o_ P t with
  |.w pw,some n=>(match Nat.beq n (widths pw.cells) with
   |true=>.new nm (.box t pw.cells) fun v=>.ret (dn (.pt nm v 0))
   |false=>.fail)
  |_,_=>.fail)
 |.load t p=>yj p fun p=>UF P t p
 |.store t p v=>yj p fun p=>yj v fun v=>bBn P t p v
 |.fieldAddr t p f=>yj p fun p=>aAy P t p f
 |.indexAddr t p i=>yj p fun p=>yj i fun i=>aAt P t p i
 |.field t v f=>yj v fun v=>bFy P t v f
 |.extract v i=>yj v fun v=>Pj (Gy v i)
 |.build t ps=>aLz ps.toList fun vs=>(match Xm P t with
  |some l=>bHm P t vs l
  |none=>.fail)
 |.buildSlice t n ps=>aLz ps.toList fun vs=>yF P nm t n vs
 |.slice t p lo hi none=>yj p fun p=>MS lo fun lo=>MS hi fun hi=>bBt P t p lo hi
 |.binOp op t x y _=>yj x fun a=>yj y fun b=>XP P op t x y a b
 |.unOp op _ x=>yj x fun a=>(match isLit a with
  |some v=>FB (aAp P (Op.unary op v))
  |none=>.fail)
 |.convert src dst x=>yj x fun a=>Nc P (G QC).isSome nm src dst a
 |.makeSlice t l c=>yj l fun l=>yj c fun c=>KP P nm t l c
 | .call { callee:=.builtin .copy,args,argTypes }=>(match args.toList,argTypes.toList with
  |[x,y],[t,t']=>(match Nat.beq t t' with
   |true=>yj x fun x=>yj y fun y=>Na P t x y
   |false=>.fail)
  |_,_=>.fail)
 |.nilCheck x=>yj x fun v=>(match bEw v with
  |true=>.ret v
  |false=>.fail)
 |.sliceToArrayPointer t x=>yj x fun v=>aMo P t v
 |.call { callee:=.builtin .min,args,.. }=>(match args.toList with
  |[x,y]=>yj x fun x=>yj y fun y=>Va x y
  |_=>.fail)
 |.call { callee:=.builtin .max,args,.. }=>(match args.toList with
  |[x,y]=>yj x fun x=>yj y fun y=>Vk x y
  |_=>.fail)
 | .makeFunc fn first cap=>bGh first.toList fun fs=>bGh cap.toList fun cs=>(match GN fs,GN cs with
  |some fs,some cs=>.ret (dn (.fn fn fs cs))
  |none,some []=>(match bEr fs with
   |some l=>.ret (jo (.func fn #[.agg l.toArray] #[]))
   |none=>.fail)
  |_,_=>.fail)
 |.call { callee:=.value f,args,.. }=>yj f fun fv=>bGh args.toList fun xs=>Ns G nm fv xs
 |.call { callee:=.builtin .len,args,argTypes }=>(match args.toList,argTypes.toList with
  |[x],[t]=>yj x fun v=>Vx P t v
  |_,_=>.fail)
 | .call { callee:=.builtin .append,args,argTypes }=>(match args.toList,argTypes.toList with
  |[s,x],[t,t']=>(match Nat.beq t t' with
   |true=>yj s fun s=>yj x fun x=>aTx P nm t s x
   |false=>yj s fun s=>yj x fun x=>aTy P nm t t' s x)
  |_,_=>.fail)
 |_=>.fail
def Pm:List ResultVar->(List PW->M)->M
 |[],k=>k []
 |.tmp t::l,k=>yj (.tmp t) fun v=>(match v with
  |.w x=>Pm l fun xs=>k (x::xs)
  |_=>.fail)
 |.cell a t::l,k=>yj (.tmp a) fun p=>Eh P t p fun x=>Pm l fun xs=>k (x::xs)
def Az(rs:Array ResultVar):M:=Pm P rs.toList fun xs=>(match xs with
 |[x]=>.ret (.w x)
 |xs=>.ret (.lw xs))
def JE(U3 b:Bool):Bool:=match U3 with
 |true=>b
 |false=>!b
def bEc(G:Specs)(Dy:Nat)(ops:List Oper)(i:Nat)(o:Oper):M:=match o.guard with
 |none=>body P G (Dy*1000+i) o
 | some (j,U3)=>(match (ops[j]?).bind (·.dst) with
  |some tj=>.tmp tj fun g v=>(match g,v with
   |none,.w (.one (.lit (.bool b)))=>.gate (JE U3 b) (body P G (Dy*1000+i) o)
   |some b0,.w (.one (.lit (.bool b)))=>.gate (b0&&JE U3 b) (body P G (Dy*1000+i) o)
   |_,_=>.fail)
  |none=>.fail)
end
theorem gy{a b:Nat}(h:Nat.beq a b=true):a=b:=Nat.eq_of_beq_eq_true h
section
variable {P:Program} {A:kz} {s:St} {a:Act} {w:World} {env:Env}
def Fin(A:kz)(s:St)(a:Act)(o:Oper)(K:Act->World->Prop)(F:Option Bool->PV->Wr->Prop):Prop:=
 ∀ v wr val w' env',F none v wr->gm A { s with o:=wr++s.o } a w' env'->RV (aU A w' env') v val->K (a.put o.dst val) w'
theorem Fin.same{o:Oper}{K:Act->World->Prop}{F:Option Bool->PV->Wr->Prop}(hf:Fin A s a o K F)(h:gm A s a w env){v:PV}{val:Value}(hF:F none v [])(hv:RV (aU A w env) v val):K (a.put o.dst val) w:=
 hf v [] val w env hF h hv
theorem gG(h:gm A s a w env){x:Operand}{k:PV->M}{F:Option Bool->PV->Wr->Prop}(hk:(yj x k).ok none s F):∃ pv,RV (aU A w env) pv (a.eval x)/\(k pv).ok none s F:=by
 cases x with
 | tmp t=>
  obtain⟨g,v,hf,hk⟩:=hk
  have key:gT g->∃ pv,RV (aU A w env) pv (a.eval (.tmp t))/\pv=v:=fun hg=>by
   obtain⟨val,h1,h2⟩:=h.tmps t g v hf hg
   refine⟨v,?_,rfl⟩
   simp only[Act.eval];rw[Array.getD_eq_getD_getElem?,h1];exact h2
  cases g with
  |none=>
   obtain⟨pv,h1,rfl⟩:=key trivial
   exact⟨pv,h1,hk⟩
  |some b=>
   obtain⟨pv,h1,rfl⟩:=key hk.1
   exact⟨pv,h1,hk.2⟩
 |const v=>cases v<;>first|exact hk.elim|exact⟨_,.w (.one (.lit rfl)),hk⟩
 |global g=>exact⟨_,.w (.one (.lit rfl)),hk⟩
 |func f=>exact⟨_,.w (.one (.lit rfl)),hk⟩
theorem bGg(h:gm A s a w env){p:Prop}{x:Operand}{k:PV->M}{F:Option Bool->PV->Wr->Prop}(hk:(X5 p x k).ok none s F):∃ pv,(p->RV (aU A w env) pv (a.eval x))/\(k pv).ok none s F:=by
 cases x with
 | tmp t=>
  obtain⟨g,v,hf,hk⟩:=hk
  have key:gT g->∃ pv,RV (aU A w env) pv (a.eval (.tmp t))/\pv=v:=fun hg=>by
   obtain⟨val,h1,h2⟩:=h.tmps t g v hf hg
   refine⟨v,?_,rfl⟩
   simp only[Act.eval];rw[Array.getD_eq_getD_getElem?,h1];exact h2
  cases g with
  |none=>
   obtain⟨pv,h1,rfl⟩:=key trivial
   exact⟨pv,fun _=>h1,hk⟩
  |some b=>
   refine⟨v,fun hp=>?_,hk.2⟩
   obtain⟨pv,h1,rfl⟩:=key (hk.1 hp)
   exact h1
 |const v=>cases v<;>first|exact hk.elim|exact⟨_,fun _=>.w (.one (.lit rfl)),hk⟩
 |global g=>exact⟨_,fun _=>.w (.one (.lit rfl)),hk⟩
 |func f=>exact⟨_,fun _=>.w (.one (.lit rfl)),hk⟩
theorem dU{g:Option Bool}{k:M}{F:Option Bool->PV->Wr->Prop}(h:(jE g k).ok none s F):gT g/\k.ok none s F:=by
 cases g with
 |none=>exact⟨trivial,h⟩
 |some b=>exact h
theorem jQ(h:gm A s a w env){x:Nat}{g:Option Bool}{vr:Nat}{ob:og}(hf:find s.o x=some (g,vr,ob))(hg:gT g):∃ hd,env x=some (vr,hd)/\Ey (aU A w env) hd ob:=by
 obtain⟨hd,h1,h2⟩:=h.ji x g vr ob hf
 exact⟨hd,h1,h2 hg⟩
theorem At.now{C:Ctx}{x ai:Nat}{p:Value->Prop}(h:At C x ai p){hd:Value}(he:C.env x=some (ai,hd)):p hd:=by
 obtain⟨vr,hd',h1,_,h3⟩:=h;rw[he] at h1;cases h1;exact h3 rfl
theorem bCl{x:Option PW}{F:Option Bool->PV->Wr->Prop}(h:(Pj x).ok none s F):∃ pw,x=some pw/\F none (.w pw) []:=by
 cases x with
 |none=>exact h.elim
 |some pw=>exact⟨pw,rfl,h⟩
theorem bEe{C:Ctx}{t:TypeId}{m:List PC}{pw:PW}{xs:List Value}(hw:BO P t m=some pw)(hr:RL C m xs) :
  (iF P t=some true/\RW C pw (.agg xs.toArray))\/(iF P t=some false/\∃ v,xs=[v]/\v.oneCell'=true/\RW C pw v):=by
 unfold BO at hw
 cases hi:iF P t with
 |none=>rw[hi] at hw;cases hw
 | some b=>
  rw[hi] at hw
  cases b with
  |true=>
   cases hw
   exact .inl ⟨rfl,.agg (by simpa using hr)⟩
  | false=>
   dsimp only at hw;refine .inr ⟨rfl,?_⟩
   match m,hw,hr with
   | [c],hw,hr=>
    dsimp only at hw
    cases hb:Nat.beq c.width 1 with
    |false=>rw[hb] at hw;cases hw
    | true=>
     rw[hb] at hw;cases hw
     cases hr with
     |cons h1 h2=>
      cases h2;have hl:=h1.width;rw[gy hb] at hl;rename_i xs0
      match xs0,hl,h1 with
      |[v],_,h1=>exact⟨v,by simp,h1.ones v (by simp),.one h1⟩
theorem aEc{t:TypeId}(h:iF P t=some true):∃ d,P.underlying t=some d/\d.isRow=true:=by
 unfold iF at h
 split at h
 ·exact⟨_,by assumption,rfl⟩
 ·exact⟨_,by assumption,rfl⟩
 ·cases h
 ·cases h
theorem yT{t:TypeId}(h:iF P t=some false)(w:World):(isAgg t).run P w=.ok false w:=by
 unfold isAgg;unfold iF at h
 cases hu:P.underlying t with
 |none=>rw[hu] at h;cases h
 |some d=>
  rw[Sem.run_bind,run_underlying hu];rw[hu] at h
  cases d<;>first|(cases h;done)|rfl
theorem aLi{C:Ctx}{t:TypeId}{n b o:Nat}{m:List PC}{pw:PW}{xs:List Value}(hm:o_ P t=some n)(hw:BO P t m=some pw)(hr:RL C m xs)(hlen:xs.length=n)(hc:C.w.rangeAt b o xs) :
  ∃ val,(Instr.loadAt t (.pointer (some ⟨b,o,none⟩))).run P C.w=.ok val C.w/\RW C pw val:=by
 rcases bEe hw hr with⟨hi,h1⟩|⟨hi,v,rfl,hv,h1⟩
 ·obtain⟨d,hu,hd⟩:=aEc hi
  refine⟨_,run_loadAt_mid C.w b o t xs d hc hu hd ?_,h1⟩
  rw[hlen];exact hm
 ·refine⟨v,?_,h1⟩
  have hcell:=hc 0 v rfl;rw[Nat.add_zero] at hcell;simp only[Instr.loadAt,Instr.sureAddr,Sem.run_bind,Sem.run_pure,Result.andThen_ok,loadVar,yT hi];simp[load,Sem.run,hcell]
theorem aJw{o:Oper}{K:Act->World->Prop}{Q:Exit->Act->World->Prop}{t:TypeId}{x:Operand}(ho:o.op=.load t x){val:Value}(hr:(Instr.loadAt t (a.eval x)).run P w=.ok val w)(hK:K (a.put o.dst val) w):o.wp P a w K Q:=by
 unfold Oper.wp execOp;simp only[ho,Sem.run_bind,Sem.run_pure,Result.andThen_ok,hr];exact hK
theorem jC{w:World}{b o:Nat}{cs:List Value}(h:w.rangeAt b o cs)(off n:Nat):w.rangeAt b (o+off) ((cs.drop off).take n):=fun j v hj=>by
 rw[List.getElem?_take] at hj
 by_cases hn:j<n
 ·rw[if_pos hn,List.getElem?_drop] at hj;have:=h (off+j) v hj;rwa [<-Nat.add_assoc] at this
 ·rw[if_neg hn] at hj;cases hj
theorem aOn{w:World}{e n len:Nat}{g:Nat}{n0 c0:Nat}{vs:List Value}(h:D5 w e n (.slice (some ⟨g,0,none⟩) n0 c0) len vs):w.rangeAt g 0 vs:=h.range
theorem oQ{C:Ctx}:∀ {l:List PC} {off n:Nat} {bs:List UInt8} {xs:List Value},RL C l xs->uo l off=some (n,bs)->bs.length=n/\(xs.drop off).take n=bs.map o9/\off+n<=xs.length:=by
 intro l
 induction l with
 |nil=>intro off n bs xs h hb;cases off<;>simp[uo] at hb
 | cons c l ih=>
  intro off n bs xs h hb
  cases h with
  | @cons _ _ _ xa xb h1 h2=>
   have hw:=h1.width
   match off with
   | 0=>
    cases c<;>first|(simp[uo] at hb;done)|skip
    obtain⟨rfl,rfl⟩:_=n/\_=bs:=by simpa[uo] using hb
    cases h1 with
    |bs h=>
     refine⟨h,?_,by simp;omega⟩
     rw[List.drop_zero,List.take_append_of_le_length (by simp;omega),List.take_of_length_le (by simp;omega)]
   | off+1=>
    have hb':(if c.width<=off+1 then uo l (off+1-c.width) else none)=some (n,bs):=by
     cases c<;>exact hb
    by_cases hc:c.width<=off+1
    ·rw[if_pos hc] at hb';obtain⟨k1,k2,k3⟩:=ih h2 hb'
     refine⟨k1,?_,by rw[List.length_append];omega⟩
     rw[List.drop_append,List.drop_of_length_le (by omega),List.nil_append,hw];exact k2
    ·rw[if_neg hc] at hb';cases hb'
theorem qB(bs:List UInt8)(k:Nat)(h:k<bs.length):(bs.map o9)[k]?=some (o9 (bs.getD k 0)):=by
 rw[List.getElem?_map,zH h,zG,zH h];rfl
theorem RV.inv{C:Ctx}{c:PC}{v:Value}(h:RV C (.w (.one c)) v):R C c [v]:=by cases h with|w h=>cases h with|one h=>exact h
theorem RV.AQ{C:Ctx}{x ai off:Nat}{v:Value}(h:RV C (.w (.one (.pt x ai off))) v){hd:Value}(he:C.env x=some (ai,hd)):aMr off v hd:=by cases h.inv with|pt _ h=>exact h.now he
theorem RV.JF{C:Ctx}{x ai off k:Nat}{v:Value}(h:RV C (.w (.one (.pk x ai off k))) v){hd:Value}(he:C.env x=some (ai,hd)):aMr (off+k) v hd:=by cases h.inv with|pk _ h=>exact h.now he
theorem RV.JG{C:Ctx}{x ai n i j:Nat}{v:Value}(h:RV C (.w (.one (.pe x ai n i j))) v){hd:Value}(he:C.env x=some (ai,hd)):bIh n i j v hd:=by cases h.inv with|pe _ h=>exact h.now he
theorem RV.yt{C:Ctx}{x ai n off len:Nat}{v:Value}(h:RV C (.w (.one (.ow x ai n off len))) v){hd:Value}(he:C.env x=some (ai,hd)):bIi n off len v hd:=by cases h.inv with|ow _ h=>exact h.now he
theorem RV.JZ{C:Ctx}{x ai off len:Nat}{v:Value}(h:RV C (.w (.one (.ob x ai off len))) v){hd:Value}(he:C.env x=some (ai,hd)):bIj off len v hd:=by cases h.inv with|ob _ h=>exact h.now he
theorem aFb{t:TypeId}{b o:Nat}{v:Value}(hi:iF P t=some false)(hc:w.cell? ⟨b,o,none⟩=some v):(Instr.loadAt t (.pointer (some ⟨b,o,none⟩))).run P w=.ok v w:=by
 simp only[Instr.loadAt,Instr.sureAddr,Sem.run_bind,Sem.run_pure,Result.andThen_ok,loadVar,yT hi];simp[load,Sem.run,hc]
theorem aZl{w:World}{b n i:Nat}{vs:List Value}(h:w.rangeAt b 0 vs)(j sz:Nat):w.rangeAt b (i*n+j) ((((vs.drop (i*n)).take n).drop j).take sz):=by
 have h1:=jC h (i*n) n;rw[Nat.zero_add] at h1;exact jC h1 j sz
theorem aCl{x:Option PW}{k:PW->M}{F:Option Bool->PV->Wr->Prop}(h:(bAw x k).ok none s F):∃ pw,x=some pw/\(k pw).ok none s F:=by
 cases x with
 |none=>exact h.elim
 |some pw=>exact⟨pw,rfl,h⟩
theorem JX{l:List PC}{n:Nat}{bs:List UInt8}(h:JY l=some (n,bs)):l=[.bs n bs]:=by
 unfold JY at h
 split at h
 ·cases h;rfl
 ·cases h
theorem aVo (h:gm A s a w env) {F:Option Bool->PV->Wr->Prop} {t:TypeId} {v:Value} {p:PV} {kk:PW->M} (hp:RV (aU A w env) p v) (hk:(Eh P t p kk).ok none s F):∃ b o1 pw val,v=.pointer (some ⟨b,o1,none⟩)/\(Instr.loadAt t v).run P w=.ok val w/\RW (aU A w env) pw val/\(kk pw).ok none s F:=by
 unfold Eh at hk
 split at hk
 ·
  rename_i x1 ai off;obtain⟨g,vr,ob,hfo,hk⟩:=hk;have hk2:=dU hk;clear hk;obtain⟨hg,hk⟩:=hk2;obtain⟨hd,he,hob⟩:=jQ h hfo hg
  cases hb:Nat.beq ai vr<;>cases ob<;>cases hsz:o_ P t<;>simp only[hb,hsz] at hk<;>try exact hk.elim
  rename_i bt l n
  obtain rfl:=gy hb
  cases hs:qL l off n with
  |none=>rw[hs] at hk;exact hk.elim
  |some m=>
   rw[hs] at hk;obtain⟨pw,hw,hF⟩:=aCl hk;obtain⟨g1,rfl,hv⟩:=hp.AQ he;obtain⟨g2,cs,e2,hB,hR⟩:=hob;cases e2;obtain⟨k1,k2⟩:=hR.sub hs;have hrg:=jC hB.range off n;rw[Nat.zero_add] at hrg;obtain⟨val,hrun,hval⟩:=aLi (C:=aU A w env) hsz hw k1 (by rw[List.length_take,List.length_drop];omega) hrg;rw[<-hv] at hrun
   exact⟨_,_,pw,val,hv,hrun,hval,hF⟩
 ·
  rename_i x1 ai off k;obtain⟨g,vr,ob,hfo,hk⟩:=hk;have hk2:=dU hk;clear hk;obtain⟨hg,hk⟩:=hk2;obtain⟨hd,he,hob⟩:=jQ h hfo hg
  cases hb:Nat.beq ai vr<;>cases ob<;>cases hi:iF P t<;>simp only[hb,hi] at hk<;>try exact hk.elim
  rename_i bt l bb
  cases bb<;>try exact hk.elim
  obtain rfl:=gy hb
  dsimp only at hk
  cases hs:uo l off with
  |none=>rw[hs] at hk;exact hk.elim
  |some q=>
   obtain⟨n,bs⟩:=q;rw[hs] at hk;obtain⟨hkn,hF⟩:=hk;obtain⟨g1,rfl,hv⟩:=hp.JF he;obtain⟨g2,cs,e2,hB,hR⟩:=hob;cases e2;obtain⟨k1,k2,k3⟩:=oQ hR hs;have hrg:=jC hB.range off n;rw[Nat.zero_add,k2] at hrg;have hcell:=hrg k _ (qB bs k (by rw[k1];exact hkn));have hrun:=aFb (P:=P) hi hcell;rw[<-hv] at hrun
   exact⟨_,_,_,_,hv,hrun,.one (.lit rfl),hF⟩
 ·
  rename_i x1 ai n i j;obtain⟨g,vr,ob,hfo,hk⟩:=hk;have hk2:=dU hk;clear hk;obtain⟨hg,hk⟩:=hk2;obtain⟨hd,he,hob⟩:=jQ h hfo hg
  cases hb:Nat.beq ai vr<;>cases ob<;>cases hsz:o_ P t<;>simp only[hb,hsz] at hk<;>try exact hk.elim
  rename_i e n' len f sz
  obtain rfl:=gy hb
  cases hb2:Nat.beq n n'<;>cases hs:qL (f i) j sz<;>simp only[hb2,hs] at hk<;>try exact hk.elim
  rename_i m
  obtain rfl:=gy hb2
  obtain⟨hil,hk⟩:=hk;obtain⟨pw,hw,hF⟩:=aCl hk;obtain⟨g1,n0,c0,rfl,hi0,hv⟩:=hp.JG he;obtain⟨vs,hown,hel⟩:=hob;obtain⟨k1,k2⟩:=(hel i hil).sub hs;have hrg:=aZl (i:=i) (n:=n) (aOn hown) j sz;obtain⟨val,hrun,hval⟩:=aLi (C:=aU A w env) hsz hw k1 (by rw[List.length_take,List.length_drop];omega) hrg;rw[<-hv] at hrun
  exact⟨_,_,pw,val,hv,hrun,hval,hF⟩
 ·
  rename_i n len f i j
  cases hsz:o_ P t with
  |none=>simp only[hsz] at hk;exact hk.elim
  | some sz=>
   simp only[hsz] at hk
   split at hk
   ·rename_i m bs hob hb1 hi1
    obtain rfl:=gy hb1
    obtain⟨hj,hF⟩:=hk;have hfi:=JX hob
    cases hp.inv with
    | @pf _ _ _ _ _ _ b o1 c vs hr hb he hi=>
     obtain⟨h1,A1,c1,e1,h2,h3,h4⟩:=hr;obtain⟨b',o',eA,hcell⟩:=h4 (by omega);cases e1;cases eA;have hel:=he i hi;rw[hfi] at hel;have hrg:w.rangeAt b o1 vs:=fun jj v hj=>hcell jj v hj;have hrg2:=jC hrg (i*n) n;have hbs:=hel.single;generalize (vs.drop (i*n)).take n=q at hrg2 hbs
     cases hbs with
     |bs hl=>
      have hcell2:=hrg2 j _ (qB bs j (by rw[hl];exact hj));have hrun:=aFb (P:=P) hi1 hcell2;rw[Nat.add_assoc] at hrun
      exact⟨_,_,_,_,rfl,hrun,.one (.lit rfl),hF⟩
   ·cases hs:qL (f i) j sz with
    |none=>rw[hs] at hk;exact hk.elim
    | some m=>
     rw[hs] at hk;obtain⟨pw,hw,hF⟩:=aCl hk
     cases hp.inv with
     |@pf _ _ _ _ _ _ b o1 c vs hr hb he hi=>
      obtain⟨h1,A1,c1,e1,h2,h3,h4⟩:=hr;obtain⟨b',o',eA,hcell⟩:=h4 (by omega);cases e1;cases eA;obtain⟨k1,k2⟩:=(he i hi).sub hs;have hrg:w.rangeAt b o1 vs:=fun jj v hj=>hcell jj v hj;have hrg2:=jC (jC hrg (i*n) n) j sz;obtain⟨val,hrun,hval⟩:=aLi (C:=(aU A w env).cold) hsz hw k1 (by rw[List.length_take,List.length_drop];omega) hrg2;rw[Nat.add_assoc] at hrun
      exact⟨_,_,pw,val,rfl,hrun,hval.le ⟨Nat.le_refl _,fun b _ h=>⟨h,rfl⟩,fun _ _ _ h=>by cases h⟩,hF⟩
 ·
  rename_i len f
  split at hk
  ·rename_i n e hu
   split at hk
   ·rename_i m hm he
    split at hk
    ·rename_i hb
     obtain rfl:=gy hb
     obtain⟨⟨hle,hrow⟩,hk⟩:=hk;obtain⟨pw,hw,hF⟩:=aCl hk
     cases hp.inv with
     | @pa _ _ b o1 c _ vs hr hb2 he2 hn=>
      obtain⟨h1,A1,c1,e1,h2,h3,h4⟩:=hr;obtain⟨b',o',eA,hcell⟩:=h4 (by omega);cases e1;cases eA
      have hvs:vs.take m=(rowB m f).map o9:=by
       refine aEb (C:=(aU A w env).cold) (by rw[List.length_take];omega) (fun i hi=>?_) hrow;have h5:=he2 i (by omega)
       have e5:((vs.take m).drop (i*1)).take 1=(vs.drop (i*1)).take 1:=by
        rw[List.drop_take,List.take_take];congr 1;omega
       rw[e5];exact h5
      have hrg:w.rangeAt b o1 (vs.take m):=fun jj v hj=>by
       rw[List.getElem?_take] at hj
       split at hj
       ·exact hcell jj v hj
       ·cases hj
      rw[hvs] at hrg;obtain⟨val,hrun,hval⟩:=aLi (C:=aU A w env) (xs:=(rowB m f).map o9) hm hw (by simpa using RL.cons (R.bs (fP m f)) RL.nil) (by rw[List.length_map,fP]) hrg
      exact⟨_,_,pw,val,rfl,hrun,hval,hF⟩
    ·exact hk.elim
   ·exact hk.elim
  ·exact hk.elim
 ·exact hk.elim
theorem Ql(h:gm A s a w env){o:Oper}{K:Act->World->Prop}{Q:Exit->Act->World->Prop}{F:Option Bool->PV->Wr->Prop}{t:TypeId}{x:Operand}(ho:o.op=.load t x){p:PV}(hp:RV (aU A w env) p (a.eval x))(hk:(UF P t p).ok none s F)(hf:Fin A s a o K F):o.wp P a w K Q:=by
 obtain⟨b,o1,pw,val,_,hrun,hval,hF⟩:=aVo h hp hk;exact aJw ho hrun (hf.same h hF (.w hval))
end
end Pv
end Go.Proofs.YtndpjopifkbgiaaGreatDoor
