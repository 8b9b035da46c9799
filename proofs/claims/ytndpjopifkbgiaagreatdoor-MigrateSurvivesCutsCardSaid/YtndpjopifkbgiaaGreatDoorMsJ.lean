/-.-/
import Derived.Test.YtndpjopifkbgiaaGreatDoorMsI
import Derived.Test.YtndpjopifkbgiaaGreatDoorMsA
import Derived.Scope
import Derived.WalkMore
import Derived.Test.YtndpjopifkbgiaaGreatDoorMsC
import Derived.Great.BuildSlice
import Derived.Deep.RegionLaw
import Derived.Deep.Cut
import Derived.Test.YtndpjopifkbgiaaGreatDoorMsD
set_option maxRecDepth 100000
set_option maxHeartbeats 4000000
namespace Go.Proofs.YtndpjopifkbgiaaGreatDoor
open Go.RowKit
namespace Pv
def px:Nat:=900001
def XV(l:List PC):Option (List PC):=match l.all (fun c=>Nat.beq c.width 1) with
 |true=>some (l.map fun _=>.any)
 |false=>none
def Fh:PC->Option PC
 |.lit v=>some (.lit v)
 |.bs n l=>some (.bs n l)
 |.sl n len f=>some (.sl n len f)
 |.fn f first cap=>match XV first,XV cap with
  |some a,some b=>some (.fn f a b)
  |_,_=>none
 |.pt _ _ _=>some .any
 |.any=>some .any
 |_=>none
def ET:List PC->Option (List PC)
 |[]=>some []
 |c::l=>match Fh c,ET l with
  |some c,some l=>some (c::l)
  |_,_=>none
def ES:PV->Option PV
 |.w (.one c)=>match Fh c with
  |some c=>some (.w (.one c))
  |none=>none
 |.w (.agg l)=>match ET l with
  |some l=>some (.w (.agg l))
  |none=>none
 |_=>none
def Fp:List PV->Option (List PV)
 |[]=>some []
 |v::l=>match ES v,Fp l with
  |some v,some l=>some (v::l)
  |_,_=>none
theorem aTz{C C':Ctx}:∀ {l:List PC} {xs:List Value},RL C l xs->(l.all fun c=>Nat.beq c.width 1)=true->RL C' (l.map fun _=>.any) xs
 |[],_,h,_=>by cases h;exact .nil
 | c::l,_,h,hc=>by
  rw[List.all_cons,Bool.and_eq_true] at hc
  cases h with
  |@cons _ _ _ xs ys h1 h2=>
   have hw:=h1.width;rw[gy hc.1] at hw
   match xs,hw,h1 with
   |[v],_,h1=>exact .cons (xs:=[v]) (.any (h1.ones v (by simp))) (aTz h2 hc.2)
theorem bHw{C C':Ctx}(hle:C.cold.Le C'){c c':PC}{xs:List Value}(h:Fh c=some c')(hr:R C c xs):R C' c' xs:=by
 unfold Fh at h
 split at h
 ·cases h;cases hr;exact .lit (by assumption)
 ·cases h;cases hr;exact .bs (by assumption)
 ·cases h;exact (aGf hr rfl).le hle
 ·rename_i f first cap;unfold XV at h
  cases h1:first.all fun c=>Nat.beq c.width 1<;>cases h2:cap.all fun c=>Nat.beq c.width 1<;>simp only[h1,h2] at h<;>try (cases h;done)
  cases h
  cases hr with
  |fn h3 h4=>exact .fn (aTz h3 h1) (aTz h4 h2)
 ·cases h
  cases hr with
  |pt h1 _=>obtain⟨b,o,rfl⟩:=h1;exact .any rfl
 ·cases h;cases hr;exact .any (by assumption)
 ·cases h
theorem bHv{C C':Ctx}(hle:C.cold.Le C'):∀ {l l':List PC} {xs:List Value},ET l=some l'->RL C l xs->RL C' l' xs
 |[],_,_,h,hr=>by simp only[ET,Option.some.injEq] at h;subst h;cases hr;exact .nil
 |c::l,_,_,h,hr=>by
  unfold ET at h
  cases h1:Fh c<;>cases h2:ET l<;>simp only[h1,h2] at h<;>try (cases h;done)
  cases h
  cases hr with
  |cons h3 h4=>exact .cons (bHw hle h1 h3) (bHv hle h2 h4)
theorem bHu{C C':Ctx}(hle:C.cold.Le C'){v v':PV}{x:Value}(h:ES v=some v')(hr:RV C v x):RV C' v' x:=by
 unfold ES at h
 split at h
 ·rename_i c
  cases h1:Fh c<;>simp only[h1] at h<;>try (cases h;done)
  cases h;exact .w (.one (bHw hle h1 hr.inv))
 ·rename_i l
  cases h1:ET l<;>simp only[h1] at h<;>try (cases h;done)
  cases h
  cases hr with
  |w hr=>cases hr with
   |agg hr=>exact .w (.agg (bHv hle h1 hr))
 ·cases h
theorem aAd{C C':Ctx}(hle:C.cold.Le C'):∀ {vs vs':List PV} {l:List Value},Fp vs=some vs'->mg C vs l->mg C' vs' l
 |[],_,[],h,_=>by simp only[Fp,Option.some.injEq] at h;subst h;exact trivial
 |[],_,_::_,_,h=>h.elim
 |_::_,_,[],_,h=>h.elim
 |v::vs,_,x::l,h,⟨h1,h2⟩=>by
  unfold Fp at h
  cases h3:ES v<;>cases h4:Fp vs<;>simp only[h3,h4] at h<;>try (cases h;done)
  cases h
  exact⟨bHu hle h3 h1,aAd hle h4 h2⟩
section
variable {P:Program} {I:World->Prop} {A:kz} {s:St} {a:Act} {w:World} {env:Env} {F:Option Bool->PV->Wr->Prop}
theorem aGc{e:Env}:(aU A w env).cold.Le { w,ok:=(aU A w env).ok,env:=e }:=⟨Nat.le_refl _,fun b _ hb=>⟨hb,rfl⟩,fun _ _ _ h=>by cases h⟩
theorem xK(h:gm A s a w env){w':World}(_:w.heap.size<=w'.heap.size){new:Bool}:({ w:=w',ok:=pK w (aU A w env).ok new,env:=fun _=>none }:Ctx).Le (aU A w' env):=
 ⟨
  Nat.le_refl _,fun b _ hb=>⟨(by
  rcases hb with⟨_,hb⟩|hb
  ·exact hb
  ·exact⟨.inr (Nat.le_trans h.gu.size hb),fun x ai hd he hbl=>by have:=(h.live x ai hd b he hbl).1;omega⟩),rfl⟩,fun _ _ _ h=>by cases h⟩
def wW (t:TypeId) (g:List PC->List PV->Option (Prop×List PC×PV)):Spec:=fun _ xs=>match xs with
 | .w (.one (.pt x ai off))::rest=>(match Nat.beq off 0,Fp rest with
  | true,some ys=>.obj x fun gd vr ob=>jE gd (match Nat.beq ai vr,ob with
   |true,.box t' l=>(match Nat.beq t t',l.all (dG false),g l ys with
    |true,true,some (p,l',r)=>.need p (.upd x vr (.box t l') (.ret r))
    |_,_,_=>.fail)
   |_,_=>.fail)
  |_,_=>.fail)
 |_=>.fail
theorem zJ{f:Nat}{t:TypeId}{g:List PC->List PV->Option (Prop×List PC×PV)}(hent:∀ args w,(callFunc f args).run P w=.ok (.enter f args) w)
  (hg:∀ l ys p l' r,g l ys=some (p,l',r)->p->ve P I f false [⟨px,t,l,l'⟩] (fun _=>none) none (fun _=>False) (.w (.one (.pt px 0 0))::ys) r):aj P I f (wW t g):=by
 refine⟨hent,fun A s a w env nm uq vs F h hI hv hk=>?_⟩
 unfold wW at hk
 split at hk
 ·rename_i x ai off rest
  cases hb:Nat.beq off 0<;>cases hr:Fp rest<;>simp only[hb,hr] at hk<;>try exact hk.elim
  rename_i ys
  obtain rfl:=gy hb
  obtain⟨gd,vr,ob,hfo,hk⟩:=hk;have hk2:=dU hk;clear hk;obtain⟨hgt,hk⟩:=hk2;obtain⟨hd,he,hob⟩:=jQ h hfo hgt
  cases hb2:Nat.beq ai vr<;>cases ob<;>simp only[hb2] at hk<;>try exact hk.elim
  rename_i t' l
  obtain rfl:=gy hb2
  cases hb3:Nat.beq t t'<;>cases hc:l.all (dG false)<;>cases hq:g l ys<;>simp only[hb3,hc,hq] at hk<;>try exact hk.elim
  rename_i q;obtain⟨p,l',r⟩:=q
  obtain rfl:=gy hb3
  obtain⟨hp,_,hF⟩:=hk
  match vs,hv with
  | v :: vs,⟨hv1,hv2⟩=>
   obtain⟨g0,rfl,rfl⟩:=hv1.AQ he;obtain⟨g1,cs,e1,hB,hR⟩:=hob;cases e1;have hlt:g0<w.heap.size:=hB.lt
   have Ah:∀ b,SX [⟨px,t,l,l'⟩] (fun _=>g0) Dv.non b->b=g0:=by
    rintro b (h|⟨o,ho,rfl⟩)
    ·exact h.elim
    ·rfl
   have hSA:∀ b,SX [⟨px,t,l,l'⟩] (fun _=>g0) Dv.non b->b<A.w0.heap.size->A.S b:=fun b hb hlt0=>by
    rw[Ah b hb] at hlt0 ⊢;rcases (h.live x ai _ g0 he rfl).2 with h1|h1
    ·omega
    ·exact h1.1
   have hSg:SX [⟨px,t,l,l'⟩] (fun _=>g0) Dv.non g0:=.inr ⟨_,List.mem_cons_self,rfl⟩;have WJ:¬(aU A w env).ok g0:=fun hok=>hok.2 x ai _ he rfl
   refine (hg l ys p l' r hq hp w (aU A w env).ok (iK g0::vs) (fun _=>g0) Dv.non (fun b=>b=g0)
    (fun w' hw=>hI.mem w' (h.gu.trans' hw (fun _ _ h=>h) (fun b hlt0 hb=>hSA b hb hlt0)))
    (fun b hb=>by rw[Ah b hb];exact⟨hlt,WJ⟩) (ng.non P) (fun _ _ _ _ _ _ h=>h.elim) rfl (fun p hp=>by cases hp) (fun _=>⟨fun _ h=>h,fun _ _ _ h=>h⟩)
    (
     fun o ho=>by
     obtain rfl:o=⟨px,t,l,l'⟩:=by simpa using ho
     exact⟨rfl,cs,hB,jF hR hc⟩)
    (
     fun o ho o' ho' _=>by
     obtain rfl:o=⟨px,t,l,l'⟩:=by simpa using ho
     obtain rfl:o'=⟨px,t,l,l'⟩:=by simpa using ho'
     rfl)
    ⟨.w (.one (.pt ⟨g0,0,rfl⟩ ⟨0,iK g0,rfl,Nat.le_refl _,fun _=>⟨g0,rfl,rfl⟩⟩)),aAd aGc hr hv2⟩).mono ?_
   rintro e w' ⟨hw,⟨val,rfl,hres,hbx,_⟩|⟨chain,l2,rfl,h1,_⟩⟩
   ·obtain⟨cs',hB',hR'⟩:=hbx _ List.mem_cons_self
    obtain⟨h1,h2⟩:=h.upd (w':=w') x none ai (iK g0) (.box t l') (hw.mono fun b _ hb=>⟨ai,_,he,by rw[Ah b hb];rfl⟩) (fun v hd e=>by rw[he] at e;cases e;exact .inr ⟨rfl,rfl⟩)
     (fun b hb=>by cases hb;exact⟨Nat.lt_of_lt_of_le hlt hw.size,.inr ⟨ai,_,he,rfl⟩⟩)
     (
      fun hle _=>⟨g0,cs',rfl,hB',(hR'.le (xK h hw.size)).le ⟨Nat.le_refl _,fun b _ hb=>⟨⟨hb.1,fun y v2 hd2 hy=>by
      by_cases hyx:y=x
      ·subst hyx;have hy':vz env y ai (iK g0) y=some (v2,hd2):=hy;rw[iE] at hy'
       cases hy'
       exact hb.2 y ai _ he
      ·have hy':vz env x ai (iK g0) y=some (v2,hd2):=hy;rw[jU hyx] at hy'
       exact hb.2 y v2 hd2 hy'⟩,rfl⟩,fun y v2 hd2 hy=>by
      by_cases hyx:y=x
      ·subst hyx;have hy':env y=some (v2,hd2):=hy;rw[he] at hy'
       cases hy'
       exact⟨ai,_,iE _ _ _ _,Nat.le_refl _,fun _=>rfl⟩
      ·exact⟨v2,hd2,(jU hyx).trans hy,Nat.le_refl _,fun _=>rfl⟩⟩⟩)
    exact .inl ⟨r,_,val,_,rfl,hF,h1,(hres.le (xK h hw.size)).le ⟨Nat.le_refl _,fun b _ hb=>⟨⟨hb.1,fun y v2 hd2 hy=>by
      by_cases hyx:y=x
      ·subst hyx;have hy':vz env y ai (iK g0) y=some (v2,hd2):=hy;rw[iE] at hy'
       cases hy'
       exact hb.2 y ai _ he
      ·have hy':vz env x ai (iK g0) y=some (v2,hd2):=hy;rw[jU hyx] at hy'
       exact hb.2 y v2 hd2 hy'⟩,rfl⟩,fun y v2 hd2 hy=>by
      by_cases hyx:y=x
      ·subst hyx;have hy':env y=some (v2,hd2):=hy;rw[he] at hy'
       cases hy'
       exact⟨ai,_,iE _ _ _ _,Nat.le_refl _,fun _=>rfl⟩
      ·exact⟨v2,hd2,(jU hyx).trans hy,Nat.le_refl _,fun _=>rfl⟩⟩⟩
   ·exact h1.elim
 ·exact hk.elim
def aMd (hist:(List Acc->Option je)->List Acc->List PV->List Acc) (res:(List Acc->Option je)->List Acc->List PV->Option (Prop×PV)):Spec:=fun _ xs=>match xs with
 | .w (.one .dv)::rest=>(match Fp rest with
  | some ys=>.obj dx fun g vr ob=>jE g (match Nat.beq vr 0,ob with
   |true,.dev O di l=>(match res O l ys with
    |some (p,r)=>.need p (.need (∀ h,l <+: h->h <+: hist O l ys->O h=none->di h) (.upd dx 0 (.dev O di (hist O l ys)) (.ret r)))
    |none=>.fail)
   |_,_=>.fail)
  |none=>.fail)
 |_=>.fail
theorem aJg{f:Nat}{hist:(List Acc->Option je)->List Acc->List PV->List Acc}{res:(List Acc->Option je)->List Acc->List PV->Option (Prop×PV)}(hent:∀ args w,(callFunc f args).run P w=.ok (.enter f args) w)
  (hg:∀ O l ys p r,res O l ys=some (p,r)->p->ve P I f false [] O (some (l,hist O l ys)) (fun h=>l <+: h/\h <+: hist O l ys) (.w (.one .dv)::ys) r):aj P I f (aMd hist res):=by
 refine⟨hent,fun A s a w env nm uq vs F h hI hv hk=>?_⟩
 unfold aMd at hk
 split at hk
 ·rename_i rest
  cases hr:Fp rest with
  |none=>rw[hr] at hk;exact hk.elim
  | some ys=>
   rw[hr] at hk;obtain⟨gd,vr,ob,hfo,hk⟩:=hk;have hk2:=dU hk;clear hk;obtain⟨hgt,hk⟩:=hk2
   cases hb2:Nat.beq vr 0<;>cases ob<;>simp only[hb2] at hk<;>try exact hk.elim
   rename_i O di l
   obtain rfl:=gy hb2
   cases hq:res O l ys with
   |none=>rw[hq] at hk;exact hk.elim
   | some q=>
    obtain⟨p,r⟩:=q;rw[hq] at hk;obtain⟨hp,hst,_,hF⟩:=hk;obtain⟨hO,hstp,hinv⟩:=h.dev gd 0 O di l hfo hgt;subst hO hstp;have hext:=hI.dvh _ _ _ hinv;obtain⟨hd,he,_⟩:=h.ji dx gd 0 _ hfo
    obtain rfl:=(h.l_ dx _ hext).2.now he
    match vs,hv with
    | v::vs,⟨hv1,hv2⟩=>
     have hva:v=A.dv.hd:=hv1.N7.now he
     have Ah:∀ b,SX [] (fun _=>0) A.dv b->A.dv.S b:=by
      rintro b (h|⟨o,ho,rfl⟩)
      ·exact h
      ·cases ho
     refine (hg A.dv.O l ys p r hq hp w (aU A w env).ok (v::vs) (fun _=>0) A.dv (ownB A env)
      (fun w' hw=>hI.mem w' (h.gu.trans' hw (fun _ _ h=>h) (fun b _ hb=>hI.sub b (Ah b hb))))
      (
       fun b hb=>by
       have h1:=hI.old b (hI.sub b (Ah b hb))
       refine⟨Nat.lt_of_lt_of_le h1.1 h.gu.size,fun hok=>?_⟩
       rcases hok.1 with h2|h2
       ·exact h1.2 h2
       ·omega)
      (hI.step.mono fun l2 h1 h2=>hst l2 h1.1 h1.2 h2) hI.Bg rfl (fun p hp=>by cases hp;exact hinv) (fun h=>by cases h) (fun o ho=>by cases ho) (fun o ho=>by cases ho)
      ⟨.w (.one (.dv (by rw[hva];exact A.dv.one) ⟨0,A.dv.hd,rfl,Nat.le_refl _,fun _=>hva⟩)),aAd aGc hr hv2⟩).mono ?_
     rintro e w' ⟨hw,⟨val,rfl,hres,_,hdv⟩|⟨chain,l2,rfl,h1,h2,h3⟩⟩
     ·obtain⟨h4,h5⟩:=h.asked (w':=w') hfo hgt hI.sub (fun b hb=>hI.old b (hI.sub b hb)) (hw.mono fun b _ hb=>Ah b hb) (hdv _ rfl);exact .inl ⟨r,_,val,env,rfl,hF,h4,hres.le (xK h hw.size)⟩
     ·exact .inr ⟨chain,rfl,l2,hst l2 h1.1 h1.2 h2,h2,hI.Bg _ _ _ _ _ _ h3 (dm.refl _ _) (fun b hb=>.inl hb),h.gu.trans (hw.mono fun b _ hb=>hI.sub b (Ah b hb))⟩
 ·exact hk.elim
end
def EO(g:Nat)(hd:Value):Nat->Option Value:=fun x=>match Nat.beq x px,Nat.beq x dx with
 |true,_=>some (iK g)
 |false,true=>some hd
 |false,false=>none
def BR(g:Nat)(hd:Value):Env:=fun x=>(EO g hd x).map fun h=>(0,h)
def Dt(hd:Value):Env:=fun x=>match Nat.beq x dx with
 |true=>some (0,hd)
 |false=>none
theorem aIz{g:Nat}{hd:Value}{x:Nat}{h:Value}(e:EO g hd x=some h):(x=px/\h=iK g)\/(x=dx/\h=hd):=by
 unfold EO at e
 split at e
 ·rename_i h1;cases e;exact .inl ⟨gy h1,rfl⟩
 ·rename_i h1 h2;cases e;exact .inr ⟨gy h2,rfl⟩
 ·cases e
theorem rH{g:Nat}{hd:Value}{x ai:Nat}{h:Value}(e:BR g hd x=some (ai,h)):ai=0/\((x=px/\h=iK g)\/(x=dx/\h=hd)):=by
 unfold BR at e
 cases hx:EO g hd x with
 |none=>rw[hx] at e;cases e
 |some h2=>rw[hx] at e;cases e;exact⟨rfl,aIz hx⟩
theorem aJc{hd:Value}{x ai:Nat}{h:Value}(e:Dt hd x=some (ai,h)):x=dx/\ai=0/\h=hd:=by
 unfold Dt at e
 split at e
 ·rename_i h1;cases e;exact⟨gy h1,rfl,rfl⟩
 ·cases e
def SD(g:Nat)(D:Dv):Nat->Prop:=fun b=>D.S b\/b=g
def Xw(P:Program)(I:World->Prop)(f:Nat)(t:TypeId)(l l':List PC)(O:List Acc->Option je)(h0 h1:List Acc)(di:List Acc->Prop)(args:List PV)(res:PV):Prop:=
 ∀ (w:World) (ok0:Nat->Prop) (vs:List Value) (g:Nat) (D:Dv) (X0:Nat->Prop),
  (∀ w',dm (SD g D) w w'->I w')->(∀ b,SD g D b->b<w.heap.size/\¬ok0 b)->ng P D di->(∀ l X Y w w' chain,D.pan l X w chain->dm X w w'->(∀ b,Y b->X b)->D.pan l Y w' chain)->D.O=O ->
  D.inv h0 X0 w->X0 g->(∃ cs,au w g t cs/\RL { w,ok:=ok0,env:=Dt D.hd } (.dv::l) cs.toList) ->
  mg { w,ok:=ok0,env:=BR g D.hd } args vs ->
  Calls P f vs.toArray w fun e w'=>dm (SD g D) w w' /\
   ((∃ val,e=.returned val/\RV { w:=w',ok:=pK w ok0 false,env:=fun _=>none } res val/\(∃ cs,au w' g t cs/\RL { w:=w',ok:=pK w ok0 false,env:=Dt D.hd } (.dv::l') cs.toList)/\D.inv h1 X0 w')
   \/ (∃ chain k,e=.panicked chain/\di k/\O k=none/\D.pan k X0 w' chain))
def aVZ(t:TypeId)(l':List PC)(O:List Acc->Option je)(h1:List Acc)(di:List Acc->Prop)(s:St):Prop:=
 (∃ l2,find s.o px=some (none,0,.box t (.dv::l2))/\TQ s false l2 l')/\find s.o dx=some (none,0,.dev O di h1)
def RQD(P:Program)(A:kz)(fn:Func)(t:TypeId)(l':List PC)(O:List Acc->Option je)(h1:List Acc)(di:List Acc->Prop)(res:PV):Exit->Act->World->Prop
 |.panic chain,a,w=>a.defers=[]/\DF A chain w
 |e,a,w=>(e=.normal\/e=.ret)/\∃ s,(TF P fn false res s/\aVZ t l' O h1 di s)/\o7 A s a w
theorem lC{P:Program}{I:World->Prop}{f:Nat}{fn:Func}{c:Code}{t:TypeId}{l l':List PC}{O:List Acc->Option je}{h0 h1:List Acc}{di:List Acc->Prop}{args:List PV}{res:PV}(hf:P.funcs[f]?=some fn)(hb:fn.body=some c)(hnb:Nat.ble args.length fn.ntmps=true)
  (hT:∀ A:kz,A.nt=fn.ntmps->mi P I A->ja P A ⟨slots 0 args,[(dx,none,0,.dev O di h0),(px,none,0,.box t (.dv::l))]⟩ c (RQD P A fn t l' O h1 di res)):Xw P I f t l l' O h0 h1 di args res:=by
 intro w ok0 vs g D X0 hM hold hst Ac hO hdv hXg hob hv;have hlen:=hv.length;have hn:=Nat.le_of_ble_eq_true hnb;subst hO
 let A:kz:=⟨w,SD g D,ok0,fn.ntmps,EO g D.hd,D,di,X0,[]⟩
 have hA:mi P I A:=⟨hM,fun b h=>.inl h,hold,hst,fun l X w' hi=>rfl,Ac⟩;have hgo:g<w.heap.size/\¬ok0 g:=hold g (.inr rfl)
 have hown:∀ b,ownB A (BR g D.hd) b->X0 b:=by
  rintro b (h|⟨x,ai,hd,h1,h2⟩)
  ·exact h
  ·rcases (rH h1).2 with⟨_,rfl⟩|⟨_,rfl⟩
   ·rw[gJ h2];exact hXg
   ·rw[D.oz] at h2;cases h2
 have aDN:∀ {b x ai hd},BR g D.hd x=some (ai,hd)->hblk hd=some b->b=g:=by
  intro b x ai hd h1 h2;rcases (rH h1).2 with⟨_,rfl⟩|⟨_,rfl⟩
  ·exact gJ h2
  ·rw[D.oz] at h2;cases h2
 have hle0:∀ {E:Env},(∀ x ai hd,E x=some (ai,hd)->∃ uh,BR g D.hd x=some (uh,hd)/\ai<=uh/\(ai=uh->hd=hd))->({ w,ok:=ok0,env:=E }:Ctx).Le (aU A w (BR g D.hd)):=fun hE=>
  ⟨
   Nat.le_refl _,fun b hlt ho=>⟨⟨.inl ho,fun x ai hd hx hb=>hgo.2 (aDN hx hb ▸ ho)⟩,rfl⟩,fun x ai hd h=>by
   obtain⟨uh,h1,h2,_⟩:=hE x ai hd h
   exact⟨uh,hd,h1,h2,fun _=>rfl⟩⟩
 have aNS:({ w,ok:=ok0,env:=Dt D.hd }:Ctx).Le (aU A w (BR g D.hd)):=hle0 fun x ai hd h=>by
  obtain⟨rfl,rfl,rfl⟩:=aJc h
  exact⟨0,rfl,Nat.le_refl _,fun _=>rfl⟩
 have hg:o7 A ⟨slots 0 args,[(dx,none,0,.dev D.O di h0),(px,none,0,.box t (.dv::l))]⟩ { tmps:=vs.toArray++Array.replicate (fn.ntmps-vs.toArray.size) undef,defers:=[] } w:=by
  refine⟨BR g D.hd,{ gu:=dm.refl _ _,size:=?_,dom:=fun x hx=>?_,ji:=fun x g' ai o h=>?_,live:=fun x ai hd b h hb=>?_,inj:=fun x y v1 h1 v2 h2 b hx hy hb1 hb2=>?_,tmps:=fun t g pv h hgt=>?_,defers:=rfl,und:=fun t pv h=>(by obtain⟨k,_,h2⟩:=lG h;cases h2),l_:=fun x hd hx=>?_,dev:=fun g' ai O Cf l h _=>?_ }⟩
  ·simp[A];omega
  ·by_cases h1:dx=x
   ·subst h1;rw[aJ] at hx;cases hx
   ·rw[aN _ _ h1] at hx
    by_cases h2:px=x
    ·subst h2;rw[aJ] at hx;cases hx
    ·unfold BR EO
     have b1:Nat.beq x px=false:=by
      cases hb:Nat.beq x px with
      |false=>rfl
      |true=>exact absurd (gy hb).symm h2
     have b2:Nat.beq x dx=false:=by
      cases hb:Nat.beq x dx with
      |false=>rfl
      |true=>exact absurd (gy hb).symm h1
     rw[b1,b2];rfl
  ·by_cases h1:dx=x
   ·subst h1;rw[aJ] at h;cases h
    exact⟨D.hd,rfl,fun _=>trivial⟩
   ·rw[aN _ _ h1] at h
    by_cases h2:px=x
    ·subst h2;rw[aJ] at h;cases h;obtain⟨cs,h3,h4⟩:=hob
     exact⟨iK g,rfl,fun _=>⟨g,cs,rfl,h3,h4.le aNS⟩⟩
    ·rw[aN _ _ h2] at h;cases h
  ·have:=aDN h hb;subst this
   refine⟨hgo.1,.inr ⟨.inr rfl,?_⟩⟩
   rcases (rH h).2 with⟨rfl,_⟩|⟨rfl,rfl⟩
   ·rfl
   ·rw[D.oz] at hb;cases hb
  ·rcases (rH hx).2 with⟨rfl,_⟩|⟨_,rfl⟩
   ·rcases (rH hy).2 with⟨rfl,_⟩|⟨_,rfl⟩
    ·rfl
    ·rw[D.oz] at hb2;cases hb2
   ·rw[D.oz] at hb1;cases hb1
  ·obtain⟨k,h1,h2⟩:=mY h;obtain⟨v,h3,h4⟩:=hv.at h2;rw[Nat.zero_add] at h1;subst h1;have hk:t<vs.length:=(List.getElem?_eq_some_iff.1 h3).1
   refine⟨v,?_,h4.le (hle0 fun x ai hd h=>⟨ai,h,Nat.le_refl _,fun _=>rfl⟩)⟩
   rw[Array.getElem?_append_left (by simpa using hk)]
   simpa using h3
  ·refine⟨?_,0,hd,?_,Nat.le_refl _,fun _=>rfl⟩
   ·rcases aIz hx with⟨rfl,_⟩|⟨rfl,_⟩<;>rfl
   ·show BR g D.hd x=some (0,hd);unfold BR;have:EO g D.hd x=some hd:=hx;rw[this];rfl
  ·rw[aJ] at h;cases h
   exact⟨rfl,rfl,D.grow _ _ _ _ _ hdv (dm.refl _ _) (fun b hb=>.inl (hown b hb))⟩
 refine calls_of_wp hf hb (wp_mono (hT A rfl hA _ w hg (fun _ _ _ hd h=>⟨hd,h⟩)) (fun e a' w' he=>?_))
 cases e with
 |panic chain=>
  obtain⟨hd,l,h1,h2,h3,h4⟩:=he
  exact⟨hd,h4,.inr ⟨chain,l,rfl,h1,h2,h3⟩⟩
 |exit id=>obtain⟨h1|h1,_⟩:=he<;>cases h1
 |goto _=>obtain⟨h1|h1,_⟩:=he<;>cases h1
 |outgrown=>obtain⟨h1|h1,_⟩:=he<;>cases h1
 | normal|ret=>
  obtain⟨_,s,⟨⟨v,h2,h3⟩,⟨l2,hE1,hx⟩,hE2⟩,env,hE⟩:=he;obtain⟨v',val,h5,h6,h7,_⟩:=uP hE h2;subst h7
  have hbox:env px=some (0,iK g):=by
   obtain⟨hd,h8,_⟩:=hE.ji px none 0 _ hE1;have:=(hE.l_ px (iK g) rfl).2.now h8;rw[h8,this]
  have aNX:env dx=some (0,D.hd):=by
   obtain⟨hd,h8,_⟩:=hE.ji dx none 0 _ hE2;have:=(hE.l_ dx D.hd rfl).2.now h8;rw[h8,this]
  obtain⟨_,_,hi⟩:=hE.dev none 0 _ _ _ hE2 trivial
  have hS:Bz A s env:=by
   intro x g' ai e n len f0 hd b hfx hex hbx hs;rcases hs with hs|hs
   ·exact D.notS _ _ _ _ hi (.inr ⟨x,ai,hd,hex,hbx⟩) hs
   ·have hs':b=g:=hs;subst hs';have:=hE.inj x px ai hd 0 _ b hex hbox hbx rfl;subst this;rw[hE1] at hfx;cases hfx
  have hres:=aPx hE hS h3 h6
  have this:a'.defers=[]/\∃ v,(results fn a'.tmps).run P w'=.ok v w'/\(dm (SD g D) w w' /\
   ((∃ val,Ending.returned v=.returned val/\RV { w:=w',ok:=pK w ok0 false,env:=fun _=>none } res val/\(∃ cs,au w' g t cs/\RL { w:=w',ok:=pK w ok0 false,env:=Dt D.hd } (.dv::l') cs.toList)/\D.inv h1 X0 w')
   \/ (∃ chain l,Ending.returned v=.panicked chain/\di l/\D.O l=none/\D.pan l X0 w' chain))):=by
   refine⟨hE.defers,val,h5,hE.gu,.inl ⟨val,rfl,hres,?_,D.grow _ _ _ _ _ hi (dm.refl _ _) (fun b hb=>.inl (.inl hb))⟩⟩
   obtain⟨hd,h8,h9⟩:=hE.ji px none 0 _ hE1;obtain⟨g1,cs,e1,h10,h11⟩:=h9 trivial;rw[hbox] at h8;cases h8;cases e1
   refine⟨cs,h10,?_⟩
   generalize cs.toList=zs at h11 ⊢
   cases h11 with
   | cons k1 k2=>
    refine .cons ?_ ((aPy hE hS hx k2).le ⟨Nat.le_refl _,fun b _ hb=>⟨hb,rfl⟩,fun _ _ _ h=>by cases h⟩)
    cases k1 with
    |dv j1 j2=>
     have e3:=j2.now aNX;subst e3;exact .dv j1 ⟨0,D.hd,rfl,Nat.le_refl _,fun _=>rfl⟩
  exact this
section
variable {P:Program} {I:World->Prop} {A:kz} {s:St} {a:Act} {w:World} {env:Env} {F:Option Bool->PV->Wr->Prop}
theorem gm.O6(h:gm A s a w env){w':World}{O:List Acc->Option je}{di:List Acc->Prop}{l l':List Acc}{gd g':Option Bool}{x ai g0 t:Nat}{p p':List PC}(hf:find s.o dx=some (gd,0,.dev O di l))(hgd:gT gd)(sub:∀ b,A.dv.S b->A.S b)(old:∀ b,A.dv.S b->b<A.w0.heap.size/\¬A.ok0 b)
  (hfx:find s.o x=some (g',ai,.box t p)) (he:env x=some (ai,iK g0)) (hw:dm (fun b=>A.dv.S b\/b=g0) w w') (hi:A.dv.inv l' (ownB A env) w') (hob:(aU A w env).Le (aU A w' env)->∃ cs,au w' g0 t cs/\RL (aU A w' env) p' cs.toList) :
  gm A { s with o:=(dx,none,0,.dev O di l')::(x,none,ai,.box t p')::s.o } a w' env/\(aU A w env).Le (aU A w' env):=by
 obtain⟨hO,hstp,hinv⟩:=h.dev gd 0 O di l hf hgd
 have hxd:x≠dx:=fun e=>by subst e;rw[hf] at hfx;cases hfx
 have hle:(aU A w env).Le (aU A w' env):=⟨hw.size,fun b hlt hok=>⟨hok,hw.block b hlt (fun hs=>by
  rcases hs with hs|rfl
  ·rcases hok.1 with h1|h1
   ·exact (old b hs).2 h1
   ·have:=(old b hs).1;omega
  ·exact hok.2 x ai _ he rfl)⟩,fun x ai hd hx=>⟨ai,hd,hx,Nat.le_refl _,fun _=>rfl⟩⟩
 have hg0:=h.live x ai _ g0 he rfl
 refine⟨{ gu:=h.gu.trans' hw (fun _ _ h=>h) (fun b hlt hs=>?_),size:=h.size,dom:=fun y hy=>?_,ji:=fun y g2 CJ o hf'=>?_,live:=fun y ai hd b h1 h2=>⟨Nat.lt_of_lt_of_le (h.live y ai hd b h1 h2).1 hw.size,(h.live y ai hd b h1 h2).2⟩,inj:=h.inj,tmps:=fun t g pv hf hg=>let ⟨v,h1,h2⟩:=h.tmps t g pv hf hg;⟨v,h1,h2.le hle⟩,defers:=h.defers,und:=h.und,l_:=fun y hd hy=>⟨(h.l_ y hd hy).1,(h.l_ y hd hy).2.le hle⟩,dev:=fun g2 CJ O2 aBD l2 hf' hg2=>?_ },hle⟩
 ·rcases hs with hs|rfl
  ·exact sub b hs
  ·rcases hg0.2 with h1|h1
   ·omega
   ·exact h1.1
 ·by_cases h1:dx=y
  ·subst h1;rw[aJ] at hy;cases hy
  ·rw[aN _ _ h1] at hy
   by_cases h2:x=y
   ·subst h2;rw[aJ] at hy;cases hy
   ·rw[aN _ _ h2] at hy;exact h.dom y hy
 ·by_cases h1:dx=y
  ·subst h1;rw[aJ] at hf'
   cases hf'
   obtain⟨hd,h1,_⟩:=h.ji dx gd 0 _ hf
   exact⟨hd,h1,fun _=>trivial⟩
  ·rw[aN _ _ h1] at hf'
   by_cases h2:x=y
   ·subst h2;rw[aJ] at hf'
    cases hf'
    obtain⟨cs,h3,h4⟩:=hob hle
    exact⟨iK g0,he,fun _=>⟨g0,cs,rfl,h3,h4⟩⟩
   ·rw[aN _ _ h2] at hf';obtain⟨hd,h3,h4⟩:=h.ji y g2 CJ o hf'
    exact⟨hd,h3,fun hg=>(h4 hg).Af hle (fun b hbl hlt=>hw.block b hlt (fun hs=>by
     rcases hs with hs|rfl
     ·exact A.dv.notS _ _ _ _ hinv (.inr ⟨y,CJ,hd,h3,hbl⟩) hs
     ·exact h2 (h.inj x y ai _ CJ hd b he h3 rfl hbl)))⟩
 ·rw[aJ] at hf'
  cases hf'
  exact⟨hO,hstp,hi⟩
theorem gm.FY{l:List Acc}{O:List Acc->Option je}{di:List Acc->Prop}{x ai:Nat}{gd ZY:Option Bool}{o:og}{od:og}(h:gm A { s with o:=(dx,none,0,.dev O di l)::(x,none,ai,o)::s.o } a w env)(hf:find s.o x=some (gd,ai,o))(_:find s.o dx=some (ZY,0,od))(_:gT gd):gm A { s with o:=(dx,none,0,.dev O di l)::s.o } a w env:=by
 have key:∀ y g v ob,find ((dx,none,0,og.dev O di l)::s.o) y=some (g,v,ob)->∃ g2,find ((dx,none,0,og.dev O di l)::(x,none,ai,o)::s.o) y=some (g2,v,ob)/\(gT g->gT g2):=by
  intro y g v ob hy
  by_cases h1:dx=y
  ·subst h1;rw[aJ] at hy ⊢
   exact⟨g,hy,id⟩
  ·rw[aN _ _ h1] at hy ⊢
   by_cases h2:x=y
   ·subst h2;rw[hf] at hy;cases hy;rw[aJ]
    exact⟨none,rfl,fun _=>trivial⟩
   ·rw[aN _ _ h2]
    exact⟨g,hy,id⟩
 refine { gu:=h.gu,size:=h.size,dom:=fun y hy=>h.dom y ?_,ji:=fun y g v ob hy=>?_,live:=h.live,inj:=h.inj,tmps:=h.tmps,defers:=h.defers,und:=h.und,l_:=h.l_,dev:=fun g v O2 aBD l2 hy hg2=>?_ }
 ·by_cases h1:dx=y
  ·subst h1;rw[aJ] at hy;cases hy
  ·rw[aN _ _ h1] at hy ⊢
   by_cases h2:x=y
   ·subst h2;rw[hf] at hy;cases hy
   ·rw[aN _ _ h2];exact hy
 ·obtain⟨g2,h1,h2⟩:=key y g v ob hy;obtain⟨hd,h3,h4⟩:=h.ji y g2 v ob h1
  exact⟨hd,h3,fun hg=>h4 (h2 hg)⟩
 ·obtain⟨g2,h1,h2⟩:=key dx g v _ hy;exact h.dev g2 v O2 aBD l2 h1 (h2 hg2)
def aSl (t:TypeId) (hist:(List Acc->Option je)->List Acc->List PC->List PV->List Acc) (g:(List Acc->Option je)->List Acc->List PC->List PV->Option (Prop×PV)):Spec:=fun _ xs=>match xs with
 | .w (.one (.pt x ai off))::rest=>(match Nat.beq off 0,Fp rest with
  | true,some ys=>.obj x fun gd vr ob=>jE gd (match Nat.beq ai vr,ob with
   | true,.box t' (.dv::l)=>(match Nat.beq t t',l.all (dG false) with
    | true,true=>.obj dx fun ZY Ue ob2=>jE ZY (match Nat.beq Ue 0,ob2 with
     |true,.dev O di k=>(match g O k l ys with
      |some (p,r)=>.need p (.need (∀ h,k <+: h->h <+: hist O k l ys->O h=none->di h) (.upd dx 0 (.dev O di (hist O k l ys)) (.ret r)))
      |none=>.fail)
     |_,_=>.fail)
    |_,_=>.fail)
   |_,_=>.fail)
  |_,_=>.fail)
 |_=>.fail
theorem aYj {f:Nat} {t:TypeId} {hist:(List Acc->Option je)->List Acc->List PC->List PV->List Acc} {g:(List Acc->Option je)->List Acc->List PC->List PV->Option (Prop×PV)} (hent:∀ args w,(callFunc f args).run P w=.ok (.enter f args) w)
  (hg:∀ O k l ys p r,g O k l ys=some (p,r)->p->Xw P I f t l l O k (hist O k l ys) (fun h=>k <+: h/\h <+: hist O k l ys) (.w (.one (.pt px 0 0))::ys) r):aj P I f (aSl t hist g):=by
 refine⟨hent,fun A s a w env nm uq vs F h hI hv hk=>?_⟩
 unfold aSl at hk
 split at hk
 ·rename_i x ai off rest
  cases hb:Nat.beq off 0<;>cases hr:Fp rest<;>simp only[hb,hr] at hk<;>try exact hk.elim
  rename_i ys
  obtain rfl:=gy hb
  obtain⟨gd,vr,ob,hfo,hk⟩:=hk;have hk2:=dU hk;clear hk;obtain⟨hgt,hk⟩:=hk2;obtain⟨hd,he,hob⟩:=jQ h hfo hgt
  cases hb2:Nat.beq ai vr<;>simp only[hb2] at hk<;>try exact hk.elim
  obtain rfl:=gy hb2
  split at hk
  ·rename_i t' l _
   cases hb3:Nat.beq t t'<;>cases hc:l.all (dG false)<;>simp only[hb3,hc] at hk<;>try exact hk.elim
   obtain rfl:=gy hb3
   obtain⟨ZY,Ue,ob2,RD,hk⟩:=hk;have hk2:=dU hk;clear hk;obtain⟨hgt2,hk⟩:=hk2
   cases hb4:Nat.beq Ue 0<;>cases ob2<;>simp only[hb4] at hk<;>try exact hk.elim
   rename_i O di k
   obtain rfl:=gy hb4
   cases hq:g O k l ys with
   |none=>rw[hq] at hk;exact hk.elim
   | some q=>
    obtain⟨p,r⟩:=q;rw[hq] at hk;obtain⟨hp,hst,_,hF⟩:=hk;obtain⟨hO,hstp,hinv⟩:=h.dev ZY 0 O di k RD hgt2;subst hO hstp;have hext:=hI.dvh _ _ _ hinv;obtain⟨hdd,hed,_⟩:=h.ji dx ZY 0 _ RD
    obtain rfl:=(h.l_ dx _ hext).2.now hed
    match vs,hv with
    | v :: vs,⟨hv1,hv2⟩=>
     obtain⟨g0,rfl,rfl⟩:=hv1.AQ he;obtain⟨g1,cs,e1,hB,hR⟩:=hob;cases e1;have hlt:g0<w.heap.size:=hB.lt;have hg0:=h.live x ai _ g0 he rfl;have WJ:¬(aU A w env).ok g0:=fun hok=>hok.2 x ai _ he rfl
     have vk:RL { w:=w,ok:=(aU A w env).ok,env:=Dt A.dv.hd } (.dv::l) cs.toList:=by
      generalize cs.toList=zs at hR ⊢
      cases hR with
      | cons k1 k2=>
       refine .cons ?_ ((jF k2 hc).le ⟨Nat.le_refl _,fun b _ hb=>⟨hb,rfl⟩,fun _ _ _ h=>by cases h⟩)
       cases k1 with
       |dv j1 j2=>
        have e3:=j2.now hed;subst e3;exact .dv j1 ⟨0,A.dv.hd,rfl,Nat.le_refl _,fun _=>rfl⟩
     refine (hg A.dv.O k l ys p r hq hp w (aU A w env).ok (iK g0::vs) g0 A.dv (ownB A env)
      (
       fun w' hw=>hI.mem w' (h.gu.trans' hw (fun _ _ h=>h) (fun b hlt0 hb=>by
       rcases hb with hb|rfl
       ·exact hI.sub b hb
       ·rcases hg0.2 with h1|h1
        ·omega
        ·exact h1.1)))
      (
       fun b hb=>by
       rcases hb with hb|rfl
       ·have h1:=hI.old b (hI.sub b hb)
        refine⟨Nat.lt_of_lt_of_le h1.1 h.gu.size,fun hok=>?_⟩
        rcases hok.1 with h2|h2
        ·exact h1.2 h2
        ·omega
       ·exact⟨hlt,WJ⟩)
      (hI.step.mono fun l2 h1 h2=>hst l2 h1.1 h1.2 h2) hI.Bg rfl hinv (.inr ⟨x,ai,_,he,rfl⟩) ⟨cs,hB,vk⟩
      ⟨.w (.one (.pt ⟨g0,0,rfl⟩ ⟨0,iK g0,rfl,Nat.le_refl _,fun _=>⟨g0,rfl,rfl⟩⟩)),aAd aGc hr hv2⟩).mono ?_
     rintro e w' ⟨hw,⟨val,rfl,hres,⟨cs',hB',hR'⟩,hdv⟩|⟨chain,l2,rfl,h1,h2,h3⟩⟩
     ·obtain⟨h4,h5⟩:=h.O6 (w':=w') (p':=.dv::l) RD hgt2 hI.sub (fun b hb=>hI.old b (hI.sub b hb)) hfo he hw hdv (fun hle=>⟨cs',hB',by
       generalize cs'.toList=zs at hR' ⊢
       cases hR' with
       | cons k1 k2=>
        refine .cons ?_ (?_:RL _ _ _)
        ·cases k1 with
         |dv j1 j2=>
          have e3:=j2.now (show Dt A.dv.hd dx=some (0,A.dv.hd) from rfl);subst e3;exact .dv j1 ⟨0,A.dv.hd,hed,Nat.le_refl _,fun _=>rfl⟩
        ·refine k2.le ⟨Nat.le_refl _,fun b hb hok=>⟨?_,rfl⟩,fun y v2 hd2 hy=>?_⟩
         ·rcases hok with⟨_,hok⟩|hok
          ·exact hok
          ·exact⟨.inr (Nat.le_trans h.gu.size hok),fun y v2 hd2 hy hbl=>by have:=(h.live y v2 hd2 b hy hbl).1;omega⟩
         ·obtain⟨rfl,rfl,rfl⟩:=aJc hy
          exact⟨0,_,hed,Nat.le_refl _,fun _=>rfl⟩⟩)
      exact .inl ⟨r,_,val,env,rfl,hF,h4.FY hfo RD hgt,hres.le (xK h hw.size)⟩
     ·refine .inr ⟨chain,rfl,l2,hst l2 h1.1 h1.2 h2,h2,hI.Bg _ _ _ _ _ _ h3 (dm.refl _ _) (fun b hb=>.inl hb),h.gu.trans' hw (fun _ _ h=>h) (fun b hlt0 hb=>?_)⟩;rcases hb with hb|rfl
      ·exact hI.sub b hb
      ·rcases hg0.2 with h1|h1
       ·omega
       ·exact h1.1
  ·exact hk.elim
 ·exact hk.elim
end
section
variable {P:Program} {I:World->Prop} {A:kz} {s:St} {a:Act} {w w':World} {env:Env} {F:Option Bool->PV->Wr->Prop}
theorem gm.many(h:gm A s a w env)(wr:Wr)(hw:dm (fun b=>∃ p∈wr,∃ hd,env p.1=some (p.2.2.1,hd)/\hblk hd=some b) w w')
  (hwr:∀ p∈wr,p.2.1=none/\(∀ O di l,p.2.2.2≠.dev O di l)/\∃ hd,env p.1=some (p.2.2.1,hd)/\((aU A w env).Le (aU A w' env)->Ey (aU A w' env) hd p.2.2.2)) :
  gm A { s with o:=wr++s.o } a w' env/\(aU A w env).Le (aU A w' env):=by
 have hle:(aU A w env).Le (aU A w' env):=⟨hw.size,fun b hlt hok=>⟨hok,hw.block b hlt (fun⟨p,_,hd,h1,h2⟩=>hok.2 _ _ _ h1 h2)⟩,fun x ai hd hx=>⟨ai,hd,hx,Nat.le_refl _,fun _=>rfl⟩⟩
 have hfind:∀ (l:Wr) x,(∃ p∈l,p.1=x/\find (l++s.o) x=some p.2)\/((∀ p∈l,p.1≠x)/\find (l++s.o) x=find s.o x):=by
  intro l x
  induction l with
  |nil=>exact .inr ⟨(fun p hp=>by cases hp),rfl⟩
  | cons p l ih=>
   by_cases hp:p.1=x
   ·exact .inl ⟨p,List.mem_cons_self,hp,by rw[<-hp];exact aJ _ _ _⟩
   ·have e:find (p::l++s.o) x=find (l++s.o) x:=aN _ _ hp;rcases ih with⟨q,h1,h2,h3⟩|⟨h1,h2⟩
    ·exact .inl ⟨q,List.mem_cons_of_mem _ h1,h2,e.trans h3⟩
    ·refine .inr ⟨fun q hq=>?_,e.trans h2⟩;rcases List.mem_cons.1 hq with rfl|hq
     ·exact hp
     ·exact h1 q hq
 refine⟨{ gu:=?_,size:=h.size,dom:=fun x hx=>?_,ji:=fun x g ai o hf=>?_,live:=fun x ai hd b h1 h2=>⟨Nat.lt_of_lt_of_le (h.live x ai hd b h1 h2).1 hw.size,(h.live x ai hd b h1 h2).2⟩,inj:=h.inj,tmps:=fun t g pv hf hg=>let ⟨v,h1,h2⟩:=h.tmps t g pv hf hg;⟨v,h1,h2.le hle⟩,defers:=h.defers,und:=h.und,l_:=fun y hd hy=>⟨(h.l_ y hd hy).1,(h.l_ y hd hy).2.le hle⟩,dev:=fun g ai O di l hf hg=>?_ },hle⟩
 ·refine h.gu.trans' hw (fun _ _ h=>h) (fun i hi ⟨p,_,hd,h1,h2⟩=>?_);rcases (h.live _ _ hd i h1 h2).2 with h3|h3
  ·omega
  ·exact h3.1
 ·rcases hfind wr x with⟨p,_,_,h3⟩|⟨_,h2⟩
  ·have hx':find (wr++s.o) x=none:=hx;rw[h3] at hx';cases hx'
  ·exact h.dom x (h2.symm.trans hx)
 ·have hf':find (wr++s.o) x=some (g,ai,o):=hf;rcases hfind wr x with⟨p,h1,h2,h3⟩|⟨h1,h2⟩
  ·rw[h3] at hf';obtain⟨k1,_,hd,k2,k3⟩:=hwr p h1;obtain⟨x',g',vr,ob⟩:=p;dsimp only at k1 k2 k3 h2;subst h2
   cases hf'
   exact⟨hd,k2,fun _=>k3 hle⟩
  ·rw[h2] at hf';obtain⟨hd,h3,h4⟩:=h.ji x g ai o hf'
   exact⟨hd,h3,fun hg=>(h4 hg).Af hle (fun b hbl hlt=>hw.block b hlt (fun⟨p,hp,hd2,h5,h6⟩=>h1 p hp (h.inj p.1 x _ hd2 ai hd b h5 h3 h6 hbl)))⟩
 ·have hf':find (wr++s.o) dx=some (g,ai,.dev O di l):=hf;rcases hfind wr dx with⟨p,h1,h2,h3⟩|⟨h1,h2⟩
  ·rw[h3] at hf';obtain⟨_,k1,_⟩:=hwr p h1;obtain⟨x',g',vr,ob⟩:=p
   cases hf'
   exact absurd rfl (k1 O di l)
  ·rw[h2] at hf';obtain⟨k1,k2,k3⟩:=h.dev g ai O di l hf' hg
   exact⟨k1,k2,A.dv.grow _ _ _ _ _ k3 (hw.mono fun k _ ⟨p,_,hd,e1,e2⟩=>.inr ⟨p.1,_,hd,e1,e2⟩) (fun b hb=>.inl hb)⟩
structure Gv where
 x:Nat
 vr:Nat
 t:TypeId
 l:List PC
def aAv:List PV->Nat->(List Gv->List PV->M)->M
 |[],_,k=>k [] []
 | .w (.one (.pt x ai off))::l,i,k=>(match Nat.beq off 0 with
  | true=>.obj x fun gd vr ob=>jE gd (match Nat.beq ai vr,ob with
   |true,.box t c=>(match c.all (dG false) with
    |true=>aAv l (i+1) fun os ys=>k (⟨x,vr,t,c⟩::os) (dn (.pt (px+i) 0 0)::ys)
    |false=>.fail)
   |_,_=>.fail)
  |false=>.fail)
 |v::l,i,k=>(match ES v with
  |some v'=>aAv l i fun os ys=>k os (v'::ys)
  |none=>.fail)
def writeM:List Gv->List (List PC)->M->M
 |[],[],k=>k
 |o::os,c::cs,k=>.upd o.x o.vr (.box o.t c) (writeM os cs k)
 |_,_,_=>.fail
def distinct:List Gv->Bool
 |[]=>true
 |o::os=>(os.all fun p=>!Nat.beq o.x p.x)&&distinct os
def Fz:Nat->List Gv->List (List PC)->List Ob
 |i,o::os,c::cs=>⟨px+i,o.t,o.l,c⟩::Fz (i+1) os cs
 |_,_,_=>[]
def aVk(g:List (TypeId×List PC)->List PV->Option (Prop×List (List PC)×PV)):Spec:=fun _ xs=>aAv xs 0 fun os ys=>(match distinct os,g (os.map fun o=>(o.t,o.l)) ys with
 |true,some (p,cs,r)=>(match Nat.beq cs.length os.length with
  |true=>.need p (writeM os cs (.ret r))
  |false=>.fail)
 |_,_=>.fail)
def aDT:Option (Nat×Value)->Nat
 |some (_,.pointer (some a))=>a.block
 |_=>0
def CS(os:List Gv)(env:Nat->Option (Nat×Value))(n:Nat):Nat:=aDT ((os[n-px]?).bind fun o=>env o.x)
def aHS(C:Ctx)(o:Gv):Prop:=∃ g cs,C.env o.x=some (o.vr,iK g)/\au C.w g o.t cs/\RL C.cold o.l cs.toList
theorem aFl(h:gm A s a w env):∀ {uq:List PV} {vs:List Value} {i:Nat} {k:List Gv->List PV->M},mg (aU A w env) uq vs->(aAv uq i k).ok none s F ->
  ∃ os ys,(∀ o∈os,aHS (aU A w env) o)/\(∀ C':Ctx,(aU A w env).cold.Le C'->(∀ (j:Nat) o,os[j]?=some o->∀ hd,env o.x=some (o.vr,hd)->C'.env (px+(i+j))=some (0,hd))->mg C' ys vs)/\(k os ys).ok none s F
 |[],[],i,k,_,hk=>⟨[],[],(fun o ho=>by cases ho),fun _ _ _=>trivial,hk⟩
 |[],_::_,_,_,hv,_=>hv.elim
 |_::_,[],_,_,hv,_=>hv.elim
 | pv::uq,v::vs,i,k,⟨h1,h2⟩,hk=>by
  have other:∀ v',ES pv=some v'->(aAv uq i fun os ys=>k os (v'::ys)).ok none s F->∃ os ys,(∀ o∈os,aHS (aU A w env) o)/\(∀ C':Ctx,(aU A w env).cold.Le C'->(∀ (j:Nat) o,os[j]?=some o->∀ hd,env o.x=some (o.vr,hd)->C'.env (px+(i+j))=some (0,hd))->mg C' ys (v::vs))/\(k os ys).ok none s F:=by
   intro v' hv' hk';obtain⟨os,ys,h3,h4,h5⟩:=aFl h h2 hk'
   exact⟨os,v'::ys,h3,fun C' hle hj=>⟨bHu hle hv' h1,h4 C' hle hj⟩,h5⟩
  unfold aAv at hk
  split at hk
  ·cases ‹_::_=[]›
  ·rename_i x ai off l heq
   obtain⟨rfl,rfl⟩:pv=.w (.one (.pt x ai off))/\uq=l:=by simpa using heq
   cases hb:Nat.beq off 0<;>rw[hb] at hk
   ·exact hk.elim
   obtain rfl:=gy hb
   obtain⟨gd,vr,ob,hfo,hk⟩:=hk;have hk2:=dU hk;clear hk;obtain⟨hgt,hk⟩:=hk2;obtain⟨hd,he,hob⟩:=jQ h hfo hgt
   cases hb2:Nat.beq ai vr<;>cases ob<;>simp only[hb2] at hk<;>try exact hk.elim
   rename_i t c
   obtain rfl:=gy hb2
   cases hc:c.all (dG false)<;>rw[hc] at hk
   ·exact hk.elim
   obtain⟨g0,rfl,rfl⟩:=h1.AQ he;obtain⟨g1,cs,e1,hB,hR⟩:=hob;cases e1;obtain⟨os,ys,h3,h4,h5⟩:=aFl h h2 hk
   refine⟨⟨x,ai,t,c⟩::os,dn (.pt (px+_) 0 0)::ys,fun o ho=>?_,fun C' hle hj=>⟨?_,h4 C' hle (fun j o hjo hd hx=>?_)⟩,h5⟩
   ·rcases List.mem_cons.1 ho with rfl|ho
    ·exact⟨g0,cs,he,hB,jF hR hc⟩
    ·exact h3 o ho
   ·have:=hj 0 _ rfl _ he;rw[Nat.add_zero] at this;exact .w (.one (.pt ⟨g0,0,rfl⟩ ⟨0,iK g0,this,Nat.le_refl _,fun _=>⟨g0,rfl,rfl⟩⟩))
   ·have:=hj (j+1) o (by simpa using hjo) hd hx;rw[show ∀ n:Nat,n+1+j=n+(j+1) from fun n=>by omega];exact this
  ·rename_i v0 l0 _ heq
   obtain⟨rfl,rfl⟩:pv=v0/\uq=l0:=by simpa using heq
   cases hq:ES pv with
   |none=>rw[hq] at hk;exact hk.elim
   |some v'=>
    rw[hq] at hk;exact other v' hq hk
theorem aMy{r:PV}:∀ {os:List Gv} {cs:List (List PC)} {F:Option Bool->PV->Wr->Prop},(writeM os cs (.ret r)).ok none s F->os.length=cs.length/\F none r ((os.zip cs).map fun p=>(p.1.x,none,p.1.vr,.box p.1.t p.2))
 |[],[],F,h=>⟨rfl,h⟩
 |[],_::_,_,h=>h.elim
 |_::_,[],_,h=>h.elim
 |o::os,c::cs,F,h=>by
  obtain⟨_,h⟩:=h;obtain⟨h1,h2⟩:=aMy h
  exact⟨by simp[h1],h2⟩
theorem aFv:∀ {os:List Gv},distinct os=true->∀ (i j:Nat) o p,os[i]?=some o->os[j]?=some p->o.x=p.x->i=j
 |[],_,i,j,o,p,hi,_,_=>by simp at hi
 | q::os,h,i,j,o,p,hi,hj,e=>by
  rw[distinct,Bool.and_eq_true] at h
  have hne:∀ p∈os,q.x≠p.x:=fun p hp e=>by
   have:=List.all_eq_true.1 h.1 p hp;rw[e] at this;simp at this
  match i,j with
  |0,0=>rfl
  |0,j+1=>
   obtain rfl:q=o:=by simpa using hi
   exact absurd e (hne p (List.mem_of_getElem? (by simpa using hj:os[j]?=some p)))
  |i+1,0=>
   obtain rfl:q=p:=by simpa using hj
   exact absurd e.symm (hne o (List.mem_of_getElem? (by simpa using hi:os[i]?=some o)))
  |i+1,j+1=>rw[aFv h.2 i j o p (by simpa using hi) (by simpa using hj) e]
theorem zM:∀ {os:List Gv} {cs:List (List PC)} {i:Nat} {b:Ob},b∈Fz i os cs->∃ j o c,os[j]?=some o/\cs[j]?=some c/\b=⟨px+(i+j),o.t,o.l,c⟩
 |[],_,_,_,h=>by cases h
 |_::_,[],_,_,h=>by cases h
 | o::os,c::cs,i,b,h=>by
  rcases List.mem_cons.1 h with rfl|h
  ·exact⟨0,o,c,rfl,rfl,rfl⟩
  ·obtain⟨j,o',c',h1,h2,h3⟩:=zM h
   exact⟨j+1,o',c',by simpa using h1,by simpa using h2,by rw[h3,show i+1+j=i+(j+1) from by omega]⟩
theorem aEu:∀ {os:List Gv} {cs:List (List PC)} {i j:Nat} {o:Gv} {c:List PC},os[j]?=some o->cs[j]?=some c->(⟨px+(i+j),o.t,o.l,c⟩:Ob)∈Fz i os cs
 |[],_,_,_,_,_,h,_=>by simp at h
 |_::_,[],_,_,_,_,_,h=>by simp at h
 |o::os,c::cs,i,0,o',c',h1,h2=>by
  obtain rfl:o=o':=by simpa using h1
  obtain rfl:c=c':=by simpa using h2
  exact List.mem_cons_self
 |o::os,c::cs,i,j+1,o',c',h1,h2=>by
  refine List.mem_cons_of_mem _ ?_;rw[show i+(j+1)=i+1+j from by omega];exact aEu (by simpa using h1) (by simpa using h2)
theorem aOp{f:Nat}{g:List (TypeId×List PC)->List PV->Option (Prop×List (List PC)×PV)}(hent:∀ args w,(callFunc f args).run P w=.ok (.enter f args) w)
  (hg:∀ (os:List Gv) ys p cs r,g (os.map fun o=>(o.t,o.l)) ys=some (p,cs,r)->os.length=cs.length->p->ve P I f false (Fz 0 os cs) (fun _=>none) none (fun _=>False) ys r):aj P I f (aVk g):=by
 refine⟨hent,fun A s a w env nm uq vs F h hI hv hk=>?_⟩
 unfold aVk at hk;obtain⟨os,ys,h1,h2,hk⟩:=aFl h hv hk
 cases hd:distinct os<;>cases hq:g (os.map fun o=>(o.t,o.l)) ys<;>simp only[hd,hq] at hk<;>try exact hk.elim
 rename_i q;obtain⟨p,cs,r⟩:=q;dsimp only at hk
 cases hb:Nat.beq cs.length os.length<;>rw[hb] at hk
 ·exact hk.elim
 have hlen:=gy hb;obtain⟨hp,hk⟩:=hk;obtain⟨_,hF⟩:=aMy hk
 have hbl:∀ (j:Nat) o,os[j]?=some o->∃ g,env o.x=some (o.vr,iK g)/\CS os env (px+(0+j))=g:=fun j o hj=>by
  obtain⟨g,cs',e1,_⟩:=h1 o (List.mem_of_getElem? hj)
  refine⟨g,e1,?_⟩
  unfold CS;rw[Nat.zero_add,Nat.add_sub_cancel_left,hj];have e1':env o.x=some (o.vr,iK g):=e1;rw[Option.bind_some,e1'];rfl
 have Ah:∀ b,SX (Fz 0 os cs) (CS os env) Dv.non b->∃ o∈os,env o.x=some (o.vr,iK b):=by
  rintro b (hb|⟨ob,hob,rfl⟩)
  ·exact hb.elim
  ·obtain⟨j,o,c,e1,_,rfl⟩:=zM hob;obtain⟨g,e2,e3⟩:=hbl j o e1
   exact⟨o,List.mem_of_getElem? e1,by rw[e3];exact e2⟩
 refine (hg os ys p cs r hq hlen.symm hp w (aU A w env).ok vs (CS os env) Dv.non (fun _=>True)
  (
   fun w' hw=>hI.mem w' (h.gu.trans' hw (fun _ _ h=>h) (fun b hlt0 hb=>by
   obtain⟨o,ho,e1⟩:=Ah b hb;rcases (h.live _ _ _ b e1 rfl).2 with h3|h3
   ·omega
   ·exact h3.1)))
  (
   fun b hb=>by
   obtain⟨o,ho,e1⟩:=Ah b hb
   exact⟨(h.live _ _ _ b e1 rfl).1,fun hok=>hok.2 _ _ _ e1 rfl⟩)
  (ng.non P) (fun _ _ _ _ _ _ h=>h.elim) rfl (fun p hp=>by cases hp) (fun _=>⟨fun _ h=>h,fun _ _ _ h=>h⟩)
  (
   fun ob hob=>by
   obtain⟨j,o,c,e1,_,rfl⟩:=zM hob;obtain⟨g,e2,e3⟩:=hbl j o e1;obtain⟨g',cs',e4,h4,h5⟩:=h1 o (List.mem_of_getElem? e1);have e4':env o.x=some (o.vr,iK g'):=e4;rw[e2] at e4'
   cases e4'
   refine⟨trivial,cs',?_,h5⟩
   show au w (CS os env (px+(0+j))) _ _;rw[e3]
   exact h4)
  (
   fun ob hob ob' aNP e=>by
   obtain⟨j,o,c,e1,_,rfl⟩:=zM hob;obtain⟨j',o',c',e1',_,rfl⟩:=zM aNP;obtain⟨g,e2,e3⟩:=hbl j o e1;obtain⟨g',e2',e3'⟩:=hbl j' o' e1';have e':CS os env (px+(0+j))=CS os env (px+(0+j')):=e;rw[e3,e3'] at e';subst e';have:=h.inj o.x o'.x _ _ _ _ g e2 e2' rfl rfl
   rw[aFv hd j j' o o' e1 e1' this])
  (
   h2 _ aGc (fun j o hj hd hx=>by
   obtain⟨g,e2,e3⟩:=hbl j o hj;rw[e2] at hx;cases hx
   have hm:∃ c,cs[j]?=some c:=by
    have:j<cs.length:=by rw[hlen];exact (List.getElem?_eq_some_iff.1 hj).1
    exact⟨_,zH this⟩
   obtain⟨c,hc⟩:=hm;show o5 (Fz 0 os cs) (CS os env) none Dv.non.hd (px+(0+j))=_;have hmem:zV (Fz 0 os cs) (px+(0+j))=true:=uZ (aEu (i:=0) hj hc);unfold o5 n_;rw[hmem];show some (0,iK (CS os env (px+(0+j))))=_
   rw[e3]))).mono ?_
 rintro e w' ⟨hw,⟨val,rfl,hres,hbx,_⟩|⟨chain,l2,rfl,h3,_⟩⟩
 ·obtain⟨h4,h5⟩:=h.many (w':=w') ((os.zip cs).map fun p=>(p.1.x,none,p.1.vr,.box p.1.t p.2))
   (
    hw.mono fun b hlt hb=>by
    obtain⟨o,ho,e1⟩:=Ah b hb;obtain⟨j,hj⟩:=List.getElem?_of_mem ho
    have hm:j<cs.length:=by rw[hlen];exact (List.getElem?_eq_some_iff.1 hj).1
    exact⟨(o.x,none,o.vr,.box o.t cs[j]),List.mem_map.2 ⟨(o,cs[j]),List.mem_of_getElem? (i:=j) (by rw[List.getElem?_zip_eq_some];exact⟨hj,zH hm⟩),rfl⟩,_,e1,rfl⟩)
   (
    fun q hq=>by
    obtain⟨⟨o,c⟩,hz,rfl⟩:=List.mem_map.1 hq;obtain⟨j,hj⟩:=List.getElem?_of_mem hz;rw[List.getElem?_zip_eq_some] at hj;obtain⟨g,e2,e3⟩:=hbl j o hj.1
    refine⟨rfl,(fun _ _ _ e=>by cases e),iK g,e2,fun hle=>?_⟩
    obtain⟨cs',k1,k2⟩:=hbx _ (aEu (i:=0) hj.1 hj.2);have k1':au w' (CS os env (px+(0+j))) o.t cs':=k1;rw[e3] at k1'
    exact⟨g,cs',rfl,k1',k2.le (xK h hw.size)⟩)
  exact .inl ⟨r,_,val,env,rfl,hF,h4,hres.le (xK h hw.size)⟩
 ·exact h3.elim
end
end Pv
def nonzero(l:List Int):Nat:=(l.filter (fun n=>n != 0)).length
def rF(l:List Int):Bool:=decide (l.length<2*nonzero l)
def ah.Dp(a b:Int):ah Int:=.ask ⟨1,a,b,aS⟩ fun r=>.ret r.val
def ah.BH(a b:Int):ah Unit:=.ask ⟨2,a,b,aS⟩ fun _=>.ret ()
def ah.read(ay bit:Int):ah Bool:=
 (ah.Dp ay (3*bit+0)).bind fun a=>(ah.Dp ay (3*bit+1)).bind fun b=>(ah.Dp ay (3*bit+2)).bind fun c=>.ret (rF [a,b,c])
def ah.rq(ay bit:Int):ah Unit:=
 (ah.BH ay (3*bit+0)).bind fun _=>(ah.BH ay (3*bit+1)).bind fun _=>(ah.BH ay (3*bit+2)).bind fun _=>.ret ()
def ah.up(ay:Int):Nat->Nat->ah Nat
 |0,n=>.ret n
 |f+1,n=>(ah.read ay n).bind fun b=>if b then ah.up ay f (n+1) else .ret n
def ah.down(ay:Int):Nat->Nat->ah Unit
 |0,_=>.ret ()
 |r+1,b=>(ah.rq ay b).bind fun _=>ah.down ay r (b+1)
def ah.ig(ay:Int)(bits:Nat):ah Nat:=(ah.up ay bits 0).bind fun n=>(ah.down ay n 0).bind fun _=>.ret n
def ah.qw(ay:Int):Nat->Nat->ah (Nat×Int)
 |0,n=>.ret (n,0)
 |f+1,n=>(ah.rq ay n).bind fun _=>(ah.read ay n).bind fun b=>if b then ah.qw ay f (n+1) else .ret (n,12)
def ah.jh(ay:Int)(bits target:Nat):ah (Nat×Int):=(ah.ig ay bits).bind fun n=>ah.qw ay (target-n) n
theorem Gs(ay:Int):∀ f n,ah.All (fun m=>m<=n+f) (ah.up ay f n)
 |0,n=>Nat.le_refl _
 |f+1,n=>by
  refine ah.All.bind (R:=fun _=>True) (ah.All.yx _) (fun b _=>?_);cases b
  ·exact (by show n<=n+(f+1);omega)
  ·exact (Gs ay f (n+1)).mono (fun m hm=>by omega)
def fV(x:Int)(iw:Bool):Int:=if x=2\/(x=1/\iw=true) then 1 else 0
def eH(x:Int)(cut:Bool):Int:=if x<=1 then (if cut then 1 else 2) else x
def Xg(cells:List Int)(iw:Bool)(b:Nat):Bool:=decide (2<=fV (cells.getD (3*b) 0) iw+fV (cells.getD (3*b+1) 0) iw+fV (cells.getD (3*b+2) 0) iw)
def vF(cells:List Int)(iw:Bool):Nat->Nat->Nat
 |0,b=>b
 |f+1,b=>if Xg cells iw b then vF cells iw f (b+1) else b
def kC(cells:List Int)(iw:Bool):Nat:=vF cells iw (cells.length / 3) 0
theorem aAw(x:Int)(n:Bool):0<=fV x n/\fV x n<=1:=by unfold fV;split<;>omega
theorem aYv{cells:List Int}{iw:Bool}{f b:Nat}(h:Xg cells iw b=false):vF cells iw (f+1) b=b:=by simp[vF,h]
theorem aSv{cells:List Int}{iw:Bool}{f b:Nat}(h:Xg cells iw b=true):vF cells iw (f+1) b=vF cells iw f (b+1):=by simp[vF,h]
theorem getD_at{l:List Int}{i:Nat}(h:i<l.length):l.getD i 0=l[i]:=by rw[zG,zH h];rfl
theorem EW:∀ (ay:Int) (f b:Nat),ah.All (fun m=>m<=b+f) (ah.up ay f b)
 |_,0,b=>Nat.le_refl _
 |ay,f+1,b=>(ah.All.yx (ah.read ay b)).bind fun x _=>by
  cases x with
  |true=>exact (EW ay f (b+1)).mono fun a h=>by omega
  |false=>exact (by omega:b<=b+(f+1))
theorem aFf(ay:Int)(bits:Nat):ah.All (fun m=>m<=bits) (ah.ig ay bits):=
 (EW ay bits 0).bind fun m h=>(ah.All.yx (ah.down ay m 0)).bind fun _ _=>by show m<=bits;omega
abbrev cell(c:List Int)(j:Nat):Int:=c.getD j 0
def ah.Within{α:Type}:Nat->ah α->Prop
 |_,.ret _=>True
 |0,.ask _ _=>False
 |n+1,.ask _ k=>∀ r,ah.Within n (k r)
theorem Within.mono{α:Type}{p:ah α}:∀ {n m:Nat},p.Within n->n<=m->p.Within m:=by
 induction p with
 |ret a=>intro n m _ _;cases m<;>trivial
 | ask a k ih=>
  intro n m h hm
  cases n with
  |zero=>exact h.elim
  |succ n=>
   cases m with
   |zero=>omega
   |succ m=>exact fun r=>ih r (h r) (by omega)
theorem Within.bind{α β:Type}{p:ah α}{f:α->ah β}{m:Nat}:∀ {n:Nat},p.Within n->(∀ a,(f a).Within m)->(p.bind f).Within (n+m):=by
 induction p with
 |ret a=>intro n _ hf;exact Within.mono (hf a) (by omega)
 | ask a k ih=>
  intro n h hf
  cases n with
  |zero=>exact h.elim
  |succ n=>
   rw[show n+1+m=(n+m)+1 from by omega];exact fun r=>ih r (h r) hf
theorem Within.Nz{α β:Type}{R:α->Prop}{p:ah α}{f:α->ah β}{m:Nat}:∀ {n:Nat},p.Within n->ah.All R p->(∀ a,R a->(f a).Within m)->(p.bind f).Within (n+m):=by
 induction p with
 |ret a=>intro n _ ha hf;exact Within.mono (hf a ha) (by omega)
 | ask a k ih=>
  intro n h ha hf
  cases n with
  |zero=>exact h.elim
  |succ n=>
   rw[show n+1+m=(n+m)+1 from by omega];exact fun r=>ih r (h r) (ha r) hf
theorem xE(a b:Int):(ah.Dp a b).Within 1:=fun _=>trivial
theorem tY(a b:Int):(ah.BH a b).Within 1:=fun _=>trivial
theorem aDp(a b:Int):(ah.read a b).Within 3:=Within.bind (m:=2) (xE _ _) fun _=>Within.bind (m:=1) (xE _ _) fun _=>Within.bind (m:=0) (xE _ _) fun _=>trivial
theorem yN(a b:Int):(ah.rq a b).Within 3:=Within.bind (m:=2) (tY _ _) fun _=>Within.bind (m:=1) (tY _ _) fun _=>Within.bind (m:=0) (tY _ _) fun _=>trivial
theorem aNe(a:Int):∀ f n,(ah.up a f n).Within (3*f)
 |0,n=>trivial
 |f+1,n=>by
  rw[show 3*(f+1)=3+3*f from by omega];refine Within.bind (aDp a n) fun b=>?_
  cases b with
  |true=>exact aNe a f (n+1)
  |false=>exact Within.mono (n:=0) (show (ah.ret n:ah Nat).Within 0 from trivial) (by omega)
theorem aDq(a:Int):∀ r b,(ah.down a r b).Within (3*r)
 |0,b=>trivial
 |r+1,b=>by
  rw[show 3*(r+1)=3+3*r from by omega];exact Within.bind (yN a b) fun _=>aDq a r (b+1)
theorem qJ(a:Int)(bits:Nat):(ah.ig a bits).Within (6*bits):=by
 rw[show 6*bits=3*bits+(3*bits+0) from by omega];refine Within.Nz (aNe a bits 0) (EW a bits 0) fun n hn=>?_;exact Within.bind (Within.mono (aDq a n 0) (by omega)) fun _=>trivial
theorem sW(a:Int):∀ f n,(ah.qw a f n).Within (6*f)
 |0,n=>trivial
 |f+1,n=>by
  rw[show 6*(f+1)=3+(3+6*f) from by omega];refine Within.bind (yN a n) fun _=>Within.bind (aDp a n) fun b=>?_
  cases b with
  |true=>exact sW a f (n+1)
  |false=>exact Within.mono (n:=0) (show (ah.ret (n,(12:Int)):ah (Nat×Int)).Within 0 from trivial) (by omega)
theorem aGx(a:Int)(bits target:Nat):(ah.jh a bits target).Within (6*bits+6*target):=
 Within.bind (qJ a bits) fun n=>Within.mono (sW a (target-n) n) (by omega)
namespace Pv
def ans(O:List Acc->Option je)(l:List Acc):je:=(O l).getD ⟨0,aS⟩
def go{α:Type}(O:List Acc->Option je):ah α->List Acc->α×List Acc
 |.ret a,l=>(a,l)
 |.ask c k,l=>go O (k (ans O (l++[c]))) (l++[c])
theorem go_ret{α:Type}(O:List Acc->Option je)(a:α)(l:List Acc):go O (.ret a) l=(a,l):=rfl
theorem wZ{α:Type}(O:List Acc->Option je)(c:Acc)(k:je->ah α)(l:List Acc):go O (.ask c k) l=go O (k (ans O (l++[c]))) (l++[c]):=rfl
theorem xZ{α β:Type}(O:List Acc->Option je)(p:ah α)(f:α->ah β):∀ l,go O (p.bind f) l=go O (f (go O p l).1) (go O p l).2:=by
 induction p with
 |ret a=>intro l;rfl
 |ask c k ih=>intro l;exact ih _ _
theorem vG{α:Type}(O:List Acc->Option je)(p:ah α):∀ l,l <+: (go O p l).2:=by
 induction p with
 |ret a=>intro l;exact List.prefix_refl _
 |ask c k ih=>intro l;exact (List.prefix_append l [c]).trans (ih _ _)
theorem UU{α:Type}{R:α->Prop}(O:List Acc->Option je){p:ah α}(h:ah.All R p):∀ l,R (go O p l).1:=by
 induction p with
 |ret a=>intro l;exact h
 |ask c k ih=>intro l;exact ih _ (h _) _
def lU{α:Type}(dec:List PV->Option (Prop×ah α×(α->PV))):Spec:=
 aMd (fun O l ys=>match dec ys with|some (_,p,_)=>(go O p l).2|none=>l) (fun O l ys=>match dec ys with|some (c,p,f)=>some (c,f (go O p l).1)|none=>none)
def C_(P:Program)(I:World->Prop)(f:Nat){α:Type}(p:ah α)(args:List PV)(val:α->PV):Prop:=
 ∀ O l,ve P I f false [] O (some (l,(go O p l).2)) (fun h=>l <+: h/\h <+: (go O p l).2) args (val (go O p l).1)
theorem oN{P:Program}{I:World->Prop}{f:Nat}{α:Type}{dec:List PV->Option (Prop×ah α×(α->PV))}(hent:∀ args w,(callFunc f args).run P w=.ok (.enter f args) w)
  (hg:∀ ys c p v,dec ys=some (c,p,v)->c->C_ P I f p (.w (.one .dv)::ys) v):aj P I f (lU dec):=by
 refine aJg hent (fun O l ys p r hq hp=>?_)
 cases hd:dec ys with
 |none=>rw[hd] at hq;cases hq
 |some q=>
  obtain⟨c,pr,v⟩:=q;rw[hd] at hq;cases hq;exact hg ys _ pr v hd hp O l
theorem aKw{H L l:List Acc}{c:Acc}{X:Prop}(h1:L <+: l)(h2:l++[c] <+: H):X->L <+: l++[c]/\l++[c] <+: H:=fun _=>⟨h1.trans (List.prefix_append l [c]),h2⟩
theorem oI(l:List Acc):l <+: l:=List.prefix_refl l
theorem Q7(l:List Acc)(c:Acc):l <+: l++[c]:=List.prefix_append l [c]
theorem bBf{P:Program}{A:kz}{s:St}{Q:Exit->Act->World->Prop}{id:Nat}(h:Aft A s (Q .normal)):ja P A s (.label id) Q:=fun a w hg _=>wp_label (h a w hg)
theorem bBe{P:Program}{A:kz}{s:St}{Q:Exit->Act->World->Prop}{c:Code}(h:ja P A s c (Exit.noGoto Q)):ja P A s (.scope c) Q:=fun a w hg AX=>wp_scope_straight (h a w hg (fun chain a w hd hp=>AX chain a w hd hp))
def OB(O:List Acc->Option je):Prop:=∀ l r,O l=some r->r.bytes.size<=1000000
theorem OB.ans{O:List Acc->Option je}(h:OB O)(l:List Acc):(ans O l).bytes.size<=1000000:=by
 unfold Pv.ans
 cases hq:O l with
 |none=>exact (by decide:(0:Nat)<=1000000)
 |some r=>exact h l r hq
def bIo(P:Program)(I:World->Prop)(f:Nat){α:Type}(p:ah α)(args:List PV)(val:α->PV):Prop:=
 ∀ O l,OB O->ve P I f false [] O (some (l,(go O p l).2)) (fun h=>l <+: h/\h <+: (go O p l).2) args (val (go O p l).1)
theorem C_.toB{P:Program}{I:World->Prop}{f:Nat}{α:Type}{p:ah α}{args:List PV}{val:α->PV}(h:C_ P I f p args val):bIo P I f p args val:=fun O l _=>h O l
def lT{α:Type}(dec:List PV->Option (Prop×ah α×(α->PV))):Spec:=
 aMd (fun O l ys=>match dec ys with|some (_,p,_)=>(go O p l).2|none=>l) (fun O l ys=>match dec ys with|some (c,p,f)=>some (OB O/\c,f (go O p l).1)|none=>none)
theorem pJ{P:Program}{I:World->Prop}{f:Nat}{α:Type}{dec:List PV->Option (Prop×ah α×(α->PV))}(hent:∀ args w,(callFunc f args).run P w=.ok (.enter f args) w)
  (hg:∀ ys c p v,dec ys=some (c,p,v)->c->bIo P I f p (.w (.one .dv)::ys) v):aj P I f (lT dec):=by
 refine aJg hent (fun O l ys p r hq hp=>?_)
 cases hd:dec ys with
 |none=>rw[hd] at hq;cases hq
 |some q=>
  obtain⟨c,pr,v⟩:=q;rw[hd] at hq;cases hq;exact hg ys _ pr v hd hp.2 O l hp.1
def gZ:Bool->Int->ah Unit
 |true,_=>.ret ()
 |false,e=>.ask (sU e) fun _=>.ret ()
def OT(P:Program)(I:World->Prop)(T:TypeId)(f:Nat){α:Type}(p:ah α)(args:List PV)(val:α->PV):Prop:=
 ∀ O l,OB O->Zd T O->ve P I f false [] O (some (l,(go O p l).2)) (fun h=>l <+: h/\h <+: (go O p l).2) args (val (go O p l).1)
def vU(P:Program)(I:World->Prop)(T:TypeId)(f:Nat)(t:TypeId)(cells:List PC){α:Type}(p:ah α)(args:List PV)(val:α->PV):Prop:=
 ∀ O l,OB O->Zd T O->Xw P I f t cells cells O l (go O p l).2 (fun h=>l <+: h/\h <+: (go O p l).2) (.w (.one (.pt px 0 0))::args) (val (go O p l).1)
section
variable {P:Program} {I:World->Prop}
def aUa(hist:(List Acc->Option je)->List Acc->List PV->List Acc)(res:(List Acc->Option je)->List Acc->List PV->Option (Prop×PV)):Spec:=fun _ xs=>match Fp xs with
 | some ys=>.obj dx fun g vr ob=>jE g (match Nat.beq vr 0,ob with
  |true,.dev O di l=>(match res O l ys with
   |some (p,r)=>.need p (.need (∀ h,l <+: h->h <+: hist O l ys->O h=none->di h) (.upd dx 0 (.dev O di (hist O l ys)) (.ret r)))
   |none=>.fail)
  |_,_=>.fail)
 |none=>.fail
theorem bAi{f:Nat}{hist:(List Acc->Option je)->List Acc->List PV->List Acc}{res:(List Acc->Option je)->List Acc->List PV->Option (Prop×PV)}(hent:∀ args w,(callFunc f args).run P w=.ok (.enter f args) w)
  (hg:∀ O l ys p r,res O l ys=some (p,r)->p->ve P I f false [] O (some (l,hist O l ys)) (fun h=>l <+: h/\h <+: hist O l ys) ys r):aj P I f (aUa hist res):=by
 refine⟨hent,fun A s a w env nm uq vs F h hI hv hk=>?_⟩
 unfold aUa at hk
 cases hr:Fp uq with
 |none=>rw[hr] at hk;exact hk.elim
 | some ys=>
  rw[hr] at hk;obtain⟨gd,vr,ob,hfo,hk⟩:=hk;have hk2:=dU hk;clear hk;obtain⟨hgt,hk⟩:=hk2
  cases hb2:Nat.beq vr 0<;>cases ob<;>simp only[hb2] at hk<;>try exact hk.elim
  rename_i O di l
  obtain rfl:=gy hb2
  cases hq:res O l ys with
  |none=>rw[hq] at hk;exact hk.elim
  | some q=>
   obtain⟨p,r⟩:=q;rw[hq] at hk;obtain⟨hp,hst,_,hF⟩:=hk;obtain⟨hO,hstp,hinv⟩:=h.dev gd 0 O di l hfo hgt;subst hO hstp
   have Ah:∀ b,SX [] (fun _=>0) A.dv b->A.dv.S b:=by
    rintro b (h|⟨o,ho,rfl⟩)
    ·exact h
    ·cases ho
   refine (hg A.dv.O l ys p r hq hp w (aU A w env).ok vs (fun _=>0) A.dv (ownB A env)
    (fun w' hw=>hI.mem w' (h.gu.trans' hw (fun _ _ h=>h) (fun b _ hb=>hI.sub b (Ah b hb))))
    (
     fun b hb=>by
     have h1:=hI.old b (hI.sub b (Ah b hb))
     refine⟨Nat.lt_of_lt_of_le h1.1 h.gu.size,fun hok=>?_⟩
     rcases hok.1 with h2|h2
     ·exact h1.2 h2
     ·omega)
    (hI.step.mono fun l2 h1 h2=>hst l2 h1.1 h1.2 h2) hI.Bg rfl (fun p hp=>by cases hp;exact hinv) (fun h=>by cases h) (fun o ho=>by cases ho) (fun o ho=>by cases ho)
    (aAd aGc hr hv)).mono ?_
   rintro e w' ⟨hw,⟨val,rfl,hres,_,hdv⟩|⟨chain,l2,rfl,h1,h2,h3⟩⟩
   ·obtain⟨h4,h5⟩:=h.asked (w':=w') hfo hgt hI.sub (fun b hb=>hI.old b (hI.sub b hb)) (hw.mono fun b _ hb=>Ah b hb) (hdv _ rfl);exact .inl ⟨r,_,val,env,rfl,hF,h4,hres.le (xK h hw.size)⟩
   ·exact .inr ⟨chain,rfl,l2,hst l2 h1.1 h1.2 h2,h2,hI.Bg _ _ _ _ _ _ h3 (dm.refl _ _) (fun b hb=>.inl hb),h.gu.trans (hw.mono fun b _ hb=>hI.sub b (Ah b hb))⟩
def aKv(T:TypeId){α:Type}(dec:List PV->Option (Prop×ah α×(α->PV))):Spec:=
 aUa (fun O l ys=>match dec ys with|some (_,p,_)=>(go O p l).2|none=>l) (fun O l ys=>match dec ys with|some (c,p,f)=>some (OB O/\Zd T O/\c,f (go O p l).1)|none=>none)
theorem aSk{f:Nat}{T:TypeId}{α:Type}{dec:List PV->Option (Prop×ah α×(α->PV))}(hent:∀ args w,(callFunc f args).run P w=.ok (.enter f args) w)
  (hg:∀ ys c p v,dec ys=some (c,p,v)->c->OT P I T f p ys v):aj P I f (aKv T dec):=by
 refine bAi hent (fun O l ys p r hq hp=>?_)
 cases hd:dec ys with
 |none=>rw[hd] at hq;cases hq
 |some q=>
  obtain⟨c,pr,v⟩:=q;rw[hd] at hq;cases hq;exact hg ys _ pr v hd hp.2.2 O l hp.1 hp.2.1
def iO(T t:TypeId){α:Type}(dec:List PC->List PV->Option (Prop×ah α×(α->PV))):Spec:=
 aSl t (fun O k l ys=>match dec l ys with|some (_,p,_)=>(go O p k).2|none=>k) (fun O k l ys=>match dec l ys with|some (c,p,f)=>some (OB O/\Zd T O/\c,f (go O p k).1)|none=>none)
theorem jY{f:Nat}{T t:TypeId}{α:Type}{dec:List PC->List PV->Option (Prop×ah α×(α->PV))}(hent:∀ args w,(callFunc f args).run P w=.ok (.enter f args) w)
  (hg:∀ l ys c p v,dec l ys=some (c,p,v)->c->vU P I T f t l p ys v):aj P I f (iO T t dec):=by
 refine aYj hent (fun O k l ys p r hq hp=>?_)
 cases hd:dec l ys with
 |none=>rw[hd] at hq;cases hq
 |some q=>
  obtain⟨c,pr,v⟩:=q;rw[hd] at hq;cases hq;exact hg l ys _ pr v hd hp.2.2 O k hp.1 hp.2.1
end
end Pv
section
section
variable {w w':World} {v:Value} {ds:List (List UInt8)}
end
section
variable {P:Program}
end
end
theorem a_.lt{w:World}(h:a_ w):2<w.heap.size/\0<w.heap.size:=⟨lt_of_cell (h.k 0 _ rfl),lt_of_cell (h.h 0 _ rfl)⟩
theorem a_.past{w0 w w':World}{B:Nat}(h0:a_ w0)(hB:w0.heap.size<=B)(h:a_ w)(hc:dm (fun k=>B<=k) w w'):a_ w':=h.gu hc (by have:=h0.lt;omega) (by have:=h0.lt;omega)
theorem aCN(fn:Fn)(first cap:Array Value)(w:World):(Instr.makeFunc fn first cap).run Tryz.prog w=.ok (.func fn first cap) w:=rfl



namespace Pv
theorem Gu:o9=gq:=rfl
theorem Iw{C:Ctx}{k:Nat}{bs:List UInt8}{cs:Array Value}(h:RL C [.bs k bs] cs.toList):bs.length=k/\cs=(bs.map gq).toArray:=by
 obtain⟨h1,h2⟩:=h.Zc
 exact⟨h1,by apply Array.ext';simpa[Gu] using h2⟩
theorem aUq{C:Ctx}{k:Nat}{bs:List UInt8}{v:Value}(h:RV C (.w (.agg [.bs k bs])) v):bs.length=k/\v=.agg (bs.map gq).toArray:=by
 cases h with
 | w h=>cases h with
  |agg h=>
   obtain⟨h1,h2⟩:=Iw h
   exact⟨h1,by rw[h2]⟩
theorem qW{C:Ctx}{bs:List UInt8}{k:Nat}(h:bs.length=k):RV C (.w (.agg [.bs k bs])) (.agg (bs.map gq).toArray):=
 .w (.agg (by simpa[Gu] using RL.cons (R.bs (C:=C) h) RL.nil))
def Uf:Nat->(Nat->List PC)->(List (List UInt8)->M)->M
 |0,_,k=>k []
 |n+1,f,k=>Uf n f fun l=>(match f n with
  |[c]=>Xh (dn c) fun b=>k (l++[b])
  |_=>.fail)
def Gp(v:PV)(k:List (List UInt8)->M):M:=match v with
 | .w (.one (.ow x ai n off len))=>.obj x fun g vr ob=>jE g (match Nat.beq ai vr,Nat.beq n 1,Nat.beq off 0,ob with
  |true,true,true,.arr _ m tot f=>(match Nat.beq n m,Nat.beq len tot with
   |true,true=>Uf len f k
   |_,_=>.fail)
  |_,_,_,_=>.fail)
 |.w (.one (.lit (.slice none 0 0)))=>k []
 |_=>.fail
section
variable {A:kz} {s:St} {a:Act} {w:World} {env:Env} {F:Option Bool->PV->Wr->Prop}
theorem bAz(h:gm A s a w env){vs:List Value}{f:Nat->List PC}:∀ {n:Nat} {k:List (List UInt8)->M},n<=vs.length->(∀ i,i<n->RL (aU A w env) (f i) ((vs.drop (i*1)).take 1))->(Uf n f k).ok none s F ->
  ∃ ps,ps.length=n/\(∀ (i:Nat) (p:List UInt8),ps[i]?=some p->∃ u,vs[i]?=some u/\Reads w 1 u p.length (p.map gq))/\(k ps).ok none s F
 |0,k,_,_,hk=>⟨[],rfl,fun i p hp=>by simp at hp,hk⟩
 | n + 1,k,hn,hr,hk=>by
  obtain⟨ps,h1,h2,hk⟩:=bAz h (n:=n) (by omega) (fun i hi=>hr i (by omega)) hk
  split at hk
  ·rename_i c hfc;have h3:=hr n (by omega);rw[hfc] at h3
   have hv:(vs.drop (n*1)).take 1=[vs[n]]:=by
    apply List.ext_getElem?;intro q;rw[List.getElem?_take,List.getElem?_drop,Nat.mul_one]
    cases q with
    |zero=>rw[if_pos (by omega),Nat.add_zero,zH (by omega)];rfl
    |succ q=>rw[if_neg (by omega)];simp
   rw[hv] at h3;obtain⟨l,h4,hk⟩:=nY h (.w (.one h3.single)) hk
   refine⟨ps++[l],by simp[h1],fun i p hp=>?_,hk⟩
   rcases Nat.lt_or_ge i n with hlt|hge
   ·rw[List.getElem?_append_left (by omega)] at hp;exact h2 i p hp
   ·rw[List.getElem?_append_right (by omega)] at hp
    have hi:i=n:=by
     rcases Nat.eq_or_lt_of_le hge with e|e
     ·exact e.symm
     ·rw[List.getElem?_eq_none (by simp;omega)] at hp;cases hp
    subst hi;rw[h1,Nat.sub_self] at hp;cases hp
    exact⟨vs[i],zH _,h4⟩
  ·exact hk.elim
theorem aDu(h:gm A s a w env){v:PV}{val:Value}(hv:RV (aU A w env) v val){k:List (List UInt8)->M}(hk:(Gp v k).ok none s F):∃ ps,Parts w val ps/\(k ps).ok none s F:=by
 unfold Gp at hk
 split at hk
 ·rename_i x ai n off len;obtain⟨g,vr,ob,hfo,hk⟩:=hk;have hk2:=dU hk;clear hk;obtain⟨hg,hk⟩:=hk2;obtain⟨hd,hev,hob⟩:=jQ h hfo hg
  cases hb:Nat.beq ai vr<;>cases hb2:Nat.beq n 1<;>cases hb3:Nat.beq off 0<;>cases ob<;>simp only[hb,hb2,hb3] at hk<;>try exact hk.elim
  rename_i e m tot f
  obtain rfl:=gy hb
  obtain rfl:=gy hb2
  obtain rfl:=gy hb3
  cases hb4:Nat.beq 1 m<;>cases hb5:Nat.beq len tot<;>simp only[hb4,hb5] at hk<;>try exact hk.elim
  obtain rfl:=gy hb4
  obtain rfl:=gy hb5
  obtain⟨A0,n0,c0,rfl,hle0,rfl⟩:=hv.yt hev;obtain⟨vs,hown,hel⟩:=hob;have hrd:=Reads.vg hown
  have hn0:n0=len:=by
   obtain⟨_,A1,c1,e1,_⟩:=hrd
   cases e1;rfl
  subst hn0;have hsl:=mP (off:=0) (m:=n0) (by omega) hrd;rw[Nat.zero_mul,List.drop_zero,List.take_of_length_le (by rw[hown.1];omega)] at hsl;obtain⟨ps,h1,h2,hk⟩:=bAz h (vs:=vs) (by rw[hown.1];omega) hel hk
  exact⟨ps,⟨vs,by rw[hown.1,h1];omega,by rw[h1,Nat.zero_mul];exact hsl,h2⟩,hk⟩
 ·have:=hv.dw;subst this
  exact⟨[],Parts.nil w,hk⟩
 ·exact hk.elim
end
def jb(n:Int):Prop := -9223372036854775808<=n/\n<9223372036854775808
def Zj:Spec:=fun nm xs=>match xs with
 |[.w (.one (.lit (.int .i64 n)))]=>.need (jb n) (.new nm (.arr 5 1 (b_ n).length (p_ (b_ n))) fun v=>.ret (dn (.ow nm v 1 0 (b_ n).length)))
 |_=>.fail
def aAf:Spec:=fun nm xs=>match xs with
 |[.w (.one (.lit (.string b)))]=>.need (b.size<=1000000000) (.new nm (.arr 5 1 (bT b.data.toList).length (p_ (bT b.data.toList))) fun v=>.ret (dn (.ow nm v 1 0 (bT b.data.toList).length)))
 |_=>.fail
def vZ:Spec:=fun _ xs=>match xs with
 |[.w (.one (.lit (.int .i64 tag))),ps]=>Gp ps fun pl=>.need (pl.length<=1000/\∀ p∈pl,p.length<=10000) (.ret (.w (.agg [.bs 16 (jS tag pl)])))
 |_=>.fail
def wB:Spec:=fun _ xs=>match xs with
 |[k,.w (.one (.lit (.string b))),ps]=>Xh k fun kb=>Gp ps fun pl=>.need (kb.length<=10000/\b.size<=10000/\pl.length<=90/\∀ p∈pl,p.length<=10000) (.ret (.w (.agg [.bs 16 (kH kb b.data.toList pl)])))
 |_=>.fail
def Zk:Spec:=fun _ xs=>match xs with
 |[k,b]=>Xh k fun kb=>Xh b fun bb=>.need (kb.length<=1000000/\bb.length<=1000000) (.ret (.w (.agg [.bs 16 (EI kb bb)])))
 |_=>.fail
theorem WA:aj Tryz.prog a_ 107 Zj:=by
 refine⟨aF Tryz.func107 (by kernel_rfl) rfl,fun A s a w env nm uq vs F h hI hv hk=>?_⟩
 unfold Zj at hk
 split at hk
 rotate_left
 ·exact hk.elim
 rename_i n;obtain⟨hn,hk⟩:=hk
 match vs,hv with
 |[v],⟨h1,_⟩=>
  obtain rfl:=RV.dw (show RV _ _ _ from h1)
  refine (vW n w hn.1 hn.2).mono ?_;rintro e w' ⟨A1,c,rfl,ho,hE⟩;obtain⟨env',h3,h4⟩:=h.A_ nm 5 1 (b_ n).length (f:=p_ (b_ n)) hE ho (fun C i hi=>nZ C (b_ n) i hi);exact .inl ⟨_,_,_,env',rfl,hk,h3,h4⟩
theorem Ph:aj Tryz.prog a_ 24 Zj:=by
 refine⟨aF Tryz.func24 (by kernel_rfl) rfl,fun A s a w env nm uq vs F h hI hv hk=>?_⟩
 unfold Zj at hk
 split at hk
 rotate_left
 ·exact hk.elim
 rename_i n;obtain⟨hn,hk⟩:=hk
 match vs,hv with
 |[v],⟨h1,_⟩=>
  obtain rfl:=RV.dw (show RV _ _ _ from h1)
  refine (yV n w hn.1 hn.2).mono ?_;rintro e w' ⟨A1,c,rfl,ho,hE⟩;obtain⟨env',h3,h4⟩:=h.A_ nm 5 1 (b_ n).length (f:=p_ (b_ n)) hE ho (fun C i hi=>nZ C (b_ n) i hi);exact .inl ⟨_,_,_,env',rfl,hk,h3,h4⟩
theorem Nu:aj Tryz.prog a_ 145 aAf:=by
 refine⟨aF Tryz.func145 (by kernel_rfl) rfl,fun A s a w env nm uq vs F h hI hv hk=>?_⟩
 unfold aAf at hk
 split at hk
 rotate_left
 ·exact hk.elim
 rename_i b;obtain⟨hn,hk⟩:=hk
 match vs,hv with
 |[v],⟨h1,_⟩=>
  obtain rfl:=RV.dw (show RV _ _ _ from h1)
  refine (vX b w hn).mono ?_;rintro e w' ⟨A1,c,rfl,ho,hE⟩;obtain⟨env',h3,h4⟩:=h.A_ nm 5 1 (bT b.data.toList).length (f:=p_ (bT b.data.toList)) hE ho (fun C i hi=>nZ C _ i hi);exact .inl ⟨_,_,_,env',rfl,hk,h3,h4⟩
theorem bCu:aj Tryz.prog a_ 39 aAf:=by
 refine⟨aF Tryz.func39 (by kernel_rfl) rfl,fun A s a w env nm uq vs F h hI hv hk=>?_⟩
 unfold aAf at hk
 split at hk
 rotate_left
 ·exact hk.elim
 rename_i b;obtain⟨hn,hk⟩:=hk
 match vs,hv with
 |[v],⟨h1,_⟩=>
  obtain rfl:=RV.dw (show RV _ _ _ from h1)
  refine (rC b w hn).mono ?_;rintro e w' ⟨A1,c,rfl,ho,hE⟩;obtain⟨env',h3,h4⟩:=h.A_ nm 5 1 (bT b.data.toList).length (f:=p_ (bT b.data.toList)) hE ho (fun C i hi=>nZ C _ i hi);exact .inl ⟨_,_,_,env',rfl,hk,h3,h4⟩
theorem bGp:aj Tryz.prog a_ 176 vZ:=by
 refine⟨aF Tryz.func176 (by kernel_rfl) rfl,fun A s a w env nm uq vs F h hI hv hk=>?_⟩
 unfold vZ at hk
 split at hk
 rotate_left
 ·exact hk.elim
 rename_i tag ps
 match vs,hv with
 |[v,pv],⟨h1,h2,_⟩=>
  obtain rfl:=RV.dw (show RV _ _ _ from h1)
  obtain⟨pl,hp,hk⟩:=aDu h h2 hk;obtain⟨⟨c1,c2⟩,hk⟩:=hk;refine (aZn tag pl pv w (hI.mem w h.gu) hp c1 c2).mono ?_;rintro e w' ⟨rfl,hE⟩;exact .inl ⟨_,[],_,env,rfl,hk,h.ext hE,qW (iW _ _)⟩
theorem aYa:aj Tryz.prog a_ 156 vZ:=by
 refine⟨aF Tryz.func156 (by kernel_rfl) rfl,fun A s a w env nm uq vs F h hI hv hk=>?_⟩
 unfold vZ at hk
 split at hk
 rotate_left
 ·exact hk.elim
 rename_i tag ps
 match vs,hv with
 |[v,pv],⟨h1,h2,_⟩=>
  obtain rfl:=RV.dw (show RV _ _ _ from h1)
  obtain⟨pl,hp,hk⟩:=aDu h h2 hk;obtain⟨⟨c1,c2⟩,hk⟩:=hk;refine (aSe tag pl pv w  hp c1 c2).mono ?_;rintro e w' ⟨rfl,hE⟩;exact .inl ⟨_,[],_,env,rfl,hk,h.ext hE,qW (iW _ _)⟩
theorem bGr:aj Tryz.prog a_ 106 wB:=by
 refine⟨aF Tryz.func106 (by kernel_rfl) rfl,fun A s a w env nm uq vs F h hI hv hk=>?_⟩
 unfold wB at hk
 split at hk
 rotate_left
 ·exact hk.elim
 rename_i k b ps
 match vs,hv with
 |[kv,v,pv],⟨h0,h1,h2,_⟩=>
  obtain rfl:=RV.dw (show RV _ _ _ from h1)
  obtain⟨kb,hkb,hk⟩:=nY h h0 hk;obtain⟨pl,hp,hk⟩:=aDu h h2 hk;obtain⟨⟨c0,c1,c2,c3⟩,hk⟩:=hk;refine (aBd kb kv b pl pv w (hI.mem w h.gu) hkb c0 c1 hp c2 c3).mono ?_;rintro e w' ⟨rfl,hE⟩;exact .inl ⟨_,[],_,env,rfl,hk,h.ext hE,qW (eF _ _ _)⟩
theorem aYb:aj Tryz.prog a_ 22 wB:=by
 refine⟨aF Tryz.func22 (by kernel_rfl) rfl,fun A s a w env nm uq vs F h hI hv hk=>?_⟩
 unfold wB at hk
 split at hk
 rotate_left
 ·exact hk.elim
 rename_i k b ps
 match vs,hv with
 |[kv,v,pv],⟨h0,h1,h2,_⟩=>
  obtain rfl:=RV.dw (show RV _ _ _ from h1)
  obtain⟨kb,hkb,hk⟩:=nY h h0 hk;obtain⟨pl,hp,hk⟩:=aDu h h2 hk;obtain⟨⟨c0,c1,c2,c3⟩,hk⟩:=hk;refine (xM kb kv b pl pv w  hkb c0 c1 hp c2 c3).mono ?_;rintro e w' ⟨rfl,hE⟩;exact .inl ⟨_,[],_,env,rfl,hk,h.ext hE,qW (eF _ _ _)⟩
theorem Vm:aj Tryz.prog a_ 146 Zk:=by
 refine⟨aF Tryz.func146 (by kernel_rfl) rfl,fun A s a w env nm uq vs F h hI hv hk=>?_⟩
 unfold Zk at hk
 split at hk
 rotate_left
 ·exact hk.elim
 rename_i k b
 match vs,hv with
 |[kv,bv],⟨h0,h1,_⟩=>
  obtain⟨kb,hkb,hk⟩:=nY h h0 hk;obtain⟨bb,hbb,hk⟩:=nY h h1 hk;obtain⟨⟨c0,c1⟩,hk⟩:=hk;refine (aSt kb bb kv bv w (hI.mem w h.gu) hkb hbb c0 c1).mono ?_;rintro e w' ⟨rfl,hE⟩;exact .inl ⟨_,[],_,env,rfl,hk,h.ext hE,qW (lJ _ _)⟩
theorem Pg:aj Tryz.prog a_ 40 Zk:=by
 refine⟨aF Tryz.func40 (by kernel_rfl) rfl,fun A s a w env nm uq vs F h hI hv hk=>?_⟩
 unfold Zk at hk
 split at hk
 rotate_left
 ·exact hk.elim
 rename_i k b
 match vs,hv with
 |[kv,bv],⟨h0,h1,_⟩=>
  obtain⟨kb,hkb,hk⟩:=nY h h0 hk;obtain⟨bb,hbb,hk⟩:=nY h h1 hk;obtain⟨⟨c0,c1⟩,hk⟩:=hk;refine (aKn kb bb kv bv w  hkb hbb c0 c1).mono ?_;rintro e w' ⟨rfl,hE⟩;exact .inl ⟨_,[],_,env,rfl,hk,h.ext hE,qW (lJ _ _)⟩
theorem bV{P:Program}{I:World->Prop}{l:List (Nat×Spec)}(h:∀ p∈l,aj P I p.1 p.2):aGr P I (find l):=by
 intro f sp hf
 induction l with
 |nil=>cases hf
 | cons p l ih=>
  by_cases hp:p.1=f
  ·obtain⟨f',sp'⟩:=p;subst hp;rw[aJ] at hf;cases hf;exact h _ List.mem_cons_self
  ·obtain⟨f',sp'⟩:=p;rw[aN _ _ hp] at hf;exact ih (fun q hq=>h q (List.mem_cons_of_mem _ hq)) hf
theorem fK:Tryz.prog.follows .mixedOrders=true:=by kernel_rfl
theorem bU:∀ w w',Ext w w'->a_ w->a_ w':=fun _ _ h hi=>hi.ext h
theorem kS{α:Type} [Inhabited α] (n i:Nat) (g:Nat->α) (h:i<n) (d:α):((List.range n).map g).getD i d=g i:=by
 rw[zG,List.getElem?_map,List.getElem?_range h];rfl
def D_(l:List Int):Nat->List PC:=fun i=>[.lit (.int .i64 (l.getD i 0))]
def intOf:List PC->Int
 |[.lit (.int _ n)]=>n
 |_=>0
def isInt:List PC->Bool
 |[.lit (.int .i64 _)]=>true
 |_=>false
def UW(n:Nat)(f:Nat->List PC):List Int:=(List.range n).map fun i=>intOf (f i)
def aMt(n:Nat)(f:Nat->List PC):Prop:=∀ i,i<n->isInt (f i)=true
theorem L_{l:List PC}(h:isInt l=true):l=[.lit (.int .i64 (intOf l))]:=by
 unfold isInt at h
 split at h
 ·rfl
 ·cases h
@[simp] theorem yU(n:Nat)(f:Nat->List PC):(UW n f).length=n:=by simp[UW]
theorem LC{n:Nat}{f:Nat->List PC}(h:aMt n f):∀ i,i<n->f i=D_ (UW n f) i:=fun i hi=>by
 unfold D_ UW;rw[kS n i _ hi];exact L_ (h i hi)
@[simp] theorem OX(n:Nat)(l:List Int):aMt n (D_ l):=fun _ _=>rfl
@[simp] theorem aRy(l:List Int):UW l.length (D_ l)=l:=by
 apply List.ext_getElem (by simp);intro i h1 h2;simp only[UW,List.getElem_map,List.getElem_range,D_,intOf];rw[zG,zH h2];rfl
theorem R.zt{C:Ctx}{n len:Nat}{f f':Nat->List PC}{xs:List Value}(h:R C (.sl n len f) xs)(he:∀ i,i<len->f i=f' i):R C (.sl n len f') xs:=by
 cases h with
 |sl h1 h2 h3=>exact .sl h1 h2 (fun i hi=>by rw[<-he i hi];exact h3 i hi)
theorem gQ.args{P:Program}{I:World->Prop}{f:Nat}{new:Bool}{args args':List PV}{res:PV}(h:gQ P I f new args' res)(hv:∀ C vs,mg C args vs->mg C args' vs):gQ P I f new args res:=
 fun w ok0 vs hI hV=>h w ok0 vs hI (hv _ vs hV)
theorem gU(k:Nat)(h:k<9223372036854775807):IntKind.i64.wrap ((k:Int)+1)=((k+1:Nat):Int):=by
 rw[IntKind.wrap_i64];omega
theorem getD_mem{α:Type}{l:List α}{i:Nat}(h:i<l.length)(d:α):l.getD i d∈l:=by
 rw[zG,zH h];exact List.getElem_mem h
theorem aDe{l:List PC}(h:l.all (dG false)=true):∀ x∈l,dG false x=true:=fun x hx=>List.all_eq_true.1 h x hx
def KZ:List (Nat×Spec):=[(107,Zj),(24,Zj),(145,aAf),(39,aAf),(176,vZ),(156,vZ),
 (106,wB),(22,wB),(146,Zk),(40,Zk)
 ]
theorem bEm:∀ p∈KZ,aj Tryz.prog a_ p.1 p.2:=by
 intro p hp;simp only[KZ,List.mem_cons,List.not_mem_nil,or_false] at hp;rcases hp with rfl|rfl|rfl|rfl|rfl|rfl|rfl|rfl|rfl|rfl
 ·exact WA
 ·exact Ph
 ·exact Nu
 ·exact bCu
 ·exact bGp
 ·exact aYa
 ·exact bGr
 ·exact aYb
 ·exact Vm
 ·exact Pg
theorem aCY:lm Tryz.prog a_ (find KZ):=⟨bV bEm,fK⟩
end Pv
end Go.Proofs.YtndpjopifkbgiaaGreatDoor
