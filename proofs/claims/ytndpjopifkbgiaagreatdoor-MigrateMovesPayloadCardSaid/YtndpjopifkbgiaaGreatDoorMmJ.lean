/-
  Several texts in one file: each has its own heading below.
-/
import Derived.Test.YtndpjopifkbgiaaGreatDoorMmI
import Derived.Test.YtndpjopifkbgiaaGreatDoorMmA
import Derived.Scope
import Derived.WalkMore
import Derived.Test.YtndpjopifkbgiaaGreatDoorMmC
import Derived.Great.BuildSlice
import Derived.Deep.RegionLaw
import Derived.Deep.Cut
import Derived.Test.YtndpjopifkbgiaaGreatDoorMmD
set_option maxRecDepth 100000
set_option maxHeartbeats 4000000
namespace Go.Proofs.YtndpjopifkbgiaaGreatDoor
open Go.RowKit
namespace Pv
def px:Nat:=900001
def WZ(l:List PC):Option (List PC):=match l.all (fun c=>Nat.beq c.width 1) with
 |true=>some (l.map fun _=>.any)
 |false=>none
def FW:PC->Option PC
 |.lit v=>some (.lit v)
 |.bs n l=>some (.bs n l)
 |.sl n len f=>some (.sl n len f)
 |.fn f first cap=>match WZ first,WZ cap with
  |some a,some b=>some (.fn f a b)
  |_,_=>none
 |.pt _ _ _=>some .any
 |.any=>some .any
 |_=>none
def EL:List PC->Option (List PC)
 |[]=>some []
 |c::l=>match FW c,EL l with
  |some c,some l=>some (c::l)
  |_,_=>none
def EK:PV->Option PV
 |.w (.one c)=>match FW c with
  |some c=>some (.w (.one c))
  |none=>none
 |.w (.agg l)=>match EL l with
  |some l=>some (.w (.agg l))
  |none=>none
 |_=>none
def FY:List PV->Option (List PV)
 |[]=>some []
 |v::l=>match EK v,FY l with
  |some v,some l=>some (v::l)
  |_,_=>none
theorem aRu{C C':Ctx}:∀ {l:List PC} {xs:List Value},RL C l xs->(l.all fun c=>Nat.beq c.width 1)=true->RL C' (l.map fun _=>.any) xs
 |[],_,h,_=>by cases h;exact .nil
 | c::l,_,h,hc=>by
  rw[List.all_cons,Bool.and_eq_true] at hc
  cases h with
  |@cons _ _ _ xs ys h1 h2=>
   have hw:=h1.width;rw[gq hc.1] at hw
   match xs,hw,h1 with
   |[v],_,h1=>exact .cons (xs:=[v]) (.any (h1.ones v (by simp))) (aRu h2 hc.2)
theorem bFa{C C':Ctx}(hle:C.cold.Le C'){c c':PC}{xs:List Value}(h:FW c=some c')(hr:R C c xs):R C' c' xs:=by
 unfold FW at h
 split at h
 ·cases h;cases hr;exact .lit (by assumption)
 ·cases h;cases hr;exact .bs (by assumption)
 ·cases h;exact (aEq hr rfl).le hle
 ·rename_i f first cap;unfold WZ at h
  cases h1:first.all fun c=>Nat.beq c.width 1<;>cases h2:cap.all fun c=>Nat.beq c.width 1<;>simp only[h1,h2] at h<;>try (cases h;done)
  cases h
  cases hr with
  |fn h3 h4=>exact .fn (aRu h3 h1) (aRu h4 h2)
 ·cases h
  cases hr with
  |pt h1 _=>obtain⟨b,o,rfl⟩:=h1;exact .any rfl
 ·cases h;cases hr;exact .any (by assumption)
 ·cases h
theorem bEz{C C':Ctx}(hle:C.cold.Le C'):∀ {l l':List PC} {xs:List Value},EL l=some l'->RL C l xs->RL C' l' xs
 |[],_,_,h,hr=>by simp only[EL,Option.some.injEq] at h;subst h;cases hr;exact .nil
 |c::l,_,_,h,hr=>by
  unfold EL at h
  cases h1:FW c<;>cases h2:EL l<;>simp only[h1,h2] at h<;>try (cases h;done)
  cases h
  cases hr with
  |cons h3 h4=>exact .cons (bFa hle h1 h3) (bEz hle h2 h4)
theorem bEy{C C':Ctx}(hle:C.cold.Le C'){v v':PV}{x:Value}(h:EK v=some v')(hr:RV C v x):RV C' v' x:=by
 unfold EK at h
 split at h
 ·rename_i c
  cases h1:FW c<;>simp only[h1] at h<;>try (cases h;done)
  cases h;exact .w (.one (bFa hle h1 hr.inv))
 ·rename_i l
  cases h1:EL l<;>simp only[h1] at h<;>try (cases h;done)
  cases h
  cases hr with
  |w hr=>cases hr with
   |agg hr=>exact .w (.agg (bEz hle h1 hr))
 ·cases h
theorem yS{C C':Ctx}(hle:C.cold.Le C'):∀ {vs vs':List PV} {l:List Value},FY vs=some vs'->mi C vs l->mi C' vs' l
 |[],_,[],h,_=>by simp only[FY,Option.some.injEq] at h;subst h;exact trivial
 |[],_,_::_,_,h=>h.elim
 |_::_,_,[],_,h=>h.elim
 |v::vs,_,x::l,h,⟨h1,h2⟩=>by
  unfold FY at h
  cases h3:EK v<;>cases h4:FY vs<;>simp only[h3,h4] at h<;>try (cases h;done)
  cases h
  exact⟨bEy hle h3 h1,yS hle h4 h2⟩
section
variable {P:Program} {I:World->Prop} {A:jk} {s:St} {a:Act} {w:World} {env:Env} {F:Option Bool->PV->Wr->Prop}
theorem aEn{e:Env}:(aU A w env).cold.Le { w,ok:=(aU A w env).ok,env:=e }:=⟨Nat.le_refl _,fun b _ hb=>⟨hb,rfl⟩,fun _ _ _ h=>by cases h⟩
theorem wH(h:dw A s a w env){w':World}(_:w.heap.size<=w'.heap.size){new:Bool}:({ w:=w',ok:=nY w (aU A w env).ok new,env:=fun _=>none }:Ctx).Le (aU A w' env):=
 ⟨
  Nat.le_refl _,fun b _ hb=>⟨(by
  rcases hb with⟨_,hb⟩|hb
  ·exact hb
  ·exact⟨.inr (Nat.le_trans h.gm.size hb),fun x ah hd he hbl=>by have:=(h.live x ah hd b he hbl).1;omega⟩),rfl⟩,fun _ _ _ h=>by cases h⟩
def vT (t:TypeId) (g:List PC->List PV->Option (Prop×List PC×PV)):Spec:=fun _ xs=>match xs with
 | .w (.one (.pt x ah off))::rest=>(match Nat.beq off 0,FY rest with
  | true,some ys=>.obj x fun gd vr ob=>jA gd (match Nat.beq ah vr,ob with
   |true,.box t' l=>(match Nat.beq t t',l.all (cZ false),g l ys with
    |true,true,some (p,l',r)=>.need p (.upd x vr (.box t l') (.ret r))
    |_,_,_=>.fail)
   |_,_=>.fail)
  |_,_=>.fail)
 |_=>.fail
theorem yB{f:Nat}{t:TypeId}{g:List PC->List PV->Option (Prop×List PC×PV)}(hent:∀ args w,(callFunc f args).run P w=.ok (.enter f args) w)
  (hg:∀ l ys p l' r,g l ys=some (p,l',r)->p->v_ P I f false [⟨px,t,l,l'⟩] (fun _=>none) none (fun _=>False) (.w (.one (.pt px 0 0))::ys) r):aj P I f (vT t g):=by
 refine⟨hent,fun A s a w env nm ul vs F h hI hv hk=>?_⟩
 unfold vT at hk
 split at hk
 ·rename_i x ah off rest
  cases hb:Nat.beq off 0<;>cases hr:FY rest<;>simp only[hb,hr] at hk<;>try exact hk.elim
  rename_i ys
  obtain rfl:=gq hb
  obtain⟨gd,vr,ob,hfo,hk⟩:=hk;have hk2:=dO hk;clear hk;obtain⟨hgt,hk⟩:=hk2;obtain⟨hd,he,hob⟩:=jJ h hfo hgt
  cases hb2:Nat.beq ah vr<;>cases ob<;>simp only[hb2] at hk<;>try exact hk.elim
  rename_i t' l
  obtain rfl:=gq hb2
  cases hb3:Nat.beq t t'<;>cases hc:l.all (cZ false)<;>cases hq:g l ys<;>simp only[hb3,hc,hq] at hk<;>try exact hk.elim
  rename_i q;obtain⟨p,l',r⟩:=q
  obtain rfl:=gq hb3
  obtain⟨hp,_,hF⟩:=hk
  match vs,hv with
  | v :: vs,⟨hv1,hv2⟩=>
   obtain⟨g0,rfl,rfl⟩:=hv1.A_ he;obtain⟨g1,cs,e1,hB,hR⟩:=hob;cases e1;have hlt:g0<w.heap.size:=hB.lt
   have Aa:∀ b,SX [⟨px,t,l,l'⟩] (fun _=>g0) Dv.non b->b=g0:=by
    rintro b (h|⟨o,ho,rfl⟩)
    ·exact h.elim
    ·rfl
   have hSA:∀ b,SX [⟨px,t,l,l'⟩] (fun _=>g0) Dv.non b->b<A.w0.heap.size->A.S b:=fun b hb hlt0=>by
    rw[Aa b hb] at hlt0 ⊢;rcases (h.live x ah _ g0 he rfl).2 with h1|h1
    ·omega
    ·exact h1.1
   have hSg:SX [⟨px,t,l,l'⟩] (fun _=>g0) Dv.non g0:=.inr ⟨_,List.mem_cons_self,rfl⟩;have VR:¬(aU A w env).ok g0:=fun hok=>hok.2 x ah _ he rfl
   refine (hg l ys p l' r hq hp w (aU A w env).ok (gY g0::vs) (fun _=>g0) Dv.non (fun b=>b=g0)
    (fun w' hw=>hI.mem w' (h.gm.trans' hw (fun _ _ h=>h) (fun b hlt0 hb=>hSA b hb hlt0)))
    (fun b hb=>by rw[Aa b hb];exact⟨hlt,VR⟩) (n_.non P) (fun _ _ _ _ _ _ h=>h.elim) rfl (fun p hp=>by cases hp) (fun _=>⟨fun _ h=>h,fun _ _ _ h=>h⟩)
    (
     fun o ho=>by
     obtain rfl:o=⟨px,t,l,l'⟩:=by simpa using ho
     exact⟨rfl,cs,hB,iP hR hc⟩)
    (
     fun o ho o' ho' _=>by
     obtain rfl:o=⟨px,t,l,l'⟩:=by simpa using ho
     obtain rfl:o'=⟨px,t,l,l'⟩:=by simpa using ho'
     rfl)
    ⟨.w (.one (.pt ⟨g0,0,rfl⟩ ⟨0,gY g0,rfl,Nat.le_refl _,fun _=>⟨g0,rfl,rfl⟩⟩)),yS aEn hr hv2⟩).mono ?_
   rintro e w' ⟨hw,⟨val,rfl,hres,hbx,_⟩|⟨chain,l2,rfl,h1,_⟩⟩
   ·obtain⟨cs',hB',hR'⟩:=hbx _ List.mem_cons_self
    obtain⟨h1,h2⟩:=h.upd (w':=w') x none ah (gY g0) (.box t l') (hw.mono fun b _ hb=>⟨ah,_,he,by rw[Aa b hb];rfl⟩) (fun v hd e=>by rw[he] at e;cases e;exact .inr ⟨rfl,rfl⟩)
     (fun b hb=>by cases hb;exact⟨Nat.lt_of_lt_of_le hlt hw.size,.inr ⟨ah,_,he,rfl⟩⟩)
     (
      fun hle _=>⟨g0,cs',rfl,hB',(hR'.le (wH h hw.size)).le ⟨Nat.le_refl _,fun b _ hb=>⟨⟨hb.1,fun y v2 hd2 hy=>by
      by_cases hyx:y=x
      ·subst hyx;have hy':ng env y ah (gY g0) y=some (v2,hd2):=hy;rw[eH] at hy'
       cases hy'
       exact hb.2 y ah _ he
      ·have hy':ng env x ah (gY g0) y=some (v2,hd2):=hy;rw[iH hyx] at hy'
       exact hb.2 y v2 hd2 hy'⟩,rfl⟩,fun y v2 hd2 hy=>by
      by_cases hyx:y=x
      ·subst hyx;have hy':env y=some (v2,hd2):=hy;rw[he] at hy'
       cases hy'
       exact⟨ah,_,eH _ _ _ _,Nat.le_refl _,fun _=>rfl⟩
      ·exact⟨v2,hd2,(iH hyx).trans hy,Nat.le_refl _,fun _=>rfl⟩⟩⟩)
    exact .inl ⟨r,_,val,_,rfl,hF,h1,(hres.le (wH h hw.size)).le ⟨Nat.le_refl _,fun b _ hb=>⟨⟨hb.1,fun y v2 hd2 hy=>by
      by_cases hyx:y=x
      ·subst hyx;have hy':ng env y ah (gY g0) y=some (v2,hd2):=hy;rw[eH] at hy'
       cases hy'
       exact hb.2 y ah _ he
      ·have hy':ng env x ah (gY g0) y=some (v2,hd2):=hy;rw[iH hyx] at hy'
       exact hb.2 y v2 hd2 hy'⟩,rfl⟩,fun y v2 hd2 hy=>by
      by_cases hyx:y=x
      ·subst hyx;have hy':env y=some (v2,hd2):=hy;rw[he] at hy'
       cases hy'
       exact⟨ah,_,eH _ _ _ _,Nat.le_refl _,fun _=>rfl⟩
      ·exact⟨v2,hd2,(iH hyx).trans hy,Nat.le_refl _,fun _=>rfl⟩⟩⟩
   ·exact h1.elim
 ·exact hk.elim
def aKa (hist:(List Acc->Option je)->List Acc->List PV->List Acc) (res:(List Acc->Option je)->List Acc->List PV->Option (Prop×PV)):Spec:=fun _ xs=>match xs with
 | .w (.one .dv)::rest=>(match FY rest with
  | some ys=>.obj dx fun g vr ob=>jA g (match Nat.beq vr 0,ob with
   |true,.dev O d_ l=>(match res O l ys with
    |some (p,r)=>.need p (.need (∀ h,l <+: h->h <+: hist O l ys->O h=none->d_ h) (.upd dx 0 (.dev O d_ (hist O l ys)) (.ret r)))
    |none=>.fail)
   |_,_=>.fail)
  |none=>.fail)
 |_=>.fail
theorem aHk{f:Nat}{hist:(List Acc->Option je)->List Acc->List PV->List Acc}{res:(List Acc->Option je)->List Acc->List PV->Option (Prop×PV)}(hent:∀ args w,(callFunc f args).run P w=.ok (.enter f args) w)
  (hg:∀ O l ys p r,res O l ys=some (p,r)->p->v_ P I f false [] O (some (l,hist O l ys)) (fun h=>l <+: h/\h <+: hist O l ys) (.w (.one .dv)::ys) r):aj P I f (aKa hist res):=by
 refine⟨hent,fun A s a w env nm ul vs F h hI hv hk=>?_⟩
 unfold aKa at hk
 split at hk
 ·rename_i rest
  cases hr:FY rest with
  |none=>rw[hr] at hk;exact hk.elim
  | some ys=>
   rw[hr] at hk;obtain⟨gd,vr,ob,hfo,hk⟩:=hk;have hk2:=dO hk;clear hk;obtain⟨hgt,hk⟩:=hk2
   cases hb2:Nat.beq vr 0<;>cases ob<;>simp only[hb2] at hk<;>try exact hk.elim
   rename_i O d_ l
   obtain rfl:=gq hb2
   cases hq:res O l ys with
   |none=>rw[hq] at hk;exact hk.elim
   | some q=>
    obtain⟨p,r⟩:=q;rw[hq] at hk;obtain⟨hp,hst,_,hF⟩:=hk;obtain⟨hO,hstp,hinv⟩:=h.dev gd 0 O d_ l hfo hgt;subst hO hstp;have hext:=hI.dvh _ _ _ hinv;obtain⟨hd,he,_⟩:=h.jf dx gd 0 _ hfo
    obtain rfl:=(h.jo dx _ hext).2.now he
    match vs,hv with
    | v::vs,⟨hv1,hv2⟩=>
     have hva:v=A.dv.hd:=hv1.MH.now he
     have Aa:∀ b,SX [] (fun _=>0) A.dv b->A.dv.S b:=by
      rintro b (h|⟨o,ho,rfl⟩)
      ·exact h
      ·cases ho
     refine (hg A.dv.O l ys p r hq hp w (aU A w env).ok (v::vs) (fun _=>0) A.dv (ownB A env)
      (fun w' hw=>hI.mem w' (h.gm.trans' hw (fun _ _ h=>h) (fun b _ hb=>hI.sub b (Aa b hb))))
      (
       fun b hb=>by
       have h1:=hI.old b (hI.sub b (Aa b hb))
       refine⟨Nat.lt_of_lt_of_le h1.1 h.gm.size,fun hok=>?_⟩
       rcases hok.1 with h2|h2
       ·exact h1.2 h2
       ·omega)
      (hI.step.mono fun l2 h1 h2=>hst l2 h1.1 h1.2 h2) hI.BR rfl (fun p hp=>by cases hp;exact hinv) (fun h=>by cases h) (fun o ho=>by cases ho) (fun o ho=>by cases ho)
      ⟨.w (.one (.dv (by rw[hva];exact A.dv.one) ⟨0,A.dv.hd,rfl,Nat.le_refl _,fun _=>hva⟩)),yS aEn hr hv2⟩).mono ?_
     rintro e w' ⟨hw,⟨val,rfl,hres,_,hdv⟩|⟨chain,l2,rfl,h1,h2,h3⟩⟩
     ·obtain⟨h4,h5⟩:=h.asked (w':=w') hfo hgt hI.sub (fun b hb=>hI.old b (hI.sub b hb)) (hw.mono fun b _ hb=>Aa b hb) (hdv _ rfl);exact .inl ⟨r,_,val,env,rfl,hF,h4,hres.le (wH h hw.size)⟩
     ·exact .inr ⟨chain,rfl,l2,hst l2 h1.1 h1.2 h2,h2,hI.BR _ _ _ _ _ _ h3 (dm.refl _ _) (fun b hb=>.inl hb),h.gm.trans (hw.mono fun b _ hb=>hI.sub b (Aa b hb))⟩
 ·exact hk.elim
end
end Pv
namespace Pv
def EG(g:Nat)(hd:Value):Nat->Option Value:=fun x=>match Nat.beq x px,Nat.beq x dx with
 |true,_=>some (gY g)
 |false,true=>some hd
 |false,false=>none
def BI(g:Nat)(hd:Value):Env:=fun x=>(EG g hd x).map fun h=>(0,h)
def Df(hd:Value):Env:=fun x=>match Nat.beq x dx with
 |true=>some (0,hd)
 |false=>none
theorem aHg{g:Nat}{hd:Value}{x:Nat}{h:Value}(e:EG g hd x=some h):(x=px/\h=gY g)\/(x=dx/\h=hd):=by
 unfold EG at e
 split at e
 ·rename_i h1;cases e;exact .inl ⟨gq h1,rfl⟩
 ·rename_i h1 h2;cases e;exact .inr ⟨gq h2,rfl⟩
 ·cases e
theorem qI{g:Nat}{hd:Value}{x ah:Nat}{h:Value}(e:BI g hd x=some (ah,h)):ah=0/\((x=px/\h=gY g)\/(x=dx/\h=hd)):=by
 unfold BI at e
 cases hx:EG g hd x with
 |none=>rw[hx] at e;cases e
 |some h2=>rw[hx] at e;cases e;exact⟨rfl,aHg hx⟩
theorem aHh{hd:Value}{x ah:Nat}{h:Value}(e:Df hd x=some (ah,h)):x=dx/\ah=0/\h=hd:=by
 unfold Df at e
 split at e
 ·rename_i h1;cases e;exact⟨gq h1,rfl,rfl⟩
 ·cases e
def SD(g:Nat)(D:Dv):Nat->Prop:=fun b=>D.S b\/b=g
def XA(P:Program)(I:World->Prop)(f:Nat)(t:TypeId)(l l':List PC)(O:List Acc->Option je)(h0 h1:List Acc)(d_:List Acc->Prop)(args:List PV)(res:PV):Prop:=
 ∀ (w:World) (ok0:Nat->Prop) (vs:List Value) (g:Nat) (D:Dv) (X0:Nat->Prop),
  (∀ w',dm (SD g D) w w'->I w')->(∀ b,SD g D b->b<w.heap.size/\¬ok0 b)->n_ P D d_->(∀ l X Y w w' chain,D.pan l X w chain->dm X w w'->(∀ b,Y b->X b)->D.pan l Y w' chain)->D.O=O ->
  D.inv h0 X0 w->X0 g->(∃ cs,au w g t cs/\RL { w,ok:=ok0,env:=Df D.hd } (.dv::l) cs.toList) ->
  mi { w,ok:=ok0,env:=BI g D.hd } args vs ->
  Calls P f vs.toArray w fun e w'=>dm (SD g D) w w' /\
   ((∃ val,e=.returned val/\RV { w:=w',ok:=nY w ok0 false,env:=fun _=>none } res val/\(∃ cs,au w' g t cs/\RL { w:=w',ok:=nY w ok0 false,env:=Df D.hd } (.dv::l') cs.toList)/\D.inv h1 X0 w')
   \/ (∃ chain k,e=.panicked chain/\d_ k/\O k=none/\D.pan k X0 w' chain))
def aSN(t:TypeId)(l':List PC)(O:List Acc->Option je)(h1:List Acc)(d_:List Acc->Prop)(s:St):Prop:=
 (∃ l2,find s.o px=some (none,0,.box t (.dv::l2))/\SE s false l2 l')/\find s.o dx=some (none,0,.dev O d_ h1)
def RQD(P:Program)(A:jk)(fn:Func)(t:TypeId)(l':List PC)(O:List Acc->Option je)(h1:List Acc)(d_:List Acc->Prop)(res:PV):Exit->Act->World->Prop
 |.panic chain,a,w=>a.defers=[]/\C9 A chain w
 |e,a,w=>(e=.normal\/e=.ret)/\∃ s,(Ru P fn false res s/\aSN t l' O h1 d_ s)/\o6 A s a w
theorem kM{P:Program}{I:World->Prop}{f:Nat}{fn:Func}{c:Code}{t:TypeId}{l l':List PC}{O:List Acc->Option je}{h0 h1:List Acc}{d_:List Acc->Prop}{args:List PV}{res:PV}(hf:P.funcs[f]?=some fn)(hb:fn.body=some c)(hnb:Nat.ble args.length fn.ntmps=true)
  (hT:∀ A:jk,A.nt=fn.ntmps->lw P I A->iw P A ⟨slots 0 args,[(dx,none,0,.dev O d_ h0),(px,none,0,.box t (.dv::l))]⟩ c (RQD P A fn t l' O h1 d_ res)):XA P I f t l l' O h0 h1 d_ args res:=by
 intro w ok0 vs g D X0 hM hold hst AV hO hdv hXg hob hv;have hlen:=hv.length;have hn:=Nat.le_of_ble_eq_true hnb;subst hO
 let A:jk:=⟨w,SD g D,ok0,fn.ntmps,EG g D.hd,D,d_,X0,[]⟩
 have hA:lw P I A:=⟨hM,fun b h=>.inl h,hold,hst,fun l X w' hi=>rfl,AV⟩;have hgo:g<w.heap.size/\¬ok0 g:=hold g (.inr rfl)
 have hown:∀ b,ownB A (BI g D.hd) b->X0 b:=by
  rintro b (h|⟨x,ah,hd,h1,h2⟩)
  ·exact h
  ·rcases (qI h1).2 with⟨_,rfl⟩|⟨_,rfl⟩
   ·rw[gG h2];exact hXg
   ·rw[D.oz] at h2;cases h2
 have aBJ:∀ {b x ah hd},BI g D.hd x=some (ah,hd)->hblk hd=some b->b=g:=by
  intro b x ah hd h1 h2;rcases (qI h1).2 with⟨_,rfl⟩|⟨_,rfl⟩
  ·exact gG h2
  ·rw[D.oz] at h2;cases h2
 have hle0:∀ {E:Env},(∀ x ah hd,E x=some (ah,hd)->∃ uh,BI g D.hd x=some (uh,hd)/\ah<=uh/\(ah=uh->hd=hd))->({ w,ok:=ok0,env:=E }:Ctx).Le (aU A w (BI g D.hd)):=fun hE=>
  ⟨
   Nat.le_refl _,fun b hlt ho=>⟨⟨.inl ho,fun x ah hd hx hb=>hgo.2 (aBJ hx hb ▸ ho)⟩,rfl⟩,fun x ah hd h=>by
   obtain⟨uh,h1,h2,_⟩:=hE x ah hd h
   exact⟨uh,hd,h1,h2,fun _=>rfl⟩⟩
 have aKX:({ w,ok:=ok0,env:=Df D.hd }:Ctx).Le (aU A w (BI g D.hd)):=hle0 fun x ah hd h=>by
  obtain⟨rfl,rfl,rfl⟩:=aHh h
  exact⟨0,rfl,Nat.le_refl _,fun _=>rfl⟩
 have hg:o6 A ⟨slots 0 args,[(dx,none,0,.dev D.O d_ h0),(px,none,0,.box t (.dv::l))]⟩ { tmps:=vs.toArray++Array.replicate (fn.ntmps-vs.toArray.size) undef,defers:=[] } w:=by
  refine⟨BI g D.hd,{ gm:=dm.refl _ _,size:=?_,dom:=fun x hx=>?_,jf:=fun x g' ah o h=>?_,live:=fun x ah hd b h hb=>?_,inj:=fun x y v1 h1 v2 h2 b hx hy hb1 hb2=>?_,tmps:=fun t g pv h hgt=>?_,defers:=rfl,und:=fun t pv h=>(by obtain⟨k,_,h2⟩:=kN h;cases h2),jo:=fun x hd hx=>?_,dev:=fun g' ah O CQ l h _=>?_ }⟩
  ·simp[A];omega
  ·by_cases h1:dx=x
   ·subst h1;rw[aI] at hx;cases hx
   ·rw[aJ _ _ h1] at hx
    by_cases h2:px=x
    ·subst h2;rw[aI] at hx;cases hx
    ·unfold BI EG
     have b1:Nat.beq x px=false:=by
      cases hb:Nat.beq x px with
      |false=>rfl
      |true=>exact absurd (gq hb).symm h2
     have b2:Nat.beq x dx=false:=by
      cases hb:Nat.beq x dx with
      |false=>rfl
      |true=>exact absurd (gq hb).symm h1
     rw[b1,b2];rfl
  ·by_cases h1:dx=x
   ·subst h1;rw[aI] at h;cases h
    exact⟨D.hd,rfl,fun _=>trivial⟩
   ·rw[aJ _ _ h1] at h
    by_cases h2:px=x
    ·subst h2;rw[aI] at h;cases h;obtain⟨cs,h3,h4⟩:=hob
     exact⟨gY g,rfl,fun _=>⟨g,cs,rfl,h3,h4.le aKX⟩⟩
    ·rw[aJ _ _ h2] at h;cases h
  ·have:=aBJ h hb;subst this
   refine⟨hgo.1,.inr ⟨.inr rfl,?_⟩⟩
   rcases (qI h).2 with⟨rfl,_⟩|⟨rfl,rfl⟩
   ·rfl
   ·rw[D.oz] at hb;cases hb
  ·rcases (qI hx).2 with⟨rfl,_⟩|⟨_,rfl⟩
   ·rcases (qI hy).2 with⟨rfl,_⟩|⟨_,rfl⟩
    ·rfl
    ·rw[D.oz] at hb2;cases hb2
   ·rw[D.oz] at hb1;cases hb1
  ·obtain⟨k,h1,h2⟩:=lV h;obtain⟨v,h3,h4⟩:=hv.at h2;rw[Nat.zero_add] at h1;subst h1;have hk:t<vs.length:=(List.getElem?_eq_some_iff.1 h3).1
   refine⟨v,?_,h4.le (hle0 fun x ah hd h=>⟨ah,h,Nat.le_refl _,fun _=>rfl⟩)⟩
   rw[Array.getElem?_append_left (by simpa using hk)]
   simpa using h3
  ·refine⟨?_,0,hd,?_,Nat.le_refl _,fun _=>rfl⟩
   ·rcases aHg hx with⟨rfl,_⟩|⟨rfl,_⟩<;>rfl
   ·show BI g D.hd x=some (0,hd);unfold BI;have:EG g D.hd x=some hd:=hx;rw[this];rfl
  ·rw[aI] at h;cases h
   exact⟨rfl,rfl,D.grow _ _ _ _ _ hdv (dm.refl _ _) (fun b hb=>.inl (hown b hb))⟩
 refine calls_of_wp hf hb (wp_mono (hT A rfl hA _ w hg (fun _ _ _ hd h=>⟨hd,h⟩)) (fun e a' w' he=>?_))
 cases e with
 |panic chain=>
  obtain⟨hd,l,h1,h2,h3,h4⟩:=he
  exact⟨hd,h4,.inr ⟨chain,l,rfl,h1,h2,h3⟩⟩
 |exit id=>obtain⟨h1|h1,_⟩:=he<;>cases h1
 |goto _=>obtain⟨h1|h1,_⟩:=he<;>cases h1
 |outgrown=>obtain⟨h1|h1,_⟩:=he<;>cases h1
 | normal|ret=>
  obtain⟨_,s,⟨⟨v,h2,h3⟩,⟨l2,hE1,hx⟩,hE2⟩,env,hE⟩:=he;obtain⟨v',val,h5,h6,h7,_⟩:=qV hE h2;subst h7
  have hbox:env px=some (0,gY g):=by
   obtain⟨hd,h8,_⟩:=hE.jf px none 0 _ hE1;have:=(hE.jo px (gY g) rfl).2.now h8;rw[h8,this]
  have aLB:env dx=some (0,D.hd):=by
   obtain⟨hd,h8,_⟩:=hE.jf dx none 0 _ hE2;have:=(hE.jo dx D.hd rfl).2.now h8;rw[h8,this]
  obtain⟨_,_,hi⟩:=hE.dev none 0 _ _ _ hE2 trivial
  have hS:Bd A s env:=by
   intro x g' ah e n len f0 hd b hfx hex hbx hs;rcases hs with hs|hs
   ·exact D.notS _ _ _ _ hi (.inr ⟨x,ah,hd,hex,hbx⟩) hs
   ·have hs':b=g:=hs;subst hs';have:=hE.inj x px ah hd 0 _ b hex hbox hbx rfl;subst this;rw[hE1] at hfx;cases hfx
  have hres:=aNv hE hS h3 h6
  have this:a'.defers=[]/\∃ v,(results fn a'.tmps).run P w'=.ok v w'/\(dm (SD g D) w w' /\
   ((∃ val,Ending.returned v=.returned val/\RV { w:=w',ok:=nY w ok0 false,env:=fun _=>none } res val/\(∃ cs,au w' g t cs/\RL { w:=w',ok:=nY w ok0 false,env:=Df D.hd } (.dv::l') cs.toList)/\D.inv h1 X0 w')
   \/ (∃ chain l,Ending.returned v=.panicked chain/\d_ l/\D.O l=none/\D.pan l X0 w' chain))):=by
   refine⟨hE.defers,val,h5,hE.gm,.inl ⟨val,rfl,hres,?_,D.grow _ _ _ _ _ hi (dm.refl _ _) (fun b hb=>.inl (.inl hb))⟩⟩
   obtain⟨hd,h8,h9⟩:=hE.jf px none 0 _ hE1;obtain⟨g1,cs,e1,h10,h11⟩:=h9 trivial;rw[hbox] at h8;cases h8;cases e1
   refine⟨cs,h10,?_⟩
   generalize cs.toList=zs at h11 ⊢
   cases h11 with
   | cons k1 k2=>
    refine .cons ?_ ((aNw hE hS hx k2).le ⟨Nat.le_refl _,fun b _ hb=>⟨hb,rfl⟩,fun _ _ _ h=>by cases h⟩)
    cases k1 with
    |dv j1 j2=>
     have e3:=j2.now aLB;subst e3;exact .dv j1 ⟨0,D.hd,rfl,Nat.le_refl _,fun _=>rfl⟩
  exact this
section
variable {P:Program} {I:World->Prop} {A:jk} {s:St} {a:Act} {w:World} {env:Env} {F:Option Bool->PV->Wr->Prop}
theorem dw.NY(h:dw A s a w env){w':World}{O:List Acc->Option je}{d_:List Acc->Prop}{l l':List Acc}{gd g':Option Bool}{x ah g0 t:Nat}{p p':List PC}(hf:find s.o dx=some (gd,0,.dev O d_ l))(hgd:gT gd)(sub:∀ b,A.dv.S b->A.S b)(old:∀ b,A.dv.S b->b<A.w0.heap.size/\¬A.ok0 b)
  (hfx:find s.o x=some (g',ah,.box t p)) (he:env x=some (ah,gY g0)) (hw:dm (fun b=>A.dv.S b\/b=g0) w w') (hi:A.dv.inv l' (ownB A env) w') (hob:(aU A w env).Le (aU A w' env)->∃ cs,au w' g0 t cs/\RL (aU A w' env) p' cs.toList) :
  dw A { s with o:=(dx,none,0,.dev O d_ l')::(x,none,ah,.box t p')::s.o } a w' env/\(aU A w env).Le (aU A w' env):=by
 obtain⟨hO,hstp,hinv⟩:=h.dev gd 0 O d_ l hf hgd
 have hxd:x≠dx:=fun e=>by subst e;rw[hf] at hfx;cases hfx
 have hle:(aU A w env).Le (aU A w' env):=⟨hw.size,fun b hlt hok=>⟨hok,hw.block b hlt (fun hs=>by
  rcases hs with hs|rfl
  ·rcases hok.1 with h1|h1
   ·exact (old b hs).2 h1
   ·have:=(old b hs).1;omega
  ·exact hok.2 x ah _ he rfl)⟩,fun x ah hd hx=>⟨ah,hd,hx,Nat.le_refl _,fun _=>rfl⟩⟩
 have hg0:=h.live x ah _ g0 he rfl
 refine⟨{ gm:=h.gm.trans' hw (fun _ _ h=>h) (fun b hlt hs=>?_),size:=h.size,dom:=fun y hy=>?_,jf:=fun y g2 Bj o hf'=>?_,live:=fun y ah hd b h1 h2=>⟨Nat.lt_of_lt_of_le (h.live y ah hd b h1 h2).1 hw.size,(h.live y ah hd b h1 h2).2⟩,inj:=h.inj,tmps:=fun t g pv hf hg=>let ⟨v,h1,h2⟩:=h.tmps t g pv hf hg;⟨v,h1,h2.le hle⟩,defers:=h.defers,und:=h.und,jo:=fun y hd hy=>⟨(h.jo y hd hy).1,(h.jo y hd hy).2.le hle⟩,dev:=fun g2 Bj O2 ZP l2 hf' hg2=>?_ },hle⟩
 ·rcases hs with hs|rfl
  ·exact sub b hs
  ·rcases hg0.2 with h1|h1
   ·omega
   ·exact h1.1
 ·by_cases h1:dx=y
  ·subst h1;rw[aI] at hy;cases hy
  ·rw[aJ _ _ h1] at hy
   by_cases h2:x=y
   ·subst h2;rw[aI] at hy;cases hy
   ·rw[aJ _ _ h2] at hy;exact h.dom y hy
 ·by_cases h1:dx=y
  ·subst h1;rw[aI] at hf'
   cases hf'
   obtain⟨hd,h1,_⟩:=h.jf dx gd 0 _ hf
   exact⟨hd,h1,fun _=>trivial⟩
  ·rw[aJ _ _ h1] at hf'
   by_cases h2:x=y
   ·subst h2;rw[aI] at hf'
    cases hf'
    obtain⟨cs,h3,h4⟩:=hob hle
    exact⟨gY g0,he,fun _=>⟨g0,cs,rfl,h3,h4⟩⟩
   ·rw[aJ _ _ h2] at hf';obtain⟨hd,h3,h4⟩:=h.jf y g2 Bj o hf'
    exact⟨hd,h3,fun hg=>(h4 hg).zn hle (fun b hbl hlt=>hw.block b hlt (fun hs=>by
     rcases hs with hs|rfl
     ·exact A.dv.notS _ _ _ _ hinv (.inr ⟨y,Bj,hd,h3,hbl⟩) hs
     ·exact h2 (h.inj x y ah _ Bj hd b he h3 rfl hbl)))⟩
 ·rw[aI] at hf'
  cases hf'
  exact⟨hO,hstp,hi⟩
theorem dw.FO{l:List Acc}{O:List Acc->Option je}{d_:List Acc->Prop}{x ah:Nat}{gd Yg:Option Bool}{o:o_}{od:o_}(h:dw A { s with o:=(dx,none,0,.dev O d_ l)::(x,none,ah,o)::s.o } a w env)(hf:find s.o x=some (gd,ah,o))(_:find s.o dx=some (Yg,0,od))(_:gT gd):dw A { s with o:=(dx,none,0,.dev O d_ l)::s.o } a w env:=by
 have key:∀ y g v ob,find ((dx,none,0,o_.dev O d_ l)::s.o) y=some (g,v,ob)->∃ g2,find ((dx,none,0,o_.dev O d_ l)::(x,none,ah,o)::s.o) y=some (g2,v,ob)/\(gT g->gT g2):=by
  intro y g v ob hy
  by_cases h1:dx=y
  ·subst h1;rw[aI] at hy ⊢
   exact⟨g,hy,id⟩
  ·rw[aJ _ _ h1] at hy ⊢
   by_cases h2:x=y
   ·subst h2;rw[hf] at hy;cases hy;rw[aI]
    exact⟨none,rfl,fun _=>trivial⟩
   ·rw[aJ _ _ h2]
    exact⟨g,hy,id⟩
 refine { gm:=h.gm,size:=h.size,dom:=fun y hy=>h.dom y ?_,jf:=fun y g v ob hy=>?_,live:=h.live,inj:=h.inj,tmps:=h.tmps,defers:=h.defers,und:=h.und,jo:=h.jo,dev:=fun g v O2 ZP l2 hy hg2=>?_ }
 ·by_cases h1:dx=y
  ·subst h1;rw[aI] at hy;cases hy
  ·rw[aJ _ _ h1] at hy ⊢
   by_cases h2:x=y
   ·subst h2;rw[hf] at hy;cases hy
   ·rw[aJ _ _ h2];exact hy
 ·obtain⟨g2,h1,h2⟩:=key y g v ob hy;obtain⟨hd,h3,h4⟩:=h.jf y g2 v ob h1
  exact⟨hd,h3,fun hg=>h4 (h2 hg)⟩
 ·obtain⟨g2,h1,h2⟩:=key dx g v _ hy;exact h.dev g2 v O2 ZP l2 h1 (h2 hg2)
def aQh (t:TypeId) (hist:(List Acc->Option je)->List Acc->List PC->List PV->List Acc) (g:(List Acc->Option je)->List Acc->List PC->List PV->Option (Prop×PV)):Spec:=fun _ xs=>match xs with
 | .w (.one (.pt x ah off))::rest=>(match Nat.beq off 0,FY rest with
  | true,some ys=>.obj x fun gd vr ob=>jA gd (match Nat.beq ah vr,ob with
   | true,.box t' (.dv::l)=>(match Nat.beq t t',l.all (cZ false) with
    | true,true=>.obj dx fun Yg U3 ob2=>jA Yg (match Nat.beq U3 0,ob2 with
     |true,.dev O d_ k=>(match g O k l ys with
      |some (p,r)=>.need p (.need (∀ h,k <+: h->h <+: hist O k l ys->O h=none->d_ h) (.upd dx 0 (.dev O d_ (hist O k l ys)) (.ret r)))
      |none=>.fail)
     |_,_=>.fail)
    |_,_=>.fail)
   |_,_=>.fail)
  |_,_=>.fail)
 |_=>.fail
theorem aWe {f:Nat} {t:TypeId} {hist:(List Acc->Option je)->List Acc->List PC->List PV->List Acc} {g:(List Acc->Option je)->List Acc->List PC->List PV->Option (Prop×PV)} (hent:∀ args w,(callFunc f args).run P w=.ok (.enter f args) w)
  (hg:∀ O k l ys p r,g O k l ys=some (p,r)->p->XA P I f t l l O k (hist O k l ys) (fun h=>k <+: h/\h <+: hist O k l ys) (.w (.one (.pt px 0 0))::ys) r):aj P I f (aQh t hist g):=by
 refine⟨hent,fun A s a w env nm ul vs F h hI hv hk=>?_⟩
 unfold aQh at hk
 split at hk
 ·rename_i x ah off rest
  cases hb:Nat.beq off 0<;>cases hr:FY rest<;>simp only[hb,hr] at hk<;>try exact hk.elim
  rename_i ys
  obtain rfl:=gq hb
  obtain⟨gd,vr,ob,hfo,hk⟩:=hk;have hk2:=dO hk;clear hk;obtain⟨hgt,hk⟩:=hk2;obtain⟨hd,he,hob⟩:=jJ h hfo hgt
  cases hb2:Nat.beq ah vr<;>simp only[hb2] at hk<;>try exact hk.elim
  obtain rfl:=gq hb2
  split at hk
  ·rename_i t' l _
   cases hb3:Nat.beq t t'<;>cases hc:l.all (cZ false)<;>simp only[hb3,hc] at hk<;>try exact hk.elim
   obtain rfl:=gq hb3
   obtain⟨Yg,U3,ob2,QY,hk⟩:=hk;have hk2:=dO hk;clear hk;obtain⟨hgt2,hk⟩:=hk2
   cases hb4:Nat.beq U3 0<;>cases ob2<;>simp only[hb4] at hk<;>try exact hk.elim
   rename_i O d_ k
   obtain rfl:=gq hb4
   cases hq:g O k l ys with
   |none=>rw[hq] at hk;exact hk.elim
   | some q=>
    obtain⟨p,r⟩:=q;rw[hq] at hk;obtain⟨hp,hst,_,hF⟩:=hk;obtain⟨hO,hstp,hinv⟩:=h.dev Yg 0 O d_ k QY hgt2;subst hO hstp;have hext:=hI.dvh _ _ _ hinv;obtain⟨hdd,hed,_⟩:=h.jf dx Yg 0 _ QY
    obtain rfl:=(h.jo dx _ hext).2.now hed
    match vs,hv with
    | v :: vs,⟨hv1,hv2⟩=>
     obtain⟨g0,rfl,rfl⟩:=hv1.A_ he;obtain⟨g1,cs,e1,hB,hR⟩:=hob;cases e1;have hlt:g0<w.heap.size:=hB.lt;have hg0:=h.live x ah _ g0 he rfl;have VR:¬(aU A w env).ok g0:=fun hok=>hok.2 x ah _ he rfl
     have qy:RL { w:=w,ok:=(aU A w env).ok,env:=Df A.dv.hd } (.dv::l) cs.toList:=by
      generalize cs.toList=zs at hR ⊢
      cases hR with
      | cons k1 k2=>
       refine .cons ?_ ((iP k2 hc).le ⟨Nat.le_refl _,fun b _ hb=>⟨hb,rfl⟩,fun _ _ _ h=>by cases h⟩)
       cases k1 with
       |dv j1 j2=>
        have e3:=j2.now hed;subst e3;exact .dv j1 ⟨0,A.dv.hd,rfl,Nat.le_refl _,fun _=>rfl⟩
     refine (hg A.dv.O k l ys p r hq hp w (aU A w env).ok (gY g0::vs) g0 A.dv (ownB A env)
      (
       fun w' hw=>hI.mem w' (h.gm.trans' hw (fun _ _ h=>h) (fun b hlt0 hb=>by
       rcases hb with hb|rfl
       ·exact hI.sub b hb
       ·rcases hg0.2 with h1|h1
        ·omega
        ·exact h1.1)))
      (
       fun b hb=>by
       rcases hb with hb|rfl
       ·have h1:=hI.old b (hI.sub b hb)
        refine⟨Nat.lt_of_lt_of_le h1.1 h.gm.size,fun hok=>?_⟩
        rcases hok.1 with h2|h2
        ·exact h1.2 h2
        ·omega
       ·exact⟨hlt,VR⟩)
      (hI.step.mono fun l2 h1 h2=>hst l2 h1.1 h1.2 h2) hI.BR rfl hinv (.inr ⟨x,ah,_,he,rfl⟩) ⟨cs,hB,qy⟩
      ⟨.w (.one (.pt ⟨g0,0,rfl⟩ ⟨0,gY g0,rfl,Nat.le_refl _,fun _=>⟨g0,rfl,rfl⟩⟩)),yS aEn hr hv2⟩).mono ?_
     rintro e w' ⟨hw,⟨val,rfl,hres,⟨cs',hB',hR'⟩,hdv⟩|⟨chain,l2,rfl,h1,h2,h3⟩⟩
     ·obtain⟨h4,h5⟩:=h.NY (w':=w') (p':=.dv::l) QY hgt2 hI.sub (fun b hb=>hI.old b (hI.sub b hb)) hfo he hw hdv (fun hle=>⟨cs',hB',by
       generalize cs'.toList=zs at hR' ⊢
       cases hR' with
       | cons k1 k2=>
        refine .cons ?_ (?_:RL _ _ _)
        ·cases k1 with
         |dv j1 j2=>
          have e3:=j2.now (show Df A.dv.hd dx=some (0,A.dv.hd) from rfl);subst e3;exact .dv j1 ⟨0,A.dv.hd,hed,Nat.le_refl _,fun _=>rfl⟩
        ·refine k2.le ⟨Nat.le_refl _,fun b hb hok=>⟨?_,rfl⟩,fun y v2 hd2 hy=>?_⟩
         ·rcases hok with⟨_,hok⟩|hok
          ·exact hok
          ·exact⟨.inr (Nat.le_trans h.gm.size hok),fun y v2 hd2 hy hbl=>by have:=(h.live y v2 hd2 b hy hbl).1;omega⟩
         ·obtain⟨rfl,rfl,rfl⟩:=aHh hy
          exact⟨0,_,hed,Nat.le_refl _,fun _=>rfl⟩⟩)
      exact .inl ⟨r,_,val,env,rfl,hF,h4.FO hfo QY hgt,hres.le (wH h hw.size)⟩
     ·refine .inr ⟨chain,rfl,l2,hst l2 h1.1 h1.2 h2,h2,hI.BR _ _ _ _ _ _ h3 (dm.refl _ _) (fun b hb=>.inl hb),h.gm.trans' hw (fun _ _ h=>h) (fun b hlt0 hb=>?_)⟩;rcases hb with hb|rfl
      ·exact hI.sub b hb
      ·rcases hg0.2 with h1|h1
       ·omega
       ·exact h1.1
  ·exact hk.elim
 ·exact hk.elim
end
end Pv
namespace Pv
section
variable {P:Program} {I:World->Prop} {A:jk} {s:St} {a:Act} {w w':World} {env:Env} {F:Option Bool->PV->Wr->Prop}
theorem dw.many(h:dw A s a w env)(wr:Wr)(hw:dm (fun b=>∃ p∈wr,∃ hd,env p.1=some (p.2.2.1,hd)/\hblk hd=some b) w w')
  (hwr:∀ p∈wr,p.2.1=none/\(∀ O d_ l,p.2.2.2≠.dev O d_ l)/\∃ hd,env p.1=some (p.2.2.1,hd)/\((aU A w env).Le (aU A w' env)->vM (aU A w' env) hd p.2.2.2)) :
  dw A { s with o:=wr++s.o } a w' env/\(aU A w env).Le (aU A w' env):=by
 have hle:(aU A w env).Le (aU A w' env):=⟨hw.size,fun b hlt hok=>⟨hok,hw.block b hlt (fun⟨p,_,hd,h1,h2⟩=>hok.2 _ _ _ h1 h2)⟩,fun x ah hd hx=>⟨ah,hd,hx,Nat.le_refl _,fun _=>rfl⟩⟩
 have hfind:∀ (l:Wr) x,(∃ p∈l,p.1=x/\find (l++s.o) x=some p.2)\/((∀ p∈l,p.1≠x)/\find (l++s.o) x=find s.o x):=by
  intro l x
  induction l with
  |nil=>exact .inr ⟨(fun p hp=>by cases hp),rfl⟩
  | cons p l ih=>
   by_cases hp:p.1=x
   ·exact .inl ⟨p,List.mem_cons_self,hp,by rw[<-hp];exact aI _ _ _⟩
   ·have e:find (p::l++s.o) x=find (l++s.o) x:=aJ _ _ hp;rcases ih with⟨q,h1,h2,h3⟩|⟨h1,h2⟩
    ·exact .inl ⟨q,List.mem_cons_of_mem _ h1,h2,e.trans h3⟩
    ·refine .inr ⟨fun q hq=>?_,e.trans h2⟩;rcases List.mem_cons.1 hq with rfl|hq
     ·exact hp
     ·exact h1 q hq
 refine⟨{ gm:=?_,size:=h.size,dom:=fun x hx=>?_,jf:=fun x g ah o hf=>?_,live:=fun x ah hd b h1 h2=>⟨Nat.lt_of_lt_of_le (h.live x ah hd b h1 h2).1 hw.size,(h.live x ah hd b h1 h2).2⟩,inj:=h.inj,tmps:=fun t g pv hf hg=>let ⟨v,h1,h2⟩:=h.tmps t g pv hf hg;⟨v,h1,h2.le hle⟩,defers:=h.defers,und:=h.und,jo:=fun y hd hy=>⟨(h.jo y hd hy).1,(h.jo y hd hy).2.le hle⟩,dev:=fun g ah O d_ l hf hg=>?_ },hle⟩
 ·refine h.gm.trans' hw (fun _ _ h=>h) (fun i hi ⟨p,_,hd,h1,h2⟩=>?_);rcases (h.live _ _ hd i h1 h2).2 with h3|h3
  ·omega
  ·exact h3.1
 ·rcases hfind wr x with⟨p,_,_,h3⟩|⟨_,h2⟩
  ·have hx':find (wr++s.o) x=none:=hx;rw[h3] at hx';cases hx'
  ·exact h.dom x (h2.symm.trans hx)
 ·have hf':find (wr++s.o) x=some (g,ah,o):=hf;rcases hfind wr x with⟨p,h1,h2,h3⟩|⟨h1,h2⟩
  ·rw[h3] at hf';obtain⟨k1,_,hd,k2,k3⟩:=hwr p h1;obtain⟨x',g',vr,ob⟩:=p;dsimp only at k1 k2 k3 h2;subst h2
   cases hf'
   exact⟨hd,k2,fun _=>k3 hle⟩
  ·rw[h2] at hf';obtain⟨hd,h3,h4⟩:=h.jf x g ah o hf'
   exact⟨hd,h3,fun hg=>(h4 hg).zn hle (fun b hbl hlt=>hw.block b hlt (fun⟨p,hp,hd2,h5,h6⟩=>h1 p hp (h.inj p.1 x _ hd2 ah hd b h5 h3 h6 hbl)))⟩
 ·have hf':find (wr++s.o) dx=some (g,ah,.dev O d_ l):=hf;rcases hfind wr dx with⟨p,h1,h2,h3⟩|⟨h1,h2⟩
  ·rw[h3] at hf';obtain⟨_,k1,_⟩:=hwr p h1;obtain⟨x',g',vr,ob⟩:=p
   cases hf'
   exact absurd rfl (k1 O d_ l)
  ·rw[h2] at hf';obtain⟨k1,k2,k3⟩:=h.dev g ah O d_ l hf' hg
   exact⟨k1,k2,A.dv.grow _ _ _ _ _ k3 (hw.mono fun k _ ⟨p,_,hd,e1,e2⟩=>.inr ⟨p.1,_,hd,e1,e2⟩) (fun b hb=>.inl hb)⟩
structure Gv where
 x:Nat
 vr:Nat
 t:TypeId
 l:List PC
def zX:List PV->Nat->(List Gv->List PV->M)->M
 |[],_,k=>k [] []
 | .w (.one (.pt x ah off))::l,i,k=>(match Nat.beq off 0 with
  | true=>.obj x fun gd vr ob=>jA gd (match Nat.beq ah vr,ob with
   |true,.box t c=>(match c.all (cZ false) with
    |true=>zX l (i+1) fun os ys=>k (⟨x,vr,t,c⟩::os) (dh (.pt (px+i) 0 0)::ys)
    |false=>.fail)
   |_,_=>.fail)
  |false=>.fail)
 |v::l,i,k=>(match EK v with
  |some v'=>zX l i fun os ys=>k os (v'::ys)
  |none=>.fail)
def writeM:List Gv->List (List PC)->M->M
 |[],[],k=>k
 |o::os,c::cs,k=>.upd o.x o.vr (.box o.t c) (writeM os cs k)
 |_,_,_=>.fail
def distinct:List Gv->Bool
 |[]=>true
 |o::os=>(os.all fun p=>!Nat.beq o.x p.x)&&distinct os
def zN:Nat->List Gv->List (List PC)->List Ob
 |i,o::os,c::cs=>⟨px+i,o.t,o.l,c⟩::zN (i+1) os cs
 |_,_,_=>[]
def aTe(g:List (TypeId×List PC)->List PV->Option (Prop×List (List PC)×PV)):Spec:=fun _ xs=>zX xs 0 fun os ys=>(match distinct os,g (os.map fun o=>(o.t,o.l)) ys with
 |true,some (p,cs,r)=>(match Nat.beq cs.length os.length with
  |true=>.need p (writeM os cs (.ret r))
  |false=>.fail)
 |_,_=>.fail)
def aBO:Option (Nat×Value)->Nat
 |some (_,.pointer (some a))=>a.block
 |_=>0
def Bq(os:List Gv)(env:Nat->Option (Nat×Value))(n:Nat):Nat:=aBO ((os[n-px]?).bind fun o=>env o.x)
def aEY(C:Ctx)(o:Gv):Prop:=∃ g cs,C.env o.x=some (o.vr,gY g)/\au C.w g o.t cs/\RL C.cold o.l cs.toList
theorem aEd(h:dw A s a w env):∀ {ul:List PV} {vs:List Value} {i:Nat} {k:List Gv->List PV->M},mi (aU A w env) ul vs->(zX ul i k).ok none s F ->
  ∃ os ys,(∀ o∈os,aEY (aU A w env) o)/\(∀ C':Ctx,(aU A w env).cold.Le C'->(∀ (j:Nat) o,os[j]?=some o->∀ hd,env o.x=some (o.vr,hd)->C'.env (px+(i+j))=some (0,hd))->mi C' ys vs)/\(k os ys).ok none s F
 |[],[],i,k,_,hk=>⟨[],[],(fun o ho=>by cases ho),fun _ _ _=>trivial,hk⟩
 |[],_::_,_,_,hv,_=>hv.elim
 |_::_,[],_,_,hv,_=>hv.elim
 | pv::ul,v::vs,i,k,⟨h1,h2⟩,hk=>by
  have other:∀ v',EK pv=some v'->(zX ul i fun os ys=>k os (v'::ys)).ok none s F->∃ os ys,(∀ o∈os,aEY (aU A w env) o)/\(∀ C':Ctx,(aU A w env).cold.Le C'->(∀ (j:Nat) o,os[j]?=some o->∀ hd,env o.x=some (o.vr,hd)->C'.env (px+(i+j))=some (0,hd))->mi C' ys (v::vs))/\(k os ys).ok none s F:=by
   intro v' hv' hk';obtain⟨os,ys,h3,h4,h5⟩:=aEd h h2 hk'
   exact⟨os,v'::ys,h3,fun C' hle hj=>⟨bEy hle hv' h1,h4 C' hle hj⟩,h5⟩
  unfold zX at hk
  split at hk
  ·cases ‹_::_=[]›
  ·rename_i x ah off l heq
   obtain⟨rfl,rfl⟩:pv=.w (.one (.pt x ah off))/\ul=l:=by simpa using heq
   cases hb:Nat.beq off 0<;>rw[hb] at hk
   ·exact hk.elim
   obtain rfl:=gq hb
   obtain⟨gd,vr,ob,hfo,hk⟩:=hk;have hk2:=dO hk;clear hk;obtain⟨hgt,hk⟩:=hk2;obtain⟨hd,he,hob⟩:=jJ h hfo hgt
   cases hb2:Nat.beq ah vr<;>cases ob<;>simp only[hb2] at hk<;>try exact hk.elim
   rename_i t c
   obtain rfl:=gq hb2
   cases hc:c.all (cZ false)<;>rw[hc] at hk
   ·exact hk.elim
   obtain⟨g0,rfl,rfl⟩:=h1.A_ he;obtain⟨g1,cs,e1,hB,hR⟩:=hob;cases e1;obtain⟨os,ys,h3,h4,h5⟩:=aEd h h2 hk
   refine⟨⟨x,ah,t,c⟩::os,dh (.pt (px+_) 0 0)::ys,fun o ho=>?_,fun C' hle hj=>⟨?_,h4 C' hle (fun j o hjo hd hx=>?_)⟩,h5⟩
   ·rcases List.mem_cons.1 ho with rfl|ho
    ·exact⟨g0,cs,he,hB,iP hR hc⟩
    ·exact h3 o ho
   ·have:=hj 0 _ rfl _ he;rw[Nat.add_zero] at this;exact .w (.one (.pt ⟨g0,0,rfl⟩ ⟨0,gY g0,this,Nat.le_refl _,fun _=>⟨g0,rfl,rfl⟩⟩))
   ·have:=hj (j+1) o (by simpa using hjo) hd hx;rw[show ∀ n:Nat,n+1+j=n+(j+1) from fun n=>by omega];exact this
  ·rename_i v0 l0 _ heq
   obtain⟨rfl,rfl⟩:pv=v0/\ul=l0:=by simpa using heq
   cases hq:EK pv with
   |none=>rw[hq] at hk;exact hk.elim
   |some v'=>
    rw[hq] at hk;exact other v' hq hk
theorem aKv{r:PV}:∀ {os:List Gv} {cs:List (List PC)} {F:Option Bool->PV->Wr->Prop},(writeM os cs (.ret r)).ok none s F->os.length=cs.length/\F none r ((os.zip cs).map fun p=>(p.1.x,none,p.1.vr,.box p.1.t p.2))
 |[],[],F,h=>⟨rfl,h⟩
 |[],_::_,_,h=>h.elim
 |_::_,[],_,h=>h.elim
 |o::os,c::cs,F,h=>by
  obtain⟨_,h⟩:=h;obtain⟨h1,h2⟩:=aKv h
  exact⟨by simp[h1],h2⟩
theorem aEk:∀ {os:List Gv},distinct os=true->∀ (i j:Nat) o p,os[i]?=some o->os[j]?=some p->o.x=p.x->i=j
 |[],_,i,j,o,p,hi,_,_=>by simp at hi
 | q::os,h,i,j,o,p,hi,hj,e=>by
  rw[distinct,Bool.and_eq_true] at h
  have hne:∀ p∈os,q.x≠p.x:=fun p hp e=>by
   have:=List.all_eq_true.1 h.1 p hp;rw[e] at this;simp at this
  match i,j with
  |0,0=>rfl
  |0,j+1=>
   obtain rfl:q=o:=by simpa using hi
   exact absurd e (hne p (List.mem_of_getElem? (by simpa using hj:os[j]?=some p)))
  |i+1,0=>
   obtain rfl:q=p:=by simpa using hj
   exact absurd e.symm (hne o (List.mem_of_getElem? (by simpa using hi:os[i]?=some o)))
  |i+1,j+1=>rw[aEk h.2 i j o p (by simpa using hi) (by simpa using hj) e]
theorem yE:∀ {os:List Gv} {cs:List (List PC)} {i:Nat} {b:Ob},b∈zN i os cs->∃ j o c,os[j]?=some o/\cs[j]?=some c/\b=⟨px+(i+j),o.t,o.l,c⟩
 |[],_,_,_,h=>by cases h
 |_::_,[],_,_,h=>by cases h
 | o::os,c::cs,i,b,h=>by
  rcases List.mem_cons.1 h with rfl|h
  ·exact⟨0,o,c,rfl,rfl,rfl⟩
  ·obtain⟨j,o',c',h1,h2,h3⟩:=yE h
   exact⟨j+1,o',c',by simpa using h1,by simpa using h2,by rw[h3,show i+1+j=i+(j+1) from by omega]⟩
theorem aDo:∀ {os:List Gv} {cs:List (List PC)} {i j:Nat} {o:Gv} {c:List PC},os[j]?=some o->cs[j]?=some c->(⟨px+(i+j),o.t,o.l,c⟩:Ob)∈zN i os cs
 |[],_,_,_,_,_,h,_=>by simp at h
 |_::_,[],_,_,_,_,_,h=>by simp at h
 |o::os,c::cs,i,0,o',c',h1,h2=>by
  obtain rfl:o=o':=by simpa using h1
  obtain rfl:c=c':=by simpa using h2
  exact List.mem_cons_self
 |o::os,c::cs,i,j+1,o',c',h1,h2=>by
  refine List.mem_cons_of_mem _ ?_;rw[show i+(j+1)=i+1+j from by omega];exact aDo (by simpa using h1) (by simpa using h2)
theorem aMl{f:Nat}{g:List (TypeId×List PC)->List PV->Option (Prop×List (List PC)×PV)}(hent:∀ args w,(callFunc f args).run P w=.ok (.enter f args) w)
  (hg:∀ (os:List Gv) ys p cs r,g (os.map fun o=>(o.t,o.l)) ys=some (p,cs,r)->os.length=cs.length->p->v_ P I f false (zN 0 os cs) (fun _=>none) none (fun _=>False) ys r):aj P I f (aTe g):=by
 refine⟨hent,fun A s a w env nm ul vs F h hI hv hk=>?_⟩
 unfold aTe at hk;obtain⟨os,ys,h1,h2,hk⟩:=aEd h hv hk
 cases hd:distinct os<;>cases hq:g (os.map fun o=>(o.t,o.l)) ys<;>simp only[hd,hq] at hk<;>try exact hk.elim
 rename_i q;obtain⟨p,cs,r⟩:=q;dsimp only at hk
 cases hb:Nat.beq cs.length os.length<;>rw[hb] at hk
 ·exact hk.elim
 have hlen:=gq hb;obtain⟨hp,hk⟩:=hk;obtain⟨_,hF⟩:=aKv hk
 have hbl:∀ (j:Nat) o,os[j]?=some o->∃ g,env o.x=some (o.vr,gY g)/\Bq os env (px+(0+j))=g:=fun j o hj=>by
  obtain⟨g,cs',e1,_⟩:=h1 o (List.mem_of_getElem? hj)
  refine⟨g,e1,?_⟩
  unfold Bq;rw[Nat.zero_add,Nat.add_sub_cancel_left,hj];have e1':env o.x=some (o.vr,gY g):=e1;rw[Option.bind_some,e1'];rfl
 have Aa:∀ b,SX (zN 0 os cs) (Bq os env) Dv.non b->∃ o∈os,env o.x=some (o.vr,gY b):=by
  rintro b (hb|⟨ob,hob,rfl⟩)
  ·exact hb.elim
  ·obtain⟨j,o,c,e1,_,rfl⟩:=yE hob;obtain⟨g,e2,e3⟩:=hbl j o e1
   exact⟨o,List.mem_of_getElem? e1,by rw[e3];exact e2⟩
 refine (hg os ys p cs r hq hlen.symm hp w (aU A w env).ok vs (Bq os env) Dv.non (fun _=>True)
  (
   fun w' hw=>hI.mem w' (h.gm.trans' hw (fun _ _ h=>h) (fun b hlt0 hb=>by
   obtain⟨o,ho,e1⟩:=Aa b hb;rcases (h.live _ _ _ b e1 rfl).2 with h3|h3
   ·omega
   ·exact h3.1)))
  (
   fun b hb=>by
   obtain⟨o,ho,e1⟩:=Aa b hb
   exact⟨(h.live _ _ _ b e1 rfl).1,fun hok=>hok.2 _ _ _ e1 rfl⟩)
  (n_.non P) (fun _ _ _ _ _ _ h=>h.elim) rfl (fun p hp=>by cases hp) (fun _=>⟨fun _ h=>h,fun _ _ _ h=>h⟩)
  (
   fun ob hob=>by
   obtain⟨j,o,c,e1,_,rfl⟩:=yE hob;obtain⟨g,e2,e3⟩:=hbl j o e1;obtain⟨g',cs',e4,h4,h5⟩:=h1 o (List.mem_of_getElem? e1);have e4':env o.x=some (o.vr,gY g'):=e4;rw[e2] at e4'
   cases e4'
   refine⟨trivial,cs',?_,h5⟩
   show au w (Bq os env (px+(0+j))) _ _;rw[e3]
   exact h4)
  (
   fun ob hob ob' aKU e=>by
   obtain⟨j,o,c,e1,_,rfl⟩:=yE hob;obtain⟨j',o',c',e1',_,rfl⟩:=yE aKU;obtain⟨g,e2,e3⟩:=hbl j o e1;obtain⟨g',e2',e3'⟩:=hbl j' o' e1';have e':Bq os env (px+(0+j))=Bq os env (px+(0+j')):=e;rw[e3,e3'] at e';subst e';have:=h.inj o.x o'.x _ _ _ _ g e2 e2' rfl rfl
   rw[aEk hd j j' o o' e1 e1' this])
  (
   h2 _ aEn (fun j o hj hd hx=>by
   obtain⟨g,e2,e3⟩:=hbl j o hj;rw[e2] at hx;cases hx
   have hm:∃ c,cs[j]?=some c:=by
    have:j<cs.length:=by rw[hlen];exact (List.getElem?_eq_some_iff.1 hj).1
    exact⟨_,zH this⟩
   obtain⟨c,hc⟩:=hm;show o5 (zN 0 os cs) (Bq os env) none Dv.non.hd (px+(0+j))=_;have hmem:yL (zN 0 os cs) (px+(0+j))=true:=tX (aDo (i:=0) hj hc);unfold o5 mr;rw[hmem];show some (0,gY (Bq os env (px+(0+j))))=_
   rw[e3]))).mono ?_
 rintro e w' ⟨hw,⟨val,rfl,hres,hbx,_⟩|⟨chain,l2,rfl,h3,_⟩⟩
 ·obtain⟨h4,h5⟩:=h.many (w':=w') ((os.zip cs).map fun p=>(p.1.x,none,p.1.vr,.box p.1.t p.2))
   (
    hw.mono fun b hlt hb=>by
    obtain⟨o,ho,e1⟩:=Aa b hb;obtain⟨j,hj⟩:=List.getElem?_of_mem ho
    have hm:j<cs.length:=by rw[hlen];exact (List.getElem?_eq_some_iff.1 hj).1
    exact⟨(o.x,none,o.vr,.box o.t cs[j]),List.mem_map.2 ⟨(o,cs[j]),List.mem_of_getElem? (i:=j) (by rw[List.getElem?_zip_eq_some];exact⟨hj,zH hm⟩),rfl⟩,_,e1,rfl⟩)
   (
    fun q hq=>by
    obtain⟨⟨o,c⟩,hz,rfl⟩:=List.mem_map.1 hq;obtain⟨j,hj⟩:=List.getElem?_of_mem hz;rw[List.getElem?_zip_eq_some] at hj;obtain⟨g,e2,e3⟩:=hbl j o hj.1
    refine⟨rfl,(fun _ _ _ e=>by cases e),gY g,e2,fun hle=>?_⟩
    obtain⟨cs',k1,k2⟩:=hbx _ (aDo (i:=0) hj.1 hj.2);have k1':au w' (Bq os env (px+(0+j))) o.t cs':=k1;rw[e3] at k1'
    exact⟨g,cs',rfl,k1',k2.le (wH h hw.size)⟩)
  exact .inl ⟨r,_,val,env,rfl,hF,h4,hres.le (wH h hw.size)⟩
 ·exact h3.elim
end
end Pv
def nonzero(l:List Int):Nat:=(l.filter (fun n=>n != 0)).length
def qG(l:List Int):Bool:=decide (l.length<2*nonzero l)
def ai.DZ(a b:Int):ai Int:=.ask ⟨1,a,b,aS⟩ fun r=>.ret r.val
def ai.B_(a b:Int):ai Unit:=.ask ⟨2,a,b,aS⟩ fun _=>.ret ()
def ai.read(ay bit:Int):ai Bool:=
 (ai.DZ ay (3*bit+0)).bind fun a=>(ai.DZ ay (3*bit+1)).bind fun b=>(ai.DZ ay (3*bit+2)).bind fun c=>.ret (qG [a,b,c])
def ai.ru(ay bit:Int):ai Unit:=
 (ai.B_ ay (3*bit+0)).bind fun _=>(ai.B_ ay (3*bit+1)).bind fun _=>(ai.B_ ay (3*bit+2)).bind fun _=>.ret ()
def ai.up(ay:Int):Nat->Nat->ai Nat
 |0,n=>.ret n
 |f+1,n=>(ai.read ay n).bind fun b=>if b then ai.up ay f (n+1) else .ret n
def ai.down(ay:Int):Nat->Nat->ai Unit
 |0,_=>.ret ()
 |r+1,b=>(ai.ru ay b).bind fun _=>ai.down ay r (b+1)
def ai.jc(ay:Int)(bits:Nat):ai Nat:=(ai.up ay bits 0).bind fun n=>(ai.down ay n 0).bind fun _=>.ret n
def ai.qm(ay:Int):Nat->Nat->ai (Nat×Int)
 |0,n=>.ret (n,0)
 |f+1,n=>(ai.ru ay n).bind fun _=>(ai.read ay n).bind fun b=>if b then ai.qm ay f (n+1) else .ret (n,12)
def ai.mg(ay:Int)(bits target:Nat):ai (Nat×Int):=(ai.jc ay bits).bind fun n=>ai.qm ay (target-n) n
theorem GN(ay:Int):∀ f n,ai.All (fun m=>m<=n+f) (ai.up ay f n)
 |0,n=>Nat.le_refl _
 |f+1,n=>by
  refine ai.All.bind (R:=fun _=>True) (ai.All.yg _) (fun b _=>?_);cases b
  ·exact (by show n<=n+(f+1);omega)
  ·exact (GN ay f (n+1)).mono (fun m hm=>by omega)
def fQ(x:Int)(j_:Bool):Int:=if x=2\/(x=1/\j_=true) then 1 else 0
def eF(x:Int)(cut:Bool):Int:=if x<=1 then (if cut then 1 else 2) else x
def Ws(cells:List Int)(j_:Bool)(b:Nat):Bool:=decide (2<=fQ (cells.getD (3*b) 0) j_+fQ (cells.getD (3*b+1) 0) j_+fQ (cells.getD (3*b+2) 0) j_)
def tZ(cells:List Int)(j_:Bool):Nat->Nat->Nat
 |0,b=>b
 |f+1,b=>if Ws cells j_ b then tZ cells j_ f (b+1) else b
def jT(cells:List Int)(j_:Bool):Nat:=tZ cells j_ (cells.length / 3) 0
theorem zY(x:Int)(n:Bool):0<=fQ x n/\fQ x n<=1:=by unfold fQ;split<;>omega
theorem aWq{cells:List Int}{j_:Bool}{f b:Nat}(h:Ws cells j_ b=false):tZ cells j_ (f+1) b=b:=by simp[tZ,h]
theorem aQs{cells:List Int}{j_:Bool}{f b:Nat}(h:Ws cells j_ b=true):tZ cells j_ (f+1) b=tZ cells j_ f (b+1):=by simp[tZ,h]
theorem getD_at{l:List Int}{i:Nat}(h:i<l.length):l.getD i 0=l[i]:=by rw[zG,zH h];rfl
theorem EO:∀ (ay:Int) (f b:Nat),ai.All (fun m=>m<=b+f) (ai.up ay f b)
 |_,0,b=>Nat.le_refl _
 |ay,f+1,b=>(ai.All.yg (ai.read ay b)).bind fun x _=>by
  cases x with
  |true=>exact (EO ay f (b+1)).mono fun a h=>by omega
  |false=>exact (by omega:b<=b+(f+1))
theorem aDx(ay:Int)(bits:Nat):ai.All (fun m=>m<=bits) (ai.jc ay bits):=
 (EO ay bits 0).bind fun m h=>(ai.All.yg (ai.down ay m 0)).bind fun _ _=>by show m<=bits;omega
abbrev cell(c:List Int)(j:Nat):Int:=c.getD j 0
def ai.Within{α:Type}:Nat->ai α->Prop
 |_,.ret _=>True
 |0,.ask _ _=>False
 |n+1,.ask _ k=>∀ r,ai.Within n (k r)
theorem Within.mono{α:Type}{p:ai α}:∀ {n m:Nat},p.Within n->n<=m->p.Within m:=by
 induction p with
 |ret a=>intro n m _ _;cases m<;>trivial
 | ask a k ih=>
  intro n m h hm
  cases n with
  |zero=>exact h.elim
  |succ n=>
   cases m with
   |zero=>omega
   |succ m=>exact fun r=>ih r (h r) (by omega)
theorem Within.bind{α β:Type}{p:ai α}{f:α->ai β}{m:Nat}:∀ {n:Nat},p.Within n->(∀ a,(f a).Within m)->(p.bind f).Within (n+m):=by
 induction p with
 |ret a=>intro n _ hf;exact Within.mono (hf a) (by omega)
 | ask a k ih=>
  intro n h hf
  cases n with
  |zero=>exact h.elim
  |succ n=>
   rw[show n+1+m=(n+m)+1 from by omega];exact fun r=>ih r (h r) hf
theorem Within.NU{α β:Type}{R:α->Prop}{p:ai α}{f:α->ai β}{m:Nat}:∀ {n:Nat},p.Within n->ai.All R p->(∀ a,R a->(f a).Within m)->(p.bind f).Within (n+m):=by
 induction p with
 |ret a=>intro n _ ha hf;exact Within.mono (hf a ha) (by omega)
 | ask a k ih=>
  intro n h ha hf
  cases n with
  |zero=>exact h.elim
  |succ n=>
   rw[show n+1+m=(n+m)+1 from by omega];exact fun r=>ih r (h r) (ha r) hf
theorem wB(a b:Int):(ai.DZ a b).Within 1:=fun _=>trivial
theorem sD(a b:Int):(ai.B_ a b).Within 1:=fun _=>trivial
theorem aCg(a b:Int):(ai.read a b).Within 3:=Within.bind (m:=2) (wB _ _) fun _=>Within.bind (m:=1) (wB _ _) fun _=>Within.bind (m:=0) (wB _ _) fun _=>trivial
theorem xJ(a b:Int):(ai.ru a b).Within 3:=Within.bind (m:=2) (sD _ _) fun _=>Within.bind (m:=1) (sD _ _) fun _=>Within.bind (m:=0) (sD _ _) fun _=>trivial
theorem aLb(a:Int):∀ f n,(ai.up a f n).Within (3*f)
 |0,n=>trivial
 |f+1,n=>by
  rw[show 3*(f+1)=3+3*f from by omega];refine Within.bind (aCg a n) fun b=>?_
  cases b with
  |true=>exact aLb a f (n+1)
  |false=>exact Within.mono (n:=0) (show (ai.ret n:ai Nat).Within 0 from trivial) (by omega)
theorem aCh(a:Int):∀ r b,(ai.down a r b).Within (3*r)
 |0,b=>trivial
 |r+1,b=>by
  rw[show 3*(r+1)=3+3*r from by omega];exact Within.bind (xJ a b) fun _=>aCh a r (b+1)
theorem pF(a:Int)(bits:Nat):(ai.jc a bits).Within (6*bits):=by
 rw[show 6*bits=3*bits+(3*bits+0) from by omega];refine Within.NU (aLb a bits 0) (EO a bits 0) fun n hn=>?_;exact Within.bind (Within.mono (aCh a n 0) (by omega)) fun _=>trivial
theorem rQ(a:Int):∀ f n,(ai.qm a f n).Within (6*f)
 |0,n=>trivial
 |f+1,n=>by
  rw[show 6*(f+1)=3+(3+6*f) from by omega];refine Within.bind (xJ a n) fun _=>Within.bind (aCg a n) fun b=>?_
  cases b with
  |true=>exact rQ a f (n+1)
  |false=>exact Within.mono (n:=0) (show (ai.ret (n,(12:Int)):ai (Nat×Int)).Within 0 from trivial) (by omega)
theorem aFi(a:Int)(bits target:Nat):(ai.mg a bits target).Within (6*bits+6*target):=
 Within.bind (pF a bits) fun n=>Within.mono (rQ a (target-n) n) (by omega)
namespace Pv
def ans(O:List Acc->Option je)(l:List Acc):je:=(O l).getD ⟨0,aS⟩
def go{α:Type}(O:List Acc->Option je):ai α->List Acc->α×List Acc
 |.ret a,l=>(a,l)
 |.ask c k,l=>go O (k (ans O (l++[c]))) (l++[c])
theorem go_ret{α:Type}(O:List Acc->Option je)(a:α)(l:List Acc):go O (.ret a) l=(a,l):=rfl
theorem vW{α:Type}(O:List Acc->Option je)(c:Acc)(k:je->ai α)(l:List Acc):go O (.ask c k) l=go O (k (ans O (l++[c]))) (l++[c]):=rfl
theorem wS{α β:Type}(O:List Acc->Option je)(p:ai α)(f:α->ai β):∀ l,go O (p.bind f) l=go O (f (go O p l).1) (go O p l).2:=by
 induction p with
 |ret a=>intro l;rfl
 |ask c k ih=>intro l;exact ih _ _
theorem uD{α:Type}(O:List Acc->Option je)(p:ai α):∀ l,l <+: (go O p l).2:=by
 induction p with
 |ret a=>intro l;exact List.prefix_refl _
 |ask c k ih=>intro l;exact (List.prefix_append l [c]).trans (ih _ _)
theorem Tn{α:Type}{R:α->Prop}(O:List Acc->Option je){p:ai α}(h:ai.All R p):∀ l,R (go O p l).1:=by
 induction p with
 |ret a=>intro l;exact h
 |ask c k ih=>intro l;exact ih _ (h _) _
def kW{α:Type}(dec:List PV->Option (Prop×ai α×(α->PV))):Spec:=
 aKa (fun O l ys=>match dec ys with|some (_,p,_)=>(go O p l).2|none=>l) (fun O l ys=>match dec ys with|some (c,p,f)=>some (c,f (go O p l).1)|none=>none)
def Bg(P:Program)(I:World->Prop)(f:Nat){α:Type}(p:ai α)(args:List PV)(val:α->PV):Prop:=
 ∀ O l,v_ P I f false [] O (some (l,(go O p l).2)) (fun h=>l <+: h/\h <+: (go O p l).2) args (val (go O p l).1)
theorem nN{P:Program}{I:World->Prop}{f:Nat}{α:Type}{dec:List PV->Option (Prop×ai α×(α->PV))}(hent:∀ args w,(callFunc f args).run P w=.ok (.enter f args) w)
  (hg:∀ ys c p v,dec ys=some (c,p,v)->c->Bg P I f p (.w (.one .dv)::ys) v):aj P I f (kW dec):=by
 refine aHk hent (fun O l ys p r hq hp=>?_)
 cases hd:dec ys with
 |none=>rw[hd] at hq;cases hq
 |some q=>
  obtain⟨c,pr,v⟩:=q;rw[hd] at hq;cases hq;exact hg ys _ pr v hd hp O l
theorem aIx{H L l:List Acc}{c:Acc}{X:Prop}(h1:L <+: l)(h2:l++[c] <+: H):X->L <+: l++[c]/\l++[c] <+: H:=fun _=>⟨h1.trans (List.prefix_append l [c]),h2⟩
theorem nH(l:List Acc):l <+: l:=List.prefix_refl l
theorem PK(l:List Acc)(c:Acc):l <+: l++[c]:=List.prefix_append l [c]
theorem aYz{P:Program}{A:jk}{s:St}{Q:Exit->Act->World->Prop}{id:Nat}(h:ZJ A s (Q .normal)):iw P A s (.label id) Q:=fun a w hg _=>wp_label (h a w hg)
theorem aYy{P:Program}{A:jk}{s:St}{Q:Exit->Act->World->Prop}{c:Code}(h:iw P A s c (Exit.noGoto Q)):iw P A s (.scope c) Q:=fun a w hg AO=>wp_scope_straight (h a w hg (fun chain a w hd hp=>AO chain a w hd hp))
def OB(O:List Acc->Option je):Prop:=∀ l r,O l=some r->r.bytes.size<=1000000
theorem OB.ans{O:List Acc->Option je}(h:OB O)(l:List Acc):(ans O l).bytes.size<=1000000:=by
 unfold Pv.ans
 cases hq:O l with
 |none=>exact (by decide:(0:Nat)<=1000000)
 |some r=>exact h l r hq
def bFn(P:Program)(I:World->Prop)(f:Nat){α:Type}(p:ai α)(args:List PV)(val:α->PV):Prop:=
 ∀ O l,OB O->v_ P I f false [] O (some (l,(go O p l).2)) (fun h=>l <+: h/\h <+: (go O p l).2) args (val (go O p l).1)
theorem Bg.toB{P:Program}{I:World->Prop}{f:Nat}{α:Type}{p:ai α}{args:List PV}{val:α->PV}(h:Bg P I f p args val):bFn P I f p args val:=fun O l _=>h O l
def kV{α:Type}(dec:List PV->Option (Prop×ai α×(α->PV))):Spec:=
 aKa (fun O l ys=>match dec ys with|some (_,p,_)=>(go O p l).2|none=>l) (fun O l ys=>match dec ys with|some (c,p,f)=>some (OB O/\c,f (go O p l).1)|none=>none)
theorem nV{P:Program}{I:World->Prop}{f:Nat}{α:Type}{dec:List PV->Option (Prop×ai α×(α->PV))}(hent:∀ args w,(callFunc f args).run P w=.ok (.enter f args) w)
  (hg:∀ ys c p v,dec ys=some (c,p,v)->c->bFn P I f p (.w (.one .dv)::ys) v):aj P I f (kV dec):=by
 refine aHk hent (fun O l ys p r hq hp=>?_)
 cases hd:dec ys with
 |none=>rw[hd] at hq;cases hq
 |some q=>
  obtain⟨c,pr,v⟩:=q;rw[hd] at hq;cases hq;exact hg ys _ pr v hd hp.2 O l hp.1
def iC:Bool->Int->ai Unit
 |true,_=>.ret ()
 |false,e=>.ask (rO e) fun _=>.ret ()
def Nz(P:Program)(I:World->Prop)(T:TypeId)(f:Nat){α:Type}(p:ai α)(args:List PV)(val:α->PV):Prop:=
 ∀ O l,OB O->Ym T O->v_ P I f false [] O (some (l,(go O p l).2)) (fun h=>l <+: h/\h <+: (go O p l).2) args (val (go O p l).1)
def uM(P:Program)(I:World->Prop)(T:TypeId)(f:Nat)(t:TypeId)(cells:List PC){α:Type}(p:ai α)(args:List PV)(val:α->PV):Prop:=
 ∀ O l,OB O->Ym T O->XA P I f t cells cells O l (go O p l).2 (fun h=>l <+: h/\h <+: (go O p l).2) (.w (.one (.pt px 0 0))::args) (val (go O p l).1)
section
variable {P:Program} {I:World->Prop}
def aRv(hist:(List Acc->Option je)->List Acc->List PV->List Acc)(res:(List Acc->Option je)->List Acc->List PV->Option (Prop×PV)):Spec:=fun _ xs=>match FY xs with
 | some ys=>.obj dx fun g vr ob=>jA g (match Nat.beq vr 0,ob with
  |true,.dev O d_ l=>(match res O l ys with
   |some (p,r)=>.need p (.need (∀ h,l <+: h->h <+: hist O l ys->O h=none->d_ h) (.upd dx 0 (.dev O d_ (hist O l ys)) (.ret r)))
   |none=>.fail)
  |_,_=>.fail)
 |none=>.fail
theorem aXz{f:Nat}{hist:(List Acc->Option je)->List Acc->List PV->List Acc}{res:(List Acc->Option je)->List Acc->List PV->Option (Prop×PV)}(hent:∀ args w,(callFunc f args).run P w=.ok (.enter f args) w)
  (hg:∀ O l ys p r,res O l ys=some (p,r)->p->v_ P I f false [] O (some (l,hist O l ys)) (fun h=>l <+: h/\h <+: hist O l ys) ys r):aj P I f (aRv hist res):=by
 refine⟨hent,fun A s a w env nm ul vs F h hI hv hk=>?_⟩
 unfold aRv at hk
 cases hr:FY ul with
 |none=>rw[hr] at hk;exact hk.elim
 | some ys=>
  rw[hr] at hk;obtain⟨gd,vr,ob,hfo,hk⟩:=hk;have hk2:=dO hk;clear hk;obtain⟨hgt,hk⟩:=hk2
  cases hb2:Nat.beq vr 0<;>cases ob<;>simp only[hb2] at hk<;>try exact hk.elim
  rename_i O d_ l
  obtain rfl:=gq hb2
  cases hq:res O l ys with
  |none=>rw[hq] at hk;exact hk.elim
  | some q=>
   obtain⟨p,r⟩:=q;rw[hq] at hk;obtain⟨hp,hst,_,hF⟩:=hk;obtain⟨hO,hstp,hinv⟩:=h.dev gd 0 O d_ l hfo hgt;subst hO hstp
   have Aa:∀ b,SX [] (fun _=>0) A.dv b->A.dv.S b:=by
    rintro b (h|⟨o,ho,rfl⟩)
    ·exact h
    ·cases ho
   refine (hg A.dv.O l ys p r hq hp w (aU A w env).ok vs (fun _=>0) A.dv (ownB A env)
    (fun w' hw=>hI.mem w' (h.gm.trans' hw (fun _ _ h=>h) (fun b _ hb=>hI.sub b (Aa b hb))))
    (
     fun b hb=>by
     have h1:=hI.old b (hI.sub b (Aa b hb))
     refine⟨Nat.lt_of_lt_of_le h1.1 h.gm.size,fun hok=>?_⟩
     rcases hok.1 with h2|h2
     ·exact h1.2 h2
     ·omega)
    (hI.step.mono fun l2 h1 h2=>hst l2 h1.1 h1.2 h2) hI.BR rfl (fun p hp=>by cases hp;exact hinv) (fun h=>by cases h) (fun o ho=>by cases ho) (fun o ho=>by cases ho)
    (yS aEn hr hv)).mono ?_
   rintro e w' ⟨hw,⟨val,rfl,hres,_,hdv⟩|⟨chain,l2,rfl,h1,h2,h3⟩⟩
   ·obtain⟨h4,h5⟩:=h.asked (w':=w') hfo hgt hI.sub (fun b hb=>hI.old b (hI.sub b hb)) (hw.mono fun b _ hb=>Aa b hb) (hdv _ rfl);exact .inl ⟨r,_,val,env,rfl,hF,h4,hres.le (wH h hw.size)⟩
   ·exact .inr ⟨chain,rfl,l2,hst l2 h1.1 h1.2 h2,h2,hI.BR _ _ _ _ _ _ h3 (dm.refl _ _) (fun b hb=>.inl hb),h.gm.trans (hw.mono fun b _ hb=>hI.sub b (Aa b hb))⟩
def aIw(T:TypeId){α:Type}(dec:List PV->Option (Prop×ai α×(α->PV))):Spec:=
 aRv (fun O l ys=>match dec ys with|some (_,p,_)=>(go O p l).2|none=>l) (fun O l ys=>match dec ys with|some (c,p,f)=>some (OB O/\Ym T O/\c,f (go O p l).1)|none=>none)
theorem aQg{f:Nat}{T:TypeId}{α:Type}{dec:List PV->Option (Prop×ai α×(α->PV))}(hent:∀ args w,(callFunc f args).run P w=.ok (.enter f args) w)
  (hg:∀ ys c p v,dec ys=some (c,p,v)->c->Nz P I T f p ys v):aj P I f (aIw T dec):=by
 refine aXz hent (fun O l ys p r hq hp=>?_)
 cases hd:dec ys with
 |none=>rw[hd] at hq;cases hq
 |some q=>
  obtain⟨c,pr,v⟩:=q;rw[hd] at hq;cases hq;exact hg ys _ pr v hd hp.2.2 O l hp.1 hp.2.1
def iM(T t:TypeId){α:Type}(dec:List PC->List PV->Option (Prop×ai α×(α->PV))):Spec:=
 aQh t (fun O k l ys=>match dec l ys with|some (_,p,_)=>(go O p k).2|none=>k) (fun O k l ys=>match dec l ys with|some (c,p,f)=>some (OB O/\Ym T O/\c,f (go O p k).1)|none=>none)
theorem jR{f:Nat}{T t:TypeId}{α:Type}{dec:List PC->List PV->Option (Prop×ai α×(α->PV))}(hent:∀ args w,(callFunc f args).run P w=.ok (.enter f args) w)
  (hg:∀ l ys c p v,dec l ys=some (c,p,v)->c->uM P I T f t l p ys v):aj P I f (iM T t dec):=by
 refine aWe hent (fun O k l ys p r hq hp=>?_)
 cases hd:dec l ys with
 |none=>rw[hd] at hq;cases hq
 |some q=>
  obtain⟨c,pr,v⟩:=q;rw[hd] at hq;cases hq;exact hg l ys _ pr v hd hp.2.2 O k hp.1 hp.2.1
end
end Pv
section
section
variable {w w':World} {v:Value} {ds:List (List UInt8)}
end
section
variable {P:Program}
end
end
theorem a_.lt{w:World}(h:a_ w):2<w.heap.size/\0<w.heap.size:=⟨lt_of_cell (h.k 0 _ rfl),lt_of_cell (h.h 0 _ rfl)⟩
theorem a_.past{w0 w w':World}{B:Nat}(h0:a_ w0)(hB:w0.heap.size<=B)(h:a_ w)(hc:dm (fun k=>B<=k) w w'):a_ w':=h.gm hc (by have:=h0.lt;omega) (by have:=h0.lt;omega)
theorem aAI(fn:Fn)(first cap:Array Value)(w:World):(Instr.makeFunc fn first cap).run Tryz.prog w=.ok (.func fn first cap) w:=rfl



namespace Pv
theorem GU:o7=f_:=rfl
theorem IW{C:Ctx}{k:Nat}{bs:List UInt8}{cs:Array Value}(h:RL C [.bs k bs] cs.toList):bs.length=k/\cs=(bs.map f_).toArray:=by
 obtain⟨h1,h2⟩:=h.Yj
 exact⟨h1,by apply Array.ext';simpa[GU] using h2⟩
theorem aSn{C:Ctx}{k:Nat}{bs:List UInt8}{v:Value}(h:RV C (.w (.agg [.bs k bs])) v):bs.length=k/\v=.agg (bs.map f_).toArray:=by
 cases h with
 | w h=>cases h with
  |agg h=>
   obtain⟨h1,h2⟩:=IW h
   exact⟨h1,by rw[h2]⟩
theorem pY{C:Ctx}{bs:List UInt8}{k:Nat}(h:bs.length=k):RV C (.w (.agg [.bs k bs])) (.agg (bs.map f_).toArray):=
 .w (.agg (by simpa[GU] using RL.cons (R.bs (C:=C) h) RL.nil))
def U4:Nat->(Nat->List PC)->(List (List UInt8)->M)->M
 |0,_,k=>k []
 |n+1,f,k=>U4 n f fun l=>(match f n with
  |[c]=>Wu (dh c) fun b=>k (l++[b])
  |_=>.fail)
def GK(v:PV)(k:List (List UInt8)->M):M:=match v with
 | .w (.one (.ow x ah n off len))=>.obj x fun g vr ob=>jA g (match Nat.beq ah vr,Nat.beq n 1,Nat.beq off 0,ob with
  |true,true,true,.arr _ m tot f=>(match Nat.beq n m,Nat.beq len tot with
   |true,true=>U4 len f k
   |_,_=>.fail)
  |_,_,_,_=>.fail)
 |.w (.one (.lit (.slice none 0 0)))=>k []
 |_=>.fail
section
variable {A:jk} {s:St} {a:Act} {w:World} {env:Env} {F:Option Bool->PV->Wr->Prop}
theorem aYr(h:dw A s a w env){vs:List Value}{f:Nat->List PC}:∀ {n:Nat} {k:List (List UInt8)->M},n<=vs.length->(∀ i,i<n->RL (aU A w env) (f i) ((vs.drop (i*1)).take 1))->(U4 n f k).ok none s F ->
  ∃ ps,ps.length=n/\(∀ (i:Nat) (p:List UInt8),ps[i]?=some p->∃ u,vs[i]?=some u/\Reads w 1 u p.length (p.map f_))/\(k ps).ok none s F
 |0,k,_,_,hk=>⟨[],rfl,fun i p hp=>by simp at hp,hk⟩
 | n + 1,k,hn,hr,hk=>by
  obtain⟨ps,h1,h2,hk⟩:=aYr h (n:=n) (by omega) (fun i hi=>hr i (by omega)) hk
  split at hk
  ·rename_i c hfc;have h3:=hr n (by omega);rw[hfc] at h3
   have hv:(vs.drop (n*1)).take 1=[vs[n]]:=by
    apply List.ext_getElem?;intro q;rw[List.getElem?_take,List.getElem?_drop,Nat.mul_one]
    cases q with
    |zero=>rw[if_pos (by omega),Nat.add_zero,zH (by omega)];rfl
    |succ q=>rw[if_neg (by omega)];simp
   rw[hv] at h3;obtain⟨l,h4,hk⟩:=mV h (.w (.one h3.single)) hk
   refine⟨ps++[l],by simp[h1],fun i p hp=>?_,hk⟩
   rcases Nat.lt_or_ge i n with hlt|hge
   ·rw[List.getElem?_append_left (by omega)] at hp;exact h2 i p hp
   ·rw[List.getElem?_append_right (by omega)] at hp
    have hi:i=n:=by
     rcases Nat.eq_or_lt_of_le hge with e|e
     ·exact e.symm
     ·rw[List.getElem?_eq_none (by simp;omega)] at hp;cases hp
    subst hi;rw[h1,Nat.sub_self] at hp;cases hp
    exact⟨vs[i],zH _,h4⟩
  ·exact hk.elim
theorem aCk(h:dw A s a w env){v:PV}{val:Value}(hv:RV (aU A w env) v val){k:List (List UInt8)->M}(hk:(GK v k).ok none s F):∃ ps,Parts w val ps/\(k ps).ok none s F:=by
 unfold GK at hk
 split at hk
 ·rename_i x ah n off len;obtain⟨g,vr,ob,hfo,hk⟩:=hk;have hk2:=dO hk;clear hk;obtain⟨hg,hk⟩:=hk2;obtain⟨hd,hev,hob⟩:=jJ h hfo hg
  cases hb:Nat.beq ah vr<;>cases hb2:Nat.beq n 1<;>cases hb3:Nat.beq off 0<;>cases ob<;>simp only[hb,hb2,hb3] at hk<;>try exact hk.elim
  rename_i e m tot f
  obtain rfl:=gq hb
  obtain rfl:=gq hb2
  obtain rfl:=gq hb3
  cases hb4:Nat.beq 1 m<;>cases hb5:Nat.beq len tot<;>simp only[hb4,hb5] at hk<;>try exact hk.elim
  obtain rfl:=gq hb4
  obtain rfl:=gq hb5
  obtain⟨A0,n0,c0,rfl,hle0,rfl⟩:=hv.y9 hev;obtain⟨vs,hown,hel⟩:=hob;have hrd:=Reads.ve hown
  have hn0:n0=len:=by
   obtain⟨_,A1,c1,e1,_⟩:=hrd
   cases e1;rfl
  subst hn0;have hsl:=lM (off:=0) (m:=n0) (by omega) hrd;rw[Nat.zero_mul,List.drop_zero,List.take_of_length_le (by rw[hown.1];omega)] at hsl;obtain⟨ps,h1,h2,hk⟩:=aYr h (vs:=vs) (by rw[hown.1];omega) hel hk
  exact⟨ps,⟨vs,by rw[hown.1,h1];omega,by rw[h1,Nat.zero_mul];exact hsl,h2⟩,hk⟩
 ·have:=hv.dn;subst this
  exact⟨[],Parts.nil w,hk⟩
 ·exact hk.elim
end
def iq(n:Int):Prop := -9223372036854775808<=n/\n<9223372036854775808
def Yt:Spec:=fun nm xs=>match xs with
 |[.w (.one (.lit (.int .i64 n)))]=>.need (iq n) (.new nm (.arr 5 1 (di n).length (ou (di n))) fun v=>.ret (dh (.ow nm v 1 0 (di n).length)))
 |_=>.fail
def yU:Spec:=fun nm xs=>match xs with
 |[.w (.one (.lit (.string b)))]=>.need (b.size<=1000000000) (.new nm (.arr 5 1 (bU b.data.toList).length (ou (bU b.data.toList))) fun v=>.ret (dh (.ow nm v 1 0 (bU b.data.toList).length)))
 |_=>.fail
def uS:Spec:=fun _ xs=>match xs with
 |[.w (.one (.lit (.int .i64 tag))),ps]=>GK ps fun pl=>.need (pl.length<=1000/\∀ p∈pl,p.length<=10000) (.ret (.w (.agg [.bs 16 (nC tag pl)])))
 |_=>.fail
def uT:Spec:=fun _ xs=>match xs with
 |[k,.w (.one (.lit (.string b))),ps]=>Wu k fun kb=>GK ps fun pl=>.need (kb.length<=10000/\b.size<=10000/\pl.length<=90/\∀ p∈pl,p.length<=10000) (.ret (.w (.agg [.bs 16 (kP kb b.data.toList pl)])))
 |_=>.fail
def Yu:Spec:=fun _ xs=>match xs with
 |[k,b]=>Wu k fun kb=>Wu b fun bb=>.need (kb.length<=1000000/\bb.length<=1000000) (.ret (.w (.agg [.bs 16 (F_ kb bb)])))
 |_=>.fail
theorem VJ:aj Tryz.prog a_ 107 Yt:=by
 refine⟨aF Tryz.func107 (by kernel_rfl) rfl,fun A s a w env nm ul vs F h hI hv hk=>?_⟩
 unfold Yt at hk
 split at hk
 rotate_left
 ·exact hk.elim
 rename_i n;obtain⟨hn,hk⟩:=hk
 match vs,hv with
 |[v],⟨h1,_⟩=>
  obtain rfl:=RV.dn (show RV _ _ _ from h1)
  refine (uN n w hn.1 hn.2).mono ?_;rintro e w' ⟨A1,c,rfl,ho,hE⟩;obtain⟨env',h3,h4⟩:=h.zl nm 5 1 (di n).length (f:=ou (di n)) hE ho (fun C i hi=>mW C (di n) i hi);exact .inl ⟨_,_,_,env',rfl,hk,h3,h4⟩
theorem P5:aj Tryz.prog a_ 24 Yt:=by
 refine⟨aF Tryz.func24 (by kernel_rfl) rfl,fun A s a w env nm ul vs F h hI hv hk=>?_⟩
 unfold Yt at hk
 split at hk
 rotate_left
 ·exact hk.elim
 rename_i n;obtain⟨hn,hk⟩:=hk
 match vs,hv with
 |[v],⟨h1,_⟩=>
  obtain rfl:=RV.dn (show RV _ _ _ from h1)
  refine (xX n w hn.1 hn.2).mono ?_;rintro e w' ⟨A1,c,rfl,ho,hE⟩;obtain⟨env',h3,h4⟩:=h.zl nm 5 1 (di n).length (f:=ou (di n)) hE ho (fun C i hi=>mW C (di n) i hi);exact .inl ⟨_,_,_,env',rfl,hk,h3,h4⟩
theorem NP:aj Tryz.prog a_ 145 yU:=by
 refine⟨aF Tryz.func145 (by kernel_rfl) rfl,fun A s a w env nm ul vs F h hI hv hk=>?_⟩
 unfold yU at hk
 split at hk
 rotate_left
 ·exact hk.elim
 rename_i b;obtain⟨hn,hk⟩:=hk
 match vs,hv with
 |[v],⟨h1,_⟩=>
  obtain rfl:=RV.dn (show RV _ _ _ from h1)
  refine (uO b w hn).mono ?_;rintro e w' ⟨A1,c,rfl,ho,hE⟩;obtain⟨env',h3,h4⟩:=h.zl nm 5 1 (bU b.data.toList).length (f:=ou (bU b.data.toList)) hE ho (fun C i hi=>mW C _ i hi);exact .inl ⟨_,_,_,env',rfl,hk,h3,h4⟩
theorem bAk:aj Tryz.prog a_ 39 yU:=by
 refine⟨aF Tryz.func39 (by kernel_rfl) rfl,fun A s a w env nm ul vs F h hI hv hk=>?_⟩
 unfold yU at hk
 split at hk
 rotate_left
 ·exact hk.elim
 rename_i b;obtain⟨hn,hk⟩:=hk
 match vs,hv with
 |[v],⟨h1,_⟩=>
  obtain rfl:=RV.dn (show RV _ _ _ from h1)
  refine (qC b w hn).mono ?_;rintro e w' ⟨A1,c,rfl,ho,hE⟩;obtain⟨env',h3,h4⟩:=h.zl nm 5 1 (bU b.data.toList).length (f:=ou (bU b.data.toList)) hE ho (fun C i hi=>mW C _ i hi);exact .inl ⟨_,_,_,env',rfl,hk,h3,h4⟩
theorem bDv:aj Tryz.prog a_ 176 uS:=by
 refine⟨aF Tryz.func176 (by kernel_rfl) rfl,fun A s a w env nm ul vs F h hI hv hk=>?_⟩
 unfold uS at hk
 split at hk
 rotate_left
 ·exact hk.elim
 rename_i tag ps
 match vs,hv with
 |[v,pv],⟨h1,h2,_⟩=>
  obtain rfl:=RV.dn (show RV _ _ _ from h1)
  obtain⟨pl,hp,hk⟩:=aCk h h2 hk;obtain⟨⟨c1,c2⟩,hk⟩:=hk;refine (aXi tag pl pv w (hI.mem w h.gm) hp c1 c2).mono ?_;rintro e w' ⟨rfl,hE⟩;exact .inl ⟨_,[],_,env,rfl,hk,h.ext hE,pY (jK _ _)⟩
theorem aVv:aj Tryz.prog a_ 156 uS:=by
 refine⟨aF Tryz.func156 (by kernel_rfl) rfl,fun A s a w env nm ul vs F h hI hv hk=>?_⟩
 unfold uS at hk
 split at hk
 rotate_left
 ·exact hk.elim
 rename_i tag ps
 match vs,hv with
 |[v,pv],⟨h1,h2,_⟩=>
  obtain rfl:=RV.dn (show RV _ _ _ from h1)
  obtain⟨pl,hp,hk⟩:=aCk h h2 hk;obtain⟨⟨c1,c2⟩,hk⟩:=hk;refine (aPz tag pl pv w  hp c1 c2).mono ?_;rintro e w' ⟨rfl,hE⟩;exact .inl ⟨_,[],_,env,rfl,hk,h.ext hE,pY (jK _ _)⟩
theorem bDw:aj Tryz.prog a_ 106 uT:=by
 refine⟨aF Tryz.func106 (by kernel_rfl) rfl,fun A s a w env nm ul vs F h hI hv hk=>?_⟩
 unfold uT at hk
 split at hk
 rotate_left
 ·exact hk.elim
 rename_i k b ps
 match vs,hv with
 |[kv,v,pv],⟨h0,h1,h2,_⟩=>
  obtain rfl:=RV.dn (show RV _ _ _ from h1)
  obtain⟨kb,hkb,hk⟩:=mV h h0 hk;obtain⟨pl,hp,hk⟩:=aCk h h2 hk;obtain⟨⟨c0,c1,c2,c3⟩,hk⟩:=hk;refine (aAe kb kv b pl pv w (hI.mem w h.gm) hkb c0 c1 hp c2 c3).mono ?_;rintro e w' ⟨rfl,hE⟩;exact .inl ⟨_,[],_,env,rfl,hk,h.ext hE,pY (dY _ _ _)⟩
theorem aVw:aj Tryz.prog a_ 22 uT:=by
 refine⟨aF Tryz.func22 (by kernel_rfl) rfl,fun A s a w env nm ul vs F h hI hv hk=>?_⟩
 unfold uT at hk
 split at hk
 rotate_left
 ·exact hk.elim
 rename_i k b ps
 match vs,hv with
 |[kv,v,pv],⟨h0,h1,h2,_⟩=>
  obtain rfl:=RV.dn (show RV _ _ _ from h1)
  obtain⟨kb,hkb,hk⟩:=mV h h0 hk;obtain⟨pl,hp,hk⟩:=aCk h h2 hk;obtain⟨⟨c0,c1,c2,c3⟩,hk⟩:=hk;refine (wI kb kv b pl pv w  hkb c0 c1 hp c2 c3).mono ?_;rintro e w' ⟨rfl,hE⟩;exact .inl ⟨_,[],_,env,rfl,hk,h.ext hE,pY (dY _ _ _)⟩
theorem V8:aj Tryz.prog a_ 146 Yu:=by
 refine⟨aF Tryz.func146 (by kernel_rfl) rfl,fun A s a w env nm ul vs F h hI hv hk=>?_⟩
 unfold Yu at hk
 split at hk
 rotate_left
 ·exact hk.elim
 rename_i k b
 match vs,hv with
 |[kv,bv],⟨h0,h1,_⟩=>
  obtain⟨kb,hkb,hk⟩:=mV h h0 hk;obtain⟨bb,hbb,hk⟩:=mV h h1 hk;obtain⟨⟨c0,c1⟩,hk⟩:=hk;refine (aQq kb bb kv bv w (hI.mem w h.gm) hkb hbb c0 c1).mono ?_;rintro e w' ⟨rfl,hE⟩;exact .inl ⟨_,[],_,env,rfl,hk,h.ext hE,pY (kQ _ _)⟩
theorem Oz:aj Tryz.prog a_ 40 Yu:=by
 refine⟨aF Tryz.func40 (by kernel_rfl) rfl,fun A s a w env nm ul vs F h hI hv hk=>?_⟩
 unfold Yu at hk
 split at hk
 rotate_left
 ·exact hk.elim
 rename_i k b
 match vs,hv with
 |[kv,bv],⟨h0,h1,_⟩=>
  obtain⟨kb,hkb,hk⟩:=mV h h0 hk;obtain⟨bb,hbb,hk⟩:=mV h h1 hk;obtain⟨⟨c0,c1⟩,hk⟩:=hk;refine (aIp kb bb kv bv w  hkb hbb c0 c1).mono ?_;rintro e w' ⟨rfl,hE⟩;exact .inl ⟨_,[],_,env,rfl,hk,h.ext hE,pY (kQ _ _)⟩
end Pv
namespace Pv
theorem bV{P:Program}{I:World->Prop}{l:List (Nat×Spec)}(h:∀ p∈l,aj P I p.1 p.2):aFc P I (find l):=by
 intro f sp hf
 induction l with
 |nil=>cases hf
 | cons p l ih=>
  by_cases hp:p.1=f
  ·obtain⟨f',sp'⟩:=p;subst hp;rw[aI] at hf;cases hf;exact h _ List.mem_cons_self
  ·obtain⟨f',sp'⟩:=p;rw[aJ _ _ hp] at hf;exact ih (fun q hq=>h q (List.mem_cons_of_mem _ hq)) hf
theorem fC:Tryz.prog.follows .mixedOrders=true:=by kernel_rfl
theorem bP:∀ w w',Ext w w'->a_ w->a_ w':=fun _ _ h hi=>hi.ext h
theorem kE{α:Type} [Inhabited α] (n i:Nat) (g:Nat->α) (h:i<n) (d:α):((List.range n).map g).getD i d=g i:=by
 rw[zG,List.getElem?_map,List.getElem?_range h];rfl
def Ce(l:List Int):Nat->List PC:=fun i=>[.lit (.int .i64 (l.getD i 0))]
def intOf:List PC->Int
 |[.lit (.int _ n)]=>n
 |_=>0
def isInt:List PC->Bool
 |[.lit (.int .i64 _)]=>true
 |_=>false
def Tt(n:Nat)(f:Nat->List PC):List Int:=(List.range n).map fun i=>intOf (f i)
def aKq(n:Nat)(f:Nat->List PC):Prop:=∀ i,i<n->isInt (f i)=true
theorem Ko{l:List PC}(h:isInt l=true):l=[.lit (.int .i64 (intOf l))]:=by
 unfold isInt at h
 split at h
 ·rfl
 ·cases h
@[simp] theorem xW(n:Nat)(f:Nat->List PC):(Tt n f).length=n:=by simp[Tt]
theorem Kq{n:Nat}{f:Nat->List PC}(h:aKq n f):∀ i,i<n->f i=Ce (Tt n f) i:=fun i hi=>by
 unfold Ce Tt;rw[kE n i _ hi];exact Ko (h i hi)
@[simp] theorem O5(n:Nat)(l:List Int):aKq n (Ce l):=fun _ _=>rfl
@[simp] theorem aPt(l:List Int):Tt l.length (Ce l)=l:=by
 apply List.ext_getElem (by simp);intro i h1 h2;simp only[Tt,List.getElem_map,List.getElem_range,Ce,intOf];rw[zG,zH h2];rfl
theorem R.yx{C:Ctx}{n len:Nat}{f f':Nat->List PC}{xs:List Value}(h:R C (.sl n len f) xs)(he:∀ i,i<len->f i=f' i):R C (.sl n len f') xs:=by
 cases h with
 |sl h1 h2 h3=>exact .sl h1 h2 (fun i hi=>by rw[<-he i hi];exact h3 i hi)
theorem gU.args{P:Program}{I:World->Prop}{f:Nat}{new:Bool}{args args':List PV}{res:PV}(h:gU P I f new args' res)(hv:∀ C vs,mi C args vs->mi C args' vs):gU P I f new args res:=
 fun w ok0 vs hI hV=>h w ok0 vs hI (hv _ vs hV)
theorem fG(k:Nat)(h:k<9223372036854775807):IntKind.i64.wrap ((k:Int)+1)=((k+1:Nat):Int):=by
 rw[IntKind.wrap_i64];omega
theorem getD_mem{α:Type}{l:List α}{i:Nat}(h:i<l.length)(d:α):l.getD i d∈l:=by
 rw[zG,zH h];exact List.getElem_mem h
theorem aBx{l:List PC}(h:l.all (cZ false)=true):∀ x∈l,cZ false x=true:=fun x hx=>List.all_eq_true.1 h x hx
def KJ:List (Nat×Spec):=[(107,Yt),(24,Yt),(145,yU),(39,yU),(176,uS),(156,uS),
 (106,uT),(22,uT),(146,Yu),(40,Yu)
 ]
theorem bCd:∀ p∈KJ,aj Tryz.prog a_ p.1 p.2:=by
 intro p hp;simp only[KJ,List.mem_cons,List.not_mem_nil,or_false] at hp;rcases hp with rfl|rfl|rfl|rfl|rfl|rfl|rfl|rfl|rfl|rfl
 ·exact VJ
 ·exact P5
 ·exact NP
 ·exact bAk
 ·exact bDv
 ·exact aVv
 ·exact bDw
 ·exact aVw
 ·exact V8
 ·exact Oz
theorem aAU:l_ Tryz.prog a_ (find KJ):=⟨bV bCd,fC⟩
end Pv
end Go.Proofs.YtndpjopifkbgiaaGreatDoor
