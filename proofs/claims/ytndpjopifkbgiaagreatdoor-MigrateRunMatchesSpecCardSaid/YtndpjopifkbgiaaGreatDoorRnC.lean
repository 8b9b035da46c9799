/-
  Several texts in one file.
-/
import Derived.Test.YtndpjopifkbgiaaGreatDoorRnB
import Derived.Test.YtndpjopifkbgiaaGreatDoorRnA
import Derived.Scope
import Derived.WalkMore
import Derived.Great.BuildSlice
import Derived.Deep.RegionLaw
import Derived.Deep.Cut
import Derived.Shelf.Strings.Repeat
import Derived.Shelf.Strings.Prefix
import Derived.Test.YtndpjopifkbgiaaGreatDoorProg
import Derived.StillTail
import Derived.RegionTactic
import Derived.Shelf.Spec.SlicesGrow
set_option maxRecDepth 100000
set_option maxHeartbeats 4000000
open Go.Proofs.Tryz
open _root_.List renaming length_append->gz,length_take->ww,length_drop->MM,getElem?_append_left->aBD,mem_cons->xn,getElem?_take->yf,getElem?_append_right->aBi,prefix_append->aBW,getElem?_eq_none->PR,mem_cons_of_mem->aAD,prefix_refl->aCX,length_cons->We,take_of_length_le->WF,mem_cons_self->aAw,getElem?_drop->aAk,mem_of_getElem?->aCH,ext_getElem?->aAX,not_mem_nil->aAe,take_append_drop->aCY,append_nil->AC,append_assoc->GM,ext_getElem->aBR,cons_append->C_,nil_append->IR,getElem_range->aCA,getElem?_map->aAg,drop_zero->aBk,getElem_mem->aBI,getElem_map->aCI,getD_cons_succ->aFE,range->yz,getElem?_cons_succ->aCQ,take_length->aCR,drop_of_length_le->aCV,length_set->aAA,length_replicate->aCG,replicate->Pi,take_succ_cons->aJG,getElem?_range->aDc,getD_cons_zero->aJU,take_add_one->aDR,take_append_of_le_length->aDM,getElem?_zip_eq_some->aKh,drop_eq_getElem_cons->aEz,map_cons->aAJ,getElem?_cons_zero->aBN,getElem?_set_self->aDZ,singleton_append->aDX,length_singleton->aBY,getElem?_set_ne->aEb,map_append->aBc,foldl_cons->aEB,take_left->aHs,drop_left->aHu,map_nil->aCU
open _root_.Array renaming length_toList->nz,replicate->DD,ext'->TC
open _root_.Nat renaming le_refl->dE,beq->bz,mod_eq_of_lt->aCN,zero_add->mf,zero_le->x8,lt_of_lt_of_le->aAF,lt_or_eq_of_le->aER,eq_zero_or_pos->aCE,min_eq_left->aCZ,sub_self->aBa,pow_succ->aEL,lt_or_ge->aAW,le_trans->ry,div_lt_iff_lt_mul->aJE,le_of_lt_succ->aJV,and_two_pow_sub_one_eq_mod->aJm,add_zero->aBK,zero_mul->aDN,succ_mul->aDL,add_comm->aBS,mul_one->aBq,mul_zero->aFd,mul_comm->aFA,ble->aBT
open _root_.And renaming intro->az
open _root_.Int renaming toNat_natCast->VM,tmod_eq_emod_of_nonneg->aEI,emod_eq_of_lt->aEU,toNat->aBF
open _root_.Go.World renaming putObj_heap_other->aCL
open _root_.Go.IntKind renaming wrap_i64->PP
open _root_.Go renaming Program->ed,undef->dC,World->ae,fenced_wide->aCP,wpAnyIn_take->aDm,Value->ag,TypeId->bu,callFunc->aAE,PanicEntry->aBG,FuncId->aCB,Code->Hm,Calls->lL,Exit->uk
open _root_.Bool renaming and_eq_true->zg
open _root_.Eq renaming trans->aBE,refl->aBP
open _root_.ByteArray renaming ext->aFH
namespace Go.Proofs.YtndpjopifkbgiaaGreatDoor
open Go.RowKit
namespace Pv
def FT(g:Nat)(hd:ag):Nat->Option ag:=fun x=>match bz x px,bz x dx with
 |true,_=>some (kJ g)|false,true=>some hd|false,false=>none
def DI(g:Nat)(hd:ag):Env:=fun x=>(FT g hd x).map fun h=>(0,h)
def Ep(hd:ag):Env:=fun x=>match bz x dx with
 |true=>some (0,hd)|false=>none
theorem aMb{g:Nat}{hd:ag}{x:Nat}{h:ag}(e:FT g hd x=some h):(x=px/\h=kJ g)\/(x=dx/\h=hd):=by unfold FT at e;split at e;rename_i b;cases e;exact .inl ⟨iy b,rfl⟩;rename_i b c;cases e;exact .inr ⟨iy c,rfl⟩;cases e
theorem uU{g:Nat}{hd:ag}{x l9:Nat}{h:ag}(e:DI g hd x=some (l9,h)):l9=0/\((x=px/\h=kJ g)\/(x=dx/\h=hd)):=by
 unfold DI at e;cases b:FT g hd x with
 |none=>rw[b] at e;cases e|some c=>rw[b] at e;cases e;exact⟨rfl,aMb b⟩
theorem aMf{hd:ag}{x l9:Nat}{h:ag}(e:Ep hd x=some (l9,h)):x=dx/\l9=0/\h=hd:=by unfold Ep at e;split at e;rename_i b;cases e;exact⟨iy b,rfl,rfl⟩;cases e
def SD(g:Nat)(D:Dv):Nat->Prop:=fun b=>D.S b\/b=g
def aAR(P:ed)(I:jg)(f:Nat)(t:bu)(l l':g_)(O:ut)(h0 h1:je)(gm:je->Prop)(args:ji)(n:PV):Prop:=
 ∀ (w:ae) (h:uy) (o:jl) (g:Nat) (D:Dv) (m:uy),
  (∀ d,gq (SD g D) w d->I d)->(∀ b,SD g D b->b<w.heap.size/\¬h b)->qw P D gm->(∀ l X Y w d c,D.pan l X w c->gq X w d->(∀ b,Y b->X b)->D.pan l Y d c)->D.O=O ->
  D.inv h0 m w->m g->(∃ j,eu w g t j/\RL { w,ok:=h,env:=Ep D.hd } (.dv::l) j.toList) ->
  pq { w,ok:=h,env:=DI g D.hd } args o ->
  lL P f o.toArray w fun e d=>gq (SD g D) w d /\
   ((∃ i,e=.returned i/\RV { w:=d,ok:=rJ w h false,env:=fun _=>none } n i/\(∃ j,eu d g t j/\RL { w:=d,ok:=rJ w h false,env:=Ep D.hd } (.dv::l') j.toList)/\D.inv h1 m d)
   \/ (∃ c k,e=.panicked c/\gm k/\O k=none/\D.pan k m d c))
def bCB(t:bu)(l':g_)(O:ut)(h1:je)(gm:je->Prop)(s:St):Prop:=(∃ b,find s.o px=some (none,0,.box t (.dv::b))/\IK s false b l')/\find s.o dx=some (none,0,.dev O gm h1)
def RQD(P:ed)(A:o_)(fn:Func)(t:bu)(l':g_)(O:ut)(h1:je)(gm:je->Prop)(b:PV):uk->Act->ae->Prop
 |.panic chain,a,w=>a.defers=[]/\E5 A chain w|e,a,w=>(e=.normal\/e=.ret)/\∃ s,(VI P fn false b s/\bCB t l' O h1 gm s)/\qj A s a w
theorem nS{P:ed}{I:jg}{f:Nat}{fn:Func}{c:Hm}{t:bu}{l l':g_}{O:ut}{h0 h1:je}{gm:je->Prop}{args:ji}{N:PV}(hf:P.funcs[f]?=some fn)(hb:fn.body=some c)(b3:aBT args.length fn.ntmps=true)
  (hT:∀ A:o_,A.nt=fn.ntmps->l_ P I A->kw P A ⟨slots 0 args,[(dx,none,0,.dev O gm h0),(px,none,0,.box t (.dv::l))]⟩ c (RQD P A fn t l' O h1 gm N)):aAR P I f t l l' O h0 h1 gm args N:=by
 intro w u vs g D X0 hM C a7 a9 hO b4 b5 b0 hv;have b8:=hv.length;have hn:=Nat.le_of_ble_eq_true b3;subst hO;let A:o_:=⟨w,SD g D,u,fn.ntmps,FT g D.hd,D,gm,X0,[]⟩;have hA:l_ P I A:=⟨hM,fun b h=>.inl h,C,a7,fun l X B hi=>rfl,a9⟩;have Y:g<w.heap.size/\¬u g:=C g (.inr rfl);have V:∀ b,ownB A (DI g D.hd) b->X0 b:=by rintro b (h|⟨x,d,i,h1,j⟩);exact h;rcases (uU h1).2 with⟨_,rfl⟩|⟨_,rfl⟩;rw[mM j];exact b5;rw[D.AB] at j;cases j
 have G:∀ {b x d i},DI g D.hd x=some (d,i)->hblk i=some b->b=g:=by intro b x d i h1 j;rcases (uU h1).2 with⟨_,rfl⟩|⟨_,rfl⟩;exact mM j;rw[D.AB] at j;cases j
 have H:∀ {E:Env},(∀ x d i,E x=some (d,i)->∃ p,DI g D.hd x=some (p,i)/\d<=p/\(d=p->i=i))->({ w,ok:=u,env:=E }:Ctx).Le (aP A w (DI g D.hd)):=fun r=>
  ⟨
   dE _,fun b b9 ho=>⟨⟨.inl ho,fun x d i q hb=>Y.2 (G q hb ▸ ho)⟩,rfl⟩,fun x d i h=>by
   obtain⟨p,h1,j,_⟩:=r x d i h
   exact⟨p,i,h1,j,fun _=>rfl⟩⟩
 have W:({ w,ok:=u,env:=Ep D.hd }:Ctx).Le (aP A w (DI g D.hd)):=H fun x d i h=>by obtain⟨rfl,rfl,rfl⟩:=aMf h;exact⟨0,rfl,dE _,fun _=>rfl⟩
 have hg:qj A ⟨slots 0 args,[(dx,none,0,.dev D.O gm h0),(px,none,0,.box t (.dv::l))]⟩ { tmps:=vs.toArray++DD (fn.ntmps-vs.toArray.size) dC,defers:=[] } w:=by
  refine⟨DI g D.hd,{ iw:=gq.refl _ _,size:=?_,dom:=fun x q=>?_,lu:=fun x g' d o h=>?_,live:=fun x d i b h hb=>?_,inj:=fun x y v1 h1 v2 j b q hy a4 a3=>?_,tmps:=fun t g pv h c0=>?_,defers:=rfl,und:=fun t pv h=>(by obtain⟨k,_,j⟩:=rU h;cases j),pg:=fun x i q=>?_,dev:=fun g' d O b7 l h _=>?_ }⟩;simp[A];omega;by_cases h1:dx=x;subst h1;rw[aG] at q;cases q;rw[aF _ _ h1] at q;by_cases j:px=x;subst j;rw[aG] at q;cases q;unfold DI FT
  have b1:bz x px=false:=by
   cases hb:bz x px with
   |false=>rfl|true=>exact absurd (iy hb).symm j
  have b2:bz x dx=false:=by
   cases hb:bz x dx with
   |false=>rfl|true=>exact absurd (iy hb).symm h1
  rw[b1,b2];rfl;by_cases h1:dx=x;subst h1;rw[aG] at h;cases h;exact⟨D.hd,rfl,fun _=>trivial⟩;rw[aF _ _ h1] at h;by_cases j:px=x;subst j;rw[aG] at h;cases h;obtain⟨S,L,h4⟩:=b0;exact⟨kJ g,rfl,fun _=>⟨g,S,rfl,L,h4.le W⟩⟩;rw[aF _ _ j] at h;cases h;have:=G h hb;subst this;refine⟨Y.1,.inr ⟨.inr rfl,?_⟩⟩;rcases (uU h).2 with⟨rfl,_⟩|⟨rfl,rfl⟩;rfl;rw[D.AB] at hb;cases hb;rcases (uU q).2 with⟨rfl,_⟩|⟨_,rfl⟩;rcases (uU hy).2 with⟨rfl,_⟩|⟨_,rfl⟩;rfl;rw[D.AB] at a3;cases a3;rw[D.AB] at a4;cases a4;obtain⟨k,h1,j⟩:=uQ h;obtain⟨v,L,h4⟩:=hv.at j;rw[mf] at h1;subst h1;have hk:t<vs.length:=(List.getElem?_eq_some_iff.1 L).1
  refine⟨v,?_,h4.le (H fun x d i h=>⟨d,h,dE _,fun _=>rfl⟩)⟩;rw[Array.getElem?_append_left (by simpa using hk)];simpa using L
  ·refine⟨?_,0,i,?_,dE _,fun _=>rfl⟩
   ·rcases aMb q with⟨rfl,_⟩|⟨rfl,_⟩<;>rfl
   show DI g D.hd x=some (0,i);unfold DI;have:FT g D.hd x=some i:=q;rw[this];rfl
  rw[aG] at h;cases h;exact⟨rfl,rfl,D.grow _ _ _ _ _ b4 (gq.refl _ _) (fun b hb=>.inl (V b hb))⟩
 refine calls_of_wp hf hb (wp_mono (hT A rfl hA _ w hg (fun _ _ _ i h=>⟨i,h⟩)) (fun e a' B he=>?_));cases e with
 |panic m=>obtain⟨i,l,h1,j,L,h4⟩:=he;exact⟨i,h4,.inr ⟨m,l,rfl,h1,j,L⟩⟩
 |exit id=>obtain⟨h1|h1,_⟩:=he<;>cases h1
 |goto _=>obtain⟨h1|h1,_⟩:=he<;>cases h1
 |outgrown=>obtain⟨h1|h1,_⟩:=he<;>cases h1
 | normal|ret=>
  obtain⟨_,s,⟨⟨v,j,L⟩,⟨l2,Q,q⟩,a5⟩,env,r⟩:=he;obtain⟨v',z,h5,h6,h7,_⟩:=vN r j;subst h7;have J:env px=some (0,kJ g):=by obtain⟨i,K,_⟩:=r.lu px none 0 _ Q;have:=(r.pg px (kJ g) rfl).2.now K;rw[K,this]
  have a1:env dx=some (0,D.hd):=by obtain⟨i,K,_⟩:=r.lu dx none 0 _ a5;have:=(r.pg dx D.hd rfl).2.now K;rw[K,this]
  obtain⟨_,_,hi⟩:=r.dev none 0 _ _ _ a5 trivial;have hS:Dj A s env:=by intro x g' d e n len f0 i b Z a0 a2 T;rcases T with T|T;exact D.notS _ _ _ _ hi (.inr ⟨x,d,i,a0,a2⟩) T;have a8:b=g:=T;subst a8;have:=r.inj x px d i 0 _ b a0 J a2 rfl;subst this;rw[Q] at Z;cases Z
  have U:=aUf r hS L h6
  have this:a'.defers=[]/\∃ v,(results fn a'.tmps).run P B=.ok v B/\(gq (SD g D) w B /\
   ((∃ z,Ending.returned v=.returned z/\RV { w:=B,ok:=rJ w u false,env:=fun _=>none } N z/\(∃ S,eu B g t S/\RL { w:=B,ok:=rJ w u false,env:=Ep D.hd } (.dv::l') S.toList)/\D.inv h1 X0 B)
   \/ (∃ m l,Ending.returned v=.panicked m/\gm l/\D.O l=none/\D.pan l X0 B m))):=by
   refine⟨r.defers,z,h5,r.iw,.inl ⟨z,rfl,U,?_,D.grow _ _ _ _ _ hi (gq.refl _ _) (fun b hb=>.inl (.inl hb))⟩⟩;obtain⟨i,K,h9⟩:=r.lu px none 0 _ Q;obtain⟨g1,S,e1,b6,a6⟩:=h9 trivial;rw[J] at K;cases K;cases e1;refine⟨S,b6,?_⟩;generalize S.toList=zs at a6 ⊢;cases a6 with
   | cons k1 k2=>
    refine .cons ?_ ((aUg r hS q k2).le ⟨dE _,fun b _ hb=>⟨hb,rfl⟩,fun _ _ _ h=>by cases h⟩);cases k1 with
    |dv j1 j2=>have e3:=j2.now a1;subst e3;exact .dv j1 ⟨0,D.hd,rfl,dE _,fun _=>rfl⟩
  exact this
section
variable {P:ed} {I:jg} {A:o_} {s:St} {a:Act} {w:ae} {env:Env} {F:og->PV->Wr->Prop}
theorem ig.QJ(h:ig A s a w env){w':ae}{O:ut}{gm:je->Prop}{l l':je}{K g':og}{x l9 u t:Nat}{p p':g_}(E:find s.o dx=some (K,0,.dev O gm l))(Q:gT K)(sub:∀ b,A.dv.S b->A.S b)(old:∀ b,A.dv.S b->b<A.w0.heap.size/\¬A.ok0 b)
  (D:find s.o x=some (g',l9,.box t p)) (J:env x=some (l9,kJ u)) (z:gq (fun b=>A.dv.S b\/b=u) w w') (hi:A.dv.inv l' (ownB A env) w') (N:(aP A w env).Le (aP A w' env)->∃ L,eu w' u t L/\RL (aP A w' env) p' L.toList) :
  ig A { s with o:=(dx,none,0,.dev O gm l')::(x,none,l9,.box t p')::s.o } a w' env/\(aP A w env).Le (aP A w' env):=by
 obtain⟨hO,B,C⟩:=h.dev K 0 O gm l E Q;have Y:x≠dx:=fun e=>by subst e;rw[E] at D;cases D
 have k:(aP A w env).Le (aP A w' env):=⟨z.size,fun b q r=>⟨r,z.block b q (fun j=>by
  rcases j with j|rfl;rcases r.1 with d|d;exact (old b j).2 d;have:=(old b j).1;omega
  exact r.2 x l9 _ J rfl)⟩,fun x l9 i Z=>⟨l9,i,Z,dE _,fun _=>rfl⟩⟩
 have T:=h.live x l9 _ u J rfl;refine⟨{ iw:=h.iw.trans' z (fun _ _ h=>h) (fun b q j=>?_),size:=h.size,dom:=fun y n=>?_,lu:=fun y X f o c=>?_,live:=fun y l9 i b d m=>⟨aAF (h.live y l9 i b d m).1 z.size,(h.live y l9 i b d m).2⟩,inj:=h.inj,tmps:=fun t g pv E U=>let ⟨v,d,m⟩:=h.tmps t g pv E U;⟨v,d,m.le k⟩,defers:=h.defers,und:=h.und,pg:=fun y i n=>⟨(h.pg y i n).1,(h.pg y i n).2.le k⟩,dev:=fun X f O2 W l2 c a0=>?_ },k⟩;rcases j with j|rfl;exact sub b j;rcases T.2 with d|d;omega;exact d.1
 by_cases d:dx=y;subst d;rw[aG] at n;cases n;rw[aF _ _ d] at n;by_cases m:x=y;subst m;rw[aG] at n;cases n;rw[aF _ _ m] at n;exact h.dom y n;by_cases d:dx=y;subst d;rw[aG] at c;cases c;obtain⟨i,d,_⟩:=h.lu dx K 0 _ E;exact⟨i,d,fun _=>trivial⟩;rw[aF _ _ d] at c;by_cases m:x=y;subst m;rw[aG] at c;cases c;obtain⟨L,H,V⟩:=N k;exact⟨kJ u,J,fun _=>⟨u,L,rfl,H,V⟩⟩;rw[aF _ _ m] at c;obtain⟨i,H,V⟩:=h.lu y X f o c
 exact⟨i,H,fun U=>(V U).Az k (fun b G q=>z.block b q (fun j=>by
  rcases j with j|rfl;exact A.dv.notS _ _ _ _ C (.inr ⟨y,f,i,H,G⟩) j
  exact m (h.inj x y l9 _ f i b J H rfl G)))⟩
 rw[aG] at c;cases c;exact⟨hO,B,hi⟩
theorem ig.Hf{l:je}{O:ut}{gm:je->Prop}{x l9:Nat}{q m:og}{o:oh}{r:oh}(h:ig A { s with o:=(dx,none,0,.dev O gm l)::(x,none,l9,o)::s.o } a w env)(p:find s.o x=some (q,l9,o))(_:find s.o dx=some (m,0,r))(_:gT q):ig A { s with o:=(dx,none,0,.dev O gm l)::s.o } a w env:=by
 have j:∀ y g v e,find ((dx,none,0,oh.dev O gm l)::s.o) y=some (g,v,e)->∃ f,find ((dx,none,0,oh.dev O gm l)::(x,none,l9,o)::s.o) y=some (f,v,e)/\(gT g->gT f):=by intro y g v e b;by_cases d:dx=y;subst d;rw[aG] at b ⊢;exact⟨g,b,id⟩;rw[aF _ _ d] at b ⊢;by_cases c:x=y;subst c;rw[p] at b;cases b;rw[aG];exact⟨none,rfl,fun _=>trivial⟩;rw[aF _ _ c];exact⟨g,b,id⟩
 refine { iw:=h.iw,size:=h.size,dom:=fun y b=>h.dom y ?_,lu:=fun y g v e b=>?_,live:=h.live,inj:=h.inj,tmps:=h.tmps,defers:=h.defers,und:=h.und,pg:=h.pg,dev:=fun g v B i t b k=>?_ };by_cases d:dx=y;subst d;rw[aG] at b;cases b;rw[aF _ _ d] at b ⊢;by_cases c:x=y;subst c;rw[p] at b;cases b;rw[aF _ _ c];exact b;obtain⟨f,d,c⟩:=j y g v e b;obtain⟨hd,z,u⟩:=h.lu y f v e d;exact⟨hd,z,fun n=>u (c n)⟩;obtain⟨f,d,c⟩:=j dx g v _ b;exact h.dev f v B i t d (c k)
def aXs (t:bu) (hist:(je->Option u_)->je->g_->ji->je) (g:(je->Option u_)->je->g_->ji->Option (Prop×PV)):Spec:=fun _ j=>match j with
 | .w (.one (.pt x d e))::rest=>(match bz e 0,Hy rest with
  | true,some b=>.obj x fun q m o=>kL q (match bz d m,o with
   | true,.box n (.dv::l)=>(match bz t n,l.all (bT false) with
    | true,true=>.obj dx fun i c f=>kL i (match bz c 0,f with
     |true,.dev O gm k=>(match g O k l b with
      |some (p,r)=>.need p (.need (∀ h,k <+: h->h <+: hist O k l b->O h=none->gm h) (.upd dx 0 (.dev O gm (hist O k l b)) (.ret r)))|none=>.fail)
     |_,_=>.fail)
    |_,_=>.fail)
   |_,_=>.fail)
  |_,_=>.fail)
 |_=>.fail
theorem bFb {f:Nat} {t:bu} {hist:(je->Option u_)->je->g_->ji->je} {g:(je->Option u_)->je->g_->ji->Option (Prop×PV)} (Z:∀ args w,(aAE f args).run P w=.ok (.enter f args) w)
  (hg:∀ O k l D p r,g O k l D=some (p,r)->p->aAR P I f t l l O k (hist O k l D) (fun h=>k <+: h/\h <+: hist O k l D) (.w (.one (.pt px 0 0))::D) r):b_ P I f (aXs t hist g):=by
 refine⟨Z,fun A s a w env nm b6 vs F h n hv c=>?_⟩;unfold aXs at c;split at c
 ·rename_i x o a9 L
  cases d:bz a9 0<;>cases hr:Hy L<;>simp only[d,hr] at c<;>try exact c.elim
  rename_i D;obtain rfl:=iy d;obtain⟨gd,vr,ob,G,c⟩:=c;have E:=dZ c;clear c;obtain⟨W,c⟩:=E;obtain⟨hd,he,b1⟩:=kX h G W
  cases a3:bz o vr<;>simp only[a3] at c<;>try exact c.elim
  obtain rfl:=iy a3;split at c
  ·rename_i t' l _
   cases a2:bz t t'<;>cases hc:l.all (bT false)<;>simp only[a2,hc] at c<;>try exact c.elim
   obtain rfl:=iy a2;obtain⟨a5,a7,b0,j,c⟩:=c;have E:=dZ c;clear c;obtain⟨B,c⟩:=E
   cases a1:bz a7 0<;>cases b0<;>simp only[a1] at c<;>try exact c.elim
   rename_i O gm k;obtain rfl:=iy a1;cases hq:g O k l D with
   |none=>rw[hq] at c;exact c.elim| some q=>
    obtain⟨p,r⟩:=q;rw[hq] at c;obtain⟨hp,S,_,hF⟩:=c;obtain⟨hO,Q,z⟩:=h.dev a5 0 O gm k j B;subst hO Q;have Y:=n.dvh _ _ _ z;obtain⟨b8,u,_⟩:=h.lu dx a5 0 _ j;obtain rfl:=(h.pg dx _ Y).2.now u
    match vs,hv with
    | v :: vs,⟨hv1,hv2⟩=>
     obtain⟨C,rfl,rfl⟩:=hv1.Ba he;obtain⟨g1,cs,e1,hB,hR⟩:=b1;cases e1;have b2:C<w.heap.size:=hB.lt;have X:=h.live x o _ C he rfl;have U:¬(aP A w env).ok C:=fun i=>i.2 x o _ he rfl
     have H:RL { w:=w,ok:=(aP A w env).ok,env:=Ep A.dv.hd } (.dv::l) cs.toList:=by
      generalize cs.toList=zs at hR ⊢;cases hR with
      | cons k1 k2=>
       refine .cons ?_ ((kV k2 hc).le ⟨dE _,fun b _ d=>⟨d,rfl⟩,fun _ _ _ h=>by cases h⟩);cases k1 with
       |dv j1 j2=>have e3:=j2.now u;subst e3;exact .dv j1 ⟨0,A.dv.hd,rfl,dE _,fun _=>rfl⟩
     refine (hg A.dv.O k l D p r hq hp w (aP A w env).ok (kJ C::vs) C A.dv (ownB A env)
      (
       fun w' N=>n.mem w' (h.iw.trans' N (fun _ _ h=>h) (fun b V d=>by
       rcases d with d|rfl;exact n.sub b d;rcases X.2 with m|m;omega
       exact m.1)))
      (
       fun b d=>by
       rcases d with d|rfl;have m:=n.old b (n.sub b d)
       refine⟨aAF m.1 h.iw.size,fun i=>?_⟩;rcases i.1 with J|J;exact m.2 J;omega
       exact⟨b2,U⟩)
      (n.step.mono fun l2 m J=>S l2 m.1 m.2 J) n.DV rfl z (.inr ⟨x,o,_,he,rfl⟩) ⟨cs,hB,H⟩
      ⟨.w (.one (.pt ⟨C,0,rfl⟩ ⟨0,kJ C,rfl,dE _,fun _=>⟨C,rfl,rfl⟩⟩)),aDb aJg hr hv2⟩).mono ?_
     rintro e w' ⟨N,⟨a8,rfl,T,⟨a6,b5,a4⟩,b3⟩|⟨K,l2,rfl,m,J,h3⟩⟩
     obtain⟨h4,h5⟩:=h.QJ (w':=w') (p':=.dv::l) j B n.sub (fun b d=>n.old b (n.sub b d)) G he N b3 (fun b7=>⟨a6,b5,by
      generalize a6.toList=zs at a4 ⊢;cases a4 with
      | cons k1 k2=>
       refine .cons ?_ (?_:RL _ _ _);cases k1 with
       |dv j1 j2=>have e3:=j2.now (show Ep A.dv.hd dx=some (0,A.dv.hd) from rfl);subst e3;exact .dv j1 ⟨0,A.dv.hd,u,dE _,fun _=>rfl⟩
       refine k2.le ⟨dE _,fun b d i=>⟨?_,rfl⟩,fun y v2 a0 hy=>?_⟩;rcases i with⟨_,i⟩|i;exact i
       exact⟨.inr (ry h.iw.size i),fun y v2 a0 hy b4=>by have:=(h.live y v2 a0 b hy b4).1;omega⟩;obtain⟨rfl,rfl,rfl⟩:=aMf hy
       exact⟨0,_,u,dE _,fun _=>rfl⟩⟩)
     exact .inl ⟨r,_,a8,env,rfl,hF,h4.Hf G j W,T.le (aAn h N.size)⟩;refine .inr ⟨K,rfl,l2,S l2 m.1 m.2 J,J,n.DV _ _ _ _ _ _ h3 (gq.refl _ _) (fun b d=>.inl d),h.iw.trans' N (fun _ _ h=>h) (fun b V d=>?_)⟩;rcases d with d|rfl;exact n.sub b d;rcases X.2 with m|m;omega;exact m.1
  exact c.elim
 exact c.elim
variable {w w':ae}
theorem ig.many(h:ig A s a w env)(wr:Wr)(C:gq (fun b=>∃ p∈wr,∃ d,env p.1=some (p.2.2.1,d)/\hblk d=some b) w w')
  (G:∀ p∈wr,p.2.1=none/\(∀ O gm l,p.2.2.2≠.dev O gm l)/\∃ d,env p.1=some (p.2.2.1,d)/\((aP A w env).Le (aP A w' env)->pJ (aP A w' env) d p.2.2.2)) :
  ig A { s with o:=wr++s.o } a w' env/\(aP A w env).Le (aP A w' env):=by
 have u:(aP A w env).Le (aP A w' env):=⟨C.size,fun b B H=>⟨H,C.block b B (fun⟨p,_,d,m,f⟩=>H.2 _ _ _ m f)⟩,fun x c d Q=>⟨c,d,Q,dE _,fun _=>rfl⟩⟩
 have n:∀ (l:Wr) x,(∃ p∈l,p.1=x/\find (l++s.o) x=some p.2)\/((∀ p∈l,p.1≠x)/\find (l++s.o) x=find s.o x):=by
  intro l x
  induction l with
  |nil=>exact .inr ⟨(fun p z=>by cases z),rfl⟩|cons p l Z=>by_cases z:p.1=x;exact .inl ⟨p,aAw,z,by rw[<-z];exact aG _ _ _⟩;have e:find (p::l++s.o) x=find (l++s.o) x:=aF _ _ z;rcases Z with⟨q,m,f,r⟩|⟨m,f⟩;exact .inl ⟨q,aAD _ m,f,e.trans r⟩;refine .inr ⟨fun q S=>?_,e.trans f⟩;rcases List.mem_cons.1 S with rfl|S;exact z;exact m q S
 refine⟨{ iw:=?_,size:=h.size,dom:=fun x Q=>?_,lu:=fun x g c o K=>?_,live:=fun x c d b m f=>⟨aAF (h.live x c d b m f).1 C.size,(h.live x c d b m f).2⟩,inj:=h.inj,tmps:=fun t g pv K J=>let ⟨v,m,f⟩:=h.tmps t g pv K J;⟨v,m,f.le u⟩,defers:=h.defers,und:=h.und,pg:=fun y d V=>⟨(h.pg y d V).1,(h.pg y d V).2.le u⟩,dev:=fun g c O gm l K J=>?_ },u⟩;refine h.iw.trans' C (fun _ _ h=>h) (fun i hi ⟨p,_,d,m,f⟩=>?_);rcases (h.live _ _ d i m f).2 with r|r;omega;exact r.1;rcases n wr x with⟨p,_,_,r⟩|⟨_,f⟩;have E:find (wr++s.o) x=none:=Q;rw[r] at E;cases E;exact h.dom x (f.symm.trans Q);have j:find (wr++s.o) x=some (g,c,o):=K;rcases n wr x with⟨p,m,f,r⟩|⟨m,f⟩;rw[r] at j;obtain⟨D,_,d,N,L⟩:=G p m;obtain⟨W,g',X,Y⟩:=p;dsimp only at D N L f;subst f;cases j
 exact⟨d,N,fun _=>L u⟩;rw[f] at j;obtain⟨d,r,h4⟩:=h.lu x g c o j;exact⟨d,r,fun J=>(h4 J).Az u (fun b U B=>C.block b B (fun⟨p,z,T,h5,h6⟩=>m p z (h.inj p.1 x _ T c d b h5 r h6 U)))⟩;have j:find (wr++s.o) dx=some (g,c,.dev O gm l):=K;rcases n wr dx with⟨p,m,f,r⟩|⟨m,f⟩;rw[r] at j;obtain⟨_,D,_⟩:=G p m;obtain⟨W,g',X,Y⟩:=p;cases j;exact absurd rfl (D O gm l);rw[f] at j;obtain⟨D,N,L⟩:=h.dev g c O gm l j J
 exact⟨D,N,A.dv.grow _ _ _ _ _ L (C.mono fun k _ ⟨p,_,d,e1,e2⟩=>.inr ⟨p.1,_,d,e1,e2⟩) (fun b hb=>.inl hb)⟩
structure Gv where
 x:Nat
 vr:Nat
 t:bu
 l:g_
def aDr:ji->Nat->(List Gv->ji->M)->M
 |[],_,k=>k [] []| .w (.one (.pt x d f))::l,i,k=>(match bz f 0 with
  | true=>.obj x fun m g j=>kL m (match bz d g,j with
   |true,.box t c=>(match c.all (bT false) with
    |true=>aDr l (i+1) fun e b=>k (⟨x,g,t,c⟩::e) (dm (.pt (px+i) 0 0)::b)|false=>.fail)
   |_,_=>.fail)
  |false=>.fail)
 |v::l,i,k=>(match FV v with
  |some h=>aDr l i fun e b=>k e (h::b)|none=>.fail)
def writeM:List Gv->List g_->M->M
 |[],[],k=>k|o::os,c::cs,k=>.upd o.x o.vr (.box o.t c) (writeM os cs k)|_,_,_=>.fail
def distinct:List Gv->Bool
 |[]=>true|o::os=>(os.all fun p=>!Nat.beq o.x p.x)&&distinct os
def Hz:Nat->List Gv->List g_->List Ob
 |i,o::os,c::cs=>⟨px+i,o.t,o.l,c⟩::Hz (i+1) os cs|_,_,_=>[]
def bBh(g:List (bu×g_)->ji->Option (Prop×List g_×PV)):Spec:=fun _ e=>aDr e 0 fun b d=>(match distinct b,g (b.map fun o=>(o.t,o.l)) d with
 |true,some (p,c,r)=>(match bz c.length b.length with
  |true=>.need p (writeM b c (.ret r))|false=>.fail)
 |_,_=>.fail)
def aIV:Option (Nat×ag)->Nat
 |some (_,.pointer (some a))=>a.block|_=>0
def Dx(os:List Gv)(env:Nat->Option (Nat×ag))(n:Nat):Nat:=aIV ((os[n-px]?).bind fun o=>env o.x)
def aMM(C:Ctx)(o:Gv):Prop:=∃ g b,C.env o.x=some (o.vr,kJ g)/\eu C.w g o.t b/\RL C.cold o.l b.toList
theorem aIs(h:ig A s a w env):∀ {d:ji} {D:jl} {i:Nat} {k:List Gv->ji->M},pq (aP A w env) d D->(aDr d i k).ok none s F ->
  ∃ e f,(∀ o∈e,aMM (aP A w env) o)/\(∀ g:Ctx,(aP A w env).cold.Le g->(∀ (j:Nat) o,e[j]?=some o->∀ p,env o.x=some (o.vr,p)->g.env (px+(i+j))=some (0,p))->pq g f D)/\(k e f).ok none s F
 |[],[],i,k,_,b=>⟨[],[],(fun o B=>by cases B),fun _ _ _=>trivial,b⟩|[],_::_,_,_,hv,_=>hv.elim|_::_,[],_,_,hv,_=>hv.elim| pv::d,v::D,i,k,⟨h1,h2⟩,b=>by
  have r:∀ y,FV pv=some y->(aDr d i fun e f=>k e (y::f)).ok none s F->∃ e f,(∀ o∈e,aMM (aP A w env) o)/\(∀ g:Ctx,(aP A w env).cold.Le g->(∀ (j:Nat) o,e[j]?=some o->∀ p,env o.x=some (o.vr,p)->g.env (px+(i+j))=some (0,p))->pq g f (v::D))/\(k e f).ok none s F:=by intro y H N;obtain⟨e,f,W,V,U⟩:=aIs h h2 N;exact⟨e,y::f,W,fun g m E=>⟨bRv m H h1,V g m E⟩,U⟩
  unfold aDr at b;split at b;cases ‹_::_=[]›
  ·rename_i x q z l u;obtain⟨rfl,rfl⟩:pv=.w (.one (.pt x q z))/\d=l:=by simpa using u
   cases Y:bz z 0<;>rw[Y] at b
   exact b.elim;obtain rfl:=iy Y;obtain⟨gd,Z,ob,S,b⟩:=b;have L:=dZ b;clear b;obtain⟨Q,b⟩:=L;obtain⟨p,T,K⟩:=kX h S Q
   cases C:bz q Z<;>cases ob<;>simp only[C] at b<;>try exact b.elim
   rename_i t c;obtain rfl:=iy C
   cases X:c.all (bT false)<;>rw[X] at b
   exact b.elim;obtain⟨G,rfl,rfl⟩:=h1.Ba T;obtain⟨g1,cs,e1,hB,hR⟩:=K;cases e1;obtain⟨e,f,W,V,U⟩:=aIs h h2 b;refine⟨⟨x,q,t,c⟩::e,dm (.pt (px+_) 0 0)::f,fun o B=>?_,fun g m E=>⟨?_,V g m (fun j o O p hx=>?_)⟩,U⟩;rcases List.mem_cons.1 B with rfl|B
   exact⟨G,cs,T,hB,kV hR X⟩;exact W o B;have:=E 0 _ rfl _ T;rw[aBK] at this;exact .w (.one (.pt ⟨G,0,rfl⟩ ⟨0,kJ G,this,dE _,fun _=>⟨G,rfl,rfl⟩⟩));have:=E (j+1) o (by simpa using O) p hx;rw[show ∀ n:Nat,n+1+j=n+(j+1) from fun n=>a_];exact this
  rename_i v0 l0 _ u;obtain⟨rfl,rfl⟩:pv=v0/\d=l0:=by simpa using u
  cases J:FV pv with
  |none=>rw[J] at b;exact b.elim|some y=>rw[J] at b;exact r y J b
theorem aQn{r:PV}:∀ {b:List Gv} {d:List g_} {F:og->PV->Wr->Prop},(writeM b d (.ret r)).ok none s F->b.length=d.length/\F none r ((b.zip d).map fun p=>(p.1.x,none,p.1.vr,.box p.1.t p.2))
 |[],[],F,h=>⟨rfl,h⟩|[],_::_,_,h=>h.elim|_::_,[],_,h=>h.elim|o::b,c::d,F,h=>by obtain⟨_,h⟩:=h;obtain⟨f,e⟩:=aQn h;exact⟨by simp[f],e⟩
theorem aJd:∀ {b:List Gv},distinct b=true->∀ (i j:Nat) o p,b[i]?=some o->b[j]?=some p->o.x=p.x->i=j
 |[],_,i,j,o,p,d,_,_=>by simp at d| q::b,h,i,j,o,p,d,hj,e=>by
  rw[distinct,zg] at h;have c:∀ p∈b,q.x≠p.x:=fun p f e=>by have:=List.all_eq_true.1 h.1 p f;rw[e] at this;simp at this
  match i,j with
  |0,0=>rfl|0,j+1=>
   obtain rfl:q=o:=by simpa using d
   exact absurd e (c p (aCH (by simpa using hj:b[j]?=some p)))
  |i+1,0=>
   obtain rfl:q=p:=by simpa using hj
   exact absurd e.symm (c o (aCH (by simpa using d:b[i]?=some o)))
  |i+1,j+1=>rw[aJd h.2 i j o p (by simpa using d) (by simpa using hj) e]
theorem aCg:∀ {d:List Gv} {e:List g_} {i:Nat} {b:Ob},b∈Hz i d e->∃ j o c,d[j]?=some o/\e[j]?=some c/\b=⟨px+(i+j),o.t,o.l,c⟩
 |[],_,_,_,h=>by cases h|_::_,[],_,_,h=>by cases h|o::d,c::e,i,b,h=>by
  rcases List.mem_cons.1 h with rfl|h
  exact⟨0,o,c,rfl,rfl,rfl⟩;obtain⟨j,f,n,m,k,g⟩:=aCg h;exact⟨j+1,f,n,by simpa using m,by simpa using k,by rw[g,show i+1+j=i+(j+1) from a_]⟩
theorem aHy:∀ {b:List Gv} {d:List g_} {i j:Nat} {o:Gv} {c:g_},b[j]?=some o->d[j]?=some c->(⟨px+(i+j),o.t,o.l,c⟩:Ob)∈Hz i b d
 |[],_,_,_,_,_,h,_=>by simp at h|_::_,[],_,_,_,_,_,h=>by simp at h|o::b,c::d,i,0,o',c',h1,h2=>by
  obtain rfl:o=o':=by simpa using h1
  obtain rfl:c=c':=by simpa using h2
  exact aAw
 |o::b,c::d,i,j+1,o',c',h1,h2=>by refine aAD _ ?_;rw[show i+(j+1)=i+1+j from a_];exact aHy (by simpa using h1) (by simpa using h2)
theorem aSr{f:Nat}{g:List (bu×g_)->ji->Option (Prop×List g_×PV)}(T:∀ args w,(aAE f args).run P w=.ok (.enter f args) w)
  (hg:∀ (d:List Gv) K p m r,g (d.map fun o=>(o.t,o.l)) K=some (p,m,r)->d.length=m.length->p->y_ P I f false (Hz 0 d m) (fun _=>none) none (fun _=>False) K r):b_ P I f (bBh g):=by
 refine⟨T,fun A s a w env nm a6 vs F h hI hv B=>?_⟩;unfold bBh at B;obtain⟨d,K,h1,h2,B⟩:=aIs h hv B
 cases hd:distinct d<;>cases V:g (d.map fun o=>(o.t,o.l)) K<;>simp only[hd,V] at B<;>try exact B.elim
 rename_i q;obtain⟨p,m,r⟩:=q;dsimp only at B
 cases D:bz m.length d.length<;>rw[D] at B
 exact B.elim;have z:=iy D;obtain⟨hp,B⟩:=B;obtain⟨_,hF⟩:=aQn B;have u:∀ (j:Nat) o,d[j]?=some o->∃ g,env o.x=some (o.vr,kJ g)/\Dx d env (px+(0+j))=g:=fun j o n=>by obtain⟨g,C,k,_⟩:=h1 o (aCH n);refine⟨g,k,?_⟩;unfold Dx;rw[mf,Nat.add_sub_cancel_left,n];have H:env o.x=some (o.vr,kJ g):=k;rw[Option.bind_some,H];rfl
 have J:∀ b,SX (Hz 0 d m) (Dx d env) Dv.non b->∃ o∈d,env o.x=some (o.vr,kJ b):=by rintro b (D|⟨ob,y,rfl⟩);exact D.elim;obtain⟨j,o,c,k,_,rfl⟩:=aCg y;obtain⟨g,G,E⟩:=u j o k;exact⟨o,aCH k,by rw[E];exact G⟩
 refine (hg d K p m r V z.symm hp w (aP A w env).ok vs (Dx d env) Dv.non (fun _=>True)
  (
   fun w' N=>hI.mem w' (h.iw.trans' N (fun _ _ h=>h) (fun b a5 D=>by
   obtain⟨o,ho,k⟩:=J b D;rcases (h.live _ _ _ b k rfl).2 with W|W;omega
   exact W.1)))
  (
   fun b D=>by
   obtain⟨o,ho,k⟩:=J b D
   exact⟨(h.live _ _ _ b k rfl).1,fun a0=>a0.2 _ _ _ k rfl⟩)
  (qw.non P) (fun _ _ _ _ _ _ h=>h.elim) rfl (fun p hp=>by cases hp) (fun _=>⟨fun _ h=>h,fun _ _ _ h=>h⟩)
  (
   fun ob y=>by
   obtain⟨j,o,c,k,_,rfl⟩:=aCg y;obtain⟨g,G,E⟩:=u j o k;obtain⟨g',C,e4,h4,h5⟩:=h1 o (aCH k);have U:env o.x=some (o.vr,kJ g'):=e4;rw[G] at U;cases U;refine⟨trivial,C,?_,h5⟩;show eu w (Dx d env (px+(0+j))) _ _;rw[E]
   exact h4)
  (
   fun ob y a7 Q e=>by
   obtain⟨j,o,c,k,_,rfl⟩:=aCg y;obtain⟨Z,Y,c',H,_,rfl⟩:=aCg Q;obtain⟨g,G,E⟩:=u j o k;obtain⟨g',a3,a2⟩:=u Z Y H;have e':Dx d env (px+(0+j))=Dx d env (px+(0+Z)):=e;rw[E,a2] at e';subst e';have:=h.inj o.x Y.x _ _ _ _ g G a3 rfl rfl
   rw[aJd hd j Z o Y k H this])
  (
   h2 _ aJg (fun j o n hd hx=>by
   obtain⟨g,G,E⟩:=u j o n;rw[G] at hx;cases hx
   have hm:∃ c,m[j]?=some c:=by
    have:j<m.length:=by rw[z];exact (List.getElem?_eq_some_iff.1 n).1
    exact⟨_,zH this⟩
   obtain⟨c,hc⟩:=hm;show AX (Hz 0 d m) (Dx d env) none Dv.non.hd (px+(0+j))=_;have S:Qq (Hz 0 d m) (px+(0+j))=true:=aCj (aHy (i:=0) n hc);unfold AX xx;rw[S];show some (0,kJ (Dx d env (px+(0+j))))=_
   rw[E]))).mono ?_
 rintro e w' ⟨N,⟨X,rfl,O,a1,_⟩|⟨a4,l2,rfl,W,_⟩⟩
 obtain⟨h4,h5⟩:=h.many (w':=w') ((d.zip m).map fun p=>(p.1.x,none,p.1.vr,.box p.1.t p.2))
  (
   N.mono fun b a8 D=>by
   obtain⟨o,ho,k⟩:=J b D;obtain⟨j,n⟩:=List.getElem?_of_mem ho;have hm:j<m.length:=by rw[z];exact (List.getElem?_eq_some_iff.1 n).1
   exact⟨(o.x,none,o.vr,.box o.t m[j]),List.mem_map.2 ⟨(o,m[j]),aCH (i:=j) (by rw[aKh];exact⟨n,zH hm⟩),rfl⟩,_,k,rfl⟩)
  (
   fun q V=>by
   obtain⟨⟨o,c⟩,hz,rfl⟩:=List.mem_map.1 V;obtain⟨j,n⟩:=List.getElem?_of_mem hz;rw[aKh] at n;obtain⟨g,G,E⟩:=u j o n.1;refine⟨rfl,(fun _ _ _ e=>by cases e),kJ g,G,fun a9=>?_⟩;obtain⟨C,k1,k2⟩:=a1 _ (aHy (i:=0) n.1 n.2);have L:eu w' (Dx d env (px+(0+j))) o.t C:=k1;rw[E] at L
   exact⟨g,C,rfl,L,k2.le (aAn h N.size)⟩)
 exact .inl ⟨r,_,X,env,rfl,hF,h4,O.le (aAn h N.size)⟩;exact W.elim
end
end Pv
def nonzero(l:List Int):Nat:=(l.filter (fun n=>n != 0)).length
def nJ(l:List Int):Bool:=decide (l.length<2*nonzero l)
def aj.zu(a b:Int):aj Int:=.ask ⟨1,a,b,aC⟩ fun r=>.ret r.val
def aj.yh(a b:Int):aj Unit:=.ask ⟨2,a,b,aC⟩ fun _=>.ret ()
def aj.read(d e:Int):aj Bool:=(aj.zu d (3*e+0)).bind fun a=>(aj.zu d (3*e+1)).bind fun b=>(aj.zu d (3*e+2)).bind fun c=>.ret (nJ [a,b,c])
def aj.lh(a b:Int):aj Unit:=(aj.yh a (3*b+0)).bind fun _=>(aj.yh a (3*b+1)).bind fun _=>(aj.yh a (3*b+2)).bind fun _=>.ret ()
def aj.up(a:Int):Nat->Nat->aj Nat
 |0,n=>.ret n|f+1,n=>(aj.read a n).bind fun b=>if b then aj.up a f (n+1) else .ret n
def aj.down(a:Int):Nat->Nat->aj Unit
 |0,_=>.ret ()|r+1,b=>(aj.lh a b).bind fun _=>aj.down a r (b+1)
def aj.f_(a:Int)(b:Nat):aj Nat:=(aj.up a b 0).bind fun n=>(aj.down a n 0).bind fun _=>.ret n
def aj.rq(a:Int):Nat->Nat->aj (Nat×Int)
 |0,n=>.ret (n,0)|f+1,n=>(aj.lh a n).bind fun _=>(aj.read a n).bind fun b=>if b then aj.rq a f (n+1) else .ret (n,12)
def aj.mr(b:Int)(c a:Nat):aj (Nat×Int):=(aj.f_ b c).bind fun n=>aj.rq b (a-n) n
theorem Ih(a:Int):∀ f n,aj.All (fun m=>m<=n+f) (aj.up a f n)
 |0,n=>dE _|f+1,n=>by refine aj.All.bind (R:=fun _=>True) (aj.All.AP _) (fun b _=>?_);cases b;exact (by show n<=n+(f+1);omega);exact (Ih a f (n+1)).mono (fun m c=>a_)
def gJ(x:Int)(a:Bool):Int:=if x=2\/(x=1/\a=true) then 1 else 0
def lM(x:Int)(cut:Bool):Int:=if x<=1 then (if cut then 1 else 2) else x
def Zr(cells:List Int)(a:Bool)(b:Nat):Bool:=decide (2<=gJ (cells.getD (3*b) 0) a+gJ (cells.getD (3*b+1) 0) a+gJ (cells.getD (3*b+2) 0) a)
def yE(cells:List Int)(a:Bool):Nat->Nat->Nat
 |0,b=>b|f+1,b=>if Zr cells a b then yE cells a f (b+1) else b
def lZ(cells:List Int)(a:Bool):Nat:=yE cells a (cells.length / 3) 0
theorem aDt(x:Int)(n:Bool):0<=gJ x n/\gJ x n<=1:=by unfold gJ;split<;>omega
theorem bFt{cells:List Int}{a:Bool}{f b:Nat}(h:Zr cells a b=false):yE cells a (f+1) b=b:=by simp[yE,h]
theorem aYf{cells:List Int}{a:Bool}{f b:Nat}(h:Zr cells a b=true):yE cells a (f+1) b=yE cells a f (b+1):=by simp[yE,h]
theorem getD_at{l:List Int}{i:Nat}(h:i<l.length):l.getD i 0=l[i]:=by rw[zG,zH h];rfl
theorem Fj:∀ (c:Int) (f b:Nat),aj.All (fun m=>m<=b+f) (aj.up c f b)
 |_,0,b=>dE _|c,f+1,b=>(aj.All.AP (aj.read c b)).bind fun x _=>by
  cases x with
  |true=>exact (Fj c f (b+1)).mono fun a h=>a_|false=>exact (by omega:b<=b+(f+1))
theorem aAv(b:Int)(a:Nat):aj.All (fun m=>m<=a) (aj.f_ b a):=(Fj b a 0).bind fun m h=>(aj.All.AP (aj.down b m 0)).bind fun _ _=>by show m<=a;omega
abbrev cell(c:List Int)(j:Nat):Int:=c.getD j 0
def aj.Within{a:Type}:Nat->aj a->Prop
 |_,.ret _=>True|0,.ask _ _=>False|n+1,.ask _ k=>∀ r,aj.Within n (k r)
theorem Within.mono{b:Type}{p:aj b}:∀ {n m:Nat},p.Within n->n<=m->p.Within m:=by
 induction p with
 |ret a=>intro n m _ _;cases m<;>trivial| ask a k c=>
  intro n m h d;cases n with
  |zero=>exact h.elim|succ n=>
   cases m with
   |zero=>omega|succ m=>exact fun r=>c r (h r) a_
theorem Within.bind{c d:Type}{p:aj c}{f:c->aj d}{m:Nat}:∀ {n:Nat},p.Within n->(∀ a,(f a).Within m)->(p.bind f).Within (n+m):=by
 induction p with
 |ret a=>intro n _ b;exact Within.mono (b a) a_| ask a k e=>
  intro n h b;cases n with
  |zero=>exact h.elim|succ n=>rw[show n+1+m=(n+m)+1 from a_];exact fun r=>e r (h r) b
theorem Within.QC{b e:Type}{R:b->Prop}{p:aj b}{f:b->aj e}{m:Nat}:∀ {n:Nat},p.Within n->aj.All R p->(∀ a,R a->(f a).Within m)->(p.bind f).Within (n+m):=by
 induction p with
 |ret a=>intro n _ d c;exact Within.mono (c a d) a_| ask a k g=>
  intro n h d c;cases n with
  |zero=>exact h.elim|succ n=>rw[show n+1+m=(n+m)+1 from a_];exact fun r=>g r (h r) (d r) c
theorem aAh(a b:Int):(aj.zu a b).Within 1:=fun _=>trivial
theorem xA(a b:Int):(aj.yh a b).Within 1:=fun _=>trivial
theorem aGg(a b:Int):(aj.read a b).Within 3:=Within.bind (m:=2) (aAh _ _) fun _=>Within.bind (m:=1) (aAh _ _) fun _=>Within.bind (m:=0) (aAh _ _) fun _=>trivial
theorem aBm(a b:Int):(aj.lh a b).Within 3:=Within.bind (m:=2) (xA _ _) fun _=>Within.bind (m:=1) (xA _ _) fun _=>Within.bind (m:=0) (xA _ _) fun _=>trivial
theorem aQt(a:Int):∀ f n,(aj.up a f n).Within (3*f)
 |0,n=>trivial|f+1,n=>by
  rw[show 3*(f+1)=3+3*f from a_];refine Within.bind (aGg a n) fun b=>?_;cases b with
  |true=>exact aQt a f (n+1)|false=>exact Within.mono (n:=0) (show (aj.ret n:aj Nat).Within 0 from trivial) a_
theorem aGh(a:Int):∀ r b,(aj.down a r b).Within (3*r)
 |0,b=>trivial|r+1,b=>by rw[show 3*(r+1)=3+3*r from a_];exact Within.bind (aBm a b) fun _=>aGh a r (b+1)
theorem tH(a:Int)(b:Nat):(aj.f_ a b).Within (6*b):=by rw[show 6*b=3*b+(3*b+0) from a_];refine Within.QC (aQt a b 0) (Fj a b 0) fun n c=>?_;exact Within.bind (Within.mono (aGh a n 0) a_) fun _=>trivial
theorem wQ(a:Int):∀ f n,(aj.rq a f n).Within (6*f)
 |0,n=>trivial|f+1,n=>by
  rw[show 6*(f+1)=3+(3+6*f) from a_];refine Within.bind (aBm a n) fun _=>Within.bind (aGg a n) fun b=>?_;cases b with
  |true=>exact wQ a f (n+1)|false=>exact Within.mono (n:=0) (show (aj.ret (n,(12:Int)):aj (Nat×Int)).Within 0 from trivial) a_
theorem aJz(a:Int)(c b:Nat):(aj.mr a c b).Within (6*c+6*b):=Within.bind (tH a c) fun n=>Within.mono (wQ a (b-n) n) a_
namespace Pv
def ans(O:ut)(l:je):u_:=(O l).getD ⟨0,aC⟩
def go{b:Type}(O:ut):aj b->je->b×je
 |.ret a,l=>(a,l)|.ask c k,l=>go O (k (ans O (l++[c]))) (l++[c])
theorem go_ret{b:Type}(O:ut)(a:b)(l:je):go O (.ret a) l=(a,l):=rfl
theorem Qw{a:Type}(O:ut)(c:Acc)(k:u_->aj a)(l:je):go O (.ask c k) l=go O (k (ans O (l++[c]))) (l++[c]):=rfl
theorem aAy{b d:Type}(O:ut)(p:aj b)(f:b->aj d):∀ l,go O (p.bind f) l=go O (f (go O p l).1) (go O p l).2:=by
 induction p with
 |ret a=>intro l;rfl|ask c k e=>intro l;exact e _ _
theorem yH{b:Type}(O:ut)(p:aj b):∀ l,l <+: (go O p l).2:=by
 induction p with
 |ret a=>intro l;exact aCX _|ask c k d=>intro l;exact (aBW l [c]).trans (d _ _)
theorem Wq{b:Type}{R:b->Prop}(O:ut){p:aj b}(h:aj.All R p):∀ l,R (go O p l).1:=by
 induction p with
 |ret a=>intro l;exact h|ask c k d=>intro l;exact d _ (h _) _
def oJ{d:Type}(a:ji->Option (Prop×aj d×(d->PV))):Spec:=aPq (fun O l b=>match a b with|some (_,p,_)=>(go O p l).2|none=>l) (fun O l b=>match a b with|some (c,p,f)=>some (c,f (go O p l).1)|none=>none)
def Dl(P:ed)(I:jg)(f:Nat){a:Type}(p:aj a)(args:ji)(val:a->PV):Prop:=∀ O l,y_ P I f false [] O (some (l,(go O p l).2)) (fun h=>l <+: h/\h <+: (go O p l).2) args (val (go O p l).1)
theorem qV{P:ed}{I:jg}{f:Nat}{h:Type}{a:ji->Option (Prop×aj h×(h->PV))}(d:∀ args w,(aAE f args).run P w=.ok (.enter f args) w)
  (k:∀ b c p v,a b=some (c,p,v)->c->Dl P I f p (.w (.one .dv)::b) v):b_ P I f (oJ a):=by
 refine aMi d (fun O l b p r e j=>?_);cases g:a b with
 |none=>rw[g] at e;cases e|some q=>obtain⟨c,i,v⟩:=q;rw[g] at e;cases e;exact k b _ i v g j O l
theorem aOf{H L l:je}{c:Acc}{X:Prop}(h1:L <+: l)(h2:l++[c] <+: H):X->L <+: l++[c]/\l++[c] <+: H:=fun _=>⟨h1.trans (aBW l [c]),h2⟩
theorem qM(l:je):l <+: l:=aCX l
theorem Su(l:je)(c:Acc):l <+: l++[c]:=aBW l [c]
theorem bIv{P:ed}{A:o_}{s:St}{Q:uk->Act->jg}{b:Nat}(h:Wv A s (Q .normal)):kw P A s (.label b) Q:=fun a w c _=>wp_label (h a w c)
theorem bIu{P:ed}{A:o_}{s:St}{Q:uk->Act->jg}{c:Hm}(h:kw P A s c (Exit.noGoto Q)):kw P A s (.scope c) Q:=fun a w f d=>wp_scope_straight (h a w f (fun b a w g e=>d b a w g e))
def OB(O:ut):Prop:=∀ l r,O l=some r->r.bytes.size<=1000000
theorem OB.ans{O:ut}(h:OB O)(l:je):(ans O l).bytes.size<=1000000:=by
 unfold Pv.ans;cases a:O l with
 |none=>exact (by decide:(0:Nat)<=1000000)|some r=>exact h l r a
def bSm(P:ed)(I:jg)(f:Nat){a:Type}(p:aj a)(args:ji)(val:a->PV):Prop:=∀ O l,OB O->y_ P I f false [] O (some (l,(go O p l).2)) (fun h=>l <+: h/\h <+: (go O p l).2) args (val (go O p l).1)
theorem Dl.toB{P:ed}{I:jg}{f:Nat}{a:Type}{p:aj a}{args:ji}{val:a->PV}(h:Dl P I f p args val):bSm P I f p args val:=fun O l _=>h O l
def oI{d:Type}(a:ji->Option (Prop×aj d×(d->PV))):Spec:=aPq (fun O l b=>match a b with|some (_,p,_)=>(go O p l).2|none=>l) (fun O l b=>match a b with|some (c,p,f)=>some (OB O/\c,f (go O p l).1)|none=>none)
theorem rH{P:ed}{I:jg}{f:Nat}{h:Type}{a:ji->Option (Prop×aj h×(h->PV))}(d:∀ args w,(aAE f args).run P w=.ok (.enter f args) w)
  (k:∀ b c p v,a b=some (c,p,v)->c->bSm P I f p (.w (.one .dv)::b) v):b_ P I f (oI a):=by
 refine aMi d (fun O l b p r e i=>?_);cases g:a b with
 |none=>rw[g] at e;cases e|some q=>obtain⟨c,j,v⟩:=q;rw[g] at e;cases e;exact k b _ j v g i.2 O l i.1
def iU:Bool->Int->aj Unit
 |true,_=>.ret ()|false,e=>.ask (wJ e) fun _=>.ret ()
def Qd(P:ed)(I:jg)(T:bu)(f:Nat){a:Type}(p:aj a)(args:ji)(val:a->PV):Prop:=∀ O l,OB O->bHv T O->y_ P I f false [] O (some (l,(go O p l).2)) (fun h=>l <+: h/\h <+: (go O p l).2) args (val (go O p l).1)
def yQ(P:ed)(I:jg)(T:bu)(f:Nat)(t:bu)(cells:g_){a:Type}(p:aj a)(args:ji)(val:a->PV):Prop:=∀ O l,OB O->bHv T O->aAR P I f t cells cells O l (go O p l).2 (fun h=>l <+: h/\h <+: (go O p l).2) (.w (.one (.pt px 0 0))::args) (val (go O p l).1)
section
variable {P:ed} {I:jg}
def aZw(hist:(je->Option u_)->je->ji->je)(b:(je->Option u_)->je->ji->Option (Prop×PV)):Spec:=fun _ c=>match Hy c with
 | some a=>.obj dx fun g d e=>kL g (match bz d 0,e with
  |true,.dev O gm l=>(match b O l a with
   |some (p,r)=>.need p (.need (∀ h,l <+: h->h <+: hist O l a->O h=none->gm h) (.upd dx 0 (.dev O gm (hist O l a)) (.ret r)))|none=>.fail)
  |_,_=>.fail)
 |none=>.fail
theorem bHn{f:Nat}{hist:(je->Option u_)->je->ji->je}{m:(je->Option u_)->je->ji->Option (Prop×PV)}(H:∀ args w,(aAE f args).run P w=.ok (.enter f args) w)
  (hg:∀ O l k p r,m O l k=some (p,r)->p->y_ P I f false [] O (some (l,hist O l k)) (fun h=>l <+: h/\h <+: hist O l k) k r):b_ P I f (aZw hist m):=by
 refine⟨H,fun A s a w t nm Q Z F h g hv c=>?_⟩;unfold aZw at c;cases T:Hy Q with
 |none=>rw[T] at c;exact c.elim| some k=>
  rw[T] at c;obtain⟨gd,vr,ob,G,c⟩:=c;have X:=dZ c;clear c;obtain⟨E,c⟩:=X
  cases J:bz vr 0<;>cases ob<;>simp only[J] at c<;>try exact c.elim
  rename_i O gm l;obtain rfl:=iy J;cases U:m O l k with
  |none=>rw[U] at c;exact c.elim| some q=>
   obtain⟨p,r⟩:=q;rw[U] at c;obtain⟨V,z,_,hF⟩:=c;obtain⟨hO,y,D⟩:=h.dev gd 0 O gm l G E;subst hO y;have i:∀ b,SX [] (fun _=>0) A.dv b->A.dv.S b:=by rintro b (h|⟨o,C,rfl⟩);exact h;cases C
   refine (hg A.dv.O l k p r U V w (aP A w t).ok Z (fun _=>0) A.dv (ownB A t)
    (fun L x=>g.mem L (h.iw.trans' x (fun _ _ h=>h) (fun b _ d=>g.sub b (i b d))))
    (
     fun b d=>by
     have j:=g.old b (g.sub b (i b d));refine⟨aAF j.1 h.iw.size,fun W=>?_⟩;rcases W.1 with n|n;exact j.2 n
     omega)
    (g.step.mono fun K j n=>z K j.1 j.2 n) g.DV rfl (fun p V=>by cases V;exact D) (fun h=>by cases h) (fun o C=>by cases C) (fun o C=>by cases C)
    (aDb aJg T hv)).mono ?_
   rintro e L ⟨x,⟨N,rfl,B,_,Y⟩|⟨u,K,rfl,j,n,h3⟩⟩;obtain⟨h4,h5⟩:=h.asked (w':=L) G E g.sub (fun b d=>g.old b (g.sub b d)) (x.mono fun b _ d=>i b d) (Y _ rfl);exact .inl ⟨r,_,N,t,rfl,hF,h4,B.le (aAn h x.size)⟩;exact .inr ⟨u,rfl,K,z K j.1 j.2 n,n,g.DV _ _ _ _ _ _ h3 (gq.refl _ _) (fun b d=>.inl d),h.iw.trans (x.mono fun b _ d=>g.sub b (i b d))⟩
def aOe(T:bu){d:Type}(a:ji->Option (Prop×aj d×(d->PV))):Spec:=aZw (fun O l b=>match a b with|some (_,p,_)=>(go O p l).2|none=>l) (fun O l b=>match a b with|some (c,p,f)=>some (OB O/\bHv T O/\c,f (go O p l).1)|none=>none)
theorem aXq{f:Nat}{T:bu}{i:Type}{a:ji->Option (Prop×aj i×(i->PV))}(d:∀ args w,(aAE f args).run P w=.ok (.enter f args) w)
  (k:∀ b c p v,a b=some (c,p,v)->c->Qd P I T f p b v):b_ P I f (aOe T a):=by
 refine bHn d (fun O l b p r e g=>?_);cases h:a b with
 |none=>rw[h] at e;cases e|some q=>obtain⟨c,j,v⟩:=q;rw[h] at e;cases e;exact k b _ j v h g.2.2 O l g.1 g.2.1
def jV(T t:bu){d:Type}(a:g_->ji->Option (Prop×aj d×(d->PV))):Spec:=aXs t (fun O k l b=>match a l b with|some (_,p,_)=>(go O p k).2|none=>k) (fun O k l b=>match a l b with|some (c,p,f)=>some (OB O/\bHv T O/\c,f (go O p k).1)|none=>none)
theorem lX{f:Nat}{T t:bu}{i:Type}{a:g_->ji->Option (Prop×aj i×(i->PV))}(d:∀ args w,(aAE f args).run P w=.ok (.enter f args) w)
  (m:∀ l b c p v,a l b=some (c,p,v)->c->yQ P I T f t l p b v):b_ P I f (jV T t a):=by
 refine bFb d (fun O k l b p r e g=>?_);cases h:a l b with
 |none=>rw[h] at e;cases e|some q=>obtain⟨c,j,v⟩:=q;rw[h] at e;cases e;exact m l b _ j v h g.2.2 O k g.1 g.2.1
end
end Pv
section
section
variable {w w':ae} {v:ag} {ds:List (List UInt8)}
end
section
variable {P:ed}
end
end
theorem af.lt{w:ae}(h:af w):2<w.heap.size/\0<w.heap.size:=⟨lt_of_cell (h.k 0 _ rfl),lt_of_cell (h.h 0 _ rfl)⟩
theorem af.past{w0 w w':ae}{B:Nat}(h0:af w0)(a:w0.heap.size<=B)(h:af w)(hc:gq (fun k=>B<=k) w w'):af w':=h.iw hc (by have:=h0.lt;omega) (by have:=h0.lt;omega)
theorem aHT(fn:Fn)(first cap:mg)(w:ae):(Instr.makeFunc fn first cap).run prog w=.ok (.func fn first cap) w:=rfl



namespace Pv
theorem Ij:uh=j_:=rfl
theorem Jv{C:Ctx}{k:Nat}{b:di}{cs:mg}(h:RL C [.bs k b] cs.toList):b.length=k/\cs=(b.map j_).toArray:=by obtain⟨d,c⟩:=h.bs1;exact⟨d,by apply TC;simpa[Ij] using c⟩
theorem aRp{C:Ctx}{k:Nat}{b:di}{v:ag}(h:RV C (.w (.agg [.bs k b])) v):b.length=k/\v=.agg (b.map j_).toArray:=by
 cases h with
 | w h=>cases h with
  |agg h=>obtain⟨d,c⟩:=Jv h;exact⟨d,by rw[c]⟩
theorem uI{C:Ctx}{b:di}{k:Nat}(h:b.length=k):RV C (.w (.agg [.bs k b])) (.agg (b.map j_).toArray):=.w (.agg (by simpa[Ij] using RL.cons (R.bs (C:=C) h) RL.nil))
def X8:Nat->(Nat->g_)->(List di->M)->M
 |0,_,k=>k []|n+1,f,k=>X8 n f fun l=>(match f n with
  |[c]=>Zt (dm c) fun b=>k (l++[b])|_=>.fail)
def Ib(v:PV)(k:List di->M):M:=match v with
 | .w (.one (.ow x b n d len))=>.obj x fun g e h=>kL g (match bz b e,bz n 1,bz d 0,h with
  |true,true,true,.arr _ m c f=>(match bz n m,bz len c with
   |true,true=>X8 len f k|_,_=>.fail)
  |_,_,_,_=>.fail)
 |.w (.one (.lit (.slice none 0 0)))=>k []|_=>.fail
section
variable {A:o_} {s:St} {a:Act} {w:ae} {env:Env} {F:og->PV->Wr->Prop}
theorem bIm(h:ig A s a w env){vs:jl}{f:Nat->g_}:∀ {n:Nat} {k:List di->M},n<=vs.length->(∀ i,i<n->RL (aP A w env) (f i) ((vs.drop (i*1)).take 1))->(X8 n f k).ok none s F ->
  ∃ g,g.length=n/\(∀ (i:Nat) (p:di),g[i]?=some p->∃ u,vs[i]?=some u/\Reads w 1 u p.length (p.map j_))/\(k g).ok none s F
 |0,k,_,_,d=>⟨[],rfl,fun i p b=>by simp at b,d⟩| n+1,k,D,r,d=>by
  obtain⟨g,x,C,d⟩:=bIm h (n:=n) a_ (fun i t=>r i a_) d;split at d;rename_i c m;have o:=r n a_;rw[m] at o
  have y:(vs.drop (n*1)).take 1=[vs[n]]:=by
   apply aAX;intro q;rw[yf,aAk,aBq];cases q with
   |zero=>rw[au a_,aBK,zH a_];rfl|succ q=>rw[ah a_];simp
  rw[y] at o;obtain⟨l,B,d⟩:=qC h (.w (.one o.single)) d;refine⟨g++[l],by simp[x],fun i p b=>?_,d⟩;rcases aAW i n with z|j;rw[aBD a_] at b;exact C i p b;rw[aBi a_] at b
  have t:i=n:=by rcases Nat.eq_or_lt_of_le j with e|e;exact e.symm;rw[PR l7] at b;cases b
  subst t;rw[x,aBa] at b;cases b;exact⟨vs[i],zH _,B⟩;exact d.elim
theorem aGk(h:ig A s a w env){v:PV}{val:ag}(I:RV (aP A w env) v val){k:List di->M}(b:(Ib v k).ok none s F):∃ q,Parts w val q/\(k q).ok none s F:=by
 unfold Ib at b;split at b
 ·rename_i x r n u len;obtain⟨g,N,O,C,b⟩:=b;have B:=dZ b;clear b;obtain⟨P,b⟩:=B;obtain⟨T,D,y⟩:=kX h C P
  cases K:bz r N<;>cases p:bz n 1<;>cases o:bz u 0<;>cases O<;>simp only[K,p,o] at b<;>try exact b.elim
  rename_i e m t f;obtain rfl:=iy K;obtain rfl:=iy p;obtain rfl:=iy o
  cases l:bz 1 m<;>cases j:bz len t<;>simp only[l,j] at b<;>try exact b.elim
  obtain rfl:=iy l;obtain rfl:=iy j;obtain⟨X,H,V,rfl,J,rfl⟩:=I.Ar D;obtain⟨G,c,E⟩:=y;have i:=Reads.Ac c;have z:H=len:=by obtain⟨_,W,U,S,_⟩:=i;cases S;rfl
  subst z;have d:=oZ (off:=0) (m:=H) a_ i;rw[aDN,aBk,WF (by rw[c.1];omega)] at d;obtain⟨q,L,Q,b⟩:=bIm h (vs:=G) (by rw[c.1];omega) E b;exact⟨q,⟨G,by rw[c.1,L];omega,by rw[L,aDN];exact d,Q⟩,b⟩
 have:=I.gu;subst this;exact⟨[],Parts.nil w,b⟩;exact b.elim
end
def gy(n:Int):Prop := -9223372036854775808<=n/\n<9223372036854775808
def Wl:Spec:=fun b c=>match c with
 |[.w (.one (.lit (.int .i64 n)))]=>.need (gy n) (.new b (.arr 5 1 (dn n).length (oz (dn n))) fun v=>.ret (dm (.ow b v 1 0 (dn n).length)))|_=>.fail
def xI:Spec:=fun c d=>match d with
 |[.w (.one (.lit (.string b)))]=>.need (b.size<=1000000000) (.new c (.arr 5 1 (bI b.data.toList).length (oz (bI b.data.toList))) fun v=>.ret (dm (.ow c v 1 0 (bI b.data.toList).length)))|_=>.fail
def vJ:Spec:=fun _ c=>match c with
 |[.w (.one (.lit (.int .i64 b))),d]=>Ib d fun pl=>.need (pl.length<=1000/\∀ p∈pl,p.length<=10000) (.ret (.w (.agg [.bs 16 (mW b pl)])))|_=>.fail
def vK:Spec:=fun _ d=>match d with
 |[k,.w (.one (.lit (.string b))),e]=>Zt k fun c=>Ib e fun pl=>.need (c.length<=10000/\b.size<=10000/\pl.length<=90/\∀ p∈pl,p.length<=10000) (.ret (.w (.agg [.bs 16 (mX c b.data.toList pl)])))|_=>.fail
def Zp:Spec:=fun _ e=>match e with
 |[k,b]=>Zt k fun c=>Zt b fun d=>.need (c.length<=1000000/\d.length<=1000000) (.ret (.w (.agg [.bs 16 (Gz c d)])))|_=>.fail
theorem OA:b_ prog af 107 Wl:=by
 refine⟨aB func107 ai rfl,fun A s a w env l k j F h y m b=>?_⟩;unfold Wl at b;split at b;rotate_left;exact b.elim;rename_i n;obtain⟨g,b⟩:=b
 match j,m with
 |[v],⟨u,_⟩=>obtain rfl:=RV.gu (show RV _ _ _ from u);refine (yR n w g.1 g.2).mono ?_;rintro e x ⟨z,c,rfl,o,q⟩;obtain⟨d,t,r⟩:=h.BP l 5 1 (dn n).length (f:=oz (dn n)) q o (fun C i p=>qE C (dn n) i p);exact .inl ⟨_,_,_,d,rfl,b,t,r⟩
theorem bKf:b_ prog af 24 Wl:=by
 refine⟨aB func24 ai rfl,fun A s a w env l k j F h y m b=>?_⟩;unfold Wl at b;split at b;rotate_left;exact b.elim;rename_i n;obtain⟨g,b⟩:=b
 match j,m with
 |[v],⟨u,_⟩=>obtain rfl:=RV.gu (show RV _ _ _ from u);refine (aBy n w g.1 g.2).mono ?_;rintro e x ⟨z,c,rfl,o,q⟩;obtain⟨d,t,r⟩:=h.BP l 5 1 (dn n).length (f:=oz (dn n)) q o (fun C i p=>qE C (dn n) i p);exact .inl ⟨_,_,_,d,rfl,b,t,r⟩
theorem bCu:b_ prog af 145 xI:=by
 refine⟨aB func145 ai rfl,fun A s a w env l k j F h y m d=>?_⟩;unfold xI at d;split at d;rotate_left;exact d.elim;rename_i b;obtain⟨o,d⟩:=d
 match j,m with
 |[v],⟨u,_⟩=>obtain rfl:=RV.gu (show RV _ _ _ from u);refine (yS b w o).mono ?_;rintro e x ⟨z,c,rfl,n,q⟩;obtain⟨g,t,r⟩:=h.BP l 5 1 (bI b.data.toList).length (f:=oz (bI b.data.toList)) q n (fun C i p=>qE C _ i p);exact .inl ⟨_,_,_,g,rfl,d,t,r⟩
theorem aSg:b_ prog af 39 xI:=by
 refine⟨aB func39 ai rfl,fun A s a w env l k j F h y m d=>?_⟩;unfold xI at d;split at d;rotate_left;exact d.elim;rename_i b;obtain⟨o,d⟩:=d
 match j,m with
 |[v],⟨u,_⟩=>obtain rfl:=RV.gu (show RV _ _ _ from u);refine (uM b w o).mono ?_;rintro e x ⟨z,c,rfl,n,q⟩;obtain⟨g,t,r⟩:=h.BP l 5 1 (bI b.data.toList).length (f:=oz (bI b.data.toList)) q n (fun C i p=>qE C _ i p);exact .inl ⟨_,_,_,g,rfl,d,t,r⟩
theorem aUl:b_ prog af 176 vJ:=by
 refine⟨aB func176 ai rfl,fun A s a w env r f d F h j g b=>?_⟩;unfold vJ at b;split at b;rotate_left;exact b.elim;rename_i c q
 match d,g with
 |[v,pv],⟨m,l,_⟩=>obtain rfl:=RV.gu (show RV _ _ _ from m);obtain⟨pl,i,b⟩:=aGk h l b;obtain⟨⟨o,n⟩,b⟩:=b;refine (bGq c pl pv w (j.mem w h.iw) i o n).mono ?_;rintro e p ⟨rfl,k⟩;exact .inl ⟨_,[],_,env,rfl,b,h.ext k,uI (jP _ _)⟩
theorem bEq:b_ prog af 156 vJ:=by
 refine⟨aB func156 ai rfl,fun A s a w env q f d F h r g b=>?_⟩;unfold vJ at b;split at b;rotate_left;exact b.elim;rename_i c p
 match d,g with
 |[v,pv],⟨l,k,_⟩=>obtain rfl:=RV.gu (show RV _ _ _ from l);obtain⟨pl,i,b⟩:=aGk h k b;obtain⟨⟨n,m⟩,b⟩:=b;refine (aXc c pl pv w  i n m).mono ?_;rintro e o ⟨rfl,j⟩;exact .inl ⟨_,[],_,env,rfl,b,h.ext j,uI (jP _ _)⟩
theorem aUm:b_ prog af 106 vK:=by
 refine⟨aB func106 ai rfl,fun A s a w env C g f F h n l c=>?_⟩;unfold vK at c;split at c;rotate_left;exact c.elim;rename_i k b B
 match f,l with
 |[i,v,pv],⟨r,q,p,_⟩=>obtain rfl:=RV.gu (show RV _ _ _ from q);obtain⟨j,d,c⟩:=qC h r c;obtain⟨pl,m,c⟩:=aGk h p c;obtain⟨⟨y,x,u,t⟩,c⟩:=c;refine (aDz j i b pl pv w (n.mem w h.iw) d y x m u t).mono ?_;rintro e z ⟨rfl,o⟩;exact .inl ⟨_,[],_,env,rfl,c,h.ext o,uI (fU _ _ _)⟩
theorem bEr:b_ prog af 22 vK:=by
 refine⟨aB func22 ai rfl,fun A s a w env B g f F h C l c=>?_⟩;unfold vK at c;split at c;rotate_left;exact c.elim;rename_i k b z
 match f,l with
 |[i,v,pv],⟨q,p,o,_⟩=>obtain rfl:=RV.gu (show RV _ _ _ from p);obtain⟨j,d,c⟩:=qC h q c;obtain⟨pl,m,c⟩:=aGk h o c;obtain⟨⟨x,u,t,r⟩,c⟩:=c;refine (aAo j i b pl pv w  d x u m t r).mono ?_;rintro e y ⟨rfl,n⟩;exact .inl ⟨_,[],_,env,rfl,c,h.ext n,uI (fU _ _ _)⟩
theorem ND:b_ prog af 146 Zp:=by
 refine⟨aB func146 ai rfl,fun A s a w env z i g F h n m c=>?_⟩;unfold Zp at c;split at c;rotate_left;exact c.elim;rename_i k b
 match g,m with
 |[j,u],⟨q,p,_⟩=>obtain⟨l,d,c⟩:=qC h q c;obtain⟨x,f,c⟩:=qC h p c;obtain⟨⟨t,r⟩,c⟩:=c;refine (aYb l x j u w (n.mem w h.iw) d f t r).mono ?_;rintro e y ⟨rfl,o⟩;exact .inl ⟨_,[],_,env,rfl,c,h.ext o,uI (nY _ _)⟩
theorem S_:b_ prog af 40 Zp:=by
 refine⟨aB func40 ai rfl,fun A s a w env y i g F h z m c=>?_⟩;unfold Zp at c;split at c;rotate_left;exact c.elim;rename_i k b
 match g,m with
 |[j,t],⟨p,o,_⟩=>obtain⟨l,d,c⟩:=qC h p c;obtain⟨u,f,c⟩:=qC h o c;obtain⟨⟨r,q⟩,c⟩:=c;refine (aNq l u j t w  d f r q).mono ?_;rintro e x ⟨rfl,n⟩;exact .inl ⟨_,[],_,env,rfl,c,h.ext n,uI (nY _ _)⟩
theorem aY{P:ed}{I:jg}{l:List (Nat×Spec)}(h:∀ p∈l,b_ P I p.1 p.2):aJu P I (find l):=by
 intro f i a
 induction l with
 |nil=>cases a|cons p l d=>by_cases c:p.1=f;obtain⟨g,b⟩:=p;subst c;rw[aG] at a;cases a;exact h _ aAw;obtain⟨g,b⟩:=p;rw[aF _ _ c] at a;exact d (fun q e=>h q (aAD _ e)) a
theorem dB:prog.follows .mixedOrders=true:=ai
theorem bJ:∀ w a,Ext w a->af w->af a:=fun _ _ h b=>b.ext h
theorem nK{a:Type} [Inhabited a] (n i:Nat) (g:Nat->a) (h:i<n) (d:a):((yz n).map g).getD i d=g i:=by rw[zG,aAg,aDc h];rfl
def ES(l:List Int):Nat->g_:=fun i=>[.lit (.int .i64 (l.getD i 0))]
def intOf:g_->Int
 |[.lit (.int _ n)]=>n|_=>0
def isInt:g_->Bool
 |[.lit (.int .i64 _)]=>true|_=>false
def Ws(n:Nat)(f:Nat->g_):List Int:=(yz n).map fun i=>intOf (f i)
def aQi(n:Nat)(f:Nat->g_):Prop:=∀ i,i<n->isInt (f i)=true
theorem O_{l:g_}(h:isInt l=true):l=[.lit (.int .i64 (intOf l))]:=by
 unfold isInt at h;split at h
 rfl;cases h
@[simp] theorem aBx(n:Nat)(f:Nat->g_):(Ws n f).length=n:=by simp[Ws]
theorem OC{n:Nat}{f:Nat->g_}(h:aQi n f):∀ i,i<n->f i=ES (Ws n f) i:=fun i a=>by unfold ES Ws;rw[nK n i _ a];exact O_ (h i a)
@[simp] theorem Qi(n:Nat)(l:List Int):aQi n (ES l):=fun _ _=>rfl
@[simp] theorem aWs(l:List Int):Ws l.length (ES l)=l:=by apply aBR d_;intro i b a;simp only[Ws,aCI,aCA,ES,intOf];rw[zG,zH a];rfl
theorem R.BH{C:Ctx}{n len:Nat}{f f':Nat->g_}{xs:jl}(h:R C (.sl n len f) xs)(b:∀ i,i<len->f i=f' i):R C (.sl n len f') xs:=by
 cases h with
 |sl e d c=>exact .sl e d (fun i a=>by rw[<-b i a];exact c i a)
theorem fQ.args{P:ed}{I:jg}{f:Nat}{new:Bool}{args a:ji}{c:PV}(h:fQ P I f new a c)(e:∀ C b,pq C args b->pq C a b):fQ P I f new args c:=fun w d b i g=>h w d b i (e _ b g)
theorem bW(k:Nat)(h:k<9223372036854775807):IntKind.wrap .i64 ((k:Int)+1)=((k+1:Nat):Int):=by rw[PP];omega
theorem getD_mem{a:Type}{l:List a}{i:Nat}(h:i<l.length)(d:a):l.getD i d∈l:=by rw[zG,zH h];exact aBI h
theorem aFx{l:g_}(h:l.all (bT false)=true):∀ x∈l,bT false x=true:=fun x a=>List.all_eq_true.1 h x a
def U1:List (Nat×Spec):=[(107,Wl),(24,Wl),(145,xI),(39,xI),(176,vJ),(156,vJ),
 (106,vK),(22,vK),(146,Zp),(40,Zp)
 ]
theorem NK:∀ p∈U1,b_ prog af p.1 p.2:=by intro p a;simp only[U1,xn,aAe,or_false] at a;rcases a with rfl|rfl|rfl|rfl|rfl|rfl|rfl|rfl|rfl|rfl;exact OA;exact bKf;exact bCu;exact aSg;exact aUl;exact bEq;exact aUm;exact bEr;exact ND;exact S_
theorem aSC:jq prog af (find U1):=⟨aY NK,dB⟩
def bMv:List (Nat×Spec):=[(107,Wl),(24,Wl),(145,xI),(39,xI),(176,vJ),(106,vK),(146,Zp)]
theorem aYd:∀ p∈bMv,b_ prog af p.1 p.2:=by intro p a;simp only[bMv,xn,aAe,or_false] at a;rcases a with rfl|rfl|rfl|rfl|rfl|rfl|rfl;exact OA;exact bKf;exact bCu;exact aSg;exact aUl;exact aUm;exact ND
theorem WH:jq prog af (find bMv):=⟨aY aYd,dB⟩
theorem Ic{C:Ctx}{n:Nat}{k:di}{l:ji}{vs:jl}(h:pq C (.w (.agg [.bs n k])::l) vs):k.length=n:=by
 match vs,h with
 |v::vs,⟨h,_⟩=>exact (aRp h).1
end Pv
def term:Nat->List UInt8->Option Nat
 |0,_=>none|_+1,[]=>none|n+1,b::l=>if b.toNat<128 then some 0 else (term n l).map (·+1)
def oq:List UInt8->Nat
 |[]=>0|b::l=>b.toNat % 128+128*oq l
def oV(u:Nat):Int:=if u % 2=0 then ((u / 2:Nat):Int) else -((u / 2:Nat):Int)-1
def dh(b:List UInt8):Int×Nat×Int:=match term 10 b with
 |none=>(0,0,if b.length<10 then 6 else 7)|some k=>if oq (b.take (k+1))<18446744073709551616/\(k=0\/b.getD k 0≠0) then (oV (oq (b.take (k+1))),k+1,0) else (0,0,7)
def QR:List UInt8->Prop
 |[]=>False|[b]=>b.toNat<128|b::l=>128<=b.toNat/\QR l
def Qv:List UInt8->Prop
 |[]=>False|[b]=>b≠0|_::b::l=>Qv (b::l)
theorem bHw{u:Nat}:zig (oV u)=u:=by
 unfold zig oV
 split<;>split<;>omega
theorem aQy(n:Int):oV (zig n)=n:=by
 unfold zig oV
 split<;>split<;>omega
theorem aAi{u:Nat}(h:u<18446744073709551616):-9223372036854775808<=oV u/\oV u<9223372036854775808:=by
 unfold oV
 split<;>omega
theorem lY{u:Nat}(h:u<256):(UInt8.ofNat u).toNat=u:=by simp;omega
theorem aQw:∀ (f u:Nat),u<128 ^ (f+1)->QR (varint f u):=by
 intro f
 induction f with
 |zero=>intro u h;simp only[varint,QR];rw[lY (by omega)];omega| succ f e=>
  intro u h;by_cases c:u<128;rw[kW c];simp only[QR];rw[lY (by omega)];exact c;rw[oU c];have a:=e (u / 128) (by rw[aJE (by omega)];rw[aEL] at h;exact h);cases d:varint f (u / 128) with
  |nil=>rw[d] at a;exact a.elim|cons b l=>rw[d] at a;refine⟨?_,a⟩;rw[lY (by omega)];omega
theorem aGl:∀ (f u:Nat),u<128 ^ (f+1)->oq (varint f u)=u:=by
 intro f
 induction f with
 |zero=>intro u h;simp only[varint,oq];rw[lY (by omega)];omega|succ f b=>intro u h;by_cases a:u<128;rw[kW a];simp only[oq];rw[lY (by omega)];omega;rw[oU a];have c:=b (u / 128) (by rw[aJE (by omega)];rw[aEL] at h;exact h);simp only[oq];rw[c,lY (by omega)];omega
theorem aSs:∀ (f u:Nat),u<128 ^ (f+1)->u≠0->Qv (varint f u):=by
 intro f
 induction f with
 |zero=>intro u h d;simp only[varint,Qv];intro e;have:=congrArg UInt8.toNat e;rw[lY (by omega)] at this;exact d this|succ f j=>
  intro u h d;by_cases i:u<128;rw[kW i];simp only[Qv];intro e;have:=congrArg UInt8.toNat e;rw[lY (by omega)] at this;exact d this;rw[oU i];have c:u / 128<128 ^ (f+1):=by rw[aJE (by omega)];rw[aEL] at h;exact h
  have a:=j (u / 128) c (by omega);cases g:varint f (u / 128) with
  |nil=>rw[g] at a;exact a.elim|cons b l=>rw[g] at a;exact a
theorem bAd:∀ (l:List UInt8),QR l->Qv l->oq l≠0
 |[],h,_=>h.elim|[b],h,k=>by
  simp only[oq];have d:b.toNat<128:=h;intro e;have a:b.toNat=0:=by omega
  exact k (UInt8.toNat_inj.1 (by rw[a];rfl))
 |b::c::l,h,k=>by have:=bAd (c::l) h.2 k;rw[oq];omega
theorem aGi:∀ (f:Nat) (l:List UInt8),QR l->(l.length=1\/Qv l)->l.length<=f+1->varint f (oq l)=l
 |_,[],h,_,_=>h.elim|f,[b],h,_,_=>by
  have i:b.toNat<128:=h;have e:oq [b]=b.toNat:=by simp only[oq];omega
  rw[e,kW i];simp
 |0,b::c::l,_,_,hl=>by simp at hl| f+1,b::c::l,h,k,hl=>by
  have a:Qv (c::l):=by rcases k with k|k;simp at k;exact k
  have n:=bAd (c::l) h.2 a;have d:=aGi f (c::l) h.2 (.inr a) (by simpa using hl);have o:128<=b.toNat:=h.1;have g:=b.toNat_lt;have e:oq (b::c::l)=b.toNat % 128+128*oq (c::l):=rfl;rw[e,oU (by omega)];have m:(b.toNat % 128+128*oq (c::l)) % 128=b.toNat % 128:=by omega
  have j:(b.toNat % 128+128*oq (c::l)) / 128=oq (c::l):=by omega
  rw[m,j,d];congr 1;rw[show 128+b.toNat % 128=b.toNat from by omega];simp
theorem uG:∀ (n:Nat) (b:List UInt8) (k:Nat),term n b=some k->QR (b.take (k+1))/\k<n/\k<b.length
 |0,_,_,h=>by cases h|_+1,[],_,h=>by cases h| n+1,b::l,k,h=>by
  rw[term] at h;by_cases e:b.toNat<128;rw[if_pos e] at h;cases h;exact⟨by simpa[QR] using e,by omega,by simp⟩;rw[if_neg e] at h;cases d:term n l with
  |none=>rw[d] at h;cases h|some j=>
   rw[d] at h;cases h;obtain⟨a,i,g⟩:=uG n l j d;refine⟨?_,(by show j+1<n+1;omega),(by show j+1<(b::l).length;simp;omega)⟩;rw[aJG];cases f:l.take (j+1) with
   |nil=>rw[f] at a;exact a.elim|cons c r=>rw[f] at a;exact⟨by omega,a⟩
theorem aBo:∀ (l r:List UInt8) (n:Nat),QR l->l.length<=n->term n (l++r)=some (l.length-1)
 |[],_,_,h,_=>h.elim| [b],r,n,h,a=>by
  cases n with
  |zero=>simp at a|succ n=>have e:b.toNat<128:=h;simp[term,e]
 | b::c::l,r,n,h,a=>by
  cases n with
  |zero=>simp at a|succ n=>have f:128<=b.toNat:=h.1;have d:=aBo (c::l) r n h.2 (by simpa using a);rw[C_,term,if_neg (by omega),d];simp
theorem vX:∀ (l:List UInt8) (k:Nat),l.length=k+1->(Qv l↔l.getD k 0≠0)
 |[],k,h=>by simp at h|[b],k,h=>by
  obtain rfl:k=0:=by simpa using h.symm
  simp[Qv]
 |b::c::l,0,h=>by simp at h|b::c::l,k+1,h=>by have:=vX (c::l) k (by simpa using h);rw[aFE];exact this
theorem getD_take{l:List UInt8}{k n:Nat}(h:k<n):(l.take n).getD k 0=l.getD k 0:=by rw[zG,zG,yf,if_pos h]
theorem aVt{l:List UInt8}{k:Nat}(h:QR l)(c:l.length=k+1)(g:k<10):dn (oV (oq l % 18446744073709551616))=l↔(oq l<18446744073709551616/\(k=0\/l.getD k 0≠0)):=by
 have b:oq l % 18446744073709551616<128 ^ (9+1):=by have:oq l % 18446744073709551616<18446744073709551616:=Nat.mod_lt _ (by omega);omega
 unfold dn;rw[bHw];constructor;intro e;have f:=aGl 9 _ b;rw[e] at f;refine⟨by omega,?_⟩;rcases aCE k with a|a;exact .inl a;refine .inr ((vX l k c).1 ?_);rw[<-e];refine aSs 9 _ b (fun i=>?_);rw[i] at e;rw[<-e] at c;simp[varint] at c;omega
 rintro⟨f,d⟩;rw[aCN f];refine aGi 9 l h ?_ (by omega);rcases d with d|d;exact .inl (by omega);exact .inr ((vX l k c).2 d)
theorem aTt{b:List UInt8}{k:Nat}(h:term 10 b=some k):dh b=if oq (b.take (k+1))<18446744073709551616/\(k=0\/b.getD k 0≠0) then (oV (oq (b.take (k+1))),k+1,0) else (0,0,7):=by unfold dh;rw[h]
theorem aKp{n:Int}(h1:-9223372036854775808<=n)(h2:n<9223372036854775808):QR (dn n):=aQw 9 _ (by have:=aKm h1 h2;omega)
theorem aNc(n:Int)(h1:-9223372036854775808<=n)(h2:n<9223372036854775808):0<(dn n).length:=by
 have:=aKp h1 h2;cases h:dn n with
 |nil=>rw[h] at this;exact this.elim|cons b l=>simp
theorem jE{n:Int}(r:List UInt8)(h1:-9223372036854775808<=n)(h2:n<9223372036854775808):dh (dn n++r)=(n,(dn n).length,0):=by
 have b:=aKp h1 h2;have g:=aO n;have i:=aNc n h1 h2;have f:=aBo (dn n) r 10 b g;rw[aTt f];have e:(dn n++r).take ((dn n).length-1+1)=dn n:=by rw[show (dn n).length-1+1=(dn n).length from by omega,aHs]
 have d:=aKm h1 h2;have c:oq (dn n)=zig n:=aGl 9 _ (by omega);have a:=(aVt b (k:=(dn n).length-1) (by omega) (by omega)).1 (by rw[c,aCN d,aQy]);have h:(dn n++r).getD ((dn n).length-1) 0=(dn n).getD ((dn n).length-1) 0:=by rw[zG,zG,aBD (by omega)]
 rw[e,h,if_pos a,c,aQy];congr 2;omega
theorem bOc{b:List UInt8}{n:Int}{k:Nat}(h:dh b=(n,k,0)):b.take k=dn n/\0<k/\k<=10/\k<=b.length /\ -9223372036854775808<=n/\n<9223372036854775808:=by
 unfold dh at h;split at h
 ·split at h<;>simp at h
 rename_i j e;split at h;rename_i c;simp only[Prod.mk.injEq,and_true] at h;obtain⟨rfl,rfl⟩:=h;obtain⟨g,m,i⟩:=uG _ _ _ e;have f:(b.take (j+1)).length=j+1:=by rw[ww];omega
 have a:=c;rw[<-getD_take (l:=b) (show j<j+1 by omega)] at a;have:=(aVt g f (by omega)).2 a;rw[aCN c.1] at this;have d:=aAi c.1;exact⟨this.symm,by omega,by omega,by omega,d.1,d.2⟩;simp at h
theorem bOd(b:List UInt8):(dh b).2.2=0\/((dh b).1=0/\(dh b).2.1=0/\((dh b).2.2=6\/(dh b).2.2=7)):=by
 unfold dh;split
 ·split<;>simp
 ·split<;>simp
theorem nR(b:List UInt8):(dh b).2.1<=b.length/\(dh b).2.1<=10:=by
 unfold dh;split
 ·split<;>simp
 ·rename_i j a;obtain⟨_,d,c⟩:=uG _ _ _ a
  split<;>simp<;>omega
theorem fV(b:List UInt8):-9223372036854775808<=(dh b).1/\(dh b).1<9223372036854775808:=by
 unfold dh;split
 ·split<;>simp
 split;rename_i h;exact aAi h.1;simp
def iF(b:List UInt8):List UInt8×Nat×Int:=
 if (dh b).2.2≠0 then ([],0,(dh b).2.2) else if (dh b).1<0 then ([],0,7) else if (dh b).1 > (b.length:Int)-(dh b).2.1 then ([],0,6)
 else ((b.drop (dh b).2.1).take (dh b).1.toNat,(dh b).2.1+(dh b).1.toNat,0)
theorem mD(l r:List UInt8)(h:l.length<4611686018427387904):iF (bI l++r)=(l,(bI l).length,0):=by
 unfold iF bI;rw[GM,jE (n:=(l.length:Int)) (l++r) (by omega) (by omega)];have a:¬((l.length:Int) > ((dn (l.length:Int)++(l++r)).length:Int)-((dn (l.length:Int)).length:Nat)):=by simp only[gz];omega
 dsimp only;rw[if_neg (by simp),if_neg (by omega),if_neg a,aHu];simp
theorem OU{b c:List UInt8}{k:Nat}(h:iF b=(c,k,0)):b.take k=bI c/\k<=b.length:=by
 unfold iF at h;split at h;rename_i d;simp only[Prod.mk.injEq] at h;exact absurd h.2.2 d;rename_i d;split at h;simp at h;split at h;simp at h;rename_i n m;simp only[Prod.mk.injEq,and_true] at h;obtain⟨rfl,rfl⟩:=h
 have e:dh b=((dh b).1,(dh b).2.1,0):=by
  have:(dh b).2.2=0:=by simpa using d
  rw[<-this]
 obtain⟨f,l,j,i,_⟩:=bOc e;have g:(dh b).1.toNat<=b.length-(dh b).2.1:=by omega
 refine⟨?_,by omega⟩;unfold bI;have a:(((b.drop (dh b).2.1).take (dh b).1.toNat).length:Int)=(dh b).1:=by rw[ww,MM];omega
 rw[a,<-f,List.take_add]
theorem bGa(b:List UInt8):(iF b).2.2=0\/((iF b).1=[]/\(iF b).2.1=0/\((iF b).2.2=6\/(iF b).2.2=7)):=by
 unfold iF;split;rename_i h;rcases bOd b with a|⟨_,_,a⟩;exact absurd a h;exact .inr ⟨rfl,rfl,a⟩
 ·split;simp
  ·split<;>simp
theorem aPe(b:List UInt8):(iF b).2.1<=b.length:=by unfold iF;have:=(nR b).1;split;simp;split;simp;split;simp;simp only;omega
theorem kD(b:List UInt8):(iF b).1.length<=b.length:=by unfold iF;split;simp;split;simp;split;simp;simp only[ww,MM];omega
theorem aVu(l m:List UInt8):oq (l++m)=oq l+128 ^ l.length*oq m:=by
 induction l with
 |nil=>simp[oq]|cons b l a=>simp only[C_,oq,a,We,aEL];rw[Nat.mul_add,<-Nat.mul_assoc,aFA 128 (128 ^ l.length)];omega
theorem bIo(l:List UInt8):oq l<128 ^ l.length:=by
 induction l with
 |nil=>simp[oq]|cons b l a=>simp only[oq,We,aEL];omega
theorem aQx{L:List UInt8}{k:Nat}(h:k<L.length):oq (L.take (k+1))=oq (L.take k)+128 ^ k*((L.getD k 0).toNat % 128):=by rw[aDR,zH h,Option.toList_some,aVu,ww,aCZ (by omega),zG,zH h];simp[oq]
theorem pU(n:Nat):IntKind.u64.wrap (n:Int)=((n % 18446744073709551616:Nat):Int):=by rw[IntKind.wrap_u64];omega
theorem aCf(n:Nat):(BitVec.ofInt 64 (n:Int)).toNat=n % 18446744073709551616:=by simp
theorem L_{u a i:Nat}(h:u<2 ^ i):u ||| a*2 ^ i=u+a*2 ^ i:=by rw[Nat.or_comm,aBS,<-Nat.shiftLeft_eq,Nat.shiftLeft_add_eq_or_of_lt h]
theorem Ze(c:UInt8):IntKind.u8.wrap ↑(BitVec.ofInt IntKind.u8.bits (c.toNat:Int) &&& BitVec.ofInt IntKind.u8.bits 127).toNat=((c.toNat % 128:Nat):Int):=by have a:=c.toNat_lt;have:=u8_and (c.toNat:Int) 127 (by omega) (by omega) (by omega) (by omega);refine (show _=bits .and .u8 (c.toNat:Int) 127 from rfl).trans (this.trans ?_);rw[VM,show (127:Int).toNat=2 ^ 7-1 from rfl,aJm]
theorem Rj{k u:Nat}(c:UInt8)(o:k<=9)(f:u<128 ^ k) :
  IntKind.u64.wrap ↑(BitVec.ofInt IntKind.u64.bits (u:Int) ||| BitVec.ofInt IntKind.u64.bits (IntKind.u64.wrap (IntKind.u64.wrap (IntKind.u8.wrap ↑(BitVec.ofInt IntKind.u8.bits (c.toNat:Int) &&& BitVec.ofInt IntKind.u8.bits 127).toNat)*2 ^ min (IntKind.i64.wrap (7*(k:Int))).toNat IntKind.u64.bits))).toNat =
   (((u+128 ^ k*(c.toNat % 128)) % 18446744073709551616:Nat):Int):=by
 have m:(IntKind.i64.wrap (7*(k:Int))).toNat=7*k:=by clear f;rw[PP,aEU (by omega) (by omega)];omega
 have e:IntKind.u64.bits=64:=rfl;rw[Ze,m,e,pU (c.toNat % 128),aCN (show c.toNat % 128<18446744073709551616 by omega),aCZ (show 7*k<=64 by omega)];have l:((c.toNat % 128:Nat):Int)*2 ^ (7*k)=((c.toNat % 128*2 ^ (7*k):Nat):Int):=by simp
 rw[l,pU,pU,BitVec.toNat_or,aCf,aCf];have n:c.toNat % 128<128:=by omega
 generalize c.toNat % 128=x at *;have d:k=0\/k=1\/k=2\/k=3\/k=4\/k=5\/k=6\/k=7\/k=8\/k=9:=by omega
 congr 1
 have b:∀ i a,u<2 ^ i->a*2 ^ i<18446744073709551616-u->x*2 ^ (7*k) % 18446744073709551616=a*2 ^ i->(u+128 ^ k*x) % 18446744073709551616=u+a*2 ^ i ->
   (u % 18446744073709551616 ||| x*2 ^ (7*k) % 18446744073709551616 % 18446744073709551616) % 18446744073709551616=(u+128 ^ k*x) % 18446744073709551616:=by
  intro i a j p h g;rw[g,Nat.mod_mod,h,aCN (show u<18446744073709551616 by omega),L_ j,aCN (by omega)]
 rcases d with rfl|rfl|rfl|rfl|rfl|rfl|rfl|rfl|rfl|rfl;exact b 0 x (by omega) (by omega) (by omega) (by omega);exact b 7 x (by omega) (by omega) (by omega) (by omega);exact b 14 x (by omega) (by omega) (by omega) (by omega);exact b 21 x (by omega) (by omega) (by omega) (by omega);exact b 28 x (by omega) (by omega) (by omega) (by omega);exact b 35 x (by omega) (by omega) (by omega) (by omega);exact b 42 x (by omega) (by omega) (by omega) (by omega);exact b 49 x (by omega) (by omega) (by omega) (by omega);exact b 56 x (by omega) (by omega) (by omega) (by omega);exact b 63 (x % 2) (by omega) (by omega) (by omega) (by omega)
theorem Rn{u:Nat}(a:u<18446744073709551616):IntKind.i64.wrap ((u:Int).fdiv (2 ^ min (1:Int).toNat IntKind.u64.bits))=((u / 2:Nat):Int):=by
 rw[show (2:Int) ^ min (1:Int).toNat IntKind.u64.bits=2 from rfl,PP];have:(u:Int).fdiv 2=((u / 2:Nat):Int):=by rw[Int.fdiv_eq_ediv_of_nonneg _ (by omega)];omega
 rw[this];omega
theorem VE(u:Nat)(b:u<18446744073709551616):IntKind.u64.wrap ↑(BitVec.ofInt IntKind.u64.bits (u:Int) &&& BitVec.ofInt IntKind.u64.bits 1).toNat=((u % 2:Nat):Int):=by have a:IntKind.u64.bits=64:=rfl;rw[a,BitVec.toNat_and,aCf,show (1:Int)=((1:Nat):Int) from rfl,aCf,pU,aCN b,show 1 % 18446744073709551616=2 ^ 1-1 from rfl,aJm];congr 1;omega
theorem aFL{n:Nat}(hn:n<9223372036854775808):IntKind.i64.wrap ↑(BitVec.ofInt IntKind.i64.bits (if IntKind.i64.signed=true then -1 else IntKind.i64.max) ^^^ BitVec.ofInt IntKind.i64.bits (n:Int)).toNat = -(n:Int)-1:=by have a:IntKind.i64.bits=64:=rfl;have b:(if IntKind.i64.signed=true then -1 else IntKind.i64.max:Int) = -1:=rfl;rw[b,a,show BitVec.ofInt 64 (-1)=BitVec.allOnes 64 from by decide,BitVec.allOnes_xor,BitVec.toNat_not,aCf,PP];omega
namespace Pv
abbrev o6(l:di):PV:=dm (.sl 1 l.length (oz l))
def zV(r:Int×Nat×Int):PV:=.o7 [.one (.lit (.int .i64 r.1)),.one (.lit (.int .i64 (r.2.1:Int))),.one (.lit (.int .i64 r.2.2))]
def aIY(L:di)(k:Nat):St:=⟨[(0,none,o6 L),(5,none,qc (.int .u64 ((oq (L.take k) % 18446744073709551616:Nat):Int))),(13,none,dm (.sl 1 (min L.length 10) (oz L))),(14,none,dw ((min L.length 10:Nat):Int)),(15,none,dw k)],[]⟩
def aIX(L:di)(k:Nat):St:=⟨[(0,none,o6 L),(5,none,qc (.int .u64 ((oq (L.take (k+1)) % 18446744073709551616:Nat):Int))),(6,none,dw k),(7,none,qc (uh (L.getD k 0))),(13,none,dm (.sl 1 (min L.length 10) (oz L))),(14,none,dw ((min L.length 10:Nat):Int)),(15,none,dw k)],[]⟩
theorem dH{n:Int}(h1:-9223372036854775808<=n)(h2:n<9223372036854775808):IntKind.wrap .i64 n=n:=by rw[PP,aEU a_ a_];omega
theorem xG:∀ (n:Nat) (L:di),(∀ i,i<min L.length n->128<=(L.getD i 0).toNat)->term n L=none
 |0,_,_=>rfl|_+1,[],_=>rfl| n+1,b::l,h=>by
  have a:=h 0 d_;rw[aJU] at a
  rw[term,ah a_,xG n l (fun i c=>by
   have:=h (i+1) l7
   rwa [aFE] at this)]
  rfl
theorem xE:∀ (n:Nat) (L:di) (k:Nat),(∀ i,i<k->128<=(L.getD i 0).toNat)->k<L.length->k<n->(L.getD k 0).toNat<128->term n L=some k
 |0,_,_,_,_,h,_=>a_|_+1,[],_,_,h,_,_=>by simp at h|n+1,b::l,0,_,_,_,h=>by rw[aJU] at h;rw[term,au h]| n+1,b::l,k+1,h,h1,h2,h3=>by
  have a:=h 0 a_;rw[aJU] at a;rw[aFE] at h3
  rw[term,ah a_,xE n l k (fun i c=>by
   have:=h (i+1) a_
   rwa [aFE] at this) (by simpa using h1) a_ h3]
  rfl
theorem aLv(L:di)(N:L.length<4611686018427387904):fQ prog af 138 true [o6 L] (zV (dh L)):=by
 have M:=WH;refine bH func138 rfl rfl bJ (fun A K I O=>?_);refine aI ?_;refine qK ?_;refine aH ?_ ?_;simp;omega;refine aN ?_;refine aW (aIY L 0) ?_ ?_ ?_;refine .cr (.cr (.cons ?_ (.cons ?_ ((iT _)))));have e:(min (L.length:Int) 10-0).toNat=min L.length 10:=a_;exact congrArg dm (by rw[e];congr 1;funext i;simp);exact congrArg dw a_;exact .nil;refine dX (min L.length 10) (fun k s=>s=aIY L k/\∀ i,i<k->128<=(L.getD i 0).toNat) 0 ⟨rfl,fun i x=>a_⟩ a_ (fun k s G J=>?_);obtain⟨rfl,g⟩:=G;refine qK ?_;refine cO (fun b=>?_) (fun b=>?_)
 ·have j:k<L.length/\k<10:=by
   have:(k:Int)<((min L.length 10:Nat):Int):=by simpa using b
   omega
  refine gQ ?_;refine aN ?_;refine aH ?_ ?_;simp;omega;refine aH ?_ ?_;simp;rw[dH a_ a_];omega;refine aW (aIX L k) ?_ ?_ ?_;refine .cr (.cons ?_ ((iT _)));refine congrArg (fun n=>qc (.int .u64 n)) ?_;have r:=bIo (L.take k);rw[ww,aCZ a_] at r;have C:(128:Nat) ^ k<=128 ^ 9:=Nat.pow_le_pow_right a_ a_;rw[aCN (show oq (L.take k)<18446744073709551616 by omega),VM];refine (Rj _ a_ r).trans ?_;rw[aQx j.1];exact .nil;refine aJ (fun b=>?_) (fun b=>?_);refine dK ?_;change kw _ _ _ _ _;refine fJ ?_;intro a w F;refine⟨k+1,_,a_,a_,⟨rfl,?_⟩,(F.reset (kT:=[0,5,13,14,15]) (kO:=[]) ay d_).same ?_ ?_⟩;intro i x;rcases aER (aJV x) with h|rfl;exact g i h
  have:((L.getD i 0).toNat:Int)>=128:=by simpa using b
  omega;exact .cr (.cr (.cr (.cr (.cons (by rw[bW k a_]) .nil))));exact .nil
  ·have p:(L.getD k 0).toNat<128:=by
    have:¬((L.getD k 0).toNat:Int)>=128:=by simpa using b
    omega
   have t:=xE 10 L k g j.1 j.2 p;have l:=aTt t
   have f:oq (L.take (k+1))<18446744073709551616↔(k=9->(L.getD k 0).toNat<=1):=by
    have r:=bIo (L.take k);rw[ww,aCZ a_] at r;rw[aQx j.1,aCN p];rcases aAW k 9 with C|C
    ·have H:(128:Nat) ^ k<=128 ^ 8:=Nat.pow_le_pow_right a_ a_;have:128 ^ k*(L.getD k 0).toNat<=128 ^ 8*127:=Nat.mul_le_mul H a_
     constructor<;>intro<;>omega
    ·obtain rfl:k=9:=a_
     constructor<;>intro<;>omega
   have z:(L.getD k 0=0)↔(L.getD k 0).toNat=0:=by rw[<-UInt8.toNat_inj];rfl
   refine gQ ?_;refine aH ?_ ?_;simp;generalize (L[k]?.getD 0).toNat=c;omega;refine cO (fun b=>?_) (fun b=>?_);have o:¬(oq (L.take (k+1))<18446744073709551616/\(k=0\/L.getD k 0≠0)):=by rw[f,ne_eq,z];simp only[Bool.cond_eq_ite,Bool.if_true_left,zg,Bool.or_eq_true,decide_eq_true_eq,beq_iff_eq,Bool.if_false_right] at b;omega
   refine gB ?_;rw[l,ah o];rfl;have d:oq (L.take (k+1))<18446744073709551616/\(k=0\/L.getD k 0≠0):=by rw[f,ne_eq,z];simp only[Bool.cond_eq_ite,Bool.if_true_left,Bool.and_eq_false_iff,Bool.or_eq_false_iff,decide_eq_false_iff_not,Bool.if_false_right] at b;simp only[zg,decide_eq_true_eq,beq_iff_eq] at b;omega
   have u:=aCN d.1;have m:=Rn d.1;have q:=VE _ d.1;refine dS ?_;refine aJ (fun b=>?_) (fun b=>?_);refine mY ?_;refine gB ?_;rw[u,q] at b;have D:=aFL (n:=oq (L.take (k+1)) / 2) a_
   have B:oq (L.take (k+1)) % 2=1:=by
    have:((oq (L.take (k+1)) % 2:Nat):Int)=1:=by simpa using b
    omega
   rw[l,au d,u,m,D,bW k a_];unfold oV zV;rw[ah a_];refine dS ?_;refine jB ?_;rw[u,q] at b
   have y:oq (L.take (k+1)) % 2=0:=by
    have:¬((oq (L.take (k+1)) % 2:Nat):Int)=1:=by simpa using b
    omega
   rw[l,au d,u,m,bW k a_];unfold oV zV;rw[au y]
 have E:k=min L.length 10:=by
  have:¬(k:Int)<((min L.length 10:Nat):Int):=by simpa using b
  omega
 have t:=xG 10 L (fun i x=>g i a_);refine dK ?_;change kw _ _ _ _ _;refine aJ (fun b=>?_) (fun b=>?_);refine gB ?_;have:(L.length:Int)<10:=by simpa using b
 unfold dh;rw[t];dsimp only;rw[au a_];rfl;refine dS ?_;refine jB ?_;have:¬(L.length:Int)<10:=by simpa using b
 unfold dh;rw[t];dsimp only;rw[ah a_];rfl
theorem bRi{len:Nat}{f:Nat->g_}(h:Gg len f):∀ i,i<len->f i=oz (rowB len f) i:=fun i a=>by unfold oz rowB;rw[nK len i _ a];exact aTm (h i a)
theorem S9{C:Ctx}{len:Nat}{f:Nat->g_}{x:ag}(h:Gg len f)(a:RV C (dm (.sl 1 len f)) x):RV C (o6 (rowB len f)) x:=by refine .w (.one ?_);rw[dP];exact (a.inv).BH (bRi h)
theorem Jr{C:Ctx}{x:ag}(a:RV C (dm (.lit (.slice none 0 0))) x):RV C (o6 []) x:=by have:=a.gu;subst this;exact .w (.one (.sl (Reads.nil _ _) (fun g c=>by simp[Value.ownBlock] at c) (fun i b=>by simp at b)))
def wX:PV->Option (Prop×di)
 |.w (.one (.sl n len f))=>(match bz n 1 with
  |true=>some (Gg len f,rowB len f)|false=>none)
 |.w (.one (.lit (.slice none 0 0)))=>some (True,[])|_=>none
theorem sW{C:Ctx}{v:PV}{p:Prop}{l:di}{x:ag}(h:wX v=some (p,l))(c:p)(a:RV C v x):RV C (o6 l) x:=by
 unfold wX at h;split at h
 ·rename_i n len f
  cases b:bz n 1<;>rw[b] at h<;>cases h
  obtain rfl:=iy b;exact S9 c a
 cases h;exact Jr a;cases h
def IG(pre:di->Prop)(a:di->PV):Spec:=aV true fun b=>match b with
 |[v]=>(match wX v with
  |some (p,l)=>some (p/\pre l,a l)|none=>none)
 |_=>none
theorem pM{f:Nat}{pre:di->Prop}{b:di->PV}(c:∀ args w,(aAE f args).run prog w=.ok (.enter f args) w)(h:∀ l,pre l->fQ prog af f true [o6 l] (b l)):b_ prog af f (IG pre b):=by
 refine aU c (fun k p r a e=>?_);split at a;rename_i v;cases d:wX v with
 |none=>rw[d] at a;cases a| some q=>
  obtain⟨m,l⟩:=q;rw[d] at a;cases a
  exact (h l e.2).args fun C g i=>by
   match g,i with
   |[x],⟨j,_⟩=>exact⟨sW d e.1 j,trivial⟩
 cases a
def jC(l:di):Prop:=l.length<4611686018427387904
def CE(l:di):Int×Nat×Int:=((dh l).1,(dh l).2.1,if (dh l).2.2≠0 then (dh l).2.2 else if (dh l).1<0 then 7 else if (dh l).1 > (l.length:Int)-(dh l).2.1 then 6 else 0)
def Ew(r:di×Nat×Int):PV:=.o7 [.one (.lit (.string (strOf r.1))),.one (.lit (.int .i64 (r.2.1:Int))),.one (.lit (.int .i64 r.2.2))]
theorem lU{L:di}{k m:Nat}(h:k+m<=L.length):rowB m (fun i=>oz L (k+i))=(L.drop k).take m:=by apply aBR;rw[dP,ww,MM];omega;intro i a b;rw[dP] at a;simp only[rowB,aCI,aCA,aMl,List.getElem_take,List.getElem_drop];rw[zG,zH a_];rfl
theorem Q9(L:di)(k:Nat):(fun i=>oz L (k+i))=oz (L.drop k):=by funext i;unfold oz;rw[zG,zG,aAk]
@[simp] theorem WQ(n k:Nat)(L:di):Gg n (fun i=>oz L (k+i)):=fun _ _=>aLt L _
def ZI:List (Nat×Spec):=(138,IG jC fun l=>zV (dh l))::bMv
theorem Ph:∀ p∈ZI,b_ prog af p.1 p.2:=by intro p a;rcases List.mem_cons.1 a with rfl|a;exact pM (aB func138 ai rfl) aLv;exact aYd p a
theorem aTE:jq prog af (find ZI):=⟨aY Ph,dB⟩
theorem bQx(L:di)(h:jC L):fQ prog af 168 true [o6 L,dw 1] (zV (CE L)):=by
 have M:=aTE;have j:=nR L;have i:=fV L;have l:L.length<4611686018427387904:=h;refine bH func168 rfl rfl bJ (fun A o m p=>?_);refine bU ?_ ?_;simp[h];refine aW (⟨[(0,none,o6 L),(1,none,dw 1),(4,none,dw (dh L).1),(5,none,dw ((dh L).2.1:Int)),(6,none,dw (dh L).2.2)],[]⟩) ?_ ?_ ?_;rw[eP];exact iq;exact .nil;unfold CE;generalize dh L=g at *;obtain⟨n,k,e⟩:=g;dsimp only at *;refine aQz ?_;refine eH (fun a=>?_) (fun a=>?_);have f:e≠0:=by simpa using a
 refine dS ?_;refine jB ?_;unfold zV;rw[au f];have f:e=0:=by simpa using a
 subst f;refine eH (fun a=>?_) (fun a=>?_);have b:n<0:=by simpa using a
 refine mY ?_;refine gB ?_;unfold zV;rw[ah d_,au b];have b:¬n<0:=by simpa using a
 refine eH (fun a=>?_) (fun a=>?_);have c:n > (L.length:Int)-k:=by have d:IntKind.wrap .i64 ((L.length:Int)-k)=(L.length:Int)-k:=dH a_ a_;rw[d,Int.tdiv_one,d] at a;simpa using a
 refine mY ?_;refine gB ?_;unfold zV;rw[ah d_,ah b,au c];have c:¬n > (L.length:Int)-k:=by have d:IntKind.wrap .i64 ((L.length:Int)-k)=(L.length:Int)-k:=dH a_ a_;rw[d,Int.tdiv_one,d] at a;simpa using a
 refine dS ?_;refine jB ?_;unfold zV;rw[ah d_,ah b,ah c]
def bJi:Spec:=aV true fun a=>match a with
 |[v,.w (.one (.lit (.int .i64 1)))]=>(match wX v with
  |some (p,l)=>some (p/\jC l,zV (CE l))|none=>none)
 |_=>none
theorem Po:b_ prog af 168 bJi:=by
 refine aU (aB func168 ai rfl) (fun h p r a c=>?_);split at a;rename_i v;cases b:wX v with
 |none=>rw[b] at a;cases a| some q=>
  obtain⟨i,l⟩:=q;rw[b] at a;cases a
  exact (bQx l c.2).args fun C d e=>by
   match d,e with
   |[x,y],⟨g,f,_⟩=>exact⟨sW b c.1 g,f,trivial⟩
 cases a
def ZH:List (Nat×Spec):=(168,bJi)::ZI
theorem Pg:∀ p∈ZH,b_ prog af p.1 p.2:=by intro p a;rcases List.mem_cons.1 a with rfl|a;exact Po;exact Ph p a
theorem ZK:jq prog af (find ZH):=⟨aY Pg,dB⟩
theorem aUw(L:di):(CE L).2.2=0->(dh L).2.2=0/\0<=(dh L).1/\(dh L).1<=(L.length:Int)-(dh L).2.1:=by unfold CE;dsimp only;split;rename_i h;intro a;exact absurd a h;rename_i h;split;intro a;cases a;split;intro a;cases a;intro _;exact⟨by simpa using h,a_,a_⟩
theorem aTv(L:di):iF L=if (CE L).2.2≠0 then ([],0,(CE L).2.2) else ((L.drop (dh L).2.1).take (dh L).1.toNat,(dh L).2.1+(dh L).1.toNat,0):=by
 unfold iF CE;dsimp only;by_cases h:(dh L).2.2=0;by_cases a:(dh L).1<0;simp[h,a];by_cases b:(dh L).1 > (L.length:Int)-(dh L).2.1;have e:(if (dh L).2.2≠0 then (dh L).2.2 else if (dh L).1<0 then (7:Int) else if (dh L).1 > (L.length:Int)-(dh L).2.1 then 6 else 0)=6:=by rw[ah (by simp[h]),ah a,au b]
 rw[e,ah (by simp[h]),ah a,au b,au jb];have e:(if (dh L).2.2≠0 then (dh L).2.2 else if (dh L).1<0 then (7:Int) else if (dh L).1 > (L.length:Int)-(dh L).2.1 then 6 else 0)=0:=by rw[ah (by simp[h]),ah a,ah b]
 rw[e,ah (by simp[h]),ah a,ah b,ah jb];rw[au h,au h,au h]
theorem aEo(L:di)(d:jC L):fQ prog af 139 true [o6 L] (Ew (iF L)):=by
 have M:=ZK;have l:=nR L;have h:=fV L;have m:L.length<4611686018427387904:=d;refine bH func139 rfl rfl bJ (fun A q p r=>?_);refine bU ?_ ?_;simp[d];refine aW (⟨[(0,none,o6 L),(5,none,dw (dh L).1),(6,none,dw ((dh L).2.1:Int)),(7,none,dw (CE L).2.2)],[]⟩) ?_ ?_ ?_;rw[eP];exact iq;exact .nil;have b:=aUw L;rw[aTv L];generalize (CE L).2.2=e at *;generalize dh L=g at *;obtain⟨n,k,s⟩:=g;dsimp only at *;refine aJ (fun c=>?_) (fun c=>?_);have a:e≠0:=by simpa using c
 refine gB ?_;rw[au a];rfl;have a:e=0:=by simpa using c
 subst a;obtain⟨_,j,i⟩:=b rfl;have f:IntKind.wrap .i64 ((k:Int)+n)=((k+n.toNat:Nat):Int):=by rw[dH a_ a_];omega
 refine jK ?_ ?_;simp;rw[f];omega;refine jB ?_;rw[ah d_,f];have o:(((k+n.toNat:Nat):Int)-(k:Int)).toNat=n.toNat:=a_;unfold Ew;rw[o,VM,lU a_];rfl
def ny(L:di):Nat:=match term 10 L with
 |none=>0|some k=>k+1
def aID(L:di)(k:Nat):St:=⟨[(0,none,o6 L),(3,none,dw k)],[]⟩
theorem aWx(L:di)(_:jC L):fQ prog af 181 true [o6 L] (dw (ny L)):=by
 have M:=ZK;refine bH func181 rfl rfl bJ (fun A r p u=>?_);refine aI ?_;refine jG ?_;refine mZ (aID L 0) ?_;refine aN ?_;refine dX (min L.length 10) (fun k s=>s=aID L k/\∀ i,i<k->128<=(L.getD i 0).toNat) 0 ⟨rfl,fun i g=>a_⟩ a_ (fun k s n q=>?_);obtain⟨rfl,b⟩:=n;refine aJ (fun c=>?_) (fun c=>?_)
 have d:k<L.length/\k<10:=by
  have o:(k:Int)<(L.length:Int)/\(k:Int)<10:=by simpa using c
  omega
 refine gQ ?_;refine aN ?_;refine aH ?_ ?_;simp;omega;refine cO (fun c=>?_) (fun c=>?_)
 have f:(L.getD k 0).toNat<128:=by
  have:((L.getD k 0).toNat:Int)<128:=by simpa using c
  omega
 have e:=xE 10 L k b d.1 d.2 f;refine gB ?_;unfold ny;rw[e,bW k a_]
 have j:128<=(L.getD k 0).toNat:=by
  have:¬((L.getD k 0).toNat:Int)<128:=by simpa using c
  omega
 refine fZ ?_;refine fJ ?_;intro a w m;refine⟨k+1,_,a_,a_,⟨rfl,fun i g=>?_⟩,(m.reset (kT:=[0,3]) (kO:=[]) ay d_).same ?_ ?_⟩;rcases aER (aJV g) with h|rfl;exact b i h;exact j;exact .cr (.cons (by rw[bW k a_]) .nil);exact .nil
 have l:k=min L.length 10:=by
  have o:¬((k:Int)<(L.length:Int)/\(k:Int)<10):=by simpa using c
  omega
 have e:=xG 10 L (fun i g=>b i a_);refine dK ?_;change kw _ _ _ _ _;refine gB ?_;unfold ny;rw[e];rfl
def aGB(X Y:di)(k:Nat):St:=⟨[(0,none,o6 X),(1,none,o6 Y),(5,none,dw k)],[]⟩
theorem bGn{X Y:di}(hl:X.length=Y.length)(h:∀ i,i<X.length->X.getD i 0=Y.getD i 0):X=Y:=by apply aBR hl;intro i a b;have:=h i a;rw[zG,zG,zH a,zH b] at this;exact this
theorem bJx(X Y:di)(p:jC X):fQ prog af 182 true [o6 X,o6 Y] (t_ (X==Y)):=by
 have M:=ZK;have o:X.length<4611686018427387904:=p;refine bH func182 rfl rfl bJ (fun A u r x=>?_);refine aI ?_;refine aJ (fun b=>?_) (fun b=>?_)
 have c:X≠Y:=by
  have:¬(X.length:Int)=Y.length:=by simpa using b
  intro e;subst e;exact this rfl
 refine gB ?_;rw[beq_eq_false_iff_ne.2 c]
 have j:X.length=Y.length:=by
  have:(X.length:Int)=Y.length:=by simpa using b
  omega
 refine gQ ?_;refine aI ?_;refine mZ (aGB X Y 0) ?_;refine aN ?_;refine dX X.length (fun k s=>s=aGB X Y k/\∀ i,i<k->X.getD i 0=Y.getD i 0) 0 ⟨rfl,fun i f=>a_⟩ a_ (fun k s q t=>?_);obtain⟨rfl,d⟩:=q;refine aJ (fun b=>?_) (fun b=>?_);have m:k<X.length:=by simpa using b
 refine gQ ?_;refine aN ?_;refine aH ?_ ?_;simp;omega;refine cO (fun b=>?_) (fun b=>?_);have c:X≠Y:=by intro e;subst e;simp at b
 refine gB ?_;rw[beq_eq_false_iff_ne.2 c]
 have g:X.getD k 0=Y.getD k 0:=by
  have:((X.getD k 0).toNat:Int)=(Y.getD k 0).toNat:=by simpa using b
  exact UInt8.toNat_inj.1 a_
 refine fZ ?_;refine fJ ?_;intro a w n;refine⟨k+1,_,a_,a_,⟨rfl,fun i f=>?_⟩,(n.reset (kT:=[0,1,5]) (kO:=[]) ay d_).same ?_ ?_⟩;rcases aER (aJV f) with h|rfl;exact d i h;exact g;exact .cr (.cr (.cons (by rw[bW k a_]) .nil));exact .nil
 have l:k=X.length:=by
  have:¬k<X.length:=by simpa using b
  omega
 have g:=bGn j (fun i f=>d i a_);refine dK ?_;change kw _ _ _ _ _;refine gB ?_;subst g;simp
def JB:Spec:=aV true fun a=>match a with
 |[v,u]=>(match wX v,wX u with
  |some (p,l),some (q,m)=>some (p/\q/\jC l,t_ (l==m))|_,_=>none)
 |_=>none
theorem Jo:b_ prog af 182 JB:=by
 refine aU (aB func182 ai rfl) (fun i p r b c=>?_);split at b
 ·rename_i v u
  cases d:wX v<;>cases a:wX u<;>simp only[d,a] at b<;>try (cases b;done)
  cases b
  exact (bJx _ _ c.2.2).args fun C e f=>by
   match e,f with
   |[x,y],⟨h,g,_⟩=>exact⟨sW d c.1 h,sW a c.2.1 g,trivial⟩
 cases b
def Uw:List (Nat×Spec):=(181,IG jC fun l=>dw (ny l))::(182,JB)::ZH
theorem Pe:∀ p∈Uw,b_ prog af p.1 p.2:=by intro p a;simp only[Uw,xn] at a;rcases a with rfl|rfl|a;exact pM (aB func181 ai rfl) aWx;exact Jo;exact Pg p a
theorem aTD:jq prog af (find Uw):=⟨aY Pe,dB⟩
theorem U8(L:di):ny L<=L.length/\ny L<=10:=by
 unfold ny;cases h:term 10 L with
 |none=>simp|some k=>obtain⟨_,b,a⟩:=uG _ _ _ h;dsimp only;omega
theorem bBy(L:di):dh L=if ny L=0 then (0,0,if L.length<10 then 6 else 7) else if dn (oV (oq (L.take (ny L)) % 18446744073709551616))=L.take (ny L) then (oV (oq (L.take (ny L)) % 18446744073709551616),ny L,0) else (0,0,7):=by
 unfold dh ny;cases h:term 10 L with
 |none=>rfl|some k=>
  obtain⟨f,d,g⟩:=uG _ _ _ h;dsimp only;rw[ah (show ¬k+1=0 by omega)];have c:(L.take (k+1)).length=k+1:=by rw[ww];omega
  have a:=aVt f c d;rw[getD_take a_] at a;by_cases b:oq (L.take (k+1))<18446744073709551616/\(k=0\/L.getD k 0≠0);rw[au b,au (a.2 b),aCN b.1];rw[ah b,ah (fun e=>b (a.1 e))]
theorem Il(u c:Nat):IntKind.wrap .u64 (IntKind.wrap .u64 (128*(u:Int))+IntKind.wrap .u64 ((c:Int).tmod 128))=(((c % 128+128*u) % 18446744073709551616:Nat):Int):=by
 have e:(c:Int).tmod 128=((c % 128:Nat):Int):=by rw[aEI a_];omega
 rw[e,show (128:Int)*(u:Int)=((128*u:Nat):Int) from a_,pU,pU,<-Int.natCast_add,pU];congr 1;omega
theorem bIp{l:di}{k:Nat}(h:k<l.length):oq (l.drop k)=(l.getD k 0).toNat % 128+128*oq (l.drop (k+1)):=by rw[aEz h,zG,zH h];rfl
def F_(L:di)(r:Nat):Nat:=oq ((L.take (ny L)).drop (ny L-r)) % 18446744073709551616
def aGW(L:di)(r:Nat):St:=⟨[(0,none,o6 L),(5,none,dw (ny L)),(6,none,qc (.int .u64 (F_ L r:Int))),(7,none,dw ((ny L:Int)-1-r))],[]⟩
theorem aHa(L:di)(C:jC L):fQ prog af 151 true [o6 L] (zV (dh L)):=by
 have M:=aTD;have O:L.length<4611686018427387904:=C;have F:=U8 L;refine bH func151 rfl rfl bJ (fun A V E Q=>?_);refine bU ?_ ?_;simp[C];refine aW (⟨[(0,none,o6 L),(5,none,dw (ny L))],[]⟩) ?_ ?_ ?_;rw[eP];exact iq;exact .nil;refine aJ (fun b=>?_) (fun b=>?_)
 have t:ny L=0/\L.length<10:=by
  have:((ny L:Nat):Int)=0/\(L.length:Int)<10:=by simpa using b
  omega
 refine gB ?_;rw[bBy,au t.1,au t.2];rfl;have t:¬(ny L=0/\L.length<10):=by intro h;simp[h.1] at b;omega
 refine dS ?_;refine jG ?_;refine aW (aGW L 0) ?_ ?_ ?_;refine .cr (.cr (.cons ?_ (.cons ?_ .nil)));unfold F_;rw[Nat.sub_zero,aCV (by rw[ww];omega)];rfl;exact congrArg dw (by rw[dH a_ a_];omega);exact .nil;refine aN ?_;refine dX (ny L) (fun k s=>s=aGW L k) 0 rfl a_ (fun k s P S=>?_);subst P;refine aJ (fun b=>?_) (fun b=>?_)
 have G:k<ny L:=by
  have:((ny L:Nat):Int)-1-k>=0:=by simpa using b
  omega
 refine gQ ?_;refine aN ?_;refine aS M Q E (ay) ai ?_ ?_;simp;omega;change kw _ _ _ _ _;refine fJ ?_;intro a w J;refine⟨k+1,_,a_,a_,rfl,(J.reset (kT:=[0,5,6,7]) (kO:=[]) ay d_).same ?_ ?_⟩;refine .cr (.cr (.cons ?_ (.cons ?_ .nil)));refine congrArg (fun n=>qc (.int .u64 n)) ?_;rw[show ((ny L:Nat):Int)-1-k=((ny L-1-k:Nat):Int) from a_,VM,Il];unfold F_;have c:=bIp (l:=L.take (ny L)) (k:=ny L-1-k) (by rw[ww];omega);rw[getD_take a_,show ny L-1-k+1=ny L-k from a_] at c;rw[show ny L-(k+1)=ny L-1-k from a_,c];congr 1;omega;exact congrArg dw (by rw[dH a_ a_];omega);exact .nil
 have z:k=ny L:=by
  have:¬((ny L:Nat):Int)-1-k>=0:=by simpa using b
  omega
 subst z;have D:F_ L (ny L)=oq (L.take (ny L)) % 18446744073709551616:=by unfold F_;rw[aBa,aBk]
 have y:F_ L (ny L)<18446744073709551616:=Nat.mod_lt _ a_;have p:=aAi y;refine dK ?_;change kw _ _ _ _ _;refine aI ?_
 have I:IntKind.wrap .i64 (IntKind.wrap .u64 (((F_ L (ny L):Nat):Int).tdiv 2))=((F_ L (ny L) / 2:Nat):Int):=by
  have e:((F_ L (ny L):Nat):Int).tdiv 2=((F_ L (ny L) / 2:Nat):Int):=by rw[Int.tdiv_eq_ediv_of_nonneg a_];omega
  rw[e,pU,aCN a_,dH a_ a_]
 refine aW (⟨[(0,none,o6 L),(5,none,dw (ny L)),(6,none,qc (.int .u64 (F_ L (ny L):Int))),(8,none,dw ((F_ L (ny L) / 2:Nat):Int))],[]⟩) ?_ ?_ ?_;exact .cr (.cr (.cr (.cons (congrArg dw I) .nil)));exact .nil;have q:((F_ L (ny L):Nat):Int).tmod 2=((F_ L (ny L) % 2:Nat):Int):=by rw[aEI a_];omega
 have d:=bBy L;rw[<-D] at d;generalize T:F_ L (ny L)=U at *;have r:gy (oV U):=p;have N:=aO (oV U);have g:(rowB (dn (oV U)).length fun i=>oz (dn (oV U)) (0+i))=dn (oV U):=by rw[lU a_,aBk,aCR]
 have f:(rowB (((ny L:Nat):Int)-0).toNat fun i=>oz L (aBF 0+i))=L.take (ny L):=by rw[show (((ny L:Nat):Int)-0).toNat=ny L from a_];exact (lU (L:=L) (k:=0) (m:=ny L) a_).trans (by rw[aBk])
 refine aJ (fun b=>?_) (fun b=>?_)
 have o:IntKind.wrap .i64 (IntKind.wrap .i64 (0-((U / 2:Nat):Int))-1)=oV U:=by
  rw[q] at b;have B:((U % 2:Nat):Int)=1:=by simpa using b
  have e:IntKind.wrap .i64 (0-((U / 2:Nat):Int))=0-((U / 2:Nat):Int):=dH a_ a_;rw[e,dH a_ a_];unfold oV;rw[ah a_];omega
 refine mY ?_;refine aW (⟨[(0,none,o6 L),(5,none,dw (ny L)),(8,none,dw (oV U))],[]⟩) ?_ ?_ ?_;exact .cr (.cr (.cons (congrArg dw o) .nil));exact .nil;refine qG ?_ ?_;simp[r];exact⟨fun _=>a_,fun _ i H x u=>aFx (show (oz _ i).all (bT false)=true from rfl) x u,fun _=>by unfold jC;omega⟩;refine cO (fun b=>?_) (fun b=>?_);rw[g,f] at b;have j:dh L=(0,0,7):=by rw[d];by_cases c:ny L=0;rw[au c,ah (fun h=>t ⟨c,h⟩)];rw[ah c,ah];intro e;rw[e] at b;simp[c] at b
 refine gB ?_;rw[j];rfl;rw[g,f] at b;have j:ny L≠0/\dn (oV U)=L.take (ny L):=by by_cases c:ny L=0;simp[c] at b;refine⟨c,?_⟩;simp[c] at b;exact b
 refine dS ?_;refine jB ?_;rw[d,ah j.1,au j.2];rfl
 have o:((U / 2:Nat):Int)=oV U:=by
  rw[q] at b;have K:¬((U % 2:Nat):Int)=1:=by simpa using b
  unfold oV;rw[au a_]
 refine fZ ?_;refine aW (⟨[(0,none,o6 L),(5,none,dw (ny L)),(8,none,dw (oV U))],[]⟩) ?_ ?_ ?_;exact .cr (.cr (.cons (congrArg dw o) .nil));exact .nil;refine qG ?_ ?_;simp[r];exact⟨fun _=>a_,fun _ i H x u=>aFx (show (oz _ i).all (bT false)=true from rfl) x u,fun _=>by unfold jC;omega⟩;refine cO (fun b=>?_) (fun b=>?_);rw[g,f] at b;have j:dh L=(0,0,7):=by rw[d];by_cases c:ny L=0;rw[au c,ah (fun h=>t ⟨c,h⟩)];rw[ah c,ah];intro e;rw[e] at b;simp[c] at b
 refine gB ?_;rw[j];rfl;rw[g,f] at b;have j:ny L≠0/\dn (oV U)=L.take (ny L):=by by_cases c:ny L=0;simp[c] at b;refine⟨c,?_⟩;simp[c] at b;exact b
 refine dS ?_;refine jB ?_;rw[d,ah j.1,au j.2];rfl
def Uu:List (Nat×Spec):=(151,IG jC fun l=>zV (dh l))::(139,IG jC fun l=>Ew (iF l))::Uw
theorem PZ:∀ p∈Uu,b_ prog af p.1 p.2:=by intro p a;simp only[Uu,xn] at a;rcases a with rfl|rfl|a;exact pM (aB func151 ai rfl) aHa;exact pM (aB func139 ai rfl) aEo;exact Pe p a
theorem aTC:jq prog af (find Uu):=⟨aY PZ,dB⟩
def Zo(L:di):Int×Nat×Int:=if (CE L).2.2=0 then ((dh L).1,(dh L).2.1,0) else (0,0,(CE L).2.2)
theorem bEt(L:di)(i:jC L):fQ prog af 183 true [o6 L,dw 1] (zV (Zo L)):=by
 have M:=aTC;have o:=nR L;have m:=fV L;have p:L.length<4611686018427387904:=i;refine bH func183 rfl rfl bJ (fun A r q s=>?_);refine bU ?_ ?_;simp[i];refine aW (⟨[(0,none,o6 L),(1,none,dw 1),(7,none,dw (dh L).1),(8,none,dw ((dh L).2.1:Int)),(9,none,dw (dh L).2.2)],[]⟩) ?_ ?_ ?_;rw[eP];exact iq;exact .nil;unfold Zo CE;generalize dh L=g at *;obtain⟨n,k,e⟩:=g;dsimp only at *;refine aJ (fun a=>?_) (fun a=>?_);have f:e≠0:=by simpa using a
 refine gB ?_;rw[au f,ah f];rfl;have f:e=0:=by simpa using a
 subst f;refine jU (fun a=>?_) (fun a=>?_);have b:n<0:=by simpa using a
 refine gB ?_;have d:(if (0:Int)≠0 then (0:Int) else if n<0 then (7:Int) else if n > (L.length:Int)-k then 6 else 0)=7:=by rw[ah d_,au b]
 rw[d];rfl;have b:¬n<0:=by simpa using a
 refine gQ ?_;refine aI ?_;have l:IntKind.wrap .i64 ((L.length:Int)-k)=(L.length:Int)-k:=dH a_ a_;have j:IntKind.wrap .i64 (n*1)=n:=by rw[Int.mul_one];exact dH a_ a_
 refine cO (fun a=>?_) (fun a=>?_);rw[l,j] at a
 have c:n > (L.length:Int)-k:=by
  by_cases h:(L.length:Int)<n
  omega;simp[h] at a;exact a
 refine gB ?_;have d:(if (0:Int)≠0 then (0:Int) else if n<0 then (7:Int) else if n > (L.length:Int)-k then 6 else 0)=6:=by rw[ah d_,ah b,au c]
 rw[d];rfl;rw[l,j] at a;have c:¬n > (L.length:Int)-k:=by by_cases h:(L.length:Int)<n;simp[h] at a;simp[h] at a;omega
 refine dS ?_;refine jB ?_;have d:(if (0:Int)≠0 then (0:Int) else if n<0 then (7:Int) else if n > (L.length:Int)-k then 6 else 0)=0:=by rw[ah d_,ah b,ah c]
 rw[d];rfl
def bAj:Spec:=aV true fun a=>match a with
 |[v,.w (.one (.lit (.int .i64 1)))]=>(match wX v with
  |some (p,l)=>some (p/\jC l,zV (Zo l))|none=>none)
 |_=>none
theorem bLa:b_ prog af 183 bAj:=by
 refine aU (aB func183 ai rfl) (fun h p r a c=>?_);split at a;rename_i v;cases b:wX v with
 |none=>rw[b] at a;cases a| some q=>
  obtain⟨i,l⟩:=q;rw[b] at a;cases a
  exact (bEt l c.2).args fun C d e=>by
   match d,e with
   |[x,y],⟨g,f,_⟩=>exact⟨sW b c.1 g,f,trivial⟩
 cases a
def ZG:List (Nat×Spec):=(183,bAj)::Uu
theorem PY:∀ p∈ZG,b_ prog af p.1 p.2:=by intro p a;rcases List.mem_cons.1 a with rfl|a;exact bLa;exact PZ p a
theorem aJL:jq prog af (find ZG):=⟨aY PY,dB⟩
theorem aBz(L:di)(d:jC L):fQ prog af 152 true [o6 L] (Ew (iF L)):=by
 have M:=aJL;have m:=nR L;have i:=fV L;have o:L.length<4611686018427387904:=d;refine bH func152 rfl rfl bJ (fun A r q s=>?_);refine bU ?_ ?_;simp[d];refine aW (⟨[(0,none,o6 L),(5,none,dw (Zo L).1),(6,none,dw ((Zo L).2.1:Int)),(7,none,dw (Zo L).2.2)],[]⟩) ?_ ?_ ?_;rw[eP];exact iq;exact .nil;have c:=aUw L;rw[aTv L];unfold Zo;generalize (CE L).2.2=e at *;generalize dh L=g at *;obtain⟨n,k,t⟩:=g;dsimp only at *;refine aJ (fun a=>?_) (fun a=>?_);have b:e≠0:=by intro h;rw[au h] at a;simp at a
 refine gB ?_;rw[au b,ah b];rfl;have b:e=0:=by rcases Decidable.em (e=0) with h|h;exact h;rw[ah h] at a;exact absurd (by simpa using a) h
 subst b;obtain⟨_,l,j⟩:=c rfl;have f:IntKind.wrap .i64 ((k:Int)+n)=((k+n.toNat:Nat):Int):=by rw[dH a_ a_];omega
 refine fZ ?_;simp only[au];refine aH ?_ ?_;simp;rw[f];omega;refine jB ?_;rw[ah d_,f];have p:(((k+n.toNat:Nat):Int)-(k:Int)).toNat=n.toNat:=a_;unfold Ew;rw[p,VM,lU a_];rfl
def aJK:List (Nat×Spec):=(152,IG jC fun l=>Ew (iF l))::ZG
theorem ZJ:∀ p∈aJK,b_ prog af p.1 p.2:=by intro p a;rcases List.mem_cons.1 a with rfl|a;exact pM (aB func152 ai rfl) aBz;exact PY p a
end Pv
section
open Go.RowKit Go.Shelf
def laysRepeat_ren:Ren:=
{
 f:=fun x=>
  match x with
  |105=>141
  |212=>169
  |99=>170
  |165=>171
  |166=>172
  |170=>173
  |169=>174
  |263=>186
  |264=>187
  |206=>188
  |240=>189
  |241=>190
  |276=>198
  |277=>199
  |n=>n,
 t:=fun x=>
  match x with
  |9=>9
  |3=>3
  |4=>4
  |20=>20
  |0=>0
  |46=>220
  |109=>238
  |5=>5
  |72=>243
  |76=>247
  |51=>203
  |146=>253
  |53=>110
  |148=>255
  |70=>241
  |37=>74
  |75=>246
  |127=>257
  |164=>259
  |80=>249
  |n=>n,
 g:=fun x=>
  have n:=x;
  n }
theorem laysRepeat:Lays.n105 prog laysRepeat_ren:=
{mixed:=aBP true,f99:=aBE func170 (congrArg some (aBP (Body.n99 laysRepeat_ren))),
 f105:=aBE func141 (congrArg some (aBP (Body.n105 laysRepeat_ren))),
 f165:=aBE func171 (congrArg some (aBP (Body.n165 laysRepeat_ren))),
 f166:=aBE func172 (congrArg some (aBP (Body.n166 laysRepeat_ren))),
 f169:=aBE func174 (congrArg some (aBP (Body.n169 laysRepeat_ren))),
 f170:=aBE func173 (congrArg some (aBP (Body.n170 laysRepeat_ren))),
 f206:=aBE func188 (congrArg some (aBP (Body.n206 laysRepeat_ren))),
 f212:=aBE func169 (congrArg some (aBP (Body.n212 laysRepeat_ren))),
 f240:=aBE func189 (congrArg some (aBP (Body.n240 laysRepeat_ren))),
 f241:=aBE func190 (congrArg some (aBP (Body.n241 laysRepeat_ren))),
 f263:=aBE func186 (congrArg some (aBP (Body.n263 laysRepeat_ren))),
 f264:=aBE func187 (congrArg some (aBP (Body.n264 laysRepeat_ren))),
 f276:=aBE func198 (congrArg some (aBP (Body.n276 laysRepeat_ren))),
 f277:=aBE func199 (congrArg some (aBP (Body.n277 laysRepeat_ren))),t0:=underlying0,
 a0:=isAgg0,z0:=sizeOf0,v0:=zeroValue0,t3:=underlying3,a3:=isAgg3,
 z3:=sizeOf3,v3:=zeroValue3,t4:=underlying4,a4:=isAgg4,z4:=sizeOf4,
 v4:=zeroValue4,t5:=underlying5,a5:=isAgg5,z5:=sizeOf5,v5:=zeroValue5,
 t9:=underlying9,a9:=isAgg9,z9:=sizeOf9,v9:=zeroValue9,t20:=underlying20,
 a20:=isAgg20,z20:=sizeOf20,v20:=zeroValue20,t37:=underlying74,a37:=isAgg74,
 z37:=sizeOf74,v37:=zeroValue74,t46:=underlying220,a46:=isAgg220,z46:=sizeOf220,
 v46:=zeroValue220,t51:=underlying203,a51:=isAgg203,z51:=sizeOf203,
 v51:=zeroValue203,t53:=underlying110,a53:=isAgg110,z53:=sizeOf110,
 v53:=zeroValue110,t70:=underlying241,a70:=isAgg241,z70:=sizeOf241,
 v70:=zeroValue241,t72:=underlying243,a72:=isAgg243,z72:=sizeOf243,
 v72:=zeroValue243,t75:=underlying246,a75:=isAgg246,z75:=sizeOf246,
 v75:=zeroValue246,t76:=underlying247,a76:=isAgg247,z76:=sizeOf247,
 v76:=zeroValue247,t109:=underlying238,a109:=isAgg238,z109:=sizeOf238,
 v109:=zeroValue238,t127:=underlying257,a127:=isAgg257,z127:=sizeOf257,
 v127:=zeroValue257,t146:=underlying253,a146:=isAgg253,z146:=sizeOf253,
 v146:=zeroValue253,t148:=underlying255,a148:=isAgg255,z148:=sizeOf255,
 v148:=zeroValue255,t164:=underlying259,a164:=isAgg259,z164:=sizeOf259,
 v164:=zeroValue259 }
theorem aYt:Builder.Extra prog laysRepeat_ren where
 sizeBuilder:=ai
 liesBuilder:=ai
 t5:=laysRepeat.t5
 a5:=laysRepeat.a5
 z5:=laysRepeat.z5
 v5:=laysRepeat.v5
 infoByte:=ai
 cellsByte:=ai
 sizeByte:=ai
 neB5:=jb
theorem aHf(s:jy)(c:Nat)(w:ae)(hc:c<=9223372036854775807)(a:s.size*c<=140737488355328) :
  lL prog 141 #[.string s,.int .i64 c] w fun e b=>e=.returned (.string ⟨(Lib.repeatL s.data.toList c).toArray⟩)/\Below w.heap.size w b:=
 Any.strings_Repeat laysRepeat aYt s c w hc a
theorem aOz(s p:jy)(w:ae):lL prog 170 #[.string s,.string p] w fun e a=>e=.returned (.bool (Lib.hasPrefix s.data.toList p.data.toList))/\a=w:=Any.strings_HasPrefix { laysRepeat with } s p w
end
abbrev Fl:=List jy
def sec(f:Fl)(s:Int):di:=if 0<=s/\s<f.length then (f.getD s.toNat aC).data.toList else[]
def Ai(cut:Int)(b old:di):di:=if cut<0\/(b.length:Int)<=cut then b else b.take cut.toNat++old.drop cut.toNat
def gU(f:Fl)(s:Int)(b:jy)(cut:Int):Fl:=if 0<=s/\s<f.length/\b.size=256 then f.set s.toNat (strOf (Ai cut b.data.toList (sec f s))) else f
namespace Pv
abbrev n_(s:jy):PV:=qc (.string s)
theorem Fa{I:jg}:jq prog I (find ([]:List (Nat×Spec))):=⟨fun f a h=>(by cases h),ai⟩
def vz(l:List jy):Nat->g_:=fun i=>[.lit (.string (l.getD i aC))]
def Yr:g_->jy
 |[.lit (.string s)]=>s|_=>aC
def Yi:g_->Bool
 |[.lit (.string _)]=>true|_=>false
theorem UH{l:g_}(h:Yi l=true):l=[.lit (.string (Yr l))]:=by
 unfold Yi at h;split at h
 rfl;cases h
def kC(n:Nat)(f:Nat->g_):List jy:=(yz n).map fun i=>Yr (f i)
def aQj(n:Nat)(f:Nat->g_):Prop:=∀ i,i<n->Yi (f i)=true
@[simp] theorem aEq(n:Nat)(f:Nat->g_):(kC n f).length=n:=by simp[kC]
theorem bOl{n:Nat}{f:Nat->g_}(h:aQj n f):∀ i,i<n->f i=vz (kC n f) i:=fun i a=>by unfold vz kC;rw[zG,aAg,aDc a];exact UH (h i a)
@[simp] theorem WR(n:Nat)(l:List jy):aQj n (vz l):=fun _ _=>rfl
@[simp] theorem bV(l:List jy):kC l.length (vz l)=l:=by apply aBR d_;intro i b a;simp only[kC,aCI,aCA,vz,Yr];rw[zG,zH a];rfl
theorem JM{C:Ctx}{n len:Nat}{f g:Nat->g_}(h:∀ i,i<len->f i=g i){xs:jl}(hr:R C (.sl n len f) xs):R C (.sl n len g) xs:=by
 cases hr with
 |sl d c b=>exact .sl d c (fun i a=>by rw[<-h i a];exact b i a)
theorem RL.head{C:Ctx}{c b:PC}{l:g_}(h:∀ a,R C c a->R C b a){xs:jl}(hr:RL C (c::l) xs):RL C (b::l) xs:=by
 cases hr with
 |cons e d=>exact .cons (h _ e) d
def flV(f:Fl):PV:=.w (.agg [.sl 1 f.length (vz f)])
def BJ(f:Fl)(s:Int):Bool:=decide (0<=s)&&decide (s<f.length)
theorem bOa{f:Fl}{s:Int}(h:BJ f s=true):0<=s/\s<f.length:=by unfold BJ at h;rw[zg] at h;exact⟨of_decide_eq_true h.1,of_decide_eq_true h.2⟩
theorem OI{f:Fl}{s:Int}(h:BJ f s=false):¬(0<=s/\s<f.length):=fun a=>by unfold BJ at h;rw[mi a.1,mi a.2] at h;cases h
def bBv(i:Nat):PV->Bool
 |.w (.one (.pt x v o))=>bz x (px+i)&&(bz v 0&&bz o 0)|_=>false
theorem aTl{i:Nat}{v:PV}(h:bBv i v=true):v=dm (.pt (px+i) 0 0):=by unfold bBv at h;split at h;rw[zg,zg] at h;rw[iy h.1,iy h.2.1,iy h.2.2];cases h
theorem UK(f:Fl)(s:Int):fQ prog af 161 true [flV f,dw s] (t_ (BJ f s)):=by have M:=Fa (I:=af);refine bH func161 rfl rfl bJ (fun A b a c=>?_);refine aI ?_;refine gB ?_;change t_ (bif decide (s>=0) then decide (s<(f.length:Int)) else false)=_;unfold BJ;by_cases h:0<=s;rw[mi h];rfl;rw[su h];rfl
theorem ext_list(b:jy)(l h:Nat):b.extract l h=strOf ((b.data.toList.take h).drop l):=by apply aFH;rw[ByteArray.data_extract];apply Array.toList_inj.1;unfold strOf;simp[Array.toList_extract,List.drop_take]
theorem bIy(a b:di):strOf a++strOf b=strOf (a++b):=by apply aFH;rw[ByteArray.data_append];simp[strOf]
theorem bMr(cut:Int)(b old:jy)(k:b.size<=1000000)(i:old.size<=1000000):y_ prog af 162 false [⟨900001,3,[.lit (.int .i64 cut)],[.lit (.int .i64 cut)]⟩,⟨900002,9,[.lit (.string b)],[.lit (.string b)]⟩] (fun _=>none) none (fun _=>False)
  [n_ old,dm (.pt 900001 0 0),dm (.pt 900002 0 0)] (n_ (strOf (Ai cut b.data.toList old.data.toList))):=by
 have M:=Fa (I:=af);have j:b.data.toList.length=b.size:=nz;refine dL func162 rfl rfl rfl (fun A m n=>?_);refine aI ?_;refine aJ (fun f=>?_) (fun f=>?_)
 ·refine aI ?_;have h:cut<0\/(b.data.toList.length:Int)<=cut:=by simp at f;omega
  unfold Ai;rw[au h,kG]
  refine bZ (fun a w e=>⟨.inr rfl,_,⟨?_,(fun o c=>by
   simp only[xn,aAe,or_false] at c
   rcases c with rfl|rfl<;>exact⟨_,rfl,eQ rfl⟩),fun p d=>(by cases d)⟩,e⟩)
  refine aZ (ay) d_ ay ay ?_;rfl
 ·refine fZ ?_;have h:¬(cut<0\/(b.data.toList.length:Int)<=cut):=by simp at f;omega
  unfold Ai;rw[ah h];refine aH ?_ ?_;simp;omega
  refine bZ (fun a w e=>⟨.inr rfl,_,⟨?_,(fun o c=>by
   simp only[xn,aAe,or_false] at c
   rcases c with rfl|rfl<;>exact⟨_,rfl,eQ rfl⟩),fun p d=>(by cases d)⟩,e⟩)
  refine aZ (ay) d_ ay ay ?_;change n_ (b.extract (aBF 0) cut.toNat++old.extract (min cut (old.size:Int)).toNat ((old.size:Int)).toNat)=_;rw[ext_list,ext_list,bIy];have g:old.data.toList.length=old.size:=nz;have l:(old.data.toList.take ((old.size:Int)).toNat).drop (min cut (old.size:Int)).toNat=old.data.toList.drop cut.toNat:=by rw[VM,WF a_];by_cases q:cut<=(old.size:Int);rw[show (min cut (old.size:Int))=cut from a_];rw[aCV a_,aCV a_]
  rw[l];rfl
def DF:PV->Option (Prop×Fl)
 |.w (.agg [.sl 1 n f])=>some (aQj n f,kC n f)|_=>none
theorem aIv{C:Ctx}{v:PV}{p:Prop}{f:Fl}{x:ag}(h:DF v=some (p,f))(a:p)(hr:RV C v x):RV C (flV f) x:=by
 unfold DF at h;split at h;rename_i n g;cases h;cases hr with
 | w d=>cases d with
  |agg c=>refine .w (.agg (c.head fun e b=>?_));rw[aEq];exact JM (bOl a) b
 cases h
def Vk:Spec:=aV true fun a=>match a with
 |[v,.w (.one (.lit (.int .i64 s)))]=>(match DF v with
  |some (p,f)=>some (p,t_ (BJ f s))|none=>none)
 |_=>none
theorem OH:b_ prog af 161 Vk:=by
 refine aU (aB func161 ai rfl) (fun i p r a e=>?_);split at a;rename_i v s;cases b:DF v with
 |none=>rw[b] at a;cases a| some q=>
  obtain⟨k,f⟩:=q;rw[b] at a;cases a
  exact (UK f s).args fun C c d=>by
   match c,d with
   |[j,x],⟨h,g,_⟩=>exact⟨aIv b e h,g,trivial⟩
 cases a
def Yx:List (Nat×Spec):=[(161,Vk)]
theorem aSW:jq prog af (find Yx):=⟨aY (fun p a=>by
 obtain rfl:=List.mem_singleton.1 a
 exact OH),dB⟩
theorem bOo(f:Fl)(s:Int):fQ prog af 128 true [flV f,dw s] (.o7 [.one (.lit (.string (strOf (sec f s)))),.one (.lit (.int .i64 (if BJ f s then 0 else 13)))]):=by
 have M:=aSW;refine bH func128 rfl rfl bJ (fun A d c g=>?_);refine aI ?_;refine jG ?_;rw[bV];refine cO (fun a=>?_) (fun a=>?_);refine aI ?_;have h:BJ f s=false:=by simpa using a
 have e:sec f s=[]:=by unfold sec;rw[ah (OI h)]
 rw[h,e];exact kE;have h:BJ f s=true:=by simpa using a
 have b:=bOa h;refine jK ?_ ?_;simp;exact b;have e:strOf (sec f s)=f.getD s.toNat aC:=by unfold sec;rw[au b,kG]
 rw[h,e];exact kE
def aGA:Spec:=aV true fun a=>match a with
 |[v,.w (.one (.lit (.int .i64 s)))]=>(match DF v with
  |some (p,f)=>some (p,.o7 [.one (.lit (.string (strOf (sec f s)))),.one (.lit (.int .i64 (if BJ f s then 0 else 13)))])|none=>none)
 |_=>none
theorem Oc:b_ prog af 128 aGA:=by
 refine aU (aB func128 ai rfl) (fun i p r a e=>?_);split at a;rename_i v s;cases b:DF v with
 |none=>rw[b] at a;cases a| some q=>
  obtain⟨k,f⟩:=q;rw[b] at a;cases a
  exact (bOo f s).args fun C c d=>by
   match c,d with
   |[j,x],⟨h,g,_⟩=>exact⟨aIv b e h,g,trivial⟩
 cases a
def bJf:Spec:=bBh fun d a=>match d,a with
 |[(t0,[.lit (.int .i64 cut)]),(t1,[.lit (.string b)])],[.w (.one (.lit (.string old))),c,p1]=>
  (match bz t0 3&&(bz t1 9&&(bBv 0 c&&bBv 1 p1)) with
  |true=>some (b.size<=1000000/\old.size<=1000000,[[.lit (.int .i64 cut)],[.lit (.string b)]],n_ (strOf (Ai cut b.data.toList old.data.toList)))|false=>none)
 |_,_=>none
theorem N9:b_ prog af 162 bJf:=by
 refine aSr (aB func162 ai rfl) (fun j u p C r c f e=>?_);split at c;rename_i x d w b old z y a;split at c;rename_i g;simp only[zg] at g;obtain⟨t,s,i,h⟩:=g;cases c
 match j,a with
 |[B,A],a=>simp only[aAJ,aCU,List.cons.injEq,Prod.mk.injEq,and_true] at a;obtain⟨⟨n,l⟩,⟨m,k⟩⟩:=a;have q:=iy t;have o:=iy s;have:=bMr d b old e.1 e.2;unfold Hz Hz Hz;rw[n,l,m,k,q,o,aTl i,aTl h];exact this
 cases c;cases c
def Yw:List (Nat×Spec):=(162,bJf)::Yx
theorem Yy:∀ p∈Yw,b_ prog af p.1 p.2:=by intro p a;simp only[Yw,Yx,xn,aAe,or_false] at a;rcases a with rfl|rfl;exact N9;exact OH
theorem aSV:jq prog af (find Yw):=⟨aY Yy,dB⟩
def zY(f:Fl)(s:Int)(b:jy):Int:=if BJ f s then (if b.size=256 then 0 else 1) else 13
theorem bGd(f:Fl)(s:Int)(b:jy)(cut:Int)(u:∀ x∈f,x.size<=1000000)(r:f.length<=1000000):fQ prog af 131 false [flV f,dw s,n_ b,dw cut] (.o7 [.agg [.sl 1 (gU f s b cut).length (vz (gU f s b cut))],.one (.lit (.int .i64 (zY f s b)))]):=by
 have M:=aSV;have p:prog.types[9].bytes=16:=ai;have m:prog.types[9].size=1:=ai;refine bH func131 rfl rfl bJ (fun A B z C=>?_);refine aI ?_;refine aQz ?_;refine aI ?_;rw[bV];refine cO (fun c=>?_) (fun c=>?_);refine aI ?_;have h:BJ f s=false:=by simpa using c
 have j:gU f s b cut=f:=ah (fun k=>OI h ⟨k.1,k.2.1⟩);have g:zY f s b=13:=by unfold zY;rw[h];rfl
 rw[j,g];exact kE
 ·have h:BJ f s=true:=by simpa using c
  have q:=bOa h;refine eH (fun c=>?_) (fun c=>?_);refine aI ?_;have d:¬b.size=256:=by simp at c;omega
  have j:gU f s b cut=f:=ah (fun k=>d k.2.2);have g:zY f s b=1:=by unfold zY;rw[h,ah d];rfl
  rw[j,g];exact kE
  ·refine dS ?_;have d:b.size=256:=by simp at c;omega
   have j:gU f s b cut=f.set s.toNat (strOf (Ai cut b.data.toList (sec f s))):=au ⟨q.1,q.2,d⟩;have g:zY f s b=0:=by unfold zY;rw[h,au d];rfl
   have y:sec f s=(f.getD s.toNat aC).data.toList:=au q;rw[j,g,y];refine aH ?_ ?_;simp;rw[p];omega;refine aI ?_;refine bK (s':=⟨[(1,none,dw s),(8,none,dm (.pt 3 0 0)),(10,none,dm (.fn (.func 162) [] [.pt 2 0 0,.pt 1 0 0])),(11,none,dm (.ow 6003 0 1 0 f.length))],[(6003,none,0,.arr 9 1 f.length (vz f)),(1,none,0,.box 9 [.lit (.string b)]),(2,none,0,.box 3 [.lit (.int .i64 cut)]),(3,none,0,.box 63 [.lit (.slice none 0 0)])]⟩) (fun a w o=>(o.reset (kT:=[1,8,10,11]) (kO:=[6003,1,2,3]) ay ?_).same ?_ ?_) ?_
   ·refine⟨fun i _=>?_,trivial⟩;unfold ZL
    split<;>rfl
   refine .cr (.cr (.cr (.cons ?_ .nil)));change dm (.ow 6003 0 prog.types[9].size 0 ((f.length:Int)).toNat)=_;rw[m,VM];refine .cons (.arr ?_ (fun i n=>?_)) ((dU _));exact VM _;unfold ZL;rw[VM] at n ⊢;rw[au a_];have t:(f.getD s.toNat aC).size<=1000000:=by rw[zG,zH a_];exact u _ (aBI _)
   refine aH ?_ ?_;simp;rw[<-zG];omega;refine aI ?_;rw[aAA];refine bZ (fun a w o=>⟨.inr rfl,_,?_,o⟩);refine qL (ay) d_ ay ?_;refine .o7 (.cons (.agg (.cons (.row rfl trivial a_ (fun i n=>?_) (fun i n=>rfl)) .nil)) (.cons (.one (.cold rfl)) .nil));rw[mf];split;rename_i e;obtain rfl:i=s.toNat:=a_;unfold vz;rw[zG (l:=f.set _ _),aDZ a_,mf];rfl;rename_i e;unfold vz;rw[zG (l:=f.set _ _),aEb a_,zG]
def UX(f:Fl):g_:=[.sl 1 f.length (vz f)]
def aFZ:Spec:=aV false fun a=>match a with
 |[v,.w (.one (.lit (.int .i64 s))),.w (.one (.lit (.string b))),.w (.one (.lit (.int .i64 cut)))]=>(match DF v with
  |some (p,f)=>some (p/\(∀ x∈f,x.size<=1000000)/\f.length<=1000000,.o7 [.agg (UX (gU f s b cut)),.one (.lit (.int .i64 (zY f s b)))])|none=>none)
 |_=>none
theorem bOg:b_ prog af 131 aFZ:=by
 refine aU (aB func131 ai rfl) (fun m p r a d=>?_);split at a;rename_i v s b e;cases c:DF v with
 |none=>rw[c] at a;cases a| some q=>
  obtain⟨o,f⟩:=q;rw[c] at a;cases a
  exact (bGd f s b e d.2.1 d.2.2).args fun C g h=>by
   match g,h with
   |[n,x,y,z],⟨l,k,j,i,_⟩=>exact⟨aIv c d.1 l,k,j,i,trivial⟩
 cases a
end Pv
section
def bD(rec a:Int):Int:=if rec<0\/3<rec\/a<0\/1<a then -1 else 8*(2*rec+a)
def tu(seq:Int)(c:di):di:=dn seq++bI c
def encS(rec seq:Int)(c:di):di:=tu seq c++mW 5 [dn rec,tu seq c]
def vg(b:di):di×Nat×Int:=iF (b.drop (dh b).2.1)
def qh(rec:Int)(b:di):Int×di:=
 if (dh b).2.2≠0\/(dh b).1<1\/1099511627776<(dh b).1 then (0,[]) else
 if (vg b).2.2≠0\/2000<(vg b).1.length\/b.take (encS rec (dh b).1 (vg b).1).length≠encS rec (dh b).1 (vg b).1 then (0,[]) else ((dh b).1,(vg b).1)
def yx(x y:Int×di):(Int×di)×Nat:=if x.1=0\/x.1<y.1 then (y,1) else (x,0)
structure EE where
 content:jy
 seq:Int
 err:Int
def vY(x:Int×di):EE:=if x.1=0 then⟨aC,0,13⟩ else⟨strOf x.2,x.1,0⟩
def aj.rd(s:Int):aj jy:=.ask ⟨3,0,s,aC⟩ fun r=>.ret r.bytes
def aj.wr(s:Int)(b:jy):aj Unit:=.ask ⟨4,0,s,b⟩ fun _=>.ret ()
def aj.o9(f:Int):Nat->di->aj di
 |0,b=>.ret b|n+1,b=>(aj.rd (f+((7-n:Nat):Int))).bind fun s=>aj.o9 f n (b++s.data.toList)
def aj.cur(rec:Int):aj ((Int×di)×Nat):=(aj.o9 (bD rec 0) 8 []).bind fun a=>(aj.o9 (bD rec 1) 8 []).bind fun b=>.ret (yx (qh rec a) (qh rec b))
def aj.load(rec:Int):aj EE:=if bD rec 0<0 then .ret ⟨aC,0,1⟩ else (aj.cur rec).bind fun p=>.ret (vY p.1)
def lm(b:di)(k:Nat):di:=(b.drop (256*k)).take 256++Pi (256-((b.drop (256*k)).take 256).length) 0
def iH:di:=Pi 256 0
def nsec(b:di):Nat:=(b.length+255) / 256
def aj.Fh(f:Int)(b:di):Nat->Nat->aj Unit
 |0,_=>.ret ()|n+1,i=>(aj.wr (f+(i:Int)) (strOf (lm b i))).bind fun _=>aj.Fh f b n (i+1)
def aj.write(f:Int)(b:di):aj Unit:=(aj.wr f (strOf iH)).bind fun _=>(aj.Fh f b (nsec b-1) 1).bind fun _=>aj.wr f (strOf (lm b 0))
def aj.save(rec:Int)(c:jy):aj EE:=if bD rec 0<0 then .ret ⟨aC,0,1⟩ else if 2000<c.size then .ret ⟨aC,0,19⟩ else
 (aj.cur rec).bind fun p=>if 1099511627776<p.1.1+1 then .ret ⟨aC,0,19⟩ else (aj.write (bD rec (1-(p.2:Int))) (encS rec (p.1.1+1) c.data.toList)).bind fun _=>.ret ⟨c,p.1.1+1,0⟩
theorem pI(seq:Int)(c:di):(tu seq c).length=(dn seq).length+((dn (c.length:Int)).length+c.length):=by unfold tu bI;simp
theorem nU(rec seq:Int)(c:di):(encS rec seq c).length=(tu seq c).length+16:=by unfold encS;rw[gz,jP]
theorem uV(rec:Int)(b:di):0<=(qh rec b).1/\(qh rec b).1<=1099511627776:=by unfold qh;split;exact⟨Int.le_refl _,jb⟩;split;exact⟨Int.le_refl _,jb⟩;rename_i h _;dsimp only;omega
theorem aGj:∀ (f u v:Nat),u<=v->(varint f u).length<=(varint f v).length
 |0,_,_,_=>by simp[varint]|f+1,u,v,h=>by by_cases a:v<128;rw[kW a,kW a_];simp;rw[oU a];by_cases b:u<128;rw[kW b];simp;rw[oU b,We,We];exact Nat.succ_le_succ (aGj f _ _ (Nat.div_le_div_right h))
theorem bPh(rec seq:Int){s c:di}(h:s.length<=c.length):(encS rec seq s).length<=(encS rec seq c).length:=by have a:(dn (s.length:Int)).length<=(dn (c.length:Int)).length:=aGj 9 _ _ (by unfold zig;rw[au a_,au a_];omega);rw[nU,nU,pI,pI];omega
theorem bCo(rec seq:Int)(c r:di)(h1:1<=seq)(h2:seq<=1099511627776)(hc:c.length<=2000):qh rec (encS rec seq c++r)=(seq,c):=by
 obtain⟨d,b⟩:=jc (mW 5 [dn rec,tu seq c]);have a:encS rec seq c++r=dn seq++(bI c++(d++r)):=by unfold encS;rw[b];unfold tu;simp
 have g:dh (encS rec seq c++r)=(seq,(dn seq).length,0):=by rw[a];exact jE _ a_ a_
 have k:vg (encS rec seq c++r)=(c,(bI c).length,0):=by unfold vg;rw[g];dsimp only;rw[a,aHu];exact mD _ _ a_
 unfold qh;rw[g,k];dsimp only;rw[ah a_,aHs,ah l7]
theorem bPr(rec:Int)(b:di):qh rec (0::b)=(0,[]):=by have h:dh (0::b)=(0,1,0):=jE (n:=0) b jb jb;unfold qh;rw[h];rfl
theorem bIl{n:Int}(h1:-9223372036854775808<=n)(h2:n<9223372036854775808)(h0:n≠0):(dn n).getD ((dn n).length-1) 0≠0:=by
 have c:=aNc n h1 h2
 have a:zig n≠0:=by unfold zig;split<;>omega
 have b:Qv (dn n):=aSs 9 _ (by have:=aKm h1 h2;omega) a;exact (vX (dn n) ((dn n).length-1) a_).1 b
theorem aTs{v:Int}{r W:di}{cut n k:Nat}{q:Int}(h1:-9223372036854775808<=v)(h2:v<9223372036854775808)(l:∀ i,i<cut->W[i]?=(dn v++r)[i]?)(j:∀ i,cut<=i->i<n->W[i]?=some 0)(hn:10<=n)(m:dh W=(q,k,0)) :
  (q=v/\k=(dn v).length)\/(q=0/\k=1):=by
 obtain⟨c,u,t,s,h,g⟩:=bOc m;by_cases p:k<=cut;left;have e:(dn v++r).take k=dn q:=by rw[<-c];apply aAX;intro i;rw[yf,yf];split;exact (l i a_).symm;rfl
 have o:dn v++r=dn q++(dn v++r).drop k:=by rw[<-e,aCY]
 have d:=jE r h1 h2;rw[o,jE _ h g] at d;simp only[Prod.mk.injEq,and_true] at d;refine⟨d.1,?_⟩;have:(W.take k).length=k:=by rw[ww];omega
 rw[c] at this;rw[<-this,d.2];right;have b:(dn q).length=k:=by rw[<-c,ww];omega
 have a:(dn q).getD (k-1) 0=0:=by rw[<-c,zG,yf,au a_,j (k-1) a_ a_];rfl
 by_cases f:q=0;subst f;exact⟨rfl,by rw[<-b];rfl⟩;exact absurd (b ▸ a) (by rw[b];have:=bIl h g f;rw[b] at this;exact this)
theorem bPs{rec seq:Int}{c W:di}{cut:Nat}(h1:1<=seq)(h2:seq<=1099511627776)(hc:c.length<=2000)(G:cut<=(encS rec seq c).length)(B:∀ i,i<cut->W[i]?=(encS rec seq c)[i]?)(A:∀ i,cut<=i->i<256->W[i]?=some 0) :
  qh rec W=(0,[])\/∃ s,qh rec W=(seq,s)/\s.length<=c.length/\W.take (encS rec seq s).length=encS rec seq s:=by
 obtain⟨d,F⟩:=jc (mW 5 [dn rec,tu seq c]);have C:encS rec seq c=dn seq++(dn (c.length:Int)++(c++d)):=by unfold encS;rw[F];unfold tu bI;simp
 have E:=aO seq;have D:=aO (c.length:Int);by_cases f:qh rec W=(0,[]);exact .inl f;right;unfold qh at f;split at f;exact absurd rfl f
 ·rename_i o;split at f;exact absurd rfl f
  ·rename_i l;obtain⟨q,k,e,g⟩:∃ q k e,dh W=(q,k,e):=⟨_,_,_,rfl⟩;have t:=o;rw[g] at o;dsimp only at o;obtain rfl:e=0:=a_;have p:q=seq/\k=(dn seq).length:=by rcases aTs (v:=seq) (r:=dn (c.length:Int)++(c++d)) (W:=W) (cut:=cut) (n:=256) a_ a_ (fun i z=>by rw[B i z,C]) A a_ g with h|h;exact h;omega
   obtain⟨rfl,rfl⟩:=p;have a:vg W=iF (W.drop (dn q).length):=by unfold vg;rw[g]
   have y:(vg W).1.length<=c.length:=by
    by_cases b:(dh (W.drop (dn q).length)).2.2=0
    ·obtain⟨m,j,e,x⟩:∃ m j e,dh (W.drop (dn q).length)=(m,j,e):=⟨_,_,_,rfl⟩;rw[x] at b;obtain rfl:e=0:=b
     have w:m=(c.length:Int)\/m=0:=by
      have u:∀ i,i<cut-(dn q).length->(W.drop (dn q).length)[i]?=(dn (c.length:Int)++(c++d))[i]?:=fun i z=>by rw[aAk,B _ a_,C,aBi a_,show (dn q).length+i-(dn q).length=i from a_]
      rcases aTs (v:=(c.length:Int)) (r:=c++d) (W:=W.drop (dn q).length) (cut:=cut-(dn q).length) (n:=256-(dn q).length) a_ a_ u (fun i z H=>by rw[aAk];exact A _ a_ a_) a_ x with h|h;exact .inl h.1;exact .inr h.1
     rw[a];unfold iF;rw[x];dsimp only;rw[ah d_];split;simp
     ·split;simp
      ·rw[ww];rcases w with rfl|rfl<;>omega
    rw[a];unfold iF;rw[au b];simp
   refine⟨(vg W).1,?_,y,?_⟩;unfold qh;rw[ah t,ah l,g];rw[g] at l;dsimp only at l;by_cases h:W.take (encS rec q (vg W).1).length=encS rec q (vg W).1;exact h;exact absurd (.inr (.inr h)) l
def kP(cut:Int)(a:Acc)(f:Fl):Fl:=if a.kind=3 then f else gU f a.cell a.bytes cut
def Df(a:Acc)(f:Fl):u_:=⟨0,if a.kind=3 then strOf (sec f a.cell) else aC⟩
section
variable {α β:Type}
def BB:aj α->Fl->α
 |.ret a,_=>a|.ask a k,f=>BB (k (Df a f)) (kP (-1) a f)
def ql:aj α->Fl->je
 |.ret _,_=>[]|.ask a k,f=>a::ql (k (Df a f)) (kP (-1) a f)
def AV(L:je)(f:Fl):Fl:=L.foldl (fun f a=>kP (-1) a f) f
theorem aIu(L M:je)(f:Fl):AV (L++M) f=AV M (AV L f):=List.foldl_append ..
theorem vC(p:aj α)(g:α->aj β):∀ f,ql (p.bind g) f=ql p f++ql (g (BB p f)) (AV (ql p f) f):=by
 induction p with
 |ret a=>intro f;rfl|ask a k b=>intro f;show a::ql ((k (Df a f)).bind g) (kP (-1) a f)=_;rw[b];rfl
theorem yA(p:aj α)(g:α->aj β):∀ f,BB (p.bind g) f=BB (g (BB p f)) (AV (ql p f) f):=by
 induction p with
 |ret a=>intro f;rfl|ask a k b=>intro f;show BB ((k (Df a f)).bind g) (kP (-1) a f)=_;rw[b];rfl
def bOz(cut bytes:Int):aj α->Fl->je->Fl×Option α×je
 |.ret o,f,l=>(f,some o,l)|.ask a k,f,l=>if (l.length:Int)=cut then (kP (max 0 bytes) a f,none,l++[a]) else bOz cut bytes (k (Df a f)) (kP (-1) a f) (l++[a])
theorem aPm(cut bytes:Int)(p:aj α):∀ (f:Fl) (l:je),bOz cut bytes p f l =
  if h:(l.length:Int)<=cut/\(cut-l.length).toNat<(ql p f).length then
   (kP (max 0 bytes) ((ql p f)[(cut-l.length).toNat]'h.2) (AV ((ql p f).take (cut-l.length).toNat) f),none,l++(ql p f).take ((cut-l.length).toNat+1))
  else (AV (ql p f) f,some (BB p f),l++ql p f):=by
 induction p with
 |ret a=>intro f l;rw[dif_neg (by simp[ql])];simp[bOz,ql,AV,BB]| ask a k e=>
  intro f l;rw[bOz];by_cases b:(l.length:Int)=cut;rw[au b];have d:(cut-(l.length:Int)).toNat=0:=a_;rw[dif_pos ⟨a_,by rw[d];simp[ql]⟩];simp[d,ql,AV];rw[ah b,e];have g:((l++[a]).length:Int)=l.length+1:=d_;by_cases h:(((l++[a]).length:Nat):Int)<=cut/\(cut-((l++[a]).length:Nat)).toNat<(ql (k (Df a f)) (kP (-1) a f)).length;have c:(cut-(l.length:Int)).toNat=(cut-((l++[a]).length:Nat)).toNat+1:=a_;rw[dif_pos h,dif_pos ⟨a_,by rw[c];simp only[ql,We];omega⟩];simp only[c,ql,List.getElem_cons_succ,aJG,AV,aEB,GM,aDX]
  rw[dif_neg h,dif_neg (by
   simp only[ql,We]
   omega)]
  simp only[ql,AV,aEB,GM,aDX,BB]
end
def IE(f:Fl)(s:Int):Nat->di
 |0=>[]|n+1=>sec f (s+((7-n:Nat):Int))++IE f s n
def FZ(f:Fl)(s:Int):di:=IE f s 8
def rF(s:Int):Nat->je
 |0=>[]|n+1=>⟨3,0,s+((7-n:Nat):Int),aC⟩::rF s n
theorem uK(s:Int):∀ (n:Nat) (f:Fl),AV (rF s n) f=f
 |0,_=>rfl|n+1,f=>uK s n f
theorem aWb(s:Int):∀ (n:Nat) (b:di) (f:Fl),ql (aj.o9 s n b) f=rF s n/\BB (aj.o9 s n b) f=b++IE f s n
 |0,b,f=>⟨rfl,by simp[aj.o9,BB,IE]⟩|n+1,b,f=>by have a:=aWb s n (b++sec f (s+((7-n:Nat):Int))) f;have e:aj.o9 s (n+1) b=.ask ⟨3,0,s+((7-n:Nat):Int),aC⟩ fun r=>aj.o9 s n (b++r.bytes.data.toList):=rfl;rw[e];simp only[ql,BB,kP,Df,au,bY];rw[a.1,a.2];exact⟨rfl,by rw[IE,GM]⟩
def Da(f:Fl)(rec k:Int):Int×di:=qh rec (FZ f (bD rec k))
def lw(f:Fl)(rec:Int):(Int×di)×Nat:=yx (Da f rec 0) (Da f rec 1)
def DL(rec:Int):je:=rF (bD rec 0) 8++rF (bD rec 1) 8
theorem Qp(rec:Int)(f:Fl):ql (aj.cur rec) f=DL rec/\BB (aj.cur rec) f=lw f rec/\AV (ql (aj.cur rec) f) f=f:=by
 have a:=aWb (bD rec 0) 8 [] f;have b:=aWb (bD rec 1) 8 [] f;have e:ql (aj.cur rec) f=DL rec:=by unfold aj.cur;rw[vC,vC,a.1,uK,b.1];simp[ql,DL]
 refine⟨e,?_,?_⟩;unfold aj.cur;rw[yA,yA,a.1,uK,a.2,b.2];rfl;rw[e];unfold DL;rw[aIu,uK,uK]
theorem pF(rec:Int):(DL rec).length=16:=rfl
def Bl(s:Int)(b:di):Nat->Nat->je
 |0,_=>[]|n+1,i=>⟨4,0,s+(i:Int),strOf (lm b i)⟩::Bl s b n (i+1)
def fF(s:Int)(b:di):je:=⟨4,0,s,strOf iH⟩::(Bl s b (nsec b-1) 1++[⟨4,0,s,strOf (lm b 0)⟩])
theorem VX(s:Int)(b:di):∀ (n i:Nat) (f:Fl),ql (aj.Fh s b n i) f=Bl s b n i
 |0,_,_=>rfl|n+1,i,f=>by have e:aj.Fh s b (n+1) i=.ask ⟨4,0,s+(i:Int),strOf (lm b i)⟩ fun _=>aj.Fh s b n (i+1):=rfl;rw[e,ql,VX s b n (i+1)];rfl
theorem RF(s:Int)(b:di)(f:Fl):ql (aj.write s b) f=fF s b:=by have e:aj.write s b=.ask ⟨4,0,s,strOf iH⟩ fun _=>(aj.Fh s b (nsec b-1) 1).bind fun _=>aj.wr s (strOf (lm b 0)):=rfl;rw[e,ql,vC,VX];rfl
theorem nN(s:Int)(b:di):∀ n i,(Bl s b n i).length=n
 |0,_=>rfl|n+1,i=>by rw[Bl,We,nN]
theorem aMx(s:Int)(b:di):∀ (n i j:Nat),j<n->(Bl s b n i)[j]?=some ⟨4,0,s+((i+j:Nat):Int),strOf (lm b (i+j))⟩
 |0,_,_,h=>a_|n+1,i,0,_=>rfl|n+1,i,j+1,h=>by rw[Bl,aCQ,aMx s b n (i+1) j a_,show i+1+j=i+(j+1) from a_]
theorem yI{rec k:Int}(h1:0<=rec)(h2:rec<=3)(h3:0<=k)(h4:k<=1):bD rec k=8*(2*rec+k):=by unfold bD;rw[ah a_]
theorem bCr(x y:Int×di):(yx x y).2=0\/(yx x y).2=1:=by unfold yx;split<;>simp
theorem bAm{rec:Int}{c:jy}{f:Fl}(h1:0<=rec)(h2:rec<=3)(hc:c.size<=2000)(hs:(lw f rec).1.1+1<=1099511627776) :
  ql (aj.save rec c) f=DL rec++fF (bD rec (1-((lw f rec).2:Int))) (encS rec ((lw f rec).1.1+1) c.data.toList)/\BB (aj.save rec c) f=⟨c,(lw f rec).1.1+1,0⟩:=by
 obtain⟨d,b,a⟩:=Qp rec f;have e:¬bD rec 0<0:=by rw[yI h1 h2 a_ a_];omega
 unfold aj.save;rw[ah e,ah a_,vC,yA,a,b,d,ah a_,vC,yA,RF];simp[ql,BB]
theorem YM{rec:Int}{f:Fl}(h1:0<=rec)(h2:rec<=3):ql (aj.load rec) f=DL rec/\BB (aj.load rec) f=vY (lw f rec).1:=by
 obtain⟨c,b,a⟩:=Qp rec f;have d:¬bD rec 0<0:=by rw[yI h1 h2 a_ a_];omega
 unfold aj.load;rw[ah d,vC,yA,a,b,c];simp[ql,BB]
def Sz(f:Fl):Prop:=f.length=128/\∀ x∈f,x.size=256
theorem Sz.sec{f:Fl}(h:Sz f){s:Int}(h1:0<=s)(h2:s<128):(sec f s).length=256:=by
 obtain⟨k,rfl⟩:∃ k:Nat,s=(k:Int):=⟨s.toNat,a_⟩;have a:k<f.length:=by rw[h.1];omega
 unfold Go.Proofs.YtndpjopifkbgiaaGreatDoor.sec;rw[au a_,VM,zG,zH a,Option.getD_some,nz];exact h.2 _ (aBI a)
theorem aVw{cut:Int}{b old:di}(hb:b.length=256)(a:old.length=256):(Ai cut b old).length=256:=by unfold Ai;split;exact hb;rw[gz,ww,MM];omega
theorem aTx{f:Fl}(h:Sz f)(s:Int)(b:jy)(cut:Int):Sz (gU f s b cut):=by unfold gU;split;rename_i q;refine⟨by rw[aAA];exact h.1,fun x a=>?_⟩;rcases List.mem_or_eq_of_mem_set a with a|rfl;exact h.2 x a;rw[bC];exact aVw (by rw[nz];exact q.2.2) (h.sec q.1 (by have:=h.1;omega));exact h
theorem yU{f:Fl}(h:Sz f)(cut:Int)(a:Acc):Sz (kP cut a f):=by unfold kP;split;exact h;exact aTx h _ _ _
theorem bCd:∀ {L:je} {f:Fl},Sz f->Sz (AV L f)
 |[],_,h=>h|a::L,_,h=>bCd (L:=L) (yU h (-1) a)
theorem uH{f:Fl}(h:Sz f){s:Int}(h1:0<=s)(h2:s<128){b:di}(hb:b.length=256)(cut t:Int):sec (gU f s (strOf b) cut) t=if t=s then Ai cut b (sec f s) else sec f t:=by
 have c:=h.1;unfold gU;rw[au ⟨h1,a_,by rw[bC];exact hb⟩,bY];by_cases a:t=s;subst a;rw[au rfl];have e:∀ x:jy,sec (f.set t.toNat x) t=x.data.toList:=fun x=>by unfold sec;rw[au (by rw[aAA];omega),zG,aDZ a_,Option.getD_some]
 rw[e,bY];rw[ah a];unfold sec;rw[aAA];split;rw[zG,aEb a_,<-zG];rfl
theorem gI(b:di)(k:Nat):(lm b k).length=256:=by unfold lm;rw[gz,aCG,ww];omega
theorem aWe{b:di}{k j:Nat}(a:j<256)(h:256*k+j<b.length):(lm b k)[j]?=b[256*k+j]?:=by unfold lm;rw[aBD (by rw[ww,MM];omega),yf,au a,aAk]
theorem oQ:iH.length=256:=aCG
theorem aMw{j:Nat}(a:j<256):iH[j]?=some 0:=by unfold iH;rw[List.getElem?_replicate,au a]
theorem bAl{f:Fl}(h:Sz f){s:Int}(h1:0<=s)(h2:s<128){b:di}(hb:b.length=256)(t:Int):sec (kP (-1) ⟨4,0,s,strOf b⟩ f) t=if t=s then b else sec f t:=by have:kP (-1) ⟨4,0,s,strOf b⟩ f=gU f s (strOf b) (-1):=rfl;rw[this,uH h h1 h2 hb];have e:Ai (-1) b (sec f s)=b:=au (.inl jb);rw[e]
theorem aHc{f g:Fl}{s:Int}:∀ n,n<=8->(∀ t,s+((8-n:Nat):Int)<=t->t<s+8->sec f t=sec g t)->IE f s n=IE g s n
 |0,_,_=>rfl|n+1,b,h=>by rw[IE,IE,h _ a_ a_,aHc n a_ (fun t c a=>h t a_ a)]
theorem aJr{f g:Fl}{s:Int}(h:∀ t,s<=t->t<s+8->sec f t=sec g t):FZ f s=FZ g s:=aHc 8 (dE _) (fun t b a=>h t a_ a)
theorem bAv{f:Fl}(h:Sz f){s:Int}(h1:0<=s)(h2:s+8<=128){j:Nat}(c:j<256):∀ (n i:Nat),n<=8->i<n->(IE f s n)[256*i+j]?=(sec f (s+((8-n+i:Nat):Int)))[j]?
 |0,_,_,d=>a_|n+1,0,b,_=>by rw[IE,aBD (by rw[h.sec a_ a_];omega)];rw[show 8-(n+1)+0=7-n from a_];congr 1;omega|n+1,i+1,b,d=>by have a:=h.sec (s:=s+((7-n:Nat):Int)) a_ a_;rw[IE,aBi (by rw[a];omega),a,show 256*(i+1)+j-256=256*i+j from a_,bAv h h1 h2 c n i a_ a_];rw[show 8-(n+1)+(i+1)=8-n+i from a_]
theorem bCz{f:Fl}(h:Sz f){s:Int}(h1:0<=s)(h2:s+8<=128){i j:Nat}(b:i<8)(a:j<256):(FZ f s)[256*i+j]?=(sec f (s+(i:Int)))[j]?:=by have:=bAv h h1 h2 a 8 i (dE _) b;rw[show 8-8+i=i from a_] at this;exact this
theorem aZz{s:Int}{b:di}:∀ (n i:Nat) {f:Fl},Sz f->0<=s->s+((i+n:Nat):Int)<=128->∀ t:Int,sec (AV (Bl s b n i) f) t=if s+(i:Int)<=t/\t<s+((i+n:Nat):Int) then lm b (t-s).toNat else sec f t
 |0,i,f,_,_,_,t=>by rw[ah a_];rfl|n+1,i,f,h,e,g,t=>by have d:=aZz (b:=b) n (i+1) (yU h (-1) ⟨4,0,s+(i:Int),strOf (lm b i)⟩) e a_ t;rw[Bl];show sec (AV (Bl s b n (i+1)) (kP (-1) ⟨4,0,s+(i:Int),strOf (lm b i)⟩ f)) t=_;rw[d,bAl h a_ a_ (gI _ _)];by_cases a:t=s+(i:Int);subst a;rw[ah a_,au rfl,au a_,show (s+(i:Int)-s).toNat=i from a_];rw[ah a];by_cases c:s+(i:Int)<=t/\t<s+((i+(n+1):Nat):Int);rw[au c,au a_];rw[ah c,ah a_]
theorem aDe{s:Int}{b:di}{f:Fl}(h:Sz f)(h1:0<=s)(h2:s+(nsec b:Int)<=128)(hb:0<b.length){m:Nat}(l:1<=m)(e:m<=nsec b)(t:Int) :
  sec (AV ((fF s b).take m) f) t=if t=s then iH else if s<t/\t<s+(m:Int) then lm b (t-s).toNat else sec f t:=by
 have i:1<=nsec b:=by unfold nsec;omega
 obtain⟨m,rfl⟩:∃ k,m=k+1:=⟨m-1,a_⟩;have g:(Bl s b (nsec b-1) 1++[(⟨4,0,s,strOf (lm b 0)⟩:Acc)]).take m=Bl s b m 1:=by apply aAX;intro j;rw[yf];by_cases c:j<m;rw[au c,aBD (by rw[nN];omega),aMx _ _ _ _ _ a_,aMx _ _ _ _ _ c];rw[ah c,PR (by rw[nN];omega)]
 rw[fF,aJG,g];show sec (AV (Bl s b m 1) (kP (-1) ⟨4,0,s,strOf iH⟩ f)) t=_;rw[aZz m 1 (yU h _ _) h1 a_,bAl h h1 a_ oQ];by_cases a:t=s;subst a;rw[ah a_,au rfl,au rfl];rw[ah a,ah a];by_cases d:s<t/\t<s+((m+1:Nat):Int);rw[au d,au a_];rw[ah d,ah a_]
theorem kZ(s:Int)(b:di)(hb:0<b.length):(fF s b).length=nsec b+1:=by
 have a:1<=nsec b:=by unfold nsec;omega
 rw[fF,We,gz,nN,aBY];omega
theorem vH(s:Int)(b:di)(hb:0<b.length):(fF s b)[nsec b]?=some ⟨4,0,s,strOf (lm b 0)⟩:=by
 have c:1<=nsec b:=by unfold nsec;omega
 obtain⟨k,a⟩:∃ k,nsec b=k+1:=⟨nsec b-1,a_⟩;rw[fF,a,aCQ,aBi (by rw[nN];omega),nN];simp
theorem aQo{s:Int}{b:di}{m:Nat}(c:1<=m)(a:m<nsec b):(fF s b)[m]?=some ⟨4,0,s+(m:Int),strOf (lm b m)⟩:=by obtain⟨k,rfl⟩:∃ k,m=k+1:=⟨m-1,a_⟩;rw[fF,aCQ,aBD (by rw[nN];omega),aMx _ _ _ _ _ a_,show 1+k=k+1 from a_]
end
section
structure VV where
 jo:Int
 content:jy
 cut:Int
 bytes:Int
def Fg:EE:=⟨aC,0,0⟩
def EJ(f:Fl)(u:VV):Fl×EE×Bool×je:=match bOz u.cut u.bytes (aj.save u.jo u.content) f [] with
 |(a,some o,l)=>(a,o,true,l)|(a,none,l)=>(a,Fg,false,l)
theorem aUq(f:Fl)(rec:Int):Da f rec ((lw f rec).2:Int)=(lw f rec).1/\(Da f rec (1-((lw f rec).2:Int))).1<=(lw f rec).1.1:=by have b:=(uV rec (FZ f (bD rec 0))).1;have a:=(uV rec (FZ f (bD rec 1))).1;change 0<=(Da f rec 0).1 at b;change 0<=(Da f rec 1).1 at a;unfold lw yx;by_cases h:(Da f rec 0).1=0\/(Da f rec 0).1<(Da f rec 1).1;rw[au h];exact⟨rfl,by show (Da f rec 0).1<=(Da f rec 1).1;omega⟩;rw[ah h];exact⟨rfl,by show (Da f rec 1).1<=(Da f rec 0).1;omega⟩
theorem aJf(f:Fl)(rec:Int):0<=(lw f rec).1.1/\(lw f rec).1.1<=1099511627776:=by have:=uV rec (FZ f (bD rec ((lw f rec).2:Int)));change 0<=(Da f rec _).1/\(Da f rec _).1<=_ at this;rwa [(aUq f rec).1] at this
theorem Ux{f g:Fl}{rec:Int}{x:di}(h:Da g rec ((lw f rec).2:Int)=(lw f rec).1)(hb:Da g rec (1-((lw f rec).2:Int))=((lw f rec).1.1+1,x)):(lw g rec).1=((lw f rec).1.1+1,x):=by
 have e:=aJf f rec;rcases bCr (Da f rec 0) (Da f rec 1) with b|b
 ·have a:(lw f rec).2=0:=b;rw[a] at h hb;have d:Da g rec 0=(lw f rec).1:=h;have c:Da g rec 1=_:=hb
  conv=>lhs;unfold lw
  rw[d,c];unfold yx;rw[au (.inr (by dsimp only;omega))]
 ·have a:(lw f rec).2=1:=b;rw[a] at h hb;have c:Da g rec 1=(lw f rec).1:=h;have d:Da g rec 0=_:=hb
  conv=>lhs;unfold lw
  rw[d,c];unfold yx;rw[ah (by dsimp only;omega)]
def jd(f:Fl)(u:VV):di:=encS u.jo ((lw f u.jo).1.1+1) u.content.data.toList
def ku(f:Fl)(u:VV):Int:=bD u.jo (1-((lw f u.jo).2:Int))
structure Fine(f:Fl)(u:VV):Prop where
 sz:Sz f
 r0:0<=u.jo
 r3:u.jo<=3
 c:u.content.size<=2000
 s:(lw f u.jo).1.1+1<=1099511627776
section
variable {f:Fl} {u:VV}
theorem Fine.len(h:Fine f u):0<(jd f u).length/\(jd f u).length<=2048:=by have e:=aO ((lw f u.jo).1.1+1);have d:=aO (u.content.data.toList.length:Int);have b:u.content.data.toList.length=u.content.size:=nz;have a:=h.c;unfold jd;rw[nU,pI];omega
theorem Fine.first(h:Fine f u):0<=ku f u/\ku f u+8<=64/\ku f u=16*u.jo+8*(1-((lw f u.jo).2:Int)):=by have b:=h.r0;have a:=h.r3;have c:(lw f u.jo).2=0\/(lw f u.jo).2=1:=bCr _ _;unfold ku;rw[yI b a a_ a_];omega
theorem Fine.nsec(h:Fine f u):1<=nsec (jd f u)/\nsec (jd f u)<=8:=by have:=h.len;unfold Go.Proofs.YtndpjopifkbgiaaGreatDoor.nsec;omega
theorem aHm(h:Fine f u)(hc:u.cut<0\/17+(nsec (jd f u):Int)<=u.cut):EJ f u=(AV (fF (ku f u) (jd f u)) f,⟨u.content,(lw f u.jo).1.1+1,0⟩,true,DL u.jo++fF (ku f u) (jd f u)):=by
 obtain⟨b,d⟩:=bAm (c:=u.content) h.r0 h.r3 h.c h.s;have a:=(Qp u.jo f).2.2;rw[(Qp u.jo f).1] at a;unfold EJ
 rw[aPm,dif_neg (by
  rw[b,gz,pF];change ¬(_/\_<16+(fF (ku f u) (jd f u)).length);rw[kZ _ _ h.len.1,List.length_nil]
  omega)]
 dsimp only;rw[b,d,aIu,a];rfl
theorem Ko(h:Fine f u)(h0:0<=u.cut)(h1:u.cut<16):EJ f u=(f,Fg,false,(DL u.jo).take (u.cut.toNat+1)):=by
 obtain⟨j,x⟩:=bAm (c:=u.content) h.r0 h.r3 h.c h.s
 have k:∀ (s:Int) (n:Nat) (a:Acc),a∈rF s n->a.kind=3:=by
  intro s n
  induction n with
  |zero=>intro a d;cases d|succ n m=>intro a d;rcases List.mem_cons.1 d with rfl|d;rfl;exact m a d
 have e:∀ a∈DL u.jo,a.kind=3:=fun a d=>by rcases List.mem_append.1 d with d|d;exact k _ _ a d;exact k _ _ a d
 have p:∀ (L:je) (g:Fl),(∀ a∈L,a.kind=3)->AV L g=g:=by
  intro L
  induction L with
  |nil=>intro g _;rfl|cons a L m=>intro g r;show AV L (kP (-1) a g)=g;rw[show kP (-1) a g=g from au (r a aAw)];exact m g fun b w=>r b (aAD _ w)
 have l:(u.cut-(([]:je).length:Int)).toNat=u.cut.toNat:=d_;have i:u.cut.toNat<(DL u.jo).length:=by rw[pF];omega
 unfold EJ;rw[aPm,dif_pos ⟨by simpa using h0,by rw[j,l,gz];omega⟩];dsimp only;have t:(ql (aj.save u.jo u.content) f).take u.cut.toNat=(DL u.jo).take u.cut.toNat:=by rw[j,aDM a_]
 have o:(ql (aj.save u.jo u.content) f).take (u.cut.toNat+1)=(DL u.jo).take (u.cut.toNat+1):=by rw[j,aDM a_]
 have q:(ql (aj.save u.jo u.content) f)[(u.cut-(([]:je).length:Int)).toNat]?=(DL u.jo)[u.cut.toNat]?:=by rw[l,j,aBD i]
 rw[IR];rw[zH (by rw[l,j,gz];omega),zH i] at q;rw[Option.some.inj q];simp only[l];rw[t,o,p _ f (fun a d=>e a (List.mem_of_mem_take d))];rw[show kP (max 0 u.bytes) (DL u.jo)[u.cut.toNat] f=f from au (e _ (aBI i))]
theorem bLf(h:Fine f u){j:Nat}(hc:u.cut=16+(j:Int))(o:j<=nsec (jd f u))(a:Acc)(l:(fF (ku f u) (jd f u))[j]?=some a) :
  EJ f u=(kP (max 0 u.bytes) a (AV ((fF (ku f u) (jd f u)).take j) f),Fg,false,DL u.jo++(fF (ku f u) (jd f u)).take (j+1)):=by
 obtain⟨d,n⟩:=bAm (c:=u.content) h.r0 h.r3 h.c h.s;change ql (aj.save u.jo u.content) f=DL u.jo++fF (ku f u) (jd f u) at d;have g:=(Qp u.jo f).2.2;rw[(Qp u.jo f).1] at g;have e:(u.cut-(([]:je).length:Int)).toNat=16+j:=l7;have b:(ql (aj.save u.jo u.content) f).length=16+(nsec (jd f u)+1):=by rw[d,gz,pF,kZ _ _ h.len.1]
 unfold EJ;rw[aPm,dif_pos ⟨l7,by rw[e,b];omega⟩];dsimp only;have k:(ql (aj.save u.jo u.content) f)[(u.cut-(([]:je).length:Int)).toNat]?=some a:=by rw[e,d,aBi (by rw[pF];omega),pF,show 16+j-16=j from a_];exact l
 rw[zH (by rw[e,b];omega)] at k;rw[Option.some.inj k,IR];simp only[e];have i:∀ m,(ql (aj.save u.jo u.content) f).take (16+m)=DL u.jo++(fF (ku f u) (jd f u)).take m:=fun m=>by rw[d,List.take_append,pF,show 16+m-16=m from a_,WF (by rw[pF];omega)]
 rw[i j,show 16+j+1=16+(j+1) from a_,i (j+1),aIu,g]
theorem aQm(h:Fine f u){j:Nat}(n:j<=nsec (jd f u))(a:Acc)(c:(fF (ku f u) (jd f u))[j]?=some a)(cut:Int):Sz (kP cut a (AV ((fF (ku f u) (jd f u)).take j) f)) /\
  ∀ t,(t<ku f u\/ku f u+8<=t)->sec (kP cut a (AV ((fF (ku f u) (jd f u)).take j) f)) t=sec f t:=by
 have l:=h.len;have o:=h.first;have r:=h.nsec;have k:Sz (AV ((fF (ku f u) (jd f u)).take j) f):=bCd h.sz;refine⟨yU k _ _,fun t q=>?_⟩
 have p:∃ (m:Nat) (b:di),m<8/\b.length=256/\a=⟨4,0,ku f u+(m:Int),strOf b⟩:=by
  rcases aCE j with rfl|d;rw[fF,aBN] at c;cases c
  exact⟨0,iH,a_,oQ,d_⟩;rcases aER n with g|rfl;rw[aQo d g] at c;cases c
  exact⟨j,_,a_,gI _ _,rfl⟩;rw[vH _ _ l.1] at c;cases c;exact⟨0,lm (jd f u) 0,a_,gI _ _,d_⟩
 obtain⟨m,b,s,i,rfl⟩:=p;have e:kP cut ⟨4,0,ku f u+(m:Int),strOf b⟩ (AV ((fF (ku f u) (jd f u)).take j) f)=gU (AV ((fF (ku f u) (jd f u)).take j) f) (ku f u+(m:Int)) (strOf b) cut:=rfl;rw[e,uH k a_ a_ i,ah a_];rcases aCE j with rfl|d;rfl;rw[aDe h.sz o.1 a_ l.1 d n,ah a_,ah a_]
theorem Ia(h:Fine f u):AV (fF (ku f u) (jd f u)) f=kP (-1) ⟨4,0,ku f u,strOf (lm (jd f u) 0)⟩ (AV ((fF (ku f u) (jd f u)).take (nsec (jd f u))) f):=by
 have a:=h.len;have e:fF (ku f u) (jd f u)=(fF (ku f u) (jd f u)).take (nsec (jd f u))++[⟨4,0,ku f u,strOf (lm (jd f u) 0)⟩]:=by apply aAX;intro i;rcases Nat.lt_trichotomy i (nsec (jd f u)) with b|rfl|b;rw[aBD (by rw[ww,kZ _ _ a.1];omega),yf,au b];rw[vH _ _ a.1,aBi (by rw[ww];omega),ww,kZ _ _ a.1,aCZ a_,aBa];rfl;rw[PR (by rw[kZ _ _ a.1];omega),PR (by rw[gz,ww,kZ _ _ a.1,aBY];omega)]
 conv=>lhs;rw[e,aIu]
 rfl
theorem last_at(h:Fine f u)(cut:Int)(i:Nat):let W:=FZ (kP cut ⟨4,0,ku f u,strOf (lm (jd f u) 0)⟩ (AV ((fF (ku f u) (jd f u)).take (nsec (jd f u))) f)) (ku f u)
  (i<(jd f u).length->(cut<0\/256<=cut\/(i:Int)<cut\/256<=i)->W[i]?=(jd f u)[i]?)/\(0<=cut->cut<256->cut<=i->i<256->W[i]?=some 0):=by
 intro W;have p:=h.len;have g:=h.first;have o:=h.nsec;have l:Sz (AV ((fF (ku f u) (jd f u)).take (nsec (jd f u))) f):=bCd h.sz;have d:=yU l cut ⟨4,0,ku f u,strOf (lm (jd f u) 0)⟩
 have a:∀ t,sec (kP cut ⟨4,0,ku f u,strOf (lm (jd f u) 0)⟩ (AV ((fF (ku f u) (jd f u)).take (nsec (jd f u))) f)) t=if t=ku f u then Ai cut (lm (jd f u) 0) iH else if ku f u<t/\t<ku f u+(nsec (jd f u):Int) then lm (jd f u) (t-ku f u).toNat else sec f t:=fun t=>by
  have e:kP cut ⟨4,0,ku f u,strOf (lm (jd f u) 0)⟩ (AV ((fF (ku f u) (jd f u)).take (nsec (jd f u))) f)=gU (AV ((fF (ku f u) (jd f u)).take (nsec (jd f u))) f) (ku f u) (strOf (lm (jd f u) 0)) cut:=rfl;rw[e,uH l g.1 a_ (gI _ _)];have w:=fun t=>aDe h.sz g.1 (b:=jd f u) a_ p.1 o.1 (dE _) t;rw[w t,w (ku f u),au rfl];split
  rfl;rfl
 have c:i<2048->W[i]?=(sec (kP cut ⟨4,0,ku f u,strOf (lm (jd f u) 0)⟩ (AV ((fF (ku f u) (jd f u)).take (nsec (jd f u))) f)) (ku f u+((i / 256:Nat):Int)))[i % 256]?:=fun q=>by have:=bCz d g.1 a_ (i:=i / 256) (j:=i % 256) a_ a_;rw[show 256*(i / 256)+i % 256=i from a_] at this;exact this
 refine⟨fun q m=>?_,fun y x s r=>?_⟩;rw[c a_,a];by_cases n:i<256;rw[au a_,show i % 256=i from a_];unfold Ai;by_cases k:cut<0\/((lm (jd f u) 0).length:Int)<=cut;rw[au k,aWe n a_,aFd,mf];rw[ah k];rw[gI] at k;rw[aBD (by rw[ww,gI];omega),yf,au a_,aWe n a_,aFd,mf];rw[ah a_,au (by unfold nsec;omega),show (ku f u+((i / 256:Nat):Int)-ku f u).toNat=i / 256 from a_,aWe a_ a_,show 256*(i / 256)+i % 256=i from a_];rw[c a_,a,au a_,show i % 256=i from a_];unfold Ai;rw[ah (by rw[gI];omega),aBi (by rw[ww,gI];omega),ww,gI,aAk,aMw a_]
inductive Wu(f:Fl)(u:VV)(x:Int×di):Prop
 |old (h:x=Da f u.jo (1-((lw f u.jo).2:Int)))
 |bad (h:x=(0,[]))
 |new (h:x=((lw f u.jo).1.1+1,u.content.data.toList))
 |odd (s:di) (h:x=((lw f u.jo).1.1+1,s)) (hl:s.length<=2000) (hc:∀ i,i<(encS u.jo ((lw f u.jo).1.1+1) s).length->(encS u.jo ((lw f u.jo).1.1+1) s)[i]?=some 0\/(i<(jd f u).length/\(encS u.jo ((lw f u.jo).1.1+1) s)[i]?=(jd f u)[i]?))
theorem aQv(h:Fine f u){cut:Int}(hc:cut<0\/256<=cut):qh u.jo (FZ (kP cut ⟨4,0,ku f u,strOf (lm (jd f u) 0)⟩ (AV ((fF (ku f u) (jd f u)).take (nsec (jd f u))) f)) (ku f u))=((lw f u.jo).1.1+1,u.content.data.toList):=by
 have g:=aJf f u.jo;have a:=last_at h cut;obtain⟨W,d⟩:=jc (FZ (kP cut ⟨4,0,ku f u,strOf (lm (jd f u) 0)⟩ (AV ((fF (ku f u) (jd f u)).take (nsec (jd f u))) f)) (ku f u));rw[d] at a ⊢
 have e:W=jd f u++W.drop (jd f u).length:=by
  have:W.take (jd f u).length=jd f u:=by apply aAX;intro i;rw[yf];split;rename_i b;exact (a i).1 b a_;rw[PR a_]
  conv=>lhs;rw[<-aCY (jd f u).length W,this]
 rw[e];exact bCo _ _ _ _ a_ h.s (by rw[nz];exact h.c)
theorem aMv{g:Fl}(d:Sz g){s:Int}(h1:0<=s)(h2:s+8<=128)(h:(sec g s)[0]?=some 0)(rec:Int):qh rec (FZ g s)=(0,[]):=by
 have a:=bCz d h1 h2 (i:=0) (j:=0) a_ a_;rw[show s+((0:Nat):Int)=s from a_,h] at a;cases c:FZ g s with
 |nil=>rw[c] at a;cases a|cons b l=>rw[c] at a;cases a;exact bPr _ _
theorem bDh(h:Fine f u){j:Nat}(D:j<=nsec (jd f u))(a:Acc)(m:(fF (ku f u) (jd f u))[j]?=some a){cut:Int}(h0:0<=cut):Wu f u (Da (kP cut a (AV ((fF (ku f u) (jd f u)).take j) f)) u.jo (1-((lw f u.jo).2:Int))):=by
 have C:=h.len;have p:=h.first;have J:=h.nsec;have K:=aJf f u.jo;have A:Sz (AV ((fF (ku f u) (jd f u)).take j) f):=bCd h.sz;have E:∀ g,Da g u.jo (1-((lw f u.jo).2:Int))=qh u.jo (FZ g (ku f u)):=fun g=>rfl;rw[E];rcases aCE j with rfl|B;rw[fF,aBN] at m;cases m;have e:kP cut ⟨4,0,ku f u,strOf iH⟩ (AV ((fF (ku f u) (jd f u)).take 0) f)=gU f (ku f u) (strOf iH) cut:=rfl;have d:=uH h.sz p.1 a_ (b:=iH) oQ cut;rw[e]
 by_cases y:cut=0;subst y;refine .old ?_;rw[E];congr 1;refine aJr fun t N L=>?_;rw[d];split;rename_i G;subst G;unfold Ai;rw[ah (by rw[oQ];decide)];simp;rfl;refine .bad (aMv (aTx h.sz _ _ _) p.1 a_ ?_ _);rw[d,au rfl];unfold Ai;split;exact aMw a_;rename_i I;have:iH.length=256:=oQ;rw[aBD (by rw[ww];omega),yf,au a_];exact aMw a_
 ·rcases aER D with r|rfl;rw[aQo B r] at m;cases m;refine .bad (aMv (yU A _ _) p.1 a_ ?_ _);have e:kP cut ⟨4,0,ku f u+(j:Int),strOf (lm (jd f u) j)⟩ (AV ((fF (ku f u) (jd f u)).take j) f)=gU (AV ((fF (ku f u) (jd f u)).take j) f) (ku f u+(j:Int)) (strOf (lm (jd f u) j)) cut:=rfl;rw[e,uH A a_ a_ (gI _ _),ah a_,aDe h.sz p.1 a_ C.1 B D,au rfl];exact aMw a_
  ·rw [vH _ _ C.1] at m;cases m;by_cases y:256<=cut;exact .new (aQv h (.inr y))
   ·by_cases x:cut.toNat<=(jd f u).length;have k:=last_at h cut;obtain⟨W,z⟩:=jc (FZ (kP cut ⟨4,0,ku f u,strOf (lm (jd f u) 0)⟩ (AV ((fF (ku f u) (jd f u)).take (nsec (jd f u))) f)) (ku f u));rw[z] at k ⊢;rcases bPs (rec:=u.jo) (seq:=(lw f u.jo).1.1+1) (c:=u.content.data.toList) (W:=W) (cut:=cut.toNat) a_ h.s (by rw[nz];exact h.c) x (fun i o=>(k i).1 a_ a_) (fun i o n=>(k i).2 h0 a_ a_ n) with w|⟨s,w,l,F⟩;exact .bad w;have H:(encS u.jo ((lw f u.jo).1.1+1) s).length<=(jd f u).length:=bPh _ _ l;refine .odd s w (by have:=h.c;rw[nz] at l;change s.length<=u.content.size at l;omega) fun i o=>?_
    have q:(encS u.jo ((lw f u.jo).1.1+1) s)[i]?=W[i]?:=by rw[<-F,yf,au o]
    rw[q];by_cases n:(i:Int)<cut\/256<=i;exact .inr ⟨a_,(k i).1 a_ a_⟩;exact .inl ((k i).2 h0 a_ a_ a_)
    ·refine .new ?_;have k:=last_at h cut;obtain⟨W,z⟩:=jc (FZ (kP cut ⟨4,0,ku f u,strOf (lm (jd f u) 0)⟩ (AV ((fF (ku f u) (jd f u)).take (nsec (jd f u))) f)) (ku f u));rw[z] at k ⊢
     have e:W=jd f u++W.drop (jd f u).length:=by
      have:W.take (jd f u).length=jd f u:=by apply aAX;intro i;rw[yf];split;rename_i o;exact (k i).1 o a_;rw[PR a_]
      conv=>lhs;rw[<-aCY (jd f u).length W,this]
     rw[e];exact bCo _ _ _ _ a_ h.s (by rw[nz];exact h.c)
end
end
namespace Pv
def Vb:Spec:=aV true fun a=>match a with
 |[.w (.one (.lit (.string s))),.w (.one (.lit (.int .i64 c)))]=>some (0<=c/\c<=1000000/\s.size<=1,n_ (strOf (Lib.repeatL s.data.toList c.toNat)))|_=>none
theorem XZ{I:jg}:b_ prog I 141 Vb:=by
 refine aU (aB func141 ai rfl) (fun j p r a g w d b l f=>?_);split at a;rename_i s c;cases a
 match b,f with
 |[v1,v2],⟨k1,k2,_⟩=>obtain rfl:=k1.gu;obtain rfl:=k2.gu;obtain⟨o,m,i⟩:=g;obtain⟨n,rfl⟩:∃ n:Nat,c=(n:Int):=⟨c.toNat,a_⟩;refine (aHf s n w a_ (by have:=Nat.mul_le_mul i (show n<=1000000 by omega);omega)).mono ?_;rintro e k ⟨rfl,h⟩;exact⟨_,rfl,Ext.of_below h,.w (.one (.lit rfl))⟩
 cases a
def Ve:Spec:=aV true fun a=>match a with
 |[.w (.one (.lit (.string s))),.w (.one (.lit (.string p)))]=>some (True,t_ (Lib.hasPrefix s.data.toList p.data.toList))|_=>none
theorem Xk{I:jg}:b_ prog I 170 Ve:=by
 refine aU (aB func170 ai rfl) (fun f p r a h w c b i d=>?_);split at a;rename_i s p;cases a
 match b,d with
 |[v1,v2],⟨k1,k2,_⟩=>obtain rfl:=k1.gu;obtain rfl:=k2.gu;refine (aOz s p w).mono ?_;rintro e g ⟨rfl,rfl⟩;exact⟨_,rfl,Ext.refl _,.w (.one (.lit rfl))⟩
 cases a
theorem aAd(s p:di):Lib.hasPrefix s p=decide (s.take p.length=p):=by
 unfold Lib.hasPrefix;by_cases h:s.take p.length=p;rw[mi h,List.isPrefixOf_iff_prefix];rw[<-h];exact List.take_prefix _ _;rw[su h];cases a:p.isPrefixOf s with
 |false=>rfl|true=>exact absurd (List.prefix_iff_eq_take.1 (List.isPrefixOf_iff_prefix.1 a)).symm h
theorem aDu(rec k:Int):-1<=bD rec k/\bD rec k<=56:=by unfold bD;split<;>omega
theorem bOt{I:jg}(b:∀ w c,Ext w c->I w->I c)(rec k:Int):fQ prog I 134 true [dw rec,dw k] (dw (bD rec k)):=by
 have M:jq prog I (find []):=⟨aY (fun p d=>by cases d),dB⟩;refine bH func134 rfl rfl b (fun A f e g=>?_);refine aI ?_;refine aJ (fun a=>?_) (fun a=>?_);refine gB ?_;have h:rec<0\/3<rec\/k<0\/1<k:=by simp at a;omega
 unfold bD;rw[au h];refine dS ?_;refine jB ?_;have h:¬(rec<0\/3<rec\/k<0\/1<k):=by simp at a;omega
 refine congrArg dw ?_;unfold bD;rw[ah h];simp only[PP];omega
theorem bEi{I:jg}(b:∀ w c,Ext w c->I w->I c)(rec k:Int):fQ prog I 115 true [dw rec,dw k] (dw (bD rec k)):=by
 have M:jq prog I (find []):=⟨aY (fun p d=>by cases d),dB⟩;refine bH func115 rfl rfl b (fun A f e g=>?_);refine aI ?_;refine aJ (fun a=>?_) (fun a=>?_);refine gB ?_;have h:rec<0\/3<rec\/k<0\/1<k:=by simp at a;omega
 unfold bD;rw[au h];refine dS ?_;refine jB ?_;have h:¬(rec<0\/3<rec\/k<0\/1<k):=by simp at a;omega
 refine congrArg dw ?_;unfold bD;rw[ah h];simp only[PP];omega
theorem wL(X Y:di):ru X.length (oz X) (oz Y)=oz (X++Y):=by funext i;unfold ru oz;by_cases h:i<X.length;rw[au h,zG,zG,aBD h];rw[ah h,zG,zG,aBi a_]
theorem uX{n:Nat}{f g:Nat->g_}(h1:∀ i,(f i).all (bT false)=true)(h2:∀ i,(g i).all (bT false)=true):∀ i,(ru n f g i).all (bT false)=true:=fun i=>by unfold ru;split;exact h1 i;exact h2 _
theorem aMh(rec seq:Int)(c:jy)(h1:gy rec)(h2:gy seq)(hc:c.size<=3000):VP prog af 143 [dw rec,dw seq,n_ c] 5 1 (encS rec seq c.data.toList).length (oz (encS rec seq c.data.toList)):=by
 have M:=WH;have h:prog.types[5].bytes=1:=ai;have b:prog.types[5].size=1:=ai;have m:=aO seq;have l:=aO rec;have k:=fG c.data.toList;have p:c.data.toList.length=c.size:=nz;refine aCv func143 rfl rfl bJ (fun A r q s=>?_);refine bU ?_ ?_;simp;refine⟨h2,a_,?_⟩;rw[h];omega;refine bK (s':=⟨[(0,none,dw rec),(7,none,dm (.ow 1001 0 1 0 (tu seq c.data.toList).length))],[(1001,none,0,.arr 5 1 (tu seq c.data.toList).length (oz (tu seq c.data.toList)))]⟩) (fun a w d=>(d.reset (kT:=[0,7]) (kO:=[1001]) ay ?_).same ?_ ?_) ?_;simp only[All,and_true,AC];exact fun i _=>uX (fun _=>rfl) (fun _=>rfl) i;refine .cr (.cons ?_ .nil);rw[b,tu,gz];refine .cons (.arr ?_ (fun i j=>?_)) .nil;rw[tu,gz];simp only[mf];exact congrFun (wL (dn seq) (bI c.data.toList)) i;have o:(tu seq c.data.toList).length<=4000:=by unfold tu;rw[gz];omega
 have e:=jP 5 [dn rec,tu seq c.data.toList];refine aH ?_ ?_;simp;exact⟨h1,a_,a_⟩;refine aH ?_ ?_;simp;rw[h];omega;refine bK (s':=⟨[(6,none,dm (.ow 1001 0 1 0 (encS rec seq c.data.toList).length))],[(1001,none,0,.arr 5 1 (encS rec seq c.data.toList).length (oz (encS rec seq c.data.toList)))]⟩) (fun a w d=>(d.reset (kT:=[6]) (kO:=[1001]) ay ?_).same ?_ ?_) ?_;simp only[All,and_true,AC,IR,C_];exact fun i _=>uX (fun _=>rfl) (fun _=>rfl) i;refine .cons ?_ .nil;rw[encS,gz,e];exact congrArg (fun n=>dm (.ow 1001 0 n 0 ((tu seq c.data.toList).length+16))) b;refine .cons (.arr ?_ (fun i j=>?_)) .nil;rw[encS,gz,e];simp only[eP];exact congrFun (wL (tu seq c.data.toList) (mW 5 [dn rec,tu seq c.data.toList])) i;refine bZ (fun a w d=>⟨.inr rfl,_,?_,d⟩);refine aFi (x:=1001) (l9:=0) (g:=none) (f:=?_) (out:=?_) ?_ ?_ ?_ ?_ ?_ trivial ?_;rotate_left 2;rfl;simp;rfl;rfl;rfl;intro i j;exact⟨rfl,rfl⟩
def Fq:Spec:=aGx fun a=>match a with
 |[.w (.one (.lit (.int .i64 rec))),.w (.one (.lit (.int .i64 seq))),.w (.one (.lit (.string c)))]=>some (gy rec/\gy seq/\c.size<=3000,5,1,(encS rec seq c.data.toList).length,oz (encS rec seq c.data.toList))|_=>none
theorem Z9:b_ prog af 143 Fq:=by refine yY (aB func143 ai rfl) (fun g p e n len h f d=>?_);split at f;rename_i b a c;cases f;exact aMh b a c d.1 d.2.1 d.2.2;cases f
def aNh:Spec:=aV true fun a=>match a with
 |[.w (.one (.lit (.int .i64 rec))),.w (.one (.lit (.int .i64 k)))]=>some (True,dw (bD rec k))|_=>none
theorem Og:b_ prog af 134 aNh:=by refine aU (aB func134 ai rfl) (fun b p r a c=>?_);split at a;cases a;exact bOt bJ _ _;cases a
theorem bKl:b_ prog af 115 aNh:=by refine aU (aB func115 ai rfl) (fun b p r a c=>?_);split at a;cases a;exact bEi bJ _ _;cases a
def J8:List (Nat×Spec):=(143,Fq)::(170,Ve)::(141,Vb)::(134,aNh)::(115,aNh)::aJK
theorem bJe:∀ p∈J8,b_ prog af p.1 p.2:=by intro p a;simp only[J8,xn] at a;rcases a with rfl|rfl|rfl|rfl|rfl|a;exact Z9;exact Xk;exact XZ;exact Og;exact bKl;exact ZJ p a
theorem aFV:jq prog af (find J8):=⟨aY bJe,dB⟩
def aKM(x:Int×di):PV:=.w (.agg [.lit (.int .i64 x.1),.lit (.string (strOf x.2))])
theorem bGr(rec:Int)(b:di)(h1:gy rec)(hb:b.length<4611686018427387904):fQ prog af 166 true [dw rec,o6 b] (aKM (qh rec b)):=by
 have M:=aFV;have w:=nR b;have C:=fV b;refine bH func166 rfl rfl bJ (fun A H F I=>?_);refine bU ?_ ?_;simp;exact hb;refine aW (⟨[(0,none,dw rec),(1,none,o6 b),(4,none,dm (.pt 0 0 0)),(5,none,dw (dh b).1),(6,none,dw ((dh b).2.1:Int)),(7,none,dw (dh b).2.2)],[(0,none,0,.box 205 [.lit (.int .i64 0),.lit (.string aC)])]⟩) ?_ ?_ ?_;rw[eP];exact iq;exact r_;obtain⟨m,l⟩:=jc (qh rec b);rw[l];have a:iF (b.drop (dh b).2.1)=vg b:=rfl;have o:=bGa (b.drop (dh b).2.1)
 have r:(vg b).2.2=0->(vg b).2.1≠0:=fun E h1=>by
  have z:iF (b.drop (dh b).2.1)=((vg b).1,(vg b).2.1,0):=by rw[a,<-E]
  have p:=(OU z).1;rw[h1,List.take_zero] at p;have d:=congrArg List.length p;have x:=aO ((vg b).1.length:Int);unfold bI at d;rw[gz] at d;have K:(dn ((vg b).1.length:Int)).length=0:=by simp at d;omega
  have D:=kD (b.drop (dh b).2.1);rw[a,MM] at D;have J:=aNc ((vg b).1.length:Int) a_ a_;omega
 unfold qh at l;have u:=kD (b.drop (dh b).2.1);rw[a,MM] at u;rw[a] at o;generalize G:dh b=g at *;obtain⟨q,k,e⟩:=g;dsimp only at *;refine aJ (fun j=>?_) (fun j=>?_);refine gB ?_;have h:e≠0\/q<1\/1099511627776<q:=by simp at j;omega
 rw[au h] at l;rw[<-l];rfl;have h:¬(e≠0\/q<1\/1099511627776<q):=by simp at j;omega
 rw[ah h] at l;refine jK ?_ ?_;simp;refine⟨w.1,?_⟩;unfold jC;rw[dP];omega;have t:(rowB ((b.length:Int)-(k:Int)).toNat fun i=>oz b ((k:Int).toNat+i))=b.drop k:=by rw[show ((b.length:Int)-(k:Int)).toNat=b.length-k from a_,show (k:Int).toNat=k from a_,lU a_];exact WF (by rw[MM];exact dE _)
 refine aW (⟨[(0,none,dw rec),(1,none,o6 b),(4,none,dm (.pt 0 0 0)),(5,none,dw q),(7,none,dw (vg b).2.2),(8,none,n_ (strOf (vg b).1)),(9,none,dw ((vg b).2.1:Int))],[(0,none,0,.box 205 [.lit (.int .i64 0),.lit (.string aC)])]⟩) ?_ ?_ ?_;rw[t,a];exact iq;exact r_;generalize vg b=c at *;obtain⟨s,n,y⟩:=c;dsimp only at *;have f:(strOf s).size=s.length:=bC s;refine qG ?_ ?_;simp;intro z B;rw[f] at B ⊢;exact⟨h1,by unfold gy;omega,a_⟩;refine cO (fun j=>?_) (fun j=>?_);refine gB ?_;simp[aAd,eP,bY,f] at j
 have p:y≠0\/2000<s.length\/b.take (encS rec q s).length≠encS rec q s:=by
  rcases j with ((d|d)|d)|d;exact .inl d;exact .inr (.inl a_);exact .inr (.inr d)
  by_cases x:y=0;exact absurd d (r x);exact .inl x
 rw[au p] at l;rw[<-l];rfl;refine dS ?_;refine jB ?_;simp[aAd,eP,bY,f] at j;have p:¬(y≠0\/2000<s.length\/b.take (encS rec q s).length≠encS rec q s):=by rintro (d|d|d);exact d j.1.1.1;omega;exact d j.1.2
 rw[ah p] at l;rw[<-l];rfl
def Vl:Spec:=aV true fun a=>match a with
 |[.w (.one (.lit (.int .i64 rec))),v]=>(match wX v with
  |some (p,l)=>some (p/\gy rec/\l.length<4611686018427387904,aKM (qh rec l))|none=>none)
 |_=>none
theorem ZE:b_ prog af 166 Vl:=by
 refine aU (aB func166 ai rfl) (fun i p r a d=>?_);split at a;rename_i b v;cases c:wX v with
 |none=>rw[c] at a;cases a| some q=>
  obtain⟨k,l⟩:=q;rw[c] at a;cases a
  exact (bGr b l d.2.1 d.2.2).args fun C e f=>by
   match e,f with
   |[j,x],⟨h,g,_⟩=>exact⟨h,sW c d.1 g,trivial⟩
 cases a
theorem aYr{e:Type}(g:e->jl)(k:Nat):∀ (l:List e) (c:jl),(∀ a∈l,(g a).length=k)->c.length=l.length*k->(∀ (i:Nat) (f:i<l.length),(c.drop (i*k)).take k=g l[i])->c=l.flatMap g
 |[],c,_,d,_=>by
  have:c.length=0:=by simpa using d
  rw[List.eq_nil_of_length_eq_zero this];rfl
 | a::l,c,hg,d,h=>by
  have n:c.take k=g a:=by have:=h 0 d_;rw[aDN,aBk] at this;exact this
  have j:=aYr g k l (c.drop k) (fun b m=>hg b (aAD _ m)) (by rw[MM,d,We,aDL];omega) (fun i f=>by
   have:=h (i+1) (by simpa using f);rw[aDL] at this;rw[List.drop_drop,aBS]
   exact this)
  rw[List.flatMap_cons,<-j,<-n];exact (aCY k c).symm
def jR(r:u_):g_:=[.lit (.int .i64 r.val),.lit (.string r.bytes)]
def FD(l:List u_):Nat->g_:=fun i=>jR (l.getD i ⟨0,aC⟩)
def KL:g_->u_
 |[.lit (.int _ n),.lit (.string s)]=>⟨n,s⟩|_=>⟨0,aC⟩
def O9:g_->Bool
 |[.lit (.int .i64 _),.lit (.string _)]=>true|_=>false
theorem O8{l:g_}(h:O9 l=true):l=jR (KL l):=by
 unfold O9 at h;split at h
 rfl;cases h
def wR(n:Nat)(f:Nat->g_):List u_:=(yz n).map fun i=>KL (f i)
def aFy(n:Nat)(f:Nat->g_):Prop:=∀ i,i<n->O9 (f i)=true
@[simp] theorem oH(n:Nat)(f:Nat->g_):(wR n f).length=n:=by simp[wR]
theorem KN{n:Nat}{f:Nat->g_}(h:aFy n f):∀ i,i<n->f i=FD (wR n f) i:=fun i a=>by unfold FD wR;rw[zG,aAg,aDc a];exact O8 (h i a)
@[simp] theorem Qh(n:Nat)(l:List u_):aFy n (FD l):=fun _ _=>rfl
@[simp] theorem Vp(l:List u_):wR l.length (FD l)=l:=by apply aBR d_;intro i b a;simp only[wR,aCI,aCA,FD,jR,KL];rw[zG,zH a];rfl
theorem bKo{C:Ctx}{n:Nat}{f:Nat->g_}{v:ag}(h:R C (.sl 2 n f) [v])(g:aFy n f):Reads C.w 2 v (wR n f).length (logCells (wR n f)):=by
 cases h with
 | sl e l j=>
  rename_i d
  have:d=logCells (wR n f):=by
   refine aYr u_.cells 2 (wR n f) d (fun a _=>rfl) (by rw[oH];exact e.1) (fun i c=>?_);rw[oH] at c;have b:=j i c;rw[KN g i c] at b;unfold FD at b;rw[zG,zH (by rw[oH];exact c)] at b;generalize (wR n f)[i]'(by rw[oH];exact c)=r at b ⊢;generalize (d.drop (i*2)).take 2=k at b ⊢;cases b with
   | cons k1 b=>cases b with
    |cons k2 b=>cases b;cases k1;cases k2;rfl
  rw[<-this,oH];exact e
def XL:PC->Option (Prop×List u_)
 |.sl 2 n f=>some (aFy n f,wR n f)|.lit (.slice none 0 0)=>some (True,[])|_=>none
theorem Rz{C:Ctx}{c:PC}{v:ag}{p:Prop}{l:List u_}(h:XL c=some (p,l))(a:p)(hr:R C c [v]):Reads C.w 2 v l.length (logCells l):=by unfold XL at h;split at h;cases h;exact bKo hr a;cases h;cases hr;exact Reads.nil _ 2;cases h
def oP(a:Acc):g_:=[.lit (.int .i64 a.kind),.lit (.int .i64 a.ng),.lit (.int .i64 a.cell),.lit (.string a.bytes)]
def FY(O:ut){a:Type}(p:aj a)(l:je)(q:aj a)(k:je):Prop:=l <+: k/\go O p l=go O q k
theorem FY.start(O:ut){a:Type}(p:aj a)(l:je):FY O p l p l:=⟨aCX _,rfl⟩
theorem FY.step{b a:Type}{O:ut}{p:aj b}{l k:je}{q:aj a}{f:a->aj b}(h:FY O p l (q.bind f) k):FY O p l (f (go O q k).1) (go O q k).2:=⟨h.1.trans (yH O q k),h.2.trans (aAy O q f k)⟩
theorem FY.gm{b a:Type}{O:ut}{p:aj b}{l k:je}{q:aj a}{f:a->aj b}(h:FY O p l (q.bind f) k):∀ g,k <+: g->g <+: (go O q k).2->O g=none->l <+: g/\g <+: (go O p l).2:=fun g d c _=>by refine⟨h.1.trans d,c.trans ?_⟩;rw[h.step.2];exact yH _ _ _
theorem Y2{I:jg}:jq prog I (find ([]:List (Nat×Spec))):=⟨fun f a h=>(by cases h),ai⟩
theorem Xb{I:jg}(c:Int):Dl prog I 165 (aj.rd c) [.w (.one .dv),dw c] n_:=by intro O l;have M:=Y2 (I:=I);refine dL func165 rfl rfl rfl (fun A f g=>?_);refine bU ?_ ?_;exact⟨aOf (qM _) (qM _),trivial⟩;refine bZ (fun a w e=>⟨.inr rfl,_,⟨?_,(fun o d=>by cases d),fun p b=>?_⟩,e⟩);rotate_left 1;cases b;rfl;refine aZ (ay) d_ ay ay ?_;rfl
theorem IU{I:jg}(c:Int)(b:jy):Dl prog I 140 (aj.wr c b) [.w (.one .dv),dw c,n_ b] (fun _=>.o7 []):=by intro O l;have M:=Y2 (I:=I);refine dL func140 rfl rfl rfl (fun A f h=>?_);refine aS M h f (ay) ai ?_ ?_;exact⟨aOf (qM _) (qM _),trivial⟩;intro a w g;refine⟨.inl rfl,_,⟨?_,(fun o e=>by cases e),fun p d=>?_⟩,g⟩;rotate_left 1;cases d;rfl;refine aZ (ay) d_ ay ay ?_;rfl
def PS:ji->Option (Prop×aj jy×(jy->PV))
 |[.w (.one (.lit (.int .i64 c)))]=>some (True,aj.rd c,n_)|_=>none
def PO:ji->Option (Prop×aj Unit×(Unit->PV))
 |[.w (.one (.lit (.int .i64 c))),.w (.one (.lit (.string b)))]=>some (True,aj.wr c b,fun _=>.o7 [])|_=>none
theorem SK{I:jg}:b_ prog I 165 (oI PS):=
 rH (aB func165 ai rfl) (fun a c p v h _=>by
  unfold PS at h;split at h;cases h;exact (Xb _).toB
  cases h)
theorem RG{I:jg}:b_ prog I 140 (oI PO):=
 rH (aB func140 ai rfl) (fun a c p v h _=>by
  unfold PO at h;split at h;cases h;exact (IU _ _).toB
  cases h)
def Dc(a b:Int):Int:=if a<b then -1 else if b<a then 1 else 0
theorem TV{I:jg}(b:∀ w c,Ext w c->I w->I c)(a:Int):fQ prog I 197 true [dw a] (t_ false):=by have M:=Y2 (I:=I);refine bH func197 rfl rfl b (fun A e d f=>?_);refine aI ?_;refine gB ?_;simp
def Vh:Spec:=aV true fun a=>match a with
 |[.w (.one (.lit (.int .i64 _)))]=>some (True,t_ false)|_=>none
theorem Y4:b_ prog af 197 Vh:=by refine aU (aB func197 ai rfl) (fun b p r a c=>?_);split at a;cases a;exact TV bJ _;cases a
def aTI:List (Nat×Spec):=[(197,Vh)]
theorem aTK:jq prog af (find aTI):=⟨aY (fun p a=>by
 obtain rfl:=List.mem_singleton.1 a
 exact Y4),dB⟩
theorem V3(a b:Int):fQ prog af 185 true [dw a,dw b] (dw (Dc a b)):=by have M:=aTK;refine bH func185 rfl rfl bJ (fun A f e g=>?_);refine iC ?_;refine aI ?_;refine aJ (fun c=>?_) (fun c=>?_);cases c;refine jU (fun c=>?_) (fun c=>?_);cases c;refine jU (fun c=>?_) (fun c=>?_);refine gB ?_;unfold Dc;rw[au (of_decide_eq_true c)];refine fZ ?_;have d:¬a<b:=of_decide_eq_false c;refine aJ (fun c=>?_) (fun c=>?_);refine gB ?_;unfold Dc;rw[ah d,au (of_decide_eq_true c)];refine dS ?_;refine jB ?_;unfold Dc;rw[ah d,ah (of_decide_eq_false c)]
def Vm:Spec:=aV true fun c=>match c with
 |[.w (.one (.lit (.int .i64 a))),.w (.one (.lit (.int .i64 b)))]=>some (True,dw (Dc a b))|_=>none
theorem V4:b_ prog af 185 Vm:=by refine aU (aB func185 ai rfl) (fun b p r a c=>?_);split at a;cases a;exact V3 _ _;cases a
def aTH:List (Nat×Spec):=[(185,Vm)]
theorem aTJ:jq prog af (find aTH):=⟨aY (fun p a=>by
 obtain rfl:=List.mem_singleton.1 a
 exact V4),dB⟩
def arL(a:Int)(s:jy):PV:=.w (.agg [.lit (.int .i64 a),.lit (.string s)])
theorem aZk(a b:Int)(s t:jy):fQ prog af 167 true [arL a s,arL b t] (dw (Dc a b)):=by have M:=aTJ;refine bH func167 rfl rfl bJ (fun A d c e=>?_);refine iC ?_;exact kE
def JK:Spec:=aV true fun c=>match c with
 |[.w (.agg [.lit (.int .i64 a),.lit (.string _)]),.w (.agg [.lit (.int .i64 b),.lit (.string _)])]=>some (True,dw (Dc a b))|_=>none
theorem VC:b_ prog af 167 JK:=by refine aU (aB func167 ai rfl) (fun b p r a c=>?_);split at a;cases a;exact aZk _ _ _ _;cases a
def Rk:List (Nat×Spec):=(165,oI PS)::(140,oI PO)::(167,JK)::(166,Vl)::J8
theorem J9:∀ p∈Rk,b_ prog af p.1 p.2:=by intro p a;simp only[Rk,xn] at a;rcases a with rfl|rfl|rfl|rfl|a;exact SK;exact RG;exact VC;exact ZE;exact bJe p a
theorem aQS:jq prog af (find Rk):=⟨aY J9,dB⟩
def bKx(rec:Int):Nat->Int×di->Int×di->aj ((Int×di)×Nat)
 |0,_,_=>aj.cur rec|1,x,_=>(aj.o9 (bD rec 1) 8 []).bind fun b=>.ret (yx x (qh rec b))|_,x,y=>.ret (yx x y)
def rdO(x y:Int×di):Wr:=[(0,none,0,.box 205 [.lit (.int .i64 0),.lit (.string aC)]),(1000,none,0,.box 233 [.lit (.int .i64 x.1),.lit (.string (strOf x.2)),.lit (.int .i64 y.1),.lit (.string (strOf y.2))])]
def rdT(rec:Int)(k:Nat):List (Nat×og×PV):=[(0,none,.w (.one .dv)),(1,none,dw rec),(4,none,dm (.pt 0 0 0)),(5,none,dw 0),(6,none,dm (.pt 1000 0 0)),(11,none,dw k)]
def J6(O:ut)(gm:je->Prop)(rec:Int)(k:Nat)(x y:Int×di)(a:je):St:=⟨rdT rec k,(dx,none,0,.dev O gm a)::rdO x y⟩
def aHE(O:ut)(gm:je->Prop)(rec:Int)(k:Nat)(x y:Int×di)(i:Nat)(b:di)(a:je):St:=⟨(7,none,dw k)::(8,none,dm (.ow 5000 0 1 0 b.length))::(14,none,dw i)::rdT rec k,(dx,none,0,.dev O gm a)::(5000,none,0,.arr 5 1 b.length (oz b))::rdO x y⟩
def KX(rec:Int):Nat->Int×di->di->aj ((Int×di)×Nat)
 |0,_,a=>bKx rec 1 (qh rec a) (0,[])|_,x,b=>.ret (yx x (qh rec b))
theorem bKw{rec:Int}{k:Nat}(a:k<2)(x y:Int×di):bKx rec k x y=(aj.o9 (bD rec k) 8 []).bind (KX rec k x):=by rcases (by omega:k=0\/k=1) with rfl|rfl<;>rfl
theorem bDs{F:Int}{i:Nat}(c:i<8)(b:di){a:Type}(f:di->aj a):(aj.o9 F (8-i) b).bind f=(aj.rd (F+i)).bind fun s=>(aj.o9 F (8-(i+1)) (b++s.data.toList)).bind f:=by have e:8-i=(7-i)+1:=a_;rw[e,aj.o9,aj.bind_assoc,show 7-(7-i)=i from a_,show 8-(i+1)=7-i from a_]
theorem qU(b:di)(i:Nat):∀ x∈oz b i,bT false x=true:=fun x a=>by change x∈[_] at a;rw[List.mem_singleton] at a;subst a;rfl
theorem xP(b:di):(rowB b.length fun i=>oz b (0+i))=b:=by simp only[mf];exact eP b
theorem bQz(a b:Int):decide (Dc a b<0)=decide (a<b):=by
 unfold Dc;by_cases h:a<b;rw[au h,mi h];rfl
 ·rw[ah h,su h]
  split<;>rfl
theorem bDp(rec:Int)(hr:gy rec):bSm prog af 135 (aj.cur rec) [.w (.one .dv),dw rec] (fun p=>.o7 [.agg [.lit (.int .i64 p.1.1),.lit (.string (strOf p.1.2))],.one (.lit (.int .i64 (p.2:Int)))]):=by
 intro O l S;have M:=aQS;refine dL func135 rfl rfl rfl (fun A K N=>?_);generalize E:(fun h=>l <+: h/\h <+: (go O (aj.cur rec) l).2)=gm;refine iC ?_;refine jG ?_;refine aN ?_;refine aW (J6 O gm rec 0 (0,[]) (0,[]) l) ?_ ?_ ?_;exact iq;exact .cons (.dev rfl) ((dU _));refine dX 2 (fun k s=>∃ x y D,s=J6 O gm rec k x y D/\FY O (aj.cur rec) l (bKx rec k x y) D) 0 ⟨_,_,_,rfl,FY.start _ _ _⟩ a_ (fun k s L X=>?_);obtain⟨x,y,D,rfl,F⟩:=L;refine qK ?_;refine cO (fun m=>?_) (fun m=>?_);have z:k<2:=by have:=of_decide_eq_true m;omega
 refine gQ ?_;refine aN ?_;refine iC ?_;refine jG ?_;refine aN ?_;refine bK (s':=aHE O gm rec k x y 0 [] D) (fun a w g=>((g.nilRow (x:=5000) (e:=5) (n:=1) (t:=8) ay ay).reset (kT:=[7,8,14,0,1,4,5,6,11]) (kO:=[900000,5000,0,1000]) ay d_).same ?_ ?_) ?_;exact iq;exact .cons (.dev rfl) (.cons (.arr rfl (fun i P=>absurd P d_)) ((dU _)));rw[bKw z] at F;generalize U:KX rec k x=f at F;refine dX 8 (fun i s=>∃ b u,s=aHE O gm rec k x y i b u/\b.length<=i*1000000/\FY O (aj.cur rec) l ((aj.o9 (bD rec k) (8-i) b).bind f) u) 0 ⟨_,_,rfl,d_,F⟩ a_ (fun i s L P=>?_);obtain⟨b,u,rfl,Q,r⟩:=L;refine qK ?_;refine cO (fun m=>?_) (fun m=>?_);have B:i<8:=by have:=of_decide_eq_true m;omega
 refine gQ ?_;refine aN ?_;refine aI ?_;have d:IntKind.wrap .i64 (bD rec k+(i:Int))=bD rec k+(i:Int):=by have:=aDu rec k;exact dH a_ a_
 rw[bDs B] at r;have T:=S.ans (u++[⟨3,0,bD rec k+(i:Int),aC⟩]);change ((go O (aj.rd (bD rec k+(i:Int))) u).1).size<=1000000 at T;have q:=r.step;refine aS M N K (ay) ai ?_ ?_;simp;rw[d];refine⟨S,fun h c W V=>?_,a_⟩;rw[<-E];exact r.gm h c W V;change kw _ _ _ _ _;refine fJ ?_;intro a w g;refine⟨i+1,_,a_,a_,⟨_,_,rfl,?_,q⟩,(g.reset (kT:=[7,8,14,0,1,4,5,6,11]) (kO:=[900000,5000,0,1000]) ay ?_).same ?_ ?_⟩;rw[gz,nz];change b.length+((go O (aj.rd (bD rec k+(i:Int))) u).1).size<=_;omega;simp only[All,and_true,AC,IR];exact fun i _=>uX (fun _=>rfl) (fun _=>rfl) i;refine .cr (.cons ?_ (.cons (by rw[bW i a_]) ((iT _))));rw[d,gz,nz];rfl;refine .cons (.dev ?_) (.cons (.arr ?_ (fun j Y=>?_)) ((dU _)));show (go O (aj.rd (IntKind.wrap .i64 (bD rec k+(i:Int)))) u).2=_;rw[d];rw[d,gz,nz];rfl;rw[d];exact congrFun (wL b _) j;have B:i=8:=by have:=of_decide_eq_false m;omega
 subst B;have q:FY O (aj.cur rec) l (f b) u:=r;subst U;refine dK ?_;change kw _ _ _ _ _;rcases (by omega:k=0\/k=1) with rfl|rfl;refine aS M N K (ay) ai ?_ ?_;simp
 exact⟨fun i _ x H=>qU b i x H,hr,a_⟩;change kw _ _ _ _ _;refine fJ ?_;intro a w g;refine⟨1,_,a_,a_,⟨qh rec b,y,_,rfl,q⟩,(g.reset (kT:=[0,1,4,5,6,11]) (kO:=[900000,0,1000]) ay d_).same ?_ ?_⟩;exact iq;rw[xP];exact .cons (.dev rfl) ((dU _));refine aS M N K (ay) ai ?_ ?_;simp;exact⟨fun i _ x H=>qU b i x H,hr,a_⟩;change kw _ _ _ _ _;refine fJ ?_;intro a w g;refine⟨2,_,a_,a_,⟨x,qh rec b,_,rfl,q⟩,(g.reset (kT:=[0,1,4,5,6,11]) (kO:=[900000,0,1000]) ay d_).same ?_ ?_⟩;exact iq;rw[xP];exact .cons (.dev rfl) ((dU _))
 ·have z:k=2:=by have:=of_decide_eq_false m;omega
  subst z;have G:go O (aj.cur rec) l=(yx x y,D):=F.2;refine dK ?_;change kw _ _ _ _ _;refine aI ?_;refine aJ (fun m=>?_) (fun m=>?_)
  ·refine aI ?_;have h:x.1=0\/x.1<y.1:=by have c:(bif x.1==0 then true else decide (Dc x.1 y.1<0))=true:=m;rw[bQz] at c;by_cases C:x.1=0;exact .inl C;rw[show (x.1==0)=false from beq_eq_false_iff_ne.2 C] at c;exact .inr (of_decide_eq_true c)
   have e:yx x y=(y,1):=by unfold yx;rw[au h]
   refine bZ (fun a w g=>⟨.inr rfl,_,⟨?_,(fun o J=>by cases J),fun p I=>?_⟩,g⟩);rotate_left 1;cases I;rw[G];rfl;refine aZ (ay) d_ ay ay ?_;rw[G,e];rfl
  ·refine dS ?_
   have h:¬(x.1=0\/x.1<y.1):=by
    have c:(bif x.1==0 then true else decide (Dc x.1 y.1<0))=false:=m;rw[bQz] at c;rintro (C|C);rw[show (x.1==0)=true from beq_iff_eq.2 C] at c;cases c
    ·rw[mi C] at c
     cases Q:(x.1==0)<;>rw[Q] at c<;>cases c
   have e:yx x y=(x,0):=by unfold yx;rw[ah h]
   refine bZ (fun a w g=>⟨.inr rfl,_,⟨?_,(fun o J=>by cases J),fun p I=>?_⟩,g⟩);rotate_left 1;cases I;rw[G];rfl;refine aZ (ay) d_ ay ay ?_;rw[G,e];rfl
def aJP(p:(Int×di)×Nat):PV:=.o7 [.agg [.lit (.int .i64 p.1.1),.lit (.string (strOf p.1.2))],.one (.lit (.int .i64 (p.2:Int)))]
def bQn:ji->Option (Prop×aj ((Int×di)×Nat)×((Int×di)×Nat->PV))
 |[.w (.one (.lit (.int .i64 rec)))]=>some (gy rec,aj.cur rec,aJP)|_=>none
theorem aVy:b_ prog af 135 (oI bQn):=
 rH (aB func135 ai rfl) (fun b c p v h a=>by
  unfold bQn at h;split at h;cases h;exact bDp _ a
  cases h)
def aFT:List (Nat×Spec):=(135,oI bQn)::Rk
theorem X_:∀ p∈aFT,b_ prog af p.1 p.2:=by intro p a;rcases List.mem_cons.1 a with rfl|a;exact aVy;exact J9 p a
theorem aFU:jq prog af (find aFT):=⟨aY X_,dB⟩
def bDo(o:EE):g_:=[.lit (.string o.content),.lit (.int .i64 o.seq),.lit (.int .i64 o.err)]
def bDn(o:EE):PV:=.w (.agg (bDo o))
theorem NQ(rec:Int)(hr:gy rec):bSm prog af 98 (aj.load rec) [.w (.one .dv),dw rec] bDn:=by
 intro O l t;have M:=aFU;refine dL func98 rfl rfl rfl (fun A z B=>?_);have b:aj.load rec=if bD rec 0<0 then .ret ⟨aC,0,1⟩ else (aj.cur rec).bind fun p=>.ret (vY p.1):=rfl
 generalize aj.load rec=k at *;generalize f:(fun h=>l <+: h/\h <+: (go O k l).2)=gm;refine aI ?_;refine aJ (fun c=>?_) (fun c=>?_)
 ·have h:bD rec 0<0:=of_decide_eq_true c;rw[au h] at b;have d:go O k l=(⟨aC,0,1⟩,l):=by rw[b];rfl
  refine aI ?_;refine bZ (fun a w i=>⟨.inr rfl,_,⟨?_,(fun o g=>by cases g),fun p b=>?_⟩,i⟩);rotate_left 1;cases b;rw[d];rfl;refine aZ (ay) d_ ay ay ?_;rw[d];rfl
 ·have h:¬bD rec 0<0:=of_decide_eq_false c;rw[ah h] at b;refine fZ ?_;have j:FY O k l ((aj.cur rec).bind fun p=>.ret (vY p.1)) l:=by rw[b];exact FY.start _ _ _
  have s:=j.step;refine aH ?_ ?_;simp;refine⟨⟨t,hr⟩,fun h y x u=>?_⟩;rw[<-f];exact j.gm h y x u;obtain⟨q,m,n⟩:∃ q m,go O (aj.cur rec) l=(q,m):=⟨_,_,rfl⟩;rw[n] at s;have d:go O k l=(vY q.1,m):=s.2;refine aW (⟨[(4,none,dm (.pt 0 0 0)),(5,none,dm (.pt 3006 0 0))],[(dx,none,0,.dev O gm m),(0,none,0,.box 164 [.lit (.string aC),.lit (.int .i64 0),.lit (.int .i64 0)]),(3006,none,0,.box 205 [.lit (.int .i64 q.1.1),.lit (.string (strOf q.1.2))])]⟩) ?_ ?_ ?_;exact iq;refine .cons (.dev ?_) (.cb (.cons (.box ?_) .nil));show (go O (aj.cur rec) l).2=_;rw[n]
  show[PC.lit (.int .i64 (go O (aj.cur rec) l).1.1.1),PC.lit (.string (strOf (go O (aj.cur rec) l).1.1.2))]=_
  rw[n];refine aJ (fun c=>?_) (fun c=>?_)
  ·refine aI ?_;have r:q.1.1=0:=by simpa using c
   have e:vY q.1=⟨aC,0,13⟩:=au r;refine bZ (fun a w i=>⟨.inr rfl,_,⟨?_,(fun o g=>by cases g),fun p b=>?_⟩,i⟩);rotate_left 1;cases b;rw[d];rfl;refine aZ (ay) d_ ay ay ?_;rw[d,e];rfl
  ·refine dS ?_;have r:¬q.1.1=0:=by simpa using c
   have e:vY q.1=⟨strOf q.1.2,q.1.1,0⟩:=ah r;refine bZ (fun a w i=>⟨.inr rfl,_,⟨?_,(fun o g=>by cases g),fun p b=>?_⟩,i⟩);rotate_left 1;cases b;rw[d];rfl;refine aZ (ay) d_ ay ay ?_;rw[d,e];rfl
end Pv
section
section
variable {P:ed} {f0:aCB} {Q:uk->Act->jg} {a:Act} {w:ae}
def Eh(P:ed)(f0:aCB)(c:Hm)(Q:uk->Act->jg)(a:Act)(w:ae):Prop:=∀ (b:Frame) (k:List Item) (f:List Frame),b.roundOf=none->b.fn=f0->∃ e g d,Q e g d/\ArrivesIn (Machine.fenced P Fence.wide) P (lone (b.atR a (.code c::k)) f w) b k f e g d
theorem aGc{c:Hm}(h:c.wp P Q a w):Eh P f0 c Q a w:=fun b k e d _=>(wpIn_wide (n:=3)).2 h b k e d trivial (room_wide _)
theorem IY{c:Hm}{f:uk->Act->jg}(h:Eh P f0 c Q a w)(i:∀ e a w,Q e a w->f e a w):Eh P f0 c f a w:=fun b k l d j=>
 let ⟨e,m,g,q,r⟩:=h b k l d j
 ⟨e,m,g,i _ _ _ q,r⟩
theorem aVp{x y:Hm}(h:Eh P f0 x (Exit.then (Eh P f0 y Q) Q) a w):Eh P f0 (.seq x y) Q a w:=by
 intro b k o j q;have r:=aCP P (lone (b.atR a (.code (.seq x y)::k)) o w);obtain⟨e,n,i,p,d⟩:=h b (.code y::k) o j q;cases e with
 |normal=>obtain⟨l,m,g,f,c⟩:=p b k o j q;exact⟨l,m,g,f,.of_steps (.head r stepR_seq d) c⟩
 |_=>exact⟨_,n,i,p,.of_steps (.one r stepR_seq) (.pass (x:=.code y) rfl (fun _ _=>.inl d_) d)⟩
theorem bIh{i:Nat}{c:Hm}(h:Eh P f0 c (fun e a w=>match e with|.normal=>Q .normal a w|.panic o=>Q (.panic o) a w|_=>False) a w):Eh P f0 (.block i c) Q a w:=by
 intro b k n j p;have m:=aCP P (lone (b.atR a (.code (.block i c)::k)) n w);obtain⟨e,g,d,l,f⟩:=h b (.inBlock i::k) n j p;cases e with
 |normal=>exact⟨.normal,g,d,l,.head m stepR_block (StepsIn.trans f (.one (aCP _ _) stepR_inBlock))⟩|panic o=>exact⟨_,g,d,l,.of_steps (.one m stepR_block) f⟩|_=>exact l.elim
def bEc(P:ed)(l:Nat)(R:Ending->jg):uk->Act->ae->Prop
 |.normal,_,w=>∃ v b,(Instr.endRound l none).run P w=.ok v b/\R (.returned v) b|.panic chain,a,w=>a.defers=[]/\R (.panicked chain) w|_,_,_=>False
theorem aNp{n l:Nat}{f:aCB}{j:mg}{assign body:Hm}{R:Ending->jg}(H:∃ J,P.funcs[f]?=some J)
  (h:assign.wpIn (Fence.wide.inRound l) n P (Exit.then (fun k m=>∃ i,(Instr.beginRound l).run P m=.ok () i/\body.wpIn (Fence.wide.inRound l) n P (bEc P l R) k i) (fun _ _ _=>False)) { tmps:=j,defers:=[] } w) :
  RoundIn Fence.wide n P l f j assign body w R:=by
 refine⟨trivial,fun c x G=>?_⟩;let b:Frame:={ (default:Frame) with fn:=f,kind:=.normal,roundOf:=some l };have z:Frame.round l f j assign body .normal=b.atR { tmps:=j,defers:=[] } [.code assign,.beginRound,.code body]:=by simp[Frame.round,Frame.atR,b]
 have s:(Fence.wide.inRound l).room ((c::x).length+1+n):=G;obtain⟨e,k,m,D,o⟩:=h b [.beginRound,.code body] (c::x) rfl trivial s;rw[<-z] at o;cases e with
 | normal=>
  obtain⟨i,y,p⟩:=D;have C:StepsIn (Machine.fenced P Fence.wide) P (lone (b.atR k [.beginRound,.code body]) (c::x) m) (lone (b.atR k [.code body]) (c::x) i):=.one (aCP _ _) (stepR_beginRound rfl y);obtain⟨u,E,r,g,d⟩:=p b [] (c::x) rfl trivial s;cases u with
  |normal=>obtain⟨v,q,t,A⟩:=g;exact⟨.returned v,q,A,(StepsIn.trans o C).trans (StepsIn.trans d (.one (aCP _ _) (stepR_round_end rfl rfl t)))⟩
  |panic chain=>obtain⟨I,A⟩:=g;obtain⟨B,F⟩:=d;refine⟨.panicked chain,r,A,(StepsIn.trans o C).trans (StepsIn.trans F (.one (aCP _ _) (step_leave_panicked ⟨rfl,?_,?_⟩)))⟩;exact I;exact H
  |_=>exact g.elim
 |_=>exact D.elim
def bEv(P:ed)(l:Nat)(Q:uk->Act->jg)(d:Act):Ending->ae->Prop
 |.returned _,b=>∃ c,(Instr.endLoop l).run P b=.ok none c/\Q .normal d c|.panicked chain,b=>Q (.panic chain) d b|.outgrown,_=>False
theorem aMz{n:Nat}{g:Operand}{B:Array Tmp}{assign body:Hm}
  (
   h:∃ (l:Nat) (c:List Deferred) (q:ae) (d:Deferred) (i:ae) (f:aCB) (args:mg) (p:ae),
   (Instr.enterLoop f0 a.tmps B assign body none).run P w=.ok (l,c) q/\(resolve a.eval (rangeCall g l) 0).run P q=.ok d i /\
   (invoke d.target d.args).run P i=.ok (.enter f args) p/\CallsIn Fence.wide n P f args p (bEv P l Q { a with defers:=c++a.defers })) :
  Eh P f0 (.rangeFunc g B assign body) Q a w:=by
 intro b k D z G;obtain⟨l,c,q,d,i,f,args,p,C,u,x,H,r⟩:=h;rw[<-z,<-G] at C;have o:=stepR_rangeFunc (P:=P) (b:=b) (a:=a) (k:=k) (cs:=D) (w:=w) C u x;obtain⟨e,t,I,A,j,F,m⟩:=r (b.atR { a with defers:=c++a.defers } (.inRangeFunc l::k)::D) (room_wide _);cases e with
 |outgrown=>exact A.elim|returned v=>obtain⟨s,y,E⟩:=A;refine⟨.normal,_,s,E,.head (aCP _ _) o (StepsIn.trans j (.head (aCP _ _) ?_ (.one (aCP _ _) (stepR_endRangeFunc (b:=b) (a:={ a with defers:=c++a.defers }) (k:=k) y))))⟩;rw[<-finish_atR_inRangeFunc l v];exact step_leave_returned m
 |panicked chain=>refine⟨.panic chain,_,t,A,.inRangeFunc l::k,.head (aCP _ _) o (StepsIn.trans j (.one (aCP _ _) ?_))⟩;rw[<-Frame.raise_atR];exact step_leave_panicked m
theorem aVa{f:aCB}{fn:Func}{c:Hm}{args:mg}{R:Ending->jg}(x:P.funcs[f]?=some fn)(hb:fn.body=some c)
  (h:Eh P f c (bodyPostM Fence.wide 3 P fn R) { tmps:=args++DD (fn.ntmps-args.size) dC,defers:=[] } w):CallsIn Fence.wide 3 P f args w R:=by
 refine⟨trivial,fun y z=>?_⟩;let b:Frame:={ (default:Frame) with fn:=f,kind:=.normal,roundOf:=none };have n:Frame.enter P f args .normal=b.atR { tmps:=args++DD (fn.ntmps-args.size) dC,defers:=[] } [.code c]:=by simp[Frame.enter,Frame.atR,x,hb,b]
 obtain⟨e,p,u,o,d⟩:=h b [] y rfl rfl;rw[<-n] at d;cases e with
 |normal=>obtain⟨t,i,m,s,q,k,r⟩:=leaves_stepsInM p.defers .returning u { b.atR p [] with mode:=.returning } y rfl rfl rfl x rfl trivial z o;exact⟨t,i,m,s,ComesIn.of_steps (StepsIn.trans d (.one (aCP _ _) (stepR_end rfl))) q,k,r⟩
 |ret=>obtain⟨j,g⟩:=d.1 rfl;obtain⟨t,i,m,s,q,k,r⟩:=leaves_stepsInM p.defers .returning u { b.atR p j with mode:=.returning } y rfl rfl rfl x rfl trivial z o;exact⟨t,i,m,s,ComesIn.of_steps g q,k,r⟩
 |panic chain=>obtain⟨j,g⟩:=d;obtain⟨t,i,m,s,q,k,r⟩:=leaves_stepsInM p.defers (.panicking chain) u { b.atR p j with mode:=.panicking chain } y rfl rfl rfl x rfl trivial z o;exact⟨t,i,m,s,ComesIn.of_steps g q,k,r⟩
 |exit id=>exact o.elim|goto l=>exact o.elim|outgrown=>exact⟨.outgrown,u,b,o,d.resolve_left (by simp[b]),rfl,trivial⟩
def KpS(S:uy)(n0:Nat)(W c:ae):Prop:=∀ b,b<n0->¬S b->c.heap[b]?=W.heap[b]?
def QX(P:ed)(gf:aCB)(lb:mg)(encs:Nat->mg)(S:uy)(N:Nat)(w:ae):Prop:=
 ∀ (l:Nat) (J:Nat->jg) (f:List aBG->jg) (W:ae),Below w.heap.size w W->(∀ k A B,J k A->Ext A B->J k B) ->
  (∀ k d,J k d->k<N->YieldAt Fence.wide 1 P l (encs k) d fun e b=>(e=.returned (.bool true)/\J (k+1) b/\KpS S w.heap.size d b)\/∃ c,e=.panicked c/\f c b) ->
  J 0 W->CallsIn Fence.wide 2 P gf (#[.func (.yield l) #[] #[]]++lb) W fun e b=>((∃ v,e=.returned v)/\J N b)\/∃ c,e=.panicked c/\f c b
def Qc(n0:Nat)(W c:ae):Prop:=∀ b o,n0<=b->W.heap[b]?=some o->o.isCells=false->c.heap[b]?=some o
theorem aIm{W:ae}{l:Nat}{o d:Obj}(h:W.heap[l]?=some o)(f:o.isCells=false):Qm W (W.putObj l d):=fun k q b c=>by by_cases e:k=l;subst e;rw[h] at b;cases b;rw[f] at c;cases c;exact (aCL e).trans b
def Two(n0 b:Nat):Prop:=b=n0\/b=n0+1
theorem aZm{n0:Nat}(W:ae){l:Nat}(hl:Two n0 l)(o:Obj):gq (Two n0) W (W.putObj l o):=⟨rfl,rfl,rfl,d_,fun b _ c=>aCL (fun e=>c (e ▸ hl))⟩
theorem bDi{g:Operand}{Y:Array Tmp}{assign body:Hm}{gf:aCB}{lb:mg}{encs:Nat->mg}{S:uy}{N:Nat}
  (hf:∃ fn,P.funcs[f0]?=some fn) (hg:a.eval g=.func (.func gf) #[] lb) (eg:∀ args w,(aAE gf args).run P w=.ok (.enter gf args) w) (G:QX P gf lb encs S N w) (a0:∀ k,(encs k).size=Y.size)
  (J:Nat->jg) (X:∀ k W f,J k W->gq (Two w.heap.size) W f->Qm W f->J k f) (h0:∀ W,Ext w W->w.heap.size+2<=W.heap.size->J 0 W) (Pn:List aBG->jg) (Ax:Nat->Act->Prop)
  (i:∀ (l k:Nat) (W:ae) (K:Act->jg),(∀ E f,Ext W f->Ax k E->K E f)->assign.wpIn (Fence.wide.inRound l) 1 P (Exit.then K (fun _ _ _=>False)) { tmps:=(Y.zip (encs k)).foldl (fun t (p,v)=>t.setIfInBounds p v) a.tmps,defers:=[] } W)
  (
   hbody:∀ (l k:Nat) (E:Act) (W:ae),J k W->Ax k E->k<N->body.wpIn (Fence.wide.inRound l) 1 P (fun e a2 f=>match e with
   |.normal=>J (k+1) f/\KpS S w.heap.size W f/\Qc w.heap.size W f|.panic m=>a2.defers=[]/\Pn m f/\Qc w.heap.size W f|_=>False) E W)
  (hdone:∀ (D:Nat) (W:ae),J N W->W.heap[D]?=some (.deferred (some []))->D=w.heap.size->Q .normal { a with defers:={ target:=.collected D,args:=#[] }::a.defers } W)
  (H:∀ (D:Nat) (m:List aBG) (W:ae),Pn m W->W.heap[D]?=some (.deferred (some []))->D=w.heap.size->Q (.panic m) { a with defers:={ target:=.collected D,args:=#[] }::a.defers } W) :
  Eh P f0 (.rangeFunc g Y assign body) Q a w:=by
 obtain⟨c,d⟩:∃ c:LoopState->Loop,c=fun st=>{ state:=st,pending:=none,fn:=f0,tmps:=a.tmps,params:=Y,assign,body,defers:=w.heap.size }:=⟨_,rfl⟩;obtain⟨s,r⟩:=jc ((w.alloc (.deferred (some []))).alloc (.loop (c .ready)));have V:s.heap[w.heap.size+1]?=some (.loop (c .ready)):=by rw[<-r];have:=World.alloc_heap_new (w.alloc (.deferred (some []))) (.loop (c .ready));rwa [World.size_alloc] at this
 have b0:s.heap[w.heap.size]?=some (.deferred (some [])):=by rw[<-r];exact (Below.heap_alloc _ _ _ d_).trans (World.alloc_heap_new w _)
 have C:Ext w s:=by rw[<-r];exact ((Ext.refl w).alloc _).alloc _
 have T:∀ {A B:ae},Ext A B->Qm A B:=fun h k o z _=>h.blk z
 refine aMz (n:=2) ⟨w.heap.size+1,[{ target:=.collected w.heap.size,args:=#[] }],s,{ target:=.fn (.func gf) lb,args:=#[.func (.yield (w.heap.size+1)) #[] #[]] },s,gf,
  #[.func (.yield (w.heap.size+1)) #[] #[]]++lb,s,?_,?_,?_,?_⟩
 rw[<-r,d];exact run_enterLoop_outer _ _ _ _ _
 ·simp only[resolve,hg];simp[go_sem]
 ·simp[invoke,go_sem,eg]
 refine (G (w.heap.size+1) (fun k W=>J k W/\W.heap[w.heap.size+1]?=some (.loop (c .ready))/\W.heap[w.heap.size]?=some (.deferred (some [])))
  (fun m W=>Pn m W/\W.heap[w.heap.size]?=some (.deferred (some []))) s C.below (fun k A B h j=>⟨X k A B h.1 j.iw (T j),j.blk h.2.1,j.blk h.2.2⟩) ?_ ⟨h0 s C (by have:=lt_of_heap V;omega),V,b0⟩).mono ?_
 rintro k W ⟨hi,F,z⟩ L;have hy:=run_yield (P:=P) (args:=encs k) F (by rw[d];exact a0 k);rw[d] at hy;refine⟨f0,_,assign,body,hy,aNp hf (i _ k W _ ?_)⟩;clear hy;intro E Z j a9;have x:=j.blk F;have a4:=j.blk z;have I:=lt_of_heap x;have a5:=X k W Z hi j.iw (T j);refine⟨_,run_beginRound x (by rw[d]),?_⟩;have a1:(Z.putObj (w.heap.size+1) (.loop { c .ready with state:=.busy })).heap[w.heap.size+1]?=some (.loop { c .ready with state:=.busy }):=World.putObj_heap_same I;have U:(Z.putObj (w.heap.size+1) (.loop { c .ready with state:=.busy })).heap[w.heap.size]?=some (.deferred (some [])):=(aCL a_).trans a4;have a7:=X k _ _ a5 (aZm Z (n0:=w.heap.size) (l:=w.heap.size+1) (.inr rfl) (.loop { c .ready with state:=.busy })) (aIm x rfl);refine wpIn_mono (hbody _ k E _ a7 a9 L) ?_;rintro e a3 W3 hp;cases e with
 |normal=>obtain⟨a6,O,q⟩:=hp;have y:=q _ _ a_ a1 rfl;have a8:=q _ _ (dE _) U rfl;have hr:=run_endRound (P:=P) none y;refine⟨_,_,hr,.inl ⟨rfl,⟨X _ _ _ a6 (aZm W3 (.inr rfl) _) (aIm y rfl),?_,(aCL a_).trans a8⟩,?_⟩⟩;rw[World.putObj_heap_same (lt_of_heap y),d];rfl;intro b hb hn;rw[aCL a_,O b hb hn,aCL a_];exact j.block b (by have:=C.size';have:=lt_of_heap F;omega) (fun h=>h)
 |panic m=>obtain⟨hd,u,q⟩:=hp;exact⟨hd,.inr ⟨m,rfl,u,q _ _ (dE _) U rfl⟩⟩
 |_=>exact hp.elim
 rintro e W2 (⟨⟨v,rfl⟩,hi,F,z⟩|⟨m,rfl,u,z⟩);have he:=run_endLoop (P:=P) F (by rw[d];simp);refine⟨_,?_,hdone w.heap.size (W2.putObj (w.heap.size+1) (.loop { c .ready with state:=.exhausted })) (X _ _ _ hi (aZm W2 (.inr rfl) _) (aIm F rfl)) ((aCL a_).trans z) rfl⟩;rw[he,d];exact H w.heap.size m W2 u z rfl
end
end
section
theorem TT{b:di}{k:Nat}(h:k<nsec b):256*k<b.length:=by unfold nsec at h;omega
theorem TU{b:di}{k:Nat}(h:¬k<nsec b):b.length<=256*k:=by unfold nsec at h;omega
theorem aHg(n:Nat):Lib.repeatL [(0:UInt8)] n=Pi n 0:=by
 induction n with
 |zero=>rfl|succ n a=>rw[Lib.repeatL,a];rfl
theorem JV(b:di)(k n:Nat)(hn:n=256-((b.drop (256*k)).take 256).length):(strOf ((b.drop (256*k)).take 256))++(⟨(Lib.repeatL (ByteArray.mk #[0]).data.toList n).toArray⟩:jy)=strOf (lm b k):=by subst hn;unfold lm;rw[show (ByteArray.mk #[0]).data.toList=[0] from rfl,aHg];apply aFH;rw[ByteArray.data_append];simp[strOf]
theorem aFs{S:uy}{n0 g o:Nat}{W a:ae}{v:ag}(h:KpS S n0 W a)(b:g<n0)(hS:¬S g)(hc:W.cell? ⟨g,o,none⟩=some v):a.cell? ⟨g,o,none⟩=some v:=by have:=h g b hS;unfold World.cell? at hc ⊢;dsimp only at hc ⊢;rw[this];exact hc
attribute [local go_sem] Oper.semAt_some
theorem aWc(b:di)(hb:b.length<=3000)(b0:0<b.length)(B G c:Nat)(S:uy)(w:ae)(F:¬S B)(E:¬S G)
  (h1:w.cell? ⟨B,0,none⟩=some (.slice (some ⟨G,0,none⟩) b.length c)) (a9:b.length<=c) (a8:c<=maxLen) (hB:B<w.heap.size) (hG:G<w.heap.size) (h2:w.rangeAt G 0 (b.map j_)) :
  QX prog 175 #[.pointer (some ⟨B,0,none⟩)] (fun k=>#[.int .i64 (k:Int),.string (strOf (lm b k))]) S (nsec b) w:=by
 intro l J Pn W V hJ hY h0;have y:=Ext.of_below V;have Z:=Ext.jh y h1;have HG:=hide (show W.rangeAt G 0 (b.map j_) from fun j v g=>Ext.jh y (h2 j v g));have d:=hide (az F (az E (az hB hG)));clear h1 h2 y V F E;refine callsIn_wide.2 ?_
 go_enter func175,ntmps175
 go_wp2
 go_loopw [3] (fun i wr=>∃ k:Nat,k<=nsec b/\i=.int .i64 k/\Hid (J k wr/\wr.cell? ⟨B,0,none⟩=some (.slice (some ⟨G,0,none⟩) b.length c)/\wr.rangeAt G 0 (b.map j_))) (fun i _=>nsec b-(intOf i).toNat)
 case atStart=>exact⟨0,x8 _,rfl,hide ⟨h0,Z,aA HG⟩⟩
 case round=>
  obtain⟨k,hk,rfl,s⟩:=hrel;have a6:k<=12:=by have:nsec b<=12:=by { unfold nsec;omega };omega
  have a3:wrap64 ((k:Int)*256)=(k:Int)*256:=by unfold wrap64;omega
  have a2:wrap64 ((k:Int)+1)=(k:Int)+1:=by unfold wrap64;omega
  have a1:wrap64 (((k:Int)+1)*256)=((k:Int)+1)*256:=by unfold wrap64;omega
  have k2:=(aA s).2.1;by_cases x:k<nsec b
  ·have hI:(k:Int)*256<(b.length:Int):=by have:=TT x;omega
   have Q:((b.drop (256*k)).take 256).length=(min (((k:Int)+1)*256) (b.length:Int)).toNat-k*256:=by rw[ww,MM];omega
   have HR:Hid (Reads wr 1 (.slice (some ⟨G,k*256,none⟩) ((min (((k:Int)+1)*256) (b.length:Int)).toNat-k*256) (c-k*256)) ((min (((k:Int)+1)*256) (b.length:Int)).toNat-k*256) (((b.drop (256*k)).take 256).map j_)):=by
    refine hide ⟨by rw[List.length_map,Q,aBq],some ⟨G,k*256,none⟩,_,rfl,a_,a_,fun _=>⟨G,k*256,rfl,fun j v g=>?_⟩⟩
    have X:=(aA s).2.2 (k*256+j) v (by
     rw[aAg] at g ⊢;rw[yf] at g;split at g;rw[aAk] at g;rw[aFA k 256];exact g
     cases g)
    rw[mf] at X;exact X
   generalize H:(b.drop (256*k)).take 256=D at *
   go_upto_region 4 with fail
   generalize a7:c-k*256=cc at *;generalize a4:(min (((k:Int)+1)*256) (b.length:Int)).toNat-k*256=m at *;have a5:m<=256:=a_;have a0:IntKind.wrap .i64 (256-(m:Int))=((256-m:Nat):Int):=(Pv.dH a_ a_).trans a_;have L:Hid (strOf D++(⟨(Lib.repeatL [0] (256-m)).toArray⟩:jy)=strOf (lm b k)):=hide (by have:=JV b k (256-m) (by rw[H,Q]);rw[H] at this;exact this);have b1:¬(9223372036854775807<(strOf D).size+(Lib.repeatL [(0:UInt8)] (256-m)).length):=by rw[aHg,aCG,bC,Q];omega
   have r:=hide (fun w=>aHf (ByteArray.mk #[0]) (256-m) w a_ (by change 1*(256-m)<=_;omega));have Y:=hide (fun W (y:Ext wr W)=>hY k W (hJ _ _ W (aA s).1 y) x);have I:∀ N,Ext wr N->(convert 74 9 (.slice (some ⟨G,k*256,none⟩) m cc)).run prog N=.ok (.string (strOf D)) N:=fun N y=>aDh underlying74 underlying5 underlying9 ((aA HR).ext y);refine (wpIn_wide (n:=2)).1 ?_;refine wpIn_region_any ai ?_;change wpAnyIn _ _ _ _ _ _ _ _ _ (World.drew _)
   (refine aDm (i:=0) (v:=?_) rfl rfl ai ai ai (fun _ _ _ h=>h) ⟨Or.inl ⟨ay,?_⟩,fun _=>rfl⟩ ?_;rotate_left;focus ((intro w;go_simp);try with_reducible rfl))
   (refine aDm (i:=1) (v:=?_) rfl rfl ai ai ai (fun _ _ _ h=>h) ⟨Or.inl ⟨ay,?_⟩,fun _=>rfl⟩ ?_;rotate_left;focus ((intro w;go_simp);try with_reducible rfl))
   (refine aDm (i:=2) (v:=?_) rfl rfl ai ai ai (fun _ _ _ h=>h) ⟨Or.inl ⟨ay,?_⟩,fun _=>rfl⟩ ?_;rotate_left;focus ((intro w;go_simp);try with_reducible rfl))
   (refine aDm (i:=4) (v:=?_) rfl rfl ai ai ai (fun _ _ _ h=>h) ⟨Or.inl ⟨ay,?_⟩,fun _=>rfl⟩ ?_;rotate_left;focus ((intro w;go_simp);try with_reducible rfl))
   (refine aDm (i:=5) (v:=?_) rfl rfl ai ai ai (fun _ _ _ h=>h) ⟨Or.inl ⟨ay,?_⟩,fun _=>rfl⟩ ?_;rotate_left;focus ((intro w;go_simp);try with_reducible rfl))
   (refine aDm (i:=6) (v:=?_) rfl rfl ai ai ai (fun _ _ _ h=>h) ⟨Or.inl ⟨ay,?_⟩,fun _=>rfl⟩ ?_;rotate_left;focus ((intro w;go_simp);try with_reducible rfl))
   refine wpAnyIn_ready (rs:=[3,7]) ai d_ (AllReadyIn.cons rfl (fun K a=>?_) (AllReadyIn.cons rfl (fun K a=>?_) AllReadyIn.nil))
   ·go_simp;rw[I _ ((Ext.refl _).drew)]
    go_simp;refine a _ _ ?_;clear a K;refine wpAnyIn_ready (rs:=[7]) ai d_ (AllReadyIn.cons rfl (fun K a=>?_) AllReadyIn.nil)
    go_simp;refine⟨trivial,(callsIn_wide.2 (aA r _)).mono ?_⟩
    rintro e O ⟨rfl,p⟩;have t:=hide (((Ext.refl wr).drew).trans (Ext.of_below p));clear p;refine a _ _ ?_;clear a K;refine aDm (i:=8) (v:=.string (strOf D++(⟨(Lib.repeatL [0] (256-m)).toArray⟩:jy))) rfl rfl ai ai ai (fun _ _ _ h=>h) ⟨Or.inl ⟨ay,fun w=>?_⟩,fun _=>rfl⟩ ?_
    ·go_simp
    rw[aA L];refine wpAnyIn_ready (rs:=[9]) ai d_ (AllReadyIn.cons rfl (fun K a=>?_) AllReadyIn.nil);obtain⟨fn,C,q,body,P,T⟩:=aA Y O (aA t);go_simp;clear P;refine T.mono ?_;rintro e z (⟨rfl,o,f⟩|⟨U,rfl,u⟩)
    ·have A:=hide (show J (k+1) z/\z.cell? ⟨B,0,none⟩=some (.slice (some ⟨G,0,none⟩) b.length c)/\z.rangeAt G 0 (b.map j_) from
      ⟨o,aFs f (aA d).2.2.1 (aA d).1 (Ext.jh (aA t) (aA s).2.1),fun j v g=>aFs f (aA d).2.2.2 (aA d).2.1 (Ext.jh (aA t) ((aA s).2.2 j v g))⟩)
     clear o f;refine a _ _ ?_;clear a K
     (refine aDm (i:=10) (v:=?_) rfl rfl ai ai ai (fun _ _ _ h=>h) ⟨Or.inl ⟨ay,?_⟩,fun _=>rfl⟩ ?_;rotate_left;focus ((intro w;go_simp);try with_reducible rfl))
     refine wpAnyIn_done ai ?_ _
     go_wp2
     go_roundw
     case rel=>exact⟨k+1,a_,by go_num,A⟩
     case measure=>simp[intOf];omega
    exact⟨rfl,.inr ⟨U,rfl,u⟩⟩
   ·go_simp;refine⟨trivial,(callsIn_wide.2 (aA r _)).mono ?_⟩
    rintro e O ⟨rfl,p⟩;have t:=hide (((Ext.refl wr).drew).trans (Ext.of_below p));clear p;refine a _ _ ?_;clear a K;refine wpAnyIn_ready (rs:=[3]) ai d_ (AllReadyIn.cons rfl (fun K a=>?_) AllReadyIn.nil);go_simp;rw[I _ (aA t)];go_simp;refine a _ _ ?_;clear a K;refine aDm (i:=8) (v:=.string (strOf D++(⟨(Lib.repeatL [0] (256-m)).toArray⟩:jy))) rfl rfl ai ai ai (fun _ _ _ h=>h) ⟨Or.inl ⟨ay,fun w=>?_⟩,fun _=>rfl⟩ ?_
    ·go_simp
    rw[aA L];refine wpAnyIn_ready (rs:=[9]) ai d_ (AllReadyIn.cons rfl (fun K a=>?_) AllReadyIn.nil);obtain⟨fn,C,q,body,P,T⟩:=aA Y O (aA t);go_simp;clear P;refine T.mono ?_;rintro e z (⟨rfl,o,f⟩|⟨U,rfl,u⟩)
    ·have A:=hide (show J (k+1) z/\z.cell? ⟨B,0,none⟩=some (.slice (some ⟨G,0,none⟩) b.length c)/\z.rangeAt G 0 (b.map j_) from
      ⟨o,aFs f (aA d).2.2.1 (aA d).1 (Ext.jh (aA t) (aA s).2.1),fun j v g=>aFs f (aA d).2.2.2 (aA d).2.1 (Ext.jh (aA t) ((aA s).2.2 j v g))⟩)
     clear o f;refine a _ _ ?_;clear a K
     (refine aDm (i:=10) (v:=?_) rfl rfl ai ai ai (fun _ _ _ h=>h) ⟨Or.inl ⟨ay,?_⟩,fun _=>rfl⟩ ?_;rotate_left;focus ((intro w;go_simp);try with_reducible rfl))
     refine wpAnyIn_done ai ?_ _
     go_wp2
     go_roundw
     case rel=>exact⟨k+1,a_,by go_num,A⟩
     case measure=>simp[intOf];omega
    exact⟨rfl,.inr ⟨U,rfl,u⟩⟩
  ·have hI:¬(k:Int)*256<(b.length:Int):=by have:=TU x;omega
   obtain rfl:k=nsec b:=a_
   go_wp2
   go_end0
   exact .inl ⟨⟨_,rfl⟩,(aA s).1⟩
end
namespace Pv
def aMN(P:ed)(I:jg)(f:Nat)(os:List Ob)(args:ji)(i:Sum PV (List aBG)):Prop:=
 ∀ (w:ae) (a:uy) (j:jl) (c:Nat->Nat),
  (∀ d,gq (SX os c Dv.non) w d->I d)->(∀ b,SX os c Dv.non b->b<w.heap.size/\¬a b) ->
  (∀ o∈os,∃ h,eu w (c o.x) o.t h/\RL { w,ok:=a,env:=fun _=>none } o.l h.toList)->(∀ o∈os,∀ k∈os,c o.x=c k.x->o.x=k.x) ->
  pq { w,ok:=a,env:=AX os c none Dv.non.hd } args j ->
  lL P f j.toArray w fun e d=>gq (SX os c Dv.non) w d/\(∀ o∈os,∃ h,eu d (c o.x) o.t h/\RL { w:=d,ok:=rJ w a false,env:=fun _=>none } o.l' h.toList) /\
   match i with
   |.inl r=>∃ g,e=.returned g/\RV { w:=d,ok:=rJ w a false,env:=fun _=>none } r g|.inr chain=>e=.panicked chain
def aAV(os:List Ob)(s:St):Prop:=∀ o∈os,∃ l,find s.o o.x=some (none,0,.box o.t l)/\IK s false l o.l'
def RQB(P:ed)(A:o_)(fn:Func)(os:List Ob)(b:Sum PV (List aBG)):uk->Act->ae->Prop
 |.panic chain,a,w=>a.defers=A.ds/\b=.inr chain/\∃ s,aAV os s/\qj A s a w|e,a,w=>(e=.normal\/e=.ret)/\∃ r,b=.inl r/\∃ s,(VI P fn false r s/\aAV os s)/\qj A s a w
theorem UT{P:ed}{I:jg}{f:Nat}{fn:Func}{c:Hm}{os:List Ob}{args:ji}{L:Sum PV (List aBG)}(hf:P.funcs[f]?=some fn)(hb:fn.body=some c)(a5:aBT args.length fn.ntmps=true)
  (a2:(os.all fun o=>Nat.blt dx o.x)=true)
  (hT:∀ A:o_,A.nt=fn.ntmps->l_ P I A->kw P A ⟨slots 0 args,os.map (fun o=>(o.x,none,0,.box o.t o.l))⟩ c (RQB P A fn os L)):aMN P I f os args L:=by
 intro w B vs z hM S a3 U hv;obtain⟨hA,hg⟩:=aCu (fn:=fn) (O:=fun _=>none) (dev:=none) (gm:=fun _=>False) (X0:=fun _=>True) (D:=Dv.non) a5 a2 hM S (qw.non P) (fun _ _ _ _ _ _ h=>h.elim) rfl (fun p hp=>by cases hp) (fun _=>⟨fun _ h=>h,fun _ _ _ h=>h⟩) (fun o y=>⟨trivial,a3 o y⟩) U hv;generalize k:(⟨w,SX os z Dv.non,B,fn.ntmps,xx os z none Dv.non.hd,Dv.non,fun _=>False,fun _=>True,[]⟩:o_)=A at hA hg
 have N:∀ (s:St) (K:Act) (u:ae) (d:Env),aAV os s->ig A s K u d->Dj A s d/\∀ o∈os,∃ cs,eu u (z o.x) o.t cs/\RL { w:=u,ok:=rJ w B false,env:=fun _=>none } o.l' cs.toList:=by
  intro s K u d j i;subst k
  have E:∀ o∈os,d o.x=some (0,kJ (z o.x)):=fun o y=>by
   obtain⟨l,m,_⟩:=j o y;obtain⟨J,Y,_⟩:=i.lu o.x none 0 _ m;have h9:xx os z none Dv.non.hd o.x=some (kJ (z o.x)):=by unfold xx;rw[aCj y]
   have:=(i.pg o.x _ h9).2.now Y;rw[Y,this]
  have Z:Dj (⟨w,SX os z Dv.non,B,fn.ntmps,xx os z none Dv.non.hd,Dv.non,fun _=>False,fun _=>True,[]⟩:o_) s d:=by intro x g a0 e n len f0 J b V a6 a7 hs;rcases hs with hs|⟨o,y,rfl⟩;exact hs.elim;obtain⟨l,m,_⟩:=j o y;have:=i.inj x o.x a0 J 0 _ (z o.x) a6 (E o y) a7 rfl;subst this;rw[m] at V;cases V
  refine⟨Z,fun o y=>?_⟩;obtain⟨l,m,hx⟩:=j o y;obtain⟨J,Y,h9⟩:=i.lu o.x none 0 _ m;obtain⟨g,cs,e1,a9,a8⟩:=h9 trivial;rw[E o y] at Y;cases Y;cases e1;exact⟨cs,a9,aUg i Z hx a8⟩
 have C:∀ {s:St} {K:Act} {u:ae} {d:Env},ig A s K u d->gq (SX os z Dv.non) w u:=by intro s K u d i;subst k;exact i.iw
 have a4:A.nt=fn.ntmps:=by subst k;rfl
 have a1:A.gm=fun _=>False:=by subst k;rfl
 have X:A.ds=[]:=by subst k;rfl
 refine calls_of_wp hf hb (wp_mono (hT A a4 hA _ w hg (fun H a w J h=>?_)) (fun e K u W=>?_));obtain⟨l,q,_⟩:=h;rw[a1] at q;exact q.elim;cases e with
 |panic H=>obtain⟨J,rfl,s,j,d,i⟩:=W;exact⟨J.trans X,C i,(N s _ _ d j i).2,rfl⟩
 |exit id=>obtain⟨q|q,_⟩:=W<;>cases q
 |goto _=>obtain⟨q|q,_⟩:=W<;>cases q
 |outgrown=>obtain⟨q|q,_⟩:=W<;>cases q
 | normal|ret=>
  obtain⟨_,r,rfl,s,⟨⟨v,h2,h3⟩,j⟩,d,i⟩:=W;obtain⟨v',F,h5,h6,h7,_⟩:=vN i h2;subst h7;obtain⟨Z,T⟩:=N s _ _ d j i;have Q:=aUf i Z h3 h6;have G:RV { w:=u,ok:=rJ w B false,env:=fun _=>none } r F:=by subst k;exact Q
  exact⟨i.defers.trans X,F,h5,C i,T,F,rfl,G⟩
def RX(A:o_)(new:Bool)(O:ut)(H:je)(gm:je->Prop)(c:PV)(e:Ending)(w':ae):Prop:=gq A.dv.S A.w0 w'/\((∃ b,e=.returned b/\RV { w:=w',ok:=rJ A.w0 A.ok0 new,env:=fun _=>none } c b/\A.dv.inv H A.X0 w')\/∃ a l,e=.panicked a/\gm l/\O l=none/\A.dv.pan l A.X0 w' a)
theorem OZ{P:ed}{I:jg}{f:Nat}{fn:Func}{c:Hm}{new:Bool}{O:ut}{y H:je}{gm:je->Prop}{args:ji}{d:PV}(G:P.funcs[f]?=some fn)(hb:fn.body=some c)(t:aBT args.length fn.ntmps=true)
  (J:∀ A:o_,A.nt=fn.ntmps->l_ P I A->A.dv.O=O->A.gm=gm->((∀ b,A.S b↔A.dv.S b)/\A.ds=[])->∀ a,qj A ⟨slots 0 args,[(dx,none,0,.dev O gm y)]⟩ a A.w0->Eh P f c (bodyPostM Fence.wide 3 P fn (RX A new O H gm d)) a A.w0):y_ P I f new [] O (some (y,H)) gm args d:=by
 intro w B Z X D X0 L g k l z u r m i C;obtain⟨N,F⟩:=aCu (fn:=fn) (gm:=gm) t rfl L g k l z u r m i C;have K:∀ b,SX [] X D b↔D.S b:=fun b=>⟨fun h=>h.elim id (fun⟨o,q,_⟩=>by cases q),.inl⟩;refine (callsIn_wide (n:=3)).1 ((aVa G hb (J _ rfl N z rfl ⟨K,rfl⟩ _ F)).mono ?_);rintro e Y ⟨W,V⟩;refine⟨W.mono fun b _ h=>.inl h,?_⟩;rcases V with⟨j,x,U,T⟩|x;exact .inl ⟨j,x,U,(fun o q=>by cases q),(fun p E=>by cases E;exact T)⟩;exact .inr x
def Ea(P:ed)(f0:aCB)(A:o_)(s:St)(c:Hm)(Q:uk->Act->jg):Prop:=∀ a w,qj A s a w->Di A Q->Eh P f0 c Q a w
section
variable {P:ed} {f0:aCB} {A:o_} {s:St} {Q:uk->Act->jg}
def bBX(P:ed)(f0:aCB)(A:o_)(c:Hm)(Q:uk->Act->jg):Act->ae->Prop:=fun a w=>Di A Q->Eh P f0 c Q a w
theorem aFh{x y:Hm}(h:kw P A s x (Exit.then (bBX P f0 A y Q) Q)):Ea P f0 A s (.seq x y) Q:=fun a w d b=>aVp (IY (aGc (h a w d b)) (fun e g f c=>by cases e<;>first|exact c|exact c b))
theorem bIw{c:Hm}{a:Act}{w:ae}(h:Ea P f0 A s c Q)(d:qj A s a w)(b:Di A Q):Eh P f0 c Q a w:=h a w d b
theorem aRa{s':St}{c:Hm}(h:∀ a w,qj A s a w->qj A s' a w)(e:Ea P f0 A s' c Q):Ea P f0 A s c Q:=fun a w d b=>e a w (h a w d) b
theorem yT{P:ed}{I:jg}{G:Specs}{f0:aCB}{A:o_}{s s':St}{Q:uk->Act->jg}(M:jq P I G)(hI:l_ P I A){f:Nat}(d:A.nt=f){c:Nat}{ops:Array Oper}{b:Bool}{outs:List (Option Nat×Out)}{y:Hm}(h:jL (rM P G c ops.toList) 0 ops.toList s=some (outs,s'))(e:(fP b ops.toList outs&&uD f ops.toList)=true)(hc:All ((outs.map fun q=>q.2.conds).flatten))(i:Ea P f0 A s' y Q):Ea P f0 A s (.seq (.region c ops b) y) Q:=aFh (aS M hI d h e hc (fun a w g=>i a w g))
theorem bFc(P:ed)(A:o_)(fn:Func)(O:ut)(H:je)(gm:je->Prop)(new:Bool)(d:PV)(f:A.dv.O=O)(hs:A.gm=gm)(hS:(∀ b,A.S b↔A.dv.S b)/\A.ds=[]):Di A (bodyPostM Fence.wide 3 P fn (RX A new O H gm d)):=by rintro c a w e ⟨l,k,j,i,g⟩;show LeavesInM Fence.wide 3 P fn a.tmps _ a.defers (.panicking c) w;rw[e,hS.2];exact⟨g.mono fun b _ h=>(hS.1 b).1 h,.inr ⟨c,l,rfl,by rw[<-hs];exact k,by rw[<-f];exact j,i⟩⟩
theorem aHb{P:ed}{A:o_}{fn:Func}{O:ut}{H:je}{gm:je->Prop}{new:Bool}{d:PV}{s:St}(hS:(∀ b,A.S b↔A.dv.S b)/\A.ds=[])(h:VI P fn new d s)(hd:find s.o dx=some (none,0,.dev O gm H)){a:Act}{w:ae}(t:qj A s a w):bodyPostM Fence.wide 3 P fn (RX A new O H gm d) .ret a w:=by
 obtain⟨v,E,D⟩:=h;obtain⟨p,i⟩:=t;obtain⟨F,c,C,B,z,_⟩:=vN i E;subst z;obtain⟨_,_,q⟩:=i.dev none 0 _ _ _ hd trivial;have m:Dj A s p:=by intro x g j e n len f0 hd b u k l r;exact A.dv.notS _ _ _ _ q (.inr ⟨x,j,hd,k,l⟩) ((hS.1 b).1 r)
 have f:=aUf i m D B;show LeavesInM Fence.wide 3 P fn a.tmps _ a.defers .returning w;rw[i.defers,hS.2];exact⟨c,C,i.iw.mono fun b _ h=>(hS.1 b).1 h,.inl ⟨c,rfl,f,A.dv.grow _ _ _ _ _ q (gq.refl _ _) (fun b y=>.inl (.inl y))⟩⟩
theorem qj.Ce{A:o_}{s:St}{a:Act}{w:ae}{env:Env}(h:ig A s a w env){t x:Nat}{ty:bu}{l:g_}(d:find s.t t=some (none,dm (.pt x 0 0)))(e:find s.o x=some (none,0,.box ty l)) :
  ∃ g b,a.tmps[t]?=some (.pointer (some ⟨g,0,none⟩))/\env x=some (0,kJ g)/\eu w g ty b/\RL (aP A w env) l b.toList:=by
 obtain⟨v,m,k⟩:=h.tmps t none _ d trivial;obtain⟨p,c,j⟩:=h.lu x none 0 _ e;obtain⟨g,b,rfl,i,f⟩:=j trivial;obtain⟨q,n,rfl⟩:=RV.Ba k c;cases n;exact⟨_,b,m,c,i,f⟩
def BG(F:Int)(b:di)(i:Nat):Acc:=⟨4,0,F+(i:Int),strOf (lm b i)⟩
def hist(F:Int)(b:di)(lz:je)(k:Nat):je:=lz++(yz (k-1)).map fun j=>BG F b (1+j)
theorem bBw(F:Int)(b:di)(lz:je):hist F b lz 1=lz:=AC _
theorem qA(F:Int)(b:di)(lz:je):hist F b lz 0=lz:=AC _
theorem aCr(F:Int)(b:di)(lz:je)(k:Nat)(a:0<k):hist F b lz (k+1)=hist F b lz k++[BG F b k]:=by obtain⟨m,rfl⟩:∃ m,k=m+1:=⟨k-1,a_⟩;unfold hist;rw[show m+1+1-1=m+1 from rfl,show m+1-1=m from rfl,List.range_succ,aBc,GM,aBS m 1];rfl
theorem aAx(F:Int)(b:di)(lz:je){k m:Nat}(h:k<=m):hist F b lz k <+: hist F b lz m:=by
 induction m with
 |zero=>obtain rfl:k=0:=a_;exact aCX _
 |succ m c=>
  rcases aAW m k with a|a
  obtain rfl:k=m+1:=a_;exact aCX _;refine (c a).trans ?_;rcases aCE m with rfl|d;rw[qA,bBw];exact aCX _;rw[aCr F b lz m d];exact aBW _ _
theorem OO(O:ut)(F:Int)(b:di):∀ (n i:Nat) (l:je),(go O (aj.Fh F b n i) l).2=l++(yz n).map fun j=>BG F b (i+j)
 |0,i,l=>(AC _).symm|n+1,i,l=>by rw[aj.Fh,aAy,OO O F b n (i+1),List.range_succ_eq_map,aAJ,List.map_map];show (l++[BG F b i])++_=_;rw[GM];congr 1;rw[aBK];show BG F b i::_=_;congr 1;refine List.map_congr_left fun j _=>?_;show BG F b (i+1+j)=BG F b (i+(j+1));congr 1;omega
theorem bQv(rec:Int):aj.All (fun p:(Int×di)×Nat=>(0<=p.1.1/\p.1.1<=1099511627776)/\(p.2=0\/p.2=1)) (aj.cur rec):=by refine (aj.All.AP _).bind fun a _=>(aj.All.AP _).bind fun b _=>?_;show _/\_;unfold yx;split;exact⟨uV _ _,.inr rfl⟩;exact⟨uV _ _,.inl rfl⟩
theorem bIf{A:o_}(hI:l_ prog af A){l:je}{X:uy}{w:ae}(r:A.dv.inv l X w)(hS:∀ b,A.S b↔A.dv.S b)(hc:gq A.dv.S A.w0 w)(k:Int)(b:jy)(j:∀ c,l <+: c->c <+: l++[⟨4,0,k,b⟩]->A.dv.O c=none->A.gm c) :
  lL prog 140 #[A.dv.hd,.int .i64 k,.string b] w fun e f=>gq A.dv.S w f /\
   ((∃ v,e=.returned v/\A.dv.inv (l++[⟨4,0,k,b⟩]) X f)\/∃ a c,e=.panicked a/\(l <+: c/\c <+: l++[⟨4,0,k,b⟩])/\A.dv.O c=none/\A.dv.pan c X f a):=by
 have d:∀ b,SX [] (fun _=>0) A.dv b->A.dv.S b:=by rintro b (h|⟨o,g,_⟩);exact h;cases g
 refine ((IU (I:=af) k b A.dv.O l) w (fun _=>False) [A.dv.hd,.int .i64 k,.string b] (fun _=>0) A.dv X
  (fun f h=>hI.mem f ((hc.mono fun b _ h=>(hS b).2 h).trans (h.mono fun b _ h=>(hS b).2 (d b h))))
  (fun b s=>⟨aAF (hI.old b ((hS b).2 (d b s))).1 hc.size,fun h=>h⟩) (hI.step.mono fun q i n=>j q i.1 i.2 n) hI.DV rfl (fun p j=>by cases j;exact r) (fun h=>by cases h) (fun o g=>by cases g) (fun o g=>by cases g)
  ⟨.w (.one (.dv A.dv.one ⟨0,A.dv.hd,rfl,dE _,fun _=>rfl⟩)),.w (.one (.lit rfl)),.w (.one (.lit rfl)),trivial⟩).mono ?_
 rintro e f ⟨i,n⟩;refine⟨i.mono fun b _ h=>d b h,?_⟩;rcases n with⟨v,rfl,_,_,m⟩|⟨a,c,rfl,m,u,t⟩;exact .inl ⟨v,rfl,m _ rfl⟩;exact .inr ⟨a,c,rfl,m,u,t⟩
structure Qx(A:o_)(X:uy)(n0 g3 g6 g10 g11:Nat)(F:Int)(b:di)(lz:je)(k:Nat)(W:ae):Prop where
 iw:gq A.dv.S A.w0 W
 inv:A.dv.inv (hist F b lz k) X W
 b3:eu W g3 116 #[A.dv.hd]
 b6:eu W g6 164 #[.string aC,.int .i64 0,.int .i64 0]
 b10:eu W g10 3 #[.int .i64 F]
 b11:eu W g11 9 #[.string (if k=0 then aC else strOf (lm b 0))]
 sz:n0<=W.heap.size
variable {X:uy} {n0 g3 g6 g10 g11:Nat} {F:Int} {b:di} {lz:je} {k:Nat} {W W':ae}
theorem Qx.keep(h:Qx A X n0 g3 g6 g10 g11 F b lz k W){n1:Nat}(h0:A.w0.heap.size<=n1)(h1:∀ i,Two n1 i->X i)(hc:gq (Two n1) W W')(hk:Qm W W'):Qx A X n0 g3 g6 g10 g11 F b lz k W' where
 iw:=h.iw.trans' hc (fun _ _ h=>h) (fun i hi hn=>by rcases hn with h|h<;>omega)
 inv:=A.dv.grow _ _ _ _ _ h.inv (hc.mono fun i _ hn=>h1 i hn) (fun i hi=>.inl hi)
 b3:=hk.blk h.b3
 b6:=hk.blk h.b6
 b10:=hk.blk h.b10
 b11:=hk.blk h.b11
 sz:=ry h.sz hc.size
theorem Qx.notS(h:Qx A X n0 g3 g6 g10 g11 F b lz k W){i:Nat}(a:X i):¬A.dv.S i:=A.dv.notS _ _ _ _ h.inv a
theorem Qx.wrote(h:Qx A X n0 g3 g6 g10 g11 F b lz k W)(h3:X g3)(h6:X g6)(h10:X g10)(h11:X g11)(hk:0<k)(hc:gq A.dv.S W W')(hi:A.dv.inv (hist F b lz k++[BG F b k]) X W'):Qx A X n0 g3 g6 g10 g11 F b lz (k+1) W' where
 iw:=h.iw.trans hc
 inv:=by rw[aCr _ _ _ _ hk];exact hi
 b3:=h.b3.iw hc (h.notS h3)
 b6:=h.b6.iw hc (h.notS h6)
 b10:=h.b10.iw hc (h.notS h10)
 b11:=by
  have:=h.b11.iw hc (h.notS h11);rw[ah a_] at this ⊢;exact this
 sz:=ry h.sz hc.size
end
theorem aKO(a:Act)(h:a.tmps.size=65)(hd:a.defers=[]):∃ u0 u1 u2 u3 u4 u5 u6 u7 u8 u9 b1 b0 a9 a8 a7 a6 a5 a4 a3 a2 a1 a0 Z Y X W V U T S Q P O N K J I H G F E D C B A z y x w u t s r q p o n m k j g f e c b,a={ tmps:=#[u0,u1,u2,u3,u4,u5,u6,u7,u8,u9,b1,b0,a9,a8,a7,a6,a5,a4,a3,a2,a1,a0,Z,Y,X,W,V,U,T,S,Q,P,O,N,K,J,I,H,G,F,E,D,C,B,A,z,y,x,w,u,t,s,r,q,p,o,n,m,k,j,g,f,e,c,b],defers:=[] }:=by
 obtain⟨⟨L⟩,d⟩:=a;obtain rfl:d=[]:=hd;have hL:L=(yz 65).map fun i=>L.getD i dC:=by apply aBR;simpa using h;intro i h1 h2;rw[aCI,aCA,zG,zH h1];rfl
 exact⟨L.getD 0 dC,L.getD 1 dC,L.getD 2 dC,L.getD 3 dC,L.getD 4 dC,L.getD 5 dC,L.getD 6 dC,L.getD 7 dC,L.getD 8 dC,L.getD 9 dC,L.getD 10 dC,L.getD 11 dC,L.getD 12 dC,L.getD 13 dC,L.getD 14 dC,L.getD 15 dC,L.getD 16 dC,L.getD 17 dC,L.getD 18 dC,L.getD 19 dC,L.getD 20 dC,L.getD 21 dC,L.getD 22 dC,L.getD 23 dC,L.getD 24 dC,L.getD 25 dC,L.getD 26 dC,L.getD 27 dC,L.getD 28 dC,L.getD 29 dC,L.getD 30 dC,L.getD 31 dC,L.getD 32 dC,L.getD 33 dC,L.getD 34 dC,L.getD 35 dC,L.getD 36 dC,L.getD 37 dC,L.getD 38 dC,L.getD 39 dC,L.getD 40 dC,L.getD 41 dC,L.getD 42 dC,L.getD 43 dC,L.getD 44 dC,L.getD 45 dC,L.getD 46 dC,L.getD 47 dC,L.getD 48 dC,L.getD 49 dC,L.getD 50 dC,L.getD 51 dC,L.getD 52 dC,L.getD 53 dC,L.getD 54 dC,L.getD 55 dC,L.getD 56 dC,L.getD 57 dC,L.getD 58 dC,L.getD 59 dC,L.getD 60 dC,L.getD 61 dC,L.getD 62 dC,L.getD 63 dC,L.getD 64 dC,congrArg (fun l=>({ tmps:=l.toArray,defers:=[] }:Act)) hL⟩
theorem aGz{C:Ctx}:∀ {b a:jl},RL C (b.map PC.lit) a->a=b
 |[],_,h=>by cases h;rfl| v::b,_,h=>by
  cases h with
  |cons d c=>
   rename_i a e;have:a=[v]:=by cases d;rfl
   rw[this,aGz c];rfl
theorem aAm{C:Ctx}{vs:jl}{cs:mg}(h:RL C (vs.map PC.lit) cs.toList):cs=vs.toArray:=by rw[<-aGz h]
theorem aGV{C:Ctx}{cs:mg}{v:ag}(h:RL C [.dv] cs.toList)(g:∀ a b,C.env dx=some (a,b)->0=a/\b=v):cs=#[v]:=by
 have c:=h.single;generalize f:cs.toList=m at c;cases c with
 |dv o l=>rename_i d;obtain⟨a,b,i,n,k⟩:=l;obtain⟨rfl,e⟩:=g a b i;have j:d=v:=(k rfl).trans e;subst j;rw[<-f]
theorem bNc{A:o_}{s:St}{a:Act}{w:ae}{env:Env}(h:ig A s a w env){t:Nat}{v:ag}(e:find s.t t=some (none,qc v)):a.tmps[t]?=some v:=by obtain⟨c,g,f⟩:=h.tmps t none _ e trivial;have b:=f.inv;generalize d:[c]=i at b;cases b;cases d;exact g
theorem P8(rec seq:Int)(c:jy)(h1:gy rec)(h2:gy seq)(hc:c.size<=3000)(w:ae)(E:af w):lL prog 143 #[.int .i64 rec,.int .i64 seq,.string c] w fun e f=>
  ∃ G cap,e=.returned (.slice (some ⟨G,0,none⟩) (encS rec seq c.data.toList).length cap)/\Ext w f/\w.heap.size<=G/\G<f.heap.size/\(encS rec seq c.data.toList).length<=cap/\cap<=maxLen/\f.rangeAt G 0 ((encS rec seq c.data.toList).map j_):=by
 have r:0<(encS rec seq c.data.toList).length:=by rw[nU];omega
 refine (aMh rec seq c h1 h2 hc w (fun _=>False) [.int .i64 rec,.int .i64 seq,.string c] E ⟨.w (.one (.lit rfl)),.w (.one (.lit rfl)),.w (.one (.lit rfl)),trivial⟩).mono ?_;rintro e f ⟨u,d,rfl,F,o,y⟩;generalize encS rec seq c.data.toList=b at *
 have k:d=b.map j_:=by
  apply aAX;intro i;have s:=o.1;rcases aAW i b.length with a|a;have h:=y { w:=w,ok:=fun _=>False,env:=fun _=>none } i a;rw[aBq] at h
  have B:(d.drop i).take 1=[d[i]'(a_)]:=by rw[aEz a_];rfl
  rw[B] at h;unfold oz at h;have t:=h.single;generalize l:d[i]'(a_)=x at t;cases t with
  |lit _=>rw[zH a_,l,aAg,zH a,zG,zH a];rfl
  rw[PR a_,PR (by simpa using a)]
 subst k;have n:=o;rcases o.2 with⟨_,H⟩|⟨g,cap,cur,rfl,D,A,p,q,C,m⟩;omega
 refine⟨g,cap,rfl,F,D,lt_of_heap A,p,q,fun j v z=>?_⟩;have:=n.cells (g:=g) rfl j v z;rw[add_lit] at this;exact this
theorem aWd(v:ag)(c:v.oneCell'=true)(w:ae):lL prog 142 #[v] w fun e a=>e=.returned (.func (.func 175) #[] #[.pointer (some ⟨w.heap.size,0,none⟩)]) /\
  w.alloc (.cells #[v] 74)=a:=by
 have b:=aHT
 go_enter func142,ntmps142
 go_wp2
 go_ret;exact⟨rfl,rfl⟩
theorem Iz:zk prog 164 3:=⟨⟨_,underlying164,rfl⟩,ai⟩
attribute [local go_sem] Oper.semAt_some
theorem Jb (rec:Int) (hr:gy rec) (c:jy):bSm prog af 101 (aj.save rec c) [.w (.one .dv),dw rec,n_ c] bDn:=by
 intro O l hO;have M:=aFU
 have hp:aj.save rec c=if bD rec 0<0 then .ret ⟨aC,0,1⟩ else if 2000<c.size then .ret ⟨aC,0,19⟩ else
  (aj.cur rec).bind fun p=>if 1099511627776<p.1.1+1 then .ret ⟨aC,0,19⟩ else (aj.write (bD rec (1-(p.2:Int))) (encS rec (p.1.1+1) c.data.toList)).bind fun _=>.ret ⟨c,p.1.1+1,0⟩:=rfl
 generalize aj.save rec c=pr at *;refine OZ func101 rfl rfl (fun A hn hI hAO hAs Qj a hga=>?_);generalize hstp:(fun h=>l <+: h/\h <+: (go O pr l).2)=gm;rw[hstp] at hAs hga;refine bIw ?_ hga (bFc _ _ _ _ _ _ _ _ hAO hAs Qj);clear hga a;refine yT M hI hn (ay) ai ?_ ?_
 ·simp
 refine aFh ?_;refine eH (fun hc=>?_) (fun hc=>?_)
 ·have h:bD rec 0<0:=of_decide_eq_true hc;rw[au h] at hp;have hE:go O pr l=(⟨aC,0,1⟩,l):=by rw[hp];rfl
  refine aI ?_;refine bZ (fun a w hg=>aHb Qj ?_ ?_ hg);rotate_left 1
  ·rw[hE];rfl
  refine aZ (ay) d_ ay ay ?_;rw[hE];rfl
 ·have h:¬bD rec 0<0:=of_decide_eq_false hc;rw[ah h] at hp;refine fH ?_;change Ea _ _ _ _ _ _;refine aFh ?_;refine eH (fun hc=>?_) (fun hc=>?_)
  ·have h2:2000<c.size:=by have:=of_decide_eq_true hc;omega
   rw[au h2] at hp;have hE:go O pr l=(⟨aC,0,19⟩,l):=by rw[hp];rfl
   refine aI ?_;refine bZ (fun a w hg=>aHb Qj ?_ ?_ hg);rotate_left 1
   ·rw[hE];rfl
   refine aZ (ay) d_ ay ay ?_;rw[hE];rfl
  ·have h2:¬2000<c.size:=by have:=of_decide_eq_false hc;omega
   rw[ah h2] at hp;refine fH ?_;change Ea _ _ _ _ _ _;have hL0:FY O pr l ((aj.cur rec).bind fun p=>if 1099511627776<p.1.1+1 then .ret ⟨aC,0,19⟩ else (aj.write (bD rec (1-(p.2:Int))) (encS rec (p.1.1+1) c.data.toList)).bind fun _=>.ret ⟨c,p.1.1+1,0⟩) l:=by rw[hp];exact FY.start _ _ _
   have hL:=hL0.step;refine yT M hI hn (ay) ai ?_ ?_
   ·simp;refine⟨⟨hO,hr⟩,fun h h1 h2 h3=>?_⟩;rw[<-hstp];exact hL0.gm h h1 h2 h3
   have hq1:=Wq (R:=fun p:(Int×di)×Nat=>(0<=p.1.1/\p.1.1<=1099511627776)/\(p.2=0\/p.2=1)) O (bQv rec) l;obtain⟨q,lq,hq⟩:∃ q lq,go O (aj.cur rec) l=(q,lq):=⟨_,_,rfl⟩;rw[hq] at hL hq1;dsimp only at hL hq1;refine aRa (s':=⟨[(1,none,dw rec),(2,none,n_ c),(3,none,dm (.pt 0 0 0)),(6,none,dm (.pt 1 0 0)),(7,none,dm (.pt 5006 0 0)),(8,none,dw (q.2:Int))],[(dx,none,0,.dev O gm lq),(0,none,0,.box 116 [.dv]),(1,none,0,.box 164 [.lit (.string aC),.lit (.int .i64 0),.lit (.int .i64 0)]),(5006,none,0,.box 205 [.lit (.int .i64 q.1.1),.lit (.string (strOf q.1.2))])]⟩) (fun a w hg=>(hg.reset (kT:=[1,2,3,6,7,8]) (kO:=[900000,0,1,5006]) ay d_).same ?_ ?_) ?_
   ·refine .cr (.cr (.cr (.cr (.cr (.cons ?_ .nil)))));rw[hq]
   ·refine .cons (.dev ?_) (.cb (.cb (.cons (.box ?_) .nil)))
    ·show (go O (aj.cur rec) l).2=_;rw[hq]
    ·show[PC.lit (.int .i64 (go O (aj.cur rec) l).1.1.1),PC.lit (.string (strOf (go O (aj.cur rec) l).1.1.2))]=_
     rw[hq]
   refine yT M hI hn (ay) ai ?_ ?_
   ·simp
   have hw6:IntKind.wrap .i64 (q.1.1+1)=q.1.1+1:=dH a_ a_;refine aFh ?_;refine eH (fun hc=>?_) (fun hc=>?_)
   ·have h7:1099511627776<q.1.1+1:=by have:=of_decide_eq_true hc;rw[hw6] at this;exact this
    have hE:go O pr l=(⟨aC,0,19⟩,lq):=by have:=hL.2;rw[au h7] at this;exact this
    refine aI ?_;refine bZ (fun a w hg=>aHb Qj ?_ ?_ hg);rotate_left 1
    ·rw[hE];rfl
    refine aZ (ay) d_ ay ay ?_;rw[hE];rfl
   ·have h7:¬1099511627776<q.1.1+1:=by have:=of_decide_eq_false hc;rw[hw6] at this;exact this
    rw[ah h7] at hL;refine fH ?_;change Ea _ _ _ _ _ _;have hF1:IntKind.wrap .i64 (1-(q.2:Int))=1-(q.2:Int):=dH a_ a_;refine yT M hI hn (ay) ai ?_ ?_
    ·simp
    unfold aj.write at hL;rw[aj.bind_assoc] at hL;have hzs:strOf (Lib.repeatL [0] 256)=strOf iH:=by rw[aHg];rfl
    have hz2:(ByteArray.mk #[0]).size<=1:=dE _;have hFB:=aDu rec (1-(q.2:Int));generalize hF:bD rec (1-(q.2:Int))=F at *;generalize hb:encS rec (q.1.1+1) c.data.toList=b at *;obtain⟨lz,hlz⟩:=jc (lq++[(⟨4,0,F,strOf iH⟩:Acc)]);have hGO:go O pr l=(⟨c,q.1.1+1,0⟩,hist F b lz (nsec b)++[BG F b 0]):=by rw[hL.2,aAy,aAy,aAy];show ((⟨c,q.1.1+1,0⟩:EE),(go O (aj.Fh F b (nsec b-1) 1) (lq++[(⟨4,0,F,strOf iH⟩:Acc)])).2++[(⟨4,0,F,strOf (lm b 0)⟩:Acc)])=_;rw[hlz,OO];unfold BG;rw[show F+((0:Nat):Int)=F from Int.add_zero F];rfl
    have hlq:l <+: lq:=hL.1;refine yT M hI hn (ay) ai ?_ ?_
    ·simp;rw[hF1,hF,hzs];refine⟨hz2,hO,fun h h3 h4 _=>?_⟩;rw[<-hstp];refine⟨hlq.trans h3,h4.trans ?_⟩;rw[hGO];show lq++[(⟨4,0,F,strOf iH⟩:Acc)] <+: _;rw[hlz];show lz <+: hist F b lz (nsec b)++[BG F b 0];have hz:=aAx F b lz (x8 (nsec b));rw[qA] at hz;exact hz.trans (aBW _ _)
    refine yT M hI hn (ay) ai ?_ ?_
    ·simp
    refine aRa (s':=⟨[(1,none,dw rec),(2,none,n_ c),(3,none,dm (.pt 0 0 0)),(6,none,dm (.pt 1 0 0)),(9,none,dw (q.1.1+1)),(10,none,dm (.pt 9004 0 0)),(11,none,dm (.pt 11000 0 0))],[(dx,none,0,.dev O gm lz),(0,none,0,.box 116 [.dv]),(1,none,0,.box 164 [.lit (.string aC),.lit (.int .i64 0),.lit (.int .i64 0)]),(9004,none,0,.box 3 [.lit (.int .i64 F)]),(11000,none,0,.box 9 [.lit (.string aC)])]⟩) (fun a w hg=>(hg.reset (kT:=[1,2,3,6,9,10,11]) (kO:=[900000,0,1,9004,11000]) ay d_).same ?_ ?_) ?_
    ·refine .cr (.cr (.cr (.cr (.cons ?_ ((iT _))))));rw[hw6]
    ·refine .cons (.dev ?_) (.cb (.cb (.cons (.box ?_) ((dU _)))))
     ·show lq++[(⟨4,0,bD rec (IntKind.wrap .i64 (1-(q.2:Int))),strOf (Lib.repeatL [0] 256)⟩:Acc)]=lz;rw[hF1,hF,hzs,hlz]
     ·rw[hF1,hF]
    intro a w hg hPQ;obtain⟨env,hE⟩:=hg;obtain⟨g3,cs3,t3,e3,b3,r3⟩:=qj.Ce hE (t:=3) (x:=0) rfl rfl;obtain⟨g6,cs6,t6,e6,b6,r6⟩:=qj.Ce hE (t:=6) (x:=1) rfl rfl;obtain⟨g10,aTG,t10,e10,b10,r10⟩:=qj.Ce hE (t:=10) (x:=9004) rfl rfl;obtain⟨g11,aTF,t11,e11,b11,r11⟩:=qj.Ce hE (t:=11) (x:=11000) rfl rfl;obtain⟨dv1,dv2,hi⟩:=hE.dev none 0 O gm lz rfl trivial;clear dv1 dv2;have hcg:gq A.dv.S A.w0 w:=hE.iw.mono fun b _ h=>(Qj.1 b).1 h;have x3:ownB A env g3:=.inr ⟨0,0,_,e3,rfl⟩;have x6:ownB A env g6:=.inr ⟨1,0,_,e6,rfl⟩;have x10:ownB A env g10:=.inr ⟨9004,0,_,e10,rfl⟩;have x11:ownB A env g11:=.inr ⟨11000,0,_,e11,rfl⟩;have n6:g6≠g11:=fun e=>by have:=hE.inj 1 11000 0 _ 0 _ g6 e6 e11 rfl (by rw[e];rfl);cases this
    have n3:g3≠g11:=fun e=>by have:=hE.inj 0 11000 0 _ 0 _ g3 e3 e11 rfl (by rw[e];rfl);cases this
    have n10:g10≠g11:=fun e=>by have:=hE.inj 9004 11000 0 _ 0 _ g10 e10 e11 rfl (by rw[e];rfl);cases this
    have n36:g3≠g6:=fun e=>by have:=hE.inj 0 1 0 _ 0 _ g3 e3 e6 rfl (by rw[e];rfl);cases this
    have n106:g10≠g6:=fun e=>by have:=hE.inj 9004 1 0 _ 0 _ g10 e10 e6 rfl (by rw[e];rfl);cases this
    have l6:A.w0.heap.size<=g6:=(hE.live 1 0 _ g6 e6 rfl).2.resolve_right (fun h=>A.dv.notS _ _ _ _ hi x6 ((Qj.1 _).1 h.1));have l11:A.w0.heap.size<=g11:=(hE.live 11000 0 _ g11 e11 rfl).2.resolve_right (fun h=>A.dv.notS _ _ _ _ hi x11 ((Qj.1 _).1 h.1));obtain rfl:cs6=#[.string aC,.int .i64 0,.int .i64 0]:=aAm (vs:=[.string aC,.int .i64 0,.int .i64 0]) r6;obtain rfl:aTG=#[.int .i64 F]:=aAm (vs:=[.int .i64 F]) r10;obtain rfl:aTF=#[.string aC]:=aAm (vs:=[.string aC]) r11
    obtain rfl:cs3=#[A.dv.hd]:=aGV r3 (fun l9 hd h=>by
     obtain⟨hd2,e5,_⟩:=hE.lu dx none 0 _ rfl;have h0:env dx=some (l9,hd):=h;rw[e5] at h0;cases h0
     exact⟨rfl,(hE.pg dx A.dv.hd (hI.dvh _ _ _ hi)).2.now e5⟩)
    have hsz:a.tmps.size=65:=hE.size.trans (hn.trans rfl);have t1:=bNc hE (t:=1) rfl;have t2:=bNc hE (t:=2) rfl;have t9:=bNc hE (t:=9) rfl;obtain⟨u0,u1,u2,u3,u4,u5,u6,u7,u8,u9,u10,u11,u12,u13,u14,u15,u16,u17,u18,u19,u20,u21,u22,u23,u24,u25,u26,u27,u28,u29,u30,u31,u32,u33,u34,u35,u36,u37,u38,u39,u40,u41,u42,u43,u44,u45,u46,u47,u48,u49,u50,u51,u52,u53,u54,u55,u56,u57,u58,u59,u60,u61,u62,u63,u64,rfl⟩:=aKO a hsz (hE.defers.trans Qj.2);obtain rfl:u1=_:=Option.some.inj t1;obtain rfl:u2=_:=Option.some.inj t2;obtain rfl:u3=_:=Option.some.inj t3;obtain rfl:u6=_:=Option.some.inj t6;obtain rfl:u9=_:=Option.some.inj t9;obtain rfl:u10=_:=Option.some.inj t10;obtain rfl:u11=_:=Option.some.inj t11;have hM:=hI.mem w hE.iw;have HW:=hide (az hi (az hcg (az b3 (az b6 (az b10 b11)))));have HX:=hide (az x3 (az x6 (az x10 x11)));have HL:=hide (az l6 l11);have HN:=hide (az n6 (az n3 (az n10 (az n36 n106))));have HE:=hide hE.iw.size;have hbl:b.length<=3000/\0<b.length:=by rw[<-hb,nU,pI];have:=aO (q.1.1+1);have:=aO (c.data.toList.length:Int);have hcl:c.data.toList.length=c.size:=nz;omega
    have HEc:=hide (P8 rec (q.1.1+1) c hr ⟨a_,a_⟩ a_ w hM);have HSc:=hide (fun v hv W=>aWd v hv W);rw[hb] at HEc;have HG:=hide (az hGO (az hL.1 (az hlz (az hAO (az hAs (az Qj (az hI (az hstp hPQ))))))));have hP0:∀ l',lz <+: l'->l' <+: hist F b lz (nsec b)++[BG F b 0]->A.gm l':=fun l' h1 h2=>by rw[hAs,<-hstp];refine⟨hL.1.trans ((?_:lq <+: lz).trans h1),by rw[hGO];exact h2⟩;have:=aBW lq [(⟨4,0,F,strOf iH⟩:Acc)];rwa [hlz] at this
    have HP:=hide (show (∀ k,0<k->k<nsec b->∀ l',hist F b lz k <+: l'->l' <+: hist F b lz k++[BG F b k]->A.gm l')/\(∀ l',hist F b lz (nsec b) <+: l'->l' <+: hist F b lz (nsec b)++[BG F b 0]->A.gm l') from
     ⟨
      fun k hk0 hkn l' h1 h2=>hP0 l' (by have hz:=aAx F b lz (x8 k);rw[qA] at hz;exact hz.trans h1) (by
      have hz:=aAx F b lz (Nat.succ_le_of_lt hkn);rw[aCr F b lz k hk0] at hz
      exact (h2.trans hz).trans (aBW _ _)),
     fun l' h1 h2=>hP0 l' (by have hz:=aAx F b lz (x8 (nsec b));rw[qA] at hz;exact hz.trans h1) h2⟩)
    clear hP0;have HC:=hide (az hbl hq1);have HFB:=hide hFB;clear hFB;clear l6 l11 hPQ hM hi hcg b3 b6 b10 b11 x3 x6 x10 x11 n6 n3 n10 n36 n106 hE t1 t2 t3 t6 t9 t10 t11 e3 e6 e10 e11 r3 r6 r10 r11 hsz hGO hL hL0 hlz hAO hAs Qj hI hstp hbl hq1 hlq hzs hz2 hF1 hb hF hq h7 hw6 h2 h hp hO hr M hn;refine aVp (aVp (aGc ?_))
    go_wp2_with (first
     |(go_at_call 143;refine (aA HEc).mono ?_;rintro e w1 ⟨G,cap,rfl,k1,k2,k3,k4,k5,k6⟩;have H1:=hide (az k1 (az k2 (az k3 (az k4 (az k5 k6)))));clear k1 k2 k3 k4 k5 k6)
     |(go_at_call 142;refine (aA HSc _ rfl _).mono ?_;rintro e w2 ⟨rfl,rfl⟩))
    change Eh _ _ _ _ _ _;refine bIh ?_;obtain⟨W0,hW0⟩:∃ x,w1.alloc (.cells #[.slice (some ⟨G,0,none⟩) b.length cap] 74)=x:=⟨_,rfl⟩;have hsz0:W0.heap.size=w1.heap.size+1:=by rw[<-hW0];simp
    have hwW:Ext w W0:=by rw[<-hW0];exact (aA H1).1.alloc _
    have hBx:W0.cell? ⟨w1.heap.size,0,none⟩=some (.slice (some ⟨G,0,none⟩) b.length cap):=by rw[<-hW0];exact iQ _ _ _ rfl rfl
    have hGr:W0.rangeAt G 0 (b.map j_):=by rw[<-hW0];exact fun j v hj=>Ext.jh ((Ext.refl w1).alloc _) ((aA H1).2.2.2.2.2 j v hj)
    obtain⟨X,UM⟩:∃ X:Nat->Prop,X=fun i=>ownB A env i\/(w.heap.size<=i/\i<W0.heap.size+2):=⟨_,rfl⟩;have hX3:X g3:=by rw[UM];exact .inl (aA HX).1
    have hX6:X g6:=by rw[UM];exact .inl (aA HX).2.1
    have aSQ:X g10:=by rw[UM];exact .inl (aA HX).2.2.1
    have aIW:X g11:=by rw[UM];exact .inl (aA HX).2.2.2
    have UL:∀ i,w.heap.size<=i->i<W0.heap.size+2->X i:=fun i h1 h2=>by rw[UM];exact .inr ⟨h1,h2⟩
    have hin0:∀ W,Ext W0 W->W0.heap.size+2<=W.heap.size->Qx A X W0.heap.size g3 g6 g10 g11 F b lz 0 W:=fun W hE hs=>by
     have hEw:Ext w W:=hwW.trans hE;refine⟨(aA HW).2.1.ext hEw,?_,(aA HW).2.2.1.ext hEw,(aA HW).2.2.2.1.ext hEw,(aA HW).2.2.2.2.1.ext hEw,?_,hE.size'⟩
     ·rw[qA];refine A.dv.grow _ _ _ _ _ (aA HW).1 hEw.iw (fun i hi=>?_);rw[UM] at hi;rcases hi with hi|⟨h1,h2⟩
      ·exact .inl hi
      ·exact .inr ⟨h1,a_⟩
     ·rw[au rfl];exact (aA HW).2.2.2.2.2.ext hEw
    have hnS:∀ i,X i->¬A.dv.S i:=fun i hi hs=>by
     rw[UM] at hi;rcases hi with hi|⟨h1,h2⟩
     ·exact A.dv.notS _ _ _ _ (aA HW).1 hi hs
     ·have:=((aA HG).2.2.2.2.2.2.1.old i (((aA HG).2.2.2.2.2.1.1 i).2 hs)).1;have:=aA HE;omega
    have hseq:=aWc b (aA HC).1.1 (aA HC).1.2 w1.heap.size G cap (fun i=>A.dv.S i\/i=g11) W0 (fun h=>?s1) (fun h=>?s2) hBx (aA H1).2.2.2.1 (aA H1).2.2.2.2.1 a_ (by have:=(aA H1).2.2.1;omega) hGr
    case s1=>
     rcases h with h|h
     ·exact hnS _ (UL _ (aA H1).1.size' a_) h
     ·have:=(aA HW).2.2.2.2.2.lt;have:=(aA H1).1.size';omega
    case s2=>
     rcases h with h|h
     ·exact hnS _ (UL _ (aA H1).2.1 (by have:=(aA H1).2.2.1;omega)) h
     ·have:=(aA HW).2.2.2.2.2.lt;have:=(aA H1).2.1;omega
    have HXD:=hide UM;clear UM;rw[hW0];have hn1:A.w0.heap.size<=W0.heap.size:=ry (aA HE) hwW.size';have hwn:=hwW.size';obtain⟨Sx,hSx⟩:∃ S:Nat->Prop,S=fun i=>A.dv.S i\/i=g11:=⟨_,rfl⟩;rw[<-hSx] at hseq;have HSX:=hide hSx;clear hSx
    refine bDi (gf:=175) (lb:=#[.pointer (some ⟨w1.heap.size,0,none⟩)]) (encs:=fun k=>#[.int .i64 (k:Int),.string (strOf (lm b k))]) (S:=Sx) (N:=nsec b) ⟨_,func101⟩ rfl (aB func175 ai rfl) hseq (fun _=>rfl)
     (Qx A X W0.heap.size g3 g6 g10 g11 F b lz) (fun k W W' h hc hk=>h.keep hn1 (fun i hi=>UL i (by rcases hi with h|h<;>omega) (by rcases hi with h|h<;>omega)) hc hk) hin0
     (fun ch W=>gq A.dv.S A.w0 W/\∃ l',(lz <+: l'/\l' <+: hist F b lz (nsec b))/\A.dv.O l'=none/\A.dv.pan l' X W ch)
     (fun k a'=>a'={ tmps:=#[u0,.int .i64 rec,.string c,.pointer (some ⟨g3,0,none⟩),u4,u5,.pointer (some ⟨g6,0,none⟩),u7,u8,.int .i64 (q.1.1+1),.pointer (some ⟨g10,0,none⟩),.pointer (some ⟨g11,0,none⟩),.int .i64 (k:Int),.string (strOf (lm b k)),u14,u15,u16,u17,u18,u19,u20,u21,u22,u23,u24,u25,u26,u27,u28,u29,u30,u31,u32,u33,u34,u35,u36,u37,u38,u39,u40,u41,.int .i64 rec,.int .i64 (q.1.1+1),.string c,.slice (some ⟨G,0,none⟩) b.length cap,.func (.func 175) #[] #[.pointer (some ⟨w1.heap.size,0,none⟩)],.int .i64 (k:Int),.string (strOf (lm b k)),u49,u50,u51,u52,u53,u54,u55,u56,u57,u58,u59,u60,u61,u62,u63,u64],defers:=[] }) ?assign ?body ?done ?pan
    case assign=>
     intro l1 k W K hK;clear hseq hin0 UL hnS HEc HSc
     gi_wp2
     exact hK _ _ (Ext.refl _) rfl
    case body=>
     rintro l1 k a' W hJ rfl hlt;by_cases hk0:k=0
     ·subst hk0;have c11:=hJ.b11.cell 0;have f11:=hJ.b11.frozen 0;have bQE:=hJ.b11.lt;rw[au rfl] at c11;have c11':W.cell? ⟨g11,0,none⟩=some (.string aC):=c11;clear c11 hseq hin0 HEc HSc hW0 hsz0;have HJ:=hide hJ;clear hJ
      gi_wp2
      have c1:gq (fun i=>i=g11) W (W.setCell ⟨g11,0,none⟩ (.string (strOf (lm b 0)))):=(gq.refl (fun i=>i=g11) W).setCell (p:=⟨g11,0,none⟩) (.inl rfl) _;refine⟨⟨(aA HJ).iw.trans' c1 (fun _ _ h=>h) (fun i hi e=>by have:=(aA HL).2;omega),?_,(aA HJ).b3.far (aA HN).2.1 _,(aA HJ).b6.far (aA HN).1 _,(aA HJ).b10.far (aA HN).2.2.1 _,?_,ry (aA HJ).sz c1.size⟩,fun i hi hn=>?_,fun i o hi ho hno=>?_⟩
      ·have:=A.dv.grow _ _ _ _ _ (aA HJ).inv (c1.mono fun i _ e=>e ▸ aIW) (fun i hi=>.inl hi);rw[qA] at this;rw[bBw];exact this
      ·have:=(aA HJ).b11.zq 0 (.string (strOf (lm b 0)));rw[ah a_];exact this
      ·exact Below.heap_setCell W _ _ i (fun e=>hn (by rw[aA HSX];exact .inr e))
      ·rw[Below.heap_setCell W _ _ i (fun e=>by
        have e2:i=g11:=e;have:=(aA HW).2.2.2.2.2.lt
        omega)]
       exact ho
     ·have hkI:¬(k:Int)=0:=a_;have c3:W.cell? ⟨g3,0,none⟩=some A.dv.hd:=hJ.b3.cell 0;have c10:W.cell? ⟨g10,0,none⟩=some (.int .i64 F):=hJ.b10.cell 0;have hkn:k<=12:=by have:=(aA HC).1.1;unfold nsec at hlt;omega
      have hwF:wrap64 (F+(k:Int))=F+(k:Int):=by have:=aA HFB;unfold wrap64;omega
      have HJ:=hide hJ;have HWr:=hide (bIf (aA HG).2.2.2.2.2.2.1 hJ.inv (aA HG).2.2.2.2.2.1.1 hJ.iw (F+(k:Int)) (strOf (lm b k)) (fun l' h1 h2 _=>(aA HP).1 k a_ hlt l' h1 h2));clear hJ hseq hin0 HEc HSc hW0 hsz0
      gi_wp2_with ((refine⟨trivial,?_⟩;gi_at_call 140;refine (CallsIn.inRound l1 (callsIn_wide.2 (aA HWr))).mono ?_))
      have hkp:∀ W',gq A.dv.S W W'->KpS Sx W0.heap.size W W':=fun W' hc1 i hi hn=>hc1.block i (aAF hi (aA HJ).sz) (fun h=>hn (by rw[aA HSX];exact .inl h))
      have hko:∀ W',gq A.dv.S W W'->Qc W0.heap.size W W':=fun W' hc1 i o hi ho hno=>(hc1.block i (lt_of_heap ho) (fun h=>by
       have:=((aA HG).2.2.2.2.2.2.1.old i (((aA HG).2.2.2.2.2.1.1 i).2 h)).1
       omega)).trans ho
      rintro e w' ⟨hc1,⟨v,rfl,hi2⟩|⟨ch,l',rfl,hl',hO2,Yk⟩⟩
      ·have HJ2:=hide ((aA HJ).wrote hX3 hX6 aSQ aIW a_ hc1 hi2);have HK:=hide (az (hkp _ hc1) (hko _ hc1));clear hkp hko hc1 hi2
       gi_wp2
       exact⟨aA HJ2,(aA HK).1,(aA HK).2⟩
      ·refine⟨rfl,⟨(aA HJ).iw.trans hc1,l',⟨?_,?_⟩,hO2,Yk⟩,hko _ hc1⟩
       ·have hz:=aAx F b lz (x8 k);rw[qA] at hz;exact hz.trans hl'.1
       ·refine hl'.2.trans ?_;have hz:=aAx F b lz (Nat.succ_le_of_lt hlt);rw[aCr F b lz k a_] at hz;exact hz
    case done=>
     intro D W hJ hD hDl;have hnp:0<nsec b:=by have:=(aA HC).1.2;unfold nsec;omega
     change Eh _ _ _ _ _ _;refine aGc ?_;have c3:W.cell? ⟨g3,0,none⟩=some A.dv.hd:=hJ.b3.cell 0;have c10:W.cell? ⟨g10,0,none⟩=some (.int .i64 F):=hJ.b10.cell 0;have c11:W.cell? ⟨g11,0,none⟩=some (.string (strOf (lm b 0))):=by have:=hJ.b11.cell 0;rw[ah a_] at this;exact this
     have HJ:=hide hJ;have HD:=hide (az hD hDl);have HWr:=hide (bIf (aA HG).2.2.2.2.2.2.1 hJ.inv (aA HG).2.2.2.2.2.1.1 hJ.iw F (strOf (lm b 0)) (fun l' h1 h2 _=>(aA HP).2 l' h1 (by unfold BG;rw[show F+((0:Nat):Int)=F from Int.add_zero F];exact h2)));clear hJ hseq hin0 HEc HSc hW0 hsz0 hD hDl
     go_wp2_with ((go_at_call 140;refine (aA HWr).mono ?_))
     have hAX:∀ i,A.X0 i->X i:=fun i h=>by rw[aA HXD];exact .inl (.inl h)
     have h0f:F+((0:Nat):Int)=F:=Int.add_zero F;rintro e w2 ⟨hc1,⟨v,rfl,hi2⟩|⟨ch,l',rfl,hl',hO2,Yk⟩⟩
     ·have H2:=hide (az ((aA HJ).iw.trans hc1) (az hi2 (az ((aA HJ).b6.iw hc1 ((aA HJ).notS hX6)) (show w2.heap[D]?=some (.deferred (some [])) from (hc1.block D (lt_of_heap (aA HD).1) ((aA HJ).notS (UL D (by have:=(aA HD).2;omega) (by have:=(aA HD).2;omega)))).trans (aA HD).1))));clear hc1 hi2;have c60:w2.cell? ⟨g6,0,none⟩=some (.string aC):=(aA H2).2.2.1.cell 0;have c61:w2.cell? ⟨g6,1,none⟩=some (.int .i64 0):=(aA H2).2.2.1.cell 1;have c62:w2.cell? ⟨g6,2,none⟩=some (.int .i64 0):=(aA H2).2.2.1.cell 2;have f60:=(aA H2).2.2.1.frozen 0;have f61:=(aA H2).2.2.1.frozen 1;have f62:=(aA H2).2.2.1.frozen 2;have lt6:=(aA H2).2.2.1.lt
      go_wp2
      obtain rfl:=(aA HD).2;have hb6:eu (((w2.setCell ⟨g6,0,none⟩ (.string c)).setCell ⟨g6,1,none⟩ (.int .i64 (q.1.1+1))).setCell ⟨g6,2,none⟩ (.int .i64 0)) g6 164 #[.string c,.int .i64 (q.1.1+1),.int .i64 0]:=(((aA H2).2.2.1.zq 0 _).zq 1 _).zq 2 _;have c6:gq (fun i=>i=g6) w2 (((w2.setCell ⟨g6,0,none⟩ (.string c)).setCell ⟨g6,1,none⟩ (.int .i64 (q.1.1+1))).setCell ⟨g6,2,none⟩ (.int .i64 0)):=(((gq.refl (fun i=>i=g6) w2).setCell (p:=⟨g6,0,none⟩) (.inl rfl) _).setCell (p:=⟨g6,1,none⟩) (.inl rfl) _).setCell (p:=⟨g6,2,none⟩) (.inl rfl) _;generalize ((w2.setCell ⟨g6,0,none⟩ (.string c)).setCell ⟨g6,1,none⟩ (.int .i64 (q.1.1+1))).setCell ⟨g6,2,none⟩ (.int .i64 0)=W3 at *;have g6w:g6<W0.heap.size:=by have:=(aA HW).2.2.2.1.lt;omega
      have hD3:W3.heap[W0.heap.size]?=some (.deferred (some [])):=(c6.block _ (lt_of_heap (aA H2).2.2.2) (fun e=>a_)).trans (aA H2).2.2.2;have hcp:gq (fun i=>i=W0.heap.size) W3 (W3.putObj W0.heap.size (.deferred none)):=⟨rfl,rfl,rfl,d_,fun b _ hn=>aCL hn⟩;refine aLp (v:=.agg #[.string c,.int .i64 (q.1.1+1),.int .i64 0]) rfl hD3 (dQ Iz rfl ((aCL a_).trans hb6) rfl rfl) ?_;have ct:gq X w2 (W3.putObj W0.heap.size (.deferred none)):=(c6.mono fun i _ e=>e ▸ hX6).trans' hcp (fun _ _ h=>h) (fun i _ e=>UL i a_ a_);refine⟨((aA H2).1.trans' c6 (fun _ _ h=>h) (fun i hi e=>by have:=(aA HL).1;omega)).trans' hcp (fun _ _ h=>h) (fun i hi e=>a_),.inl ⟨_,rfl,?_,?_⟩⟩
      ·rw[(aA HG).1];exact .w (.agg (.cons (.lit rfl) (.cons (.lit rfl) (.cons (.lit rfl) .nil))))
      ·rw[(aA HG).1];have:=A.dv.grow _ _ _ _ _ (aA H2).2.1 ct (fun i hi=>.inl (hAX i hi));unfold BG;rw[h0f];exact this
     ·have hcp:gq (fun i=>i=W0.heap.size) w2 (w2.putObj W0.heap.size (.deferred none)):=⟨rfl,rfl,rfl,d_,fun b _ hn=>aCL hn⟩;obtain rfl:=(aA HD).2;have hD2:w2.heap[W0.heap.size]?=some (.deferred (some [])):=(hc1.block _ (lt_of_heap (aA HD).1) ((aA HJ).notS (UL _ a_ a_))).trans (aA HD).1;show LeavesInM Fence.wide 3 _ _ _ _ [{ target:=.collected W0.heap.size,args:=#[] }] (.panicking ch) w2;refine⟨d_,.inl ⟨_,_,rfl,run_takeDeferred hD2,?_⟩⟩;refine⟨((aA HJ).iw.trans hc1).trans' hcp (fun _ _ h=>h) (fun i hi e=>a_),.inr ⟨ch,l',rfl,?_,by rw[<-(aA HG).2.2.2.1];exact hO2,(aA HG).2.2.2.2.2.2.1.DV _ _ _ _ _ _ Yk (hcp.mono fun i _ e=>UL i a_ a_) hAX⟩⟩;rw[<-(aA HG).2.2.2.2.2.2.2.1];refine⟨(aA HG).2.1.trans (?_:lq <+: l'),hl'.2.trans ?_⟩
      ·have:=aBW lq [(⟨4,0,F,strOf iH⟩:Acc)];rw[(aA HG).2.2.1] at this;have hz:=aAx F b lz (x8 (nsec b));rw[qA] at hz;exact (this.trans hz).trans hl'.1
      ·rw[(aA HG).1];unfold BG;rw[h0f];exact aCX _
    case pan=>
     rintro D ch W ⟨hc,l',h1,h2,h3⟩ hD rfl;have hAX:∀ i,A.X0 i->X i:=fun i h=>by rw[aA HXD];exact .inl (.inl h)
     have hcp:gq (fun i=>i=W0.heap.size) W (W.putObj W0.heap.size (.deferred none)):=⟨rfl,rfl,rfl,d_,fun b _ hn=>aCL hn⟩;show LeavesInM Fence.wide 3 _ _ _ _ [{ target:=.collected W0.heap.size,args:=#[] }] (.panicking ch) W;refine⟨d_,.inl ⟨_,_,rfl,run_takeDeferred hD,?_⟩⟩;refine⟨hc.trans' hcp (fun _ _ h=>h) (fun i hi e=>a_),.inr ⟨ch,l',rfl,?_,by rw[<-(aA HG).2.2.2.1];exact h2,(aA HG).2.2.2.2.2.2.1.DV _ _ _ _ _ _ h3 (hcp.mono fun i _ e=>UL i a_ a_) hAX⟩⟩;rw[<-(aA HG).2.2.2.2.2.2.2.1];refine⟨(aA HG).2.1.trans (?_:lq <+: l'),h1.2.trans ?_⟩
     ·have:=aBW lq [(⟨4,0,F,strOf iH⟩:Acc)];rw[(aA HG).2.2.1] at this;exact this.trans h1.1
     ·rw[(aA HG).1];exact aBW _ _
def uf:bu:=118
theorem MF(b:Bool)(e:Int)(w:ae):lL prog 73 #[.bool b,.int .i64 e] w fun a c=>c=w/\((b=true/\a=.returned (.tuple #[]))\/(b=false/\a=.panicked (aIx uf e))):=by
 cases b
 ·go_enter func73,ntmps73
  go_wp2_with fail
  exact⟨rfl,rfl,.inr ⟨trivial,rfl⟩⟩
 ·go_enter func73,ntmps73
  go_wp2_with fail
  go_returns
  exact⟨rfl,.inl ⟨trivial,rfl⟩⟩
theorem MC{I:jg}(b:Bool)(e:Int):Qd prog I uf 73 (iU b e) [t_ b,dw e] (fun _=>.o7 []):=by
 intro O l u g w k j H D C F d c n z a t r f m
 match j,m with
 |[x,y],⟨B,A,_⟩=>obtain rfl:x=.bool b:=RV.gu B;obtain rfl:y=.int .i64 e:=RV.gu A;refine (MF b e w).mono ?_;rintro G E ⟨rfl,⟨rfl,rfl⟩|⟨rfl,rfl⟩⟩;exact⟨gq.refl _ _,.inl ⟨_,rfl,.o7 rfl (fun i x h=>by cases h),(fun o s=>by cases s),(fun p q=>by cases q;exact a _ rfl)⟩⟩;refine⟨gq.refl _ _,.inr ⟨_,l++[wJ e],rfl,⟨Su l _,qM _⟩,g.2 l e,((c.fail uf (z ▸ g) l C _ (a _ rfl)).2 e)⟩⟩
def aZe:ji->Option (Prop×aj Unit×(Unit->PV))
 |[.w (.one (.lit (.bool b))),.w (.one (.lit (.int .i64 e)))]=>some (True,iU b e,fun _=>.o7 [])|_=>none
theorem bMi{I:jg}:b_ prog I 73 (aOe uf aZe):=
 aXq (aB func73 ai rfl) (fun a c p v h _=>by
  unfold aZe at h;split at h;cases h;exact MC _ _
  cases h)
end Pv
section
section
variable {P:ed} {ops:Array Oper} {md:Region.Mode} {Q:uk->Act->jg}
end
end
section
section
variable {P:Nat->ag->Prop} {i1:Nat} {w0:ae} {ca ha:Array ag} {i:Nat} {v u:ag} {W W':ae} {L:Nat->Bool} {xs:Nat->ag}
end
end
section
section
variable {w0:ae} {gd gb:Nat} {qg:Int} {c:jy} {l1 l2:List UInt8} {bQC:Array ag} {i:Nat} {v u:ag} {W W':ae}
end
end
namespace Pv
def Zz(a:Nat):Spec:=fun _ c=>match c with
 |[.w (.agg [.bs 16 k]),.w (.one (.lit (.int .i64 n))),.w (.one (.lit (.string b)))]=>.need (gy n/\b.size<=a) (.ret (.w (.agg [.lit (.int .i64 n),.lit (.string (strOf (dM k n b.data.toList))),.bs 16 (tq k n (dM k n b.data.toList))])))|_=>.fail
def opened(k:di)(n:Int)(c:jy)(t:di):Bool:=tq k n c.data.toList==t
def Zy(a:Nat):Spec:=fun _ b=>match b with
 |[.w (.agg [.bs 16 k]),.w (.agg [.lit (.int .i64 n),.lit (.string c),.bs 16 t])]=>.need (gy n/\c.size<=a) (.ret (.o7 [.one (.lit (.string (bif opened k n c t then strOf (dM k n c.data.toList) else { data:=#[] }))),.one (.lit (.int .i64 (bif opened k n c t then 0 else 8)))]))|_=>.fail
theorem Jg{C:Ctx}{n:Int}{c:jy}{t:di}{v:ag}(h:RV C (.w (.agg [.lit (.int .i64 n),.lit (.string c),.bs 16 t])) v):t.length=16/\v=.agg (Cf n c t):=by
 cases h with
 | w h=>cases h with
  | @agg _ g h=>
   generalize a:g.toList=q at h;cases h with
   | cons f h=>cases h with
    |cons e h=>cases f;cases e;obtain⟨d,b⟩:=h.bs1;refine⟨d,?_⟩;congr 1;apply TC;rw[a,b];rfl
theorem aRo{C:Ctx}{n:Int}{c:jy}{t:di}(h:t.length=16):RV C (.w (.agg [.lit (.int .i64 n),.lit (.string c),.bs 16 t])) (.agg (Cf n c t)):=
 .w (.agg (by
  have:=RL.cons (C:=C) (R.lit (v:=.int .i64 n) rfl) (RL.cons (R.lit (v:=.string c) rfl) (RL.cons (R.bs h) RL.nil))
  simpa[Cf,Ij] using this))
theorem bJn:b_ prog af 103 (Zz 100000):=by
 refine⟨aB func103 ai rfl,fun A s a w f z i g F h l j c=>?_⟩;unfold Zz at c;split at c;rotate_left;exact c.elim;rename_i k n b;obtain⟨⟨⟨u,t⟩,r⟩,c⟩:=c
 match g,j with
 |[B,y,v],⟨q,p,o,_⟩=>obtain rfl:=RV.gu (show RV _ _ _ from p);obtain rfl:=RV.gu (show RV _ _ _ from o);obtain⟨d,rfl⟩:=aRp q;refine (JW k n b w (l.mem w h.iw) d u t r).mono ?_;rintro e x ⟨rfl,m⟩;exact .inl ⟨_,[],_,f,rfl,c,h.ext m,aRo (gW _ _ _)⟩
theorem Jn:b_ prog af 120 (Zz 10000):=by
 refine⟨aB func120 ai rfl,fun A s a w f y i g F h B j c=>?_⟩;unfold Zz at c;split at c;rotate_left;exact c.elim;rename_i k n b;obtain⟨⟨⟨t,r⟩,q⟩,c⟩:=c
 match g,j with
 |[z,x,v],⟨p,o,m,_⟩=>obtain rfl:=RV.gu (show RV _ _ _ from o);obtain rfl:=RV.gu (show RV _ _ _ from m);obtain⟨d,rfl⟩:=aRp p;refine (bJw k n b w  d t r q).mono ?_;rintro e u ⟨rfl,l⟩;exact .inl ⟨_,[],_,f,rfl,c,h.ext l,aRo (gW _ _ _)⟩
theorem bLs:b_ prog af 81 (Zy 100000):=by
 refine⟨aB func81 ai rfl,fun A s a w j G B z F h p C d=>?_⟩;unfold Zy at d;split at d;rotate_left;exact d.elim;rename_i k n c t;obtain⟨⟨⟨u,r⟩,q⟩,d⟩:=d
 match z,C with
 |[H,v],⟨E,D,_⟩=>
  obtain⟨g,rfl⟩:=aRp E;obtain⟨f,rfl⟩:=Jg D;by_cases l:tq k n c.data.toList=t;refine (LC k n c t w (p.mem w h.iw) g f u r q l).mono ?_;rintro e y ⟨rfl,o⟩;refine .inl ⟨_,[],_,j,rfl,d,h.ext o,.o7 rfl (fun i x b=>?_)⟩;have m:opened k n c t=true:=by unfold opened;rw[l];simp
  rw[m] at b
  match i,b with
  |0,b=>cases b;exact⟨_,rfl,.one (.lit rfl)⟩|1,b=>cases b;exact⟨_,rfl,.one (.lit rfl)⟩|i+2,b=>cases b
  refine (TJ k n c t w (p.mem w h.iw) g f u r q l).mono ?_;rintro e y ⟨rfl,o⟩;refine .inl ⟨_,[],_,j,rfl,d,h.ext o,.o7 rfl (fun i x b=>?_)⟩;have m:opened k n c t=false:=by unfold opened;simpa using l
  rw[m] at b
  match i,b with
  |0,b=>cases b;exact⟨_,rfl,.one (.lit rfl)⟩|1,b=>cases b;exact⟨_,rfl,.one (.lit rfl)⟩|i+2,b=>cases b
theorem Jt:b_ prog af 21 (Zy 10000):=by
 refine⟨aB func21 ai rfl,fun A s a w j E z y F h H B d=>?_⟩;unfold Zy at d;split at d;rotate_left;exact d.elim;rename_i k n c t;obtain⟨⟨⟨r,q⟩,p⟩,d⟩:=d
 match y,B with
 |[G,v],⟨D,C,_⟩=>
  obtain⟨g,rfl⟩:=aRp D;obtain⟨f,rfl⟩:=Jg C;by_cases l:tq k n c.data.toList=t;refine (bKc k n c t w  g f r q p l).mono ?_;rintro e u ⟨rfl,o⟩;refine .inl ⟨_,[],_,j,rfl,d,h.ext o,.o7 rfl (fun i x b=>?_)⟩;have m:opened k n c t=true:=by unfold opened;rw[l];simp
  rw[m] at b
  match i,b with
  |0,b=>cases b;exact⟨_,rfl,.one (.lit rfl)⟩|1,b=>cases b;exact⟨_,rfl,.one (.lit rfl)⟩|i+2,b=>cases b
  refine (Ju k n c t w  g f r q p l).mono ?_;rintro e u ⟨rfl,o⟩;refine .inl ⟨_,[],_,j,rfl,d,h.ext o,.o7 rfl (fun i x b=>?_)⟩;have m:opened k n c t=false:=by unfold opened;simpa using l
  rw[m] at b
  match i,b with
  |0,b=>cases b;exact⟨_,rfl,.one (.lit rfl)⟩|1,b=>cases b;exact⟨_,rfl,.one (.lit rfl)⟩|i+2,b=>cases b
@[simp] theorem aDY:prog.eqGuardType prog.depth 27=false:=ai
def NL:List (Nat×Spec):=(103,Zz 100000)::(120,Zz 10000)::(81,Zy 100000)::(21,Zy 10000)::U1
theorem U2:∀ p∈NL,b_ prog af p.1 p.2:=by intro p a;simp only[NL,xn] at a;rcases a with rfl|rfl|rfl|rfl|a;exact bJn;exact Jn;exact bLs;exact Jt;exact NK p a
def aLn:List (Nat×Spec):=(103,Zz 100000)::(81,Zy 100000)::bMv
theorem aFq:∀ p∈aLn,b_ prog af p.1 p.2:=by intro p a;simp only[aLn,xn] at a;rcases a with rfl|rfl|a;exact bJn;exact bLs;exact aYd p a
theorem YK:jq prog af (find aLn):=⟨aY aFq,dB⟩
structure jm where
 kind:Int
 root:di
 id:di
 link:di
 payload:jy
 ot:di
 ol:Int
 xt:di
 xl:Int
 bn:Int
 bc:jy
 bt:di
structure jv where
 kind:Int
 level:Int
 ot:di
 ol:Int
 payload:jy
structure jk where
 session:Int
 payload:jy
 ot:di
 ol:Int
 xt:di
 xl:Int
 bn:Int
 bc:jy
 bt:di
 err:Int
def y8:di:=Pi 16 0
def BA:jv:=⟨0,0,y8,0,aC⟩
def ni:jk:=⟨0,aC,y8,0,y8,0,0,aC,y8,0⟩
def w_(m:jm):g_:=[.lit (.int .i64 m.kind),.bs 16 m.root,.bs 16 m.id,.bs 16 m.link,.lit (.string m.payload),.bs 16 m.ot,.lit (.int .i64 m.ol),.bs 16 m.xt,.lit (.int .i64 m.xl),.lit (.int .i64 m.bn),.lit (.string m.bc),.bs 16 m.bt]
def pz(m:jm)(f:Int):g_:=[.lit (.int .i64 m.kind),.bs 16 m.root,.bs 16 m.id,.bs 16 m.link,.lit (.string m.payload),.bs 16 m.ot,.lit (.int .i64 m.ol),.bs 16 m.xt,.lit (.int .i64 m.xl),.lit (.int .i64 m.bn),.lit (.string m.bc),.bs 16 m.bt,.lit (.int .i64 f)]
def qo(r:jv):g_:=[.lit (.int .i64 r.kind),.lit (.int .i64 r.level),.bs 16 r.ot,.lit (.int .i64 r.ol),.lit (.string r.payload)]
def h_(o:jk):g_:=[.lit (.int .i64 o.session),.lit (.string o.payload),.bs 16 o.ot,.lit (.int .i64 o.ol),.bs 16 o.xt,.lit (.int .i64 o.xl),.lit (.int .i64 o.bn),.lit (.string o.bc),.bs 16 o.bt,.lit (.int .i64 o.err)]
def AA:bu:=122
def keyS(a t:di)(l:Int):di:=mX a [116,114,97,110,115,102,101,114] [t,dn l]
def aGF(k:di)(n:Int)(b:di):jy:=strOf (dM k n b)
def aGE(k:di)(n:Int)(b:di):di:=tq k n (dM k n b)
def iD(a:di)(r:jv):jk:={ ni with xt:=r.ot,xl:=r.ol,bn:=r.ol,bc:=aGF (keyS a r.ot r.ol) r.ol r.payload.data.toList,bt:=aGE (keyS a r.ot r.ol) r.ol r.payload.data.toList }
theorem UG(m:jm)(f:Int)(t:di)(n:Int)(b:gy n)(hl:m.link.length=16)(e:t.length=16):yQ prog af uf 82 AA (pz m f) (.ret (keyS m.link t n)) [.w (.agg [.bs 16 t,.lit (.int .i64 n)])] (fun k=>.w (.agg [.bs 16 k])):=by intro O l _ _;have M:=YK;have d:=aO n;refine nS func82 rfl rfl (fun A g h=>?_);refine bU ?_ ?_;simp;exact⟨b,a_,jb,a_,a_⟩;refine bZ (fun a w c=>⟨.inr rfl,_,⟨?_,⟨pz m f,rfl,eQ rfl⟩,?_⟩,c⟩);rotate_left 1;rfl;refine aZ (ay) d_ ay ay ?_;simp[keyS,go]
def Dy:g_->Option (jm×Int)
 |[.lit (.int .i64 k),.bs 16 r,.bs 16 i,.bs 16 l,.lit (.string p),.bs 16 ot,.lit (.int .i64 ol),.bs 16 xt,.lit (.int .i64 xl),.lit (.int .i64 bn),.lit (.string bc),.bs 16 bt,.lit (.int .i64 f)]=>some (⟨k,r,i,l,p,ot,ol,xt,xl,bn,bc,bt⟩,f)|_=>none
theorem yL{l:g_}{m:jm}{f:Int}(h:Dy l=some (m,f)):l=pz m f:=by unfold Dy at h;split at h;cases h;rfl;cases h
def bCq(l:g_)(ys:ji):Option (Prop×aj di×(di->PV)):=match Dy l,ys with
 |some (m,_),[.w (.agg [.bs 16 t,.lit (.int .i64 n)])]=>some (gy n/\m.link.length=16/\t.length=16,.ret (keyS m.link t n),fun k=>.w (.agg [.bs 16 k]))|_,_=>none
theorem bBr:b_ prog af 82 (jV uf AA bCq):=
 lX (aB func82 ai rfl) (fun l d c p v h a=>by
  unfold bCq at h;split at h;rename_i m f t n b;cases h;rw[yL b];exact UG m f t n a.1 a.2.1 a.2.2
  cases h)
def Y9:List (Nat×Spec):=(82,jV uf AA bCq)::aLn
theorem YB:∀ p∈Y9,b_ prog af p.1 p.2:=by intro p a;simp only[Y9,xn] at a;rcases a with rfl|a;exact bBr;exact aFq p a
theorem aRX:jq prog af (find Y9):=⟨aY YB,dB⟩
theorem aRb(m:jm)(f:Int)(r:jv)(b:gy r.ol)(hl:m.link.length=16)(e:r.ot.length=16)(k:r.payload.size<=10000):yQ prog af uf 80 AA (pz m f) (.ret (iD m.link r)) [.w (.agg (qo r))] (fun o=>.w (.agg (h_ o))):=by intro O l c d;have M:=aRX;refine nS func80 rfl rfl (fun A n p=>?_);refine bU ?_ ?_;simp;exact⟨⟨c,d,b,hl,e⟩,fun h j i _=>⟨j,i⟩,b,a_⟩;refine bZ (fun a w g=>⟨.inr rfl,_,⟨?_,⟨pz m f,rfl,eQ rfl⟩,?_⟩,g⟩);rotate_left 1;rfl;refine aZ (ay) d_ ay ay ?_;rfl
end Pv
section
open Go.RowKit Go.Shelf
def dV:Ren:=
{
 f:=fun x=>
  match x with
  |4=>177
  |n=>n,
 t:=fun x=>
  match x with
  |22=>74
  |25=>5
  |3=>3
  |4=>4
  |9=>9
  |20=>20
  |0=>0
  |n=>n,
 g:=fun x=>
  have n:=x;
  n }
theorem Nb:Lays8.n4 prog dV:=
{mixed := aBP true,
  f4:=
    Exists.intro "slices.Grow[[]byte,byte]"
      ⟨of_decide_eq_true (id (aBP true)),
        aBE func177
          (congrArg some
            (
             aBP
             ({
              name := "slices.Grow[[]byte,byte]",origin:=(Body8.n4 dV).origin,
              targs:=(Body8.n4 dV).targs,params:=(Body8.n4 dV).params,
              resultTypes:=(Body8.n4 dV).resultTypes,nfree:=(Body8.n4 dV).nfree,
              ntmps:=(Body8.n4 dV).ntmps,results:=(Body8.n4 dV).results,
              body:=(Body8.n4 dV).body,norace:=(Body8.n4 dV).norace,
              ours:=(Body8.n4 dV).ours,file:=(Body8.n4 dV).file,
              endLine := (Body8.n4 dV).endLine, litNo := (Body8.n4 dV).litNo,
              met:=(Body8.n4 dV).met,tmpNames:=(Body8.n4 dV).tmpNames }:Go.Func)))⟩,
  t0:=underlying0,a0:=isAgg0,z0:=sizeOf0,v0:=zeroValue0,t3:=underlying3,
  a3:=isAgg3,z3:=sizeOf3,v3:=zeroValue3,t4:=underlying4,a4:=isAgg4,
  z4:=sizeOf4,v4:=zeroValue4,t9:=underlying9,a9:=isAgg9,z9:=sizeOf9,
  v9:=zeroValue9,t20:=underlying20,a20:=isAgg20,z20:=sizeOf20,v20:=zeroValue20,
  t22:=underlying74,a22:=isAgg74,z22:=sizeOf74,v22:=zeroValue74 }
theorem aQk(z:mg)(n:Nat):(Builtin.zeroCells z n).size=n*z.size:=by unfold Builtin.zeroCells;simp
theorem OL(n:Nat)(w:ae)(hn:0<n)(hb:n<=1000000000000):lL prog 177 #[.slice none 0 0,.int .i64 n] w fun e b=>∃ c,e=.returned (.slice (some ⟨w.heap.size,0,none⟩) 0 c)/\b.ownsRow w.heap.size 5 1 (.slice (some ⟨w.heap.size,0,none⟩) 0 c) 0 []/\Ext w b:=by obtain⟨_,⟨g,z,k,i,j,f,d⟩,_,_⟩:=gV;refine (Any8.slices_Grow_grow Nb g z k i a_ none 0 0 n [] w (dE _) a_ (by rw[f];omega) a_ d_ (fun _=>rfl) (fun a h=>by cases h)).mono ?_;rintro e b ⟨rfl,rfl⟩;have m:=grownCap_ge w (0+n) 0 (dV.t 25);have l:=grownCap_le_maxLen w (0+n) 0 (dV.t 25) (by unfold maxLen;omega);refine⟨_,rfl,⟨d_,.inr ⟨w.heap.size,_,_,rfl,dE _,heap_alloc_new w.drew _,x8 _,l,?_,d_⟩⟩,(Ext.refl w).drew.alloc _⟩;simp only[Array.size_append,aQk,d];simp;rw[mf] at m;omega
end
theorem aUb(a:List di)(k:Nat)(h:k<a.length):(a.take (k+1)).flatten=(a.take k).flatten++a[k]:=by rw[aDR,zH h,List.flatten_append];simp
theorem bGi(a:List di)(m:Nat)(h:∀ p∈a,p.length<=m):a.flatten.length<=a.length*m:=by
 induction a with
 |nil=>simp|cons p l b=>have e:=h p d_;have d:=b (fun q c=>h q (by simp[c]));rw[List.flatten_cons,gz,We,aDL];omega
theorem aUa(a:List di)(k:Nat):(a.take k).flatten.length<=a.flatten.length:=by have h:=congrArg (fun l=>l.flatten.length) (aCY k a);simp only[List.flatten_append,gz] at h;omega
theorem Xm{w:ae}{B:Nat}{e:bu}{s:Nat}{v:ag}{n:Nat}{xs:jl}(h:w.ownsRow B e s v n xs):∀ g,v.ownBlock=some g->B<=g:=by intro g a;rcases h.2 with⟨rfl,rfl⟩|⟨c,cap,d,rfl,b,_⟩;simp[Value.ownBlock] at a;simp[Value.ownBlock] at a;omega
theorem bGy(pv:ag)(a:List di)(w:ae)(J:Parts w pv a)(a0:a.length<=1000)(j:∀ p∈a,p.length<=1000000)(h0:0<a.flatten.length)(hS:∀ X,Ext w X->Parts X pv a) :
  lL prog 144 #[pv] w fun e S=>∃ A c,e=.returned (.slice A a.flatten.length c)/\S.ownsRow w.heap.size 5 1 (.slice A a.flatten.length c) a.flatten.length (a.flatten.map j_)/\Ext w S:=by
 have HP:=hide J;have HS:=hide hS;have O:=hide j;have D:=bGi a 1000000 j;have G:=hide (aUa a);obtain⟨A1,c1,rfl⟩:∃ A c,pv=.slice A a.length c:=by obtain⟨U,_,⟨_,A,c,h,_⟩,_⟩:=J;exact⟨A,c,h⟩
 obtain⟨T,L⟩:∃ T,T=a.flatten.length:=⟨_,rfl⟩;rw[<-L] at h0 D ⊢;have H:=hide L;clear J hS j L;have HG:=hide (fun (w:ae)=>OL T w h0 a_)
 go_enter func144,ntmps144
 go_wp2
 go_loopw [3,11] (fun b i wr=>∃ (k n:Nat),k<=a.length/\i=.int .i64 k/\b=.int .i64 n/\n<=T/\Hid (n=(a.take k).flatten.length)/\wr=w) (fun _ i _=>a.length-(intOf i).toNat)
 case atStart=>exact⟨0,0,x8 _,rfl,rfl,x8 _,hide d_,rfl⟩
 case round=>
  obtain⟨k,n,hk,rfl,rfl,hn,P,B⟩:=hrel;have z:=B.symm;clear B;subst z;by_cases d:k<a.length
  ·have g:Parts w (.slice A1 a.length c1) a:=aA HP;obtain⟨U,I,y,x⟩:=g;obtain⟨u,t,q⟩:=x k a[k] (zH d);obtain⟨b,o,c',u',r,_,_,hb,C,K⟩:=y.Ef d;cases r;rw[t] at C;cases C;obtain⟨Au,cu,rfl⟩:∃ A c,u=.slice A a[k].length c:=by obtain⟨_,A,c,h,_⟩:=q;exact⟨A,c,h⟩
   have a1:=aA O a[k] (aBI d);have s:=hide (aUb a k d);have l:=aA G (k+1);rw[aA s,gz,<-aA P,<-aA H] at l;clear I y x t q;generalize a[k]=p at *;have W:¬((n:Int)+(p.length:Int)<0):=a_
   go_wp2
   refine⟨⟨k+1,n+p.length,a_,by go_num,by go_num,a_,hide ?_,trivial⟩,by simp[intOf];omega⟩;rw[aA s,gz,<-aA P]
  ·obtain rfl:k=a.length:=a_;obtain rfl:n=T:=by rw[aA P,aA H,aCR]
   go_wp2_with (go_at_call 177;refine (aA HG _).mono ?_;rintro e w3 ⟨c3,rfl,E,F⟩;have H3:=hide (az E F);clear E F)
   go_loopw [6,27] (fun b i Q=>∃ (k m:Nat) (A:Option Addr) (c:Nat),k<=a.length/\i=.int .i64 k/\b=.slice A m c/\m<=n/\Hid (m=(a.take k).flatten.length/\Q.ownsRow w.heap.size 5 1 (.slice A m c) m ((a.take k).flatten.map j_)/\Ext w Q)) (fun _ i _=>a.length-(intOf i).toNat)
   case atStart=>exact⟨0,0,_,c3,x8 _,rfl,rfl,x8 _,hide ⟨d_,by simpa using (aA H3).1,(aA H3).2⟩⟩
   case round=>
    obtain⟨k,m,A,c,hk,rfl,rfl,hm,f⟩:=hrel;by_cases d:k<a.length
    ·have g:Parts wr (.slice A1 a.length c1) a:=aA HS wr (aA f).2.2;obtain⟨U,I,y,x⟩:=g;obtain⟨u,t,q⟩:=x k a[k] (zH d);obtain⟨b,o,c',u',r,_,_,hb,C,K⟩:=y.Ef d;cases r;rw[t] at C;cases C;obtain⟨Au,cu,rfl⟩:∃ A c,u=.slice A a[k].length c:=by obtain⟨_,A,c,h,_⟩:=q;exact⟨A,c,h⟩
     have s:=hide (aUb a k d);have l:=aA G (k+1);rw[aA s,gz,<-(aA f).1,<-aA H] at l;have N:=hide q;clear I y x t q;generalize a[k]=p at *
     go_wp2_with (at_builtin;refine bQ rfl rfl gV rfl (aA f).2.1 rfl (aA N) (dN.u8 _) a_ (aA f).2.2.size' ?_;intro A' c4 w4 V Y r;have H4:=hide (az V (Onto.EN (aA f).2.2 (Onto.app Y r) (Xm (aA f).2.1)));clear V Y r)
     go_roundw
     case rel=>refine⟨k+1,m+p.length,A',c4,a_,by go_num,rfl,a_,hide ⟨?_,?_,(aA H4).2⟩⟩;rw[aA s,gz,<-(aA f).1];rw[aA s,aBc];exact (aA H4).1
     case measure=>simp[intOf];omega
    ·obtain rfl:k=a.length:=a_
     go_wp2
     go_ret;obtain⟨h1,Z,h3⟩:=aA f;rw[aCR] at h1 Z
     obtain rfl:m=n:=by rw[h1,aA H]
     exact⟨A,c,rfl,Z,h3⟩
namespace Pv
def aNi:Spec:=fun a b=>match b with
 |[c]=>Ib c fun pl=>.need (pl.length<=1000/\(∀ p∈pl,p.length<=1000000)/\0<pl.flatten.length) (.new a (.arr 5 1 pl.flatten.length (oz pl.flatten)) fun v=>.ret (dm (.ow a v 1 0 pl.flatten.length)))|_=>.fail
theorem bQy:b_ prog af 144 aNi:=by
 refine⟨aB func144 ai rfl,fun A s a w x l k j F h G m b=>?_⟩;unfold aNi at b;split at b;rotate_left;exact b.elim;rename_i E
 match j,m with
 |[pv],⟨u,_⟩=>obtain⟨pl,g,b⟩:=aGk h u b;obtain⟨⟨B,z,y⟩,b⟩:=b;refine (bGy pv pl w g B z y (fun X p=>g.ext p)).mono ?_;rintro e D ⟨H,c,rfl,n,q⟩;obtain⟨d,t,r⟩:=h.BP l 5 1 pl.flatten.length (f:=oz pl.flatten) q n (fun C i o=>qE C pl.flatten i o);exact .inl ⟨_,_,_,d,rfl,b,t,r⟩
def Tj:List (Nat×Spec):=(144,aNi)::aLn
theorem N8:∀ p∈Tj,b_ prog af p.1 p.2:=by intro p a;simp only[Tj,xn] at a;rcases a with rfl|a;exact bQy;exact aFq p a
theorem aRW:jq prog af (find Tj):=⟨aY N8,dB⟩
def jZ(r:jv):di:=dn r.kind++(dn r.level++(r.ot++(dn r.ol++bI r.payload.data.toList)))
def kR(root:di):di:=mX root [109,111,118,101] []
def mG(root:di)(r:jv):di:=dn r.level++(bI (dM (kR root) r.level (jZ r))++tq (kR root) r.level (dM (kR root) r.level (jZ r)))
def gG(root:di)(r:jv):jy:=strOf (mG root r)
theorem bMp(r:jv)(root:di)(h1:gy r.kind)(h2:gy r.level)(h3:gy r.ol)(h4:r.ot.length=16)(h5:root.length=16)(g:r.payload.size<=10000):fQ prog af 102 true [.w (.agg (qo r)),.w (.agg [.bs 16 root])] (n_ (gG root r)):=by have M:=aRW;have f:=aO r.kind;have e:=aO r.level;have d:=aO r.ol;have c:=fG r.payload.data.toList;have b:r.payload.data.toList.length=r.payload.size:=nz;refine bH func102 rfl rfl bJ (fun A i h j=>?_);refine bU ?_ ?_;simp;exact⟨h1,h2,h3,a_,⟨a_,a_,a_,a_,a_⟩,a_⟩;refine aH ?_ ?_;simp[↓eP];refine⟨⟨a_,jb⟩,h2,?_⟩;show (strOf _).size<=100000;rw[bC];simp;omega;refine aH ?_ ?_;have a:=fG (dM (mX root [109,111,118,101] []) r.level (jZ r));rw[cZ] at a;simp[jZ] at a;simp[↓eP,bC,bY,cZ,gW];exact⟨h2,a_⟩;refine jB ?_;simp[↓eP,bY,gG,mG,jZ,kR];rfl
def Ti:List (Nat×Spec):=(138,IG jC fun l=>zV (dh l))::(139,IG jC fun l=>Ew (iF l))::Tj
theorem N7:∀ p∈Ti,b_ prog af p.1 p.2:=by intro p a;simp only[Ti,xn] at a;rcases a with rfl|rfl|a;exact pM (aB func138 ai rfl) aLv;exact pM (aB func139 ai rfl) aEo;exact N8 p a
theorem aHW:jq prog af (find Ti):=⟨aY N7,dB⟩
inductive E8 where
 |EM|Es|okR (p:di)
def E8.pv:E8->PV
 |.EM=>.o7 [.one (.lit (.slice none 0 0)),.one (.lit (.bool false))]|.Es=>.o7 [.one (.sl 1 0 (oz [])),.one (.lit (.bool false))]|.okR p=>.o7 [.one (.sl 1 p.length (oz p)),.one (.lit (.bool true))]
def bLt(root:di)(q:Int)(c t:di):E8:=if tq (kR root) q c=t then .okR (dM (kR root) q c) else .Es
def wV(root b:di):E8:=
 if (dh b).2.2≠0 then .EM else
  if (iF (b.drop (dh b).2.1)).2.2≠0\/b.length≠(dh b).2.1+(iF (b.drop (dh b).2.1)).2.1+16 then .EM else
   bLt root (dh b).1 (iF (b.drop (dh b).2.1)).1 (b.drop ((dh b).2.1+(iF (b.drop (dh b).2.1)).2.1))
theorem LG(root:di)(s:jy)(hr:root.length=16)(hs:s.size<=100000):fQ prog af 136 false [.w (.agg [.bs 16 root]),n_ s] (wV root s.data.toList).pv:=by
 have M:=aHW;have D:s.data.toList.length=s.size:=nz;refine bH func136 rfl rfl bJ (fun A O L P=>?_);refine bU ?_ ?_;simp;omega;refine aW (⟨[(2,none,dm (.pt 0 0 0)),(6,none,o6 s.data.toList)],[(0,none,0,.box 23 [.bs 16 root])]⟩) ?_ ?_ ?_;refine .cr (.cons ?_ .nil);rw[<-D];exact r_;generalize s.data.toList=b at *;refine aH ?_ ?_;simp;show b.length<4611686018427387904;omega;refine aW (⟨[(2,none,dm (.pt 0 0 0)),(6,none,o6 b),(7,none,dw (dh b).1),(8,none,dw ((dh b).2.1:Int)),(9,none,dw (dh b).2.2)],[(0,none,0,.box 23 [.bs 16 root])]⟩) ?_ ?_ ?_;rw[eP];exact iq;exact r_;have C:=nR b;have l:=fV b;obtain⟨m,a⟩:=jc (wV root b);rw[a];unfold wV at a;generalize N:dh b=g at *;obtain⟨q,k,e⟩:=g;dsimp only at *;refine aJ (fun d=>?_) (fun d=>?_);refine gB ?_;have h:e≠0:=by simpa using d
 rw[au h] at a;rw[<-a];rfl;have h:¬e≠0:=by simpa using d
 rw[ah h] at a;refine jK ?_ ?_;simp;refine⟨C.1,?_⟩;unfold jC;rw[dP];omega;have r:(rowB ((b.length:Int)-(k:Int)).toNat fun i=>oz b ((k:Int).toNat+i))=b.drop k:=by rw[show ((b.length:Int)-(k:Int)).toNat=b.length-k from a_,show (k:Int).toNat=k from a_,lU a_];exact WF (by rw[MM];exact dE _)
 have y:=kD (b.drop k);have o:=aPe (b.drop k);rw[MM] at y o;refine aW (⟨[(2,none,dm (.pt 0 0 0)),(6,none,o6 b),(7,none,dw q),(8,none,dw (k:Int)),(9,none,dw (iF (b.drop k)).2.2),(10,none,n_ (strOf (iF (b.drop k)).1)),(11,none,dw ((iF (b.drop k)).2.1:Int))],[(0,none,0,.box 23 [.bs 16 root])]⟩) ?_ ?_ ?_;rw[r];exact iq;exact r_;generalize iF (b.drop k)=K at *;obtain⟨c,n,H⟩:=K;dsimp only at *;have f:IntKind.wrap .i64 ((k:Int)+(n:Int))=((k+n:Nat):Int):=by rw[PP];omega
 have I:IntKind.wrap .i64 (((k+n:Nat):Int)+16)=((k+n+16:Nat):Int):=by rw[PP];omega
 refine aJ (fun d=>?_) (fun d=>?_);refine gB ?_;simp[f] at d;have x:H≠0\/b.length≠k+n+16:=by rcases d with j|j;exact .inl j;refine .inr (fun G=>j ?_);rw[PP];omega
 rw[au x] at a;rw[<-a];rfl;refine fZ ?_;simp[f] at d;have x:¬(H≠0\/b.length≠k+n+16):=by rintro (j|j);exact j d.1;have G:=d.2;rw[PP] at G;omega
 rw[ah x] at a;have E:b.length=k+n+16:=by by_cases F:b.length=k+n+16;exact F;exact absurd (.inr F) x
 have z:gy q:=l;refine aH ?_ ?_;simp;rw[f,bC];exact⟨⟨a_,jb⟩,⟨a_,a_⟩,⟨a_,a_⟩,a_,z,a_⟩;have p:(rowB 16 fun i=>oz b ((IntKind.wrap .i64 ((k:Int)+(n:Int))).toNat+i))=b.drop (k+n):=by rw[f,VM,lU a_];exact WF (by rw[MM];omega)
 generalize b.drop (k+n)=t at *;refine aW (⟨[(9,none,dw (bif opened (kR root) q (strOf c) t then 0 else 8)),(12,none,n_ (bif opened (kR root) q (strOf c) t then strOf (dM (kR root) q (strOf c).data.toList) else { data:=#[] }))],[]⟩) ?_ ?_ ?_;rw[p];exact iq;exact .nil;unfold bLt at a;by_cases u:tq (kR root) q c=t;have B:opened (kR root) q (strOf c) t=true:=by unfold opened;rw[bY,u];simp
 rw[B,bY];rw[au u] at a;have J:=cZ (kR root) q c;generalize dM (kR root) q c=X at *;change kw _ _ ⟨[(9,none,dw 0),(12,none,n_ (strOf X))],[]⟩ _ _;refine aH ?_ ?_;simp;rw[bC];omega;refine jB ?_;rw[<-a];show PV.o7 [.one (.sl 1 (strOf X).size (oz (strOf X).data.toList)),_]=_;rw[bC,bY];rfl;have B:opened (kR root) q (strOf c) t=false:=by unfold opened;rw[bY];simpa using u
 rw[B];rw[ah u] at a;change kw _ _ ⟨[(9,none,dw 8),(12,none,n_ { data:=#[] })],[]⟩ _ _;refine aH ?_ ?_;simp;decide;refine jB ?_;rw[<-a];rfl
theorem aAL(x y:Nat)(t u:bu)(l c l' m a:g_)(bl:Nat->Nat)(D:Dv):SX [⟨x,t,l,l'⟩,⟨y,u,m,a⟩] bl D=SX [⟨x,t,c,l'⟩,⟨y,u,m,a⟩] bl D:=by funext b;simp[SX]
theorem y_.cells2{P:ed}{I:jg}{f:Nat}{new:Bool}{x y:Nat}{t u:bu}{l d l' m c:g_}{O:ut}{gm:je->Prop}{args:ji}{b:PV}
  (h:y_ P I f new [⟨x,t,d,l'⟩,⟨y,u,m,c⟩] O none gm args b) (hl:∀ C s,RL C l s->RL C d s):y_ P I f new [⟨x,t,l,l'⟩,⟨y,u,m,c⟩] O none gm args b:=by
 intro w i G bl D X0 F E Z Y X W V B U r;rw[aAL x y t u l d l' m c] at F E ⊢;refine (h w i G bl D X0 F E Z Y X W V (fun o a=>?_) (fun o a Q q A=>?_) r).mono ?_;rcases List.mem_cons.1 a with rfl|a;obtain⟨p,cs,n,k⟩:=B _ aAw
 exact⟨p,cs,n,hl _ _ k⟩;exact B _ (aAD _ a)
 have e:∀ o:Ob,o∈[(⟨x,t,d,l'⟩:Ob),⟨y,u,m,c⟩]->∃ j∈[(⟨x,t,l,l'⟩:Ob),⟨y,u,m,c⟩],j.x=o.x:=fun o a=>by
  rcases List.mem_cons.1 a with rfl|a
  exact⟨_,aAw,rfl⟩;exact⟨o,aAD _ a,rfl⟩
 obtain⟨j,L,K⟩:=e o a;obtain⟨N,J,H⟩:=e Q q;rw[<-K,<-H] at A ⊢;exact U j L N J A;rintro e w' ⟨p,n⟩;refine⟨p,n.imp (fun⟨g,k,T,z,S⟩=>⟨g,k,T,fun o a=>?_,S⟩) id⟩;rcases List.mem_cons.1 a with rfl|a;exact z ⟨x,t,d,l'⟩ aAw;exact z o (aAD _ a)
def W9(L:di)(ok:Bool):List Ob:=[⟨px,74,[.sl 1 L.length (oz L)],[.sl 1 (L.drop (dh L).2.1).length (oz (L.drop (dh L).2.1))]⟩,⟨px+1,4,[.lit (.bool ok)],[.lit (.bool (ok&&(dh L).2.2==0))]⟩]
theorem aRx{L:di}{k:Nat}(h:k<=L.length):PC.sl 1 ((L.length:Int)-(k:Int)).toNat (fun i=>oz L ((k:Int).toNat+i))=.sl 1 (L.drop k).length (oz (L.drop k)):=by rw[VM,Q9,MM];congr 1;omega
theorem La(L:di)(ok:Bool)(f:jC L):y_ prog af 137 false (W9 L ok) (fun _=>none) none (fun _=>False) [dm (.pt px 0 0),dm (.pt (px+1) 0 0)] (dw (dh L).1):=by
 have M:=aHW;have b:=nR L;refine dL func137 rfl rfl ay (fun A g h=>?_);refine bU ?_ ?_;simp;exact f;refine aI ?_;refine aW (⟨[(0,none,dm (.pt px 0 0)),(3,none,dw (dh L).1),(4,none,dw ((dh L).2.1:Int))],[(px,none,0,.box 74 [.sl 1 L.length (oz L)]),(px+1,none,0,.box 4 [.lit (.bool (ok&&(dh L).2.2==0))])]⟩) ?_ ?_ ?_;rw[eP];exact iq
 ·refine .cb (.cons (.box ?_) .nil);rw[eP]
  cases ok<;>rfl
 refine aH ?_ ?_;simp;exact b.1;refine aI ?_;refine bZ (fun a w e=>⟨.inr rfl,_,⟨?_,fun o c=>?_,fun p d=>by cases d⟩,e⟩);rotate_left 1;simp only[W9,xn,aAe,or_false] at c;rcases c with rfl|rfl
 refine⟨_,rfl,?_⟩;rw[aRx b.1];exact eQ rfl;exact⟨_,rfl,eQ rfl⟩;refine aZ (ay) d_ ay ay ?_;rfl
def GG(i:Nat):PV->Bool
 |.w (.one (.pt x v o))=>bz x (px+i)&&(bz v 0&&bz o 0)|_=>false
theorem bBu{i:Nat}{v:PV}(h:GG i v=true):v=dm (.pt (px+i) 0 0):=by unfold GG at h;split at h;rw[zg,zg] at h;rw[iy h.1,iy h.2.1,iy h.2.2];cases h
def Vg:Spec:=bBh fun c a=>match c,a with
 |[(t0,[.sl k len f]),(t1,[.lit (.bool ok)])],[b,p1]=>
  (match bz t0 74&&(bz t1 4&&(bz k 1&&(GG 0 b&&GG 1 p1))) with
  |true=>some (Gg len f/\jC (rowB len f),[[.sl 1 ((rowB len f).drop (dh (rowB len f)).2.1).length (oz ((rowB len f).drop (dh (rowB len f)).2.1))],[.lit (.bool (ok&&(dh (rowB len f)).2.2==0))]],dw (dh (rowB len f)).1)|false=>none)
 |_,_=>none
theorem Y1:b_ prog af 137 Vg:=by
 refine aSr (aB func137 ai rfl) (fun l y p H r b e d=>?_);split at b;rename_i B k len f A ok E D a;split at b;rename_i g;simp only[zg] at g;obtain⟨x,w,u,j,i⟩:=g;cases b
 match l,a with
 | [G,F],a=>
  simp only[aAJ,aCU,List.cons.injEq,Prod.mk.injEq,and_true] at a;obtain⟨⟨q,n⟩,⟨c,m⟩⟩:=a;have t:=iy x;have s:=iy w;obtain rfl:=iy u;have:=La (rowB len f) ok d.2;unfold Hz Hz Hz;rw[bBu j,bBu i,q,c,t,s,n,m];refine y_.cells2 this (fun C z h=>?_);cases h with
  |cons c o=>refine .cons ?_ o;rw[dP];exact c.BH (bRi d.1)
 cases b;cases b
def Vf(R:E8):Spec:=aV false fun a=>match a with
 |[.w (.agg [.bs 16 root]),.w (.one (.lit (.string s)))]=>some (root.length=16/\s.size<=100000/\wV root s.data.toList=R,R.pv)|_=>none
theorem Xo(R:E8):b_ prog af 136 (Vf R):=by refine aU (aB func136 ai rfl) (fun c p r b a=>?_);split at b;cases b;have:=LG _ _ a.1 a.2.1;rw[a.2.2] at this;exact this;cases b
def IA:g_->Option jv
 |[.lit (.int .i64 k),.lit (.int .i64 l),.bs 16 t,.lit (.int .i64 n),.lit (.string p)]=>some ⟨k,l,t,n,p⟩|_=>none
theorem zN{l:g_}{r:jv}(h:IA l=some r):l=qo r:=by unfold IA at h;split at h;cases h;rfl;cases h
structure Dh(r:jv):Prop where
 kind:gy r.kind
 level:gy r.level
 ol:gy r.ol
 ot:r.ot.length=16
 payload:r.payload.size<=10000
def bJg:Spec:=aV true fun a=>match a with
 |[.w (.agg l),.w (.agg [.bs 16 root])]=>(match IA l with
  |some r=>some (Dh r/\root.length=16,n_ (gG root r))|none=>none)
 |_=>none
theorem bMt:b_ prog af 102 bJg:=by
 refine aU (aB func102 ai rfl) (fun e p r b a=>?_);split at b;rename_i l c;cases d:IA l with
 |none=>rw[d] at b;cases b|some q=>rw[d] at b;cases b;rw[zN d];exact bMp q c a.1.kind a.1.level a.1.ol a.1.ot a.2 a.1.payload
 cases b
def Y8(R:E8):List (Nat×Spec):=(137,Vg)::(136,Vf R)::(102,bJg)::Ti
theorem YA(R:E8):∀ p∈Y8 R,b_ prog af p.1 p.2:=by intro p a;simp only[Y8,xn] at a;rcases a with rfl|rfl|rfl|a;exact Y1;exact Xo R;exact bMt;exact N7 p a
theorem aRV(R:E8):jq prog af (find (Y8 R)):=⟨aY (YA R),dB⟩
def WB(root:di)(s:jy)(b a:Int)(r:jv):jv×Bool:=(r,decide (b=0/\a=0/\(r.kind=1\/r.kind=2)/\0<=r.level/\r.level<=16/\gG root r=s))
def WC(root:di)(s:jy)(b:Bool)(d c:Int)(a:di):jv×Bool:=
 if b=false\/a.length<16 then (BA,false) else
  WB root s (dh (a.drop 16)).2.2 (iF ((a.drop 16).drop (dh (a.drop 16)).2.1)).2.2 ⟨d,c,a.take 16,(dh (a.drop 16)).1,strOf (iF ((a.drop 16).drop (dh (a.drop 16)).2.1)).1⟩
def MX(root:di)(s:jy):E8->jv×Bool
 |.EM=>(BA,false)|.Es=>(BA,false)|.okR p=>WC root s ((true&&(dh p).2.2==0)&&(dh (p.drop (dh p).2.1)).2.2==0) (dh p).1 (dh (p.drop (dh p).2.1)).1 ((p.drop (dh p).2.1).drop (dh (p.drop (dh p).2.1)).2.1)
def GU(d:jv×Bool):PV:=.o7 [.agg (qo d.1),.one (.lit (.bool d.2))]
theorem aHt{root b p:di}(h:wV root b=.okR p):p.length<=b.length:=by have a:=kD (b.drop (dh b).2.1);rw[MM] at a;unfold wV at h;split at h;cases h;split at h;cases h;unfold bLt at h;split at h;cases h;rw[cZ];omega;cases h
theorem bMq(root:di)(s:jy)(hr:root.length=16)(hs:s.size<=5000):fQ prog af 99 true [.w (.agg [.bs 16 root]),n_ s] (GU (MX root s (wV root s.data.toList))):=by
 obtain⟨R,u⟩:=jc (wV root s.data.toList);rw[u];have M:=aRV R;refine bH func99 rfl rfl bJ (fun A hS hn hI=>?_);refine aI ?_;cases R with
 |EM=>refine aH ?_ ?_;simp;exact⟨hr,a_,u⟩;refine aJ (fun j=>?_) (fun j=>?_);refine aI ?_;exact kE;cases j|Es=>refine aH ?_ ?_;simp;exact⟨hr,a_,u⟩;refine aJ (fun j=>?_) (fun j=>?_);refine aI ?_;exact kE;cases j| okR p=>
  refine aH ?_ ?_;simp;exact⟨hr,a_,u⟩;refine aJ (fun j=>?_) (fun j=>?_);cases j;refine dS ?_;have I:=aHt u;rw[show s.data.toList.length=s.size from nz] at I;have P:=nR p;have C:=fV p;refine aH ?_ ?_;simp;unfold jC;rw[dP];omega;obtain⟨e,n⟩:=jc ((p.drop (dh p).2.1).drop (dh (p.drop (dh p).2.1)).2.1);obtain⟨f,l⟩:=jc (((true&&(dh p).2.2==0)&&(dh (p.drop (dh p).2.1)).2.2==0))
  refine bK (s':=⟨[(1,none,n_ s),(2,none,dm (.pt 0 0 0)),(4,none,dm (.pt 1 0 0)),(5,none,dm (.pt 2 0 0)),(6,none,dm (.pt 1006 0 0)),(7,none,dm (.fn (.func 137) [] [.pt 1006 0 0,.pt 2 0 0]))],
   [(0,none,0,.box 23 [.bs 16 root]),(1,none,0,.box 149 (qo ⟨(dh p).1,(dh (p.drop (dh p).2.1)).1,y8,0,aC⟩)),(2,none,0,.box 4 [.lit (.bool f)]),(1006,none,0,.box 74 [.sl 1 e.length (oz e)])]⟩) (fun a w r=>(r.reset (kT:=[1,2,4,5,6,7]) (kO:=[0,1,2,1006]) ay d_).same ?_ ?_) ?_
  exact iq;refine .cb (.cons (.box ?_) (.cons (.box ?_) (.cons (.box ?_) .nil)));simp only[eP];rfl;simp only[eP];rw[<-l];simp only[eP];rw[<-n];have B:=fV (p.drop (dh p).2.1);have N:e.length<=p.length:=by rw[<-n,MM,MM];omega
  obtain⟨d,o⟩:=jc (MX root s (.okR p));rw[o];unfold MX at o;dsimp only at o;rw[n,l] at o;unfold WC at o;generalize (dh p).1=y at *;generalize (dh (p.drop (dh p).2.1)).1=x at *;clear n l u;refine aJ (fun j=>?_) (fun j=>?_);refine gB ?_;have h:f=false\/e.length<16:=by cases f;exact .inl rfl;simp at j;exact .inr a_
  rw[au h] at o;rw[<-o];rfl;refine fZ ?_;have h:¬(f=false\/e.length<16):=by cases f;cases j;simp at j;intro h;rcases h with h|h;cases h;omega
  have J:16<=e.length:=by rcases aAW e.length 16 with D|D;exact absurd (.inr D) h;exact D
  obtain rfl:f=true:=by cases f;exact absurd (.inl rfl) h;rfl
  rw[ah h] at o;refine aH ?_ ?_;simp;omega
  refine bK (s':=⟨[(1,none,n_ s),(2,none,dm (.pt 0 0 0)),(4,none,dm (.pt 1 0 0)),(5,none,dm (.pt 2 0 0)),(6,none,dm (.pt 1006 0 0)),(7,none,dm (.fn (.func 137) [] [.pt 1006 0 0,.pt 2 0 0]))],
   [(0,none,0,.box 23 [.bs 16 root]),(1,none,0,.box 149 (qo ⟨y,x,e.take 16,0,aC⟩)),(2,none,0,.box 4 [.lit (.bool true)]),(1006,none,0,.box 74 [.sl 1 (e.drop 16).length (oz (e.drop 16))])]⟩) (fun a w r=>(r.reset (kT:=[1,2,4,5,6,7]) (kO:=[0,1,2,1006]) ay d_).same ?_ ?_) ?_
  exact iq;refine .cb (.cons (.box ?_) (.cb (.cons (.box ?_) .nil)));rw[show (rowB 16 fun i=>oz e (aBF 0+i))=e.take 16 from (lU (L:=e) (k:=0) (m:=16) a_).trans (by rw[aBk])];rfl;exact congrArg (fun c=>[c]) (aRx J);have S:(e.drop 16).length<=e.length:=by rw[MM];omega
  have H:(e.take 16).length=16:=by rw[ww];omega
  generalize e.drop 16=g at *;generalize e.take 16=t at *;have O:=nR g;have z:=fV g;refine aH ?_ ?_;simp;unfold jC;omega;have Q:(g.drop (dh g).2.1).length<=g.length:=by rw[MM];omega
  refine bK (s':=⟨[(1,none,n_ s),(2,none,dm (.pt 0 0 0)),(4,none,dm (.pt 1 0 0)),(5,none,dm (.pt 2 0 0)),(6,none,dm (.pt 1006 0 0))],
   [(0,none,0,.box 23 [.bs 16 root]),(1,none,0,.box 149 (qo ⟨y,x,t,(dh g).1,aC⟩)),(2,none,0,.box 4 [.lit (.bool ((dh g).2.2==0))]),(1006,none,0,.box 74 [.sl 1 (g.drop (dh g).2.1).length (oz (g.drop (dh g).2.1))])]⟩) (fun a w r=>(r.reset (kT:=[1,2,4,5,6]) (kO:=[0,1,2,1006]) ay d_).same ?_ ?_) ?_
  exact iq;refine .cb (.cons (.box ?_) (.cons (.box ?_) (.cons (.box ?_) .nil)));simp only[eP];rfl;simp only[eP];rfl;simp only[eP];generalize g.drop (dh g).2.1=F at *;generalize dh g=X at *;obtain⟨G,u3,Y⟩:=X;dsimp only at *;have K:=kD F;refine aH ?_ ?_;simp;unfold jC;omega
  refine bK (s':=⟨[(1,none,n_ s),(2,none,dm (.pt 0 0 0)),(4,none,dm (.pt 1 0 0)),(5,none,dm (.pt 2 0 0)),(8,none,n_ (strOf (iF F).1)),(10,none,dw (iF F).2.2)],
   [(0,none,0,.box 23 [.bs 16 root]),(1,none,0,.box 149 (qo ⟨y,x,t,G,aC⟩)),(2,none,0,.box 4 [.lit (.bool (Y==0))])]⟩) (fun a w r=>(r.reset (kT:=[1,2,4,5,8,10]) (kO:=[0,1,2]) ay d_).same ?_ ?_) ?_
  rw[eP];exact iq;exact r_;generalize iF F=W at *;obtain⟨q,Z,e4⟩:=W;dsimp only at *;refine bU ?_ ?_;simp;exact⟨fun V D U=>⟨⟨V,D⟩,U⟩,fun _ _ _ _ _=>⟨⟨C,B,z,H,by show (strOf q).size<=10000;rw[bC];omega⟩,hr⟩⟩;refine gB ?_;rw[<-o];refine congrArg (fun b=>PV.o7 [.agg (qo ⟨y,x,t,G,strOf q⟩),.one (.lit (.bool b))]) ?_;unfold WB;dsimp only;generalize gG root ⟨y,x,t,G,strOf q⟩=E;have T:E.toList=s.toList↔E=s:=by rw[ByteArray.toList_eq,ByteArray.toList_eq];exact⟨fun h=>aFH (TC h),fun h=>by rw[h]⟩
  rw[Bool.eq_iff_iff];simp[and_assoc,T]
theorem noM{I:jg}:jq prog I (find ([]:List (Nat×Spec))):=⟨fun f a h=>(by cases h),ai⟩
theorem OX{I:jg}(b c:Int):Dl prog I 108 (aj.zu b c) [.w (.one .dv),dw b,dw c] dw:=by intro O l;have M:=noM (I:=I);refine dL func108 rfl rfl rfl (fun A g h=>?_);refine bU ?_ ?_;exact⟨aOf (qM _) (qM _),trivial⟩;refine bZ (fun a w f=>⟨.inr rfl,_,⟨?_,(fun o e=>by cases e),fun p d=>?_⟩,f⟩);rotate_left 1;cases d;rfl;refine aZ (ay) d_ ay ay ?_;rfl
theorem bLi{I:jg}(b c:Int):Dl prog I 110 (aj.yh b c) [.w (.one .dv),dw b,dw c] (fun _=>.o7 []):=by intro O l;have M:=noM (I:=I);refine dL func110 rfl rfl rfl (fun A f h=>?_);refine aS M h f (ay) ai ?_ ?_;exact⟨aOf (qM _) (qM _),trivial⟩;intro a w g;refine⟨.inl rfl,_,⟨?_,(fun o e=>by cases e),fun p d=>?_⟩,g⟩;rotate_left 1;cases d;rfl;refine aZ (ay) d_ ay ay ?_;rfl
def PU(p:Int->Int->aj Int):ji->Option (Prop×aj Int×(Int->PV))
 |[.w (.one (.lit (.int .i64 b))),.w (.one (.lit (.int .i64 c)))]=>some (True,p b c,dw)|_=>none
def Ho(p:Int->Int->aj Unit)(q:Int->Int->Prop):ji->Option (Prop×aj Unit×(Unit->PV))
 |[.w (.one (.lit (.int .i64 b))),.w (.one (.lit (.int .i64 c)))]=>some (q b c,p b c,fun _=>.o7 [])|_=>none
theorem bOi{I:jg}:b_ prog I 108 (oJ (PU aj.zu)):=
 qV (aB func108 ai rfl) (fun a c p v h _=>by
  unfold PU at h;split at h;cases h;exact OX _ _
  cases h)
theorem bEz{I:jg}:b_ prog I 110 (oJ (Ho aj.yh fun _ _=>True)):=
 qV (aB func110 ai rfl) (fun a c p v h _=>by
  unfold Ho at h;split at h;cases h;exact bLi _ _
  cases h)
theorem yB(l:List Int)(x:Int):nonzero (l++[x])=nonzero l+if x=0 then 0 else 1:=by
 unfold nonzero;rw[List.filter_append,gz]
 by_cases h:x=0<;>simp[h]
theorem zI(l:List Int):nonzero l<=l.length:=List.length_filter_le _ _
theorem aSt{l:List Int}{k:Nat}(h:k<l.length):nonzero (l.take (k+1))=nonzero (l.take k)+if l.getD k 0=0 then 0 else 1:=by rw[aDR,zH h,zG,zH h];exact yB _ _
theorem bHm{k:Nat}{f g:Nat->g_}(h1:∀ i,i<k->(f i).all (bT false)=true)(h2:(g 0).all (bT false)=true):∀ i,i<k+1->(ru k f g i).all (bT false)=true:=fun i a=>by unfold ru;by_cases h:i<k;rw[au h];exact h1 i h;obtain rfl:i=k:=a_;rw[ah h,aBa];exact h2
def aHU(l:List Int)(k:Nat):St:=⟨[(0,none,dm (.sl 1 l.length (ES l))),(3,none,dw (nonzero (l.take k))),(6,none,dm (.sl 1 l.length (ES l))),(7,none,dw l.length),(8,none,dw k)],[]⟩
theorem Tt{I:jg}(m:∀ w n,Ext w n->I w->I n)(l:List Int)(hl:l.length<=1000):fQ prog I 109 true [dm (.sl 1 l.length (ES l))] (t_ (nJ l)):=by
 have M:=noM (I:=I);refine bH func109 rfl rfl m (fun A r p t=>?_);refine iC ?_;refine jG ?_;refine aN ?_;refine mZ (aHU l 0) ?_;refine dX l.length (fun k s=>s=aHU l k) 0 rfl a_ (fun k s o q=>?_);subst o;refine qK ?_;refine cO (fun b=>?_) (fun b=>?_);have i:k<l.length:=by simpa using b
 have d:=aSt i;have c:=zI (l.take k);rw[ww] at c;refine gQ ?_;refine aN ?_;refine aH ?_ ?_;simp;omega;refine eH (fun b=>?_) (fun b=>?_);have f:¬l.getD k 0=0:=by have h:(l.getD k 0 != 0)=true:=b;simpa using h
 refine mY ?_;refine fJ ?_;intro a w j;refine⟨k+1,_,a_,a_,rfl,(j.reset (kT:=[0,3,6,7,8]) (kO:=[]) ay d_).same ?_ ?_⟩;refine .cr (.cons ?_ (.cr (.cr (.cons (by rw[bW k a_]) .nil))));rw[bW _ a_,d,ah f];exact .nil;have f:l.getD k 0=0:=by have h:(l.getD k 0 != 0)=false:=b;simpa using h
 refine fZ ?_;refine fJ ?_;intro a w j;refine⟨k+1,_,a_,a_,rfl,(j.reset (kT:=[0,3,6,7,8]) (kO:=[]) ay d_).same ?_ ?_⟩;refine .cr (.cons ?_ (.cr (.cr (.cons (by rw[bW k a_]) .nil))));rw[d,au f,aBK];exact .nil
 have g:k=l.length:=by
  have:¬k<l.length:=by simpa using b
  omega
 subst g;have c:=zI l;refine dK ?_;change kw _ _ _ _ _;refine gB ?_;refine congrArg t_ ?_;rw[aCR];unfold nJ;have e:IntKind.wrap .i64 (2*(nonzero l:Int))=2*(nonzero l:Int):=by rw[PP];omega
 have u:∀ x:Int,decide (x > (l.length:Int))=decide ((l.length:Int)<x):=fun x=>rfl;refine decide_eq_decide.2 ?_;show IntKind.wrap .i64 (2*(nonzero l:Int)) > (l.length:Int)↔_;rw[e];omega
def YE:ji->Option (Prop×PV)
 |[.w (.one (.sl 1 n f))]=>some (aQi n f/\n<=1000,t_ (nJ (Ws n f)))|_=>none
theorem NC{I:jg}(c:∀ w d,Ext w d->I w->I d):b_ prog I 109 (aV true YE):=by
 refine aU (aB func109 ai rfl) (fun k p r a e=>?_);unfold YE at a;split at a;rename_i n f;cases a;have h:=Tt c (Ws n f) (by rw[aBx];exact e.2);rw[aBx] at h;intro w b g j i
 match g,i with
 |[v],⟨k1,_⟩=>exact h w b [v] j ⟨.w (.one (k1.inv.BH (OC e.1))),trivial⟩
 cases a
def DL:List (Nat×Spec):=[(108,oJ (PU aj.zu)),(110,oJ (Ho aj.yh fun _ _=>True)),(109,aV true YE)]
theorem Vs{I:jg}(a:∀ w b,Ext w b->I w->I b):∀ p∈DL,b_ prog I p.1 p.2:=by intro p c;simp only[DL,xn,aAe,or_false] at c;rcases c with rfl|rfl|rfl;exact bOi;exact bEz;exact NC a
theorem rdM{I:jg}(a:∀ w b,Ext w b->I w->I b):jq prog I (find DL):=⟨aY (Vs a),dB⟩
def Qe(a b c:Int)(l:je):Nat->je
 |0=>l|k+1=>Qe a b c l k++[⟨a,b,3*c+k,aC⟩]
def rdV(O:ut)(b c:Int)(l:je)(k:Nat):Int:=(ans O (Qe 1 b c l (k+1))).val
def Xd(O:ut)(b c:Int)(l:je):List Int:=[rdV O b c l 0,rdV O b c l 1,rdV O b c l 2]
theorem UN(O:ut)(b c:Int)(l:je):go O (aj.read b c) l=(nJ (Xd O b c l),Qe 1 b c l 3):=rfl
theorem aFl(a b c:Int)(l:je)(k:Nat):Qe a b c l k <+: Qe a b c l (k+1):=aBW _ _
theorem bKz(a b c:Int)(l:je):∀ k,l <+: Qe a b c l k
 |0=>aCX _|k+1=>(bKz a b c l k).trans (aFl a b c l k)
theorem KY(a b c:Int)(l:je){k:Nat}(d:k<3):Qe a b c l (k+1) <+: Qe a b c l 3:=by
 match k,d with
 |0,_=>exact (aFl _ _ _ _ 1).trans (aFl _ _ _ _ 2)|1,_=>exact aFl _ _ _ _ 2|2,_=>exact aCX _
theorem VY{c:Int}{k:Nat}(hc:0<=c/\c<=100000)(a:k<3):IntKind.wrap .i64 (IntKind.wrap .i64 (3*c)+(k:Int))=3*c+k:=by rw[PP,PP];omega
def aHD(O:ut)(gm:je->Prop)(b c:Int)(l:je)(k:Nat):St:=⟨[(0,none,.w (.one .dv)),(1,none,dw b),(2,none,dw c),(7,none,dm (.ow 5009 0 1 0 k)),(9,none,dw k)],
 [(dx,none,0,.dev O gm (Qe 1 b c l k)),(5009,none,0,.arr 3 1 k (ES (Xd O b c l)))]⟩
theorem KR{I:jg}(y:∀ w z,Ext w z->I w->I z)(b c:Int)(u:0<=c/\c<=100000):Dl prog I 83 (aj.read b c) [.w (.one .dv),dw b,dw c] t_:=by
 intro O l;have M:=rdM y;have r:prog.types[3].bytes=8:=ai;have D:prog.types[3].size=1:=ai;refine dL func83 rfl rfl rfl (fun A G J=>?_);generalize f:(fun h=>l <+: h/\h <+: (go O (aj.read b c) l).2)=gm;refine iC ?_;refine jG ?_;refine aN ?_;refine bK (s':=aHD O gm b c l 0) (fun a w g=>((g.nilRow (x:=5009) (e:=3) (n:=1) (t:=7) ay ay).reset (kT:=[0,1,2,7,9]) (kO:=[900000,5009]) ay d_).same ?_ ?_) ?_;exact iq;exact .cons (.dev rfl) (.cons (.arr rfl (fun i B=>a_)) .nil);refine dX 3 (fun k s=>s=aHD O gm b c l k) 0 rfl a_ (fun k s H L=>?_);subst H;refine qK ?_;refine cO (fun q=>?_) (fun q=>?_);have d:k<3:=by have:=of_decide_eq_true q;omega
 have j:=VY u d;refine gQ ?_;refine aN ?_;refine aI ?_;refine aS M J G (ay) ai ?_ ?_;simp;refine⟨fun h K C _=>?_,by rw[r];omega⟩;rw[j] at C;rw[<-f];exact⟨(bKz 1 b c l k).trans K,C.trans (KY 1 b c l d)⟩;change kw _ _ _ _ _;refine fJ ?_;intro a w g;refine⟨k+1,_,a_,a_,rfl,(g.reset (kT:=[0,1,2,7,9]) (kO:=[900000,5009]) ay ?_).same ?_ ?_⟩;simp only[All,and_true,AC,IR];exact bHm (fun i B=>rfl) rfl;exact .cr (.cr (.cr (.cr (.cons (by rw[bW k a_]) .nil))));refine .cons (.dev ?_) (.cons (.arr rfl (bDa (fun i B=>rfl) ?_)) .nil);rw[j];rfl;rw[j]
 match k,d with
 |0,_=>rfl|1,_=>rfl|2,_=>rfl
 ·have m:k=3:=by
   have:=of_decide_eq_false q;omega
  subst m;refine dK ?_;change kw _ _ _ _ _;refine aH ?_ ?_;simp;exact fun i _=>yZ rfl;refine bZ (fun a w g=>⟨.inr rfl,_,⟨?_,(fun o F=>by cases F),fun p E=>?_⟩,g⟩);rotate_left 1;cases E;rfl;refine aZ (ay) d_ ay ay ?_;rw[UN];have:=aWs (Xd O b c l);simp only[mf];exact congrArg (fun x=>t_ (nJ x)) this
def aHK(O:ut)(gm:je->Prop)(b c:Int)(l:je)(k:Nat):St:=⟨[(0,none,.w (.one .dv)),(1,none,dw b),(2,none,dw c),(7,none,dw k)],[(dx,none,0,.dev O gm (Qe 2 b c l k))]⟩
theorem bEx{I:jg}(m:∀ w n,Ext w n->I w->I n)(b c:Int)(j:0<=c/\c<=100000):Dl prog I 84 (aj.lh b c) [.w (.one .dv),dw b,dw c] (fun _=>.o7 []):=by
 intro O l;have M:=rdM m;refine dL func84 rfl rfl rfl (fun A x z=>?_);generalize d:(fun h=>l <+: h/\h <+: (go O (aj.lh b c) l).2)=gm;refine aI ?_;refine aN ?_;refine aW (aHK O gm b c l 0) ?_ ?_ ?_;exact iq;exact .cons (.dev rfl) .nil;refine dX 3 (fun k s=>s=aHK O gm b c l k) 0 rfl a_ (fun k s y C=>?_);subst y;refine qK ?_;refine cO (fun i=>?_) (fun i=>?_);have e:k<3:=by have:=of_decide_eq_true i;omega
 have q:=VY j e;refine gQ ?_;refine aN ?_;refine aI ?_;refine aS M z x (ay) ai ?_ ?_;simp;refine fun h B r _=>?_;rw[q] at r;rw[<-d];exact⟨(bKz 2 b c l k).trans B,r.trans (KY 2 b c l e)⟩;change kw _ _ _ _ _;refine fJ ?_;intro a w g;refine⟨k+1,_,a_,a_,rfl,(g.reset (kT:=[0,1,2,7]) (kO:=[900000]) ay d_).same ?_ ?_⟩;exact .cr (.cr (.cr (.cons (by rw[bW k a_]) .nil)));refine .cons (.dev ?_) .nil;rw[q];rfl
 ·have f:k=3:=by
   have:=of_decide_eq_false i;omega
  subst f;refine dK ?_;change Wv _ _ _;intro a w g;refine⟨.inl rfl,_,⟨?_,(fun o u=>by cases u),fun p t=>?_⟩,g⟩;rotate_left 1;cases t;rfl;refine aZ (ay) d_ ay ay ?_;rfl
def ZF:ji->Option (Prop×aj Bool×(Bool->PV))
 |[.w (.one (.lit (.int .i64 b))),.w (.one (.lit (.int .i64 c)))]=>some (0<=c/\c<=100000,aj.read b c,t_)|_=>none
theorem bKt{I:jg}(a:∀ w b,Ext w b->I w->I b):b_ prog I 83 (oJ ZF):=
 qV (aB func83 ai rfl) (fun e c p v h d=>by
  unfold ZF at h;split at h;cases h;exact KR a _ _ d
  cases h)
theorem aXm{I:jg}(a:∀ w b,Ext w b->I w->I b):b_ prog I 84 (oJ (Ho aj.lh fun _ c=>0<=c/\c<=100000)):=
 qV (aB func84 ai rfl) (fun e c p v h d=>by
  unfold Ho at h;split at h;cases h;exact bEx a _ _ d
  cases h)
theorem aVv{P:ed}{A:o_}{s:St}{Q:uk->Act->jg}{x y:Hm}(J:St->Prop)(h:kw P A s x (Exit.then (fun a w=>∃ b,J b/\qj A b a w) Q))(h2:∀ b,J b->kw P A b y Q):kw P A s (.seq x y) Q:=fun a w j d=>wp_seq (wp_mono (h a w j (fun c a w k i=>d c a w k i)) (fun e n g f=>by cases e<;>first|exact f|(obtain⟨b,m,l⟩:=f;exact h2 b m n g l d)))
def lvL:List (Nat×Spec):=(83,oJ ZF)::(84,oJ (Ho aj.lh fun _ c=>0<=c/\c<=100000))::DL
theorem WG{I:jg}(a:∀ w c,Ext w c->I w->I c):∀ p∈lvL,b_ prog I p.1 p.2:=by intro p b;simp only[lvL,xn] at b;rcases b with rfl|rfl|b;exact bKt a;exact aXm a;exact Vs a p b
theorem lvM{I:jg}(a:∀ w b,Ext w b->I w->I b):jq prog I (find lvL):=⟨aY (WG a),dB⟩
def Left{a:Type}(O:ut)(p:aj a)(l:je)(q:aj a)(k:je):Prop:=l <+: k/\go O p l=go O q k
theorem Left.start{a:Type}(O:ut)(p:aj a)(l:je):Left O p l p l:=⟨aCX _,rfl⟩
theorem Left.step{b a:Type}{O:ut}{p:aj b}{l k:je}{q:aj a}{f:a->aj b}(h:Left O p l (q.bind f) k):Left O p l (f (go O q k).1) (go O q k).2:=⟨h.1.trans (yH O q k),h.2.trans (aAy O q f k)⟩
theorem Left.gm{b a:Type}{O:ut}{p:aj b}{l k:je}{q:aj a}{f:a->aj b}(h:Left O p l (q.bind f) k):∀ g,k <+: g->g <+: (go O q k).2->O g=none->l <+: g/\g <+: (go O p l).2:=fun g d c _=>by refine⟨h.1.trans d,c.trans ?_⟩;rw[h.step.2];exact yH _ _ _
def YH(O:ut)(gm:je->Prop)(b:Int)(m:Nat)(n:Nat)(a:je):St:=⟨[(0,none,.w (.one .dv)),(1,none,dw b),(2,none,dw m),(7,none,dw n)],[(dx,none,0,.dev O gm a)]⟩
def aHZ(O:ut)(gm:je->Prop)(b:Int)(m:Nat)(n k:Nat)(a:je):St:=⟨[(0,none,.w (.one .dv)),(1,none,dw b),(2,none,dw m),(7,none,dw n),(19,none,dw n),(20,none,dw k)],[(dx,none,0,.dev O gm a)]⟩
theorem aIi{I:jg}(z:∀ w E,Ext w E->I w->I E)(b:Int)(m:Nat)(S:m<=1000):Dl prog I 55 (aj.f_ b m) [.w (.one .dv),dw b,dw m] (fun n=>dw n):=by
 intro O l;have M:=lvM z;refine dL func55 rfl rfl rfl (fun A L Q=>?_);generalize g:(fun h=>l <+: h/\h <+: (go O (aj.f_ b m) l).2)=gm;refine aI ?_;refine bIu ?_;refine qK ?_;refine bIv ?_;change kw _ _ _ _ _;refine aVv (fun F=>∃ n d,F=YH O gm b m n d/\n<=m/\Left O (aj.f_ b m) l ((aj.down b n 0).bind fun _=>.ret n) d) ?_ ?_;refine aN ?_;refine aW (YH O gm b m 0 l) ?_ ?_ ?_;exact iq;exact .cons (.dev rfl) .nil;refine dX m (fun n s=>∃ d,s=YH O gm b m n d/\Left O (aj.f_ b m) l ((aj.up b (m-n) n).bind fun n=>(aj.down b n 0).bind fun _=>.ret n) d) 0 ⟨l,rfl,Left.start _ _ _⟩ a_ (fun n s y P=>?_);obtain⟨d,rfl,i⟩:=y;refine aJ (fun e=>?_) (fun e=>?_);have K:n<m:=by have:=of_decide_eq_true e;omega
 have t:m-n=(m-(n+1))+1:=a_;rw[t,aj.up,aj.bind_assoc] at i;refine fZ ?_;refine aN ?_;refine qG ?_ ?_;simp;refine⟨a_,fun h D C B=>?_⟩;rw[<-g];exact i.gm h D C B;refine cO (fun e=>?_) (fun e=>?_);have x:(go O (aj.read b n) d).1=false:=by have h:(!(go O (aj.read b n) d).1)=true:=e;simpa using h
 have c:=i.step;rw[x,ah d_] at c;refine dK ?_;intro a w f;refine⟨_,⟨n,_,rfl,a_,c⟩,(f.reset (kT:=[0,1,2,7]) (kO:=[900000]) ay d_).same ?_ ?_⟩;exact iq;exact .cons (.dev rfl) .nil;have x:(go O (aj.read b n) d).1=true:=by have h:(!(go O (aj.read b n) d).1)=false:=e;simpa using h
 have c:=i.step;rw[x,au rfl] at c;refine fZ ?_;refine fJ ?_;intro a w f;refine⟨n+1,_,a_,a_,⟨_,rfl,c⟩,(f.reset (kT:=[0,1,2,7]) (kO:=[900000]) ay d_).same ?_ ?_⟩;exact .cr (.cr (.cr (.cons (by rw[bW n a_]) .nil)));exact .cons (.dev rfl) .nil;have j:n=m:=by have:=of_decide_eq_false e;omega
 refine dK ?_;intro a w f;refine⟨_,⟨n,d,rfl,a_,?_⟩,(f.reset (kT:=[0,1,2,7]) (kO:=[900000]) ay d_).same ?_ ?_⟩;rw[j,aBa] at i;rw[j];exact i;exact iq;exact .cons (.dev rfl) .nil
 ·rintro F ⟨n,d,rfl,j,i⟩;refine jG ?_;refine aN ?_;refine aW (aHZ O gm b m n 0 d) ?_ ?_ ?_;exact iq;exact .cons (.dev rfl) .nil;refine dX n (fun k s=>∃ d,s=aHZ O gm b m n k d/\Left O (aj.f_ b m) l ((aj.down b (n-k) k).bind fun _=>.ret n) d) 0 ⟨d,rfl,i⟩ a_ (fun k s y P=>?_);obtain⟨q,rfl,c⟩:=y;refine qK ?_;refine cO (fun e=>?_) (fun e=>?_);have N:k<n:=by have:=of_decide_eq_true e;omega
  have r:n-k=(n-(k+1))+1:=a_;rw[r,aj.down,aj.bind_assoc] at c;refine gQ ?_;refine aN ?_;refine aI ?_;refine aS M Q L (ay) ai ?_ ?_;simp;refine⟨a_,fun h D C B=>?_⟩;rw[<-g];exact c.gm h D C B;change kw _ _ _ _ _;refine fJ ?_;intro a w f;refine⟨k+1,_,a_,a_,⟨_,rfl,c.step⟩,(f.reset (kT:=[0,1,2,7,19,20]) (kO:=[900000]) ay d_).same ?_ ?_⟩;exact .cr (.cr (.cr (.cr (.cr (.cons (by rw[bW k a_]) .nil)))));exact .cons (.dev rfl) .nil
  ·have u:k=n:=by have:=of_decide_eq_false e;omega
   rw[u,aBa] at c;have G:go O (aj.f_ b m) l=(n,q):=c.2;refine dK ?_;change kw _ _ _ _ _;refine aI ?_;refine bZ (fun a w f=>⟨.inr rfl,_,⟨?_,(fun o J=>by cases J),fun p H=>?_⟩,f⟩);rotate_left 1;cases H;rw[G];rfl;refine aZ (ay) d_ ay ay ?_;rw[G]
def GV:ji->Option (Prop×aj Nat×(Nat->PV))
 |[.w (.one (.lit (.int .i64 b))),.w (.one (.lit (.int .i64 m)))]=>some (0<=m/\m<=1000,aj.f_ b m.toNat,fun n=>dw n)|_=>none
theorem aEm{I:jg}(a:∀ w d,Ext w d->I w->I d):b_ prog I 55 (oJ GV):=
 qV (aB func55 ai rfl) (fun e c p v h f=>by
  unfold GV at h;split at h;rename_i b m;cases h;obtain⟨k,rfl⟩:∃ k:Nat,m=(k:Int):=⟨m.toNat,a_⟩;rw[VM];exact aIi a b k a_
  cases h)
def raL:List (Nat×Spec):=(55,oJ GV)::lvL
theorem aHF{I:jg}(a:∀ w c,Ext w c->I w->I c):∀ p∈raL,b_ prog I p.1 p.2:=by intro p b;simp only[raL,xn] at b;rcases b with rfl|b;exact aEm a;exact WG a p b
theorem raM{I:jg}(a:∀ w b,Ext w b->I w->I b):jq prog I (find raL):=⟨aY (aHF a),dB⟩
def aHG(O:ut)(gm:je->Prop)(b:Int)(t:Nat)(n:Nat)(a:je):St:=⟨[(0,none,.w (.one .dv)),(1,none,dw b),(3,none,dw t),(10,none,dw n)],[(dx,none,0,.dev O gm a)]⟩
def raV(p:Nat×Int):PV:=.o7 [.one (.lit (.int .i64 p.1)),.one (.lit (.int .i64 p.2))]
theorem aXi{I:jg}(H:∀ w J,Ext w J->I w->I J)(b:Int)(m t:Nat)(P:m<=1000)(L:t<=1000):Dl prog I 100 (aj.mr b m t) [.w (.one .dv),dw b,dw m,dw t] raV:=by
 intro O l;have M:=raM H;refine dL func100 rfl rfl rfl (fun A N S=>?_);generalize c:(fun h=>l <+: h/\h <+: (go O (aj.mr b m t) l).2)=gm;have r:Left O (aj.mr b m t) l ((aj.f_ b m).bind fun n=>aj.rq b (t-n) n) l:=Left.start _ _ _;have j:(go O (aj.f_ b m) l).1<=m:=Wq O (aAv b m) l;have e:=r.step;refine bU ?_ ?_;simp;refine⟨a_,fun h z y x=>?_⟩;rw[<-c];exact r.gm h z y x;obtain⟨B,C,D⟩:∃ B C,go O (aj.f_ b m) l=(B,C):=⟨_,_,rfl⟩;rw[D] at j e;dsimp only at j e;refine aQz ?_;refine aW (aHG O gm b t B C) ?_ ?_ ?_;exact .cr (.cr (.cr (.cons (by show dw ((go O (aj.f_ b m) l).1:Int)=_;rw[D]) .nil)));exact .cons (.dev (by show (go O (aj.f_ b m) l).2=_;rw[D])) .nil;refine dX (m+t) (fun n s=>∃ f,s=aHG O gm b t n f/\Left O (aj.mr b m t) l (aj.rq b (t-n) n) f) B ⟨C,rfl,e⟩ a_ (fun n s K Q=>?_);obtain⟨f,rfl,e⟩:=K;refine aJ (fun g=>?_) (fun g=>?_)
 ·have i:n<t:=by have:=of_decide_eq_true g;omega
  rw[show t-n=(t-(n+1))+1 by omega,aj.rq] at e;have q:=e.step;have d:=q.step;refine gQ ?_;refine aN ?_;refine aH ?_ ?_;simp;refine⟨a_,fun h z y x=>?_⟩;rw[<-c];exact e.gm h z y x;refine aH ?_ ?_;simp;refine⟨a_,fun h z y x=>?_⟩;rw[<-c];exact q.gm h z y x;refine cO (fun g=>?_) (fun g=>?_)
  ·have G:(go O (aj.read b n) (go O (aj.lh b n) f).2).1=false:=by
    have h:(!(go O (aj.read b n) (go O (aj.lh b n) f).2).1)=true:=g;simpa using h
   rw[G,ah d_] at d;have u:=d.2;refine aI ?_;refine bZ (fun a w k=>⟨.inr rfl,_,⟨?_,(fun o F=>by cases F),fun p E=>?_⟩,k⟩);rotate_left 1;cases E;rw[u];rfl;refine aZ (ay) d_ ay ay ?_;rw[u];rfl
  have G:(go O (aj.read b n) (go O (aj.lh b n) f).2).1=true:=by have h:(!(go O (aj.read b n) (go O (aj.lh b n) f).2).1)=false:=g;simpa using h
  rw[G,au rfl] at d;refine fZ ?_;refine fJ ?_;intro a w k;refine⟨n+1,_,a_,a_,⟨_,rfl,d⟩,(k.reset (kT:=[0,1,3,10]) (kO:=[900000]) ay d_).same ?_ ?_⟩;exact .cr (.cr (.cr (.cons (by rw[bW n a_]) .nil)));exact .cons (.dev rfl) .nil
 ·have i:t-n=0:=by have:=of_decide_eq_false g;omega
  rw[i] at e;have u:go O (aj.mr b m t) l=((n,0),f):=e.2;refine dK ?_;change kw _ _ _ _ _;refine aI ?_;refine bZ (fun a w k=>⟨.inr rfl,_,⟨?_,(fun o F=>by cases F),fun p E=>?_⟩,k⟩);rotate_left 1;cases E;rw[u];rfl;refine aZ (ay) d_ ay ay ?_;rw[u];rfl
def PT:ji->Option (Prop×aj (Nat×Int)×(Nat×Int->PV))
 |[.w (.one (.lit (.int .i64 b))),.w (.one (.lit (.int .i64 m))),.w (.one (.lit (.int .i64 t)))]=>some ((0<=m/\m<=1000)/\0<=t/\t<=1000,aj.mr b m.toNat t.toNat,raV)|_=>none
theorem aSi{I:jg}(a:∀ w d,Ext w d->I w->I d):b_ prog I 100 (oJ PT):=
 qV (aB func100 ai rfl) (fun e c p v h f=>by
  unfold PT at h;split at h;rename_i b m t;cases h;obtain⟨k,rfl⟩:∃ k:Nat,m=(k:Int):=⟨m.toNat,a_⟩;obtain⟨j,rfl⟩:∃ j:Nat,t=(j:Int):=⟨t.toNat,a_⟩;rw[VM,VM];exact aXi a b k j a_ a_
  cases h)
def aZg:ji->Option (Prop×aj EE×(EE->PV))
 |[.w (.one (.lit (.int .i64 rec)))]=>some (gy rec,aj.load rec,bDn)|_=>none
def aZb:ji->Option (Prop×aj EE×(EE->PV))
 |[.w (.one (.lit (.int .i64 rec))),.w (.one (.lit (.string c)))]=>some (gy rec,aj.save rec c,bDn)|_=>none
theorem NH:b_ prog af 98 (oI aZg):=
 rH (aB func98 ai rfl) (fun b c p v h a=>by
  unfold aZg at h;split at h;cases h;exact NQ _ a
  cases h)
theorem NE:b_ prog af 101 (oI aZb):=
 rH (aB func101 ai rfl) (fun b c p v h a=>by
  unfold aZb at h;split at h;cases h;exact Jb _ a _
  cases h)
def JH:Spec:=aV true fun a=>match a with
 |[.w (.agg [.bs 16 root]),.w (.one (.lit (.string s)))]=>some (root.length=16/\s.size<=5000,GU (MX root s (wV root s.data.toList)))|_=>none
theorem U0:b_ prog af 99 JH:=by refine aU (aB func99 ai rfl) (fun c p r a b=>?_);split at a;cases a;exact bMq _ _ b.1 b.2;cases a
def Tf:List (Nat×Spec):=(73,aOe uf aZe)::(98,oI aZg)::(101,oI aZb)::(55,oJ GV)::(100,oJ PT) ::
 (99,JH)::(102,bJg)::(82,jV uf AA bCq)::aLn
theorem Me:∀ p∈Tf,b_ prog af p.1 p.2:=by intro p a;simp only[Tf,xn] at a;rcases a with rfl|rfl|rfl|rfl|rfl|rfl|rfl|rfl|a;exact bMi;exact NH;exact NE;exact aEm bJ;exact aSi bJ;exact U0;exact bMt;exact bBr;exact aFq p a
theorem Tm:jq prog af (find Tf):=⟨aY Me,dB⟩
def qR(root:di)(s:jy):jv×Bool:=MX root s (wV root s.data.toList)
def uw(m:jm):aj jv:=(aj.load 3).bind fun s=>(iU (s.err==0) s.err).bind fun _=>(iU (qR m.root s.content).2 8).bind fun _=>.ret (qR m.root s.content).1
def Ak(m:jm)(r:jv):aj Unit:=(aj.save 3 (gG m.root r)).bind fun s=>(iU (s.err==0) s.err).bind fun _=>.ret ()
def lW(b:Int)(t:Nat):aj Nat:=(aj.mr b 16 t).bind fun p=>(iU (p.2==0) p.2).bind fun _=>.ret p.1
def rZ(f:Nat):aj Unit:=(lW 3 (f+1)).bind fun n=>(iU ((n:Int)==((f+1:Nat):Int)) 21).bind fun _=>.ret ()
def oN(f:Nat):aj Unit:=(iU (((f % 2:Nat):Int)==0) 21).bind fun _=>(iU (decide ((f:Int)<16)) 17).bind fun _=>.ret ()
theorem aUn(rec:Int)(b:di):(qh rec b).2.length<=2000:=by unfold qh;split;simp;split;simp;show (vg b).1.length<=2000;omega
theorem aCk(rec:Int):aj.All (fun o:EE=>o.content.size<=2000) (aj.load rec):=by unfold aj.load;split;exact (by decide:(0:Nat)<=2000);refine aj.All.bind (R:=fun p:(Int×di)×Nat=>p.1.2.length<=2000) ?_ (fun p c=>?_);unfold aj.cur;refine aj.All.bind (R:=fun _=>True) (aj.All.AP _) (fun a _=>?_);refine aj.All.bind (R:=fun _=>True) (aj.All.AP _) (fun b _=>?_);show (yx (qh rec a) (qh rec b)).1.2.length<=2000;unfold yx;split;exact aUn _ _;exact aUn _ _;show (vY p.1).content.size<=2000;unfold vY;split;exact (by decide:(0:Nat)<=2000);show (strOf p.1.2).size<=2000;rw[bC];exact c
theorem UQ(m:jm)(f:Int)(hr:m.root.length=16):yQ prog af uf 76 AA (pz m f) (uw m) [] (fun r=>.w (.agg (qo r))):=by intro O l u x;have M:=Tm;have j:Left O (uw m) l (uw m) l:=Left.start _ _ _;have c:=Left.step (q:=aj.load 3) j;have e:=Wq O (aCk 3) l;generalize b:(fun h=>l <+: h/\h <+: (go O (uw m) l).2)=gm;refine nS func76 rfl rfl (fun A B C=>?_);refine bU ?_ ?_;simp;refine⟨⟨u,by unfold gy;omega⟩,?_⟩;intro h o n k;rw[<-b];exact Left.gm (q:=aj.load 3) j h o n k;obtain⟨s,p,t⟩:∃ s p,go O (aj.load 3) l=(s,p):=⟨_,_,rfl⟩;rw[t] at c e;dsimp only at c e;refine aW (⟨[(0,none,dm (.pt px 0 0)),(2,none,dm (.pt 0 0 0)),(3,none,dm (.pt 1005 0 0))],[(dx,none,0,.dev O gm p),(px,none,0,.box AA (.dv::pz m f)),(0,none,0,.box 149 (qo BA)),(1005,none,0,.box 164 (bDo s))]⟩) ?_ ?_ ?_;exact iq;refine .cons (.dev ?_) (.cb (.cb (.cons (.box ?_) .nil)));show (go O (aj.load 3) l).2=_;rw[t];show bDo (go O (aj.load 3) l).1=_;rw[t];have d:=Left.step c;refine aH ?_ ?_;simp;refine⟨⟨u,x⟩,?_⟩;intro h o n k;rw[<-b];exact Left.gm c h o n k;obtain⟨y,g⟩:=jc ((go O (iU (s.err==0) s.err) p).2);rw[g] at d;refine aW (⟨[(0,none,dm (.pt px 0 0)),(2,none,dm (.pt 0 0 0)),(3,none,dm (.pt 1005 0 0))],[(dx,none,0,.dev O gm y),(px,none,0,.box AA (.dv::pz m f)),(0,none,0,.box 149 (qo BA)),(1005,none,0,.box 164 (bDo s))]⟩) ?_ ?_ ?_;exact iq;exact .cons (.dev g) ((dU _));refine aH ?_ ?_;simp;exact⟨hr,a_⟩;refine aH ?_ ?_;simp;refine⟨⟨u,x⟩,?_⟩;intro h o n k;rw[<-b];exact Left.gm d h o n k;have i:=Left.step d;refine aI ?_;refine bZ (fun a w z=>⟨.inr rfl,_,⟨?_,⟨pz m f,rfl,eQ rfl⟩,?_⟩,z⟩);rotate_left 1;rw[i.2];rfl;refine aZ (ay) d_ ay ay ?_;rw[i.2];rfl
theorem SY(m:jm)(f:Int)(r:jv)(hr:m.root.length=16)(d:Dh r):yQ prog af uf 79 AA (pz m f) (Ak m r) [.w (.agg (qo r))] (fun _=>.o7 []):=by intro O l p y;have M:=Tm;have e:Left O (Ak m r) l (Ak m r) l:=Left.start _ _ _;have b:=Left.step (q:=aj.save 3 (gG m.root r)) e;generalize c:(fun h=>l <+: h/\h <+: (go O (Ak m r) l).2)=gm;refine nS func79 rfl rfl (fun A t x=>?_);refine bU ?_ ?_;simp;refine⟨⟨d,hr⟩,⟨p,by unfold gy;omega⟩,?_⟩;intro h o n k;rw[<-c];exact Left.gm (q:=aj.save 3 (gG m.root r)) e h o n k;obtain⟨s,g,i⟩:∃ s g,go O (aj.save 3 (gG m.root r)) l=(s,g):=⟨_,_,rfl⟩;rw[i] at b;dsimp only at b;refine aW (⟨[(0,none,dm (.pt px 0 0)),(4,none,dm (.pt 1012 0 0))],[(dx,none,0,.dev O gm g),(px,none,0,.box AA (.dv::pz m f)),(1012,none,0,.box 164 (bDo s))]⟩) ?_ ?_ ?_;exact iq;refine .cons (.dev ?_) (.cb (.cons (.box ?_) .nil));show (go O (aj.save 3 (gG m.root r)) l).2=_;rw[i];show bDo (go O (aj.save 3 (gG m.root r)) l).1=_;rw[i];have j:=Left.step b;refine aS M x t (ay) ai ?_ ?_;simp;refine⟨⟨p,y⟩,?_⟩;intro h o n k;rw[<-c];exact Left.gm b h o n k;intro a w u;refine⟨.inl rfl,_,⟨?_,⟨pz m f,rfl,eQ rfl⟩,?_⟩,u⟩;rotate_left 1;rw[j.2];rfl;refine aZ (ay) d_ ay ay ?_;rfl
theorem bLc(m:jm)(f:Int)(b:Int)(t:Nat)(x:t<=1000):yQ prog af uf 78 AA (pz m f) (lW b t) [dw b,dw t] (fun n=>dw n):=by intro O l s u;have M:=Tm;have g:Left O (lW b t) l (lW b t) l:=Left.start _ _ _;have c:=Left.step (q:=aj.mr b 16 t) g;generalize d:(fun h=>l <+: h/\h <+: (go O (lW b t) l).2)=gm;refine nS func78 rfl rfl (fun A y z=>?_);refine bU ?_ ?_;simp;refine⟨a_,?_⟩;intro h p o k;rw[<-d];exact Left.gm (q:=aj.mr b 16 t) g h p o k;obtain⟨q,j,i⟩:∃ q j,go O (aj.mr b 16 t) l=(q,j):=⟨_,_,rfl⟩;rw[i] at c;dsimp only at c;refine aW (⟨[(7,none,dw q.1),(8,none,dw q.2)],[(dx,none,0,.dev O gm j),(px,none,0,.box AA (.dv::pz m f))]⟩) ?_ ?_ ?_;refine .cons ?_ (.cons ?_ .nil);show dw (go O (aj.mr b 16 t) l).1.1=_;rw[i];show dw (go O (aj.mr b 16 t) l).1.2=_;rw[i];refine .cons (.dev ?_) ((dU _));show (go O (aj.mr b 16 t) l).2=_;rw[i];have e:=Left.step c;refine aH ?_ ?_;simp;refine⟨⟨s,u⟩,?_⟩;intro h p o k;rw[<-d];exact Left.gm c h p o k;refine aI ?_;refine bZ (fun a w r=>⟨.inr rfl,_,⟨?_,⟨pz m f,rfl,eQ rfl⟩,?_⟩,r⟩);rotate_left 1;rw[e.2];rfl;refine aZ (ay) d_ ay ay ?_;rw[e.2];rfl
def aPu(l:g_)(ys:ji):Option (Prop×aj Nat×(Nat->PV)):=match Dy l,ys with
 |some _,[.w (.one (.lit (.int .i64 b))),.w (.one (.lit (.int .i64 t)))]=>some (0<=t/\t<=1000,lW b t.toNat,fun n=>dw n)|_,_=>none
theorem KZ:b_ prog af 78 (jV uf AA aPu):=
 lX (aB func78 ai rfl) (fun l e c p v h g=>by
  unfold aPu at h;split at h;rename_i a b t d;cases h;rw[yL (m:=a.1) (f:=a.2) d];obtain⟨k,rfl⟩:∃ k:Nat,t=(k:Int):=⟨t.toNat,a_⟩;rw[VM];exact bLc a.1 a.2 b k a_
  cases h)
def Td:List (Nat×Spec):=(78,jV uf AA aPu)::Tf
theorem Md:∀ p∈Td,b_ prog af p.1 p.2:=by intro p a;simp only[Td,xn] at a;rcases a with rfl|a;exact KZ;exact Me p a
theorem aRU:jq prog af (find Td):=⟨aY Md,dB⟩
theorem MS(m:jm)(f:Nat)(x:f<=900):yQ prog af uf 77 AA (pz m f) (rZ f) [] (fun _=>.o7 []):=by
 intro O l r s;have M:=aRU;have e:Left O (rZ f) l (rZ f) l:=Left.start _ _ _;have d:=Left.step (q:=lW 3 (f+1)) e;have k:=Left.step d;have i:IntKind.wrap .i64 ((f:Int)+1)=((f+1:Nat):Int):=by rw[PP];omega
 generalize b:(fun h=>l <+: h/\h <+: (go O (rZ f) l).2)=gm;obtain⟨g,j⟩:∃ g:Int,(f:Int)=g:=⟨_,rfl⟩;rw[j] at i ⊢;refine nS func77 rfl rfl (fun A t u=>?_);refine aS M u t (ay) ai ?_ ?_;simp;rw[i];refine⟨⟨r,s,a_,a_⟩,?_,⟨r,s⟩,?_⟩;intro h p o n;rw[<-b];exact Left.gm (q:=lW 3 (f+1)) e h p o n;intro h p o n;rw[<-b];exact Left.gm d h p o n;have c:(go O (iU (((go O (lW 3 (IntKind.wrap .i64 (g+1)).toNat) l).1:Int)==IntKind.wrap .i64 (g+1)) 21) (go O (lW 3 (IntKind.wrap .i64 (g+1)).toNat) l).2).2=(go O (rZ f) l).2:=by rw[i,k.2];rfl
 intro a w j;refine⟨.inl rfl,_,⟨?_,⟨pz m g,rfl,eQ rfl⟩,?_⟩,j⟩;rotate_left 1;exact congrArg (fun h=>some (none,0,oh.dev O gm h)) c;refine aZ (ay) d_ ay ay ?_;rfl
theorem KQ(m:jm)(f:Nat)(_:f<=900):yQ prog af uf 74 AA (pz m f) (oN f) [] (fun _=>.o7 []):=by
 intro O l k n;have M:=Tm;have d:Left O (oN f) l (oN f) l:=Left.start _ _ _;have c:=Left.step (q:=iU (((f % 2:Nat):Int)==0) 21) d;have e:=Left.step c;generalize b:(fun h=>l <+: h/\h <+: (go O (oN f) l).2)=gm;refine nS func74 rfl rfl (fun A o s=>?_);have p:((f:Int).tmod 2==0)=(((f % 2:Nat):Int)==0):=by rw[show (f:Int).tmod 2=((f % 2:Nat):Int) from rfl]
 refine aH ?_ ?_;simp;refine⟨⟨k,n⟩,?_⟩;rw[p];intro h j i g;rw[<-b];exact Left.gm (q:=iU (((f % 2:Nat):Int)==0) 21) d h j i g;refine aS M s o (ay) ai ?_ ?_;simp;refine⟨⟨k,n⟩,?_⟩;intro h j i g;rw[<-b];exact Left.gm c h j i g;intro a w r;refine⟨.inl rfl,_,⟨?_,⟨pz m f,rfl,eQ rfl⟩,?_⟩,r⟩;rotate_left 1;rw[e.2];rfl;refine aZ (ay) d_ ay ay ?_;rfl
end Pv
end Go.Proofs.YtndpjopifkbgiaaGreatDoor
