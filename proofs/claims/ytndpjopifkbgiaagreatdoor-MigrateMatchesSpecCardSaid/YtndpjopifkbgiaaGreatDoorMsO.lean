/-
  Several texts in one file: each has its own heading below.
-/
import Derived.Test.YtndpjopifkbgiaaGreatDoorMsN
import Derived.Test.YtndpjopifkbgiaaGreatDoorMsL
import Derived.Test.YtndpjopifkbgiaaGreatDoorMsJ
import Derived.WalkMore
import Derived.MapKept
import Derived.Test.YtndpjopifkbgiaaGreatDoorMsI
import Derived.Test.YtndpjopifkbgiaaGreatDoorMsH
set_option maxRecDepth 100000
set_option maxHeartbeats 4000000
namespace Go.Proofs.YtndpjopifkbgiaaGreatDoor
open Go.RowKit Tryz
open _root_.Go renaming wpAny_ready->Y5,World->ae,TypeId->bu,Value->ag,PanicEntry->YL,undef->dC,run_underlying->zg,yielded->Xx,Program->gp
open _root_.List renaming not_mem_nil->Xq,size_toArray->YS,append_toArray->aCn,length_cons->Lt,cons_append->We,length_nil->YN,push_toArray->aCm,mem_cons->xn,nil_append->WF,length_append->ed,length_singleton->Yd,prefix_of_prefix_length_le->aFJ,append_assoc->yl,replicate->DD,getElem?_cons_zero->YT,getElem?_cons_succ->Yv,append_cancel_left->aFH,singleton_append->aDj,length_replicate->Yk,getElem?_toArray->YY,prefix_append->Yb,nil_prefix->aEH,append_nil->Pi
open _root_.Array renaming replicate_zero->aCl,replicate_succ->aCk,getD_eq_getD_getElem?->YR,size_setIfInBounds->aGD,length_toList->mf,ext'->Ha
open _root_.Nat renaming le_refl->dE,reduceSub->aCc,reduceAdd->aCa,le_of_ble_eq_true->Yz,lt_of_lt_of_le->Y1,beq->bz,lt_or_ge->Y6,le_trans->mr,add_comm->YW
open _root_.And renaming intro->az
open _root_.Go.Value renaming ownBlock->Xr
namespace Pv
def Wi(F:List qx):Nat->List PC:=fun i=>qF (F.getD i AL)
def vC(F:List qx):PC:=.sl 3 F.length (Wi F)
def cutV:ag:=.iface 139 (.agg #[])
def qE(F:List qx)(h a:jk)(i:Nat):List Ob:=[⟨900001,3,[.lit (.int .i64 i)],[.lit (.int .i64 ((i+1:Nat):Int))]⟩,⟨900002,68,[vC F],[vC F]⟩,⟨900003,65,pz h,pz a⟩]
def XU(x:jk×jh×Int)(t:qx):Sum PV (List YL):=if t.cut then .inr [{ v:=cutV,recovered:=false }] else .inl (.w (.agg (iW x.2.1)))
def aBM:List (Nat×Spec):=[(66,aZ false ddG)]
theorem Vj:∀ p∈aBM,ai prog af p.1 p.2:=by intro p a;obtain rfl:=List.mem_singleton.1 a;exact NG
theorem aKH:jl prog af (find aBM):=⟨bD Vj,dG⟩
def lvO(F:List qx)(h:jk)(i:Int)(a:Acc):Wr:=[(900001,none,0,.box 3 [.lit (.int .i64 i)]),(900002,none,0,.box 68 [vC F]),(900003,none,0,.box 65 (pz h)),(0,none,0,.box 37 (lT a)),(1,none,0,.box 35 (iW iJ))]
def lvT:List (Nat×Option Bool×PV):=[(1,none,d_ (.pt 900001 0 0)),(2,none,d_ (.pt 900002 0 0)),(3,none,d_ (.pt 900003 0 0)),(4,none,d_ (.pt 0 0 0)),(5,none,d_ (.pt 1 0 0)),(6,none,d_ (.pt 1000 0 0))]
def Tz(F:List qx)(h:jk)(i:Int)(a:Acc)(t:qx):St:=⟨lvT,(1000,none,0,.box 104 (qF t))::lvO F h i a⟩
def aBP(F:List qx)(h b:jk)(i:Int)(a:Acc)(t:qx)(r:jh):St:=⟨(7,none,d_ (.pt 5008 0 0))::(8,none,d_ (.pt 5009 0 0))::(9,none,di 0)::lvT,(5008,none,0,.box 65 (pz b))::(5009,none,0,.box 35 (iW r))::(1000,none,0,.box 104 (qF t))::lvO F h i a⟩
def aBO(F:List qx)(b:jk)(i:Int)(a:Acc)(t:qx)(r:jh):St:=⟨(8,none,d_ (.pt 5009 0 0))::lvT,(5009,none,0,.box 35 (iW r))::(1000,none,0,.box 104 (qF t))::lvO F b i a⟩
theorem LY{h:jk}{a:Acc}(g:Dj h a)(t:qx):(fQ h a t).2.2=0:=by obtain⟨d,g⟩:=g;have j:=d.f;rcases g with⟨b|b,i,e,c⟩|⟨⟨b,c⟩|⟨b,c⟩,i,e⟩;rw[aVx b c (d.ex i e)];rw[aVw b c (d.ex i e)];rw[aNj b ⟨c,i⟩ ⟨e.1,by omega⟩];rw[aNi b i ⟨e.1,by omega⟩ c]
theorem gu.forget{A:n_}{s:St}{a c:Act}{w:ae}{env:Env}(h:gu A s a w env)(h1:c.tmps.size=a.tmps.size)(h2:c.defers=a.defers):gu A ⟨[],s.o⟩ c w env:={ gy:=h.gy,size:=h1.trans h.size,dom:=h.dom,l9:=h.l9,live:=h.live,inj:=h.inj,tmps:=fun t g pv b=>(by cases b),defers:=h2.trans h.defers,und:=fun t pv b=>(by cases b),oq:=h.oq,dev:=h.dev }
theorem wp_cut(e d:Nat)(ops:Array Oper)(h g f:String)(m l k:Array Edge)(b:ops=#[{ dst:=some 33,op:=Op.build 139 #[],type:=139,pos:=h,after:=m,guard:=none },{ dst:=some 34,op:=Op.makeInterface 139 (Operand.tmp 33),type:=e,pos:=g,after:=l,guard:=none },{ dst:=none,op:=Op.panic (Operand.tmp 34),type:=d,pos:=f,after:=k,guard:=none }])
  {a:Act} {w:ae} {Q:Exit->Act->ae->Prop} (i:a.tmps.size=36) (j:∀ c,c.tmps.size=a.tmps.size->c.defers=a.defers->Q (.panic [{ v:=cutV,recovered:=false }]) c w):(Code.region 9 ops false).wp prog Q a w:=by
 subst b;apply wp_region;simp[wpOps,go_sem,Region.wanted];refine .inl (.inl (.inl ?_));rw[if_pos a_,if_pos a_];simp[Instr.panic];exact j _ ay rfl
theorem bCf(F:List qx)(h:jk)(i:Nat)(c:Acc)(g:Dj h c)(H:i<=1000000)(_:F.length<=1000000):aFV prog af 65 (qE F h (fQ h c (eY F i)).1 i)
  [.w (.agg (lT c)),d_ (.pt 900001 0 0),d_ (.pt 900002 0 0),d_ (.pt 900003 0 0)] (XU (fQ h c (eY F i)) (eY F i)):=by
 have M:=aKH;have j:=LY g (eY F i);refine RJ func65 rfl rfl rfl (fun A t E=>?_);refine aB ?_;refine aB ?_;refine aG ?_;refine aB ?_;refine aI (fun e=>?_) (fun e=>?_)
 ·have u:i<F.length:=by have:=of_decide_eq_true e;omega
  refine bC M E t (by rfl) (by kernel_rfl) ?_ ?_;simp;exact u;change lh _ _ _ _ _;refine lV (Tz F h (i:Int) c (eY F i)) ?_;refine aB ?_;refine aF ?_ ?_;simp;exact g;refine aU (aBP F h (fQ h c (eY F i)).1 ((i+1:Nat):Int) c (eY F i) (fQ h c (eY F i)).2.1) ?_ ?_ ?_;refine .cons rfl (.cons rfl (.cons ?_ (.cons rfl (.cons rfl (.cons rfl (.cons rfl (.cons rfl (.cons rfl .nil))))))));change di (fQ ⟨dL h.b.length (eX h.b),jX h.f.length (su h.f),h.r⟩ c (eY F i)).2.2=_;rw[aV,bW,j];refine .cons (.box ?_) (.cons (.box ?_) (.cons (.box rfl) (.cons (.box ?_) (.cons (.box rfl) (.cons (.box rfl) (.cons (.box rfl) (.cons (.box rfl) .nil)))))));change pz (fQ ⟨dL h.b.length (eX h.b),jX h.f.length (su h.f),h.r⟩ c (eY F i)).1=_;rw[aV,bW];change iW (fQ ⟨dL h.b.length (eX h.b),jX h.f.length (su h.f),h.r⟩ c (eY F i)).2.1=_;rw[aV,bW];rw[cO i a_];generalize (fQ h c (eY F i)).1=C at j ⊢;refine aG ?_;refine aB ?_;refine aI (fun e=>?_) (fun e=>?_)
  ·refine lU ?_;refine lV (aBO F C ((i+1:Nat):Int) c (eY F i) (fQ h c (eY F i)).2.1) ?_;refine aG ?_;refine aB ?_;refine aI (fun e=>?_) (fun e=>?_)
   ·have d:(eY F i).cut=true:=e;have m:XU (fQ h c (eY F i)) (eY F i)=.inr [{ v:=cutV,recovered:=false }]:=if_pos d;intro a w l y;obtain⟨p,n⟩:=l;refine wp_cut _ _ _ _ _ _ _ _ _ rfl (by rw[n.size,t];rfl) (fun G B s=>?_);refine⟨s.trans n.defers,m,⟨[],_⟩,?_,p,n.forget B s⟩;intro o k;simp only[qE,xn,Xq,or_false] at k
    rcases k with rfl|rfl|rfl<;>exact⟨_,rfl,eQ rfl⟩
   ·have d:¬(eY F i).cut=true:=fun q=>by
     have z:(eY F i).cut=false:=e;rw[z] at q;cases q
    have m:XU (fQ h c (eY F i)) (eY F i)=.inl (.w (.agg (iW (fQ h c (eY F i)).2.1))):=if_neg d;refine aJ ?_;refine aB ?_;refine cZ (fun a w l=>⟨.inr rfl,_,m,_,⟨?_,?_⟩,l⟩);refine aY (by rfl) (by simp) (by rfl) (by rfl) ?_;rfl
    ·intro o k;simp only[qE,xn,Xq,or_false] at k
     rcases k with rfl|rfl|rfl<;>exact⟨_,rfl,eQ rfl⟩
  cases e
 ·have x:F.length<=i:=by have:=of_decide_eq_false e;omega
  have D:eY F i=AL:=by unfold eY;rw[zG,List.getElem?_eq_none x];rfl
  refine aJ ?_;refine aU (Tz F h (i:Int) c (eY F i)) ?_ ?_ ?_;exact ig;exact .cons (.box (by rw[D];rfl)) (.cons (.box rfl) (.cons (.box rfl) (.cons (.box rfl) (.cons (.box rfl) (.cons (.box rfl) .nil)))));refine aB ?_;refine aF ?_ ?_;simp;exact g;refine aU (aBP F h (fQ h c (eY F i)).1 ((i+1:Nat):Int) c (eY F i) (fQ h c (eY F i)).2.1) ?_ ?_ ?_;refine .cons rfl (.cons rfl (.cons ?_ (.cons rfl (.cons rfl (.cons rfl (.cons rfl (.cons rfl (.cons rfl .nil))))))));change di (fQ ⟨dL h.b.length (eX h.b),jX h.f.length (su h.f),h.r⟩ c (eY F i)).2.2=_;rw[aV,bW,j];refine .cons (.box ?_) (.cons (.box ?_) (.cons (.box rfl) (.cons (.box ?_) (.cons (.box rfl) (.cons (.box rfl) (.cons (.box rfl) (.cons (.box rfl) .nil)))))));change pz (fQ ⟨dL h.b.length (eX h.b),jX h.f.length (su h.f),h.r⟩ c (eY F i)).1=_;rw[aV,bW];change iW (fQ ⟨dL h.b.length (eX h.b),jX h.f.length (su h.f),h.r⟩ c (eY F i)).2.1=_;rw[aV,bW];rw[cO i a_];generalize (fQ h c (eY F i)).1=C at j ⊢;refine aG ?_;refine aB ?_;refine aI (fun e=>?_) (fun e=>?_)
  ·refine lU ?_;refine lV (aBO F C ((i+1:Nat):Int) c (eY F i) (fQ h c (eY F i)).2.1) ?_;refine aG ?_;refine aB ?_;refine aI (fun e=>?_) (fun e=>?_)
   ·have d:(eY F i).cut=true:=e;have m:XU (fQ h c (eY F i)) (eY F i)=.inr [{ v:=cutV,recovered:=false }]:=if_pos d;intro a w l y;obtain⟨p,n⟩:=l;refine wp_cut _ _ _ _ _ _ _ _ _ rfl (by rw[n.size,t];rfl) (fun G B s=>?_);refine⟨s.trans n.defers,m,⟨[],_⟩,?_,p,n.forget B s⟩;intro o k;simp only[qE,xn,Xq,or_false] at k
    rcases k with rfl|rfl|rfl<;>exact⟨_,rfl,eQ rfl⟩
   ·have d:¬(eY F i).cut=true:=fun q=>by
     have z:(eY F i).cut=false:=e;rw[z] at q;cases q
    have m:XU (fQ h c (eY F i)) (eY F i)=.inl (.w (.agg (iW (fQ h c (eY F i)).2.1))):=if_neg d;refine aJ ?_;refine aB ?_;refine cZ (fun a w l=>⟨.inr rfl,_,m,_,⟨?_,?_⟩,l⟩);refine aY (by rfl) (by simp) (by rfl) (by rfl) ?_;rfl
    ·intro o k;simp only[qE,xn,Xq,or_false] at k
     rcases k with rfl|rfl|rfl<;>exact⟨_,rfl,eQ rfl⟩
  cases e
def kY(T:bu)(O:List Acc->Option jh):List Acc->Option jh:=fun l=>match l.getLast? with
 |none=>some ⟨(T:Int)+1,aH⟩|some c=>match decide (c.kind = -1) with
  |true=>none|false=>O l
theorem aJx(T:bu)(O:List Acc->Option jh)(l:List Acc)(c:Acc):kY T O (l++[c])=match decide (c.kind = -1) with|true=>none|false=>O (l++[c]):=by unfold kY;rw[List.getLast?_concat]
theorem aNc(T:bu)(O:List Acc->Option jh)(l:List Acc){c:Acc}(h:c.kind ≠ -1):kY T O (l++[c])=O (l++[c]):=by rw[aJx,decide_eq_false h]
theorem aYz(T:bu)(O:List Acc->Option jh):ZI T (kY T O):=⟨rfl,fun l e=>by rw[aJx];rfl⟩
def Xa(a:List YL):Prop:=∀ e∈a,e.goexit=false
theorem aBs{v:ag}{a:List YL}(h:Xa a):settle (.panicking ({ v:=v,recovered:=true }::a))=.returning:=by
 have d:a.dropWhile (!·.goexit)=[]:=by
  induction a with
  |nil=>rfl|cons e l b=>rw[List.dropWhile_cons_of_pos (by rw[h e List.mem_cons_self];rfl)];exact b (fun x c=>h x (List.mem_cons_of_mem _ c))
 unfold settle;dsimp only;rw[d]
def sV(l:List Acc):Prop:=∀ c∈l,c.kind ≠ -1
theorem sV.app{l:List Acc}{c:Acc}(h:sV l)(hc:c.kind ≠ -1):sV (l++[c]):=fun x a=>by
 rcases List.mem_append.1 a with a|a;exact h x a
 obtain rfl:=List.mem_singleton.1 a;exact hc
theorem bDb(T:bu)(O:List Acc->Option jh){l:List Acc}(h:sV l)(h0:l≠[]):kY T O l=O l:=by obtain⟨m,c,rfl⟩:∃ m c,l=m++[c]:=⟨_,_,(List.dropLast_concat_getLast h0).symm⟩;exact aNc T O m (h c ay)
def iQ(T:bu)(D:Dv):Dv where
 hd:=D.hd
 O:=kY T D.O
 S:=D.S
 inv:=fun l X w=>D.inv l X w/\kY T D.O l≠none/\sV l
 pan:=fun l X w chain=>(D.pan l X w chain/\sV l/\l≠[])\/∃ l0 e,l=l0++[uQ e]/\sV l0/\D.inv l0 X w/\chain=aGx T e
 one:=D.one
 x_:=D.x_
 notS:=fun l X w b h=>D.notS l X w b h.1
 grow:=fun l X Y w w' h hc hy=>⟨D.grow l X Y w w' h.1 hc hy,h.2⟩
theorem aKu{P:gp}{D:Dv}{T:bu}{dw a:List Acc->Prop}(h:pq P D a)(hs:∀ l c,sV (l++[c])->dw (l++[c])->a (l++[c])):pq P (iQ T D) dw:=
 ⟨
  fun l X w d=>by
  obtain⟨F,f,y,x,u⟩:=h.step l X w d.1;refine⟨F,f,y,x,fun c n s=>?_⟩;have g:kY T D.O (l++[c])=D.O (l++[c]):=aNc T D.O l n;have j:sV (l++[c]):=d.2.2.app n;refine (u c n fun q=>hs l c j (s (g.trans q))).mono ?_;rintro e B ⟨o,⟨r,i,m,k⟩|⟨b,i,m,k⟩⟩;exact⟨o,.inl ⟨r,g.trans i,m,k,by rw[g,i];simp,j⟩⟩
  exact⟨o,.inr ⟨b,g.trans i,m,.inl ⟨k,j,by simp⟩⟩⟩,
 fun p t l X w d=>by
  have A:(T:Int)+1=(p:Int)+1:=congrArg jh.val (Option.some.inj t.1);have z:T=p:=Int.ofNat.inj ((Int.add_left_inj 1).1 A);subst z
  exact⟨d.2.1,fun e=>.inr ⟨l,e,rfl,d.2.2,d.1,rfl⟩⟩⟩
theorem vM{D:Dv}{T:bu}(h:∀ l X Y w c a,D.pan l X w a->dm X w c->(∀ b,Y b->X b)->D.pan l Y c a):∀ l X Y w c a,(iQ T D).pan l X w a->dm X w c->(∀ b,Y b->X b)->(iQ T D).pan l Y c a:=by rintro l X Y w c a (⟨f,d⟩|⟨g,e,f,d,n,m⟩) j i;exact .inl ⟨h l X Y w c a f j i,d⟩;exact .inr ⟨g,e,f,d,D.grow g X Y w c n j (fun b k=>.inl (i b k)),m⟩
def ah.catch{b:Type}(k:Int->b):ah b->ah b
 |.ret a=>.ret a|.ask c g=>match decide (c.kind = -1) with
  |true=>.ret (k c.jy)|false=>.ask c fun r=>ah.catch k (g r)
theorem qG{a:Type}(k:Int->a){c:Acc}(g:jh->ah a)(h:c.kind ≠ -1):ah.catch k (.ask c g)=.ask c fun r=>ah.catch k (g r):=by
 conv=>lhs;unfold ah.catch
 rw[decide_eq_false h]
theorem bDu{a:Type}(k:Int->a)(e:Int)(g:jh->ah a):ah.catch k (.ask (uQ e) g)=.ret (k e):=rfl
theorem aHq(T:bu)(O:List Acc->Option jh)(l:List Acc){c:Acc}(h:c.kind ≠ -1):ans (kY T O) (l++[c])=ans O (l++[c]):=by unfold ans;rw[aNc T O l h]
theorem Nb{b:Type}(k:Int->b)(T:bu)(O:List Acc->Option jh)(p:ah b):∀ l,sV (go (kY T O) p l).2->go O (ah.catch k p) l=go (kY T O) p l:=by
 induction p with
 |ret a=>intro l _;rfl|ask c g e=>intro l h;rw[yH] at h ⊢;have d:c.kind ≠ -1:=h c ((wR _ _ _).subset ay);rw[qG k g d,yH,<-aHq T O l d];exact e _ _ h
theorem aSi{d:Type}(k:Int->d)(T:bu)(O:List Acc->Option jh)(p:ah d):∀ l m,l <+: m->sV m->m <+: (go (kY T O) p l).2->m <+: (go O (ah.catch k p) l).2:=by
 induction p with
 |ret a=>intro l m _ _ h;exact h| ask c g j=>
  intro l m o h b;rw[yH] at b;obtain⟨t,rfl⟩:=o;cases t with
  |nil=>rw[Pi];exact wR _ _ _| cons x t=>
   have n:x=c:=by have q:=aFJ (wR (kY T O) (g (ans (kY T O) (l++[c]))) (l++[c])) b ay;obtain⟨u,e⟩:=q;rw[yl] at e;have i:=aFH e;simp only[aDj,List.cons.injEq] at i;exact i.1.symm
   subst n;have f:x.kind ≠ -1:=h x ay;rw[qG k g f,yH,<-aHq T O l f];exact j _ _ _ (by rw[show l++x::t=(l++[x])++t from by simp];exact Yb _ _) h b
theorem bNt{m:Type}(k:Int->m)(T:bu)(O:List Acc->Option jh)(p:ah m):∀ l b e,l <+: b->sV b->b++[uQ e] <+: (go (kY T O) p l).2->go O (ah.catch k p) l=(k e,b):=by
 induction p with
 |ret a=>intro l b e j _ d;have w:=j.length_le;have o:=d.length_le;rw[ed,Yd] at o;have s:(go (kY T O) (ah.ret a) l).2=l:=rfl;rw[s] at o;omega| ask c g q=>
  intro l b e j f d;rw[yH] at d;obtain⟨t,rfl⟩:=j;have i:=aFJ (wR (kY T O) (g (ans (kY T O) (l++[c]))) (l++[c])) d ay;cases t with
  |nil=>
   rw[Pi] at i d ⊢;have:=i.eq_of_length ay;have h:c=uQ e:=by simpa using this
   rw[h,bDu];rfl
  | cons x t=>
   have r:x=c:=by obtain⟨u,n⟩:=i;rw[yl,yl] at n;have f:=aFH n;simp only[We,List.cons.injEq] at f;exact f.1.symm
   subst r;have h:x.kind ≠ -1:=f x ay;rw[qG k g h,yH,<-aHq T O l h];exact q _ _ _ _ (by rw[show l++x::t=(l++[x])++t from by simp];exact Yb _ _) f d
def Z_:Nat:=2
def Z9:Nat:=0
def OG(K X:Nat->Prop)(a c gH:Nat):Nat->Prop:=fun b=>K b/\¬X b/\b≠a/\b≠c/\b≠gH
structure CJ(K:Nat->Prop)(gN gF gH:Nat)(F:List qx)(h0:jk)(l:List Acc)(X:Nat->Prop)(w:ae):Prop where
 bn:dh w gN 3 #[.int .i64 (l.length:Int)]
 bf:∃ cs,dh w gF 68 cs/\RL { w:=w,ok:=OG K X gN gF gH,env:=fun _=>none } [vC F] cs.toList
 bh:∃ cs,dh w gH 65 cs/\RL { w:=w,ok:=OG K X gN gF gH,env:=fun _=>none } (pz (AV F h0 l 0)) cs.toList
 ne:gN≠gF/\gN≠gH/\gF≠gH
 good:∀ c∈l,zX c
 mine:∀ b,X b->b<w.heap.size/\b≠gN/\b≠gF/\b≠gH
 mem:af w
 tab:∀ b,b=Z_\/b=Z9->¬X b/\b≠gN/\b≠gF/\b≠gH
 up:∀ b,w.heap.size<=b->K b
theorem Zb{w:ae}(h:af w){b:Nat}(hb:b=Z_\/b=Z9):b<w.heap.size:=by rcases hb with rfl|rfl;exact lt_of_cell (h.k 0 _ rfl);exact lt_of_cell (h.h 0 _ rfl)
theorem aTh{S:Nat->Prop}{w w':ae}(h:af w)(hc:dm S w w')(hS:∀ b,b=Z_\/b=Z9->¬S b):af w':=h.gy hc (hS _ (.inl rfl)) (hS _ (.inr rfl))
theorem CJ.grow{K:Nat->Prop}{i j gH:Nat}{F:List qx}{h0:jk}{l:List Acc}{X Y:Nat->Prop}{w w':ae}(h:CJ K i j gH F h0 l X w)(hc:dm X w w')(m:∀ b,Y b->X b\/(w.heap.size<=b/\b<w'.heap.size)):CJ K i j gH F h0 l Y w':=by
 have k:∀ g,(g=i\/g=j\/g=gH)->¬X g:=fun g x t=>by have:=(h.mine g t).2;rcases x with rfl|rfl|rfl;exact this.1 rfl;exact this.2.1 rfl;exact this.2.2 rfl
 have f:∀ {p:List PC} {n:List ag},RL { w:=w,ok:=OG K X i j gH,env:=fun _=>none } p n->RL { w:=w',ok:=OG K Y i j gH,env:=fun _=>none } p n:=fun u=>u.le ⟨hc.size,fun b a c=>⟨⟨c.1,fun e=>(m b e).elim c.2.1 (fun d=>by have y:b<w.heap.size:=a;omega),c.2.2⟩,hc.block b a c.2.1⟩,fun _ _ _ h=>by cases h⟩;obtain⟨A,q,s⟩:=h.bf;obtain⟨z,o,r⟩:=h.bh;have B:=h.bn.lt;have D:=q.lt;have C:=o.lt;refine⟨h.bn.gy hc (k _ (.inl rfl)),⟨A,q.gy hc (k _ (.inr (.inl rfl))),f s⟩,⟨z,o.gy hc (k _ (.inr (.inr rfl))),f r⟩,h.ne,h.good,fun b a=>?_,aTh h.mem hc (fun b a=>(h.tab b a).1),fun b a=>⟨fun e=>?_,(h.tab b a).2⟩,fun b a=>h.up b (mr hc.size a)⟩;rcases m b a with d|d
 exact⟨Y1 (h.mine b d).1 hc.size,(h.mine b d).2⟩;exact⟨d.2,by omega,by omega,by omega⟩;rcases m b e with d|d;exact (h.tab b a).1 d;have:=Zb h.mem a;omega
def NP:List YL:=[{ v:=cutV,recovered:=false }]
def Sm(K:Nat->Prop)(gN gF gH:Nat)(F:List qx)(h0:jk):Dv where
 hd:=.func (.func 65) #[] #[.pointer (some ⟨gN,0,none⟩),.pointer (some ⟨gF,0,none⟩),.pointer (some ⟨gH,0,none⟩)]
 O:=pI F h0
 S:=fun b=>b=gN\/b=gF\/b=gH
 inv l X w:=CJ K gN gF gH F h0 l X w/\EZ F l.length
 pan l X w chain:=(∃ older,Xa older/\chain={ v:=cutV,recovered:=false }::older)/\CJ K gN gF gH F h0 l X w/\∃ l' c,l=l'++[c]/\EZ F l'.length/\(eY F l'.length).cut=true
 one:=rfl
 x_:=rfl
 notS:=fun l X w b h hx hs=>by
  have:=(h.1.mine b hx).2;rcases hs with rfl|rfl|rfl;exact this.1 rfl;exact this.2.1 rfl;exact this.2.2 rfl
 grow:=fun l X Y w w' h hc hy=>⟨h.1.grow hc hy,h.2⟩
theorem bJq(K:Nat->Prop)(d e gH:Nat)(F:List qx)(h0:jk):∀ l X Y w c a,(Sm K d e gH F h0).pan l X w a->dm X w c->(∀ b,Y b->X b)->(Sm K d e gH F h0).pan l Y c a:=fun _ _ _ _ _ _ h g f=>⟨h.1,h.2.1.grow g (fun b i=>.inl (f b i)),h.2.2⟩
theorem bCk{α:Type}(K:Nat->Prop)(m n gH:Nat)(F:List qx)(h0:jk)(hF:F.length<=1000000)(hd:vg h0)(p:ah α)(hp:ah.Zl p)(hl:(go (pI F h0) p []).2.length<=1000000) :
  pq prog (Sm K m n gH F h0) (fun h=>[] <+: h/\h <+: (go (pI F h0) p []).2):=by
 refine⟨?_,fun T hT=>absurd hT.1 (by intro h;have:=congrArg (·.map jh.val) h;simp[Sm,pI,iJ] at this;omega)⟩;intro l X w ⟨f,hN⟩;refine⟨_,_,rfl,(fun args w=>by kernel_rfl),fun c _ V=>?_⟩;have W:=aJl F h0 l c
 have L:zX c:=by
  by_cases g:zX c;exact g
  ·have h1:(Sm K m n gH F h0).O (l++[c])=none:=by
    show pI F h0 (l++[c])=none;rw[W,if_pos (.inr (.inl g))]
   exact Lc (pI F h0) p hp [] (fun _ h=>by cases h) c ((V h1).2.subset ay)
 have N:l.length<=1000000:=by
  rcases Y6 1000000 l.length with h2|h2
  have h1:(Sm K m n gH F h0).O (l++[c])=none:=by show pI F h0 (l++[c])=none;rw[W,if_pos (.inr (.inr h2))]
  have h3:=(V h1).2.length_le;rw[ed,Yd] at h3;omega;exact h2
 have Q:=aXd (F:=F) l 0 hd f.good;have hg:Dj (AV F h0 l 0) c:=⟨Q,L⟩;have a0:=aXc F l c h0;obtain⟨C,y,u,s⟩:∃ C:Nat->Nat,C 900001=m/\C 900002=n/\C 900003=gH:=⟨fun x=>if x=900001 then m else if x=900002 then n else gH,rfl,rfl,rfl⟩;have j:∀ {E:jk} {o:Ob},o∈qE F (AV F h0 l 0) E l.length->(o.x=900001/\o.t=3/\o.l=[.lit (.int .i64 (l.length:Int))]/\o.l'=[.lit (.int .i64 ((l.length+1:Nat):Int))])\/(o.x=900002/\o.t=68/\o.l=[vC F]/\o.l'=[vC F])\/(o.x=900003/\o.t=65/\o.l=pz (AV F h0 l 0)/\o.l'=pz E):=by intro E o D;simp only[qE,xn,Xq,or_false] at D;rcases D with rfl|rfl|rfl;exact .inl ⟨rfl,rfl,rfl,rfl⟩;exact .inr (.inl ⟨rfl,rfl,rfl,rfl⟩);exact .inr (.inr ⟨rfl,rfl,rfl,rfl⟩)
 have B:∀ {E:jk} b,SX (qE F (AV F h0 l 0) E l.length) C Dv.non b->b=m\/b=n\/b=gH:=by
  rintro E b (i|⟨o,D,rfl⟩);exact i.elim
  ·rcases j D with⟨e,_⟩|⟨e,_⟩|⟨e,_⟩<;>rw[e]<;>simp[y,u,s]
 obtain⟨n1,n2,n3⟩:=f.ne;obtain⟨cF,f1,f2⟩:=f.bf;obtain⟨cH,f3,f4⟩:=f.bh;have e1:Value.pointer (some ⟨m,0,none⟩)=.pointer (some ⟨C 900001,0,none⟩):=by rw[y]
 have e2:Value.pointer (some ⟨n,0,none⟩)=.pointer (some ⟨C 900002,0,none⟩):=by rw[u]
 have e3:Value.pointer (some ⟨gH,0,none⟩)=.pointer (some ⟨C 900003,0,none⟩):=by rw[s]
 refine (bCf F (AV F h0 l 0) l.length c hg N hF w (OG K X m n gH) [c.v,.pointer (some ⟨m,0,none⟩),.pointer (some ⟨n,0,none⟩),.pointer (some ⟨gH,0,none⟩)] C
  (fun U V=>aTh f.mem V (fun b i hs=>?_)) (fun b i=>?_) (fun o D=>?_) (fun o D o' a2 e=>?_) ⟨?_,?_,?_,?_,trivial⟩).mono ?_
 have:=(f.tab b i).2;rcases B b hs with h|h|h;exact this.1 h;exact this.2.1 h;exact this.2.2 h;rcases B b i with rfl|rfl|rfl
 exact⟨f.bn.lt,fun h=>h.2.2.1 rfl⟩;exact⟨f1.lt,fun h=>h.2.2.2.1 rfl⟩;exact⟨f3.lt,fun h=>h.2.2.2.2 rfl⟩
 ·rcases j D with⟨H,G,k3,_⟩|⟨H,G,k3,_⟩|⟨H,G,k3,_⟩<;>rw[H,G,k3]
  exact⟨_,by rw[y];exact f.bn,.cons (xs:=[_]) (.lit rfl) .nil⟩;exact⟨cF,by rw[u];exact f1,f2⟩;exact⟨cH,by rw[s];exact f3,f4⟩
 ·rcases j D with⟨H,_⟩|⟨H,_⟩|⟨H,_⟩<;>rcases j a2 with⟨G,_⟩|⟨G,_⟩|⟨G,_⟩<;>rw[H,G] at e ⊢<;>simp only[y,u,s] at e<;>first|(exact absurd e n1)|(exact absurd e n2)|(exact absurd e n3)|(exact absurd e.symm n1)|(exact absurd e.symm n2)|(exact absurd e.symm n3)
 exact .w (.agg (.cons (xs:=[_]) (.lit rfl) (.cons (xs:=[_]) (.lit rfl) (.cons (xs:=[_]) (.lit rfl) (.cons (xs:=[_]) (.lit rfl) .nil)))));exact .w (.one (.pt ⟨_,_,rfl⟩ ⟨0,_,rfl,dE _,fun _=>⟨_,rfl,e1⟩⟩));exact .w (.one (.pt ⟨_,_,rfl⟩ ⟨0,_,rfl,dE _,fun _=>⟨_,rfl,e2⟩⟩));exact .w (.one (.pt ⟨_,_,rfl⟩ ⟨0,_,rfl,dE _,fun _=>⟨_,rfl,e3⟩⟩));rintro e U ⟨A,J,a⟩;refine⟨A.mono fun b _ i=>B b i,?_⟩
 have S:CJ K m n gH F h0 (l++[c]) X U:=by
  have P:∀ {p:List PC} {xs:List ag},RL { w:=U,ok:=qC w (OG K X m n gH) false,env:=fun _=>none } p xs->RL { w:=U,ok:=OG K X m n gH,env:=fun _=>none } p xs:=fun hr=>hr.le ⟨dE _,fun b i a1=>⟨a1.elim (fun h=>h.2) (fun h=>by have E:w.heap.size<=b:=h;exact⟨f.up b E,fun I=>by have:=(f.mine b I).1;omega,by have:=f.bn.lt;omega,by have:=f1.lt;omega,by have:=f3.lt;omega⟩),rfl⟩,fun _ _ _ h=>by cases h⟩;have o1:=J ⟨900001,3,[.lit (.int .i64 (l.length:Int))],[.lit (.int .i64 ((l.length+1:Nat):Int))]⟩ (by simp[qE]);have o2:=J ⟨900002,68,[vC F],[vC F]⟩ (by simp[qE]);have o3:=J ⟨900003,65,pz (AV F h0 l 0),pz (fQ (AV F h0 l 0) c (eY F l.length)).1⟩ (by simp[qE]);dsimp only at o1 o2 o3;rw[y] at o1;rw[u] at o2;rw[s] at o3;obtain⟨c1,p1,p2⟩:=o1;obtain⟨c2,p3,p4⟩:=o2;obtain⟨c3,p5,p6⟩:=o3;refine⟨?_,⟨c2,p3,P p4⟩,⟨c3,p5,?_⟩,f.ne,fun x I=>?_,fun b i=>⟨Y1 (f.mine b i).1 A.size,(f.mine b i).2⟩,aTh f.mem A (fun b i hs=>?_),f.tab,fun b i=>f.up b (mr A.size i)⟩
  have a3:c1=#[.int .i64 ((l.length+1:Nat):Int)]:=by
   apply Ha;generalize c1.toList=z at p2;cases p2 with
   |cons Z Y=>cases Y;cases Z;rfl
  rw[a3] at p1;rw[ed,Yd];exact p1;rw[a0];exact P p6;rcases List.mem_append.1 I with I|I;exact f.good x I
  obtain rfl:=List.mem_singleton.1 I;exact L;have:=(f.tab b i).2;rcases B b hs with h|h|h;exact this.1 h;exact this.2.1 h;exact this.2.2 h
 by_cases d:(eY F l.length).cut=true;right;unfold XU at a;rw[if_pos d] at a;refine⟨NP,?_,a,⟨[],(fun _ h=>by cases h),rfl⟩,S,l,c,rfl,hN,d⟩;show pI F h0 (l++[c])=none;rw[W,if_pos (.inl d)];left;unfold XU at a;rw[if_neg d] at a;obtain⟨a4,rfl,q⟩:=a;refine⟨(fQ (AV F h0 l 0) c (eY F l.length)).2.1,?_,?_,S,fun k hk=>?_⟩;show pI F h0 (l++[c])=some _;rw[W,if_neg (fun h=>h.elim d fun h=>h.elim (fun h=>h L) (fun h=>by omega))];congr 1;generalize (fQ (AV F h0 l 0) c (eY F l.length)).2.1=r at q;cases q with
 | w q=>cases q with
  | @agg _ cs q=>
   obtain⟨cs⟩:=cs;dsimp only at q;cases q with
   |cons Z q=>cases q with
    |cons Y q=>cases q;cases Z;cases Y;rfl
 rw[ed,Yd] at hk;rcases Y6 k l.length with h|h;exact hN k h
 obtain rfl:k=l.length:=by omega
 simpa using d
structure Loc(P:gp)(T:bu)(b:Nat)(t:bu)(cs:Array ag)(v:ag):Prop where
 ld:∀ w,dh w b t cs->(Instr.loadAt T (.pointer (some ⟨b,0,none⟩))).run P w=.ok v w
 st:∀ w old,old.size=cs.size->dh w b t old->∃ w',(Instr.storeAt T (.pointer (some ⟨b,0,none⟩)) v).run P w=.ok () w'/\dh w' b t cs/\dm (fun k=>k=b) w w'/\w'.heap.size=w.heap.size
theorem Loc.wide{P:gp}{T:bu}{n:Nat}(W:ve P T n)(b:Nat)(t:bu)(cs:Array ag)(hn:cs.size=n)(h1:cs.all (·.oneCell')=true):Loc P T b t cs (.agg cs):=by refine⟨fun w a=>?_,fun w old c a=>⟨_,run_storeAt_mid w b 0 T cs (by rw[<-c];exact a.Dp) (by rw[hn];exact W.info) h1,aEp a c,(gZ b cs.toList 0 w).1,(gZ b cs.toList 0 w).2⟩⟩;obtain⟨d,e,f⟩:=W.und;have:=run_loadAt_mid (P:=P) w b 0 T cs.toList d a.range e f (by rw[mf,hn];exact W.info);rw[Array.toArray_toList] at this;exact this
def DC(T:bu)(p:String):Oper:=⟨some 17,.load T (.tmp 6),T,p,#[],none⟩
def Bz(T:bu)(p:String):Oper:=⟨some 18,.load T (.tmp 7),T,p,#[],none⟩
def BZ(T:bu)(p:String):Oper:=⟨some 19,.load T (.tmp 8),T,p,#[],none⟩
def D_(T:bu)(p:String):Oper:=⟨none,.store T (.tmp 6) (.tmp 17),0,p,#[⟨0,.data⟩,⟨0,.phase⟩,⟨1,.textOnly .lateStoresUnsure⟩,⟨2,.textOnly .lateStoresUnsure⟩],none⟩
def Du(T:bu)(p:String):Oper:=⟨none,.store T (.tmp 7) (.tmp 18),0,p,#[⟨1,.data⟩,⟨3,.chain⟩,⟨0,.phase⟩,⟨1,.phase⟩,⟨2,.textOnly .lateStoresUnsure⟩,⟨3,.phase⟩],none⟩
def Em(T:bu)(p:String):Oper:=⟨none,.store T (.tmp 8) (.tmp 19),0,p,#[⟨2,.data⟩,⟨4,.chain⟩,⟨0,.phase⟩,⟨1,.phase⟩,⟨2,.phase⟩,⟨3,.phase⟩,⟨4,.phase⟩],none⟩
def Ej(T:bu)(p:String):Oper:=⟨none,.store T (.tmp 9) (.const (.bool true)),0,p,#[⟨5,.chain⟩,⟨0,.phase⟩,⟨1,.phase⟩,⟨2,.phase⟩,⟨3,.phase⟩,⟨4,.phase⟩,⟨5,.phase⟩],none⟩
def pG(c b a d:bu)(p:String):Array Oper:=#[DC c p,Bz b p,BZ a p,D_ c p,Du b p,Em a p,Ej d p]
structure LvV where
 a0:Act
 w0:ae
 b1:Nat
 b2:Nat
 b3:Nat
 b4:Nat
 t1:bu
 t2:bu
 t3:bu
 t4:bu
 c1:Array ag
 c2:Array ag
 c3:Array ag
 v1:ag
 v2:ag
 v3:ag
structure Ah(V:LvV)(x y z f:Bool)(a:Act)(w:ae):Prop where
 ds:a.defers=V.a0.defers
 sz:a.tmps.size=V.a0.tmps.size
 tm:∀ t,t<17->a.tmps.getD t dC=V.a0.tmps.getD t dC
 l1:x=true->a.tmps.getD 17 dC=V.v1
 l2:y=true->a.tmps.getD 18 dC=V.v2
 l3:z=true->a.tmps.getD 19 dC=V.v3
 k1:dh w V.b1 V.t1 V.c1
 k2:dh w V.b2 V.t2 V.c2
 k3:dh w V.b3 V.t3 V.c3
 k4:∃ v,dh w V.b4 V.t4 #[v]/\(f=true->v=.bool true)
 gy:dm (fun k=>k=V.b1\/k=V.b2\/k=V.b3\/k=V.b4) V.w0 w
 size:w.heap.size=V.w0.heap.size
theorem uO{a:Array ag}{i:Nat}(h:i<a.size)(v:ag):(a.setIfInBounds i v).getD i dC=v:=by simp[YR,h]
theorem getD_set_ne{a:Array ag}{i j:Nat}(h:i≠j)(v:ag):(a.setIfInBounds i v).getD j dC=a.getD j dC:=by simp[YR,h]
theorem KO{P:gp}(hm:P.follows .mixedOrders=true)(V:LvV){l j i m:bu}{id:Nat}{p:String}{Q:Exit->Act->ae->Prop}
  (L1:Loc P l V.b1 V.t1 V.c1 V.v1) (L2:Loc P j V.b2 V.t2 V.c2 V.v2) (L3:Loc P i V.b3 V.t3 V.c3 V.v3) (L4:Loc P m V.b4 V.t4 #[.bool true] (.bool true))
  (e1:V.a0.tmps.getD 6 dC=.pointer (some ⟨V.b1,0,none⟩)) (e2:V.a0.tmps.getD 7 dC=.pointer (some ⟨V.b2,0,none⟩)) (e3:V.a0.tmps.getD 8 dC=.pointer (some ⟨V.b3,0,none⟩)) (e4:V.a0.tmps.getD 9 dC=.pointer (some ⟨V.b4,0,none⟩))
  (hz:V.a0.tmps.size=20) (a7:V.b1≠V.b2) (a6:V.b1≠V.b3) (a5:V.b1≠V.b4) (a4:V.b2≠V.b3) (a3:V.b2≠V.b4) (a2:V.b3≠V.b4)
  (K1:dh V.w0 V.b1 V.t1 V.c1) (K2:dh V.w0 V.b2 V.t2 V.c2) (K3:dh V.w0 V.b3 V.t3 V.c3) (K4:∃ v,dh V.w0 V.b4 V.t4 #[v])
  (hQ:∀ a w,Ah V true true true true a w->Q .normal a w):(Code.region id (pG l j i m p) true).wp P Q V.a0 V.w0:=by
 have d0:∀ {x y z f:Bool} (J:Act->ae->Prop) (a:Act) (w:ae),Ah V x y z f a w->(∀ E n,Ah V true y z f E n->J E n)->if Region.wanted (DC l p) (Xx (pG l j i m p) a.tmps)=true then Oper.wp P (DC l p) a w J Q else J (a.put (DC l p).dst dC) w:=by intro x y z f J a w h b;rw[if_pos f_];have hs:=h.sz.trans hz;refine aKr (o:=DC l p) rfl (val:=V.v1) (by rw[show a.eval (.tmp 6)=.pointer (some ⟨V.b1,0,none⟩) from (h.tm 6 a_).trans e1];exact L1.ld w h.k1) (b _ _ ?_);exact⟨h.ds,by show (a.tmps.setIfInBounds 17 _).size=_;rw[aGD];exact h.sz,fun t ht=>(getD_set_ne a_ _).trans (h.tm t ht),fun _=>uO a_ _,fun hy=>(getD_set_ne a_ _).trans (h.l2 hy),fun X=>(getD_set_ne a_ _).trans (h.l3 X),h.k1,h.k2,h.k3,h.k4,h.gy,h.size⟩
 have d1:∀ {x y z f:Bool} (J:Act->ae->Prop) (a:Act) (w:ae),Ah V x y z f a w->(∀ E n,Ah V x true z f E n->J E n)->if Region.wanted (Bz j p) (Xx (pG l j i m p) a.tmps)=true then Oper.wp P (Bz j p) a w J Q else J (a.put (Bz j p).dst dC) w:=by intro x y z f J a w h b;rw[if_pos f_];have hs:=h.sz.trans hz;refine aKr (o:=Bz j p) rfl (val:=V.v2) (by rw[show a.eval (.tmp 7)=.pointer (some ⟨V.b2,0,none⟩) from (h.tm 7 a_).trans e2];exact L2.ld w h.k2) (b _ _ ?_);exact⟨h.ds,by show (a.tmps.setIfInBounds 18 _).size=_;rw[aGD];exact h.sz,fun t ht=>(getD_set_ne a_ _).trans (h.tm t ht),fun hx=>(getD_set_ne a_ _).trans (h.l1 hx),fun _=>uO a_ _,fun X=>(getD_set_ne a_ _).trans (h.l3 X),h.k1,h.k2,h.k3,h.k4,h.gy,h.size⟩
 have d2:∀ {x y z f:Bool} (J:Act->ae->Prop) (a:Act) (w:ae),Ah V x y z f a w->(∀ E n,Ah V x y true f E n->J E n)->if Region.wanted (BZ i p) (Xx (pG l j i m p) a.tmps)=true then Oper.wp P (BZ i p) a w J Q else J (a.put (BZ i p).dst dC) w:=by intro x y z f J a w h b;rw[if_pos f_];have hs:=h.sz.trans hz;refine aKr (o:=BZ i p) rfl (val:=V.v3) (by rw[show a.eval (.tmp 8)=.pointer (some ⟨V.b3,0,none⟩) from (h.tm 8 a_).trans e3];exact L3.ld w h.k3) (b _ _ ?_);exact⟨h.ds,by show (a.tmps.setIfInBounds 19 _).size=_;rw[aGD];exact h.sz,fun t ht=>(getD_set_ne a_ _).trans (h.tm t ht),fun hx=>(getD_set_ne a_ _).trans (h.l1 hx),fun hy=>(getD_set_ne a_ _).trans (h.l2 hy),fun _=>uO a_ _,h.k1,h.k2,h.k3,h.k4,h.gy,h.size⟩
 have d3:∀ {y z f:Bool} (J:Act->ae->Prop) (a:Act) (w:ae),Ah V true y z f a w->(∀ E n,Ah V true y z f E n->J E n)->if Region.wanted (D_ l p) (Xx (pG l j i m p) a.tmps)=true then Oper.wp P (D_ l p) a w J Q else J (a.put (D_ l p).dst dC) w:=by intro y z f J a w h b;rw[if_pos f_];obtain⟨n,Y,hb,F,G⟩:=L1.st w V.c1 rfl h.k1;obtain⟨W,h4,U⟩:=h.k4;refine mP (o:=D_ l p) rfl (w':=n) (by rw[show a.eval (.tmp 6)=.pointer (some ⟨V.b1,0,none⟩) from (h.tm 6 a_).trans e1,show a.eval (.tmp 17)=V.v1 from h.l1 rfl];exact Y) (b _ _ ?_);exact⟨h.ds,h.sz,h.tm,h.l1,h.l2,h.l3,hb,h.k2.gy F (fun e=>a7 e.symm),h.k3.gy F (fun e=>a6 e.symm),⟨W,h4.gy F (fun e=>a5 e.symm),U⟩,h.gy.trans (F.mono fun k _ Z=>.inl Z),G.trans h.size⟩
 have d4:∀ {x z f:Bool} (J:Act->ae->Prop) (a:Act) (w:ae),Ah V x true z f a w->(∀ E n,Ah V x true z f E n->J E n)->if Region.wanted (Du j p) (Xx (pG l j i m p) a.tmps)=true then Oper.wp P (Du j p) a w J Q else J (a.put (Du j p).dst dC) w:=by intro x z f J a w h b;rw[if_pos f_];obtain⟨n,Y,hb,F,G⟩:=L2.st w V.c2 rfl h.k2;obtain⟨W,h4,U⟩:=h.k4;refine mP (o:=Du j p) rfl (w':=n) (by rw[show a.eval (.tmp 7)=.pointer (some ⟨V.b2,0,none⟩) from (h.tm 7 a_).trans e2,show a.eval (.tmp 18)=V.v2 from h.l2 rfl];exact Y) (b _ _ ?_);exact⟨h.ds,h.sz,h.tm,h.l1,h.l2,h.l3,h.k1.gy F a7,hb,h.k3.gy F (fun e=>a4 e.symm),⟨W,h4.gy F (fun e=>a3 e.symm),U⟩,h.gy.trans (F.mono fun k _ Z=>.inr (.inl Z)),G.trans h.size⟩
 have d5:∀ {x y f:Bool} (J:Act->ae->Prop) (a:Act) (w:ae),Ah V x y true f a w->(∀ E n,Ah V x y true f E n->J E n)->if Region.wanted (Em i p) (Xx (pG l j i m p) a.tmps)=true then Oper.wp P (Em i p) a w J Q else J (a.put (Em i p).dst dC) w:=by intro x y f J a w h b;rw[if_pos f_];obtain⟨n,Y,hb,F,G⟩:=L3.st w V.c3 rfl h.k3;obtain⟨W,h4,U⟩:=h.k4;refine mP (o:=Em i p) rfl (w':=n) (by rw[show a.eval (.tmp 8)=.pointer (some ⟨V.b3,0,none⟩) from (h.tm 8 a_).trans e3,show a.eval (.tmp 19)=V.v3 from h.l3 rfl];exact Y) (b _ _ ?_);exact⟨h.ds,h.sz,h.tm,h.l1,h.l2,h.l3,h.k1.gy F a6,h.k2.gy F a4,hb,⟨W,h4.gy F (fun e=>a2 e.symm),U⟩,h.gy.trans (F.mono fun k _ Z=>.inr (.inr (.inl Z))),G.trans h.size⟩
 have d6:∀ {x y z f:Bool} (J:Act->ae->Prop) (a:Act) (w:ae),Ah V x y z f a w->(∀ E n,Ah V x y z true E n->J E n)->if Region.wanted (Ej m p) (Xx (pG l j i m p) a.tmps)=true then Oper.wp P (Ej m p) a w J Q else J (a.put (Ej m p).dst dC) w:=by intro x y z f J a w h b;rw[if_pos f_];obtain⟨W,h4,U⟩:=h.k4;obtain⟨n,Y,hb,F,G⟩:=L4.st w #[W] rfl h4;refine mP (o:=Ej m p) rfl (w':=n) (by rw[show a.eval (.tmp 9)=.pointer (some ⟨V.b4,0,none⟩) from (h.tm 9 a_).trans e4];exact Y) (b _ _ ?_);exact⟨h.ds,h.sz,h.tm,h.l1,h.l2,h.l3,h.k1.gy F a5,h.k2.gy F a3,h.k3.gy F a2,⟨_,hb,fun _=>rfl⟩,h.gy.trans (F.mono fun k _ Z=>.inr (.inr (.inr Z))),G.trans h.size⟩
 have H:∀ a w,Ah V true true true true a w->wpAny P .any (pG l j i m p) Q 0 #[true,true,true,true,true,true,true] a w:=fun a w h=>by exact wpAny_done aj (hQ a w h) _
 have I:∀ a w,Ah V true true true false a w->wpAny P .any (pG l j i m p) Q 1 #[true,true,true,true,true,true,false] a w:=fun a w h=>by exact Y5 (rs:=[6]) aj ay (AllReady.cons (o:=Ej m p) rfl (fun J b=>d6 J a w h fun g c d=>b _ _ (H g c d)) AllReady.nil)
 have s:∀ a w,Ah V true true true false a w->wpAny P .any (pG l j i m p) Q 2 #[true,true,true,true,true,false,false] a w:=fun a w h=>by exact Y5 (rs:=[5]) aj ay (AllReady.cons (o:=Em i p) rfl (fun J b=>d5 J a w h fun g c d=>b _ _ (I g c d)) AllReady.nil)
 have q:∀ a w,Ah V true true true false a w->wpAny P .any (pG l j i m p) Q 3 #[true,true,true,true,false,false,false] a w:=fun a w h=>by exact Y5 (rs:=[4]) aj ay (AllReady.cons (o:=Du j p) rfl (fun J b=>d4 J a w h fun g c d=>b _ _ (s g c d)) AllReady.nil)
 have r:∀ a w,Ah V true true true false a w->wpAny P .any (pG l j i m p) Q 4 #[true,true,true,false,false,false,false] a w:=fun a w h=>by exact Y5 (rs:=[3]) aj ay (AllReady.cons (o:=D_ l p) rfl (fun J b=>d3 J a w h fun g c d=>b _ _ (q g c d)) AllReady.nil)
 have K:∀ a w,Ah V true true false false a w->wpAny P .any (pG l j i m p) Q 3 #[true,true,false,true,true,false,false] a w:=fun a w h=>by exact Y5 (rs:=[2]) aj ay (AllReady.cons (o:=BZ i p) rfl (fun J b=>d2 J a w h fun g c d=>b _ _ (s g c d)) AllReady.nil)
 have u:∀ a w,Ah V true true false false a w->wpAny P .any (pG l j i m p) Q 4 #[true,true,false,true,false,false,false] a w:=fun a w h=>by exact Y5 (rs:=[2,4]) aj ay (AllReady.cons (o:=BZ i p) rfl (fun J b=>d2 J a w h fun g c d=>b _ _ (q g c d)) (AllReady.cons (o:=Du j p) rfl (fun J b=>d4 J a w h fun g c d=>b _ _ (K g c d)) AllReady.nil))
 have A:∀ a w,Ah V true true false false a w->wpAny P .any (pG l j i m p) Q 5 #[true,true,false,false,false,false,false] a w:=fun a w h=>by exact Y5 (rs:=[2,3]) aj ay (AllReady.cons (o:=BZ i p) rfl (fun J b=>d2 J a w h fun g c d=>b _ _ (r g c d)) (AllReady.cons (o:=D_ l p) rfl (fun J b=>d3 J a w h fun g c d=>b _ _ (u g c d)) AllReady.nil))
 have B:∀ a w,Ah V true false true false a w->wpAny P .any (pG l j i m p) Q 4 #[true,false,true,true,false,false,false] a w:=fun a w h=>by exact Y5 (rs:=[1]) aj ay (AllReady.cons (o:=Bz j p) rfl (fun J b=>d1 J a w h fun g c d=>b _ _ (q g c d)) AllReady.nil)
 have C:∀ a w,Ah V true false true false a w->wpAny P .any (pG l j i m p) Q 5 #[true,false,true,false,false,false,false] a w:=fun a w h=>by exact Y5 (rs:=[1,3]) aj ay (AllReady.cons (o:=Bz j p) rfl (fun J b=>d1 J a w h fun g c d=>b _ _ (r g c d)) (AllReady.cons (o:=D_ l p) rfl (fun J b=>d3 J a w h fun g c d=>b _ _ (B g c d)) AllReady.nil))
 have L:∀ a w,Ah V true false false false a w->wpAny P .any (pG l j i m p) Q 5 #[true,false,false,true,false,false,false] a w:=fun a w h=>by exact Y5 (rs:=[1,2]) aj ay (AllReady.cons (o:=Bz j p) rfl (fun J b=>d1 J a w h fun g c d=>b _ _ (u g c d)) (AllReady.cons (o:=BZ i p) rfl (fun J b=>d2 J a w h fun g c d=>b _ _ (B g c d)) AllReady.nil))
 have N:∀ a w,Ah V true false false false a w->wpAny P .any (pG l j i m p) Q 6 #[true,false,false,false,false,false,false] a w:=fun a w h=>by exact Y5 (rs:=[1,2,3]) aj ay (AllReady.cons (o:=Bz j p) rfl (fun J b=>d1 J a w h fun g c d=>b _ _ (A g c d)) (AllReady.cons (o:=BZ i p) rfl (fun J b=>d2 J a w h fun g c d=>b _ _ (C g c d)) (AllReady.cons (o:=D_ l p) rfl (fun J b=>d3 J a w h fun g c d=>b _ _ (L g c d)) AllReady.nil)))
 have D:∀ a w,Ah V false true true false a w->wpAny P .any (pG l j i m p) Q 5 #[false,true,true,false,false,false,false] a w:=fun a w h=>by exact Y5 (rs:=[0]) aj ay (AllReady.cons (o:=DC l p) rfl (fun J b=>d0 J a w h fun g c d=>b _ _ (r g c d)) AllReady.nil)
 have O:∀ a w,Ah V false true false false a w->wpAny P .any (pG l j i m p) Q 6 #[false,true,false,false,false,false,false] a w:=fun a w h=>by exact Y5 (rs:=[0,2]) aj ay (AllReady.cons (o:=DC l p) rfl (fun J b=>d0 J a w h fun g c d=>b _ _ (A g c d)) (AllReady.cons (o:=BZ i p) rfl (fun J b=>d2 J a w h fun g c d=>b _ _ (D g c d)) AllReady.nil))
 have S:∀ a w,Ah V false false true false a w->wpAny P .any (pG l j i m p) Q 6 #[false,false,true,false,false,false,false] a w:=fun a w h=>by exact Y5 (rs:=[0,1]) aj ay (AllReady.cons (o:=DC l p) rfl (fun J b=>d0 J a w h fun g c d=>b _ _ (C g c d)) (AllReady.cons (o:=Bz j p) rfl (fun J b=>d1 J a w h fun g c d=>b _ _ (D g c d)) AllReady.nil))
 have T:∀ a w,Ah V false false false false a w->wpAny P .any (pG l j i m p) Q 7 #[false,false,false,false,false,false,false] a w:=fun a w h=>by exact Y5 (rs:=[0,1,2]) aj ay (AllReady.cons (o:=DC l p) rfl (fun J b=>d0 J a w h fun g c d=>b _ _ (N g c d)) (AllReady.cons (o:=Bz j p) rfl (fun J b=>d1 J a w h fun g c d=>b _ _ (O g c d)) (AllReady.cons (o:=BZ i p) rfl (fun J b=>d2 J a w h fun g c d=>b _ _ (S g c d)) AllReady.nil)))
 obtain⟨W,K4⟩:=K4;refine wp_region_any hm ?_;exact T _ _ ⟨rfl,rfl,fun _ _=>rfl,fun h=>(by cases h),fun h=>(by cases h),fun h=>(by cases h),K1.drew,K2.drew,K3.drew,⟨W,K4.drew,fun h=>by cases h⟩,dm.drew (dm.refl _ _),rfl⟩
end Pv
section
theorem jP:ve prog 40 55:=⟨⟨_,underlying40,rfl⟩,by kernel_rfl⟩
namespace Pv
def Df(l:List UInt8):Array ag:=(l.map qj).toArray
def mi(o:ja):Array ag:=(#[.int .i64 o.session,.string o.payload]:Array ag)++Df o.ot++#[.int .i64 o.ol]++Df o.xt++#[.int .i64 o.xl,.int .i64 o.bn,.string o.bc]++Df o.bt++#[.int .i64 o.err]
structure tu(o:ja):Prop where
 ot:o.ot.length=16
 xt:o.xt.length=16
 bt:o.bt.length=16
theorem aZp(l:List UInt8):(Df l).size=l.length:=by simp[Df]
theorem Nj(l:List UInt8):∀ u∈(Df l).toList,u.oneCell'=true:=by intro u a;simp only[Df,List.mem_map] at a;obtain⟨b,_,rfl⟩:=a;rfl
theorem eF{o:ja}(h:tu o):(mi o).size=55:=by unfold mi;simp only[Array.size_append,aZp,h.ot,h.xt,h.bt,YS,Lt,YN]
theorem bIf(C:Ctx){o:ja}(h:tu o):RL C (gm o) (mi o).toList:=by
 have e:(mi o).toList=[.int .i64 o.session]++([.string o.payload]++(o.ot.map qj++([.int .i64 o.ol]++(o.xt.map qj++([.int .i64 o.xl]++([.int .i64 o.bn]++([.string o.bc]++(o.bt.map qj++([.int .i64 o.err]++[]))))))))):=by simp[mi,Df]
 rw[e];exact .cons (.lit rfl) (.cons (.lit rfl) (.cons (.bs h.ot) (.cons (.lit rfl) (.cons (.bs h.xt) (.cons (.lit rfl) (.cons (.lit rfl) (.cons (.lit rfl) (.cons (.bs h.bt) (.cons (.lit rfl) .nil)))))))))
theorem QA{C:Ctx}{o:ja}{xs:List ag}(h:RL C (gm o) xs):xs=(mi o).toList/\tu o:=by unfold gm at h;cases h with|cons f h=>cases h with|cons k1 h=>cases h with|cons k2 h=>cases h with|cons k3 h=>cases h with|cons k4 h=>cases h with|cons e h=>cases h with|cons d h=>cases h with|cons c h=>cases h with|cons a h=>cases h with|cons b h=>cases h;cases f;cases k1;cases k3;cases e;cases d;cases c;cases b;cases k2 with|bs k2=>cases k4 with|bs k4=>cases a with|bs a=>exact⟨by simp[mi,Df],k2,k4,a⟩
theorem nG(o:ja):(mi o).all (·.oneCell')=true:=by
 rw[<-Array.all_toList,List.all_eq_true];intro u a;simp only[mi,Array.toList_append,List.mem_append] at a;rcases a with (((((a|a)|a)|a)|a)|a)|a
 all_goals first
  |exact Nj _ _ a
  |(simp only[xn,Xq,or_false] at a;rcases a with rfl|rfl|rfl<;>rfl)
  |(simp only[xn,Xq,or_false] at a;rcases a with rfl|rfl<;>rfl)
  |(simp only[xn,Xq,or_false] at a;subst a;rfl)
theorem kN:tu kz:=⟨rfl,rfl,rfl⟩
end Pv
theorem bDz(w:ae):(Instr.typeAssert (.iface 139 (.agg #[])) 20 139 true).run prog w=.ok (.tuple #[.agg #[],.bool true]) w:=by kernel_rfl
attribute [local go_sem] bDz
theorem bCj(Ob d:Nat)(y:Array ag)(E:ag)(b:List YL)(w:ae)(A:y.size=55)
  (s:dh w Ob 40 y) (u:dh w d 4 #[E]) (a:¬Ob=d) :
  CallsD prog 67 #[.pointer (some ⟨Ob,0,none⟩),.pointer (some ⟨d,0,none⟩)] (.panicking ({ v:=Pv.cutV,recovered:=false }::b)) w fun e G q=>
   e=.returned (.tuple #[])/\G=.panicking ({ v:=Pv.cutV,recovered:=true }::b)/\dm (fun k=>k=Ob\/k=d) w q /\
   dh q Ob 40 (Pv.mi Pv.kz)/\dh q d 4 #[.bool false]:=by
 have Q:=s.lt;have S:=u.lt;have D:=hide (az s A);have L:=hide u;clear s u A;have B:¬d=Ob:=fun e=>a e.symm;simp only[Pv.cutV];refine callsD_of_wpS func67 rfl fun C Y H=>?_;simp only[ntmps67,YS,Lt,YN,aCa,aCc,aCk,aCl,aCm,aCn,WF,We];apply wpS_seq;apply wpS_region;simp[wpOpsS,go_sem,recoverD,H,Exit.thenS];refine wpS_of_wp ?_
 go_upto_region 8 with fail
 generalize r:World.alloc _ (.cells _ 40)=W
 have g:Ext w W:=by
  rw[<-r]
  repeat' (first|(with_reducible exact dm.refl _ _)|(with_reducible exact Ext.refl _)|(with_reducible assumption)|(with_reducible refine dm.alloc ?_ _)|(with_reducible refine dm.drew ?_)|(with_reducible refine dm.drewN ?_ _)|(with_reducible refine dm.setCell ?_ ?_ _)|(with_reducible refine Ext.alloc ?_ _)|(with_reducible refine Ext.drew ?_)|(with_reducible refine Ext.drewN ?_ _)|(with_reducible refine Ext.setCell ?_ ?_ _)|(simp;done)|(simp;omega)|omega)
 have o:dh W (w.heap.size+1) 40 (Pv.mi Pv.kz):=by rw[<-r];exact dh.new' _ _ _ ay
 have n:=(aA D).1.ext g;have f:=(aA L).ext g;have K:=f.cell 0;have V:=f.frozen;simp only[YY,YT] at K;have j:=hide (az g (az o (az n f)));clear r g o n f;have I:¬w.heap.size+1=Ob:=by omega
 go_wp2_with (first
  |(refine fG (ty:=40) (t:=40) (x:=.tmp 4) rfl rfl jP rfl (cs:=Pv.mi Pv.kz) (aA j).2.1 (Pv.eF Pv.kN) ?_)
  |(refine aS (ty:=40) (t:=40) (x:=.tmp 0) (y:=.tmp 12) rfl rfl jP rfl rfl (aA j).2.2.1 (aA D).2 (Pv.eF Pv.kN) (Pv.nG _) ?_;intro P m c l;have J:=((aA j).2.2.2.gy c (fun e=>a e.symm)).cell 0;have X:=((aA j).2.2.2.gy c (fun e=>a e.symm)).frozen;have T:=((aA j).2.2.2.gy c (fun e=>a e.symm)).lt;simp only[YY,YT] at J;have N:=hide (az m (az c l));clear m c l))
 obtain⟨F,z,O⟩:=aA N;obtain⟨g,o,n,f⟩:=aA j;refine⟨rfl,_,rfl,.tuple #[],results_none rfl _ _ _,rfl,rfl,?_,?_,?_⟩;exact (g.trans' z (fun _ _ h=>h.elim) (fun i U e=>by rw[e];exact .inl rfl)).setCell (.inl (.inr rfl)) _;exact F.far (p:=⟨d,0,none⟩) a _;exact (f.gy z (fun e=>a e.symm)).vk 0 _
theorem bJn(x y:ag)(w:ae) :
  CallsD prog 67 #[x,y] .returning w fun e c b=>e=.returned (.tuple #[])/\c=.returning/\w=b:=by
 refine callsD_of_wpS func67 rfl fun a f d=>?_;simp only[ntmps67,YS,Lt,YN,aCa,aCc,aCk,aCl,aCm,aCn,WF,We];apply wpS_seq;apply wpS_region;simp[wpOpsS,go_sem,recoverD,d,Exit.thenS];refine wpS_of_wp ?_
 go_wp2
 exact⟨rfl,.returning,by cases a;simp_all,.tuple #[],results_none rfl _ _ _,rfl,rfl,rfl⟩
end
section
namespace Pv
def dX(e:Int):ja:={ kz with err:=e }
theorem aCh(e:Int):tu (dX e):=⟨rfl,rfl,rfl⟩
def Tm:bu:=114
def aCZ:bu:=139
end Pv
theorem aWn(x:ag)(w:ae):(Instr.typeAssert (.iface 118 x) 20 118 true).run prog w=.ok (.tuple #[x,.bool true]) w:=by kernel_rfl
theorem aWm(x:ag)(w:ae):(Instr.typeAssert (.iface 114 x) 20 118 true).run prog w=.ok (.tuple #[.agg #[.int .i64 0],.bool false]) w:=by kernel_rfl
theorem aWo(x:ag)(w:ae):(Instr.typeAssert (.iface 139 x) 20 118 true).run prog w=.ok (.tuple #[.agg #[.int .i64 0],.bool false]) w:=by kernel_rfl
theorem aKg(c:Int)(w:ae):(Instr.build 40 #[(4,.int .i64 c)]).run prog w=.ok (.agg (Pv.mi (Pv.dX c))) w:=by kernel_rfl
attribute [local go_sem] aKg aWn aWm aWo
theorem bIb(Ob:Nat)(y:Array ag)(c:Int)(a:List YL)(w:ae)(m:y.size=55)(g:dh w Ob 40 y) :
  CallsD prog 46 #[.pointer (some ⟨Ob,0,none⟩)] (.panicking ({ v:=.iface 118 (.agg #[.int .i64 c]),recovered:=false }::a)) w fun e r l=>e=.returned (.tuple #[])/\r=.panicking ({ v:=.iface 118 (.agg #[.int .i64 c]),recovered:=true }::a)/\dm (fun k=>k=Ob) w l/\dh l Ob 40 (Pv.mi (Pv.dX c)):=by
 have C:=g.lt;have o:=hide (az g m);clear g m;refine callsD_of_wpS func46 rfl fun n E s=>?_;simp only[ntmps46,YS,Lt,YN,aCa,aCc,aCk,aCl,aCm,aCn,WF,We];apply wpS_seq;apply wpS_region;simp[wpOpsS,go_sem,recoverD,s,Exit.thenS];refine wpS_of_wp ?_
 go_upto_region 7 with fail
 go_step
 iterate 6 (first|go_values|go_step|go_upon|go_in|go_back)
 have j:Ext w (w.alloc (.cells #[.int .i64 c] 118)):=(Ext.refl w).alloc _;generalize w.alloc (.cells #[.int .i64 c] 118)=W at *;refine wpList_plain rfl fun K u=>Pv.aX (w:=W) (w':=W) (v:=.agg (Pv.mi (Pv.dX c))) ?_ (u _ _ ?_);simp[execOp,Act.eval,aKg];refine aS (ty:=40) (t:=40) (x:=.tmp 0) (y:=.tmp 12) rfl rfl jP rfl (cs:=Pv.mi (Pv.dX c)) rfl ((aA o).1.ext j) (aA o).2 (Pv.eF (Pv.aCh c)) (Pv.nG _) ?_;intro B f d b;have z:=hide (az f (az d b));clear f d b
 go_wp2
 obtain⟨q,p,A⟩:=aA z;refine⟨rfl,_,rfl,.tuple #[],results_none rfl _ _ _,rfl,rfl,?_,q⟩;exact j.trans' p (fun _ _ h=>h.elim) (fun i D e=>e)
theorem bHz(Ob:ag)(x:ag)(a:List YL)(w:ae) :
  CallsD prog 46 #[Ob] (.panicking ({ v:=.iface 114 x,recovered:=false }::a)) w fun e d c=>e=.panicked [{ v:=.iface 114 x,recovered:=false }]/\d=.panicking ({ v:=.iface 114 x,recovered:=true }::a)/\c=w:=by
 refine callsD_of_wpS func46 rfl fun b g f=>?_;simp only[ntmps46,YS,Lt,YN,aCa,aCc,aCk,aCl,aCm,aCn,WF,We];apply wpS_seq;apply wpS_region;simp[wpOpsS,go_sem,recoverD,f,Exit.thenS];refine wpS_of_wp ?_
 go_wp2
 exact⟨rfl,_,rfl,rfl,rfl,rfl⟩
theorem Iq(Ob:ag)(x:ag)(a:List YL)(w:ae) :
  CallsD prog 46 #[Ob] (.panicking ({ v:=.iface 139 x,recovered:=false }::a)) w fun e d c=>e=.panicked [{ v:=.iface 139 x,recovered:=false }]/\d=.panicking ({ v:=.iface 139 x,recovered:=true }::a)/\c=w:=by
 refine callsD_of_wpS func46 rfl fun b g f=>?_;simp only[ntmps46,YS,Lt,YN,aCa,aCc,aCk,aCl,aCm,aCn,WF,We];apply wpS_seq;apply wpS_region;simp[wpOpsS,go_sem,recoverD,f,Exit.thenS];refine wpS_of_wp ?_
 go_wp2
 exact⟨rfl,_,rfl,rfl,rfl,rfl⟩
theorem bIa(x:ag)(w:ae) :
  CallsD prog 46 #[x] .returning w fun e c b=>e=.returned (.tuple #[])/\c=.returning/\b=w:=by
 refine callsD_of_wpS func46 rfl fun a f d=>?_;simp only[ntmps46,YS,Lt,YN,aCa,aCc,aCk,aCl,aCm,aCn,WF,We];apply wpS_seq;apply wpS_region;simp[wpOpsS,go_sem,recoverD,d,Exit.thenS];refine wpS_of_wp ?_
 go_wp2
 exact⟨rfl,.returning,by cases a;simp_all,.tuple #[],results_none rfl _ _ _,rfl,rfl,rfl⟩
end
def zu(g f:Nat):ag:=.func (.func f) #[.pointer (some ⟨g,0,none⟩)] #[]
def BU(g:Nat):List MapEntry:=[⟨.int .i64 1,zu g 48,0⟩,⟨.int .i64 2,zu g 49,1⟩,⟨.int .i64 3,zu g 50,2⟩,⟨.int .i64 4,zu g 51,3⟩,
 ⟨.int .i64 5,zu g 52,4⟩,⟨.int .i64 6,zu g 53,5⟩,⟨.int .i64 7,zu g 54,6⟩]
def uz(w:ae)(g n:Nat):ae:=w.alloc (.map ((BU g).take n).toArray n)
theorem yO{P:gp}{d a i:bu}(f:P.underlying d=some (.map a i))(e:P.underlying a=some (.int .i64)){w:ae}{r:Nat}{es:Array MapEntry}{c:Nat}{k:Int}{v:ag}(hb:w.heap[r]?=some (.map es c))(b:Instr.findNow (.int .i64) (.int .i64 k) es.toList 0=some none) :
  (Instr.mapUpdate d (.map (some r)) (.int .i64 k) v).run P w=.ok () { w with heap:=w.heap.setIfInBounds r (.map (es.push ⟨.int .i64 k,v,c⟩) (c+1)) }:=by
 have h:(Instr.checkKey false 10000 a (.int .i64 k)).run P w=.ok () w:=by show (Instr.checkKey false (9999+1) a (.int .i64 k)).run P w=_;unfold Instr.checkKey;simp[zg e]
 have g:=MapKept.run_findKey (w:=w) e b;unfold Instr.mapUpdate;simp[zg f,MapKept.run_getObj_map hb,h,g,MapKept.run_setObj_map _ hb]
theorem yV(w:ae)(o a:Obj):({ w.alloc o with heap:=(w.alloc o).heap.setIfInBounds w.heap.size a }:ae)=w.alloc a:=by
 have h:(w.heap.push o).setIfInBounds w.heap.size a=w.heap.push a:=by apply Ha;simp
 unfold World.alloc;dsimp only;rw[h]
theorem Ja(w:ae)(g:Nat):(Instr.makeMap 124 none).run prog w=.ok (.map (some w.heap.size)) (uz w g 0):=rfl
theorem Ji(w:ae)(g:Nat):(Instr.mapUpdate 124 (.map (some w.heap.size)) (.int .i64 1) (zu g 48)).run prog (uz w g 0)=.ok () (uz w g 1):=by refine (yO (es:=((BU g).take 0).toArray) (c:=0) underlying124 underlying3 (MapKept.heap_alloc w _).1 aj).trans ?_;unfold uz;rw[yV];rfl
theorem Jh(w:ae)(g:Nat):(Instr.mapUpdate 124 (.map (some w.heap.size)) (.int .i64 2) (zu g 49)).run prog (uz w g 1)=.ok () (uz w g 2):=by refine (yO (es:=((BU g).take 1).toArray) (c:=1) underlying124 underlying3 (MapKept.heap_alloc w _).1 aj).trans ?_;unfold uz;rw[yV];rfl
theorem Jg(w:ae)(g:Nat):(Instr.mapUpdate 124 (.map (some w.heap.size)) (.int .i64 3) (zu g 50)).run prog (uz w g 2)=.ok () (uz w g 3):=by refine (yO (es:=((BU g).take 2).toArray) (c:=2) underlying124 underlying3 (MapKept.heap_alloc w _).1 aj).trans ?_;unfold uz;rw[yV];rfl
theorem Jf(w:ae)(g:Nat):(Instr.mapUpdate 124 (.map (some w.heap.size)) (.int .i64 4) (zu g 51)).run prog (uz w g 3)=.ok () (uz w g 4):=by refine (yO (es:=((BU g).take 3).toArray) (c:=3) underlying124 underlying3 (MapKept.heap_alloc w _).1 aj).trans ?_;unfold uz;rw[yV];rfl
theorem Je(w:ae)(g:Nat):(Instr.mapUpdate 124 (.map (some w.heap.size)) (.int .i64 5) (zu g 52)).run prog (uz w g 4)=.ok () (uz w g 5):=by refine (yO (es:=((BU g).take 4).toArray) (c:=4) underlying124 underlying3 (MapKept.heap_alloc w _).1 aj).trans ?_;unfold uz;rw[yV];rfl
theorem Jd(w:ae)(g:Nat):(Instr.mapUpdate 124 (.map (some w.heap.size)) (.int .i64 6) (zu g 53)).run prog (uz w g 5)=.ok () (uz w g 6):=by refine (yO (es:=((BU g).take 5).toArray) (c:=5) underlying124 underlying3 (MapKept.heap_alloc w _).1 aj).trans ?_;unfold uz;rw[yV];rfl
theorem Jc(w:ae)(g:Nat):(Instr.mapUpdate 124 (.map (some w.heap.size)) (.int .i64 7) (zu g 54)).run prog (uz w g 6)=.ok () (uz w g 7):=by refine (yO (es:=((BU g).take 6).toArray) (c:=6) underlying124 underlying3 (MapKept.heap_alloc w _).1 aj).trans ?_;unfold uz;rw[yV];rfl
def UE(k:Int):Nat:=if k=1 then 48 else if k=2 then 49 else if k=3 then 50 else if k=4 then 51 else
 if k=5 then 52 else if k=6 then 53 else 54
theorem Jb{w:ae}{r g:Nat}(hb:w.heap[r]?=some (.map (BU g).toArray 7)){k:Int}(f:1<=k/\k<=7):(Instr.lookup 124 (.map (some r)) (.int .i64 k) false).run prog w=.ok (zu g (UE k)) w:=by
 have d:∀ e,(Instr.checkKey e 10000 3 (.int .i64 k)).run prog w=.ok () w:=fun e=>by show (Instr.checkKey e (9999+1) 3 (.int .i64 k)).run prog w=_;unfold Instr.checkKey;simp[zg underlying3]
 have a:∃ i,Instr.findNow (.int .i64) (.int .i64 k) (BU g) 0=some (some (i,zu g (UE k))):=by
  have b:k=1\/k=2\/k=3\/k=4\/k=5\/k=6\/k=7:=by omega
  rcases b with rfl|rfl|rfl|rfl|rfl|rfl|rfl
  exact⟨0,by kernel_rfl⟩;exact⟨1,by kernel_rfl⟩;exact⟨2,by kernel_rfl⟩;exact⟨3,by kernel_rfl⟩;exact⟨4,by kernel_rfl⟩;exact⟨5,by kernel_rfl⟩;exact⟨6,by kernel_rfl⟩
 obtain⟨i,a⟩:=a;have c:=MapKept.run_findKey (P:=prog) (w:=w) underlying3 a;unfold Instr.lookup;simp[zg underlying124,MapKept.run_getObj_map hb,d,c]
namespace Pv
def pK(m:je)(n:Nat):ah ja:=if m.kind=1 then zN m n else if m.kind=2 then O5 m n else if m.kind=3 then UG m n else if m.kind=4 then Xe m n else if m.kind=5 then Sv m n else if m.kind=6 then tN m n else qJ m n
def nN(m:je):ah ja:=(lJ m).bind fun _=>(ah.dn 3 16).bind fun n=>pK m n
def dF(m:je):ah ja:=ah.catch dX (nN m)
theorem aZa{T:bu}{O:List Acc->Option jh}(h:OB O):OB (kY T O):=by intro l r a;unfold kY at a;split at a;cases a;exact (by decide:(0:Nat)<=1000000);split at a;cases a;exact h l r a
def EX(D:Dv):Prop:=∀ l X w b,D.pan l X w b->∃ T x a,b={ v:=.iface T x,recovered:=false }::a/\Xa a/\(T=Tm\/T=aCZ)/\D.pan l X w ({ v:=.iface T x,recovered:=false }::{ v:=.iface T x,recovered:=true }::a)
def aWt(m:je)(D:Dv)(X0:Nat->Prop)(e:Ending)(w':ae):Prop:=
 (
  tu (go D.O (dF m) []).1/\e=.returned (.agg (mi (go D.O (dF m) []).1))/\D.inv (go D.O (dF m) []).2 X0 w') \/
  ∃ a l,e=.panicked a/\l <+: (go D.O (dF m) []).2/\D.O l=none/\D.pan l X0 w' a
theorem aCr(a:Array ag)(w:ae)(g:Nat)(b:Array ag)(c:b.size=55)(h3:a.getD 3 dC=.pointer (some ⟨g,0,none⟩))(d:dh w g 40 b):(results Tryz.f45 a).run prog w=.ok (.agg b) w:=by have e:=jO d jP c;simp only[YR] at h3;simp[results,results45,h3,asAddr,e]
def Ti(a:Nat):List Deferred:=[{ target:=.fn (.func 46) #[.pointer (some ⟨a,0,none⟩)],args:=#[] }]
theorem yT{m:je}{D:Dv}{X0 X:Nat->Prop}{S:Nat->Prop}{w0 w:ae}{a:List YL}{l:List Acc}{d:Array ag}{g:Nat}{y:Array ag}(z:EX D)(p:∀ l X Y w c a,D.pan l X w a->dm X w c->(∀ b,Y b->X b)->D.pan l Y c a)
  (C:∀ b,X0 b->X b) (u:X g) (J:w0.heap.size<=g) (r:(iQ qg D).pan l X w a) (hl:l <+: (go (kY qg D.O) (nN m) []).2) (N:kY qg D.O l=none) (P:dh w g 40 y) (G:y.size=55) (H:d.getD 3 dC=.pointer (some ⟨g,0,none⟩)) (hc:dm S w0 w) :
  Leaves prog Tryz.f45 d (fun e c=>dm S w0 c/\aWt m D X0 e c) (Ti g) (.panicking a) w:=by
 rcases r with⟨r,n,s⟩|⟨F,e,rfl,n,B,rfl⟩
 ·obtain⟨T,x,k,rfl,I,L,q⟩:=z _ _ _ _ r;have j:∀ c,c=w->Leaves prog Tryz.f45 d (fun e c=>dm S w0 c/\aWt m D X0 e c) [] (raised (.panicking ({ v:=.iface T x,recovered:=true }::k)) [{ v:=.iface T x,recovered:=false }]) c:=by rintro c rfl;exact⟨hc,.inr ⟨_,l,rfl,aSi _ _ _ _ _ _ (aEH) n hl,by rw[<-bDb qg D.O n s];exact N,p _ _ _ _ _ _ q (dm.refl _ _) C⟩⟩
  rcases L with rfl|rfl
  ·refine leaves_cons (f:=46) (args:=#[.pointer (some ⟨g,0,none⟩)]) ay (by simp[go_sem]) ?_;refine (bHz _ _ _ _).mono ?_;rintro e A c ⟨rfl,rfl,h⟩;exact j c h
  ·refine leaves_cons (f:=46) (args:=#[.pointer (some ⟨g,0,none⟩)]) ay (by simp[go_sem]) ?_;refine (Iq _ _ _ _).mono ?_;rintro e A c ⟨rfl,rfl,h⟩;exact j c h
 ·refine leaves_cons (f:=46) (args:=#[.pointer (some ⟨g,0,none⟩)]) ay (by simp[go_sem]) ?_;refine (bIb g y e [] w G P).mono ?_;rintro U A c ⟨rfl,rfl,E,Q⟩;have o:settle (.panicking ({ v:=.iface qg (.agg #[.int .i64 e]),recovered:=true }::[]))=.returning:=aBs (fun _ h=>by cases h);show Leaves _ _ _ _ _ (settle (.panicking ({ v:=.iface qg (.agg #[.int .i64 e]),recovered:=true }::[]))) _;rw[o];have t:=bNt dX qg D.O (nN m) [] F e aEH n hl;refine⟨_,aCr d c g _ (eF (aCh e)) H Q,hc.trans' E (fun _ _ h=>h) (fun i B e=>by omega),.inl ?_⟩;unfold dF;rw[t];exact⟨aCh e,rfl,D.grow _ _ _ _ _ B (E.mono fun i _ e=>e ▸ u) (fun b K=>.inl (C b K))⟩
end Pv
namespace Pv
def ah.ni{b:Type}:ah b->Prop
 |.ret _=>True|.ask a k=>a.kind = -1\/(zX a/\∀ r,ah.ni (k r))
def ah.uj{b:Type}(R:b->Prop):ah b->Prop
 |.ret a=>R a|.ask a k=>a.kind = -1\/∀ r,ah.uj R (k r)
theorem ni.bind{c d:Type}{R:c->Prop}{p:ah c}{f:c->ah d}(h:ah.ni p)(b:ah.uj R p)(g:∀ a,R a->ah.ni (f a)):ah.ni (p.bind f):=by
 induction p with
 |ret a=>exact g a b|ask a k e=>rcases h with h|⟨j,i⟩;exact .inl h;rcases b with b|b;exact .inl b;exact .inr ⟨j,fun r=>e r (i r) (b r)⟩
theorem uj.bind{b c:Type}{R:b->Prop}{S:c->Prop}{p:ah b}{f:b->ah c}(d:ah.uj R p)(g:∀ a,R a->ah.uj S (f a)):ah.uj S (p.bind f):=by
 induction p with
 |ret a=>exact g a d|ask a k e=>exact d.imp id fun h r=>e r (h r)
theorem uj.of{b:Type}{R:b->Prop}{p:ah b}(h:ah.All R p):ah.uj R p:=by
 induction p with
 |ret a=>exact h|ask a k c=>exact .inr fun r=>c r (h r)
theorem uj.zo{a:Type}(p:ah a):ah.uj (fun _=>True) p:=uj.of (ah.All.zo p)
theorem ni.bind'{b c:Type}{p:ah b}{f:b->ah c}(h:ah.ni p)(d:∀ a,ah.ni (f a)):ah.ni (p.bind f):=ni.bind h (uj.zo p) fun a _=>d a
theorem iY(b:Bool)(e:Int):ah.ni (iH b e):=by cases b;exact .inl rfl;trivial
theorem wL(b:Bool)(e:Int):ah.uj (fun _=>b=true) (iH b e):=by cases b;exact .inl rfl;exact rfl
theorem bNs{c:Type}(k:Int->c){p:ah c}(h:ah.ni p):ah.Zl (ah.catch k p):=by
 induction p with
 |ret a=>trivial| ask a g d=>
  by_cases b:a.kind = -1
  ·have e:ah.catch k (.ask a g)=.ret (k a.jy):=by
    conv=>lhs;unfold ah.catch
    rw[decide_eq_true b]
   rw[e];trivial
  rw[qG k g b];rcases h with h|⟨i,f⟩;exact absurd h b
  exact⟨i,fun r=>d r (f r)⟩
theorem aOh{b:Type}(k:Int->b){p:ah b}:∀ {n:Nat},p.Within n->(ah.catch k p).Within n:=by
 induction p with
 |ret a=>intro n _;cases n<;>trivial| ask a g d=>
  intro n h;cases n with
  |zero=>exact h.elim| succ n=>
   by_cases c:a.kind = -1
   ·have e:ah.catch k (.ask a g)=.ret (k a.jy):=by
     conv=>lhs;unfold ah.catch
     rw[decide_eq_true c]
    rw[e];trivial
   rw[qG k g c];exact fun r=>d r (h r)
theorem gG{b:Type}(a:b)(n:Nat):(ah.ret a).Within n:=by cases n<;>trivial
theorem bEz(s:Int):(ah.rd s).Within 1:=fun _=>trivial
theorem aEi(s:Int)(b:ByteArray):(ah.wr s b).Within 1:=fun _=>trivial
theorem eH(b:Bool)(e:Int):(iH b e).Within 1:=by cases b;exact fun _=>trivial;trivial
theorem aMx{a:Int}(hb:a=2\/a=3){b:Nat}(k:Nat)(c:3*b+k<48):ah.ni (ah.vw a (3*(b:Int)+k)):=.inr ⟨.inl ⟨.inl rfl,hb,⟨by show (0:Int)<=3*(b:Int)+k;omega,by show 3*(b:Int)+k<48;omega⟩,rfl⟩,fun _=>trivial⟩
theorem aFr{a:Int}(hb:a=2\/a=3){b:Nat}(k:Nat)(c:3*b+k<48):ah.ni (ah.ul a (3*(b:Int)+k)):=.inr ⟨.inl ⟨.inr rfl,hb,⟨by show (0:Int)<=3*(b:Int)+k;omega,by show 3*(b:Int)+k<48;omega⟩,rfl⟩,fun _=>trivial⟩
theorem aXu{a:Int}(hb:a=2\/a=3){b:Nat}(h:3*b+2<48):ah.ni (ah.read a b):=ni.bind' (aMx hb 0 a_) fun _=>ni.bind' (aMx hb 1 a_) fun _=>ni.bind' (aMx hb 2 a_) fun _=>trivial
theorem aJd{a:Int}(hb:a=2\/a=3){b:Nat}(h:3*b+2<48):ah.ni (ah.jo a b):=ni.bind' (aFr hb 0 a_) fun _=>ni.bind' (aFr hb 1 a_) fun _=>ni.bind' (aFr hb 2 a_) fun _=>trivial
theorem Ff{a:Int}(hb:a=2\/a=3):∀ (f b:Nat),b+f<=16->ah.ni (ah.up a f b)
 |0,_,_=>trivial|f+1,b,h=>ni.bind' (aXu hb a_) fun x=>by
  cases x with
  |true=>exact Ff hb f (b+1) a_|false=>trivial
theorem aZf{a:Int}(hb:a=2\/a=3):∀ (r b:Nat),b+r<=16->ah.ni (ah.down a r b)
 |0,_,_=>trivial|r+1,b,h=>ni.bind' (aJd hb a_) fun _=>aZf hb r (b+1) a_
theorem yX{a:Int}(hb:a=2\/a=3):ah.ni (ah.dn a 16):=ni.bind (Ff hb 16 0 a_) (uj.of (EE a 16 0)) fun m h=>ni.bind' (aZf hb m 0 a_) fun _=>trivial
theorem aAq{a:Int}(hb:a=2\/a=3):∀ (f b:Nat),b+f<=16->ah.ni (ah.p_ a f b)
 |0,_,_=>trivial|f+1,b,h=>ni.bind' (aJd hb a_) fun _=>ni.bind' (aXu hb a_) fun x=>by
  cases x with
  |true=>exact aAq hb f (b+1) a_|false=>trivial
theorem aUj{a:Int}(hb:a=2\/a=3)(t:Nat)(h:t<=16):ah.ni (ah.jw a 16 t):=ni.bind (yX hb) (uj.of (yZ a 16)) fun m c=>by by_cases b:m<=t;exact aAq hb _ _ a_;rw[show t-m=0 from by omega];trivial
theorem aJc{a:Int}(hb:a=2\/a=3)(t:Nat)(h:t<=16):ah.ni (kS a t):=ni.bind' (aUj hb t h) fun _=>ni.bind' (iY _ _) fun _=>trivial
theorem aAp(a:Int)(t:Nat)(h:t<=17):(kS a t).Within 199:=Within.mono (Within.bind (aHw a 16 t) fun _=>Within.bind (m:=0) (eH _ _) fun _=>gG _ _) a_
theorem aFz(f:Nat)(h:f<16):ah.ni (qK f):=ni.bind' (aJc (.inr rfl) (f+1) a_) fun _=>ni.bind' (iY _ _) fun _=>trivial
theorem wM(f:Nat)(h:f<=16):(qK f).Within 200:=Within.bind (aAp 3 (f+1) a_) fun _=>Within.bind (m:=0) (eH _ _) fun _=>gG _ _
theorem aBj:bF 3 0=48:=by decide
theorem MF:bF 3 1=56:=by decide
theorem aEu{f:Int}(h0:0<=f/\f+7<64):∀ (n:Nat) (b:List UInt8),n<=8->ah.ni (ah.l_ f n b)
 |0,_,_=>trivial|n+1,b,h=>ni.bind' (.inr ⟨.inr ⟨.inl ⟨rfl,rfl⟩,rfl,by show (0:Int)<=f+((7-n:Nat):Int);omega,by show f+((7-n:Nat):Int)<64;omega⟩,fun _=>trivial⟩) fun s=>aEu h0 n _ a_
theorem vU(f:Int):∀ (n:Nat) (b:List UInt8),(ah.l_ f n b).Within n
 |0,_=>trivial|n+1,b=>by refine Within.mono ?_ (Nat.le_of_eq (YW 1 n));exact Within.bind (bEz _) fun s=>vU f n _
theorem bNg:ah.ni (ah.cur 3):=ni.bind' (aEu (by rw[aBj];omega) 8 [] (dE _)) fun _=>ni.bind' (aEu (by rw[MF];omega) 8 [] (dE _)) fun _=>trivial
theorem aKe:(ah.cur 3).Within 16:=Within.bind (m:=8) (vU _ 8 []) fun _=>Within.bind (m:=0) (vU _ 8 []) fun _=>gG _ _
theorem KH:ah.ni (ah.load 3):=by unfold ah.load;rw[if_neg (by rw[aBj];omega)];exact ni.bind' bNg fun _=>trivial
theorem aVe:(ah.load 3).Within 16:=by unfold ah.load;rw[if_neg (by rw[aBj];omega)];exact Within.bind (m:=0) aKe fun _=>gG _ _
theorem fM(b:List UInt8)(k:Nat):(jq b k).length=256:=by unfold jq;rw[ed,Yk,List.length_take];omega
theorem bEu{s:Int}{b:ByteArray}(h0:0<=s/\s<64)(hb:b.size=256):ah.ni (ah.wr s b):=.inr ⟨.inr ⟨.inr ⟨rfl,hb⟩,rfl,h0⟩,fun _=>trivial⟩
theorem bEo{f:Int}(h0:0<=f/\f+7<64)(b:List UInt8):∀ (n i:Nat),i+n<=8->ah.ni (ah.ED f b n i)
 |0,_,_=>trivial|n+1,i,h=>ni.bind' (bEu ⟨by omega,by omega⟩ (by rw[bJ,fM])) fun _=>bEo h0 b n (i+1) a_
theorem aIm(f:Int)(b:List UInt8):∀ (n i:Nat),(ah.ED f b n i).Within n
 |0,_=>trivial|n+1,i=>by refine Within.mono ?_ (Nat.le_of_eq (YW 1 n));exact Within.bind (aEi _ _) fun _=>aIm f b n (i+1)
theorem bIr{b:List UInt8}(h:b.length<=2040):nsec b<=8:=by unfold nsec;omega
theorem bLw(rec seq:Int){c:List UInt8}(h:c.length<=2000):(encS rec seq c).length<=2040:=by have b:=aP seq;have a:=aP (c.length:Int);rw[mX,nX];omega
theorem bEr{f:Int}(h0:0<=f/\f+7<64){b:List UInt8}(hb:b.length<=2040):ah.ni (ah.write f b):=ni.bind' (bEu ⟨by omega,by omega⟩ (by rw[bJ];exact Yk)) fun _=>ni.bind' (bEo h0 b _ _ (by have:=bIr hb;omega)) fun _=>bEu ⟨by omega,by omega⟩ (by rw[bJ,fM])
theorem aNy{f:Int}{b:List UInt8}(hb:b.length<=2040):(ah.write f b).Within 9:=Within.bind (m:=8) (aEi _ _) fun _=>Within.mono (Within.bind (m:=1) (aIm f b _ _) fun _=>aEi _ _) (by have:=bIr hb;omega)
theorem MC{k:Nat}(h:k<=1):0<=bF 3 (1-(k:Int))/\bF 3 (1-(k:Int))+7<64:=by
 have:k=0\/k=1:=by omega
 rcases this with rfl|rfl<;>decide
theorem NQ:ah.All (fun p:(Int×List UInt8)×Nat=>p.2<=1) (ah.cur 3):=by
 unfold ah.cur;refine ah.All.bind (R:=fun _=>True) (ah.All.zo _) (fun a _=>?_);refine ah.All.bind (R:=fun _=>True) (ah.All.zo _) (fun b _=>?_);show (ut (o6 3 a) (o6 3 b)).2<=1;unfold ut
 split<;>omega
theorem Hf(c:ByteArray):ah.ni (ah.save 3 c):=by
 unfold ah.save;rw[if_neg (by rw[aBj];omega)];split
 trivial;rename_i b;refine ni.bind bNg (uj.of NQ) fun p a=>?_
 split
 trivial;exact ni.bind' (bEr (MC a) (bLw _ _ (by rw[mf];exact Nat.le_of_not_lt b))) fun _=>trivial
theorem aTm(c:ByteArray):(ah.save 3 c).Within 25:=by
 unfold ah.save;rw[if_neg (by rw[aBj];omega)];split
 trivial;rename_i a;refine Within.bind (m:=9) aKe fun p=>?_
 split
 trivial;exact Within.bind (m:=0) (aNy (bLw _ _ (by rw[mf];exact Nat.le_of_not_lt a))) fun _=>gG _ _
theorem aWa{root:List UInt8}{s:ByteArray}(h:(qM root s).2=true):0<=(qM root s).1.level/\(qM root s).1.level<=16:=by
 unfold qM at h ⊢;cases a:wJ root s.data.toList with
 |DZ=>rw[a] at h;cases h|Dz=>rw[a] at h;cases h|okR p=>rw[a] at h;unfold OH at h ⊢;dsimp only at h ⊢;unfold VW at h ⊢;split at h;cases h;rename_i b;rw[if_neg b];unfold VV at h ⊢;have:=of_decide_eq_true h;exact⟨this.2.2.2.1,this.2.2.2.2.1⟩
def aFQ(r:jg):Prop:=0<=r.level/\r.level<=16
theorem aMt(m:je):ah.ni (r_ m):=ni.bind' KH fun _=>ni.bind' (iY _ _) fun _=>ni.bind' (iY _ _) fun _=>trivial
theorem bKx(m:je):ah.uj aFQ (r_ m):=uj.bind (uj.zo _) fun _ _=>uj.bind (uj.zo _) fun _ _=>uj.bind (wL _ _) fun _ h=>aWa h
theorem zL(m:je):(r_ m).Within 18:=Within.bind (m:=2) aVe fun _=>Within.bind (m:=1) (eH _ _) fun _=>Within.bind (m:=0) (eH _ _) fun _=>gG _ _
theorem aLu(m:je)(r:jg):ah.ni (z_ m r):=ni.bind' (Hf _) fun _=>ni.bind' (iY _ _) fun _=>trivial
theorem yS(m:je)(r:jg):(z_ m r).Within 26:=Within.bind (m:=1) (aTm _) fun _=>Within.bind (m:=0) (eH _ _) fun _=>gG _ _
theorem aFl(f:Nat):ah.ni (nM f):=ni.bind' (iY _ _) fun _=>ni.bind' (iY _ _) fun _=>trivial
theorem aIz(f:Nat):ah.uj (fun _=>f<16) (nM f):=uj.bind (uj.zo _) fun _ _=>uj.bind (wL _ _) fun _ h=>by have:=of_decide_eq_true h;show f<16;omega
theorem wE(f:Nat):(nM f).Within 2:=Within.bind (m:=1) (eH _ _) fun _=>Within.bind (m:=0) (eH _ _) fun _=>gG _ _
theorem aHn(m:je){f:Nat}(a:f<16)(p:ByteArray):ah.ni (nJ m f p):=ni.bind' (aLu _ _) fun _=>ni.bind' (aFz f a) fun _=>trivial
theorem yI(m:je){f:Nat}(a:f<=16)(p:ByteArray):(nJ m f p).Within 226:=Within.bind (m:=200) (yS _ _) fun _=>Within.bind (m:=0) (wM f a) fun _=>gG _ _
theorem bKm(m:je){f:Nat}(e:f<=16):ah.ni (pK m f):=by
 unfold pK;split;exact ni.bind (aFl f) (aIz f) fun _ h=>ni.bind' (aHn m h _) fun _=>trivial;split;refine ni.bind (aMt m) (bKx m) fun r b=>ni.bind (iY _ _) (wL _ _) fun _ h=>ni.bind' ?_ fun _=>?_;cases d:(((f % 2:Nat):Int)==0) with
 |false=>trivial| true=>
  refine aFz f ?_;have c:((f % 2:Nat):Int)=0:=by simpa using d
  have g:r.level=((f+1-f % 2:Nat):Int):=by
   cases a:(r.kind==1) with
   |false=>rw[a] at h;cases h|true=>rw[a] at h;simpa using h
  have:=b.2;omega
 exact ni.bind' (yX (.inl rfl)) fun n=>ni.bind (iY _ _) (wL _ _) fun _ h=>ni.bind' (aJc (.inl rfl) (n+1) (by have:=of_decide_eq_true h;omega)) fun _=>trivial;split;exact ni.bind' (iY _ _) fun _=>ni.bind' (aLu _ _) fun _=>trivial;split;exact ni.bind' (aFl f) fun _=>trivial;split;refine ni.bind (iY _ _) (wL _ _) fun _ h=>ni.bind' (aMt m) fun _=>ni.bind' (iY _ _) fun _=>ni.bind' (aFz f ?_) fun _=>ni.bind' (aLu _ _) fun _=>trivial;have c:((f % 2:Nat):Int)=1:=by simpa using h
 omega;split
 exact ni.bind' (iY _ _) fun _=>ni.bind' (aMt m) fun _=>ni.bind' (iY _ _) fun _=>trivial;exact ni.bind (aFl f) (aIz f) fun _ h=>ni.bind' (iY _ _) fun _=>ni.bind' (iY _ _) fun _=>ni.bind' (iY _ _) fun _=>ni.bind' (aHn m h _) fun _=>trivial
theorem aQw(m:je){f:Nat}(a:f<=16):(pK m f).Within 700:=by
 unfold pK;split;exact Within.mono (Within.bind (m:=226) (wE f) fun _=>Within.bind (m:=0) (yI m a _) fun _=>gG _ _) a_;split;refine Within.mono (Within.bind (m:=1+(200+296)) (zL m) fun r=>Within.bind (m:=200+296) (eH _ _) fun _=>Within.bind (m:=296) ?_ fun _=>?_) a_;cases (((f % 2:Nat):Int)==0) with
 |false=>trivial|true=>exact wM f a
 exact Within.Np (m:=200) (rD 2 16) (aGk 2 16) fun n b=>Within.bind (m:=199) (eH _ _) fun _=>Within.bind (m:=0) (aAp 2 (n+1) a_) fun _=>gG _ _;split;exact Within.mono (Within.bind (m:=26) (eH _ _) fun _=>Within.bind (m:=0) (yS _ _) fun _=>gG _ _) a_;split;exact Within.mono (Within.bind (m:=0) (wE f) fun _=>gG _ _) a_;split;exact Within.mono (Within.bind (m:=18+(1+(200+26))) (eH _ _) fun _=>Within.bind (m:=1+(200+26)) (zL m) fun _=>Within.bind (m:=200+26) (eH _ _) fun _=>Within.bind (m:=26) (wM f a) fun _=>Within.bind (m:=0) (yS _ _) fun _=>gG _ _) a_;split;exact Within.mono (Within.bind (m:=19) (eH _ _) fun _=>Within.bind (m:=1) (zL m) fun _=>Within.bind (m:=0) (eH _ _) fun _=>gG _ _) a_;exact Within.mono (Within.bind (m:=229) (wE f) fun _=>Within.bind (m:=228) (eH _ _) fun _=>Within.bind (m:=227) (eH _ _) fun _=>Within.bind (m:=226) (eH _ _) fun _=>Within.bind (m:=0) (yI m a _) fun _=>gG _ _) a_
theorem bDr(m:je):ah.ni (lJ m):=by
 refine ni.bind' (iY _ _) fun _=>ni.bind' ?_ fun _=>trivial;unfold sQ
 repeat' split
 all_goals first
  |exact iY _ _
  |trivial
theorem aNm(m:je):(lJ m).Within 2:=by
 refine Within.bind (m:=1) (eH _ _) fun _=>Within.bind (n:=1) (m:=0) ?_ fun _=>gG _ _;unfold sQ
 repeat' split
 all_goals first
  |exact eH _ _
  |trivial
theorem Ir(m:je):ah.Zl (dF m):=bNs _ (ni.bind' (bDr m) fun _=>ni.bind (yX (.inr rfl)) (uj.of (aGk 3 16)) fun _ a=>bKm m a)
theorem aPr(m:je):(dF m).Within 900:=aOh _ (Within.mono (Within.bind (m:=96+700) (aNm m) fun _=>Within.Np (m:=700) (rD 3 16) (aGk 3 16) fun n a=>aQw m a) a_)
section
variable {P:gp} {I:ae->Prop}
def aMz(g:List PV->Option (Prop×PV)):Spec:=fun _ e=>match e with
 | [d,.w (.one (.ow x b n a len))]=>.obj x fun k h j=>jV k (match bz b h,Nat.blt x dx,j with
  |true,true,.arr _ m c f=>(match bz n m,uK d,g [d,d_ (.sl n len (fun i=>f (a+i)))] with
   |true,true,some (p,r)=>.need ((a+len<=c/\∀ i,i<len->(f (a+i)).all (dJ false)=true)/\p) (.upd x (b+1) .dead (.ret r))|_,_,_=>.fail)
  |_,_,_=>.fail)
 |_=>.fail
theorem bCx {f:Nat} {g:List PV->Option (Prop×PV)} (H:∀ args w,(callFunc f args).run P w=.ok (.enter f args) w) (hg:∀ C p r,g C=some (p,r)->p->fP P I f false C r):ai P I f (aMz g):=by
 refine⟨H,fun A s a w O nm a5 vs F h hI hv d=>?_⟩;unfold aMz at d;split at d
 ·rename_i T x c n k len;obtain⟨gd,vr,ob,a0,d⟩:=d;have Y:=eG d;clear d;obtain⟨Z,d⟩:=Y;obtain⟨hd,l,V⟩:=kL h a0 Z
  cases j:bz c vr<;>cases N:Nat.blt x dx<;>cases ob<;>simp only[j,N] at d<;>try exact d.elim
  rename_i e m U f';obtain rfl:=iq j
  cases L:bz n m<;>cases K:uK T<;>cases hq:g [T,d_ (.sl n len (fun i=>f' (k+i)))]<;>simp only[L,K,hq] at d<;>try exact d.elim
  rename_i q;obtain⟨p,r⟩:=q;obtain rfl:=iq L;obtain⟨⟨⟨X,z⟩,hp⟩,_,hF⟩:=d
  match vs,hv with
  | [x0, x1],⟨k0,k1,_⟩=>
   cases k1 with
   | w k1=>cases k1 with
    | one k1=>cases k1 with
     | ow h1 a2=>
      obtain⟨A0,n0,c0,rfl,a4,rfl⟩:=a2.now l;obtain⟨C,G,a1⟩:=V;have E:=Reads.yh G;have W:n0=U:=by obtain⟨_,A1,c1,e1,_⟩:=E;cases e1;rfl
      subst W;obtain⟨h',hL⟩:=h.upd (w':=w) x none (c+1) (.bool false) .dead (dm.refl _ _) (fun a3 a7 Q=>by rw[l] at Q;cases Q;exact .inl (Nat.lt_succ_self _)) (fun b j=>by cases j) (fun _ _=>trivial)
      have B:oh { w:=w,ok:=(aT A w (yt O x (c+1) (.bool false))).ok,env:=fun _=>none } [T,d_ (.sl n len (fun i=>f' (k+i)))] [x0,.slice (A0.map (·.add (k*n))) len (c0-k)]:=by
       refine⟨(aZm k0 K).le ⟨dE _,fun b j u=>⟨(hL.blk b j u).1,rfl⟩,fun _ _ _ h=>by cases h⟩,.w (.one (.sl (vs:=(C.drop (k*n)).take (len*n)) (nT X E) (fun b j a6=>?_) (fun i hi=>?_))),trivial⟩
       have J:hblk (.slice A0 n0 c0)=some b:=by
        cases A0 with
        |none=>simp[Xr] at j|some ad=>simp only[Option.map_some,Xr,Option.some.injEq,qW] at j;simp[hblk,j]
       obtain⟨j1,j2⟩:=h.live x c _ b l J;refine⟨⟨.inr (j2.resolve_right (fun hs=>?_)),fun y vy hy Q D=>?_⟩,j1⟩;have:=Yz hs.2;have:=Yz N;omega;have o:yt O x (c+1) (.bool false) y=some (vy,hy):=Q;by_cases t:y=x;subst t;rw[iR] at o;cases o;cases D;rw[kP t] at o;exact t (h.inj y x vy hy c _ b o l D J);rw[kG C hi];exact (jY (a1 _ a_) (z i hi)).le ⟨dE _,fun b j u=>⟨(hL.blk b j u).1,rfl⟩,fun _ _ _ h=>by cases h⟩
      refine (hg _ p r hq hp w _ _ (hI.mem w h.gy) B).mono ?_;rintro e w' ⟨S,rfl,hE,hr⟩;exact .inl ⟨r,[(x,none,c+1,.dead)],S,_,rfl,hF,h'.ext hE,hr.le (bHf (new:=false) h' hE)⟩
 exact d.elim
end
end Pv
namespace Pv
theorem aBQ:jl prog af (find ([]:List (Nat×Spec))):=⟨bD (fun p a=>by cases a),dG⟩
def DY:List UInt8:=DD 256 0
def Cc:Fl:=DD 128 (strOf DY)
theorem FQ(n:Nat):rowB n (fun _=>[PC.lit (.int .u8 0)])=DD n 0:=by unfold rowB;rw[List.eq_replicate_iff];refine⟨by simp,fun b a=>?_⟩;obtain⟨_,_,rfl⟩:=List.mem_map.1 a;rfl
def VP:Nat->List PC:=fun _=>[.lit (.string (strOf DY))]
def Tn(k:Nat):St:=⟨[(0,none,di 128),(2,none,d_ (.pt 0 0 0)),(4,none,d_ (.pt 3001 0 0)),(5,none,di k)],[(0,none,0,.box 63 [.lit (.slice none 0 0)]),(3001,none,0,.box 63 [.ow 7005 0 1 0 k]),(7005,none,0,.arr 9 1 k VP)]⟩
theorem JS:fP prog af 64 true [di 128] (.lu [.agg (RP Cc),.one (.lit (.int .i64 0))]):=by
 have M:=aBQ;have l:prog.types[9].bytes=16:=by kernel_rfl
 have h:prog.types[5].bytes=1:=by kernel_rfl
 have m:prog.types[9].size=1:=by kernel_rfl
 refine bH func64 rfl rfl bK (fun A s o q=>?_);refine aB ?_;refine aG ?_;refine aB ?_;refine aI (fun c=>?_) (fun c=>?_);cases c;refine aJ ?_;refine aB ?_;refine aG ?_;refine aB ?_;refine bY (s':=Tn 0) (fun a w f=>((f.D8 (x:=7005) (b:=3001) (e:=9) (n:=1) (l1:=[]) f_ f_).reset (kT:=[0,2,4,5]) (kO:=[0,3001,7005]) f_ ay).same ?_ ?_) ?_;exact ig;exact .cons (.box rfl) (.cons (.box rfl) (.cons (.arr rfl (fun i g=>by omega)) .nil));refine aQ ?_;refine fF 128 (fun k t=>t=Tn k) 0 rfl a_ (fun k t p r=>?_);subst p;refine aG ?_;refine aB ?_;refine aI (fun c=>?_) (fun c=>?_);have d:k<128:=by have:=of_decide_eq_true c;omega
 refine aJ ?_;refine aG ?_;refine aQ ?_;refine bC M q o (by rfl) (by kernel_rfl) ?_ ?_;simp[l,h];exact⟨fun _ _=>rfl,by omega⟩;change lh _ _ _ _ _;refine gI ?_;intro a w f;refine⟨k+1,_,by omega,by omega,rfl,(f.reset (kT:=[0,2,4,5]) (kO:=[0,3001,7005]) f_ ?_).same ?_ ?_⟩;simp;exact bOl (fun j _=>aEb rfl) (aEb rfl);exact .cons rfl (.cons rfl (.cons rfl (.cons (by rw[cO k a_]) .nil)));exact .cons (.box rfl) (.cons (.box rfl) (.cons (.arr rfl (aZt (fun i _=>rfl) (by show[PC.lit (.string ⟨(rowB 256 (fun _=>[PC.lit (.int .u8 0)])).toArray⟩)]=VP k;rw[FQ];rfl))) .nil));have d:k=128:=by have:=of_decide_eq_false c;omega
 subst d;refine eP ?_;change lh _ _ _ _ _;refine aB ?_;refine cZ (fun a w f=>⟨.inr rfl,_,?_,f⟩);refine oG (by rfl) (by simp) (by rfl) ?_;refine .lu (.cons (.agg (.cons (.row rfl trivial a_ (fun i g=>?_) (fun i g=>rfl)) .nil)) (.cons (.one (.cold rfl)) .nil));rw[Nat.zero_add];unfold VP su Cc;rw[zG,List.getElem?_replicate,if_pos g];rfl
end Pv
end Go.Proofs.YtndpjopifkbgiaaGreatDoor
