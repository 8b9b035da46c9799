/-.-/
import Derived.Test.YtndpjopifkbgiaaGreatDoorMsJ
import Derived.Test.YtndpjopifkbgiaaGreatDoorMsP
import Derived.Test.YtndpjopifkbgiaaGreatDoorMsN
import Derived.WalkMore
import Derived.Test.YtndpjopifkbgiaaGreatDoorMsO
import Derived.MapKept
import Derived.Test.YtndpjopifkbgiaaGreatDoorMsI
set_option maxRecDepth 100000
set_option maxHeartbeats 4000000
namespace Go.Proofs.YtndpjopifkbgiaaGreatDoor
open Go.RowKit
namespace Pv
def kE(T:TypeId)(O:List Acc->Option je):List Acc->Option je:=fun l=>match l.getLast? with
 |none=>some ⟨(T:Int)+1,aS⟩
 |some c=>match decide (c.kind = -1) with
  |true=>none
  |false=>O l
theorem aIy(T:TypeId)(O:List Acc->Option je)(l:List Acc)(c:Acc):kE T O (l++[c])=match decide (c.kind = -1) with|true=>none|false=>O (l++[c]):=by
 unfold kE;rw[List.getLast?_concat]
theorem aLw(T:TypeId)(O:List Acc->Option je)(l:List Acc){c:Acc}(h:c.kind ≠ -1):kE T O (l++[c])=O (l++[c]):=by
 rw[aIy,decide_eq_false h]
theorem aVy(T:TypeId)(O:List Acc->Option je):Zd T (kE T O):=⟨rfl,fun l e=>by rw[aIy];rfl⟩
def Xf(older:List PanicEntry):Prop:=∀ e∈older,e.goexit=false
theorem aAh{v:Value}{older:List PanicEntry}(h:Xf older):settle (.panicking ({ v:=v,recovered:=true }::older))=.returning:=by
 have h2:older.dropWhile (!·.goexit)=[]:=by
  induction older with
  |nil=>rfl
  |cons e l ih=>
   rw[List.dropWhile_cons_of_pos (by rw[h e List.mem_cons_self];rfl)];exact ih (fun x hx=>h x (List.mem_cons_of_mem _ hx))
 unfold settle;dsimp only;rw[h2]
def rP(l:List Acc):Prop:=∀ c∈l,c.kind ≠ -1
theorem rP.app{l:List Acc}{c:Acc}(h:rP l)(hc:c.kind ≠ -1):rP (l++[c]):=fun x hx=>by
 rcases List.mem_append.1 hx with hx|hx
 ·exact h x hx
 ·obtain rfl:=List.mem_singleton.1 hx
  exact hc
theorem aZg(T:TypeId)(O:List Acc->Option je){l:List Acc}(h:rP l)(h0:l≠[]):kE T O l=O l:=by
 obtain⟨m,c,rfl⟩:∃ m c,l=m++[c]:=⟨_,_,(List.dropLast_concat_getLast h0).symm⟩;exact aLw T O m (h c (by simp))
def iC(T:TypeId)(D:Dv):Dv where
 hd:=D.hd
 O:=kE T D.O
 S:=D.S
 inv:=fun l X w=>D.inv l X w/\kE T D.O l≠none/\rP l
 pan:=fun l X w chain=>(D.pan l X w chain/\rP l/\l≠[])\/∃ l0 e,l=l0++[sU e]/\rP l0/\D.inv l0 X w/\chain=aFr T e
 one:=D.one
 oz:=D.oz
 notS:=fun l X w b h=>D.notS l X w b h.1
 grow:=fun l X Y w w' h hc hy=>⟨D.grow l X Y w w' h.1 hc hy,h.2⟩
theorem aJy{P:Program}{D:Dv}{T:TypeId}{di Cf:List Acc->Prop}(h:ng P D Cf)(hs:∀ l c,rP (l++[c])->di (l++[c])->Cf (l++[c])):ng P (iC T D) di:=
 ⟨
  fun l X w hi=>by
  obtain⟨F,caps,h1,h2,h3⟩:=h.step l X w hi.1
  refine⟨F,caps,h1,h2,fun c h0 hc=>?_⟩
  have hO:kE T D.O (l++[c])=D.O (l++[c]):=aLw T D.O l h0;have hN:rP (l++[c]):=hi.2.2.app h0;refine (h3 c h0 fun hn=>hs l c hN (hc (hO.trans hn))).mono ?_;rintro e w' ⟨hw,⟨r,h4,h5,h6⟩|⟨chain,h4,h5,h6⟩⟩
  ·exact⟨hw,.inl ⟨r,hO.trans h4,h5,h6,by rw[hO,h4];simp,hN⟩⟩
  ·exact⟨hw,.inr ⟨chain,hO.trans h4,h5,.inl ⟨h6,hN,by simp⟩⟩⟩,
 fun T' hT l X w hi=>by
  have e1:(T:Int)+1=(T':Int)+1:=congrArg je.val (Option.some.inj hT.1);have e2:T=T':=Int.ofNat.inj ((Int.add_left_inj 1).1 e1);subst e2
  exact⟨hi.2.1,fun e=>.inr ⟨l,e,rfl,hi.2.2,hi.1,rfl⟩⟩⟩
theorem tZ{D:Dv}{T:TypeId}(h:∀ l X Y w w' chain,D.pan l X w chain->dm X w w'->(∀ b,Y b->X b)->D.pan l Y w' chain):∀ l X Y w w' chain,(iC T D).pan l X w chain->dm X w w'->(∀ b,Y b->X b)->(iC T D).pan l Y w' chain:=by
 rintro l X Y w w' chain (⟨h1,hN⟩|⟨l0,e,h1,hN,h2,h3⟩) hc hy
 ·exact .inl ⟨h l X Y w w' chain h1 hc hy,hN⟩
 ·exact .inr ⟨l0,e,h1,hN,D.grow l0 X Y w w' h2 hc (fun b hb=>.inl (hy b hb)),h3⟩
def ah.catch{α:Type}(k:Int->α):ah α->ah α
 |.ret a=>.ret a
 |.ask c g=>match decide (c.kind = -1) with
  |true=>.ret (k c.ay)
  |false=>.ask c fun r=>ah.catch k (g r)
theorem nV{α:Type}(k:Int->α){c:Acc}(g:je->ah α)(h:c.kind ≠ -1):ah.catch k (.ask c g)=.ask c fun r=>ah.catch k (g r):=by
 conv=>lhs;unfold ah.catch
 rw[decide_eq_false h]
theorem bAb{α:Type}(k:Int->α)(e:Int)(g:je->ah α):ah.catch k (.ask (sU e) g)=.ret (k e):=rfl
theorem aGp(T:TypeId)(O:List Acc->Option je)(l:List Acc){c:Acc}(h:c.kind ≠ -1):ans (kE T O) (l++[c])=ans O (l++[c]):=by
 unfold ans;rw[aLw T O l h]
theorem Nq{α:Type}(k:Int->α)(T:TypeId)(O:List Acc->Option je)(p:ah α):∀ l,rP (go (kE T O) p l).2->go O (ah.catch k p) l=go (kE T O) p l:=by
 induction p with
 |ret a=>intro l _;rfl
 |ask c g ih=>
  intro l h;rw[wZ] at h ⊢;have hc:c.kind ≠ -1:=h c ((vG _ _ _).subset (by simp));rw[nV k g hc,wZ,<-aGp T O l hc];exact ih _ _ h
theorem aQm{α:Type}(k:Int->α)(T:TypeId)(O:List Acc->Option je)(p:ah α):∀ l m,l <+: m->rP m->m <+: (go (kE T O) p l).2->m <+: (go O (ah.catch k p) l).2:=by
 induction p with
 |ret a=>intro l m _ _ h;exact h
 | ask c g ih=>
  intro l m hl h hm;rw[wZ] at hm;obtain⟨t,rfl⟩:=hl
  cases t with
  |nil=>rw[List.append_nil];exact vG _ _ _
  | cons x t=>
   have hx:x=c:=by
    have h1:=List.prefix_of_prefix_length_le (vG (kE T O) (g (ans (kE T O) (l++[c]))) (l++[c])) hm (by simp);obtain⟨u,hu⟩:=h1;rw[List.append_assoc] at hu;have h2:=List.append_cancel_left hu;simp only[List.singleton_append,List.cons.injEq] at h2;exact h2.1.symm
   subst hx;have hc:x.kind ≠ -1:=h x (by simp);rw[nV k g hc,wZ,<-aGp T O l hc];exact ih _ _ _ (by rw[show l++x::t=(l++[x])++t from by simp];exact List.prefix_append _ _) h hm
theorem bHi{α:Type}(k:Int->α)(T:TypeId)(O:List Acc->Option je)(p:ah α):∀ l l0 e,l <+: l0->rP l0->l0++[sU e] <+: (go (kE T O) p l).2->go O (ah.catch k p) l=(k e,l0):=by
 induction p with
 |ret a=>
  intro l l0 e h1 _ h3;have h4:=h1.length_le;have h5:=h3.length_le;rw[List.length_append,List.length_singleton] at h5;have h6:(go (kE T O) (ah.ret a) l).2=l:=rfl;rw[h6] at h5
  omega
 | ask c g ih=>
  intro l l0 e h1 h2 h3;rw[wZ] at h3;obtain⟨t,rfl⟩:=h1;have hp:=List.prefix_of_prefix_length_le (vG (kE T O) (g (ans (kE T O) (l++[c]))) (l++[c])) h3 (by simp)
  cases t with
  |nil=>
   rw[List.append_nil] at hp h3 ⊢;have:=hp.eq_of_length (by simp)
   have hc:c=sU e:=by simpa using this
   rw[hc,bAb]
   rfl
  | cons x t=>
   have hx:x=c:=by
    obtain⟨u,hu⟩:=hp;rw[List.append_assoc,List.append_assoc] at hu;have h2:=List.append_cancel_left hu;simp only[List.cons_append,List.cons.injEq] at h2;exact h2.1.symm
   subst hx;have hc:x.kind ≠ -1:=h2 x (by simp);rw[nV k g hc,wZ,<-aGp T O l hc];exact ih _ _ _ _ (by rw[show l++x::t=(l++[x])++t from by simp];exact List.prefix_append _ _) h2 h3
def ZM:Nat:=2
def ZL:Nat:=0
def OV(K X:Nat->Prop)(gN gF gH:Nat):Nat->Prop:=fun b=>K b/\¬X b/\b≠gN/\b≠gF/\b≠gH
structure C9(K:Nat->Prop)(gN gF gH:Nat)(F:List lu)(h0:j_)(l:List Acc)(X:Nat->Prop)(w:World):Prop where
 bn:au w gN 3 #[.int .i64 (l.length:Int)]
 bf:∃ cs,au w gF 68 cs/\RL { w:=w,ok:=OV K X gN gF gH,env:=fun _=>none } [tH F] cs.toList
 bh:∃ cs,au w gH 65 cs/\RL { w:=w,ok:=OV K X gN gF gH,env:=fun _=>none } (m_ (AO F h0 l 0)) cs.toList
 ne:gN≠gF/\gN≠gH/\gF≠gH
 good:∀ c∈l,yJ c
 mine:∀ b,X b->b<w.heap.size/\b≠gN/\b≠gF/\b≠gH
 mem:a_ w
 tab:∀ b,b=ZM\/b=ZL->¬X b/\b≠gN/\b≠gF/\b≠gH
 up:∀ b,w.heap.size<=b->K b
theorem Zu{w:World}(h:a_ w){b:Nat}(hb:b=ZM\/b=ZL):b<w.heap.size:=by
 rcases hb with rfl|rfl
 ·exact lt_of_cell (h.k 0 _ rfl)
 ·exact lt_of_cell (h.h 0 _ rfl)
theorem aRl{S:Nat->Prop}{w w':World}(h:a_ w)(hc:dm S w w')(hS:∀ b,b=ZM\/b=ZL->¬S b):a_ w':=h.gu hc (hS _ (.inl rfl)) (hS _ (.inr rfl))
theorem C9.grow{K:Nat->Prop}{gN gF gH:Nat}{F:List lu}{h0:j_}{l:List Acc}{X Y:Nat->Prop}{w w':World}(h:C9 K gN gF gH F h0 l X w)(hc:dm X w w')(hy:∀ b,Y b->X b\/(w.heap.size<=b/\b<w'.heap.size)):C9 K gN gF gH F h0 l Y w':=by
 have nX:∀ g,(g=gN\/g=gF\/g=gH)->¬X g:=fun g hg hx=>by
  have:=(h.mine g hx).2;rcases hg with rfl|rfl|rfl
  ·exact this.1 rfl
  ·exact this.2.1 rfl
  ·exact this.2.2 rfl
 have hle:∀ {p:List PC} {xs:List Value},RL { w:=w,ok:=OV K X gN gF gH,env:=fun _=>none } p xs->RL { w:=w',ok:=OV K Y gN gF gH,env:=fun _=>none } p xs:=fun hr=>
  hr.le ⟨hc.size,fun b hb hok=>⟨⟨hok.1,fun hyb=>(hy b hyb).elim hok.2.1 (fun h1=>by have hb':b<w.heap.size:=hb;omega),hok.2.2⟩,hc.block b hb hok.2.1⟩,fun _ _ _ h=>by cases h⟩
 obtain⟨c1,k1,k2⟩:=h.bf;obtain⟨c2,k3,k4⟩:=h.bh;have lN:=h.bn.lt;have lF:=k1.lt;have lH:=k3.lt
 refine⟨h.bn.gu hc (nX _ (.inl rfl)),⟨c1,k1.gu hc (nX _ (.inr (.inl rfl))),hle k2⟩,⟨c2,k3.gu hc (nX _ (.inr (.inr rfl))),hle k4⟩,h.ne,h.good,fun b hb=>?_,aRl h.mem hc (fun b hb=>(h.tab b hb).1),fun b hb=>⟨fun hyb=>?_,(h.tab b hb).2⟩,fun b hb=>h.up b (Nat.le_trans hc.size hb)⟩
 ·rcases hy b hb with h1|h1
  ·exact⟨Nat.lt_of_lt_of_le (h.mine b h1).1 hc.size,(h.mine b h1).2⟩
  ·exact⟨h1.2,by omega,by omega,by omega⟩
 ·rcases hy b hyb with h1|h1
  ·exact (h.tab b hb).1 h1
  ·have:=Zu h.mem hb;omega
def NW:List PanicEntry:=[{ v:=cutV,recovered:=false }]
def TJ(K:Nat->Prop)(gN gF gH:Nat)(F:List lu)(h0:j_):Dv where
 hd:=.func (.func 65) #[] #[.pointer (some ⟨gN,0,none⟩),.pointer (some ⟨gF,0,none⟩),.pointer (some ⟨gH,0,none⟩)]
 O:=oK F h0
 S:=fun b=>b=gN\/b=gF\/b=gH
 inv l X w:=C9 K gN gF gH F h0 l X w/\F7 F l.length
 pan l X w chain:=(∃ older,Xf older/\chain={ v:=cutV,recovered:=false }::older)/\C9 K gN gF gH F h0 l X w/\∃ l' c,l=l'++[c]/\F7 F l'.length/\(eX F l'.length).cut=true
 one:=rfl
 oz:=rfl
 notS:=fun l X w b h hx hs=>by
  have:=(h.1.mine b hx).2;rcases hs with rfl|rfl|rfl
  ·exact this.1 rfl
  ·exact this.2.1 rfl
  ·exact this.2.2 rfl
 grow:=fun l X Y w w' h hc hy=>⟨h.1.grow hc hy,h.2⟩
theorem bEp(K:Nat->Prop)(gN gF gH:Nat)(F:List lu)(h0:j_):∀ l X Y w w' chain,(TJ K gN gF gH F h0).pan l X w chain->dm X w w'->(∀ b,Y b->X b)->(TJ K gN gF gH F h0).pan l Y w' chain:=
 fun _ _ _ _ _ _ h hc hy=>⟨h.1,h.2.1.grow hc (fun b hb=>.inl (hy b hb)),h.2.2⟩
theorem aYu{α:Type}(K:Nat->Prop)(gN gF gH:Nat)(F:List lu)(h0:j_)(hF:F.length<=1000000)(hd:o6 h0)(p:ah α)(hp:ah.Xq p)(hl:(go (oK F h0) p []).2.length<=1000000) :
  ng Tryz.prog (TJ K gN gF gH F h0) (fun h=>[] <+: h/\h <+: (go (oK F h0) p []).2):=by
 refine⟨?_,fun T hT=>absurd hT.1 (by intro h;have:=congrArg (·.map je.val) h;simp[TJ,oK,kP] at this;omega)⟩
 intro l X w ⟨hB,hN⟩
 refine⟨_,_,rfl,(fun args w=>by kernel_rfl),fun c _ hc=>?_⟩
 have hO:=aIo F h0 l c
 have hgc:yJ c:=by
  by_cases g:yJ c
  ·exact g
  ·have h1:(TJ K gN gF gH F h0).O (l++[c])=none:=by
    show oK F h0 (l++[c])=none;rw[hO,if_pos (.inr (.inl g))]
   exact Lh (oK F h0) p hp [] (fun _ h=>by cases h) c ((hc h1).2.subset (by simp))
 have hlen:l.length<=1000000:=by
  rcases Nat.lt_or_ge 1000000 l.length with h2|h2
  ·have h1:(TJ K gN gF gH F h0).O (l++[c])=none:=by
    show oK F h0 (l++[c])=none;rw[hO,if_pos (.inr (.inr h2))]
   have h3:=(hc h1).2.length_le;rw[List.length_append,List.length_singleton] at h3;omega
  ·exact h2
 have aNY:=aUm (F:=F) l 0 hd hB.good;have hg:Dx (AO F h0 l 0) c:=⟨aNY,hgc⟩;have hst:=aUl F l c h0;obtain⟨bl,hb1,hb2,hb3⟩:∃ bl:Nat->Nat,bl 900001=gN/\bl 900002=gF/\bl 900003=gH:=⟨fun x=>if x=900001 then gN else if x=900002 then gF else gH,rfl,rfl,rfl⟩
 have FT:∀ {h':j_} {o:Ob},o∈pO F (AO F h0 l 0) h' l.length->(o.x=900001/\o.t=3/\o.l=[.lit (.int .i64 (l.length:Int))]/\o.l'=[.lit (.int .i64 ((l.length+1:Nat):Int))])\/(o.x=900002/\o.t=68/\o.l=[tH F]/\o.l'=[tH F])\/(o.x=900003/\o.t=65/\o.l=m_ (AO F h0 l 0)/\o.l'=m_ h'):=by
  intro h' o ho;simp only[pO,List.mem_cons,List.not_mem_nil,or_false] at ho;rcases ho with rfl|rfl|rfl
  ·exact .inl ⟨rfl,rfl,rfl,rfl⟩
  ·exact .inr (.inl ⟨rfl,rfl,rfl,rfl⟩)
  ·exact .inr (.inr ⟨rfl,rfl,rfl,rfl⟩)
 have Ah:∀ {h':j_} b,SX (pO F (AO F h0 l 0) h' l.length) bl Dv.non b->b=gN\/b=gF\/b=gH:=by
  rintro h' b (hb|⟨o,ho,rfl⟩)
  ·exact hb.elim
  ·rcases FT ho with⟨e,_⟩|⟨e,_⟩|⟨e,_⟩<;>rw[e]<;>simp[hb1,hb2,hb3]
 obtain⟨n1,n2,n3⟩:=hB.ne;obtain⟨cF,f1,f2⟩:=hB.bf;obtain⟨cH,f3,f4⟩:=hB.bh
 have e1:Value.pointer (some ⟨gN,0,none⟩)=.pointer (some ⟨bl 900001,0,none⟩):=by rw[hb1]
 have e2:Value.pointer (some ⟨gF,0,none⟩)=.pointer (some ⟨bl 900002,0,none⟩):=by rw[hb2]
 have e3:Value.pointer (some ⟨gH,0,none⟩)=.pointer (some ⟨bl 900003,0,none⟩):=by rw[hb3]
 refine (aYr F (AO F h0 l 0) l.length c hg hlen hF w (OV K X gN gF gH) [c.v,.pointer (some ⟨gN,0,none⟩),.pointer (some ⟨gF,0,none⟩),.pointer (some ⟨gH,0,none⟩)] bl
  (fun w' hc=>aRl hB.mem hc (fun b hb hs=>?_)) (fun b hb=>?_) (fun o ho=>?_) (fun o ho o' ho' e=>?_) ⟨?_,?_,?_,?_,trivial⟩).mono ?_
 ·have:=(hB.tab b hb).2;rcases Ah b hs with h|h|h
  ·exact this.1 h
  ·exact this.2.1 h
  ·exact this.2.2 h
 ·rcases Ah b hb with rfl|rfl|rfl
  ·exact⟨hB.bn.lt,fun h=>h.2.2.1 rfl⟩
  ·exact⟨f1.lt,fun h=>h.2.2.2.1 rfl⟩
  ·exact⟨f3.lt,fun h=>h.2.2.2.2 rfl⟩
 ·rcases FT ho with⟨k1,k2,k3,_⟩|⟨k1,k2,k3,_⟩|⟨k1,k2,k3,_⟩<;>rw[k1,k2,k3]
  ·exact⟨_,by rw[hb1];exact hB.bn,.cons (xs:=[_]) (.lit rfl) .nil⟩
  ·exact⟨cF,by rw[hb2];exact f1,f2⟩
  ·exact⟨cH,by rw[hb3];exact f3,f4⟩
 ·rcases FT ho with⟨k1,_⟩|⟨k1,_⟩|⟨k1,_⟩<;>rcases FT ho' with⟨k2,_⟩|⟨k2,_⟩|⟨k2,_⟩<;>rw[k1,k2] at e ⊢<;>simp only[hb1,hb2,hb3] at e<;>first|(exact absurd e n1)|(exact absurd e n2)|(exact absurd e n3)|(exact absurd e.symm n1)|(exact absurd e.symm n2)|(exact absurd e.symm n3)
 ·exact .w (.agg (.cons (xs:=[_]) (.lit rfl) (.cons (xs:=[_]) (.lit rfl) (.cons (xs:=[_]) (.lit rfl) (.cons (xs:=[_]) (.lit rfl) .nil)))))
 ·exact .w (.one (.pt ⟨_,_,rfl⟩ ⟨0,_,rfl,Nat.le_refl _,fun _=>⟨_,rfl,e1⟩⟩))
 ·exact .w (.one (.pt ⟨_,_,rfl⟩ ⟨0,_,rfl,Nat.le_refl _,fun _=>⟨_,rfl,e2⟩⟩))
 ·exact .w (.one (.pt ⟨_,_,rfl⟩ ⟨0,_,rfl,Nat.le_refl _,fun _=>⟨_,rfl,e3⟩⟩))
 rintro e w' ⟨hcw,hob,hres⟩
 refine⟨hcw.mono fun b _ hb=>Ah b hb,?_⟩
 have hB':C9 K gN gF gH F h0 (l++[c]) X w':=by
  have hle:∀ {p:List PC} {xs:List Value},RL { w:=w',ok:=pK w (OV K X gN gF gH) false,env:=fun _=>none } p xs->RL { w:=w',ok:=OV K X gN gF gH,env:=fun _=>none } p xs:=fun hr=>
   hr.le ⟨Nat.le_refl _,fun b hb hok=>⟨hok.elim (fun h=>h.2) (fun h=>by have h':w.heap.size<=b:=h;exact⟨hB.up b h',fun hx=>by have:=(hB.mine b hx).1;omega,by have:=hB.bn.lt;omega,by have:=f1.lt;omega,by have:=f3.lt;omega⟩),rfl⟩,fun _ _ _ h=>by cases h⟩
  have o1:=hob ⟨900001,3,[.lit (.int .i64 (l.length:Int))],[.lit (.int .i64 ((l.length+1:Nat):Int))]⟩ (by simp[pO]);have o2:=hob ⟨900002,68,[tH F],[tH F]⟩ (by simp[pO]);have o3:=hob ⟨900003,65,m_ (AO F h0 l 0),m_ (fJ (AO F h0 l 0) c (eX F l.length)).1⟩ (by simp[pO]);dsimp only at o1 o2 o3;rw[hb1] at o1;rw[hb2] at o2;rw[hb3] at o3;obtain⟨c1,p1,p2⟩:=o1;obtain⟨c2,p3,p4⟩:=o2;obtain⟨c3,p5,p6⟩:=o3
  refine⟨?_,⟨c2,p3,hle p4⟩,⟨c3,p5,?_⟩,hB.ne,fun x hx=>?_,fun b hb=>⟨Nat.lt_of_lt_of_le (hB.mine b hb).1 hcw.size,(hB.mine b hb).2⟩,aRl hB.mem hcw (fun b hb hs=>?_),hB.tab,fun b hb=>hB.up b (Nat.le_trans hcw.size hb)⟩
  ·have hcs:c1=#[.int .i64 ((l.length+1:Nat):Int)]:=by
    apply Array.ext';generalize c1.toList=z at p2
    cases p2 with
    |cons q1 q2=>cases q2;cases q1;rfl
   rw[hcs] at p1;rw[List.length_append,List.length_singleton];exact p1
  ·rw[hst];exact hle p6
  ·rcases List.mem_append.1 hx with hx|hx
   ·exact hB.good x hx
   ·obtain rfl:=List.mem_singleton.1 hx
    exact hgc
  ·have:=(hB.tab b hb).2;rcases Ah b hs with h|h|h
   ·exact this.1 h
   ·exact this.2.1 h
   ·exact this.2.2 h
 by_cases hcut:(eX F l.length).cut=true
 ·right
  unfold XZ at hres;rw[if_pos hcut] at hres
  refine⟨NW,?_,hres,⟨[],(fun _ h=>by cases h),rfl⟩,hB',l,c,rfl,hN,hcut⟩
  show oK F h0 (l++[c])=none;rw[hO,if_pos (.inl hcut)]
 ·left
  unfold XZ at hres;rw[if_neg hcut] at hres;obtain⟨val,rfl,hv⟩:=hres
  refine⟨(fJ (AO F h0 l 0) c (eX F l.length)).2.1,?_,?_,hB',fun k hk=>?_⟩
  ·show oK F h0 (l++[c])=some _;rw[hO,if_neg (fun h=>h.elim hcut fun h=>h.elim (fun h=>h hgc) (fun h=>by omega))]
  ·congr 1;generalize (fJ (AO F h0 l 0) c (eX F l.length)).2.1=r at hv
   cases hv with
   | w hv=>cases hv with
    | @agg _ cs hv=>
     obtain⟨cs⟩:=cs;dsimp only at hv
     cases hv with
     |cons q1 hv=>cases hv with
      |cons q2 hv=>cases hv;cases q1;cases q2;rfl
  ·rw[List.length_append,List.length_singleton] at hk;rcases Nat.lt_or_ge k l.length with h|h
   ·exact hN k h
   ·obtain rfl:k=l.length:=by omega
    simpa using hcut
structure Loc(P:Program)(T:TypeId)(b:Nat)(t:TypeId)(cs:Array Value)(v:Value):Prop where
 ld:∀ w,au w b t cs->(Instr.loadAt T (.pointer (some ⟨b,0,none⟩))).run P w=.ok v w
 st:∀ w old,old.size=cs.size->au w b t old->∃ w',(Instr.storeAt T (.pointer (some ⟨b,0,none⟩)) v).run P w=.ok () w'/\au w' b t cs/\dm (fun k=>k=b) w w'/\w'.heap.size=w.heap.size
theorem Loc.wide{P:Program}{T:TypeId}{n:Nat}(W:u_ P T n)(b:Nat)(t:TypeId)(cs:Array Value)(hn:cs.size=n)(h1:cs.all (·.oneCell')=true):Loc P T b t cs (.agg cs):=by
 refine⟨fun w hB=>?_,fun w old ho hB=>⟨_,run_storeAt_mid w b 0 T cs (by rw[<-ho];exact hB.EC) (by rw[hn];exact W.info) h1,aDw hB ho,(fZ b cs.toList 0 w).1,(fZ b cs.toList 0 w).2⟩⟩
 obtain⟨d,hu,hd⟩:=W.und;have:=run_loadAt_mid (P:=P) w b 0 T cs.toList d hB.range hu hd (by rw[Array.length_toList,hn];exact W.info);rw[Array.toArray_toList] at this;exact this
def D9(T:TypeId)(p:String):Oper:=⟨some 17,.load T (.tmp 6),T,p,#[],none⟩
def Bh(T:TypeId)(p:String):Oper:=⟨some 18,.load T (.tmp 7),T,p,#[],none⟩
def BP(T:TypeId)(p:String):Oper:=⟨some 19,.load T (.tmp 8),T,p,#[],none⟩
def D8(T:TypeId)(p:String):Oper:=⟨none,.store T (.tmp 6) (.tmp 17),0,p,#[⟨0,.data⟩,⟨0,.phase⟩,⟨1,.textOnly .lateStoresUnsure⟩,⟨2,.textOnly .lateStoresUnsure⟩],none⟩
def EJ(T:TypeId)(p:String):Oper:=⟨none,.store T (.tmp 7) (.tmp 18),0,p,#[⟨1,.data⟩,⟨3,.chain⟩,⟨0,.phase⟩,⟨1,.phase⟩,⟨2,.textOnly .lateStoresUnsure⟩,⟨3,.phase⟩],none⟩
def FP(T:TypeId)(p:String):Oper:=⟨none,.store T (.tmp 8) (.tmp 19),0,p,#[⟨2,.data⟩,⟨4,.chain⟩,⟨0,.phase⟩,⟨1,.phase⟩,⟨2,.phase⟩,⟨3,.phase⟩,⟨4,.phase⟩],none⟩
def FO(T:TypeId)(p:String):Oper:=⟨none,.store T (.tmp 9) (.const (.bool true)),0,p,#[⟨5,.chain⟩,⟨0,.phase⟩,⟨1,.phase⟩,⟨2,.phase⟩,⟨3,.phase⟩,⟨4,.phase⟩,⟨5,.phase⟩],none⟩
def oJ(T1 T2 T3 T4:TypeId)(p:String):Array Oper:=#[D9 T1 p,Bh T2 p,BP T3 p,D8 T1 p,EJ T2 p,FP T3 p,FO T4 p]
structure LvV where
 a0:Act
 w0:World
 b1:Nat
 b2:Nat
 b3:Nat
 b4:Nat
 t1:TypeId
 t2:TypeId
 t3:TypeId
 t4:TypeId
 c1:Array Value
 c2:Array Value
 c3:Array Value
 v1:Value
 v2:Value
 v3:Value
structure AZ(V:LvV)(x y z f:Bool)(a:Act)(w:World):Prop where
 ds:a.defers=V.a0.defers
 sz:a.tmps.size=V.a0.tmps.size
 tm:∀ t,t<17->a.tmps.getD t undef=V.a0.tmps.getD t undef
 l1:x=true->a.tmps.getD 17 undef=V.v1
 l2:y=true->a.tmps.getD 18 undef=V.v2
 l3:z=true->a.tmps.getD 19 undef=V.v3
 k1:au w V.b1 V.t1 V.c1
 k2:au w V.b2 V.t2 V.c2
 k3:au w V.b3 V.t3 V.c3
 k4:∃ v,au w V.b4 V.t4 #[v]/\(f=true->v=.bool true)
 gu:dm (fun k=>k=V.b1\/k=V.b2\/k=V.b3\/k=V.b4) V.w0 w
 size:w.heap.size=V.w0.heap.size
theorem sS{a:Array Value}{i:Nat}(h:i<a.size)(v:Value):(a.setIfInBounds i v).getD i undef=v:=by
 simp[Array.getD_eq_getD_getElem?,h]
theorem getD_set_ne{a:Array Value}{i j:Nat}(h:i≠j)(v:Value):(a.setIfInBounds i v).getD j undef=a.getD j undef:=by
 simp[Array.getD_eq_getD_getElem?,h]
theorem Kv{P:Program}(hm:P.follows .mixedOrders=true)(V:LvV){T1 T2 T3 T4:TypeId}{id:Nat}{p:String}{Q:Exit->Act->World->Prop}
  (L1:Loc P T1 V.b1 V.t1 V.c1 V.v1) (L2:Loc P T2 V.b2 V.t2 V.c2 V.v2) (L3:Loc P T3 V.b3 V.t3 V.c3 V.v3) (L4:Loc P T4 V.b4 V.t4 #[.bool true] (.bool true))
  (e1:V.a0.tmps.getD 6 undef=.pointer (some ⟨V.b1,0,none⟩)) (e2:V.a0.tmps.getD 7 undef=.pointer (some ⟨V.b2,0,none⟩)) (e3:V.a0.tmps.getD 8 undef=.pointer (some ⟨V.b3,0,none⟩)) (e4:V.a0.tmps.getD 9 undef=.pointer (some ⟨V.b4,0,none⟩))
  (hz:V.a0.tmps.size=20) (n12:V.b1≠V.b2) (n13:V.b1≠V.b3) (n14:V.b1≠V.b4) (n23:V.b2≠V.b3) (n24:V.b2≠V.b4) (n34:V.b3≠V.b4)
  (K1:au V.w0 V.b1 V.t1 V.c1) (K2:au V.w0 V.b2 V.t2 V.c2) (K3:au V.w0 V.b3 V.t3 V.c3) (K4:∃ v,au V.w0 V.b4 V.t4 #[v])
  (hQ:∀ a w,AZ V true true true true a w->Q .normal a w):(Code.region id (oJ T1 T2 T3 T4 p) true).wp P Q V.a0 V.w0:=by
 have d0:∀ {x y z f:Bool} (J:Act->World->Prop) (a:Act) (w:World),AZ V x y z f a w->(∀ a' w',AZ V true y z f a' w'->J a' w')->if Region.wanted (D9 T1 p) (yielded (oJ T1 T2 T3 T4 p) a.tmps)=true then Oper.wp P (D9 T1 p) a w J Q else J (a.put (D9 T1 p).dst undef) w:=by
  intro x y z f J a w h hJ;rw[if_pos (by rfl)];have hs:=h.sz.trans hz;refine aJw (o:=D9 T1 p) rfl (val:=V.v1) (by rw[show a.eval (.tmp 6)=.pointer (some ⟨V.b1,0,none⟩) from (h.tm 6 (by omega)).trans e1];exact L1.ld w h.k1) (hJ _ _ ?_)
  exact⟨h.ds,by show (a.tmps.setIfInBounds 17 _).size=_;rw[Array.size_setIfInBounds];exact h.sz,fun t ht=>(getD_set_ne (by omega) _).trans (h.tm t ht),fun _=>sS (by omega) _,fun hy=>(getD_set_ne (by omega) _).trans (h.l2 hy),fun hz'=>(getD_set_ne (by omega) _).trans (h.l3 hz'),h.k1,h.k2,h.k3,h.k4,h.gu,h.size⟩
 have d1:∀ {x y z f:Bool} (J:Act->World->Prop) (a:Act) (w:World),AZ V x y z f a w->(∀ a' w',AZ V x true z f a' w'->J a' w')->if Region.wanted (Bh T2 p) (yielded (oJ T1 T2 T3 T4 p) a.tmps)=true then Oper.wp P (Bh T2 p) a w J Q else J (a.put (Bh T2 p).dst undef) w:=by
  intro x y z f J a w h hJ;rw[if_pos (by rfl)];have hs:=h.sz.trans hz;refine aJw (o:=Bh T2 p) rfl (val:=V.v2) (by rw[show a.eval (.tmp 7)=.pointer (some ⟨V.b2,0,none⟩) from (h.tm 7 (by omega)).trans e2];exact L2.ld w h.k2) (hJ _ _ ?_)
  exact⟨h.ds,by show (a.tmps.setIfInBounds 18 _).size=_;rw[Array.size_setIfInBounds];exact h.sz,fun t ht=>(getD_set_ne (by omega) _).trans (h.tm t ht),fun hx=>(getD_set_ne (by omega) _).trans (h.l1 hx),fun _=>sS (by omega) _,fun hz'=>(getD_set_ne (by omega) _).trans (h.l3 hz'),h.k1,h.k2,h.k3,h.k4,h.gu,h.size⟩
 have d2:∀ {x y z f:Bool} (J:Act->World->Prop) (a:Act) (w:World),AZ V x y z f a w->(∀ a' w',AZ V x y true f a' w'->J a' w')->if Region.wanted (BP T3 p) (yielded (oJ T1 T2 T3 T4 p) a.tmps)=true then Oper.wp P (BP T3 p) a w J Q else J (a.put (BP T3 p).dst undef) w:=by
  intro x y z f J a w h hJ;rw[if_pos (by rfl)];have hs:=h.sz.trans hz;refine aJw (o:=BP T3 p) rfl (val:=V.v3) (by rw[show a.eval (.tmp 8)=.pointer (some ⟨V.b3,0,none⟩) from (h.tm 8 (by omega)).trans e3];exact L3.ld w h.k3) (hJ _ _ ?_)
  exact⟨h.ds,by show (a.tmps.setIfInBounds 19 _).size=_;rw[Array.size_setIfInBounds];exact h.sz,fun t ht=>(getD_set_ne (by omega) _).trans (h.tm t ht),fun hx=>(getD_set_ne (by omega) _).trans (h.l1 hx),fun hy=>(getD_set_ne (by omega) _).trans (h.l2 hy),fun _=>sS (by omega) _,h.k1,h.k2,h.k3,h.k4,h.gu,h.size⟩
 have d3:∀ {y z f:Bool} (J:Act->World->Prop) (a:Act) (w:World),AZ V true y z f a w->(∀ a' w',AZ V true y z f a' w'->J a' w')->if Region.wanted (D8 T1 p) (yielded (oJ T1 T2 T3 T4 p) a.tmps)=true then Oper.wp P (D8 T1 p) a w J Q else J (a.put (D8 T1 p).dst undef) w:=by
  intro y z f J a w h hJ;rw[if_pos (by rfl)];obtain⟨w',hr,hb,hc,hsz⟩:=L1.st w V.c1 rfl h.k1;obtain⟨v4,h4,h4'⟩:=h.k4;refine kY (o:=D8 T1 p) rfl (w':=w') (by rw[show a.eval (.tmp 6)=.pointer (some ⟨V.b1,0,none⟩) from (h.tm 6 (by omega)).trans e1,show a.eval (.tmp 17)=V.v1 from h.l1 rfl];exact hr) (hJ _ _ ?_)
  exact⟨h.ds,h.sz,h.tm,h.l1,h.l2,h.l3,hb,h.k2.gu hc (fun e=>n12 e.symm),h.k3.gu hc (fun e=>n13 e.symm),⟨v4,h4.gu hc (fun e=>n14 e.symm),h4'⟩,h.gu.trans (hc.mono fun k _ hk=>.inl hk),hsz.trans h.size⟩
 have d4:∀ {x z f:Bool} (J:Act->World->Prop) (a:Act) (w:World),AZ V x true z f a w->(∀ a' w',AZ V x true z f a' w'->J a' w')->if Region.wanted (EJ T2 p) (yielded (oJ T1 T2 T3 T4 p) a.tmps)=true then Oper.wp P (EJ T2 p) a w J Q else J (a.put (EJ T2 p).dst undef) w:=by
  intro x z f J a w h hJ;rw[if_pos (by rfl)];obtain⟨w',hr,hb,hc,hsz⟩:=L2.st w V.c2 rfl h.k2;obtain⟨v4,h4,h4'⟩:=h.k4;refine kY (o:=EJ T2 p) rfl (w':=w') (by rw[show a.eval (.tmp 7)=.pointer (some ⟨V.b2,0,none⟩) from (h.tm 7 (by omega)).trans e2,show a.eval (.tmp 18)=V.v2 from h.l2 rfl];exact hr) (hJ _ _ ?_)
  exact⟨h.ds,h.sz,h.tm,h.l1,h.l2,h.l3,h.k1.gu hc n12,hb,h.k3.gu hc (fun e=>n23 e.symm),⟨v4,h4.gu hc (fun e=>n24 e.symm),h4'⟩,h.gu.trans (hc.mono fun k _ hk=>.inr (.inl hk)),hsz.trans h.size⟩
 have d5:∀ {x y f:Bool} (J:Act->World->Prop) (a:Act) (w:World),AZ V x y true f a w->(∀ a' w',AZ V x y true f a' w'->J a' w')->if Region.wanted (FP T3 p) (yielded (oJ T1 T2 T3 T4 p) a.tmps)=true then Oper.wp P (FP T3 p) a w J Q else J (a.put (FP T3 p).dst undef) w:=by
  intro x y f J a w h hJ;rw[if_pos (by rfl)];obtain⟨w',hr,hb,hc,hsz⟩:=L3.st w V.c3 rfl h.k3;obtain⟨v4,h4,h4'⟩:=h.k4;refine kY (o:=FP T3 p) rfl (w':=w') (by rw[show a.eval (.tmp 8)=.pointer (some ⟨V.b3,0,none⟩) from (h.tm 8 (by omega)).trans e3,show a.eval (.tmp 19)=V.v3 from h.l3 rfl];exact hr) (hJ _ _ ?_)
  exact⟨h.ds,h.sz,h.tm,h.l1,h.l2,h.l3,h.k1.gu hc n13,h.k2.gu hc n23,hb,⟨v4,h4.gu hc (fun e=>n34 e.symm),h4'⟩,h.gu.trans (hc.mono fun k _ hk=>.inr (.inr (.inl hk))),hsz.trans h.size⟩
 have d6:∀ {x y z f:Bool} (J:Act->World->Prop) (a:Act) (w:World),AZ V x y z f a w->(∀ a' w',AZ V x y z true a' w'->J a' w')->if Region.wanted (FO T4 p) (yielded (oJ T1 T2 T3 T4 p) a.tmps)=true then Oper.wp P (FO T4 p) a w J Q else J (a.put (FO T4 p).dst undef) w:=by
  intro x y z f J a w h hJ;rw[if_pos (by rfl)];obtain⟨v4,h4,h4'⟩:=h.k4;obtain⟨w',hr,hb,hc,hsz⟩:=L4.st w #[v4] rfl h4;refine kY (o:=FO T4 p) rfl (w':=w') (by rw[show a.eval (.tmp 9)=.pointer (some ⟨V.b4,0,none⟩) from (h.tm 9 (by omega)).trans e4];exact hr) (hJ _ _ ?_)
  exact⟨h.ds,h.sz,h.tm,h.l1,h.l2,h.l3,h.k1.gu hc n14,h.k2.gu hc n24,h.k3.gu hc n34,⟨_,hb,fun _=>rfl⟩,h.gu.trans (hc.mono fun k _ hk=>.inr (.inr (.inr hk))),hsz.trans h.size⟩
 have IM:∀ a w,AZ V true true true true a w->wpAny P .any (oJ T1 T2 T3 T4 p) Q 0 #[true,true,true,true,true,true,true] a w:=fun a w h=>by
  exact wpAny_done (by kernel_rfl) (hQ a w h) _
 have IP:∀ a w,AZ V true true true false a w->wpAny P .any (oJ T1 T2 T3 T4 p) Q 1 #[true,true,true,true,true,true,false] a w:=fun a w h=>by
  exact wpAny_ready (rs:=[6]) (by kernel_rfl) (by simp) (AllReady.cons (o:=FO T4 p) rfl (fun J hJ=>d6 J a w h fun a1 w1 h1=>hJ _ _ (IM a1 w1 h1)) AllReady.nil)
 have DW:∀ a w,AZ V true true true false a w->wpAny P .any (oJ T1 T2 T3 T4 p) Q 2 #[true,true,true,true,true,false,false] a w:=fun a w h=>by
  exact wpAny_ready (rs:=[5]) (by kernel_rfl) (by simp) (AllReady.cons (o:=FP T3 p) rfl (fun J hJ=>d5 J a w h fun a1 w1 h1=>hJ _ _ (IP a1 w1 h1)) AllReady.nil)
 have Bd:∀ a w,AZ V true true true false a w->wpAny P .any (oJ T1 T2 T3 T4 p) Q 3 #[true,true,true,true,false,false,false] a w:=fun a w h=>by
  exact wpAny_ready (rs:=[4]) (by kernel_rfl) (by simp) (AllReady.cons (o:=EJ T2 p) rfl (fun J hJ=>d4 J a w h fun a1 w1 h1=>hJ _ _ (DW a1 w1 h1)) AllReady.nil)
 have Be:∀ a w,AZ V true true true false a w->wpAny P .any (oJ T1 T2 T3 T4 p) Q 4 #[true,true,true,false,false,false,false] a w:=fun a w h=>by
  exact wpAny_ready (rs:=[3]) (by kernel_rfl) (by simp) (AllReady.cons (o:=D8 T1 p) rfl (fun J hJ=>d3 J a w h fun a1 w1 h1=>hJ _ _ (Bd a1 w1 h1)) AllReady.nil)
 have IQ:∀ a w,AZ V true true false false a w->wpAny P .any (oJ T1 T2 T3 T4 p) Q 3 #[true,true,false,true,true,false,false] a w:=fun a w h=>by
  exact wpAny_ready (rs:=[2]) (by kernel_rfl) (by simp) (AllReady.cons (o:=BP T3 p) rfl (fun J hJ=>d2 J a w h fun a1 w1 h1=>hJ _ _ (DW a1 w1 h1)) AllReady.nil)
 have DX:∀ a w,AZ V true true false false a w->wpAny P .any (oJ T1 T2 T3 T4 p) Q 4 #[true,true,false,true,false,false,false] a w:=fun a w h=>by
  exact wpAny_ready (rs:=[2,4]) (by kernel_rfl) (by simp) (AllReady.cons (o:=BP T3 p) rfl (fun J hJ=>d2 J a w h fun a1 w1 h1=>hJ _ _ (Bd a1 w1 h1)) (AllReady.cons (o:=EJ T2 p) rfl (fun J hJ=>d4 J a w h fun a1 w1 h1=>hJ _ _ (IQ a1 w1 h1)) AllReady.nil))
 have DY:∀ a w,AZ V true true false false a w->wpAny P .any (oJ T1 T2 T3 T4 p) Q 5 #[true,true,false,false,false,false,false] a w:=fun a w h=>by
  exact wpAny_ready (rs:=[2,3]) (by kernel_rfl) (by simp) (AllReady.cons (o:=BP T3 p) rfl (fun J hJ=>d2 J a w h fun a1 w1 h1=>hJ _ _ (Be a1 w1 h1)) (AllReady.cons (o:=D8 T1 p) rfl (fun J hJ=>d3 J a w h fun a1 w1 h1=>hJ _ _ (DX a1 w1 h1)) AllReady.nil))
 have DZ:∀ a w,AZ V true false true false a w->wpAny P .any (oJ T1 T2 T3 T4 p) Q 4 #[true,false,true,true,false,false,false] a w:=fun a w h=>by
  exact wpAny_ready (rs:=[1]) (by kernel_rfl) (by simp) (AllReady.cons (o:=Bh T2 p) rfl (fun J hJ=>d1 J a w h fun a1 w1 h1=>hJ _ _ (Bd a1 w1 h1)) AllReady.nil)
 have Dc:∀ a w,AZ V true false true false a w->wpAny P .any (oJ T1 T2 T3 T4 p) Q 5 #[true,false,true,false,false,false,false] a w:=fun a w h=>by
  exact wpAny_ready (rs:=[1,3]) (by kernel_rfl) (by simp) (AllReady.cons (o:=Bh T2 p) rfl (fun J hJ=>d1 J a w h fun a1 w1 h1=>hJ _ _ (Be a1 w1 h1)) (AllReady.cons (o:=D8 T1 p) rfl (fun J hJ=>d3 J a w h fun a1 w1 h1=>hJ _ _ (DZ a1 w1 h1)) AllReady.nil))
 have IU:∀ a w,AZ V true false false false a w->wpAny P .any (oJ T1 T2 T3 T4 p) Q 5 #[true,false,false,true,false,false,false] a w:=fun a w h=>by
  exact wpAny_ready (rs:=[1,2]) (by kernel_rfl) (by simp) (AllReady.cons (o:=Bh T2 p) rfl (fun J hJ=>d1 J a w h fun a1 w1 h1=>hJ _ _ (DX a1 w1 h1)) (AllReady.cons (o:=BP T3 p) rfl (fun J hJ=>d2 J a w h fun a1 w1 h1=>hJ _ _ (DZ a1 w1 h1)) AllReady.nil))
 have IV:∀ a w,AZ V true false false false a w->wpAny P .any (oJ T1 T2 T3 T4 p) Q 6 #[true,false,false,false,false,false,false] a w:=fun a w h=>by
  exact wpAny_ready (rs:=[1,2,3]) (by kernel_rfl) (by simp) (AllReady.cons (o:=Bh T2 p) rfl (fun J hJ=>d1 J a w h fun a1 w1 h1=>hJ _ _ (DY a1 w1 h1)) (AllReady.cons (o:=BP T3 p) rfl (fun J hJ=>d2 J a w h fun a1 w1 h1=>hJ _ _ (Dc a1 w1 h1)) (AllReady.cons (o:=D8 T1 p) rfl (fun J hJ=>d3 J a w h fun a1 w1 h1=>hJ _ _ (IU a1 w1 h1)) AllReady.nil)))
 have Df:∀ a w,AZ V false true true false a w->wpAny P .any (oJ T1 T2 T3 T4 p) Q 5 #[false,true,true,false,false,false,false] a w:=fun a w h=>by
  exact wpAny_ready (rs:=[0]) (by kernel_rfl) (by simp) (AllReady.cons (o:=D9 T1 p) rfl (fun J hJ=>d0 J a w h fun a1 w1 h1=>hJ _ _ (Be a1 w1 h1)) AllReady.nil)
 have IW:∀ a w,AZ V false true false false a w->wpAny P .any (oJ T1 T2 T3 T4 p) Q 6 #[false,true,false,false,false,false,false] a w:=fun a w h=>by
  exact wpAny_ready (rs:=[0,2]) (by kernel_rfl) (by simp) (AllReady.cons (o:=D9 T1 p) rfl (fun J hJ=>d0 J a w h fun a1 w1 h1=>hJ _ _ (DY a1 w1 h1)) (AllReady.cons (o:=BP T3 p) rfl (fun J hJ=>d2 J a w h fun a1 w1 h1=>hJ _ _ (Df a1 w1 h1)) AllReady.nil))
 have IX:∀ a w,AZ V false false true false a w->wpAny P .any (oJ T1 T2 T3 T4 p) Q 6 #[false,false,true,false,false,false,false] a w:=fun a w h=>by
  exact wpAny_ready (rs:=[0,1]) (by kernel_rfl) (by simp) (AllReady.cons (o:=D9 T1 p) rfl (fun J hJ=>d0 J a w h fun a1 w1 h1=>hJ _ _ (Dc a1 w1 h1)) (AllReady.cons (o:=Bh T2 p) rfl (fun J hJ=>d1 J a w h fun a1 w1 h1=>hJ _ _ (Df a1 w1 h1)) AllReady.nil))
 have IY:∀ a w,AZ V false false false false a w->wpAny P .any (oJ T1 T2 T3 T4 p) Q 7 #[false,false,false,false,false,false,false] a w:=fun a w h=>by
  exact wpAny_ready (rs:=[0,1,2]) (by kernel_rfl) (by simp) (AllReady.cons (o:=D9 T1 p) rfl (fun J hJ=>d0 J a w h fun a1 w1 h1=>hJ _ _ (IV a1 w1 h1)) (AllReady.cons (o:=Bh T2 p) rfl (fun J hJ=>d1 J a w h fun a1 w1 h1=>hJ _ _ (IW a1 w1 h1)) (AllReady.cons (o:=BP T3 p) rfl (fun J hJ=>d2 J a w h fun a1 w1 h1=>hJ _ _ (IX a1 w1 h1)) AllReady.nil)))
 obtain⟨v4,K4⟩:=K4;refine wp_region_any hm ?_;exact IY _ _ ⟨rfl,rfl,fun _ _=>rfl,fun h=>(by cases h),fun h=>(by cases h),fun h=>(by cases h),K1.drew,K2.drew,K3.drew,⟨v4,K4.drew,fun h=>by cases h⟩,dm.drew (dm.refl _ _),rfl⟩
end Pv
section
theorem iZ:u_ Tryz.prog 40 55:=⟨⟨_,Tryz.underlying40,rfl⟩,by kernel_rfl⟩
namespace Pv
def Du(l:List UInt8):Array Value:=(l.map o9).toArray
def jw(o:jk):Array Value:=(#[.int .i64 o.session,.string o.payload]:Array Value)++Du o.ot++#[.int .i64 o.ol]++Du o.xt++#[.int .i64 o.xl,.int .i64 o.bn,.string o.bc]++Du o.bt++#[.int .i64 o.err]
structure qp(o:jk):Prop where
 ot:o.ot.length=16
 xt:o.xt.length=16
 bt:o.bt.length=16
theorem aWq(l:List UInt8):(Du l).size=l.length:=by simp[Du]
theorem Nw(l:List UInt8):∀ u∈(Du l).toList,u.oneCell'=true:=by
 intro u hu;simp only[Du,List.mem_map] at hu;obtain⟨b,_,rfl⟩:=hu;rfl
theorem dS{o:jk}(h:qp o):(jw o).size=55:=by
 unfold jw;simp only[Array.size_append,aWq,h.ot,h.xt,h.bt,List.size_toArray,List.length_cons,List.length_nil]
theorem bDh(C:Ctx){o:jk}(h:qp o):RL C (h_ o) (jw o).toList:=by
 have e:(jw o).toList=[.int .i64 o.session]++([.string o.payload]++(o.ot.map o9++([.int .i64 o.ol]++(o.xt.map o9++([.int .i64 o.xl]++([.int .i64 o.bn]++([.string o.bc]++(o.bt.map o9++([.int .i64 o.err]++[]))))))))):=by
  simp[jw,Du]
 rw[e];exact .cons (.lit rfl) (.cons (.lit rfl) (.cons (.bs h.ot) (.cons (.lit rfl) (.cons (.bs h.xt) (.cons (.lit rfl) (.cons (.lit rfl) (.cons (.lit rfl) (.cons (.bs h.bt) (.cons (.lit rfl) .nil)))))))))
theorem QD{C:Ctx}{o:jk}{xs:List Value}(h:RL C (h_ o) xs):xs=(jw o).toList/\qp o:=by
 unfold h_ at h
 cases h with|cons k0 h=>cases h with|cons k1 h=>cases h with|cons k2 h=>cases h with|cons k3 h=>cases h with|cons k4 h=>cases h with|cons k5 h=>cases h with|cons k6 h=>cases h with|cons k7 h=>cases h with|cons k8 h=>cases h with|cons k9 h=>
  cases h;cases k0;cases k1;cases k3;cases k5;cases k6;cases k7;cases k9
  cases k2 with|bs k2=>cases k4 with|bs k4=>cases k8 with|bs k8=>
   exact⟨by simp[jw,Du],k2,k4,k8⟩
theorem lV(o:jk):(jw o).all (·.oneCell')=true:=by
 rw[<-Array.all_toList,List.all_eq_true];intro u hu;simp only[jw,Array.toList_append,List.mem_append] at hu;rcases hu with (((((hu|hu)|hu)|hu)|hu)|hu)|hu
 all_goals first
  |exact Nw _ _ hu
  |(simp only[List.mem_cons,List.not_mem_nil,or_false] at hu;rcases hu with rfl|rfl|rfl<;>rfl)
  |(simp only[List.mem_cons,List.not_mem_nil,or_false] at hu;rcases hu with rfl|rfl<;>rfl)
  |(simp only[List.mem_cons,List.not_mem_nil,or_false] at hu;subst hu;rfl)
theorem jR:qp jr:=⟨rfl,rfl,rfl⟩
end Pv
theorem bAe(w:World):(Instr.typeAssert (.iface 139 (.agg #[])) 20 139 true).run Tryz.prog w=.ok (.tuple #[.agg #[],.bool true]) w:=by kernel_rfl
attribute [local go_sem] bAe
theorem aYt(Ob Db:Nat)(y:Array Value)(z0:Value)(older:List PanicEntry)(w:World)(hy:y.size=55)
  (hO:au w Ob 40 y) (hD:au w Db 4 #[z0]) (RP:¬Ob=Db) :
  CallsD Tryz.prog 67 #[.pointer (some ⟨Ob,0,none⟩),.pointer (some ⟨Db,0,none⟩)] (.panicking ({ v:=Pv.cutV,recovered:=false }::older)) w fun e u' w'=>
   e=.returned (.tuple #[])/\u'=.panicking ({ v:=Pv.cutV,recovered:=true }::older)/\dm (fun k=>k=Ob\/k=Db) w w' /\
   au w' Ob 40 (Pv.jw Pv.jr)/\au w' Db 4 #[.bool false]:=by
 have lO:=hO.lt;have lD:=hD.lt;have HO:=hide (And.intro hO hy);have HD:=hide hD;clear hO hD hy;have aOI:¬Db=Ob:=fun e=>RP e.symm;simp only[Pv.cutV];refine callsD_of_wpS Tryz.func67 rfl fun c₀ cs hu=>?_;simp only[Tryz.ntmps67,List.size_toArray,List.length_cons,List.length_nil,Nat.reduceAdd,Nat.reduceSub,Array.replicate_succ,Array.replicate_zero,List.push_toArray,List.append_toArray,List.nil_append,List.cons_append];apply wpS_seq;apply wpS_region;simp[wpOpsS,go_sem,recoverD,hu,Exit.thenS];refine wpS_of_wp ?_
 go_upto_region 8 with fail
 generalize hW:World.alloc _ (.cells _ 40)=W
 have z1:Ext w W:=by
  rw[<-hW]
  repeat' (first|(with_reducible exact dm.refl _ _)|(with_reducible exact Ext.refl _)|(with_reducible assumption)|(with_reducible refine dm.alloc ?_ _)|(with_reducible refine dm.drew ?_)|(with_reducible refine dm.drewN ?_ _)|(with_reducible refine dm.setCell ?_ ?_ _)|(with_reducible refine Ext.alloc ?_ _)|(with_reducible refine Ext.drew ?_)|(with_reducible refine Ext.drewN ?_ _)|(with_reducible refine Ext.setCell ?_ ?_ _)|(simp;done)|(simp;omega)|omega)
 have z2:au W (w.heap.size+1) 40 (Pv.jw Pv.jr):=by
  rw[<-hW];exact au.new' _ _ _ (by simp)
 have z3:=(aA HO).1.ext z1;have z4:=(aA HD).ext z1;have d0:=z4.cell 0;have fD:=z4.frozen;simp only[List.getElem?_toArray,List.getElem?_cons_zero] at d0;have HZ:=hide (And.intro z1 (And.intro z2 (And.intro z3 z4)));clear hW z1 z2 z3 z4
 have hne:¬w.heap.size+1=Ob:=by omega
 go_wp2_with (first
  |(refine dL (ty:=40) (t:=40) (x:=.tmp 4) rfl rfl iZ rfl (cs:=Pv.jw Pv.jr) (aA HZ).2.1 (Pv.dS Pv.jR) ?_)
  |(refine aT (ty:=40) (t:=40) (x:=.tmp 0) (y:=.tmp 12) rfl rfl iZ rfl rfl (aA HZ).2.2.1 (aA HO).2 (Pv.dS Pv.jR) (Pv.lV _) ?_;intro w1 hb1 hc1 hz1;have d1:=((aA HZ).2.2.2.gu hc1 (fun e=>RP e.symm)).cell 0;have f1:=((aA HZ).2.2.2.gu hc1 (fun e=>RP e.symm)).frozen;have l1:=((aA HZ).2.2.2.gu hc1 (fun e=>RP e.symm)).lt;simp only[List.getElem?_toArray,List.getElem?_cons_zero] at d1;have H1:=hide (And.intro hb1 (And.intro hc1 hz1));clear hb1 hc1 hz1))
 obtain⟨y1,y2,y3⟩:=aA H1;obtain⟨z1,z2,z3,z4⟩:=aA HZ
 refine⟨rfl,_,rfl,.tuple #[],results_none rfl _ _ _,rfl,rfl,?_,?_,?_⟩
 ·exact (z1.trans' y2 (fun _ _ h=>h.elim) (fun i hi e=>by rw[e];exact .inl rfl)).setCell (.inl (.inr rfl)) _
 ·exact y1.far (p:=⟨Db,0,none⟩) RP _
 ·exact (z4.gu y2 (fun e=>RP e.symm)).y9 0 _
theorem bEo(x y:Value)(w:World) :
  CallsD Tryz.prog 67 #[x,y] .returning w fun e u' w'=>e=.returned (.tuple #[])/\u'=.returning/\w=w':=by
 refine callsD_of_wpS Tryz.func67 rfl fun c₀ cs hu=>?_;simp only[Tryz.ntmps67,List.size_toArray,List.length_cons,List.length_nil,Nat.reduceAdd,Nat.reduceSub,Array.replicate_succ,Array.replicate_zero,List.push_toArray,List.append_toArray,List.nil_append,List.cons_append];apply wpS_seq;apply wpS_region;simp[wpOpsS,go_sem,recoverD,hu,Exit.thenS];refine wpS_of_wp ?_
 go_wp2
 exact⟨rfl,.returning,by cases c₀;simp_all,.tuple #[],results_none rfl _ _ _,rfl,rfl,rfl⟩
end
section
namespace Pv
def mZ(e:Int):jk:={ jr with err:=e }
theorem aAz(e:Int):qp (mZ e):=⟨rfl,rfl,rfl⟩
def U5:TypeId:=114
def aEZ:TypeId:=139
end Pv
theorem aTv(x:Value)(w:World):(Instr.typeAssert (.iface 118 x) 20 118 true).run Tryz.prog w=.ok (.tuple #[x,.bool true]) w:=by kernel_rfl
theorem aTu(x:Value)(w:World):(Instr.typeAssert (.iface 114 x) 20 118 true).run Tryz.prog w=.ok (.tuple #[.agg #[.int .i64 0],.bool false]) w:=by kernel_rfl
theorem aTw(x:Value)(w:World):(Instr.typeAssert (.iface 139 x) 20 118 true).run Tryz.prog w=.ok (.tuple #[.agg #[.int .i64 0],.bool false]) w:=by kernel_rfl
theorem aJk(c:Int)(w:World):(Instr.build 40 #[(4,.int .i64 c)]).run Tryz.prog w=.ok (.agg (Pv.jw (Pv.mZ c))) w:=by kernel_rfl
attribute [local go_sem] aJk aTv aTu aTw
theorem bDb(Ob:Nat)(y:Array Value)(c:Int)(older:List PanicEntry)(w:World)(hy:y.size=55)(hO:au w Ob 40 y) :
  CallsD Tryz.prog 46 #[.pointer (some ⟨Ob,0,none⟩)] (.panicking ({ v:=.iface 118 (.agg #[.int .i64 c]),recovered:=false }::older)) w fun e u' w'=>
   e=.returned (.tuple #[])/\u'=.panicking ({ v:=.iface 118 (.agg #[.int .i64 c]),recovered:=true }::older)/\dm (fun k=>k=Ob) w w'/\au w' Ob 40 (Pv.jw (Pv.mZ c)):=by
 have lO:=hO.lt;have HO:=hide (And.intro hO hy);clear hO hy;refine callsD_of_wpS Tryz.func46 rfl fun c₀ cs hu=>?_;simp only[Tryz.ntmps46,List.size_toArray,List.length_cons,List.length_nil,Nat.reduceAdd,Nat.reduceSub,Array.replicate_succ,Array.replicate_zero,List.push_toArray,List.append_toArray,List.nil_append,List.cons_append];apply wpS_seq;apply wpS_region;simp[wpOpsS,go_sem,recoverD,hu,Exit.thenS];refine wpS_of_wp ?_
 go_upto_region 7 with fail
 go_step
 iterate 6 (first|go_values|go_step|go_upon|go_in|go_back)
 have z1:Ext w (w.alloc (.cells #[.int .i64 c] 118)):=(Ext.refl w).alloc _;generalize w.alloc (.cells #[.int .i64 c] 118)=W at *;refine wpList_plain rfl fun K hK=>Pv.aW (w:=W) (w':=W) (v:=.agg (Pv.jw (Pv.mZ c))) ?_ (hK _ _ ?_)
 ·simp[execOp,Act.eval,aJk]
 refine aT (ty:=40) (t:=40) (x:=.tmp 0) (y:=.tmp 12) rfl rfl iZ rfl (cs:=Pv.jw (Pv.mZ c)) rfl ((aA HO).1.ext z1) (aA HO).2 (Pv.dS (Pv.aAz c)) (Pv.lV _) ?_;intro w1 hb1 hc1 hz1;have H1:=hide (And.intro hb1 (And.intro hc1 hz1));clear hb1 hc1 hz1
 go_wp2
 obtain⟨y1,y2,y3⟩:=aA H1
 refine⟨rfl,_,rfl,.tuple #[],results_none rfl _ _ _,rfl,rfl,?_,y1⟩
 exact z1.trans' y2 (fun _ _ h=>h.elim) (fun i hi e=>e)
theorem bCz(Ob:Value)(x:Value)(older:List PanicEntry)(w:World) :
  CallsD Tryz.prog 46 #[Ob] (.panicking ({ v:=.iface 114 x,recovered:=false }::older)) w fun e u' w'=>
   e=.panicked [{ v:=.iface 114 x,recovered:=false }]/\u'=.panicking ({ v:=.iface 114 x,recovered:=true }::older)/\w'=w:=by
 refine callsD_of_wpS Tryz.func46 rfl fun c₀ cs hu=>?_;simp only[Tryz.ntmps46,List.size_toArray,List.length_cons,List.length_nil,Nat.reduceAdd,Nat.reduceSub,Array.replicate_succ,Array.replicate_zero,List.push_toArray,List.append_toArray,List.nil_append,List.cons_append];apply wpS_seq;apply wpS_region;simp[wpOpsS,go_sem,recoverD,hu,Exit.thenS];refine wpS_of_wp ?_
 go_wp2
 exact⟨rfl,_,rfl,rfl,rfl,rfl⟩
theorem JD(Ob:Value)(x:Value)(older:List PanicEntry)(w:World) :
  CallsD Tryz.prog 46 #[Ob] (.panicking ({ v:=.iface 139 x,recovered:=false }::older)) w fun e u' w'=>
   e=.panicked [{ v:=.iface 139 x,recovered:=false }]/\u'=.panicking ({ v:=.iface 139 x,recovered:=true }::older)/\w'=w:=by
 refine callsD_of_wpS Tryz.func46 rfl fun c₀ cs hu=>?_;simp only[Tryz.ntmps46,List.size_toArray,List.length_cons,List.length_nil,Nat.reduceAdd,Nat.reduceSub,Array.replicate_succ,Array.replicate_zero,List.push_toArray,List.append_toArray,List.nil_append,List.cons_append];apply wpS_seq;apply wpS_region;simp[wpOpsS,go_sem,recoverD,hu,Exit.thenS];refine wpS_of_wp ?_
 go_wp2
 exact⟨rfl,_,rfl,rfl,rfl,rfl⟩
theorem bDa(x:Value)(w:World) :
  CallsD Tryz.prog 46 #[x] .returning w fun e u' w'=>e=.returned (.tuple #[])/\u'=.returning/\w'=w:=by
 refine callsD_of_wpS Tryz.func46 rfl fun c₀ cs hu=>?_;simp only[Tryz.ntmps46,List.size_toArray,List.length_cons,List.length_nil,Nat.reduceAdd,Nat.reduceSub,Array.replicate_succ,Array.replicate_zero,List.push_toArray,List.append_toArray,List.nil_append,List.cons_append];apply wpS_seq;apply wpS_region;simp[wpOpsS,go_sem,recoverD,hu,Exit.thenS];refine wpS_of_wp ?_
 go_wp2
 exact⟨rfl,.returning,by cases c₀;simp_all,.tuple #[],results_none rfl _ _ _,rfl,rfl,rfl⟩
end
def zi(g f:Nat):Value:=.func (.func f) #[.pointer (some ⟨g,0,none⟩)] #[]
def BN(g:Nat):List MapEntry:=[⟨.int .i64 1,zi g 48,0⟩,⟨.int .i64 2,zi g 49,1⟩,⟨.int .i64 3,zi g 50,2⟩,⟨.int .i64 4,zi g 51,3⟩,
 ⟨.int .i64 5,zi g 52,4⟩,⟨.int .i64 6,zi g 53,5⟩,⟨.int .i64 7,zi g 54,6⟩]
def tq(w:World)(g n:Nat):World:=w.alloc (.map ((BN g).take n).toArray n)
theorem xH{P:Program}{mt kt et:TypeId}(hu:P.underlying mt=some (.map kt et))(hk:P.underlying kt=some (.int .i64)){w:World}{r:Nat}{es:Array MapEntry}{c:Nat}{k:Int}{v:Value}(hb:w.heap[r]?=some (.map es c))(hne:Instr.findNow (.int .i64) (.int .i64 k) es.toList 0=some none) :
  (Instr.mapUpdate mt (.map (some r)) (.int .i64 k) v).run P w=.ok () { w with heap:=w.heap.setIfInBounds r (.map (es.push ⟨.int .i64 k,v,c⟩) (c+1)) }:=by
 have h1:(Instr.checkKey false 10000 kt (.int .i64 k)).run P w=.ok () w:=by
  show (Instr.checkKey false (9999+1) kt (.int .i64 k)).run P w=_;unfold Instr.checkKey;simp[run_underlying hk]
 have h2:=MapKept.run_findKey (w:=w) hk hne;unfold Instr.mapUpdate;simp[run_underlying hu,MapKept.run_getObj_map hb,h1,h2,MapKept.run_setObj_map _ hb]
theorem xR(w:World)(o o':Obj):({ w.alloc o with heap:=(w.alloc o).heap.setIfInBounds w.heap.size o' }:World)=w.alloc o':=by
 have h:(w.heap.push o).setIfInBounds w.heap.size o'=w.heap.push o':=by
  apply Array.ext';simp
 unfold World.alloc;dsimp only;rw[h]
theorem Js(w:World)(g:Nat):(Instr.makeMap 124 none).run Tryz.prog w=.ok (.map (some w.heap.size)) (tq w g 0):=rfl
theorem KA(w:World)(g:Nat):(Instr.mapUpdate 124 (.map (some w.heap.size)) (.int .i64 1) (zi g 48)).run Tryz.prog (tq w g 0)=.ok () (tq w g 1):=by
 refine (xH (es:=((BN g).take 0).toArray) (c:=0) Tryz.underlying124 Tryz.underlying3 (MapKept.heap_alloc w _).1 (by kernel_rfl)).trans ?_;unfold tq;rw[xR];rfl
theorem K_(w:World)(g:Nat):(Instr.mapUpdate 124 (.map (some w.heap.size)) (.int .i64 2) (zi g 49)).run Tryz.prog (tq w g 1)=.ok () (tq w g 2):=by
 refine (xH (es:=((BN g).take 1).toArray) (c:=1) Tryz.underlying124 Tryz.underlying3 (MapKept.heap_alloc w _).1 (by kernel_rfl)).trans ?_;unfold tq;rw[xR];rfl
theorem Jz(w:World)(g:Nat):(Instr.mapUpdate 124 (.map (some w.heap.size)) (.int .i64 3) (zi g 50)).run Tryz.prog (tq w g 2)=.ok () (tq w g 3):=by
 refine (xH (es:=((BN g).take 2).toArray) (c:=2) Tryz.underlying124 Tryz.underlying3 (MapKept.heap_alloc w _).1 (by kernel_rfl)).trans ?_;unfold tq;rw[xR];rfl
theorem Jy(w:World)(g:Nat):(Instr.mapUpdate 124 (.map (some w.heap.size)) (.int .i64 4) (zi g 51)).run Tryz.prog (tq w g 3)=.ok () (tq w g 4):=by
 refine (xH (es:=((BN g).take 3).toArray) (c:=3) Tryz.underlying124 Tryz.underlying3 (MapKept.heap_alloc w _).1 (by kernel_rfl)).trans ?_;unfold tq;rw[xR];rfl
theorem Jw(w:World)(g:Nat):(Instr.mapUpdate 124 (.map (some w.heap.size)) (.int .i64 5) (zi g 52)).run Tryz.prog (tq w g 4)=.ok () (tq w g 5):=by
 refine (xH (es:=((BN g).take 4).toArray) (c:=4) Tryz.underlying124 Tryz.underlying3 (MapKept.heap_alloc w _).1 (by kernel_rfl)).trans ?_;unfold tq;rw[xR];rfl
theorem Jv(w:World)(g:Nat):(Instr.mapUpdate 124 (.map (some w.heap.size)) (.int .i64 6) (zi g 53)).run Tryz.prog (tq w g 5)=.ok () (tq w g 6):=by
 refine (xH (es:=((BN g).take 5).toArray) (c:=5) Tryz.underlying124 Tryz.underlying3 (MapKept.heap_alloc w _).1 (by kernel_rfl)).trans ?_;unfold tq;rw[xR];rfl
theorem Ju(w:World)(g:Nat):(Instr.mapUpdate 124 (.map (some w.heap.size)) (.int .i64 7) (zi g 54)).run Tryz.prog (tq w g 6)=.ok () (tq w g 7):=by
 refine (xH (es:=((BN g).take 6).toArray) (c:=6) Tryz.underlying124 Tryz.underlying3 (MapKept.heap_alloc w _).1 (by kernel_rfl)).trans ?_;unfold tq;rw[xR];rfl
def UQ(k:Int):Nat:=if k=1 then 48 else if k=2 then 49 else if k=3 then 50 else if k=4 then 51 else
 if k=5 then 52 else if k=6 then 53 else 54
theorem Jt{w:World}{r g:Nat}(hb:w.heap[r]?=some (.map (BN g).toArray 7)){k:Int}(hk:1<=k/\k<=7):(Instr.lookup 124 (.map (some r)) (.int .i64 k) false).run Tryz.prog w=.ok (zi g (UQ k)) w:=by
 have h1:∀ e,(Instr.checkKey e 10000 3 (.int .i64 k)).run Tryz.prog w=.ok () w:=fun e=>by
  show (Instr.checkKey e (9999+1) 3 (.int .i64 k)).run Tryz.prog w=_;unfold Instr.checkKey;simp[run_underlying Tryz.underlying3]
 have hf:∃ i,Instr.findNow (.int .i64) (.int .i64 k) (BN g) 0=some (some (i,zi g (UQ k))):=by
  have hc:k=1\/k=2\/k=3\/k=4\/k=5\/k=6\/k=7:=by omega
  rcases hc with rfl|rfl|rfl|rfl|rfl|rfl|rfl
  ·exact⟨0,by kernel_rfl⟩
  ·exact⟨1,by kernel_rfl⟩
  ·exact⟨2,by kernel_rfl⟩
  ·exact⟨3,by kernel_rfl⟩
  ·exact⟨4,by kernel_rfl⟩
  ·exact⟨5,by kernel_rfl⟩
  ·exact⟨6,by kernel_rfl⟩
 obtain⟨i,hf⟩:=hf;have h2:=MapKept.run_findKey (P:=Tryz.prog) (w:=w) Tryz.underlying3 hf;unfold Instr.lookup;simp[run_underlying Tryz.underlying124,MapKept.run_getObj_map hb,h1,h2]
namespace Pv
def nT(m:jl)(n:Nat):ah jk:=if m.kind=1 then aBf m n else if m.kind=2 then Ol m n else if m.kind=3 then Xc m n else if m.kind=4 then Zr m n else if m.kind=5 then Zg m n else if m.kind=6 then aAk m n else qU m n
def jD(m:jl):ah jk:=(kM m).bind fun _=>(ah.ig 3 16).bind fun n=>nT m n
def cO(m:jl):ah jk:=ah.catch mZ (jD m)
theorem aVz{T:TypeId}{O:List Acc->Option je}(h:OB O):OB (kE T O):=by
 intro l r hr;unfold kE at hr
 split at hr
 ·cases hr;exact (by decide:(0:Nat)<=1000000)
 ·split at hr
  ·cases hr
  ·exact h l r hr
def F5(D:Dv):Prop:=∀ l X w chain,D.pan l X w chain->∃ T x older,chain={ v:=.iface T x,recovered:=false }::older/\Xf older/\(T=U5\/T=aEZ)/\D.pan l X w ({ v:=.iface T x,recovered:=false }::{ v:=.iface T x,recovered:=true }::older)
def aUd(m:jl)(D:Dv)(X0:Nat->Prop)(e:Ending)(w':World):Prop:=
 (
  qp (go D.O (cO m) []).1/\e=.returned (.agg (jw (go D.O (cO m) []).1))/\D.inv (go D.O (cO m) []).2 X0 w') \/
  ∃ chain l,e=.panicked chain/\l <+: (go D.O (cO m) []).2/\D.O l=none/\D.pan l X0 w' chain
theorem aBr(tmps:Array Value)(w:World)(g:Nat)(oc:Array Value)(ho:oc.size=55)(h3:tmps.getD 3 undef=.pointer (some ⟨g,0,none⟩))(hB:au w g 40 oc):(results Tryz.f45 tmps).run Tryz.prog w=.ok (.agg oc) w:=by
 have b0:=iV hB iZ ho;simp only[Array.getD_eq_getD_getElem?] at h3;simp[results,Tryz.results45,h3,asAddr,b0]
def U2(g3:Nat):List Deferred:=[{ target:=.fn (.func 46) #[.pointer (some ⟨g3,0,none⟩)],args:=#[] }]
theorem xP{m:jl}{D:Dv}{X0 X:Nat->Prop}{S:Nat->Prop}{w0 w:World}{chain:List PanicEntry}{l:List Acc}{tmps:Array Value}{g3:Nat}{y:Array Value}(hRe:F5 D)(Ac:∀ l X Y w w' chain,D.pan l X w chain->dm X w w'->(∀ b,Y b->X b)->D.pan l Y w' chain)
  (hX:∀ b,X0 b->X b) (hX3:X g3) (hg3:w0.heap.size<=g3) (hp:(iC ny D).pan l X w chain) (hl:l <+: (go (kE ny D.O) (jD m) []).2) (hO:kE ny D.O l=none) (hB:au w g3 40 y) (hy:y.size=55) (ht:tmps.getD 3 undef=.pointer (some ⟨g3,0,none⟩)) (hc:dm S w0 w) :
  Leaves Tryz.prog Tryz.f45 tmps (fun e w'=>dm S w0 w'/\aUd m D X0 e w') (U2 g3) (.panicking chain) w:=by
 rcases hp with⟨hp,hN,hne⟩|⟨l0,e,rfl,hN,hi,rfl⟩
 ·obtain⟨T,x,older,rfl,hno,hT,hp2⟩:=hRe _ _ _ _ hp
  have hend:∀ w',w'=w->Leaves Tryz.prog Tryz.f45 tmps (fun e w'=>dm S w0 w'/\aUd m D X0 e w') [] (raised (.panicking ({ v:=.iface T x,recovered:=true }::older)) [{ v:=.iface T x,recovered:=false }]) w':=by
   rintro w' rfl
   exact⟨hc,.inr ⟨_,l,rfl,aQm _ _ _ _ _ _ (List.nil_prefix) hN hl,by rw[<-aZg ny D.O hN hne];exact hO,Ac _ _ _ _ _ _ hp2 (dm.refl _ _) hX⟩⟩
  rcases hT with rfl|rfl
  ·refine leaves_cons (f:=46) (args:=#[.pointer (some ⟨g3,0,none⟩)]) (by simp) (by simp[go_sem]) ?_;refine (bCz _ _ _ _).mono ?_;rintro e u' w' ⟨rfl,rfl,h⟩;exact hend w' h
  ·refine leaves_cons (f:=46) (args:=#[.pointer (some ⟨g3,0,none⟩)]) (by simp) (by simp[go_sem]) ?_;refine (JD _ _ _ _).mono ?_;rintro e u' w' ⟨rfl,rfl,h⟩;exact hend w' h
 ·refine leaves_cons (f:=46) (args:=#[.pointer (some ⟨g3,0,none⟩)]) (by simp) (by simp[go_sem]) ?_;refine (bDb g3 y e [] w hy hB).mono ?_;rintro en u' w' ⟨rfl,rfl,h1,h2⟩;have hst:settle (.panicking ({ v:=.iface ny (.agg #[.int .i64 e]),recovered:=true }::[]))=.returning:=aAh (fun _ h=>by cases h);show Leaves _ _ _ _ _ (settle (.panicking ({ v:=.iface ny (.agg #[.int .i64 e]),recovered:=true }::[]))) _;rw[hst];have hgo:=bHi mZ ny D.O (jD m) [] l0 e List.nil_prefix hN hl
  refine⟨_,aBr tmps w' g3 _ (dS (aAz e)) ht h2,hc.trans' h1 (fun _ _ h=>h) (fun i hi e=>by omega),.inl ?_⟩
  unfold cO;rw[hgo]
  exact⟨aAz e,rfl,D.grow _ _ _ _ _ hi (h1.mono fun i _ e=>e ▸ hX3) (fun b hb=>.inl (hX b hb))⟩
def ah.lh{α:Type}:ah α->Prop
 |.ret _=>True
 |.ask a k=>a.kind = -1\/(yJ a/\∀ r,ah.lh (k r))
def ah.qy{α:Type}(R:α->Prop):ah α->Prop
 |.ret a=>R a
 |.ask a k=>a.kind = -1\/∀ r,ah.qy R (k r)
theorem lh.bind{α β:Type}{R:α->Prop}{p:ah α}{f:α->ah β}(h:ah.lh p)(ha:ah.qy R p)(hf:∀ a,R a->ah.lh (f a)):ah.lh (p.bind f):=by
 induction p with
 |ret a=>exact hf a ha
 | ask a k ih=>
  rcases h with h|⟨h1,h2⟩
  ·exact .inl h
  ·rcases ha with ha|ha
   ·exact .inl ha
   ·exact .inr ⟨h1,fun r=>ih r (h2 r) (ha r)⟩
theorem qy.bind{α β:Type}{R:α->Prop}{S:β->Prop}{p:ah α}{f:α->ah β}(ha:ah.qy R p)(hf:∀ a,R a->ah.qy S (f a)):ah.qy S (p.bind f):=by
 induction p with
 |ret a=>exact hf a ha
 |ask a k ih=>exact ha.imp id fun h r=>ih r (h r)
theorem qy.of{α:Type}{R:α->Prop}{p:ah α}(h:ah.All R p):ah.qy R p:=by
 induction p with
 |ret a=>exact h
 |ask a k ih=>exact .inr fun r=>ih r (h r)
theorem qy.yx{α:Type}(p:ah α):ah.qy (fun _=>True) p:=qy.of (ah.All.yx p)
theorem lh.bind'{α β:Type}{p:ah α}{f:α->ah β}(h:ah.lh p)(hf:∀ a,ah.lh (f a)):ah.lh (p.bind f):=lh.bind h (qy.yx p) fun a _=>hf a
theorem iH(b:Bool)(e:Int):ah.lh (gZ b e):=by
 cases b
 ·exact .inl rfl
 ·trivial
theorem uX(b:Bool)(e:Int):ah.qy (fun _=>b=true) (gZ b e):=by
 cases b
 ·exact .inl rfl
 ·exact rfl
theorem bHh{α:Type}(k:Int->α){p:ah α}(h:ah.lh p):ah.Xq (ah.catch k p):=by
 induction p with
 |ret a=>trivial
 | ask a g ih=>
  by_cases ha:a.kind = -1
  ·have e:ah.catch k (.ask a g)=.ret (k a.ay):=by
    conv=>lhs;unfold ah.catch
    rw[decide_eq_true ha]
   rw[e];trivial
  ·rw[nV k g ha];rcases h with h|⟨h1,h2⟩
   ·exact absurd h ha
   ·exact⟨h1,fun r=>ih r (h2 r)⟩
theorem aNf{α:Type}(k:Int->α){p:ah α}:∀ {n:Nat},p.Within n->(ah.catch k p).Within n:=by
 induction p with
 |ret a=>intro n _;cases n<;>trivial
 | ask a g ih=>
  intro n h
  cases n with
  |zero=>exact h.elim
  | succ n=>
   by_cases ha:a.kind = -1
   ·have e:ah.catch k (.ask a g)=.ret (k a.ay):=by
     conv=>lhs;unfold ah.catch
     rw[decide_eq_true ha]
    rw[e];trivial
   ·rw[nV k g ha];exact fun r=>ih r (h r)
theorem fF{α:Type}(a:α)(n:Nat):(ah.ret a).Within n:=by cases n<;>trivial
theorem bAv(s:Int):(ah.rd s).Within 1:=fun _=>trivial
theorem aDo(s:Int)(b:ByteArray):(ah.wr s b).Within 1:=fun _=>trivial
theorem dW(b:Bool)(e:Int):(gZ b e).Within 1:=by
 cases b
 ·exact fun _=>trivial
 ·trivial
theorem aLt{bk:Int}(hb:bk=2\/bk=3){b:Nat}(k:Nat)(hk:3*b+k<48):ah.lh (ah.Dp bk (3*(b:Int)+k)):=.inr ⟨.inl ⟨.inl rfl,hb,⟨by show (0:Int)<=3*(b:Int)+k;omega,by show 3*(b:Int)+k<48;omega⟩,rfl⟩,fun _=>trivial⟩
theorem aEo{bk:Int}(hb:bk=2\/bk=3){b:Nat}(k:Nat)(hk:3*b+k<48):ah.lh (ah.BH bk (3*(b:Int)+k)):=.inr ⟨.inl ⟨.inr rfl,hb,⟨by show (0:Int)<=3*(b:Int)+k;omega,by show 3*(b:Int)+k<48;omega⟩,rfl⟩,fun _=>trivial⟩
theorem aVd {bk:Int} (hb:bk=2\/bk=3){b:Nat}(h:3*b+2<48):ah.lh (ah.read bk b):=lh.bind' (aLt hb 0 (by omega)) fun _=>lh.bind' (aLt hb 1 (by omega)) fun _=>lh.bind' (aLt hb 2 (by omega)) fun _=>trivial
theorem aIg {bk:Int} (hb:bk=2\/bk=3){b:Nat}(h:3*b+2<48):ah.lh (ah.rq bk b):=lh.bind' (aEo hb 0 (by omega)) fun _=>lh.bind' (aEo hb 1 (by omega)) fun _=>lh.bind' (aEo hb 2 (by omega)) fun _=>trivial
theorem Gq {bk:Int} (hb:bk=2\/bk=3):∀ (f b:Nat),b+f<=16->ah.lh (ah.up bk f b)
 |0,_,_=>trivial
 |f+1,b,h=>lh.bind' (aVd hb (by omega)) fun x=>by
  cases x with
  |true=>exact Gq hb f (b+1) (by omega)
  |false=>trivial
theorem aWg {bk:Int} (hb:bk=2\/bk=3):∀ (r b:Nat),b+r<=16->ah.lh (ah.down bk r b)
 |0,_,_=>trivial
 |r+1,b,h=>lh.bind' (aIg hb (by omega)) fun _=>aWg hb r (b+1) (by omega)
theorem xU {bk:Int} (hb:bk=2\/bk=3):ah.lh (ah.ig bk 16):=lh.bind (Gq hb 16 0 (by omega)) (qy.of (EW bk 16 0)) fun m h=>lh.bind' (aWg hb m 0 (by omega)) fun _=>trivial
theorem yZ {bk:Int} (hb:bk=2\/bk=3):∀ (f b:Nat),b+f<=16->ah.lh (ah.qw bk f b)
 |0,_,_=>trivial
 |f+1,b,h=>lh.bind' (aIg hb (by omega)) fun _=>lh.bind' (aVd hb (by omega)) fun x=>by
  cases x with
  |true=>exact yZ hb f (b+1) (by omega)
  |false=>trivial
theorem aSg {bk:Int} (hb:bk=2\/bk=3)(t:Nat)(h:t<=16):ah.lh (ah.jh bk 16 t):=lh.bind (xU hb) (qy.of (aFf bk 16)) fun m hm=>by
 by_cases hmt:m<=t
 ·exact yZ hb _ _ (by omega)
 ·rw[show t-m=0 from by omega];trivial
theorem aIf {bk:Int} (hb:bk=2\/bk=3)(t:Nat)(h:t<=16):ah.lh (jP bk t):=lh.bind' (aSg hb t h) fun _=>lh.bind' (iH _ _) fun _=>trivial
theorem yY(bk:Int)(t:Nat)(h:t<=17):(jP bk t).Within 199:=
 Within.mono (Within.bind (aGx bk 16 t) fun _=>Within.bind (m:=0) (dW _ _) fun _=>fF _ _) (by omega)
theorem aEw(f:Nat)(h:f<16):ah.lh (pW f):=lh.bind' (aIf (.inr rfl) (f+1) (by omega)) fun _=>lh.bind' (iH _ _) fun _=>trivial
theorem uY(f:Nat)(h:f<=16):(pW f).Within 200:=Within.bind (yY 3 (f+1) (by omega)) fun _=>Within.bind (m:=0) (dW _ _) fun _=>fF _ _
theorem zX:dP 3 0=48:=by decide
theorem MJ:dP 3 1=56:=by decide
theorem aDy{f:Int}(h0:0<=f/\f+7<64):∀ (n:Nat) (b:List UInt8),n<=8->ah.lh (ah.uf f n b)
 |0,_,_=>trivial
 |n+1,b,h=>lh.bind' (.inr ⟨.inr ⟨.inl ⟨rfl,rfl⟩,rfl,by show (0:Int)<=f+((7-n:Nat):Int);omega,by show f+((7-n:Nat):Int)<64;omega⟩,fun _=>trivial⟩) fun s=>aDy h0 n _ (by omega)
theorem uJ(f:Int):∀ (n:Nat) (b:List UInt8),(ah.uf f n b).Within n
 |0,_=>trivial
 |n+1,b=>by
  refine Within.mono ?_ (Nat.le_of_eq (Nat.add_comm 1 n));exact Within.bind (bAv _) fun s=>uJ f n _
theorem bGz:ah.lh (ah.cur 3):=lh.bind' (aDy (by rw[zX];omega) 8 [] (Nat.le_refl _)) fun _=>lh.bind' (aDy (by rw[MJ];omega) 8 [] (Nat.le_refl _)) fun _=>trivial
theorem aJi:(ah.cur 3).Within 16:=Within.bind (m:=8) (uJ _ 8 []) fun _=>Within.bind (m:=0) (uJ _ 8 []) fun _=>fF _ _
theorem Ko:ah.lh (ah.load 3):=by
 unfold ah.load;rw[if_neg (by rw[zX];omega)];exact lh.bind' bGz fun _=>trivial
theorem aSu:(ah.load 3).Within 16:=by
 unfold ah.load;rw[if_neg (by rw[zX];omega)];exact Within.bind (m:=0) aJi fun _=>fF _ _
theorem eQ(b:List UInt8)(k:Nat):(jm b k).length=256:=by
 unfold jm;rw[List.length_append,List.length_replicate,List.length_take];omega
theorem bAq{s:Int}{b:ByteArray}(h0:0<=s/\s<64)(hb:b.size=256):ah.lh (ah.wr s b):=.inr ⟨.inr ⟨.inr ⟨rfl,hb⟩,rfl,h0⟩,fun _=>trivial⟩
theorem bAn{f:Int}(h0:0<=f/\f+7<64)(b:List UInt8):∀ (n i:Nat),i+n<=8->ah.lh (ah.Gf f b n i)
 |0,_,_=>trivial
 |n+1,i,h=>lh.bind' (bAq ⟨by omega,by omega⟩ (by rw[bW,eQ])) fun _=>bAn h0 b n (i+1) (by omega)
theorem aHn(f:Int)(b:List UInt8):∀ (n i:Nat),(ah.Gf f b n i).Within n
 |0,_=>trivial
 |n+1,i=>by
  refine Within.mono ?_ (Nat.le_of_eq (Nat.add_comm 1 n));exact Within.bind (aDo _ _) fun _=>aHn f b n (i+1)
theorem bDq{b:List UInt8}(h:b.length<=2040):nsec b<=8:=by unfold nsec;omega
theorem bGj(rec seq:Int){c:List UInt8}(h:c.length<=2000):(encS rec seq c).length<=2040:=by
 have h1:=aY seq;have h2:=aY (c.length:Int);rw[nC,pR];omega
theorem bAp{f:Int}(h0:0<=f/\f+7<64){b:List UInt8}(hb:b.length<=2040):ah.lh (ah.write f b):=
 lh.bind' (bAq ⟨by omega,by omega⟩ (by rw[bW];exact List.length_replicate)) fun _=>lh.bind' (bAn h0 b _ _ (by have:=bDq hb;omega)) fun _=>bAq ⟨by omega,by omega⟩ (by rw[bW,eQ])
theorem aMw{f:Int}{b:List UInt8}(hb:b.length<=2040):(ah.write f b).Within 9:=
 Within.bind (m:=8) (aDo _ _) fun _=>Within.mono (Within.bind (m:=1) (aHn f b _ _) fun _=>aDo _ _) (by have:=bDq hb;omega)
theorem MI{k:Nat}(h:k<=1):0<=dP 3 (1-(k:Int))/\dP 3 (1-(k:Int))+7<64:=by
 have:k=0\/k=1:=by omega
 rcases this with rfl|rfl<;>decide
theorem NY:ah.All (fun p:(Int×List UInt8)×Nat=>p.2<=1) (ah.cur 3):=by
 unfold ah.cur;refine ah.All.bind (R:=fun _=>True) (ah.All.yx _) (fun a _=>?_);refine ah.All.bind (R:=fun _=>True) (ah.All.yx _) (fun b _=>?_);show (ui (oh 3 a) (oh 3 b)).2<=1;unfold ui
 split<;>omega
theorem IK(c:ByteArray):ah.lh (ah.save 3 c):=by
 unfold ah.save;rw[if_neg (by rw[zX];omega)]
 split
 ·trivial
 ·rename_i hc;refine lh.bind bGz (qy.of NY) fun p hp=>?_
  split
  ·trivial
  ·exact lh.bind' (bAp (MI hp) (bGj _ _ (by rw[Array.length_toList];exact Nat.le_of_not_lt hc))) fun _=>trivial
theorem aRq(c:ByteArray):(ah.save 3 c).Within 25:=by
 unfold ah.save;rw[if_neg (by rw[zX];omega)]
 split
 ·trivial
 ·rename_i hc;refine Within.bind (m:=9) aJi fun p=>?_
  split
  ·trivial
  ·exact Within.bind (m:=0) (aMw (bGj _ _ (by rw[Array.length_toList];exact Nat.le_of_not_lt hc))) fun _=>fF _ _
theorem aTk{root:List UInt8}{s:ByteArray}(h:(Oj root s).2=true):0<=(Oj root s).1.level/\(Oj root s).1.level<=16:=by
 unfold Oj at h ⊢
 cases hR:zK root s.data.toList with
 |EH=>rw[hR] at h;cases h
 |FZ=>rw[hR] at h;cases h
 | okR p=>
  rw[hR] at h;unfold UB at h ⊢;dsimp only at h ⊢;unfold mgT at h ⊢
  split at h
  ·cases h
  ·rename_i h2;rw[if_neg h2];unfold mgU at h ⊢;have:=of_decide_eq_true h
   exact⟨this.2.2.2.1,this.2.2.2.2.1⟩
def aHJ(r:kw):Prop:=0<=r.level/\r.level<=16
theorem aLr(m:jl):ah.lh (qj m):=lh.bind' Ko fun _=>lh.bind' (iH _ _) fun _=>lh.bind' (iH _ _) fun _=>trivial
theorem bFi(m:jl):ah.qy aHJ (qj m):=qy.bind (qy.yx _) fun _ _=>qy.bind (qy.yx _) fun _ _=>qy.bind (uX _ _) fun _ h=>aTk h
theorem yA(m:jl):(qj m).Within 18:=Within.bind (m:=2) aSu fun _=>Within.bind (m:=1) (dW _ _) fun _=>Within.bind (m:=0) (dW _ _) fun _=>fF _ _
theorem aKt(m:jl)(r:kw):ah.lh (y_ m r):=lh.bind' (IK _) fun _=>lh.bind' (iH _ _) fun _=>trivial
theorem xO(m:jl)(r:kw):(y_ m r).Within 26:=Within.bind (m:=1) (aRq _) fun _=>Within.bind (m:=0) (dW _ _) fun _=>fF _ _
theorem aEk(f:Nat):ah.lh (pF f):=lh.bind' (iH _ _) fun _=>lh.bind' (iH _ _) fun _=>trivial
theorem aIe(f:Nat):ah.qy (fun _=>f<16) (pF f):=qy.bind (qy.yx _) fun _ _=>qy.bind (uX _ _) fun _ h=>by have:=of_decide_eq_true h;show f<16;omega
theorem uQ(f:Nat):(pF f).Within 2:=Within.bind (m:=1) (dW _ _) fun _=>Within.bind (m:=0) (dW _ _) fun _=>fF _ _
theorem aGm(m:jl){f:Nat}(hf:f<16)(p:ByteArray):ah.lh (lX m f p):=lh.bind' (aKt _ _) fun _=>lh.bind' (aEw f hf) fun _=>trivial
theorem xA(m:jl){f:Nat}(hf:f<=16)(p:ByteArray):(lX m f p).Within 226:=Within.bind (m:=200) (xO _ _) fun _=>Within.bind (m:=0) (uY f hf) fun _=>fF _ _
theorem bEu(m:jl){f:Nat}(hf:f<=16):ah.lh (nT m f):=by
 unfold nT
 split
 ·exact lh.bind (aEk f) (aIe f) fun _ h=>lh.bind' (aGm m h _) fun _=>trivial
 split
 ·refine lh.bind (aLr m) (bFi m) fun r hr=>lh.bind (iH _ _) (uX _ _) fun _ h=>lh.bind' ?_ fun _=>?_
  ·cases h2:(((f % 2:Nat):Int)==0) with
   |false=>trivial
   | true=>
    refine aEw f ?_
    have h3:((f % 2:Nat):Int)=0:=by simpa using h2
    have h4:r.level=((f+1-f % 2:Nat):Int):=by
     cases h5:(r.kind==1) with
     |false=>rw[h5] at h;cases h
     |true=>rw[h5] at h;simpa using h
    have:=hr.2;omega
  ·exact lh.bind' (xU (.inl rfl)) fun n=>lh.bind (iH _ _) (uX _ _) fun _ h=>lh.bind' (aIf (.inl rfl) (n+1) (by have:=of_decide_eq_true h;omega)) fun _=>trivial
 split
 ·exact lh.bind' (iH _ _) fun _=>lh.bind' (aKt _ _) fun _=>trivial
 split
 ·exact lh.bind' (aEk f) fun _=>trivial
 split
 ·refine lh.bind (iH _ _) (uX _ _) fun _ h=>lh.bind' (aLr m) fun _=>lh.bind' (iH _ _) fun _=>lh.bind' (aEw f ?_) fun _=>lh.bind' (aKt _ _) fun _=>trivial
  have h3:((f % 2:Nat):Int)=1:=by simpa using h
  omega
 split
 ·exact lh.bind' (iH _ _) fun _=>lh.bind' (aLr m) fun _=>lh.bind' (iH _ _) fun _=>trivial
 ·exact lh.bind (aEk f) (aIe f) fun _ h=>lh.bind' (iH _ _) fun _=>lh.bind' (iH _ _) fun _=>lh.bind' (iH _ _) fun _=>lh.bind' (aGm m h _) fun _=>trivial
theorem aPd(m:jl){f:Nat}(hf:f<=16):(nT m f).Within 700:=by
 unfold nT
 split
 ·exact Within.mono (Within.bind (m:=226) (uQ f) fun _=>Within.bind (m:=0) (xA m hf _) fun _=>fF _ _) (by omega)
 split
 ·refine Within.mono (Within.bind (m:=1+(200+296)) (yA m) fun r=>Within.bind (m:=200+296) (dW _ _) fun _=>Within.bind (m:=296) ?_ fun _=>?_) (by omega)
  ·cases (((f % 2:Nat):Int)==0) with
   |false=>trivial
   |true=>exact uY f hf
  ·exact Within.Nz (m:=200) (qJ 2 16) (aFg 2 16) fun n hn=>Within.bind (m:=199) (dW _ _) fun _=>Within.bind (m:=0) (yY 2 (n+1) (by omega)) fun _=>fF _ _
 split
 ·exact Within.mono (Within.bind (m:=26) (dW _ _) fun _=>Within.bind (m:=0) (xO _ _) fun _=>fF _ _) (by omega)
 split
 ·exact Within.mono (Within.bind (m:=0) (uQ f) fun _=>fF _ _) (by omega)
 split
 ·exact Within.mono (Within.bind (m:=18+(1+(200+26))) (dW _ _) fun _=>Within.bind (m:=1+(200+26)) (yA m) fun _=>Within.bind (m:=200+26) (dW _ _) fun _=>Within.bind (m:=26) (uY f hf) fun _=>Within.bind (m:=0) (xO _ _) fun _=>fF _ _) (by omega)
 split
 ·exact Within.mono (Within.bind (m:=19) (dW _ _) fun _=>Within.bind (m:=1) (yA m) fun _=>Within.bind (m:=0) (dW _ _) fun _=>fF _ _) (by omega)
 ·exact Within.mono (Within.bind (m:=229) (uQ f) fun _=>Within.bind (m:=228) (dW _ _) fun _=>Within.bind (m:=227) (dW _ _) fun _=>Within.bind (m:=226) (dW _ _) fun _=>Within.bind (m:=0) (xA m hf _) fun _=>fF _ _) (by omega)
theorem bAa(m:jl):ah.lh (kM m):=by
 refine lh.bind' (iH _ _) fun _=>lh.bind' ?_ fun _=>trivial;unfold vO
 repeat' split
 all_goals first
  |exact iH _ _
  |trivial
theorem aMh(m:jl):(kM m).Within 2:=by
 refine Within.bind (m:=1) (dW _ _) fun _=>Within.bind (n:=1) (m:=0) ?_ fun _=>fF _ _;unfold vO
 repeat' split
 all_goals first
  |exact dW _ _
  |trivial
theorem aKu(m:jl):ah.Xq (cO m):=bHh _ (lh.bind' (bAa m) fun _=>lh.bind (xU (.inr rfl)) (qy.of (aFg 3 16)) fun _ hn=>bEu m hn)
theorem aOi(m:jl):(cO m).Within 900:=aNf _ (Within.mono (Within.bind (m:=96+700) (aMh m) fun _=>Within.Nz (m:=700) (qJ 3 16) (aFg 3 16) fun n hn=>aPd m hn) (by omega))
section
variable {P:Program} {I:World->Prop}
def aLu(g:List PV->Option (Prop×PV)):Spec:=fun _ xs=>match xs with
 | [v0,.w (.one (.ow x ai n off len))]=>.obj x fun gd vr ob=>jE gd (match Nat.beq ai vr,Nat.blt x dx,ob with
  |true,true,.arr _ m tot f=>(match Nat.beq n m,sN v0,g [v0,dn (.sl n len (fun i=>f (off+i)))] with
   |true,true,some (p,r)=>.need ((off+len<=tot/\∀ i,i<len->(f (off+i)).all (dG false)=true)/\p) (.upd x (ai+1) .dead (.ret r))
   |_,_,_=>.fail)
  |_,_,_=>.fail)
 |_=>.fail
theorem aZc {f:Nat} {g:List PV->Option (Prop×PV)} (hent:∀ args w,(callFunc f args).run P w=.ok (.enter f args) w) (hg:∀ xs p r,g xs=some (p,r)->p->gQ P I f false xs r):aj P I f (aLu g):=by
 refine⟨hent,fun A s a w env nm uq vs F h hI hv hk=>?_⟩
 unfold aLu at hk
 split at hk
 ·rename_i v0 x ai n off len;obtain⟨gd,vr,ob,hfo,hk⟩:=hk;have hk2:=dU hk;clear hk;obtain⟨hgt,hk⟩:=hk2;obtain⟨hd,hev,hob⟩:=jQ h hfo hgt
  cases hb:Nat.beq ai vr<;>cases hb1:Nat.blt x dx<;>cases ob<;>simp only[hb,hb1] at hk<;>try exact hk.elim
  rename_i e m tot f'
  obtain rfl:=gy hb
  cases hb4:Nat.beq n m<;>cases hb5:sN v0<;>cases hq:g [v0,dn (.sl n len (fun i=>f' (off+i)))]<;>simp only[hb4,hb5,hq] at hk<;>try exact hk.elim
  rename_i q;obtain⟨p,r⟩:=q
  obtain rfl:=gy hb4
  obtain⟨⟨⟨hle,vk⟩,hp⟩,_,hF⟩:=hk
  match vs,hv with
  | [x0, x1],⟨k0,k1,_⟩=>
   cases k1 with
   | w k1 => cases k1 with
    | one k1=>cases k1 with
     | ow h1 hat=>
      obtain⟨A0,n0,c0,rfl,hle0,rfl⟩:=hat.now hev;obtain⟨xs,hown,hel⟩:=hob;have hrd:=Reads.vg hown
      have hn0:n0=tot:=by
       obtain⟨_,A1,c1,e1,_⟩:=hrd
       cases e1;rfl
      subst hn0;obtain⟨h',hL⟩:=h.upd (w':=w) x none (ai+1) (.bool false) .dead (dm.refl _ _) (fun uh hd' he=>by rw[hev] at he;cases he;exact .inl (Nat.lt_succ_self _)) (fun b hb=>by cases hb) (fun _ _=>trivial)
      have hargs:mg { w:=w,ok:=(aU A w (vz env x (ai+1) (.bool false))).ok,env:=fun _=>none } [v0,dn (.sl n len (fun i=>f' (off+i)))] [x0,.slice (A0.map (·.add (off*n))) len (c0-off)]:=by
       refine⟨(aWo k0 hb5).le ⟨Nat.le_refl _,fun b hb hok=>⟨(hL.blk b hb hok).1,rfl⟩,fun _ _ _ h=>by cases h⟩,.w (.one (.sl (vs:=(xs.drop (off*n)).take (len*n)) (mP hle hrd) (fun b hb hlt=>?_) (fun i hi=>?_))),trivial⟩
       ·have hbl:hblk (.slice A0 n0 c0)=some b:=by
         cases A0 with
         |none=>simp[Value.ownBlock] at hb
         |some ad=>
          simp only[Option.map_some,Value.ownBlock,Option.some.injEq,qH] at hb;simp[hblk,hb]
        obtain⟨j1,j2⟩:=h.live x ai _ b hev hbl
        refine⟨⟨.inr (j2.resolve_right (fun hs=>?_)),fun y vy hy he hyb=>?_⟩,j1⟩
        ·have:=Nat.le_of_ble_eq_true hs.2;have:=Nat.le_of_ble_eq_true hb1;omega
        ·have he':vz env x (ai+1) (.bool false) y=some (vy,hy):=he
         by_cases hyx:y=x
         ·subst hyx;rw[iE] at he'
          cases he'
          cases hyb
         ·rw[jU hyx] at he';exact hyx (h.inj y x vy hy ai _ b he' hev hyb hbl)
       ·rw[jL xs hi];exact (jF (hel _ (by omega)) (vk i hi)).le ⟨Nat.le_refl _,fun b hb hok=>⟨(hL.blk b hb hok).1,rfl⟩,fun _ _ _ h=>by cases h⟩
      refine (hg _ p r hq hp w _ _ (hI.mem w h.gu) hargs).mono ?_;rintro e w' ⟨val,rfl,hE,hr⟩;exact .inl ⟨r,[(x,none,ai+1,.dead)],val,_,rfl,hF,h'.ext hE,hr.le (bCo (new:=false) h' hE)⟩
 ·exact hk.elim
end
theorem Vr:lm Tryz.prog a_ (find ([]:List (Nat×Spec))):=⟨bV (fun p hp=>by cases hp),fK⟩
def DV:List UInt8:=List.replicate 256 0
def CG:Fl:=List.replicate 128 (strOf DV)
theorem GX(n:Nat):rowB n (fun _=>[PC.lit (.int .u8 0)])=List.replicate n 0:=by
 unfold rowB;rw[List.eq_replicate_iff]
 refine⟨by simp,fun b hb=>?_⟩
 obtain⟨_,_,rfl⟩:=List.mem_map.1 hb;rfl
def VT:Nat->List PC:=fun _=>[.lit (.string (strOf DV))]
def U7(k:Nat):St:=⟨[(0,none,iy 128),(2,none,dn (.pt 0 0 0)),(4,none,dn (.pt 3001 0 0)),(5,none,iy k)],[(0,none,0,.box 63 [.lit (.slice none 0 0)]),(3001,none,0,.box 63 [.ow 7005 0 1 0 k]),(7005,none,0,.arr 9 1 k VT)]⟩
theorem Jk:gQ Tryz.prog a_ 64 true [iy 128] (.lw [.agg (Ws CG),.one (.lit (.int .i64 0))]):=by
 have M:=Vr
 have hb1:Tryz.prog.types[9].bytes=16:=by kernel_rfl
 have hb2:Tryz.prog.types[5].bytes=1:=by kernel_rfl
 have hs1:Tryz.prog.types[9].size=1:=by kernel_rfl
 refine bM Tryz.func64 rfl rfl bU (fun A hS hn hI=>?_);refine aB M hI hn (by rfl) (by kernel_rfl) ?_ ?_
 ·simp
 refine aP ?_;refine aB M hI hn (by rfl) (by kernel_rfl) ?_ ?_
 ·simp
 refine aH (by rfl) (fun hc=>?_) (fun hc=>?_)
 ·cases hc
 ·refine aO ?_;change ja _ _ _ _ _;refine aB M hI hn (by rfl) (by kernel_rfl) ?_ ?_
  ·simp
  refine aP ?_;refine aB M hI hn (by rfl) (by kernel_rfl) ?_ ?_
  ·simp
  refine aI (s':=U7 0) (fun a w hg=>((hg.D6 (x:=7005) (b:=3001) (e:=9) (n:=1) (l1:=[]) (by rfl) (by rfl)).reset (kT:=[0,2,4,5]) (kO:=[0,3001,7005]) (by rfl) (by simp)).same ?_ ?_) ?_
  ·exact .cons rfl (.cons rfl (.cons rfl (.cons rfl .nil)))
  ·exact .cons (.box rfl) (.cons (.box rfl) (.cons (.arr rfl (fun i hi=>by omega)) .nil))
  refine bP ?_;refine iY 128 (fun k t=>t=U7 k) 0 rfl (by omega) (fun k t hJ hk=>?_);subst hJ;refine aP ?_;refine aB M hI hn (by rfl) (by kernel_rfl) ?_ ?_
  ·simp
  refine aH (by rfl) (fun hc=>?_) (fun hc=>?_)
  ·have hk2:k<128:=by have:=of_decide_eq_true hc;omega
   refine aO ?_;change ja _ _ _ _ _;refine aP ?_;refine bP ?_;refine aQ M hI hn (by rfl) (by kernel_rfl) ?_ ?_
   ·simp[hb1,hb2]
    exact⟨fun _ _=>rfl,by omega⟩
   change ja _ _ _ _ _;refine aQ M hI hn (by rfl) (by kernel_rfl) ?_ ?_
   ·simp
   intro a w hg
   refine⟨k+1,_,by omega,by omega,rfl,(hg.reset (kT:=[0,2,4,5]) (kO:=[0,3001,7005]) (by rfl) ?_).same ?_ ?_⟩
   ·simp;exact bIa (fun j _=>aDe rfl) (aDe rfl)
   ·exact .cons rfl (.cons rfl (.cons rfl (.cons (by rw[gU k (by omega)]) .nil)))
   ·exact .cons (.box rfl) (.cons (.box rfl) (.cons (.arr rfl (aWx (fun i _=>rfl) (by show[PC.lit (.string ⟨(rowB 256 (fun _=>[PC.lit (.int .u8 0)])).toArray⟩)]=VT k;rw[GX];rfl))) .nil))
  ·have hk2:k=128:=by have:=of_decide_eq_false hc;omega
   subst hk2;refine iM ?_;change ja _ _ _ _ _;refine aB M hI hn (by rfl) (by kernel_rfl) ?_ ?_
   ·simp
   refine aK (fun a w hg=>⟨.inr rfl,_,?_,hg⟩);refine kK (by rfl) (by simp) (by rfl) ?_;refine .lw (.cons (.agg (.cons (.row rfl trivial (by omega) (fun i hi=>?_) (fun i hi=>rfl)) .nil)) (.cons (.one (.cold rfl)) .nil));rw[Nat.zero_add];unfold VT r_ CG;rw[zG,List.getElem?_replicate,if_pos hi];rfl
variable {A:kz} {s:St} {a:Act} {w:World} {env:Env} {kF kO:List Nat} {R:List (Nat×(Nat->List PC))}
def F_(R:List (Nat×(Nat->List PC)))(kF kO:List Nat)(s:St)(x:Nat):og->Option (List Prop×og)
 |.arr e n len f=>(match find R x with
  |some f'=>some ([∀ i,i<len->EZ kF kO s (f i)=some (f' i)],.arr e n len f')
  |none=>some ([∀ i,i<len->(f i).all (dG false)=true],.arr e n len f))
 |ob=>Ic kF kO s ob
def Xj(R:List (Nat×(Nat->List PC)))(kF kO:List Nat)(s:St):List Nat->Option (List Prop×Wr)
 |[]=>some ([],[])
 |x::l=>match find s.o x,Xj R kF kO s l with
  |some (g,_,ob),some (cs,r)=>(match F_ R kF kO s x ob with|some (c,ob')=>some (c++cs,(x,g,0,ob')::r)|none=>none)
  |_,_=>none
def aVb(R:List (Nat×(Nat->List PC)))(kF kT kO:List Nat)(s:St):Option (List Prop×St):=match Fv kF kO s kT,Xj R kF kO s kO,aBa kO s,UO s kF with
 |some t,some (cs,o),true,some cf=>some (cs++cf,⟨t,o⟩)
 |_,_,_,_=>none
theorem zT:∀ {l:List Nat} {cs:List Prop} {r:Wr} {x:Nat},Xj R kF kO s l=some (cs,r)->(find r x=none->¬(l.any (Nat.beq x)=true))/\∀ g ai ob,find r x=some (g,ai,ob)->ai=0/\l.any (Nat.beq x)=true/\∃ vr CO c,find s.o x=some (g,vr,CO)/\F_ R kF kO s x CO=some (c,ob)/\(All cs->All c)
 |[],cs,r,x,h=>by
  simp only[Xj,Option.some.injEq,Prod.mk.injEq] at h;obtain⟨rfl,rfl⟩:=h
  exact⟨fun _=>by simp,fun g ai ob hf=>by cases hf⟩
 | x0::l,cs,r,x,h=>by
  unfold Xj at h
  cases h1:find s.o x0<;>cases h2:Xj R kF kO s l<;>simp only[h1,h2] at h<;>try (cases h;done)
  rename_i p q;obtain⟨g0,vr0,CO⟩:=p;obtain⟨cs2,r2⟩:=q;dsimp only at h
  cases h3:F_ R kF kO s x0 CO<;>simp only[h3] at h<;>try (cases h;done)
  rename_i z;obtain⟨c,ob'⟩:=z;cases h
  have allL:∀ {a b:List Prop},All (a++b)->All a/\All b:=by
   intro a
   induction a with
   |nil=>intro b h;exact⟨trivial,h⟩
   |cons p a ih=>intro b h;exact⟨⟨h.1,(ih h.2).1⟩,(ih h.2).2⟩
  by_cases hx:x0=x
  ·subst hx
   refine⟨fun hf=>(by rw[aJ] at hf;cases hf),fun g ai ob hf=>?_⟩
   rw[aJ] at hf;cases hf
   exact⟨rfl,by simp,vr0,CO,c,h1,h3,fun h=>(allL h).1⟩
  ·have ih:=zT (x:=x) h2
   refine⟨fun hf=>?_,fun g ai ob hf=>?_⟩
   ·rw[aN _ _ hx] at hf;have:=ih.1 hf;rw[List.any_cons];simp only[Bool.or_eq_true,not_or]
    exact⟨fun e=>hx (gy e).symm,this⟩
   ·rw[aN _ _ hx] at hf;obtain⟨h4,h5,vr,ob1,c1,h6,h7,h8⟩:=ih.2 g ai ob hf
    exact⟨h4,by rw[List.any_cons,h5,Bool.or_true],vr,ob1,c1,h6,h7,fun h=>h8 (allL h).2⟩
theorem PT(h:gm A s a w env)(hF:Aa A kF s){x:Nat}{ob ob':og}{c:List Prop}{hd:Value}(hr:F_ R kF kO s x ob=some (c,ob'))(hc:All c)(hO:Ey (aU A w env) hd ob):Ey (aU A w (ou kO env)) hd ob':=by
 cases ob with
 |dead=>exact aUs (ob:=.dead) h hF hr hc hO
 |dev O di l=>exact aUs (ob:=.dev O di l) h hF hr hc hO
 |box t l=>exact aUs (ob:=.box t l) h hF hr hc hO
 | arr e n len f=>
  unfold F_ at hr
  cases hq:find R x with
  |none=>
   simp only[hq,Option.some.injEq,Prod.mk.injEq] at hr;obtain⟨rfl,rfl⟩:=hr;obtain⟨vs,h1,h2⟩:=hO
   exact⟨vs,h1,fun i hi=>(jF (h2 i hi) (hc.1 i hi)).le aQi⟩
  |some f'=>
   simp only[hq,Option.some.injEq,Prod.mk.injEq] at hr;obtain⟨rfl,rfl⟩:=hr;obtain⟨vs,h1,h2⟩:=hO
   exact⟨vs,h1,fun i hi=>Zt h hF (hc.1 i hi) (h2 i hi)⟩
theorem o7.Cj{kT:List Nat}{cs:List Prop}{s':St}(h:o7 A s a w)(hSF:kF=[]\/A.S=Non)(hr:aVb R kF kT kO s=some (cs,s'))(hcA:All cs):o7 A s' a w:=by
 obtain⟨env,h⟩:=h;unfold aVb at hr
 cases h1:Fv kF kO s kT<;>cases h2:Xj R kF kO s kO<;>cases h3:aBa kO s<;>cases h4:UO s kF<;>simp only[h1,h2,h3,h4] at hr<;>try (cases hr;done)
 rename_i t q cf;obtain⟨cs',o⟩:=q;cases hr;have hc:All cs':=(aMp hcA).1
 have hF:Aa A kF s:=by
  rcases hSF with rfl|hS
  ·exact Aa.nil
  ·exact aLl hS h4 (aMp hcA).2
 refine⟨ou kO env,{ gu:=h.gu,size:=h.size,dom:=fun x hx=>?_,ji:=fun x g ai ob hf=>?_,live:=fun x ai hd b he hb=>?_,inj:=fun x y v1 h1 v2 h2 b he1 he2 hb1 hb2=>?_,tmps:=fun t' g pv hf hg=>?_,defers:=h.defers,und:=fun t' pv hf=>(by obtain⟨v,h4,_⟩:=zS h1 hf;exact h.und t' v h4),l_:=fun x hd hx=>?_,dev:=fun g ai O di l hf hg=>?_ }⟩
 ·have:=(zT (x:=x) h2).1 hx;unfold ou
  cases hb:kO.any (Nat.beq x) with
  |true=>exact absurd hb this
  |false=>rfl
 ·obtain⟨rfl,hk,vr,CO,c,h4,h5,h6⟩:=(zT (x:=x) h2).2 g ai ob hf;obtain⟨hd,h7,h8⟩:=h.ji x g vr CO h4
  refine⟨hd,?_,fun hg=>PT h hF h5 (h6 hc) (h8 hg)⟩
  unfold ou;rw[hk,h7];rfl
 ·unfold ou at he
  split at he
  ·cases hx:env x with
   |none=>rw[hx] at he;cases he
   |some p=>obtain⟨v,hd'⟩:=p;rw[hx] at he;cases he;exact h.live x v _ b hx hb
  ·cases he
 ·unfold ou at he1 he2
  split at he1
  ·split at he2
   ·cases hx:env x with
    |none=>rw[hx] at he1;cases he1
    |some p=>
     cases hy:env y with
     |none=>rw[hy] at he2;cases he2
     |some q=>obtain⟨v,hd'⟩:=p;obtain⟨v2',aNZ⟩:=q;rw[hx] at he1;rw[hy] at he2;cases he1;cases he2;exact h.inj x y v _ v2' _ b hx hy hb1 hb2
   ·cases he2
  ·cases he1
 ·obtain⟨v,h4,h5⟩:=zS h1 hf;obtain⟨val,h6,h7⟩:=h.tmps t' g v h4 hg
  exact⟨val,h6,Ib h hF h5 h7⟩
 ·obtain⟨hb,ha⟩:=h.l_ x hd hx
  refine⟨hb,?_⟩
  obtain⟨vr,hd',h4,_,h5⟩:=ha;have h4':env x=some (vr,hd'):=h4
  cases hf:find s.o x with
  |none=>rw[h.dom x hf] at h4';cases h4'
  |some p=>
   obtain⟨g,Ue,ob⟩:=p;have h6:=List.all_eq_true.1 h3 _ (aDa hf);dsimp only at h6;rw[hb] at h6;rw[Bool.and_eq_true] at h6;obtain⟨hd2,h7,_⟩:=h.ji x g Ue ob hf;rw[h4'] at h7;cases h7
   refine⟨0,hd',?_,Nat.le_refl _,fun _=>h5 (gy h6.2).symm⟩
   show ou kO env x=some (0,hd');unfold ou;rw[h6.1,h4'];rfl
 ·obtain⟨rfl,hk,vr,CO,c,h4,h5,h6⟩:=(zT (x:=dx) h2).2 g ai _ hf
  have h7:CO=.dev O di l:=by
   cases CO<;>simp only[F_,Ic] at h5
   ·split at h5<;>cases h5
   ·split at h5<;>cases h5
   ·cases h5
   ·cases h5;rfl
  subst h7;obtain⟨h8,h9,h10⟩:=h.dev g vr O di l h4 hg
  refine⟨h8,h9,A.dv.grow _ _ _ _ _ h10 (dm.refl _ _) (fun b hb=>.inl ?_)⟩
  rcases hb with hb|⟨y,v2,hd2,h11,h12⟩
  ·exact .inl hb
  ·unfold ou at h11
   split at h11
   ·cases hy:env y with
    |none=>rw[hy] at h11;cases h11
    |some p=>obtain⟨v,hd'⟩:=p;rw[hy] at h11;cases h11;exact .inr ⟨y,v,_,hy,h12⟩
   ·cases h11
end Pv
end Go.Proofs.YtndpjopifkbgiaaGreatDoor
