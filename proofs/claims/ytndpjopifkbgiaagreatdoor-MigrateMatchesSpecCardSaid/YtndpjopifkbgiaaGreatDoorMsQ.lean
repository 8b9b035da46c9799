/-
  Several texts in one file: each has its own heading below.
-/
import Derived.Test.YtndpjopifkbgiaaGreatDoorMsP
import Derived.Test.YtndpjopifkbgiaaGreatDoorMsL
import Derived.Test.YtndpjopifkbgiaaGreatDoorMsC
import Derived.WalkMore
import Derived.Test.YtndpjopifkbgiaaGreatDoorMsO
import Derived.Test.YtndpjopifkbgiaaGreatDoorMsI
set_option maxRecDepth 100000
set_option maxHeartbeats 4000000
namespace Go.Proofs.YtndpjopifkbgiaaGreatDoor
open Go.RowKit Tryz
open _root_.And renaming intro->az
open _root_.Go renaming wpAnyH_take->YI,Value->ag,World->ae,Program->gp,TypeId->bu,undef->dC,Calls->ik
open _root_.Go.IntKind renaming i64->aDG
open _root_.Go.Value renaming int->df
open _root_.List renaming length_replicate->Yk,length_append->ed,prefix_of_prefix_length_le->aFJ,replicate->DD,getElem?_cons_zero->YT,getElem?_cons_succ->Yv,getElem?_toArray->YY,append_toArray->aCn,size_toArray->YS,push_toArray->aCm,not_mem_nil->Xq,length_cons->Lt,cons_append->We,nil_append->WF,length_nil->YN,mem_cons->xn
open _root_.Nat renaming le_refl->dE,le_of_ble_eq_true->Yz,lt_of_lt_of_le->Y1,blt->XN,reduceSub->aCc,reduceAdd->aCa
open _root_.Array renaming all_toList->Yw,replicate->yz,replicate_zero->aCl,replicate_succ->aCk,ext'->Ha
section
theorem Jj(m:Pv.je)(hm:Pv.zh m)(u:Pv.yj m)(F:List qx)(hF:F.length<=1000000)(h0:jk)(hd:vg h0)(ok0:Nat->Prop)(g:Array ag)(B:Option Addr)(nF cF:Nat)(w:ae)(hM:af w)
  (hH:Pv.RL { w:=w,ok:=ok0,env:=fun _=>none } (Pv.pz h0) g.toList) (hV:Pv.RL { w:=w,ok:=ok0,env:=fun _=>none } [Pv.vC F] [.slice B nF cF]) :
  ik prog 15 #[.agg g,.agg (Pv.opC m),.slice B nF cF] w fun e Y=>Ext w Y/\∃ H,e=.returned H /\
   Pv.RV { w:=Y,ok:=fun b=>ok0 b\/w.heap.size<=b,env:=fun _=>none } (Pv.bJa (iF F (Pv.dF m) h0 0)) H:=by
 have A:=hide (show g.size=18/\(Pv.opC m).size=102 from⟨Pv.aDx hH,Pv.tZ u⟩);have HR:=hide (fun W=>Jm (Pv.opC m) W);have Z:=hide (fun d w1 X V=>Pv.Qj m hm u F hF h0 hd ok0 g B nF cF w hM hH hV d w1 X V);obtain⟨q,hq⟩:∃ q,iF F (Pv.dF m) h0 0=q:=⟨_,rfl⟩;rw[hq] at Z ⊢;obtain⟨I,s⟩:∃ x,Pv.opC m=x:=⟨_,rfl⟩;rw[s] at A HR Z ⊢;obtain⟨oc,f⟩:∃ x,Pv.mi (Pv.bZ q.1)=x:=⟨_,rfl⟩;rw[f] at Z;have HO:=hide f;clear s hM hm u hF hd hH hV hq f
 go_enter func15,ntmps15
 go_upto_region 1 with fail
 generalize c:World.alloc _ (.cells _ 40)=d
 have X:Ext w d:=by
  rw[<-c]
  repeat' (first|(with_reducible exact dm.refl _ _)|(with_reducible exact Ext.refl _)|(with_reducible assumption)|(with_reducible refine dm.alloc ?_ _)|(with_reducible refine dm.drew ?_)|(with_reducible refine dm.drewN ?_ _)|(with_reducible refine dm.setCell ?_ ?_ _)|(with_reducible refine Ext.alloc ?_ _)|(with_reducible refine Ext.drew ?_)|(with_reducible refine Ext.drewN ?_ _)|(with_reducible refine Ext.setCell ?_ ?_ _)|(simp;done)|(simp;omega)|omega)
 have z2:dh d w.heap.size 65 g:=by rw[<-c];exact (((dh.new w _ _).alloc _).alloc _).alloc _
 have z3:dh d (w.heap.size+1) 31 I:=by rw[<-c];exact ((dh.new' _ _ _ ay).alloc _).alloc _
 have z5:dh d (w.heap.size+1+1) 65 (#[.slice none 0 0,.slice none 0 0]++yz 16 (.int .u8 0)):=by rw[<-c];exact (dh.new' _ _ _ ay).alloc _
 have z6:dh d (w.heap.size+1+1+1) 40 (Pv.mi Pv.kz):=by rw[<-c];exact dh.new' _ _ _ ay
 have V:d.heap.size=w.heap.size+4:=by rw[<-c];simp
 have z8:Ext w d.drew:=X.drew;have G:=hide (show Ext w d.drew/\dh d.drew (w.heap.size+1+1) 65 (#[.slice none 0 0,.slice none 0 0]++yz 16 (.int .u8 0))/\dh d.drew (w.heap.size+1+1+1) 40 (Pv.mi Pv.kz)/\d.drew.heap.size=w.heap.size+4 from⟨z8,z5.drew,z6.drew,V⟩);refine wp_region_held_drew (S:=fun W=>dh W w.heap.size 65 g/\dh W (w.heap.size+1) 31 I) aj ⟨z2.drew,z3.drew⟩ (fun a=>?_);clear c X z2 z3 z5 z6 V z8;generalize d.drew=Wd at G a ⊢;refine YI (i:=0) (v:=_) rfl aj aj aj (fun _ _ _ h=>h) (Zn Pv.aMd rfl f_ rfl (aA A).2 (fun Y hw=>hw.2)) ou ?_
 try simp only[Act.put,zA,zB,zC,zD,zF]
 refine YI (i:=2) (v:=_) rfl aj aj aj (fun _ _ _ h=>h) (Zn uM rfl f_ rfl (aA A).1 (fun Y hw=>hw.1)) ou ?_
 try simp only[Act.put,zA,zB,zC,zD,zE,zF]
 refine YI (i:=3) (v:=?_) rfl aj aj aj (fun _ _ _ h=>h) (Or.inl ⟨by rfl,fun C j=>?_⟩) ou ?_;rotate_left
 ·(first|(go_simp;done)|(go_simp;with_reducible rfl))
 try simp only[Act.put,zA,zB,zC,zD,zE,zF]
 refine wpAnyH_ready (rs:=[1]) aj ay (AllReadyH.cons (o:=_) rfl (fun K k=>?_) AllReadyH.nil)
 try go_simp
 (refine (aA HR Wd).mono ?_;rintro e w1 ⟨rfl,l,L,J⟩;have z:=az (a.1.ext l) (a.2.ext l);have H1:=hide (az l (az L J));clear a l L J)
 refine k.out _ _ ?_ (fun a=>?_);exact z;clear k K
 try simp only[Act.put,zA,zB,zC,zD,zE,zF]
 refine wpAnyH_ready (rs:=[4]) aj ay (AllReadyH.cons (o:=_) rfl (fun K k=>?_) AllReadyH.nil)
 try go_simp
 (obtain⟨l,L,J⟩:=aA H1;have hz:=(aA G).2.2.2;refine (aA Z Wd w1 (aA G).1 hz l L J).mono ?_;rintro e w2 ⟨E,a0,Q,rfl,D⟩;have z:=az (a.1.gy E a_) (a.2.gy E a_);have H2:=hide (az (((aA G).1.trans l).trans' E (fun _ _ h=>h) (fun i hi e=>by omega)) (az (((aA G).2.1.ext l).gy E a_) (az (((aA G).2.2.1.ext l).gy E a_) (az Q D))));have e3:=Pv.aDx D;have e4:=Pv.aVn D;clear a l L J hz E D Q H1)
 refine k.out _ _ ?_ (fun a=>?_);exact z;clear k K
 try simp only[Act.put,zA,zB,zC,zD,zE,zF]
 refine YI (i:=5) (v:=?_) rfl aj aj aj (fun _ _ _ h=>h) (Or.inl ⟨by rfl,fun C j=>?_⟩) ou ?_;rotate_left
 ·(first|(go_simp;done)|(go_simp;with_reducible rfl))
 try simp only[Act.put,zA,zB,zC,zD,zE,zF]
 refine YI (i:=6) (v:=?_) rfl aj aj aj (fun _ _ _ h=>h) (Or.inl ⟨by rfl,fun C j=>?_⟩) ou ?_;rotate_left
 ·(first|(go_simp;done)|(go_simp;with_reducible rfl))
 try simp only[Act.put,zA,zB,zC,zD,zE,zF]
 refine YI (i:=7) (v:=?_) rfl aj aj aj (fun _ _ _ h=>h) (Or.inl ⟨by rfl,fun C j=>?_⟩) ou ?_;rotate_left
 ·(first|(go_simp;done)|(go_simp;with_reducible rfl))
 try simp only[Act.put,zA,zB,zC,zD,zE,zF]
 refine YI (i:=8) (v:=?_) rfl aj aj aj (fun _ _ _ h=>h) (Or.inl ⟨by rfl,fun C j=>?_⟩) ou ?_;rotate_left
 ·(first|(go_simp;done)|(go_simp;with_reducible rfl))
 try simp only[Act.put,zA,zB,zC,zD,zE,zF]
 refine wpAnyH_ready (rs:=[9]) aj ay (AllReadyH.cons (o:=_) rfl (fun K k=>?_) AllReadyH.nil)
 (refine jD (ty:=65) (t:=65) (x:=.tmp 6) (y:=.tmp 15) rfl rfl uM rfl rfl (aA H2).2.1 rfl e3 e4 ?_;intro w3 U r O;have z:=az (a.1.gy r a_) (a.2.gy r a_);have H3:=hide (az U (az r O));clear a U r O)
 refine k.out _ _ ?_ (fun a=>?_);exact z;clear k K
 try simp only[Act.put,zD,zE,zF]
 refine wpAnyH_ready (rs:=[10]) aj ay (AllReadyH.cons (o:=_) rfl (fun K k=>?_) AllReadyH.nil)
 (refine jD (ty:=40) (t:=40) (x:=.tmp 7) (y:=.tmp 16) rfl rfl jP rfl rfl ((aA H2).2.2.1.gy (aA H3).2.1 a_) (Pv.eF Pv.kN) (by rw[<-aA HO];exact Pv.eF (aA H2).2.2.2.1) (by rw[<-aA HO];exact Pv.nG _) ?_;intro w4 T n N;have z:=az (a.1.gy n a_) (a.2.gy n a_);have H4:=hide (az T (az n N));clear a T n N)
 refine k.out _ _ ?_ (fun a=>?_);exact z;clear k K
 try simp only[Act.put,zD,zE,zF]
 refine YI (i:=11) (v:=?_) rfl aj aj aj (fun _ _ _ h=>h) (Or.inl ⟨by rfl,fun C j=>?_⟩) ou ?_;rotate_left
 ·(first|(go_simp;done)|(go_simp;with_reducible rfl))
 try simp only[Act.put,zA,zB,zC,zD,zE,zF]
 refine YI (i:=12) (v:=?_) rfl aj aj aj (fun _ _ _ h=>h) (Or.inl ⟨by rfl,fun C j=>?_⟩) ou ?_;rotate_left
 ·(first|(go_simp;done)|(go_simp;with_reducible rfl))
 try simp only[Act.put,zA,zB,zC,zD,zE,zF]
 refine wpAnyH_done aj ?_ _;clear a
 go_wp2
 obtain⟨x1,_,_,Q,D⟩:=aA H2;obtain⟨b3,c3,s3⟩:=aA H3;obtain⟨b4,c4,s4⟩:=aA H4;have f:=aA HO;refine bodyPost_ret (aPa e3 (by rw[<-f];exact Pv.eF Q) rfl rfl (b3.gy c4 a_) b4) rfl ⟨?_,_,rfl,?_⟩;exact (x1.trans' c3 (fun _ _ h=>h) (fun i hi e=>by omega)).trans' c4 (fun _ _ h=>h) (fun i hi e=>by omega)
 have a1:∀ {p:List Pv.PC} {xs:List ag},Pv.RL { w:=w2,ok:=Pv.okF ok0 w.heap.size,env:=fun _=>none } p xs->Pv.RL { w:=w4,ok:=fun b=>ok0 b\/w.heap.size<=b,env:=fun _=>none } p xs:=fun hr=>
  hr.le ⟨by rw[s4,s3];exact dE _,fun b hb P=>⟨P.1,by
   have hn:¬(w.heap.size<=b/\b<w.heap.size+11):=P.2
   exact (c4.block b (by rw[s3];exact hb) a_).trans (c3.block b hb a_)⟩,fun _ _ _ h=>by cases h⟩
 show Pv.RV _ (Pv.bJa q) (.tuple #[.agg a0,.agg oc,.int .i64 (q.2.2:Int),.bool q.1.isSome]);rw[<-f];exact Pv.UY (a1 D) (Pv.bIf _ Q)
namespace Pv
def aRk:List PC->Option qx
 |[.lit (.bool c),.lit (.int .i64 b),.lit (.bool n)]=>some ⟨c,b,n⟩|_=>none
def aXm(n:Nat)(f:Nat->List PC):List qx:=(List.range n).map fun i=>(aRk (f i)).getD AL
def M_:PC->Option (Prop×List qx)
 |.sl 3 n f=>some (∀ i,i<n->(aRk (f i)).isSome=true,aXm n f)|.lit (.slice none 0 0)=>some (True,[])|_=>none
theorem bLh{l:List PC}(h:(aRk l).isSome=true):l=qF ((aRk l).getD AL):=by
 unfold aRk at h ⊢;split
 rfl;rename_i a
 split at h;rename_i c b n;exact absurd rfl (a c b n);cases h
theorem Lu{C:Ctx}{c:PC}{p:Prop}{F:List qx}(e:M_ c=some (p,F))(d:p){v:ag}(hr:R C c [v]):(∃ B n k,v=.slice B n k)/\R C (vC F) [v]:=by
 unfold M_ at e;split at e;rename_i n f;cases e;have a:(aXm n f).length=n:=by simp[aXm]
 refine⟨?_,?_⟩;cases hr with
 |sl r _ _=>obtain⟨_,A,k,rfl,_⟩:=r;exact⟨_,_,_,rfl⟩
 unfold vC;rw[a];refine hr.A_ fun i b=>?_;have g:=bLh (d i b);rw[g];unfold Wi aXm;congr 1;rw[zG,List.getElem?_map,List.getElem?_range b];rfl;cases e;obtain rfl:v=.slice none 0 0:=by cases hr;rfl
 exact⟨⟨_,_,_,rfl⟩,R.sl (Reads.nil _ 3) (fun _ _ h=>absurd h ay) (fun i h=>absurd h ay)⟩;cases e
def EN:List PV->Option (Prop×PV)
 |[.w (.agg c),.w (.agg ol),.w (.one d)]=>match Ap c,bOe ol,M_ d with
  |some (p,a),some m,some (b,F)=>some (p/\b/\vg a/\F.length<=1000000/\zh m,bJa (iF F (dF m) a 0))|_,_,_=>none
 |_=>none
theorem aQj:ai prog af 15 (aZ false EN):=by
 refine aW (aC func15 aj rfl) (fun L p r a y w g o C x=>?_);unfold EN at a;split at a;rename_i S Q T;split at a;rename_i P G m O F K H J;cases a;obtain⟨u,t,s,q,c⟩:=y
 match o,x with
 | [v1, v2,v3],⟨k1,k2,k3,_⟩=>
  cases k1 with
  | w k1=>cases k1 with
   | @agg _ c1 k1=>
    cases k2 with
    | w k2=>cases k2 with
     | @agg _ c2 k2=>
      cases k3 with
      | w k3=>cases k3 with
       |one k3=>rw[aNp H] at k2;obtain⟨E,i,l⟩:=aYd k2;have I:c2=opC m:=Ha E;subst I;obtain⟨⟨B,n,k,rfl⟩,z⟩:=Lu J t k3;have j:=RL.cons z RL.nil;refine (Jj m c ⟨c.root,i,c.link,c.ot,c.xt,l⟩ F q G s g c1 B n k w C (zI K u k1) j).mono ?_;rintro e N ⟨D,f,rfl,d⟩;exact⟨f,rfl,D,d.le ⟨dE _,fun b _ A=>⟨A.elim (fun h=>.inl ⟨rfl,h⟩) .inr,rfl⟩,fun _ _ _ h=>by cases h⟩⟩
 cases a;cases a
end Pv
structure uh(A L:Nat)(lv:ag)(log:List jh)(i:Nat)(X:Nat->Prop)(w:ae):Prop where
 at_:w.heap[A]?=some (.cells #[.int .i64 (i:Int)] 3 (0,0))
 Dw:w.heap[L]?=some (.cells #[lv] 32 (0,0))
 reads:Reads w 2 lv log.length (logCells log)
 ne:A≠L
 own:0<log.length->lv.ownBlock≠some A
 le:i<=log.length
 mine:∀ k,X k->k<w.heap.size/\k≠A/\k≠L/\(0<log.length->lv.ownBlock≠some k)
def pending(a:Acc):ag:=.iface 114 a.v
theorem uh.gy{A L:Nat}{d:ag}{a:List jh}{i:Nat}{X:Nat->Prop}{w w':ae}(h:uh A L d a i X w)(hc:dm X w w'):uh A L d a i X w':=
 ⟨
  dm.blk hc h.at_ (fun b=>(h.mine _ b).2.1 rfl),dm.blk hc h.Dw (fun b=>(h.mine _ b).2.2.1 rfl),h.reads.gy hc (fun _ e c b=>(h.mine _ b).2.2.2 e c),h.ne,h.own,h.le,
  fun k c=>⟨Y1 (h.mine k c).1 hc.size,(h.mine k c).2⟩⟩
theorem uh.step{A L:Nat}{d:ag}{a:List jh}{i:Nat}{X:Nat->Prop}{w:ae}(h:uh A L d a i X w)(g:i<a.length):uh A L d a (i+1) X (w.setCell ⟨A,0,none⟩ (.int .i64 ((i:Int)+1))):=by have c:dm (fun k=>k=A) w (w.setCell ⟨A,0,none⟩ (.int .i64 ((i:Int)+1))):=dm.setCell (S:=fun k=>k=A) (p:=⟨A,0,none⟩) (dm.refl _ _) (.inl rfl) _;refine⟨?_,dm.blk c h.Dw (fun e=>h.ne e.symm),h.reads.gy c (fun k f b e=>h.own f (e ▸ b)),h.ne,h.own,g,fun k b=>⟨Y1 (h.mine k b).1 c.size,(h.mine k b).2⟩⟩;exact one_setCell h.at_
theorem Ud(A L:Nat)(x:ag)(d:List jh)(a:Acc)(i:Nat)(X:Nat->Prop)(w:ae)(h:uh A L x d i X w)(F:Nat)(N:F=43) :
  ik prog F (#[a.v]++#[.pointer (some ⟨A,0,none⟩),.pointer (some ⟨L,0,none⟩)]) w (nK (uh A L x d) (fun k=>k=A) X pending w jh.v (replay d a i)):=by
 subst N;have V:=cell_of_one h.at_;have E:=free_of_one h.at_;have U:=cell_of_one h.Dw;have O:=lt_of_heap h.at_;have K:=lt_of_heap h.Dw;have C:¬L=A:=fun e=>h.ne e.symm;have m:=h.reads.zn;have l:=hide h;obtain⟨_,B,c,rfl,D,G,_⟩:=h.reads;clear h;unfold maxLen at m;obtain⟨s,u,t,q⟩:=a;simp only[Acc.v];by_cases f:i<d.length
 ·obtain⟨b,o,W,Q,P,y,_,_,T,j,g,I,H⟩:=(aA l).reads.at2 f;cases y;have J:¬b=A:=fun e=>(aA l).own a_ (by rw[e];rfl);rw[(aCu d i).1,zH f] at j;rw[(aCu d i).2,zH f] at g;cases j;cases g;have R:Hid (replay d ⟨s,u,t,q⟩ i=.ok d[i] (i+1)):=hide (by unfold replay;rw[zH f]);generalize d[i]=r at *;have n:¬d.length<=i:=by omega
  go_enter func43,ntmps43
  go_wp2
  go_returns
  have z:=(aA l).step f;refine nK.ok (aA R) rfl ?_ ?_;exact (z.gy (dm.alloc (dm.refl _ _) _)).gy (dm.alloc (dm.refl _ _) _);exact ((dm.setCell (S:=fun k=>k=A) (p:=⟨A,0,none⟩) (dm.refl _ _) (.inl rfl) _).alloc _).alloc _
 ·have R:Hid (replay d ⟨s,u,t,q⟩ i=.error ⟨s,u,t,q⟩ i):=hide (by unfold replay;rw[List.getElem?_eq_none a_]);have n:d.length<=i:=by omega
  go_enter func43,ntmps43
  go_wp2
  refine⟨rfl,nK.err (aA R) rfl ?_ ?_⟩;exact ((aA l).gy (dm.alloc (dm.refl _ _) _)).gy (dm.alloc (dm.refl _ _) _);exact ((dm.refl _ _).alloc _).alloc _
theorem aTe{P:gp}{ops:Array Oper}{o:Oper}{a:Act}{w w':ae}{K:Act->ae->Prop}{Q:Exit->Act->ae->Prop}{E:Prop}(b:o.guard=none){ty:bu}{x y:Operand}(d:o.op=.store ty x y)(hr:(Instr.storeAt ty (a.eval x) (a.eval y)).run P w=.ok () w')(h:K (a.put o.dst dC) w') :
  if Region.wanted o (yielded ops a.tmps)=true then Oper.wp P o a w K Q else E:=by
 have c:Region.wanted o (yielded ops a.tmps)=true:=by simp[Region.wanted,b]
 rw[if_pos c];unfold Oper.wp;rw[show (execOp a.eval o).run P w=.ok .skip w' from by simp[execOp,d,hr]];exact h
theorem xR:ve prog 37 4:=⟨⟨_,underlying37,rfl⟩,by kernel_rfl⟩
theorem aIh(x:ag)(w:ae):(Instr.typeAssert (.iface 114 x) 20 114 true).run prog w=.ok (.tuple #[x,.bool true]) w:=by kernel_rfl
attribute [local go_sem] aIh
theorem catch_panicking(d Ob c:Nat)(a:Acc)(x0 Z Y X H:ag)(y:Array ag)(f:List PanicEntry)(w:ae)(hy:y.size=55)
  (O:dh w d 37 #[x0,Z,Y,X]) (L:dh w Ob 40 y) (N:dh w c 4 #[H]) (C:¬d=Ob) (D:¬d=c) (A:¬Ob=c) :
  CallsD prog 44 #[.pointer (some ⟨d,0,none⟩),.pointer (some ⟨Ob,0,none⟩),.pointer (some ⟨c,0,none⟩)] (.panicking ({ v:=pending a,recovered:=false }::f)) w fun e u' p=>
   e=.returned (.tuple #[])/\u'=.panicking ({ v:=pending a,recovered:=true }::f)/\dm (fun k=>k=d\/k=Ob\/k=c) w p /\
   dh p d 37 #[.int .i64 a.kind,.int .i64 a.jy,.int .i64 a.cell,.string a.bytes]/\dh p Ob 40 (Pv.mi Pv.kz)/\dh p c 4 #[.bool false]:=by
 have lA:=O.lt;have lO:=L.lt;have lD:=N.lt;have HA:=hide O;have HO:=hide (az L hy);have HD:=hide N;clear O L N hy;have a1:¬Ob=d:=fun e=>C e.symm;have a2:¬c=d:=fun e=>D e.symm;have a0:¬c=Ob:=fun e=>A e.symm;obtain⟨ak,ab,ac,ax⟩:=a;simp only[pending,Acc.v];refine callsD_of_wpS func44 rfl fun a3 cs hu=>?_;simp only[ntmps44,YS,Lt,YN,aCa,aCc,aCk,aCl,aCm,aCn,WF,We];apply wpS_seq;apply wpS_region;simp[wpOpsS,go_sem,recoverD,hu,Exit.thenS];refine wpS_of_wp ?_
 go_upto_region 8 with fail
 generalize F:World.alloc _ (.cells _ 40)=W
 have n:Ext w W:=by
  rw[<-F]
  repeat' (first|(with_reducible exact dm.refl _ _)|(with_reducible exact Ext.refl _)|(with_reducible assumption)|(with_reducible refine dm.alloc ?_ _)|(with_reducible refine dm.drew ?_)|(with_reducible refine dm.drewN ?_ _)|(with_reducible refine dm.setCell ?_ ?_ _)|(with_reducible refine Ext.alloc ?_ _)|(with_reducible refine Ext.drew ?_)|(with_reducible refine Ext.drewN ?_ _)|(with_reducible refine Ext.setCell ?_ ?_ _)|(simp;done)|(simp;omega)|omega)
 have V:dh W w.heap.size 114 #[.int .i64 ak,.int .i64 ab,.int .i64 ac,.string ax]:=by rw[<-F];exact (dh.new' _ _ _ ay).alloc _
 have Q:dh W (w.heap.size+1) 40 (Pv.mi Pv.kz):=by rw[<-F];exact dh.new' _ _ _ ay
 have E:=hide (show Ext w W.drew/\dh W.drew d 37 #[x0,Z,Y,X]/\dh W.drew Ob 40 y/\dh W.drew c 4 #[H] from⟨n.drew,((aA HA).ext n).drew,((aA HO).1.ext n).drew,((aA HD).ext n).drew⟩);refine wp_region_held_drew (S:=fun W=>dh W w.heap.size 114 #[.int .i64 ak,.int .i64 ab,.int .i64 ac,.string ax]/\dh W (w.heap.size+1) 40 (Pv.mi Pv.kz)) aj ⟨V.drew,Q.drew⟩ (fun b=>?_);clear F n V Q;generalize W.drew=Wd at E b ⊢;refine YI (i:=0) (v:=?_) rfl aj aj aj (fun _ _ _ h=>h) (Or.inl ⟨by rfl,fun wz a5=>?_⟩) ou ?_;rotate_left
 ·(first|(go_simp;done)|(go_simp;with_reducible rfl))
 try simp only[Act.put,zA,zB,zC,zD,zF]
 refine YI (i:=1) (v:=_) rfl aj aj aj (fun _ _ _ h=>h) (Zn xR rfl f_ rfl rfl (fun p J=>J.1)) ou ?_
 try simp only[Act.put,zA,zB,zC,zD,zE,zF]
 refine YI (i:=2) (v:=_) rfl aj aj aj (fun _ _ _ h=>h) (Zn jP rfl f_ rfl (Pv.eF Pv.kN) (fun p J=>J.2)) ou ?_
 try simp only[Act.put,zA,zB,zC,zD,zE,zF]
 refine wpAnyH_ready (rs:=[3]) aj ay (AllReadyH.cons (o:=_) rfl (fun K l=>?_) AllReadyH.nil)
 (refine jD (ty:=37) (t:=37) (x:=.tmp 0) (y:=.tmp 14) rfl rfl xR rfl rfl (aA E).2.1 rfl rfl (by rw[<-Yw];rfl) ?_;intro w2 u j r;have z:=az (b.1.gy j a_) (b.2.gy j a_);have P:=hide (az u (az j r));clear b u j r)
 refine l.out _ _ ?_ (fun b=>?_);exact z;clear l K
 try simp only[Act.put,zD,zE,zF]
 refine wpAnyH_ready (rs:=[4]) aj ay (AllReadyH.cons (o:=_) rfl (fun K l=>?_) AllReadyH.nil)
 (refine jD (ty:=40) (t:=40) (x:=.tmp 1) (y:=.tmp 15) rfl rfl jP rfl rfl ((aA E).2.2.1.gy (aA P).2.1 a_) (aA HO).2 (Pv.eF Pv.kN) (Pv.nG _) ?_;intro w3 s g q;have z:=az (b.1.gy g a_) (b.2.gy g a_);have B:=(((aA E).2.2.2.gy (aA P).2.1 a_).gy g a_);have H3:=hide (az s (az g (az q B)));clear b s g q B)
 refine l.out _ _ ?_ (fun b=>?_);exact z;clear l K
 try simp only[Act.put,zD,zE,zF]
 refine wpAnyH_ready (rs:=[5]) aj ay (AllReadyH.cons (o:=_) rfl (fun K l=>?_) AllReadyH.nil)
 (obtain⟨w4,e4,G,m,I⟩:=(aYh c false).st _ #[H] rfl (aA H3).2.2.2;refine aTe (ty:=4) (x:=.tmp 2) (y:=.const (.bool false)) rfl rfl e4 ?_;have z:=az (b.1.gy m a_) (b.2.gy m a_);have H4:=hide (az G (az m I));clear b G m I e4)
 refine l.out _ _ ?_ (fun b=>?_);exact z;clear l K
 try simp only[Act.put,zD,zE,zF]
 refine wpAnyH_done aj ?_ _;clear b
 go_wp2
 obtain⟨n,zA,zO,zD⟩:=aA E;obtain⟨b2,c2,s2⟩:=aA P;obtain⟨b3,c3,s3,a4⟩:=aA H3;obtain⟨G,m,I⟩:=aA H4;refine⟨rfl,_,rfl,.tuple #[],results_none rfl _ _ _,rfl,rfl,?_,?_,?_,?_⟩;exact ((n.trans' c2 (T:=fun k=>k=d) (U:=fun k=>k=d\/k=Ob\/k=c) (fun _ _ h=>h.elim) (fun i _ e=>.inl e)).trans' c3 (T:=fun k=>k=Ob) (U:=fun k=>k=d\/k=Ob\/k=c) (fun _ _ h=>h) (fun i _ e=>.inr (.inl e))).trans' m (T:=fun k=>k=c) (U:=fun k=>k=d\/k=Ob\/k=c) (fun _ _ h=>h) (fun i _ e=>.inr (.inr e));exact (b2.gy c3 C).gy m D;exact b3.gy m A;exact G
theorem catch_idle(x y z:ag)(w:ae) :
  CallsD prog 44 #[x,y,z] .returning w fun e c b=>e=.returned (.tuple #[])/\c=.returning/\w=b:=by
 refine callsD_of_wpS func44 rfl fun a f d=>?_;simp only[ntmps44,YS,Lt,YN,aCa,aCc,aCk,aCl,aCm,aCn,WF,We];apply wpS_seq;apply wpS_region;simp[wpOpsS,go_sem,recoverD,d,Exit.thenS];refine wpS_of_wp ?_
 go_wp2
 exact⟨rfl,.returning,by cases a;simp_all,.tuple #[],results_none rfl _ _ _,rfl,rfl,rfl⟩
end
def mZ(w:ae)(a:ag):ae:=((((w.alloc (.cells #[a] 32)).alloc (.cells #[.int .i64 0,.int .i64 0,.int .i64 0,.string { data:=#[] }] 37)).alloc (.cells (Pv.mi Pv.kz) 40)).alloc (.cells #[.bool false] 4)).alloc (.cells #[.int .i64 0] 3)
theorem aIa(w:ae)(a:ag)(b:List jh)(hl:Reads w 2 a b.length (logCells b)) :
  Ext w (mZ w a)/\(mZ w a).heap.size=w.heap.size+5 /\
  uh (w.heap.size+1+1+1+1) w.heap.size a b 0 (fun k=>k=w.heap.size+1\/k=w.heap.size+1+1\/k=w.heap.size+1+1+1) (mZ w a) /\
  dh (mZ w a) (w.heap.size+1) 37 #[.int .i64 0,.int .i64 0,.int .i64 0,.string { data:=#[] }] /\
  dh (mZ w a) (w.heap.size+1+1) 40 (Pv.mi Pv.kz)/\dh (mZ w a) (w.heap.size+1+1+1) 4 #[.bool false]:=by
 have d:=fun k (c:0<b.length) e=>hl.Bq a_ c k e
 have g:Ext w (mZ w a):=by
  unfold mZ
  repeat' (first|(with_reducible exact dm.refl _ _)|(with_reducible exact Ext.refl _)|(with_reducible assumption)|(with_reducible refine dm.alloc ?_ _)|(with_reducible refine dm.drew ?_)|(with_reducible refine dm.drewN ?_ _)|(with_reducible refine dm.setCell ?_ ?_ _)|(with_reducible refine Ext.alloc ?_ _)|(with_reducible refine Ext.drew ?_)|(with_reducible refine Ext.drewN ?_ _)|(with_reducible refine Ext.setCell ?_ ?_ _)|(simp;done)|(simp;omega)|omega)
 refine⟨g,by simp[mZ],⟨?_,?_,hl.ext g,by omega,?_,by omega,?_⟩,?_,?_,?_⟩;exact dh.new' _ _ _ ay;exact ((((dh.new w 32 #[a]).alloc _).alloc _).alloc _).alloc _;intro c e;have:=d _ c e;omega;rintro k e;refine⟨by simp[mZ];omega,by omega,by omega,fun c f=>?_⟩;have:=d _ c f;omega;exact (((dh.new' _ _ _ ay).alloc _).alloc _).alloc _;exact ((dh.new' _ _ _ ay).alloc _).alloc _;exact (dh.new' _ _ _ ay).alloc _
theorem aEw(a:Array ag)(w:ae)(k Ob f:Nat)(j i h g d:ag)(c:Array ag)(l:c.size=55)(h4:a[4]?.getD dC=.pointer (some ⟨k,0,none⟩))(h5:a[5]?.getD dC=.pointer (some ⟨Ob,0,none⟩))(h6:a[6]?.getD dC=.pointer (some ⟨f,0,none⟩))
  (o:dh w k 37 #[j,i,h,g]) (m:dh w Ob 40 c) (n:dh w f 4 #[d]) :
  (results Tryz.f28 a).run prog w=.ok (.tuple #[.agg #[j,i,h,g],.agg c,d]) w:=by
 have e:=jO o xR rfl;have q:=jO m jP l;have b:=n.cell 0;simp only[YY,YT] at b;have p:(loadVar 4 ⟨f,0,none⟩).run prog w=.ok d w:=by simp[go_sem,b]
 simp[results,results28,h4,h5,h6,asAddr,e,q,p]
theorem Hy (G:Nat) (pc:Array ag) (X:ag) (d:List jh) (p:ah Pv.ja) (T:Nat->Prop) (w:ae) (hl:Reads w 2 X d.length (logCells d)) (hG:∀ (args:Array ag) (w:ae),(callFunc G args).run prog w=.ok (.enter G args) w)
    (hp : ∀ j,Ext w j->j.heap.size=w.heap.size+5->uh (w.heap.size+1+1+1+1) w.heap.size X d 0 (fun k=>k=w.heap.size+1\/k=w.heap.size+1+1\/k=w.heap.size+1+1+1) j ->
      ik prog G (#[.func (.func 43) #[] #[.pointer (some ⟨w.heap.size+1+1+1+1,0,none⟩),.pointer (some ⟨w.heap.size,0,none⟩)]]++pc) j fun e S=>dm (fun k=>k=w.heap.size+1+1+1+1\/(T k/\k<w.heap.size)) j S /\
        ((∃ a i,p.run (replay d) 0=.ok a i/\Pv.tu a/\e=.returned (.agg (Pv.mi a)))\/∃ c i b,p.run (replay d) 0=.error c i/\Pv.Xa b/\e=.panicked ({ v:=pending c,recovered:=false }::b))) :
    ik prog 28 #[.func (.func G) #[] pc,X] w fun e w'=>dm T w w' /\
      (
       (∃ a i,p.run (replay d) 0=.ok a i/\Pv.tu a/\e=.returned (.tuple #[.agg #[.int .i64 0,.int .i64 0,.int .i64 0,.string aH],.agg (Pv.mi a),.bool true])) \/
       ∃ c i,p.run (replay d) 0=.error c i/\e=.returned (.tuple #[c.v,.agg (Pv.mi Pv.kz),.bool false])):=by
  have a6:∀ (fn:Fn) (first cap:Array ag) (w:ae),(Instr.makeFunc fn first cap).run prog w=.ok (.func fn first cap) w:=fun _ _ _ _=>rfl;have HP:=hide hp;have HL:=hide hl;obtain⟨_,B,c,rfl,a1,a2,_⟩:=hl;clear hp a1 a2
  go_enter_defers func28,ntmps28
  go_wp2_with fail
  obtain⟨N,l,hI,z,r,u⟩:=aIa w (.slice B d.length c) d (aA HL);refine (aA HP (mZ w (.slice B d.length c)) N l hI).mono ?_;rintro e j ⟨A,hq⟩
  have W:¬(w.heap.size+1=w.heap.size+1+1+1+1\/(T (w.heap.size+1)/\w.heap.size+1<w.heap.size)):=by rintro (h|⟨_,h⟩)<;>omega
  have U:¬(w.heap.size+1+1=w.heap.size+1+1+1+1\/(T (w.heap.size+1+1)/\w.heap.size+1+1<w.heap.size)):=by rintro (h|⟨_,h⟩)<;>omega
  have V:¬(w.heap.size+1+1+1=w.heap.size+1+1+1+1\/(T (w.heap.size+1+1+1)/\w.heap.size+1+1+1<w.heap.size)):=by rintro (h|⟨_,h⟩)<;>omega
  have P:=z.gy A W;have L:=r.gy A U;have O:=u.gy A V;have K:Hid (dm T w j):=hide (N.trans' A (fun _ _ h=>h.elim) (fun i hi e=>by rcases e with e|e;omega;exact e.1));rcases hq with⟨o,s,E,n,rfl⟩|⟨a,s,b,E,a0,rfl⟩
  ·
    have Q:=hide (az E n);have HA:=hide P;have HO:=hide L;have HD:=hide O;have F:=Pv.eF n;have m:=Pv.nG o;clear E A N l hI z r u HP W U V P L O n;generalize Z:Pv.mi o=oc at *;have e1:¬w.heap.size+1=w.heap.size+1+1:=by omega
    have e2:¬w.heap.size+1=w.heap.size+1+1+1:=by omega
    have e3:¬w.heap.size+1+1=w.heap.size+1:=by omega
    have e4:¬w.heap.size+1+1=w.heap.size+1+1+1:=by omega
    have e5:¬w.heap.size+1+1+1=w.heap.size+1:=by omega
    have e6:¬w.heap.size+1+1+1=w.heap.size+1+1:=by omega
    go_wp2_with (first
      |(refine aS (ty:=37) (t:=37) (x:=.tmp 4) (y:=.tmp 11) rfl rfl xR rfl rfl (aA HA) rfl rfl (by rw[<-Yw];rfl) ?_;intro S J H D;have H2:=hide (az J (az H D));clear J H D)
      |(refine aS (ty:=40) (t:=40) (x:=.tmp 5) (y:=.tmp 14) rfl rfl jP rfl rfl ((aA HO).gy (aA H2).2.1 e3) (Pv.eF Pv.kN) F m ?_;intro w3 I q C;have g:=((aA HD).gy (aA H2).2.1 e5).gy q e6;have d1:=g.cell 0;have f1:=g.frozen;have l1:=g.lt;simp only[YY,YT] at d1;have H3:=hide (az I (az q (az C g)));clear I q C g))
    obtain⟨b2,c2,s2⟩:=aA H2;obtain⟨b3,c3,s3,g⟩:=aA H3;refine leaves_cons (f:=44) (args:=#[.pointer (some ⟨w.heap.size+1,0,none⟩),.pointer (some ⟨w.heap.size+1+1,0,none⟩),.pointer (some ⟨w.heap.size+1+1+1,0,none⟩)]) ay (by simp[go_sem]) ?_;refine (catch_idle _ _ _ _).mono ?_;rintro e u' w4 ⟨rfl,rfl,rfl⟩;refine⟨_,aEw _ _ (w.heap.size+1) (w.heap.size+1+1) (w.heap.size+1+1+1) (.int .i64 0) (.int .i64 0) (.int .i64 0) (.string { data:=#[] }) (.bool true) oc F rfl rfl rfl ((b2.gy c3 e1).far (p:=⟨w.heap.size+1+1+1,0,none⟩) e2 _) (b3.far (p:=⟨w.heap.size+1+1+1,0,none⟩) e4 _) (g.vk 0 _),?_,?_⟩;exact (((aA K).trans' c2 (fun _ _ h=>h) (fun i hi e=>by omega)).trans' c3 (fun _ _ h=>h) (fun i hi e=>by omega)).setCell (.inr (show w.heap.size<=w.heap.size+1+1+1 by omega)) _;exact .inl ⟨o,s,(aA Q).1,(aA Q).2,by rw[Z];rfl⟩
  ·
    have Q:=hide E;have HA:=hide P;have HO:=hide L;have HD:=hide O;clear E A N l hI z r u HP W U V P L O
    go_wp2
    refine leaves_cons (f:=44) (args:=#[.pointer (some ⟨w.heap.size+1,0,none⟩),.pointer (some ⟨w.heap.size+1+1,0,none⟩),.pointer (some ⟨w.heap.size+1+1+1,0,none⟩)]) ay (by simp[go_sem]) ?_;refine (catch_panicking _ _ _ a _ _ _ _ _ _ b _ (Pv.eF Pv.kN) (aA HA) (aA HO) (aA HD) a_ a_ a_).mono ?_;rintro e u' S ⟨rfl,rfl,hc,a5,a3,a4⟩;have Y:settle (.panicking ({ v:=pending a,recovered:=true }::b))=.returning:=Pv.aBs a0;show Leaves _ _ _ _ _ (settle _) _;rw[Y];refine⟨_,aEw _ _ _ _ _ _ _ _ _ _ _ (Pv.eF Pv.kN) rfl rfl rfl a5 a3 a4,?_,?_⟩;rotate_left 1;exact .inr ⟨a,s,aA Q,rfl⟩
    · exact (aA K).trans' hc (fun _ _ h=>h) (fun i hi e=>by rcases e with e|e|e<;>omega)
namespace Pv
def BI(a:List jh):List Acc->Option jh:=fun l=>match l.length with
 |0=>none|n+1=>a[n]?
theorem aAx(a:List jh)(l:List Acc)(c:Acc):BI a (l++[c])=a[l.length]?:=by unfold BI;rw[ed];rfl
theorem aFg{b:List jh}{a:Acc}{i:Nat}{r:jh}(h:b[i]?=some r):replay b a i=.ok r (i+1):=by unfold replay;rw[h]
theorem aFh{b:List jh}{a:Acc}{i:Nat}(h:b[i]?=none):replay b a i=.error a i:=by unfold replay;rw[h]
theorem bKu{w:Type}(b:List jh)(p:ah w):∀ l:List Acc,l.length<=b.length ->
  ((go (BI b) p l).2.length<=b.length->p.run (replay b) l.length=.ok (go (BI b) p l).1 (go (BI b) p l).2.length) /\
  (∀ g c,g++[c] <+: (go (BI b) p l).2->l <+: g->g.length=b.length->p.run (replay b) l.length=.error c b.length):=by
 induction p with
 |ret a=>refine fun l z=>⟨fun _=>rfl,fun g c i o n=>?_⟩;have m:=i.length_le;have u:=o.length_le;rw[ed,List.length_singleton] at m;have C:(go (BI b) (ah.ret a) l).2=l:=rfl;rw[C] at m;omega| ask a k x=>
  intro l z;rw[yH];have d:=wR (BI b) (k (ans (BI b) (l++[a]))) (l++[a]);have f:(l++[a]).length=l.length+1:=by simp
  cases j:b[l.length]? with
  | some r=>
   have y:l.length<b.length:=(List.getElem?_eq_some_iff.1 j).1;have B:ans (BI b) (l++[a])=r:=by unfold ans;rw[aAx,j];rfl
   rw[B] at d ⊢;obtain⟨t,s⟩:=x r (l++[a]) a_;rw[f] at t s;have e:(ah.ask a k).run (replay b) l.length=(k r).run (replay b) (l.length+1):=by simp only[ah.run,aFg j]
   rw[e];refine⟨t,fun g c i o n=>s g c i ?_ n⟩;exact aFJ d ((List.prefix_append g [c]).trans i) (by rw[f];omega)
  | none=>
   have A:b.length<=l.length:=List.getElem?_eq_none_iff.1 j;have e:(ah.ask a k).run (replay b) l.length=.error a l.length:=by simp only[ah.run,aFh j]
   refine⟨fun h=>?_,fun g c i o n=>?_⟩;have:=d.length_le;rw[f] at this;omega;have q:g=l:=(o.eq_of_length a_).symm;subst q;have:=aFJ i d ay;have m:=this.eq_of_length ay;have u:c=a:=by simpa using m
   rw[e,u,n]
def Ug(A L:Nat)(lv:ag)(log:List jh):Dv where
 hd:=.func (.func 43) #[] #[.pointer (some ⟨A,0,none⟩),.pointer (some ⟨L,0,none⟩)]
 O:=BI log
 S:=fun k=>k=A
 inv:=fun l X w=>uh A L lv log l.length X w
 pan:=fun l _ _ chain=>∃ l' c,l=l'++[c]/\l'.length<=log.length/\∃ older,Xa older/\chain={ v:=pending c,recovered:=false }::older
 one:=rfl
 x_:=rfl
 notS:=fun _ _ _ b h hb=>(h.mine b hb).2.1
 grow:=fun l X Y w w' h hc hY=>by
  have h':=h.gy hc
  refine⟨h'.at_,h'.Dw,h'.reads,h'.ne,h'.own,h'.le,fun k hk=>?_⟩
  rcases hY k hk with hx|⟨h1,h2⟩;exact h'.mine k hx;have h3:=lt_of_heap h.at_;have h4:=lt_of_heap h.Dw
  refine⟨h2,by omega,by omega,fun hn hk'=>?_⟩
  have:=h.reads.Bq a_ hn k hk';omega
theorem bGj(A L:Nat)(d:ag)(a:List jh):∀ {dw:List Acc->Prop},pq prog (Ug A L d a) dw:=⟨fun l X w h=>by
 refine⟨_,_,rfl,(fun args w=>by kernel_rfl),fun c _ _=>?_⟩;refine (Ud A L d a c l.length X w h _ rfl).mono ?_;intro e k i;cases b:a[l.length]? with
 |some r=>obtain⟨g,j,f⟩:=i.aBC (aFg b);refine⟨f,.inl ⟨r,?_,g,?_⟩⟩;exact (aAx a l c).trans b;show uh A L d a (l++[c]).length X k;rw[ed];exact j
 |none=>
  obtain⟨g,j,f⟩:=i.VL (aFh b)
  exact⟨f,.inr ⟨_,(aAx a l c).trans b,g,l,c,rfl,h.le,[],(fun _ h=>by cases h),rfl⟩⟩,fun T m=>absurd m.1 (by intro h;cases h)⟩
end Pv
section
namespace Pv
theorem bGh(A L:Nat)(h:ag)(d:List jh):EX (Ug A L h d):=by rintro l X w g ⟨i,c,rfl,j,a,b,rfl⟩;refine⟨Tm,c.v,a,rfl,b,.inl rfl,i,c,rfl,j,{ v:=pending c,recovered:=true }::a,fun e f=>?_,rfl⟩;rcases List.mem_cons.1 f with rfl|f;rfl;exact b e f
def bOv(a:List jh):Prop:=∀ r∈a,r.bytes.size<=1000000
theorem Vo{a:List jh}(h:bOv a):OB (BI a):=by intro l r b;unfold BI at b;split at b;cases b;exact h r (List.mem_of_getElem? b)
def Tv(q:EStateM.Result Acc Nat ja):Array ag:=match q with
 |.ok a _=>#[.agg #[.int .i64 0,.int .i64 0,.int .i64 0,.string aH],.agg (mi a),.bool true]|.error c _=>#[c.v,.agg (mi kz),.bool false]
def O_(q:EStateM.Result Acc Nat ja):Prop:=match q with
 |.ok a _=>tu a|.error _ _=>True
end Pv
open Pv in
theorem Ht(m:je)(N:zh m)(z:yj m)(d:List jh)(q:bOv d)(o:ag)(g:Nat)(w:ae)(D:af w)(Q:Z_<g/\Z9<g)(hl:Reads w 2 o d.length (logCells d))(A:0<d.length->o.ownBlock≠some g)(J:dh w g 31 (opC m)) :
  ik prog 28 #[.func (.func 45) #[] #[.pointer (some ⟨g,0,none⟩)],o] w fun e t=>dm (fun k=>k=g) w t/\O_ ((dF m).run (replay d) 0)/\e=.returned (.tuple (Tv ((dF m).run (replay d) 0))):=by
 refine (Hy 45 #[.pointer (some ⟨g,0,none⟩)] o d (dF m) (fun k=>k=g) w hl (fun args w=>by kernel_rfl) (fun H I K n=>?_)).mono ?_
 ·have X:=J.lt
  have E:uh (w.heap.size+1+1+1+1) w.heap.size o d 0 (fun k=>(k=w.heap.size+1\/k=w.heap.size+1+1\/k=w.heap.size+1+1+1)\/k=g) H:=
   ⟨
    n.at_,n.Dw,n.reads,n.ne,n.own,n.le,fun k B=>by
    rcases B with B|rfl;exact n.mine k B
    exact⟨by omega,by omega,by omega,A⟩⟩
  have s:=bKu d (dF m) [] (Nat.zero_le _);refine (aPs m N z H g (Ug (w.heap.size+1+1+1+1) w.heap.size o d) _ (J.ext I) (fun t p=>?_) (fun b C=>?_) (bGj _ _ _ _) (fun _ _ _ _ _ _ h _ _=>h) (bGh _ _ _ _) (Vo q) E (.inr rfl)).mono ?_;have P:=Zb D (.inl rfl);have O:=Zb D (.inr rfl);refine (D.ext I).gy p ?_ ?_;rintro (h|h);have F:Z_=w.heap.size+1+1+1+1:=h;omega;have F:Z_=g:=h;omega;rintro (h|h);have F:Z9=w.heap.size+1+1+1+1:=h;omega;have F:Z9=g:=h;omega;have S:b=w.heap.size+1+1+1+1:=C;omega;rintro e W ⟨p,L⟩;refine⟨p.mono fun b _ C=>by rcases C with h|h;exact .inl h;exact .inr ⟨h,by omega⟩,?_⟩;rcases L with⟨j,rfl,r⟩|⟨G,l,rfl,V,U,u,c,rfl,Y,f,y,rfl⟩;exact .inl ⟨_,_,s.1 r.le,j,rfl⟩;refine .inr ⟨c,_,f,s.2 u c V List.nil_prefix ?_,y,rfl⟩;have T:d[u.length]?=none:=(aAx d u c).symm.trans U;have:=List.getElem?_eq_none_iff.1 T;omega
 rintro e t ⟨p,⟨a,i,x,j,rfl⟩|⟨c,i,x,rfl⟩⟩;rw[x];exact⟨p,j,rfl⟩;rw[x];exact⟨p,trivial,rfl⟩
theorem aQg{a:Array ag}{w:ae}{d Ob:Nat}{c b:Array ag}(f:c.size=4)(e:b.size=55)(h4:a.getD 4 dC=.pointer (some ⟨d,0,none⟩))(h5:a.getD 5 dC=.pointer (some ⟨Ob,0,none⟩))
  (h:dh w d 37 c) (g:dh w Ob 40 b) :
  (results Tryz.f10 a).run prog w=.ok (.tuple #[.agg c,.agg b,a.getD 6 dC]) w:=by
 have j:=jO h xR f;have i:=jO g jP e;simp only[Array.getD_eq_getD_getElem?] at h4 h5;simp[results,results10,h4,h5,asAddr,j,i]
namespace Pv
def UF(q:EStateM.Result Acc Nat ja):Acc:=match q with
 |.ok _ _=>⟨0,0,0,aH⟩|.error c _=>c
def FI(q:EStateM.Result Acc Nat ja):ja:=match q with
 |.ok a _=>a|.error _ _=>kz
def OX(q:EStateM.Result Acc Nat ja):Bool:=match q with
 |.ok _ _=>true|.error _ _=>false
def O3(a:Acc):Array ag:=#[.int .i64 a.kind,.int .i64 a.jy,.int .i64 a.cell,.string a.bytes]
theorem JL(q:EStateM.Result Acc Nat ja):Tv q=#[.agg (O3 (UF q)),.agg (mi (FI q)),.bool (OX q)]:=by cases q<;>rfl
theorem JM{q:EStateM.Result Acc Nat ja}(h:O_ q):tu (FI q):=by
 cases q with
 |ok a i=>exact h|error c i=>exact kN
end Pv
theorem next_any(m:Pv.je)(hm:Pv.zh m)(p:Pv.yj m)(a:List jh)(G:Pv.bOv a)(S:ag)(w:ae)(V:af w)(hl:Reads w 2 S a.length (logCells a)) :
  ik prog 10 #[.agg (Pv.opC m),S] w fun e Q=>Ext w Q/\Pv.tu (Pv.FI ((Pv.dF m).run (replay a) 0))/\e=.returned (.tuple #[.agg (Pv.O3 (Pv.UF ((Pv.dF m).run (replay a) 0))),.agg (Pv.mi (Pv.FI ((Pv.dF m).run (replay a) 0))),.bool (Pv.OX ((Pv.dF m).run (replay a) 0))]):=by
 have s:=hide (show (Pv.opC m).size=102 from Pv.tZ p);have HR:=hide (fun W=>Jm (Pv.opC m) W)
 have N:Hid (∀ g W,w.heap.size<=g->Ext w W->dh W g 31 (Pv.opC m)->ik prog 28 #[.func (.func 45) #[] #[.pointer (some ⟨g,0,none⟩)],S] W fun e Q=>dm (fun k=>k=g) W Q/\Pv.tu (Pv.FI ((Pv.dF m).run (replay a) 0))/\e=.returned (.tuple #[.agg (Pv.O3 (Pv.UF ((Pv.dF m).run (replay a) 0))),.agg (Pv.mi (Pv.FI ((Pv.dF m).run (replay a) 0))),.bool (Pv.OX ((Pv.dF m).run (replay a) 0))])):=hide (fun g W hg hE hB=>by
  have a1:=Pv.Zb V (.inl rfl);have a0:=Pv.Zb V (.inr rfl);refine (Ht m hm p a G S g W (V.ext hE) ⟨by omega,by omega⟩ (hl.ext hE) (fun h0 hk=>?_) hB).mono ?_;have:=hl.Bq a_ h0 _ hk;omega;rintro e Q ⟨h1,h2,rfl⟩
  exact⟨h1,Pv.JM h2,by rw[Pv.JL]⟩)
 obtain⟨q,hq⟩:∃ q,(Pv.dF m).run (replay a) 0=q:=⟨_,rfl⟩;rw[hq] at N ⊢;obtain⟨C,n⟩:∃ x,Pv.opC m=x:=⟨_,rfl⟩;rw[n] at s HR N ⊢;obtain⟨oc,f⟩:∃ x,Pv.mi (Pv.FI q)=x:=⟨_,rfl⟩;obtain⟨ac,j⟩:∃ x,Pv.O3 (Pv.UF q)=x:=⟨_,rfl⟩;have o:ac.size=4:=by rw[<-j];rfl
 have L:ac.all (·.oneCell')=true:=by rw[<-j,<-Yw];rfl
 rw[f,j] at N ⊢;have HO:=hide f;obtain⟨_,B,c,rfl,_,_,_⟩:=hl;clear n V hm p hq f j
 go_enter func10,ntmps10
 go_upto_region 1 with fail
 generalize b:World.alloc _ (.cells _ 40)=r
 have u:Ext w r:=by
  rw[<-b]
  repeat' (first|(with_reducible exact dm.refl _ _)|(with_reducible exact Ext.refl _)|(with_reducible assumption)|(with_reducible refine dm.alloc ?_ _)|(with_reducible refine dm.drew ?_)|(with_reducible refine dm.drewN ?_ _)|(with_reducible refine dm.setCell ?_ ?_ _)|(with_reducible refine Ext.alloc ?_ _)|(with_reducible refine Ext.drew ?_)|(with_reducible refine Ext.drewN ?_ _)|(with_reducible refine Ext.setCell ?_ ?_ _)|(simp;done)|(simp;omega)|omega)
 have P:dh r w.heap.size 31 C:=by rw[<-b];exact ((dh.new w _ _).alloc _).alloc _
 have A:dh r (w.heap.size+1) 37 #[.int .i64 0,.int .i64 0,.int .i64 0,.string { data:=#[] }]:=by rw[<-b];exact (dh.new' _ _ _ ay).alloc _
 have z:dh r (w.heap.size+1+1) 40 (Pv.mi Pv.kz):=by rw[<-b];exact dh.new' _ _ _ ay
 have O:r.heap.size=w.heap.size+3:=by rw[<-b];simp
 have Z:=hide (az u (az P (az A (az z O))));clear b u P A z O
 go_wp2_with (refine fG (ty:=31) (t:=31) (x:=.tmp 2) rfl rfl Pv.aMd rfl (cs:=C) (aA Z).2.1 (aA s) ?_)
 refine (aA HR r).mono ?_;rintro e w1 ⟨rfl,l,T,D⟩;have H1:=hide (az l (az T D));clear l T D
 go_wp2_with fail
 obtain⟨u,P,A,z,O⟩:=aA Z;obtain⟨l,T,D⟩:=aA H1;refine (aA N r.heap.size w1 a_ (u.trans l) D).mono ?_;rintro e Y ⟨U,d,rfl⟩;have X:=hide (show Ext w Y/\dh Y (w.heap.size+1) 37 #[.int .i64 0,.int .i64 0,.int .i64 0,.string { data:=#[] }]/\dh Y (w.heap.size+1+1) 40 (Pv.mi Pv.kz)/\Pv.tu (Pv.FI q) from⟨(u.trans l).trans' U (fun _ _ h=>h) (fun i hi e=>by omega),(A.ext l).gy U a_,(z.ext l).gy U a_,d⟩);clear u P A z O l T D U d Z H1 N HR s
 go_wp2_with (first
  |(refine aS (ty:=37) (t:=37) (x:=.tmp 4) (y:=.tmp 11) rfl rfl xR rfl rfl (aA X).2.1 rfl o L ?_;intro w3 K I F;have H3:=hide (az K (az I F));clear K I F)
  |(refine aS (ty:=40) (t:=40) (x:=.tmp 5) (y:=.tmp 12) rfl rfl jP rfl rfl ((aA X).2.2.1.gy (aA H3).2.1 a_) (Pv.eF Pv.kN) (by rw[<-aA HO];exact Pv.eF (aA X).2.2.2) (by rw[<-aA HO];exact Pv.nG _) ?_;intro w4 J H E;have H4:=hide (az J (az H E));clear J H E))
 obtain⟨x1,_,_,d⟩:=aA X;obtain⟨b3,c3,s3⟩:=aA H3;obtain⟨b4,c4,s4⟩:=aA H4;have f:=aA HO;refine bodyPost_ret (aQg o (by rw[<-f];exact Pv.eF d) rfl rfl (b3.gy c4 a_) b4) rfl ⟨?_,d,rfl⟩;exact (x1.trans' c3 (fun _ _ h=>h) (fun i hi e=>by omega)).trans' c4 (fun _ _ h=>h) (fun i hi e=>by omega)
end
namespace Pv
theorem Si(C:Ctx)(a:Acc):RL C (lT a) (O3 a).toList:=.cons (xs:=[_]) (.lit rfl) (.cons (xs:=[_]) (.lit rfl) (.cons (xs:=[_]) (.lit rfl) (.cons (xs:=[_]) (.lit rfl) .nil)))
def bIs(q:EStateM.Result Acc Nat ja):PV:=.lu [.agg (lT (UF q)),.agg (gm (FI q)),.one (.lit (.bool (OX q)))]
def EK:List PV->Option (Prop×PV)
 |[.w (.agg ol),.w (.one a)]=>match bOe ol,Uj a with
  |some m,some (p,log)=>some (p/\zh m/\bOv log,bIs ((dF m).run (replay log) 0))|_,_=>none
 |_=>none
theorem aQf:ai prog af 10 (aZ true EK):=by
 refine aW (aC func10 aj rfl) (fun B p r b q w n j s o=>?_);unfold EK at b;split at b;rename_i E F;split at b;rename_i m D d y A;cases b;obtain⟨l,c,k⟩:=q
 match j,o with
 | [v1,v2],⟨k1,k2,_⟩=>
  cases k1 with
  | w k1=>cases k1 with
   | @agg _ c1 k1=>
    cases k2 with
    | w k2=>cases k2 with
     |one k2=>
      rw[aNp y] at k1;obtain⟨u,g,h⟩:=aYd k1;have z:c1=opC m:=Ha u;subst z;refine (next_any m c ⟨c.root,g,c.link,c.ot,c.xt,h⟩ d k v2 w s (PI A l k2)).mono ?_;rintro e C ⟨t,f,rfl⟩;refine⟨_,rfl,t,.lu rfl (fun i x a=>?_)⟩
      match i,a with
      |0,a=>cases a;exact⟨_,rfl,.agg (Si _ _)⟩|1,a=>cases a;exact⟨_,rfl,.agg (bIf _ f)⟩|2,a=>cases a;exact⟨_,rfl,.one (.lit rfl)⟩|i+3,a=>cases a
 cases b;cases b
def BK(k:Nat):List UInt8:=UInt8.ofNat k::DD 15 0
def Qx(k:Nat):List UInt8:=BK (k+1)
def lM(k:Nat):List UInt8:=100::UInt8.ofNat k::DD 14 0
def Bv(k:Nat)(a:Int):je:=⟨a,lM k,Qx k,BK 7,aH,vz,0,vz,0,0,aH,vz⟩
theorem WP(k:Nat)(e:k<=2):fP prog af 26 true [di k] (.w (.agg [.bs 16 (Qx k)])):=by
 have d:k=0\/k=1\/k=2:=by omega
 rcases d with rfl|rfl|rfl;have M:=zM (I:=af);refine bH func26 rfl rfl bK (fun A b a c=>?_);refine aB ?_;refine aF ?_ ?_;simp
 decide;exact jC;have M:=zM (I:=af);refine bH func26 rfl rfl bK (fun A b a c=>?_);refine aB ?_;refine aF ?_ ?_;simp;decide;exact jC;have M:=zM (I:=af);refine bH func26 rfl rfl bK (fun A b a c=>?_);refine aB ?_;refine aF ?_ ?_;simp;decide;exact jC
def idG:List PV->Option (Prop×PV)
 |[.w (.one (.lit (.int .i64 k)))]=>some (0<=k/\k<=2,.w (.agg [.bs 16 (Qx k.toNat)]))|_=>none
theorem bKr:ai prog af 26 (aZ true idG):=by refine aW (aC func26 aj rfl) (fun b p r a c=>?_);unfold idG at a;split at a;rename_i k;cases a;obtain⟨n,rfl⟩:∃ n:Nat,k=(n:Int):=⟨k.toNat,by omega⟩;exact WP n a_;cases a
def aJW:List (Nat×Spec):=[(26,aZ true idG)]
theorem VF:jl prog af (find aJW):=⟨bD (fun p a=>by
 obtain rfl:=List.mem_singleton.1 a
 exact bKr),dG⟩
theorem QB(k:Nat)(f:k<=2)(a:Int):fP prog af 14 true [di k,di a] (.w (.agg (um (Bv k a)))):=by
 have e:k=0\/k=1\/k=2:=by omega
 rcases e with rfl|rfl|rfl
 ·have M:=VF;refine bH func14 rfl rfl bK (fun A c b d=>?_);refine aB ?_;refine aF ?_ ?_
  ·simp
   try decide
  exact jC
 ·have M:=VF;refine bH func14 rfl rfl bK (fun A c b d=>?_);refine aB ?_;refine aF ?_ ?_
  ·simp
   try decide
  exact jC
 ·have M:=VF;refine bH func14 rfl rfl bK (fun A c b d=>?_);refine aB ?_;refine aF ?_ ?_
  ·simp
   try decide
  exact jC
def QC:List PV->Option (Prop×PV)
 |[.w (.one (.lit (.int .i64 k))),.w (.one (.lit (.int .i64 kind)))]=>some (0<=k/\k<=2,.w (.agg (um (Bv k.toNat kind))))|_=>none
theorem aYc:ai prog af 14 (aZ true QC):=by refine aW (aC func14 aj rfl) (fun c p r b d=>?_);unfold QC at b;split at b;rename_i k a;cases b;obtain⟨n,rfl⟩:∃ n:Nat,k=(n:Int):=⟨k.toNat,by omega⟩;exact QB n a_ a;cases b
def Uf:List (Nat×Spec):=[(15,aZ false EN)]
theorem Ue:jl prog af (find Uf):=⟨bD (fun p a=>by
 obtain rfl:=List.mem_singleton.1 a
 exact aQj),dG⟩
def bGi(q:Option ja×jk×Nat):PV:=.lu [.agg (pz q.2.1),.agg (gm (bZ q.1))]
def Vl(q:Option ja×jk×Nat):St:=⟨[(4,none,d_ (.pt 2 0 0)),(5,none,d_ (.pt 3 0 0)),(6,none,d_ (.pt 1008 0 0)),(7,none,d_ (.pt 1009 0 0))],
 [(2,none,0,.box 65 [.lit (.slice none 0 0),.lit (.slice none 0 0),.bs 16 (DD 16 0)]),(3,none,0,.box 40 (gm kz)),(1008,none,0,.box 65 (pz q.2.1)),(1009,none,0,.box 40 (gm (bZ q.1)))]⟩
theorem KD(h:jk)(m:je)(hd:vg h)(c:zh m):fP prog af 20 false [.w (.agg (pz h)),.w (.agg (um m))] (bGi (iF [] (dF m) h 0)):=by
 have M:=Ue;refine bH func20 rfl rfl bK (fun A g d i=>?_);obtain⟨q,a⟩:∃ q,iF [] (dF m) h 0=q:=⟨_,rfl⟩;rw[a];refine aB ?_;refine aF ?_ ?_;simp;exact⟨hd,c⟩;refine aU (Vl q) ?_ ?_ ?_;exact ig;have e:(⟨dL h.b.length (eX h.b),jX h.f.length (su h.f),h.r⟩:jk)=h:=by rw[aV,bW]
 refine .cons (.box rfl) (.cons (.box rfl) (.cons (.box ?_) (.cons (.box ?_) .nil)));rw[<-a];change pz (iF [] (dF m) (⟨dL h.b.length (eX h.b),jX h.f.length (su h.f),h.r⟩:jk) 0).2.1=_;rw[e];rw[<-a];change gm (bZ (iF [] (dF m) (⟨dL h.b.length (eX h.b),jX h.f.length (su h.f),h.r⟩:jk) 0).1)=_;rw[e];refine aB ?_;exact jC
def aVc:List PV->Option (Prop×PV)
 |[.w (.agg a),.w (.agg ol)]=>match Ap a,bOe ol with
  |some (p,h),some m=>some (p/\vg h/\zh m,bGi (iF [] (dF m) h 0))|_,_=>none
 |_=>none
theorem bJl:ai prog af 20 (aZ false aVc):=by
 refine aW (aC func20 aj rfl) (fun q p r a g=>?_);unfold aVc at a;split at a;rename_i u t;split at a;rename_i s h m o n;cases a;obtain⟨e,d,c⟩:=g;rw[aNp n]
 exact (KD h m d c).args fun C b f=>by
  match b,f with
  | [x,y],⟨l,k,_⟩=>
   refine⟨?_,k,trivial⟩;cases l with
   |w j=>cases j with
    |agg i=>exact .w (.agg (zI o e i))
 cases a;cases a
section
variable {P:gp} {I:ae->Prop}
def aSv(P:gp)(I:ae->Prop)(f:Nat)(t:bu)(l:List PC):Prop:=∀ w:ae,I w->ik P f #[] w fun e a=>∃ g c,e=.returned (.pointer (some ⟨g,0,none⟩))/\Ext w a/\w.heap.size<=g/\g<a.heap.size/\dh a g t c/\RL { w:=a,ok:=fun b=>w.heap.size<=b/\b≠g,env:=fun _=>none } l c.toList
def newSpec(t:bu)(l:List PC):Spec:=fun a b=>match b with
 |[]=>.new a (.box t l) fun v=>.ret (d_ (.pt a v 0))|_=>.fail
theorem bCa{f:Nat}{t:bu}{l:List PC}(j:∀ args w,(callFunc f args).run P w=.ok (.enter f args) w)(E:aSv P I f t l):ai P I f (newSpec t l):=by
 refine⟨j,fun A s a w r m B z F h G C n=>?_⟩;unfold newSpec at n;split at n
 match z,C with
 | [],_=>
  refine (E w (G.mem w h.gy)).mono ?_;rintro e u ⟨g,Q,rfl,H,O,N,L,K⟩;have q:∀ b,b<u.heap.size->(w.heap.size<=b/\b≠g)->∀ x i o,yt r m (fresh s m) (jM g) x=some (i,o)->hblk o≠some b:=by intro b p c x i o d k;by_cases y:x=m;subst y;rw[iR] at d;cases d;cases k;exact c.2 rfl;rw[kP y] at d;have:=(h.live x i o b d k).1;have:=c.1;omega
  obtain⟨J,S⟩:=h.new (w':=u) m none (jM g) (.box t l) H (fun b p=>by cases p;exact⟨N,O⟩) (fun D _=>⟨g,Q,rfl,L,K.le ⟨dE _,fun b p c=>⟨⟨.inr (Nat.le_trans h.gy.size c.1),q b p c⟩,rfl⟩,fun _ _ _ h=>by cases h⟩⟩);exact .inl ⟨_,_,_,_,rfl,n,J,.w (.one (.pt ⟨_,_,rfl⟩ ⟨_,_,iR _ _ _ _,dE _,fun _=>⟨_,rfl,rfl⟩⟩))⟩
 exact n.elim
def RQN(P:gp)(A:n_)(fn:Func)(t:bu)(l:List PC):Exit->Act->ae->Prop
 |.panic chain,a,w=>a.defers=A.ds/\DT A chain w|e,a,w=>(e=.normal\/e=.ret)/\∃ s x b,(AA P fn.results).run none s=some b/\All b.conds/\b.wr=[]/\b.val=d_ (.pt x 0 0)/\XN x dx=true/\find s.o x=some (none,0,.box t l)/\l.all (dJ false)=true/\qh A s a w
theorem Iz(P:gp)(A:n_)(fn:Func)(t:bu)(l:List PC):CE A (RQN P A fn t l):=fun _ _ _ a h=>⟨a,h⟩
theorem bLc{f:Nat}{fn:Func}{c:Code}{t:bu}{l:List PC}(hf:P.funcs[f]?=some fn)(hb:fn.body=some c)(hI:∀ w d,Ext w d->I w->I d)
  (hT:∀ A:n_,A.S=Non->A.nt=fn.ntmps->o5 P I A->lh P A ⟨[],[]⟩ c (RQN P A fn t l)):aSv P I f t l:=by
 intro w G;have hg:qh (n_.plain w (fun _=>False) fn.ntmps) ⟨[],[]⟩ { tmps:=#[]++yz (fn.ntmps-0) dC,defers:=[] } w:=by refine⟨fun _=>none,{ gy:=dm.refl _ _,size:=?_,dom:=fun x _=>rfl,l9:=fun x g k o h=>(by cases h),live:=fun x k N b h=>(by cases h),inj:=fun x y v1 Q v2 h2 b h=>(by cases h),tmps:=fun t g pv h a0=>(by cases h),defers:=rfl,und:=fun t pv h=>(by cases h),oq:=fun x N h=>(by cases h),dev:=fun g k O dw l h=>(by cases h) }⟩;simp[n_.plain]
 refine calls_of_wp hf hb (wp_mono (hT (n_.plain w (fun _=>False) fn.ntmps) rfl rfl (o5.plain fun d hc=>hI w d hc G) _ w hg (Iz _ _ _ _ _)) (fun e J d L=>?_))
 have E:(e=.normal\/e=.ret)/\∃ s x a,(AA P fn.results).run none s=some a/\All a.conds/\a.wr=[]/\a.val=d_ (.pt x 0 0)/\XN x dx=true/\find s.o x=some (none,0,.box t l)/\l.all (dJ false)=true/\qh (n_.plain w (fun _=>False) fn.ntmps) s J d:=by
  cases e with
  |panic chain=>obtain⟨_,l,z,_⟩:=L;exact z.elim
  |_=>exact L
 obtain⟨Q,s,x,a,Z,Y,X,W,kx,V,U,H,q⟩:=E;have i:(AA P fn.results).ok none s (fun _ K wr=>K=d_ (.pt x 0 0)/\wr=[]):=M.zf _ none s a _ Z (fun p hp=>Y.mem p hp) ⟨W,X⟩;obtain⟨K,C,h5,r,h7,_⟩:=wB q i;subst h7;obtain⟨N,j,D⟩:=q.l9 x none 0 _ V;obtain⟨g,B,rfl,hB,hR⟩:=D trivial
 have m:C=.pointer (some ⟨g,0,none⟩):=by
  cases r with
  | w r=>cases r with
   | one r=>cases r with
    |pt j1 j2=>obtain⟨T,F,e1,_,e3⟩:=j2;have u:H x=some (T,F):=e1;rw[j] at u;cases u;obtain⟨g',e4,e5⟩:=e3 rfl;cases e4;exact e5
 subst m;have z:=q.live x 0 _ g j rfl;have n:w.heap.size<=g:=z.2.resolve_right (fun hs=>hs.1.elim);have:J.defers=[]/\∃ v,(results fn J.tmps).run P d=.ok v d/\∃ g B,Ending.returned v=.returned (.pointer (some ⟨g,0,none⟩))/\Ext w d/\w.heap.size<=g/\g<d.heap.size/\dh d g t B/\RL { w:=d,ok:=fun b=>w.heap.size<=b/\b≠g,env:=fun _=>none } l B.toList:=⟨q.defers,_,h5,g,B,rfl,q.gy,n,z.1,hB,(jY hR U).le ⟨dE _,fun b hb i=>⟨⟨i.1.resolve_left id,fun e=>i.2 x 0 _ j (by rw[e];rfl)⟩,rfl⟩,fun _ _ _ h=>by cases h⟩⟩
 rcases Q with rfl|rfl<;>exact this
end
end Pv
namespace Pv
section
variable {P:gp} {I:ae->Prop}
end
end Pv
namespace Pv
section
variable {P:gp} {I:ae->Prop}
end
end Pv
namespace Pv
def Su:je:={ Bv 0 1 with payload:=strOf [115,116,97,116,101] }
theorem aQa(k:Nat)(a:Int):zh (Bv k a):=⟨rfl,rfl,rfl,rfl,by show g_ 0;unfold g_;omega,by show g_ 0;unfold g_;omega,by show g_ 0;unfold g_;omega,by show aH.size<=10000;decide,by show aH.size<=2000;decide⟩
theorem J_:zh Su:=⟨rfl,rfl,rfl,rfl,by show g_ 0;unfold g_;omega,by show g_ 0;unfold g_;omega,by show g_ 0;unfold g_;omega,by decide,by show aH.size<=2000;decide⟩
theorem N7(root:List UInt8)(h:root.length=16):vg (En root):=by
 refine⟨⟨by show (JI 4).length<=1000;decide,?_,?_,?_,?_,h⟩,by show 3<(JI 4).length;decide,by show ((JI 4).getD 2 []).length=48;decide,by show ((JI 4).getD 3 []).length=48;decide,by show 64<=Cc.length;unfold Cc;rw[Yk];decide⟩;intro l b;have:∀ l∈JI 4,l.length<=100000:=by decide
 exact this l b;intro l b x a;have:∀ l∈JI 4,∀ x∈l,0<=x/\x<=3:=by decide
 exact this l b x a;show Cc.length<=1000000;unfold Cc;rw[Yk];decide;intro x a;have:x=strOf DY:=List.eq_of_mem_replicate a;rw[this,bJ];show DY.length<=1000000;unfold DY;rw[Yk];decide
abbrev QS:=Option ja×jk×Nat
def ZL(q:QS):Bool:=bif !q.1.isSome then true else !((bZ q.1).err==0)
def OO(q:QS)(a n2:jk)(k:Nat):jk:=match k with
 |0=>q.2.1|1=>a|_=>n2
def Nr(k:Nat)(a:Bool):List PC:=match k with
 |0=>[.lit (.slice none 0 0),.ow 1000 0 1 0 3,.lit (.slice none 0 0),.lit (.slice none 0 0),.ow 1001 0 1 0 3,.lit (.bool a)]|k=>[.ow 12007 0 18 0 k,.ow 1000 0 1 0 3,.lit (.slice none 0 0),.lit (.slice none 0 0),.ow 1001 0 1 0 3,.lit (.bool a)]
def bOa(H:Nat->jk):Nat->List PC:=fun i=>pz (H i)
def flE(f:Fl):List PC:=[.sl 1 f.length (su f)]
def SK(H:Nat->jk)(k i:Nat):List PC:=match XN i k with
 |true=>[.sl 1 1 (fun j=>[flE (H i).f].getD (0+j) [])]|false=>[.lit (.slice none 0 0)]
def bgS:Nat->List PC:=fun _=>[.lit (.slice none 0 0)]
def bgT(k:Nat):List (Nat×Option Bool×PV):=[(1,none,d_ (.pt 1003 0 0)),(2,none,di k)]
def bgO(H:Nat->jk)(k:Nat)(a:Bool):Wr:=match k with
 |0=>[(1003,none,0,.box 57 (Nr 0 a)),(1000,none,0,.arr 100 1 3 (SK H 0)),(1001,none,0,.arr 101 1 3 bgS)]|k=>[(1003,none,0,.box 57 (Nr k a)),(12007,none,0,.arr 65 18 k (bOa H)),(1000,none,0,.arr 100 1 3 (SK H k)),(1001,none,0,.arr 101 1 3 bgS)]
def SL(q:QS):Nat->Bool
 |0=>false|_=>ZL q
def aDD(q:QS)(a n2:jk)(k:Nat):St:=⟨bgT k,bgO (OO q a n2) k (SL q k)⟩
def SI(q:QS)(b n2 h:jk)(k:Nat)(a:Bool):St:=⟨(3,none,d_ (.pt 5008 0 0))::bgT k,(5008,none,0,.box 65 (pz h))::bgO (OO q b n2) k a⟩
def bgL:List (Nat×Spec):=[(14,aZ true QC),(33,aMz JR),(15,aZ false EN)]
theorem aDC:∀ p∈bgL,ai prog af p.1 p.2:=by intro p a;simp only[bgL,xn,Xq,or_false] at a;rcases a with rfl|rfl|rfl;exact aYc;exact bIt;exact aQj
theorem bgM:jl prog af (find bgL):=⟨bD aDC,dG⟩
theorem xM(h:jk):∀ x∈pz h,dJ false x=true:=by
 intro x a;simp only[pz,xn,Xq,or_false] at a
 rcases a with rfl|rfl|rfl<;>rfl
theorem sS(H:Nat->jk)(n:Nat):∀ i,i<n->∀ x∈bOa H i,dJ false x=true:=fun i _=>xM (H i)
theorem aKh(H:Nat->jk)(h:jk)(k:Nat):∀ i,i<k+1->∀ x∈o_ k (bOa H) (fun i=>[pz h][i]?.getD []) i,dJ false x=true:=by
 intro i b;unfold o_;by_cases a:i<k;rw[if_pos a];exact xM _;rw[if_neg a];obtain rfl:i=k:=by omega
 rw[Nat.sub_self];exact xM h
theorem oI(H:Nat->jk)(k n:Nat):∀ i,i<n->∀ x∈SK H k i,dJ false x=true:=fun i _=>by unfold SK;cases XN i k;exact qV rfl;exact qV rfl
theorem lI(n:Nat):∀ i,i<n->∀ x∈bgS i,dJ false x=true:=fun _ _=>qV rfl
theorem aNo:(∀ i,i<4->∀ x∈([(PW.one (PC.lit (df aDG 16))).cells,(PW.one (PC.lit (df aDG 16))).cells,(PW.one (PC.lit (df aDG 16))).cells,(PW.one (PC.lit (df aDG 16))).cells][i]?.getD []),dJ false x=true) /\
  ∀ i,i<4->[(PW.one (PC.lit (df aDG 16))).cells,(PW.one (PC.lit (df aDG 16))).cells,(PW.one (PC.lit (df aDG 16))).cells,(PW.one (PC.lit (df aDG 16))).cells][i]?.getD []=Ew i:=by
 refine⟨fun i a=>?_,fun i a=>?_⟩
 ·have:i=0\/i=1\/i=2\/i=3:=by omega
  rcases this with rfl|rfl|rfl|rfl<;>exact qV rfl
 ·have:i=0\/i=1\/i=2\/i=3:=by omega
  rcases this with rfl|rfl|rfl|rfl<;>rfl
def Nq(q:QS)(a n2 h:jk)(k:Nat):St:=⟨(3,none,d_ (.pt 5008 0 0))::bgT k,[(5008,none,0,.box 65 (pz h)),(1003,none,0,.box 57 (Nr (k+1) (ZL q))),(12007,none,0,.arr 65 18 (k+1) (bOa (OO q a n2))),(1000,none,0,.arr 100 1 3 (SK (OO q a n2) k)),(1001,none,0,.arr 101 1 3 bgS)]⟩
def aLS(q:QS)(a n2 h:jk):St:=⟨(6,none,d_ (.pt 9008 0 0))::(7,none,d_ (.pt 9009 0 0))::(9,none,qy q.1.isSome)::(3,none,d_ (.pt 5008 0 0))::bgT 0,
 (9008,none,0,.box 65 (pz q.2.1))::(9009,none,0,.box 40 (gm (bZ q.1)))::(5008,none,0,.box 65 (pz h))::bgO (OO q a n2) 0 false⟩
def Dk(H:Nat->jk)(a:Bool):List PC:=[.sl 18 3 (fun i=>bOa H (0+i)),.sl 1 3 (fun i=>SK H 3 (0+i)),.lit (.slice none 0 0),.lit (.slice none 0 0),.sl 1 3 (fun i=>bgS (0+i)),.lit (.bool a)]
theorem SH(q:QS)(n0 j n2:jk)(z:En (lM 0)=n0)(e1:En (lM 1)=j)(e2:En (lM 2)=n2)(eq:iF [] (dF Su) n0 0=q){A:n_}(hS:A.S=Non)(hn:A.nt=Tryz.f12.ntmps)(hI:o5 prog af A):∃ c,Tryz.f12.body=some c/\∀ Q:Exit->Act->ae->Prop,(∀ a w,qh A ⟨[(0,none,d_ (.pt 1003 0 0))],bgO (OO q j n2) 3 (ZL q)⟩ a w->Q .ret a w)->lh prog A ⟨[],[]⟩ c Q:=by
 have M:=bgM;have p:prog.types[100].size=1:=by kernel_rfl
 have o:prog.types[101].size=1:=by kernel_rfl
 have u:prog.types[100].bytes=24:=by kernel_rfl
 have s:prog.types[101].bytes=24:=by kernel_rfl
 have E:prog.types[65].bytes<=1000:=Yz aj;have l:prog.types[65].size=18:=by kernel_rfl
 have F:prog.types[63].bytes<=1000:=Yz aj;have m:prog.types[63].size=1:=by kernel_rfl
 have D:vg n0:=by rw[<-z];exact N7 _ rfl
 refine⟨_,rfl,fun Q B=>?_⟩;refine aB ?_;refine aF ?_ ?_;simp;rw[u,s];omega;refine aG ?_;refine aB ?_;refine bY (s':=aDD q j n2 0) (fun a w d=>(d.reset (kT:=[1,2]) (kO:=[1003,1000,1001]) f_ (by simp;exact fun _ _=>rfl)).same ?_ ?_) ?_;exact ig;refine .cons (.box ?_) (.cons (.arr rfl (fun i g=>rfl)) (.cons (.arr rfl (fun i g=>rfl)) .nil));rw[p,o];rfl;refine aQ ?_;refine fF 3 (fun k t=>t=aDD q j n2 k) 0 rfl a_ (fun k t C G=>?_);subst C;have y:k=0\/k=1\/k=2\/k=3:=by omega
 rcases y with rfl|rfl|rfl|rfl
 ·refine aG ?_;refine aB ?_;refine aI (fun h=>?_) (fun h=>?_);rotate_left 1;cases h;refine aJ ?_;refine aG ?_;refine aQ ?_;refine aF ?_ ?_;simp;exact aNo;refine bY (s':=SI q j n2 n0 0 (SL q 0)) (fun a w d=>(d.reset (kT:=[3,1,2]) (kO:=[5008,1003,1000,1001]) f_ (by simp;exact⟨oI _ _ _,lI _⟩)).same ?_ ?_) ?_;exact ig;refine .cons (.box ?_) (.cons (.box rfl) (.cons (.arr rfl (fun i g=>rfl)) (.cons (.arr rfl (fun i g=>rfl)) .nil)));rw[<-z];rfl;refine aG ?_;refine aB ?_;refine aI (fun h=>?_) (fun h=>?_);rotate_left 1;cases h;refine aB ?_;refine aB ?_;refine aF ?_ ?_;simp;exact⟨D,J_⟩;refine bY (s':=aLS q j n2 n0) (fun a w d=>(d.reset (kT:=[6,7,9,3,1,2]) (kO:=[9008,9009,5008,1003,1000,1001]) f_ (by simp;exact⟨oI _ _ _,lI _⟩)).same ?_ ?_) ?_;refine .cons rfl (.cons rfl (.cons ?_ (.cons rfl (.cons rfl (.cons rfl .nil)))));rw[<-eq];change qy (iF [] (dF Su) (⟨dL n0.b.length (eX n0.b),jX n0.f.length (su n0.f),n0.r⟩:jk) 0).1.isSome=_;rw[aV,bW];refine .cons (.box ?_) (.cons (.box ?_) (.cons (.box rfl) (.cons (.box rfl) (.cons (.arr rfl (fun i g=>rfl)) (.cons (.arr rfl (fun i g=>rfl)) .nil)))));rw[<-eq];change pz (iF [] (dF Su) (⟨dL n0.b.length (eX n0.b),jX n0.f.length (su n0.f),n0.r⟩:jk) 0).2.1=_;rw[aV,bW];rw[<-eq];change gm (bZ (iF [] (dF Su) (⟨dL n0.b.length (eX n0.b),jX n0.f.length (su n0.f),n0.r⟩:jk) 0).1)=_;rw[aV,bW];refine aB ?_;refine lU ?_;refine bY (s':=SI q j n2 q.2.1 0 (ZL q)) (fun a w d=>(d.reset (kT:=[3,1,2]) (kO:=[5008,1003,1000,1001]) f_ (by simp;exact⟨oI _ _ _,lI _⟩)).same ?_ ?_) ?_;exact ig;exact o7;refine bY (fun a w d=>d.D8 (x:=12007) (b:=1003) (e:=65) (n:=18) (l1:=[]) f_ f_) ?_;refine aF ?_ ?_;simp;omega;refine bY (s':=Nq q j n2 q.2.1 0) (fun a w d=>(d.reset (kT:=[3,1,2]) (kO:=[5008,1003,12007,1000,1001]) f_ (by simp;exact⟨xM _,oI _ _ _,lI _⟩)).same ?_ ?_) ?_;exact ig;rw[l];refine .cons (.box rfl) (.cons (.box rfl) (.cons (.arr rfl (fun i g=>?_)) (.cons (.arr rfl (fun i g=>rfl)) (.cons (.arr rfl (fun i g=>rfl)) .nil))));have:i<0+1:=g;obtain rfl:i=0:=a_;rfl;refine bC M hI hn (by rfl) (by kernel_rfl) ?_ ?_;simp;omega;change lh _ _ _ _ _;refine gI ?_;rw[m];intro a w d;refine⟨0+1,_,by omega,by omega,rfl,(d.Bl (R:=[(1000,SK (OO q j n2) (0+1))]) (kF:=[13015]) (kT:=[1,2]) (kO:=[1003,12007,1000,1001]) (.inr hS) f_ ?_).same ?_ ?_⟩
  ·simp;refine⟨xM _,fun i g=>?_,lI _,qV rfl⟩;have:i=0\/i=1\/i=2:=by omega
   rcases this with rfl|rfl|rfl<;>rfl
  exact ig;exact o7
 ·refine aG ?_;refine aB ?_;refine aI (fun h=>?_) (fun h=>?_);rotate_left 1;cases h;refine aJ ?_;refine aG ?_;refine aQ ?_;refine aF ?_ ?_;simp;exact aNo;refine bY (s':=SI q j n2 j 1 (SL q 1)) (fun a w d=>(d.reset (kT:=[3,1,2]) (kO:=[5008,1003,12007,1000,1001]) f_ (by simp;exact⟨xM _,oI _ _ _,lI _⟩)).same ?_ ?_) ?_;exact ig;refine .cons (.box ?_) (.cons (.box rfl) (.cons (.arr rfl (fun i g=>rfl)) (.cons (.arr rfl (fun i g=>rfl)) (.cons (.arr rfl (fun i g=>rfl)) .nil))));rw[<-e1];rfl;refine aG ?_;refine aB ?_;refine aI (fun h=>?_) (fun h=>?_);cases h;rotate_left 1;refine aJ ?_;refine aF ?_ ?_;simp;omega;refine bY (s':=Nq q j n2 j 1) (fun a w d=>(d.reset (kT:=[3,1,2]) (kO:=[5008,1003,12007,1000,1001]) f_ (by simp;exact⟨aKh _ _ _,oI _ _ _,lI _⟩)).same ?_ ?_) ?_;exact ig
  ·rw[l];refine .cons (.box rfl) (.cons (.box rfl) (.cons (.arr rfl (fun i g=>?_)) (.cons (.arr rfl (fun i g=>rfl)) (.cons (.arr rfl (fun i g=>rfl)) .nil))));have:i<1+1:=g
   (have:i=0\/i=1:=by omega);rcases this with rfl|rfl<;>rfl
  refine bC M hI hn (by rfl) (by kernel_rfl) ?_ ?_;simp;omega;change lh _ _ _ _ _;refine gI ?_;rw[m];intro a w d;refine⟨1+1,_,by omega,by omega,rfl,(d.Bl (R:=[(1000,SK (OO q j n2) (1+1))]) (kF:=[13015]) (kT:=[1,2]) (kO:=[1003,12007,1000,1001]) (.inr hS) f_ ?_).same ?_ ?_⟩
  ·simp;refine⟨sS _ _,fun i g=>?_,lI _,qV rfl⟩;have:i=0\/i=1\/i=2:=by omega
   rcases this with rfl|rfl|rfl<;>rfl
  exact ig;exact o7
 ·refine aG ?_;refine aB ?_;refine aI (fun h=>?_) (fun h=>?_);rotate_left 1;cases h;refine aJ ?_;refine aG ?_;refine aQ ?_;refine aF ?_ ?_;simp;exact aNo;refine bY (s':=SI q j n2 n2 2 (SL q 2)) (fun a w d=>(d.reset (kT:=[3,1,2]) (kO:=[5008,1003,12007,1000,1001]) f_ (by simp;exact⟨sS _ _,oI _ _ _,lI _⟩)).same ?_ ?_) ?_;exact ig;refine .cons (.box ?_) (.cons (.box rfl) (.cons (.arr rfl (fun i g=>rfl)) (.cons (.arr rfl (fun i g=>rfl)) (.cons (.arr rfl (fun i g=>rfl)) .nil))));rw[<-e2];rfl;refine aG ?_;refine aB ?_;refine aI (fun h=>?_) (fun h=>?_);cases h;rotate_left 1;refine aJ ?_;refine aF ?_ ?_;simp;omega;refine bY (s':=Nq q j n2 n2 2) (fun a w d=>(d.reset (kT:=[3,1,2]) (kO:=[5008,1003,12007,1000,1001]) f_ (by simp;exact⟨aKh _ _ _,oI _ _ _,lI _⟩)).same ?_ ?_) ?_;exact ig
  ·rw[l];refine .cons (.box rfl) (.cons (.box rfl) (.cons (.arr rfl (fun i g=>?_)) (.cons (.arr rfl (fun i g=>rfl)) (.cons (.arr rfl (fun i g=>rfl)) .nil))));have:i<2+1:=g
   (have:i=0\/i=1\/i=2:=by omega);rcases this with rfl|rfl|rfl<;>rfl
  refine bC M hI hn (by rfl) (by kernel_rfl) ?_ ?_;simp;omega;change lh _ _ _ _ _;refine gI ?_;rw[m];intro a w d;refine⟨2+1,_,by omega,by omega,rfl,(d.Bl (R:=[(1000,SK (OO q j n2) (2+1))]) (kF:=[13015]) (kT:=[1,2]) (kO:=[1003,12007,1000,1001]) (.inr hS) f_ ?_).same ?_ ?_⟩
  ·simp;refine⟨sS _ _,fun i g=>?_,lI _,qV rfl⟩;have:i=0\/i=1\/i=2:=by omega
   rcases this with rfl|rfl|rfl<;>rfl
  exact ig;exact o7
 refine aG ?_;refine aB ?_;refine aI (fun h=>?_) (fun h=>?_);cases h;refine eP ?_;change lh _ _ _ _ _;refine aB ?_;refine cZ (fun a w d=>B a w ((d.reset (kT:=[0]) (kO:=[1003,12007,1000,1001]) f_ (by simp;exact⟨sS _ _,oI _ _ _,lI _⟩)).same ?_ ?_));exact ig;exact o7
theorem XL(q:QS)(n0 b n2:jk)(l:En (lM 0)=n0)(e1:En (lM 1)=b)(e2:En (lM 2)=n2)(eq:iF [] (dF Su) n0 0=q):aSv prog af 12 57 (Dk (OO q b n2) (ZL q)):=by have e:∃ c,Tryz.f12.body=some c:=⟨_,rfl⟩;obtain⟨c,f⟩:=e;refine bLc func12 f bK (fun A g h k=>?_);obtain⟨m,d,j⟩:=SH q n0 b n2 l e1 e2 eq g h k;obtain rfl:m=c:=Option.some.inj (d.symm.trans f);refine j _ (fun a w i=>⟨.inr rfl,_,1003,?_,?_,?_,?_,?_,rfl,?_,?_,(i.IW (kF:=[12007,1000,1001]) (kT:=[0]) (kO:=[1003]) (.inr g) f_ ?_)⟩);rotate_left 1;rfl;simp;rfl;rfl;rfl;rfl;simp;exact⟨sS _ _,oI _ _ _,lI _⟩
end Pv
end Go.Proofs.YtndpjopifkbgiaaGreatDoor
