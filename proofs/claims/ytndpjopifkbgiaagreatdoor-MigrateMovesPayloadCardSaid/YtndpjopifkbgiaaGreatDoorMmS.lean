/-
  Several texts in one file: each has its own heading below.
-/
import Derived.Test.YtndpjopifkbgiaaGreatDoorMmR
import Derived.Test.YtndpjopifkbgiaaGreatDoorMmM
import Derived.Test.YtndpjopifkbgiaaGreatDoorMmC
import Derived.WalkMore
import Derived.Test.YtndpjopifkbgiaaGreatDoorMmQ
import Derived.Test.YtndpjopifkbgiaaGreatDoorMmI
set_option maxRecDepth 100000
set_option maxHeartbeats 4000000
namespace Go.Proofs.YtndpjopifkbgiaaGreatDoor
open Go.RowKit
section
theorem Jn(m:Pv.ji)(hm:Pv.ut m)(hml:Pv.yc m)(F:List pg)(hF:F.length<=1000000)(h0:gy)(hd:p_ h0)(ok0:Nat->Prop)(hcs:Array Value)(B:Option Addr)(nF cF:Nat)(w:World)(hM:a_ w)
  (hH:Pv.RL { w:=w,ok:=ok0,env:=fun _=>none } (Pv.lu h0) hcs.toList) (hV:Pv.RL { w:=w,ok:=ok0,env:=fun _=>none } [Pv.rV F] [.slice B nF cF]) :
  Calls Tryz.prog 15 #[.agg hcs,.agg (Pv.opC m),.slice B nF cF] w fun e w'=>Ext w w'/\∃ val,e=.returned val /\
   Pv.RV { w:=w',ok:=fun b=>ok0 b\/w.heap.size<=b,env:=fun _=>none } (Pv.bBp (dS F (Pv.bW m) h0 0)) val:=by
 have Aj:=hide (show hcs.size=18/\(Pv.opC m).size=102 from⟨Pv.aBs hH,Pv.qZ hml⟩);have HR:=hide (fun W=>Jr (Pv.opC m) W);have HV:=hide (fun W0 w1 z1 z7=>Pv.QL m hm hml F hF h0 hd ok0 hcs B nF cF w hM hH hV W0 w1 z1 z7);obtain⟨q,hq⟩:∃ q,dS F (Pv.bW m) h0 0=q:=⟨_,rfl⟩;rw[hq] at HV ⊢;obtain⟨mrr,Kw⟩:∃ x,Pv.opC m=x:=⟨_,rfl⟩;rw[Kw] at Aj HR HV ⊢;obtain⟨oc,hoc⟩:∃ x,Pv.jq (Pv.bI q.1)=x:=⟨_,rfl⟩;rw[hoc] at HV;have HO:=hide hoc;clear Kw hM hm hml hF hd hH hV hq hoc
 go_enter Tryz.func15,Tryz.ntmps15
 go_upto_region 1 with fail
 generalize hW0:World.alloc _ (.cells _ 40)=W0
 have z1:Ext w W0:=by
  rw[<-hW0]
  repeat' (first|(with_reducible exact dm.refl _ _)|(with_reducible exact Ext.refl _)|(with_reducible assumption)|(with_reducible refine dm.alloc ?_ _)|(with_reducible refine dm.drew ?_)|(with_reducible refine dm.drewN ?_ _)|(with_reducible refine dm.setCell ?_ ?_ _)|(with_reducible refine Ext.alloc ?_ _)|(with_reducible refine Ext.drew ?_)|(with_reducible refine Ext.drewN ?_ _)|(with_reducible refine Ext.setCell ?_ ?_ _)|(simp;done)|(simp;omega)|omega)
 have z2:au W0 w.heap.size 65 hcs:=by rw[<-hW0];exact (((au.new w _ _).alloc _).alloc _).alloc _
 have z3:au W0 (w.heap.size+1) 31 mrr:=by rw[<-hW0];exact ((au.new' _ _ _ (by simp)).alloc _).alloc _
 have z5:au W0 (w.heap.size+1+1) 65 (#[.slice none 0 0,.slice none 0 0]++Array.replicate 16 (.int .u8 0)):=by rw[<-hW0];exact (au.new' _ _ _ (by simp)).alloc _
 have z6:au W0 (w.heap.size+1+1+1) 40 (Pv.jq Pv.jr):=by rw[<-hW0];exact au.new' _ _ _ (by simp)
 have z7:W0.heap.size=w.heap.size+4:=by rw[<-hW0];simp
 have z8:Ext w W0.drew:=z1.drew;have HZ:=hide (show Ext w W0.drew/\au W0.drew (w.heap.size+1+1) 65 (#[.slice none 0 0,.slice none 0 0]++Array.replicate 16 (.int .u8 0))/\au W0.drew (w.heap.size+1+1+1) 40 (Pv.jq Pv.jr)/\W0.drew.heap.size=w.heap.size+4 from⟨z8,z5.drew,z6.drew,z7⟩);refine wp_region_held_drew (S:=fun W=>au W w.heap.size 65 hcs/\au W (w.heap.size+1) 31 mrr) (by kernel_rfl) ⟨z2.drew,z3.drew⟩ (fun hHeld=>?_);clear hW0 z1 z2 z3 z5 z6 z7 z8;generalize W0.drew=Wd at HZ hHeld ⊢;refine wpAnyH_take (i:=0) (v:=_) rfl (by kernel_rfl) (by kernel_rfl) (by kernel_rfl) (fun _ _ _ h=>h) (XE Pv.aJe rfl (by rfl) rfl (aA Aj).2 (fun w' hw=>hw.2)) (by assumption) ?_
 try simp only[Act.put,zA,zB,zC,zD,zF]
 refine wpAnyH_take (i:=2) (v:=_) rfl (by kernel_rfl) (by kernel_rfl) (by kernel_rfl) (fun _ _ _ h=>h) (XE rH rfl (by rfl) rfl (aA Aj).1 (fun w' hw=>hw.1)) (by assumption) ?_
 try simp only[Act.put,zA,zB,zC,zD,zE,zF]
 refine wpAnyH_take (i:=3) (v:=?_) rfl (by kernel_rfl) (by kernel_rfl) (by kernel_rfl) (fun _ _ _ h=>h) (Or.inl ⟨by rfl,fun wz hSz=>?_⟩) (by assumption) ?_;rotate_left
 ·(first|(go_simp;done)|(go_simp;with_reducible rfl))
 try simp only[Act.put,zA,zB,zC,zD,zE,zF]
 refine wpAnyH_ready (rs:=[1]) (by kernel_rfl) (by simp) (AllReadyH.cons (o:=_) rfl (fun K hK=>?_) AllReadyH.nil)
 try go_simp
 (refine (aA HR Wd).mono ?_;rintro e w1 ⟨rfl,k1,k2,k3⟩;have hS:=And.intro (hHeld.1.ext k1) (hHeld.2.ext k1);have H1:=hide (And.intro k1 (And.intro k2 k3));clear hHeld k1 k2 k3)
 refine hK.out _ _ ?_ (fun hHeld=>?_)
 ·exact hS
 clear hK K
 try simp only[Act.put,zA,zB,zC,zD,zE,zF]
 refine wpAnyH_ready (rs:=[4]) (by kernel_rfl) (by simp) (AllReadyH.cons (o:=_) rfl (fun K hK=>?_) AllReadyH.nil)
 try go_simp
 (obtain⟨k1,k2,k3⟩:=aA H1;have hz:=(aA HZ).2.2.2;refine (aA HV Wd w1 (aA HZ).1 hz k1 k2 k3).mono ?_;rintro e w2 ⟨hc,hw',ho,rfl,r1⟩;have hS:=And.intro (hHeld.1.gm hc (by omega)) (hHeld.2.gm hc (by omega));have H2:=hide (And.intro (((aA HZ).1.trans k1).trans' hc (fun _ _ h=>h) (fun i hi e=>by omega)) (And.intro (((aA HZ).2.1.ext k1).gm hc (by omega)) (And.intro (((aA HZ).2.2.1.ext k1).gm hc (by omega)) (And.intro ho r1))));have e3:=Pv.aBs r1;have e4:=Pv.aQv r1;clear hHeld k1 k2 k3 hz hc r1 ho H1)
 refine hK.out _ _ ?_ (fun hHeld=>?_)
 ·exact hS
 clear hK K
 try simp only[Act.put,zA,zB,zC,zD,zE,zF]
 refine wpAnyH_take (i:=5) (v:=?_) rfl (by kernel_rfl) (by kernel_rfl) (by kernel_rfl) (fun _ _ _ h=>h) (Or.inl ⟨by rfl,fun wz hSz=>?_⟩) (by assumption) ?_;rotate_left
 ·(first|(go_simp;done)|(go_simp;with_reducible rfl))
 try simp only[Act.put,zA,zB,zC,zD,zE,zF]
 refine wpAnyH_take (i:=6) (v:=?_) rfl (by kernel_rfl) (by kernel_rfl) (by kernel_rfl) (fun _ _ _ h=>h) (Or.inl ⟨by rfl,fun wz hSz=>?_⟩) (by assumption) ?_;rotate_left
 ·(first|(go_simp;done)|(go_simp;with_reducible rfl))
 try simp only[Act.put,zA,zB,zC,zD,zE,zF]
 refine wpAnyH_take (i:=7) (v:=?_) rfl (by kernel_rfl) (by kernel_rfl) (by kernel_rfl) (fun _ _ _ h=>h) (Or.inl ⟨by rfl,fun wz hSz=>?_⟩) (by assumption) ?_;rotate_left
 ·(first|(go_simp;done)|(go_simp;with_reducible rfl))
 try simp only[Act.put,zA,zB,zC,zD,zE,zF]
 refine wpAnyH_take (i:=8) (v:=?_) rfl (by kernel_rfl) (by kernel_rfl) (by kernel_rfl) (fun _ _ _ h=>h) (Or.inl ⟨by rfl,fun wz hSz=>?_⟩) (by assumption) ?_;rotate_left
 ·(first|(go_simp;done)|(go_simp;with_reducible rfl))
 try simp only[Act.put,zA,zB,zC,zD,zE,zF]
 refine wpAnyH_ready (rs:=[9]) (by kernel_rfl) (by simp) (AllReadyH.cons (o:=_) rfl (fun K hK=>?_) AllReadyH.nil)
 (refine iI (ty:=65) (t:=65) (x:=.tmp 6) (y:=.tmp 15) rfl rfl rH rfl rfl (aA H2).2.1 rfl e3 e4 ?_;intro w3 hb3 hc3 hz3;have hS:=And.intro (hHeld.1.gm hc3 (by omega)) (hHeld.2.gm hc3 (by omega));have H3:=hide (And.intro hb3 (And.intro hc3 hz3));clear hHeld hb3 hc3 hz3)
 refine hK.out _ _ ?_ (fun hHeld=>?_)
 ·exact hS
 clear hK K
 try simp only[Act.put,zD,zE,zF]
 refine wpAnyH_ready (rs:=[10]) (by kernel_rfl) (by simp) (AllReadyH.cons (o:=_) rfl (fun K hK=>?_) AllReadyH.nil)
 (refine iI (ty:=40) (t:=40) (x:=.tmp 7) (y:=.tmp 16) rfl rfl iV rfl rfl ((aA H2).2.2.1.gm (aA H3).2.1 (by omega)) (Pv.dN Pv.jL) (by rw[<-aA HO];exact Pv.dN (aA H2).2.2.2.1) (by rw[<-aA HO];exact Pv.kX _) ?_;intro w4 hb4 hc4 Bo;have hS:=And.intro (hHeld.1.gm hc4 (by omega)) (hHeld.2.gm hc4 (by omega));have H4:=hide (And.intro hb4 (And.intro hc4 Bo));clear hHeld hb4 hc4 Bo)
 refine hK.out _ _ ?_ (fun hHeld=>?_)
 ·exact hS
 clear hK K
 try simp only[Act.put,zD,zE,zF]
 refine wpAnyH_take (i:=11) (v:=?_) rfl (by kernel_rfl) (by kernel_rfl) (by kernel_rfl) (fun _ _ _ h=>h) (Or.inl ⟨by rfl,fun wz hSz=>?_⟩) (by assumption) ?_;rotate_left
 ·(first|(go_simp;done)|(go_simp;with_reducible rfl))
 try simp only[Act.put,zA,zB,zC,zD,zE,zF]
 refine wpAnyH_take (i:=12) (v:=?_) rfl (by kernel_rfl) (by kernel_rfl) (by kernel_rfl) (fun _ _ _ h=>h) (Or.inl ⟨by rfl,fun wz hSz=>?_⟩) (by assumption) ?_;rotate_left
 ·(first|(go_simp;done)|(go_simp;with_reducible rfl))
 try simp only[Act.put,zA,zB,zC,zD,zE,zF]
 refine wpAnyH_done (by kernel_rfl) ?_ _;clear hHeld
 go_wp2
 obtain⟨x1,_,_,ho,r1⟩:=aA H2;obtain⟨b3,c3,s3⟩:=aA H3;obtain⟨b4,c4,s4⟩:=aA H4;have hoc:=aA HO;refine bodyPost_ret (aLr e3 (by rw[<-hoc];exact Pv.dN ho) rfl rfl (b3.gm c4 (by omega)) b4) rfl ⟨?_,_,rfl,?_⟩
 ·exact (x1.trans' c3 (fun _ _ h=>h) (fun i hi e=>by omega)).trans' c4 (fun _ _ h=>h) (fun i hi e=>by omega)
 ·have hLe:∀ {p:List Pv.PC} {xs:List Value},Pv.RL { w:=w2,ok:=Pv.okF ok0 w.heap.size,env:=fun _=>none } p xs->Pv.RL { w:=w4,ok:=fun b=>ok0 b\/w.heap.size<=b,env:=fun _=>none } p xs:=fun hr=>
   hr.le ⟨by rw[s4,s3];exact Nat.le_refl _,fun b hb hok=>⟨hok.1,by
    have hn:¬(w.heap.size<=b/\b<w.heap.size+11):=hok.2
    exact (c4.block b (by rw[s3];exact hb) (by omega)).trans (c3.block b hb (by omega))⟩,fun _ _ _ h=>by cases h⟩
  show Pv.RV _ (Pv.bBp q) (.tuple #[.agg hw',.agg oc,.int .i64 (q.2.2:Int),.bool q.1.isSome]);rw[<-hoc];exact Pv.U8 (hLe r1) (Pv.bAw _ ho)
namespace Pv
def aNp:List PC->Option pg
 |[.lit (.bool c),.lit (.int .i64 b),.lit (.bool n)]=>some ⟨c,b,n⟩
 |_=>none
def aSt(n:Nat)(f:Nat->List PC):List pg:=(List.range n).map fun i=>(aNp (f i)).getD Ci
def La:PC->Option (Prop×List pg)
 |.sl 3 n f=>some (∀ i,i<n->(aNp (f i)).isSome=true,aSt n f)
 |.lit (.slice none 0 0)=>some (True,[])
 |_=>none
theorem bDc{l:List PC}(h:(aNp l).isSome=true):l=vJ ((aNp l).getD Ci):=by
 unfold aNp at h ⊢
 split
 ·rfl
 ·rename_i hn
  split at h
  ·rename_i c b n;exact absurd rfl (hn c b n)
  ·cases h
theorem LZ{C:Ctx}{c:PC}{p:Prop}{F:List pg}(e:La c=some (p,F))(hp:p){v:Value}(hr:R C c [v]):(∃ B n k,v=.slice B n k)/\R C (rV F) [v]:=by
 unfold La at e
 split at e
 ·rename_i n f;cases e
  have hlen:(aSt n f).length=n:=by simp[aSt]
  refine⟨?_,?_⟩
  ·cases hr with
   |sl r _ _=>
    obtain⟨_,A,k,rfl,_⟩:=r
    exact⟨_,_,_,rfl⟩
  ·unfold rV;rw[hlen];refine hr.yx fun i hi=>?_;have h1:=bDc (hp i hi);rw[h1];unfold aCJ aSt;congr 1;rw[zG,List.getElem?_map,List.getElem?_range hi];rfl
 ·cases e
  obtain rfl:v=.slice none 0 0:=by cases hr;rfl
  exact⟨⟨_,_,_,rfl⟩,R.sl (Reads.nil _ 3) (fun _ _ h=>absurd h (by simp)) (fun i h=>absurd h (by simp))⟩
 ·cases e
def EX:List PV->Option (Prop×PV)
 |[.w (.agg hl),.w (.agg ol),.w (.one fv)]=>match AZ hl,bEx ol,La fv with
  |some (p,h0),some m,some (p2,F)=>some (p/\p2/\p_ h0/\F.length<=1000000/\ut m,bBp (dS F (bW m) h0 0))
  |_,_,_=>none
 |_=>none
theorem aMs:aj Tryz.prog a_ 15 (bD false EX):=by
 refine aZ (aF Tryz.func15 (by kernel_rfl) rfl) (fun xs p r hg hp w ok0 vs hI hv=>?_);unfold EX at hg
 split at hg
 ·rename_i hl ol fv
  split at hg
  ·rename_i p1 h0 m p2 F e1 em e2;cases hg;obtain⟨q1,q2,q3,q4,q5⟩:=hp
   match vs,hv with
   | [v1, v2,v3],⟨k1,k2,k3,_⟩=>
    cases k1 with
    | w k1=>cases k1 with
     | @agg _ c1 k1=>
      cases k2 with
      | w k2=>cases k2 with
       | @agg _ c2 k2=>
        cases k3 with
        | w k3=>cases k3 with
         |one k3=>
          rw[aKk em] at k2;obtain⟨h2,hid,hbt⟩:=aTd k2;have ec:c2=opC m:=Array.ext' h2;subst ec;obtain⟨⟨B,n,k,rfl⟩,hf⟩:=LZ e2 q2 k3;have hf':=RL.cons hf RL.nil;refine (Jn m q5 ⟨q5.root,hid,q5.link,q5.ot,q5.xt,hbt⟩ F q4 h0 q3 ok0 c1 B n k w hI (wQ e1 q1 k1) hf').mono ?_;rintro e w' ⟨hE,val,rfl,hval⟩
          exact⟨val,rfl,hE,hval.le ⟨Nat.le_refl _,fun b _ hb=>⟨hb.elim (fun h=>.inl ⟨rfl,h⟩) .inr,rfl⟩,fun _ _ _ h=>by cases h⟩⟩
  ·cases hg
 ·cases hg
end Pv
structure qp(A L:Nat)(lv:Value)(log:List je)(i:Nat)(X:Nat->Prop)(w:World):Prop where
 at_:w.heap[A]?=some (.cells #[.int .i64 (i:Int)] 3 (0,0))
 EC:w.heap[L]?=some (.cells #[lv] 32 (0,0))
 reads:Reads w 2 lv log.length (logCells log)
 ne:A≠L
 own:0<log.length->lv.ownBlock≠some A
 le:i<=log.length
 mine:∀ k,X k->k<w.heap.size/\k≠A/\k≠L/\(0<log.length->lv.ownBlock≠some k)
def pending(a:Acc):Value:=.iface 114 a.v
theorem qp.gm{A L:Nat}{lv:Value}{log:List je}{i:Nat}{X:Nat->Prop}{w w':World}(h:qp A L lv log i X w)(hc:dm X w w'):qp A L lv log i X w':=
 ⟨
  dm.blk hc h.at_ (fun hx=>(h.mine _ hx).2.1 rfl),dm.blk hc h.EC (fun hx=>(h.mine _ hx).2.2.1 rfl),h.reads.gm hc (fun _ hn hk hx=>(h.mine _ hx).2.2.2 hn hk),h.ne,h.own,h.le,
  fun k hk=>⟨Nat.lt_of_lt_of_le (h.mine k hk).1 hc.size,(h.mine k hk).2⟩⟩
theorem qp.step{A L:Nat}{lv:Value}{log:List je}{i:Nat}{X:Nat->Prop}{w:World}(h:qp A L lv log i X w)(hi:i<log.length):qp A L lv log (i+1) X (w.setCell ⟨A,0,none⟩ (.int .i64 ((i:Int)+1))):=by
 have hc:dm (fun k=>k=A) w (w.setCell ⟨A,0,none⟩ (.int .i64 ((i:Int)+1))):=dm.setCell (S:=fun k=>k=A) (p:=⟨A,0,none⟩) (dm.refl _ _) (.inl rfl) _
 refine⟨?_,dm.blk hc h.EC (fun e=>h.ne e.symm),h.reads.gm hc (fun k hn hk e=>h.own hn (e ▸ hk)),h.ne,h.own,hi,fun k hk=>⟨Nat.lt_of_lt_of_le (h.mine k hk).1 hc.size,(h.mine k hk).2⟩⟩
 exact one_setCell h.at_
theorem UA(A L:Nat)(lv:Value)(log:List je)(a:Acc)(i:Nat)(X:Nat->Prop)(w:World)(h:qp A L lv log i X w)(F:Nat)(hF:F=43) :
  Calls Tryz.prog F (#[a.v]++#[.pointer (some ⟨A,0,none⟩),.pointer (some ⟨L,0,none⟩)]) w (lC (qp A L lv log) (fun k=>k=A) X pending w je.v (replay log a i)):=by
 subst hF;have hA:=cell_of_one h.at_;have hfA:=free_of_one h.at_;have hL:=cell_of_one h.EC;have hAw:=lt_of_heap h.at_;have hLw:=lt_of_heap h.EC;have hne:¬L=A:=fun e=>h.ne e.symm;have hmx:=h.reads.y_;have HH:=hide h;obtain⟨_,B,c,rfl,hnc,hcm,_⟩:=h.reads;clear h;unfold maxLen at hmx;obtain⟨ak,ab,ac,ax⟩:=a;simp only[Acc.v]
 by_cases hlt:i<log.length
 ·obtain⟨b,o,c',u1,u2,hv,_,_,hb,hu1,hu2,hc1,hc2⟩:=(aA HH).reads.at2 hlt;cases hv;have hbA:¬b=A:=fun e=>(aA HH).own (by omega) (by rw[e];rfl);rw[(aAs log i).1,zH hlt] at hu1;rw[(aAs log i).2,zH hlt] at hu2;cases hu1;cases hu2;have R:Hid (replay log ⟨ak,ab,ac,ax⟩ i=.ok log[i] (i+1)):=hide (by unfold replay;rw[zH hlt]);generalize log[i]=r at *
  have hli:¬log.length<=i:=by omega
  go_enter Tryz.func43,Tryz.ntmps43
  go_wp2
  go_returns
  have hs:=(aA HH).step hlt;refine lC.ok (aA R) rfl ?_ ?_
  ·exact (hs.gm (dm.alloc (dm.refl _ _) _)).gm (dm.alloc (dm.refl _ _) _)
  ·exact ((dm.setCell (S:=fun k=>k=A) (p:=⟨A,0,none⟩) (dm.refl _ _) (.inl rfl) _).alloc _).alloc _
 ·have R:Hid (replay log ⟨ak,ab,ac,ax⟩ i=.error ⟨ak,ab,ac,ax⟩ i):=hide (by unfold replay;rw[List.getElem?_eq_none (by omega)])
  have hli:log.length<=i:=by omega
  go_enter Tryz.func43,Tryz.ntmps43
  go_wp2
  refine⟨rfl,lC.err (aA R) rfl ?_ ?_⟩
  ·exact ((aA HH).gm (dm.alloc (dm.refl _ _) _)).gm (dm.alloc (dm.refl _ _) _)
  ·exact ((dm.refl _ _).alloc _).alloc _
theorem aPf{P:Program}{ops:Array Oper}{o:Oper}{a:Act}{w w':World}{K:Act->World->Prop}{Q:Exit->Act->World->Prop}{E:Prop}(hgd:o.guard=none){ty:TypeId}{x y:Operand}(ho:o.op=.store ty x y)(hr:(Instr.storeAt ty (a.eval x) (a.eval y)).run P w=.ok () w')(h:K (a.put o.dst undef) w') :
  if Region.wanted o (yielded ops a.tmps)=true then Oper.wp P o a w K Q else E:=by
 have hw:Region.wanted o (yielded ops a.tmps)=true:=by simp[Region.wanted,hgd]
 rw[if_pos hw];unfold Oper.wp;rw[show (execOp a.eval o).run P w=.ok .skip w' from by simp[execOp,ho,hr]];exact h
theorem vF:u_ Tryz.prog 37 4:=⟨⟨_,Tryz.underlying37,rfl⟩,by kernel_rfl⟩
theorem aFq(x:Value)(w:World):(Instr.typeAssert (.iface 114 x) 20 114 true).run Tryz.prog w=.ok (.tuple #[x,.bool true]) w:=by kernel_rfl
attribute [local go_sem] aFq
theorem catch_panicking(Ab Ob Db:Nat)(a:Acc)(x0 x1 x2 x3 z0:Value)(y:Array Value)(older:List PanicEntry)(w:World)(hy:y.size=55)
  (hA:au w Ab 37 #[x0,x1,x2,x3]) (hO:au w Ob 40 y) (hD:au w Db 4 #[z0]) (Ye:¬Ab=Ob) (hAD:¬Ab=Db) (Qg:¬Ob=Db) :
  CallsD Tryz.prog 44 #[.pointer (some ⟨Ab,0,none⟩),.pointer (some ⟨Ob,0,none⟩),.pointer (some ⟨Db,0,none⟩)] (.panicking ({ v:=pending a,recovered:=false }::older)) w fun e u' w'=>
   e=.returned (.tuple #[])/\u'=.panicking ({ v:=pending a,recovered:=true }::older)/\dm (fun k=>k=Ab\/k=Ob\/k=Db) w w' /\
   au w' Ab 37 #[.int .i64 a.kind,.int .i64 a.ay,.int .i64 a.cell,.string a.bytes]/\au w' Ob 40 (Pv.jq Pv.jr)/\au w' Db 4 #[.bool false]:=by
 have lA:=hA.lt;have lO:=hO.lt;have lD:=hD.lt;have HA:=hide hA;have HO:=hide (And.intro hO hy);have HD:=hide hD;clear hA hO hD hy;have bFB:¬Ob=Ab:=fun e=>Ye e.symm;have bFC:¬Db=Ab:=fun e=>hAD e.symm;have aLN:¬Db=Ob:=fun e=>Qg e.symm;obtain⟨ak,ab,ac,ax⟩:=a;simp only[pending,Acc.v];refine callsD_of_wpS Tryz.func44 rfl fun c₀ cs hu=>?_;simp only[Tryz.ntmps44,List.size_toArray,List.length_cons,List.length_nil,Nat.reduceAdd,Nat.reduceSub,Array.replicate_succ,Array.replicate_zero,List.push_toArray,List.append_toArray,List.nil_append,List.cons_append];apply wpS_seq;apply wpS_region;simp[wpOpsS,go_sem,recoverD,hu,Exit.thenS];refine wpS_of_wp ?_
 go_upto_region 8 with fail
 generalize hW:World.alloc _ (.cells _ 40)=W
 have z1:Ext w W:=by
  rw[<-hW]
  repeat' (first|(with_reducible exact dm.refl _ _)|(with_reducible exact Ext.refl _)|(with_reducible assumption)|(with_reducible refine dm.alloc ?_ _)|(with_reducible refine dm.drew ?_)|(with_reducible refine dm.drewN ?_ _)|(with_reducible refine dm.setCell ?_ ?_ _)|(with_reducible refine Ext.alloc ?_ _)|(with_reducible refine Ext.drew ?_)|(with_reducible refine Ext.drewN ?_ _)|(with_reducible refine Ext.setCell ?_ ?_ _)|(simp;done)|(simp;omega)|omega)
 have z2:au W w.heap.size 114 #[.int .i64 ak,.int .i64 ab,.int .i64 ac,.string ax]:=by
  rw[<-hW];exact (au.new' _ _ _ (by simp)).alloc _
 have z3:au W (w.heap.size+1) 40 (Pv.jq Pv.jr):=by
  rw[<-hW];exact au.new' _ _ _ (by simp)
 have HZ:=hide (show Ext w W.drew/\au W.drew Ab 37 #[x0,x1,x2,x3]/\au W.drew Ob 40 y/\au W.drew Db 4 #[z0] from⟨z1.drew,((aA HA).ext z1).drew,((aA HO).1.ext z1).drew,((aA HD).ext z1).drew⟩);refine wp_region_held_drew (S:=fun W=>au W w.heap.size 114 #[.int .i64 ak,.int .i64 ab,.int .i64 ac,.string ax]/\au W (w.heap.size+1) 40 (Pv.jq Pv.jr)) (by kernel_rfl) ⟨z2.drew,z3.drew⟩ (fun hHeld=>?_);clear hW z1 z2 z3;generalize W.drew=Wd at HZ hHeld ⊢;refine wpAnyH_take (i:=0) (v:=?_) rfl (by kernel_rfl) (by kernel_rfl) (by kernel_rfl) (fun _ _ _ h=>h) (Or.inl ⟨by rfl,fun wz hSz=>?_⟩) (by assumption) ?_;rotate_left
 ·(first|(go_simp;done)|(go_simp;with_reducible rfl))
 try simp only[Act.put,zA,zB,zC,zD,zF]
 refine wpAnyH_take (i:=1) (v:=_) rfl (by kernel_rfl) (by kernel_rfl) (by kernel_rfl) (fun _ _ _ h=>h) (XE vF rfl (by rfl) rfl rfl (fun w' hw=>hw.1)) (by assumption) ?_
 try simp only[Act.put,zA,zB,zC,zD,zE,zF]
 refine wpAnyH_take (i:=2) (v:=_) rfl (by kernel_rfl) (by kernel_rfl) (by kernel_rfl) (fun _ _ _ h=>h) (XE iV rfl (by rfl) rfl (Pv.dN Pv.jL) (fun w' hw=>hw.2)) (by assumption) ?_
 try simp only[Act.put,zA,zB,zC,zD,zE,zF]
 refine wpAnyH_ready (rs:=[3]) (by kernel_rfl) (by simp) (AllReadyH.cons (o:=_) rfl (fun K hK=>?_) AllReadyH.nil)
 (refine iI (ty:=37) (t:=37) (x:=.tmp 0) (y:=.tmp 14) rfl rfl vF rfl rfl (aA HZ).2.1 rfl rfl (by rw[<-Array.all_toList];rfl) ?_;intro w2 hb2 hc2 hz2;have hS:=And.intro (hHeld.1.gm hc2 (by omega)) (hHeld.2.gm hc2 (by omega));have H2:=hide (And.intro hb2 (And.intro hc2 hz2));clear hHeld hb2 hc2 hz2)
 refine hK.out _ _ ?_ (fun hHeld=>?_)
 ·exact hS
 clear hK K
 try simp only[Act.put,zD,zE,zF]
 refine wpAnyH_ready (rs:=[4]) (by kernel_rfl) (by simp) (AllReadyH.cons (o:=_) rfl (fun K hK=>?_) AllReadyH.nil)
 (refine iI (ty:=40) (t:=40) (x:=.tmp 1) (y:=.tmp 15) rfl rfl iV rfl rfl ((aA HZ).2.2.1.gm (aA H2).2.1 (by omega)) (aA HO).2 (Pv.dN Pv.jL) (Pv.kX _) ?_;intro w3 hb3 hc3 hz3;have hS:=And.intro (hHeld.1.gm hc3 (by omega)) (hHeld.2.gm hc3 (by omega));have hDD:=(((aA HZ).2.2.2.gm (aA H2).2.1 (by omega)).gm hc3 (by omega));have H3:=hide (And.intro hb3 (And.intro hc3 (And.intro hz3 hDD)));clear hHeld hb3 hc3 hz3 hDD)
 refine hK.out _ _ ?_ (fun hHeld=>?_)
 ·exact hS
 clear hK K
 try simp only[Act.put,zD,zE,zF]
 refine wpAnyH_ready (rs:=[5]) (by kernel_rfl) (by simp) (AllReadyH.cons (o:=_) rfl (fun K hK=>?_) AllReadyH.nil)
 (obtain⟨w4,e4,b4,c4,s4⟩:=(aTh Db false).st _ #[z0] rfl (aA H3).2.2.2;refine aPf (ty:=4) (x:=.tmp 2) (y:=.const (.bool false)) rfl rfl e4 ?_;have hS:=And.intro (hHeld.1.gm c4 (by omega)) (hHeld.2.gm c4 (by omega));have H4:=hide (And.intro b4 (And.intro c4 s4));clear hHeld b4 c4 s4 e4)
 refine hK.out _ _ ?_ (fun hHeld=>?_)
 ·exact hS
 clear hK K
 try simp only[Act.put,zD,zE,zF]
 refine wpAnyH_done (by kernel_rfl) ?_ _;clear hHeld
 go_wp2
 obtain⟨z1,zA,zO,zD⟩:=aA HZ;obtain⟨b2,c2,s2⟩:=aA H2;obtain⟨b3,c3,s3,zD3⟩:=aA H3;obtain⟨b4,c4,s4⟩:=aA H4
 refine⟨rfl,_,rfl,.tuple #[],results_none rfl _ _ _,rfl,rfl,?_,?_,?_,?_⟩
 ·exact ((z1.trans' c2 (T:=fun k=>k=Ab) (U:=fun k=>k=Ab\/k=Ob\/k=Db) (fun _ _ h=>h.elim) (fun i _ e=>.inl e)).trans' c3 (T:=fun k=>k=Ob) (U:=fun k=>k=Ab\/k=Ob\/k=Db) (fun _ _ h=>h) (fun i _ e=>.inr (.inl e))).trans' c4 (T:=fun k=>k=Db) (U:=fun k=>k=Ab\/k=Ob\/k=Db) (fun _ _ h=>h) (fun i _ e=>.inr (.inr e))
 ·exact (b2.gm c3 Ye).gm c4 hAD
 ·exact b3.gm c4 Qg
 ·exact b4
theorem catch_idle(x y z:Value)(w:World) :
  CallsD Tryz.prog 44 #[x,y,z] .returning w fun e u' w'=>e=.returned (.tuple #[])/\u'=.returning/\w=w':=by
 refine callsD_of_wpS Tryz.func44 rfl fun c₀ cs hu=>?_;simp only[Tryz.ntmps44,List.size_toArray,List.length_cons,List.length_nil,Nat.reduceAdd,Nat.reduceSub,Array.replicate_succ,Array.replicate_zero,List.push_toArray,List.append_toArray,List.nil_append,List.cons_append];apply wpS_seq;apply wpS_region;simp[wpOpsS,go_sem,recoverD,hu,Exit.thenS];refine wpS_of_wp ?_
 go_wp2
 exact⟨rfl,.returning,by cases c₀;simp_all,.tuple #[],results_none rfl _ _ _,rfl,rfl,rfl⟩
end
def kS(w:World)(lv:Value):World:=
 ((((w.alloc (.cells #[lv] 32)).alloc (.cells #[.int .i64 0,.int .i64 0,.int .i64 0,.string { data:=#[] }] 37)).alloc (.cells (Pv.jq Pv.jr) 40)).alloc (.cells #[.bool false] 4)).alloc (.cells #[.int .i64 0] 3)
theorem aFl(w:World)(lv:Value)(log:List je)(hl:Reads w 2 lv log.length (logCells log)) :
  Ext w (kS w lv)/\(kS w lv).heap.size=w.heap.size+5 /\
  qp (w.heap.size+1+1+1+1) w.heap.size lv log 0 (fun k=>k=w.heap.size+1\/k=w.heap.size+1+1\/k=w.heap.size+1+1+1) (kS w lv) /\
  au (kS w lv) (w.heap.size+1) 37 #[.int .i64 0,.int .i64 0,.int .i64 0,.string { data:=#[] }] /\
  au (kS w lv) (w.heap.size+1+1) 40 (Pv.jq Pv.jr)/\au (kS w lv) (w.heap.size+1+1+1) 4 #[.bool false]:=by
 have hlt:=fun k (hn:0<log.length) hk=>hl.BU (by omega) hn k hk
 have hE:Ext w (kS w lv):=by
  unfold kS
  repeat' (first|(with_reducible exact dm.refl _ _)|(with_reducible exact Ext.refl _)|(with_reducible assumption)|(with_reducible refine dm.alloc ?_ _)|(with_reducible refine dm.drew ?_)|(with_reducible refine dm.drewN ?_ _)|(with_reducible refine dm.setCell ?_ ?_ _)|(with_reducible refine Ext.alloc ?_ _)|(with_reducible refine Ext.drew ?_)|(with_reducible refine Ext.drewN ?_ _)|(with_reducible refine Ext.setCell ?_ ?_ _)|(simp;done)|(simp;omega)|omega)
 refine⟨hE,by simp[kS],⟨?_,?_,hl.ext hE,by omega,?_,by omega,?_⟩,?_,?_,?_⟩
 ·exact au.new' _ _ _ (by simp)
 ·exact ((((au.new w 32 #[lv]).alloc _).alloc _).alloc _).alloc _
 ·intro hn hk;have:=hlt _ hn hk;omega
 ·rintro k hk
  refine⟨by simp[kS];omega,by omega,by omega,fun hn hk'=>?_⟩
  have:=hlt _ hn hk';omega
 ·exact (((au.new' _ _ _ (by simp)).alloc _).alloc _).alloc _
 ·exact ((au.new' _ _ _ (by simp)).alloc _).alloc _
 ·exact (au.new' _ _ _ (by simp)).alloc _
theorem aCq(tmps:Array Value)(w:World)(Ab Ob Db:Nat)(a0 a1 a2 a3 d0:Value)(oc:Array Value)(ho:oc.size=55)(h4:tmps[4]?.getD undef=.pointer (some ⟨Ab,0,none⟩))(h5:tmps[5]?.getD undef=.pointer (some ⟨Ob,0,none⟩))(h6:tmps[6]?.getD undef=.pointer (some ⟨Db,0,none⟩))
  (hA:au w Ab 37 #[a0,a1,a2,a3]) (hO:au w Ob 40 oc) (hD:au w Db 4 #[d0]) :
  (results Tryz.f28 tmps).run Tryz.prog w=.ok (.tuple #[.agg #[a0,a1,a2,a3],.agg oc,d0]) w:=by
 have a0':=iR hA vF rfl;have b0:=iR hO iV ho;have d0':=hD.cell 0;simp only[List.getElem?_toArray,List.getElem?_cons_zero] at d0'
 have d1:(loadVar 4 ⟨Db,0,none⟩).run Tryz.prog w=.ok d0 w:=by simp[go_sem,d0']
 simp[results,Tryz.results28,h4,h5,h6,asAddr,a0',b0,d1]
theorem IG (G:Nat) (pc:Array Value) (lv:Value) (log:List je) (p:ai Pv.jd) (T:Nat->Prop) (w:World) (hl:Reads w 2 lv log.length (logCells log)) (hG:∀ (args:Array Value) (w:World),(callFunc G args).run Tryz.prog w=.ok (.enter G args) w)
    (hp : ∀ w1,Ext w w1->w1.heap.size=w.heap.size+5->qp (w.heap.size+1+1+1+1) w.heap.size lv log 0 (fun k=>k=w.heap.size+1\/k=w.heap.size+1+1\/k=w.heap.size+1+1+1) w1 ->
      Calls Tryz.prog G (#[.func (.func 43) #[] #[.pointer (some ⟨w.heap.size+1+1+1+1,0,none⟩),.pointer (some ⟨w.heap.size,0,none⟩)]]++pc) w1 fun e w2=>dm (fun k=>k=w.heap.size+1+1+1+1\/(T k/\k<w.heap.size)) w1 w2 /\
        ((∃ a i,p.run (replay log) 0=.ok a i/\Pv.qj a/\e=.returned (.agg (Pv.jq a)))\/∃ c i older,p.run (replay log) 0=.error c i/\Pv.Wq older/\e=.panicked ({ v:=pending c,recovered:=false }::older))) :
    Calls Tryz.prog 28 #[.func (.func G) #[] pc,lv] w fun e w'=>dm T w w' /\
      (
       (∃ a i,p.run (replay log) 0=.ok a i/\Pv.qj a/\e=.returned (.tuple #[.agg #[.int .i64 0,.int .i64 0,.int .i64 0,.string aS],.agg (Pv.jq a),.bool true])) \/
       ∃ c i,p.run (replay log) 0=.error c i/\e=.returned (.tuple #[c.v,.agg (Pv.jq Pv.jr),.bool false])):=by
  have hmf:∀ (fn:Fn) (first cap:Array Value) (w:World),(Instr.makeFunc fn first cap).run Tryz.prog w=.ok (.func fn first cap) w:=fun _ _ _ _=>rfl;have HP:=hide hp;have HL:=hide hl;obtain⟨_,B,c,rfl,hnc,hcm,_⟩:=hl;clear hp hnc hcm
  go_enter_defers Tryz.func28,Tryz.ntmps28
  go_wp2_with fail
  obtain⟨hE,hsz,hI,hBA,hBO,hBD⟩:=aFl w (.slice B log.length c) log (aA HL);refine (aA HP (kS w (.slice B log.length c)) hE hsz hI).mono ?_;rintro e w1 ⟨h2,hq⟩
  have nA:¬(w.heap.size+1=w.heap.size+1+1+1+1\/(T (w.heap.size+1)/\w.heap.size+1<w.heap.size)):=by rintro (h|⟨_,h⟩)<;>omega
  have nO:¬(w.heap.size+1+1=w.heap.size+1+1+1+1\/(T (w.heap.size+1+1)/\w.heap.size+1+1<w.heap.size)):=by rintro (h|⟨_,h⟩)<;>omega
  have nD:¬(w.heap.size+1+1+1=w.heap.size+1+1+1+1\/(T (w.heap.size+1+1+1)/\w.heap.size+1+1+1<w.heap.size)):=by rintro (h|⟨_,h⟩)<;>omega
  have hA:=hBA.gm h2 nA;have hO:=hBO.gm h2 nO;have hD:=hBD.gm h2 nD;have hEx:Hid (dm T w w1):=hide (hE.trans' h2 (fun _ _ h=>h.elim) (fun i hi e=>by rcases e with e|e;omega;exact e.1));rcases hq with⟨o,s,hr,hok,rfl⟩|⟨a,s,older,hr,hno,rfl⟩
  ·
    have HR:=hide (And.intro hr hok);have HA:=hide hA;have HO:=hide hO;have HD:=hide hD;have hoo:=Pv.dN hok;have Kv:=Pv.kX o;clear hr h2 hE hsz hI hBA hBO hBD HP nA nO nD hA hO hD hok;generalize hoc:Pv.jq o=oc at *
    have e1:¬w.heap.size+1=w.heap.size+1+1:=by omega
    have e2:¬w.heap.size+1=w.heap.size+1+1+1:=by omega
    have e3:¬w.heap.size+1+1=w.heap.size+1:=by omega
    have e4:¬w.heap.size+1+1=w.heap.size+1+1+1:=by omega
    have e5:¬w.heap.size+1+1+1=w.heap.size+1:=by omega
    have e6:¬w.heap.size+1+1+1=w.heap.size+1+1:=by omega
    go_wp2_with (first
      |(refine aT (ty:=37) (t:=37) (x:=.tmp 4) (y:=.tmp 11) rfl rfl vF rfl rfl (aA HA) rfl rfl (by rw[<-Array.all_toList];rfl) ?_;intro w2 hb2 hc2 hz2;have H2:=hide (And.intro hb2 (And.intro hc2 hz2));clear hb2 hc2 hz2)
      |(refine aT (ty:=40) (t:=40) (x:=.tmp 5) (y:=.tmp 14) rfl rfl iV rfl rfl ((aA HO).gm (aA H2).2.1 e3) (Pv.dN Pv.jL) hoo Kv ?_;intro w3 hb3 hc3 hz3;have hDD:=((aA HD).gm (aA H2).2.1 e5).gm hc3 e6;have d1:=hDD.cell 0;have f1:=hDD.frozen;have l1:=hDD.lt;simp only[List.getElem?_toArray,List.getElem?_cons_zero] at d1;have H3:=hide (And.intro hb3 (And.intro hc3 (And.intro hz3 hDD)));clear hb3 hc3 hz3 hDD))
    obtain⟨b2,c2,s2⟩:=aA H2;obtain⟨b3,c3,s3,hDD⟩:=aA H3;refine leaves_cons (f:=44) (args:=#[.pointer (some ⟨w.heap.size+1,0,none⟩),.pointer (some ⟨w.heap.size+1+1,0,none⟩),.pointer (some ⟨w.heap.size+1+1+1,0,none⟩)]) (by simp) (by simp[go_sem]) ?_;refine (catch_idle _ _ _ _).mono ?_;rintro e u' w4 ⟨rfl,rfl,rfl⟩
    refine⟨_,aCq _ _ (w.heap.size+1) (w.heap.size+1+1) (w.heap.size+1+1+1) (.int .i64 0) (.int .i64 0) (.int .i64 0) (.string { data:=#[] }) (.bool true) oc hoo rfl rfl rfl ((b2.gm c3 e1).far (p:=⟨w.heap.size+1+1+1,0,none⟩) e2 _) (b3.far (p:=⟨w.heap.size+1+1+1,0,none⟩) e4 _) (hDD.wu 0 _),?_,?_⟩
    · exact (((aA hEx).trans' c2 (fun _ _ h=>h) (fun i hi e=>by omega)).trans' c3 (fun _ _ h=>h) (fun i hi e=>by omega)).setCell (.inr (show w.heap.size<=w.heap.size+1+1+1 by omega)) _
    · exact .inl ⟨o,s,(aA HR).1,(aA HR).2,by rw[hoc];rfl⟩
  ·
    have HR:=hide hr;have HA:=hide hA;have HO:=hide hO;have HD:=hide hD;clear hr h2 hE hsz hI hBA hBO hBD HP nA nO nD hA hO hD
    go_wp2
    refine leaves_cons (f:=44) (args:=#[.pointer (some ⟨w.heap.size+1,0,none⟩),.pointer (some ⟨w.heap.size+1+1,0,none⟩),.pointer (some ⟨w.heap.size+1+1+1,0,none⟩)]) (by simp) (by simp[go_sem]) ?_;refine (catch_panicking _ _ _ a _ _ _ _ _ _ older _ (Pv.dN Pv.jL) (aA HA) (aA HO) (aA HD) (by omega) (by omega) (by omega)).mono ?_;rintro e u' w2 ⟨rfl,rfl,hc,hA',hO',hD'⟩;have hst:settle (.panicking ({ v:=pending a,recovered:=true }::older))=.returning:=Pv.yX hno;show Leaves _ _ _ _ _ (settle _) _;rw[hst]
    refine⟨_,aCq _ _ _ _ _ _ _ _ _ _ _ (Pv.dN Pv.jL) rfl rfl rfl hA' hO' hD',?_,?_⟩
    rotate_left 1
    · exact .inr ⟨a,s,aA HR,rfl⟩
    · exact (aA hEx).trans' hc (fun _ _ h=>h) (fun i hi e=>by rcases e with e|e|e<;>omega)
namespace Pv
def Aq(log:List je):List Acc->Option je:=fun l=>match l.length with
 |0=>none
 |n+1=>log[n]?
theorem yG(log:List je)(l:List Acc)(c:Acc):Aq log (l++[c])=log[l.length]?:=by
 unfold Aq;rw[List.length_append];rfl
theorem aCx{log:List je}{a:Acc}{i:Nat}{r:je}(h:log[i]?=some r):replay log a i=.ok r (i+1):=by unfold replay;rw[h]
theorem aCy{log:List je}{a:Acc}{i:Nat}(h:log[i]?=none):replay log a i=.error a i:=by unfold replay;rw[h]
theorem bCq{α:Type}(log:List je)(p:ai α):∀ l:List Acc,l.length<=log.length ->
  ((go (Aq log) p l).2.length<=log.length->p.run (replay log) l.length=.ok (go (Aq log) p l).1 (go (Aq log) p l).2.length) /\
  (∀ l' c,l'++[c] <+: (go (Aq log) p l).2->l <+: l'->l'.length=log.length->p.run (replay log) l.length=.error c log.length):=by
 induction p with
 |ret a=>
  refine fun l hl=>⟨fun _=>rfl,fun l' c h1 h2 h3=>?_⟩;have h4:=h1.length_le;have h5:=h2.length_le;rw[List.length_append,List.length_singleton] at h4;have h6:(go (Aq log) (ai.ret a) l).2=l:=rfl;rw[h6] at h4
  omega
 | ask a k ih=>
  intro l hl;rw[vW];have hpre:=uD (Aq log) (k (ans (Aq log) (l++[a]))) (l++[a])
  have hlen:(l++[a]).length=l.length+1:=by simp
  cases hr:log[l.length]? with
  | some r=>
   have hlt:l.length<log.length:=(List.getElem?_eq_some_iff.1 hr).1
   have ha:ans (Aq log) (l++[a])=r:=by unfold ans;rw[yG,hr];rfl
   rw[ha] at hpre ⊢;obtain⟨i1,i2⟩:=ih r (l++[a]) (by omega);rw[hlen] at i1 i2
   have hrun:(ai.ask a k).run (replay log) l.length=(k r).run (replay log) (l.length+1):=by
    simp only[ai.run,aCx hr]
   rw[hrun]
   refine⟨i1,fun l' c h1 h2 h3=>i2 l' c h1 ?_ h3⟩
   exact List.prefix_of_prefix_length_le hpre ((List.prefix_append l' [c]).trans h1) (by rw[hlen];omega)
  | none=>
   have hge:log.length<=l.length:=List.getElem?_eq_none_iff.1 hr
   have hrun:(ai.ask a k).run (replay log) l.length=.error a l.length:=by
    simp only[ai.run,aCy hr]
   refine⟨fun h=>?_,fun l' c h1 h2 h3=>?_⟩
   ·have:=hpre.length_le;rw[hlen] at this;omega
   ·have hll:l'=l:=(h2.eq_of_length (by omega)).symm;subst hll;have:=List.prefix_of_prefix_length_le h1 hpre (by simp);have h4:=this.eq_of_length (by simp)
    have h5:c=a:=by simpa using h4
    rw[hrun,h5,h3]
def UD(A L:Nat)(lv:Value)(log:List je):Dv where
 hd:=.func (.func 43) #[] #[.pointer (some ⟨A,0,none⟩),.pointer (some ⟨L,0,none⟩)]
 O:=Aq log
 S:=fun k=>k=A
 inv:=fun l X w=>qp A L lv log l.length X w
 pan:=fun l _ _ chain=>∃ l' c,l=l'++[c]/\l'.length<=log.length/\∃ older,Wq older/\chain={ v:=pending c,recovered:=false }::older
 one:=rfl
 oz:=rfl
 notS:=fun _ _ _ b h hb=>(h.mine b hb).2.1
 grow:=fun l X Y w w' h hc hY=>by
  have h':=h.gm hc
  refine⟨h'.at_,h'.EC,h'.reads,h'.ne,h'.own,h'.le,fun k hk=>?_⟩
  rcases hY k hk with hx|⟨h1,h2⟩
  ·exact h'.mine k hx
  ·have h3:=lt_of_heap h.at_;have h4:=lt_of_heap h.EC
   refine⟨h2,by omega,by omega,fun hn hk'=>?_⟩
   have:=h.reads.BU (by omega) hn k hk';omega
theorem aZr(A L:Nat)(lv:Value)(log:List je):∀ {d_:List Acc->Prop},n_ Tryz.prog (UD A L lv log) d_:=⟨fun l X w h=>by
 refine⟨_,_,rfl,(fun args w=>by kernel_rfl),fun c _ _=>?_⟩
 refine (UA A L lv log c l.length X w h _ rfl).mono ?_;intro e w' hp
 cases hr:log[l.length]? with
 | some r=>
  obtain⟨h1,h2,h3⟩:=hp.Zt (aCx hr)
  refine⟨h3,.inl ⟨r,?_,h1,?_⟩⟩
  ·exact (yG log l c).trans hr
  ·show qp A L lv log (l++[c]).length X w';rw[List.length_append]
   exact h2
 |none=>
  obtain⟨h1,h2,h3⟩:=hp.Uk (aCy hr)
  exact⟨h3,.inr ⟨_,(yG log l c).trans hr,h1,l,c,rfl,h.le,[],(fun _ h=>by cases h),rfl⟩⟩,fun T hT=>absurd hT.1 (by intro h;cases h)⟩
end Pv
section
namespace Pv
theorem aZp(A L:Nat)(lv:Value)(log:List je):Ei (UD A L lv log):=by
 rintro l X w chain ⟨l',c,rfl,hl,older,hno,rfl⟩
 refine⟨TE,c.v,older,rfl,hno,.inl rfl,l',c,rfl,hl,{ v:=pending c,recovered:=true }::older,fun e he=>?_,rfl⟩
 rcases List.mem_cons.1 he with rfl|he
 ·rfl
 ·exact hno e he
def bFl(log:List je):Prop:=∀ r∈log,r.bytes.size<=1000000
theorem VC{log:List je}(h:bFl log):OB (Aq log):=by
 intro l r hr;unfold Aq at hr
 split at hr
 ·cases hr
 ·exact h r (List.mem_of_getElem? hr)
def TL(q:EStateM.Result Acc Nat jd):Array Value:=match q with
 |.ok a _=>#[.agg #[.int .i64 0,.int .i64 0,.int .i64 0,.string aS],.agg (jq a),.bool true]
 |.error c _=>#[c.v,.agg (jq jr),.bool false]
def Nv(q:EStateM.Result Acc Nat jd):Prop:=match q with
 |.ok a _=>qj a
 |.error _ _=>True
end Pv
open Pv in
theorem IB(m:ji)(hm:ut m)(hml:yc m)(log:List je)(VS:bFl log)(lv:Value)(g:Nat)(w:World)(hM:a_ w)(hg0:YX<g/\YW<g)(hl:Reads w 2 lv log.length (logCells log))(hlg:0<log.length->lv.ownBlock≠some g)(hB:au w g 31 (opC m)) :
  Calls Tryz.prog 28 #[.func (.func 45) #[] #[.pointer (some ⟨g,0,none⟩)],lv] w fun e w'=>dm (fun k=>k=g) w w'/\Nv ((bW m).run (replay log) 0)/\e=.returned (.tuple (TL ((bW m).run (replay log) 0))):=by
 refine (IG 45 #[.pointer (some ⟨g,0,none⟩)] lv log (bW m) (fun k=>k=g) w hl (fun args w=>by kernel_rfl) (fun w1 hE hsz hI=>?_)).mono ?_
 ·have lg:=hB.lt
  have hI2:qp (w.heap.size+1+1+1+1) w.heap.size lv log 0 (fun k=>(k=w.heap.size+1\/k=w.heap.size+1+1\/k=w.heap.size+1+1+1)\/k=g) w1:=
   ⟨
    hI.at_,hI.EC,hI.reads,hI.ne,hI.own,hI.le,fun k hk=>by
    rcases hk with hk|rfl
    ·exact hI.mine k hk
    ·exact⟨by omega,by omega,by omega,hlg⟩⟩
  have hgr:=bCq log (bW m) [] (Nat.zero_le _);refine (aMe m hm hml w1 g (UD (w.heap.size+1+1+1+1) w.heap.size lv log) _ (hB.ext hE) (fun w' hc=>?_) (fun b hb=>?_) (aZr _ _ _ _) (fun _ _ _ _ _ _ h _ _=>h) (aZp _ _ _ _) (VC VS) hI2 (.inr rfl)).mono ?_
  ·have hk1:=Z5 hM (.inl rfl);have hk2:=Z5 hM (.inr rfl);refine (hM.ext hE).gm hc ?_ ?_
   ·rintro (h|h)
    ·have h':YX=w.heap.size+1+1+1+1:=h;omega
    ·have h':YX=g:=h;omega
   ·rintro (h|h)
    ·have h':YW=w.heap.size+1+1+1+1:=h;omega
    ·have h':YW=g:=h;omega
  ·have hb':b=w.heap.size+1+1+1+1:=hb;omega
  rintro e w2 ⟨hc,hq⟩
  refine⟨hc.mono fun b _ hb=>by rcases hb with h|h;exact .inl h;exact .inr ⟨h,by omega⟩,?_⟩
  rcases hq with⟨hok,rfl,hinv⟩|⟨chain,l,rfl,h1,h2,l',c,rfl,h3,older,hno,rfl⟩
  ·exact .inl ⟨_,_,hgr.1 hinv.le,hok,rfl⟩
  ·refine .inr ⟨c,_,older,hgr.2 l' c h1 List.nil_prefix ?_,hno,rfl⟩;have h5:log[l'.length]?=none:=(yG log l' c).symm.trans h2;have:=List.getElem?_eq_none_iff.1 h5;omega
 ·rintro e w' ⟨hc,⟨a,i,hr,hok,rfl⟩|⟨c,i,hr,rfl⟩⟩
  ·rw[hr]
   exact⟨hc,hok,rfl⟩
  ·rw[hr]
   exact⟨hc,trivial,rfl⟩
theorem aMq{tmps:Array Value}{w:World}{Ab Ob:Nat}{ac oc:Array Value}(ha:ac.size=4)(ho:oc.size=55)(h4:tmps.getD 4 undef=.pointer (some ⟨Ab,0,none⟩))(h5:tmps.getD 5 undef=.pointer (some ⟨Ob,0,none⟩))
  (hA:au w Ab 37 ac) (hO:au w Ob 40 oc) :
  (results Tryz.f10 tmps).run Tryz.prog w=.ok (.tuple #[.agg ac,.agg oc,tmps.getD 6 undef]) w:=by
 have a0:=iR hA vF ha;have b0:=iR hO iV ho;simp only[Array.getD_eq_getD_getElem?] at h4 h5;simp[results,Tryz.results10,h4,h5,asAddr,a0,b0]
namespace Pv
def bBh(q:EStateM.Result Acc Nat jd):Acc:=match q with
 |.ok _ _=>⟨0,0,0,aS⟩
 |.error c _=>c
def Rz(q:EStateM.Result Acc Nat jd):jd:=match q with
 |.ok a _=>a
 |.error _ _=>jr
def Wl(q:EStateM.Result Acc Nat jd):Bool:=match q with
 |.ok _ _=>true
 |.error _ _=>false
def Nk(a:Acc):Array Value:=#[.int .i64 a.kind,.int .i64 a.ay,.int .i64 a.cell,.string a.bytes]
theorem JK(q:EStateM.Result Acc Nat jd):TL q=#[.agg (Nk (bBh q)),.agg (jq (Rz q)),.bool (Wl q)]:=by cases q<;>rfl
theorem JL{q:EStateM.Result Acc Nat jd}(h:Nv q):qj (Rz q):=by
 cases q with
 |ok a i=>exact h
 |error c i=>exact jL
end Pv
theorem next_any(m:Pv.ji)(hm:Pv.ut m)(hml:Pv.yc m)(log:List je)(VS:Pv.bFl log)(lv:Value)(w:World)(hM:a_ w)(hl:Reads w 2 lv log.length (logCells log)) :
  Calls Tryz.prog 10 #[.agg (Pv.opC m),lv] w fun e w'=>Ext w w'/\Pv.qj (Pv.Rz ((Pv.bW m).run (replay log) 0))/\e=.returned (.tuple #[.agg (Pv.Nk (Pv.bBh ((Pv.bW m).run (replay log) 0))),.agg (Pv.jq (Pv.Rz ((Pv.bW m).run (replay log) 0))),.bool (Pv.Wl ((Pv.bW m).run (replay log) 0))]):=by
 have Aj:=hide (show (Pv.opC m).size=102 from Pv.qZ hml);have HR:=hide (fun W=>Jr (Pv.opC m) W)
 have HV:Hid (∀ g W,w.heap.size<=g->Ext w W->au W g 31 (Pv.opC m)->Calls Tryz.prog 28 #[.func (.func 45) #[] #[.pointer (some ⟨g,0,none⟩)],lv] W fun e w'=>dm (fun k=>k=g) W w'/\Pv.qj (Pv.Rz ((Pv.bW m).run (replay log) 0))/\e=.returned (.tuple #[.agg (Pv.Nk (Pv.bBh ((Pv.bW m).run (replay log) 0))),.agg (Pv.jq (Pv.Rz ((Pv.bW m).run (replay log) 0))),.bool (Pv.Wl ((Pv.bW m).run (replay log) 0))])):=hide (fun g W hg hE hB=>by
  have hk1:=Pv.Z5 hM (.inl rfl);have hk2:=Pv.Z5 hM (.inr rfl);refine (IB m hm hml log VS lv g W (hM.ext hE) ⟨by omega,by omega⟩ (hl.ext hE) (fun h0 hk=>?_) hB).mono ?_
  ·have:=hl.BU (by omega) h0 _ hk;omega
  ·rintro e w' ⟨h1,h2,rfl⟩
   exact⟨h1,Pv.JL h2,by rw[Pv.JK]⟩)
 obtain⟨q,hq⟩:∃ q,(Pv.bW m).run (replay log) 0=q:=⟨_,rfl⟩;rw[hq] at HV ⊢;obtain⟨mrr,Kw⟩:∃ x,Pv.opC m=x:=⟨_,rfl⟩;rw[Kw] at Aj HR HV ⊢;obtain⟨oc,hoc⟩:∃ x,Pv.jq (Pv.Rz q)=x:=⟨_,rfl⟩;obtain⟨ac,hac⟩:∃ x,Pv.Nk (Pv.bBh q)=x:=⟨_,rfl⟩
 have aBW:ac.size=4:=by rw[<-hac];rfl
 have aLH:ac.all (·.oneCell')=true:=by rw[<-hac,<-Array.all_toList];rfl
 rw[hoc,hac] at HV ⊢;have HO:=hide hoc;obtain⟨_,B,c,rfl,_,_,_⟩:=hl;clear Kw hM hm hml hq hoc hac
 go_enter Tryz.func10,Tryz.ntmps10
 go_upto_region 1 with fail
 generalize hW0:World.alloc _ (.cells _ 40)=W0
 have z1:Ext w W0:=by
  rw[<-hW0]
  repeat' (first|(with_reducible exact dm.refl _ _)|(with_reducible exact Ext.refl _)|(with_reducible assumption)|(with_reducible refine dm.alloc ?_ _)|(with_reducible refine dm.drew ?_)|(with_reducible refine dm.drewN ?_ _)|(with_reducible refine dm.setCell ?_ ?_ _)|(with_reducible refine Ext.alloc ?_ _)|(with_reducible refine Ext.drew ?_)|(with_reducible refine Ext.drewN ?_ _)|(with_reducible refine Ext.setCell ?_ ?_ _)|(simp;done)|(simp;omega)|omega)
 have z2:au W0 w.heap.size 31 mrr:=by rw[<-hW0];exact ((au.new w _ _).alloc _).alloc _
 have z5:au W0 (w.heap.size+1) 37 #[.int .i64 0,.int .i64 0,.int .i64 0,.string { data:=#[] }]:=by rw[<-hW0];exact (au.new' _ _ _ (by simp)).alloc _
 have z6:au W0 (w.heap.size+1+1) 40 (Pv.jq Pv.jr):=by rw[<-hW0];exact au.new' _ _ _ (by simp)
 have z7:W0.heap.size=w.heap.size+3:=by rw[<-hW0];simp
 have HZ:=hide (And.intro z1 (And.intro z2 (And.intro z5 (And.intro z6 z7))));clear hW0 z1 z2 z5 z6 z7
 go_wp2_with (refine dH (ty:=31) (t:=31) (x:=.tmp 2) rfl rfl Pv.aJe rfl (cs:=mrr) (aA HZ).2.1 (aA Aj) ?_)
 refine (aA HR W0).mono ?_;rintro e w1 ⟨rfl,k1,k2,k3⟩;have H1:=hide (And.intro k1 (And.intro k2 k3));clear k1 k2 k3
 go_wp2_with fail
 obtain⟨z1,z2,z5,z6,z7⟩:=aA HZ;obtain⟨k1,k2,k3⟩:=aA H1;refine (aA HV W0.heap.size w1 (by omega) (z1.trans k1) k3).mono ?_;rintro e w2 ⟨hc,hok,rfl⟩;have HA:=hide (show Ext w w2/\au w2 (w.heap.size+1) 37 #[.int .i64 0,.int .i64 0,.int .i64 0,.string { data:=#[] }]/\au w2 (w.heap.size+1+1) 40 (Pv.jq Pv.jr)/\Pv.qj (Pv.Rz q) from⟨(z1.trans k1).trans' hc (fun _ _ h=>h) (fun i hi e=>by omega),(z5.ext k1).gm hc (by omega),(z6.ext k1).gm hc (by omega),hok⟩);clear z1 z2 z5 z6 z7 k1 k2 k3 hc hok HZ H1 HV HR Aj
 go_wp2_with (first
  |(refine aT (ty:=37) (t:=37) (x:=.tmp 4) (y:=.tmp 11) rfl rfl vF rfl rfl (aA HA).2.1 rfl aBW aLH ?_;intro w3 hb3 hc3 hz3;have H3:=hide (And.intro hb3 (And.intro hc3 hz3));clear hb3 hc3 hz3)
  |(refine aT (ty:=40) (t:=40) (x:=.tmp 5) (y:=.tmp 12) rfl rfl iV rfl rfl ((aA HA).2.2.1.gm (aA H3).2.1 (by omega)) (Pv.dN Pv.jL) (by rw[<-aA HO];exact Pv.dN (aA HA).2.2.2) (by rw[<-aA HO];exact Pv.kX _) ?_;intro w4 hb4 hc4 Bo;have H4:=hide (And.intro hb4 (And.intro hc4 Bo));clear hb4 hc4 Bo))
 obtain⟨x1,_,_,hok⟩:=aA HA;obtain⟨b3,c3,s3⟩:=aA H3;obtain⟨b4,c4,s4⟩:=aA H4;have hoc:=aA HO;refine bodyPost_ret (aMq aBW (by rw[<-hoc];exact Pv.dN hok) rfl rfl (b3.gm c4 (by omega)) b4) rfl ⟨?_,hok,rfl⟩;exact (x1.trans' c3 (fun _ _ h=>h) (fun i hi e=>by omega)).trans' c4 (fun _ _ h=>h) (fun i hi e=>by omega)
end
namespace Pv
theorem Rq(C:Ctx)(a:Acc):RL C (rX a) (Nk a).toList:=.cons (xs:=[_]) (.lit rfl) (.cons (xs:=[_]) (.lit rfl) (.cons (xs:=[_]) (.lit rfl) (.cons (xs:=[_]) (.lit rfl) .nil)))
def Ur(q:EStateM.Result Acc Nat jd):PV:=.lh [.agg (rX (bBh q)),.agg (g_ (Rz q)),.one (.lit (.bool (Wl q)))]
def JM:List PV->Option (Prop×PV)
 |[.w (.agg ol),.w (.one lv)]=>match bEx ol,UG lv with
  |some m,some (p,log)=>some (p/\ut m/\bFl log,Ur ((bW m).run (replay log) 0))
  |_,_=>none
 |_=>none
theorem bBg:aj Tryz.prog a_ 10 (bD true JM):=by
 refine aZ (aF Tryz.func10 (by kernel_rfl) rfl) (fun xs p r hg hp w ok0 vs hI hv=>?_);unfold JM at hg
 split at hg
 ·rename_i ol lv
  split at hg
  ·rename_i m p1 log em e1;cases hg;obtain⟨q1,q2,q3⟩:=hp
   match vs,hv with
   | [v1,v2],⟨k1,k2,_⟩=>
    cases k1 with
    | w k1=>cases k1 with
     | @agg _ c1 k1=>
      cases k2 with
      | w k2=>cases k2 with
       |one k2=>
        rw[aKk em] at k1;obtain⟨h1,hid,hbt⟩:=aTd k1;have ec:c1=opC m:=Array.ext' h1;subst ec;refine (next_any m q2 ⟨q2.root,hid,q2.link,q2.ot,q2.xt,hbt⟩ log q3 v2 w hI (Ox e1 q1 k2)).mono ?_;rintro e w' ⟨hE,hok,rfl⟩
        refine⟨_,rfl,hE,.lh rfl (fun i x hx=>?_)⟩
        match i,hx with
        |0,hx=>cases hx;exact⟨_,rfl,.agg (Rq _ _)⟩
        |1,hx=>cases hx;exact⟨_,rfl,.agg (bAw _ hok)⟩
        |2,hx=>cases hx;exact⟨_,rfl,.one (.lit rfl)⟩
        |i+3,hx=>cases hx
  ·cases hg
 ·cases hg
def xq(k:Nat):List UInt8:=UInt8.ofNat k::List.replicate 15 0
def Dp(k:Nat):List UInt8:=xq (k+1)
def fF(k:Nat):List UInt8:=100::UInt8.ofNat k::List.replicate 14 0
def vw(k:Nat)(kind:Int):ji:=⟨kind,fF k,Dp k,xq 7,aS,uz,0,uz,0,0,aS,uz⟩
theorem VK(k:Nat)(hk:k<=2):gU Tryz.prog a_ 26 true [h_ k] (.w (.agg [.bs 16 (Dp k)])):=by
 have hc:k=0\/k=1\/k=2:=by omega
 rcases hc with rfl|rfl|rfl
 ·have M:=zZ (I:=a_);refine bJ Tryz.func26 rfl rfl bP (fun A hS hn hI=>?_);refine aB M hI hn (by rfl) (by kernel_rfl) ?_ ?_
  ·simp
  refine aB M hI hn (by rfl) (by kernel_rfl) ?_ ?_
  ·simp
   decide
  refine aO (fun a w hg=>⟨.inr rfl,_,?_,hg⟩);refine aC (by rfl) (by simp) (by rfl) (by rfl) ?_;rfl
 ·have M:=zZ (I:=a_);refine bJ Tryz.func26 rfl rfl bP (fun A hS hn hI=>?_);refine aB M hI hn (by rfl) (by kernel_rfl) ?_ ?_
  ·simp
  refine aB M hI hn (by rfl) (by kernel_rfl) ?_ ?_
  ·simp
   decide
  refine aO (fun a w hg=>⟨.inr rfl,_,?_,hg⟩);refine aC (by rfl) (by simp) (by rfl) (by rfl) ?_;rfl
 ·have M:=zZ (I:=a_);refine bJ Tryz.func26 rfl rfl bP (fun A hS hn hI=>?_);refine aB M hI hn (by rfl) (by kernel_rfl) ?_ ?_
  ·simp
  refine aB M hI hn (by rfl) (by kernel_rfl) ?_ ?_
  ·simp
   decide
  refine aO (fun a w hg=>⟨.inr rfl,_,?_,hg⟩);refine aC (by rfl) (by simp) (by rfl) (by rfl) ?_;rfl
def idG:List PV->Option (Prop×PV)
 |[.w (.one (.lit (.int .i64 k)))]=>some (0<=k/\k<=2,.w (.agg [.bs 16 (Dp k.toNat)]))
 |_=>none
theorem bCn:aj Tryz.prog a_ 26 (bD true idG):=by
 refine aZ (aF Tryz.func26 (by kernel_rfl) rfl) (fun xs p r hg hp=>?_);unfold idG at hg
 split at hg
 ·rename_i k;cases hg;obtain⟨n,rfl⟩:∃ n:Nat,k=(n:Int):=⟨k.toNat,by omega⟩;exact VK n (by omega)
 ·cases hg
def aJP:List (Nat×Spec):=[(26,bD true idG)]
theorem Ue:l_ Tryz.prog a_ (find aJP):=⟨bV (fun p hp=>by
 obtain rfl:=List.mem_singleton.1 hp
 exact bCn),fC⟩
theorem PU(k:Nat)(hk:k<=2)(kind:Int):gU Tryz.prog a_ 14 true [h_ k,h_ kind] (.w (.agg (zk (vw k kind)))):=by
 have hc:k=0\/k=1\/k=2:=by omega
 rcases hc with rfl|rfl|rfl
 ·have M:=Ue;refine bJ Tryz.func14 rfl rfl bP (fun A hS hn hI=>?_);refine aB M hI hn (by rfl) (by kernel_rfl) ?_ ?_
  ·simp
  refine aB M hI hn (by rfl) (by kernel_rfl) ?_ ?_
  ·simp
   try decide
  refine aO (fun a w hg=>⟨.inr rfl,_,?_,hg⟩);refine aC (by rfl) (by simp) (by rfl) (by rfl) ?_;rfl
 ·have M:=Ue;refine bJ Tryz.func14 rfl rfl bP (fun A hS hn hI=>?_);refine aB M hI hn (by rfl) (by kernel_rfl) ?_ ?_
  ·simp
  refine aB M hI hn (by rfl) (by kernel_rfl) ?_ ?_
  ·simp
   try decide
  refine aO (fun a w hg=>⟨.inr rfl,_,?_,hg⟩);refine aC (by rfl) (by simp) (by rfl) (by rfl) ?_;rfl
 ·have M:=Ue;refine bJ Tryz.func14 rfl rfl bP (fun A hS hn hI=>?_);refine aB M hI hn (by rfl) (by kernel_rfl) ?_ ?_
  ·simp
  refine aB M hI hn (by rfl) (by kernel_rfl) ?_ ?_
  ·simp
   try decide
  refine aO (fun a w hg=>⟨.inr rfl,_,?_,hg⟩);refine aC (by rfl) (by simp) (by rfl) (by rfl) ?_;rfl
def J5:List PV->Option (Prop×PV)
 |[.w (.one (.lit (.int .i64 k))),.w (.one (.lit (.int .i64 kind)))]=>some (0<=k/\k<=2,.w (.agg (zk (vw k.toNat kind))))
 |_=>none
theorem aJa:aj Tryz.prog a_ 14 (bD true J5):=by
 refine aZ (aF Tryz.func14 (by kernel_rfl) rfl) (fun xs p r hg hp=>?_);unfold J5 at hg
 split at hg
 ·rename_i k kind;cases hg;obtain⟨n,rfl⟩:∃ n:Nat,k=(n:Int):=⟨k.toNat,by omega⟩;exact PU n (by omega) kind
 ·cases hg
def UC:List (Nat×Spec):=[(15,bD false EX)]
theorem UB:l_ Tryz.prog a_ (find UC):=⟨bV (fun p hp=>by
 obtain rfl:=List.mem_singleton.1 hp
 exact aMs),fC⟩
def aZq(q:Option jd×gy×Nat):PV:=.lh [.agg (lu q.2.1),.agg (g_ (bI q.1))]
def VB(q:Option jd×gy×Nat):St:=⟨[(4,none,dh (.pt 2 0 0)),(5,none,dh (.pt 3 0 0)),(6,none,dh (.pt 1008 0 0)),(7,none,dh (.pt 1009 0 0))],
 [(2,none,0,.box 65 [.lit (.slice none 0 0),.lit (.slice none 0 0),.bs 16 (List.replicate 16 0)]),(3,none,0,.box 40 (g_ jr)),(1008,none,0,.box 65 (lu q.2.1)),(1009,none,0,.box 40 (g_ (bI q.1)))]⟩
theorem KI(h:gy)(m:ji)(hd:p_ h)(hm:ut m):gU Tryz.prog a_ 20 false [.w (.agg (lu h)),.w (.agg (zk m))] (aZq (dS [] (bW m) h 0)):=by
 have M:=UB;refine bJ Tryz.func20 rfl rfl bP (fun A hS hn hI=>?_);obtain⟨q,hq⟩:∃ q,dS [] (bW m) h 0=q:=⟨_,rfl⟩;rw[hq];refine aB M hI hn (by rfl) (by kernel_rfl) ?_ ?_
 ·simp
 refine aB M hI hn (by rfl) (by kernel_rfl) ?_ ?_
 ·simp
  exact⟨hd,hm⟩
 refine aG (s':=VB q) (fun a w hg=>(hg.reset (kT:=[4,5,6,7]) (kO:=[2,3,1008,1009]) (by rfl) (by simp)).same ?_ ?_) ?_
 ·exact .cons rfl (.cons rfl (.cons rfl (.cons rfl .nil)))
 ·have e:(⟨aY h.b.length (bH h.b),iF h.f.length (qi h.f),h.r⟩:gy)=h:=by rw[aK,bM]
  refine .cons (.box rfl) (.cons (.box rfl) (.cons (.box ?_) (.cons (.box ?_) .nil)))
  ·rw[<-hq];change lu (dS [] (bW m) (⟨aY h.b.length (bH h.b),iF h.f.length (qi h.f),h.r⟩:gy) 0).2.1=_;rw[e]
  ·rw[<-hq];change g_ (bI (dS [] (bW m) (⟨aY h.b.length (bH h.b),iF h.f.length (qi h.f),h.r⟩:gy) 0).1)=_;rw[e]
 refine aB M hI hn (by rfl) (by kernel_rfl) ?_ ?_
 ·simp
 refine aO (fun a w hg=>⟨.inr rfl,_,?_,hg⟩);refine aC (by rfl) (by simp) (by rfl) (by rfl) ?_;rfl
def aJf:List PV->Option (Prop×PV)
 |[.w (.agg hl),.w (.agg ol)]=>match AZ hl,bEx ol with
  |some (p,h),some m=>some (p/\p_ h/\ut m,aZq (dS [] (bW m) h 0))
  |_,_=>none
 |_=>none
theorem aMw:aj Tryz.prog a_ 20 (bD false aJf):=by
 refine aZ (aF Tryz.func20 (by kernel_rfl) rfl) (fun xs p r hg hp=>?_);unfold aJf at hg
 split at hg
 ·rename_i hl ol
  split at hg
  ·rename_i p1 h m e1 em;cases hg;obtain⟨q1,q2,q3⟩:=hp;rw[aKk em]
   exact (KI h m q2 q3).args fun C vs hv=>by
    match vs,hv with
    | [x,y],⟨h0,h1,_⟩=>
     refine⟨?_,h1,trivial⟩
     cases h0 with
     |w h3=>cases h3 with
      |agg h4=>exact .w (.agg (wQ e1 q1 h4))
  ·cases hg
 ·cases hg
section
variable {P:Program} {I:World->Prop}
def aOv(P:Program)(I:World->Prop)(f:Nat)(t:TypeId)(l:List PC):Prop:=
 ∀ w:World,I w->Calls P f #[] w fun e w'=>∃ g cs,e=.returned (.pointer (some ⟨g,0,none⟩))/\Ext w w'/\w.heap.size<=g/\g<w'.heap.size/\au w' g t cs/\RL { w:=w',ok:=fun b=>w.heap.size<=b/\b≠g,env:=fun _=>none } l cs.toList
def newSpec(t:TypeId)(l:List PC):Spec:=fun nm xs=>match xs with
 |[]=>.new nm (.box t l) fun v=>.ret (dh (.pt nm v 0))
 |_=>.fail
theorem aWi{f:Nat}{t:TypeId}{l:List PC}(hent:∀ args w,(callFunc f args).run P w=.ok (.enter f args) w)(hg:aOv P I f t l):aj P I f (newSpec t l):=by
 refine⟨hent,fun A s a w env nm ul vs F h hI hv hk=>?_⟩
 unfold newSpec at hk
 split at hk
 ·match vs,hv with
  | [],_=>
   refine (hg w (hI.mem w h.gm)).mono ?_;rintro e w' ⟨g,cs,rfl,hE,h1,h2,h3,h4⟩
   have hno:∀ b,b<w'.heap.size->(w.heap.size<=b/\b≠g)->∀ x ah hd,ng env nm (fresh s nm) (gY g) x=some (ah,hd)->hblk hd≠some b:=by
    intro b hb hok x ah hd he' hbl
    by_cases hx:x=nm
    ·subst hx;rw[eH] at he'
     cases he'
     cases hbl;exact hok.2 rfl
    ·rw[iH hx] at he';have:=(h.live x ah hd b he' hbl).1;have:=hok.1;omega
   obtain⟨h5,h6⟩:=h.new (w':=w') nm none (gY g) (.box t l) hE (fun b hb=>by cases hb;exact⟨h2,h1⟩) (fun hle _=>⟨g,cs,rfl,h3,h4.le ⟨Nat.le_refl _,fun b hb hok=>⟨⟨.inr (Nat.le_trans h.gm.size hok.1),hno b hb hok⟩,rfl⟩,fun _ _ _ h=>by cases h⟩⟩);exact .inl ⟨_,_,_,_,rfl,hk,h5,.w (.one (.pt ⟨_,_,rfl⟩ ⟨_,_,eH _ _ _ _,Nat.le_refl _,fun _=>⟨_,rfl,rfl⟩⟩))⟩
 ·exact hk.elim
def RQN(P:Program)(A:jk)(fn:Func)(t:TypeId)(l:List PC):Exit->Act->World->Prop
 |.panic chain,a,w=>a.defers=A.ds/\C9 A chain w
 |e,a,w=>(e=.normal\/e=.ret)/\∃ s x out,(zx P fn.results).run none s=some out/\All out.conds/\out.wr=[]/\out.val=dh (.pt x 0 0)/\Nat.blt x dx=true/\find s.o x=some (none,0,.box t l)/\l.all (cZ false)=true/\o6 A s a w
theorem Iy(P:Program)(A:jk)(fn:Func)(t:TypeId)(l:List PC):BK A (RQN P A fn t l):=fun _ _ _ hd h=>⟨hd,h⟩
theorem bCx{f:Nat}{fn:Func}{c:Code}{t:TypeId}{l:List PC}(hf:P.funcs[f]?=some fn)(hb:fn.body=some c)(hI:∀ w w',Ext w w'->I w->I w')
  (hT:∀ A:jk,A.S=Non->A.nt=fn.ntmps->lw P I A->iw P A ⟨[],[]⟩ c (RQN P A fn t l)):aOv P I f t l:=by
 intro w Qh
 have hg:o6 (jk.plain w (fun _=>False) fn.ntmps) ⟨[],[]⟩ { tmps:=#[]++Array.replicate (fn.ntmps-0) undef,defers:=[] } w:=by
  refine⟨fun _=>none,{ gm:=dm.refl _ _,size:=?_,dom:=fun x _=>rfl,jf:=fun x g ah o h=>(by cases h),live:=fun x ah hd b h=>(by cases h),inj:=fun x y v1 h1 v2 h2 b h=>(by cases h),tmps:=fun t g pv h hgt=>(by cases h),defers:=rfl,und:=fun t pv h=>(by cases h),jo:=fun x hd h=>(by cases h),dev:=fun g ah O d_ l h=>(by cases h) }⟩
  simp[jk.plain]
 refine calls_of_wp hf hb (wp_mono (hT (jk.plain w (fun _=>False) fn.ntmps) rfl rfl (lw.plain fun w' hc=>hI w w' hc Qh) _ w hg (Iy _ _ _ _ _)) (fun e a' w' he=>?_))
 have he':(e=.normal\/e=.ret)/\∃ s x out,(zx P fn.results).run none s=some out/\All out.conds/\out.wr=[]/\out.val=dh (.pt x 0 0)/\Nat.blt x dx=true/\find s.o x=some (none,0,.box t l)/\l.all (cZ false)=true/\o6 (jk.plain w (fun _=>False) fn.ntmps) s a' w':=by
  cases e with
  |panic chain=>obtain⟨_,l,hl,_⟩:=he;exact hl.elim
  |_=>exact he
 obtain⟨h1,s,x,out,k1,k2,k3,k4,kx,k5,k6,env,hE⟩:=he';have hok:(zx P fn.results).ok none s (fun _ v' wr=>v'=dh (.pt x 0 0)/\wr=[]):=M.ui _ none s out _ k1 (fun p hp=>k2.mem p hp) ⟨k4,k3⟩;obtain⟨v',val,h5,h6,h7,_⟩:=qV hE hok;subst h7;obtain⟨hd,hev,hob⟩:=hE.jf x none 0 _ k5;obtain⟨g,cs,rfl,hB,hR⟩:=hob trivial
 have hval:val=.pointer (some ⟨g,0,none⟩):=by
  cases h6 with
  | w h6=>cases h6 with
   | one h6=>cases h6 with
    |pt j1 j2=>
     obtain⟨vr,hd',e1,_,e3⟩:=j2;have e1':env x=some (vr,hd'):=e1;rw[hev] at e1'
     cases e1'
     obtain⟨g',e4,e5⟩:=e3 rfl;cases e4;exact e5
 subst hval;have hl:=hE.live x 0 _ g hev rfl;have hold:w.heap.size<=g:=hl.2.resolve_right (fun hs=>hs.1.elim)
 have:a'.defers=[]/\∃ v,(results fn a'.tmps).run P w'=.ok v w'/\∃ g cs,Ending.returned v=.returned (.pointer (some ⟨g,0,none⟩))/\Ext w w'/\w.heap.size<=g/\g<w'.heap.size/\au w' g t cs/\RL { w:=w',ok:=fun b=>w.heap.size<=b/\b≠g,env:=fun _=>none } l cs.toList:=
  ⟨hE.defers,_,h5,g,cs,rfl,hE.gm,hold,hl.1,hB,(iP hR k6).le ⟨Nat.le_refl _,fun b hb hok=>⟨⟨hok.1.resolve_left id,fun e=>hok.2 x 0 _ hev (by rw[e];rfl)⟩,rfl⟩,fun _ _ _ h=>by cases h⟩⟩
 rcases h1 with rfl|rfl<;>exact this
end
end Pv
namespace Pv
section
variable {P:Program} {I:World->Prop}
theorem dw.aJU{A:jk}{s:St}{a:Act}{w w':World}{env:Env}(h:dw A s a w env)(x y:Nat)(hxy:x≠y)(hx' hy':Value)(ox oy:o_)(hw:Ext w w')
  (hbx:∀ b,hblk hx'=some b->w.heap.size<=b/\b<w'.heap.size) (hby:∀ b,hblk hy'=some b->w.heap.size<=b/\b<w'.heap.size/\hblk hx'≠some b)
  (hox:(aU A w env).Le (aU A w' (ng (ng env x (fresh s x) hx') y (fresh s y) hy'))->vM (aU A w' (ng (ng env x (fresh s x) hx') y (fresh s y) hy')) hx' ox)
  (hoy:(aU A w env).Le (aU A w' (ng (ng env x (fresh s x) hx') y (fresh s y) hy'))->vM (aU A w' (ng (ng env x (fresh s x) hx') y (fresh s y) hy')) hy' oy)
  (TT:∀ O d_ l,ox≠.dev O d_ l) (hdy:∀ O d_ l,oy≠.dev O d_ l) :
  dw A { s with o:=(x,none,fresh s x,ox)::(y,none,fresh s y,oy)::s.o } a w' (ng (ng env x (fresh s x) hx') y (fresh s y) hy'):=by
 obtain⟨MC,he2⟩:∃ e,ng (ng env x (fresh s x) hx') y (fresh s y) hy'=e:=⟨_,rfl⟩
 have ex:MC x=some (fresh s x,hx'):=by rw[<-he2,iH hxy,eH]
 have ey:MC y=some (fresh s y,hy'):=by rw[<-he2,eH]
 have en:∀ z,z≠x->z≠y->MC z=env z:=fun z h1 h2=>by rw[<-he2,iH h2,iH h1]
 rw[he2] at hox hoy ⊢
 have hfr:∀ z ah hd,env z=some (ah,hd)->ah<fresh s z:=fun z ah hd he=>by
  unfold fresh
  cases hf:find s.o z with
  |none=>rw[h.dom z hf] at he;cases he
  |some p=>
   obtain⟨g',vr,ob⟩:=p;obtain⟨hd2,e1,_⟩:=h.jf z g' vr ob hf;rw[e1] at he;cases he;exact Nat.lt_succ_self _
 have hnew:∀ z ah hd b,MC z=some (ah,hd)->hblk hd=some b->(z=x\/z=y)/\w.heap.size<=b/\b<w'.heap.size\/(z≠x/\z≠y)/\env z=some (ah,hd):=by
  intro z ah hd b he hb
  by_cases h1:z=x
  ·subst h1;rw[ex] at he;cases he;exact .inl ⟨.inl rfl,hbx b hb⟩
  ·by_cases h2:z=y
   ·subst h2;rw[ey] at he;cases he;exact .inl ⟨.inr rfl,(hby b hb).1,(hby b hb).2.1⟩
   ·rw[en z h1 h2] at he;exact .inr ⟨⟨h1,h2⟩,he⟩
 have hle:(aU A w env).Le (aU A w' MC):=by
  refine⟨hw.size,fun b hlt hok=>⟨⟨hok.1,fun z ah hd hz e=>?_⟩,hw.block b hlt (fun e=>e.elim)⟩,fun z ah hd hz=>?_⟩
  ·rcases hnew z ah hd b hz e with⟨_,h1,_⟩|⟨_,h1⟩
   ·have:b<w.heap.size:=hlt;omega
   ·exact hok.2 z ah hd h1 e
  ·have hz':env z=some (ah,hd):=hz
   by_cases h1:z=x
   ·subst h1;have:=hfr z ah hd hz'
    exact⟨_,_,ex,by omega,fun e=>by omega⟩
   ·by_cases h2:z=y
    ·subst h2;have:=hfr z ah hd hz'
     exact⟨_,_,ey,by omega,fun e=>by omega⟩
    ·exact⟨ah,hd,(en z h1 h2).trans hz',Nat.le_refl _,fun _=>rfl⟩
 refine { gm:=h.gm.trans' hw (fun _ _ h=>h) (fun i hi e=>e.elim),size:=h.size,dom:=fun z hz=>?_,jf:=fun z g ah o hf=>?_,live:=fun z ah hd b hz hbl=>?_,inj:=fun z u v1 h1 v2 h2 b hz hu hb1 hb2=>?_,tmps:=fun t g pv hf hg=>?_,defers:=h.defers,und:=h.und,jo:=fun z hd hz=>⟨(h.jo z hd hz).1,(h.jo z hd hz).2.le hle⟩,dev:=fun g ah O d_ l hf hg=>?_ }
 ·by_cases h1:x=z
  ·subst h1;rw[aI] at hz;cases hz
  ·rw[aJ _ _ h1] at hz
   by_cases h2:y=z
   ·subst h2;rw[aI] at hz;cases hz
   ·rw[aJ _ _ h2] at hz;rw[en z (Ne.symm h1) (Ne.symm h2)];exact h.dom z hz
 ·by_cases h1:x=z
  ·subst h1;rw[aI] at hf;cases hf;exact⟨_,ex,fun _=>hox hle⟩
  ·rw[aJ _ _ h1] at hf
   by_cases h2:y=z
   ·subst h2;rw[aI] at hf;cases hf;exact⟨_,ey,fun _=>hoy hle⟩
   ·rw[aJ _ _ h2] at hf;obtain⟨hd,k1,k2⟩:=h.jf z g ah o hf
    exact⟨hd,(en z (Ne.symm h1) (Ne.symm h2)).trans k1,fun hg=>(k2 hg).zn hle (fun b _ hlt=>hw.block b hlt (fun e=>e.elim))⟩
 ·rcases hnew z ah hd b hz hbl with⟨_,h1,h2⟩|⟨_,h1⟩
  ·exact⟨h2,.inl (Nat.le_trans h.gm.size h1)⟩
  ·exact⟨Nat.lt_of_lt_of_le (h.live z ah hd b h1 hbl).1 hw.size,(h.live z ah hd b h1 hbl).2⟩
 ·rcases hnew z v1 h1 b hz hb1 with⟨kz,z1,_⟩|⟨kz,z1⟩<;>rcases hnew u v2 h2 b hu hb2 with⟨ku,u1,_⟩|⟨ku,u1⟩
  ·have key:hblk hy'=some b->hblk hx'≠some b:=fun e=>(hby b e).2.2
   rcases kz with rfl|rfl<;>rcases ku with rfl|rfl
   ·rfl
   ·rw[ex] at hz;rw[ey] at hu;cases hz;cases hu;exact absurd hb1 (key hb2)
   ·rw[ey] at hz;rw[ex] at hu;cases hz;cases hu;exact absurd hb2 (key hb1)
   ·rfl
  ·have:=(h.live u v2 h2 b u1 hb2).1;omega
  ·have:=(h.live z v1 h1 b z1 hb1).1;omega
  ·exact h.inj z u v1 h1 v2 h2 b z1 u1 hb1 hb2
 ·obtain⟨v,k1,k2⟩:=h.tmps t g pv hf hg
  exact⟨v,k1,k2.le hle⟩
 ·by_cases h1:x=dx
  ·subst h1;rw[aI] at hf;cases hf;exact absurd rfl (TT O d_ l)
  ·rw[aJ _ _ h1] at hf
   by_cases h2:y=dx
   ·subst h2;rw[aI] at hf;cases hf;exact absurd rfl (hdy O d_ l)
   ·rw[aJ _ _ h2] at hf;obtain⟨k1,k2,k3⟩:=h.dev g ah O d_ l hf hg
    refine⟨k1,k2,A.dv.grow _ _ _ _ _ k3 (hw.mono fun k _ e=>e.elim) (fun b hb'=>?_)⟩
    rcases hb' with h4|⟨z,v2,hd2,h4,h5⟩
    ·exact .inl (.inl h4)
    ·rcases hnew z v2 hd2 b h4 h5 with⟨_,h6,h7⟩|⟨_,h6⟩
     ·exact .inr ⟨h6,h7⟩
     ·exact .inl (.inr ⟨z,v2,hd2,h6,h5⟩)
def F7(w:World)(g:Nat)(v:Value)(b:Nat):Prop:=w.heap.size<=b/\b≠g/\hblk v≠some b
def aFg(P:Program)(I:World->Prop)(f:Nat)(t:TypeId)(e n len:Nat)(f':Nat->List PC)(l:List PC):Prop:=
 ∀ w:World,I w->Calls P f #[] w fun ex w'=>∃ (g:Nat) (A0:Option Addr) (c0:Nat) (xs ys:List Value),ex=.returned (.pointer (some ⟨g,0,none⟩))/\Ext w w'/\w.heap.size<=g/\g<w'.heap.size/\au w' g t (.slice A0 len c0::xs).toArray /\
  (∀ b,hblk (.slice A0 len c0)=some b->w.heap.size<=b/\b<w'.heap.size/\b≠g)/\BV w' e n (.slice A0 len c0) len ys /\
  (∀ i,i<len->RL { w:=w',ok:=F7 w g (.slice A0 len c0),env:=fun _=>none } (f' i) ((ys.drop (i*n)).take n))/\RL { w:=w',ok:=F7 w g (.slice A0 len c0),env:=fun _=>none } l xs
def aJd(t:TypeId)(e n len:Nat)(f':Nat->List PC)(l:List PC):Spec:=fun nm xs=>match xs with
 |[]=>.new (nm+500) (.arr e n len f') fun v1=>.new nm (.box t (.ow (nm+500) v1 n 0 len::l)) fun v=>.ret (dh (.pt nm v 0))
 |_=>.fail
theorem aQn{f:Nat}{t:TypeId}{e n len:Nat}{f':Nat->List PC}{l:List PC}(hent:∀ args w,(callFunc f args).run P w=.ok (.enter f args) w)(hg:aFg P I f t e n len f' l):aj P I f (aJd t e n len f' l):=by
 refine⟨hent,fun A s a w env nm ul vs F h hI hv hk=>?_⟩
 unfold aJd at hk
 split at hk
 ·match vs,hv with
  | [],_=>
   refine (hg w (hI.mem w h.gm)).mono ?_;rintro ex w' ⟨g,A0,c0,xs,ys,rfl,hE,h1,h2,h3,h4,h5,h6,h7⟩;have hold:∀ x ah hd b,env x=some (ah,hd)->hblk hd=some b->b<w.heap.size:=fun x ah hd b he hb=>(h.live x ah hd b he hb).1
   have hne:nm+500≠nm:=by omega
   have aKV:∀ b,w.heap.size<=b->b≠g->hblk (.slice A0 len c0)≠some b->∀ x ah hd,ng (ng env (nm+500) (fresh s (nm+500)) (.slice A0 len c0)) nm (fresh s nm) (gY g) x=some (ah,hd)->hblk hd≠some b:=by
    intro b hb hbg hv' x ah hd he hbl
    by_cases hx:x=nm
    ·subst hx;rw[eH] at he;cases he;cases hbl;exact hbg rfl
    ·rw[iH hx] at he
     by_cases hx2:x=nm+500
     ·subst hx2;rw[eH] at he;cases he;exact hv' hbl
     ·rw[iH hx2] at he;have:=hold x ah hd b he hbl;omega
   have qy:∀ {l':List PC} {zs:List Value},RL { w:=w',ok:=F7 w g (.slice A0 len c0),env:=fun _=>none } l' zs->RL (aU A w' (ng (ng env (nm+500) (fresh s (nm+500)) (.slice A0 len c0)) nm (fresh s nm) (gY g))) l' zs:=fun hr=>hr.le ⟨Nat.le_refl _,fun b hb hok=>⟨⟨.inr (Nat.le_trans h.gm.size hok.1),aKV b hok.1 hok.2.1 hok.2.2⟩,rfl⟩,fun _ _ _ hn=>by cases hn⟩
   have hrow:At (aU A w' (ng (ng env (nm+500) (fresh s (nm+500)) (.slice A0 len c0)) nm (fresh s nm) (gY g))) (nm+500) (fresh s (nm+500)) (aRy n 0 len (.slice A0 len c0)):=by
    refine⟨_,_,(iH hne).trans (eH _ _ _ _),Nat.le_refl _,fun _=>⟨_,_,_,rfl,by omega,?_⟩⟩
    cases A0 with
    |none=>simp
    |some ad=>simp[Addr.add]
   have j1:=h.aJU (w':=w') (nm+500) nm hne (.slice A0 len c0) (gY g) (.arr e n len f') (.box t (.ow (nm+500) (fresh s (nm+500)) n 0 len::l)) hE (fun b hb=>⟨(h4 b hb).1,(h4 b hb).2.1⟩)
    (fun b hb=>by cases hb;exact⟨h1,h2,fun e=>(h4 _ e).2.2 rfl⟩) (fun _=>⟨ys,h5,fun i hi=>qy (h6 i hi)⟩)
    (fun _=>⟨g,_,rfl,h3,.cons (xs:=[_]) (.ow ⟨_,_,rfl⟩ hrow) (qy h7)⟩) (fun _ _ _ h=>by cases h) (fun _ _ _ h=>by cases h)
   exact .inl ⟨_,_,_,_,rfl,hk,j1,.w (.one (.pt ⟨_,_,rfl⟩ ⟨_,_,eH _ _ _ _,Nat.le_refl _,fun _=>⟨_,rfl,rfl⟩⟩))⟩
 ·exact hk.elim
end
end Pv
namespace Pv
section
variable {P:Program} {I:World->Prop}
def Tu(P:Program)(A:jk)(fn:Func)(t:TypeId)(e n len:Nat)(f':Nat->List PC)(l:List PC)(a:Act)(w:World):Prop:=
 ∃ s x y out,(zx P fn.results).run none s=some out/\All out.conds/\out.wr=[]/\out.val=dh (.pt x 0 0)/\Nat.blt x dx=true/\Nat.blt y dx=true/\Nat.beq x y=false/\find s.o x=some (none,0,.box t (.ow y 0 n 0 len::l))/\find s.o y=some (none,0,.arr e n len f') /\
  l.all (cZ false)=true/\(∀ i,i<len->(f' i).all (cZ false)=true)/\o6 A s a w
def aEN(P:Program)(A:jk)(fn:Func)(t:TypeId)(e n len:Nat)(f':Nat->List PC)(l:List PC):Exit->Act->World->Prop
 |.panic chain,a,w=>a.defers=A.ds/\C9 A chain w
 |ex,a,w=>(ex=.normal\/ex=.ret)/\Tu P A fn t e n len f' l a w
theorem bAr(P:Program)(A:jk)(fn:Func)(t:TypeId)(e n len:Nat)(f':Nat->List PC)(l:List PC):BK A (aEN P A fn t e n len f' l):=fun _ _ _ hd h=>⟨hd,h⟩
theorem aWx{f:Nat}{fn:Func}{c:Code}{t:TypeId}{e n len:Nat}{f':Nat->List PC}{l:List PC}(hf:P.funcs[f]?=some fn)(hb:fn.body=some c)(hI:∀ w w',Ext w w'->I w->I w')
  (hT:∀ A:jk,A.S=Non->A.nt=fn.ntmps->lw P I A->iw P A ⟨[],[]⟩ c (aEN P A fn t e n len f' l)):aFg P I f t e n len f' l:=by
 intro w Qh
 have hg:o6 (jk.plain w (fun _=>False) fn.ntmps) ⟨[],[]⟩ { tmps:=#[]++Array.replicate (fn.ntmps-0) undef,defers:=[] } w:=by
  refine⟨fun _=>none,{ gm:=dm.refl _ _,size:=?_,dom:=fun x _=>rfl,jf:=fun x g ah o h=>(by cases h),live:=fun x ah hd b h=>(by cases h),inj:=fun x y v1 h1 v2 h2 b h=>(by cases h),tmps:=fun t g pv h hgt=>(by cases h),defers:=rfl,und:=fun t pv h=>(by cases h),jo:=fun x hd h=>(by cases h),dev:=fun g ah O d_ l h=>(by cases h) }⟩
  simp[jk.plain]
 refine calls_of_wp hf hb (wp_mono (hT (jk.plain w (fun _=>False) fn.ntmps) rfl rfl (lw.plain fun w' hc=>hI w w' hc Qh) _ w hg (bAr _ _ _ _ _ _ _ _ _)) (fun ex a' w' he=>?_))
 have he':(ex=.normal\/ex=.ret)/\Tu P (jk.plain w (fun _=>False) fn.ntmps) fn t e n len f' l a' w':=by
  cases ex with
  |panic chain=>obtain⟨_,l,hl,_⟩:=he;exact hl.elim
  |_=>exact he
 obtain⟨h1,s,x,y,out,k1,k2,k3,k4,kx,ky,kxy,k5,k6,k7,k8,env,hE⟩:=he';have hok:(zx P fn.results).ok none s (fun _ v' wr=>v'=dh (.pt x 0 0)/\wr=[]):=M.ui _ none s out _ k1 (fun p hp=>k2.mem p hp) ⟨k4,k3⟩;obtain⟨v',val,h5,h6,h7,_⟩:=qV hE hok;subst h7
 have hxy:x≠y:=fun e=>by rw[e,Nat.beq_refl] at kxy;cases kxy
 obtain⟨hd,hev,hob⟩:=hE.jf x none 0 _ k5;obtain⟨g,cs,rfl,hB,hR⟩:=hob trivial;obtain⟨hd2,hev2,aKT⟩:=hE.jf y none 0 _ k6;obtain⟨ys,hown,hel⟩:=aKT trivial
 have hval:val=.pointer (some ⟨g,0,none⟩):=by
  cases h6 with
  | w h6=>cases h6 with
   | one h6=>cases h6 with
    |pt j1 j2=>
     obtain⟨g',e4,e5⟩:=j2.now hev;cases e4;exact e5
 subst hval;have hl:=hE.live x 0 _ g hev rfl;have hold:w.heap.size<=g:=hl.2.resolve_right (fun hs=>hs.1.elim);generalize hz:cs.toList=zs at hR
 cases hR with
 | @cons _ _ _ x0 xs hr0 hrl=>
  cases hr0 with
  | @ow _ _ _ _ _ _ v0 j1 j2=>
   obtain⟨A1,n1,c1,hsh,hle1,hv1⟩:=j2.now hev2;subst hsh
   have hn1:n1=len:=by
    rcases hown.2 with⟨e0,e1⟩|⟨_,_,_,_,_,e0,_⟩
    ·cases e0;exact e1.symm
    ·cases e0;rfl
   subst hn1
   have hadd:(A1.map (·.add (0*n)))=A1:=by
    cases A1 with
    |none=>rfl
    |some ad=>simp[Addr.add]
   have hv:v0=Value.slice A1 n1 c1:=by
    rw[hv1,hadd,Nat.sub_zero]
   have hcs:cs=(Value.slice A1 n1 c1::xs).toArray:=by
    apply Array.ext';rw[hz,hv];rfl
   have hlr:∀ b,hblk (.slice A1 n1 c1)=some b->w.heap.size<=b/\b<w'.heap.size/\b≠g:=fun b hb=>by
    have:=hE.live y 0 _ b hev2 hb
    exact⟨this.2.resolve_right (fun hs=>hs.1.elim),this.1,fun e=>hxy (hE.inj x y 0 _ 0 _ g hev hev2 rfl (by rw[<-e];exact hb))⟩
   have hcl:∀ {l':List PC} {zs:List Value},RL (aU (jk.plain w (fun _=>False) fn.ntmps) w' env) l' zs->l'.all (cZ false)=true->RL { w:=w',ok:=F7 w g (.slice A1 n1 c1),env:=fun _=>none } l' zs:=fun hr hc=>(iP hr hc).le ⟨Nat.le_refl _,fun b hb hok=>⟨⟨hok.1.resolve_left id,fun e=>hok.2 x 0 _ hev (by rw[e];rfl),hok.2 y 0 _ hev2⟩,rfl⟩,fun _ _ _ h=>by cases h⟩
   have:a'.defers=[]/\∃ v,(results fn a'.tmps).run P w'=.ok v w'/\∃ (g:Nat) (A0:Option Addr) (c0:Nat) (xs ys:List Value),Ending.returned v=.returned (.pointer (some ⟨g,0,none⟩))/\Ext w w'/\w.heap.size<=g/\g<w'.heap.size/\au w' g t (.slice A0 n1 c0::xs).toArray /\
     (∀ b,hblk (.slice A0 n1 c0)=some b->w.heap.size<=b/\b<w'.heap.size/\b≠g)/\BV w' e n (.slice A0 n1 c0) n1 ys /\
     (∀ i,i<n1->RL { w:=w',ok:=F7 w g (.slice A0 n1 c0),env:=fun _=>none } (f' i) ((ys.drop (i*n)).take n))/\RL { w:=w',ok:=F7 w g (.slice A0 n1 c0),env:=fun _=>none } l xs:=
    ⟨hE.defers,_,h5,g,A1,c1,xs,ys,rfl,hE.gm,hold,hl.1,hcs ▸ hB,hlr,hown,fun i hi=>hcl (hel i hi) (k8 i hi),hcl hrl k7⟩
   rcases h1 with rfl|rfl<;>exact this
end
end Pv
end Go.Proofs.YtndpjopifkbgiaaGreatDoor
