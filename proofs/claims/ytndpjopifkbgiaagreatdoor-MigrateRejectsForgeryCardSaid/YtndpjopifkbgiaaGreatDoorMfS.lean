/-
  Several texts in one file: each has its own heading below.
-/
import Derived.Test.YtndpjopifkbgiaaGreatDoorMfR
import Derived.Test.YtndpjopifkbgiaaGreatDoorMfM
import Derived.Test.YtndpjopifkbgiaaGreatDoorMfC
import Derived.WalkMore
import Derived.Test.YtndpjopifkbgiaaGreatDoorMfQ
import Derived.Test.YtndpjopifkbgiaaGreatDoorMfI
import Derived.Test.YtndpjopifkbgiaaGreatDoorMfJ
import Derived.Test.YtndpjopifkbgiaaGreatDoorProg
import Derived.Deep.RegionLaw
import Derived.Test.YtndpjopifkbgiaaGreatDoorMfO
import Derived.Test.YtndpjopifkbgiaaGreatDoorMfP
set_option maxRecDepth 100000
set_option maxHeartbeats 4000000
namespace Go.Proofs.YtndpjopifkbgiaaGreatDoor
open Go.RowKit
section
theorem Jj(m:Pv.jh)(hm:Pv.u_ m)(hml:Pv.yc m)(F:List oh)(hF:F.length<=1000000)(h0:j_)(hd:qh h0)(ok0:Nat->Prop)(hcs:Array Value)(B:Option Addr)(nF cF:Nat)(w:World)(hM:a_ w)
  (hH:Pv.RL { w:=w,ok:=ok0,env:=fun _=>none } (Pv.lw h0) hcs.toList) (hV:Pv.RL { w:=w,ok:=ok0,env:=fun _=>none } [Pv.rU F] [.slice B nF cF]) :
  Calls Tryz.prog 15 #[.agg hcs,.agg (Pv.opC m),.slice B nF cF] w fun e w'=>Ext w w'/\∃ val,e=.returned val /\
   Pv.RV { w:=w',ok:=fun b=>ok0 b\/w.heap.size<=b,env:=fun _=>none } (Pv.bAv (eG F (Pv.dJ m) h0 0)) val:=by
 have Ai:=hide (show hcs.size=18/\(Pv.opC m).size=102 from⟨Pv.aBq hH,Pv.qX hml⟩);have HR:=hide (fun W=>Jm (Pv.opC m) W);have HV:=hide (fun W0 w1 z1 z7=>Pv.Q_ m hm hml F hF h0 hd ok0 hcs B nF cF w hM hH hV W0 w1 z1 z7);obtain⟨q,hq⟩:∃ q,eG F (Pv.dJ m) h0 0=q:=⟨_,rfl⟩;rw[hq] at HV ⊢;obtain⟨Zp,KZ⟩:∃ x,Pv.opC m=x:=⟨_,rfl⟩;rw[KZ] at Ai HR HV ⊢;obtain⟨oc,hoc⟩:∃ x,Pv.jm (Pv.bH q.1)=x:=⟨_,rfl⟩;rw[hoc] at HV;have HO:=hide hoc;clear KZ hM hm hml hF hd hH hV hq hoc
 go_enter Tryz.func15,Tryz.ntmps15
 go_upto_region 1 with fail
 generalize hW0:World.alloc _ (.cells _ 40)=W0
 have z1:Ext w W0:=by
  rw[<-hW0]
  repeat' (first|(with_reducible exact di.refl _ _)|(with_reducible exact Ext.refl _)|(with_reducible assumption)|(with_reducible refine di.alloc ?_ _)|(with_reducible refine di.drew ?_)|(with_reducible refine di.drewN ?_ _)|(with_reducible refine di.setCell ?_ ?_ _)|(with_reducible refine Ext.alloc ?_ _)|(with_reducible refine Ext.drew ?_)|(with_reducible refine Ext.drewN ?_ _)|(with_reducible refine Ext.setCell ?_ ?_ _)|(simp;done)|(simp;omega)|omega)
 have z2:au W0 w.heap.size 65 hcs:=by rw[<-hW0];exact (((au.new w _ _).alloc _).alloc _).alloc _
 have z3:au W0 (w.heap.size+1) 31 Zp:=by rw[<-hW0];exact ((au.new' _ _ _ (by simp)).alloc _).alloc _
 have z5:au W0 (w.heap.size+1+1) 65 (#[.slice none 0 0,.slice none 0 0]++Array.replicate 16 (.int .u8 0)):=by rw[<-hW0];exact (au.new' _ _ _ (by simp)).alloc _
 have z6:au W0 (w.heap.size+1+1+1) 40 (Pv.jm Pv.jr):=by rw[<-hW0];exact au.new' _ _ _ (by simp)
 have z7:W0.heap.size=w.heap.size+4:=by rw[<-hW0];simp
 have z8:Ext w W0.drew:=z1.drew;have HZ:=hide (show Ext w W0.drew/\au W0.drew (w.heap.size+1+1) 65 (#[.slice none 0 0,.slice none 0 0]++Array.replicate 16 (.int .u8 0))/\au W0.drew (w.heap.size+1+1+1) 40 (Pv.jm Pv.jr)/\W0.drew.heap.size=w.heap.size+4 from⟨z8,z5.drew,z6.drew,z7⟩);refine wp_region_held_drew (S:=fun W=>au W w.heap.size 65 hcs/\au W (w.heap.size+1) 31 Zp) (by kernel_rfl) ⟨z2.drew,z3.drew⟩ (fun hHeld=>?_);clear hW0 z1 z2 z3 z5 z6 z7 z8;generalize W0.drew=Wd at HZ hHeld ⊢;refine wpAnyH_take (i:=0) (v:=_) rfl (by kernel_rfl) (by kernel_rfl) (by kernel_rfl) (fun _ _ _ h=>h) (X8 Pv.aIy rfl (by rfl) rfl (aA Ai).2 (fun w' hw=>hw.2)) (by assumption) ?_
 try simp only[Act.put,zA,zB,zC,zD,zF]
 refine wpAnyH_take (i:=2) (v:=_) rfl (by kernel_rfl) (by kernel_rfl) (by kernel_rfl) (fun _ _ _ h=>h) (X8 rD rfl (by rfl) rfl (aA Ai).1 (fun w' hw=>hw.1)) (by assumption) ?_
 try simp only[Act.put,zA,zB,zC,zD,zE,zF]
 refine wpAnyH_take (i:=3) (v:=?_) rfl (by kernel_rfl) (by kernel_rfl) (by kernel_rfl) (fun _ _ _ h=>h) (Or.inl ⟨by rfl,fun wz hSz=>?_⟩) (by assumption) ?_;rotate_left
 ·(first|(go_simp;done)|(go_simp;with_reducible rfl))
 try simp only[Act.put,zA,zB,zC,zD,zE,zF]
 refine wpAnyH_ready (rs:=[1]) (by kernel_rfl) (by simp) (AllReadyH.cons (o:=_) rfl (fun K hK=>?_) AllReadyH.nil)
 try go_simp
 (refine (aA HR Wd).mono ?_;rintro e w1 ⟨rfl,k1,k2,k3⟩;have hS:=And.intro (hHeld.1.ext k1) (hHeld.2.ext k1);have H1:=hide (And.intro k1 (And.intro k2 k3));clear hHeld k1 k2 k3)
 refine hK.out _ _ ?_ (fun hHeld=>?_)
 ·exact hS
 clear hK K
 try simp only[Act.put,zA,zB,zC,zD,zE,zF]
 refine wpAnyH_ready (rs:=[4]) (by kernel_rfl) (by simp) (AllReadyH.cons (o:=_) rfl (fun K hK=>?_) AllReadyH.nil)
 try go_simp
 (obtain⟨k1,k2,k3⟩:=aA H1;have hz:=(aA HZ).2.2.2;refine (aA HV Wd w1 (aA HZ).1 hz k1 k2 k3).mono ?_;rintro e w2 ⟨hc,hw',ho,rfl,r1⟩;have hS:=And.intro (hHeld.1.g_ hc (by omega)) (hHeld.2.g_ hc (by omega));have H2:=hide (And.intro (((aA HZ).1.trans k1).trans' hc (fun _ _ h=>h) (fun i hi e=>by omega)) (And.intro (((aA HZ).2.1.ext k1).g_ hc (by omega)) (And.intro (((aA HZ).2.2.1.ext k1).g_ hc (by omega)) (And.intro ho r1))));have e3:=Pv.aBq r1;have e4:=Pv.aQl r1;clear hHeld k1 k2 k3 hz hc r1 ho H1)
 refine hK.out _ _ ?_ (fun hHeld=>?_)
 ·exact hS
 clear hK K
 try simp only[Act.put,zA,zB,zC,zD,zE,zF]
 refine wpAnyH_take (i:=5) (v:=?_) rfl (by kernel_rfl) (by kernel_rfl) (by kernel_rfl) (fun _ _ _ h=>h) (Or.inl ⟨by rfl,fun wz hSz=>?_⟩) (by assumption) ?_;rotate_left
 ·(first|(go_simp;done)|(go_simp;with_reducible rfl))
 try simp only[Act.put,zA,zB,zC,zD,zE,zF]
 refine wpAnyH_take (i:=6) (v:=?_) rfl (by kernel_rfl) (by kernel_rfl) (by kernel_rfl) (fun _ _ _ h=>h) (Or.inl ⟨by rfl,fun wz hSz=>?_⟩) (by assumption) ?_;rotate_left
 ·(first|(go_simp;done)|(go_simp;with_reducible rfl))
 try simp only[Act.put,zA,zB,zC,zD,zE,zF]
 refine wpAnyH_take (i:=7) (v:=?_) rfl (by kernel_rfl) (by kernel_rfl) (by kernel_rfl) (fun _ _ _ h=>h) (Or.inl ⟨by rfl,fun wz hSz=>?_⟩) (by assumption) ?_;rotate_left
 ·(first|(go_simp;done)|(go_simp;with_reducible rfl))
 try simp only[Act.put,zA,zB,zC,zD,zE,zF]
 refine wpAnyH_take (i:=8) (v:=?_) rfl (by kernel_rfl) (by kernel_rfl) (by kernel_rfl) (fun _ _ _ h=>h) (Or.inl ⟨by rfl,fun wz hSz=>?_⟩) (by assumption) ?_;rotate_left
 ·(first|(go_simp;done)|(go_simp;with_reducible rfl))
 try simp only[Act.put,zA,zB,zC,zD,zE,zF]
 refine wpAnyH_ready (rs:=[9]) (by kernel_rfl) (by simp) (AllReadyH.cons (o:=_) rfl (fun K hK=>?_) AllReadyH.nil)
 (refine iD (ty:=65) (t:=65) (x:=.tmp 6) (y:=.tmp 15) rfl rfl rD rfl rfl (aA H2).2.1 rfl e3 e4 ?_;intro w3 hb3 hc3 hz3;have hS:=And.intro (hHeld.1.g_ hc3 (by omega)) (hHeld.2.g_ hc3 (by omega));have H3:=hide (And.intro hb3 (And.intro hc3 hz3));clear hHeld hb3 hc3 hz3)
 refine hK.out _ _ ?_ (fun hHeld=>?_)
 ·exact hS
 clear hK K
 try simp only[Act.put,zD,zE,zF]
 refine wpAnyH_ready (rs:=[10]) (by kernel_rfl) (by simp) (AllReadyH.cons (o:=_) rfl (fun K hK=>?_) AllReadyH.nil)
 (refine iD (ty:=40) (t:=40) (x:=.tmp 7) (y:=.tmp 16) rfl rfl iQ rfl rfl ((aA H2).2.2.1.g_ (aA H3).2.1 (by omega)) (Pv.dL Pv.jK) (by rw[<-aA HO];exact Pv.dL (aA H2).2.2.2.1) (by rw[<-aA HO];exact Pv.kY _) ?_;intro w4 hb4 hc4 Bz;have hS:=And.intro (hHeld.1.g_ hc4 (by omega)) (hHeld.2.g_ hc4 (by omega));have H4:=hide (And.intro hb4 (And.intro hc4 Bz));clear hHeld hb4 hc4 Bz)
 refine hK.out _ _ ?_ (fun hHeld=>?_)
 ·exact hS
 clear hK K
 try simp only[Act.put,zD,zE,zF]
 refine wpAnyH_take (i:=11) (v:=?_) rfl (by kernel_rfl) (by kernel_rfl) (by kernel_rfl) (fun _ _ _ h=>h) (Or.inl ⟨by rfl,fun wz hSz=>?_⟩) (by assumption) ?_;rotate_left
 ·(first|(go_simp;done)|(go_simp;with_reducible rfl))
 try simp only[Act.put,zA,zB,zC,zD,zE,zF]
 refine wpAnyH_take (i:=12) (v:=?_) rfl (by kernel_rfl) (by kernel_rfl) (by kernel_rfl) (fun _ _ _ h=>h) (Or.inl ⟨by rfl,fun wz hSz=>?_⟩) (by assumption) ?_;rotate_left
 ·(first|(go_simp;done)|(go_simp;with_reducible rfl))
 try simp only[Act.put,zA,zB,zC,zD,zE,zF]
 refine wpAnyH_done (by kernel_rfl) ?_ _;clear hHeld
 go_wp2
 obtain⟨x1,_,_,ho,r1⟩:=aA H2;obtain⟨b3,c3,s3⟩:=aA H3;obtain⟨b4,c4,s4⟩:=aA H4;have hoc:=aA HO;refine bodyPost_ret (aLm e3 (by rw[<-hoc];exact Pv.dL ho) rfl rfl (b3.g_ c4 (by omega)) b4) rfl ⟨?_,_,rfl,?_⟩
 ·exact (x1.trans' c3 (fun _ _ h=>h) (fun i hi e=>by omega)).trans' c4 (fun _ _ h=>h) (fun i hi e=>by omega)
 ·have hLe:∀ {p:List Pv.PC} {xs:List Value},Pv.RL { w:=w2,ok:=Pv.okF ok0 w.heap.size,env:=fun _=>none } p xs->Pv.RL { w:=w4,ok:=fun b=>ok0 b\/w.heap.size<=b,env:=fun _=>none } p xs:=fun hr=>
   hr.le ⟨by rw[s4,s3];exact Nat.le_refl _,fun b hb hok=>⟨hok.1,by
    have hn:¬(w.heap.size<=b/\b<w.heap.size+11):=hok.2
    exact (c4.block b (by rw[s3];exact hb) (by omega)).trans (c3.block b hb (by omega))⟩,fun _ _ _ h=>by cases h⟩
  show Pv.RV _ (Pv.bAv q) (.tuple #[.agg hw',.agg oc,.int .i64 (q.2.2:Int),.bool q.1.isSome]);rw[<-hoc];exact Pv.Tz (hLe r1) (Pv.bAc _ ho)
namespace Pv
def aNk:List PC->Option oh
 |[.lit (.bool c),.lit (.int .i64 b),.lit (.bool n)]=>some ⟨c,b,n⟩
 |_=>none
def aSg(n:Nat)(f:Nat->List PC):List oh:=(List.range n).map fun i=>(aNk (f i)).getD Cj
def LQ:PC->Option (Prop×List oh)
 |.sl 3 n f=>some (∀ i,i<n->(aNk (f i)).isSome=true,aSg n f)
 |.lit (.slice none 0 0)=>some (True,[])
 |_=>none
theorem bCi{l:List PC}(h:(aNk l).isSome=true):l=vN ((aNk l).getD Cj):=by
 unfold aNk at h ⊢
 split
 ·rfl
 ·rename_i hn
  split at h
  ·rename_i c b n;exact absurd rfl (hn c b n)
  ·cases h
theorem LP{C:Ctx}{c:PC}{p:Prop}{F:List oh}(e:LQ c=some (p,F))(hp:p){v:Value}(hr:R C c [v]):(∃ B n k,v=.slice B n k)/\R C (rU F) [v]:=by
 unfold LQ at e
 split at e
 ·rename_i n f;cases e
  have hlen:(aSg n f).length=n:=by simp[aSg]
  refine⟨?_,?_⟩
  ·cases hr with
   |sl r _ _=>
    obtain⟨_,A,k,rfl,_⟩:=r
    exact⟨_,_,_,rfl⟩
  ·unfold rU;rw[hlen];refine hr.zf fun i hi=>?_;have h1:=bCi (hp i hi);rw[h1];unfold aBS aSg;congr 1;rw[zG,List.getElem?_map,List.getElem?_range hi];rfl
 ·cases e
  obtain rfl:v=.slice none 0 0:=by cases hr;rfl
  exact⟨⟨_,_,_,rfl⟩,R.sl (Reads.nil _ 3) (fun _ _ h=>absurd h (by simp)) (fun i h=>absurd h (by simp))⟩
 ·cases e
def EY:List PV->Option (Prop×PV)
 |[.w (.agg hl),.w (.agg ol),.w (.one fv)]=>match Ac hl,bEf ol,LQ fv with
  |some (p,h0),some m,some (p2,F)=>some (p/\p2/\qh h0/\F.length<=1000000/\u_ m,bAv (eG F (dJ m) h0 0))
  |_,_,_=>none
 |_=>none
theorem aMn:aj Tryz.prog a_ 15 (aZ false EY):=by
 refine aY (aF Tryz.func15 (by kernel_rfl) rfl) (fun xs p r hg hp w ok0 vs hI hv=>?_);unfold EY at hg
 split at hg
 ·rename_i hl ol fv
  split at hg
  ·rename_i p1 h0 m p2 F e1 em e2;cases hg;obtain⟨q1,q2,q3,q4,q5⟩:=hp
   match vs,hv with
   | [v1, v2,v3],⟨k1,k2,k3,_⟩=>
    cases k1 with
    | w k1=>cases k1 with
     | @agg _ c1 k1=>
      cases k2 with
      | w k2=>cases k2 with
       | @agg _ c2 k2=>
        cases k3 with
        | w k3=>cases k3 with
         |one k3=>
          rw[aKd em] at k2;obtain⟨h2,hid,hbt⟩:=aSr k2;have ec:c2=opC m:=Array.ext' h2;subst ec;obtain⟨⟨B,n,k,rfl⟩,hf⟩:=LP e2 q2 k3;have hf':=RL.cons hf RL.nil;refine (Jj m q5 ⟨q5.root,hid,q5.link,q5.ot,q5.xt,hbt⟩ F q4 h0 q3 ok0 c1 B n k w hI (wR e1 q1 k1) hf').mono ?_;rintro e w' ⟨hE,val,rfl,hval⟩
          exact⟨val,rfl,hE,hval.le ⟨Nat.le_refl _,fun b _ hb=>⟨hb.elim (fun h=>.inl ⟨rfl,h⟩) .inr,rfl⟩,fun _ _ _ h=>by cases h⟩⟩
  ·cases hg
 ·cases hg
end Pv
structure qg(A L:Nat)(lv:Value)(log:List jc)(i:Nat)(X:Nat->Prop)(w:World):Prop where
 at_:w.heap[A]?=some (.cells #[.int .i64 (i:Int)] 3 (0,0))
 EC:w.heap[L]?=some (.cells #[lv] 32 (0,0))
 reads:Reads w 2 lv log.length (logCells log)
 ne:A≠L
 own:0<log.length->lv.ownBlock≠some A
 le:i<=log.length
 mine:∀ k,X k->k<w.heap.size/\k≠A/\k≠L/\(0<log.length->lv.ownBlock≠some k)
def pending(a:Acc):Value:=.iface 114 a.v
theorem qg.g_{A L:Nat}{lv:Value}{log:List jc}{i:Nat}{X:Nat->Prop}{w w':World}(h:qg A L lv log i X w)(hc:di X w w'):qg A L lv log i X w':=
 ⟨
  di.blk hc h.at_ (fun hx=>(h.mine _ hx).2.1 rfl),di.blk hc h.EC (fun hx=>(h.mine _ hx).2.2.1 rfl),h.reads.g_ hc (fun _ hn hk hx=>(h.mine _ hx).2.2.2 hn hk),h.ne,h.own,h.le,
  fun k hk=>⟨Nat.lt_of_lt_of_le (h.mine k hk).1 hc.size,(h.mine k hk).2⟩⟩
theorem qg.step{A L:Nat}{lv:Value}{log:List jc}{i:Nat}{X:Nat->Prop}{w:World}(h:qg A L lv log i X w)(hi:i<log.length):qg A L lv log (i+1) X (w.setCell ⟨A,0,none⟩ (.int .i64 ((i:Int)+1))):=by
 have hc:di (fun k=>k=A) w (w.setCell ⟨A,0,none⟩ (.int .i64 ((i:Int)+1))):=di.setCell (S:=fun k=>k=A) (p:=⟨A,0,none⟩) (di.refl _ _) (.inl rfl) _
 refine⟨?_,di.blk hc h.EC (fun e=>h.ne e.symm),h.reads.g_ hc (fun k hn hk e=>h.own hn (e ▸ hk)),h.ne,h.own,hi,fun k hk=>⟨Nat.lt_of_lt_of_le (h.mine k hk).1 hc.size,(h.mine k hk).2⟩⟩
 exact one_setCell h.at_
theorem U2(A L:Nat)(lv:Value)(log:List jc)(a:Acc)(i:Nat)(X:Nat->Prop)(w:World)(h:qg A L lv log i X w)(F:Nat)(hF:F=43) :
  Calls Tryz.prog F (#[a.v]++#[.pointer (some ⟨A,0,none⟩),.pointer (some ⟨L,0,none⟩)]) w (lC (qg A L lv log) (fun k=>k=A) X pending w jc.v (replay log a i)):=by
 subst hF;have hA:=cell_of_one h.at_;have hfA:=free_of_one h.at_;have hL:=cell_of_one h.EC;have hAw:=lt_of_heap h.at_;have hLw:=lt_of_heap h.EC;have hne:¬L=A:=fun e=>h.ne e.symm;have hmx:=h.reads.xq;have HH:=hide h;obtain⟨_,B,c,rfl,hnc,hcm,_⟩:=h.reads;clear h;unfold maxLen at hmx;obtain⟨ak,ab,ac,ax⟩:=a;simp only[Acc.v]
 by_cases hlt:i<log.length
 ·obtain⟨b,o,c',u1,u2,hv,_,_,hb,hu1,hu2,hc1,hc2⟩:=(aA HH).reads.at2 hlt;cases hv;have hbA:¬b=A:=fun e=>(aA HH).own (by omega) (by rw[e];rfl);rw[(aAq log i).1,zH hlt] at hu1;rw[(aAq log i).2,zH hlt] at hu2;cases hu1;cases hu2;have R:Hid (replay log ⟨ak,ab,ac,ax⟩ i=.ok log[i] (i+1)):=hide (by unfold replay;rw[zH hlt]);generalize log[i]=r at *
  have hli:¬log.length<=i:=by omega
  go_enter Tryz.func43,Tryz.ntmps43
  go_wp2
  go_returns
  have hs:=(aA HH).step hlt;refine lC.ok (aA R) rfl ?_ ?_
  ·exact (hs.g_ (di.alloc (di.refl _ _) _)).g_ (di.alloc (di.refl _ _) _)
  ·exact ((di.setCell (S:=fun k=>k=A) (p:=⟨A,0,none⟩) (di.refl _ _) (.inl rfl) _).alloc _).alloc _
 ·have R:Hid (replay log ⟨ak,ab,ac,ax⟩ i=.error ⟨ak,ab,ac,ax⟩ i):=hide (by unfold replay;rw[List.getElem?_eq_none (by omega)])
  have hli:log.length<=i:=by omega
  go_enter Tryz.func43,Tryz.ntmps43
  go_wp2
  refine⟨rfl,lC.err (aA R) rfl ?_ ?_⟩
  ·exact ((aA HH).g_ (di.alloc (di.refl _ _) _)).g_ (di.alloc (di.refl _ _) _)
  ·exact ((di.refl _ _).alloc _).alloc _
theorem aOw{P:Program}{ops:Array Oper}{o:Oper}{a:Act}{w w':World}{K:Act->World->Prop}{Q:Exit->Act->World->Prop}{E:Prop}(hgd:o.guard=none){ty:TypeId}{x y:Operand}(ho:o.op=.store ty x y)(hr:(Instr.storeAt ty (a.eval x) (a.eval y)).run P w=.ok () w')(h:K (a.put o.dst undef) w') :
  if Region.wanted o (yielded ops a.tmps)=true then Oper.wp P o a w K Q else E:=by
 have hw:Region.wanted o (yielded ops a.tmps)=true:=by simp[Region.wanted,hgd]
 rw[if_pos hw];unfold Oper.wp;rw[show (execOp a.eval o).run P w=.ok .skip w' from by simp[execOp,ho,hr]];exact h
theorem vI:ru Tryz.prog 37 4:=⟨⟨_,Tryz.underlying37,rfl⟩,by kernel_rfl⟩
theorem aFn(x:Value)(w:World):(Instr.typeAssert (.iface 114 x) 20 114 true).run Tryz.prog w=.ok (.tuple #[x,.bool true]) w:=by kernel_rfl
attribute [local go_sem] aFn
theorem catch_panicking(Ab Ob Db:Nat)(a:Acc)(x0 x1 x2 x3 z0:Value)(y:Array Value)(older:List PanicEntry)(w:World)(hy:y.size=55)
  (hA:au w Ab 37 #[x0,x1,x2,x3]) (hO:au w Ob 40 y) (hD:au w Db 4 #[z0]) (YY:¬Ab=Ob) (hAD:¬Ab=Db) (QU:¬Ob=Db) :
  CallsD Tryz.prog 44 #[.pointer (some ⟨Ab,0,none⟩),.pointer (some ⟨Ob,0,none⟩),.pointer (some ⟨Db,0,none⟩)] (.panicking ({ v:=pending a,recovered:=false }::older)) w fun e u' w'=>
   e=.returned (.tuple #[])/\u'=.panicking ({ v:=pending a,recovered:=true }::older)/\di (fun k=>k=Ab\/k=Ob\/k=Db) w w' /\
   au w' Ab 37 #[.int .i64 a.kind,.int .i64 a.ay,.int .i64 a.cell,.string a.bytes]/\au w' Ob 40 (Pv.jm Pv.jr)/\au w' Db 4 #[.bool false]:=by
 have lA:=hA.lt;have lO:=hO.lt;have lD:=hD.lt;have HA:=hide hA;have HO:=hide (And.intro hO hy);have HD:=hide hD;clear hA hO hD hy;have bEC:¬Ob=Ab:=fun e=>YY e.symm;have bED:¬Db=Ab:=fun e=>hAD e.symm;have aKH:¬Db=Ob:=fun e=>QU e.symm;obtain⟨ak,ab,ac,ax⟩:=a;simp only[pending,Acc.v];refine callsD_of_wpS Tryz.func44 rfl fun c₀ cs hu=>?_;simp only[Tryz.ntmps44,List.size_toArray,List.length_cons,List.length_nil,Nat.reduceAdd,Nat.reduceSub,Array.replicate_succ,Array.replicate_zero,List.push_toArray,List.append_toArray,List.nil_append,List.cons_append];apply wpS_seq;apply wpS_region;simp[wpOpsS,go_sem,recoverD,hu,Exit.thenS];refine wpS_of_wp ?_
 go_upto_region 8 with fail
 generalize hW:World.alloc _ (.cells _ 40)=W
 have z1:Ext w W:=by
  rw[<-hW]
  repeat' (first|(with_reducible exact di.refl _ _)|(with_reducible exact Ext.refl _)|(with_reducible assumption)|(with_reducible refine di.alloc ?_ _)|(with_reducible refine di.drew ?_)|(with_reducible refine di.drewN ?_ _)|(with_reducible refine di.setCell ?_ ?_ _)|(with_reducible refine Ext.alloc ?_ _)|(with_reducible refine Ext.drew ?_)|(with_reducible refine Ext.drewN ?_ _)|(with_reducible refine Ext.setCell ?_ ?_ _)|(simp;done)|(simp;omega)|omega)
 have z2:au W w.heap.size 114 #[.int .i64 ak,.int .i64 ab,.int .i64 ac,.string ax]:=by
  rw[<-hW];exact (au.new' _ _ _ (by simp)).alloc _
 have z3:au W (w.heap.size+1) 40 (Pv.jm Pv.jr):=by
  rw[<-hW];exact au.new' _ _ _ (by simp)
 have HZ:=hide (show Ext w W.drew/\au W.drew Ab 37 #[x0,x1,x2,x3]/\au W.drew Ob 40 y/\au W.drew Db 4 #[z0] from⟨z1.drew,((aA HA).ext z1).drew,((aA HO).1.ext z1).drew,((aA HD).ext z1).drew⟩);refine wp_region_held_drew (S:=fun W=>au W w.heap.size 114 #[.int .i64 ak,.int .i64 ab,.int .i64 ac,.string ax]/\au W (w.heap.size+1) 40 (Pv.jm Pv.jr)) (by kernel_rfl) ⟨z2.drew,z3.drew⟩ (fun hHeld=>?_);clear hW z1 z2 z3;generalize W.drew=Wd at HZ hHeld ⊢;refine wpAnyH_take (i:=0) (v:=?_) rfl (by kernel_rfl) (by kernel_rfl) (by kernel_rfl) (fun _ _ _ h=>h) (Or.inl ⟨by rfl,fun wz hSz=>?_⟩) (by assumption) ?_;rotate_left
 ·(first|(go_simp;done)|(go_simp;with_reducible rfl))
 try simp only[Act.put,zA,zB,zC,zD,zF]
 refine wpAnyH_take (i:=1) (v:=_) rfl (by kernel_rfl) (by kernel_rfl) (by kernel_rfl) (fun _ _ _ h=>h) (X8 vI rfl (by rfl) rfl rfl (fun w' hw=>hw.1)) (by assumption) ?_
 try simp only[Act.put,zA,zB,zC,zD,zE,zF]
 refine wpAnyH_take (i:=2) (v:=_) rfl (by kernel_rfl) (by kernel_rfl) (by kernel_rfl) (fun _ _ _ h=>h) (X8 iQ rfl (by rfl) rfl (Pv.dL Pv.jK) (fun w' hw=>hw.2)) (by assumption) ?_
 try simp only[Act.put,zA,zB,zC,zD,zE,zF]
 refine wpAnyH_ready (rs:=[3]) (by kernel_rfl) (by simp) (AllReadyH.cons (o:=_) rfl (fun K hK=>?_) AllReadyH.nil)
 (refine iD (ty:=37) (t:=37) (x:=.tmp 0) (y:=.tmp 14) rfl rfl vI rfl rfl (aA HZ).2.1 rfl rfl (by rw[<-Array.all_toList];rfl) ?_;intro w2 hb2 hc2 hz2;have hS:=And.intro (hHeld.1.g_ hc2 (by omega)) (hHeld.2.g_ hc2 (by omega));have H2:=hide (And.intro hb2 (And.intro hc2 hz2));clear hHeld hb2 hc2 hz2)
 refine hK.out _ _ ?_ (fun hHeld=>?_)
 ·exact hS
 clear hK K
 try simp only[Act.put,zD,zE,zF]
 refine wpAnyH_ready (rs:=[4]) (by kernel_rfl) (by simp) (AllReadyH.cons (o:=_) rfl (fun K hK=>?_) AllReadyH.nil)
 (refine iD (ty:=40) (t:=40) (x:=.tmp 1) (y:=.tmp 15) rfl rfl iQ rfl rfl ((aA HZ).2.2.1.g_ (aA H2).2.1 (by omega)) (aA HO).2 (Pv.dL Pv.jK) (Pv.kY _) ?_;intro w3 hb3 hc3 hz3;have hS:=And.intro (hHeld.1.g_ hc3 (by omega)) (hHeld.2.g_ hc3 (by omega));have hDD:=(((aA HZ).2.2.2.g_ (aA H2).2.1 (by omega)).g_ hc3 (by omega));have H3:=hide (And.intro hb3 (And.intro hc3 (And.intro hz3 hDD)));clear hHeld hb3 hc3 hz3 hDD)
 refine hK.out _ _ ?_ (fun hHeld=>?_)
 ·exact hS
 clear hK K
 try simp only[Act.put,zD,zE,zF]
 refine wpAnyH_ready (rs:=[5]) (by kernel_rfl) (by simp) (AllReadyH.cons (o:=_) rfl (fun K hK=>?_) AllReadyH.nil)
 (obtain⟨w4,e4,b4,c4,s4⟩:=(aSv Db false).st _ #[z0] rfl (aA H3).2.2.2;refine aOw (ty:=4) (x:=.tmp 2) (y:=.const (.bool false)) rfl rfl e4 ?_;have hS:=And.intro (hHeld.1.g_ c4 (by omega)) (hHeld.2.g_ c4 (by omega));have H4:=hide (And.intro b4 (And.intro c4 s4));clear hHeld b4 c4 s4 e4)
 refine hK.out _ _ ?_ (fun hHeld=>?_)
 ·exact hS
 clear hK K
 try simp only[Act.put,zD,zE,zF]
 refine wpAnyH_done (by kernel_rfl) ?_ _;clear hHeld
 go_wp2
 obtain⟨z1,zA,zO,zD⟩:=aA HZ;obtain⟨b2,c2,s2⟩:=aA H2;obtain⟨b3,c3,s3,zD3⟩:=aA H3;obtain⟨b4,c4,s4⟩:=aA H4
 refine⟨rfl,_,rfl,.tuple #[],results_none rfl _ _ _,rfl,rfl,?_,?_,?_,?_⟩
 ·exact ((z1.trans' c2 (T:=fun k=>k=Ab) (U:=fun k=>k=Ab\/k=Ob\/k=Db) (fun _ _ h=>h.elim) (fun i _ e=>.inl e)).trans' c3 (T:=fun k=>k=Ob) (U:=fun k=>k=Ab\/k=Ob\/k=Db) (fun _ _ h=>h) (fun i _ e=>.inr (.inl e))).trans' c4 (T:=fun k=>k=Db) (U:=fun k=>k=Ab\/k=Ob\/k=Db) (fun _ _ h=>h) (fun i _ e=>.inr (.inr e))
 ·exact (b2.g_ c3 YY).g_ c4 hAD
 ·exact b3.g_ c4 QU
 ·exact b4
theorem catch_idle(x y z:Value)(w:World) :
  CallsD Tryz.prog 44 #[x,y,z] .returning w fun e u' w'=>e=.returned (.tuple #[])/\u'=.returning/\w=w':=by
 refine callsD_of_wpS Tryz.func44 rfl fun c₀ cs hu=>?_;simp only[Tryz.ntmps44,List.size_toArray,List.length_cons,List.length_nil,Nat.reduceAdd,Nat.reduceSub,Array.replicate_succ,Array.replicate_zero,List.push_toArray,List.append_toArray,List.nil_append,List.cons_append];apply wpS_seq;apply wpS_region;simp[wpOpsS,go_sem,recoverD,hu,Exit.thenS];refine wpS_of_wp ?_
 go_wp2
 exact⟨rfl,.returning,by cases c₀;simp_all,.tuple #[],results_none rfl _ _ _,rfl,rfl,rfl⟩
end
def kS(w:World)(lv:Value):World:=
 ((((w.alloc (.cells #[lv] 32)).alloc (.cells #[.int .i64 0,.int .i64 0,.int .i64 0,.string { data:=#[] }] 37)).alloc (.cells (Pv.jm Pv.jr) 40)).alloc (.cells #[.bool false] 4)).alloc (.cells #[.int .i64 0] 3)
theorem aFi(w:World)(lv:Value)(log:List jc)(hl:Reads w 2 lv log.length (logCells log)) :
  Ext w (kS w lv)/\(kS w lv).heap.size=w.heap.size+5 /\
  qg (w.heap.size+1+1+1+1) w.heap.size lv log 0 (fun k=>k=w.heap.size+1\/k=w.heap.size+1+1\/k=w.heap.size+1+1+1) (kS w lv) /\
  au (kS w lv) (w.heap.size+1) 37 #[.int .i64 0,.int .i64 0,.int .i64 0,.string { data:=#[] }] /\
  au (kS w lv) (w.heap.size+1+1) 40 (Pv.jm Pv.jr)/\au (kS w lv) (w.heap.size+1+1+1) 4 #[.bool false]:=by
 have hlt:=fun k (hn:0<log.length) hk=>hl.CY (by omega) hn k hk
 have hE:Ext w (kS w lv):=by
  unfold kS
  repeat' (first|(with_reducible exact di.refl _ _)|(with_reducible exact Ext.refl _)|(with_reducible assumption)|(with_reducible refine di.alloc ?_ _)|(with_reducible refine di.drew ?_)|(with_reducible refine di.drewN ?_ _)|(with_reducible refine di.setCell ?_ ?_ _)|(with_reducible refine Ext.alloc ?_ _)|(with_reducible refine Ext.drew ?_)|(with_reducible refine Ext.drewN ?_ _)|(with_reducible refine Ext.setCell ?_ ?_ _)|(simp;done)|(simp;omega)|omega)
 refine⟨hE,by simp[kS],⟨?_,?_,hl.ext hE,by omega,?_,by omega,?_⟩,?_,?_,?_⟩
 ·exact au.new' _ _ _ (by simp)
 ·exact ((((au.new w 32 #[lv]).alloc _).alloc _).alloc _).alloc _
 ·intro hn hk;have:=hlt _ hn hk;omega
 ·rintro k hk
  refine⟨by simp[kS];omega,by omega,by omega,fun hn hk'=>?_⟩
  have:=hlt _ hn hk';omega
 ·exact (((au.new' _ _ _ (by simp)).alloc _).alloc _).alloc _
 ·exact ((au.new' _ _ _ (by simp)).alloc _).alloc _
 ·exact (au.new' _ _ _ (by simp)).alloc _
theorem aCn(tmps:Array Value)(w:World)(Ab Ob Db:Nat)(a0 a1 a2 a3 d0:Value)(oc:Array Value)(ho:oc.size=55)(h4:tmps[4]?.getD undef=.pointer (some ⟨Ab,0,none⟩))(h5:tmps[5]?.getD undef=.pointer (some ⟨Ob,0,none⟩))(h6:tmps[6]?.getD undef=.pointer (some ⟨Db,0,none⟩))
  (hA:au w Ab 37 #[a0,a1,a2,a3]) (hO:au w Ob 40 oc) (hD:au w Db 4 #[d0]) :
  (results Tryz.f28 tmps).run Tryz.prog w=.ok (.tuple #[.agg #[a0,a1,a2,a3],.agg oc,d0]) w:=by
 have a0':=iM hA vI rfl;have b0:=iM hO iQ ho;have d0':=hD.cell 0;simp only[List.getElem?_toArray,List.getElem?_cons_zero] at d0'
 have d1:(loadVar 4 ⟨Db,0,none⟩).run Tryz.prog w=.ok d0 w:=by simp[go_sem,d0']
 simp[results,Tryz.results28,h4,h5,h6,asAddr,a0',b0,d1]
theorem II (G:Nat) (pc:Array Value) (lv:Value) (log:List jc) (p:ah Pv.jg) (T:Nat->Prop) (w:World) (hl:Reads w 2 lv log.length (logCells log)) (hG:∀ (args:Array Value) (w:World),(callFunc G args).run Tryz.prog w=.ok (.enter G args) w)
    (hp : ∀ w1,Ext w w1->w1.heap.size=w.heap.size+5->qg (w.heap.size+1+1+1+1) w.heap.size lv log 0 (fun k=>k=w.heap.size+1\/k=w.heap.size+1+1\/k=w.heap.size+1+1+1) w1 ->
      Calls Tryz.prog G (#[.func (.func 43) #[] #[.pointer (some ⟨w.heap.size+1+1+1+1,0,none⟩),.pointer (some ⟨w.heap.size,0,none⟩)]]++pc) w1 fun e w2=>di (fun k=>k=w.heap.size+1+1+1+1\/(T k/\k<w.heap.size)) w1 w2 /\
        ((∃ a i,p.run (replay log) 0=.ok a i/\Pv.pq a/\e=.returned (.agg (Pv.jm a)))\/∃ c i older,p.run (replay log) 0=.error c i/\Pv.WZ older/\e=.panicked ({ v:=pending c,recovered:=false }::older))) :
    Calls Tryz.prog 28 #[.func (.func G) #[] pc,lv] w fun e w'=>di T w w' /\
      (
       (∃ a i,p.run (replay log) 0=.ok a i/\Pv.pq a/\e=.returned (.tuple #[.agg #[.int .i64 0,.int .i64 0,.int .i64 0,.string aS],.agg (Pv.jm a),.bool true])) \/
       ∃ c i,p.run (replay log) 0=.error c i/\e=.returned (.tuple #[c.v,.agg (Pv.jm Pv.jr),.bool false])):=by
  have hmf:∀ (fn:Fn) (first cap:Array Value) (w:World),(Instr.makeFunc fn first cap).run Tryz.prog w=.ok (.func fn first cap) w:=fun _ _ _ _=>rfl;have HP:=hide hp;have HL:=hide hl;obtain⟨_,B,c,rfl,hnc,hcm,_⟩:=hl;clear hp hnc hcm
  go_enter_defers Tryz.func28,Tryz.ntmps28
  go_wp2_with fail
  obtain⟨hE,hsz,hI,hBA,hBO,hBD⟩:=aFi w (.slice B log.length c) log (aA HL);refine (aA HP (kS w (.slice B log.length c)) hE hsz hI).mono ?_;rintro e w1 ⟨h2,hq⟩
  have nA:¬(w.heap.size+1=w.heap.size+1+1+1+1\/(T (w.heap.size+1)/\w.heap.size+1<w.heap.size)):=by rintro (h|⟨_,h⟩)<;>omega
  have nO:¬(w.heap.size+1+1=w.heap.size+1+1+1+1\/(T (w.heap.size+1+1)/\w.heap.size+1+1<w.heap.size)):=by rintro (h|⟨_,h⟩)<;>omega
  have nD:¬(w.heap.size+1+1+1=w.heap.size+1+1+1+1\/(T (w.heap.size+1+1+1)/\w.heap.size+1+1+1<w.heap.size)):=by rintro (h|⟨_,h⟩)<;>omega
  have hA:=hBA.g_ h2 nA;have hO:=hBO.g_ h2 nO;have hD:=hBD.g_ h2 nD;have hEx:Hid (di T w w1):=hide (hE.trans' h2 (fun _ _ h=>h.elim) (fun i hi e=>by rcases e with e|e;omega;exact e.1));rcases hq with⟨o,s,hr,hok,rfl⟩|⟨a,s,older,hr,hno,rfl⟩
  ·
    have HR:=hide (And.intro hr hok);have HA:=hide hA;have HO:=hide hO;have HD:=hide hD;have hoo:=Pv.dL hok;have KY:=Pv.kY o;clear hr h2 hE hsz hI hBA hBO hBD HP nA nO nD hA hO hD hok;generalize hoc:Pv.jm o=oc at *
    have e1:¬w.heap.size+1=w.heap.size+1+1:=by omega
    have e2:¬w.heap.size+1=w.heap.size+1+1+1:=by omega
    have e3:¬w.heap.size+1+1=w.heap.size+1:=by omega
    have e4:¬w.heap.size+1+1=w.heap.size+1+1+1:=by omega
    have e5:¬w.heap.size+1+1+1=w.heap.size+1:=by omega
    have e6:¬w.heap.size+1+1+1=w.heap.size+1+1:=by omega
    go_wp2_with (first
      |(refine aT (ty:=37) (t:=37) (x:=.tmp 4) (y:=.tmp 11) rfl rfl vI rfl rfl (aA HA) rfl rfl (by rw[<-Array.all_toList];rfl) ?_;intro w2 hb2 hc2 hz2;have H2:=hide (And.intro hb2 (And.intro hc2 hz2));clear hb2 hc2 hz2)
      |(refine aT (ty:=40) (t:=40) (x:=.tmp 5) (y:=.tmp 14) rfl rfl iQ rfl rfl ((aA HO).g_ (aA H2).2.1 e3) (Pv.dL Pv.jK) hoo KY ?_;intro w3 hb3 hc3 hz3;have hDD:=((aA HD).g_ (aA H2).2.1 e5).g_ hc3 e6;have d1:=hDD.cell 0;have f1:=hDD.frozen;have l1:=hDD.lt;simp only[List.getElem?_toArray,List.getElem?_cons_zero] at d1;have H3:=hide (And.intro hb3 (And.intro hc3 (And.intro hz3 hDD)));clear hb3 hc3 hz3 hDD))
    obtain⟨b2,c2,s2⟩:=aA H2;obtain⟨b3,c3,s3,hDD⟩:=aA H3;refine leaves_cons (f:=44) (args:=#[.pointer (some ⟨w.heap.size+1,0,none⟩),.pointer (some ⟨w.heap.size+1+1,0,none⟩),.pointer (some ⟨w.heap.size+1+1+1,0,none⟩)]) (by simp) (by simp[go_sem]) ?_;refine (catch_idle _ _ _ _).mono ?_;rintro e u' w4 ⟨rfl,rfl,rfl⟩
    refine⟨_,aCn _ _ (w.heap.size+1) (w.heap.size+1+1) (w.heap.size+1+1+1) (.int .i64 0) (.int .i64 0) (.int .i64 0) (.string { data:=#[] }) (.bool true) oc hoo rfl rfl rfl ((b2.g_ c3 e1).far (p:=⟨w.heap.size+1+1+1,0,none⟩) e2 _) (b3.far (p:=⟨w.heap.size+1+1+1,0,none⟩) e4 _) (hDD.vg 0 _),?_,?_⟩
    · exact (((aA hEx).trans' c2 (fun _ _ h=>h) (fun i hi e=>by omega)).trans' c3 (fun _ _ h=>h) (fun i hi e=>by omega)).setCell (.inr (show w.heap.size<=w.heap.size+1+1+1 by omega)) _
    · exact .inl ⟨o,s,(aA HR).1,(aA HR).2,by rw[hoc];rfl⟩
  ·
    have HR:=hide hr;have HA:=hide hA;have HO:=hide hO;have HD:=hide hD;clear hr h2 hE hsz hI hBA hBO hBD HP nA nO nD hA hO hD
    go_wp2
    refine leaves_cons (f:=44) (args:=#[.pointer (some ⟨w.heap.size+1,0,none⟩),.pointer (some ⟨w.heap.size+1+1,0,none⟩),.pointer (some ⟨w.heap.size+1+1+1,0,none⟩)]) (by simp) (by simp[go_sem]) ?_;refine (catch_panicking _ _ _ a _ _ _ _ _ _ older _ (Pv.dL Pv.jK) (aA HA) (aA HO) (aA HD) (by omega) (by omega) (by omega)).mono ?_;rintro e u' w2 ⟨rfl,rfl,hc,hA',hO',hD'⟩;have hst:settle (.panicking ({ v:=pending a,recovered:=true }::older))=.returning:=Pv.yY hno;show Leaves _ _ _ _ _ (settle _) _;rw[hst]
    refine⟨_,aCn _ _ _ _ _ _ _ _ _ _ _ (Pv.dL Pv.jK) rfl rfl rfl hA' hO' hD',?_,?_⟩
    rotate_left 1
    · exact .inr ⟨a,s,aA HR,rfl⟩
    · exact (aA hEx).trans' hc (fun _ _ h=>h) (fun i hi e=>by rcases e with e|e|e<;>omega)
namespace Pv
def Ar(log:List jc):List Acc->Option jc:=fun l=>match l.length with
 |0=>none
 |n+1=>log[n]?
theorem yG(log:List jc)(l:List Acc)(c:Acc):Ar log (l++[c])=log[l.length]?:=by
 unfold Ar;rw[List.length_append];rfl
theorem aCv{log:List jc}{a:Acc}{i:Nat}{r:jc}(h:log[i]?=some r):replay log a i=.ok r (i+1):=by unfold replay;rw[h]
theorem aCw{log:List jc}{a:Acc}{i:Nat}(h:log[i]?=none):replay log a i=.error a i:=by unfold replay;rw[h]
theorem bBu{α:Type}(log:List jc)(p:ah α):∀ l:List Acc,l.length<=log.length ->
  ((go (Ar log) p l).2.length<=log.length->p.run (replay log) l.length=.ok (go (Ar log) p l).1 (go (Ar log) p l).2.length) /\
  (∀ l' c,l'++[c] <+: (go (Ar log) p l).2->l <+: l'->l'.length=log.length->p.run (replay log) l.length=.error c log.length):=by
 induction p with
 |ret a=>
  refine fun l hl=>⟨fun _=>rfl,fun l' c h1 h2 h3=>?_⟩;have h4:=h1.length_le;have h5:=h2.length_le;rw[List.length_append,List.length_singleton] at h4;have h6:(go (Ar log) (ah.ret a) l).2=l:=rfl;rw[h6] at h4
  omega
 | ask a k ih=>
  intro l hl;rw[vY];have hpre:=uD (Ar log) (k (ans (Ar log) (l++[a]))) (l++[a])
  have hlen:(l++[a]).length=l.length+1:=by simp
  cases hr:log[l.length]? with
  | some r=>
   have hlt:l.length<log.length:=(List.getElem?_eq_some_iff.1 hr).1
   have ha:ans (Ar log) (l++[a])=r:=by unfold ans;rw[yG,hr];rfl
   rw[ha] at hpre ⊢;obtain⟨i1,i2⟩:=ih r (l++[a]) (by omega);rw[hlen] at i1 i2
   have hrun:(ah.ask a k).run (replay log) l.length=(k r).run (replay log) (l.length+1):=by
    simp only[ah.run,aCv hr]
   rw[hrun]
   refine⟨i1,fun l' c h1 h2 h3=>i2 l' c h1 ?_ h3⟩
   exact List.prefix_of_prefix_length_le hpre ((List.prefix_append l' [c]).trans h1) (by rw[hlen];omega)
  | none=>
   have hge:log.length<=l.length:=List.getElem?_eq_none_iff.1 hr
   have hrun:(ah.ask a k).run (replay log) l.length=.error a l.length:=by
    simp only[ah.run,aCw hr]
   refine⟨fun h=>?_,fun l' c h1 h2 h3=>?_⟩
   ·have:=hpre.length_le;rw[hlen] at this;omega
   ·have hll:l'=l:=(h2.eq_of_length (by omega)).symm;subst hll;have:=List.prefix_of_prefix_length_le h1 hpre (by simp);have h4:=this.eq_of_length (by simp)
    have h5:c=a:=by simpa using h4
    rw[hrun,h5,h3]
def U5(A L:Nat)(lv:Value)(log:List jc):Dv where
 hd:=.func (.func 43) #[] #[.pointer (some ⟨A,0,none⟩),.pointer (some ⟨L,0,none⟩)]
 O:=Ar log
 S:=fun k=>k=A
 inv:=fun l X w=>qg A L lv log l.length X w
 uf:=fun l _ _ chain=>∃ l' c,l=l'++[c]/\l'.length<=log.length/\∃ older,WZ older/\chain={ v:=pending c,recovered:=false }::older
 one:=rfl
 og:=rfl
 notS:=fun _ _ _ b h hb=>(h.mine b hb).2.1
 grow:=fun l X Y w w' h hc hY=>by
  have h':=h.g_ hc
  refine⟨h'.at_,h'.EC,h'.reads,h'.ne,h'.own,h'.le,fun k hk=>?_⟩
  rcases hY k hk with hx|⟨h1,h2⟩
  ·exact h'.mine k hx
  ·have h3:=lt_of_heap h.at_;have h4:=lt_of_heap h.EC
   refine⟨h2,by omega,by omega,fun hn hk'=>?_⟩
   have:=h.reads.CY (by omega) hn k hk';omega
theorem aYx(A L:Nat)(lv:Value)(log:List jc):∀ {dh:List Acc->Prop},mg Tryz.prog (U5 A L lv log) dh:=⟨fun l X w h=>by
 refine⟨_,_,rfl,(fun args w=>by kernel_rfl),fun c _ _=>?_⟩
 refine (U2 A L lv log c l.length X w h _ rfl).mono ?_;intro e w' hp
 cases hr:log[l.length]? with
 | some r=>
  obtain⟨h1,h2,h3⟩:=hp.Zm (aCv hr)
  refine⟨h3,.inl ⟨r,?_,h1,?_⟩⟩
  ·exact (yG log l c).trans hr
  ·show qg A L lv log (l++[c]).length X w';rw[List.length_append]
   exact h2
 |none=>
  obtain⟨h1,h2,h3⟩:=hp.Uc (aCw hr)
  exact⟨h3,.inr ⟨_,(yG log l c).trans hr,h1,l,c,rfl,h.le,[],(fun _ h=>by cases h),rfl⟩⟩,fun T hT=>absurd hT.1 (by intro h;cases h)⟩
end Pv
section
namespace Pv
theorem aYv(A L:Nat)(lv:Value)(log:List jc):Ej (U5 A L lv log):=by
 rintro l X w chain ⟨l',c,rfl,hl,older,hno,rfl⟩
 refine⟨Sm,c.v,older,rfl,hno,.inl rfl,l',c,rfl,hl,{ v:=pending c,recovered:=true }::older,fun e he=>?_,rfl⟩
 rcases List.mem_cons.1 he with rfl|he
 ·rfl
 ·exact hno e he
def bEv(log:List jc):Prop:=∀ r∈log,r.bytes.size<=1000000
theorem V5{log:List jc}(h:bEv log):OB (Ar log):=by
 intro l r hr;unfold Ar at hr
 split at hr
 ·cases hr
 ·exact h r (List.mem_of_getElem? hr)
def TB(q:EStateM.Result Acc Nat jg):Array Value:=match q with
 |.ok a _=>#[.agg #[.int .i64 0,.int .i64 0,.int .i64 0,.string aS],.agg (jm a),.bool true]
 |.error c _=>#[c.v,.agg (jm jr),.bool false]
def Nj(q:EStateM.Result Acc Nat jg):Prop:=match q with
 |.ok a _=>pq a
 |.error _ _=>True
end Pv
open Pv in
theorem IC(m:jh)(hm:u_ m)(hml:yc m)(log:List jc)(VI:bEv log)(lv:Value)(g:Nat)(w:World)(hM:a_ w)(hg0:YQ<g/\YP<g)(hl:Reads w 2 lv log.length (logCells log))(hlg:0<log.length->lv.ownBlock≠some g)(hB:au w g 31 (opC m)) :
  Calls Tryz.prog 28 #[.func (.func 45) #[] #[.pointer (some ⟨g,0,none⟩)],lv] w fun e w'=>di (fun k=>k=g) w w'/\Nj ((dJ m).run (replay log) 0)/\e=.returned (.tuple (TB ((dJ m).run (replay log) 0))):=by
 refine (II 45 #[.pointer (some ⟨g,0,none⟩)] lv log (dJ m) (fun k=>k=g) w hl (fun args w=>by kernel_rfl) (fun w1 hE hsz hI=>?_)).mono ?_
 ·have lg:=hB.lt
  have hI2:qg (w.heap.size+1+1+1+1) w.heap.size lv log 0 (fun k=>(k=w.heap.size+1\/k=w.heap.size+1+1\/k=w.heap.size+1+1+1)\/k=g) w1:=
   ⟨
    hI.at_,hI.EC,hI.reads,hI.ne,hI.own,hI.le,fun k hk=>by
    rcases hk with hk|rfl
    ·exact hI.mine k hk
    ·exact⟨by omega,by omega,by omega,hlg⟩⟩
  have hgr:=bBu log (dJ m) [] (Nat.zero_le _);refine (aMa m hm hml w1 g (U5 (w.heap.size+1+1+1+1) w.heap.size lv log) _ (hB.ext hE) (fun w' hc=>?_) (fun b hb=>?_) (aYx _ _ _ _) (fun _ _ _ _ _ _ h _ _=>h) (aYv _ _ _ _) (V5 VI) hI2 (.inr rfl)).mono ?_
  ·have hk1:=Yy hM (.inl rfl);have hk2:=Yy hM (.inr rfl);refine (hM.ext hE).g_ hc ?_ ?_
   ·rintro (h|h)
    ·have h':YQ=w.heap.size+1+1+1+1:=h;omega
    ·have h':YQ=g:=h;omega
   ·rintro (h|h)
    ·have h':YP=w.heap.size+1+1+1+1:=h;omega
    ·have h':YP=g:=h;omega
  ·have hb':b=w.heap.size+1+1+1+1:=hb;omega
  rintro e w2 ⟨hc,hq⟩
  refine⟨hc.mono fun b _ hb=>by rcases hb with h|h;exact .inl h;exact .inr ⟨h,by omega⟩,?_⟩
  rcases hq with⟨hok,rfl,hinv⟩|⟨chain,l,rfl,h1,h2,l',c,rfl,h3,older,hno,rfl⟩
  ·exact .inl ⟨_,_,hgr.1 hinv.le,hok,rfl⟩
  ·refine .inr ⟨c,_,older,hgr.2 l' c h1 List.nil_prefix ?_,hno,rfl⟩;have h5:log[l'.length]?=none:=(yG log l' c).symm.trans h2;have:=List.getElem?_eq_none_iff.1 h5;omega
 ·rintro e w' ⟨hc,⟨a,i,hr,hok,rfl⟩|⟨c,i,hr,rfl⟩⟩
  ·rw[hr]
   exact⟨hc,hok,rfl⟩
  ·rw[hr]
   exact⟨hc,trivial,rfl⟩
theorem aMl{tmps:Array Value}{w:World}{Ab Ob:Nat}{ac oc:Array Value}(ha:ac.size=4)(ho:oc.size=55)(h4:tmps.getD 4 undef=.pointer (some ⟨Ab,0,none⟩))(h5:tmps.getD 5 undef=.pointer (some ⟨Ob,0,none⟩))
  (hA:au w Ab 37 ac) (hO:au w Ob 40 oc) :
  (results Tryz.f10 tmps).run Tryz.prog w=.ok (.tuple #[.agg ac,.agg oc,tmps.getD 6 undef]) w:=by
 have a0:=iM hA vI ha;have b0:=iM hO iQ ho;simp only[Array.getD_eq_getD_getElem?] at h4 h5;simp[results,Tryz.results10,h4,h5,asAddr,a0,b0]
namespace Pv
def bAo(q:EStateM.Result Acc Nat jg):Acc:=match q with
 |.ok _ _=>⟨0,0,0,aS⟩
 |.error c _=>c
def Rk(q:EStateM.Result Acc Nat jg):jg:=match q with
 |.ok a _=>a
 |.error _ _=>jr
def WW(q:EStateM.Result Acc Nat jg):Bool:=match q with
 |.ok _ _=>true
 |.error _ _=>false
def NW(a:Acc):Array Value:=#[.int .i64 a.kind,.int .i64 a.ay,.int .i64 a.cell,.string a.bytes]
theorem JK(q:EStateM.Result Acc Nat jg):TB q=#[.agg (NW (bAo q)),.agg (jm (Rk q)),.bool (WW q)]:=by cases q<;>rfl
theorem JL{q:EStateM.Result Acc Nat jg}(h:Nj q):pq (Rk q):=by
 cases q with
 |ok a i=>exact h
 |error c i=>exact jK
end Pv
theorem next_any(m:Pv.jh)(hm:Pv.u_ m)(hml:Pv.yc m)(log:List jc)(VI:Pv.bEv log)(lv:Value)(w:World)(hM:a_ w)(hl:Reads w 2 lv log.length (logCells log)) :
  Calls Tryz.prog 10 #[.agg (Pv.opC m),lv] w fun e w'=>Ext w w'/\Pv.pq (Pv.Rk ((Pv.dJ m).run (replay log) 0))/\e=.returned (.tuple #[.agg (Pv.NW (Pv.bAo ((Pv.dJ m).run (replay log) 0))),.agg (Pv.jm (Pv.Rk ((Pv.dJ m).run (replay log) 0))),.bool (Pv.WW ((Pv.dJ m).run (replay log) 0))]):=by
 have Ai:=hide (show (Pv.opC m).size=102 from Pv.qX hml);have HR:=hide (fun W=>Jm (Pv.opC m) W)
 have HV:Hid (∀ g W,w.heap.size<=g->Ext w W->au W g 31 (Pv.opC m)->Calls Tryz.prog 28 #[.func (.func 45) #[] #[.pointer (some ⟨g,0,none⟩)],lv] W fun e w'=>di (fun k=>k=g) W w'/\Pv.pq (Pv.Rk ((Pv.dJ m).run (replay log) 0))/\e=.returned (.tuple #[.agg (Pv.NW (Pv.bAo ((Pv.dJ m).run (replay log) 0))),.agg (Pv.jm (Pv.Rk ((Pv.dJ m).run (replay log) 0))),.bool (Pv.WW ((Pv.dJ m).run (replay log) 0))])):=hide (fun g W hg hE hB=>by
  have hk1:=Pv.Yy hM (.inl rfl);have hk2:=Pv.Yy hM (.inr rfl);refine (IC m hm hml log VI lv g W (hM.ext hE) ⟨by omega,by omega⟩ (hl.ext hE) (fun h0 hk=>?_) hB).mono ?_
  ·have:=hl.CY (by omega) h0 _ hk;omega
  ·rintro e w' ⟨h1,h2,rfl⟩
   exact⟨h1,Pv.JL h2,by rw[Pv.JK]⟩)
 obtain⟨q,hq⟩:∃ q,(Pv.dJ m).run (replay log) 0=q:=⟨_,rfl⟩;rw[hq] at HV ⊢;obtain⟨Zp,KZ⟩:∃ x,Pv.opC m=x:=⟨_,rfl⟩;rw[KZ] at Ai HR HV ⊢;obtain⟨oc,hoc⟩:∃ x,Pv.jm (Pv.Rk q)=x:=⟨_,rfl⟩;obtain⟨ac,hac⟩:∃ x,Pv.NW (Pv.bAo q)=x:=⟨_,rfl⟩
 have aBF:ac.size=4:=by rw[<-hac];rfl
 have aKD:ac.all (·.oneCell')=true:=by rw[<-hac,<-Array.all_toList];rfl
 rw[hoc,hac] at HV ⊢;have HO:=hide hoc;obtain⟨_,B,c,rfl,_,_,_⟩:=hl;clear KZ hM hm hml hq hoc hac
 go_enter Tryz.func10,Tryz.ntmps10
 go_upto_region 1 with fail
 generalize hW0:World.alloc _ (.cells _ 40)=W0
 have z1:Ext w W0:=by
  rw[<-hW0]
  repeat' (first|(with_reducible exact di.refl _ _)|(with_reducible exact Ext.refl _)|(with_reducible assumption)|(with_reducible refine di.alloc ?_ _)|(with_reducible refine di.drew ?_)|(with_reducible refine di.drewN ?_ _)|(with_reducible refine di.setCell ?_ ?_ _)|(with_reducible refine Ext.alloc ?_ _)|(with_reducible refine Ext.drew ?_)|(with_reducible refine Ext.drewN ?_ _)|(with_reducible refine Ext.setCell ?_ ?_ _)|(simp;done)|(simp;omega)|omega)
 have z2:au W0 w.heap.size 31 Zp:=by rw[<-hW0];exact ((au.new w _ _).alloc _).alloc _
 have z5:au W0 (w.heap.size+1) 37 #[.int .i64 0,.int .i64 0,.int .i64 0,.string { data:=#[] }]:=by rw[<-hW0];exact (au.new' _ _ _ (by simp)).alloc _
 have z6:au W0 (w.heap.size+1+1) 40 (Pv.jm Pv.jr):=by rw[<-hW0];exact au.new' _ _ _ (by simp)
 have z7:W0.heap.size=w.heap.size+3:=by rw[<-hW0];simp
 have HZ:=hide (And.intro z1 (And.intro z2 (And.intro z5 (And.intro z6 z7))));clear hW0 z1 z2 z5 z6 z7
 go_wp2_with (refine dD (ty:=31) (t:=31) (x:=.tmp 2) rfl rfl Pv.aIy rfl (cs:=Zp) (aA HZ).2.1 (aA Ai) ?_)
 refine (aA HR W0).mono ?_;rintro e w1 ⟨rfl,k1,k2,k3⟩;have H1:=hide (And.intro k1 (And.intro k2 k3));clear k1 k2 k3
 go_wp2_with fail
 obtain⟨z1,z2,z5,z6,z7⟩:=aA HZ;obtain⟨k1,k2,k3⟩:=aA H1;refine (aA HV W0.heap.size w1 (by omega) (z1.trans k1) k3).mono ?_;rintro e w2 ⟨hc,hok,rfl⟩;have HA:=hide (show Ext w w2/\au w2 (w.heap.size+1) 37 #[.int .i64 0,.int .i64 0,.int .i64 0,.string { data:=#[] }]/\au w2 (w.heap.size+1+1) 40 (Pv.jm Pv.jr)/\Pv.pq (Pv.Rk q) from⟨(z1.trans k1).trans' hc (fun _ _ h=>h) (fun i hi e=>by omega),(z5.ext k1).g_ hc (by omega),(z6.ext k1).g_ hc (by omega),hok⟩);clear z1 z2 z5 z6 z7 k1 k2 k3 hc hok HZ H1 HV HR Ai
 go_wp2_with (first
  |(refine aT (ty:=37) (t:=37) (x:=.tmp 4) (y:=.tmp 11) rfl rfl vI rfl rfl (aA HA).2.1 rfl aBF aKD ?_;intro w3 hb3 hc3 hz3;have H3:=hide (And.intro hb3 (And.intro hc3 hz3));clear hb3 hc3 hz3)
  |(refine aT (ty:=40) (t:=40) (x:=.tmp 5) (y:=.tmp 12) rfl rfl iQ rfl rfl ((aA HA).2.2.1.g_ (aA H3).2.1 (by omega)) (Pv.dL Pv.jK) (by rw[<-aA HO];exact Pv.dL (aA HA).2.2.2) (by rw[<-aA HO];exact Pv.kY _) ?_;intro w4 hb4 hc4 Bz;have H4:=hide (And.intro hb4 (And.intro hc4 Bz));clear hb4 hc4 Bz))
 obtain⟨x1,_,_,hok⟩:=aA HA;obtain⟨b3,c3,s3⟩:=aA H3;obtain⟨b4,c4,s4⟩:=aA H4;have hoc:=aA HO;refine bodyPost_ret (aMl aBF (by rw[<-hoc];exact Pv.dL hok) rfl rfl (b3.g_ c4 (by omega)) b4) rfl ⟨?_,hok,rfl⟩;exact (x1.trans' c3 (fun _ _ h=>h) (fun i hi e=>by omega)).trans' c4 (fun _ _ h=>h) (fun i hi e=>by omega)
end
namespace Pv
theorem RY(C:Ctx)(a:Acc):RL C (rW a) (NW a).toList:=.cons (xs:=[_]) (.lit rfl) (.cons (xs:=[_]) (.lit rfl) (.cons (xs:=[_]) (.lit rfl) (.cons (xs:=[_]) (.lit rfl) .nil)))
def Uh(q:EStateM.Result Acc Nat jg):PV:=.kz [.agg (rW (bAo q)),.agg (gq (Rk q)),.one (.lit (.bool (WW q)))]
def JM:List PV->Option (Prop×PV)
 |[.w (.agg ol),.w (.one lv)]=>match bEf ol,U8 lv with
  |some m,some (p,log)=>some (p/\u_ m/\bEv log,Uh ((dJ m).run (replay log) 0))
  |_,_=>none
 |_=>none
theorem bAn:aj Tryz.prog a_ 10 (aZ true JM):=by
 refine aY (aF Tryz.func10 (by kernel_rfl) rfl) (fun xs p r hg hp w ok0 vs hI hv=>?_);unfold JM at hg
 split at hg
 ·rename_i ol lv
  split at hg
  ·rename_i m p1 log em e1;cases hg;obtain⟨q1,q2,q3⟩:=hp
   match vs,hv with
   | [v1,v2],⟨k1,k2,_⟩=>
    cases k1 with
    | w k1=>cases k1 with
     | @agg _ c1 k1=>
      cases k2 with
      | w k2=>cases k2 with
       |one k2=>
        rw[aKd em] at k1;obtain⟨h1,hid,hbt⟩:=aSr k1;have ec:c1=opC m:=Array.ext' h1;subst ec;refine (next_any m q2 ⟨q2.root,hid,q2.link,q2.ot,q2.xt,hbt⟩ log q3 v2 w hI (Oc e1 q1 k2)).mono ?_;rintro e w' ⟨hE,hok,rfl⟩
        refine⟨_,rfl,hE,.kz rfl (fun i x hx=>?_)⟩
        match i,hx with
        |0,hx=>cases hx;exact⟨_,rfl,.agg (RY _ _)⟩
        |1,hx=>cases hx;exact⟨_,rfl,.agg (bAc _ hok)⟩
        |2,hx=>cases hx;exact⟨_,rfl,.one (.lit rfl)⟩
        |i+3,hx=>cases hx
  ·cases hg
 ·cases hg
def y_(k:Nat):List UInt8:=UInt8.ofNat k::List.replicate 15 0
def DX(k:Nat):List UInt8:=y_ (k+1)
def iL(k:Nat):List UInt8:=100::UInt8.ofNat k::List.replicate 14 0
def BF(k:Nat)(kind:Int):jh:=⟨kind,iL k,DX k,y_ 7,aS,zl,0,zl,0,0,aS,zl⟩
theorem VC(k:Nat)(hk:k<=2):gB Tryz.prog a_ 26 true [gy k] (.w (.agg [.bs 16 (DX k)])):=by
 have hc:k=0\/k=1\/k=2:=by omega
 rcases hc with rfl|rfl|rfl
 ·have M:=zZ (I:=a_);refine bI Tryz.func26 rfl rfl bQ (fun A hS hn hI=>?_);refine aB M hI hn (by rfl) (by kernel_rfl) ?_ ?_
  ·simp
  refine aB M hI hn (by rfl) (by kernel_rfl) ?_ ?_
  ·simp
   decide
  refine aK (fun a w hg=>⟨.inr rfl,_,?_,hg⟩);refine aC (by rfl) (by simp) (by rfl) (by rfl) ?_;rfl
 ·have M:=zZ (I:=a_);refine bI Tryz.func26 rfl rfl bQ (fun A hS hn hI=>?_);refine aB M hI hn (by rfl) (by kernel_rfl) ?_ ?_
  ·simp
  refine aB M hI hn (by rfl) (by kernel_rfl) ?_ ?_
  ·simp
   decide
  refine aK (fun a w hg=>⟨.inr rfl,_,?_,hg⟩);refine aC (by rfl) (by simp) (by rfl) (by rfl) ?_;rfl
 ·have M:=zZ (I:=a_);refine bI Tryz.func26 rfl rfl bQ (fun A hS hn hI=>?_);refine aB M hI hn (by rfl) (by kernel_rfl) ?_ ?_
  ·simp
  refine aB M hI hn (by rfl) (by kernel_rfl) ?_ ?_
  ·simp
   decide
  refine aK (fun a w hg=>⟨.inr rfl,_,?_,hg⟩);refine aC (by rfl) (by simp) (by rfl) (by rfl) ?_;rfl
def idG:List PV->Option (Prop×PV)
 |[.w (.one (.lit (.int .i64 k)))]=>some (0<=k/\k<=2,.w (.agg [.bs 16 (DX k.toNat)]))
 |_=>none
theorem bBr:aj Tryz.prog a_ 26 (aZ true idG):=by
 refine aY (aF Tryz.func26 (by kernel_rfl) rfl) (fun xs p r hg hp=>?_);unfold idG at hg
 split at hg
 ·rename_i k;cases hg;obtain⟨n,rfl⟩:∃ n:Nat,k=(n:Int):=⟨k.toNat,by omega⟩;exact VC n (by omega)
 ·cases hg
def aIR:List (Nat×Spec):=[(26,aZ true idG)]
theorem UW:kw Tryz.prog a_ (find aIR):=⟨bV (fun p hp=>by
 obtain rfl:=List.mem_singleton.1 hp
 exact bBr),fC⟩
theorem PE(k:Nat)(hk:k<=2)(kind:Int):gB Tryz.prog a_ 14 true [gy k,gy kind] (.w (.agg (yw (BF k kind)))):=by
 have hc:k=0\/k=1\/k=2:=by omega
 rcases hc with rfl|rfl|rfl
 ·have M:=UW;refine bI Tryz.func14 rfl rfl bQ (fun A hS hn hI=>?_);refine aB M hI hn (by rfl) (by kernel_rfl) ?_ ?_
  ·simp
  refine aB M hI hn (by rfl) (by kernel_rfl) ?_ ?_
  ·simp
   try decide
  refine aK (fun a w hg=>⟨.inr rfl,_,?_,hg⟩);refine aC (by rfl) (by simp) (by rfl) (by rfl) ?_;rfl
 ·have M:=UW;refine bI Tryz.func14 rfl rfl bQ (fun A hS hn hI=>?_);refine aB M hI hn (by rfl) (by kernel_rfl) ?_ ?_
  ·simp
  refine aB M hI hn (by rfl) (by kernel_rfl) ?_ ?_
  ·simp
   try decide
  refine aK (fun a w hg=>⟨.inr rfl,_,?_,hg⟩);refine aC (by rfl) (by simp) (by rfl) (by rfl) ?_;rfl
 ·have M:=UW;refine bI Tryz.func14 rfl rfl bQ (fun A hS hn hI=>?_);refine aB M hI hn (by rfl) (by kernel_rfl) ?_ ?_
  ·simp
  refine aB M hI hn (by rfl) (by kernel_rfl) ?_ ?_
  ·simp
   try decide
  refine aK (fun a w hg=>⟨.inr rfl,_,?_,hg⟩);refine aC (by rfl) (by simp) (by rfl) (by rfl) ?_;rfl
def J7:List PV->Option (Prop×PV)
 |[.w (.one (.lit (.int .i64 k))),.w (.one (.lit (.int .i64 kind)))]=>some (0<=k/\k<=2,.w (.agg (yw (BF k.toNat kind))))
 |_=>none
theorem aIu:aj Tryz.prog a_ 14 (aZ true J7):=by
 refine aY (aF Tryz.func14 (by kernel_rfl) rfl) (fun xs p r hg hp=>?_);unfold J7 at hg
 split at hg
 ·rename_i k kind;cases hg;obtain⟨n,rfl⟩:∃ n:Nat,k=(n:Int):=⟨k.toNat,by omega⟩;exact PE n (by omega) kind
 ·cases hg
def U4:List (Nat×Spec):=[(15,aZ false EY)]
theorem U3:kw Tryz.prog a_ (find U4):=⟨bV (fun p hp=>by
 obtain rfl:=List.mem_singleton.1 hp
 exact aMn),fC⟩
def aYw(q:Option jg×j_×Nat):PV:=.kz [.agg (lw q.2.1),.agg (gq (bH q.1))]
def V4(q:Option jg×j_×Nat):St:=⟨[(4,none,dm (.pt 2 0 0)),(5,none,dm (.pt 3 0 0)),(6,none,dm (.pt 1008 0 0)),(7,none,dm (.pt 1009 0 0))],
 [(2,none,0,.box 65 [.lit (.slice none 0 0),.lit (.slice none 0 0),.bs 16 (List.replicate 16 0)]),(3,none,0,.box 40 (gq jr)),(1008,none,0,.box 65 (lw q.2.1)),(1009,none,0,.box 40 (gq (bH q.1)))]⟩
theorem KC(h:j_)(m:jh)(hd:qh h)(hm:u_ m):gB Tryz.prog a_ 20 false [.w (.agg (lw h)),.w (.agg (yw m))] (aYw (eG [] (dJ m) h 0)):=by
 have M:=U3;refine bI Tryz.func20 rfl rfl bQ (fun A hS hn hI=>?_);obtain⟨q,hq⟩:∃ q,eG [] (dJ m) h 0=q:=⟨_,rfl⟩;rw[hq];refine aB M hI hn (by rfl) (by kernel_rfl) ?_ ?_
 ·simp
 refine aB M hI hn (by rfl) (by kernel_rfl) ?_ ?_
 ·simp
  exact⟨hd,hm⟩
 refine aI (s':=V4 q) (fun a w hg=>(hg.reset (kT:=[4,5,6,7]) (kO:=[2,3,1008,1009]) (by rfl) (by simp)).same ?_ ?_) ?_
 ·exact .cons rfl (.cons rfl (.cons rfl (.cons rfl .nil)))
 ·have e:(⟨bC h.b.length (bJ h.b),iP h.f.length (tu h.f),h.r⟩:j_)=h:=by rw[aH,bK]
  refine .cons (.box rfl) (.cons (.box rfl) (.cons (.box ?_) (.cons (.box ?_) .nil)))
  ·rw[<-hq];change lw (eG [] (dJ m) (⟨bC h.b.length (bJ h.b),iP h.f.length (tu h.f),h.r⟩:j_) 0).2.1=_;rw[e]
  ·rw[<-hq];change gq (bH (eG [] (dJ m) (⟨bC h.b.length (bJ h.b),iP h.f.length (tu h.f),h.r⟩:j_) 0).1)=_;rw[e]
 refine aB M hI hn (by rfl) (by kernel_rfl) ?_ ?_
 ·simp
 refine aK (fun a w hg=>⟨.inr rfl,_,?_,hg⟩);refine aC (by rfl) (by simp) (by rfl) (by rfl) ?_;rfl
def aIz:List PV->Option (Prop×PV)
 |[.w (.agg hl),.w (.agg ol)]=>match Ac hl,bEf ol with
  |some (p,h),some m=>some (p/\qh h/\u_ m,aYw (eG [] (dJ m) h 0))
  |_,_=>none
 |_=>none
theorem aMr:aj Tryz.prog a_ 20 (aZ false aIz):=by
 refine aY (aF Tryz.func20 (by kernel_rfl) rfl) (fun xs p r hg hp=>?_);unfold aIz at hg
 split at hg
 ·rename_i hl ol
  split at hg
  ·rename_i p1 h m e1 em;cases hg;obtain⟨q1,q2,q3⟩:=hp;rw[aKd em]
   exact (KC h m q2 q3).args fun C vs hv=>by
    match vs,hv with
    | [x,y],⟨h0,h1,_⟩=>
     refine⟨?_,h1,trivial⟩
     cases h0 with
     |w h3=>cases h3 with
      |agg h4=>exact .w (.agg (wR e1 q1 h4))
  ·cases hg
 ·cases hg
section
variable {P:Program} {I:World->Prop}
def WY(P:Program)(I:World->Prop)(f:Nat)(t:TypeId)(l:List PC):Prop:=
 ∀ w:World,I w->Calls P f #[] w fun e w'=>∃ g cs,e=.returned (.pointer (some ⟨g,0,none⟩))/\Ext w w'/\w.heap.size<=g/\g<w'.heap.size/\au w' g t cs/\RL { w:=w',ok:=fun b=>w.heap.size<=b/\b≠g,env:=fun _=>none } l cs.toList
def newSpec(t:TypeId)(l:List PC):Spec:=fun nm xs=>match xs with
 |[]=>.new nm (.box t l) fun v=>.ret (dm (.pt nm v 0))
 |_=>.fail
theorem aGp{f:Nat}{t:TypeId}{l:List PC}(hent:∀ args w,(callFunc f args).run P w=.ok (.enter f args) w)(hg:WY P I f t l):aj P I f (newSpec t l):=by
 refine⟨hent,fun A s a w env nm ul vs F h hI hv hk=>?_⟩
 unfold newSpec at hk
 split at hk
 ·match vs,hv with
  | [],_=>
   refine (hg w (hI.mem w h.g_)).mono ?_;rintro e w' ⟨g,cs,rfl,hE,h1,h2,h3,h4⟩
   have hno:∀ b,b<w'.heap.size->(w.heap.size<=b/\b≠g)->∀ x ai hd,uz env nm (fresh s nm) (iF g) x=some (ai,hd)->hblk hd≠some b:=by
    intro b hb hok x ai hd he' hbl
    by_cases hx:x=nm
    ·subst hx;rw[gU] at he'
     cases he'
     cases hbl;exact hok.2 rfl
    ·rw[jL hx] at he';have:=(h.live x ai hd b he' hbl).1;have:=hok.1;omega
   obtain⟨h5,h6⟩:=h.new (w':=w') nm none (iF g) (.box t l) hE (fun b hb=>by cases hb;exact⟨h2,h1⟩) (fun hle _=>⟨g,cs,rfl,h3,h4.le ⟨Nat.le_refl _,fun b hb hok=>⟨⟨.inr (Nat.le_trans h.g_.size hok.1),hno b hb hok⟩,rfl⟩,fun _ _ _ h=>by cases h⟩⟩);exact .inl ⟨_,_,_,_,rfl,hk,h5,.w (.one (.pt ⟨_,_,rfl⟩ ⟨_,_,gU _ _ _ _,Nat.le_refl _,fun _=>⟨_,rfl,rfl⟩⟩))⟩
 ·exact hk.elim
def RQN(P:Program)(A:jq)(fn:Func)(t:TypeId)(l:List PC):Exit->Act->World->Prop
 |.panic chain,a,w=>a.defers=A.ds/\D6 A chain w
 |e,a,w=>(e=.normal\/e=.ret)/\∃ s x out,(Am P fn.results).run none s=some out/\All out.conds/\out.wr=[]/\out.val=dm (.pt x 0 0)/\Nat.blt x dx=true/\find s.o x=some (none,0,.box t l)/\l.all (dH false)=true/\n_ A s a w
theorem J3(P:Program)(A:jq)(fn:Func)(t:TypeId)(l:List PC):Bh A (RQN P A fn t l):=fun _ _ _ hd h=>⟨hd,h⟩
theorem bCb{f:Nat}{fn:Func}{c:Code}{t:TypeId}{l:List PC}(hf:P.funcs[f]?=some fn)(hb:fn.body=some c)(hI:∀ w w',Ext w w'->I w->I w')
  (hT:∀ A:jq,A.S=Non->A.nt=fn.ntmps->lu P I A->h_ P A ⟨[],[]⟩ c (RQN P A fn t l)):WY P I f t l:=by
 intro w VV
 have hg:n_ (jq.plain w (fun _=>False) fn.ntmps) ⟨[],[]⟩ { tmps:=#[]++Array.replicate (fn.ntmps-0) undef,defers:=[] } w:=by
  refine⟨fun _=>none,{ g_:=di.refl _ _,size:=?_,dom:=fun x _=>rfl,jf:=fun x g ai o h=>(by cases h),live:=fun x ai hd b h=>(by cases h),inj:=fun x y v1 h1 v2 h2 b h=>(by cases h),tmps:=fun t g pv h hgt=>(by cases h),defers:=rfl,und:=fun t pv h=>(by cases h),jy:=fun x hd h=>(by cases h),dev:=fun g ai O dh l h=>(by cases h) }⟩
  simp[jq.plain]
 refine calls_of_wp hf hb (wp_mono (hT (jq.plain w (fun _=>False) fn.ntmps) rfl rfl (lu.plain fun w' hc=>hI w w' hc VV) _ w hg (J3 _ _ _ _ _)) (fun e a' w' he=>?_))
 have he':(e=.normal\/e=.ret)/\∃ s x out,(Am P fn.results).run none s=some out/\All out.conds/\out.wr=[]/\out.val=dm (.pt x 0 0)/\Nat.blt x dx=true/\find s.o x=some (none,0,.box t l)/\l.all (dH false)=true/\n_ (jq.plain w (fun _=>False) fn.ntmps) s a' w':=by
  cases e with
  |panic chain=>obtain⟨_,l,hl,_⟩:=he;exact hl.elim
  |_=>exact he
 obtain⟨h1,s,x,out,k1,k2,k3,k4,kx,k5,k6,env,hE⟩:=he';have hok:(Am P fn.results).ok none s (fun _ v' wr=>v'=dm (.pt x 0 0)/\wr=[]):=M.vk _ none s out _ k1 (fun p hp=>k2.mem p hp) ⟨k4,k3⟩;obtain⟨v',val,h5,h6,h7,_⟩:=sV hE hok;subst h7;obtain⟨hd,hev,hob⟩:=hE.jf x none 0 _ k5;obtain⟨g,cs,rfl,hB,hR⟩:=hob trivial
 have hval:val=.pointer (some ⟨g,0,none⟩):=by
  cases h6 with
  | w h6=>cases h6 with
   | one h6=>cases h6 with
    |pt j1 j2=>
     obtain⟨vr,hd',e1,_,e3⟩:=j2;have e1':env x=some (vr,hd'):=e1;rw[hev] at e1'
     cases e1'
     obtain⟨g',e4,e5⟩:=e3 rfl;cases e4;exact e5
 subst hval;have hl:=hE.live x 0 _ g hev rfl;have hold:w.heap.size<=g:=hl.2.resolve_right (fun hs=>hs.1.elim)
 have:a'.defers=[]/\∃ v,(results fn a'.tmps).run P w'=.ok v w'/\∃ g cs,Ending.returned v=.returned (.pointer (some ⟨g,0,none⟩))/\Ext w w'/\w.heap.size<=g/\g<w'.heap.size/\au w' g t cs/\RL { w:=w',ok:=fun b=>w.heap.size<=b/\b≠g,env:=fun _=>none } l cs.toList:=
  ⟨hE.defers,_,h5,g,cs,rfl,hE.g_,hold,hl.1,hB,(iY hR k6).le ⟨Nat.le_refl _,fun b hb hok=>⟨⟨hok.1.resolve_left id,fun e=>hok.2 x 0 _ hev (by rw[e];rfl)⟩,rfl⟩,fun _ _ _ h=>by cases h⟩⟩
 rcases h1 with rfl|rfl<;>exact this
end
end Pv
namespace Pv
section
variable {P:Program} {I:World->Prop}
end
end Pv
namespace Pv
section
variable {P:Program} {I:World->Prop}
end
end Pv
namespace Pv
def Rl:jh:={ BF 0 1 with payload:=strOf [115,116,97,116,101] }
theorem Yw(k:Nat)(kind:Int):u_ (BF k kind):=⟨rfl,rfl,rfl,rfl,by show iq 0;unfold iq;omega,by show iq 0;unfold iq;omega,by show iq 0;unfold iq;omega,by show aS.size<=10000;decide,by show aS.size<=2000;decide⟩
theorem JA:u_ Rl:=⟨rfl,rfl,rfl,rfl,by show iq 0;unfold iq;omega,by show iq 0;unfold iq;omega,by show iq 0;unfold iq;omega,by decide,by show aS.size<=2000;decide⟩
theorem bDb(root:List UInt8)(h:root.length=16):qh (D8 root):=by
 refine⟨⟨by show (JH 4).length<=1000;decide,?_,?_,?_,?_,h⟩,by show 3<(JH 4).length;decide,by show ((JH 4).getD 2 []).length=48;decide,by show ((JH 4).getD 3 []).length=48;decide,by show 64<=Bc.length;unfold Bc;rw[List.length_replicate];decide⟩
 ·intro l hl
  have:∀ l∈JH 4,l.length<=100000:=by decide
  exact this l hl
 ·intro l hl x hx
  have:∀ l∈JH 4,∀ x∈l,0<=x/\x<=3:=by decide
  exact this l hl x hx
 ·show Bc.length<=1000000;unfold Bc;rw[List.length_replicate]
  decide
 ·intro x hx;have:x=strOf DK:=List.eq_of_mem_replicate hx;rw[this,bM];show DK.length<=1000000;unfold DK;rw[List.length_replicate]
  decide
abbrev QS:=Option jg×j_×Nat
def WT(q:QS):Bool:=bif !q.1.isSome then true else !((bH q.1).err==0)
def Nw(q:QS)(n1 n2:j_)(k:Nat):j_:=match k with
 |0=>q.2.1
 |1=>n1
 |_=>n2
def NL(k:Nat)(bad:Bool):List PC:=match k with
 |0=>[.lit (.slice none 0 0),.ow 1000 0 1 0 3,.lit (.slice none 0 0),.lit (.slice none 0 0),.ow 1001 0 1 0 3,.lit (.bool bad)]
 |k=>[.ow 12007 0 18 0 k,.ow 1000 0 1 0 3,.lit (.slice none 0 0),.lit (.slice none 0 0),.ow 1001 0 1 0 3,.lit (.bool bad)]
def bEb(H:Nat->j_):Nat->List PC:=fun i=>lw (H i)
def flE(f:Fl):List PC:=[.sl 1 f.length (tu f)]
def RH(H:Nat->j_)(k i:Nat):List PC:=match Nat.blt i k with
 |true=>[.sl 1 1 (fun j=>[flE (H i).f].getD (0+j) [])]
 |false=>[.lit (.slice none 0 0)]
def bgS:Nat->List PC:=fun _=>[.lit (.slice none 0 0)]
def bgT(k:Nat):List (Nat×Option Bool×PV):=[(1,none,dm (.pt 1003 0 0)),(2,none,gy k)]
def bgO(H:Nat->j_)(k:Nat)(bad:Bool):Wr:=match k with
 |0=>[(1003,none,0,.box 57 (NL 0 bad)),(1000,none,0,.arr 100 1 3 (RH H 0)),(1001,none,0,.arr 101 1 3 bgS)]
 |k=>[(1003,none,0,.box 57 (NL k bad)),(12007,none,0,.arr 65 18 k (bEb H)),(1000,none,0,.arr 100 1 3 (RH H k)),(1001,none,0,.arr 101 1 3 bgS)]
def RI(q:QS):Nat->Bool
 |0=>false
 |_=>WT q
def aCJ(q:QS)(n1 n2:j_)(k:Nat):St:=⟨bgT k,bgO (Nw q n1 n2) k (RI q k)⟩
def RG(q:QS)(n1 n2 h:j_)(k:Nat)(bad:Bool):St:=⟨(3,none,dm (.pt 5008 0 0))::bgT k,(5008,none,0,.box 65 (lw h))::bgO (Nw q n1 n2) k bad⟩
def bgL:List (Nat×Spec):=[(14,aZ true J7),(33,aJo JR),(15,aZ false EY)]
theorem aCI:∀ p∈bgL,aj Tryz.prog a_ p.1 p.2:=by
 intro p hp;simp only[bgL,List.mem_cons,List.not_mem_nil,or_false] at hp;rcases hp with rfl|rfl|rfl
 ·exact aIu
 ·exact bAp
 ·exact aMn
theorem bgM:kw Tryz.prog a_ (find bgL):=⟨bV aCI,fC⟩
theorem vC(h:j_):∀ x∈lw h,dH false x=true:=by
 intro x hx;simp only[lw,List.mem_cons,List.not_mem_nil,or_false] at hx
 rcases hx with rfl|rfl|rfl<;>rfl
theorem qK(H:Nat->j_)(n:Nat):∀ i,i<n->∀ x∈bEb H i,dH false x=true:=fun i _=>vC (H i)
theorem aHk(H:Nat->j_)(h:j_)(k:Nat):∀ i,i<k+1->∀ x∈ou k (bEb H) (fun i=>[lw h][i]?.getD []) i,dH false x=true:=by
 intro i hi;unfold ou
 by_cases h1:i<k
 ·rw[if_pos h1];exact vC _
 ·rw[if_neg h1]
  obtain rfl:i=k:=by omega
  rw[Nat.sub_self];exact vC h
theorem lZ(H:Nat->j_)(k n:Nat):∀ i,i<n->∀ x∈RH H k i,dH false x=true:=fun i _=>by
 unfold RH
 cases Nat.blt i k
 ·exact oQ rfl
 ·exact oQ rfl
theorem jW(n:Nat):∀ i,i<n->∀ x∈bgS i,dH false x=true:=fun _ _=>oQ rfl
theorem aKb:(∀ i,i<4->∀ x∈([(PW.one (PC.lit (Value.int IntKind.i64 16))).cells,(PW.one (PC.lit (Value.int IntKind.i64 16))).cells,(PW.one (PC.lit (Value.int IntKind.i64 16))).cells,(PW.one (PC.lit (Value.int IntKind.i64 16))).cells][i]?.getD []),dH false x=true) /\
  ∀ i,i<4->[(PW.one (PC.lit (Value.int IntKind.i64 16))).cells,(PW.one (PC.lit (Value.int IntKind.i64 16))).cells,(PW.one (PC.lit (Value.int IntKind.i64 16))).cells,(PW.one (PC.lit (Value.int IntKind.i64 16))).cells][i]?.getD []=FT i:=by
 refine⟨fun i hi=>?_,fun i hi=>?_⟩
 ·have:i=0\/i=1\/i=2\/i=3:=by omega
  rcases this with rfl|rfl|rfl|rfl<;>exact oQ rfl
 ·have:i=0\/i=1\/i=2\/i=3:=by omega
  rcases this with rfl|rfl|rfl|rfl<;>rfl
def NK(q:QS)(n1 n2 h:j_)(k:Nat):St:=⟨(3,none,dm (.pt 5008 0 0))::bgT k,[(5008,none,0,.box 65 (lw h)),(1003,none,0,.box 57 (NL (k+1) (WT q))),(12007,none,0,.arr 65 18 (k+1) (bEb (Nw q n1 n2))),(1000,none,0,.arr 100 1 3 (RH (Nw q n1 n2) k)),(1001,none,0,.arr 101 1 3 bgS)]⟩
def aLG(q:QS)(n1 n2 h:j_):St:=⟨(6,none,dm (.pt 9008 0 0))::(7,none,dm (.pt 9009 0 0))::(9,none,qc q.1.isSome)::(3,none,dm (.pt 5008 0 0))::bgT 0,
 (9008,none,0,.box 65 (lw q.2.1))::(9009,none,0,.box 40 (gq (bH q.1)))::(5008,none,0,.box 65 (lw h))::bgO (Nw q n1 n2) 0 false⟩
def CP(H:Nat->j_)(bad:Bool):List PC:=[.sl 18 3 (fun i=>bEb H (0+i)),.sl 1 3 (fun i=>RH H 3 (0+i)),.lit (.slice none 0 0),.lit (.slice none 0 0),.sl 1 3 (fun i=>bgS (0+i)),.lit (.bool bad)]
theorem RF(q:QS)(n0 n1 n2:j_)(e0:D8 (iL 0)=n0)(e1:D8 (iL 1)=n1)(e2:D8 (iL 2)=n2)(eq:eG [] (dJ Rl) n0 0=q){A:jq}(hS:A.S=Non)(hn:A.nt=Tryz.f12.ntmps)(hI:lu Tryz.prog a_ A):∃ c,Tryz.f12.body=some c/\∀ Q:Exit->Act->World->Prop,(∀ a w,n_ A ⟨[(0,none,dm (.pt 1003 0 0))],bgO (Nw q n1 n2) 3 (WT q)⟩ a w->Q .ret a w)->h_ Tryz.prog A ⟨[],[]⟩ c Q:=by
 have M:=bgM
 have aIK:Tryz.prog.types[100].size=1:=by kernel_rfl
 have aIJ:Tryz.prog.types[101].size=1:=by kernel_rfl
 have aMF:Tryz.prog.types[100].bytes=24:=by kernel_rfl
 have aME:Tryz.prog.types[101].bytes=24:=by kernel_rfl
 have b65:Tryz.prog.types[65].bytes<=1000:=Nat.le_of_ble_eq_true (by kernel_rfl)
 have s65:Tryz.prog.types[65].size=18:=by kernel_rfl
 have b63:Tryz.prog.types[63].bytes<=1000:=Nat.le_of_ble_eq_true (by kernel_rfl)
 have s63:Tryz.prog.types[63].size=1:=by kernel_rfl
 have d0:qh n0:=by rw[<-e0];exact bDb _ rfl
 refine⟨_,rfl,fun Q hQ=>?_⟩
 refine aB M hI hn (by rfl) (by kernel_rfl) ?_ ?_
 ·simp
 refine aB M hI hn (by rfl) (by kernel_rfl) ?_ ?_
 ·simp;rw[aMF,aME];omega
 refine aJ ?_;refine aB M hI hn (by rfl) (by kernel_rfl) ?_ ?_
 ·simp
 refine aI (s':=aCJ q n1 n2 0) (fun a w hg=>(hg.reset (kT:=[1,2]) (kO:=[1003,1000,1001]) (by rfl) (by simp;exact fun _ _=>rfl)).same ?_ ?_) ?_
 ·exact .cons rfl (.cons rfl .nil)
 ·refine .cons (.box ?_) (.cons (.arr rfl (fun i hi=>rfl)) (.cons (.arr rfl (fun i hi=>rfl)) .nil));rw[aIK,aIJ];rfl
 refine bF ?_;refine iH 3 (fun k t=>t=aCJ q n1 n2 k) 0 rfl (by omega) (fun k t hJ hk=>?_);subst hJ
 have hkk:k=0\/k=1\/k=2\/k=3:=by omega
 rcases hkk with rfl|rfl|rfl|rfl
 ·refine aJ ?_;refine aB M hI hn (by rfl) (by kernel_rfl) ?_ ?_
  ·simp
  refine aG (by rfl) (fun hc=>?_) (fun hc=>?_);rotate_left 1
  ·cases hc
  refine aO ?_;change h_ _ _ _ _ _;refine aJ ?_;refine bF ?_;refine aB M hI hn (by rfl) (by kernel_rfl) ?_ ?_
  ·simp;exact aKb
  refine aI (s':=RG q n1 n2 n0 0 (RI q 0)) (fun a w hg=>(hg.reset (kT:=[3,1,2]) (kO:=[5008,1003,1000,1001]) (by rfl) (by simp;exact⟨lZ _ _ _,jW _⟩)).same ?_ ?_) ?_
  ·exact .cons rfl (.cons rfl (.cons rfl .nil))
  ·refine .cons (.box ?_) (.cons (.box rfl) (.cons (.arr rfl (fun i hi=>rfl)) (.cons (.arr rfl (fun i hi=>rfl)) .nil)));rw[<-e0];rfl
  refine aJ ?_;refine aB M hI hn (by rfl) (by kernel_rfl) ?_ ?_
  ·simp
  refine aG (by rfl) (fun hc=>?_) (fun hc=>?_);rotate_left 1
  ·cases hc
  refine aB M hI hn (by rfl) (by kernel_rfl) ?_ ?_
  ·simp
  refine aB M hI hn (by rfl) (by kernel_rfl) ?_ ?_
  ·simp
  refine aB M hI hn (by rfl) (by kernel_rfl) ?_ ?_
  ·simp
   exact⟨d0,JA⟩
  refine aI (s':=aLG q n1 n2 n0) (fun a w hg=>(hg.reset (kT:=[6,7,9,3,1,2]) (kO:=[9008,9009,5008,1003,1000,1001]) (by rfl) (by simp;exact⟨lZ _ _ _,jW _⟩)).same ?_ ?_) ?_
  ·refine .cons rfl (.cons rfl (.cons ?_ (.cons rfl (.cons rfl (.cons rfl .nil)))));rw[<-eq];change qc (eG [] (dJ Rl) (⟨bC n0.b.length (bJ n0.b),iP n0.f.length (tu n0.f),n0.r⟩:j_) 0).1.isSome=_;rw[aH,bK]
  ·refine .cons (.box ?_) (.cons (.box ?_) (.cons (.box rfl) (.cons (.box rfl) (.cons (.arr rfl (fun i hi=>rfl)) (.cons (.arr rfl (fun i hi=>rfl)) .nil)))))
   ·rw[<-eq];change lw (eG [] (dJ Rl) (⟨bC n0.b.length (bJ n0.b),iP n0.f.length (tu n0.f),n0.r⟩:j_) 0).2.1=_;rw[aH,bK]
   ·rw[<-eq];change gq (bH (eG [] (dJ Rl) (⟨bC n0.b.length (bJ n0.b),iP n0.f.length (tu n0.f),n0.r⟩:j_) 0).1)=_;rw[aH,bK]
  refine aB M hI hn (by rfl) (by kernel_rfl) ?_ ?_
  ·simp
  refine aP M hI hn (by rfl) (by kernel_rfl) ?_ ?_
  ·simp
  change h_ _ _ _ _ _;refine aI (s':=RG q n1 n2 q.2.1 0 (WT q)) (fun a w hg=>(hg.reset (kT:=[3,1,2]) (kO:=[5008,1003,1000,1001]) (by rfl) (by simp;exact⟨lZ _ _ _,jW _⟩)).same ?_ ?_) ?_
  ·exact .cons rfl (.cons rfl (.cons rfl .nil))
  ·exact .cons (.box rfl) (.cons (.box rfl) (.cons (.arr rfl (fun i hi=>rfl)) (.cons (.arr rfl (fun i hi=>rfl)) .nil)))
  refine aI (fun a w hg=>hg.Cb (x:=12007) (b:=1003) (e:=65) (n:=18) (l1:=[]) (by rfl) (by rfl)) ?_;refine aB M hI hn (by rfl) (by kernel_rfl) ?_ ?_
  ·simp;omega
  refine aI (s':=NK q n1 n2 q.2.1 0) (fun a w hg=>(hg.reset (kT:=[3,1,2]) (kO:=[5008,1003,12007,1000,1001]) (by rfl) (by simp;exact⟨vC _,lZ _ _ _,jW _⟩)).same ?_ ?_) ?_
  ·exact .cons rfl (.cons rfl (.cons rfl .nil))
  ·rw[s65];refine .cons (.box rfl) (.cons (.box rfl) (.cons (.arr rfl (fun i hi=>?_)) (.cons (.arr rfl (fun i hi=>rfl)) (.cons (.arr rfl (fun i hi=>rfl)) .nil))));have:i<0+1:=hi
   obtain rfl:i=0:=(by omega);rfl
  refine aP M hI hn (by rfl) (by kernel_rfl) ?_ ?_
  ·simp;omega
  change h_ _ _ _ _ _;refine aP M hI hn (by rfl) (by kernel_rfl) ?_ ?_
  ·simp
  rw[s63];intro a w hg
  refine⟨0+1,_,by omega,by omega,rfl,(hg.CW (R:=[(1000,RH (Nw q n1 n2) (0+1))]) (kF:=[13015]) (kT:=[1,2]) (kO:=[1003,12007,1000,1001]) (.inr hS) (by rfl) ?_).same ?_ ?_⟩
  ·simp
   refine⟨vC _,fun i hi=>?_,jW _,oQ rfl⟩
   have:i=0\/i=1\/i=2:=by omega
   rcases this with rfl|rfl|rfl<;>rfl
  ·exact .cons rfl (.cons rfl .nil)
  ·exact .cons (.box rfl) (.cons (.arr rfl (fun i hi=>rfl)) (.cons (.arr rfl (fun i hi=>rfl)) (.cons (.arr rfl (fun i hi=>rfl)) .nil)))
 ·refine aJ ?_;refine aB M hI hn (by rfl) (by kernel_rfl) ?_ ?_
  ·simp
  refine aG (by rfl) (fun hc=>?_) (fun hc=>?_);rotate_left 1
  ·cases hc
  refine aO ?_;change h_ _ _ _ _ _;refine aJ ?_;refine bF ?_;refine aB M hI hn (by rfl) (by kernel_rfl) ?_ ?_
  ·simp;exact aKb
  refine aI (s':=RG q n1 n2 n1 1 (RI q 1)) (fun a w hg=>(hg.reset (kT:=[3,1,2]) (kO:=[5008,1003,12007,1000,1001]) (by rfl) (by simp;exact⟨vC _,lZ _ _ _,jW _⟩)).same ?_ ?_) ?_
  ·exact .cons rfl (.cons rfl (.cons rfl .nil))
  ·refine .cons (.box ?_) (.cons (.box rfl) (.cons (.arr rfl (fun i hi=>rfl)) (.cons (.arr rfl (fun i hi=>rfl)) (.cons (.arr rfl (fun i hi=>rfl)) .nil))));rw[<-e1];rfl
  refine aJ ?_;refine aB M hI hn (by rfl) (by kernel_rfl) ?_ ?_
  ·simp
  refine aG (by rfl) (fun hc=>?_) (fun hc=>?_)
  ·cases hc
  rotate_left 1;refine aO ?_;change h_ _ _ _ _ _;refine aB M hI hn (by rfl) (by kernel_rfl) ?_ ?_
  ·simp;omega
  refine aI (s':=NK q n1 n2 n1 1) (fun a w hg=>(hg.reset (kT:=[3,1,2]) (kO:=[5008,1003,12007,1000,1001]) (by rfl) (by simp;exact⟨aHk _ _ _,lZ _ _ _,jW _⟩)).same ?_ ?_) ?_
  ·exact .cons rfl (.cons rfl (.cons rfl .nil))
  ·rw[s65];refine .cons (.box rfl) (.cons (.box rfl) (.cons (.arr rfl (fun i hi=>?_)) (.cons (.arr rfl (fun i hi=>rfl)) (.cons (.arr rfl (fun i hi=>rfl)) .nil))));have:i<1+1:=hi
   (have:i=0\/i=1:=by omega);rcases this with rfl|rfl<;>rfl
  refine aP M hI hn (by rfl) (by kernel_rfl) ?_ ?_
  ·simp;omega
  change h_ _ _ _ _ _;refine aP M hI hn (by rfl) (by kernel_rfl) ?_ ?_
  ·simp
  rw[s63];intro a w hg
  refine⟨1+1,_,by omega,by omega,rfl,(hg.CW (R:=[(1000,RH (Nw q n1 n2) (1+1))]) (kF:=[13015]) (kT:=[1,2]) (kO:=[1003,12007,1000,1001]) (.inr hS) (by rfl) ?_).same ?_ ?_⟩
  ·simp
   refine⟨qK _ _,fun i hi=>?_,jW _,oQ rfl⟩
   have:i=0\/i=1\/i=2:=by omega
   rcases this with rfl|rfl|rfl<;>rfl
  ·exact .cons rfl (.cons rfl .nil)
  ·exact .cons (.box rfl) (.cons (.arr rfl (fun i hi=>rfl)) (.cons (.arr rfl (fun i hi=>rfl)) (.cons (.arr rfl (fun i hi=>rfl)) .nil)))
 ·refine aJ ?_;refine aB M hI hn (by rfl) (by kernel_rfl) ?_ ?_
  ·simp
  refine aG (by rfl) (fun hc=>?_) (fun hc=>?_);rotate_left 1
  ·cases hc
  refine aO ?_;change h_ _ _ _ _ _;refine aJ ?_;refine bF ?_;refine aB M hI hn (by rfl) (by kernel_rfl) ?_ ?_
  ·simp;exact aKb
  refine aI (s':=RG q n1 n2 n2 2 (RI q 2)) (fun a w hg=>(hg.reset (kT:=[3,1,2]) (kO:=[5008,1003,12007,1000,1001]) (by rfl) (by simp;exact⟨qK _ _,lZ _ _ _,jW _⟩)).same ?_ ?_) ?_
  ·exact .cons rfl (.cons rfl (.cons rfl .nil))
  ·refine .cons (.box ?_) (.cons (.box rfl) (.cons (.arr rfl (fun i hi=>rfl)) (.cons (.arr rfl (fun i hi=>rfl)) (.cons (.arr rfl (fun i hi=>rfl)) .nil))));rw[<-e2];rfl
  refine aJ ?_;refine aB M hI hn (by rfl) (by kernel_rfl) ?_ ?_
  ·simp
  refine aG (by rfl) (fun hc=>?_) (fun hc=>?_)
  ·cases hc
  rotate_left 1;refine aO ?_;change h_ _ _ _ _ _;refine aB M hI hn (by rfl) (by kernel_rfl) ?_ ?_
  ·simp;omega
  refine aI (s':=NK q n1 n2 n2 2) (fun a w hg=>(hg.reset (kT:=[3,1,2]) (kO:=[5008,1003,12007,1000,1001]) (by rfl) (by simp;exact⟨aHk _ _ _,lZ _ _ _,jW _⟩)).same ?_ ?_) ?_
  ·exact .cons rfl (.cons rfl (.cons rfl .nil))
  ·rw[s65];refine .cons (.box rfl) (.cons (.box rfl) (.cons (.arr rfl (fun i hi=>?_)) (.cons (.arr rfl (fun i hi=>rfl)) (.cons (.arr rfl (fun i hi=>rfl)) .nil))));have:i<2+1:=hi
   (have:i=0\/i=1\/i=2:=by omega);rcases this with rfl|rfl|rfl<;>rfl
  refine aP M hI hn (by rfl) (by kernel_rfl) ?_ ?_
  ·simp;omega
  change h_ _ _ _ _ _;refine aP M hI hn (by rfl) (by kernel_rfl) ?_ ?_
  ·simp
  rw[s63];intro a w hg
  refine⟨2+1,_,by omega,by omega,rfl,(hg.CW (R:=[(1000,RH (Nw q n1 n2) (2+1))]) (kF:=[13015]) (kT:=[1,2]) (kO:=[1003,12007,1000,1001]) (.inr hS) (by rfl) ?_).same ?_ ?_⟩
  ·simp
   refine⟨qK _ _,fun i hi=>?_,jW _,oQ rfl⟩
   have:i=0\/i=1\/i=2:=by omega
   rcases this with rfl|rfl|rfl<;>rfl
  ·exact .cons rfl (.cons rfl .nil)
  ·exact .cons (.box rfl) (.cons (.arr rfl (fun i hi=>rfl)) (.cons (.arr rfl (fun i hi=>rfl)) (.cons (.arr rfl (fun i hi=>rfl)) .nil)))
 ·refine aJ ?_;refine aB M hI hn (by rfl) (by kernel_rfl) ?_ ?_
  ·simp
  refine aG (by rfl) (fun hc=>?_) (fun hc=>?_)
  ·cases hc
  refine gQ ?_;change h_ _ _ _ _ _;refine aB M hI hn (by rfl) (by kernel_rfl) ?_ ?_
  ·simp
  refine aK (fun a w hg=>hQ a w ((hg.reset (kT:=[0]) (kO:=[1003,12007,1000,1001]) (by rfl) (by simp;exact⟨qK _ _,lZ _ _ _,jW _⟩)).same ?_ ?_))
  ·exact .cons rfl .nil
  ·exact .cons (.box rfl) (.cons (.arr rfl (fun i hi=>rfl)) (.cons (.arr rfl (fun i hi=>rfl)) (.cons (.arr rfl (fun i hi=>rfl)) .nil)))
theorem NJ(q:QS)(n0 n1 n2:j_)(e0:D8 (iL 0)=n0)(e1:D8 (iL 1)=n1)(e2:D8 (iL 2)=n2)(eq:eG [] (dJ Rl) n0 0=q):WY Tryz.prog a_ 12 57 (CP (Nw q n1 n2) (WT q)):=by
 have hbd:∃ c,Tryz.f12.body=some c:=⟨_,rfl⟩;obtain⟨c,hc⟩:=hbd;refine bCb Tryz.func12 hc bQ (fun A hS hn hI=>?_);obtain⟨c',hc',hT⟩:=RF q n0 n1 n2 e0 e1 e2 eq hS hn hI
 obtain rfl:c'=c:=Option.some.inj (hc'.symm.trans hc)
 refine hT _ (fun a w hg=>⟨.inr rfl,_,1003,?_,?_,?_,?_,?_,rfl,?_,?_,(hg.IY (kF:=[12007,1000,1001]) (kT:=[0]) (kO:=[1003]) (.inr hS) (by rfl) ?_)⟩);rotate_left 1
 ·rfl
 ·simp
 ·rfl
 ·rfl
 ·rfl
 ·rfl
 ·simp
  exact⟨qK _ _,lZ _ _ _,jW _⟩
end Pv
structure BO(w:World)(Ei:List Value)(dw:List (List Int)):Prop where
 len:Ei.length=dw.length
 each:∀ (k:Nat) (bv:Value) (l:List Int),Ei[k]?=some bv->dw[k]?=some l->Reads w 1 bv l.length (l.map (Value.int .u8))
structure p_(w:World)(fv:Value)(dw:List (List Int)):Prop where
 ex:∃ Ei,Reads w 1 fv dw.length Ei/\BO w Ei dw
theorem BO.ext{w w':World}{Ei:List Value}{dw:List (List Int)}(h:BO w Ei dw)(hc:Ext w w'):BO w' Ei dw:=⟨h.len,fun k bv l h1 h2=>(h.each k bv l h1 h2).ext hc⟩
theorem p_.ext{w w':World}{fv:Value}{dw:List (List Int)}(h:p_ w fv dw)(hc:Ext w w'):p_ w' fv dw:=by
 obtain⟨Ei,h1,h2⟩:=h.ex
 exact⟨Ei,h1.ext hc,h2.ext hc⟩
theorem p_.at_{w:World}{fv:Value}{dw:List (List Int)}(h:p_ w fv dw){k:Nat}(hk:k<dw.length) :
  ∃ b o c bv,fv=.slice (some ⟨b,o,none⟩) dw.length c/\b<w.heap.size/\w.cell? ⟨b,o+k,none⟩=some bv/\Reads w 1 bv dw[k].length (dw[k].map (Value.int .u8)):=by
 obtain⟨Ei,h1,h2⟩:=h.ex;obtain⟨b,o,c,u,e1,_,_,e4,e5,e6⟩:=h1.DC hk
 exact⟨b,o,c,u,e1,e4,e6,h2.each k u dw[k] e5 (zH hk)⟩
theorem aWm(fv:Value)(dw:List (List Int))(ay cell:Nat)(w:World)(h:p_ w fv dw)(hb:ay<dw.length)(hc:cell<dw[ay].length) :
  Calls Tryz.prog 97 #[.agg #[fv],.int .i64 (ay:Int),.int .i64 (cell:Int)] w fun e w'=>e=.returned (.bool true)/\Ext w w':=by
 obtain⟨b,o,c,bv,rfl,hbw,hcell,hr⟩:=h.at_ hb
 have hm1:dw.length<=maxLen:=by
  obtain⟨Ei,h1,_⟩:=h.ex;exact h1.xq
 have hm2:=hr.xq;obtain⟨_,A,c2,rfl,_⟩:=hr;unfold maxLen at hm1 hm2;generalize dw[ay].length=m at *;clear h
 go_enter Tryz.func97,Tryz.ntmps97
 go_wp2
 go_ret
 refine⟨rfl,?_⟩
 repeat' (first|(with_reducible exact di.refl _ _)|(with_reducible exact Ext.refl _)|(with_reducible assumption)|(with_reducible refine di.alloc ?_ _)|(with_reducible refine di.drew ?_)|(with_reducible refine di.drewN ?_ _)|(with_reducible refine di.setCell ?_ ?_ _)|(with_reducible refine Ext.alloc ?_ _)|(with_reducible refine Ext.drew ?_)|(with_reducible refine Ext.drewN ?_ _)|(with_reducible refine Ext.setCell ?_ ?_ _)|(simp;done)|(simp;omega)|omega)
theorem aEb(fv:Value)(dw:List (List Int))(ay cell:Nat)(iy:Bool)(w:World)(h:p_ w fv dw)(hb:ay<dw.length)(hc:cell<dw[ay].length) :
  Calls Tryz.prog 72 #[.agg #[fv],.int .i64 (ay:Int),.int .i64 (cell:Int),.bool iy] w fun e w'=>e=.returned (.tuple #[.int .i64 (fK dw[ay][cell] iy),.int .i64 0])/\Ext w w':=by
 have HF:=hide h;obtain⟨b,o,c,bv,rfl,hbw,hcell,hr⟩:=h.at_ hb
 have hm1:dw.length<=maxLen:=by
  obtain⟨Ei,h1,_⟩:=h.ex;exact h1.xq
 have hm2:=hr.xq;obtain⟨b2,o2,c2,u,rfl,_,_,hb2,hu,hcell2⟩:=hr.DC hc;rw[List.getElem?_map,zH hc] at hu;cases hu;unfold maxLen at hm1 hm2;clear h
 have hq:∀ x:Int,fK x iy=if x=2 then 1 else if x=1 then (if iy=true then 1 else 0) else 0:=by
  intro x;unfold fK;by_cases h1:x=2<;>by_cases h2:x=1<;>cases iy<;>simp_all
 have HQ:=hide (hq dw[ay][cell]);have HE:=hide (aWm _ dw ay cell (w.alloc (.cells #[.slice (some ⟨b,o,none⟩) dw.length c] 60)) ((aA HF).ext (di.alloc (Ext.refl _) _)) hb hc);clear hq hr;generalize dw[ay][cell]=x at *;have hlt:cell<dw[ay].length:=hc;clear hc;generalize dw[ay].length=m at *
 go_enter Tryz.func72,Tryz.ntmps72
 go_wp2_with fail
 refine (aA HE).mono ?_;rintro e w1 ⟨rfl,hE⟩;have hcr:=hE.rules;simp only[World.size_alloc] at hcr;have hsz:=hE.size';simp only[World.size_alloc] at hsz;have HEE:=hide hE;clear hE;have hfin:Hid (Ext w w1):=hide ((di.alloc (Ext.refl _) _).trans (aA HEE))
 by_cases h2:x=2
 ·have e1:(x==2)=true:=by simp[h2]
  have HX:=hide h2;clear h2
  go_wp2
  go_ret2
  exact⟨aBj (by rw[aA HQ,if_pos (aA HX)]),aA hfin⟩
 ·by_cases h1:x=1
  ·have e1:(x==2)=false:=by simp[h2]
   have e2:(x==1)=true:=by simp[h1]
   have HX:=hide h2;have HY:=hide h1;clear h2 h1
   cases iy with
   |true=>
    go_wp2
    go_ret2
    exact⟨aBj (by rw[aA HQ,if_neg (aA HX),if_pos (aA HY)];rfl),aA hfin⟩
   |false=>
    go_wp2
    go_ret2
    exact⟨aBj (by rw[aA HQ,if_neg (aA HX),if_pos (aA HY)];rfl),aA hfin⟩
  ·have e1:(x==2)=false:=by simp[h2]
   have e2:(x==1)=false:=by simp[h1]
   have HX:=hide h2;have HY:=hide h1;clear h2 h1
   go_wp2
   go_ret2
   exact⟨aBj (by rw[aA HQ,if_neg (aA HX),if_neg (aA HY)]),aA hfin⟩
namespace Pv
theorem aXc{C:Ctx}{k:Nat}{g:Nat->List PC}{bv:Value}(h:R C (.sl 1 k g) [bv])(hg:∀ j,j<k->bBp (g j)=true):Reads C.w 1 bv ((List.range k).map fun j=>Aj (g j)).length (((List.range k).map fun j=>Aj (g j)).map (Value.int .u8)):=by
 cases h with
 | sl hr hb he=>
  rename_i vs
  have:vs=((List.range k).map fun j=>Aj (g j)).flatMap fun z=>[Value.int .u8 z]:=by
   refine aQn (fun z=>[Value.int .u8 z]) 1 _ vs (fun a _=>rfl) (by simpa using hr.1) (fun i hi=>?_)
   have hi':i<k:=by simpa using hi
   have h1:=he i hi';rw[aJf (hg i hi')] at h1;rw[List.getElem_map,List.getElem_range];generalize (vs.drop (i*1)).take 1=xs at h1 ⊢
   cases h1 with
   |cons k1 h1=>cases h1;cases k1;rfl
  rw[List.length_map,List.length_range]
  have e:(((List.range k).map fun j=>Aj (g j)).map (Value.int .u8))=vs:=by
   rw[this];generalize (List.range k).map (fun j=>Aj (g j))=l
   induction l with
   |nil=>rfl
   |cons a l ih=>rw[List.map_cons,List.flatMap_cons,ih];rfl
  rw[e];exact hr
theorem LG{C:Ctx}{n:Nat}{f:Nat->List PC}{fv:Value}(h:R C (.sl 1 n f) [fv])(hf:lW n f):p_ C.w fv (bC n f):=by
 cases h with
 | sl hr hb he=>
  rename_i vs
  refine⟨vs,by rw[dF];exact hr,⟨by rw[dF];simpa using hr.1,fun k bv l h1 h2=>?_⟩⟩
  have hk:k<n:=by
   have:=(List.getElem?_eq_some_iff.1 h2).1;rwa [dF] at this
  have h3:=he k hk;have h4:=hf k hk
  have e1:(vs.drop (k*1)).take 1=[bv]:=by
   rw[Nat.mul_one];have hv:k<vs.length:=(List.getElem?_eq_some_iff.1 h1).1;rw[List.drop_eq_getElem_cons hv]
   have:vs[k]=bv:=by rw[zH hv] at h1;exact Option.some.inj h1
   rw[this];rfl
  rw[e1] at h3
  have e2:l=EJ (f k):=by
   unfold bC at h2;rw[List.getElem?_map,List.getElem?_range hk] at h2;exact (Option.some.inj h2).symm
  rw[e2];clear e2 h2 h1 e1;generalize f k=c at h3 h4 ⊢;unfold bEw at h4
  split at h4
  ·rename_i kk g
   have h5:R C.cold (.sl 1 kk g) [bv]:=by
    have:=h3.single;exact this
   exact aXc (C:=C.cold) h5 h4
  ·exact h4.elim
end Pv
namespace Pv
end Pv
namespace Pv

end Pv
end Go.Proofs.YtndpjopifkbgiaaGreatDoor
