/-.-/
import Derived.Test.YtndpjopifkbgiaaGreatDoorMsR
import Derived.Test.YtndpjopifkbgiaaGreatDoorMsC
import Derived.Test.YtndpjopifkbgiaaGreatDoorMsM
import Derived.WalkMore
import Derived.Test.YtndpjopifkbgiaaGreatDoorMsQ
import Derived.Test.YtndpjopifkbgiaaGreatDoorMsI
set_option maxRecDepth 100000
set_option maxHeartbeats 4000000
namespace Go.Proofs.YtndpjopifkbgiaaGreatDoor
open Go.RowKit
section
theorem Pv.Uk{C:Pv.Ctx}{l1 l2:List Pv.PC}{c1 c2:Array Value}{b:Int}{d:Bool}(h1:Pv.RL C l1 c1.toList)(h2:Pv.RL C l2 c2.toList):Pv.RV C (.lw [.agg l1,.agg l2,.one (.lit (.int .i64 b)),.one (.lit (.bool d))]) (.tuple #[.agg c1,.agg c2,.int .i64 b,.bool d]):=
 .lw rfl (fun i x hx=>by
  match i,hx with
  |0,hx=>cases hx;exact⟨_,rfl,.agg h1⟩
  |1,hx=>cases hx;exact⟨_,rfl,.agg h2⟩
  |2,hx=>cases hx;exact⟨_,rfl,.one (.lit rfl)⟩
  |3,hx=>cases hx;exact⟨_,rfl,.one (.lit rfl)⟩
  |i+4,hx=>cases hx)
theorem KF(oc:Array Value)(w:World) :
  Calls Tryz.prog 29 #[.agg oc] w fun e w'=>e=.returned (.func (.func 45) #[] #[.pointer (some ⟨w.heap.size,0,none⟩)])/\Ext w w'/\w'.heap.size=w.heap.size+1/\au w' w.heap.size 31 oc:=by
 have hmf:∀ (fn:Fn) (first cap:Array Value) (w:World),(Instr.makeFunc fn first cap).run Tryz.prog w=.ok (.func fn first cap) w:=fun _ _ _ _=>rfl
 go_enter Tryz.func29,Tryz.ntmps29
 go_wp2
 refine bodyPost_ret (v:=.func (.func 45) #[] #[.pointer (some ⟨w.heap.size,0,none⟩)]) (by simp[results,Tryz.results29,go_sem]) rfl ⟨rfl,?_,?_,?_⟩
 ·repeat' (first|(with_reducible exact dm.refl _ _)|(with_reducible exact Ext.refl _)|(with_reducible assumption)|(with_reducible refine dm.alloc ?_ _)|(with_reducible refine dm.drew ?_)|(with_reducible refine dm.drewN ?_ _)|(with_reducible refine dm.setCell ?_ ?_ _)|(with_reducible refine Ext.alloc ?_ _)|(with_reducible refine Ext.drew ?_)|(with_reducible refine Ext.drewN ?_ _)|(with_reducible refine Ext.setCell ?_ ?_ _)|(simp;done)|(simp;omega)|omega)
 ·simp
 ·exact au.new w _ _
namespace Pv
def bG(o:Option jk):jk:=o.getD jr
def bDz(q:Option jk×j_×Nat):PV:=.lw [.agg (m_ q.2.1),.agg (h_ (bG q.1)),.one (.lit (.int .i64 (q.2.2:Int))),.one (.lit (.bool q.1.isSome))]
def F8(q:Option jk×j_×Nat)(ok:Nat->Prop)(hw:Array Value)(n:Int)(o:Option jk)(w:World):Prop:=
 n=(q.2.2:Int)/\RL { w:=w,ok:=ok,env:=fun _=>none } (m_ q.2.1) hw.toList/\q.1=o
theorem F8.le{q:Option jk×j_×Nat}{ok ok':Nat->Prop}{hw:Array Value}{n:Int}{o:Option jk}{w w':World}(hv:F8 q ok hw n o w)(hs:w.heap.size<=w'.heap.size)(hb:∀ b,b<w.heap.size->ok b->ok' b/\w'.heap[b]?=w.heap[b]?):F8 q ok' hw n o w':=
 ⟨hv.1,hv.2.1.le ⟨hs,fun b hb1 hb2=>hb b hb1 hb2,fun _ _ _ h=>by cases h⟩,hv.2.2⟩
theorem aCy{C:Ctx}{h:j_}{cs:Array Value}(hr:RL C (m_ h) cs.toList):cs.size=18:=by
 unfold m_ at hr;obtain⟨cs⟩:=cs;dsimp only at hr
 cases hr with
 | cons k1 hr=>cases hr with
  |cons k2 hr=>
   obtain⟨k3,k4⟩:=hr.Zc;have w1:=k1.width;have w2:=k2.width;subst k4;simp[PC.width] at w1 w2;simp[w1,w2,k3]
theorem aSy{C:Ctx}{h:j_}{cs:Array Value}(hr:RL C (m_ h) cs.toList):cs.all (·.oneCell')=true:=by
 rw[<-Array.all_toList,List.all_eq_true];exact fun x hx=>hr.ones x hx
end Pv
theorem aNv{tmps:Array Value}{w:World}{Ab Ob:Nat}{hw oc:Array Value}(hs:hw.size=18)(ho:oc.size=55)(h6:tmps.getD 6 undef=.pointer (some ⟨Ab,0,none⟩))(h7:tmps.getD 7 undef=.pointer (some ⟨Ob,0,none⟩))
  (hA:au w Ab 65 hw) (hO:au w Ob 40 oc) :
  (results Tryz.f15 tmps).run Tryz.prog w=.ok (.tuple #[.agg hw,.agg oc,tmps.getD 8 undef,tmps.getD 9 undef]) w:=by
 have a0:=iV hA sO hs;have b0:=iV hO iZ ho;simp only[Array.getD_eq_getD_getElem?] at h6 h7;simp[results,Tryz.results15,h6,h7,asAddr,a0,b0]
namespace Pv
def okF(ok0:Nat->Prop)(S:Nat):Nat->Prop:=fun b=>(ok0 b\/S<=b)/\¬(S<=b/\b<S+11)
theorem Qm(m:jl)(hm:uz m)(hml:yw m)(F:List lu)(hF:F.length<=1000000)(h0:j_)(hd:o6 h0)(ok0:Nat->Prop)(hcs:Array Value)(B:Option Addr)(nF cF:Nat)(w:World)(hM:a_ w)
  (hH:RL { w:=w,ok:=ok0,env:=fun _=>none } (m_ h0) hcs.toList) (hV:RL { w:=w,ok:=ok0,env:=fun _=>none } [tH F] [.slice B nF cF])
  (W0 w1:World) (z1:Ext w W0) (z7:W0.heap.size=w.heap.size+4) (k1:Ext W0 w1) (k2:w1.heap.size=W0.heap.size+1) (k3:au w1 W0.heap.size 31 (opC m)) :
  Calls Tryz.prog 34 #[.func (.func 45) #[] #[.pointer (some ⟨W0.heap.size,0,none⟩)],.agg hcs,.slice B nF cF] w1 fun e w2=>dm (fun k=>W0.heap.size<=k) w1 w2 /\
   ∃ hw',qp (bG (dK F (cO m) h0 0).1)/\e=.returned (.tuple #[.agg hw',.agg (jw (bG (dK F (cO m) h0 0).1)),.int .i64 ((dK F (cO m) h0 0).2.2:Int),.bool (dK F (cO m) h0 0).1.isSome]) /\
    RL { w:=w2,ok:=okF ok0 w.heap.size,env:=fun _=>none } (m_ (dK F (cO m) h0 0).2.1) hw'.toList:=by
 obtain⟨q,hq⟩:∃ q,dK F (cO m) h0 0=q:=⟨_,rfl⟩;rw[hq];refine (Kw 45 _ hcs B nF cF (F8 q (okF ok0 w.heap.size)) W0.heap.size w1 (aCy hH) (aSy hH) (fun args w=>by kernel_rfl) (by omega) (fun a n o wa wb hv hc=>?_) (fun wa hE hsz2 y1 y2 y3=>?_)).mono ?_
 ·exact hv.le hc.size (fun b hb hok=>⟨hok,hc.block b hb (fun hh=>hok.2 (by omega))⟩)
 ·have LY:Ext w wa:=(z1.trans k1).trans hE
  have hLe:∀ {p:List PC} {xs:List Value},RL { w:=w,ok:=ok0,env:=fun _=>none } p xs->RL { w:=wa,ok:=OV (fun b=>ok0 b\/w.heap.size<=b) (fun b=>w.heap.size<=b/\b<w.heap.size+11/\b≠w1.heap.size+1+1+1+1/\b≠w1.heap.size+1/\b≠w1.heap.size+1+1) (w1.heap.size+1+1+1+1) (w1.heap.size+1) (w1.heap.size+1+1),env:=fun _=>none } p xs:=fun hr=>
   hr.le ⟨LY.size,fun b hb hok=>by
    have hb':b<w.heap.size:=hb
    exact⟨⟨.inl hok,fun hx=>by omega,by omega,by omega,by omega⟩,LY.block b hb (fun hh=>hh)⟩,fun _ _ _ h=>by cases h⟩
  have hsg:=aYi m hm hml F hF h0 hd W0.heap.size w1 wa hE (fun w' hc=>hM.past (B:=W0.heap.size) (by omega) (hM.ext LY) hc) k3 (w1.heap.size+1+1+1+1) (w1.heap.size+1) (w1.heap.size+1+1) (by omega) (by omega) (by omega)
   (fun b=>ok0 b\/w.heap.size<=b) (fun b=>w.heap.size<=b/\b<w.heap.size+11/\b≠w1.heap.size+1+1+1+1/\b≠w1.heap.size+1/\b≠w1.heap.size+1+1) (by omega)
   { bn:=y3,bf:=⟨_,y1,hLe hV⟩,bh:=⟨_,y2,hLe hH⟩,ne:=⟨by omega,by omega,by omega⟩,good:=fun c hc=>(by cases hc),mine:=fun b hb=>⟨by omega,hb.2.2.1,hb.2.2.2.1,hb.2.2.2.2⟩,mem:=hM.ext LY,tab:=fun b hb=>(by have:=Zu hM hb;exact⟨fun hx=>by omega,by omega,by omega,by omega⟩),up:=fun b hb=>.inr (by omega) }
  rw[hq] at hsg;refine hsg.mono ?_;rintro e w2 ⟨hc,hN,⟨cs,hb,hrl⟩,hend⟩;have hok:∀ b,OV (fun b=>ok0 b\/w.heap.size<=b) (fun b=>w.heap.size<=b/\b<w.heap.size+11/\b≠w1.heap.size+1+1+1+1/\b≠w1.heap.size+1/\b≠w1.heap.size+1+1) (w1.heap.size+1+1+1+1) (w1.heap.size+1) (w1.heap.size+1+1) b->okF ok0 w.heap.size b:=fun b hb=>⟨hb.1,fun hx=>hb.2.1 ⟨hx.1,hx.2,hb.2.2⟩⟩;have aDH:RL { w:=w2,ok:=okF ok0 w.heap.size,env:=fun _=>none } (m_ q.2.1) cs.toList:=hrl.le ⟨Nat.le_refl _,fun b _ hb=>⟨hok b hb,rfl⟩,fun _ _ _ h=>by cases h⟩
  refine⟨hc,cs,_,aCy hrl,aSy hrl,hb,hN,?_⟩
  rcases hend with⟨o,ho,hq1,rfl⟩|⟨hq1,older,hno,rfl⟩
  ·exact .inl ⟨o,ho,rfl,rfl,aDH,hq1⟩
  ·exact .inr ⟨older,hno,rfl,rfl,aDH,hq1⟩
 rintro e w2 ⟨hc,hw',n,_,hq2⟩
 refine⟨hc,?_⟩
 rcases hq2 with⟨o,hok,rfl,v1,v2,v3⟩|⟨rfl,v1,v2,v3⟩
 ·refine⟨hw',?_,?_,v2⟩
  ·rw[v3];exact hok
  ·rw[v1,v3];rfl
 ·refine⟨hw',?_,?_,v2⟩
  ·rw[v3];exact jR
  ·rw[v1,v3];rfl
end Pv
theorem KC(m:Pv.jl)(hm:Pv.uz m)(hml:Pv.yw m)(F:List lu)(hF:F.length<=1000000)(h0:j_)(hd:o6 h0)(ok0:Nat->Prop)(hcs:Array Value)(B:Option Addr)(nF cF:Nat)(w:World)(hM:a_ w)
  (hH:Pv.RL { w:=w,ok:=ok0,env:=fun _=>none } (Pv.m_ h0) hcs.toList) (hV:Pv.RL { w:=w,ok:=ok0,env:=fun _=>none } [Pv.tH F] [.slice B nF cF]) :
  Calls Tryz.prog 15 #[.agg hcs,.agg (Pv.opC m),.slice B nF cF] w fun e w'=>Ext w w'/\∃ val,e=.returned val /\
   Pv.RV { w:=w',ok:=fun b=>ok0 b\/w.heap.size<=b,env:=fun _=>none } (Pv.bDz (dK F (Pv.cO m) h0 0)) val:=by
 have Ap:=hide (show hcs.size=18/\(Pv.opC m).size=102 from⟨Pv.aCy hH,Pv.sF hml⟩);have HR:=hide (fun W=>KF (Pv.opC m) W);have HV:=hide (fun W0 w1 z1 z7=>Pv.Qm m hm hml F hF h0 hd ok0 hcs B nF cF w hM hH hV W0 w1 z1 z7);obtain⟨q,hq⟩:∃ q,dK F (Pv.cO m) h0 0=q:=⟨_,rfl⟩;rw[hq] at HV ⊢;obtain⟨mrr,LH⟩:∃ x,Pv.opC m=x:=⟨_,rfl⟩;rw[LH] at Ap HR HV ⊢;obtain⟨oc,hoc⟩:∃ x,Pv.jw (Pv.bG q.1)=x:=⟨_,rfl⟩;rw[hoc] at HV;have HO:=hide hoc;clear LH hM hm hml hF hd hH hV hq hoc
 go_enter Tryz.func15,Tryz.ntmps15
 go_upto_region 1 with fail
 generalize hW0:World.alloc _ (.cells _ 40)=W0
 have z1:Ext w W0:=by
  rw[<-hW0]
  repeat' (first|(with_reducible exact dm.refl _ _)|(with_reducible exact Ext.refl _)|(with_reducible assumption)|(with_reducible refine dm.alloc ?_ _)|(with_reducible refine dm.drew ?_)|(with_reducible refine dm.drewN ?_ _)|(with_reducible refine dm.setCell ?_ ?_ _)|(with_reducible refine Ext.alloc ?_ _)|(with_reducible refine Ext.drew ?_)|(with_reducible refine Ext.drewN ?_ _)|(with_reducible refine Ext.setCell ?_ ?_ _)|(simp;done)|(simp;omega)|omega)
 have z2:au W0 w.heap.size 65 hcs:=by rw[<-hW0];exact (((au.new w _ _).alloc _).alloc _).alloc _
 have z3:au W0 (w.heap.size+1) 31 mrr:=by rw[<-hW0];exact ((au.new' _ _ _ (by simp)).alloc _).alloc _
 have z5:au W0 (w.heap.size+1+1) 65 (#[.slice none 0 0,.slice none 0 0]++Array.replicate 16 (.int .u8 0)):=by rw[<-hW0];exact (au.new' _ _ _ (by simp)).alloc _
 have z6:au W0 (w.heap.size+1+1+1) 40 (Pv.jw Pv.jr):=by rw[<-hW0];exact au.new' _ _ _ (by simp)
 have z7:W0.heap.size=w.heap.size+4:=by rw[<-hW0];simp
 have z8:Ext w W0.drew:=z1.drew;have HZ:=hide (show Ext w W0.drew/\au W0.drew (w.heap.size+1+1) 65 (#[.slice none 0 0,.slice none 0 0]++Array.replicate 16 (.int .u8 0))/\au W0.drew (w.heap.size+1+1+1) 40 (Pv.jw Pv.jr)/\W0.drew.heap.size=w.heap.size+4 from⟨z8,z5.drew,z6.drew,z7⟩);refine wp_region_held_drew (S:=fun W=>au W w.heap.size 65 hcs/\au W (w.heap.size+1) 31 mrr) (by kernel_rfl) ⟨z2.drew,z3.drew⟩ (fun hHeld=>?_);clear hW0 z1 z2 z3 z5 z6 z7 z8;generalize W0.drew=Wd at HZ hHeld ⊢;refine wpAnyH_take (i:=0) (v:=_) rfl (by kernel_rfl) (by kernel_rfl) (by kernel_rfl) (fun _ _ _ h=>h) (Y0 Pv.aLf rfl (by rfl) rfl (aA Ap).2 (fun w' hw=>hw.2)) (by assumption) ?_
 try simp only[Act.put,zA,zB,zC,zD,zF]
 refine wpAnyH_take (i:=2) (v:=_) rfl (by kernel_rfl) (by kernel_rfl) (by kernel_rfl) (fun _ _ _ h=>h) (Y0 sO rfl (by rfl) rfl (aA Ap).1 (fun w' hw=>hw.1)) (by assumption) ?_
 try simp only[Act.put,zA,zB,zC,zD,zE,zF]
 refine wpAnyH_take (i:=3) (v:=?_) rfl (by kernel_rfl) (by kernel_rfl) (by kernel_rfl) (fun _ _ _ h=>h) (Or.inl ⟨by rfl,fun wz hSz=>?_⟩) (by assumption) ?_;rotate_left
 ·(first|(go_simp;done)|(go_simp;with_reducible rfl))
 try simp only[Act.put,zA,zB,zC,zD,zE,zF]
 refine wpAnyH_ready (rs:=[1]) (by kernel_rfl) (by simp) (AllReadyH.cons (o:=_) rfl (fun K hK=>?_) AllReadyH.nil)
 try go_simp
 (refine (aA HR Wd).mono ?_;rintro e w1 ⟨rfl,k1,k2,k3⟩;have hS:=And.intro (hHeld.1.ext k1) (hHeld.2.ext k1);have H1:=hide (And.intro k1 (And.intro k2 k3));clear hHeld k1 k2 k3)
 refine hK.out _ _ ?_ (fun hHeld=>?_)
 ·exact hS
 clear hK K
 try simp only[Act.put,zA,zB,zC,zD,zE,zF]
 refine wpAnyH_ready (rs:=[4]) (by kernel_rfl) (by simp) (AllReadyH.cons (o:=_) rfl (fun K hK=>?_) AllReadyH.nil)
 try go_simp
 (obtain⟨k1,k2,k3⟩:=aA H1;have hz:=(aA HZ).2.2.2;refine (aA HV Wd w1 (aA HZ).1 hz k1 k2 k3).mono ?_;rintro e w2 ⟨hc,hw',ho,rfl,r1⟩;have hS:=And.intro (hHeld.1.gu hc (by omega)) (hHeld.2.gu hc (by omega));have H2:=hide (And.intro (((aA HZ).1.trans k1).trans' hc (fun _ _ h=>h) (fun i hi e=>by omega)) (And.intro (((aA HZ).2.1.ext k1).gu hc (by omega)) (And.intro (((aA HZ).2.2.1.ext k1).gu hc (by omega)) (And.intro ho r1))));have e3:=Pv.aCy r1;have e4:=Pv.aSy r1;clear hHeld k1 k2 k3 hz hc r1 ho H1)
 refine hK.out _ _ ?_ (fun hHeld=>?_)
 ·exact hS
 clear hK K
 try simp only[Act.put,zA,zB,zC,zD,zE,zF]
 refine wpAnyH_take (i:=5) (v:=?_) rfl (by kernel_rfl) (by kernel_rfl) (by kernel_rfl) (fun _ _ _ h=>h) (Or.inl ⟨by rfl,fun wz hSz=>?_⟩) (by assumption) ?_;rotate_left
 ·(first|(go_simp;done)|(go_simp;with_reducible rfl))
 try simp only[Act.put,zA,zB,zC,zD,zE,zF]
 refine wpAnyH_take (i:=6) (v:=?_) rfl (by kernel_rfl) (by kernel_rfl) (by kernel_rfl) (fun _ _ _ h=>h) (Or.inl ⟨by rfl,fun wz hSz=>?_⟩) (by assumption) ?_;rotate_left
 ·(first|(go_simp;done)|(go_simp;with_reducible rfl))
 try simp only[Act.put,zA,zB,zC,zD,zE,zF]
 refine wpAnyH_take (i:=7) (v:=?_) rfl (by kernel_rfl) (by kernel_rfl) (by kernel_rfl) (fun _ _ _ h=>h) (Or.inl ⟨by rfl,fun wz hSz=>?_⟩) (by assumption) ?_;rotate_left
 ·(first|(go_simp;done)|(go_simp;with_reducible rfl))
 try simp only[Act.put,zA,zB,zC,zD,zE,zF]
 refine wpAnyH_take (i:=8) (v:=?_) rfl (by kernel_rfl) (by kernel_rfl) (by kernel_rfl) (fun _ _ _ h=>h) (Or.inl ⟨by rfl,fun wz hSz=>?_⟩) (by assumption) ?_;rotate_left
 ·(first|(go_simp;done)|(go_simp;with_reducible rfl))
 try simp only[Act.put,zA,zB,zC,zD,zE,zF]
 refine wpAnyH_ready (rs:=[9]) (by kernel_rfl) (by simp) (AllReadyH.cons (o:=_) rfl (fun K hK=>?_) AllReadyH.nil)
 (refine iI (ty:=65) (t:=65) (x:=.tmp 6) (y:=.tmp 15) rfl rfl sO rfl rfl (aA H2).2.1 rfl e3 e4 ?_;intro w3 hb3 hc3 hz3;have hS:=And.intro (hHeld.1.gu hc3 (by omega)) (hHeld.2.gu hc3 (by omega));have H3:=hide (And.intro hb3 (And.intro hc3 hz3));clear hHeld hb3 hc3 hz3)
 refine hK.out _ _ ?_ (fun hHeld=>?_)
 ·exact hS
 clear hK K
 try simp only[Act.put,zD,zE,zF]
 refine wpAnyH_ready (rs:=[10]) (by kernel_rfl) (by simp) (AllReadyH.cons (o:=_) rfl (fun K hK=>?_) AllReadyH.nil)
 (refine iI (ty:=40) (t:=40) (x:=.tmp 7) (y:=.tmp 16) rfl rfl iZ rfl rfl ((aA H2).2.2.1.gu (aA H3).2.1 (by omega)) (Pv.dS Pv.jR) (by rw[<-aA HO];exact Pv.dS (aA H2).2.2.2.1) (by rw[<-aA HO];exact Pv.lV _) ?_;intro w4 hb4 hc4 CP;have hS:=And.intro (hHeld.1.gu hc4 (by omega)) (hHeld.2.gu hc4 (by omega));have H4:=hide (And.intro hb4 (And.intro hc4 CP));clear hHeld hb4 hc4 CP)
 refine hK.out _ _ ?_ (fun hHeld=>?_)
 ·exact hS
 clear hK K
 try simp only[Act.put,zD,zE,zF]
 refine wpAnyH_take (i:=11) (v:=?_) rfl (by kernel_rfl) (by kernel_rfl) (by kernel_rfl) (fun _ _ _ h=>h) (Or.inl ⟨by rfl,fun wz hSz=>?_⟩) (by assumption) ?_;rotate_left
 ·(first|(go_simp;done)|(go_simp;with_reducible rfl))
 try simp only[Act.put,zA,zB,zC,zD,zE,zF]
 refine wpAnyH_take (i:=12) (v:=?_) rfl (by kernel_rfl) (by kernel_rfl) (by kernel_rfl) (fun _ _ _ h=>h) (Or.inl ⟨by rfl,fun wz hSz=>?_⟩) (by assumption) ?_;rotate_left
 ·(first|(go_simp;done)|(go_simp;with_reducible rfl))
 try simp only[Act.put,zA,zB,zC,zD,zE,zF]
 refine wpAnyH_done (by kernel_rfl) ?_ _;clear hHeld
 go_wp2
 obtain⟨x1,_,_,ho,r1⟩:=aA H2;obtain⟨b3,c3,s3⟩:=aA H3;obtain⟨b4,c4,s4⟩:=aA H4;have hoc:=aA HO;refine bodyPost_ret (aNv e3 (by rw[<-hoc];exact Pv.dS ho) rfl rfl (b3.gu c4 (by omega)) b4) rfl ⟨?_,_,rfl,?_⟩
 ·exact (x1.trans' c3 (fun _ _ h=>h) (fun i hi e=>by omega)).trans' c4 (fun _ _ h=>h) (fun i hi e=>by omega)
 ·have hLe:∀ {p:List Pv.PC} {xs:List Value},Pv.RL { w:=w2,ok:=Pv.okF ok0 w.heap.size,env:=fun _=>none } p xs->Pv.RL { w:=w4,ok:=fun b=>ok0 b\/w.heap.size<=b,env:=fun _=>none } p xs:=fun hr=>
   hr.le ⟨by rw[s4,s3];exact Nat.le_refl _,fun b hb hok=>⟨hok.1,by
    have hn:¬(w.heap.size<=b/\b<w.heap.size+11):=hok.2
    exact (c4.block b (by rw[s3];exact hb) (by omega)).trans (c3.block b hb (by omega))⟩,fun _ _ _ h=>by cases h⟩
  show Pv.RV _ (Pv.bDz q) (.tuple #[.agg hw',.agg oc,.int .i64 (q.2.2:Int),.bool q.1.isSome]);rw[<-hoc];exact Pv.Uk (hLe r1) (Pv.bDh _ ho)
namespace Pv
def aPq:List PC->Option lu
 |[.lit (.bool c),.lit (.int .i64 b),.lit (.bool n)]=>some ⟨c,b,n⟩
 |_=>none
def wV(n:Nat)(f:Nat->List PC):List lu:=(List.range n).map fun i=>(aPq (f i)).getD tu
def MF:PC->Option (Prop×List lu)
 |.sl 3 n f=>some (∀ i,i<n->(aPq (f i)).isSome=true,wV n f)
 |.lit (.slice none 0 0)=>some (True,[])
 |_=>none
theorem bFr{l:List PC}(h:(aPq l).isSome=true):l=oL ((aPq l).getD tu):=by
 unfold aPq at h ⊢
 split
 ·rfl
 ·rename_i hn
  split at h
  ·rename_i c b n;exact absurd rfl (hn c b n)
  ·cases h
theorem MC{C:Ctx}{c:PC}{p:Prop}{F:List lu}(e:MF c=some (p,F))(hp:p){v:Value}(hr:R C c [v]):(∃ B n k,v=.slice B n k)/\R C (tH F) [v]:=by
 unfold MF at e
 split at e
 ·rename_i n f;cases e
  have hlen:(wV n f).length=n:=by simp[wV]
  refine⟨?_,?_⟩
  ·cases hr with
   |sl r _ _=>
    obtain⟨_,A,k,rfl,_⟩:=r
    exact⟨_,_,_,rfl⟩
  ·unfold tH;rw[hlen];refine hr.zt fun i hi=>?_;have h1:=bFr (hp i hi);rw[h1];unfold uw wV;congr 1;rw[zG,List.getElem?_map,List.getElem?_range hi];rfl
 ·cases e
  obtain rfl:v=.slice none 0 0:=by cases hr;rfl
  exact⟨⟨_,_,_,rfl⟩,R.sl (Reads.nil _ 3) (fun _ _ h=>absurd h (by simp)) (fun i h=>absurd h (by simp))⟩
 ·cases e
def bEa:List PV->Option (Prop×PV)
 |[.w (.agg hl),.w (.agg ol),.w (.one fv)]=>match Ag hl,bHt ol,MF fv with
  |some (p,h0),some m,some (p2,F)=>some (p/\p2/\o6 h0/\F.length<=1000000/\uz m,bDz (dK F (cO m) h0 0))
  |_,_,_=>none
 |_=>none
theorem aEv:aj Tryz.prog a_ 15 (bD false bEa):=by
 refine bC (aF Tryz.func15 (by kernel_rfl) rfl) (fun xs p r hg hp w ok0 vs hI hv=>?_);unfold bEa at hg
 split at hg
 ·rename_i hl ol fv
  split at hg
  ·rename_i p1 h0 m p2 F e1 em e2;cases hg;obtain⟨q1,q2,q3,q4,q5⟩:=hp
   match vs,hv with
   | [v1, v2,v3],⟨k1,k2,k3,_⟩=>
    cases k1 with
    | w k1=>cases k1 with
     | @agg _ c1 k1=>
      cases k2 with
      | w k2=>cases k2 with
       | @agg _ c2 k2=>
        cases k3 with
        | w k3=>cases k3 with
         |one k3=>
          rw[aMn em] at k2;obtain⟨h2,hid,hbt⟩:=aVj k2;have ec:c2=opC m:=Array.ext' h2;subst ec;obtain⟨⟨B,n,k,rfl⟩,hf⟩:=MC e2 q2 k3;have hf':=RL.cons hf RL.nil;refine (KC m q5 ⟨q5.root,hid,q5.link,q5.ot,q5.xt,hbt⟩ F q4 h0 q3 ok0 c1 B n k w hI (xX e1 q1 k1) hf').mono ?_;rintro e w' ⟨hE,val,rfl,hval⟩
          exact⟨val,rfl,hE,hval.le ⟨Nat.le_refl _,fun b _ hb=>⟨hb.elim (fun h=>.inl ⟨rfl,h⟩) .inr,rfl⟩,fun _ _ _ h=>by cases h⟩⟩
  ·cases hg
 ·cases hg
end Pv
structure qx(A L:Nat)(lv:Value)(log:List je)(i:Nat)(X:Nat->Prop)(w:World):Prop where
 at_:w.heap[A]?=some (.cells #[.int .i64 (i:Int)] 3 (0,0))
 EK:w.heap[L]?=some (.cells #[lv] 32 (0,0))
 reads:Reads w 2 lv log.length (logCells log)
 ne:A≠L
 own:0<log.length->lv.ownBlock≠some A
 le:i<=log.length
 mine:∀ k,X k->k<w.heap.size/\k≠A/\k≠L/\(0<log.length->lv.ownBlock≠some k)
def pending(a:Acc):Value:=.iface 114 a.v
theorem qx.gu{A L:Nat}{lv:Value}{log:List je}{i:Nat}{X:Nat->Prop}{w w':World}(h:qx A L lv log i X w)(hc:dm X w w'):qx A L lv log i X w':=
 ⟨
  dm.blk hc h.at_ (fun hx=>(h.mine _ hx).2.1 rfl),dm.blk hc h.EK (fun hx=>(h.mine _ hx).2.2.1 rfl),h.reads.gu hc (fun _ hn hk hx=>(h.mine _ hx).2.2.2 hn hk),h.ne,h.own,h.le,
  fun k hk=>⟨Nat.lt_of_lt_of_le (h.mine k hk).1 hc.size,(h.mine k hk).2⟩⟩
theorem qx.step{A L:Nat}{lv:Value}{log:List je}{i:Nat}{X:Nat->Prop}{w:World}(h:qx A L lv log i X w)(hi:i<log.length):qx A L lv log (i+1) X (w.setCell ⟨A,0,none⟩ (.int .i64 ((i:Int)+1))):=by
 have hc:dm (fun k=>k=A) w (w.setCell ⟨A,0,none⟩ (.int .i64 ((i:Int)+1))):=dm.setCell (S:=fun k=>k=A) (p:=⟨A,0,none⟩) (dm.refl _ _) (.inl rfl) _
 refine⟨?_,dm.blk hc h.EK (fun e=>h.ne e.symm),h.reads.gu hc (fun k hn hk e=>h.own hn (e ▸ hk)),h.ne,h.own,hi,fun k hk=>⟨Nat.lt_of_lt_of_le (h.mine k hk).1 hc.size,(h.mine k hk).2⟩⟩
 exact one_setCell h.at_
theorem Un(A L:Nat)(lv:Value)(log:List je)(a:Acc)(i:Nat)(X:Nat->Prop)(w:World)(h:qx A L lv log i X w)(F:Nat)(hF:F=43) :
  Calls Tryz.prog F (#[a.v]++#[.pointer (some ⟨A,0,none⟩),.pointer (some ⟨L,0,none⟩)]) w (mD (qx A L lv log) (fun k=>k=A) X pending w je.v (replay log a i)):=by
 subst hF;have hA:=cell_of_one h.at_;have hfA:=free_of_one h.at_;have hL:=cell_of_one h.EK;have hAw:=lt_of_heap h.at_;have hLw:=lt_of_heap h.EK;have hne:¬L=A:=fun e=>h.ne e.symm;have hmx:=h.reads.yu;have HH:=hide h;obtain⟨_,B,c,rfl,hnc,hcm,_⟩:=h.reads;clear h;unfold maxLen at hmx;obtain⟨ak,ab,ac,ax⟩:=a;simp only[Acc.v]
 by_cases hlt:i<log.length
 ·obtain⟨b,o,c',u1,u2,hv,_,_,hb,hu1,hu2,hc1,hc2⟩:=(aA HH).reads.at2 hlt;cases hv;have hbA:¬b=A:=fun e=>(aA HH).own (by omega) (by rw[e];rfl);rw[(aBv log i).1,zH hlt] at hu1;rw[(aBv log i).2,zH hlt] at hu2;cases hu1;cases hu2;have R:Hid (replay log ⟨ak,ab,ac,ax⟩ i=.ok log[i] (i+1)):=hide (by unfold replay;rw[zH hlt]);generalize log[i]=r at *
  have hli:¬log.length<=i:=by omega
  go_enter Tryz.func43,Tryz.ntmps43
  go_wp2
  go_returns
  have hs:=(aA HH).step hlt;refine mD.ok (aA R) rfl ?_ ?_
  ·exact (hs.gu (dm.alloc (dm.refl _ _) _)).gu (dm.alloc (dm.refl _ _) _)
  ·exact ((dm.setCell (S:=fun k=>k=A) (p:=⟨A,0,none⟩) (dm.refl _ _) (.inl rfl) _).alloc _).alloc _
 ·have R:Hid (replay log ⟨ak,ab,ac,ax⟩ i=.error ⟨ak,ab,ac,ax⟩ i):=hide (by unfold replay;rw[List.getElem?_eq_none (by omega)])
  have hli:log.length<=i:=by omega
  go_enter Tryz.func43,Tryz.ntmps43
  go_wp2
  refine⟨rfl,mD.err (aA R) rfl ?_ ?_⟩
  ·exact ((aA HH).gu (dm.alloc (dm.refl _ _) _)).gu (dm.alloc (dm.refl _ _) _)
  ·exact ((dm.refl _ _).alloc _).alloc _
theorem aRj{P:Program}{ops:Array Oper}{o:Oper}{a:Act}{w w':World}{K:Act->World->Prop}{Q:Exit->Act->World->Prop}{E:Prop}(hgd:o.guard=none){ty:TypeId}{x y:Operand}(ho:o.op=.store ty x y)(hr:(Instr.storeAt ty (a.eval x) (a.eval y)).run P w=.ok () w')(h:K (a.put o.dst undef) w') :
  if Region.wanted o (yielded ops a.tmps)=true then Oper.wp P o a w K Q else E:=by
 have hw:Region.wanted o (yielded ops a.tmps)=true:=by simp[Region.wanted,hgd]
 rw[if_pos hw];unfold Oper.wp;rw[show (execOp a.eval o).run P w=.ok .skip w' from by simp[execOp,ho,hr]];exact h
theorem wK:u_ Tryz.prog 37 4:=⟨⟨_,Tryz.underlying37,rfl⟩,by kernel_rfl⟩
theorem aHh(x:Value)(w:World):(Instr.typeAssert (.iface 114 x) 20 114 true).run Tryz.prog w=.ok (.tuple #[x,.bool true]) w:=by kernel_rfl
attribute [local go_sem] aHh
theorem catch_panicking(Ab Ob Db:Nat)(a:Acc)(x0 x1 x2 x3 z0:Value)(y:Array Value)(older:List PanicEntry)(w:World)(hy:y.size=55)
  (hA:au w Ab 37 #[x0,x1,x2,x3]) (hO:au w Ob 40 y) (hD:au w Db 4 #[z0]) (ZW:¬Ab=Ob) (hAD:¬Ab=Db) (RP:¬Ob=Db) :
  CallsD Tryz.prog 44 #[.pointer (some ⟨Ab,0,none⟩),.pointer (some ⟨Ob,0,none⟩),.pointer (some ⟨Db,0,none⟩)] (.panicking ({ v:=pending a,recovered:=false }::older)) w fun e u' w'=>
   e=.returned (.tuple #[])/\u'=.panicking ({ v:=pending a,recovered:=true }::older)/\dm (fun k=>k=Ab\/k=Ob\/k=Db) w w' /\
   au w' Ab 37 #[.int .i64 a.kind,.int .i64 a.ay,.int .i64 a.cell,.string a.bytes]/\au w' Ob 40 (Pv.jw Pv.jr)/\au w' Db 4 #[.bool false]:=by
 have lA:=hA.lt;have lO:=hO.lt;have lD:=hD.lt;have HA:=hide hA;have HO:=hide (And.intro hO hy);have HD:=hide hD;clear hA hO hD hy;have bJx:¬Ob=Ab:=fun e=>ZW e.symm;have bJy:¬Db=Ab:=fun e=>hAD e.symm;have aOI:¬Db=Ob:=fun e=>RP e.symm;obtain⟨ak,ab,ac,ax⟩:=a;simp only[pending,Acc.v];refine callsD_of_wpS Tryz.func44 rfl fun c₀ cs hu=>?_;simp only[Tryz.ntmps44,List.size_toArray,List.length_cons,List.length_nil,Nat.reduceAdd,Nat.reduceSub,Array.replicate_succ,Array.replicate_zero,List.push_toArray,List.append_toArray,List.nil_append,List.cons_append];apply wpS_seq;apply wpS_region;simp[wpOpsS,go_sem,recoverD,hu,Exit.thenS];refine wpS_of_wp ?_
 go_upto_region 8 with fail
 generalize hW:World.alloc _ (.cells _ 40)=W
 have z1:Ext w W:=by
  rw[<-hW]
  repeat' (first|(with_reducible exact dm.refl _ _)|(with_reducible exact Ext.refl _)|(with_reducible assumption)|(with_reducible refine dm.alloc ?_ _)|(with_reducible refine dm.drew ?_)|(with_reducible refine dm.drewN ?_ _)|(with_reducible refine dm.setCell ?_ ?_ _)|(with_reducible refine Ext.alloc ?_ _)|(with_reducible refine Ext.drew ?_)|(with_reducible refine Ext.drewN ?_ _)|(with_reducible refine Ext.setCell ?_ ?_ _)|(simp;done)|(simp;omega)|omega)
 have z2:au W w.heap.size 114 #[.int .i64 ak,.int .i64 ab,.int .i64 ac,.string ax]:=by
  rw[<-hW];exact (au.new' _ _ _ (by simp)).alloc _
 have z3:au W (w.heap.size+1) 40 (Pv.jw Pv.jr):=by
  rw[<-hW];exact au.new' _ _ _ (by simp)
 have HZ:=hide (show Ext w W.drew/\au W.drew Ab 37 #[x0,x1,x2,x3]/\au W.drew Ob 40 y/\au W.drew Db 4 #[z0] from⟨z1.drew,((aA HA).ext z1).drew,((aA HO).1.ext z1).drew,((aA HD).ext z1).drew⟩);refine wp_region_held_drew (S:=fun W=>au W w.heap.size 114 #[.int .i64 ak,.int .i64 ab,.int .i64 ac,.string ax]/\au W (w.heap.size+1) 40 (Pv.jw Pv.jr)) (by kernel_rfl) ⟨z2.drew,z3.drew⟩ (fun hHeld=>?_);clear hW z1 z2 z3;generalize W.drew=Wd at HZ hHeld ⊢;refine wpAnyH_take (i:=0) (v:=?_) rfl (by kernel_rfl) (by kernel_rfl) (by kernel_rfl) (fun _ _ _ h=>h) (Or.inl ⟨by rfl,fun wz hSz=>?_⟩) (by assumption) ?_;rotate_left
 ·(first|(go_simp;done)|(go_simp;with_reducible rfl))
 try simp only[Act.put,zA,zB,zC,zD,zF]
 refine wpAnyH_take (i:=1) (v:=_) rfl (by kernel_rfl) (by kernel_rfl) (by kernel_rfl) (fun _ _ _ h=>h) (Y0 wK rfl (by rfl) rfl rfl (fun w' hw=>hw.1)) (by assumption) ?_
 try simp only[Act.put,zA,zB,zC,zD,zE,zF]
 refine wpAnyH_take (i:=2) (v:=_) rfl (by kernel_rfl) (by kernel_rfl) (by kernel_rfl) (fun _ _ _ h=>h) (Y0 iZ rfl (by rfl) rfl (Pv.dS Pv.jR) (fun w' hw=>hw.2)) (by assumption) ?_
 try simp only[Act.put,zA,zB,zC,zD,zE,zF]
 refine wpAnyH_ready (rs:=[3]) (by kernel_rfl) (by simp) (AllReadyH.cons (o:=_) rfl (fun K hK=>?_) AllReadyH.nil)
 (refine iI (ty:=37) (t:=37) (x:=.tmp 0) (y:=.tmp 14) rfl rfl wK rfl rfl (aA HZ).2.1 rfl rfl (by rw[<-Array.all_toList];rfl) ?_;intro w2 hb2 hc2 hz2;have hS:=And.intro (hHeld.1.gu hc2 (by omega)) (hHeld.2.gu hc2 (by omega));have H2:=hide (And.intro hb2 (And.intro hc2 hz2));clear hHeld hb2 hc2 hz2)
 refine hK.out _ _ ?_ (fun hHeld=>?_)
 ·exact hS
 clear hK K
 try simp only[Act.put,zD,zE,zF]
 refine wpAnyH_ready (rs:=[4]) (by kernel_rfl) (by simp) (AllReadyH.cons (o:=_) rfl (fun K hK=>?_) AllReadyH.nil)
 (refine iI (ty:=40) (t:=40) (x:=.tmp 1) (y:=.tmp 15) rfl rfl iZ rfl rfl ((aA HZ).2.2.1.gu (aA H2).2.1 (by omega)) (aA HO).2 (Pv.dS Pv.jR) (Pv.lV _) ?_;intro w3 hb3 hc3 hz3;have hS:=And.intro (hHeld.1.gu hc3 (by omega)) (hHeld.2.gu hc3 (by omega));have hDD:=(((aA HZ).2.2.2.gu (aA H2).2.1 (by omega)).gu hc3 (by omega));have H3:=hide (And.intro hb3 (And.intro hc3 (And.intro hz3 hDD)));clear hHeld hb3 hc3 hz3 hDD)
 refine hK.out _ _ ?_ (fun hHeld=>?_)
 ·exact hS
 clear hK K
 try simp only[Act.put,zD,zE,zF]
 refine wpAnyH_ready (rs:=[5]) (by kernel_rfl) (by simp) (AllReadyH.cons (o:=_) rfl (fun K hK=>?_) AllReadyH.nil)
 (obtain⟨w4,e4,b4,c4,s4⟩:=(aVm Db false).st _ #[z0] rfl (aA H3).2.2.2;refine aRj (ty:=4) (x:=.tmp 2) (y:=.const (.bool false)) rfl rfl e4 ?_;have hS:=And.intro (hHeld.1.gu c4 (by omega)) (hHeld.2.gu c4 (by omega));have H4:=hide (And.intro b4 (And.intro c4 s4));clear hHeld b4 c4 s4 e4)
 refine hK.out _ _ ?_ (fun hHeld=>?_)
 ·exact hS
 clear hK K
 try simp only[Act.put,zD,zE,zF]
 refine wpAnyH_done (by kernel_rfl) ?_ _;clear hHeld
 go_wp2
 obtain⟨z1,zA,zO,zD⟩:=aA HZ;obtain⟨b2,c2,s2⟩:=aA H2;obtain⟨b3,c3,s3,zD3⟩:=aA H3;obtain⟨b4,c4,s4⟩:=aA H4
 refine⟨rfl,_,rfl,.tuple #[],results_none rfl _ _ _,rfl,rfl,?_,?_,?_,?_⟩
 ·exact ((z1.trans' c2 (T:=fun k=>k=Ab) (U:=fun k=>k=Ab\/k=Ob\/k=Db) (fun _ _ h=>h.elim) (fun i _ e=>.inl e)).trans' c3 (T:=fun k=>k=Ob) (U:=fun k=>k=Ab\/k=Ob\/k=Db) (fun _ _ h=>h) (fun i _ e=>.inr (.inl e))).trans' c4 (T:=fun k=>k=Db) (U:=fun k=>k=Ab\/k=Ob\/k=Db) (fun _ _ h=>h) (fun i _ e=>.inr (.inr e))
 ·exact (b2.gu c3 ZW).gu c4 hAD
 ·exact b3.gu c4 RP
 ·exact b4
theorem catch_idle(x y z:Value)(w:World) :
  CallsD Tryz.prog 44 #[x,y,z] .returning w fun e u' w'=>e=.returned (.tuple #[])/\u'=.returning/\w=w':=by
 refine callsD_of_wpS Tryz.func44 rfl fun c₀ cs hu=>?_;simp only[Tryz.ntmps44,List.size_toArray,List.length_cons,List.length_nil,Nat.reduceAdd,Nat.reduceSub,Array.replicate_succ,Array.replicate_zero,List.push_toArray,List.append_toArray,List.nil_append,List.cons_append];apply wpS_seq;apply wpS_region;simp[wpOpsS,go_sem,recoverD,hu,Exit.thenS];refine wpS_of_wp ?_
 go_wp2
 exact⟨rfl,.returning,by cases c₀;simp_all,.tuple #[],results_none rfl _ _ _,rfl,rfl,rfl⟩
end
def lQ(w:World)(lv:Value):World:=
 ((((w.alloc (.cells #[lv] 32)).alloc (.cells #[.int .i64 0,.int .i64 0,.int .i64 0,.string { data:=#[] }] 37)).alloc (.cells (Pv.jw Pv.jr) 40)).alloc (.cells #[.bool false] 4)).alloc (.cells #[.int .i64 0] 3)
theorem aHa(w:World)(lv:Value)(log:List je)(hl:Reads w 2 lv log.length (logCells log)) :
  Ext w (lQ w lv)/\(lQ w lv).heap.size=w.heap.size+5 /\
  qx (w.heap.size+1+1+1+1) w.heap.size lv log 0 (fun k=>k=w.heap.size+1\/k=w.heap.size+1+1\/k=w.heap.size+1+1+1) (lQ w lv) /\
  au (lQ w lv) (w.heap.size+1) 37 #[.int .i64 0,.int .i64 0,.int .i64 0,.string { data:=#[] }] /\
  au (lQ w lv) (w.heap.size+1+1) 40 (Pv.jw Pv.jr)/\au (lQ w lv) (w.heap.size+1+1+1) 4 #[.bool false]:=by
 have hlt:=fun k (hn:0<log.length) hk=>hl.Cm (by omega) hn k hk
 have hE:Ext w (lQ w lv):=by
  unfold lQ
  repeat' (first|(with_reducible exact dm.refl _ _)|(with_reducible exact Ext.refl _)|(with_reducible assumption)|(with_reducible refine dm.alloc ?_ _)|(with_reducible refine dm.drew ?_)|(with_reducible refine dm.drewN ?_ _)|(with_reducible refine dm.setCell ?_ ?_ _)|(with_reducible refine Ext.alloc ?_ _)|(with_reducible refine Ext.drew ?_)|(with_reducible refine Ext.drewN ?_ _)|(with_reducible refine Ext.setCell ?_ ?_ _)|(simp;done)|(simp;omega)|omega)
 refine⟨hE,by simp[lQ],⟨?_,?_,hl.ext hE,by omega,?_,by omega,?_⟩,?_,?_,?_⟩
 ·exact au.new' _ _ _ (by simp)
 ·exact ((((au.new w 32 #[lv]).alloc _).alloc _).alloc _).alloc _
 ·intro hn hk;have:=hlt _ hn hk;omega
 ·rintro k hk
  refine⟨by simp[lQ];omega,by omega,by omega,fun hn hk'=>?_⟩
  have:=hlt _ hn hk';omega
 ·exact (((au.new' _ _ _ (by simp)).alloc _).alloc _).alloc _
 ·exact ((au.new' _ _ _ (by simp)).alloc _).alloc _
 ·exact (au.new' _ _ _ (by simp)).alloc _
theorem aDz(tmps:Array Value)(w:World)(Ab Ob Db:Nat)(a0 a1 a2 a3 d0:Value)(oc:Array Value)(ho:oc.size=55)(h4:tmps[4]?.getD undef=.pointer (some ⟨Ab,0,none⟩))(h5:tmps[5]?.getD undef=.pointer (some ⟨Ob,0,none⟩))(h6:tmps[6]?.getD undef=.pointer (some ⟨Db,0,none⟩))
  (hA:au w Ab 37 #[a0,a1,a2,a3]) (hO:au w Ob 40 oc) (hD:au w Db 4 #[d0]) :
  (results Tryz.f28 tmps).run Tryz.prog w=.ok (.tuple #[.agg #[a0,a1,a2,a3],.agg oc,d0]) w:=by
 have a0':=iV hA wK rfl;have b0:=iV hO iZ ho;have d0':=hD.cell 0;simp only[List.getElem?_toArray,List.getElem?_cons_zero] at d0'
 have d1:(loadVar 4 ⟨Db,0,none⟩).run Tryz.prog w=.ok d0 w:=by simp[go_sem,d0']
 simp[results,Tryz.results28,h4,h5,h6,asAddr,a0',b0,d1]
theorem Ii (G:Nat) (pc:Array Value) (lv:Value) (log:List je) (p:ah Pv.jk) (T:Nat->Prop) (w:World) (hl:Reads w 2 lv log.length (logCells log)) (hG:∀ (args:Array Value) (w:World),(callFunc G args).run Tryz.prog w=.ok (.enter G args) w)
    (hp : ∀ w1,Ext w w1->w1.heap.size=w.heap.size+5->qx (w.heap.size+1+1+1+1) w.heap.size lv log 0 (fun k=>k=w.heap.size+1\/k=w.heap.size+1+1\/k=w.heap.size+1+1+1) w1 ->
      Calls Tryz.prog G (#[.func (.func 43) #[] #[.pointer (some ⟨w.heap.size+1+1+1+1,0,none⟩),.pointer (some ⟨w.heap.size,0,none⟩)]]++pc) w1 fun e w2=>dm (fun k=>k=w.heap.size+1+1+1+1\/(T k/\k<w.heap.size)) w1 w2 /\
        ((∃ a i,p.run (replay log) 0=.ok a i/\Pv.qp a/\e=.returned (.agg (Pv.jw a)))\/∃ c i older,p.run (replay log) 0=.error c i/\Pv.Xf older/\e=.panicked ({ v:=pending c,recovered:=false }::older))) :
    Calls Tryz.prog 28 #[.func (.func G) #[] pc,lv] w fun e w'=>dm T w w' /\
      (
       (∃ a i,p.run (replay log) 0=.ok a i/\Pv.qp a/\e=.returned (.tuple #[.agg #[.int .i64 0,.int .i64 0,.int .i64 0,.string aS],.agg (Pv.jw a),.bool true])) \/
       ∃ c i,p.run (replay log) 0=.error c i/\e=.returned (.tuple #[c.v,.agg (Pv.jw Pv.jr),.bool false])):=by
  have hmf:∀ (fn:Fn) (first cap:Array Value) (w:World),(Instr.makeFunc fn first cap).run Tryz.prog w=.ok (.func fn first cap) w:=fun _ _ _ _=>rfl;have HP:=hide hp;have HL:=hide hl;obtain⟨_,B,c,rfl,hnc,hcm,_⟩:=hl;clear hp hnc hcm
  go_enter_defers Tryz.func28,Tryz.ntmps28
  go_wp2_with fail
  obtain⟨hE,hsz,hI,hBA,hBO,hBD⟩:=aHa w (.slice B log.length c) log (aA HL);refine (aA HP (lQ w (.slice B log.length c)) hE hsz hI).mono ?_;rintro e w1 ⟨h2,hq⟩
  have nA:¬(w.heap.size+1=w.heap.size+1+1+1+1\/(T (w.heap.size+1)/\w.heap.size+1<w.heap.size)):=by rintro (h|⟨_,h⟩)<;>omega
  have nO:¬(w.heap.size+1+1=w.heap.size+1+1+1+1\/(T (w.heap.size+1+1)/\w.heap.size+1+1<w.heap.size)):=by rintro (h|⟨_,h⟩)<;>omega
  have nD:¬(w.heap.size+1+1+1=w.heap.size+1+1+1+1\/(T (w.heap.size+1+1+1)/\w.heap.size+1+1+1<w.heap.size)):=by rintro (h|⟨_,h⟩)<;>omega
  have hA:=hBA.gu h2 nA;have hO:=hBO.gu h2 nO;have hD:=hBD.gu h2 nD;have hEx:Hid (dm T w w1):=hide (hE.trans' h2 (fun _ _ h=>h.elim) (fun i hi e=>by rcases e with e|e;omega;exact e.1));rcases hq with⟨o,s,hr,hok,rfl⟩|⟨a,s,older,hr,hno,rfl⟩
  ·
    have HR:=hide (And.intro hr hok);have HA:=hide hA;have HO:=hide hO;have HD:=hide hD;have hoo:=Pv.dS hok;have LG:=Pv.lV o;clear hr h2 hE hsz hI hBA hBO hBD HP nA nO nD hA hO hD hok;generalize hoc:Pv.jw o=oc at *
    have e1:¬w.heap.size+1=w.heap.size+1+1:=by omega
    have e2:¬w.heap.size+1=w.heap.size+1+1+1:=by omega
    have e3:¬w.heap.size+1+1=w.heap.size+1:=by omega
    have e4:¬w.heap.size+1+1=w.heap.size+1+1+1:=by omega
    have e5:¬w.heap.size+1+1+1=w.heap.size+1:=by omega
    have e6:¬w.heap.size+1+1+1=w.heap.size+1+1:=by omega
    go_wp2_with (first
      |(refine aT (ty:=37) (t:=37) (x:=.tmp 4) (y:=.tmp 11) rfl rfl wK rfl rfl (aA HA) rfl rfl (by rw[<-Array.all_toList];rfl) ?_;intro w2 hb2 hc2 hz2;have H2:=hide (And.intro hb2 (And.intro hc2 hz2));clear hb2 hc2 hz2)
      |(refine aT (ty:=40) (t:=40) (x:=.tmp 5) (y:=.tmp 14) rfl rfl iZ rfl rfl ((aA HO).gu (aA H2).2.1 e3) (Pv.dS Pv.jR) hoo LG ?_;intro w3 hb3 hc3 hz3;have hDD:=((aA HD).gu (aA H2).2.1 e5).gu hc3 e6;have d1:=hDD.cell 0;have f1:=hDD.frozen;have l1:=hDD.lt;simp only[List.getElem?_toArray,List.getElem?_cons_zero] at d1;have H3:=hide (And.intro hb3 (And.intro hc3 (And.intro hz3 hDD)));clear hb3 hc3 hz3 hDD))
    obtain⟨b2,c2,s2⟩:=aA H2;obtain⟨b3,c3,s3,hDD⟩:=aA H3;refine leaves_cons (f:=44) (args:=#[.pointer (some ⟨w.heap.size+1,0,none⟩),.pointer (some ⟨w.heap.size+1+1,0,none⟩),.pointer (some ⟨w.heap.size+1+1+1,0,none⟩)]) (by simp) (by simp[go_sem]) ?_;refine (catch_idle _ _ _ _).mono ?_;rintro e u' w4 ⟨rfl,rfl,rfl⟩
    refine⟨_,aDz _ _ (w.heap.size+1) (w.heap.size+1+1) (w.heap.size+1+1+1) (.int .i64 0) (.int .i64 0) (.int .i64 0) (.string { data:=#[] }) (.bool true) oc hoo rfl rfl rfl ((b2.gu c3 e1).far (p:=⟨w.heap.size+1+1+1,0,none⟩) e2 _) (b3.far (p:=⟨w.heap.size+1+1+1,0,none⟩) e4 _) (hDD.y9 0 _),?_,?_⟩
    · exact (((aA hEx).trans' c2 (fun _ _ h=>h) (fun i hi e=>by omega)).trans' c3 (fun _ _ h=>h) (fun i hi e=>by omega)).setCell (.inr (show w.heap.size<=w.heap.size+1+1+1 by omega)) _
    · exact .inl ⟨o,s,(aA HR).1,(aA HR).2,by rw[hoc];rfl⟩
  ·
    have HR:=hide hr;have HA:=hide hA;have HO:=hide hO;have HD:=hide hD;clear hr h2 hE hsz hI hBA hBO hBD HP nA nO nD hA hO hD
    go_wp2
    refine leaves_cons (f:=44) (args:=#[.pointer (some ⟨w.heap.size+1,0,none⟩),.pointer (some ⟨w.heap.size+1+1,0,none⟩),.pointer (some ⟨w.heap.size+1+1+1,0,none⟩)]) (by simp) (by simp[go_sem]) ?_;refine (catch_panicking _ _ _ a _ _ _ _ _ _ older _ (Pv.dS Pv.jR) (aA HA) (aA HO) (aA HD) (by omega) (by omega) (by omega)).mono ?_;rintro e u' w2 ⟨rfl,rfl,hc,hA',hO',hD'⟩;have hst:settle (.panicking ({ v:=pending a,recovered:=true }::older))=.returning:=Pv.aAh hno;show Leaves _ _ _ _ _ (settle _) _;rw[hst]
    refine⟨_,aDz _ _ _ _ _ _ _ _ _ _ _ (Pv.dS Pv.jR) rfl rfl rfl hA' hO' hD',?_,?_⟩
    rotate_left 1
    · exact .inr ⟨a,s,aA HR,rfl⟩
    · exact (aA hEx).trans' hc (fun _ _ h=>h) (fun i hi e=>by rcases e with e|e|e<;>omega)
namespace Pv
def BB(log:List je):List Acc->Option je:=fun l=>match l.length with
 |0=>none
 |n+1=>log[n]?
theorem zQ(log:List je)(l:List Acc)(c:Acc):BB log (l++[c])=log[l.length]?:=by
 unfold BB;rw[List.length_append];rfl
theorem aEg{log:List je}{a:Acc}{i:Nat}{r:je}(h:log[i]?=some r):replay log a i=.ok r (i+1):=by unfold replay;rw[h]
theorem aEh{log:List je}{a:Acc}{i:Nat}(h:log[i]?=none):replay log a i=.error a i:=by unfold replay;rw[h]
theorem bFf{α:Type}(log:List je)(p:ah α):∀ l:List Acc,l.length<=log.length ->
  ((go (BB log) p l).2.length<=log.length->p.run (replay log) l.length=.ok (go (BB log) p l).1 (go (BB log) p l).2.length) /\
  (∀ l' c,l'++[c] <+: (go (BB log) p l).2->l <+: l'->l'.length=log.length->p.run (replay log) l.length=.error c log.length):=by
 induction p with
 |ret a=>
  refine fun l hl=>⟨fun _=>rfl,fun l' c h1 h2 h3=>?_⟩;have h4:=h1.length_le;have h5:=h2.length_le;rw[List.length_append,List.length_singleton] at h4;have h6:(go (BB log) (ah.ret a) l).2=l:=rfl;rw[h6] at h4
  omega
 | ask a k ih=>
  intro l hl;rw[wZ];have hpre:=vG (BB log) (k (ans (BB log) (l++[a]))) (l++[a])
  have hlen:(l++[a]).length=l.length+1:=by simp
  cases hr:log[l.length]? with
  | some r=>
   have hlt:l.length<log.length:=(List.getElem?_eq_some_iff.1 hr).1
   have ha:ans (BB log) (l++[a])=r:=by unfold ans;rw[zQ,hr];rfl
   rw[ha] at hpre ⊢;obtain⟨i1,i2⟩:=ih r (l++[a]) (by omega);rw[hlen] at i1 i2
   have hrun:(ah.ask a k).run (replay log) l.length=(k r).run (replay log) (l.length+1):=by
    simp only[ah.run,aEg hr]
   rw[hrun]
   refine⟨i1,fun l' c h1 h2 h3=>i2 l' c h1 ?_ h3⟩
   exact List.prefix_of_prefix_length_le hpre ((List.prefix_append l' [c]).trans h1) (by rw[hlen];omega)
  | none=>
   have hge:log.length<=l.length:=List.getElem?_eq_none_iff.1 hr
   have hrun:(ah.ask a k).run (replay log) l.length=.error a l.length:=by
    simp only[ah.run,aEh hr]
   refine⟨fun h=>?_,fun l' c h1 h2 h3=>?_⟩
   ·have:=hpre.length_le;rw[hlen] at this;omega
   ·have hll:l'=l:=(h2.eq_of_length (by omega)).symm;subst hll;have:=List.prefix_of_prefix_length_le h1 hpre (by simp);have h4:=this.eq_of_length (by simp)
    have h5:c=a:=by simpa using h4
    rw[hrun,h5,h3]
def Us(A L:Nat)(lv:Value)(log:List je):Dv where
 hd:=.func (.func 43) #[] #[.pointer (some ⟨A,0,none⟩),.pointer (some ⟨L,0,none⟩)]
 O:=BB log
 S:=fun k=>k=A
 inv:=fun l X w=>qx A L lv log l.length X w
 pan:=fun l _ _ chain=>∃ l' c,l=l'++[c]/\l'.length<=log.length/\∃ older,Xf older/\chain={ v:=pending c,recovered:=false }::older
 one:=rfl
 oz:=rfl
 notS:=fun _ _ _ b h hb=>(h.mine b hb).2.1
 grow:=fun l X Y w w' h hc hY=>by
  have h':=h.gu hc
  refine⟨h'.at_,h'.EK,h'.reads,h'.ne,h'.own,h'.le,fun k hk=>?_⟩
  rcases hY k hk with hx|⟨h1,h2⟩
  ·exact h'.mine k hx
  ·have h3:=lt_of_heap h.at_;have h4:=lt_of_heap h.EK
   refine⟨h2,by omega,by omega,fun hn hk'=>?_⟩
   have:=h.reads.Cm (by omega) hn k hk';omega
theorem bCb(A L:Nat)(lv:Value)(log:List je):∀ {di:List Acc->Prop},ng Tryz.prog (Us A L lv log) di:=⟨fun l X w h=>by
 refine⟨_,_,rfl,(fun args w=>by kernel_rfl),fun c _ _=>?_⟩
 refine (Un A L lv log c l.length X w h _ rfl).mono ?_;intro e w' hp
 cases hr:log[l.length]? with
 | some r=>
  obtain⟨h1,h2,h3⟩:=hp.aCI (aEg hr)
  refine⟨h3,.inl ⟨r,?_,h1,?_⟩⟩
  ·exact (zQ log l c).trans hr
  ·show qx A L lv log (l++[c]).length X w';rw[List.length_append]
   exact h2
 |none=>
  obtain⟨h1,h2,h3⟩:=hp.VR (aEh hr)
  exact⟨h3,.inr ⟨_,(zQ log l c).trans hr,h1,l,c,rfl,h.le,[],(fun _ h=>by cases h),rfl⟩⟩,fun T hT=>absurd hT.1 (by intro h;cases h)⟩
end Pv
section
namespace Pv
theorem bBz(A L:Nat)(lv:Value)(log:List je):F5 (Us A L lv log):=by
 rintro l X w chain ⟨l',c,rfl,hl,older,hno,rfl⟩
 refine⟨U5,c.v,older,rfl,hno,.inl rfl,l',c,rfl,hl,{ v:=pending c,recovered:=true }::older,fun e he=>?_,rfl⟩
 rcases List.mem_cons.1 he with rfl|he
 ·rfl
 ·exact hno e he
def bIl(log:List je):Prop:=∀ r∈log,r.bytes.size<=1000000
theorem Vt{log:List je}(h:bIl log):OB (BB log):=by
 intro l r hr;unfold BB at hr
 split at hr
 ·cases hr
 ·exact h r (List.mem_of_getElem? hr)
def UA(q:EStateM.Result Acc Nat jk):Array Value:=match q with
 |.ok a _=>#[.agg #[.int .i64 0,.int .i64 0,.int .i64 0,.string aS],.agg (jw a),.bool true]
 |.error c _=>#[c.v,.agg (jw jr),.bool false]
def OM(q:EStateM.Result Acc Nat jk):Prop:=match q with
 |.ok a _=>qp a
 |.error _ _=>True
end Pv
open Pv in
theorem Ie(m:jl)(hm:uz m)(hml:yw m)(log:List je)(WL:bIl log)(lv:Value)(g:Nat)(w:World)(hM:a_ w)(hg0:ZM<g/\ZL<g)(hl:Reads w 2 lv log.length (logCells log))(hlg:0<log.length->lv.ownBlock≠some g)(hB:au w g 31 (opC m)) :
  Calls Tryz.prog 28 #[.func (.func 45) #[] #[.pointer (some ⟨g,0,none⟩)],lv] w fun e w'=>dm (fun k=>k=g) w w'/\OM ((cO m).run (replay log) 0)/\e=.returned (.tuple (UA ((cO m).run (replay log) 0))):=by
 refine (Ii 45 #[.pointer (some ⟨g,0,none⟩)] lv log (cO m) (fun k=>k=g) w hl (fun args w=>by kernel_rfl) (fun w1 hE hsz hI=>?_)).mono ?_
 ·have lg:=hB.lt
  have hI2:qx (w.heap.size+1+1+1+1) w.heap.size lv log 0 (fun k=>(k=w.heap.size+1\/k=w.heap.size+1+1\/k=w.heap.size+1+1+1)\/k=g) w1:=
   ⟨
    hI.at_,hI.EK,hI.reads,hI.ne,hI.own,hI.le,fun k hk=>by
    rcases hk with hk|rfl
    ·exact hI.mine k hk
    ·exact⟨by omega,by omega,by omega,hlg⟩⟩
  have hgr:=bFf log (cO m) [] (Nat.zero_le _);refine (aOj m hm hml w1 g (Us (w.heap.size+1+1+1+1) w.heap.size lv log) _ (hB.ext hE) (fun w' hc=>?_) (fun b hb=>?_) (bCb _ _ _ _) (fun _ _ _ _ _ _ h _ _=>h) (bBz _ _ _ _) (Vt WL) hI2 (.inr rfl)).mono ?_
  ·have hk1:=Zu hM (.inl rfl);have hk2:=Zu hM (.inr rfl);refine (hM.ext hE).gu hc ?_ ?_
   ·rintro (h|h)
    ·have h':ZM=w.heap.size+1+1+1+1:=h;omega
    ·have h':ZM=g:=h;omega
   ·rintro (h|h)
    ·have h':ZL=w.heap.size+1+1+1+1:=h;omega
    ·have h':ZL=g:=h;omega
  ·have hb':b=w.heap.size+1+1+1+1:=hb;omega
  rintro e w2 ⟨hc,hq⟩
  refine⟨hc.mono fun b _ hb=>by rcases hb with h|h;exact .inl h;exact .inr ⟨h,by omega⟩,?_⟩
  rcases hq with⟨hok,rfl,hinv⟩|⟨chain,l,rfl,h1,h2,l',c,rfl,h3,older,hno,rfl⟩
  ·exact .inl ⟨_,_,hgr.1 hinv.le,hok,rfl⟩
  ·refine .inr ⟨c,_,older,hgr.2 l' c h1 List.nil_prefix ?_,hno,rfl⟩;have h5:log[l'.length]?=none:=(zQ log l' c).symm.trans h2;have:=List.getElem?_eq_none_iff.1 h5;omega
 ·rintro e w' ⟨hc,⟨a,i,hr,hok,rfl⟩|⟨c,i,hr,rfl⟩⟩
  ·rw[hr]
   exact⟨hc,hok,rfl⟩
  ·rw[hr]
   exact⟨hc,trivial,rfl⟩
theorem aOu{tmps:Array Value}{w:World}{Ab Ob:Nat}{ac oc:Array Value}(ha:ac.size=4)(ho:oc.size=55)(h4:tmps.getD 4 undef=.pointer (some ⟨Ab,0,none⟩))(h5:tmps.getD 5 undef=.pointer (some ⟨Ob,0,none⟩))
  (hA:au w Ab 37 ac) (hO:au w Ob 40 oc) :
  (results Tryz.f10 tmps).run Tryz.prog w=.ok (.tuple #[.agg ac,.agg oc,tmps.getD 6 undef]) w:=by
 have a0:=iV hA wK ha;have b0:=iV hO iZ ho;simp only[Array.getD_eq_getD_getElem?] at h4 h5;simp[results,Tryz.results10,h4,h5,asAddr,a0,b0]
namespace Pv
def bDs(q:EStateM.Result Acc Nat jk):Acc:=match q with
 |.ok _ _=>⟨0,0,0,aS⟩
 |.error c _=>c
def TK(q:EStateM.Result Acc Nat jk):jk:=match q with
 |.ok a _=>a
 |.error _ _=>jr
def Xa(q:EStateM.Result Acc Nat jk):Bool:=match q with
 |.ok _ _=>true
 |.error _ _=>false
def OC(a:Acc):Array Value:=#[.int .i64 a.kind,.int .i64 a.ay,.int .i64 a.cell,.string a.bytes]
theorem Jd(q:EStateM.Result Acc Nat jk):UA q=#[.agg (OC (bDs q)),.agg (jw (TK q)),.bool (Xa q)]:=by cases q<;>rfl
theorem Je{q:EStateM.Result Acc Nat jk}(h:OM q):qp (TK q):=by
 cases q with
 |ok a i=>exact h
 |error c i=>exact jR
end Pv
theorem next_any(m:Pv.jl)(hm:Pv.uz m)(hml:Pv.yw m)(log:List je)(WL:Pv.bIl log)(lv:Value)(w:World)(hM:a_ w)(hl:Reads w 2 lv log.length (logCells log)) :
  Calls Tryz.prog 10 #[.agg (Pv.opC m),lv] w fun e w'=>Ext w w'/\Pv.qp (Pv.TK ((Pv.cO m).run (replay log) 0))/\e=.returned (.tuple #[.agg (Pv.OC (Pv.bDs ((Pv.cO m).run (replay log) 0))),.agg (Pv.jw (Pv.TK ((Pv.cO m).run (replay log) 0))),.bool (Pv.Xa ((Pv.cO m).run (replay log) 0))]):=by
 have Ap:=hide (show (Pv.opC m).size=102 from Pv.sF hml);have HR:=hide (fun W=>KF (Pv.opC m) W)
 have HV:Hid (∀ g W,w.heap.size<=g->Ext w W->au W g 31 (Pv.opC m)->Calls Tryz.prog 28 #[.func (.func 45) #[] #[.pointer (some ⟨g,0,none⟩)],lv] W fun e w'=>dm (fun k=>k=g) W w'/\Pv.qp (Pv.TK ((Pv.cO m).run (replay log) 0))/\e=.returned (.tuple #[.agg (Pv.OC (Pv.bDs ((Pv.cO m).run (replay log) 0))),.agg (Pv.jw (Pv.TK ((Pv.cO m).run (replay log) 0))),.bool (Pv.Xa ((Pv.cO m).run (replay log) 0))])):=hide (fun g W hg hE hB=>by
  have hk1:=Pv.Zu hM (.inl rfl);have hk2:=Pv.Zu hM (.inr rfl);refine (Ie m hm hml log WL lv g W (hM.ext hE) ⟨by omega,by omega⟩ (hl.ext hE) (fun h0 hk=>?_) hB).mono ?_
  ·have:=hl.Cm (by omega) h0 _ hk;omega
  ·rintro e w' ⟨h1,h2,rfl⟩
   exact⟨h1,Pv.Je h2,by rw[Pv.Jd]⟩)
 obtain⟨q,hq⟩:∃ q,(Pv.cO m).run (replay log) 0=q:=⟨_,rfl⟩;rw[hq] at HV ⊢;obtain⟨mrr,LH⟩:∃ x,Pv.opC m=x:=⟨_,rfl⟩;rw[LH] at Ap HR HV ⊢;obtain⟨oc,hoc⟩:∃ x,Pv.jw (Pv.TK q)=x:=⟨_,rfl⟩;obtain⟨ac,hac⟩:∃ x,Pv.OC (Pv.bDs q)=x:=⟨_,rfl⟩
 have aEB:ac.size=4:=by rw[<-hac];rfl
 have aOC:ac.all (·.oneCell')=true:=by rw[<-hac,<-Array.all_toList];rfl
 rw[hoc,hac] at HV ⊢;have HO:=hide hoc;obtain⟨_,B,c,rfl,_,_,_⟩:=hl;clear LH hM hm hml hq hoc hac
 go_enter Tryz.func10,Tryz.ntmps10
 go_upto_region 1 with fail
 generalize hW0:World.alloc _ (.cells _ 40)=W0
 have z1:Ext w W0:=by
  rw[<-hW0]
  repeat' (first|(with_reducible exact dm.refl _ _)|(with_reducible exact Ext.refl _)|(with_reducible assumption)|(with_reducible refine dm.alloc ?_ _)|(with_reducible refine dm.drew ?_)|(with_reducible refine dm.drewN ?_ _)|(with_reducible refine dm.setCell ?_ ?_ _)|(with_reducible refine Ext.alloc ?_ _)|(with_reducible refine Ext.drew ?_)|(with_reducible refine Ext.drewN ?_ _)|(with_reducible refine Ext.setCell ?_ ?_ _)|(simp;done)|(simp;omega)|omega)
 have z2:au W0 w.heap.size 31 mrr:=by rw[<-hW0];exact ((au.new w _ _).alloc _).alloc _
 have z5:au W0 (w.heap.size+1) 37 #[.int .i64 0,.int .i64 0,.int .i64 0,.string { data:=#[] }]:=by rw[<-hW0];exact (au.new' _ _ _ (by simp)).alloc _
 have z6:au W0 (w.heap.size+1+1) 40 (Pv.jw Pv.jr):=by rw[<-hW0];exact au.new' _ _ _ (by simp)
 have z7:W0.heap.size=w.heap.size+3:=by rw[<-hW0];simp
 have HZ:=hide (And.intro z1 (And.intro z2 (And.intro z5 (And.intro z6 z7))));clear hW0 z1 z2 z5 z6 z7
 go_wp2_with (refine dL (ty:=31) (t:=31) (x:=.tmp 2) rfl rfl Pv.aLf rfl (cs:=mrr) (aA HZ).2.1 (aA Ap) ?_)
 refine (aA HR W0).mono ?_;rintro e w1 ⟨rfl,k1,k2,k3⟩;have H1:=hide (And.intro k1 (And.intro k2 k3));clear k1 k2 k3
 go_wp2_with fail
 obtain⟨z1,z2,z5,z6,z7⟩:=aA HZ;obtain⟨k1,k2,k3⟩:=aA H1;refine (aA HV W0.heap.size w1 (by omega) (z1.trans k1) k3).mono ?_;rintro e w2 ⟨hc,hok,rfl⟩;have HA:=hide (show Ext w w2/\au w2 (w.heap.size+1) 37 #[.int .i64 0,.int .i64 0,.int .i64 0,.string { data:=#[] }]/\au w2 (w.heap.size+1+1) 40 (Pv.jw Pv.jr)/\Pv.qp (Pv.TK q) from⟨(z1.trans k1).trans' hc (fun _ _ h=>h) (fun i hi e=>by omega),(z5.ext k1).gu hc (by omega),(z6.ext k1).gu hc (by omega),hok⟩);clear z1 z2 z5 z6 z7 k1 k2 k3 hc hok HZ H1 HV HR Ap
 go_wp2_with (first
  |(refine aT (ty:=37) (t:=37) (x:=.tmp 4) (y:=.tmp 11) rfl rfl wK rfl rfl (aA HA).2.1 rfl aEB aOC ?_;intro w3 hb3 hc3 hz3;have H3:=hide (And.intro hb3 (And.intro hc3 hz3));clear hb3 hc3 hz3)
  |(refine aT (ty:=40) (t:=40) (x:=.tmp 5) (y:=.tmp 12) rfl rfl iZ rfl rfl ((aA HA).2.2.1.gu (aA H3).2.1 (by omega)) (Pv.dS Pv.jR) (by rw[<-aA HO];exact Pv.dS (aA HA).2.2.2) (by rw[<-aA HO];exact Pv.lV _) ?_;intro w4 hb4 hc4 CP;have H4:=hide (And.intro hb4 (And.intro hc4 CP));clear hb4 hc4 CP))
 obtain⟨x1,_,_,hok⟩:=aA HA;obtain⟨b3,c3,s3⟩:=aA H3;obtain⟨b4,c4,s4⟩:=aA H4;have hoc:=aA HO;refine bodyPost_ret (aOu aEB (by rw[<-hoc];exact Pv.dS hok) rfl rfl (b3.gu c4 (by omega)) b4) rfl ⟨?_,hok,rfl⟩;exact (x1.trans' c3 (fun _ _ h=>h) (fun i hi e=>by omega)).trans' c4 (fun _ _ h=>h) (fun i hi e=>by omega)
end
namespace Pv
theorem TD(C:Ctx)(a:Acc):RL C (tN a) (OC a).toList:=.cons (xs:=[_]) (.lit rfl) (.cons (xs:=[_]) (.lit rfl) (.cons (xs:=[_]) (.lit rfl) (.cons (xs:=[_]) (.lit rfl) .nil)))
def VX(q:EStateM.Result Acc Nat jk):PV:=.lw [.agg (tN (bDs q)),.agg (h_ (TK q)),.one (.lit (.bool (Xa q)))]
def Jf:List PV->Option (Prop×PV)
 |[.w (.agg ol),.w (.one lv)]=>match bHt ol,Uw lv with
  |some m,some (p,log)=>some (p/\uz m/\bIl log,VX ((cO m).run (replay log) 0))
  |_,_=>none
 |_=>none
theorem bDr:aj Tryz.prog a_ 10 (bD true Jf):=by
 refine bC (aF Tryz.func10 (by kernel_rfl) rfl) (fun xs p r hg hp w ok0 vs hI hv=>?_);unfold Jf at hg
 split at hg
 ·rename_i ol lv
  split at hg
  ·rename_i m p1 log em e1;cases hg;obtain⟨q1,q2,q3⟩:=hp
   match vs,hv with
   | [v1,v2],⟨k1,k2,_⟩=>
    cases k1 with
    | w k1=>cases k1 with
     | @agg _ c1 k1=>
      cases k2 with
      | w k2=>cases k2 with
       |one k2=>
        rw[aMn em] at k1;obtain⟨h1,hid,hbt⟩:=aVj k1;have ec:c1=opC m:=Array.ext' h1;subst ec;refine (next_any m q2 ⟨q2.root,hid,q2.link,q2.ot,q2.xt,hbt⟩ log q3 v2 w hI (PX e1 q1 k2)).mono ?_;rintro e w' ⟨hE,hok,rfl⟩
        refine⟨_,rfl,hE,.lw rfl (fun i x hx=>?_)⟩
        match i,hx with
        |0,hx=>cases hx;exact⟨_,rfl,.agg (TD _ _)⟩
        |1,hx=>cases hx;exact⟨_,rfl,.agg (bDh _ hok)⟩
        |2,hx=>cases hx;exact⟨_,rfl,.one (.lit rfl)⟩
        |i+3,hx=>cases hx
  ·cases hg
 ·cases hg
def yg(k:Nat):List UInt8:=UInt8.ofNat k::List.replicate 15 0
def Qs(k:Nat):List UInt8:=yg (k+1)
def bZ(k:Nat):List UInt8:=100::UInt8.ofNat k::List.replicate 14 0
def zh(k:Nat)(kind:Int):jl:=⟨kind,bZ k,Qs k,yg 7,aS,yh,0,yh,0,0,aS,yh⟩
theorem WB(k:Nat)(hk:k<=2):gQ Tryz.prog a_ 26 true [iy k] (.w (.agg [.bs 16 (Qs k)])):=by
 have hc:k=0\/k=1\/k=2:=by omega
 rcases hc with rfl|rfl|rfl
 ·have M:=Fq (I:=a_);refine bM Tryz.func26 rfl rfl bU (fun A hS hn hI=>?_);refine aB M hI hn (by rfl) (by kernel_rfl) ?_ ?_
  ·simp
  refine aB M hI hn (by rfl) (by kernel_rfl) ?_ ?_
  ·simp
   decide
  refine aK (fun a w hg=>⟨.inr rfl,_,?_,hg⟩);refine aC (by rfl) (by simp) (by rfl) (by rfl) ?_;rfl
 ·have M:=Fq (I:=a_);refine bM Tryz.func26 rfl rfl bU (fun A hS hn hI=>?_);refine aB M hI hn (by rfl) (by kernel_rfl) ?_ ?_
  ·simp
  refine aB M hI hn (by rfl) (by kernel_rfl) ?_ ?_
  ·simp
   decide
  refine aK (fun a w hg=>⟨.inr rfl,_,?_,hg⟩);refine aC (by rfl) (by simp) (by rfl) (by rfl) ?_;rfl
 ·have M:=Fq (I:=a_);refine bM Tryz.func26 rfl rfl bU (fun A hS hn hI=>?_);refine aB M hI hn (by rfl) (by kernel_rfl) ?_ ?_
  ·simp
  refine aB M hI hn (by rfl) (by kernel_rfl) ?_ ?_
  ·simp
   decide
  refine aK (fun a w hg=>⟨.inr rfl,_,?_,hg⟩);refine aC (by rfl) (by simp) (by rfl) (by rfl) ?_;rfl
def idG:List PV->Option (Prop×PV)
 |[.w (.one (.lit (.int .i64 k)))]=>some (0<=k/\k<=2,.w (.agg [.bs 16 (Qs k.toNat)]))
 |_=>none
theorem bEx:aj Tryz.prog a_ 26 (bD true idG):=by
 refine bC (aF Tryz.func26 (by kernel_rfl) rfl) (fun xs p r hg hp=>?_);unfold idG at hg
 split at hg
 ·rename_i k;cases hg;obtain⟨n,rfl⟩:∃ n:Nat,k=(n:Int):=⟨k.toNat,by omega⟩;exact WB n (by omega)
 ·cases hg
def aMP:List (Nat×Spec):=[(26,bD true idG)]
theorem VK:lm Tryz.prog a_ (find aMP):=⟨bV (fun p hp=>by
 obtain rfl:=List.mem_singleton.1 hp
 exact bEx),fK⟩
theorem QE(k:Nat)(hk:k<=2)(kind:Int):gQ Tryz.prog a_ 14 true [iy k,iy kind] (.w (.agg (zo (zh k kind)))):=by
 have hc:k=0\/k=1\/k=2:=by omega
 rcases hc with rfl|rfl|rfl
 ·have M:=VK;refine bM Tryz.func14 rfl rfl bU (fun A hS hn hI=>?_);refine aB M hI hn (by rfl) (by kernel_rfl) ?_ ?_
  ·simp
  refine aB M hI hn (by rfl) (by kernel_rfl) ?_ ?_
  ·simp
   try decide
  refine aK (fun a w hg=>⟨.inr rfl,_,?_,hg⟩);refine aC (by rfl) (by simp) (by rfl) (by rfl) ?_;rfl
 ·have M:=VK;refine bM Tryz.func14 rfl rfl bU (fun A hS hn hI=>?_);refine aB M hI hn (by rfl) (by kernel_rfl) ?_ ?_
  ·simp
  refine aB M hI hn (by rfl) (by kernel_rfl) ?_ ?_
  ·simp
   try decide
  refine aK (fun a w hg=>⟨.inr rfl,_,?_,hg⟩);refine aC (by rfl) (by simp) (by rfl) (by rfl) ?_;rfl
 ·have M:=VK;refine bM Tryz.func14 rfl rfl bU (fun A hS hn hI=>?_);refine aB M hI hn (by rfl) (by kernel_rfl) ?_ ?_
  ·simp
  refine aB M hI hn (by rfl) (by kernel_rfl) ?_ ?_
  ·simp
   try decide
  refine aK (fun a w hg=>⟨.inr rfl,_,?_,hg⟩);refine aC (by rfl) (by simp) (by rfl) (by rfl) ?_;rfl
def JO:List PV->Option (Prop×PV)
 |[.w (.one (.lit (.int .i64 k))),.w (.one (.lit (.int .i64 kind)))]=>some (0<=k/\k<=2,.w (.agg (zo (zh k.toNat kind))))
 |_=>none
theorem aKz:aj Tryz.prog a_ 14 (bD true JO):=by
 refine bC (aF Tryz.func14 (by kernel_rfl) rfl) (fun xs p r hg hp=>?_);unfold JO at hg
 split at hg
 ·rename_i k kind;cases hg;obtain⟨n,rfl⟩:∃ n:Nat,k=(n:Int):=⟨k.toNat,by omega⟩;exact QE n (by omega) kind
 ·cases hg
def Ur:List (Nat×Spec):=[(15,bD false bEa)]
theorem Uo:lm Tryz.prog a_ (find Ur):=⟨bV (fun p hp=>by
 obtain rfl:=List.mem_singleton.1 hp
 exact aEv),fK⟩
def bCa(q:Option jk×j_×Nat):PV:=.lw [.agg (m_ q.2.1),.agg (h_ (bG q.1))]
def Vs(q:Option jk×j_×Nat):St:=⟨[(4,none,dn (.pt 2 0 0)),(5,none,dn (.pt 3 0 0)),(6,none,dn (.pt 1008 0 0)),(7,none,dn (.pt 1009 0 0))],
 [(2,none,0,.box 65 [.lit (.slice none 0 0),.lit (.slice none 0 0),.bs 16 (List.replicate 16 0)]),(3,none,0,.box 40 (h_ jr)),(1008,none,0,.box 65 (m_ q.2.1)),(1009,none,0,.box 40 (h_ (bG q.1)))]⟩
theorem KY(h:j_)(m:jl)(hd:o6 h)(hm:uz m):gQ Tryz.prog a_ 20 false [.w (.agg (m_ h)),.w (.agg (zo m))] (bCa (dK [] (cO m) h 0)):=by
 have M:=Uo;refine bM Tryz.func20 rfl rfl bU (fun A hS hn hI=>?_);obtain⟨q,hq⟩:∃ q,dK [] (cO m) h 0=q:=⟨_,rfl⟩;rw[hq];refine aB M hI hn (by rfl) (by kernel_rfl) ?_ ?_
 ·simp
 refine aB M hI hn (by rfl) (by kernel_rfl) ?_ ?_
 ·simp
  exact⟨hd,hm⟩
 refine aI (s':=Vs q) (fun a w hg=>(hg.reset (kT:=[4,5,6,7]) (kO:=[2,3,1008,1009]) (by rfl) (by simp)).same ?_ ?_) ?_
 ·exact .cons rfl (.cons rfl (.cons rfl (.cons rfl .nil)))
 ·have e:(⟨bF h.b.length (bJ h.b),iP h.f.length (r_ h.f),h.r⟩:j_)=h:=by rw[aG,bK]
  refine .cons (.box rfl) (.cons (.box rfl) (.cons (.box ?_) (.cons (.box ?_) .nil)))
  ·rw[<-hq];change m_ (dK [] (cO m) (⟨bF h.b.length (bJ h.b),iP h.f.length (r_ h.f),h.r⟩:j_) 0).2.1=_;rw[e]
  ·rw[<-hq];change h_ (bG (dK [] (cO m) (⟨bF h.b.length (bJ h.b),iP h.f.length (r_ h.f),h.r⟩:j_) 0).1)=_;rw[e]
 refine aB M hI hn (by rfl) (by kernel_rfl) ?_ ?_
 ·simp
 refine aK (fun a w hg=>⟨.inr rfl,_,?_,hg⟩);refine aC (by rfl) (by simp) (by rfl) (by rfl) ?_;rfl
def aLg:List PV->Option (Prop×PV)
 |[.w (.agg hl),.w (.agg ol)]=>match Ag hl,bHt ol with
  |some (p,h),some m=>some (p/\o6 h/\uz m,bCa (dK [] (cO m) h 0))
  |_,_=>none
 |_=>none
theorem aOz:aj Tryz.prog a_ 20 (bD false aLg):=by
 refine bC (aF Tryz.func20 (by kernel_rfl) rfl) (fun xs p r hg hp=>?_);unfold aLg at hg
 split at hg
 ·rename_i hl ol
  split at hg
  ·rename_i p1 h m e1 em;cases hg;obtain⟨q1,q2,q3⟩:=hp;rw[aMn em]
   exact (KY h m q2 q3).args fun C vs hv=>by
    match vs,hv with
    | [x,y],⟨h0,h1,_⟩=>
     refine⟨?_,h1,trivial⟩
     cases h0 with
     |w h3=>cases h3 with
      |agg h4=>exact .w (.agg (xX e1 q1 h4))
  ·cases hg
 ·cases hg
structure EvS where
 dev:Int
 kind:Int
 replay:Int
 msg:Int
 cut:Int
 iw:Bool
def evL(e:EvS):List PC:=[.lit (.int .u8 e.dev),.lit (.int .u8 e.kind),.lit (.int .u8 e.replay),.lit (.int .u8 e.msg),.lit (.int .u8 e.cut),.lit (.bool e.iw)]
structure aHU(e:EvS):Prop where
 dev:0<=e.dev/\e.dev<256
 kind:0<=e.kind/\e.kind<256
 replay:0<=e.replay/\e.replay<256
 msg:0<=e.msg/\e.msg<256
 cut:0<=e.cut/\e.cut<256
def TG(e:EvS)(i:Nat):lu:=if 0<e.cut/\(i:Int)=e.cut-1 then⟨true,e.replay,e.iw⟩ else⟨false,0,e.iw⟩
def kG(e:EvS):List lu:=(List.range 250).map (TG e)
def tK(e:EvS)(k:Nat):List lu:=(List.range 250).map fun i=>if i<k then TG e i else tu
theorem aCc(e:EvS)(k:Nat):(tK e k).length=250:=by simp[tK]
theorem aWd(e:EvS)(k i:Nat)(h:i<250):(tK e k).getD i tu=if i<k then TG e i else tu:=by
 unfold tK;rw[zG,List.getElem?_map,List.getElem?_range h];rfl
theorem aFt(e:EvS)(k i:Nat):(tK e k)[i]?=if i<250 then some (if i<k then TG e i else tu) else none:=by
 unfold tK;rw[List.getElem?_map]
 by_cases h:i<250
 ·rw[List.getElem?_range h,if_pos h];rfl
 ·rw[List.getElem?_eq_none (by simp;omega),if_neg h];rfl
theorem aJb(e:EvS){k:Nat}(hk:k<250):(tK e k).set k (TG e k)=tK e (k+1):=by
 apply List.ext_getElem?;intro i;rw[List.getElem?_set,aFt,aFt,aCc]
 by_cases h:k=i
 ·subst h;rw[if_pos rfl,if_pos hk,if_pos hk,if_pos (by omega)]
 ·rw[if_neg h]
  by_cases h2:i<250
  ·rw[if_pos h2,if_pos h2]
   by_cases h3:i<k
   ·rw[if_pos h3,if_pos (by omega)]
   ·rw[if_neg h3,if_neg (by omega)]
  ·rw[if_neg h2,if_neg h2]
theorem bGf(e:EvS):tK e 250=kG e:=by
 apply List.ext_getElem?;intro i;rw[aFt];unfold kG;rw[List.getElem?_map]
 by_cases h:i<250
 ·rw[List.getElem?_range h,if_pos h,if_pos h];rfl
 ·rw[List.getElem?_eq_none (by simp;omega),if_neg h];rfl
def aER(e:EvS)(F:List lu):Wr:=[(0,none,0,.box 46 (evL e)),(1000,none,0,.arr 104 3 250 (uw F))]
def aEQ(k:Nat):List (Nat×Option Bool×PV):=[(1,none,dn (.pt 0 0 0)),(3,none,dn (.ow 1000 0 3 0 250)),(4,none,iy k)]
def Eo(e:EvS)(F:List lu)(k:Nat):St:=⟨aEQ k,aER e F⟩
theorem oW{F:List lu}{k i:Nat}(t:lu)(h:¬i=k):(F.set k t).getD i tu=F.getD i tu:=by
 rw[zG,List.getElem?_set_ne (fun e=>h e.symm),<-zG]
theorem lM{F:List lu}{k:Nat}(t:lu)(h:k<F.length):(F.set k t).getD k tu=t:=by
 rw[zG,List.getElem?_set_self h];rfl
theorem Rj(e:EvS)(he:aHU e):gQ Tryz.prog a_ 16 true [.w (.agg (evL e))] (dn (.sl 3 250 (uw (kG e)))):=by
 have M:=Vr
 have hs1:Tryz.prog.types[104].size=3:=by kernel_rfl
 refine bM Tryz.func16 rfl rfl bU (fun A hS hn hI=>?_)
 have hb1:Tryz.prog.types[104].bytes=24:=by kernel_rfl
 refine aB M hI hn (by rfl) (by kernel_rfl) ?_ ?_
 ·simp
 refine aB M hI hn (by rfl) (by kernel_rfl) ?_ ?_
 ·simp;rw[hb1];omega
 refine aP ?_;refine aB M hI hn (by rfl) (by kernel_rfl) ?_ ?_
 ·simp
 refine aI (s':=Eo e (tK e 0) 0) (fun a w hg=>(hg.reset (kT:=[1,3,4]) (kO:=[0,1000]) (by rfl) (by simp;exact fun i _=>⟨rfl,rfl,rfl⟩)).same ?_ ?_) ?_
 ·exact .cons rfl (.cons (by kernel_rfl) (.cons rfl .nil))
 ·refine .cons (.box rfl) (.cons (.arr rfl (fun i hi=>?_)) .nil);have hi2:i<250:=hi;unfold uw;rw[aWd e 0 i hi2,if_neg (by omega)];rfl
 refine bP ?_;refine iY 250 (fun k t=>t=Eo e (tK e k) k) 0 rfl (by omega) (fun k t hJ hk=>?_);subst hJ;refine aP ?_;refine aB M hI hn (by rfl) (by kernel_rfl) ?_ ?_
 ·simp
 refine aH (by rfl) (fun hc=>?_) (fun hc=>?_)
 ·have hk2:k<250:=by have:=of_decide_eq_true hc;omega
  have hfk:(tK e k).getD k tu=tu:=by rw[aWd e k k hk2,if_neg (by omega)]
  refine aO ?_;change ja _ _ _ _ _;refine aP ?_;refine bP ?_;refine aB M hI hn (by rfl) (by kernel_rfl) ?_ ?_
  ·simp;omega
  have hl:k<(tK e k).length:=by rw[aCc];exact hk2
  refine aI (s':=Eo e ((tK e k).set k ⟨false,0,e.iw⟩) k) (fun a w hg=>(hg.reset (kT:=[1,3,4]) (kO:=[0,1000]) (by rfl) (by simp;exact fun i _=>by split<;>simp[uw,oL,dG,PW.cells])).same ?_ ?_) ?_
  ·exact .cons rfl (.cons rfl (.cons rfl .nil))
  ·refine .cons (.box rfl) (.cons (.arr rfl (fun i hi=>?_)) .nil);change (if i=0+(k:Int).toNat then _ else _)=_;rw[Int.toNat_natCast,Nat.zero_add]
   split
   ·rename_i h;subst h;unfold uw oL;rw[lM _ hl,hfk];rfl
   ·rename_i h;unfold uw;simp only[oW _ h]
  refine aB M hI hn (by rfl) (by kernel_rfl) ?_ ?_
  ·simp
  obtain⟨b,hb⟩:∃ b,(bif decide (e.cut > 0) then (k:Int)==IntKind.i64.wrap (IntKind.i64.wrap e.cut-1) else false)=b:=⟨_,rfl⟩;refine aI (s':=⟨(28,none,qi b)::aEQ k,aER e ((tK e k).set k ⟨false,0,e.iw⟩)⟩) (fun a w hg=>(hg.reset (kT:=[28,1,3,4]) (kO:=[0,1000]) (by rfl) (by simp;exact fun i _=>by simp[uw,oL,dG])).same ?_ ?_) ?_
  ·exact .cons (congrArg qi hb) (.cons rfl (.cons rfl (.cons rfl .nil)))
  ·exact .cons (.box rfl) (.cons (.arr rfl (fun i hi=>rfl)) .nil)
  have hcut:=he.cut
  have hw1:IntKind.i64.wrap (IntKind.i64.wrap e.cut-1)=e.cut-1:=by rw[IntKind.wrap_i64,IntKind.wrap_i64];omega
  rw[hw1] at hb
  have hl2:k<((tK e k).set k (⟨false,0,e.iw⟩:lu)).length:=by rw[List.length_set];exact hl
  refine aH (by rfl) (fun hc=>?_) (fun hc=>?_)
  ·have hcc:0<e.cut/\(k:Int)=e.cut-1:=by
    rw[hc] at hb
    cases h1:decide (e.cut > 0) with
    |false=>rw[h1] at hb;cases hb
    |true=>rw[h1] at hb;exact⟨of_decide_eq_true h1,by simpa using hb⟩
   have hev:TG e k=⟨true,e.replay,e.iw⟩:=if_pos hcc;refine aB M hI hn (by rfl) (by kernel_rfl) ?_ ?_
   ·simp;omega
   refine aI (s':=Eo e (((tK e k).set k ⟨false,0,e.iw⟩).set k ⟨true,0,e.iw⟩) k) (fun a w hg=>(hg.reset (kT:=[1,3,4]) (kO:=[0,1000]) (by rfl) (by simp;exact fun i _=>by split<;>simp[uw,oL,dG,PW.cells])).same ?_ ?_) ?_
   ·exact .cons rfl (.cons rfl (.cons rfl .nil))
   ·refine .cons (.box rfl) (.cons (.arr rfl (fun i hi=>?_)) .nil);change (if i=0+(k:Int).toNat then _ else _)=_;rw[Int.toNat_natCast,Nat.zero_add]
    split
    ·rename_i h;subst h;unfold uw oL;rw[lM _ hl2,lM _ hl];rfl
    ·rename_i h;unfold uw;simp only[oW _ h]
   have hl3:k<(((tK e k).set k (⟨false,0,e.iw⟩:lu)).set k (⟨true,0,e.iw⟩:lu)).length:=by rw[List.length_set];exact hl2
   refine aQ M hI hn (by rfl) (by kernel_rfl) ?_ ?_
   ·simp;omega
   change ja _ _ _ _ _;refine aQ M hI hn (by rfl) (by kernel_rfl) ?_ ?_
   ·simp
   intro a w hg
   refine⟨k+1,_,by omega,by omega,rfl,(hg.reset (kT:=[1,3,4]) (kO:=[0,1000]) (by rfl) (by simp;exact fun i _=>by split<;>simp[uw,oL,dG,PW.cells])).same ?_ ?_⟩
   ·exact .cons rfl (.cons rfl (.cons (by rw[gU k (by omega)]) .nil))
   ·rw[<-aJb e hk2,hev];refine .cons (.box rfl) (.cons (.arr rfl (fun i hi=>?_)) .nil);change (if i=0+(k:Int).toNat then _ else _)=_;rw[Int.toNat_natCast,Nat.zero_add];have hwr:=he.replay
    split
    ·rename_i h;subst h;unfold uw oL;rw[lM _ hl,lM _ hl2]
     have:IntKind.i64.wrap e.replay=e.replay:=by rw[IntKind.wrap_i64];omega
     rw[this];rfl
    ·rename_i h;unfold uw;rw[oW _ h,oW _ h,oW _ h]
  ·have hcc:¬(0<e.cut/\(k:Int)=e.cut-1):=fun h=>by
    rw[hc,decide_eq_true h.1] at hb;rw[h.2] at hb;simp at hb
   have hev:TG e k=⟨false,0,e.iw⟩:=if_neg hcc;refine aO ?_;change ja _ _ _ _ _;refine aQ M hI hn (by rfl) (by kernel_rfl) ?_ ?_
   ·simp
   intro a w hg
   refine⟨k+1,_,by omega,by omega,rfl,(hg.reset (kT:=[1,3,4]) (kO:=[0,1000]) (by rfl) (by simp;exact fun i _=>by simp[uw,oL,dG])).same ?_ ?_⟩
   ·exact .cons rfl (.cons rfl (.cons (by rw[gU k (by omega)]) .nil))
   ·rw[<-aJb e hk2,hev];exact .cons (.box rfl) (.cons (.arr rfl (fun i hi=>rfl)) .nil)
 ·have hk2:k=250:=by have:=of_decide_eq_false hc;omega
  subst hk2;refine iM ?_;change ja _ _ _ _ _;refine aB M hI hn (by rfl) (by kernel_rfl) ?_ ?_
  ·simp
  refine aK (fun a w hg=>⟨.inr rfl,_,?_,hg⟩);refine kK (by rfl) (by simp) (by rfl) ?_;refine .w (.one (.row rfl trivial (by omega) (fun i hi=>?_) (fun i hi=>?_)))
  ·rw[Nat.zero_add,bGf]
  ·rfl
def Ru:List PC->Option EvS
 |[.lit (.int .u8 a),.lit (.int .u8 b),.lit (.int .u8 c),.lit (.int .u8 d),.lit (.int .u8 x),.lit (.bool n)]=>some ⟨a,b,c,d,x,n⟩
 |_=>none
theorem Rt{l:List PC}{e:EvS}(h:Ru l=some e):l=evL e:=by
 unfold Ru at h
 split at h
 ·cases h;rfl
 ·cases h
def Wq:List PV->Option (Prop×PV)
 |[.w (.agg l)]=>(match Ru l with
  |some e=>some (aHU e,dn (.sl 3 250 (uw (kG e))))
  |none=>none)
 |_=>none
theorem MG:aj Tryz.prog a_ 16 (bD true Wq):=by
 refine bC (aF Tryz.func16 (by kernel_rfl) rfl) (fun xs p r hg hp=>?_);unfold Wq at hg
 split at hg
 ·rename_i l
  cases hq:Ru l with
  |none=>rw[hq] at hg;cases hg
  |some e=>
   rw[hq] at hg;cases hg;rw[Rt hq];exact Rj e hp
 ·cases hg
section
variable {P:Program} {I:World->Prop}
def Xd(P:Program)(I:World->Prop)(f:Nat)(t:TypeId)(l:List PC):Prop:=
 ∀ w:World,I w->Calls P f #[] w fun e w'=>∃ g cs,e=.returned (.pointer (some ⟨g,0,none⟩))/\Ext w w'/\w.heap.size<=g/\g<w'.heap.size/\au w' g t cs/\RL { w:=w',ok:=fun b=>w.heap.size<=b/\b≠g,env:=fun _=>none } l cs.toList
def newSpec(t:TypeId)(l:List PC):Spec:=fun nm xs=>match xs with
 |[]=>.new nm (.box t l) fun v=>.ret (dn (.pt nm v 0))
 |_=>.fail
theorem aIn{f:Nat}{t:TypeId}{l:List PC}(hent:∀ args w,(callFunc f args).run P w=.ok (.enter f args) w)(hg:Xd P I f t l):aj P I f (newSpec t l):=by
 refine⟨hent,fun A s a w env nm uq vs F h hI hv hk=>?_⟩
 unfold newSpec at hk
 split at hk
 ·match vs,hv with
  | [],_=>
   refine (hg w (hI.mem w h.gu)).mono ?_;rintro e w' ⟨g,cs,rfl,hE,h1,h2,h3,h4⟩
   have hno:∀ b,b<w'.heap.size->(w.heap.size<=b/\b≠g)->∀ x ai hd,vz env nm (fresh s nm) (iK g) x=some (ai,hd)->hblk hd≠some b:=by
    intro b hb hok x ai hd he' hbl
    by_cases hx:x=nm
    ·subst hx;rw[iE] at he'
     cases he'
     cases hbl;exact hok.2 rfl
    ·rw[jU hx] at he';have:=(h.live x ai hd b he' hbl).1;have:=hok.1;omega
   obtain⟨h5,h6⟩:=h.new (w':=w') nm none (iK g) (.box t l) hE (fun b hb=>by cases hb;exact⟨h2,h1⟩) (fun hle _=>⟨g,cs,rfl,h3,h4.le ⟨Nat.le_refl _,fun b hb hok=>⟨⟨.inr (Nat.le_trans h.gu.size hok.1),hno b hb hok⟩,rfl⟩,fun _ _ _ h=>by cases h⟩⟩);exact .inl ⟨_,_,_,_,rfl,hk,h5,.w (.one (.pt ⟨_,_,rfl⟩ ⟨_,_,iE _ _ _ _,Nat.le_refl _,fun _=>⟨_,rfl,rfl⟩⟩))⟩
 ·exact hk.elim
def RQN(P:Program)(A:kz)(fn:Func)(t:TypeId)(l:List PC):Exit->Act->World->Prop
 |.panic chain,a,w=>a.defers=A.ds/\DF A chain w
 |e,a,w=>(e=.normal\/e=.ret)/\∃ s x out,(Az P fn.results).run none s=some out/\All out.conds/\out.wr=[]/\out.val=dn (.pt x 0 0)/\Nat.blt x dx=true/\find s.o x=some (none,0,.box t l)/\l.all (dG false)=true/\o7 A s a w
theorem JH(P:Program)(A:kz)(fn:Func)(t:TypeId)(l:List PC):Bv A (RQN P A fn t l):=fun _ _ _ hd h=>⟨hd,h⟩
theorem bFm{f:Nat}{fn:Func}{c:Code}{t:TypeId}{l:List PC}(hf:P.funcs[f]?=some fn)(hb:fn.body=some c)(hI:∀ w w',Ext w w'->I w->I w')
  (hT:∀ A:kz,A.S=Non->A.nt=fn.ntmps->mi P I A->ja P A ⟨[],[]⟩ c (RQN P A fn t l)):Xd P I f t l:=by
 intro w WY
 have hg:o7 (kz.plain w (fun _=>False) fn.ntmps) ⟨[],[]⟩ { tmps:=#[]++Array.replicate (fn.ntmps-0) undef,defers:=[] } w:=by
  refine⟨fun _=>none,{ gu:=dm.refl _ _,size:=?_,dom:=fun x _=>rfl,ji:=fun x g ai o h=>(by cases h),live:=fun x ai hd b h=>(by cases h),inj:=fun x y v1 h1 v2 h2 b h=>(by cases h),tmps:=fun t g pv h hgt=>(by cases h),defers:=rfl,und:=fun t pv h=>(by cases h),l_:=fun x hd h=>(by cases h),dev:=fun g ai O di l h=>(by cases h) }⟩
  simp[kz.plain]
 refine calls_of_wp hf hb (wp_mono (hT (kz.plain w (fun _=>False) fn.ntmps) rfl rfl (mi.plain fun w' hc=>hI w w' hc WY) _ w hg (JH _ _ _ _ _)) (fun e a' w' he=>?_))
 have he':(e=.normal\/e=.ret)/\∃ s x out,(Az P fn.results).run none s=some out/\All out.conds/\out.wr=[]/\out.val=dn (.pt x 0 0)/\Nat.blt x dx=true/\find s.o x=some (none,0,.box t l)/\l.all (dG false)=true/\o7 (kz.plain w (fun _=>False) fn.ntmps) s a' w':=by
  cases e with
  |panic chain=>obtain⟨_,l,hl,_⟩:=he;exact hl.elim
  |_=>exact he
 obtain⟨h1,s,x,out,k1,k2,k3,k4,kx,k5,k6,env,hE⟩:=he';have hok:(Az P fn.results).ok none s (fun _ v' wr=>v'=dn (.pt x 0 0)/\wr=[]):=M.yc _ none s out _ k1 (fun p hp=>k2.mem p hp) ⟨k4,k3⟩;obtain⟨v',val,h5,h6,h7,_⟩:=uP hE hok;subst h7;obtain⟨hd,hev,hob⟩:=hE.ji x none 0 _ k5;obtain⟨g,cs,rfl,hB,hR⟩:=hob trivial
 have hval:val=.pointer (some ⟨g,0,none⟩):=by
  cases h6 with
  | w h6=>cases h6 with
   | one h6=>cases h6 with
    |pt j1 j2=>
     obtain⟨vr,hd',e1,_,e3⟩:=j2;have e1':env x=some (vr,hd'):=e1;rw[hev] at e1'
     cases e1'
     obtain⟨g',e4,e5⟩:=e3 rfl;cases e4;exact e5
 subst hval;have hl:=hE.live x 0 _ g hev rfl;have hold:w.heap.size<=g:=hl.2.resolve_right (fun hs=>hs.1.elim)
 have:a'.defers=[]/\∃ v,(results fn a'.tmps).run P w'=.ok v w'/\∃ g cs,Ending.returned v=.returned (.pointer (some ⟨g,0,none⟩))/\Ext w w'/\w.heap.size<=g/\g<w'.heap.size/\au w' g t cs/\RL { w:=w',ok:=fun b=>w.heap.size<=b/\b≠g,env:=fun _=>none } l cs.toList:=
  ⟨hE.defers,_,h5,g,cs,rfl,hE.gu,hold,hl.1,hB,(jF hR k6).le ⟨Nat.le_refl _,fun b hb hok=>⟨⟨hok.1.resolve_left id,fun e=>hok.2 x 0 _ hev (by rw[e];rfl)⟩,rfl⟩,fun _ _ _ h=>by cases h⟩⟩
 rcases h1 with rfl|rfl<;>exact this
end
section
variable {P:Program} {I:World->Prop}
end
section
variable {P:Program} {I:World->Prop}
end
end Pv
end Go.Proofs.YtndpjopifkbgiaaGreatDoor
