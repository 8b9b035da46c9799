/-
  Several texts in one file: each has its own heading below.
-/
import Derived.Test.YtndpjopifkbgiaaGreatDoorMfS
import Derived.Test.YtndpjopifkbgiaaGreatDoorMfR
import Derived.Test.YtndpjopifkbgiaaGreatDoorMfK
import Derived.Test.YtndpjopifkbgiaaGreatDoorMfN
import Derived.Test.YtndpjopifkbgiaaGreatDoorCards
import Derived.Test.YtndpjopifkbgiaaGreatDoorTie
import Derived.Test.YtndpjopifkbgiaaGreatDoorMfC
import Derived.WalkKit
import Derived.ProofKit
import Derived.OpenShut
import Derived.ShutString
import Derived.ChangeOld
import Derived.Lib.SmallJoins
import Derived.Deep.Slices
import Derived.Deep.DeepHandedRow
import Derived.Lib.LaidTab
import Derived.Stop.LaidErr
import Derived.Test.YtndpjopifkbgiaaGreatDoorMfJ
set_option maxRecDepth 100000
set_option maxHeartbeats 4000000
namespace Go.Proofs.YtndpjopifkbgiaaGreatDoor
open Go.RowKit
theorem aXw(fv:Value)(dw:List (List Int))(ay:Nat)(w:World)(h:p_ w fv dw)(hb:ay<dw.length) :
  Calls Tryz.prog 71 #[.agg #[fv],.int .i64 (ay:Int)] w fun e w'=>e=.returned (.int .i64 ((dw[ay].length / 3:Nat):Int))/\Ext w w':=by
 obtain⟨b,o,c,bv,rfl,hbw,hcell,hr⟩:=h.at_ hb
 have hm1:dw.length<=maxLen:=by
  obtain⟨Ei,h1,_⟩:=h.ex;exact h1.xq
 have hm2:=hr.xq;unfold maxLen at hm1 hm2;obtain⟨_,B,c2,rfl,_,_,_⟩:=hr
 have h1:decide ((dw.length:Int)<=(ay:Int))=false:=by simp;omega
 have h2:decide ((dw.length)<=(ay))=false:=by simp;omega
 have h3:(ay:Int)<(dw.length:Int):=by omega
 clear h
 go_enter Tryz.func71,Tryz.ntmps71
 go_wp2
 go_ret
 exact⟨qR (by omega),by
  repeat' (first|(with_reducible exact di.refl _ _)|(with_reducible exact Ext.refl _)|(with_reducible assumption)|(with_reducible refine di.alloc ?_ _)|(with_reducible refine di.drew ?_)|(with_reducible refine di.drewN ?_ _)|(with_reducible refine di.setCell ?_ ?_ _)|(with_reducible refine Ext.alloc ?_ _)|(with_reducible refine Ext.drew ?_)|(with_reducible refine Ext.drewN ?_ _)|(with_reducible refine Ext.setCell ?_ ?_ _)|(simp;done)|(simp;omega)|omega)
  ⟩
theorem aLx(fv:Value)(dw:List (List Int))(ay:Nat)(iy:Bool)(w:World)(h:p_ w fv dw)(hb:ay<dw.length)(hn:dw[ay].length<=100000) :
  Calls Tryz.prog 42 #[.agg #[fv],.int .i64 (ay:Int),.bool iy] w fun e w'=>e=.returned (.int .i64 (jS dw[ay] iy))/\Ext w w':=by
 have HF:=hide h;obtain⟨_,⟨_,A,c,rfl,_⟩,_⟩:=h.ex;clear h;have HN:=hide (rfl:dw[ay].length / 3=dw[ay].length / 3);generalize hm:dw[ay].length / 3=m at HN
 have hm2:m<=100000:=by omega
 have HM:=hide hm
 go_enter Tryz.func42,Tryz.ntmps42
 go_wp2_with fail
 refine (aXw _ dw ay _ ((aA HF).ext ((Ext.refl w).alloc _)) hb).mono ?_;rintro e w1 ⟨rfl,hE⟩;rw[hm];have HB:=hide (And.intro ((au.new w 60 #[.slice A dw.length c]).ext hE) (((Ext.refl w).alloc _).trans hE));clear hE hm
 go_wp2
 go_loopw [8] (fun i wr=>∃ k:Nat,k<=m/\i=.int .i64 k/\Ext w1 wr/\tZ dw[ay] iy (m-k) k=jS dw[ay] iy) (fun i _=>m-(intOf i).toNat)
 case atStart=>exact⟨0,Nat.zero_le _,rfl,Ext.refl _,by rw[Nat.sub_zero,<-aA HM];rfl⟩
 case round=>
  obtain⟨k,hk,rfl,hE,hL⟩:=hrel;have HE:=hide (And.intro hE hL);clear hE hL
  by_cases hlt:k<m
  ·have hlen:=aA HM
   have b0:3*k<dw[ay].length:=by omega
   have b1:3*k+1<dw[ay].length:=by omega
   have b2:3*k+2<dw[ay].length:=by omega
   have HX:=hide (show Wh dw[ay] iy k=decide (2<=fK dw[ay][3*k] iy+fK dw[ay][3*k+1] iy+fK dw[ay][3*k+2] iy) from by unfold Wh;rw[getD_at b0,getD_at b1,getD_at b2]);have c0:=aEb (.slice A dw.length c) dw ay (3*k) iy;have c1:=aEb (.slice A dw.length c) dw ay (3*k+1) iy;have c2:=aEb (.slice A dw.length c) dw ay (3*k+2) iy;have g0:=zY dw[ay][3*k] iy;have g1:=zY dw[ay][3*k+1] iy;have g2:=zY dw[ay][3*k+2] iy;have C0:=hide fun w hF=>c0 w hF hb b0;have C1:=hide fun w hF=>c1 w hF hb b1;have C2:=hide fun w hF=>c2 w hF hb b2;generalize fK dw[ay][3*k] iy=x0 at *;generalize fK dw[ay][3*k+1] iy=x1 at *;generalize fK dw[ay][3*k+2] iy=x2 at *;clear c0 c1 c2 b0 b1 b2 hlen;obtain⟨q0,qf,ql⟩:=((aA HB).1.ext (aA HE).1).EH
   have i0:IntKind.i64.wrap (3*(k:Int))=((3*k:Nat):Int):=by rw[IntWalk.i64_in _ (by omega)];omega
   go_wp2_with fail
   refine (aA C0 _ ((aA HF).ext ((aA HB).2.trans (aA HE).1))).mono ?_;rintro e wa ⟨rfl,hEa⟩;have HEa:=hide ((aA HE).1.trans hEa);clear hEa q0 qf ql;obtain⟨q0,qf,ql⟩:=((aA HB).1.ext (aA HEa)).EH
   have i1:IntKind.i64.wrap (((3*k:Nat):Int)+1)=((3*k+1:Nat):Int):=by rw[IntWalk.i64_in _ (by omega)];omega
   have i2:IntKind.i64.wrap (((3*k:Nat):Int)+2)=((3*k+2:Nat):Int):=by rw[IntWalk.i64_in _ (by omega)];omega
   go_wp2_with fail
   refine (aA C1 _ ((aA HF).ext ((aA HB).2.trans (aA HEa)))).mono ?_;rintro e wb ⟨rfl,hEb⟩;have HEb:=hide ((aA HEa).trans hEb);clear hEb q0 qf ql HEa;obtain⟨q0,qf,ql⟩:=((aA HB).1.ext (aA HEb)).EH
   go_wp2_with fail
   refine (aA C2 _ ((aA HF).ext ((aA HB).2.trans (aA HEb)))).mono ?_;rintro e wc ⟨rfl,hEc⟩;have Rq:=hide ((aA HEb).trans hEc);clear hEc q0 qf ql HEb i0 i1 i2
   by_cases hx:x0+x1+x2<2
   ·go_wp2
    go_ret
    have hb:Wh dw[ay] iy k=false:=by rw[aA HX];simpa using hx
    have hl:=(aA HE).2;obtain⟨r,hr⟩:∃ r,m-k=r+1:=⟨m-k-1,by omega⟩;rw[hr,aVy hb] at hl
    exact⟨qR (by rw[hl]),(aA HB).2.trans (aA Rq)⟩
   ·have hx':decide (x0+x1+x2<2)=false:=by simpa using hx
    have hb:Hid (Wh dw[ay] iy k=true):=hide (by rw[aA HX];simp;omega)
    go_wp2
    go_roundw
    case rel=>
     have hl:=(aA HE).2;obtain⟨r,hr⟩:∃ r,m-k=r+1:=⟨m-k-1,by omega⟩;rw[hr,aQi (aA hb)] at hl
     exact⟨k+1,by omega,by go_num,aA Rq,by rw[show m-(k+1)=r from by omega];exact hl⟩
    case measure=>simp[intOf];omega
  ·obtain rfl:k=m:=by omega
   go_wp2
   go_ret
   have hl:=(aA HE).2;rw[Nat.sub_self] at hl
   exact⟨qR (by rw[<-hl];rfl),(aA HB).2.trans (aA HE).1⟩
theorem bBm(fv:Value)(dw:List (List Int))(ay:Nat)(w:World)(h:p_ w fv dw)(hb:ay<dw.length)(hn:dw[ay].length<=100000) :
  Calls Tryz.prog 27 #[.agg #[fv],.int .i64 (ay:Int)] w fun e w'=>e=.returned (.int .i64 (jS dw[ay] false))/\Ext w w':=by
 have HF:=hide h;obtain⟨_,⟨_,A,c,rfl,_⟩,_⟩:=h.ex;clear h
 go_enter Tryz.func27,Tryz.ntmps27
 go_wp2_with fail
 refine (aLx _ dw ay false _ ((aA HF).ext ((Ext.refl w).alloc _)) hb hn).mono ?_;rintro e w1 ⟨rfl,hE⟩;have HE:=hide hE;clear hE
 go_wp2
 go_ret
 exact⟨rfl,((Ext.refl w).alloc _).trans (aA HE)⟩
namespace Pv
def aQk:List PV->Option (Prop×PV)
 |[.w (.agg [.sl 1 n f]),.w (.one (.lit (.int .i64 3)))]=>some (lW n f/\3<n/\((bC n f).getD 3 []).length<=100000,gy (jS ((bC n f).getD 3 []) false))
 |_=>none
theorem aQj:aj Tryz.prog a_ 27 (aZ true aQk):=by
 refine aY (aF Tryz.func27 (by kernel_rfl) rfl) (fun xs p r hg hp w ok0 vs hI hv=>?_);unfold aQk at hg
 split at hg
 ·rename_i n f;cases hg;obtain⟨h1,h2,h3⟩:=hp
  match vs,hv with
  | [v1,v2],⟨k1,k2,_⟩=>
   obtain rfl:=k2.dn
   cases k1 with
   | w k1=>cases k1 with
    | @agg _ cs k1=>
     obtain⟨cs⟩:=cs;dsimp only at k1
     cases k1 with
     | cons a1 k1=>
      cases k1
      cases a1 with
      |sl b1 b2 b3=>
       have hF:=LG (.sl b1 b2 b3) h1
       have hb:3<(bC n f).length:=by rw[dF];exact h2
       have e:(bC n f).getD 3 []=(bC n f)[3]:=by rw[zG,zH hb];rfl
       rw[e] at h3 ⊢;refine (bBm _ (bC n f) 3 w hF hb h3).mono ?_;rintro e w' ⟨rfl,hE⟩
       exact⟨_,rfl,hE,.w (.one (.lit rfl))⟩
 ·cases hg
def Ry:List UInt8:=[115,116,97,116,101]
def Ak(o:jg):jh:={ BF 0 5 with ot:=o.ot,ol:=o.ol }
def rq(o:jg):jh:={ BF 1 7 with xt:=o.xt,xl:=o.xl,bn:=o.bn,bc:=o.bc,bt:=o.bt }
def op0:jh:=⟨0,zl,zl,zl,aS,zl,0,zl,0,0,aS,zl⟩
theorem WN(b:ByteArray)(n:Nat):∀ i r,b.size-i=n->ByteArray.toList.loop b i r=r.reverse++b.data.toList.drop i:=by
 induction n with
 |zero=>
  intro i r h
  rw[ByteArray.toList.loop,if_neg (by omega),List.drop_eq_nil_of_le (by show b.data.toList.length<=i;have:b.data.toList.length=b.size:=rfl;omega),List.append_nil]
 | succ n ih=>
  intro i r h
  have hi:i<b.data.toList.length:=by show i<b.size;omega
  rw[ByteArray.toList.loop,if_pos (by omega),ih (i+1) _ (by omega),List.reverse_cons,List.append_assoc,List.drop_eq_getElem_cons hi];congr 1
  show[b.get! i]++_=_
  have:b.get! i=b.data.toList[i]:=by
   show b.data[i]! =_;rw[getElem!_pos b.data i hi,Array.getElem_toList]
  rw[this];rfl
theorem bEe(b:ByteArray):b.toList=b.data.toList:=by
 unfold ByteArray.toList;rw[WN b b.size 0 [] rfl];rfl
theorem aTy{h:j_}(d:qh h):(h.b[3]?.getD []).length<=100000:=by
 have:=d.l3;rw[zG] at this;omega
theorem UX:u_ op0:=⟨rfl,rfl,rfl,rfl,by show iq 0;unfold iq;omega,by show iq 0;unfold iq;omega,by show iq 0;unfold iq;omega,by show aS.size<=10000;decide,by show aS.size<=2000;decide⟩
def aIG(H:Nat->j_)(_ _ _ _ _ _ _ _:QS):St:=⟨[(1,none,dm (.pt 1000 0 0))],[(1000,none,0,.box 57 (CP H false))]⟩
def aIF(H:Nat->j_)(q1 _ _ _ _ _ _ _:QS):St:=⟨[(3,none,dm (.pt 2012 0 0)),(1,none,dm (.pt 1000 0 0))],[(2012,none,0,.box 40 (gq (bH q1.1))),(1000,none,0,.box 57 (CP H false))]⟩
def aIE(H:Nat->j_)(q1 _ _ _ _ _ _ _:QS):St:=⟨[(4,none,dm (.pt 3001 0 0)),(3,none,dm (.pt 2012 0 0)),(1,none,dm (.pt 1000 0 0))],[(3001,none,0,.box 31 (yw (Ak (bH q1.1)))),(2012,none,0,.box 40 (gq (bH q1.1))),(1000,none,0,.box 57 (CP H false))]⟩
def aID(H:Nat->j_)(q1 q2 _ _ _ _ _ _:QS):St:=⟨[(6,none,dm (.pt 5012 0 0)),(5,none,dm (.pt 5011 0 0)),(3,none,dm (.pt 2012 0 0)),(1,none,dm (.pt 1000 0 0))],[(5012,none,0,.box 40 (gq (bH q2.1))),(5011,none,0,.box 65 (lw q2.2.1)),(2012,none,0,.box 40 (gq (bH q1.1))),(1000,none,0,.box 57 (CP H false))]⟩
def aIC(H:Nat->j_)(q1 q2 q3 _ _ _ _ _:QS):St:=⟨[(8,none,dm (.pt 6007 0 0)),(6,none,dm (.pt 5012 0 0)),(5,none,dm (.pt 5011 0 0)),(3,none,dm (.pt 2012 0 0)),(1,none,dm (.pt 1000 0 0))],[(6007,none,0,.box 40 (gq (bH q3.1))),(5012,none,0,.box 40 (gq (bH q2.1))),(5011,none,0,.box 65 (lw q2.2.1)),(2012,none,0,.box 40 (gq (bH q1.1))),(1000,none,0,.box 57 (CP H false))]⟩
def aIB(H:Nat->j_)(q1 q2 q3 _ _ _ _ _:QS):St:=⟨[(9,none,dm (.pt 7001 0 0)),(8,none,dm (.pt 6007 0 0)),(6,none,dm (.pt 5012 0 0)),(5,none,dm (.pt 5011 0 0)),(3,none,dm (.pt 2012 0 0)),(1,none,dm (.pt 1000 0 0))],[(7001,none,0,.box 31 (yw (rq (bH q2.1)))),(6007,none,0,.box 40 (gq (bH q3.1))),(5012,none,0,.box 40 (gq (bH q2.1))),(5011,none,0,.box 65 (lw q2.2.1)),(2012,none,0,.box 40 (gq (bH q1.1))),(1000,none,0,.box 57 (CP H false))]⟩
def aIA(H:Nat->j_)(q1 q2 q3 q4 _ _ _ _:QS):St:=⟨[(11,none,dm (.pt 9012 0 0)),(10,none,dm (.pt 9011 0 0)),(9,none,dm (.pt 7001 0 0)),(8,none,dm (.pt 6007 0 0)),(6,none,dm (.pt 5012 0 0)),(5,none,dm (.pt 5011 0 0)),(3,none,dm (.pt 2012 0 0)),(1,none,dm (.pt 1000 0 0))],[(9012,none,0,.box 40 (gq (bH q4.1))),(9011,none,0,.box 65 (lw q4.2.1)),(7001,none,0,.box 31 (yw (rq (bH q2.1)))),(6007,none,0,.box 40 (gq (bH q3.1))),(5012,none,0,.box 40 (gq (bH q2.1))),(5011,none,0,.box 65 (lw q2.2.1)),(2012,none,0,.box 40 (gq (bH q1.1))),(1000,none,0,.box 57 (CP H false))]⟩
def ZX(H:Nat->j_)(q1 q2 q3 q4 q5 _ _ _:QS):St:=⟨[(13,none,dm (.pt 10007 0 0)),(11,none,dm (.pt 9012 0 0)),(10,none,dm (.pt 9011 0 0)),(8,none,dm (.pt 6007 0 0)),(6,none,dm (.pt 5012 0 0)),(5,none,dm (.pt 5011 0 0)),(3,none,dm (.pt 2012 0 0)),(1,none,dm (.pt 1000 0 0))],[(10007,none,0,.box 40 (gq (bH q5.1))),(9012,none,0,.box 40 (gq (bH q4.1))),(9011,none,0,.box 65 (lw q4.2.1)),(6007,none,0,.box 40 (gq (bH q3.1))),(5012,none,0,.box 40 (gq (bH q2.1))),(5011,none,0,.box 65 (lw q2.2.1)),(2012,none,0,.box 40 (gq (bH q1.1))),(1000,none,0,.box 57 (CP H false))]⟩
def ZW(H:Nat->j_)(q1 q2 q3 q4 q5 q6 _ _:QS):St:=⟨[(15,none,dm (.pt 11007 0 0)),(14,none,dm (.pt 11006 0 0)),(13,none,dm (.pt 10007 0 0)),(11,none,dm (.pt 9012 0 0)),(10,none,dm (.pt 9011 0 0)),(8,none,dm (.pt 6007 0 0)),(6,none,dm (.pt 5012 0 0)),(5,none,dm (.pt 5011 0 0)),(3,none,dm (.pt 2012 0 0)),(1,none,dm (.pt 1000 0 0))],[(11007,none,0,.box 40 (gq (bH q6.1))),(11006,none,0,.box 65 (lw q6.2.1)),(10007,none,0,.box 40 (gq (bH q5.1))),(9012,none,0,.box 40 (gq (bH q4.1))),(9011,none,0,.box 65 (lw q4.2.1)),(6007,none,0,.box 40 (gq (bH q3.1))),(5012,none,0,.box 40 (gq (bH q2.1))),(5011,none,0,.box 65 (lw q2.2.1)),(2012,none,0,.box 40 (gq (bH q1.1))),(1000,none,0,.box 57 (CP H false))]⟩
def ZV(H:Nat->j_)(q1 q2 q3 q4 q5 q6 q7 _:QS):St:=⟨[(17,none,dm (.pt 12007 0 0)),(15,none,dm (.pt 11007 0 0)),(13,none,dm (.pt 10007 0 0)),(11,none,dm (.pt 9012 0 0)),(10,none,dm (.pt 9011 0 0)),(8,none,dm (.pt 6007 0 0)),(6,none,dm (.pt 5012 0 0)),(5,none,dm (.pt 5011 0 0)),(3,none,dm (.pt 2012 0 0)),(1,none,dm (.pt 1000 0 0))],[(12007,none,0,.box 40 (gq (bH q7.1))),(11007,none,0,.box 40 (gq (bH q6.1))),(10007,none,0,.box 40 (gq (bH q5.1))),(9012,none,0,.box 40 (gq (bH q4.1))),(9011,none,0,.box 65 (lw q4.2.1)),(6007,none,0,.box 40 (gq (bH q3.1))),(5012,none,0,.box 40 (gq (bH q2.1))),(5011,none,0,.box 65 (lw q2.2.1)),(2012,none,0,.box 40 (gq (bH q1.1))),(1000,none,0,.box 57 (CP H false))]⟩
def ZU(H:Nat->j_)(q1 q2 q3 q4 q5 q6 q7 q8:QS):St:=⟨[(19,none,dm (.pt 13007 0 0)),(17,none,dm (.pt 12007 0 0)),(15,none,dm (.pt 11007 0 0)),(13,none,dm (.pt 10007 0 0)),(11,none,dm (.pt 9012 0 0)),(10,none,dm (.pt 9011 0 0)),(8,none,dm (.pt 6007 0 0)),(6,none,dm (.pt 5012 0 0)),(5,none,dm (.pt 5011 0 0)),(3,none,dm (.pt 2012 0 0)),(1,none,dm (.pt 1000 0 0))],[(13007,none,0,.box 40 (gq (bH q8.1))),(12007,none,0,.box 40 (gq (bH q7.1))),(11007,none,0,.box 40 (gq (bH q6.1))),(10007,none,0,.box 40 (gq (bH q5.1))),(9012,none,0,.box 40 (gq (bH q4.1))),(9011,none,0,.box 65 (lw q4.2.1)),(6007,none,0,.box 40 (gq (bH q3.1))),(5012,none,0,.box 40 (gq (bH q2.1))),(5011,none,0,.box 65 (lw q2.2.1)),(2012,none,0,.box 40 (gq (bH q1.1))),(1000,none,0,.box 57 (CP H false))]⟩
def ZT(H:Nat->j_)(q1 q2 _ q4 q5 q6 q7 q8:QS):St:=⟨[(22,none,qc true),(19,none,dm (.pt 13007 0 0)),(17,none,dm (.pt 12007 0 0)),(15,none,dm (.pt 11007 0 0)),(13,none,dm (.pt 10007 0 0)),(11,none,dm (.pt 9012 0 0)),(10,none,dm (.pt 9011 0 0)),(8,none,dm (.pt 6007 0 0)),(6,none,dm (.pt 5012 0 0)),(5,none,dm (.pt 5011 0 0)),(3,none,dm (.pt 2012 0 0)),(1,none,dm (.pt 1000 0 0))],[(13007,none,0,.box 40 (gq { bH q8.1 with err:=14 })),(12007,none,0,.box 40 (gq { bH q7.1 with session:=1 })),(11007,none,0,.box 40 (gq { bH q6.1 with payload:=strOf Ry,session:=0 })),(10007,none,0,.box 40 (gq { bH q5.1 with err:=21 })),(9012,none,0,.box 40 (gq { bH q4.1 with err:=0,payload:=strOf Ry })),(9011,none,0,.box 65 (lw q4.2.1)),(6007,none,0,.box 40 (gq { bH q2.1 with err:=0 })),(5012,none,0,.box 40 (gq { bH q2.1 with err:=0 })),(5011,none,0,.box 65 (lw q2.2.1)),(2012,none,0,.box 40 (gq { bH q1.1 with ot:=DX 1,ol:=0 })),(1000,none,0,.box 57 (CP H false))]⟩
def saL(H:Nat->j_):List (Nat×Spec):=[(12,newSpec 57 (CP H false)),(14,aZ true J7),(20,aZ false aIz),(10,aZ true JM),(27,aZ true aQk),(26,aZ true idG)]
theorem saM{H:Nat->j_}(hb:WY Tryz.prog a_ 12 57 (CP H false)):kw Tryz.prog a_ (find (saL H)):=⟨bV (fun p hp=>by
 simp only[saL,List.mem_cons,List.not_mem_nil,or_false] at hp;rcases hp with rfl|rfl|rfl|rfl|rfl|rfl
 ·exact aGp (aF Tryz.func12 (by kernel_rfl) rfl) hb
 ·exact aIu
 ·exact aMr
 ·exact bAn
 ·exact aQj
 ·exact bBr),fC⟩
theorem OX{H:Nat->j_}(hb:WY Tryz.prog a_ 12 57 (CP H false))(q1 q2 q3 q4 q5 q6 q7 q8:QS)(nx:EStateM.Result Acc Nat jg)
  (e1:eG [] (dJ (BF 1 4)) (H 1) 0=q1) (e2:eG [] (dJ (Ak (bH q1.1))) (H 0) 0=q2) (e3:eG [] (dJ (BF 0 6)) q2.2.1 0=q3) (e4:eG [] (dJ (rq (bH q2.1))) (H 1) 0=q4)
  (e5:eG [] (dJ (rq (bH q2.1))) q4.2.1 0=q5) (e6:eG [] (dJ (BF 1 2)) q4.2.1 0=q6) (e7:eG [] (dJ (BF 1 2)) q6.2.1 0=q7) (e8:eG [] (dJ (BF 0 2)) q2.2.1 0=q8) (en:(dJ op0).run (replay []) 0=nx)
  (d0:qh (H 0)) (d1:qh (H 1)) (da:qh q2.2.1) (db:qh q4.2.1) (dc:qh q6.2.1) (o2:u_ (Ak (bH q1.1))) (o4:u_ (rq (bH q2.1)))
  (f1:(bH q1.1).ot=DX 1/\(bH q1.1).ol=0) (f2:(bH q2.1).err=0) (f3:bH q3.1=bH q2.1) (f4:(bH q4.1).err=0/\(bH q4.1).payload=strOf Ry) (f5:(bH q5.1).err=21) (f6:(bH q6.1).payload=strOf Ry/\(bH q6.1).session=0) (f7:(bH q7.1).session=1) (f8:(bH q8.1).err=14) (hnx:WW nx=true)
  (la:jS (q2.2.1.b.getD 3 []) false=2) (lb:jS (q4.2.1.b.getD 3 []) false=1):gB Tryz.prog a_ 9 true [] (qc true):=by
 have M:=saM hb
 have VO:bH q1.1={ bH q1.1 with ot:=DX 1,ol:=0 }:=by rw[<-f1.1,<-f1.2]
 have VN:bH q2.1={ bH q2.1 with err:=0 }:=by rw[<-f2]
 have VL:bH q3.1={ bH q2.1 with err:=0 }:=by rw[f3,<-f2]
 have VK:bH q4.1={ bH q4.1 with err:=0,payload:=strOf Ry }:=by rw[<-f4.1,<-f4.2]
 have QK:bH q5.1={ bH q5.1 with err:=21 }:=by rw[<-f5]
 have QJ:bH q6.1={ bH q6.1 with payload:=strOf Ry,session:=0 }:=by rw[<-f6.1,<-f6.2]
 have QI:bH q7.1={ bH q7.1 with session:=1 }:=by rw[<-f7]
 have QH:bH q8.1={ bH q8.1 with err:=14 }:=by rw[<-f8]
 refine bI Tryz.func9 rfl rfl bQ (fun A hS hn hI=>?_);refine aB M hI hn (by rfl) (by kernel_rfl) ?_ ?_
 ·simp
 refine aB M hI hn (by rfl) (by kernel_rfl) ?_ ?_
 ·simp
 refine aI (s':=aIG H q1 q2 q3 q4 q5 q6 q7 q8) (fun a w hg=>(hg.reset (kT:=[1]) (kO:=[1000]) (by rfl) (by simp)).same ?_ ?_) ?_
 ·exact .cons rfl (.nil)
 ·refine .cons (.box rfl) (.nil)
 refine aB M hI hn (by rfl) (by kernel_rfl) ?_ ?_
 ·simp
  exact⟨d1,Yw 1 4⟩
 refine aI (s':=aIF H q1 q2 q3 q4 q5 q6 q7 q8) (fun a w hg=>(hg.reset (kT:=[3,1]) (kO:=[2012,1000]) (by rfl) (by simp)).same ?_ ?_) ?_
 ·exact .cons rfl (.cons rfl (.nil))
 ·refine .cons (.box ?_) (.cons (.box rfl) (.nil))
  ·rw[<-e1];change gq (bH (eG [] (dJ (BF 1 4)) (⟨bC (H 1).b.length (bJ (H 1).b),iP (H 1).f.length (tu (H 1).f),(H 1).r⟩:j_) 0).1)=_;rw[aH,bK]
 refine aB M hI hn (by rfl) (by kernel_rfl) ?_ ?_
 ·simp
 refine aB M hI hn (by rfl) (by kernel_rfl) ?_ ?_
 ·simp
 refine aI (s':=aIE H q1 q2 q3 q4 q5 q6 q7 q8) (fun a w hg=>(hg.reset (kT:=[4,3,1]) (kO:=[3001,2012,1000]) (by rfl) (by simp)).same ?_ ?_) ?_
 ·exact .cons rfl (.cons rfl (.cons rfl (.nil)))
 ·refine .cons (.box rfl) (.cons (.box rfl) (.cons (.box rfl) (.nil)))
 refine aB M hI hn (by rfl) (by kernel_rfl) ?_ ?_
 ·simp
  exact⟨d0,o2⟩
 refine aI (s':=aID H q1 q2 q3 q4 q5 q6 q7 q8) (fun a w hg=>(hg.reset (kT:=[6,5,3,1]) (kO:=[5012,5011,2012,1000]) (by rfl) (by simp)).same ?_ ?_) ?_
 ·exact .cons rfl (.cons rfl (.cons rfl (.cons rfl (.nil))))
 ·refine .cons (.box ?_) (.cons (.box ?_) (.cons (.box rfl) (.cons (.box rfl) (.nil))))
  ·rw[<-e2];change gq (bH (eG [] (dJ (Ak (bH q1.1))) (⟨bC (H 0).b.length (bJ (H 0).b),iP (H 0).f.length (tu (H 0).f),(H 0).r⟩:j_) 0).1)=_;rw[aH,bK]
  ·rw[<-e2];change lw (eG [] (dJ (Ak (bH q1.1))) (⟨bC (H 0).b.length (bJ (H 0).b),iP (H 0).f.length (tu (H 0).f),(H 0).r⟩:j_) 0).2.1=_;rw[aH,bK]
 refine aB M hI hn (by rfl) (by kernel_rfl) ?_ ?_
 ·simp
  exact⟨da,Yw 0 6⟩
 refine aI (s':=aIC H q1 q2 q3 q4 q5 q6 q7 q8) (fun a w hg=>(hg.reset (kT:=[8,6,5,3,1]) (kO:=[6007,5012,5011,2012,1000]) (by rfl) (by simp)).same ?_ ?_) ?_
 ·exact .cons rfl (.cons rfl (.cons rfl (.cons rfl (.cons rfl (.nil)))))
 ·refine .cons (.box ?_) (.cons (.box rfl) (.cons (.box rfl) (.cons (.box rfl) (.cons (.box rfl) (.nil)))))
  ·rw[<-e3];change gq (bH (eG [] (dJ (BF 0 6)) (⟨bC (q2.2.1).b.length (bJ (q2.2.1).b),iP (q2.2.1).f.length (tu (q2.2.1).f),(q2.2.1).r⟩:j_) 0).1)=_;rw[aH,bK]
 refine aB M hI hn (by rfl) (by kernel_rfl) ?_ ?_
 ·simp
 refine aB M hI hn (by rfl) (by kernel_rfl) ?_ ?_
 ·simp
 refine aI (s':=aIB H q1 q2 q3 q4 q5 q6 q7 q8) (fun a w hg=>(hg.reset (kT:=[9,8,6,5,3,1]) (kO:=[7001,6007,5012,5011,2012,1000]) (by rfl) (by simp)).same ?_ ?_) ?_
 ·exact .cons rfl (.cons rfl (.cons rfl (.cons rfl (.cons rfl (.cons rfl (.nil))))))
 ·refine .cons (.box rfl) (.cons (.box rfl) (.cons (.box rfl) (.cons (.box rfl) (.cons (.box rfl) (.cons (.box rfl) (.nil))))))
 refine aB M hI hn (by rfl) (by kernel_rfl) ?_ ?_
 ·simp
  exact⟨d1,o4⟩
 refine aI (s':=aIA H q1 q2 q3 q4 q5 q6 q7 q8) (fun a w hg=>(hg.reset (kT:=[11,10,9,8,6,5,3,1]) (kO:=[9012,9011,7001,6007,5012,5011,2012,1000]) (by rfl) (by simp)).same ?_ ?_) ?_
 ·exact .cons rfl (.cons rfl (.cons rfl (.cons rfl (.cons rfl (.cons rfl (.cons rfl (.cons rfl (.nil))))))))
 ·refine .cons (.box ?_) (.cons (.box ?_) (.cons (.box rfl) (.cons (.box rfl) (.cons (.box rfl) (.cons (.box rfl) (.cons (.box rfl) (.cons (.box rfl) (.nil))))))))
  ·rw[<-e4];change gq (bH (eG [] (dJ (rq (bH q2.1))) (⟨bC (H 1).b.length (bJ (H 1).b),iP (H 1).f.length (tu (H 1).f),(H 1).r⟩:j_) 0).1)=_;rw[aH,bK]
  ·rw[<-e4];change lw (eG [] (dJ (rq (bH q2.1))) (⟨bC (H 1).b.length (bJ (H 1).b),iP (H 1).f.length (tu (H 1).f),(H 1).r⟩:j_) 0).2.1=_;rw[aH,bK]
 refine aB M hI hn (by rfl) (by kernel_rfl) ?_ ?_
 ·simp
  exact⟨db,o4⟩
 refine aI (s':=ZX H q1 q2 q3 q4 q5 q6 q7 q8) (fun a w hg=>(hg.reset (kT:=[13,11,10,8,6,5,3,1]) (kO:=[10007,9012,9011,6007,5012,5011,2012,1000]) (by rfl) (by simp)).same ?_ ?_) ?_
 ·exact .cons rfl (.cons rfl (.cons rfl (.cons rfl (.cons rfl (.cons rfl (.cons rfl (.cons rfl (.nil))))))))
 ·refine .cons (.box ?_) (.cons (.box rfl) (.cons (.box rfl) (.cons (.box rfl) (.cons (.box rfl) (.cons (.box rfl) (.cons (.box rfl) (.cons (.box rfl) (.nil))))))))
  ·rw[<-e5];change gq (bH (eG [] (dJ (rq (bH q2.1))) (⟨bC (q4.2.1).b.length (bJ (q4.2.1).b),iP (q4.2.1).f.length (tu (q4.2.1).f),(q4.2.1).r⟩:j_) 0).1)=_;rw[aH,bK]
 refine aB M hI hn (by rfl) (by kernel_rfl) ?_ ?_
 ·simp
  exact⟨db,Yw 1 2⟩
 refine aI (s':=ZW H q1 q2 q3 q4 q5 q6 q7 q8) (fun a w hg=>(hg.reset (kT:=[15,14,13,11,10,8,6,5,3,1]) (kO:=[11007,11006,10007,9012,9011,6007,5012,5011,2012,1000]) (by rfl) (by simp)).same ?_ ?_) ?_
 ·exact .cons rfl (.cons rfl (.cons rfl (.cons rfl (.cons rfl (.cons rfl (.cons rfl (.cons rfl (.cons rfl (.cons rfl (.nil))))))))))
 ·refine .cons (.box ?_) (.cons (.box ?_) (.cons (.box rfl) (.cons (.box rfl) (.cons (.box rfl) (.cons (.box rfl) (.cons (.box rfl) (.cons (.box rfl) (.cons (.box rfl) (.cons (.box rfl) (.nil))))))))))
  ·rw[<-e6];change gq (bH (eG [] (dJ (BF 1 2)) (⟨bC (q4.2.1).b.length (bJ (q4.2.1).b),iP (q4.2.1).f.length (tu (q4.2.1).f),(q4.2.1).r⟩:j_) 0).1)=_;rw[aH,bK]
  ·rw[<-e6];change lw (eG [] (dJ (BF 1 2)) (⟨bC (q4.2.1).b.length (bJ (q4.2.1).b),iP (q4.2.1).f.length (tu (q4.2.1).f),(q4.2.1).r⟩:j_) 0).2.1=_;rw[aH,bK]
 refine aB M hI hn (by rfl) (by kernel_rfl) ?_ ?_
 ·simp
  exact⟨dc,Yw 1 2⟩
 refine aI (s':=ZV H q1 q2 q3 q4 q5 q6 q7 q8) (fun a w hg=>(hg.reset (kT:=[17,15,13,11,10,8,6,5,3,1]) (kO:=[12007,11007,10007,9012,9011,6007,5012,5011,2012,1000]) (by rfl) (by simp)).same ?_ ?_) ?_
 ·exact .cons rfl (.cons rfl (.cons rfl (.cons rfl (.cons rfl (.cons rfl (.cons rfl (.cons rfl (.cons rfl (.cons rfl (.nil))))))))))
 ·refine .cons (.box ?_) (.cons (.box rfl) (.cons (.box rfl) (.cons (.box rfl) (.cons (.box rfl) (.cons (.box rfl) (.cons (.box rfl) (.cons (.box rfl) (.cons (.box rfl) (.cons (.box rfl) (.nil))))))))))
  ·rw[<-e7];change gq (bH (eG [] (dJ (BF 1 2)) (⟨bC (q6.2.1).b.length (bJ (q6.2.1).b),iP (q6.2.1).f.length (tu (q6.2.1).f),(q6.2.1).r⟩:j_) 0).1)=_;rw[aH,bK]
 refine aB M hI hn (by rfl) (by kernel_rfl) ?_ ?_
 ·simp
  exact⟨da,Yw 0 2⟩
 refine aI (s':=ZU H q1 q2 q3 q4 q5 q6 q7 q8) (fun a w hg=>(hg.reset (kT:=[19,17,15,13,11,10,8,6,5,3,1]) (kO:=[13007,12007,11007,10007,9012,9011,6007,5012,5011,2012,1000]) (by rfl) (by simp)).same ?_ ?_) ?_
 ·exact .cons rfl (.cons rfl (.cons rfl (.cons rfl (.cons rfl (.cons rfl (.cons rfl (.cons rfl (.cons rfl (.cons rfl (.cons rfl (.nil)))))))))))
 ·refine .cons (.box ?_) (.cons (.box rfl) (.cons (.box rfl) (.cons (.box rfl) (.cons (.box rfl) (.cons (.box rfl) (.cons (.box rfl) (.cons (.box rfl) (.cons (.box rfl) (.cons (.box rfl) (.cons (.box rfl) (.nil)))))))))))
  ·rw[<-e8];change gq (bH (eG [] (dJ (BF 0 2)) (⟨bC (q2.2.1).b.length (bJ (q2.2.1).b),iP (q2.2.1).f.length (tu (q2.2.1).f),(q2.2.1).r⟩:j_) 0).1)=_;rw[aH,bK]
 refine aB M hI hn (by rfl) (by kernel_rfl) ?_ ?_
 ·simp
  exact⟨UX,by unfold bEv;simp⟩
 refine aI (s':=ZT H q1 q2 q3 q4 q5 q6 q7 q8) (fun a w hg=>(hg.reset (kT:=[22,19,17,15,13,11,10,8,6,5,3,1]) (kO:=[13007,12007,11007,10007,9012,9011,6007,5012,5011,2012,1000]) (by rfl) (by simp)).same ?_ ?_) ?_
 ·exact .cons (congrArg qc (by change WW ((dJ op0).run (replay []) 0)=true;rw[en];exact hnx)) (.cons rfl (.cons rfl (.cons rfl (.cons rfl (.cons rfl (.cons rfl (.cons rfl (.cons rfl (.cons rfl (.cons rfl (.cons rfl (.nil))))))))))))
 ·refine .cons (.box ?_) (.cons (.box ?_) (.cons (.box ?_) (.cons (.box ?_) (.cons (.box ?_) (.cons (.box rfl) (.cons (.box ?_) (.cons (.box ?_) (.cons (.box rfl) (.cons (.box ?_) (.cons (.box rfl) (.nil)))))))))))
  ·exact congrArg gq QH
  ·exact congrArg gq QI
  ·exact congrArg gq QJ
  ·exact congrArg gq QK
  ·exact congrArg gq VK
  ·exact congrArg gq VL
  ·exact congrArg gq VN
  ·exact congrArg gq VO
 refine aB M hI hn (outs:=?_) (s':=?_) ?_ ?_ ?_ ?_;rotate_left 2
 ·with_unfolding_all rfl
 ·kernel_rfl
 ·simp[hP]
  exact⟨fun _=>⟨da.n,aTy da⟩,fun _ _=>⟨db.n,aTy db⟩⟩
 refine aI (s':=⟨[(0,none,qc true)],[]⟩) (fun a w hg=>(hg.reset (kT:=[0]) (kO:=[]) (by rfl) (by simp)).same ?_ ?_) ?_
 ·refine .cons (congrArg qc ?_) .nil
  have hs:(strOf Ry).toList=[115,116,97,116,101]:=by rw[bEe];exact dO _
  rw[zG] at la lb;simp[hs,la,lb]
 ·exact .nil
 refine aK (fun a w hg=>⟨.inr rfl,_,?_,hg⟩);refine aC (by rfl) (by simp) (by rfl) (by rfl) ?_;rfl
def stB:ByteArray:=strOf Ry
theorem rP{m:jh}{h h':j_}{x:Except Int jg}(e:oz (kR m) h=(x,h')):∃ n,eG [] (dJ m) h 0=(some (WC oD x),h',n):=by
 obtain⟨n,hn⟩:=aQr oD (kR m) h 0;rw[e] at hn
 exact⟨n,hn⟩
theorem qI{n:Nat}(hn:n<=16):(cl n).length=48:=by unfold cl;rw[List.length_append,List.length_replicate,List.length_replicate];omega
theorem W_{n:Nat}:∀ x∈cl n,0<=x/\x<=3:=by
 intro x hx;rcases List.mem_append.1 hx with hx|hx
 ·rw[List.eq_of_mem_replicate hx];omega
 ·rw[List.eq_of_mem_replicate hx];omega
theorem yP{a b:Nat}{f:Fl}{r:List UInt8}(ha:a<=16)(hb:b<=16)(hz:Sz f)(hr:r.length=16):qh (rf (cl a) (cl b) f r):=by
 have h0:Fe=cl 0:=WJ
 refine⟨⟨by show 4<=1000;decide,?_,?_,?_,?_,hr⟩,by show 3<4;decide,qI ha,qI hb,by show 64<=f.length;rw[hz.1];decide⟩
 ·intro l hl;have hl':l∈[Fe,Fe,cl a,cl b]:=hl;simp only[List.mem_cons,List.not_mem_nil,or_false,h0] at hl';rcases hl' with rfl|rfl|rfl|rfl
  ·rw[qI (by omega)];decide
  ·rw[qI (by omega)];decide
  ·rw[qI ha];decide
  ·rw[qI hb];decide
 ·intro l hl x hx;have hl':l∈[Fe,Fe,cl a,cl b]:=hl;simp only[List.mem_cons,List.not_mem_nil,or_false,h0] at hl'
  rcases hl' with rfl|rfl|rfl|rfl<;>exact W_ x hx
 ·show f.length<=1000000;rw[hz.1]
  decide
 ·intro x hx;rw[hz.2 x hx]
  decide
def Ye:jg:={ jr with payload:=stB }
theorem bEc:∃ n fA,eG [] (dJ Rl) (D8 (iL 0)) 0=(some Ye,rf (cl 0) (cl 1) fA (iL 0),n)/\CG fA 1 (iL 0) (zU 0 stB):=by
 obtain⟨n,hn⟩:=rP (aWs (m:=Rl) (n:=0) (c2:=cl 0) (f:=Bc) (q:=iL 0) rfl (by show (5:Nat)<=1000;decide) xY (by decide) (by decide) rfl)
 refine⟨n,_,hn,?_⟩
 exact aPt (root:=iL 0) xY (by decide) (by decide) (aJb (p:=stB) (by decide) (by show (5:Nat)<=1000;decide))
theorem aLc{r:l_}(hx:r.ot=DX 1):Tra (rq (fQ (y_ 7) r)) r.payload:=by
 refine⟨?_,?_,?_⟩
 ·show (r.ot==DX 1)=true;rw[hx];exact beq_self_eq_true _
 ·show opened (keyS (y_ 7) r.ot r.ol) r.ol (strOf _) _=true;unfold opened;rw[dO];exact beq_self_eq_true _
 ·show strOf (dQ (keyS (y_ 7) r.ot r.ol) r.ol (strOf (dQ (keyS (y_ 7) r.ot r.ol) r.ol r.payload.data.toList)).data.toList)=r.payload;rw[dO,aHn,oN]
theorem Rh:iq 0:=by unfold iq;omega
theorem bEo{r:l_}(hx:r.ot.length=16)(ho:iq r.ol)(hp:r.payload.size<=1000):u_ (rq (fQ (y_ 7) r)):=by
 refine⟨rfl,rfl,rfl,hx,Rh,ho,ho,by show aS.size<=10000;decide,?_⟩
 show (strOf (dQ (keyS (y_ 7) r.ot r.ol) r.ol r.payload.data.toList)).size<=2000;rw[bM,dU];have:r.payload.data.toList.length=r.payload.size:=Array.length_toList;omega
theorem aYm{o:jg}(hx:o.ot.length=16)(ho:iq o.ol):u_ (Ak o):=⟨rfl,rfl,hx,rfl,ho,Rh,Rh,by show aS.size<=10000;decide,by show aS.size<=2000;decide⟩
theorem JJ:WW ((dJ op0).run (replay []) 0)=true:=by kernel_rfl
def Dz:jg:={ jr with ot:=DX 1,ol:=((0:Nat):Int) }
def zt:l_:=TV (Ak Dz) 1 (zU 0 stB)
structure aEN(n:Nat)(fA fB:Fl):Prop where
 cr:eG [] (dJ Rl) (D8 (iL 0)) 0=(some Ye,rf (cl 0) (cl 1) fA (iL 0),n)
 hA:CG fA 1 (iL 0) (zU 0 stB)
 hB:CG fB 2 (iL 0) zt
 snd:oz (kR (Ak Dz)) (rf (cl 0) (cl 1) fA (iL 0))=(.ok (fQ (y_ 7) zt),rf (cl 0) (cl 2) fB (iL 0))
theorem aTx:∃ n fA fB,aEN n fA fB:=by
 obtain⟨n,fA,h1,h2⟩:=bEc;have h3:=H_ (m:=Ak Dz) (n:=1) (c2:=cl 0) (q:=iL 0) rfl (by decide) (by decide) (by decide) (by decide) rfl h2 (by decide) (by decide) rfl rfl rfl
 refine⟨n,fA,_,h1,h2,?_,h3⟩
 exact aPt (root:=iL 0) (r:=zt) h2.ig (by decide) (by decide) (aRz (by decide) Rh rfl h2.ok)
theorem off1:oz (kR (BF 1 4)) (D8 (iL 1))=(.ok Dz,D8 (iL 1)):=bAj (m:=BF 1 4) (n:=0) (c2:=cl 0) (f:=Bc) (q:=iL 1) rfl (by decide) rfl
theorem aUu:gB Tryz.prog a_ 9 true [] (qc true):=by
 obtain⟨n,fA,fB,B⟩:=aTx;have hb:=NJ (Ye |> some,rf (cl 0) (cl 1) fA (iL 0),n) _ _ _ rfl rfl rfl B.cr;have hbad:WT (some Ye,rf (cl 0) (cl 1) fA (iL 0),n)=false:=rfl;rw[hbad] at hb;have tr:Tra (rq (fQ (y_ 7) zt)) stB:=aLc (r:=zt) rfl
 have hst:stB.size<=1000:=by show (5:Nat)<=1000;decide
 obtain⟨n1,e1⟩:=rP off1;obtain⟨n2,e2⟩:=rP B.snd;obtain⟨n3,e3⟩:=rP (aVb (m:=BF 0 6) (n:=2) (c2:=cl 0) (q:=iL 0) rfl B.hB (by decide) rfl rfl rfl);have x4:=aHp (m:=rq (fQ (y_ 7) zt)) (n:=0) (c2:=cl 0) (q:=iL 1) (f:=Bc) rfl tr hst xY (by decide) (by decide) rfl rfl;have h4:=aPt (root:=iL 1) xY (by decide) (by decide) (aJb (n:=0) (p:=stB) (by decide) hst);obtain⟨f4,hf4⟩:∃ f4,FY Bc (jC (iL 1) (zU 0 stB))=f4:=⟨_,rfl⟩;have aJW:FY Bc (jC (rq (fQ (y_ 7) zt)).root (zU 0 stB))=f4:=hf4;rw[hf4] at h4;rw[aJW] at x4;obtain⟨n4,e4⟩:=rP x4;obtain⟨n5,e5⟩:=rP (aXi (m:=rq (fQ (y_ 7) zt)) (n:=1) (c2:=cl 0) (f:=f4) (q:=iL 1) rfl tr.xt (by decide) rfl);obtain⟨n6,e6⟩:=rP (aMs (m:=BF 1 2) (n:=1) (n2:=0) (q:=iL 1) rfl h4 (by decide) rfl rfl rfl (by decide));obtain⟨n7,e7⟩:=rP (aMs (m:=BF 1 2) (n:=1) (n2:=1) (q:=iL 1) rfl h4 (by decide) rfl rfl rfl (by decide))
 obtain⟨n8,e8⟩:=rP (aVt (m:=BF 0 2) (n:=2) (c2:=cl 0) (q:=iL 0) rfl B.hB (by decide) rfl);have zB:=B.hB.ig.sz;have z4:=h4.ig.sz;have zA:=B.hA.ig.sz;refine OX hb _ _ _ _ _ _ _ _ _ e1 e2 e3 e4 e5 e6 e7 e8 rfl (yP (by decide) (by decide) zA rfl) (bDb _ rfl) (yP (by decide) (by decide) zB rfl) (yP (by decide) (by decide) z4 rfl) (yP (by decide) (by decide) z4 rfl) (aYm (o:=Dz) rfl Rh) (bEo (r:=zt) rfl Rh hst) ⟨rfl,rfl⟩ rfl rfl ⟨rfl,rfl⟩ rfl ⟨rfl,rfl⟩ rfl rfl JJ (KA (by decide)) (KA (by decide))
theorem IX{l l':List (Nat×Option Bool×PV)}(h:l=l'):Bg l l':=by
 subst h
 induction l with
 |nil=>exact .nil
 |cons a l ih=>obtain⟨t,g,v⟩:=a;exact .cons rfl ih
theorem ER{l l':Wr}(h:l=l'):Bf l l':=by
 subst h
 induction l with
 |nil=>exact .nil
 |cons a l ih=>
  obtain⟨x,g,vr,o⟩:=a;refine .cons ?_ ih
  cases o with
  |box t l=>exact .box rfl
  |arr e n len f=>exact .arr rfl (fun _ _=>rfl)
  |dead=>exact .dead
  |dev O dh l=>exact .dev rfl
def SV(L:List UInt8)(k:Nat):St:=⟨[(1,none,dm (.pt 0 0 0)),(3,none,dm (.ow 7000 0 1 0 k)),(4,none,gy k)],[(0,none,0,.box 23 [.bs 16 L]),(7000,none,0,.arr 5 1 k (o5 (L.take k)))]⟩
theorem Om(L:List UInt8)(hL:L.length=16):TW Tryz.prog a_ 23 [.w (.agg [.bs 16 L])] 5 1 16 (o5 L):=by
 have M:=aCB
 have hb1:Tryz.prog.types[5].bytes=1:=by kernel_rfl
 refine aEd Tryz.func23 rfl rfl bQ (fun A hS hn hI=>?_);refine aB M hI hn (by rfl) (by kernel_rfl) ?_ ?_
 ·simp
 refine aB M hI hn (by rfl) (by kernel_rfl) ?_ ?_
 ·simp
 refine aJ ?_;refine aB M hI hn (by rfl) (by kernel_rfl) ?_ ?_
 ·simp
 refine aI (s':=SV L 0) (fun a w hg=>((hg.nilRow (x:=7000) (e:=5) (n:=1) (t:=3) (by rfl) (by rfl)).reset (kT:=[1,3,4]) (kO:=[0,7000]) (by rfl) (by simp)).same ?_ ?_) ?_
 ·exact .cons rfl (.cons rfl (.cons rfl .nil))
 ·exact .cons (.box rfl) (.cons (.arr rfl (fun i hi=>by omega)) .nil)
 refine bF ?_;refine iH 16 (fun k t=>t=SV L k) 0 rfl (by omega) (fun k t hJ hk=>?_);subst hJ;refine aJ ?_;refine aB M hI hn (by rfl) (by kernel_rfl) ?_ ?_
 ·simp
 refine aG (by rfl) (fun hc=>?_) (fun hc=>?_)
 ·have hk2:k<16:=by
   have:(k:Int)<16:=by simpa using hc
   omega
  refine aO ?_;change h_ _ _ _ _ _;refine aJ ?_;refine bF ?_;refine aP M hI hn (by rfl) (by kernel_rfl) ?_ ?_
  ·simp;rw[hb1];omega
  change h_ _ _ _ _ _;refine aP M hI hn (by rfl) (by kernel_rfl) ?_ ?_
  ·simp
  intro a w hg
  refine⟨k+1,_,by omega,by omega,rfl,(hg.reset (kT:=[1,3,4]) (kO:=[0,7000]) (by rfl) ?_).same ?_ ?_⟩
  ·simp only[All,and_true,List.append_nil,List.nil_append];intro i hi;unfold ou
   split
   ·rfl
   ·rw[show i-k=0 from by omega];rfl
  ·exact .cons rfl (.cons rfl (.cons (by rw[fP k (by omega)]) .nil))
  ·refine .cons (.box rfl) (.cons (.arr rfl (fun i hi=>?_)) .nil);rw[Int.toNat_natCast];unfold ou
   split
   ·unfold o5;rw[getD_take (by omega),getD_take (by omega)]
   ·obtain rfl:i=k:=by omega
    rw[Nat.sub_self];unfold o5;rw[getD_take (by omega)];rfl
 ·have hkk:k=16:=by
   have:¬(k:Int)<16:=by simpa using hc
   omega
  subst hkk;refine gQ ?_;change h_ _ _ _ _ _;refine aB M hI hn (by rfl) (by kernel_rfl) ?_ ?_
  ·simp
  refine aK (fun a w hg=>⟨.inr rfl,_,?_,hg⟩);refine aIh (x:=7000) (ai:=0) (g:=none) (f:=?_) (out:=?_) ?_ ?_ ?_ ?_ ?_ trivial ?_;rotate_left 2
  ·rfl
  ·simp
  ·rfl
  ·rfl
  ·rfl
  intro i hi
  refine⟨?_,rfl⟩
  rw[List.take_of_length_le (by omega)]
def S9:Spec:=aCr fun xs=>match xs with
 |[.w (.agg [.bs 16 l])]=>some (True,5,1,16,o5 l)
 |_=>none
theorem UM:aj Tryz.prog a_ 23 S9:=by
 refine zJ (aF Tryz.func23 (by kernel_rfl) rfl) (fun xs p e n len f' hg hp=>?_)
 split at hg
 ·cases hg;exact fun w ok0 vs hI hv=>Om _ (GK hv) w ok0 vs hI hv
 ·cases hg
def Ed(b:List (List Int))(k:Nat):St:=⟨[(2,none,dm (.pt 0 0 0)),(3,none,dm (.pt 1 0 0)),(5,none,gy k)],[(0,none,0,.box 60 (y9 b)),(1,none,0,.box 60 (y9 b))]⟩
def TL(b:List (List Int))(k j:Nat):St:=⟨(6,none,gy j)::(Ed b k).t,(Ed b k).o⟩
theorem aYt(b:List (List Int))(hb:b.length<=1000)(hb2:∀ l∈b,l.length<=100000):gB Tryz.prog a_ 25 true [.w (.agg (y9 b)),.w (.agg (y9 b))] (qc true):=by
 have M:=noM (I:=a_);refine bI Tryz.func25 rfl rfl bQ (fun A hS hn hI=>?_);refine aB M hI hn (by rfl) (by kernel_rfl) ?_ ?_
 ·simp
 refine aJ ?_;refine aB M hI hn (by rfl) (by kernel_rfl) ?_ ?_
 ·simp
 refine aG (by rfl) (fun hc=>?_) (fun hc=>?_)
 ·have hc2:((b.length:Int) != (b.length:Int))=true:=hc;simp at hc2
 refine aO ?_;change h_ _ _ _ _ _;refine aJ ?_;refine aB M hI hn (by rfl) (by kernel_rfl) ?_ ?_
 ·simp
 refine bF ?_;refine aI (s':=Ed b 0) (fun a w hg=>(hg.reset (kT:=[2,3,5]) (kO:=[0,1]) (by rfl) (by simp)).same ?_ ?_) ?_
 ·exact IX rfl
 ·exact ER rfl
 refine iH b.length (fun k t=>t=Ed b k) 0 rfl (by omega) (fun k t hJ hk=>?_);subst hJ;refine aJ ?_;refine aB M hI hn (by rfl) (by kernel_rfl) ?_ ?_
 ·simp
 refine aG (by rfl) (fun hc=>?_) (fun hc=>?_)
 ·have hk2:k<b.length:=by simpa using hc
  refine aO ?_;change h_ _ _ _ _ _;refine aJ ?_;refine bF ?_;refine aJ ?_
  have hlk:(b.getD k []).length<=100000:=by
   rw[zG,zH hk2];exact hb2 _ (List.getElem_mem hk2)
  refine aB M hI hn (by rfl) (by kernel_rfl) ?_ ?_
  ·simp;exact hk2
  refine aG (by rfl) (fun hc=>?_) (fun hc=>?_)
  ·have hc2:(((b.getD (k:Int).toNat []).length:Int) != ((b.getD (k:Int).toNat []).length:Int))=true:=hc;simp at hc2
  refine aO ?_;change h_ _ _ _ _ _;refine aB M hI hn (by rfl) (by kernel_rfl) ?_ ?_
  ·simp
  refine bF ?_;refine aI (s':=TL b k 0) (fun a w hg=>(hg.reset (kT:=[6,2,3,5]) (kO:=[0,1]) (by rfl) (by simp)).same ?_ ?_) ?_
  ·exact IX rfl
  ·exact ER rfl
  refine iH (b.getD k []).length (fun j t=>t=TL b k j) 0 rfl (by omega) (fun j t hJ hj=>?_);subst hJ;refine aJ ?_;refine aB M hI hn (by rfl) (by kernel_rfl) ?_ ?_
  ·simp;exact hk2
  refine aG (by rfl) (fun hc=>?_) (fun hc=>?_)
  ·have hj2:j<(b.getD k []).length:=by simpa using hc
   refine aO ?_;change h_ _ _ _ _ _;refine aJ ?_;refine bF ?_;refine aB M hI hn (by rfl) (by kernel_rfl) ?_ ?_
   ·simp;rw[zG] at hj2
    exact⟨hk2,hj2,hk2,hj2⟩
   refine aG (by rfl) (fun hc=>?_) (fun hc=>?_)
   ·have hc2:((b.getD (k:Int).toNat []).getD (j:Int).toNat 0 != (b.getD (k:Int).toNat []).getD (j:Int).toNat 0)=true:=hc;simp at hc2
   refine aO ?_;change h_ _ _ _ _ _;refine aP M hI hn (by rfl) (by kernel_rfl) ?_ ?_
   ·simp
   intro a w hg
   refine⟨j+1,_,by omega,by omega,rfl,(hg.reset (kT:=[6,2,3,5]) (kO:=[0,1]) (by rfl) (by simp)).same ?_ ?_⟩
   ·exact .cons (by rw[fP j (by omega)]) (IX rfl)
   ·exact ER rfl
  ·refine gQ ?_;change h_ _ _ _ _ _;refine aP M hI hn (by rfl) (by kernel_rfl) ?_ ?_
   ·simp
   intro a w hg
   refine⟨k+1,_,by omega,by omega,rfl,(hg.reset (kT:=[2,3,5]) (kO:=[0,1]) (by rfl) (by simp)).same ?_ ?_⟩
   ·exact .cons rfl (.cons rfl (.cons (by rw[fP k (by omega)]) .nil))
   ·exact ER rfl
 ·refine gQ ?_;change h_ _ _ _ _ _;refine aB M hI hn (by rfl) (by kernel_rfl) ?_ ?_
  ·simp
  refine aK (fun a w hg=>⟨.inr rfl,_,?_,hg⟩);refine aC (by rfl) (by simp) (by rfl) (by rfl) ?_;rfl
def aJL(n m:Nat)(f g:Nat->List PC):Prop:=n=m/\lW n f/\lW m g/\bC n f=bC m g/\n<=1000/\∀ l∈bC n f,l.length<=100000
def Ht:List PV->Option (Prop×PV)
 |[.w (.agg [.sl 1 n f]),.w (.agg [.sl 1 m g])]=>some (aJL n m f g,qc true)
 |_=>none
theorem aUw:aj Tryz.prog a_ 25 (aZ true Ht):=by
 refine aY (aF Tryz.func25 (by kernel_rfl) rfl) (fun xs p r hg hp w ok0 vs hI hv=>?_);unfold Ht at hg
 split at hg
 ·rename_i n f m g;cases hg;obtain⟨rfl,h1,h2,h3,h4,h5⟩:=hp
  match vs,hv with
  |[v1,v2],⟨k1,k2,_⟩=>
   have q2:=Yu h2 k2;rw[<-h3] at q2;exact aYt (bC n f) (by rw[dF];exact h4) h5 w ok0 [v1,v2] hI ⟨Yu h1 k1,q2,trivial⟩
 ·cases hg
def aYs:List PV->Option (Prop×PV)
 |[]=>some (True,qc true)
 |_=>none
theorem aUv:aj Tryz.prog a_ 9 (aZ true aYs):=by
 refine aY (aF Tryz.func9 (by kernel_rfl) rfl) (fun xs p r hg hp=>?_);unfold aYs at hg
 split at hg
 ·cases hg;exact aUu
 ·cases hg
def fgL(H:Nat->j_):List (Nat×Spec):=(9,aZ true aYs)::(12,newSpec 57 (CP H false))::(14,aZ true J7)::(20,aZ false aIz) ::
 (23,S9)::(25,aZ true Ht)::WV
theorem fgM{H:Nat->j_}(hb:WY Tryz.prog a_ 12 57 (CP H false)):kw Tryz.prog a_ (find (fgL H)):=⟨bV (fun p hp=>by
 simp only[fgL,List.mem_cons] at hp;rcases hp with rfl|rfl|rfl|rfl|rfl|rfl|hp
 ·exact aUv
 ·exact aGp (aF Tryz.func12 (by kernel_rfl) rfl) hb
 ·exact aIu
 ·exact aMr
 ·exact UM
 ·exact aUw
 ·exact aDq p hp),fC⟩
theorem Vb(n:Int):0<=IntKind.u8.wrap n/\IntKind.u8.wrap n<256:=by
 rw[IntKind.wrap_u8'];omega
theorem Qb(b:Nat)(h:b<=255):IntKind.i64.wrap (0+IntKind.i64.wrap (b:Int))=0+(b:Int):=by
 rw[IntWalk.i64_in (b:Int) (by omega),IntWalk.i64_in _ (by omega)]
theorem bCd(a n:Nat)(h:a<=65535):(IntKind.i64.wrap (a:Int)).tmod (n:Int)=((a % n:Nat):Int):=by
 rw[IntWalk.i64_in (a:Int) (by omega)];rfl
def BP(x:UInt8)(b:Nat):UInt8:=UInt8.ofNat (Int.toNat (IntKind.u8.wrap ((BitVec.ofInt IntKind.u8.bits (x.toNat:Int) ^^^ BitVec.ofInt IntKind.u8.bits (b:Int)).toNat:Int)))
def AQ(wh at' by':Nat)(X:jh):jh:=
 if wh % 4=0 then { X with xt:=X.xt.set (at' % 16) (BP (X.xt.getD (at' % 16) 0) by') } else
  if wh % 4=1 then { X with xl:=X.xl+by' } else
   if wh % 4=2 then { X with id:=X.id.set (at' % 16) (BP (X.id.getD (at' % 16) 0) by') } else { X with bc:=strOf (X.bc.data.toList.take (at' % X.bc.size)) }
theorem Vd(X:jh)(a:Nat)(ha:a<=65535)(hb5:X.bc.size=5):[PC.lit (.int .i64 X.kind),.bs 16 X.root,.bs 16 X.id,.bs 16 X.link,.lit (.string X.payload),.bs 16 X.ot,.lit (.int .i64 X.ol),.bs 16 X.xt,.lit (.int .i64 X.xl),.lit (.int .i64 X.bn),
  .lit (.string { data:=(rowB ((IntKind.i64.wrap (a:Int)).tmod (X.bc.size:Int)-0).toNat fun i=>o5 X.bc.data.toList (Int.toNat 0+i)).toArray }),.bs 16 X.bt]=yw { X with bc:=strOf (X.bc.data.toList.take (a % X.bc.size)) }:=by
 have hl:X.bc.data.toList.length=X.bc.size:=Array.length_toList;rw[bCd _ _ ha,Int.sub_zero,Int.toNat_natCast,show Int.toNat 0=0 from rfl,kV (by rw[hl,hb5];omega),List.drop_zero];rfl
def Yc(wh at' by':Nat):List (Nat×Option Bool×PV):=[(0,none,ji (.int .u8 wh)),(1,none,ji (.int .u16 at')),(2,none,ji (.int .u8 by')),(7,none,qc true),(8,none,dm (.pt 4000 0 0))]
def Yb(H:Nat->j_):Nat×Option Bool×Nat×o6:=(4000,none,0,.box 57 (CP H false))
def aKR(H:Nat->j_)(wh at' by':Nat)(o:jg):St:=⟨(10,none,dm (.pt 5012 0 0))::Yc wh at' by',[(5012,none,0,.box 40 (gq o)),Yb H]⟩
def aKQ(H:Nat->j_)(wh at' by':Nat)(m:jh):St:=⟨(11,none,dm (.pt 6001 0 0))::Yc wh at' by',[(6001,none,0,.box 31 (yw m)),Yb H]⟩
def aKP(H:Nat->j_)(wh at' by':Nat)(o:jg):St:=⟨(13,none,dm (.pt 8012 0 0))::Yc wh at' by',[(8012,none,0,.box 40 (gq o)),Yb H]⟩
def aBV(H:Nat->j_)(wh at' by':Nat)(X:jh):St:=⟨(14,none,dm (.pt 9001 0 0))::(15,none,dm (.sl 1 X.bc.size (o5 X.bc.data.toList)))::Yc wh at' by',[(9001,none,0,.box 31 (yw X)),Yb H]⟩
def aBU(H:Nat->j_)(wh at' by':Nat)(X:jh):St:=⟨(14,none,dm (.pt 9001 0 0))::Yc wh at' by',[(9001,none,0,.box 31 (yw X)),Yb H]⟩
def aBT(H:Nat->j_)(wh at' by':Nat)(Y:jh)(q:QS):St:=⟨(16,none,dm (.pt 23011 0 0))::(17,none,dm (.pt 23012 0 0))::(14,none,dm (.pt 9001 0 0))::Yc wh at' by',[(23011,none,0,.box 65 (lw q.2.1)),(23012,none,0,.box 40 (gq (bH q.1))),(9001,none,0,.box 31 (yw Y)),Yb H]⟩
theorem aWg{H:Nat->j_}(hb:WY Tryz.prog a_ 12 57 (CP H false))(q1 q2 q5:QS)(wh at' by':Nat)(_:wh<=255)(ha:at'<=65535)(hby:by'<=255)(o1 o2:jg)
  (e1:eG [] (dJ (BF 1 4)) (H 1) 0=q1) (k1:bH q1.1=o1) (e2:eG [] (dJ (Ak o1)) (H 0) 0=q2) (k2:bH q2.1=o2) (e5:by'≠0->eG [] (dJ (AQ wh at' by' (rq o2))) (H 1) 0=q5)
  (pY:by'≠0->u_ (AQ wh at' by' (rq o2))) (fa:by'≠0->(bH q5.1).err=0->wh % 4=3) (fb:by'≠0->(bH q5.1).err=0->opened (iW (AQ wh at' by' (rq o2)).link [116,114,97,110,115,102,101,114] [(AQ wh at' by' (rq o2)).id,d_ 0]) (AQ wh at' by' (rq o2)).bn (AQ wh at' by' (rq o2)).bc (AQ wh at' by' (rq o2)).bt=true)
  (fi:by'≠0->(AQ wh at' by' (rq o2)).id.length=16) (fc:by'≠0->(bH q5.1).err≠0->q5.2.1.b=(H 1).b)
  (d0:qh (H 0)) (d1:qh (H 1)) (p2:u_ (Ak o1)) (_:u_ (rq o2)) (hbc:o2.bc.size=5) (hxl:o2.xl=0) (hxt:o2.xt=DX 1) :
  gB Tryz.prog a_ 8 true [ji (.int .u8 wh),ji (.int .u16 at'),ji (.int .u8 by')] (qc true):=by
 have M:=fgM hb;refine bI Tryz.func8 rfl rfl bQ (fun A hS hn hI=>?_);refine aB M hI hn (by rfl) (by kernel_rfl) ?_ ?_
 ·simp
 refine aB M hI hn (by rfl) (by kernel_rfl) ?_ ?_
 ·simp
 refine aJ ?_;refine aB M hI hn (by rfl) (by kernel_rfl) ?_ ?_
 ·simp
 refine aG (by rfl) (fun hc=>?_) (fun hc=>?_)
 ·refine aB M hI hn (by rfl) (by kernel_rfl) ?_ ?_
  ·simp
  refine aK (fun a w hg=>⟨.inr rfl,_,?_,hg⟩);refine aC (by rfl) (by simp) (by rfl) (by rfl) ?_;rfl
 have hb0:by'≠0:=by
  intro h;subst h;cases hc
 refine aO ?_;change h_ _ _ _ _ _;refine aB M hI hn (by rfl) (by kernel_rfl) ?_ ?_
 ·simp
 refine aB M hI hn (by rfl) (by kernel_rfl) ?_ ?_
 ·simp
  exact⟨d1,Yw 1 4⟩
 refine aI (s':=aKR H wh at' by' o1) (fun a w hg=>(hg.reset (kT:=[10,0,1,2,7,8]) (kO:=[5012,4000]) (by rfl) (by simp)).same ?_ ?_) ?_
 ·exact .cons rfl (.cons rfl (.cons rfl (.cons rfl (.cons rfl (.cons rfl .nil)))))
 ·refine .cons (.box ?_) (.cons (.box rfl) .nil);rw[<-k1,<-e1];change gq (bH (eG [] (dJ (BF 1 4)) (⟨bC (H 1).b.length (bJ (H 1).b),iP (H 1).f.length (tu (H 1).f),(H 1).r⟩:j_) 0).1)=_;rw[aH,bK]
 refine aB M hI hn (by rfl) (by kernel_rfl) ?_ ?_
 ·simp
 refine aB M hI hn (by rfl) (by kernel_rfl) ?_ ?_
 ·simp
 refine aI (s':=aKQ H wh at' by' (Ak o1)) (fun a w hg=>(hg.reset (kT:=[11,0,1,2,7,8]) (kO:=[6001,4000]) (by rfl) (by simp)).same ?_ ?_) ?_
 ·exact .cons rfl (.cons rfl (.cons rfl (.cons rfl (.cons rfl (.cons rfl .nil)))))
 ·exact .cons (.box rfl) (.cons (.box rfl) .nil)
 refine aB M hI hn (by rfl) (by kernel_rfl) ?_ ?_
 ·simp
  exact⟨d0,p2⟩
 refine aI (s':=aKP H wh at' by' o2) (fun a w hg=>(hg.reset (kT:=[13,0,1,2,7,8]) (kO:=[8012,4000]) (by rfl) (by simp)).same ?_ ?_) ?_
 ·exact .cons rfl (.cons rfl (.cons rfl (.cons rfl (.cons rfl (.cons rfl .nil)))))
 ·refine .cons (.box ?_) (.cons (.box rfl) .nil);rw[<-k2,<-e2];change gq (bH (eG [] (dJ (Ak o1)) (⟨bC (H 0).b.length (bJ (H 0).b),iP (H 0).f.length (tu (H 0).f),(H 0).r⟩:j_) 0).1)=_;rw[aH,bK]
 refine aB M hI hn (by rfl) (by kernel_rfl) ?_ ?_
 ·simp
 refine aB M hI hn (by rfl) (by kernel_rfl) ?_ ?_
 ·simp
 refine aB M hI hn (by rfl) (by kernel_rfl) ?_ ?_
 ·simp;omega
 obtain⟨X,hX⟩:∃ X,rq o2=X:=⟨_,rfl⟩;refine aI (s':=aBV H wh at' by' X) (fun a w hg=>(hg.reset (kT:=[14,15,0,1,2,7,8]) (kO:=[9001,4000]) (by rfl) (by simp)).same ?_ ?_) ?_
 ·rw[<-hX];exact .cons rfl (.cons rfl (.cons rfl (.cons rfl (.cons rfl (.cons rfl (.cons rfl .nil))))))
 ·rw[<-hX];exact .cons (.box rfl) (.cons (.box rfl) .nil)
 rw[hX] at e5 pY fb fi
 have hb5:X.bc.size=5:=by rw[<-hX];exact hbc
 have hX1:X.xl=0:=by rw[<-hX];exact hxl
 have hX2:X.xt=DX 1:=by rw[<-hX];exact hxt
 have FZ:X.id=DX 1:=by rw[<-hX];rfl
 have QT:X.link=y_ 7:=by rw[<-hX];rfl
 refine aJ ?_;refine aB M hI hn (by rfl) (by kernel_rfl) ?_ ?_
 ·simp
 refine aG (by rfl) (fun hc=>?_) (fun hc=>?_)
 ·have hc2:((X.bc.size:Int)==0)=true:=hc;rw[hb5] at hc2;cases hc2
 refine aO ?_;change h_ _ _ _ _ _;have h4:(wh:Int).tmod 4=((wh % 4:Nat):Int):=rfl
 have hi:((IntKind.i64.wrap (at':Int)).tmod 16).toNat=at' % 16:=by
  rw[IntWalk.i64_in _ (by omega)];rfl
 have hj:(IntKind.i64.wrap (at':Int)).tmod 16=((at' % 16:Nat):Int):=by
  rw[IntWalk.i64_in _ (by omega)];rfl
 have hu:=Vb
 have hy:IntKind.i64.wrap (X.xl+IntKind.i64.wrap (by':Int))=X.xl+by':=by rw[hX1];exact Qb by' hby
 refine aRt (aBU H wh at' by' (AQ wh at' by' X)) ?_ ?_
 ·refine aB M hI hn (by rfl) (by kernel_rfl) ?_ ?_
  ·simp
  refine bF ?_;refine aB M hI hn (by rfl) (by kernel_rfl) ?_ ?_
  ·simp
  refine aG (by rfl) (fun hc=>?_) (fun hc=>?_)
  ·have hc2:((wh:Int).tmod 4==0)=true:=hc
   have hk:wh % 4=0:=by
    rw[h4] at hc2;have:=beq_iff_eq.1 hc2;omega
   refine aP M hI hn (by rfl) (by kernel_rfl) ?_ ?_
   ·simp;rw[hj]
    exact⟨by omega,by omega,by omega,by omega,hu _⟩
   rw[hi];intro a w hg
   refine⟨rfl,(hg.reset (kT:=[14,0,1,2,7,8]) (kO:=[9001,4000]) (by rfl) (by simp)).same ?_ ?_⟩
   ·exact .cons rfl (.cons rfl (.cons rfl (.cons rfl (.cons rfl (.cons rfl .nil)))))
   ·refine .cons (.box ?_) (.cons (.box rfl) .nil);unfold AQ;rw[if_pos hk];rfl
  have hc0:((wh:Int).tmod 4==0)=false:=hc;refine aB M hI hn (by rfl) (by kernel_rfl) ?_ ?_
  ·simp
  refine aG (by rfl) (fun hc=>?_) (fun hc=>?_)
  ·have hc3:((wh:Int).tmod 4==1)=true:=hc
   have hk:wh % 4=1:=by
    rw[h4] at hc3;have:=beq_iff_eq.1 hc3;omega
   refine aP M hI hn (by rfl) (by kernel_rfl) ?_ ?_
   ·simp
   intro a w hg
   refine⟨rfl,(hg.reset (kT:=[14,0,1,2,7,8]) (kO:=[9001,4000]) (by rfl) (by simp)).same ?_ ?_⟩
   ·exact .cons rfl (.cons rfl (.cons rfl (.cons rfl (.cons rfl (.cons rfl .nil)))))
   ·refine .cons (.box ?_) (.cons (.box rfl) .nil);unfold AQ;rw[if_neg (by omega),if_pos hk,hy];rfl
  have hc1:((wh:Int).tmod 4==1)=false:=hc;refine aB M hI hn (by rfl) (by kernel_rfl) ?_ ?_
  ·simp
  refine aG (by rfl) (fun hc=>?_) (fun hc=>?_)
  ·have hc4:((wh:Int).tmod 4==2)=true:=hc
   have hk:wh % 4=2:=by
    rw[h4] at hc4;have:=beq_iff_eq.1 hc4;omega
   refine aP M hI hn (by rfl) (by kernel_rfl) ?_ ?_
   ·simp;rw[hj]
    exact⟨by omega,by omega,by omega,by omega,hu _⟩
   rw[hi];intro a w hg
   refine⟨rfl,(hg.reset (kT:=[14,0,1,2,7,8]) (kO:=[9001,4000]) (by rfl) (by simp)).same ?_ ?_⟩
   ·exact .cons rfl (.cons rfl (.cons rfl (.cons rfl (.cons rfl (.cons rfl .nil)))))
   ·refine .cons (.box ?_) (.cons (.box rfl) .nil);unfold AQ;rw[if_neg (by omega),if_neg (by omega),if_pos hk];rfl
  have hc2:((wh:Int).tmod 4==2)=false:=hc;refine aB M hI hn (by rfl) (by kernel_rfl) ?_ ?_
  ·simp;rw[bCd _ _ ha]
   have hm:at' % X.bc.size<=X.bc.size:=by rw[hb5];omega
   refine⟨?_,by omega,by omega⟩
   intro h;rw[h] at hb5;cases hb5
  refine aP M hI hn (by rfl) (by kernel_rfl) ?_ ?_
  ·simp
  have hk0:¬wh % 4=0:=fun h=>by rw[h4,h] at hc0;cases hc0
  have hk1:¬wh % 4=1:=fun h=>by rw[h4,h] at hc1;cases hc1
  have hk2:¬wh % 4=2:=fun h=>by rw[h4,h] at hc2;cases hc2
  intro a w hg
  refine⟨rfl,(hg.reset (kT:=[14,0,1,2,7,8]) (kO:=[9001,4000]) (by rfl) (by simp)).same ?_ ?_⟩
  ·exact .cons rfl (.cons rfl (.cons rfl (.cons rfl (.cons rfl (.cons rfl .nil)))))
  ·refine .cons (.box ?_) (.cons (.box rfl) .nil);unfold AQ;rw[if_neg hk0,if_neg hk1,if_neg hk2];exact Vd X at' ha hb5
 replace e5:=e5 hb0
 replace pY:=pY hb0
 replace fa:=fa hb0
 replace fb:=fb hb0
 replace fc:=fc hb0
 replace fi:=fi hb0
 obtain⟨Y,hY⟩:∃ Y,AQ wh at' by' X=Y:=⟨_,rfl⟩
 rw[hY] at e5 pY fb fi ⊢;refine aB M hI hn (by rfl) (by kernel_rfl) ?_ ?_
 ·simp
  exact⟨d1,pY⟩
 refine aI (s':=aBT H wh at' by' Y q5) (fun a w hg=>(hg.reset (kT:=[16,17,14,0,1,2,7,8]) (kO:=[23011,23012,9001,4000]) (by rfl) (by simp)).same ?_ ?_) ?_
 ·exact .cons rfl (.cons rfl (.cons rfl (.cons rfl (.cons rfl (.cons rfl (.cons rfl (.cons rfl .nil)))))))
 ·refine .cons (.box ?_) (.cons (.box ?_) (.cons (.box rfl) (.cons (.box rfl) .nil)))
  ·rw[<-e5];change lw (eG [] (dJ Y) (⟨bC (H 1).b.length (bJ (H 1).b),iP (H 1).f.length (tu (H 1).f),(H 1).r⟩:j_) 0).2.1=_;rw[aH,bK]
  ·rw[<-e5];change gq (bH (eG [] (dJ Y) (⟨bC (H 1).b.length (bJ (H 1).b),iP (H 1).f.length (tu (H 1).f),(H 1).r⟩:j_) 0).1)=_;rw[aH,bK]
 refine aJ ?_;refine aB M hI hn (by rfl) (by kernel_rfl) ?_ ?_
 ·simp
 refine aG (by rfl) (fun hc=>?_) (fun hc=>?_)
 ·have hc2:(bif (wh:Int).tmod 4==3 then (bH q5.1).err==0 else false)=true:=hc
  have herr:(bH q5.1).err=0:=by
   cases h:((wh:Int).tmod 4==3) with
   |false=>rw[h] at hc2;cases hc2
   |true=>rw[h] at hc2;exact beq_iff_eq.1 hc2
  have ho:=fb herr;refine aB M hI hn (by rfl) (by kernel_rfl) ?_ ?_
  ·simp;have hw0:=aX 0
   exact⟨Rh,⟨by rw[dZ];omega,by decide,by rw[dZ];omega,by omega⟩,pY.bn,by have:=pY.bc;omega⟩
  refine aI (s':=⟨[(19,none,gy 0),(7,none,qc true)],[]⟩) (fun a w hg=>(hg.reset (kT:=[19,7]) (kO:=[]) (by rfl) (by simp)).same ?_ ?_) ?_
  ·refine .cons ?_ (.cons rfl .nil);change ji (.int .i64 (bif opened (iW (rowB 16 (o5 Y.link)) [116,114,97,110,115,102,101,114] [rowB 16 (o5 Y.id),rowB (d_ 0).length (o5 (d_ 0))]) Y.bn Y.bc Y.bt then 0 else 8))=_;rw[aLt pY.link,aLt fi,eF,ho];rfl
  ·exact .nil
  refine aB M hI hn (by rfl) (by kernel_rfl) ?_ ?_
  ·simp
  refine aK (fun a w hg=>⟨.inr rfl,_,?_,hg⟩);refine aC (by rfl) (by simp) (by rfl) (by rfl) ?_;rfl
 have hc2:(bif (wh:Int).tmod 4==3 then (bH q5.1).err==0 else false)=false:=hc
 have herr:¬(bH q5.1).err=0:=by
  intro h;rw[h4,fa h,h] at hc2;cases hc2
 refine aO ?_;change h_ _ _ _ _ _;refine aB M hI hn (by rfl) (by kernel_rfl) ?_ ?_
 ·simp[hP];intro h;rw[fc herr]
  exact⟨rfl,yJ _ _,yJ _ _,rfl,d1.ok.nb,by rw[aH];exact d1.ok.nc⟩
 refine aI (s':=⟨[(6,none,qc true)],[]⟩) (fun a w hg=>(hg.reset (kT:=[6]) (kO:=[]) (by rfl) (by simp)).same ?_ ?_) ?_
 ·refine .cons (congrArg qc ?_) .nil;simp[herr]
 ·exact .nil
 refine aK (fun a w hg=>⟨.inr rfl,_,?_,hg⟩);refine aC (by rfl) (by simp) (by rfl) (by rfl) ?_;rfl
theorem OC(x:UInt8)(b:Nat)(h0:b≠0)(h:b<=255):BP x b≠x:=by
 intro e;have hx:x.toNat<256:=x.toNat_lt
 have e1:(BitVec.ofInt IntKind.u8.bits (x.toNat:Int) ^^^ BitVec.ofInt IntKind.u8.bits (b:Int)).toNat=x.toNat ^^^ b:=by
  have h1:(BitVec.ofInt IntKind.u8.bits (x.toNat:Int)).toNat=x.toNat:=by
   rw[BitVec.ofInt_natCast,BitVec.toNat_ofNat];exact Nat.mod_eq_of_lt hx
  have h2:(BitVec.ofInt IntKind.u8.bits (b:Int)).toNat=b:=by
   rw[BitVec.ofInt_natCast,BitVec.toNat_ofNat];exact Nat.mod_eq_of_lt (show b<256 by omega)
  rw[BitVec.toNat_xor,h1,h2]
 have hlt:x.toNat ^^^ b<256:=Nat.xor_lt_two_pow (n:=8) hx (by omega);unfold BP at e;rw[e1,IntKind.wrap_u8',Int.emod_eq_of_lt (by omega) (by omega),Int.toNat_natCast] at e;have e2:=congrArg UInt8.toNat e;rw[UInt8.toNat_ofNat'] at e2;have e3:x.toNat ^^^ b=x.toNat:=(Nat.mod_eq_of_lt hlt).symm.trans e2
 have e4:x.toNat ^^^ (x.toNat ^^^ b)=b:=by rw[<-Nat.xor_assoc,Nat.xor_self,Nat.zero_xor]
 rw[e3,Nat.xor_self] at e4;exact h0 e4.symm
theorem Gy(l:List UInt8)(k b:Nat)(hk:k<l.length)(h0:b≠0)(h:b<=255):(l.set k (BP (l.getD k 0) b)==l)=false:=by
 rw[beq_eq_false_iff_ne];intro e
 have h1:(l.set k (BP (l.getD k 0) b))[k]?=l[k]?:=by rw[e]
 rw[List.getElem?_set_self hk,zH hk] at h1;have h2:=Option.some.inj h1;rw[zG,zH hk,Option.getD_some] at h2;exact OC _ b h0 h h2
theorem OV(l:List UInt8)(k b:Nat)(hk:k<l.length)(h0:b≠0)(h:b<=255):(l==l.set k (BP (l.getD k 0) b))=false:=by
 have:=Gy l k b hk h0 h;rw[beq_eq_false_iff_ne] at this ⊢;exact fun e=>this e.symm
section
variable {m:jh} {f:Fl} {s:Int} {c2:List Int} {b q:List UInt8}
theorem NU(hk:m.kind=7)(hx:(m.xt==m.id)=false)(h:j_):oz (kR m) h=(.error 1,h):=by
 unfold kR;refine uY ?_;rw[uJ (by omega)];unfold uK;rw[if_neg (by omega),if_neg (by omega),if_pos hk,hx];rfl
theorem RU(hk:m.kind=7)(hx:(m.xt==m.id)=true)(hl:¬m.xl=0):oz (kR m) (rf c2 (cl 0) f q)=(.error 14,rf c2 (cl 0) f q):=by
 rw[lY (yQ hk hx) (by omega)];unfold pM;rw[if_neg (by omega),if_neg (by omega),if_neg (by omega),if_neg (by omega),if_neg (by omega),if_neg (by omega)];unfold rM;rw[bT (xX (by omega) rfl _)];refine uY ?_;rw[show (m.xl==((0:Nat):Int))=false from by rw[beq_eq_false_iff_ne];exact hl];rfl
theorem NV(hk:m.kind=7)(hx:(m.xt==m.id)=true)(hl:m.xl=0)(ho:opened (keyS m.link m.xt m.xl) m.bn m.bc m.bt=false):oz (kR m) (rf c2 (cl 0) f q)=(.error 8,rf c2 (cl 0) f q):=by
 rw[lY (yQ hk hx) (by omega)];unfold pM;rw[if_neg (by omega),if_neg (by omega),if_neg (by omega),if_neg (by omega),if_neg (by omega),if_neg (by omega)]
 have e1:Yr m=8:=by unfold Yr;rw[ho];rfl
 unfold rM;rw[bT (xX (by omega) rfl _),hl,show ((0:Int)==((0:Nat):Int))=true from rfl,bT (cO _ _),e1];exact uY rfl
end
theorem bCh(wh at' by':Nat)(hw:wh<=255)(ha:at'<=65535)(hby:by'<=255):gB Tryz.prog a_ 8 true [ji (.int .u8 wh),ji (.int .u16 at'),ji (.int .u8 by')] (qc true):=by
 obtain⟨n,fA,fB,B⟩:=aTx;have hb:=NJ (some Ye,rf (cl 0) (cl 1) fA (iL 0),n) _ _ _ rfl rfl rfl B.cr;have hbad:WT (some Ye,rf (cl 0) (cl 1) fA (iL 0),n)=false:=rfl;rw[hbad] at hb
 have hst:stB.size<=1000:=by show (5:Nat)<=1000;decide
 obtain⟨n1,e1⟩:=rP off1;obtain⟨n2,e2⟩:=rP B.snd;have zA:=B.hA.ig.sz
 have hbc:(fQ (y_ 7) zt).bc.size=5:=by
  show (strOf (dQ (keyS (y_ 7) zt.ot zt.ol) zt.ol stB.data.toList)).size=5;rw[bM,dU];rfl
 have p4:=bEo (r:=zt) rfl Rh hst;obtain⟨X,hX⟩:∃ X,rq (fQ (y_ 7) zt)=X:=⟨_,rfl⟩
 have hX0:X.kind=7:=by rw[<-hX];rfl
 have hX1:X.xl=0:=by rw[<-hX];rfl
 have hX2:X.xt=DX 1:=by rw[<-hX];rfl
 have FZ:X.id=DX 1:=by rw[<-hX];rfl
 have QT:X.link=y_ 7:=by rw[<-hX];rfl
 have hX5:X.bc.size=5:=by rw[<-hX];exact hbc
 have xu:=p4;rw[hX] at xu;have hid:(DX 1).length=16:=rfl;have h16:at' % 16<16:=Nat.mod_lt _ (by decide);have hlb:X.bc.data.toList.length=X.bc.size:=Array.length_toList
 have main:by'≠0->∃ x h',oz (kR (AQ wh at' by' X)) (D8 (iL 1))=(x,h')/\u_ (AQ wh at' by' X)/\(AQ wh at' by' X).id.length=16 /\
   ((∃ e,x=.error e/\¬e=0/\h'=D8 (iL 1))\/(wh % 4=3/\(WC oD x).err=0/\opened (iW (AQ wh at' by' X).link [116,114,97,110,115,102,101,114] [(AQ wh at' by' X).id,d_ 0]) (AQ wh at' by' X).bn (AQ wh at' by' X).bc (AQ wh at' by' X).bt=true)):=by
  intro hb0;unfold AQ
  by_cases k0:wh % 4=0
  ·rw[if_pos k0]
   refine⟨_,_,NU (m:={ X with xt:=X.xt.set (at' % 16) (BP (X.xt.getD (at' % 16) 0) by') }) hX0 ?_ _,⟨xu.root,xu.link,xu.ot,by show (X.xt.set _ _).length=16;rw[List.length_set];exact xu.xt,xu.ol,xu.xl,xu.bn,xu.payload,xu.bc⟩,by show X.id.length=16;rw[FZ];rfl,.inl ⟨1,rfl,by decide,rfl⟩⟩
   show (X.xt.set (at' % 16) (BP (X.xt.getD (at' % 16) 0) by')==X.id)=false;rw[hX2,FZ];exact Gy _ _ _ (by rw[hid];exact h16) hb0 hby
  rw[if_neg k0]
  by_cases k1:wh % 4=1
  ·rw[if_pos k1]
   refine⟨_,_,RU (m:={ X with xl:=X.xl+by' }) (c2:=cl 0) (f:=Bc) (q:=iL 1) hX0 ?_ ?_,⟨xu.root,xu.link,xu.ot,xu.xt,xu.ol,by show iq (X.xl+by');rw[hX1];unfold iq;omega,xu.bn,xu.payload,xu.bc⟩,by show X.id.length=16;rw[FZ];rfl,.inl ⟨14,rfl,by decide,rfl⟩⟩
   ·show (X.xt==X.id)=true;rw[hX2,FZ];exact beq_self_eq_true _
   ·show ¬X.xl+(by':Int)=0;rw[hX1];omega
  rw[if_neg k1]
  by_cases k2:wh % 4=2
  ·rw[if_pos k2]
   refine⟨_,_,NU (m:={ X with id:=X.id.set (at' % 16) (BP (X.id.getD (at' % 16) 0) by') }) hX0 ?_ _,⟨xu.root,xu.link,xu.ot,xu.xt,xu.ol,xu.xl,xu.bn,xu.payload,xu.bc⟩,by show (X.id.set _ _).length=16;rw[List.length_set,FZ];rfl,.inl ⟨1,rfl,by decide,rfl⟩⟩
   show (X.xt==X.id.set (at' % 16) (BP (X.id.getD (at' % 16) 0) by'))=false;rw[hX2,FZ];exact OV _ _ _ (by rw[hid];exact h16) hb0 hby
  rw[if_neg k2]
  have hcs:(strOf (X.bc.data.toList.take (at' % X.bc.size))).size<=5:=by
   rw[bM,List.length_take];omega
  obtain⟨Y,hY⟩:∃ Y:jh,{ X with bc:=strOf (X.bc.data.toList.take (at' % X.bc.size)) }=Y:=⟨_,rfl⟩
  have y0:Y.kind=7:=by rw[<-hY];exact hX0
  have y1:Y.xl=0:=by rw[<-hY];exact hX1
  have y2:Y.xt=DX 1:=by rw[<-hY];exact hX2
  have y3:Y.id=DX 1:=by rw[<-hY];exact FZ
  have y5:Y.bc.size<=5:=by rw[<-hY];exact hcs
  have yx:(Y.xt==Y.id)=true:=by rw[y2,y3];exact beq_self_eq_true _
  have yo:u_ Y:=by
   rw[<-hY]
   exact⟨xu.root,xu.link,xu.ot,xu.xt,xu.ol,xu.xl,xu.bn,xu.payload,by show (strOf _).size<=2000;omega⟩
  rw[hY]
  have hkey:keyS Y.link Y.xt Y.xl=iW Y.link [116,114,97,110,115,102,101,114] [Y.id,d_ 0]:=by unfold keyS;rw[y1,y2,y3]
  cases ho:opened (keyS Y.link Y.xt Y.xl) Y.bn Y.bc Y.bt with
  |false=>exact⟨_,_,NV (c2:=cl 0) (f:=Bc) (q:=iL 1) y0 yx y1 ho,yo,by rw[y3];rfl,.inl ⟨8,rfl,by decide,rfl⟩⟩
  | true=>
   have hp:(strOf (dQ (keyS Y.link Y.xt Y.xl) Y.bn Y.bc.data.toList)).size<=1000:=by
    rw[bM,dU];have:Y.bc.data.toList.length=Y.bc.size:=Array.length_toList;omega
   refine⟨_,_,aHp (m:=Y) (n:=0) (c2:=cl 0) (q:=iL 1) (f:=Bc) y0 ⟨yx,ho,rfl⟩ hp xY (by decide) (by decide) rfl y1,yo,by rw[y3];rfl,.inr ⟨by omega,rfl,?_⟩⟩
   rw[<-hkey];exact ho
 have hq5:∃ q5:QS,(by'≠0->eG [] (dJ (AQ wh at' by' X)) (D8 (iL 1)) 0=q5)/\(by'≠0->(bH q5.1).err=0->wh % 4=3)/\(by'≠0->(bH q5.1).err=0->opened (iW (AQ wh at' by' X).link [116,114,97,110,115,102,101,114] [(AQ wh at' by' X).id,d_ 0]) (AQ wh at' by' X).bn (AQ wh at' by' X).bc (AQ wh at' by' X).bt=true)/\(by'≠0->¬(bH q5.1).err=0->q5.2.1.b=(D8 (iL 1)).b):=by
  by_cases hb0:by'=0
  ·exact⟨⟨none,D8 (iL 1),0⟩,fun h=>absurd hb0 h,fun h=>absurd hb0 h,fun h=>absurd hb0 h,fun h=>absurd hb0 h⟩
  ·obtain⟨x,h',hx,_,_,hcase⟩:=main hb0;obtain⟨n5,e5⟩:=rP hx
   refine⟨_,fun _=>e5,?_,?_,?_⟩
   ·intro _ he;rcases hcase with⟨e,rfl,h1,_⟩|⟨h1,_⟩
    ·exact absurd he h1
    ·exact h1
   ·intro _ he;rcases hcase with⟨e,rfl,h1,_⟩|⟨_,_,h1⟩
    ·exact absurd he h1
    ·exact h1
   ·intro _ he;rcases hcase with⟨e,rfl,_,h1⟩|⟨_,h1,_⟩
    ·rw[h1]
    ·exact absurd h1 he
 obtain⟨q5,g1,g2,g3,g4⟩:=hq5
 have hmain:by'≠0->u_ (AQ wh at' by' X)/\(AQ wh at' by' X).id.length=16:=fun hb0=>by
  obtain⟨x,h',_,h1,h2,_⟩:=main hb0
  exact⟨h1,h2⟩
 have hbc':=hbc
 refine aWg hb _ _ q5 wh at' by' hw ha hby Dz (fQ (y_ 7) zt) e1 rfl e2 rfl ?_ ?_ ?_ ?_ ?_ ?_ (yP (by decide) (by decide) zA rfl) (bDb _ rfl) (aYm (o:=Dz) rfl Rh) p4 hbc rfl rfl
 ·rw[hX];exact g1
 ·rw[hX];exact fun h=>(hmain h).1
 ·exact g2
 ·rw[hX];exact g3
 ·rw[hX];exact fun h=>(hmain h).2
 ·exact g4
end Pv
section
open Go.ChangeShapes Go.WideShapes Go.ChangeAt Go.RowKit Go.Joins Go.Deep
open Go.ChangeMaps (open_string shut_string)
set_option linter.unusedVariables false
theorem own:ownKnob Tryz.prog.godebug=none:=by kernel_rfl
theorem laidOut:laidOutB Tryz.prog=true:=by kernel_rfl
theorem gK:Tryz.prog.globalNamed "bootchain/sha.constants" = some 2:=by kernel_rfl
theorem VY:(Tryz.prog.globals[2]?).map (·.type)=some 269:=by kernel_rfl
theorem gH:Tryz.prog.globalNamed "bootchain/sha.start" = some 0:=by kernel_rfl
theorem gHType:(Tryz.prog.globals[0]?).map (·.type)=some 263:=by kernel_rfl
theorem WA:Tryz.prog.cellsOf 269=64:=by kernel_rfl
theorem WB:Tryz.prog.cellsOf 263=8:=by kernel_rfl
theorem aTu:Tryz.prog.cellsOf 203=1:=by kernel_rfl
def Z5(l:List UInt32):List Int:=l.map fun x=>(x.toNat:Int)
theorem aCC:(Rows.laid_bootchain_sha_constants:DataW Unit)=Lib.tabData .u32 (Z5 wu):=by kernel_rfl
theorem aCD:(Rows.laid_bootchain_sha_start:DataW Unit)=Lib.tabData .u32 (Z5 mG):=by kernel_rfl
theorem aDb{W:World}{name:String}{l:List UInt32}{g:Nat}(h:Lib.TabIs Tryz.prog W name .u32 (Z5 l))(hg:Tryz.prog.globalNamed name=some g):W.rangeAt g 0 (l.map w32):=by
 intro j v hj;rw[List.getElem?_map] at hj;obtain⟨x,hx,rfl⟩:=Option.map_eq_some_iff.1 hj
 have hl:j<l.length:=by
  rcases Nat.lt_or_ge j l.length with h'|h'
  ·exact h'
  ·rw[List.getElem?_eq_none h'] at hx;cases hx
 have:=h.cell hg j (by unfold Z5;simpa using hl);rw[show (Z5 l).getD j 0=(x.toNat:Int) from by unfold Z5;simp[List.getD,hx]] at this
 simpa[w32] using this
theorem aFg{W:World}(h:laidMetH Tryz.prog [("bootchain/sha.constants",Rows.laid_bootchain_sha_constants),("bootchain/sha.start",Rows.laid_bootchain_sha_start)] W):a_ W:=by
 have h1:laidMet Tryz.prog [("bootchain/sha.constants",Rows.laid_bootchain_sha_constants),("bootchain/sha.start",Rows.laid_bootchain_sha_start)] W:=h;have h2:=laidMet.tail h1;rw[aCC] at h1;rw[aCD] at h2
 exact⟨aDb (Lib.tabIs_of_head gK VY Tryz.underlying269 Tryz.underlying203 aTu WA h1) gK,
  aDb (Lib.tabIs_of_head gH gHType Tryz.underlying263 Tryz.underlying203 aTu WB h2) gH⟩
def aSx(cs:List Value):Obj->Obj
 |.cells _ t frozen=>.cells cs.toArray t frozen
 |o=>o
noncomputable def laidWorld (os:Os):World:=
 { World.holding Tryz.prog os ⟨#[],#[],[]⟩ with
  heap:=((World.holding Tryz.prog os ⟨#[],#[],[]⟩).heap.modify 2 (aSx (wu.map w32))).modify 0 (aSx (mG.map w32)) }
section
variable {H:Type} {enc:TypeId×Value->H} {P:Program} {w:World} {base:Nat} {spare:Nat->Bool} {held:Bool}
end
end
section
open Go.ChangeShapes Go.WideShapes Go.ChangeAt Go.RowKit Go.Joins Go.Deep
section
variable {H:Type} {enc:TypeId×Value->H} {P:Program} {w:World} {base:Nat} {spare:Nat->Bool} {held:Bool}
end
end
section
open Go.ChangeShapes Go.WideShapes Go.ChangeAt Go.RowKit Go.Joins Go.Deep
end
namespace Pv
open Go.ChangeShapes Go.WideShapes Go.ChangeAt Go.RowKit Go.Joins Go.Deep
def argX(w:World):Ctx:={ w:=w,ok:=fun _=>True,env:=fun _=>none }
section
variable {H:Type} {enc:TypeId×Value->H} {w:World} {base:Nat} {spare:Nat->Bool} {held:Bool}
end
section
variable {H:Type} {enc:TypeId×Value->H} {w:World} {base:Nat} {spare:Nat->Bool} {held:Bool}
end
section
variable {H:Type} {enc:TypeId×Value->H} {v:Value} {d:DataW H} {p:List MemPlace} {W:World} {base:Nat}
theorem gB.law{P:Program}{I:World->Prop}{f:Nat}{new:Bool}{args:List PV}(h:gB P I f new args (qc true)){vs:List Value}(hI:I W)(hv:lm (argX W) args vs):Calls P f vs.toArray W fun e W'=>e=.returned (.bool true)/\Ext W W':=by
 refine (h W (fun _=>True) vs hI hv).mono ?_;rintro e w' ⟨val,rfl,hE,hr⟩
 exact⟨congrArg Ending.returned hr.dn,hE⟩
end
end Pv
end Go.Proofs.YtndpjopifkbgiaaGreatDoor
