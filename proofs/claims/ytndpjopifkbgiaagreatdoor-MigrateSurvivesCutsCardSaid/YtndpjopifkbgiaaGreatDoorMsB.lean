/-.-/
import Derived.Test.YtndpjopifkbgiaaGreatDoorMsA
import Derived.Laws.EntriesVeiled
import Derived.ArgAppend
import Derived.Lib.MakeNoZero
import Derived.Laws.CopyOwn
import Derived.Deep.RegionLaw
import Derived.Deep.Cut
import Derived.Outline
import Derived.WalkKit
import Derived.Laws.BitsAllLaws
set_option maxRecDepth 100000
set_option maxHeartbeats 4000000
namespace Go.Proofs.YtndpjopifkbgiaaGreatDoor
open Go.RowKit
section
theorem aQh (h:List UInt32) (bs:List UInt8) (v:Value) (w:World) (hM:a_ w) (hh:h.length=8) (hb:bs.length=64) (hr:Reads w 1 v 64 (bs.map gq)) :
    Calls Tryz.prog 201 #[.agg (h.map w32).toArray,v] w fun e w'=>e=.returned (.agg ((jT h bs).map w32).toArray)/\Ext w w':=by
  have HM:=hide hM;have HR:=hide hr;obtain⟨b0,o0,c0,rfl,bJi,hcm,hb0,_⟩:=hr.sub 0 64 (by omega) (by omega);unfold maxLen at hcm;clear hM hr;have HH:=hide hh;have HB:=hide hb;clear hh hb;generalize hcs:(h.map w32).toArray=hc;have HC:=hide hcs;clear hcs
  go_enter Tryz.func201,Tryz.ntmps201
  go_wp2
  go_loopw [15] (fun i wr=>∃ k:Nat,k<=64/\i=.int .i64 k/\Hid (aXa w hc bs k wr)) (fun i _=>64-(intOf i).toNat)
  case atStart=>
    refine⟨0,Nat.zero_le _,rfl,hide ⟨((au.new w _ hc).alloc _).alloc _,⟨_,(au.new' _ _ _ (by simp)).alloc _,rfl⟩,?_,(((Ext.refl w).alloc _).alloc _).alloc _⟩⟩
    have:=au.new' ((w.alloc (Obj.cells hc 263)).alloc (Obj.cells #[Value.int IntKind.u32 0,Value.int IntKind.u32 0,Value.int IntKind.u32 0,Value.int IntKind.u32 0,Value.int IntKind.u32 0,Value.int IntKind.u32 0,Value.int IntKind.u32 0,Value.int IntKind.u32 0] 263)) 269 (fM 64 (bY bs 0)) (g:=w.heap.size+1+1) (by simp);rw[show fM 64 (bY bs 0)=Array.replicate 64 (Value.int .u32 0) from aNd 64] at this ⊢;exact this
  case round=>
    obtain⟨k,hk,rfl,HS⟩:=hrel
    by_cases hlt:k<64
    ·
      have hL:=dO bs k
      obtain⟨old,hold⟩:∃ old,wr.cell? ⟨w.heap.size+1+1,k,none⟩=some old:=by
        rw[(aA HS).2.2.1.cell]
        exact⟨_,Array.getElem?_eq_getElem (by rw[aBm (by omega)];exact hlt)⟩
      have hfz:=(aA HS).2.2.1.frozen k
      by_cases h16:k<16
      ·
        have hk4:4*k+4<=64:=by omega
        obtain⟨b1,o1,c1,e,_,_,_,hsub⟩:=((aA HR).ext (aA HS).2.2.2).sub (4*k) 4 hk4 (by omega);cases e;have HQ:=hide hsub;clear hsub;have HL:=hide (show ((bs.drop (4*k)).take 4).length=4 from by have:=aA HB;simp;omega)
        go_wp2_with fail
        refine (Kt ((bs.drop (4*k)).take 4) _ _ ?hl).mono ?_
        case hl=>
          rw[aA HL,List.map_take,List.map_drop];exact aA HQ
        rintro e w1 ⟨rfl,rfl⟩;clear HQ;generalize hx:lY ((bs.drop (4*k)).take 4)=x;have HX:=hide hx;clear hx
        go_wp2
        go_roundw
        case rel=>
          exact⟨k+1,by omega,by go_num,hide ((aA HS).step (Ext.refl _) hlt (by rw[if_pos h16,aA HX]))⟩
        case measure=>simp[intOf];omega
      ·
        obtain⟨j,rfl⟩:∃ j,k=j+16:=⟨k-16,by omega⟩
        have cx:∀ i,i<j+16->wr.cell? ⟨w.heap.size+1+1,i,none⟩=some (.int .u32 (((bY bs (j+16)).getD i 0).toNat:Int)):=fun i hi=>by
          rw[(aA HS).2.2.1.cell];exact jK (by omega)
        have HN:=hide (show uK (bY bs (j+16))=(bY bs (j+16)).getD j 0+((dZ ((bY bs (j+16)).getD (j+1) 0) 7 ^^^ dZ ((bY bs (j+16)).getD (j+1) 0) 18) ^^^ ((bY bs (j+16)).getD (j+1) 0 >>> 3))+(bY bs (j+16)).getD (j+9) 0 +
            ((dZ ((bY bs (j+16)).getD (j+14) 0) 17 ^^^ dZ ((bY bs (j+16)).getD (j+14) 0) 19) ^^^ ((bY bs (j+16)).getD (j+14) 0 >>> 10)) from by
          unfold uK
          simp only[hL,show j+16-15=j+1 from by omega,show j+16-2=j+14 from by omega,show j+16-16=j from by omega,show j+16-7=j+9 from by omega])
        have c0':=cx j (by omega);have c1:=cx (j+1) (by omega);have c9:=cx (j+9) (by omega);have c14:=cx (j+14) (by omega);clear cx;generalize (bY bs (j+16)).getD j 0=x0 at *;generalize (bY bs (j+16)).getD (j+1) 0=x1 at *;generalize (bY bs (j+16)).getD (j+9) 0=x9 at *;generalize (bY bs (j+16)).getD (j+14) 0=x14 at *;have d16:decide ((j:Int)+16<16)=false:=decide_eq_false (by omega);have G_:decide ((j:Int)+16<64)=true:=decide_eq_true (by omega)
        have hj:j<48:=by omega
        clear h16 hk hlt
        go_upto_region 7 with fail
        have i15:(((j+16:Nat):Int)-15)=((j+1:Nat):Int):=by omega
        have i2:(((j+16:Nat):Int)-2)=((j+14:Nat):Int):=by omega
        go_quiet (fail)
        go_upto_region 8 with fail
        have i16:IntKind.i64.wrap (((j+16:Nat):Int)-16)=(j:Int):=(IntWalk.i64_in _ (by omega)).trans (by omega);have i7:IntKind.i64.wrap (((j+16:Nat):Int)-7)=((j+9:Nat):Int):=(IntWalk.i64_in _ (by omega)).trans (by omega);have i7':IntKind.i64.wrap ((j:Int)+16-7)=(j:Int)+9:=(IntWalk.i64_in _ (by omega)).trans (by omega);have i9:IntKind.i64.wrap ((j:Int)+9)=(j:Int)+9:=IntWalk.i64_in _ (by omega);have i0:IntKind.i64.wrap (j:Int)=(j:Int):=IntWalk.i64_in _ (by omega)
        have b0:(0:Int)<=(j:Int)+9/\(j:Int)+9<64/\(j:Int)<64/\(j:Int)+16<64/\(0:Int)<=(j:Int)+16:=by omega
        obtain⟨b1,b2,b3,b4,b5⟩:=b0
        have t9:((j:Int)+9).toNat=j+9:=by omega
        have t16:((j:Int)+16).toNat=j+16:=by omega
        have HO:=hide (And.intro c1 c14);clear c1 c14 i15 i2 d16 G_
        go_region_held3 (fun w'=>w'.cell? ⟨w.heap.size+1+1,j,none⟩=some (.int .u32 (x0.toNat:Int))/\w'.cell? ⟨w.heap.size+1+1,j+9,none⟩=some (.int .u32 (x9.toNat:Int))/\w'.cell? ⟨w.heap.size+1+1,j+16,none⟩=some (held w' ⟨w.heap.size+1+1,j+16,none⟩)/\w'.frozen? ⟨w.heap.size+1+1,j+16,none⟩=false) (first|exact⟨c0',c9,aGi hold,hfz⟩|exact aDC _ (by assumption)|exact Fv _ (by omega) (by omega) (by assumption)|assumption)
          (first
            |(go_at_call 204;refine (bCh _ _ _ ?_ ?_).mono ?_;(first|(refine fH _ _ _ ?_ ?_;(focus (simp;done));(focus rfl))|(refine gW _ _ (fH _ _ _ ?_ ?_);(focus (simp;done));(focus rfl)));(first|(refine fH _ _ _ ?_ ?_;(focus (simp;done));(focus rfl))|(refine gW _ _ (fH _ _ _ ?_ ?_);(focus (simp;done));(focus rfl)));rintro e w' ⟨rfl,rfl⟩)
            |(go_at_call 204;refine (aXu _ _ _ ?_ ?_).mono ?_;(first|(refine fH _ _ _ ?_ ?_;(focus (simp;done));(focus rfl))|(refine gW _ _ (fH _ _ _ ?_ ?_);(focus (simp;done));(focus rfl)));(first|(refine fH _ _ _ ?_ ?_;(focus (simp;done));(focus rfl))|(refine gW _ _ (fH _ _ _ ?_ ?_);(focus (simp;done));(focus rfl)));rintro e w' ⟨rfl,rfl⟩))
        all_goals
          go_wp2
          go_roundw
          case rel=>
            rw[bBw]
            exact⟨j+16+1,by omega,by go_num,hide ((aA HS).step ((((Ext.refl wr).drewN _).alloc _).alloc _) (by omega) (by rw[if_neg (by omega)];exact aA HN))⟩
          case measure=>simp[intOf];omega
    ·
      obtain rfl : k=64:=by omega
      clear hk hlt;obtain⟨wo,rfl⟩:∃ wo:World,wo=wr:=⟨_,rfl⟩;obtain⟨kc,hkc⟩:∃ kc,(qh.map w32).toArray=kc:=⟨_,rfl⟩;have HKC:=hide hkc;clear hkc;have H8:=hide (show hc.size=8/\hc.all (·.oneCell')=true from by rw[<-aA HC];exact⟨by simpa using aA HH,yM h⟩);have HKM:=hide ((aA HM).ext (aA HS).2.2.2).k
      go_wp2_with (first
        |(refine dL (ty:=263) (t:=263) (x:=.tmp 2) rfl rfl jA rfl (aA HS).1 (aA H8).1 ?_)
        | (
         refine aT (ty:=263) (t:=263) (x:=.tmp 9) (y:=.tmp 64) rfl rfl jA rfl rfl (au.new _ _ _) rfl (aA H8).1 (aA H8).2 ?_;intro w2 hb2 hc2 hz2;have HQ:=hide (And.intro hb2 hc2)
         have hz3:wo.heap.size<w2.heap.size:=by rw[hz2];simp
         clear hb2 hc2 hz2)
        | (
         refine qA (ty:=269) (x:=.global 2) rfl rfl bAg rfl (arr:=kc) (cs:=qh.map w32) ?_ rfl (aA HKC) ?_
         · exact pI (pI (aA HKM) ((Ext.refl wo).alloc _) (fun h=>h)) (aA HQ).2 (fun e=>by have:=lt_of_cell ((aA HKM) 0 _ rfl);simp at e this;omega)))
      have HE2:=hide (show Ext wo w2 from ((Ext.refl wo).alloc (.cells #[Value.int IntKind.u32 0,Value.int IntKind.u32 0,Value.int IntKind.u32 0,Value.int IntKind.u32 0,Value.int IntKind.u32 0,Value.int IntKind.u32 0,Value.int IntKind.u32 0,Value.int IntKind.u32 0] 263)).trans' (aA HQ).2 (fun _ _ h=>h) (fun i hi e=>by omega))
      have HI:=hide (show bIg w hc h bs wo.heap.size 0 w2 from by
        obtain⟨q1,⟨o8,q5,q6⟩,q3,q4⟩:=aA HS
        refine⟨q1.ext (aA HE2),⟨o8,q5.ext (aA HE2),q6⟩,q3.ext (aA HE2),?_,q4.trans (aA HE2),q3.lt⟩
        rw[aX,kZ (aA HH),aA HC]
        exact (aA HQ).1)
      clear HQ HE2 HKM hz3
      go_loopw [66] (fun i wr=>∃ k:Nat,k<=64/\i=.int .i64 k/\Hid (bIg w hc h bs wo.heap.size k wr)) (fun i _=>64-(intOf i).toNat)
      case atStart=>exact⟨0,Nat.zero_le _,rfl,HI⟩
      case round=>
        clear HI;obtain⟨k,hk,rfl,HI⟩:=hrel
        by_cases hlt:k<64
        · have cv : ∀ i,i<8->wr.cell? ⟨wo.heap.size,i,none⟩=some (.int .u32 (((aX bs h k).getD i 0).toNat:Int)):=fun i hi=>by
            rw[(aA HI).2.2.2.1.cell];exact jK (by rw[jB _ _ (aA HH)];exact hi)
          have cw:wr.cell? ⟨w.heap.size+1+1,k,none⟩=some (.int .u32 (((sched bs).getD k 0).toNat:Int)):=by
            rw[(aA HI).2.2.1.cell];exact jK (by unfold sched;rw[dO];exact hlt)
          have hidx:∀ W,(Instr.index 269 (.agg kc) (.int .i64 (k:Int))).run Tryz.prog W=.ok (.int .u32 ((qh.getD k 0).toNat:Int)) W:=fun W=>
            yR (inf:=_) Tryz.underlying269 (by kernel_rfl) rfl (by kernel_rfl) hlt (by rw[<-aA HKC];exact Ud hlt) W
          have HN:=hide (show aX bs h (k+1)=wC (aX bs h k) (qh.getD k 0) ((sched bs).getD k 0) from rfl);have v0:=cv 0 (by omega);have v1:=cv 1 (by omega);have v2:=cv 2 (by omega);have v3:=cv 3 (by omega);have v4:=cv 4 (by omega);have v5:=cv 5 (by omega);have v6:=cv 6 (by omega);have v7:=cv 7 (by omega);clear cv;unfold wC at HN;generalize (aX bs h k).getD 0 0=x0 at *;generalize (aX bs h k).getD 1 0=x1 at *;generalize (aX bs h k).getD 2 0=x2 at *;generalize (aX bs h k).getD 3 0=x3 at *;generalize (aX bs h k).getD 4 0=x4 at *;generalize (aX bs h k).getD 5 0=x5 at *;generalize (aX bs h k).getD 6 0=x6 at *;generalize (aX bs h k).getD 7 0=x7 at *;generalize (sched bs).getD k 0=xw at *;generalize qh.getD k 0=xk at *;have G_:decide ((k:Int)<64)=true:=decide_eq_true (by omega)
          have b64:(k:Int)<64:=by omega
          have HO:=hide (And.intro v0 (And.intro v1 (And.intro v2 (And.intro v3 (And.intro v4 (And.intro v5 v6))))));clear v0 v1 v2 v3
          go_upto_region 14 with fail
          have t1:(0:Int)<=(k:Int):=by omega
          clear hidx G_
          go_cut [12] (fun s12 wx=>∃ T:UInt32,s12=.int .u32 (T.toNat:Int)/\Hid (T=x7+(dZ x4 6 ^^^ dZ x4 11 ^^^ dZ x4 25)+((x4 &&& x5) ^^^ (~~~x4 &&& x6))+xk+xw/\Ext wr wx))
          case first=>
            go_region_held3 (fun w'=>w'.cell? ⟨wo.heap.size,7,none⟩=some (.int .u32 (x7.toNat:Int))/\w'.cell? ⟨wo.heap.size,4,none⟩=some (.int .u32 (x4.toNat:Int))/\w'.cell? ⟨wo.heap.size,5,none⟩=some (.int .u32 (x5.toNat:Int))/\w'.cell? ⟨wo.heap.size,6,none⟩=some (.int .u32 (x6.toNat:Int))/\w'.cell? ⟨w.heap.size+1+1,k,none⟩=some (.int .u32 (xw.toNat:Int))) (first|exact⟨v7,v4,v5,v6,cw⟩|exact aDD _ (by assumption)|assumption)
              (first
                |(go_at_call 204;refine (aOc _ _ _ ?_ ?_ ?_).mono ?_;(refine fH _ _ _ ?_ ?_;(focus (simp;done));(focus rfl));(refine fH _ _ _ ?_ ?_;(focus (simp;done));(focus rfl));(refine fH _ _ _ ?_ ?_;(focus (simp;done));(focus rfl));rintro e w' ⟨rfl,rfl⟩))
            all_goals (go_wp2_with fail;go_meet)
            all_goals
              rw[aAU]
              exact⟨_,rfl,hide ⟨rfl,((Ext.refl wr).alloc _).drew⟩⟩
          case rest=>
            obtain⟨T,rfl,HT⟩:=hcut;obtain⟨wp,rfl⟩:∃ wp:World,wp=wc:=⟨_,rfl⟩;clear v7 v4 v5 v6 cw;have HP:=hide (And.intro (aA HI) (aA HT).2);have v0:=Ext.jd (aA HT).2 (aA HO).1;have v1:=Ext.jd (aA HT).2 (aA HO).2.1;have v2:=Ext.jd (aA HT).2 (aA HO).2.2.1
            go_upto_region 15 with fail
            go_cut [13] (fun s13 wx=>∃ U:UInt32,s13=.int .u32 (U.toNat:Int)/\Hid (U=(dZ x0 2 ^^^ dZ x0 13 ^^^ dZ x0 22)+(((x0 &&& x1) ^^^ (x0 &&& x2)) ^^^ (x1 &&& x2))/\Ext wp wx))
            case first=>
              go_region_held3 (fun w'=>w'.cell? ⟨wo.heap.size,0,none⟩=some (.int .u32 (x0.toNat:Int))/\w'.cell? ⟨wo.heap.size,1,none⟩=some (.int .u32 (x1.toNat:Int))/\w'.cell? ⟨wo.heap.size,2,none⟩=some (.int .u32 (x2.toNat:Int))) (first|exact⟨v0,v1,v2⟩|exact W9 _ (by assumption)|assumption)
                (first
                  |(go_at_call 204;refine (aOd _ _ _ ?_ ?_ ?_).mono ?_;(refine fH _ _ _ ?_ ?_;(focus (simp;done));(focus rfl));(refine fH _ _ _ ?_ ?_;(focus (simp;done));(focus rfl));(refine fH _ _ _ ?_ ?_;(focus (simp;done));(focus rfl));rintro e w' ⟨rfl,rfl⟩))
              all_goals (go_wp2_with fail;go_meet)
              all_goals
                rw[aAR]
                exact⟨_,rfl,hide ⟨rfl,((Ext.refl wp).alloc _).drew⟩⟩
            case rest=>
              obtain⟨U,rfl,HU⟩:=hcut;have HX:=hide ((aA HT).2.trans (aA HU).2);clear v0 v1 v2;have v0:=Ext.jd (aA HX) (aA HO).1;have v1:=Ext.jd (aA HX) (aA HO).2.1;have v2:=Ext.jd (aA HX) (aA HO).2.2.1;have v3:=Ext.jd (aA HX) (aA HO).2.2.2.1;have v4:=Ext.jd (aA HX) (aA HO).2.2.2.2.1;have v5:=Ext.jd (aA HX) (aA HO).2.2.2.2.2.1;have v6:=Ext.jd (aA HX) (aA HO).2.2.2.2.2.2;have a1:((T.toNat:Int)+(U.toNat:Int)) % 4294967296=((T+U).toNat:Int):=add32 T U;have a2:((x3.toNat:Int)+(T.toNat:Int)) % 4294967296=((x3+T).toNat:Int):=add32 x3 T;have HA:=hide (And.intro a1 a2);clear a1 a2;have HW:=hide (aBm (n:=8) (show (aX bs h k).length<=8 from by rw[jB _ _ (aA HH)];omega))
              go_wp2_with (refine aT (ty:=263) (t:=263) (x:=.tmp 9) (y:=.tmp 137) rfl rfl jA rfl rfl ((aA HI).2.2.2.1.ext (aA HX)) (aA HW) ?_ ?_ ?_;(focus rfl);(focus (rw[<-Array.all_toList];rfl));intro w5 hb5 hc5 Qv;have HQ:=hide (And.intro hb5 (And.intro hc5 Qv));clear hb5 hc5 Qv)
              go_roundw
              case rel=>
                refine⟨k+1,by omega,by go_num,hide ?_⟩
                obtain⟨q1,⟨o8,q5,q6⟩,q3,q4,q7,q8⟩:=aA HI;obtain⟨hb5,hc5,Qv⟩:=aA HQ
                have n1:¬w.heap.size=wo.heap.size:=by omega
                have n2:¬w.heap.size+1=wo.heap.size:=by omega
                have n3:¬w.heap.size+1+1=wo.heap.size:=by omega
                refine⟨(q1.ext (aA HX)).gu hc5 n1,⟨o8,(q5.ext (aA HX)).gu hc5 n2,q6⟩,(q3.ext (aA HX)).gu hc5 n3,?_,(q7.trans (aA HX)).trans' hc5 (fun _ _ h=>h) (fun i hi e=>by omega),q8⟩
                rw[(aA HA).1,(aA HA).2] at hb5;rw[aA HN];dsimp only;rw[<-(aA HT).1,<-(aA HU).1];exact hb5
              case measure=>simp[intOf];omega
        ·
          obtain rfl:k=64:=by omega
          clear hk hlt;obtain⟨wq,rfl⟩:∃ wq:World,wq=wr:=⟨_,rfl⟩
          go_wp2
          have HR0:=hide (jB bs h (aA HH) 64)
          go_loopw [139] (fun i wr=>∃ k:Nat,k<=8/\i=.int .i64 k/\Hid (qI w hc h (aX bs h 64) wo.heap.size k wr)) (fun i _=>8-(intOf i).toNat)
          case atStart=>exact⟨0,Nat.zero_le _,rfl,hide (qI.start (aA HI))⟩
          case round=>
            clear HI;obtain⟨k,hk,rfl,HI⟩:=hrel
            by_cases hlt:k<8
            ·
              have c1:=(aA HI).new (aA HR0) (aA HH) hlt;have c2:=(aA HI).old (aA HC) (aA HH) hlt;have f1:=(aA HI).2.2.1.frozen k;have HST:=hide (fun wr' (hE:Ext wr wr')=>(aA HI).step hE (aA HR0) (aA HH) hlt);generalize (aX bs h 64).getD k 0=xr at *;generalize h.getD k 0=xh at *;have d8:decide ((k:Int)<8)=true:=decide_eq_true (by omega)
              have b8:(k:Int)<8:=by omega
              have HA:=hide (add32 xr xh)
              go_upto_region 21 with fail
              go_region
              all_goals
                go_wp2
                go_roundw
                case rel=>
                  rw[aA HA]
                  exact⟨k+1,by omega,by go_num,hide (by first|exact (aA HST _ (Ext.refl _)).drew|exact aA HST _ ((Ext.refl _).drew))⟩
                case measure=>simp[intOf];omega
            ·
              obtain rfl:k=8:=by omega
              clear hk hlt;obtain⟨q1,⟨o8,q5,q6⟩,q3,q4,q7⟩:=aA HI;have HQ:=hide (And.intro q5 (And.intro q6 (And.intro q3 q4)));clear q1 q5 q6 q3 q4
              have HZ:=hide (show fM 8 (wP (aX bs h 64) h 8)=((jT h bs).map w32).toArray from by
                rw[bFx (aA HR0) (aA HH)]
                exact kZ (by simp;rw[aA HR0,aA HH];rfl))
              have HW:=hide (show (fM 8 (wP (aX bs h 64) h 8)).size=8/\(fM 8 (wP (aX bs h 64) h 8)).all (·.oneCell')=true from by
                rw[aA HZ]
                exact⟨by simp[jT];rw[show (uI bs h).length=8 from aA HR0,aA HH];rfl,yM _⟩)
              generalize fM 8 (wP (aX bs h 64) h 8)=res at *
              go_wp2_with (first
                |(refine dL (ty:=263) (t:=263) (x:=.tmp 9) rfl rfl jA rfl (aA HQ).2.2.1 (aA HW).1 ?_)
                | (
                 refine aT (ty:=263) (t:=263) (x:=.tmp 4) (y:=.tmp 151) rfl rfl jA rfl rfl (aA HQ).1 (aA HQ).2.1 (aA HW).1 (aA HW).2 ?_;intro w9 hb9 hc9 hz9;have HV:=hide (And.intro hb9 hc9)
                 clear hb9 hc9 hz9))
              refine bodyPost_ret (v:=.agg res) (dJ jA rfl (aA HV).1 (aA HW).1 rfl) rfl ⟨by rw[aA HZ],?_⟩;exact (aA HQ).2.2.2.trans' (aA HV).2 (fun _ _ h=>h) (fun i hi e=>by omega)
attribute [local go_sem] Oper.semAt_some
def Oo(l:List UInt8)(k:Nat):List UInt8:=l++[128]++List.replicate k 0
theorem aOk(l:List UInt8)(k:Nat):(Oo l k).length=l.length+1+k:=by simp[Oo];omega
theorem aYl(l:List UInt8)(k:Nat):Oo l (k+1)=Oo l k++[0]:=by unfold Oo;rw[List.replicate_succ',List.append_assoc,List.append_assoc,List.append_assoc]
def jV(P:List UInt8)(l:List Nat)(v:List UInt32):List UInt32:=l.foldl (fun v i=>jT v ((P.drop (64*i)).take 64)) v
theorem nH(m:Nat)(v:List UInt32)(P:List UInt8):jV P (List.range m) v=lK m v P:=by
 induction m generalizing v P with
 |zero=>rfl
 |succ m ih=>
  have e2:∀ i,(P.drop 64).drop (64*i)=P.drop (64*(i+1)):=fun i=>by rw[List.drop_drop,show 64+64*i=64*(i+1) from by omega]
  have h:=ih (jT v (P.take 64)) (P.drop 64);refine Eq.trans ?_ h;unfold jV;simp only[e2];rw[List.range_succ_eq_map,List.foldl_cons,List.foldl_map,Nat.mul_zero,List.drop_zero]
theorem gV(P:List UInt8)(l:List Nat)(v:List UInt32)(h:v.length=8):(jV P l v).length=8:=by
 unfold jV
 induction l generalizing v with
 |nil=>exact h
 |cons i l ih=>
  rw[List.foldl_cons];refine ih _ ?_;unfold jT;rw[List.length_zipWith,h];rw[show (uI ((P.drop (64*i)).take 64) v).length=8 from jB _ _ h 64];rfl
def Om(l:List UInt32)(k:Nat):List UInt8:=(l.take k).flatMap fun w=>beBytes w.toNat 4
theorem aIk(l:List UInt32)(k:Nat)(h:k<l.length):Om l (k+1)=Om l k++beBytes (l.getD k 0).toNat 4:=by
 unfold Om;rw[kQ l k h,List.flatMap_append,zG,zH h];simp
theorem aBt(l:List UInt32)(k:Nat)(h:k<=l.length):(Om l k).length=4*k:=by
 induction k with
 |zero=>simp[Om]
 |succ k ih=>rw[aIk l k h,List.length_append,ih (by omega),beBytes_length];omega
theorem au.putObj{W:World}{g:Nat}{t:TypeId}{cs:Array Value}(h:au W g t cs){D:Nat}{o o':Obj}(hd:W.heap[D]?=some o)(ho:o.isCells=false):au (W.putObj D o') g t cs:=by
 have hne:g≠D:=fun e=>by
  unfold au at h;rw[e,hd] at h;cases h;cases ho
 exact (World.putObj_heap_other hne).trans h
theorem dB(l:List UInt8):((l.map gq).toArray).all (·.oneCell')=true:=by
 rw[<-Array.all_toList];simp[gq];intro x _;rfl
def rQ(n:Nat):Nat:=(119-n % 64) % 64
theorem dY:u_ Tryz.prog 142 32:=⟨⟨_,Tryz.underlying142,rfl⟩,by kernel_rfl⟩
def OL(l:List UInt8)(w:World)(v:Value)(n k:Nat)(wr:World):Prop:=
 (n=l.length+1+k/\k<=rQ l.length)/\wr.ownsRow (w.heap.size+1) 5 1 v n ((Oo l k).map gq)/\Ext w wr/\(∃ o,au wr w.heap.size 142 o/\o.size=32)
theorem sum_any (l:List UInt8) (v:Value) (w:World) (hM:a_ w) (hr:Reads w 1 v l.length (l.map gq)) (hl:l.length<=100000000) :
    Calls Tryz.prog 191 #[v] w fun e w'=>e=.returned (.agg ((sha l).map gq).toArray)/\Ext w w':=by
  have HM:=hide hM;have HR:=hide hr
  obtain⟨A,c,rfl⟩:∃ A c,v=.slice A l.length c:=by obtain⟨_,A,c,h,_⟩:=hr;exact⟨A,c,h⟩
  clear hM hr;refine (callsIn_wide (n:=3)).1 (callsIn_of_wp_marks Tryz.func191 rfl trivial ((wpIn_wide (n:=3)).2 ?_));simp only[Tryz.ntmps191,List.size_toArray,List.length_cons,List.length_nil,Nat.reduceAdd,Nat.reduceSub,Array.replicate_succ,Array.replicate_zero,List.push_toArray,List.append_toArray,List.nil_append,List.cons_append]
  go_wp2_with fail
  refine (clone_any _ l _ ?hr (by omega)).mono ?_
  case hr=>exact (aA HR).ext ((Ext.refl w).alloc _)
  rintro e w1 ⟨v1,rfl,ho,hE⟩;have HO:=hide (And.intro ho (And.intro hE (au.ext (au.new w 142 _) hE)));clear ho hE
  go_wp2_with (at_builtin;refine bH rfl rfl fC rfl (bQ (aA HO).1 ((Ext.refl w1).alloc _)) rfl (Reads.t_ _ _ _) (dN.one rfl) (by omega) (by have:=(aA HO).2.1.size';simp at this ⊢;omega) ?_;intro A' c' w2 ho hc hv;have HQ:=hide (And.intro ho (And.intro hc hv));clear ho hc hv)
  have HI:=hide (show OL l w (.slice A' (l.length+1) c') (l.length+1) 0 w2 from by
    obtain⟨h1,h2,h3⟩:=aA HO;obtain⟨h4,h5,_⟩:=aA HQ
    have e0:(Oo l 0).map gq=l.map gq++[gq 128]:=by unfold Oo;simp
    have hz:=h2.size';simp only[World.size_alloc] at hz h4;have hv:=mW h1 (dm.refl (fun k=>¬v1.ownBlock=some k) w1) (fun k hk hn=>hn hk)
    have hge:∀ k,v1.ownBlock=some k->w.heap.size+1<=k:=fun k hk=>by have:=h1.lt k hk;simp at this;omega
    refine⟨⟨rfl,Nat.zero_le _⟩,by rw[e0];exact h4,?_,⟨_,h3.gu ((Ext.refl w1).alloc _) (fun h=>h) |>.gu h5 (fun e=>by have:=hge _ e;omega),rfl⟩⟩
    exact ((((Ext.refl w).alloc _).trans h2).alloc _).trans' h5 (fun _ _ h=>h) (fun i hi e=>by have:=hge _ e;omega))
  clear HO HQ
  go_loopw [3] (fun b wr=>∃ (n k:Nat) (A:Option Addr) (c:Nat),b=.slice A n c/\n<=200000000/\Hid (OL l w (.slice A n c) n k wr)) (fun b _=>match b with|.slice _ n _=>l.length+1+rQ l.length-n|_=>0)
  case atStart=>exact⟨_,0,_,_,rfl,by omega,HI⟩
  case round=>
    clear HI;obtain⟨n,k,A1,c1,rfl,hn,HI⟩:=hrel
    by_cases hlt:k<rQ l.length
    ·
      have ht:n % 64≠56:=by have h1:=(aA HI).1;unfold rQ at h1 hlt;omega
      have ht2:(((n:Int) % 64)==56)=false:=by simp;omega
      go_wp2_with (at_builtin;refine bH rfl rfl fC rfl (bQ (aA HI).2.1 ((Ext.refl wr).alloc _)) rfl (Reads.t_ _ _ _) (dN.one rfl) (by omega) (by have:=(aA HI).2.2.1.size';have:=(aA HI).2.2.2.choose_spec.1.lt;simp;omega) ?_;intro A' c' w3 ho hc hv;have HQ:=hide (And.intro ho hc);clear ho hc hv)
      go_roundw
      case rel=>
        obtain⟨⟨e1,e2⟩,h1,h2,o8,h3,h4⟩:=aA HI;obtain⟨h5,h6⟩:=aA HQ;have hge:∀ k,(Value.slice A1 n c1).ownBlock=some k->w.heap.size+1<=k:=fun k hk=>(h1.lt k hk).1
        refine⟨n+1,k+1,A',c',rfl,by unfold rQ at e2;omega,hide ⟨⟨by omega,hlt⟩,?_,(h2.alloc _).trans' h6 (fun _ _ h=>h) (fun i hi e=>by have:=hge _ e;omega),o8,(h3.alloc _).gu h6 (fun e=>by have:=hge _ e;omega),h4⟩⟩
        rw[aYl,List.map_append];exact h5
      case measure=>have:=(aA HI).1;simp;omega
    ·
      obtain ⟨⟨e1,e2⟩,h1,h2,o8,h3,h4⟩:=aA HI
      have hkz:k=rQ l.length:=by omega
      subst hkz;have HP:=hide (show Oo l (rQ l.length)++beBytes (8*l.length) 8=eU l from rfl)
      have hmod:n % 64=56:=by unfold rQ at e1;omega
      have ht2:(((n:Int) % 64)==56)=true:=by simp;omega
      have HN:=hide (And.intro e1 hmod);clear e1 e2 hlt hmod h1 h2 h3 h4
      go_wp2_with fail
      clear ht2;refine (aNm _ n ((Oo l (rQ l.length)).map gq) (8*l.length) 8 (w.heap.size+1) _ _ _ ?e1 ?e2 (aA HI).2.1 ?hb (by omega) (by omega) (by omega)).mono ?_
      case e1=>simp
      case e2=>rfl
      case hb=>have:=(aA HI).2.2.2.choose_spec.1.lt;omega
      rintro e w3 ⟨A3,c3,rfl,ho,hO⟩
      obtain⟨g3,rfl⟩:∃ g3,A3=some ⟨g3,0,none⟩:=by
        obtain⟨g,cap,u,hv,_⟩:=bDf (k:=0) ho (by omega);cases hv
        exact⟨g,rfl⟩
      have HQ:=hide (And.intro ho hO);clear ho hO;obtain⟨st0,hst⟩:∃ st,(mF.map w32).toArray=st:=⟨_,rfl⟩;have HST:=hide hst;have Xt:=hide (show st0.size=8/\st0.all (·.oneCell')=true from by rw[<-hst];exact⟨rfl,yM _⟩);clear hst
      have Ub:=hide (show Ext w w3 from by
        obtain⟨⟨e1,e2⟩,h1,h2,o8,h3,h4⟩:=aA HI
        exact h2.trans' (aA HQ).2.gu (fun _ _ h=>h) (fun i hi e=>by have:=(h1.lt i e).1;omega))
      go_wp2_with (first
        |(refine qA (ty:=263) (x:=.global 0) rfl rfl jA rfl (arr:=st0) (cs:=mF.map w32) ?_ rfl (aA HST) ?_;(focus exact ((aA HM).ext (aA Ub)).h))
        | (
         refine aT (ty:=263) (t:=263) (x:=.tmp 4) (y:=.tmp 27) rfl rfl jA rfl rfl ((au.new w3 _ _).alloc _) rfl (aA Xt).1 (aA Xt).2 ?_;intro w4 hb4 hc4 CP;have k5:w4.cell? ⟨w3.heap.size+1,0,none⟩=some .nilFunc:=dm.jd hc4 (fH _ _ _ (by simp) rfl) (by simp);have f5:w4.frozen? ⟨w3.heap.size+1,0,none⟩=false:=dm.vw hc4 ((au.new' _ _ _ (by simp)).frozen 0) (by simp) (by simp);have HV:=hide (And.intro hb4 (And.intro hc4 CP))
         clear hb4 hc4 CP)
        |(go_at_call 202;refine (bHf _ _ _ _).mono ?_;rintro e w' ⟨rfl,rfl⟩))
      obtain⟨m,hm⟩:∃ m,n+8=64*m:=⟨(n+8) / 64,by have:=(aA HN).2;omega⟩
      have HL:=hide (show (eU l).length=64*m from by
        rw[<-aA HP,List.length_append,aOk,beBytes_length,<-hm];have:=(aA HN).1;omega)
      have HS:=hide (show w3.heap.size<w4.heap.size/\w4.heap.size=w3.heap.size+2 from by have:=(aA HV).2.2;simp at this;omega)
      refine Gi (gf:=205) (S:=fun k=>k=w3.heap.size) (all:=List.finRange m) (N:=m) (encs:=fun x:Fin m=>#[.slice (some ⟨g3,0+64*x.val,none⟩) 64 64]) rfl (aF Tryz.func205 (by kernel_rfl) rfl) ?hS (aTq g3 0 c3 m _ _ _ _ (by omega) ?hc ?hs ?hn ?h1 ?h2) (fun _=>rfl)
        (fun pre W=>au W w3.heap.size 263 ((jV (eU l) (pre.map Fin.val) mF).map w32).toArray/\W.cell? ⟨w3.heap.size+1,0,none⟩=some (.func (.func 201) #[] #[]))
        (fun pre W W' h k=>⟨k.blk h.1,k.cell h.2⟩) ?h0 ?a1 ?assign ?body ?done
      case assign=>
        intro l x W K hK
        gi_wp2
        exact hK
      case hS=>intro k e;have:=(aA HS).1;simp;omega
      case hc=>
        have h1:=(aA HQ).1;obtain⟨g,cap,u,hv,_⟩:=bDf (k:=0) h1 (by omega);cases hv;obtain⟨_,h2⟩:=h1;rcases h2 with⟨e,_⟩|⟨g,cap,cur,hv,_,_,hle,_⟩
        · cases e
        · cases hv;omega
      case hs=>have:=(aA HS).1;omega
      case hn=>have:=(aA HS).1;omega
      case h1=>
        rw[<-hm];exact gW _ _ (fH _ _ _ (by simp) rfl)
      case h2=>exact fH _ _ _ (by simp) rfl
      case h0=>
        refine⟨?_,?_⟩
        ·
          have:=(aA HV).1;rw[<-aA HST] at this;exact ((this.far' (by omega) _ _).alloc _).alloc _
        · exact gW _ _ (gW _ _ (World.cell?_setCell_same' _ _ _ (by rw[k5];rfl)))
      case body=>
        rintro lb pre x W hc ⟨hb,hf⟩ hlen;have hg3:w.heap.size+1<=g3/\g3<w3.heap.size:=(aA HQ).1.lt g3 rfl;obtain⟨bJe,aNV⟩:=hg3;have HR3:Hid (Reads w3 1 (.slice (some ⟨g3,0,none⟩) (n+8) c3) (n+8) ((eU l).map gq)):=hide (by have:=Reads.l9 (aA HQ).1;rwa [<-List.map_append,aA HP] at this)
        have Ou:Hid (dm (fun k=>k=w3.heap.size) w3 W):=hide (by
          have h1:dm (fun k=>k=w3.heap.size) w3 w4:=(((Ext.refl w3).alloc _).alloc _).gu.trans (aA HV).2.1
          exact (((h1.setCell (p:=⟨w3.heap.size+1,0,none⟩) (.inr (by simp)) _).alloc _).alloc _).trans hc)
        have HBX:=hide (show ((((eU l).drop (64*x.val)).take 64).length=64) from by have:=x.isLt;simp;rw[aA HL];omega)
        have HRX:Hid (Reads W 1 (.slice (some ⟨g3,64*x.val,none⟩) 64 64) 64 ((((eU l).drop (64*x.val)).take 64).map gq)):=hide (by
          have h1:=(aA HR3).gu (aA Ou) (fun k _ hk e=>by cases hk;exact absurd e (Nat.ne_of_lt aNV));obtain⟨b,o,c,hv,h2,h3,_,h4⟩:=h1.sub (64*x.val) 64 (by have:=x.isLt;omega) (by omega);cases hv;rw[List.map_take,List.map_drop];rw[Nat.zero_add] at h4
          exact h4.cap (by omega) (by unfold maxLen;omega))
        have HMW:Hid (a_ W):=hide (((aA HM).ext (aA Ub)).gu (aA Ou) (fun e=>by have h1:_<w.heap.size:=lt_of_cell ((aA HM).k 0 _ rfl);have:=(aA Ub).size';simp at h1;omega) (fun e=>by have h1:_<w.heap.size:=lt_of_cell ((aA HM).h 0 _ rfl);have:=(aA Ub).size';simp at h1;omega));have HCC:=hide (aQh (jV (eU l) (pre.map Fin.val) mF) (((eU l).drop (64*x.val)).take 64) _ W (aA HMW) (gV _ _ _ rfl) (aA HBX) (aA HRX));have HB:=hide hb;clear hb;generalize hst:((jV (eU l) (pre.map Fin.val) mF).map w32).toArray=di at *;have H8:=hide (show di.size=8 from by rw[<-hst];simp;exact gV _ _ _ rfl);have HT:=hide hst;clear hst;have HN8:=hide (show ((jT (jV (eU l) (pre.map Fin.val) mF) (((eU l).drop (64*x.val)).take 64)).map w32).toArray.size=8 from by simp;exact gV (eU l) [x.val] (jV (eU l) (pre.map Fin.val) mF) (gV _ _ _ rfl))
        gi_wp2_with (first
          |(refine aGw (ty:=263) (t:=263) (x:=.tmp 4) rfl rfl jA rfl (aA HB) (aA H8) ?_)
          |(refine⟨trivial,?_⟩;gi_at_call 201;refine (CallsIn.inRound lb (callsIn_wide.2 (aA HCC))).mono ?_;rintro e w9 ⟨rfl,AB⟩;have HX9:=hide AB;clear AB)
          |(refine aDn (ty:=263) (t:=263) (x:=.tmp 4) (y:=.tmp 34) rfl rfl jA rfl rfl ((aA HB).ext (aA HX9)) (aA H8) (aA HN8) (yM _) ?_;intro w10 ut um AV))
        refine⟨(aA HX9).gu.trans um,?_,dm.jd um (Ext.jd (aA HX9) hf) (by simp)⟩
        rw[List.map_append];unfold jV;rw[List.foldl_append];exact ut
      case done =>
        rintro D W hD hc ⟨hb,hf⟩ hd
        have Ou:Hid (Ext w W):=hide (by
          have h1:dm (fun k=>k=w3.heap.size) w3 w4:=(((Ext.refl w3).alloc _).alloc _).gu.trans (aA HV).2.1;have h2:=(((h1.setCell (p:=⟨w3.heap.size+1,0,none⟩) (.inr (by simp)) _).alloc _).alloc _).trans hc
          exact (aA Ub).trans' h2 (fun _ _ h=>h) (fun i hi e=>by have:=(aA Ub).size';omega))
        have HO:Hid (∃ o,au W w.heap.size 142 o/\o.size=32):=hide (by
          obtain⟨_,h1,_,o8,h3,h4⟩:=aA HI;have hlt:=h3.lt;have k1:=h3.gu (aA HQ).2.gu (fun e=>by have:=(h1.lt _ e).1;omega);have hlt3:=k1.lt;have h1:dm (fun k=>k=w3.heap.size) w3 w4:=(((Ext.refl w3).alloc _).alloc _).gu.trans (aA HV).2.1;have h2:=(((h1.setCell (p:=⟨w3.heap.size+1,0,none⟩) (.inr (by simp)) _).alloc _).alloc _).trans hc
          exact⟨o8,k1.gu h2 (by omega),h4⟩)
        rw[Rl,nH] at hb
        have hm2:m=(eU l).length / 64:=by rw[aA HL];omega
        rw[hm2] at hb;have F9:=hide (show (lK ((eU l).length / 64) mF (eU l)).length=8 from by rw[<-nH];exact gV _ _ _ rfl);have HSH:=hide (show (lK ((eU l).length / 64) mF (eU l)).flatMap (fun w=>beBytes w.toNat 4)=sha l from rfl);generalize lK ((eU l).length / 64) mF (eU l)=PI at *;obtain⟨stq,Qw⟩:∃ s,(PI.map w32).toArray=s:=⟨_,rfl⟩;rw[Qw] at hb;have HB:=hide hb;have HTQ:=hide Qw;have H8:=hide (show stq.size=8 from by rw[<-Qw];simpa using aA F9)
        have hDw:w.heap.size<D:=by have:=(aA Ub).size';have:=(aA HS).1;simp at hD;omega
        have HD:=hide (And.intro hDw hd);clear hDw;clear hb hf hd hD Qw hm2 HQ HV HS Ub HST Xt HI HN k5 f5 hc
        go_wp2_with (refine dL (ty:=263) (t:=263) (x:=.tmp 4) rfl rfl jA rfl (aA HB) (aA H8) ?_)
        go_loopw [7,36] (fun b i wr=>∃ (k:Nat) (A:Option Addr) (c:Nat),k<=8/\i=.int .i64 k/\b=.slice A (4*k) c/\Hid (wr.ownsRow W.heap.size 5 1 (.slice A (4*k) c) (4*k) ((Om PI k).map gq)/\Ext W wr)) (fun _ i _=>8-(intOf i).toNat)
        case atStart=>exact⟨0,none,0,Nat.zero_le _,rfl,rfl,hide ⟨World.ownsRow_nil _ _ _ _,Ext.refl _⟩⟩
        case round=>
          obtain⟨k,A7,c7,hk,rfl,rfl,HI⟩:=hrel
          by_cases hlt:k<8
          · have hidx:∀ X,(Instr.index 263 (.agg stq) (.int .i64 (k:Int))).run Tryz.prog X=.ok (.int .u32 ((PI.getD k 0).toNat:Int)) X:=fun X=>
              yR (inf:=_) Tryz.underlying263 (by kernel_rfl) rfl (by kernel_rfl) hlt (by rw[<-aA HTQ,<-kZ (aA F9)];exact jK (by rw[aA F9];exact hlt)) X
            have HS2:=hide (aIk PI k (by rw[aA F9];exact hlt));have hx:=(PI.getD k 0).toNat_lt;generalize PI.getD k 0=xk at *
            go_wp2_with fail
            refine (aNm _ (4*k) ((Om PI k).map gq) xk.toNat 4 W.heap.size _ _ _ ?e1 ?e2 (aA HI).1 ?hb (by omega) (by omega) (by omega)).mono ?_
            case e1=>first|rfl|simp
            case e2=>rfl
            case hb=>exact (aA HI).2.size'
            rintro e w5 ⟨A5,c5,rfl,ho,hO⟩;have HQ:=hide (And.intro ho hO);clear ho hO
            go_wp2
            go_roundw
            case rel=>
              refine⟨k+1,A5,c5,by omega,by go_num,rfl,hide ⟨?_,?_⟩⟩
              ·
                rw[aA HS2,List.map_append];exact (aA HQ).1
              · exact Onto.D7 (aA HI).2 (aA HQ).2 (fun q hq=>((aA HI).1.lt q hq).1)
            case measure=>simp[intOf];omega
          ·
            obtain rfl:k=8:=by omega
            clear hk hlt
            obtain⟨g7,rfl⟩:∃ g7,A7=some ⟨g7,0,none⟩:=by
              obtain⟨g,cap,u,hv,_⟩:=bDf (k:=0) (aA HI).1 (by omega);cases hv
              exact⟨g,rfl⟩
            have HG:=hide (show Om PI 8=sha l from by
              unfold Om;rw[List.take_of_length_le (by rw[aA F9];omega)]
              exact aA HSH)
            have HRG:Hid (wr.rangeAt g7 0 ((sha l).map gq)):=hide (by
              have h1:=(aA HI).1;rw[aA HG] at h1;intro j v hj;have:=h1.cells (g:=g7) rfl j v hj
              rwa [add_lit] at this)
            have HLS:=hide (show (sha l).length=32 from by rw[<-aA HG];exact aBt PI 8 (by rw[aA F9];omega));obtain⟨o8,ho8,aDM⟩:=aA HO;have HO8:=hide (And.intro (ho8.ext (aA HI).2) aDM);clear ho8 aDM;obtain⟨res,hres⟩:∃ r,((sha l).map gq).toArray=r:=⟨_,rfl⟩;have HRS:=hide (show res.size=32/\res.all (·.oneCell')=true from by rw[<-hres];exact⟨by simpa using aA HLS,dB _⟩);have HRE:=hide hres;clear hres;have harr:=fun X=>aUu (P:=Tryz.prog) Tryz.underlying142 (ad:=some ⟨g7,0,none⟩) (len:=4*8) (c:=c7) (by omega) X
            go_wp2_with (first
              |(refine qA (ty:=142) (x:=.tmp 45) rfl rfl dY rfl (arr:=res) (cs:=(sha l).map gq) (aA HRG) ?_ (aA HRE) ?_;(focus (simpa using aA HLS)))
              |(refine aT (ty:=142) (t:=142) (x:=.tmp 2) (y:=.tmp 46) rfl rfl dY rfl rfl (aA HO8).1 (aA HO8).2 (aA HRS).1 (aA HRS).2 ?_;intro w9 hb9 hc9 hz9))
            have hd9:=((aA HI).2.blk (aA HD).2);have aDU:=dm.blk hc9 hd9 (fun e=>by have:=(aA HD).1;omega);refine aIp rfl aDU (dJ dY rfl (hb9.putObj aDU rfl) (aA HRS).1 rfl) ⟨by rw[aA HRE],?_⟩;refine aYe _ (((aA Ou).trans (aA HI).2).trans' hc9 (fun _ _ h=>h) (fun i hi e=>by omega)) (by have:=(aA HD).1;omega)
end
section
section
variable {P:Program} {w:World}
theorem Ih{t ty e:TypeId}{bytes:Nat}(T:zn P t e 1 bytes){b:Addr}{n:Nat}{xs:List Value}(hs:Reads w 1 (.slice (some b) n n) n xs)(hn:0<n)
  {u:Value} {m:Nat} {news:List Value} (hr:Reads w 1 u m news) (h1:dN news) (hbytes:(n+m)*bytes<=140737488355328) :
  ∃ A' c' w',(Builtin.append_ #[t,t] ty #[.slice (some b) n n,u]).run P w=.ok (.slice A' (n+m) c') w'/\Reads w' 1 (.slice A' (n+m) c') (n+m) (xs++news)/\Ext w w':=by
 obtain⟨ht,⟨i,z,hi,hz,hsize,hby,hzs⟩,_,hbp⟩:=T;obtain⟨hl,A,c,rfl,hmc,hcm,hcell⟩:=hr
 have h63:n+m<=maxLen:=by
  have:(n+m)*1<=(n+m)*bytes:=Nat.mul_le_mul_left _ hbp;unfold maxLen;omega
 rcases Nat.eq_zero_or_pos m with h0|h0
 ·subst h0;have hnl:news=[]:=List.eq_nil_of_length_eq_zero (by simpa using hl);subst hnl
  refine⟨_,n,w,?_,by simpa using hs,Ext.refl _⟩
  rcases A with _|ad
  ·simp[Builtin.append_,run_underlying ht,sizeOf,typeInfo,hi,Builtin.lenOf,Builtin.firstCells,storeCells]
  ·obtain⟨_,A2,c2,e2,_,_,hc2⟩:=hs;cases e2;obtain⟨b0,o0,e0,_⟩:=hc2 hn;cases e0;have:=run_append_room_cells (P:=P) w t ty e i ht hi b0 o0 n n ad 0 c [] (by simp) (fun j u h=>by simp at h) (fun u h=>by cases h) (by omega) (fun j h=>by simp at h) (fun j h=>by simp at h)
   simpa[World.setCells] using this
 ·obtain⟨hxl,A2,c2,e2,_,_,hc2⟩:=hs;cases e2;obtain⟨b0,o0,e0,hcs⟩:=hc2 hn;cases e0;obtain⟨b1,o1,rfl,hcn⟩:=hcell h0;obtain⟨v',w',hrun,r1,r2⟩:=run_append_arg_grows (P:=P) w t ty e i z 1 bytes ht hi hz hsize hby hzs (by omega) ⟨b0,o0,none⟩ n n xs hxl (fun j u hj=>by rw[Addr.add_lit];exact hcs j u hj) ⟨b1,o1,none⟩ m c news hl (fun j u hj=>by rw[Addr.add_lit];exact hcn j u hj) (by omega) h63 hbytes;obtain⟨A',c',rfl⟩:=nS r1
  exact⟨A',c',w',hrun,Reads.l9 r1,(Ext.refl w).grown r2 (fun k h=>by cases h)⟩
theorem bAs{o:Oper}{a:Act}{K:Act->World->Prop}{Q:Exit->Act->World->Prop}{s x:Operand}{t:TypeId}
  (ho:o.op=.call { callee:=.builtin .append,args:=#[s,x],argTypes:=#[t,t] })
  {e:TypeId} {bytes:Nat} (T:zn P t e 1 bytes) {b:Addr} {n:Nat} {xs:List Value} (hs:a.eval s=.slice (some b) n n) (hown:Reads w 1 (.slice (some b) n n) n xs) (hn:0<n)
  {u:Value} (hx:a.eval x=u) {m:Nat} {news:List Value} (hr:Reads w 1 u m news) (h1:dN news) (hbytes:(n+m)*bytes<=140737488355328)
  (h:∀ (A':Option Addr) (c':Nat) w',Reads w' 1 (.slice A' (n+m) c') (n+m) (xs++news)->Ext w w'->K (a.put o.dst (.slice A' (n+m) c')) w'):o.wp P a w K Q:=by
 obtain⟨A',c',w',hrun,h2,h3⟩:=Ih (P:=P) (ty:=o.type) T hown hn hr h1 hbytes;unfold Oper.wp execOp;simp only[ho,resolve,invoke,builtin,Sem.run_bind,Sem.run_pure,Result.andThen_ok,List.map_toArray,List.map_cons,List.map_nil,hs,hx,hrun];exact h A' c' w' h2 h3
theorem aNn{ops:Array Oper}{o:Oper}{a:Act}{K:Act->World->Prop}{Q:Exit->Act->World->Prop}{E:Prop}(hgd:o.guard=none){s x:Operand}{t:TypeId}
  (ho:o.op=.call { callee:=.builtin .append,args:=#[s,x],argTypes:=#[t,t] })
  {e:TypeId} {bytes:Nat} (T:zn P t e 1 bytes) {b:Addr} {n:Nat} {xs:List Value} (hs:a.eval s=.slice (some b) n n) (hown:Reads w 1 (.slice (some b) n n) n xs) (hn:0<n)
  {u:Value} (hx:a.eval x=u) {m:Nat} {news:List Value} (hr:Reads w 1 u m news) (h1:dN news) (hbytes:(n+m)*bytes<=140737488355328)
  (h:∀ (A':Option Addr) (c':Nat) w',Reads w' 1 (.slice A' (n+m) c') (n+m) (xs++news)->Ext w w'->K (a.put o.dst (.slice A' (n+m) c')) w') :
  if Region.wanted o (yielded ops a.tmps)=true then Oper.wp P o a w K Q else E:=by
 have hw:Region.wanted o (yielded ops a.tmps)=true:=by simp[Region.wanted,hgd]
 rw[if_pos hw];exact bAs ho T hs hown hn hx hr h1 hbytes h
theorem aDm{ops:Array Oper}{rest:List Oper}{o:Oper}{a:Act}{Q:Exit->Act->World->Prop}(hgd:o.guard=none){s x:Operand}{t:TypeId}
  (ho:o.op=.call { callee:=.builtin .append,args:=#[s,x],argTypes:=#[t,t] })
  {e:TypeId} {bytes:Nat} (T:zn P t e 1 bytes) {b:Addr} {n:Nat} {xs:List Value} (hs:a.eval s=.slice (some b) n n) (hown:Reads w 1 (.slice (some b) n n) n xs) (hn:0<n)
  {u:Value} (hx:a.eval x=u) {m:Nat} {news:List Value} (hr:Reads w 1 u m news) (h1:dN news) (hbytes:(n+m)*bytes<=140737488355328)
  (h:∀ (A':Option Addr) (c':Nat) w',Reads w' 1 (.slice A' (n+m) c') (n+m) (xs++news)->Ext w w'->wpList P ops Q rest (a.put o.dst (.slice A' (n+m) c')) w'):wpList P ops Q (o::rest) a w:=
 wpList_plain hgd fun _ hK=>bAs ho T hs hown hn hx hr h1 hbytes fun A' c' w' h2 h3=>hK _ _ (h A' c' w' h2 h3)
end
end
theorem Jr(w:World):Calls Tryz.prog 169 #[.int .u64 1,.int .u64 64] w fun e w'=>e=.returned (.tuple #[.int .u64 0,.int .u64 64])/\w=w':=by
 go_enter Tryz.func169,Tryz.ntmps169
 go_wp2
 go_ret2
 exact⟨by kernel_rfl,rfl⟩
theorem aHv{α:Type}(cur:List α)(x:α)(p m:Nat)(h:cur.take p=List.replicate p x)(_hl:p+m<=cur.length):(splice cur p (List.replicate m x)).take (p+m)=List.replicate (p+m) x:=by
 unfold splice;rw[h,<-List.append_assoc,List.replicate_append_replicate,List.take_left' (by simp)]
def aXb(x:UInt8)(w:World)(g n p:Nat)(wr:World):Prop:=∃ cur:List Value,wr.heap[g]?=some (.cells cur.toArray 5 (0,0))/\cur.take p=List.replicate p (gq x)/\cur.length=n/\Below w.heap.size w wr
theorem bBd:(Tryz.prog.info? 5).map (·.size)=some 1:=by kernel_rfl
theorem aXz(x:UInt8)(v:Value)(w:World)(hr:Reads w 1 v 1 [gq x]) :
  Calls Tryz.prog 193 #[v,.int .i64 64] w fun e w'=>∃ g,e=.returned (.slice (some ⟨g,0,none⟩) 64 64)/\Reads w' 1 (.slice (some ⟨g,0,none⟩) 64 64) 64 (List.replicate 64 (gq x))/\Ext w w'/\w.heap.size<=g/\(∀ i,w'.frozen? ⟨g,i,none⟩=false):=by
 have HR:=hide hr;obtain⟨b,o,c,u,rfl,hc1,hc2,hb,hu,ZT⟩:=hr.DN (k:=0) (by omega);cases hu;unfold gq at ZT;have HU:=hide ZT;clear hr ZT;obtain⟨cs,hrunM,hle,hmax⟩:=Lib.run_makeNoZero (P:=Tryz.prog) w #[3] 74 5 Tryz.underlying74 64 (by omega)
 have hcall:(callFunc 199 #[.int .i64 64]).run Tryz.prog w=.ok (.value (.slice (some ⟨w.heap.size,0,none⟩) 64 cs.size)) ((w.alloc (.cells cs 5)).drewN 2):=by
  have:=run_callFunc_extern (P:=Tryz.prog) (args:=#[.int .i64 64]) (w:=w) Tryz.func199 (by kernel_rfl) (by kernel_rfl) (by kernel_rfl) (e:=Extern.BytealgMakeNoZero.makeNoZero #[3] #[74]) (by kernel_rfl);rw[this];have h2:(Extern.BytealgMakeNoZero.makeNoZero #[3] #[74] #[.int .i64 64]).run Tryz.prog w=_:=hrunM;rw[h2];rfl
 clear hrunM;have hmx:=hmax (by unfold maxLen;omega);unfold maxLen at hmx;clear hmax
 have i1:(64:Int)<=(cs.size:Int):=by omega
 have HC:=hide (show aXb x w w.heap.size cs.size 0 ((w.alloc (.cells cs 5)).drewN 2) from⟨cs.toList,(au.new w 5 cs).drewN 2,rfl,by simp,(((Ext.refl w).alloc _).drewN _).below⟩)
 go_enter Tryz.func193,Tryz.ntmps193
 go_upto_region 17 with (go_at_call 169;refine (Jr _).mono ?_;rintro e w' ⟨rfl,rfl⟩)
 iterate 7 (first|go_values|go_skip|go_guarded|go_step|go_upon)
 obtain⟨aFB,C1,C2,C3,C4⟩:=aA HC;refine wpList_copy_splice rfl (.tmp 58) (.tmp 59) 74 74 rfl 5 Tryz.underlying74 bBd (some ⟨w.heap.size,0,none⟩) (some ⟨b,o,none⟩) 64 64 1 c rfl rfl w.heap.size 0 aFB 5 C1 [gq x] rfl ?_ ?_ ?_ w.heap.size w C4 (Nat.le_refl _) ?_
 ·intro _
  refine⟨rfl,_,rfl,fun j v hj=>?_⟩
  match j,hj with
  |0,hj=>
   cases hj;exact (C4.cell (p:=⟨b,o,none⟩) hb).trans (aA HU)
 ·simp;omega
 ·intro v hv;simp at hv;subst hv;rfl
 ·intro w2 G1 G2;have HI:=hide (show aXb x w w.heap.size cs.size 1 w2 from⟨_,aA G1,by have:=aHv aFB (gq x) 0 1 C2 (by omega);simpa using this,by rw[length_splice _ _ _ (by simp;omega)];exact C3,G2⟩);clear C1 C2 C3 C4 G1 G2
  go_wp2
  go_loopw [10] (fun p wr=>∃ k:Nat,0<k/\k<=64/\p=.int .i64 k/\Hid (aXb x w w.heap.size cs.size k wr)) (fun p _=>64-(intOf p).toNat)
  case atStart=>exact⟨1,by omega,by omega,rfl,HI⟩
  case round=>
   clear HI;obtain⟨k,hk0,hk,rfl,HI⟩:=hrel
   by_cases hlt:k<64
   ·obtain⟨cur,C1,C2,C3,C4⟩:=aA HI
    have hC3:64<=cur.length:=by omega
    have HK:=hide (And.intro C2 C3);clear C2 C3;have G_:decide ((k:Int)<64)=true:=decide_eq_true (by omega)
    have b64:(k:Int)<64:=by omega
    have bn:¬k=64:=by omega
    have b1:(k:Int)<=64:=by omega
    have b0:(0:Int)<=(k:Int):=by omega
    obtain⟨m,hm⟩:∃ m,Nat.min k (64-k)=m:=⟨_,rfl⟩
    have hm1:k+m<=64/\m<=k/\0<m:=by have:Nat.min k (64-k)=min k (64-k):=rfl;omega
    have p2:0<(List.replicate m (gq x)).length->some (⟨w.heap.size,k,none⟩:Addr)=some ⟨w.heap.size,k,none⟩/\∃ ad,some (⟨w.heap.size,0,none⟩:Addr)=some ad/\∀ (j:Nat) (v:Value),(List.replicate m (gq x))[j]?=some v->wr.drew.cell? (ad.add j)=some v:=by
     intro _
     refine⟨rfl,_,rfl,fun j v hj=>?_⟩
     have hjm:j<m:=by
      rcases Nat.lt_or_ge j m with h|h
      ·exact h
      ·rw[List.getElem?_eq_none (by simpa using h)] at hj;cases hj
     rw[List.getElem?_replicate,if_pos hjm] at hj;cases hj;rw[add_lit,Nat.zero_add];have:=au.cell (show au wr w.heap.size 5 cur.toArray from C1) j;refine Eq.trans this ?_;have e:=(aA HK).1
     have e2:(cur.take k)[j]?=some (gq x):=by rw[e,List.getElem?_replicate,if_pos (by omega)]
     rw[List.getElem?_take,if_pos (by omega)] at e2
     simpa using e2
    have p1:(List.replicate m (gq x)).length=Nat.min k (64-k):=by rw[hm];simp
    have p4:∀ v∈List.replicate m (gq x),v.oneCell'=true:=by intro v hv;rw[(List.mem_replicate.1 hv).2];rfl
    obtain⟨w3,hrun,HN⟩:∃ w3,(Builtin.copy_ #[74,74] 3 #[.slice (some ⟨w.heap.size,k,none⟩) (64-k) (64-k),.slice (some ⟨w.heap.size,0,none⟩) k 64]).run Tryz.prog wr.drew=.ok (.int .i64 (m:Int)) w3/\Hid (aXb x w w.heap.size cs.size (k+m) w3):=by
     obtain⟨_,ad,e,hsrc⟩:=p2 (by simp;omega);cases e;have h:=run_copy_row (P:=Tryz.prog) wr.drew 74 74 3 5 w.heap.size k (64-k) (64-k) ⟨w.heap.size,0,none⟩ k 64 cur.toArray 5 (List.replicate m (gq x)) Tryz.underlying74 bBd C1 p1 hsrc (by simp;omega) p4;simp only[List.length_replicate] at h
     refine⟨_,h,hide ⟨splice cur k (List.replicate m (gq x)),?_,aHv cur (gq x) k m (aA HK).1 (by omega),?_,?_⟩⟩
     ·have:=setRow_heap wr.drew w.heap.size _ (splice cur k (List.replicate m (gq x))).toArray 5 _ C1
      simpa[splice,List.append_assoc] using this
     ·rw[length_splice _ _ _ (by simp;omega)];exact (aA HK).2
     ·exact below_setRow (C4.trans (Ext.below ((Ext.refl wr).drew) |>.mono (by have:=C4.size;omega))) (Nat.le_refl _) _
    have HM:=hide (And.intro hm hm1);obtain⟨hm2,hm3,hm4⟩:=hm1;clear hm p1 p2 p4 C1 C4 hC3
    go_upto_region 20 with fail
    go_region
    all_goals
     go_wp2
     go_roundw
     case rel=>exact⟨k+m,by omega,by omega,by go_num,HN⟩
     case measure=>simp[intOf];omega
   ·obtain rfl:k=64:=by omega
    go_wp2
    go_ret
    obtain⟨cur,C1,C2,C3,C4⟩:=aA HI
    refine⟨_,rfl,?_,Ext.of_below C4,Nat.le_refl _,(show au wr w.heap.size 5 cur.toArray from C1).frozen⟩
    have:=Reads.su (show au wr w.heap.size 5 cur.toArray from C1) (i:=0) (n:=64) (c:=64) (by simp;omega) (by omega) (by unfold maxLen;omega)
    simpa[C2] using this
theorem Reads.set{w:World}{g n c:Nat}{xs:List Value}(h:Reads w 1 (.slice (some ⟨g,0,none⟩) n c) n xs){k:Nat}(hk:k<n)(u:Value):Reads (w.setCell ⟨g,k,none⟩ u) 1 (.slice (some ⟨g,0,none⟩) n c) n (xs.set k u):=by
 obtain⟨hl,A,c2,e,h1,h2,h3⟩:=h;cases e
 refine⟨by rw[List.length_set];exact hl,_,_,rfl,h1,h2,fun hn=>⟨g,0,rfl,fun j v hj=>?_⟩⟩
 obtain⟨b,o,e,hc⟩:=h3 hn;cases e;rw[Nat.zero_add]
 by_cases hjk:k=j
 ·subst hjk;rw[List.getElem?_set_self (by omega)] at hj;cases hj;have:=hc k _ (zH (by omega));rw[Nat.zero_add] at this;exact World.cell?_setCell_same' _ _ _ (by rw[this];rfl)
 ·rw[List.getElem?_set_ne hjk] at hj;have:=hc j v hj;rw[Nat.zero_add] at this;rw[World.cell?_setCell_other (h:=fun e=>hjk (by cases e;rfl))];exact this
def B_(n:Nat)(key:List UInt8)(x:UInt8)(k:Nat):List UInt8:=(List.range n).map fun i=>if i<k then x ^^^ key.getD i 0 else x
def JJ(n:Nat)(key:List UInt8)(x:UInt8):List UInt8:=(List.range n).map fun i=>key.getD i 0 ^^^ x
theorem bDd(n:Nat)(key:List UInt8)(x:UInt8):(B_ n key x 0).map gq=List.replicate n (gq x):=by
 unfold B_;apply List.ext_getElem
 ·simp
 ·intro i h1 h2;simp
theorem rZ(n:Nat)(key:List UInt8)(x:UInt8)(k:Nat):(B_ n key x k).length=n:=by simp[B_]
theorem aVh(n:Nat)(key:List UInt8)(x:UInt8)(k i:Nat)(h:i<n):(B_ n key x k)[i]?=some (if i<k then x ^^^ key.getD i 0 else x):=by
 unfold B_;rw[List.getElem?_map,List.getElem?_range h];rfl
theorem bDe(n:Nat)(key:List UInt8)(x:UInt8)(k:Nat):B_ n key x (k+1)=(B_ n key x k).set k (x ^^^ key.getD k 0):=by
 apply List.ext_getElem?;intro i
 by_cases hi:i<n
 ·rw[aVh n key x (k+1) i hi,List.getElem?_set,aVh n key x k i hi,rZ]
  by_cases hik:k=i
  ·subst hik;rw[if_pos rfl,if_pos hi,if_pos (by omega)]
  ·rw[if_neg hik]
   by_cases h:i<k
   ·rw[if_pos h,if_pos (by omega)]
   ·rw[if_neg h,if_neg (by omega)]
 ·rw[List.getElem?_eq_none (by rw[rZ];omega),List.getElem?_eq_none (by rw[List.length_set,rZ];omega)]
theorem JK(n:Nat)(key:List UInt8)(x:UInt8):B_ n key x key.length=JJ n key x:=by
 unfold B_ JJ;apply List.map_congr_left;intro i _
 by_cases h:i<key.length
 ·rw[if_pos h,UInt8.xor_comm]
 ·rw[if_neg h,zG,List.getElem?_eq_none (by omega)];simp
theorem QA(n:Nat)(key:List UInt8)(x:UInt8)(k:Nat)(h:k<n):((B_ n key x k).map gq)[k]?=some (gq x):=by
 rw[List.getElem?_map,zH (by rw[rZ];exact h)];simp[B_]
def uT(key:List UInt8)(x:UInt8)(k:Nat):List UInt8:=B_ 64 key x k
def mV(key:List UInt8)(x:UInt8):List UInt8:=JJ 64 key x
theorem aOl(key:List UInt8)(x:UInt8):(uT key x 0).map gq=List.replicate 64 (gq x):=bDd 64 key x
theorem aOm(key:List UInt8)(x:UInt8)(k:Nat):uT key x (k+1)=(uT key x k).set k (x ^^^ key.getD k 0):=bDe 64 key x k
theorem aSm(key:List UInt8)(x:UInt8):uT key x key.length=mV key x:=JK 64 key x
theorem aYm(key:List UInt8)(x:UInt8)(k:Nat)(h:k<64):((uT key x k).map gq)[k]?=some (gq x):=QA 64 key x k h
theorem gB(key:List UInt8)(x:UInt8):(mV key x).length=64:=by unfold mV JJ;rw[List.length_map,List.length_range]
theorem aKy(x:UInt8)(xI:Int)(hx:xI=(x.toNat:Int))(key:List UInt8)(kb:Nat)(v:Value)(w:World)(hk:w.cell? ⟨kb,0,none⟩=some v)(hr:Reads w 1 v key.length (key.map gq))(hl:key.length<=64) :
  Calls Tryz.prog 192 #[.int .u8 xI,.pointer (some ⟨kb,0,none⟩)] w fun e w'=>∃ g,e=.returned (.slice (some ⟨g,0,none⟩) 64 64)/\Reads w' 1 (.slice (some ⟨g,0,none⟩) 64 64) 64 ((mV key x).map gq)/\Ext w w':=by
 subst hx;have HR:=hide hr
 obtain⟨A,c,rfl⟩:∃ A c,v=.slice A key.length c:=by obtain⟨_,A,c,h,_⟩:=hr;exact⟨A,c,h⟩
 have HK:=hide hk;have HL:=hide (lt_of_cell hk);clear hr hk
 go_enter Tryz.func192,Tryz.ntmps192
 go_wp2_with fail
 refine (aXz x _ _ ?hr).mono ?_
 case hr=>exact Reads.t_ _ _ _
 rintro e w1 ⟨g,rfl,hR,hE,hg,hf⟩;have hk1:w1.cell? ⟨kb,0,none⟩=some (.slice A key.length c):=Ext.jd (((Ext.refl w).alloc _).trans hE) (aA HK);have HG:=hide (show w.heap.size<=g from Nat.le_trans (((Ext.refl w).alloc (.cells #[gq x] 5)).size') hg);have HE:=hide (((Ext.refl w).alloc (.cells #[gq x] 5)).trans hE);have HQ:=hide (And.intro hR hf);clear hR hE hg hf
 go_wp2
 clear hk1
 go_loopw [12] (fun i wr=>∃ k:Nat,k<=key.length/\i=.int .i64 k/\Hid (Reads wr 1 (.slice (some ⟨g,0,none⟩) 64 64) 64 ((uT key x k).map gq)/\(∀ i,wr.frozen? ⟨g,i,none⟩=false)/\Ext w wr)) (fun i _=>key.length-(intOf i).toNat)
 case atStart=>exact⟨0,Nat.zero_le _,rfl,hide ⟨by rw[aOl];exact (aA HQ).1,(aA HQ).2,aA HE⟩⟩
 case round=>
  obtain⟨k,hk,rfl,HI⟩:=hrel
  by_cases hlt:k<key.length
  ·obtain⟨b,o,c',u,hv,_,_,hb,hu,hcc⟩:=((aA HR).ext (aA HI).2.2).DN hlt;cases hv;rw[List.getElem?_map,zH hlt] at hu;cases hu
   have ho:wr.cell? ⟨g,k,none⟩=some (gq x):=by
    obtain⟨_,_,_,e,_,_,h⟩:=(aA HI).1;cases e;obtain⟨b2,o2,e2,h2⟩:=h (by omega);cases e2;have:=h2 k _ (aYm key x k (by omega));rwa [Nat.zero_add] at this
   have hf:=(aA HI).2.1 k;unfold gq at hcc ho;have HS:=hide (show uT key x (k+1)=(uT key x k).set k (x ^^^ key[k]) from by rw[aOm key x k,zG,zH hlt];rfl)
   have bJc:(k:Int)<64:=by omega
   generalize key[k]=z at *;have hX:=Ba x z;have HX:=hide hX;clear hX
   go_wp2
   go_roundw
   case rel=>
    refine⟨k+1,by omega,by go_num,hide ⟨?_,fun i=>by rw[World.frozen?_setCell];exact (aA HI).2.1 i,(aA HI).2.2.setCell (aA HG) _⟩⟩
    rw[aA HS,List.map_set];have:=(aA HI).1.set (k:=k) (by omega) (gq (x ^^^ z));rw[aA HX];exact this
   case measure=>simp[intOf];omega
  ·obtain rfl:k=key.length:=by omega
   go_wp2
   go_ret
   refine⟨g,rfl,?_,(aA HI).2.2⟩
   rw[<-aSm];exact (aA HI).1
theorem aLn(key m:List UInt8):AA key m=sha (mV (if key.length > 64 then sha key else key) 92++sha (mV (if key.length > 64 then sha key else key) 54++m)):=rfl
theorem cZ(l:List UInt8):(sha l).length=32:=by
 have h:(lK ((eU l).length / 64) mF (eU l)).length=8:=by rw[<-nH];exact gV _ _ _ rfl
 have h2:=aBt (lK ((eU l).length / 64) mF (eU l)) 8 (by omega);unfold Om at h2;rw[List.take_of_length_le (by omega)] at h2;exact h2
theorem iJ(key m:List UInt8):(AA key m).length=32:=by rw[aLn];exact cZ _
theorem aLo (key b:List UInt8) (kv bv:Value) (w:World) (hM:a_ w) (hk:Reads w 1 kv key.length (key.map gq)) (hb:Reads w 1 bv b.length (b.map gq)) (hkl:key.length<=1000000) (hbl:b.length<=1000000) :
    Calls Tryz.prog 179 #[kv,bv] w fun e w'=>e=.returned (.agg ((AA key b).map gq).toArray)/\Ext w w':=by
  have HM:=hide hM;have HB:=hide hb
  obtain⟨A,c,rfl⟩:∃ A c,kv=.slice A key.length c:=by obtain⟨_,A,c,h,_⟩:=hk;exact⟨A,c,h⟩
  have HK0:=hide hk;clear hM hk hb;rw[aLn]
  by_cases hlen:key.length > 64
  ·
    rw [if_pos hlen];have G_:decide ((64:Int)<(key.length:Int))=true:=decide_eq_true (by omega)
    have hl':(sha key).length<=64:=by rw[cZ];omega
    obtain⟨k',hk'⟩:∃ k',sha key=k':=⟨_,rfl⟩;rw[hk'] at hl' ⊢;have HKK:=hide hk';clear hk' hlen
    go_enter Tryz.func179,Tryz.ntmps179
    go_wp2_with fail
    refine (sum_any key _ _ ((aA HM).ext (((Ext.refl w).alloc _).alloc _)) ((aA HK0).ext (((Ext.refl w).alloc _).alloc _)) (by omega)).mono ?_;rintro e w1 ⟨rfl,hE1⟩;clear G_;rw[aA HKK];have H1:=hide hE1;clear hE1;have Ua:=hide (show ((k'.map gq).toArray).size=32 from by rw[<-aA HKK];simpa using cZ _);have c0:w1.cell? ⟨w.heap.size,0,none⟩=some (.slice A key.length c):=Ext.jd (aA H1) (gW _ _ (fH _ _ _ rfl rfl));have f0:w1.frozen? ⟨w.heap.size,0,none⟩=false:=Ext.vw (aA H1) (((au.new w 74 #[.slice A key.length c]).alloc _).frozen 0) (by simp;omega);have Xv:=hide (And.intro c0 (And.intro f0 (lt_of_cell c0)));clear c0 f0
    go_wp2_with (refine aT (ty:=142) (t:=142) (x:=.tmp 5) (y:=.tmp 12) rfl rfl dY rfl rfl (au.new w1 _ _) rfl (aA Ua) (dB _) ?_;intro w2 hb2 hc2 hz2;have c0:=dm.jd (hc2) (gW _ _ (aA Xv).1) (Nat.ne_of_lt (aA Xv).2.2);have f0:=dm.vw hc2 (Ext.vw ((Ext.refl w1).alloc _) (aA Xv).2.1 (aA Xv).2.2) (by have:=(aA Xv).2.2;simp;omega) (Nat.ne_of_lt (aA Xv).2.2);have HW2:=hide (And.intro hb2 (And.intro hc2 hz2));clear hb2 hc2 hz2)
    obtain⟨kv',Dl⟩:∃ v,v=Value.slice (some ⟨w1.heap.size,0,none⟩) 32 32:=⟨_,rfl⟩
    have hwl:w.heap.size+2<=w1.heap.size:=by have:=(aA H1).size';simp at this;omega
    have e32:k'.length=32:=by rw[<-aA HKK];exact cZ _
    have hX0:dm (fun k=>k=w.heap.size) w1 (w2.setCell ⟨w.heap.size,0,none⟩ kv'):=by
      have h1:dm (fun k=>k=w.heap.size) w1 w2:=((Ext.refl w1).alloc _).trans' (aA HW2).2.1 (fun _ _ h=>h.elim) (fun i hi e=>by omega);exact h1.setCell (p:=⟨w.heap.size,0,none⟩) (.inl rfl) _
    have HK:Hid ((w2.setCell ⟨w.heap.size,0,none⟩ kv').cell? ⟨w.heap.size,0,none⟩=some kv'/\Reads (w2.setCell ⟨w.heap.size,0,none⟩ kv') 1 kv' k'.length (k'.map gq)/\Ext w (w2.setCell ⟨w.heap.size,0,none⟩ kv') /\
        au (w2.setCell ⟨w.heap.size,0,none⟩ kv') (w.heap.size+1) 142 (Array.replicate 32 (.int .u8 0))):=hide (by
      refine⟨World.cell?_setCell_same' _ _ _ (by rw[c0];rfl),?_,?_,?_⟩
      ·
        have hb:=(aA HW2).1.far' (show ¬w1.heap.size=w.heap.size by omega) 0 kv';have:=Reads.su hb (i:=0) (n:=32) (c:=32) (by rw[aA Ua];omega) (by omega) (by unfold maxLen;omega);simp only[List.drop_zero] at this;rw[List.take_of_length_le (by rw[List.length_map];omega)] at this;rw[e32,Dl];rw[Dl] at this;exact this
      · exact ((((Ext.refl w).alloc _).alloc _).trans (aA H1)).trans' hX0 (fun _ _ h=>h) (fun i hi e=>by omega)
      ·
        have h1:au ((w.alloc (.cells #[.slice A key.length c] 74)).alloc (.cells (Array.replicate 32 (.int .u8 0)) 142)) (w.heap.size+1) 142 (Array.replicate 32 (.int .u8 0)):=au.new' _ _ _ (by simp)
        exact (h1.ext (aA H1)).gu hX0 (by omega))
    subst Dl;clear c0 f0 hX0 hwl e32 Xv;have HL':=hide hl'
    go_wp2_with fail
    refine (aKy 54 _ rfl k' w.heap.size (.slice (some ⟨w1.heap.size,0,none⟩) 32 32) _ (aA HK).1 (aA HK).2.1 hl').mono ?_;rintro e w2 ⟨g2,rfl,hR2,hE2⟩;have H2:=hide (And.intro hR2 hE2);clear hR2 hE2
    go_wp2_with (at_builtin;refine aDm rfl rfl fC rfl (aA H2).1 (by omega) rfl (((aA HB).ext (aA HK).2.2.1).ext (aA H2).2) (dN.u8 b) (by omega) ?_;intro A3 c3 w3 hr3 ug;have H3:=hide (And.intro hr3 ug);clear hr3 ug)
    refine (sum_any (mV k' 54++b) _ _ (((aA HM).ext (aA HK).2.2.1).ext ((aA H2).2.trans (aA H3).2)) ?hr (by rw[List.length_append,gB];omega)).mono ?_
    case hr=>have:=(aA H3).1;rw[<-List.map_append] at this;rw[List.length_append,gB];exact this
    rintro e w4 ⟨rfl,RS⟩;obtain⟨in1,hin1⟩:∃ r,((sha (mV k' 54++b)).map gq).toArray=r:=⟨_,rfl⟩;have HI1:=hide hin1;have HI2:=hide (show in1.size=32/\in1.all (·.oneCell')=true from by rw[<-hin1];exact⟨by simpa using cZ _,dB _⟩);rw[hin1];have H4:=hide ((aA H2).2.trans ((aA H3).2.trans RS));clear hin1 RS
    go_wp2_with (refine aT (ty:=142) (t:=142) (x:=.tmp 7) (y:=.tmp 19) rfl rfl dY rfl rfl (au.new w4 _ _) rfl (aA HI2).1 (aA HI2).2 ?_;intro w5 hb5 hc5 Qv;have H5:=hide (And.intro hb5 (And.intro hc5 Qv));clear hb5 hc5 Qv)
    have TP:=hide ((aA H4).trans (((Ext.refl w4).alloc (.cells #[Value.int IntKind.u8 0,Value.int IntKind.u8 0,Value.int IntKind.u8 0,Value.int IntKind.u8 0,Value.int IntKind.u8 0,Value.int IntKind.u8 0,Value.int IntKind.u8 0,Value.int IntKind.u8 0,Value.int IntKind.u8 0,Value.int IntKind.u8 0,Value.int IntKind.u8 0,Value.int IntKind.u8 0,Value.int IntKind.u8 0,Value.int IntKind.u8 0,Value.int IntKind.u8 0,Value.int IntKind.u8 0,Value.int IntKind.u8 0,Value.int IntKind.u8 0,Value.int IntKind.u8 0,Value.int IntKind.u8 0,Value.int IntKind.u8 0,Value.int IntKind.u8 0,Value.int IntKind.u8 0,Value.int IntKind.u8 0,Value.int IntKind.u8 0,Value.int IntKind.u8 0,Value.int IntKind.u8 0,Value.int IntKind.u8 0,Value.int IntKind.u8 0,Value.int IntKind.u8 0,Value.int IntKind.u8 0,Value.int IntKind.u8 0] 142)).trans' (aA H5).2.1 (fun _ _ h=>h) (fun i hi e=>by omega)))
    have HR7:=hide (show Reads w5 1 (.slice (some ⟨w4.heap.size,0,none⟩) 32 32) 32 ((sha (mV k' 54++b)).map gq) from by
      have:=Reads.su (aA H5).1 (i:=0) (n:=32) (c:=32) (by rw[(aA HI2).1];omega) (by omega) (by unfold maxLen;omega);rw[<-aA HI1] at this;simp only[List.drop_zero] at this
      rwa [List.take_of_length_le (by rw[List.length_map,cZ];omega)] at this)
    go_region_law (first
      |(refine aNn (s:=.tmp 21) (x:=.tmp 22) rfl rfl fC rfl (aA H6).1 (by omega) rfl ((aA HR7).ext (((Ext.refl w5).drew).trans (aA H6).2)) (dN.u8 _) (by omega) ?_;intro A8 c8 w8 hr8 UI;have H8:=hide (And.intro hr8 UI);clear hr8 UI)
      |(go_simp;go_at_call 192;refine (aKy 92 _ rfl k' w.heap.size (.slice (some ⟨w1.heap.size,0,none⟩) 32 32) _ (Ext.jd ((aA TP).drew) (aA HK).1) ((aA HK).2.1.ext ((aA TP).drew)) hl').mono ?_;rintro e w6 ⟨g6,rfl,hR6,Ai⟩;have H6:=hide (And.intro hR6 Ai);clear hR6 Ai)
      | (
       rename_i K hK;go_simp;go_at_call 191;refine (sum_any (mV k' 92++sha (mV k' 54++b)) _ _ ((((aA HM).ext (aA HK).2.2.1).ext (aA TP)).ext (((Ext.refl w5).drew).trans ((aA H6).2.trans (aA H8).2))) ?_ ?_).mono ?_;(focus (have:=(aA H8).1;rw[<-List.map_append] at this;rw[List.length_append,gB,cZ];exact this));(focus (rw[List.length_append,gB,cZ];omega));rintro e w9 ⟨rfl,AB⟩;have H9:=hide ((aA TP).trans (((Ext.refl w5).drew).trans ((aA H6).2.trans ((aA H8).2.trans AB))));clear AB;dsimp only;refine hK _ _ ?_;clear hK K;refine wpAny_ready (rs:=[5]) (by kernel_rfl) (by simp) (AllReady.cons rfl (fun J hJ=>?_) AllReady.nil);refine iI (ty:=142) (t:=142) (x:=.tmp 4) (y:=.tmp 24) rfl rfl dY rfl rfl ((aA HK).2.2.2.ext (aA H9)) ?_ ?_ ?_ ?_
       · rw[Array.size_replicate]
       · simpa using cZ _
       · exact dB _
       intro w10 ut um AV;have CX:=hide (And.intro ut um);clear ut um AV;refine hJ _ _ ?_
       clear hJ J))
    go_wp2
    refine bodyPost_ret (v:=.agg ((sha (mV k' 92++sha (mV k' 54++b))).map gq).toArray) (dJ dY rfl (aA CX).1 (by simpa using cZ _) rfl) rfl ⟨rfl,?_⟩;exact ((aA HK).2.2.1.trans (aA H9)).trans' (aA CX).2 (fun _ _ h=>h) (fun i hi e=>by omega)
  ·
    rw [if_neg hlen]
    have hl':key.length<=64:=by omega
    have G_:decide ((64:Int)<(key.length:Int))=false:=decide_eq_false (by omega);obtain⟨k',hk'⟩:∃ k',k'=key:=⟨_,rfl⟩;subst hk';obtain⟨kv',Dl⟩:∃ v,v=Value.slice A k'.length c:=⟨_,rfl⟩
    have HK:Hid ((((w.alloc (.cells #[.slice A k'.length c] 74)).alloc (.cells (Array.replicate 32 (.int .u8 0)) 142)).cell? ⟨w.heap.size,0,none⟩=some kv') /\
        Reads ((w.alloc (.cells #[.slice A k'.length c] 74)).alloc (.cells (Array.replicate 32 (.int .u8 0)) 142)) 1 kv' k'.length (k'.map gq)/\Ext w ((w.alloc (.cells #[.slice A k'.length c] 74)).alloc (.cells (Array.replicate 32 (.int .u8 0)) 142)) /\
        au ((w.alloc (.cells #[.slice A k'.length c] 74)).alloc (.cells (Array.replicate 32 (.int .u8 0)) 142)) (w.heap.size+1) 142 (Array.replicate 32 (.int .u8 0))):=hide ⟨by rw[Dl];exact gW _ _ (fH _ _ _ rfl rfl),by rw[Dl];exact (aA HK0).ext (((Ext.refl w).alloc _).alloc _),((Ext.refl w).alloc _).alloc _,au.new' _ _ _ (by simp)⟩
    have HKV:=hide Dl;clear Dl hlen
    go_enter Tryz.func179,Tryz.ntmps179
    have HL':=hide hl'
    go_wp2_with fail
    refine (aKy 54 _ rfl k' w.heap.size kv' _ (aA HK).1 (aA HK).2.1 hl').mono ?_;rintro e w2 ⟨g2,rfl,hR2,hE2⟩;have H2:=hide (And.intro hR2 hE2);clear hR2 hE2
    go_wp2_with (at_builtin;refine aDm rfl rfl fC rfl (aA H2).1 (by omega) rfl (((aA HB).ext (aA HK).2.2.1).ext (aA H2).2) (dN.u8 b) (by omega) ?_;intro A3 c3 w3 hr3 ug;have H3:=hide (And.intro hr3 ug);clear hr3 ug)
    refine (sum_any (mV k' 54++b) _ _ (((aA HM).ext (aA HK).2.2.1).ext ((aA H2).2.trans (aA H3).2)) ?hr (by rw[List.length_append,gB];omega)).mono ?_
    case hr=>have:=(aA H3).1;rw[<-List.map_append] at this;rw[List.length_append,gB];exact this
    rintro e w4 ⟨rfl,RS⟩;obtain⟨in1,hin1⟩:∃ r,((sha (mV k' 54++b)).map gq).toArray=r:=⟨_,rfl⟩;have HI1:=hide hin1;have HI2:=hide (show in1.size=32/\in1.all (·.oneCell')=true from by rw[<-hin1];exact⟨by simpa using cZ _,dB _⟩);rw[hin1];have H4:=hide ((aA H2).2.trans ((aA H3).2.trans RS));clear hin1 RS
    go_wp2_with (refine aT (ty:=142) (t:=142) (x:=.tmp 7) (y:=.tmp 19) rfl rfl dY rfl rfl (au.new w4 _ _) rfl (aA HI2).1 (aA HI2).2 ?_;intro w5 hb5 hc5 Qv;have H5:=hide (And.intro hb5 (And.intro hc5 Qv));clear hb5 hc5 Qv)
    have TP:=hide ((aA H4).trans (((Ext.refl w4).alloc (.cells #[Value.int IntKind.u8 0,Value.int IntKind.u8 0,Value.int IntKind.u8 0,Value.int IntKind.u8 0,Value.int IntKind.u8 0,Value.int IntKind.u8 0,Value.int IntKind.u8 0,Value.int IntKind.u8 0,Value.int IntKind.u8 0,Value.int IntKind.u8 0,Value.int IntKind.u8 0,Value.int IntKind.u8 0,Value.int IntKind.u8 0,Value.int IntKind.u8 0,Value.int IntKind.u8 0,Value.int IntKind.u8 0,Value.int IntKind.u8 0,Value.int IntKind.u8 0,Value.int IntKind.u8 0,Value.int IntKind.u8 0,Value.int IntKind.u8 0,Value.int IntKind.u8 0,Value.int IntKind.u8 0,Value.int IntKind.u8 0,Value.int IntKind.u8 0,Value.int IntKind.u8 0,Value.int IntKind.u8 0,Value.int IntKind.u8 0,Value.int IntKind.u8 0,Value.int IntKind.u8 0,Value.int IntKind.u8 0,Value.int IntKind.u8 0] 142)).trans' (aA H5).2.1 (fun _ _ h=>h) (fun i hi e=>by omega)))
    have HR7:=hide (show Reads w5 1 (.slice (some ⟨w4.heap.size,0,none⟩) 32 32) 32 ((sha (mV k' 54++b)).map gq) from by
      have:=Reads.su (aA H5).1 (i:=0) (n:=32) (c:=32) (by rw[(aA HI2).1];omega) (by omega) (by unfold maxLen;omega);rw[<-aA HI1] at this;simp only[List.drop_zero] at this
      rwa [List.take_of_length_le (by rw[List.length_map,cZ];omega)] at this)
    go_region_law (first
      |(refine aNn (s:=.tmp 21) (x:=.tmp 22) rfl rfl fC rfl (aA H6).1 (by omega) rfl ((aA HR7).ext (((Ext.refl w5).drew).trans (aA H6).2)) (dN.u8 _) (by omega) ?_;intro A8 c8 w8 hr8 UI;have H8:=hide (And.intro hr8 UI);clear hr8 UI)
      |(go_simp;go_at_call 192;refine (aKy 92 _ rfl k' w.heap.size kv' _ (Ext.jd ((aA TP).drew) (aA HK).1) ((aA HK).2.1.ext ((aA TP).drew)) hl').mono ?_;rintro e w6 ⟨g6,rfl,hR6,Ai⟩;have H6:=hide (And.intro hR6 Ai);clear hR6 Ai)
      | (
       rename_i K hK;go_simp;go_at_call 191;refine (sum_any (mV k' 92++sha (mV k' 54++b)) _ _ ((((aA HM).ext (aA HK).2.2.1).ext (aA TP)).ext (((Ext.refl w5).drew).trans ((aA H6).2.trans (aA H8).2))) ?_ ?_).mono ?_;(focus (have:=(aA H8).1;rw[<-List.map_append] at this;rw[List.length_append,gB,cZ];exact this));(focus (rw[List.length_append,gB,cZ];omega));rintro e w9 ⟨rfl,AB⟩;have H9:=hide ((aA TP).trans (((Ext.refl w5).drew).trans ((aA H6).2.trans ((aA H8).2.trans AB))));clear AB;dsimp only;refine hK _ _ ?_;clear hK K;refine wpAny_ready (rs:=[5]) (by kernel_rfl) (by simp) (AllReady.cons rfl (fun J hJ=>?_) AllReady.nil);refine iI (ty:=142) (t:=142) (x:=.tmp 4) (y:=.tmp 24) rfl rfl dY rfl rfl ((aA HK).2.2.2.ext (aA H9)) ?_ ?_ ?_ ?_
       · rw[Array.size_replicate]
       · simpa using cZ _
       · exact dB _
       intro w10 ut um AV;have CX:=hide (And.intro ut um);clear ut um AV;refine hJ _ _ ?_
       clear hJ J))
    go_wp2
    refine bodyPost_ret (v:=.agg ((sha (mV k' 92++sha (mV k' 54++b))).map gq).toArray) (dJ dY rfl (aA CX).1 (by simpa using cZ _) rfl) rfl ⟨rfl,?_⟩;exact ((aA HK).2.2.1.trans (aA H9)).trans' (aA CX).2 (fun _ _ h=>h) (fun i hi e=>by omega)
def zig(n:Int):Nat:=if 0<=n then (2*n).toNat else (-2*n-1).toNat
def varint:Nat->Nat->List UInt8
 |0,u=>[UInt8.ofNat u]
 |f+1,u=>if u<128 then[UInt8.ofNat u] else UInt8.ofNat (128+u % 128)::varint f (u / 128)
def b_(n:Int):List UInt8:=varint 9 (zig n)
def bT(l:List UInt8):List UInt8:=b_ l.length++l
theorem iU{f u:Nat}(h:u<128):varint f u=[UInt8.ofNat u]:=by cases f with
 |zero=>rfl
 |succ f=>rw[varint,if_pos h]
theorem mJ{f u:Nat}(h:¬u<128):varint (f+1) u=UInt8.ofNat (128+u % 128)::varint f (u / 128):=by rw[varint,if_neg h]
theorem aKa(f u:Nat):(varint f u).length<=f+1:=by
 induction f generalizing u with
 |zero=>simp[varint]
 |succ f ih=>
  rw[varint]
  split
  ·simp
  ·simp;exact ih _
theorem aY(n:Int):(b_ n).length<=10:=aKa 9 _
theorem fO(l:List UInt8):(bT l).length<=10+l.length:=by unfold bT;have:=aY l.length;simp;omega
theorem Zz{n:Int}(h1:-9223372036854775808<=n)(h2:n<9223372036854775808):zig n<18446744073709551616:=by unfold zig;split<;>omega
theorem aCH:∀ x,x<256->x ||| 128=128+x % 128:=by decide +kernel
theorem bDi(u:Nat):bits BinOp.or IntKind.u8 ((u:Int) % 256) 128=((UInt8.ofNat (128+u % 128)).toNat:Int):=by
 rw[u8_or _ _ (by omega) (by omega) (by omega) (by omega)]
 have e:((u:Int) % 256).toNat=u % 256:=by omega
 rw[e,show (128:Int).toNat=128 from rfl,aCH _ (by omega)];simp;omega
def TE(x:Nat):Prop:=x<18446744073709551616
def WI(n:Int)(w:World)(x f m:Nat)(v:Value)(wr:World):Prop:=
 ∃ pre:List UInt8,b_ n=pre++varint f x/\m=pre.length/\x<128 ^ (f+1)/\f<=9/\wr.ownsRow w.heap.size 5 1 v m (pre.map gq)/\Ext w wr
theorem WI.small{n:Int}{w wr:World}{x f m:Nat}{v:Value}(h:WI n w x f m v wr):m<=10:=by
 obtain⟨pre,h1,rfl,_⟩:=h;have:=aY n;rw[h1] at this;simp at this;omega
theorem WI.app{n:Int}{w wr w3:World}{x f m:Nat}{A A':Option Addr}{c c':Nat}(h:WI n w x f m (.slice A m c) wr)(hx:¬x<128)
  (ho:w3.ownsRow w.heap.size 5 1 (.slice A' (m+1) c') (m+1) ((h.choose).map gq++[gq (UInt8.ofNat (128+x % 128))])) {o:Obj} (hc:dm (fun k=>(Value.slice A m c).ownBlock=some k) (wr.alloc o) w3) :
  ∃ g,WI n w (x / 128) g (m+1) (.slice A' (m+1) c') w3:=by
 obtain⟨h1,h2,h3,h4,h5,h6⟩:=h.choose_spec;generalize h.choose=pre at *
 cases f with
 |zero=>simp at h3;omega
 |succ g=>
  rw[mJ hx] at h1
  refine⟨g,pre++[UInt8.ofNat (128+x % 128)],by rw[h1];simp,by simp[h2],?_,by omega,by simpa using ho,(h6.alloc o).trans' hc (fun _ _ h=>h) (fun i hi e=>by have:=h5.lt i e;omega)⟩
  rw[Nat.pow_succ] at h3;exact Nat.div_lt_of_lt_mul (by rw[Nat.mul_comm];exact h3)
theorem WI.last{n:Int}{w wr w3:World}{x f m:Nat}{A A':Option Addr}{c c':Nat}(h:WI n w x f m (.slice A m c) wr)(hx:x<128)
  (ho:w3.ownsRow w.heap.size 5 1 (.slice A' (m+1) c') (m+1) ((h.choose).map gq++[gq (UInt8.ofNat x)])) {o:Obj} (hc:dm (fun k=>(Value.slice A m c).ownBlock=some k) (wr.alloc o) w3) :
  m+1=(b_ n).length/\w3.ownsRow w.heap.size 5 1 (.slice A' (m+1) c') (m+1) ((b_ n).map gq)/\Ext w w3:=by
 obtain⟨h1,h2,h3,h4,h5,h6⟩:=h.choose_spec;generalize h.choose=pre at *;rw[iU hx] at h1
 refine⟨by rw[h1];simp[h2],by rw[h1];simpa using ho,(h6.alloc o).trans' hc (fun _ _ h=>h) (fun i hi e=>by have:=h5.lt i e;omega)⟩
theorem aCL(a:Nat)(h:a<18446744073709551616):bits BinOp.xor IntKind.u64 IntKind.u64.max (a:Int)=((18446744073709551615-a:Nat):Int):=by
 have e:=u64_xor IntKind.u64.max (a:Int) (by decide) (by decide) (by omega) (by omega);rw[e]
 have h1:(UInt64.ofNat a).toNat=a:=by simp;omega
 have h2:(-1 ^^^ UInt64.ofNat a).toNat=18446744073709551615-a:=by
  rw[UInt64.neg_one_xor,UInt64.toNat_not,h1];rfl
 rw[UInt64.toNat_xor,h1] at h2;rw[<-h2];rfl
theorem Oy(n:Int)(h0:0<=n)(h2:n<9223372036854775808):IntKind.u64.wrap (IntKind.u64.wrap n*2)=(zig n:Int):=by
 rw[IntKind.wrap_u64,IntKind.wrap_u64];unfold zig;rw[if_pos h0];omega
theorem Oz(n:Int)(h0:n<0)(h1:-9223372036854775808<=n):bits BinOp.xor IntKind.u64 IntKind.u64.max (IntKind.u64.wrap (IntKind.u64.wrap n*2))=(zig n:Int):=by
 have e:IntKind.u64.wrap (IntKind.u64.wrap n*2)=((2*n+18446744073709551616).toNat:Int):=by rw[IntKind.wrap_u64,IntKind.wrap_u64];omega
 rw[e,aCL _ (by omega)];unfold zig;rw[if_neg (by omega)];omega
theorem WI.start{n:Int}(h1:-9223372036854775808<=n)(h2:n<9223372036854775808)(w:World):WI n w (zig n) 9 0 (.slice none 0 0) w:=
 ⟨[],rfl,rfl,Nat.lt_of_lt_of_le (Zz h1 h2) (by decide),by omega,World.ownsRow_nil _ _ _ _,Ext.refl _⟩
theorem aXc(n:Int)(w:World)(h1:-9223372036854775808<=n)(h2:n<9223372036854775808) :
  Calls Tryz.prog 41 #[.int .i64 n] w fun e w'=>e=.returned (.int .u64 (zig n:Int))/\w=w':=by
 by_cases h0:0<=n
 ·have hz:=hide (show ((zig n:Nat):Int)=2*n from by unfold zig;rw[if_pos h0];omega)
  go_enter Tryz.func41,Tryz.ntmps41
  go_wp2
  go_ret
  exact⟨rW (by first|exact (aA hz).symm|(rw[aA hz];omega)|(rw[aA hz];simp[IntKind.wrap_u64];omega)),rfl⟩
 ·have hz:=hide (show ((zig n:Nat):Int) = -2*n-1 from by unfold zig;rw[if_neg h0];omega);have d0:decide (0<=n)=false:=decide_eq_false h0
  have hn:n<0:=by omega
  clear h0
  go_enter Tryz.func41,Tryz.ntmps41
  go_wp2
  go_ret
  exact⟨rW (by first|exact (aA hz).symm|(rw[aA hz];omega)|(rw[aA hz];simp[IntKind.wrap_u64];omega)),rfl⟩
theorem yV(n:Int)(w:World)(h1:-9223372036854775808<=n)(h2:n<9223372036854775808) :
  Calls Tryz.prog 24 #[.int .i64 n] w fun e w'=>∃ A c,e=.returned (.slice A (b_ n).length c)/\w'.ownsRow w.heap.size 5 1 (.slice A (b_ n).length c) (b_ n).length ((b_ n).map gq)/\Ext w w':=by
 have HI:=hide (WI.start h1 h2 w);have HZ:=hide (show TE (zig n) from Zz h1 h2);have HZZ:=hide (fun w=>aXc n w h1 h2);clear h1 h2
 go_enter Tryz.func24,Tryz.ntmps24
 go_wp2_with (go_at_call 41;refine (aA HZZ _).mono ?_;rintro e w' ⟨rfl,rfl⟩)
 generalize zig n=z at *
 go_loopw [3,4] (fun u b wr=>∃ (x f m:Nat) (A:Option Addr) (c:Nat),u=.int .u64 (x:Int)/\TE x/\b=.slice A m c/\Hid (WI n w x f m (.slice A m c) wr)) (fun u _ _=>(intOf u).toNat)
 case atStart=>exact⟨z,9,0,none,0,rfl,aA HZ,rfl,HI⟩
 case round=>
  clear HI HZ;obtain⟨x,f,m,A,c,rfl,FQ,rfl,HI⟩:=hrel;have hm:=(aA HI).small
  by_cases hlt:x<128
  ·have HB:=hide (show (x:Int)=((UInt8.ofNat x).toNat:Int) from by simp;omega)
   go_wp2_with (at_builtin;refine bH rfl rfl fC rfl (bQ (aA HI).choose_spec.2.2.2.2.1 ((Ext.refl wr).alloc _)) rfl (Reads.t_ _ _ _) (dN.one rfl) (by omega) (by have:=(aA HI).choose_spec.2.2.2.2.2.size';simp;omega) ?_;intro A' c' w3 ho hc hv;have HQ:=hide (And.intro ho hc);clear ho hc hv)
   go_ret
   obtain⟨q1,q2⟩:=aA HQ;rw[aA HB] at q1;obtain⟨q3,q4,q5⟩:=(aA HI).last hlt q1 q2;rw[q3] at q4 ⊢
   exact⟨_,_,rfl,q4,q5⟩
  ·have hwq:IntKind.u64.wrap ((x:Int) / 128)=((x / 128:Nat):Int):=by rw[IntKind.wrap_u64];unfold TE at FQ;omega
   have HB:=hide (show 128+(x:Int) % 128=((UInt8.ofNat (128+x % 128)).toNat:Int) from by simp;omega)
   go_wp2_with (at_builtin;refine bH rfl rfl fC rfl (bQ (aA HI).choose_spec.2.2.2.2.1 ((Ext.refl wr).alloc _)) rfl (Reads.t_ _ _ _) (dN.one rfl) (by omega) (by have:=(aA HI).choose_spec.2.2.2.2.2.size';simp;omega) ?_;intro A' c' w3 ho hc hv;have HQ:=hide (And.intro ho hc);clear ho hc hv)
   go_roundw
   case rel=>
    obtain⟨q1,q2⟩:=aA HQ;rw[aA HB] at q1;obtain⟨g,q3⟩:=(aA HI).app hlt q1 q2
    exact⟨x / 128,g,m+1,A',c',by go_num,by unfold TE at FQ ⊢;omega,rfl,hide q3⟩
   case measure=>simp[intOf];omega
theorem vW(n:Int)(w:World)(h1:-9223372036854775808<=n)(h2:n<9223372036854775808) :
  Calls Tryz.prog 107 #[.int .i64 n] w fun e w'=>∃ A c,e=.returned (.slice A (b_ n).length c)/\w'.ownsRow w.heap.size 5 1 (.slice A (b_ n).length c) (b_ n).length ((b_ n).map gq)/\Ext w w':=by
 have HI:=hide (WI.start h1 h2 w);have HZ:=hide (show TE (zig n) from Zz h1 h2);rcases Int.lt_or_le n 0 with h0|h0
 ·have hz:=Oz n h0 h1;have d0:decide (n<0)=true:=decide_eq_true h0;clear h1 h2
  go_enter Tryz.func107,Tryz.ntmps107
  go_wp2
  go_step3
  go_wp2
  go_step3
  go_wp2
  generalize zig n=z at *;clear hz d0
  go_loopw [3,4] (fun u b wr=>∃ (x f m:Nat) (A:Option Addr) (c:Nat),u=.int .u64 (x:Int)/\TE x/\b=.slice A m c/\Hid (WI n w x f m (.slice A m c) wr)) (fun u _ _=>(intOf u).toNat)
  case atStart=>exact⟨z,9,0,none,0,rfl,aA HZ,rfl,HI⟩
  case round=>
   clear HI HZ;obtain⟨x,f,m,A,c,rfl,FQ,rfl,HI⟩:=hrel;have hm:=(aA HI).small
   by_cases hlt:x<128
   ·have HB:=hide (show (x:Int)=((UInt8.ofNat x).toNat:Int) from by simp;omega)
    go_wp2_with (at_builtin;refine bH rfl rfl fC rfl (bQ (aA HI).choose_spec.2.2.2.2.1 ((Ext.refl wr).alloc _)) rfl (Reads.t_ _ _ _) (dN.one rfl) (by omega) (by have:=(aA HI).choose_spec.2.2.2.2.2.size';simp;omega) ?_;intro A' c' w3 ho hc hv;have HQ:=hide (And.intro ho hc);clear ho hc hv)
    try rw[Exit.noGoto_ret]
    go_ret
    obtain⟨q1,q2⟩:=aA HQ;rw[aA HB] at q1;obtain⟨q3,q4,q5⟩:=(aA HI).last hlt q1 q2;rw[q3] at q4 ⊢
    exact⟨_,_,rfl,q4,q5⟩
   ·have hwq:(x:Int).fdiv (2 ^ min (Int.toNat 7) IntKind.u64.bits)=((x / 128:Nat):Int):=by
     show (x:Int).fdiv 128=_;rw[Int.fdiv_eq_ediv_of_nonneg _ (by omega)];omega
    have HB:=hide (bDi x)
    go_wp2_with (at_builtin;refine bH rfl rfl fC rfl (bQ (aA HI).choose_spec.2.2.2.2.1 ((Ext.refl wr).alloc _)) rfl (Reads.t_ _ _ _) (dN.one rfl) (by omega) (by have:=(aA HI).choose_spec.2.2.2.2.2.size';simp;omega) ?_;intro A' c' w3 ho hc hv;have HQ:=hide (And.intro ho hc);clear ho hc hv)
    go_roundw
    case rel=>
     obtain⟨q1,q2⟩:=aA HQ;rw[aA HB] at q1;obtain⟨g,q3⟩:=(aA HI).app hlt q1 q2
     exact⟨x / 128,g,m+1,A',c',by go_num,by unfold TE at FQ ⊢;omega,rfl,hide q3⟩
    case measure=>simp[intOf];omega
 ·have hz:=Oy n h0 h2;have d0:decide (n<0)=false:=decide_eq_false (by omega);clear h1 h2
  go_enter Tryz.func107,Tryz.ntmps107
  go_wp2
  go_step3
  go_wp2
  go_step3
  go_wp2
  generalize zig n=z at *;clear hz d0
  go_loopw [3,4] (fun u b wr=>∃ (x f m:Nat) (A:Option Addr) (c:Nat),u=.int .u64 (x:Int)/\TE x/\b=.slice A m c/\Hid (WI n w x f m (.slice A m c) wr)) (fun u _ _=>(intOf u).toNat)
  case atStart=>exact⟨z,9,0,none,0,rfl,aA HZ,rfl,HI⟩
  case round=>
   clear HI HZ;obtain⟨x,f,m,A,c,rfl,FQ,rfl,HI⟩:=hrel;have hm:=(aA HI).small
   by_cases hlt:x<128
   ·have HB:=hide (show (x:Int)=((UInt8.ofNat x).toNat:Int) from by simp;omega)
    go_wp2_with (at_builtin;refine bH rfl rfl fC rfl (bQ (aA HI).choose_spec.2.2.2.2.1 ((Ext.refl wr).alloc _)) rfl (Reads.t_ _ _ _) (dN.one rfl) (by omega) (by have:=(aA HI).choose_spec.2.2.2.2.2.size';simp;omega) ?_;intro A' c' w3 ho hc hv;have HQ:=hide (And.intro ho hc);clear ho hc hv)
    try rw[Exit.noGoto_ret]
    go_ret
    obtain⟨q1,q2⟩:=aA HQ;rw[aA HB] at q1;obtain⟨q3,q4,q5⟩:=(aA HI).last hlt q1 q2;rw[q3] at q4 ⊢
    exact⟨_,_,rfl,q4,q5⟩
   ·have hwq:(x:Int).fdiv (2 ^ min (Int.toNat 7) IntKind.u64.bits)=((x / 128:Nat):Int):=by
     show (x:Int).fdiv 128=_;rw[Int.fdiv_eq_ediv_of_nonneg _ (by omega)];omega
    have HB:=hide (bDi x)
    go_wp2_with (at_builtin;refine bH rfl rfl fC rfl (bQ (aA HI).choose_spec.2.2.2.2.1 ((Ext.refl wr).alloc _)) rfl (Reads.t_ _ _ _) (dN.one rfl) (by omega) (by have:=(aA HI).choose_spec.2.2.2.2.2.size';simp;omega) ?_;intro A' c' w3 ho hc hv;have HQ:=hide (And.intro ho hc);clear ho hc hv)
    go_roundw
    case rel=>
     obtain⟨q1,q2⟩:=aA HQ;rw[aA HB] at q1;obtain⟨g,q3⟩:=(aA HI).app hlt q1 q2
     exact⟨x / 128,g,m+1,A',c',by go_num,by unfold TE at FQ ⊢;omega,rfl,hide q3⟩
    case measure=>simp[intOf];omega
end Go.Proofs.YtndpjopifkbgiaaGreatDoor
