/-.-/
import Derived.Test.YtndpjopifkbgiaaGreatDoorMsD
import Derived.Test.YtndpjopifkbgiaaGreatDoorMsC
import Derived.StillTailTactics
import Derived.Laws.MakeOwn
import Derived.Test.YtndpjopifkbgiaaGreatDoorMsA
import Derived.Orders
import Derived.Great.BuildSlice
set_option maxRecDepth 100000
set_option maxHeartbeats 4000000
namespace Go.Proofs.YtndpjopifkbgiaaGreatDoor
open Go.RowKit
theorem Reads.Hf{w:World}{B:Nat}{e:TypeId}{A:Option Addr}{m c N:Nat}{l:List UInt8}(h:w.ownsRow B e 1 (.slice A m c) m (l.map gq))(hN:N<=m):Reads w 1 (.slice A N c) N ((l.take N).map gq):=by
 obtain⟨h1,A',c',e1,h2,h3,h4⟩:=Reads.l9 h;cases e1;rw[List.length_map] at h1
 refine⟨by rw[List.length_map,List.length_take];omega,A,c,rfl,by omega,h3,fun h0=>?_⟩
 obtain⟨b,o,e2,hc⟩:=h4 (by omega)
 refine⟨b,o,e2,fun j u hj=>hc j u ?_⟩
 rw[List.map_take,List.getElem?_take] at hj
 split at hj
 ·exact hj
 ·cases hj
theorem aRw(key:List UInt8)(kv:Value)(N:Nat)(w:World)(hk:Reads w 1 kv key.length (key.map gq))(hkl:key.length<=10000)(hN:N<=100000) :
  Calls Tryz.prog 68 #[kv,.int .i64 (N:Int)] w fun e w'=>∃ A c,e=.returned (.slice A N c)/\Reads w' 1 (.slice A N c) N ((oV key N).map gq)/\Ext w w':=by
 have HK:=hide hk;clear hk
 go_enter Tryz.func68,Tryz.ntmps68
 go_wp2
 go_loopw [5,6] (fun b i wr=>∃ (k:Nat) (A:Option Addr) (c:Nat),32*k<N+32/\i=.int .i64 k/\b=.slice A (32*k) c/\Hid (GB w w.heap.size (.slice A (32*k) c) (32*k) (gX key k) wr)) (fun b _ _=>match b with|.slice _ m _=>N-m|_=>0)
 case atStart=>exact⟨0,none,0,by omega,rfl,rfl,hide (GB.nil (Ext.refl _) (Nat.le_refl _) (Nat.le_refl _))⟩
 case round=>
  obtain⟨k,A,c,hkN,rfl,rfl,HI⟩:=hrel
  by_cases hlt:32*k<N
  ·have d1:decide (32*k<N)=true:=decide_eq_true hlt;have HX:=hide (kR key k);have HW:=hide (fun w=>yV (k:Int) w (by omega) (by omega));have hwl:=aY (k:Int);generalize b_ (k:Int)=ik at *
   go_wp2_with (first
    |(go_at_call 24;refine (aA HW _).mono ?_;rintro e w1 ⟨A1,c1,rfl,ho1,hE1⟩;have H1:=hide (And.intro (Reads.l9 ho1) hE1);clear ho1 hE1)
    |(go_at_call 70;refine (aOe key ik _ _ _ ((aA HK).ext ((aA HI).ext.trans (aA H1).2)) (aA H1).1 (by omega) (by omega)).mono ?_;rintro e w2 ⟨rfl,hE2⟩;have H2:=hide ((aA H1).2.trans hE2);clear hE2)
    |(go_at_call 95;refine (aCr (AA key ik) _ (iJ _ _)).mono ?_;rintro e w3 ⟨A3,c3,rfl,h3⟩;have H3:=hide (And.intro h3 ((aA H2).trans h3.ext));clear h3)
    |(at_builtin;refine bH (s:=.tmp 13) (x:=.tmp 18) rfl rfl fC rfl (bQ (aA HI).own (aA H3).2) rfl (aA H3).1.reads (dN.u8 _) (by omega) (Nat.le_trans (aA HI).room (aA H3).2.size') ?_;intro A4 c4 w4 ho hc hv;have H4:=hide (And.intro ho hc);clear ho hc hv))
   go_roundw
   case rel=>
    refine⟨k+1,A4,c4,by omega,by go_num,rfl,hide ?_⟩
    rw[aA HX];exact (aA HI).step (aA H3).2 (aA H4).2 (sD (aA H4).1)
   case measure=>simp;omega
  ·have d1:decide (32*k<N)=false:=decide_eq_false hlt
   have hc:N<=c:=by
    obtain⟨_,A',c',e,h2,_⟩:=(aA HI).reads;cases e;omega
   have hcm:c<=9223372036854775807:=by
    obtain⟨_,A',c',e,_,h3,_⟩:=(aA HI).reads;cases e;unfold maxLen at h3;exact h3
   go_wp2
   go_ret
   refine⟨_,_,rfl,?_,(aA HI).ext⟩
   have:=Reads.Hf (aA HI).own (N:=N) (by omega);rwa [aHu key N k (by omega)] at this
theorem Qe(n:Nat):madeCells (Value.int .u8 0).cells n=dQ n []:=by
 rw[aGj];show madeCells #[Value.int .u8 0] n=_;unfold madeCells;apply Array.ext
 ·simp
 ·intro i h1 h2;simp[Nat.mod_one]
theorem Qb(n:Nat)(hn:n<=1000000000)(w:World):(Instr.makeSlice 74 (.int .i64 (n:Int)) (.int .i64 (n:Int))).run Tryz.prog w=.ok (.slice (some ⟨w.heap.size,0,none⟩) n n) (w.alloc (.cells (dQ n []) 5)):=by
 obtain⟨ht,⟨i,z,hi,hz,hsize,hby,_⟩,_,_⟩:=fC
 have hz0:i.zero=some (.int .u8 0):=by have:=bBc;rw[hi] at this;simpa using this
 have:=run_make (P:=Tryz.prog) w 74 5 i (.int .u8 0) ht hi hz0 .i64 .i64 n n (by omega) (Int.le_refl _) (by rw[hby];omega) (by omega);simp only[Int.toNat_natCast,hsize,Nat.mul_one] at this;rw[this,Qe]
theorem aAl (key:List UInt8) (af:Int) (s:ByteArray) (w:World) (hk:key.length=16) (h1:-9223372036854775808<=af) (h2:af<9223372036854775808) (hs:s.size<=10000) :
    Calls Tryz.prog 38 #[.agg (key.map gq).toArray,.int .i64 af,.string s] w fun e w'=>e=.returned (.string (strOf (dV key af s.data.toList)))/\Ext w w':=by
  obtain⟨arr,harr⟩:∃ r,(key.map gq).toArray=r:=⟨_,rfl⟩;have HW1:=hide (fun w=>yV af w h1 h2);have HA:=hide harr;rw[harr];clear harr h1 h2
  have zu:arr.size=16:=by rw[<-aA HA];simpa using hk
  obtain⟨dk,hdk⟩:∃ d,keyS key af=d:=⟨_,rfl⟩;have HD:=hide hdk;clear hdk
  go_enter Tryz.func38,Tryz.ntmps38
  go_upto_region 1 with fail
  have HKA:=hide (yX (au.new w 23 arr) (aA HA) hk);have HP:=hide ((Ext.refl w).alloc (.cells arr 23));generalize w.alloc (.cells arr 23)=W0 at *
  have HPC:=hide (fun (W4:World) (pv:Value) (A3:Option Addr) (c3:Nat) (hX:Ext W0 W4) (hpv:Reads W4 1 pv 1 [.slice A3 (b_ af).length c3]) (hr:Reads W4 1 (.slice A3 (b_ af).length c3) (b_ af).length ((b_ af).map gq))=>xM key (.slice (some ⟨w.heap.size,0,none⟩) 16 16) aPc [b_ af] pv W4 ((aA HKA).ext hX) (by omega) (by decide) ⟨[.slice A3 (b_ af).length c3],rfl,hpv,fun i p hp=>by
    cases i with
    |zero=>cases hp;exact⟨_,rfl,hr⟩
    |succ i=>simp at hp⟩ (by simp) (fun p hp=>by simp at hp;subst hp;have:=aY af;omega))
  go_cut [7] (fun s8 wx=>∃ g,s8=.pointer (some ⟨g,0,none⟩)/\Hid (au wx g 23 ((dk.map gq).toArray)/\Ext W0 wx/\W0.heap.size<=g))
  case first=>
    have HS:=hide (show ((dk.map gq).toArray).size=16 from by rw[<-aA HD];unfold keyS;simpa using eF _ _ _)
    go_region_law (first
      | (
       go_simp;go_at_call 24;refine (aA HW1 _).mono ?_;rintro e w3 ⟨A3,c3,rfl,ho3,ug⟩
       first
       |(have H3:=hide (show Reads w3 1 (.slice A3 (b_ af).length c3) (b_ af).length ((b_ af).map gq)/\Ext W0 w3/\True from And.intro (Reads.l9 ho3) (And.intro (((Ext.refl W0).drew).trans ug) trivial));clear ho3 ug)
       |(have H3:=hide (show Reads w3 1 (.slice A3 (b_ af).length c3) (b_ af).length ((b_ af).map gq)/\Ext W0 w3/\au w3 W0.heap.size 23 (Array.replicate 16 (.int .u8 0)) from And.intro (Reads.l9 ho3) (And.intro ((((Ext.refl W0).drew).alloc _).trans ug) ((au.new W0.drew _ _).ext ug)));clear ho3 ug))
      | (
       rename_i K hK;go_simp;go_at_call 22;refine (aA HPC _ _ A3 c3 ?_ ?_ ?_).mono ?_
       (focus (first|exact (aA H3).2.1.alloc _|exact ((aA H3).2.1.alloc _).alloc _))
       (focus (first|exact Reads.t_ _ _ _|exact (Reads.t_ _ _ _).ext ((Ext.refl _).alloc _)|(have h:=Reads.t_ (w3.alloc (.cells (Array.replicate 16 (.int .u8 0)) 23)) (.slice A3 (b_ af).length c3) 74;rw[World.size_alloc] at h;exact h)))
       (focus (first|exact (aA H3).1.ext ((Ext.refl _).alloc _)|exact (aA H3).1.ext (((Ext.refl _).alloc _).alloc _)))
       rintro e w5 ⟨rfl,DL⟩;rw[show kH key aPc.data.toList [b_ af]=dk from aA HD];have H5:=hide (show Ext W0 w5/\Ext _ w5 from And.intro (by first|exact ((aA H3).2.1.alloc _).trans DL|exact (((aA H3).2.1.alloc _).alloc _).trans DL) DL);clear DL;dsimp only;refine hK _ _ ?_;clear hK K
       first
       | (
        refine wpAny_ready (rs:=[5]) (by kernel_rfl) (by simp) (AllReady.cons rfl (fun J hJ=>?_) AllReady.nil);rw[if_pos (by rfl)]
        go_simp
        refine hJ _ _ ?_;clear hJ J;refine wpAny_ready (rs:=[6]) (by kernel_rfl) (by simp) (AllReady.cons rfl (fun J hJ=>?_) AllReady.nil);refine iI (ty:=23) (t:=23) (x:=.tmp 7) (y:=.tmp 15) rfl rfl aV rfl rfl (au.new w5 _ _) ?_ ?_ ?_ ?_
        · rfl
        · exact aA HS
        · exact dB _
        intro w7 hb7 DK Qu;have H7:=hide (And.intro hb7 (And.intro (((aA H5).1.alloc _).trans' DK (fun _ _ h=>h) (fun i hi e=>by have:=(aA H5).1.size';omega)) (aA H5).1.size'));clear hb7 DK Qu;refine hJ _ _ ?_
        clear hJ J)
       | (
        refine wpAny_ready (rs:=[6]) (by kernel_rfl) (by simp) (AllReady.cons rfl (fun J hJ=>?_) AllReady.nil);have hz3:=(aA H3).2.1.size';refine iI (ty:=23) (t:=23) (x:=.tmp 7) (y:=.tmp 15) (old:=Array.replicate 16 (.int .u8 0)) rfl rfl aV rfl rfl ?_ ?_ ?_ ?_ ?_
        · first|exact (((aA H3).2.2).alloc _).ext (aA H5).2|exact ((au.new w3 _ _).alloc _).ext (aA H5).2|exact (au.new' (w3.alloc _) _ _ (by simp)).ext (aA H5).2
        · rfl
        · exact aA HS
        · exact dB _
        intro w7 hb7 DK Qu;have H7:=hide (And.intro hb7 (And.intro ((aA H5).1.trans' DK (fun _ _ h=>h) (fun i hi e=>by omega)) (show W0.heap.size<=_ by omega)));clear hb7 DK Qu hz3;refine hJ _ _ ?_
        clear hJ J)))
    all_goals
      go_wp2_with fail
      go_meet
      exact⟨_,rfl,hide ⟨(aA H7).1,(aA H7).2.1,by have:=(aA H7).2.2;omega⟩⟩
  case rest =>
    obtain⟨g8,rfl,H8⟩:=hcut;have HS:=hide (show ((dk.map gq).toArray).size=16/\dk.length=16 from by rw[<-aA HD];unfold keyS;exact⟨by simpa using eF _ _ _,eF _ _ _⟩);obtain⟨wc',rfl⟩:∃ x:World,x=wc:=⟨_,rfl⟩
    go_wp2_with fail
    refine (aRw dk _ s.size _ (yX (aA H8).1 rfl (aA HS).2) (by have:=(aA HS).2;omega) (by omega)).mono ?_;rintro e w9 ⟨A9,c9,rfl,hr9,AB⟩;have H9:=hide (And.intro hr9 (((aA HP).trans (aA H8).2.1).trans AB));clear hr9 AB H8;have hmk:=Qb s.size (by omega)
    go_wp2
    clear hmk;obtain⟨ap,hap⟩:∃ l,dV key af s.data.toList=l:=⟨_,rfl⟩;obtain⟨st,hst⟩:∃ l,oV dk (s.size:Int)=l:=⟨_,rfl⟩
    have aDG:st.length=s.size:=by rw[<-hst,qM];simp
    have aDY:ap.length=s.size:=by rw[<-hap,eY];exact Array.length_toList
    have HAP:=hide (show ap=List.zipWith (· ^^^ ·) s.data.toList st from by rw[<-hap,<-hst,<-aA HD];unfold dV;rw[Array.length_toList];rfl);have HAE:=hide hap;rw[hst] at H9;have HL:=hide (And.intro aDG aDY);clear hap hst aDG aDY
    go_loopw [10] (fun i wr=>∃ k:Nat,k<=s.size/\i=.int .i64 k/\Hid (au wr w9.heap.size 5 (dQ s.size (ap.take k))/\Ext w9 wr)) (fun i _=>s.size-(intOf i).toNat)
    case atStart=>exact⟨0,Nat.zero_le _,rfl,hide ⟨au.new _ _ _,(Ext.refl w9).alloc _⟩⟩
    case round=>
      obtain⟨k,hk',rfl,HI⟩:=hrel
      by_cases hlt:k<s.size
      ·
        have g1:decide (k<s.size)=true:=decide_eq_true hlt;have hr:=(aA H9).1.ext (aA HI).2;obtain⟨b,o,c,u,e,-,-,-,-,-⟩:=hr.DN hlt;cases e;have c1:=hr.byteAt (j:=k) (by rw[(aA HL).1];exact hlt)
        have c2:wr.cell? ⟨w9.heap.size,k,none⟩=some (.int .u8 0):=by
          rw[(aA HI).1.cell];exact pU (by rw[List.length_take];omega) hlt
        have f2:=(aA HI).1.frozen k;clear hr;obtain⟨z,hz⟩:∃ z,s[k] ^^^ st.getD k 0=z:=⟨_,rfl⟩
        have hxx:bits BinOp.xor IntKind.u8 (s[k].toNat:Int) ((st.getD k 0).toNat:Int)=(z.toNat:Int):=by rw[Ba,hz]
        have HT:=hide (show ap.take (k+1)=ap.take k++[z] from by
          rw[kQ ap k (by rw[(aA HL).2];exact hlt)]
          have:ap[k]'(by rw[(aA HL).2];exact hlt)=z:=by
            have h1:ap[k]?=some z:=by
              rw[aA HAP,List.getElem?_zipWith,zH (show k<st.length by rw[(aA HL).1];exact hlt),Array.getElem?_toList,Array.getElem?_eq_getElem (show k<s.data.size from hlt),<-hz,zG,zH (show k<st.length by rw[(aA HL).1];exact hlt)];rfl
            rw[zH (by rw[(aA HL).2];exact hlt)] at h1
            injection h1
          rw[this])
        have HKL:=hide (show (ap.take k).length=k from by rw[List.length_take,(aA HL).2];omega);clear hz;generalize st.getD k 0=y at *
        have p1:(0:Int)<=(k:Int):=by omega
        have p2:(k:Int)<(s.size:Int):=by omega
        go_upto_region 7 with fail
        go_still_tail 11,(by kernel_rfl)
        clear c1;change wpList _ _ _ _ _ wr.drew
        go_wp2
        go_roundw
        case rel=>
          have h1:=((aA HI).1.y9 k (.int .u8 (z.toNat:Int))).drew;rw[yD _ (aA HKL) hlt,<-aA HT] at h1
          exact⟨k+1,by omega,by go_num,hide ⟨h1,((aA HI).2.setCell (by simp) _).drew⟩⟩
        case measure=>simp[intOf];omega
      ·
        obtain rfl:k=s.size:=by omega
        have g1:decide (s.size<s.size)=false:=decide_eq_false (by omega)
        have HRD:=hide (show Reads wr 1 (.slice (some ⟨w9.heap.size,0,none⟩) s.size s.size) s.size (ap.map qR) from by
          have h1:=(aA HI).1;rw[List.take_of_length_le (by rw[(aA HL).2];omega),yE (aA HL).2] at h1;have:=Reads.su h1 (i:=0) (n:=s.size) (c:=s.size) (by simp[(aA HL).2]) (by omega) (by unfold maxLen;omega);simp only[List.drop_zero] at this;rw[List.take_of_length_le (by rw[List.length_map,(aA HL).2];omega)] at this
          exact this)
        go_wp2_with (refine pY (src:=74) (dst:=9) (x:=.tmp 40) (l:=ap) rfl rfl Tryz.underlying74 Tryz.underlying5 Tryz.underlying9 rfl (aA HRD) ?_)
        go_ret
        exact⟨by rw[aA HAE];rfl,(aA H9).2.trans (aA HI).2⟩
theorem bCc(key:List UInt8)(af:Int)(s:ByteArray)(w:World)(hk:key.length=16)(h1:-9223372036854775808<=af)(h2:af<9223372036854775808)(hs:s.size<=10000) :
    Calls Tryz.prog 120 #[.agg (key.map gq).toArray,.int .i64 af,.string s] w fun e w'=>e=.returned (.agg (BU af (strOf (dV key af s.data.toList)) (qg key af (dV key af s.data.toList))))/\Ext w w':=by
  obtain⟨arr,harr⟩:∃ r,(key.map gq).toArray=r:=⟨_,rfl⟩;have DR:=hide (fun W=>aAl key af s W hk h1 h2 (by omega));rw[harr] at DR ⊢
  have zu:arr.size=16:=by rw[<-harr];simpa using hk
  have h1c:arr.all (·.oneCell')=true:=by rw[<-harr];exact dB _
  have HA:=hide harr;clear harr
  go_enter Tryz.func120,Tryz.ntmps120
  obtain⟨cs,hcs⟩:∃ c,strOf (dV key af s.data.toList)=c:=⟨_,rfl⟩
  have hcl:cs.data.toList=dV key af s.data.toList:=by rw[<-hcs];exact dD _
  have hcz : cs.size <= 100000 := by
   have h:cs.data.toList.length=s.data.toList.length:=by rw[hcl,eY]
   rw[Array.length_toList,Array.length_toList] at h;have h2:cs.size=s.size:=h;omega
  have CW:=hide (fun W=>aKj key af cs W hk h1 h2 hcz);rw[aA HA,hcl] at CW;rw[hcs] at DR ⊢;have G5:=hide (fE key af (dV key af s.data.toList));generalize qg key af (dV key af s.data.toList)=tg at *;clear hcs hcl;obtain⟨t0,t1,t2,t3,t4,t5,t6,t7,t8,t9,t10,t11,t12,t13,t14,t15,rfl⟩:=Ky (aA G5)
  go_wp2_with (first
    |(refine dL (x:=.tmp 3) rfl rfl aV rfl (cs:=arr) (g:=w.heap.size) (by first|exact (au.new w _ _).alloc _|assumption) zu ?_)
    | (
     go_at_call 38;refine (aA DR _).mono ?_;rintro e w1 ⟨rfl,hE1⟩
     have hba:au w1 w.heap.size 23 arr:=((au.new w _ _).alloc _).ext hE1;have hbb:=(au.new' (g:=w.heap.size+1) (w.alloc (.cells arr 23)) _ _ (by simp)).ext hE1
     have H1:=hide (show Ext w w1/\au w1 (w.heap.size+1) 27 (#[.int .i64 0,.string { data:=#[] }]++Array.replicate 16 (.int .u8 0)) from And.intro ((((Ext.refl w).alloc _).alloc _).trans hE1) hbb);clear hE1 hbb)
    |(go_at_call 37;refine (aA CW _).mono ?_;rintro e w2 ⟨rfl,hE2⟩;have H2:=hide (And.intro ((aA H1).1.trans hE2) ((aA H1).2.ext hE2));clear hE2)
    |(refine aT (ty:=27) (t:=27) (x:=.tmp 6) (y:=.tmp 18) rfl rfl aDd rfl rfl (aA H2).2 (by simp) rfl (by rw[<-Array.all_toList];rfl) ?_;intro w3 hb3 hc3 hz3;have H3:=hide (And.intro hb3 hc3);clear hb3 hc3 hz3))
  refine bodyPost_ret (dJ aDd rfl (aA H3).1 rfl rfl) rfl ⟨rfl,?_⟩;exact (aA H2).1.trans' (aA H3).2 (fun _ _ h=>h) (fun i hi e=>by omega)
theorem Iu(key:List UInt8)(af:Int)(c:ByteArray)(t:List UInt8)(w:World)(hk:key.length=16)(ht:t.length=16)(h1:-9223372036854775808<=af)(h2:af<9223372036854775808)(hs:c.size<=10000)
  (hno:¬qg key af c.data.toList=t) :
  Calls Tryz.prog 21 #[.agg (key.map gq).toArray,.agg (BU af c t)] w fun e w'=>e=.returned (.tuple #[.string { data:=#[] },.int .i64 8])/\Ext w w':=by
 obtain⟨arr,harr⟩:∃ r,(key.map gq).toArray=r:=⟨_,rfl⟩;have DR:=hide (fun W=>aAl key af c W hk h1 h2 hs);have CW:=hide (fun W=>aKj key af c W hk h1 h2 (by omega));rw[harr] at DR CW ⊢
 have zu:arr.size=16:=by rw[<-harr];simpa using hk
 have hne:=fun W=>QQ (fE key af c.data.toList) ht W;rw[decide_eq_false hno] at hne;obtain⟨tv,Di⟩:∃ l,t.map gq=l:=⟨_,rfl⟩;have G5:=hide (show tv.length=16 from by rw[<-Di];simpa using ht);rw[bHn,Di];obtain⟨tg,EL⟩:∃ l,((qg key af c.data.toList).map gq).toArray=l:=⟨_,rfl⟩;have Xr:=hide (show tg.size=16/\tg.all (·.oneCell')=true from by rw[<-EL];exact⟨by simpa using fE _ _ _,dB _⟩);rw[EL] at CW;rw[EL,Di] at hne
 have HQ:=hide (show au ((w.alloc (.cells arr 23)).alloc (.cells (AL af c tv) 27)) w.heap.size 23 arr /\
   au ((w.alloc (.cells arr 23)).alloc (.cells (AL af c tv) 27)) (w.heap.size+1) 27 (AL af c tv) from⟨(au.new w _ _).alloc _,au.new' _ _ _ (by simp)⟩)
 have c1:((w.alloc (.cells arr 23)).alloc (.cells (AL af c tv) 27)).cell? ⟨w.heap.size+1,0,none⟩=some (.int .i64 af):=by rw[(aA HQ).2.cell];rfl
 have c2:((w.alloc (.cells arr 23)).alloc (.cells (AL af c tv) 27)).cell? ⟨w.heap.size+1,1,none⟩=some (.string c):=by rw[(aA HQ).2.cell];rfl
 have HP:=hide (((Ext.refl w).alloc (.cells arr 23)).alloc (.cells (AL af c tv) 27));clear harr Di EL
 go_enter Tryz.func21,Tryz.ntmps21
 go_upto_region 1 with fail
 generalize (w.alloc (.cells arr 23)).alloc (.cells (AL af c tv) 27)=W0 at *
 go_upto_region 2 with (first
  |(refine dL (x:=.tmp 2) rfl rfl aV rfl (cs:=arr) (aA HQ).1 zu ?_)
  |(go_at_call 37;refine (aA CW _).mono ?_;rintro e w1 ⟨rfl,hE1⟩;have H1:=hide (And.intro ((aA HP).trans hE1) (And.intro ((aA HQ).1.ext hE1) ((aA HQ).2.ext hE1)));clear hE1)
  |(refine aT (ty:=23) (t:=23) (x:=.tmp 6) (y:=.tmp 12) rfl rfl aV rfl rfl (au.new w1 _ _) rfl (aA Xr).1 (aA Xr).2 ?_;intro w2 hb2 hc2 hz2;have H2:=hide (And.intro (aCu (aA H1).1 hc2) (And.intro ((aA H1).2.1.ext (vC hc2)) (And.intro ((aA H1).2.2.ext (vC hc2)) hb2)));clear hb2 hc2 hz2))
 clear c1 c2
 have c1:w2.cell? ⟨w.heap.size+1,0,none⟩=some (.int .i64 af):=by rw[(aA H2).2.2.1.cell];rfl
 have c2:w2.cell? ⟨w.heap.size+1,1,none⟩=some (.string c):=by rw[(aA H2).2.2.1.cell];rfl
 go_wp2_with (first
  |(refine dL (x:=.tmp 2) rfl rfl aV rfl (cs:=arr) (aA H2).2.1 zu ?_)
  |(refine dL (x:=.tmp 6) rfl rfl aV rfl (cs:=tg) (aA H2).2.2.2 (aA Xr).1 ?_)
  |(refine yL (x:=.tmp 14) (by rfl) rfl aV rfl (aJl (aA H2).2.2.1) (aA G5) ?_)
  |(go_at_call 38;refine (aA DR _).mono ?_;rintro e w6 ⟨rfl,Ai⟩;have H6:=hide ((aA H2).1.trans Ai);clear Ai))
 go_ret2
 exact⟨rfl,(aA H2).1⟩
theorem bCi(key:List UInt8)(af:Int)(c:ByteArray)(t:List UInt8)(w:World)(hk:key.length=16)(ht:t.length=16)(h1:-9223372036854775808<=af)(h2:af<9223372036854775808)(hs:c.size<=10000)
  (hyes:qg key af c.data.toList=t) :
  Calls Tryz.prog 21 #[.agg (key.map gq).toArray,.agg (BU af c t)] w fun e w'=>e=.returned (.tuple #[.string (strOf (dV key af c.data.toList)),.int .i64 0])/\Ext w w':=by
 obtain⟨arr,harr⟩:∃ r,(key.map gq).toArray=r:=⟨_,rfl⟩;have DR:=hide (fun W=>aAl key af c W hk h1 h2 hs);have CW:=hide (fun W=>aKj key af c W hk h1 h2 (by omega));rw[harr] at DR CW ⊢
 have zu:arr.size=16:=by rw[<-harr];simpa using hk
 have hne:=fun W=>QQ (fE key af c.data.toList) ht W;rw[decide_eq_true hyes] at hne;obtain⟨tv,Di⟩:∃ l,t.map gq=l:=⟨_,rfl⟩;have G5:=hide (show tv.length=16 from by rw[<-Di];simpa using ht);rw[bHn,Di];obtain⟨tg,EL⟩:∃ l,((qg key af c.data.toList).map gq).toArray=l:=⟨_,rfl⟩;have Xr:=hide (show tg.size=16/\tg.all (·.oneCell')=true from by rw[<-EL];exact⟨by simpa using fE _ _ _,dB _⟩);rw[EL] at CW;rw[EL,Di] at hne
 have HQ:=hide (show au ((w.alloc (.cells arr 23)).alloc (.cells (AL af c tv) 27)) w.heap.size 23 arr /\
   au ((w.alloc (.cells arr 23)).alloc (.cells (AL af c tv) 27)) (w.heap.size+1) 27 (AL af c tv) from⟨(au.new w _ _).alloc _,au.new' _ _ _ (by simp)⟩)
 have c1:((w.alloc (.cells arr 23)).alloc (.cells (AL af c tv) 27)).cell? ⟨w.heap.size+1,0,none⟩=some (.int .i64 af):=by rw[(aA HQ).2.cell];rfl
 have c2:((w.alloc (.cells arr 23)).alloc (.cells (AL af c tv) 27)).cell? ⟨w.heap.size+1,1,none⟩=some (.string c):=by rw[(aA HQ).2.cell];rfl
 have HP:=hide (((Ext.refl w).alloc (.cells arr 23)).alloc (.cells (AL af c tv) 27));clear harr Di EL
 go_enter Tryz.func21,Tryz.ntmps21
 go_upto_region 1 with fail
 generalize (w.alloc (.cells arr 23)).alloc (.cells (AL af c tv) 27)=W0 at *
 go_upto_region 2 with (first
  |(refine dL (x:=.tmp 2) rfl rfl aV rfl (cs:=arr) (aA HQ).1 zu ?_)
  |(go_at_call 37;refine (aA CW _).mono ?_;rintro e w1 ⟨rfl,hE1⟩;have H1:=hide (And.intro ((aA HP).trans hE1) (And.intro ((aA HQ).1.ext hE1) ((aA HQ).2.ext hE1)));clear hE1)
  |(refine aT (ty:=23) (t:=23) (x:=.tmp 6) (y:=.tmp 12) rfl rfl aV rfl rfl (au.new w1 _ _) rfl (aA Xr).1 (aA Xr).2 ?_;intro w2 hb2 hc2 hz2;have H2:=hide (And.intro (aCu (aA H1).1 hc2) (And.intro ((aA H1).2.1.ext (vC hc2)) (And.intro ((aA H1).2.2.ext (vC hc2)) hb2)));clear hb2 hc2 hz2))
 clear c1 c2
 have c1:w2.cell? ⟨w.heap.size+1,0,none⟩=some (.int .i64 af):=by rw[(aA H2).2.2.1.cell];rfl
 have c2:w2.cell? ⟨w.heap.size+1,1,none⟩=some (.string c):=by rw[(aA H2).2.2.1.cell];rfl
 go_wp2_with (first
  |(refine dL (x:=.tmp 2) rfl rfl aV rfl (cs:=arr) (aA H2).2.1 zu ?_)
  |(refine dL (x:=.tmp 6) rfl rfl aV rfl (cs:=tg) (aA H2).2.2.2 (aA Xr).1 ?_)
  |(refine yL (x:=.tmp 14) (by rfl) rfl aV rfl (aJl (aA H2).2.2.1) (aA G5) ?_)
  |(go_at_call 38;refine (aA DR _).mono ?_;rintro e w6 ⟨rfl,Ai⟩;have H6:=hide ((aA H2).1.trans Ai);clear Ai))
 go_ret2
 exact⟨rfl,aA H6⟩
namespace Pv
def o9(b:UInt8):Value:=.int .u8 (b.toNat:Int)
inductive PC where
 |lit (v:Value)
 |bs (n:Nat) (l:List UInt8)
 |sl (n len:Nat) (f:Nat->List PC)
 |ow (x ai n off len:Nat)
 |ob (x ai off len:Nat)
 |pt (x ai off:Nat)
 |pk (x ai off k:Nat)
 |pe (x ai n i j:Nat)
 |pf (n len:Nat) (f:Nat->List PC) (i j:Nat)
 |fn (f:Fn) (first cap:List PC)
 |dv
 |any
 |pa (len:Nat) (f:Nat->List PC)
inductive PW where
 |one (c:PC)
 |agg (l:List PC)
inductive PV where
 |w (x:PW)
 |lw (l:List PW)
 |none
inductive og where
 |box (t:TypeId) (l:List PC)
 |arr (e n len:Nat) (f:Nat->List PC)
 |dead
 |dev (O:List Acc->Option je) (di:List Acc->Prop) (l:List Acc)
def dx:Nat:=900000
structure Ctx where
 w:World
 ok:Nat->Prop
 env:Nat->Option (Nat×Value)
def Ctx.cold(C:Ctx):Ctx:={ C with env:=fun _=>none }
def At(C:Ctx)(x ai:Nat)(p:Value->Prop):Prop:=∃ vr hd,C.env x=some (vr,hd)/\ai<=vr/\(ai=vr->p hd)
def iK(g:Nat):Value:=.pointer (some ⟨g,0,none⟩)
def bIi(n off len:Nat)(v:Value)(hd:Value):Prop:=∃ A n0 c0,hd=.slice A n0 c0/\off+len<=n0/\v=.slice (A.map (·.add (off*n))) len (c0-off)
def bIj(off len:Nat)(v:Value)(hd:Value):Prop:=∃ g c,hd=iK g/\len<=c/\c<=maxLen/\v=.slice (some ⟨g,off,none⟩) len c
def aMr(off:Nat)(v:Value)(hd:Value):Prop:=∃ g,hd=iK g/\v=.pointer (some ⟨g,off,none⟩)
def bIh(n i j:Nat)(v:Value)(hd:Value):Prop:=∃ g n0 c0,hd=.slice (some ⟨g,0,none⟩) n0 c0/\i<n0/\v=.pointer (some ⟨g,i*n+j,none⟩)
def Xp(v:Value):Prop:=∃ b o,v=.pointer (some ⟨b,o,none⟩)
def aHL(len:Nat)(v:Value):Prop:=∃ A c,v=.slice A len c
mutual
inductive R:Ctx->PC->List Value->Prop where
 |lit {C:Ctx} {v:Value} (h:v.oneCell'=true):R C (.lit v) [v]
 |bs {C:Ctx} {n:Nat} {l:List UInt8} (h:l.length=n):R C (.bs n l) (l.map o9)
 |
  sl {C:Ctx} {n len:Nat} {f:Nat->List PC} {v:Value} {vs:List Value} (hr:Reads C.w n v len vs)
  (hb:∀ g,v.ownBlock=some g->0<len->C.ok g/\g<C.w.heap.size) (he:∀ i,i<len->RL C.cold (f i) ((vs.drop (i*n)).take n)):R C (.sl n len f) [v]
 |ow {C:Ctx} {x ai n off len:Nat} {v:Value} (h1:aHL len v) (h:At C x ai (bIi n off len v)):R C (.ow x ai n off len) [v]
 |ob {C:Ctx} {x ai off len:Nat} {v:Value} (h1:aHL len v) (h:At C x ai (bIj off len v)):R C (.ob x ai off len) [v]
 |pt {C:Ctx} {x ai off:Nat} {v:Value} (h1:Xp v) (h:At C x ai (aMr off v)):R C (.pt x ai off) [v]
 |pk {C:Ctx} {x ai off k:Nat} {v:Value} (h1:Xp v) (h:At C x ai (aMr (off+k) v)):R C (.pk x ai off k) [v]
 |pe {C:Ctx} {x ai n i j:Nat} {v:Value} (h1:Xp v) (h:At C x ai (bIh n i j v)):R C (.pe x ai n i j) [v]
 |
  pf {C:Ctx} {n len:Nat} {f:Nat->List PC} {i j b o c:Nat} {vs:List Value} (hr:Reads C.w n (.slice (some ⟨b,o,none⟩) len c) len vs)
  (hb:C.ok b/\b<C.w.heap.size) (he:∀ i,i<len->RL C.cold (f i) ((vs.drop (i*n)).take n)) (hi:i<len):R C (.pf n len f i j) [.pointer (some ⟨b,o+(i*n+j),none⟩)]
 |fn {C:Ctx} {f:Fn} {first cap:List PC} {fs cs:List Value} (h1:RL C first fs) (h2:RL C cap cs):R C (.fn f first cap) [.func f fs.toArray cs.toArray]
 |dv {C:Ctx} {v:Value} (h1:v.oneCell'=true) (h:At C dx 0 (fun hd=>v=hd)):R C .dv [v]
 |any {C:Ctx} {v:Value} (h:v.oneCell'=true):R C .any [v]
 |
  pa {C:Ctx} {len b o c:Nat} {f:Nat->List PC} {vs:List Value} (hr:Reads C.w 1 (.slice (some ⟨b,o,none⟩) len c) len vs)
  (hb:C.ok b/\b<C.w.heap.size) (he:∀ i,i<len->RL C.cold (f i) ((vs.drop (i*1)).take 1)) (hn:0<len):R C (.pa len f) [.pointer (some ⟨b,o,none⟩)]
inductive RL:Ctx->List PC->List Value->Prop where
 |nil {C:Ctx}:RL C [] []
 |cons {C:Ctx} {c:PC} {l:List PC} {xs ys:List Value} (h:R C c xs) (hl:RL C l ys):RL C (c::l) (xs++ys)
end
inductive RW(C:Ctx):PW->Value->Prop where
 |one {c:PC} {v:Value} (h:R C c [v]):RW C (.one c) v
 |agg {l:List PC} {cs:Array Value} (h:RL C l cs.toList):RW C (.agg l) (.agg cs)
inductive RV(C:Ctx):PV->Value->Prop where
 |w {x:PW} {v:Value} (h:RW C x v):RV C (.w x) v
 |lw {l:List PW} {vs:Array Value} (hl:l.length=vs.size) (h:∀ (i:Nat) (x:PW),l[i]?=some x->∃ v:Value,vs[i]?=some v/\RW C x v):RV C (.lw l) (.tuple vs)
 |none {v:Value}:RV C .none v
structure Ctx.Le(C C':Ctx):Prop where
 size:C.w.heap.size<=C'.w.heap.size
 blk:∀ b,b<C.w.heap.size->C.ok b->C'.ok b/\C'.w.heap[b]?=C.w.heap[b]?
 env:∀ x ai hd,C.env x=some (ai,hd)->∃ uh hd',C'.env x=some (uh,hd')/\ai<=uh/\(ai=uh->hd'=hd)
theorem Ctx.Le.cold{C C':Ctx}(h:C.Le C'):C.cold.Le C'.cold:=⟨h.size,h.blk,fun _ _ _ h=>by cases h⟩
theorem Ctx.Le.cell{C C':Ctx}(h:C.Le C'){b:Nat}(hb:b<C.w.heap.size)(ho:C.ok b)(o:Nat):C'.w.cell? ⟨b,o,none⟩=C.w.cell? ⟨b,o,none⟩:=World.cell?_of_block (w:=C.w) (h.blk b hb ho).2
theorem At.mono{C:Ctx}{x ai:Nat}{p q:Value->Prop}(h:At C x ai p)(hq:∀ hd,p hd->q hd):At C x ai q:=by
 obtain⟨vr,hd,h1,h2,h3⟩:=h
 exact⟨vr,hd,h1,h2,fun e=>hq hd (h3 e)⟩
theorem At.le{C C':Ctx}(h:C.Le C'){x ai:Nat}{p:Value->Prop}(ha:At C x ai p):At C' x ai p:=by
 obtain⟨vr,hd,h1,h2,h3⟩:=ha;obtain⟨vr',hd',h4,h5,h6⟩:=h.env x vr hd h1
 exact⟨vr',hd',h4,Nat.le_trans h2 h5,fun e=>by
  have e1:vr=vr':=by omega
  rw[h6 e1]
  exact h3 (by omega)⟩
theorem aKq{C C':Ctx}(h:C.Le C'){n len:Nat}{v:Value}{vs:List Value}(hr:Reads C.w n v len vs)(hb:∀ g,v.ownBlock=some g->0<len->C.ok g/\g<C.w.heap.size):Reads C'.w n v len vs:=by
 obtain⟨h1,A,c,rfl,h2,h3,h4⟩:=hr
 refine⟨h1,A,c,rfl,h2,h3,fun hn=>?_⟩
 obtain⟨b,o,rfl,hc⟩:=h4 hn;have hb':=hb b rfl hn
 exact⟨b,o,rfl,fun j u hu=>by rw[h.cell hb'.2 hb'.1];exact hc j u hu⟩
theorem R.le{C C':Ctx}{c:PC}{xs:List Value}(hr:R C c xs)(h:C.Le C'):R C' c xs:=by
 refine R.rec (motive_1:=fun C c xs _=>∀ C',C.Le C'->R C' c xs) (motive_2:=fun C l xs _=>∀ C',C.Le C'->RL C' l xs) ?_ ?_ ?_ ?_ ?_ ?_ ?_ ?_ ?_ ?_ ?_ ?_ ?_ ?_ ?_ hr C' h
 ·intro C v h C' hl;exact .lit h
 ·intro C n l h C' hl;exact .bs h
 ·intro C n len f v vs hr hb he ih C' hl;exact .sl (aKq hl hr hb) (fun g hg h0=>⟨(hl.blk g (hb g hg h0).2 (hb g hg h0).1).1,Nat.lt_of_lt_of_le (hb g hg h0).2 hl.size⟩) (fun i hi=>ih i hi _ hl.cold)
 ·intro C x ai n off len v h1 h C' hl;exact .ow h1 (h.le hl)
 ·intro C x ai off len v h1 h C' hl;exact .ob h1 (h.le hl)
 ·intro C x ai off v h1 h C' hl;exact .pt h1 (h.le hl)
 ·intro C x ai off k v h1 h C' hl;exact .pk h1 (h.le hl)
 ·intro C x ai n i j v h1 h C' hl;exact .pe h1 (h.le hl)
 ·intro C n len f i j b o c vs hr hb he hi ih C' hl;exact .pf (aKq hl hr (fun g hg _=>by cases hg;exact hb)) ⟨(hl.blk b hb.2 hb.1).1,Nat.lt_of_lt_of_le hb.2 hl.size⟩ (fun i hi=>ih i hi _ hl.cold) hi
 ·intro C f first cap fs cs h1 h2 ih1 ih2 C' hl;exact .fn (ih1 _ hl) (ih2 _ hl)
 ·intro C v h1 h2 C' hl;exact .dv h1 (h2.le hl)
 ·intro C v h C' hl;exact .any h
 ·intro C len b o c f vs hr hb he hn ih C' hl;exact .pa (aKq hl hr (fun g hg _=>by cases hg;exact hb)) ⟨(hl.blk b hb.2 hb.1).1,Nat.lt_of_lt_of_le hb.2 hl.size⟩ (fun i hi=>ih i hi _ hl.cold) hn
 ·intro C C' hl;exact .nil
 ·intro C c l xs ys h hl ih1 ih2 C' hle;exact .cons (ih1 _ hle) (ih2 _ hle)
theorem RL.le{C C':Ctx}{l:List PC}{xs:List Value}(hr:RL C l xs)(h:C.Le C'):RL C' l xs:=by
 induction l generalizing xs with
 |nil=>cases hr;exact .nil
 |cons c l ih=>cases hr with|cons h1 h2=>exact .cons (h1.le h) (ih h2)
theorem RW.le{C C':Ctx}{x:PW}{v:Value}(hr:RW C x v)(h:C.Le C'):RW C' x v:=by
 cases hr with
 |one h1=>exact .one (h1.le h)
 |agg h1=>exact .agg (h1.le h)
theorem RV.le{C C':Ctx}{x:PV}{v:Value}(hr:RV C x v)(h:C.Le C'):RV C' x v:=by
 cases hr with
 |w h1=>exact .w (h1.le h)
 |lw hl h1=>exact .lw hl (fun i x hx=>let ⟨v,a,b⟩:=h1 i x hx;⟨v,a,b.le h⟩)
 |none=>exact .none
def PC.width:PC->Nat
 |.bs n _=>n
 |_=>1
def widths:List PC->Nat
 |[]=>0
 |c::l=>c.width+widths l
theorem R.width{C:Ctx}{c:PC}{xs:List Value}(h:R C c xs):xs.length=c.width:=by cases h<;>simp_all [PC.width]
theorem RL.width{C:Ctx}{l:List PC}{xs:List Value}(h:RL C l xs):xs.length=widths l:=by
 induction l generalizing xs with
 |nil=>cases h;rfl
 |cons c l ih=>cases h with|cons h1 h2=>rw[List.length_append,h1.width,ih h2];rfl
theorem R.ones{C:Ctx}{c:PC}{xs:List Value}(h:R C c xs):∀ u∈xs,u.oneCell'=true:=by
 cases h with
 |lit h=>intro u hu;simp at hu;subst hu;exact h
 |bs h=>intro u hu;obtain⟨b,_,rfl⟩:=List.mem_map.1 hu;rfl
 |sl hr hb he=>intro u hu;simp at hu;subst hu;obtain⟨_,A,c,rfl,_⟩:=hr;rfl
 |ow h1 _=>intro u hu;simp at hu;subst hu;obtain⟨_,_,rfl⟩:=h1;rfl
 |ob h1 _=>intro u hu;simp at hu;subst hu;obtain⟨_,_,rfl⟩:=h1;rfl
 |pt h1 _=>intro u hu;simp at hu;subst hu;obtain⟨_,_,rfl⟩:=h1;rfl
 |pk h1 _=>intro u hu;simp at hu;subst hu;obtain⟨_,_,rfl⟩:=h1;rfl
 |pe h1 _=>intro u hu;simp at hu;subst hu;obtain⟨_,_,rfl⟩:=h1;rfl
 |pf _ _ _ _=>intro u hu;simp at hu;subst hu;rfl
 |fn _ _=>intro u hu;simp at hu;subst hu;rfl
 |dv h1 _=>intro u hu;simp at hu;subst hu;exact h1
 |any h1=>intro u hu;simp at hu;subst hu;exact h1
 |pa _ _ _ _=>intro u hu;simp at hu;subst hu;rfl
theorem RL.ones{C:Ctx}{l:List PC}{xs:List Value}(h:RL C l xs):∀ u∈xs,u.oneCell'=true:=by
 induction l generalizing xs with
 |nil=>cases h;intro u hu;cases hu
 | cons c l ih=>
  cases h with
  |cons h1 h2=>
   intro u hu;rcases List.mem_append.1 hu with hu|hu
   ·exact h1.ones u hu
   ·exact ih h2 u hu
theorem RL.append{C:Ctx}{l m:List PC}{xs ys:List Value}(h:RL C l xs)(k:RL C m ys):RL C (l++m) (xs++ys):=by
 induction l generalizing xs with
 |nil=>cases h;exact k
 |cons c l ih=>cases h with|cons h1 h2=>rw[List.append_assoc];exact .cons h1 (ih h2)
theorem RL.single{C:Ctx}{c:PC}{ys:List Value}(h:RL C [c] ys):R C c ys:=by
 cases h with
 |cons h1 h2=>cases h2;simpa using h1
def qL:List PC->Nat->Nat->Option (List PC)
 |[],0,0=>some []
 |[],_,_=>none
 |c::l,0,n=>if n=0 then some [] else if c.width<=n then (qL l 0 (n-c.width)).map (c::·) else none
 |c::l,off+1,n=>if c.width<=off+1 then qL l (off+1-c.width) n else none
theorem RL.sub{C:Ctx}:∀ {l:List PC} {off n:Nat} {m:List PC} {xs:List Value},RL C l xs->qL l off n=some m->RL C m ((xs.drop off).take n)/\off+n<=xs.length:=by
 intro l
 induction l with
 |nil=>
  intro off n m xs h hs;cases h
  match off,n with
  |0,0=>simp[qL] at hs;subst hs;exact⟨by simpa using RL.nil,by simp⟩
  |0,n+1=>simp[qL] at hs
  |off+1,n=>simp[qL] at hs
 | cons c l ih=>
  intro off n m xs h hs
  cases h with
  | @cons _ _ _ xa xb h1 h2=>
   have hw:=h1.width
   match off with
   | 0 =>
    unfold qL at hs
    by_cases hn:n=0
    ·subst hn;simp at hs;subst hs;exact⟨by simpa using RL.nil,by simp⟩
    ·rw[if_neg hn] at hs
     by_cases hc:c.width<=n
     ·rw[if_pos hc] at hs
      cases hq:qL l 0 (n-c.width) with
      |none=>rw[hq] at hs;cases hs
      |some m'=>
       rw[hq] at hs;simp at hs;subst hs;obtain⟨k1,k2⟩:=ih h2 hq
       refine⟨?_,by rw[List.length_append];omega⟩
       rw[List.drop_zero,List.take_append,List.take_of_length_le (by omega),hw];exact .cons h1 (by simpa using k1)
     ·rw[if_neg hc] at hs;cases hs
   | off+1=>
    unfold qL at hs
    by_cases hc:c.width<=off+1
    ·rw[if_pos hc] at hs;obtain⟨k1,k2⟩:=ih h2 hs
     refine⟨?_,by rw[List.length_append];omega⟩
     rw[List.drop_append,List.drop_of_length_le (by omega),List.nil_append,hw];exact k1
    ·rw[if_neg hc] at hs;cases hs
structure St where
 t:List (Nat×Option Bool×PV)
 o:List (Nat×Option Bool×Nat×og)
def find{α:Type}:List (Nat×α)->Nat->Option α
 |[],_=>none
 |(k,x)::r,t=>match Nat.beq k t with
  |true=>some x
  |false=>find r t
theorem aJ{α:Type}(k:Nat)(x:α)(r:List (Nat×α)):find ((k,x)::r) k=some x:=by simp[find]
theorem aN{α:Type}{k t:Nat}(x:α)(r:List (Nat×α))(h:k≠t):find ((k,x)::r) t=find r t:=by
 have:Nat.beq k t=false:=by
  cases hb:Nat.beq k t with
  |false=>rfl
  |true=>exact absurd (Nat.eq_of_beq_eq_true hb) h
 simp only[find,this]
theorem oG{α:Type}{t:Nat}:∀ (l r:List (Nat×α)),(∀ p∈l,p.1≠t)->find (l++r) t=find r t
 |[],_,_=>rfl
 |(k,x)::l,r,h=>by
  rw[List.cons_append,aN _ _ (h (k,x) List.mem_cons_self)];exact oG l r (fun p hp=>h p (List.mem_cons_of_mem _ hp))
theorem rG{α:Type}{t:Nat}:∀ (l r r':List (Nat×α)),(find r t=find r' t\/∃ p∈l,p.1=t)->find (l++r) t=find (l++r') t
 |[],_,_,h=>by
  rcases h with h|⟨p,hp,_⟩
  ·exact h
  ·cases hp
 | (k,x)::l,r,r',h=>by
  by_cases hk:k=t
  ·subst hk;rw[List.cons_append,List.cons_append,aJ,aJ]
  ·rw[List.cons_append,List.cons_append,aN _ _ hk,aN _ _ hk];refine rG l r r' (h.imp id fun⟨p,hp,he⟩=>?_);rcases List.mem_cons.1 hp with rfl|hp
   ·exact absurd he hk
   ·exact⟨p,hp,he⟩
inductive M where
 |ret (v:PV)
 |fail
 |need (p:Prop) (k:M)
 |tmp (t:Nat) (k:Option Bool->PV->M)
 |obj (x:Nat) (k:Option Bool->Nat->og->M)
 |new (x:Nat) (o:og) (k:Nat->M)
 |upd (x:Nat) (ai:Nat) (o:og) (k:M)
 |gate (b:Bool) (k:M)
abbrev Wr:=List (Nat×Option Bool×Nat×og)
def fresh(s:St)(x:Nat):Nat:=match find s.o x with
 |some (_,vr,_)=>vr+1
 |none=>0
structure Out where
 g:Option Bool
 val:PV
 conds:List Prop
 rt:List Nat
 ro:List Nat
 wr:Wr
def hP(h:Option Bool)(p:Prop):Prop:=match h with
 |none=>p
 |some b=>b=true->p
def M.run:M->Option Bool->St->Option Out
 |.ret v,h,_=>some ⟨h,v,[],[],[],[]⟩
 |.fail,_,_=>none
 |.need p k,h,s=>match k.run h s with
  |some o=>some { o with conds:=hP h p::o.conds }
  |none=>none
 | .tmp t k,h,s=>match find s.t t with
  |some (g,v)=>(match (k g v).run h s with
   |some o=>some { o with rt:=t::o.rt }
   |none=>none)
  |none=>none
 | .obj x k,h,s=>match find s.o x with
  |some (g,vr,ob)=>(match (k g vr ob).run h s with
   |some o=>some { o with ro:=x::o.ro }
   |none=>none)
  |none=>none
 |
  .new x ob k,h,s=>match (k (fresh s x)).run h s with
  |some o=>some { o with ro:=x::o.ro,wr:=(x,h,fresh s x,ob)::o.wr }
  |none=>none
 | .upd x vr ob k,h,s=>match h with
  |none=>(match k.run h s with
   |some o=>some { o with wr:=(x,none,vr,ob)::o.wr }
   |none=>none)
  |some _=>none
 |.gate b k,h,s=>match h with
  |none=>k.run (some b) s
  |some _=>none
theorem M.frame:∀ (m:M) (h:Option Bool) (s s':St) (o:Out),m.run h s=some o->(∀ t∈o.rt,find s'.t t=find s.t t)->(∀ x∈o.ro,find s'.o x=find s.o x)->m.run h s'=some o:=by
 intro m
 induction m with
 |ret v=>intro h0 s s' o h _ _;exact h
 |fail=>intro h0 s s' o h;cases h
 |need p k ih=>
  intro h0 s s' o h h1 h2;unfold M.run at h ⊢
  cases hk:k.run h0 s with
  |none=>rw[hk] at h;cases h
  |some q=>rw[hk] at h;cases h;rw[ih h0 s s' q hk h1 h2]
 | tmp t k ih=>
  intro h0 s s' o h h1 h2;unfold M.run at h ⊢
  cases hf:find s.t t with
  |none=>rw[hf] at h;cases h
  | some p=>
   obtain⟨g,v⟩:=p;rw[hf] at h;dsimp only at h
   cases hk:(k g v).run h0 s with
   |none=>rw[hk] at h;cases h
   |some q=>
    rw[hk] at h;cases h;rw[h1 t List.mem_cons_self,hf];dsimp only
    rw[ih g v h0 s s' q hk (fun t ht=>h1 t (List.mem_cons_of_mem _ ht)) h2]
 | obj x k ih=>
  intro h0 s s' o h h1 h2;unfold M.run at h ⊢
  cases hf:find s.o x with
  |none=>rw[hf] at h;cases h
  | some p=>
   obtain⟨g,vr,ob⟩:=p;rw[hf] at h;dsimp only at h
   cases hk:(k g vr ob).run h0 s with
   |none=>rw[hk] at h;cases h
   |some q=>
    rw[hk] at h;cases h;rw[h2 x List.mem_cons_self,hf];dsimp only
    rw[ih g vr ob h0 s s' q hk h1 (fun t ht=>h2 t (List.mem_cons_of_mem _ ht))]
 | new x ob k ih=>
  intro h0 s s' o h h1 h2;unfold M.run at h ⊢
  cases hk:(k (fresh s x)).run h0 s with
  |none=>rw[hk] at h;cases h
  |some q=>
   rw[hk] at h;cases h
   have hx:fresh s' x=fresh s x:=by unfold fresh;rw[h2 x List.mem_cons_self]
   rw[hx,ih _ h0 s s' q hk h1 (fun t ht=>h2 t (List.mem_cons_of_mem _ ht))]
 | upd x vr ob k ih=>
  intro h0 s s' o h h1 h2;unfold M.run at h ⊢
  cases h0 with
  |some b=>cases h
  |none=>
   dsimp only at h ⊢
   cases hk:k.run none s with
   |none=>rw[hk] at h;cases h
   |some q=>rw[hk] at h;cases h;rw[ih none s s' q hk h1 h2]
 |gate b k ih=>
  intro h0 s s' o h h1 h2;unfold M.run at h ⊢
  cases h0 with
  |some b=>cases h
  |none=>exact ih _ s s' o h h1 h2
def M.ok:M->Option Bool->St->(Option Bool->PV->Wr->Prop)->Prop
 |.ret v,h,_,F=>F h v []
 |.fail,_,_,_=>False
 |.need p k,h,s,F=>hP h p/\k.ok h s F
 |.tmp t k,h,s,F=>∃ g v,find s.t t=some (g,v)/\(k g v).ok h s F
 |.obj x k,h,s,F=>∃ g vr ob,find s.o x=some (g,vr,ob)/\(k g vr ob).ok h s F
 |.new x ob k,h,s,F=>(k (fresh s x)).ok h s (fun g' v wr=>F g' v ((x,h,fresh s x,ob)::wr))
 |.upd x vr ob k,h,s,F=>h=none/\k.ok h s (fun g' v wr=>F g' v ((x,none,vr,ob)::wr))
 |.gate b k,h,s,F=>h=none/\k.ok (some b) s F
theorem M.yc:∀ (m:M) (h0:Option Bool) (s:St) (out:Out) (F:Option Bool->PV->Wr->Prop),m.run h0 s=some out->(∀ p∈out.conds,p)->F out.g out.val out.wr->m.ok h0 s F:=by
 intro m
 induction m with
 |ret v=>intro h0 s out F h _ hF;cases h;exact hF
 |fail=>intro h0 s out F h;cases h
 |need p k ih=>
  intro h0 s out F h hc hF;unfold M.run at h
  cases hk:k.run h0 s with
  |none=>rw[hk] at h;cases h
  |some q=>rw[hk] at h;cases h;exact⟨hc _ List.mem_cons_self,ih h0 s q F hk (fun p' hp=>hc p' (List.mem_cons_of_mem _ hp)) hF⟩
 | tmp t k ih=>
  intro h0 s out F h hc hF;unfold M.run at h
  cases hf:find s.t t with
  |none=>rw[hf] at h;cases h
  |some p=>
   obtain⟨g,v⟩:=p;rw[hf] at h;dsimp only at h
   cases hk:(k g v).run h0 s with
   |none=>rw[hk] at h;cases h
   |some q=>rw[hk] at h;cases h;exact⟨g,v,hf,ih g v h0 s q F hk hc hF⟩
 | obj x k ih=>
  intro h0 s out F h hc hF;unfold M.run at h
  cases hf:find s.o x with
  |none=>rw[hf] at h;cases h
  |some p=>
   obtain⟨g,vr,ob⟩:=p;rw[hf] at h;dsimp only at h
   cases hk:(k g vr ob).run h0 s with
   |none=>rw[hk] at h;cases h
   |some q=>rw[hk] at h;cases h;exact⟨g,vr,ob,hf,ih g vr ob h0 s q F hk hc hF⟩
 |new x ob k ih=>
  intro h0 s out F h hc hF;unfold M.run at h
  cases hk:(k (fresh s x)).run h0 s with
  |none=>rw[hk] at h;cases h
  |some q=>rw[hk] at h;cases h;exact ih _ h0 s q _ hk hc hF
 | upd x vr ob k ih=>
  intro h0 s out F h hc hF;unfold M.run at h
  cases h0 with
  |some b=>cases h
  |none=>
   dsimp only at h
   cases hk:k.run none s with
   |none=>rw[hk] at h;cases h
   |some q=>rw[hk] at h;cases h;exact⟨rfl,ih none s q _ hk hc hF⟩
 |gate b k ih=>
  intro h0 s out F h hc hF;unfold M.run at h
  cases h0 with
  |some b=>cases h
  |none=>exact⟨rfl,ih _ s out F h hc hF⟩
def app(d:Option Nat)(o:Out)(s:St):St:=
 {
  t:=(match d with
  |some d=>(d,o.g,o.val)::s.t
  |none=>s.t),o:=o.wr++s.o }
def qX(Ae:Nat->Oper->M):Nat->List Oper->St->Option (List (Option Nat×Out)×St)
 |_,[],s=>some ([],s)
 | i,o::l,s=>match (Ae i o).run none s with
  |some out=>(match qX Ae (i+1) l (app o.dst out s) with
   |some (outs,s')=>some ((o.dst,out)::outs,s')
   |none=>none)
  |none=>none
def merge(L:Nat->Bool):Nat->List (Option Nat×Out)->St->St
 |_,[],s=>s
 |i,(d,o)::l,s=>merge L (i+1) l (if L i=true then app d o s else s)
def Gh(d:Option Nat)(t:Nat):Prop:=d=some t
def Uc(o:Out)(x:Nat):Prop:=∃ p∈o.wr,p.1=x
theorem aQr{d:Option Nat}{o:Out}{s:St}{t:Nat}(h:¬Gh d t):find (app d o s).t t=find s.t t:=by
 cases d with
 |none=>rfl
 |some d=>unfold app;dsimp only;rw[aN _ _ (fun e=>h (by rw[e];rfl))]
theorem aQq{d:Option Nat}{o:Out}{s s':St}{t:Nat}(h:Gh d t):find (app d o s).t t=find (app d o s').t t:=by
 unfold Gh at h;subst h;unfold app;dsimp only;rw[aJ,aJ]
theorem aQt{d:Option Nat}{o:Out}{s:St}{x:Nat}(h:¬Uc o x):find (app d o s).o x=find s.o x:=oG _ _ (fun p hp e=>h ⟨p,hp,e⟩)
theorem aQs{d:Option Nat}{o:Out}{s s':St}{x:Nat}(h:Uc o x):find (app d o s).o x=find (app d o s').o x:=rG _ _ _ (.inr h)
theorem aEx{t:Nat}{L L':Nat->Bool}:∀ (l:List (Option Nat×Out)) (i:Nat) (s s':St),find s.t t=find s'.t t->(∀ j p,l[j]?=some p->Gh p.1 t->L (i+j)=L' (i+j))->find (merge L i l s).t t=find (merge L' i l s').t t
 |[],_,_,_,h,_=>h
 | (d,o)::l,i,s,s',h,ha=>by
  refine aEx l (i+1) _ _ ?_ (fun j p hj hw=>by rw[Nat.add_assoc,Nat.add_comm 1];exact ha (j+1) p (by simpa using hj) hw)
  by_cases hw:Gh d t
  ·have:=ha 0 (d,o) rfl hw;rw[Nat.add_zero] at this;rw[this]
   by_cases hl:L' i=true
   ·rw[if_pos hl,if_pos hl];exact aQq hw
   ·rw[if_neg hl,if_neg hl];exact h
  ·have e1:∀ (b:Bool) (z:St),find (if b=true then app d o z else z).t t=find z.t t:=fun b z=>by
    cases b
    ·rfl
    ·exact aQr hw
   rw[e1,e1];exact h
theorem aFa{x:Nat}{L L':Nat->Bool}:∀ (l:List (Option Nat×Out)) (i:Nat) (s s':St),find s.o x=find s'.o x->(∀ j p,l[j]?=some p->Uc p.2 x->L (i+j)=L' (i+j))->find (merge L i l s).o x=find (merge L' i l s').o x
 |[],_,_,_,h,_=>h
 | (d,o)::l,i,s,s',h,ha=>by
  refine aFa l (i+1) _ _ ?_ (fun j p hj hw=>by rw[Nat.add_assoc,Nat.add_comm 1];exact ha (j+1) p (by simpa using hj) hw)
  by_cases hw:Uc o x
  ·have:=ha 0 (d,o) rfl hw;rw[Nat.add_zero] at this;rw[this]
   by_cases hl:L' i=true
   ·rw[if_pos hl,if_pos hl];exact aQs hw
   ·rw[if_neg hl,if_neg hl];exact h
  ·have e1:∀ (b:Bool) (z:St),find (if b=true then app d o z else z).o x=find z.o x:=fun b z=>by
    cases b
    ·rfl
    ·exact aQt hw
   rw[e1,e1];exact h
theorem rE:∀ (l:List (Option Nat×Out)) (i:Nat) (s:St) (L:Nat->Bool),(∀ j,j<l.length->L (i+j)=false)->merge L i l s=s
 |[],_,_,_,_=>rfl
 |(d,o)::l,i,s,L,h=>by
  have h0:=h 0 (by simp);rw[Nat.add_zero] at h0;rw[merge,h0];exact rE l (i+1) s L (fun j hj=>by have:=h (j+1) (by simpa using hj);rwa [Nat.add_assoc,Nat.add_comm 1])
theorem aEy{t:Nat}{L:Nat->Bool}:∀ (l:List (Option Nat×Out)) (i k:Nat) (s:St) (d:Option Nat) (o:Out),l[k]?=some (d,o)->Gh d t->(∀ j p,l[j]?=some p->k<j->Gh p.1 t->L (i+j)=false) ->
  find (app d o (merge L i l s)).t t=find (merge (fun j=>if j=i+k then true else L j) i l s).t t
 |[],_,_,_,_,_,h,_,_=>by simp at h
 | (d',o')::l,i,0,s,d,o,h,hw,ha=>by
  obtain⟨rfl,rfl⟩:d'=d/\o'=o:=by simpa using h
  rw[merge,merge,show (if i=i+0 then true else L i)=true from if_pos rfl,if_pos rfl,aQq (s':=s) hw]
  have h1:merge (fun j=>if j=i+0 then true else L j) (i+1) l (app d' o' s)=merge L (i+1) l (app d' o' s):=by
   have:∀ (l:List (Option Nat×Out)) (i':Nat) (s:St),i<i'->merge (fun j=>if j=i+0 then true else L j) i' l s=merge L i' l s:=by
    intro l
    induction l with
    |nil=>intro i' s _;rfl
    |cons p l ih=>
     intro i' s hi;obtain⟨d,o⟩:=p;rw[merge,merge];rw[if_neg (show ¬i'=i+0 by omega)];exact ih (i'+1) _ (by omega)
   exact this l (i+1) _ (by omega)
  rw[h1];refine Eq.trans ?_ (aEx (L:=fun _=>false) l (i+1) (app d' o' s) _ rfl (fun j p hj hwp=>?_))
  ·rw[rE l (i+1) _ _ (fun _ _=>rfl)]
  ·have:=ha (j+1) p (by simpa using hj) (by omega) hwp
   rw[Nat.add_assoc,Nat.add_comm 1,this]
 | (d',o')::l,i,k+1,s,d,o,h,hw,ha=>by
  rw[merge,merge];rw[if_neg (show ¬i=i+(k+1) by omega)]
  have:=aEy (t:=t) (L:=L) l (i+1) k (if L i=true then app d' o' s else s) d o (by simpa using h) hw (fun j p hj hk hwp=>by
   have:=ha (j+1) p (by simpa using hj) (by omega) hwp
   rwa [Nat.add_assoc,Nat.add_comm 1])
  rw[this,show i+1+k=i+(k+1) from by omega]
theorem aEz{x:Nat}{L:Nat->Bool}:∀ (l:List (Option Nat×Out)) (i k:Nat) (s:St) (d:Option Nat) (o:Out),l[k]?=some (d,o)->Uc o x->(∀ j p,l[j]?=some p->k<j->Uc p.2 x->L (i+j)=false) ->
  find (app d o (merge L i l s)).o x=find (merge (fun j=>if j=i+k then true else L j) i l s).o x
 |[],_,_,_,_,_,h,_,_=>by simp at h
 | (d',o')::l,i,0,s,d,o,h,hw,ha=>by
  obtain⟨rfl,rfl⟩:d'=d/\o'=o:=by simpa using h
  rw[merge,merge,show (if i=i+0 then true else L i)=true from if_pos rfl,if_pos rfl,aQs (s':=s) hw]
  have h1:merge (fun j=>if j=i+0 then true else L j) (i+1) l (app d' o' s)=merge L (i+1) l (app d' o' s):=by
   have:∀ (l:List (Option Nat×Out)) (i':Nat) (s:St),i<i'->merge (fun j=>if j=i+0 then true else L j) i' l s=merge L i' l s:=by
    intro l
    induction l with
    |nil=>intro i' s _;rfl
    |cons p l ih=>
     intro i' s hi;obtain⟨d,o⟩:=p;rw[merge,merge];rw[if_neg (show ¬i'=i+0 by omega)];exact ih (i'+1) _ (by omega)
   exact this l (i+1) _ (by omega)
  rw[h1];refine Eq.trans ?_ (aFa (L:=fun _=>false) l (i+1) (app d' o' s) _ rfl (fun j p hj hwp=>?_))
  ·rw[rE l (i+1) _ _ (fun _ _=>rfl)]
  ·have:=ha (j+1) p (by simpa using hj) (by omega) hwp
   rw[Nat.add_assoc,Nat.add_comm 1,this]
 | (d',o')::l,i,k+1,s,d,o,h,hw,ha=>by
  rw[merge,merge];rw[if_neg (show ¬i=i+(k+1) by omega)]
  have:=aEz (x:=x) (L:=L) l (i+1) k (if L i=true then app d' o' s else s) d o (by simpa using h) hw (fun j p hj hk hwp=>by
   have:=ha (j+1) p (by simpa using hj) (by omega) hwp
   rwa [Nat.add_assoc,Nat.add_comm 1])
  rw[this,show i+1+k=i+(k+1) from by omega]
theorem aNy{Ae:Nat->Oper->M}:∀ (l:List Oper) (i:Nat) (s s':St) (outs:List (Option Nat×Out)),qX Ae i l s=some (outs,s') ->
  outs.length=l.length/\s'=merge (fun _=>true) i outs s/\∀ k o,l[k]?=some o->∃ out,outs[k]?=some (o.dst,out)/\(Ae (i+k) o).run none (merge (fun j=>decide (j<i+k)) i outs s)=some out
 |[],i,s,s',outs,h=>by
  obtain⟨rfl,rfl⟩:[]=outs/\s=s':=by simpa[qX] using h
  exact⟨rfl,rfl,fun k o hk=>by simp at hk⟩
 | o :: l,i,s,s',outs,h=>by
  unfold qX at h
  cases hr:(Ae i o).run none s with
  |none=>rw[hr] at h;cases h
  | some out=>
   rw[hr] at h;dsimp only at h
   cases hq:qX Ae (i+1) l (app o.dst out s) with
   |none=>rw[hq] at h;cases h
   | some p=>
    obtain⟨U6,s2⟩:=p;rw[hq] at h;cases h;obtain⟨h1,h2,h3⟩:=aNy l (i+1) _ _ _ hq
    refine⟨by simp[h1],by rw[merge,if_pos rfl];exact h2,fun k o' hk=>?_⟩
    match k with
    |0=>
     obtain rfl:o=o':=by simpa using hk
     refine⟨out,rfl,?_⟩
     rw[Nat.add_zero,rE _ i s _ (fun j _=>by simp)]
     exact hr
    |k+1=>
     obtain⟨out',h4,h5⟩:=h3 k o' (by simpa using hk)
     refine⟨out',by simpa using h4,?_⟩
     rw[merge,if_pos (by simp),show i+(k+1)=i+1+k from by omega];exact h5
def masks(md:Region.Mode):List Oper->List Nat->List Nat
 |[],acc=>acc
 |
  o::l,acc=>masks md l (acc++[o.after.toList.foldl (fun m e=>match Region.binds md e with
  |true=>Nat.lor m (Nat.lor (Nat.shiftLeft 1 e.on) (acc.getD e.on 0))
  |false=>m) 0])
inductive Ox(md:Region.Mode)(ops:Array Oper):Nat->Nat->Prop where
 |edge {i:Nat} {o:Oper} {e:Edge} (ho:ops[i]?=some o) (he:e∈o.after) (hb:Region.binds md e=true):Ox md ops i e.on
 |trans {i j k:Nat} (h:Ox md ops i j) (h':Ox md ops j k):Ox md ops i k
def bIk(md:Region.Mode)(ops:Array Oper)(acc:List Nat):Prop:=∀ i m,acc[i]?=some m->∀ k,m.testBit k=true->Ox md ops i k
theorem aIv{md:Region.Mode}{ops:Array Oper}{acc:List Nat}(hacc:bIk md ops acc){i:Nat}{o:Oper}(ho:ops[i]?=some o) :
  ∀ (es:List Edge) (m:Nat),(∀ e∈es,e∈o.after)->(∀ k,m.testBit k=true->Ox md ops i k) ->
   ∀ k,(es.foldl (fun m e=>match Region.binds md e with|true=>Nat.lor m (Nat.lor (Nat.shiftLeft 1 e.on) (acc.getD e.on 0))|false=>m) m).testBit k=true->Ox md ops i k
 |[],m,_,hm,k,h=>hm k h
 | e :: es,m,hes,hm,k,h=>by
  rw[List.foldl_cons] at h;refine aIv hacc ho es _ (fun e' h'=>hes e' (List.mem_cons_of_mem _ h')) (fun k' h'=>?_) k h;have hmem:=hes e List.mem_cons_self
  cases hb:Region.binds md e with
  |false=>rw[hb] at h';exact hm k' h'
  | true=>
   rw[hb] at h';dsimp only at h';change (m ||| (1 <<< e.on ||| acc.getD e.on 0)).testBit k'=true at h';rw[Nat.testBit_or,Nat.testBit_or,Bool.or_eq_true,Bool.or_eq_true] at h';rcases h' with h'|h'|h'
   ·exact hm k' h'
   ·have hk:k'=e.on:=by
     rw[Nat.testBit_shiftLeft,Bool.and_eq_true] at h';have h2:=h'.2
     have h1:e.on<=k':=by simpa using h'.1
     rcases Nat.eq_zero_or_pos (k'-e.on) with h0|h0
     ·omega
     ·rw[Nat.testBit_lt_two_pow (Nat.one_lt_two_pow (by omega))] at h2;cases h2
    subst hk;exact .edge ho hmem hb
   ·cases hg:acc[e.on]? with
    |none=>rw[zG,hg] at h';simp at h'
    |some m2=>
     rw[zG,hg] at h';exact .trans (.edge ho hmem hb) (hacc e.on m2 hg k' h')
theorem aVl{md:Region.Mode}{ops:Array Oper}:∀ (l:List Oper) (acc:List Nat),bIk md ops acc->(∀ k o,l[k]?=some o->ops[acc.length+k]?=some o)->bIk md ops (masks md l acc)
 |[],_,h,_=>h
 | o::l,acc,h,hl=>by
  refine aVl l _ (fun i m hi k hk=>?_) (fun k o' hk=>?_)
  ·rcases Nat.lt_trichotomy i acc.length with hlt|heq|hgt
   ·rw[List.getElem?_append_left hlt] at hi;exact h i m hi k hk
   ·subst heq;rw[List.getElem?_append_right (Nat.le_refl _),Nat.sub_self] at hi;rw[List.getElem?_cons_zero,Option.some.injEq] at hi;subst hi;exact aIv h (by simpa using hl 0 o rfl) _ 0 (fun e he=>Array.mem_toList_iff.1 he) (fun k hk=>by simp at hk) k hk
   ·rw[List.getElem?_append_right (by omega)] at hi
    have:i-acc.length≠0:=by omega
    cases hq:i-acc.length with
    |zero=>omega
    |succ n=>rw[hq] at hi;simp at hi
  ·rw[List.length_append];have:=hl (k+1) o' (by simpa using hk)
   simpa[Nat.add_assoc,Nat.add_comm 1] using this
def meet(a b:List Nat):Bool:=a.any fun x=>b.any fun y=>Nat.beq x y
theorem aAr{a b:List Nat}{x:Nat}(h:x∈a)(k:x∈b):meet a b=true:=List.any_eq_true.2 ⟨x,h,List.any_eq_true.2 ⟨x,k,by simp⟩⟩
def clash(p q:Option Nat×Out):Bool:=
 let wt (p:Option Nat×Out):=p.1.toList
 let wo (p:Option Nat×Out):=p.2.wr.map (·.1)
 meet (wt p) (wt q)||meet (wt p) q.2.rt||meet p.2.rt (wt q)||meet (wo p) (wo q)||meet (wo p) q.2.ro||meet p.2.ro (wo q)
def aGg:List (Option Nat×Out)->List (Nat×Option Nat×Out)->List Nat->Bool
 |[],_,_=>true
 |_::_,_,[]=>false
 |p::l,seen,m::ms=>(seen.all fun q=>!(clash q.2 p)||m.testBit q.1)&&aGg l (seen++[(seen.length,p)]) ms
theorem aCd:∀ (l:List (Option Nat×Out)) (seen:List (Nat×Option Nat×Out)) (ms:List Nat),aGg l seen ms=true->(∀ (j:Nat) (q:Nat×Option Nat×Out),seen[j]?=some q->q.1=j) ->
  ∀ j k p q,j<k->((seen.map (·.2))++l)[j]?=some q->l[k-seen.length]?=some p->seen.length<=k->clash q p=true->∃ m,ms[k-seen.length]?=some m/\m.testBit j=true
 |[],_,_,_,_,j,k,p,q,_,_,hp,_,_=>by simp at hp
 |p0::l,seen,[],h,_,_,_,_,_,_,_,_,_,_=>by cases h
 | p0 :: l,seen,m::ms,h,hs,j,k,p,q,hjk,hq,hp,hk,hc=>by
  rw[aGg,Bool.and_eq_true] at h;rcases Nat.eq_or_lt_of_le hk with heq|hlt
  ·rw[<-heq,Nat.sub_self] at hp ⊢
   obtain rfl:p0=p:=by simpa using hp
   refine⟨m,rfl,?_⟩
   rw[List.getElem?_append_left (by rw[List.length_map];omega),List.getElem?_map] at hq
   cases hsj:seen[j]? with
   |none=>rw[hsj] at hq;cases hq
   |some z=>
    rw[hsj] at hq
    obtain rfl:z.2=q:=by simpa using hq
    have h1:=List.all_eq_true.1 h.1 z (List.mem_of_getElem? hsj);rw[hc,hs j z hsj] at h1
    simpa using h1
  ·have hsl:(seen++[(seen.length,p0)]).length=seen.length+1:=by simp
   have:=aCd l (seen++[(seen.length,p0)]) ms h.2 (fun j q hj=>by
    rcases Nat.lt_trichotomy j seen.length with h1|h1|h1
    ·rw[List.getElem?_append_left h1] at hj;exact hs j q hj
    ·subst h1;rw[List.getElem?_append_right (Nat.le_refl _),Nat.sub_self] at hj
     obtain rfl:_=q:=by simpa using hj
     rfl
    ·rw[List.getElem?_append_right (by omega)] at hj
     cases hz:j-seen.length with
     |zero=>omega
     |succ n=>rw[hz] at hj;simp at hj) j k p q hjk (by simpa using hq) (by
      rw[hsl];rw[show k-seen.length=(k-(seen.length+1))+1 from by omega] at hp
      simpa using hp) (by omega) hc
   rw[hsl] at this;obtain⟨m',h1,h2⟩:=this
   exact⟨m',by rw[show k-seen.length=(k-(seen.length+1))+1 from by omega];simpa using h1,h2⟩
def bHs(md:Region.Mode):List Oper->Nat->Bool
 |[],_=>true
 |o::l,i=>(o.after.toList.all fun e=>match Region.binds md e with|true=>Nat.blt e.on i|false=>true)&&bHs md l (i+1)
theorem aJn{md:Region.Mode}:∀ (l:List Oper) (i:Nat),bHs md l i=true->∀ k o,l[k]?=some o->∀ e∈o.after,Region.binds md e=true->e.on<i+k
 |[],_,_,k,o,hk=>by simp at hk
 | o0::l,i,h,k,o,hk=>by
  rw[bHs,Bool.and_eq_true] at h;intro e he hb
  match k with
  |0=>
   obtain rfl:o0=o:=by simpa using hk
   have:=List.all_eq_true.1 h.1 e (Array.mem_toList_iff.2 he);rw[hb] at this;have h2:Nat.blt e.on i=true:=this
   have h3:e.on+1<=i:=by simpa[Nat.blt] using h2
   omega
  |k+1=>
   have:=aJn l (i+1) h.2 k o (by simpa using hk) e he hb;omega
section
variable {P:Program} {ops:Array Oper} {Q:Exit->Act->World->Prop}
def F6(P:Program)(ops:Array Oper)(Q:Exit->Act->World->Prop)(G:St->Act->World->Prop)(Ae:Nat->Oper->M):Prop:=
 ∀ i o s a w out,ops[i]?=some o->G s a w->(Ae i o).run none s=some out->(∀ p∈out.conds,p) ->
  ∀ K:Act->World->Prop,(∀ a' w',G (app o.dst out s) a' w'->K a' w')->wpOp P ops Q i K a w
def Finds(G:St->Act->World->Prop):Prop:=∀ s s' a w,(∀ t,find s.t t=find s'.t t)->(∀ x,find s.o x=find s'.o x)->G s a w->G s' a w
theorem tV{G:St->Act->World->Prop}{Ae:Nat->Oper->M}(hok:F6 P ops Q G Ae) :
  ∀ (l:List Oper) (i:Nat) (s s':St) (outs:List (Option Nat×Out)) (a:Act) (w:World),(∀ k o,l[k]?=some o->ops[i+k]?=some o)->qX Ae i l s=some (outs,s')->(∀ q∈outs,∀ p∈q.2.conds,p)->G s a w ->
   (∀ a' w',G s' a' w'->Q .normal a' w')->wpOps P ops Q (List.range' i l.length) a w
 |[],i,s,s',outs,a,w,_,h,_,hg,hQ=>by
  obtain⟨rfl,rfl⟩:[]=outs/\s=s':=by simpa[qX] using h
  exact hQ a w hg
 | o::l,i,s,s',outs,a,w,hl,h,hc,hg,hQ=>by
  unfold qX at h
  cases hr:(Ae i o).run none s with
  |none=>rw[hr] at h;cases h
  | some out=>
   rw[hr] at h;dsimp only at h
   cases hq:qX Ae (i+1) l (app o.dst out s) with
   |none=>rw[hq] at h;cases h
   |some p=>
    obtain⟨U6,s2⟩:=p;rw[hq] at h;cases h;rw[List.length_cons,List.range'_succ,wpOps_cons];refine hok i o s a w out (by simpa using hl 0 o rfl) hg hr (fun p hp=>hc _ List.mem_cons_self p hp) _ (fun a' w' hg'=>?_);exact tV hok l (i+1) _ s' U6 a' w' (fun k o' hk=>by rw[Nat.add_assoc,Nat.add_comm 1];exact hl (k+1) o' (by simpa using hk)) hq (fun q hq'=>hc q (List.mem_cons_of_mem _ hq')) hg' hQ
theorem aRb{G:St->Act->World->Prop}{Ae:Nat->Oper->M}(hok:F6 P ops Q G Ae)(hfind:Finds G){s0 s':St}{outs:List (Option Nat×Out)}
  (hrun:qX Ae 0 ops.toList s0=some (outs,s')) (hc:∀ q∈outs,∀ p∈q.2.conds,p) (hb:bHs .any ops.toList 0=true) (hcl:aGg outs [] (masks .any ops.toList [])=true)
  (hQ:∀ a' w',G s' a' w'->Q .normal a' w') :
  ∀ (fuel:Nat) (listed:Array Bool) (a:Act) (w:World),listed.size=ops.size->(listed.toList.countP (·==false))<=fuel ->
   (∀ i o,ops[i]?=some o->listed.getD i false=true->∀ e∈o.after,Region.binds .any e=true->listed.getD e.on false=true) ->
   G (merge (fun i=>listed.getD i false) 0 outs s0) a w->wpAny P .any ops Q fuel listed a w:=by
 obtain⟨hlen,hs',hat⟩:=aNy _ _ _ _ _ hrun
 have hlen':outs.length=ops.size:=by simpa using hlen
 have hmask:=aVl (md:=.any) (ops:=ops) ops.toList [] (fun i m hi=>by simp at hi) (fun k o hk=>by simpa using hk)
 have aEA:∀ (listed:Array Bool),(∀ i o,ops[i]?=some o->listed.getD i false=true->∀ e∈o.after,Region.binds .any e=true->listed.getD e.on false=true)->∀ i k,Ox .any ops i k->listed.getD i false=true->listed.getD k false=true:=by
  intro listed WW i k h
  induction h with
  |edge ho he hb=>intro hi;exact WW _ _ ho hi _ he hb
  |trans _ _ ih1 ih2=>intro hi;exact ih2 (ih1 hi)
 have aDZ:∀ (listed:Array Bool) (i:Nat),(∀ i o,ops[i]?=some o->listed.getD i false=true->∀ e∈o.after,Region.binds .any e=true->listed.getD e.on false=true)->(∀ o,ops[i]?=some o->∀ e∈o.after,Region.binds .any e=true->listed.getD e.on false=true)->∀ k,Ox .any ops i k->listed.getD k false=true:=by
  intro listed i WW hi k h
  induction h with
  |edge ho he hb=>exact hi _ ho _ he hb
  |trans h1 h2 ih1 _=>exact aEA listed WW _ _ h2 (ih1 hi)
 have LV:∀ j k q p,j<k->outs[j]?=some q->outs[k]?=some p->clash q p=true->Ox .any ops k j:=by
  intro j k q p hjk hq hp h;obtain⟨m,h1,h2⟩:=aCd outs [] _ hcl (fun j q hj=>by simp at hj) j k p q hjk (by simpa using hq) (by simpa using hp) (by simp) h;exact hmask k m (by simpa using h1) j h2
 have hdone:∀ (listed:Array Bool) (a:Act) (w:World),listed.size=ops.size->Region.ready .any ops listed=[]->G (merge (fun i=>listed.getD i false) 0 outs s0) a w->Q .normal a w:=by
  intro listed a w hsz hr hg
  have hall:∀ n i,i<n->i<ops.size->listed.getD i false=true:=by
   intro n
   induction n with
   |zero=>intro i hi;omega
   | succ n ih=>
    intro i hi hi2
    cases hl:listed.getD i false with
    |true=>rfl
    | false=>
     have:i∈Region.ready .any ops listed:=mem_ready.2 ⟨by
      rw[Array.getD_eq_getD_getElem?] at hl ⊢;rw[Array.getElem?_eq_getElem (by omega)] at hl ⊢
      exact hl,ops[i],Array.getElem?_eq_getElem hi2,fun e he hbd=>?_⟩
     ·rw[hr] at this;cases this
     ·have:=aJn ops.toList 0 hb i ops[i] (by simp[hi2]) e he hbd;exact ih e.on (by omega) (by omega)
  refine hQ a w (hfind _ _ a w (fun t=>?_) (fun x=>?_) hg)
  ·rw[hs']
   exact aEx outs 0 s0 s0 rfl (fun j p hj _=>by
    have:j<outs.length:=(List.getElem?_eq_some_iff.1 hj).1
    exact hall (0+j+1) (0+j) (by omega) (by omega))
  ·rw[hs']
   exact aFa outs 0 s0 s0 rfl (fun j p hj _=>by
    have:j<outs.length:=(List.getElem?_eq_some_iff.1 hj).1
    exact hall (0+j+1) (0+j) (by omega) (by omega))
 intro fuel
 induction fuel with
 | zero=>
  intro listed a w hsz hcnt hclosed hg
  have hr:Region.ready .any ops listed=[]:=by
   cases hrd:Region.ready .any ops listed with
   |nil=>rfl
   | cons i l=>
    have hi:i∈Region.ready .any ops listed:=by rw[hrd];exact List.mem_cons_self
    obtain⟨h1,o,ho,_⟩:=mem_ready.1 hi
    have hlt:i<listed.size:=by rw[hsz];exact (Array.getElem?_eq_some_iff.1 ho).1
    have:false∈listed.toList:=by
     rw[Array.getD_eq_getD_getElem?,Array.getElem?_eq_getElem hlt] at h1;have h1':listed[i]=false:=h1;rw[<-h1'];simp
    have:=(List.countP_pos_iff (p:=(·==false))).2 ⟨false,this,rfl⟩;omega
  exact⟨hr,hdone listed a w hsz hr hg⟩
 | succ fuel ih=>
  intro listed a w hsz hcnt hclosed hg
  refine⟨fun hr=>hdone listed a w hsz hr hg,fun i hi=>?_⟩
  obtain⟨h1,o,ho,hpre⟩:=mem_ready.1 hi
  have hlt:i<listed.size:=by rw[hsz];exact (Array.getElem?_eq_some_iff.1 ho).1
  have hfalse:listed.getD i false=false:=by
   rw[Array.getD_eq_getD_getElem?] at h1 ⊢;rw[Array.getElem?_eq_getElem hlt] at h1 ⊢;exact h1
  obtain⟨out,hout,hrn⟩:=hat i o (by simpa using ho);rw[Nat.zero_add] at hrn;have aDK:=aDZ listed i hclosed (fun o' ho'=>by rw[ho] at ho';cases ho';exact hpre);have Em:∀ j q,outs[j]?=some q->clash q (o.dst,out)=true->j<i->listed.getD j false=true:=fun j q hj hc hji=>aDK j (LV j i q _ hji hj hout hc)
  have hafter:∀ j q,outs[j]?=some q->clash (o.dst,out) q=true->i<j->listed.getD j false=false:=fun j q hj hc hij=>by
   cases hl:listed.getD j false with
   |false=>rfl
   |true=>
    have:=aEA listed hclosed j i (LV i j _ q hij hout hj hc) hl;rw[hfalse] at this;cases this
  have hrun2:(Ae i o).run none (merge (fun j=>listed.getD j false) 0 outs s0)=some out:=by
   refine M.frame _ _ _ _ _ hrn (fun t ht=>?_) (fun x hx=>?_)
   ·refine aEx outs 0 s0 s0 rfl (fun j q hj hw=>?_);rw[Nat.zero_add]
    have hw':t∈q.1.toList:=by unfold Gh at hw;rw[hw];simp
    rcases Nat.lt_trichotomy j i with h|h|h
    ·rw[decide_eq_true h];exact Em j q hj (by unfold clash;simp[aAr hw' ht]) h
    ·subst h;rw[hfalse];simp
    ·rw[decide_eq_false (by omega)];exact hafter j q hj (by unfold clash;simp[aAr ht hw']) h
   ·refine aFa outs 0 s0 s0 rfl (fun j q hj hw=>?_);rw[Nat.zero_add];obtain⟨pw,hpw,rfl⟩:=hw;have hw':pw.1∈q.2.wr.map (·.1):=List.mem_map.2 ⟨pw,hpw,rfl⟩;rcases Nat.lt_trichotomy j i with h|h|h
    ·rw[decide_eq_true h];exact Em j q hj (by unfold clash;simp[aAr hw' hx]) h
    ·subst h;rw[hfalse];simp
    ·rw[decide_eq_false (by omega)];exact hafter j q hj (by unfold clash;simp[aAr hx hw']) h
  refine hok i o _ a w out ho hg hrun2 (hc _ (List.mem_of_getElem? hout)) _ (fun a' w' hg'=>?_)
  have hget:∀ j,(listed.setIfInBounds i true).getD j false=(if j=i then true else listed.getD j false):=fun j=>by
   rw[Array.getD_eq_getD_getElem?,Array.getD_eq_getD_getElem?,Array.getElem?_setIfInBounds]
   by_cases hij:i=j
   ·subst hij;simp[hlt]
   ·rw[if_neg hij,if_neg (fun e=>hij e.symm)]
  refine ih _ a' w' (by simpa using hsz) ?_ (fun j oj hj hl e he hbd=>?_) ?_
  ·have:listed.toList.countP (·==false)=(listed.setIfInBounds i true).toList.countP (·==false)+1:=by
    have hl:listed.toList=listed.toList.take i++(false::listed.toList.drop (i+1)):=by
     have hx:listed.toList[i]'(by simpa using hlt)=false:=by
      rw[Array.getD_eq_getD_getElem?,Array.getElem?_eq_getElem hlt] at hfalse
      simpa using hfalse
     rw[<-hx,List.getElem_cons_drop,List.take_append_drop]
    have hl2:(listed.setIfInBounds i true).toList=listed.toList.take i++(true::listed.toList.drop (i+1)):=by
     rw[Array.toList_setIfInBounds,List.set_eq_take_append_cons_drop,if_pos (by simpa using hlt)]
    rw[hl2]
    conv=>lhs;rw[hl]
    simp only[List.countP_append,List.countP_cons];simp;omega
   omega
  ·rw[hget] at hl ⊢
   by_cases hei:e.on=i
   ·rw[if_pos hei]
   ·rw[if_neg hei]
    by_cases hji:j=i
    ·subst hji;rw[ho] at hj;cases hj;exact hpre e he hbd
    ·rw[if_neg hji] at hl;exact hclosed j oj hj hl e he hbd
  ·have hfun:(fun j=>(listed.setIfInBounds i true).getD j false)=fun j=>if j=0+i then true else listed.getD j false:=funext fun j=>by rw[hget,Nat.zero_add]
   rw[hfun];refine hfind _ _ a' w' (fun t=>?_) (fun x=>?_) hg'
   ·by_cases hw:Gh o.dst t
    ·refine aEy outs 0 i s0 o.dst out hout hw (fun j q hj hij hwq=>?_);rw[Nat.zero_add]
     have m1:t∈o.dst.toList:=by unfold Gh at hw;rw[hw];simp
     have m2:t∈q.1.toList:=by unfold Gh at hwq;rw[hwq];simp
     exact hafter j q hj (by unfold clash;simp[aAr m1 m2]) hij
    ·rw[aQr hw];refine aEx outs 0 s0 s0 rfl (fun j q hj hwq=>?_);rw[Nat.zero_add,Nat.zero_add]
     by_cases hji:j=i
     ·subst hji;rw[hout] at hj;cases hj;exact absurd hwq hw
     ·rw[if_neg hji]
   ·by_cases hw:Uc out x
    ·refine aEz outs 0 i s0 o.dst out hout hw (fun j q hj hij hwq=>?_);rw[Nat.zero_add];obtain⟨p1,hp1,e1⟩:=hw;obtain⟨p2,hp2,e2⟩:=hwq;have m1:x∈out.wr.map (·.1):=List.mem_map.2 ⟨p1,hp1,e1⟩;have m2:x∈q.2.wr.map (·.1):=List.mem_map.2 ⟨p2,hp2,e2⟩;exact hafter j q hj (by unfold clash;simp[aAr m1 m2]) hij
    ·rw[aQt hw];refine aFa outs 0 s0 s0 rfl (fun j q hj hwq=>?_);rw[Nat.zero_add,Nat.zero_add]
     by_cases hji:j=i
     ·subst hji;rw[hout] at hj;cases hj;exact absurd hwq hw
     ·rw[if_neg hji]
def vM(draw:Bool)(l:List Oper)(outs:List (Option Nat×Out)):Bool:=match draw with
 |true=>bHs .any l 0&&aGg outs [] (masks .any l [])
 |false=>true
theorem aNb{G:St->Act->World->Prop}{Ae:Nat->Oper->M}(hok:F6 P ops Q G Ae)(hfind:Finds G)(aDR:∀ s a w,G s a w->G s a w.drew)(hmx:P.follows .mixedOrders=true)
  {id:Nat} {draw:Bool} {s0 s':St} {outs:List (Option Nat×Out)} (hrun:qX Ae 0 ops.toList s0=some (outs,s')) (hc:∀ q∈outs,∀ p∈q.2.conds,p) (hcl:vM draw ops.toList outs=true)
  {a:Act} {w:World} (hg:G s0 a w) (hQ:∀ a' w',G s' a' w'->Q .normal a' w'):(Code.region id ops draw).wp P Q a w:=by
 cases draw with
 |false=>
  refine wp_region ?_;have:=tV hok ops.toList 0 s0 s' outs a w (fun k o hk=>by simpa using hk) hrun hc hg hQ
  rwa [<-List.range_eq_range',Array.length_toList] at this
 | true=>
  unfold vM at hcl;rw[Bool.and_eq_true] at hcl;refine wp_region_any hmx ?_;refine aRb hok hfind hrun hc hcl.1 hcl.2 hQ ops.size _ a _ (by simp) (by simp;exact Nat.le_trans List.countP_le_length (by simp)) (fun i o hi hl=>?_) ?_
  ·rw[Array.getD_eq_getD_getElem?,Array.getElem?_replicate] at hl
   split at hl<;>cases hl
  ·rw[rE _ _ _ _ (fun j _=>by
    rw[Array.getD_eq_getD_getElem?,Array.getElem?_replicate]
    split<;>rfl)]
   exact aDR _ _ _ hg
end
end Pv
end Go.Proofs.YtndpjopifkbgiaaGreatDoor
