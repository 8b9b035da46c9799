/-
  Several texts in one file: each has its own heading below.
-/
import Derived.Test.YtndpjopifkbgiaaGreatDoorMsD
import Derived.StillTailTactics
import Derived.Laws.MakeOwn
import Derived.Test.YtndpjopifkbgiaaGreatDoorMsA
import Derived.Orders
import Derived.Great.BuildSlice
set_option maxRecDepth 100000
set_option maxHeartbeats 4000000
namespace Go.Proofs.YtndpjopifkbgiaaGreatDoor
open Go.RowKit Tryz
open _root_.List renaming mem_cons_of_mem->Y3,mem_cons_self->Xv,cons_append->We,getElem?_append_right->YC,length_append->ed,getElem?_append_left->YO,take_of_length_le->IR,mem_of_getElem?->Yy,length_take->uk,length_map->Xt,drop_zero->YD
open _root_.Array renaming getD_eq_getD_getElem?->YR,getElem?_eq_getElem->Yj,length_toList->mf,replicate->yz,getElem?_setIfInBounds_ne->aGI,getElem?_replicate->aGF
open _root_.Go renaming Value->ag,World->ae,Oper->gz,wpAny_ready->Y5,madeCells->Yr
open _root_.And renaming intro->az
open _root_.Nat renaming zero_add->lL,add_assoc->YM,lt_of_lt_of_le->Y1,add_comm->YW,lt_trichotomy->aET,le_refl->dE,add_zero->YP,sub_self->YB,le_trans->mr,zero_le->x8,blt->XN,beq->bz
open _root_.Bool renaming and_eq_true->PP,or_eq_true->aES
theorem Qa(n:Nat):Yr (Value.int .u8 0).cells n=dZ n []:=by rw[aHk];show Yr #[Value.int .u8 0] n=_;unfold Yr;apply Array.ext;simp;intro i b a;simp[Nat.mod_one]
theorem QX(n:Nat)(hn:n<=1000000000)(w:ae):(Instr.makeSlice 74 (.int .i64 (n:Int)) (.int .i64 (n:Int))).run prog w=.ok (.slice (some ⟨w.heap.size,0,none⟩) n n) (w.alloc (.cells (dZ n []) 5)):=by
 obtain⟨e,⟨i,z,d,f,a,c,_⟩,_,_⟩:=fV;have b:i.zero=some (.int .u8 0):=by have:=bFg;rw[d] at this;simpa using this
 have:=run_make (P:=prog) w 74 5 i (.int .u8 0) e d b .i64 .i64 n n a_ (Int.le_refl _) (by rw[c];omega) a_;simp only[Int.toNat_natCast,a,Nat.mul_one] at this;rw[this,Qa]
theorem aJa (m:List UInt8) (a:Int) (s:ByteArray) (w:ae) (hk:m.length=16) (h1:-9223372036854775808<=a) (h2:a<9223372036854775808) (hs:s.size<=10000) :
    Calls prog 38 #[.agg (m.map gq).toArray,.int .i64 a,.string s] w fun e w'=>e=.returned (.string (strOf (dN m a s.data.toList)))/\Ext w w':=by
  obtain⟨N,B⟩:∃ r,(m.map gq).toArray=r:=⟨_,rfl⟩;have a6:=hide (fun w=>aAm a w h1 h2);have HA:=hide B;rw[B];clear B h1 h2;have b3:N.size=16:=by rw[<-aA HA];simpa using hk
  obtain⟨Y,a1⟩:∃ d,keyS m a=d:=⟨_,rfl⟩;have HD:=hide a1;clear a1
  go_enter func38,ntmps38
  go_upto_region 1 with fail
  have b0:=hide (aAo (dh.new w 23 N) (aA HA) hk);have HP:=hide ((Ext.refl w).alloc (.cells N 23));generalize w.alloc (.cells N 23)=E at *
  have a8:=hide (fun (W4:ae) (pv:ag) (V:Option Addr) (U:Nat) (hX:Ext E W4) (a4:Reads W4 1 pv 1 [.slice V (b_ a).length U]) (hr:Reads W4 1 (.slice V (b_ a).length U) (b_ a).length ((b_ a).map gq))=>yR m (.slice (some ⟨w.heap.size,0,none⟩) 16 16) aQs [b_ a] pv W4 ((aA b0).ext hX) a_ jc ⟨[.slice V (b_ a).length U],rfl,a4,fun i p hp=>by
    cases i with
    |zero=>cases hp;exact⟨_,rfl,hr⟩|succ i=>simp at hp⟩ ay (fun p hp=>by simp at hp;subst hp;have:=aP a;omega))
  go_cut [7] (fun s8 wx=>∃ g,s8=.pointer (some ⟨g,0,none⟩)/\Hid (dh wx g 23 ((Y.map gq).toArray)/\Ext E wx/\E.heap.size<=g))
  case first=>
    have HS:=hide (show ((Y.map gq).toArray).size=16 from by rw[<-aA HD];unfold keyS;simpa using fH _ _ _)
    go_region_law (first
      | (
       go_simp;go_at_call 24;refine (aA a6 _).mono ?_;rintro e P ⟨V,U,rfl,H,C⟩
       first
       |(have O:=hide (show Reads P 1 (.slice V (b_ a).length U) (b_ a).length ((b_ a).map gq)/\Ext E P/\True from az (Reads.lw H) (az (((Ext.refl E).drew).trans C) trivial));clear H C)
       |(have O:=hide (show Reads P 1 (.slice V (b_ a).length U) (b_ a).length ((b_ a).map gq)/\Ext E P/\dh P E.heap.size 23 (yz 16 (.int .u8 0)) from az (Reads.lw H) (az ((((Ext.refl E).drew).alloc _).trans C) ((dh.new E.drew _ _).ext C)));clear H C))
      | (
       rename_i K hK;go_simp;go_at_call 22;refine (aA a8 _ _ V U ?_ ?_ ?_).mono ?_
       (focus (first|exact (aA O).2.1.alloc _|exact ((aA O).2.1.alloc _).alloc _))
       (focus (first|exact Reads.uo _ _ _|exact (Reads.uo _ _ _).ext ((Ext.refl _).alloc _)|(have h:=Reads.uo (P.alloc (.cells (yz 16 (.int .u8 0)) 23)) (.slice V (b_ a).length U) 74;rw[World.size_alloc] at h;exact h)))
       (focus (first|exact (aA O).1.ext ((Ext.refl _).alloc _)|exact (aA O).1.ext (((Ext.refl _).alloc _).alloc _)))
       rintro e w5 ⟨rfl,L⟩;rw[show lS m aQs.data.toList [b_ a]=Y from aA HD];have H5:=hide (show Ext E w5/\Ext _ w5 from az (by first|exact ((aA O).2.1.alloc _).trans L|exact (((aA O).2.1.alloc _).alloc _).trans L) L);clear L;dsimp only;refine hK _ _ ?_;clear hK K
       first
       | (
        refine Y5 (rs:=[5]) aj ay (AllReady.cons rfl (fun J T=>?_) AllReady.nil);rw[if_pos f_];go_simp;refine T _ _ ?_;clear T J;refine Y5 (rs:=[6]) aj ay (AllReady.cons rfl (fun J T=>?_) AllReady.nil);refine jD (ty:=23) (t:=23) (x:=.tmp 7) (y:=.tmp 15) rfl rfl bG rfl rfl (dh.new w5 _ _) ?_ ?_ ?_ ?_;rfl;exact aA HS;exact dK _;intro w7 A q X;have H7:=hide (az A (az (((aA H5).1.alloc _).trans' q (fun _ _ h=>h) (fun i hi e=>by have:=(aA H5).1.size';omega)) (aA H5).1.size'));clear A q X;refine T _ _ ?_
        clear T J)
       | (
        refine Y5 (rs:=[6]) aj ay (AllReady.cons rfl (fun J T=>?_) AllReady.nil);have a3:=(aA O).2.1.size';refine jD (ty:=23) (t:=23) (x:=.tmp 7) (y:=.tmp 15) (old:=yz 16 (.int .u8 0)) rfl rfl bG rfl rfl ?_ ?_ ?_ ?_ ?_
        · first|exact (((aA O).2.2).alloc _).ext (aA H5).2|exact ((dh.new P _ _).alloc _).ext (aA H5).2|exact (dh.new' (P.alloc _) _ _ ay).ext (aA H5).2
        rfl;exact aA HS;exact dK _;intro w7 A q X;have H7:=hide (az A (az ((aA H5).1.trans' q (fun _ _ h=>h) (fun i hi e=>by omega)) (show E.heap.size<=_ by omega)));clear A q X a3;refine T _ _ ?_
        clear T J)))
    all_goals
      go_wp2_with fail
      go_meet
      exact⟨_,rfl,hide ⟨(aA H7).1,(aA H7).2.1,by have:=(aA H7).2.2;omega⟩⟩
  case rest =>
    obtain⟨g8,rfl,H8⟩:=hcut;have HS:=hide (show ((Y.map gq).toArray).size=16/\Y.length=16 from by rw[<-aA HD];unfold keyS;exact⟨by simpa using fH _ _ _,fH _ _ _⟩);obtain⟨b4,rfl⟩:∃ x:ae,x=wc:=⟨_,rfl⟩
    go_wp2_with fail
    refine (aTq Y _ s.size _ (aAo (aA H8).1 rfl (aA HS).2) (by have:=(aA HS).2;omega) a_).mono ?_;rintro e w9 ⟨A9,c9,rfl,a0,a2⟩;have H9:=hide (az a0 (((aA HP).trans (aA H8).2.1).trans a2));clear a0 a2 H8;have a5:=QX s.size a_
    go_wp2
    clear a5;obtain⟨D,I⟩:∃ l,dN m a s.data.toList=l:=⟨_,rfl⟩;obtain⟨W,G⟩:∃ l,tC Y (s.size:Int)=l:=⟨_,rfl⟩;have Q:W.length=s.size:=by rw[<-G,rF];simp
    have S:D.length=s.size:=by rw[<-I,dH];exact mf
    have b1:=hide (show D=List.zipWith (· ^^^ ·) s.data.toList W from by rw[<-I,<-G,<-aA HD];unfold dN;rw[mf];rfl);have b2:=hide I;rw[G] at H9;have F:=hide (az Q S);clear I G Q S
    go_loopw [10] (fun i wr=>∃ k:Nat,k<=s.size/\i=.int .i64 k/\Hid (dh wr w9.heap.size 5 (dZ s.size (D.take k))/\Ext w9 wr)) (fun i _=>s.size-(intOf i).toNat)
    case atStart=>exact⟨0,x8 _,rfl,hide ⟨dh.new _ _ _,(Ext.refl w9).alloc _⟩⟩
    case round=>
      obtain⟨k,b6,rfl,Z⟩:=hrel;by_cases f:k<s.size
      ·
        have g1:decide (k<s.size)=true:=decide_eq_true f;have hr:=(aA H9).1.ext (aA Z).2;obtain⟨b,o,c,u,e,-,-,-,-,-⟩:=hr.DV f;cases e;have c1:=hr.byteAt (j:=k) (by rw[(aA F).1];exact f);have c2:wr.cell? ⟨w9.heap.size,k,none⟩=some (.int .u8 0):=by rw[(aA Z).1.cell];exact qH (by rw[uk];omega) f
        have f2:=(aA Z).1.frozen k;clear hr;obtain⟨z,hz⟩:∃ z,s[k] ^^^ W.getD k 0=z:=⟨_,rfl⟩;have b5:bits BinOp.xor IntKind.u8 (s[k].toNat:Int) ((W.getD k 0).toNat:Int)=(z.toNat:Int):=by rw[Bi,hz]
        have HT:=hide (show D.take (k+1)=D.take k++[z] from by
          rw[lW D k (by rw[(aA F).2];exact f)]
          have:D[k]'(by rw[(aA F).2];exact f)=z:=by
            have h1:D[k]?=some z:=by rw[aA b1,List.getElem?_zipWith,zH (show k<W.length by rw[(aA F).1];exact f),Array.getElem?_toList,Yj (show k<s.data.size from f),<-hz,zG,zH (show k<W.length by rw[(aA F).1];exact f)];rfl
            rw[zH (by rw[(aA F).2];exact f)] at h1;injection h1
          rw[this])
        have a9:=hide (show (D.take k).length=k from by rw[uk,(aA F).2];omega);clear hz;generalize W.getD k 0=y at *;have p1:(0:Int)<=(k:Int):=by omega
        have p2:(k:Int)<(s.size:Int):=by omega
        go_upto_region 7 with fail
        go_still_tail 11,aj
        clear c1;change wpList _ _ _ _ _ wr.drew
        go_wp2
        go_roundw
        case rel=>have h1:=((aA Z).1.vk k (.int .u8 (z.toNat:Int))).drew;rw[zQ _ (aA a9) f,<-aA HT] at h1;exact⟨k+1,by omega,by go_num,hide ⟨h1,((aA Z).2.setCell ay _).drew⟩⟩
        case measure=>simp[intOf];omega
      ·
        obtain rfl:k=s.size:=by omega
        have g1:decide (s.size<s.size)=false:=decide_eq_false a_
        have a7:=hide (show Reads wr 1 (.slice (some ⟨w9.heap.size,0,none⟩) s.size s.size) s.size (D.map rO) from by
          have h1:=(aA Z).1;rw[IR (by rw[(aA F).2];omega),zS (aA F).2] at h1;have:=Reads.uy h1 (i:=0) (n:=s.size) (c:=s.size) (by simp[(aA F).2]) a_ (by unfold maxLen;omega);simp only[YD] at this;rw[IR (by rw[Xt,(aA F).2];omega)] at this
          exact this)
        go_wp2_with (refine qN (src:=74) (dst:=9) (x:=.tmp 40) (l:=D) rfl rfl underlying74 underlying5 underlying9 rfl (aA a7) ?_)
        go_ret;exact⟨by rw[aA b2];rfl,(aA H9).2.trans (aA Z).2⟩
theorem bGk(key:List UInt8)(ny:Int)(s:ByteArray)(w:ae)(hk:key.length=16)(h1:-9223372036854775808<=ny)(h2:ny<9223372036854775808)(hs:s.size<=10000) :
    Calls prog 120 #[.agg (key.map gq).toArray,.int .i64 ny,.string s] w fun e w'=>e=.returned (.agg (BM ny (strOf (dN key ny s.data.toList)) (qc key ny (dN key ny s.data.toList))))/\Ext w w':=by
  obtain⟨arr,harr⟩:∃ r,(key.map gq).toArray=r:=⟨_,rfl⟩;have Xl:=hide (fun W=>aJa key ny s W hk h1 h2 a_);rw[harr] at Xl ⊢;have WT:arr.size=16:=by rw[<-harr];simpa using hk
  have h1c:arr.all (·.oneCell')=true:=by rw[<-harr];exact dK _
  have HA:=hide harr;clear harr
  go_enter func120,ntmps120
  obtain⟨cs,hcs⟩:∃ c,strOf (dN key ny s.data.toList)=c:=⟨_,rfl⟩;have hcl:cs.data.toList=dN key ny s.data.toList:=by rw[<-hcs];exact bV _
  have hcz : cs.size <= 100000 := by
   have h:cs.data.toList.length=s.data.toList.length:=by rw[hcl,dH]
   rw[mf,mf] at h;have h2:cs.size=s.size:=h;omega
  have HTg:=hide (fun W=>aXl key ny cs W hk h1 h2 hcz);rw[aA HA,hcl] at HTg;rw[hcs] at Xl ⊢;have HTL:=hide (fZ key ny (dN key ny s.data.toList));generalize qc key ny (dN key ny s.data.toList)=tg at *;clear hcs hcl;obtain⟨t0,t1,t2,t3,t4,t5,t6,t7,t8,t9,t10,t11,t12,t13,t14,t15,rfl⟩:=KQ (aA HTL)
  go_wp2_with (first
    |(refine fG (x:=.tmp 3) rfl rfl bG rfl (cs:=arr) (g:=w.heap.size) (by first|exact (dh.new w _ _).alloc _|assumption) WT ?_)
    | (
     go_at_call 38;refine (aA Xl _).mono ?_;rintro e w1 ⟨rfl,hE1⟩
     have hba:dh w1 w.heap.size 23 arr:=((dh.new w _ _).alloc _).ext hE1;have hbb:=(dh.new' (g:=w.heap.size+1) (w.alloc (.cells arr 23)) _ _ ay).ext hE1
     have H1:=hide (show Ext w w1/\dh w1 (w.heap.size+1) 27 (#[.int .i64 0,.string { data:=#[] }]++yz 16 (.int .u8 0)) from az ((((Ext.refl w).alloc _).alloc _).trans hE1) hbb);clear hE1 hbb)
    |(go_at_call 37;refine (aA HTg _).mono ?_;rintro e w2 ⟨rfl,hE2⟩;have H2:=hide (az ((aA H1).1.trans hE2) ((aA H1).2.ext hE2));clear hE2)
    |(refine aS (ty:=27) (t:=27) (x:=.tmp 6) (y:=.tmp 18) rfl rfl aEa rfl rfl (aA H2).2 ay rfl (by rw[<-Array.all_toList];rfl) ?_;intro w3 hb3 hc3 hz3;have H3:=hide (az hb3 hc3);clear hb3 hc3 hz3))
  refine bodyPost_ret (dR aEa rfl (aA H3).1 rfl rfl) rfl ⟨rfl,?_⟩;exact (aA H2).1.trans' (aA H3).2 (fun _ _ h=>h) (fun i hi e=>by omega)
theorem aIx(b:List UInt8)(a:Int)(c:ByteArray)(t:List UInt8)(w:ae)(E:b.length=16)(I:t.length=16)(h1:-9223372036854775808<=a)(h2:a<9223372036854775808)(hs:c.size<=10000) :
  Calls prog 21 #[.agg (b.map gq).toArray,.agg (BM a c t)] w fun e O=>e=.returned (bif decide (qc b a c.data.toList=t) then .tuple #[.string (strOf (dN b a c.data.toList)),.int .i64 0] else .tuple #[.string { data:=#[] },.int .i64 8])/\Ext w O:=by
 obtain⟨f,g⟩:∃ r,(b.map gq).toArray=r:=⟨_,rfl⟩;have B:=hide (fun W=>aJa b a c W E h1 h2 hs);have o:=hide (fun W=>aXl b a c W E h1 h2 a_);rw[g] at B o ⊢;have n:f.size=16:=by rw[<-g];simpa using E
 have s:=fun W=>aBG (fZ b a c.data.toList) I W;obtain⟨d,J⟩:∃ d,decide (qc b a c.data.toList=t)=d:=⟨_,rfl⟩;rw[J] at s ⊢;clear J;obtain⟨m,h⟩:∃ l,t.map gq=l:=⟨_,rfl⟩;have F:=hide (show m.length=16 from by rw[<-h];simpa using I);rw[SG,h];obtain⟨C,i⟩:∃ l,((qc b a c.data.toList).map gq).toArray=l:=⟨_,rfl⟩;have p:=hide (show C.size=16/\C.all (·.oneCell')=true from by rw[<-i];exact⟨by simpa using fZ _ _ _,dK _⟩);rw[i] at o;rw[i,h] at s
 have A:=hide (show dh ((w.alloc (.cells f 23)).alloc (.cells (DL a c m) 27)) w.heap.size 23 f /\
   dh ((w.alloc (.cells f 23)).alloc (.cells (DL a c m) 27)) (w.heap.size+1) 27 (DL a c m) from⟨(dh.new w _ _).alloc _,dh.new' _ _ _ ay⟩)
 have L:((w.alloc (.cells f 23)).alloc (.cells (DL a c m) 27)).cell? ⟨w.heap.size+1,0,none⟩=some (.int .i64 a):=by rw[(aA A).2.cell];rfl
 have K:((w.alloc (.cells f 23)).alloc (.cells (DL a c m) 27)).cell? ⟨w.heap.size+1,1,none⟩=some (.string c):=by rw[(aA A).2.cell];rfl
 have P:=hide (((Ext.refl w).alloc (.cells f 23)).alloc (.cells (DL a c m) 27));clear g h i
 go_enter func21,ntmps21
 go_upto_region 1 with fail
 generalize (w.alloc (.cells f 23)).alloc (.cells (DL a c m) 27)=T at *
 go_upto_region 2 with (first
  |(refine fG (x:=.tmp 2) rfl rfl bG rfl (cs:=f) (aA A).1 n ?_)
  |(go_at_call 37;refine (aA o _).mono ?_;rintro e N ⟨rfl,k⟩;have G:=hide (az ((aA P).trans k) (az ((aA A).1.ext k) ((aA A).2.ext k)));clear k)
  |(refine aS (ty:=23) (t:=23) (x:=.tmp 6) (y:=.tmp 12) rfl rfl bG rfl rfl (dh.new N _ _) rfl (aA p).1 (aA p).2 ?_;intro H u j D;have q:=hide (az (aMf (aA G).1 j) (az ((aA G).2.1.ext (aGe j)) (az ((aA G).2.2.ext (aGe j)) u)));clear u j D))
 clear L K;have L:H.cell? ⟨w.heap.size+1,0,none⟩=some (.int .i64 a):=by rw[(aA q).2.2.1.cell];rfl
 have K:H.cell? ⟨w.heap.size+1,1,none⟩=some (.string c):=by rw[(aA q).2.2.1.cell];rfl
 cases d<;>go_wp2_with (first
  |(refine fG (x:=.tmp 2) rfl rfl bG rfl (cs:=f) (aA q).2.1 n ?_)
  |(refine fG (x:=.tmp 6) rfl rfl bG rfl (cs:=C) (aA q).2.2.2 (aA p).1 ?_)
  |(refine aKt (x:=.tmp 14) f_ rfl bG rfl (bDv (aA q).2.2.1) (aA F) ?_)
  |(go_at_call 38;refine (aA B _).mono ?_;rintro e S ⟨rfl,z⟩;have Q:=hide ((aA q).1.trans z);clear z))
 ·go_ret2
  exact⟨rfl,(aA q).1⟩
 ·go_ret2
  exact⟨rfl,aA Q⟩
theorem IB(b:List UInt8)(a:Int)(c:ByteArray)(t:List UInt8)(w:ae)(h:b.length=16)(g:t.length=16)(h1:-9223372036854775808<=a)(h2:a<9223372036854775808)(hs:c.size<=10000)
  (d:¬qc b a c.data.toList=t) :
  Calls prog 21 #[.agg (b.map gq).toArray,.agg (BM a c t)] w fun e f=>e=.returned (.tuple #[.string { data:=#[] },.int .i64 8])/\Ext w f:=by
 have:=aIx b a c t w h g h1 h2 hs;rw[decide_eq_false d] at this;exact this
theorem bGq(b:List UInt8)(a:Int)(c:ByteArray)(t:List UInt8)(w:ae)(h:b.length=16)(g:t.length=16)(h1:-9223372036854775808<=a)(h2:a<9223372036854775808)(hs:c.size<=10000)
  (d:qc b a c.data.toList=t) :
  Calls prog 21 #[.agg (b.map gq).toArray,.agg (BM a c t)] w fun e f=>e=.returned (.tuple #[.string (strOf (dN b a c.data.toList)),.int .i64 0])/\Ext w f:=by
 have:=aIx b a c t w h g h1 h2 hs;rw[decide_eq_true d] at this;exact this
namespace Pv
def qj(b:UInt8):ag:=.int .u8 (b.toNat:Int)
inductive PC where
 |lit (v:ag)
 |bs (n:Nat) (l:List UInt8)
 |sl (n len:Nat) (f:Nat->List PC)
 |ow (x jm n off len:Nat)
 |ob (x jm off len:Nat)
 |pt (x jm off:Nat)
 |pk (x jm off k:Nat)
 |pe (x jm n i j:Nat)
 |pf (n len:Nat) (f:Nat->List PC) (i j:Nat)
 |fn (f:Fn) (first cap:List PC)
 |dv
 |any
 |pa (len:Nat) (f:Nat->List PC)
inductive PW where
 |one (c:PC)
 |agg (l:List PC)
inductive PV where
 |w (x:PW)
 |lu (l:List PW)
 |none
inductive qm where
 |box (t:TypeId) (l:List PC)
 |arr (e n len:Nat) (f:Nat->List PC)
 |dead
 |dev (O:List Acc->Option jh) (dw:List Acc->Prop) (l:List Acc)
def dx:Nat:=900000
structure Ctx where
 w:ae
 ok:Nat->Prop
 env:Nat->Option (Nat×ag)
def Ctx.cold(C:Ctx):Ctx:={ C with env:=fun _=>none }
def At(C:Ctx)(x jm:Nat)(p:ag->Prop):Prop:=∃ a b,C.env x=some (a,b)/\jm<=a/\(jm=a->p b)
def jM(g:Nat):ag:=.pointer (some ⟨g,0,none⟩)
def bOs(n off len:Nat)(v:ag)(hd:ag):Prop:=∃ A a b,hd=.slice A a b/\off+len<=a/\v=.slice (A.map (·.add (off*n))) len (b-off)
def bOt(off len:Nat)(v:ag)(hd:ag):Prop:=∃ g c,hd=jM g/\len<=c/\c<=maxLen/\v=.slice (some ⟨g,off,none⟩) len c
def aNt(off:Nat)(v:ag)(hd:ag):Prop:=∃ g,hd=jM g/\v=.pointer (some ⟨g,off,none⟩)
def bOr(n i j:Nat)(v:ag)(hd:ag):Prop:=∃ g a b,hd=.slice (some ⟨g,0,none⟩) a b/\i<a/\v=.pointer (some ⟨g,i*n+j,none⟩)
def Xk(v:ag):Prop:=∃ b o,v=.pointer (some ⟨b,o,none⟩)
def aFS(len:Nat)(v:ag):Prop:=∃ A c,v=.slice A len c
mutual
inductive R:Ctx->PC->List ag->Prop where
 |lit {C:Ctx} {v:ag} (h:v.oneCell'=true):R C (.lit v) [v]
 |bs {C:Ctx} {n:Nat} {l:List UInt8} (h:l.length=n):R C (.bs n l) (l.map qj)
 |
  sl {C:Ctx} {n len:Nat} {f:Nat->List PC} {v:ag} {vs:List ag} (hr:Reads C.w n v len vs)
  (hb:∀ g,v.ownBlock=some g->0<len->C.ok g/\g<C.w.heap.size) (he:∀ i,i<len->RL C.cold (f i) ((vs.drop (i*n)).take n)):R C (.sl n len f) [v]
 |ow {C:Ctx} {x jm n off len:Nat} {v:ag} (h1:aFS len v) (h:At C x jm (bOs n off len v)):R C (.ow x jm n off len) [v]
 |ob {C:Ctx} {x jm off len:Nat} {v:ag} (h1:aFS len v) (h:At C x jm (bOt off len v)):R C (.ob x jm off len) [v]
 |pt {C:Ctx} {x jm off:Nat} {v:ag} (h1:Xk v) (h:At C x jm (aNt off v)):R C (.pt x jm off) [v]
 |pk {C:Ctx} {x jm off k:Nat} {v:ag} (h1:Xk v) (h:At C x jm (aNt (off+k) v)):R C (.pk x jm off k) [v]
 |pe {C:Ctx} {x jm n i j:Nat} {v:ag} (h1:Xk v) (h:At C x jm (bOr n i j v)):R C (.pe x jm n i j) [v]
 |
  pf {C:Ctx} {n len:Nat} {f:Nat->List PC} {i j b o c:Nat} {vs:List ag} (hr:Reads C.w n (.slice (some ⟨b,o,none⟩) len c) len vs)
  (hb:C.ok b/\b<C.w.heap.size) (he:∀ i,i<len->RL C.cold (f i) ((vs.drop (i*n)).take n)) (hi:i<len):R C (.pf n len f i j) [.pointer (some ⟨b,o+(i*n+j),none⟩)]
 |fn {C:Ctx} {f:Fn} {first cap:List PC} {fs cs:List ag} (h1:RL C first fs) (h2:RL C cap cs):R C (.fn f first cap) [.func f fs.toArray cs.toArray]
 |dv {C:Ctx} {v:ag} (h1:v.oneCell'=true) (h:At C dx 0 (fun hd=>v=hd)):R C .dv [v]
 |any {C:Ctx} {v:ag} (h:v.oneCell'=true):R C .any [v]
 |
  pa {C:Ctx} {len b o c:Nat} {f:Nat->List PC} {vs:List ag} (hr:Reads C.w 1 (.slice (some ⟨b,o,none⟩) len c) len vs)
  (hb:C.ok b/\b<C.w.heap.size) (he:∀ i,i<len->RL C.cold (f i) ((vs.drop (i*1)).take 1)) (hn:0<len):R C (.pa len f) [.pointer (some ⟨b,o,none⟩)]
inductive RL:Ctx->List PC->List ag->Prop where
 |nil {C:Ctx}:RL C [] []
 |cons {C:Ctx} {c:PC} {l:List PC} {xs ys:List ag} (h:R C c xs) (hl:RL C l ys):RL C (c::l) (xs++ys)
end
inductive RW(C:Ctx):PW->ag->Prop where
 |one {c:PC} {v:ag} (h:R C c [v]):RW C (.one c) v
 |agg {l:List PC} {cs:Array ag} (h:RL C l cs.toList):RW C (.agg l) (.agg cs)
inductive RV(C:Ctx):PV->ag->Prop where
 |w {x:PW} {v:ag} (h:RW C x v):RV C (.w x) v
 |lu {l:List PW} {vs:Array ag} (hl:l.length=vs.size) (h:∀ (i:Nat) (x:PW),l[i]?=some x->∃ v:ag,vs[i]?=some v/\RW C x v):RV C (.lu l) (.tuple vs)
 |none {v:ag}:RV C .none v
structure Ctx.Le(C C':Ctx):Prop where
 size:C.w.heap.size<=C'.w.heap.size
 blk:∀ b,b<C.w.heap.size->C.ok b->C'.ok b/\C'.w.heap[b]?=C.w.heap[b]?
 env:∀ x jm hd,C.env x=some (jm,hd)->∃ UT hd',C'.env x=some (UT,hd')/\jm<=UT/\(jm=UT->hd'=hd)
theorem Ctx.Le.cold{C a:Ctx}(h:C.Le a):C.cold.Le a.cold:=⟨h.size,h.blk,fun _ _ _ h=>by cases h⟩
theorem Ctx.Le.cell{C a:Ctx}(h:C.Le a){b:Nat}(hb:b<C.w.heap.size)(c:C.ok b)(o:Nat):a.w.cell? ⟨b,o,none⟩=C.w.cell? ⟨b,o,none⟩:=World.cell?_of_block (w:=C.w) (h.blk b hb c).2
theorem At.mono{C:Ctx}{x jm:Nat}{p q:ag->Prop}(h:At C x jm p)(c:∀ a,p a->q a):At C x jm q:=by obtain⟨b,a,g,f,d⟩:=h;exact⟨b,a,g,f,fun e=>c a (d e)⟩
theorem At.le{C d:Ctx}(h:C.Le d){x jm:Nat}{p:ag->Prop}(g:At C x jm p):At d x jm p:=by
 obtain⟨c,f,n,m,l⟩:=g;obtain⟨a,b,k,j,i⟩:=h.env x c f n
 exact⟨a,b,k,mr m j,fun e=>by
  have o:c=a:=by omega
  rw[i o]
  exact l a_⟩
theorem aLq{C e:Ctx}(h:C.Le e){n len:Nat}{v:ag}{vs:List ag}(hr:Reads C.w n v len vs)(hb:∀ g,v.ownBlock=some g->0<len->C.ok g/\g<C.w.heap.size):Reads e.w n v len vs:=by obtain⟨p,A,c,rfl,m,l,k⟩:=hr;refine⟨p,A,c,rfl,m,l,fun d=>?_⟩;obtain⟨b,o,rfl,i⟩:=k d;have a:=hb b rfl d;exact⟨b,o,rfl,fun j u f=>by rw[h.cell a.2 a.1];exact i j u f⟩
theorem R.le{C d:Ctx}{c:PC}{xs:List ag}(hr:R C c xs)(h:C.Le d):R d c xs:=by
 refine R.rec (motive_1:=fun C c xs _=>∀ d,C.Le d->R d c xs) (motive_2:=fun C l xs _=>∀ d,C.Le d->RL d l xs) ?_ ?_ ?_ ?_ ?_ ?_ ?_ ?_ ?_ ?_ ?_ ?_ ?_ ?_ ?_ hr d h;intro C v h d a;exact .lit h;intro C n l h d a;exact .bs h;intro C n len f v A hr e B w d a;exact .sl (aLq a hr e) (fun g u z=>⟨(a.blk g (e g u z).2 (e g u z).1).1,Y1 (e g u z).2 a.size⟩) (fun i t=>w i t _ a.cold);intro C x p n q len v m h d a;exact .ow m (h.le a);intro C x p q len v m h d a;exact .ob m (h.le a);intro C x p q v m h d a;exact .pt m (h.le a);intro C x p q k v m h d a;exact .pk m (h.le a);intro C x p n i j v m h d a;exact .pe m (h.le a);intro C n len f i j b o c A hr e B t w d a;exact .pf (aLq a hr (fun g u _=>by cases u;exact e)) ⟨(a.blk b e.2 e.1).1,Y1 e.2 a.size⟩ (fun i t=>w i t _ a.cold) t
 ·intro C f first cap G H m D s r d a;exact .fn (s _ a) (r _ a)
 intro C v m D d a;exact .dv m (D.le a);intro C v h d a;exact .any h;intro C len b o c f A hr e B E w d a;exact .pa (aLq a hr (fun g u _=>by cases u;exact e)) ⟨(a.blk b e.2 e.1).1,Y1 e.2 a.size⟩ (fun i t=>w i t _ a.cold) E;intro C d a;exact .nil;intro C c l xs F h a s r d y;exact .cons (s _ y) (r _ y)
theorem RL.le{C a:Ctx}{l:List PC}{xs:List ag}(hr:RL C l xs)(h:C.Le a):RL a l xs:=by
 induction l generalizing xs with
 |nil=>cases hr;exact .nil|cons c l b=>cases hr with|cons e d=>exact .cons (e.le h) (b d)
theorem RW.le{C b:Ctx}{x:PW}{v:ag}(hr:RW C x v)(h:C.Le b):RW b x v:=by
 cases hr with
 |one a=>exact .one (a.le h)|agg a=>exact .agg (a.le h)
theorem RV.le{C d:Ctx}{x:PV}{v:ag}(hr:RV C x v)(h:C.Le d):RV d x v:=by
 cases hr with
 |w c=>exact .w (c.le h)|lu f c=>exact .lu f (fun i x e=>let ⟨v,a,b⟩:=c i x e;⟨v,a,b.le h⟩)|none=>exact .none
def PC.width:PC->Nat
 |.bs n _=>n|_=>1
def widths:List PC->Nat
 |[]=>0|c::l=>c.width+widths l
theorem R.width{C:Ctx}{c:PC}{xs:List ag}(h:R C c xs):xs.length=c.width:=by cases h<;>simp_all [PC.width]
theorem RL.width{C:Ctx}{l:List PC}{xs:List ag}(h:RL C l xs):xs.length=widths l:=by
 induction l generalizing xs with
 |nil=>cases h;rfl|cons c l a=>cases h with|cons d b=>rw[ed,d.width,a b];rfl
theorem R.ones{C:Ctx}{c:PC}{xs:List ag}(h:R C c xs):∀ u∈xs,u.oneCell'=true:=by
 cases h with
 |lit h=>intro u a;simp at a;subst a;exact h|bs h=>intro u a;obtain⟨b,_,rfl⟩:=List.mem_map.1 a;rfl
 |sl e g f=>intro u a;simp at a;subst a;obtain⟨_,A,c,rfl,_⟩:=e;rfl
 |ow d _=>intro u a;simp at a;subst a;obtain⟨_,_,rfl⟩:=d;rfl
 |ob d _=>intro u a;simp at a;subst a;obtain⟨_,_,rfl⟩:=d;rfl
 |pt d _=>intro u a;simp at a;subst a;obtain⟨_,_,rfl⟩:=d;rfl
 |pk d _=>intro u a;simp at a;subst a;obtain⟨_,_,rfl⟩:=d;rfl
 |pe d _=>intro u a;simp at a;subst a;obtain⟨_,_,rfl⟩:=d;rfl
 |pf _ _ _ _=>intro u a;simp at a;subst a;rfl|fn _ _=>intro u a;simp at a;subst a;rfl|dv d _=>intro u a;simp at a;subst a;exact d|any d=>intro u a;simp at a;subst a;exact d|pa _ _ _ _=>intro u a;simp at a;subst a;rfl
theorem RL.ones{C:Ctx}{l:List PC}{xs:List ag}(h:RL C l xs):∀ u∈xs,u.oneCell'=true:=by
 induction l generalizing xs with
 |nil=>cases h;intro u a;cases a| cons c l b=>
  cases h with
  |cons e d=>intro u a;rcases List.mem_append.1 a with a|a;exact e.ones u a;exact b d u a
theorem RL.append{C:Ctx}{l m:List PC}{xs ys:List ag}(h:RL C l xs)(k:RL C m ys):RL C (l++m) (xs++ys):=by
 induction l generalizing xs with
 |nil=>cases h;exact k|cons c l a=>cases h with|cons d b=>rw[List.append_assoc];exact .cons d (a b)
theorem RL.single{C:Ctx}{c:PC}{ys:List ag}(h:RL C [c] ys):R C c ys:=by
 cases h with
 |cons b a=>cases a;simpa using b
def rE:List PC->Nat->Nat->Option (List PC)
 |[],0,0=>some []|[],_,_=>none|c::l,0,n=>if n=0 then some [] else if c.width<=n then (rE l 0 (n-c.width)).map (c::·) else none|c::l,off+1,n=>if c.width<=off+1 then rE l (off+1-c.width) n else none
theorem RL.sub{C:Ctx}:∀ {l:List PC} {b n:Nat} {m:List PC} {d:List ag},RL C l d->rE l b n=some m->RL C m ((d.drop b).take n)/\b+n<=d.length:=by
 intro l
 induction l with
 |nil=>
  intro b n m d h a;cases h
  match b,n with
  |0,0=>simp[rE] at a;subst a;exact⟨by simpa using RL.nil,by simp⟩|0,n+1=>simp[rE] at a|b+1,n=>simp[rE] at a
 | cons c l i=>
  intro b n m d h a;cases h with
  | @cons _ _ _ s r p o=>
   have j:=p.width
   match b with
   | 0=>
    unfold rE at a;by_cases k:n=0;subst k;simp at a;subst a;exact⟨by simpa using RL.nil,by simp⟩;rw[if_neg k] at a;by_cases e:c.width<=n;rw[if_pos e] at a;cases g:rE l 0 (n-c.width) with
    |none=>rw[g] at a;cases a|some t=>rw[g] at a;simp at a;subst a;obtain⟨f,q⟩:=i o g;refine⟨?_,by rw[ed];omega⟩;rw[YD,List.take_append,IR a_,j];exact .cons p (by simpa using f)
    rw[if_neg e] at a;cases a
   |b+1=>unfold rE at a;by_cases e:c.width<=b+1;rw[if_pos e] at a;obtain⟨f,q⟩:=i o a;refine⟨?_,by rw[ed];omega⟩;rw[List.drop_append,List.drop_of_length_le a_,List.nil_append,j];exact f;rw[if_neg e] at a;cases a
structure St where
 t:List (Nat×Option Bool×PV)
 o:List (Nat×Option Bool×Nat×qm)
def find{a:Type}:List (Nat×a)->Nat->Option a
 |[],_=>none|(k,x)::r,t=>match bz k t with
  |true=>some x|false=>find r t
theorem aK{a:Type}(k:Nat)(x:a)(r:List (Nat×a)):find ((k,x)::r) k=some x:=by simp[find]
theorem aN{a:Type}{k t:Nat}(x:a)(r:List (Nat×a))(h:k≠t):find ((k,x)::r) t=find r t:=by
 have:bz k t=false:=by
  cases b:bz k t with
  |false=>rfl|true=>exact absurd (Nat.eq_of_beq_eq_true b) h
 simp only[find,this]
theorem oZ{a:Type}{t:Nat}:∀ (l r:List (Nat×a)),(∀ p∈l,p.1≠t)->find (l++r) t=find r t
 |[],_,_=>rfl|(k,x)::l,r,h=>by rw[We,aN _ _ (h (k,x) Xv)];exact oZ l r (fun p b=>h p (Y3 _ b))
theorem sH{e:Type}{t:Nat}:∀ (l r b:List (Nat×e)),(find r t=find b t\/∃ p∈l,p.1=t)->find (l++r) t=find (l++b) t
 |[],_,_,h=>by
  rcases h with h|⟨p,a,_⟩;exact h
  cases a
 |(k,x)::l,r,b,h=>by
  by_cases c:k=t;subst c;rw[We,We,aK,aK];rw[We,We,aN _ _ c,aN _ _ c];refine sH l r b (h.imp id fun⟨p,a,d⟩=>?_);rcases List.mem_cons.1 a with rfl|a;exact absurd d c
  exact⟨p,a,d⟩
inductive M where
 |ret (v:PV)
 |fail
 |need (p:Prop) (k:M)
 |tmp (t:Nat) (k:Option Bool->PV->M)
 |obj (x:Nat) (k:Option Bool->Nat->qm->M)
 |new (x:Nat) (o:qm) (k:Nat->M)
 |upd (x:Nat) (jm:Nat) (o:qm) (k:M)
 |gate (b:Bool) (k:M)
abbrev Wr:=List (Nat×Option Bool×Nat×qm)
def fresh(s:St)(x:Nat):Nat:=match find s.o x with
 |some (_,vr,_)=>vr+1|none=>0
structure Out where
 g:Option Bool
 val:PV
 conds:List Prop
 rt:List Nat
 ro:List Nat
 wr:Wr
def hP(h:Option Bool)(p:Prop):Prop:=match h with
 |none=>p|some b=>b=true->p
def M.run:M->Option Bool->St->Option Out
 |.ret v,h,_=>some ⟨h,v,[],[],[],[]⟩|.fail,_,_=>none|.need p k,h,s=>match k.run h s with
  |some o=>some { o with conds:=hP h p::o.conds }
  |none=>none
 | .tmp t k,h,s=>match find s.t t with
  |some (g,v)=>(match (k g v).run h s with
   |some o=>some { o with rt:=t::o.rt }
   |none=>none)
  |none=>none
 | .obj x k,h,s=>match find s.o x with
  |some (g,vr,ob)=>(match (k g vr ob).run h s with
   |some o=>some { o with ro:=x::o.ro }
   |none=>none)
  |none=>none
 |
  .new x ob k,h,s=>match (k (fresh s x)).run h s with
  |some o=>some { o with ro:=x::o.ro,wr:=(x,h,fresh s x,ob)::o.wr }
  |none=>none
 | .upd x vr ob k,h,s=>match h with
  |none=>(match k.run h s with
   |some o=>some { o with wr:=(x,none,vr,ob)::o.wr }
   |none=>none)
  |some _=>none
 |.gate b k,h,s=>match h with
  |none=>k.run (some b) s|some _=>none
theorem M.frame:∀ (m:M) (h:Option Bool) (s c:St) (o:Out),m.run h s=some o->(∀ t∈o.rt,find c.t t=find s.t t)->(∀ x∈o.ro,find c.o x=find s.o x)->m.run h c=some o:=by
 intro m
 induction m with
 |ret v=>intro d s c o h _ _;exact h|fail=>intro d s c o h;cases h|need p k i=>
  intro d s c o h f e;unfold M.run at h ⊢;cases a:k.run d s with
  |none=>rw[a] at h;cases h|some q=>rw[a] at h;cases h;rw[i d s c q a f e]
 | tmp t k i=>
  intro d s c o h f e;unfold M.run at h ⊢;cases j:find s.t t with
  |none=>rw[j] at h;cases h| some p=>
   obtain⟨g,v⟩:=p;rw[j] at h;dsimp only at h;cases a:(k g v).run d s with
   |none=>rw[a] at h;cases h|some q=>rw[a] at h;cases h;rw[f t Xv,j];dsimp only;rw[i g v d s c q a (fun t l=>f t (Y3 _ l)) e]
 | obj x k i=>
  intro d s c o h f e;unfold M.run at h ⊢;cases j:find s.o x with
  |none=>rw[j] at h;cases h| some p=>
   obtain⟨g,r,n⟩:=p;rw[j] at h;dsimp only at h;cases a:(k g r n).run d s with
   |none=>rw[a] at h;cases h|some q=>rw[a] at h;cases h;rw[e x Xv,j];dsimp only;rw[i g r n d s c q a f (fun t l=>e t (Y3 _ l))]
 | new x n k i=>
  intro d s c o h f e;unfold M.run at h ⊢;cases a:(k (fresh s x)).run d s with
  |none=>rw[a] at h;cases h|some q=>
   rw[a] at h;cases h;have u:fresh c x=fresh s x:=by unfold fresh;rw[e x Xv]
   rw[u,i _ d s c q a f (fun t l=>e t (Y3 _ l))]
 | upd x r n k i=>
  intro d s c o h f e;unfold M.run at h ⊢;cases d with
  |some b=>cases h|none=>
   dsimp only at h ⊢;cases a:k.run none s with
   |none=>rw[a] at h;cases h|some q=>rw[a] at h;cases h;rw[i none s c q a f e]
 |gate b k i=>
  intro d s c o h f e;unfold M.run at h ⊢;cases d with
  |some b=>cases h|none=>exact i _ s c o h f e
def M.ok:M->Option Bool->St->(Option Bool->PV->Wr->Prop)->Prop
 |.ret v,h,_,F=>F h v []|.fail,_,_,_=>False|.need p k,h,s,F=>hP h p/\k.ok h s F|.tmp t k,h,s,F=>∃ g v,find s.t t=some (g,v)/\(k g v).ok h s F|.obj x k,h,s,F=>∃ g c a,find s.o x=some (g,c,a)/\(k g c a).ok h s F|.new x a k,h,s,F=>(k (fresh s x)).ok h s (fun d v wr=>F d v ((x,h,fresh s x,a)::wr))|.upd x c a k,h,s,F=>h=none/\k.ok h s (fun d v wr=>F d v ((x,none,c,a)::wr))|.gate b k,h,s,F=>h=none/\k.ok (some b) s F
theorem M.zf:∀ (m:M) (c:Option Bool) (s:St) (a:Out) (F:Option Bool->PV->Wr->Prop),m.run c s=some a->(∀ p∈a.conds,p)->F a.g a.val a.wr->m.ok c s F:=by
 intro m
 induction m with
 |ret v=>intro c s a F h _ e;cases h;exact e|fail=>intro c s a F h;cases h|need p k i=>
  intro c s a F h f e;unfold M.run at h;cases d:k.run c s with
  |none=>rw[d] at h;cases h|some q=>rw[d] at h;cases h;exact⟨f _ Xv,i c s q F d (fun r u=>f r (Y3 _ u)) e⟩
 | tmp t k i=>
  intro c s a F h f e;unfold M.run at h;cases j:find s.t t with
  |none=>rw[j] at h;cases h|some p=>
   obtain⟨g,v⟩:=p;rw[j] at h;dsimp only at h;cases d:(k g v).run c s with
   |none=>rw[d] at h;cases h|some q=>rw[d] at h;cases h;exact⟨g,v,j,i g v c s q F d f e⟩
 | obj x k i=>
  intro c s a F h f e;unfold M.run at h;cases j:find s.o x with
  |none=>rw[j] at h;cases h|some p=>
   obtain⟨g,n,l⟩:=p;rw[j] at h;dsimp only at h;cases d:(k g n l).run c s with
   |none=>rw[d] at h;cases h|some q=>rw[d] at h;cases h;exact⟨g,n,l,j,i g n l c s q F d f e⟩
 |new x l k i=>
  intro c s a F h f e;unfold M.run at h;cases d:(k (fresh s x)).run c s with
  |none=>rw[d] at h;cases h|some q=>rw[d] at h;cases h;exact i _ c s q _ d f e
 | upd x n l k i=>
  intro c s a F h f e;unfold M.run at h;cases c with
  |some b=>cases h|none=>
   dsimp only at h;cases d:k.run none s with
   |none=>rw[d] at h;cases h|some q=>rw[d] at h;cases h;exact⟨rfl,i none s q _ d f e⟩
 |gate b k i=>
  intro c s a F h f e;unfold M.run at h;cases c with
  |some b=>cases h|none=>exact⟨rfl,i _ s a F h f e⟩
def app(d:Option Nat)(o:Out)(s:St):St:=
 {
  t:=(match d with
  |some d=>(d,o.g,o.val)::s.t|none=>s.t),o:=o.wr++s.o }
def rW(b:Nat->gz->M):Nat->List gz->St->Option (List (Option Nat×Out)×St)
 |_,[],s=>some ([],s)| i,o::l,s=>match (b i o).run none s with
  |some out=>(match rW b (i+1) l (app o.dst out s) with
   |some (a,c)=>some ((o.dst,out)::a,c)|none=>none)
  |none=>none
def merge(L:Nat->Bool):Nat->List (Option Nat×Out)->St->St
 |_,[],s=>s|i,(d,o)::l,s=>merge L (i+1) l (if L i=true then app d o s else s)
def FV(d:Option Nat)(t:Nat):Prop:=d=some t
def UQ(o:Out)(x:Nat):Prop:=∃ p∈o.wr,p.1=x
theorem aSn{d:Option Nat}{o:Out}{s:St}{t:Nat}(h:¬FV d t):find (app d o s).t t=find s.t t:=by
 cases d with
 |none=>rfl|some d=>unfold app;dsimp only;rw[aN _ _ (fun e=>h (by rw[e];rfl))]
theorem aSm{d:Option Nat}{o:Out}{s s':St}{t:Nat}(h:FV d t):find (app d o s).t t=find (app d o s').t t:=by unfold FV at h;subst h;unfold app;dsimp only;rw[aK,aK]
theorem aSp{d:Option Nat}{o:Out}{s:St}{x:Nat}(h:¬UQ o x):find (app d o s).o x=find s.o x:=oZ _ _ (fun p a e=>h ⟨p,a,e⟩)
theorem aSo{d:Option Nat}{o:Out}{s s':St}{x:Nat}(h:UQ o x):find (app d o s).o x=find (app d o s').o x:=sH _ _ _ (.inr h)
theorem aGa{t:Nat}{L f:Nat->Bool}:∀ (l:List (Option Nat×Out)) (i:Nat) (s e:St),find s.t t=find e.t t->(∀ j p,l[j]?=some p->FV p.1 t->L (i+j)=f (i+j))->find (merge L i l s).t t=find (merge f i l e).t t
 |[],_,_,_,h,_=>h| (d,o)::l,i,s,e,h,ha=>by
  refine aGa l (i+1) _ _ ?_ (fun j p k a=>by rw[YM,YW 1];exact ha (j+1) p (by simpa using k) a);by_cases a:FV d t;have:=ha 0 (d,o) rfl a;rw[YP] at this;rw[this];by_cases c:f i=true;rw[if_pos c,if_pos c];exact aSm a;rw[if_neg c,if_neg c];exact h;have g:∀ (b:Bool) (z:St),find (if b=true then app d o z else z).t t=find z.t t:=fun b z=>by cases b;rfl;exact aSn a
  rw[g,g];exact h
theorem aGd{x:Nat}{L f:Nat->Bool}:∀ (l:List (Option Nat×Out)) (i:Nat) (s e:St),find s.o x=find e.o x->(∀ j p,l[j]?=some p->UQ p.2 x->L (i+j)=f (i+j))->find (merge L i l s).o x=find (merge f i l e).o x
 |[],_,_,_,h,_=>h| (d,o)::l,i,s,e,h,ha=>by
  refine aGd l (i+1) _ _ ?_ (fun j p k a=>by rw[YM,YW 1];exact ha (j+1) p (by simpa using k) a);by_cases a:UQ o x;have:=ha 0 (d,o) rfl a;rw[YP] at this;rw[this];by_cases c:f i=true;rw[if_pos c,if_pos c];exact aSo a;rw[if_neg c,if_neg c];exact h;have g:∀ (b:Bool) (z:St),find (if b=true then app d o z else z).o x=find z.o x:=fun b z=>by cases b;rfl;exact aSp a
  rw[g,g];exact h
theorem sG:∀ (l:List (Option Nat×Out)) (i:Nat) (s:St) (L:Nat->Bool),(∀ j,j<l.length->L (i+j)=false)->merge L i l s=s
 |[],_,_,_,_=>rfl|(d,o)::l,i,s,L,h=>by have a:=h 0 ay;rw[YP] at a;rw[merge,a];exact sG l (i+1) s L (fun j b=>by have:=h (j+1) (by simpa using b);rwa [YM,YW 1])
theorem aGb{t:Nat}{L:Nat->Bool}:∀ (l:List (Option Nat×Out)) (i k:Nat) (s:St) (d:Option Nat) (o:Out),l[k]?=some (d,o)->FV d t->(∀ j p,l[j]?=some p->k<j->FV p.1 t->L (i+j)=false) ->
  find (app d o (merge L i l s)).t t=find (merge (fun j=>if j=i+k then true else L j) i l s).t t
 |[],_,_,_,_,_,h,_,_=>by simp at h| (e,c)::l,i,0,s,d,o,h,hw,ha=>by
  obtain⟨rfl,rfl⟩:e=d/\c=o:=by simpa using h
  rw[merge,merge,show (if i=i+0 then true else L i)=true from if_pos rfl,if_pos rfl,aSm (s':=s) hw]
  have m:merge (fun j=>if j=i+0 then true else L j) (i+1) l (app e c s)=merge L (i+1) l (app e c s):=by
   have:∀ (l:List (Option Nat×Out)) (a:Nat) (s:St),i<a->merge (fun j=>if j=i+0 then true else L j) a l s=merge L a l s:=by
    intro l
    induction l with
    |nil=>intro a s _;rfl|cons p l g=>intro a s q;obtain⟨d,o⟩:=p;rw[merge,merge];rw[if_neg (show ¬a=i+0 by omega)];exact g (a+1) _ a_
   exact this l (i+1) _ a_
  rw[m];refine Eq.trans ?_ (aGa (L:=fun _=>false) l (i+1) (app e c s) _ rfl (fun j p f b=>?_));rw[sG l (i+1) _ _ (fun _ _=>rfl)];have:=ha (j+1) p (by simpa using f) a_ b;rw[YM,YW 1,this]
 | (e,c)::l,i,k+1,s,d,o,h,hw,ha=>by
  rw[merge,merge];rw[if_neg (show ¬i=i+(k+1) by omega)]
  have:=aGb (t:=t) (L:=L) l (i+1) k (if L i=true then app e c s else s) d o (by simpa using h) hw (fun j p f n b=>by
   have:=ha (j+1) p (by simpa using f) a_ b
   rwa [YM,YW 1])
  rw[this,show i+1+k=i+(k+1) from by omega]
theorem aGc{x:Nat}{L:Nat->Bool}:∀ (l:List (Option Nat×Out)) (i k:Nat) (s:St) (d:Option Nat) (o:Out),l[k]?=some (d,o)->UQ o x->(∀ j p,l[j]?=some p->k<j->UQ p.2 x->L (i+j)=false) ->
  find (app d o (merge L i l s)).o x=find (merge (fun j=>if j=i+k then true else L j) i l s).o x
 |[],_,_,_,_,_,h,_,_=>by simp at h| (e,c)::l,i,0,s,d,o,h,hw,ha=>by
  obtain⟨rfl,rfl⟩:e=d/\c=o:=by simpa using h
  rw[merge,merge,show (if i=i+0 then true else L i)=true from if_pos rfl,if_pos rfl,aSo (s':=s) hw]
  have m:merge (fun j=>if j=i+0 then true else L j) (i+1) l (app e c s)=merge L (i+1) l (app e c s):=by
   have:∀ (l:List (Option Nat×Out)) (a:Nat) (s:St),i<a->merge (fun j=>if j=i+0 then true else L j) a l s=merge L a l s:=by
    intro l
    induction l with
    |nil=>intro a s _;rfl|cons p l g=>intro a s q;obtain⟨d,o⟩:=p;rw[merge,merge];rw[if_neg (show ¬a=i+0 by omega)];exact g (a+1) _ a_
   exact this l (i+1) _ a_
  rw[m];refine Eq.trans ?_ (aGd (L:=fun _=>false) l (i+1) (app e c s) _ rfl (fun j p f b=>?_));rw[sG l (i+1) _ _ (fun _ _=>rfl)];have:=ha (j+1) p (by simpa using f) a_ b;rw[YM,YW 1,this]
 | (e,c)::l,i,k+1,s,d,o,h,hw,ha=>by
  rw[merge,merge];rw[if_neg (show ¬i=i+(k+1) by omega)]
  have:=aGc (x:=x) (L:=L) l (i+1) k (if L i=true then app e c s else s) d o (by simpa using h) hw (fun j p f n b=>by
   have:=ha (j+1) p (by simpa using f) a_ b
   rwa [YM,YW 1])
  rw[this,show i+1+k=i+(k+1) from by omega]
theorem aPd{c:Nat->gz->M}:∀ (l:List gz) (i:Nat) (s d:St) (a:List (Option Nat×Out)),rW c i l s=some (a,d) ->
  a.length=l.length/\d=merge (fun _=>true) i a s/\∀ k o,l[k]?=some o->∃ b,a[k]?=some (o.dst,b)/\(c (i+k) o).run none (merge (fun j=>decide (j<i+k)) i a s)=some b
 |[],i,s,d,a,h=>by
  obtain⟨rfl,rfl⟩:[]=a/\s=d:=by simpa[rW] using h
  exact⟨rfl,rfl,fun k o f=>by simp at f⟩
 | o :: l,i,s,d,a,h=>by
  unfold rW at h;cases m:(c i o).run none s with
  |none=>rw[m] at h;cases h| some b=>
   rw[m] at h;dsimp only at h;cases n:rW c (i+1) l (app o.dst b s) with
   |none=>rw[n] at h;cases h| some p=>
    obtain⟨g,y⟩:=p;rw[n] at h;cases h;obtain⟨x,w,u⟩:=aPd l (i+1) _ _ _ n;refine⟨by simp[x],by rw[merge,if_pos rfl];exact w,fun k q f=>?_⟩
    match k with
    |0=>
     obtain rfl:o=q:=by simpa using f
     refine⟨b,rfl,?_⟩;rw[YP,sG _ i s _ (fun j _=>by simp)];exact m
    |k+1=>obtain⟨e,t,r⟩:=u k q (by simpa using f);refine⟨e,by simpa using t,?_⟩;rw[merge,if_pos ay,show i+(k+1)=i+1+k from by omega];exact r
def masks(md:Region.Mode):List gz->List Nat->List Nat
 |[],a=>a
 |
  o::l,a=>masks md l (a++[o.after.toList.foldl (fun m e=>match Region.binds md e with
  |true=>Nat.lor m (Nat.lor (Nat.shiftLeft 1 e.on) (a.getD e.on 0))|false=>m) 0])
inductive Oe(md:Region.Mode)(ops:Array gz):Nat->Nat->Prop where
 |edge {i:Nat} {o:gz} {e:Edge} (ho:ops[i]?=some o) (he:e∈o.after) (hb:Region.binds md e=true):Oe md ops i e.on
 |trans {i j k:Nat} (h:Oe md ops i j) (h':Oe md ops j k):Oe md ops i k
def bOu(md:Region.Mode)(ops:Array gz)(a:List Nat):Prop:=∀ i m,a[i]?=some m->∀ k,m.testBit k=true->Oe md ops i k
theorem aJv{md:Region.Mode}{ops:Array gz}{b:List Nat}(d:bOu md ops b){i:Nat}{o:gz}(n:ops[i]?=some o) :
  ∀ (l:List Edge) (m:Nat),(∀ e∈l,e∈o.after)->(∀ k,m.testBit k=true->Oe md ops i k) ->
   ∀ k,(l.foldl (fun m e=>match Region.binds md e with|true=>Nat.lor m (Nat.lor (Nat.shiftLeft 1 e.on) (b.getD e.on 0))|false=>m) m).testBit k=true->Oe md ops i k
 |[],m,_,g,k,h=>g k h| e::l,m,hes,g,k,h=>by
  rw[List.foldl_cons] at h;refine aJv d n l _ (fun u a=>hes u (Y3 _ a)) (fun f a=>?_) k h;have c:=hes e Xv;cases j:Region.binds md e with
  |false=>rw[j] at a;exact g f a| true=>
   rw[j] at a;dsimp only at a;change (m ||| (1 <<< e.on ||| b.getD e.on 0)).testBit f=true at a;rw[Nat.testBit_or,Nat.testBit_or,aES,aES] at a;rcases a with a|a|a;exact g f a
   have s:f=e.on:=by
    rw[Nat.testBit_shiftLeft,PP] at a;have q:=a.2;have w:e.on<=f:=by simpa using a.1
    rcases Nat.eq_zero_or_pos (f-e.on) with t|t;omega;rw[Nat.testBit_lt_two_pow (Nat.one_lt_two_pow a_)] at q;cases q
   subst s;exact .edge n c j;cases p:b[e.on]? with
   |none=>rw[zG,p] at a;simp at a|some r=>rw[zG,p] at a;exact .trans (.edge n c j) (d e.on r p f a)
theorem aYg{md:Region.Mode}{ops:Array gz}:∀ (l:List gz) (a:List Nat),bOu md ops a->(∀ k o,l[k]?=some o->ops[a.length+k]?=some o)->bOu md ops (masks md l a)
 |[],_,h,_=>h|o::l,a,h,hl=>by
  refine aYg l _ (fun i m b k c=>?_) (fun k g c=>?_);rcases aET i a.length with d|f|p;rw[YO d] at b;exact h i m b k c;subst f;rw[YC (dE _),YB] at b;rw[List.getElem?_cons_zero,Option.some.injEq] at b;subst b;exact aJv h (by simpa using hl 0 o rfl) _ 0 (fun e q=>Array.mem_toList_iff.1 q) (fun k c=>by simp at c) k c;rw[YC a_] at b
  have:i-a.length≠0:=by omega
  cases j:i-a.length with
  |zero=>omega|succ n=>rw[j] at b;simp at b
  rw[ed];have:=hl (k+1) g (by simpa using c);simpa[YM,YW 1] using this
def meet(a b:List Nat):Bool:=a.any fun x=>b.any fun y=>bz x y
theorem Zi{a b:List Nat}{x:Nat}(h:x∈a)(k:x∈b):meet a b=true:=List.any_eq_true.2 ⟨x,h,List.any_eq_true.2 ⟨x,k,by simp⟩⟩
def clash(p q:Option Nat×Out):Bool:=
 let a (p:Option Nat×Out):=p.1.toList;let b (p:Option Nat×Out):=p.2.wr.map (·.1)
 meet (a p) (a q)||meet (a p) q.2.rt||meet p.2.rt (a q)||meet (b p) (b q)||meet (b p) q.2.ro||meet p.2.ro (b q)
def aHi:List (Option Nat×Out)->List (Nat×Option Nat×Out)->List Nat->Bool
 |[],_,_=>true|_::_,_,[]=>false|p::l,seen,m::ms=>(seen.all fun q=>!(clash q.2 p)||m.testBit q.1)&&aHi l (seen++[(seen.length,p)]) ms
theorem aDb:∀ (l:List (Option Nat×Out)) (a:List (Nat×Option Nat×Out)) (g:List Nat),aHi l a g=true->(∀ (j:Nat) (q:Nat×Option Nat×Out),a[j]?=some q->q.1=j) ->
  ∀ j k p q,j<k->((a.map (·.2))++l)[j]?=some q->l[k-a.length]?=some p->a.length<=k->clash q p=true->∃ m,g[k-a.length]?=some m/\m.testBit j=true
 |[],_,_,_,_,j,k,p,q,_,_,e,_,_=>by simp at e|p0::l,a,[],h,_,_,_,_,_,_,_,_,_,_=>by cases h| p0::l,a,m::g,h,hs,j,k,p,q,hjk,hq,e,hk,hc=>by
  rw[aHi,PP] at h;rcases Nat.eq_or_lt_of_le hk with i|s;rw[<-i,YB] at e ⊢
  obtain rfl:p0=p:=by simpa using e
  refine⟨m,rfl,?_⟩;rw[YO (by rw[Xt];omega),List.getElem?_map] at hq;cases b:a[j]? with
  |none=>rw[b] at hq;cases hq|some z=>
   rw[b] at hq;obtain rfl:z.2=q:=by simpa using hq
   have c:=List.all_eq_true.1 h.1 z (Yy b);rw[hc,hs j z b] at c;simpa using c
  have f:(a++[(a.length,p0)]).length=a.length+1:=by simp
  have:=aDb l (a++[(a.length,p0)]) g h.2 (fun j q d=>by
   rcases aET j a.length with c|c|c;rw[YO c] at d;exact hs j q d;subst c;rw[YC (dE _),YB] at d
   obtain rfl:_=q:=by simpa using d
   rfl;rw[YC a_] at d
   cases r:j-a.length with
   |zero=>omega|succ n=>rw[r] at d;simp at d) j k p q hjk (by simpa using hq) (by
    rw[f];rw[show k-a.length=(k-(a.length+1))+1 from by omega] at e
    simpa using e) a_ hc
  rw[f] at this;obtain⟨o,c,t⟩:=this;exact⟨o,by rw[show k-a.length=(k-(a.length+1))+1 from by omega];simpa using c,t⟩
def bOc(md:Region.Mode):List gz->Nat->Bool
 |[],_=>true|o::l,i=>(o.after.toList.all fun e=>match Region.binds md e with|true=>XN e.on i|false=>true)&&bOc md l (i+1)
theorem aKk{md:Region.Mode}:∀ (l:List gz) (i:Nat),bOc md l i=true->∀ k o,l[k]?=some o->∀ e∈o.after,Region.binds md e=true->e.on<i+k
 |[],_,_,k,o,a=>by simp at a| o0::l,i,h,k,o,a=>by
  rw[bOc,PP] at h;intro e b c
  match k with
  |0=>
   obtain rfl:o0=o:=by simpa using a
   have:=List.all_eq_true.1 h.1 e (Array.mem_toList_iff.2 b);rw[c] at this;have d:XN e.on i=true:=this;have f:e.on+1<=i:=by simpa[XN] using d
   omega
  |k+1=>have:=aKk l (i+1) h.2 k o (by simpa using a) e b c;omega
section
variable {P:Program} {ops:Array gz} {Q:Exit->Act->ae->Prop}
def EY(P:Program)(ops:Array gz)(Q:Exit->Act->ae->Prop)(G:St->Act->ae->Prop)(c:Nat->gz->M):Prop:=
 ∀ i o s a w b,ops[i]?=some o->G s a w->(c i o).run none s=some b->(∀ p∈b.conds,p) ->
  ∀ K:Act->ae->Prop,(∀ e d,G (app o.dst b s) e d->K e d)->wpOp P ops Q i K a w
def Finds(G:St->Act->ae->Prop):Prop:=∀ s b a w,(∀ t,find s.t t=find b.t t)->(∀ x,find s.o x=find b.o x)->G s a w->G b a w
theorem vI{G:St->Act->ae->Prop}{c:Nat->gz->M}(f:EY P ops Q G c) :
  ∀ (l:List gz) (i:Nat) (s e:St) (b:List (Option Nat×Out)) (a:Act) (w:ae),(∀ k o,l[k]?=some o->ops[i+k]?=some o)->rW c i l s=some (b,e)->(∀ q∈b,∀ p∈q.2.conds,p)->G s a w ->
   (∀ j g,G e j g->Q .normal j g)->wpOps P ops Q (List.range' i l.length) a w
 |[],i,s,e,b,a,w,_,h,_,u,x=>by
  obtain⟨rfl,rfl⟩:[]=b/\s=e:=by simpa[rW] using h
  exact x a w u
 | o::l,i,s,e,b,a,w,hl,h,hc,u,x=>by
  unfold rW at h;cases m:(c i o).run none s with
  |none=>rw[m] at h;cases h| some out=>
   rw[m] at h;dsimp only at h;cases r:rW c (i+1) l (app o.dst out s) with
   |none=>rw[r] at h;cases h|some p=>obtain⟨d,B⟩:=p;rw[r] at h;cases h;rw[List.length_cons,List.range'_succ,wpOps_cons];refine f i o s a w out (by simpa using hl 0 o rfl) u m (fun p z=>hc _ Xv p z) _ (fun j g t=>?_);exact vI f l (i+1) _ e d j g (fun k y A=>by rw[YM,YW 1];exact hl (k+1) y (by simpa using A)) r (fun q n=>hc q (Y3 _ n)) t x
theorem aSy{G:St->Act->ae->Prop}{a0:Nat->gz->M}(c0:EY P ops Q G a0)(N:Finds G){y s':St}{outs:List (Option Nat×Out)}
  (a7:rW a0 0 ops.toList y=some (outs,s')) (hc:∀ q∈outs,∀ p∈q.2.conds,p) (hb:bOc .any ops.toList 0=true) (c5:aHi outs [] (masks .any ops.toList [])=true)
  (hQ:∀ a' w',G s' a' w'->Q .normal a' w') :
  ∀ (C:Nat) (b:Array Bool) (a:Act) (w:ae),b.size=ops.size->(b.toList.countP (·==false))<=C ->
   (∀ i o,ops[i]?=some o->b.getD i false=true->∀ e∈o.after,Region.binds .any e=true->b.getD e.on false=true) ->
   G (merge (fun i=>b.getD i false) 0 outs y) a w->wpAny P .any ops Q C b a w:=by
 obtain⟨b0,a6,c6⟩:=aPd _ _ _ _ _ a7;have c1:outs.length=ops.size:=by simpa using b0
 have a4:=aYg (md:=.any) (ops:=ops) ops.toList [] (fun i m H=>by simp at H) (fun k o hk=>by simpa using hk)
 have Y:∀ (b:Array Bool),(∀ i o,ops[i]?=some o->b.getD i false=true->∀ e∈o.after,Region.binds .any e=true->b.getD e.on false=true)->∀ i k,Oe .any ops i k->b.getD i false=true->b.getD k false=true:=by
  intro b S i k h
  induction h with
  |edge K X hb=>intro H;exact S _ _ K H _ X hb|trans _ _ a1 b5=>intro H;exact b5 (a1 H)
 have a5:∀ (b:Array Bool) (i:Nat),(∀ i o,ops[i]?=some o->b.getD i false=true->∀ e∈o.after,Region.binds .any e=true->b.getD e.on false=true)->(∀ o,ops[i]?=some o->∀ e∈o.after,Region.binds .any e=true->b.getD e.on false=true)->∀ k,Oe .any ops i k->b.getD k false=true:=by
  intro b i S H k h
  induction h with
  |edge K X hb=>exact H _ K _ X hb|trans U h2 a1 _=>exact Y b S _ _ h2 (a1 H)
 have I:∀ j k q p,j<k->outs[j]?=some q->outs[k]?=some p->clash q p=true->Oe .any ops k j:=by intro j k q p c3 hq hp h;obtain⟨m,U,h2⟩:=aDb outs [] _ c5 (fun j q c=>by simp at c) j k p q c3 (by simpa using hq) (by simpa using hp) ay h;exact a4 k m (by simpa using U) j h2
 have O:∀ (b:Array Bool) (a:Act) (w:ae),b.size=ops.size->Region.ready .any ops b=[]->G (merge (fun i=>b.getD i false) 0 outs y) a w->Q .normal a w:=by
  intro b a w E hr hg
  have Z:∀ n i,i<n->i<ops.size->b.getD i false=true:=by
   intro n
   induction n with
   |zero=>intro i H;omega| succ n ih=>
    intro i H b1;cases L:b.getD i false with
    |true=>rfl| false=>
     have:i∈Region.ready .any ops b:=mem_ready.2 ⟨by
      rw[YR] at L ⊢;rw[Yj a_] at L ⊢
      exact L,ops[i],Yj b1,fun e X T=>?_⟩
     rw[hr] at this;cases this;have:=aKk ops.toList 0 hb i ops[i] (by simp[b1]) e X T;exact ih e.on a_ a_
  refine hQ a w (N _ _ a w (fun t=>?_) (fun x=>?_) hg);rw[a6]
  exact aGa outs 0 y y rfl (fun j p c _=>by
   have:j<outs.length:=(List.getElem?_eq_some_iff.1 c).1
   exact Z (0+j+1) (0+j) a_ a_)
  rw[a6]
  exact aGd outs 0 y y rfl (fun j p c _=>by
   have:j<outs.length:=(List.getElem?_eq_some_iff.1 c).1
   exact Z (0+j+1) (0+j) a_ a_)
 intro C
 induction C with
 | zero=>
  intro b a w E b4 f hg
  have hr:Region.ready .any ops b=[]:=by
   cases b6:Region.ready .any ops b with
   |nil=>rfl| cons i l=>
    have H:i∈Region.ready .any ops b:=by rw[b6];exact Xv
    obtain⟨U,o,K,_⟩:=mem_ready.1 H;have F:i<b.size:=by rw[E];exact (Array.getElem?_eq_some_iff.1 K).1
    have:false∈b.toList:=by rw[YR,Yj F] at U;have c7:b[i]=false:=U;rw[<-c7];simp
    have:=(List.countP_pos_iff (p:=(·==false))).2 ⟨false,this,rfl⟩;omega
  exact⟨hr,O b a w E hr hg⟩
 | succ C ih=>
  intro b a w E b4 f hg;refine⟨fun hr=>O b a w E hr hg,fun i H=>?_⟩;obtain⟨U,o,K,V⟩:=mem_ready.1 H;have F:i<b.size:=by rw[E];exact (Array.getElem?_eq_some_iff.1 K).1
  have d:b.getD i false=false:=by rw[YR] at U ⊢;rw[Yj F] at U ⊢;exact U
  obtain⟨z,r,a8⟩:=c6 i o (by simpa using K);rw[lL] at a8;have a3:=a5 b i f (fun o' a9=>by rw[K] at a9;cases a9;exact V);have B:∀ j q,outs[j]?=some q->clash q (o.dst,z)=true->j<i->b.getD j false=true:=fun j q c hc s=>a3 j (I j i q _ s c r hc)
  have g:∀ j q,outs[j]?=some q->clash (o.dst,z) q=true->i<j->b.getD j false=false:=fun j q c hc u=>by
   cases L:b.getD j false with
   |false=>rfl|true=>have:=Y b f j i (I i j _ q u r c hc) L;rw[d] at this;cases this
  have a2:(a0 i o).run none (merge (fun j=>b.getD j false) 0 outs y)=some z:=by
   refine M.frame _ _ _ _ _ a8 (fun t ht=>?_) (fun x hx=>?_);refine aGa outs 0 y y rfl (fun j q c D=>?_);rw[lL];have J:t∈q.1.toList:=by unfold FV at D;rw[D];simp
   rcases aET j i with h|h|h;rw[decide_eq_true h];exact B j q c (by unfold clash;simp[Zi J ht]) h;subst h;rw[d];simp;rw[decide_eq_false a_];exact g j q c (by unfold clash;simp[Zi ht J]) h;refine aGd outs 0 y y rfl (fun j q c D=>?_);rw[lL];obtain⟨pw,b7,rfl⟩:=D;have J:pw.1∈q.2.wr.map (·.1):=List.mem_map.2 ⟨pw,b7,rfl⟩;rcases aET j i with h|h|h;rw[decide_eq_true h];exact B j q c (by unfold clash;simp[Zi J hx]) h;subst h;rw[d];simp;rw[decide_eq_false a_];exact g j q c (by unfold clash;simp[Zi hx J]) h
  refine c0 i o _ a w z K hg a2 (hc _ (Yy r)) _ (fun a' w' c4=>?_);have W:∀ j,(b.setIfInBounds i true).getD j false=(if j=i then true else b.getD j false):=fun j=>by rw[YR,YR,Array.getElem?_setIfInBounds];by_cases u:i=j;subst u;simp[F];rw[if_neg u,if_neg (fun e=>u e.symm)]
  refine ih _ a' w' (by simpa using E) ?_ (fun j oj c L e X T=>?_) ?_
  ·have:b.toList.countP (·==false)=(b.setIfInBounds i true).toList.countP (·==false)+1:=by
    have L:b.toList=b.toList.take i++(false::b.toList.drop (i+1)):=by
     have hx:b.toList[i]'(by simpa using F)=false:=by rw[YR,Yj F] at d;simpa using d
     rw[<-hx,List.getElem_cons_drop,List.take_append_drop]
    have c2:(b.setIfInBounds i true).toList=b.toList.take i++(true::b.toList.drop (i+1)):=by rw[Array.toList_setIfInBounds,List.set_eq_take_append_cons_drop,if_pos (by simpa using F)]
    rw[c2]
    conv=>lhs;rw[L]
    simp only[List.countP_append,List.countP_cons];simp;omega
   omega
  rw[W] at L ⊢;by_cases b3:e.on=i;rw[if_pos b3];rw[if_neg b3];by_cases s:j=i;subst s;rw[K] at c;cases c;exact V e X T;rw[if_neg s] at L;exact f j oj c L e X T;have b2:(fun j=>(b.setIfInBounds i true).getD j false)=fun j=>if j=0+i then true else b.getD j false:=funext fun j=>by rw[W,lL]
  rw[b2];refine N _ _ a' w' (fun t=>?_) (fun x=>?_) c4;by_cases D:FV o.dst t;refine aGb outs 0 i y o.dst z r D (fun j q c u A=>?_);rw[lL];have m1:t∈o.dst.toList:=by unfold FV at D;rw[D];simp
  have m2:t∈q.1.toList:=by unfold FV at A;rw[A];simp
  exact g j q c (by unfold clash;simp[Zi m1 m2]) u;rw[aSn D];refine aGa outs 0 y y rfl (fun j q c A=>?_);rw[lL,lL];by_cases s:j=i;subst s;rw[r] at c;cases c;exact absurd A D;rw[if_neg s];by_cases D:UQ z x;refine aGc outs 0 i y o.dst z r D (fun j q c u A=>?_);rw[lL];obtain⟨p1,b9,e1⟩:=D;obtain⟨p2,b8,e2⟩:=A;have m1:x∈z.wr.map (·.1):=List.mem_map.2 ⟨p1,b9,e1⟩;have m2:x∈q.2.wr.map (·.1):=List.mem_map.2 ⟨p2,b8,e2⟩;exact g j q c (by unfold clash;simp[Zi m1 m2]) u;rw[aSp D];refine aGd outs 0 y y rfl (fun j q c A=>?_);rw[lL,lL];by_cases s:j=i;subst s;rw[r] at c;cases c;exact absurd A D;rw[if_neg s]
def nI(a:Bool)(l:List gz)(outs:List (Option Nat×Out)):Bool:=match a with
 |true=>bOc .any l 0&&aHi outs [] (masks .any l [])|false=>true
theorem aOd{G:St->Act->ae->Prop}{g:Nat->gz->M}(h:EY P ops Q G g)(e:Finds G)(f:∀ s a w,G s a w->G s a w.drew)(m:P.follows .mixedOrders=true)
  {y:Nat} {b:Bool} {l s':St} {outs:List (Option Nat×Out)} (d:rW g 0 ops.toList l=some (outs,s')) (hc:∀ q∈outs,∀ p∈q.2.conds,p) (c:nI b ops.toList outs=true)
  {a:Act} {w:ae} (t:G l a w) (u:∀ x r,G s' x r->Q .normal x r):(Code.region y ops b).wp P Q a w:=by
 cases b with
 |false=>refine wp_region ?_;have:=vI h ops.toList 0 l s' outs a w (fun k o z=>by simpa using z) d hc t u;rwa [<-List.range_eq_range',mf] at this| true=>
  unfold nI at c;rw[PP] at c;refine wp_region_any m ?_;refine aSy h e d hc c.1 c.2 u ops.size _ a _ ay (by simp;exact mr List.countP_le_length ay) (fun i o A n=>?_) ?_
  ·rw[YR,aGF] at n
   split at n<;>cases n
  ·rw[sG _ _ _ _ (fun j _=>by
    rw[YR,aGF]
    split<;>rfl)]
   exact f _ _ _ t
end
end Pv
namespace Pv
def gT:Option Bool->Prop
 |none=>True|some b=>b=true
def hblk:ag->Option Nat
 |.pointer (some a)=>some a.block|.slice (some a) _ _=>some a.block|_=>none
def Eg:Nat:=1000000
def D7(w:ae)(e n:Nat)(v:ag)(len:Nat)(xs:List ag):Prop:=
 xs.length=len*n/\((v=.slice none 0 0/\len=0)\/∃ g cap cur t b,v=.slice (some ⟨g,0,none⟩) len cap/\w.heap[g]?=some (.cells cur t b) /\
  ((t=e/\b=(0,0))\/(XN e Eg=false/\cur.size<=b.1))/\len<=cap/\cap<=maxLen/\cur.size=cap*n/\cur.toList.take (len*n)=xs)
section
variable {w:ae} {e n len:Nat} {v:ag} {xs:List ag}
theorem yU{B:Nat}(h:w.ownsRow B e n v len xs):D7 w e n v len xs:=⟨h.1,h.2.imp id (fun⟨g,cap,cur,d,_,c,b⟩=>⟨g,cap,cur,e,(0,0),d,c,.inl ⟨rfl,rfl⟩,b⟩)⟩
theorem D7.plain(h:D7 w e n v len xs)(c:XN e Eg=true):w.ownsRow 0 e n v len xs:=by refine⟨h.1,h.2.imp id ?_⟩;rintro⟨g,cap,cur,t,j,i,f,b|b,d⟩;obtain⟨rfl,rfl⟩:=b;exact⟨g,cap,cur,i,x8 _,f,d⟩;rw[c] at b;cases b.1
theorem D7.range{g n0 k:Nat}(h:D7 w e n (.slice (some ⟨g,0,none⟩) n0 k) len xs):w.rangeAt g 0 xs:=fun j u c=>by
 rcases h.2 with⟨d,_⟩|⟨l,cap,cur,t,i,d,f,_,_,_,_,b⟩;cases d;cases d;rw[lL,cell_of_row w g j cur t i f];rw[<-b,List.getElem?_take] at c
 split at c;simpa using c;cases c
theorem Reads.yh(h:D7 w e n v len xs):Reads w n v len xs:=by
 refine⟨h.1,?_⟩;rcases h.2 with⟨rfl,rfl⟩|⟨g,cap,cur,t,l,rfl,k,_,c,d,i,b⟩
 exact⟨none,0,rfl,dE _,x8 _,fun h=>absurd h a_⟩;refine⟨_,cap,rfl,c,d,fun _=>⟨g,0,rfl,fun j u f=>?_⟩⟩;exact h.range j u f
end
def EW(C:Ctx)(hd:ag):qm->Prop
 |.box t l=>∃ g c,hd=jM g/\dh C.w g t c/\RL C l c.toList|.arr e n len f=>∃ b,D7 C.w e n hd len b/\∀ i,i<len->RL C (f i) ((b.drop (i*n)).take n)|.dead=>True|.dev _ _ _=>True
structure Dv where
 hd:ag
 O:List Acc->Option jh
 S:Nat->Prop
 inv:List Acc->(Nat->Prop)->ae->Prop
 pan:List Acc->(Nat->Prop)->ae->List PanicEntry->Prop
 one:hd.oneCell'=true
 x_:hblk hd=none
 notS:∀ l X w b,inv l X w->X b->¬S b
 grow:∀ l X Y w w',inv l X w->dm X w w'->(∀ b,Y b->X b\/(w.heap.size<=b/\b<w'.heap.size))->inv l Y w'
def Dv.non:Dv:=⟨.bool false,fun _=>none,Non,fun _ _ _=>False,fun _ _ _ _=>False,rfl,rfl,fun _ _ _ _ h=>h.elim,fun _ _ _ _ _ h=>h.elim⟩
structure n_ where
 w0:ae
 S:Nat->Prop
 ok0:Nat->Prop
 nt:Nat
 ext:Nat->Option ag
 dv:Dv
 dw:List Acc->Prop
 X0:Nat->Prop
 ds:List Deferred
def n_.plain(w:ae)(ok0:Nat->Prop)(b:Nat):n_:=⟨w,Non,ok0,b,fun _=>none,Dv.non,fun _=>False,Non,[]⟩
abbrev Env:=Nat->Option (Nat×ag)
def aT(A:n_)(w:ae)(env:Env):Ctx:={ w,ok:=fun b=>(A.ok0 b\/A.w0.heap.size<=b)/\∀ x c d,env x=some (c,d)->hblk d≠some b,env }
def ownB(A:n_)(env:Env)(b:Nat):Prop:=A.X0 b\/∃ x c d,env x=some (c,d)/\hblk d=some b
structure gu(A:n_)(s:St)(a:Act)(w:ae)(env:Env):Prop where
 gy:dm A.S A.w0 w
 size:a.tmps.size=A.nt
 dom:∀ x,find s.o x=none->env x=none
 l9:∀ x g jm o,find s.o x=some (g,jm,o)->∃ hd,env x=some (jm,hd)/\(gT g->EW (aT A w env) hd o)
 live:∀ x jm hd b,env x=some (jm,hd)->hblk hd=some b->b<w.heap.size/\(A.w0.heap.size<=b\/A.S b/\Nat.ble dx x=true)
 inj:∀ x y v1 h1 v2 h2 b,env x=some (v1,h1)->env y=some (v2,h2)->hblk h1=some b->hblk h2=some b->x=y
 tmps:∀ t g pv,find s.t t=some (g,pv)->gT g->∃ v,a.tmps[t]?=some v/\RV (aT A w env) pv v
 defers:a.defers=A.ds
 und:∀ t pv,find s.t t=some (some false,pv)->a.tmps[t]?=some undef
 oq:∀ x hd,A.ext x=some hd->Nat.ble dx x=true/\At (aT A w env) x 0 (fun hd'=>hd'=hd)
 dev:∀ g jm O dw l,find s.o dx=some (g,jm,.dev O dw l)->gT g->O=A.dv.O/\dw=A.dw/\A.dv.inv l (ownB A env) w
def qh(A:n_)(s:St)(a:Act)(w:ae):Prop:=∃ env,gu A s a w env
theorem EW.Am{C p:Ctx}{hd:ag}{o:qm}(h:EW C hd o)(d:C.Le p)(hb:∀ b,hblk hd=some b->b<C.w.heap.size->p.w.heap[b]?=C.w.heap[b]?):EW p hd o:=by
 cases o with
 |dead=>trivial|dev O dw l=>trivial|box t l=>obtain⟨g,y,rfl,k,m⟩:=h;exact⟨g,y,rfl,(hb g rfl k.lt).trans k,m.le d⟩
 |arr e n len f=>obtain⟨q,k,m⟩:=h;refine⟨q,⟨k.1,?_⟩,fun i u=>(m i u).le d⟩;rcases k.2 with r|⟨g,cap,cur,t,x,rfl,j,c⟩;exact .inl r;exact .inr ⟨g,cap,cur,t,x,rfl,(hb g rfl (lt_of_heap j)).trans j,c⟩
section
variable {A:n_} {s:St} {a:Act} {w w':ae} {env:Env}
theorem bJw(d:Ext w w'):(aT A w env).Le (aT A w' env):=⟨d.size',fun b i f=>⟨f,d.block b i (fun h=>h)⟩,fun _ c g h=>⟨c,g,h,dE _,fun _=>rfl⟩⟩
theorem gu.ext(h:gu A s a w env)(he:Ext w w'):gu A s a w' env where
 gy:=h.gy.ext he
 size:=h.size
 dom:=h.dom
 l9:=fun x g jm o hf=>by
  obtain⟨hd,h1,h2⟩:=h.l9 x g jm o hf
  exact⟨hd,h1,fun hg=>(h2 hg).Am (bJw he) (fun b _ hlt=>he.block b hlt (fun h=>h))⟩
 live:=fun x jm hd b h1 h2=>⟨Y1 (h.live x jm hd b h1 h2).1 he.size',(h.live x jm hd b h1 h2).2⟩
 inj:=h.inj
 tmps:=fun t g pv hf hg=>let ⟨v,h1,h2⟩:=h.tmps t g pv hf hg;⟨v,h1,h2.le (bJw he)⟩
 defers:=h.defers
 und:=h.und
 oq:=fun x hd hx=>⟨(h.oq x hd hx).1,(h.oq x hd hx).2.le (bJw he)⟩
 dev:=fun g jm O dw l hf hg=>let ⟨h1,h2,h3⟩:=h.dev g jm O dw l hf hg;⟨h1,h2,A.dv.grow _ _ _ _ _ h3 (Ext.gy he) (fun _ h=>.inl h)⟩
theorem qh.drew(h:qh A s a w):qh A s a w.drew:=let ⟨env,h⟩:=h;⟨env,h.ext (Ext.refl w).drew⟩
theorem aRh(A:n_):Finds (qh A):=fun _ _ _ _ f d ⟨env,h⟩=>⟨env,{
 gy:=h.gy,size:=h.size,dom:=fun x i=>h.dom x ((d x).trans i),l9:=fun x g b o c=>h.l9 x g b o ((d x).trans c),live:=h.live,inj:=h.inj
 tmps:=fun t g pv c=>h.tmps t g pv ((f t).trans c),defers:=h.defers,und:=fun t pv c=>h.und t pv ((f t).trans c),oq:=h.oq,dev:=fun g b O dw l c=>h.dev g b O dw l ((d dx).trans c) }⟩
def Ik(d:Option Nat)(g:Option Bool)(pv:PV)(s:St):St:={ t:=(match d with|some d=>(d,g,pv)::s.t|none=>s.t),o:=s.o }
theorem gu.put(h:gu A s a w env)(d:Option Nat)(g:Option Bool)(pv:PV)(v:ag)(hd:∀ t,d=some t->t<A.nt)(m:gT g->RV (aT A w env) pv v)(o:g=some false->v=undef) :
  gu A (Ik d g pv s) (a.put d v) w env:=by
 cases d with
 |none=>exact { h with }
 |some d=>refine { gy:=h.gy,size:=by simpa[Act.put] using h.size,dom:=h.dom,l9:=h.l9,live:=h.live,inj:=h.inj,tmps:=fun t k b f j=>?_,defers:=h.defers,und:=fun t b f=>?_,oq:=h.oq,dev:=h.dev };have f:find ((d,g,pv)::s.t) t=some (k,b):=f;by_cases i:d=t;subst i;rw[aK] at f;cases f;refine⟨v,?_,m j⟩;have:=hd d rfl;simp[Act.put,h.size,this];rw[aN _ _ i] at f;obtain⟨l,q,p⟩:=h.tmps t k b f j;exact⟨l,by simp only[Act.put];rw[aGI i];exact q,p⟩;have c:find ((d,g,pv)::s.t) t=some (some false,b):=f;by_cases i:d=t;subst i;rw[aK] at c;cases c;have:=hd d rfl;rw[o rfl];simp[Act.put,h.size,this];rw[aN _ _ i] at c;simp only[Act.put];rw[aGI i];exact h.und t b c
def yt(env:Env)(x jm:Nat)(hd:ag):Env:=fun y=>if y=x then some (jm,hd) else env y
theorem iR(env:Env)(x jm:Nat)(hd:ag):yt env x jm hd x=some (jm,hd):=if_pos rfl
theorem kP{env:Env}{x jm:Nat}{hd:ag}{y:Nat}(h:y≠x):yt env x jm hd y=env y:=if_neg h
theorem gu.upd(h:gu A s a w env)(x:Nat)(g':Option Bool)(j:Nat)(q:ag)(V:qm)
  (Q:dm (fun k=>∃ c m,env x=some (c,m)/\hblk m=some k) w w')
  (hv:∀ c m,env x=some (c,m)->c<j\/(c=j/\q=m))
  (hb:∀ b,hblk q=some b->b<w'.heap.size/\(w.heap.size<=b\/∃ c m,env x=some (c,m)/\hblk m=some b))
  (ho:(aT A w env).Le (aT A w' (yt env x j q))->gT g'->EW (aT A w' (yt env x j q)) q V)
  (W:gT g'->∀ O dw l,V=.dev O dw l->O=A.dv.O/\dw=A.dw/\A.dv.inv l (ownB A (yt env x j q)) w':=by intro _ _ _ _ h;cases h) :
  gu A { s with o:=(x,g',j,V)::s.o } a w' (yt env x j q)/\(aT A w env).Le (aT A w' (yt env x j q)):=by
 have F:(aT A w env).Le (aT A w' (yt env x j q)):=by
  refine⟨Q.size,fun b K J=>⟨⟨J.1,fun y c m f=>?_⟩,?_⟩,fun y c m f=>?_⟩;by_cases d:y=x;subst d;change yt env y j q y=some (c,m) at f;rw[iR] at f;cases f;intro e;rcases (hb b e).2 with p|⟨c,m,p,r⟩;have:b<w.heap.size:=K;omega;exact J.2 y c m p r;rw[kP d] at f;exact J.2 y c m f;exact Q.block b K (fun⟨c,m,p,r⟩=>J.2 x c m p r)
  ·by_cases d:y=x
   ·subst d;refine⟨j,q,iR _ _ _ _,?_,fun e=>?_⟩
    ·rcases hv c m f with p|⟨p,_⟩<;>omega
    rcases hv c m f with p|⟨_,r⟩;omega;exact r
   exact⟨c,m,(kP d).trans f,dE _,fun _=>rfl⟩
 refine⟨?_,F⟩;refine { gy:=?_,size:=h.size,dom:=fun y f=>?_,l9:=fun y g c o G=>?_,live:=fun y c m b f D=>?_,inj:=fun y z N p U r b f P E H=>?_,tmps:=fun t g pv G S=>?_,defers:=h.defers,und:=h.und,oq:=fun y m f=>⟨(h.oq y m f).1,(h.oq y m f).2.le F⟩,dev:=fun g c O dw l G S=>?_ };refine h.gy.trans' Q (fun _ _ h=>h) (fun i hi ⟨c,m,p,r⟩=>?_);rcases (h.live x c m i p r).2 with L|L;omega;exact L.1
 by_cases d:x=y;subst d;rw[aK] at f;cases f;rw[aN _ _ d] at f;rw[kP (Ne.symm d)];exact h.dom y f;by_cases d:x=y;subst d;rw[aK] at G;cases G;exact⟨q,iR _ _ _ _,ho F⟩;rw[aN _ _ d] at G;obtain⟨m,p,r⟩:=h.l9 y g c o G;refine⟨m,(kP (Ne.symm d)).trans p,fun S=>(r S).Am F (fun b D K=>Q.block b K (fun⟨u,B,L,I⟩=>d (h.inj x y u B c m b L p I D)))⟩;by_cases d:y=x;subst d;rw[iR] at f;cases f;refine⟨(hb b D).1,?_⟩;rcases (hb b D).2 with p|⟨u,B,p,r⟩;exact .inl (mr h.gy.size p);exact (h.live y u B b p r).2;rw[kP d] at f
 exact⟨Y1 (h.live y c m b f D).1 Q.size,(h.live y c m b f D).2⟩;have T:∀ y N p,y≠x->env y=some (N,p)->hblk p=some b->hblk q=some b->False:=by intro y N p d f E H;rcases (hb b H).2 with L|⟨u,B,L,I⟩;have:=(h.live y N p b f E).1;omega;exact d (h.inj y x N p u B b f L E I)
 by_cases d:y=x;by_cases C:z=x;rw[d,C];subst d;rw[iR] at f;rw[kP C] at P;cases f;exact (T z U r C P H E).elim;by_cases C:z=x;subst C;rw[iR] at P;rw[kP d] at f;cases P;exact (T y N p d f E H).elim;rw[kP d] at f;rw[kP C] at P;exact h.inj y z N p U r b f P E H;obtain⟨v,p,r⟩:=h.tmps t g pv G S;exact⟨v,p,r.le F⟩;by_cases d:x=dx;subst d;rw[aK] at G;cases G;exact W S O dw l rfl;rw[aN _ _ d] at G;obtain⟨p,r,L⟩:=h.dev g c O dw l G S;refine⟨p,r,A.dv.grow _ _ _ _ _ L (Q.mono fun k _ ⟨c,m,e1,e2⟩=>.inr ⟨x,c,m,e1,e2⟩) (fun b Y=>?_)⟩;rcases Y with I|⟨y,U,B,I,h5⟩;exact .inl (.inl I)
 by_cases f:y=x;subst f;rw[iR] at I;cases I;rcases (hb b h5).2 with Z|⟨v3,X,Z,h7⟩;exact .inr ⟨Z,(hb b h5).1⟩;exact .inl (.inr ⟨y,v3,X,Z,h7⟩);rw[kP f] at I;exact .inl (.inr ⟨y,U,B,I,h5⟩)
theorem gu.new(h:gu A s a w env)(x:Nat)(j:Option Bool)(c:ag)(f:qm)(u:Ext w w')(hb:∀ b,hblk c=some b->b<w'.heap.size/\w.heap.size<=b)
  (y:(aT A w env).Le (aT A w' (yt env x (fresh s x) c))->gT j->EW (aT A w' (yt env x (fresh s x) c)) c f)
  (k:gT j->∀ O dw l,f=.dev O dw l->O=A.dv.O/\dw=A.dw/\A.dv.inv l (ownB A (yt env x (fresh s x) c)) w':=by intro _ _ _ _ h;cases h) :
  gu A { s with o:=(x,j,fresh s x,f)::s.o } a w' (yt env x (fresh s x) c)/\(aT A w env).Le (aT A w' (yt env x (fresh s x) c)):=by
 refine h.upd x j (fresh s x) c f u.gy (fun r C i=>.inl ?_) (fun b d=>⟨(hb b d).1,.inl (hb b d).2⟩) y k;unfold fresh;cases m:find s.o x with
 |none=>rw[h.dom x m] at i;cases i|some p=>obtain⟨g,q,t⟩:=p;obtain⟨z,B,_⟩:=h.l9 x g q t m;rw[B] at i;cases i;exact Nat.lt_succ_self _
def appW(d:Option Nat)(g:Option Bool)(v:PV)(wr:List (Nat×Option Bool×Nat×qm))(s:St):St:=app d ⟨g,v,[],[],[],wr⟩ s
theorem M.QJ:∀ (m:M) (f:Option Bool) (s:St) (F G:Option Bool->PV->Wr->Prop),m.ok f s F->(∀ g v wr,F g v wr->G g v wr)->m.ok f s G:=by
 intro m
 induction m with
 |ret v=>intro f s F G h c;exact c _ _ _ h|fail=>intro f s F G h c;exact h|need p k d=>intro f s F G h c;exact⟨h.1,d _ _ _ _ h.2 c⟩|tmp t k d=>intro f s F G h c;obtain⟨g,v,j,h⟩:=h;exact⟨g,v,j,d _ _ _ _ _ _ h c⟩
 |obj x k d=>intro f s F G h c;obtain⟨g,l,i,j,h⟩:=h;exact⟨g,l,i,j,d _ _ _ _ _ _ _ h c⟩
 |new x i k d=>intro f s F G h c;exact d _ _ _ _ _ h (fun _ _ _ h=>c _ _ _ h)|upd x l i k d=>intro f s F G h c;exact⟨h.1,d _ _ _ _ h.2 (fun _ _ _ h=>c _ _ _ h)⟩|gate b k d=>intro f s F G h c;exact⟨h.1,d _ _ _ _ h.2 c⟩
theorem bCs:∀ (m:M) (s:St) (F:Option Bool->PV->Wr->Prop),m.ok (some false) s F->∃ v wr,F (some false) v wr/\∀ p∈wr,∃ d,p=(p.1,some false,fresh s p.1,d):=by
 intro m
 induction m with
 |ret v=>intro s F h;exact⟨v,[],h,fun p f=>by cases f⟩|fail=>intro s F h;exact h.elim|need p k c=>intro s F h;exact c s F h.2|tmp t k c=>intro s F h;obtain⟨g,v,_,h⟩:=h;exact c g v s F h
 |obj x k c=>intro s F h;obtain⟨g,i,d,_,h⟩:=h;exact c g i d s F h
 | new x d k c=>
  intro s F h;obtain⟨v,wr,l,j⟩:=c _ s _ h
  exact⟨v,_,l,fun p f=>by
   rcases List.mem_cons.1 f with rfl|f
   exact⟨d,rfl⟩
   exact j p f⟩
 |upd x i d k c=>intro s F h;cases h.1|gate b k c=>intro s F h;cases h.1
def xZ(wr:Wr):Wr:=wr.map fun p=>(p.1,some true,p.2.2)
theorem bKy:∀ (m:M) (s:St) (F:Option Bool->PV->Wr->Prop),m.ok (some true) s F->m.ok none s (fun g v wr=>g=none/\(∀ p∈wr,p.2.1=none)/\F (some true) v (xZ wr)):=by
 intro m
 induction m with
 |ret v=>intro s F h;exact⟨rfl,fun p d=>(by cases d),h⟩|fail=>intro s F h;exact h.elim|need p k c=>intro s F h;exact⟨h.1 rfl,c s F h.2⟩|tmp t k c=>intro s F h;obtain⟨g,v,j,h⟩:=h;exact⟨g,v,j,c g v s F h⟩
 |obj x k c=>intro s F h;obtain⟨g,i,f,j,h⟩:=h;exact⟨g,i,f,j,c g i f s F h⟩
 |new x f k c=>
  intro s F h;show (k (fresh s x)).ok none s _;refine M.QJ (k (fresh s x)) none s _ _ (c _ s _ h) (fun g v wr h=>⟨h.1,fun p d=>?_,h.2.2⟩);rcases List.mem_cons.1 d with rfl|d;rfl
  exact h.2.1 p d
 |upd x i f k c=>intro s F h;cases h.1|gate b k c=>intro s F h;cases h.1
theorem gu.aJF:∀ (wr:List (Nat×Option Bool×Nat×qm)) (s:St) (env:Env),gu A s a w env->(∀ p∈wr,∃ t,p=(p.1,some false,fresh s p.1,t))->∃ c,gu A { s with o:=wr++s.o } a w c:=by
 intro wr
 induction wr with
 |nil=>intro s env h _;exact⟨env,h⟩| cons p wr U=>
  intro s env h H;obtain⟨c,D⟩:=U s env h (fun q f=>H q (Y3 _ f));obtain⟨t,e⟩:=H p Xv;rw[e]
  have y:∀ d u,c p.1=some (d,u)->d<=fresh s p.1:=by
   intro d u i;cases B:find (wr++s.o) p.1 with
   |none=>rw[D.dom p.1 B] at i;cases i| some z=>
    obtain⟨g,P,T⟩:=z;obtain⟨j,C,_⟩:=D.l9 p.1 g P T B;rw[C] at i;cases i;by_cases x:∃ q∈wr,q.1=p.1
    have:∀ (l:List (Nat×Option Bool×Nat×qm)),(∀ q∈l,∃ t,q=(q.1,some false,fresh s q.1,t))->(∃ q∈l,q.1=p.1)->∀ z,find (l++s.o) p.1=some z->z.2.1=fresh s p.1:=by
     intro l
     induction l with
     |nil=>intro _ h;obtain⟨q,f,_⟩:=h;cases f
     |cons q l G=>
      intro L I z E;obtain⟨S,O⟩:=L q Xv;by_cases f:q.1=p.1;rw[We,O,f,aK] at E;cases E;rfl;rw[We,O,aN _ _ f] at E;refine G (fun q f=>L q (Y3 _ f)) ?_ z E;obtain⟨Q,k,N⟩:=I;rcases List.mem_cons.1 k with rfl|k;exact absurd N f
      exact⟨Q,k,N⟩
    have V:=this wr (fun q f=>H q (Y3 _ f)) x _ B;exact Nat.le_of_eq V;rw[oZ _ _ (fun q f e=>x ⟨q,f,e⟩)] at B;unfold fresh;rw[B];exact Nat.le_succ _
  have K:=y;by_cases J:∃ u,c p.1=some (fresh s p.1,u);obtain⟨u,m⟩:=J;exact⟨_,(D.upd p.1 (some false) (fresh s p.1) u t (dm.refl _ _) (fun d j i=>by rw[m] at i;cases i;exact .inr ⟨rfl,rfl⟩) (fun b F=>⟨(D.live _ _ _ _ m F).1,.inr ⟨_,_,m,F⟩⟩) (fun _ r=>absurd r (by simp[gT])) (fun r=>absurd r (by simp[gT]))).1⟩
  exact⟨_,(D.upd p.1 (some false) (fresh s p.1) undef t (dm.refl _ _) (fun d j i=>.inl (by
   have:=y d j i;rcases Nat.lt_or_eq_of_le this with C|C;exact C
   exact absurd ⟨j,by rw[i,C]⟩ J)) (fun b F=>by simp[hblk,undef] at F) (fun _ r=>absurd r (by simp[gT])) (fun r=>absurd r (by simp[gT]))).1⟩
theorem bDa(l r:List (Nat×Option Bool×Nat×qm))(x:Nat):find (xZ l++r) x=find (l++r) x\/∃ g q,find (l++r) x=some (g,q)/\find (xZ l++r) x=some (some true,q):=by
 induction l with
 |nil=>exact .inl rfl|cons p l c=>by_cases b:p.1=x;refine .inr ⟨p.2.1,p.2.2,?_,?_⟩;rw[<-b];exact aK _ _ _;rw[<-b];exact aK _ _ _;have f:find (p::l++r) x=find (l++r) x:=aN _ _ b;have d:find (xZ (p::l)++r) x=find (xZ l++r) x:=aN _ _ b;rw[f,d];exact c
theorem qh.aCO{d:Option Nat}{v:PV}{wr:Wr}(u:∀ p∈wr,p.2.1=none)(h:qh A (appW d none v wr s) a w):qh A (appW d (some true) v (xZ wr) s) a w:=by
 obtain⟨env,h⟩:=h
 have r:∀ (x:Nat) (g:Option Bool) (b:Nat) (o:qm) (l:Wr),(∀ p∈l,p.2.1=none)->find (xZ l++s.o) x=some (g,b,o)->find (l++s.o) x=some (g,b,o)\/(g=some true/\find (l++s.o) x=some (none,b,o)):=by
  intro x g b o l
  induction l with
  |nil=>intro _ m;exact .inl m|cons p l D=>
   intro B m;by_cases k:p.1=x;have j:find (xZ (p::l)++s.o) x=some (some true,p.2.2):=by rw[<-k];exact aK _ _ _
   have i:find (p::l++s.o) x=some p.2:=by rw[<-k];exact aK _ _ _
   rw[j] at m;rw[i];have C:=B p Xv;obtain⟨I,L,J,K⟩:=p;cases m;dsimp only at C;subst C;exact .inr ⟨rfl,rfl⟩;have j:find (xZ (p::l)++s.o) x=find (xZ l++s.o) x:=aN _ _ k;have i:find (p::l++s.o) x=find (l++s.o) x:=aN _ _ k;rw[j] at m;rw[i];exact D (fun q E=>B q (Y3 _ E)) m
 refine⟨env,{ gy:=h.gy,size:=h.size,dom:=fun x k=>?_,l9:=fun x g b o c=>?_,live:=h.live,inj:=h.inj,tmps:=fun t g pv c y=>?_,defers:=h.defers,und:=fun t pv c=>?_,oq:=h.oq,dev:=fun g b O dw l c y=>?_ }⟩;refine h.dom x ?_;rcases bDa wr s.o x with e|⟨g,q,_,i⟩;exact e.symm.trans k;have:find (xZ wr++s.o) x=none:=k;rw[i] at this;cases this;have z:find (xZ wr++s.o) x=some (g,b,o):=c;rcases r x g b o wr u z with e|⟨rfl,e⟩;exact h.l9 x g b o e;obtain⟨F,H,G⟩:=h.l9 x none b o e
 exact⟨F,H,fun _=>G trivial⟩;cases d with
 |none=>exact h.tmps t g pv c y|some d=>by_cases f:d=t;subst f;have j:find (appW (some d) (some true) v (xZ wr) s).t d=some (some true,v):=aK _ _ _;have i:find (appW (some d) none v wr s).t d=some (none,v):=aK _ _ _;rw[j] at c;cases c;exact h.tmps d none v i trivial;have j:find (appW (some d) (some true) v (xZ wr) s).t t=find s.t t:=aN _ _ f;have i:find (appW (some d) none v wr s).t t=find s.t t:=aN _ _ f;rw[j] at c;exact h.tmps t g pv (i.trans c) y
 cases d with
 |none=>exact h.und t pv c|some d=>by_cases f:d=t;subst f;have j:find (appW (some d) (some true) v (xZ wr) s).t d=some (some true,v):=aK _ _ _;rw[j] at c;cases c;have j:find (appW (some d) (some true) v (xZ wr) s).t t=find s.t t:=aN _ _ f;have i:find (appW (some d) none v wr s).t t=find s.t t:=aN _ _ f;rw[j] at c;exact h.und t pv (i.trans c)
 rcases r dx g b (.dev O dw l) wr u c with e|⟨rfl,e⟩;exact h.dev g b O dw l e y;exact h.dev none b O dw l e trivial
theorem gu.asked(h:gu A s a w env){O:List Acc->Option jh}{dw:List Acc->Prop}{l l':List Acc}{g:Option Bool}(E:find s.o dx=some (g,0,.dev O dw l))(C:gT g)(sub:∀ b,A.dv.S b->A.S b)(old:∀ b,A.dv.S b->b<A.w0.heap.size/\¬A.ok0 b)
  (r:dm A.dv.S w w') (J:A.dv.inv l' (ownB A env) w'):gu A { s with o:=(dx,none,0,.dev O dw l')::s.o } a w' env/\(aT A w env).Le (aT A w' env):=by
 obtain⟨L,u,B⟩:=h.dev g 0 O dw l E C
 have k:(aT A w env).Le (aT A w' env):=⟨r.size,fun b m z=>⟨z,r.block b m (fun D=>by
  rcases z.1 with i|i;exact (old b D).2 i
  have:=(old b D).1;omega)⟩,fun x c f p=>⟨c,f,p,dE _,fun _=>rfl⟩⟩
 refine⟨{ gy:=h.gy.trans (r.mono fun b _ D=>sub b D),size:=h.size,dom:=fun x p=>?_,l9:=fun x I c o d=>?_,live:=fun x c f b i q=>⟨Y1 (h.live x c f b i q).1 r.size,(h.live x c f b i q).2⟩,inj:=h.inj,tmps:=fun t g pv E C=>let ⟨v,i,q⟩:=h.tmps t g pv E C;⟨v,i,q.le k⟩,defers:=h.defers,und:=h.und,oq:=fun y f H=>⟨(h.oq y f H).1,(h.oq y f H).2.le k⟩,dev:=fun I c P G N d K=>?_ },k⟩;by_cases j:dx=x;subst j;rw[aK] at p;cases p;rw[aN _ _ j] at p;exact h.dom x p;by_cases j:dx=x;subst j;rw[aK] at d;cases d;obtain⟨f,i,_⟩:=h.l9 dx g 0 _ E;exact⟨f,i,fun _=>trivial⟩;rw[aN _ _ j] at d;obtain⟨f,i,q⟩:=h.l9 x I c o d;exact⟨f,i,fun C=>(q C).Am k (fun b F m=>r.block b m (A.dv.notS _ _ _ _ B (.inr ⟨x,c,f,i,F⟩)))⟩;rw[aK] at d;cases d;exact⟨L,u,J⟩
end
end Pv
end Go.Proofs.YtndpjopifkbgiaaGreatDoor
