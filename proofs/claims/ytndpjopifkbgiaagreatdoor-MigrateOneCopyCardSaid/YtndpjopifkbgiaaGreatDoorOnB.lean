/-
  Several texts in one file.
-/
import Derived.Test.YtndpjopifkbgiaaGreatDoorOnA
import Derived.Defers
import Derived.Deep.CutRange
import Derived.Deep.RegionHeld3
import Derived.ChangeKeysEq
import Derived.Lib.SlBytesConst
import Derived.Outline
import Derived.StillTailTactics
import Derived.BigRegion
import Derived.Deep.DeepCutAuto
import Derived.Laws.MakeOwn
import Derived.Orders
import Derived.Great.BuildSlice
set_option maxRecDepth 100000
set_option maxHeartbeats 4000000
namespace Go.Proofs.YtndpjopifkbgiaaGreatDoor
open Go.RowKit Tryz
open _root_.Nat renaming beq->bu,zero_add->ik,add_assoc->Yt,le_refl->dC,lt_of_lt_of_le->YX,add_comm->ZB,mul_le_mul_right->Ym,add_zero->ZA,lt_trichotomy->aFB,min_eq_left->aAs,blt->Hm,sub_self->Yf,le_trans->PP,zero_le->xn,one_mul->ZH,add_mul->Yd,ble->ZC
open _root_.Array renaming getD_eq_getD_getElem?->Yw,length_toList->uA,getElem?_eq_getElem->ZR,replicate->IR,getElem?_setIfInBounds_ne->aGU,getElem?_replicate->aGT
open _root_.List renaming length_append->gp,getElem?_take->x8,mem_cons_of_mem->VM,getElem?_append_right->Ye,length_take->xe,take_of_length_le->YY,mem_cons_self->MM,append_assoc->Pi,getElem?_drop->YN,cons_append->yz,getElem?_append_left->YW,length_map->YU,length_zipWith->aAF,drop_of_length_le->aAE,take_append_drop->ZZ,ext_getElem?->YZ,drop_zero->Yh,zipWith->Z7,length_drop->YO,drop_append->aFA,nil_append->Ha,getElem?_map->XN,ext_getElem->Z9,getElem_range->ZI,getElem?_set->aBp,take_append->aBM,length_cons->zl,getElem_map->ZU,getElem?_cons_zero->Yv,singleton_append->aAT,mem_of_getElem?->ZO,getElem?_append->aGJ,size_toArray->Yx,length_nil->Yg,replicate->PR,mem_range->aFN,drop_drop->aAV,range->AC
open _root_.Go renaming TypeId->bi,Value->ag,World->ae,wpAnyH_take->Yn,Operand->lL,Oper->df,wpAny_ready->Yi,Program->dE,maxLen->uk,undef->bz,run_underlying->xy,Calls->mf
open _root_.And renaming intro->az
open _root_.UInt8 renaming ofNat->uB,toNat_ofNat_of_lt'->aGK
open _root_.Go.Value renaming string->aAC,int->ed
open _root_.Bool renaming and_eq_true->ww,or_eq_true->aAR,eq_iff_iff->aFf
section
def aTo:l9:={ data:=#[97,117,116,104,101,110,116,105,99,97,116,101] }
def bGc:l9:={ data:=#[101,110,99,114,121,112,116] }
def Ai(b:dh)(a:Int)(c:dh):dh:=LG (nH b aTo.data.toList []) (eu a++bH c)
theorem jV(b:dh)(a:Int)(c:dh):(Ai b a c).length=16:=rC _ _
theorem bCh(b:dh)(a:Int)(c:l9)(w:ae)(hM:af w)(hk:b.length=16)(h1:-9223372036854775808<=a)(h2:a<9223372036854775808)(hc:c.size<=100000) :
    mf prog 104 #[.agg (b.map jk).toArray,.int .i64 a,.string c] w fun e w'=>e=.returned (.agg ((Ai b a c.data.toList).map jk).toArray)/\Ext w w':=by
  obtain⟨A,g⟩:∃ r,(b.map jk).toArray=r:=⟨_,rfl⟩;obtain⟨z,l⟩:∃ d,nH b aTo.data.toList []=d:=⟨_,rfl⟩;obtain⟨k,f⟩:∃ d,Ai b a c.data.toList=d:=⟨_,rfl⟩;have G:z.length=16:=by rw[<-l];exact jC _ _ _
  have HM:=hide hM;have Z:=hide (fun w=>wH a w h1 h2);have Y:=hide (fun w=>wI c w a_);have HB:=hide (show (eu a).length<=10/\(bH c.data.toList).length<=10+c.size from⟨aQ _,jU c.data.toList⟩);have HR:=hide f;have HD:=hide l;have HA:=hide g;rw[g,f];clear g l f hM h1 h2;have a1:A.size=16:=by rw[<-aA HA];simpa using hk
  go_enter func104,ntmps104
  go_wp2_with fail
  refine (aBq b _ aTo [] _ _ ((aA HM).ext (((Ext.refl w).alloc _).alloc _)) ?_ a_ g_ (Parts.nil _) b_ (fun p hp=>by cases hp)).mono ?_;have:=Reads.A_ ((f_.new w 23 A).alloc (.cells (IR 16 (.int .u8 0)) 23)) (i:=0) (n:=16) (c:=16) a_ a_ (by unfold uk;omega);rw[<-aA HA] at this;simp only[Yh] at this;rw[YY (by rw[YU];omega),aA HA] at this;rw[hk];exact this;rintro e C ⟨rfl,j⟩;rw[aA HD];have U:=hide (show Ext w C/\f_ C (w.heap.size+1) 23 (IR 16 (.int .u8 0))/\w.heap.size+2<=C.heap.size from⟨(((Ext.refl w).alloc _).alloc _).trans j,(f_.new' (w.alloc (.cells A 23)) _ _ b_).ext j,by have:=j.size';simp at this;omega⟩);clear j;have HS:=hide (show ((z.map jk).toArray).size=16 from by simpa using G)
  go_wp2_with (refine aV (ty:=23) (t:=23) (x:=.tmp 7) (y:=.tmp 9) rfl rfl dL rfl rfl (f_.new C _ _) rfl (aA HS) (fU _) ?_;intro B N m W;have T:=hide (show f_ B C.heap.size 23 ((z.map jk).toArray)/\Ext w B/\f_ B (w.heap.size+1) 23 (IR 16 (.int .u8 0)) from⟨N,((aA U).1.alloc _).trans' m (fun _ _ h=>h) (fun i hi e=>by have:=(aA U).2.2;omega),((aA U).2.1.alloc _).iq m (by have:=(aA U).2.2;omega)⟩);clear N m W)
  have HK:=hide (show Reads B 1 (.slice (some ⟨C.heap.size,0,none⟩) 16 16) z.length (z.map jk) from by
    have:=Reads.A_ (aA T).1 (i:=0) (n:=16) (c:=16) (by rw[aA HS];omega) a_ (by unfold uk;omega);simp only[Yh] at this;rw[YY (by rw[YU];omega)] at this;rw[G]
    exact this)
  have a0:=hide (show LG z (eu a++bH c.data.toList)=k from by rw[<-aA HR,<-aA HD];rfl);have O:=hide (show ((k.map jk).toArray).size=16 from by rw[<-aA HR];simpa using jV _ _ _);have hB:=hide (show (eu a).length+(bH c.data.toList).length<=1000000 from by have:=aA HB;omega)
  go_region_law (first
    |(refine IV (s:=.tmp 12) (x:=.tmp 14) rfl rfl kW rfl (eG (aA S).1 (aA Q).2.1) rfl (Reads.v_ (aA Q).1) (fG.u8 _) (by have:=aA hB;omega) (PP (aA S).2.2 (aA Q).2.2) ?_;intro A5 c5 w5 D I X;have P:=hide (show Reads w5 1 (.slice A5 ((eu a).length+(bH c.data.toList).length) c5) ((eu a).length+(bH c.data.toList).length) ((eu a).map jk++(bH c.data.toList).map jk)/\Ext B w5 from⟨Reads.v_ D,(((aA S).2.1.trans (aA Q).2.1)).trans' I (fun _ _ h=>h) (fun i hi e=>by have:=((aA S).1.lt i e).1;simp at this;omega)⟩);clear D I X)
    |(go_simp;go_at_call 107;refine (aA Z _).mono ?_;rintro e w3 ⟨A3,c3,rfl,F,u⟩;have S:=hide (az F (az (((Ext.refl B).drew).trans u) u.size'));clear F u)
    |(go_simp;go_at_call 145;refine (aA Y _).mono ?_;rintro e w4 ⟨A4,c4,rfl,E,q⟩;have Q:=hide (az E (az q q.size'));clear E q)
    | (
     rename_i K hK;go_simp;go_at_call 146;refine (aTh z (eu a++bH c.data.toList) _ _ _ ((aA HM).ext ((aA T).2.1.trans (aA P).2)) ((aA HK).ext (aA P).2) ?_ a_ ?_).mono ?_
     (focus (rw[List.map_append,gp];exact (aA P).1))
     (focus (have:=aA hB;rw[gp];omega))
     rintro e w6 ⟨rfl,o⟩;rw[aA a0];have H6:=hide (show Ext w w6/\f_ w6 (w.heap.size+1) 23 (IR 16 (.int .u8 0)) from⟨((aA T).2.1.trans (aA P).2).trans o,(aA T).2.2.ext ((aA P).2.trans o)⟩);clear o;dsimp only;refine hK _ _ ?_;clear hK K;refine Yi (rs:=[7]) ah b_ (AllReady.cons rfl (fun J hJ=>?_) AllReady.nil);refine jW (ty:=23) (t:=23) (x:=.tmp 6) (y:=.tmp 16) rfl rfl dL rfl rfl (aA H6).2 ?_ ?_ ?_ ?_;rw[Array.size_replicate];exact aA O;exact fU _;intro w7 L H V;have H7:=hide (az L H);clear L H V;refine hJ _ _ ?_
     clear hJ J))
  go_wp2
  refine bodyPost_ret (v:=.agg ((k.map jk).toArray)) (gI dL rfl (aA H7).1 (aA O) rfl) rfl ⟨rfl,?_⟩;exact (aA H6).1.trans' (aA H7).2 (fun _ _ h=>h) (fun i hi e=>a_)
def keyS(b:dh)(a:Int):dh:=nH b bGc.data.toList [eu a]
def dW(b:dh)(a:Int)(s:dh):dh:=Z7 (· ^^^ ·) s (jG (keyS b a) s.length)
def Bo(s x:dh)(k:Nat):dh:=(Z7 (· ^^^ ·) s x).take k++s.drop k
theorem bFj(s x:dh):Bo s x 0=s:=by unfold Bo;simp
theorem Ku(s x:dh)(h:x.length=s.length):Bo s x s.length=Z7 (· ^^^ ·) s x:=by unfold Bo;rw[List.drop_length,List.append_nil,YY (by rw[aAF];omega)]
theorem aTf(s x:dh)(k:Nat)(h:x.length=s.length)(a:k<=s.length):(Bo s x k).length=s.length:=by unfold Bo;rw[gp,xe,aAF,YO];omega
theorem Qv(s x:dh)(k:Nat)(h:x.length=s.length)(a:k<s.length):(Bo s x k)[k]?=some s[k]:=by unfold Bo;rw[Ye (by rw[xe];omega),xe,aAF,YN,show min k (min s.length x.length)=k from a_,Yf,ZA,zH a]
theorem bFk(s x:dh)(k:Nat)(h:x.length=s.length)(e:k<s.length):Bo s x (k+1)=(Bo s x k).set k (s[k] ^^^ x[k]):=by
 apply YZ;intro i;unfold Bo;rw[aBp];have c:((Z7 (· ^^^ ·) s x).take k).length=k:=by rw[xe,aAF];omega
 have a:((Z7 (· ^^^ ·) s x).take (k+1)).length=k+1:=by rw[xe,aAF];omega
 rw[aGJ,aGJ,c,a,gp,c,YO];by_cases b:i<k;rw[au a_,ay a_,au b,x8,x8,au a_,au b];by_cases d:k=i;subst d;rw[au a_,au rfl,au a_,x8,au a_,List.getElem?_zipWith,zH e,zH a_];rw[ay a_,ay d,ay b,YN,YN];congr 1;omega
theorem Xp(l:dh)(v o:ag)(b a:Nat)(u:FrameMode)(w:ae)(i:w.cell? ⟨b,0,none⟩=some v)(h6:w.cell? ⟨a,0,none⟩=some o)(j:w.frozen? ⟨a,0,none⟩=false)(hr:Reads w 1 v l.length (l.map jk)) :
  CallsD prog 147 #[.pointer (some ⟨b,0,none⟩),.pointer (some ⟨a,0,none⟩)] u w fun e f d=>f=u/\(e=.returned (.tuple #[])/\d=w.setCell ⟨a,0,none⟩ (.string (strOf l))):=by
 have g:=aBa (P:=prog) (w:=w) underlying74 underlying5 underlying9 hr;obtain⟨A,c,rfl⟩:∃ A c,v=.slice A l.length c:=by obtain⟨_,A,c,h,_⟩:=hr;exact⟨A,c,h⟩
 go_enter_d func147,ntmps147
 go_wp2
 go_end0
 exact⟨rfl,rfl⟩
theorem aRa (m:dh) (a:Int) (s:l9) (w:ae) (hM:af w) (hk:m.length=16) (h1:-9223372036854775808<=a) (h2:a<9223372036854775808) (hs:s.size<=100000) :
    mf prog 105 #[.agg (m.map jk).toArray,.int .i64 a,.string s] w fun e w'=>e=.returned (.string (strOf (dW m a s.data.toList)))/\Ext w w':=by
  obtain⟨P,F⟩:∃ r,(m.map jk).toArray=r:=⟨_,rfl⟩;have HM:=hide hM;have c4:=hide (fun w=>wH a w h1 h2);have HA:=hide F;rw[F];clear F hM h1 h2;have d1:P.size=16:=by rw[<-aA HA];simpa using hk
  have d4:∀ (fn:Fn) (first cap:kw) (w:ae),(Instr.makeFunc fn first cap).run prog w=.ok (.func fn first cap) w:=fun _ _ _ _=>rfl
  go_enter_defers func105,ntmps105
  go_wp2_with (refine xE rfl rfl underlying9 underlying74 underlying5 rfl (by unfold uk;omega) ?_;intro C q a6 b3 a8;have H1:=hide (az a6 (az b3 a8));clear a6 b3 a8)
  have a5:w.heap.size+2<=q.heap.size:=by have h2:=(aA H1).2.1.size';simp at h2;omega
  have Q:=hide (show Reads (q.alloc (.cells #[.slice (some ⟨w.heap.size+1+1,0,none⟩) s.size C] 74)) 1 (.slice (some ⟨w.heap.size+1+1,0,none⟩) s.size C) s.size (s.data.toList.map rJ)/\∀ i,i<s.size->(q.alloc (.cells #[.slice (some ⟨w.heap.size+1+1,0,none⟩) s.size C] 74)).frozen? ⟨w.heap.size+1+1,i,none⟩=false from by
    have h1:=(aA H1).1;have h3:=(aA H1).2.2;simp only[World.size_alloc] at h1 h3;refine⟨h1.ext ((Ext.refl q).alloc _),fun i L=>?_⟩;obtain⟨_,hc⟩:∃ u,q.cell? ⟨w.heap.size+1+1,i,none⟩=some u:=by obtain⟨b,o,c,u,hv,_,_,_,_,N⟩:=h1.GV L;cases hv;exact⟨u,by simpa using N⟩
    exact Ext.zn ((Ext.refl q).alloc _) (h3 i L) (lt_of_cell hc))
  have b6:=hide (show f_ (q.alloc (.cells #[.slice (some ⟨w.heap.size+1+1,0,none⟩) s.size C] 74)) (w.heap.size+1) 9 #[.string { data:=#[] }] from ((f_.new' (w.alloc (.cells P 23)) _ _ b_).ext (aA H1).2.1).alloc _);have a4:=hide (show f_ (q.alloc (.cells #[.slice (some ⟨w.heap.size+1+1,0,none⟩) s.size C] 74)) q.heap.size 74 #[.slice (some ⟨w.heap.size+1+1,0,none⟩) s.size C] from f_.new _ _ _);have b5:=hide (show f_ (q.alloc (.cells #[.slice (some ⟨w.heap.size+1+1,0,none⟩) s.size C] 74)) w.heap.size 23 P from ((((f_.new w _ P).alloc _).ext (aA H1).2.1).alloc _));have HP:=hide (show Ext w (q.alloc (.cells #[.slice (some ⟨w.heap.size+1+1,0,none⟩) s.size C] 74)) from ((((Ext.refl w).alloc _).alloc _).trans (aA H1).2.1).alloc _);generalize b0:(q.alloc (.cells #[.slice (some ⟨w.heap.size+1+1,0,none⟩) s.size C] 74))=B;rw[b0] at HP Q b6 a4 b5;obtain⟨dk,a9⟩:∃ d,keyS m a=d:=⟨_,rfl⟩;have HD:=hide a9
  have d0:=hide (show Reads B 1 (.slice (some ⟨w.heap.size,0,none⟩) 16 16) m.length (m.map jk) from by
    have:=Reads.A_ (aA b5) (i:=0) (n:=16) (c:=16) a_ a_ (by unfold uk;omega);rw[<-aA HA] at this;simp only[Yh] at this;rw[YY (by rw[YU];omega)] at this;rw[hk]
    exact this)
  clear a9
  have c8:=hide (fun (W4:ae) (pv:ag) (A3:Option Addr) (Z:Nat) (hX:Ext B W4) (b8:Reads W4 1 pv 1 [.slice A3 (eu a).length Z]) (hr:Reads W4 1 (.slice A3 (eu a).length Z) (eu a).length ((eu a).map jk))=>aBq m (.slice (some ⟨w.heap.size,0,none⟩) 16 16) bGc [eu a] pv W4 ((aA HM).ext ((aA HP).trans hX)) ((aA d0).ext hX) a_ g_ ⟨[.slice A3 (eu a).length Z],rfl,b8,fun i p hp=>by
    cases i with
    |zero=>cases hp;exact⟨_,rfl,hr⟩|succ i=>simp at hp⟩ b_ (fun p hp=>by simp at hp;subst hp;have:=aQ a;omega))
  go_cut [8] from 14 to 18 (fun s8 wx=>∃ g,s8=.pointer (some ⟨g,0,none⟩)/\Hid (f_ wx g 23 ((dk.map jk).toArray)/\Ext B wx/\B.heap.size<=g))
  case first=>
    have HS:=hide (show ((dk.map jk).toArray).size=16 from by rw[<-aA HD];unfold keyS;simpa using jC _ _ _);refine wp_region_noPanic ?_
    go_region_law (first
      | (
       go_simp;go_at_call 107;refine (aA c4 _).mono ?_;rintro e U ⟨A3,Z,rfl,I,G⟩
       first
       |(have S:=hide (show Reads U 1 (.slice A3 (eu a).length Z) (eu a).length ((eu a).map jk)/\Ext B U/\True from az (Reads.v_ I) (az (((Ext.refl B).drew).trans G) trivial));clear I G)
       |(have S:=hide (show Reads U 1 (.slice A3 (eu a).length Z) (eu a).length ((eu a).map jk)/\Ext B U/\f_ U B.heap.size 23 (IR 16 (.int .u8 0)) from az (Reads.v_ I) (az ((((Ext.refl B).drew).alloc _).trans G) ((f_.new B.drew _ _).ext G)));clear I G))
      | (
       rename_i K hK;go_simp;go_at_call 106;refine (aA c8 _ _ A3 Z ?_ ?_ ?_).mono ?_
       (focus (first|exact (aA S).2.1.alloc _|exact ((aA S).2.1.alloc _).alloc _))
       (focus (first|exact Reads.Bl _ _ _|exact (Reads.Bl _ _ _).ext ((Ext.refl _).alloc _)|(have h:=Reads.Bl (U.alloc (.cells (IR 16 (.int .u8 0)) 23)) (.slice A3 (eu a).length Z) 74;rw[World.size_alloc] at h;exact h)))
       (focus (first|exact (aA S).1.ext ((Ext.refl _).alloc _)|exact (aA S).1.ext (((Ext.refl _).alloc _).alloc _)))
       rintro e w5 ⟨rfl,O⟩;rw[show nH m bGc.data.toList [eu a]=dk from aA HD];have H5:=hide (show Ext B w5/\Ext _ w5 from az (by first|exact ((aA S).2.1.alloc _).trans O|exact (((aA S).2.1.alloc _).alloc _).trans O) O);clear O;dsimp only;refine hK _ _ ?_;clear hK K
       first
       | (
        refine Yi (rs:=[5]) ah b_ (AllReady.cons rfl (fun J Y=>?_) AllReady.nil);rw[au ai];go_simp;refine Y _ _ ?_;clear Y J;refine Yi (rs:=[6]) ah b_ (AllReady.cons rfl (fun J Y=>?_) AllReady.nil);refine jW (ty:=23) (t:=23) (x:=.tmp 8) (y:=.tmp 18) rfl rfl dL rfl rfl (f_.new w5 _ _) ?_ ?_ ?_ ?_;rfl;exact aA HS;exact fU _;intro w7 E D a0;have H7:=hide (az E (az (((aA H5).1.alloc _).trans' D (fun _ _ h=>h) (fun i L e=>by have:=(aA H5).1.size';omega)) (aA H5).1.size'));clear E D a0;refine Y _ _ ?_
        clear Y J)
       | (
        refine Yi (rs:=[6]) ah b_ (AllReady.cons rfl (fun J Y=>?_) AllReady.nil);have b7:=(aA S).2.1.size';refine jW (ty:=23) (t:=23) (x:=.tmp 8) (y:=.tmp 18) (old:=IR 16 (.int .u8 0)) rfl rfl dL rfl rfl ?_ ?_ ?_ ?_ ?_
        · first|exact (((aA S).2.2).alloc _).ext (aA H5).2|exact ((f_.new U _ _).alloc _).ext (aA H5).2|exact (f_.new' (U.alloc _) _ _ b_).ext (aA H5).2
        rfl;exact aA HS;exact fU _;intro w7 E D a0;have H7:=hide (az E (az ((aA H5).1.trans' D (fun _ _ h=>h) (fun i L e=>a_)) (show B.heap.size<=_ by omega)));clear E D a0 b7;refine Y _ _ ?_
        clear Y J)))
    all_goals
      refine NoPanic.normal ?_
      go_wp2_with fail
      go_meet
      exact⟨_,rfl,hide ⟨(aA H7).1,(aA H7).2.1,by have:=(aA H7).2.2;omega⟩⟩
  case rest=>
    obtain⟨g8,rfl,H8⟩:=hcut;have HS:=hide (show ((dk.map jk).toArray).size=16/\dk.length=16 from by rw[<-aA HD];unfold keyS;exact⟨by simpa using jC _ _ _,jC _ _ _⟩);have c7:=((aA a4).ext (aA H8).2.1).cell 0
    have HQ:=hide (fun (W:ae) (hE:Ext wc W)=>aYj dk (.slice (some ⟨g8,0,none⟩) 16 16) s.size W ((aA HM).ext (((aA HP).trans (aA H8).2.1).trans hE)) (by
      have:=Reads.A_ ((aA H8).1.ext hE) (i:=0) (n:=16) (c:=16) (by rw[(aA HS).1];omega) a_ (by unfold uk;omega);simp only[Yh] at this;rw[YY (by rw[YU,(aA HS).2];omega)] at this;rw[(aA HS).2]
      exact this) (by have:=(aA HS).2;omega) a_)
    go_upto_region 4 with fail
    refine wp_region_noPanic ?_
    go_region_law (first
      | (
       go_simp;go_at_call 148;refine (aA HQ _ ((Ext.refl wc).drew)).mono ?_;rintro e w9 ⟨A9,c9,rfl,a7,b2⟩
       have H9:=hide (az a7 (((Ext.refl wc).drew).trans b2))
       clear a7 b2))
    refine NoPanic.normal ?_;obtain⟨x,hx⟩:=lm (jG dk s.size);have HX:=hide hx;rw[hx] at H9;obtain⟨sl,a2⟩:∃ l,s.data.toList=l:=⟨_,rfl⟩;have a1:sl.length=s.size:=by rw[<-a2,uA];rfl
    have d3:B.heap.size=q.heap.size+1:=by rw[<-b0];simp
    have E9:Ext B w9:=(aA H8).2.1.trans (aA H9).2;have H:x.length=sl.length:=by have:=(aA H9).1.1;rw[YU] at this;omega
    have c5:=hide a2;rw[a2] at Q;clear hx c7
    go_wp2
    go_simp
    go_loopw [24] (fun i wr=>∃ k:Nat,k<=s.size/\i=.int .i64 k/\Hid (Reads wr 1 (.slice (some ⟨w.heap.size+1+1,0,none⟩) s.size C) s.size ((Bo sl x k).map jk)/\(∀ i,i<s.size->wr.frozen? ⟨w.heap.size+1+1,i,none⟩=false)/\f_ wr q.heap.size 74 #[.slice (some ⟨w.heap.size+1+1,0,none⟩) s.size C]/\f_ wr (w.heap.size+1) 9 #[.string { data:=#[] }]/\gu (fun b=>b=w.heap.size+1+1) w9 wr)) (fun i _=>s.size-(intOf i).toNat)
    case atStart=>exact⟨0,xn _,rfl,hide ⟨by rw[bFj];exact (aA Q).1.ext E9,fun i L=>Ext.zn E9 ((aA Q).2 i L) (by show w.heap.size+1+1<_;omega),(aA a4).ext E9,(aA b6).ext E9,gu.refl _ _⟩⟩
    case round=>
      obtain⟨k,hk,rfl,A⟩:=hrel;by_cases a3:k<s.size
      ·
        obtain⟨b,o,c',u,hv,_,_,hb,hu,N⟩:=(aA A).1.GV a3;cases hv;rw[XN,Qv sl x k H a_] at hu;cases hu;have b1:=pG (aA H9).1 (aA A).2.2.2.2 (fun j hj e=>by have h1:=((aA H9).1.lt j hj).1;have h2:=(aA H8).2.1.size';simp at h1;omega);obtain⟨b,o,c',u,hv,_,_,d5,hu,b9⟩:=(Reads.v_ b1).GV a3;cases hv;rw[XN,zH (show k<x.length by omega)] at hu;cases hu;clear b1;have V:¬q.heap.size=w.heap.size+1+1:=by have:=(aA H1).1.Cj a_ a_ _ rfl;simp at this;omega
        have c7:=(aA A).2.2.1.cell 0;have hf:=(aA A).2.1 k a3;have c6:=hide (bFk sl x k H a_);rw[ik] at N;unfold jk at N b9;generalize sl[k]=y at *;generalize x[k]=z at *;have c2:=hide (aBI y z)
        go_wp2
        go_roundw
        case rel=>refine⟨k+1,a_,by go_num,hide ⟨?_,fun i L=>by rw[World.frozen?_setCell];exact (aA A).2.1 i L,(aA A).2.2.1.far' V k _,(aA A).2.2.2.1.far' a_ k _,(aA A).2.2.2.2.setCell (p:=⟨w.heap.size+1+1,k,none⟩) (.inl rfl) _⟩⟩;rw[aA c6,List.map_set];have:=(aA A).1.set (k:=k) a_ (jk (y ^^^ z));rw[aA c2];exact this
        case measure=>simp[intOf];omega
      ·
        obtain rfl:k=s.size:=a_;have hA:dW m a s.data.toList=Bo sl x s.size:=by unfold dW;rw[aA HD,aA c5,a1,aA HX,<-a1,Ku _ _ H]
        have b4:(dW m a s.data.toList).length=s.size:=by rw[hA,aTf _ _ _ H a_,a1]
        have X:Reads wr 1 (.slice (some ⟨w.heap.size+1+1,0,none⟩) s.size C) (dW m a s.data.toList).length ((dW m a s.data.toList).map jk):=by rw[b4,hA];exact (aA A).1
        have HF:=hide X;have V:=a5;clear hA b4 X
        go_wp2
        refine leaves_cons (f:=147) (args:=#[.pointer (some ⟨q.heap.size,0,none⟩),.pointer (some ⟨w.heap.size+1,0,none⟩)]) b_ (by simp[go_sem]) ?_;refine (Xp (dW m a s.data.toList) _ _ _ _ .returning _ ((aA A).2.2.1.cell 0) ((aA A).2.2.2.1.cell 0) ((aA A).2.2.2.1.frozen 0) (aA HF)).mono ?_;rintro e u' d2 ⟨rfl,rfl,rfl⟩;have c0:(wr.setCell ⟨w.heap.size+1,0,none⟩ (.string (strOf (dW m a s.data.toList)))).cell? ⟨w.heap.size+1,0,none⟩=some (.string (strOf (dW m a s.data.toList))):=World.cell?_setCell_same' _ _ _ (by rw[(aA A).2.2.2.1.cell 0];rfl);have hE:Ext w (wr.setCell ⟨w.heap.size+1,0,none⟩ (.string (strOf (dW m a s.data.toList)))):=((aA HP).trans E9).trans' ((gu.mono (T:=fun b=>b=w.heap.size+1+1\/b=w.heap.size+1) (aA A).2.2.2.2 (fun _ _ h=>.inl h)).setCell (p:=⟨w.heap.size+1,0,none⟩) (.inl (.inr rfl)) _) (fun _ _ h=>h.elim) (fun i L e=>a_);simp[Leaves,settle,results,results105,go_sem,c0];exact hE
theorem aXm:y7 prog 27 18:=⟨⟨_,underlying27,rfl⟩,ah⟩
def EL(n:Int)(c:l9)(t:dh):kw:=(ed .i64 n::aAC c::t.map jk).toArray
theorem dA(b:dh)(a:Int)(s:dh):(dW b a s).length=s.length:=by unfold dW;rw[aAF,nJ];simp
theorem Wi{l:dh}(h:l.length=16):∃ r q p o n m k j i g f e d c b a,l=[r,q,p,o,n,m,k,j,i,g,f,e,d,c,b,a]:=by
 match l,h with
 |[r,q,p,o,n,m,k,j,i,g,f,e,d,c,b,a],_=>exact⟨r,q,p,o,n,m,k,j,i,g,f,e,d,c,b,a,rfl⟩
theorem J4 (key : dh) (wo : Int) (s:l9) (w:ae) (hM:af w) (hk:key.length=16) (h1:-9223372036854775808<=wo) (h2:wo<9223372036854775808) (hs:s.size<=100000) :
    mf prog 103 #[.agg (key.map jk).toArray,.int .i64 wo,.string s] w fun e w'=>e=.returned (.agg (EL wo (strOf (dW key wo s.data.toList)) (Ai key wo (dW key wo s.data.toList))))/\Ext w w':=by
  obtain⟨arr,harr⟩:∃ r,(key.map jk).toArray=r:=⟨_,rfl⟩;have HM:=hide hM;have HAp:=hide (fun W hW=>aRa key wo s W hW hk h1 h2 hs);rw[harr] at HAp ⊢;have aMP:arr.size=16:=by rw[<-harr];simpa using hk
  have h1c:arr.all (·.oneCell')=true:=by rw[<-harr];exact fU _
  have HA:=hide harr;clear hM harr
  go_enter func103,ntmps103
  obtain⟨cs,hcs⟩:∃ c,strOf (dW key wo s.data.toList)=c:=⟨_,rfl⟩;have hcl:cs.data.toList=dW key wo s.data.toList:=by rw[<-hcs];exact dI _
  have hcz : cs.size <= 100000 := by
   have h:cs.data.toList.length=s.data.toList.length:=by rw[hcl,dA]
   rw[uA,uA] at h;have h2:cs.size=s.size:=h;omega
  have HTg:=hide (fun W hW=>bCh key wo cs W hW hk h1 h2 hcz);rw[aA HA,hcl] at HTg;rw[hcs] at HAp ⊢;have HTL:=hide (jV key wo (dW key wo s.data.toList));generalize Ai key wo (dW key wo s.data.toList)=tg at *;clear hcs hcl;obtain⟨t0,t1,t2,t3,t4,t5,t6,t7,t8,t9,t10,t11,t12,t13,t14,t15,rfl⟩:=Wi (aA HTL)
  go_wp2_with (first
    |(refine iV (x:=.tmp 3) rfl rfl dL rfl (cs:=arr) (g:=w.heap.size) (by first|exact (f_.new w _ _).alloc _|assumption) aMP ?_)
    | (
     go_at_call 105;refine (aA HAp _ ((aA HM).ext (((Ext.refl w).alloc _).alloc _))).mono ?_;rintro e w1 ⟨rfl,hE1⟩
     have hba:f_ w1 w.heap.size 23 arr:=((f_.new w _ _).alloc _).ext hE1;have hbb:=(f_.new' (g:=w.heap.size+1) (w.alloc (.cells arr 23)) _ _ b_).ext hE1
     have H1:=hide (show Ext w w1/\f_ w1 (w.heap.size+1) 27 (#[.int .i64 0,.string { data:=#[] }]++IR 16 (.int .u8 0)) from az ((((Ext.refl w).alloc _).alloc _).trans hE1) hbb);clear hE1 hbb)
    |(go_at_call 104;refine (aA HTg _ ((aA HM).ext (aA H1).1)).mono ?_;rintro e w2 ⟨rfl,hE2⟩;have H2:=hide (az ((aA H1).1.trans hE2) ((aA H1).2.ext hE2));clear hE2)
    |(refine aV (ty:=27) (t:=27) (x:=.tmp 6) (y:=.tmp 18) rfl rfl aXm rfl rfl (aA H2).2 b_ rfl (by rw[<-Array.all_toList];rfl) ?_;intro w3 hb3 hc3 hz3;have H3:=hide (az hb3 hc3);clear hb3 hc3 hz3))
  refine bodyPost_ret (gI aXm rfl (aA H3).1 rfl rfl) rfl ⟨rfl,?_⟩;exact (aA H2).1.trans' (aA H3).2 (fun _ _ h=>h) (fun i hi e=>a_)
theorem ylm{S:je}{ops:Array df}{o:df}{a:Act}{T:bi}{n:Nat}(b:y7 prog T n){x:lL}(h:o.op=.load T x)(e:Region.wanted o (yielded ops a.tmps)=true){g off:Nat}{cs:ji}(c:a.eval x=.pointer (some ⟨g,off,none⟩))(hn:cs.length=n)(j:∀ w,S w->w.rangeAt g off cs):YieldsIf prog ops S o (.agg cs.toArray) a:=by obtain⟨d,f,i⟩:=b.und;exact yieldsIf_load_mid (P:=prog) (S:=S) e T x h g off c cs d j f i (by rw[hn];exact b.info)
theorem ylb{S:je}{ops:Array df}{o:df}{a:Act}{T:bi}{n:Nat}(f:y7 prog T n){x:lL}(d:o.op=.load T x)(c:Region.wanted o (yielded ops a.tmps)=true){g:Nat}{t:bi}{cs:kw}(b:a.eval x=.pointer (some ⟨g,0,none⟩))(hn:cs.size=n)(e:∀ w,S w->f_ w g t cs):YieldsIf prog ops S o (.agg cs) a:=by have:=ylm (S:=S) (ops:=ops) (o:=o) (a:=a) f d c (cs:=cs.toList) b (by rw[uA,hn]) (fun w h=>(e w h).range);rwa [Array.toArray_toList] at this
theorem aZb{w:ae}{g:Nat}{t:bi}{pre l:ji}(h:f_ w g t (pre++l).toArray):w.rangeAt g pre.length l:=fun j v a=>by rw[h.cell,List.getElem?_toArray,Ye a_,show pre.length+j-pre.length=j from a_];exact a
theorem aSr{w w':ae}{g o:Nat}{cs:ji}(h:w.rangeAt g o cs)(b:Ext w w'):w'.rangeAt g o cs:=fun j v a=>Ext.lw b (h j v a)
section
variable {P:dE}
theorem xH{e:bi}(k:P.underlying e=some (.int .u8))(g:P.plainKey e=true)(d:Nat)(a b:dh)(w:ae):∀ c:List Nat,(∀ i∈c,i<a.length/\i<b.length) ->
  (Op.eqItems (d+1) e 1 (a.map rJ).toArray (b.map rJ).toArray c).run P w=.ok (c.all fun i=>a.getD i 0==b.getD i 0) w
 |[],_=>by simp[Op.eqItems]| i::c,h=>by
  obtain⟨m,l⟩:=h i b_;have p:(part e (a.map rJ).toArray (i*1)).run P w=.ok (rJ a[i]) w:=run_part_plain w g (by simp[zH m]);have o:(part e (b.map rJ).toArray (i*1)).run P w=.ok (rJ b[i]) w:=run_part_plain w g (by simp[zH l]);have n:(Op.equalIn (d+1) e (rJ a[i]) (rJ b[i])).run P w=.ok (a[i]==b[i]) w:=by simp[Op.equalIn,xy k,rJ];rw[aFf];simp;exact⟨fun h=>UInt8.toNat_inj.1 (Int.ofNat_inj.1 h),fun h=>by rw[h]⟩
  have q:=xH k g d a b w c fun j r=>h j (by simp[r]);simp only[Op.eqItems,Sem.run_bind,p,o,n,Result.andThen_ok];rw[List.all_cons,zG,zG,zH m,zH l];simp only[Option.getD_some];by_cases f:a[i]=b[i];simpa[f] using q;simp[f]
theorem all_eq(a b:dh)(n:Nat)(e:a.length=n)(hb:b.length=n):((AC n).all fun i=>a.getD i 0==b.getD i 0)=decide (a=b):=by rw[aFf];simp only[List.all_eq_true,aFN,beq_iff_eq,decide_eq_true_eq];constructor;intro h;apply Z9 a_;intro i d c;have:=h i a_;simpa[zG,zH d,zH c] using this;rintro rfl i _;rfl
theorem aKj{t e:bi}{n:Nat}(d:P.underlying t=some (.array n e))(c:P.underlying e=some (.int .u8))(j:P.plainKey e=true){inf:TypeInfo}(g:P.info? e=some inf)(h1:P.cellsOf e=1){a b:dh}(k:a.length=n)(hb:b.length=n)(w:ae) :
  (binOp .neq t (.agg (a.map rJ).toArray) (.agg (b.map rJ).toArray)).run P w=.ok (.bool (!decide (a=b))) w:=by
 have h:=run_equalIn_array (P:=P) w 9999 (a.map rJ).toArray (b.map rJ).toArray d g;rw[h1,xH c j 9998 a b w _ (fun i f=>by rw[aFN] at f;omega),all_eq a b n k hb] at h;simp only[binOp];simp[Op.equal,Op.maxDepth,h]
end
end
theorem I5:prog.plainKey 5=true:=ah
theorem VE:prog.cellsOf 5=1:=ah
theorem aLX{a b:dh}(c:a.length=16)(hb:b.length=16)(w:ae):(binOp .neq 23 (.agg (a.map jk).toArray) (.agg (b.map jk).toArray)).run prog w=.ok (.bool (!decide (a=b))) w:=aKj (inf:=_) underlying23 underlying5 I5 rfl VE c hb w
theorem aOp(g:dh)(a:Int)(c:l9)(t:dh)(w:ae)(U:af w)(O:g.length=16)(Q:t.length=16)(h1:-9223372036854775808<=a)(h2:a<9223372036854775808)(hs:c.size<=100000) :
  mf prog 81 #[.agg (g.map jk).toArray,.agg (EL a c t)] w fun e B=>e=.returned (bif decide (Ai g a c.data.toList=t) then .tuple #[.string (strOf (dW g a c.data.toList)),.int .i64 0] else .tuple #[.string { data:=#[] },.int .i64 8])/\Ext w B:=by
 obtain⟨j,m⟩:∃ r,(g.map jk).toArray=r:=⟨_,rfl⟩;have Y:=hide U;have J:=hide (fun W P=>aRa g a c W P O h1 h2 hs);have z:=hide (fun W P=>bCh g a c W P O h1 h2 hs);rw[m] at J z ⊢;have q:j.size=16:=by rw[<-m];simpa using O
 have I:=hide (show (t.map jk).length=16 from by simpa using Q);have y:=fun W=>aLX (jV g a c.data.toList) Q W;obtain⟨d,T⟩:=lm (decide (Ai g a c.data.toList=t));rw[T] at y ⊢;clear T;obtain⟨p,u⟩:∃ l,t.map jk=l:=⟨_,rfl⟩;have D:EL a c t=(ed .i64 a::aAC c::p).toArray:=by rw[<-u];rfl
 rw[u] at y I;rw[D];obtain⟨tg,C⟩:∃ l,(Ai g a c.data.toList).map jk=l:=⟨_,rfl⟩;rw[C] at y z
 have s:=hide (show f_ ((w.alloc (.cells j 23)).alloc (.cells (ed .i64 a::aAC c::p).toArray 27)) w.heap.size 23 j /\
   ((w.alloc (.cells j 23)).alloc (.cells (ed .i64 a::aAC c::p).toArray 27)).cell? ⟨w.heap.size+1,0,none⟩=some (.int .i64 a) /\
   ((w.alloc (.cells j 23)).alloc (.cells (ed .i64 a::aAC c::p).toArray 27)).cell? ⟨w.heap.size+1,1,none⟩=some (.string c) /\
   ((w.alloc (.cells j 23)).alloc (.cells (ed .i64 a::aAC c::p).toArray 27)).rangeAt (w.heap.size+1) 2 p from
  ⟨(f_.new w _ _).alloc _,eY _ _ _ b_ rfl,eY _ _ _ b_ rfl,aZb (pre:=[ed .i64 a,aAC c]) (f_.new' _ _ _ b_)⟩)
 have A:=hide (fun W (X:Ext ((w.alloc (.cells j 23)).alloc (.cells (ed .i64 a::aAC c::p).toArray 27)) W)=>az (Ext.lw X (aA s).2.1) (Ext.lw X (aA s).2.2.1));clear U m u D C
 go_enter func81,ntmps81
 go_upto_region 1 with fail
 refine wp_region_held_drew (S:=fun B=>Ext ((w.alloc (.cells j 23)).alloc (.cells (ed .i64 a::aAC c::p).toArray 27)) B) ah (Ext.refl _).drew (fun b=>?_);refine Yn (i:=0) (v:=_) rfl ah ah ah (fun _ _ _ h=>h) (ylb dL rfl ai rfl q (fun B N=>(aA s).1.ext N)) o_ ?_
 try simp only[Act.put,zA,zB,zC,zD,zF]
 refine Yn (i:=1) (v:=?_) rfl ah ah ah (fun _ _ _ h=>h) (Or.inl ⟨ai,fun k f=>?_⟩) o_ ?_;rotate_left
 ·(first|(go_simp;done)|(go_simp;with_reducible rfl)|(obtain⟨H,G⟩:=(aA A) k f;clear f;first|(go_simp;done)|(go_simp;with_reducible rfl)))
 try simp only[Act.put,zA,zB,zC,zD,zE,zF]
 refine Yn (i:=2) (v:=?_) rfl ah ah ah (fun _ _ _ h=>h) (Or.inl ⟨ai,fun k f=>?_⟩) o_ ?_;rotate_left
 ·(first|(go_simp;done)|(go_simp;with_reducible rfl)|(obtain⟨H,G⟩:=(aA A) k f;clear f;first|(go_simp;done)|(go_simp;with_reducible rfl)))
 try simp only[Act.put,zA,zB,zC,zD,zE,zF]
 refine Yn (i:=3) (v:=?_) rfl ah ah ah (fun _ _ _ h=>h) (Or.inl ⟨ai,fun k f=>?_⟩) o_ ?_;rotate_left
 ·(first|(go_simp;done)|(go_simp;with_reducible rfl)|(obtain⟨H,G⟩:=(aA A) k f;clear f;first|(go_simp;done)|(go_simp;with_reducible rfl)))
 try simp only[Act.put,zA,zB,zC,zD,zE,zF]
 refine Yn (i:=4) (v:=?_) rfl ah ah ah (fun _ _ _ h=>h) (Or.inl ⟨ai,fun k f=>?_⟩) o_ ?_;rotate_left
 ·(first|(go_simp;done)|(go_simp;with_reducible rfl)|(obtain⟨H,G⟩:=(aA A) k f;clear f;first|(go_simp;done)|(go_simp;with_reducible rfl)))
 try simp only[Act.put,zA,zB,zC,zD,zE,zF]
 refine Yn (i:=6) (v:=?_) rfl ah ah ah (fun _ _ _ h=>h) (Or.inl ⟨ai,fun k f=>?_⟩) o_ ?_;rotate_left
 ·(first|(go_simp;done)|(go_simp;with_reducible rfl)|(obtain⟨H,G⟩:=(aA A) k f;clear f;first|(go_simp;done)|(go_simp;with_reducible rfl)))
 try simp only[Act.put,zA,zB,zC,zD,zE,zF]
 refine Yn (i:=7) (v:=_) rfl ah ah ah (fun _ _ _ h=>h) (ylm dL rfl ai rfl (aA I) (fun B N=>aSr (aA s).2.2.2 N)) o_ ?_
 try simp only[Act.put,zA,zB,zC,zD,zE,zF]
 refine wpAnyH_ready (rs:=[5]) ah b_ (AllReadyH.cons (o:=_) rfl (fun K V=>?_) AllReadyH.nil);go_simp;refine (aA z _ ((aA Y).ext ((((Ext.refl w).alloc _).alloc _).trans b))).mono ?_;rintro e L ⟨rfl,F⟩;have Z:=Ext.trans b F;clear F b;refine V.out _ _ ?_ (fun b=>?_);exact Z;clear V K
 try simp only[Act.put,zA,zB,zC,zD,zE,zF]
 refine Yn (i:=8) (v:=?_) rfl ah ah ah (fun _ _ _ h=>h) (Or.inl ⟨ai,fun k f=>?_⟩) o_ ?_;rotate_left
 ·(first|(go_simp;done)|(go_simp;with_reducible rfl)|(obtain⟨H,G⟩:=(aA A) k f;clear f;first|(go_simp;done)|(go_simp;with_reducible rfl)))
 try simp only[Act.put,zA,zB,zC,zD,zE,zF]
 refine wpAnyH_done ah ?_ _;cases d
 ·go_wp2
  go_ret2
  exact⟨rfl,(((Ext.refl w).alloc _).alloc _).trans b⟩
 ·have n:=hide (show f_ L w.heap.size 23 j/\L.cell? ⟨w.heap.size+1,0,none⟩=some (.int .i64 a)/\L.cell? ⟨w.heap.size+1,1,none⟩=some (.string c)/\Ext w L from
   ⟨(aA s).1.ext b,Ext.lw b (aA s).2.1,Ext.lw b (aA s).2.2.1,(((Ext.refl w).alloc _).alloc _).trans b⟩)
  have c1:=(aA n).2.1;have c2:=(aA n).2.2.1;clear b s A
  go_wp2_with (first
   |(refine iV (x:=.tmp 2) rfl rfl dL rfl (cs:=j) (aA n).1 q ?_)
   |(go_at_call 105;refine (aA J _ ((aA Y).ext (aA n).2.2.2)).mono ?_;rintro e w6 ⟨rfl,E⟩;have H6:=hide E;clear E))
  go_ret2
  exact⟨rfl,(aA n).2.2.2.trans (aA H6)⟩
theorem Qh(b:dh)(a:Int)(c:l9)(t:dh)(w:ae)(i:af w)(h:b.length=16)(g:t.length=16)(h1:-9223372036854775808<=a)(h2:a<9223372036854775808)(hs:c.size<=100000)
  (d:¬Ai b a c.data.toList=t) :
  mf prog 81 #[.agg (b.map jk).toArray,.agg (EL a c t)] w fun e f=>e=.returned (.tuple #[.string { data:=#[] },.int .i64 8])/\Ext w f:=by
 have:=aOp b a c t w i h g h1 h2 hs;rw[Bg d] at this;exact this
theorem Jk(b:dh)(a:Int)(c:l9)(t:dh)(w:ae)(i:af w)(h:b.length=16)(g:t.length=16)(h1:-9223372036854775808<=a)(h2:a<9223372036854775808)(hs:c.size<=100000)
  (d:Ai b a c.data.toList=t) :
  mf prog 81 #[.agg (b.map jk).toArray,.agg (EL a c t)] w fun e f=>e=.returned (.tuple #[.string (strOf (dW b a c.data.toList)),.int .i64 0])/\Ext w f:=by
 have:=aOp b a c t w i h g h1 h2 hs;rw[rq d] at this;exact this

section
theorem He(a x:UInt8):(a ^^^ x) ^^^ x=a:=by rw[UInt8.xor_assoc,UInt8.xor_self,UInt8.xor_zero]
theorem H_(s x:dh)(h:s.length<=x.length):Z7 (· ^^^ ·) (Z7 (· ^^^ ·) s x) x=s:=by
 induction s generalizing x with
 |nil=>simp| cons a s c=>
  cases x with
  |nil=>simp at h|cons b x=>simp only[List.zipWith_cons_cons];rw[He,c x (by simpa using h)]
theorem aJr(b:dh)(a:Int)(s:dh):dW b a (dW b a s)=s:=by have c:=dA b a s;unfold dW at c ⊢;rw[c];exact H_ _ _ (by rw[nJ];simp)
theorem aYp(a:dh)(j:Nat):dB a (j+16+1)=dB a (j+16)++[(dB a (j+16)).getD j 0+((fV ((dB a (j+16)).getD (j+1) 0) 7 ^^^ fV ((dB a (j+16)).getD (j+1) 0) 18) ^^^ ((dB a (j+16)).getD (j+1) 0 >>> 3))+(dB a (j+16)).getD (j+9) 0 +
  ((fV ((dB a (j+16)).getD (j+14) 0) 17 ^^^ fV ((dB a (j+16)).getD (j+14) 0) 19) ^^^ ((dB a (j+16)).getD (j+14) 0 >>> 10))]:=by
 rw[dB,ay a_];unfold uQ;simp only[fK,show j+16-15=j+1 from a_,show j+16-2=j+14 from a_,show j+16-16=j from a_,show j+16-7=j+9 from a_]
def nonzero(l:List Int):Nat:=(l.filter (fun n=>n != 0)).length
def pK(l:List Int):Bool:=decide (l.length<2*nonzero l)
def aj.Bv(a b:Int):aj Int:=.ask ⟨1,a,b,aG⟩ fun r=>.ret r.val
def aj.AQ(a b:Int):aj Unit:=.ask ⟨2,a,b,aG⟩ fun _=>.ret ()
def aj.read(d e:Int):aj Bool:=(aj.Bv d (3*e+0)).bind fun a=>(aj.Bv d (3*e+1)).bind fun b=>(aj.Bv d (3*e+2)).bind fun c=>.ret (pK [a,b,c])
def aj.tq(a b:Int):aj Unit:=(aj.AQ a (3*b+0)).bind fun _=>(aj.AQ a (3*b+1)).bind fun _=>(aj.AQ a (3*b+2)).bind fun _=>.ret ()
def aj.up(a:Int):Nat->Nat->aj Nat
 |0,n=>.ret n|f+1,n=>(aj.read a n).bind fun b=>if b then aj.up a f (n+1) else .ret n
def aj.down(a:Int):Nat->Nat->aj Unit
 |0,_=>.ret ()|r+1,b=>(aj.tq a b).bind fun _=>aj.down a r (b+1)
def aj.jf(a:Int)(b:Nat):aj Nat:=(aj.up a b 0).bind fun n=>(aj.down a n 0).bind fun _=>.ret n
def aj.ru(a:Int):Nat->Nat->aj (Nat×Int)
 |0,n=>.ret (n,0)|f+1,n=>(aj.tq a n).bind fun _=>(aj.read a n).bind fun b=>if b then aj.ru a f (n+1) else .ret (n,12)
def aj.o6(b:Int)(c a:Nat):aj (Nat×Int):=(aj.jf b c).bind fun n=>aj.ru b (a-n) n
theorem Hy(a:Int):∀ f n,aj.All (fun m=>m<=n+f) (aj.up a f n)
 |0,n=>dC _|f+1,n=>by refine aj.All.bind (R:=fun _=>True) (aj.All.yt _) (fun b _=>?_);cases b;exact (by show n<=n+(f+1);omega);exact (Hy a f (n+1)).mono (fun m c=>a_)
def dF(x:Int)(a:Bool):Int:=if x=2\/(x=1/\a=true) then 1 else 0
def iL(x:Int)(cut:Bool):Int:=if x<=1 then (if cut then 1 else 2) else x
def iD(cells:List Int)(a:Bool)(b:Nat):Bool:=decide (2<=dF (cells.getD (3*b) 0) a+dF (cells.getD (3*b+1) 0) a+dF (cells.getD (3*b+2) 0) a)
def vN(cells:List Int)(a:Bool):Nat->Nat->Nat
 |0,b=>b|f+1,b=>if iD cells a b then vN cells a f (b+1) else b
def kQ(cells:List Int)(a:Bool):Nat:=vN cells a (cells.length / 3) 0
theorem oM(x:Int)(n:Bool):0<=dF x n/\dF x n<=1:=by unfold dF;split<;>omega
theorem aZw{cells:List Int}{a:Bool}{f b:Nat}(h:iD cells a b=false):vN cells a (f+1) b=b:=by simp[vN,h]
theorem aTl{cells:List Int}{a:Bool}{f b:Nat}(h:iD cells a b=true):vN cells a (f+1) b=vN cells a f (b+1):=by simp[vN,h]
theorem getD_at{l:List Int}{i:Nat}(h:i<l.length):l.getD i 0=l[i]:=by rw[zG,zH h];rfl
theorem Ew:∀ (c:Int) (f b:Nat),aj.All (fun m=>m<=b+f) (aj.up c f b)
 |_,0,b=>dC _|c,f+1,b=>(aj.All.yt (aj.read c b)).bind fun x _=>by
  cases x with
  |true=>exact (Ew c f (b+1)).mono fun a h=>a_|false=>exact (by omega:b<=b+(f+1))
theorem aFr(b:Int)(a:Nat):aj.All (fun m=>m<=a) (aj.jf b a):=(Ew b a 0).bind fun m h=>(aj.All.yt (aj.down b m 0)).bind fun _ _=>by show m<=a;omega
abbrev cell(c:List Int)(j:Nat):Int:=c.getD j 0
def aj.Within{a:Type}:Nat->aj a->Prop
 |_,.ret _=>True|0,.ask _ _=>False|n+1,.ask _ k=>∀ r,aj.Within n (k r)
theorem Within.mono{b:Type}{p:aj b}:∀ {n m:Nat},p.Within n->n<=m->p.Within m:=by
 induction p with
 |ret a=>intro n m _ _;cases m<;>trivial| ask a k c=>
  intro n m h d;cases n with
  |zero=>exact h.elim|succ n=>
   cases m with
   |zero=>omega|succ m=>exact fun r=>c r (h r) a_
theorem Within.bind{c d:Type}{p:aj c}{f:c->aj d}{m:Nat}:∀ {n:Nat},p.Within n->(∀ a,(f a).Within m)->(p.bind f).Within (n+m):=by
 induction p with
 |ret a=>intro n _ b;exact Within.mono (b a) a_| ask a k e=>
  intro n h b;cases n with
  |zero=>exact h.elim|succ n=>rw[show n+1+m=(n+m)+1 from a_];exact fun r=>e r (h r) b
theorem Within.OL{b e:Type}{R:b->Prop}{p:aj b}{f:b->aj e}{m:Nat}:∀ {n:Nat},p.Within n->aj.All R p->(∀ a,R a->(f a).Within m)->(p.bind f).Within (n+m):=by
 induction p with
 |ret a=>intro n _ d c;exact Within.mono (c a d) a_| ask a k g=>
  intro n h d c;cases n with
  |zero=>exact h.elim|succ n=>rw[show n+1+m=(n+m)+1 from a_];exact fun r=>g r (h r) (d r) c
theorem xQ(a b:Int):(aj.Bv a b).Within 1:=fun _=>trivial
theorem uG(a b:Int):(aj.AQ a b).Within 1:=fun _=>trivial
theorem aDx(a b:Int):(aj.read a b).Within 3:=Within.bind (m:=2) (xQ _ _) fun _=>Within.bind (m:=1) (xQ _ _) fun _=>Within.bind (m:=0) (xQ _ _) fun _=>trivial
theorem yV(a b:Int):(aj.tq a b).Within 3:=Within.bind (m:=2) (uG _ _) fun _=>Within.bind (m:=1) (uG _ _) fun _=>Within.bind (m:=0) (uG _ _) fun _=>trivial
theorem aNc(a:Int):∀ f n,(aj.up a f n).Within (3*f)
 |0,n=>trivial|f+1,n=>by
  rw[show 3*(f+1)=3+3*f from a_];refine Within.bind (aDx a n) fun b=>?_;cases b with
  |true=>exact aNc a f (n+1)|false=>exact Within.mono (n:=0) (show (aj.ret n:aj Nat).Within 0 from trivial) a_
theorem aDy(a:Int):∀ r b,(aj.down a r b).Within (3*r)
 |0,b=>trivial|r+1,b=>by rw[show 3*(r+1)=3+3*r from a_];exact Within.bind (yV a b) fun _=>aDy a r (b+1)
theorem qL(a:Int)(b:Nat):(aj.jf a b).Within (6*b):=by rw[show 6*b=3*b+(3*b+0) from a_];refine Within.OL (aNc a b 0) (Ew a b 0) fun n c=>?_;exact Within.bind (Within.mono (aDy a n 0) a_) fun _=>trivial
theorem tH(a:Int):∀ f n,(aj.ru a f n).Within (6*f)
 |0,n=>trivial|f+1,n=>by
  rw[show 6*(f+1)=3+(3+6*f) from a_];refine Within.bind (yV a n) fun _=>Within.bind (aDx a n) fun b=>?_;cases b with
  |true=>exact tH a f (n+1)|false=>exact Within.mono (n:=0) (show (aj.ret (n,(12:Int)):aj (Nat×Int)).Within 0 from trivial) a_
theorem aHe(a:Int)(c b:Nat):(aj.o6 a c b).Within (6*c+6*b):=Within.bind (qL a c) fun n=>Within.mono (tH a (b-n) n) a_
theorem aDk(c:List Int)(i j:Nat)(v:Int):cell (c.set i v) j=if i=j/\i<c.length then v else cell c j:=by unfold cell;rw[zG,zG,aBp];by_cases h:i=j;subst h;by_cases a:i<c.length;simp[a];simp[a];simp[h]
structure EQ(c c':List Int):Prop where
 len:c'.length=c.length
 at_:∀ j,cell c' j=cell c j\/(cell c j<=1/\(cell c' j=1\/cell c' j=2))
theorem EQ.refl(c:List Int):EQ c c:=⟨rfl,fun _=>.inl rfl⟩
theorem EQ.trans{a b c:List Int}(h:EQ a b)(k:EQ b c):EQ a c:=⟨k.len.trans h.len,fun j=>by rcases h.at_ j with e|⟨e,g⟩<;>rcases k.at_ j with d|⟨d,f⟩<;>omega⟩
theorem EQ.set(c:List Int)(i:Nat)(cut:Bool):EQ c (c.set i (iL (cell c i) cut)):=⟨b_,fun j=>by
 rw[aDk];by_cases h:i=j/\i<c.length;rw[au h,h.1];unfold iL;split;cases cut;exact .inr ⟨by assumption,.inr rfl⟩;exact .inr ⟨by assumption,.inl rfl⟩;exact .inl rfl
 rw[ay h];exact .inl rfl⟩
theorem vS{x y:Int}(h:y=x\/(x<=1/\(y=1\/y=2))):dF x false<=dF y false:=by
 unfold dF;rcases h with rfl|⟨b,a⟩;omega
 ·simp only[Bool.false_eq_true,and_false,or_false];rw[ay a_]
  split<;>omega
theorem EQ.low{c a:List Int}(h:EQ c a){b:Nat}(hb:iD c false b=true):iD a false b=true:=by unfold iD at hb ⊢;have f:=vS (h.at_ (3*b));have e:=vS (h.at_ (3*b+1));have d:=vS (h.at_ (3*b+2));unfold cell at f e d;simp only[decide_eq_true_eq] at hb ⊢;omega
section
variable {α β:Type} {F:List Int} {pre:List Int->Prop} {cut:List Int->Prop}
end
theorem bFo(a b c:Int)(d:0<=a/\a<=1)(hb:0<=b/\b<=1)(hc:0<=c/\c<=1):pK [a,b,c]=decide (2<=a+b+c):=by
 obtain⟨m,l⟩:=d;obtain⟨k,j⟩:=hb;obtain⟨i,h⟩:=hc;have g:a=0\/a=1:=a_;have f:b=0\/b=1:=a_;have e:c=0\/c=1:=a_
 rcases g with rfl|rfl<;>rcases f with rfl|rfl<;>rcases e with rfl|rfl<;>decide
theorem pO(x:Int)(a:Bool):dF x false<=dF x a/\dF x a<=dF x true:=by
 unfold dF
 cases a<;>by_cases c:x=1<;>by_cases b:x=2<;>simp[c,b]
structure x_(c0:List Int)(lo hi d:Nat)(c:List Int):Prop where
 BP:EQ c0 c
 out:∀ j,(j<3*lo\/3*hi<=j)->cell c j=cell c0 j
 done:∀ j,3*lo<=j->j<3*d->j<c0.length->cell c0 j<=1->cell c j=2
theorem bDz(x:Int):iL x false=if x<=1 then 2 else x:=rfl
structure Pul(c0:List Int)(b k:Nat)(c:List Int):Prop where
 BP:EQ c0 c
 out:∀ j,(j<3*b\/3*b+k<=j)->cell c j=cell c0 j
 done:∀ j,3*b<=j->j<3*b+k->j<c0.length->cell c0 j<=1->cell c j=2
theorem Pul.step{f c:List Int}{b k:Nat}(h:Pul f b k c):Pul f b (k+1) (c.set (3*b+k) (iL (cell c (3*b+k)) false)):=by have g:=h.out (3*b+k) (.inr (dC _));refine⟨h.BP.trans (EQ.set _ _ _),fun j l=>?_,fun j i m d a=>?_⟩;rw[aDk,ay a_];exact h.out j a_;rw[aDk];by_cases e:3*b+k=j;subst e;rw[au ⟨rfl,by rw[h.BP.len];exact d⟩,g,bDz,au a];rw[ay a_];exact h.done j i a_ d a
theorem Pul.cut{a c:List Int}{b k:Nat}(h:Pul a b k c)(d:k<3):x_ a b (b+1) b (c.set (3*b+k) (iL (cell c (3*b+k)) true)):=⟨h.BP.trans (EQ.set _ _ _),fun j e=>by rw[aDk,ay a_];exact h.out j a_,fun j g f=>a_⟩
theorem x_.start(c:List Int)(n m:Nat)(_h:n<=m):x_ c n m n c:=⟨EQ.refl _,fun _ _=>rfl,fun j b a=>a_⟩
theorem x_.step{l c m:List Int}{a f b d:Nat}(h:x_ l a f b c)(k:x_ c b (b+1) d m)(_hd:d<=b+1)(n:a<=b)(p:b<f)(_:b<=d):x_ l a f d m:=by
 refine⟨h.BP.trans k.BP,fun j o=>?_,fun j s r g q=>?_⟩;rw[k.out j a_];exact h.out j o
 ·by_cases e:j<3*b;rw[k.out j (.inl e)];exact h.done j s e g q
  ·by_cases u:cell c j<=1;exact k.done j a_ r (by rw[h.BP.len];exact g) u
   ·rcases h.BP.at_ j with i|⟨_,i|i⟩;omega;omega
    ·rcases k.BP.at_ j with t|t<;>omega
structure U3(c0:List Int)(bits m d:Nat)(c:List Int):Prop where
 le:m<=bits
 high:∀ b,b<m->iD c0 true b=true
 low:m<bits->iD c0 false m=false
 wu:x_ c0 0 m d c
end
namespace Pv
def ql(b:UInt8):ag:=.int .u8 (b.toNat:Int)
inductive PC where
 |lit (v:ag)
 |bs (n:Nat) (l:dh)
 |sl (n len:Nat) (f:Nat->List PC)
 |ow (x jm n off len:Nat)
 |ob (x jm off len:Nat)
 |pt (x jm off:Nat)
 |pk (x jm off k:Nat)
 |pe (x jm n i j:Nat)
 |pf (n len:Nat) (f:Nat->List PC) (i j:Nat)
 |fn (f:Fn) (first cap:List PC)
 |dv
 |any
 |pa (len:Nat) (f:Nat->List PC)
abbrev dw:=List PC
inductive PW where
 |one (c:PC)
 |agg (l:List PC)
inductive PV where
 |w (x:PW)
 |og (l:List PW)
 |none
abbrev jl:=List PV
inductive lu where
 |box (t:bi) (l:List PC)
 |arr (e n len:Nat) (f:Nat->List PC)
 |dead
 |dev (O:qy) (dn:jc->Prop) (l:jc)
def dx:Nat:=900000
structure Ctx where
 w:ae
 ok:Nat->Prop
 env:Nat->Option (Nat×ag)
def Ctx.cold(C:Ctx):Ctx:={ C with env:=fun _=>none }
def At(C:Ctx)(x jm:Nat)(p:ag->Prop):Prop:=∃ a b,C.env x=some (a,b)/\jm<=a/\(jm=a->p b)
def iY(g:Nat):ag:=.pointer (some ⟨g,0,none⟩)
def bJr(n off len:Nat)(v:ag)(hd:ag):Prop:=∃ A a b,hd=.slice A a b/\off+len<=a/\v=.slice (A.map (·.add (off*n))) len (b-off)
def bJs(off len:Nat)(v:ag)(hd:ag):Prop:=∃ g c,hd=iY g/\len<=c/\c<=uk/\v=.slice (some ⟨g,off,none⟩) len c
def aMp(off:Nat)(v:ag)(hd:ag):Prop:=∃ g,hd=iY g/\v=.pointer (some ⟨g,off,none⟩)
def bJq(n i j:Nat)(v:ag)(hd:ag):Prop:=∃ g a b,hd=.slice (some ⟨g,0,none⟩) a b/\i<a/\v=.pointer (some ⟨g,i*n+j,none⟩)
def YF(v:ag):Prop:=∃ b o,v=.pointer (some ⟨b,o,none⟩)
def aHC(len:Nat)(v:ag):Prop:=∃ A c,v=.slice A len c
mutual
inductive R:Ctx->PC->ji->Prop where
 |lit {C:Ctx} {v:ag} (h:v.oneCell'=true):R C (.lit v) [v]
 |bs {C:Ctx} {n:Nat} {l:dh} (h:l.length=n):R C (.bs n l) (l.map ql)
 |
  sl {C:Ctx} {n len:Nat} {f:Nat->List PC} {v:ag} {vs:ji} (hr:Reads C.w n v len vs)
  (hb:∀ g,v.ownBlock=some g->0<len->C.ok g/\g<C.w.heap.size) (he:∀ i,i<len->RL C.cold (f i) ((vs.drop (i*n)).take n)):R C (.sl n len f) [v]
 |ow {C:Ctx} {x jm n off len:Nat} {v:ag} (h1:aHC len v) (h:At C x jm (bJr n off len v)):R C (.ow x jm n off len) [v]
 |ob {C:Ctx} {x jm off len:Nat} {v:ag} (h1:aHC len v) (h:At C x jm (bJs off len v)):R C (.ob x jm off len) [v]
 |pt {C:Ctx} {x jm off:Nat} {v:ag} (h1:YF v) (h:At C x jm (aMp off v)):R C (.pt x jm off) [v]
 |pk {C:Ctx} {x jm off k:Nat} {v:ag} (h1:YF v) (h:At C x jm (aMp (off+k) v)):R C (.pk x jm off k) [v]
 |pe {C:Ctx} {x jm n i j:Nat} {v:ag} (h1:YF v) (h:At C x jm (bJq n i j v)):R C (.pe x jm n i j) [v]
 |
  pf {C:Ctx} {n len:Nat} {f:Nat->List PC} {i j b o c:Nat} {vs:ji} (hr:Reads C.w n (.slice (some ⟨b,o,none⟩) len c) len vs)
  (hb:C.ok b/\b<C.w.heap.size) (he:∀ i,i<len->RL C.cold (f i) ((vs.drop (i*n)).take n)) (hi:i<len):R C (.pf n len f i j) [.pointer (some ⟨b,o+(i*n+j),none⟩)]
 |fn {C:Ctx} {f:Fn} {first cap:List PC} {fs cs:ji} (h1:RL C first fs) (h2:RL C cap cs):R C (.fn f first cap) [.func f fs.toArray cs.toArray]
 |dv {C:Ctx} {v:ag} (h1:v.oneCell'=true) (h:At C dx 0 (fun hd=>v=hd)):R C .dv [v]
 |any {C:Ctx} {v:ag} (h:v.oneCell'=true):R C .any [v]
 |
  pa {C:Ctx} {len b o c:Nat} {f:Nat->List PC} {vs:ji} (hr:Reads C.w 1 (.slice (some ⟨b,o,none⟩) len c) len vs)
  (hb:C.ok b/\b<C.w.heap.size) (he:∀ i,i<len->RL C.cold (f i) ((vs.drop (i*1)).take 1)) (hn:0<len):R C (.pa len f) [.pointer (some ⟨b,o,none⟩)]
inductive RL:Ctx->List PC->ji->Prop where
 |nil {C:Ctx}:RL C [] []
 |cons {C:Ctx} {c:PC} {l:List PC} {xs ys:ji} (h:R C c xs) (hl:RL C l ys):RL C (c::l) (xs++ys)
end
inductive RW(C:Ctx):PW->ag->Prop where
 |one {c:PC} {v:ag} (h:R C c [v]):RW C (.one c) v
 |agg {l:List PC} {cs:kw} (h:RL C l cs.toList):RW C (.agg l) (.agg cs)
inductive RV(C:Ctx):PV->ag->Prop where
 |w {x:PW} {v:ag} (h:RW C x v):RV C (.w x) v
 |og {l:List PW} {vs:kw} (hl:l.length=vs.size) (h:∀ (i:Nat) (x:PW),l[i]?=some x->∃ v:ag,vs[i]?=some v/\RW C x v):RV C (.og l) (.tuple vs)
 |none {v:ag}:RV C .none v
structure Ctx.Le(C C':Ctx):Prop where
 size:C.w.heap.size<=C'.w.heap.size
 blk:∀ b,b<C.w.heap.size->C.ok b->C'.ok b/\C'.w.heap[b]?=C.w.heap[b]?
 env:∀ x jm hd,C.env x=some (jm,hd)->∃ VC hd',C'.env x=some (VC,hd')/\jm<=VC/\(jm=VC->hd'=hd)
theorem Ctx.Le.cold{C C':Ctx}(h:C.Le C'):C.cold.Le C'.cold:=⟨h.size,h.blk,fun _ _ _ h=>by cases h⟩
theorem Ctx.Le.cell{C C':Ctx}(h:C.Le C'){b:Nat}(hb:b<C.w.heap.size)(a:C.ok b)(o:Nat):C'.w.cell? ⟨b,o,none⟩=C.w.cell? ⟨b,o,none⟩:=World.cell?_of_block (w:=C.w) (h.blk b hb a).2
theorem At.mono{C:Ctx}{x jm:Nat}{p q:ag->Prop}(h:At C x jm p)(c:∀ a,p a->q a):At C x jm q:=by obtain⟨b,a,g,f,d⟩:=h;exact⟨b,a,g,f,fun e=>c a (d e)⟩
theorem At.le{C C':Ctx}(h:C.Le C'){x jm:Nat}{p:ag->Prop}(f:At C x jm p):At C' x jm p:=by
 obtain⟨c,d,m,l,k⟩:=f;obtain⟨a,b,j,i,g⟩:=h.env x c d m
 exact⟨a,b,j,PP l i,fun e=>by
  have n:c=a:=a_;rw[g n]
  exact k a_⟩
theorem aKs{C C':Ctx}(h:C.Le C'){n len:Nat}{v:ag}{vs:ji}(hr:Reads C.w n v len vs)(hb:∀ g,v.ownBlock=some g->0<len->C.ok g/\g<C.w.heap.size):Reads C'.w n v len vs:=by obtain⟨m,A,c,rfl,l,k,i⟩:=hr;refine⟨m,A,c,rfl,l,k,fun d=>?_⟩;obtain⟨b,o,rfl,f⟩:=i d;have a:=hb b rfl d;exact⟨b,o,rfl,fun j u e=>by rw[h.cell a.2 a.1];exact f j u e⟩
theorem R.le{C C':Ctx}{c:PC}{xs:ji}(hr:R C c xs)(h:C.Le C'):R C' c xs:=by
 refine R.rec (motive_1:=fun C c xs _=>∀ C',C.Le C'->R C' c xs) (motive_2:=fun C l xs _=>∀ C',C.Le C'->RL C' l xs) ?_ ?_ ?_ ?_ ?_ ?_ ?_ ?_ ?_ ?_ ?_ ?_ ?_ ?_ ?_ hr C' h;intro C v h C' a;exact .lit h;intro C n l h C' a;exact .bs h;intro C n len f v z hr d A u C' a;exact .sl (aKs a hr d) (fun g t y=>⟨(a.blk g (d g t y).2 (d g t y).1).1,YX (d g t y).2 a.size⟩) (fun i s=>u i s _ a.cold);intro C x m n p len v e h C' a;exact .ow e (h.le a);intro C x m p len v e h C' a;exact .ob e (h.le a);intro C x m p v e h C' a;exact .pt e (h.le a);intro C x m p k v e h C' a;exact .pk e (h.le a);intro C x m n i j v e h C' a;exact .pe e (h.le a);intro C n len f i j b o c z hr d A s u C' a;exact .pf (aKs a hr (fun g t _=>by cases t;exact d)) ⟨(a.blk b d.2 d.1).1,YX d.2 a.size⟩ (fun i s=>u i s _ a.cold) s
 ·intro C f first cap F G e B r q C' a;exact .fn (r _ a) (q _ a)
 intro C v e B C' a;exact .dv e (B.le a);intro C v h C' a;exact .any h;intro C len b o c f z hr d A D u C' a;exact .pa (aKs a hr (fun g t _=>by cases t;exact d)) ⟨(a.blk b d.2 d.1).1,YX d.2 a.size⟩ (fun i s=>u i s _ a.cold) D;intro C C' a;exact .nil;intro C c l xs E h a r q C' w;exact .cons (r _ w) (q _ w)
theorem RL.le{C C':Ctx}{l:List PC}{xs:ji}(hr:RL C l xs)(h:C.Le C'):RL C' l xs:=by
 induction l generalizing xs with
 |nil=>cases hr;exact .nil|cons c l a=>cases hr with|cons d b=>exact .cons (d.le h) (a b)
theorem RW.le{C C':Ctx}{x:PW}{v:ag}(hr:RW C x v)(h:C.Le C'):RW C' x v:=by
 cases hr with
 |one a=>exact .one (a.le h)|agg a=>exact .agg (a.le h)
theorem RV.le{C C':Ctx}{x:PV}{v:ag}(hr:RV C x v)(h:C.Le C'):RV C' x v:=by
 cases hr with
 |w c=>exact .w (c.le h)|og e c=>exact .og e (fun i x d=>let ⟨v,a,b⟩:=c i x d;⟨v,a,b.le h⟩)|none=>exact .none
def PC.width:PC->Nat
 |.bs n _=>n|_=>1
def widths:List PC->Nat
 |[]=>0|c::l=>c.width+widths l
theorem R.width{C:Ctx}{c:PC}{xs:ji}(h:R C c xs):xs.length=c.width:=by cases h<;>simp_all [PC.width]
theorem RL.width{C:Ctx}{l:List PC}{xs:ji}(h:RL C l xs):xs.length=widths l:=by
 induction l generalizing xs with
 |nil=>cases h;rfl|cons c l a=>cases h with|cons d b=>rw[gp,d.width,a b];rfl
theorem R.ones{C:Ctx}{c:PC}{xs:ji}(h:R C c xs):∀ u∈xs,u.oneCell'=true:=by
 cases h with
 |lit h=>intro u a;simp at a;subst a;exact h|bs h=>intro u a;obtain⟨b,_,rfl⟩:=List.mem_map.1 a;rfl
 |sl e g f=>intro u a;simp at a;subst a;obtain⟨_,A,c,rfl,_⟩:=e;rfl
 |ow d _=>intro u a;simp at a;subst a;obtain⟨_,_,rfl⟩:=d;rfl
 |ob d _=>intro u a;simp at a;subst a;obtain⟨_,_,rfl⟩:=d;rfl
 |pt d _=>intro u a;simp at a;subst a;obtain⟨_,_,rfl⟩:=d;rfl
 |pk d _=>intro u a;simp at a;subst a;obtain⟨_,_,rfl⟩:=d;rfl
 |pe d _=>intro u a;simp at a;subst a;obtain⟨_,_,rfl⟩:=d;rfl
 |pf _ _ _ _=>intro u a;simp at a;subst a;rfl|fn _ _=>intro u a;simp at a;subst a;rfl|dv d _=>intro u a;simp at a;subst a;exact d|any d=>intro u a;simp at a;subst a;exact d|pa _ _ _ _=>intro u a;simp at a;subst a;rfl
theorem RL.ones{C:Ctx}{l:List PC}{xs:ji}(h:RL C l xs):∀ u∈xs,u.oneCell'=true:=by
 induction l generalizing xs with
 |nil=>cases h;intro u a;cases a| cons c l b=>
  cases h with
  |cons e d=>intro u a;rcases List.mem_append.1 a with a|a;exact e.ones u a;exact b d u a
theorem RL.append{C:Ctx}{l m:List PC}{xs ys:ji}(h:RL C l xs)(k:RL C m ys):RL C (l++m) (xs++ys):=by
 induction l generalizing xs with
 |nil=>cases h;exact k|cons c l a=>cases h with|cons d b=>rw[Pi];exact .cons d (a b)
theorem RL.single{C:Ctx}{c:PC}{ys:ji}(h:RL C [c] ys):R C c ys:=by
 cases h with
 |cons b a=>cases a;simpa using b
def qN:List PC->Nat->Nat->Option (List PC)
 |[],0,0=>some []|[],_,_=>none|c::l,0,n=>if n=0 then some [] else if c.width<=n then (qN l 0 (n-c.width)).map (c::·) else none|c::l,off+1,n=>if c.width<=off+1 then qN l (off+1-c.width) n else none
theorem RL.sub{C:Ctx}:∀ {l:List PC} {b n:Nat} {m:List PC} {d:ji},RL C l d->qN l b n=some m->RL C m ((d.drop b).take n)/\b+n<=d.length:=by
 intro l
 induction l with
 |nil=>
  intro b n m d h a;cases h
  match b,n with
  |0,0=>simp[qN] at a;subst a;exact⟨by simpa using RL.nil,b_⟩|0,n+1=>simp[qN] at a|b+1,n=>simp[qN] at a
 | cons c l i=>
  intro b n m d h a;cases h with
  | @cons _ _ _ s r p o=>
   have j:=p.width
   match b with
   | 0=>
    unfold qN at a;by_cases k:n=0;subst k;simp at a;subst a;exact⟨by simpa using RL.nil,b_⟩;rw[ay k] at a;by_cases e:c.width<=n;rw[au e] at a;cases g:qN l 0 (n-c.width) with
    |none=>rw[g] at a;cases a|some t=>rw[g] at a;simp at a;subst a;obtain⟨f,q⟩:=i o g;refine⟨?_,by rw[gp];omega⟩;rw[Yh,aBM,YY a_,j];exact .cons p (by simpa using f)
    rw[ay e] at a;cases a
   |b+1=>unfold qN at a;by_cases e:c.width<=b+1;rw[au e] at a;obtain⟨f,q⟩:=i o a;refine⟨?_,by rw[gp];omega⟩;rw[aFA,aAE a_,Ha,j];exact f;rw[ay e] at a;cases a
structure St where
 t:List (Nat×mi×PV)
 o:List (Nat×mi×Nat×lu)
def find{a:Type}:List (Nat×a)->Nat->Option a
 |[],_=>none|(k,x)::r,t=>match bu k t with
  |true=>some x|false=>find r t
theorem aF{a:Type}(k:Nat)(x:a)(r:List (Nat×a)):find ((k,x)::r) k=some x:=by simp[find]
theorem aC{a:Type}{k t:Nat}(x:a)(r:List (Nat×a))(h:k≠t):find ((k,x)::r) t=find r t:=by
 have:bu k t=false:=by
  cases b:bu k t with
  |false=>rfl|true=>exact absurd (Nat.eq_of_beq_eq_true b) h
 simp only[find,this]
theorem nY{a:Type}{t:Nat}:∀ (l r:List (Nat×a)),(∀ p∈l,p.1≠t)->find (l++r) t=find r t
 |[],_,_=>rfl|(k,x)::l,r,h=>by rw[yz,aC _ _ (h (k,x) MM)];exact nY l r (fun p b=>h p (VM _ b))
theorem rF{e:Type}{t:Nat}:∀ (l r b:List (Nat×e)),(find r t=find b t\/∃ p∈l,p.1=t)->find (l++r) t=find (l++b) t
 |[],_,_,h=>by
  rcases h with h|⟨p,a,_⟩;exact h
  cases a
 |(k,x)::l,r,b,h=>by
  by_cases c:k=t;subst c;rw[yz,yz,aF,aF];rw[yz,yz,aC _ _ c,aC _ _ c];refine rF l r b (h.imp id fun⟨p,a,d⟩=>?_);rcases List.mem_cons.1 a with rfl|a;exact absurd d c
  exact⟨p,a,d⟩
inductive M where
 |ret (v:PV)
 |fail
 |need (p:Prop) (k:M)
 |tmp (t:Nat) (k:mi->PV->M)
 |obj (x:Nat) (k:mi->Nat->lu->M)
 |new (x:Nat) (o:lu) (k:Nat->M)
 |upd (x:Nat) (jm:Nat) (o:lu) (k:M)
 |gate (b:Bool) (k:M)
abbrev Wr:=List (Nat×mi×Nat×lu)
def fresh(s:St)(x:Nat):Nat:=match find s.o x with
 |some (_,vr,_)=>vr+1|none=>0
structure Out where
 g:mi
 val:PV
 conds:List Prop
 rt:List Nat
 ro:List Nat
 wr:Wr
def hP(h:mi)(p:Prop):Prop:=match h with
 |none=>p|some b=>b=true->p
def M.run:M->mi->St->Option Out
 |.ret v,h,_=>some ⟨h,v,[],[],[],[]⟩|.fail,_,_=>none|.need p k,h,s=>match k.run h s with
  |some o=>some { o with conds:=hP h p::o.conds }
  |none=>none
 | .tmp t k,h,s=>match find s.t t with
  |some (g,v)=>(match (k g v).run h s with
   |some o=>some { o with rt:=t::o.rt }
   |none=>none)
  |none=>none
 | .obj x k,h,s=>match find s.o x with
  |some (g,vr,ob)=>(match (k g vr ob).run h s with
   |some o=>some { o with ro:=x::o.ro }
   |none=>none)
  |none=>none
 |
  .new x ob k,h,s=>match (k (fresh s x)).run h s with
  |some o=>some { o with ro:=x::o.ro,wr:=(x,h,fresh s x,ob)::o.wr }
  |none=>none
 | .upd x vr ob k,h,s=>match h with
  |none=>(match k.run h s with
   |some o=>some { o with wr:=(x,none,vr,ob)::o.wr }
   |none=>none)
  |some _=>none
 |.gate b k,h,s=>match h with
  |none=>k.run (some b) s|some _=>none
theorem M.frame:∀ (m:M) (h:mi) (s c:St) (o:Out),m.run h s=some o->(∀ t∈o.rt,find c.t t=find s.t t)->(∀ x∈o.ro,find c.o x=find s.o x)->m.run h c=some o:=by
 intro m
 induction m with
 |ret v=>intro d s c o h _ _;exact h|fail=>intro d s c o h;cases h|need p k i=>
  intro d s c o h f e;unfold M.run at h ⊢;cases a:k.run d s with
  |none=>rw[a] at h;cases h|some q=>rw[a] at h;cases h;rw[i d s c q a f e]
 | tmp t k i=>
  intro d s c o h f e;unfold M.run at h ⊢;cases j:find s.t t with
  |none=>rw[j] at h;cases h| some p=>
   obtain⟨g,v⟩:=p;rw[j] at h;dsimp only at h;cases a:(k g v).run d s with
   |none=>rw[a] at h;cases h|some q=>rw[a] at h;cases h;rw[f t MM,j];dsimp only;rw[i g v d s c q a (fun t l=>f t (VM _ l)) e]
 | obj x k i=>
  intro d s c o h f e;unfold M.run at h ⊢;cases j:find s.o x with
  |none=>rw[j] at h;cases h| some p=>
   obtain⟨g,r,n⟩:=p;rw[j] at h;dsimp only at h;cases a:(k g r n).run d s with
   |none=>rw[a] at h;cases h|some q=>rw[a] at h;cases h;rw[e x MM,j];dsimp only;rw[i g r n d s c q a f (fun t l=>e t (VM _ l))]
 | new x n k i=>
  intro d s c o h f e;unfold M.run at h ⊢;cases a:(k (fresh s x)).run d s with
  |none=>rw[a] at h;cases h|some q=>
   rw[a] at h;cases h;have u:fresh c x=fresh s x:=by unfold fresh;rw[e x MM]
   rw[u,i _ d s c q a f (fun t l=>e t (VM _ l))]
 | upd x r n k i=>
  intro d s c o h f e;unfold M.run at h ⊢;cases d with
  |some b=>cases h|none=>
   dsimp only at h ⊢;cases a:k.run none s with
   |none=>rw[a] at h;cases h|some q=>rw[a] at h;cases h;rw[i none s c q a f e]
 |gate b k i=>
  intro d s c o h f e;unfold M.run at h ⊢;cases d with
  |some b=>cases h|none=>exact i _ s c o h f e
def M.ok:M->mi->St->(mi->PV->Wr->Prop)->Prop
 |.ret v,h,_,F=>F h v []|.fail,_,_,_=>False|.need p k,h,s,F=>hP h p/\k.ok h s F|.tmp t k,h,s,F=>∃ g v,find s.t t=some (g,v)/\(k g v).ok h s F|.obj x k,h,s,F=>∃ g c a,find s.o x=some (g,c,a)/\(k g c a).ok h s F|.new x a k,h,s,F=>(k (fresh s x)).ok h s (fun d v wr=>F d v ((x,h,fresh s x,a)::wr))|.upd x c a k,h,s,F=>h=none/\k.ok h s (fun d v wr=>F d v ((x,none,c,a)::wr))|.gate b k,h,s,F=>h=none/\k.ok (some b) s F
theorem M.y8:∀ (m:M) (c:mi) (s:St) (a:Out) (F:mi->PV->Wr->Prop),m.run c s=some a->(∀ p∈a.conds,p)->F a.g a.val a.wr->m.ok c s F:=by
 intro m
 induction m with
 |ret v=>intro c s a F h _ e;cases h;exact e|fail=>intro c s a F h;cases h|need p k i=>
  intro c s a F h f e;unfold M.run at h;cases d:k.run c s with
  |none=>rw[d] at h;cases h|some q=>rw[d] at h;cases h;exact⟨f _ MM,i c s q F d (fun r u=>f r (VM _ u)) e⟩
 | tmp t k i=>
  intro c s a F h f e;unfold M.run at h;cases j:find s.t t with
  |none=>rw[j] at h;cases h|some p=>
   obtain⟨g,v⟩:=p;rw[j] at h;dsimp only at h;cases d:(k g v).run c s with
   |none=>rw[d] at h;cases h|some q=>rw[d] at h;cases h;exact⟨g,v,j,i g v c s q F d f e⟩
 | obj x k i=>
  intro c s a F h f e;unfold M.run at h;cases j:find s.o x with
  |none=>rw[j] at h;cases h|some p=>
   obtain⟨g,n,l⟩:=p;rw[j] at h;dsimp only at h;cases d:(k g n l).run c s with
   |none=>rw[d] at h;cases h|some q=>rw[d] at h;cases h;exact⟨g,n,l,j,i g n l c s q F d f e⟩
 |new x l k i=>
  intro c s a F h f e;unfold M.run at h;cases d:(k (fresh s x)).run c s with
  |none=>rw[d] at h;cases h|some q=>rw[d] at h;cases h;exact i _ c s q _ d f e
 | upd x n l k i=>
  intro c s a F h f e;unfold M.run at h;cases c with
  |some b=>cases h|none=>
   dsimp only at h;cases d:k.run none s with
   |none=>rw[d] at h;cases h|some q=>rw[d] at h;cases h;exact⟨rfl,i none s q _ d f e⟩
 |gate b k i=>
  intro c s a F h f e;unfold M.run at h;cases c with
  |some b=>cases h|none=>exact⟨rfl,i _ s a F h f e⟩
def app(d:Option Nat)(o:Out)(s:St):St:=
 {
  t:=(match d with
  |some d=>(d,o.g,o.val)::s.t|none=>s.t),o:=o.wr++s.o }
def qX(b:Nat->df->M):Nat->List df->St->Option (List (Option Nat×Out)×St)
 |_,[],s=>some ([],s)| i,o::l,s=>match (b i o).run none s with
  |some out=>(match qX b (i+1) l (app o.dst out s) with
   |some (a,c)=>some ((o.dst,out)::a,c)|none=>none)
  |none=>none
def merge(L:Nat->Bool):Nat->List (Option Nat×Out)->St->St
 |_,[],s=>s|i,(d,o)::l,s=>merge L (i+1) l (if L i=true then app d o s else s)
def Hl(d:Option Nat)(t:Nat):Prop:=d=some t
def V9(o:Out)(x:Nat):Prop:=∃ p∈o.wr,p.1=x
theorem aRc{d:Option Nat}{o:Out}{s:St}{t:Nat}(h:¬Hl d t):find (app d o s).t t=find s.t t:=by
 cases d with
 |none=>rfl|some d=>unfold app;dsimp only;rw[aC _ _ (fun e=>h (by rw[e];rfl))]
theorem aRb{d:Option Nat}{o:Out}{s s':St}{t:Nat}(h:Hl d t):find (app d o s).t t=find (app d o s').t t:=by unfold Hl at h;subst h;unfold app;dsimp only;rw[aF,aF]
theorem aRe{d:Option Nat}{o:Out}{s:St}{x:Nat}(h:¬V9 o x):find (app d o s).o x=find s.o x:=nY _ _ (fun p a e=>h ⟨p,a,e⟩)
theorem aRd{d:Option Nat}{o:Out}{s s':St}{x:Nat}(h:V9 o x):find (app d o s).o x=find (app d o s').o x:=rF _ _ _ (.inr h)
theorem aFj{t:Nat}{L f:Nat->Bool}:∀ (l:List (Option Nat×Out)) (i:Nat) (s e:St),find s.t t=find e.t t->(∀ j p,l[j]?=some p->Hl p.1 t->L (i+j)=f (i+j))->find (merge L i l s).t t=find (merge f i l e).t t
 |[],_,_,_,h,_=>h| (d,o)::l,i,s,e,h,ha=>by
  refine aFj l (i+1) _ _ ?_ (fun j p k a=>by rw[Yt,ZB 1];exact ha (j+1) p (by simpa using k) a);by_cases a:Hl d t;have:=ha 0 (d,o) rfl a;rw[ZA] at this;rw[this];by_cases c:f i=true;rw[au c,au c];exact aRb a;rw[ay c,ay c];exact h;have g:∀ (b:Bool) (z:St),find (if b=true then app d o z else z).t t=find z.t t:=fun b z=>by cases b;rfl;exact aRc a
  rw[g,g];exact h
theorem aFm{x:Nat}{L f:Nat->Bool}:∀ (l:List (Option Nat×Out)) (i:Nat) (s e:St),find s.o x=find e.o x->(∀ j p,l[j]?=some p->V9 p.2 x->L (i+j)=f (i+j))->find (merge L i l s).o x=find (merge f i l e).o x
 |[],_,_,_,h,_=>h| (d,o)::l,i,s,e,h,ha=>by
  refine aFm l (i+1) _ _ ?_ (fun j p k a=>by rw[Yt,ZB 1];exact ha (j+1) p (by simpa using k) a);by_cases a:V9 o x;have:=ha 0 (d,o) rfl a;rw[ZA] at this;rw[this];by_cases c:f i=true;rw[au c,au c];exact aRd a;rw[ay c,ay c];exact h;have g:∀ (b:Bool) (z:St),find (if b=true then app d o z else z).o x=find z.o x:=fun b z=>by cases b;rfl;exact aRe a
  rw[g,g];exact h
theorem qZ:∀ (l:List (Option Nat×Out)) (i:Nat) (s:St) (L:Nat->Bool),(∀ j,j<l.length->L (i+j)=false)->merge L i l s=s
 |[],_,_,_,_=>rfl|(d,o)::l,i,s,L,h=>by have a:=h 0 b_;rw[ZA] at a;rw[merge,a];exact qZ l (i+1) s L (fun j b=>by have:=h (j+1) (by simpa using b);rwa [Yt,ZB 1])
theorem aFk{t:Nat}{L:Nat->Bool}:∀ (l:List (Option Nat×Out)) (i k:Nat) (s:St) (d:Option Nat) (o:Out),l[k]?=some (d,o)->Hl d t->(∀ j p,l[j]?=some p->k<j->Hl p.1 t->L (i+j)=false) ->
  find (app d o (merge L i l s)).t t=find (merge (fun j=>if j=i+k then true else L j) i l s).t t
 |[],_,_,_,_,_,h,_,_=>by simp at h| (e,c)::l,i,0,s,d,o,h,hw,ha=>by
  obtain⟨rfl,rfl⟩:e=d/\c=o:=by simpa using h
  rw[merge,merge,show (if i=i+0 then true else L i)=true from au rfl,au rfl,aRb (s':=s) hw]
  have m:merge (fun j=>if j=i+0 then true else L j) (i+1) l (app e c s)=merge L (i+1) l (app e c s):=by
   have:∀ (l:List (Option Nat×Out)) (a:Nat) (s:St),i<a->merge (fun j=>if j=i+0 then true else L j) a l s=merge L a l s:=by
    intro l
    induction l with
    |nil=>intro a s _;rfl|cons p l g=>intro a s q;obtain⟨d,o⟩:=p;rw[merge,merge];rw[ay (show ¬a=i+0 by omega)];exact g (a+1) _ a_
   exact this l (i+1) _ a_
  rw[m];refine Eq.trans ?_ (aFj (L:=fun _=>false) l (i+1) (app e c s) _ rfl (fun j p f b=>?_));rw[qZ l (i+1) _ _ (fun _ _=>rfl)];have:=ha (j+1) p (by simpa using f) a_ b;rw[Yt,ZB 1,this]
 | (e,c)::l,i,k+1,s,d,o,h,hw,ha=>by
  rw[merge,merge];rw[ay (show ¬i=i+(k+1) by omega)]
  have:=aFk (t:=t) (L:=L) l (i+1) k (if L i=true then app e c s else s) d o (by simpa using h) hw (fun j p f n b=>by
   have:=ha (j+1) p (by simpa using f) a_ b
   rwa [Yt,ZB 1])
  rw[this,show i+1+k=i+(k+1) from a_]
theorem aFl{x:Nat}{L:Nat->Bool}:∀ (l:List (Option Nat×Out)) (i k:Nat) (s:St) (d:Option Nat) (o:Out),l[k]?=some (d,o)->V9 o x->(∀ j p,l[j]?=some p->k<j->V9 p.2 x->L (i+j)=false) ->
  find (app d o (merge L i l s)).o x=find (merge (fun j=>if j=i+k then true else L j) i l s).o x
 |[],_,_,_,_,_,h,_,_=>by simp at h| (e,c)::l,i,0,s,d,o,h,hw,ha=>by
  obtain⟨rfl,rfl⟩:e=d/\c=o:=by simpa using h
  rw[merge,merge,show (if i=i+0 then true else L i)=true from au rfl,au rfl,aRd (s':=s) hw]
  have m:merge (fun j=>if j=i+0 then true else L j) (i+1) l (app e c s)=merge L (i+1) l (app e c s):=by
   have:∀ (l:List (Option Nat×Out)) (a:Nat) (s:St),i<a->merge (fun j=>if j=i+0 then true else L j) a l s=merge L a l s:=by
    intro l
    induction l with
    |nil=>intro a s _;rfl|cons p l g=>intro a s q;obtain⟨d,o⟩:=p;rw[merge,merge];rw[ay (show ¬a=i+0 by omega)];exact g (a+1) _ a_
   exact this l (i+1) _ a_
  rw[m];refine Eq.trans ?_ (aFm (L:=fun _=>false) l (i+1) (app e c s) _ rfl (fun j p f b=>?_));rw[qZ l (i+1) _ _ (fun _ _=>rfl)];have:=ha (j+1) p (by simpa using f) a_ b;rw[Yt,ZB 1,this]
 | (e,c)::l,i,k+1,s,d,o,h,hw,ha=>by
  rw[merge,merge];rw[ay (show ¬i=i+(k+1) by omega)]
  have:=aFl (x:=x) (L:=L) l (i+1) k (if L i=true then app e c s else s) d o (by simpa using h) hw (fun j p f n b=>by
   have:=ha (j+1) p (by simpa using f) a_ b
   rwa [Yt,ZB 1])
  rw[this,show i+1+k=i+(k+1) from a_]
theorem aNy{c:Nat->df->M}:∀ (l:List df) (i:Nat) (s d:St) (a:List (Option Nat×Out)),qX c i l s=some (a,d) ->
  a.length=l.length/\d=merge (fun _=>true) i a s/\∀ k o,l[k]?=some o->∃ b,a[k]?=some (o.dst,b)/\(c (i+k) o).run none (merge (fun j=>decide (j<i+k)) i a s)=some b
 |[],i,s,d,a,h=>by
  obtain⟨rfl,rfl⟩:[]=a/\s=d:=by simpa[qX] using h
  exact⟨rfl,rfl,fun k o f=>by simp at f⟩
 | o :: l,i,s,d,a,h=>by
  unfold qX at h;cases m:(c i o).run none s with
  |none=>rw[m] at h;cases h| some b=>
   rw[m] at h;dsimp only at h;cases n:qX c (i+1) l (app o.dst b s) with
   |none=>rw[n] at h;cases h| some p=>
    obtain⟨g,y⟩:=p;rw[n] at h;cases h;obtain⟨x,w,u⟩:=aNy l (i+1) _ _ _ n;refine⟨by simp[x],by rw[merge,au rfl];exact w,fun k q f=>?_⟩
    match k with
    |0=>
     obtain rfl:o=q:=by simpa using f
     refine⟨b,rfl,?_⟩;rw[ZA,qZ _ i s _ (fun j _=>b_)];exact m
    |k+1=>obtain⟨e,t,r⟩:=u k q (by simpa using f);refine⟨e,by simpa using t,?_⟩;rw[merge,au b_,show i+(k+1)=i+1+k from a_];exact r
def masks(md:Region.Mode):List df->List Nat->List Nat
 |[],a=>a
 |
  o::l,a=>masks md l (a++[o.after.toList.foldl (fun m e=>match Region.binds md e with
  |true=>Nat.lor m (Nat.lor (Nat.shiftLeft 1 e.on) (a.getD e.on 0))|false=>m) 0])
inductive PU(md:Region.Mode)(ops:Array df):Nat->Nat->Prop where
 |edge {i:Nat} {o:df} {e:Edge} (ho:ops[i]?=some o) (he:e∈o.after) (hb:Region.binds md e=true):PU md ops i e.on
 |trans {i j k:Nat} (h:PU md ops i j) (h':PU md ops j k):PU md ops i k
def bJt(md:Region.Mode)(ops:Array df)(a:List Nat):Prop:=∀ i m,a[i]?=some m->∀ k,m.testBit k=true->PU md ops i k
theorem aIy{md:Region.Mode}{ops:Array df}{b:List Nat}(d:bJt md ops b){i:Nat}{o:df}(n:ops[i]?=some o) :
  ∀ (l:List Edge) (m:Nat),(∀ e∈l,e∈o.after)->(∀ k,m.testBit k=true->PU md ops i k) ->
   ∀ k,(l.foldl (fun m e=>match Region.binds md e with|true=>Nat.lor m (Nat.lor (Nat.shiftLeft 1 e.on) (b.getD e.on 0))|false=>m) m).testBit k=true->PU md ops i k
 |[],m,_,g,k,h=>g k h| e::l,m,hes,g,k,h=>by
  rw[List.foldl_cons] at h;refine aIy d n l _ (fun u a=>hes u (VM _ a)) (fun f a=>?_) k h;have c:=hes e MM;cases j:Region.binds md e with
  |false=>rw[j] at a;exact g f a| true=>
   rw[j] at a;dsimp only at a;change (m ||| (1 <<< e.on ||| b.getD e.on 0)).testBit f=true at a;rw[Nat.testBit_or,Nat.testBit_or,aAR,aAR] at a;rcases a with a|a|a;exact g f a
   have s:f=e.on:=by
    rw[Nat.testBit_shiftLeft,ww] at a;have q:=a.2;have w:e.on<=f:=by simpa using a.1
    rcases Nat.eq_zero_or_pos (f-e.on) with t|t;omega;rw[Nat.testBit_lt_two_pow (Nat.one_lt_two_pow a_)] at q;cases q
   subst s;exact .edge n c j;cases p:b[e.on]? with
   |none=>rw[zG,p] at a;simp at a|some r=>rw[zG,p] at a;exact .trans (.edge n c j) (d e.on r p f a)
theorem aWe{md:Region.Mode}{ops:Array df}:∀ (l:List df) (a:List Nat),bJt md ops a->(∀ k o,l[k]?=some o->ops[a.length+k]?=some o)->bJt md ops (masks md l a)
 |[],_,h,_=>h|o::l,a,h,hl=>by
  refine aWe l _ (fun i m b k c=>?_) (fun k g c=>?_);rcases aFB i a.length with d|f|p;rw[YW d] at b;exact h i m b k c;subst f;rw[Ye (dC _),Yf] at b;rw[Yv,Option.some.injEq] at b;subst b;exact aIy h (by simpa using hl 0 o rfl) _ 0 (fun e q=>Array.mem_toList_iff.1 q) (fun k c=>by simp at c) k c;rw[Ye a_] at b;have:i-a.length≠0:=a_
  cases j:i-a.length with
  |zero=>omega|succ n=>rw[j] at b;simp at b
  rw[gp];have:=hl (k+1) g (by simpa using c);simpa[Yt,ZB 1] using this
def meet(a b:List Nat):Bool:=a.any fun x=>b.any fun y=>bu x y
theorem aBg{a b:List Nat}{x:Nat}(h:x∈a)(k:x∈b):meet a b=true:=List.any_eq_true.2 ⟨x,h,List.any_eq_true.2 ⟨x,k,b_⟩⟩
def clash(p q:Option Nat×Out):Bool:=
 let a (p:Option Nat×Out):=p.1.toList;let b (p:Option Nat×Out):=p.2.wr.map (·.1)
 meet (a p) (a q)||meet (a p) q.2.rt||meet p.2.rt (a q)||meet (b p) (b q)||meet (b p) q.2.ro||meet p.2.ro (b q)
def aGq:List (Option Nat×Out)->List (Nat×Option Nat×Out)->List Nat->Bool
 |[],_,_=>true|_::_,_,[]=>false|p::l,seen,m::ms=>(seen.all fun q=>!(clash q.2 p)||m.testBit q.1)&&aGq l (seen++[(seen.length,p)]) ms
theorem aCm:∀ (l:List (Option Nat×Out)) (a:List (Nat×Option Nat×Out)) (g:List Nat),aGq l a g=true->(∀ (j:Nat) (q:Nat×Option Nat×Out),a[j]?=some q->q.1=j) ->
  ∀ j k p q,j<k->((a.map (·.2))++l)[j]?=some q->l[k-a.length]?=some p->a.length<=k->clash q p=true->∃ m,g[k-a.length]?=some m/\m.testBit j=true
 |[],_,_,_,_,j,k,p,q,_,_,e,_,_=>by simp at e|p0::l,a,[],h,_,_,_,_,_,_,_,_,_,_=>by cases h| p0::l,a,m::g,h,hs,j,k,p,q,hjk,hq,e,hk,hc=>by
  rw[aGq,ww] at h;rcases Nat.eq_or_lt_of_le hk with i|s;rw[<-i,Yf] at e ⊢
  obtain rfl:p0=p:=by simpa using e
  refine⟨m,rfl,?_⟩;rw[YW (by rw[YU];omega),XN] at hq;cases b:a[j]? with
  |none=>rw[b] at hq;cases hq|some z=>
   rw[b] at hq;obtain rfl:z.2=q:=by simpa using hq
   have c:=List.all_eq_true.1 h.1 z (ZO b);rw[hc,hs j z b] at c;simpa using c
  have f:(a++[(a.length,p0)]).length=a.length+1:=b_
  have:=aCm l (a++[(a.length,p0)]) g h.2 (fun j q d=>by
   rcases aFB j a.length with c|c|c;rw[YW c] at d;exact hs j q d;subst c;rw[Ye (dC _),Yf] at d
   obtain rfl:_=q:=by simpa using d
   rfl;rw[Ye a_] at d
   cases r:j-a.length with
   |zero=>omega|succ n=>rw[r] at d;simp at d) j k p q hjk (by simpa using hq) (by
    rw[f];rw[show k-a.length=(k-(a.length+1))+1 from a_] at e
    simpa using e) a_ hc
  rw[f] at this;obtain⟨o,c,t⟩:=this;exact⟨o,by rw[show k-a.length=(k-(a.length+1))+1 from a_];simpa using c,t⟩
def bJa(md:Region.Mode):List df->Nat->Bool
 |[],_=>true|o::l,i=>(o.after.toList.all fun e=>match Region.binds md e with|true=>Hm e.on i|false=>true)&&bJa md l (i+1)
theorem aJq{md:Region.Mode}:∀ (l:List df) (i:Nat),bJa md l i=true->∀ k o,l[k]?=some o->∀ e∈o.after,Region.binds md e=true->e.on<i+k
 |[],_,_,k,o,a=>by simp at a| o0::l,i,h,k,o,a=>by
  rw[bJa,ww] at h;intro e b c
  match k with
  |0=>
   obtain rfl:o0=o:=by simpa using a
   have:=List.all_eq_true.1 h.1 e (Array.mem_toList_iff.2 b);rw[c] at this;have d:Hm e.on i=true:=this;have f:e.on+1<=i:=by simpa[Hm] using d
   omega
  |k+1=>have:=aJq l (i+1) h.2 k o (by simpa using a) e b c;omega
section
variable {P:dE} {ops:Array df} {Q:Exit->Act->je}
def Fb(P:dE)(ops:Array df)(Q:Exit->Act->je)(G:St->Act->je)(c:Nat->df->M):Prop:=
 ∀ i o s a w b,ops[i]?=some o->G s a w->(c i o).run none s=some b->(∀ p∈b.conds,p) ->
  ∀ K:Act->ae->Prop,(∀ e d,G (app o.dst b s) e d->K e d)->wpOp P ops Q i K a w
def Finds(G:St->Act->je):Prop:=∀ s b a w,(∀ t,find s.t t=find b.t t)->(∀ x,find s.o x=find b.o x)->G s a w->G b a w
theorem uF{G:St->Act->je}{c:Nat->df->M}(f:Fb P ops Q G c) :
  ∀ (l:List df) (i:Nat) (s e:St) (b:List (Option Nat×Out)) (a:Act) (w:ae),(∀ k o,l[k]?=some o->ops[i+k]?=some o)->qX c i l s=some (b,e)->(∀ q∈b,∀ p∈q.2.conds,p)->G s a w ->
   (∀ j g,G e j g->Q .normal j g)->wpOps P ops Q (List.range' i l.length) a w
 |[],i,s,e,b,a,w,_,h,_,u,x=>by
  obtain⟨rfl,rfl⟩:[]=b/\s=e:=by simpa[qX] using h
  exact x a w u
 | o::l,i,s,e,b,a,w,hl,h,hc,u,x=>by
  unfold qX at h;cases m:(c i o).run none s with
  |none=>rw[m] at h;cases h| some out=>
   rw[m] at h;dsimp only at h;cases r:qX c (i+1) l (app o.dst out s) with
   |none=>rw[r] at h;cases h|some p=>obtain⟨d,B⟩:=p;rw[r] at h;cases h;rw[zl,List.range'_succ,wpOps_cons];refine f i o s a w out (by simpa using hl 0 o rfl) u m (fun p z=>hc _ MM p z) _ (fun j g t=>?_);exact uF f l (i+1) _ e d j g (fun k y A=>by rw[Yt,ZB 1];exact hl (k+1) y (by simpa using A)) r (fun q n=>hc q (VM _ n)) t x
theorem aRo{G:St->Act->je}{a0:Nat->df->M}(c0:Fb P ops Q G a0)(N:Finds G){y s':St}{outs:List (Option Nat×Out)}
  (a7:qX a0 0 ops.toList y=some (outs,s')) (hc:∀ q∈outs,∀ p∈q.2.conds,p) (hb:bJa .any ops.toList 0=true) (c5:aGq outs [] (masks .any ops.toList [])=true)
  (hQ:∀ a' w',G s' a' w'->Q .normal a' w') :
  ∀ (C:Nat) (b:Array Bool) (a:Act) (w:ae),b.size=ops.size->(b.toList.countP (·==false))<=C ->
   (∀ i o,ops[i]?=some o->b.getD i false=true->∀ e∈o.after,Region.binds .any e=true->b.getD e.on false=true) ->
   G (merge (fun i=>b.getD i false) 0 outs y) a w->wpAny P .any ops Q C b a w:=by
 obtain⟨b0,a6,c6⟩:=aNy _ _ _ _ _ a7;have c1:outs.length=ops.size:=by simpa using b0
 have a4:=aWe (md:=.any) (ops:=ops) ops.toList [] (fun i m H=>by simp at H) (fun k o hk=>by simpa using hk)
 have Y:∀ (b:Array Bool),(∀ i o,ops[i]?=some o->b.getD i false=true->∀ e∈o.after,Region.binds .any e=true->b.getD e.on false=true)->∀ i k,PU .any ops i k->b.getD i false=true->b.getD k false=true:=by
  intro b S i k h
  induction h with
  |edge K X hb=>intro H;exact S _ _ K H _ X hb|trans _ _ a1 b5=>intro H;exact b5 (a1 H)
 have a5:∀ (b:Array Bool) (i:Nat),(∀ i o,ops[i]?=some o->b.getD i false=true->∀ e∈o.after,Region.binds .any e=true->b.getD e.on false=true)->(∀ o,ops[i]?=some o->∀ e∈o.after,Region.binds .any e=true->b.getD e.on false=true)->∀ k,PU .any ops i k->b.getD k false=true:=by
  intro b i S H k h
  induction h with
  |edge K X hb=>exact H _ K _ X hb|trans U h2 a1 _=>exact Y b S _ _ h2 (a1 H)
 have I:∀ j k q p,j<k->outs[j]?=some q->outs[k]?=some p->clash q p=true->PU .any ops k j:=by intro j k q p c3 hq hp h;obtain⟨m,U,h2⟩:=aCm outs [] _ c5 (fun j q c=>by simp at c) j k p q c3 (by simpa using hq) (by simpa using hp) b_ h;exact a4 k m (by simpa using U) j h2
 have O:∀ (b:Array Bool) (a:Act) (w:ae),b.size=ops.size->Region.ready .any ops b=[]->G (merge (fun i=>b.getD i false) 0 outs y) a w->Q .normal a w:=by
  intro b a w E hr hg
  have Z:∀ n i,i<n->i<ops.size->b.getD i false=true:=by
   intro n
   induction n with
   |zero=>intro i H;omega| succ n ih=>
    intro i H b1;cases L:b.getD i false with
    |true=>rfl| false=>
     have:i∈Region.ready .any ops b:=mem_ready.2 ⟨by
      rw[Yw] at L ⊢;rw[ZR a_] at L ⊢
      exact L,ops[i],ZR b1,fun e X T=>?_⟩
     rw[hr] at this;cases this;have:=aJq ops.toList 0 hb i ops[i] (by simp[b1]) e X T;exact ih e.on a_ a_
  refine hQ a w (N _ _ a w (fun t=>?_) (fun x=>?_) hg);rw[a6]
  exact aFj outs 0 y y rfl (fun j p c _=>by
   have:j<outs.length:=(List.getElem?_eq_some_iff.1 c).1
   exact Z (0+j+1) (0+j) a_ a_)
  rw[a6]
  exact aFm outs 0 y y rfl (fun j p c _=>by
   have:j<outs.length:=(List.getElem?_eq_some_iff.1 c).1
   exact Z (0+j+1) (0+j) a_ a_)
 intro C
 induction C with
 | zero=>
  intro b a w E b4 f hg
  have hr:Region.ready .any ops b=[]:=by
   cases b6:Region.ready .any ops b with
   |nil=>rfl| cons i l=>
    have H:i∈Region.ready .any ops b:=by rw[b6];exact MM
    obtain⟨U,o,K,_⟩:=mem_ready.1 H;have F:i<b.size:=by rw[E];exact (Array.getElem?_eq_some_iff.1 K).1
    have:false∈b.toList:=by rw[Yw,ZR F] at U;have c7:b[i]=false:=U;rw[<-c7];simp
    have:=(List.countP_pos_iff (p:=(·==false))).2 ⟨false,this,rfl⟩;omega
  exact⟨hr,O b a w E hr hg⟩
 | succ C ih=>
  intro b a w E b4 f hg;refine⟨fun hr=>O b a w E hr hg,fun i H=>?_⟩;obtain⟨U,o,K,V⟩:=mem_ready.1 H;have F:i<b.size:=by rw[E];exact (Array.getElem?_eq_some_iff.1 K).1
  have d:b.getD i false=false:=by rw[Yw] at U ⊢;rw[ZR F] at U ⊢;exact U
  obtain⟨z,r,a8⟩:=c6 i o (by simpa using K);rw[ik] at a8;have a3:=a5 b i f (fun o' a9=>by rw[K] at a9;cases a9;exact V);have B:∀ j q,outs[j]?=some q->clash q (o.dst,z)=true->j<i->b.getD j false=true:=fun j q c hc s=>a3 j (I j i q _ s c r hc)
  have g:∀ j q,outs[j]?=some q->clash (o.dst,z) q=true->i<j->b.getD j false=false:=fun j q c hc u=>by
   cases L:b.getD j false with
   |false=>rfl|true=>have:=Y b f j i (I i j _ q u r c hc) L;rw[d] at this;cases this
  have a2:(a0 i o).run none (merge (fun j=>b.getD j false) 0 outs y)=some z:=by
   refine M.frame _ _ _ _ _ a8 (fun t ht=>?_) (fun x hx=>?_);refine aFj outs 0 y y rfl (fun j q c D=>?_);rw[ik];have J:t∈q.1.toList:=by unfold Hl at D;rw[D];simp
   rcases aFB j i with h|h|h;rw[rq h];exact B j q c (by unfold clash;simp[aBg J ht]) h;subst h;rw[d];simp;rw[Bg a_];exact g j q c (by unfold clash;simp[aBg ht J]) h;refine aFm outs 0 y y rfl (fun j q c D=>?_);rw[ik];obtain⟨pw,b7,rfl⟩:=D;have J:pw.1∈q.2.wr.map (·.1):=List.mem_map.2 ⟨pw,b7,rfl⟩;rcases aFB j i with h|h|h;rw[rq h];exact B j q c (by unfold clash;simp[aBg J hx]) h;subst h;rw[d];simp;rw[Bg a_];exact g j q c (by unfold clash;simp[aBg hx J]) h
  refine c0 i o _ a w z K hg a2 (hc _ (ZO r)) _ (fun a' w' c4=>?_);have W:∀ j,(b.setIfInBounds i true).getD j false=(if j=i then true else b.getD j false):=fun j=>by rw[Yw,Yw,Array.getElem?_setIfInBounds];by_cases u:i=j;subst u;simp[F];rw[ay u,ay (fun e=>u e.symm)]
  refine ih _ a' w' (by simpa using E) ?_ (fun j oj c L e X T=>?_) ?_
  ·have:b.toList.countP (·==false)=(b.setIfInBounds i true).toList.countP (·==false)+1:=by
    have L:b.toList=b.toList.take i++(false::b.toList.drop (i+1)):=by
     have hx:b.toList[i]'(by simpa using F)=false:=by rw[Yw,ZR F] at d;simpa using d
     rw[<-hx,List.getElem_cons_drop,ZZ]
    have c2:(b.setIfInBounds i true).toList=b.toList.take i++(true::b.toList.drop (i+1)):=by rw[Array.toList_setIfInBounds,List.set_eq_take_append_cons_drop,au (by simpa using F)]
    rw[c2]
    conv=>lhs;rw[L]
    simp only[List.countP_append,List.countP_cons];simp;omega
   omega
  rw[W] at L ⊢;by_cases b3:e.on=i;rw[au b3];rw[ay b3];by_cases s:j=i;subst s;rw[K] at c;cases c;exact V e X T;rw[ay s] at L;exact f j oj c L e X T;have b2:(fun j=>(b.setIfInBounds i true).getD j false)=fun j=>if j=0+i then true else b.getD j false:=funext fun j=>by rw[W,ik]
  rw[b2];refine N _ _ a' w' (fun t=>?_) (fun x=>?_) c4;by_cases D:Hl o.dst t;refine aFk outs 0 i y o.dst z r D (fun j q c u A=>?_);rw[ik];have m1:t∈o.dst.toList:=by unfold Hl at D;rw[D];simp
  have m2:t∈q.1.toList:=by unfold Hl at A;rw[A];simp
  exact g j q c (by unfold clash;simp[aBg m1 m2]) u;rw[aRc D];refine aFj outs 0 y y rfl (fun j q c A=>?_);rw[ik,ik];by_cases s:j=i;subst s;rw[r] at c;cases c;exact absurd A D;rw[ay s];by_cases D:V9 z x;refine aFl outs 0 i y o.dst z r D (fun j q c u A=>?_);rw[ik];obtain⟨p1,b9,e1⟩:=D;obtain⟨p2,b8,e2⟩:=A;have m1:x∈z.wr.map (·.1):=List.mem_map.2 ⟨p1,b9,e1⟩;have m2:x∈q.2.wr.map (·.1):=List.mem_map.2 ⟨p2,b8,e2⟩;exact g j q c (by unfold clash;simp[aBg m1 m2]) u;rw[aRe D];refine aFm outs 0 y y rfl (fun j q c A=>?_);rw[ik,ik];by_cases s:j=i;subst s;rw[r] at c;cases c;exact absurd A D;rw[ay s]
def dO(a:Bool)(l:List df)(outs:List (Option Nat×Out)):Bool:=match a with
 |true=>bJa .any l 0&&aGq outs [] (masks .any l [])|false=>true
theorem aMy{G:St->Act->je}{g:Nat->df->M}(h:Fb P ops Q G g)(e:Finds G)(f:∀ s a w,G s a w->G s a w.drew)(m:P.follows .mixedOrders=true)
  {y:Nat} {b:Bool} {l s':St} {outs:List (Option Nat×Out)} (d:qX g 0 ops.toList l=some (outs,s')) (hc:∀ q∈outs,∀ p∈q.2.conds,p) (c:dO b ops.toList outs=true)
  {a:Act} {w:ae} (t:G l a w) (u:∀ x r,G s' x r->Q .normal x r):(Code.region y ops b).wp P Q a w:=by
 cases b with
 |false=>refine wp_region ?_;have:=uF h ops.toList 0 l s' outs a w (fun k o z=>by simpa using z) d hc t u;rwa [<-List.range_eq_range',uA] at this| true=>
  unfold dO at c;rw[ww] at c;refine wp_region_any m ?_;refine aRo h e d hc c.1 c.2 u ops.size _ a _ b_ (by simp;exact PP List.countP_le_length b_) (fun i o A n=>?_) ?_
  ·rw[Yw,aGT] at n
   split at n<;>cases n
  ·rw[qZ _ _ _ _ (fun j _=>by
    rw[Yw,aGT]
    split<;>rfl)]
   exact f _ _ _ t
def gT:mi->Prop
 |none=>True|some b=>b=true
def hblk:ag->Option Nat
 |.pointer (some a)=>some a.block|.slice (some a) _ _=>some a.block|_=>none
def G7:Nat:=1000000
def Di(w:ae)(e n:Nat)(v:ag)(len:Nat)(xs:ji):Prop:=
 xs.length=len*n/\((v=.slice none 0 0/\len=0)\/∃ g cap cur t b,v=.slice (some ⟨g,0,none⟩) len cap/\w.heap[g]?=some (.cells cur t b) /\
  ((t=e/\b=(0,0))\/(Hm e G7=false/\cur.size<=b.1))/\len<=cap/\cap<=uk/\cur.size=cap*n/\cur.toList.take (len*n)=xs)
variable {w:ae} {e n len:Nat} {v:ag} {xs:ji}
theorem yC{B:Nat}(h:w.ownsRow B e n v len xs):Di w e n v len xs:=⟨h.1,h.2.imp id (fun⟨g,cap,cur,d,_,c,b⟩=>⟨g,cap,cur,e,(0,0),d,c,.inl ⟨rfl,rfl⟩,b⟩)⟩
theorem Di.plain(h:Di w e n v len xs)(c:Hm e G7=true):w.ownsRow 0 e n v len xs:=by refine⟨h.1,h.2.imp id ?_⟩;rintro⟨g,cap,cur,t,j,i,f,b|b,d⟩;obtain⟨rfl,rfl⟩:=b;exact⟨g,cap,cur,i,xn _,f,d⟩;rw[c] at b;cases b.1
theorem Di.range{g n0 k:Nat}(h:Di w e n (.slice (some ⟨g,0,none⟩) n0 k) len xs):w.rangeAt g 0 xs:=fun j u c=>by
 rcases h.2 with⟨d,_⟩|⟨l,cap,cur,t,i,d,f,_,_,_,_,b⟩;cases d;cases d;rw[ik,cell_of_row w g j cur t i f];rw[<-b,x8] at c
 split at c;simpa using c;cases c
theorem Reads.zk(h:Di w e n v len xs):Reads w n v len xs:=by
 refine⟨h.1,?_⟩;rcases h.2 with⟨rfl,rfl⟩|⟨g,cap,cur,t,l,rfl,k,_,c,d,i,b⟩
 exact⟨none,0,rfl,dC _,xn _,fun h=>absurd h a_⟩;refine⟨_,cap,rfl,c,d,fun _=>⟨g,0,rfl,fun j u f=>?_⟩⟩;exact h.range j u f
def nI(C:Ctx)(hd:ag):lu->Prop
 |.box t l=>∃ g c,hd=iY g/\f_ C.w g t c/\RL C l c.toList|.arr e n len f=>∃ b,Di C.w e n hd len b/\∀ i,i<len->RL C (f i) ((b.drop (i*n)).take n)|.dead=>True|.dev _ _ _=>True
structure Dv where
 hd:ag
 O:jc->Option qj
 S:Nat->Prop
 inv:jc->(qo)->ae->Prop
 pan:jc->(qo)->ae->List PanicEntry->Prop
 one:hd.oneCell'=true
 yc:hblk hd=none
 notS:∀ l X w b,inv l X w->X b->¬S b
 grow:∀ l X Y w w',inv l X w->gu X w w'->(∀ b,Y b->X b\/(w.heap.size<=b/\b<w'.heap.size))->inv l Y w'
def Dv.non:Dv:=⟨.bool false,fun _=>none,Non,fun _ _ _=>False,fun _ _ _ _=>False,rfl,rfl,fun _ _ _ _ h=>h.elim,fun _ _ _ _ _ h=>h.elim⟩
structure lh where
 w0:ae
 S:Nat->Prop
 ok0:Nat->Prop
 nt:Nat
 ext:Nat->Option ag
 dv:Dv
 dn:jc->Prop
 X0:Nat->Prop
 ds:List Deferred
def lh.plain(w:ae)(ok0:qo)(b:Nat):lh:=⟨w,Non,ok0,b,fun _=>none,Dv.non,fun _=>False,Non,[]⟩
abbrev Env:=Nat->Option (Nat×ag)
def aI(A:lh)(w:ae)(env:Env):Ctx:={ w,ok:=fun b=>(A.ok0 b\/A.w0.heap.size<=b)/\∀ x c d,env x=some (c,d)->hblk d≠some b,env }
def ownB(A:lh)(env:Env)(b:Nat):Prop:=A.X0 b\/∃ x c d,env x=some (c,d)/\hblk d=some b
structure gy(A:lh)(s:St)(a:Act)(w:ae)(env:Env):Prop where
 iq:gu A.S A.w0 w
 size:a.tmps.size=A.nt
 dom:∀ x,find s.o x=none->env x=none
 jv:∀ x g jm o,find s.o x=some (g,jm,o)->∃ hd,env x=some (jm,hd)/\(gT g->nI (aI A w env) hd o)
 live:∀ x jm hd b,env x=some (jm,hd)->hblk hd=some b->b<w.heap.size/\(A.w0.heap.size<=b\/A.S b/\ZC dx x=true)
 inj:∀ x y v1 h1 v2 h2 b,env x=some (v1,h1)->env y=some (v2,h2)->hblk h1=some b->hblk h2=some b->x=y
 tmps:∀ t g pv,find s.t t=some (g,pv)->gT g->∃ v,a.tmps[t]?=some v/\RV (aI A w env) pv v
 defers:a.defers=A.ds
 und:∀ t pv,find s.t t=some (some false,pv)->a.tmps[t]?=some bz
 n_:∀ x hd,A.ext x=some hd->ZC dx x=true/\At (aI A w env) x 0 (fun hd'=>hd'=hd)
 dev:∀ g jm O dn l,find s.o dx=some (g,jm,.dev O dn l)->gT g->O=A.dv.O/\dn=A.dn/\A.dv.inv l (ownB A env) w
def oq(A:lh)(s:St)(a:Act)(w:ae):Prop:=∃ env,gy A s a w env
theorem nI.Aa{C C':Ctx}{hd:ag}{o:lu}(h:nI C hd o)(d:C.Le C')(hb:∀ b,hblk hd=some b->b<C.w.heap.size->C'.w.heap[b]?=C.w.heap[b]?):nI C' hd o:=by
 cases o with
 |dead=>trivial|dev O dn l=>trivial|box t l=>obtain⟨g,x,rfl,k,m⟩:=h;exact⟨g,x,rfl,(hb g rfl k.lt).trans k,m.le d⟩
 |arr e n len f=>obtain⟨p,k,m⟩:=h;refine⟨p,⟨k.1,?_⟩,fun i r=>(m i r).le d⟩;rcases k.2 with q|⟨g,cap,cur,t,u,rfl,j,c⟩;exact .inl q;exact .inr ⟨g,cap,cur,t,u,rfl,(hb g rfl (lt_of_heap j)).trans j,c⟩
variable {A:lh} {s:St} {a:Act} {w w':ae} {env:Env}
theorem bFz(d:Ext w w'):(aI A w env).Le (aI A w' env):=⟨d.size',fun b i f=>⟨f,d.block b i (fun h=>h)⟩,fun _ c g h=>⟨c,g,h,dC _,fun _=>rfl⟩⟩
theorem gy.ext(h:gy A s a w env)(he:Ext w w'):gy A s a w' env where
 iq:=h.iq.ext he
 size:=h.size
 dom:=h.dom
 jv:=fun x g jm o hf=>by
  obtain⟨hd,h1,h2⟩:=h.jv x g jm o hf
  exact⟨hd,h1,fun hg=>(h2 hg).Aa (bFz he) (fun b _ hlt=>he.block b hlt (fun h=>h))⟩
 live:=fun x jm hd b h1 h2=>⟨YX (h.live x jm hd b h1 h2).1 he.size',(h.live x jm hd b h1 h2).2⟩
 inj:=h.inj
 tmps:=fun t g pv hf hg=>let ⟨v,h1,h2⟩:=h.tmps t g pv hf hg;⟨v,h1,h2.le (bFz he)⟩
 defers:=h.defers
 und:=h.und
 n_:=fun x hd hx=>⟨(h.n_ x hd hx).1,(h.n_ x hd hx).2.le (bFz he)⟩
 dev:=fun g jm O dn l hf hg=>let ⟨h1,h2,h3⟩:=h.dev g jm O dn l hf hg;⟨h1,h2,A.dv.grow _ _ _ _ _ h3 (Ext.iq he) (fun _ h=>.inl h)⟩
theorem oq.drew(h:oq A s a w):oq A s a w.drew:=let ⟨env,h⟩:=h;⟨env,h.ext (Ext.refl w).drew⟩
theorem aPo(A:lh):Finds (oq A):=fun _ _ _ _ f d ⟨env,h⟩=>⟨env,{
 iq:=h.iq,size:=h.size,dom:=fun x i=>h.dom x ((d x).trans i),jv:=fun x g b o c=>h.jv x g b o ((d x).trans c),live:=h.live,inj:=h.inj
 tmps:=fun t g pv c=>h.tmps t g pv ((f t).trans c),defers:=h.defers,und:=fun t pv c=>h.und t pv ((f t).trans c),n_:=h.n_,dev:=fun g b O dn l c=>h.dev g b O dn l ((d dx).trans c) }⟩
def JW(d:Option Nat)(g:mi)(pv:PV)(s:St):St:={ t:=(match d with|some d=>(d,g,pv)::s.t|none=>s.t),o:=s.o }
theorem gy.put(h:gy A s a w env)(d:Option Nat)(g:mi)(pv:PV)(v:ag)(hd:∀ t,d=some t->t<A.nt)(m:gT g->RV (aI A w env) pv v)(o:g=some false->v=bz) :
  gy A (JW d g pv s) (a.put d v) w env:=by
 cases d with
 |none=>exact { h with }
 |some d=>refine { iq:=h.iq,size:=by simpa[Act.put] using h.size,dom:=h.dom,jv:=h.jv,live:=h.live,inj:=h.inj,tmps:=fun t k b f j=>?_,defers:=h.defers,und:=fun t b f=>?_,n_:=h.n_,dev:=h.dev };have f:find ((d,g,pv)::s.t) t=some (k,b):=f;by_cases i:d=t;subst i;rw[aF] at f;cases f;refine⟨v,?_,m j⟩;have:=hd d rfl;simp[Act.put,h.size,this];rw[aC _ _ i] at f;obtain⟨l,q,p⟩:=h.tmps t k b f j;exact⟨l,by simp only[Act.put];rw[aGU i];exact q,p⟩;have c:find ((d,g,pv)::s.t) t=some (some false,b):=f;by_cases i:d=t;subst i;rw[aF] at c;cases c;have:=hd d rfl;rw[o rfl];simp[Act.put,h.size,this];rw[aC _ _ i] at c;simp only[Act.put];rw[aGU i];exact h.und t b c
def zt(env:Env)(x jm:Nat)(hd:ag):Env:=fun y=>if y=x then some (jm,hd) else env y
theorem fO(env:Env)(x jm:Nat)(hd:ag):zt env x jm hd x=some (jm,hd):=au rfl
theorem kK{env:Env}{x jm:Nat}{hd:ag}{y:Nat}(h:y≠x):zt env x jm hd y=env y:=ay h
theorem gy.upd(h:gy A s a w env)(x:Nat)(g':mi)(j:Nat)(q:ag)(V:lu)
  (Q:gu (fun k=>∃ c m,env x=some (c,m)/\hblk m=some k) w w')
  (hv:∀ c m,env x=some (c,m)->c<j\/(c=j/\q=m))
  (hb:∀ b,hblk q=some b->b<w'.heap.size/\(w.heap.size<=b\/∃ c m,env x=some (c,m)/\hblk m=some b))
  (ho:(aI A w env).Le (aI A w' (zt env x j q))->gT g'->nI (aI A w' (zt env x j q)) q V)
  (W:gT g'->∀ O dn l,V=.dev O dn l->O=A.dv.O/\dn=A.dn/\A.dv.inv l (ownB A (zt env x j q)) w':=by intro _ _ _ _ h;cases h) :
  gy A { s with o:=(x,g',j,V)::s.o } a w' (zt env x j q)/\(aI A w env).Le (aI A w' (zt env x j q)):=by
 have F:(aI A w env).Le (aI A w' (zt env x j q)):=by
  refine⟨Q.size,fun b K J=>⟨⟨J.1,fun y c m f=>?_⟩,?_⟩,fun y c m f=>?_⟩;by_cases d:y=x;subst d;change zt env y j q y=some (c,m) at f;rw[fO] at f;cases f;intro e;rcases (hb b e).2 with p|⟨c,m,p,r⟩;have:b<w.heap.size:=K;omega;exact J.2 y c m p r;rw[kK d] at f;exact J.2 y c m f;exact Q.block b K (fun⟨c,m,p,r⟩=>J.2 x c m p r)
  ·by_cases d:y=x
   ·subst d;refine⟨j,q,fO _ _ _ _,?_,fun e=>?_⟩
    ·rcases hv c m f with p|⟨p,_⟩<;>omega
    rcases hv c m f with p|⟨_,r⟩;omega;exact r
   exact⟨c,m,(kK d).trans f,dC _,fun _=>rfl⟩
 refine⟨?_,F⟩;refine { iq:=?_,size:=h.size,dom:=fun y f=>?_,jv:=fun y g c o G=>?_,live:=fun y c m b f D=>?_,inj:=fun y z N p U r b f P E H=>?_,tmps:=fun t g pv G S=>?_,defers:=h.defers,und:=h.und,n_:=fun y m f=>⟨(h.n_ y m f).1,(h.n_ y m f).2.le F⟩,dev:=fun g c O dn l G S=>?_ };refine h.iq.trans' Q (fun _ _ h=>h) (fun i hi ⟨c,m,p,r⟩=>?_);rcases (h.live x c m i p r).2 with L|L;omega;exact L.1
 by_cases d:x=y;subst d;rw[aF] at f;cases f;rw[aC _ _ d] at f;rw[kK (Ne.symm d)];exact h.dom y f;by_cases d:x=y;subst d;rw[aF] at G;cases G;exact⟨q,fO _ _ _ _,ho F⟩;rw[aC _ _ d] at G;obtain⟨m,p,r⟩:=h.jv y g c o G;refine⟨m,(kK (Ne.symm d)).trans p,fun S=>(r S).Aa F (fun b D K=>Q.block b K (fun⟨u,B,L,I⟩=>d (h.inj x y u B c m b L p I D)))⟩;by_cases d:y=x;subst d;rw[fO] at f;cases f;refine⟨(hb b D).1,?_⟩;rcases (hb b D).2 with p|⟨u,B,p,r⟩;exact .inl (PP h.iq.size p);exact (h.live y u B b p r).2;rw[kK d] at f
 exact⟨YX (h.live y c m b f D).1 Q.size,(h.live y c m b f D).2⟩;have T:∀ y N p,y≠x->env y=some (N,p)->hblk p=some b->hblk q=some b->False:=by intro y N p d f E H;rcases (hb b H).2 with L|⟨u,B,L,I⟩;have:=(h.live y N p b f E).1;omega;exact d (h.inj y x N p u B b f L E I)
 by_cases d:y=x;by_cases C:z=x;rw[d,C];subst d;rw[fO] at f;rw[kK C] at P;cases f;exact (T z U r C P H E).elim;by_cases C:z=x;subst C;rw[fO] at P;rw[kK d] at f;cases P;exact (T y N p d f E H).elim;rw[kK d] at f;rw[kK C] at P;exact h.inj y z N p U r b f P E H;obtain⟨v,p,r⟩:=h.tmps t g pv G S;exact⟨v,p,r.le F⟩;by_cases d:x=dx;subst d;rw[aF] at G;cases G;exact W S O dn l rfl;rw[aC _ _ d] at G;obtain⟨p,r,L⟩:=h.dev g c O dn l G S;refine⟨p,r,A.dv.grow _ _ _ _ _ L (Q.mono fun k _ ⟨c,m,e1,e2⟩=>.inr ⟨x,c,m,e1,e2⟩) (fun b Y=>?_)⟩;rcases Y with I|⟨y,U,B,I,h5⟩;exact .inl (.inl I)
 by_cases f:y=x;subst f;rw[fO] at I;cases I;rcases (hb b h5).2 with Z|⟨v3,X,Z,h7⟩;exact .inr ⟨Z,(hb b h5).1⟩;exact .inl (.inr ⟨y,v3,X,Z,h7⟩);rw[kK f] at I;exact .inl (.inr ⟨y,U,B,I,h5⟩)
theorem gy.new(h:gy A s a w env)(x:Nat)(j:mi)(c:ag)(f:lu)(u:Ext w w')(hb:∀ b,hblk c=some b->b<w'.heap.size/\w.heap.size<=b)
  (y:(aI A w env).Le (aI A w' (zt env x (fresh s x) c))->gT j->nI (aI A w' (zt env x (fresh s x) c)) c f)
  (k:gT j->∀ O dn l,f=.dev O dn l->O=A.dv.O/\dn=A.dn/\A.dv.inv l (ownB A (zt env x (fresh s x) c)) w':=by intro _ _ _ _ h;cases h) :
  gy A { s with o:=(x,j,fresh s x,f)::s.o } a w' (zt env x (fresh s x) c)/\(aI A w env).Le (aI A w' (zt env x (fresh s x) c)):=by
 refine h.upd x j (fresh s x) c f u.iq (fun r C i=>.inl ?_) (fun b d=>⟨(hb b d).1,.inl (hb b d).2⟩) y k;unfold fresh;cases m:find s.o x with
 |none=>rw[h.dom x m] at i;cases i|some p=>obtain⟨g,q,t⟩:=p;obtain⟨z,B,_⟩:=h.jv x g q t m;rw[B] at i;cases i;exact Nat.lt_succ_self _
def appW(d:Option Nat)(g:mi)(v:PV)(wr:List (Nat×mi×Nat×lu))(s:St):St:=app d ⟨g,v,[],[],[],wr⟩ s
theorem M.Qo:∀ (m:M) (f:mi) (s:St) (F G:mi->PV->Wr->Prop),m.ok f s F->(∀ g v wr,F g v wr->G g v wr)->m.ok f s G:=by
 intro m
 induction m with
 |ret v=>intro f s F G h c;exact c _ _ _ h|fail=>intro f s F G h c;exact h|need p k d=>intro f s F G h c;exact⟨h.1,d _ _ _ _ h.2 c⟩|tmp t k d=>intro f s F G h c;obtain⟨g,v,j,h⟩:=h;exact⟨g,v,j,d _ _ _ _ _ _ h c⟩
 |obj x k d=>intro f s F G h c;obtain⟨g,l,i,j,h⟩:=h;exact⟨g,l,i,j,d _ _ _ _ _ _ _ h c⟩
 |new x i k d=>intro f s F G h c;exact d _ _ _ _ _ h (fun _ _ _ h=>c _ _ _ h)|upd x l i k d=>intro f s F G h c;exact⟨h.1,d _ _ _ _ h.2 (fun _ _ _ h=>c _ _ _ h)⟩|gate b k d=>intro f s F G h c;exact⟨h.1,d _ _ _ _ h.2 c⟩
theorem bAb:∀ (m:M) (s:St) (F:mi->PV->Wr->Prop),m.ok (some false) s F->∃ v wr,F (some false) v wr/\∀ p∈wr,∃ d,p=(p.1,some false,fresh s p.1,d):=by
 intro m
 induction m with
 |ret v=>intro s F h;exact⟨v,[],h,fun p f=>by cases f⟩|fail=>intro s F h;exact h.elim|need p k c=>intro s F h;exact c s F h.2|tmp t k c=>intro s F h;obtain⟨g,v,_,h⟩:=h;exact c g v s F h
 |obj x k c=>intro s F h;obtain⟨g,i,d,_,h⟩:=h;exact c g i d s F h
 | new x d k c=>
  intro s F h;obtain⟨v,wr,l,j⟩:=c _ s _ h
  exact⟨v,_,l,fun p f=>by
   rcases List.mem_cons.1 f with rfl|f
   exact⟨d,rfl⟩
   exact j p f⟩
 |upd x i d k c=>intro s F h;cases h.1|gate b k c=>intro s F h;cases h.1
def wZ(wr:Wr):Wr:=wr.map fun p=>(p.1,some true,p.2.2)
theorem bGp:∀ (m:M) (s:St) (F:mi->PV->Wr->Prop),m.ok (some true) s F->m.ok none s (fun g v wr=>g=none/\(∀ p∈wr,p.2.1=none)/\F (some true) v (wZ wr)):=by
 intro m
 induction m with
 |ret v=>intro s F h;exact⟨rfl,fun p d=>(by cases d),h⟩|fail=>intro s F h;exact h.elim|need p k c=>intro s F h;exact⟨h.1 rfl,c s F h.2⟩|tmp t k c=>intro s F h;obtain⟨g,v,j,h⟩:=h;exact⟨g,v,j,c g v s F h⟩
 |obj x k c=>intro s F h;obtain⟨g,i,f,j,h⟩:=h;exact⟨g,i,f,j,c g i f s F h⟩
 |new x f k c=>
  intro s F h;show (k (fresh s x)).ok none s _;refine M.Qo (k (fresh s x)) none s _ _ (c _ s _ h) (fun g v wr h=>⟨h.1,fun p d=>?_,h.2.2⟩);rcases List.mem_cons.1 d with rfl|d;rfl
  exact h.2.1 p d
 |upd x i f k c=>intro s F h;cases h.1|gate b k c=>intro s F h;cases h.1
theorem gy.aKR:∀ (wr:List (Nat×mi×Nat×lu)) (s:St) (env:Env),gy A s a w env->(∀ p∈wr,∃ t,p=(p.1,some false,fresh s p.1,t))->∃ c,gy A { s with o:=wr++s.o } a w c:=by
 intro wr
 induction wr with
 |nil=>intro s env h _;exact⟨env,h⟩| cons p wr U=>
  intro s env h H;obtain⟨c,D⟩:=U s env h (fun q f=>H q (VM _ f));obtain⟨t,e⟩:=H p MM;rw[e]
  have y:∀ d u,c p.1=some (d,u)->d<=fresh s p.1:=by
   intro d u i;cases B:find (wr++s.o) p.1 with
   |none=>rw[D.dom p.1 B] at i;cases i| some z=>
    obtain⟨g,P,T⟩:=z;obtain⟨j,C,_⟩:=D.jv p.1 g P T B;rw[C] at i;cases i;by_cases x:∃ q∈wr,q.1=p.1
    have:∀ (l:List (Nat×mi×Nat×lu)),(∀ q∈l,∃ t,q=(q.1,some false,fresh s q.1,t))->(∃ q∈l,q.1=p.1)->∀ z,find (l++s.o) p.1=some z->z.2.1=fresh s p.1:=by
     intro l
     induction l with
     |nil=>intro _ h;obtain⟨q,f,_⟩:=h;cases f
     |cons q l G=>
      intro L I z E;obtain⟨S,O⟩:=L q MM;by_cases f:q.1=p.1;rw[yz,O,f,aF] at E;cases E;rfl;rw[yz,O,aC _ _ f] at E;refine G (fun q f=>L q (VM _ f)) ?_ z E;obtain⟨Q,k,N⟩:=I;rcases List.mem_cons.1 k with rfl|k;exact absurd N f
      exact⟨Q,k,N⟩
    have V:=this wr (fun q f=>H q (VM _ f)) x _ B;exact Nat.le_of_eq V;rw[nY _ _ (fun q f e=>x ⟨q,f,e⟩)] at B;unfold fresh;rw[B];exact Nat.le_succ _
  have K:=y;by_cases J:∃ u,c p.1=some (fresh s p.1,u);obtain⟨u,m⟩:=J;exact⟨_,(D.upd p.1 (some false) (fresh s p.1) u t (gu.refl _ _) (fun d j i=>by rw[m] at i;cases i;exact .inr ⟨rfl,rfl⟩) (fun b F=>⟨(D.live _ _ _ _ m F).1,.inr ⟨_,_,m,F⟩⟩) (fun _ r=>absurd r (by simp[gT])) (fun r=>absurd r (by simp[gT]))).1⟩
  exact⟨_,(D.upd p.1 (some false) (fresh s p.1) bz t (gu.refl _ _) (fun d j i=>.inl (by
   have:=y d j i;rcases Nat.lt_or_eq_of_le this with C|C;exact C
   exact absurd ⟨j,by rw[i,C]⟩ J)) (fun b F=>by simp[hblk,bz] at F) (fun _ r=>absurd r (by simp[gT])) (fun r=>absurd r (by simp[gT]))).1⟩
theorem bAg(l r:List (Nat×mi×Nat×lu))(x:Nat):find (wZ l++r) x=find (l++r) x\/∃ g q,find (l++r) x=some (g,q)/\find (wZ l++r) x=some (some true,q):=by
 induction l with
 |nil=>exact .inl rfl|cons p l c=>by_cases b:p.1=x;refine .inr ⟨p.2.1,p.2.2,?_,?_⟩;rw[<-b];exact aF _ _ _;rw[<-b];exact aF _ _ _;have f:find (p::l++r) x=find (l++r) x:=aC _ _ b;have d:find (wZ (p::l)++r) x=find (wZ l++r) x:=aC _ _ b;rw[f,d];exact c
theorem oq.aEF{d:Option Nat}{v:PV}{wr:Wr}(u:∀ p∈wr,p.2.1=none)(h:oq A (appW d none v wr s) a w):oq A (appW d (some true) v (wZ wr) s) a w:=by
 obtain⟨env,h⟩:=h
 have r:∀ (x:Nat) (g:mi) (b:Nat) (o:lu) (l:Wr),(∀ p∈l,p.2.1=none)->find (wZ l++s.o) x=some (g,b,o)->find (l++s.o) x=some (g,b,o)\/(g=some true/\find (l++s.o) x=some (none,b,o)):=by
  intro x g b o l
  induction l with
  |nil=>intro _ m;exact .inl m|cons p l D=>
   intro B m;by_cases k:p.1=x;have j:find (wZ (p::l)++s.o) x=some (some true,p.2.2):=by rw[<-k];exact aF _ _ _
   have i:find (p::l++s.o) x=some p.2:=by rw[<-k];exact aF _ _ _
   rw[j] at m;rw[i];have C:=B p MM;obtain⟨I,L,J,K⟩:=p;cases m;dsimp only at C;subst C;exact .inr ⟨rfl,rfl⟩;have j:find (wZ (p::l)++s.o) x=find (wZ l++s.o) x:=aC _ _ k;have i:find (p::l++s.o) x=find (l++s.o) x:=aC _ _ k;rw[j] at m;rw[i];exact D (fun q E=>B q (VM _ E)) m
 refine⟨env,{ iq:=h.iq,size:=h.size,dom:=fun x k=>?_,jv:=fun x g b o c=>?_,live:=h.live,inj:=h.inj,tmps:=fun t g pv c y=>?_,defers:=h.defers,und:=fun t pv c=>?_,n_:=h.n_,dev:=fun g b O dn l c y=>?_ }⟩;refine h.dom x ?_;rcases bAg wr s.o x with e|⟨g,q,_,i⟩;exact e.symm.trans k;have:find (wZ wr++s.o) x=none:=k;rw[i] at this;cases this;have z:find (wZ wr++s.o) x=some (g,b,o):=c;rcases r x g b o wr u z with e|⟨rfl,e⟩;exact h.jv x g b o e;obtain⟨F,H,G⟩:=h.jv x none b o e
 exact⟨F,H,fun _=>G trivial⟩;cases d with
 |none=>exact h.tmps t g pv c y|some d=>by_cases f:d=t;subst f;have j:find (appW (some d) (some true) v (wZ wr) s).t d=some (some true,v):=aF _ _ _;have i:find (appW (some d) none v wr s).t d=some (none,v):=aF _ _ _;rw[j] at c;cases c;exact h.tmps d none v i trivial;have j:find (appW (some d) (some true) v (wZ wr) s).t t=find s.t t:=aC _ _ f;have i:find (appW (some d) none v wr s).t t=find s.t t:=aC _ _ f;rw[j] at c;exact h.tmps t g pv (i.trans c) y
 cases d with
 |none=>exact h.und t pv c|some d=>by_cases f:d=t;subst f;have j:find (appW (some d) (some true) v (wZ wr) s).t d=some (some true,v):=aF _ _ _;rw[j] at c;cases c;have j:find (appW (some d) (some true) v (wZ wr) s).t t=find s.t t:=aC _ _ f;have i:find (appW (some d) none v wr s).t t=find s.t t:=aC _ _ f;rw[j] at c;exact h.und t pv (i.trans c)
 rcases r dx g b (.dev O dn l) wr u c with e|⟨rfl,e⟩;exact h.dev g b O dn l e y;exact h.dev none b O dn l e trivial
theorem gy.asked(h:gy A s a w env){O:qy}{dn:jc->Prop}{l H:jc}{g:mi}(E:find s.o dx=some (g,0,.dev O dn l))(C:gT g)(sub:∀ b,A.dv.S b->A.S b)(old:∀ b,A.dv.S b->b<A.w0.heap.size/\¬A.ok0 b)
  (r:gu A.dv.S w w') (K:A.dv.inv H (ownB A env) w'):gy A { s with o:=(dx,none,0,.dev O dn H)::s.o } a w' env/\(aI A w env).Le (aI A w' env):=by
 obtain⟨N,u,B⟩:=h.dev g 0 O dn l E C
 have k:(aI A w env).Le (aI A w' env):=⟨r.size,fun b m z=>⟨z,r.block b m (fun D=>by
  rcases z.1 with i|i;exact (old b D).2 i
  have:=(old b D).1;omega)⟩,fun x c f p=>⟨c,f,p,dC _,fun _=>rfl⟩⟩
 refine⟨{ iq:=h.iq.trans (r.mono fun b _ D=>sub b D),size:=h.size,dom:=fun x p=>?_,jv:=fun x J c o d=>?_,live:=fun x c f b i q=>⟨YX (h.live x c f b i q).1 r.size,(h.live x c f b i q).2⟩,inj:=h.inj,tmps:=fun t g pv E C=>let ⟨v,i,q⟩:=h.tmps t g pv E C;⟨v,i,q.le k⟩,defers:=h.defers,und:=h.und,n_:=fun y f I=>⟨(h.n_ y f I).1,(h.n_ y f I).2.le k⟩,dev:=fun J c Q G P d L=>?_ },k⟩;by_cases j:dx=x;subst j;rw[aF] at p;cases p;rw[aC _ _ j] at p;exact h.dom x p;by_cases j:dx=x;subst j;rw[aF] at d;cases d;obtain⟨f,i,_⟩:=h.jv dx g 0 _ E;exact⟨f,i,fun _=>trivial⟩;rw[aC _ _ j] at d;obtain⟨f,i,q⟩:=h.jv x J c o d;exact⟨f,i,fun C=>(q C).Aa k (fun b F m=>r.block b m (A.dv.notS _ _ _ _ B (.inr ⟨x,c,f,i,F⟩)))⟩;rw[aF] at d;cases d;exact⟨N,u,K⟩
end
abbrev o7(v:ag):PV:=.w (.one (.lit v))
abbrev iy(n:Int):PV:=.w (.one (.lit (.int .i64 n)))
abbrev rf(b:Bool):PV:=.w (.one (.lit (.bool b)))
abbrev dm(c:PC):PV:=.w (.one c)
def PW.cells:PW->dw
 |.one c=>[c]|.agg l=>l
def uh(len:Nat)(f f':Nat->dw):Nat->dw:=fun i=>if i<len then f i else f' (i-len)
def su(l:dh):Nat->dw:=fun i=>[.lit (ql (l.getD i 0))]
def byteAt:dw->UInt8
 |[.lit (.int _ n)]=>uB n.toNat|_=>0
def isByte:dw->Bool
 |[.lit (.int .u8 n)]=>decide (0<=n)&&decide (n<256)|_=>false
def rowB(len:Nat)(f:Nat->dw):dh:=(AC len).map fun i=>byteAt (f i)
def FX(len:Nat)(f:Nat->dw):Prop:=∀ i,i<len->isByte (f i)=true
theorem aPe{l:dw}(h:isByte l=true):l=[.lit (ql (byteAt l))]:=by
 unfold isByte at h;split at h;rename_i n;rw[ww,decide_eq_true_eq,decide_eq_true_eq] at h;have:ql (byteAt [.lit (.int .u8 n)])=.int .u8 n:=by show ed .u8 (((uB n.toNat).toNat:Nat):Int)=.int .u8 n;rw[aGK (show n.toNat<256 by omega)];congr 1;omega
 rw[this];cases h
theorem Pq(b:UInt8):uB ((b.toNat:Int)).toNat=b:=b_
theorem aJm(l:dh)(i:Nat):byteAt (su l i)=l.getD i 0:=Pq _
theorem aIs(l:dh)(i:Nat):isByte (su l i)=true:=by show (decide (0<=(((l.getD i 0).toNat:Nat):Int))&&decide ((((l.getD i 0).toNat:Nat):Int)<256))=true;have:=(l.getD i 0).toNat_lt;rw[ww,decide_eq_true_eq,decide_eq_true_eq];omega
@[simp] theorem Zk(n:Nat)(l:dh):FX n (su l):=fun i _=>aIs l i
theorem dZ(n:Nat)(f:Nat->dw):(rowB n f).length=n:=by simp[rowB]
@[simp] theorem eF(l:dh):rowB l.length (su l)=l:=by apply Z9 (dZ _ _);intro i b a;simp only[rowB,ZU,ZI,aJm];rw[zG,zH a];rfl
@[simp] theorem Zl{a b:Nat}{f g:Nat->dw}:FX (a+b) (uh a f g)↔FX a f/\FX b g:=by
 constructor;intro h
 refine⟨fun i c=>?_,fun i c=>?_⟩;have:=h i a_;unfold uh at this;rwa [au c] at this;have:=h (a+i) a_;unfold uh at this;rwa [ay a_,show a+i-a=i from a_] at this;rintro⟨e,d⟩ i c;unfold uh;split;exact e i o_;exact d _ a_
@[simp] theorem aCL(a b:Nat)(f g:Nat->dw):rowB (a+b) (uh a f g)=rowB a f++rowB b g:=by
 apply Z9 (by simp[dZ]);intro i d c;rw[List.getElem_append];simp only[rowB,ZU,ZI,YU,List.length_range];unfold uh
 split<;>rfl
theorem aEl{C:Ctx}{len:Nat}{f:Nat->dw}{vs:ji}(hl:vs.length=len*1)(h:∀ i,i<len->RL C (f i) ((vs.drop (i*1)).take 1))(hb:FX len f):vs=(rowB len f).map ql:=by apply Z9 (by simp[dZ,hl]);intro i g j;have b:i<len:=a_;have d:=h i b;rw[aPe (hb i b)] at d;have c:=d.single;generalize e:(vs.drop (i*1)).take 1=q at c;cases c;have a:=congrArg (·[0]?) e;simp only[x8,YN,Nat.mul_one,ZA,Yv] at a;rw[au a_,zH g] at a;simp only[rowB,List.map_map,ZU,ZI,Function.comp];exact Option.some.inj a
section
variable (P:dE)
def qm(t:bi):Option Nat:=(P.info? t).map (·.size)
def gQ(t:bi):mi:=match P.underlying t with
 |some (.struct _)=>some true|some (.array _ _)=>some true|some _=>some false|none=>none
def CU(t:bi)(l:dw):Option PW:=match gQ P t with
 |none=>none|some true=>some (.agg l)| some false=>match l with
  |[c]=>(match bu c.width 1 with
   |true=>some (.one c)|false=>none)
  |_=>none
def shapeOf:Nat->bi->Option (List Nat)
 |0,_=>none| d+1,t=>match P.underlying t with
  |some (.struct b)=>b.toList.foldr (fun f a=>match shapeOf d f.type,a with|some x,some y=>some (x++y)|_,_=>none) (some [])
  | some (.array n e)=>(match P.underlying e with
   |some (.int .u8)=>some [n]|_=>match shapeOf d e with
    |some x=>some (List.flatten (PR n x))|none=>none)
  |some _=>some [0]|none=>none
def byteOf:ag->Option UInt8
 |.int .u8 n=>if n=((uB n.toNat).toNat:Int) then some (uB n.toNat) else none|_=>none
def jR:Nat->ji->Option dh
 |0,_=>some []|n+1,v::l=>match byteOf v,jR n l with
  |some b,some bs=>some (b::bs)|_,_=>none
 |_+1,[]=>none
def pack:List Nat->ji->Option dw
 |[],[]=>some []|[],_::_=>none|0::sh,v::l=>if v.oneCell'=true then (match pack sh l with|some r=>some (.lit v::r)|none=>none) else none
 |0::_,[]=>none|(n+1)::sh,l=>match jR (n+1) l,pack sh (l.drop (n+1)) with
  |some bs,some r=>some (.bs (n+1) bs::r)|_,_=>none
def YB(t:bi):Option dw:=match (P.info? t).bind (·.zero),shapeOf P 8 t with
 |some z,some a=>pack a z.cells.toList|_,_=>none
def splice:dw->Nat->dw->Option dw
 |l,0,m=>match BZ l (widths m) with
  |some r=>some (m++r)|none=>none
 |[],_+1,_=>none|c::l,off+1,m=>if c.width<=off+1 then (match splice l (off+1-c.width) m with|some r=>some (c::r)|none=>none) else none
where
 BZ:dw->Nat->Option dw
  |l,0=>some l
  |[],_+1=>none
  |c::l,n+1=>if c.width<=n+1 then BZ l (n+1-c.width) else none
def yh:dw->Nat->Option (Nat×dh)
 |.bs n l::_,0=>some (n,l)|_,0=>none|[],_+1=>none|c::l,off+1=>if c.width<=off+1 then yh l (off+1-c.width) else none
def Zz:dw->Nat->dh->dw
 |.bs n _::l,0,m=>.bs n m::l|l,0,_=>l|[],_+1,_=>[]|c::l,off+1,m=>c::Zz l (off+1-c.width) m
def zJ (t:bi):Option (Nat×Nat×Nat):=match P.underlying t with
 | some (.slice e)=>(match P.info? e with
  | some i=>(match i.zero with
   |some z=>(match bu z.cells.size i.size,Hm 0 i.size,Hm 0 i.bytes with
    |true,true,true=>some (e,i.size,i.bytes)|_,_,_=>none)
   |none=>none)
  |none=>none)
 |_=>none
def AV(x:lL)(k:PV->M):M:=match x with
 |.tmp t=>.tmp t fun g v=>match g with
  |none=>k v|some b=>.need (b=true) (k v)
 |.const (.agg _)=>.fail|.const (.tuple _)=>.fail|.const v=>k (o7 v)|.global g=>k (o7 (.pointer (some ⟨g,0,none⟩)))|.func f=>k (o7 (.func (.func f) #[] #[]))
def XL(h:Prop)(x:lL)(k:PV->M):M:=match x with
 |.tmp t=>.tmp t fun g v=>match g with
  |none=>k v|some b=>.need (h->b=true) (k v)
 |.const (.agg _)=>.fail|.const (.tuple _)=>.fail|.const v=>k (o7 v)|.global g=>k (o7 (.pointer (some ⟨g,0,none⟩)))|.func f=>k (o7 (.func (.func f) #[] #[]))
def bHo:List lL->(jl->M)->M
 |[],k=>k []|x::l,k=>AV x fun v=>bHo l fun a=>k (v::a)
def aBe{a:Type}:Sem a->Option a
 |.pure v=>some v|.program k=>aBe (k P)|_=>none
def isLit:PV->Option ag
 |.w (.one (.lit v))=>some v|_=>none
def jE(g:mi)(k:M):M:=match g with
 |none=>k|some b=>.need (b=true) k
abbrev Spec:=Nat->jl->M
abbrev Specs:=Nat->Option Spec
def QI(x:Option PW):M:=match x with
 |some x=>.ret (.w x)|none=>.fail
def Fj(x:Option ag):M:=match x with
 |some v=>(match v.oneCell' with
  |true=>.ret (o7 v)|false=>.fail)
 |none=>.fail
def bBv(x:Option PW)(k:PW->M):M:=match x with
 |some x=>k x|none=>.fail
def Jt:dw->Option (Nat×dh)
 |[.bs n l]=>some (n,l)|_=>none
def FD (t:bi) (p:PV) (k:PW->M):M:=match p with
 | .w (.one (.pt x a b))=>.obj x fun g c d=>jE g (match bu a c,d,qm P t with
  |true,.box _ l,some n=>(match qN l b n with
   |some m=>bBv (CU P t m) k|none=>.fail)
  |_,_,_=>.fail)
 | .w (.one (.pk x a b h))=>.obj x fun g c d=>jE g (match bu a c,d,gQ P t with
  |true,.box _ l,some false=>(match yh l b with
   |some (n,bs)=>.need (h<n) (k (.one (.lit (ql (bs.getD h 0)))))|none=>.fail)
  |_,_,_=>.fail)
 | .w (.one (.pe x a n i j))=>.obj x fun g c d=>jE g (match bu a c,d,qm P t with
  |true,.arr _ o len f,some sz=>(match bu n o,qN (f i) j sz with
   |true,some m=>.need (i<len) (bBv (CU P t m) k)|_,_=>.fail)
  |_,_,_=>.fail)
 | .w (.one (.pf _ _ f i j))=>(match qm P t with
  | some sz=>(match Jt (f i),bu sz 1,gQ P t with
   |some (n,bs),true,some false=>.need (j<n) (k (.one (.lit (ql (bs.getD j 0)))))|_,_,_=>(match qN (f i) j sz with
    |some m=>bBv (CU P t m) k|none=>.fail))
  |none=>.fail)
 | .w (.one (.pa len f))=>(match P.underlying t with
  | some (.array n e)=>(match qm P t,qm P e with
   |some m,some 1=>(match bu m n with
    |true=>.need (n<=len/\FX n f) (bBv (CU P t [.bs n (rowB n f)]) k)|false=>.fail)
   |_,_=>.fail)
  |_=>.fail)
 |_=>.fail
def Uc(t:bi)(p:PV):M:=FD P t p fun x=>.ret (.w x)
def bCm (t:bi) (p v:PV):M:=match v with
 | .w o=>(match qm P t with
  | some sz=>(match bu sz (widths o.cells) with
   | true=>(match p with
    | .w (.one (.pt x a c))=>.obj x fun g d h=>jE g (match bu a d,h with
     |true,.box bt l=>(match splice l c o.cells with
      |some l'=>.upd x d (.box bt l') (.ret .none)|none=>.fail)
     |_,_=>.fail)
    | .w (.one (.pk x a c k))=>.obj x fun g d h=>jE g (match bu a d,h,o with
     |true,.box bt l,.one (.lit (.int .u8 b))=>(match yh l c with
      |some (n,bs)=>.need (k<n/\0<=b/\b<256) (.upd x d (.box bt (Zz l c (bs.set k (uB b.toNat)))) (.ret .none))|none=>.fail)
     |_,_,_=>.fail)
    | .w (.one (.pe x a n i j))=>.obj x fun g d h=>jE g (match bu a d,h with
     |true,.arr e r len f=>(match bu n r,splice (f i) j o.cells with
      |true,some m=>.need (i<len) (.upd x d (.arr e n len (fun q=>if q=i then m else f q)) (.ret .none))|_,_=>.fail)
     |_,_=>.fail)
    |_=>.fail)
   |false=>.fail)
  |none=>.fail)
 |_=>.fail
def aBm (t:bi) (p:PV) (f:Nat):M:=match P.underlying t with
 | some (.struct d)=>(match d[f]? with
  | some b=>(match qm P b.type with
   |some (_+1)=>(match p with
    |.w (.one (.pt x a c))=>.ret (dm (.pt x a (c+b.offset)))|.w (.one (.pe x a n i j))=>.ret (dm (.pe x a n i (j+b.offset)))|.w (.one (.pf n len f i j))=>.ret (dm (.pf n len f i (j+b.offset)))|_=>.fail)
   |_=>.fail)
  |none=>.fail)
 |_=>.fail
def aBj (t:bi) (p:PV) (i:PV):M:=match isLit i with
 | some (.int _ i)=>(match P.underlying t with
  | some (.slice e)=>(match p with
   | .w (.one (.sl n len f))=>(match qm P e with
    |some c=>(match bu n c with
     |true=>.need (0<=i/\i<len) (.ret (dm (.pf n len f i.toNat 0)))|false=>.fail)
    |none=>.fail)
   | .w (.one (.ow x a n b len))=>(match qm P e with
    | some c=>(match bu n c with
     |true=>.obj x fun g d h=>jE g (match bu a d,h with
      |true,.arr _ _ _ _=>.need (0<=i/\i<len) (.ret (dm (.pe x a n (b+i.toNat) 0)))|_,_=>.fail)
     |false=>.fail)
    |none=>.fail)
   |_=>.fail)
  |some (.array n e)=>(match qm P e,p with
   |some 1,.w (.one (.pt x a b))=>.need (0<=i/\i<n) (.ret (dm (.pk x a b i.toNat)))|some 1,.w (.one (.pf k len f l j))=>.need (0<=i/\i<n) (.ret (dm (.pf k len f l (j+i.toNat))))|some (m+2),.w (.one (.pt x a b))=>.need (0<=i/\i<n) (.ret (dm (.pt x a (b+i.toNat*(m+2)))))|_,_=>.fail)
  |_=>.fail)
 |_=>.fail
def bHd (t:bi) (v:PV) (f:Nat):M:=match P.underlying t with
 | some (.struct b)=>(match b[f]? with
  | some a=>(match qm P a.type,v with
   |some n,.w (.agg l)=>(match qN l a.offset n with
    |some m=>QI (CU P a.type m)|none=>.fail)
   |_,_=>.fail)
  |none=>.fail)
 |_=>.fail
def aJa:List (Nat×Nat)->List (Nat×PV)->dw->Option dw
 |_,[],l=>some l| places,(i,v)::ps,l=>match v,places[i]? with
  |.w b,some (a,n)=>(match bu n (widths b.cells),splice l a b.cells with
   |true,some l'=>aJa places ps l'|_,_=>none)
  |_,_=>none
def bIv(t:bi)(vs:List (Nat×PV))(l:dw):M:=match P.underlying t with
 | some (.struct d)=>(match d.toList.mapM (fun f=>(P.info? f.type).map fun i=>(f.offset,i.size)) with
  |some a=>(match aJa a vs l with
   |some l'=>.ret (.w (.agg l'))|none=>.fail)
  |none=>.fail)
 | some (.array _ e)=>(match qm P e,l with
  |some 1,[.bs n bs]=>(match vs with
   |[]=>.ret (.w (.agg [.bs n bs]))|[(i,.w (.one (.lit (.int .u8 b))))]=>.need (i<n/\0<=b/\b<256) (.ret (.w (.agg [.bs n (bs.set i (uB b.toNat))])))|[(i,.w (.one (.lit (.int .u8 b)))),(j,.w (.one (.lit (.int .u8 c))))]=>.need (i<n/\j<n/\0<=b/\b<256/\0<=c/\c<256) (.ret (.w (.agg [.bs n ((bs.set i (uB b.toNat)).set j (uB c.toNat))])))|_=>.fail)
  |_,_=>.fail)
 |_=>.fail
def Y9(n:Nat):Nat->List (Nat×PV)->Option (List dw)
 |_,[]=>some []| k,(i,v)::ps=>match bu i k,v,Y9 n (k+1) ps with
  |true,.w a,some r=>(match bu (widths a.cells) n with
   |true=>some (a.cells::r)|false=>none)
  |_,_,_=>none
def yO(b:Nat)(t:bi)(len:Nat)(a:List (Nat×PV)):M:=match zJ P t with
 |
  some (e,n,_)=>(match Y9 n 0 a,bu a.length len,ZC (len*n) 16777216 with
  |some l,true,true=>.new b (.arr e n len (fun i=>l.getD i [])) fun v=>.ret (dm (.ow b v n 0 len))|_,_,_=>.fail)
 |none=>.fail
def GN(d:Int)(x:Option PV)(k:Int->M):M:=match x with
 |none=>k d|some v=>(match isLit v with
  |some (.int _ i)=>k i|_=>.fail)
def bCu (t:bi) (p:PV) (d j:Option PV):M:=
 match P.underlying t with
 |some .string=>(match p with
  |.w (.one (.lit (.string b)))=>GN 0 d fun l=>GN (b.size:Int) j fun h=>.need (0<=l/\l<=h/\h<=(b.size:Int)) (.ret (o7 (.string (b.extract l.toNat h.toNat))))|_=>.fail)
 | some (.slice e)=>(match p with
  | .w (.one (.sl n len f))=>(match qm P e with
   |some q=>(match bu n q with
    |true=>GN 0 d fun l=>GN len j fun h=>.need (0<=l/\l<=h/\h<=len) (.ret (dm (.sl n (h-l).toNat (fun i=>f (l.toNat+i)))))|false=>.fail)
   |none=>.fail)
  |_=>.fail)
 | some (.array n e)=>(match qm P e,p,d,j with
  | some 1,.w (.one (.pt x a c)),none,none=>.obj x fun g k o=>jE g (match bu a k,o with
   | true,.box _ l=>(match yh l c with
    |some (m,_)=>(match bu m n,ZC n 65536 with
     |true,true=>.ret (dm (.ob x a c n))|_,_=>.fail)
    |none=>.fail)
   |_,_=>.fail)
  |_,_,_,_=>.fail)
 |_=>.fail
def Wl(t:bi)(v:PV):M:=match P.underlying t,v with
 |some (.slice _),.w (.one (.sl _ len _))=>.ret (iy len)|some (.slice _),.w (.one (.ow _ _ _ _ len))=>.ret (iy len)|some (.slice _),.w (.one (.ob _ _ _ len))=>.ret (iy len)|some (.slice _),.w (.one (.lit (.slice none 0 0)))=>.ret (iy 0)|some .string,.w (.one (.lit (.string s)))=>.ret (iy s.size)|_,_=>.fail
def Ic(n:Nat)(v:PV)(k:Nat->(Nat->dw)->M):M:=match v with
 |.w (.one (.sl h len f))=>(match bu n h with
  |true=>k len f|false=>.fail)
 | .w (.one (.ow x b h a len))=>.obj x fun g c e=>jE g (match bu b c,bu n h,e with
  |true,true,.arr _ m d f=>(match bu n m with
   |true=>.need (a+len<=d) (k len (fun i=>f (a+i)))|false=>.fail)
  |_,_,_=>.fail)
 | .w (.one (.ob x b a len))=>.obj x fun g c e=>jE g (match bu b c,bu n 1,e with
  |true,true,.box _ l=>(match yh l a with
   |some (m,bs)=>.need (len<=m) (k len (fun i=>[.lit (ql (bs.getD i 0))]))|none=>.fail)
  |_,_,_=>.fail)
 |.w (.one (.lit (.slice none 0 0)))=>k 0 (fun _=>[])|_=>.fail
def Y5 (v:PV) (k:dh->M):M:=match v with
 |.w (.one (.sl n len f))=>(match bu n 1 with
  |true=>.need (FX len f) (k (rowB len f))|false=>.fail)
 | .w (.one (.ow x a n b len))=>.obj x fun g c e=>jE g (match bu a c,bu n 1,bu b 0,e with
  |true,true,true,.arr _ m d f=>(match bu n m with
   |true=>.need (len<=d/\FX len f) (k (rowB len f))|false=>.fail)
  |_,_,_,_=>.fail)
 | .w (.one (.ob x a b len))=>.obj x fun g c e=>jE g (match bu a c,e with
  | true,.box _ l=>(match yh l b with
   |some (m,bs)=>(match bu len m with
    |true=>k bs|false=>.fail)
   |none=>.fail)
  |_,_=>.fail)
 |.w (.one (.lit (.slice none 0 0)))=>k []|_=>.fail
def aUt (i:Nat) (t:bi) (s x:PV):M:=match zJ P t with
 |
  some (e,n,c)=>(match s with
  | .w (.one (.ow y b o d len))=>.obj y fun g j l=>jE g (match bu b j,bu n o,bu d 0,l with
   |true,true,true,.arr p m a f=>(match bu n m,bu e p&&Hm e G7 with
    |true,true=>.need (len=a) (Ic n x fun k h=>.need ((a+k)*c<=140737488355328) (.upd y (b+1) (.arr e n (a+k) (uh a f h)) (.ret (dm (.ow y (b+1) n 0 (a+k))))))|_,_=>.fail)
   |_,_,_,_=>.fail)
  |.w (.one (.lit (.slice none 0 0)))=>Ic n x fun k h=>.need (k*c<=140737488355328) (.new i (.arr e n k h) fun v=>.ret (dm (.ow i v n 0 k)))|_=>.fail)
 |none=>.fail
def Ze(e:bi):Bool:=match P.info? e with
 |some i=>(match i.zero with
  |some (.int .u8 0)=>true|_=>false)
 |none=>false
def EX(n:Nat):l9:=⟨(PR n (0:UInt8)).toArray⟩
def aXw(e:bi)(s:PV)(b:l9):M:=match s with
 | .w (.one (.ow y c j d len))=>.obj y fun g h i=>jE g (match bu c h,bu 1 j,bu d 0,i with
  |true,true,true,.arr k m a f=>(match bu 1 m,bu e k&&Hm e G7,Ze P e with
   |true,true,true=>.need (len=a/\a+b.size<=140737488355328) (.upd y (c+1) (.arr e 1 (a+b.size) (uh a f (su b.data.toList))) (.ret (dm (.ow y (c+1) 1 0 (a+b.size)))))|_,_,_=>.fail)
  |_,_,_,_=>.fail)
 |_=>.fail
def aUu(_nm:Nat)(t u:bi)(s x:PV):M:=match zJ P t,P.underlying u,x with
 |some (e,1,1),some .string,.w (.one (.lit (.string b)))=>aXw P e s b|some (e,1,1),some (.int _),.w (.one (.lit (.int .i64 n)))=>(match P.underlying 9 with
  |some .string=>.need (0<=n) (aXw P e s (EX n.toNat))|_=>.fail)
 |_,_,_=>.fail
def VW(r:Option qj):PV:=.w (.agg [.lit (.int .i64 (r.getD ⟨0,aG⟩).val),.lit (.string (r.getD ⟨0,aG⟩).bytes)])
def aFS(c:Acc):M:=.obj dx fun g a b=>jE g (match bu a 0,b with
 |true,.dev O dn l=>.need (O (l++[c])=none->dn (l++[c])) (.upd dx 0 (.dev O dn (l++[c])) (.ret (VW (O (l++[c])))))|_,_=>.fail)
def doM(xs:jl):M:=match xs with
 |[.w (.agg [.lit (.int .i64 k),.lit (.int .i64 b),.lit (.int .i64 c),.lit (.string x)])]=>(match decide (k = -1) with
  |true=>.fail|false=>aFS ⟨k,b,c,x⟩)
 |_=>.fail
def OC(G:Specs)(b:Nat)(e:PV)(xs:jl):M:=match e with
 |.w (.one .dv)=>doM xs| .w (.one (.lit (.func (.func f) first cap)))=>(match first.toList,cap.toList,G f with
  |[],[],some a=>a b xs|[.agg d],[],some a=>(match d.toList.all (·.oneCell') with
   |true=>a b (.w (.agg (d.toList.map .lit))::xs)|false=>.fail)
  |_,_,_=>.fail)
 |.w (.one (.fn (.func f) first cap))=>(match G f,first.all (fun c=>bu c.width 1),cap.all (fun c=>bu c.width 1) with
  |some a,true,true=>a b (first.map dm++xs++cap.map dm)
  |_,_,_=>.fail)
 |_=>.fail
def aPb:dw->Option ji
 |[]=>some []|.lit v::l=>(match aPb l with
  |some r=>some (v::r)|none=>none)
 |_::_=>none
def bFx:jl->Option ji
 |[.w (.agg l)]=>aPb l|_=>none
def QO(x:PV):Option PC:=match x with
 |.w (.one c)=>some c|_=>none
def Gw:jl->Option dw
 |[]=>some []|v::l=>match QO v,Gw l with
  |some c,some r=>some (c::r)|_,_=>none
def I8:PV->Nat->Option PW
 |.og l,i=>l[i]?|_,_=>none
def aLu:List (Nat×lL)->(List (Nat×PV)->M)->M
 |[],k=>k []|(i,x)::l,k=>AV x fun v=>aLu l fun a=>k ((i,v)::a)
def NH(x:Option lL)(k:Option PV->M):M:=match x with
 |none=>k none|some x=>AV x fun v=>k (some v)
def Zp:Nat->bi->dw->dw->mi
 |0,_,_,_=>none| d + 1,t,l,m=>match P.underlying t with
  |some (.int _)=>(match l,m with
   |[.lit (.int k a)],[.lit (.int i b)]=>if k=i then some (a==b) else none|_,_=>none)
  |some .string=>(match l,m with
   |[.lit (.string a)],[.lit (.string b)]=>some (a.toList==b.toList)|_,_=>none)
  |some .bool=>(match l,m with
   |[.lit (.bool a)],[.lit (.bool b)]=>some (a==b)|_,_=>none)
  | some (.array n e)=>(match P.underlying e,qm P e,l,m with
   |some (.int .u8),some 1,[.bs h a],[.bs g b]=>(match bu n h,bu n g with
    |true,true=>some (a==b)|_,_=>none)
   |_,_,_,_=>none)
  | some (.struct j)=>(match P.stoodInHeld t with
   | false=>j.toList.foldr (fun f c=>match c,f.name != "_",qm P f.type with
    | some r,true,some n=>(match qN l f.offset n,qN m f.offset n with
     |some x,some y=>(match CU P f.type x,CU P f.type y,Zp d f.type x y with
      |some _,some _,some q=>some (q&&r)|_,_,_=>none)
     |_,_=>none)
    |_,_,_=>none) (some true)
   |true=>none)
  |_=>none
def aWp(t:bi)(k:M):M:=match P.underlying t with
 |some (.array _ _)=>(match P.eqGuardType P.depth t with|false=>k|true=>.fail)
 |_=>.need (P.eqGuardType P.depth t=false) k
def Xi(c:BinOp)(t:bi)(x y:lL)(a b:PV):M:=match a,b with
 |.w (.one (.lit e)),.w (.one (.lit d))=>(match c,e,d with
  |.quo,.int k m,.int f n=>if k=f then .need (n≠0) (.ret (o7 (.int k (k.wrap (m.tdiv n))))) else .fail
  |.rem,.int k m,.int f n=>if k=f then .need (n≠0) (.ret (o7 (.int k (m.tmod n)))) else .fail
  |.shl,.int k m,.int _ n=>.need (0<=n) (.ret (o7 (.int k (k.wrap (m*2 ^ (min n.toNat k.bits))))))
  |.shr,.int k m,.int _ n=>.need (0<=n) (.ret (o7 (.int k (m.fdiv (2 ^ (min n.toNat k.bits))))))
  |.add,.string m,.string n=>.need ((m.size+n.size:Nat)<=9223372036854775807) (.ret (o7 (.string (m++n))))
  |c,e,d=>Fj (aBe P (do eqGuard c t x y e d;binOp c t e d)))
 |.w (.agg l),.w (.agg m)=>(match c,Zp P 8 t l m,gQ P t with
  |.eql,some r,some true=>aWp P t (.ret (rf r))
  |.neq,some r,some true=>aWp P t (.ret (rf (!r)))
  |_,_,_=>.fail)
 |.w (.one (.sl _ len _)),.w (.one (.lit (.slice none 0 0)))=>(match c,P.underlying t with
  |.eql,some (.slice _)=>.need (0<len) (.ret (rf false))
  |.neq,some (.slice _)=>.need (0<len) (.ret (rf true))
  |_,_=>.fail)
 |_,_=>.fail
def UT(c a b:lL):M:=AV c fun d=>match d with
 |.w (.one (.lit (.bool h)))=>XL (h=true) a fun f=>XL (h=false) b fun e=>(match f,e with
  |.w (.one (.lit (.bool x))),.w (.one (.lit (.bool y)))=>.ret (rf (bif h then x else y))|_,_=>.fail)
 |_=>.fail
def Qc:Nat:=0
def O6(own:Bool)(a:Nat)(src dst:bi)(v:PV):M:=match P.underlying src,P.underlying dst with
 | some .string,some (.slice e)=>(match P.underlying e,v with
  |some (.int .u8),.w (.one (.lit (.string b)))=>(match own with
   |false=>.need (b.size<=9223372036854775807) (.ret (dm (.sl 1 b.size (su b.data.toList))))|true=>.need (b.size<=9223372036854775807) (.new a (.arr G7 1 b.size (su b.data.toList)) fun v=>.ret (dm (.ow a v 1 0 b.size))))
  |_,_=>.fail)
 |some (.slice e),some .string=>(match P.underlying e with
  |some (.int .u8)=>Y5 v fun l=>.ret (o7 (.string ⟨l.toArray⟩))|_=>.fail)
 |_,_=>(match isLit v with
  |some u=>Fj (aBe P (convert src dst u))|none=>.fail)
def LC(b:Nat)(t:bi)(l c:PV):M:=match zJ P t,isLit l,isLit c with
 |some (e,n,a),some (.int _ l),some (.int _ c)=>(match YB P e with
  |some z=>.need (0<=l/\l<=c/\(a:Int)*c<=140737488355328) (.new b (.arr e n l.toNat (fun _=>z)) fun v=>.ret (dm (.ow b v n 0 l.toNat)))|none=>.fail)
 |_,_,_=>.fail
def XY(k:Nat)(f f':Nat->dw):Nat->dw:=fun i=>if i<k then f' i else f i
def O5(t:bi)(x y:PV):M:=match zJ P t,x with
 | some (e,n,_),.w (.one (.ow z b i c len))=>.obj z fun g d h=>jE g (match bu b d,bu n i,bu c 0,h with
  |true,true,true,.arr l m a f=>(match bu n m,bu e l&&Hm e G7 with
   |true,true=>.need (len=a) (Ic n y fun k j=>.upd z b (.arr e n a (XY (min k a) f j)) (.ret (iy (min k a:Nat))))|_,_=>.fail)
  |_,_,_,_=>.fail)
 |_,_=>.fail
def bGf:PV->Bool
 |.w (.one (.pt _ _ _))=>true|.w (.one (.pk _ _ _ _))=>true|.w (.one (.pe _ _ _ _ _))=>true|.w (.one (.pf _ _ _ _ _))=>true|.w (.one (.pa _ _))=>true|_=>false
def aMn(t:bi)(v:PV):M:=match P.underlying t,v with
 |some (.array n e),.w (.one (.sl k len f))=>(match qm P e,bu k 1 with
  |some 1,true=>.need (n<=len/\0<len) (.ret (dm (.pa len f)))|_,_=>.fail)
 |_,_=>.fail
def WC(a b:PV):M:=match a,b with
 |.w (.one (.lit (.int k m))),.w (.one (.lit (.int c n)))=>if k=c then .ret (o7 (.int k (min m n))) else .fail|_,_=>.fail
def WQ(a b:PV):M:=match a,b with
 |.w (.one (.lit (.int k m))),.w (.one (.lit (.int c n)))=>if k=c then .ret (o7 (.int k (max m n))) else .fail|_,_=>.fail
def body(G:Specs)(nm:Nat)(o:df):M:=match o.op with
 |.move x=>AV x fun v=>.ret v|.assign x=>AV x fun v=>.ret v|.pick c a b=>UT c a b|.alloc t=>(match YB P t with
  |some l=>.new nm (.box t l) fun v=>.ret (dm (.pt nm v 0))|none=>.fail)
 | .box t x=>AV x fun v=>(match v,qm P t with
  |.w pw,some n=>(match bu n (widths pw.cells) with
   |true=>.new nm (.box t pw.cells) fun v=>.ret (dm (.pt nm v 0))|false=>.fail)
  |_,_=>.fail)
 |.load t p=>AV p fun p=>Uc P t p|.store t p v=>AV p fun p=>AV v fun v=>bCm P t p v|.fieldAddr t p f=>AV p fun p=>aBm P t p f|.indexAddr t p i=>AV p fun p=>AV i fun i=>aBj P t p i|.field t v f=>AV v fun v=>bHd P t v f|.extract v i=>AV v fun v=>QI (I8 v i)|.build t ps=>aLu ps.toList fun vs=>(match YB P t with
  |some l=>bIv P t vs l|none=>.fail)
 |.buildSlice t n ps=>aLu ps.toList fun vs=>yO P nm t n vs|.slice t p lo hi none=>AV p fun p=>NH lo fun lo=>NH hi fun hi=>bCu P t p lo hi|.binOp op t x y _=>AV x fun a=>AV y fun b=>Xi P op t x y a b|.unOp op _ x=>AV x fun a=>(match isLit a with
  |some v=>Fj (aBe P (Op.unary op v))|none=>.fail)
 |.convert src dst x=>AV x fun a=>O6 P (G Qc).isSome nm src dst a|.makeSlice t l c=>AV l fun l=>AV c fun c=>LC P nm t l c| .call { callee:=.builtin .copy,args,argTypes }=>(match args.toList,argTypes.toList with
  |[x,y],[t,t']=>(match bu t t' with
   |true=>AV x fun x=>AV y fun y=>O5 P t x y|false=>.fail)
  |_,_=>.fail)
 |.nilCheck x=>AV x fun v=>(match bGf v with
  |true=>.ret v|false=>.fail)
 |.sliceToArrayPointer t x=>AV x fun v=>aMn P t v|.call { callee:=.builtin .min,args,.. }=>(match args.toList with
  |[x,y]=>AV x fun x=>AV y fun y=>WC x y|_=>.fail)
 |.call { callee:=.builtin .max,args,.. }=>(match args.toList with
  |[x,y]=>AV x fun x=>AV y fun y=>WQ x y|_=>.fail)
 | .makeFunc fn first cap=>bHo first.toList fun fs=>bHo cap.toList fun cs=>(match Gw fs,Gw cs with
  |some fs,some cs=>.ret (dm (.fn fn fs cs))|none,some []=>(match bFx fs with
   |some l=>.ret (o7 (.func fn #[.agg l.toArray] #[]))|none=>.fail)
  |_,_=>.fail)
 |.call { callee:=.value f,args,.. }=>AV f fun fv=>bHo args.toList fun xs=>OC G nm fv xs|.call { callee:=.builtin .len,args,argTypes }=>(match args.toList,argTypes.toList with
  |[x],[t]=>AV x fun v=>Wl P t v|_,_=>.fail)
 | .call { callee:=.builtin .append,args,argTypes }=>(match args.toList,argTypes.toList with
  |[s,x],[t,t']=>(match bu t t' with
   |true=>AV s fun s=>AV x fun x=>aUt P nm t s x|false=>AV s fun s=>AV x fun x=>aUu P nm t t' s x)
  |_,_=>.fail)
 |_=>.fail
def QJ:List ResultVar->(List PW->M)->M
 |[],k=>k []|.tmp t::l,k=>AV (.tmp t) fun v=>(match v with
  |.w x=>QJ l fun b=>k (x::b)|_=>.fail)
 |.cell a t::l,k=>AV (.tmp a) fun p=>FD P t p fun x=>QJ l fun b=>k (x::b)
def yx(rs:Array ResultVar):M:=QJ P rs.toList fun a=>(match a with
 |[x]=>.ret (.w x)|a=>.ret (.og a))
def Ed(a b:Bool):Bool:=match a with
 |true=>b|false=>!b
def pJ (G:Specs) (rid:Nat) (ops:List df) (i:Nat) (o:df):M:=match o.guard with
 |none=>body P G (rid*1000+i) o| some (j,pol)=>(match (ops[j]?).bind (·.dst) with
  | some tj=>.tmp tj fun g v=>(match g,v with
   |none,.w (.one (.lit (.bool b)))=>(match G 5,Ed pol b with
    |some _,true=>body P G (rid*1000+i) o|_,_=>.gate (Ed pol b) (body P G (rid*1000+i) o))
   |some b0,.w (.one (.lit (.bool b)))=>.gate (b0&&Ed pol b) (body P G (rid*1000+i) o)|_,_=>.fail)
  |none=>.fail)
end
theorem ig{a b:Nat}(h:bu a b=true):a=b:=Nat.eq_of_beq_eq_true h
section
variable {P:dE} {A:lh} {s:St} {a:Act} {w:ae} {env:Env}
def Fin(A:lh)(s:St)(a:Act)(o:df)(K:Act->je)(F:mi->PV->Wr->Prop):Prop:=∀ v wr c d b,F none v wr->gy A { s with o:=wr++s.o } a d b->RV (aI A d b) v c->K (a.put o.dst c) d
theorem Fin.same{o:df}{K:Act->je}{F:mi->PV->Wr->Prop}(c:Fin A s a o K F)(h:gy A s a w env){v:PV}{val:ag}(d:F none v [])(b:RV (aI A w env) v val):K (a.put o.dst val) w:=c v [] val w env d h b
theorem fC(h:gy A s a w env){x:lL}{k:PV->M}{F:mi->PV->Wr->Prop}(c:(AV x k).ok none s F):∃ pv,RV (aI A w env) pv (a.eval x)/\(k pv).ok none s F:=by
 cases x with
 | tmp t=>
  obtain⟨g,v,l,c⟩:=c;have d:gT g->∃ pv,RV (aI A w env) pv (a.eval (.tmp t))/\pv=v:=fun j=>by obtain⟨i,e,m⟩:=h.tmps t g v l j;refine⟨v,?_,rfl⟩;simp only[Act.eval];rw[Yw,e];exact m
  cases g with
  |none=>obtain⟨pv,e,rfl⟩:=d trivial;exact⟨pv,e,c⟩
  |some b=>obtain⟨pv,e,rfl⟩:=d c.1;exact⟨pv,e,c.2⟩
 |const v=>cases v<;>first|exact c.elim|exact⟨_,.w (.one (.lit rfl)),c⟩
 |global g=>exact⟨_,.w (.one (.lit rfl)),c⟩|func f=>exact⟨_,.w (.one (.lit rfl)),c⟩
theorem bHn(h:gy A s a w env){p:Prop}{x:lL}{k:PV->M}{F:mi->PV->Wr->Prop}(c:(XL p x k).ok none s F):∃ pv,(p->RV (aI A w env) pv (a.eval x))/\(k pv).ok none s F:=by
 cases x with
 | tmp t=>
  obtain⟨g,v,m,c⟩:=c;have d:gT g->∃ pv,RV (aI A w env) pv (a.eval (.tmp t))/\pv=v:=fun l=>by obtain⟨i,e,n⟩:=h.tmps t g v m l;refine⟨v,?_,rfl⟩;simp only[Act.eval];rw[Yw,e];exact n
  cases g with
  |none=>obtain⟨pv,e,rfl⟩:=d trivial;exact⟨pv,fun _=>e,c⟩
  |some b=>refine⟨v,fun j=>?_,c.2⟩;obtain⟨pv,e,rfl⟩:=d (c.1 j);exact e
 |const v=>cases v<;>first|exact c.elim|exact⟨_,fun _=>.w (.one (.lit rfl)),c⟩
 |global g=>exact⟨_,fun _=>.w (.one (.lit rfl)),c⟩|func f=>exact⟨_,fun _=>.w (.one (.lit rfl)),c⟩
theorem dD{g:mi}{k:M}{F:mi->PV->Wr->Prop}(h:(jE g k).ok none s F):gT g/\k.ok none s F:=by
 cases g with
 |none=>exact⟨trivial,h⟩|some b=>exact h
theorem jQ(h:gy A s a w env){x:Nat}{g:mi}{c:Nat}{ob:lu}(e:find s.o x=some (g,c,ob))(d:gT g):∃ b,env x=some (c,b)/\nI (aI A w env) b ob:=by obtain⟨b,i,f⟩:=h.jv x g c ob e;exact⟨b,i,f d⟩
theorem At.now{C:Ctx}{x jm:Nat}{p:ag->Prop}(h:At C x jm p){hd:ag}(c:C.env x=some (jm,hd)):p hd:=by obtain⟨f,d,b,_,e⟩:=h;rw[c] at b;cases b;exact e rfl
theorem bDl{x:Option PW}{F:mi->PV->Wr->Prop}(h:(QI x).ok none s F):∃ b,x=some b/\F none (.w b) []:=by
 cases x with
 |none=>exact h.elim|some b=>exact⟨b,rfl,h⟩
theorem bFi{C:Ctx}{t:bi}{m:dw}{g:PW}{xs:ji}(d:CU P t m=some g)(hr:RL C m xs) :
  (gQ P t=some true/\RW C g (.agg xs.toArray))\/(gQ P t=some false/\∃ v,xs=[v]/\v.oneCell'=true/\RW C g v):=by
 unfold CU at d;cases j:gQ P t with
 |none=>rw[j] at d;cases d| some b=>
  rw[j] at d;cases b with
  |true=>cases d;exact .inl ⟨rfl,.agg (by simpa using hr)⟩| false=>
   dsimp only at d;refine .inr ⟨rfl,?_⟩
   match m,d,hr with
   | [c],d,hr=>
    dsimp only at d;cases h:bu c.width 1 with
    |false=>rw[h] at d;cases d| true=>
     rw[h] at d;cases d;cases hr with
     |cons e k=>
      cases k;have i:=e.width;rw[ig h] at i;rename_i f
      match f,i,e with
      |[v],_,e=>exact⟨v,b_,e.ones v b_,.one e⟩
theorem aEm{t:bi}(h:gQ P t=some true):∃ d,P.underlying t=some d/\d.isRow=true:=by unfold gQ at h;split at h;exact⟨_,by assumption,rfl⟩;exact⟨_,by assumption,rfl⟩;cases h;cases h
theorem zQ{t:bi}(h:gQ P t=some false)(w:ae):(isAgg t).run P w=.ok false w:=by
 unfold isAgg;unfold gQ at h;cases b:P.underlying t with
 |none=>rw[b] at h;cases h|some d=>
  rw[Sem.run_bind,xy b];rw[b] at h
  cases d<;>first|(cases h;done)|rfl
theorem aLd{C:Ctx}{t:bi}{n b o:Nat}{m:dw}{i:PW}{xs:ji}(l:qm P t=some n)(j:CU P t m=some i)(hr:RL C m xs)(f:xs.length=n)(hc:C.w.rangeAt b o xs) :
  ∃ e,(Instr.loadAt t (.pointer (some ⟨b,o,none⟩))).run P C.w=.ok e C.w/\RW C i e:=by
 rcases bFi j hr with⟨g,h⟩|⟨g,v,rfl,q,h⟩;obtain⟨d,k,p⟩:=aEm g
 refine⟨_,run_loadAt_mid C.w b o t xs d hc k p ?_,h⟩;rw[f];exact l;refine⟨v,?_,h⟩;have c:=hc 0 v rfl;rw[ZA] at c;simp only[Instr.loadAt,Instr.sureAddr,Sem.run_bind,Sem.run_pure,Result.andThen_ok,loadVar,zQ g];simp[load,Sem.run,c]
theorem aJw{o:df}{K:Act->je}{Q:Exit->Act->je}{t:bi}{x:lL}(b:o.op=.load t x){val:ag}(hr:(Instr.loadAt t (a.eval x)).run P w=.ok val w)(c:K (a.put o.dst val) w):o.wp P a w K Q:=by unfold Oper.wp execOp;simp only[b,Sem.run_bind,Sem.run_pure,Result.andThen_ok,hr];exact c
theorem jI{w:ae}{b o:Nat}{cs:ji}(h:w.rangeAt b o cs)(off n:Nat):w.rangeAt b (o+off) ((cs.drop off).take n):=fun j v c=>by rw[x8] at c;by_cases d:j<n;rw[au d,YN] at c;have:=h (off+j) v c;rwa [<-Yt] at this;rw[ay d] at c;cases c
theorem aOo{w:ae}{e n len:Nat}{g:Nat}{n0 b:Nat}{vs:ji}(h:Di w e n (.slice (some ⟨g,0,none⟩) n0 b) len vs):w.rangeAt g 0 vs:=h.range
theorem oO{C:Ctx}:∀ {l:dw} {b n:Nat} {e:dh} {f:ji},RL C l f->yh l b=some (n,e)->e.length=n/\(f.drop b).take n=e.map ql/\b+n<=f.length:=by
 intro l
 induction l with
 |nil=>intro b n e f h g;cases b<;>simp[yh] at g| cons c l o=>
  intro b n e f h g;cases h with
  | @cons _ _ _ t r j q=>
   have p:=j.width
   match b with
   | 0=>
    cases c<;>first|(simp[yh] at g;done)|skip
    obtain⟨rfl,rfl⟩:_=n/\_=e:=by simpa[yh] using g
    cases j with
    |bs h=>refine⟨h,?_,jr⟩;rw[Yh,List.take_append_of_le_length jr,YY jr]
   | b+1=>
    have d:(if c.width<=b+1 then yh l (b+1-c.width) else none)=some (n,e):=by cases c<;>exact g
    by_cases i:c.width<=b+1;rw[au i] at d;obtain⟨m,k,u⟩:=o q d;refine⟨m,?_,by rw[gp];omega⟩;rw[aFA,aAE a_,Ha,p];exact k;rw[ay i] at d;cases d
theorem qE(b:dh)(k:Nat)(h:k<b.length):(b.map ql)[k]?=some (ql (b.getD k 0)):=by rw[XN,zH h,zG,zH h];rfl
theorem RV.inv{C:Ctx}{c:PC}{v:ag}(h:RV C (.w (.one c)) v):R C c [v]:=by cases h with|w h=>cases h with|one h=>exact h
theorem RV.BJ{C:Ctx}{x jm off:Nat}{v:ag}(h:RV C (.w (.one (.pt x jm off))) v){hd:ag}(b:C.env x=some (jm,hd)):aMp off v hd:=by cases h.inv with|pt _ h=>exact h.now b
theorem RV.Jb{C:Ctx}{x jm off k:Nat}{v:ag}(h:RV C (.w (.one (.pk x jm off k))) v){hd:ag}(b:C.env x=some (jm,hd)):aMp (off+k) v hd:=by cases h.inv with|pk _ h=>exact h.now b
theorem RV.Jc{C:Ctx}{x jm n i j:Nat}{v:ag}(h:RV C (.w (.one (.pe x jm n i j))) v){hd:ag}(b:C.env x=some (jm,hd)):bJq n i j v hd:=by cases h.inv with|pe _ h=>exact h.now b
theorem RV.AY{C:Ctx}{x jm n off len:Nat}{v:ag}(h:RV C (.w (.one (.ow x jm n off len))) v){hd:ag}(b:C.env x=some (jm,hd)):bJr n off len v hd:=by cases h.inv with|ow _ h=>exact h.now b
theorem RV.Jw{C:Ctx}{x jm off len:Nat}{v:ag}(h:RV C (.w (.one (.ob x jm off len))) v){hd:ag}(b:C.env x=some (jm,hd)):bJs off len v hd:=by cases h.inv with|ob _ h=>exact h.now b
theorem aFo{t:bi}{b o:Nat}{v:ag}(c:gQ P t=some false)(hc:w.cell? ⟨b,o,none⟩=some v):(Instr.loadAt t (.pointer (some ⟨b,o,none⟩))).run P w=.ok v w:=by simp only[Instr.loadAt,Instr.sureAddr,Sem.run_bind,Sem.run_pure,Result.andThen_ok,loadVar,zQ c];simp[load,Sem.run,hc]
theorem bAl{w:ae}{b n i:Nat}{vs:ji}(h:w.rangeAt b 0 vs)(j c:Nat):w.rangeAt b (i*n+j) ((((vs.drop (i*n)).take n).drop j).take c):=by have d:=jI h (i*n) n;rw[ik] at d;exact jI d j c
theorem aCu{x:Option PW}{k:PW->M}{F:mi->PV->Wr->Prop}(h:(bBv x k).ok none s F):∃ b,x=some b/\(k b).ok none s F:=by
 cases x with
 |none=>exact h.elim|some b=>exact⟨b,rfl,h⟩
theorem Js{l:dw}{n:Nat}{b:dh}(h:Jt l=some (n,b)):l=[.bs n b]:=by unfold Jt at h;split at h;cases h;rfl;cases h
theorem aWh(h:gy A s a w env){F:mi->PV->Wr->Prop}{t:bi}{v:ag}{p:PV}{kk:PW->M}(hp:RV (aI A w env) p v)(d:(FD P t p kk).ok none s F):∃ b W O y,v=.pointer (some ⟨b,W,none⟩)/\(Instr.loadAt t v).run P w=.ok y w/\RW (aI A w env) O y/\(kk O).ok none s F:=by
 unfold FD at d;split at d
 ·
  rename_i x1 H I;obtain⟨g,vr,ob,K,d⟩:=d;have J:=dD d;clear d;obtain⟨hg,d⟩:=J;obtain⟨hd,S,B⟩:=jQ h K hg
  cases G:bu H vr<;>cases ob<;>cases z:qm P t<;>simp only[G,z] at d<;>try exact d.elim
  rename_i bt l n;obtain rfl:=ig G;cases D:qN l I n with
  |none=>rw[D] at d;exact d.elim|some m=>rw[D] at d;obtain⟨O,Y,L⟩:=aCu d;obtain⟨g1,rfl,V⟩:=hp.BJ S;obtain⟨g2,cs,e2,hB,hR⟩:=B;cases e2;obtain⟨X,k2⟩:=hR.sub D;have u:=jI hB.range I n;rw[ik] at u;obtain⟨y,o,x⟩:=aLd (C:=aI A w env) z Y X (by rw[xe,YO];omega) u;rw[<-V] at o;exact⟨_,_,O,y,V,o,x,L⟩
 ·
  rename_i x1 H I k;obtain⟨g,vr,ob,K,d⟩:=d;have J:=dD d;clear d;obtain⟨hg,d⟩:=J;obtain⟨hd,S,B⟩:=jQ h K hg
  cases G:bu H vr<;>cases ob<;>cases Z:gQ P t<;>simp only[G,Z] at d<;>try exact d.elim
  rename_i bt l bb
  cases bb<;>try exact d.elim
  obtain rfl:=ig G;dsimp only at d;cases D:yh l I with
  |none=>rw[D] at d;exact d.elim|some q=>obtain⟨n,bs⟩:=q;rw[D] at d;obtain⟨a5,L⟩:=d;obtain⟨g1,rfl,V⟩:=hp.Jb S;obtain⟨g2,cs,e2,hB,hR⟩:=B;cases e2;obtain⟨X,k2,k3⟩:=oO hR D;have u:=jI hB.range I n;rw[ik,k2] at u;have r:=u k _ (qE bs k (by rw[X];exact a5));have o:=aFo (P:=P) Z r;rw[<-V] at o;exact⟨_,_,_,_,V,o,.one (.lit rfl),L⟩
 ·
  rename_i x1 H n i j;obtain⟨g,vr,ob,K,d⟩:=d;have J:=dD d;clear d;obtain⟨hg,d⟩:=J;obtain⟨hd,S,B⟩:=jQ h K hg
  cases G:bu H vr<;>cases ob<;>cases z:qm P t<;>simp only[G,z] at d<;>try exact d.elim
  rename_i e n' len f sz;obtain rfl:=ig G
  cases a0:bu n n'<;>cases D:qN (f i) j sz<;>simp only[a0,D] at d<;>try exact d.elim
  rename_i m;obtain rfl:=ig a0;obtain⟨a6,d⟩:=d;obtain⟨O,Y,L⟩:=aCu d;obtain⟨g1,n0,c0,rfl,b2,V⟩:=hp.Jc S;obtain⟨N,a2,T⟩:=B;obtain⟨X,k2⟩:=(T i a6).sub D;have u:=bAl (i:=i) (n:=n) (aOo a2) j sz;obtain⟨y,o,x⟩:=aLd (C:=aI A w env) z Y X (by rw[xe,YO];omega) u;rw[<-V] at o;exact⟨_,_,O,y,V,o,x,L⟩
 ·
  rename_i n len f i j;cases z:qm P t with
  |none=>simp only[z] at d;exact d.elim| some sz=>
   simp only[z] at d;split at d;rename_i m bs B b0 a7;obtain rfl:=ig b0;obtain⟨Q,L⟩:=d;have a8:=Js B;cases hp.inv with
   | @pf _ _ _ _ _ _ b W c N hr G S Z=>
    obtain⟨h1,A1,c1,e1,h2,h3,h4⟩:=hr;obtain⟨b',o',eA,r⟩:=h4 a_;cases e1;cases eA;have T:=S i Z;rw[a8] at T;have u:w.rangeAt b W N:=fun jj v Q=>r jj v Q;have E:=jI u (i*n) n;have a3:=T.single;generalize (N.drop (i*n)).take n=q at E a3;cases a3 with
    |bs hl=>have U:=E j _ (qE bs j (by rw[hl];exact Q));have o:=aFo (P:=P) a7 U;rw[Yt] at o;exact⟨_,_,_,_,rfl,o,.one (.lit rfl),L⟩
   cases D:qN (f i) j sz with
   |none=>rw[D] at d;exact d.elim| some m=>
    rw[D] at d;obtain⟨O,Y,L⟩:=aCu d;cases hp.inv with
    |@pf _ _ _ _ _ _ b W c N hr G S Z=>obtain⟨h1,A1,c1,e1,h2,h3,h4⟩:=hr;obtain⟨b',o',eA,r⟩:=h4 a_;cases e1;cases eA;obtain⟨X,k2⟩:=(S i Z).sub D;have u:w.rangeAt b W N:=fun jj v Q=>r jj v Q;have E:=jI (jI u (i*n) n) j sz;obtain⟨y,o,x⟩:=aLd (C:=(aI A w env).cold) z Y X (by rw[xe,YO];omega) E;rw[Yt] at o;exact⟨_,_,O,y,rfl,o,x.le ⟨dC _,fun b _ h=>⟨h,rfl⟩,fun _ _ _ h=>by cases h⟩,L⟩
 ·
  rename_i len f;split at d;rename_i n e hu;split at d;rename_i m hm S;split at d;rename_i G;obtain rfl:=ig G;obtain⟨⟨b1,a1⟩,d⟩:=d;obtain⟨O,Y,L⟩:=aCu d;cases hp.inv with
  | @pa _ _ b W c _ N hr a0 a9 hn=>
   obtain⟨h1,A1,c1,e1,h2,h3,h4⟩:=hr;obtain⟨b',o',eA,r⟩:=h4 a_;cases e1;cases eA
   have a4:N.take m=(rowB m f).map ql:=by
    refine aEl (C:=(aI A w env).cold) (by rw[xe];omega) (fun i Z=>?_) a1;have h5:=a9 i a_;have e5:((N.take m).drop (i*1)).take 1=(N.drop (i*1)).take 1:=by rw[List.drop_take,List.take_take];congr 1;omega
    rw[e5];exact h5
   have u:w.rangeAt b W (N.take m):=fun jj v Q=>by rw[x8] at Q;split at Q;exact r jj v Q;cases Q
   rw[a4] at u;obtain⟨y,o,x⟩:=aLd (C:=aI A w env) (xs:=(rowB m f).map ql) hm Y (by simpa using RL.cons (R.bs (dZ m f)) RL.nil) (by rw[YU,dZ]) u;exact⟨_,_,O,y,rfl,o,x,L⟩
  exact d.elim;exact d.elim;exact d.elim
 exact d.elim
theorem RU(h:gy A s a w env){o:df}{K:Act->je}{Q:Exit->Act->je}{F:mi->PV->Wr->Prop}{t:bi}{x:lL}(g:o.op=.load t x){p:PV}(f:RV (aI A w env) p (a.eval x))(i:(Uc P t p).ok none s F)(j:Fin A s a o K F):o.wp P a w K Q:=by obtain⟨b,m,l,e,_,d,c,k⟩:=aWh h f i;exact aJw g d (j.same h k (.w c))
theorem aNr(b:Nat)(t:bi):∀ (f c old d:ji) (w:ae),old.length=f.length->f_ w b t (c++old++d).toArray->f_ (w.setCells b c.length f) b t (c++f++d).toArray:=by
 intro f
 induction f with
 |nil=>intro c old d w g h;cases old with|nil=>exact h|cons=>simp at g
 | cons v f j=>
  intro c old d w g h;cases old with
  |nil=>simp at g|cons x old=>have i:=h.BH c.length v;have e:(c++x::old++d).toArray.setIfInBounds c.length v=((c++[v])++old++d).toArray:=b_;rw[e] at i;have:=j (c++[v]) old d (w.setCell ⟨b,c.length,none⟩ v) (by simpa using g) i;simp only[gp,zl,Yg,ik,Pi,aAT] at this;simp only[Pi,yz];exact this
def over(xs:ji)(off:Nat)(ys:ji):ji:=xs.take off++ys++xs.drop (off+ys.length)
theorem nC{xs ys:ji}{off:Nat}(h:off+ys.length<=xs.length):(over xs off ys).length=xs.length:=by unfold over;simp;omega
theorem aXo{w:ae}{g:Nat}{t:bi}{cs:kw}(h:f_ w g t cs)(off:Nat)(ys:ji)(hl:off+ys.length<=cs.size):f_ (w.setCells g off ys) g t (over cs.toList off ys).toArray:=by
 have e:cs=(cs.toList.take off++(cs.toList.drop off).take ys.length++cs.toList.drop (off+ys.length)).toArray:=by rw[Pi,<-aAV,ZZ,ZZ]
 have b:=h;rw[e] at b;have:=aNr g t ys (cs.toList.take off) ((cs.toList.drop off).take ys.length) (cs.toList.drop (off+ys.length)) w jr b;rw[xe,uA,aAs a_] at this;exact this
theorem uI{w:ae}{g:Nat}{t:bi}{cs:kw}(h:f_ w g t cs)(off n:Nat)(hl:off+n<=cs.size):w.there g off n:=fun j b=>by rw[h.cell,h.frozen];exact⟨by rw[ZR a_];rfl,rfl⟩
def DK(w:ae)(g:Nat)(t:bi)(b:Nat×Nat)(cs:kw):Prop:=w.heap[g]?=some (.cells cs t b)
theorem DK.BH{w:ae}{g:Nat}{t:bi}{b:Nat×Nat}{cs:kw}(h:DK w g t b cs)(i:Nat)(u:ag):DK (w.setCell ⟨g,i,none⟩ u) g t b (cs.setIfInBounds i u):=by unfold DK at h ⊢;simp[World.setCell,Array.getElem?_modify,h]
theorem aKh(b:Nat)(t:bi)(j:Nat×Nat):∀ (f c old d:ji) (w:ae),old.length=f.length->DK w b t j (c++old++d).toArray->DK (w.setCells b c.length f) b t j (c++f++d).toArray:=by
 intro f
 induction f with
 |nil=>intro c old d w g h;cases old with|nil=>exact h|cons=>simp at g
 | cons v f k=>
  intro c old d w g h;cases old with
  |nil=>simp at g|cons x old=>have i:=h.BH c.length v;have e:(c++x::old++d).toArray.setIfInBounds c.length v=((c++[v])++old++d).toArray:=b_;rw[e] at i;have:=k (c++[v]) old d (w.setCell ⟨b,c.length,none⟩ v) (by simpa using g) i;simp only[gp,zl,Yg,ik,Pi,aAT] at this;simp only[Pi,yz];exact this
theorem bIw{w:ae}{g:Nat}{t:bi}{b:Nat×Nat}{cs:kw}(h:DK w g t b cs)(off:Nat)(ys:ji)(hl:off+ys.length<=cs.size):DK (w.setCells g off ys) g t b (over cs.toList off ys).toArray:=by
 have e:cs=(cs.toList.take off++(cs.toList.drop off).take ys.length++cs.toList.drop (off+ys.length)).toArray:=by rw[Pi,<-aAV,ZZ,ZZ]
 have c:=h;rw[e] at c;have:=aKh g t b ys (cs.toList.take off) ((cs.toList.drop off).take ys.length) (cs.toList.drop (off+ys.length)) w jr c;rw[xe,uA,aAs a_] at this;exact this
theorem aKa{w:ae}{g:Nat}{t:bi}{c:Nat×Nat}{cs:kw}(h:DK w g t c cs)(b:c=(0,0)\/cs.size<=c.1)(off n:Nat)(hl:off+n<=cs.size):w.there g off n:=fun j d=>by unfold DK at h;refine⟨?_,?_⟩;rw[cell_of_row w g _ cs t c h,ZR a_];rfl;rcases b with rfl|b;simp[World.frozen?,h];simp[World.frozen?,h];omega
theorem eH{xs ys:ji}{off:Nat}(h2:off+ys.length<=xs.length)(k:Nat):(over xs off ys)[k]?=if off<=k/\k<off+ys.length then ys[k-off]? else xs[k]?:=by unfold over;by_cases b:k<off;rw[ay a_,Pi,YW jr,x8,au b];by_cases c:k<off+ys.length;rw[au a_,Pi,Ye jr,xe,aAs a_,YW a_];rw[ay a_,Ye jr,gp,xe,aAs a_,YN];congr 1;omega
theorem aTc{xs ys:ji}{p n j:Nat}(h:p+n<=xs.length)(d:j+ys.length<=n):((over xs (p+j) ys).drop p).take n=over ((xs.drop p).take n) j ys:=by apply YZ;intro k;rw[x8,YN,eH a_,eH jr,x8,YN];by_cases b:k<n;rw[au b,au b];by_cases c:j<=k/\k<j+ys.length;rw[au c,au a_];congr 1;omega;rw[ay c,ay a_];rw[ay b,ay b,ay a_]
theorem vG{xs ys:ji}{p n q:Nat}(h2:q+ys.length<=xs.length)(c:q+ys.length<=p\/p+n<=q):((over xs q ys).drop p).take n=(xs.drop p).take n:=by apply YZ;intro k;rw[x8,YN,eH h2,x8,YN];by_cases b:k<n;rw[au b,au b,ay a_];rw[ay b,ay b]
theorem aIl{xs ys:ji}{q k:Nat}(h:q+ys.length<=k)(h2:k<=xs.length):(over xs q ys).take k=over (xs.take k) q ys:=by apply YZ;intro i;rw[x8,eH a_,eH jr,x8];by_cases b:i<k;rw[au b,au b];rw[ay b,ay b,ay a_]
theorem aXc{C:Ctx}:∀ {l:dw} {n:Nat} {r:dw} {d:ji},RL C l d->splice.BZ l n=some r->RL C r (d.drop n)/\n<=d.length:=by
 intro l
 induction l with
 |nil=>
  intro n r d h b;cases h;cases n with
  |zero=>simp[splice.BZ] at b;subst b;exact⟨.nil,dC _⟩|succ n=>simp[splice.BZ] at b
 | cons c l g=>
  intro n r d h b;cases n with
  |zero=>simp[splice.BZ] at b;subst b;exact⟨h,xn _⟩| succ n=>
   cases h with
   |@cons _ _ _ o m k j=>have i:=k.width;unfold splice.BZ at b;by_cases e:c.width<=n+1;rw[au e] at b;obtain⟨f,p⟩:=g j b;refine⟨?_,by rw[gp];omega⟩;rw[aFA,aAE a_,Ha,i];exact f;rw[ay e] at b;cases b
theorem aEg{C:Ctx}:∀ {l:dw} {b:Nat} {m n:dw} {k f:ji},RL C l k->RL C m f->splice l b m=some n->RL C n (over k b f)/\b+f.length<=k.length:=by
 intro l
 induction l with
 | nil=>
  intro b m n k f h j d;cases b with
  | zero=>
   unfold splice at d;cases i:splice.BZ [] (widths m) with
   |none=>rw[i] at d;cases d|some r=>rw[i] at d;cases d;obtain⟨g,o⟩:=aXc h i;rw[<-j.width] at g o;exact⟨by unfold over;simpa using j.append g,a_⟩
  |succ b=>simp[splice] at d
 | cons c l z=>
  intro b m n k f h j d;cases b with
  | zero=>
   unfold splice at d;cases i:splice.BZ (c::l) (widths m) with
   |none=>rw[i] at d;cases d|some r=>rw[i] at d;cases d;obtain⟨g,o⟩:=aXc h i;rw[<-j.width] at g o;exact⟨by unfold over;simpa using j.append g,a_⟩
  | succ b=>
   cases h with
   | @cons _ _ _ t q y B=>
    have u:=y.width;unfold splice at d;by_cases x:c.width<=b+1;rw[au x] at d;cases p:splice l (b+1-c.width) m with
    |none=>rw[p] at d;cases d| some r=>
     rw[p] at d;cases d;obtain⟨g,o⟩:=z B j p;refine⟨?_,by rw[gp];omega⟩;have e:over (t++q) (b+1) f=t++over q (b+1-c.width) f:=by unfold over;rw[aBM,YY a_,u,aFA,aAE a_,Ha,u];simp only[Pi];congr 4;omega
     rw[e];exact .cons y g
    rw[ay x] at d;cases d
theorem bEl(d:dh)(k:Nat)(b:UInt8)(e:ji)(f:k<d.length):over (d.map ql++e) (0+k) [ql b]=(d.set k b).map ql++e:=by rw[ik,List.map_set,<-List.set_append_left _ _ (by simpa using f)];apply YZ;intro i;rw[eH jr,aBp];by_cases c:k=i;subst c;rw[au b_,au rfl,au jr];simp;rw[ay c,ay jr]
theorem Ir{C:Ctx}:∀ {l:dw} {d n k:Nat} {g:dh} {b:UInt8} {j:ji},RL C l j->yh l d=some (n,g)->k<n->RL C (Zz l d (g.set k b)) (over j (d+k) [ql b]):=by
 intro l
 induction l with
 |nil=>intro d n k g b j h i;cases d<;>simp[yh] at i| cons c l x=>
  intro d n k g b j h i y;cases h with
  | @cons _ _ _ q p o u=>
   have r:=o.width;cases d with
   | zero=>
    cases c<;>first|(simp[yh] at i;done)|skip
    obtain⟨rfl,rfl⟩:_=n/\_=g:=by simpa[yh] using i
    cases o with
    |bs h=>rw[bEl _ _ _ _ a_];exact .cons (.bs (by rw[List.length_set];exact h)) u
   | succ d=>
    have f:(if c.width<=d+1 then yh l (d+1-c.width) else none)=some (n,g):=by cases c<;>exact i
    have m:Zz (c::l) (d+1) (g.set k b)=c::Zz l (d+1-c.width) (g.set k b):=by cases c<;>rfl
    by_cases t:c.width<=d+1;rw[au t] at f;rw[m];have e:over (q++p) (d+1+k) [ql b]=q++over p (d+1-c.width+k) [ql b]:=by unfold over;rw[aBM,YY a_,r,aFA,aAE jr,Ha,r];simp only[Pi];congr 3;congr 1;omega;congr 1;simp;omega
    rw[e];exact .cons o (x u f y);rw[ay t] at f;cases f
theorem aQs{v:ag}(h:v.oneCell'=true):v.cells=#[v]:=by cases v<;>first|rfl|cases h
theorem RW.cells'{C:Ctx}{b:PW}{v:ag}(h:RW C b v):RL C b.cells v.cells.toList:=by
 cases h with
 |one h=>rw[aQs (h.ones v b_)];exact .cons h .nil|agg h=>exact h
theorem uT{t:bi}{b o:Nat}{v:ag}(d:qm P t=some v.cells.size)(h1:∀ u∈v.cells.toList,u.oneCell'=true)(c:w.there b o v.cells.size) :
  (Instr.storeAt t (.pointer (some ⟨b,o,none⟩)) v).run P w=.ok () (w.setCells b o v.cells.toList):=by
 have:=run_storeAt_mid (P:=P) w b o t v.cells c d (by rw[Array.all_eq_true'];intro u f;exact h1 u (Array.mem_toList_iff.2 f));have e:Instr.storeAt t (.pointer (some ⟨b,o,none⟩)) v=Instr.storeAt t (.pointer (some ⟨b,o,none⟩)) (.agg v.cells):=rfl;rw[e];exact this
theorem lC{o:df}{K:Act->je}{Q:Exit->Act->je}{t:bi}{x y:lL}(b:o.op=.store t x y){w':ae}(hr:(Instr.storeAt t (a.eval x) (a.eval y)).run P w=.ok () w')(c:K (a.put o.dst bz) w'):o.wp P a w K Q:=by unfold Oper.wp execOp;simp only[b,Sem.run_bind,Sem.run_pure,Result.andThen_ok,hr];exact c
theorem gy.DZ(h:gy A s a w env){x jm:Nat}{g:mi}{d:bi}{l f:dw}{b:Nat}(_:find s.o x=some (g,jm,.box d l))(m:env x=some (jm,iY b)){cs:kw}(p:f_ w b d cs){off:Nat}{ys:ji}(hl:off+ys.length<=cs.size)
  (hr:RL (aI A w env) f (over cs.toList off ys)):∃ c,gy A { s with o:=[(x,none,jm,.box d f)]++s.o } a (w.setCells b off ys) c:=by
 have q:=(eU b ys off w).1;have j:=(eU b ys off w).2;refine⟨_,(h.upd x none jm (iY b) (.box d f) (q.mono fun i _ e=>⟨jm,_,m,by rw[e];rfl⟩) (fun v t e=>by rw[m] at e;cases e;exact .inr ⟨rfl,rfl⟩) (fun u n=>by cases n;exact⟨by rw[j];exact p.lt,.inr ⟨jm,_,m,rfl⟩⟩) (fun k _=>?_)).1⟩;exact⟨b,_,rfl,aXo p off ys hl,by simpa using hr.le k⟩
theorem IP(h:gy A s a w env){o:df}{K:Act->je}{Q:Exit->Act->je}{F:mi->PV->Wr->Prop}{t:bi}{x y:lL}(ho:o.op=.store t x y){p v:PV}(hp:RV (aI A w env) p (a.eval x))(W:RV (aI A w env) v (a.eval y))(c:(bCm P t p v).ok none s F)(hf:Fin A s a o K F):o.wp P a w K Q:=by
 unfold bCm at c
 cases v<;>try exact c.elim
 rename_i pw
 cases a6:qm P t<;>simp only[a6] at c<;>try exact c.elim
 rename_i sz
 cases b7:bu sz (widths pw.cells)<;>simp only[b7] at c<;>try exact c.elim
 cases W with
 | w W=>
  have d:=W.cells';obtain⟨z,hy⟩:∃ v,a.eval y=v:=⟨_,rfl⟩;rw[hy] at W d;have b9:=d.width;have e0:=ig b7;have D:qm P t=some z.cells.size:=by rw[a6,e0,<-b9,uA]
  split at c
  ·
   rename_i x1 u r;obtain⟨g,vr,ob,B,c⟩:=c;have I:=dD c;clear c;obtain⟨hg,c⟩:=I;obtain⟨hd,N,H⟩:=jQ h B hg
   cases T:bu u vr<;>cases ob<;>simp only[T] at c<;>try exact c.elim
   rename_i bt l;obtain rfl:=ig T;cases E:splice l r pw.cells with
   |none=>rw[E] at c;exact c.elim|some l'=>
    rw[E] at c;have hF:F none .none [(x1,none,u,.box bt l')]:=c.2;obtain⟨C,rfl,G⟩:=hp.BJ N;obtain⟨g2,cs,e2,U,hR⟩:=H;cases e2;obtain⟨k1,k2⟩:=aEg hR d E;have a3:r+z.cells.toList.length<=cs.size:=by simpa using k2
    obtain⟨J,a1⟩:=h.DZ B N U a3 k1;refine lC ho (w':=w.setCells C r z.cells.toList) ?_ (hf .none _ bz _ J hF a1 .none);rw[G,hy];exact uT D d.ones (uI U r _ (by simpa using a3))
  ·
   rename_i x1 u r k;obtain⟨g,vr,ob,B,c⟩:=c;have I:=dD c;clear c;obtain⟨hg,c⟩:=I;obtain⟨hd,N,H⟩:=jQ h B hg
   cases T:bu u vr<;>cases ob<;>simp only[T] at c<;>try exact c.elim
   rename_i bt l;obtain rfl:=ig T
   split at c<;>try exact c.elim
   rename_i d5 l2 b1 d4 c2;cases c2;cases E:yh l r with
   |none=>rw[E] at c;exact c.elim| some q=>
    obtain⟨n,bs⟩:=q;rw[E] at c;obtain⟨⟨c3,d1,d0⟩,c⟩:=c;have hF:F none .none [(x1,none,u,.box bt (Zz l r (bs.set k (uB b1.toNat))))]:=c.2;obtain⟨C,rfl,G⟩:=hp.Jb N;obtain⟨g2,cs,e2,U,hR⟩:=H;cases e2;obtain⟨k1,k2,k3⟩:=oO hR E
    have b8:z=.int .u8 b1:=by
     cases W with
     |one W=>cases W;rfl
    have hu:[ql (uB b1.toNat)]=z.cells.toList:=by
     rw[b8]
     show[ed .u8 (((uB b1.toNat).toNat:Nat):Int)]=[.int .u8 b1]
     congr 2;rw[aGK (show b1.toNat<256 by omega)];omega
    have hr:=Ir (b:=uB b1.toNat) hR E c3;rw[hu] at hr;have V:z.cells.toList.length=1:=by rw[<-hu];rfl
    have d2:r+n<=cs.size:=by rw[<-uA];exact k3
    have a2:r+k+1<=cs.size:=a_;obtain⟨J,a1⟩:=h.DZ B N U (off:=r+k) (ys:=z.cells.toList) (by rw[V];exact a2) hr;refine lC ho (w':=w.setCells C (r+k) z.cells.toList) ?_ (hf .none _ bz _ J hF a1 .none);rw[G,hy];exact uT D d.ones (uI U (r+k) _ (by rw[uA] at V;rw[V];exact a2))
  ·
   rename_i x1 u n i j;obtain⟨g,vr,ob,B,c⟩:=c;have I:=dD c;clear c;obtain⟨hg,c⟩:=I;obtain⟨hd,N,H⟩:=jQ h B hg
   cases T:bu u vr<;>cases ob<;>simp only[T] at c<;>try exact c.elim
   rename_i e n' len f;obtain rfl:=ig T
   cases b6:bu n n'<;>cases E:splice (f i) j pw.cells<;>simp only[b6,E] at c<;>try exact c.elim
   rename_i m;obtain rfl:=ig b6;obtain⟨Z,c⟩:=c;have hF:F none .none [(x1,none,u,.arr e n len (fun L=>if L=i then m else f L))]:=c.2;obtain⟨C,n0,c0,rfl,d3,G⟩:=hp.Jc N;obtain⟨vs,S,b5⟩:=H;obtain⟨k1,k2⟩:=aEg (b5 i Z) d E;have c1:=S.1;have a4:((vs.drop (i*n)).take n).length=n:=by have:(i+1)*n<=len*n:=Ym n Z;rw[Yd,ZH] at this;simp;omega
   rw[a4] at k2;rcases S.2 with⟨e0,_⟩|⟨g',cap,cur,t',fr,e0,b2,b4,a9,c7,c6,X⟩;cases e0;cases e0;have c4:(i+1)*n<=len*n:=Ym n Z;rw[Yd,ZH] at c4;have b0:i*n+j+z.cells.toList.length<=len*n:=a_;have c9:len*n<=c0*n:=Ym n a9;have U:DK w C t' fr cur:=b2;have hc:=(eU C z.cells.toList (i*n+j) w).1;have a5:=(eU C z.cells.toList (i*n+j) w).2;have O:i*n+j+z.cells.toList.length<=cur.size:=a_
   have a7:(over cur.toList (i*n+j) z.cells.toList).toArray.size=cur.size:=by rw[Yx,nC (by simpa using O),uA]
   have a8:Di (w.setCells C (i*n+j) z.cells.toList) e n (.slice (some ⟨C,0,none⟩) len c0) len (over vs (i*n+j) z.cells.toList):=by refine⟨by rw[nC a_];exact c1,.inr ⟨C,c0,(over cur.toList (i*n+j) z.cells.toList).toArray,t',fr,rfl,bIw U _ _ O,?_,a9,c7,?_,?_⟩⟩;rw[a7];exact b4;rw[Yx,nC (by simpa using O),uA,c6];rw[<-X];exact aIl b0 (by rw[uA];omega)
   obtain⟨b3,Y⟩:=h.upd x1 none u (.slice (some ⟨C,0,none⟩) len c0) (.arr e n len (fun L=>if L=i then m else f L)) (hc.mono fun b _ e=>⟨u,_,N,by rw[e];rfl⟩) (fun v hd e=>by rw[N] at e;cases e;exact .inr ⟨rfl,rfl⟩) (fun b' c8=>by cases c8;exact⟨by rw[a5];exact lt_of_heap b2,.inr ⟨u,_,N,rfl⟩⟩) (fun Y _=>⟨_,a8,fun L c5=>by
    dsimp only;by_cases a0:L=i;subst a0;rw[au rfl,aTc a_ a_];exact k1.le Y;rw[ay a0,vG a_ ?_];exact (b5 L c5).le Y;rcases Nat.lt_or_gt_of_ne a0 with h1|h1;have:(L+1)*n<=i*n:=Ym n h1;rw[Yd,ZH] at this;omega;have:(i+1)*n<=L*n:=Ym n h1;rw[Yd,ZH] at this
    omega⟩)
   refine lC ho (w':=w.setCells C (i*n+j) z.cells.toList) ?_ (hf .none _ bz _ _ hF b3 .none);rw[G,hy];exact uT D d.ones (aKa U (b4.imp (·.2) (·.2)) _ _ (by rw[uA] at O;omega))
  exact c.elim
end
end Pv
end Go.Proofs.YtndpjopifkbgiaaGreatDoor
