/-
  Several texts in one file: each has its own heading below.
-/
import Derived.Test.YtndpjopifkbgiaaGreatDoorMsA
import Derived.Laws.EntriesVeiled
import Derived.ArgAppend
import Derived.Lib.MakeNoZero
import Derived.Laws.CopyOwn
import Derived.Deep.RegionLaw
import Derived.Deep.Cut
import Derived.Outline
import Derived.WalkKit
import Derived.Laws.BitsAllLaws
import Derived.Laws.IdiomStrings
import Derived.Laws.BytesArg
import Derived.Lib.AppendStr
set_option maxRecDepth 100000
set_option maxHeartbeats 4000000
namespace Go.Proofs.YtndpjopifkbgiaaGreatDoor
open Go.RowKit Tryz
open _root_.Go.Value renaming int->df,slice->Y2
open _root_.Go.IntKind renaming u8->uA,u32->xy,wrap_u64->aBz
open _root_.And renaming intro->az
open _root_.List renaming replicate->DD,length_append->ed,map_append->Y9,take_of_length_le->IR,getElem?_eq_none->GM,length_map->Xt,getElem?_map->Xu,append_assoc->yl,drop_zero->YD,getElem?_replicate->Yx,range->yf,length_set->VM,foldl_cons->aDO,map_take->aDN
open _root_.UInt8 renaming ofNat->ww
open _root_.Array renaming replicate->yz,getElem?_eq_getElem->Yj,size_replicate->aFv,all_toList->Yw
open _root_.Go renaming World->ae,bytesRow->Xz,grownCap->Y0,Value->ag,TypeId->bu,maxLen->uC,wpList->YA,Operand->nz,bodyPost_ret->Y4,Calls->ik,Addr->ry,Oper->gz
open _root_.Nat renaming zero_add->lL,zero_le->x8,le_refl->dE,lt_or_ge->Y6,mul_one->Y_
open _root_.Go.World renaming cell?_setCell_same'->aEL,ownsRow_nil->aDL
section
theorem aSc (h:List UInt32) (a:List UInt8) (v:ag) (w:ae) (hM:af w) (hh:h.length=8) (hb:a.length=64) (hr:Reads w 1 v 64 (a.map gq)) :
    ik prog 201 #[.agg (h.map w32).toArray,v] w fun e c=>e=.returned (.agg ((mM h a).map w32).toArray)/\Ext w c:=by
  have HM:=hide hM;have HR:=hide hr;obtain⟨b0,o0,c0,rfl,d6,d3,e2,_⟩:=hr.sub 0 64 a_ a_;unfold uC at d3;clear hM hr;have s:=hide hh;have HB:=hide hb;clear hh hb;generalize a4:(h.map w32).toArray=D;have HC:=hide a4;clear a4
  go_enter func201,ntmps201
  go_wp2
  go_loopw [15] (fun i wr=>∃ k:Nat,k<=64/\i=.int .i64 k/\Hid (aZw w D a k wr)) (fun i _=>64-(intOf i).toNat)
  case atStart=>refine⟨0,x8 _,rfl,hide ⟨((dh.new w _ D).alloc _).alloc _,⟨_,(dh.new' _ _ _ ay).alloc _,rfl⟩,?_,(((Ext.refl w).alloc _).alloc _).alloc _⟩⟩;have:=dh.new' ((w.alloc (Obj.cells D 263)).alloc (Obj.cells #[df xy 0,df xy 0,df xy 0,df xy 0,df xy 0,df xy 0,df xy 0,df xy 0] 263)) 269 (gV 64 (dP a 0)) (g:=w.heap.size+1+1) ay;rw[show gV 64 (dP a 0)=yz 64 (df .u32 0) from aOf 64] at this ⊢;exact this
  case round=>
    obtain⟨k,P,rfl,A⟩:=hrel;by_cases b:k<64
    ·
      have hL:=iK a k;obtain⟨old,Z⟩:∃ old,wr.cell? ⟨w.heap.size+1+1,k,none⟩=some old:=by rw[(aA A).2.2.1.cell];exact⟨_,Yj (by rw[aCo a_];exact b)⟩
      have d2:=(aA A).2.2.1.frozen k;by_cases a9:k<16
      ·
        have d1:4*k+4<=64:=by omega
        obtain⟨b1,o1,c1,e,_,_,_,C⟩:=((aA HR).ext (aA A).2.2.2).sub (4*k) 4 d1 a_;cases e;have o:=hide C;clear C;have HL:=hide (show ((a.drop (4*k)).take 4).length=4 from by have:=aA HB;simp;omega)
        go_wp2_with fail
        refine (KL ((a.drop (4*k)).take 4) _ _ ?hl).mono ?_
        case hl=>rw[aA HL,aDN,List.map_drop];exact aA o
        rintro e w1 ⟨rfl,rfl⟩;clear o;generalize hx:qX ((a.drop (4*k)).take 4)=x;have m:=hide hx;clear hx
        go_wp2
        go_roundw
        case rel=>exact⟨k+1,by omega,by go_num,hide ((aA A).step (Ext.refl _) b (by rw[if_pos a9,aA m]))⟩
        case measure=>simp[intOf];omega
      ·
        obtain⟨j,rfl⟩:∃ j,k=j+16:=⟨k-16,by omega⟩;have cx:∀ i,i<j+16->wr.cell? ⟨w.heap.size+1+1,i,none⟩=some (.int .u32 (((dP a (j+16)).getD i 0).toNat:Int)):=fun i hi=>by rw[(aA A).2.2.1.cell];exact kE a_
        have HN:=hide (show vV (dP a (j+16))=(dP a (j+16)).getD j 0+((gQ ((dP a (j+16)).getD (j+1) 0) 7 ^^^ gQ ((dP a (j+16)).getD (j+1) 0) 18) ^^^ ((dP a (j+16)).getD (j+1) 0 >>> 3))+(dP a (j+16)).getD (j+9) 0 +
            ((gQ ((dP a (j+16)).getD (j+14) 0) 17 ^^^ gQ ((dP a (j+16)).getD (j+14) 0) 19) ^^^ ((dP a (j+16)).getD (j+14) 0 >>> 10)) from by
          unfold vV
          simp only[hL,show j+16-15=j+1 from by omega,show j+16-2=j+14 from by omega,show j+16-16=j from by omega,show j+16-7=j+9 from by omega])
        have d5:=cx j a_;have c1:=cx (j+1) a_;have c9:=cx (j+9) a_;have b6:=cx (j+14) a_;clear cx;generalize (dP a (j+16)).getD j 0=B at *;generalize (dP a (j+16)).getD (j+1) 0=x1 at *;generalize (dP a (j+16)).getD (j+9) 0=x9 at *;generalize (dP a (j+16)).getD (j+14) 0=d7 at *;have d4:decide ((j:Int)+16<16)=false:=decide_eq_false a_;have G:decide ((j:Int)+16<64)=true:=decide_eq_true a_;have hj:j<48:=by omega
        clear a9 P b
        go_upto_region 7 with fail
        have c7:(((j+16:Nat):Int)-15)=((j+1:Nat):Int):=by omega
        have i2:(((j+16:Nat):Int)-2)=((j+14:Nat):Int):=by omega
        go_quiet (fail)
        go_upto_region 8 with fail
        have e1:IntKind.i64.wrap (((j+16:Nat):Int)-16)=(j:Int):=(IntWalk.i64_in _ a_).trans a_;have i7:IntKind.i64.wrap (((j+16:Nat):Int)-7)=((j+9:Nat):Int):=(IntWalk.i64_in _ a_).trans a_;have e0:IntKind.i64.wrap ((j:Int)+16-7)=(j:Int)+9:=(IntWalk.i64_in _ a_).trans a_;have i9:IntKind.i64.wrap ((j:Int)+9)=(j:Int)+9:=IntWalk.i64_in _ a_;have i0:IntKind.i64.wrap (j:Int)=(j:Int):=IntWalk.i64_in _ a_;have b0:(0:Int)<=(j:Int)+9/\(j:Int)+9<64/\(j:Int)<64/\(j:Int)+16<64/\(0:Int)<=(j:Int)+16:=by omega
        obtain⟨b1,b2,b3,b4,b5⟩:=b0;have t9:((j:Int)+9).toNat=j+9:=by omega
        have d9:((j:Int)+16).toNat=j+16:=by omega
        have r:=hide (az c1 b6);clear c1 b6 c7 i2 d4 G
        go_region_held3 (fun c=>c.cell? ⟨w.heap.size+1+1,j,none⟩=some (.int .u32 (B.toNat:Int))/\c.cell? ⟨w.heap.size+1+1,j+9,none⟩=some (.int .u32 (x9.toNat:Int))/\c.cell? ⟨w.heap.size+1+1,j+16,none⟩=some (held c ⟨w.heap.size+1+1,j+16,none⟩)/\c.frozen? ⟨w.heap.size+1+1,j+16,none⟩=false) (first|exact⟨d5,c9,aHj Z,d2⟩|exact aCF _ ou|exact FH _ a_ a_ ou|assumption)
          (first
            |(go_at_call 204;refine (bGp _ _ _ ?_ ?_).mono ?_;(first|(refine iE _ _ _ ?_ ?_;(focus (simp;done));(focus rfl))|(refine iL _ _ (iE _ _ _ ?_ ?_);(focus (simp;done));(focus rfl)));(first|(refine iE _ _ _ ?_ ?_;(focus (simp;done));(focus rfl))|(refine iL _ _ (iE _ _ _ ?_ ?_);(focus (simp;done));(focus rfl)));rintro e c ⟨rfl,rfl⟩)
            |(go_at_call 204;refine (bAv _ _ _ ?_ ?_).mono ?_;(first|(refine iE _ _ _ ?_ ?_;(focus (simp;done));(focus rfl))|(refine iL _ _ (iE _ _ _ ?_ ?_);(focus (simp;done));(focus rfl)));(first|(refine iE _ _ _ ?_ ?_;(focus (simp;done));(focus rfl))|(refine iL _ _ (iE _ _ _ ?_ ?_);(focus (simp;done));(focus rfl)));rintro e c ⟨rfl,rfl⟩))
        all_goals
          go_wp2
          go_roundw
          case rel=>rw[bGc];exact⟨j+16+1,by omega,by go_num,hide ((aA A).step ((((Ext.refl wr).drewN _).alloc _).alloc _) a_ (by rw[if_neg a_];exact aA HN))⟩
          case measure=>simp[intOf];omega
    ·
      obtain rfl : k=64:=by omega
      clear P b;obtain⟨d,rfl⟩:∃ d:ae,d=wr:=⟨_,rfl⟩;obtain⟨kc,a0⟩:∃ kc,(zk.map w32).toArray=kc:=⟨_,rfl⟩;have b9:=hide a0;clear a0;have H8:=hide (show D.size=8/\D.all (·.oneCell')=true from by rw[<-aA HC];exact⟨by simpa using aA s,zZ h⟩);have H:=hide ((aA HM).ext (aA A).2.2.2).k
      go_wp2_with (first
        |(refine fG (ty:=263) (t:=263) (x:=.tmp 2) rfl rfl jS rfl (aA A).1 (aA H8).1 ?_)
        | (
         refine aS (ty:=263) (t:=263) (x:=.tmp 9) (y:=.tmp 64) rfl rfl jS rfl rfl (dh.new _ _ _) rfl (aA H8).1 (aA H8).2 ?_;intro w2 a8 a6 Y;have o:=hide (az a8 a6);have d0:d.heap.size<w2.heap.size:=by rw[Y];simp
         clear a8 a6 Y)
        | (
         refine qO (ty:=269) (x:=.global 2) rfl rfl bEb rfl (arr:=kc) (cs:=zk.map w32) ?_ rfl (aA b9) ?_
         exact qA (qA (aA H) ((Ext.refl d).alloc _) (fun h=>h)) (aA o).2 (fun e=>by have:=lt_of_cell ((aA H) 0 _ rfl);simp at e this;omega)))
      have u:=hide (show Ext d w2 from ((Ext.refl d).alloc (.cells #[df xy 0,df xy 0,df xy 0,df xy 0,df xy 0,df xy 0,df xy 0,df xy 0] 263)).trans' (aA o).2 (fun _ _ h=>h) (fun i hi e=>by omega))
      have f:=hide (show bOq w D h a d.heap.size 0 w2 from by
        obtain⟨X,⟨o8,O,N⟩,E,V⟩:=aA A;refine⟨X.ext (aA u),⟨o8,O.ext (aA u),N⟩,E.ext (aA u),?_,V.trans (aA u),E.lt⟩;rw[bM,mQ (aA s),aA HC]
        exact (aA o).1)
      clear o u H d0
      go_loopw [66] (fun i wr=>∃ k:Nat,k<=64/\i=.int .i64 k/\Hid (bOq w D h a d.heap.size k wr)) (fun i _=>64-(intOf i).toNat)
      case atStart=>exact⟨0,x8 _,rfl,f⟩
      case round=>
        clear f;obtain⟨k,P,rfl,f⟩:=hrel;by_cases b:k<64
        · have z:∀ i,i<8->wr.cell? ⟨d.heap.size,i,none⟩=some (.int .u32 (((bM a h k).getD i 0).toNat:Int)):=fun i hi=>by
            rw[(aA f).2.2.2.1.cell];exact kE (by rw[kR _ _ (aA s)];exact hi)
          have cw:wr.cell? ⟨w.heap.size+1+1,k,none⟩=some (.int .u32 (((sched a).getD k 0).toNat:Int)):=by rw[(aA f).2.2.1.cell];exact kE (by unfold sched;rw[iK];exact b)
          have a3:∀ W,(Instr.index 269 (.agg kc) (.int .i64 (k:Int))).run prog W=.ok (.int .u32 ((zk.getD k 0).toNat:Int)) W:=fun W=>aAi (inf:=_) underlying269 aj rfl aj b (by rw[<-aA b9];exact UR b) W;have HN:=hide (show bM a h (k+1)=aAg (bM a h k) (zk.getD k 0) ((sched a).getD k 0) from rfl);have L:=z 0 a_;have K:=z 1 a_;have J:=z 2 a_;have v3:=z 3 a_;have v4:=z 4 a_;have v5:=z 5 a_;have v6:=z 6 a_;have v7:=z 7 a_;clear z;unfold aAg at HN;generalize (bM a h k).getD 0 0=B at *;generalize (bM a h k).getD 1 0=x1 at *;generalize (bM a h k).getD 2 0=x2 at *;generalize (bM a h k).getD 3 0=x3 at *;generalize (bM a h k).getD 4 0=I at *;generalize (bM a h k).getD 5 0=x5 at *;generalize (bM a h k).getD 6 0=x6 at *;generalize (bM a h k).getD 7 0=x7 at *;generalize (sched a).getD k 0=xw at *;generalize zk.getD k 0=xk at *;have G:decide ((k:Int)<64)=true:=decide_eq_true a_;have e3:(k:Int)<64:=by omega
          have r:=hide (az L (az K (az J (az v3 (az v4 (az v5 v6))))));clear L K J v3
          go_upto_region 14 with fail
          have t1:(0:Int)<=(k:Int):=by omega
          clear a3 G
          go_cut [12] (fun c5 wx=>∃ T:UInt32,c5=.int .u32 (T.toNat:Int)/\Hid (T=x7+(gQ I 6 ^^^ gQ I 11 ^^^ gQ I 25)+((I &&& x5) ^^^ (~~~I &&& x6))+xk+xw/\Ext wr wx))
          case first=>
            go_region_held3 (fun c=>c.cell? ⟨d.heap.size,7,none⟩=some (.int .u32 (x7.toNat:Int))/\c.cell? ⟨d.heap.size,4,none⟩=some (.int .u32 (I.toNat:Int))/\c.cell? ⟨d.heap.size,5,none⟩=some (.int .u32 (x5.toNat:Int))/\c.cell? ⟨d.heap.size,6,none⟩=some (.int .u32 (x6.toNat:Int))/\c.cell? ⟨w.heap.size+1+1,k,none⟩=some (.int .u32 (xw.toNat:Int))) (first|exact⟨v7,v4,v5,v6,cw⟩|exact aCG _ ou|assumption)
              (first
                |(go_at_call 204;refine (aPi _ _ _ ?_ ?_ ?_).mono ?_;(refine iE _ _ _ ?_ ?_;(focus (simp;done));(focus rfl));(refine iE _ _ _ ?_ ?_;(focus (simp;done));(focus rfl));(refine iE _ _ _ ?_ ?_;(focus (simp;done));(focus rfl));rintro e c ⟨rfl,rfl⟩))
            all_goals (go_wp2_with fail;go_meet)
            all_goals
              rw[Zq];exact⟨_,rfl,hide ⟨rfl,((Ext.refl wr).alloc _).drew⟩⟩
          case rest=>
            obtain⟨T,rfl,S⟩:=hcut;obtain⟨wp,rfl⟩:∃ wp:ae,wp=wc:=⟨_,rfl⟩;clear v7 v4 v5 v6 cw;have HP:=hide (az (aA f) (aA S).2);have L:=Ext.j_ (aA S).2 (aA r).1;have K:=Ext.j_ (aA S).2 (aA r).2.1;have J:=Ext.j_ (aA S).2 (aA r).2.2.1
            go_upto_region 15 with fail
            go_cut [13] (fun c4 wx=>∃ U:UInt32,c4=.int .u32 (U.toNat:Int)/\Hid (U=(gQ B 2 ^^^ gQ B 13 ^^^ gQ B 22)+(((B &&& x1) ^^^ (B &&& x2)) ^^^ (x1 &&& x2))/\Ext wp wx))
            case first=>
              go_region_held3 (fun c=>c.cell? ⟨d.heap.size,0,none⟩=some (.int .u32 (B.toNat:Int))/\c.cell? ⟨d.heap.size,1,none⟩=some (.int .u32 (x1.toNat:Int))/\c.cell? ⟨d.heap.size,2,none⟩=some (.int .u32 (x2.toNat:Int))) (first|exact⟨L,K,J⟩|exact WM _ ou|assumption)
                (first
                  |(go_at_call 204;refine (aPj _ _ _ ?_ ?_ ?_).mono ?_;(refine iE _ _ _ ?_ ?_;(focus (simp;done));(focus rfl));(refine iE _ _ _ ?_ ?_;(focus (simp;done));(focus rfl));(refine iE _ _ _ ?_ ?_;(focus (simp;done));(focus rfl));rintro e c ⟨rfl,rfl⟩))
              all_goals (go_wp2_with fail;go_meet)
              all_goals
                rw[Zp];exact⟨_,rfl,hide ⟨rfl,((Ext.refl wp).alloc _).drew⟩⟩
            case rest=>
              obtain⟨U,rfl,HU⟩:=hcut;have m:=hide ((aA S).2.trans (aA HU).2);clear L K J;have L:=Ext.j_ (aA m) (aA r).1;have K:=Ext.j_ (aA m) (aA r).2.1;have J:=Ext.j_ (aA m) (aA r).2.2.1;have v3:=Ext.j_ (aA m) (aA r).2.2.2.1;have v4:=Ext.j_ (aA m) (aA r).2.2.2.2.1;have v5:=Ext.j_ (aA m) (aA r).2.2.2.2.2.1;have v6:=Ext.j_ (aA m) (aA r).2.2.2.2.2.2;have a1:((T.toNat:Int)+(U.toNat:Int)) % 4294967296=((T+U).toNat:Int):=add32 T U;have a2:((x3.toNat:Int)+(T.toNat:Int)) % 4294967296=((x3+T).toNat:Int):=add32 x3 T;have HA:=hide (az a1 a2);clear a1 a2;have Q:=hide (aCo (n:=8) (show (bM a h k).length<=8 from by rw[kR _ _ (aA s)];omega))
              go_wp2_with (refine aS (ty:=263) (t:=263) (x:=.tmp 9) (y:=.tmp 137) rfl rfl jS rfl rfl ((aA f).2.2.2.1.ext (aA m)) (aA Q) ?_ ?_ ?_;(focus rfl);(focus (rw[<-Yw];rfl));intro w5 p l F;have o:=hide (az p (az l F));clear p l F)
              go_roundw
              case rel=>
                refine⟨k+1,by omega,by go_num,hide ?_⟩;obtain⟨X,⟨o8,O,N⟩,E,V,q7,q8⟩:=aA f;obtain⟨p,l,F⟩:=aA o;have n1:¬w.heap.size=d.heap.size:=by omega
                have n2:¬w.heap.size+1=d.heap.size:=by omega
                have n3:¬w.heap.size+1+1=d.heap.size:=by omega
                refine⟨(X.ext (aA m)).gy l n1,⟨o8,(O.ext (aA m)).gy l n2,N⟩,(E.ext (aA m)).gy l n3,?_,(q7.trans (aA m)).trans' l (fun _ _ h=>h) (fun i hi e=>by omega),q8⟩;rw[(aA HA).1,(aA HA).2] at p;rw[aA HN];dsimp only;rw[<-(aA S).1,<-(aA HU).1];exact p
              case measure=>simp[intOf];omega
        ·
          obtain rfl:k=64:=by omega
          clear P b;obtain⟨wq,rfl⟩:∃ wq:ae,wq=wr:=⟨_,rfl⟩
          go_wp2
          have q:=hide (kR a h (aA s) 64)
          go_loopw [139] (fun i wr=>∃ k:Nat,k<=8/\i=.int .i64 k/\Hid (rC w D h (bM a h 64) d.heap.size k wr)) (fun i _=>8-(intOf i).toNat)
          case atStart=>exact⟨0,x8 _,rfl,hide (rC.start (aA f))⟩
          case round=>
            clear f;obtain⟨k,P,rfl,f⟩:=hrel;by_cases b:k<8
            ·
              have c1:=(aA f).new (aA q) (aA s) b;have c2:=(aA f).old (aA HC) (aA s) b;have f1:=(aA f).2.2.1.frozen k;have b7:=hide (fun c3 (hE:Ext wr c3)=>(aA f).step hE (aA q) (aA s) b);generalize (bM a h 64).getD k 0=xr at *;generalize h.getD k 0=xh at *;have d8:decide ((k:Int)<8)=true:=decide_eq_true a_;have b8:(k:Int)<8:=by omega
              have HA:=hide (add32 xr xh)
              go_upto_region 21 with fail
              go_region
              all_goals
                go_wp2
                go_roundw
                case rel=>rw[aA HA];exact⟨k+1,by omega,by go_num,hide (by first|exact (aA b7 _ (Ext.refl _)).drew|exact aA b7 _ ((Ext.refl _).drew))⟩
                case measure=>simp[intOf];omega
            ·
              obtain rfl:k=8:=by omega
              clear P b;obtain⟨X,⟨o8,O,N⟩,E,V,q7⟩:=aA f;have o:=hide (az O (az N (az E V)));clear X O N E V
              have HZ:=hide (show gV 8 (yA (bM a h 64) h 8)=((mM h a).map w32).toArray from by
                rw[bLn (aA q) (aA s)]
                exact mQ (by simp;rw[aA q,aA s];rfl))
              have Q:=hide (show (gV 8 (yA (bM a h 64) h 8)).size=8/\(gV 8 (yA (bM a h 64) h 8)).all (·.oneCell')=true from by
                rw[aA HZ]
                exact⟨by simp[mM];rw[show (aAf a h).length=8 from aA q,aA s];rfl,zZ _⟩)
              generalize gV 8 (yA (bM a h 64) h 8)=c6 at *
              go_wp2_with (first
                |(refine fG (ty:=263) (t:=263) (x:=.tmp 9) rfl rfl jS rfl (aA o).2.2.1 (aA Q).1 ?_)
                | (
                 refine aS (ty:=263) (t:=263) (x:=.tmp 4) (y:=.tmp 151) rfl rfl jS rfl rfl (aA o).1 (aA o).2.1 (aA Q).1 (aA Q).2 ?_;intro w9 a7 a5 c8;have HV:=hide (az a7 a5)
                 clear a7 a5 c8))
              refine Y4 (v:=.agg c6) (dR jS rfl (aA HV).1 (aA Q).1 rfl) rfl ⟨by rw[aA HZ],?_⟩;exact (aA o).2.2.2.trans' (aA HV).2 (fun _ _ h=>h) (fun i hi e=>by omega)
attribute [local go_sem] Oper.semAt_some
def OZ(l:List UInt8)(k:Nat):List UInt8:=l++[128]++DD k 0
theorem aPt(l:List UInt8)(k:Nat):(OZ l k).length=l.length+1+k:=by simp[OZ];omega
theorem bBv(l:List UInt8)(k:Nat):OZ l (k+1)=OZ l k++[0]:=by unfold OZ;rw[List.replicate_succ',yl,yl,yl]
def lK(P:List UInt8)(l:List Nat)(v:List UInt32):List UInt32:=l.foldl (fun v i=>mM v ((P.drop (64*i)).take 64)) v
theorem nZ(m:Nat)(v:List UInt32)(P:List UInt8):lK P (yf m) v=oM m v P:=by
 induction m generalizing v P with
 |zero=>rfl|succ m a=>
  have b:∀ i,(P.drop 64).drop (64*i)=P.drop (64*(i+1)):=fun i=>by rw[List.drop_drop,show 64+64*i=64*(i+1) from by omega]
  have h:=a (mM v (P.take 64)) (P.drop 64);refine Eq.trans ?_ h;unfold lK;simp only[b];rw[List.range_succ_eq_map,aDO,List.foldl_map,Nat.mul_zero,YD]
theorem jA(P:List UInt8)(l:List Nat)(v:List UInt32)(h:v.length=8):(lK P l v).length=8:=by
 unfold lK
 induction l generalizing v with
 |nil=>exact h|cons i l a=>rw[aDO];refine a _ ?_;unfold mM;rw[List.length_zipWith,h];rw[show (aAf ((P.drop (64*i)).take 64) v).length=8 from kR _ _ h 64];rfl
def OY(l:List UInt32)(k:Nat):List UInt8:=(l.take k).flatMap fun w=>beBytes w.toNat 4
theorem aJi(l:List UInt32)(k:Nat)(h:k<l.length):OY l (k+1)=OY l k++beBytes (l.getD k 0).toNat 4:=by unfold OY;rw[lW l k h,List.flatMap_append,zG,zH h];simp
theorem aCt(l:List UInt32)(k:Nat)(h:k<=l.length):(OY l k).length=4*k:=by
 induction k with
 |zero=>simp[OY]|succ k a=>rw[aJi l k h,ed,a a_,beBytes_length];omega
theorem dh.putObj{W:ae}{g:Nat}{t:bu}{cs:Array ag}(h:dh W g t cs){D:Nat}{o b:Obj}(hd:W.heap[D]?=some o)(c:o.isCells=false):dh (W.putObj D b) g t cs:=by
 have a:g≠D:=fun e=>by unfold dh at h;rw[e,hd] at h;cases h;cases c
 exact (World.putObj_heap_other a).trans h
theorem dK(l:List UInt8):((l.map gq).toArray).all (·.oneCell')=true:=by rw[<-Yw];simp[gq];intro x _;rfl
def sW(n:Nat):Nat:=(119-n % 64) % 64
theorem fE:ve prog 142 32:=⟨⟨_,underlying142,rfl⟩,by kernel_rfl⟩
def O9(l:List UInt8)(w:ae)(v:ag)(n k:Nat)(wr:ae):Prop:=(n=l.length+1+k/\k<=sW l.length)/\wr.ownsRow (w.heap.size+1) 5 1 v n ((OZ l k).map gq)/\Ext w wr/\(∃ o,dh wr w.heap.size 142 o/\o.size=32)
theorem sum_any (l:List UInt8) (v:ag) (w:ae) (hM:af w) (hr:Reads w 1 v l.length (l.map gq)) (hl:l.length<=100000000) :
    ik prog 191 #[v] w fun e w'=>e=.returned (.agg ((sha l).map gq).toArray)/\Ext w w':=by
  have HM:=hide hM;have HR:=hide hr;obtain⟨A,c,rfl⟩:∃ A c,v=.slice A l.length c:=by obtain⟨_,A,c,h,_⟩:=hr;exact⟨A,c,h⟩
  clear hM hr;refine (callsIn_wide (n:=3)).1 (callsIn_of_wp_marks func191 rfl trivial ((wpIn_wide (n:=3)).2 ?_));simp only[ntmps191,List.size_toArray,List.length_cons,List.length_nil,Nat.reduceAdd,Nat.reduceSub,Array.replicate_succ,Array.replicate_zero,List.push_toArray,List.append_toArray,List.nil_append,List.cons_append]
  go_wp2_with fail
  refine (clone_any _ l _ ?hr a_).mono ?_
  case hr=>exact (aA HR).ext ((Ext.refl w).alloc _)
  rintro e w1 ⟨v1,rfl,H,hE⟩;have HO:=hide (az H (az hE (dh.ext (dh.new w 142 _) hE)));clear H hE
  go_wp2_with (at_builtin;refine bQ rfl rfl fV rfl (bP (aA HO).1 ((Ext.refl w1).alloc _)) rfl (Reads.uo _ _ _) (dO.one rfl) a_ (by have:=(aA HO).2.1.size';simp at this ⊢;omega) ?_;intro A' c' w2 H V F;have L:=hide (az H (az V F));clear H V F)
  have f:=hide (show O9 l w (.slice A' (l.length+1) c') (l.length+1) 0 w2 from by
    obtain⟨a,I,Z⟩:=aA HO;obtain⟨Q,h5,_⟩:=aA L;have e0:(OZ l 0).map gq=l.map gq++[gq 128]:=by unfold OZ;simp
    have hz:=I.size';simp only[World.size_alloc] at hz Q;have F:=gB a (dm.refl (fun k=>¬v1.ownBlock=some k) w1) (fun k hk hn=>hn hk);have U:∀ k,v1.ownBlock=some k->w.heap.size+1<=k:=fun k hk=>by have:=a.lt k hk;simp at this;omega
    refine⟨⟨rfl,x8 _⟩,by rw[e0];exact Q,?_,⟨_,Z.gy ((Ext.refl w1).alloc _) (fun h=>h) |>.gy h5 (fun e=>by have:=U _ e;omega),rfl⟩⟩
    exact ((((Ext.refl w).alloc _).trans I).alloc _).trans' h5 (fun _ _ h=>h) (fun i hi e=>by have:=U _ e;omega))
  clear HO L
  go_loopw [3] (fun b wr=>∃ (n k:Nat) (A:Option ry) (c:Nat),b=.slice A n c/\n<=200000000/\Hid (O9 l w (.slice A n c) n k wr)) (fun b _=>match b with|.slice _ n _=>l.length+1+sW l.length-n|_=>0)
  case atStart=>exact⟨_,0,_,_,rfl,by omega,f⟩
  case round=>
    clear f;obtain⟨n,k,A1,c1,rfl,hn,f⟩:=hrel;by_cases B:k<sW l.length
    ·
      have ht:n % 64≠56:=by have a:=(aA f).1;unfold sW at a B;omega
      have b4:(((n:Int) % 64)==56)=false:=by simp;omega
      go_wp2_with (at_builtin;refine bQ rfl rfl fV rfl (bP (aA f).2.1 ((Ext.refl wr).alloc _)) rfl (Reads.uo _ _ _) (dO.one rfl) a_ (by have:=(aA f).2.2.1.size';have:=(aA f).2.2.2.choose_spec.1.lt;simp;omega) ?_;intro A' c' d H V F;have L:=hide (az H V);clear H V F)
      go_roundw
      case rel=>obtain⟨⟨e1,e2⟩,a,I,o8,Z,Q⟩:=aA f;obtain⟨h5,h6⟩:=aA L;have U:∀ k,(Y2 A1 n c1).ownBlock=some k->w.heap.size+1<=k:=fun k hk=>(a.lt k hk).1;refine⟨n+1,k+1,A',c',rfl,by unfold sW at e2;omega,hide ⟨⟨by omega,B⟩,?_,(I.alloc _).trans' h6 (fun _ _ h=>h) (fun i hi e=>by have:=U _ e;omega),o8,(Z.alloc _).gy h6 (fun e=>by have:=U _ e;omega),Q⟩⟩;rw[bBv,Y9];exact h5
      case measure=>have:=(aA f).1;simp;omega
    ·
      obtain ⟨⟨e1,e2⟩,a,I,o8,Z,Q⟩:=aA f;have d0:k=sW l.length:=by omega
      subst d0;have HP:=hide (show OZ l (sW l.length)++beBytes (8*l.length) 8=gX l from rfl);have a4:n % 64=56:=by unfold sW at e1;omega
      have b4:(((n:Int) % 64)==56)=true:=by simp;omega
      have HN:=hide (az e1 a4);clear e1 e2 B a4 a I Z Q
      go_wp2_with fail
      clear b4;refine (aOp _ n ((OZ l (sW l.length)).map gq) (8*l.length) 8 (w.heap.size+1) _ _ _ ?e1 ?e2 (aA f).2.1 ?hb a_ a_ a_).mono ?_
      case e1=>simp
      case e2=>rfl
      case hb=>have:=(aA f).2.2.2.choose_spec.1.lt;omega
      rintro e d ⟨A3,c3,rfl,H,hO⟩;obtain⟨g3,rfl⟩:∃ g3,A3=some ⟨g3,0,none⟩:=by obtain⟨g,cap,u,F,_⟩:=aPx (k:=0) H a_;cases F;exact⟨g,rfl⟩
      have L:=hide (az H hO);clear H hO;obtain⟨a7,G⟩:∃ st,(oL.map w32).toArray=st:=⟨_,rfl⟩;have b0:=hide G;have Y:=hide (show a7.size=8/\a7.all (·.oneCell')=true from by rw[<-G];exact⟨rfl,zZ _⟩);clear G
      have C:=hide (show Ext w d from by
        obtain⟨⟨e1,e2⟩,a,I,o8,Z,Q⟩:=aA f
        exact I.trans' (aA L).2.gy (fun _ _ h=>h) (fun i hi e=>by have:=(a.lt i e).1;omega))
      go_wp2_with (first
        |(refine qO (ty:=263) (x:=.global 0) rfl rfl jS rfl (arr:=a7) (cs:=oL.map w32) ?_ rfl (aA b0) ?_;(focus exact ((aA HM).ext (aA C)).h))
        | (
         refine aS (ty:=263) (t:=263) (x:=.tmp 4) (y:=.tmp 27) rfl rfl jS rfl rfl ((dh.new d _ _).alloc _) rfl (aA Y).1 (aA Y).2 ?_;intro w4 b9 a0 b3;have k5:w4.cell? ⟨d.heap.size+1,0,none⟩=some .nilFunc:=dm.j_ a0 (iE _ _ _ ay rfl) ay;have f5:w4.frozen? ⟨d.heap.size+1,0,none⟩=false:=dm.rq a0 ((dh.new' _ _ _ ay).frozen 0) ay ay;have HV:=hide (az b9 (az a0 b3))
         clear b9 a0 b3)
        |(go_at_call 202;refine (bNo _ _ _ _).mono ?_;rintro e w' ⟨rfl,rfl⟩))
      obtain⟨m,hm⟩:∃ m,n+8=64*m:=⟨(n+8) / 64,by have:=(aA HN).2;omega⟩;have HL:=hide (show (gX l).length=64*m from by rw[<-aA HP,ed,aPt,beBytes_length,<-hm];have:=(aA HN).1;omega);have HS:=hide (show d.heap.size<w4.heap.size/\w4.heap.size=d.heap.size+2 from by have:=(aA HV).2.2;simp at this;omega)
      refine FW (gf:=205) (S:=fun k=>k=d.heap.size) (all:=List.finRange m) (N:=m) (encs:=fun x:Fin m=>#[.slice (some ⟨g3,0+64*x.val,none⟩) 64 64]) rfl (aC func205 aj rfl) ?hS (aWi g3 0 c3 m _ _ _ _ a_ ?hc ?hs ?hn ?h1 ?h2) (fun _=>rfl)
        (fun E W=>dh W d.heap.size 263 ((lK (gX l) (E.map Fin.val) oL).map w32).toArray/\W.cell? ⟨d.heap.size+1,0,none⟩=some (.func (.func 201) #[] #[]))
        (fun E W W' h k=>⟨k.blk h.1,k.cell h.2⟩) ?h0 ?a1 ?assign ?body ?done
      case assign=>
        intro l x W K hK
        gi_wp2
        exact hK
      case hS=>intro k e;have:=(aA HS).1;simp;omega
      case hc=>
        have a:=(aA L).1;obtain⟨g,cap,u,F,_⟩:=aPx (k:=0) a a_;cases F;obtain⟨_,I⟩:=a;rcases I with⟨e,_⟩|⟨g,cap,cur,F,_,_,f6,_⟩;cases e
        cases F;omega
      case hs=>have:=(aA HS).1;omega
      case hn=>have:=(aA HS).1;omega
      case h1=>rw[<-hm];exact iL _ _ (iE _ _ _ ay rfl)
      case h2=>exact iE _ _ _ ay rfl
      case h0=>refine⟨?_,?_⟩;have:=(aA HV).1;rw[<-aA b0] at this;exact ((this.far' a_ _ _).alloc _).alloc _;exact iL _ _ (iL _ _ (aEL _ _ _ (by rw[k5];rfl)))
      case body=>
        rintro lb E x W V ⟨hb,hf⟩ e9;have d1:w.heap.size+1<=g3/\g3<d.heap.size:=(aA L).1.lt g3 rfl;obtain⟨f1,b7⟩:=d1;have d9:Hid (Reads d 1 (.slice (some ⟨g3,0,none⟩) (n+8) c3) (n+8) ((gX l).map gq)):=hide (by have:=Reads.lw (aA L).1;rwa [<-Y9,aA HP] at this)
        have a2:Hid (dm (fun k=>k=d.heap.size) d W):=hide (by
          have a:dm (fun k=>k=d.heap.size) d w4:=(((Ext.refl d).alloc _).alloc _).gy.trans (aA HV).2.1
          exact (((a.setCell (p:=⟨d.heap.size+1,0,none⟩) (.inr ay) _).alloc _).alloc _).trans V)
        have e6:=hide (show ((((gX l).drop (64*x.val)).take 64).length=64) from by have:=x.isLt;simp;rw[aA HL];omega)
        have d7:Hid (Reads W 1 (.slice (some ⟨g3,64*x.val,none⟩) 64 64) 64 ((((gX l).drop (64*x.val)).take 64).map gq)):=hide (by
          have a:=(aA d9).gy (aA a2) (fun k _ hk e=>by cases hk;exact absurd e (Nat.ne_of_lt b7));obtain⟨b,o,c,F,I,Z,_,Q⟩:=a.sub (64*x.val) 64 (by have:=x.isLt;omega) a_;cases F;rw[aDN,List.map_drop];rw[lL] at Q
          exact Q.cap a_ (by unfold uC;omega))
        have e4:Hid (af W):=hide (((aA HM).ext (aA C)).gy (aA a2) (fun e=>by have a:_<w.heap.size:=lt_of_cell ((aA HM).k 0 _ rfl);have:=(aA C).size';simp at a;omega) (fun e=>by have a:_<w.heap.size:=lt_of_cell ((aA HM).h 0 _ rfl);have:=(aA C).size';simp at a;omega));have e5:=hide (aSc (lK (gX l) (E.map Fin.val) oL) (((gX l).drop (64*x.val)).take 64) _ W (aA e4) (jA _ _ _ rfl) (aA e6) (aA d7));have HB:=hide hb;clear hb;generalize G:((lK (gX l) (E.map Fin.val) oL).map w32).toArray=dw at *;have H8:=hide (show dw.size=8 from by rw[<-G];simp;exact jA _ _ _ rfl);have HT:=hide G;clear G;have e3:=hide (show ((mM (lK (gX l) (E.map Fin.val) oL) (((gX l).drop (64*x.val)).take 64)).map w32).toArray.size=8 from by simp;exact jA (gX l) [x.val] (lK (gX l) (E.map Fin.val) oL) (jA _ _ _ rfl))
        gi_wp2_with (first
          |(refine aHv (ty:=263) (t:=263) (x:=.tmp 4) rfl rfl jS rfl (aA HB) (aA H8) ?_)
          |(refine⟨trivial,?_⟩;gi_at_call 201;refine (CallsIn.inRound lb (callsIn_wide.2 (aA e5))).mono ?_;rintro e w9 ⟨rfl,c2⟩;have a9:=hide c2;clear c2)
          |(refine aEh (ty:=263) (t:=263) (x:=.tmp 4) (y:=.tmp 34) rfl rfl jS rfl rfl ((aA HB).ext (aA a9)) (aA H8) (aA e3) (zZ _) ?_;intro f3 c0 a6 e7))
        refine⟨(aA a9).gy.trans a6,?_,dm.j_ a6 (Ext.j_ (aA a9) hf) ay⟩;rw[Y9];unfold lK;rw[List.foldl_append];exact c0
      case done=>
        rintro D W hD V ⟨hb,hf⟩ hd
        have a2:Hid (Ext w W):=hide (by
          have a:dm (fun k=>k=d.heap.size) d w4:=(((Ext.refl d).alloc _).alloc _).gy.trans (aA HV).2.1;have I:=(((a.setCell (p:=⟨d.heap.size+1,0,none⟩) (.inr ay) _).alloc _).alloc _).trans V
          exact (aA C).trans' I (fun _ _ h=>h) (fun i hi e=>by have:=(aA C).size';omega))
        have HO:Hid (∃ o,dh W w.heap.size 142 o/\o.size=32):=hide (by
          obtain⟨_,a,_,o8,Z,Q⟩:=aA f;have B:=Z.lt;have k1:=Z.gy (aA L).2.gy (fun e=>by have:=(a.lt _ e).1;omega);have e8:=k1.lt;have a:dm (fun k=>k=d.heap.size) d w4:=(((Ext.refl d).alloc _).alloc _).gy.trans (aA HV).2.1;have I:=(((a.setCell (p:=⟨d.heap.size+1,0,none⟩) (.inr ay) _).alloc _).alloc _).trans V
          exact⟨o8,k1.gy I a_,Q⟩)
        rw[RU,nZ] at hb;have b6:m=(gX l).length / 64:=by rw[aA HL];omega
        rw[b6] at hb;have O:=hide (show (oM ((gX l).length / 64) oL (gX l)).length=8 from by rw[<-nZ];exact jA _ _ _ rfl);have d5:=hide (show (oM ((gX l).length / 64) oL (gX l)).flatMap (fun w=>beBytes w.toNat 4)=sha l from rfl);generalize oM ((gX l).length / 64) oL (gX l)=z at *;obtain⟨b2,J⟩:∃ s,(z.map w32).toArray=s:=⟨_,rfl⟩;rw[J] at hb;have HB:=hide hb;have d4:=hide J;have H8:=hide (show b2.size=8 from by rw[<-J];simpa using aA O);have c4:w.heap.size<D:=by have:=(aA C).size';have:=(aA HS).1;simp at hD;omega
        have HD:=hide (az c4 hd);clear c4;clear hb hf hd hD J b6 L HV HS C b0 Y f HN k5 f5 V
        go_wp2_with (refine fG (ty:=263) (t:=263) (x:=.tmp 4) rfl rfl jS rfl (aA HB) (aA H8) ?_)
        go_loopw [7,36] (fun b i wr=>∃ (k:Nat) (A:Option ry) (c:Nat),k<=8/\i=.int .i64 k/\b=.slice A (4*k) c/\Hid (wr.ownsRow W.heap.size 5 1 (.slice A (4*k) c) (4*k) ((OY z k).map gq)/\Ext W wr)) (fun _ i _=>8-(intOf i).toNat)
        case atStart=>exact⟨0,none,0,x8 _,rfl,rfl,hide ⟨aDL _ _ _ _,Ext.refl _⟩⟩
        case round=>
          obtain⟨k,A7,c7,hk,rfl,rfl,f⟩:=hrel;by_cases B:k<8
          · have f0:∀ X,(Instr.index 263 (.agg b2) (.int .i64 (k:Int))).run prog X=.ok (.int .u32 ((z.getD k 0).toNat:Int)) X:=fun X=>
              aAi (inf:=_) underlying263 aj rfl aj B (by rw[<-aA d4,<-mQ (aA O)];exact kE (by rw[aA O];exact B)) X
            have d6:=hide (aJi z k (by rw[aA O];exact B));have hx:=(z.getD k 0).toNat_lt;generalize z.getD k 0=xk at *
            go_wp2_with fail
            refine (aOp _ (4*k) ((OY z k).map gq) xk.toNat 4 W.heap.size _ _ _ ?e1 ?e2 (aA f).1 ?hb a_ a_ a_).mono ?_
            case e1=>first|rfl|simp
            case e2=>rfl
            case hb=>exact (aA f).2.size'
            rintro e w5 ⟨A5,c5,rfl,H,hO⟩;have L:=hide (az H hO);clear H hO
            go_wp2
            go_roundw
            case rel=>refine⟨k+1,A5,c5,by omega,by go_num,rfl,hide ⟨?_,?_⟩⟩;rw[aA d6,Y9];exact (aA L).1;exact Onto.D9 (aA f).2 (aA L).2 (fun q hq=>((aA f).1.lt q hq).1)
            case measure=>simp[intOf];omega
          ·
            obtain rfl:k=8:=by omega
            clear hk B;obtain⟨g7,rfl⟩:∃ g7,A7=some ⟨g7,0,none⟩:=by obtain⟨g,cap,u,F,_⟩:=aPx (k:=0) (aA f).1 a_;cases F;exact⟨g,rfl⟩
            have HG:=hide (show OY z 8=sha l from by
              unfold OY;rw[IR (by rw[aA O];omega)]
              exact aA d5)
            have d8:Hid (wr.rangeAt g7 0 ((sha l).map gq)):=hide (by
              have a:=(aA f).1;rw[aA HG] at a;intro j v hj;have:=a.cells (g:=g7) rfl j v hj
              rwa [add_lit] at this)
            have c9:=hide (show (sha l).length=32 from by rw[<-aA HG];exact aCt z 8 (by rw[aA O];omega));obtain⟨o8,b5,a3⟩:=aA HO;have c8:=hide (az (b5.ext (aA f).2) a3);clear b5 a3;obtain⟨a8,T⟩:∃ r,((sha l).map gq).toArray=r:=⟨_,rfl⟩;have b1:=hide (show a8.size=32/\a8.all (·.oneCell')=true from by rw[<-T];exact⟨by simpa using aA c9,dK _⟩);have c6:=hide T;clear T;have f2:=fun X=>aXk (P:=prog) underlying142 (ad:=some ⟨g7,0,none⟩) (len:=4*8) (c:=c7) a_ X
            go_wp2_with (first
              |(refine qO (ty:=142) (x:=.tmp 45) rfl rfl fE rfl (arr:=a8) (cs:=(sha l).map gq) (aA d8) ?_ (aA c6) ?_;(focus (simpa using aA c9)))
              |(refine aS (ty:=142) (t:=142) (x:=.tmp 2) (y:=.tmp 46) rfl rfl fE rfl rfl (aA c8).1 (aA c8).2 (aA b1).1 (aA b1).2 ?_;intro w9 d3 b8 f4))
            have d2:=((aA f).2.blk (aA HD).2);have a5:=dm.blk b8 d2 (fun e=>by have:=(aA HD).1;omega);refine aJm rfl a5 (dR fE rfl (d3.putObj a5 rfl) (aA b1).1 rfl) ⟨by rw[aA c6],?_⟩;refine bBo _ (((aA a2).trans (aA f).2).trans' b8 (fun _ _ h=>h) (fun i hi e=>by omega)) (by have:=(aA HD).1;omega)
end
section
section
variable {P:Program} {w:ae}
theorem Hw{t ty e:bu}{bytes:Nat}(T:yc P t e 1 bytes){b:ry}{n:Nat}{xs:List ag}(hs:Reads w 1 (.slice (some b) n n) n xs)(hn:0<n)
  {u:ag} {m:Nat} {a:List ag} (hr:Reads w 1 u m a) (h1:dO a) (d:(n+m)*bytes<=140737488355328) :
  ∃ r q o,(Builtin.append_ #[t,t] ty #[.slice (some b) n n,u]).run P w=.ok (.slice r (n+m) q) o/\Reads o 1 (.slice r (n+m) q) (n+m) (xs++a)/\Ext w o:=by
 obtain⟨B,⟨i,z,E,W,f,H,x⟩,_,I⟩:=T;obtain⟨S,A,c,rfl,X,Y,g⟩:=hr;have J:n+m<=uC:=by have:(n+m)*1<=(n+m)*bytes:=Nat.mul_le_mul_left _ I;unfold uC;omega
 rcases Nat.eq_zero_or_pos m with K|K;subst K;have C:a=[]:=List.eq_nil_of_length_eq_zero (by simpa using S);subst C
 refine⟨_,n,w,?_,by simpa using hs,Ext.refl _⟩;rcases A with _|ad;simp[Builtin.append_,run_underlying B,sizeOf,typeInfo,E,Builtin.lenOf,Builtin.firstCells,storeCells];obtain⟨_,A2,Z,L,_,_,l⟩:=hs;cases L;obtain⟨O,s,N,_⟩:=l hn;cases N;have:=run_append_room_cells (P:=P) w t ty e i B E O s n n ad 0 c [] ay (fun j u h=>by simp at h) (fun u h=>by cases h) a_ (fun j h=>by simp at h) (fun j h=>by simp at h)
 simpa[World.setCells] using this;obtain⟨y,A2,Z,L,_,_,l⟩:=hs;cases L;obtain⟨O,s,N,F⟩:=l hn;cases N;obtain⟨b1,V,rfl,G⟩:=g K;obtain⟨v',o,p,Q,U⟩:=run_append_arg_grows (P:=P) w t ty e i z 1 bytes B E W f H x a_ ⟨O,s,none⟩ n n xs y (fun j u D=>by rw[Addr.add_lit];exact F j u D) ⟨b1,V,none⟩ m c a S (fun j u D=>by rw[Addr.add_lit];exact G j u D) a_ J d;obtain⟨r,q,rfl⟩:=oN Q;exact⟨r,q,o,p,Reads.lw Q,(Ext.refl w).grown U (fun k h=>by cases h)⟩
theorem bEx{o:gz}{a:Act}{K:Act->ae->Prop}{Q:Exit->Act->ae->Prop}{s x:nz}{t:bu}
  (p:o.op=.call { callee:=.builtin .append,args:=#[s,x],argTypes:=#[t,t] })
  {e:bu} {bytes:Nat} (T:yc P t e 1 bytes) {b:ry} {n:Nat} {xs:List ag} (hs:a.eval s=.slice (some b) n n) (i:Reads w 1 (.slice (some b) n n) n xs) (hn:0<n)
  {u:ag} (l:a.eval x=u) {m:Nat} {c:List ag} (hr:Reads w 1 u m c) (h1:dO c) (d:(n+m)*bytes<=140737488355328)
  (h:∀ (k:Option ry) (j:Nat) f,Reads f 1 (.slice k (n+m) j) (n+m) (xs++c)->Ext w f->K (a.put o.dst (.slice k (n+m) j)) f):o.wp P a w K Q:=by
 obtain⟨k,j,f,g,r,q⟩:=Hw (P:=P) (ty:=o.type) T i hn hr h1 d;unfold Oper.wp execOp;simp only[p,resolve,invoke,builtin,Sem.run_bind,Sem.run_pure,Result.andThen_ok,List.map_toArray,List.map_cons,List.map_nil,hs,l,g];exact h k j f r q
theorem aOq{ops:Array gz}{o:gz}{a:Act}{K:Act->ae->Prop}{Q:Exit->Act->ae->Prop}{E:Prop}(i:o.guard=none){s x:nz}{t:bu}
  (q:o.op=.call { callee:=.builtin .append,args:=#[s,x],argTypes:=#[t,t] })
  {e:bu} {bytes:Nat} (T:yc P t e 1 bytes) {b:ry} {n:Nat} {xs:List ag} (hs:a.eval s=.slice (some b) n n) (f:Reads w 1 (.slice (some b) n n) n xs) (hn:0<n)
  {u:ag} (l:a.eval x=u) {m:Nat} {c:List ag} (hr:Reads w 1 u m c) (h1:dO c) (d:(n+m)*bytes<=140737488355328)
  (h:∀ (k:Option ry) (j:Nat) g,Reads g 1 (.slice k (n+m) j) (n+m) (xs++c)->Ext w g->K (a.put o.dst (.slice k (n+m) j)) g) :
  if Region.wanted o (yielded ops a.tmps)=true then Oper.wp P o a w K Q else E:=by
 have p:Region.wanted o (yielded ops a.tmps)=true:=by simp[Region.wanted,i]
 rw[if_pos p];exact bEx q T hs f hn l hr h1 d h
theorem aEg{ops:Array gz}{rest:List gz}{o:gz}{a:Act}{Q:Exit->Act->ae->Prop}(k:o.guard=none){s x:nz}{t:bu}
  (p:o.op=.call { callee:=.builtin .append,args:=#[s,x],argTypes:=#[t,t] })
  {e:bu} {bytes:Nat} (T:yc P t e 1 bytes) {b:ry} {n:Nat} {xs:List ag} (hs:a.eval s=.slice (some b) n n) (g:Reads w 1 (.slice (some b) n n) n xs) (hn:0<n)
  {u:ag} (l:a.eval x=u) {m:Nat} {c:List ag} (hr:Reads w 1 u m c) (h1:dO c) (d:(n+m)*bytes<=140737488355328)
  (h:∀ (j:Option ry) (i:Nat) f,Reads f 1 (.slice j (n+m) i) (n+m) (xs++c)->Ext w f->YA P ops Q rest (a.put o.dst (.slice j (n+m) i)) f):YA P ops Q (o::rest) a w:=
 wpList_plain k fun _ q=>bEx p T hs g hn l hr h1 d fun j i f y r=>q _ _ (h j i f y r)
end
end
section
theorem JZ(w:ae):ik prog 169 #[.int .u64 1,.int .u64 64] w fun e a=>e=.returned (.tuple #[.int .u64 0,.int .u64 64])/\w=a:=by
 go_enter func169,ntmps169
 go_wp2
 go_ret2
 exact⟨by kernel_rfl,rfl⟩
theorem aIs{a:Type}(cur:List a)(x:a)(p m:Nat)(h:cur.take p=DD p x)(_hl:p+m<=cur.length):(splice cur p (DD m x)).take (p+m)=DD (p+m) x:=by unfold splice;rw[h,<-yl,List.replicate_append_replicate,List.take_left' ay]
def aZx(x:UInt8)(w:ae)(g n p:Nat)(wr:ae):Prop:=∃ cur:List ag,wr.heap[g]?=some (.cells cur.toArray 5 (0,0))/\cur.take p=DD p (gq x)/\cur.length=n/\Below w.heap.size w wr
theorem bFh:(prog.info? 5).map (·.size)=some 1:=by kernel_rfl
theorem bBf(x:UInt8)(v:ag)(w:ae)(hr:Reads w 1 v 1 [gq x]) :
  ik prog 193 #[v,.int .i64 64] w fun e D=>∃ g,e=.returned (.slice (some ⟨g,0,none⟩) 64 64)/\Reads D 1 (.slice (some ⟨g,0,none⟩) 64 64) 64 (DD 64 (gq x))/\Ext w D/\w.heap.size<=g/\(∀ i,D.frozen? ⟨g,i,none⟩=false):=by
 have HR:=hide hr;obtain⟨b,o,c,u,rfl,a5,a4,hb,X,t⟩:=hr.DV (k:=0) a_;cases X;unfold gq at t;have HU:=hide t;clear hr t;obtain⟨d,a,a2,q⟩:=Lib.run_makeNoZero (P:=prog) w #[3] 74 5 underlying74 64 a_;have J:(callFunc 199 #[.int .i64 64]).run prog w=.ok (.value (.slice (some ⟨w.heap.size,0,none⟩) 64 d.size)) ((w.alloc (.cells d 5)).drewN 2):=by have:=run_callFunc_extern (P:=prog) (args:=#[.int .i64 64]) (w:=w) func199 aj aj aj (e:=Extern.BytealgMakeNoZero.makeNoZero #[3] #[74]) aj;rw[this];have h2:(Extern.BytealgMakeNoZero.makeNoZero #[3] #[74] #[.int .i64 64]).run prog w=_:=a;rw[h2];rfl
 clear a;have G:=q (by unfold uC;omega);unfold uC at G;clear q;have i1:(64:Int)<=(d.size:Int):=by omega
 have HC:=hide (show aZx x w w.heap.size d.size 0 ((w.alloc (.cells d 5)).drewN 2) from⟨d.toList,(dh.new w 5 d).drewN 2,rfl,by simp,(((Ext.refl w).alloc _).drewN _).below⟩)
 go_enter func193,ntmps193
 go_upto_region 17 with (go_at_call 169;refine (JZ _).mono ?_;rintro e D ⟨rfl,rfl⟩)
 iterate 7 (first|go_values|go_skip|go_guarded|go_step|go_upon)
 obtain⟨s,f,y,z,l⟩:=aA HC;refine wpList_copy_splice rfl (.tmp 58) (.tmp 59) 74 74 rfl 5 underlying74 bFh (some ⟨w.heap.size,0,none⟩) (some ⟨b,o,none⟩) 64 64 1 c rfl rfl w.heap.size 0 s 5 f [gq x] rfl ?_ ?_ ?_ w.heap.size w l (dE _) ?_;intro _;refine⟨rfl,_,rfl,fun j v r=>?_⟩
 match j,r with
 |0,r=>cases r;exact (l.cell (p:=⟨b,o,none⟩) hb).trans (aA HU)
 simp;omega;intro v E;simp at E;subst E;rfl
 ·intro W V G2;have C:=hide (show aZx x w w.heap.size d.size 1 W from⟨_,aA V,by have:=aIs s (gq x) 0 1 y a_;simpa using this,by rw[length_splice _ _ _ mg];exact z,G2⟩);clear f y z l V G2
  go_wp2
  go_loopw [10] (fun p wr=>∃ k:Nat,0<k/\k<=64/\p=.int .i64 k/\Hid (aZx x w w.heap.size d.size k wr)) (fun p _=>64-(intOf p).toNat)
  case atStart=>exact⟨1,by omega,by omega,rfl,C⟩
  case round=>
   clear C;obtain⟨k,a3,hk,rfl,C⟩:=hrel;by_cases a1:k<64
   ·obtain⟨cur,f,y,z,l⟩:=aA C;have K:64<=cur.length:=by omega
    have N:=hide (az y z);clear y z;have a6:decide ((k:Int)<64)=true:=decide_eq_true a_;have a7:(k:Int)<64:=by omega
    have bn:¬k=64:=by omega
    have b1:(k:Int)<=64:=by omega
    have b0:(0:Int)<=(k:Int):=by omega
    obtain⟨m,H⟩:∃ m,Nat.min k (64-k)=m:=⟨_,rfl⟩;have B:k+m<=64/\m<=k/\0<m:=by have:Nat.min k (64-k)=min k (64-k):=rfl;omega
    have Q:0<(DD m (gq x)).length->some (⟨w.heap.size,k,none⟩:ry)=some ⟨w.heap.size,k,none⟩/\∃ L,some (⟨w.heap.size,0,none⟩:ry)=some L/\∀ (j:Nat) (v:ag),(DD m (gq x))[j]?=some v->wr.drew.cell? (L.add j)=some v:=by
     intro _;refine⟨rfl,_,rfl,fun j v r=>?_⟩;have I:j<m:=by rcases Y6 j m with h|h;exact h;rw[GM (by simpa using h)] at r;cases r
     rw[Yx,if_pos I] at r;cases r;rw[add_lit,lL];have:=dh.cell (show dh wr w.heap.size 5 cur.toArray from f) j;refine Eq.trans this ?_;have e:=(aA N).1;have U:(cur.take k)[j]?=some (gq x):=by rw[e,Yx,if_pos a_]
     rw[List.getElem?_take,if_pos a_] at U;simpa using U
    have S:(DD m (gq x)).length=Nat.min k (64-k):=by rw[H];simp
    have O:∀ v∈DD m (gq x),v.oneCell'=true:=by intro v E;rw[(List.mem_replicate.1 E).2];rfl
    obtain⟨F,T,HN⟩:∃ F,(Builtin.copy_ #[74,74] 3 #[.slice (some ⟨w.heap.size,k,none⟩) (64-k) (64-k),.slice (some ⟨w.heap.size,0,none⟩) k 64]).run prog wr.drew=.ok (.int .i64 (m:Int)) F/\Hid (aZx x w w.heap.size d.size (k+m) F):=by obtain⟨_,L,e,A⟩:=Q mg;cases e;have h:=run_copy_row (P:=prog) wr.drew 74 74 3 5 w.heap.size k (64-k) (64-k) ⟨w.heap.size,0,none⟩ k 64 cur.toArray 5 (DD m (gq x)) underlying74 bFh f S A mg O;simp only[List.length_replicate] at h;refine⟨_,h,hide ⟨splice cur k (DD m (gq x)),?_,aIs cur (gq x) k m (aA N).1 a_,?_,?_⟩⟩;have:=setRow_heap wr.drew w.heap.size _ (splice cur k (DD m (gq x))).toArray 5 _ f;simpa[splice,yl] using this;rw[length_splice _ _ _ mg];exact (aA N).2;exact below_setRow (l.trans (Ext.below ((Ext.refl wr).drew) |>.mono (by have:=l.size;omega))) (dE _) _
    have HM:=hide (az H B);obtain⟨a0,Z,Y⟩:=B;clear H S Q O f l K
    go_upto_region 20 with fail
    go_region
    all_goals
     go_wp2
     go_roundw
     case rel=>exact⟨k+m,by omega,by omega,by go_num,HN⟩
     case measure=>simp[intOf];omega
   ·obtain rfl:k=64:=by omega
    go_wp2
    go_ret;obtain⟨cur,f,y,z,l⟩:=aA C
    refine⟨_,rfl,?_,Ext.of_below l,dE _,(show dh wr w.heap.size 5 cur.toArray from f).frozen⟩;have:=Reads.uy (show dh wr w.heap.size 5 cur.toArray from f) (i:=0) (n:=64) (c:=64) mg a_ (by unfold uC;omega);simpa[y] using this
theorem Reads.set{w:ae}{g n c:Nat}{xs:List ag}(h:Reads w 1 (.slice (some ⟨g,0,none⟩) n c) n xs){k:Nat}(r:k<n)(u:ag):Reads (w.setCell ⟨g,k,none⟩ u) 1 (.slice (some ⟨g,0,none⟩) n c) n (xs.set k u):=by obtain⟨l,A,s,e,q,p,m⟩:=h;cases e;refine⟨by rw[VM];exact l,_,_,rfl,q,p,fun i=>⟨g,0,rfl,fun j v d=>?_⟩⟩;obtain⟨b,o,e,f⟩:=m i;cases e;rw[lL];by_cases a:k=j;subst a;rw[List.getElem?_set_self a_] at d;cases d;have:=f k _ (zH a_);rw[lL] at this;exact aEL _ _ _ (by rw[this];rfl);rw[List.getElem?_set_ne a] at d;have:=f j v d;rw[lL] at this;rw[World.cell?_setCell_other (h:=fun e=>a (by cases e;rfl))];exact this
def BG(n:Nat)(a:List UInt8)(x:UInt8)(k:Nat):List UInt8:=(yf n).map fun i=>if i<k then x ^^^ a.getD i 0 else x
def Q5(n:Nat)(a:List UInt8)(x:UInt8):List UInt8:=(yf n).map fun i=>a.getD i 0 ^^^ x
theorem bIc(n:Nat)(a:List UInt8)(x:UInt8):(BG n a x 0).map gq=DD n (gq x):=by unfold BG;apply List.ext_getElem;simp;intro i c b;simp
theorem tX(n:Nat)(a:List UInt8)(x:UInt8)(k:Nat):(BG n a x k).length=n:=by simp[BG]
theorem aYa(n:Nat)(a:List UInt8)(x:UInt8)(k i:Nat)(h:i<n):(BG n a x k)[i]?=some (if i<k then x ^^^ a.getD i 0 else x):=by unfold BG;rw[Xu,List.getElem?_range h];rfl
theorem bId(n:Nat)(a:List UInt8)(x:UInt8)(k:Nat):BG n a x (k+1)=(BG n a x k).set k (x ^^^ a.getD k 0):=by apply List.ext_getElem?;intro i;by_cases c:i<n;rw[aYa n a x (k+1) i c,List.getElem?_set,aYa n a x k i c,tX];by_cases b:k=i;subst b;rw[if_pos rfl,if_pos c,if_pos a_];rw[if_neg b];by_cases h:i<k;rw[if_pos h,if_pos a_];rw[if_neg h,if_neg a_];rw[GM (by rw[tX];omega),GM (by rw[VM,tX];omega)]
theorem J3(n:Nat)(a:List UInt8)(x:UInt8):BG n a x a.length=Q5 n a x:=by unfold BG Q5;apply List.map_congr_left;intro i _;by_cases h:i<a.length;rw[if_pos h,UInt8.xor_comm];rw[if_neg h,zG,GM a_];simp
theorem Q7(n:Nat)(a:List UInt8)(x:UInt8)(k:Nat)(h:k<n):((BG n a x k).map gq)[k]?=some (gq x):=by rw[Xu,zH (by rw[tX];exact h)];simp[BG]
def wG(a:List UInt8)(x:UInt8)(k:Nat):List UInt8:=BG 64 a x k
def oW(a:List UInt8)(x:UInt8):List UInt8:=Q5 64 a x
theorem aPu(a:List UInt8)(x:UInt8):(wG a x 0).map gq=DD 64 (gq x):=bIc 64 a x
theorem aPv(a:List UInt8)(x:UInt8)(k:Nat):wG a x (k+1)=(wG a x k).set k (x ^^^ a.getD k 0):=bId 64 a x k
theorem aUu(a:List UInt8)(x:UInt8):wG a x a.length=oW a x:=J3 64 a x
theorem bBw(a:List UInt8)(x:UInt8)(k:Nat)(h:k<64):((wG a x k).map gq)[k]?=some (gq x):=Q7 64 a x k h
theorem iD(a:List UInt8)(x:UInt8):(oW a x).length=64:=by unfold oW Q5;rw[Xt,List.length_range]
theorem aLy(x:UInt8)(r:Int)(G:r=(x.toNat:Int))(a:List UInt8)(l:Nat)(v:ag)(w:ae)(j:w.cell? ⟨l,0,none⟩=some v)(hr:Reads w 1 v a.length (a.map gq))(hl:a.length<=64) :
  ik prog 192 #[.int .u8 r,.pointer (some ⟨l,0,none⟩)] w fun e s=>∃ g,e=.returned (.slice (some ⟨g,0,none⟩) 64 64)/\Reads s 1 (.slice (some ⟨g,0,none⟩) 64 64) 64 ((oW a x).map gq)/\Ext w s:=by
 subst G;have O:=hide hr;obtain⟨A,c,rfl⟩:∃ A c,v=.slice A a.length c:=by obtain⟨_,A,c,h,_⟩:=hr;exact⟨A,c,h⟩
 have P:=hide j;have X:=hide (lt_of_cell j);clear hr j
 go_enter func192,ntmps192
 go_wp2_with fail
 refine (bBf x _ _ ?hr).mono ?_
 case hr=>exact Reads.uo _ _ _
 rintro e F ⟨g,rfl,D,q,B,n⟩;have m:F.cell? ⟨l,0,none⟩=some (.slice A a.length c):=Ext.j_ (((Ext.refl w).alloc _).trans q) (aA P);have Q:=hide (show w.heap.size<=g from Nat.le_trans (((Ext.refl w).alloc (.cells #[gq x] 5)).size') B);have S:=hide (((Ext.refl w).alloc (.cells #[gq x] 5)).trans q);have E:=hide (az D n);clear D q B n
 go_wp2
 clear m
 go_loopw [12] (fun i wr=>∃ k:Nat,k<=a.length/\i=.int .i64 k/\Hid (Reads wr 1 (.slice (some ⟨g,0,none⟩) 64 64) 64 ((wG a x k).map gq)/\(∀ i,wr.frozen? ⟨g,i,none⟩=false)/\Ext w wr)) (fun i _=>a.length-(intOf i).toNat)
 case atStart=>exact⟨0,x8 _,rfl,hide ⟨by rw[aPu];exact (aA E).1,(aA E).2,aA S⟩⟩
 case round=>
  obtain⟨k,j,rfl,d⟩:=hrel;by_cases f:k<a.length
  ·obtain⟨b,o,V,u,H,_,_,U,t,p⟩:=((aA O).ext (aA d).2.2).DV f;cases H;rw[Xu,zH f] at t;cases t;have I:wr.cell? ⟨g,k,none⟩=some (gq x):=by obtain⟨_,_,_,e,_,_,h⟩:=(aA d).1;cases e;obtain⟨W,T,K,J⟩:=h a_;cases K;have:=J k _ (bBw a x k a_);rwa [lL] at this
   have n:=(aA d).2.1 k;unfold gq at p I;have N:=hide (show wG a x (k+1)=(wG a x k).set k (x ^^^ a[k]) from by rw[aPv a x k,zG,zH f];rfl);have y:(k:Int)<64:=by omega
   generalize a[k]=z at *;have C:=Bi x z;have L:=hide C;clear C
   go_wp2
   go_roundw
   case rel=>refine⟨k+1,by omega,by go_num,hide ⟨?_,fun i=>by rw[World.frozen?_setCell];exact (aA d).2.1 i,(aA d).2.2.setCell (aA Q) _⟩⟩;rw[aA N,List.map_set];have:=(aA d).1.set (k:=k) a_ (gq (x ^^^ z));rw[aA L];exact this
   case measure=>simp[intOf];omega
  ·obtain rfl:k=a.length:=by omega
   go_wp2
   go_ret;refine⟨g,rfl,?_,(aA d).2.2⟩
   rw[<-aUu];exact (aA d).1
theorem aVo(a m:List UInt8):Ag a m=sha (oW (if a.length > 64 then sha a else a) 92++sha (oW (if a.length > 64 then sha a else a) 54++m)):=rfl
theorem dA(l:List UInt8):(sha l).length=32:=by
 have h:(oM ((gX l).length / 64) oL (gX l)).length=8:=by rw[<-nZ];exact jA _ _ _ rfl
 have a:=aCt (oM ((gX l).length / 64) oL (gX l)) 8 a_;unfold OY at a;rw[IR a_] at a;exact a
theorem jE(a m:List UInt8):(Ag a m).length=32:=by rw[aVo];exact dA _
theorem aMp (d b:List UInt8) (kv bv:ag) (w:ae) (hM:af w) (hk:Reads w 1 kv d.length (d.map gq)) (hb:Reads w 1 bv b.length (b.map gq)) (b6:d.length<=1000000) (b7:b.length<=1000000) :
    ik prog 179 #[kv,bv] w fun e w'=>e=.returned (.agg ((Ag d b).map gq).toArray)/\Ext w w':=by
  have HM:=hide hM;have HB:=hide hb;obtain⟨A,c,rfl⟩:∃ A c,kv=.slice A d.length c:=by obtain⟨_,A,c,h,_⟩:=hk;exact⟨A,c,h⟩
  have b2:=hide hk;clear hM hk hb;rw[aVo];by_cases C:d.length > 64
  ·
    rw [if_pos C];have a9:decide ((64:Int)<(d.length:Int))=true:=decide_eq_true a_;have o:(sha d).length<=64:=by rw[dA];omega
    obtain⟨a,L⟩:∃ a,sha d=a:=⟨_,rfl⟩;rw[L] at o ⊢;have a3:=hide L;clear L C
    go_enter func179,ntmps179
    go_wp2_with fail
    refine (sum_any d _ _ ((aA HM).ext (((Ext.refl w).alloc _).alloc _)) ((aA b2).ext (((Ext.refl w).alloc _).alloc _)) a_).mono ?_;rintro e D ⟨rfl,a7⟩;clear a9;rw[aA a3];have H1:=hide a7;clear a7;have b1:=hide (show ((a.map gq).toArray).size=32 from by rw[<-aA a3];simpa using dA _);have c0:D.cell? ⟨w.heap.size,0,none⟩=some (.slice A d.length c):=Ext.j_ (aA H1) (iL _ _ (iE _ _ _ rfl rfl));have f0:D.frozen? ⟨w.heap.size,0,none⟩=false:=Ext.rq (aA H1) (((dh.new w 74 #[.slice A d.length c]).alloc _).frozen 0) mg;have B:=hide (az c0 (az f0 (lt_of_cell c0)));clear c0 f0
    go_wp2_with (refine aS (ty:=142) (t:=142) (x:=.tmp 5) (y:=.tmp 12) rfl rfl fE rfl rfl (dh.new D _ _) rfl (aA b1) (dK _) ?_;intro w2 a6 a0 a5;have c0:=dm.j_ (a0) (iL _ _ (aA B).1) (Nat.ne_of_lt (aA B).2.2);have f0:=dm.rq a0 (Ext.rq ((Ext.refl D).alloc _) (aA B).2.1 (aA B).2.2) (by have:=(aA B).2.2;simp;omega) (Nat.ne_of_lt (aA B).2.2);have b0:=hide (az a6 (az a0 a5));clear a6 a0 a5)
    obtain⟨g,j⟩:∃ v,v=Y2 (some ⟨D.heap.size,0,none⟩) 32 32:=⟨_,rfl⟩;have b4:w.heap.size+2<=D.heap.size:=by have:=(aA H1).size';simp at this;omega
    have a8:a.length=32:=by rw[<-aA a3];exact dA _
    have a1:dm (fun k=>k=w.heap.size) D (w2.setCell ⟨w.heap.size,0,none⟩ g):=by have h1:dm (fun k=>k=w.heap.size) D w2:=((Ext.refl D).alloc _).trans' (aA b0).2.1 (fun _ _ h=>h.elim) (fun i hi e=>by omega);exact h1.setCell (p:=⟨w.heap.size,0,none⟩) (.inl rfl) _
    have l:Hid ((w2.setCell ⟨w.heap.size,0,none⟩ g).cell? ⟨w.heap.size,0,none⟩=some g/\Reads (w2.setCell ⟨w.heap.size,0,none⟩ g) 1 g a.length (a.map gq)/\Ext w (w2.setCell ⟨w.heap.size,0,none⟩ g) /\
        dh (w2.setCell ⟨w.heap.size,0,none⟩ g) (w.heap.size+1) 142 (yz 32 (.int .u8 0))):=hide (by
      refine⟨aEL _ _ _ (by rw[c0];rfl),?_,?_,?_⟩;have hb:=(aA b0).1.far' (show ¬D.heap.size=w.heap.size by omega) 0 g;have:=Reads.uy hb (i:=0) (n:=32) (c:=32) (by rw[aA b1];omega) a_ (by unfold uC;omega);simp only[YD] at this;rw[IR (by rw[Xt];omega)] at this;rw[a8,j];rw[j] at this;exact this;exact ((((Ext.refl w).alloc _).alloc _).trans (aA H1)).trans' a1 (fun _ _ h=>h) (fun i hi e=>by omega);have h1:dh ((w.alloc (.cells #[.slice A d.length c] 74)).alloc (.cells (yz 32 (.int .u8 0)) 142)) (w.heap.size+1) 142 (yz 32 (.int .u8 0)):=dh.new' _ _ _ ay
      exact (h1.ext (aA H1)).gy a1 a_)
    subst j;clear c0 f0 a1 b4 a8 B;have b5:=hide o
    go_wp2_with fail
    refine (aLy 54 _ rfl a w.heap.size (.slice (some ⟨D.heap.size,0,none⟩) 32 32) _ (aA l).1 (aA l).2.1 o).mono ?_;rintro e w2 ⟨g2,rfl,Q,X⟩;have H2:=hide (az Q X);clear Q X
    go_wp2_with (at_builtin;refine aEg rfl rfl fV rfl (aA H2).1 a_ rfl (((aA HB).ext (aA l).2.2.1).ext (aA H2).2) (dO.u8 b) a_ ?_;intro A3 c3 w3 I W;have H3:=hide (az I W);clear I W)
    refine (sum_any (oW a 54++b) _ _ (((aA HM).ext (aA l).2.2.1).ext ((aA H2).2.trans (aA H3).2)) ?hr (by rw[ed,iD];omega)).mono ?_
    case hr=>have:=(aA H3).1;rw[<-Y9] at this;rw[ed,iD];exact this
    rintro e w4 ⟨rfl,V⟩;obtain⟨E,f⟩:∃ r,((sha (oW a 54++b)).map gq).toArray=r:=⟨_,rfl⟩;have a4:=hide f;have z:=hide (show E.size=32/\E.all (·.oneCell')=true from by rw[<-f];exact⟨by simpa using dA _,dK _⟩);rw[f];have H4:=hide ((aA H2).2.trans ((aA H3).2.trans V));clear f V
    go_wp2_with (refine aS (ty:=142) (t:=142) (x:=.tmp 7) (y:=.tmp 19) rfl rfl fE rfl rfl (dh.new w4 _ _) rfl (aA z).1 (aA z).2 ?_;intro Z O N F;have H5:=hide (az O (az N F));clear O N F)
    have m:=hide ((aA H4).trans (((Ext.refl w4).alloc (.cells #[df uA 0,df uA 0,df uA 0,df uA 0,df uA 0,df uA 0,df uA 0,df uA 0,df uA 0,df uA 0,df uA 0,df uA 0,df uA 0,df uA 0,df uA 0,df uA 0,df uA 0,df uA 0,df uA 0,df uA 0,df uA 0,df uA 0,df uA 0,df uA 0,df uA 0,df uA 0,df uA 0,df uA 0,df uA 0,df uA 0,df uA 0,df uA 0] 142)).trans' (aA H5).2.1 (fun _ _ h=>h) (fun i hi e=>by omega)))
    have a2:=hide (show Reads Z 1 (.slice (some ⟨w4.heap.size,0,none⟩) 32 32) 32 ((sha (oW a 54++b)).map gq) from by
      have:=Reads.uy (aA H5).1 (i:=0) (n:=32) (c:=32) (by rw[(aA z).1];omega) a_ (by unfold uC;omega);rw[<-aA a4] at this;simp only[YD] at this
      rwa [IR (by rw[Xt,dA];omega)] at this)
    go_region_law (first
      |(refine aOq (s:=.tmp 21) (x:=.tmp 22) rfl rfl fV rfl (aA H6).1 a_ rfl ((aA a2).ext (((Ext.refl Z).drew).trans (aA H6).2)) (dO.u8 _) a_ ?_;intro A8 c8 w8 H T;have H8:=hide (az H T);clear H T)
      |(go_simp;go_at_call 192;refine (aLy 92 _ rfl a w.heap.size (.slice (some ⟨D.heap.size,0,none⟩) 32 32) _ (Ext.j_ ((aA m).drew) (aA l).1) ((aA l).2.1.ext ((aA m).drew)) o).mono ?_;rintro e w6 ⟨g6,rfl,P,U⟩;have H6:=hide (az P U);clear P U)
      | (
       rename_i K hK;go_simp;go_at_call 191;refine (sum_any (oW a 92++sha (oW a 54++b)) _ _ ((((aA HM).ext (aA l).2.2.1).ext (aA m)).ext (((Ext.refl Z).drew).trans ((aA H6).2.trans (aA H8).2))) ?_ ?_).mono ?_;(focus (have:=(aA H8).1;rw[<-Y9] at this;rw[ed,iD,dA];exact this));(focus (rw[ed,iD,dA];omega));rintro e w9 ⟨rfl,S⟩;have H9:=hide ((aA m).trans (((Ext.refl Z).drew).trans ((aA H6).2.trans ((aA H8).2.trans S))));clear S;dsimp only;refine hK _ _ ?_;clear hK K;refine wpAny_ready (rs:=[5]) aj ay (AllReady.cons rfl (fun J hJ=>?_) AllReady.nil);refine jD (ty:=142) (t:=142) (x:=.tmp 4) (y:=.tmp 24) rfl rfl fE rfl rfl ((aA l).2.2.2.ext (aA H9)) ?_ ?_ ?_ ?_;rw[aFv];simpa using dA _;exact dK _;intro b3 u q G;have Y:=hide (az u q);clear u q G;refine hJ _ _ ?_
       clear hJ J))
    go_wp2
    refine Y4 (v:=.agg ((sha (oW a 92++sha (oW a 54++b))).map gq).toArray) (dR fE rfl (aA Y).1 (by simpa using dA _) rfl) rfl ⟨rfl,?_⟩;exact ((aA l).2.2.1.trans (aA H9)).trans' (aA Y).2 (fun _ _ h=>h) (fun i hi e=>by omega)
  ·
    rw [if_neg C];have o:d.length<=64:=by omega
    have a9:decide ((64:Int)<(d.length:Int))=false:=decide_eq_false a_;obtain⟨a,L⟩:∃ a,a=d:=⟨_,rfl⟩;subst L;obtain⟨g,j⟩:∃ v,v=Y2 A a.length c:=⟨_,rfl⟩
    have l:Hid ((((w.alloc (.cells #[.slice A a.length c] 74)).alloc (.cells (yz 32 (.int .u8 0)) 142)).cell? ⟨w.heap.size,0,none⟩=some g) /\
        Reads ((w.alloc (.cells #[.slice A a.length c] 74)).alloc (.cells (yz 32 (.int .u8 0)) 142)) 1 g a.length (a.map gq)/\Ext w ((w.alloc (.cells #[.slice A a.length c] 74)).alloc (.cells (yz 32 (.int .u8 0)) 142)) /\
        dh ((w.alloc (.cells #[.slice A a.length c] 74)).alloc (.cells (yz 32 (.int .u8 0)) 142)) (w.heap.size+1) 142 (yz 32 (.int .u8 0))):=hide ⟨by rw[j];exact iL _ _ (iE _ _ _ rfl rfl),by rw[j];exact (aA b2).ext (((Ext.refl w).alloc _).alloc _),((Ext.refl w).alloc _).alloc _,dh.new' _ _ _ ay⟩
    have b8:=hide j;clear j C
    go_enter func179,ntmps179
    have b5:=hide o
    go_wp2_with fail
    refine (aLy 54 _ rfl a w.heap.size g _ (aA l).1 (aA l).2.1 o).mono ?_;rintro e w2 ⟨g2,rfl,Q,X⟩;have H2:=hide (az Q X);clear Q X
    go_wp2_with (at_builtin;refine aEg rfl rfl fV rfl (aA H2).1 a_ rfl (((aA HB).ext (aA l).2.2.1).ext (aA H2).2) (dO.u8 b) a_ ?_;intro A3 c3 w3 I W;have H3:=hide (az I W);clear I W)
    refine (sum_any (oW a 54++b) _ _ (((aA HM).ext (aA l).2.2.1).ext ((aA H2).2.trans (aA H3).2)) ?hr (by rw[ed,iD];omega)).mono ?_
    case hr=>have:=(aA H3).1;rw[<-Y9] at this;rw[ed,iD];exact this
    rintro e w4 ⟨rfl,V⟩;obtain⟨E,f⟩:∃ r,((sha (oW a 54++b)).map gq).toArray=r:=⟨_,rfl⟩;have a4:=hide f;have z:=hide (show E.size=32/\E.all (·.oneCell')=true from by rw[<-f];exact⟨by simpa using dA _,dK _⟩);rw[f];have H4:=hide ((aA H2).2.trans ((aA H3).2.trans V));clear f V
    go_wp2_with (refine aS (ty:=142) (t:=142) (x:=.tmp 7) (y:=.tmp 19) rfl rfl fE rfl rfl (dh.new w4 _ _) rfl (aA z).1 (aA z).2 ?_;intro Z O N F;have H5:=hide (az O (az N F));clear O N F)
    have m:=hide ((aA H4).trans (((Ext.refl w4).alloc (.cells #[df uA 0,df uA 0,df uA 0,df uA 0,df uA 0,df uA 0,df uA 0,df uA 0,df uA 0,df uA 0,df uA 0,df uA 0,df uA 0,df uA 0,df uA 0,df uA 0,df uA 0,df uA 0,df uA 0,df uA 0,df uA 0,df uA 0,df uA 0,df uA 0,df uA 0,df uA 0,df uA 0,df uA 0,df uA 0,df uA 0,df uA 0,df uA 0] 142)).trans' (aA H5).2.1 (fun _ _ h=>h) (fun i hi e=>by omega)))
    have a2:=hide (show Reads Z 1 (.slice (some ⟨w4.heap.size,0,none⟩) 32 32) 32 ((sha (oW a 54++b)).map gq) from by
      have:=Reads.uy (aA H5).1 (i:=0) (n:=32) (c:=32) (by rw[(aA z).1];omega) a_ (by unfold uC;omega);rw[<-aA a4] at this;simp only[YD] at this
      rwa [IR (by rw[Xt,dA];omega)] at this)
    go_region_law (first
      |(refine aOq (s:=.tmp 21) (x:=.tmp 22) rfl rfl fV rfl (aA H6).1 a_ rfl ((aA a2).ext (((Ext.refl Z).drew).trans (aA H6).2)) (dO.u8 _) a_ ?_;intro A8 c8 w8 H T;have H8:=hide (az H T);clear H T)
      |(go_simp;go_at_call 192;refine (aLy 92 _ rfl a w.heap.size g _ (Ext.j_ ((aA m).drew) (aA l).1) ((aA l).2.1.ext ((aA m).drew)) o).mono ?_;rintro e w6 ⟨g6,rfl,P,U⟩;have H6:=hide (az P U);clear P U)
      | (
       rename_i K hK;go_simp;go_at_call 191;refine (sum_any (oW a 92++sha (oW a 54++b)) _ _ ((((aA HM).ext (aA l).2.2.1).ext (aA m)).ext (((Ext.refl Z).drew).trans ((aA H6).2.trans (aA H8).2))) ?_ ?_).mono ?_;(focus (have:=(aA H8).1;rw[<-Y9] at this;rw[ed,iD,dA];exact this));(focus (rw[ed,iD,dA];omega));rintro e w9 ⟨rfl,S⟩;have H9:=hide ((aA m).trans (((Ext.refl Z).drew).trans ((aA H6).2.trans ((aA H8).2.trans S))));clear S;dsimp only;refine hK _ _ ?_;clear hK K;refine wpAny_ready (rs:=[5]) aj ay (AllReady.cons rfl (fun J hJ=>?_) AllReady.nil);refine jD (ty:=142) (t:=142) (x:=.tmp 4) (y:=.tmp 24) rfl rfl fE rfl rfl ((aA l).2.2.2.ext (aA H9)) ?_ ?_ ?_ ?_;rw[aFv];simpa using dA _;exact dK _;intro b3 u q G;have Y:=hide (az u q);clear u q G;refine hJ _ _ ?_
       clear hJ J))
    go_wp2
    refine Y4 (v:=.agg ((sha (oW a 92++sha (oW a 54++b))).map gq).toArray) (dR fE rfl (aA Y).1 (by simpa using dA _) rfl) rfl ⟨rfl,?_⟩;exact ((aA l).2.2.1.trans (aA H9)).trans' (aA Y).2 (fun _ _ h=>h) (fun i hi e=>by omega)
def zig(n:Int):Nat:=if 0<=n then (2*n).toNat else (-2*n-1).toNat
def varint:Nat->Nat->List UInt8
 |0,u=>[ww u]|f+1,u=>if u<128 then[ww u] else ww (128+u % 128)::varint f (u / 128)
def b_(n:Int):List UInt8:=varint 9 (zig n)
def bI(l:List UInt8):List UInt8:=b_ l.length++l
theorem jZ{f u:Nat}(h:u<128):varint f u=[ww u]:=by cases f with
 |zero=>rfl|succ f=>rw[varint,if_pos h]
theorem nR{f u:Nat}(h:¬u<128):varint (f+1) u=ww (128+u % 128)::varint f (u / 128):=by rw[varint,if_neg h]
theorem aKw(f u:Nat):(varint f u).length<=f+1:=by
 induction f generalizing u with
 |zero=>simp[varint]|succ f a=>rw[varint];split;simp;simp;exact a _
theorem aP(n:Int):(b_ n).length<=10:=aKw 9 _
theorem fD(l:List UInt8):(bI l).length<=10+l.length:=by unfold bI;have:=aP l.length;simp;omega
theorem Zd{n:Int}(h1:-9223372036854775808<=n)(h2:n<9223372036854775808):zig n<18446744073709551616:=by unfold zig;split<;>omega
theorem aBA:∀ x,x<256->x ||| 128=128+x % 128:=by decide +kernel
theorem bIg(u:Nat):bits BinOp.or uA ((u:Int) % 256) 128=((ww (128+u % 128)).toNat:Int):=by
 rw[u8_or _ _ (by omega) (by omega) (by omega) (by omega)];have e:((u:Int) % 256).toNat=u % 256:=by omega
 rw[e,show (128:Int).toNat=128 from rfl,aBA _ (by omega)];simp;omega
def Sj(x:Nat):Prop:=x<18446744073709551616
def WI(n:Int)(w:ae)(x f m:Nat)(v:ag)(wr:ae):Prop:=∃ a:List UInt8,b_ n=a++varint f x/\m=a.length/\x<128 ^ (f+1)/\f<=9/\wr.ownsRow w.heap.size 5 1 v m (a.map gq)/\Ext w wr
theorem WI.small{n:Int}{w wr:ae}{x f m:Nat}{v:ag}(h:WI n w x f m v wr):m<=10:=by obtain⟨a,b,rfl,_⟩:=h;have:=aP n;rw[b] at this;simp at this;omega
theorem WI.app{n:Int}{w wr a:ae}{x f m:Nat}{A p:Option ry}{c l:Nat}(h:WI n w x f m (.slice A m c) wr)(q:¬x<128)
  (r:a.ownsRow w.heap.size 5 1 (.slice p (m+1) l) (m+1) ((h.choose).map gq++[gq (ww (128+x % 128))])) {o:Obj} (hc:dm (fun k=>(Y2 A m c).ownBlock=some k) (wr.alloc o) a) :
  ∃ g,WI n w (x / 128) g (m+1) (.slice p (m+1) l) a:=by
 obtain⟨j,u,d,z,t,s⟩:=h.choose_spec;generalize h.choose=b at *;cases f with
 |zero=>simp at d;omega|succ g=>rw[nR q] at j;refine⟨g,b++[ww (128+x % 128)],by rw[j];simp,by simp[u],?_,by omega,by simpa using r,(s.alloc o).trans' hc (fun _ _ h=>h) (fun i y e=>by have:=t.lt i e;omega)⟩;rw[Nat.pow_succ] at d;exact Nat.div_lt_of_lt_mul (by rw[Nat.mul_comm];exact d)
theorem WI.last{n:Int}{w wr a:ae}{x f m:Nat}{A g:Option ry}{c d:Nat}(h:WI n w x f m (.slice A m c) wr)(l:x<128)
  (p:a.ownsRow w.heap.size 5 1 (.slice g (m+1) d) (m+1) ((h.choose).map gq++[gq (ww x)])) {o:Obj} (hc:dm (fun k=>(Y2 A m c).ownBlock=some k) (wr.alloc o) a) :
  m+1=(b_ n).length/\a.ownsRow w.heap.size 5 1 (.slice g (m+1) d) (m+1) ((b_ n).map gq)/\Ext w a:=by
 obtain⟨b,s,y,u,r,q⟩:=h.choose_spec;generalize h.choose=j at *;rw[jZ l] at b;refine⟨by rw[b];simp[s],by rw[b];simpa using p,(q.alloc o).trans' hc (fun _ _ h=>h) (fun i t e=>by have:=r.lt i e;omega)⟩
theorem aBF(a:Nat)(h:a<18446744073709551616):bits BinOp.xor IntKind.u64 IntKind.u64.max (a:Int)=((18446744073709551615-a:Nat):Int):=by
 have e:=u64_xor IntKind.u64.max (a:Int) jc jc a_ a_;rw[e];have c:(UInt64.ofNat a).toNat=a:=by simp;omega
 have b:(-1 ^^^ UInt64.ofNat a).toNat=18446744073709551615-a:=by rw[UInt64.neg_one_xor,UInt64.toNat_not,c];rfl
 rw[UInt64.toNat_xor,c] at b;rw[<-b];rfl
theorem Og(n:Int)(h0:0<=n)(h2:n<9223372036854775808):IntKind.u64.wrap (IntKind.u64.wrap n*2)=(zig n:Int):=by rw[aBz,aBz];unfold zig;rw[if_pos h0];omega
theorem Oh(n:Int)(h0:n<0)(h1:-9223372036854775808<=n):bits BinOp.xor IntKind.u64 IntKind.u64.max (IntKind.u64.wrap (IntKind.u64.wrap n*2))=(zig n:Int):=by
 have e:IntKind.u64.wrap (IntKind.u64.wrap n*2)=((2*n+18446744073709551616).toNat:Int):=by rw[aBz,aBz];omega
 rw[e,aBF _ a_];unfold zig;rw[if_neg a_];omega
theorem WI.start{n:Int}(h1:-9223372036854775808<=n)(h2:n<9223372036854775808)(w:ae):WI n w (zig n) 9 0 (.slice none 0 0) w:=⟨[],rfl,rfl,Nat.lt_of_lt_of_le (Zd h1 h2) jc,by omega,aDL _ _ _ _,Ext.refl _⟩
theorem aZy(n:Int)(w:ae)(h1:-9223372036854775808<=n)(h2:n<9223372036854775808) :
  ik prog 41 #[.int .i64 n] w fun e c=>e=.returned (.int .u64 (zig n:Int))/\w=c:=by
 by_cases b:0<=n
 ·have a:=hide (show ((zig n:Nat):Int)=2*n from by unfold zig;rw[if_pos b];omega)
  go_enter func41,ntmps41
  go_wp2
  go_ret;exact⟨tK (by first|exact (aA a).symm|(rw[aA a];omega)|(rw[aA a];simp[aBz];omega)),rfl⟩
 ·have a:=hide (show ((zig n:Nat):Int) = -2*n-1 from by unfold zig;rw[if_neg b];omega);have f:decide (0<=n)=false:=decide_eq_false b;have d:n<0:=by omega
  clear b
  go_enter func41,ntmps41
  go_wp2
  go_ret;exact⟨tK (by first|exact (aA a).symm|(rw[aA a];omega)|(rw[aA a];simp[aBz];omega)),rfl⟩
theorem aAm(n:Int)(w:ae)(h1:-9223372036854775808<=n)(h2:n<9223372036854775808) :
  ik prog 24 #[.int .i64 n] w fun e l=>∃ A c,e=.returned (.slice A (b_ n).length c)/\l.ownsRow w.heap.size 5 1 (.slice A (b_ n).length c) (b_ n).length ((b_ n).map gq)/\Ext w l:=by
 have a:=hide (WI.start h1 h2 w);have C:=hide (show Sj (zig n) from Zd h1 h2);have r:=hide (fun w=>aZy n w h1 h2);clear h1 h2
 go_enter func24,ntmps24
 go_wp2_with (go_at_call 41;refine (aA r _).mono ?_;rintro e l ⟨rfl,rfl⟩)
 generalize zig n=z at *
 go_loopw [3,4] (fun u b wr=>∃ (x f m:Nat) (A:Option ry) (c:Nat),u=.int .u64 (x:Int)/\Sj x/\b=.slice A m c/\Hid (WI n w x f m (.slice A m c) wr)) (fun u _ _=>(intOf u).toNat)
 case atStart=>exact⟨z,9,0,none,0,rfl,aA C,rfl,a⟩
 case round=>
  clear a C;obtain⟨x,f,m,A,c,rfl,d,rfl,a⟩:=hrel;have H:=(aA a).small;by_cases j:x<128
  ·have t:=hide (show (x:Int)=((ww x).toNat:Int) from by simp;omega)
   go_wp2_with (at_builtin;refine bQ rfl rfl fV rfl (bP (aA a).choose_spec.2.2.2.2.1 ((Ext.refl wr).alloc _)) rfl (Reads.uo _ _ _) (dO.one rfl) a_ (by have:=(aA a).choose_spec.2.2.2.2.2.size';simp;omega) ?_;intro D B E i k q;have s:=hide (az i k);clear i k q)
   go_ret;obtain⟨h,p⟩:=aA s;rw[aA t] at h;obtain⟨o,y,F⟩:=(aA a).last j h p;rw[o] at y ⊢
   exact⟨_,_,rfl,y,F⟩
  ·have G:IntKind.u64.wrap ((x:Int) / 128)=((x / 128:Nat):Int):=by rw[aBz];unfold Sj at d;omega
   have t:=hide (show 128+(x:Int) % 128=((ww (128+x % 128)).toNat:Int) from by simp;omega)
   go_wp2_with (at_builtin;refine bQ rfl rfl fV rfl (bP (aA a).choose_spec.2.2.2.2.1 ((Ext.refl wr).alloc _)) rfl (Reads.uo _ _ _) (dO.one rfl) a_ (by have:=(aA a).choose_spec.2.2.2.2.2.size';simp;omega) ?_;intro D B E i k q;have s:=hide (az i k);clear i k q)
   go_roundw
   case rel=>obtain⟨h,p⟩:=aA s;rw[aA t] at h;obtain⟨g,o⟩:=(aA a).app j h p;exact⟨x / 128,g,m+1,D,B,by go_num,by unfold Sj at d ⊢;omega,rfl,hide o⟩
   case measure=>simp[intOf];omega
theorem xA(n:Int)(w:ae)(h1:-9223372036854775808<=n)(h2:n<9223372036854775808) :
  ik prog 107 #[.int .i64 n] w fun e I=>∃ A c,e=.returned (.slice A (b_ n).length c)/\I.ownsRow w.heap.size 5 1 (.slice A (b_ n).length c) (b_ n).length ((b_ n).map gq)/\Ext w I:=by
 have a:=hide (WI.start h1 h2 w);have C:=hide (show Sj (zig n) from Zd h1 h2);rcases Int.lt_or_le n 0 with B|B
 ·have F:=Oh n B h1;have H:decide (n<0)=true:=decide_eq_true B;clear h1 h2
  go_enter func107,ntmps107
  go_wp2
  go_step3
  go_wp2
  go_step3
  go_wp2
  generalize zig n=z at *;clear F H
  go_loopw [3,4] (fun u b wr=>∃ (x f m:Nat) (A:Option ry) (c:Nat),u=.int .u64 (x:Int)/\Sj x/\b=.slice A m c/\Hid (WI n w x f m (.slice A m c) wr)) (fun u _ _=>(intOf u).toNat)
  case atStart=>exact⟨z,9,0,none,0,rfl,aA C,rfl,a⟩
  case round=>
   clear a C;obtain⟨x,f,m,A,c,rfl,h,rfl,a⟩:=hrel;have J:=(aA a).small;by_cases j:x<128
   ·have r:=hide (show (x:Int)=((ww x).toNat:Int) from by simp;omega)
    go_wp2_with (at_builtin;refine bQ rfl rfl fV rfl (bP (aA a).choose_spec.2.2.2.2.1 ((Ext.refl wr).alloc _)) rfl (Reads.uo _ _ _) (dO.one rfl) a_ (by have:=(aA a).choose_spec.2.2.2.2.2.size';simp;omega) ?_;intro y t D i k p;have q:=hide (az i k);clear i k p)
    try rw[Exit.noGoto_ret]
    go_ret;obtain⟨d,o⟩:=aA q;rw[aA r] at d;obtain⟨l,s,E⟩:=(aA a).last j d o;rw[l] at s ⊢
    exact⟨_,_,rfl,s,E⟩
   ·have G:(x:Int).fdiv (2 ^ min (Int.toNat 7) IntKind.u64.bits)=((x / 128:Nat):Int):=by
     show (x:Int).fdiv 128=_;rw[Int.fdiv_eq_ediv_of_nonneg _ a_];omega
    have r:=hide (bIg x)
    go_wp2_with (at_builtin;refine bQ rfl rfl fV rfl (bP (aA a).choose_spec.2.2.2.2.1 ((Ext.refl wr).alloc _)) rfl (Reads.uo _ _ _) (dO.one rfl) a_ (by have:=(aA a).choose_spec.2.2.2.2.2.size';simp;omega) ?_;intro y t D i k p;have q:=hide (az i k);clear i k p)
    go_roundw
    case rel=>obtain⟨d,o⟩:=aA q;rw[aA r] at d;obtain⟨g,l⟩:=(aA a).app j d o;exact⟨x / 128,g,m+1,y,t,by go_num,by unfold Sj at h ⊢;omega,rfl,hide l⟩
    case measure=>simp[intOf];omega
 ·have F:=Og n B h2;have H:decide (n<0)=false:=decide_eq_false a_;clear h1 h2
  go_enter func107,ntmps107
  go_wp2
  go_step3
  go_wp2
  go_step3
  go_wp2
  generalize zig n=z at *;clear F H
  go_loopw [3,4] (fun u b wr=>∃ (x f m:Nat) (A:Option ry) (c:Nat),u=.int .u64 (x:Int)/\Sj x/\b=.slice A m c/\Hid (WI n w x f m (.slice A m c) wr)) (fun u _ _=>(intOf u).toNat)
  case atStart=>exact⟨z,9,0,none,0,rfl,aA C,rfl,a⟩
  case round=>
   clear a C;obtain⟨x,f,m,A,c,rfl,h,rfl,a⟩:=hrel;have J:=(aA a).small;by_cases j:x<128
   ·have r:=hide (show (x:Int)=((ww x).toNat:Int) from by simp;omega)
    go_wp2_with (at_builtin;refine bQ rfl rfl fV rfl (bP (aA a).choose_spec.2.2.2.2.1 ((Ext.refl wr).alloc _)) rfl (Reads.uo _ _ _) (dO.one rfl) a_ (by have:=(aA a).choose_spec.2.2.2.2.2.size';simp;omega) ?_;intro y t D i k p;have q:=hide (az i k);clear i k p)
    try rw[Exit.noGoto_ret]
    go_ret;obtain⟨d,o⟩:=aA q;rw[aA r] at d;obtain⟨l,s,E⟩:=(aA a).last j d o;rw[l] at s ⊢
    exact⟨_,_,rfl,s,E⟩
   ·have G:(x:Int).fdiv (2 ^ min (Int.toNat 7) IntKind.u64.bits)=((x / 128:Nat):Int):=by
     show (x:Int).fdiv 128=_;rw[Int.fdiv_eq_ediv_of_nonneg _ a_];omega
    have r:=hide (bIg x)
    go_wp2_with (at_builtin;refine bQ rfl rfl fV rfl (bP (aA a).choose_spec.2.2.2.2.1 ((Ext.refl wr).alloc _)) rfl (Reads.uo _ _ _) (dO.one rfl) a_ (by have:=(aA a).choose_spec.2.2.2.2.2.size';simp;omega) ?_;intro y t D i k p;have q:=hide (az i k);clear i k p)
    go_roundw
    case rel=>obtain⟨d,o⟩:=aA q;rw[aA r] at d;obtain⟨g,l⟩:=(aA a).app j d o;exact⟨x / 128,g,m+1,y,t,by go_num,by unfold Sj at h ⊢;omega,rfl,hide l⟩
    case measure=>simp[intOf];omega
def strOf(l:List UInt8):ByteArray:=⟨l.toArray⟩
theorem jK(s:ByteArray):strOf s.data.toList=s:=by cases s;simp[strOf]
theorem bV(l:List UInt8):(strOf l).data.toList=l:=by simp[strOf]
theorem bJ(l:List UInt8):(strOf l).size=l.length:=by simp[strOf,ByteArray.size]
def rO(b:UInt8):ag:=.int .u8 (b.toNat:Int)
section
variable {P:Program}
theorem aBt{src dst e:bu}(hs:P.underlying src=some (.slice e))(g:P.underlying e=some (.int .u8))(hd:P.underlying dst=some .string){w:ae}{v:ag}{n:Nat}{l:List UInt8}(hr:Reads w 1 v n (l.map rO)) :
  (convert src dst v).run P w=.ok (.string (strOf l)) w:=by
 obtain⟨f,A,c,rfl,_,_,h⟩:=hr;rw[Xt,Y_] at f;subst f;cases A with
 | none=>
  have:l=[]:=by
   cases l with
   |nil=>rfl|cons x l=>obtain⟨b,o,e,_⟩:=h ay;cases e
  subst this;exact run_convert_bytes_nil w src e hs g _ c dst hd
 |some a=>refine run_convert_bytes_back w src dst e a c l hs g hd fun j i=>?_;obtain⟨b,o,k,d⟩:=h a_;cases k;rw[add_lit];exact d j _ (by rw[Xu,zH i];rfl)
theorem aPc{src dst e:bu}(hs:P.underlying src=some .string)(hd:P.underlying dst=some (.slice e))(k:P.underlying e=some (.int .u8))(w:ae)(s:ByteArray)(g:s.size<=uC) :
  ∃ c a,(convert src dst (.string s)).run P w=.ok (.slice (some ⟨w.heap.size,0,none⟩) s.size c) a/\Reads a 1 (.slice (some ⟨w.heap.size,0,none⟩) s.size c) s.size (s.data.toList.map rO)/\Ext w a/\(∀ i,i<s.size->a.frozen? ⟨w.heap.size,i,none⟩=false):=by
 refine⟨_,_,run_bytes_of_string w src dst e s hs hd k,⟨by rw[Xt,Array.length_toList,Y_];rfl,_,_,rfl,?_,grownCap_le_maxLen w s.size 0 e g,fun _=>⟨_,_,rfl,fun j u b=>?_⟩⟩,((Ext.refl w).drew).alloc _,fun i m=>?_⟩;simpa using grownCap_ge w s.size 0 e;have d:j<s.data.size:=by rcases Y6 j s.data.size with h|h;exact h;rw[GM (by simpa using h)] at b;cases b
 have l:=World.cell?_alloc_mark w.drew (Xz s (Y0 w s.size 0 e)) e ((Xz s (Y0 w s.size 0 e)).size,(Xz s (Y0 w s.size 0 e)).size+1) j;rw[lL];refine Eq.trans l ?_;rw[bytesRow_at s _ j d,<-b,Xu,Array.getElem?_toList,Yj d];rfl;have f:(Xz s (Y0 w s.size 0 e)).size>=s.size:=by unfold Xz;rw[Array.size_append,Array.size_map];exact Nat.le_add_right _ _
 show (w.drew.alloc (.cells (Xz s (Y0 w s.size 0 e)) e ((Xz s (Y0 w s.size 0 e)).size,(Xz s (Y0 w s.size 0 e)).size+1))).frozen? ⟨w.drew.heap.size,i,none⟩=false;have:(w.drew.alloc (.cells (Xz s (Y0 w s.size 0 e)) e ((Xz s (Y0 w s.size 0 e)).size,(Xz s (Y0 w s.size 0 e)).size+1))).heap[w.drew.heap.size]?=some (.cells (Xz s (Y0 w s.size 0 e)) e ((Xz s (Y0 w s.size 0 e)).size,(Xz s (Y0 w s.size 0 e)).size+1)):=heap_alloc_new _ _;unfold World.frozen?;rw[this];simp;omega
theorem yC{ops:Array gz}{rest:List gz}{o:gz}{a:Act}{w:ae}{Q:Exit->Act->ae->Prop}(f:o.guard=none){src dst e:bu}{x:nz}(j:o.op=.convert src dst x)
  (hs:P.underlying src=some .string) (hd:P.underlying dst=some (.slice e)) (l:P.underlying e=some (.int .u8)) {s:ByteArray} (g:a.eval x=.string s) (k:s.size<=uC)
  (h:∀ c b,Reads b 1 (.slice (some ⟨w.heap.size,0,none⟩) s.size c) s.size (s.data.toList.map rO)->Ext w b->(∀ i,i<s.size->b.frozen? ⟨w.heap.size,i,none⟩=false)->YA P ops Q rest (a.put o.dst (.slice (some ⟨w.heap.size,0,none⟩) s.size c)) b):YA P ops Q (o::rest) a w:=
 wpList_plain f fun _ m=>by obtain⟨c,b,d,q,p,n⟩:=aPc (P:=P) hs hd l w s k;unfold Oper.wp execOp;simp only[j,g,d,Sem.run_bind,Sem.run_pure,Result.andThen_ok];exact m _ _ (h c b q p n)
theorem qN{ops:Array gz}{rest:List gz}{o:gz}{a:Act}{w:ae}{Q:Exit->Act->ae->Prop}(c:o.guard=none){src dst e:bu}{x:nz}(f:o.op=.convert src dst x)
  (hs:P.underlying src=some (.slice e)) (g:P.underlying e=some (.int .u8)) (hd:P.underlying dst=some .string) {v:ag} (d:a.eval x=v) {n:Nat} {l:List UInt8} (hr:Reads w 1 v n (l.map rO))
  (h:YA P ops Q rest (a.put o.dst (.string (strOf l))) w):YA P ops Q (o::rest) a w:=
 wpList_plain c fun _ i=>by have b:=aBt (P:=P) hs g hd hr;unfold Oper.wp execOp;simp only[f,d,b,Sem.run_bind,Sem.run_pure,Result.andThen_ok];exact i _ _ h
theorem aSx{ops:Array gz}{rest:List gz}{o:gz}{a:Act}{w:ae}{Q:Exit->Act->ae->Prop}(r:o.guard=none){p x:nz}{t u:bu}
  (J:o.op=.call { callee:=.builtin .append,args:=#[p,x],argTypes:=#[t,u] })
  {B:Nat} {e:bu} (T:yc P t e 1 1) (A:(P.info? e).map (·.zero)=some (some (.int .u8 0))) (H:P.underlying u=some .string) {v:ag} {n:Nat} {xs:List ag} (hs:a.eval p=v) (g:w.ownsRow B e 1 v n xs) {s:ByteArray} (G:a.eval x=.string s)
  (b:n+s.size<=140737488355328) (d:B<=w.heap.size)
  (h:∀ (m:Option ry) (l:Nat) f,f.ownsRow B e 1 (.slice m (n+s.size) l) (n+s.size) (xs++s.data.toList.map rO)->dm (fun k=>v.ownBlock=some k) w f->YA P ops Q rest (a.put o.dst (.slice m (n+s.size) l)) f):YA P ops Q (o::rest) a w:=by
 obtain⟨I,⟨i,z,C,F,c,y,E⟩,_,_⟩:=T;have q:i.zero=some (.int .u8 0):=by rw[C] at A;simpa using A
 refine Lib.wpList_append_own_string (P:=P) (w:=w) r p x t u J B e i I H C q c y v n xs hs g s G (by unfold uC;omega) b d fun N f D j _=>?_;obtain⟨m,l,rfl⟩:=oN D;exact h m l f D ⟨j.os,j.tape,j.output,j.size,fun k L K=>j.block k L (fun e=>K e.symm)⟩
end
end
end Go.Proofs.YtndpjopifkbgiaaGreatDoor
