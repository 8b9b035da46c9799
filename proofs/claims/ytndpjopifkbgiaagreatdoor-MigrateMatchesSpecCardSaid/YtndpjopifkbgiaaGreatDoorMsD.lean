/-
  Several texts in one file: each has its own heading below.
-/
import Derived.Test.YtndpjopifkbgiaaGreatDoorMsC
import Derived.Test.YtndpjopifkbgiaaGreatDoorMsA
import Derived.StillTailTactics
import Derived.BigRegion
import Derived.Test.YtndpjopifkbgiaaGreatDoorMsB
import Derived.Deep.DeepCutAuto
set_option maxRecDepth 100000
set_option maxHeartbeats 4000000
namespace Go.Proofs.YtndpjopifkbgiaaGreatDoor
open Go.RowKit Tryz
open _root_.And renaming intro->az
open _root_.Go.IntKind renaming u32->xy,u8->uA
open _root_.Nat renaming le_refl->dE,le_trans->mr,zero_le->x8,lt_succ_self->aBy,zero_add->lL,succ_mul->aCR
open _root_.Go renaming World->ae,bodyPost_ret->Y4,Value->ag,Calls->ik,TypeId->bu,Addr->ry
open _root_.Array renaming replicate->yz
open _root_.List renaming map_append->Y9,append_assoc->yl,range->yf,take_of_length_le->IR,getElem?_toArray->YY,length_take->uk,getElem?_append_right->YC,append_nil->Pi,length_map->Xt,take_zero->aDE,getElem?_replicate->Yx,getElem?_eq_none->GM,getElem?_take->xe,getElem?_map->Xu,take_length->aAe,getElem_mem->YV,range_succ->aDR,nil_append->WF,map_take->aDN
open _root_.UInt32 renaming toNat_add->aDK
open _root_.Go.Value renaming ownBlock->Xr
open _root_.UInt8 renaming ofNat->ww
def aFO(w:ae)(a:List UInt8)(k:Nat)(wr:ae):Prop:=dh wr w.heap.size 203 (gV 64 (dP a k))/\Ext w wr
theorem be4(f:List UInt8)(k:Nat)(h:4*k+3<f.length):qX ((f.drop (4*k)).take 4)=((((f.getD (4*k) 0).toUInt32 <<< 24) ||| ((f.getD (4*k+1) 0).toUInt32 <<< 16)) ||| ((f.getD (4*k+2) 0).toUInt32 <<< 8)) ||| (f.getD (4*k+3) 0).toUInt32:=by
 have e:(f.drop (4*k)).take 4=[f.getD (4*k) 0,f.getD (4*k+1) 0,f.getD (4*k+2) 0,f.getD (4*k+3) 0]:=by
  apply List.ext_getElem?;intro i;rw[xe,List.getElem?_drop]
  match i with
  |0=>simp;rw[zH a_];rfl|1=>simp;rw[zH a_];rfl|2=>simp;rw[zH a_];rfl|3=>simp;rw[zH a_];rfl|i+4=>simp;omega
 rw[e];generalize f.getD (4*k) 0=a;generalize f.getD (4*k+1) 0=b;generalize f.getD (4*k+2) 0=c;generalize f.getD (4*k+3) 0=d;unfold qX;simp only[List.foldl_cons,List.foldl_nil];apply UInt32.eq_of_toBitVec_eq;simp;have j:∀ x:BitVec 32,(x <<< 8) <<< 8=x <<< 16:=fun x=>by rw[<-BitVec.shiftLeft_add]
 have g:∀ x:BitVec 32,(x <<< 16) <<< 8=x <<< 24:=fun x=>by rw[<-BitVec.shiftLeft_add]
 simp only[BitVec.shiftLeft_or_distrib,j,g]
theorem aKB(y:UInt8):(y.toNat:Int) % 4294967296=(y.toNat:Int):=by have:=y.toNat_lt;omega
theorem bAo(a:List UInt8)(j:Nat):dP a (j+16+1)=dP a (j+16)++[(dP a (j+16)).getD j 0+((gQ ((dP a (j+16)).getD (j+1) 0) 7 ^^^ gQ ((dP a (j+16)).getD (j+1) 0) 18) ^^^ ((dP a (j+16)).getD (j+1) 0 >>> 3))+(dP a (j+16)).getD (j+9) 0 +
  ((gQ ((dP a (j+16)).getD (j+14) 0) 17 ^^^ gQ ((dP a (j+16)).getD (j+14) 0) 19) ^^^ ((dP a (j+16)).getD (j+14) 0 >>> 10))]:=by
 rw[dP,if_neg a_];unfold vV;simp only[iK,show j+16-15=j+1 from by omega,show j+16-2=j+14 from by omega,show j+16-16=j from by omega,show j+16-7=j+9 from by omega]
theorem aAM(x:UInt32)(w:ae):ik prog 164 #[.int .u32 (x.toNat:Int),.int .i64 6] w fun e a=>e=.returned (.int .u32 ((gQ x 6).toNat:Int))/\∃ k,a=w.drewN k:=rH x 6 _ rfl w a_ a_
theorem Ut(x:UInt32)(w:ae):ik prog 164 #[.int .u32 (x.toNat:Int),.int .i64 11] w fun e a=>e=.returned (.int .u32 ((gQ x 11).toNat:Int))/\∃ k,a=w.drewN k:=rH x 11 _ rfl w a_ a_
theorem Ul(x:UInt32)(w:ae):ik prog 164 #[.int .u32 (x.toNat:Int),.int .i64 25] w fun e a=>e=.returned (.int .u32 ((gQ x 25).toNat:Int))/\∃ k,a=w.drewN k:=rH x 25 _ rfl w a_ a_
theorem aAN(x:UInt32)(w:ae):ik prog 164 #[.int .u32 (x.toNat:Int),.int .i64 2] w fun e a=>e=.returned (.int .u32 ((gQ x 2).toNat:Int))/\∃ k,a=w.drewN k:=rH x 2 _ rfl w a_ a_
theorem Us(x:UInt32)(w:ae):ik prog 164 #[.int .u32 (x.toNat:Int),.int .i64 13] w fun e a=>e=.returned (.int .u32 ((gQ x 13).toNat:Int))/\∃ k,a=w.drewN k:=rH x 13 _ rfl w a_ a_
theorem Um(x:UInt32)(w:ae):ik prog 164 #[.int .u32 (x.toNat:Int),.int .i64 22] w fun e a=>e=.returned (.int .u32 ((gQ x 22).toNat:Int))/\∃ k,a=w.drewN k:=rH x 22 _ rfl w a_ a_
theorem aAL(x:UInt32)(w:ae):ik prog 164 #[.int .u32 (x.toNat:Int),.int .i64 7] w fun e a=>e=.returned (.int .u32 ((gQ x 7).toNat:Int))/\∃ k,a=w.drewN k:=rH x 7 _ rfl w a_ a_
theorem Uo(x:UInt32)(w:ae):ik prog 164 #[.int .u32 (x.toNat:Int),.int .i64 18] w fun e a=>e=.returned (.int .u32 ((gQ x 18).toNat:Int))/\∃ k,a=w.drewN k:=rH x 18 _ rfl w a_ a_
theorem Ur(x:UInt32)(w:ae):ik prog 164 #[.int .u32 (x.toNat:Int),.int .i64 17] w fun e a=>e=.returned (.int .u32 ((gQ x 17).toNat:Int))/\∃ k,a=w.drewN k:=rH x 17 _ rfl w a_ a_
theorem Un(x:UInt32)(w:ae):ik prog 164 #[.int .u32 (x.toNat:Int),.int .i64 19] w fun e a=>e=.returned (.int .u32 ((gQ x 19).toNat:Int))/\∃ k,a=w.drewN k:=rH x 19 _ rfl w a_ a_
theorem bFz(x r s:UInt32)(n:Nat)(d:Int)(hd:d=2 ^ n)(hn:n<32):bits BinOp.xor xy (bits BinOp.xor xy (r.toNat:Int) (s.toNat:Int)) ((x.toNat:Int) / d)=(((r ^^^ s) ^^^ (x >>> UInt32.ofNat n)).toNat:Int):=by rw[hd,bGa x n hn,xW,xW]
theorem add4(a b c d:UInt32):((a.toNat:Int)+(b.toNat:Int)+(c.toNat:Int)+(d.toNat:Int)) % 4294967296=((a+b+c+d).toNat:Int):=by rw[aDK,aDK,aDK];omega
theorem Ui(d a f e c b i h g:UInt32):((d.toNat:Int)+bits BinOp.xor xy (bits BinOp.xor xy (i.toNat:Int) (h.toNat:Int)) (g.toNat:Int)+bits BinOp.xor xy (bits BinOp.and xy (a.toNat:Int) (f.toNat:Int)) (bits BinOp.and xy (bits BinOp.xor xy 4294967295 (a.toNat:Int)) (e.toNat:Int))+(c.toNat:Int)+(b.toNat:Int)) % 4294967296 =
  ((d+(i ^^^ h ^^^ g)+((a &&& f) ^^^ (~~~a &&& e))+c+b).toNat:Int):=by
 rw[show (4294967295:Int)=IntKind.u32.max from rfl,Tu,OU,OU,xW,xW,xW];simp only[aDK];omega
theorem Uh(T c b a f e d:UInt32):((T.toNat:Int)+(bits BinOp.xor xy (bits BinOp.xor xy (f.toNat:Int) (e.toNat:Int)) (d.toNat:Int)+bits BinOp.xor xy (bits BinOp.xor xy (bits BinOp.and xy (c.toNat:Int) (b.toNat:Int)) (bits BinOp.and xy (c.toNat:Int) (a.toNat:Int))) (bits BinOp.and xy (b.toNat:Int) (a.toNat:Int))) % 4294967296) % 4294967296 =
  ((T+((f ^^^ e ^^^ d)+(((c &&& b) ^^^ (c &&& a)) ^^^ (b &&& a)))).toNat:Int):=by
 rw[OU,OU,OU,xW,xW,xW,xW];simp only[aDK];omega
theorem bLm(R v:List UInt32)(j:R.length=8)(i:v.length=8):List.zipWith (·+·) R v=[v.getD 0 0+R.getD 0 0,v.getD 1 0+R.getD 1 0,v.getD 2 0+R.getD 2 0,v.getD 3 0+R.getD 3 0,v.getD 4 0+R.getD 4 0,v.getD 5 0+R.getD 5 0,v.getD 6 0+R.getD 6 0,v.getD 7 0+R.getD 7 0]:=by
 match R,j,v,i with
 |[a,b,c,d,e,f,g,h],_,[r,q,p,o,n,m,l,k],_=>simp[UInt32.add_comm]
theorem SN(a b c d:UInt8):bits BinOp.or xy (bits BinOp.or xy (bits BinOp.or xy ((a.toNat:Int)*16777216 % 4294967296) ((b.toNat:Int)*65536 % 4294967296)) ((c.toNat:Int)*256 % 4294967296)) (d.toNat:Int) =
  ((((a.toUInt32 <<< 24) ||| (b.toUInt32 <<< 16)) ||| (c.toUInt32 <<< 8)) ||| d.toUInt32).toNat:=by
 have e:=ZQ a.toUInt32 24 a_;have f:=ZQ b.toUInt32 16 a_;have g:=ZQ c.toUInt32 8 a_;rw[show (16777216:Int)=2 ^ 24 from rfl,show (65536:Int)=2 ^ 16 from rfl,show (256:Int)=2 ^ 8 from rfl,aSb,aSb b,aSb c,aSb d,e,f,g,Ee,Ee,Ee];rfl
theorem aLr (v:List UInt32) (l:List UInt8) (vv bv kv:ag) (w:ae) (q:v.length=8) (hb:l.length=64) (E:Reads w 1 vv 8 (v.map w32)) (G:Reads w 1 bv 64 (l.map gq)) (F:Reads w 1 kv 64 (zk.map w32)) :
  ik prog 133 #[vv,bv,kv] w fun e w'=>∃ A,e=.returned (.slice A 8 8)/\Reads w' 1 (.slice A 8 8) 8 ((mM v l).map w32)/\Ext w w':=by
 have u:=hide (az q E);have Y:=hide (az hb G);have HK:=hide F;obtain⟨b0,o0,c0,rfl,_,_,_,_⟩:=E.sub 0 8 a_ a_;obtain⟨b1,o1,c1,rfl,_,_,_,_⟩:=G.sub 0 64 a_ a_;obtain⟨b2,o2,c2,rfl,_,_,_,_⟩:=F.sub 0 64 a_ a_;clear q hb E G F
 go_enter func133,ntmps133
 have a5:∀ W,(Instr.makeSlice 200 (.int .i64 64) (.int .i64 64)).run prog W=.ok (.slice (some ⟨W.heap.size,0,none⟩) 64 64) (W.alloc (.cells (gV 64 (dP l 0)) 203)):=fun _=>by kernel_rfl
 go_wp2
 clear a5
 go_loopw [8] (fun i wr=>∃ k:Nat,k<=16/\i=.int .i64 k/\Hid (aFO w l k wr)) (fun i _=>16-(intOf i).toNat)
 case atStart=>exact⟨0,x8 _,rfl,hide ⟨dh.new _ _ _,(Ext.refl w).alloc _⟩⟩
 case round=>
  obtain⟨k,V,rfl,n⟩:=hrel;by_cases m:k<16
  ·have hL:=iK l k
   have hw:wr.cell? ⟨w.heap.size,k,none⟩=some (.int .u32 0)/\wr.frozen? ⟨w.heap.size,k,none⟩=false:=⟨by
    rw[(aA n).1.cell];unfold gV
    rw[YY,YC mg,Yx,if_pos mg],(aA n).1.frozen k⟩
   obtain⟨b9,b8⟩:=hw;have t:=(aA Y).2.ext (aA n).2;have q0:=t.byteAt (j:=4*k) (by rw[(aA Y).1];omega);have q1:=t.byteAt (j:=4*k+1) (by rw[(aA Y).1];omega);have q2:=t.byteAt (j:=4*k+2) (by rw[(aA Y).1];omega);have q3:=t.byteAt (j:=4*k+3) (by rw[(aA Y).1];omega);clear t;have HX:=hide (be4 l k (by rw[(aA Y).1];omega));have o:=hide (fun a b c d=>SN a b c d);generalize l.getD (4*k) 0=y0 at *;generalize l.getD (4*k+1) 0=y1 at *;generalize l.getD (4*k+2) 0=y2 at *;generalize l.getD (4*k+3) 0=y3 at *;have e0:IntKind.i64.wrap (4*(k:Int))=4*(k:Int):=IntWalk.i64_in _ a_;have e1:IntKind.i64.wrap (4*(k:Int)+1)=4*(k:Int)+1:=IntWalk.i64_in _ a_;have e2:IntKind.i64.wrap (4*(k:Int)+2)=4*(k:Int)+2:=IntWalk.i64_in _ a_;have e3:IntKind.i64.wrap (4*(k:Int)+3)=4*(k:Int)+3:=IntWalk.i64_in _ a_;have t0:(4*(k:Int)).toNat=4*k:=by omega
   have t1:(4*(k:Int)+1).toNat=4*k+1:=by omega
   have t2:(4*(k:Int)+2).toNat=4*k+2:=by omega
   have t3:(4*(k:Int)+3).toNat=4*k+3:=by omega
   have z:(0:Int)<=4*(k:Int)/\(0:Int)<=4*(k:Int)+1/\(0:Int)<=4*(k:Int)+2/\(0:Int)<=4*(k:Int)+3/\4*(k:Int)<64/\4*(k:Int)+1<64/\4*(k:Int)+2<64/\4*(k:Int)+3<64/\(k:Int)<64:=by omega
   obtain⟨z1,z2,z3,z4,z5,z6,z7,z8,z9⟩:=z
   go_wp2_with fail
   go_still_tail 36,aj
   clear q0 q1 q2 q3;change wpList _ _ _ _ _ wr.drew
   go_wp2
   go_roundw
   case rel=>
    refine⟨k+1,by omega,by go_num,hide ⟨?_,(Ext.setCell (aA n).2.drew ay _)⟩⟩;have X:=(aA n).1.drew.vk k (.int .u32 ((qX ((l.drop (4*k)).take 4)).toNat:Int));rw[vJ _ (iK l k) a_] at X;simp only[aKB];rw[aA o,<-aA HX];rw[dP,if_pos m]
    first|exact X.drew|exact X
   case measure=>simp[intOf];omega
  ·obtain rfl:k=16:=by omega
   clear V m;obtain⟨wo,rfl⟩:∃ wo:ae,wo=wr:=⟨_,rfl⟩
   go_wp2
   go_loopw [9] (fun i wr=>∃ k:Nat,16<=k/\k<=64/\i=.int .i64 k/\Hid (aFO w l k wr)) (fun i _=>64-(intOf i).toNat)
   case atStart=>exact⟨16,by omega,by omega,rfl,n⟩
   case round=>
    clear n;obtain⟨k,B,V,rfl,n⟩:=hrel;by_cases m:k<64
    ·obtain⟨j,rfl⟩:∃ j,k=j+16:=⟨k-16,by omega⟩;have hL:=iK l (j+16);have cx:∀ i,i<j+16->wr.cell? ⟨w.heap.size,i,none⟩=some (.int .u32 (((dP l (j+16)).getD i 0).toNat:Int)):=fun i hi=>by rw[(aA n).1.cell];exact kE a_
     have y:wr.cell? ⟨w.heap.size,j+16,none⟩=some (.int .u32 0):=by rw[(aA n).1.cell];unfold gV;rw[YY,YC mg,Yx,if_pos mg]
     have HN:=hide (bAo l j);have HC:=hide (az y (az (cx j a_) (cx (j+9) a_)));have c1:=cx (j+1) a_;have a3:=cx (j+14) a_;clear cx y;generalize (dP l (j+16)).getD j 0=Z at *;generalize (dP l (j+16)).getD (j+1) 0=C at *;generalize (dP l (j+16)).getD (j+9) 0=x9 at *;generalize (dP l (j+16)).getD (j+14) 0=p at *;have a0:decide ((j:Int)+16<64)=true:=decide_eq_true a_;have hj:j<48:=by omega
     clear B V m
     go_upto_region 9 with fail
     have a4:(((j+16:Nat):Int)-15)=((j+1:Nat):Int):=by omega
     go_cut [10] (fun s wx=>∃ T:UInt32,s=.int .u32 (T.toNat:Int)/\Hid (T=(gQ C 7 ^^^ gQ C 18) ^^^ (C >>> 3)/\Ext wr wx))
     case first=>
      go_quiet ((first|(go_at_call 164;with_reducible exact Calls.quiet_of (aAL C _))|(go_at_call 164;with_reducible exact Calls.quiet_of (Uo C _))))
      go_wp2_with fail
      go_meet
      exact⟨_,int_eq (bFz C _ _ 3 8 rfl a_),hide ⟨rfl,(Ext.refl wr).drewN _⟩⟩
     case rest=>
      obtain⟨T,rfl,I⟩:=hcut;obtain⟨J,rfl⟩:∃ J:ae,J=wc:=⟨_,rfl⟩;clear c1 a4;have a1:=Ext.j_ (aA I).2 a3;clear a3
      go_upto_region 10 with fail
      have i2:(((j+16:Nat):Int)-2)=((j+14:Nat):Int):=by omega
      go_cut [11] (fun s wx=>∃ U:UInt32,s=.int .u32 (U.toNat:Int)/\Hid (U=(gQ p 17 ^^^ gQ p 19) ^^^ (p >>> 10)/\Ext wr wx))
      case first=>
       go_quiet ((first|(go_at_call 164;with_reducible exact Calls.quiet_of (Ur p _))|(go_at_call 164;with_reducible exact Calls.quiet_of (Un p _))))
       go_wp2_with fail
       go_meet
       exact⟨_,int_eq (bFz p _ _ 10 1024 rfl a_),hide ⟨rfl,(aA I).2.drewN _⟩⟩
      case rest=>
       obtain⟨U,rfl,H⟩:=hcut;obtain⟨r,rfl⟩:∃ r:ae,r=wc:=⟨_,rfl⟩;clear a1 i2;have f0:=Ext.j_ (aA H).2 (aA HC).1;have f1:=Ext.j_ (aA H).2 (aA HC).2.1;have f2:=Ext.j_ (aA H).2 (aA HC).2.2;have ff:=((aA n).1.ext (aA H).2).frozen (j+16);have b7:IntKind.i64.wrap (((j+16:Nat):Int)-16)=(j:Int):=(IntWalk.i64_in _ a_).trans a_;have i7:IntKind.i64.wrap (((j+16:Nat):Int)-7)=((j+9:Nat):Int):=(IntWalk.i64_in _ a_).trans a_;have b6:IntKind.i64.wrap ((j:Int)+16-7)=(j:Int)+9:=(IntWalk.i64_in _ a_).trans a_;have i9:IntKind.i64.wrap ((j:Int)+9)=(j:Int)+9:=IntWalk.i64_in _ a_;have i0:IntKind.i64.wrap (j:Int)=(j:Int):=IntWalk.i64_in _ a_;have t9:((j:Int)+9).toNat=j+9:=by omega
       have a7:((j:Int)+16).toNat=j+16:=by omega
       have b0:(0:Int)<=(j:Int)+9/\(j:Int)+9<64/\(j:Int)<64/\(j:Int)+16<64/\(0:Int)<=(j:Int)+16:=by omega
       obtain⟨b1,b2,b3,b4,b5⟩:=b0
       go_upto_region 11 with fail
       go_still_tail 18,aj
       clear f1 f2;change wpList _ _ _ _ _ r.drew
       go_wp2
       go_roundw
       case rel=>
        repeat apply Exists.intro
        refine⟨?_,rfl⟩;refine⟨j+16+1,by omega,by omega,by go_num,hide ⟨?_,?_⟩⟩;have X:=(((aA n).1.ext (aA H).2).vk (j+16) (.int .u32 ((Z+T+x9+U).toNat:Int))).drew;rw[vJ _ (iK l (j+16)) a_] at X;rw[aA HN,add4,<-(aA I).1,<-(aA H).1];exact X;exact (((aA n).2.trans (aA H).2).setCell ay _).drew
       case measure=>simp[intOf];omega
    ·obtain rfl:k=64:=by omega
     clear B V m;obtain⟨J,rfl⟩:∃ J:ae,J=wr:=⟨_,rfl⟩;have q:=(aA u).2.ext (aA n).2;have D:=q.wordAt (j:=0) (by rw[(aA u).1];omega);have S:=q.wordAt (j:=1) (by rw[(aA u).1];omega);have Q:=q.wordAt (j:=2) (by rw[(aA u).1];omega);have P:=q.wordAt (j:=3) (by rw[(aA u).1];omega);have O:=q.wordAt (j:=4) (by rw[(aA u).1];omega);have N:=q.wordAt (j:=5) (by rw[(aA u).1];omega);have L:=q.wordAt (j:=6) (by rw[(aA u).1];omega);have K:=q.wordAt (j:=7) (by rw[(aA u).1];omega);rw[Nat.add_zero] at D;have a6:=hide (az D (az S (az Q (az P (az O (az N (az L K)))))));clear q
     go_wp2
     clear D S Q P O N L K
     go_loopw [12,13,14,15,16,17,18,19,20] (fun a b c d e f g h i wr=>∃ k:Nat,k<=64/\i=.int .i64 k/\a=.int .u32 (((bM l v k).getD 0 0).toNat:Int)/\b=.int .u32 (((bM l v k).getD 1 0).toNat:Int)/\c=.int .u32 (((bM l v k).getD 2 0).toNat:Int)/\d=.int .u32 (((bM l v k).getD 3 0).toNat:Int)/\e=.int .u32 (((bM l v k).getD 4 0).toNat:Int)/\f=.int .u32 (((bM l v k).getD 5 0).toNat:Int)/\g=.int .u32 (((bM l v k).getD 6 0).toNat:Int)/\h=.int .u32 (((bM l v k).getD 7 0).toNat:Int)/\Hid (Ext J wr)) (fun _ _ _ _ _ _ _ _ i _=>64-(intOf i).toNat)
     case atStart=>exact⟨0,x8 _,rfl,rfl,rfl,rfl,rfl,rfl,rfl,rfl,rfl,hide (Ext.refl _)⟩
     case round=>
      obtain⟨k,V,rfl,rfl,rfl,rfl,rfl,rfl,rfl,rfl,rfl,o⟩:=hrel;by_cases m:k<64
      ·have cw:wr.cell? ⟨w.heap.size,k,none⟩=some (.int .u32 (((sched l).getD k 0).toNat:Int)):=by
        rw[((aA n).1.ext (aA o)).cell];exact kE (by rw[iK];exact m)
       have ck:=((aA HK).ext ((aA n).2.trans (aA o))).wordAt (j:=k) m;have HN:=hide (show bM l v (k+1)=aAg (bM l v k) (zk.getD k 0) ((sched l).getD k 0) from rfl);unfold aAg at HN;generalize (bM l v k).getD 0 0=Z at *;generalize (bM l v k).getD 1 0=C at *;generalize (bM l v k).getD 2 0=x2 at *;generalize (bM l v k).getD 3 0=x3 at *;generalize (bM l v k).getD 4 0=x at *;generalize (bM l v k).getD 5 0=x5 at *;generalize (bM l v k).getD 6 0=x6 at *;generalize (bM l v k).getD 7 0=x7 at *;generalize (sched l).getD k 0=xw at *;generalize zk.getD k 0=xk at *;have a0:decide ((k:Int)<64)=true:=decide_eq_true a_;have c3:(k:Int)<64:=by omega
       have t1:(0:Int)<=(k:Int):=by omega
       go_upto_region 23 with fail
       clear a0
       go_cut [21] (fun s wx=>∃ T:UInt32,s=.int .u32 (T.toNat:Int)/\Hid (T=x7+(gQ x 6 ^^^ gQ x 11 ^^^ gQ x 25)+((x &&& x5) ^^^ (~~~x &&& x6))+xk+xw/\Ext wr wx))
       case first=>
        go_quiet ((first|(go_at_call 164;with_reducible exact Calls.quiet_of (aAM x _))|(go_at_call 164;with_reducible exact Calls.quiet_of (Ut x _))|(go_at_call 164;with_reducible exact Calls.quiet_of (Ul x _))))
        go_wp2_with fail
        go_meet
        exact⟨_,int_eq (Ui x7 x x5 x6 xk xw _ _ _),hide ⟨rfl,(Ext.refl wr).drewN _⟩⟩
       case rest=>
        obtain⟨T,rfl,I⟩:=hcut;obtain⟨r,rfl⟩:∃ r:ae,r=wc:=⟨_,rfl⟩;clear cw ck
        go_wp2_with (first
         |(go_at_call 164;with_reducible refine (aAN Z _).mono ?_;rintro e w' ⟨rfl,n2,rfl⟩)
         |(go_at_call 164;with_reducible refine (Us Z _).mono ?_;rintro e w' ⟨rfl,a9,rfl⟩)
         |(go_at_call 164;with_reducible refine (Um Z _).mono ?_;rintro e w' ⟨rfl,a8,rfl⟩))
        go_roundw
        case rel=>
         repeat apply Exists.intro
         refine⟨?_,rfl⟩;have a2:((x3.toNat:Int)+(T.toNat:Int)) % 4294967296=((x3+T).toNat:Int):=add32 x3 T;refine⟨k+1,by omega,by go_num,int_eq ?_,?_,?_,?_,int_eq ?_,?_,?_,?_,hide (((aA o).trans (aA I).2).drewN _)⟩;rw[Uh,aA HN,(aA I).1];rfl
         all_goals rw[aA HN]
         rfl;rfl;rfl;rw[a2,(aA I).1];rfl;rfl;rfl;rfl
        case measure=>simp[intOf];omega
      ·obtain rfl:k=64:=by omega
       clear V m;obtain⟨r,rfl⟩:∃ r:ae,r=wr:=⟨_,rfl⟩;obtain⟨D,S,Q,P,O,N,L,K⟩:=aA a6;have D:=Ext.j_ (aA o) D;have S:=Ext.j_ (aA o) S;have Q:=Ext.j_ (aA o) Q;have P:=Ext.j_ (aA o) P;have O:=Ext.j_ (aA o) O;have N:=Ext.j_ (aA o) N;have L:=Ext.j_ (aA o) L;have K:=Ext.j_ (aA o) K;have HR:=hide (bLm (bM l v 64) v (kR _ _ (aA u).1 64) (aA u).1);generalize (bM l v 64).getD 0 0=r0 at *;generalize (bM l v 64).getD 1 0=r1 at *;generalize (bM l v 64).getD 2 0=r2 at *;generalize (bM l v 64).getD 3 0=r3 at *;generalize (bM l v 64).getD 4 0=r4 at *;generalize (bM l v 64).getD 5 0=r5 at *;generalize (bM l v 64).getD 6 0=r6 at *;generalize (bM l v 64).getD 7 0=r7 at *;generalize v.getD 0 0=y0 at *;generalize v.getD 1 0=y1 at *;generalize v.getD 2 0=y2 at *;generalize v.getD 3 0=y3 at *;generalize v.getD 4 0=y4 at *;generalize v.getD 5 0=y5 at *;generalize v.getD 6 0=y6 at *;generalize v.getD 7 0=y7 at *
       go_upto_region 33 with fail
       go_still_tail 40,aj
       clear D S Q P O N L K;change wpList _ _ _ _ _ r.drew
       go_wp2
       go_ret;refine⟨_,rfl,?_,(((((aA n).2.trans (aA o)).drew).alloc _))⟩
       simp only[add32];have hz:(mM v l).map w32=[w32 (y0+r0),w32 (y1+r1),w32 (y2+r2),w32 (y3+r3),w32 (y4+r4),w32 (y5+r5),w32 (y6+r6),w32 (y7+r7)]:=by unfold mM aAf;rw[aA HR];rfl
       rw[hz];exact (Reads.aJZ r _ _ _ 8 8 _ rfl rfl (dE _) (by unfold maxLen;omega) rfl).ext ((Ext.refl _).drew)
theorem J4{w:ae}{B b:Nat}{e:bu}{a n:Nat}{v:ag}{xs:List ag}(h:w.ownsRow B e a v n xs)(f:b<=B):w.ownsRow b e a v n xs:=by refine⟨h.1,?_⟩;rcases h.2 with h|⟨g,cap,cur,c,d,h⟩;exact .inl h;exact .inr ⟨g,cap,cur,c,mr f d,h⟩
theorem aDs(l:List UInt8)(w:ae)(hl:l.length=32) :
  ik prog 95 #[.agg (l.map gq).toArray] w fun e p=>∃ A c,e=.returned (.slice A 32 c)/\GB w w.heap.size (.slice A 32 c) 32 l p:=by
 obtain⟨m,a⟩:∃ r,(l.map gq).toArray=r:=⟨_,rfl⟩;have j:=hide (az a hl);rw[a];clear a hl
 go_enter func95,ntmps95
 go_wp2
 go_loopw [3,4] (fun b i wr=>∃ (k:Nat) (A:Option ry) (c:Nat),k<=32/\i=.int .i64 k/\b=.slice A k c/\Hid (GB w (w.heap.size+1) (.slice A k c) k (l.take k) wr/\dh wr w.heap.size 142 m)) (fun _ i _=>32-(intOf i).toNat)
 case atStart=>exact⟨0,none,0,x8 _,rfl,rfl,hide ⟨GB.nil ((Ext.refl w).alloc _) a_ ay,dh.new _ _ _⟩⟩
 case round=>
  obtain⟨k,A,c,z,rfl,rfl,f⟩:=hrel;by_cases d:k<32
  ·have B:wr.cell? ⟨w.heap.size,k,none⟩=some (.int .u8 ((l.getD k 0).toNat:Int)):=by
    rw[(aA f).2.cell,<-(aA j).1,YY,Xu,zG,zH (by rw[(aA j).2];exact d)];rfl
   have t:=hide (show l.take (k+1)=l.take k++[l.getD k 0] from by
    rw[lW l k (by rw[(aA j).2];exact d),zG,zH (by rw[(aA j).2];exact d)]
    rfl)
   generalize l.getD k 0=x at *;have C:(k:Int)<32:=by omega
   go_wp2_with (at_builtin;refine bQ rfl rfl fV rfl (bP (aA f).1.own ((Ext.refl _).alloc _)) rfl (Reads.uo _ _ _) (dO.one rfl) a_ (mr (aA f).1.room ay) ?_;intro u s y o g q;have n:=hide (az o g);clear o g q)
   go_roundw
   case rel=>refine⟨k+1,u,s,by omega,by go_num,rfl,hide ⟨(aA f).1.step ((Ext.refl _).alloc _) (aA n).2 (by rw[aA t,Y9];exact (aA n).1),(aA f).1.blk ((Ext.refl _).alloc _) (aA n).2 (aA f).2 a_⟩⟩
   case measure=>simp[intOf];omega
  ·obtain rfl:k=32:=by omega
   go_wp2
   go_ret;have h:=(aA f).1;rw[IR (by rw[(aA j).2];omega)] at h
   exact⟨_,_,rfl,J4 h.own a_,h.ext,dE _,h.ext.size'⟩
theorem aIw(l:List UInt8)(w:ae)(hl:l.length=32) :
  ik prog 69 #[.agg (l.map gq).toArray] w fun e A=>e=.returned (.agg ((l.take 16).map gq).toArray)/\Ext w A:=by
 obtain⟨q,c⟩:∃ r,(l.map gq).toArray=r:=⟨_,rfl⟩;have o:=hide (az c hl);rw[c];clear c hl
 go_enter func69,ntmps69
 go_wp2
 go_loopw [4] (fun i wr=>∃ k:Nat,k<=16/\i=.int .i64 k/\Hid (dh wr w.heap.size 142 q/\dh wr (w.heap.size+1) 23 (dZ 16 [])/\dh wr (w.heap.size+1+1) 23 (dZ 16 (l.take k))/\Ext w wr)) (fun i _=>16-(intOf i).toNat)
 case atStart=>exact⟨0,x8 _,rfl,hide ⟨((dh.new w _ _).alloc _).alloc _,(dh.new' _ _ _ ay).alloc _,dh.new' _ _ _ ay,(((Ext.refl w).alloc _).alloc _).alloc _⟩⟩
 case round=>
  obtain⟨k,I,rfl,f⟩:=hrel;have b:(l.take k).length=k:=by rw[uk,(aA o).2];omega
  by_cases m:k<16
  ·have L:wr.cell? ⟨w.heap.size,k,none⟩=some (.int .u8 ((l.getD k 0).toNat:Int)):=by
    rw[(aA f).1.cell,<-(aA o).1,YY,Xu,zG,zH (by rw[(aA o).2];omega)];rfl
   have j:=hide (show l.take (k+1)=l.take k++[l.getD k 0] from by
    rw[lW l k (by rw[(aA o).2];omega),zG,zH (by rw[(aA o).2];omega)]
    rfl)
   have g:wr.cell? ⟨w.heap.size+1+1,k,none⟩=some (.int .u8 0):=by rw[(aA f).2.2.1.cell];exact qH a_ m
   have K:=(aA f).2.2.1.frozen k;generalize l.getD k 0=x at *;have O:(k:Int)<32:=by omega
   have N:(k:Int)<16:=by omega
   have G:=hide b;clear b
   go_wp2
   go_roundw
   case rel=>obtain⟨E,D,C,B⟩:=aA f;have u:=C.vk k (.int .u8 (x.toNat:Int));rw[zQ _ (aA G) m,<-aA j] at u;exact⟨k+1,by omega,by go_num,hide ⟨E.far' a_ _ _,D.far' a_ _ _,u,B.setCell mg _⟩⟩
   case measure=>simp[intOf];omega
  ·obtain rfl:k=16:=by omega
   obtain⟨d,a⟩:∃ r,((l.take 16).map gq).toArray=r:=⟨_,rfl⟩;have F:=hide (show dZ 16 (l.take 16)=d from by rw[zS b,a]);have j:=hide (show d.size=16/\d.all (·.oneCell')=true from by rw[<-a];exact⟨by simpa using b,dK _⟩);have s:=hide a;clear a;rw[aA F] at f;clear b
   go_wp2_with (first
    |(refine fG (ty:=23) (t:=23) (x:=.tmp 3) rfl rfl bG rfl (aA f).2.2.1 (aA j).1 ?_)
    |(refine aS (ty:=23) (t:=23) (x:=.tmp 2) (y:=.tmp 15) rfl rfl bG rfl rfl (aA f).2.1 (lC ay) (aA j).1 (aA j).2 ?_;intro H n g p;have z:=hide (az n g);clear n g p))
   refine Y4 (v:=.agg d) (dR bG rfl (aA z).1 (aA j).1 rfl) rfl ⟨by rw[aA s],?_⟩;exact (aA f).2.2.2.trans' (aA z).2 (fun _ _ h=>h) (fun i J e=>by omega)
def aMq:ByteArray:={ data:=#[54,97,48,57,101,54,54,55,98,98,54,55,97,101,56,53,51,99,54,101,102,51,55,50,97,53,52,102,102,53,51,97,53,49,48,101,53,50,55,102,57,98,48,53,54,56,56,99,49,102,56,51,100,57,97,98,53,98,101,48,99,100,49,57] }
def aGo:ByteArray:={ data:=((([52,50,56,97,50,102,57,56,55,49,51,55,52,52,57,49,98,53,99,48,102,98,99,102,101,57,98,53,100,98,97,53,51,57,53,54,99,50,53,98,53,57,102,49,49,49,102,49,57,50,51,102,56,50,97,52,97,98,49,99,53,101,100,53].append [100,56,48,55,97,97,57,56,49,50,56,51,53,98,48,49,50,52,51,49,56,53,98,101,53,53,48,99,55,100,99,51,55,50,98,101,53,100,55,52,56,48,100,101,98,49,102,101,57,98,100,99,48,54,97,55,99,49,57,98,102,49,55,52]).append ([101,52,57,98,54,57,99,49,101,102,98,101,52,55,56,54,48,102,99,49,57,100,99,54,50,52,48,99,97,49,99,99,50,100,101,57,50,99,54,102,52,97,55,52,56,52,97,97,53,99,98,48,97,57,100,99,55,54,102,57,56,56,100,97].append [57,56,51,101,53,49,53,50,97,56,51,49,99,54,54,100,98,48,48,51,50,55,99,56,98,102,53,57,55,102,99,55,99,54,101,48,48,98,102,51,100,53,97,55,57,49,52,55,48,54,99,97,54,51,53,49,49,52,50,57,50,57,54,55])).append (([50,55,98,55,48,97,56,53,50,101,49,98,50,49,51,56,52,100,50,99,54,100,102,99,53,51,51,56,48,100,49,51,54,53,48,97,55,51,53,52,55,54,54,97,48,97,98,98,56,49,99,50,99,57,50,101,57,50,55,50,50,99,56,53].append [97,50,98,102,101,56,97,49,97,56,49,97,54,54,52,98,99,50,52,98,56,98,55,48,99,55,54,99,53,49,97,51,100,49,57,50,101,56,49,57,100,54,57,57,48,54,50,52,102,52,48,101,51,53,56,53,49,48,54,97,97,48,55,48]).append ([49,57,97,52,99,49,49,54,49,101,51,55,54,99,48,56,50,55,52,56,55,55,52,99,51,52,98,48,98,99,98,53,51,57,49,99,48,99,98,51,52,101,100,56,97,97,52,97,53,98,57,99,99,97,52,102,54,56,50,101,54,102,102,51].append [55,52,56,102,56,50,101,101,55,56,97,53,54,51,54,102,56,52,99,56,55,56,49,52,56,99,99,55,48,50,48,56,57,48,98,101,102,102,102,97,97,52,53,48,54,99,101,98,98,101,102,57,97,51,102,55,99,54,55,49,55,56,102,50]))).toArray }
theorem bKs:(yf 8).map (uN aMq.data.toList)=oL:=by decide +kernel
theorem bCp:(yf 64).map (uN aGo.data.toList)=zk:=by decide +kernel
theorem first_any(w:ae):ik prog 132 #[.string aMq,.int .i64 8] w fun e a=>∃ A c,e=.returned (.slice A 8 c)/\Reads a 1 (.slice A 8 c) 8 (oL.map w32)/\Ext w a:=by refine (aOe aMq 8 8 rfl w (by decide +kernel) (by decide +kernel)).mono ?_;rintro e a ⟨A,c,rfl,b,d⟩;rw[bKs] at b;exact⟨A,c,rfl,Reads.lw b,d⟩
theorem bDn(w:ae):ik prog 132 #[.string aGo,.int .i64 64] w fun e a=>∃ A c,e=.returned (.slice A 64 c)/\Reads a 1 (.slice A 64 c) 64 (zk.map w32)/\Ext w a:=by refine (aOe aGo 64 64 rfl w (by decide +kernel) (by decide +kernel)).mono ?_;rintro e a ⟨A,c,rfl,b,d⟩;rw[bCp] at b;exact⟨A,c,rfl,Reads.lw b,d⟩
theorem aJg(w:ae)(B:Nat)(e:bu)(a:Nat){g:Nat}(b:g=w.heap.size)(hb:B<=w.heap.size):(w.alloc (.cells #[] e)).ownsRow B e a (.slice (some ⟨g,0,none⟩) 0 0) 0 []:=by subst b;exact aAs w B e a hb
theorem Lh{w a:ae}{l:List UInt8}{f:Option ry}{d:Nat}{b:Array ag}{T:bu}(c:a.ownsRow (w.heap.size+1) 5 1 (.slice f (0+l.length) d) (0+l.length) ([]++l.map gq))
  (hc:dm (fun k=>(Value.slice (some ⟨w.heap.size+1,0,none⟩) 0 0).ownBlock=some k) ((w.alloc (.cells b T)).alloc (.cells #[] 5)) a) :
  GB w (w.heap.size+1) (.slice f l.length d) l.length l a/\dh a w.heap.size T b:=by
 rw[lL,WF] at c;refine⟨⟨c,(((Ext.refl w).alloc _).alloc _).trans' hc (fun _ _ h=>h) (fun i g e=>?_),by omega,?_⟩,dh.gy ((dh.new w _ _).alloc _) hc ?_⟩;simp[Xr] at e;omega;have:=hc.size;simp at this;omega;simp[Xr]
def jF(n:Nat):Nat:=(119-n % 64) % 64
def D5(l:List UInt8)(k:Nat):List UInt8:=l++[128]++List.replicate k 0
theorem I7{w:ae}{B:Nat}{v:ag}{n:Nat}{l:List UInt8}(h:w.ownsRow B 5 1 v n (l.map gq++[.int .u8 128])):w.ownsRow B 5 1 v n ((D5 l 0).map gq):=by unfold D5;rw[List.replicate_zero,Pi,Y9];exact h
theorem bGn(l:List UInt8)(k:Nat):D5 l (k+1)=D5 l k++[0]:=by unfold D5;rw[List.replicate_succ',yl,yl,yl]
theorem I8(l:List UInt8):D5 l (jF l.length)++beBytes (8*l.length) 8=gX l:=rfl
theorem bLj(a:List UInt32):∀ (q r:Nat),q<a.length->r<4->(a.flatMap fun w=>beBytes w.toNat 4)[4*q+r]?=some (ww ((a.getD q 0).toNat / 256 ^ (3-r))):=by
 induction a with
 |nil=>intro q r h;simp at h| cons x l c=>
  intro q r d b;rw[List.flatMap_cons];cases q with
  |zero=>rw[Nat.mul_zero,lL,List.getElem?_append_left (by rw[beBytes_length];exact b),zU _ _ _ b];rfl|succ q=>rw[YC (by rw[beBytes_length];omega),beBytes_length,show 4*(q+1)+r-4=4*q+r from by omega,c q r (by simpa using d) b];rfl
theorem bCz(a:List UInt32)(q r:Nat)(b:q<a.length)(hr:r<4):(a.flatMap fun w=>beBytes w.toNat 4).take (4*q+r+1)=(a.flatMap fun w=>beBytes w.toNat 4).take (4*q+r)++[ww ((a.getD q 0).toNat / 256 ^ (3-r))]:=by rw[List.take_add_one,bLj a q r b hr];rfl
theorem xG (l : List UInt8) (v:ag) (w:ae) (hr:Reads w 1 v l.length (l.map gq)) (hl:l.length<=100000000) :
    ik prog 96 #[v] w fun e w'=>e=.returned (.agg ((sha l).map gq).toArray)/\Ext w w':=by
  have HR:=hide hr;obtain⟨A,c,rfl⟩:∃ A c,v=.slice A l.length c:=by obtain⟨_,A,c,h,_⟩:=hr;exact⟨A,c,h⟩
  clear hr
  go_enter func96,ntmps96
  go_wp2_with (first
    | (
     at_builtin;refine bQ (s:=.tmp 11) (x:=.tmp 12) rfl rfl fV rfl (aJg _ (w.heap.size+1) _ _ ay ay) rfl ((aA HR).ext (((Ext.refl w).alloc _).alloc _)) (dO.u8 l) a_ ay ?_;intro A1 c1 w1 B D Q;have P:=hide (az B D);clear B D Q
     have Z:=hide (Lh (aA P).1 (aA P).2)
     clear P)
    | (
     at_builtin;refine bQ (s:=.tmp 13) (x:=.tmp 14) rfl rfl fV rfl (bP (aA Z).1.own ((Ext.refl _).alloc _)) rfl (Reads.uo _ _ _) (dO.one rfl) a_ (mr (aA Z).1.room ay) ?_;intro A2 c2 w2 B D Q;have P:=hide (az B D);clear B D Q
     have H2:=hide (az (GB.step (l':=D5 l 0) (aA Z).1 ((Ext.refl _).alloc _) (aA P).2 (I7 (aA P).1)) ((aA Z).1.blk ((Ext.refl _).alloc _) (aA P).2 (aA Z).2 (aBy _)))
     clear P))
  clear Z
  go_loopw [3] (fun b wr=>∃ (k:Nat) (A:Option ry) (c:Nat),k<=jF l.length/\b=.slice A (l.length+1+k) c/\Hid (GB w (w.heap.size+1) (.slice A (l.length+1+k) c) (l.length+1+k) (D5 l k) wr/\dh wr w.heap.size 142 (dZ 32 []))) (fun b _=>match b with|.slice _ n _=>l.length+1+jF l.length-n|_=>0)
  case atStart=>exact⟨0,_,_,x8 _,rfl,H2⟩
  case round=>
    clear H2;obtain⟨k,A1,c1,T,rfl,a⟩:=hrel;by_cases d:k<jF l.length
    ·
      have a1:((((l.length+1+k:Nat):Int) % 64)==56)=false:=by unfold jF at d;simp;omega
      have b4:k<64:=by unfold jF at d;omega
      go_wp2_with (at_builtin;refine bQ rfl rfl fV rfl (bP (aA a).1.own ((Ext.refl _).alloc _)) rfl (Reads.uo _ _ _) (dO.one rfl) a_ (mr (aA a).1.room ay) ?_;intro A' c' w3 B D Q;have U:=hide (az B D);clear B D Q)
      go_roundw
      case rel=>refine⟨k+1,A',c',d,rfl,hide ⟨GB.step (aA a).1 ((Ext.refl _).alloc _) (aA U).2 ?_,(aA a).1.blk ((Ext.refl _).alloc _) (aA U).2 (aA a).2 (aBy _)⟩⟩;rw[bGn,Y9];exact (aA U).1
      case measure=>simp;omega
    ·
      obtain rfl:k=jF l.length:=by omega
      have a1:((((l.length+1+jF l.length:Nat):Int) % 64)==56)=true:=by unfold jF;simp;omega
      have b2:(((l.length:Int)+1+(jF l.length:Int)) % 64 != 56)=false:=by unfold jF;simp;omega
      have b4:jF l.length<64:=by unfold jF;omega
      have HN:=hide (show (l.length+1+jF l.length) % 64=56 from by unfold jF;omega);clear d T
      go_wp2
      clear a1 b2;obtain⟨w4,rfl⟩:∃ w4:ae,w4=wr:=⟨_,rfl⟩;have HP:=hide (I8 l);have d3:l.length+1+jF l.length<=100000100:=by omega
      generalize D5 l (jF l.length)=pl at *;generalize l.length+1+jF l.length=f at *
      go_loopw [3,5] (fun b i wr=>∃ (k:Nat) (A:Option ry) (c:Nat),k<=8/\i=.int .i64 ((k:Int)-1)/\b=.slice A (f+(8-k)) c/\Hid (GB w (w.heap.size+1) (.slice A (f+(8-k)) c) (f+(8-k)) (pl++(beBytes (8*l.length) 8).take (8-k)) wr/\dh wr w.heap.size 142 (dZ 32 []))) (fun _ i _=>(intOf i+1).toNat)
      case atStart=>exact⟨8,_,_,dE _,rfl,rfl,by rw[Nat.sub_self,aDE,Pi];exact a⟩
      case round=>
        clear a;obtain⟨k,A2,c2,T,rfl,rfl,a⟩:=hrel;by_cases a5:0<k
        ·
          have e0:(0:Int)<=(k:Int)-1:=by omega
          have e1:IntKind.i64.wrap (8*((k:Int)-1))=((8*(k-1):Nat):Int):=by rw[IntWalk.i64_in _ a_];omega
          have hb:=byte_of (8*l.length) (k-1);have C:((8*l.length:Nat):Int)=8*(l.length:Int):=by omega
          rw[C] at hb;clear C;have HX:=hide (aDc (8*l.length) 8 k a5 T);generalize ww (8*l.length / 256 ^ (k-1))=z at *
          go_wp2_with (at_builtin;refine bQ rfl rfl fV rfl (bP (aA a).1.own ((Ext.refl _).alloc _)) rfl (Reads.uo _ _ _) (dO.one rfl) a_ (mr (aA a).1.room ay) ?_;intro A' c' w3 B D Q;have U:=hide (az B D);clear B D Q)
          go_roundw
          case rel=>refine⟨k-1,A',c',by omega,by go_num,by rw[show f+(8-(k-1))=f+(8-k)+1 from by omega],hide ⟨?_,(aA a).1.blk ((Ext.refl _).alloc _) (aA U).2 (aA a).2 (aBy _)⟩⟩;rw[show f+(8-(k-1))=f+(8-k)+1 from by omega];refine GB.step (aA a).1 ((Ext.refl _).alloc _) (aA U).2 ?_;rw[aA HX,<-yl,Y9];exact (aA U).1
          case measure=>simp[intOf];omega
        ·
          obtain rfl:k=0:=by omega
          clear a5 T
          have HJ:=hide (show GB w (w.heap.size+1) (.slice A2 (f+8) c2) (f+8) (gX l) wr/\dh wr w.heap.size 142 (dZ 32 []) from by
            have:=aA a;rw[Nat.sub_zero,IR (by rw[beBytes_length];exact dE _),aA HP] at this
            exact this)
          obtain⟨w5,rfl⟩:∃ w5:ae,w5=wr:=⟨_,rfl⟩;clear a;have z1:((0:Nat):Int)-1 = -1:=rfl;have z2:f+(8-0)=f+8:=rfl;rw[z1,z2];clear z1 z2
          go_wp2_with fail
          refine (first_any _).mono ?_;rintro e w6 ⟨A6,c6,rfl,a4,a9⟩;have H6:=hide (az a4 a9);clear a4 a9
          go_wp2_with fail
          refine (bDn _).mono ?_;rintro e W ⟨A7,c7,rfl,a3,a8⟩;have Y:=hide (az a3 a8);clear a3 a8
          go_wp2
          obtain⟨m,hm⟩:∃ m,f+8=64*m:=⟨(f+8) / 64,by have:=aA HN;omega⟩;have b0:=hide (aA HJ).1.len
          have g:=hide (show Reads W 1 (.slice A2 (f+8) c2) (f+8) ((gX l).map gq)/\dh W w.heap.size 142 (dZ 32 [])/\Ext w W/\Reads W 1 (.slice A6 8 c6) 8 (oL.map w32)/\Reads W 1 (.slice A7 64 c7) 64 (zk.map w32) from
            ⟨(aA HJ).1.reads.ext ((aA H6).2.trans (aA Y).2),(aA HJ).2.ext ((aA H6).2.trans (aA Y).2),(aA HJ).1.ext.trans ((aA H6).2.trans (aA Y).2),(aA H6).1.ext (aA Y).2,(aA Y).1⟩)
          obtain⟨g2,o2,e6,b7,b5,a6,_,_⟩:=(aA g).1.sub 0 64 a_ a_;cases b7;clear HJ H6 Y;unfold maxLen at a6;have HM:=hide hm;have d5:f+8<=64*m:=by omega
          have d4:64*m<=f+8:=by omega
          clear hm
          go_loopw [6,8] (fun v i wr=>∃ (j:Nat) (A:Option ry) (c:Nat),j<=m/\i=.int .i64 ((64*j:Nat):Int)/\v=.slice A 8 c/\Hid (Reads wr 1 (.slice A 8 c) 8 ((lK (gX l) (yf j) oL).map w32)/\Ext W wr)) (fun _ i _=>64*m-(intOf i).toNat)
          case atStart=>exact⟨0,A6,c6,x8 _,rfl,rfl,hide ⟨(aA g).2.2.2.1,Ext.refl _⟩⟩
          case round=>
            obtain⟨j,A8,c8,hj,rfl,rfl,a⟩:=hrel;by_cases d:j<m
            ·
              have e4:64*j+64<=f+8:=by omega
              have d1:decide (64*j<f+8)=true:=decide_eq_true a_;have HX:=hide (show lK (gX l) (yf (j+1)) oL=mM (lK (gX l) (yf j) oL) (((gX l).drop (64*j)).take 64) from by unfold lK;rw[aDR,List.foldl_append];rfl);have I:=hide (jA (gX l) (yf j) oL rfl);have c5:=hide (show (((gX l).drop (64*j)).take 64).length=64 from by have:=aA b0;simp;omega)
              have c4:=hide (show Reads wr 1 (.slice (some ⟨g2,o2+64*j,none⟩) 64 (c2-64*j)) 64 ((((gX l).drop (64*j)).take 64).map gq) from by
                obtain⟨b,o,c,e,_,_,_,h⟩:=((aA g).1.ext (aA a).2).sub (64*j) 64 a_ a_;cases e;rw[aDN,List.map_drop]
                exact h)
              go_wp2_with fail
              refine (aLr _ _ _ _ _ _ (aA I) (aA c5) (aA a).1 (aA c4) ((aA g).2.2.2.2.ext (aA a).2)).mono ?_;rintro e w8 ⟨A9,rfl,a2,a7⟩;have H9:=hide (az a2 a7);clear a2 a7;have d2:IntKind.i64.wrap (64*(j:Int)+64)=((64*(j+1):Nat):Int):=by rw[IntWalk.i64_in _ a_];omega
              go_wp2
              go_roundw
              case rel=>refine⟨j+1,A9,8,d,by go_num,rfl,hide ⟨?_,(aA a).2.trans (aA H9).2⟩⟩;rw[aA HX];exact (aA H9).1
              case measure=>simp[intOf];omega
            ·
              obtain rfl:j=m:=by omega
              have d1:decide (64*j<f+8)=false:=decide_eq_false a_;clear d hj
              have b8:=hide (show (lK (gX l) (yf j) oL).flatMap (fun w=>beBytes w.toNat 4)=sha l from by
                rw[nZ];unfold sha
                rw[aA b0,aA HM,Nat.mul_div_cancel_left _ a_])
              have I:=hide (jA (gX l) (yf j) oL rfl);generalize lK (gX l) (yf j) oL=X at *;obtain⟨G,rfl⟩:∃ G:ae,G=wr:=⟨_,rfl⟩;obtain⟨g8,o8,e5,b6,d8,c9,d7,_⟩:=(aA a).1.sub 0 8 a_ a_;cases b6
              go_wp2_with (refine aS (ty:=142) (t:=142) (x:=.tmp 9) (y:=.tmp 55) rfl rfl fE rfl rfl (dh.new G _ _) rfl rfl (by rw[<-Array.all_toList];rfl) ?_;intro u O L J;have V:=hide (az O (az L J));clear O L J)
              clear d1
              have F:=hide (show dh u G.heap.size 142 (dZ 32 [])/\dh u w.heap.size 142 (dZ 32 [])/\Ext w u/\Reads u 1 (.slice (some ⟨g8,o8,none⟩) 8 c8) 8 (X.map w32)/\w.heap.size<G.heap.size from by
                have d:=((aA g).2.1.ext (aA a).2).lt;have hE:Ext G u:=((Ext.refl G).alloc _).trans' (aA V).2.1 (fun _ _ h=>h) (fun i hi e=>by omega)
                exact⟨(aA V).1,((aA g).2.1.ext (aA a).2).ext hE,((aA g).2.2.1.trans (aA a).2).trans hE,(aA a).1.ext hE,d⟩)
              have E:=hide (dA l);clear V a
              go_loopw [10] (fun i wr=>∃ k:Nat,k<=32/\i=.int .i64 k/\Hid (dh wr G.heap.size 142 (dZ 32 ((sha l).take k))/\dh wr w.heap.size 142 (dZ 32 [])/\Ext w wr/\Reads wr 1 (.slice (some ⟨g8,o8,none⟩) 8 c8) 8 (X.map w32))) (fun i _=>32-(intOf i).toNat)
              case atStart=>exact⟨0,x8 _,rfl,hide ⟨(aA F).1,(aA F).2.1,(aA F).2.2.1,(aA F).2.2.2.1⟩⟩
              case round=>
                obtain⟨k,T,rfl,a⟩:=hrel;by_cases d:k<32
                ·
                  obtain⟨q,r,rfl,b3⟩:∃ q r,k=4*q+r/\r<4:=⟨k / 4,k % 4,by omega,by omega⟩;have d9:=(aA a).2.2.2.wordAt (j:=q) (by rw[aA I];omega);have b5:wr.cell? ⟨G.heap.size,4*q+r,none⟩=some (.int .u8 0):=by rw[(aA a).1.cell];exact qH (by rw[uk,aA E];omega) d
                  have hf:=(aA a).1.frozen (4*q+r)
                  have HX:=hide (show (sha l).take (4*q+r+1)=(sha l).take (4*q+r)++[ww ((X.getD q 0).toNat / 256 ^ (3-r))] from by
                    rw[<-aA b8]
                    exact bCz X q r (by rw[aA I];omega) b3)
                  have c3:=hide (byte_of (X.getD q 0).toNat (3-r));generalize X.getD q 0=x at *;have hx:=x.toNat_lt;have hq:q<8:=by omega
                  have e1:(4*(q:Int)+(r:Int)) / 4=(q:Int):=by omega
                  have e2:(4*(q:Int)+(r:Int)) % 4=(r:Int):=by omega
                  have e3:24-8*(r:Int)=((8*(3-r):Nat):Int):=by omega
                  go_wp2
                  go_roundw
                  case rel=>obtain⟨q1,q2,q3,q4⟩:=aA a;have h1:=q1.vk (4*q+r) (.int .u8 ((ww (x.toNat / 256 ^ (3-r))).toNat:Int));rw[zQ _ (by rw[uk,aA E];omega) d,<-aA HX] at h1;refine⟨4*q+r+1,by omega,by go_num,hide ?_⟩;rw[aA c3];have d6:=(aA F).2.2.2.2;refine⟨h1,q2.far' a_ _ _,q3.setCell mg _,q4.gy (dm.setCell (S:=fun k=>k=G.heap.size) (dm.refl _ _) (.inl rfl) _) (fun k _ T e=>by simp[Xr] at T;omega)⟩
                  case measure=>simp[intOf];omega
                ·
                  obtain rfl:k=32:=by omega
                  obtain⟨H,p⟩:∃ r,((sha l).map gq).toArray=r:=⟨_,rfl⟩;have c0:=hide (show dZ 32 ((sha l).take 32)=H from by rw[IR (by rw[aA E];omega),zS (aA E),p]);have HS:=hide (show H.size=32/\H.all (·.oneCell')=true from by rw[<-p];exact⟨by simpa using aA E,dK _⟩);have b9:=hide p;clear p;rw[aA c0] at a
                  go_wp2_with (first
                    |(refine fG (ty:=142) (t:=142) (x:=.tmp 9) rfl rfl fE rfl (aA a).1 (aA HS).1 ?_)
                    |(refine aS (ty:=142) (t:=142) (x:=.tmp 2) (y:=.tmp 73) rfl rfl fE rfl rfl (aA a).2.1 (lC ay) (aA HS).1 (aA HS).2 ?_;intro d0 N K a0;have b1:=hide (az N K);clear N K a0))
                  refine Y4 (v:=.agg H) (dR fE rfl (aA b1).1 (aA HS).1 rfl) rfl ⟨by rw[aA b9],?_⟩;exact (aA a).2.2.1.trans' (aA b1).2 (fun _ _ h=>h) (fun i hi e=>by omega)
theorem GB.Aa{w0 wr:ae}{B n:Nat}{v:ag}{l:List UInt8}(h:GB w0 B v n l wr):Reads wr 1 v l.length (l.map gq):=by rw[h.len];exact h.reads
structure G2(w0:ae)(B:Nat)(v1:ag)(n1:Nat)(l1:List UInt8)(v2:ag)(n2:Nat)(l2:List UInt8)(wr:ae):Prop where
 one:GB w0 B v1 n1 l1 wr
 two:GB w0 B v2 n2 l2 wr
 far:∀ g,v1.ownBlock=some g->v2.ownBlock≠some g
theorem G2.swap{w0 wr:ae}{B c n2:Nat}{b a:ag}{l1 d:List UInt8}(h:G2 w0 B b c l1 a n2 d wr):G2 w0 B a n2 d b c l1 wr:=⟨h.two,h.one,fun g e f=>h.far g f e⟩
theorem G2.to{w0 wr a:ae}{B d n2:Nat}{c b:ag}{l1 e:List UInt8}(h:G2 w0 B c d l1 b n2 e wr)(f:Ext wr a):G2 w0 B c d l1 b n2 e a:=⟨h.one.to f,h.two.to f,h.far⟩
theorem G2.step{w0 wr i c:ae}{B r n2 o:Nat}{j n d:ag}{l1 p l':List UInt8}(h:G2 w0 B j r l1 n n2 p wr)(m:Ext wr i)(hc:dm (fun k=>j.ownBlock=some k) i c)(q:c.ownsRow B 5 1 d o (l'.map gq))
  (a:d.ownBlock=j.ownBlock\/∃ g,d.ownBlock=some g/\i.heap.size<=g/\g<c.heap.size):G2 w0 B d o l' n n2 p c:=by
 have f:=h.two.to m;refine⟨h.one.step m hc q,⟨gB f.own hc (fun k s e=>h.far k e s),((h.one.step m hc q).ext),f.base,mr f.room hc.size⟩,fun g l b=>?_⟩;rcases a with a|⟨u,a,t,_⟩;exact h.far g (a ▸ l) b;rw[a] at l;cases l;have:=(f.own.lt _ b).2;omega
theorem G2.blk{w0 wr b a:ae}{B e n2:Nat}{c d:ag}{l1 f:List UInt8}(h:G2 w0 B c e l1 d n2 f wr)(j:Ext wr b)(hc:dm (fun k=>c.ownBlock=some k) b a){g:Nat}{t:bu}{cs:Array ag}(hb:dh wr g t cs)(i:g<B):dh a g t cs:=h.one.blk j hc hb i
def oV(a:List UInt8)(x:UInt8)(k:Nat):List UInt8:=(yf k).map fun i=>a.getD i 0 ^^^ x
theorem qU(a:List UInt8)(x:UInt8)(k:Nat):oV a x (k+1)=oV a x k++[a.getD k 0 ^^^ x]:=by unfold oV;rw[aDR,Y9];rfl
theorem tV(a:List UInt8)(x:UInt8):oV a x 64=oW a x:=rfl
theorem aDt{w:ae}{B:Nat}{v:ag}{n:Nat}{l l':List UInt8}{b:UInt8}(h:w.ownsRow B 5 1 v n (l.map gq++[.int .u8 (b.toNat:Int)]))(e:l'=l++[b]):w.ownsRow B 5 1 v n (l'.map gq):=by rw[e,Y9];exact h
theorem tY{w:ae}{B:Nat}{v:ag}{n:Nat}{l m:List UInt8}(h:w.ownsRow B 5 1 v n (l.map gq++m.map gq)):w.ownsRow B 5 1 v n ((l++m).map gq):=by rw[Y9];exact h
theorem aPl (j b:List UInt8) (kv bv:ag) (w:ae) (hk:Reads w 1 kv j.length (j.map gq)) (hb:Reads w 1 bv b.length (b.map gq)) (a4:j.length<=1000000) (b7:b.length<=1000000) :
    ik prog 70 #[kv,bv] w fun e w'=>e=.returned (.agg ((Ag j b).map gq).toArray)/\Ext w w':=by
  have HB:=hide hb;obtain⟨A,c,rfl⟩:∃ A c,kv=.slice A j.length c:=by obtain⟨_,A,c,h,_⟩:=hk;exact⟨A,c,h⟩
  obtain⟨Ab,cb,rfl⟩:∃ A c,bv=.slice A b.length c:=by obtain⟨_,A,c,h,_⟩:=hb;exact⟨A,c,h⟩
  have a9:=hide hk;clear hk hb;rw[aVo];by_cases a2:j.length > 64
  ·
    have b3 : decide ((64:Int)<(j.length:Int))=true:=decide_eq_true a_;rw[if_pos a2]
    go_enter func70,ntmps70
    go_wp2_with (first
      |(go_at_call 96;refine (xG j _ _ ((aA a9).ext ((Ext.refl w).alloc _)) a_).mono ?_;rintro e w1 ⟨rfl,a8⟩;have H1:=hide a8;clear a8)
      |(go_at_call 95;refine (aDs (sha j) _ (dA j)).mono ?_;rintro e w2 ⟨A0,c0,rfl,h2⟩;have H2:=hide h2;clear h2))
    have z:=hide (show Reads w2 1 (.slice A0 32 c0) 32 ((sha j).map gq)/\Ext w w2/\dh w2 w.heap.size 142 (dZ 32 []) from
      ⟨(aA H2).reads,(((Ext.refl w).alloc _).trans (aA H1)).trans (aA H2).ext,(dh.new w _ _).ext ((aA H1).trans (aA H2).ext)⟩)
    clear H1 H2;obtain⟨f,a1⟩:∃ f,f=sha j:=⟨_,rfl⟩;rw[<-a1] at z;have a4:f.length=32:=by rw[a1,dA]
    have b6:=hide a1;have Y:=hide a4;clear a1 a4;obtain⟨L,rfl⟩:∃ L:ae,L=w2:=⟨_,rfl⟩;have T:=hide True.intro
    go_loopw [5,6,7] (fun a b i wr=>∃ (k:Nat) (A1:Option ry) (c1:Nat) (A2:Option ry) (c2:Nat),k<=64/\i=.int .i64 k/\a=.slice A1 k c1/\b=.slice A2 k c2/\Hid (G2 L L.heap.size (.slice A1 k c1) k (oV f 54 k) (.slice A2 k c2) k (oV f 92 k) wr/\dh wr w.heap.size 142 (dZ 32 []))) (fun _ _ i _=>64-(intOf i).toNat)
    case atStart=>exact⟨0,none,0,none,0,x8 _,rfl,rfl,rfl,hide ⟨⟨GB.nil (Ext.refl _) (dE _) (dE _),GB.nil (Ext.refl _) (dE _) (dE _),fun g h=>by simp[Xr] at h⟩,(aA z).2.2⟩⟩
    case round =>
      obtain⟨k,A1,c1,A2,c2,hk,rfl,rfl,rfl,l⟩:=hrel;by_cases a3:k<64
      ·
        have W := hide (qU f 54 k);have V:=hide (qU f 92 k);have b5:=hide (fun b:UInt8=>Bi b 54);have b4:=hide (fun b:UInt8=>Bi b 92);have r:k<32->∃ b o,A0=some ⟨b,o,none⟩/\wr.cell? ⟨b,o+k,none⟩=some (.int .u8 ((f.getD k 0).toNat:Int)):=fun h=>by obtain⟨b,o,c,u,e,_,_,_,_,_⟩:=((aA z).1.ext (aA l).1.one.ext).DV h;cases e;exact⟨b,o,rfl,((aA z).1.ext (aA l).1.one.ext).byteAt (by first|exact h|(rw[aA Y];exact h))⟩
        have a7:=hide r;clear r
        go_upto_if 22 with fail
        go_cut [8] (fun s J=>∃ x:UInt8,s=.int .u8 (x.toNat:Int)/\Hid (x=f.getD k 0/\Ext wr J/\G2 L L.heap.size (.slice A1 k c1) k (oV f 54 k) (.slice A2 k c2) k (oV f 92 k) J/\dh J w.heap.size 142 (dZ 32 [])))
        case first=>
          by_cases G:k<32
          ·
            obtain⟨g,o,rfl,m⟩:=aA a7 G;have S:decide (k<32)=true:=decide_eq_true G;have Q:(k:Int)<32:=by omega
            have P:decide ((k:Int)<32)=true:=decide_eq_true Q;generalize hx:f.getD k 0=x at *;have B:=hide hx;clear hx
            go_wp2_with fail
            go_meet
            exact⟨x,rfl,hide ⟨rfl,Ext.refl _,(aA l).1,(aA l).2⟩⟩
          ·
            have S:decide (k<32)=false:=decide_eq_false G;have P:decide ((k:Int)<32)=false:=decide_eq_false a_;have B:=hide (show (0:UInt8)=f.getD k 0 from by rw[zG,GM (by first|omega|(rw[aA Y];omega))];rfl)
            go_wp2_with fail
            go_meet
            exact⟨0,rfl,hide ⟨aA B,Ext.refl _,(aA l).1,(aA l).2⟩⟩
        case rest=>
          obtain⟨x,rfl,B⟩:=hcut;obtain⟨J,rfl⟩:∃ J:ae,J=wc:=⟨_,rfl⟩;have b2:bits BinOp.xor uA (x.toNat:Int) 54=((x ^^^ 54).toNat:Int):=Bi x 54;have b1:bits BinOp.xor uA (x.toNat:Int) 92=((x ^^^ 92).toNat:Int):=Bi x 92;rw[<-(aA B).1] at W V
          go_wp2_with (first
            | (
             at_builtin;refine bQ (s:=.tmp 27) (x:=.tmp 30) rfl rfl fV rfl (bP (aA B).2.2.1.one.own ((Ext.refl _).alloc _)) rfl (Reads.uo _ _ _) (dO.one rfl) a_ (mr (aA B).2.2.1.one.room ay) ?_;intro A3 c3 w3 q m n;have d:=hide (az q (az m n));clear q m n
             have Z:=hide (az (G2.step (aA B).2.2.1 ((Ext.refl _).alloc _) (aA d).2.1 (aDt (aA d).1 (aA W)) (aA d).2.2) ((aA B).2.2.1.blk ((Ext.refl _).alloc _) (aA d).2.1 (aA B).2.2.2 (aA z).2.2.lt))
             clear d)
            | (
             at_builtin;refine bQ (s:=.tmp 32) (x:=.tmp 35) rfl rfl fV rfl (bP (aA Z).1.two.own ((Ext.refl _).alloc _)) rfl (Reads.uo _ _ _) (dO.one rfl) a_ (mr (aA Z).1.two.room ay) ?_;intro A4 c4 w4 q m n;have d:=hide (az q (az m n));clear q m n
             have H4:=hide (az (G2.step (aA Z).1.swap ((Ext.refl _).alloc _) (aA d).2.1 (aDt (aA d).1 (aA V)) (aA d).2.2) ((aA Z).1.swap.blk ((Ext.refl _).alloc _) (aA d).2.1 (aA Z).2 (aA z).2.2.lt))
             clear d))
          go_roundw
          case rel=>exact⟨k+1,A3,c3,A4,c4,a3,by go_num,rfl,rfl,hide ⟨(aA H4).1.swap,(aA H4).2⟩⟩
          case measure=>simp[intOf];omega
      ·
        obtain rfl:k=64:=by omega
        rw[tV,tV] at l;have a6:=hide (az (iD f 54) (iD f 92));obtain⟨N,F⟩:∃ p,oW f 54=p:=⟨_,rfl⟩;obtain⟨p2,E⟩:∃ p,oW f 92=p:=⟨_,rfl⟩;rw[F,E] at a6 l;have X:=hide (az F E);clear F E
        go_wp2_with (first
          | (
           at_builtin;refine bQ (s:=.tmp 37) (x:=.tmp 38) rfl rfl fV rfl (aA l).1.one.own rfl ((aA HB).ext ((aA z).2.1.trans (aA l).1.one.ext)) (dO.u8 b) a_ (aA l).1.one.room ?_;intro A5 c5 w5 q m n;have d:=hide (az q (az m n));clear q m n
           have H5:=hide (az (G2.step (aA l).1 (Ext.refl _) (aA d).2.1 (tY (aA d).1) (aA d).2.2) ((aA l).1.blk (Ext.refl _) (aA d).2.1 (aA l).2 (aA z).2.2.lt))
           clear d)
          |(have a5:=aA T;go_at_call 96;clear T a5;refine (xG (N++b) _ _ (aA H5).1.one.Aa (by rw[(aA H5).1.one.len];omega)).mono ?_;rintro e w6 ⟨rfl,I⟩;have H6:=hide (az ((aA H5).1.to I) ((aA H5).2.ext I));clear I)
          |(go_at_call 95;refine (aDs (sha (N++b)) _ (dA _)).mono ?_;rintro e w7 ⟨A7,c7,rfl,h7⟩;have K:=hide (az h7 (az ((aA H6).1.to h7.ext) ((aA H6).2.ext h7.ext)));clear h7)
          | (
           at_builtin;refine bQ (s:=.tmp 40) (x:=.tmp 43) rfl rfl fV rfl (aA K).2.1.two.own rfl (aA K).1.reads (dO.u8 _) a_ (aA K).2.1.two.room ?_;intro A8 c8 w8 q m n;have d:=hide (az q (az m n));clear q m n
           have H8:=hide (az (G2.step (aA K).2.1.swap (Ext.refl _) (aA d).2.1 (tY (aA d).1) (aA d).2.2) ((aA K).2.1.swap.blk (Ext.refl _) (aA d).2.1 (aA K).2.2 (aA z).2.2.lt))
           clear d))
        refine (xG (p2++sha (N++b)) _ _ (aA H8).1.one.Aa (by rw[(aA H8).1.one.len];omega)).mono ?_;rintro e w9 ⟨rfl,H⟩;have H9:=hide (az ((aA z).2.1.trans ((aA H8).1.one.ext.trans H)) ((aA H8).2.ext H));clear H;have U:=hide (dA (p2++sha (N++b)))
        go_wp2_with (refine aS (ty:=142) (t:=142) (x:=.tmp 4) (y:=.tmp 46) rfl rfl fE rfl rfl (aA H9).2 (lC ay) (by simpa using aA U) (dK _) ?_;intro b0 D C O;have a0:=hide (az D C);clear D C O)
        refine Y4 (v:=.agg ((sha (p2++sha (N++b))).map gq).toArray) (dR fE rfl (aA a0).1 (by simpa using aA U) rfl) rfl ⟨(by rw[<-(aA X).1,<-(aA X).2,aA b6]),?_⟩;exact (aA H9).1.trans' (aA a0).2 (fun _ _ h=>h) (fun i hi e=>by omega)
  ·
    have b3 : decide ((64:Int)<(j.length:Int))=false:=decide_eq_false a_;rw[if_neg a2]
    go_enter func70,ntmps70
    obtain⟨f,rfl⟩:∃ f,f=j:=⟨_,rfl⟩;obtain⟨A0,rfl⟩:∃ a,a=A:=⟨_,rfl⟩;have Y:=hide (show f.length=f.length from rfl)
    go_wp2
    have z:=hide (show Reads (w.alloc (.cells (yz 32 (.int .u8 0)) 142)) 1 (.slice A0 f.length c) f.length (f.map gq)/\Ext w (w.alloc (.cells (yz 32 (.int .u8 0)) 142))/\dh (w.alloc (.cells (yz 32 (.int .u8 0)) 142)) w.heap.size 142 (dZ 32 []) from
      ⟨(aA a9).ext ((Ext.refl w).alloc _),(Ext.refl w).alloc _,by rw[aHk];exact dh.new w _ _⟩)
    change Code.wp _ _ _ _ (w.alloc (.cells (yz 32 (.int .u8 0)) 142));generalize w.alloc (.cells (yz 32 (.int .u8 0)) 142)=L at *;have T:=hide True.intro
    go_loopw [5,6,7] (fun a b i wr=>∃ (k:Nat) (A1:Option ry) (c1:Nat) (A2:Option ry) (c2:Nat),k<=64/\i=.int .i64 k/\a=.slice A1 k c1/\b=.slice A2 k c2/\Hid (G2 L L.heap.size (.slice A1 k c1) k (oV f 54 k) (.slice A2 k c2) k (oV f 92 k) wr/\dh wr w.heap.size 142 (dZ 32 []))) (fun _ _ i _=>64-(intOf i).toNat)
    case atStart=>exact⟨0,none,0,none,0,x8 _,rfl,rfl,rfl,hide ⟨⟨GB.nil (Ext.refl _) (dE _) (dE _),GB.nil (Ext.refl _) (dE _) (dE _),fun g h=>by simp[Xr] at h⟩,(aA z).2.2⟩⟩
    case round =>
      obtain⟨k,A1,c1,A2,c2,hk,rfl,rfl,rfl,l⟩:=hrel;by_cases a3:k<64
      ·
        have W := hide (qU f 54 k);have V:=hide (qU f 92 k);have b5:=hide (fun b:UInt8=>Bi b 54);have b4:=hide (fun b:UInt8=>Bi b 92);have r:k<f.length->∃ b o,A0=some ⟨b,o,none⟩/\wr.cell? ⟨b,o+k,none⟩=some (.int .u8 ((f.getD k 0).toNat:Int)):=fun h=>by obtain⟨b,o,c,u,e,_,_,_,_,_⟩:=((aA z).1.ext (aA l).1.one.ext).DV h;cases e;exact⟨b,o,rfl,((aA z).1.ext (aA l).1.one.ext).byteAt (by first|exact h|(rw[aA Y];exact h))⟩
        have a7:=hide r;clear r
        go_upto_if 22 with fail
        go_cut [8] (fun s J=>∃ x:UInt8,s=.int .u8 (x.toNat:Int)/\Hid (x=f.getD k 0/\Ext wr J/\G2 L L.heap.size (.slice A1 k c1) k (oV f 54 k) (.slice A2 k c2) k (oV f 92 k) J/\dh J w.heap.size 142 (dZ 32 [])))
        case first=>
          by_cases G:k<f.length
          ·
            obtain⟨g,o,rfl,m⟩:=aA a7 G;have S:decide (k<f.length)=true:=decide_eq_true G;have Q:(k:Int)<(f.length:Int):=by omega
            have P:decide ((k:Int)<(f.length:Int))=true:=decide_eq_true Q;generalize hx:f.getD k 0=x at *;have B:=hide hx;clear hx
            go_wp2_with fail
            go_meet
            exact⟨x,rfl,hide ⟨rfl,Ext.refl _,(aA l).1,(aA l).2⟩⟩
          ·
            have S:decide (k<f.length)=false:=decide_eq_false G;have P:decide ((k:Int)<(f.length:Int))=false:=decide_eq_false a_;have B:=hide (show (0:UInt8)=f.getD k 0 from by rw[zG,GM (by first|omega|(rw[aA Y];omega))];rfl)
            go_wp2_with fail
            go_meet
            exact⟨0,rfl,hide ⟨aA B,Ext.refl _,(aA l).1,(aA l).2⟩⟩
        case rest=>
          obtain⟨x,rfl,B⟩:=hcut;obtain⟨J,rfl⟩:∃ J:ae,J=wc:=⟨_,rfl⟩;have b2:bits BinOp.xor uA (x.toNat:Int) 54=((x ^^^ 54).toNat:Int):=Bi x 54;have b1:bits BinOp.xor uA (x.toNat:Int) 92=((x ^^^ 92).toNat:Int):=Bi x 92;rw[<-(aA B).1] at W V
          go_wp2_with (first
            | (
             at_builtin;refine bQ (s:=.tmp 27) (x:=.tmp 30) rfl rfl fV rfl (bP (aA B).2.2.1.one.own ((Ext.refl _).alloc _)) rfl (Reads.uo _ _ _) (dO.one rfl) a_ (mr (aA B).2.2.1.one.room ay) ?_;intro A3 c3 w3 q m n;have d:=hide (az q (az m n));clear q m n
             have Z:=hide (az (G2.step (aA B).2.2.1 ((Ext.refl _).alloc _) (aA d).2.1 (aDt (aA d).1 (aA W)) (aA d).2.2) ((aA B).2.2.1.blk ((Ext.refl _).alloc _) (aA d).2.1 (aA B).2.2.2 (aA z).2.2.lt))
             clear d)
            | (
             at_builtin;refine bQ (s:=.tmp 32) (x:=.tmp 35) rfl rfl fV rfl (bP (aA Z).1.two.own ((Ext.refl _).alloc _)) rfl (Reads.uo _ _ _) (dO.one rfl) a_ (mr (aA Z).1.two.room ay) ?_;intro A4 c4 w4 q m n;have d:=hide (az q (az m n));clear q m n
             have H4:=hide (az (G2.step (aA Z).1.swap ((Ext.refl _).alloc _) (aA d).2.1 (aDt (aA d).1 (aA V)) (aA d).2.2) ((aA Z).1.swap.blk ((Ext.refl _).alloc _) (aA d).2.1 (aA Z).2 (aA z).2.2.lt))
             clear d))
          go_roundw
          case rel=>exact⟨k+1,A3,c3,A4,c4,a3,by go_num,rfl,rfl,hide ⟨(aA H4).1.swap,(aA H4).2⟩⟩
          case measure=>simp[intOf];omega
      ·
        obtain rfl:k=64:=by omega
        rw[tV,tV] at l;have a6:=hide (az (iD f 54) (iD f 92));obtain⟨N,F⟩:∃ p,oW f 54=p:=⟨_,rfl⟩;obtain⟨p2,E⟩:∃ p,oW f 92=p:=⟨_,rfl⟩;rw[F,E] at a6 l;have X:=hide (az F E);clear F E
        go_wp2_with (first
          | (
           at_builtin;refine bQ (s:=.tmp 37) (x:=.tmp 38) rfl rfl fV rfl (aA l).1.one.own rfl ((aA HB).ext ((aA z).2.1.trans (aA l).1.one.ext)) (dO.u8 b) a_ (aA l).1.one.room ?_;intro A5 c5 w5 q m n;have d:=hide (az q (az m n));clear q m n
           have H5:=hide (az (G2.step (aA l).1 (Ext.refl _) (aA d).2.1 (tY (aA d).1) (aA d).2.2) ((aA l).1.blk (Ext.refl _) (aA d).2.1 (aA l).2 (aA z).2.2.lt))
           clear d)
          |(have a5:=aA T;go_at_call 96;clear T a5;refine (xG (N++b) _ _ (aA H5).1.one.Aa (by rw[(aA H5).1.one.len];omega)).mono ?_;rintro e w6 ⟨rfl,I⟩;have H6:=hide (az ((aA H5).1.to I) ((aA H5).2.ext I));clear I)
          |(go_at_call 95;refine (aDs (sha (N++b)) _ (dA _)).mono ?_;rintro e w7 ⟨A7,c7,rfl,h7⟩;have K:=hide (az h7 (az ((aA H6).1.to h7.ext) ((aA H6).2.ext h7.ext)));clear h7)
          | (
           at_builtin;refine bQ (s:=.tmp 40) (x:=.tmp 43) rfl rfl fV rfl (aA K).2.1.two.own rfl (aA K).1.reads (dO.u8 _) a_ (aA K).2.1.two.room ?_;intro A8 c8 w8 q m n;have d:=hide (az q (az m n));clear q m n
           have H8:=hide (az (G2.step (aA K).2.1.swap (Ext.refl _) (aA d).2.1 (tY (aA d).1) (aA d).2.2) ((aA K).2.1.swap.blk (Ext.refl _) (aA d).2.1 (aA K).2.2 (aA z).2.2.lt))
           clear d))
        refine (xG (p2++sha (N++b)) _ _ (aA H8).1.one.Aa (by rw[(aA H8).1.one.len];omega)).mono ?_;rintro e w9 ⟨rfl,H⟩;have H9:=hide (az ((aA z).2.1.trans ((aA H8).1.one.ext.trans H)) ((aA H8).2.ext H));clear H;have U:=hide (dA (p2++sha (N++b)))
        go_wp2_with (refine aS (ty:=142) (t:=142) (x:=.tmp 4) (y:=.tmp 46) rfl rfl fE rfl rfl (aA H9).2 (lC ay) (by simpa using aA U) (dK _) ?_;intro b0 D C O;have a0:=hide (az D C);clear D C O)
        refine Y4 (v:=.agg ((sha (p2++sha (N++b))).map gq).toArray) (dR fE rfl (aA a0).1 (by simpa using aA U) rfl) rfl ⟨(by rw[(aA X).1,(aA X).2]),?_⟩;exact (aA H9).1.trans' (aA a0).2 (fun _ _ h=>h) (fun i hi e=>by omega)
theorem aLk(a b:List UInt8)(j n:ag)(w:ae)(o:Reads w 1 j a.length (a.map gq))(hb:Reads w 1 n b.length (b.map gq))(l:a.length<=1000000)(m:b.length<=1000000) :
  ik prog 40 #[j,n] w fun e u=>e=.returned (.agg ((Ei a b).map gq).toArray)/\Ext w u:=by
 have z:=hide (aPl a b j n _ (o.ext ((Ext.refl w).alloc (.cells (yz 16 (.int .u8 0)) 23))) (hb.ext ((Ext.refl w).alloc _)) l m);have q:=hide (mY a b);clear o hb
 go_enter func40,ntmps40
 go_wp2_with fail
 refine (aA z).mono ?_;rintro e C ⟨rfl,d⟩
 go_wp2_with fail
 refine (aIw (Ag a b) _ (jE _ _)).mono ?_;rintro e B ⟨rfl,c⟩;have p:=(dh.new w 23 (yz 16 (.int .u8 0))).ext (d.trans c);have r:=hide (az p (d.trans c));clear p d c;rw[show (Ag a b).take 16=Ei a b from rfl]
 go_wp2_with (refine aS (ty:=23) (t:=23) (x:=.tmp 4) (y:=.tmp 8) rfl rfl bG rfl rfl (aA r).1 ay ?_ (dK _) ?_;(focus (simpa using aA q));intro A g f k;have s:=hide (az g f);clear g f k)
 refine Y4 (v:=.agg ((Ei a b).map gq).toArray) (dR bG rfl (aA s).1 (by simpa using aA q) rfl) rfl ⟨rfl,?_⟩;exact (((Ext.refl w).alloc _).trans (aA r).2).trans' (aA s).2 (fun _ _ h=>h) (fun i D e=>by omega)
theorem WV(w:ae)(o:Obj)(x:UInt8):GB w (w.heap.size+1) (.slice (some ⟨w.heap.size+1,0,none⟩) 1 1) 1 [x] ((w.alloc o).alloc (.cells #[.int .u8 (x.toNat:Int)] 5)):=⟨aYb _ _ _ _ ay ay,((Ext.refl w).alloc _).alloc _,by omega,by simp⟩
theorem Lj(w:ae)(o:Obj):GB w (w.heap.size+1) (.slice (some ⟨w.heap.size+1,0,none⟩) 0 0) 0 [] ((w.alloc o).alloc (.cells #[] 5)):=⟨aJg _ _ _ _ ay ay,((Ext.refl w).alloc _).alloc _,by omega,by simp⟩
theorem aUe(f:Int)(a:List (List UInt8))(pv:ag)(w:ae)(U:Parts w pv a)(a4:a.length<=1000)(E:∀ p∈a,p.length<=10000) :
  ik prog 156 #[.int .i64 f,pv] w fun e w'=>e=.returned (.agg ((lQ f a).map gq).toArray)/\Ext w w':=by
 have HP:=hide U;have Y:=hide E;obtain⟨A1,c1,rfl⟩:∃ A c,pv=.slice A a.length c:=by obtain⟨vs,_,⟨_,A,c,h,_⟩,_⟩:=U;exact⟨A,c,h⟩
 clear U E;obtain⟨P,B⟩:∃ l,l=[yM f]:=⟨_,rfl⟩;have a0:=hide B
 have J:=hide (show GB w (w.heap.size+1) (.slice (some ⟨w.heap.size+1,0,none⟩) 1 1) 1 (P++encs (a.take 0)) ((w.alloc (.cells (dZ 16 []) 23)).alloc (.cells #[.int .u8 (f % 256)] 5))/\dh ((w.alloc (.cells (dZ 16 []) 23)).alloc (.cells #[.int .u8 (f % 256)] 5)) w.heap.size 23 (dZ 16 []) from by
  rw[B,aXb,aDE,show encs []=[] from rfl,Pi]
  exact⟨WV _ _ _,(dh.new _ _ _).alloc _⟩)
 clear B
 go_enter func156,ntmps156
 go_wp2
 go_loopw [5,6] (fun b i wr=>∃ (k n:Nat) (A:Option ry) (c:Nat),k<=a.length/\i=.int .i64 k/\b=.slice A n c/\n<=90000+k*10010/\Hid (GB w (w.heap.size+1) (.slice A n c) n (P++encs (a.take k)) wr/\dh wr w.heap.size 23 (dZ 16 []))) (fun _ i _=>a.length-(intOf i).toNat)
 case atStart=>exact⟨0,_,_,_,x8 _,rfl,rfl,by omega,J⟩
 case round=>
  clear J;obtain⟨k,n,A,c,hk,rfl,rfl,hn,d⟩:=hrel;by_cases g:k<a.length
  ·have T:Parts wr (.slice A1 a.length c1) a:=(aA HP).ext (aA d).1.ext;obtain⟨vs,q1,q2,q3⟩:=T;obtain⟨u,q4,N⟩:=q3 k a[k] (zH g);obtain⟨b,o,c',u',Q,_,_,hb,hu,a6⟩:=q2.DV g;cases Q;rw[q4] at hu;cases hu;obtain⟨Au,cu,rfl⟩:∃ A c,u=.slice A a[k].length c:=by obtain⟨_,A,c,h,_⟩:=N;exact⟨A,c,h⟩
   have a5:=aA Y a[k] (YV g);have X:=hide N;have HE:=hide (aGz a k g);clear q1 q2 q3 q4 N;have a3:=fD a[k];generalize a[k]=p at *;have HW:=hide (fun w=>rY (strOf p) w (by rw[bJ];omega));rw[bV] at HW
   go_wp2_with (first
    |(refine qN (src:=74) (dst:=9) (x:=.tmp 20) (l:=p) rfl rfl underlying74 underlying5 underlying9 rfl (aA X) ?_)
    |(go_at_call 39;refine (aA HW _).mono ?_;rintro e w3 ⟨A3,c3,rfl,F,H⟩;have K:=hide (az F H);clear F H)
    |(at_builtin;refine bQ rfl rfl fV rfl (bP (aA d).1.own (aA K).2) rfl (Reads.lw (aA K).1) (dO.u8 _) a_ (mr (aA d).1.room (aA K).2.size') ?_;intro A' c4 w4 ho hc Q;have H4:=hide (az ho hc);clear ho hc Q))
   go_roundw
   case rel=>refine⟨k+1,n+(bI p).length,A',c4,by omega,by go_num,rfl,by rw[aCR];omega,hide ⟨?_,(aA d).1.blk (aA K).2 (aA H4).2 (aA d).2 (aBy _)⟩⟩;rw[aA HE,<-yl];exact (aA d).1.step (aA K).2 (aA H4).2 (tY (aA H4).1)
   case measure=>simp[intOf];omega
  ·obtain rfl:k=a.length:=by omega
   clear g hk;rw[aAe] at d;obtain⟨O,z⟩:∃ l,P++encs a=l:=⟨_,rfl⟩;rw[z] at d;have Z:=hide z;clear z;have V:n<=100000000:=by omega
   go_wp2_with fail
   refine (xG O _ _ (aA d).1.Aa (by rw[(aA d).1.len];exact V)).mono ?_;rintro e w8 ⟨rfl,G⟩;have a1:=hide G;clear G
   go_wp2_with fail
   refine (aIw (sha O) _ (dA _)).mono ?_;rintro e w9 ⟨rfl,s⟩;have C:=(aA a1).trans s;clear s;obtain⟨rr,j⟩:∃ r,(sha O).take 16=r:=⟨_,rfl⟩;have S:rr.length=16:=by rw[<-j,uk,dA];rfl
   rw[j];have W:=hide j;clear j;have I:=hide S;have H9:=hide (az ((aA d).1.ext.trans C) ((aA d).2.ext C));clear C
   go_wp2_with (refine aS (ty:=23) (t:=23) (x:=.tmp 4) (y:=.tmp 26) rfl rfl bG rfl rfl (aA H9).2 (lC ay) (by simpa using aA I) (dK _) ?_;intro a2 q m D;have L:=hide (az q m);clear q m D)
   refine Y4 (dR bG rfl (aA L).1 (by simpa using aA I) rfl) rfl ⟨(by unfold lQ;rw[<-aA a0,aA Z,aA W]),?_⟩;exact (aA H9).1.trans' (aA L).2 (fun _ _ h=>h) (fun i hi e=>by omega)
theorem yR(f:List UInt8)(kv:ag)(a:ByteArray)(d:List (List UInt8))(pv:ag)(w:ae)(U:Reads w 1 kv f.length (f.map gq))(a9:f.length<=10000)(m:a.size<=10000)(Z:Parts w pv d)(a7:d.length<=90)(H:∀ p∈d,p.length<=10000) :
  ik prog 22 #[kv,.string a,pv] w fun e w'=>e=.returned (.agg ((lS f a.data.toList d).map gq).toArray)/\Ext w w':=by
 have HP:=hide Z;have a2:=hide H;have HK:=hide U;obtain⟨A1,c1,rfl⟩:∃ A c,pv=.slice A d.length c:=by obtain⟨vs,_,⟨_,A,c,h,_⟩,_⟩:=Z;exact⟨A,c,h⟩
 clear Z H U;have L:(bI a.data.toList).length<=10+a.size:=fD a.data.toList;have P:=hide (fun w=>rY a w a_);obtain⟨q,z⟩:∃ l,bI a.data.toList=l:=⟨_,rfl⟩;rw[z] at P L;have a4:=hide z;clear z
 go_enter func22,ntmps22
 go_wp2_with fail
 refine (aA P _).mono ?_;rintro e W ⟨A0,c0,rfl,J,C⟩
 have E:=hide (show GB w (w.heap.size+1) (.slice (some ⟨w.heap.size+1,0,none⟩) 0 0) 0 [] W/\dh W w.heap.size 23 (dZ 16 [])/\Reads W 1 (.slice A0 q.length c0) q.length (q.map gq) from
  ⟨(Lj w _).to C,((dh.new w _ _).alloc _).ext C,Reads.lw J⟩)
 clear J C
 go_wp2_with (at_builtin;refine bQ rfl rfl fV rfl (aA E).1.own rfl (aA E).2.2 (dO.u8 _) a_ (aA E).1.room ?_;intro A2 c2 w2 K N G;have V:=hide (az K N);clear K N G)
 have D:=hide (show GB w (w.heap.size+1) (.slice A2 (0+q.length) c2) (0+q.length) (q++encs (d.take 0)) w2/\dh w2 w.heap.size 23 (dZ 16 []) from
  ⟨by rw[aDE,show encs []=[] from rfl,Pi];exact (aA E).1.step (Ext.refl _) (aA V).2 (aA V).1,(aA E).1.blk (Ext.refl _) (aA V).2 (aA E).2.1 (aBy _)⟩)
 rw[lL] at D;clear E V
 go_loopw [7,8] (fun b i wr=>∃ (k n:Nat) (A:Option ry) (c:Nat),k<=d.length/\i=.int .i64 k/\b=.slice A n c/\n<=90000+k*10010/\Hid (GB w (w.heap.size+1) (.slice A n c) n (q++encs (d.take k)) wr/\dh wr w.heap.size 23 (dZ 16 []))) (fun _ i _=>d.length-(intOf i).toNat)
 case atStart=>exact⟨0,_,_,_,x8 _,rfl,rfl,by omega,D⟩
 case round=>
  clear D;obtain⟨k,n,A,c,U,rfl,rfl,hn,g⟩:=hrel;by_cases j:k<d.length
  ·have Y:Parts wr (.slice A1 d.length c1) d:=(aA HP).ext (aA g).1.ext;obtain⟨vs,q1,q2,q3⟩:=Y;obtain⟨u,q4,X⟩:=q3 k d[k] (zH j);obtain⟨b,o,c',u',G,_,_,hb,hu,b0⟩:=q2.DV j;cases G;rw[q4] at hu;cases hu;obtain⟨Au,cu,rfl⟩:∃ A c,u=.slice A d[k].length c:=by obtain⟨_,A,c,h,_⟩:=X;exact⟨A,c,h⟩
   have a8:=aA a2 d[k] (YV j);have a1:=hide X;have HE:=hide (aGz d k j);clear q1 q2 q3 q4 X;have a6:=fD d[k];generalize d[k]=p at *;have HW:=hide (fun w=>rY (strOf p) w (by rw[bJ];omega));rw[bV] at HW
   go_wp2_with (first
    |(refine qN (src:=74) (dst:=9) (x:=.tmp 23) (l:=p) rfl rfl underlying74 underlying5 underlying9 rfl (aA a1) ?_)
    |(go_at_call 39;refine (aA HW _).mono ?_;rintro e w3 ⟨A3,c3,rfl,I,O⟩;have S:=hide (az I O);clear I O)
    |(at_builtin;refine bQ rfl rfl fV rfl (bP (aA g).1.own (aA S).2) rfl (Reads.lw (aA S).1) (dO.u8 _) a_ (mr (aA g).1.room (aA S).2.size') ?_;intro A' c4 w4 K N G;have H4:=hide (az K N);clear K N G))
   go_roundw
   case rel=>refine⟨k+1,n+(bI p).length,A',c4,by omega,by go_num,rfl,by rw[aCR];omega,hide ⟨?_,(aA g).1.blk (aA S).2 (aA H4).2 (aA g).2 (aBy _)⟩⟩;rw[aA HE,<-yl];exact (aA g).1.step (aA S).2 (aA H4).2 (tY (aA H4).1)
   case measure=>simp[intOf];omega
  ·obtain rfl:k=d.length:=by omega
   clear j U;rw[aAe] at g;obtain⟨ll,m⟩:∃ l,q++encs d=l:=⟨_,rfl⟩;rw[m] at g;have a3:=hide m;clear m;have a0:n<=1000000:=by omega
   go_wp2_with fail
   refine (aLk f ll _ _ _ ((aA HK).ext (aA g).1.ext) (aA g).1.Aa a_ (by rw[(aA g).1.len];exact a0)).mono ?_;rintro e w9 ⟨rfl,B⟩;have Q:=hide (mY f ll);have H9:=hide (az ((aA g).1.ext.trans B) ((aA g).2.ext B));clear B
   go_wp2_with (refine aS (ty:=23) (t:=23) (x:=.tmp 6) (y:=.tmp 29) rfl rfl bG rfl rfl (aA H9).2 (lC ay) (by simpa using aA Q) (dK _) ?_;intro a5 s r F;have T:=hide (az s r);clear s r F)
   refine Y4 (dR bG rfl (aA T).1 (by simpa using aA Q) rfl) rfl ⟨(by unfold lS;rw[aA a4,aA a3]),?_⟩;exact (aA H9).1.trans' (aA T).2 (fun _ _ h=>h) (fun i hi e=>by omega)
theorem aAo{w:ae}{g:Nat}{t:bu}{a:List UInt8}{arr:Array ag}(h:dh w g t arr)(d:(a.map gq).toArray=arr)(b:a.length=16):Reads w 1 (.slice (some ⟨g,0,none⟩) 16 16) a.length (a.map gq):=by
 have e:arr.size=16:=by rw[<-d];simpa using b
 have:=Reads.uy h (i:=0) (n:=16) (c:=16) a_ a_ (by unfold maxLen;omega);rw[<-d] at this;simp only[List.drop_zero] at this;rw[IR (by rw[Xt];omega)] at this;rw[b];exact this
theorem aXl(f:List UInt8)(a:Int)(c:ByteArray)(w:ae)(hk:f.length=16)(h1:-9223372036854775808<=a)(h2:a<9223372036854775808)(hc:c.size<=100000) :
  ik prog 37 #[.agg (f.map gq).toArray,.int .i64 a,.string c] w fun e w'=>e=.returned (.agg ((qc f a c.data.toList).map gq).toArray)/\Ext w w':=by
 obtain⟨a1,g⟩:∃ r,(f.map gq).toArray=r:=⟨_,rfl⟩;obtain⟨I,j⟩:∃ d,lS f aGl.data.toList []=d:=⟨_,rfl⟩;obtain⟨k,b⟩:∃ d,qc f a c.data.toList=d:=⟨_,rfl⟩;have B:I.length=16:=by rw[<-j];exact fH _ _ _
 have Q:k.length=16:=by rw[<-b];exact fZ _ _ _
 have T:=hide (fun w=>aAm a w h1 h2);have S:=hide (fun w=>rY c w a_);have a0:=aP a;have m:(bI c.data.toList).length<=10+c.size:=fD c.data.toList;have HR:=hide b;have HD:=hide j;have HA:=hide g;have U:=hide (show ((I.map gq).toArray).size=16/\((k.map gq).toArray).size=16 from⟨by simpa using B,by simpa using Q⟩);have V:=hide (show Ei I (b_ a++bI c.data.toList)=k from by rw[<-b,<-j];rfl);rw[g,b];clear g j b;generalize b_ a=q at *;generalize bI c.data.toList=Y at *
 go_enter func37,ntmps37
 go_wp2_with fail
 refine (yR f _ aGl [] _ _ (aAo ((dh.new w _ _).alloc _) (aA HA) hk) a_ jc (Parts.nil _) ay (fun p hp=>by cases hp)).mono ?_;rintro e L ⟨rfl,o⟩;rw[aA HD];have H1:=hide (show Ext w L/\dh L (w.heap.size+1) 23 (dZ 16 []) from⟨(((Ext.refl w).alloc _).alloc _).trans o,(dh.new' _ _ _ ay).ext o⟩);clear o
 go_wp2_with (first
  |(refine aS (ty:=23) (t:=23) (x:=.tmp 7) (y:=.tmp 10) rfl rfl bG rfl rfl (dh.new L _ _) rfl (aA U).1 (dK _) ?_;intro H m l O;have W:=hide (az (aMf (aA H1).1 l) (az ((aA H1).2.ext (aGe l)) m));clear m l O)
  |(go_at_call 24;refine (aA T _).mono ?_;rintro e X ⟨A3,c3,rfl,z,F⟩;have K:=hide (show GB H H.heap.size (.slice (some ⟨H.heap.size,0,none⟩) 0 0) 0 [] X/\Reads X 1 (.slice A3 q.length c3) q.length (q.map gq) from az (GB.to ⟨aAs _ _ _ _ (dE _),(Ext.refl H).alloc _,dE _,by simp⟩ F) (Reads.lw z));clear z F)
  |(at_builtin;refine bQ (s:=.tmp 11) (x:=.tmp 13) rfl rfl fV rfl (aA K).1.own rfl (aA K).2 (dO.u8 _) a_ (aA K).1.room ?_;intro A4 c4 w4 A hc P;have H4:=hide (GB.step (l':=[]++q) (aA K).1 (Ext.refl _) hc (tY A));rw[lL,WF] at H4;clear A hc P)
  |(go_at_call 39;refine (aA S _).mono ?_;rintro e w5 ⟨A5,c5,rfl,u,E⟩;have J:=hide (az ((aA H4).to E) (Reads.lw u));clear u E)
  |(at_builtin;refine bQ (s:=.tmp 14) (x:=.tmp 16) rfl rfl fV rfl (aA J).1.own rfl (aA J).2 (dO.u8 _) a_ (aA J).1.room ?_;intro A6 c6 w6 A hc P;have G:=hide (GB.step (l':=q++Y) (aA J).1 (Ext.refl _) hc (tY A));clear A hc P))
 refine (aLk I (q++Y) _ _ _ (aAo ((aA W).2.2.ext (aA G).ext) rfl B) (aA G).Aa a_ (by rw[(aA G).len];omega)).mono ?_;rintro e w7 ⟨rfl,n⟩;rw[aA V];have H7:=hide (az ((aA W).1.trans ((aA G).ext.trans n)) ((aA W).2.1.ext ((aA G).ext.trans n)));clear n
 go_wp2_with (refine aS (ty:=23) (t:=23) (x:=.tmp 6) (y:=.tmp 20) rfl rfl bG rfl rfl (aA H7).2 (lC ay) (aA U).2 (dK _) ?_;intro w8 D C N;have Z:=hide (az D C);clear D C N)
 refine Y4 (dR bG rfl (aA Z).1 (aA U).2 rfl) rfl ⟨rfl,?_⟩;exact (aA H7).1.trans' (aA Z).2 (fun _ _ h=>h) (fun i hi e=>by omega)
theorem Reads.GG{w:ae}{B:Nat}{e:bu}{A:Option ry}{m c N:Nat}{l:List UInt8}(h:w.ownsRow B e 1 (.slice A m c) m (l.map gq))(p:N<=m):Reads w 1 (.slice A N c) N ((l.take N).map gq):=by obtain⟨i,t,s,n,q,g,f⟩:=Reads.lw h;cases n;rw[Xt] at i;refine⟨by rw[Xt,uk];omega,A,c,rfl,by omega,g,fun r=>?_⟩;obtain⟨b,o,k,d⟩:=f a_;refine⟨b,o,k,fun j u a=>d j u ?_⟩;rw[aDN,xe] at a;split at a;exact a;cases a
theorem aTq(a:List UInt8)(r:ag)(N:Nat)(w:ae)(y:Reads w 1 r a.length (a.map gq))(D:a.length<=10000)(W:N<=100000) :
  ik prog 68 #[r,.int .i64 (N:Int)] w fun e q=>∃ A c,e=.returned (.slice A N c)/\Reads q 1 (.slice A N c) N ((tC a N).map gq)/\Ext w q:=by
 have L:=hide y;clear y
 go_enter func68,ntmps68
 go_wp2
 go_loopw [5,6] (fun b i wr=>∃ (k:Nat) (A:Option ry) (c:Nat),32*k<N+32/\i=.int .i64 k/\b=.slice A (32*k) c/\Hid (GB w w.heap.size (.slice A (32*k) c) (32*k) (iU a k) wr)) (fun b _ _=>match b with|.slice _ m _=>N-m|_=>0)
 case atStart=>exact⟨0,none,0,by omega,rfl,rfl,hide (GB.nil (Ext.refl _) (dE _) (dE _))⟩
 case round=>
  obtain⟨k,A,c,E,rfl,rfl,d⟩:=hrel;by_cases h:32*k<N
  ·have G:decide (32*k<N)=true:=decide_eq_true h;have J:=hide (lX a k);have K:=hide (fun w=>aAm (k:Int) w a_ a_);have B:=aP (k:Int);generalize b_ (k:Int)=t at *
   go_wp2_with (first
    |(go_at_call 24;refine (aA K _).mono ?_;rintro e V ⟨A1,Z,rfl,g,l⟩;have p:=hide (az (Reads.lw g) l);clear g l)
    |(go_at_call 70;refine (aPl a t _ _ _ ((aA L).ext ((aA d).ext.trans (aA p).2)) (aA p).1 a_ a_).mono ?_;rintro e U ⟨rfl,j⟩;have O:=hide ((aA p).2.trans j);clear j)
    |(go_at_call 95;refine (aDs (Ag a t) _ (jE _ _)).mono ?_;rintro e T ⟨A3,Y,rfl,f⟩;have n:=hide (az f ((aA O).trans f.ext));clear f)
    |(at_builtin;refine bQ (s:=.tmp 13) (x:=.tmp 18) rfl rfl fV rfl (bP (aA d).own (aA n).2) rfl (aA n).1.reads (dO.u8 _) a_ (mr (aA d).room (aA n).2.size') ?_;intro P H S u o C;have z:=hide (az u o);clear u o C))
   go_roundw
   case rel=>refine⟨k+1,P,H,by omega,by go_num,rfl,hide ?_⟩;rw[aA J];exact (aA d).step (aA n).2 (aA z).2 (tY (aA z).1)
   case measure=>simp;omega
  ·have G:decide (32*k<N)=false:=decide_eq_false h;have o:N<=c:=by obtain⟨_,Q,I,e,X,_⟩:=(aA d).reads;cases e;omega
   have F:c<=9223372036854775807:=by obtain⟨_,Q,I,e,_,f,_⟩:=(aA d).reads;cases e;unfold maxLen at f;exact f
   go_wp2
   go_ret;refine⟨_,_,rfl,?_,(aA d).ext⟩
   have:=Reads.GG (aA d).own (N:=N) a_;rwa [aIr a N k a_] at this
end Go.Proofs.YtndpjopifkbgiaaGreatDoor
