/-.-/
import Derived.Test.YtndpjopifkbgiaaGreatDoorMsA
import Derived.Test.YtndpjopifkbgiaaGreatDoorMsC
import Derived.StillTailTactics
import Derived.BigRegion
import Derived.Test.YtndpjopifkbgiaaGreatDoorMsB
import Derived.Deep.DeepCutAuto
set_option maxRecDepth 100000
set_option maxHeartbeats 4000000
namespace Go.Proofs.YtndpjopifkbgiaaGreatDoor
open Go.RowKit
theorem Reads.at_{w:World}{b o n c:Nat}{xs:List Value}(h:Reads w 1 (.slice (some ⟨b,o,none⟩) n c) n xs){j:Nat}{u:Value}(hj:xs[j]?=some u):w.cell? ⟨b,o+j,none⟩=some u:=by
 obtain⟨hl,A,c',e,_,_,hc⟩:=h
 have hjl:j<xs.length:=by
  rcases Nat.lt_or_ge j xs.length with h|h
  ·exact h
  ·rw[List.getElem?_eq_none h] at hj;cases hj
 obtain⟨b',o',e',hcc⟩:=hc (by omega);cases e
 cases e'
 exact hcc j u hj
theorem Reads.byteAt{w:World}{b o n c:Nat}{l:List UInt8}(h:Reads w 1 (.slice (some ⟨b,o,none⟩) n c) n (l.map gq)){j:Nat}(hj:j<l.length):w.cell? ⟨b,o+j,none⟩=some (.int .u8 ((l.getD j 0).toNat:Int)):=
 h.at_ (by rw[List.getElem?_map,zG,zH hj];rfl)
theorem Reads.wordAt{w:World}{b o n c:Nat}{l:List UInt32}(h:Reads w 1 (.slice (some ⟨b,o,none⟩) n c) n (l.map w32)){j:Nat}(hj:j<l.length):w.cell? ⟨b,o+j,none⟩=some (.int .u32 ((l.getD j 0).toNat:Int)):=
 h.at_ (by rw[List.getElem?_map,zG,zH hj];rfl)
structure GB(w0:World)(B:Nat)(v:Value)(n:Nat)(l:List UInt8)(wr:World):Prop where
 own:wr.ownsRow B 5 1 v n (l.map gq)
 ext:Ext w0 wr
 base:w0.heap.size<=B
 room:B<=wr.heap.size
theorem GB.nil{w0 wr:World}{B:Nat}(hE:Ext w0 wr)(hB:w0.heap.size<=B)(hR:B<=wr.heap.size):GB w0 B (.slice none 0 0) 0 [] wr:=⟨World.ownsRow_nil _ _ _ _,hE,hB,hR⟩
theorem GB.len{w0 wr:World}{B n:Nat}{v:Value}{l:List UInt8}(h:GB w0 B v n l wr):l.length=n:=by have:=h.own.1;simpa using this
theorem GB.to{w0 wr w1:World}{B n:Nat}{v:Value}{l:List UInt8}(h:GB w0 B v n l wr)(hE:Ext wr w1):GB w0 B v n l w1:=⟨bQ h.own hE,h.ext.trans hE,h.base,Nat.le_trans h.room hE.size'⟩
theorem GB.step{w0 wr w1 w2:World}{B n n':Nat}{v v':Value}{l l':List UInt8}(h:GB w0 B v n l wr)(hE:Ext wr w1)(hc:dm (fun k=>v.ownBlock=some k) w1 w2)(ho:w2.ownsRow B 5 1 v' n' (l'.map gq)):GB w0 B v' n' l' w2:=
 ⟨ho,(h.ext.trans hE).trans' hc (fun _ _ h=>h) (fun i hi e=>by have:=(h.own.lt i e).1;have:=h.base;omega),h.base,Nat.le_trans h.room (Nat.le_trans hE.size' hc.size)⟩
theorem GB.blk{w0 wr w1 w2:World}{B n:Nat}{v:Value}{l:List UInt8}(h:GB w0 B v n l wr)(hE:Ext wr w1)(hc:dm (fun k=>v.ownBlock=some k) w1 w2){g:Nat}{t:TypeId}{cs:Array Value}(hb:au wr g t cs)(hg:g<B):au w2 g t cs:=
 (hb.ext hE).gu hc (fun e=>by have:=(h.own.lt g e).1;omega)
theorem GB.reads{w0 wr:World}{B n:Nat}{v:Value}{l:List UInt8}(h:GB w0 B v n l wr):Reads wr 1 v n (l.map gq):=Reads.l9 h.own
def dQ(n:Nat)(l:List UInt8):Array Value:=(l.map gq++List.replicate (n-l.length) (Value.int .u8 0)).toArray
theorem pU{n:Nat}{l:List UInt8}{i:Nat}(h:l.length<=i)(hi:i<n):(dQ n l)[i]?=some (.int .u8 0):=by
 unfold dQ;rw[List.getElem?_toArray,List.getElem?_append_right (by simpa using h),List.getElem?_replicate,if_pos (by simp;omega)]
theorem yD{n k:Nat}{l:List UInt8}(x:UInt8)(hl:l.length=k)(h:k<n):(dQ n l).setIfInBounds k (.int .u8 (x.toNat:Int))=dQ n (l++[x]):=by
 subst hl;unfold dQ;rw[show n-l.length=(n-(l++[x]).length)+1 from by simp;omega,List.replicate_succ];simp[gq]
theorem aGj(n:Nat):dQ n []=Array.replicate n (Value.int .u8 0):=by
 unfold dQ;simp
theorem kJ{n:Nat}{l:List UInt8}(h:l.length<=n):(dQ n l).size=n:=by
 unfold dQ;simp;omega
theorem yE{n:Nat}{l:List UInt8}(h:l.length=n):dQ n l=(l.map gq).toArray:=by
 unfold dQ;rw[h,Nat.sub_self];simp
def aHG(w:World)(bs:List UInt8)(k:Nat)(wr:World):Prop:=
 au wr w.heap.size 203 (fM 64 (bY bs k))/\Ext w wr
theorem be4(bs:List UInt8)(k:Nat)(h:4*k+3<bs.length):lY ((bs.drop (4*k)).take 4)=((((bs.getD (4*k) 0).toUInt32 <<< 24) ||| ((bs.getD (4*k+1) 0).toUInt32 <<< 16)) ||| ((bs.getD (4*k+2) 0).toUInt32 <<< 8)) ||| (bs.getD (4*k+3) 0).toUInt32:=by
 have e:(bs.drop (4*k)).take 4=[bs.getD (4*k) 0,bs.getD (4*k+1) 0,bs.getD (4*k+2) 0,bs.getD (4*k+3) 0]:=by
  apply List.ext_getElem?;intro i;rw[List.getElem?_take,List.getElem?_drop]
  match i with
  |0=>simp;rw[zH (by omega)];rfl
  |1=>simp;rw[zH (by omega)];rfl
  |2=>simp;rw[zH (by omega)];rfl
  |3=>simp;rw[zH (by omega)];rfl
  |i+4=>simp;omega
 rw[e];generalize bs.getD (4*k) 0=a;generalize bs.getD (4*k+1) 0=b;generalize bs.getD (4*k+2) 0=c;generalize bs.getD (4*k+3) 0=d;unfold lY;simp only[List.foldl_cons,List.foldl_nil];apply UInt32.eq_of_toBitVec_eq;simp
 have e1:∀ x:BitVec 32,(x <<< 8) <<< 8=x <<< 16:=fun x=>by rw[<-BitVec.shiftLeft_add]
 have e2:∀ x:BitVec 32,(x <<< 16) <<< 8=x <<< 24:=fun x=>by rw[<-BitVec.shiftLeft_add]
 simp only[BitVec.shiftLeft_or_distrib,e1,e2]
theorem aMW(y:UInt8):(y.toNat:Int) % 4294967296=(y.toNat:Int):=by have:=y.toNat_lt;omega
theorem aHz(bs:List UInt8)(j:Nat):bY bs (j+16+1)=bY bs (j+16)++[(bY bs (j+16)).getD j 0+((dZ ((bY bs (j+16)).getD (j+1) 0) 7 ^^^ dZ ((bY bs (j+16)).getD (j+1) 0) 18) ^^^ ((bY bs (j+16)).getD (j+1) 0 >>> 3))+(bY bs (j+16)).getD (j+9) 0 +
  ((dZ ((bY bs (j+16)).getD (j+14) 0) 17 ^^^ dZ ((bY bs (j+16)).getD (j+14) 0) 19) ^^^ ((bY bs (j+16)).getD (j+14) 0 >>> 10))]:=by
 rw[bY,if_neg (by omega)];unfold uK;simp only[dO,show j+16-15=j+1 from by omega,show j+16-2=j+14 from by omega,show j+16-16=j from by omega,show j+16-7=j+9 from by omega]
theorem aBT(x:UInt32)(w:World):Calls Tryz.prog 164 #[.int .u32 (x.toNat:Int),.int .i64 6] w fun e w'=>e=.returned (.int .u32 ((dZ x 6).toNat:Int))/\∃ k,w'=w.drewN k:=qN x 6 _ rfl w (by omega) (by omega)
theorem V7(x:UInt32)(w:World):Calls Tryz.prog 164 #[.int .u32 (x.toNat:Int),.int .i64 11] w fun e w'=>e=.returned (.int .u32 ((dZ x 11).toNat:Int))/\∃ k,w'=w.drewN k:=qN x 11 _ rfl w (by omega) (by omega)
theorem Uy(x:UInt32)(w:World):Calls Tryz.prog 164 #[.int .u32 (x.toNat:Int),.int .i64 25] w fun e w'=>e=.returned (.int .u32 ((dZ x 25).toNat:Int))/\∃ k,w'=w.drewN k:=qN x 25 _ rfl w (by omega) (by omega)
theorem aBU(x:UInt32)(w:World):Calls Tryz.prog 164 #[.int .u32 (x.toNat:Int),.int .i64 2] w fun e w'=>e=.returned (.int .u32 ((dZ x 2).toNat:Int))/\∃ k,w'=w.drewN k:=qN x 2 _ rfl w (by omega) (by omega)
theorem V6(x:UInt32)(w:World):Calls Tryz.prog 164 #[.int .u32 (x.toNat:Int),.int .i64 13] w fun e w'=>e=.returned (.int .u32 ((dZ x 13).toNat:Int))/\∃ k,w'=w.drewN k:=qN x 13 _ rfl w (by omega) (by omega)
theorem Uz(x:UInt32)(w:World):Calls Tryz.prog 164 #[.int .u32 (x.toNat:Int),.int .i64 22] w fun e w'=>e=.returned (.int .u32 ((dZ x 22).toNat:Int))/\∃ k,w'=w.drewN k:=qN x 22 _ rfl w (by omega) (by omega)
theorem aBS(x:UInt32)(w:World):Calls Tryz.prog 164 #[.int .u32 (x.toNat:Int),.int .i64 7] w fun e w'=>e=.returned (.int .u32 ((dZ x 7).toNat:Int))/\∃ k,w'=w.drewN k:=qN x 7 _ rfl w (by omega) (by omega)
theorem V4(x:UInt32)(w:World):Calls Tryz.prog 164 #[.int .u32 (x.toNat:Int),.int .i64 18] w fun e w'=>e=.returned (.int .u32 ((dZ x 18).toNat:Int))/\∃ k,w'=w.drewN k:=qN x 18 _ rfl w (by omega) (by omega)
theorem V5(x:UInt32)(w:World):Calls Tryz.prog 164 #[.int .u32 (x.toNat:Int),.int .i64 17] w fun e w'=>e=.returned (.int .u32 ((dZ x 17).toNat:Int))/\∃ k,w'=w.drewN k:=qN x 17 _ rfl w (by omega) (by omega)
theorem V3(x:UInt32)(w:World):Calls Tryz.prog 164 #[.int .u32 (x.toNat:Int),.int .i64 19] w fun e w'=>e=.returned (.int .u32 ((dZ x 19).toNat:Int))/\∃ k,w'=w.drewN k:=qN x 19 _ rfl w (by omega) (by omega)
theorem bBu(x r s:UInt32)(n:Nat)(d:Int)(hd:d=2 ^ n)(hn:n<32):bits BinOp.xor IntKind.u32 (bits BinOp.xor IntKind.u32 (r.toNat:Int) (s.toNat:Int)) ((x.toNat:Int) / d)=(((r ^^^ s) ^^^ (x >>> UInt32.ofNat n)).toNat:Int):=by
 rw[hd,bBv x n hn,wL,wL]
theorem add4(a b c d:UInt32):((a.toNat:Int)+(b.toNat:Int)+(c.toNat:Int)+(d.toNat:Int)) % 4294967296=((a+b+c+d).toNat:Int):=by
 rw[UInt32.toNat_add,UInt32.toNat_add,UInt32.toNat_add];omega
theorem Uu(x7 x4 x5 x6 xk xw r1 r2 r3:UInt32):((x7.toNat:Int)+bits BinOp.xor IntKind.u32 (bits BinOp.xor IntKind.u32 (r1.toNat:Int) (r2.toNat:Int)) (r3.toNat:Int)+bits BinOp.xor IntKind.u32 (bits BinOp.and IntKind.u32 (x4.toNat:Int) (x5.toNat:Int)) (bits BinOp.and IntKind.u32 (bits BinOp.xor IntKind.u32 4294967295 (x4.toNat:Int)) (x6.toNat:Int))+(xk.toNat:Int)+(xw.toNat:Int)) % 4294967296 =
  ((x7+(r1 ^^^ r2 ^^^ r3)+((x4 &&& x5) ^^^ (~~~x4 &&& x6))+xk+xw).toNat:Int):=by
 rw[show (4294967295:Int)=IntKind.u32.max from rfl,U_,Oh,Oh,wL,wL,wL];simp only[UInt32.toNat_add];omega
theorem Ut(T x0 x1 x2 r1 r2 r3:UInt32):((T.toNat:Int)+(bits BinOp.xor IntKind.u32 (bits BinOp.xor IntKind.u32 (r1.toNat:Int) (r2.toNat:Int)) (r3.toNat:Int)+bits BinOp.xor IntKind.u32 (bits BinOp.xor IntKind.u32 (bits BinOp.and IntKind.u32 (x0.toNat:Int) (x1.toNat:Int)) (bits BinOp.and IntKind.u32 (x0.toNat:Int) (x2.toNat:Int))) (bits BinOp.and IntKind.u32 (x1.toNat:Int) (x2.toNat:Int))) % 4294967296) % 4294967296 =
  ((T+((r1 ^^^ r2 ^^^ r3)+(((x0 &&& x1) ^^^ (x0 &&& x2)) ^^^ (x1 &&& x2)))).toNat:Int):=by
 rw[Oh,Oh,Oh,wL,wL,wL,wL];simp only[UInt32.toNat_add];omega
theorem bFw(R v:List UInt32)(hR:R.length=8)(hv:v.length=8):List.zipWith (·+·) R v=[v.getD 0 0+R.getD 0 0,v.getD 1 0+R.getD 1 0,v.getD 2 0+R.getD 2 0,v.getD 3 0+R.getD 3 0,v.getD 4 0+R.getD 4 0,v.getD 5 0+R.getD 5 0,v.getD 6 0+R.getD 6 0,v.getD 7 0+R.getD 7 0]:=by
 match R,hR,v,hv with
 |[a,b,c,d,e,f,g,h],_,[a',b',c',d',e',f',g',h'],_=>
  simp[UInt32.add_comm]
theorem Sv(a b c d:UInt8):bits BinOp.or IntKind.u32 (bits BinOp.or IntKind.u32 (bits BinOp.or IntKind.u32 ((a.toNat:Int)*16777216 % 4294967296) ((b.toNat:Int)*65536 % 4294967296)) ((c.toNat:Int)*256 % 4294967296)) (d.toNat:Int) =
  ((((a.toUInt32 <<< 24) ||| (b.toUInt32 <<< 16)) ||| (c.toUInt32 <<< 8)) ||| d.toUInt32).toNat:=by
 have h24:=Zi a.toUInt32 24 (by omega);have h16:=Zi b.toUInt32 16 (by omega);have h8:=Zi c.toUInt32 8 (by omega);rw[show (16777216:Int)=2 ^ 24 from rfl,show (65536:Int)=2 ^ 16 from rfl,show (256:Int)=2 ^ 8 from rfl,aQg,aQg b,aQg c,aQg d,h24,h16,h8,FK,FK,FK];rfl
theorem aKs (v:List UInt32) (bs:List UInt8) (vv bv kv:Value) (w:World) (hv:v.length=8) (hb:bs.length=64) (hrv:Reads w 1 vv 8 (v.map w32)) (hrb:Reads w 1 bv 64 (bs.map gq)) (hrk:Reads w 1 kv 64 (qh.map w32)) :
  Calls Tryz.prog 133 #[vv,bv,kv] w fun e w'=>∃ A,e=.returned (.slice A 8 8)/\Reads w' 1 (.slice A 8 8) 8 ((jT v bs).map w32)/\Ext w w':=by
 have HV:=hide (And.intro hv hrv);have HB:=hide (And.intro hb hrb);have HK:=hide hrk;obtain⟨b0,o0,c0,rfl,_,_,_,_⟩:=hrv.sub 0 8 (by omega) (by omega);obtain⟨b1,o1,c1,rfl,_,_,_,_⟩:=hrb.sub 0 64 (by omega) (by omega);obtain⟨b2,o2,c2,rfl,_,_,_,_⟩:=hrk.sub 0 64 (by omega) (by omega);clear hv hb hrv hrb hrk
 go_enter Tryz.func133,Tryz.ntmps133
 have hmk:∀ W,(Instr.makeSlice 200 (.int .i64 64) (.int .i64 64)).run Tryz.prog W=.ok (.slice (some ⟨W.heap.size,0,none⟩) 64 64) (W.alloc (.cells (fM 64 (bY bs 0)) 203)):=fun _=>by kernel_rfl
 go_wp2
 clear hmk
 go_loopw [8] (fun i wr=>∃ k:Nat,k<=16/\i=.int .i64 k/\Hid (aHG w bs k wr)) (fun i _=>16-(intOf i).toNat)
 case atStart=>exact⟨0,Nat.zero_le _,rfl,hide ⟨au.new _ _ _,(Ext.refl w).alloc _⟩⟩
 case round=>
  obtain⟨k,hk,rfl,HS⟩:=hrel
  by_cases hlt:k<16
  ·have hL:=dO bs k
   have hw:wr.cell? ⟨w.heap.size,k,none⟩=some (.int .u32 0)/\wr.frozen? ⟨w.heap.size,k,none⟩=false:=⟨by
    rw[(aA HS).1.cell];unfold fM
    rw[List.getElem?_toArray,List.getElem?_append_right (by simp;omega),List.getElem?_replicate,if_pos (by simp;omega)],(aA HS).1.frozen k⟩
   obtain⟨hw1,hw2⟩:=hw;have hr1:=(aA HB).2.ext (aA HS).2;have q0:=hr1.byteAt (j:=4*k) (by rw[(aA HB).1];omega);have q1:=hr1.byteAt (j:=4*k+1) (by rw[(aA HB).1];omega);have q2:=hr1.byteAt (j:=4*k+2) (by rw[(aA HB).1];omega);have q3:=hr1.byteAt (j:=4*k+3) (by rw[(aA HB).1];omega);clear hr1;have HX:=hide (be4 bs k (by rw[(aA HB).1];omega));have HE:=hide (fun a b c d=>Sv a b c d);generalize bs.getD (4*k) 0=y0 at *;generalize bs.getD (4*k+1) 0=y1 at *;generalize bs.getD (4*k+2) 0=y2 at *;generalize bs.getD (4*k+3) 0=y3 at *;have e0:IntKind.i64.wrap (4*(k:Int))=4*(k:Int):=IntWalk.i64_in _ (by omega);have e1:IntKind.i64.wrap (4*(k:Int)+1)=4*(k:Int)+1:=IntWalk.i64_in _ (by omega);have e2:IntKind.i64.wrap (4*(k:Int)+2)=4*(k:Int)+2:=IntWalk.i64_in _ (by omega);have e3:IntKind.i64.wrap (4*(k:Int)+3)=4*(k:Int)+3:=IntWalk.i64_in _ (by omega)
   have t0:(4*(k:Int)).toNat=4*k:=by omega
   have t1:(4*(k:Int)+1).toNat=4*k+1:=by omega
   have t2:(4*(k:Int)+2).toNat=4*k+2:=by omega
   have t3:(4*(k:Int)+3).toNat=4*k+3:=by omega
   have z:(0:Int)<=4*(k:Int)/\(0:Int)<=4*(k:Int)+1/\(0:Int)<=4*(k:Int)+2/\(0:Int)<=4*(k:Int)+3/\4*(k:Int)<64/\4*(k:Int)+1<64/\4*(k:Int)+2<64/\4*(k:Int)+3<64/\(k:Int)<64:=by omega
   obtain⟨z1,z2,z3,z4,z5,z6,z7,z8,z9⟩:=z
   go_wp2_with fail
   go_still_tail 36,(by kernel_rfl)
   clear q0 q1 q2 q3;change wpList _ _ _ _ _ wr.drew
   go_wp2
   go_roundw
   case rel=>
    refine⟨k+1,by omega,by go_num,hide ⟨?_,(Ext.setCell (aA HS).2.drew (by simp) _)⟩⟩
    have h1:=(aA HS).1.drew.y9 k (.int .u32 ((lY ((bs.drop (4*k)).take 4)).toNat:Int));rw[tX _ (dO bs k) (by omega)] at h1;simp only[aMW];rw[aA HE,<-aA HX];rw[bY,if_pos hlt]
    first|exact h1.drew|exact h1
   case measure=>simp[intOf];omega
  ·obtain rfl:k=16:=by omega
   clear hk hlt;obtain⟨wo,rfl⟩:∃ wo:World,wo=wr:=⟨_,rfl⟩
   go_wp2
   go_loopw [9] (fun i wr=>∃ k:Nat,16<=k/\k<=64/\i=.int .i64 k/\Hid (aHG w bs k wr)) (fun i _=>64-(intOf i).toNat)
   case atStart=>exact⟨16,by omega,by omega,rfl,HS⟩
   case round=>
    clear HS;obtain⟨k,aDO,hk,rfl,HS⟩:=hrel
    by_cases hlt:k<64
    ·obtain⟨j,rfl⟩:∃ j,k=j+16:=⟨k-16,by omega⟩;have hL:=dO bs (j+16)
     have cx:∀ i,i<j+16->wr.cell? ⟨w.heap.size,i,none⟩=some (.int .u32 (((bY bs (j+16)).getD i 0).toNat:Int)):=fun i hi=>by
      rw[(aA HS).1.cell];exact jK (by omega)
     have hold:wr.cell? ⟨w.heap.size,j+16,none⟩=some (.int .u32 0):=by
      rw[(aA HS).1.cell];unfold fM;rw[List.getElem?_toArray,List.getElem?_append_right (by simp;omega),List.getElem?_replicate,if_pos (by simp;omega)]
     have HN:=hide (aHz bs j);have HC:=hide (And.intro hold (And.intro (cx j (by omega)) (cx (j+9) (by omega))));have c1:=cx (j+1) (by omega);have c14:=cx (j+14) (by omega);clear cx hold;generalize (bY bs (j+16)).getD j 0=x0 at *;generalize (bY bs (j+16)).getD (j+1) 0=x1 at *;generalize (bY bs (j+16)).getD (j+9) 0=x9 at *;generalize (bY bs (j+16)).getD (j+14) 0=x14 at *;have G_:decide ((j:Int)+16<64)=true:=decide_eq_true (by omega)
     have hj:j<48:=by omega
     clear aDO hk hlt
     go_upto_region 9 with fail
     have i15:(((j+16:Nat):Int)-15)=((j+1:Nat):Int):=by omega
     go_cut [10] (fun s wx=>∃ T:UInt32,s=.int .u32 (T.toNat:Int)/\Hid (T=(dZ x1 7 ^^^ dZ x1 18) ^^^ (x1 >>> 3)/\Ext wr wx))
     case first=>
      go_quiet ((first|(go_at_call 164;with_reducible exact Calls.quiet_of (aBS x1 _))|(go_at_call 164;with_reducible exact Calls.quiet_of (V4 x1 _))))
      go_wp2_with fail
      go_meet
      exact⟨_,int_eq (bBu x1 _ _ 3 8 rfl (by omega)),hide ⟨rfl,(Ext.refl wr).drewN _⟩⟩
     case rest=>
      obtain⟨T,rfl,HT⟩:=hcut;obtain⟨wp,rfl⟩:∃ wp:World,wp=wc:=⟨_,rfl⟩;clear c1 i15;have aPG:=Ext.jd (aA HT).2 c14;clear c14
      go_upto_region 10 with fail
      have i2:(((j+16:Nat):Int)-2)=((j+14:Nat):Int):=by omega
      go_cut [11] (fun s wx=>∃ U:UInt32,s=.int .u32 (U.toNat:Int)/\Hid (U=(dZ x14 17 ^^^ dZ x14 19) ^^^ (x14 >>> 10)/\Ext wr wx))
      case first=>
       go_quiet ((first|(go_at_call 164;with_reducible exact Calls.quiet_of (V5 x14 _))|(go_at_call 164;with_reducible exact Calls.quiet_of (V3 x14 _))))
       go_wp2_with fail
       go_meet
       exact⟨_,int_eq (bBu x14 _ _ 10 1024 rfl (by omega)),hide ⟨rfl,(aA HT).2.drewN _⟩⟩
      case rest=>
       obtain⟨U,rfl,HU⟩:=hcut;obtain⟨wq,rfl⟩:∃ wq:World,wq=wc:=⟨_,rfl⟩;clear aPG i2;have f0:=Ext.jd (aA HU).2 (aA HC).1;have f1:=Ext.jd (aA HU).2 (aA HC).2.1;have f2:=Ext.jd (aA HU).2 (aA HC).2.2;have ff:=((aA HS).1.ext (aA HU).2).frozen (j+16);have i16:IntKind.i64.wrap (((j+16:Nat):Int)-16)=(j:Int):=(IntWalk.i64_in _ (by omega)).trans (by omega);have i7:IntKind.i64.wrap (((j+16:Nat):Int)-7)=((j+9:Nat):Int):=(IntWalk.i64_in _ (by omega)).trans (by omega);have i7':IntKind.i64.wrap ((j:Int)+16-7)=(j:Int)+9:=(IntWalk.i64_in _ (by omega)).trans (by omega);have i9:IntKind.i64.wrap ((j:Int)+9)=(j:Int)+9:=IntWalk.i64_in _ (by omega);have i0:IntKind.i64.wrap (j:Int)=(j:Int):=IntWalk.i64_in _ (by omega)
       have t9:((j:Int)+9).toNat=j+9:=by omega
       have t16:((j:Int)+16).toNat=j+16:=by omega
       have b0:(0:Int)<=(j:Int)+9/\(j:Int)+9<64/\(j:Int)<64/\(j:Int)+16<64/\(0:Int)<=(j:Int)+16:=by omega
       obtain⟨b1,b2,b3,b4,b5⟩:=b0
       go_upto_region 11 with fail
       go_still_tail 18,(by kernel_rfl)
       clear f1 f2;change wpList _ _ _ _ _ wq.drew
       go_wp2
       go_roundw
       case rel=>
        repeat apply Exists.intro
        refine⟨?_,rfl⟩
        refine⟨j+16+1,by omega,by omega,by go_num,hide ⟨?_,?_⟩⟩
        ·have h1:=(((aA HS).1.ext (aA HU).2).y9 (j+16) (.int .u32 ((x0+T+x9+U).toNat:Int))).drew;rw[tX _ (dO bs (j+16)) (by omega)] at h1;rw[aA HN,add4,<-(aA HT).1,<-(aA HU).1];exact h1
        ·exact (((aA HS).2.trans (aA HU).2).setCell (by simp) _).drew
       case measure=>simp[intOf];omega
    ·obtain rfl:k=64:=by omega
     clear aDO hk hlt;obtain⟨wp,rfl⟩:∃ wp:World,wp=wr:=⟨_,rfl⟩;have hv:=(aA HV).2.ext (aA HS).2;have v0:=hv.wordAt (j:=0) (by rw[(aA HV).1];omega);have v1:=hv.wordAt (j:=1) (by rw[(aA HV).1];omega);have v2:=hv.wordAt (j:=2) (by rw[(aA HV).1];omega);have v3:=hv.wordAt (j:=3) (by rw[(aA HV).1];omega);have v4:=hv.wordAt (j:=4) (by rw[(aA HV).1];omega);have v5:=hv.wordAt (j:=5) (by rw[(aA HV).1];omega);have v6:=hv.wordAt (j:=6) (by rw[(aA HV).1];omega);have v7:=hv.wordAt (j:=7) (by rw[(aA HV).1];omega);rw[Nat.add_zero] at v0;have HVC:=hide (And.intro v0 (And.intro v1 (And.intro v2 (And.intro v3 (And.intro v4 (And.intro v5 (And.intro v6 v7)))))));clear hv
     go_wp2
     clear v0 v1 v2 v3 v4 v5 v6 v7
     go_loopw [12,13,14,15,16,17,18,19,20] (fun a b c d e f g h i wr=>∃ k:Nat,k<=64/\i=.int .i64 k/\a=.int .u32 (((aX bs v k).getD 0 0).toNat:Int)/\b=.int .u32 (((aX bs v k).getD 1 0).toNat:Int)/\c=.int .u32 (((aX bs v k).getD 2 0).toNat:Int)/\d=.int .u32 (((aX bs v k).getD 3 0).toNat:Int)/\e=.int .u32 (((aX bs v k).getD 4 0).toNat:Int)/\f=.int .u32 (((aX bs v k).getD 5 0).toNat:Int)/\g=.int .u32 (((aX bs v k).getD 6 0).toNat:Int)/\h=.int .u32 (((aX bs v k).getD 7 0).toNat:Int)/\Hid (Ext wp wr)) (fun _ _ _ _ _ _ _ _ i _=>64-(intOf i).toNat)
     case atStart=>exact⟨0,Nat.zero_le _,rfl,rfl,rfl,rfl,rfl,rfl,rfl,rfl,rfl,hide (Ext.refl _)⟩
     case round=>
      obtain⟨k,hk,rfl,rfl,rfl,rfl,rfl,rfl,rfl,rfl,rfl,HE⟩:=hrel
      by_cases hlt:k<64
      ·have cw:wr.cell? ⟨w.heap.size,k,none⟩=some (.int .u32 (((sched bs).getD k 0).toNat:Int)):=by
        rw[((aA HS).1.ext (aA HE)).cell];exact jK (by rw[dO];exact hlt)
       have ck:=((aA HK).ext ((aA HS).2.trans (aA HE))).wordAt (j:=k) hlt;have HN:=hide (show aX bs v (k+1)=wC (aX bs v k) (qh.getD k 0) ((sched bs).getD k 0) from rfl);unfold wC at HN;generalize (aX bs v k).getD 0 0=x0 at *;generalize (aX bs v k).getD 1 0=x1 at *;generalize (aX bs v k).getD 2 0=x2 at *;generalize (aX bs v k).getD 3 0=x3 at *;generalize (aX bs v k).getD 4 0=x4 at *;generalize (aX bs v k).getD 5 0=x5 at *;generalize (aX bs v k).getD 6 0=x6 at *;generalize (aX bs v k).getD 7 0=x7 at *;generalize (sched bs).getD k 0=xw at *;generalize qh.getD k 0=xk at *;have G_:decide ((k:Int)<64)=true:=decide_eq_true (by omega)
       have b64:(k:Int)<64:=by omega
       have t1:(0:Int)<=(k:Int):=by omega
       go_upto_region 23 with fail
       clear G_
       go_cut [21] (fun s wx=>∃ T:UInt32,s=.int .u32 (T.toNat:Int)/\Hid (T=x7+(dZ x4 6 ^^^ dZ x4 11 ^^^ dZ x4 25)+((x4 &&& x5) ^^^ (~~~x4 &&& x6))+xk+xw/\Ext wr wx))
       case first=>
        go_quiet ((first|(go_at_call 164;with_reducible exact Calls.quiet_of (aBT x4 _))|(go_at_call 164;with_reducible exact Calls.quiet_of (V7 x4 _))|(go_at_call 164;with_reducible exact Calls.quiet_of (Uy x4 _))))
        go_wp2_with fail
        go_meet
        exact⟨_,int_eq (Uu x7 x4 x5 x6 xk xw _ _ _),hide ⟨rfl,(Ext.refl wr).drewN _⟩⟩
       case rest=>
        obtain⟨T,rfl,HT⟩:=hcut;obtain⟨wq,rfl⟩:∃ wq:World,wq=wc:=⟨_,rfl⟩;clear cw ck
        go_wp2_with (first
         |(go_at_call 164;with_reducible refine (aBU x0 _).mono ?_;rintro e w' ⟨rfl,n2,rfl⟩)
         |(go_at_call 164;with_reducible refine (V6 x0 _).mono ?_;rintro e w' ⟨rfl,n13,rfl⟩)
         |(go_at_call 164;with_reducible refine (Uz x0 _).mono ?_;rintro e w' ⟨rfl,n22,rfl⟩))
        go_roundw
        case rel=>
         repeat apply Exists.intro
         refine⟨?_,rfl⟩
         have a2:((x3.toNat:Int)+(T.toNat:Int)) % 4294967296=((x3+T).toNat:Int):=add32 x3 T
         refine⟨k+1,by omega,by go_num,int_eq ?_,?_,?_,?_,int_eq ?_,?_,?_,?_,hide (((aA HE).trans (aA HT).2).drewN _)⟩
         ·rw[Ut,aA HN,(aA HT).1];rfl
         all_goals rw[aA HN]
         ·rfl
         ·rfl
         ·rfl
         ·rw[a2,(aA HT).1];rfl
         ·rfl
         ·rfl
         ·rfl
        case measure=>simp[intOf];omega
      ·obtain rfl:k=64:=by omega
       clear hk hlt;obtain⟨wq,rfl⟩:∃ wq:World,wq=wr:=⟨_,rfl⟩;obtain⟨v0,v1,v2,v3,v4,v5,v6,v7⟩:=aA HVC;have v0:=Ext.jd (aA HE) v0;have v1:=Ext.jd (aA HE) v1;have v2:=Ext.jd (aA HE) v2;have v3:=Ext.jd (aA HE) v3;have v4:=Ext.jd (aA HE) v4;have v5:=Ext.jd (aA HE) v5;have v6:=Ext.jd (aA HE) v6;have v7:=Ext.jd (aA HE) v7;have HR:=hide (bFw (aX bs v 64) v (jB _ _ (aA HV).1 64) (aA HV).1);generalize (aX bs v 64).getD 0 0=r0 at *;generalize (aX bs v 64).getD 1 0=r1 at *;generalize (aX bs v 64).getD 2 0=r2 at *;generalize (aX bs v 64).getD 3 0=r3 at *;generalize (aX bs v 64).getD 4 0=r4 at *;generalize (aX bs v 64).getD 5 0=r5 at *;generalize (aX bs v 64).getD 6 0=r6 at *;generalize (aX bs v 64).getD 7 0=r7 at *;generalize v.getD 0 0=y0 at *;generalize v.getD 1 0=y1 at *;generalize v.getD 2 0=y2 at *;generalize v.getD 3 0=y3 at *;generalize v.getD 4 0=y4 at *
       generalize v.getD 5 0=y5 at *;generalize v.getD 6 0=y6 at *;generalize v.getD 7 0=y7 at *
       go_upto_region 33 with fail
       go_still_tail 40,(by kernel_rfl)
       clear v0 v1 v2 v3 v4 v5 v6 v7;change wpList _ _ _ _ _ wq.drew
       go_wp2
       go_ret
       refine⟨_,rfl,?_,(((((aA HS).2.trans (aA HE)).drew).alloc _))⟩
       simp only[add32]
       have hz:(jT v bs).map w32=[w32 (y0+r0),w32 (y1+r1),w32 (y2+r2),w32 (y3+r3),w32 (y4+r4),w32 (y5+r5),w32 (y6+r6),w32 (y7+r7)]:=by
        unfold jT uI;rw[aA HR];rfl
       rw[hz];exact (Reads.aMV wq _ _ _ 8 8 _ rfl rfl (Nat.le_refl _) (by unfold maxLen;omega) rfl).ext ((Ext.refl _).drew)
theorem JL{w:World}{B B':Nat}{e:TypeId}{size n:Nat}{v:Value}{xs:List Value}(h:w.ownsRow B e size v n xs)(hB:B'<=B):w.ownsRow B' e size v n xs:=by
 refine⟨h.1,?_⟩
 rcases h.2 with h|⟨g,cap,cur,hv,hb,h⟩
 ·exact .inl h
 ·exact .inr ⟨g,cap,cur,hv,Nat.le_trans hB hb,h⟩
theorem aCr(l:List UInt8)(w:World)(hl:l.length=32) :
  Calls Tryz.prog 95 #[.agg (l.map gq).toArray] w fun e w'=>∃ A c,e=.returned (.slice A 32 c)/\GB w w.heap.size (.slice A 32 c) 32 l w':=by
 obtain⟨arr,harr⟩:∃ r,(l.map gq).toArray=r:=⟨_,rfl⟩;have HA:=hide (And.intro harr hl);rw[harr];clear harr hl
 go_enter Tryz.func95,Tryz.ntmps95
 go_wp2
 go_loopw [3,4] (fun b i wr=>∃ (k:Nat) (A:Option Addr) (c:Nat),k<=32/\i=.int .i64 k/\b=.slice A k c/\Hid (GB w (w.heap.size+1) (.slice A k c) k (l.take k) wr/\au wr w.heap.size 142 arr)) (fun _ i _=>32-(intOf i).toNat)
 case atStart=>exact⟨0,none,0,Nat.zero_le _,rfl,rfl,hide ⟨GB.nil ((Ext.refl w).alloc _) (by omega) (by simp),au.new _ _ _⟩⟩
 case round=>
  obtain⟨k,A,c,hk,rfl,rfl,HI⟩:=hrel
  by_cases hlt:k<32
  ·have hc:wr.cell? ⟨w.heap.size,k,none⟩=some (.int .u8 ((l.getD k 0).toNat:Int)):=by
    rw[(aA HI).2.cell,<-(aA HA).1,List.getElem?_toArray,List.getElem?_map,zG,zH (by rw[(aA HA).2];exact hlt)];rfl
   have HS:=hide (show l.take (k+1)=l.take k++[l.getD k 0] from by
    rw[kQ l k (by rw[(aA HA).2];exact hlt),zG,zH (by rw[(aA HA).2];exact hlt)]
    rfl)
   generalize l.getD k 0=x at *
   have b1:(k:Int)<32:=by omega
   go_wp2_with (at_builtin;refine bH rfl rfl fC rfl (bQ (aA HI).1.own ((Ext.refl _).alloc _)) rfl (Reads.t_ _ _ _) (dN.one rfl) (by omega) (Nat.le_trans (aA HI).1.room (by simp)) ?_;intro A' c' w2 ho hc2 hv;have HQ:=hide (And.intro ho hc2);clear ho hc2 hv)
   go_roundw
   case rel=>
    refine⟨k+1,A',c',by omega,by go_num,rfl,hide ⟨(aA HI).1.step ((Ext.refl _).alloc _) (aA HQ).2 (by rw[aA HS,List.map_append];exact (aA HQ).1),(aA HI).1.blk ((Ext.refl _).alloc _) (aA HQ).2 (aA HI).2 (by omega)⟩⟩
   case measure=>simp[intOf];omega
  ·obtain rfl:k=32:=by omega
   go_wp2
   go_ret
   have h:=(aA HI).1;rw[List.take_of_length_le (by rw[(aA HA).2];omega)] at h
   exact⟨_,_,rfl,JL h.own (by omega),h.ext,Nat.le_refl _,h.ext.size'⟩
theorem aIc(l:List UInt8)(w:World)(hl:l.length=32) :
  Calls Tryz.prog 69 #[.agg (l.map gq).toArray] w fun e w'=>e=.returned (.agg ((l.take 16).map gq).toArray)/\Ext w w':=by
 obtain⟨arr,harr⟩:∃ r,(l.map gq).toArray=r:=⟨_,rfl⟩;have HA:=hide (And.intro harr hl);rw[harr];clear harr hl
 go_enter Tryz.func69,Tryz.ntmps69
 go_wp2
 go_loopw [4] (fun i wr=>∃ k:Nat,k<=16/\i=.int .i64 k/\Hid (au wr w.heap.size 142 arr/\au wr (w.heap.size+1) 23 (dQ 16 [])/\au wr (w.heap.size+1+1) 23 (dQ 16 (l.take k))/\Ext w wr)) (fun i _=>16-(intOf i).toNat)
 case atStart=>exact⟨0,Nat.zero_le _,rfl,hide ⟨((au.new w _ _).alloc _).alloc _,(au.new' _ _ _ (by simp)).alloc _,au.new' _ _ _ (by simp),(((Ext.refl w).alloc _).alloc _).alloc _⟩⟩
 case round=>
  obtain⟨k,hk,rfl,HI⟩:=hrel
  have hlk:(l.take k).length=k:=by rw[List.length_take,(aA HA).2];omega
  by_cases hlt:k<16
  ·have hc:wr.cell? ⟨w.heap.size,k,none⟩=some (.int .u8 ((l.getD k 0).toNat:Int)):=by
    rw[(aA HI).1.cell,<-(aA HA).1,List.getElem?_toArray,List.getElem?_map,zG,zH (by rw[(aA HA).2];omega)];rfl
   have HS:=hide (show l.take (k+1)=l.take k++[l.getD k 0] from by
    rw[kQ l k (by rw[(aA HA).2];omega),zG,zH (by rw[(aA HA).2];omega)]
    rfl)
   have hc2:wr.cell? ⟨w.heap.size+1+1,k,none⟩=some (.int .u8 0):=by
    rw[(aA HI).2.2.1.cell];exact pU (by omega) hlt
   have hf:=(aA HI).2.2.1.frozen k;generalize l.getD k 0=x at *
   have b1:(k:Int)<32:=by omega
   have b2:(k:Int)<16:=by omega
   have HL:=hide hlk;clear hlk
   go_wp2
   go_roundw
   case rel=>
    obtain⟨q1,q2,q3,q4⟩:=aA HI;have h1:=q3.y9 k (.int .u8 (x.toNat:Int));rw[yD _ (aA HL) hlt,<-aA HS] at h1
    exact⟨k+1,by omega,by go_num,hide ⟨q1.far' (by omega) _ _,q2.far' (by omega) _ _,h1,q4.setCell (by simp;omega) _⟩⟩
   case measure=>simp[intOf];omega
  ·obtain rfl:k=16:=by omega
   obtain⟨res,hres⟩:∃ r,((l.take 16).map gq).toArray=r:=⟨_,rfl⟩;have HR:=hide (show dQ 16 (l.take 16)=res from by rw[yE hlk,hres]);have HS:=hide (show res.size=16/\res.all (·.oneCell')=true from by rw[<-hres];exact⟨by simpa using hlk,dB _⟩);have HRE:=hide hres;clear hres;rw[aA HR] at HI;clear hlk
   go_wp2_with (first
    |(refine dL (ty:=23) (t:=23) (x:=.tmp 3) rfl rfl aV rfl (aA HI).2.2.1 (aA HS).1 ?_)
    |(refine aT (ty:=23) (t:=23) (x:=.tmp 2) (y:=.tmp 15) rfl rfl aV rfl rfl (aA HI).2.1 (kJ (by simp)) (aA HS).1 (aA HS).2 ?_;intro w2 hb2 hc2 hz2;have H2:=hide (And.intro hb2 hc2);clear hb2 hc2 hz2))
   refine bodyPost_ret (v:=.agg res) (dJ aV rfl (aA H2).1 (aA HS).1 rfl) rfl ⟨by rw[aA HRE],?_⟩;exact (aA HI).2.2.2.trans' (aA H2).2 (fun _ _ h=>h) (fun i hi e=>by omega)
def aLp:ByteArray:={ data:=#[54,97,48,57,101,54,54,55,98,98,54,55,97,101,56,53,51,99,54,101,102,51,55,50,97,53,52,102,102,53,51,97,53,49,48,101,53,50,55,102,57,98,48,53,54,56,56,99,49,102,56,51,100,57,97,98,53,98,101,48,99,100,49,57] }
def aFk:ByteArray:={ data:=((([52,50,56,97,50,102,57,56,55,49,51,55,52,52,57,49,98,53,99,48,102,98,99,102,101,57,98,53,100,98,97,53,51,57,53,54,99,50,53,98,53,57,102,49,49,49,102,49,57,50,51,102,56,50,97,52,97,98,49,99,53,101,100,53].append [100,56,48,55,97,97,57,56,49,50,56,51,53,98,48,49,50,52,51,49,56,53,98,101,53,53,48,99,55,100,99,51,55,50,98,101,53,100,55,52,56,48,100,101,98,49,102,101,57,98,100,99,48,54,97,55,99,49,57,98,102,49,55,52]).append ([101,52,57,98,54,57,99,49,101,102,98,101,52,55,56,54,48,102,99,49,57,100,99,54,50,52,48,99,97,49,99,99,50,100,101,57,50,99,54,102,52,97,55,52,56,52,97,97,53,99,98,48,97,57,100,99,55,54,102,57,56,56,100,97].append [57,56,51,101,53,49,53,50,97,56,51,49,99,54,54,100,98,48,48,51,50,55,99,56,98,102,53,57,55,102,99,55,99,54,101,48,48,98,102,51,100,53,97,55,57,49,52,55,48,54,99,97,54,51,53,49,49,52,50,57,50,57,54,55])).append (([50,55,98,55,48,97,56,53,50,101,49,98,50,49,51,56,52,100,50,99,54,100,102,99,53,51,51,56,48,100,49,51,54,53,48,97,55,51,53,52,55,54,54,97,48,97,98,98,56,49,99,50,99,57,50,101,57,50,55,50,50,99,56,53].append [97,50,98,102,101,56,97,49,97,56,49,97,54,54,52,98,99,50,52,98,56,98,55,48,99,55,54,99,53,49,97,51,100,49,57,50,101,56,49,57,100,54,57,57,48,54,50,52,102,52,48,101,51,53,56,53,49,48,54,97,97,48,55,48]).append ([49,57,97,52,99,49,49,54,49,101,51,55,54,99,48,56,50,55,52,56,55,55,52,99,51,52,98,48,98,99,98,53,51,57,49,99,48,99,98,51,52,101,100,56,97,97,52,97,53,98,57,99,99,97,52,102,54,56,50,101,54,102,102,51].append [55,52,56,102,56,50,101,101,55,56,97,53,54,51,54,102,56,52,99,56,55,56,49,52,56,99,99,55,48,50,48,56,57,48,98,101,102,102,102,97,97,52,53,48,54,99,101,98,98,101,102,57,97,51,102,55,99,54,55,49,55,56,102,50]))).toArray }
theorem bFd:(List.range 8).map (sQ aLp.data.toList)=mF:=by decide +kernel
theorem aYw:(List.range 64).map (sQ aFk.data.toList)=qh:=by decide +kernel
theorem first_any(w:World):Calls Tryz.prog 132 #[.string aLp,.int .i64 8] w fun e w'=>∃ A c,e=.returned (.slice A 8 c)/\Reads w' 1 (.slice A 8 c) 8 (mF.map w32)/\Ext w w':=by
 refine (aNc aLp 8 8 rfl w (by decide +kernel) (by decide +kernel)).mono ?_;rintro e w' ⟨A,c,rfl,ho,hE⟩;rw[bFd] at ho
 exact⟨A,c,rfl,Reads.l9 ho,hE⟩
theorem aZw(w:World):Calls Tryz.prog 132 #[.string aFk,.int .i64 64] w fun e w'=>∃ A c,e=.returned (.slice A 64 c)/\Reads w' 1 (.slice A 64 c) 64 (qh.map w32)/\Ext w w':=by
 refine (aNc aFk 64 64 rfl w (by decide +kernel) (by decide +kernel)).mono ?_;rintro e w' ⟨A,c,rfl,ho,hE⟩;rw[aYw] at ho
 exact⟨A,c,rfl,Reads.l9 ho,hE⟩
theorem aIi(w:World)(B:Nat)(e:TypeId)(size:Nat){g:Nat}(hg:g=w.heap.size)(hb:B<=w.heap.size):(w.alloc (.cells #[] e)).ownsRow B e size (.slice (some ⟨g,0,none⟩) 0 0) 0 []:=by subst hg;exact aEs w B e size hb
theorem Lm{w w1:World}{l:List UInt8}{A1:Option Addr}{c1:Nat}{zs:Array Value}{T:TypeId}(ho:w1.ownsRow (w.heap.size+1) 5 1 (.slice A1 (0+l.length) c1) (0+l.length) ([]++l.map gq))
  (hc:dm (fun k=>(Value.slice (some ⟨w.heap.size+1,0,none⟩) 0 0).ownBlock=some k) ((w.alloc (.cells zs T)).alloc (.cells #[] 5)) w1) :
  GB w (w.heap.size+1) (.slice A1 l.length c1) l.length l w1/\au w1 w.heap.size T zs:=by
 rw[Nat.zero_add,List.nil_append] at ho
 refine⟨⟨ho,(((Ext.refl w).alloc _).alloc _).trans' hc (fun _ _ h=>h) (fun i hi e=>?_),by omega,?_⟩,au.gu ((au.new w _ _).alloc _) hc ?_⟩
 ·simp[Value.ownBlock] at e;omega
 ·have:=hc.size;simp at this;omega
 ·simp[Value.ownBlock]
def iL(n:Nat):Nat:=(119-n % 64) % 64
def Ci(l:List UInt8)(k:Nat):List UInt8:=l++[128]++List.replicate k 0
theorem Il{w:World}{B:Nat}{v:Value}{n:Nat}{l:List UInt8}(h:w.ownsRow B 5 1 v n (l.map gq++[.int .u8 128])):w.ownsRow B 5 1 v n ((Ci l 0).map gq):=by
 unfold Ci;rw[List.replicate_zero,List.append_nil,List.map_append];exact h
theorem bCe(l:List UInt8)(k:Nat):Ci l (k+1)=Ci l k++[0]:=by unfold Ci;rw[List.replicate_succ',List.append_assoc,List.append_assoc,List.append_assoc]
theorem Io(l:List UInt8):Ci l (iL l.length)++beBytes (8*l.length) 8=eU l:=rfl
theorem bFt(st:List UInt32):∀ (q r:Nat),q<st.length->r<4->(st.flatMap fun w=>beBytes w.toNat 4)[4*q+r]?=some (UInt8.ofNat ((st.getD q 0).toNat / 256 ^ (3-r))):=by
 induction st with
 |nil=>intro q r h;simp at h
 | cons x l ih=>
  intro q r hq hr;rw[List.flatMap_cons]
  cases q with
  |zero=>
   rw[Nat.mul_zero,Nat.zero_add,List.getElem?_append_left (by rw[beBytes_length];exact hr),yG _ _ _ hr]
   rfl
  |succ q=>
   rw[List.getElem?_append_right (by rw[beBytes_length];omega),beBytes_length,show 4*(q+1)+r-4=4*q+r from by omega,ih q r (by simpa using hq) hr];rfl
theorem aZe(st:List UInt32)(q r:Nat)(hq:q<st.length)(hr:r<4):(st.flatMap fun w=>beBytes w.toNat 4).take (4*q+r+1)=(st.flatMap fun w=>beBytes w.toNat 4).take (4*q+r)++[UInt8.ofNat ((st.getD q 0).toNat / 256 ^ (3-r))]:=by
 rw[List.take_add_one,bFt st q r hq hr];rfl
theorem wE (l : List UInt8) (v:Value) (w:World) (hr:Reads w 1 v l.length (l.map gq)) (hl:l.length<=100000000) :
    Calls Tryz.prog 96 #[v] w fun e w'=>e=.returned (.agg ((sha l).map gq).toArray)/\Ext w w':=by
  have HR:=hide hr
  obtain⟨A,c,rfl⟩:∃ A c,v=.slice A l.length c:=by obtain⟨_,A,c,h,_⟩:=hr;exact⟨A,c,h⟩
  clear hr
  go_enter Tryz.func96,Tryz.ntmps96
  go_wp2_with (first
    | (
     at_builtin;refine bH (s:=.tmp 11) (x:=.tmp 12) rfl rfl fC rfl (aIi _ (w.heap.size+1) _ _ (by simp) (by simp)) rfl ((aA HR).ext (((Ext.refl w).alloc _).alloc _)) (dN.u8 l) (by omega) (by simp) ?_;intro A1 c1 w1 ho hc hv;have H0:=hide (And.intro ho hc);clear ho hc hv
     have H1:=hide (Lm (aA H0).1 (aA H0).2)
     clear H0)
    | (
     at_builtin;refine bH (s:=.tmp 13) (x:=.tmp 14) rfl rfl fC rfl (bQ (aA H1).1.own ((Ext.refl _).alloc _)) rfl (Reads.t_ _ _ _) (dN.one rfl) (by omega) (Nat.le_trans (aA H1).1.room (by simp)) ?_;intro A2 c2 w2 ho hc hv;have H0:=hide (And.intro ho hc);clear ho hc hv
     have H2:=hide (And.intro (GB.step (l':=Ci l 0) (aA H1).1 ((Ext.refl _).alloc _) (aA H0).2 (Il (aA H0).1)) ((aA H1).1.blk ((Ext.refl _).alloc _) (aA H0).2 (aA H1).2 (Nat.lt_succ_self _)))
     clear H0))
  clear H1
  go_loopw [3] (fun b wr=>∃ (k:Nat) (A:Option Addr) (c:Nat),k<=iL l.length/\b=.slice A (l.length+1+k) c/\Hid (GB w (w.heap.size+1) (.slice A (l.length+1+k) c) (l.length+1+k) (Ci l k) wr/\au wr w.heap.size 142 (dQ 32 []))) (fun b _=>match b with|.slice _ n _=>l.length+1+iL l.length-n|_=>0)
  case atStart=>exact⟨0,_,_,Nat.zero_le _,rfl,H2⟩
  case round=>
    clear H2;obtain⟨k,A1,c1,hk,rfl,HI⟩:=hrel
    by_cases hlt:k<iL l.length
    ·
      have ht2:((((l.length+1+k:Nat):Int) % 64)==56)=false:=by unfold iL at hlt;simp;omega
      have hkb:k<64:=by unfold iL at hlt;omega
      go_wp2_with (at_builtin;refine bH rfl rfl fC rfl (bQ (aA HI).1.own ((Ext.refl _).alloc _)) rfl (Reads.t_ _ _ _) (dN.one rfl) (by omega) (Nat.le_trans (aA HI).1.room (by simp)) ?_;intro A' c' w3 ho hc hv;have HQ:=hide (And.intro ho hc);clear ho hc hv)
      go_roundw
      case rel=>
        refine⟨k+1,A',c',hlt,rfl,hide ⟨GB.step (aA HI).1 ((Ext.refl _).alloc _) (aA HQ).2 ?_,(aA HI).1.blk ((Ext.refl _).alloc _) (aA HQ).2 (aA HI).2 (Nat.lt_succ_self _)⟩⟩
        rw[bCe,List.map_append];exact (aA HQ).1
      case measure=>simp;omega
    ·
      obtain rfl:k=iL l.length:=by omega
      have ht2:((((l.length+1+iL l.length:Nat):Int) % 64)==56)=true:=by unfold iL;simp;omega
      have ht3:(((l.length:Int)+1+(iL l.length:Int)) % 64 != 56)=false:=by unfold iL;simp;omega
      have hkb:iL l.length<64:=by unfold iL;omega
      have HN:=hide (show (l.length+1+iL l.length) % 64=56 from by unfold iL;omega);clear hlt hk
      go_wp2
      clear ht2 ht3;obtain⟨w4,rfl⟩:∃ w4:World,w4=wr:=⟨_,rfl⟩;have HP:=hide (Io l)
      have hn0:l.length+1+iL l.length<=100000100:=by omega
      generalize Ci l (iL l.length)=pl at *;generalize l.length+1+iL l.length=n0 at *
      go_loopw [3,5] (fun b i wr=>∃ (k:Nat) (A:Option Addr) (c:Nat),k<=8/\i=.int .i64 ((k:Int)-1)/\b=.slice A (n0+(8-k)) c/\Hid (GB w (w.heap.size+1) (.slice A (n0+(8-k)) c) (n0+(8-k)) (pl++(beBytes (8*l.length) 8).take (8-k)) wr/\au wr w.heap.size 142 (dQ 32 []))) (fun _ i _=>(intOf i+1).toNat)
      case atStart=>exact⟨8,_,_,Nat.le_refl _,rfl,rfl,by rw[Nat.sub_self,List.take_zero,List.append_nil];exact HI⟩
      case round=>
        clear HI;obtain⟨k,A2,c2,hk,rfl,rfl,HI⟩:=hrel
        by_cases hk0:0<k
        ·
          have e0:(0:Int)<=(k:Int)-1:=by omega
          have e1:IntKind.i64.wrap (8*((k:Int)-1))=((8*(k-1):Nat):Int):=by rw[IntWalk.i64_in _ (by omega)];omega
          have hb:=byte_of (8*l.length) (k-1)
          have hcast:((8*l.length:Nat):Int)=8*(l.length:Int):=by omega
          rw[hcast] at hb;clear hcast;have HX:=hide (aCe (8*l.length) 8 k hk0 hk);generalize UInt8.ofNat (8*l.length / 256 ^ (k-1))=z at *
          go_wp2_with (at_builtin;refine bH rfl rfl fC rfl (bQ (aA HI).1.own ((Ext.refl _).alloc _)) rfl (Reads.t_ _ _ _) (dN.one rfl) (by omega) (Nat.le_trans (aA HI).1.room (by simp)) ?_;intro A' c' w3 ho hc hv;have HQ:=hide (And.intro ho hc);clear ho hc hv)
          go_roundw
          case rel=>
            refine⟨k-1,A',c',by omega,by go_num,by rw[show n0+(8-(k-1))=n0+(8-k)+1 from by omega],hide ⟨?_,(aA HI).1.blk ((Ext.refl _).alloc _) (aA HQ).2 (aA HI).2 (Nat.lt_succ_self _)⟩⟩
            rw[show n0+(8-(k-1))=n0+(8-k)+1 from by omega];refine GB.step (aA HI).1 ((Ext.refl _).alloc _) (aA HQ).2 ?_;rw[aA HX,<-List.append_assoc,List.map_append];exact (aA HQ).1
          case measure=>simp[intOf];omega
        ·
          obtain rfl:k=0:=by omega
          clear hk0 hk
          have HJ:=hide (show GB w (w.heap.size+1) (.slice A2 (n0+8) c2) (n0+8) (eU l) wr/\au wr w.heap.size 142 (dQ 32 []) from by
            have:=aA HI;rw[Nat.sub_zero,List.take_of_length_le (by rw[beBytes_length];exact Nat.le_refl _),aA HP] at this
            exact this)
          obtain⟨w5,rfl⟩:∃ w5:World,w5=wr:=⟨_,rfl⟩;clear HI;have z1:((0:Nat):Int)-1 = -1:=rfl;have z2:n0+(8-0)=n0+8:=rfl;rw[z1,z2];clear z1 z2
          go_wp2_with fail
          refine (first_any _).mono ?_;rintro e w6 ⟨A6,c6,rfl,hr6,Ai⟩;have H6:=hide (And.intro hr6 Ai);clear hr6 Ai
          go_wp2_with fail
          refine (aZw _).mono ?_;rintro e w7 ⟨A7,c7,rfl,hr7,ZU⟩;have H7:=hide (And.intro hr7 ZU);clear hr7 ZU
          go_wp2
          obtain⟨m,hm⟩:∃ m,n0+8=64*m:=⟨(n0+8) / 64,by have:=aA HN;omega⟩;have HLN:=hide (aA HJ).1.len
          have OQ:=hide (show Reads w7 1 (.slice A2 (n0+8) c2) (n0+8) ((eU l).map gq)/\au w7 w.heap.size 142 (dQ 32 [])/\Ext w w7/\Reads w7 1 (.slice A6 8 c6) 8 (mF.map w32)/\Reads w7 1 (.slice A7 64 c7) 64 (qh.map w32) from
            ⟨(aA HJ).1.reads.ext ((aA H6).2.trans (aA H7).2),(aA HJ).2.ext ((aA H6).2.trans (aA H7).2),(aA HJ).1.ext.trans ((aA H6).2.trans (aA H7).2),(aA H6).1.ext (aA H7).2,(aA H7).1⟩)
          obtain⟨g2,o2,c2',hA2,hc2,aOA,_,_⟩:=(aA OQ).1.sub 0 64 (by omega) (by omega);cases hA2;clear HJ H6 H7;unfold maxLen at aOA;have HM:=hide hm
          have hm1:n0+8<=64*m:=by omega
          have hm2:64*m<=n0+8:=by omega
          clear hm
          go_loopw [6,8] (fun v i wr=>∃ (j:Nat) (A:Option Addr) (c:Nat),j<=m/\i=.int .i64 ((64*j:Nat):Int)/\v=.slice A 8 c/\Hid (Reads wr 1 (.slice A 8 c) 8 ((jV (eU l) (List.range j) mF).map w32)/\Ext w7 wr)) (fun _ i _=>64*m-(intOf i).toNat)
          case atStart=>exact⟨0,A6,c6,Nat.zero_le _,rfl,rfl,hide ⟨(aA OQ).2.2.2.1,Ext.refl _⟩⟩
          case round=>
            obtain⟨j,A8,c8,hj,rfl,rfl,HI⟩:=hrel
            by_cases hlt:j<m
            ·
              have hb1:64*j+64<=n0+8:=by omega
              have d1:decide (64*j<n0+8)=true:=decide_eq_true (by omega);have HX:=hide (show jV (eU l) (List.range (j+1)) mF=jT (jV (eU l) (List.range j) mF) (((eU l).drop (64*j)).take 64) from by unfold jV;rw[List.range_succ,List.foldl_append];rfl);have HL8:=hide (gV (eU l) (List.range j) mF rfl);have HBL:=hide (show (((eU l).drop (64*j)).take 64).length=64 from by have:=aA HLN;simp;omega)
              have HBR:=hide (show Reads wr 1 (.slice (some ⟨g2,o2+64*j,none⟩) 64 (c2-64*j)) 64 ((((eU l).drop (64*j)).take 64).map gq) from by
                obtain⟨b,o,c,e,_,_,_,h⟩:=((aA OQ).1.ext (aA HI).2).sub (64*j) 64 (by omega) (by omega);cases e;rw[List.map_take,List.map_drop]
                exact h)
              go_wp2_with fail
              refine (aKs _ _ _ _ _ _ (aA HL8) (aA HBL) (aA HI).1 (aA HBR) ((aA OQ).2.2.2.2.ext (aA HI).2)).mono ?_;rintro e w8 ⟨A9,rfl,hr9,AB⟩;have H9:=hide (And.intro hr9 AB);clear hr9 AB
              have q64:IntKind.i64.wrap (64*(j:Int)+64)=((64*(j+1):Nat):Int):=by rw[IntWalk.i64_in _ (by omega)];omega
              go_wp2
              go_roundw
              case rel=>
                refine⟨j+1,A9,8,hlt,by go_num,rfl,hide ⟨?_,(aA HI).2.trans (aA H9).2⟩⟩
                rw[aA HX];exact (aA H9).1
              case measure=>simp[intOf];omega
            ·
              obtain rfl:j=m:=by omega
              have d1:decide (64*j<n0+8)=false:=decide_eq_false (by omega);clear hlt hj
              have HSH:=hide (show (jV (eU l) (List.range j) mF).flatMap (fun w=>beBytes w.toNat 4)=sha l from by
                rw[nH];unfold sha
                rw[aA HLN,aA HM,Nat.mul_div_cancel_left _ (by omega)])
              have HL8:=hide (gV (eU l) (List.range j) mF rfl);generalize jV (eU l) (List.range j) mF=st at *;obtain⟨w9,rfl⟩:∃ w9:World,w9=wr:=⟨_,rfl⟩;obtain⟨g8,o8,c8',hA8,hc8,bJh,hg8,_⟩:=(aA HI).1.sub 0 8 (by omega) (by omega);cases hA8
              go_wp2_with (refine aT (ty:=142) (t:=142) (x:=.tmp 9) (y:=.tmp 55) rfl rfl dY rfl rfl (au.new w9 _ _) rfl rfl (by rw[<-Array.all_toList];rfl) ?_;intro w10 ut um AV;have CX:=hide (And.intro ut (And.intro um AV));clear ut um AV)
              clear d1
              have H11:=hide (show au w10 w9.heap.size 142 (dQ 32 [])/\au w10 w.heap.size 142 (dQ 32 [])/\Ext w w10/\Reads w10 1 (.slice (some ⟨g8,o8,none⟩) 8 c8) 8 (st.map w32)/\w.heap.size<w9.heap.size from by
                have hlt:=((aA OQ).2.1.ext (aA HI).2).lt;have hE:Ext w9 w10:=((Ext.refl w9).alloc _).trans' (aA CX).2.1 (fun _ _ h=>h) (fun i hi e=>by omega)
                exact⟨(aA CX).1,((aA OQ).2.1.ext (aA HI).2).ext hE,((aA OQ).2.2.1.trans (aA HI).2).trans hE,(aA HI).1.ext hE,hlt⟩)
              have F9:=hide (cZ l);clear CX HI
              go_loopw [10] (fun i wr=>∃ k:Nat,k<=32/\i=.int .i64 k/\Hid (au wr w9.heap.size 142 (dQ 32 ((sha l).take k))/\au wr w.heap.size 142 (dQ 32 [])/\Ext w wr/\Reads wr 1 (.slice (some ⟨g8,o8,none⟩) 8 c8) 8 (st.map w32))) (fun i _=>32-(intOf i).toNat)
              case atStart=>exact⟨0,Nat.zero_le _,rfl,hide ⟨(aA H11).1,(aA H11).2.1,(aA H11).2.2.1,(aA H11).2.2.2.1⟩⟩
              case round=>
                obtain⟨k,hk,rfl,HI⟩:=hrel
                by_cases hlt:k<32
                ·
                  obtain⟨q,r,rfl,hr4⟩:∃ q r,k=4*q+r/\r<4:=⟨k / 4,k % 4,by omega,by omega⟩;have hc1:=(aA HI).2.2.2.wordAt (j:=q) (by rw[aA HL8];omega)
                  have hc2:wr.cell? ⟨w9.heap.size,4*q+r,none⟩=some (.int .u8 0):=by
                    rw[(aA HI).1.cell];exact pU (by rw[List.length_take,aA F9];omega) hlt
                  have hf:=(aA HI).1.frozen (4*q+r)
                  have HX:=hide (show (sha l).take (4*q+r+1)=(sha l).take (4*q+r)++[UInt8.ofNat ((st.getD q 0).toNat / 256 ^ (3-r))] from by
                    rw[<-aA HSH]
                    exact aZe st q r (by rw[aA HL8];omega) hr4)
                  have HBY:=hide (byte_of (st.getD q 0).toNat (3-r));generalize st.getD q 0=x at *;have hx:=x.toNat_lt
                  have hq:q<8:=by omega
                  have e1:(4*(q:Int)+(r:Int)) / 4=(q:Int):=by omega
                  have e2:(4*(q:Int)+(r:Int)) % 4=(r:Int):=by omega
                  have e3:24-8*(r:Int)=((8*(3-r):Nat):Int):=by omega
                  go_wp2
                  go_roundw
                  case rel=>
                    obtain⟨q1,q2,q3,q4⟩:=aA HI;have h1:=q1.y9 (4*q+r) (.int .u8 ((UInt8.ofNat (x.toNat / 256 ^ (3-r))).toNat:Int));rw[yD _ (by rw[List.length_take,aA F9];omega) hlt,<-aA HX] at h1
                    refine⟨4*q+r+1,by omega,by go_num,hide ?_⟩
                    rw[aA HBY];have hlw:=(aA H11).2.2.2.2
                    refine⟨h1,q2.far' (by omega) _ _,q3.setCell (by simp;omega) _,q4.gu (dm.setCell (S:=fun k=>k=w9.heap.size) (dm.refl _ _) (.inl rfl) _) (fun k _ hk e=>by simp[Value.ownBlock] at hk;omega)⟩
                  case measure=>simp[intOf];omega
                ·
                  obtain rfl:k=32:=by omega
                  obtain⟨res,hres⟩:∃ r,((sha l).map gq).toArray=r:=⟨_,rfl⟩;have HR2:=hide (show dQ 32 ((sha l).take 32)=res from by rw[List.take_of_length_le (by rw[aA F9];omega),yE (aA F9),hres]);have HS:=hide (show res.size=32/\res.all (·.oneCell')=true from by rw[<-hres];exact⟨by simpa using aA F9,dB _⟩);have HRE:=hide hres;clear hres;rw[aA HR2] at HI
                  go_wp2_with (first
                    |(refine dL (ty:=142) (t:=142) (x:=.tmp 9) rfl rfl dY rfl (aA HI).1 (aA HS).1 ?_)
                    |(refine aT (ty:=142) (t:=142) (x:=.tmp 2) (y:=.tmp 73) rfl rfl dY rfl rfl (aA HI).2.1 (kJ (by simp)) (aA HS).1 (aA HS).2 ?_;intro w12 aDX hc12 aNG;have H12:=hide (And.intro aDX hc12);clear aDX hc12 aNG))
                  refine bodyPost_ret (v:=.agg res) (dJ dY rfl (aA H12).1 (aA HS).1 rfl) rfl ⟨by rw[aA HRE],?_⟩;exact (aA HI).2.2.1.trans' (aA H12).2 (fun _ _ h=>h) (fun i hi e=>by omega)
theorem GB.AP{w0 wr:World}{B n:Nat}{v:Value}{l:List UInt8}(h:GB w0 B v n l wr):Reads wr 1 v l.length (l.map gq):=by rw[h.len];exact h.reads
structure G2(w0:World)(B:Nat)(v1:Value)(n1:Nat)(l1:List UInt8)(v2:Value)(n2:Nat)(l2:List UInt8)(wr:World):Prop where
 one:GB w0 B v1 n1 l1 wr
 two:GB w0 B v2 n2 l2 wr
 far:∀ g,v1.ownBlock=some g->v2.ownBlock≠some g
theorem G2.swap{w0 wr:World}{B n1 n2:Nat}{v1 v2:Value}{l1 l2:List UInt8}(h:G2 w0 B v1 n1 l1 v2 n2 l2 wr):G2 w0 B v2 n2 l2 v1 n1 l1 wr:=⟨h.two,h.one,fun g h2 h1=>h.far g h1 h2⟩
theorem G2.to{w0 wr w1:World}{B n1 n2:Nat}{v1 v2:Value}{l1 l2:List UInt8}(h:G2 w0 B v1 n1 l1 v2 n2 l2 wr)(hE:Ext wr w1):G2 w0 B v1 n1 l1 v2 n2 l2 w1:=⟨h.one.to hE,h.two.to hE,h.far⟩
theorem G2.step{w0 wr w1 w2:World}{B n1 n2 n':Nat}{v1 v2 v':Value}{l1 l2 l':List UInt8}(h:G2 w0 B v1 n1 l1 v2 n2 l2 wr)(hE:Ext wr w1)(hc:dm (fun k=>v1.ownBlock=some k) w1 w2)(ho:w2.ownsRow B 5 1 v' n' (l'.map gq))
  (hv:v'.ownBlock=v1.ownBlock\/∃ g,v'.ownBlock=some g/\w1.heap.size<=g/\g<w2.heap.size):G2 w0 B v' n' l' v2 n2 l2 w2:=by
 have h2:=h.two.to hE
 refine⟨h.one.step hE hc ho,⟨mW h2.own hc (fun k hk e=>h.far k e hk),((h.one.step hE hc ho).ext),h2.base,Nat.le_trans h2.room hc.size⟩,fun g hg hg2=>?_⟩
 rcases hv with hv|⟨g',hv,hge,_⟩
 ·exact h.far g (hv ▸ hg) hg2
 ·rw[hv] at hg;cases hg;have:=(h2.own.lt _ hg2).2;omega
theorem G2.blk{w0 wr w1 w2:World}{B n1 n2:Nat}{v1 v2:Value}{l1 l2:List UInt8}(h:G2 w0 B v1 n1 l1 v2 n2 l2 wr)(hE:Ext wr w1)(hc:dm (fun k=>v1.ownBlock=some k) w1 w2){g:Nat}{t:TypeId}{cs:Array Value}(hb:au wr g t cs)(hg:g<B):au w2 g t cs:=h.one.blk hE hc hb hg
def oC(key:List UInt8)(x:UInt8)(k:Nat):List UInt8:=(List.range k).map fun i=>key.getD i 0 ^^^ x
theorem qF(key:List UInt8)(x:UInt8)(k:Nat):oC key x (k+1)=oC key x k++[key.getD k 0 ^^^ x]:=by unfold oC;rw[List.range_succ,List.map_append];rfl
theorem rY(key:List UInt8)(x:UInt8):oC key x 64=mV key x:=rfl
theorem aCs{w:World}{B:Nat}{v:Value}{n:Nat}{l l':List UInt8}{b:UInt8}(h:w.ownsRow B 5 1 v n (l.map gq++[.int .u8 (b.toNat:Int)]))(e:l'=l++[b]):w.ownsRow B 5 1 v n (l'.map gq):=by
 rw[e,List.map_append];exact h
theorem sD{w:World}{B:Nat}{v:Value}{n:Nat}{l m:List UInt8}(h:w.ownsRow B 5 1 v n (l.map gq++m.map gq)):w.ownsRow B 5 1 v n ((l++m).map gq):=by
 rw[List.map_append];exact h
theorem aOe (key b:List UInt8) (kv bv:Value) (w:World) (hk:Reads w 1 kv key.length (key.map gq)) (hb:Reads w 1 bv b.length (b.map gq)) (hkl:key.length<=1000000) (hbl:b.length<=1000000) :
    Calls Tryz.prog 70 #[kv,bv] w fun e w'=>e=.returned (.agg ((AA key b).map gq).toArray)/\Ext w w':=by
  have HB:=hide hb
  obtain⟨A,c,rfl⟩:∃ A c,kv=.slice A key.length c:=by obtain⟨_,A,c,h,_⟩:=hk;exact⟨A,c,h⟩
  obtain⟨Ab,cb,rfl⟩:∃ A c,bv=.slice A b.length c:=by obtain⟨_,A,c,h,_⟩:=hb;exact⟨A,c,h⟩
  have HK0:=hide hk;clear hk hb;rw[aLn]
  by_cases hlen:key.length > 64
  ·
    have G_ : decide ((64:Int)<(key.length:Int))=true:=decide_eq_true (by omega);rw[if_pos hlen]
    go_enter Tryz.func70,Tryz.ntmps70
    go_wp2_with (first
      |(go_at_call 96;refine (wE key _ _ ((aA HK0).ext ((Ext.refl w).alloc _)) (by omega)).mono ?_;rintro e w1 ⟨rfl,hE1⟩;have H1:=hide hE1;clear hE1)
      |(go_at_call 95;refine (aCr (sha key) _ (cZ key)).mono ?_;rintro e w2 ⟨A0,c0,rfl,h2⟩;have H2:=hide h2;clear h2))
    have HK:=hide (show Reads w2 1 (.slice A0 32 c0) 32 ((sha key).map gq)/\Ext w w2/\au w2 w.heap.size 142 (dQ 32 []) from
      ⟨(aA H2).reads,(((Ext.refl w).alloc _).trans (aA H1)).trans (aA H2).ext,(au.new w _ _).ext ((aA H1).trans (aA H2).ext)⟩)
    clear H1 H2;obtain⟨kk,hkk⟩:∃ kk,kk=sha key:=⟨_,rfl⟩;rw[<-hkk] at HK
    have hkl:kk.length=32:=by rw[hkk,cZ]
    have HKK:=hide hkk;have HKN:=hide hkl;clear hkk hkl;obtain⟨wk,rfl⟩:∃ wk:World,wk=w2:=⟨_,rfl⟩;have TK1:=hide True.intro
    go_loopw [5,6,7] (fun a b i wr=>∃ (k:Nat) (A1:Option Addr) (c1:Nat) (A2:Option Addr) (c2:Nat),k<=64/\i=.int .i64 k/\a=.slice A1 k c1/\b=.slice A2 k c2/\Hid (G2 wk wk.heap.size (.slice A1 k c1) k (oC kk 54 k) (.slice A2 k c2) k (oC kk 92 k) wr/\au wr w.heap.size 142 (dQ 32 []))) (fun _ _ i _=>64-(intOf i).toNat)
    case atStart=>exact⟨0,none,0,none,0,Nat.zero_le _,rfl,rfl,rfl,hide ⟨⟨GB.nil (Ext.refl _) (Nat.le_refl _) (Nat.le_refl _),GB.nil (Ext.refl _) (Nat.le_refl _) (Nat.le_refl _),fun g h=>by simp[Value.ownBlock] at h⟩,(aA HK).2.2⟩⟩
    case round =>
      obtain⟨k,A1,c1,A2,c2,hk,rfl,rfl,rfl,HI⟩:=hrel
      by_cases hlt:k<64
      ·
        have Ua:=hide (qF kk 54 k);have HS2:=hide (qF kk 92 k);have HX1:=hide (fun b:UInt8=>Ba b 54);have HX2:=hide (fun b:UInt8=>Ba b 92)
        have hcell:k<32->∃ b o,A0=some ⟨b,o,none⟩/\wr.cell? ⟨b,o+k,none⟩=some (.int .u8 ((kk.getD k 0).toNat:Int)):=fun h=>by
          obtain⟨b,o,c,u,e,_,_,_,_,_⟩:=((aA HK).1.ext (aA HI).1.one.ext).DN h;cases e
          exact⟨b,o,rfl,((aA HK).1.ext (aA HI).1.one.ext).byteAt (by first|exact h|(rw[aA HKN];exact h))⟩
        have HCL:=hide hcell;clear hcell
        go_upto_if 22 with fail
        go_cut [8] (fun s wx=>∃ x:UInt8,s=.int .u8 (x.toNat:Int)/\Hid (x=kk.getD k 0/\Ext wr wx/\G2 wk wk.heap.size (.slice A1 k c1) k (oC kk 54 k) (.slice A2 k c2) k (oC kk 92 k) wx/\au wx w.heap.size 142 (dQ 32 [])))
        case first=>
          by_cases hin:k<32
          ·
            obtain⟨g,o,rfl,hc⟩:=aA HCL hin;have hin2:decide (k<32)=true:=decide_eq_true hin
            have WS:(k:Int)<32:=by omega
            have WR:decide ((k:Int)<32)=true:=decide_eq_true WS;generalize hx:kk.getD k 0=x at *;have HX:=hide hx;clear hx
            go_wp2_with fail
            go_meet
            exact⟨x,rfl,hide ⟨rfl,Ext.refl _,(aA HI).1,(aA HI).2⟩⟩
          ·
            have hin2:decide (k<32)=false:=decide_eq_false hin;have WR:decide ((k:Int)<32)=false:=decide_eq_false (by omega);have HX:=hide (show (0:UInt8)=kk.getD k 0 from by rw[zG,List.getElem?_eq_none (by first|omega|(rw[aA HKN];omega))];rfl)
            go_wp2_with fail
            go_meet
            exact⟨0,rfl,hide ⟨aA HX,Ext.refl _,(aA HI).1,(aA HI).2⟩⟩
        case rest=>
          obtain⟨x,rfl,HX⟩:=hcut;obtain⟨wx,rfl⟩:∃ wx:World,wx=wc:=⟨_,rfl⟩;have hx1:bits BinOp.xor IntKind.u8 (x.toNat:Int) 54=((x ^^^ 54).toNat:Int):=Ba x 54;have hx2:bits BinOp.xor IntKind.u8 (x.toNat:Int) 92=((x ^^^ 92).toNat:Int):=Ba x 92;rw[<-(aA HX).1] at Ua HS2
          go_wp2_with (first
            | (
             at_builtin;refine bH (s:=.tmp 27) (x:=.tmp 30) rfl rfl fC rfl (bQ (aA HX).2.2.1.one.own ((Ext.refl _).alloc _)) rfl (Reads.t_ _ _ _) (dN.one rfl) (by omega) (Nat.le_trans (aA HX).2.2.1.one.room (by simp)) ?_;intro A3 c3 w3 ho hc hv;have H0:=hide (And.intro ho (And.intro hc hv));clear ho hc hv
             have H3:=hide (And.intro (G2.step (aA HX).2.2.1 ((Ext.refl _).alloc _) (aA H0).2.1 (aCs (aA H0).1 (aA Ua)) (aA H0).2.2) ((aA HX).2.2.1.blk ((Ext.refl _).alloc _) (aA H0).2.1 (aA HX).2.2.2 (aA HK).2.2.lt))
             clear H0)
            | (
             at_builtin;refine bH (s:=.tmp 32) (x:=.tmp 35) rfl rfl fC rfl (bQ (aA H3).1.two.own ((Ext.refl _).alloc _)) rfl (Reads.t_ _ _ _) (dN.one rfl) (by omega) (Nat.le_trans (aA H3).1.two.room (by simp)) ?_;intro A4 c4 w4 ho hc hv;have H0:=hide (And.intro ho (And.intro hc hv));clear ho hc hv
             have H4:=hide (And.intro (G2.step (aA H3).1.swap ((Ext.refl _).alloc _) (aA H0).2.1 (aCs (aA H0).1 (aA HS2)) (aA H0).2.2) ((aA H3).1.swap.blk ((Ext.refl _).alloc _) (aA H0).2.1 (aA H3).2 (aA HK).2.2.lt))
             clear H0))
          go_roundw
          case rel=>exact⟨k+1,A3,c3,A4,c4,hlt,by go_num,rfl,rfl,hide ⟨(aA H4).1.swap,(aA H4).2⟩⟩
          case measure=>simp[intOf];omega
      ·
        obtain rfl:k=64:=by omega
        rw[rY,rY] at HI;have EU:=hide (And.intro (gB kk 54) (gB kk 92));obtain⟨p1,hp1⟩:∃ p,mV kk 54=p:=⟨_,rfl⟩;obtain⟨p2,hp2⟩:∃ p,mV kk 92=p:=⟨_,rfl⟩;rw[hp1,hp2] at EU HI;have HPE:=hide (And.intro hp1 hp2);clear hp1 hp2
        go_wp2_with (first
          | (
           at_builtin;refine bH (s:=.tmp 37) (x:=.tmp 38) rfl rfl fC rfl (aA HI).1.one.own rfl ((aA HB).ext ((aA HK).2.1.trans (aA HI).1.one.ext)) (dN.u8 b) (by omega) (aA HI).1.one.room ?_;intro A5 c5 w5 ho hc hv;have H0:=hide (And.intro ho (And.intro hc hv));clear ho hc hv
           have H5:=hide (And.intro (G2.step (aA HI).1 (Ext.refl _) (aA H0).2.1 (sD (aA H0).1) (aA H0).2.2) ((aA HI).1.blk (Ext.refl _) (aA H0).2.1 (aA HI).2 (aA HK).2.2.lt))
           clear H0)
          |(have HT1:=aA TK1;go_at_call 96;clear TK1 HT1;refine (wE (p1++b) _ _ (aA H5).1.one.AP (by rw[(aA H5).1.one.len];omega)).mono ?_;rintro e w6 ⟨rfl,Ai⟩;have H6:=hide (And.intro ((aA H5).1.to Ai) ((aA H5).2.ext Ai));clear Ai)
          |(go_at_call 95;refine (aCr (sha (p1++b)) _ (cZ _)).mono ?_;rintro e w7 ⟨A7,c7,rfl,h7⟩;have H7:=hide (And.intro h7 (And.intro ((aA H6).1.to h7.ext) ((aA H6).2.ext h7.ext)));clear h7)
          | (
           at_builtin;refine bH (s:=.tmp 40) (x:=.tmp 43) rfl rfl fC rfl (aA H7).2.1.two.own rfl (aA H7).1.reads (dN.u8 _) (by omega) (aA H7).2.1.two.room ?_;intro A8 c8 w8 ho hc hv;have H0:=hide (And.intro ho (And.intro hc hv));clear ho hc hv
           have H8:=hide (And.intro (G2.step (aA H7).2.1.swap (Ext.refl _) (aA H0).2.1 (sD (aA H0).1) (aA H0).2.2) ((aA H7).2.1.swap.blk (Ext.refl _) (aA H0).2.1 (aA H7).2.2 (aA HK).2.2.lt))
           clear H0))
        refine (wE (p2++sha (p1++b)) _ _ (aA H8).1.one.AP (by rw[(aA H8).1.one.len];omega)).mono ?_;rintro e w9 ⟨rfl,AB⟩;have H9:=hide (And.intro ((aA HK).2.1.trans ((aA H8).1.one.ext.trans AB)) ((aA H8).2.ext AB));clear AB;have Ap:=hide (cZ (p2++sha (p1++b)))
        go_wp2_with (refine aT (ty:=142) (t:=142) (x:=.tmp 4) (y:=.tmp 46) rfl rfl dY rfl rfl (aA H9).2 (kJ (by simp)) (by simpa using aA Ap) (dB _) ?_;intro w10 ut um AV;have CX:=hide (And.intro ut um);clear ut um AV)
        refine bodyPost_ret (v:=.agg ((sha (p2++sha (p1++b))).map gq).toArray) (dJ dY rfl (aA CX).1 (by simpa using aA Ap) rfl) rfl ⟨(by rw[<-(aA HPE).1,<-(aA HPE).2,aA HKK]),?_⟩;exact (aA H9).1.trans' (aA CX).2 (fun _ _ h=>h) (fun i hi e=>by omega)
  ·
    have G_ : decide ((64:Int)<(key.length:Int))=false:=decide_eq_false (by omega);rw[if_neg hlen]
    go_enter Tryz.func70,Tryz.ntmps70
    obtain⟨kk,rfl⟩:∃ kk,kk=key:=⟨_,rfl⟩;obtain⟨A0,rfl⟩:∃ a,a=A:=⟨_,rfl⟩;have HKN:=hide (show kk.length=kk.length from rfl)
    go_wp2
    have HK:=hide (show Reads (w.alloc (.cells (Array.replicate 32 (.int .u8 0)) 142)) 1 (.slice A0 kk.length c) kk.length (kk.map gq)/\Ext w (w.alloc (.cells (Array.replicate 32 (.int .u8 0)) 142))/\au (w.alloc (.cells (Array.replicate 32 (.int .u8 0)) 142)) w.heap.size 142 (dQ 32 []) from
      ⟨(aA HK0).ext ((Ext.refl w).alloc _),(Ext.refl w).alloc _,by rw[aGj];exact au.new w _ _⟩)
    change Code.wp _ _ _ _ (w.alloc (.cells (Array.replicate 32 (.int .u8 0)) 142));generalize w.alloc (.cells (Array.replicate 32 (.int .u8 0)) 142)=wk at *;have TK1:=hide True.intro
    go_loopw [5,6,7] (fun a b i wr=>∃ (k:Nat) (A1:Option Addr) (c1:Nat) (A2:Option Addr) (c2:Nat),k<=64/\i=.int .i64 k/\a=.slice A1 k c1/\b=.slice A2 k c2/\Hid (G2 wk wk.heap.size (.slice A1 k c1) k (oC kk 54 k) (.slice A2 k c2) k (oC kk 92 k) wr/\au wr w.heap.size 142 (dQ 32 []))) (fun _ _ i _=>64-(intOf i).toNat)
    case atStart=>exact⟨0,none,0,none,0,Nat.zero_le _,rfl,rfl,rfl,hide ⟨⟨GB.nil (Ext.refl _) (Nat.le_refl _) (Nat.le_refl _),GB.nil (Ext.refl _) (Nat.le_refl _) (Nat.le_refl _),fun g h=>by simp[Value.ownBlock] at h⟩,(aA HK).2.2⟩⟩
    case round =>
      obtain⟨k,A1,c1,A2,c2,hk,rfl,rfl,rfl,HI⟩:=hrel
      by_cases hlt:k<64
      ·
        have Ua:=hide (qF kk 54 k);have HS2:=hide (qF kk 92 k);have HX1:=hide (fun b:UInt8=>Ba b 54);have HX2:=hide (fun b:UInt8=>Ba b 92)
        have hcell:k<kk.length->∃ b o,A0=some ⟨b,o,none⟩/\wr.cell? ⟨b,o+k,none⟩=some (.int .u8 ((kk.getD k 0).toNat:Int)):=fun h=>by
          obtain⟨b,o,c,u,e,_,_,_,_,_⟩:=((aA HK).1.ext (aA HI).1.one.ext).DN h;cases e
          exact⟨b,o,rfl,((aA HK).1.ext (aA HI).1.one.ext).byteAt (by first|exact h|(rw[aA HKN];exact h))⟩
        have HCL:=hide hcell;clear hcell
        go_upto_if 22 with fail
        go_cut [8] (fun s wx=>∃ x:UInt8,s=.int .u8 (x.toNat:Int)/\Hid (x=kk.getD k 0/\Ext wr wx/\G2 wk wk.heap.size (.slice A1 k c1) k (oC kk 54 k) (.slice A2 k c2) k (oC kk 92 k) wx/\au wx w.heap.size 142 (dQ 32 [])))
        case first=>
          by_cases hin:k<kk.length
          ·
            obtain⟨g,o,rfl,hc⟩:=aA HCL hin;have hin2:decide (k<kk.length)=true:=decide_eq_true hin
            have WS:(k:Int)<(kk.length:Int):=by omega
            have WR:decide ((k:Int)<(kk.length:Int))=true:=decide_eq_true WS;generalize hx:kk.getD k 0=x at *;have HX:=hide hx;clear hx
            go_wp2_with fail
            go_meet
            exact⟨x,rfl,hide ⟨rfl,Ext.refl _,(aA HI).1,(aA HI).2⟩⟩
          ·
            have hin2:decide (k<kk.length)=false:=decide_eq_false hin;have WR:decide ((k:Int)<(kk.length:Int))=false:=decide_eq_false (by omega);have HX:=hide (show (0:UInt8)=kk.getD k 0 from by rw[zG,List.getElem?_eq_none (by first|omega|(rw[aA HKN];omega))];rfl)
            go_wp2_with fail
            go_meet
            exact⟨0,rfl,hide ⟨aA HX,Ext.refl _,(aA HI).1,(aA HI).2⟩⟩
        case rest=>
          obtain⟨x,rfl,HX⟩:=hcut;obtain⟨wx,rfl⟩:∃ wx:World,wx=wc:=⟨_,rfl⟩;have hx1:bits BinOp.xor IntKind.u8 (x.toNat:Int) 54=((x ^^^ 54).toNat:Int):=Ba x 54;have hx2:bits BinOp.xor IntKind.u8 (x.toNat:Int) 92=((x ^^^ 92).toNat:Int):=Ba x 92;rw[<-(aA HX).1] at Ua HS2
          go_wp2_with (first
            | (
             at_builtin;refine bH (s:=.tmp 27) (x:=.tmp 30) rfl rfl fC rfl (bQ (aA HX).2.2.1.one.own ((Ext.refl _).alloc _)) rfl (Reads.t_ _ _ _) (dN.one rfl) (by omega) (Nat.le_trans (aA HX).2.2.1.one.room (by simp)) ?_;intro A3 c3 w3 ho hc hv;have H0:=hide (And.intro ho (And.intro hc hv));clear ho hc hv
             have H3:=hide (And.intro (G2.step (aA HX).2.2.1 ((Ext.refl _).alloc _) (aA H0).2.1 (aCs (aA H0).1 (aA Ua)) (aA H0).2.2) ((aA HX).2.2.1.blk ((Ext.refl _).alloc _) (aA H0).2.1 (aA HX).2.2.2 (aA HK).2.2.lt))
             clear H0)
            | (
             at_builtin;refine bH (s:=.tmp 32) (x:=.tmp 35) rfl rfl fC rfl (bQ (aA H3).1.two.own ((Ext.refl _).alloc _)) rfl (Reads.t_ _ _ _) (dN.one rfl) (by omega) (Nat.le_trans (aA H3).1.two.room (by simp)) ?_;intro A4 c4 w4 ho hc hv;have H0:=hide (And.intro ho (And.intro hc hv));clear ho hc hv
             have H4:=hide (And.intro (G2.step (aA H3).1.swap ((Ext.refl _).alloc _) (aA H0).2.1 (aCs (aA H0).1 (aA HS2)) (aA H0).2.2) ((aA H3).1.swap.blk ((Ext.refl _).alloc _) (aA H0).2.1 (aA H3).2 (aA HK).2.2.lt))
             clear H0))
          go_roundw
          case rel=>exact⟨k+1,A3,c3,A4,c4,hlt,by go_num,rfl,rfl,hide ⟨(aA H4).1.swap,(aA H4).2⟩⟩
          case measure=>simp[intOf];omega
      ·
        obtain rfl:k=64:=by omega
        rw[rY,rY] at HI;have EU:=hide (And.intro (gB kk 54) (gB kk 92));obtain⟨p1,hp1⟩:∃ p,mV kk 54=p:=⟨_,rfl⟩;obtain⟨p2,hp2⟩:∃ p,mV kk 92=p:=⟨_,rfl⟩;rw[hp1,hp2] at EU HI;have HPE:=hide (And.intro hp1 hp2);clear hp1 hp2
        go_wp2_with (first
          | (
           at_builtin;refine bH (s:=.tmp 37) (x:=.tmp 38) rfl rfl fC rfl (aA HI).1.one.own rfl ((aA HB).ext ((aA HK).2.1.trans (aA HI).1.one.ext)) (dN.u8 b) (by omega) (aA HI).1.one.room ?_;intro A5 c5 w5 ho hc hv;have H0:=hide (And.intro ho (And.intro hc hv));clear ho hc hv
           have H5:=hide (And.intro (G2.step (aA HI).1 (Ext.refl _) (aA H0).2.1 (sD (aA H0).1) (aA H0).2.2) ((aA HI).1.blk (Ext.refl _) (aA H0).2.1 (aA HI).2 (aA HK).2.2.lt))
           clear H0)
          |(have HT1:=aA TK1;go_at_call 96;clear TK1 HT1;refine (wE (p1++b) _ _ (aA H5).1.one.AP (by rw[(aA H5).1.one.len];omega)).mono ?_;rintro e w6 ⟨rfl,Ai⟩;have H6:=hide (And.intro ((aA H5).1.to Ai) ((aA H5).2.ext Ai));clear Ai)
          |(go_at_call 95;refine (aCr (sha (p1++b)) _ (cZ _)).mono ?_;rintro e w7 ⟨A7,c7,rfl,h7⟩;have H7:=hide (And.intro h7 (And.intro ((aA H6).1.to h7.ext) ((aA H6).2.ext h7.ext)));clear h7)
          | (
           at_builtin;refine bH (s:=.tmp 40) (x:=.tmp 43) rfl rfl fC rfl (aA H7).2.1.two.own rfl (aA H7).1.reads (dN.u8 _) (by omega) (aA H7).2.1.two.room ?_;intro A8 c8 w8 ho hc hv;have H0:=hide (And.intro ho (And.intro hc hv));clear ho hc hv
           have H8:=hide (And.intro (G2.step (aA H7).2.1.swap (Ext.refl _) (aA H0).2.1 (sD (aA H0).1) (aA H0).2.2) ((aA H7).2.1.swap.blk (Ext.refl _) (aA H0).2.1 (aA H7).2.2 (aA HK).2.2.lt))
           clear H0))
        refine (wE (p2++sha (p1++b)) _ _ (aA H8).1.one.AP (by rw[(aA H8).1.one.len];omega)).mono ?_;rintro e w9 ⟨rfl,AB⟩;have H9:=hide (And.intro ((aA HK).2.1.trans ((aA H8).1.one.ext.trans AB)) ((aA H8).2.ext AB));clear AB;have Ap:=hide (cZ (p2++sha (p1++b)))
        go_wp2_with (refine aT (ty:=142) (t:=142) (x:=.tmp 4) (y:=.tmp 46) rfl rfl dY rfl rfl (aA H9).2 (kJ (by simp)) (by simpa using aA Ap) (dB _) ?_;intro w10 ut um AV;have CX:=hide (And.intro ut um);clear ut um AV)
        refine bodyPost_ret (v:=.agg ((sha (p2++sha (p1++b))).map gq).toArray) (dJ dY rfl (aA CX).1 (by simpa using aA Ap) rfl) rfl ⟨(by rw[(aA HPE).1,(aA HPE).2]),?_⟩;exact (aA H9).1.trans' (aA CX).2 (fun _ _ h=>h) (fun i hi e=>by omega)
theorem aKn(key b:List UInt8)(kv bv:Value)(w:World)(hk:Reads w 1 kv key.length (key.map gq))(hb:Reads w 1 bv b.length (b.map gq))(hkl:key.length<=1000000)(hbl:b.length<=1000000) :
  Calls Tryz.prog 40 #[kv,bv] w fun e w'=>e=.returned (.agg ((EI key b).map gq).toArray)/\Ext w w':=by
 have HH:=hide (aOe key b kv bv _ (hk.ext ((Ext.refl w).alloc (.cells (Array.replicate 16 (.int .u8 0)) 23))) (hb.ext ((Ext.refl w).alloc _)) hkl hbl);have HL:=hide (lJ key b);clear hk hb
 go_enter Tryz.func40,Tryz.ntmps40
 go_wp2_with fail
 refine (aA HH).mono ?_;rintro e w1 ⟨rfl,hE1⟩
 go_wp2_with fail
 refine (aIc (AA key b) _ (iJ _ _)).mono ?_;rintro e w2 ⟨rfl,hE2⟩;have hB:=(au.new w 23 (Array.replicate 16 (.int .u8 0))).ext (hE1.trans hE2);have HB:=hide (And.intro hB (hE1.trans hE2));clear hB hE1 hE2;rw[show (AA key b).take 16=EI key b from rfl]
 go_wp2_with (refine aT (ty:=23) (t:=23) (x:=.tmp 4) (y:=.tmp 8) rfl rfl aV rfl rfl (aA HB).1 (by simp) ?_ (dB _) ?_;(focus (simpa using aA HL));intro w3 hb3 hc3 hz3;have H3:=hide (And.intro hb3 hc3);clear hb3 hc3 hz3)
 refine bodyPost_ret (v:=.agg ((EI key b).map gq).toArray) (dJ aV rfl (aA H3).1 (by simpa using aA HL) rfl) rfl ⟨rfl,?_⟩;exact (((Ext.refl w).alloc _).trans (aA HB).2).trans' (aA H3).2 (fun _ _ h=>h) (fun i hi e=>by omega)
theorem Wh(w:World)(o:Obj)(x:UInt8):GB w (w.heap.size+1) (.slice (some ⟨w.heap.size+1,0,none⟩) 1 1) 1 [x] ((w.alloc o).alloc (.cells #[.int .u8 (x.toNat:Int)] 5)):=
 ⟨aVi _ _ _ _ (by simp) (by simp),((Ext.refl w).alloc _).alloc _,by omega,by simp⟩
theorem Lp(w:World)(o:Obj):GB w (w.heap.size+1) (.slice (some ⟨w.heap.size+1,0,none⟩) 0 0) 0 [] ((w.alloc o).alloc (.cells #[] 5)):=
 ⟨aIi _ _ _ _ (by simp) (by simp),((Ext.refl w).alloc _).alloc _,by omega,by simp⟩
theorem aSe(tag:Int)(ps:List (List UInt8))(pv:Value)(w:World)(hp:Parts w pv ps)(hps:ps.length<=1000)(hpl:∀ p∈ps,p.length<=10000) :
  Calls Tryz.prog 156 #[.int .i64 tag,pv] w fun e w'=>e=.returned (.agg ((jS tag ps).map gq).toArray)/\Ext w w':=by
 have HP:=hide hp;have EU:=hide hpl
 obtain⟨A1,c1,rfl⟩:∃ A c,pv=.slice A ps.length c:=by obtain⟨vs,_,⟨_,A,c,h,_⟩,_⟩:=hp;exact⟨A,c,h⟩
 clear hp hpl;obtain⟨l0,hl0⟩:∃ l,l=[qK tag]:=⟨_,rfl⟩;have HL0:=hide hl0
 have HI0:=hide (show GB w (w.heap.size+1) (.slice (some ⟨w.heap.size+1,0,none⟩) 1 1) 1 (l0++encs (ps.take 0)) ((w.alloc (.cells (dQ 16 []) 23)).alloc (.cells #[.int .u8 (tag % 256)] 5))/\au ((w.alloc (.cells (dQ 16 []) 23)).alloc (.cells #[.int .u8 (tag % 256)] 5)) w.heap.size 23 (dQ 16 []) from by
  rw[hl0,aUk,List.take_zero,show encs []=[] from rfl,List.append_nil]
  exact⟨Wh _ _ _,(au.new _ _ _).alloc _⟩)
 clear hl0
 go_enter Tryz.func156,Tryz.ntmps156
 go_wp2
 go_loopw [5,6] (fun b i wr=>∃ (k n:Nat) (A:Option Addr) (c:Nat),k<=ps.length/\i=.int .i64 k/\b=.slice A n c/\n<=90000+k*10010/\Hid (GB w (w.heap.size+1) (.slice A n c) n (l0++encs (ps.take k)) wr/\au wr w.heap.size 23 (dQ 16 []))) (fun _ i _=>ps.length-(intOf i).toNat)
 case atStart=>exact⟨0,_,_,_,Nat.zero_le _,rfl,rfl,by omega,HI0⟩
 case round=>
  clear HI0;obtain⟨k,n,A,c,hk,rfl,rfl,hn,HI⟩:=hrel
  by_cases hlt:k<ps.length
  ·have hpw:Parts wr (.slice A1 ps.length c1) ps:=(aA HP).ext (aA HI).1.ext;obtain⟨vs,q1,q2,q3⟩:=hpw;obtain⟨u,q4,q5⟩:=q3 k ps[k] (zH hlt);obtain⟨b,o,c',u',hv,_,_,hb,hu,hcc⟩:=q2.DN hlt;cases hv;rw[q4] at hu;cases hu
   obtain⟨Au,cu,rfl⟩:∃ A c,u=.slice A ps[k].length c:=by obtain⟨_,A,c,h,_⟩:=q5;exact⟨A,c,h⟩
   have hpk:=aA EU ps[k] (List.getElem_mem hlt);have Xu:=hide q5;have HE:=hide (aFu ps k hlt);clear q1 q2 q3 q4 q5;have hwl:=fO ps[k];generalize ps[k]=p at *;have HW:=hide (fun w=>rC (strOf p) w (by rw[bW];omega));rw[dD] at HW
   go_wp2_with (first
    |(refine pY (src:=74) (dst:=9) (x:=.tmp 20) (l:=p) rfl rfl Tryz.underlying74 Tryz.underlying5 Tryz.underlying9 rfl (aA Xu) ?_)
    |(go_at_call 39;refine (aA HW _).mono ?_;rintro e w3 ⟨A3,c3,rfl,ho3,ug⟩;have H3:=hide (And.intro ho3 ug);clear ho3 ug)
    |(at_builtin;refine bH rfl rfl fC rfl (bQ (aA HI).1.own (aA H3).2) rfl (Reads.l9 (aA H3).1) (dN.u8 _) (by omega) (Nat.le_trans (aA HI).1.room (aA H3).2.size') ?_;intro A' c4 w4 ho hc hv;have H4:=hide (And.intro ho hc);clear ho hc hv))
   go_roundw
   case rel=>
    refine⟨k+1,n+(bT p).length,A',c4,by omega,by go_num,rfl,by rw[Nat.succ_mul];omega,hide ⟨?_,(aA HI).1.blk (aA H3).2 (aA H4).2 (aA HI).2 (Nat.lt_succ_self _)⟩⟩
    rw[aA HE,<-List.append_assoc];exact (aA HI).1.step (aA H3).2 (aA H4).2 (sD (aA H4).1)
   case measure=>simp[intOf];omega
  ·obtain rfl:k=ps.length:=by omega
   clear hlt hk;rw[List.take_length] at HI;obtain⟨ll,hll⟩:∃ l,l0++encs ps=l:=⟨_,rfl⟩;rw[hll] at HI;have HLL:=hide hll;clear hll
   have hn':n<=100000000:=by omega
   go_wp2_with fail
   refine (wE ll _ _ (aA HI).1.AP (by rw[(aA HI).1.len];exact hn')).mono ?_;rintro e w8 ⟨rfl,UI⟩;have HE8:=hide UI;clear UI
   go_wp2_with fail
   refine (aIc (sha ll) _ (cZ _)).mono ?_;rintro e w9 ⟨rfl,aEF⟩;have AB:=(aA HE8).trans aEF;clear aEF;obtain⟨rr,hrr⟩:∃ r,(sha ll).take 16=r:=⟨_,rfl⟩
   have hrl:rr.length=16:=by rw[<-hrr,List.length_take,cZ];rfl
   rw[hrr];have HRR:=hide hrr;clear hrr;have Ap:=hide hrl;have H9:=hide (And.intro ((aA HI).1.ext.trans AB) ((aA HI).2.ext AB));clear AB
   go_wp2_with (refine aT (ty:=23) (t:=23) (x:=.tmp 4) (y:=.tmp 26) rfl rfl aV rfl rfl (aA H9).2 (kJ (by simp)) (by simpa using aA Ap) (dB _) ?_;intro w10 ut um AV;have CX:=hide (And.intro ut um);clear ut um AV)
   refine bodyPost_ret (dJ aV rfl (aA CX).1 (by simpa using aA Ap) rfl) rfl ⟨(by unfold jS;rw[<-aA HL0,aA HLL,aA HRR]),?_⟩;exact (aA H9).1.trans' (aA CX).2 (fun _ _ h=>h) (fun i hi e=>by omega)
theorem xM(key:List UInt8)(kv:Value)(label:ByteArray)(ps:List (List UInt8))(pv:Value)(w:World)(hk:Reads w 1 kv key.length (key.map gq))(hkl:key.length<=10000)(hll:label.size<=10000)(hp:Parts w pv ps)(hps:ps.length<=90)(hpl:∀ p∈ps,p.length<=10000) :
  Calls Tryz.prog 22 #[kv,.string label,pv] w fun e w'=>e=.returned (.agg ((kH key label.data.toList ps).map gq).toArray)/\Ext w w':=by
 have HP:=hide hp;have EU:=hide hpl;have HK:=hide hk
 obtain⟨A1,c1,rfl⟩:∃ A c,pv=.slice A ps.length c:=by obtain⟨vs,_,⟨_,A,c,h,_⟩,_⟩:=hp;exact⟨A,c,h⟩
 clear hp hpl hk;have aNT:(bT label.data.toList).length<=10+label.size:=fO label.data.toList;have HW0:=hide (fun w=>rC label w (by omega));obtain⟨l0,hl0⟩:∃ l,bT label.data.toList=l:=⟨_,rfl⟩;rw[hl0] at HW0 aNT;have HL0:=hide hl0;clear hl0
 go_enter Tryz.func22,Tryz.ntmps22
 go_wp2_with fail
 refine (aA HW0 _).mono ?_;rintro e w1 ⟨A0,c0,rfl,ho0,hE0⟩
 have H1:=hide (show GB w (w.heap.size+1) (.slice (some ⟨w.heap.size+1,0,none⟩) 0 0) 0 [] w1/\au w1 w.heap.size 23 (dQ 16 [])/\Reads w1 1 (.slice A0 l0.length c0) l0.length (l0.map gq) from
  ⟨(Lp w _).to hE0,((au.new w _ _).alloc _).ext hE0,Reads.l9 ho0⟩)
 clear ho0 hE0
 go_wp2_with (at_builtin;refine bH rfl rfl fC rfl (aA H1).1.own rfl (aA H1).2.2 (dN.u8 _) (by omega) (aA H1).1.room ?_;intro A2 c2 w2 ho hc hv;have H2:=hide (And.intro ho hc);clear ho hc hv)
 have HI0:=hide (show GB w (w.heap.size+1) (.slice A2 (0+l0.length) c2) (0+l0.length) (l0++encs (ps.take 0)) w2/\au w2 w.heap.size 23 (dQ 16 []) from
  ⟨by rw[List.take_zero,show encs []=[] from rfl,List.append_nil];exact (aA H1).1.step (Ext.refl _) (aA H2).2 (aA H2).1,(aA H1).1.blk (Ext.refl _) (aA H2).2 (aA H1).2.1 (Nat.lt_succ_self _)⟩)
 rw[Nat.zero_add] at HI0;clear H1 H2
 go_loopw [7,8] (fun b i wr=>∃ (k n:Nat) (A:Option Addr) (c:Nat),k<=ps.length/\i=.int .i64 k/\b=.slice A n c/\n<=90000+k*10010/\Hid (GB w (w.heap.size+1) (.slice A n c) n (l0++encs (ps.take k)) wr/\au wr w.heap.size 23 (dQ 16 []))) (fun _ i _=>ps.length-(intOf i).toNat)
 case atStart=>exact⟨0,_,_,_,Nat.zero_le _,rfl,rfl,by omega,HI0⟩
 case round=>
  clear HI0;obtain⟨k,n,A,c,hk,rfl,rfl,hn,HI⟩:=hrel
  by_cases hlt:k<ps.length
  ·have hpw:Parts wr (.slice A1 ps.length c1) ps:=(aA HP).ext (aA HI).1.ext;obtain⟨vs,q1,q2,q3⟩:=hpw;obtain⟨u,q4,q5⟩:=q3 k ps[k] (zH hlt);obtain⟨b,o,c',u',hv,_,_,hb,hu,hcc⟩:=q2.DN hlt;cases hv;rw[q4] at hu;cases hu
   obtain⟨Au,cu,rfl⟩:∃ A c,u=.slice A ps[k].length c:=by obtain⟨_,A,c,h,_⟩:=q5;exact⟨A,c,h⟩
   have hpk:=aA EU ps[k] (List.getElem_mem hlt);have Xu:=hide q5;have HE:=hide (aFu ps k hlt);clear q1 q2 q3 q4 q5;have hwl:=fO ps[k];generalize ps[k]=p at *;have HW:=hide (fun w=>rC (strOf p) w (by rw[bW];omega));rw[dD] at HW
   go_wp2_with (first
    |(refine pY (src:=74) (dst:=9) (x:=.tmp 23) (l:=p) rfl rfl Tryz.underlying74 Tryz.underlying5 Tryz.underlying9 rfl (aA Xu) ?_)
    |(go_at_call 39;refine (aA HW _).mono ?_;rintro e w3 ⟨A3,c3,rfl,ho3,ug⟩;have H3:=hide (And.intro ho3 ug);clear ho3 ug)
    |(at_builtin;refine bH rfl rfl fC rfl (bQ (aA HI).1.own (aA H3).2) rfl (Reads.l9 (aA H3).1) (dN.u8 _) (by omega) (Nat.le_trans (aA HI).1.room (aA H3).2.size') ?_;intro A' c4 w4 ho hc hv;have H4:=hide (And.intro ho hc);clear ho hc hv))
   go_roundw
   case rel=>
    refine⟨k+1,n+(bT p).length,A',c4,by omega,by go_num,rfl,by rw[Nat.succ_mul];omega,hide ⟨?_,(aA HI).1.blk (aA H3).2 (aA H4).2 (aA HI).2 (Nat.lt_succ_self _)⟩⟩
    rw[aA HE,<-List.append_assoc];exact (aA HI).1.step (aA H3).2 (aA H4).2 (sD (aA H4).1)
   case measure=>simp[intOf];omega
  ·obtain rfl:k=ps.length:=by omega
   clear hlt hk;rw[List.take_length] at HI;obtain⟨ll,hll⟩:∃ l,l0++encs ps=l:=⟨_,rfl⟩;rw[hll] at HI;have HLL:=hide hll;clear hll
   have hn':n<=1000000:=by omega
   go_wp2_with fail
   refine (aKn key ll _ _ _ ((aA HK).ext (aA HI).1.ext) (aA HI).1.AP (by omega) (by rw[(aA HI).1.len];exact hn')).mono ?_;rintro e w9 ⟨rfl,AB⟩;have Ap:=hide (lJ key ll);have H9:=hide (And.intro ((aA HI).1.ext.trans AB) ((aA HI).2.ext AB));clear AB
   go_wp2_with (refine aT (ty:=23) (t:=23) (x:=.tmp 6) (y:=.tmp 29) rfl rfl aV rfl rfl (aA H9).2 (kJ (by simp)) (by simpa using aA Ap) (dB _) ?_;intro w10 ut um AV;have CX:=hide (And.intro ut um);clear ut um AV)
   refine bodyPost_ret (dJ aV rfl (aA CX).1 (by simpa using aA Ap) rfl) rfl ⟨(by unfold kH;rw[aA HL0,aA HLL]),?_⟩;exact (aA H9).1.trans' (aA CX).2 (fun _ _ h=>h) (fun i hi e=>by omega)
theorem yX{w:World}{g:Nat}{t:TypeId}{key:List UInt8}{arr:Array Value}(h:au w g t arr)(ha:(key.map gq).toArray=arr)(hk:key.length=16):Reads w 1 (.slice (some ⟨g,0,none⟩) 16 16) key.length (key.map gq):=by
 have hs:arr.size=16:=by rw[<-ha];simpa using hk
 have:=Reads.su h (i:=0) (n:=16) (c:=16) (by omega) (by omega) (by unfold maxLen;omega);rw[<-ha] at this;simp only[List.drop_zero] at this;rw[List.take_of_length_le (by rw[List.length_map];omega)] at this;rw[hk];exact this
theorem aKj(key:List UInt8)(af:Int)(c:ByteArray)(w:World)(hk:key.length=16)(h1:-9223372036854775808<=af)(h2:af<9223372036854775808)(hc:c.size<=100000) :
  Calls Tryz.prog 37 #[.agg (key.map gq).toArray,.int .i64 af,.string c] w fun e w'=>e=.returned (.agg ((qg key af c.data.toList).map gq).toArray)/\Ext w w':=by
 obtain⟨arr,harr⟩:∃ r,(key.map gq).toArray=r:=⟨_,rfl⟩;obtain⟨dk,hdk⟩:∃ d,kH key aFh.data.toList []=d:=⟨_,rfl⟩;obtain⟨res,hres⟩:∃ d,qg key af c.data.toList=d:=⟨_,rfl⟩
 have hdl:dk.length=16:=by rw[<-hdk];exact eF _ _ _
 have hrl:res.length=16:=by rw[<-hres];exact fE _ _ _
 have HW1:=hide (fun w=>yV af w h1 h2);have HW2:=hide (fun w=>rC c w (by omega));have hb1:=aY af;have hb2:(bT c.data.toList).length<=10+c.size:=fO c.data.toList;have HR:=hide hres;have HD:=hide hdk;have HA:=hide harr;have HS:=hide (show ((dk.map gq).toArray).size=16/\((res.map gq).toArray).size=16 from⟨by simpa using hdl,by simpa using hrl⟩);have HMR:=hide (show EI dk (b_ af++bT c.data.toList)=res from by rw[<-hres,<-hdk];rfl);rw[harr,hres];clear harr hdk hres;generalize b_ af=ni at *;generalize bT c.data.toList=nc at *
 go_enter Tryz.func37,Tryz.ntmps37
 go_wp2_with fail
 refine (xM key _ aFh [] _ _ (yX ((au.new w _ _).alloc _) (aA HA) hk) (by omega) (by decide) (Parts.nil _) (by simp) (fun p hp=>by cases hp)).mono ?_;rintro e w1 ⟨rfl,hE1⟩;rw[aA HD];have H1:=hide (show Ext w w1/\au w1 (w.heap.size+1) 23 (dQ 16 []) from⟨(((Ext.refl w).alloc _).alloc _).trans hE1,(au.new' _ _ _ (by simp)).ext hE1⟩);clear hE1
 go_wp2_with (first
  |(refine aT (ty:=23) (t:=23) (x:=.tmp 7) (y:=.tmp 10) rfl rfl aV rfl rfl (au.new w1 _ _) rfl (aA HS).1 (dB _) ?_;intro w2 hb2 hc2 hz2;have H2:=hide (And.intro (aCu (aA H1).1 hc2) (And.intro ((aA H1).2.ext (vC hc2)) hb2));clear hb2 hc2 hz2)
  |(go_at_call 24;refine (aA HW1 _).mono ?_;rintro e w3 ⟨A3,c3,rfl,ho3,ug⟩;have H3:=hide (show GB w2 w2.heap.size (.slice (some ⟨w2.heap.size,0,none⟩) 0 0) 0 [] w3/\Reads w3 1 (.slice A3 ni.length c3) ni.length (ni.map gq) from And.intro (GB.to ⟨aEs _ _ _ _ (Nat.le_refl _),(Ext.refl w2).alloc _,Nat.le_refl _,by simp⟩ ug) (Reads.l9 ho3));clear ho3 ug)
  |(at_builtin;refine bH (s:=.tmp 11) (x:=.tmp 13) rfl rfl fC rfl (aA H3).1.own rfl (aA H3).2 (dN.u8 _) (by omega) (aA H3).1.room ?_;intro A4 c4 w4 ho hc hv;have H4:=hide (GB.step (l':=[]++ni) (aA H3).1 (Ext.refl _) hc (sD ho));rw[Nat.zero_add,List.nil_append] at H4;clear ho hc hv)
  |(go_at_call 39;refine (aA HW2 _).mono ?_;rintro e w5 ⟨A5,c5,rfl,FU,DL⟩;have H5:=hide (And.intro ((aA H4).to DL) (Reads.l9 FU));clear FU DL)
  |(at_builtin;refine bH (s:=.tmp 14) (x:=.tmp 16) rfl rfl fC rfl (aA H5).1.own rfl (aA H5).2 (dN.u8 _) (by omega) (aA H5).1.room ?_;intro A6 c6 w6 ho hc hv;have H6:=hide (GB.step (l':=ni++nc) (aA H5).1 (Ext.refl _) hc (sD ho));clear ho hc hv))
 refine (aKn dk (ni++nc) _ _ _ (yX ((aA H2).2.2.ext (aA H6).ext) rfl hdl) (aA H6).AP (by omega) (by rw[(aA H6).len];omega)).mono ?_;rintro e w7 ⟨rfl,ZU⟩;rw[aA HMR];have H7:=hide (And.intro ((aA H2).1.trans ((aA H6).ext.trans ZU)) ((aA H2).2.1.ext ((aA H6).ext.trans ZU)));clear ZU
 go_wp2_with (refine aT (ty:=23) (t:=23) (x:=.tmp 6) (y:=.tmp 20) rfl rfl aV rfl rfl (aA H7).2 (kJ (by simp)) (aA HS).2 (dB _) ?_;intro w8 hb8 hc8 hz8;have H8:=hide (And.intro hb8 hc8);clear hb8 hc8 hz8)
 refine bodyPost_ret (dJ aV rfl (aA H8).1 (aA HS).2 rfl) rfl ⟨rfl,?_⟩;exact (aA H7).1.trans' (aA H8).2 (fun _ _ h=>h) (fun i hi e=>by omega)
end Go.Proofs.YtndpjopifkbgiaaGreatDoor
