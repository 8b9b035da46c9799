/-.-/
import Derived.Test.YtndpjopifkbgiaaGreatDoorMsD
import Derived.Test.YtndpjopifkbgiaaGreatDoorMsC
import Derived.Test.YtndpjopifkbgiaaGreatDoorMsJ
import Derived.Test.YtndpjopifkbgiaaGreatDoorMsT
import Derived.Test.YtndpjopifkbgiaaGreatDoorMsS
import Derived.Test.YtndpjopifkbgiaaGreatDoorMsK
import Derived.Test.YtndpjopifkbgiaaGreatDoorMsN
import Derived.Test.YtndpjopifkbgiaaGreatDoorCards
import Derived.Test.YtndpjopifkbgiaaGreatDoorTie
import Derived.WalkKit
import Derived.ProofKit
import Derived.OpenShut
import Derived.ShutString
import Derived.ChangeOld
import Derived.Lib.SmallJoins
import Derived.Deep.Slices
import Derived.Deep.DeepHandedRow
import Derived.Lib.LaidTab
import Derived.Stop.LaidErr
set_option maxRecDepth 100000
set_option maxHeartbeats 4000000
namespace Go.Proofs.YtndpjopifkbgiaaGreatDoor
open Go.RowKit
def Zq{α:Type}(n:Nat)(f:Nat->α):α:=Nat.rec (motive:=fun _=>α) (f 0) (fun m _=>f (Nat.succ m)) n
theorem vI{α:Type}(n:Nat)(f:Nat->α):Zq n f=f n:=by cases n<;>rfl
def addN(a b:Nat):Nat:=Nat.mod (Nat.add a b) 4294967296
def BL(x n m:Nat):Nat:=Nat.lor (Nat.shiftRight x n) (Nat.mod (Nat.shiftLeft x m) 4294967296)
def Tn(x:Nat):Nat:=Nat.xor (Nat.xor (BL x 7 25) (BL x 18 14)) (Nat.shiftRight x 3)
def Tm(x:Nat):Nat:=Nat.xor (Nat.xor (BL x 17 15) (BL x 19 13)) (Nat.shiftRight x 10)
def t1N(e f g h k w:Nat):Nat:=addN (addN (addN (addN h (Nat.xor (Nat.xor (BL e 6 26) (BL e 11 21)) (BL e 25 7))) (Nat.xor (Nat.land e f) (Nat.land (Nat.sub 4294967295 e) g))) k) w
def t2N(a b c:Nat):Nat:=addN (Nat.xor (Nat.xor (BL a 2 30) (BL a 13 19)) (BL a 22 10)) (Nat.xor (Nat.xor (Nat.land a b) (Nat.land a c)) (Nat.land b c))
def nwN(w0 w1 w9 BG:Nat):Nat:=addN (addN (addN w0 (Tn w1)) w9) (Tm BG)
def aFs:List Nat->Nat->Nat->Nat->Nat->Nat->Nat->Nat->Nat->Nat->Nat->Nat->Nat->Nat->Nat->Nat->Nat->Nat->Nat->Nat->Nat->Nat->Nat->Nat->Nat->List Nat
 |[],_,_,_,_,_,_,_,_,_,_,_,_,_,_,_,_,a,b,c,d,e,f,g,h=>[a,b,c,d,e,f,g,h]
 | k::ks,w0,w1,w2,w3,w4,w5,w6,w7,w8,w9,w10,G8,w12,G7,BG,G6,a,b,c,d,e,f,g,h=>
  Zq (t1N e f g h k w0) fun t=>Zq (addN t (t2N a b c)) fun x=>Zq (addN d t) fun y=>Zq (nwN w0 w1 w9 BG) fun n=>
   aFs ks w1 w2 w3 w4 w5 w6 w7 w8 w9 w10 G8 w12 G7 BG G6 n x a b c y e f g
def t1W(e f g h k w:UInt32):UInt32:=h+((dZ e 6 ^^^ dZ e 11) ^^^ dZ e 25)+((e &&& f) ^^^ (~~~e &&& g))+k+w
def t2W(a b c:UInt32):UInt32:=((dZ a 2 ^^^ dZ a 13) ^^^ dZ a 22)+(((a &&& b) ^^^ (a &&& c)) ^^^ (b &&& c))
def nwW(w0 w1 w9 BG:UInt32):UInt32:=w0+((dZ w1 7 ^^^ dZ w1 18) ^^^ (w1 >>> 3))+w9+((dZ BG 17 ^^^ dZ BG 19) ^^^ (BG >>> 10))
def yB:List UInt32->UInt32->UInt32->UInt32->UInt32->UInt32->UInt32->UInt32->UInt32->UInt32->UInt32->UInt32->UInt32->UInt32->UInt32->UInt32->UInt32->UInt32->UInt32->UInt32->UInt32->UInt32->UInt32->UInt32->UInt32->List UInt32
 |[],_,_,_,_,_,_,_,_,_,_,_,_,_,_,_,_,a,b,c,d,e,f,g,h=>[a,b,c,d,e,f,g,h]
 |k::ks,w0,w1,w2,w3,w4,w5,w6,w7,w8,w9,w10,G8,w12,G7,BG,G6,a,b,c,d,e,f,g,h=>
  yB ks w1 w2 w3 w4 w5 w6 w7 w8 w9 w10 G8 w12 G7 BG G6 (nwW w0 w1 w9 BG) (t1W e f g h k w0+t2W a b c) a b c (d+t1W e f g h k w0) e f g
theorem OE(a b:UInt32):addN a.toNat b.toNat=(a+b).toNat:=(UInt32.toNat_add a b).symm
theorem Oq(x:UInt32)(n m:Nat)(hn:0<n)(hn2:n<32)(hm:m=32-n):BL x.toNat n m=(dZ x (UInt32.ofNat n)).toNat:=by
 subst hm;unfold BL dZ
 have e1:(UInt32.ofNat n).toNat=n:=by simp;omega
 have e2:(32-UInt32.ofNat n:UInt32).toNat=32-n:=by
  rw[UInt32.toNat_sub];simp;omega
 rw[UInt32.toNat_or,UInt32.toNat_shiftRight,UInt32.toNat_shiftLeft,e1,e2,Nat.mod_eq_of_lt hn2,Nat.mod_eq_of_lt (show 32-n<32 by omega)];rfl
theorem OH(a b:UInt32):Nat.xor a.toNat b.toNat=(a ^^^ b).toNat:=(UInt32.toNat_xor a b).symm
theorem bIb(a b:UInt32):Nat.land a.toNat b.toNat=(a &&& b).toNat:=(UInt32.toNat_and a b).symm
theorem aCK(a:UInt32):Nat.sub 4294967295 a.toNat=(~~~a).toNat:=by rw[UInt32.toNat_not];rfl
theorem Tq(a:UInt32)(n:Nat)(hn:n<32):Nat.shiftRight a.toNat n=(a >>> UInt32.ofNat n).toNat:=by
 have e1:(UInt32.ofNat n).toNat=n:=by simp;omega
 rw[UInt32.toNat_shiftRight,e1,Nat.mod_eq_of_lt hn];rfl
theorem aLV(e f g h k w:UInt32):t1N e.toNat f.toNat g.toNat h.toNat k.toNat w.toNat=(t1W e f g h k w).toNat:=by
 unfold t1N t1W;rw[Oq e 6 26 (by omega) (by omega) rfl,Oq e 11 21 (by omega) (by omega) rfl,Oq e 25 7 (by omega) (by omega) rfl,aCK,bIb,bIb,OH,OH,OH,OE,OE,OE,OE];rfl
theorem aLS(a b c:UInt32):t2N a.toNat b.toNat c.toNat=(t2W a b c).toNat:=by
 unfold t2N t2W;rw[Oq a 2 30 (by omega) (by omega) rfl,Oq a 13 19 (by omega) (by omega) rfl,Oq a 22 10 (by omega) (by omega) rfl,bIb,bIb,bIb,OH,OH,OH,OH,OE];rfl
theorem aMR(w0 w1 w9 BG:UInt32):nwN w0.toNat w1.toNat w9.toNat BG.toNat=(nwW w0 w1 w9 BG).toNat:=by
 unfold nwN nwW Tn Tm;rw[Oq w1 7 25 (by omega) (by omega) rfl,Oq w1 18 14 (by omega) (by omega) rfl,Oq BG 17 15 (by omega) (by omega) rfl,Oq BG 19 13 (by omega) (by omega) rfl,Tq w1 3 (by omega),Tq BG 10 (by omega),OH,OH,OH,OH,OE,OE,OE];rfl
theorem aUw:∀ (ks:List UInt32) (w0 w1 w2 w3 w4 w5 w6 w7 w8 w9 w10 G8 w12 G7 BG G6 a b c d e f g h:UInt32),
  aFs (ks.map UInt32.toNat) w0.toNat w1.toNat w2.toNat w3.toNat w4.toNat w5.toNat w6.toNat w7.toNat w8.toNat w9.toNat w10.toNat G8.toNat w12.toNat G7.toNat BG.toNat G6.toNat a.toNat b.toNat c.toNat d.toNat e.toNat f.toNat g.toNat h.toNat =
   (yB ks w0 w1 w2 w3 w4 w5 w6 w7 w8 w9 w10 G8 w12 G7 BG G6 a b c d e f g h).map UInt32.toNat
 |[],_,_,_,_,_,_,_,_,_,_,_,_,_,_,_,_,_,_,_,_,_,_,_,_=>rfl
 |k::ks,w0,w1,w2,w3,w4,w5,w6,w7,w8,w9,w10,G8,w12,G7,BG,G6,a,b,c,d,e,f,g,h=>by
  rw[List.map_cons,aFs,yB,vI,vI,vI,vI,aLV,aLS,aMR,OE,OE];exact aUw ks _ _ _ _ _ _ _ _ _ _ _ _ _ _ _ _ _ _ _ _ _ _ _ _
theorem aNs(b:List UInt8)(i m n:Nat)(h1:i<m)(h2:m<=n):(bY b n).getD i 0=(bY b m).getD i 0:=by
 induction n with
 |zero=>omega
 |succ n ih=>
  rcases Nat.lt_or_ge m (n+1) with h|h
  ·rw[bY,zG,List.getElem?_append_left (by rw[dO];omega),<-zG,ih (by omega)]
  ·rw[show m=n+1 by omega]
def sw(b:List UInt8)(i:Nat):UInt32:=(bY b (i+1)).getD i 0
theorem bBh(b:List UInt8)(i n:Nat)(h:i<n):(bY b n).getD i 0=sw b i:=aNs b i (i+1) n (by omega) (by omega)
theorem PD(b:List UInt8)(j:Nat):sw b (j+16)=nwW (sw b j) (sw b (j+1)) (sw b (j+9)) (sw b (j+14)):=by
 rw[sw,aHz,zG,List.getElem?_append_right (by rw[dO];omega),dO,Nat.sub_self];rw[bBh b j _ (by omega),bBh b (j+1) _ (by omega),bBh b (j+9) _ (by omega),bBh b (j+14) _ (by omega)];rfl
theorem aEN(b:List UInt8)(v:List UInt32)(hv:v.length=8):∀ (n i:Nat),n+i=64 ->
  yB (qh.drop i) (sw b i) (sw b (i+1)) (sw b (i+2)) (sw b (i+3)) (sw b (i+4)) (sw b (i+5)) (sw b (i+6)) (sw b (i+7)) (sw b (i+8)) (sw b (i+9)) (sw b (i+10)) (sw b (i+11)) (sw b (i+12)) (sw b (i+13)) (sw b (i+14)) (sw b (i+15))
   ((aX b v i).getD 0 0) ((aX b v i).getD 1 0) ((aX b v i).getD 2 0) ((aX b v i).getD 3 0) ((aX b v i).getD 4 0) ((aX b v i).getD 5 0) ((aX b v i).getD 6 0) ((aX b v i).getD 7 0)=aX b v 64
 |0,i,h=>by
  obtain rfl:i=64:=by omega
  rw[show qh.drop 64=[] from rfl,yB];have:=jB b v hv 64
  match hr:aX b v 64,this with
  |[a,b,c,d,e,f,g,h],_=>rfl
 | n+1,i,h=>by
  have hi:i<64:=by omega
  have ih:=aEN b v hv n (i+1) (by omega);rw[List.drop_eq_getElem_cons (show i<qh.length from hi),yB,<-PD b i]
  have hk:qh[i]'(show i<qh.length from hi)=qh.getD i 0:=by rw[zG,zH hi];rfl
  rw[hk]
  have hs:aX b v (i+1)=wC (aX b v i) (qh.getD i 0) (sw b i):=by
   rw[aX,sched,bBh b i 64 hi]
  rw[hs] at ih;rw[show i+1+1=i+2 from rfl,show i+1+2=i+3 from rfl,show i+1+3=i+4 from rfl,show i+1+4=i+5 from rfl,show i+1+5=i+6 from rfl,show i+1+6=i+7 from rfl,show i+1+7=i+8 from rfl,show i+1+8=i+9 from rfl,show i+1+9=i+10 from rfl,show i+1+10=i+11 from rfl,show i+1+11=i+12 from rfl,show i+1+12=i+13 from rfl,show i+1+13=i+14 from rfl,show i+1+14=i+15 from rfl,show i+1+15=i+16 from rfl] at ih;exact ih
def bN(l:List UInt8):List Nat:=l.map UInt8.toNat
def Zy:List Nat->List Nat
 |a::b::c::d::r=>Nat.add (Nat.mul (Nat.add (Nat.mul (Nat.add (Nat.mul a 256) b) 256) c) 256) d::Zy r
 |_=>[]
def kN:List Nat:=qh.map UInt32.toNat
def bGa(v w:List Nat):List Nat:=
 match w,v with
 |[w0,w1,w2,w3,w4,w5,w6,w7,w8,w9,w10,G8,w12,G7,BG,G6],[a,b,c,d,e,f,g,h]=>
  List.zipWith addN (aFs kN w0 w1 w2 w3 w4 w5 w6 w7 w8 w9 w10 G8 w12 G7 BG G6 a b c d e f g h) [a,b,c,d,e,f,g,h]
 |_,_=>[]
theorem aMk(n:UInt32)(b:UInt8)(h:n.toNat<16777216):((n <<< 8) ||| b.toUInt32).toNat=n.toNat*256+b.toNat:=by
 have hb:=b.toNat_lt;rw[UInt32.toNat_or,UInt32.toNat_shiftLeft,UInt8.toNat_toUInt32,show (8:UInt32).toNat % 32=8 from rfl,Nat.shiftLeft_eq,Nat.mod_eq_of_lt (by omega),<-Nat.shiftLeft_eq,<-Nat.shiftLeft_add_eq_or_of_lt (by omega),Nat.shiftLeft_eq]
theorem O4(a b c d:UInt8):(lY [a,b,c,d]).toNat=((a.toNat*256+b.toNat)*256+c.toNat)*256+d.toNat:=by
 have ha:=a.toNat_lt;have hb:=b.toNat_lt;have hc:=c.toNat_lt;unfold lY;simp only[List.foldl_cons,List.foldl_nil];have h0:(0:UInt32).toNat=0:=rfl;have h1:=aMk 0 a (by rw[h0];omega);rw[h0,Nat.zero_mul,Nat.zero_add] at h1;have h2:=aMk _ b (show ((0:UInt32) <<< 8 ||| a.toUInt32).toNat<16777216 by rw[h1];omega);rw[h1] at h2;have h3:=aMk _ c (show (((0:UInt32) <<< 8 ||| a.toUInt32) <<< 8 ||| b.toUInt32).toNat<16777216 by rw[h2];omega);rw[h2] at h3;have h4:=aMk _ d (show ((((0:UInt32) <<< 8 ||| a.toUInt32) <<< 8 ||| b.toUInt32) <<< 8 ||| c.toUInt32).toNat<16777216 by rw[h3];omega);rw[h4,h3]
theorem bAu:∀ (n:Nat) (b:List UInt8),b.length=4*n->Zy (bN b)=(List.range n).map fun i=>(lY ((b.drop (4*i)).take 4)).toNat
 |0,b,h=>by
  obtain rfl:b=[]:=List.length_eq_zero_iff.1 (by omega)
  rfl
 | n+1,b,h=>by
  match b,h with
  |w::x::y::z::r,h=>
   have ih:=bAu n r (by simp at h;omega);rw[List.range_succ_eq_map,List.map_cons,List.map_map];have e:Zy (bN (w::x::y::z::r))=(((w.toNat*256+x.toNat)*256+y.toNat)*256+z.toNat)::Zy (bN r):=rfl;rw[e,ih,<-O4];congr 1
theorem Pq(f:Nat->Nat):(List.range 16).map f=[f 0,f 1,f 2,f 3,f 4,f 5,f 6,f 7,f 8,f 9,f 10,f 11,f 12,f 13,f 14,f 15]:=rfl
theorem bFz(w0 w1 w2 w3 w4 w5 w6 w7 w8 w9 w10 G8 w12 G7 BG G6 a b c d e f g h:Nat):bGa [a,b,c,d,e,f,g,h] [w0,w1,w2,w3,w4,w5,w6,w7,w8,w9,w10,G8,w12,G7,BG,G6] =
  List.zipWith addN (aFs kN w0 w1 w2 w3 w4 w5 w6 w7 w8 w9 w10 G8 w12 G7 BG G6 a b c d e f g h) [a,b,c,d,e,f,g,h]:=rfl
theorem TR:∀ (r v:List UInt32),List.zipWith addN (r.map UInt32.toNat) (v.map UInt32.toNat)=(List.zipWith (·+·) r v).map UInt32.toNat
 |[],v=>by simp
 |x::r,[]=>by simp
 |x::r,y::v=>by simp only[List.map_cons,List.zipWith_cons_cons];rw[TR r v,OE]
theorem aEO(b:List UInt8)(a b' c d e f g h:UInt32):yB qh (sw b 0) (sw b 1) (sw b 2) (sw b 3) (sw b 4) (sw b 5) (sw b 6) (sw b 7) (sw b 8) (sw b 9) (sw b 10) (sw b 11) (sw b 12) (sw b 13) (sw b 14) (sw b 15) a b' c d e f g h=uI b [a,b',c,d,e,f,g,h]:=by
 have:=aEN b [a,b',c,d,e,f,g,h] rfl 64 0 rfl;rw[List.drop_zero,aX] at this;exact this
theorem Sj(v:List UInt32)(b:List UInt8)(hv:v.length=8)(hb:b.length=64):bGa (v.map UInt32.toNat) (Zy (bN b))=(jT v b).map UInt32.toNat:=by
 rw[bAu 16 b hb]
 have hw:∀ i,i<16->(lY ((b.drop (4*i)).take 4))=sw b i:=fun i hi=>by
  rw[sw,bY,zG,List.getElem?_append_right (by rw[dO];omega),dO,Nat.sub_self,if_pos hi]
  first|done|rfl
 have hl:((List.range 16).map fun i=>(lY ((b.drop (4*i)).take 4)).toNat)=((List.range 16).map fun i=>(sw b i).toNat):=List.map_congr_left fun i hi=>by rw[hw i (List.mem_range.1 hi)]
 rw[hl,Pq]
 match v,hv with
 |[a,b',c,d,e,f,g,h],hv=>
  rw[List.map_cons,List.map_cons,List.map_cons,List.map_cons,List.map_cons,List.map_cons,List.map_cons,List.map_cons,List.map_nil,bFz,kN,aUw,aEO];exact TR _ [a,b',c,d,e,f,g,h]
def tC{α:Type}:List Nat->(List Nat->α)->α
 |[],k=>k []
 |x::r,k=>Zq x fun y=>tC r fun s=>k (y::s)
theorem kU{α:Type}:∀ (l:List Nat) (k:List Nat->α),tC l k=k l
 |[],k=>rfl
 |x::r,k=>by rw[tC,vI,kU r]
def aLx:Nat->List Nat->List Nat->List Nat
 |0,v,_=>v
 |n+1,v,m=>tC (bGa v (Zy (m.take 64))) fun s=>aLx n s (m.drop 64)
theorem aWr:∀ (n:Nat) (v:List UInt32) (m:List UInt8),v.length=8->m.length=64*n->aLx n (v.map UInt32.toNat) (bN m)=(lK n v m).map UInt32.toNat
 |0,v,m,_,_=>rfl
 | n+1,v,m,hv,hm=>by
  have e1:(bN m).take 64=bN (m.take 64):=(List.map_take ..).symm;have e2:(bN m).drop 64=bN (m.drop 64):=(List.map_drop ..).symm;rw[aLx,kU,e1,e2,Sj v _ hv (by rw[List.length_take];omega)]
  have hl:(jT v (m.take 64)).length=8:=by
   have:=gV (m.take 64) [0] v hv;unfold jV at this;simp only[List.foldl_cons,List.foldl_nil,Nat.mul_zero,List.drop_zero] at this;rwa [List.take_take] at this
  exact aWr n _ _ hl (by rw[List.length_drop];omega)
def O5(n:Nat):Nat->List Nat
 |0=>[]
 |k+1=>Nat.mod (Nat.div n (256 ^ k)) 256::O5 n k
theorem XQ(n:Nat):∀ k,bN (beBytes n k)=O5 n k
 |0=>rfl
 |k+1=>by
  have:=XQ n k;unfold bN at this ⊢;rw[beBytes,O5,List.map_cons,this];congr 1
def Ed(l:List Nat):List Nat:=l++[128]++List.replicate ((119-l.length % 64) % 64) 0++O5 (8*l.length) 8
theorem lZ(l:List UInt8):(bN l).length=l.length:=List.length_map ..
theorem gY(a b:List UInt8):bN (a++b)=bN a++bN b:=List.map_append ..
theorem aCF(l:List UInt8):bN (eU l)=Ed (bN l):=by
 unfold eU Ed;rw[gY,gY,gY,XQ,lZ];congr 2;unfold bN;rw[List.map_replicate];rfl
def h0N:List Nat:=mF.map UInt32.toNat
def VH(v:List Nat):List Nat:=v.flatMap fun w=>O5 w 4
def EE(l:List Nat):List Nat:=VH (aLx ((Ed l).length / 64) h0N (Ed l))
theorem aCG(v:List UInt32):bN (v.flatMap fun w=>beBytes w.toNat 4)=VH (v.map UInt32.toNat):=by
 unfold VH
 induction v with
 |nil=>rfl
 |cons x v ih=>rw[List.flatMap_cons,gY,ih,List.map_cons,List.flatMap_cons,XQ]
theorem Q_(l:List UInt8):∃ m,(eU l).length=64*m:=by
 refine⟨(eU l).length / 64,?_⟩
 unfold eU;simp[beBytes_length];omega
theorem EY(l:List UInt8):bN (sha l)=EE (bN l):=by
 obtain⟨m,hm⟩:=Q_ l;unfold sha EE;rw[aCG,<-aCF,lZ,hm,Nat.mul_div_cancel_left _ (by omega),h0N,aWr m mF _ rfl hm]
def Ec(k:List Nat)(x:Nat):List Nat:=(List.range 64).map fun i=>Nat.xor (k.getD i 0) x
def bEy(key m:List Nat):List Nat:=tC (if key.length > 64 then EE key else key) fun k=>tC (EE (Ec k 54++m)) fun h=>EE (Ec k 92++h)
theorem JI(k:List UInt8)(x:UInt8):bN (mV k x)=Ec (bN k) x.toNat:=by
 unfold mV JJ Ec;unfold bN;rw[List.map_map];apply List.map_congr_left;intro i _;show ((k.getD i 0) ^^^ x).toNat=_;rw[UInt8.toNat_xor]
 have:(k.map UInt8.toNat).getD i 0=(k.getD i 0).toNat:=by
  rw[zG,zG,List.getElem?_map]
  cases k[i]?<;>rfl
 rw[this];rfl
theorem LJ(key m:List UInt8):bN (AA key m)=bEy (bN key) (bN m):=by
 rw[aLn,EY,gY,JI,EY,gY,JI]
 have hk:bN (if key.length > 64 then sha key else key)=if (bN key).length > 64 then EE (bN key) else bN key:=by
  rw[lZ]
  split
  ·exact EY key
  ·rfl
 rw[hk];unfold bEy;rw[kU,kU];rfl
def Qg(key m:List Nat):List Nat:=(bEy key m).take 16
theorem UC(key m:List UInt8):bN (EI key m)=Qg (bN key) (bN m):=by
 unfold EI Qg;rw[<-LJ];exact List.map_take ..
def Es(ps:List (List Nat)):List Nat:=ps.flatMap fun p=>bN (b_ p.length)++p
theorem MW(ps:List (List UInt8)):bN (encs ps)=Es (ps.map bN):=by
 unfold encs Es
 induction ps with
 |nil=>rfl
 |cons p ps ih=>rw[List.flatMap_cons,gY,ih,List.map_cons,List.flatMap_cons,bT,gY,lZ]
def aFw(tag:Int)(ps:List (List Nat)):List Nat:=tC ((EE ((qK tag).toNat::Es ps)).take 16) fun d=>d
theorem aWh(tag:Int)(ps:List (List UInt8)):bN (jS tag ps)=aFw tag (ps.map bN):=by
 unfold jS aFw;rw[kU,<-MW];have:(qK tag).toNat::bN (encs ps)=bN ([qK tag]++encs ps):=rfl;rw[this,<-EY];exact List.map_take ..
def yC(key label:List Nat)(ps:List (List Nat)):List Nat:=tC (Qg key (bN (b_ label.length)++label++Es ps)) fun d=>d
theorem aMe(key label:List UInt8)(ps:List (List UInt8)):bN (kH key label ps)=yC (bN key) (bN label) (ps.map bN):=by
 unfold kH yC;rw[kU,UC,gY,MW,bT,gY,lZ]
def Vz(key:List Nat)(af:Int):List Nat:=yC key [101,110,99,114,121,112,116] [bN (b_ af)]
theorem aDB(key:List UInt8)(af:Int):bN (keyS key af)=Vz (bN key) af:=by
 unfold keyS Vz;rw[aMe];rfl
def aRi(key:List Nat)(n:Nat):List Nat:=((List.range ((n+31) / 32)).flatMap fun j:Nat=>bEy key (bN (b_ (j:Int)))).take n
theorem UJ(f:Nat->List UInt8)(g:Nat->List Nat)(h:∀ k,bN (f k)=g k):∀ l:List Nat,bN (l.flatMap f)=l.flatMap g
 |[]=>rfl
 |k::l=>by rw[List.flatMap_cons,List.flatMap_cons,gY,UJ f g h l,h]
theorem Hl(key:List UInt8)(n:Nat):bN (oV key (n:Int))=aRi (bN key) n:=by
 unfold oV aRi gX;rw[Int.toNat_natCast];have:∀ (l:List UInt8) (k:Nat),bN (l.take k)=(bN l).take k:=fun l k=>List.map_take ..;rw[this,UJ _ (fun j=>bEy (bN key) (bN (b_ (j:Int)))) (fun k=>LJ _ _)]
theorem GZ:∀ (a b:List UInt8),bN (List.zipWith (· ^^^ ·) a b)=List.zipWith Nat.xor (bN a) (bN b)
 |[],_=>rfl
 |_::_,[]=>rfl
 |x::a,y::b=>by
  have:=GZ a b;unfold bN at this ⊢;rw[List.zipWith_cons_cons,List.map_cons,this,List.map_cons,List.map_cons,List.zipWith_cons_cons,UInt8.toNat_xor];rfl
def aWw(key:List Nat)(af:Int)(s:List Nat):List Nat:=tC (List.zipWith Nat.xor s (aRi (Vz key af) s.length)) fun d=>d
theorem bHx(key:List UInt8)(af:Int)(s:List UInt8):bN (dV key af s)=aWw (bN key) af (bN s):=by
 unfold dV aWw;rw[kU,GZ,Hl,aDB,lZ]
def Uh(key:List Nat)(af:Int)(c:List Nat):List Nat:=tC (Qg (yC key [97,117,116,104,101,110,116,105,99,97,116,101] []) (bN (b_ af)++(bN (b_ c.length)++c))) fun d=>d
theorem aAT(key:List UInt8)(af:Int)(c:List UInt8):bN (qg key af c)=Uh (bN key) af (bN c):=by
 unfold qg Uh;rw[kU,UC,aMe,gY,bT,gY,lZ];rfl
namespace Pv
def CE:kw:=⟨1,((1:Nat):Int),yh,0,strOf [110,101,119]⟩
def aTe(root:List Nat)(lv:Int)(p:List Nat):List Nat:=tC (yC root [109,111,118,101] []) fun k=>tC (aWw k lv p) fun C=>bN (b_ lv)++(bN (b_ (C.length:Int))++C++Uh k lv C)
theorem Mc(root:List UInt8)(r:kw):bN (jM root r)=aTe (bN root) r.level (bN (oH r)):=by
 unfold jM aTe bT;rw[kU,kU,gY,gY,gY,aAT,bHx]
 have:bN (qY root)=yC (bN root) [109,111,118,101] []:=by
  unfold qY;rw[aMe];rfl
 rw[this]
 have e2:∀ n:Nat,(dV (qY root) r.level (oH r)).length=n->(aWw (yC (bN root) [109,111,118,101] []) r.level (bN (oH r))).length=n:=fun n h=>by
  rw[<-this,<-bHx,lZ,h]
 rw[e2 _ rfl]
def plN:List Nat:=[2,2,0,0,0,0,0,0,0,0,0,0,0,0,0,0,0,0,0,6,110,101,119]
theorem bDc:bN (oH CE)=plN:=by
 unfold oH CE;rw[dD];rfl
def rtN:List Nat:=[100,0,0,0,0,0,0,0,0,0,0,0,0,0,0,0]
theorem PZ:bN (bZ 0)=rtN:=rfl
def cN:List Nat:=[2,46,221,163,129,94,163,228,169,6,233,136,164,126,112,170,87,235,84,3,168,50,180,179,151,31,65,183,194,213,149,72,171,108,62,94,61,55,122,83,164]
theorem MX:aTe rtN 1 plN=cN:=by kernel_rfl
theorem bGi:bN (jM (bZ 0) CE)=cN:=by
 rw[Mc,PZ,bDc];exact MX
def zN:List Nat:=List.replicate 16 0
def Za:List Nat->List Nat->Bool
 |[],[]=>true
 |x::l,y::m=>Nat.beq x y&&Za l m
 |_,_=>false
theorem aMc:∀ l:List Nat,Za l l=true
 |[]=>rfl
 |x::l=>by rw[Za,aMc l,Nat.beq_refl];rfl
def He(n:Nat):List Nat:=aFw 5 [[6],4::82::(cN.take n++List.replicate (41-n) 0)]
def aKb:Nat->Bool
 |0=>true
 |n+1=>!Za (He n) zN&&aKb n
theorem H_:aKb 41=true:=by kernel_rfl
theorem aHt:∀ m,aKb m=true->∀ n,n<m->Za (He n) zN=false
 |0,_,n,h=>by omega
 |m+1,hm,n,h=>by
  rw[aKb,Bool.and_eq_true] at hm;rcases Nat.lt_or_eq_of_le (Nat.lt_succ_iff.1 h) with h1|rfl
  ·exact aHt m hm.2 n h1
  ·simpa using hm.1
theorem P_{n:Nat}(h:n<41):He n≠zN:=fun e=>by
 have:=aHt 41 H_ n h;rw[e,aMc] at this;cases this
theorem Md:Za (aFw 5 [[6],[4,0]]) zN=false:=by kernel_rfl
theorem aXg{l:Nat}(h:l<64):b_ (l:Int)=[UInt8.ofNat (2*l)]:=by
 unfold b_
 have e:zig (l:Int)=2*l:=by
  unfold zig
  split<;>omega
 rw[e];exact iU (by omega)
theorem aJf{x:List UInt8}(h:x.length<64):encS 3 2 x=4::UInt8.ofNat (2*x.length)::(x++jS 5 [b_ 3,4::UInt8.ofNat (2*x.length)::x]):=by
 unfold encS x_ bT;rw[aXg h];rfl
theorem bBk:(jM (bZ 0) CE).length=41:=by
 rw[<-lZ,bGi];rfl
theorem Jq{a b:Nat}(ha:a<256)(hb:b<256)(h:UInt8.ofNat a=UInt8.ofNat b):a=b:=by
 have:=congrArg UInt8.toNat h;rw[UInt8.toNat_ofNat',UInt8.toNat_ofNat'] at this;have e:∀ n,n<256->n % 2 ^ 8=n:=fun n hn=>Nat.mod_eq_of_lt hn;rw[e a ha,e b hb] at this;exact this
theorem aUf{l:List UInt8}{n:Nat}(hl:l.length=n)(h:∀ i,i<n->l[i]?=some 0):l=List.replicate n 0:=by
 apply List.ext_getElem?;intro i;rw[List.getElem?_replicate]
 split
 ·rename_i hi;exact h i hi
 ·exact List.getElem?_eq_none (by omega)
theorem VW{s:List UInt8}(hs:s.length<=41){cut:Int}(_:0<=cut)(hc:∀ i,i<(encS 3 2 s).length->i<256->(encS 3 2 s)[i]?=if (i:Int)<cut then (encS 3 2 (jM (bZ 0) CE))[i]? else some 0):s=jM (bZ 0) CE:=by
 obtain⟨c,hcd⟩:∃ c,jM (bZ 0) CE=c:=⟨_,rfl⟩
 have hcl:c.length=41:=by rw[<-hcd];exact bBk
 have hcv:bN c=cN:=by rw[<-hcd];exact bGi
 rw[hcd] at hc ⊢;have es:=aJf (x:=s) (by omega);have ec:=aJf (x:=c) (by omega);obtain⟨ds,hds⟩:∃ d,jS 5 [b_ 3,4::UInt8.ofNat (2*s.length)::s]=d:=⟨_,rfl⟩;obtain⟨dc,hdc⟩:∃ d,jS 5 [b_ 3,4::UInt8.ofNat (2*c.length)::c]=d:=⟨_,rfl⟩
 have hdl:ds.length=16:=by rw[<-hds];exact iW _ _
 rw[hds] at es;rw[hdc] at ec;rw[es,ec] at hc
 have hlen:(4::UInt8.ofNat (2*s.length)::(s++ds)).length=s.length+18:=by simp only[List.length_cons,List.length_append];omega
 rw[hlen] at hc;have c0:=hc 0 (by omega) (by omega)
 have aXJ:0<cut:=by
  apply Decidable.byContradiction;intro hn;rw[if_neg (by omega)] at c0;cases c0
 have c1:=hc 1 (by omega) (by omega)
 by_cases aXI:cut<=1
 ·
  rw[if_neg (by omega)] at c1;have hl:UInt8.ofNat (2*s.length)=UInt8.ofNat 0:=Option.some.inj c1;have hl0:=Jq (by omega) (by omega) hl
  obtain rfl:s=[]:=List.length_eq_zero_iff.1 (by omega)
  have hz:ds=List.replicate 16 0:=aUf hdl fun i hi=>by
   have:=hc (2+i) (by show 2+i<0+18;omega) (by omega);rw[if_neg (by omega),show 2+i=i+2 from by omega] at this;exact this
  have hN:aFw 5 [[6],[4,0]]=zN:=by
   have e:=aWh 5 [b_ 3,[4,UInt8.ofNat (2*0)]];have hds':jS 5 [b_ 3,[4,UInt8.ofNat (2*0)]]=ds:=hds;rw[hds',hz] at e;exact e.symm
  have:=Md;rw[hN,aMc] at this;cases this
 ·rw [if_pos (by omega)] at c1;have hl:UInt8.ofNat (2*s.length)=UInt8.ofNat (2*c.length):=Option.some.inj c1;have hl0:=Jq (by omega) (by omega) hl
  have hsl:s.length=41:=by omega
  have hsi:∀ i,i<41->s[i]?=if ((2+i:Nat):Int)<cut then c[i]? else some 0:=fun i hi=>by
   have:=hc (2+i) (by omega) (by omega);rw[show 2+i=i+2 from by omega,List.getElem?_cons_succ,List.getElem?_cons_succ,List.getElem?_cons_succ,List.getElem?_cons_succ,List.getElem?_append_left (by omega),List.getElem?_append_left (by omega)] at this;rw[this,show i+2=2+i from by omega]
  by_cases hbig:43<=cut
  ·apply List.ext_getElem?;intro i
   by_cases hi:i<41
   ·rw[hsi i hi,if_pos (by omega)]
   ·rw[List.getElem?_eq_none (by omega),List.getElem?_eq_none (by omega)]
  ·obtain⟨n,hn⟩:∃ n:Nat,cut=((n+2:Nat):Int):=⟨cut.toNat-2,by omega⟩
   have aNQ:n<41:=by omega
   have hse:s=c.take n++List.replicate (41-n) 0:=by
    apply List.ext_getElem?;intro i
    by_cases hi:i<41
    ·rw[hsi i hi]
     by_cases h1:i<n
     ·rw[if_pos (by omega),List.getElem?_append_left (by rw[List.length_take];omega),List.getElem?_take,if_pos h1]
     ·rw[if_neg (by omega),List.getElem?_append_right (by rw[List.length_take];omega),List.length_take,List.getElem?_replicate,if_pos (by omega)]
    ·rw[List.getElem?_eq_none (by omega),List.getElem?_eq_none (by rw[List.length_append,List.length_take,List.length_replicate];omega)]
   have hz:ds=List.replicate 16 0:=aUf hdl fun i hi=>by
    have:=hc (43+i) (by omega) (by omega);rw[if_neg (by omega),show 43+i=(41+i)+2 from by omega,List.getElem?_cons_succ,List.getElem?_cons_succ,List.getElem?_append_right (by omega),hsl,show 41+i-41=i from by omega] at this;exact this
   exfalso;refine P_ aNQ ?_;have e:=aWh 5 [b_ 3,4::UInt8.ofNat (2*s.length)::s];rw[hds,hz,hsl] at e
   have hbs:bN s=cN.take n++List.replicate (41-n) 0:=by
    rw[hse,gY,<-hcv];congr 1
    ·exact List.map_take ..
    ·exact List.map_replicate ..
   have e2:[b_ 3,4::UInt8.ofNat (2*41)::s].map bN=[[6],4::82::bN s]:=rfl;rw[e2,hbs] at e;exact e.symm
theorem aNl:BX CE:=⟨.inl rfl,by decide,by decide,GK,rfl,by decide⟩
theorem bGx{b:Int}{m:jl}{f:Fl}(h0:0<=b)(h1:b<=255)(hk:m.kind=3)(hm:m.root=bZ 0)(hp:m.payload=strOf [110,101,119])(h:v_ f 1 (bZ 0) (oD 0 stB)) :
  jc (tf b) (jD m) (jf (cl 0) (cl 1) f (bZ 0)) (fun h'=>∃ f',h'=jf (cl 0) (cl 1) f' (bZ 0)/\(v_ f' 1 (bZ 0) (oD 0 stB)\/v_ f' 2 (bZ 0) CE)):=by
 have hA:∃ f',jf (cl 0) (cl 1) f (bZ 0)=jf (cl 0) (cl 1) f' (bZ 0)/\(v_ f' 1 (bZ 0) (oD 0 stB)\/v_ f' 2 (bZ 0) CE):=⟨f,rfl,.inl h⟩
 have hps:m.payload.size<=1000:=by rw[hp];decide
 unfold jD;refine jc.bind (aGh (.inr hk) hps _) (aBe _ _ _ _) (jc.bind (Qo (n:=1) (by decide) _ _ _) (jc.all (aJh _ _ _ _) hA) ?_);unfold nT;rw[if_neg (by omega),if_neg (by omega),if_pos hk];unfold Xc;refine jc.pq fun _=>?_;rw[hp];change jc (tf b) ((y_ m CE).bind _) _ _;have hsz:(fG (bZ 0) CE).size<=2000:=lI _ _ aNl;refine jc.bind (aAn h.dh (by decide) aNl _ _ _) ?_ jc.ret;unfold y_;rw[hm];refine jc.bind (aKh h.dh hsz (by decide) _ _) ((aWl h0 h1 h.dh hsz (by decide) _ _).mono ?_) (jc.pq fun _=>jc.ret);rintro h' ⟨j,e1,e2⟩
 refine⟨_,e1,?_⟩
 have LU:(eu f 3).1=(1,jM (bZ 0) (oD 0 stB)):=h.dh.cur;have hF:Fine f ⟨3,fG (bZ 0) CE,j,b⟩:=⟨h.dh.sz,(by show (0:Int)<=3;decide),(by show (3:Int)<=3;decide),hsz,(by show (eu f 3).1.1+1<=1099511627776;rw[LU];decide)⟩;have hsz2:=(aVf hF).sz;have hcs:(fG (bZ 0) CE).data.toList=jM (bZ 0) CE:=dD _;rcases aAS hF e2 with e|e|⟨s,e,hl,cut,c0,c1,hc⟩
 ·exact .inl ⟨⟨hsz2,e.trans LU⟩,by decide,h.ok⟩
 ·refine .inr ⟨⟨hsz2,e.trans ?_⟩,by decide,aNl⟩;show ((eu f 3).1.1+1,(fG (bZ 0) CE).data.toList)=_;rw[LU,hcs];rfl
 ·have hb:f_ f ⟨3,fG (bZ 0) CE,j,b⟩=encS 3 2 (jM (bZ 0) CE):=by
   show encS 3 ((eu f 3).1.1+1) (fG (bZ 0) CE).data.toList=_;rw[LU,hcs];rfl
  have h2:(eu f (GU.dh ⟨3,fG (bZ 0) CE,j,b⟩)).1.1+1=2:=by
   show (eu f 3).1.1+1=2;rw[LU];rfl
  have hl2:s.length<=41:=by
   have:s.length<=(fG (bZ 0) CE).data.toList.length:=hl;rw[hcs,bBk] at this;exact this
  rw[h2,hb] at hc;have hs:=VW hl2 c0 hc;refine .inr ⟨⟨hsz2,e.trans ?_⟩,by decide,aNl⟩;rw[h2,hs]
theorem aJa{α:Type}(F:List lu)(p:ah α):ah.Xq p->∀ h i,o6 h->o6 (dK F p h i).2.1:=by
 induction p with
 |ret a=>intro _ h i d;exact d
 |ask c k ih=>
  intro hp h i d;rw[dK]
  split
  ·exact d.step hp.1 _
  ·exact ih _ (hp.2 _) _ _ (d.step hp.1 _)
def svE(cut by':Int):EvS:=⟨0,0,by',0,cut,false⟩
theorem bBj{cut by':Int}(i:Nat):eX (kG (svE cut by')) i=if 0<cut/\(i:Int)=cut-1/\i<250 then tf by' else tu:=by
 unfold eX kG;rw[zG,List.getElem?_map]
 by_cases hi:i<250
 ·rw[List.getElem?_range hi];show TG (svE cut by') i=_;unfold TG svE
  by_cases h:0<cut/\(i:Int)=cut-1
  ·rw[if_pos h,if_pos ⟨h.1,h.2,hi⟩];rfl
  ·rw[if_neg h,if_neg (fun e=>h ⟨e.1,e.2.1⟩)];rfl
 ·rw[List.getElem?_eq_none (by simp;omega),if_neg (fun e=>hi e.2.2)];rfl
theorem aKd{m:jl}{h h':j_}{x:Except Int jk}{cut by':Int}{R:j_->Prop}(_:0<=cut)(e:mr (jD m) h=(x,h'))(hR:jc (tf by') (jD m) h R) :
  (∃ g n,dK (kG (svE cut by')) (cO m) h 0=(none,g,n)/\R g)\/∃ n,dK (kG (svE cut by')) (cO m) h 0=(some (Nr mZ x),h',n):=by
 by_cases hc:0<cut/\cut<=250
 ·have hF:aHH (kG (svE cut by')) (cut-1).toNat (tf by'):=⟨rfl,fun i=>by
   rw[bBj]
   by_cases hi:i=(cut-1).toNat
   ·rw[if_pos hi,if_pos ⟨hc.1,by omega,by omega⟩]
   ·rw[if_neg hi,if_neg (by omega)]⟩
  rcases bGe hF mZ (jD m) h 0 (Nat.zero_le _) with⟨g,n,h1,h2⟩|⟨n,h2⟩
  ·exact .inl ⟨g,n,h2,hR g h1⟩
  ·rw[e] at h2;exact .inr ⟨n,h2⟩
 ·have hF:UX (kG (svE cut by')) 0:=fun i _=>by
   rw[bBj,if_neg (by omega)]
  obtain⟨n,h2⟩:=aZj mZ (jD m) h 0 hF;rw[e] at h2;exact .inr ⟨n,h2⟩
def ED:jl:={ zh 0 3 with payload:=strOf [110,101,119] }
theorem PG:uz ED:=⟨rfl,rfl,rfl,rfl,GK,GK,GK,by decide,by decide⟩
def XX(k:Nat)(p:ByteArray->Prop)(x:j_):Prop:=∃ s c h' n,dK [] (cO (zh k 2)) x 0=(some { jr with session:=s,payload:=c },h',n)/\p c
theorem aCv{k:Nat}{f:Fl}{s:Int}{r:kw}{c2 c2' Si:List Int}{q:List UInt8}{n2:Nat}{p:ByteArray->Prop}(h:v_ f s (bZ k) r)(hr:r.kind=1)(hl:r.level=((1:Nat):Int))(h2:n2<16)(e1:mr (ah.ig 2 16) (jf c2 (cl 1) f q)=(.ok n2,jf c2' (cl 1) f q))(e2:mr (ah.jh 2 16 (n2+1)) (jf c2' (cl 1) f q)=(.ok (n2+1,0),jf Si (cl 1) f q))(hp:p r.payload):XX k p (jf c2 (cl 1) f q):=by
 obtain⟨n,hn⟩:=nP (Kq (m:=zh k 2) (n:=1) rfl h (by decide) rfl hr hl h2 e1 e2)
 exact⟨_,_,_,n,hn,hp⟩
theorem kV{k:Nat}{f:Fl}{s:Int}{r:kw}{q:List UInt8}{n2:Nat}{p:ByteArray->Prop}(h:v_ f s (bZ k) r)(hr:r.kind=1)(hl:r.level=((1:Nat):Int))(h2:n2<16)(hp:p r.payload):XX k p (jf (cl n2) (cl 1) f q):=
 aCv h hr hl h2 (Vu (by omega) _ _ _) (Px h2 _ _ _) hp
theorem aBC{fA:Fl}{cut by':Int}(hc0:0<=cut)(h0:0<=by')(h1:by'<=255)(hA:v_ fA 1 (bZ 0) (oD 0 stB)):XX 0 (fun c=>c=stB) (dK (kG (svE cut by')) (cO (zh 0 2)) (jf (cl 0) (cl 1) fA (bZ 0)) 0).2.1:=by
 rcases aKd (m:=zh 0 2) hc0 (aFc (m:=zh 0 2) (n:=1) (n2:=0) (q:=bZ 0) rfl hA (by decide) rfl rfl rfl (by decide)) (bGy (m:=zh 0 2) h0 h1 rfl hA rfl rfl) with⟨g,n,e,k,rfl,hk⟩|⟨n,e⟩
 ·rw[e];rcases hk with rfl|rfl|rfl|rfl|rfl
  ·exact kV (n2:=0) hA rfl rfl (by decide) rfl
  ·exact aCv (n2:=0) hA rfl rfl (by decide) (bFc (.inl rfl) _ _ _) (bFa (.inl rfl) _ _ _) rfl
  ·exact aCv (n2:=0) hA rfl rfl (by decide) (bFc (.inr rfl) _ _ _) (bFa (.inr rfl) _ _ _) rfl
  ·exact aCv (n2:=1) hA rfl rfl (by decide) (LP _ _ _) (Px (by decide) _ _ _) rfl
  ·exact kV (n2:=1) hA rfl rfl (by decide) rfl
 ·rw[e];exact kV (n2:=1) hA rfl rfl (by decide) rfl
theorem aBB{fA:Fl}{cut by':Int}(hc0:0<=cut)(h0:0<=by')(h1:by'<=255)(hA:v_ fA 1 (bZ 0) (oD 0 stB)):XX 0 (fun c=>c=stB\/c=strOf [110,101,119]) (dK (kG (svE cut by')) (cO ED) (jf (cl 0) (cl 1) fA (bZ 0)) 0).2.1:=by
 have hS:=aRr (m:=ED) (n:=1) (c2:=cl 0) (q:=bZ 0) rfl (by decide) hA.dh (by decide) (by decide) rfl;have hN:=xN (root:=bZ 0) (r:=CE) hA.dh (by decide) (by decide) aNl;rcases aKd (m:=ED) hc0 hS (bGx (m:=ED) h0 h1 rfl rfl rfl hA) with⟨g,n,e,f',rfl,hf'⟩|⟨n,e⟩
 ·rw[e];rcases hf' with hf'|hf'
  ·exact kV (n2:=0) hf' rfl rfl (by decide) (.inl rfl)
  ·exact kV (n2:=0) hf' rfl rfl (by decide) (.inr rfl)
 ·rw[e];exact kV (n2:=0) hN rfl rfl (by decide) (.inr rfl)
theorem aBA{m:jl}{cut by':Int}(hc0:0<=cut)(h0:0<=by')(h1:by'<=255)(hk:m.kind=7)(hm:m.root=bZ 1)(t:Xn m stB)(hl:m.xl=0) :
  (
   ∃ g n,dK (kG (svE cut by')) (cO m) (Bi (bZ 1)) 0=(none,g,n)/\∃ o x n2,dK [] (cO m) g 0=(some o,x,n2)/\(o.err=0\/o.err=21)/\XX 1 (fun c=>c=stB) x) \/
   ∃ o x n,dK (kG (svE cut by')) (cO m) (Bi (bZ 1)) 0=(some o,x,n)/\XX 1 (fun c=>c=stB) x:=by
 have hst:stB.size<=1000:=by show (5:Nat)<=1000;decide
 have hacc:=aBj (m:=m) (n:=0) (c2:=cl 0) (q:=bZ 1) (f:=CG) hk t hst rX (by decide) (by decide) rfl hl;have hH:=xN (root:=bZ 1) rX (by decide) (by decide) (kW (n:=0) (p:=stB) (by decide) hst);have hcut:=aTo (m:=m) (q:=bZ 1) h0 h1 hk t hst rX (by decide) hl;rw[hm] at hacc hcut;obtain⟨fN,hfN⟩:∃ fN,DJ CG (fG (bZ 1) (oD 0 stB))=fN:=⟨_,rfl⟩;rw[hfN] at hacc hcut hH;rcases aKd (m:=m) hc0 hacc hcut with⟨g,n,e,hg⟩|⟨n,e⟩
 ·refine .inl ⟨g,n,e,?_⟩;rcases hg with⟨f',s',c',rfl,hr,hs⟩|⟨k,rfl,hk2⟩
  ·have hs1:s'+1<=1099511627776:=by omega
   have a2:=aBj (m:=m) (n:=0) (c2:=cl 0) (q:=bZ 1) (f:=f') hk t hst hr hs1 (by decide) rfl hl;have h2:=xN (root:=bZ 1) hr (by omega) hs1 (kW (n:=0) (p:=stB) (by decide) hst);rw[hm] at a2;obtain⟨n2,e2⟩:=nP a2
   exact⟨_,_,n2,e2,.inl rfl,kV (n2:=0) h2 rfl rfl (by decide) rfl⟩
  ·have hs1:(1:Int)+1<=1099511627776:=by decide
   have h2:=xN (root:=bZ 1) hH.dh (by decide) hs1 (kW (n:=0) (p:=stB) (by decide) hst);rcases hk2 with rfl|rfl|rfl|rfl
   ·have a2:=aJr (m:=m) (q:=bZ 1) (f:=fN) (c2:=cl 0) hk t hst hH.dh hs1 hl (fun f=>bFb (.inl rfl) _ f _) (fun f=>bEz (.inl rfl) _ f _);rw[hm] at a2;obtain⟨n2,e2⟩:=nP a2
    exact⟨_,_,n2,e2,.inl rfl,kV (n2:=0) h2 rfl rfl (by decide) rfl⟩
   ·have a2:=aJr (m:=m) (q:=bZ 1) (f:=fN) (c2:=cl 0) hk t hst hH.dh hs1 hl (fun f=>bFb (.inr rfl) _ f _) (fun f=>bEz (.inr rfl) _ f _);rw[hm] at a2;obtain⟨n2,e2⟩:=nP a2
    exact⟨_,_,n2,e2,.inl rfl,kV (n2:=0) h2 rfl rfl (by decide) rfl⟩
   ·obtain⟨n2,e2⟩:=nP (aUb (m:=m) (f:=fN) (q:=bZ 1) (c2:=cl 0) hk t.xt (LM _ fN _))
    exact⟨_,_,n2,e2,.inr rfl,kV (n2:=0) hH rfl rfl (by decide) rfl⟩
   ·obtain⟨n2,e2⟩:=nP (aJq (m:=m) (n:=1) (c2:=cl 0) (f:=fN) (q:=bZ 1) hk t.xt (by decide) rfl)
    exact⟨_,_,n2,e2,.inr rfl,kV (n2:=0) hH rfl rfl (by decide) rfl⟩
 ·exact .inr ⟨_,_,n,e,kV (n2:=0) hH rfl rfl (by decide) rfl⟩
def bBx:List PV->Option (Prop×PV)
 |[]=>some (True,qi true)
 |_=>none
theorem aXs:aj Tryz.prog a_ 9 (bD true bBx):=by
 refine bC (aF Tryz.func9 (by kernel_rfl) rfl) (fun xs p r hg hp=>?_);unfold bBx at hg
 split at hg
 ·cases hg;exact aXr
 ·cases hg
def svL(H:Nat->j_):List (Nat×Spec):=[(9,bD true bBx),(12,newSpec 57 (CY H false)),(14,bD true JO),(20,bD false aLg),(16,bD true Wq),(15,bD false bEa)]
theorem svM{H:Nat->j_}(hb:Xd Tryz.prog a_ 12 57 (CY H false)):lm Tryz.prog a_ (find (svL H)):=⟨bV (fun p hp=>by
 simp only[svL,List.mem_cons,List.not_mem_nil,or_false] at hp;rcases hp with rfl|rfl|rfl|rfl|rfl|rfl
 ·exact aXs
 ·exact aIn (aF Tryz.func12 (by kernel_rfl) rfl) hb
 ·exact aKz
 ·exact aOz
 ·exact MG
 ·exact aEv),fK⟩
def svT(wh cut by':Nat):List (Nat×Option Bool×PV):=[(0,none,jo (.int .u8 wh)),(1,none,jo (.int .u8 cut)),(2,none,jo (.int .u8 by')),(7,none,qi true),(8,none,dn (.pt 2000 0 0))]
def svW(H:Nat->j_):Nat×Option Bool×Nat×og:=(2000,none,0,.box 57 (CY H false))
def PE(H:Nat->j_)(wh cut by' k:Nat)(m:jl):St:=⟨(9,none,iy k)::(10,none,dn (.pt 4001 0 0))::svT wh cut by',[(4001,none,0,.box 31 (zo m)),svW H]⟩
def aLX(H:Nat->j_)(wh cut by':Nat)(m:jl)(o:jk):St:=⟨(12,none,dn (.pt 9012 0 0))::(9,none,iy 0)::(10,none,dn (.pt 4001 0 0))::svT wh cut by',[(9012,none,0,.box 40 (h_ o)),(4001,none,0,.box 31 (zo m)),svW H]⟩
def aAZ(H:Nat->j_)(wh cut by':Nat)(m n:jl):St:=⟨(13,none,dn (.pt 10001 0 0))::(9,none,iy 0)::(10,none,dn (.pt 4001 0 0))::svT wh cut by',[(10001,none,0,.box 31 (zo n)),(4001,none,0,.box 31 (zo m)),svW H]⟩
def aAY(H:Nat->j_)(wh cut by':Nat)(m:jl)(o:jk):St:=⟨(15,none,dn (.pt 12012 0 0))::(9,none,iy 0)::(10,none,dn (.pt 4001 0 0))::svT wh cut by',[(12012,none,0,.box 40 (h_ o)),(4001,none,0,.box 31 (zo m)),svW H]⟩
def aAX(H:Nat->j_)(wh cut by' k:Nat)(m:jl)(q:QS):St:=⟨(16,none,dn (.pt 16018 0 0))::(19,none,qi q.1.isSome)::(PE H wh cut by' k m).t,(16018,none,0,.box 65 (m_ q.2.1))::(PE H wh cut by' k m).o⟩
def aAV(H:Nat->j_)(wh cut by' k:Nat)(m:jl)(x:j_):St:=⟨(16,none,dn (.pt 16018 0 0))::(PE H wh cut by' k m).t,(16018,none,0,.box 65 (m_ x))::(PE H wh cut by' k m).o⟩
def aAW(H:Nat->j_)(wh cut by' k:Nat)(m:jl)(q q':QS):St:=⟨(20,none,dn (.pt 18006 0 0))::(21,none,dn (.pt 18007 0 0))::(16,none,dn (.pt 16018 0 0))::(PE H wh cut by' k m).t,(18006,none,0,.box 65 (m_ q'.2.1))::(18007,none,0,.box 40 (h_ (bG q'.1)))::(16018,none,0,.box 65 (m_ q.2.1))::(PE H wh cut by' k m).o⟩
def Bc(wh:Nat):jl:=if wh % 3=1 then ED else zh 0 2
def Ar(wh:Nat)(o2:jk):jl:=if wh % 3=2 then zl o2 else Bc wh
def svK(wh:Nat):Nat:=if wh % 3=2 then 1 else 0
theorem bCg(L:List lu):wV L.length (uw L)=L:=by
 unfold wV uw;apply List.ext_getElem (by simp);intro i h1 h2;simp only[List.getElem_map,List.getElem_range];rw[zG,zH h2];rfl
theorem aMa(e:EvS):(kG e).length=250:=by simp[kG]
theorem bBl{H:Nat->j_}(hb:Xd Tryz.prog a_ 12 57 (CY H false))(q1 q2 q q' q3:QS)(wh cut by':Nat)(_:wh<=255)(ZT:cut<=255)(hby:by'<=255)(o1 o2:jk)(x:j_)
  (e1:dK [] (cO (zh 1 4)) (H 1) 0=q1) (k1:bG q1.1=o1) (e2:dK [] (cO (Aw o1)) (H 0) 0=q2) (k2:bG q2.1=o2)
  (e5:dK (kG (svE cut by')) (cO (Ar wh o2)) (H (svK wh)) 0=q) (e6:wh % 3=2->q.1=none->dK [] (cO (Ar wh o2)) q.2.1 0=q'/\((bG q'.1).err=0\/(bG q'.1).err=21)) (hx:x=if wh % 3=2/\q.1=none then q'.2.1 else q.2.1)
  (e7:dK [] (cO (zh (svK wh) 2)) x 0=q3) (hE:(bG q3.1).err=0) (hP:(bG q3.1).payload=stB\/(wh % 3=1/\(bG q3.1).payload=strOf [110,101,119]))
  (d0:o6 (H 0)) (d1:o6 (H 1)) (dq:o6 q.2.1) (dx:o6 x) (p2:uz (Aw o1)) (p4:uz (zl o2)) :
  gQ Tryz.prog a_ 7 true [jo (.int .u8 wh),jo (.int .u8 cut),jo (.int .u8 by')] (qi true):=by
 have M:=svM hb;refine bM Tryz.func7 rfl rfl bU (fun A hS hn hI=>?_);have h3:(wh:Int).tmod 3=((wh % 3:Nat):Int):=rfl;refine aB M hI hn (by rfl) (by kernel_rfl) ?_ ?_
 ·simp
 refine aB M hI hn (by rfl) (by kernel_rfl) ?_ ?_
 ·simp
 refine aB M hI hn (by rfl) (by kernel_rfl) ?_ ?_
 ·simp
 refine aB M hI hn (by rfl) (by kernel_rfl) ?_ ?_
 ·simp
 refine aB M hI hn (by rfl) (by kernel_rfl) ?_ ?_
 ·simp
 refine aI (s':=PE H wh cut by' 0 (zh 0 2)) (fun a w hg=>(hg.reset (kT:=[9,10,0,1,2,7,8]) (kO:=[4001,2000]) (by rfl) (by simp)).same ?_ ?_) ?_
 ·exact .cons rfl (.cons rfl (.cons rfl (.cons rfl (.cons rfl (.cons rfl (.cons rfl .nil))))))
 ·exact .cons (.box rfl) (.cons (.box rfl) .nil)
 refine aCm (PE H wh cut by' 0 (Bc wh)) ?_ ?_
 ·refine aB M hI hn (by rfl) (by kernel_rfl) ?_ ?_
  ·simp
  refine aH (by rfl) (fun hc=>?_) (fun hc=>?_)
  ·have hc2:((wh:Int).tmod 3==1)=true:=hc
   have hk:wh % 3=1:=by
    rw[h3] at hc2;have:=beq_iff_eq.1 hc2;omega
   refine aB M hI hn (by rfl) (by kernel_rfl) ?_ ?_
   ·simp
   refine aQ M hI hn (by rfl) (by kernel_rfl) ?_ ?_
   ·simp
   intro a w hg
   refine⟨rfl,(hg.reset (kT:=[9,10,0,1,2,7,8]) (kO:=[4001,2000]) (by rfl) (by simp)).same ?_ ?_⟩
   ·exact .cons rfl (.cons rfl (.cons rfl (.cons rfl (.cons rfl (.cons rfl (.cons rfl .nil))))))
   ·refine .cons (.box ?_) (.cons (.box rfl) .nil);unfold Bc;rw[if_pos hk];rfl
  ·have hc2:((wh:Int).tmod 3==1)=false:=hc
   have hk:¬wh % 3=1:=fun h=>by rw[h3,h] at hc2;cases hc2
   refine aO ?_;intro a w hg
   refine⟨rfl,(hg.reset (kT:=[9,10,0,1,2,7,8]) (kO:=[4001,2000]) (by rfl) (by simp)).same ?_ ?_⟩
   ·exact .cons rfl (.cons rfl (.cons rfl (.cons rfl (.cons rfl (.cons rfl (.cons rfl .nil))))))
   ·refine .cons (.box ?_) (.cons (.box rfl) .nil);unfold Bc;rw[if_neg hk];rfl
 refine aCm (PE H wh cut by' (svK wh) (Ar wh o2)) ?_ ?_
 ·refine aB M hI hn (by rfl) (by kernel_rfl) ?_ ?_
  ·simp
  refine aH (by rfl) (fun hc=>?_) (fun hc=>?_)
  ·have hc2:((wh:Int).tmod 3==2)=true:=hc
   have hk:wh % 3=2:=by
    rw[h3] at hc2;have:=beq_iff_eq.1 hc2;omega
   obtain⟨m0,hm0⟩:∃ m0,Bc wh=m0:=⟨_,rfl⟩;rw[hm0];refine aB M hI hn (by rfl) (by kernel_rfl) ?_ ?_
   ·simp
    exact⟨d1,UV 1 4⟩
   refine aI (s':=aLX H wh cut by' m0 o1) (fun a w hg=>(hg.reset (kT:=[12,9,10,0,1,2,7,8]) (kO:=[9012,4001,2000]) (by rfl) (by simp)).same ?_ ?_) ?_
   ·exact .cons rfl (.cons rfl (.cons rfl (.cons rfl (.cons rfl (.cons rfl (.cons rfl (.cons rfl .nil)))))))
   ·refine .cons (.box ?_) (.cons (.box rfl) (.cons (.box rfl) .nil));rw[<-k1,<-e1];change h_ (bG (dK [] (cO (zh 1 4)) (⟨bF (H 1).b.length (bJ (H 1).b),iP (H 1).f.length (r_ (H 1).f),(H 1).r⟩:j_) 0).1)=_;rw[aG,bK]
   refine aB M hI hn (by rfl) (by kernel_rfl) ?_ ?_
   ·simp
   refine aB M hI hn (by rfl) (by kernel_rfl) ?_ ?_
   ·simp
   refine aI (s':=aAZ H wh cut by' m0 (Aw o1)) (fun a w hg=>(hg.reset (kT:=[13,9,10,0,1,2,7,8]) (kO:=[10001,4001,2000]) (by rfl) (by simp)).same ?_ ?_) ?_
   ·exact .cons rfl (.cons rfl (.cons rfl (.cons rfl (.cons rfl (.cons rfl (.cons rfl (.cons rfl .nil)))))))
   ·exact .cons (.box rfl) (.cons (.box rfl) (.cons (.box rfl) .nil))
   refine aB M hI hn (by rfl) (by kernel_rfl) ?_ ?_
   ·simp
    exact⟨d0,p2⟩
   refine aI (s':=aAY H wh cut by' m0 o2) (fun a w hg=>(hg.reset (kT:=[15,9,10,0,1,2,7,8]) (kO:=[12012,4001,2000]) (by rfl) (by simp)).same ?_ ?_) ?_
   ·exact .cons rfl (.cons rfl (.cons rfl (.cons rfl (.cons rfl (.cons rfl (.cons rfl (.cons rfl .nil)))))))
   ·refine .cons (.box ?_) (.cons (.box rfl) (.cons (.box rfl) .nil));rw[<-k2,<-e2];change h_ (bG (dK [] (cO (Aw o1)) (⟨bF (H 0).b.length (bJ (H 0).b),iP (H 0).f.length (r_ (H 0).f),(H 0).r⟩:j_) 0).1)=_;rw[aG,bK]
   refine aB M hI hn (by rfl) (by kernel_rfl) ?_ ?_
   ·simp
   refine aB M hI hn (by rfl) (by kernel_rfl) ?_ ?_
   ·simp
   refine aQ M hI hn (by rfl) (by kernel_rfl) ?_ ?_
   ·simp
   intro a w hg
   refine⟨rfl,(hg.reset (kT:=[9,10,0,1,2,7,8]) (kO:=[4001,2000]) (by rfl) (by simp)).same ?_ ?_⟩
   ·exact .cons (by unfold svK;rw[if_pos hk];rfl) (.cons rfl (.cons rfl (.cons rfl (.cons rfl (.cons rfl (.cons rfl .nil))))))
   ·refine .cons (.box ?_) (.cons (.box rfl) .nil);unfold Ar;rw[if_pos hk];rfl
  ·have hc2:((wh:Int).tmod 3==2)=false:=hc
   have hk:¬wh % 3=2:=fun h=>by rw[h3,h] at hc2;cases hc2
   refine aO ?_;intro a w hg
   refine⟨rfl,(hg.reset (kT:=[9,10,0,1,2,7,8]) (kO:=[4001,2000]) (by rfl) (by simp)).same ?_ ?_⟩
   ·exact .cons (by unfold svK;rw[if_neg hk]) (.cons rfl (.cons rfl (.cons rfl (.cons rfl (.cons rfl (.cons rfl .nil))))))
   ·refine .cons (.box ?_) (.cons (.box rfl) .nil);unfold Ar;rw[if_neg hk];rfl
 obtain⟨m,hm⟩:∃ m,Ar wh o2=m:=⟨_,rfl⟩;obtain⟨k,hkk⟩:∃ k,svK wh=k:=⟨_,rfl⟩
 have aNU:k=0\/k=1:=by
  rw[<-hkk];unfold svK
  split
  ·exact .inr rfl
  ·exact .inl rfl
 have dk:o6 (H k):=by rcases aNU with rfl|rfl<;>assumption
 have pM:uz m:=by
  rw[<-hm];unfold Ar Bc
  split
  ·exact p4
  ·split
   ·exact PG
   ·exact UV 0 2
 rw[hm] at e5 e6;rw[hkk] at e5 e7;rw[hm,hkk]
 have hF:wV 250 (uw (kG (svE cut by')))=kG (svE cut by'):=by
  have:=bCg (kG (svE cut by'));rw[aMa] at this;exact this
 have hHk:(⟨bF (H (0+(k:Int).toNat)).b.length (bJ (H (0+(k:Int).toNat)).b),iP (H (0+(k:Int).toNat)).f.length (r_ (H (0+(k:Int).toNat)).f),(H (0+(k:Int).toNat)).r⟩:j_)=H k:=by rw[aG,bK,Nat.zero_add,Int.toNat_natCast]
 refine aB M hI hn (by rfl) (by kernel_rfl) ?_ ?_
 ·simp
  exact⟨by omega,⟨⟨by show (0:Int)<=0;decide,by show (0:Int)<256;decide⟩,⟨by show (0:Int)<=0;decide,by show (0:Int)<256;decide⟩,⟨by show (0:Int)<=(by':Int);omega,by show (by':Int)<256;omega⟩,⟨by show (0:Int)<=0;decide,by show (0:Int)<256;decide⟩,⟨by show (0:Int)<=(cut:Int);omega,by show (cut:Int)<256;omega⟩⟩,fun i _=>rfl,dk,by simp[wV],pM⟩
 refine aI (s':=aAX H wh cut by' k m q) (fun a w hg=>(hg.reset (kT:=[16,19,9,10,0,1,2,7,8]) (kO:=[16018,4001,2000]) (by rfl) (by simp)).same ?_ ?_) ?_
 ·refine .cons rfl (.cons ?_ (.cons rfl (.cons rfl (.cons rfl (.cons rfl (.cons rfl (.cons rfl (.cons rfl .nil))))))));rw[<-e5];change qi (dK (wV 250 (uw (kG (svE cut by')))) (cO m) (⟨bF (H (0+(k:Int).toNat)).b.length (bJ (H (0+(k:Int).toNat)).b),iP (H (0+(k:Int).toNat)).f.length (r_ (H (0+(k:Int).toNat)).f),(H (0+(k:Int).toNat)).r⟩:j_) 0).1.isSome=_;rw[hF,hHk]
 ·refine .cons (.box ?_) (.cons (.box rfl) (.cons (.box rfl) .nil));rw[<-e5];change m_ (dK (wV 250 (uw (kG (svE cut by')))) (cO m) (⟨bF (H (0+(k:Int).toNat)).b.length (bJ (H (0+(k:Int).toNat)).b),iP (H (0+(k:Int).toNat)).f.length (r_ (H (0+(k:Int).toNat)).f),(H (0+(k:Int).toNat)).r⟩:j_) 0).2.1=_;rw[hF,hHk]
 refine aCm (aAV H wh cut by' k m x) ?_ ?_
 ·refine aB M hI hn (by rfl) (by kernel_rfl) ?_ ?_
  ·simp
  refine aH (by rfl) (fun hc=>?_) (fun hc=>?_)
  ·have hc2:(bif (wh:Int).tmod 3==2 then !q.1.isSome else false)=true:=hc
   have hk:wh % 3=2/\q.1=none:=by
    cases h:((wh:Int).tmod 3==2) with
    |false=>rw[h] at hc2;cases hc2
    |true=>
     rw[h] at hc2;rw[h3] at h;have:=beq_iff_eq.1 h
     refine⟨by omega,?_⟩
     cases hq:q.1 with
     |none=>rfl
     |some _=>rw[hq] at hc2;cases hc2
   obtain⟨e6a,e6b⟩:=e6 hk.1 hk.2;rw[if_pos hk] at hx;refine aB M hI hn (by rfl) (by kernel_rfl) ?_ ?_
   ·simp
    exact⟨dq,pM⟩
   refine aI (s':=aAW H wh cut by' k m q q') (fun a w hg=>(hg.reset (kT:=[20,21,16,9,10,0,1,2,7,8]) (kO:=[18006,18007,16018,4001,2000]) (by rfl) (by simp)).same ?_ ?_) ?_
   ·exact .cons rfl (.cons rfl (.cons rfl (.cons rfl (.cons rfl (.cons rfl (.cons rfl (.cons rfl (.cons rfl (.cons rfl .nil)))))))))
   ·refine .cons (.box ?_) (.cons (.box ?_) (.cons (.box rfl) (.cons (.box rfl) (.cons (.box rfl) .nil))))
    ·rw[<-e6a];change m_ (dK [] (cO m) (⟨bF q.2.1.b.length (bJ q.2.1.b),iP q.2.1.f.length (r_ q.2.1.f),q.2.1.r⟩:j_) 0).2.1=_;rw[aG,bK]
    ·rw[<-e6a];change h_ (bG (dK [] (cO m) (⟨bF q.2.1.b.length (bJ q.2.1.b),iP q.2.1.f.length (r_ q.2.1.f),q.2.1.r⟩:j_) 0).1)=_;rw[aG,bK]
   refine aP ?_;refine aB M hI hn (by rfl) (by kernel_rfl) ?_ ?_
   ·simp
   refine aH (by rfl) (fun hc=>?_) (fun hc=>?_)
   ·have hc3:(bif (bG q'.1).err != 0 then (bG q'.1).err != 21 else false)=true:=hc;exfalso;rcases e6b with h|h
    ·rw[h] at hc3;cases hc3
    ·rw[h] at hc3;cases hc3
   refine aO ?_;change ja _ _ _ _ _;refine aQ M hI hn (by rfl) (by kernel_rfl) ?_ ?_
   ·simp
   intro a w hg
   refine⟨rfl,(hg.reset (kT:=[16,9,10,0,1,2,7,8]) (kO:=[16018,4001,2000]) (by rfl) (by simp)).same ?_ ?_⟩
   ·exact .cons rfl (.cons rfl (.cons rfl (.cons rfl (.cons rfl (.cons rfl (.cons rfl (.cons rfl .nil)))))))
   ·rw[hx];exact .cons (.box rfl) (.cons (.box rfl) (.cons (.box rfl) .nil))
  ·have hc2:(bif (wh:Int).tmod 3==2 then !q.1.isSome else false)=false:=hc
   have hk:¬(wh % 3=2/\q.1=none):=fun h=>by
    rw[h3,h.1,h.2] at hc2;cases hc2
   rw[if_neg hk] at hx;refine aO ?_;intro a w hg
   refine⟨rfl,(hg.reset (kT:=[16,9,10,0,1,2,7,8]) (kO:=[16018,4001,2000]) (by rfl) (by simp)).same ?_ ?_⟩
   ·exact .cons rfl (.cons rfl (.cons rfl (.cons rfl (.cons rfl (.cons rfl (.cons rfl (.cons rfl .nil)))))))
   ·rw[hx];exact .cons (.box rfl) (.cons (.box rfl) (.cons (.box rfl) .nil))
 refine aB M hI hn (by rfl) (by kernel_rfl) ?_ ?_
 ·simp
  exact⟨by omega,dx,UV k 2⟩
 obtain⟨pp,hpp⟩:∃ pp,(bG q3.1).payload=pp:=⟨_,rfl⟩;rw[hpp] at hP
 have hk3:bG q3.1={ bG q3.1 with payload:=pp,err:=0 }:=by rw[<-hpp,<-hE]
 refine aI (s':=⟨[(23,none,dn (.pt 22008 0 0)),(0,none,jo (.int .u8 wh)),(7,none,qi true)],[(22008,none,0,.box 40 (h_ { bG q3.1 with payload:=pp,err:=0 }))]⟩) (fun a w hg=>(hg.reset (kT:=[23,0,7]) (kO:=[22008]) (by rfl) (by simp)).same ?_ ?_) ?_
 ·exact .cons rfl (.cons rfl (.cons rfl .nil))
 ·refine .cons (.box ?_) .nil;rw[<-hk3,<-e7];change h_ (bG (dK [] (cO (zh k 2)) (⟨bF x.b.length (bJ x.b),iP x.f.length (r_ x.f),x.r⟩:j_) 0).1)=_;rw[aG,bK]
 refine aB M hI hn (by rfl) (by kernel_rfl) ?_ ?_
 ·simp[];exact fun h1 h2=>⟨h1,h2⟩
 refine aI (s':=⟨[(6,none,qi true)],[]⟩) (fun a w hg=>(hg.reset (kT:=[6]) (kO:=[]) (by rfl) (by simp)).same ?_ ?_) ?_
 ·refine .cons (congrArg qi ?_) .nil
  have hs1:stB.toList=[115,116,97,116,101]:=by rw[vS];exact dD _
  have hs2:(strOf [110,101,119]).toList=[110,101,119]:=by rw[vS];exact dD _
  have hs3:({ data:=#[115,116,97,116,101] }:ByteArray).toList=[115,116,97,116,101]:=by rw[vS]
  have hs4:({ data:=#[110,101,119] }:ByteArray).toList=[110,101,119]:=by rw[vS]
  rcases hP with h|⟨hw1,h⟩
  ·rw[h];simp[hs1,hs3]
  ·have h4:((wh:Int).tmod 3==1)=true:=by rw[h3,hw1];rfl
   rw[h,h4];simp[hs2,hs3,hs4]
 ·exact .nil
 refine aK (fun a w hg=>⟨.inr rfl,_,?_,hg⟩);refine aC (by rfl) (by simp) (by rfl) (by rfl) ?_;rfl
section
variable {m:jl} {f:Fl} {s:Int} {c2:List Int} {b q:List UInt8}
end
theorem Hg(wh cut by':Nat)(hw:wh<=255)(ZT:cut<=255)(hby:by'<=255):gQ Tryz.prog a_ 7 true [jo (.int .u8 wh),jo (.int .u8 cut),jo (.int .u8 by')] (qi true):=by
 obtain⟨n,fA,fB,B⟩:=aWt;have hb:=O0 (some SI,jf (cl 0) (cl 1) fA (bZ 0),n) _ _ _ rfl rfl rfl B.cr;have hbad:XY (some SI,jf (cl 0) (cl 1) fA (bZ 0),n)=false:=rfl;rw[hbad] at hb
 have hst:stB.size<=1000:=by show (5:Nat)<=1000;decide
 obtain⟨n1,e1⟩:=nP off1;obtain⟨n2,e2⟩:=nP B.snd;have zA:=B.hA.dh.sz;have p4:=bIe (r:=z_) rfl GK hst;have tr:Xn (zl (eG (yg 7) z_)) stB:=aBn (r:=z_) rfl;have dA:o6 (jf (cl 0) (cl 1) fA (bZ 0)):=zZ (by decide) (by decide) zA rfl;have d1:o6 (Bi (bZ 1)):=bGo _ rfl;have hH0:Ff (some SI,jf (cl 0) (cl 1) fA (bZ 0),n) (Bi (bZ 1)) (Bi (bZ 2)) 0=jf (cl 0) (cl 1) fA (bZ 0):=rfl;have hH1:Ff (some SI,jf (cl 0) (cl 1) fA (bZ 0),n) (Bi (bZ 1)) (Bi (bZ 2)) 1=Bi (bZ 1):=rfl
 have b0:(0:Int)<=(by':Int):=by omega
 have b1:(by':Int)<=255:=by omega
 have c0:(0:Int)<=(cut:Int):=by omega
 obtain⟨X,hX⟩:∃ X,zl (eG (yg 7) z_)=X:=⟨_,rfl⟩;obtain⟨H,hH⟩:∃ H,Ff (some SI,jf (cl 0) (cl 1) fA (bZ 0),n) (Bi (bZ 1)) (Bi (bZ 2))=H:=⟨_,rfl⟩;rw[hH] at hb hH0 hH1
 have dk:o6 (H (svK wh)):=by
  unfold svK
  split
  ·rw[hH1];exact d1
  ·rw[hH0];exact dA
 obtain⟨q,hq⟩:∃ q:QS,dK (kG (svE cut by')) (cO (Ar wh (eG (yg 7) z_))) (H (svK wh)) 0=q:=⟨_,rfl⟩
 have dq:o6 q.2.1:=by rw[<-hq];exact aJa _ _ (aKu _) _ _ dk
 have main:∃ q':QS,∃ x:j_,(wh % 3=2->q.1=none->dK [] (cO (Ar wh (eG (yg 7) z_))) q.2.1 0=q'/\((bG q'.1).err=0\/(bG q'.1).err=21))/\x=(if wh % 3=2/\q.1=none then q'.2.1 else q.2.1)/\XX (svK wh) (fun c=>c=stB\/(wh % 3=1/\c=strOf [110,101,119])) x:=by
  by_cases k2:wh % 3=2
  ·have hm:Ar wh (eG (yg 7) z_)=X:=by unfold Ar;rw[if_pos k2,hX]
   have hk:svK wh=1:=by unfold svK;rw[if_pos k2]
   rw[hm,hk,hH1] at hq;rw[hm,hk];rw[hX] at tr;have hs:=aBA (m:=X) (cut:=cut) (by':=by') c0 b0 b1 (by rw[<-hX];rfl) (by rw[<-hX];rfl) tr (by rw[<-hX];rfl);rcases hs with⟨g,m,e,o,x,m2,e6,herr,hl⟩|⟨o,x,m,e,hl⟩
   ·rw[hq] at e;subst e
    refine⟨(some o,x,m2),x,fun _ _=>⟨e6,herr⟩,(if_pos ⟨k2,rfl⟩).symm,?_⟩
    obtain⟨s,c,h',m3,e7,hp⟩:=hl
    exact⟨s,c,h',m3,e7,.inl hp⟩
   ·rw[hq] at e;subst e
    refine⟨(none,x,0),x,(fun _ h=>by cases h),(if_neg (fun h=>by cases h.2)).symm,?_⟩
    obtain⟨s,c,h',m3,e7,hp⟩:=hl
    exact⟨s,c,h',m3,e7,.inl hp⟩
  ·have hk:svK wh=0:=by unfold svK;rw[if_neg k2]
   have hm2:Ar wh (eG (yg 7) z_)=Bc wh:=by unfold Ar;rw[if_neg k2]
   rw[hk,hm2,hH0] at hq;rw[hk]
   refine⟨(none,q.2.1,0),q.2.1,fun h=>absurd h k2,(if_neg (fun h=>k2 h.1)).symm,?_⟩
   by_cases k1:wh % 3=1
   ·have hm:Bc wh=ED:=by unfold Bc;rw[if_pos k1]
    rw[hm] at hq;obtain⟨s,c,h',m3,e7,hp⟩:=aBB (cut:=cut) (by':=by') c0 b0 b1 B.hA;rw[hq] at e7
    exact⟨s,c,h',m3,e7,hp.imp id fun h=>⟨k1,h⟩⟩
   ·have hm:Bc wh=zh 0 2:=by unfold Bc;rw[if_neg k1]
    rw[hm] at hq;obtain⟨s,c,h',m3,e7,hp⟩:=aBC (cut:=cut) (by':=by') c0 b0 b1 B.hA;rw[hq] at e7
    exact⟨s,c,h',m3,e7,.inl hp⟩
 obtain⟨q',x,h6,hx,s,c,h',m3,e7,hp⟩:=main
 have dx:o6 x:=by
  rw[hx]
  split
  ·rename_i h;rw[<-(h6 h.1 h.2).1];exact aJa _ _ (aKu _) _ _ dq
  ·exact dq
 rw[<-hH0] at e2;rw[<-hH1] at e1
 exact bBl hb _ _ q q' _ wh cut by' hw ZT hby EF (eG (yg 7) z_) x e1 rfl e2 rfl hq h6 hx e7 rfl hp (by rw[hH0];exact dA) (by rw[hH1];exact d1) dq dx (bBs (o:=EF) rfl GK) p4
end Pv
section
open Go.ChangeShapes Go.WideShapes Go.ChangeAt Go.RowKit Go.Joins Go.Deep
open Go.ChangeMaps (open_string shut_string)
set_option linter.unusedVariables false
theorem own:ownKnob Tryz.prog.godebug=none:=by kernel_rfl
theorem laidOut:laidOutB Tryz.prog=true:=by kernel_rfl
theorem gK:Tryz.prog.globalNamed "bootchain/sha.constants" = some 2:=by kernel_rfl
theorem Wi:(Tryz.prog.globals[2]?).map (·.type)=some 269:=by kernel_rfl
theorem gH:Tryz.prog.globalNamed "bootchain/sha.start" = some 0:=by kernel_rfl
theorem gHType:(Tryz.prog.globals[0]?).map (·.type)=some 263:=by kernel_rfl
theorem XH:Tryz.prog.cellsOf 269=64:=by kernel_rfl
theorem XI:Tryz.prog.cellsOf 263=8:=by kernel_rfl
theorem aWp:Tryz.prog.cellsOf 203=1:=by kernel_rfl
def Zx(l:List UInt32):List Int:=l.map fun x=>(x.toNat:Int)
theorem aEX:(Rows.laid_bootchain_sha_constants:DataW Unit)=Lib.tabData .u32 (Zx qh):=by kernel_rfl
theorem aEY:(Rows.laid_bootchain_sha_start:DataW Unit)=Lib.tabData .u32 (Zx mF):=by kernel_rfl
theorem aEm{W:World}{name:String}{l:List UInt32}{g:Nat}(h:Lib.TabIs Tryz.prog W name .u32 (Zx l))(hg:Tryz.prog.globalNamed name=some g):W.rangeAt g 0 (l.map w32):=by
 intro j v hj;rw[List.getElem?_map] at hj;obtain⟨x,hx,rfl⟩:=Option.map_eq_some_iff.1 hj
 have hl:j<l.length:=by
  rcases Nat.lt_or_ge j l.length with h'|h'
  ·exact h'
  ·rw[List.getElem?_eq_none h'] at hx;cases hx
 have:=h.cell hg j (by unfold Zx;simpa using hl);rw[show (Zx l).getD j 0=(x.toNat:Int) from by unfold Zx;simp[List.getD,hx]] at this
 simpa[w32] using this
theorem aGy{W:World}(h:laidMetH Tryz.prog [("bootchain/sha.constants",Rows.laid_bootchain_sha_constants),("bootchain/sha.start",Rows.laid_bootchain_sha_start)] W):a_ W:=by
 have h1:laidMet Tryz.prog [("bootchain/sha.constants",Rows.laid_bootchain_sha_constants),("bootchain/sha.start",Rows.laid_bootchain_sha_start)] W:=h;have h2:=laidMet.tail h1;rw[aEX] at h1;rw[aEY] at h2
 exact⟨aEm (Lib.tabIs_of_head gK Wi Tryz.underlying269 Tryz.underlying203 aWp XH h1) gK,
  aEm (Lib.tabIs_of_head gH gHType Tryz.underlying263 Tryz.underlying203 aWp XI h2) gH⟩
def aVp(cs:List Value):Obj->Obj
 |.cells _ t frozen=>.cells cs.toArray t frozen
 |o=>o
noncomputable def laidWorld (os:Os):World:=
 { World.holding Tryz.prog os ⟨#[],#[],[]⟩ with
  heap:=((World.holding Tryz.prog os ⟨#[],#[],[]⟩).heap.modify 2 (aVp (qh.map w32))).modify 0 (aVp (mF.map w32)) }
section
variable {H:Type} {enc:TypeId×Value->H} {P:Program} {w:World} {base:Nat} {spare:Nat->Bool} {held:Bool}
end
end
section
open Go.ChangeShapes Go.WideShapes Go.ChangeAt Go.RowKit Go.Joins Go.Deep
section
variable {H:Type} {enc:TypeId×Value->H} {P:Program} {w:World} {base:Nat} {spare:Nat->Bool} {held:Bool}
end
end
section
open Go.ChangeShapes Go.WideShapes Go.ChangeAt Go.RowKit Go.Joins Go.Deep
end
namespace Pv
open Go.ChangeShapes Go.WideShapes Go.ChangeAt Go.RowKit Go.Joins Go.Deep
def argX(w:World):Ctx:={ w:=w,ok:=fun _=>True,env:=fun _=>none }
section
variable {H:Type} {enc:TypeId×Value->H} {w:World} {base:Nat} {spare:Nat->Bool} {held:Bool}
end
section
variable {H:Type} {enc:TypeId×Value->H} {w:World} {base:Nat} {spare:Nat->Bool} {held:Bool}
end
section
variable {H:Type} {enc:TypeId×Value->H} {v:Value} {d:DataW H} {p:List MemPlace} {W:World} {base:Nat}
theorem gQ.law{P:Program}{I:World->Prop}{f:Nat}{new:Bool}{args:List PV}(h:gQ P I f new args (qi true)){vs:List Value}(hI:I W)(hv:mg (argX W) args vs):Calls P f vs.toArray W fun e W'=>e=.returned (.bool true)/\Ext W W':=by
 refine (h W (fun _=>True) vs hI hv).mono ?_;rintro e w' ⟨val,rfl,hE,hr⟩
 exact⟨congrArg Ending.returned hr.dw,hE⟩
end
end Pv
end Go.Proofs.YtndpjopifkbgiaaGreatDoor
