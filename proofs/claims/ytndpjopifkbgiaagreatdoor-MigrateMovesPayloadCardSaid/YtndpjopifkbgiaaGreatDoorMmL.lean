/-
  Several texts in one file: each has its own heading below.
-/
import Derived.Test.YtndpjopifkbgiaaGreatDoorMmK
import Derived.Test.YtndpjopifkbgiaaGreatDoorMmC
import Derived.Test.YtndpjopifkbgiaaGreatDoorMmJ
import Derived.Test.YtndpjopifkbgiaaGreatDoorMmA
set_option maxRecDepth 100000
set_option maxHeartbeats 4000000
namespace Go.Proofs.YtndpjopifkbgiaaGreatDoor
open Go.RowKit
section
def dP(rec area:Int):Int:=if rec<0\/3<rec\/area<0\/1<area then -1 else 8*(2*rec+area)
def x_(seq:Int)(c:List UInt8):List UInt8:=di seq++bU c
def encS(rec seq:Int)(c:List UInt8):List UInt8:=x_ seq c++nC 5 [di rec,x_ seq c]
def rf(b:List UInt8):List UInt8×Nat×Int:=jB (b.drop (b_ b).2.1)
def oq(rec:Int)(b:List UInt8):Int×List UInt8:=
 if (b_ b).2.2≠0\/(b_ b).1<1\/1099511627776<(b_ b).1 then (0,[]) else
 if (rf b).2.2≠0\/2000<(rf b).1.length\/b.take (encS rec (b_ b).1 (rf b).1).length≠encS rec (b_ b).1 (rf b).1 then (0,[]) else ((b_ b).1,(rf b).1)
def vz(x y:Int×List UInt8):(Int×List UInt8)×Nat:=if x.1=0\/x.1<y.1 then (y,1) else (x,0)
structure Dt where
 content:ByteArray
 seq:Int
 err:Int
def zS(x:Int×List UInt8):Dt:=if x.1=0 then⟨aS,0,13⟩ else⟨strOf x.2,x.1,0⟩
def ai.rd(s:Int):ai ByteArray:=.ask ⟨3,0,s,aS⟩ fun r=>.ret r.bytes
def ai.wr(s:Int)(b:ByteArray):ai Unit:=.ask ⟨4,0,s,b⟩ fun _=>.ret ()
def ai.uf(f:Int):Nat->List UInt8->ai (List UInt8)
 |0,b=>.ret b
 |n+1,b=>(ai.rd (f+((7-n:Nat):Int))).bind fun s=>ai.uf f n (b++s.data.toList)
def ai.cur(rec:Int):ai ((Int×List UInt8)×Nat):=(ai.uf (dP rec 0) 8 []).bind fun a=>(ai.uf (dP rec 1) 8 []).bind fun b=>.ret (vz (oq rec a) (oq rec b))
def ai.load(rec:Int):ai Dt:=if dP rec 0<0 then .ret ⟨aS,0,1⟩ else (ai.cur rec).bind fun p=>.ret (zS p.1)
def jm(b:List UInt8)(k:Nat):List UInt8:=(b.drop (256*k)).take 256++List.replicate (256-((b.drop (256*k)).take 256).length) 0
def iQ:List UInt8:=List.replicate 256 0
def nsec(b:List UInt8):Nat:=(b.length+255) / 256
def ai.G6(f:Int)(b:List UInt8):Nat->Nat->ai Unit
 |0,_=>.ret ()
 |n+1,i=>(ai.wr (f+(i:Int)) (strOf (jm b i))).bind fun _=>ai.G6 f b n (i+1)
def ai.write(f:Int)(b:List UInt8):ai Unit:=(ai.wr f (strOf iQ)).bind fun _=>(ai.G6 f b (nsec b-1) 1).bind fun _=>ai.wr f (strOf (jm b 0))
def ai.save(rec:Int)(c:ByteArray):ai Dt:=if dP rec 0<0 then .ret ⟨aS,0,1⟩ else if 2000<c.size then .ret ⟨aS,0,19⟩ else
 (ai.cur rec).bind fun p=>if 1099511627776<p.1.1+1 then .ret ⟨aS,0,19⟩ else (ai.write (dP rec (1-(p.2:Int))) (encS rec (p.1.1+1) c.data.toList)).bind fun _=>.ret ⟨c,p.1.1+1,0⟩
theorem oD(seq:Int)(c:List UInt8):(x_ seq c).length=(di seq).length+((di (c.length:Int)).length+c.length):=by unfold x_ bU;simp
theorem lW(rec seq:Int)(c:List UInt8):(encS rec seq c).length=(x_ seq c).length+16:=by unfold encS;rw[List.length_append,jK]
theorem qJ(rec:Int)(b:List UInt8):0<=(oq rec b).1/\(oq rec b).1<=1099511627776:=by
 unfold oq
 split
 ·exact⟨Int.le_refl _,by decide⟩
 ·split
  ·exact⟨Int.le_refl _,by decide⟩
  ·rename_i h _;dsimp only;omega
theorem aCj:∀ (f u v:Nat),u<=v->(varint f u).length<=(varint f v).length
 |0,_,_,_=>by simp[varint]
 | f+1,u,v,h=>by
  by_cases hv:v<128
  ·rw[jC hv,jC (by omega)];simp
  ·rw[lJ hv]
   by_cases hu:u<128
   ·rw[jC hu];simp
   ·rw[lJ hu,List.length_cons,List.length_cons];exact Nat.succ_le_succ (aCj f _ _ (Nat.div_le_div_right h))
theorem bDp(rec seq:Int){s c:List UInt8}(h:s.length<=c.length):(encS rec seq s).length<=(encS rec seq c).length:=by
 have h1:(di (s.length:Int)).length<=(di (c.length:Int)).length:=aCj 9 _ _ (by unfold zig;rw[if_pos (by omega),if_pos (by omega)];omega);rw[lW,lW,oD,oD];omega
theorem aUe(rec seq:Int)(c r:List UInt8)(h1:1<=seq)(h2:seq<=1099511627776)(hc:c.length<=2000):oq rec (encS rec seq c++r)=(seq,c):=by
 obtain⟨d,hd⟩:∃ d,nC 5 [di rec,x_ seq c]=d:=⟨_,rfl⟩
 have e1:encS rec seq c++r=di seq++(bU c++(d++r)):=by unfold encS;rw[hd];unfold x_;simp
 have g:b_ (encS rec seq c++r)=(seq,(di seq).length,0):=by rw[e1];exact kY _ (by omega) (by omega)
 have k:rf (encS rec seq c++r)=(c,(bU c).length,0):=by
  unfold rf;rw[g];dsimp only;rw[e1,List.drop_left];exact uF _ _ (by omega)
 unfold oq;rw[g,k];dsimp only;rw[if_neg (by omega),List.take_left,if_neg (by simp;omega)]
theorem bDx(rec:Int)(b:List UInt8):oq rec (0::b)=(0,[]):=by
 have h:b_ (0::b)=(0,1,0):=kY (n:=0) b (by decide) (by decide);unfold oq;rw[h];rfl
theorem aYq{n:Int}(h1:-9223372036854775808<=n)(h2:n<9223372036854775808)(h0:n≠0):(di n).getD ((di n).length-1) 0≠0:=by
 have hp:=aIc n h1 h2
 have hz:zig n≠0:=by unfold zig;split<;>omega
 have hn:vZ (di n):=aMm 9 _ (by have:=Z_ h1 h2;omega) hz;exact (rD (di n) ((di n).length-1) (by omega)).1 hn
theorem aNi{v:Int}{r W:List UInt8}{cut n k:Nat}{q:Int}(h1:-9223372036854775808<=v)(h2:v<9223372036854775808)(hp:∀ i,i<cut->W[i]?=(di v++r)[i]?)(hz:∀ i,cut<=i->i<n->W[i]?=some 0)(hn:10<=n)(hg:b_ W=(q,k,0)) :
  (q=v/\k=(di v).length)\/(q=0/\k=1):=by
 obtain⟨g1,g2,g3,g4,g5,g6⟩:=bCr hg
 by_cases hk:k<=cut
 ·left
  have e:(di v++r).take k=di q:=by
   rw[<-g1];apply List.ext_getElem?;intro i;rw[List.getElem?_take,List.getElem?_take]
   split
   ·exact (hp i (by omega)).symm
   ·rfl
  have e2:di v++r=di q++(di v++r).drop k:=by rw[<-e,List.take_append_drop]
  have a1:=kY r h1 h2;rw[e2,kY _ g5 g6] at a1;simp only[Prod.mk.injEq,and_true] at a1
  refine⟨a1.1,?_⟩
  have:(W.take k).length=k:=by rw[List.length_take];omega
  rw[g1] at this;rw[<-this,a1.2]
 ·right
  have hl:(di q).length=k:=by rw[<-g1,List.length_take];omega
  have hlast:(di q).getD (k-1) 0=0:=by
   rw[<-g1,zG,List.getElem?_take,if_pos (by omega),hz (k-1) (by omega) (by omega)];rfl
  by_cases h0:q=0
  ·subst h0
   exact⟨rfl,by rw[<-hl];rfl⟩
  ·exact absurd (hl ▸ hlast) (by rw[hl];have:=aYq g5 g6 h0;rw[hl] at this;exact this)
theorem bDy{rec seq:Int}{c W:List UInt8}{cut:Nat}(h1:1<=seq)(h2:seq<=1099511627776)(hc:c.length<=2000)(hcb:cut<=(encS rec seq c).length)(hp:∀ i,i<cut->W[i]?=(encS rec seq c)[i]?)(hz:∀ i,cut<=i->i<256->W[i]?=some 0) :
  oq rec W=(0,[])\/∃ s,oq rec W=(seq,s)/\s.length<=c.length/\W.take (encS rec seq s).length=encS rec seq s:=by
 obtain⟨d,hd⟩:∃ d,nC 5 [di rec,x_ seq c]=d:=⟨_,rfl⟩
 have e1:encS rec seq c=di seq++(di (c.length:Int)++(c++d)):=by unfold encS;rw[hd];unfold x_ bU;simp
 have hw1:=aX seq;have hw2:=aX (c.length:Int)
 by_cases hq:oq rec W=(0,[])
 ·exact .inl hq
 right
 unfold oq at hq
 split at hq
 ·exact absurd rfl hq
 ·rename_i q1
  split at hq
  ·exact absurd rfl hq
  ·rename_i q2;obtain⟨q,k,e,hg⟩:∃ q k e,b_ W=(q,k,e):=⟨_,_,_,rfl⟩;have hq1:=q1;rw[hg] at q1;dsimp only at q1
   obtain rfl:e=0:=by omega
   have hsq:q=seq/\k=(di seq).length:=by
    rcases aNi (v:=seq) (r:=di (c.length:Int)++(c++d)) (W:=W) (cut:=cut) (n:=256) (by omega) (by omega) (fun i hi=>by rw[hp i hi,e1]) hz (by omega) hg with h|h
    ·exact h
    ·omega
   obtain⟨rfl,rfl⟩:=hsq
   have hcon:rf W=jB (W.drop (di q).length):=by unfold rf;rw[hg]
   have hle:(rf W).1.length<=c.length:=by
    by_cases hz2:(b_ (W.drop (di q).length)).2.2=0
    ·obtain⟨m,j,e,hm⟩:∃ m j e,b_ (W.drop (di q).length)=(m,j,e):=⟨_,_,_,rfl⟩;rw[hm] at hz2
     obtain rfl:e=0:=hz2
     have hmc:m=(c.length:Int)\/m=0:=by
      have hpp:∀ i,i<cut-(di q).length->(W.drop (di q).length)[i]?=(di (c.length:Int)++(c++d))[i]?:=fun i hi=>by
       rw[List.getElem?_drop,hp _ (by omega),e1,List.getElem?_append_right (by omega),show (di q).length+i-(di q).length=i from by omega]
      rcases aNi (v:=(c.length:Int)) (r:=c++d) (W:=W.drop (di q).length) (cut:=cut-(di q).length) (n:=256-(di q).length) (by omega) (by omega) hpp (fun i hi hj=>by rw[List.getElem?_drop];exact hz _ (by omega) (by omega)) (by omega) hm with h|h
      ·exact .inl h.1
      ·exact .inr h.1
     rw[hcon];unfold jB;rw[hm];dsimp only;rw[if_neg (by simp)]
     split
     ·simp
     ·split
      ·simp
      ·rw[List.length_take];rcases hmc with rfl|rfl<;>omega
    ·rw[hcon];unfold jB;rw[if_pos hz2];simp
   refine⟨(rf W).1,?_,hle,?_⟩
   ·unfold oq;rw[if_neg hq1,if_neg q2,hg]
   ·rw[hg] at q2;dsimp only at q2
    by_cases h:W.take (encS rec q (rf W).1).length=encS rec q (rf W).1
    ·exact h
    ·exact absurd (.inr (.inr h)) q2
def iW(cut:Int)(a:Acc)(f:Fl):Fl:=if a.kind=3 then f else iT f a.cell a.bytes cut
def Bc(a:Acc)(f:Fl):je:=⟨0,if a.kind=3 then strOf (sec f a.cell) else aS⟩
section
variable {α β:Type}
def yh:ai α->Fl->α
 |.ret a,_=>a
 |.ask a k,f=>yh (k (Bc a f)) (iW (-1) a f)
def m_:ai α->Fl->List Acc
 |.ret _,_=>[]
 |.ask a k,f=>a::m_ (k (Bc a f)) (iW (-1) a f)
def uy(L:List Acc)(f:Fl):Fl:=L.foldl (fun f a=>iW (-1) a f) f
theorem aEg(L M:List Acc)(f:Fl):uy (L++M) f=uy M (uy L f):=List.foldl_append ..
theorem qM(p:ai α)(g:α->ai β):∀ f,m_ (p.bind g) f=m_ p f++m_ (g (yh p f)) (uy (m_ p f) f):=by
 induction p with
 |ret a=>intro f;rfl
 |ask a k ih=>
  intro f;show a::m_ ((k (Bc a f)).bind g) (iW (-1) a f)=_;rw[ih];rfl
theorem tK(p:ai α)(g:α->ai β):∀ f,yh (p.bind g) f=yh (g (yh p f)) (uy (m_ p f) f):=by
 induction p with
 |ret a=>intro f;rfl
 |ask a k ih=>
  intro f;show yh ((k (Bc a f)).bind g) (iW (-1) a f)=_;rw[ih];rfl
def bDm(cut bytes:Int):ai α->Fl->List Acc->Fl×Option α×List Acc
 |.ret o,f,l=>(f,some o,l)
 |.ask a k,f,l=>if (l.length:Int)=cut then (iW (max 0 bytes) a f,none,l++[a]) else bDm cut bytes (k (Bc a f)) (iW (-1) a f) (l++[a])
theorem aJy(cut bytes:Int)(p:ai α):∀ (f:Fl) (l:List Acc),bDm cut bytes p f l =
  if h:(l.length:Int)<=cut/\(cut-l.length).toNat<(m_ p f).length then
   (iW (max 0 bytes) ((m_ p f)[(cut-l.length).toNat]'h.2) (uy ((m_ p f).take (cut-l.length).toNat) f),none,l++(m_ p f).take ((cut-l.length).toNat+1))
  else (uy (m_ p f) f,some (yh p f),l++m_ p f):=by
 induction p with
 |ret a=>intro f l;rw[dif_neg (by simp[m_])];simp[bDm,m_,uy,yh]
 | ask a k ih=>
  intro f l;rw[bDm]
  by_cases hc:(l.length:Int)=cut
  ·rw[if_pos hc]
   have e0:(cut-(l.length:Int)).toNat=0:=by omega
   rw[dif_pos ⟨by omega,by rw[e0];simp[m_]⟩];simp[e0,m_,uy]
  ·rw[if_neg hc,ih]
   have hl:((l++[a]).length:Int)=l.length+1:=by simp
   by_cases h:(((l++[a]).length:Nat):Int)<=cut/\(cut-((l++[a]).length:Nat)).toNat<(m_ (k (Bc a f)) (iW (-1) a f)).length
   ·have e1:(cut-(l.length:Int)).toNat=(cut-((l++[a]).length:Nat)).toNat+1:=by omega
    rw[dif_pos h,dif_pos ⟨by omega,by rw[e1];simp only[m_,List.length_cons];omega⟩];simp only[e1,m_,List.getElem_cons_succ,List.take_succ_cons,uy,List.foldl_cons,List.append_assoc,List.singleton_append]
   ·rw[dif_neg h,dif_neg (by
     simp only[m_,List.length_cons]
     omega)]
    simp only[m_,uy,List.foldl_cons,List.append_assoc,List.singleton_append,yh]
end
def Fq(f:Fl)(s:Int):Nat->List UInt8
 |0=>[]
 |n+1=>sec f (s+((7-n:Nat):Int))++Fq f s n
def xA(f:Fl)(s:Int):List UInt8:=Fq f s 8
def nT(s:Int):Nat->List Acc
 |0=>[]
 |n+1=>⟨3,0,s+((7-n:Nat):Int),aS⟩::nT s n
theorem qB(s:Int):∀ (n:Nat) (f:Fl),uy (nT s n) f=f
 |0,_=>rfl
 |n+1,f=>qB s n f
theorem aPi(s:Int):∀ (n:Nat) (b:List UInt8) (f:Fl),m_ (ai.uf s n b) f=nT s n/\yh (ai.uf s n b) f=b++Fq f s n
 |0,b,f=>⟨rfl,by simp[ai.uf,yh,Fq]⟩
 |n+1,b,f=>by
  have ih:=aPi s n (b++sec f (s+((7-n:Nat):Int))) f;have e:ai.uf s (n+1) b=.ask ⟨3,0,s+((7-n:Nat):Int),aS⟩ fun r=>ai.uf s n (b++r.bytes.data.toList):=rfl;rw[e];simp only[m_,yh,iW,Bc,if_pos,dA];rw[ih.1,ih.2]
  exact⟨rfl,by rw[Fq,List.append_assoc]⟩
def Da(f:Fl)(rec k:Int):Int×List UInt8:=oq rec (xA f (dP rec k))
def jg(f:Fl)(rec:Int):(Int×List UInt8)×Nat:=vz (Da f rec 0) (Da f rec 1)
def BL(rec:Int):List Acc:=nT (dP rec 0) 8++nT (dP rec 1) 8
theorem OE(rec:Int)(f:Fl):m_ (ai.cur rec) f=BL rec/\yh (ai.cur rec) f=jg f rec/\uy (m_ (ai.cur rec) f) f=f:=by
 have h0:=aPi (dP rec 0) 8 [] f;have h1:=aPi (dP rec 1) 8 [] f
 have e:m_ (ai.cur rec) f=BL rec:=by
  unfold ai.cur;rw[qM,qM,h0.1,qB,h1.1];simp[m_,BL]
 refine⟨e,?_,?_⟩
 ·unfold ai.cur;rw[tK,tK,h0.1,qB,h0.2,h1.2];rfl
 ·rw[e];unfold BL;rw[aEg,qB,qB]
theorem lQ(rec:Int):(BL rec).length=16:=rfl
def AX(s:Int)(b:List UInt8):Nat->Nat->List Acc
 |0,_=>[]
 |n+1,i=>⟨4,0,s+(i:Int),strOf (jm b i)⟩::AX s b n (i+1)
def dU(s:Int)(b:List UInt8):List Acc:=⟨4,0,s,strOf iQ⟩::(AX s b (nsec b-1) 1++[⟨4,0,s,strOf (jm b 0)⟩])
theorem SG(s:Int)(b:List UInt8):∀ (n i:Nat) (f:Fl),m_ (ai.G6 s b n i) f=AX s b n i
 |0,_,_=>rfl
 |n+1,i,f=>by
  have e:ai.G6 s b (n+1) i=.ask ⟨4,0,s+(i:Int),strOf (jm b i)⟩ fun _=>ai.G6 s b n (i+1):=rfl;rw[e,m_,SG s b n (i+1)];rfl
theorem OU(s:Int)(b:List UInt8)(f:Fl):m_ (ai.write s b) f=dU s b:=by
 have e:ai.write s b=.ask ⟨4,0,s,strOf iQ⟩ fun _=>(ai.G6 s b (nsec b-1) 1).bind fun _=>ai.wr s (strOf (jm b 0)):=rfl;rw[e,m_,qM,SG];rfl
theorem kJ(s:Int)(b:List UInt8):∀ n i,(AX s b n i).length=n
 |0,_=>rfl
 |n+1,i=>by rw[AX,List.length_cons,kJ]
theorem aHy(s:Int)(b:List UInt8):∀ (n i j:Nat),j<n->(AX s b n i)[j]?=some ⟨4,0,s+((i+j:Nat):Int),strOf (jm b (i+j))⟩
 |0,_,_,h=>by omega
 |n+1,i,0,_=>rfl
 |n+1,i,j+1,h=>by
  rw[AX,List.getElem?_cons_succ,aHy s b n (i+1) j (by omega),show i+1+j=i+(j+1) from by omega]
theorem uG{rec k:Int}(h1:0<=rec)(h2:rec<=3)(h3:0<=k)(h4:k<=1):dP rec k=8*(2*rec+k):=by unfold dP;rw[if_neg (by omega)]
theorem aUg(x y:Int×List UInt8):(vz x y).2=0\/(vz x y).2=1:=by unfold vz;split<;>simp
theorem aSm{rec:Int}{c:ByteArray}{f:Fl}(h1:0<=rec)(h2:rec<=3)(hc:c.size<=2000)(hs:(jg f rec).1.1+1<=1099511627776) :
  m_ (ai.save rec c) f=BL rec++dU (dP rec (1-((jg f rec).2:Int))) (encS rec ((jg f rec).1.1+1) c.data.toList)/\yh (ai.save rec c) f=⟨c,(jg f rec).1.1+1,0⟩:=by
 obtain⟨q1,q2,q3⟩:=OE rec f
 have h0:¬dP rec 0<0:=by rw[uG h1 h2 (by omega) (by omega)];omega
 unfold ai.save;rw[if_neg h0,if_neg (by omega),qM,tK,q3,q2,q1,if_neg (by omega),qM,tK,OU];simp[m_,yh]
theorem VD{rec:Int}{f:Fl}(h1:0<=rec)(h2:rec<=3):m_ (ai.load rec) f=BL rec/\yh (ai.load rec) f=zS (jg f rec).1:=by
 obtain⟨q1,q2,q3⟩:=OE rec f
 have h0:¬dP rec 0<0:=by rw[uG h1 h2 (by omega) (by omega)];omega
 unfold ai.load;rw[if_neg h0,qM,tK,q3,q2,q1];simp[m_,yh]
def Sz(f:Fl):Prop:=f.length=128/\∀ x∈f,x.size=256
theorem Sz.sec{f:Fl}(h:Sz f){s:Int}(h1:0<=s)(h2:s<128):(sec f s).length=256:=by
 obtain⟨k,rfl⟩:∃ k:Nat,s=(k:Int):=⟨s.toNat,by omega⟩
 have hk:k<f.length:=by rw[h.1];omega
 unfold Go.Proofs.YtndpjopifkbgiaaGreatDoor.sec;rw[if_pos (by omega),Int.toNat_natCast,zG,zH hk,Option.getD_some,Array.length_toList];exact h.2 _ (List.getElem_mem hk)
theorem aPd{cut:Int}{b old:List UInt8}(hb:b.length=256)(ho:old.length=256):(zo cut b old).length=256:=by
 unfold zo
 split
 ·exact hb
 ·rw[List.length_append,List.length_take,List.length_drop];omega
theorem aNm{f:Fl}(h:Sz f)(s:Int)(b:ByteArray)(cut:Int):Sz (iT f s b cut):=by
 unfold iT
 split
 ·rename_i q
  refine⟨by rw[List.length_set];exact h.1,fun x hx=>?_⟩
  rcases List.mem_or_eq_of_mem_set hx with hx|rfl
  ·exact h.2 x hx
  ·rw[bQ];exact aPd (by rw[Array.length_toList];exact q.2.2) (h.sec q.1 (by have:=h.1;omega))
 ·exact h
theorem uQ{f:Fl}(h:Sz f)(cut:Int)(a:Acc):Sz (iW cut a f):=by
 unfold iW
 split
 ·exact h
 ·exact aNm h _ _ _
theorem aTu:∀ {L:List Acc} {f:Fl},Sz f->Sz (uy L f)
 |[],_,h=>h
 |a::L,_,h=>aTu (L:=L) (uQ h (-1) a)
theorem pX{f:Fl}(h:Sz f){s:Int}(h1:0<=s)(h2:s<128){b:List UInt8}(hb:b.length=256)(cut t:Int):sec (iT f s (strOf b) cut) t=if t=s then zo cut b (sec f s) else sec f t:=by
 have hl:=h.1;unfold iT;rw[if_pos ⟨h1,by omega,by rw[bQ];exact hb⟩,dA]
 by_cases ht:t=s
 ·subst ht;rw[if_pos rfl]
  have e:∀ x:ByteArray,sec (f.set t.toNat x) t=x.data.toList:=fun x=>by
   unfold sec;rw[if_pos (by rw[List.length_set];omega),zG,List.getElem?_set_self (by omega),Option.getD_some]
  rw[e,dA]
 ·rw[if_neg ht];unfold sec;rw[List.length_set]
  split
  ·rw[zG,List.getElem?_set_ne (by omega),<-zG]
  ·rfl
theorem eQ(b:List UInt8)(k:Nat):(jm b k).length=256:=by unfold jm;rw[List.length_append,List.length_replicate,List.length_take];omega
theorem aPl{b:List UInt8}{k j:Nat}(hj:j<256)(h:256*k+j<b.length):(jm b k)[j]?=b[256*k+j]?:=by
 unfold jm;rw[List.getElem?_append_left (by rw[List.length_take,List.length_drop];omega),List.getElem?_take,if_pos hj,List.getElem?_drop]
theorem lI:iQ.length=256:=List.length_replicate
theorem aHx{j:Nat}(hj:j<256):iQ[j]?=some 0:=by unfold iQ;rw[List.getElem?_replicate,if_pos hj]
theorem aSl{f:Fl}(h:Sz f){s:Int}(h1:0<=s)(h2:s<128){b:List UInt8}(hb:b.length=256)(t:Int):sec (iW (-1) ⟨4,0,s,strOf b⟩ f) t=if t=s then b else sec f t:=by
 have:iW (-1) ⟨4,0,s,strOf b⟩ f=iT f s (strOf b) (-1):=rfl;rw[this,pX h h1 h2 hb];have e:zo (-1) b (sec f s)=b:=if_pos (.inl (by decide));rw[e]
theorem aCw{f g:Fl}{s:Int}:∀ n,n<=8->(∀ t,s+((8-n:Nat):Int)<=t->t<s+8->sec f t=sec g t)->Fq f s n=Fq g s n
 |0,_,_=>rfl
 |n+1,hn,h=>by
  rw[Fq,Fq,h _ (by omega) (by omega),aCw n (by omega) (fun t h3 h4=>h t (by omega) h4)]
theorem aEz{f g:Fl}{s:Int}(h:∀ t,s<=t->t<s+8->sec f t=sec g t):xA f s=xA g s:=aCw 8 (Nat.le_refl _) (fun t h1 h2=>h t (by omega) h2)
theorem aSx{f:Fl}(h:Sz f){s:Int}(h1:0<=s)(h2:s+8<=128){j:Nat}(hj:j<256):∀ (n i:Nat),n<=8->i<n->(Fq f s n)[256*i+j]?=(sec f (s+((8-n+i:Nat):Int)))[j]?
 |0,_,_,hi=>by omega
 |n+1,0,hn,_=>by
  rw[Fq,List.getElem?_append_left (by rw[h.sec (by omega) (by omega)];omega)];rw[show 8-(n+1)+0=7-n from by omega];congr 1
  omega
 |n+1,i+1,hn,hi=>by
  have hl:=h.sec (s:=s+((7-n:Nat):Int)) (by omega) (by omega);rw[Fq,List.getElem?_append_right (by rw[hl];omega),hl,show 256*(i+1)+j-256=256*i+j from by omega,aSx h h1 h2 hj n i (by omega) (by omega)];rw[show 8-(n+1)+(i+1)=8-n+i from by omega]
theorem aUo{f:Fl}(h:Sz f){s:Int}(h1:0<=s)(h2:s+8<=128){i j:Nat}(hi:i<8)(hj:j<256):(xA f s)[256*i+j]?=(sec f (s+(i:Int)))[j]?:=by
 have:=aSx h h1 h2 hj 8 i (Nat.le_refl _) hi;rw[show 8-8+i=i from by omega] at this;exact this
theorem aSa{s:Int}{b:List UInt8}:∀ (n i:Nat) {f:Fl},Sz f->0<=s->s+((i+n:Nat):Int)<=128->∀ t:Int,sec (uy (AX s b n i) f) t=if s+(i:Int)<=t/\t<s+((i+n:Nat):Int) then jm b (t-s).toNat else sec f t
 |0,i,f,_,_,_,t=>by rw[if_neg (by omega)];rfl
 | n+1,i,f,h,h1,h2,t=>by
  have h3:=aSa (b:=b) n (i+1) (uQ h (-1) ⟨4,0,s+(i:Int),strOf (jm b i)⟩) h1 (by omega) t;rw[AX];show sec (uy (AX s b n (i+1)) (iW (-1) ⟨4,0,s+(i:Int),strOf (jm b i)⟩ f)) t=_;rw[h3,aSl h (by omega) (by omega) (eQ _ _)]
  by_cases ht:t=s+(i:Int)
  ·subst ht;rw[if_neg (by omega),if_pos rfl,if_pos (by omega),show (s+(i:Int)-s).toNat=i from by omega]
  ·rw[if_neg ht]
   by_cases h4:s+(i:Int)<=t/\t<s+((i+(n+1):Nat):Int)
   ·rw[if_pos h4,if_pos (by omega)]
   ·rw[if_neg h4,if_neg (by omega)]
theorem yT{s:Int}{b:List UInt8}{f:Fl}(h:Sz f)(h1:0<=s)(h2:s+(nsec b:Int)<=128)(hb:0<b.length){m:Nat}(hm:1<=m)(hm2:m<=nsec b)(t:Int) :
  sec (uy ((dU s b).take m) f) t=if t=s then iQ else if s<t/\t<s+(m:Int) then jm b (t-s).toNat else sec f t:=by
 have hn:1<=nsec b:=by unfold nsec;omega
 obtain⟨m,rfl⟩:∃ k,m=k+1:=⟨m-1,by omega⟩
 have e1:(AX s b (nsec b-1) 1++[(⟨4,0,s,strOf (jm b 0)⟩:Acc)]).take m=AX s b m 1:=by
  apply List.ext_getElem?;intro j;rw[List.getElem?_take]
  by_cases hj:j<m
  ·rw[if_pos hj,List.getElem?_append_left (by rw[kJ];omega),aHy _ _ _ _ _ (by omega),aHy _ _ _ _ _ hj]
  ·rw[if_neg hj,List.getElem?_eq_none (by rw[kJ];omega)]
 rw[dU,List.take_succ_cons,e1];show sec (uy (AX s b m 1) (iW (-1) ⟨4,0,s,strOf iQ⟩ f)) t=_;rw[aSa m 1 (uQ h _ _) h1 (by omega),aSl h h1 (by omega) lI]
 by_cases ht:t=s
 ·subst ht;rw[if_neg (by omega),if_pos rfl,if_pos rfl]
 ·rw[if_neg ht,if_neg ht]
  by_cases h4:s<t/\t<s+((m+1:Nat):Int)
  ·rw[if_pos h4,if_pos (by omega)]
  ·rw[if_neg h4,if_neg (by omega)]
theorem jF(s:Int)(b:List UInt8)(hb:0<b.length):(dU s b).length=nsec b+1:=by
 have hn:1<=nsec b:=by unfold nsec;omega
 rw[dU,List.length_cons,List.length_append,kJ,List.length_singleton];omega
theorem qP(s:Int)(b:List UInt8)(hb:0<b.length):(dU s b)[nsec b]?=some ⟨4,0,s,strOf (jm b 0)⟩:=by
 have hn:1<=nsec b:=by unfold nsec;omega
 obtain⟨k,hk⟩:∃ k,nsec b=k+1:=⟨nsec b-1,by omega⟩;rw[dU,hk,List.getElem?_cons_succ,List.getElem?_append_right (by rw[kJ];omega),kJ];simp
theorem aKw{s:Int}{b:List UInt8}{m:Nat}(hm:1<=m)(hm2:m<nsec b):(dU s b)[m]?=some ⟨4,0,s+(m:Int),strOf (jm b m)⟩:=by
 obtain⟨k,rfl⟩:∃ k,m=k+1:=⟨m-1,by omega⟩;rw[dU,List.getElem?_cons_succ,List.getElem?_append_left (by rw[kJ];omega),aHy _ _ _ _ _ (by omega),show 1+k=k+1 from by omega]
end
section
structure S_ where
 ig:Int
 content:ByteArray
 cut:Int
 bytes:Int
def EN:Dt:=⟨aS,0,0⟩
def CX(f:Fl)(u:S_):Fl×Dt×Bool×List Acc:=match bDm u.cut u.bytes (ai.save u.ig u.content) f [] with
 |(f',some o,l)=>(f',o,true,l)
 |(f',none,l)=>(f',EN,false,l)
theorem aNz(f:Fl)(rec:Int):Da f rec ((jg f rec).2:Int)=(jg f rec).1/\(Da f rec (1-((jg f rec).2:Int))).1<=(jg f rec).1.1:=by
 have r0:=(qJ rec (xA f (dP rec 0))).1;have r1:=(qJ rec (xA f (dP rec 1))).1;change 0<=(Da f rec 0).1 at r0;change 0<=(Da f rec 1).1 at r1;unfold jg vz
 by_cases h:(Da f rec 0).1=0\/(Da f rec 0).1<(Da f rec 1).1
 ·rw[if_pos h];exact⟨rfl,by show (Da f rec 0).1<=(Da f rec 1).1;omega⟩
 ·rw[if_neg h];exact⟨rfl,by show (Da f rec 1).1<=(Da f rec 0).1;omega⟩
theorem aEm(f:Fl)(rec:Int):0<=(jg f rec).1.1/\(jg f rec).1.1<=1099511627776:=by
 have:=qJ rec (xA f (dP rec ((jg f rec).2:Int)));change 0<=(Da f rec _).1/\(Da f rec _).1<=_ at this;rwa [(aNz f rec).1] at this
theorem RH{f g:Fl}{rec:Int}{x:List UInt8}(h:Da g rec ((jg f rec).2:Int)=(jg f rec).1)(hb:Da g rec (1-((jg f rec).2:Int))=((jg f rec).1.1+1,x)):(jg g rec).1=((jg f rec).1.1+1,x):=by
 have hr:=aEm f rec;rcases aUg (Da f rec 0) (Da f rec 1) with hk|hk
 ·have hk':(jg f rec).2=0:=hk;rw[hk'] at h hb;have e0:Da g rec 0=(jg f rec).1:=h;have e1:Da g rec 1=_:=hb
  conv=>lhs;unfold jg
  rw[e0,e1];unfold vz;rw[if_pos (.inr (by dsimp only;omega))]
 ·have hk':(jg f rec).2=1:=hk;rw[hk'] at h hb;have e1:Da g rec 1=(jg f rec).1:=h;have e0:Da g rec 0=_:=hb
  conv=>lhs;unfold jg
  rw[e0,e1];unfold vz;rw[if_neg (by dsimp only;omega)]
def gu(f:Fl)(u:S_):List UInt8:=encS u.ig ((jg f u.ig).1.1+1) u.content.data.toList
def iy(f:Fl)(u:S_):Int:=dP u.ig (1-((jg f u.ig).2:Int))
structure Fine(f:Fl)(u:S_):Prop where
 sz:Sz f
 r0:0<=u.ig
 r3:u.ig<=3
 c:u.content.size<=2000
 s:(jg f u.ig).1.1+1<=1099511627776
section
variable {f:Fl} {u:S_}
theorem Fine.len(h:Fine f u):0<(gu f u).length/\(gu f u).length<=2048:=by
 have h1:=aX ((jg f u.ig).1.1+1);have h2:=aX (u.content.data.toList.length:Int);have h3:u.content.data.toList.length=u.content.size:=Array.length_toList;have h4:=h.c;unfold gu;rw[lW,oD];omega
theorem Fine.first(h:Fine f u):0<=iy f u/\iy f u+8<=64/\iy f u=16*u.ig+8*(1-((jg f u.ig).2:Int)):=by
 have h1:=h.r0;have h2:=h.r3;have hk:(jg f u.ig).2=0\/(jg f u.ig).2=1:=aUg _ _;unfold iy;rw[uG h1 h2 (by omega) (by omega)];omega
theorem Fine.nsec(h:Fine f u):1<=nsec (gu f u)/\nsec (gu f u)<=8:=by
 have:=h.len;unfold Go.Proofs.YtndpjopifkbgiaaGreatDoor.nsec;omega
theorem aDf(h:Fine f u)(hc:u.cut<0\/17+(nsec (gu f u):Int)<=u.cut):CX f u=(uy (dU (iy f u) (gu f u)) f,⟨u.content,(jg f u.ig).1.1+1,0⟩,true,BL u.ig++dU (iy f u) (gu f u)):=by
 obtain⟨q1,q2⟩:=aSm (c:=u.content) h.r0 h.r3 h.c h.s;have q3:=(OE u.ig f).2.2;rw[(OE u.ig f).1] at q3;unfold CX
 rw[aJy,dif_neg (by
  rw[q1,List.length_append,lQ];change ¬(_/\_<16+(dU (iy f u) (gu f u)).length);rw[jF _ _ h.len.1,List.length_nil]
  omega)]
 dsimp only;rw[q1,q2,aEg,q3];rfl
theorem Ii(h:Fine f u)(h0:0<=u.cut)(h1:u.cut<16):CX f u=(f,EN,false,(BL u.ig).take (u.cut.toNat+1)):=by
 obtain⟨q1,q2⟩:=aSm (c:=u.content) h.r0 h.r3 h.c h.s
 have hrd:∀ (s:Int) (n:Nat) (a:Acc),a∈nT s n->a.kind=3:=by
  intro s n
  induction n with
  |zero=>intro a ha;cases ha
  |succ n ih=>
   intro a ha;rcases List.mem_cons.1 ha with rfl|ha
   ·rfl
   ·exact ih a ha
 have hall:∀ a∈BL u.ig,a.kind=3:=fun a ha=>by
  rcases List.mem_append.1 ha with ha|ha
  ·exact hrd _ _ a ha
  ·exact hrd _ _ a ha
 have hid:∀ (L:List Acc) (g:Fl),(∀ a∈L,a.kind=3)->uy L g=g:=by
  intro L
  induction L with
  |nil=>intro g _;rfl
  |cons a L ih=>
   intro g hL;show uy L (iW (-1) a g)=g;rw[show iW (-1) a g=g from if_pos (hL a List.mem_cons_self)];exact ih g fun b hb=>hL b (List.mem_cons_of_mem _ hb)
 have hn:(u.cut-(([]:List Acc).length:Int)).toNat=u.cut.toNat:=by simp
 have hlt:u.cut.toNat<(BL u.ig).length:=by rw[lQ];omega
 unfold CX;rw[aJy,dif_pos ⟨by simpa using h0,by rw[q1,hn,List.length_append];omega⟩];dsimp only
 have ht:(m_ (ai.save u.ig u.content) f).take u.cut.toNat=(BL u.ig).take u.cut.toNat:=by rw[q1,List.take_append_of_le_length (by omega)]
 have ht1:(m_ (ai.save u.ig u.content) f).take (u.cut.toNat+1)=(BL u.ig).take (u.cut.toNat+1):=by rw[q1,List.take_append_of_le_length (by omega)]
 have hg:(m_ (ai.save u.ig u.content) f)[(u.cut-(([]:List Acc).length:Int)).toNat]?=(BL u.ig)[u.cut.toNat]?:=by rw[hn,q1,List.getElem?_append_left hlt]
 rw[List.nil_append];rw[zH (by rw[hn,q1,List.length_append];omega),zH hlt] at hg;rw[Option.some.inj hg];simp only[hn];rw[ht,ht1,hid _ f (fun a ha=>hall a (List.mem_of_mem_take ha))];rw[show iW (max 0 u.bytes) (BL u.ig)[u.cut.toNat] f=f from if_pos (hall _ (List.getElem_mem hlt))]
theorem bAm(h:Fine f u){j:Nat}(hc:u.cut=16+(j:Int))(hj:j<=nsec (gu f u))(a:Acc)(ha:(dU (iy f u) (gu f u))[j]?=some a) :
  CX f u=(iW (max 0 u.bytes) a (uy ((dU (iy f u) (gu f u)).take j) f),EN,false,BL u.ig++(dU (iy f u) (gu f u)).take (j+1)):=by
 obtain⟨q1,q2⟩:=aSm (c:=u.content) h.r0 h.r3 h.c h.s;change m_ (ai.save u.ig u.content) f=BL u.ig++dU (iy f u) (gu f u) at q1;have q3:=(OE u.ig f).2.2;rw[(OE u.ig f).1] at q3
 have hn:(u.cut-(([]:List Acc).length:Int)).toNat=16+j:=by simp;omega
 have hlen:(m_ (ai.save u.ig u.content) f).length=16+(nsec (gu f u)+1):=by rw[q1,List.length_append,lQ,jF _ _ h.len.1]
 unfold CX;rw[aJy,dif_pos ⟨by simp;omega,by rw[hn,hlen];omega⟩];dsimp only
 have hg:(m_ (ai.save u.ig u.content) f)[(u.cut-(([]:List Acc).length:Int)).toNat]?=some a:=by
  rw[hn,q1,List.getElem?_append_right (by rw[lQ];omega),lQ,show 16+j-16=j from by omega];exact ha
 rw[zH (by rw[hn,hlen];omega)] at hg;rw[Option.some.inj hg,List.nil_append];simp only[hn]
 have ht:∀ m,(m_ (ai.save u.ig u.content) f).take (16+m)=BL u.ig++(dU (iy f u) (gu f u)).take m:=fun m=>by
  rw[q1,List.take_append,lQ,show 16+m-16=m from by omega,List.take_of_length_le (by rw[lQ];omega)]
 rw[ht j,show 16+j+1=16+(j+1) from by omega,ht (j+1),aEg,q3]
theorem aKu(h:Fine f u){j:Nat}(hj:j<=nsec (gu f u))(a:Acc)(ha:(dU (iy f u) (gu f u))[j]?=some a)(cut:Int):Sz (iW cut a (uy ((dU (iy f u) (gu f u)).take j) f)) /\
  ∀ t,(t<iy f u\/iy f u+8<=t)->sec (iW cut a (uy ((dU (iy f u) (gu f u)).take j) f)) t=sec f t:=by
 have hl:=h.len;have hf:=h.first;have hs:=h.nsec;have hz:Sz (uy ((dU (iy f u) (gu f u)).take j) f):=aTu h.sz
 refine⟨uQ hz _ _,fun t ht=>?_⟩
 have hb:∃ (m:Nat) (b:List UInt8),m<8/\b.length=256/\a=⟨4,0,iy f u+(m:Int),strOf b⟩:=by
  rcases Nat.eq_zero_or_pos j with rfl|hp
  ·rw[dU,List.getElem?_cons_zero] at ha;cases ha
   exact⟨0,iQ,by omega,lI,by simp⟩
  ·rcases Nat.lt_or_eq_of_le hj with hlt|rfl
   ·rw[aKw hp hlt] at ha;cases ha
    exact⟨j,_,by omega,eQ _ _,rfl⟩
   ·rw[qP _ _ hl.1] at ha;cases ha
    exact⟨0,jm (gu f u) 0,by omega,eQ _ _,by simp⟩
 obtain⟨m,b,hm,hbl,rfl⟩:=hb;have e:iW cut ⟨4,0,iy f u+(m:Int),strOf b⟩ (uy ((dU (iy f u) (gu f u)).take j) f)=iT (uy ((dU (iy f u) (gu f u)).take j) f) (iy f u+(m:Int)) (strOf b) cut:=rfl;rw[e,pX hz (by omega) (by omega) hbl,if_neg (by omega)];rcases Nat.eq_zero_or_pos j with rfl|hp
 ·rfl
 ·rw[yT h.sz hf.1 (by omega) hl.1 hp hj,if_neg (by omega),if_neg (by omega)]
theorem GI(h:Fine f u):uy (dU (iy f u) (gu f u)) f=iW (-1) ⟨4,0,iy f u,strOf (jm (gu f u) 0)⟩ (uy ((dU (iy f u) (gu f u)).take (nsec (gu f u))) f):=by
 have hl:=h.len
 have e:dU (iy f u) (gu f u)=(dU (iy f u) (gu f u)).take (nsec (gu f u))++[⟨4,0,iy f u,strOf (jm (gu f u) 0)⟩]:=by
  apply List.ext_getElem?;intro i;rcases Nat.lt_trichotomy i (nsec (gu f u)) with hi|rfl|hi
  ·rw[List.getElem?_append_left (by rw[List.length_take,jF _ _ hl.1];omega),List.getElem?_take,if_pos hi]
  ·rw[qP _ _ hl.1,List.getElem?_append_right (by rw[List.length_take];omega),List.length_take,jF _ _ hl.1,Nat.min_eq_left (by omega),Nat.sub_self];rfl
  ·rw[List.getElem?_eq_none (by rw[jF _ _ hl.1];omega),List.getElem?_eq_none (by rw[List.length_append,List.length_take,jF _ _ hl.1,List.length_singleton];omega)]
 conv=>lhs;rw[e,aEg]
 rfl
theorem last_at(h:Fine f u)(cut:Int)(i:Nat):let W:=xA (iW cut ⟨4,0,iy f u,strOf (jm (gu f u) 0)⟩ (uy ((dU (iy f u) (gu f u)).take (nsec (gu f u))) f)) (iy f u)
  (i<(gu f u).length->(cut<0\/256<=cut\/(i:Int)<cut\/256<=i)->W[i]?=(gu f u)[i]?)/\(0<=cut->cut<256->cut<=i->i<256->W[i]?=some 0):=by
 intro W;have hl:=h.len;have hf:=h.first;have hs:=h.nsec;have hz:Sz (uy ((dU (iy f u) (gu f u)).take (nsec (gu f u))) f):=aTu h.sz;have hz2:=uQ hz cut ⟨4,0,iy f u,strOf (jm (gu f u) 0)⟩
 have Kt:∀ t,sec (iW cut ⟨4,0,iy f u,strOf (jm (gu f u) 0)⟩ (uy ((dU (iy f u) (gu f u)).take (nsec (gu f u))) f)) t=if t=iy f u then zo cut (jm (gu f u) 0) iQ else if iy f u<t/\t<iy f u+(nsec (gu f u):Int) then jm (gu f u) (t-iy f u).toNat else sec f t:=fun t=>by
  have e:iW cut ⟨4,0,iy f u,strOf (jm (gu f u) 0)⟩ (uy ((dU (iy f u) (gu f u)).take (nsec (gu f u))) f)=iT (uy ((dU (iy f u) (gu f u)).take (nsec (gu f u))) f) (iy f u) (strOf (jm (gu f u) 0)) cut:=rfl;rw[e,pX hz hf.1 (by omega) (eQ _ _)];have w:=fun t=>yT h.sz hf.1 (b:=gu f u) (by omega) hl.1 hs.1 (Nat.le_refl _) t;rw[w t,w (iy f u),if_pos rfl]
  split
  ·rfl
  ·rfl
 have hat:i<2048->W[i]?=(sec (iW cut ⟨4,0,iy f u,strOf (jm (gu f u) 0)⟩ (uy ((dU (iy f u) (gu f u)).take (nsec (gu f u))) f)) (iy f u+((i / 256:Nat):Int)))[i % 256]?:=fun hi=>by
  have:=aUo hz2 hf.1 (by omega) (i:=i / 256) (j:=i % 256) (by omega) (by omega);rw[show 256*(i / 256)+i % 256=i from by omega] at this;exact this
 refine⟨fun hi hcut=>?_,fun c0 c1 c2 c3=>?_⟩
 ·rw[hat (by omega),Kt]
  by_cases h0:i<256
  ·rw[if_pos (by omega),show i % 256=i from by omega];unfold zo
   by_cases hc:cut<0\/((jm (gu f u) 0).length:Int)<=cut
   ·rw[if_pos hc,aPl h0 (by omega),Nat.mul_zero,Nat.zero_add]
   ·rw[if_neg hc];rw[eQ] at hc;rw[List.getElem?_append_left (by rw[List.length_take,eQ];omega),List.getElem?_take,if_pos (by omega),aPl h0 (by omega),Nat.mul_zero,Nat.zero_add]
  ·rw[if_neg (by omega),if_pos (by unfold nsec;omega),show (iy f u+((i / 256:Nat):Int)-iy f u).toNat=i / 256 from by omega,aPl (by omega) (by omega),show 256*(i / 256)+i % 256=i from by omega]
 ·rw[hat (by omega),Kt,if_pos (by omega),show i % 256=i from by omega];unfold zo;rw[if_neg (by rw[eQ];omega),List.getElem?_append_right (by rw[List.length_take,eQ];omega),List.length_take,eQ,List.getElem?_drop,aHx (by omega)]
inductive Tv(f:Fl)(u:S_)(x:Int×List UInt8):Prop
 |old (h:x=Da f u.ig (1-((jg f u.ig).2:Int)))
 |bad (h:x=(0,[]))
 |new (h:x=((jg f u.ig).1.1+1,u.content.data.toList))
 |odd (s:List UInt8) (h:x=((jg f u.ig).1.1+1,s)) (hl:s.length<=2000) (hc:∀ i,i<(encS u.ig ((jg f u.ig).1.1+1) s).length->(encS u.ig ((jg f u.ig).1.1+1) s)[i]?=some 0\/(i<(gu f u).length/\(encS u.ig ((jg f u.ig).1.1+1) s)[i]?=(gu f u)[i]?))
theorem aLd(h:Fine f u){cut:Int}(hc:cut<0\/256<=cut):oq u.ig (xA (iW cut ⟨4,0,iy f u,strOf (jm (gu f u) 0)⟩ (uy ((dU (iy f u) (gu f u)).take (nsec (gu f u))) f)) (iy f u))=((jg f u.ig).1.1+1,u.content.data.toList):=by
 have hr:=aEm f u.ig;have hb:=last_at h cut;obtain⟨W,hW⟩:∃ W,xA (iW cut ⟨4,0,iy f u,strOf (jm (gu f u) 0)⟩ (uy ((dU (iy f u) (gu f u)).take (nsec (gu f u))) f)) (iy f u)=W:=⟨_,rfl⟩;rw[hW] at hb ⊢
 have e:W=gu f u++W.drop (gu f u).length:=by
  have:W.take (gu f u).length=gu f u:=by
   apply List.ext_getElem?;intro i;rw[List.getElem?_take]
   split
   ·rename_i hi;exact (hb i).1 hi (by omega)
   ·rw[List.getElem?_eq_none (by omega)]
  conv=>lhs;rw[<-List.take_append_drop (gu f u).length W,this]
 rw[e];exact aUe _ _ _ _ (by omega) h.s (by rw[Array.length_toList];exact h.c)
theorem aHw{g:Fl}(hz:Sz g){s:Int}(h1:0<=s)(h2:s+8<=128)(h:(sec g s)[0]?=some 0)(rec:Int):oq rec (xA g s)=(0,[]):=by
 have h0:=aUo hz h1 h2 (i:=0) (j:=0) (by omega) (by omega);rw[show s+((0:Nat):Int)=s from by omega,h] at h0
 cases hw:xA g s with
 |nil=>rw[hw] at h0;cases h0
 |cons b l=>
  rw[hw] at h0;cases h0;exact bDx _ _
theorem aUx(h:Fine f u){j:Nat}(hj:j<=nsec (gu f u))(a:Acc)(ha:(dU (iy f u) (gu f u))[j]?=some a){cut:Int}(h0:0<=cut):Tv f u (Da (iW cut a (uy ((dU (iy f u) (gu f u)).take j) f)) u.ig (1-((jg f u.ig).2:Int))):=by
 have hl:=h.len;have hf:=h.first;have hs:=h.nsec;have hr:=aEm f u.ig;have hz:Sz (uy ((dU (iy f u) (gu f u)).take j) f):=aTu h.sz;have hD:∀ g,Da g u.ig (1-((jg f u.ig).2:Int))=oq u.ig (xA g (iy f u)):=fun g=>rfl;rw[hD];rcases Nat.eq_zero_or_pos j with rfl|hp
 ·rw[dU,List.getElem?_cons_zero] at ha;cases ha;have e:iW cut ⟨4,0,iy f u,strOf iQ⟩ (uy ((dU (iy f u) (gu f u)).take 0) f)=iT f (iy f u) (strOf iQ) cut:=rfl;have Kt:=pX h.sz hf.1 (by omega) (b:=iQ) lI cut;rw[e]
  by_cases hc:cut=0
  ·subst hc;refine .old ?_;rw[hD];congr 1;refine aEz fun t h3 h4=>?_;rw[Kt]
   split
   ·rename_i ht;subst ht;unfold zo;rw[if_neg (by rw[lI];decide)];simp
   ·rfl
  ·refine .bad (aHw (aNm h.sz _ _ _) hf.1 (by omega) ?_ _);rw[Kt,if_pos rfl];unfold zo
   split
   ·exact aHx (by omega)
   ·rename_i hc2;have:iQ.length=256:=lI;rw[List.getElem?_append_left (by rw[List.length_take];omega),List.getElem?_take,if_pos (by omega)];exact aHx (by omega)
 ·rcases Nat.lt_or_eq_of_le hj with hlt|rfl
  ·rw[aKw hp hlt] at ha;cases ha;refine .bad (aHw (uQ hz _ _) hf.1 (by omega) ?_ _);have e:iW cut ⟨4,0,iy f u+(j:Int),strOf (jm (gu f u) j)⟩ (uy ((dU (iy f u) (gu f u)).take j) f)=iT (uy ((dU (iy f u) (gu f u)).take j) f) (iy f u+(j:Int)) (strOf (jm (gu f u) j)) cut:=rfl;rw[e,pX hz (by omega) (by omega) (eQ _ _),if_neg (by omega),yT h.sz hf.1 (by omega) hl.1 hp hj,if_pos rfl];exact aHx (by omega)
  ·rw [qP _ _ hl.1] at ha;cases ha
   by_cases hc:256<=cut
   ·exact .new (aLd h (.inr hc))
   ·by_cases hcb:cut.toNat<=(gu f u).length
    ·have hb:=last_at h cut;obtain⟨W,hW⟩:∃ W,xA (iW cut ⟨4,0,iy f u,strOf (jm (gu f u) 0)⟩ (uy ((dU (iy f u) (gu f u)).take (nsec (gu f u))) f)) (iy f u)=W:=⟨_,rfl⟩;rw[hW] at hb ⊢;rcases bDy (rec:=u.ig) (seq:=(jg f u.ig).1.1+1) (c:=u.content.data.toList) (W:=W) (cut:=cut.toNat) (by omega) h.s (by rw[Array.length_toList];exact h.c) hcb (fun i hi=>(hb i).1 (by omega) (by omega)) (fun i hi hi2=>(hb i).2 h0 (by omega) (by omega) hi2) with hd|⟨s,hd,hsl,hw⟩
     ·exact .bad hd
     ·have hle:(encS u.ig ((jg f u.ig).1.1+1) s).length<=(gu f u).length:=bDp _ _ hsl;refine .odd s hd (by have:=h.c;rw[Array.length_toList] at hsl;change s.length<=u.content.size at hsl;omega) fun i hi=>?_
      have hwi:(encS u.ig ((jg f u.ig).1.1+1) s)[i]?=W[i]?:=by rw[<-hw,List.getElem?_take,if_pos hi]
      rw[hwi]
      by_cases hi2:(i:Int)<cut\/256<=i
      ·exact .inr ⟨by omega,(hb i).1 (by omega) (by omega)⟩
      ·exact .inl ((hb i).2 h0 (by omega) (by omega) (by omega))
    ·refine .new ?_;have hb:=last_at h cut;obtain⟨W,hW⟩:∃ W,xA (iW cut ⟨4,0,iy f u,strOf (jm (gu f u) 0)⟩ (uy ((dU (iy f u) (gu f u)).take (nsec (gu f u))) f)) (iy f u)=W:=⟨_,rfl⟩;rw[hW] at hb ⊢
     have e:W=gu f u++W.drop (gu f u).length:=by
      have:W.take (gu f u).length=gu f u:=by
       apply List.ext_getElem?;intro i;rw[List.getElem?_take]
       split
       ·rename_i hi;exact (hb i).1 hi (by omega)
       ·rw[List.getElem?_eq_none (by omega)]
      conv=>lhs;rw[<-List.take_append_drop (gu f u).length W,this]
     rw[e];exact aUe _ _ _ _ (by omega) h.s (by rw[Array.length_toList];exact h.c)
end
end
namespace Pv
def SK:Spec:=bD true fun xs=>match xs with
 |[.w (.one (.lit (.string s))),.w (.one (.lit (.int .i64 c)))]=>some (0<=c/\c<=1000000/\s.size<=1,pq (strOf (Lib.repeatL s.data.toList c.toNat)))
 |_=>none
theorem UT{I:World->Prop}:aj Tryz.prog I 141 SK:=by
 refine aZ (aF Tryz.func141 (by kernel_rfl) rfl) (fun xs p r hg hp w ok0 vs hI hv=>?_)
 split at hg
 ·rename_i s c;cases hg
  match vs,hv with
  |[v1,v2],⟨k1,k2,_⟩=>
   obtain rfl:=k1.dn
   obtain rfl:=k2.dn
   obtain⟨h1,h2,h3⟩:=hp;obtain⟨n,rfl⟩:∃ n:Nat,c=(n:Int):=⟨c.toNat,by omega⟩;refine (aCz s n w (by omega) (by have:=Nat.mul_le_mul h3 (show n<=1000000 by omega);omega)).mono ?_;rintro e w' ⟨rfl,hB⟩
   exact⟨_,rfl,Ext.of_below hB,.w (.one (.lit rfl))⟩
 ·cases hg
def SL:Spec:=bD true fun xs=>match xs with
 |[.w (.one (.lit (.string s))),.w (.one (.lit (.string p)))]=>some (True,rq (Lib.hasPrefix s.data.toList p.data.toList))
 |_=>none
theorem UZ{I:World->Prop}:aj Tryz.prog I 170 SL:=by
 refine aZ (aF Tryz.func170 (by kernel_rfl) rfl) (fun xs p r hg hp w ok0 vs hI hv=>?_)
 split at hg
 ·rename_i s p;cases hg
  match vs,hv with
  |[v1,v2],⟨k1,k2,_⟩=>
   obtain rfl:=k1.dn
   obtain rfl:=k2.dn
   refine (aJp s p w).mono ?_;rintro e w' ⟨rfl,rfl⟩
   exact⟨_,rfl,Ext.refl _,.w (.one (.lit rfl))⟩
 ·cases hg
theorem vV(s p:List UInt8):Lib.hasPrefix s p=decide (s.take p.length=p):=by
 unfold Lib.hasPrefix
 by_cases h:s.take p.length=p
 ·rw[decide_eq_true h,List.isPrefixOf_iff_prefix];rw[<-h];exact List.take_prefix _ _
 ·rw[decide_eq_false h]
  cases hb:p.isPrefixOf s with
  |false=>rfl
  |true=>exact absurd (List.prefix_iff_eq_take.1 (List.isPrefixOf_iff_prefix.1 hb)).symm h
theorem aHd(rec k:Int):-1<=dP rec k/\dP rec k<=56:=by unfold dP;split<;>omega
theorem bDg{I:World->Prop}(hI0:∀ w w',Ext w w'->I w->I w')(rec k:Int):gU Tryz.prog I 134 true [h_ rec,h_ k] (h_ (dP rec k)):=by
 have M:l_ Tryz.prog I (find []):=⟨bV (fun p hp=>by cases hp),fC⟩;refine bJ Tryz.func134 rfl rfl hI0 (fun A hS hn hI=>?_);refine aB M hI hn (by rfl) (by kernel_rfl) ?_ ?_
 ·simp
 refine aN ?_;refine aB M hI hn (by rfl) (by kernel_rfl) ?_ ?_
 ·simp
 refine aH (by rfl) (fun hc=>?_) (fun hc=>?_)
 ·refine aB M hI hn (by rfl) (by kernel_rfl) ?_ ?_
  ·simp
  refine aO (fun a w hg=>⟨.inr rfl,_,?_,hg⟩);refine aC (by rfl) (by simp) (by rfl) (by rfl) ?_
  have h:rec<0\/3<rec\/k<0\/1<k:=by simp at hc;omega
  unfold dP;rw[if_pos h]
 ·refine aP ?_;change iw _ _ _ _ _;refine aB M hI hn (by rfl) (by kernel_rfl) ?_ ?_
  ·simp
  refine aO (fun a w hg=>⟨.inr rfl,_,?_,hg⟩);refine aC (by rfl) (by simp) (by rfl) (by rfl) ?_
  have h:¬(rec<0\/3<rec\/k<0\/1<k):=by simp at hc;omega
  refine congrArg h_ ?_;unfold dP;rw[if_neg h];simp only[IntKind.wrap_i64];omega
theorem aVq{I:World->Prop}(hI0:∀ w w',Ext w w'->I w->I w')(rec k:Int):gU Tryz.prog I 115 true [h_ rec,h_ k] (h_ (dP rec k)):=by
 have M:l_ Tryz.prog I (find []):=⟨bV (fun p hp=>by cases hp),fC⟩;refine bJ Tryz.func115 rfl rfl hI0 (fun A hS hn hI=>?_);refine aB M hI hn (by rfl) (by kernel_rfl) ?_ ?_
 ·simp
 refine aN ?_;refine aB M hI hn (by rfl) (by kernel_rfl) ?_ ?_
 ·simp
 refine aH (by rfl) (fun hc=>?_) (fun hc=>?_)
 ·refine aB M hI hn (by rfl) (by kernel_rfl) ?_ ?_
  ·simp
  refine aO (fun a w hg=>⟨.inr rfl,_,?_,hg⟩);refine aC (by rfl) (by simp) (by rfl) (by rfl) ?_
  have h:rec<0\/3<rec\/k<0\/1<k:=by simp at hc;omega
  unfold dP;rw[if_pos h]
 ·refine aP ?_;change iw _ _ _ _ _;refine aB M hI hn (by rfl) (by kernel_rfl) ?_ ?_
  ·simp
  refine aO (fun a w hg=>⟨.inr rfl,_,?_,hg⟩);refine aC (by rfl) (by simp) (by rfl) (by rfl) ?_
  have h:¬(rec<0\/3<rec\/k<0\/1<k):=by simp at hc;omega
  refine congrArg h_ ?_;unfold dP;rw[if_neg h];simp only[IntKind.wrap_i64];omega
theorem aKf(X Y:List UInt8):qh X.length (ou X) (ou Y)=ou (X++Y):=by
 funext i;unfold qh ou
 by_cases h:i<X.length
 ·rw[if_pos h,zG,zG,List.getElem?_append_left h]
 ·rw[if_neg h,zG,zG,List.getElem?_append_right (by omega)]
theorem aEo{n:Nat}{f g:Nat->List PC}(h1:∀ i,(f i).all (cZ false)=true)(h2:∀ i,(g i).all (cZ false)=true):∀ i,(qh n f g i).all (cZ false)=true:=fun i=>by
 unfold qh
 split
 ·exact h1 i
 ·exact h2 _
theorem aHj(rec seq:Int)(c:ByteArray)(h1:iq rec)(h2:iq seq)(hc:c.size<=3000):Wp Tryz.prog a_ 143 [h_ rec,h_ seq,pq c] 5 1 (encS rec seq c.data.toList).length (ou (encS rec seq c.data.toList)):=by
 have M:=aAU
 have hb1:Tryz.prog.types[5].bytes=1:=by kernel_rfl
 have hs1:Tryz.prog.types[5].size=1:=by kernel_rfl
 have hw1:=aX seq;have hw2:=aX rec;have hw3:=fJ c.data.toList;have hcl:c.data.toList.length=c.size:=Array.length_toList;refine aNn Tryz.func143 rfl rfl bP (fun A hS hn hI=>?_);refine aB M hI hn (by rfl) (by kernel_rfl) ?_ ?_
 ·simp
 refine aB M hI hn (by rfl) (by kernel_rfl) ?_ ?_
 ·simp
  refine⟨h2,by omega,?_⟩
  rw[hb1];omega
 refine aG (s':=⟨[(0,none,h_ rec),(7,none,dh (.ow 1001 0 1 0 (x_ seq c.data.toList).length))],[(1001,none,0,.arr 5 1 (x_ seq c.data.toList).length (ou (x_ seq c.data.toList)))]⟩) (fun a w hg=>(hg.reset (kT:=[0,7]) (kO:=[1001]) (by rfl) ?_).same ?_ ?_) ?_
 ·simp only[All,and_true,List.append_nil];exact fun i _=>aEo (fun _=>rfl) (fun _=>rfl) i
 ·refine .cons rfl (.cons ?_ .nil);rw[hs1,x_,List.length_append]
 ·refine .cons (.arr ?_ (fun i hi=>?_)) .nil
  ·rw[x_,List.length_append]
  ·simp only[Nat.zero_add];exact congrFun (aKf (di seq) (bU c.data.toList)) i
 have hel:(x_ seq c.data.toList).length<=4000:=by unfold x_;rw[List.length_append];omega
 have hdl:=jK 5 [di rec,x_ seq c.data.toList];refine aB M hI hn (by rfl) (by kernel_rfl) ?_ ?_
 ·simp
  exact⟨h1,by omega,by omega⟩
 refine aB M hI hn (by rfl) (by kernel_rfl) ?_ ?_
 ·simp;rw[hb1];omega
 refine aG (s':=⟨[(6,none,dh (.ow 1001 0 1 0 (encS rec seq c.data.toList).length))],[(1001,none,0,.arr 5 1 (encS rec seq c.data.toList).length (ou (encS rec seq c.data.toList)))]⟩) (fun a w hg=>(hg.reset (kT:=[6]) (kO:=[1001]) (by rfl) ?_).same ?_ ?_) ?_
 ·simp only[All,and_true,List.append_nil,List.nil_append,List.cons_append];exact fun i _=>aEo (fun _=>rfl) (fun _=>rfl) i
 ·refine .cons ?_ .nil;rw[encS,List.length_append,hdl];exact congrArg (fun n=>dh (.ow 1001 0 n 0 ((x_ seq c.data.toList).length+16))) hs1
 ·refine .cons (.arr ?_ (fun i hi=>?_)) .nil
  ·rw[encS,List.length_append,hdl]
  ·simp only[fO];exact congrFun (aKf (x_ seq c.data.toList) (nC 5 [di rec,x_ seq c.data.toList])) i
 refine aO (fun a w hg=>⟨.inr rfl,_,?_,hg⟩);refine aSs (x:=1001) (ah:=0) (g:=none) (f:=?_) (out:=?_) ?_ ?_ ?_ ?_ ?_ trivial ?_;rotate_left 2
 ·rfl
 ·simp
 ·rfl
 ·rfl
 ·rfl
 intro i hi
 exact⟨rfl,rfl⟩
def SY:Spec:=aIn fun xs=>match xs with
 |[.w (.one (.lit (.int .i64 rec))),.w (.one (.lit (.int .i64 seq))),.w (.one (.lit (.string c)))]=>some (iq rec/\iq seq/\c.size<=3000,5,1,(encS rec seq c.data.toList).length,ou (encS rec seq c.data.toList))
 |_=>none
theorem W9:aj Tryz.prog a_ 143 SY:=by
 refine aGk (aF Tryz.func143 (by kernel_rfl) rfl) (fun xs p e n len f' hg hp=>?_)
 split at hg
 ·rename_i rec seq c;cases hg;exact aHj rec seq c hp.1 hp.2.1 hp.2.2
 ·cases hg
def aIf:Spec:=bD true fun xs=>match xs with
 |[.w (.one (.lit (.int .i64 rec))),.w (.one (.lit (.int .i64 k)))]=>some (True,h_ (dP rec k))
 |_=>none
theorem Lc:aj Tryz.prog a_ 134 aIf:=by
 refine aZ (aF Tryz.func134 (by kernel_rfl) rfl) (fun xs p r hg hp=>?_)
 split at hg
 ·cases hg;exact bDg bP _ _
 ·cases hg
theorem aZz:aj Tryz.prog a_ 115 aIf:=by
 refine aZ (aF Tryz.func115 (by kernel_rfl) rfl) (fun xs p r hg hp=>?_)
 split at hg
 ·cases hg;exact aVq bP _ _
 ·cases hg
def Oh:List (Nat×Spec):=(143,SY)::(170,SL)::(141,SK)::(134,aIf)::(115,aIf)::aCO
theorem Gp:∀ p∈Oh,aj Tryz.prog a_ p.1 p.2:=by
 intro p hp;simp only[Oh,List.mem_cons] at hp;rcases hp with rfl|rfl|rfl|rfl|rfl|hp
 ·exact W9
 ·exact UZ
 ·exact UT
 ·exact Lc
 ·exact aZz
 ·exact WH p hp
theorem aIX:l_ Tryz.prog a_ (find Oh):=⟨bV Gp,fC⟩
def aDJ(x:Int×List UInt8):PV:=.w (.agg [.lit (.int .i64 x.1),.lit (.string (strOf x.2))])
theorem aXj(rec:Int)(b:List UInt8)(h1:iq rec)(hb:b.length<4611686018427387904):gU Tryz.prog a_ 166 true [h_ rec,og b] (aDJ (oq rec b)):=by
 have M:=aIX;have hle:=pR b;have hrg:=iO b;refine bJ Tryz.func166 rfl rfl bP (fun A hS hn hI=>?_);refine aB M hI hn (by rfl) (by kernel_rfl) ?_ ?_
 ·simp
 refine aB M hI hn (by rfl) (by kernel_rfl) ?_ ?_
 ·simp;exact hb
 refine aG (s':=⟨[(0,none,h_ rec),(1,none,og b),(4,none,dh (.pt 0 0 0)),(5,none,h_ (b_ b).1),(6,none,h_ ((b_ b).2.1:Int)),(7,none,h_ (b_ b).2.2)],[(0,none,0,.box 205 [.lit (.int .i64 0),.lit (.string aS)])]⟩) (fun a w hg=>(hg.reset (kT:=[0,1,4,5,6,7]) (kO:=[0]) (by rfl) (by simp)).same ?_ ?_) ?_
 ·rw[fO];exact .cons rfl (.cons rfl (.cons rfl (.cons rfl (.cons rfl (.cons rfl .nil)))))
 ·exact .cons (.box rfl) .nil
 obtain⟨m,hm⟩:∃ m,oq rec b=m:=⟨_,rfl⟩;rw[hm];have hcon:jB (b.drop (b_ b).2.1)=rf b:=rfl;have hcode:=aWt (b.drop (b_ b).2.1)
 have hpos:(rf b).2.2=0->(rf b).2.1≠0:=fun h0 h1=>by
  have he:jB (b.drop (b_ b).2.1)=((rf b).1,(rf b).2.1,0):=by rw[hcon,<-h0]
  have h2:=(LK he).1;rw[h1,List.take_zero] at h2;have h3:=congrArg List.length h2;have h4:=aX ((rf b).1.length:Int);unfold bU at h3;rw[List.length_append] at h3
  have h5:(di ((rf b).1.length:Int)).length=0:=by simp at h3;omega
  have h6:=nP (b.drop (b_ b).2.1);rw[hcon,List.length_drop] at h6;have h7:=aIc ((rf b).1.length:Int) (by omega) (by omega);omega
 unfold oq at hm;have hsz:=nP (b.drop (b_ b).2.1);rw[hcon,List.length_drop] at hsz;rw[hcon] at hcode;generalize hg:b_ b=g at *;obtain⟨q,k,e⟩:=g;dsimp only at *;refine aN ?_;refine aB M hI hn (by rfl) (by kernel_rfl) ?_ ?_
 ·simp
 refine aH (by rfl) (fun hc=>?_) (fun hc=>?_)
 ·refine aB M hI hn (by rfl) (by kernel_rfl) ?_ ?_
  ·simp
  refine aO (fun a w hg=>⟨.inr rfl,_,?_,hg⟩);refine aC (by rfl) (by simp) (by rfl) (by rfl) ?_
  have h:e≠0\/q<1\/1099511627776<q:=by simp at hc;omega
  rw[if_pos h] at hm;rw[<-hm];rfl
 ·have h:¬(e≠0\/q<1\/1099511627776<q):=by simp at hc;omega
  rw[if_neg h] at hm;refine aP ?_;change iw _ _ _ _ _;refine aB M hI hn (by rfl) (by kernel_rfl) ?_ ?_
  ·simp
   refine⟨hle.1,?_⟩
   unfold jD;rw[fM];omega
  have Vz:(rowB ((b.length:Int)-(k:Int)).toNat fun i=>ou b ((k:Int).toNat+i))=b.drop k:=by
   rw[show ((b.length:Int)-(k:Int)).toNat=b.length-k from by omega,show (k:Int).toNat=k from by omega,mO (by omega)];exact List.take_of_length_le (by rw[List.length_drop];exact Nat.le_refl _)
  refine aG (s':=⟨[(0,none,h_ rec),(1,none,og b),(4,none,dh (.pt 0 0 0)),(5,none,h_ q),(7,none,h_ (rf b).2.2),(8,none,pq (strOf (rf b).1)),(9,none,h_ ((rf b).2.1:Int))],[(0,none,0,.box 205 [.lit (.int .i64 0),.lit (.string aS)])]⟩) (fun a w hg=>(hg.reset (kT:=[0,1,4,5,7,8,9]) (kO:=[0]) (by rfl) (by simp)).same ?_ ?_) ?_
  ·rw[Vz,hcon];exact .cons rfl (.cons rfl (.cons rfl (.cons rfl (.cons rfl (.cons rfl (.cons rfl .nil))))))
  ·exact .cons (.box rfl) .nil
  generalize rf b=c at *;obtain⟨s,n,e2⟩:=c;dsimp only at *;have VQ:(strOf s).size=s.length:=bQ s;refine aN ?_;refine aB M hI hn (by rfl) (by kernel_rfl) ?_ ?_
  ·simp;intro he hs;rw[VQ] at hs ⊢
   exact⟨h1,by unfold iq;omega,by omega⟩
  refine aH (by rfl) (fun hc=>?_) (fun hc=>?_)
  ·refine aB M hI hn (by rfl) (by kernel_rfl) ?_ ?_
   ·simp
   refine aO (fun a w hg=>⟨.inr rfl,_,?_,hg⟩);refine aC (by rfl) (by simp) (by rfl) (by rfl) ?_;simp[vV,fO,dA,VQ] at hc
   have h2:e2≠0\/2000<s.length\/b.take (encS rec q s).length≠encS rec q s:=by
    rcases hc with ((h3|h3)|h3)|h3
    ·exact .inl h3
    ·exact .inr (.inl (by omega))
    ·exact .inr (.inr h3)
    ·by_cases h4:e2=0
     ·exact absurd h3 (hpos h4)
     ·exact .inl h4
   rw[if_pos h2] at hm;rw[<-hm];rfl
  ·refine aP ?_;change iw _ _ _ _ _;refine aB M hI hn (by rfl) (by kernel_rfl) ?_ ?_
   ·simp
   refine aO (fun a w hg=>⟨.inr rfl,_,?_,hg⟩);refine aC (by rfl) (by simp) (by rfl) (by rfl) ?_;simp[vV,fO,dA,VQ] at hc
   have h2:¬(e2≠0\/2000<s.length\/b.take (encS rec q s).length≠encS rec q s):=by
    rintro (h3|h3|h3)
    ·exact h3 hc.1.1.1
    ·omega
    ·exact h3 hc.1.2
   rw[if_neg h2] at hm;rw[<-hm];rfl
def Si:Spec:=bD true fun xs=>match xs with
 |[.w (.one (.lit (.int .i64 rec))),v]=>(match yR v with
  |some (p,l)=>some (p/\iq rec/\l.length<4611686018427387904,aDJ (oq rec l))
  |none=>none)
 |_=>none
theorem WA:aj Tryz.prog a_ 166 Si:=by
 refine aZ (aF Tryz.func166 (by kernel_rfl) rfl) (fun xs p r hg hp=>?_)
 split at hg
 ·rename_i rec v
  cases hq:yR v with
  |none=>rw[hq] at hg;cases hg
  | some q=>
   obtain⟨p0,l⟩:=q;rw[hq] at hg;cases hg
   exact (aXj rec l hp.2.1 hp.2.2).args fun C vs hv=>by
    match vs,hv with
    |[x0,x],⟨h0,h1,_⟩=>exact⟨h0,vC hq hp.1 h1,trivial⟩
 ·cases hg
theorem aQx{α:Type}(g:α->List Value)(k:Nat):∀ (l:List α) (vs:List Value),(∀ a∈l,(g a).length=k)->vs.length=l.length*k->(∀ (i:Nat) (hi:i<l.length),(vs.drop (i*k)).take k=g l[i])->vs=l.flatMap g
 |[],vs,_,hl,_=>by
  have:vs.length=0:=by simpa using hl
  rw[List.eq_nil_of_length_eq_zero this];rfl
 | a::l,vs,hg,hl,h=>by
  have h0:vs.take k=g a:=by
   have:=h 0 (by simp);rw[Nat.zero_mul,List.drop_zero] at this;exact this
  have ih:=aQx g k l (vs.drop k) (fun b hb=>hg b (List.mem_cons_of_mem _ hb)) (by rw[List.length_drop,hl,List.length_cons,Nat.succ_mul];omega) (fun i hi=>by
   have:=h (i+1) (by simpa using hi);rw[Nat.succ_mul] at this;rw[List.drop_drop,Nat.add_comm]
   exact this)
  rw[List.flatMap_cons,<-ih,<-h0];exact (List.take_append_drop k vs).symm
def lG(r:je):List PC:=[.lit (.int .i64 r.val),.lit (.string r.bytes)]
def Ey(l:List je):Nat->List PC:=fun i=>lG (l.getD i ⟨0,aS⟩)
def IX:List PC->je
 |[.lit (.int _ n),.lit (.string s)]=>⟨n,s⟩
 |_=>⟨0,aS⟩
def KZ:List PC->Bool
 |[.lit (.int .i64 _),.lit (.string _)]=>true
 |_=>false
theorem KY{l:List PC}(h:KZ l=true):l=lG (IX l):=by
 unfold KZ at h
 split at h
 ·rfl
 ·cases h
def rU(n:Nat)(f:Nat->List PC):List je:=(List.range n).map fun i=>IX (f i)
def aBy(n:Nat)(f:Nat->List PC):Prop:=∀ i,i<n->KZ (f i)=true
@[simp] theorem kU(n:Nat)(f:Nat->List PC):(rU n f).length=n:=by simp[rU]
theorem IY{n:Nat}{f:Nat->List PC}(h:aBy n f):∀ i,i<n->f i=Ey (rU n f) i:=fun i hi=>by
 unfold Ey rU;rw[zG,List.getElem?_map,List.getElem?_range hi];exact KY (h i hi)
@[simp] theorem O4(n:Nat)(l:List je):aBy n (Ey l):=fun _ _=>rfl
@[simp] theorem Sm(l:List je):rU l.length (Ey l)=l:=by
 apply List.ext_getElem (by simp);intro i h1 h2;simp only[rU,List.getElem_map,List.getElem_range,Ey,lG,IX];rw[zG,zH h2];rfl
theorem bAc{C:Ctx}{n:Nat}{f:Nat->List PC}{v:Value}(h:R C (.sl 2 n f) [v])(hf:aBy n f):Reads C.w 2 v (rU n f).length (logCells (rU n f)):=by
 cases h with
 | sl hr hb he=>
  rename_i vs
  have:vs=logCells (rU n f):=by
   refine aQx je.cells 2 (rU n f) vs (fun a _=>rfl) (by rw[kU];exact hr.1) (fun i hi=>?_);rw[kU] at hi;have h1:=he i hi;rw[IY hf i hi] at h1;unfold Ey at h1;rw[zG,zH (by rw[kU];exact hi)] at h1;generalize (rU n f)[i]'(by rw[kU];exact hi)=r at h1 ⊢;generalize (vs.drop (i*2)).take 2=xs at h1 ⊢
   cases h1 with
   | cons k1 h1=>cases h1 with
    |cons k2 h1=>
     cases h1;cases k1;cases k2;rfl
  rw[<-this,kU];exact hr
def UG:PC->Option (Prop×List je)
 |.sl 2 n f=>some (aBy n f,rU n f)
 |.lit (.slice none 0 0)=>some (True,[])
 |_=>none
theorem Ox{C:Ctx}{c:PC}{v:Value}{p:Prop}{l:List je}(h:UG c=some (p,l))(hp:p)(hr:R C c [v]):Reads C.w 2 v l.length (logCells l):=by
 unfold UG at h
 split at h
 ·cases h;exact bAc hr hp
 ·cases h;cases hr;exact Reads.nil _ 2
 ·cases h
def rX(a:Acc):List PC:=[.lit (.int .i64 a.kind),.lit (.int .i64 a.ay),.lit (.int .i64 a.cell),.lit (.string a.bytes)]
def xC(O:List Acc->Option je){α:Type}(p:ai α)(l:List Acc)(q:ai α)(k:List Acc):Prop:=l <+: k/\go O p l=go O q k
theorem xC.start(O:List Acc->Option je){α:Type}(p:ai α)(l:List Acc):xC O p l p l:=⟨List.prefix_refl _,rfl⟩
theorem xC.step{α β:Type}{O:List Acc->Option je}{p:ai α}{l k:List Acc}{q:ai β}{f:β->ai α}(h:xC O p l (q.bind f) k):xC O p l (f (go O q k).1) (go O q k).2:=
 ⟨h.1.trans (uD O q k),h.2.trans (wS O q f k)⟩
theorem xC.d_{α β:Type}{O:List Acc->Option je}{p:ai α}{l k:List Acc}{q:ai β}{f:β->ai α}(h:xC O p l (q.bind f) k):∀ g,k <+: g->g <+: (go O q k).2->O g=none->l <+: g/\g <+: (go O p l).2:=fun g h1 h2 _=>by
 refine⟨h.1.trans h1,h2.trans ?_⟩
 rw[h.step.2];exact uD _ _ _
theorem Uo{I:World->Prop}:l_ Tryz.prog I (find ([]:List (Nat×Spec))):=⟨fun f sp h=>(by cases h),(by kernel_rfl)⟩
theorem UV{I:World->Prop}(c:Int):Bg Tryz.prog I 165 (ai.rd c) [.w (.one .dv),h_ c] pq:=by
 intro O l;have M:=Uo (I:=I);refine jU Tryz.func165 rfl rfl rfl (fun A hn hI=>?_);refine aB M hI hn (by rfl) (by kernel_rfl) ?_ ?_
 ·simp
 refine aB M hI hn (by rfl) (by kernel_rfl) ?_ ?_
 ·exact⟨aIx (nH _) (nH _),trivial⟩
 refine aO (fun a w hg=>⟨.inr rfl,_,⟨?_,(fun o ho=>by cases ho),fun p hp=>?_⟩,hg⟩);rotate_left 1
 ·cases hp;rfl
 refine aC (by rfl) (by simp) (by rfl) (by rfl) ?_;rfl
theorem G7{I:World->Prop}(c:Int)(b:ByteArray):Bg Tryz.prog I 140 (ai.wr c b) [.w (.one .dv),h_ c,pq b] (fun _=>.lh []):=by
 intro O l;have M:=Uo (I:=I);refine jU Tryz.func140 rfl rfl rfl (fun A hn hI=>?_);refine aQ M hI hn (by rfl) (by kernel_rfl) ?_ ?_
 ·exact⟨aIx (nH _) (nH _),trivial⟩
 intro a w hg
 refine⟨.inl rfl,_,⟨?_,(fun o ho=>by cases ho),fun p hp=>?_⟩,hg⟩
 rotate_left 1
 ·cases hp;rfl
 refine aC (by rfl) (by simp) (by rfl) (by rfl) ?_;rfl
def MV:List PV->Option (Prop×ai ByteArray×(ByteArray->PV))
 |[.w (.one (.lit (.int .i64 c)))]=>some (True,ai.rd c,pq)
 |_=>none
def MR:List PV->Option (Prop×ai Unit×(Unit->PV))
 |[.w (.one (.lit (.int .i64 c))),.w (.one (.lit (.string b)))]=>some (True,ai.wr c b,fun _=>.lh [])
 |_=>none
theorem P8{I:World->Prop}:aj Tryz.prog I 165 (kV MV):=
 nV (aF Tryz.func165 (by kernel_rfl) rfl) (fun ys c p v h _=>by
  unfold MV at h
  split at h
  ·cases h;exact (UV _).toB
  ·cases h)
theorem OV{I:World->Prop}:aj Tryz.prog I 140 (kV MR):=
 nV (aF Tryz.func140 (by kernel_rfl) rfl) (fun ys c p v h _=>by
  unfold MR at h
  split at h
  ·cases h;exact (G7 _ _).toB
  ·cases h)
def Ba(a b:Int):Int:=if a<b then -1 else if b<a then 1 else 0
theorem Q3{I:World->Prop}(hI0:∀ w w',Ext w w'->I w->I w')(a:Int):gU Tryz.prog I 197 true [h_ a] (rq false):=by
 have M:=Uo (I:=I);refine bJ Tryz.func197 rfl rfl hI0 (fun A hS hn hI=>?_);refine aB M hI hn (by rfl) (by kernel_rfl) ?_ ?_
 ·simp
 refine aB M hI hn (by rfl) (by kernel_rfl) ?_ ?_
 ·simp
 refine aO (fun a w hg=>⟨.inr rfl,_,?_,hg⟩);refine aC (by rfl) (by simp) (by rfl) (by rfl) ?_;simp
def SS:Spec:=bD true fun xs=>match xs with
 |[.w (.one (.lit (.int .i64 _)))]=>some (True,rq false)
 |_=>none
theorem Us:aj Tryz.prog a_ 197 SS:=by
 refine aZ (aF Tryz.func197 (by kernel_rfl) rfl) (fun xs p r hg hp=>?_)
 split at hg
 ·cases hg;exact Q3 bP _
 ·cases hg
def aMG:List (Nat×Spec):=[(197,SS)]
theorem aMI:l_ Tryz.prog a_ (find aMG):=⟨bV (fun p hp=>by
 obtain rfl:=List.mem_singleton.1 hp
 exact Us),fC⟩
theorem RP(a b:Int):gU Tryz.prog a_ 185 true [h_ a,h_ b] (h_ (Ba a b)):=by
 have M:=aMI;refine bJ Tryz.func185 rfl rfl bP (fun A hS hn hI=>?_);refine aB M hI hn (by rfl) (by kernel_rfl) ?_ ?_
 ·simp
 refine aB M hI hn (by rfl) (by kernel_rfl) ?_ ?_
 ·simp
 refine aB M hI hn (by rfl) (by kernel_rfl) ?_ ?_
 ·simp
 refine aN ?_;refine aB M hI hn (by rfl) (by kernel_rfl) ?_ ?_
 ·simp
 refine aH (by rfl) (fun hc=>?_) (fun hc=>?_)
 ·cases hc
 refine aP ?_;change iw _ _ _ _ _;refine aN ?_;refine aB M hI hn (by rfl) (by kernel_rfl) ?_ ?_
 ·simp
 refine aH (by rfl) (fun hc=>?_) (fun hc=>?_)
 ·cases hc
 refine aP ?_;change iw _ _ _ _ _;refine aN ?_;refine aB M hI hn (by rfl) (by kernel_rfl) ?_ ?_
 ·simp
 refine aH (by rfl) (fun hc=>?_) (fun hc=>?_)
 ·refine aB M hI hn (by rfl) (by kernel_rfl) ?_ ?_
  ·simp
  refine aO (fun a w hg=>⟨.inr rfl,_,?_,hg⟩);refine aC (by rfl) (by simp) (by rfl) (by rfl) ?_;unfold Ba;rw[if_pos (of_decide_eq_true hc)]
 ·refine aP ?_;change iw _ _ _ _ _;have h1:¬a<b:=of_decide_eq_false hc;refine aN ?_;refine aB M hI hn (by rfl) (by kernel_rfl) ?_ ?_
  ·simp
  refine aH (by rfl) (fun hc=>?_) (fun hc=>?_)
  ·refine aB M hI hn (by rfl) (by kernel_rfl) ?_ ?_
   ·simp
   refine aO (fun a w hg=>⟨.inr rfl,_,?_,hg⟩);refine aC (by rfl) (by simp) (by rfl) (by rfl) ?_;unfold Ba;rw[if_neg h1,if_pos (of_decide_eq_true hc)]
  ·refine aP ?_;change iw _ _ _ _ _;refine aB M hI hn (by rfl) (by kernel_rfl) ?_ ?_
   ·simp
   refine aO (fun a w hg=>⟨.inr rfl,_,?_,hg⟩);refine aC (by rfl) (by simp) (by rfl) (by rfl) ?_;unfold Ba;rw[if_neg h1,if_neg (of_decide_eq_false hc)]
def Sj:Spec:=bD true fun xs=>match xs with
 |[.w (.one (.lit (.int .i64 a))),.w (.one (.lit (.int .i64 b)))]=>some (True,h_ (Ba a b))
 |_=>none
theorem RS:aj Tryz.prog a_ 185 Sj:=by
 refine aZ (aF Tryz.func185 (by kernel_rfl) rfl) (fun xs p r hg hp=>?_)
 split at hg
 ·cases hg;exact RP _ _
 ·cases hg
def aMF:List (Nat×Spec):=[(185,Sj)]
theorem aMH:l_ Tryz.prog a_ (find aMF):=⟨bV (fun p hp=>by
 obtain rfl:=List.mem_singleton.1 hp
 exact RS),fC⟩
def arL(a:Int)(s:ByteArray):PV:=.w (.agg [.lit (.int .i64 a),.lit (.string s)])
theorem aRl(a b:Int)(s t:ByteArray):gU Tryz.prog a_ 167 true [arL a s,arL b t] (h_ (Ba a b)):=by
 have M:=aMH;refine bJ Tryz.func167 rfl rfl bP (fun A hS hn hI=>?_);refine aB M hI hn (by rfl) (by kernel_rfl) ?_ ?_
 ·simp
 refine aB M hI hn (by rfl) (by kernel_rfl) ?_ ?_
 ·simp
 refine aO (fun a w hg=>⟨.inr rfl,_,?_,hg⟩);refine aC (by rfl) (by simp) (by rfl) (by rfl) ?_;rfl
def Gx:Spec:=bD true fun xs=>match xs with
 |[.w (.agg [.lit (.int .i64 a),.lit (.string _)]),.w (.agg [.lit (.int .i64 b),.lit (.string _)])]=>some (True,h_ (Ba a b))
 |_=>none
theorem Rk:aj Tryz.prog a_ 167 Gx:=by
 refine aZ (aF Tryz.func167 (by kernel_rfl) rfl) (fun xs p r hg hp=>?_)
 split at hg
 ·cases hg;exact aRl _ _ _ _
 ·cases hg
def Og:List (Nat×Spec):=(165,kV MV)::(140,kV MR)::(167,Gx)::(166,Si)::Oh
theorem Gn:∀ p∈Og,aj Tryz.prog a_ p.1 p.2:=by
 intro p hp;simp only[Og,List.mem_cons] at hp;rcases hp with rfl|rfl|rfl|rfl|hp
 ·exact P8
 ·exact OV
 ·exact Rk
 ·exact WA
 ·exact Gp p hp
theorem aIW:l_ Tryz.prog a_ (find Og):=⟨bV Gn,fC⟩
def bAg(rec:Int):Nat->Int×List UInt8->Int×List UInt8->ai ((Int×List UInt8)×Nat)
 |0,_,_=>ai.cur rec
 |1,x,_=>(ai.uf (dP rec 1) 8 []).bind fun b=>.ret (vz x (oq rec b))
 |_,x,y=>.ret (vz x y)
def rdO(x y:Int×List UInt8):Wr:=[(0,none,0,.box 205 [.lit (.int .i64 0),.lit (.string aS)]),(1000,none,0,.box 233 [.lit (.int .i64 x.1),.lit (.string (strOf x.2)),.lit (.int .i64 y.1),.lit (.string (strOf y.2))])]
def rdT(rec:Int)(k:Nat):List (Nat×Option Bool×PV):=[(0,none,.w (.one .dv)),(1,none,h_ rec),(4,none,dh (.pt 0 0 0)),(5,none,h_ 0),(6,none,dh (.pt 1000 0 0)),(11,none,h_ k)]
def Gl(O:List Acc->Option je)(d_:List Acc->Prop)(rec:Int)(k:Nat)(x y:Int×List UInt8)(lk:List Acc):St:=⟨rdT rec k,(dx,none,0,.dev O d_ lk)::rdO x y⟩
def Zm(O:List Acc->Option je)(d_:List Acc->Prop)(rec:Int)(k:Nat)(x y:Int×List UInt8)(i:Nat)(b:List UInt8)(lk:List Acc):St:=
 ⟨(7,none,h_ k)::(8,none,dh (.ow 5000 0 1 0 b.length))::(14,none,h_ i)::rdT rec k,(dx,none,0,.dev O d_ lk)::(5000,none,0,.arr 5 1 b.length (ou b))::rdO x y⟩
def Ic(rec:Int):Nat->Int×List UInt8->List UInt8->ai ((Int×List UInt8)×Nat)
 |0,_,a=>bAg rec 1 (oq rec a) (0,[])
 |_,x,b=>.ret (vz x (oq rec b))
theorem bAf{rec:Int}{k:Nat}(hk:k<2)(x y:Int×List UInt8):bAg rec k x y=(ai.uf (dP rec k) 8 []).bind (Ic rec k x):=by
 rcases (by omega:k=0\/k=1) with rfl|rfl<;>rfl
theorem aVj{F:Int}{i:Nat}(hi:i<8)(b:List UInt8){α:Type}(f:List UInt8->ai α):(ai.uf F (8-i) b).bind f=(ai.rd (F+i)).bind fun s=>(ai.uf F (8-(i+1)) (b++s.data.toList)).bind f:=by
 have e:8-i=(7-i)+1:=by omega
 rw[e,ai.uf,ai.bind_assoc,show 7-(7-i)=i from by omega,show 8-(i+1)=7-i from by omega]
theorem aUh(b:List UInt8)(i:Nat):∀ x∈ou b i,cZ false x=true:=fun x hx=>by
 change x∈[_] at hx;rw[List.mem_singleton] at hx;subst hx;rfl
theorem aLx(b:List UInt8):(rowB b.length fun i=>ou b (0+i))=b:=by simp only[Nat.zero_add];exact fO b
theorem bEh(a b:Int):decide (Ba a b<0)=decide (a<b):=by
 unfold Ba
 by_cases h:a<b
 ·rw[if_pos h,decide_eq_true h];rfl
 ·rw[if_neg h,decide_eq_false h]
  split<;>rfl
theorem aVd(rec:Int)(hr:iq rec):bFn Tryz.prog a_ 135 (ai.cur rec) [.w (.one .dv),h_ rec] (fun p=>.lh [.agg [.lit (.int .i64 p.1.1),.lit (.string (strOf p.1.2))],.one (.lit (.int .i64 (p.2:Int)))]):=by
 intro O l hO;have M:=aIW;refine jU Tryz.func135 rfl rfl rfl (fun A hn hI=>?_);generalize hstp:(fun h=>l <+: h/\h <+: (go O (ai.cur rec) l).2)=d_;refine aB M hI hn (by rfl) (by kernel_rfl) ?_ ?_
 ·simp
 refine aB M hI hn (by rfl) (by kernel_rfl) ?_ ?_
 ·simp
 refine aN ?_;refine aB M hI hn (by rfl) (by kernel_rfl) ?_ ?_
 ·simp
 refine bG ?_;refine aG (s':=Gl O d_ rec 0 (0,[]) (0,[]) l) (fun a w hg=>(hg.reset (kT:=[0,1,4,5,6,11]) (kO:=[900000,0,1000]) (by rfl) (by simp)).same ?_ ?_) ?_
 ·exact .cons rfl (.cons rfl (.cons rfl (.cons rfl (.cons rfl (.cons rfl .nil)))))
 ·exact .cons (.dev rfl) (.cons (.box rfl) (.cons (.box rfl) .nil))
 refine iL 2 (fun k s=>∃ x y lk,s=Gl O d_ rec k x y lk/\xC O (ai.cur rec) l (bAg rec k x y) lk) 0 ⟨_,_,_,rfl,xC.start _ _ _⟩ (by omega) (fun k s hJ hk=>?_);obtain⟨x,y,lk,rfl,hL⟩:=hJ;refine aB M hI hn (by rfl) (by kernel_rfl) ?_ ?_
 ·simp
 refine aN ?_;refine aH (by rfl) (fun hc=>?_) (fun hc=>?_)
 ·have hk2:k<2:=by have:=of_decide_eq_true hc;omega
  refine aP ?_;change iw _ _ _ _ _;refine aN ?_;refine bG ?_;refine aB M hI hn (by rfl) (by kernel_rfl) ?_ ?_
  ·simp
  refine aB M hI hn (by rfl) (by kernel_rfl) ?_ ?_
  ·simp
  refine aN ?_;refine aB M hI hn (by rfl) (by kernel_rfl) ?_ ?_
  ·simp
  refine bG ?_;refine aG (s':=Zm O d_ rec k x y 0 [] lk) (fun a w hg=>((hg.nilRow (x:=5000) (e:=5) (n:=1) (t:=8) (by rfl) (by rfl)).reset (kT:=[7,8,14,0,1,4,5,6,11]) (kO:=[900000,5000,0,1000]) (by rfl) (by simp)).same ?_ ?_) ?_
  ·exact .cons rfl (.cons rfl (.cons rfl (.cons rfl (.cons rfl (.cons rfl (.cons rfl (.cons rfl (.cons rfl .nil))))))))
  ·exact .cons (.dev rfl) (.cons (.arr rfl (fun i hi=>absurd hi (by simp))) (.cons (.box rfl) (.cons (.box rfl) .nil)))
  rw[bAf hk2] at hL;generalize hf:Ic rec k x=f at hL;refine iL 8 (fun i s=>∃ b lj,s=Zm O d_ rec k x y i b lj/\b.length<=i*1000000/\xC O (ai.cur rec) l ((ai.uf (dP rec k) (8-i) b).bind f) lj) 0 ⟨_,_,rfl,by simp,hL⟩ (by omega) (fun i s hJ hi=>?_);obtain⟨b,lj,rfl,hb,hL2⟩:=hJ;refine aB M hI hn (by rfl) (by kernel_rfl) ?_ ?_
  ·simp
  refine aN ?_;refine aH (by rfl) (fun hc=>?_) (fun hc=>?_)
  ·have hi2:i<8:=by have:=of_decide_eq_true hc;omega
   refine aP ?_;change iw _ _ _ _ _;refine aN ?_;refine bG ?_;refine aB M hI hn (by rfl) (by kernel_rfl) ?_ ?_
   ·simp
   have hix:IntKind.i64.wrap (dP rec k+(i:Int))=dP rec k+(i:Int):=by have:=aHd rec k;exact dX (by omega) (by omega)
   rw[aVj hi2] at hL2;have hs:=hO.ans (lj++[⟨3,0,dP rec k+(i:Int),aS⟩]);change ((go O (ai.rd (dP rec k+(i:Int))) lj).1).size<=1000000 at hs;have hL3:=hL2.step;refine aQ M hI hn (by rfl) (by kernel_rfl) ?_ ?_
   ·simp;rw[hix]
    refine⟨hO,fun h h1 h2 h3=>?_,by omega⟩
    rw[<-hstp];exact hL2.d_ h h1 h2 h3
   change iw _ _ _ _ _;refine aQ M hI hn (by rfl) (by kernel_rfl) ?_ ?_
   ·simp
   intro a w hg
   refine⟨i+1,_,by omega,by omega,⟨_,_,rfl,?_,hL3⟩,(hg.reset (kT:=[7,8,14,0,1,4,5,6,11]) (kO:=[900000,5000,0,1000]) (by rfl) ?_).same ?_ ?_⟩
   ·rw[List.length_append,Array.length_toList];change b.length+((go O (ai.rd (dP rec k+(i:Int))) lj).1).size<=_;omega
   ·simp only[All,and_true,List.append_nil,List.nil_append];exact fun i _=>aEo (fun _=>rfl) (fun _=>rfl) i
   ·refine .cons rfl (.cons ?_ (.cons (by rw[fG i (by omega)]) (.cons rfl (.cons rfl (.cons rfl (.cons rfl (.cons rfl (.cons rfl .nil))))))));rw[hix,List.length_append,Array.length_toList];rfl
   ·refine .cons (.dev ?_) (.cons (.arr ?_ (fun j hj=>?_)) (.cons (.box rfl) (.cons (.box rfl) .nil)))
    ·show (go O (ai.rd (IntKind.i64.wrap (dP rec k+(i:Int)))) lj).2=_;rw[hix]
    ·rw[hix,List.length_append,Array.length_toList];rfl
    ·rw[hix];exact congrFun (aKf b _) j
  ·have hi2:i=8:=by have:=of_decide_eq_false hc;omega
   subst hi2;have hL3:xC O (ai.cur rec) l (f b) lj:=hL2;subst hf;refine gW ?_;change iw _ _ _ _ _;rcases (by omega:k=0\/k=1) with rfl|rfl
   ·refine aQ M hI hn (by rfl) (by kernel_rfl) ?_ ?_
    ·simp
     exact⟨fun i _ x hx=>aUh b i x hx,hr,by omega⟩
    change iw _ _ _ _ _;refine aQ M hI hn (by rfl) (by kernel_rfl) ?_ ?_
    ·simp
    intro a w hg
    refine⟨1,_,by omega,by omega,⟨oq rec b,y,_,rfl,hL3⟩,(hg.reset (kT:=[0,1,4,5,6,11]) (kO:=[900000,0,1000]) (by rfl) (by simp)).same ?_ ?_⟩
    ·exact .cons rfl (.cons rfl (.cons rfl (.cons rfl (.cons rfl (.cons rfl .nil)))))
    ·rw[aLx];exact .cons (.dev rfl) (.cons (.box rfl) (.cons (.box rfl) .nil))
   ·refine aQ M hI hn (by rfl) (by kernel_rfl) ?_ ?_
    ·simp
     exact⟨fun i _ x hx=>aUh b i x hx,hr,by omega⟩
    change iw _ _ _ _ _;refine aQ M hI hn (by rfl) (by kernel_rfl) ?_ ?_
    ·simp
    intro a w hg
    refine⟨2,_,by omega,by omega,⟨x,oq rec b,_,rfl,hL3⟩,(hg.reset (kT:=[0,1,4,5,6,11]) (kO:=[900000,0,1000]) (by rfl) (by simp)).same ?_ ?_⟩
    ·exact .cons rfl (.cons rfl (.cons rfl (.cons rfl (.cons rfl (.cons rfl .nil)))))
    ·rw[aLx];exact .cons (.dev rfl) (.cons (.box rfl) (.cons (.box rfl) .nil))
 ·have hk2:k=2:=by have:=of_decide_eq_false hc;omega
  subst hk2;have hE:go O (ai.cur rec) l=(vz x y,lk):=hL.2;refine gW ?_;change iw _ _ _ _ _;refine aB M hI hn (by rfl) (by kernel_rfl) ?_ ?_
  ·simp
  refine aN ?_;refine aB M hI hn (by rfl) (by kernel_rfl) ?_ ?_
  ·simp
  refine aH (by rfl) (fun hc=>?_) (fun hc=>?_)
  ·refine aB M hI hn (by rfl) (by kernel_rfl) ?_ ?_
   ·simp
   have h:x.1=0\/x.1<y.1:=by
    have h1:(bif x.1==0 then true else decide (Ba x.1 y.1<0))=true:=hc;rw[bEh] at h1
    by_cases h0:x.1=0
    ·exact .inl h0
    ·rw[show (x.1==0)=false from beq_eq_false_iff_ne.2 h0] at h1;exact .inr (of_decide_eq_true h1)
   have e:vz x y=(y,1):=by unfold vz;rw[if_pos h]
   refine aO (fun a w hg=>⟨.inr rfl,_,⟨?_,(fun o ho=>by cases ho),fun p hp=>?_⟩,hg⟩);rotate_left 1
   ·cases hp;rw[hE];rfl
   refine aC (by rfl) (by simp) (by rfl) (by rfl) ?_;rw[hE,e];rfl
  ·refine aP ?_;change iw _ _ _ _ _;refine aB M hI hn (by rfl) (by kernel_rfl) ?_ ?_
   ·simp
   have h:¬(x.1=0\/x.1<y.1):=by
    have h1:(bif x.1==0 then true else decide (Ba x.1 y.1<0))=false:=hc;rw[bEh] at h1;rintro (h0|h0)
    ·rw[show (x.1==0)=true from beq_iff_eq.2 h0] at h1;cases h1
    ·rw[decide_eq_true h0] at h1
     cases hb:(x.1==0)<;>rw[hb] at h1<;>cases h1
   have e:vz x y=(x,0):=by unfold vz;rw[if_neg h]
   refine aO (fun a w hg=>⟨.inr rfl,_,⟨?_,(fun o ho=>by cases ho),fun p hp=>?_⟩,hg⟩);rotate_left 1
   ·cases hp;rw[hE];rfl
   refine aC (by rfl) (by simp) (by rfl) (by rfl) ?_;rw[hE,e];rfl
def aCS(p:(Int×List UInt8)×Nat):PV:=.lh [.agg [.lit (.int .i64 p.1.1),.lit (.string (strOf p.1.2))],.one (.lit (.int .i64 (p.2:Int)))]
def bEc:List PV->Option (Prop×ai ((Int×List UInt8)×Nat)×((Int×List UInt8)×Nat->PV))
 |[.w (.one (.lit (.int .i64 rec)))]=>some (iq rec,ai.cur rec,aCS)
 |_=>none
theorem aPg:aj Tryz.prog a_ 135 (kV bEc):=
 nV (aF Tryz.func135 (by kernel_rfl) rfl) (fun ys c p v h hc=>by
  unfold bEc at h
  split at h
  ·cases h;exact aVd _ hc
  ·cases h)
def ZQ:List (Nat×Spec):=(135,kV bEc)::Og
theorem U6:∀ p∈ZQ,aj Tryz.prog a_ p.1 p.2:=by
 intro p hp;rcases List.mem_cons.1 hp with rfl|hp
 ·exact aPg
 ·exact Gn p hp
theorem ZR:l_ Tryz.prog a_ (find ZQ):=⟨bV U6,fC⟩
def Yv(o:Dt):List PC:=[.lit (.string o.content),.lit (.int .i64 o.seq),.lit (.int .i64 o.err)]
def EP(o:Dt):PV:=.w (.agg (Yv o))
theorem KN(rec:Int)(hr:iq rec):bFn Tryz.prog a_ 98 (ai.load rec) [.w (.one .dv),h_ rec] EP:=by
 intro O l hO;have M:=ZR;refine jU Tryz.func98 rfl rfl rfl (fun A hn hI=>?_)
 have hp:ai.load rec=if dP rec 0<0 then .ret ⟨aS,0,1⟩ else (ai.cur rec).bind fun p=>.ret (zS p.1):=rfl
 generalize ai.load rec=pr at *;generalize hstp:(fun h=>l <+: h/\h <+: (go O pr l).2)=d_;refine aB M hI hn (by rfl) (by kernel_rfl) ?_ ?_
 ·simp
 refine aN ?_;refine aB M hI hn (by rfl) (by kernel_rfl) ?_ ?_
 ·simp
 refine aH (by rfl) (fun hc=>?_) (fun hc=>?_)
 ·have h:dP rec 0<0:=of_decide_eq_true hc;rw[if_pos h] at hp
  have hE:go O pr l=(⟨aS,0,1⟩,l):=by rw[hp];rfl
  refine aB M hI hn (by rfl) (by kernel_rfl) ?_ ?_
  ·simp
  refine aO (fun a w hg=>⟨.inr rfl,_,⟨?_,(fun o ho=>by cases ho),fun p hp=>?_⟩,hg⟩);rotate_left 1
  ·cases hp;rw[hE];rfl
  refine aC (by rfl) (by simp) (by rfl) (by rfl) ?_;rw[hE];rfl
 ·have h:¬dP rec 0<0:=of_decide_eq_false hc;rw[if_neg h] at hp;refine aP ?_;change iw _ _ _ _ _
  have hL0:xC O pr l ((ai.cur rec).bind fun p=>.ret (zS p.1)) l:=by rw[hp];exact xC.start _ _ _
  have hL:=hL0.step;refine aB M hI hn (by rfl) (by kernel_rfl) ?_ ?_
  ·simp
   refine⟨⟨hO,hr⟩,fun h h1 h2 h3=>?_⟩
   rw[<-hstp];exact hL0.d_ h h1 h2 h3
  obtain⟨q,lq,hq⟩:∃ q lq,go O (ai.cur rec) l=(q,lq):=⟨_,_,rfl⟩;rw[hq] at hL;have hE:go O pr l=(zS q.1,lq):=hL.2;refine aG (s':=⟨[(4,none,dh (.pt 0 0 0)),(5,none,dh (.pt 3006 0 0))],[(dx,none,0,.dev O d_ lq),(0,none,0,.box 164 [.lit (.string aS),.lit (.int .i64 0),.lit (.int .i64 0)]),(3006,none,0,.box 205 [.lit (.int .i64 q.1.1),.lit (.string (strOf q.1.2))])]⟩) (fun a w hg=>(hg.reset (kT:=[4,5]) (kO:=[900000,0,3006]) (by rfl) (by simp)).same ?_ ?_) ?_
  ·exact .cons rfl (.cons rfl .nil)
  ·refine .cons (.dev ?_) (.cons (.box rfl) (.cons (.box ?_) .nil))
   ·show (go O (ai.cur rec) l).2=_;rw[hq]
   ·show[PC.lit (.int .i64 (go O (ai.cur rec) l).1.1.1),PC.lit (.string (strOf (go O (ai.cur rec) l).1.1.2))]=_
    rw[hq]
  refine aN ?_;refine aB M hI hn (by rfl) (by kernel_rfl) ?_ ?_
  ·simp
  refine aH (by rfl) (fun hc=>?_) (fun hc=>?_)
  ·refine aB M hI hn (by rfl) (by kernel_rfl) ?_ ?_
   ·simp
   have h0:q.1.1=0:=by simpa using hc
   have e:zS q.1=⟨aS,0,13⟩:=if_pos h0;refine aO (fun a w hg=>⟨.inr rfl,_,⟨?_,(fun o ho=>by cases ho),fun p hp=>?_⟩,hg⟩);rotate_left 1
   ·cases hp;rw[hE];rfl
   refine aC (by rfl) (by simp) (by rfl) (by rfl) ?_;rw[hE,e];rfl
  ·refine aP ?_;change iw _ _ _ _ _;refine aB M hI hn (by rfl) (by kernel_rfl) ?_ ?_
   ·simp
   have h0:¬q.1.1=0:=by simpa using hc
   have e:zS q.1=⟨strOf q.1.2,q.1.1,0⟩:=if_neg h0;refine aO (fun a w hg=>⟨.inr rfl,_,⟨?_,(fun o ho=>by cases ho),fun p hp=>?_⟩,hg⟩);rotate_left 1
   ·cases hp;rw[hE];rfl
   refine aC (by rfl) (by simp) (by rfl) (by rfl) ?_;rw[hE,e];rfl
end Pv

end Go.Proofs.YtndpjopifkbgiaaGreatDoor
