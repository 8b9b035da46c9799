/-
  Several texts in one file: each has its own heading below.
-/
import Derived.Test.YtndpjopifkbgiaaGreatDoorMfK
import Derived.Test.YtndpjopifkbgiaaGreatDoorMfC
import Derived.Test.YtndpjopifkbgiaaGreatDoorMfJ
import Derived.Test.YtndpjopifkbgiaaGreatDoorMfA
set_option maxRecDepth 100000
set_option maxHeartbeats 4000000
namespace Go.Proofs.YtndpjopifkbgiaaGreatDoor
open Go.RowKit
section
def dN(rec area:Int):Int:=if rec<0\/3<rec\/area<0\/1<area then -1 else 8*(2*rec+area)
def vw(seq:Int)(c:List UInt8):List UInt8:=d_ seq++bU c
def encS(rec seq:Int)(c:List UInt8):List UInt8:=vw seq c++mY 5 [d_ rec,vw seq c]
def qo(b:List UInt8):List UInt8×Nat×Int:=iZ (b.drop (b_ b).2.1)
def o_(rec:Int)(b:List UInt8):Int×List UInt8:=
 if (b_ b).2.2≠0\/(b_ b).1<1\/1099511627776<(b_ b).1 then (0,[]) else
 if (qo b).2.2≠0\/2000<(qo b).1.length\/b.take (encS rec (b_ b).1 (qo b).1).length≠encS rec (b_ b).1 (qo b).1 then (0,[]) else ((b_ b).1,(qo b).1)
def ve(x y:Int×List UInt8):(Int×List UInt8)×Nat:=if x.1=0\/x.1<y.1 then (y,1) else (x,0)
structure Dt where
 content:ByteArray
 seq:Int
 err:Int
def Fh(x:Int×List UInt8):Dt:=if x.1=0 then⟨aS,0,13⟩ else⟨strOf x.2,x.1,0⟩
def ah.rd(s:Int):ah ByteArray:=.ask ⟨3,0,s,aS⟩ fun r=>.ret r.bytes
def ah.wr(s:Int)(b:ByteArray):ah Unit:=.ask ⟨4,0,s,b⟩ fun _=>.ret ()
def ah.su(f:Int):Nat->List UInt8->ah (List UInt8)
 |0,b=>.ret b
 |n+1,b=>(ah.rd (f+((7-n:Nat):Int))).bind fun s=>ah.su f n (b++s.data.toList)
def ah.cur(rec:Int):ah ((Int×List UInt8)×Nat):=(ah.su (dN rec 0) 8 []).bind fun a=>(ah.su (dN rec 1) 8 []).bind fun b=>.ret (ve (o_ rec a) (o_ rec b))
def ah.load(rec:Int):ah Dt:=if dN rec 0<0 then .ret ⟨aS,0,1⟩ else (ah.cur rec).bind fun p=>.ret (Fh p.1)
def jl(b:List UInt8)(k:Nat):List UInt8:=(b.drop (256*k)).take 256++List.replicate (256-((b.drop (256*k)).take 256).length) 0
def iK:List UInt8:=List.replicate 256 0
def nsec(b:List UInt8):Nat:=(b.length+255) / 256
def ah.G5(f:Int)(b:List UInt8):Nat->Nat->ah Unit
 |0,_=>.ret ()
 |n+1,i=>(ah.wr (f+(i:Int)) (strOf (jl b i))).bind fun _=>ah.G5 f b n (i+1)
def ah.write(f:Int)(b:List UInt8):ah Unit:=(ah.wr f (strOf iK)).bind fun _=>(ah.G5 f b (nsec b-1) 1).bind fun _=>ah.wr f (strOf (jl b 0))
def ah.save(rec:Int)(c:ByteArray):ah Dt:=if dN rec 0<0 then .ret ⟨aS,0,1⟩ else if 2000<c.size then .ret ⟨aS,0,19⟩ else
 (ah.cur rec).bind fun p=>if 1099511627776<p.1.1+1 then .ret ⟨aS,0,19⟩ else (ah.write (dN rec (1-(p.2:Int))) (encS rec (p.1.1+1) c.data.toList)).bind fun _=>.ret ⟨c,p.1.1+1,0⟩
theorem oG(seq:Int)(c:List UInt8):(vw seq c).length=(d_ seq).length+((d_ (c.length:Int)).length+c.length):=by unfold vw bU;simp
theorem lV(rec seq:Int)(c:List UInt8):(encS rec seq c).length=(vw seq c).length+16:=by unfold encS;rw[List.length_append,jJ]
theorem qH(rec:Int)(b:List UInt8):0<=(o_ rec b).1/\(o_ rec b).1<=1099511627776:=by
 unfold o_
 split
 ·exact⟨Int.le_refl _,by decide⟩
 ·split
  ·exact⟨Int.le_refl _,by decide⟩
  ·rename_i h _;dsimp only;omega
theorem aCh:∀ (f u v:Nat),u<=v->(varint f u).length<=(varint f v).length
 |0,_,_,_=>by simp[varint]
 | f+1,u,v,h=>by
  by_cases hv:v<128
  ·rw[jA hv,jA (by omega)];simp
  ·rw[lJ hv]
   by_cases hu:u<128
   ·rw[jA hu];simp
   ·rw[lJ hu,List.length_cons,List.length_cons];exact Nat.succ_le_succ (aCh f _ _ (Nat.div_le_div_right h))
theorem bCv(rec seq:Int){s c:List UInt8}(h:s.length<=c.length):(encS rec seq s).length<=(encS rec seq c).length:=by
 have h1:(d_ (s.length:Int)).length<=(d_ (c.length:Int)).length:=aCh 9 _ _ (by unfold zig;rw[if_pos (by omega),if_pos (by omega)];omega);rw[lV,lV,oG,oG];omega
theorem aTp(rec seq:Int)(c r:List UInt8)(h1:1<=seq)(h2:seq<=1099511627776)(hc:c.length<=2000):o_ rec (encS rec seq c++r)=(seq,c):=by
 obtain⟨d,hd⟩:∃ d,mY 5 [d_ rec,vw seq c]=d:=⟨_,rfl⟩
 have e1:encS rec seq c++r=d_ seq++(bU c++(d++r)):=by unfold encS;rw[hd];unfold vw;simp
 have g:b_ (encS rec seq c++r)=(seq,(d_ seq).length,0):=by rw[e1];exact kZ _ (by omega) (by omega)
 have k:qo (encS rec seq c++r)=(c,(bU c).length,0):=by
  unfold qo;rw[g];dsimp only;rw[e1,List.drop_left];exact uF _ _ (by omega)
 unfold o_;rw[g,k];dsimp only;rw[if_neg (by omega),List.take_left,if_neg (by simp;omega)]
theorem bDe(rec:Int)(b:List UInt8):o_ rec (0::b)=(0,[]):=by
 have h:b_ (0::b)=(0,1,0):=kZ (n:=0) b (by decide) (by decide);unfold o_;rw[h];rfl
theorem aXx{n:Int}(h1:-9223372036854775808<=n)(h2:n<9223372036854775808)(h0:n≠0):(d_ n).getD ((d_ n).length-1) 0≠0:=by
 have hp:=aHz n h1 h2
 have hz:zig n≠0:=by unfold zig;split<;>omega
 have hn:wB (d_ n):=aMh 9 _ (by have:=Z7 h1 h2;omega) hz;exact (qZ (d_ n) ((d_ n).length-1) (by omega)).1 hn
theorem aNe{v:Int}{r W:List UInt8}{cut n k:Nat}{q:Int}(h1:-9223372036854775808<=v)(h2:v<9223372036854775808)(hp:∀ i,i<cut->W[i]?=(d_ v++r)[i]?)(hz:∀ i,cut<=i->i<n->W[i]?=some 0)(hn:10<=n)(hg:b_ W=(q,k,0)) :
  (q=v/\k=(d_ v).length)\/(q=0/\k=1):=by
 obtain⟨g1,g2,g3,g4,g5,g6⟩:=bBv hg
 by_cases hk:k<=cut
 ·left
  have e:(d_ v++r).take k=d_ q:=by
   rw[<-g1];apply List.ext_getElem?;intro i;rw[List.getElem?_take,List.getElem?_take]
   split
   ·exact (hp i (by omega)).symm
   ·rfl
  have e2:d_ v++r=d_ q++(d_ v++r).drop k:=by rw[<-e,List.take_append_drop]
  have a1:=kZ r h1 h2;rw[e2,kZ _ g5 g6] at a1;simp only[Prod.mk.injEq,and_true] at a1
  refine⟨a1.1,?_⟩
  have:(W.take k).length=k:=by rw[List.length_take];omega
  rw[g1] at this;rw[<-this,a1.2]
 ·right
  have hl:(d_ q).length=k:=by rw[<-g1,List.length_take];omega
  have hlast:(d_ q).getD (k-1) 0=0:=by
   rw[<-g1,zG,List.getElem?_take,if_pos (by omega),hz (k-1) (by omega) (by omega)];rfl
  by_cases h0:q=0
  ·subst h0
   exact⟨rfl,by rw[<-hl];rfl⟩
  ·exact absurd (hl ▸ hlast) (by rw[hl];have:=aXx g5 g6 h0;rw[hl] at this;exact this)
theorem bDf{rec seq:Int}{c W:List UInt8}{cut:Nat}(h1:1<=seq)(h2:seq<=1099511627776)(hc:c.length<=2000)(hcb:cut<=(encS rec seq c).length)(hp:∀ i,i<cut->W[i]?=(encS rec seq c)[i]?)(hz:∀ i,cut<=i->i<256->W[i]?=some 0) :
  o_ rec W=(0,[])\/∃ s,o_ rec W=(seq,s)/\s.length<=c.length/\W.take (encS rec seq s).length=encS rec seq s:=by
 obtain⟨d,hd⟩:∃ d,mY 5 [d_ rec,vw seq c]=d:=⟨_,rfl⟩
 have e1:encS rec seq c=d_ seq++(d_ (c.length:Int)++(c++d)):=by unfold encS;rw[hd];unfold vw bU;simp
 have hw1:=aX seq;have hw2:=aX (c.length:Int)
 by_cases hq:o_ rec W=(0,[])
 ·exact .inl hq
 right
 unfold o_ at hq
 split at hq
 ·exact absurd rfl hq
 ·rename_i q1
  split at hq
  ·exact absurd rfl hq
  ·rename_i q2;obtain⟨q,k,e,hg⟩:∃ q k e,b_ W=(q,k,e):=⟨_,_,_,rfl⟩;have hq1:=q1;rw[hg] at q1;dsimp only at q1
   obtain rfl:e=0:=by omega
   have hsq:q=seq/\k=(d_ seq).length:=by
    rcases aNe (v:=seq) (r:=d_ (c.length:Int)++(c++d)) (W:=W) (cut:=cut) (n:=256) (by omega) (by omega) (fun i hi=>by rw[hp i hi,e1]) hz (by omega) hg with h|h
    ·exact h
    ·omega
   obtain⟨rfl,rfl⟩:=hsq
   have hcon:qo W=iZ (W.drop (d_ q).length):=by unfold qo;rw[hg]
   have hle:(qo W).1.length<=c.length:=by
    by_cases hz2:(b_ (W.drop (d_ q).length)).2.2=0
    ·obtain⟨m,j,e,hm⟩:∃ m j e,b_ (W.drop (d_ q).length)=(m,j,e):=⟨_,_,_,rfl⟩;rw[hm] at hz2
     obtain rfl:e=0:=hz2
     have hmc:m=(c.length:Int)\/m=0:=by
      have hpp:∀ i,i<cut-(d_ q).length->(W.drop (d_ q).length)[i]?=(d_ (c.length:Int)++(c++d))[i]?:=fun i hi=>by
       rw[List.getElem?_drop,hp _ (by omega),e1,List.getElem?_append_right (by omega),show (d_ q).length+i-(d_ q).length=i from by omega]
      rcases aNe (v:=(c.length:Int)) (r:=c++d) (W:=W.drop (d_ q).length) (cut:=cut-(d_ q).length) (n:=256-(d_ q).length) (by omega) (by omega) hpp (fun i hi hj=>by rw[List.getElem?_drop];exact hz _ (by omega) (by omega)) (by omega) hm with h|h
      ·exact .inl h.1
      ·exact .inr h.1
     rw[hcon];unfold iZ;rw[hm];dsimp only;rw[if_neg (by simp)]
     split
     ·simp
     ·split
      ·simp
      ·rw[List.length_take];rcases hmc with rfl|rfl<;>omega
    ·rw[hcon];unfold iZ;rw[if_pos hz2];simp
   refine⟨(qo W).1,?_,hle,?_⟩
   ·unfold o_;rw[if_neg hq1,if_neg q2,hg]
   ·rw[hg] at q2;dsimp only at q2
    by_cases h:W.take (encS rec q (qo W).1).length=encS rec q (qo W).1
    ·exact h
    ·exact absurd (.inr (.inr h)) q2
def iR(cut:Int)(a:Acc)(f:Fl):Fl:=if a.kind=3 then f else iO f a.cell a.bytes cut
def Be(a:Acc)(f:Fl):jc:=⟨0,if a.kind=3 then strOf (sec f a.cell) else aS⟩
section
variable {α β:Type}
def yh:ah α->Fl->α
 |.ret a,_=>a
 |.ask a k,f=>yh (k (Be a f)) (iR (-1) a f)
def l9:ah α->Fl->List Acc
 |.ret _,_=>[]
 |.ask a k,f=>a::l9 (k (Be a f)) (iR (-1) a f)
def uo(L:List Acc)(f:Fl):Fl:=L.foldl (fun f a=>iR (-1) a f) f
theorem aEe(L M:List Acc)(f:Fl):uo (L++M) f=uo M (uo L f):=List.foldl_append ..
theorem qL(p:ah α)(g:α->ah β):∀ f,l9 (p.bind g) f=l9 p f++l9 (g (yh p f)) (uo (l9 p f) f):=by
 induction p with
 |ret a=>intro f;rfl
 |ask a k ih=>
  intro f;show a::l9 ((k (Be a f)).bind g) (iR (-1) a f)=_;rw[ih];rfl
theorem tK(p:ah α)(g:α->ah β):∀ f,yh (p.bind g) f=yh (g (yh p f)) (uo (l9 p f) f):=by
 induction p with
 |ret a=>intro f;rfl
 |ask a k ih=>
  intro f;show yh ((k (Be a f)).bind g) (iR (-1) a f)=_;rw[ih];rfl
def bCs(cut bytes:Int):ah α->Fl->List Acc->Fl×Option α×List Acc
 |.ret o,f,l=>(f,some o,l)
 |.ask a k,f,l=>if (l.length:Int)=cut then (iR (max 0 bytes) a f,none,l++[a]) else bCs cut bytes (k (Be a f)) (iR (-1) a f) (l++[a])
theorem aJs(cut bytes:Int)(p:ah α):∀ (f:Fl) (l:List Acc),bCs cut bytes p f l =
  if h:(l.length:Int)<=cut/\(cut-l.length).toNat<(l9 p f).length then
   (iR (max 0 bytes) ((l9 p f)[(cut-l.length).toNat]'h.2) (uo ((l9 p f).take (cut-l.length).toNat) f),none,l++(l9 p f).take ((cut-l.length).toNat+1))
  else (uo (l9 p f) f,some (yh p f),l++l9 p f):=by
 induction p with
 |ret a=>intro f l;rw[dif_neg (by simp[l9])];simp[bCs,l9,uo,yh]
 | ask a k ih=>
  intro f l;rw[bCs]
  by_cases hc:(l.length:Int)=cut
  ·rw[if_pos hc]
   have e0:(cut-(l.length:Int)).toNat=0:=by omega
   rw[dif_pos ⟨by omega,by rw[e0];simp[l9]⟩];simp[e0,l9,uo]
  ·rw[if_neg hc,ih]
   have hl:((l++[a]).length:Int)=l.length+1:=by simp
   by_cases h:(((l++[a]).length:Nat):Int)<=cut/\(cut-((l++[a]).length:Nat)).toNat<(l9 (k (Be a f)) (iR (-1) a f)).length
   ·have e1:(cut-(l.length:Int)).toNat=(cut-((l++[a]).length:Nat)).toNat+1:=by omega
    rw[dif_pos h,dif_pos ⟨by omega,by rw[e1];simp only[l9,List.length_cons];omega⟩];simp only[e1,l9,List.getElem_cons_succ,List.take_succ_cons,uo,List.foldl_cons,List.append_assoc,List.singleton_append]
   ·rw[dif_neg h,dif_neg (by
     simp only[l9,List.length_cons]
     omega)]
    simp only[l9,uo,List.foldl_cons,List.append_assoc,List.singleton_append,yh]
end
def Fp(f:Fl)(s:Int):Nat->List UInt8
 |0=>[]
 |n+1=>sec f (s+((7-n:Nat):Int))++Fp f s n
def xA(f:Fl)(s:Int):List UInt8:=Fp f s 8
def nS(s:Int):Nat->List Acc
 |0=>[]
 |n+1=>⟨3,0,s+((7-n:Nat):Int),aS⟩::nS s n
theorem qA(s:Int):∀ (n:Nat) (f:Fl),uo (nS s n) f=f
 |0,_=>rfl
 |n+1,f=>qA s n f
theorem aOz(s:Int):∀ (n:Nat) (b:List UInt8) (f:Fl),l9 (ah.su s n b) f=nS s n/\yh (ah.su s n b) f=b++Fp f s n
 |0,b,f=>⟨rfl,by simp[ah.su,yh,Fp]⟩
 |n+1,b,f=>by
  have ih:=aOz s n (b++sec f (s+((7-n:Nat):Int))) f;have e:ah.su s (n+1) b=.ask ⟨3,0,s+((7-n:Nat):Int),aS⟩ fun r=>ah.su s n (b++r.bytes.data.toList):=rfl;rw[e];simp only[l9,yh,iR,Be,if_pos,dO];rw[ih.1,ih.2]
  exact⟨rfl,by rw[Fp,List.append_assoc]⟩
def Da(f:Fl)(rec k:Int):Int×List UInt8:=o_ rec (xA f (dN rec k))
def jd(f:Fl)(rec:Int):(Int×List UInt8)×Nat:=ve (Da f rec 0) (Da f rec 1)
def BN(rec:Int):List Acc:=nS (dN rec 0) 8++nS (dN rec 1) 8
theorem O1(rec:Int)(f:Fl):l9 (ah.cur rec) f=BN rec/\yh (ah.cur rec) f=jd f rec/\uo (l9 (ah.cur rec) f) f=f:=by
 have h0:=aOz (dN rec 0) 8 [] f;have h1:=aOz (dN rec 1) 8 [] f
 have e:l9 (ah.cur rec) f=BN rec:=by
  unfold ah.cur;rw[qL,qL,h0.1,qA,h1.1];simp[l9,BN]
 refine⟨e,?_,?_⟩
 ·unfold ah.cur;rw[tK,tK,h0.1,qA,h0.2,h1.2];rfl
 ·rw[e];unfold BN;rw[aEe,qA,qA]
theorem lQ(rec:Int):(BN rec).length=16:=rfl
def AY(s:Int)(b:List UInt8):Nat->Nat->List Acc
 |0,_=>[]
 |n+1,i=>⟨4,0,s+(i:Int),strOf (jl b i)⟩::AY s b n (i+1)
def dR(s:Int)(b:List UInt8):List Acc:=⟨4,0,s,strOf iK⟩::(AY s b (nsec b-1) 1++[⟨4,0,s,strOf (jl b 0)⟩])
theorem Rw(s:Int)(b:List UInt8):∀ (n i:Nat) (f:Fl),l9 (ah.G5 s b n i) f=AY s b n i
 |0,_,_=>rfl
 |n+1,i,f=>by
  have e:ah.G5 s b (n+1) i=.ask ⟨4,0,s+(i:Int),strOf (jl b i)⟩ fun _=>ah.G5 s b n (i+1):=rfl;rw[e,l9,Rw s b n (i+1)];rfl
theorem OD(s:Int)(b:List UInt8)(f:Fl):l9 (ah.write s b) f=dR s b:=by
 have e:ah.write s b=.ask ⟨4,0,s,strOf iK⟩ fun _=>(ah.G5 s b (nsec b-1) 1).bind fun _=>ah.wr s (strOf (jl b 0)):=rfl;rw[e,l9,qL,Rw];rfl
theorem kJ(s:Int)(b:List UInt8):∀ n i,(AY s b n i).length=n
 |0,_=>rfl
 |n+1,i=>by rw[AY,List.length_cons,kJ]
theorem aHv(s:Int)(b:List UInt8):∀ (n i j:Nat),j<n->(AY s b n i)[j]?=some ⟨4,0,s+((i+j:Nat):Int),strOf (jl b (i+j))⟩
 |0,_,_,h=>by omega
 |n+1,i,0,_=>rfl
 |n+1,i,j+1,h=>by
  rw[AY,List.getElem?_cons_succ,aHv s b n (i+1) j (by omega),show i+1+j=i+(j+1) from by omega]
theorem uG{rec k:Int}(h1:0<=rec)(h2:rec<=3)(h3:0<=k)(h4:k<=1):dN rec k=8*(2*rec+k):=by unfold dN;rw[if_neg (by omega)]
theorem aTr(x y:Int×List UInt8):(ve x y).2=0\/(ve x y).2=1:=by unfold ve;split<;>simp
theorem aSb{rec:Int}{c:ByteArray}{f:Fl}(h1:0<=rec)(h2:rec<=3)(hc:c.size<=2000)(hs:(jd f rec).1.1+1<=1099511627776) :
  l9 (ah.save rec c) f=BN rec++dR (dN rec (1-((jd f rec).2:Int))) (encS rec ((jd f rec).1.1+1) c.data.toList)/\yh (ah.save rec c) f=⟨c,(jd f rec).1.1+1,0⟩:=by
 obtain⟨q1,q2,q3⟩:=O1 rec f
 have h0:¬dN rec 0<0:=by rw[uG h1 h2 (by omega) (by omega)];omega
 unfold ah.save;rw[if_neg h0,if_neg (by omega),qL,tK,q3,q2,q1,if_neg (by omega),qL,tK,OD];simp[l9,yh]
theorem V6{rec:Int}{f:Fl}(h1:0<=rec)(h2:rec<=3):l9 (ah.load rec) f=BN rec/\yh (ah.load rec) f=Fh (jd f rec).1:=by
 obtain⟨q1,q2,q3⟩:=O1 rec f
 have h0:¬dN rec 0<0:=by rw[uG h1 h2 (by omega) (by omega)];omega
 unfold ah.load;rw[if_neg h0,qL,tK,q3,q2,q1];simp[l9,yh]
def Sz(f:Fl):Prop:=f.length=128/\∀ x∈f,x.size=256
theorem Sz.sec{f:Fl}(h:Sz f){s:Int}(h1:0<=s)(h2:s<128):(sec f s).length=256:=by
 obtain⟨k,rfl⟩:∃ k:Nat,s=(k:Int):=⟨s.toNat,by omega⟩
 have hk:k<f.length:=by rw[h.1];omega
 unfold Go.Proofs.YtndpjopifkbgiaaGreatDoor.sec;rw[if_pos (by omega),Int.toNat_natCast,zG,zH hk,Option.getD_some,Array.length_toList];exact h.2 _ (List.getElem_mem hk)
theorem aOu{cut:Int}{b old:List UInt8}(hb:b.length=256)(ho:old.length=256):(zq cut b old).length=256:=by
 unfold zq
 split
 ·exact hb
 ·rw[List.length_append,List.length_take,List.length_drop];omega
theorem aNi{f:Fl}(h:Sz f)(s:Int)(b:ByteArray)(cut:Int):Sz (iO f s b cut):=by
 unfold iO
 split
 ·rename_i q
  refine⟨by rw[List.length_set];exact h.1,fun x hx=>?_⟩
  rcases List.mem_or_eq_of_mem_set hx with hx|rfl
  ·exact h.2 x hx
  ·rw[bM];exact aOu (by rw[Array.length_toList];exact q.2.2) (h.sec q.1 (by have:=h.1;omega))
 ·exact h
theorem uT{f:Fl}(h:Sz f)(cut:Int)(a:Acc):Sz (iR cut a f):=by
 unfold iR
 split
 ·exact h
 ·exact aNi h _ _ _
theorem aTf:∀ {L:List Acc} {f:Fl},Sz f->Sz (uo L f)
 |[],_,h=>h
 |a::L,_,h=>aTf (L:=L) (uT h (-1) a)
theorem pV{f:Fl}(h:Sz f){s:Int}(h1:0<=s)(h2:s<128){b:List UInt8}(hb:b.length=256)(cut t:Int):sec (iO f s (strOf b) cut) t=if t=s then zq cut b (sec f s) else sec f t:=by
 have hl:=h.1;unfold iO;rw[if_pos ⟨h1,by omega,by rw[bM];exact hb⟩,dO]
 by_cases ht:t=s
 ·subst ht;rw[if_pos rfl]
  have e:∀ x:ByteArray,sec (f.set t.toNat x) t=x.data.toList:=fun x=>by
   unfold sec;rw[if_pos (by rw[List.length_set];omega),zG,List.getElem?_set_self (by omega),Option.getD_some]
  rw[e,dO]
 ·rw[if_neg ht];unfold sec;rw[List.length_set]
  split
  ·rw[zG,List.getElem?_set_ne (by omega),<-zG]
  ·rfl
theorem eQ(b:List UInt8)(k:Nat):(jl b k).length=256:=by unfold jl;rw[List.length_append,List.length_replicate,List.length_take];omega
theorem aPc{b:List UInt8}{k j:Nat}(hj:j<256)(h:256*k+j<b.length):(jl b k)[j]?=b[256*k+j]?:=by
 unfold jl;rw[List.getElem?_append_left (by rw[List.length_take,List.length_drop];omega),List.getElem?_take,if_pos hj,List.getElem?_drop]
theorem lI:iK.length=256:=List.length_replicate
theorem aHu{j:Nat}(hj:j<256):iK[j]?=some 0:=by unfold iK;rw[List.getElem?_replicate,if_pos hj]
theorem aSa{f:Fl}(h:Sz f){s:Int}(h1:0<=s)(h2:s<128){b:List UInt8}(hb:b.length=256)(t:Int):sec (iR (-1) ⟨4,0,s,strOf b⟩ f) t=if t=s then b else sec f t:=by
 have:iR (-1) ⟨4,0,s,strOf b⟩ f=iO f s (strOf b) (-1):=rfl;rw[this,pV h h1 h2 hb];have e:zq (-1) b (sec f s)=b:=if_pos (.inl (by decide));rw[e]
theorem aCu{f g:Fl}{s:Int}:∀ n,n<=8->(∀ t,s+((8-n:Nat):Int)<=t->t<s+8->sec f t=sec g t)->Fp f s n=Fp g s n
 |0,_,_=>rfl
 |n+1,hn,h=>by
  rw[Fp,Fp,h _ (by omega) (by omega),aCu n (by omega) (fun t h3 h4=>h t (by omega) h4)]
theorem aEx{f g:Fl}{s:Int}(h:∀ t,s<=t->t<s+8->sec f t=sec g t):xA f s=xA g s:=aCu 8 (Nat.le_refl _) (fun t h1 h2=>h t (by omega) h2)
theorem aSk{f:Fl}(h:Sz f){s:Int}(h1:0<=s)(h2:s+8<=128){j:Nat}(hj:j<256):∀ (n i:Nat),n<=8->i<n->(Fp f s n)[256*i+j]?=(sec f (s+((8-n+i:Nat):Int)))[j]?
 |0,_,_,hi=>by omega
 |n+1,0,hn,_=>by
  rw[Fp,List.getElem?_append_left (by rw[h.sec (by omega) (by omega)];omega)];rw[show 8-(n+1)+0=7-n from by omega];congr 1
  omega
 |n+1,i+1,hn,hi=>by
  have hl:=h.sec (s:=s+((7-n:Nat):Int)) (by omega) (by omega);rw[Fp,List.getElem?_append_right (by rw[hl];omega),hl,show 256*(i+1)+j-256=256*i+j from by omega,aSk h h1 h2 hj n i (by omega) (by omega)];rw[show 8-(n+1)+(i+1)=8-n+i from by omega]
theorem aTz{f:Fl}(h:Sz f){s:Int}(h1:0<=s)(h2:s+8<=128){i j:Nat}(hi:i<8)(hj:j<256):(xA f s)[256*i+j]?=(sec f (s+(i:Int)))[j]?:=by
 have:=aSk h h1 h2 hj 8 i (Nat.le_refl _) hi;rw[show 8-8+i=i from by omega] at this;exact this
theorem aRq{s:Int}{b:List UInt8}:∀ (n i:Nat) {f:Fl},Sz f->0<=s->s+((i+n:Nat):Int)<=128->∀ t:Int,sec (uo (AY s b n i) f) t=if s+(i:Int)<=t/\t<s+((i+n:Nat):Int) then jl b (t-s).toNat else sec f t
 |0,i,f,_,_,_,t=>by rw[if_neg (by omega)];rfl
 | n+1,i,f,h,h1,h2,t=>by
  have h3:=aRq (b:=b) n (i+1) (uT h (-1) ⟨4,0,s+(i:Int),strOf (jl b i)⟩) h1 (by omega) t;rw[AY];show sec (uo (AY s b n (i+1)) (iR (-1) ⟨4,0,s+(i:Int),strOf (jl b i)⟩ f)) t=_;rw[h3,aSa h (by omega) (by omega) (eQ _ _)]
  by_cases ht:t=s+(i:Int)
  ·subst ht;rw[if_neg (by omega),if_pos rfl,if_pos (by omega),show (s+(i:Int)-s).toNat=i from by omega]
  ·rw[if_neg ht]
   by_cases h4:s+(i:Int)<=t/\t<s+((i+(n+1):Nat):Int)
   ·rw[if_pos h4,if_pos (by omega)]
   ·rw[if_neg h4,if_neg (by omega)]
theorem yU{s:Int}{b:List UInt8}{f:Fl}(h:Sz f)(h1:0<=s)(h2:s+(nsec b:Int)<=128)(hb:0<b.length){m:Nat}(hm:1<=m)(hm2:m<=nsec b)(t:Int) :
  sec (uo ((dR s b).take m) f) t=if t=s then iK else if s<t/\t<s+(m:Int) then jl b (t-s).toNat else sec f t:=by
 have hn:1<=nsec b:=by unfold nsec;omega
 obtain⟨m,rfl⟩:∃ k,m=k+1:=⟨m-1,by omega⟩
 have e1:(AY s b (nsec b-1) 1++[(⟨4,0,s,strOf (jl b 0)⟩:Acc)]).take m=AY s b m 1:=by
  apply List.ext_getElem?;intro j;rw[List.getElem?_take]
  by_cases hj:j<m
  ·rw[if_pos hj,List.getElem?_append_left (by rw[kJ];omega),aHv _ _ _ _ _ (by omega),aHv _ _ _ _ _ hj]
  ·rw[if_neg hj,List.getElem?_eq_none (by rw[kJ];omega)]
 rw[dR,List.take_succ_cons,e1];show sec (uo (AY s b m 1) (iR (-1) ⟨4,0,s,strOf iK⟩ f)) t=_;rw[aRq m 1 (uT h _ _) h1 (by omega),aSa h h1 (by omega) lI]
 by_cases ht:t=s
 ·subst ht;rw[if_neg (by omega),if_pos rfl,if_pos rfl]
 ·rw[if_neg ht,if_neg ht]
  by_cases h4:s<t/\t<s+((m+1:Nat):Int)
  ·rw[if_pos h4,if_pos (by omega)]
  ·rw[if_neg h4,if_neg (by omega)]
theorem jE(s:Int)(b:List UInt8)(hb:0<b.length):(dR s b).length=nsec b+1:=by
 have hn:1<=nsec b:=by unfold nsec;omega
 rw[dR,List.length_cons,List.length_append,kJ,List.length_singleton];omega
theorem qO(s:Int)(b:List UInt8)(hb:0<b.length):(dR s b)[nsec b]?=some ⟨4,0,s,strOf (jl b 0)⟩:=by
 have hn:1<=nsec b:=by unfold nsec;omega
 obtain⟨k,hk⟩:∃ k,nsec b=k+1:=⟨nsec b-1,by omega⟩;rw[dR,hk,List.getElem?_cons_succ,List.getElem?_append_right (by rw[kJ];omega),kJ];simp
theorem aKp{s:Int}{b:List UInt8}{m:Nat}(hm:1<=m)(hm2:m<nsec b):(dR s b)[m]?=some ⟨4,0,s+(m:Int),strOf (jl b m)⟩:=by
 obtain⟨k,rfl⟩:∃ k,m=k+1:=⟨m-1,by omega⟩;rw[dR,List.getElem?_cons_succ,List.getElem?_append_left (by rw[kJ];omega),aHv _ _ _ _ _ (by omega),show 1+k=k+1 from by omega]
end
section
structure Rn where
 ig:Int
 content:ByteArray
 cut:Int
 bytes:Int
def EN:Dt:=⟨aS,0,0⟩
def CX(f:Fl)(u:Rn):Fl×Dt×Bool×List Acc:=match bCs u.cut u.bytes (ah.save u.ig u.content) f [] with
 |(f',some o,l)=>(f',o,true,l)
 |(f',none,l)=>(f',EN,false,l)
theorem aNu(f:Fl)(rec:Int):Da f rec ((jd f rec).2:Int)=(jd f rec).1/\(Da f rec (1-((jd f rec).2:Int))).1<=(jd f rec).1.1:=by
 have r0:=(qH rec (xA f (dN rec 0))).1;have r1:=(qH rec (xA f (dN rec 1))).1;change 0<=(Da f rec 0).1 at r0;change 0<=(Da f rec 1).1 at r1;unfold jd ve
 by_cases h:(Da f rec 0).1=0\/(Da f rec 0).1<(Da f rec 1).1
 ·rw[if_pos h];exact⟨rfl,by show (Da f rec 0).1<=(Da f rec 1).1;omega⟩
 ·rw[if_neg h];exact⟨rfl,by show (Da f rec 1).1<=(Da f rec 0).1;omega⟩
theorem aEl(f:Fl)(rec:Int):0<=(jd f rec).1.1/\(jd f rec).1.1<=1099511627776:=by
 have:=qH rec (xA f (dN rec ((jd f rec).2:Int)));change 0<=(Da f rec _).1/\(Da f rec _).1<=_ at this;rwa [(aNu f rec).1] at this
theorem Qs{f g:Fl}{rec:Int}{x:List UInt8}(h:Da g rec ((jd f rec).2:Int)=(jd f rec).1)(hb:Da g rec (1-((jd f rec).2:Int))=((jd f rec).1.1+1,x)):(jd g rec).1=((jd f rec).1.1+1,x):=by
 have hr:=aEl f rec;rcases aTr (Da f rec 0) (Da f rec 1) with hk|hk
 ·have hk':(jd f rec).2=0:=hk;rw[hk'] at h hb;have e0:Da g rec 0=(jd f rec).1:=h;have e1:Da g rec 1=_:=hb
  conv=>lhs;unfold jd
  rw[e0,e1];unfold ve;rw[if_pos (.inr (by dsimp only;omega))]
 ·have hk':(jd f rec).2=1:=hk;rw[hk'] at h hb;have e1:Da g rec 1=(jd f rec).1:=h;have e0:Da g rec 0=_:=hb
  conv=>lhs;unfold jd
  rw[e0,e1];unfold ve;rw[if_neg (by dsimp only;omega)]
def gu(f:Fl)(u:Rn):List UInt8:=encS u.ig ((jd f u.ig).1.1+1) u.content.data.toList
def iw(f:Fl)(u:Rn):Int:=dN u.ig (1-((jd f u.ig).2:Int))
structure Fine(f:Fl)(u:Rn):Prop where
 sz:Sz f
 r0:0<=u.ig
 r3:u.ig<=3
 c:u.content.size<=2000
 s:(jd f u.ig).1.1+1<=1099511627776
section
variable {f:Fl} {u:Rn}
theorem Fine.len(h:Fine f u):0<(gu f u).length/\(gu f u).length<=2048:=by
 have h1:=aX ((jd f u.ig).1.1+1);have h2:=aX (u.content.data.toList.length:Int);have h3:u.content.data.toList.length=u.content.size:=Array.length_toList;have h4:=h.c;unfold gu;rw[lV,oG];omega
theorem Fine.first(h:Fine f u):0<=iw f u/\iw f u+8<=64/\iw f u=16*u.ig+8*(1-((jd f u.ig).2:Int)):=by
 have h1:=h.r0;have h2:=h.r3;have hk:(jd f u.ig).2=0\/(jd f u.ig).2=1:=aTr _ _;unfold iw;rw[uG h1 h2 (by omega) (by omega)];omega
theorem Fine.nsec(h:Fine f u):1<=nsec (gu f u)/\nsec (gu f u)<=8:=by
 have:=h.len;unfold Go.Proofs.YtndpjopifkbgiaaGreatDoor.nsec;omega
theorem aDd(h:Fine f u)(hc:u.cut<0\/17+(nsec (gu f u):Int)<=u.cut):CX f u=(uo (dR (iw f u) (gu f u)) f,⟨u.content,(jd f u.ig).1.1+1,0⟩,true,BN u.ig++dR (iw f u) (gu f u)):=by
 obtain⟨q1,q2⟩:=aSb (c:=u.content) h.r0 h.r3 h.c h.s;have q3:=(O1 u.ig f).2.2;rw[(O1 u.ig f).1] at q3;unfold CX
 rw[aJs,dif_neg (by
  rw[q1,List.length_append,lQ];change ¬(_/\_<16+(dR (iw f u) (gu f u)).length);rw[jE _ _ h.len.1,List.length_nil]
  omega)]
 dsimp only;rw[q1,q2,aEe,q3];rfl
theorem Ik(h:Fine f u)(h0:0<=u.cut)(h1:u.cut<16):CX f u=(f,EN,false,(BN u.ig).take (u.cut.toNat+1)):=by
 obtain⟨q1,q2⟩:=aSb (c:=u.content) h.r0 h.r3 h.c h.s
 have hrd:∀ (s:Int) (n:Nat) (a:Acc),a∈nS s n->a.kind=3:=by
  intro s n
  induction n with
  |zero=>intro a ha;cases ha
  |succ n ih=>
   intro a ha;rcases List.mem_cons.1 ha with rfl|ha
   ·rfl
   ·exact ih a ha
 have hall:∀ a∈BN u.ig,a.kind=3:=fun a ha=>by
  rcases List.mem_append.1 ha with ha|ha
  ·exact hrd _ _ a ha
  ·exact hrd _ _ a ha
 have hid:∀ (L:List Acc) (g:Fl),(∀ a∈L,a.kind=3)->uo L g=g:=by
  intro L
  induction L with
  |nil=>intro g _;rfl
  |cons a L ih=>
   intro g hL;show uo L (iR (-1) a g)=g;rw[show iR (-1) a g=g from if_pos (hL a List.mem_cons_self)];exact ih g fun b hb=>hL b (List.mem_cons_of_mem _ hb)
 have hn:(u.cut-(([]:List Acc).length:Int)).toNat=u.cut.toNat:=by simp
 have hlt:u.cut.toNat<(BN u.ig).length:=by rw[lQ];omega
 unfold CX;rw[aJs,dif_pos ⟨by simpa using h0,by rw[q1,hn,List.length_append];omega⟩];dsimp only
 have ht:(l9 (ah.save u.ig u.content) f).take u.cut.toNat=(BN u.ig).take u.cut.toNat:=by rw[q1,List.take_append_of_le_length (by omega)]
 have ht1:(l9 (ah.save u.ig u.content) f).take (u.cut.toNat+1)=(BN u.ig).take (u.cut.toNat+1):=by rw[q1,List.take_append_of_le_length (by omega)]
 have hg:(l9 (ah.save u.ig u.content) f)[(u.cut-(([]:List Acc).length:Int)).toNat]?=(BN u.ig)[u.cut.toNat]?:=by rw[hn,q1,List.getElem?_append_left hlt]
 rw[List.nil_append];rw[zH (by rw[hn,q1,List.length_append];omega),zH hlt] at hg;rw[Option.some.inj hg];simp only[hn];rw[ht,ht1,hid _ f (fun a ha=>hall a (List.mem_of_mem_take ha))];rw[show iR (max 0 u.bytes) (BN u.ig)[u.cut.toNat] f=f from if_pos (hall _ (List.getElem_mem hlt))]
theorem aZs(h:Fine f u){j:Nat}(hc:u.cut=16+(j:Int))(hj:j<=nsec (gu f u))(a:Acc)(ha:(dR (iw f u) (gu f u))[j]?=some a) :
  CX f u=(iR (max 0 u.bytes) a (uo ((dR (iw f u) (gu f u)).take j) f),EN,false,BN u.ig++(dR (iw f u) (gu f u)).take (j+1)):=by
 obtain⟨q1,q2⟩:=aSb (c:=u.content) h.r0 h.r3 h.c h.s;change l9 (ah.save u.ig u.content) f=BN u.ig++dR (iw f u) (gu f u) at q1;have q3:=(O1 u.ig f).2.2;rw[(O1 u.ig f).1] at q3
 have hn:(u.cut-(([]:List Acc).length:Int)).toNat=16+j:=by simp;omega
 have hlen:(l9 (ah.save u.ig u.content) f).length=16+(nsec (gu f u)+1):=by rw[q1,List.length_append,lQ,jE _ _ h.len.1]
 unfold CX;rw[aJs,dif_pos ⟨by simp;omega,by rw[hn,hlen];omega⟩];dsimp only
 have hg:(l9 (ah.save u.ig u.content) f)[(u.cut-(([]:List Acc).length:Int)).toNat]?=some a:=by
  rw[hn,q1,List.getElem?_append_right (by rw[lQ];omega),lQ,show 16+j-16=j from by omega];exact ha
 rw[zH (by rw[hn,hlen];omega)] at hg;rw[Option.some.inj hg,List.nil_append];simp only[hn]
 have ht:∀ m,(l9 (ah.save u.ig u.content) f).take (16+m)=BN u.ig++(dR (iw f u) (gu f u)).take m:=fun m=>by
  rw[q1,List.take_append,lQ,show 16+m-16=m from by omega,List.take_of_length_le (by rw[lQ];omega)]
 rw[ht j,show 16+j+1=16+(j+1) from by omega,ht (j+1),aEe,q3]
theorem aKn(h:Fine f u){j:Nat}(hj:j<=nsec (gu f u))(a:Acc)(ha:(dR (iw f u) (gu f u))[j]?=some a)(cut:Int):Sz (iR cut a (uo ((dR (iw f u) (gu f u)).take j) f)) /\
  ∀ t,(t<iw f u\/iw f u+8<=t)->sec (iR cut a (uo ((dR (iw f u) (gu f u)).take j) f)) t=sec f t:=by
 have hl:=h.len;have hf:=h.first;have hs:=h.nsec;have hz:Sz (uo ((dR (iw f u) (gu f u)).take j) f):=aTf h.sz
 refine⟨uT hz _ _,fun t ht=>?_⟩
 have hb:∃ (m:Nat) (b:List UInt8),m<8/\b.length=256/\a=⟨4,0,iw f u+(m:Int),strOf b⟩:=by
  rcases Nat.eq_zero_or_pos j with rfl|hp
  ·rw[dR,List.getElem?_cons_zero] at ha;cases ha
   exact⟨0,iK,by omega,lI,by simp⟩
  ·rcases Nat.lt_or_eq_of_le hj with hlt|rfl
   ·rw[aKp hp hlt] at ha;cases ha
    exact⟨j,_,by omega,eQ _ _,rfl⟩
   ·rw[qO _ _ hl.1] at ha;cases ha
    exact⟨0,jl (gu f u) 0,by omega,eQ _ _,by simp⟩
 obtain⟨m,b,hm,hbl,rfl⟩:=hb;have e:iR cut ⟨4,0,iw f u+(m:Int),strOf b⟩ (uo ((dR (iw f u) (gu f u)).take j) f)=iO (uo ((dR (iw f u) (gu f u)).take j) f) (iw f u+(m:Int)) (strOf b) cut:=rfl;rw[e,pV hz (by omega) (by omega) hbl,if_neg (by omega)];rcases Nat.eq_zero_or_pos j with rfl|hp
 ·rfl
 ·rw[yU h.sz hf.1 (by omega) hl.1 hp hj,if_neg (by omega),if_neg (by omega)]
theorem GH(h:Fine f u):uo (dR (iw f u) (gu f u)) f=iR (-1) ⟨4,0,iw f u,strOf (jl (gu f u) 0)⟩ (uo ((dR (iw f u) (gu f u)).take (nsec (gu f u))) f):=by
 have hl:=h.len
 have e:dR (iw f u) (gu f u)=(dR (iw f u) (gu f u)).take (nsec (gu f u))++[⟨4,0,iw f u,strOf (jl (gu f u) 0)⟩]:=by
  apply List.ext_getElem?;intro i;rcases Nat.lt_trichotomy i (nsec (gu f u)) with hi|rfl|hi
  ·rw[List.getElem?_append_left (by rw[List.length_take,jE _ _ hl.1];omega),List.getElem?_take,if_pos hi]
  ·rw[qO _ _ hl.1,List.getElem?_append_right (by rw[List.length_take];omega),List.length_take,jE _ _ hl.1,Nat.min_eq_left (by omega),Nat.sub_self];rfl
  ·rw[List.getElem?_eq_none (by rw[jE _ _ hl.1];omega),List.getElem?_eq_none (by rw[List.length_append,List.length_take,jE _ _ hl.1,List.length_singleton];omega)]
 conv=>lhs;rw[e,aEe]
 rfl
theorem last_at(h:Fine f u)(cut:Int)(i:Nat):let W:=xA (iR cut ⟨4,0,iw f u,strOf (jl (gu f u) 0)⟩ (uo ((dR (iw f u) (gu f u)).take (nsec (gu f u))) f)) (iw f u)
  (i<(gu f u).length->(cut<0\/256<=cut\/(i:Int)<cut\/256<=i)->W[i]?=(gu f u)[i]?)/\(0<=cut->cut<256->cut<=i->i<256->W[i]?=some 0):=by
 intro W;have hl:=h.len;have hf:=h.first;have hs:=h.nsec;have hz:Sz (uo ((dR (iw f u) (gu f u)).take (nsec (gu f u))) f):=aTf h.sz;have hz2:=uT hz cut ⟨4,0,iw f u,strOf (jl (gu f u) 0)⟩
 have KW:∀ t,sec (iR cut ⟨4,0,iw f u,strOf (jl (gu f u) 0)⟩ (uo ((dR (iw f u) (gu f u)).take (nsec (gu f u))) f)) t=if t=iw f u then zq cut (jl (gu f u) 0) iK else if iw f u<t/\t<iw f u+(nsec (gu f u):Int) then jl (gu f u) (t-iw f u).toNat else sec f t:=fun t=>by
  have e:iR cut ⟨4,0,iw f u,strOf (jl (gu f u) 0)⟩ (uo ((dR (iw f u) (gu f u)).take (nsec (gu f u))) f)=iO (uo ((dR (iw f u) (gu f u)).take (nsec (gu f u))) f) (iw f u) (strOf (jl (gu f u) 0)) cut:=rfl;rw[e,pV hz hf.1 (by omega) (eQ _ _)];have w:=fun t=>yU h.sz hf.1 (b:=gu f u) (by omega) hl.1 hs.1 (Nat.le_refl _) t;rw[w t,w (iw f u),if_pos rfl]
  split
  ·rfl
  ·rfl
 have hat:i<2048->W[i]?=(sec (iR cut ⟨4,0,iw f u,strOf (jl (gu f u) 0)⟩ (uo ((dR (iw f u) (gu f u)).take (nsec (gu f u))) f)) (iw f u+((i / 256:Nat):Int)))[i % 256]?:=fun hi=>by
  have:=aTz hz2 hf.1 (by omega) (i:=i / 256) (j:=i % 256) (by omega) (by omega);rw[show 256*(i / 256)+i % 256=i from by omega] at this;exact this
 refine⟨fun hi hcut=>?_,fun c0 c1 c2 c3=>?_⟩
 ·rw[hat (by omega),KW]
  by_cases h0:i<256
  ·rw[if_pos (by omega),show i % 256=i from by omega];unfold zq
   by_cases hc:cut<0\/((jl (gu f u) 0).length:Int)<=cut
   ·rw[if_pos hc,aPc h0 (by omega),Nat.mul_zero,Nat.zero_add]
   ·rw[if_neg hc];rw[eQ] at hc;rw[List.getElem?_append_left (by rw[List.length_take,eQ];omega),List.getElem?_take,if_pos (by omega),aPc h0 (by omega),Nat.mul_zero,Nat.zero_add]
  ·rw[if_neg (by omega),if_pos (by unfold nsec;omega),show (iw f u+((i / 256:Nat):Int)-iw f u).toNat=i / 256 from by omega,aPc (by omega) (by omega),show 256*(i / 256)+i % 256=i from by omega]
 ·rw[hat (by omega),KW,if_pos (by omega),show i % 256=i from by omega];unfold zq;rw[if_neg (by rw[eQ];omega),List.getElem?_append_right (by rw[List.length_take,eQ];omega),List.length_take,eQ,List.getElem?_drop,aHu (by omega)]
inductive Td(f:Fl)(u:Rn)(x:Int×List UInt8):Prop
 |old (h:x=Da f u.ig (1-((jd f u.ig).2:Int)))
 |bad (h:x=(0,[]))
 |new (h:x=((jd f u.ig).1.1+1,u.content.data.toList))
 |odd (s:List UInt8) (h:x=((jd f u.ig).1.1+1,s)) (hl:s.length<=2000) (hc:∀ i,i<(encS u.ig ((jd f u.ig).1.1+1) s).length->(encS u.ig ((jd f u.ig).1.1+1) s)[i]?=some 0\/(i<(gu f u).length/\(encS u.ig ((jd f u.ig).1.1+1) s)[i]?=(gu f u)[i]?))
theorem aKw(h:Fine f u){cut:Int}(hc:cut<0\/256<=cut):o_ u.ig (xA (iR cut ⟨4,0,iw f u,strOf (jl (gu f u) 0)⟩ (uo ((dR (iw f u) (gu f u)).take (nsec (gu f u))) f)) (iw f u))=((jd f u.ig).1.1+1,u.content.data.toList):=by
 have hr:=aEl f u.ig;have hb:=last_at h cut;obtain⟨W,hW⟩:∃ W,xA (iR cut ⟨4,0,iw f u,strOf (jl (gu f u) 0)⟩ (uo ((dR (iw f u) (gu f u)).take (nsec (gu f u))) f)) (iw f u)=W:=⟨_,rfl⟩;rw[hW] at hb ⊢
 have e:W=gu f u++W.drop (gu f u).length:=by
  have:W.take (gu f u).length=gu f u:=by
   apply List.ext_getElem?;intro i;rw[List.getElem?_take]
   split
   ·rename_i hi;exact (hb i).1 hi (by omega)
   ·rw[List.getElem?_eq_none (by omega)]
  conv=>lhs;rw[<-List.take_append_drop (gu f u).length W,this]
 rw[e];exact aTp _ _ _ _ (by omega) h.s (by rw[Array.length_toList];exact h.c)
theorem aHt{g:Fl}(hz:Sz g){s:Int}(h1:0<=s)(h2:s+8<=128)(h:(sec g s)[0]?=some 0)(rec:Int):o_ rec (xA g s)=(0,[]):=by
 have h0:=aTz hz h1 h2 (i:=0) (j:=0) (by omega) (by omega);rw[show s+((0:Nat):Int)=s from by omega,h] at h0
 cases hw:xA g s with
 |nil=>rw[hw] at h0;cases h0
 |cons b l=>
  rw[hw] at h0;cases h0;exact bDe _ _
theorem aUh(h:Fine f u){j:Nat}(hj:j<=nsec (gu f u))(a:Acc)(ha:(dR (iw f u) (gu f u))[j]?=some a){cut:Int}(h0:0<=cut):Td f u (Da (iR cut a (uo ((dR (iw f u) (gu f u)).take j) f)) u.ig (1-((jd f u.ig).2:Int))):=by
 have hl:=h.len;have hf:=h.first;have hs:=h.nsec;have hr:=aEl f u.ig;have hz:Sz (uo ((dR (iw f u) (gu f u)).take j) f):=aTf h.sz;have hD:∀ g,Da g u.ig (1-((jd f u.ig).2:Int))=o_ u.ig (xA g (iw f u)):=fun g=>rfl;rw[hD];rcases Nat.eq_zero_or_pos j with rfl|hp
 ·rw[dR,List.getElem?_cons_zero] at ha;cases ha;have e:iR cut ⟨4,0,iw f u,strOf iK⟩ (uo ((dR (iw f u) (gu f u)).take 0) f)=iO f (iw f u) (strOf iK) cut:=rfl;have KW:=pV h.sz hf.1 (by omega) (b:=iK) lI cut;rw[e]
  by_cases hc:cut=0
  ·subst hc;refine .old ?_;rw[hD];congr 1;refine aEx fun t h3 h4=>?_;rw[KW]
   split
   ·rename_i ht;subst ht;unfold zq;rw[if_neg (by rw[lI];decide)];simp
   ·rfl
  ·refine .bad (aHt (aNi h.sz _ _ _) hf.1 (by omega) ?_ _);rw[KW,if_pos rfl];unfold zq
   split
   ·exact aHu (by omega)
   ·rename_i hc2;have:iK.length=256:=lI;rw[List.getElem?_append_left (by rw[List.length_take];omega),List.getElem?_take,if_pos (by omega)];exact aHu (by omega)
 ·rcases Nat.lt_or_eq_of_le hj with hlt|rfl
  ·rw[aKp hp hlt] at ha;cases ha;refine .bad (aHt (uT hz _ _) hf.1 (by omega) ?_ _);have e:iR cut ⟨4,0,iw f u+(j:Int),strOf (jl (gu f u) j)⟩ (uo ((dR (iw f u) (gu f u)).take j) f)=iO (uo ((dR (iw f u) (gu f u)).take j) f) (iw f u+(j:Int)) (strOf (jl (gu f u) j)) cut:=rfl;rw[e,pV hz (by omega) (by omega) (eQ _ _),if_neg (by omega),yU h.sz hf.1 (by omega) hl.1 hp hj,if_pos rfl];exact aHu (by omega)
  ·rw [qO _ _ hl.1] at ha;cases ha
   by_cases hc:256<=cut
   ·exact .new (aKw h (.inr hc))
   ·by_cases hcb:cut.toNat<=(gu f u).length
    ·have hb:=last_at h cut;obtain⟨W,hW⟩:∃ W,xA (iR cut ⟨4,0,iw f u,strOf (jl (gu f u) 0)⟩ (uo ((dR (iw f u) (gu f u)).take (nsec (gu f u))) f)) (iw f u)=W:=⟨_,rfl⟩;rw[hW] at hb ⊢;rcases bDf (rec:=u.ig) (seq:=(jd f u.ig).1.1+1) (c:=u.content.data.toList) (W:=W) (cut:=cut.toNat) (by omega) h.s (by rw[Array.length_toList];exact h.c) hcb (fun i hi=>(hb i).1 (by omega) (by omega)) (fun i hi hi2=>(hb i).2 h0 (by omega) (by omega) hi2) with hd|⟨s,hd,hsl,hw⟩
     ·exact .bad hd
     ·have hle:(encS u.ig ((jd f u.ig).1.1+1) s).length<=(gu f u).length:=bCv _ _ hsl;refine .odd s hd (by have:=h.c;rw[Array.length_toList] at hsl;change s.length<=u.content.size at hsl;omega) fun i hi=>?_
      have hwi:(encS u.ig ((jd f u.ig).1.1+1) s)[i]?=W[i]?:=by rw[<-hw,List.getElem?_take,if_pos hi]
      rw[hwi]
      by_cases hi2:(i:Int)<cut\/256<=i
      ·exact .inr ⟨by omega,(hb i).1 (by omega) (by omega)⟩
      ·exact .inl ((hb i).2 h0 (by omega) (by omega) (by omega))
    ·refine .new ?_;have hb:=last_at h cut;obtain⟨W,hW⟩:∃ W,xA (iR cut ⟨4,0,iw f u,strOf (jl (gu f u) 0)⟩ (uo ((dR (iw f u) (gu f u)).take (nsec (gu f u))) f)) (iw f u)=W:=⟨_,rfl⟩;rw[hW] at hb ⊢
     have e:W=gu f u++W.drop (gu f u).length:=by
      have:W.take (gu f u).length=gu f u:=by
       apply List.ext_getElem?;intro i;rw[List.getElem?_take]
       split
       ·rename_i hi;exact (hb i).1 hi (by omega)
       ·rw[List.getElem?_eq_none (by omega)]
      conv=>lhs;rw[<-List.take_append_drop (gu f u).length W,this]
     rw[e];exact aTp _ _ _ _ (by omega) h.s (by rw[Array.length_toList];exact h.c)
end
end
namespace Pv
def Rz:Spec:=aZ true fun xs=>match xs with
 |[.w (.one (.lit (.string s))),.w (.one (.lit (.int .i64 c)))]=>some (0<=c/\c<=1000000/\s.size<=1,oq (strOf (Lib.repeatL s.data.toList c.toNat)))
 |_=>none
theorem UI{I:World->Prop}:aj Tryz.prog I 141 Rz:=by
 refine aY (aF Tryz.func141 (by kernel_rfl) rfl) (fun xs p r hg hp w ok0 vs hI hv=>?_)
 split at hg
 ·rename_i s c;cases hg
  match vs,hv with
  |[v1,v2],⟨k1,k2,_⟩=>
   obtain rfl:=k1.dn
   obtain rfl:=k2.dn
   obtain⟨h1,h2,h3⟩:=hp;obtain⟨n,rfl⟩:∃ n:Nat,c=(n:Int):=⟨c.toNat,by omega⟩;refine (aCx s n w (by omega) (by have:=Nat.mul_le_mul h3 (show n<=1000000 by omega);omega)).mono ?_;rintro e w' ⟨rfl,hB⟩
   exact⟨_,rfl,Ext.of_below hB,.w (.one (.lit rfl))⟩
 ·cases hg
def S_:Spec:=aZ true fun xs=>match xs with
 |[.w (.one (.lit (.string s))),.w (.one (.lit (.string p)))]=>some (True,qc (Lib.hasPrefix s.data.toList p.data.toList))
 |_=>none
theorem UQ{I:World->Prop}:aj Tryz.prog I 170 S_:=by
 refine aY (aF Tryz.func170 (by kernel_rfl) rfl) (fun xs p r hg hp w ok0 vs hI hv=>?_)
 split at hg
 ·rename_i s p;cases hg
  match vs,hv with
  |[v1,v2],⟨k1,k2,_⟩=>
   obtain rfl:=k1.dn
   obtain rfl:=k2.dn
   refine (aJj s p w).mono ?_;rintro e w' ⟨rfl,rfl⟩
   exact⟨_,rfl,Ext.refl _,.w (.one (.lit rfl))⟩
 ·cases hg
theorem vX(s p:List UInt8):Lib.hasPrefix s p=decide (s.take p.length=p):=by
 unfold Lib.hasPrefix
 by_cases h:s.take p.length=p
 ·rw[decide_eq_true h,List.isPrefixOf_iff_prefix];rw[<-h];exact List.take_prefix _ _
 ·rw[decide_eq_false h]
  cases hb:p.isPrefixOf s with
  |false=>rfl
  |true=>exact absurd (List.prefix_iff_eq_take.1 (List.isPrefixOf_iff_prefix.1 hb)).symm h
theorem aGy(rec k:Int):-1<=dN rec k/\dN rec k<=56:=by unfold dN;split<;>omega
theorem bCm{I:World->Prop}(hI0:∀ w w',Ext w w'->I w->I w')(rec k:Int):gB Tryz.prog I 134 true [gy rec,gy k] (gy (dN rec k)):=by
 have M:kw Tryz.prog I (find []):=⟨bV (fun p hp=>by cases hp),fC⟩;refine bI Tryz.func134 rfl rfl hI0 (fun A hS hn hI=>?_);refine aB M hI hn (by rfl) (by kernel_rfl) ?_ ?_
 ·simp
 refine aJ ?_;refine aB M hI hn (by rfl) (by kernel_rfl) ?_ ?_
 ·simp
 refine aG (by rfl) (fun hc=>?_) (fun hc=>?_)
 ·refine aB M hI hn (by rfl) (by kernel_rfl) ?_ ?_
  ·simp
  refine aK (fun a w hg=>⟨.inr rfl,_,?_,hg⟩);refine aC (by rfl) (by simp) (by rfl) (by rfl) ?_
  have h:rec<0\/3<rec\/k<0\/1<k:=by simp at hc;omega
  unfold dN;rw[if_pos h]
 ·refine aO ?_;change h_ _ _ _ _ _;refine aB M hI hn (by rfl) (by kernel_rfl) ?_ ?_
  ·simp
  refine aK (fun a w hg=>⟨.inr rfl,_,?_,hg⟩);refine aC (by rfl) (by simp) (by rfl) (by rfl) ?_
  have h:¬(rec<0\/3<rec\/k<0\/1<k):=by simp at hc;omega
  refine congrArg gy ?_;unfold dN;rw[if_neg h];simp only[IntKind.wrap_i64];omega
theorem aUz{I:World->Prop}(hI0:∀ w w',Ext w w'->I w->I w')(rec k:Int):gB Tryz.prog I 115 true [gy rec,gy k] (gy (dN rec k)):=by
 have M:kw Tryz.prog I (find []):=⟨bV (fun p hp=>by cases hp),fC⟩;refine bI Tryz.func115 rfl rfl hI0 (fun A hS hn hI=>?_);refine aB M hI hn (by rfl) (by kernel_rfl) ?_ ?_
 ·simp
 refine aJ ?_;refine aB M hI hn (by rfl) (by kernel_rfl) ?_ ?_
 ·simp
 refine aG (by rfl) (fun hc=>?_) (fun hc=>?_)
 ·refine aB M hI hn (by rfl) (by kernel_rfl) ?_ ?_
  ·simp
  refine aK (fun a w hg=>⟨.inr rfl,_,?_,hg⟩);refine aC (by rfl) (by simp) (by rfl) (by rfl) ?_
  have h:rec<0\/3<rec\/k<0\/1<k:=by simp at hc;omega
  unfold dN;rw[if_pos h]
 ·refine aO ?_;change h_ _ _ _ _ _;refine aB M hI hn (by rfl) (by kernel_rfl) ?_ ?_
  ·simp
  refine aK (fun a w hg=>⟨.inr rfl,_,?_,hg⟩);refine aC (by rfl) (by simp) (by rfl) (by rfl) ?_
  have h:¬(rec<0\/3<rec\/k<0\/1<k):=by simp at hc;omega
  refine congrArg gy ?_;unfold dN;rw[if_neg h];simp only[IntKind.wrap_i64];omega
theorem aJz(X Y:List UInt8):ou X.length (o5 X) (o5 Y)=o5 (X++Y):=by
 funext i;unfold ou o5
 by_cases h:i<X.length
 ·rw[if_pos h,zG,zG,List.getElem?_append_left h]
 ·rw[if_neg h,zG,zG,List.getElem?_append_right (by omega)]
theorem aEn{n:Nat}{f g:Nat->List PC}(h1:∀ i,(f i).all (dH false)=true)(h2:∀ i,(g i).all (dH false)=true):∀ i,(ou n f g i).all (dH false)=true:=fun i=>by
 unfold ou
 split
 ·exact h1 i
 ·exact h2 _
theorem aHe(rec seq:Int)(c:ByteArray)(h1:iq rec)(h2:iq seq)(hc:c.size<=3000):TW Tryz.prog a_ 143 [gy rec,gy seq,oq c] 5 1 (encS rec seq c.data.toList).length (o5 (encS rec seq c.data.toList)):=by
 have M:=aAD
 have hb1:Tryz.prog.types[5].bytes=1:=by kernel_rfl
 have hs1:Tryz.prog.types[5].size=1:=by kernel_rfl
 have hw1:=aX seq;have hw2:=aX rec;have hw3:=fG c.data.toList;have hcl:c.data.toList.length=c.size:=Array.length_toList;refine aEd Tryz.func143 rfl rfl bQ (fun A hS hn hI=>?_);refine aB M hI hn (by rfl) (by kernel_rfl) ?_ ?_
 ·simp
 refine aB M hI hn (by rfl) (by kernel_rfl) ?_ ?_
 ·simp
  refine⟨h2,by omega,?_⟩
  rw[hb1];omega
 refine aI (s':=⟨[(0,none,gy rec),(7,none,dm (.ow 1001 0 1 0 (vw seq c.data.toList).length))],[(1001,none,0,.arr 5 1 (vw seq c.data.toList).length (o5 (vw seq c.data.toList)))]⟩) (fun a w hg=>(hg.reset (kT:=[0,7]) (kO:=[1001]) (by rfl) ?_).same ?_ ?_) ?_
 ·simp only[All,and_true,List.append_nil];exact fun i _=>aEn (fun _=>rfl) (fun _=>rfl) i
 ·refine .cons rfl (.cons ?_ .nil);rw[hs1,vw,List.length_append]
 ·refine .cons (.arr ?_ (fun i hi=>?_)) .nil
  ·rw[vw,List.length_append]
  ·simp only[Nat.zero_add];exact congrFun (aJz (d_ seq) (bU c.data.toList)) i
 have hel:(vw seq c.data.toList).length<=4000:=by unfold vw;rw[List.length_append];omega
 have hdl:=jJ 5 [d_ rec,vw seq c.data.toList];refine aB M hI hn (by rfl) (by kernel_rfl) ?_ ?_
 ·simp
  exact⟨h1,by omega,by omega⟩
 refine aB M hI hn (by rfl) (by kernel_rfl) ?_ ?_
 ·simp;rw[hb1];omega
 refine aI (s':=⟨[(6,none,dm (.ow 1001 0 1 0 (encS rec seq c.data.toList).length))],[(1001,none,0,.arr 5 1 (encS rec seq c.data.toList).length (o5 (encS rec seq c.data.toList)))]⟩) (fun a w hg=>(hg.reset (kT:=[6]) (kO:=[1001]) (by rfl) ?_).same ?_ ?_) ?_
 ·simp only[All,and_true,List.append_nil,List.nil_append,List.cons_append];exact fun i _=>aEn (fun _=>rfl) (fun _=>rfl) i
 ·refine .cons ?_ .nil;rw[encS,List.length_append,hdl];exact congrArg (fun n=>dm (.ow 1001 0 n 0 ((vw seq c.data.toList).length+16))) hs1
 ·refine .cons (.arr ?_ (fun i hi=>?_)) .nil
  ·rw[encS,List.length_append,hdl]
  ·simp only[eF];exact congrFun (aJz (vw seq c.data.toList) (mY 5 [d_ rec,vw seq c.data.toList])) i
 refine aK (fun a w hg=>⟨.inr rfl,_,?_,hg⟩);refine aIh (x:=1001) (ai:=0) (g:=none) (f:=?_) (out:=?_) ?_ ?_ ?_ ?_ ?_ trivial ?_;rotate_left 2
 ·rfl
 ·simp
 ·rfl
 ·rfl
 ·rfl
 intro i hi
 exact⟨rfl,rfl⟩
def SG:Spec:=aCr fun xs=>match xs with
 |[.w (.one (.lit (.int .i64 rec))),.w (.one (.lit (.int .i64 seq))),.w (.one (.lit (.string c)))]=>some (iq rec/\iq seq/\c.size<=3000,5,1,(encS rec seq c.data.toList).length,o5 (encS rec seq c.data.toList))
 |_=>none
theorem Vq:aj Tryz.prog a_ 143 SG:=by
 refine zJ (aF Tryz.func143 (by kernel_rfl) rfl) (fun xs p e n len f' hg hp=>?_)
 split at hg
 ·rename_i rec seq c;cases hg;exact aHe rec seq c hp.1 hp.2.1 hp.2.2
 ·cases hg
def aIc:Spec:=aZ true fun xs=>match xs with
 |[.w (.one (.lit (.int .i64 rec))),.w (.one (.lit (.int .i64 k)))]=>some (True,gy (dN rec k))
 |_=>none
theorem LU:aj Tryz.prog a_ 134 aIc:=by
 refine aY (aF Tryz.func134 (by kernel_rfl) rfl) (fun xs p r hg hp=>?_)
 split at hg
 ·cases hg;exact bCm bQ _ _
 ·cases hg
theorem aZf:aj Tryz.prog a_ 115 aIc:=by
 refine aY (aF Tryz.func115 (by kernel_rfl) rfl) (fun xs p r hg hp=>?_)
 split at hg
 ·cases hg;exact aUz bQ _ _
 ·cases hg
def OT:List (Nat×Spec):=(143,SG)::(170,S_)::(141,Rz)::(134,aIc)::(115,aIc)::aCA
theorem Gm:∀ p∈OT,aj Tryz.prog a_ p.1 p.2:=by
 intro p hp;simp only[OT,List.mem_cons] at hp;rcases hp with rfl|rfl|rfl|rfl|rfl|hp
 ·exact Vq
 ·exact UQ
 ·exact UI
 ·exact LU
 ·exact aZf
 ·exact Vy p hp
theorem aHZ:kw Tryz.prog a_ (find OT):=⟨bV Gm,fC⟩
def aCW(x:Int×List UInt8):PV:=.w (.agg [.lit (.int .i64 x.1),.lit (.string (strOf x.2))])
theorem aWr(rec:Int)(b:List UInt8)(h1:iq rec)(hb:b.length<4611686018427387904):gB Tryz.prog a_ 166 true [gy rec,o7 b] (aCW (o_ rec b)):=by
 have M:=aHZ;have hle:=pO b;have hrg:=iJ b;refine bI Tryz.func166 rfl rfl bQ (fun A hS hn hI=>?_);refine aB M hI hn (by rfl) (by kernel_rfl) ?_ ?_
 ·simp
 refine aB M hI hn (by rfl) (by kernel_rfl) ?_ ?_
 ·simp;exact hb
 refine aI (s':=⟨[(0,none,gy rec),(1,none,o7 b),(4,none,dm (.pt 0 0 0)),(5,none,gy (b_ b).1),(6,none,gy ((b_ b).2.1:Int)),(7,none,gy (b_ b).2.2)],[(0,none,0,.box 205 [.lit (.int .i64 0),.lit (.string aS)])]⟩) (fun a w hg=>(hg.reset (kT:=[0,1,4,5,6,7]) (kO:=[0]) (by rfl) (by simp)).same ?_ ?_) ?_
 ·rw[eF];exact .cons rfl (.cons rfl (.cons rfl (.cons rfl (.cons rfl (.cons rfl .nil)))))
 ·exact .cons (.box rfl) .nil
 obtain⟨m,hm⟩:∃ m,o_ rec b=m:=⟨_,rfl⟩;rw[hm];have hcon:iZ (b.drop (b_ b).2.1)=qo b:=rfl;have hcode:=aWb (b.drop (b_ b).2.1)
 have hpos:(qo b).2.2=0->(qo b).2.1≠0:=fun h0 h1=>by
  have he:iZ (b.drop (b_ b).2.1)=((qo b).1,(qo b).2.1,0):=by rw[hcon,<-h0]
  have h2:=(L9 he).1;rw[h1,List.take_zero] at h2;have h3:=congrArg List.length h2;have h4:=aX ((qo b).1.length:Int);unfold bU at h3;rw[List.length_append] at h3
  have h5:(d_ ((qo b).1.length:Int)).length=0:=by simp at h3;omega
  have h6:=nN (b.drop (b_ b).2.1);rw[hcon,List.length_drop] at h6;have h7:=aHz ((qo b).1.length:Int) (by omega) (by omega);omega
 unfold o_ at hm;have hsz:=nN (b.drop (b_ b).2.1);rw[hcon,List.length_drop] at hsz;rw[hcon] at hcode;generalize hg:b_ b=g at *;obtain⟨q,k,e⟩:=g;dsimp only at *;refine aJ ?_;refine aB M hI hn (by rfl) (by kernel_rfl) ?_ ?_
 ·simp
 refine aG (by rfl) (fun hc=>?_) (fun hc=>?_)
 ·refine aB M hI hn (by rfl) (by kernel_rfl) ?_ ?_
  ·simp
  refine aK (fun a w hg=>⟨.inr rfl,_,?_,hg⟩);refine aC (by rfl) (by simp) (by rfl) (by rfl) ?_
  have h:e≠0\/q<1\/1099511627776<q:=by simp at hc;omega
  rw[if_pos h] at hm;rw[<-hm];rfl
 ·have h:¬(e≠0\/q<1\/1099511627776<q):=by simp at hc;omega
  rw[if_neg h] at hm;refine aO ?_;change h_ _ _ _ _ _;refine aB M hI hn (by rfl) (by kernel_rfl) ?_ ?_
  ·simp
   refine⟨hle.1,?_⟩
   unfold jB;rw[dZ];omega
  have Vp:(rowB ((b.length:Int)-(k:Int)).toNat fun i=>o5 b ((k:Int).toNat+i))=b.drop k:=by
   rw[show ((b.length:Int)-(k:Int)).toNat=b.length-k from by omega,show (k:Int).toNat=k from by omega,kV (by omega)];exact List.take_of_length_le (by rw[List.length_drop];exact Nat.le_refl _)
  refine aI (s':=⟨[(0,none,gy rec),(1,none,o7 b),(4,none,dm (.pt 0 0 0)),(5,none,gy q),(7,none,gy (qo b).2.2),(8,none,oq (strOf (qo b).1)),(9,none,gy ((qo b).2.1:Int))],[(0,none,0,.box 205 [.lit (.int .i64 0),.lit (.string aS)])]⟩) (fun a w hg=>(hg.reset (kT:=[0,1,4,5,7,8,9]) (kO:=[0]) (by rfl) (by simp)).same ?_ ?_) ?_
  ·rw[Vp,hcon];exact .cons rfl (.cons rfl (.cons rfl (.cons rfl (.cons rfl (.cons rfl (.cons rfl .nil))))))
  ·exact .cons (.box rfl) .nil
  generalize qo b=c at *;obtain⟨s,n,e2⟩:=c;dsimp only at *;have VG:(strOf s).size=s.length:=bM s;refine aJ ?_;refine aB M hI hn (by rfl) (by kernel_rfl) ?_ ?_
  ·simp;intro he hs;rw[VG] at hs ⊢
   exact⟨h1,by unfold iq;omega,by omega⟩
  refine aG (by rfl) (fun hc=>?_) (fun hc=>?_)
  ·refine aB M hI hn (by rfl) (by kernel_rfl) ?_ ?_
   ·simp
   refine aK (fun a w hg=>⟨.inr rfl,_,?_,hg⟩);refine aC (by rfl) (by simp) (by rfl) (by rfl) ?_;simp[vX,eF,dO,VG] at hc
   have h2:e2≠0\/2000<s.length\/b.take (encS rec q s).length≠encS rec q s:=by
    rcases hc with ((h3|h3)|h3)|h3
    ·exact .inl h3
    ·exact .inr (.inl (by omega))
    ·exact .inr (.inr h3)
    ·by_cases h4:e2=0
     ·exact absurd h3 (hpos h4)
     ·exact .inl h4
   rw[if_pos h2] at hm;rw[<-hm];rfl
  ·refine aO ?_;change h_ _ _ _ _ _;refine aB M hI hn (by rfl) (by kernel_rfl) ?_ ?_
   ·simp
   refine aK (fun a w hg=>⟨.inr rfl,_,?_,hg⟩);refine aC (by rfl) (by simp) (by rfl) (by rfl) ?_;simp[vX,eF,dO,VG] at hc
   have h2:¬(e2≠0\/2000<s.length\/b.take (encS rec q s).length≠encS rec q s):=by
    rintro (h3|h3|h3)
    ·exact h3 hc.1.1.1
    ·omega
    ·exact h3 hc.1.2
   rw[if_neg h2] at hm;rw[<-hm];rfl
def SH:Spec:=aZ true fun xs=>match xs with
 |[.w (.one (.lit (.int .i64 rec))),v]=>(match yR v with
  |some (p,l)=>some (p/\iq rec/\l.length<4611686018427387904,aCW (o_ rec l))
  |none=>none)
 |_=>none
theorem Vs:aj Tryz.prog a_ 166 SH:=by
 refine aY (aF Tryz.func166 (by kernel_rfl) rfl) (fun xs p r hg hp=>?_)
 split at hg
 ·rename_i rec v
  cases hq:yR v with
  |none=>rw[hq] at hg;cases hg
  | some q=>
   obtain⟨p0,l⟩:=q;rw[hq] at hg;cases hg
   exact (aWr rec l hp.2.1 hp.2.2).args fun C vs hv=>by
    match vs,hv with
    |[x0,x],⟨h0,h1,_⟩=>exact⟨h0,vH hq hp.1 h1,trivial⟩
 ·cases hg
theorem aQn{α:Type}(g:α->List Value)(k:Nat):∀ (l:List α) (vs:List Value),(∀ a∈l,(g a).length=k)->vs.length=l.length*k->(∀ (i:Nat) (hi:i<l.length),(vs.drop (i*k)).take k=g l[i])->vs=l.flatMap g
 |[],vs,_,hl,_=>by
  have:vs.length=0:=by simpa using hl
  rw[List.eq_nil_of_length_eq_zero this];rfl
 | a::l,vs,hg,hl,h=>by
  have h0:vs.take k=g a:=by
   have:=h 0 (by simp);rw[Nat.zero_mul,List.drop_zero] at this;exact this
  have ih:=aQn g k l (vs.drop k) (fun b hb=>hg b (List.mem_cons_of_mem _ hb)) (by rw[List.length_drop,hl,List.length_cons,Nat.succ_mul];omega) (fun i hi=>by
   have:=h (i+1) (by simpa using hi);rw[Nat.succ_mul] at this;rw[List.drop_drop,Nat.add_comm]
   exact this)
  rw[List.flatMap_cons,<-ih,<-h0];exact (List.take_append_drop k vs).symm
def lG(r:jc):List PC:=[.lit (.int .i64 r.val),.lit (.string r.bytes)]
def Ew(l:List jc):Nat->List PC:=fun i=>lG (l.getD i ⟨0,aS⟩)
def IZ:List PC->jc
 |[.lit (.int _ n),.lit (.string s)]=>⟨n,s⟩
 |_=>⟨0,aS⟩
def KR:List PC->Bool
 |[.lit (.int .i64 _),.lit (.string _)]=>true
 |_=>false
theorem KQ{l:List PC}(h:KR l=true):l=lG (IZ l):=by
 unfold KR at h
 split at h
 ·rfl
 ·cases h
def rQ(n:Nat)(f:Nat->List PC):List jc:=(List.range n).map fun i=>IZ (f i)
def aBw(n:Nat)(f:Nat->List PC):Prop:=∀ i,i<n->KR (f i)=true
@[simp] theorem kU(n:Nat)(f:Nat->List PC):(rQ n f).length=n:=by simp[rQ]
theorem Ia{n:Nat}{f:Nat->List PC}(h:aBw n f):∀ i,i<n->f i=Ew (rQ n f) i:=fun i hi=>by
 unfold Ew rQ;rw[zG,List.getElem?_map,List.getElem?_range hi];exact KQ (h i hi)
@[simp] theorem Ns(n:Nat)(l:List jc):aBw n (Ew l):=fun _ _=>rfl
@[simp] theorem SL(l:List jc):rQ l.length (Ew l)=l:=by
 apply List.ext_getElem (by simp);intro i h1 h2;simp only[rQ,List.getElem_map,List.getElem_range,Ew,lG,IZ];rw[zG,zH h2];rfl
theorem aZi{C:Ctx}{n:Nat}{f:Nat->List PC}{v:Value}(h:R C (.sl 2 n f) [v])(hf:aBw n f):Reads C.w 2 v (rQ n f).length (logCells (rQ n f)):=by
 cases h with
 | sl hr hb he=>
  rename_i vs
  have:vs=logCells (rQ n f):=by
   refine aQn jc.cells 2 (rQ n f) vs (fun a _=>rfl) (by rw[kU];exact hr.1) (fun i hi=>?_);rw[kU] at hi;have h1:=he i hi;rw[Ia hf i hi] at h1;unfold Ew at h1;rw[zG,zH (by rw[kU];exact hi)] at h1;generalize (rQ n f)[i]'(by rw[kU];exact hi)=r at h1 ⊢;generalize (vs.drop (i*2)).take 2=xs at h1 ⊢
   cases h1 with
   | cons k1 h1=>cases h1 with
    |cons k2 h1=>
     cases h1;cases k1;cases k2;rfl
  rw[<-this,kU];exact hr
def U8:PC->Option (Prop×List jc)
 |.sl 2 n f=>some (aBw n f,rQ n f)
 |.lit (.slice none 0 0)=>some (True,[])
 |_=>none
theorem Oc{C:Ctx}{c:PC}{v:Value}{p:Prop}{l:List jc}(h:U8 c=some (p,l))(hp:p)(hr:R C c [v]):Reads C.w 2 v l.length (logCells l):=by
 unfold U8 at h
 split at h
 ·cases h;exact aZi hr hp
 ·cases h;cases hr;exact Reads.nil _ 2
 ·cases h
def rW(a:Acc):List PC:=[.lit (.int .i64 a.kind),.lit (.int .i64 a.ay),.lit (.int .i64 a.cell),.lit (.string a.bytes)]
def xB(O:List Acc->Option jc){α:Type}(p:ah α)(l:List Acc)(q:ah α)(k:List Acc):Prop:=l <+: k/\go O p l=go O q k
theorem xB.start(O:List Acc->Option jc){α:Type}(p:ah α)(l:List Acc):xB O p l p l:=⟨List.prefix_refl _,rfl⟩
theorem xB.step{α β:Type}{O:List Acc->Option jc}{p:ah α}{l k:List Acc}{q:ah β}{f:β->ah α}(h:xB O p l (q.bind f) k):xB O p l (f (go O q k).1) (go O q k).2:=
 ⟨h.1.trans (uD O q k),h.2.trans (wU O q f k)⟩
theorem xB.dh{α β:Type}{O:List Acc->Option jc}{p:ah α}{l k:List Acc}{q:ah β}{f:β->ah α}(h:xB O p l (q.bind f) k):∀ g,k <+: g->g <+: (go O q k).2->O g=none->l <+: g/\g <+: (go O p l).2:=fun g h1 h2 _=>by
 refine⟨h.1.trans h1,h2.trans ?_⟩
 rw[h.step.2];exact uD _ _ _
theorem Ug{I:World->Prop}:kw Tryz.prog I (find ([]:List (Nat×Spec))):=⟨fun f sp h=>(by cases h),(by kernel_rfl)⟩
theorem UK{I:World->Prop}(c:Int):Bl Tryz.prog I 165 (ah.rd c) [.w (.one .dv),gy c] oq:=by
 intro O l;have M:=Ug (I:=I);refine jT Tryz.func165 rfl rfl rfl (fun A hn hI=>?_);refine aB M hI hn (by rfl) (by kernel_rfl) ?_ ?_
 ·simp
 refine aB M hI hn (by rfl) (by kernel_rfl) ?_ ?_
 ·exact⟨aIr (nC _) (nC _),trivial⟩
 refine aK (fun a w hg=>⟨.inr rfl,_,⟨?_,(fun o ho=>by cases ho),fun p hp=>?_⟩,hg⟩);rotate_left 1
 ·cases hp;rfl
 refine aC (by rfl) (by simp) (by rfl) (by rfl) ?_;rfl
theorem G6{I:World->Prop}(c:Int)(b:ByteArray):Bl Tryz.prog I 140 (ah.wr c b) [.w (.one .dv),gy c,oq b] (fun _=>.kz []):=by
 intro O l;have M:=Ug (I:=I);refine jT Tryz.func140 rfl rfl rfl (fun A hn hI=>?_);refine aP M hI hn (by rfl) (by kernel_rfl) ?_ ?_
 ·exact⟨aIr (nC _) (nC _),trivial⟩
 intro a w hg
 refine⟨.inl rfl,_,⟨?_,(fun o ho=>by cases ho),fun p hp=>?_⟩,hg⟩
 rotate_left 1
 ·cases hp;rfl
 refine aC (by rfl) (by simp) (by rfl) (by rfl) ?_;rfl
def MI:List PV->Option (Prop×ah ByteArray×(ByteArray->PV))
 |[.w (.one (.lit (.int .i64 c)))]=>some (True,ah.rd c,oq)
 |_=>none
def MG:List PV->Option (Prop×ah Unit×(Unit->PV))
 |[.w (.one (.lit (.int .i64 c))),.w (.one (.lit (.string b)))]=>some (True,ah.wr c b,fun _=>.kz [])
 |_=>none
theorem Ol{I:World->Prop}:aj Tryz.prog I 165 (kW MI):=
 nU (aF Tryz.func165 (by kernel_rfl) rfl) (fun ys c p v h _=>by
  unfold MI at h
  split at h
  ·cases h;exact (UK _).toB
  ·cases h)
theorem OE{I:World->Prop}:aj Tryz.prog I 140 (kW MG):=
 nU (aF Tryz.func140 (by kernel_rfl) rfl) (fun ys c p v h _=>by
  unfold MG at h
  split at h
  ·cases h;exact (G6 _ _).toB
  ·cases h)
def Bd(a b:Int):Int:=if a<b then -1 else if b<a then 1 else 0
theorem PX{I:World->Prop}(hI0:∀ w w',Ext w w'->I w->I w')(a:Int):gB Tryz.prog I 197 true [gy a] (qc false):=by
 have M:=Ug (I:=I);refine bI Tryz.func197 rfl rfl hI0 (fun A hS hn hI=>?_);refine aB M hI hn (by rfl) (by kernel_rfl) ?_ ?_
 ·simp
 refine aB M hI hn (by rfl) (by kernel_rfl) ?_ ?_
 ·simp
 refine aK (fun a w hg=>⟨.inr rfl,_,?_,hg⟩);refine aC (by rfl) (by simp) (by rfl) (by rfl) ?_;simp
def SC:Spec:=aZ true fun xs=>match xs with
 |[.w (.one (.lit (.int .i64 _)))]=>some (True,qc false)
 |_=>none
theorem Ui:aj Tryz.prog a_ 197 SC:=by
 refine aY (aF Tryz.func197 (by kernel_rfl) rfl) (fun xs p r hg hp=>?_)
 split at hg
 ·cases hg;exact PX bQ _
 ·cases hg
def aLC:List (Nat×Spec):=[(197,SC)]
theorem aLE:kw Tryz.prog a_ (find aLC):=⟨bV (fun p hp=>by
 obtain rfl:=List.mem_singleton.1 hp
 exact Ui),fC⟩
theorem Qx(a b:Int):gB Tryz.prog a_ 185 true [gy a,gy b] (gy (Bd a b)):=by
 have M:=aLE;refine bI Tryz.func185 rfl rfl bQ (fun A hS hn hI=>?_);refine aB M hI hn (by rfl) (by kernel_rfl) ?_ ?_
 ·simp
 refine aB M hI hn (by rfl) (by kernel_rfl) ?_ ?_
 ·simp
 refine aB M hI hn (by rfl) (by kernel_rfl) ?_ ?_
 ·simp
 refine aJ ?_;refine aB M hI hn (by rfl) (by kernel_rfl) ?_ ?_
 ·simp
 refine aG (by rfl) (fun hc=>?_) (fun hc=>?_)
 ·cases hc
 refine aO ?_;change h_ _ _ _ _ _;refine aJ ?_;refine aB M hI hn (by rfl) (by kernel_rfl) ?_ ?_
 ·simp
 refine aG (by rfl) (fun hc=>?_) (fun hc=>?_)
 ·cases hc
 refine aO ?_;change h_ _ _ _ _ _;refine aJ ?_;refine aB M hI hn (by rfl) (by kernel_rfl) ?_ ?_
 ·simp
 refine aG (by rfl) (fun hc=>?_) (fun hc=>?_)
 ·refine aB M hI hn (by rfl) (by kernel_rfl) ?_ ?_
  ·simp
  refine aK (fun a w hg=>⟨.inr rfl,_,?_,hg⟩);refine aC (by rfl) (by simp) (by rfl) (by rfl) ?_;unfold Bd;rw[if_pos (of_decide_eq_true hc)]
 ·refine aO ?_;change h_ _ _ _ _ _;have h1:¬a<b:=of_decide_eq_false hc;refine aJ ?_;refine aB M hI hn (by rfl) (by kernel_rfl) ?_ ?_
  ·simp
  refine aG (by rfl) (fun hc=>?_) (fun hc=>?_)
  ·refine aB M hI hn (by rfl) (by kernel_rfl) ?_ ?_
   ·simp
   refine aK (fun a w hg=>⟨.inr rfl,_,?_,hg⟩);refine aC (by rfl) (by simp) (by rfl) (by rfl) ?_;unfold Bd;rw[if_neg h1,if_pos (of_decide_eq_true hc)]
  ·refine aO ?_;change h_ _ _ _ _ _;refine aB M hI hn (by rfl) (by kernel_rfl) ?_ ?_
   ·simp
   refine aK (fun a w hg=>⟨.inr rfl,_,?_,hg⟩);refine aC (by rfl) (by simp) (by rfl) (by rfl) ?_;unfold Bd;rw[if_neg h1,if_neg (of_decide_eq_false hc)]
def SI:Spec:=aZ true fun xs=>match xs with
 |[.w (.one (.lit (.int .i64 a))),.w (.one (.lit (.int .i64 b)))]=>some (True,gy (Bd a b))
 |_=>none
theorem Qy:aj Tryz.prog a_ 185 SI:=by
 refine aY (aF Tryz.func185 (by kernel_rfl) rfl) (fun xs p r hg hp=>?_)
 split at hg
 ·cases hg;exact Qx _ _
 ·cases hg
def aLB:List (Nat×Spec):=[(185,SI)]
theorem aLD:kw Tryz.prog a_ (find aLB):=⟨bV (fun p hp=>by
 obtain rfl:=List.mem_singleton.1 hp
 exact Qy),fC⟩
def arL(a:Int)(s:ByteArray):PV:=.w (.agg [.lit (.int .i64 a),.lit (.string s)])
theorem aRb(a b:Int)(s t:ByteArray):gB Tryz.prog a_ 167 true [arL a s,arL b t] (gy (Bd a b)):=by
 have M:=aLD;refine bI Tryz.func167 rfl rfl bQ (fun A hS hn hI=>?_);refine aB M hI hn (by rfl) (by kernel_rfl) ?_ ?_
 ·simp
 refine aB M hI hn (by rfl) (by kernel_rfl) ?_ ?_
 ·simp
 refine aK (fun a w hg=>⟨.inr rfl,_,?_,hg⟩);refine aC (by rfl) (by simp) (by rfl) (by rfl) ?_;rfl
def Gu:Spec:=aZ true fun xs=>match xs with
 |[.w (.agg [.lit (.int .i64 a),.lit (.string _)]),.w (.agg [.lit (.int .i64 b),.lit (.string _)])]=>some (True,gy (Bd a b))
 |_=>none
theorem RN:aj Tryz.prog a_ 167 Gu:=by
 refine aY (aF Tryz.func167 (by kernel_rfl) rfl) (fun xs p r hg hp=>?_)
 split at hg
 ·cases hg;exact aRb _ _ _ _
 ·cases hg
def OQ:List (Nat×Spec):=(165,kW MI)::(140,kW MG)::(167,Gu)::(166,SH)::OT
theorem Gl:∀ p∈OQ,aj Tryz.prog a_ p.1 p.2:=by
 intro p hp;simp only[OQ,List.mem_cons] at hp;rcases hp with rfl|rfl|rfl|rfl|hp
 ·exact Ol
 ·exact OE
 ·exact RN
 ·exact Vs
 ·exact Gm p hp
theorem aHY:kw Tryz.prog a_ (find OQ):=⟨bV Gl,fC⟩
def aZm(rec:Int):Nat->Int×List UInt8->Int×List UInt8->ah ((Int×List UInt8)×Nat)
 |0,_,_=>ah.cur rec
 |1,x,_=>(ah.su (dN rec 1) 8 []).bind fun b=>.ret (ve x (o_ rec b))
 |_,x,y=>.ret (ve x y)
def rdO(x y:Int×List UInt8):Wr:=[(0,none,0,.box 205 [.lit (.int .i64 0),.lit (.string aS)]),(1000,none,0,.box 233 [.lit (.int .i64 x.1),.lit (.string (strOf x.2)),.lit (.int .i64 y.1),.lit (.string (strOf y.2))])]
def rdT(rec:Int)(k:Nat):List (Nat×Option Bool×PV):=[(0,none,.w (.one .dv)),(1,none,gy rec),(4,none,dm (.pt 0 0 0)),(5,none,gy 0),(6,none,dm (.pt 1000 0 0)),(11,none,gy k)]
def Gi(O:List Acc->Option jc)(dh:List Acc->Prop)(rec:Int)(k:Nat)(x y:Int×List UInt8)(lk:List Acc):St:=⟨rdT rec k,(dx,none,0,.dev O dh lk)::rdO x y⟩
def Zg(O:List Acc->Option jc)(dh:List Acc->Prop)(rec:Int)(k:Nat)(x y:Int×List UInt8)(i:Nat)(b:List UInt8)(lk:List Acc):St:=
 ⟨(7,none,gy k)::(8,none,dm (.ow 5000 0 1 0 b.length))::(14,none,gy i)::rdT rec k,(dx,none,0,.dev O dh lk)::(5000,none,0,.arr 5 1 b.length (o5 b))::rdO x y⟩
def Ig(rec:Int):Nat->Int×List UInt8->List UInt8->ah ((Int×List UInt8)×Nat)
 |0,_,a=>aZm rec 1 (o_ rec a) (0,[])
 |_,x,b=>.ret (ve x (o_ rec b))
theorem aZl{rec:Int}{k:Nat}(hk:k<2)(x y:Int×List UInt8):aZm rec k x y=(ah.su (dN rec k) 8 []).bind (Ig rec k x):=by
 rcases (by omega:k=0\/k=1) with rfl|rfl<;>rfl
theorem aUs{F:Int}{i:Nat}(hi:i<8)(b:List UInt8){α:Type}(f:List UInt8->ah α):(ah.su F (8-i) b).bind f=(ah.rd (F+i)).bind fun s=>(ah.su F (8-(i+1)) (b++s.data.toList)).bind f:=by
 have e:8-i=(7-i)+1:=by omega
 rw[e,ah.su,ah.bind_assoc,show 7-(7-i)=i from by omega,show 8-(i+1)=7-i from by omega]
theorem aTs(b:List UInt8)(i:Nat):∀ x∈o5 b i,dH false x=true:=fun x hx=>by
 change x∈[_] at hx;rw[List.mem_singleton] at hx;subst hx;rfl
theorem aLs(b:List UInt8):(rowB b.length fun i=>o5 b (0+i))=b:=by simp only[Nat.zero_add];exact eF b
theorem bDo(a b:Int):decide (Bd a b<0)=decide (a<b):=by
 unfold Bd
 by_cases h:a<b
 ·rw[if_pos h,decide_eq_true h];rfl
 ·rw[if_neg h,decide_eq_false h]
  split<;>rfl
theorem aUm(rec:Int)(hr:iq rec):bEx Tryz.prog a_ 135 (ah.cur rec) [.w (.one .dv),gy rec] (fun p=>.kz [.agg [.lit (.int .i64 p.1.1),.lit (.string (strOf p.1.2))],.one (.lit (.int .i64 (p.2:Int)))]):=by
 intro O l hO;have M:=aHY;refine jT Tryz.func135 rfl rfl rfl (fun A hn hI=>?_);generalize hstp:(fun h=>l <+: h/\h <+: (go O (ah.cur rec) l).2)=dh;refine aB M hI hn (by rfl) (by kernel_rfl) ?_ ?_
 ·simp
 refine aB M hI hn (by rfl) (by kernel_rfl) ?_ ?_
 ·simp
 refine aJ ?_;refine aB M hI hn (by rfl) (by kernel_rfl) ?_ ?_
 ·simp
 refine bF ?_;refine aI (s':=Gi O dh rec 0 (0,[]) (0,[]) l) (fun a w hg=>(hg.reset (kT:=[0,1,4,5,6,11]) (kO:=[900000,0,1000]) (by rfl) (by simp)).same ?_ ?_) ?_
 ·exact .cons rfl (.cons rfl (.cons rfl (.cons rfl (.cons rfl (.cons rfl .nil)))))
 ·exact .cons (.dev rfl) (.cons (.box rfl) (.cons (.box rfl) .nil))
 refine iH 2 (fun k s=>∃ x y lk,s=Gi O dh rec k x y lk/\xB O (ah.cur rec) l (aZm rec k x y) lk) 0 ⟨_,_,_,rfl,xB.start _ _ _⟩ (by omega) (fun k s hJ hk=>?_);obtain⟨x,y,lk,rfl,hL⟩:=hJ;refine aB M hI hn (by rfl) (by kernel_rfl) ?_ ?_
 ·simp
 refine aJ ?_;refine aG (by rfl) (fun hc=>?_) (fun hc=>?_)
 ·have hk2:k<2:=by have:=of_decide_eq_true hc;omega
  refine aO ?_;change h_ _ _ _ _ _;refine aJ ?_;refine bF ?_;refine aB M hI hn (by rfl) (by kernel_rfl) ?_ ?_
  ·simp
  refine aB M hI hn (by rfl) (by kernel_rfl) ?_ ?_
  ·simp
  refine aJ ?_;refine aB M hI hn (by rfl) (by kernel_rfl) ?_ ?_
  ·simp
  refine bF ?_;refine aI (s':=Zg O dh rec k x y 0 [] lk) (fun a w hg=>((hg.nilRow (x:=5000) (e:=5) (n:=1) (t:=8) (by rfl) (by rfl)).reset (kT:=[7,8,14,0,1,4,5,6,11]) (kO:=[900000,5000,0,1000]) (by rfl) (by simp)).same ?_ ?_) ?_
  ·exact .cons rfl (.cons rfl (.cons rfl (.cons rfl (.cons rfl (.cons rfl (.cons rfl (.cons rfl (.cons rfl .nil))))))))
  ·exact .cons (.dev rfl) (.cons (.arr rfl (fun i hi=>absurd hi (by simp))) (.cons (.box rfl) (.cons (.box rfl) .nil)))
  rw[aZl hk2] at hL;generalize hf:Ig rec k x=f at hL;refine iH 8 (fun i s=>∃ b lj,s=Zg O dh rec k x y i b lj/\b.length<=i*1000000/\xB O (ah.cur rec) l ((ah.su (dN rec k) (8-i) b).bind f) lj) 0 ⟨_,_,rfl,by simp,hL⟩ (by omega) (fun i s hJ hi=>?_);obtain⟨b,lj,rfl,hb,hL2⟩:=hJ;refine aB M hI hn (by rfl) (by kernel_rfl) ?_ ?_
  ·simp
  refine aJ ?_;refine aG (by rfl) (fun hc=>?_) (fun hc=>?_)
  ·have hi2:i<8:=by have:=of_decide_eq_true hc;omega
   refine aO ?_;change h_ _ _ _ _ _;refine aJ ?_;refine bF ?_;refine aB M hI hn (by rfl) (by kernel_rfl) ?_ ?_
   ·simp
   have hix:IntKind.i64.wrap (dN rec k+(i:Int))=dN rec k+(i:Int):=by have:=aGy rec k;exact dY (by omega) (by omega)
   rw[aUs hi2] at hL2;have hs:=hO.ans (lj++[⟨3,0,dN rec k+(i:Int),aS⟩]);change ((go O (ah.rd (dN rec k+(i:Int))) lj).1).size<=1000000 at hs;have hL3:=hL2.step;refine aP M hI hn (by rfl) (by kernel_rfl) ?_ ?_
   ·simp;rw[hix]
    refine⟨hO,fun h h1 h2 h3=>?_,by omega⟩
    rw[<-hstp];exact hL2.dh h h1 h2 h3
   change h_ _ _ _ _ _;refine aP M hI hn (by rfl) (by kernel_rfl) ?_ ?_
   ·simp
   intro a w hg
   refine⟨i+1,_,by omega,by omega,⟨_,_,rfl,?_,hL3⟩,(hg.reset (kT:=[7,8,14,0,1,4,5,6,11]) (kO:=[900000,5000,0,1000]) (by rfl) ?_).same ?_ ?_⟩
   ·rw[List.length_append,Array.length_toList];change b.length+((go O (ah.rd (dN rec k+(i:Int))) lj).1).size<=_;omega
   ·simp only[All,and_true,List.append_nil,List.nil_append];exact fun i _=>aEn (fun _=>rfl) (fun _=>rfl) i
   ·refine .cons rfl (.cons ?_ (.cons (by rw[fP i (by omega)]) (.cons rfl (.cons rfl (.cons rfl (.cons rfl (.cons rfl (.cons rfl .nil))))))));rw[hix,List.length_append,Array.length_toList];rfl
   ·refine .cons (.dev ?_) (.cons (.arr ?_ (fun j hj=>?_)) (.cons (.box rfl) (.cons (.box rfl) .nil)))
    ·show (go O (ah.rd (IntKind.i64.wrap (dN rec k+(i:Int)))) lj).2=_;rw[hix]
    ·rw[hix,List.length_append,Array.length_toList];rfl
    ·rw[hix];exact congrFun (aJz b _) j
  ·have hi2:i=8:=by have:=of_decide_eq_false hc;omega
   subst hi2;have hL3:xB O (ah.cur rec) l (f b) lj:=hL2;subst hf;refine gQ ?_;change h_ _ _ _ _ _;rcases (by omega:k=0\/k=1) with rfl|rfl
   ·refine aP M hI hn (by rfl) (by kernel_rfl) ?_ ?_
    ·simp
     exact⟨fun i _ x hx=>aTs b i x hx,hr,by omega⟩
    change h_ _ _ _ _ _;refine aP M hI hn (by rfl) (by kernel_rfl) ?_ ?_
    ·simp
    intro a w hg
    refine⟨1,_,by omega,by omega,⟨o_ rec b,y,_,rfl,hL3⟩,(hg.reset (kT:=[0,1,4,5,6,11]) (kO:=[900000,0,1000]) (by rfl) (by simp)).same ?_ ?_⟩
    ·exact .cons rfl (.cons rfl (.cons rfl (.cons rfl (.cons rfl (.cons rfl .nil)))))
    ·rw[aLs];exact .cons (.dev rfl) (.cons (.box rfl) (.cons (.box rfl) .nil))
   ·refine aP M hI hn (by rfl) (by kernel_rfl) ?_ ?_
    ·simp
     exact⟨fun i _ x hx=>aTs b i x hx,hr,by omega⟩
    change h_ _ _ _ _ _;refine aP M hI hn (by rfl) (by kernel_rfl) ?_ ?_
    ·simp
    intro a w hg
    refine⟨2,_,by omega,by omega,⟨x,o_ rec b,_,rfl,hL3⟩,(hg.reset (kT:=[0,1,4,5,6,11]) (kO:=[900000,0,1000]) (by rfl) (by simp)).same ?_ ?_⟩
    ·exact .cons rfl (.cons rfl (.cons rfl (.cons rfl (.cons rfl (.cons rfl .nil)))))
    ·rw[aLs];exact .cons (.dev rfl) (.cons (.box rfl) (.cons (.box rfl) .nil))
 ·have hk2:k=2:=by have:=of_decide_eq_false hc;omega
  subst hk2;have hE:go O (ah.cur rec) l=(ve x y,lk):=hL.2;refine gQ ?_;change h_ _ _ _ _ _;refine aB M hI hn (by rfl) (by kernel_rfl) ?_ ?_
  ·simp
  refine aJ ?_;refine aB M hI hn (by rfl) (by kernel_rfl) ?_ ?_
  ·simp
  refine aG (by rfl) (fun hc=>?_) (fun hc=>?_)
  ·refine aB M hI hn (by rfl) (by kernel_rfl) ?_ ?_
   ·simp
   have h:x.1=0\/x.1<y.1:=by
    have h1:(bif x.1==0 then true else decide (Bd x.1 y.1<0))=true:=hc;rw[bDo] at h1
    by_cases h0:x.1=0
    ·exact .inl h0
    ·rw[show (x.1==0)=false from beq_eq_false_iff_ne.2 h0] at h1;exact .inr (of_decide_eq_true h1)
   have e:ve x y=(y,1):=by unfold ve;rw[if_pos h]
   refine aK (fun a w hg=>⟨.inr rfl,_,⟨?_,(fun o ho=>by cases ho),fun p hp=>?_⟩,hg⟩);rotate_left 1
   ·cases hp;rw[hE];rfl
   refine aC (by rfl) (by simp) (by rfl) (by rfl) ?_;rw[hE,e];rfl
  ·refine aO ?_;change h_ _ _ _ _ _;refine aB M hI hn (by rfl) (by kernel_rfl) ?_ ?_
   ·simp
   have h:¬(x.1=0\/x.1<y.1):=by
    have h1:(bif x.1==0 then true else decide (Bd x.1 y.1<0))=false:=hc;rw[bDo] at h1;rintro (h0|h0)
    ·rw[show (x.1==0)=true from beq_iff_eq.2 h0] at h1;cases h1
    ·rw[decide_eq_true h0] at h1
     cases hb:(x.1==0)<;>rw[hb] at h1<;>cases h1
   have e:ve x y=(x,0):=by unfold ve;rw[if_neg h]
   refine aK (fun a w hg=>⟨.inr rfl,_,⟨?_,(fun o ho=>by cases ho),fun p hp=>?_⟩,hg⟩);rotate_left 1
   ·cases hp;rw[hE];rfl
   refine aC (by rfl) (by simp) (by rfl) (by rfl) ?_;rw[hE,e];rfl
def aCF(p:(Int×List UInt8)×Nat):PV:=.kz [.agg [.lit (.int .i64 p.1.1),.lit (.string (strOf p.1.2))],.one (.lit (.int .i64 (p.2:Int)))]
def bDj:List PV->Option (Prop×ah ((Int×List UInt8)×Nat)×((Int×List UInt8)×Nat->PV))
 |[.w (.one (.lit (.int .i64 rec)))]=>some (iq rec,ah.cur rec,aCF)
 |_=>none
theorem aOx:aj Tryz.prog a_ 135 (kW bDj):=
 nU (aF Tryz.func135 (by kernel_rfl) rfl) (fun ys c p v h hc=>by
  unfold bDj at h
  split at h
  ·cases h;exact aUm _ hc
  ·cases h)
def ZK:List (Nat×Spec):=(135,kW bDj)::OQ
theorem Tu:∀ p∈ZK,aj Tryz.prog a_ p.1 p.2:=by
 intro p hp;rcases List.mem_cons.1 hp with rfl|hp
 ·exact aOx
 ·exact Gl p hp
theorem ZL:kw Tryz.prog a_ (find ZK):=⟨bV Tu,fC⟩
def Yo(o:Dt):List PC:=[.lit (.string o.content),.lit (.int .i64 o.seq),.lit (.int .i64 o.err)]
def EP(o:Dt):PV:=.w (.agg (Yo o))
theorem KG(rec:Int)(hr:iq rec):bEx Tryz.prog a_ 98 (ah.load rec) [.w (.one .dv),gy rec] EP:=by
 intro O l hO;have M:=ZL;refine jT Tryz.func98 rfl rfl rfl (fun A hn hI=>?_)
 have hp:ah.load rec=if dN rec 0<0 then .ret ⟨aS,0,1⟩ else (ah.cur rec).bind fun p=>.ret (Fh p.1):=rfl
 generalize ah.load rec=pr at *;generalize hstp:(fun h=>l <+: h/\h <+: (go O pr l).2)=dh;refine aB M hI hn (by rfl) (by kernel_rfl) ?_ ?_
 ·simp
 refine aJ ?_;refine aB M hI hn (by rfl) (by kernel_rfl) ?_ ?_
 ·simp
 refine aG (by rfl) (fun hc=>?_) (fun hc=>?_)
 ·have h:dN rec 0<0:=of_decide_eq_true hc;rw[if_pos h] at hp
  have hE:go O pr l=(⟨aS,0,1⟩,l):=by rw[hp];rfl
  refine aB M hI hn (by rfl) (by kernel_rfl) ?_ ?_
  ·simp
  refine aK (fun a w hg=>⟨.inr rfl,_,⟨?_,(fun o ho=>by cases ho),fun p hp=>?_⟩,hg⟩);rotate_left 1
  ·cases hp;rw[hE];rfl
  refine aC (by rfl) (by simp) (by rfl) (by rfl) ?_;rw[hE];rfl
 ·have h:¬dN rec 0<0:=of_decide_eq_false hc;rw[if_neg h] at hp;refine aO ?_;change h_ _ _ _ _ _
  have hL0:xB O pr l ((ah.cur rec).bind fun p=>.ret (Fh p.1)) l:=by rw[hp];exact xB.start _ _ _
  have hL:=hL0.step;refine aB M hI hn (by rfl) (by kernel_rfl) ?_ ?_
  ·simp
   refine⟨⟨hO,hr⟩,fun h h1 h2 h3=>?_⟩
   rw[<-hstp];exact hL0.dh h h1 h2 h3
  obtain⟨q,lq,hq⟩:∃ q lq,go O (ah.cur rec) l=(q,lq):=⟨_,_,rfl⟩;rw[hq] at hL;have hE:go O pr l=(Fh q.1,lq):=hL.2;refine aI (s':=⟨[(4,none,dm (.pt 0 0 0)),(5,none,dm (.pt 3006 0 0))],[(dx,none,0,.dev O dh lq),(0,none,0,.box 164 [.lit (.string aS),.lit (.int .i64 0),.lit (.int .i64 0)]),(3006,none,0,.box 205 [.lit (.int .i64 q.1.1),.lit (.string (strOf q.1.2))])]⟩) (fun a w hg=>(hg.reset (kT:=[4,5]) (kO:=[900000,0,3006]) (by rfl) (by simp)).same ?_ ?_) ?_
  ·exact .cons rfl (.cons rfl .nil)
  ·refine .cons (.dev ?_) (.cons (.box rfl) (.cons (.box ?_) .nil))
   ·show (go O (ah.cur rec) l).2=_;rw[hq]
   ·show[PC.lit (.int .i64 (go O (ah.cur rec) l).1.1.1),PC.lit (.string (strOf (go O (ah.cur rec) l).1.1.2))]=_
    rw[hq]
  refine aJ ?_;refine aB M hI hn (by rfl) (by kernel_rfl) ?_ ?_
  ·simp
  refine aG (by rfl) (fun hc=>?_) (fun hc=>?_)
  ·refine aB M hI hn (by rfl) (by kernel_rfl) ?_ ?_
   ·simp
   have h0:q.1.1=0:=by simpa using hc
   have e:Fh q.1=⟨aS,0,13⟩:=if_pos h0;refine aK (fun a w hg=>⟨.inr rfl,_,⟨?_,(fun o ho=>by cases ho),fun p hp=>?_⟩,hg⟩);rotate_left 1
   ·cases hp;rw[hE];rfl
   refine aC (by rfl) (by simp) (by rfl) (by rfl) ?_;rw[hE,e];rfl
  ·refine aO ?_;change h_ _ _ _ _ _;refine aB M hI hn (by rfl) (by kernel_rfl) ?_ ?_
   ·simp
   have h0:¬q.1.1=0:=by simpa using hc
   have e:Fh q.1=⟨strOf q.1.2,q.1.1,0⟩:=if_neg h0;refine aK (fun a w hg=>⟨.inr rfl,_,⟨?_,(fun o ho=>by cases ho),fun p hp=>?_⟩,hg⟩);rotate_left 1
   ·cases hp;rw[hE];rfl
   refine aC (by rfl) (by simp) (by rfl) (by rfl) ?_;rw[hE,e];rfl
end Pv

end Go.Proofs.YtndpjopifkbgiaaGreatDoor
