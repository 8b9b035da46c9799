/-.-/
import Derived.Test.YtndpjopifkbgiaaGreatDoorMsK
import Derived.Test.YtndpjopifkbgiaaGreatDoorMsC
import Derived.Test.YtndpjopifkbgiaaGreatDoorMsJ
import Derived.Test.YtndpjopifkbgiaaGreatDoorMsA
set_option maxRecDepth 100000
set_option maxHeartbeats 4000000
namespace Go.Proofs.YtndpjopifkbgiaaGreatDoor
open Go.RowKit
section
def dP(rec area:Int):Int:=if rec<0\/3<rec\/area<0\/1<area then -1 else 8*(2*rec+area)
def x_(seq:Int)(c:List UInt8):List UInt8:=b_ seq++bT c
def encS(rec seq:Int)(c:List UInt8):List UInt8:=x_ seq c++jS 5 [b_ rec,x_ seq c]
def rf(b:List UInt8):List UInt8×Nat×Int:=jG (b.drop (d_ b).2.1)
def oh(rec:Int)(b:List UInt8):Int×List UInt8:=
 if (d_ b).2.2≠0\/(d_ b).1<1\/1099511627776<(d_ b).1 then (0,[]) else
 if (rf b).2.2≠0\/2000<(rf b).1.length\/b.take (encS rec (d_ b).1 (rf b).1).length≠encS rec (d_ b).1 (rf b).1 then (0,[]) else ((d_ b).1,(rf b).1)
def ui(x y:Int×List UInt8):(Int×List UInt8)×Nat:=if x.1=0\/x.1<y.1 then (y,1) else (x,0)
structure Dw where
 content:ByteArray
 seq:Int
 err:Int
def GL(x:Int×List UInt8):Dw:=if x.1=0 then⟨aS,0,13⟩ else⟨strOf x.2,x.1,0⟩
def ah.rd(s:Int):ah ByteArray:=.ask ⟨3,0,s,aS⟩ fun r=>.ret r.bytes
def ah.wr(s:Int)(b:ByteArray):ah Unit:=.ask ⟨4,0,s,b⟩ fun _=>.ret ()
def ah.uf(f:Int):Nat->List UInt8->ah (List UInt8)
 |0,b=>.ret b
 |n+1,b=>(ah.rd (f+((7-n:Nat):Int))).bind fun s=>ah.uf f n (b++s.data.toList)
def ah.cur(rec:Int):ah ((Int×List UInt8)×Nat):=(ah.uf (dP rec 0) 8 []).bind fun a=>(ah.uf (dP rec 1) 8 []).bind fun b=>.ret (ui (oh rec a) (oh rec b))
def ah.load(rec:Int):ah Dw:=if dP rec 0<0 then .ret ⟨aS,0,1⟩ else (ah.cur rec).bind fun p=>.ret (GL p.1)
def jm(b:List UInt8)(k:Nat):List UInt8:=(b.drop (256*k)).take 256++List.replicate (256-((b.drop (256*k)).take 256).length) 0
def iD:List UInt8:=List.replicate 256 0
def nsec(b:List UInt8):Nat:=(b.length+255) / 256
def ah.Gf(f:Int)(b:List UInt8):Nat->Nat->ah Unit
 |0,_=>.ret ()
 |n+1,i=>(ah.wr (f+(i:Int)) (strOf (jm b i))).bind fun _=>ah.Gf f b n (i+1)
def ah.write(f:Int)(b:List UInt8):ah Unit:=(ah.wr f (strOf iD)).bind fun _=>(ah.Gf f b (nsec b-1) 1).bind fun _=>ah.wr f (strOf (jm b 0))
def ah.save(rec:Int)(c:ByteArray):ah Dw:=if dP rec 0<0 then .ret ⟨aS,0,1⟩ else if 2000<c.size then .ret ⟨aS,0,19⟩ else
 (ah.cur rec).bind fun p=>if 1099511627776<p.1.1+1 then .ret ⟨aS,0,19⟩ else (ah.write (dP rec (1-(p.2:Int))) (encS rec (p.1.1+1) c.data.toList)).bind fun _=>.ret ⟨c,p.1.1+1,0⟩
theorem pR(seq:Int)(c:List UInt8):(x_ seq c).length=(b_ seq).length+((b_ (c.length:Int)).length+c.length):=by unfold x_ bT;simp
theorem nC(rec seq:Int)(c:List UInt8):(encS rec seq c).length=(x_ seq c).length+16:=by unfold encS;rw[List.length_append,iW]
theorem oP(rec:Int)(b:List UInt8):0<=(oh rec b).1/\(oh rec b).1<=1099511627776:=by
 unfold oh
 split
 ·exact⟨Int.le_refl _,by decide⟩
 ·split
  ·exact⟨Int.le_refl _,by decide⟩
  ·rename_i h _;dsimp only;omega
theorem aDt:∀ (f u v:Nat),u<=v->(varint f u).length<=(varint f v).length
 |0,_,_,_=>by simp[varint]
 | f+1,u,v,h=>by
  by_cases hv:v<128
  ·rw[iU hv,iU (by omega)];simp
  ·rw[mJ hv]
   by_cases hu:u<128
   ·rw[iU hu];simp
   ·rw[mJ hu,List.length_cons,List.length_cons];exact Nat.succ_le_succ (aDt f _ _ (Nat.div_le_div_right h))
theorem aPz(rec seq:Int){s c:List UInt8}(h:s.length<=c.length):(encS rec seq s).length<=(encS rec seq c).length:=by
 have h1:(b_ (s.length:Int)).length<=(b_ (c.length:Int)).length:=aDt 9 _ _ (by unfold zig;rw[if_pos (by omega),if_pos (by omega)];omega);rw[nC,nC,pR,pR];omega
theorem aMf(rec seq:Int)(c r:List UInt8)(h1:1<=seq)(h2:seq<=1099511627776)(hc:c.length<=2000):oh rec (encS rec seq c++r)=(seq,c):=by
 obtain⟨d,hd⟩:∃ d,jS 5 [b_ rec,x_ seq c]=d:=⟨_,rfl⟩
 have e1:encS rec seq c++r=b_ seq++(bT c++(d++r)):=by unfold encS;rw[hd];unfold x_;simp
 have g:d_ (encS rec seq c++r)=(seq,(b_ seq).length,0):=by rw[e1];exact lW _ (by omega) (by omega)
 have k:rf (encS rec seq c++r)=(c,(bT c).length,0):=by
  unfold rf;rw[g];dsimp only;rw[e1,List.drop_left];exact vH _ _ (by omega)
 unfold oh;rw[g,k];dsimp only;rw[if_neg (by omega),List.take_left,if_neg (by simp;omega)]
theorem bGs(rec:Int)(b:List UInt8):oh rec (0::b)=(0,[]):=by
 have h:d_ (0::b)=(0,1,0):=lW (n:=0) b (by decide) (by decide);unfold oh;rw[h];rfl
theorem bAy{n:Int}(h1:-9223372036854775808<=n)(h2:n<9223372036854775808)(h0:n≠0):(b_ n).getD ((b_ n).length-1) 0≠0:=by
 have hp:=aJz n h1 h2
 have hz:zig n≠0:=by unfold zig;split<;>omega
 have hn:xB (b_ n):=aOq 9 _ (by have:=Zz h1 h2;omega) hz;exact (sH (b_ n) ((b_ n).length-1) (by omega)).1 hn
theorem aPk{v:Int}{r W:List UInt8}{cut n k:Nat}{q:Int}(h1:-9223372036854775808<=v)(h2:v<9223372036854775808)(hp:∀ i,i<cut->W[i]?=(b_ v++r)[i]?)(hz:∀ i,cut<=i->i<n->W[i]?=some 0)(hn:10<=n)(hg:d_ W=(q,k,0)) :
  (q=v/\k=(b_ v).length)\/(q=0/\k=1):=by
 obtain⟨g1,g2,g3,g4,g5,g6⟩:=bFg hg
 by_cases hk:k<=cut
 ·left
  have e:(b_ v++r).take k=b_ q:=by
   rw[<-g1];apply List.ext_getElem?;intro i;rw[List.getElem?_take,List.getElem?_take]
   split
   ·exact (hp i (by omega)).symm
   ·rfl
  have e2:b_ v++r=b_ q++(b_ v++r).drop k:=by rw[<-e,List.take_append_drop]
  have a1:=lW r h1 h2;rw[e2,lW _ g5 g6] at a1;simp only[Prod.mk.injEq,and_true] at a1
  refine⟨a1.1,?_⟩
  have:(W.take k).length=k:=by rw[List.length_take];omega
  rw[g1] at this;rw[<-this,a1.2]
 ·right
  have hl:(b_ q).length=k:=by rw[<-g1,List.length_take];omega
  have hlast:(b_ q).getD (k-1) 0=0:=by
   rw[<-g1,zG,List.getElem?_take,if_pos (by omega),hz (k-1) (by omega) (by omega)];rfl
  by_cases h0:q=0
  ·subst h0
   exact⟨rfl,by rw[<-hl];rfl⟩
  ·exact absurd (hl ▸ hlast) (by rw[hl];have:=bAy g5 g6 h0;rw[hl] at this;exact this)
theorem aQb{rec seq:Int}{c W:List UInt8}{cut:Nat}(h1:1<=seq)(h2:seq<=1099511627776)(hc:c.length<=2000)(hcb:cut<=(encS rec seq c).length)(hp:∀ i,i<cut->W[i]?=(encS rec seq c)[i]?)(hz:∀ i,cut<=i->i<256->W[i]?=some 0) :
  oh rec W=(0,[])\/∃ s,oh rec W=(seq,s)/\s.length<=c.length/\W.take (encS rec seq s).length=encS rec seq s:=by
 obtain⟨d,hd⟩:∃ d,jS 5 [b_ rec,x_ seq c]=d:=⟨_,rfl⟩
 have e1:encS rec seq c=b_ seq++(b_ (c.length:Int)++(c++d)):=by unfold encS;rw[hd];unfold x_ bT;simp
 have hw1:=aY seq;have hw2:=aY (c.length:Int)
 by_cases hq:oh rec W=(0,[])
 ·exact .inl hq
 right
 unfold oh at hq
 split at hq
 ·exact absurd rfl hq
 ·rename_i q1
  split at hq
  ·exact absurd rfl hq
  ·rename_i q2;obtain⟨q,k,e,hg⟩:∃ q k e,d_ W=(q,k,e):=⟨_,_,_,rfl⟩;have hq1:=q1;rw[hg] at q1;dsimp only at q1
   obtain rfl:e=0:=by omega
   have hsq:q=seq/\k=(b_ seq).length:=by
    rcases aPk (v:=seq) (r:=b_ (c.length:Int)++(c++d)) (W:=W) (cut:=cut) (n:=256) (by omega) (by omega) (fun i hi=>by rw[hp i hi,e1]) hz (by omega) hg with h|h
    ·exact h
    ·omega
   obtain⟨rfl,rfl⟩:=hsq
   have hcon:rf W=jG (W.drop (b_ q).length):=by unfold rf;rw[hg]
   have hle:(rf W).1.length<=c.length:=by
    by_cases hz2:(d_ (W.drop (b_ q).length)).2.2=0
    ·obtain⟨m,j,e,hm⟩:∃ m j e,d_ (W.drop (b_ q).length)=(m,j,e):=⟨_,_,_,rfl⟩;rw[hm] at hz2
     obtain rfl:e=0:=hz2
     have hmc:m=(c.length:Int)\/m=0:=by
      have hpp:∀ i,i<cut-(b_ q).length->(W.drop (b_ q).length)[i]?=(b_ (c.length:Int)++(c++d))[i]?:=fun i hi=>by
       rw[List.getElem?_drop,hp _ (by omega),e1,List.getElem?_append_right (by omega),show (b_ q).length+i-(b_ q).length=i from by omega]
      rcases aPk (v:=(c.length:Int)) (r:=c++d) (W:=W.drop (b_ q).length) (cut:=cut-(b_ q).length) (n:=256-(b_ q).length) (by omega) (by omega) hpp (fun i hi hj=>by rw[List.getElem?_drop];exact hz _ (by omega) (by omega)) (by omega) hm with h|h
      ·exact .inl h.1
      ·exact .inr h.1
     rw[hcon];unfold jG;rw[hm];dsimp only;rw[if_neg (by simp)]
     split
     ·simp
     ·split
      ·simp
      ·rw[List.length_take];rcases hmc with rfl|rfl<;>omega
    ·rw[hcon];unfold jG;rw[if_pos hz2];simp
   refine⟨(rf W).1,?_,hle,?_⟩
   ·unfold oh;rw[if_neg hq1,if_neg q2,hg]
   ·rw[hg] at q2;dsimp only at q2
    by_cases h:W.take (encS rec q (rf W).1).length=encS rec q (rf W).1
    ·exact h
    ·exact absurd (.inr (.inr h)) q2
def gI(cut:Int)(a:Acc)(f:Fl):Fl:=if a.kind=3 then f else iQ f a.cell a.bytes cut
def BV(a:Acc)(f:Fl):je:=⟨0,if a.kind=3 then strOf (sec f a.cell) else aS⟩
section
variable {α β:Type}
def zf:ah α->Fl->α
 |.ret a,_=>a
 |.ask a k,f=>zf (k (BV a f)) (gI (-1) a f)
def jv:ah α->Fl->List Acc
 |.ret _,_=>[]
 |.ask a k,f=>a::jv (k (BV a f)) (gI (-1) a f)
def qo(L:List Acc)(f:Fl):Fl:=L.foldl (fun f a=>gI (-1) a f) f
theorem aFp(L M:List Acc)(f:Fl):qo (L++M) f=qo M (qo L f):=List.foldl_append ..
theorem rO(p:ah α)(g:α->ah β):∀ f,jv (p.bind g) f=jv p f++jv (g (zf p f)) (qo (jv p f) f):=by
 induction p with
 |ret a=>intro f;rfl
 |ask a k ih=>
  intro f;show a::jv ((k (BV a f)).bind g) (gI (-1) a f)=_;rw[ih];rfl
theorem uV(p:ah α)(g:α->ah β):∀ f,zf (p.bind g) f=zf (g (zf p f)) (qo (jv p f) f):=by
 induction p with
 |ret a=>intro f;rfl
 |ask a k ih=>
  intro f;show zf ((k (BV a f)).bind g) (gI (-1) a f)=_;rw[ih];rfl
def bGd(cut bytes:Int):ah α->Fl->List Acc->Fl×Option α×List Acc
 |.ret o,f,l=>(f,some o,l)
 |.ask a k,f,l=>if (l.length:Int)=cut then (gI (max 0 bytes) a f,none,l++[a]) else bGd cut bytes (k (BV a f)) (gI (-1) a f) (l++[a])
theorem aDb(cut bytes:Int)(p:ah α):∀ (f:Fl) (l:List Acc),bGd cut bytes p f l =
  if h:(l.length:Int)<=cut/\(cut-l.length).toNat<(jv p f).length then
   (gI (max 0 bytes) ((jv p f)[(cut-l.length).toNat]'h.2) (qo ((jv p f).take (cut-l.length).toNat) f),none,l++(jv p f).take ((cut-l.length).toNat+1))
  else (qo (jv p f) f,some (zf p f),l++jv p f):=by
 induction p with
 |ret a=>intro f l;rw[dif_neg (by simp[jv])];simp[bGd,jv,qo,zf]
 | ask a k ih=>
  intro f l;rw[bGd]
  by_cases hc:(l.length:Int)=cut
  ·rw[if_pos hc]
   have e0:(cut-(l.length:Int)).toNat=0:=by omega
   rw[dif_pos ⟨by omega,by rw[e0];simp[jv]⟩];simp[e0,jv,qo]
  ·rw[if_neg hc,ih]
   have hl:((l++[a]).length:Int)=l.length+1:=by simp
   by_cases h:(((l++[a]).length:Nat):Int)<=cut/\(cut-((l++[a]).length:Nat)).toNat<(jv (k (BV a f)) (gI (-1) a f)).length
   ·have e1:(cut-(l.length:Int)).toNat=(cut-((l++[a]).length:Nat)).toNat+1:=by omega
    rw[dif_pos h,dif_pos ⟨by omega,by rw[e1];simp only[jv,List.length_cons];omega⟩];simp only[e1,jv,List.getElem_cons_succ,List.take_succ_cons,qo,List.foldl_cons,List.append_assoc,List.singleton_append]
   ·rw[dif_neg h,dif_neg (by
     simp only[jv,List.length_cons]
     omega)]
    simp only[jv,qo,List.foldl_cons,List.append_assoc,List.singleton_append,zf]
end
def GR(f:Fl)(s:Int):Nat->List UInt8
 |0=>[]
 |n+1=>sec f (s+((7-n:Nat):Int))++GR f s n
def sV(f:Fl)(s:Int):List UInt8:=GR f s 8
def pG(s:Int):Nat->List Acc
 |0=>[]
 |n+1=>⟨3,0,s+((7-n:Nat):Int),aS⟩::pG s n
theorem qZ(s:Int):∀ (n:Nat) (f:Fl),qo (pG s n) f=f
 |0,_=>rfl
 |n+1,f=>qZ s n f
theorem aRm(s:Int):∀ (n:Nat) (b:List UInt8) (f:Fl),jv (ah.uf s n b) f=pG s n/\zf (ah.uf s n b) f=b++GR f s n
 |0,b,f=>⟨rfl,by simp[ah.uf,zf,GR]⟩
 |n+1,b,f=>by
  have ih:=aRm s n (b++sec f (s+((7-n:Nat):Int))) f;have e:ah.uf s (n+1) b=.ask ⟨3,0,s+((7-n:Nat):Int),aS⟩ fun r=>ah.uf s n (b++r.bytes.data.toList):=rfl;rw[e];simp only[jv,zf,gI,BV,if_pos,dD];rw[ih.1,ih.2]
  exact⟨rfl,by rw[GR,List.append_assoc]⟩
def Da(f:Fl)(rec k:Int):Int×List UInt8:=oh rec (sV f (dP rec k))
def eu(f:Fl)(rec:Int):(Int×List UInt8)×Nat:=ui (Da f rec 0) (Da f rec 1)
def BM(rec:Int):List Acc:=pG (dP rec 0) 8++pG (dP rec 1) 8
theorem Oi(rec:Int)(f:Fl):jv (ah.cur rec) f=BM rec/\zf (ah.cur rec) f=eu f rec/\qo (jv (ah.cur rec) f) f=f:=by
 have h0:=aRm (dP rec 0) 8 [] f;have h1:=aRm (dP rec 1) 8 [] f
 have e:jv (ah.cur rec) f=BM rec:=by
  unfold ah.cur;rw[rO,rO,h0.1,qZ,h1.1];simp[jv,BM]
 refine⟨e,?_,?_⟩
 ·unfold ah.cur;rw[uV,uV,h0.1,qZ,h0.2,h1.2];rfl
 ·rw[e];unfold BM;rw[aFp,qZ,qZ]
theorem mQ(rec:Int):(BM rec).length=16:=rfl
def Ad(s:Int)(b:List UInt8):Nat->Nat->List Acc
 |0,_=>[]
 |n+1,i=>⟨4,0,s+(i:Int),strOf (jm b i)⟩::Ad s b n (i+1)
def dH(s:Int)(b:List UInt8):List Acc:=⟨4,0,s,strOf iD⟩::(Ad s b (nsec b-1) 1++[⟨4,0,s,strOf (jm b 0)⟩])
theorem TS(s:Int)(b:List UInt8):∀ (n i:Nat) (f:Fl),jv (ah.Gf s b n i) f=Ad s b n i
 |0,_,_=>rfl
 |n+1,i,f=>by
  have e:ah.Gf s b (n+1) i=.ask ⟨4,0,s+(i:Int),strOf (jm b i)⟩ fun _=>ah.Gf s b n (i+1):=rfl;rw[e,jv,TS s b n (i+1)];rfl
theorem P5(s:Int)(b:List UInt8)(f:Fl):jv (ah.write s b) f=dH s b:=by
 have e:ah.write s b=.ask ⟨4,0,s,strOf iD⟩ fun _=>(ah.Gf s b (nsec b-1) 1).bind fun _=>ah.wr s (strOf (jm b 0)):=rfl;rw[e,jv,rO,TS];rfl
theorem kX(s:Int)(b:List UInt8):∀ n i,(Ad s b n i).length=n
 |0,_=>rfl
 |n+1,i=>by rw[Ad,List.length_cons,kX]
theorem aJv(s:Int)(b:List UInt8):∀ (n i j:Nat),j<n->(Ad s b n i)[j]?=some ⟨4,0,s+((i+j:Nat):Int),strOf (jm b (i+j))⟩
 |0,_,_,h=>by omega
 |n+1,i,0,_=>rfl
 |n+1,i,j+1,h=>by
  rw[Ad,List.getElem?_cons_succ,aJv s b n (i+1) j (by omega),show i+1+j=i+(j+1) from by omega]
theorem vJ{rec k:Int}(h1:0<=rec)(h2:rec<=3)(h3:0<=k)(h4:k<=1):dP rec k=8*(2*rec+k):=by unfold dP;rw[if_neg (by omega)]
theorem Xi(x y:Int×List UInt8):(ui x y).2=0\/(ui x y).2=1:=by unfold ui;split<;>simp
theorem aNt{rec:Int}{c:ByteArray}{f:Fl}(h1:0<=rec)(h2:rec<=3)(hc:c.size<=2000)(hs:(eu f rec).1.1+1<=1099511627776) :
  jv (ah.save rec c) f=BM rec++dH (dP rec (1-((eu f rec).2:Int))) (encS rec ((eu f rec).1.1+1) c.data.toList)/\zf (ah.save rec c) f=⟨c,(eu f rec).1.1+1,0⟩:=by
 obtain⟨q1,q2,q3⟩:=Oi rec f
 have h0:¬dP rec 0<0:=by rw[vJ h1 h2 (by omega) (by omega)];omega
 unfold ah.save;rw[if_neg h0,if_neg (by omega),rO,uV,q3,q2,q1,if_neg (by omega),rO,uV,P5];simp[jv,zf]
theorem Ku{rec:Int}{f:Fl}(h1:0<=rec)(h2:rec<=3):jv (ah.load rec) f=BM rec/\zf (ah.load rec) f=GL (eu f rec).1:=by
 obtain⟨q1,q2,q3⟩:=Oi rec f
 have h0:¬dP rec 0<0:=by rw[vJ h1 h2 (by omega) (by omega)];omega
 unfold ah.load;rw[if_neg h0,rO,uV,q3,q2,q1];simp[jv,zf]
def Sz(f:Fl):Prop:=f.length=128/\∀ x∈f,x.size=256
theorem Sz.sec{f:Fl}(h:Sz f){s:Int}(h1:0<=s)(h2:s<128):(sec f s).length=256:=by
 obtain⟨k,rfl⟩:∃ k:Nat,s=(k:Int):=⟨s.toNat,by omega⟩
 have hk:k<f.length:=by rw[h.1];omega
 unfold Go.Proofs.YtndpjopifkbgiaaGreatDoor.sec;rw[if_pos (by omega),Int.toNat_natCast,zG,zH hk,Option.getD_some,Array.length_toList];exact h.2 _ (List.getElem_mem hk)
theorem aRg{cut:Int}{b old:List UInt8}(hb:b.length=256)(ho:old.length=256):(y8 cut b old).length=256:=by
 unfold y8
 split
 ·exact hb
 ·rw[List.length_append,List.length_take,List.length_drop];omega
theorem aFm{f:Fl}(h:Sz f)(s:Int)(b:ByteArray)(cut:Int):Sz (iQ f s b cut):=by
 unfold iQ
 split
 ·rename_i q
  refine⟨by rw[List.length_set];exact h.1,fun x hx=>?_⟩
  rcases List.mem_or_eq_of_mem_set hx with hx|rfl
  ·exact h.2 x hx
  ·rw[bW];exact aRg (by rw[Array.length_toList];exact q.2.2) (h.sec q.1 (by have:=h.1;omega))
 ·exact h
theorem rU{f:Fl}(h:Sz f)(cut:Int)(a:Acc):Sz (gI cut a f):=by
 unfold gI
 split
 ·exact h
 ·exact aFm h _ _ _
theorem aPt:∀ {L:List Acc} {f:Fl},Sz f->Sz (qo L f)
 |[],_,h=>h
 |a::L,_,h=>aPt (L:=L) (rU h (-1) a)
theorem mO{f:Fl}(h:Sz f){s:Int}(h1:0<=s)(h2:s<128){b:List UInt8}(hb:b.length=256)(cut t:Int):sec (iQ f s (strOf b) cut) t=if t=s then y8 cut b (sec f s) else sec f t:=by
 have hl:=h.1;unfold iQ;rw[if_pos ⟨h1,by omega,by rw[bW];exact hb⟩,dD]
 by_cases ht:t=s
 ·subst ht;rw[if_pos rfl]
  have e:∀ x:ByteArray,sec (f.set t.toNat x) t=x.data.toList:=fun x=>by
   unfold sec;rw[if_pos (by rw[List.length_set];omega),zG,List.getElem?_set_self (by omega),Option.getD_some]
  rw[e,dD]
 ·rw[if_neg ht];unfold sec;rw[List.length_set]
  split
  ·rw[zG,List.getElem?_set_ne (by omega),<-zG]
  ·rfl
theorem eQ(b:List UInt8)(k:Nat):(jm b k).length=256:=by unfold jm;rw[List.length_append,List.length_replicate,List.length_take];omega
theorem aRp{b:List UInt8}{k j:Nat}(hj:j<256)(h:256*k+j<b.length):(jm b k)[j]?=b[256*k+j]?:=by
 unfold jm;rw[List.getElem?_append_left (by rw[List.length_take,List.length_drop];omega),List.getElem?_take,if_pos hj,List.getElem?_drop]
theorem jJ:iD.length=256:=List.length_replicate
theorem xC{j:Nat}(hj:j<256):iD[j]?=some 0:=by unfold iD;rw[List.getElem?_replicate,if_pos hj]
theorem aUp{f:Fl}(h:Sz f){s:Int}(h1:0<=s)(h2:s<128){b:List UInt8}(hb:b.length=256)(t:Int):sec (gI (-1) ⟨4,0,s,strOf b⟩ f) t=if t=s then b else sec f t:=by
 have:gI (-1) ⟨4,0,s,strOf b⟩ f=iQ f s (strOf b) (-1):=rfl;rw[this,mO h h1 h2 hb];have e:y8 (-1) b (sec f s)=b:=if_pos (.inl (by decide));rw[e]
theorem aEf{f g:Fl}{s:Int}:∀ n,n<=8->(∀ t,s+((8-n:Nat):Int)<=t->t<s+8->sec f t=sec g t)->GR f s n=GR g s n
 |0,_,_=>rfl
 |n+1,hn,h=>by
  rw[GR,GR,h _ (by omega) (by omega),aEf n (by omega) (fun t h3 h4=>h t (by omega) h4)]
theorem yH{f g:Fl}{s:Int}(h:∀ t,s<=t->t<s+8->sec f t=sec g t):sV f s=sV g s:=aEf 8 (Nat.le_refl _) (fun t h1 h2=>h t (by omega) h2)
theorem aVa{f:Fl}(h:Sz f){s:Int}(h1:0<=s)(h2:s+8<=128){j:Nat}(hj:j<256):∀ (n i:Nat),n<=8->i<n->(GR f s n)[256*i+j]?=(sec f (s+((8-n+i:Nat):Int)))[j]?
 |0,_,_,hi=>by omega
 |n+1,0,hn,_=>by
  rw[GR,List.getElem?_append_left (by rw[h.sec (by omega) (by omega)];omega)];rw[show 8-(n+1)+0=7-n from by omega];congr 1
  omega
 |n+1,i+1,hn,hi=>by
  have hl:=h.sec (s:=s+((7-n:Nat):Int)) (by omega) (by omega);rw[GR,List.getElem?_append_right (by rw[hl];omega),hl,show 256*(i+1)+j-256=256*i+j from by omega,aVa h h1 h2 hj n i (by omega) (by omega)];rw[show 8-(n+1)+(i+1)=8-n+i from by omega]
theorem aWv{f:Fl}(h:Sz f){s:Int}(h1:0<=s)(h2:s+8<=128){i j:Nat}(hi:i<8)(hj:j<256):(sV f s)[256*i+j]?=(sec f (s+(i:Int)))[j]?:=by
 have:=aVa h h1 h2 hj 8 i (Nat.le_refl _) hi;rw[show 8-8+i=i from by omega] at this;exact this
theorem aUg{s:Int}{b:List UInt8}:∀ (n i:Nat) {f:Fl},Sz f->0<=s->s+((i+n:Nat):Int)<=128->∀ t:Int,sec (qo (Ad s b n i) f) t=if s+(i:Int)<=t/\t<s+((i+n:Nat):Int) then jm b (t-s).toNat else sec f t
 |0,i,f,_,_,_,t=>by rw[if_neg (by omega)];rfl
 | n+1,i,f,h,h1,h2,t=>by
  have h3:=aUg (b:=b) n (i+1) (rU h (-1) ⟨4,0,s+(i:Int),strOf (jm b i)⟩) h1 (by omega) t;rw[Ad];show sec (qo (Ad s b n (i+1)) (gI (-1) ⟨4,0,s+(i:Int),strOf (jm b i)⟩ f)) t=_;rw[h3,aUp h (by omega) (by omega) (eQ _ _)]
  by_cases ht:t=s+(i:Int)
  ·subst ht;rw[if_neg (by omega),if_pos rfl,if_pos (by omega),show (s+(i:Int)-s).toNat=i from by omega]
  ·rw[if_neg ht]
   by_cases h4:s+(i:Int)<=t/\t<s+((i+(n+1):Nat):Int)
   ·rw[if_pos h4,if_pos (by omega)]
   ·rw[if_neg h4,if_neg (by omega)]
theorem vV{s:Int}{b:List UInt8}{f:Fl}(h:Sz f)(h1:0<=s)(h2:s+(nsec b:Int)<=128)(hb:0<b.length){m:Nat}(hm:1<=m)(hm2:m<=nsec b)(t:Int) :
  sec (qo ((dH s b).take m) f) t=if t=s then iD else if s<t/\t<s+(m:Int) then jm b (t-s).toNat else sec f t:=by
 have hn:1<=nsec b:=by unfold nsec;omega
 obtain⟨m,rfl⟩:∃ k,m=k+1:=⟨m-1,by omega⟩
 have e1:(Ad s b (nsec b-1) 1++[(⟨4,0,s,strOf (jm b 0)⟩:Acc)]).take m=Ad s b m 1:=by
  apply List.ext_getElem?;intro j;rw[List.getElem?_take]
  by_cases hj:j<m
  ·rw[if_pos hj,List.getElem?_append_left (by rw[kX];omega),aJv _ _ _ _ _ (by omega),aJv _ _ _ _ _ hj]
  ·rw[if_neg hj,List.getElem?_eq_none (by rw[kX];omega)]
 rw[dH,List.take_succ_cons,e1];show sec (qo (Ad s b m 1) (gI (-1) ⟨4,0,s,strOf iD⟩ f)) t=_;rw[aUg m 1 (rU h _ _) h1 (by omega),aUp h h1 (by omega) jJ]
 by_cases ht:t=s
 ·subst ht;rw[if_neg (by omega),if_pos rfl,if_pos rfl]
 ·rw[if_neg ht,if_neg ht]
  by_cases h4:s<t/\t<s+((m+1:Nat):Int)
  ·rw[if_pos h4,if_pos (by omega)]
  ·rw[if_neg h4,if_neg (by omega)]
theorem iT(s:Int)(b:List UInt8)(hb:0<b.length):(dH s b).length=nsec b+1:=by
 have hn:1<=nsec b:=by unfold nsec;omega
 rw[dH,List.length_cons,List.length_append,kX,List.length_singleton];omega
theorem oU(s:Int)(b:List UInt8)(hb:0<b.length):(dH s b)[nsec b]?=some ⟨4,0,s,strOf (jm b 0)⟩:=by
 have hn:1<=nsec b:=by unfold nsec;omega
 obtain⟨k,hk⟩:∃ k,nsec b=k+1:=⟨nsec b-1,by omega⟩;rw[dH,hk,List.getElem?_cons_succ,List.getElem?_append_right (by rw[kX];omega),kX];simp
theorem aDk{s:Int}{b:List UInt8}{m:Nat}(hm:1<=m)(hm2:m<nsec b):(dH s b)[m]?=some ⟨4,0,s+(m:Int),strOf (jm b m)⟩:=by
 obtain⟨k,rfl⟩:∃ k,m=k+1:=⟨m-1,by omega⟩;rw[dH,List.getElem?_cons_succ,List.getElem?_append_left (by rw[kX];omega),aJv _ _ _ _ _ (by omega),show 1+k=k+1 from by omega]
end
section
structure GU where
 dh:Int
 content:ByteArray
 cut:Int
 bytes:Int
def bAm:Dw:=⟨aS,0,0⟩
def wu(f:Fl)(u:GU):Fl×Dw×Bool×List Acc:=match bGd u.cut u.bytes (ah.save u.dh u.content) f [] with
 |(f',some o,l)=>(f',o,true,l)
 |(f',none,l)=>(f',bAm,false,l)
theorem aQf(f:Fl)(rec:Int):Da f rec ((eu f rec).2:Int)=(eu f rec).1/\(Da f rec (1-((eu f rec).2:Int))).1<=(eu f rec).1.1:=by
 have r0:=(oP rec (sV f (dP rec 0))).1;have r1:=(oP rec (sV f (dP rec 1))).1;change 0<=(Da f rec 0).1 at r0;change 0<=(Da f rec 1).1 at r1;unfold eu ui
 by_cases h:(Da f rec 0).1=0\/(Da f rec 0).1<(Da f rec 1).1
 ·rw[if_pos h];exact⟨rfl,by show (Da f rec 0).1<=(Da f rec 1).1;omega⟩
 ·rw[if_neg h];exact⟨rfl,by show (Da f rec 1).1<=(Da f rec 0).1;omega⟩
theorem aAa(f:Fl)(rec:Int):0<=(eu f rec).1.1/\(eu f rec).1.1<=1099511627776:=by
 have:=oP rec (sV f (dP rec ((eu f rec).2:Int)));change 0<=(Da f rec _).1/\(Da f rec _).1<=_ at this;rwa [(aQf f rec).1] at this
theorem SG{f:Fl}{rec:Int}(h:(eu f rec).2=0):0<(eu f rec).1.1:=by
 have r0:=(oP rec (sV f (dP rec 0))).1;change 0<=(Da f rec 0).1 at r0;unfold eu ui at h ⊢
 by_cases h2:(Da f rec 0).1=0\/(Da f rec 0).1<(Da f rec 1).1
 ·rw[if_pos h2] at h;cases h
 ·rw[if_neg h2];dsimp only;omega
theorem aWm{f g:Fl}{rec:Int}(h:∀ k:Int,0<=k->k<=1->Da g rec k=Da f rec k):eu g rec=eu f rec:=by unfold eu;rw[h 0 (by omega) (by omega),h 1 (by omega) (by omega)]
theorem bHa{f g:Fl}{rec:Int}(h:Da g rec ((eu f rec).2:Int)=(eu f rec).1)(hb:Da g rec (1-((eu f rec).2:Int))=(0,[])):(eu g rec).1=(eu f rec).1:=by
 rcases Xi (Da f rec 0) (Da f rec 1) with hk|hk
 ·have hk':(eu f rec).2=0:=hk;have hp:=SG hk';rw[hk'] at h hb;have e0:Da g rec 0=(eu f rec).1:=h;have e1:Da g rec 1=(0,[]):=hb
  conv=>lhs;unfold eu
  rw[e0,e1];unfold ui;rw[if_neg (by dsimp only;omega)]
 ·have hk':(eu f rec).2=1:=hk;rw[hk'] at h hb;have e1:Da g rec 1=(eu f rec).1:=h;have e0:Da g rec 0=(0,[]):=hb
  conv=>lhs;unfold eu
  rw[e0,e1];unfold ui;rw[if_pos (.inl rfl)]
theorem aGa{f g:Fl}{rec:Int}{x:List UInt8}(h:Da g rec ((eu f rec).2:Int)=(eu f rec).1)(hb:Da g rec (1-((eu f rec).2:Int))=((eu f rec).1.1+1,x)):(eu g rec).1=((eu f rec).1.1+1,x):=by
 have hr:=aAa f rec;rcases Xi (Da f rec 0) (Da f rec 1) with hk|hk
 ·have hk':(eu f rec).2=0:=hk;rw[hk'] at h hb;have e0:Da g rec 0=(eu f rec).1:=h;have e1:Da g rec 1=_:=hb
  conv=>lhs;unfold eu
  rw[e0,e1];unfold ui;rw[if_pos (.inr (by dsimp only;omega))]
 ·have hk':(eu f rec).2=1:=hk;rw[hk'] at h hb;have e1:Da g rec 1=(eu f rec).1:=h;have e0:Da g rec 0=_:=hb
  conv=>lhs;unfold eu
  rw[e0,e1];unfold ui;rw[if_neg (by dsimp only;omega)]
def f_(f:Fl)(u:GU):List UInt8:=encS u.dh ((eu f u.dh).1.1+1) u.content.data.toList
def iq(f:Fl)(u:GU):Int:=dP u.dh (1-((eu f u.dh).2:Int))
structure Fine(f:Fl)(u:GU):Prop where
 sz:Sz f
 r0:0<=u.dh
 r3:u.dh<=3
 c:u.content.size<=2000
 s:(eu f u.dh).1.1+1<=1099511627776
section
variable {f:Fl} {u:GU}
theorem Fine.len(h:Fine f u):0<(f_ f u).length/\(f_ f u).length<=2048:=by
 have h1:=aY ((eu f u.dh).1.1+1);have h2:=aY (u.content.data.toList.length:Int);have h3:u.content.data.toList.length=u.content.size:=Array.length_toList;have h4:=h.c;unfold f_;rw[nC,pR];omega
theorem Fine.first(h:Fine f u):0<=iq f u/\iq f u+8<=64/\iq f u=16*u.dh+8*(1-((eu f u.dh).2:Int)):=by
 have h1:=h.r0;have h2:=h.r3;have hk:(eu f u.dh).2=0\/(eu f u.dh).2=1:=Xi _ _;unfold iq;rw[vJ h1 h2 (by omega) (by omega)];omega
theorem Fine.nsec(h:Fine f u):1<=nsec (f_ f u)/\nsec (f_ f u)<=8:=by
 have:=h.len;unfold Go.Proofs.YtndpjopifkbgiaaGreatDoor.nsec;omega
theorem zI(h:Fine f u)(hc:u.cut<0\/17+(nsec (f_ f u):Int)<=u.cut):wu f u=(qo (dH (iq f u) (f_ f u)) f,⟨u.content,(eu f u.dh).1.1+1,0⟩,true,BM u.dh++dH (iq f u) (f_ f u)):=by
 obtain⟨q1,q2⟩:=aNt (c:=u.content) h.r0 h.r3 h.c h.s;have q3:=(Oi u.dh f).2.2;rw[(Oi u.dh f).1] at q3;unfold wu
 rw[aDb,dif_neg (by
  rw[q1,List.length_append,mQ];change ¬(_/\_<16+(dH (iq f u) (f_ f u)).length);rw[iT _ _ h.len.1,List.length_nil]
  omega)]
 dsimp only;rw[q1,q2,aFp,q3];rfl
theorem aVe(h:Fine f u)(h0:0<=u.cut)(h1:u.cut<16):wu f u=(f,bAm,false,(BM u.dh).take (u.cut.toNat+1)):=by
 obtain⟨q1,q2⟩:=aNt (c:=u.content) h.r0 h.r3 h.c h.s
 have hrd:∀ (s:Int) (n:Nat) (a:Acc),a∈pG s n->a.kind=3:=by
  intro s n
  induction n with
  |zero=>intro a ha;cases ha
  |succ n ih=>
   intro a ha;rcases List.mem_cons.1 ha with rfl|ha
   ·rfl
   ·exact ih a ha
 have hall:∀ a∈BM u.dh,a.kind=3:=fun a ha=>by
  rcases List.mem_append.1 ha with ha|ha
  ·exact hrd _ _ a ha
  ·exact hrd _ _ a ha
 have hid:∀ (L:List Acc) (g:Fl),(∀ a∈L,a.kind=3)->qo L g=g:=by
  intro L
  induction L with
  |nil=>intro g _;rfl
  |cons a L ih=>
   intro g hL;show qo L (gI (-1) a g)=g;rw[show gI (-1) a g=g from if_pos (hL a List.mem_cons_self)];exact ih g fun b hb=>hL b (List.mem_cons_of_mem _ hb)
 have hn:(u.cut-(([]:List Acc).length:Int)).toNat=u.cut.toNat:=by simp
 have hlt:u.cut.toNat<(BM u.dh).length:=by rw[mQ];omega
 unfold wu;rw[aDb,dif_pos ⟨by simpa using h0,by rw[q1,hn,List.length_append];omega⟩];dsimp only
 have ht:(jv (ah.save u.dh u.content) f).take u.cut.toNat=(BM u.dh).take u.cut.toNat:=by rw[q1,List.take_append_of_le_length (by omega)]
 have ht1:(jv (ah.save u.dh u.content) f).take (u.cut.toNat+1)=(BM u.dh).take (u.cut.toNat+1):=by rw[q1,List.take_append_of_le_length (by omega)]
 have hg:(jv (ah.save u.dh u.content) f)[(u.cut-(([]:List Acc).length:Int)).toNat]?=(BM u.dh)[u.cut.toNat]?:=by rw[hn,q1,List.getElem?_append_left hlt]
 rw[List.nil_append];rw[zH (by rw[hn,q1,List.length_append];omega),zH hlt] at hg;rw[Option.some.inj hg];simp only[hn];rw[ht,ht1,hid _ f (fun a ha=>hall a (List.mem_of_mem_take ha))];rw[show gI (max 0 u.bytes) (BM u.dh)[u.cut.toNat] f=f from if_pos (hall _ (List.getElem_mem hlt))]
theorem aOh(h:Fine f u){j:Nat}(hc:u.cut=16+(j:Int))(hj:j<=nsec (f_ f u))(a:Acc)(ha:(dH (iq f u) (f_ f u))[j]?=some a) :
  wu f u=(gI (max 0 u.bytes) a (qo ((dH (iq f u) (f_ f u)).take j) f),bAm,false,BM u.dh++(dH (iq f u) (f_ f u)).take (j+1)):=by
 obtain⟨q1,q2⟩:=aNt (c:=u.content) h.r0 h.r3 h.c h.s;change jv (ah.save u.dh u.content) f=BM u.dh++dH (iq f u) (f_ f u) at q1;have q3:=(Oi u.dh f).2.2;rw[(Oi u.dh f).1] at q3
 have hn:(u.cut-(([]:List Acc).length:Int)).toNat=16+j:=by simp;omega
 have hlen:(jv (ah.save u.dh u.content) f).length=16+(nsec (f_ f u)+1):=by rw[q1,List.length_append,mQ,iT _ _ h.len.1]
 unfold wu;rw[aDb,dif_pos ⟨by simp;omega,by rw[hn,hlen];omega⟩];dsimp only
 have hg:(jv (ah.save u.dh u.content) f)[(u.cut-(([]:List Acc).length:Int)).toNat]?=some a:=by
  rw[hn,q1,List.getElem?_append_right (by rw[mQ];omega),mQ,show 16+j-16=j from by omega];exact ha
 rw[zH (by rw[hn,hlen];omega)] at hg;rw[Option.some.inj hg,List.nil_append];simp only[hn]
 have ht:∀ m,(jv (ah.save u.dh u.content) f).take (16+m)=BM u.dh++(dH (iq f u) (f_ f u)).take m:=fun m=>by
  rw[q1,List.take_append,mQ,show 16+m-16=m from by omega,List.take_of_length_le (by rw[mQ];omega)]
 rw[ht j,show 16+j+1=16+(j+1) from by omega,ht (j+1),aFp,q3]
theorem aMx(h:Fine f u){j:Nat}(hj:j<=nsec (f_ f u))(a:Acc)(ha:(dH (iq f u) (f_ f u))[j]?=some a)(cut:Int):Sz (gI cut a (qo ((dH (iq f u) (f_ f u)).take j) f)) /\
  ∀ t,(t<iq f u\/iq f u+8<=t)->sec (gI cut a (qo ((dH (iq f u) (f_ f u)).take j) f)) t=sec f t:=by
 have hl:=h.len;have hf:=h.first;have hs:=h.nsec;have hz:Sz (qo ((dH (iq f u) (f_ f u)).take j) f):=aPt h.sz
 refine⟨rU hz _ _,fun t ht=>?_⟩
 have hb:∃ (m:Nat) (b:List UInt8),m<8/\b.length=256/\a=⟨4,0,iq f u+(m:Int),strOf b⟩:=by
  rcases Nat.eq_zero_or_pos j with rfl|hp
  ·rw[dH,List.getElem?_cons_zero] at ha;cases ha
   exact⟨0,iD,by omega,jJ,by simp⟩
  ·rcases Nat.lt_or_eq_of_le hj with hlt|rfl
   ·rw[aDk hp hlt] at ha;cases ha
    exact⟨j,_,by omega,eQ _ _,rfl⟩
   ·rw[oU _ _ hl.1] at ha;cases ha
    exact⟨0,jm (f_ f u) 0,by omega,eQ _ _,by simp⟩
 obtain⟨m,b,hm,hbl,rfl⟩:=hb;have e:gI cut ⟨4,0,iq f u+(m:Int),strOf b⟩ (qo ((dH (iq f u) (f_ f u)).take j) f)=iQ (qo ((dH (iq f u) (f_ f u)).take j) f) (iq f u+(m:Int)) (strOf b) cut:=rfl;rw[e,mO hz (by omega) (by omega) hbl,if_neg (by omega)];rcases Nat.eq_zero_or_pos j with rfl|hp
 ·rfl
 ·rw[vV h.sz hf.1 (by omega) hl.1 hp hj,if_neg (by omega),if_neg (by omega)]
theorem Gn(h:Fine f u):qo (dH (iq f u) (f_ f u)) f=gI (-1) ⟨4,0,iq f u,strOf (jm (f_ f u) 0)⟩ (qo ((dH (iq f u) (f_ f u)).take (nsec (f_ f u))) f):=by
 have hl:=h.len
 have e:dH (iq f u) (f_ f u)=(dH (iq f u) (f_ f u)).take (nsec (f_ f u))++[⟨4,0,iq f u,strOf (jm (f_ f u) 0)⟩]:=by
  apply List.ext_getElem?;intro i;rcases Nat.lt_trichotomy i (nsec (f_ f u)) with hi|rfl|hi
  ·rw[List.getElem?_append_left (by rw[List.length_take,iT _ _ hl.1];omega),List.getElem?_take,if_pos hi]
  ·rw[oU _ _ hl.1,List.getElem?_append_right (by rw[List.length_take];omega),List.length_take,iT _ _ hl.1,Nat.min_eq_left (by omega),Nat.sub_self];rfl
  ·rw[List.getElem?_eq_none (by rw[iT _ _ hl.1];omega),List.getElem?_eq_none (by rw[List.length_append,List.length_take,iT _ _ hl.1,List.length_singleton];omega)]
 conv=>lhs;rw[e,aFp]
 rfl
theorem last_at(h:Fine f u)(cut:Int)(i:Nat):let W:=sV (gI cut ⟨4,0,iq f u,strOf (jm (f_ f u) 0)⟩ (qo ((dH (iq f u) (f_ f u)).take (nsec (f_ f u))) f)) (iq f u)
  (i<(f_ f u).length->(cut<0\/256<=cut\/(i:Int)<cut\/256<=i)->W[i]?=(f_ f u)[i]?)/\(0<=cut->cut<256->cut<=i->i<256->W[i]?=some 0):=by
 intro W;have hl:=h.len;have hf:=h.first;have hs:=h.nsec;have hz:Sz (qo ((dH (iq f u) (f_ f u)).take (nsec (f_ f u))) f):=aPt h.sz;have hz2:=rU hz cut ⟨4,0,iq f u,strOf (jm (f_ f u) 0)⟩
 have Dk:∀ t,sec (gI cut ⟨4,0,iq f u,strOf (jm (f_ f u) 0)⟩ (qo ((dH (iq f u) (f_ f u)).take (nsec (f_ f u))) f)) t=if t=iq f u then y8 cut (jm (f_ f u) 0) iD else if iq f u<t/\t<iq f u+(nsec (f_ f u):Int) then jm (f_ f u) (t-iq f u).toNat else sec f t:=fun t=>by
  have e:gI cut ⟨4,0,iq f u,strOf (jm (f_ f u) 0)⟩ (qo ((dH (iq f u) (f_ f u)).take (nsec (f_ f u))) f)=iQ (qo ((dH (iq f u) (f_ f u)).take (nsec (f_ f u))) f) (iq f u) (strOf (jm (f_ f u) 0)) cut:=rfl;rw[e,mO hz hf.1 (by omega) (eQ _ _)];have w:=fun t=>vV h.sz hf.1 (b:=f_ f u) (by omega) hl.1 hs.1 (Nat.le_refl _) t;rw[w t,w (iq f u),if_pos rfl]
  split
  ·rfl
  ·rfl
 have hat:i<2048->W[i]?=(sec (gI cut ⟨4,0,iq f u,strOf (jm (f_ f u) 0)⟩ (qo ((dH (iq f u) (f_ f u)).take (nsec (f_ f u))) f)) (iq f u+((i / 256:Nat):Int)))[i % 256]?:=fun hi=>by
  have:=aWv hz2 hf.1 (by omega) (i:=i / 256) (j:=i % 256) (by omega) (by omega);rw[show 256*(i / 256)+i % 256=i from by omega] at this;exact this
 refine⟨fun hi hcut=>?_,fun c0 c1 c2 c3=>?_⟩
 ·rw[hat (by omega),Dk]
  by_cases h0:i<256
  ·rw[if_pos (by omega),show i % 256=i from by omega];unfold y8
   by_cases hc:cut<0\/((jm (f_ f u) 0).length:Int)<=cut
   ·rw[if_pos hc,aRp h0 (by omega),Nat.mul_zero,Nat.zero_add]
   ·rw[if_neg hc];rw[eQ] at hc;rw[List.getElem?_append_left (by rw[List.length_take,eQ];omega),List.getElem?_take,if_pos (by omega),aRp h0 (by omega),Nat.mul_zero,Nat.zero_add]
  ·rw[if_neg (by omega),if_pos (by unfold nsec;omega),show (iq f u+((i / 256:Nat):Int)-iq f u).toNat=i / 256 from by omega,aRp (by omega) (by omega),show 256*(i / 256)+i % 256=i from by omega]
 ·rw[hat (by omega),Dk,if_pos (by omega),show i % 256=i from by omega];unfold y8;rw[if_neg (by rw[eQ];omega),List.getElem?_append_right (by rw[List.length_take,eQ];omega),List.length_take,eQ,List.getElem?_drop,xC (by omega)]
inductive UZ(f:Fl)(u:GU)(x:Int×List UInt8):Prop
 |old (h:x=Da f u.dh (1-((eu f u.dh).2:Int)))
 |bad (h:x=(0,[]))
 |new (h:x=((eu f u.dh).1.1+1,u.content.data.toList))
 |odd (s:List UInt8) (h:x=((eu f u.dh).1.1+1,s)) (hl:s.length<=2000) (hc:∀ i,i<(encS u.dh ((eu f u.dh).1.1+1) s).length->(encS u.dh ((eu f u.dh).1.1+1) s)[i]?=some 0\/(i<(f_ f u).length/\(encS u.dh ((eu f u.dh).1.1+1) s)[i]?=(f_ f u)[i]?))
theorem aDr(h:Fine f u){cut:Int}(hc:cut<0\/256<=cut):oh u.dh (sV (gI cut ⟨4,0,iq f u,strOf (jm (f_ f u) 0)⟩ (qo ((dH (iq f u) (f_ f u)).take (nsec (f_ f u))) f)) (iq f u))=((eu f u.dh).1.1+1,u.content.data.toList):=by
 have hr:=aAa f u.dh;have hb:=last_at h cut;obtain⟨W,hW⟩:∃ W,sV (gI cut ⟨4,0,iq f u,strOf (jm (f_ f u) 0)⟩ (qo ((dH (iq f u) (f_ f u)).take (nsec (f_ f u))) f)) (iq f u)=W:=⟨_,rfl⟩;rw[hW] at hb ⊢
 have e:W=f_ f u++W.drop (f_ f u).length:=by
  have:W.take (f_ f u).length=f_ f u:=by
   apply List.ext_getElem?;intro i;rw[List.getElem?_take]
   split
   ·rename_i hi;exact (hb i).1 hi (by omega)
   ·rw[List.getElem?_eq_none (by omega)]
  conv=>lhs;rw[<-List.take_append_drop (f_ f u).length W,this]
 rw[e];exact aMf _ _ _ _ (by omega) h.s (by rw[Array.length_toList];exact h.c)
theorem yK{g:Fl}(hz:Sz g){s:Int}(h1:0<=s)(h2:s+8<=128)(h:(sec g s)[0]?=some 0)(rec:Int):oh rec (sV g s)=(0,[]):=by
 have h0:=aWv hz h1 h2 (i:=0) (j:=0) (by omega) (by omega);rw[show s+((0:Nat):Int)=s from by omega,h] at h0
 cases hw:sV g s with
 |nil=>rw[hw] at h0;cases h0
 |cons b l=>
  rw[hw] at h0;cases h0;exact bGs _ _
theorem aXe(h:Fine f u){j:Nat}(hj:j<=nsec (f_ f u))(a:Acc)(ha:(dH (iq f u) (f_ f u))[j]?=some a){cut:Int}(h0:0<=cut):UZ f u (Da (gI cut a (qo ((dH (iq f u) (f_ f u)).take j) f)) u.dh (1-((eu f u.dh).2:Int))):=by
 have hl:=h.len;have hf:=h.first;have hs:=h.nsec;have hr:=aAa f u.dh;have hz:Sz (qo ((dH (iq f u) (f_ f u)).take j) f):=aPt h.sz;have hD:∀ g,Da g u.dh (1-((eu f u.dh).2:Int))=oh u.dh (sV g (iq f u)):=fun g=>rfl;rw[hD];rcases Nat.eq_zero_or_pos j with rfl|hp
 ·rw[dH,List.getElem?_cons_zero] at ha;cases ha;have e:gI cut ⟨4,0,iq f u,strOf iD⟩ (qo ((dH (iq f u) (f_ f u)).take 0) f)=iQ f (iq f u) (strOf iD) cut:=rfl;have Dk:=mO h.sz hf.1 (by omega) (b:=iD) jJ cut;rw[e]
  by_cases hc:cut=0
  ·subst hc;refine .old ?_;rw[hD];congr 1;refine yH fun t h3 h4=>?_;rw[Dk]
   split
   ·rename_i ht;subst ht;unfold y8;rw[if_neg (by rw[jJ];decide)];simp
   ·rfl
  ·refine .bad (yK (aFm h.sz _ _ _) hf.1 (by omega) ?_ _);rw[Dk,if_pos rfl];unfold y8
   split
   ·exact xC (by omega)
   ·rename_i hc2;have:iD.length=256:=jJ;rw[List.getElem?_append_left (by rw[List.length_take];omega),List.getElem?_take,if_pos (by omega)];exact xC (by omega)
 ·rcases Nat.lt_or_eq_of_le hj with hlt|rfl
  ·rw[aDk hp hlt] at ha;cases ha;refine .bad (yK (rU hz _ _) hf.1 (by omega) ?_ _);have e:gI cut ⟨4,0,iq f u+(j:Int),strOf (jm (f_ f u) j)⟩ (qo ((dH (iq f u) (f_ f u)).take j) f)=iQ (qo ((dH (iq f u) (f_ f u)).take j) f) (iq f u+(j:Int)) (strOf (jm (f_ f u) j)) cut:=rfl;rw[e,mO hz (by omega) (by omega) (eQ _ _),if_neg (by omega),vV h.sz hf.1 (by omega) hl.1 hp hj,if_pos rfl];exact xC (by omega)
  ·rw [oU _ _ hl.1] at ha;cases ha
   by_cases hc:256<=cut
   ·exact .new (aDr h (.inr hc))
   ·by_cases hcb:cut.toNat<=(f_ f u).length
    ·have hb:=last_at h cut;obtain⟨W,hW⟩:∃ W,sV (gI cut ⟨4,0,iq f u,strOf (jm (f_ f u) 0)⟩ (qo ((dH (iq f u) (f_ f u)).take (nsec (f_ f u))) f)) (iq f u)=W:=⟨_,rfl⟩;rw[hW] at hb ⊢;rcases aQb (rec:=u.dh) (seq:=(eu f u.dh).1.1+1) (c:=u.content.data.toList) (W:=W) (cut:=cut.toNat) (by omega) h.s (by rw[Array.length_toList];exact h.c) hcb (fun i hi=>(hb i).1 (by omega) (by omega)) (fun i hi hi2=>(hb i).2 h0 (by omega) (by omega) hi2) with hd|⟨s,hd,hsl,hw⟩
     ·exact .bad hd
     ·have hle:(encS u.dh ((eu f u.dh).1.1+1) s).length<=(f_ f u).length:=aPz _ _ hsl;refine .odd s hd (by have:=h.c;rw[Array.length_toList] at hsl;change s.length<=u.content.size at hsl;omega) fun i hi=>?_
      have hwi:(encS u.dh ((eu f u.dh).1.1+1) s)[i]?=W[i]?:=by rw[<-hw,List.getElem?_take,if_pos hi]
      rw[hwi]
      by_cases hi2:(i:Int)<cut\/256<=i
      ·exact .inr ⟨by omega,(hb i).1 (by omega) (by omega)⟩
      ·exact .inl ((hb i).2 h0 (by omega) (by omega) (by omega))
    ·refine .new ?_;have hb:=last_at h cut;obtain⟨W,hW⟩:∃ W,sV (gI cut ⟨4,0,iq f u,strOf (jm (f_ f u) 0)⟩ (qo ((dH (iq f u) (f_ f u)).take (nsec (f_ f u))) f)) (iq f u)=W:=⟨_,rfl⟩;rw[hW] at hb ⊢
     have e:W=f_ f u++W.drop (f_ f u).length:=by
      have:W.take (f_ f u).length=f_ f u:=by
       apply List.ext_getElem?;intro i;rw[List.getElem?_take]
       split
       ·rename_i hi;exact (hb i).1 hi (by omega)
       ·rw[List.getElem?_eq_none (by omega)]
      conv=>lhs;rw[<-List.take_append_drop (f_ f u).length W,this]
     rw[e];exact aMf _ _ _ _ (by omega) h.s (by rw[Array.length_toList];exact h.c)
end
end
namespace Pv
def TV:Spec:=bD true fun xs=>match xs with
 |[.w (.one (.lit (.string s))),.w (.one (.lit (.int .i64 c)))]=>some (0<=c/\c<=1000000/\s.size<=1,pg (strOf (Lib.repeatL s.data.toList c.toNat)))
 |_=>none
theorem V_{I:World->Prop}:aj Tryz.prog I 141 TV:=by
 refine bC (aF Tryz.func141 (by kernel_rfl) rfl) (fun xs p r hg hp w ok0 vs hI hv=>?_)
 split at hg
 ·rename_i s c;cases hg
  match vs,hv with
  |[v1,v2],⟨k1,k2,_⟩=>
   obtain rfl:=k1.dw
   obtain rfl:=k2.dw
   obtain⟨h1,h2,h3⟩:=hp;obtain⟨n,rfl⟩:∃ n:Nat,c=(n:Int):=⟨c.toNat,by omega⟩;refine (aEi s n w (by omega) (by have:=Nat.mul_le_mul h3 (show n<=1000000 by omega);omega)).mono ?_;rintro e w' ⟨rfl,hB⟩
   exact⟨_,rfl,Ext.of_below hB,.w (.one (.lit rfl))⟩
 ·cases hg
def TW:Spec:=bD true fun xs=>match xs with
 |[.w (.one (.lit (.string s))),.w (.one (.lit (.string p)))]=>some (True,qi (Lib.hasPrefix s.data.toList p.data.toList))
 |_=>none
theorem VE{I:World->Prop}:aj Tryz.prog I 170 TW:=by
 refine bC (aF Tryz.func170 (by kernel_rfl) rfl) (fun xs p r hg hp w ok0 vs hI hv=>?_)
 split at hg
 ·rename_i s p;cases hg
  match vs,hv with
  |[v1,v2],⟨k1,k2,_⟩=>
   obtain rfl:=k1.dw
   obtain rfl:=k2.dw
   refine (aLq s p w).mono ?_;rintro e w' ⟨rfl,rfl⟩
   exact⟨_,rfl,Ext.refl _,.w (.one (.lit rfl))⟩
 ·cases hg
theorem wY(s p:List UInt8):Lib.hasPrefix s p=decide (s.take p.length=p):=by
 unfold Lib.hasPrefix
 by_cases h:s.take p.length=p
 ·rw[decide_eq_true h,List.isPrefixOf_iff_prefix];rw[<-h];exact List.take_prefix _ _
 ·rw[decide_eq_false h]
  cases hb:p.isPrefixOf s with
  |false=>rfl
  |true=>exact absurd (List.prefix_iff_eq_take.1 (List.isPrefixOf_iff_prefix.1 hb)).symm h
theorem aIw(rec k:Int):-1<=dP rec k/\dP rec k<=56:=by unfold dP;split<;>omega
theorem bFv{I:World->Prop}(hI0:∀ w w',Ext w w'->I w->I w')(rec k:Int):gQ Tryz.prog I 134 true [iy rec,iy k] (iy (dP rec k)):=by
 have M:lm Tryz.prog I (find []):=⟨bV (fun p hp=>by cases hp),fK⟩;refine bM Tryz.func134 rfl rfl hI0 (fun A hS hn hI=>?_);refine aB M hI hn (by rfl) (by kernel_rfl) ?_ ?_
 ·simp
 refine aP ?_;refine aB M hI hn (by rfl) (by kernel_rfl) ?_ ?_
 ·simp
 refine aH (by rfl) (fun hc=>?_) (fun hc=>?_)
 ·refine aB M hI hn (by rfl) (by kernel_rfl) ?_ ?_
  ·simp
  refine aK (fun a w hg=>⟨.inr rfl,_,?_,hg⟩);refine aC (by rfl) (by simp) (by rfl) (by rfl) ?_
  have h:rec<0\/3<rec\/k<0\/1<k:=by simp at hc;omega
  unfold dP;rw[if_pos h]
 ·refine aO ?_;change ja _ _ _ _ _;refine aB M hI hn (by rfl) (by kernel_rfl) ?_ ?_
  ·simp
  refine aK (fun a w hg=>⟨.inr rfl,_,?_,hg⟩);refine aC (by rfl) (by simp) (by rfl) (by rfl) ?_
  have h:¬(rec<0\/3<rec\/k<0\/1<k):=by simp at hc;omega
  refine congrArg iy ?_;unfold dP;rw[if_neg h];simp only[IntKind.wrap_i64];omega
theorem aXv{I:World->Prop}(hI0:∀ w w',Ext w w'->I w->I w')(rec k:Int):gQ Tryz.prog I 115 true [iy rec,iy k] (iy (dP rec k)):=by
 have M:lm Tryz.prog I (find []):=⟨bV (fun p hp=>by cases hp),fK⟩;refine bM Tryz.func115 rfl rfl hI0 (fun A hS hn hI=>?_);refine aB M hI hn (by rfl) (by kernel_rfl) ?_ ?_
 ·simp
 refine aP ?_;refine aB M hI hn (by rfl) (by kernel_rfl) ?_ ?_
 ·simp
 refine aH (by rfl) (fun hc=>?_) (fun hc=>?_)
 ·refine aB M hI hn (by rfl) (by kernel_rfl) ?_ ?_
  ·simp
  refine aK (fun a w hg=>⟨.inr rfl,_,?_,hg⟩);refine aC (by rfl) (by simp) (by rfl) (by rfl) ?_
  have h:rec<0\/3<rec\/k<0\/1<k:=by simp at hc;omega
  unfold dP;rw[if_pos h]
 ·refine aO ?_;change ja _ _ _ _ _;refine aB M hI hn (by rfl) (by kernel_rfl) ?_ ?_
  ·simp
  refine aK (fun a w hg=>⟨.inr rfl,_,?_,hg⟩);refine aC (by rfl) (by simp) (by rfl) (by rfl) ?_
  have h:¬(rec<0\/3<rec\/k<0\/1<k):=by simp at hc;omega
  refine congrArg iy ?_;unfold dP;rw[if_neg h];simp only[IntKind.wrap_i64];omega
theorem aMi(X Y:List UInt8):qm X.length (p_ X) (p_ Y)=p_ (X++Y):=by
 funext i;unfold qm p_
 by_cases h:i<X.length
 ·rw[if_pos h,zG,zG,List.getElem?_append_left h]
 ·rw[if_neg h,zG,zG,List.getElem?_append_right (by omega)]
theorem aGd{n:Nat}{f g:Nat->List PC}(h1:∀ i,(f i).all (dG false)=true)(h2:∀ i,(g i).all (dG false)=true):∀ i,(qm n f g i).all (dG false)=true:=fun i=>by
 unfold qm
 split
 ·exact h1 i
 ·exact h2 _
theorem aJe(rec seq:Int)(c:ByteArray)(h1:jb rec)(h2:jb seq)(hc:c.size<=3000):Xe Tryz.prog a_ 143 [iy rec,iy seq,pg c] 5 1 (encS rec seq c.data.toList).length (p_ (encS rec seq c.data.toList)):=by
 have M:=aCY
 have hb1:Tryz.prog.types[5].bytes=1:=by kernel_rfl
 have hs1:Tryz.prog.types[5].size=1:=by kernel_rfl
 have hw1:=aY seq;have hw2:=aY rec;have hw3:=fO c.data.toList;have hcl:c.data.toList.length=c.size:=Array.length_toList;refine aPo Tryz.func143 rfl rfl bU (fun A hS hn hI=>?_);refine aB M hI hn (by rfl) (by kernel_rfl) ?_ ?_
 ·simp
 refine aB M hI hn (by rfl) (by kernel_rfl) ?_ ?_
 ·simp
  refine⟨h2,by omega,?_⟩
  rw[hb1];omega
 refine aI (s':=⟨[(0,none,iy rec),(7,none,dn (.ow 1001 0 1 0 (x_ seq c.data.toList).length))],[(1001,none,0,.arr 5 1 (x_ seq c.data.toList).length (p_ (x_ seq c.data.toList)))]⟩) (fun a w hg=>(hg.reset (kT:=[0,7]) (kO:=[1001]) (by rfl) ?_).same ?_ ?_) ?_
 ·simp only[All,and_true,List.append_nil];exact fun i _=>aGd (fun _=>rfl) (fun _=>rfl) i
 ·refine .cons rfl (.cons ?_ .nil);rw[hs1,x_,List.length_append]
 ·refine .cons (.arr ?_ (fun i hi=>?_)) .nil
  ·rw[x_,List.length_append]
  ·simp only[Nat.zero_add];exact congrFun (aMi (b_ seq) (bT c.data.toList)) i
 have hel:(x_ seq c.data.toList).length<=4000:=by unfold x_;rw[List.length_append];omega
 have hdl:=iW 5 [b_ rec,x_ seq c.data.toList];refine aB M hI hn (by rfl) (by kernel_rfl) ?_ ?_
 ·simp
  exact⟨h1,by omega,by omega⟩
 refine aB M hI hn (by rfl) (by kernel_rfl) ?_ ?_
 ·simp;rw[hb1];omega
 refine aI (s':=⟨[(6,none,dn (.ow 1001 0 1 0 (encS rec seq c.data.toList).length))],[(1001,none,0,.arr 5 1 (encS rec seq c.data.toList).length (p_ (encS rec seq c.data.toList)))]⟩) (fun a w hg=>(hg.reset (kT:=[6]) (kO:=[1001]) (by rfl) ?_).same ?_ ?_) ?_
 ·simp only[All,and_true,List.append_nil,List.nil_append,List.cons_append];exact fun i _=>aGd (fun _=>rfl) (fun _=>rfl) i
 ·refine .cons ?_ .nil;rw[encS,List.length_append,hdl];exact congrArg (fun n=>dn (.ow 1001 0 n 0 ((x_ seq c.data.toList).length+16))) hs1
 ·refine .cons (.arr ?_ (fun i hi=>?_)) .nil
  ·rw[encS,List.length_append,hdl]
  ·simp only[fQ];exact congrFun (aMi (x_ seq c.data.toList) (jS 5 [b_ rec,x_ seq c.data.toList])) i
 refine aK (fun a w hg=>⟨.inr rfl,_,?_,hg⟩);refine aUv (x:=1001) (ai:=0) (g:=none) (f:=?_) (out:=?_) ?_ ?_ ?_ ?_ ?_ trivial ?_;rotate_left 2
 ·rfl
 ·simp
 ·rfl
 ·rfl
 ·rfl
 intro i hi
 exact⟨rfl,rfl⟩
def Tf:Spec:=aKl fun xs=>match xs with
 |[.w (.one (.lit (.int .i64 rec))),.w (.one (.lit (.int .i64 seq))),.w (.one (.lit (.string c)))]=>some (jb rec/\jb seq/\c.size<=3000,5,1,(encS rec seq c.data.toList).length,p_ (encS rec seq c.data.toList))
 |_=>none
theorem X7:aj Tryz.prog a_ 143 Tf:=by
 refine aId (aF Tryz.func143 (by kernel_rfl) rfl) (fun xs p e n len f' hg hp=>?_)
 split at hg
 ·rename_i rec seq c;cases hg;exact aJe rec seq c hp.1 hp.2.1 hp.2.2
 ·cases hg
def aKe:Spec:=bD true fun xs=>match xs with
 |[.w (.one (.lit (.int .i64 rec))),.w (.one (.lit (.int .i64 k)))]=>some (True,iy (dP rec k))
 |_=>none
theorem MH:aj Tryz.prog a_ 134 aKe:=by
 refine bC (aF Tryz.func134 (by kernel_rfl) rfl) (fun xs p r hg hp=>?_)
 split at hg
 ·cases hg;exact bFv bU _ _
 ·cases hg
theorem bCk:aj Tryz.prog a_ 115 aKe:=by
 refine bC (aF Tryz.func115 (by kernel_rfl) rfl) (fun xs p r hg hp=>?_)
 split at hg
 ·cases hg;exact aXv bU _ _
 ·cases hg
def PM:List (Nat×Spec):=(143,Tf)::(170,TW)::(141,TV)::(134,aKe)::(115,aKe)::aEW
theorem Hy:∀ p∈PM,aj Tryz.prog a_ p.1 p.2:=by
 intro p hp;simp only[PM,List.mem_cons] at hp;rcases hp with rfl|rfl|rfl|rfl|rfl|hp
 ·exact X7
 ·exact VE
 ·exact V_
 ·exact MH
 ·exact bCk
 ·exact XD p hp
theorem aLZ:lm Tryz.prog a_ (find PM):=⟨bV Hy,fK⟩
def aFZ(x:Int×List UInt8):PV:=.w (.agg [.lit (.int .i64 x.1),.lit (.string (strOf x.2))])
theorem aZo(rec:Int)(b:List UInt8)(h1:jb rec)(hb:b.length<4611686018427387904):gQ Tryz.prog a_ 166 true [iy rec,oq b] (aFZ (oh rec b)):=by
 have M:=aLZ;have hle:=qQ b;have hrg:=iR b;refine bM Tryz.func166 rfl rfl bU (fun A hS hn hI=>?_);refine aB M hI hn (by rfl) (by kernel_rfl) ?_ ?_
 ·simp
 refine aB M hI hn (by rfl) (by kernel_rfl) ?_ ?_
 ·simp;exact hb
 refine aI (s':=⟨[(0,none,iy rec),(1,none,oq b),(4,none,dn (.pt 0 0 0)),(5,none,iy (d_ b).1),(6,none,iy ((d_ b).2.1:Int)),(7,none,iy (d_ b).2.2)],[(0,none,0,.box 205 [.lit (.int .i64 0),.lit (.string aS)])]⟩) (fun a w hg=>(hg.reset (kT:=[0,1,4,5,6,7]) (kO:=[0]) (by rfl) (by simp)).same ?_ ?_) ?_
 ·rw[fQ];exact .cons rfl (.cons rfl (.cons rfl (.cons rfl (.cons rfl (.cons rfl .nil)))))
 ·exact .cons (.box rfl) .nil
 obtain⟨m,hm⟩:∃ m,oh rec b=m:=⟨_,rfl⟩;rw[hm];have hcon:jG (b.drop (d_ b).2.1)=rf b:=rfl;have hcode:=aYy (b.drop (d_ b).2.1)
 have hpos:(rf b).2.2=0->(rf b).2.1≠0:=fun h0 h1=>by
  have he:jG (b.drop (d_ b).2.1)=((rf b).1,(rf b).2.1,0):=by rw[hcon,<-h0]
  have h2:=(Lj he).1;rw[h1,List.take_zero] at h2;have h3:=congrArg List.length h2;have h4:=aY ((rf b).1.length:Int);unfold bT at h3;rw[List.length_append] at h3
  have h5:(b_ ((rf b).1.length:Int)).length=0:=by simp at h3;omega
  have h6:=oO (b.drop (d_ b).2.1);rw[hcon,List.length_drop] at h6;have h7:=aJz ((rf b).1.length:Int) (by omega) (by omega);omega
 unfold oh at hm;have hsz:=oO (b.drop (d_ b).2.1);rw[hcon,List.length_drop] at hsz;rw[hcon] at hcode;generalize hg:d_ b=g at *;obtain⟨q,k,e⟩:=g;dsimp only at *;refine aP ?_;refine aB M hI hn (by rfl) (by kernel_rfl) ?_ ?_
 ·simp
 refine aH (by rfl) (fun hc=>?_) (fun hc=>?_)
 ·refine aB M hI hn (by rfl) (by kernel_rfl) ?_ ?_
  ·simp
  refine aK (fun a w hg=>⟨.inr rfl,_,?_,hg⟩);refine aC (by rfl) (by simp) (by rfl) (by rfl) ?_
  have h:e≠0\/q<1\/1099511627776<q:=by simp at hc;omega
  rw[if_pos h] at hm;rw[<-hm];rfl
 ·have h:¬(e≠0\/q<1\/1099511627776<q):=by simp at hc;omega
  rw[if_neg h] at hm;refine aO ?_;change ja _ _ _ _ _;refine aB M hI hn (by rfl) (by kernel_rfl) ?_ ?_
  ·simp
   refine⟨hle.1,?_⟩
   unfold jH;rw[fP];omega
  have X6:(rowB ((b.length:Int)-(k:Int)).toNat fun i=>p_ b ((k:Int).toNat+i))=b.drop k:=by
   rw[show ((b.length:Int)-(k:Int)).toNat=b.length-k from by omega,show (k:Int).toNat=k from by omega,nR (by omega)];exact List.take_of_length_le (by rw[List.length_drop];exact Nat.le_refl _)
  refine aI (s':=⟨[(0,none,iy rec),(1,none,oq b),(4,none,dn (.pt 0 0 0)),(5,none,iy q),(7,none,iy (rf b).2.2),(8,none,pg (strOf (rf b).1)),(9,none,iy ((rf b).2.1:Int))],[(0,none,0,.box 205 [.lit (.int .i64 0),.lit (.string aS)])]⟩) (fun a w hg=>(hg.reset (kT:=[0,1,4,5,7,8,9]) (kO:=[0]) (by rfl) (by simp)).same ?_ ?_) ?_
  ·rw[X6,hcon];exact .cons rfl (.cons rfl (.cons rfl (.cons rfl (.cons rfl (.cons rfl (.cons rfl .nil))))))
  ·exact .cons (.box rfl) .nil
  generalize rf b=c at *;obtain⟨s,n,e2⟩:=c;dsimp only at *;have WH:(strOf s).size=s.length:=bW s;refine aP ?_;refine aB M hI hn (by rfl) (by kernel_rfl) ?_ ?_
  ·simp;intro he hs;rw[WH] at hs ⊢
   exact⟨h1,by unfold jb;omega,by omega⟩
  refine aH (by rfl) (fun hc=>?_) (fun hc=>?_)
  ·refine aB M hI hn (by rfl) (by kernel_rfl) ?_ ?_
   ·simp
   refine aK (fun a w hg=>⟨.inr rfl,_,?_,hg⟩);refine aC (by rfl) (by simp) (by rfl) (by rfl) ?_;simp[wY,fQ,dD,WH] at hc
   have h2:e2≠0\/2000<s.length\/b.take (encS rec q s).length≠encS rec q s:=by
    rcases hc with ((h3|h3)|h3)|h3
    ·exact .inl h3
    ·exact .inr (.inl (by omega))
    ·exact .inr (.inr h3)
    ·by_cases h4:e2=0
     ·exact absurd h3 (hpos h4)
     ·exact .inl h4
   rw[if_pos h2] at hm;rw[<-hm];rfl
  ·refine aO ?_;change ja _ _ _ _ _;refine aB M hI hn (by rfl) (by kernel_rfl) ?_ ?_
   ·simp
   refine aK (fun a w hg=>⟨.inr rfl,_,?_,hg⟩);refine aC (by rfl) (by simp) (by rfl) (by rfl) ?_;simp[wY,fQ,dD,WH] at hc
   have h2:¬(e2≠0\/2000<s.length\/b.take (encS rec q s).length≠encS rec q s):=by
    rintro (h3|h3|h3)
    ·exact h3 hc.1.1.1
    ·omega
    ·exact h3 hc.1.2
   rw[if_neg h2] at hm;rw[<-hm];rfl
def Ti:Spec:=bD true fun xs=>match xs with
 |[.w (.one (.lit (.int .i64 rec))),v]=>(match Ez v with
  |some (p,l)=>some (p/\jb rec/\l.length<4611686018427387904,aFZ (oh rec l))
  |none=>none)
 |_=>none
theorem X9:aj Tryz.prog a_ 166 Ti:=by
 refine bC (aF Tryz.func166 (by kernel_rfl) rfl) (fun xs p r hg hp=>?_)
 split at hg
 ·rename_i rec v
  cases hq:Ez v with
  |none=>rw[hq] at hg;cases hg
  | some q=>
   obtain⟨p0,l⟩:=q;rw[hq] at hg;cases hg
   exact (aZo rec l hp.2.1 hp.2.2).args fun C vs hv=>by
    match vs,hv with
    |[x0,x],⟨h0,h1,_⟩=>exact⟨h0,wJ hq hp.1 h1,trivial⟩
 ·cases hg
theorem aSz{α:Type}(g:α->List Value)(k:Nat):∀ (l:List α) (vs:List Value),(∀ a∈l,(g a).length=k)->vs.length=l.length*k->(∀ (i:Nat) (hi:i<l.length),(vs.drop (i*k)).take k=g l[i])->vs=l.flatMap g
 |[],vs,_,hl,_=>by
  have:vs.length=0:=by simpa using hl
  rw[List.eq_nil_of_length_eq_zero this];rfl
 | a::l,vs,hg,hl,h=>by
  have h0:vs.take k=g a:=by
   have:=h 0 (by simp);rw[Nat.zero_mul,List.drop_zero] at this;exact this
  have ih:=aSz g k l (vs.drop k) (fun b hb=>hg b (List.mem_cons_of_mem _ hb)) (by rw[List.length_drop,hl,List.length_cons,Nat.succ_mul];omega) (fun i hi=>by
   have:=h (i+1) (by simpa using hi);rw[Nat.succ_mul] at this;rw[List.drop_drop,Nat.add_comm]
   exact this)
  rw[List.flatMap_cons,<-ih,<-h0];exact (List.take_append_drop k vs).symm
def mG(r:je):List PC:=[.lit (.int .i64 r.val),.lit (.string r.bytes)]
def FD(l:List je):Nat->List PC:=fun i=>mG (l.getD i ⟨0,aS⟩)
def Iz:List PC->je
 |[.lit (.int _ n),.lit (.string s)]=>⟨n,s⟩
 |_=>⟨0,aS⟩
def L9:List PC->Bool
 |[.lit (.int .i64 _),.lit (.string _)]=>true
 |_=>false
theorem L8{l:List PC}(h:L9 l=true):l=mG (Iz l):=by
 unfold L9 at h
 split at h
 ·rfl
 ·cases h
def sZ(n:Nat)(f:Nat->List PC):List je:=(List.range n).map fun i=>Iz (f i)
def aDf(n:Nat)(f:Nat->List PC):Prop:=∀ i,i<n->L9 (f i)=true
@[simp] theorem lS(n:Nat)(f:Nat->List PC):(sZ n f).length=n:=by simp[sZ]
theorem J3{n:Nat}{f:Nat->List PC}(h:aDf n f):∀ i,i<n->f i=FD (sZ n f) i:=fun i hi=>by
 unfold FD sZ;rw[zG,List.getElem?_map,List.getElem?_range hi];exact L8 (h i hi)
@[simp] theorem OW(n:Nat)(l:List je):aDf n (FD l):=fun _ _=>rfl
@[simp] theorem Tu(l:List je):sZ l.length (FD l)=l:=by
 apply List.ext_getElem (by simp);intro i h1 h2;simp only[sZ,List.getElem_map,List.getElem_range,FD,mG,Iz];rw[zG,zH h2];rfl
theorem bCn{C:Ctx}{n:Nat}{f:Nat->List PC}{v:Value}(h:R C (.sl 2 n f) [v])(hf:aDf n f):Reads C.w 2 v (sZ n f).length (logCells (sZ n f)):=by
 cases h with
 | sl hr hb he=>
  rename_i vs
  have:vs=logCells (sZ n f):=by
   refine aSz je.cells 2 (sZ n f) vs (fun a _=>rfl) (by rw[lS];exact hr.1) (fun i hi=>?_);rw[lS] at hi;have h1:=he i hi;rw[J3 hf i hi] at h1;unfold FD at h1;rw[zG,zH (by rw[lS];exact hi)] at h1;generalize (sZ n f)[i]'(by rw[lS];exact hi)=r at h1 ⊢;generalize (vs.drop (i*2)).take 2=xs at h1 ⊢
   cases h1 with
   | cons k1 h1=>cases h1 with
    |cons k2 h1=>
     cases h1;cases k1;cases k2;rfl
  rw[<-this,lS];exact hr
def Uw:PC->Option (Prop×List je)
 |.sl 2 n f=>some (aDf n f,sZ n f)
 |.lit (.slice none 0 0)=>some (True,[])
 |_=>none
theorem PX{C:Ctx}{c:PC}{v:Value}{p:Prop}{l:List je}(h:Uw c=some (p,l))(hp:p)(hr:R C c [v]):Reads C.w 2 v l.length (logCells l):=by
 unfold Uw at h
 split at h
 ·cases h;exact bCn hr hp
 ·cases h;cases hr;exact Reads.nil _ 2
 ·cases h
def tN(a:Acc):List PC:=[.lit (.int .i64 a.kind),.lit (.int .i64 a.ay),.lit (.int .i64 a.cell),.lit (.string a.bytes)]
def yI(O:List Acc->Option je){α:Type}(p:ah α)(l:List Acc)(q:ah α)(k:List Acc):Prop:=l <+: k/\go O p l=go O q k
theorem yI.start(O:List Acc->Option je){α:Type}(p:ah α)(l:List Acc):yI O p l p l:=⟨List.prefix_refl _,rfl⟩
theorem yI.step{α β:Type}{O:List Acc->Option je}{p:ah α}{l k:List Acc}{q:ah β}{f:β->ah α}(h:yI O p l (q.bind f) k):yI O p l (f (go O q k).1) (go O q k).2:=
 ⟨h.1.trans (vG O q k),h.2.trans (xZ O q f k)⟩
theorem yI.di{α β:Type}{O:List Acc->Option je}{p:ah α}{l k:List Acc}{q:ah β}{f:β->ah α}(h:yI O p l (q.bind f) k):∀ g,k <+: g->g <+: (go O q k).2->O g=none->l <+: g/\g <+: (go O p l).2:=fun g h1 h2 _=>by
 refine⟨h.1.trans h1,h2.trans ?_⟩
 rw[h.step.2];exact vG _ _ _
theorem VV{I:World->Prop}:lm Tryz.prog I (find ([]:List (Nat×Spec))):=⟨fun f sp h=>(by cases h),(by kernel_rfl)⟩
theorem VB{I:World->Prop}(c:Int):C_ Tryz.prog I 165 (ah.rd c) [.w (.one .dv),iy c] pg:=by
 intro O l;have M:=VV (I:=I);refine kD Tryz.func165 rfl rfl rfl (fun A hn hI=>?_);refine aB M hI hn (by rfl) (by kernel_rfl) ?_ ?_
 ·simp
 refine aB M hI hn (by rfl) (by kernel_rfl) ?_ ?_
 ·exact⟨aKw (oI _) (oI _),trivial⟩
 refine aK (fun a w hg=>⟨.inr rfl,_,⟨?_,(fun o ho=>by cases ho),fun p hp=>?_⟩,hg⟩);rotate_left 1
 ·cases hp;rfl
 refine aC (by rfl) (by simp) (by rfl) (by rfl) ?_;rfl
theorem Gg{I:World->Prop}(c:Int)(b:ByteArray):C_ Tryz.prog I 140 (ah.wr c b) [.w (.one .dv),iy c,pg b] (fun _=>.lw []):=by
 intro O l;have M:=VV (I:=I);refine kD Tryz.func140 rfl rfl rfl (fun A hn hI=>?_);refine aQ M hI hn (by rfl) (by kernel_rfl) ?_ ?_
 ·exact⟨aKw (oI _) (oI _),trivial⟩
 intro a w hg
 refine⟨.inl rfl,_,⟨?_,(fun o ho=>by cases ho),fun p hp=>?_⟩,hg⟩
 rotate_left 1
 ·cases hp;rfl
 refine aC (by rfl) (by simp) (by rfl) (by rfl) ?_;rfl
def NG:List PV->Option (Prop×ah ByteArray×(ByteArray->PV))
 |[.w (.one (.lit (.int .i64 c)))]=>some (True,ah.rd c,pg)
 |_=>none
def NE:List PV->Option (Prop×ah Unit×(Unit->PV))
 |[.w (.one (.lit (.int .i64 c))),.w (.one (.lit (.string b)))]=>some (True,ah.wr c b,fun _=>.lw [])
 |_=>none
theorem Po{I:World->Prop}:aj Tryz.prog I 165 (lT NG):=
 pJ (aF Tryz.func165 (by kernel_rfl) rfl) (fun ys c p v h _=>by
  unfold NG at h
  split at h
  ·cases h;exact (VB _).toB
  ·cases h)
theorem P6{I:World->Prop}:aj Tryz.prog I 140 (lT NE):=
 pJ (aF Tryz.func140 (by kernel_rfl) rfl) (fun ys c p v h _=>by
  unfold NE at h
  split at h
  ·cases h;exact (Gg _ _).toB
  ·cases h)
def Bl(a b:Int):Int:=if a<b then -1 else if b<a then 1 else 0
theorem QR{I:World->Prop}(hI0:∀ w w',Ext w w'->I w->I w')(a:Int):gQ Tryz.prog I 197 true [iy a] (qi false):=by
 have M:=VV (I:=I);refine bM Tryz.func197 rfl rfl hI0 (fun A hS hn hI=>?_);refine aB M hI hn (by rfl) (by kernel_rfl) ?_ ?_
 ·simp
 refine aB M hI hn (by rfl) (by kernel_rfl) ?_ ?_
 ·simp
 refine aK (fun a w hg=>⟨.inr rfl,_,?_,hg⟩);refine aC (by rfl) (by simp) (by rfl) (by rfl) ?_;simp
def Tc:Spec:=bD true fun xs=>match xs with
 |[.w (.one (.lit (.int .i64 _)))]=>some (True,qi false)
 |_=>none
theorem VY:aj Tryz.prog a_ 197 Tc:=by
 refine bC (aF Tryz.func197 (by kernel_rfl) rfl) (fun xs p r hg hp=>?_)
 split at hg
 ·cases hg;exact QR bU _
 ·cases hg
def aPD:List (Nat×Spec):=[(197,Tc)]
theorem aPF:lm Tryz.prog a_ (find aPD):=⟨bV (fun p hp=>by
 obtain rfl:=List.mem_singleton.1 hp
 exact VY),fK⟩
theorem SN(a b:Int):gQ Tryz.prog a_ 185 true [iy a,iy b] (iy (Bl a b)):=by
 have M:=aPF;refine bM Tryz.func185 rfl rfl bU (fun A hS hn hI=>?_);refine aB M hI hn (by rfl) (by kernel_rfl) ?_ ?_
 ·simp
 refine aB M hI hn (by rfl) (by kernel_rfl) ?_ ?_
 ·simp
 refine aB M hI hn (by rfl) (by kernel_rfl) ?_ ?_
 ·simp
 refine aP ?_;refine aB M hI hn (by rfl) (by kernel_rfl) ?_ ?_
 ·simp
 refine aH (by rfl) (fun hc=>?_) (fun hc=>?_)
 ·cases hc
 refine aO ?_;change ja _ _ _ _ _;refine aP ?_;refine aB M hI hn (by rfl) (by kernel_rfl) ?_ ?_
 ·simp
 refine aH (by rfl) (fun hc=>?_) (fun hc=>?_)
 ·cases hc
 refine aO ?_;change ja _ _ _ _ _;refine aP ?_;refine aB M hI hn (by rfl) (by kernel_rfl) ?_ ?_
 ·simp
 refine aH (by rfl) (fun hc=>?_) (fun hc=>?_)
 ·refine aB M hI hn (by rfl) (by kernel_rfl) ?_ ?_
  ·simp
  refine aK (fun a w hg=>⟨.inr rfl,_,?_,hg⟩);refine aC (by rfl) (by simp) (by rfl) (by rfl) ?_;unfold Bl;rw[if_pos (of_decide_eq_true hc)]
 ·refine aO ?_;change ja _ _ _ _ _;have h1:¬a<b:=of_decide_eq_false hc;refine aP ?_;refine aB M hI hn (by rfl) (by kernel_rfl) ?_ ?_
  ·simp
  refine aH (by rfl) (fun hc=>?_) (fun hc=>?_)
  ·refine aB M hI hn (by rfl) (by kernel_rfl) ?_ ?_
   ·simp
   refine aK (fun a w hg=>⟨.inr rfl,_,?_,hg⟩);refine aC (by rfl) (by simp) (by rfl) (by rfl) ?_;unfold Bl;rw[if_neg h1,if_pos (of_decide_eq_true hc)]
  ·refine aO ?_;change ja _ _ _ _ _;refine aB M hI hn (by rfl) (by kernel_rfl) ?_ ?_
   ·simp
   refine aK (fun a w hg=>⟨.inr rfl,_,?_,hg⟩);refine aC (by rfl) (by simp) (by rfl) (by rfl) ?_;unfold Bl;rw[if_neg h1,if_neg (of_decide_eq_false hc)]
def Tj:Spec:=bD true fun xs=>match xs with
 |[.w (.one (.lit (.int .i64 a))),.w (.one (.lit (.int .i64 b)))]=>some (True,iy (Bl a b))
 |_=>none
theorem SQ:aj Tryz.prog a_ 185 Tj:=by
 refine bC (aF Tryz.func185 (by kernel_rfl) rfl) (fun xs p r hg hp=>?_)
 split at hg
 ·cases hg;exact SN _ _
 ·cases hg
def aPC:List (Nat×Spec):=[(185,Tj)]
theorem aPE:lm Tryz.prog a_ (find aPC):=⟨bV (fun p hp=>by
 obtain rfl:=List.mem_singleton.1 hp
 exact SQ),fK⟩
def arL(a:Int)(s:ByteArray):PV:=.w (.agg [.lit (.int .i64 a),.lit (.string s)])
theorem aTp(a b:Int)(s t:ByteArray):gQ Tryz.prog a_ 167 true [arL a s,arL b t] (iy (Bl a b)):=by
 have M:=aPE;refine bM Tryz.func167 rfl rfl bU (fun A hS hn hI=>?_);refine aB M hI hn (by rfl) (by kernel_rfl) ?_ ?_
 ·simp
 refine aB M hI hn (by rfl) (by kernel_rfl) ?_ ?_
 ·simp
 refine aK (fun a w hg=>⟨.inr rfl,_,?_,hg⟩);refine aC (by rfl) (by simp) (by rfl) (by rfl) ?_;rfl
def I9:Spec:=bD true fun xs=>match xs with
 |[.w (.agg [.lit (.int .i64 a),.lit (.string _)]),.w (.agg [.lit (.int .i64 b),.lit (.string _)])]=>some (True,iy (Bl a b))
 |_=>none
theorem T_:aj Tryz.prog a_ 167 I9:=by
 refine bC (aF Tryz.func167 (by kernel_rfl) rfl) (fun xs p r hg hp=>?_)
 split at hg
 ·cases hg;exact aTp _ _ _ _
 ·cases hg
def PL:List (Nat×Spec):=(165,lT NG)::(140,lT NE)::(167,I9)::(166,Ti)::PM
theorem Hw:∀ p∈PL,aj Tryz.prog a_ p.1 p.2:=by
 intro p hp;simp only[PL,List.mem_cons] at hp;rcases hp with rfl|rfl|rfl|rfl|hp
 ·exact Po
 ·exact P6
 ·exact T_
 ·exact X9
 ·exact Hy p hp
theorem aLY:lm Tryz.prog a_ (find PL):=⟨bV Hw,fK⟩
def bCr(rec:Int):Nat->Int×List UInt8->Int×List UInt8->ah ((Int×List UInt8)×Nat)
 |0,_,_=>ah.cur rec
 |1,x,_=>(ah.uf (dP rec 1) 8 []).bind fun b=>.ret (ui x (oh rec b))
 |_,x,y=>.ret (ui x y)
def rdO(x y:Int×List UInt8):Wr:=[(0,none,0,.box 205 [.lit (.int .i64 0),.lit (.string aS)]),(1000,none,0,.box 233 [.lit (.int .i64 x.1),.lit (.string (strOf x.2)),.lit (.int .i64 y.1),.lit (.string (strOf y.2))])]
def rdT(rec:Int)(k:Nat):List (Nat×Option Bool×PV):=[(0,none,.w (.one .dv)),(1,none,iy rec),(4,none,dn (.pt 0 0 0)),(5,none,iy 0),(6,none,dn (.pt 1000 0 0)),(11,none,iy k)]
def Ht(O:List Acc->Option je)(di:List Acc->Prop)(rec:Int)(k:Nat)(x y:Int×List UInt8)(lk:List Acc):St:=⟨rdT rec k,(dx,none,0,.dev O di lk)::rdO x y⟩
def aBZ(O:List Acc->Option je)(di:List Acc->Prop)(rec:Int)(k:Nat)(x y:Int×List UInt8)(i:Nat)(b:List UInt8)(lk:List Acc):St:=
 ⟨(7,none,iy k)::(8,none,dn (.ow 5000 0 1 0 b.length))::(14,none,iy i)::rdT rec k,(dx,none,0,.dev O di lk)::(5000,none,0,.arr 5 1 b.length (p_ b))::rdO x y⟩
def J6(rec:Int):Nat->Int×List UInt8->List UInt8->ah ((Int×List UInt8)×Nat)
 |0,_,a=>bCr rec 1 (oh rec a) (0,[])
 |_,x,b=>.ret (ui x (oh rec b))
theorem bCq{rec:Int}{k:Nat}(hk:k<2)(x y:Int×List UInt8):bCr rec k x y=(ah.uf (dP rec k) 8 []).bind (J6 rec k x):=by
 rcases (by omega:k=0\/k=1) with rfl|rfl<;>rfl
theorem aXq{F:Int}{i:Nat}(hi:i<8)(b:List UInt8){α:Type}(f:List UInt8->ah α):(ah.uf F (8-i) b).bind f=(ah.rd (F+i)).bind fun s=>(ah.uf F (8-(i+1)) (b++s.data.toList)).bind f:=by
 have e:8-i=(7-i)+1:=by omega
 rw[e,ah.uf,ah.bind_assoc,show 7-(7-i)=i from by omega,show 8-(i+1)=7-i from by omega]
theorem aWn(b:List UInt8)(i:Nat):∀ x∈p_ b i,dG false x=true:=fun x hx=>by
 change x∈[_] at hx;rw[List.mem_singleton] at hx;subst hx;rfl
theorem aOb(b:List UInt8):(rowB b.length fun i=>p_ b (0+i))=b:=by simp only[Nat.zero_add];exact fQ b
theorem bHe(a b:Int):decide (Bl a b<0)=decide (a<b):=by
 unfold Bl
 by_cases h:a<b
 ·rw[if_pos h,decide_eq_true h];rfl
 ·rw[if_neg h,decide_eq_false h]
  split<;>rfl
theorem aXk(rec:Int)(hr:jb rec):bIo Tryz.prog a_ 135 (ah.cur rec) [.w (.one .dv),iy rec] (fun p=>.lw [.agg [.lit (.int .i64 p.1.1),.lit (.string (strOf p.1.2))],.one (.lit (.int .i64 (p.2:Int)))]):=by
 intro O l hO;have M:=aLY;refine kD Tryz.func135 rfl rfl rfl (fun A hn hI=>?_);generalize hstp:(fun h=>l <+: h/\h <+: (go O (ah.cur rec) l).2)=di;refine aB M hI hn (by rfl) (by kernel_rfl) ?_ ?_
 ·simp
 refine aB M hI hn (by rfl) (by kernel_rfl) ?_ ?_
 ·simp
 refine aP ?_;refine aB M hI hn (by rfl) (by kernel_rfl) ?_ ?_
 ·simp
 refine bP ?_;refine aI (s':=Ht O di rec 0 (0,[]) (0,[]) l) (fun a w hg=>(hg.reset (kT:=[0,1,4,5,6,11]) (kO:=[900000,0,1000]) (by rfl) (by simp)).same ?_ ?_) ?_
 ·exact .cons rfl (.cons rfl (.cons rfl (.cons rfl (.cons rfl (.cons rfl .nil)))))
 ·exact .cons (.dev rfl) (.cons (.box rfl) (.cons (.box rfl) .nil))
 refine iY 2 (fun k s=>∃ x y lk,s=Ht O di rec k x y lk/\yI O (ah.cur rec) l (bCr rec k x y) lk) 0 ⟨_,_,_,rfl,yI.start _ _ _⟩ (by omega) (fun k s hJ hk=>?_);obtain⟨x,y,lk,rfl,hL⟩:=hJ;refine aB M hI hn (by rfl) (by kernel_rfl) ?_ ?_
 ·simp
 refine aP ?_;refine aH (by rfl) (fun hc=>?_) (fun hc=>?_)
 ·have hk2:k<2:=by have:=of_decide_eq_true hc;omega
  refine aO ?_;change ja _ _ _ _ _;refine aP ?_;refine bP ?_;refine aB M hI hn (by rfl) (by kernel_rfl) ?_ ?_
  ·simp
  refine aB M hI hn (by rfl) (by kernel_rfl) ?_ ?_
  ·simp
  refine aP ?_;refine aB M hI hn (by rfl) (by kernel_rfl) ?_ ?_
  ·simp
  refine bP ?_;refine aI (s':=aBZ O di rec k x y 0 [] lk) (fun a w hg=>((hg.nilRow (x:=5000) (e:=5) (n:=1) (t:=8) (by rfl) (by rfl)).reset (kT:=[7,8,14,0,1,4,5,6,11]) (kO:=[900000,5000,0,1000]) (by rfl) (by simp)).same ?_ ?_) ?_
  ·exact .cons rfl (.cons rfl (.cons rfl (.cons rfl (.cons rfl (.cons rfl (.cons rfl (.cons rfl (.cons rfl .nil))))))))
  ·exact .cons (.dev rfl) (.cons (.arr rfl (fun i hi=>absurd hi (by simp))) (.cons (.box rfl) (.cons (.box rfl) .nil)))
  rw[bCq hk2] at hL;generalize hf:J6 rec k x=f at hL;refine iY 8 (fun i s=>∃ b lj,s=aBZ O di rec k x y i b lj/\b.length<=i*1000000/\yI O (ah.cur rec) l ((ah.uf (dP rec k) (8-i) b).bind f) lj) 0 ⟨_,_,rfl,by simp,hL⟩ (by omega) (fun i s hJ hi=>?_);obtain⟨b,lj,rfl,hb,hL2⟩:=hJ;refine aB M hI hn (by rfl) (by kernel_rfl) ?_ ?_
  ·simp
  refine aP ?_;refine aH (by rfl) (fun hc=>?_) (fun hc=>?_)
  ·have hi2:i<8:=by have:=of_decide_eq_true hc;omega
   refine aO ?_;change ja _ _ _ _ _;refine aP ?_;refine bP ?_;refine aB M hI hn (by rfl) (by kernel_rfl) ?_ ?_
   ·simp
   have hix:IntKind.i64.wrap (dP rec k+(i:Int))=dP rec k+(i:Int):=by have:=aIw rec k;exact eP (by omega) (by omega)
   rw[aXq hi2] at hL2;have hs:=hO.ans (lj++[⟨3,0,dP rec k+(i:Int),aS⟩]);change ((go O (ah.rd (dP rec k+(i:Int))) lj).1).size<=1000000 at hs;have hL3:=hL2.step;refine aQ M hI hn (by rfl) (by kernel_rfl) ?_ ?_
   ·simp;rw[hix]
    refine⟨hO,fun h h1 h2 h3=>?_,by omega⟩
    rw[<-hstp];exact hL2.di h h1 h2 h3
   change ja _ _ _ _ _;refine aQ M hI hn (by rfl) (by kernel_rfl) ?_ ?_
   ·simp
   intro a w hg
   refine⟨i+1,_,by omega,by omega,⟨_,_,rfl,?_,hL3⟩,(hg.reset (kT:=[7,8,14,0,1,4,5,6,11]) (kO:=[900000,5000,0,1000]) (by rfl) ?_).same ?_ ?_⟩
   ·rw[List.length_append,Array.length_toList];change b.length+((go O (ah.rd (dP rec k+(i:Int))) lj).1).size<=_;omega
   ·simp only[All,and_true,List.append_nil,List.nil_append];exact fun i _=>aGd (fun _=>rfl) (fun _=>rfl) i
   ·refine .cons rfl (.cons ?_ (.cons (by rw[gU i (by omega)]) (.cons rfl (.cons rfl (.cons rfl (.cons rfl (.cons rfl (.cons rfl .nil))))))));rw[hix,List.length_append,Array.length_toList];rfl
   ·refine .cons (.dev ?_) (.cons (.arr ?_ (fun j hj=>?_)) (.cons (.box rfl) (.cons (.box rfl) .nil)))
    ·show (go O (ah.rd (IntKind.i64.wrap (dP rec k+(i:Int)))) lj).2=_;rw[hix]
    ·rw[hix,List.length_append,Array.length_toList];rfl
    ·rw[hix];exact congrFun (aMi b _) j
  ·have hi2:i=8:=by have:=of_decide_eq_false hc;omega
   subst hi2;have hL3:yI O (ah.cur rec) l (f b) lj:=hL2;subst hf;refine iM ?_;change ja _ _ _ _ _;rcases (by omega:k=0\/k=1) with rfl|rfl
   ·refine aQ M hI hn (by rfl) (by kernel_rfl) ?_ ?_
    ·simp
     exact⟨fun i _ x hx=>aWn b i x hx,hr,by omega⟩
    change ja _ _ _ _ _;refine aQ M hI hn (by rfl) (by kernel_rfl) ?_ ?_
    ·simp
    intro a w hg
    refine⟨1,_,by omega,by omega,⟨oh rec b,y,_,rfl,hL3⟩,(hg.reset (kT:=[0,1,4,5,6,11]) (kO:=[900000,0,1000]) (by rfl) (by simp)).same ?_ ?_⟩
    ·exact .cons rfl (.cons rfl (.cons rfl (.cons rfl (.cons rfl (.cons rfl .nil)))))
    ·rw[aOb];exact .cons (.dev rfl) (.cons (.box rfl) (.cons (.box rfl) .nil))
   ·refine aQ M hI hn (by rfl) (by kernel_rfl) ?_ ?_
    ·simp
     exact⟨fun i _ x hx=>aWn b i x hx,hr,by omega⟩
    change ja _ _ _ _ _;refine aQ M hI hn (by rfl) (by kernel_rfl) ?_ ?_
    ·simp
    intro a w hg
    refine⟨2,_,by omega,by omega,⟨x,oh rec b,_,rfl,hL3⟩,(hg.reset (kT:=[0,1,4,5,6,11]) (kO:=[900000,0,1000]) (by rfl) (by simp)).same ?_ ?_⟩
    ·exact .cons rfl (.cons rfl (.cons rfl (.cons rfl (.cons rfl (.cons rfl .nil)))))
    ·rw[aOb];exact .cons (.dev rfl) (.cons (.box rfl) (.cons (.box rfl) .nil))
 ·have hk2:k=2:=by have:=of_decide_eq_false hc;omega
  subst hk2;have hE:go O (ah.cur rec) l=(ui x y,lk):=hL.2;refine iM ?_;change ja _ _ _ _ _;refine aB M hI hn (by rfl) (by kernel_rfl) ?_ ?_
  ·simp
  refine aP ?_;refine aB M hI hn (by rfl) (by kernel_rfl) ?_ ?_
  ·simp
  refine aH (by rfl) (fun hc=>?_) (fun hc=>?_)
  ·refine aB M hI hn (by rfl) (by kernel_rfl) ?_ ?_
   ·simp
   have h:x.1=0\/x.1<y.1:=by
    have h1:(bif x.1==0 then true else decide (Bl x.1 y.1<0))=true:=hc;rw[bHe] at h1
    by_cases h0:x.1=0
    ·exact .inl h0
    ·rw[show (x.1==0)=false from beq_eq_false_iff_ne.2 h0] at h1;exact .inr (of_decide_eq_true h1)
   have e:ui x y=(y,1):=by unfold ui;rw[if_pos h]
   refine aK (fun a w hg=>⟨.inr rfl,_,⟨?_,(fun o ho=>by cases ho),fun p hp=>?_⟩,hg⟩);rotate_left 1
   ·cases hp;rw[hE];rfl
   refine aC (by rfl) (by simp) (by rfl) (by rfl) ?_;rw[hE,e];rfl
  ·refine aO ?_;change ja _ _ _ _ _;refine aB M hI hn (by rfl) (by kernel_rfl) ?_ ?_
   ·simp
   have h:¬(x.1=0\/x.1<y.1):=by
    have h1:(bif x.1==0 then true else decide (Bl x.1 y.1<0))=false:=hc;rw[bHe] at h1;rintro (h0|h0)
    ·rw[show (x.1==0)=true from beq_iff_eq.2 h0] at h1;cases h1
    ·rw[decide_eq_true h0] at h1
     cases hb:(x.1==0)<;>rw[hb] at h1<;>cases h1
   have e:ui x y=(x,0):=by unfold ui;rw[if_neg h]
   refine aK (fun a w hg=>⟨.inr rfl,_,⟨?_,(fun o ho=>by cases ho),fun p hp=>?_⟩,hg⟩);rotate_left 1
   ·cases hp;rw[hE];rfl
   refine aC (by rfl) (by simp) (by rfl) (by rfl) ?_;rw[hE,e];rfl
def aFA(p:(Int×List UInt8)×Nat):PV:=.lw [.agg [.lit (.int .i64 p.1.1),.lit (.string (strOf p.1.2))],.one (.lit (.int .i64 (p.2:Int)))]
def bGw:List PV->Option (Prop×ah ((Int×List UInt8)×Nat)×((Int×List UInt8)×Nat->PV))
 |[.w (.one (.lit (.int .i64 rec)))]=>some (jb rec,ah.cur rec,aFA)
 |_=>none
theorem aRk:aj Tryz.prog a_ 135 (lT bGw):=
 pJ (aF Tryz.func135 (by kernel_rfl) rfl) (fun ys c p v h hc=>by
  unfold bGw at h
  split at h
  ·cases h;exact aXk _ hc
  ·cases h)
def aBE:List (Nat×Spec):=(135,lT bGw)::PL
theorem Ui:∀ p∈aBE,aj Tryz.prog a_ p.1 p.2:=by
 intro p hp;rcases List.mem_cons.1 hp with rfl|hp
 ·exact aRk
 ·exact Hw p hp
theorem aBF:lm Tryz.prog a_ (find aBE):=⟨bV Ui,fK⟩
def Zl(o:Dw):List PC:=[.lit (.string o.content),.lit (.int .i64 o.seq),.lit (.int .i64 o.err)]
def EX(o:Dw):PV:=.w (.agg (Zl o))
theorem Kr(rec:Int)(hr:jb rec):bIo Tryz.prog a_ 98 (ah.load rec) [.w (.one .dv),iy rec] EX:=by
 intro O l hO;have M:=aBF;refine kD Tryz.func98 rfl rfl rfl (fun A hn hI=>?_)
 have hp:ah.load rec=if dP rec 0<0 then .ret ⟨aS,0,1⟩ else (ah.cur rec).bind fun p=>.ret (GL p.1):=rfl
 generalize ah.load rec=pr at *;generalize hstp:(fun h=>l <+: h/\h <+: (go O pr l).2)=di;refine aB M hI hn (by rfl) (by kernel_rfl) ?_ ?_
 ·simp
 refine aP ?_;refine aB M hI hn (by rfl) (by kernel_rfl) ?_ ?_
 ·simp
 refine aH (by rfl) (fun hc=>?_) (fun hc=>?_)
 ·have h:dP rec 0<0:=of_decide_eq_true hc;rw[if_pos h] at hp
  have hE:go O pr l=(⟨aS,0,1⟩,l):=by rw[hp];rfl
  refine aB M hI hn (by rfl) (by kernel_rfl) ?_ ?_
  ·simp
  refine aK (fun a w hg=>⟨.inr rfl,_,⟨?_,(fun o ho=>by cases ho),fun p hp=>?_⟩,hg⟩);rotate_left 1
  ·cases hp;rw[hE];rfl
  refine aC (by rfl) (by simp) (by rfl) (by rfl) ?_;rw[hE];rfl
 ·have h:¬dP rec 0<0:=of_decide_eq_false hc;rw[if_neg h] at hp;refine aO ?_;change ja _ _ _ _ _
  have hL0:yI O pr l ((ah.cur rec).bind fun p=>.ret (GL p.1)) l:=by rw[hp];exact yI.start _ _ _
  have hL:=hL0.step;refine aB M hI hn (by rfl) (by kernel_rfl) ?_ ?_
  ·simp
   refine⟨⟨hO,hr⟩,fun h h1 h2 h3=>?_⟩
   rw[<-hstp];exact hL0.di h h1 h2 h3
  obtain⟨q,lq,hq⟩:∃ q lq,go O (ah.cur rec) l=(q,lq):=⟨_,_,rfl⟩;rw[hq] at hL;have hE:go O pr l=(GL q.1,lq):=hL.2;refine aI (s':=⟨[(4,none,dn (.pt 0 0 0)),(5,none,dn (.pt 3006 0 0))],[(dx,none,0,.dev O di lq),(0,none,0,.box 164 [.lit (.string aS),.lit (.int .i64 0),.lit (.int .i64 0)]),(3006,none,0,.box 205 [.lit (.int .i64 q.1.1),.lit (.string (strOf q.1.2))])]⟩) (fun a w hg=>(hg.reset (kT:=[4,5]) (kO:=[900000,0,3006]) (by rfl) (by simp)).same ?_ ?_) ?_
  ·exact .cons rfl (.cons rfl .nil)
  ·refine .cons (.dev ?_) (.cons (.box rfl) (.cons (.box ?_) .nil))
   ·show (go O (ah.cur rec) l).2=_;rw[hq]
   ·show[PC.lit (.int .i64 (go O (ah.cur rec) l).1.1.1),PC.lit (.string (strOf (go O (ah.cur rec) l).1.1.2))]=_
    rw[hq]
  refine aP ?_;refine aB M hI hn (by rfl) (by kernel_rfl) ?_ ?_
  ·simp
  refine aH (by rfl) (fun hc=>?_) (fun hc=>?_)
  ·refine aB M hI hn (by rfl) (by kernel_rfl) ?_ ?_
   ·simp
   have h0:q.1.1=0:=by simpa using hc
   have e:GL q.1=⟨aS,0,13⟩:=if_pos h0;refine aK (fun a w hg=>⟨.inr rfl,_,⟨?_,(fun o ho=>by cases ho),fun p hp=>?_⟩,hg⟩);rotate_left 1
   ·cases hp;rw[hE];rfl
   refine aC (by rfl) (by simp) (by rfl) (by rfl) ?_;rw[hE,e];rfl
  ·refine aO ?_;change ja _ _ _ _ _;refine aB M hI hn (by rfl) (by kernel_rfl) ?_ ?_
   ·simp
   have h0:¬q.1.1=0:=by simpa using hc
   have e:GL q.1=⟨strOf q.1.2,q.1.1,0⟩:=if_neg h0;refine aK (fun a w hg=>⟨.inr rfl,_,⟨?_,(fun o ho=>by cases ho),fun p hp=>?_⟩,hg⟩);rotate_left 1
   ·cases hp;rw[hE];rfl
   refine aC (by rfl) (by simp) (by rfl) (by rfl) ?_;rw[hE,e];rfl
end Pv

end Go.Proofs.YtndpjopifkbgiaaGreatDoor
