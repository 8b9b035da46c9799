/-
  Several texts in one file: each has its own heading below.
-/
import Derived.Test.YtndpjopifkbgiaaGreatDoorMmT
set_option maxRecDepth 100000
set_option maxHeartbeats 4000000
namespace Go.Proofs.YtndpjopifkbgiaaGreatDoor.Pv
open Go.RowKit
def mvL(H:Nat->gy):List (Nat×Spec):=[(9,bD true aZn),(12,aJd 57 65 18 3 (yQ H) (ZL H false)),(14,bD true J5),(20,bD false aJf)]
theorem mvM{H:Nat->gy}(hb:aFg Tryz.prog a_ 12 57 65 18 3 (yQ H) (ZL H false)):l_ Tryz.prog a_ (find (mvL H)):=⟨bV (fun p hp=>by
 simp only[mvL,List.mem_cons,List.not_mem_nil,or_false] at hp;rcases hp with rfl|rfl|rfl|rfl
 ·exact aVn
 ·exact aQn (aF Tryz.func12 (by kernel_rfl) rfl) hb
 ·exact aJa
 ·exact aMw),fC⟩
def Fa(H:Nat->gy)(a:Nat)(x:gy):Nat->gy:=fun i=>if i=a then x else H i
theorem aYu(H:Nat->gy)(a:Nat)(x:gy):Fa H a x a=x:=if_pos rfl
theorem aSd(H:Nat->gy){a i:Nat}(x:gy)(h:i≠a):Fa H a x i=H i:=if_neg h
def Fb(H0 H:Nat->gy):Wr:=[(9000,none,0,.box 57 (.ow 9500 0 18 0 3::ZL H0 false)),(9500,none,0,.arr 65 18 3 (yQ H))]
def mvR(rt:List UInt8):PV:=dh (.sl 1 rt.length (ou rt))
def mvP(ps:List ByteArray):PV:=dh (.sl 1 ps.length (Oa ps))
def Zw(rt:List UInt8)(ps:List ByteArray)(i:Nat):St:=⟨[(0,none,mvR rt),(1,none,mvP ps),(5,none,rq true),(6,none,h_ i)],[]⟩
def O3(rt:List UInt8)(ps:List ByteArray)(a i:Nat)(st:ByteArray):List (Nat×Option Bool×PV):=[(0,none,mvR rt),(1,none,mvP ps),(5,none,rq true),(7,none,dh (.pt 9000 0 0)),(8,none,h_ a),(9,none,l9 (.string st)),(10,none,h_ i)]
def mvS(rt:List UInt8)(ps:List ByteArray)(H0 H:Nat->gy)(a i:Nat)(st:ByteArray):St:=⟨O3 rt ps a i st,Fb H0 H⟩
def aJV(rt:List UInt8)(ps:List ByteArray)(H0 H:Nat->gy)(a i:Nat)(st:ByteArray)(k:Nat):St:=⟨(11,none,h_ k)::O3 rt ps a i st,Fb H0 H⟩
def aAG(rt:List UInt8)(ps:List ByteArray)(H0 H:Nat->gy)(a i:Nat)(st:ByteArray)(k:Nat)(o:jd):St:=⟨(13,none,dh (.pt 17014 0 0))::(11,none,h_ k)::O3 rt ps a i st,(17014,none,0,.box 40 (g_ o))::Fb H0 H⟩
def aAF(rt:List UInt8)(ps:List ByteArray)(H0 H:Nat->gy)(a i:Nat)(st:ByteArray)(k:Nat)(o:jd)(m:ji):St:=⟨(14,none,dh (.pt 18002 0 0))::(13,none,dh (.pt 17014 0 0))::(11,none,h_ k)::O3 rt ps a i st,(18002,none,0,.box 31 (zk m))::(17014,none,0,.box 40 (g_ o))::Fb H0 H⟩
def aAE(rt:List UInt8)(ps:List ByteArray)(H0 H:Nat->gy)(a i:Nat)(st:ByteArray)(k:Nat)(o o2:jd)(x:gy):St:=⟨(15,none,dh (.pt 20012 0 0))::(16,none,dh (.pt 20013 0 0))::(13,none,dh (.pt 17014 0 0))::(11,none,h_ k)::O3 rt ps a i st,(20012,none,0,.box 65 (lu x))::(20013,none,0,.box 40 (g_ o2))::(17014,none,0,.box 40 (g_ o))::Fb H0 H⟩
def bBn(rt:List UInt8)(ps:List ByteArray)(H0 H:Nat->gy)(a i:Nat)(st:ByteArray)(k:Nat)(o o2:jd):St:=⟨(16,none,dh (.pt 20013 0 0))::(13,none,dh (.pt 17014 0 0))::(11,none,h_ k)::O3 rt ps a i st,(20013,none,0,.box 40 (g_ o2))::(17014,none,0,.box 40 (g_ o))::Fb H0 H⟩
def aAD(rt:List UInt8)(ps:List ByteArray)(H0 H:Nat->gy)(a i:Nat)(st:ByteArray)(k:Nat)(o o2:jd)(m:ji):St:=⟨(17,none,dh (.pt 22002 0 0))::(bBn rt ps H0 H a i st k o o2).t,(22002,none,0,.box 31 (zk m))::(bBn rt ps H0 H a i st k o o2).o⟩
def aAC(rt:List UInt8)(ps:List ByteArray)(H0 H:Nat->gy)(a i:Nat)(st:ByteArray)(k:Nat)(o o2 o3:jd)(y:gy):St:=⟨(18,none,dh (.pt 24012 0 0))::(19,none,dh (.pt 24013 0 0))::(bBn rt ps H0 H a i st k o o2).t,(24012,none,0,.box 65 (lu y))::(24013,none,0,.box 40 (g_ o3))::(bBn rt ps H0 H a i st k o o2).o⟩
def aAB(rt:List UInt8)(ps:List ByteArray)(H0 H:Nat->gy)(i:Nat)(st:ByteArray)(k:Nat)(o o2 o3:jd):St:=⟨(19,none,dh (.pt 24013 0 0))::(16,none,dh (.pt 20013 0 0))::(13,none,dh (.pt 17014 0 0))::O3 rt ps k i st,(24013,none,0,.box 40 (g_ o3))::(20013,none,0,.box 40 (g_ o2))::(17014,none,0,.box 40 (g_ o))::Fb H0 H⟩
def Jc(rt:List UInt8)(ps:List ByteArray)(H0 H:Nat->gy)(a i:Nat)(st:ByteArray)(o:jd)(x:gy):St:=⟨(20,none,dh (.pt 29013 0 0))::(21,none,dh (.pt 29014 0 0))::O3 rt ps a i st,(29013,none,0,.box 65 (lu x))::(29014,none,0,.box 40 (g_ o))::Fb H0 H⟩
def aAA(rt:List UInt8)(ps:List ByteArray)(H0 H:Nat->gy)(a i:Nat)(st:ByteArray)(o:jd)(x:gy)(m:ji):St:=⟨(22,none,dh (.pt 30002 0 0))::(Jc rt ps H0 H a i st o x).t,(30002,none,0,.box 31 (zk m))::(Jc rt ps H0 H a i st o x).o⟩
def Zz(rt:List UInt8)(ps:List ByteArray)(H0 H:Nat->gy)(a i:Nat)(st:ByteArray)(o o2:jd)(y:gy):St:=⟨(23,none,dh (.pt 32006 0 0))::(24,none,dh (.pt 32007 0 0))::(21,none,dh (.pt 29014 0 0))::O3 rt ps a i st,(32006,none,0,.box 65 (lu y))::(32007,none,0,.box 40 (g_ o2))::(29014,none,0,.box 40 (g_ o))::Fb H0 H⟩
def Zy(rt:List UInt8)(ps:List ByteArray)(H0 H:Nat->gy)(a i:Nat)(st:ByteArray)(o o2:jd):St:=⟨(24,none,dh (.pt 32007 0 0))::(21,none,dh (.pt 29014 0 0))::O3 rt ps a i st,(32007,none,0,.box 40 (g_ o2))::(29014,none,0,.box 40 (g_ o))::Fb H0 H⟩
def Jb(H0 H:Nat->gy)(st:ByteArray)(n k:Nat):St:=⟨[(5,none,rq true),(7,none,dh (.pt 9000 0 0)),(9,none,l9 (.string st)),(25,none,h_ n),(26,none,h_ k)],Fb H0 H⟩
def Zx(H0 H:Nat->gy)(st:ByteArray)(n k:Nat)(o:jd):St:=⟨(28,none,dh (.pt 41014 0 0))::(Jb H0 H st n k).t,(41014,none,0,.box 40 (g_ o))::Fb H0 H⟩
theorem aKh{H:Nat->gy}{a:Nat}{x:gy}(i:Nat):(if i=0+(a:Int).toNat then lu x else yQ H i)=yQ (Fa H a x) i:=by
 rw[Nat.zero_add,Int.toNat_natCast];unfold yQ Fa
 split<;>rfl
theorem Td(H:Nat->gy)(k:Nat):(⟨aY (H (0+(k:Int).toNat)).b.length (bH (H (0+(k:Int).toNat)).b),iF (H (0+(k:Int).toNat)).f.length (qi (H (0+(k:Int).toNat)).f),(H (0+(k:Int).toNat)).r⟩:gy)=H k:=by rw[aK,bM,Nat.zero_add,Int.toNat_natCast]
theorem aEw(H:Nat->gy)(y:gy)(d i:Nat):∀ x∈(if i=d then lu y else yQ H i),cZ false x=true:=by
 split
 ·exact oU y
 ·exact oU (H i)
structure ZF(i a:Nat)(st:ByteArray)(H:Nat->gy):Prop where
 lt:a<3
 sz:st.size<=1000
 live:Fh i (i+1) (1+2*i) a st (H a)
 idle:∀ k,k<3->k≠a->O_ i (i+1) (1+2*i) k (H k)
theorem Fh.MP{b2 b3:Nat}{bs:Int}{k:Nat}{p:ByteArray}{h:gy}(A:Fh b2 b3 bs k p h)(h2:b2<=16)(h3:b3<=16):p_ h:=by
 obtain⟨n2,n3,f,s,rfl,e1,e2,e3,e4,e5⟩:=A;exact rP (by omega) (by omega) e5.ig.sz rfl
theorem O_.MP{b2 b3:Nat}{bs:Int}{k:Nat}{h:gy}(A:O_ b2 b3 bs k h)(h2:b2<=16)(h3:b3<=16):p_ h:=by
 obtain⟨n2,n3,f,s,c,rfl,e1,e2,e3,e4,e5,e6,e7⟩:=A;exact rP (by omega) (by omega) e6.sz rfl
theorem ZF.MP{i a:Nat}{st:ByteArray}{H:Nat->gy}(h:ZF i a st H)(hi:i<=7)(k:Nat)(hk:k<3):p_ (H k):=by
 by_cases e:k=a
 ·subst e;exact h.live.MP (by omega) (by omega)
 ·exact (h.idle k hk e).MP (by omega) (by omega)
theorem Oo(k:Nat)(x:ByteArray)(hx:x.size<=10000):ut (Es k x):=⟨rfl,rfl,rfl,rfl,zW,zW,zW,hx,by show aS.size<=2000;decide⟩
theorem Oj(a:Nat)(o:jd)(h1:o.ot.length=16)(h2:iq o.ol):ut (DF a o):=⟨rfl,rfl,h1,rfl,h2,zW,zW,by show aS.size<=10000;decide,by show aS.size<=2000;decide⟩
theorem Ja{i a k:Nat}{st:ByteArray}{H:Nat->gy}(hi:i<6)(M:ZF i a st H)(hk:k<3) :
  ∃ H2,(k=a->H2=H)/\(k≠a->∃ o1 n1 o2 ha' n2 o3 hk' n3,H2=Fa (Fa H a ha') k hk'/\dS [] (bW (vw k 4)) (H k) 0=(some o1,H k,n1)/\o1.err=0/\o1.ot.length=16/\iq o1.ol/\dS [] (bW (DF a o1)) (H a) 0=(some o2,ha',n2)/\o2.err=0/\ut (Bz k o2) /\
   dS [] (bW (Bz k o2)) (H k) 0=(some o3,hk',n3)/\o3.err=0/\o3.payload=st/\p_ ha'/\p_ hk') /\
  Fh i (i+2) (2+2*i) k st (H2 k)/\∀ j,j<3->j≠k->O_ i (i+2) (2+2*i) j (H2 j):=by
 by_cases e:k=a
 ·subst e
  exact⟨H,fun _=>rfl,fun h=>absurd rfl h,M.live.mono (by omega) (by omega) (by omega),fun j hj hne=>(M.idle j hj hne).mono (by omega) (by omega) (by omega)⟩
 ·obtain⟨o1,n1,o2,ha',n2,o3,hk',n3,r1,r2,r3,r4,r5,r6,r7,r8,r9,r10,A,K⟩:=bBr (by omega) (by omega) M.lt hk (Ne.symm e) M.sz M.live (M.idle k hk e)
  refine⟨Fa (Fa H a ha') k hk',fun h=>absurd h e,fun _=>⟨o1,n1,o2,ha',n2,o3,hk',n3,rfl,r1,r2,r3,r4,r5,r6,r7,r8,r9,r10,A.MP (by omega) (by omega),K.MP (by omega) (by omega)⟩,?_,fun j hj hne=>?_⟩
  ·rw[aYu];exact K.mono (by omega) (by omega) (by omega)
  ·rw[aSd _ _ hne]
   by_cases ja:j=a
   ·subst ja;rw[aYu];exact A.mono (by omega) (by omega) (by omega)
   ·rw[aSd _ _ ja];exact (M.idle j hj ja).mono (by omega) (by omega) (by omega)
theorem JZ:∃ q,dS [] (bW Np) (Cf (fF 0)) 0=q/\TZ q=false/\ZF 0 0 stB (Di q (Cf (fF 1)) (Cf (fF 2))):=by
 obtain⟨n,fA,fB,B⟩:=aUm
 refine⟨_,B.cr,rfl,by omega,by show (5:Nat)<=1000;decide,⟨0,1,fA,1,rfl,by omega,by omega,rfl,by omega,B.hA⟩,fun k hk hne=>?_⟩
 have:k=1\/k=2:=by omega
 rcases this with rfl|rfl
 ·exact⟨0,0,Bi,0,[],rfl,by omega,by omega,rfl,by omega,by omega,uV,.inl ⟨rfl,rfl⟩⟩
 ·exact⟨0,0,Bi,0,[],rfl,by omega,by omega,rfl,by omega,by omega,uV,.inl ⟨rfl,rfl⟩⟩
theorem bBq{q:QS}{n1 n2:gy}(hb:aFg Tryz.prog a_ 12 57 65 18 3 (yQ (Di q n1 n2)) (ZL (Di q n1 n2) false))(hM:ZF 0 0 stB (Di q n1 n2))(rt:List UInt8)(ps:List ByteArray) :
  gU Tryz.prog a_ 6 true [mvR rt,mvP ps] (rq true):=by
 obtain⟨H0,hH0⟩:∃ H0,Di q n1 n2=H0:=⟨_,rfl⟩;rw[hH0] at hb hM;have M:=mvM hb;refine bJ Tryz.func6 rfl rfl bP (fun A hS hn hI=>?_);refine aB M hI hn (by rfl) (by kernel_rfl) ?_ ?_
 ·simp
 refine aB M hI hn (by rfl) (by kernel_rfl) ?_ ?_
 ·simp
 refine aN ?_;refine aB M hI hn (by rfl) (by kernel_rfl) ?_ ?_
 ·simp
 refine aH (by rfl) (fun hc=>?_) (fun hc=>?_)
 ·refine aB M hI hn (by rfl) (by kernel_rfl) ?_ ?_
  ·simp
  refine aO (fun a w hg=>⟨.inr rfl,_,?_,hg⟩);refine aC (by rfl) (by simp) (by rfl) (by rfl) ?_;rfl
 have hlen:rt.length<=6/\ps.length=rt.length:=by
  have hc2:(bif decide ((rt.length:Int) > 6) then true else ((ps.length:Int) != (rt.length:Int)))=false:=hc
  by_cases h:(rt.length:Int) > 6
  ·rw[decide_eq_true h] at hc2;cases hc2
  ·rw[decide_eq_false h] at hc2;have h3:((ps.length:Int) != (rt.length:Int))=false:=hc2
   have h4:(ps.length:Int)=(rt.length:Int):=by simpa using h3
   omega
 refine aP ?_;change iw _ _ _ _ _;refine aN ?_;refine aB M hI hn (by rfl) (by kernel_rfl) ?_ ?_
 ·simp
 refine bG ?_;refine aG (s':=Zw rt ps 0) (fun a w hg=>(hg.reset (kT:=[0,1,5,6]) (kO:=[]) (by rfl) (by simp)).same ?_ ?_) ?_
 ·exact .cons rfl (.cons rfl (.cons rfl (.cons rfl .nil)))
 ·exact .nil
 refine iL ps.length (fun k t=>t=Zw rt ps k/\∀ j,j<k->(ps.getD j { data:=#[] }).size<=300) 0 ⟨rfl,fun j hj=>absurd hj (by omega)⟩ (by omega) (fun i t hJ hk=>?_);obtain⟨rfl,hps⟩:=hJ;refine aN ?_;refine aB M hI hn (by rfl) (by kernel_rfl) ?_ ?_
 ·simp
 refine aH (by rfl) (fun hc=>?_) (fun hc=>?_)
 ·have hi2:i<ps.length:=by
   have hc2:decide ((i:Int)<(ps.length:Int))=true:=hc;have:=of_decide_eq_true hc2;omega
  refine aP ?_;change iw _ _ _ _ _;refine aN ?_;refine bG ?_;refine aB M hI hn (by rfl) (by kernel_rfl) ?_ ?_
  ·simp;exact hi2
  refine aH (by rfl) (fun hc=>?_) (fun hc=>?_)
  ·refine aB M hI hn (by rfl) (by kernel_rfl) ?_ ?_
   ·simp
   refine aO (fun a w hg=>⟨.inr rfl,_,?_,hg⟩);refine aC (by rfl) (by simp) (by rfl) (by rfl) ?_;rfl
  have hs:(ps.getD i { data:=#[] }).size<=300:=by
   have hc2:decide (((ps.getD (i:Int).toNat { data:=#[] }).size:Int) > 300)=false:=hc;have:=of_decide_eq_false hc2;rw[Int.toNat_natCast] at this;omega
  refine aP ?_;change iw _ _ _ _ _;refine aQ M hI hn (by rfl) (by kernel_rfl) ?_ ?_
  ·simp
  intro a w hg
  refine⟨i+1,_,by omega,by omega,⟨rfl,fun j hj=>?_⟩,(hg.reset (kT:=[0,1,5,6]) (kO:=[]) (by rfl) (by simp)).same ?_ ?_⟩
  ·by_cases hj2:j=i
   ·rw[hj2];exact hs
   ·exact hps j (by omega)
  ·exact .cons rfl (.cons rfl (.cons rfl (.cons (by rw[fG i (by omega)]) .nil)))
  ·exact .nil
 have hi0:i=ps.length:=by
  have hc2:decide ((i:Int)<(ps.length:Int))=false:=hc;have:=of_decide_eq_false hc2;omega
 rw[hi0] at hps;refine gW ?_;change iw _ _ _ _ _;refine aB M hI hn (by rfl) (by kernel_rfl) ?_ ?_
 ·simp
 refine aB M hI hn (by rfl) (by kernel_rfl) ?_ ?_
 ·simp
 refine aB M hI hn (by rfl) (by kernel_rfl) ?_ ?_
 ·simp
 refine aN ?_;refine aB M hI hn (by rfl) (by kernel_rfl) ?_ ?_
 ·simp
 refine bG ?_;refine aG (s':=mvS rt ps H0 H0 0 0 stB) (fun a w hg=>(hg.reset (kT:=[0,1,5,7,8,9,10]) (kO:=[9000,9500]) (by rfl) (by simp;exact dK _ _)).same ?_ ?_) ?_
 ·exact .cons rfl (.cons rfl (.cons rfl (.cons rfl (.cons rfl (.cons rfl (.cons rfl .nil))))))
 ·exact .cons (.box rfl) (.cons (.arr rfl (fun i hi=>rfl)) .nil)
 refine iL rt.length (fun k t=>∃ H a st,t=mvS rt ps H0 H a k st/\ZF k a st H) 0 ⟨H0,0,stB,rfl,hM⟩ (by omega) (fun i t hJ hk=>?_);obtain⟨H,d,st,rfl,hI2⟩:=hJ;have ha3:=hI2.lt;refine aN ?_;refine aB M hI hn (by rfl) (by kernel_rfl) ?_ ?_
 ·simp
 refine aH (by rfl) (fun hc=>?_) (fun hc=>?_)
 ·have hi2:i<rt.length:=by
   have hc2:decide ((i:Int)<(rt.length:Int))=true:=hc;have:=of_decide_eq_true hc2;omega
  obtain⟨k,hkk⟩:∃ k,(rt.getD i 0).toNat % 3=k:=⟨_,rfl⟩
  have hk3:k<3:=by omega
  obtain⟨H2,r1,r2,r3,r4⟩:=Ja (by omega) hI2 hk3;have hd:=hI2.MP (by omega);refine aP ?_;change iw _ _ _ _ _;refine aN ?_;refine bG ?_;refine aB M hI hn (by rfl) (by kernel_rfl) ?_ ?_
  ·simp;exact hi2
  refine aG (s':=aJV rt ps H0 H d i st k) (fun a w hg=>(hg.reset (kT:=[11,0,1,5,7,8,9,10]) (kO:=[9000,9500]) (by rfl) (by simp;exact dK _ _)).same ?_ ?_) ?_
  ·refine .cons ?_ ?_
   ·have hb8:((rt.getD i 0).toNat:Int)<256:=Int.ofNat_lt.2 (rt.getD i 0).toNat_lt
    have hw:IntKind.i64.wrap ((rt.getD (i:Int).toNat 0).toNat:Int)=((rt.getD i 0).toNat:Int):=by rw[Int.toNat_natCast];exact dX (by omega) (by omega)
    rw[hw];show h_ (((rt.getD i 0).toNat:Int).tmod 3)=h_ (k:Int);rw[<-hkk];rfl
   ·exact .cons rfl (.cons rfl (.cons rfl (.cons rfl (.cons rfl (.cons rfl (.cons rfl .nil))))))
  ·exact .cons (.box rfl) (.cons (.arr rfl (fun i hi=>rfl)) .nil)
  refine aSe (mvS rt ps H0 H2 k i st) ?_ ?_
  ·refine aB M hI hn (by rfl) (by kernel_rfl) ?_ ?_
   ·simp
   refine aH (by rfl) (fun hc=>?_) (fun hc=>?_)
   ·have hne:k≠d:=by
     intro e;have hc2:((k:Int) != (d:Int))=true:=hc;rw[e] at hc2;simp at hc2
    obtain⟨o1,m1,o2,ha',m2,o3,hk',m3,e0,e1,e2,e3,e4,e5,e6,e7,e8,e9,e10,e11,e12⟩:=r2 hne;refine aB M hI hn (by rfl) (by kernel_rfl) ?_ ?_
    ·simp
     exact⟨by omega,hk3,by omega,hd k hk3,Tq k 4⟩
    refine aG (s':=aAG rt ps H0 H d i st k o1) (fun a w hg=>(hg.reset (kT:=[13,11,0,1,5,7,8,9,10]) (kO:=[17014,9000,9500]) (by rfl) (by simp;exact dK _ _)).same ?_ ?_) ?_
    ·refine .cons rfl (.cons rfl ?_);exact .cons rfl (.cons rfl (.cons rfl (.cons rfl (.cons rfl (.cons rfl (.cons rfl .nil))))))
    ·refine .cons (.box ?_) (.cons (.box rfl) (.cons (.arr rfl (fun i hi=>rfl)) .nil));change g_ (bI (dS [] (bW (vw k 4)) (⟨aY (H (0+(k:Int).toNat)).b.length (bH (H (0+(k:Int).toNat)).b),iF (H (0+(k:Int).toNat)).f.length (qi (H (0+(k:Int).toNat)).f),(H (0+(k:Int).toNat)).r⟩:gy) 0).1)=_;rw[Td,e1];rfl
    refine aB M hI hn (by rfl) (by kernel_rfl) ?_ ?_
    ·simp;omega
    refine aB M hI hn (by rfl) (by kernel_rfl) ?_ ?_
    ·simp
    refine aG (s':=aAF rt ps H0 H d i st k o1 (DF d o1)) (fun a w hg=>(hg.reset (kT:=[14,13,11,0,1,5,7,8,9,10]) (kO:=[18002,17014,9000,9500]) (by rfl) (by simp;exact dK _ _)).same ?_ ?_) ?_
    ·refine .cons rfl (.cons rfl (.cons rfl ?_));exact .cons rfl (.cons rfl (.cons rfl (.cons rfl (.cons rfl (.cons rfl (.cons rfl .nil))))))
    ·exact .cons (.box rfl) (.cons (.box rfl) (.cons (.box rfl) (.cons (.arr rfl (fun i hi=>rfl)) .nil)))
    refine aB M hI hn (by rfl) (by kernel_rfl) ?_ ?_
    ·simp
     exact⟨by omega,hI2.lt,hd d hI2.lt,Oj d o1 e3 e4⟩
    refine aG (s':=aAE rt ps H0 H d i st k o1 o2 ha') (fun a w hg=>(hg.reset (kT:=[15,16,13,11,0,1,5,7,8,9,10]) (kO:=[20012,20013,17014,9000,9500]) (by rfl) (by simp;exact dK _ _)).same ?_ ?_) ?_
    ·refine .cons rfl (.cons rfl (.cons rfl (.cons rfl ?_)));exact .cons rfl (.cons rfl (.cons rfl (.cons rfl (.cons rfl (.cons rfl (.cons rfl .nil))))))
    ·refine .cons (.box ?_) (.cons (.box ?_) (.cons (.box rfl) (.cons (.box rfl) (.cons (.arr rfl (fun i hi=>rfl)) .nil))))
     ·change lu (dS [] (bW (DF d o1)) (⟨aY (H (0+(d:Int).toNat)).b.length (bH (H (0+(d:Int).toNat)).b),iF (H (0+(d:Int).toNat)).f.length (qi (H (0+(d:Int).toNat)).f),(H (0+(d:Int).toNat)).r⟩:gy) 0).2.1=_;rw[Td,e5]
     ·change g_ (bI (dS [] (bW (DF d o1)) (⟨aY (H (0+(d:Int).toNat)).b.length (bH (H (0+(d:Int).toNat)).b),iF (H (0+(d:Int).toNat)).f.length (qi (H (0+(d:Int).toNat)).f),(H (0+(d:Int).toNat)).r⟩:gy) 0).1)=_;rw[Td,e5];rfl
    refine aB M hI hn (by rfl) (by kernel_rfl) ?_ ?_
    ·simp;omega
    refine aG (s':=bBn rt ps H0 (Fa H d ha') d i st k o1 o2) (fun a w hg=>(hg.reset (kT:=[16,13,11,0,1,5,7,8,9,10]) (kO:=[20013,17014,9000,9500]) (by rfl) ?_).same ?_ ?_) ?_
    ·simp;exact fun i _=>aEw H ha' d i
    ·refine .cons rfl (.cons rfl (.cons rfl ?_));exact .cons rfl (.cons rfl (.cons rfl (.cons rfl (.cons rfl (.cons rfl (.cons rfl .nil))))))
    ·exact .cons (.box rfl) (.cons (.box rfl) (.cons (.box rfl) (.cons (.arr rfl (fun i hi=>aKh i)) .nil)))
    obtain⟨H1,hH1⟩:∃ H1,Fa H d ha'=H1:=⟨_,rfl⟩
    have Vh:H1 k=H k:=by rw[<-hH1];exact aSd _ _ hne
    rw[hH1] at e0 ⊢;refine aB M hI hn (by rfl) (by kernel_rfl) ?_ ?_
    ·simp;omega
    refine aB M hI hn (by rfl) (by kernel_rfl) ?_ ?_
    ·simp
    refine aG (s':=aAD rt ps H0 H1 d i st k o1 o2 (Bz k o2)) (fun a w hg=>(hg.reset (kT:=[17,16,13,11,0,1,5,7,8,9,10]) (kO:=[22002,20013,17014,9000,9500]) (by rfl) (by simp;exact dK _ _)).same ?_ ?_) ?_
    ·refine .cons rfl (.cons rfl (.cons rfl (.cons rfl ?_)));exact .cons rfl (.cons rfl (.cons rfl (.cons rfl (.cons rfl (.cons rfl (.cons rfl .nil))))))
    ·exact .cons (.box rfl) (.cons (.box rfl) (.cons (.box rfl) (.cons (.box rfl) (.cons (.arr rfl (fun i hi=>rfl)) .nil))))
    refine aB M hI hn (by rfl) (by kernel_rfl) ?_ ?_
    ·simp;rw[Vh]
     exact⟨by omega,hk3,hd k hk3,e7⟩
    refine aG (s':=aAC rt ps H0 H1 d i st k o1 o2 o3 hk') (fun a w hg=>(hg.reset (kT:=[18,19,16,13,11,0,1,5,7,8,9,10]) (kO:=[24012,24013,20013,17014,9000,9500]) (by rfl) (by simp;exact dK _ _)).same ?_ ?_) ?_
    ·refine .cons rfl (.cons rfl (.cons rfl (.cons rfl (.cons rfl ?_))));exact .cons rfl (.cons rfl (.cons rfl (.cons rfl (.cons rfl (.cons rfl (.cons rfl .nil))))))
    ·refine .cons (.box ?_) (.cons (.box ?_) (.cons (.box rfl) (.cons (.box rfl) (.cons (.box rfl) (.cons (.arr rfl (fun i hi=>rfl)) .nil)))))
     ·change lu (dS [] (bW (Bz k o2)) (⟨aY (H1 (0+(k:Int).toNat)).b.length (bH (H1 (0+(k:Int).toNat)).b),iF (H1 (0+(k:Int).toNat)).f.length (qi (H1 (0+(k:Int).toNat)).f),(H1 (0+(k:Int).toNat)).r⟩:gy) 0).2.1=_;rw[Td,Vh,e8]
     ·change g_ (bI (dS [] (bW (Bz k o2)) (⟨aY (H1 (0+(k:Int).toNat)).b.length (bH (H1 (0+(k:Int).toNat)).b),iF (H1 (0+(k:Int).toNat)).f.length (qi (H1 (0+(k:Int).toNat)).f),(H1 (0+(k:Int).toNat)).r⟩:gy) 0).1)=_;rw[Td,Vh,e8];rfl
    refine aB M hI hn (by rfl) (by kernel_rfl) ?_ ?_
    ·simp;omega
    refine aB M hI hn (by rfl) (by kernel_rfl) ?_ ?_
    ·simp
    refine aG (s':=aAB rt ps H0 H2 i st k o1 o2 o3) (fun a w hg=>(hg.reset (kT:=[19,16,13,0,1,5,7,8,9,10]) (kO:=[24013,20013,17014,9000,9500]) (by rfl) ?_).same ?_ ?_) ?_
    ·simp;exact fun i _=>aEw H1 hk' k i
    ·refine .cons rfl (.cons rfl (.cons rfl ?_));exact .cons rfl (.cons rfl (.cons rfl (.cons rfl (.cons rfl (.cons rfl (.cons rfl .nil))))))
    ·rw[e0];exact .cons (.box rfl) (.cons (.box rfl) (.cons (.box rfl) (.cons (.box rfl) (.cons (.arr rfl (fun i hi=>aKh i)) .nil))))
    refine aB M hI hn (by rfl) (by kernel_rfl) ?_ ?_
    ·simp
    refine aH (by rfl) (fun hc=>?_) (fun hc=>?_)
    ·exfalso;have hc2:(bif bif bif o1.err != 0 then true else o2.err != 0 then true else o3.err != 0 then true else !(o3.payload.toList==st.toList))=true:=hc;rw[e2,e6,e9,e10] at hc2;simp at hc2
    refine aP ?_;intro a w hg
    refine⟨rfl,(hg.reset (kT:=[0,1,5,7,8,9,10]) (kO:=[9000,9500]) (by rfl) (by simp;exact dK _ _)).same ?_ ?_⟩
    ·exact .cons rfl (.cons rfl (.cons rfl (.cons rfl (.cons rfl (.cons rfl (.cons rfl .nil))))))
    ·exact .cons (.box rfl) (.cons (.arr rfl (fun i hi=>rfl)) .nil)
   ·have he:k=d:=by
     have hc2:((k:Int) != (d:Int))=false:=hc
     have:(k:Int)=(d:Int):=by simpa using hc2
     omega
    have hH:=r1 he;refine aP ?_;intro a w hg
    refine⟨rfl,(hg.reset (kT:=[0,1,5,7,8,9,10]) (kO:=[9000,9500]) (by rfl) (by simp;exact dK _ _)).same ?_ ?_⟩
    ·rw[he];exact .cons rfl (.cons rfl (.cons rfl (.cons rfl (.cons rfl (.cons rfl (.cons rfl .nil))))))
    ·rw[hH];exact .cons (.box rfl) (.cons (.arr rfl (fun i hi=>rfl)) .nil)
  obtain⟨o1,h1',m1,o2,h2',m2,x1,x2,x3,x4,x5,x6,hd1⟩:=aZe (x:=ps.getD i { data:=#[] }) (by omega) (by omega) (by omega) (by have:=hps i (by omega);omega) r3;have hdk:p_ (H2 k):=r3.MP (by omega) (by omega);have TT:=x6.MP (by omega) (by omega)
  have hpi:(ps.getD i { data:=#[] }).size<=1000:=by have:=hps i (by omega);omega
  refine aB M hI hn (by rfl) (by kernel_rfl) ?_ ?_
  ·simp
   exact⟨by omega,hk3,by omega,hdk,Tq k 2⟩
  refine aG (s':=Jc rt ps H0 H2 k i st o1 h1') (fun a w hg=>(hg.reset (kT:=[20,21,0,1,5,7,8,9,10]) (kO:=[29013,29014,9000,9500]) (by rfl) (by simp;exact dK _ _)).same ?_ ?_) ?_
  ·refine .cons rfl (.cons rfl ?_);exact .cons rfl (.cons rfl (.cons rfl (.cons rfl (.cons rfl (.cons rfl (.cons rfl .nil))))))
  ·refine .cons (.box ?_) (.cons (.box ?_) (.cons (.box rfl) (.cons (.arr rfl (fun i hi=>rfl)) .nil)))
   ·change lu (dS [] (bW (vw k 2)) (⟨aY (H2 (0+(k:Int).toNat)).b.length (bH (H2 (0+(k:Int).toNat)).b),iF (H2 (0+(k:Int).toNat)).f.length (qi (H2 (0+(k:Int).toNat)).f),(H2 (0+(k:Int).toNat)).r⟩:gy) 0).2.1=_;rw[Td,x1]
   ·change g_ (bI (dS [] (bW (vw k 2)) (⟨aY (H2 (0+(k:Int).toNat)).b.length (bH (H2 (0+(k:Int).toNat)).b),iF (H2 (0+(k:Int).toNat)).f.length (qi (H2 (0+(k:Int).toNat)).f),(H2 (0+(k:Int).toNat)).r⟩:gy) 0).1)=_;rw[Td,x1];rfl
  refine aB M hI hn (by rfl) (by kernel_rfl) ?_ ?_
  ·simp;omega
  refine aB M hI hn (by rfl) (by kernel_rfl) ?_ ?_
  ·simp;omega
  refine aG (s':=aAA rt ps H0 H2 k i st o1 h1' (Es k (ps.getD i { data:=#[] }))) (fun a w hg=>(hg.reset (kT:=[22,20,21,0,1,5,7,8,9,10]) (kO:=[30002,29013,29014,9000,9500]) (by rfl) (by simp;exact dK _ _)).same ?_ ?_) ?_
  ·refine .cons rfl (.cons rfl (.cons rfl ?_));exact .cons rfl (.cons rfl (.cons rfl (.cons rfl (.cons rfl (.cons rfl (.cons rfl .nil))))))
  ·exact .cons (.box rfl) (.cons (.box rfl) (.cons (.box rfl) (.cons (.box rfl) (.cons (.arr rfl (fun i hi=>rfl)) .nil))))
  obtain⟨px',hpx⟩:∃ x,ps.getD i { data:=#[] }=x:=⟨_,rfl⟩;rw[hpx] at x4 x6 hpi ⊢;refine aB M hI hn (by rfl) (by kernel_rfl) ?_ ?_
  ·simp
   exact⟨hd1,Oo k px' (by omega)⟩
  refine aG (s':=Zz rt ps H0 H2 k i st o1 o2 h2') (fun a w hg=>(hg.reset (kT:=[23,24,21,0,1,5,7,8,9,10]) (kO:=[32006,32007,29014,9000,9500]) (by rfl) (by simp;exact dK _ _)).same ?_ ?_) ?_
  ·refine .cons rfl (.cons rfl (.cons rfl ?_));exact .cons rfl (.cons rfl (.cons rfl (.cons rfl (.cons rfl (.cons rfl (.cons rfl .nil))))))
  ·refine .cons (.box ?_) (.cons (.box ?_) (.cons (.box rfl) (.cons (.box rfl) (.cons (.arr rfl (fun i hi=>rfl)) .nil))))
   ·change lu (dS [] (bW (Es k px')) (⟨aY h1'.b.length (bH h1'.b),iF h1'.f.length (qi h1'.f),h1'.r⟩:gy) 0).2.1=_;rw[aK,bM,x4]
   ·change g_ (bI (dS [] (bW (Es k px')) (⟨aY h1'.b.length (bH h1'.b),iF h1'.f.length (qi h1'.f),h1'.r⟩:gy) 0).1)=_;rw[aK,bM,x4];rfl
  refine aB M hI hn (by rfl) (by kernel_rfl) ?_ ?_
  ·simp;omega
  refine aG (s':=Zy rt ps H0 (Fa H2 k h2') k i st o1 o2) (fun a w hg=>(hg.reset (kT:=[24,21,0,1,5,7,8,9,10]) (kO:=[32007,29014,9000,9500]) (by rfl) ?_).same ?_ ?_) ?_
  ·simp;exact fun i _=>aEw H2 h2' k i
  ·refine .cons rfl (.cons rfl ?_);exact .cons rfl (.cons rfl (.cons rfl (.cons rfl (.cons rfl (.cons rfl (.cons rfl .nil))))))
  ·exact .cons (.box rfl) (.cons (.box rfl) (.cons (.box rfl) (.cons (.arr rfl (fun i hi=>aKh i)) .nil)))
  refine aN ?_;refine aB M hI hn (by rfl) (by kernel_rfl) ?_ ?_
  ·simp
  refine aH (by rfl) (fun hc=>?_) (fun hc=>?_)
  ·exfalso;have hc2:(bif bif o1.err != 0 then true else !(o1.payload.toList==st.toList) then true else o2.err != 0)=true:=hc;rw[x2,x3,x5] at hc2;simp at hc2
  refine aP ?_;change iw _ _ _ _ _;refine aQ M hI hn (by rfl) (by kernel_rfl) ?_ ?_
  ·simp;omega
  change iw _ _ _ _ _;refine aQ M hI hn (by rfl) (by kernel_rfl) ?_ ?_
  ·simp
  intro a w hg
  refine⟨i+1,_,by omega,by omega,⟨Fa H2 k h2',k,px',rfl,⟨hk3,by omega,?_,fun j hj hne=>?_⟩⟩,(hg.reset (kT:=[0,1,5,7,8,9,10]) (kO:=[9000,9500]) (by rfl) (by simp;exact dK _ _)).same ?_ ?_⟩
  ·rw[aYu];exact x6.mono (by omega) (by omega) (by omega)
  ·rw[aSd _ _ hne];exact (r4 j hj hne).mono (by omega) (by omega) (by omega)
  ·refine .cons rfl (.cons rfl (.cons rfl (.cons rfl (.cons rfl (.cons ?_ (.cons (by rw[fG i (by omega)]) .nil))))));rw[<-hpx];rfl
  ·exact .cons (.box rfl) (.cons (.arr rfl (fun i hi=>rfl)) .nil)
 have Vb:i=rt.length:=by
  have hc2:decide ((i:Int)<(rt.length:Int))=false:=hc;have:=of_decide_eq_false hc2;omega
 refine gW ?_;change iw _ _ _ _ _;refine aB M hI hn (by rfl) (by kernel_rfl) ?_ ?_
 ·simp
 refine aN ?_;refine aB M hI hn (by rfl) (by kernel_rfl) ?_ ?_
 ·simp
 refine bG ?_;refine aG (s':=Jb H0 H st 0 0) (fun a w hg=>(hg.reset (kT:=[5,7,9,25,26]) (kO:=[9000,9500]) (by rfl) (by simp;exact dK _ _)).same ?_ ?_) ?_
 ·exact .cons rfl (.cons rfl (.cons rfl (.cons rfl (.cons rfl .nil))))
 ·exact .cons (.box rfl) (.cons (.arr rfl (fun i hi=>rfl)) .nil)
 refine iL 3 (fun k t=>t=Jb H0 H st (if d<k then 1 else 0) k) 0 rfl (by omega) (fun k t hJ hk=>?_);subst hJ;refine aN ?_;refine aB M hI hn (by rfl) (by kernel_rfl) ?_ ?_
 ·simp
 refine aH (by rfl) (fun hc=>?_) (fun hc=>?_)
 ·have hk3:k<3:=by
   have hc2:decide ((k:Int)<3)=true:=hc;have:=of_decide_eq_true hc2;omega
  have hdk:=hI2.MP (by omega) k hk3;obtain⟨q',hq'⟩:∃ q',dS [] (bW (vw k 2)) (H k) 0=q':=⟨_,rfl⟩
  have hend:((bI q'.1).err=0/\(bI q'.1).payload=st/\k=d)\/(¬(bI q'.1).err=0/\k≠d):=by
   by_cases e:k=d
   ·subst e;obtain⟨o,h',n,y1,y2,y3⟩:=KR (by omega) (by omega) hI2.live;rw[y1] at hq';subst hq';exact .inl ⟨y2,y3,rfl⟩
   ·obtain⟨o,h',n,y1,y2⟩:=Kr (by omega) (hI2.idle k hk3 e);rw[y1] at hq';subst hq';exact .inr ⟨y2,e⟩
  obtain⟨oo,hoo⟩:∃ oo,bI q'.1=oo:=⟨_,rfl⟩;rw[hoo] at hend;obtain⟨nn,hnn⟩:∃ nn:Nat,(if d<k then 1 else 0)=nn:=⟨_,rfl⟩;rw[hnn];refine aP ?_;change iw _ _ _ _ _;refine aN ?_;refine bG ?_;refine aB M hI hn (by rfl) (by kernel_rfl) ?_ ?_
  ·simp
   exact⟨by omega,hk3,by omega,hdk,Tq k 2⟩
  refine aG (s':=Zx H0 H st nn k oo) (fun a w hg=>(hg.reset (kT:=[28,5,7,9,25,26]) (kO:=[41014,9000,9500]) (by rfl) (by simp;exact dK _ _)).same ?_ ?_) ?_
  ·exact .cons rfl (.cons rfl (.cons rfl (.cons rfl (.cons rfl (.cons rfl .nil)))))
  ·refine .cons (.box ?_) (.cons (.box rfl) (.cons (.arr rfl (fun i hi=>rfl)) .nil));change g_ (bI (dS [] (bW (vw k 2)) (⟨aY (H (0+(k:Int).toNat)).b.length (bH (H (0+(k:Int).toNat)).b),iF (H (0+(k:Int).toNat)).f.length (qi (H (0+(k:Int).toNat)).f),(H (0+(k:Int).toNat)).r⟩:gy) 0).1)=_;rw[Td,hq',hoo]
  refine aB M hI hn (by rfl) (by kernel_rfl) ?_ ?_
  ·simp
  refine aH (by rfl) (fun hc=>?_) (fun hc=>?_)
  ·have hc2:(bif oo.err==0 then oo.payload.toList==st.toList else false)=true:=hc
   have hke:k=d:=by
    rcases hend with⟨_,_,h⟩|⟨h,_⟩
    ·exact h
    ·rw[show (oo.err==0)=false from by rw[beq_eq_false_iff_ne];exact h] at hc2;cases hc2
   have hn0:nn=0:=by rw[<-hnn,if_neg (by omega)]
   subst hn0;refine aQ M hI hn (by rfl) (by kernel_rfl) ?_ ?_
   ·simp
   change iw _ _ _ _ _;refine aQ M hI hn (by rfl) (by kernel_rfl) ?_ ?_
   ·simp
   intro a w hg
   refine⟨k+1,_,by omega,by omega,rfl,(hg.reset (kT:=[5,7,9,25,26]) (kO:=[9000,9500]) (by rfl) (by simp;exact dK _ _)).same ?_ ?_⟩
   ·rw[if_pos (show d<k+1 by omega)];exact .cons rfl (.cons rfl (.cons rfl (.cons rfl (.cons (by rw[fG k (by omega)]) .nil))))
   ·exact .cons (.box rfl) (.cons (.arr rfl (fun i hi=>rfl)) .nil)
  ·have hc2:(bif oo.err==0 then oo.payload.toList==st.toList else false)=false:=hc
   have hke:k≠d:=by
    rcases hend with⟨h1,h2,_⟩|⟨_,h⟩
    ·rw[h1,h2] at hc2;simp at hc2
    ·exact h
   refine aP ?_;change iw _ _ _ _ _;refine aQ M hI hn (by rfl) (by kernel_rfl) ?_ ?_
   ·simp
   intro a w hg
   refine⟨k+1,_,by omega,by omega,rfl,(hg.reset (kT:=[5,7,9,25,26]) (kO:=[9000,9500]) (by rfl) (by simp;exact dK _ _)).same ?_ ?_⟩
   ·have:(if d<k+1 then 1 else 0)=nn:=by
     rw[<-hnn]
     by_cases h:d<k
     ·rw[if_pos h,if_pos (by omega)]
     ·rw[if_neg h,if_neg (by omega)]
    rw[this];exact .cons rfl (.cons rfl (.cons rfl (.cons rfl (.cons (by rw[fG k (by omega)]) .nil))))
   ·exact .cons (.box rfl) (.cons (.arr rfl (fun i hi=>rfl)) .nil)
 have hk3:k=3:=by
  have hc2:decide ((k:Int)<3)=false:=hc;have:=of_decide_eq_false hc2;omega
 subst hk3;rw[if_pos (show d<3 from hI2.lt)];refine gW ?_;change iw _ _ _ _ _;refine aB M hI hn (by rfl) (by kernel_rfl) ?_ ?_
 ·simp
 refine aO (fun a w hg=>⟨.inr rfl,_,?_,hg⟩);refine aC (by rfl) (by simp) (by rfl) (by rfl) ?_;rfl
end Go.Proofs.YtndpjopifkbgiaaGreatDoor.Pv
