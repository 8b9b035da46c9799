/-
  Several texts in one file: each has its own heading below.
-/
import Derived.Test.YtndpjopifkbgiaaGreatDoorMmN
import Derived.Test.YtndpjopifkbgiaaGreatDoorMmL
import Derived.Test.YtndpjopifkbgiaaGreatDoorMmK
import Derived.Test.YtndpjopifkbgiaaGreatDoorMmJ
import Derived.Test.YtndpjopifkbgiaaGreatDoorMmI
set_option maxRecDepth 100000
set_option maxHeartbeats 4000000
namespace Go.Proofs.YtndpjopifkbgiaaGreatDoor
open Go.RowKit
namespace Pv
def bDz(l:List PC)(ys:List PV):Option (Prop×ai Unit×(Unit->PV)):=match Bv l,ys with
 |some (m,_),[.w (.agg rl)]=>(match TY rl with
  |some r=>some (m.root.length=16/\CP r,z_ m r,fun _=>.lh [])
  |none=>none)
 |_,_=>none
theorem QG:aj Tryz.prog a_ 79 (iM ny um bDz):=
 jR (aF Tryz.func79 (by kernel_rfl) rfl) (fun l ys c p v h hc=>by
  unfold bDz at h
  split at h
  ·rename_i m f rl ho
   cases hq:TY rl with
   |none=>rw[hq] at h;cases h
   |some r=>
    rw[hq] at h;cases h;rw[uK ho,aKj hq];exact PG m f r hc.1 hc.2
  ·cases h)
def bEb(l:List PC)(ys:List PV):Option (Prop×ai lm×(lm->PV)):=match Bv l,ys with
 |some (m,_),[]=>some (m.root.length=16,qo m,fun r=>.w (.agg (uj r)))
 |_,_=>none
theorem QH:aj Tryz.prog a_ 76 (iM ny um bEb):=
 jR (aF Tryz.func76 (by kernel_rfl) rfl) (fun l ys c p v h hc=>by
  unfold bEb at h
  split at h
  ·rename_i m f ho;cases h;rw[uK ho];exact Qm m f hc
  ·cases h)
def aRj(l:List PC)(ys:List PV):Option (Prop×ai Unit×(Unit->PV)):=match Bv l,ys with
 |some (_,f),[]=>some (0<=f/\f<=900,rW f.toNat,fun _=>.lh [])
 |_,_=>none
theorem KF:aj Tryz.prog a_ 77 (iM ny um aRj):=
 jR (aF Tryz.func77 (by kernel_rfl) rfl) (fun l ys c p v h hc=>by
  unfold aRj at h
  split at h
  ·rename_i m f ho;cases h;rw[uK ho];obtain⟨k,rfl⟩:∃ k:Nat,f=(k:Int):=⟨f.toNat,by omega⟩;rw[Int.toNat_natCast];exact Jp m k (by omega)
  ·cases h)
def aRg(l:List PC)(ys:List PV):Option (Prop×ai Unit×(Unit->PV)):=match Bv l,ys with
 |some (_,f),[]=>some (0<=f/\f<=900,oJ f.toNat,fun _=>.lh [])
 |_,_=>none
theorem KE:aj Tryz.prog a_ 74 (iM ny um aRg):=
 jR (aF Tryz.func74 (by kernel_rfl) rfl) (fun l ys c p v h hc=>by
  unfold aRg at h
  split at h
  ·rename_i m f ho;cases h;rw[uK ho];obtain⟨k,rfl⟩:∃ k:Nat,f=(k:Int):=⟨f.toNat,by omega⟩;rw[Int.toNat_natCast];exact Ia m k (by omega)
  ·cases h)
def Q7:List (Nat×Spec):=(79,iM ny um bDz)::(76,iM ny um bEb)::(77,iM ny um aRj)::(74,iM ny um aRg)::Q8
theorem Jt:∀ p∈Q7,aj Tryz.prog a_ p.1 p.2:=by
 intro p hp;simp only[Q7,List.mem_cons] at hp;rcases hp with rfl|rfl|rfl|rfl|hp
 ·exact QG
 ·exact QH
 ·exact KF
 ·exact KE
 ·exact Ju p hp
theorem aJY:l_ Tryz.prog a_ (find Q7):=⟨bV Jt,fC⟩
def zT(f:Nat)(p:ByteArray):lm:=⟨1,((f+1:Nat):Int),uz,0,p⟩
def nG(m:ji)(f:Nat)(p:ByteArray):ai jd:=(z_ m (zT f p)).bind fun _=>(rW f).bind fun _=>.ret { jr with payload:=p }
theorem aXt(m:ji)(f:Nat)(p:ByteArray)(hf:f<=900)(hr:m.root.length=16)(hp:p.size<=10000):uM Tryz.prog a_ ny 75 um (jw m f) (nG m f p) [pq p] (fun o=>.w (.agg (g_ o))):=by
 intro O l hO hF;have M:=aJY;have hL0:Left O (nG m f p) l (nG m f p) l:=Left.start _ _ _;have hL1:=Left.step (q:=z_ m (zT f p)) hL0;have hL2:=Left.step hL1
 have hw:IntKind.i64.wrap ((f:Int)+1)=((f+1:Nat):Int):=by rw[IntKind.wrap_i64];omega
 generalize hstp:(fun h=>l <+: h/\h <+: (go O (nG m f p) l).2)=d_;refine kM Tryz.func75 rfl rfl (fun A hn hI=>?_);refine aB M hI hn (by rfl) (by kernel_rfl) ?_ ?_
 ·simp
 refine aB M hI hn (by rfl) (by kernel_rfl) ?_ ?_
 ·simp;rw[hw]
  refine⟨⟨hO,hF,hr,⟨(by show iq 1;unfold iq;omega),(by show iq ((f+1:Nat):Int);unfold iq;omega),(by show iq 0;unfold iq;omega),rfl,hp⟩⟩,?_⟩
  intro h h1 h2 h3;rw[<-hstp];exact Left.d_ (q:=z_ m (zT f p)) hL0 h h1 h2 h3
 obtain⟨l1,hq⟩:∃ l1,(go O (z_ m (zT f p)) l).2=l1:=⟨_,rfl⟩;rw[hq] at hL1 hL2;refine aG (s':=⟨[(0,none,dh (.pt px 0 0)),(1,none,pq p),(4,none,dh (.pt 0 0 0))],[(dx,none,0,.dev O d_ l1),(px,none,0,.box um (.dv::jw m f)),(0,none,0,.box 40 (g_ jr))]⟩) (fun a w hg=>(hg.reset (kT:=[0,1,4]) (kO:=[dx,px,0]) (by rfl) (by simp)).same ?_ ?_) ?_
 ·exact .cons rfl (.cons rfl (.cons rfl .nil))
 ·refine .cons (.dev ?_) (.cons (.box rfl) (.cons (.box rfl) .nil));show (go O (z_ m ⟨1,IntKind.i64.wrap ((f:Int)+1),uz,0,p⟩) l).2=_;rw[hw];exact hq
 refine aB M hI hn (by rfl) (by kernel_rfl) ?_ ?_
 ·simp
  refine⟨⟨hO,hF,by omega⟩,?_⟩
  intro h h1 h2 h3;rw[<-hstp];exact Left.d_ hL1 h h1 h2 h3
 refine aB M hI hn (by rfl) (by kernel_rfl) ?_ ?_
 ·simp
 refine aO (fun a w hg=>⟨.inr rfl,_,⟨?_,⟨jw m f,rfl,dV rfl⟩,?_⟩,hg⟩);rotate_left 1
 ·rw[hL2.2];rfl
 refine aC (by rfl) (by simp) (by rfl) (by rfl) ?_;rw[hL2.2];rfl
def aEl(l:List PC)(ys:List PV):Option (Prop×ai jd×(jd->PV)):=match Bv l,ys with
 |some (m,f),[.w (.one (.lit (.string p)))]=>some (0<=f/\f<=900/\m.root.length=16/\p.size<=10000,nG m f.toNat p,fun o=>.w (.agg (g_ o)))
 |_,_=>none
theorem aWk:aj Tryz.prog a_ 75 (iM ny um aEl):=
 jR (aF Tryz.func75 (by kernel_rfl) rfl) (fun l ys c p v h hc=>by
  unfold aEl at h
  split at h
  ·rename_i m f q ho;cases h;rw[uK ho];obtain⟨k,rfl⟩:∃ k:Nat,f=(k:Int):=⟨f.toNat,by omega⟩;rw[Int.toNat_natCast];exact aXt m k q (by omega) hc.2.2.1 hc.2.2.2
  ·cases h)
def Q5:List (Nat×Spec):=(75,iM ny um aEl)::Q7
theorem Js:∀ p∈Q5,aj Tryz.prog a_ p.1 p.2:=by
 intro p hp;simp only[Q5,List.mem_cons] at hp;rcases hp with rfl|hp
 ·exact aWk
 ·exact Jt p hp
theorem aAM:l_ Tryz.prog a_ (find Q5):=⟨bV Js,fC⟩
def ZC(m:ji)(f:Nat):ai jd:=(oJ f).bind fun _=>(nG m f m.payload).bind fun o=>.ret o
theorem aXl(m:ji)(f:Nat)(hf:f<=900)(hr:m.root.length=16)(hp:m.payload.size<=10000):uM Tryz.prog a_ ny 48 um (jw m f) (ZC m f) [] (fun o=>.w (.agg (g_ o))):=by
 intro O l hO hF;have M:=aAM;have hL0:Left O (ZC m f) l (ZC m f) l:=Left.start _ _ _;have hL1:=Left.step (q:=oJ f) hL0;have hL2:=Left.step hL1;generalize hstp:(fun h=>l <+: h/\h <+: (go O (ZC m f) l).2)=d_;refine kM Tryz.func48 rfl rfl (fun A hn hI=>?_);refine aB M hI hn (by rfl) (by kernel_rfl) ?_ ?_
 ·simp
 refine aB M hI hn (by rfl) (by kernel_rfl) ?_ ?_
 ·simp
  refine⟨⟨hO,hF,by omega⟩,?_⟩
  intro h h1 h2 h3;rw[<-hstp];exact Left.d_ (q:=oJ f) hL0 h h1 h2 h3
 refine aB M hI hn (by rfl) (by kernel_rfl) ?_ ?_
 ·simp
  refine⟨⟨hO,hF,by omega,hr,hp⟩,?_⟩
  intro h h1 h2 h3;rw[<-hstp];exact Left.d_ hL1 h h1 h2 h3
 refine aO (fun a w hg=>⟨.inr rfl,_,⟨?_,⟨jw m f,rfl,dV rfl⟩,?_⟩,hg⟩);rotate_left 1
 ·rw[hL2.2];rfl
 refine aC (by rfl) (by simp) (by rfl) (by rfl) ?_;rw[hL2.2];rfl
def Yz(m:ji)(f:Nat):ai jd:=(oJ f).bind fun _=>.ret { jr with ot:=m.id,ol:=f }
theorem bBd(m:ji)(f:Nat)(hf:f<=900):uM Tryz.prog a_ ny 51 um (jw m f) (Yz m f) [] (fun o=>.w (.agg (g_ o))):=by
 intro O l hO hF;have M:=aAM;have hL0:Left O (Yz m f) l (Yz m f) l:=Left.start _ _ _;have hL1:=Left.step (q:=oJ f) hL0;generalize hstp:(fun h=>l <+: h/\h <+: (go O (Yz m f) l).2)=d_;refine kM Tryz.func51 rfl rfl (fun A hn hI=>?_);refine aB M hI hn (by rfl) (by kernel_rfl) ?_ ?_
 ·simp
 refine aB M hI hn (by rfl) (by kernel_rfl) ?_ ?_
 ·simp
  refine⟨⟨hO,hF,by omega⟩,?_⟩
  intro h h1 h2 h3;rw[<-hstp];exact Left.d_ (q:=oJ f) hL0 h h1 h2 h3
 refine aB M hI hn (by rfl) (by kernel_rfl) ?_ ?_
 ·simp
 refine aO (fun a w hg=>⟨.inr rfl,_,⟨?_,⟨jw m f,rfl,dV rfl⟩,?_⟩,hg⟩);rotate_left 1
 ·rw[hL1.2];rfl
 refine aC (by rfl) (by simp) (by rfl) (by rfl) ?_;rw[hL1.2];rfl
def MS(l:List PC)(ys:List PV):Option (Prop×ai jd×(jd->PV)):=match Bv l,ys with
 |some (m,_),[.w (.agg rl)]=>(match TY rl with
  |some r=>some (iq r.ol/\m.link.length=16/\r.ot.length=16/\r.payload.size<=10000,.ret (fZ m.link r),fun o=>.w (.agg (g_ o)))
  |none=>none)
 |_,_=>none
theorem V9:aj Tryz.prog a_ 80 (iM ny um MS):=
 jR (aF Tryz.func80 (by kernel_rfl) rfl) (fun l ys c p v h hc=>by
  unfold MS at h
  split at h
  ·rename_i m f rl ho
   cases hq:TY rl with
   |none=>rw[hq] at h;cases h
   |some r=>
    rw[hq] at h;cases h;rw[uK ho,aKj hq];exact aLi m f r hc.1 hc.2.1 hc.2.2.1 hc.2.2.2
  ·cases h)
def Uw:List (Nat×Spec):=(80,iM ny um MS)::Q5
theorem Uz:∀ p∈Uw,aj Tryz.prog a_ p.1 p.2:=by
 intro p hp;simp only[Uw,List.mem_cons] at hp;rcases hp with rfl|hp
 ·exact V9
 ·exact Js p hp
theorem F9:l_ Tryz.prog a_ (find Uw):=⟨bV Uz,fC⟩
def Yo(m:ji)(f:Nat):ai jd:=(iC (((f % 2:Nat):Int)==1) 21).bind fun _=>(z_ m ⟨1,(f:Int),uz,0,m.payload⟩).bind fun _=>.ret { jr with payload:=m.payload }
theorem Yw(f:Nat):(f:Int).tmod 2=((f % 2:Nat):Int):=rfl
theorem bBo(m:ji)(f:Nat)(hf:f<=900)(hr:m.root.length=16)(hp:m.payload.size<=10000):uM Tryz.prog a_ ny 50 um (jw m f) (Yo m f) [] (fun o=>.w (.agg (g_ o))):=by
 intro O l hO hF;have M:=F9;have hL0:Left O (Yo m f) l (Yo m f) l:=Left.start _ _ _;have hL1:=Left.step (q:=iC (((f % 2:Nat):Int)==1) 21) hL0;have hL2:=Left.step hL1;generalize hstp:(fun h=>l <+: h/\h <+: (go O (Yo m f) l).2)=d_;refine kM Tryz.func50 rfl rfl (fun A hn hI=>?_);refine aB M hI hn (by rfl) (by kernel_rfl) ?_ ?_
 ·simp
 refine aB M hI hn (by rfl) (by kernel_rfl) ?_ ?_
 ·simp
  refine⟨⟨hO,hF⟩,?_⟩
  rw[Yw];intro h h1 h2 h3;rw[<-hstp];exact Left.d_ (q:=iC (((f % 2:Nat):Int)==1) 21) hL0 h h1 h2 h3
 obtain⟨l1,hq⟩:∃ l1,(go O (iC (((f % 2:Nat):Int)==1) 21) l).2=l1:=⟨_,rfl⟩;rw[hq] at hL1 hL2;refine aG (s':=⟨[(0,none,dh (.pt px 0 0)),(2,none,dh (.pt 0 0 0))],[(dx,none,0,.dev O d_ l1),(px,none,0,.box um (.dv::jw m f)),(0,none,0,.box 40 (g_ jr))]⟩) (fun a w hg=>(hg.reset (kT:=[0,2]) (kO:=[dx,px,0]) (by rfl) (by simp)).same ?_ ?_) ?_
 ·exact .cons rfl (.cons rfl .nil)
 ·exact .cons (.dev hq) (.cons (.box rfl) (.cons (.box rfl) .nil))
 refine aB M hI hn (by rfl) (by kernel_rfl) ?_ ?_
 ·simp
  refine⟨⟨hO,hF,hr,⟨(by show iq 1;unfold iq;omega),(by show iq (f:Int);unfold iq;omega),(by show iq 0;unfold iq;omega),rfl,hp⟩⟩,?_⟩
  intro h h1 h2 h3;rw[<-hstp];exact Left.d_ hL1 h h1 h2 h3
 refine aB M hI hn (by rfl) (by kernel_rfl) ?_ ?_
 ·simp
 refine aO (fun a w hg=>⟨.inr rfl,_,⟨?_,⟨jw m f,rfl,dV rfl⟩,?_⟩,hg⟩);rotate_left 1
 ·rw[hL2.2];rfl
 refine aC (by rfl) (by simp) (by rfl) (by rfl) ?_;rw[hL2.2];rfl
theorem MX(root:List UInt8)(s:ByteArray)(hs:s.size<=5000):CP (OG root s).1:=by
 have h0:CP Ez:=⟨by show iq 0;unfold iq;omega,by show iq 0;unfold iq;omega,by show iq 0;unfold iq;omega,rfl,by decide⟩;unfold OG
 cases hR:yC root s.data.toList with
 |E8=>exact h0
 |FP=>exact h0
 | okR p=>
  have hpl:=aMj hR;rw[show s.data.toList.length=s.size from Array.length_toList] at hpl;unfold TM;dsimp only;unfold mgT
  split
  ·exact h0
  ·rename_i h;unfold mgU;dsimp only;have h1:=nP (List.drop (b_ (List.drop 16 (List.drop (b_ (List.drop (b_ p).2.1 p)).2.1 (List.drop (b_ p).2.1 p)))).2.1 (List.drop 16 (List.drop (b_ (List.drop (b_ p).2.1 p)).2.1 (List.drop (b_ p).2.1 p))));simp only[List.length_drop] at h1
   refine⟨iO _,iO _,iO _,?_,?_⟩
   ·simp only[List.length_drop,not_or,Nat.not_lt] at h;simp only[List.length_take,List.length_drop];omega
   ·show (strOf _).size<=10000;rw[bQ];omega
theorem aJs(m:ji):ai.All (fun r:lm=>CP r) (qo m):=by
 refine ai.All.bind (aMv 3) (fun s hs=>?_);refine ai.All.bind (R:=fun _=>True) (ai.All.yg _) (fun _ _=>?_);refine ai.All.bind (R:=fun _=>True) (ai.All.yg _) (fun _ _=>?_);exact MX m.root s.content (by omega)
def zI(m:ji)(f:Nat):ai jd:=(iC (((f % 2:Nat):Int)==0) 21).bind fun _=>(qo m).bind fun r=>(iC (bif r.kind==2 then r.level==(f:Int) else false) 14).bind fun _=>.ret (fZ m.link r)
theorem aVt(m:ji)(f:Nat)(_:f<=900)(hr:m.root.length=16)(hl:m.link.length=16):uM Tryz.prog a_ ny 53 um (jw m f) (zI m f) [] (fun o=>.w (.agg (g_ o))):=by
 intro O l hO hF;have M:=F9;have hL0:Left O (zI m f) l (zI m f) l:=Left.start _ _ _;have hL1:=Left.step (q:=iC (((f % 2:Nat):Int)==0) 21) hL0;have hL2:=Left.step hL1;generalize hstp:(fun h=>l <+: h/\h <+: (go O (zI m f) l).2)=d_;refine kM Tryz.func53 rfl rfl (fun A hn hI=>?_);refine aB M hI hn (by rfl) (by kernel_rfl) ?_ ?_
 ·simp
 refine aB M hI hn (by rfl) (by kernel_rfl) ?_ ?_
 ·simp
  refine⟨⟨hO,hF⟩,?_⟩
  rw[Yw];intro h h1 h2 h3;rw[<-hstp];exact Left.d_ (q:=iC (((f % 2:Nat):Int)==0) 21) hL0 h h1 h2 h3
 obtain⟨l1,hq⟩:∃ l1,(go O (iC (((f % 2:Nat):Int)==0) 21) l).2=l1:=⟨_,rfl⟩;rw[hq] at hL1 hL2;refine aG (s':=⟨[(0,none,dh (.pt px 0 0)),(2,none,dh (.pt 0 0 0))],[(dx,none,0,.dev O d_ l1),(px,none,0,.box um (.dv::jw m f)),(0,none,0,.box 40 (g_ jr))]⟩) (fun a w hg=>(hg.reset (kT:=[0,2]) (kO:=[dx,px,0]) (by rfl) (by simp)).same ?_ ?_) ?_
 ·exact .cons rfl (.cons rfl .nil)
 ·exact .cons (.dev hq) (.cons (.box rfl) (.cons (.box rfl) .nil))
 have Ar:=Tn O (aJs m) l1;refine aB M hI hn (by rfl) (by kernel_rfl) ?_ ?_
 ·simp
  refine⟨⟨hO,hF,hr⟩,?_⟩
  intro h h1 h2 h3;rw[<-hstp];exact Left.d_ hL1 h h1 h2 h3
 obtain⟨r,l2,hq2⟩:∃ r l2,go O (qo m) l1=(r,l2):=⟨_,_,rfl⟩;rw[hq2] at hL2 Ar;dsimp only at hL2 Ar;refine aG (s':=⟨[(0,none,dh (.pt px 0 0)),(2,none,dh (.pt 0 0 0)),(3,none,dh (.pt 2002 0 0))],[(dx,none,0,.dev O d_ l2),(px,none,0,.box um (.dv::jw m f)),(0,none,0,.box 40 (g_ jr)),(2002,none,0,.box 149 (uj r))]⟩) (fun a w hg=>(hg.reset (kT:=[0,2,3]) (kO:=[dx,px,0,2002]) (by rfl) (by simp)).same ?_ ?_) ?_
 ·exact .cons rfl (.cons rfl (.cons rfl .nil))
 ·refine .cons (.dev ?_) (.cons (.box rfl) (.cons (.box rfl) (.cons (.box ?_) .nil)))
  ·show (go O (qo m) l1).2=_;rw[hq2]
  ·show uj (go O (qo m) l1).1=_;rw[hq2]
 have hL3:=Left.step hL2;have hL2':=hL2;have hL3':=hL3
 rw[show ∀ a b:Bool,(bif a then b else false)=(a&&b) from fun a b=>by cases a<;>rfl] at hL2' hL3'
 refine aB M hI hn (by rfl) (by kernel_rfl) ?_ ?_
 ·simp
  refine⟨⟨hO,hF⟩,?_⟩
  intro h h1 h2 h3;rw[<-hstp];exact Left.d_ hL2' h h1 h2 h3
 refine aB M hI hn (by rfl) (by kernel_rfl) ?_ ?_
 ·simp
  refine⟨⟨hO,hF,Ar.ol,hl,Ar.ot,Ar.payload⟩,?_⟩
  intro h h1 h2 h3;rw[<-hstp];exact Left.d_ (q:=.ret (fZ m.link r)) (f:=fun o=>.ret o) hL3' h h1 h2 h3
 refine aO (fun a w hg=>⟨.inr rfl,_,⟨?_,⟨jw m f,rfl,dV rfl⟩,?_⟩,hg⟩);rotate_left 1
 ·rw[hL3.2];rfl
 refine aC (by rfl) (by simp) (by rfl) (by rfl) ?_;rw[hL3.2];rfl
def S9(m:ji)(f:Nat)(r:lm):lm:=⟨2,((f+1:Nat):Int),m.ot,m.ol,r.payload⟩
def Yp(m:ji)(f:Nat):ai jd:=(iC (((f % 2:Nat):Int)==1) 21).bind fun _=>(qo m).bind fun r=>(iC (bif r.kind==1 then r.level==(f:Int) else false) 14).bind fun _=>
 (rW f).bind fun _=>(z_ m (S9 m f r)).bind fun _=>.ret (fZ m.link (S9 m f r))
theorem He(m:ji)(f:Nat)(hf:f<=900)(hr:m.root.length=16)(hl:m.link.length=16)(ho:m.ot.length=16)(hol:iq m.ol):uM Tryz.prog a_ ny 52 um (jw m f) (Yp m f) [] (fun o=>.w (.agg (g_ o))):=by
 intro O l hO hF;have M:=F9;have hL0:Left O (Yp m f) l (Yp m f) l:=Left.start _ _ _;have hL1:=Left.step (q:=iC (((f % 2:Nat):Int)==1) 21) hL0;have hL2:=Left.step hL1;generalize hstp:(fun h=>l <+: h/\h <+: (go O (Yp m f) l).2)=d_;refine kM Tryz.func52 rfl rfl (fun A hn hI=>?_);refine aB M hI hn (by rfl) (by kernel_rfl) ?_ ?_
 ·simp
 refine aB M hI hn (by rfl) (by kernel_rfl) ?_ ?_
 ·simp
  refine⟨⟨hO,hF⟩,?_⟩
  rw[Yw];intro h h1 h2 h3;rw[<-hstp];exact Left.d_ (q:=iC (((f % 2:Nat):Int)==1) 21) hL0 h h1 h2 h3
 obtain⟨l1,hq⟩:∃ l1,(go O (iC (((f % 2:Nat):Int)==1) 21) l).2=l1:=⟨_,rfl⟩;rw[hq] at hL1 hL2;refine aG (s':=⟨[(0,none,dh (.pt px 0 0)),(2,none,dh (.pt 0 0 0))],[(dx,none,0,.dev O d_ l1),(px,none,0,.box um (.dv::jw m f)),(0,none,0,.box 40 (g_ jr))]⟩) (fun a w hg=>(hg.reset (kT:=[0,2]) (kO:=[dx,px,0]) (by rfl) (by simp)).same ?_ ?_) ?_
 ·exact .cons rfl (.cons rfl .nil)
 ·exact .cons (.dev hq) (.cons (.box rfl) (.cons (.box rfl) .nil))
 have Ar:=Tn O (aJs m) l1;refine aB M hI hn (by rfl) (by kernel_rfl) ?_ ?_
 ·simp
  refine⟨⟨hO,hF,hr⟩,?_⟩
  intro h h1 h2 h3;rw[<-hstp];exact Left.d_ hL1 h h1 h2 h3
 obtain⟨r,l2,hq2⟩:∃ r l2,go O (qo m) l1=(r,l2):=⟨_,_,rfl⟩;rw[hq2] at hL2 Ar;dsimp only at hL2 Ar;refine aG (s':=⟨[(0,none,dh (.pt px 0 0)),(2,none,dh (.pt 0 0 0)),(3,none,dh (.pt 2002 0 0))],[(dx,none,0,.dev O d_ l2),(px,none,0,.box um (.dv::jw m f)),(0,none,0,.box 40 (g_ jr)),(2002,none,0,.box 149 (uj r))]⟩) (fun a w hg=>(hg.reset (kT:=[0,2,3]) (kO:=[dx,px,0,2002]) (by rfl) (by simp)).same ?_ ?_) ?_
 ·exact .cons rfl (.cons rfl (.cons rfl .nil))
 ·refine .cons (.dev ?_) (.cons (.box rfl) (.cons (.box rfl) (.cons (.box ?_) .nil)))
  ·show (go O (qo m) l1).2=_;rw[hq2]
  ·show uj (go O (qo m) l1).1=_;rw[hq2]
 have hL3:=Left.step hL2;have hL2':=hL2;have hL3':=hL3
 rw[show ∀ a b:Bool,(bif a then b else false)=(a&&b) from fun a b=>by cases a<;>rfl] at hL2' hL3'
 have hw:IntKind.i64.wrap ((f:Int)+1)=((f+1:Nat):Int):=by rw[IntKind.wrap_i64];omega
 refine aB M hI hn (by rfl) (by kernel_rfl) ?_ ?_
 ·simp
  refine⟨⟨hO,hF⟩,?_⟩
  intro h h1 h2 h3;rw[<-hstp];exact Left.d_ hL2' h h1 h2 h3
 have hL4:=Left.step hL3;obtain⟨l3,hq3⟩:∃ l3,(go O (iC (bif r.kind==1 then r.level==(f:Int) else false) 14) l2).2=l3:=⟨_,rfl⟩;rw[hq3] at hL3 hL4;refine aG (s':=⟨[(0,none,dh (.pt px 0 0)),(2,none,dh (.pt 0 0 0)),(3,none,dh (.pt 2002 0 0))],[(dx,none,0,.dev O d_ l3),(px,none,0,.box um (.dv::jw m f)),(0,none,0,.box 40 (g_ jr)),(2002,none,0,.box 149 (uj r))]⟩) (fun a w hg=>(hg.reset (kT:=[0,2,3]) (kO:=[dx,px,0,2002]) (by rfl) (by simp)).same ?_ ?_) ?_
 ·exact .cons rfl (.cons rfl (.cons rfl .nil))
 ·exact .cons (.dev hq3) (.cons (.box rfl) (.cons (.box rfl) (.cons (.box rfl) .nil)))
 refine aB M hI hn (by rfl) (by kernel_rfl) ?_ ?_
 ·simp
  refine⟨⟨hO,hF,by omega⟩,?_⟩
  intro h h1 h2 h3;rw[<-hstp];exact Left.d_ hL3 h h1 h2 h3
 obtain⟨l4,hq4⟩:∃ l4,(go O (rW f) l3).2=l4:=⟨_,rfl⟩;have hL5:=Left.step hL4;rw[hq4] at hL4 hL5;refine aB M hI hn (by rfl) (by kernel_rfl) ?_ ?_
 ·simp
 refine aG (s':=⟨[(0,none,dh (.pt px 0 0)),(2,none,dh (.pt 0 0 0)),(3,none,dh (.pt 2002 0 0))],[(dx,none,0,.dev O d_ l4),(px,none,0,.box um (.dv::jw m f)),(0,none,0,.box 40 (g_ jr)),(2002,none,0,.box 149 (uj (S9 m f r)))]⟩) (fun a w hg=>(hg.reset (kT:=[0,2,3]) (kO:=[dx,px,0,2002]) (by rfl) (by simp)).same ?_ ?_) ?_
 ·exact .cons rfl (.cons rfl (.cons rfl .nil))
 ·refine .cons (.dev hq4) (.cons (.box rfl) (.cons (.box rfl) (.cons (.box ?_) .nil)));show uj ⟨2,IntKind.i64.wrap ((f:Int)+1),m.ot,m.ol,r.payload⟩=_;rw[hw];rfl
 refine aB M hI hn (by rfl) (by kernel_rfl) ?_ ?_
 ·simp
  refine⟨⟨hO,hF,hr,⟨(by show iq 2;unfold iq;omega),(by show iq ((f+1:Nat):Int);unfold iq;omega),hol,ho,Ar.payload⟩⟩,?_⟩
  intro h h1 h2 h3;rw[<-hstp];exact Left.d_ hL4 h h1 h2 h3
 refine aB M hI hn (by rfl) (by kernel_rfl) ?_ ?_
 ·simp
  refine⟨⟨hO,hF,hol,hl,ho,Ar.payload⟩,?_⟩
  intro h h1 h2 h3;rw[<-hstp];exact Left.d_ (q:=.ret (fZ m.link (S9 m f r))) (f:=fun o=>.ret o) hL5 h h1 h2 h3
 refine aO (fun a w hg=>⟨.inr rfl,_,⟨?_,⟨jw m f,rfl,dV rfl⟩,?_⟩,hg⟩);rotate_left 1
 ·rw[hL5.2];rfl
 refine aC (by rfl) (by simp) (by rfl) (by rfl) ?_;rw[hL5.2];rfl
theorem aDy(b:Int)(n:Nat):ai.All (fun k:Nat=>k<=n) (ai.jc b n):=by
 refine ai.All.bind (R:=fun k=>k<=n) ((GN b n 0).mono (fun m hm=>by omega)) (fun k hk=>?_);exact ai.All.bind (R:=fun _=>True) (ai.All.yg _) (fun _ _=>hk)
def KP(_:ji)(r:lm):ai jd:=(ai.jc 2 16).bind fun n=>(iC (decide ((n:Int)<16)) 17).bind fun _=>(kD 2 (n+1)).bind fun _=>.ret { jr with session:=n,payload:=r.payload }
def Ry(m:ji)(f:Nat):ai jd:=(qo m).bind fun r=>(iC (bif r.kind==1 then r.level==((f+1-f % 2:Nat):Int) else false) 14).bind fun _=>(bif ((f % 2:Nat):Int)==0 then rW f else .ret ()).bind fun _=>KP m r
def Wx(O:List Acc->Option je)(d_:List Acc->Prop)(m:ji)(f:Nat)(r:lm)(lk:List Acc):St:=⟨[(0,none,dh (.pt px 0 0)),(2,none,dh (.pt 0 0 0)),(3,none,dh (.pt 1002 0 0))],[(dx,none,0,.dev O d_ lk),(px,none,0,.box um (.dv::jw m f)),(0,none,0,.box 40 (g_ jr)),(1002,none,0,.box 149 (uj r))]⟩
theorem bBu(m:ji)(f:Nat)(hf:f<=900)(hr:m.root.length=16):uM Tryz.prog a_ ny 49 um (jw m f) (Ry m f) [] (fun o=>.w (.agg (g_ o))):=by
 intro O l hO hF;have M:=F9;have hL0:Left O (Ry m f) l (Ry m f) l:=Left.start _ _ _;have hL1:=Left.step (q:=qo m) hL0
 have hw:IntKind.i64.wrap (IntKind.i64.wrap ((f:Int)+1)-(f:Int).tmod 2)=((f+1-f % 2:Nat):Int):=by
  rw[Yw,IntKind.wrap_i64,IntKind.wrap_i64];omega
 generalize hstp:(fun h=>l <+: h/\h <+: (go O (Ry m f) l).2)=d_;refine kM Tryz.func49 rfl rfl (fun A hn hI=>?_);refine aB M hI hn (by rfl) (by kernel_rfl) ?_ ?_
 ·simp
 have Ar:=Tn O (aJs m) l;refine aB M hI hn (by rfl) (by kernel_rfl) ?_ ?_
 ·simp
  refine⟨⟨hO,hF,hr⟩,?_⟩
  intro h h1 h2 h3;rw[<-hstp];exact Left.d_ (q:=qo m) hL0 h h1 h2 h3
 obtain⟨r,l1,hq⟩:∃ r l1,go O (qo m) l=(r,l1):=⟨_,_,rfl⟩;rw[hq] at hL1 Ar;dsimp only at hL1 Ar;refine aG (s':=Wx O d_ m f r l1) (fun a w hg=>(hg.reset (kT:=[0,2,3]) (kO:=[dx,px,0,1002]) (by rfl) (by simp)).same ?_ ?_) ?_
 ·exact .cons rfl (.cons rfl (.cons rfl .nil))
 ·refine .cons (.dev ?_) (.cons (.box rfl) (.cons (.box rfl) (.cons (.box ?_) .nil)))
  ·show (go O (qo m) l).2=_;rw[hq]
  ·show uj (go O (qo m) l).1=_;rw[hq]
 have hL2:=Left.step hL1;have hL1':=hL1
 rw[show ∀ a b:Bool,(bif a then b else false)=(a&&b) from fun a b=>by cases a<;>rfl] at hL1'
 refine aB M hI hn (by rfl) (by kernel_rfl) ?_ ?_
 ·simp;rw[hw]
  refine⟨⟨hO,hF⟩,?_⟩
  intro h h1 h2 h3;rw[<-hstp];exact Left.d_ hL1' h h1 h2 h3
 obtain⟨l2,hq2⟩:∃ l2,(go O (iC (bif r.kind==1 then r.level==((f+1-f % 2:Nat):Int) else false) 14) l1).2=l2:=⟨_,rfl⟩;rw[hq2] at hL2;refine aG (s':=Wx O d_ m f r l2) (fun a w hg=>(hg.reset (kT:=[0,2,3]) (kO:=[dx,px,0,1002]) (by rfl) (by simp)).same ?_ ?_) ?_
 ·exact .cons rfl (.cons rfl (.cons rfl .nil))
 ·refine .cons (.dev ?_) (.cons (.box rfl) (.cons (.box rfl) (.cons (.box rfl) .nil)));show (go O (iC (bif r.kind==1 then r.level==IntKind.i64.wrap (IntKind.i64.wrap ((f:Int)+1)-(f:Int).tmod 2) else false) 14) l1).2=_;rw[hw];exact hq2
 refine aPc (fun s'=>∃ lk,s'=Wx O d_ m f r lk/\Left O (Ry m f) l (KP m r) lk) ?_ ?_
 ·refine aB M hI hn (by rfl) (by kernel_rfl) ?_ ?_
  ·simp
  refine aH (by rfl) (fun hc=>?_) (fun hc=>?_)
  ·have h0:(((f % 2:Nat):Int)==0)=true:=by rw[<-Yw];exact hc
   rw[h0] at hL2;refine aQ M hI hn (by rfl) (by kernel_rfl) ?_ ?_
   ·simp
    refine⟨⟨hO,hF,by omega⟩,?_⟩
    intro h h1 h2 h3;rw[<-hstp];exact Left.d_ (q:=rW f) hL2 h h1 h2 h3
   intro a w hg
   refine⟨_,⟨(go O (rW f) l2).2,rfl,Left.step (q:=rW f) hL2⟩,(hg.reset (kT:=[0,2,3]) (kO:=[dx,px,0,1002]) (by rfl) (by simp)).same ?_ ?_⟩
   ·exact .cons rfl (.cons rfl (.cons rfl .nil))
   ·exact .cons (.dev rfl) (.cons (.box rfl) (.cons (.box rfl) (.cons (.box rfl) .nil)))
  ·have h0:(((f % 2:Nat):Int)==0)=false:=by rw[<-Yw];exact hc
   rw[h0] at hL2;refine aP ?_;intro a w hg
   refine⟨_,⟨l2,rfl,Left.step (q:=.ret ()) hL2⟩,(hg.reset (kT:=[0,2,3]) (kO:=[dx,px,0,1002]) (by rfl) (by simp)).same ?_ ?_⟩
   ·exact .cons rfl (.cons rfl (.cons rfl .nil))
   ·exact .cons (.dev rfl) (.cons (.box rfl) (.cons (.box rfl) (.cons (.box rfl) .nil)))
 rintro s' ⟨lk,rfl,hL⟩;have hL5:=Left.step (q:=ai.jc 2 16) hL;have hn16:=Tn O (aDy 2 16) lk;refine aB M hI hn (by rfl) (by kernel_rfl) ?_ ?_
 ·simp;intro h h1 h2 h3;rw[<-hstp];exact Left.d_ (q:=ai.jc 2 16) hL h h1 h2 h3
 obtain⟨n,l5,hq5⟩:∃ n l5,go O (ai.jc 2 16) lk=(n,l5):=⟨_,_,rfl⟩;rw[hq5] at hL5 hn16;dsimp only at hL5 hn16;refine aG (s':=⟨(4,none,h_ (n:Int))::(Wx O d_ m f r l5).t,(Wx O d_ m f r l5).o⟩) (fun a w hg=>(hg.reset (kT:=[4,0,2,3]) (kO:=[dx,px,0,1002]) (by rfl) (by simp)).same ?_ ?_) ?_
 ·refine .cons ?_ (.cons rfl (.cons rfl (.cons rfl .nil)));show h_ ((go O (ai.jc 2 16) lk).1:Int)=_;rw[hq5]
 ·refine .cons (.dev ?_) (.cons (.box rfl) (.cons (.box rfl) (.cons (.box rfl) .nil)));show (go O (ai.jc 2 16) lk).2=_;rw[hq5]
 have hL6:=Left.step hL5;refine aB M hI hn (by rfl) (by kernel_rfl) ?_ ?_
 ·simp
  refine⟨⟨hO,hF⟩,?_⟩
  intro h h1 h2 h3;rw[<-hstp];exact Left.d_ hL5 h h1 h2 h3
 have hL7:=Left.step (q:=kD 2 (n+1)) hL6
 have hwn:IntKind.i64.wrap ((n:Int)+1)=((n+1:Nat):Int):=by rw[IntKind.wrap_i64];omega
 refine aB M hI hn (by rfl) (by kernel_rfl) ?_ ?_
 ·simp;rw[hwn]
  refine⟨⟨hO,hF,by omega,by omega⟩,?_⟩
  intro h h1 h2 h3;rw[<-hstp];exact Left.d_ (q:=kD 2 (n+1)) hL6 h h1 h2 h3
 obtain⟨l7,hq7⟩:∃ l7,(go O (kD 2 (n+1)) (go O (iC (decide ((n:Int)<16)) 17) l5).2).2=l7:=⟨_,rfl⟩;rw[hq7] at hL7;refine aG (s':=⟨(4,none,h_ (n:Int))::(Wx O d_ m f r l7).t,(Wx O d_ m f r l7).o⟩) (fun a w hg=>(hg.reset (kT:=[4,0,2,3]) (kO:=[dx,px,0,1002]) (by rfl) (by simp)).same ?_ ?_) ?_
 ·exact .cons rfl (.cons rfl (.cons rfl (.cons rfl .nil)))
 ·refine .cons (.dev ?_) (.cons (.box rfl) (.cons (.box rfl) (.cons (.box rfl) .nil)));show (go O (kD 2 (IntKind.i64.wrap ((n:Int)+1)).toNat) (go O (iC (decide ((n:Int)<16)) 17) l5).2).2=_;rw[hwn];exact hq7
 refine aB M hI hn (by rfl) (by kernel_rfl) ?_ ?_
 ·simp
 refine aO (fun a w hg=>⟨.inr rfl,_,⟨?_,⟨jw m f,rfl,dV rfl⟩,?_⟩,hg⟩);rotate_left 1
 ·rw[hL7.2];rfl
 refine aC (by rfl) (by simp) (by rfl) (by rfl) ?_;rw[hL7.2];rfl
def Tm(m:ji):ByteArray:=bif opened (keyS m.link m.xt m.xl) m.bn m.bc m.bt then strOf (dQ (keyS m.link m.xt m.xl) m.bn m.bc.data.toList) else { data:=#[] }
def aUs(m:ji):Int:=bif opened (keyS m.link m.xt m.xl) m.bn m.bc m.bt then 0 else 8
def xB(m:ji)(f:Nat):ai jd:=(oJ f).bind fun _=>(iC (m.xl==(f:Int)) 14).bind fun _=>(iC (aUs m==0) 8).bind fun _=>(iC (decide (((Tm m).size:Int)<=1000)) 2).bind fun _=>(nG m f (Tm m)).bind fun o=>.ret o
theorem aRw(m:ji)(h:m.bc.size<=2000):(Tm m).size<=2000:=by
 unfold Tm
 cases opened (keyS m.link m.xt m.xl) m.bn m.bc m.bt
 ·exact (by decide:(0:Nat)<=2000)
 ·show (strOf _).size<=2000;rw[bQ,dZ,show m.bc.data.toList.length=m.bc.size from Array.length_toList];exact h
theorem aYc(m:ji)(f:Nat)(hf:f<=900)(hr:m.root.length=16)(hl:m.link.length=16)(ht:m.xt.length=16)(hxl:iq m.xl)(hbn:iq m.bn)(hbc:m.bc.size<=2000):uM Tryz.prog a_ ny 54 um (jw m f) (xB m f) [] (fun o=>.w (.agg (g_ o))):=by
 intro O l hO hF;have M:=F9;have hL0:Left O (xB m f) l (xB m f) l:=Left.start _ _ _;have hL1:=Left.step (q:=oJ f) hL0;have hL2:=Left.step hL1;have hL3:=Left.step hL2;have hL4:=Left.step hL3;have hL5:=Left.step (q:=nG m f (Tm m)) hL4;generalize hstp:(fun h=>l <+: h/\h <+: (go O (xB m f) l).2)=d_;refine kM Tryz.func54 rfl rfl (fun A hn hI=>?_);refine aB M hI hn (by rfl) (by kernel_rfl) ?_ ?_
 ·simp
 refine aB M hI hn (by rfl) (by kernel_rfl) ?_ ?_
 ·simp
  refine⟨⟨hO,hF,by omega⟩,?_⟩
  intro h h1 h2 h3;rw[<-hstp];exact Left.d_ (q:=oJ f) hL0 h h1 h2 h3
 refine aB M hI hn (by rfl) (by kernel_rfl) ?_ ?_
 ·simp
 refine aB M hI hn (by rfl) (by kernel_rfl) ?_ ?_
 ·simp
  refine⟨⟨hO,hF⟩,?_⟩
  intro h h1 h2 h3;rw[<-hstp];exact Left.d_ hL1 h h1 h2 h3
 refine aB M hI hn (by rfl) (by kernel_rfl) ?_ ?_
 ·simp
  refine⟨⟨hO,hF,hxl,hl,ht⟩,?_,hbn,by omega⟩
  intro h h1 h2 h3;rw[<-hstp];exact Left.d_ (q:=.ret (keyS m.link m.xt m.xl)) (f:=fun _=>_) hL2 h h1 h2 h3
 obtain⟨l2,hq2⟩:∃ l2,(go O (iC (m.xl==(f:Int)) 14) (go O (oJ f) l).2).2=l2:=⟨_,rfl⟩;rw[hq2] at hL2 hL3 hL4 hL5;refine aG (s':=⟨[(0,none,dh (.pt px 0 0)),(2,none,dh (.pt 0 0 0)),(4,none,pq (Tm m)),(5,none,h_ (aUs m))],[(dx,none,0,.dev O d_ l2),(px,none,0,.box um (.dv::jw m f)),(0,none,0,.box 40 (g_ jr))]⟩) (fun a w hg=>(hg.reset (kT:=[0,2,4,5]) (kO:=[dx,px,0]) (by rfl) (by simp)).same ?_ ?_) ?_
 ·exact .cons rfl (.cons rfl (.cons rfl (.cons rfl .nil)))
 ·exact .cons (.dev hq2) (.cons (.box rfl) (.cons (.box rfl) .nil))
 have hpay:=aRw m hbc;refine aB M hI hn (by rfl) (by kernel_rfl) ?_ ?_
 ·simp
  refine⟨⟨hO,hF⟩,?_⟩
  intro h h1 h2 h3;rw[<-hstp];exact Left.d_ hL2 h h1 h2 h3
 refine aB M hI hn (by rfl) (by kernel_rfl) ?_ ?_
 ·simp
  refine⟨⟨hO,hF⟩,?_⟩
  intro h h1 h2 h3;rw[<-hstp];exact Left.d_ hL3 h h1 h2 h3
 refine aB M hI hn (by rfl) (by kernel_rfl) ?_ ?_
 ·simp
  refine⟨⟨hO,hF,by omega,hr,by omega⟩,?_⟩
  intro h h1 h2 h3;rw[<-hstp];exact Left.d_ hL4 h h1 h2 h3
 refine aO (fun a w hg=>⟨.inr rfl,_,⟨?_,⟨jw m f,rfl,dV rfl⟩,?_⟩,hg⟩);rotate_left 1
 ·rw[hL5.2];rfl
 refine aC (by rfl) (by simp) (by rfl) (by rfl) ?_;rw[hL5.2];rfl
def vX(m:ji):ai Unit:=
 if m.kind=1\/m.kind=3 then iC (decide ((m.payload.size:Int)<=1000)) 2 else
  if m.kind=5 then iC (bif bif bif decide (m.ol>=0) then decide (m.ol<16) else false then m.ol.tmod 2==0 else false then !(m.ot==m.id) else false) 1 else
   if m.kind=7 then iC (m.xt==m.id) 1 else .ret ()
def kR(m:ji):ai Unit:=(iC (bif decide (m.kind>=1) then decide (m.kind<=7) else false) 1).bind fun _=>(vX m).bind fun _=>.ret ()
def NJ(O:List Acc->Option je)(d_:List Acc->Prop)(m:ji)(lk:List Acc):St:=⟨[(1,none,dh (.pt 0 0 0)),(13,none,h_ m.kind)],[(dx,none,0,.dev O d_ lk),(0,none,0,.box 31 (zk m))]⟩
theorem bEj(m:ji):Nz Tryz.prog a_ ny 47 (kR m) [.w (.agg (zk m))] (fun _=>.lh []):=by
 intro O l hO hF;have M:=F9;have hL0:Left O (kR m) l (kR m) l:=Left.start _ _ _;have hL1:=Left.step hL0;generalize hstp:(fun h=>l <+: h/\h <+: (go O (kR m) l).2)=d_;refine jU Tryz.func47 rfl rfl rfl (fun A hn hI=>?_);refine aB M hI hn (by rfl) (by kernel_rfl) ?_ ?_
 ·simp
 have hb0:(bif decide (m.kind>=1) then decide (m.kind<=7) else false)=(decide (1<=m.kind)&&decide (m.kind<=7)):=by
  show cond (decide (1<=m.kind)) _ _=_
  cases decide (1<=m.kind)<;>rfl
 have hL0':Left O (kR m) l ((iC (decide (1<=m.kind)&&decide (m.kind<=7)) 1).bind fun _=>(vX m).bind fun _=>.ret ()) l:=by
  rw[<-hb0];exact hL0
 refine aB M hI hn (by rfl) (by kernel_rfl) ?_ ?_
 ·simp
  refine⟨⟨hO,hF⟩,?_⟩
  intro h h1 h2 h3;rw[<-hstp];exact Left.d_ hL0' h h1 h2 h3
 obtain⟨l1,hq⟩:∃ l1,(go O (iC (bif decide (m.kind>=1) then decide (m.kind<=7) else false) 1) l).2=l1:=⟨_,rfl⟩;rw[hq] at hL1;refine aB M hI hn (by rfl) (by kernel_rfl) ?_ ?_
 ·simp
 refine aG (s':=NJ O d_ m l1) (fun a w hg=>(hg.reset (kT:=[1,13]) (kO:=[dx,0]) (by rfl) (by simp)).same ?_ ?_) ?_
 ·exact .cons rfl (.cons rfl .nil)
 ·exact .cons (.dev hq) (.cons (.box rfl) .nil)
 refine bG ?_;refine aPc (fun s'=>∃ b,s'=⟨(14,none,rq b)::(NJ O d_ m l1).t,(NJ O d_ m l1).o⟩/\(b=true↔(m.kind=1\/m.kind=3))) ?_ ?_
 ·refine aB M hI hn (by rfl) (by kernel_rfl) ?_ ?_
  ·simp
  refine aH (by rfl) (fun hc=>?_) (fun hc=>?_)
  ·have h1:m.kind=1:=by simpa using hc
   refine aP ?_;intro a w hg
   refine⟨_,⟨true,rfl,by simp[h1]⟩,(hg.reset (kT:=[14,1,13]) (kO:=[dx,0]) (by rfl) (by simp)).same ?_ ?_⟩
   ·refine .cons ?_ (.cons rfl (.cons rfl .nil));show rq (m.kind==1)=_;rw[h1];rfl
   ·exact .cons (.dev rfl) (.cons (.box rfl) .nil)
  ·have h1:¬m.kind=1:=by simpa using hc
   refine aQ M hI hn (by rfl) (by kernel_rfl) ?_ ?_
   ·simp
   intro a w hg
   refine⟨_,⟨m.kind==3,rfl,by simp[h1]⟩,(hg.reset (kT:=[14,1,13]) (kO:=[dx,0]) (by rfl) (by simp)).same ?_ ?_⟩
   ·exact .cons rfl (.cons rfl (.cons rfl .nil))
   ·exact .cons (.dev rfl) (.cons (.box rfl) .nil)
 rintro s' ⟨b,rfl,hb⟩;have hL2:=Left.step hL1;unfold vX at hL1 hL2;refine aH (by rfl) (fun hc=>?_) (fun hc=>?_)
 ·have h1:m.kind=1\/m.kind=3:=hb.1 hc;rw[if_pos h1] at hL1 hL2;refine aQ M hI hn (by rfl) (by kernel_rfl) ?_ ?_
  ·simp
   refine⟨⟨hO,hF⟩,?_⟩
   intro h h1 h2 h3;rw[<-hstp];exact Left.d_ hL1 h h1 h2 h3
  intro a w hg
  refine⟨.inl rfl,_,⟨?_,(fun o ho=>by cases ho),fun p hp=>?_⟩,hg⟩
  rotate_left 1
  ·cases hp;rw[hL2.2];rfl
  refine aC (by rfl) (by simp) (by rfl) (by rfl) ?_;rfl
 ·have h1:¬(m.kind=1\/m.kind=3):=fun h=>by rw[hb.2 h] at hc;cases hc
  rw[if_neg h1] at hL1 hL2;refine aB M hI hn (by rfl) (by kernel_rfl) ?_ ?_
  ·simp
  refine aH (by rfl) (fun hc=>?_) (fun hc=>?_)
  ·have h5:m.kind=5:=by simpa using hc
   rw[if_pos h5] at hL1 hL2;refine aB M hI hn (by rfl) (by kernel_rfl) ?_ ?_
   ·simp
   have hb8:∀ a b c d:Bool,(bif bif bif a then b else false then c else false then d else false)=(a&&b&&c&&d):=fun a b c d=>by cases a<;>cases b<;>cases c<;>cases d<;>rfl
   have hL1':Left O (kR m) l ((iC (decide (0<=m.ol)&&decide (m.ol<16)&&m.ol.tmod 2==0&&!(m.ot==m.id)) 1).bind fun _=>.ret ()) l1:=by
    rw[<-hb8];exact hL1
   refine aQ M hI hn (by rfl) (by kernel_rfl) ?_ ?_
   ·simp
    refine⟨⟨hO,hF⟩,?_⟩
    intro h h1 h2 h3;rw[<-hstp];exact Left.d_ hL1' h h1 h2 h3
   intro a w hg
   refine⟨.inl rfl,_,⟨?_,(fun o ho=>by cases ho),fun p hp=>?_⟩,hg⟩
   rotate_left 1
   ·cases hp;rw[hL2.2];rfl
   refine aC (by rfl) (by simp) (by rfl) (by rfl) ?_;rfl
  ·have h5:¬m.kind=5:=by simpa using hc
   rw[if_neg h5] at hL1 hL2;refine aB M hI hn (by rfl) (by kernel_rfl) ?_ ?_
   ·simp
   refine aH (by rfl) (fun hc=>?_) (fun hc=>?_)
   ·have h7:m.kind=7:=by simpa using hc
    rw[if_pos h7] at hL1 hL2;refine aQ M hI hn (by rfl) (by kernel_rfl) ?_ ?_
    ·simp
     refine⟨⟨hO,hF⟩,?_⟩
     intro h h1 h2 h3;rw[<-hstp];exact Left.d_ hL1 h h1 h2 h3
    intro a w hg
    refine⟨.inl rfl,_,⟨?_,(fun o ho=>by cases ho),fun p hp=>?_⟩,hg⟩
    rotate_left 1
    ·cases hp;rw[hL2.2];rfl
    refine aC (by rfl) (by simp) (by rfl) (by rfl) ?_;rfl
   ·have h7:¬m.kind=7:=by simpa using hc
    rw[if_neg h7] at hL1 hL2;refine aP ?_;intro a w hg
    refine⟨.inl rfl,_,⟨?_,(fun o ho=>by cases ho),fun p hp=>?_⟩,hg⟩
    rotate_left 1
    ·cases hp;rw[hL2.2];rfl
    refine aC (by rfl) (by simp) (by rfl) (by rfl) ?_;rfl
def bEx:List PC->Option ji
 |[.lit (.int .i64 k),.bs 16 r,.bs 16 i,.bs 16 l,.lit (.string p),.bs 16 ot,.lit (.int .i64 ol),.bs 16 xt,.lit (.int .i64 xl),.lit (.int .i64 bn),.lit (.string bc),.bs 16 bt]=>some ⟨k,r,i,l,p,ot,ol,xt,xl,bn,bc,bt⟩
 |_=>none
theorem aKk{l:List PC}{m:ji}(h:bEx l=some m):l=zk m:=by
 unfold bEx at h
 split at h
 ·cases h;rfl
 ·cases h
structure ut(m:ji):Prop where
 root:m.root.length=16
 link:m.link.length=16
 ot:m.ot.length=16
 xt:m.xt.length=16
 ol:iq m.ol
 xl:iq m.xl
 bn:iq m.bn
 payload:m.payload.size<=10000
 bc:m.bc.size<=2000
def qg(l:List Int):Nat->List PC:=fun i=>[.lit (.int .u8 (l.getD i 0))]
def Ak:List PC->Int
 |[.lit (.int _ n)]=>n
 |_=>0
def bCl:List PC->Bool
 |[.lit (.int .u8 _)]=>true
 |_=>false
theorem aJm{l:List PC}(h:bCl l=true):l=[.lit (.int .u8 (Ak l))]:=by
 unfold bCl at h
 split at h
 ·rfl
 ·cases h
def Af(l:List Int):List PC:=[.sl 1 l.length (qg l)]
def bH(b:List (List Int)):Nat->List PC:=fun i=>Af (b.getD i [])
def EJ:List PC->List Int
 |[.sl 1 k g]=>(List.range k).map fun j=>Ak (g j)
 |_=>[]
def bFm:List PC->Prop
 |[.sl 1 k g]=>∀ j,j<k->bCl (g j)=true
 |_=>False
def aY(n:Nat)(f:Nat->List PC):List (List Int):=(List.range n).map fun i=>EJ (f i)
def oI(n:Nat)(f:Nat->List PC):Prop:=∀ i,i<n->bFm (f i)
@[simp] theorem dM(n:Nat)(f:Nat->List PC):(aY n f).length=n:=by simp[aY]
theorem aOk(l:List Int):EJ (Af l)=l:=by
 apply List.ext_getElem (by simp[EJ,Af]);intro i h1 h2;simp only[EJ,Af,List.getElem_map,List.getElem_range,qg,Ak];rw[zG,zH h2];rfl
@[simp] theorem O6(n:Nat)(b:List (List Int)):oI n (bH b):=fun _ _=>fun _ _=>rfl
@[simp] theorem aK(b:List (List Int)):aY b.length (bH b)=b:=by
 apply List.ext_getElem (by simp);intro i h1 h2;simp only[aY,List.getElem_map,List.getElem_range,bH];rw[aOk,zG,zH h2];rfl
theorem aEy{n:Nat}{f:Nat->List PC}{C:Ctx}{fv:Value}(hf:oI n f)(h:R C (.sl 1 n f) [fv]):R C (.sl 1 (aY n f).length (bH (aY n f))) [fv]:=by
 rw[dM]
 cases h with
 | sl hr hb he=>
  refine .sl hr hb (fun i hi=>?_);have h3:=he i hi;have h4:=hf i hi
  have e2:bH (aY n f) i=Af (EJ (f i)):=by
   unfold bH aY;rw[kE n i (fun i=>EJ (f i)) hi]
  rw[e2];generalize f i=c at h3 h4 ⊢;unfold bFm at h4
  split at h4
  ·rename_i kk g;generalize (List.take 1 _)=xs at h3 ⊢
   cases h3 with
   |cons k1 k2=>
    cases k2;refine .cons ?_ .nil;show R _ (.sl 1 ((List.range kk).map fun j=>Ak (g j)).length (qg ((List.range kk).map fun j=>Ak (g j)))) _;rw[List.length_map,List.length_range];have hx:=k1;cases hx;refine k1.yx (fun j hj=>?_);unfold qg;rw[kE kk j (fun j=>Ak (g j)) hj];exact aJm (h4 j hj)
  ·exact h4.elim
def AP(b:List (List Int)):List PC:=[.sl 1 b.length (bH b)]
theorem aTs{C:Ctx}{n:Nat}{f:Nat->List PC}{v:Value}(hf:oI n f)(h:RV C (.w (.agg [.sl 1 n f])) v):RV C (.w (.agg (AP (aY n f)))) v:=by
 cases h with
 | w h=>cases h with
  | agg h=>
   refine .w (.agg ?_);generalize Array.toList _=xs at h ⊢
   cases h with
   |cons k1 h=>cases h;cases k1 with
    |sl h1 h2 h3=>exact .cons (xs:=[_]) (aEy hf (.sl h1 h2 h3)) .nil
end Pv
structure gy where
 b:List (List Int)
 f:Fl
 r:List UInt8
structure pg where
 cut:Bool
 bytes:Int
 j_:Bool
def Ci:pg:=⟨false,0,false⟩
def jX:je:=⟨0,aS⟩
def BA(b:List (List Int))(ay cell:Int):Bool:=(decide (ay>=0)&&decide (ay<(b.length:Int)))&&decide (cell>=0)&&decide (cell<((b.getD ay.toNat []).length:Int))
def dD(b:List (List Int))(ay cell:Int):Int:=(b.getD ay.toNat []).getD cell.toNat 0
def su(b:List (List Int))(ay cell:Int)(cut:Bool):List (List Int):=b.set ay.toNat ((b.getD ay.toNat []).set cell.toNat (eF (dD b ay cell) cut))
def Cj(t:pg):Int:=if t.cut then min (max t.bytes 0) 256 else -1
def gI (h:gy) (a:Acc) (t:pg):gy×je×Int:=
 if a.kind=1 then
  if a.bytes=aS then
   if BA h.b a.ay a.cell then (h,if t.cut then jX else⟨fQ (dD h.b a.ay a.cell) t.j_,aS⟩,0) else (h,jX,1)
  else (h,jX,1)
 else if a.kind=2 then
  if a.bytes=aS then
   if BA h.b a.ay a.cell then ({ h with b:=su h.b a.ay a.cell t.cut },jX,0) else (h,jX,1)
  else (h,jX,1)
 else if a.kind=3 then
  if a.bytes=aS/\a.ay=0 then
   if 0<=a.cell/\a.cell<h.f.length then (h,if t.cut then jX else⟨0,strOf (sec h.f a.cell)⟩,0) else (h,jX,13)
  else (h,jX,1)
 else if a.kind=4 then
  if a.ay=0 then
   if 0<=a.cell/\a.cell<h.f.length then
    if a.bytes.size=256 then ({ h with f:=iT h.f a.cell a.bytes (Cj t) },jX,0) else (h,jX,1)
   else (h,jX,13)
  else (h,jX,1)
 else (h,jX,1)
def eX(F:List pg)(i:Nat):pg:=F.getD i Ci
def dS{α:Type}(F:List pg):ai α->gy->Nat->Option α×gy×Nat
 |.ret a,h,i=>(some a,h,i)
 |.ask c k,h,i=>if (eX F i).cut=true then (none,(gI h c (eX F i)).1,i+1) else dS F (k (gI h c (eX F i)).2.1) (gI h c (eX F i)).1 (i+1)
def zu(F:List pg)(h:gy):List Acc->Nat->gy
 |[],_=>h
 |c::l,i=>zu F (gI h c (eX F i)).1 l (i+1)
theorem aZf(F:List pg):∀ (l m:List Acc) (h:gy) (i:Nat),zu F h (l++m) i=zu F (zu F h l i) m (i+l.length)
 |[],m,h,i=>rfl
 |c::l,m,h,i=>by
  rw[List.cons_append,zu,zu,aZf F l m,List.length_cons,show i+1+l.length=i+(l.length+1) from by omega]
theorem aSh(F:List pg)(l:List Acc)(c:Acc)(h:gy):zu F h (l++[c]) 0=(gI (zu F h l 0) c (eX F l.length)).1:=by
 rw[aZf,Nat.zero_add];rfl
structure D5(h:gy):Prop where
 nb:h.b.length<=1000
 nc:∀ l∈h.b,l.length<=100000
 val:∀ l∈h.b,∀ x∈l,0<=x/\x<=3
 nf:h.f.length<=1000000
 sz:∀ x∈h.f,x.size<=1000000
 rt:h.r.length=16
theorem aWb{x:Int}(h:0<=x/\x<=3)(cut:Bool):0<=eF x cut/\eF x cut<=3:=by
 unfold eF
 split
 ·split<;>omega
 ·exact h
theorem aQf{b:List (List Int)}{ay cell:Int}(hx:BA b ay cell=true)(cut:Bool)(h1:∀ l∈b,l.length<=100000)(h2:∀ l∈b,∀ x∈l,0<=x/\x<=3):(su b ay cell cut).length=b.length/\(∀ l∈su b ay cell cut,l.length<=100000)/\∀ l∈su b ay cell cut,∀ x∈l,0<=x/\x<=3:=by
 have he:(0<=ay/\ay<(b.length:Int))/\0<=cell/\cell<((b.getD ay.toNat []).length:Int):=by
  unfold BA at hx;simp only[Bool.and_eq_true,decide_eq_true_eq] at hx
  exact⟨⟨hx.1.1.1,hx.1.1.2⟩,hx.1.2,hx.2⟩
 have hbk:b.getD ay.toNat []∈b:=by
  rw[zG,zH (by omega)];exact List.getElem_mem _
 have hcl:dD b ay cell∈b.getD ay.toNat []:=by
  unfold dD;generalize b.getD ay.toNat []=l at he;rw[zG,zH (by omega)];exact List.getElem_mem _
 unfold su
 refine⟨List.length_set ..,fun l hl=>?_,fun l hl x hx=>?_⟩
 ·rcases List.mem_or_eq_of_mem_set hl with hl|rfl
  ·exact h1 l hl
  ·rw[List.length_set];exact h1 _ hbk
 ·rcases List.mem_or_eq_of_mem_set hl with hl|rfl
  ·exact h2 l hl x hx
  ·rcases List.mem_or_eq_of_mem_set hx with hx|rfl
   ·exact h2 _ hbk x hx
   ·exact aWb (h2 _ hbk _ hcl) cut
theorem aHa{f:Fl}{s:Int}{b:ByteArray}{cut:Int}(h1:f.length<=1000000)(h2:∀ x∈f,x.size<=1000000):(iT f s b cut).length<=1000000/\∀ x∈iT f s b cut,x.size<=1000000:=by
 unfold iT
 split
 ·rename_i hc
  refine⟨by rw[List.length_set];exact h1,fun x hx=>?_⟩
  rcases List.mem_or_eq_of_mem_set hx with hx|rfl
  ·exact h2 x hx
  ·rw[bQ]
   have hs:(sec f s).length<=1000000:=by
    unfold sec;rw[if_pos ⟨hc.1,hc.2.1⟩,Array.length_toList];rw[zG,zH (by omega)];exact h2 _ (List.getElem_mem _)
   have hb:b.data.toList.length=256:=by rw[Array.length_toList];exact hc.2.2
   unfold zo
   split
   ·omega
   ·rw[List.length_append,List.length_take,List.length_drop];omega
 ·exact⟨h1,h2⟩
theorem aUd{h:gy}(a:Acc)(t:pg)(k:D5 h):D5 (gI h a t).1:=by
 unfold gI
 repeat' split
 all_goals first
  |exact k
  |(rename_i hx;exact⟨by rw[(aQf hx t.cut k.nc k.val).1];exact k.nb,(aQf hx t.cut k.nc k.val).2.1,(aQf hx t.cut k.nc k.val).2.2,k.nf,k.sz,k.rt⟩)
  |exact⟨k.nb,k.nc,k.val,(aHa k.nf k.sz).1,(aHa k.nf k.sz).2,k.rt⟩
theorem Gm{F:List pg}:∀ (l:List Acc) (i:Nat) {h:gy},D5 h->D5 (zu F h l i)
 |[],_,_,k=>k
 |_::l,i,_,k=>Gm l (i+1) (aUd _ _ k)
namespace Pv
def Em(F:List pg)(n:Nat):Prop:=∀ k,k<n->(eX F k).cut=false
theorem Vj{α:Type}(O:List Acc->Option je)(p:ai α):∀ (n:Nat),p.Within n->∀ l:List Acc,(go O p l).2.length<=l.length+n:=by
 induction p with
 |ret a=>intro n _ l;exact Nat.le_add_right _ _
 | ask a k ih=>
  intro n hW l
  cases n with
  |zero=>exact hW.elim
  |succ n=>
   rw[vW];have:=ih _ n (hW (ans O (l++[a]))) (l++[a]);rw[List.length_append,List.length_singleton] at this;omega
end Pv
namespace Pv
theorem aQz(b:List (List Int))(ay cell:Int):gU Tryz.prog a_ 157 true [.w (.agg (AP b)),h_ ay,h_ cell] (rq (BA b ay cell)):=by
 have M:=zZ (I:=a_);refine bJ Tryz.func157 rfl rfl bP (fun A hS hn hI=>?_);refine aB M hI hn (by rfl) (by kernel_rfl) ?_ ?_
 ·simp
 refine aB M hI hn (by rfl) (by kernel_rfl) ?_ ?_
 ·simp;exact fun h1 h2 _=>⟨h1,h2⟩
 refine aO (fun a w hg=>⟨.inr rfl,_,?_,hg⟩);refine aC (by rfl) (by simp) (by rfl) (by rfl) ?_;refine congrArg rq ?_;unfold BA
 cases decide (ay>=0)<;>cases decide (ay<(b.length:Int))<;>cases decide (cell>=0)<;>rfl
def exG:List PV->Option (Prop×PV)
 |[.w (.agg [.sl 1 n f]),.w (.one (.lit (.int .i64 ay))),.w (.one (.lit (.int .i64 cell)))]=>some (oI n f,rq (BA (aY n f) ay cell))
 |_=>none
theorem aAy:aj Tryz.prog a_ 157 (bD true exG):=by
 refine aZ (aF Tryz.func157 (by kernel_rfl) rfl) (fun xs p r hg hp w ok0 vs hI hv=>?_);unfold exG at hg
 split at hg
 ·rename_i n f ay cell;cases hg
  match vs,hv with
  |[v1,v2,v3],⟨k1,k2,k3,_⟩=>exact aQz (aY n f) ay cell w ok0 [v1,v2,v3] hI ⟨aTs hp k1,k2,k3,trivial⟩
 ·cases hg
theorem aNo(x:Int)(nz:Bool):gU Tryz.prog a_ 158 true [l9 (.int .u8 x),rq nz] (h_ (fQ x nz)):=by
 have M:=zZ (I:=a_);refine bJ Tryz.func158 rfl rfl bP (fun A hS hn hI=>?_);refine aB M hI hn (by rfl) (by kernel_rfl) ?_ ?_
 ·simp
 refine aN ?_;refine aB M hI hn (by rfl) (by kernel_rfl) ?_ ?_
 ·simp;exact fun h1 h2=>⟨h1,h2⟩
 refine aH (by rfl) (fun hc=>?_) (fun hc=>?_)
 ·have hc2:(bif x==2 then true else bif x==1 then nz else false)=true:=hc
  have e:fQ x nz=1:=by
   unfold fQ
   by_cases h2:x=2
   ·simp[h2]
   ·by_cases h1:x=1
    ·subst h1;have:nz=true:=hc2;simp[this]
    ·simp[h1,h2] at hc2
  refine aB M hI hn (by rfl) (by kernel_rfl) ?_ ?_
  ·simp
  refine aO (fun a w hg=>⟨.inr rfl,_,?_,hg⟩);refine aC (by rfl) (by simp) (by rfl) (by rfl) ?_;rw[e]
 ·have hc2:(bif x==2 then true else bif x==1 then nz else false)=false:=hc
  have e:fQ x nz=0:=by
   unfold fQ
   by_cases h2:x=2
   ·simp[h2] at hc2
   ·by_cases h1:x=1
    ·subst h1;have:nz=false:=hc2;simp[this]
    ·simp[h1,h2]
  refine aP ?_;change iw _ _ _ _ _;refine aB M hI hn (by rfl) (by kernel_rfl) ?_ ?_
  ·simp
  refine aO (fun a w hg=>⟨.inr rfl,_,?_,hg⟩);refine aC (by rfl) (by simp) (by rfl) (by rfl) ?_;rw[e]
def UU:List PV->Option (Prop×PV)
 |[.w (.one (.lit (.int .u8 x))),.w (.one (.lit (.bool nz)))]=>some (True,h_ (fQ x nz))
 |_=>none
theorem aJv:aj Tryz.prog a_ 158 (bD true UU):=by
 refine aZ (aF Tryz.func158 (by kernel_rfl) rfl) (fun xs p r hg hp=>?_);unfold UU at hg
 split at hg
 ·cases hg;exact aNo _ _
 ·cases hg
def fzL:List (Nat×Spec):=[(157,bD true exG),(158,bD true UU)]
theorem aCI:∀ p∈fzL,aj Tryz.prog a_ p.1 p.2:=by
 intro p hp;simp only[fzL,List.mem_cons,List.not_mem_nil,or_false] at hp;rcases hp with rfl|rfl
 ·exact aAy
 ·exact aJv
theorem fzM:l_ Tryz.prog a_ (find fzL):=⟨bV aCI,fC⟩
theorem aTz{b:List (List Int)}{ay cell:Int}(he:BA b ay cell=true):(0<=ay/\ay<(b.length:Int))/\0<=cell/\cell<((b.getD ay.toNat []).length:Int):=by
 unfold BA at he;simp only[Bool.and_eq_true,decide_eq_true_eq] at he
 exact⟨⟨he.1.1.1,he.1.1.2⟩,he.1.2,he.2⟩
def Vp(b:List (List Int))(ay cell:Int)(nz:Bool):PV:=.lh [.one (.lit (.int .i64 (if BA b ay cell then fQ (dD b ay cell) nz else 0))),.one (.lit (.int .i64 (if BA b ay cell then 0 else 1)))]
theorem Qo(b:List (List Int))(ay cell:Int)(nz:Bool):gU Tryz.prog a_ 123 true [.w (.agg (AP b)),h_ ay,h_ cell,rq nz] (Vp b ay cell nz):=by
 have M:=fzM;refine bJ Tryz.func123 rfl rfl bP (fun A hS hn hI=>?_);unfold Vp;refine aB M hI hn (by rfl) (by kernel_rfl) ?_ ?_
 ·simp
 refine aN ?_;refine aB M hI hn (by rfl) (by kernel_rfl) ?_ ?_
 ·simp
 rw[aK];refine aH (by rfl) (fun hc=>?_) (fun hc=>?_)
 ·have he:BA b ay cell=false:=by
   have hc2:(!(BA b ay cell))=true:=hc
   simpa using hc2
  rw[he];refine aB M hI hn (by rfl) (by kernel_rfl) ?_ ?_
  ·simp
  refine aO (fun a w hg=>⟨.inr rfl,_,?_,hg⟩);refine aC (by rfl) (by simp) (by rfl) (by rfl) ?_;rfl
 have he:BA b ay cell=true:=by
  have hc2:(!(BA b ay cell))=false:=hc
  simpa using hc2
 have hex:=aTz he;rw[he];refine aP ?_;change iw _ _ _ _ _;refine aB M hI hn (by rfl) (by kernel_rfl) ?_ ?_
 ·simp;rw[zG] at hex;exact hex
 refine aO (fun a w hg=>⟨.inr rfl,_,?_,hg⟩);refine aC (by rfl) (by simp) (by rfl) (by rfl) ?_;rfl
def Vq:List PV->Option (Prop×PV)
 |[.w (.agg [.sl 1 n f]),.w (.one (.lit (.int .i64 ay))),.w (.one (.lit (.int .i64 cell))),.w (.one (.lit (.bool nz)))]=>some (oI n f,Vp (aY n f) ay cell nz)
 |_=>none
theorem LY:aj Tryz.prog a_ 123 (bD true Vq):=by
 refine aZ (aF Tryz.func123 (by kernel_rfl) rfl) (fun xs p r hg hp w ok0 vs hI hv=>?_);unfold Vq at hg
 split at hg
 ·rename_i n f ay cell nz;cases hg
  match vs,hv with
  |[v1,v2,v3,v4],⟨k1,k2,k3,k4,_⟩=>exact Qo (aY n f) ay cell nz w ok0 [v1,v2,v3,v4] hI ⟨aTs hp k1,k2,k3,k4,trivial⟩
 ·cases hg
def UR(w:World)(ok0:Nat->Prop)(base:Nat)(val:Value):Ctx:={ w:=w,ok:=fun b=>(ok0 b\/base<=b)/\hblk val≠some b,env:=fun _=>none }
def ZA(P:Program)(I:World->Prop)(f:Nat)(args:List PV)(e n len:Nat)(f':Nat->List PC):Prop:=
 ∀ (w:World) (ok0:Nat->Prop) (vs:List Value),I w->mi { w,ok:=ok0,env:=fun _=>none } args vs ->
  Calls P f vs.toArray w fun r w'=>∃ val xs,r=.returned val/\Ext w w'/\w'.ownsRow w.heap.size e n val len xs/\∀ i,i<len->RL (UR w' ok0 w.heap.size val) (f' i) ((xs.drop (i*n)).take n)
def bFg(P:Program)(fn:Func)(e n len:Nat)(f':Nat->List PC)(s:St):Prop:=
 ∃ x ah g f,(zx P fn.results).ok none s (fun _ v' wr=>v'=dh (.ow x ah n 0 len)/\wr=[])/\find s.o x=some (g,ah,.arr e n len f)/\gT g/\∀ i,i<len->f i=f' i/\(f' i).all (cZ false)=true
def aRX(P:Program)(A:jk)(fn:Func)(e n len:Nat)(f':Nat->List PC):Exit->Act->World->Prop
 |.panic chain,a,w=>a.defers=[]/\C9 A chain w
 |x,a,w=>(x=.normal\/x=.ret)/\∃ s,bFg P fn e n len f' s/\o6 A s a w
theorem aZv{P:Program}{fn:Func}{e n len x ah:Nat}{g:Option Bool}{f f':Nat->List PC}{s:St}{out:Out}(h:(zx P fn.results).exec none s [] [] [] []=some out)(hc:All out.conds)(hw:out.wr=[])(hx:out.val=dh (.ow x ah n 0 len))(hf:find s.o x=some (g,ah,.arr e n len f))(hg:gT g)(QZ:∀ i,i<len->f i=f' i/\(f' i).all (cZ false)=true):bFg P fn e n len f' s:=by
 rw[yO] at h
 exact⟨x,ah,g,f,M.ui _ none s out _ h (fun p hp=>hc.mem p hp) ⟨hx,hw⟩,hf,hg,QZ⟩
theorem aWw{P:Program}{I:World->Prop}{f:Nat}{fn:Func}{c:Code}{args:List PV}{e n len:Nat}{f':Nat->List PC}(hf:P.funcs[f]?=some fn)(hb:fn.body=some c)(hnb:Nat.ble args.length fn.ntmps=true)(hI:∀ w w',Ext w w'->I w->I w')
  (hT:∀ A:jk,A.S=Non->A.nt=fn.ntmps->lw P I A->iw P A ⟨slots 0 args,[]⟩ c (aRX P A fn e n len f')) (hmk:Nat.blt e F8=true:=by rfl):ZA P I f args e n len f':=by
 intro w ok0 vs Qh hv;have hn:=Nat.le_of_ble_eq_true hnb;have hlen:=hv.length
 have hg:o6 (jk.plain w ok0 fn.ntmps) ⟨slots 0 args,[]⟩ { tmps:=vs.toArray++Array.replicate (fn.ntmps-vs.toArray.size) undef,defers:=[] } w:=by
  refine⟨fun _=>none,{ gm:=dm.refl _ _,size:=?_,dom:=fun x _=>rfl,jf:=fun x g ah o h=>(by cases h),live:=fun x ah hd b h=>(by cases h),inj:=fun x y v1 h1 v2 h2 b h=>(by cases h),tmps:=fun t g pv h hgt=>?_,defers:=rfl,und:=fun t pv h=>(by obtain⟨k,_,h2⟩:=kN h;cases h2),jo:=fun x hd h=>(by cases h),dev:=fun g ah O d_ l h=>(by cases h) }⟩
  ·simp[jk.plain];omega
  ·obtain⟨k,h1,h2⟩:=lV h;obtain⟨v,h3,h4⟩:=hv.at h2;rw[Nat.zero_add] at h1;subst h1;have hk:t<vs.length:=(List.getElem?_eq_some_iff.1 h3).1
   refine⟨v,?_,?_⟩
   ·rw[Array.getElem?_append_left (by simpa using hk)]
    simpa using h3
   ·refine h4.le ⟨Nat.le_refl _,fun b _ hb=>⟨⟨.inl hb,fun _ _ _ h=>by cases h⟩,rfl⟩,fun _ _ _ h=>by cases h⟩
 refine calls_of_wp hf hb (wp_mono (hT (jk.plain w ok0 fn.ntmps) rfl rfl (lw.plain fun w' hc=>hI w w' hc Qh) _ w hg (fun _ _ _ hd h=>⟨hd,h⟩)) (fun x a' w' he=>?_))
 have he':(x=.normal\/x=.ret)/\∃ s,bFg P fn e n len f' s/\o6 (jk.plain w ok0 fn.ntmps) s a' w':=by
  cases x with
  |panic chain=>obtain⟨_,l,hl,_⟩:=he;exact hl.elim
  |_=>exact he
 obtain⟨h1,s,⟨x0,ah,g,f0,h2,hfo,hgt,QZ⟩,h4⟩:=he';obtain⟨env,hE⟩:=h4;obtain⟨v',val,h5,h6,h7,_⟩:=qV hE h2;subst h7;obtain⟨hd,hev,hob⟩:=jJ hE hfo hgt;obtain⟨A0,n0,c0,rfl,hle0,rfl⟩:=h6.y9 hev;obtain⟨xs,hown,hel⟩:=hob
 have hn0:n0=len:=by
  obtain⟨_,A1,c1,e1,_⟩:=Reads.ve hown
  cases e1;rfl
 have hown:=hown.plain hmk;subst hn0
 have hA:A0.map (fun p=>p.add (0*n))=A0:=by
  cases A0 with
  |none=>rfl
  |some ad=>simp[Addr.add]
 have hown2:w'.ownsRow w.heap.size e n (.slice A0 n0 c0) n0 xs:=⟨hown.1,hown.2.imp id (fun⟨g,cap,cur,h1,_,h3⟩=>⟨g,cap,cur,h1,by
  have:=(hE.live x0 ah _ g hev (by rw[h1];rfl)).2
  exact this.resolve_right (fun h=>h.1),h3⟩)⟩
 have this:a'.defers=[]/\∃ v,(results fn a'.tmps).run P w'=.ok v w'/\∃ val xs,Ending.returned v=.returned val/\Ext w w'/\w'.ownsRow w.heap.size e n val n0 xs/\∀ i,i<n0->RL (UR w' ok0 w.heap.size val) (f' i) ((xs.drop (i*n)).take n):=by
  refine⟨hE.defers,_,h5,_,xs,rfl,hE.gm,?_,fun i hi=>?_⟩
  ·first|exact hown2|(simp only[Nat.zero_mul,Nat.sub_zero] at hA ⊢;rw[hA];exact hown2)
  ·have h8:=hel i hi;rw[(QZ i hi).1] at h8;refine (iP h8 (QZ i hi).2).le ⟨Nat.le_refl _,fun b _ ho=>⟨⟨ho.1,fun e=>ho.2 x0 ah _ hev ?_⟩,rfl⟩,fun _ _ _ h=>by cases h⟩;simp only[Nat.zero_mul,Nat.sub_zero] at hA e;rw[hA] at e;exact e
 rcases h1 with rfl|rfl<;>exact this
section
variable {P:Program} {I:World->Prop} {A:jk} {s:St} {a:Act} {w:World} {env:Env}
theorem dw.JP(h:dw A s a w env)(nm:Nat)(e n len:Nat){f:Nat->List PC}{v:Value}{xs:List Value}{w':World}(hE:Ext w w')(ho:w'.ownsRow w.heap.size e n v len xs)(hr:∀ i,i<len->RL (UR w' (aU A w env).ok w.heap.size v) (f i) ((xs.drop (i*n)).take n)) :
  ∃ env',dw A { s with o:=[(nm,none,fresh s nm,.arr e n len f)]++s.o } a w' env'/\RV (aU A w' env') (dh (.ow nm (fresh s nm) n 0 len)) v:=by
 have ho0:w'.ownsRow 0 e n v len xs:=⟨ho.1,ho.2.imp id (fun⟨g,cap,cur,h1,_,h3⟩=>⟨g,cap,cur,h1,Nat.zero_le _,h3⟩)⟩;obtain⟨A0,c0,rfl⟩:=mP ho
 obtain⟨h1,h2⟩:=h.new (w':=w') nm none (.slice A0 len c0) (.arr e n len f) hE (fun b hb=>by
   have hb':(Value.slice A0 len c0).ownBlock=some b:=by cases A0<;>exact hb
   exact⟨(ho.lt b hb').2,(ho.lt b hb').1⟩)
  (
   fun hle _=>⟨xs,wL ho0,fun i hi=>(hr i hi).le ⟨Nat.le_refl _,fun b hb hok=>⟨by
   obtain⟨hq,hne⟩:=hok;rcases Nat.lt_or_ge b w.heap.size with hlt|hge
   ·rcases hq with hq|hq
    ·exact (hle.blk b hlt hq).1
    ·omega
   ·refine⟨.inr (Nat.le_trans h.gm.size hge),fun x ah hd he hbl=>?_⟩
    by_cases hx:x=nm
    ·subst hx;rw[eH] at he;cases he;exact hne hbl
    ·rw[iH hx] at he;have:=(h.live x ah hd b he hbl).1
     omega,rfl⟩,fun _ _ _ h=>by cases h⟩⟩)
 refine⟨_,h1,.w (.one (.ow ⟨_,_,rfl⟩ ⟨_,_,eH _ _ _ _,Nat.le_refl _,fun _=>⟨_,_,_,rfl,by omega,?_⟩⟩))⟩
 cases A0 with
 |none=>simp
 |some ad=>simp[Addr.add]
def aIm(g:List PV->Option (Prop×Nat×Nat×Nat×(Nat->List PC))):Spec:=fun nm xs=>match xs.all rG,g xs with
 |true,some (p,e,n,len,f)=>.need p (.new nm (.arr e n len f) fun v=>.ret (dh (.ow nm v n 0 len)))
 |_,_=>.fail
theorem aPs{f:Nat}{g:List PV->Option (Prop×Nat×Nat×Nat×(Nat->List PC))}(hent:∀ args w,(callFunc f args).run P w=.ok (.enter f args) w)(hg:∀ xs p e n len f',g xs=some (p,e,n,len,f')->p->ZA P I f xs e n len f'):aj P I f (aIm g):=by
 refine⟨hent,fun A s a w env nm ul vs F h hI hv hk=>?_⟩
 unfold aIm at hk
 cases hc:ul.all rG<;>cases hq:g ul<;>simp only[hc,hq] at hk<;>try exact hk.elim
 rename_i q;obtain⟨p,e,n,len,f'⟩:=q;obtain⟨hp,hk⟩:=hk;refine (hg ul p e n len f' hq hp w (aU A w env).ok vs (hI.mem w h.gm) (aEp hv hc)).mono ?_;rintro r w' ⟨val,xs,rfl,hE,ho,hr⟩;obtain⟨env',h3,h4⟩:=h.JP nm e n len (f:=f') hE ho hr;exact .inl ⟨_,_,_,env',rfl,hk,h3,h4⟩
end
end Pv
end Go.Proofs.YtndpjopifkbgiaaGreatDoor
