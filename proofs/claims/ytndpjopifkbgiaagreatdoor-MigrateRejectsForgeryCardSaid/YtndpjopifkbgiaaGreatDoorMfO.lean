/-
  Several texts in one file: each has its own heading below.
-/
import Derived.Test.YtndpjopifkbgiaaGreatDoorMfN
import Derived.Test.YtndpjopifkbgiaaGreatDoorMfL
import Derived.Test.YtndpjopifkbgiaaGreatDoorMfK
import Derived.Test.YtndpjopifkbgiaaGreatDoorMfJ
import Derived.Test.YtndpjopifkbgiaaGreatDoorMfI
set_option maxRecDepth 100000
set_option maxHeartbeats 4000000
namespace Go.Proofs.YtndpjopifkbgiaaGreatDoor
open Go.RowKit
namespace Pv
def bDg(l:List PC)(ys:List PV):Option (Prop×ah Unit×(Unit->PV)):=match C_ l,ys with
 |some (m,_),[.w (.agg rl)]=>(match TP rl with
  |some r=>some (m.root.length=16/\CS r,zh m r,fun _=>.kz [])
  |none=>none)
 |_,_=>none
theorem Q4:aj Tryz.prog a_ 79 (iI mi uh bDg):=
 jQ (aF Tryz.func79 (by kernel_rfl) rfl) (fun l ys c p v h hc=>by
  unfold bDg at h
  split at h
  ·rename_i m f rl ho
   cases hq:TP rl with
   |none=>rw[hq] at h;cases h
   |some r=>
    rw[hq] at h;cases h;rw[uN ho,aKc hq];exact Ov m f r hc.1 hc.2
  ·cases h)
def bDi(l:List PC)(ys:List PV):Option (Prop×ah l_×(l_->PV)):=match C_ l,ys with
 |some (m,_),[]=>some (m.root.length=16,qm m,fun r=>.w (.agg (ug r)))
 |_,_=>none
theorem Q5:aj Tryz.prog a_ 76 (iI mi uh bDi):=
 jQ (aF Tryz.func76 (by kernel_rfl) rfl) (fun l ys c p v h hc=>by
  unfold bDi at h
  split at h
  ·rename_i m f ho;cases h;rw[uN ho];exact QZ m f hc
  ·cases h)
def aQz(l:List PC)(ys:List PV):Option (Prop×ah Unit×(Unit->PV)):=match C_ l,ys with
 |some (_,f),[]=>some (0<=f/\f<=900,rV f.toNat,fun _=>.kz [])
 |_,_=>none
theorem Jz:aj Tryz.prog a_ 77 (iI mi uh aQz):=
 jQ (aF Tryz.func77 (by kernel_rfl) rfl) (fun l ys c p v h hc=>by
  unfold aQz at h
  split at h
  ·rename_i m f ho;cases h;rw[uN ho];obtain⟨k,rfl⟩:∃ k:Nat,f=(k:Int):=⟨f.toNat,by omega⟩;rw[Int.toNat_natCast];exact Jk m k (by omega)
  ·cases h)
def aQw(l:List PC)(ys:List PV):Option (Prop×ah Unit×(Unit->PV)):=match C_ l,ys with
 |some (_,f),[]=>some (0<=f/\f<=900,oI f.toNat,fun _=>.kz [])
 |_,_=>none
theorem Jy:aj Tryz.prog a_ 74 (iI mi uh aQw):=
 jQ (aF Tryz.func74 (by kernel_rfl) rfl) (fun l ys c p v h hc=>by
  unfold aQw at h
  split at h
  ·rename_i m f ho;cases h;rw[uN ho];obtain⟨k,rfl⟩:∃ k:Nat,f=(k:Int):=⟨f.toNat,by omega⟩;rw[Int.toNat_natCast];exact Ic m k (by omega)
  ·cases h)
def Pg:List (Nat×Spec):=(79,iI mi uh bDg)::(76,iI mi uh bDi)::(77,iI mi uh aQz)::(74,iI mi uh aQw)::Ph
theorem Jo:∀ p∈Pg,aj Tryz.prog a_ p.1 p.2:=by
 intro p hp;simp only[Pg,List.mem_cons] at hp;rcases hp with rfl|rfl|rfl|rfl|hp
 ·exact Q4
 ·exact Q5
 ·exact Jz
 ·exact Jy
 ·exact Jp p hp
theorem aIW:kw Tryz.prog a_ (find Pg):=⟨bV Jo,fC⟩
def zU(f:Nat)(p:ByteArray):l_:=⟨1,((f+1:Nat):Int),zl,0,p⟩
def mZ(m:jh)(f:Nat)(p:ByteArray):ah jg:=(zh m (zU f p)).bind fun _=>(rV f).bind fun _=>.ret { jr with payload:=p }
theorem aXb(m:jh)(f:Nat)(p:ByteArray)(hf:f<=900)(hr:m.root.length=16)(hp:p.size<=10000):uO Tryz.prog a_ mi 75 uh (jo m f) (mZ m f p) [oq p] (fun o=>.w (.agg (gq o))):=by
 intro O l hO hF;have M:=aIW;have hL0:Left O (mZ m f p) l (mZ m f p) l:=Left.start _ _ _;have hL1:=Left.step (q:=zh m (zU f p)) hL0;have hL2:=Left.step hL1
 have hw:IntKind.i64.wrap ((f:Int)+1)=((f+1:Nat):Int):=by rw[IntKind.wrap_i64];omega
 generalize hstp:(fun h=>l <+: h/\h <+: (go O (mZ m f p) l).2)=dh;refine kM Tryz.func75 rfl rfl (fun A hn hI=>?_);refine aB M hI hn (by rfl) (by kernel_rfl) ?_ ?_
 ·simp
 refine aB M hI hn (by rfl) (by kernel_rfl) ?_ ?_
 ·simp;rw[hw]
  refine⟨⟨hO,hF,hr,⟨(by show iq 1;unfold iq;omega),(by show iq ((f+1:Nat):Int);unfold iq;omega),(by show iq 0;unfold iq;omega),rfl,hp⟩⟩,?_⟩
  intro h h1 h2 h3;rw[<-hstp];exact Left.dh (q:=zh m (zU f p)) hL0 h h1 h2 h3
 obtain⟨l1,hq⟩:∃ l1,(go O (zh m (zU f p)) l).2=l1:=⟨_,rfl⟩;rw[hq] at hL1 hL2;refine aI (s':=⟨[(0,none,dm (.pt px 0 0)),(1,none,oq p),(4,none,dm (.pt 0 0 0))],[(dx,none,0,.dev O dh l1),(px,none,0,.box uh (.dv::jo m f)),(0,none,0,.box 40 (gq jr))]⟩) (fun a w hg=>(hg.reset (kT:=[0,1,4]) (kO:=[dx,px,0]) (by rfl) (by simp)).same ?_ ?_) ?_
 ·exact .cons rfl (.cons rfl (.cons rfl .nil))
 ·refine .cons (.dev ?_) (.cons (.box rfl) (.cons (.box rfl) .nil));show (go O (zh m ⟨1,IntKind.i64.wrap ((f:Int)+1),zl,0,p⟩) l).2=_;rw[hw];exact hq
 refine aB M hI hn (by rfl) (by kernel_rfl) ?_ ?_
 ·simp
  refine⟨⟨hO,hF,by omega⟩,?_⟩
  intro h h1 h2 h3;rw[<-hstp];exact Left.dh hL1 h h1 h2 h3
 refine aB M hI hn (by rfl) (by kernel_rfl) ?_ ?_
 ·simp
 refine aK (fun a w hg=>⟨.inr rfl,_,⟨?_,⟨jo m f,rfl,dS rfl⟩,?_⟩,hg⟩);rotate_left 1
 ·rw[hL2.2];rfl
 refine aC (by rfl) (by simp) (by rfl) (by rfl) ?_;rw[hL2.2];rfl
def aEk(l:List PC)(ys:List PV):Option (Prop×ah jg×(jg->PV)):=match C_ l,ys with
 |some (m,f),[.w (.one (.lit (.string p)))]=>some (0<=f/\f<=900/\m.root.length=16/\p.size<=10000,mZ m f.toNat p,fun o=>.w (.agg (gq o)))
 |_,_=>none
theorem aVs:aj Tryz.prog a_ 75 (iI mi uh aEk):=
 jQ (aF Tryz.func75 (by kernel_rfl) rfl) (fun l ys c p v h hc=>by
  unfold aEk at h
  split at h
  ·rename_i m f q ho;cases h;rw[uN ho];obtain⟨k,rfl⟩:∃ k:Nat,f=(k:Int):=⟨f.toNat,by omega⟩;rw[Int.toNat_natCast];exact aXb m k q (by omega) hc.2.2.1 hc.2.2.2
  ·cases h)
def PZ:List (Nat×Spec):=(75,iI mi uh aEk)::Pg
theorem Jn:∀ p∈PZ,aj Tryz.prog a_ p.1 p.2:=by
 intro p hp;simp only[PZ,List.mem_cons] at hp;rcases hp with rfl|hp
 ·exact aVs
 ·exact Jo p hp
theorem Zv:kw Tryz.prog a_ (find PZ):=⟨bV Jn,fC⟩
def Z_(m:jh)(f:Nat):ah jg:=(oI f).bind fun _=>(mZ m f m.payload).bind fun o=>.ret o
theorem aWt(m:jh)(f:Nat)(hf:f<=900)(hr:m.root.length=16)(hp:m.payload.size<=10000):uO Tryz.prog a_ mi 48 uh (jo m f) (Z_ m f) [] (fun o=>.w (.agg (gq o))):=by
 intro O l hO hF;have M:=Zv;have hL0:Left O (Z_ m f) l (Z_ m f) l:=Left.start _ _ _;have hL1:=Left.step (q:=oI f) hL0;have hL2:=Left.step hL1;generalize hstp:(fun h=>l <+: h/\h <+: (go O (Z_ m f) l).2)=dh;refine kM Tryz.func48 rfl rfl (fun A hn hI=>?_);refine aB M hI hn (by rfl) (by kernel_rfl) ?_ ?_
 ·simp
 refine aB M hI hn (by rfl) (by kernel_rfl) ?_ ?_
 ·simp
  refine⟨⟨hO,hF,by omega⟩,?_⟩
  intro h h1 h2 h3;rw[<-hstp];exact Left.dh (q:=oI f) hL0 h h1 h2 h3
 refine aB M hI hn (by rfl) (by kernel_rfl) ?_ ?_
 ·simp
  refine⟨⟨hO,hF,by omega,hr,hp⟩,?_⟩
  intro h h1 h2 h3;rw[<-hstp];exact Left.dh hL1 h h1 h2 h3
 refine aK (fun a w hg=>⟨.inr rfl,_,⟨?_,⟨jo m f,rfl,dS rfl⟩,?_⟩,hg⟩);rotate_left 1
 ·rw[hL2.2];rfl
 refine aC (by rfl) (by simp) (by rfl) (by rfl) ?_;rw[hL2.2];rfl
def Yv(m:jh)(f:Nat):ah jg:=(oI f).bind fun _=>.ret { jr with ot:=m.id,ol:=f }
theorem bAk(m:jh)(f:Nat)(hf:f<=900):uO Tryz.prog a_ mi 51 uh (jo m f) (Yv m f) [] (fun o=>.w (.agg (gq o))):=by
 intro O l hO hF;have M:=Zv;have hL0:Left O (Yv m f) l (Yv m f) l:=Left.start _ _ _;have hL1:=Left.step (q:=oI f) hL0;generalize hstp:(fun h=>l <+: h/\h <+: (go O (Yv m f) l).2)=dh;refine kM Tryz.func51 rfl rfl (fun A hn hI=>?_);refine aB M hI hn (by rfl) (by kernel_rfl) ?_ ?_
 ·simp
 refine aB M hI hn (by rfl) (by kernel_rfl) ?_ ?_
 ·simp
  refine⟨⟨hO,hF,by omega⟩,?_⟩
  intro h h1 h2 h3;rw[<-hstp];exact Left.dh (q:=oI f) hL0 h h1 h2 h3
 refine aB M hI hn (by rfl) (by kernel_rfl) ?_ ?_
 ·simp
 refine aK (fun a w hg=>⟨.inr rfl,_,⟨?_,⟨jo m f,rfl,dS rfl⟩,?_⟩,hg⟩);rotate_left 1
 ·rw[hL1.2];rfl
 refine aC (by rfl) (by simp) (by rfl) (by rfl) ?_;rw[hL1.2];rfl
def MH(l:List PC)(ys:List PV):Option (Prop×ah jg×(jg->PV)):=match C_ l,ys with
 |some (m,_),[.w (.agg rl)]=>(match TP rl with
  |some r=>some (iq r.ol/\m.link.length=16/\r.ot.length=16/\r.payload.size<=10000,.ret (fQ m.link r),fun o=>.w (.agg (gq o)))
  |none=>none)
 |_,_=>none
theorem Uy:aj Tryz.prog a_ 80 (iI mi uh MH):=
 jQ (aF Tryz.func80 (by kernel_rfl) rfl) (fun l ys c p v h hc=>by
  unfold MH at h
  split at h
  ·rename_i m f rl ho
   cases hq:TP rl with
   |none=>rw[hq] at h;cases h
   |some r=>
    rw[hq] at h;cases h;rw[uN ho,aKc hq];exact aLb m f r hc.1 hc.2.1 hc.2.2.1 hc.2.2.2
  ·cases h)
def Ul:List (Nat×Spec):=(80,iI mi uh MH)::PZ
theorem Uo:∀ p∈Ul,aj Tryz.prog a_ p.1 p.2:=by
 intro p hp;simp only[Ul,List.mem_cons] at hp;rcases hp with rfl|hp
 ·exact Uy
 ·exact Jn p hp
theorem F7:kw Tryz.prog a_ (find Ul):=⟨bV Uo,fC⟩
def aYr(m:jh)(f:Nat):ah jg:=(gX (((f % 2:Nat):Int)==1) 21).bind fun _=>(zh m ⟨1,(f:Int),zl,0,m.payload⟩).bind fun _=>.ret { jr with payload:=m.payload }
theorem Yp(f:Nat):(f:Int).tmod 2=((f % 2:Nat):Int):=rfl
theorem bAu(m:jh)(f:Nat)(hf:f<=900)(hr:m.root.length=16)(hp:m.payload.size<=10000):uO Tryz.prog a_ mi 50 uh (jo m f) (aYr m f) [] (fun o=>.w (.agg (gq o))):=by
 intro O l hO hF;have M:=F7;have hL0:Left O (aYr m f) l (aYr m f) l:=Left.start _ _ _;have hL1:=Left.step (q:=gX (((f % 2:Nat):Int)==1) 21) hL0;have hL2:=Left.step hL1;generalize hstp:(fun h=>l <+: h/\h <+: (go O (aYr m f) l).2)=dh;refine kM Tryz.func50 rfl rfl (fun A hn hI=>?_);refine aB M hI hn (by rfl) (by kernel_rfl) ?_ ?_
 ·simp
 refine aB M hI hn (by rfl) (by kernel_rfl) ?_ ?_
 ·simp
  refine⟨⟨hO,hF⟩,?_⟩
  rw[Yp];intro h h1 h2 h3;rw[<-hstp];exact Left.dh (q:=gX (((f % 2:Nat):Int)==1) 21) hL0 h h1 h2 h3
 obtain⟨l1,hq⟩:∃ l1,(go O (gX (((f % 2:Nat):Int)==1) 21) l).2=l1:=⟨_,rfl⟩;rw[hq] at hL1 hL2;refine aI (s':=⟨[(0,none,dm (.pt px 0 0)),(2,none,dm (.pt 0 0 0))],[(dx,none,0,.dev O dh l1),(px,none,0,.box uh (.dv::jo m f)),(0,none,0,.box 40 (gq jr))]⟩) (fun a w hg=>(hg.reset (kT:=[0,2]) (kO:=[dx,px,0]) (by rfl) (by simp)).same ?_ ?_) ?_
 ·exact .cons rfl (.cons rfl .nil)
 ·exact .cons (.dev hq) (.cons (.box rfl) (.cons (.box rfl) .nil))
 refine aB M hI hn (by rfl) (by kernel_rfl) ?_ ?_
 ·simp
  refine⟨⟨hO,hF,hr,⟨(by show iq 1;unfold iq;omega),(by show iq (f:Int);unfold iq;omega),(by show iq 0;unfold iq;omega),rfl,hp⟩⟩,?_⟩
  intro h h1 h2 h3;rw[<-hstp];exact Left.dh hL1 h h1 h2 h3
 refine aB M hI hn (by rfl) (by kernel_rfl) ?_ ?_
 ·simp
 refine aK (fun a w hg=>⟨.inr rfl,_,⟨?_,⟨jo m f,rfl,dS rfl⟩,?_⟩,hg⟩);rotate_left 1
 ·rw[hL2.2];rfl
 refine aC (by rfl) (by simp) (by rfl) (by rfl) ?_;rw[hL2.2];rfl
theorem MK(root:List UInt8)(s:ByteArray)(hs:s.size<=5000):CS (O3 root s).1:=by
 have h0:CS Ey:=⟨by show iq 0;unfold iq;omega,by show iq 0;unfold iq;omega,by show iq 0;unfold iq;omega,rfl,by decide⟩;unfold O3
 cases hR:yD root s.data.toList with
 |E8=>exact h0
 |FN=>exact h0
 | okR p=>
  have hpl:=aMf hR;rw[show s.data.toList.length=s.size from Array.length_toList] at hpl;unfold TD;dsimp only;unfold Zu
  split
  ·exact h0
  ·rename_i h;unfold Zt;dsimp only;have h1:=nN (List.drop (b_ (List.drop 16 (List.drop (b_ (List.drop (b_ p).2.1 p)).2.1 (List.drop (b_ p).2.1 p)))).2.1 (List.drop 16 (List.drop (b_ (List.drop (b_ p).2.1 p)).2.1 (List.drop (b_ p).2.1 p))));simp only[List.length_drop] at h1
   refine⟨iJ _,iJ _,iJ _,?_,?_⟩
   ·simp only[List.length_drop,not_or,Nat.not_lt] at h;simp only[List.length_take,List.length_drop];omega
   ·show (strOf _).size<=10000;rw[bM];omega
theorem aJm(m:jh):ah.All (fun r:l_=>CS r) (qm m):=by
 refine ah.All.bind (aMq 3) (fun s hs=>?_);refine ah.All.bind (R:=fun _=>True) (ah.All.yg _) (fun _ _=>?_);refine ah.All.bind (R:=fun _=>True) (ah.All.yg _) (fun _ _=>?_);exact MK m.root s.content (by omega)
def zK(m:jh)(f:Nat):ah jg:=(gX (((f % 2:Nat):Int)==0) 21).bind fun _=>(qm m).bind fun r=>(gX (bif r.kind==2 then r.level==(f:Int) else false) 14).bind fun _=>.ret (fQ m.link r)
theorem aVc(m:jh)(f:Nat)(_:f<=900)(hr:m.root.length=16)(hl:m.link.length=16):uO Tryz.prog a_ mi 53 uh (jo m f) (zK m f) [] (fun o=>.w (.agg (gq o))):=by
 intro O l hO hF;have M:=F7;have hL0:Left O (zK m f) l (zK m f) l:=Left.start _ _ _;have hL1:=Left.step (q:=gX (((f % 2:Nat):Int)==0) 21) hL0;have hL2:=Left.step hL1;generalize hstp:(fun h=>l <+: h/\h <+: (go O (zK m f) l).2)=dh;refine kM Tryz.func53 rfl rfl (fun A hn hI=>?_);refine aB M hI hn (by rfl) (by kernel_rfl) ?_ ?_
 ·simp
 refine aB M hI hn (by rfl) (by kernel_rfl) ?_ ?_
 ·simp
  refine⟨⟨hO,hF⟩,?_⟩
  rw[Yp];intro h h1 h2 h3;rw[<-hstp];exact Left.dh (q:=gX (((f % 2:Nat):Int)==0) 21) hL0 h h1 h2 h3
 obtain⟨l1,hq⟩:∃ l1,(go O (gX (((f % 2:Nat):Int)==0) 21) l).2=l1:=⟨_,rfl⟩;rw[hq] at hL1 hL2;refine aI (s':=⟨[(0,none,dm (.pt px 0 0)),(2,none,dm (.pt 0 0 0))],[(dx,none,0,.dev O dh l1),(px,none,0,.box uh (.dv::jo m f)),(0,none,0,.box 40 (gq jr))]⟩) (fun a w hg=>(hg.reset (kT:=[0,2]) (kO:=[dx,px,0]) (by rfl) (by simp)).same ?_ ?_) ?_
 ·exact .cons rfl (.cons rfl .nil)
 ·exact .cons (.dev hq) (.cons (.box rfl) (.cons (.box rfl) .nil))
 have Aw:=TZ O (aJm m) l1;refine aB M hI hn (by rfl) (by kernel_rfl) ?_ ?_
 ·simp
  refine⟨⟨hO,hF,hr⟩,?_⟩
  intro h h1 h2 h3;rw[<-hstp];exact Left.dh hL1 h h1 h2 h3
 obtain⟨r,l2,hq2⟩:∃ r l2,go O (qm m) l1=(r,l2):=⟨_,_,rfl⟩;rw[hq2] at hL2 Aw;dsimp only at hL2 Aw;refine aI (s':=⟨[(0,none,dm (.pt px 0 0)),(2,none,dm (.pt 0 0 0)),(3,none,dm (.pt 2002 0 0))],[(dx,none,0,.dev O dh l2),(px,none,0,.box uh (.dv::jo m f)),(0,none,0,.box 40 (gq jr)),(2002,none,0,.box 149 (ug r))]⟩) (fun a w hg=>(hg.reset (kT:=[0,2,3]) (kO:=[dx,px,0,2002]) (by rfl) (by simp)).same ?_ ?_) ?_
 ·exact .cons rfl (.cons rfl (.cons rfl .nil))
 ·refine .cons (.dev ?_) (.cons (.box rfl) (.cons (.box rfl) (.cons (.box ?_) .nil)))
  ·show (go O (qm m) l1).2=_;rw[hq2]
  ·show ug (go O (qm m) l1).1=_;rw[hq2]
 have hL3:=Left.step hL2;have hL2':=hL2;have hL3':=hL3
 rw[show ∀ a b:Bool,(bif a then b else false)=(a&&b) from fun a b=>by cases a<;>rfl] at hL2' hL3'
 refine aB M hI hn (by rfl) (by kernel_rfl) ?_ ?_
 ·simp
  refine⟨⟨hO,hF⟩,?_⟩
  intro h h1 h2 h3;rw[<-hstp];exact Left.dh hL2' h h1 h2 h3
 refine aB M hI hn (by rfl) (by kernel_rfl) ?_ ?_
 ·simp
  refine⟨⟨hO,hF,Aw.ol,hl,Aw.ot,Aw.payload⟩,?_⟩
  intro h h1 h2 h3;rw[<-hstp];exact Left.dh (q:=.ret (fQ m.link r)) (f:=fun o=>.ret o) hL3' h h1 h2 h3
 refine aK (fun a w hg=>⟨.inr rfl,_,⟨?_,⟨jo m f,rfl,dS rfl⟩,?_⟩,hg⟩);rotate_left 1
 ·rw[hL3.2];rfl
 refine aC (by rfl) (by simp) (by rfl) (by rfl) ?_;rw[hL3.2];rfl
def TV(m:jh)(f:Nat)(r:l_):l_:=⟨2,((f+1:Nat):Int),m.ot,m.ol,r.payload⟩
def Yj(m:jh)(f:Nat):ah jg:=(gX (((f % 2:Nat):Int)==1) 21).bind fun _=>(qm m).bind fun r=>(gX (bif r.kind==1 then r.level==(f:Int) else false) 14).bind fun _=>
 (rV f).bind fun _=>(zh m (TV m f r)).bind fun _=>.ret (fQ m.link (TV m f r))
theorem He(m:jh)(f:Nat)(hf:f<=900)(hr:m.root.length=16)(hl:m.link.length=16)(ho:m.ot.length=16)(hol:iq m.ol):uO Tryz.prog a_ mi 52 uh (jo m f) (Yj m f) [] (fun o=>.w (.agg (gq o))):=by
 intro O l hO hF;have M:=F7;have hL0:Left O (Yj m f) l (Yj m f) l:=Left.start _ _ _;have hL1:=Left.step (q:=gX (((f % 2:Nat):Int)==1) 21) hL0;have hL2:=Left.step hL1;generalize hstp:(fun h=>l <+: h/\h <+: (go O (Yj m f) l).2)=dh;refine kM Tryz.func52 rfl rfl (fun A hn hI=>?_);refine aB M hI hn (by rfl) (by kernel_rfl) ?_ ?_
 ·simp
 refine aB M hI hn (by rfl) (by kernel_rfl) ?_ ?_
 ·simp
  refine⟨⟨hO,hF⟩,?_⟩
  rw[Yp];intro h h1 h2 h3;rw[<-hstp];exact Left.dh (q:=gX (((f % 2:Nat):Int)==1) 21) hL0 h h1 h2 h3
 obtain⟨l1,hq⟩:∃ l1,(go O (gX (((f % 2:Nat):Int)==1) 21) l).2=l1:=⟨_,rfl⟩;rw[hq] at hL1 hL2;refine aI (s':=⟨[(0,none,dm (.pt px 0 0)),(2,none,dm (.pt 0 0 0))],[(dx,none,0,.dev O dh l1),(px,none,0,.box uh (.dv::jo m f)),(0,none,0,.box 40 (gq jr))]⟩) (fun a w hg=>(hg.reset (kT:=[0,2]) (kO:=[dx,px,0]) (by rfl) (by simp)).same ?_ ?_) ?_
 ·exact .cons rfl (.cons rfl .nil)
 ·exact .cons (.dev hq) (.cons (.box rfl) (.cons (.box rfl) .nil))
 have Aw:=TZ O (aJm m) l1;refine aB M hI hn (by rfl) (by kernel_rfl) ?_ ?_
 ·simp
  refine⟨⟨hO,hF,hr⟩,?_⟩
  intro h h1 h2 h3;rw[<-hstp];exact Left.dh hL1 h h1 h2 h3
 obtain⟨r,l2,hq2⟩:∃ r l2,go O (qm m) l1=(r,l2):=⟨_,_,rfl⟩;rw[hq2] at hL2 Aw;dsimp only at hL2 Aw;refine aI (s':=⟨[(0,none,dm (.pt px 0 0)),(2,none,dm (.pt 0 0 0)),(3,none,dm (.pt 2002 0 0))],[(dx,none,0,.dev O dh l2),(px,none,0,.box uh (.dv::jo m f)),(0,none,0,.box 40 (gq jr)),(2002,none,0,.box 149 (ug r))]⟩) (fun a w hg=>(hg.reset (kT:=[0,2,3]) (kO:=[dx,px,0,2002]) (by rfl) (by simp)).same ?_ ?_) ?_
 ·exact .cons rfl (.cons rfl (.cons rfl .nil))
 ·refine .cons (.dev ?_) (.cons (.box rfl) (.cons (.box rfl) (.cons (.box ?_) .nil)))
  ·show (go O (qm m) l1).2=_;rw[hq2]
  ·show ug (go O (qm m) l1).1=_;rw[hq2]
 have hL3:=Left.step hL2;have hL2':=hL2;have hL3':=hL3
 rw[show ∀ a b:Bool,(bif a then b else false)=(a&&b) from fun a b=>by cases a<;>rfl] at hL2' hL3'
 have hw:IntKind.i64.wrap ((f:Int)+1)=((f+1:Nat):Int):=by rw[IntKind.wrap_i64];omega
 refine aB M hI hn (by rfl) (by kernel_rfl) ?_ ?_
 ·simp
  refine⟨⟨hO,hF⟩,?_⟩
  intro h h1 h2 h3;rw[<-hstp];exact Left.dh hL2' h h1 h2 h3
 have hL4:=Left.step hL3;obtain⟨l3,hq3⟩:∃ l3,(go O (gX (bif r.kind==1 then r.level==(f:Int) else false) 14) l2).2=l3:=⟨_,rfl⟩;rw[hq3] at hL3 hL4;refine aI (s':=⟨[(0,none,dm (.pt px 0 0)),(2,none,dm (.pt 0 0 0)),(3,none,dm (.pt 2002 0 0))],[(dx,none,0,.dev O dh l3),(px,none,0,.box uh (.dv::jo m f)),(0,none,0,.box 40 (gq jr)),(2002,none,0,.box 149 (ug r))]⟩) (fun a w hg=>(hg.reset (kT:=[0,2,3]) (kO:=[dx,px,0,2002]) (by rfl) (by simp)).same ?_ ?_) ?_
 ·exact .cons rfl (.cons rfl (.cons rfl .nil))
 ·exact .cons (.dev hq3) (.cons (.box rfl) (.cons (.box rfl) (.cons (.box rfl) .nil)))
 refine aB M hI hn (by rfl) (by kernel_rfl) ?_ ?_
 ·simp
  refine⟨⟨hO,hF,by omega⟩,?_⟩
  intro h h1 h2 h3;rw[<-hstp];exact Left.dh hL3 h h1 h2 h3
 obtain⟨l4,hq4⟩:∃ l4,(go O (rV f) l3).2=l4:=⟨_,rfl⟩;have hL5:=Left.step hL4;rw[hq4] at hL4 hL5;refine aB M hI hn (by rfl) (by kernel_rfl) ?_ ?_
 ·simp
 refine aI (s':=⟨[(0,none,dm (.pt px 0 0)),(2,none,dm (.pt 0 0 0)),(3,none,dm (.pt 2002 0 0))],[(dx,none,0,.dev O dh l4),(px,none,0,.box uh (.dv::jo m f)),(0,none,0,.box 40 (gq jr)),(2002,none,0,.box 149 (ug (TV m f r)))]⟩) (fun a w hg=>(hg.reset (kT:=[0,2,3]) (kO:=[dx,px,0,2002]) (by rfl) (by simp)).same ?_ ?_) ?_
 ·exact .cons rfl (.cons rfl (.cons rfl .nil))
 ·refine .cons (.dev hq4) (.cons (.box rfl) (.cons (.box rfl) (.cons (.box ?_) .nil)));show ug ⟨2,IntKind.i64.wrap ((f:Int)+1),m.ot,m.ol,r.payload⟩=_;rw[hw];rfl
 refine aB M hI hn (by rfl) (by kernel_rfl) ?_ ?_
 ·simp
  refine⟨⟨hO,hF,hr,⟨(by show iq 2;unfold iq;omega),(by show iq ((f+1:Nat):Int);unfold iq;omega),hol,ho,Aw.payload⟩⟩,?_⟩
  intro h h1 h2 h3;rw[<-hstp];exact Left.dh hL4 h h1 h2 h3
 refine aB M hI hn (by rfl) (by kernel_rfl) ?_ ?_
 ·simp
  refine⟨⟨hO,hF,hol,hl,ho,Aw.payload⟩,?_⟩
  intro h h1 h2 h3;rw[<-hstp];exact Left.dh (q:=.ret (fQ m.link (TV m f r))) (f:=fun o=>.ret o) hL5 h h1 h2 h3
 refine aK (fun a w hg=>⟨.inr rfl,_,⟨?_,⟨jo m f,rfl,dS rfl⟩,?_⟩,hg⟩);rotate_left 1
 ·rw[hL5.2];rfl
 refine aC (by rfl) (by simp) (by rfl) (by rfl) ?_;rw[hL5.2];rfl
theorem aDv(b:Int)(n:Nat):ah.All (fun k:Nat=>k<=n) (ah.jb b n):=by
 refine ah.All.bind (R:=fun k=>k<=n) ((GN b n 0).mono (fun m hm=>by omega)) (fun k hk=>?_);exact ah.All.bind (R:=fun _=>True) (ah.All.yg _) (fun _ _=>hk)
def KI(_:jh)(r:l_):ah jg:=(ah.jb 2 16).bind fun n=>(gX (decide ((n:Int)<16)) 17).bind fun _=>(kD 2 (n+1)).bind fun _=>.ret { jr with session:=n,payload:=r.payload }
def TS(m:jh)(f:Nat):ah jg:=(qm m).bind fun r=>(gX (bif r.kind==1 then r.level==((f+1-f % 2:Nat):Int) else false) 14).bind fun _=>(bif ((f % 2:Nat):Int)==0 then rV f else .ret ()).bind fun _=>KI m r
def Wl(O:List Acc->Option jc)(dh:List Acc->Prop)(m:jh)(f:Nat)(r:l_)(lk:List Acc):St:=⟨[(0,none,dm (.pt px 0 0)),(2,none,dm (.pt 0 0 0)),(3,none,dm (.pt 1002 0 0))],[(dx,none,0,.dev O dh lk),(px,none,0,.box uh (.dv::jo m f)),(0,none,0,.box 40 (gq jr)),(1002,none,0,.box 149 (ug r))]⟩
theorem bAy(m:jh)(f:Nat)(hf:f<=900)(hr:m.root.length=16):uO Tryz.prog a_ mi 49 uh (jo m f) (TS m f) [] (fun o=>.w (.agg (gq o))):=by
 intro O l hO hF;have M:=F7;have hL0:Left O (TS m f) l (TS m f) l:=Left.start _ _ _;have hL1:=Left.step (q:=qm m) hL0
 have hw:IntKind.i64.wrap (IntKind.i64.wrap ((f:Int)+1)-(f:Int).tmod 2)=((f+1-f % 2:Nat):Int):=by
  rw[Yp,IntKind.wrap_i64,IntKind.wrap_i64];omega
 generalize hstp:(fun h=>l <+: h/\h <+: (go O (TS m f) l).2)=dh;refine kM Tryz.func49 rfl rfl (fun A hn hI=>?_);refine aB M hI hn (by rfl) (by kernel_rfl) ?_ ?_
 ·simp
 have Aw:=TZ O (aJm m) l;refine aB M hI hn (by rfl) (by kernel_rfl) ?_ ?_
 ·simp
  refine⟨⟨hO,hF,hr⟩,?_⟩
  intro h h1 h2 h3;rw[<-hstp];exact Left.dh (q:=qm m) hL0 h h1 h2 h3
 obtain⟨r,l1,hq⟩:∃ r l1,go O (qm m) l=(r,l1):=⟨_,_,rfl⟩;rw[hq] at hL1 Aw;dsimp only at hL1 Aw;refine aI (s':=Wl O dh m f r l1) (fun a w hg=>(hg.reset (kT:=[0,2,3]) (kO:=[dx,px,0,1002]) (by rfl) (by simp)).same ?_ ?_) ?_
 ·exact .cons rfl (.cons rfl (.cons rfl .nil))
 ·refine .cons (.dev ?_) (.cons (.box rfl) (.cons (.box rfl) (.cons (.box ?_) .nil)))
  ·show (go O (qm m) l).2=_;rw[hq]
  ·show ug (go O (qm m) l).1=_;rw[hq]
 have hL2:=Left.step hL1;have hL1':=hL1
 rw[show ∀ a b:Bool,(bif a then b else false)=(a&&b) from fun a b=>by cases a<;>rfl] at hL1'
 refine aB M hI hn (by rfl) (by kernel_rfl) ?_ ?_
 ·simp;rw[hw]
  refine⟨⟨hO,hF⟩,?_⟩
  intro h h1 h2 h3;rw[<-hstp];exact Left.dh hL1' h h1 h2 h3
 obtain⟨l2,hq2⟩:∃ l2,(go O (gX (bif r.kind==1 then r.level==((f+1-f % 2:Nat):Int) else false) 14) l1).2=l2:=⟨_,rfl⟩;rw[hq2] at hL2;refine aI (s':=Wl O dh m f r l2) (fun a w hg=>(hg.reset (kT:=[0,2,3]) (kO:=[dx,px,0,1002]) (by rfl) (by simp)).same ?_ ?_) ?_
 ·exact .cons rfl (.cons rfl (.cons rfl .nil))
 ·refine .cons (.dev ?_) (.cons (.box rfl) (.cons (.box rfl) (.cons (.box rfl) .nil)));show (go O (gX (bif r.kind==1 then r.level==IntKind.i64.wrap (IntKind.i64.wrap ((f:Int)+1)-(f:Int).tmod 2) else false) 14) l1).2=_;rw[hw];exact hq2
 refine aOt (fun s'=>∃ lk,s'=Wl O dh m f r lk/\Left O (TS m f) l (KI m r) lk) ?_ ?_
 ·refine aB M hI hn (by rfl) (by kernel_rfl) ?_ ?_
  ·simp
  refine aG (by rfl) (fun hc=>?_) (fun hc=>?_)
  ·have h0:(((f % 2:Nat):Int)==0)=true:=by rw[<-Yp];exact hc
   rw[h0] at hL2;refine aP M hI hn (by rfl) (by kernel_rfl) ?_ ?_
   ·simp
    refine⟨⟨hO,hF,by omega⟩,?_⟩
    intro h h1 h2 h3;rw[<-hstp];exact Left.dh (q:=rV f) hL2 h h1 h2 h3
   intro a w hg
   refine⟨_,⟨(go O (rV f) l2).2,rfl,Left.step (q:=rV f) hL2⟩,(hg.reset (kT:=[0,2,3]) (kO:=[dx,px,0,1002]) (by rfl) (by simp)).same ?_ ?_⟩
   ·exact .cons rfl (.cons rfl (.cons rfl .nil))
   ·exact .cons (.dev rfl) (.cons (.box rfl) (.cons (.box rfl) (.cons (.box rfl) .nil)))
  ·have h0:(((f % 2:Nat):Int)==0)=false:=by rw[<-Yp];exact hc
   rw[h0] at hL2;refine aO ?_;intro a w hg
   refine⟨_,⟨l2,rfl,Left.step (q:=.ret ()) hL2⟩,(hg.reset (kT:=[0,2,3]) (kO:=[dx,px,0,1002]) (by rfl) (by simp)).same ?_ ?_⟩
   ·exact .cons rfl (.cons rfl (.cons rfl .nil))
   ·exact .cons (.dev rfl) (.cons (.box rfl) (.cons (.box rfl) (.cons (.box rfl) .nil)))
 rintro s' ⟨lk,rfl,hL⟩;have hL5:=Left.step (q:=ah.jb 2 16) hL;have hn16:=TZ O (aDv 2 16) lk;refine aB M hI hn (by rfl) (by kernel_rfl) ?_ ?_
 ·simp;intro h h1 h2 h3;rw[<-hstp];exact Left.dh (q:=ah.jb 2 16) hL h h1 h2 h3
 obtain⟨n,l5,hq5⟩:∃ n l5,go O (ah.jb 2 16) lk=(n,l5):=⟨_,_,rfl⟩;rw[hq5] at hL5 hn16;dsimp only at hL5 hn16;refine aI (s':=⟨(4,none,gy (n:Int))::(Wl O dh m f r l5).t,(Wl O dh m f r l5).o⟩) (fun a w hg=>(hg.reset (kT:=[4,0,2,3]) (kO:=[dx,px,0,1002]) (by rfl) (by simp)).same ?_ ?_) ?_
 ·refine .cons ?_ (.cons rfl (.cons rfl (.cons rfl .nil)));show gy ((go O (ah.jb 2 16) lk).1:Int)=_;rw[hq5]
 ·refine .cons (.dev ?_) (.cons (.box rfl) (.cons (.box rfl) (.cons (.box rfl) .nil)));show (go O (ah.jb 2 16) lk).2=_;rw[hq5]
 have hL6:=Left.step hL5;refine aB M hI hn (by rfl) (by kernel_rfl) ?_ ?_
 ·simp
  refine⟨⟨hO,hF⟩,?_⟩
  intro h h1 h2 h3;rw[<-hstp];exact Left.dh hL5 h h1 h2 h3
 have hL7:=Left.step (q:=kD 2 (n+1)) hL6
 have hwn:IntKind.i64.wrap ((n:Int)+1)=((n+1:Nat):Int):=by rw[IntKind.wrap_i64];omega
 refine aB M hI hn (by rfl) (by kernel_rfl) ?_ ?_
 ·simp;rw[hwn]
  refine⟨⟨hO,hF,by omega,by omega⟩,?_⟩
  intro h h1 h2 h3;rw[<-hstp];exact Left.dh (q:=kD 2 (n+1)) hL6 h h1 h2 h3
 obtain⟨l7,hq7⟩:∃ l7,(go O (kD 2 (n+1)) (go O (gX (decide ((n:Int)<16)) 17) l5).2).2=l7:=⟨_,rfl⟩;rw[hq7] at hL7;refine aI (s':=⟨(4,none,gy (n:Int))::(Wl O dh m f r l7).t,(Wl O dh m f r l7).o⟩) (fun a w hg=>(hg.reset (kT:=[4,0,2,3]) (kO:=[dx,px,0,1002]) (by rfl) (by simp)).same ?_ ?_) ?_
 ·exact .cons rfl (.cons rfl (.cons rfl (.cons rfl .nil)))
 ·refine .cons (.dev ?_) (.cons (.box rfl) (.cons (.box rfl) (.cons (.box rfl) .nil)));show (go O (kD 2 (IntKind.i64.wrap ((n:Int)+1)).toNat) (go O (gX (decide ((n:Int)<16)) 17) l5).2).2=_;rw[hwn];exact hq7
 refine aB M hI hn (by rfl) (by kernel_rfl) ?_ ?_
 ·simp
 refine aK (fun a w hg=>⟨.inr rfl,_,⟨?_,⟨jo m f,rfl,dS rfl⟩,?_⟩,hg⟩);rotate_left 1
 ·rw[hL7.2];rfl
 refine aC (by rfl) (by simp) (by rfl) (by rfl) ?_;rw[hL7.2];rfl
def TY(m:jh):ByteArray:=bif opened (keyS m.link m.xt m.xl) m.bn m.bc m.bt then strOf (dQ (keyS m.link m.xt m.xl) m.bn m.bc.data.toList) else { data:=#[] }
def Yr(m:jh):Int:=bif opened (keyS m.link m.xt m.xl) m.bn m.bc m.bt then 0 else 8
def rM(m:jh)(f:Nat):ah jg:=(oI f).bind fun _=>(gX (m.xl==(f:Int)) 14).bind fun _=>(gX (Yr m==0) 8).bind fun _=>(gX (decide (((TY m).size:Int)<=1000)) 2).bind fun _=>(mZ m f (TY m)).bind fun o=>.ret o
theorem aRn(m:jh)(h:m.bc.size<=2000):(TY m).size<=2000:=by
 unfold TY
 cases opened (keyS m.link m.xt m.xl) m.bn m.bc m.bt
 ·exact (by decide:(0:Nat)<=2000)
 ·show (strOf _).size<=2000;rw[bM,dU,show m.bc.data.toList.length=m.bc.size from Array.length_toList];exact h
theorem aXj(m:jh)(f:Nat)(hf:f<=900)(hr:m.root.length=16)(hl:m.link.length=16)(ht:m.xt.length=16)(hxl:iq m.xl)(hbn:iq m.bn)(hbc:m.bc.size<=2000):uO Tryz.prog a_ mi 54 uh (jo m f) (rM m f) [] (fun o=>.w (.agg (gq o))):=by
 intro O l hO hF;have M:=F7;have hL0:Left O (rM m f) l (rM m f) l:=Left.start _ _ _;have hL1:=Left.step (q:=oI f) hL0;have hL2:=Left.step hL1;have hL3:=Left.step hL2;have hL4:=Left.step hL3;have hL5:=Left.step (q:=mZ m f (TY m)) hL4;generalize hstp:(fun h=>l <+: h/\h <+: (go O (rM m f) l).2)=dh;refine kM Tryz.func54 rfl rfl (fun A hn hI=>?_);refine aB M hI hn (by rfl) (by kernel_rfl) ?_ ?_
 ·simp
 refine aB M hI hn (by rfl) (by kernel_rfl) ?_ ?_
 ·simp
  refine⟨⟨hO,hF,by omega⟩,?_⟩
  intro h h1 h2 h3;rw[<-hstp];exact Left.dh (q:=oI f) hL0 h h1 h2 h3
 refine aB M hI hn (by rfl) (by kernel_rfl) ?_ ?_
 ·simp
 refine aB M hI hn (by rfl) (by kernel_rfl) ?_ ?_
 ·simp
  refine⟨⟨hO,hF⟩,?_⟩
  intro h h1 h2 h3;rw[<-hstp];exact Left.dh hL1 h h1 h2 h3
 refine aB M hI hn (by rfl) (by kernel_rfl) ?_ ?_
 ·simp
  refine⟨⟨hO,hF,hxl,hl,ht⟩,?_,hbn,by omega⟩
  intro h h1 h2 h3;rw[<-hstp];exact Left.dh (q:=.ret (keyS m.link m.xt m.xl)) (f:=fun _=>_) hL2 h h1 h2 h3
 obtain⟨l2,hq2⟩:∃ l2,(go O (gX (m.xl==(f:Int)) 14) (go O (oI f) l).2).2=l2:=⟨_,rfl⟩;rw[hq2] at hL2 hL3 hL4 hL5;refine aI (s':=⟨[(0,none,dm (.pt px 0 0)),(2,none,dm (.pt 0 0 0)),(4,none,oq (TY m)),(5,none,gy (Yr m))],[(dx,none,0,.dev O dh l2),(px,none,0,.box uh (.dv::jo m f)),(0,none,0,.box 40 (gq jr))]⟩) (fun a w hg=>(hg.reset (kT:=[0,2,4,5]) (kO:=[dx,px,0]) (by rfl) (by simp)).same ?_ ?_) ?_
 ·exact .cons rfl (.cons rfl (.cons rfl (.cons rfl .nil)))
 ·exact .cons (.dev hq2) (.cons (.box rfl) (.cons (.box rfl) .nil))
 have hpay:=aRn m hbc;refine aB M hI hn (by rfl) (by kernel_rfl) ?_ ?_
 ·simp
  refine⟨⟨hO,hF⟩,?_⟩
  intro h h1 h2 h3;rw[<-hstp];exact Left.dh hL2 h h1 h2 h3
 refine aB M hI hn (by rfl) (by kernel_rfl) ?_ ?_
 ·simp
  refine⟨⟨hO,hF⟩,?_⟩
  intro h h1 h2 h3;rw[<-hstp];exact Left.dh hL3 h h1 h2 h3
 refine aB M hI hn (by rfl) (by kernel_rfl) ?_ ?_
 ·simp
  refine⟨⟨hO,hF,by omega,hr,by omega⟩,?_⟩
  intro h h1 h2 h3;rw[<-hstp];exact Left.dh hL4 h h1 h2 h3
 refine aK (fun a w hg=>⟨.inr rfl,_,⟨?_,⟨jo m f,rfl,dS rfl⟩,?_⟩,hg⟩);rotate_left 1
 ·rw[hL5.2];rfl
 refine aC (by rfl) (by simp) (by rfl) (by rfl) ?_;rw[hL5.2];rfl
def uK(m:jh):ah Unit:=
 if m.kind=1\/m.kind=3 then gX (decide ((m.payload.size:Int)<=1000)) 2 else
  if m.kind=5 then gX (bif bif bif decide (m.ol>=0) then decide (m.ol<16) else false then m.ol.tmod 2==0 else false then !(m.ot==m.id) else false) 1 else
   if m.kind=7 then gX (m.xt==m.id) 1 else .ret ()
def kQ(m:jh):ah Unit:=(gX (bif decide (m.kind>=1) then decide (m.kind<=7) else false) 1).bind fun _=>(uK m).bind fun _=>.ret ()
def N8(O:List Acc->Option jc)(dh:List Acc->Prop)(m:jh)(lk:List Acc):St:=⟨[(1,none,dm (.pt 0 0 0)),(13,none,gy m.kind)],[(dx,none,0,.dev O dh lk),(0,none,0,.box 31 (yw m))]⟩
theorem bDr(m:jh):Np Tryz.prog a_ mi 47 (kQ m) [.w (.agg (yw m))] (fun _=>.kz []):=by
 intro O l hO hF;have M:=F7;have hL0:Left O (kQ m) l (kQ m) l:=Left.start _ _ _;have hL1:=Left.step hL0;generalize hstp:(fun h=>l <+: h/\h <+: (go O (kQ m) l).2)=dh;refine jT Tryz.func47 rfl rfl rfl (fun A hn hI=>?_);refine aB M hI hn (by rfl) (by kernel_rfl) ?_ ?_
 ·simp
 have hb0:(bif decide (m.kind>=1) then decide (m.kind<=7) else false)=(decide (1<=m.kind)&&decide (m.kind<=7)):=by
  show cond (decide (1<=m.kind)) _ _=_
  cases decide (1<=m.kind)<;>rfl
 have hL0':Left O (kQ m) l ((gX (decide (1<=m.kind)&&decide (m.kind<=7)) 1).bind fun _=>(uK m).bind fun _=>.ret ()) l:=by
  rw[<-hb0];exact hL0
 refine aB M hI hn (by rfl) (by kernel_rfl) ?_ ?_
 ·simp
  refine⟨⟨hO,hF⟩,?_⟩
  intro h h1 h2 h3;rw[<-hstp];exact Left.dh hL0' h h1 h2 h3
 obtain⟨l1,hq⟩:∃ l1,(go O (gX (bif decide (m.kind>=1) then decide (m.kind<=7) else false) 1) l).2=l1:=⟨_,rfl⟩;rw[hq] at hL1;refine aB M hI hn (by rfl) (by kernel_rfl) ?_ ?_
 ·simp
 refine aI (s':=N8 O dh m l1) (fun a w hg=>(hg.reset (kT:=[1,13]) (kO:=[dx,0]) (by rfl) (by simp)).same ?_ ?_) ?_
 ·exact .cons rfl (.cons rfl .nil)
 ·exact .cons (.dev hq) (.cons (.box rfl) .nil)
 refine bF ?_;refine aOt (fun s'=>∃ b,s'=⟨(14,none,qc b)::(N8 O dh m l1).t,(N8 O dh m l1).o⟩/\(b=true↔(m.kind=1\/m.kind=3))) ?_ ?_
 ·refine aB M hI hn (by rfl) (by kernel_rfl) ?_ ?_
  ·simp
  refine aG (by rfl) (fun hc=>?_) (fun hc=>?_)
  ·have h1:m.kind=1:=by simpa using hc
   refine aO ?_;intro a w hg
   refine⟨_,⟨true,rfl,by simp[h1]⟩,(hg.reset (kT:=[14,1,13]) (kO:=[dx,0]) (by rfl) (by simp)).same ?_ ?_⟩
   ·refine .cons ?_ (.cons rfl (.cons rfl .nil));show qc (m.kind==1)=_;rw[h1];rfl
   ·exact .cons (.dev rfl) (.cons (.box rfl) .nil)
  ·have h1:¬m.kind=1:=by simpa using hc
   refine aP M hI hn (by rfl) (by kernel_rfl) ?_ ?_
   ·simp
   intro a w hg
   refine⟨_,⟨m.kind==3,rfl,by simp[h1]⟩,(hg.reset (kT:=[14,1,13]) (kO:=[dx,0]) (by rfl) (by simp)).same ?_ ?_⟩
   ·exact .cons rfl (.cons rfl (.cons rfl .nil))
   ·exact .cons (.dev rfl) (.cons (.box rfl) .nil)
 rintro s' ⟨b,rfl,hb⟩;have hL2:=Left.step hL1;unfold uK at hL1 hL2;refine aG (by rfl) (fun hc=>?_) (fun hc=>?_)
 ·have h1:m.kind=1\/m.kind=3:=hb.1 hc;rw[if_pos h1] at hL1 hL2;refine aP M hI hn (by rfl) (by kernel_rfl) ?_ ?_
  ·simp
   refine⟨⟨hO,hF⟩,?_⟩
   intro h h1 h2 h3;rw[<-hstp];exact Left.dh hL1 h h1 h2 h3
  intro a w hg
  refine⟨.inl rfl,_,⟨?_,(fun o ho=>by cases ho),fun p hp=>?_⟩,hg⟩
  rotate_left 1
  ·cases hp;rw[hL2.2];rfl
  refine aC (by rfl) (by simp) (by rfl) (by rfl) ?_;rfl
 ·have h1:¬(m.kind=1\/m.kind=3):=fun h=>by rw[hb.2 h] at hc;cases hc
  rw[if_neg h1] at hL1 hL2;refine aB M hI hn (by rfl) (by kernel_rfl) ?_ ?_
  ·simp
  refine aG (by rfl) (fun hc=>?_) (fun hc=>?_)
  ·have h5:m.kind=5:=by simpa using hc
   rw[if_pos h5] at hL1 hL2;refine aB M hI hn (by rfl) (by kernel_rfl) ?_ ?_
   ·simp
   have hb8:∀ a b c d:Bool,(bif bif bif a then b else false then c else false then d else false)=(a&&b&&c&&d):=fun a b c d=>by cases a<;>cases b<;>cases c<;>cases d<;>rfl
   have hL1':Left O (kQ m) l ((gX (decide (0<=m.ol)&&decide (m.ol<16)&&m.ol.tmod 2==0&&!(m.ot==m.id)) 1).bind fun _=>.ret ()) l1:=by
    rw[<-hb8];exact hL1
   refine aP M hI hn (by rfl) (by kernel_rfl) ?_ ?_
   ·simp
    refine⟨⟨hO,hF⟩,?_⟩
    intro h h1 h2 h3;rw[<-hstp];exact Left.dh hL1' h h1 h2 h3
   intro a w hg
   refine⟨.inl rfl,_,⟨?_,(fun o ho=>by cases ho),fun p hp=>?_⟩,hg⟩
   rotate_left 1
   ·cases hp;rw[hL2.2];rfl
   refine aC (by rfl) (by simp) (by rfl) (by rfl) ?_;rfl
  ·have h5:¬m.kind=5:=by simpa using hc
   rw[if_neg h5] at hL1 hL2;refine aB M hI hn (by rfl) (by kernel_rfl) ?_ ?_
   ·simp
   refine aG (by rfl) (fun hc=>?_) (fun hc=>?_)
   ·have h7:m.kind=7:=by simpa using hc
    rw[if_pos h7] at hL1 hL2;refine aP M hI hn (by rfl) (by kernel_rfl) ?_ ?_
    ·simp
     refine⟨⟨hO,hF⟩,?_⟩
     intro h h1 h2 h3;rw[<-hstp];exact Left.dh hL1 h h1 h2 h3
    intro a w hg
    refine⟨.inl rfl,_,⟨?_,(fun o ho=>by cases ho),fun p hp=>?_⟩,hg⟩
    rotate_left 1
    ·cases hp;rw[hL2.2];rfl
    refine aC (by rfl) (by simp) (by rfl) (by rfl) ?_;rfl
   ·have h7:¬m.kind=7:=by simpa using hc
    rw[if_neg h7] at hL1 hL2;refine aO ?_;intro a w hg
    refine⟨.inl rfl,_,⟨?_,(fun o ho=>by cases ho),fun p hp=>?_⟩,hg⟩
    rotate_left 1
    ·cases hp;rw[hL2.2];rfl
    refine aC (by rfl) (by simp) (by rfl) (by rfl) ?_;rfl
def bEf:List PC->Option jh
 |[.lit (.int .i64 k),.bs 16 r,.bs 16 i,.bs 16 l,.lit (.string p),.bs 16 ot,.lit (.int .i64 ol),.bs 16 xt,.lit (.int .i64 xl),.lit (.int .i64 bn),.lit (.string bc),.bs 16 bt]=>some ⟨k,r,i,l,p,ot,ol,xt,xl,bn,bc,bt⟩
 |_=>none
theorem aKd{l:List PC}{m:jh}(h:bEf l=some m):l=yw m:=by
 unfold bEf at h
 split at h
 ·cases h;rfl
 ·cases h
structure u_(m:jh):Prop where
 root:m.root.length=16
 link:m.link.length=16
 ot:m.ot.length=16
 xt:m.xt.length=16
 ol:iq m.ol
 xl:iq m.xl
 bn:iq m.bn
 payload:m.payload.size<=10000
 bc:m.bc.size<=2000
def pg(l:List Int):Nat->List PC:=fun i=>[.lit (.int .u8 (l.getD i 0))]
def Aj:List PC->Int
 |[.lit (.int _ n)]=>n
 |_=>0
def bBp:List PC->Bool
 |[.lit (.int .u8 _)]=>true
 |_=>false
theorem aJf{l:List PC}(h:bBp l=true):l=[.lit (.int .u8 (Aj l))]:=by
 unfold bBp at h
 split at h
 ·rfl
 ·cases h
def Ah(l:List Int):List PC:=[.sl 1 l.length (pg l)]
def bJ(b:List (List Int)):Nat->List PC:=fun i=>Ah (b.getD i [])
def EJ:List PC->List Int
 |[.sl 1 k g]=>(List.range k).map fun j=>Aj (g j)
 |_=>[]
def bEw:List PC->Prop
 |[.sl 1 k g]=>∀ j,j<k->bBp (g j)=true
 |_=>False
def bC(n:Nat)(f:Nat->List PC):List (List Int):=(List.range n).map fun i=>EJ (f i)
def lW(n:Nat)(f:Nat->List PC):Prop:=∀ i,i<n->bEw (f i)
@[simp] theorem dF(n:Nat)(f:Nat->List PC):(bC n f).length=n:=by simp[bC]
theorem aOd(l:List Int):EJ (Ah l)=l:=by
 apply List.ext_getElem (by simp[EJ,Ah]);intro i h1 h2;simp only[EJ,Ah,List.getElem_map,List.getElem_range,pg,Aj];rw[zG,zH h2];rfl
@[simp] theorem yJ(n:Nat)(b:List (List Int)):lW n (bJ b):=fun _ _=>fun _ _=>rfl
@[simp] theorem aH(b:List (List Int)):bC b.length (bJ b)=b:=by
 apply List.ext_getElem (by simp);intro i h1 h2;simp only[bC,List.getElem_map,List.getElem_range,bJ];rw[aOd,zG,zH h2];rfl
theorem aEw{n:Nat}{f:Nat->List PC}{C:Ctx}{fv:Value}(hf:lW n f)(h:R C (.sl 1 n f) [fv]):R C (.sl 1 (bC n f).length (bJ (bC n f))) [fv]:=by
 rw[dF]
 cases h with
 | sl hr hb he=>
  refine .sl hr hb (fun i hi=>?_);have h3:=he i hi;have h4:=hf i hi
  have e2:bJ (bC n f) i=Ah (EJ (f i)):=by
   unfold bJ bC;rw[kE n i (fun i=>EJ (f i)) hi]
  rw[e2];generalize f i=c at h3 h4 ⊢;unfold bEw at h4
  split at h4
  ·rename_i kk g;generalize (List.take 1 _)=xs at h3 ⊢
   cases h3 with
   |cons k1 k2=>
    cases k2;refine .cons ?_ .nil;show R _ (.sl 1 ((List.range kk).map fun j=>Aj (g j)).length (pg ((List.range kk).map fun j=>Aj (g j)))) _;rw[List.length_map,List.length_range];have hx:=k1;cases hx;refine k1.zf (fun j hj=>?_);unfold pg;rw[kE kk j (fun j=>Aj (g j)) hj];exact aJf (h4 j hj)
  ·exact h4.elim
def y9(b:List (List Int)):List PC:=[.sl 1 b.length (bJ b)]
theorem Yu{C:Ctx}{n:Nat}{f:Nat->List PC}{v:Value}(hf:lW n f)(h:RV C (.w (.agg [.sl 1 n f])) v):RV C (.w (.agg (y9 (bC n f)))) v:=by
 cases h with
 | w h=>cases h with
  | agg h=>
   refine .w (.agg ?_);generalize Array.toList _=xs at h ⊢
   cases h with
   |cons k1 h=>cases h;cases k1 with
    |sl h1 h2 h3=>exact .cons (xs:=[_]) (aEw hf (.sl h1 h2 h3)) .nil
end Pv
structure j_ where
 b:List (List Int)
 f:Fl
 r:List UInt8
structure oh where
 cut:Bool
 bytes:Int
 iy:Bool
def Cj:oh:=⟨false,0,false⟩
def jX:jc:=⟨0,aS⟩
def BB(b:List (List Int))(ay cell:Int):Bool:=(decide (ay>=0)&&decide (ay<(b.length:Int)))&&decide (cell>=0)&&decide (cell<((b.getD ay.toNat []).length:Int))
def cZ(b:List (List Int))(ay cell:Int):Int:=(b.getD ay.toNat []).getD cell.toNat 0
def qw(b:List (List Int))(ay cell:Int)(cut:Bool):List (List Int):=b.set ay.toNat ((b.getD ay.toNat []).set cell.toNat (dX (cZ b ay cell) cut))
def Cm(t:oh):Int:=if t.cut then min (max t.bytes 0) 256 else -1
def fZ (h:j_) (a:Acc) (t:oh):j_×jc×Int:=
 if a.kind=1 then
  if a.bytes=aS then
   if BB h.b a.ay a.cell then (h,if t.cut then jX else⟨fK (cZ h.b a.ay a.cell) t.iy,aS⟩,0) else (h,jX,1)
  else (h,jX,1)
 else if a.kind=2 then
  if a.bytes=aS then
   if BB h.b a.ay a.cell then ({ h with b:=qw h.b a.ay a.cell t.cut },jX,0) else (h,jX,1)
  else (h,jX,1)
 else if a.kind=3 then
  if a.bytes=aS/\a.ay=0 then
   if 0<=a.cell/\a.cell<h.f.length then (h,if t.cut then jX else⟨0,strOf (sec h.f a.cell)⟩,0) else (h,jX,13)
  else (h,jX,1)
 else if a.kind=4 then
  if a.ay=0 then
   if 0<=a.cell/\a.cell<h.f.length then
    if a.bytes.size=256 then ({ h with f:=iO h.f a.cell a.bytes (Cm t) },jX,0) else (h,jX,1)
   else (h,jX,13)
  else (h,jX,1)
 else (h,jX,1)
def eX(F:List oh)(i:Nat):oh:=F.getD i Cj
def eG{α:Type}(F:List oh):ah α->j_->Nat->Option α×j_×Nat
 |.ret a,h,i=>(some a,h,i)
 |.ask c k,h,i=>if (eX F i).cut=true then (none,(fZ h c (eX F i)).1,i+1) else eG F (k (fZ h c (eX F i)).2.1) (fZ h c (eX F i)).1 (i+1)
def zy(F:List oh)(h:j_):List Acc->Nat->j_
 |[],_=>h
 |c::l,i=>zy F (fZ h c (eX F i)).1 l (i+1)
theorem aYi(F:List oh):∀ (l m:List Acc) (h:j_) (i:Nat),zy F h (l++m) i=zy F (zy F h l i) m (i+l.length)
 |[],m,h,i=>rfl
 |c::l,m,h,i=>by
  rw[List.cons_append,zy,zy,aYi F l m,List.length_cons,show i+1+l.length=i+(l.length+1) from by omega]
theorem aRw(F:List oh)(l:List Acc)(c:Acc)(h:j_):zy F h (l++[c]) 0=(fZ (zy F h l 0) c (eX F l.length)).1:=by
 rw[aYi,Nat.zero_add];rfl
structure D7(h:j_):Prop where
 nb:h.b.length<=1000
 nc:∀ l∈h.b,l.length<=100000
 val:∀ l∈h.b,∀ x∈l,0<=x/\x<=3
 nf:h.f.length<=1000000
 sz:∀ x∈h.f,x.size<=1000000
 rt:h.r.length=16
theorem aVk{x:Int}(h:0<=x/\x<=3)(cut:Bool):0<=dX x cut/\dX x cut<=3:=by
 unfold dX
 split
 ·split<;>omega
 ·exact h
theorem aPv{b:List (List Int)}{ay cell:Int}(hx:BB b ay cell=true)(cut:Bool)(h1:∀ l∈b,l.length<=100000)(h2:∀ l∈b,∀ x∈l,0<=x/\x<=3):(qw b ay cell cut).length=b.length/\(∀ l∈qw b ay cell cut,l.length<=100000)/\∀ l∈qw b ay cell cut,∀ x∈l,0<=x/\x<=3:=by
 have he:(0<=ay/\ay<(b.length:Int))/\0<=cell/\cell<((b.getD ay.toNat []).length:Int):=by
  unfold BB at hx;simp only[Bool.and_eq_true,decide_eq_true_eq] at hx
  exact⟨⟨hx.1.1.1,hx.1.1.2⟩,hx.1.2,hx.2⟩
 have hbk:b.getD ay.toNat []∈b:=by
  rw[zG,zH (by omega)];exact List.getElem_mem _
 have hcl:cZ b ay cell∈b.getD ay.toNat []:=by
  unfold cZ;generalize b.getD ay.toNat []=l at he;rw[zG,zH (by omega)];exact List.getElem_mem _
 unfold qw
 refine⟨List.length_set ..,fun l hl=>?_,fun l hl x hx=>?_⟩
 ·rcases List.mem_or_eq_of_mem_set hl with hl|rfl
  ·exact h1 l hl
  ·rw[List.length_set];exact h1 _ hbk
 ·rcases List.mem_or_eq_of_mem_set hl with hl|rfl
  ·exact h2 l hl x hx
  ·rcases List.mem_or_eq_of_mem_set hx with hx|rfl
   ·exact h2 _ hbk x hx
   ·exact aVk (h2 _ hbk _ hcl) cut
theorem aGu{f:Fl}{s:Int}{b:ByteArray}{cut:Int}(h1:f.length<=1000000)(h2:∀ x∈f,x.size<=1000000):(iO f s b cut).length<=1000000/\∀ x∈iO f s b cut,x.size<=1000000:=by
 unfold iO
 split
 ·rename_i hc
  refine⟨by rw[List.length_set];exact h1,fun x hx=>?_⟩
  rcases List.mem_or_eq_of_mem_set hx with hx|rfl
  ·exact h2 x hx
  ·rw[bM]
   have hs:(sec f s).length<=1000000:=by
    unfold sec;rw[if_pos ⟨hc.1,hc.2.1⟩,Array.length_toList];rw[zG,zH (by omega)];exact h2 _ (List.getElem_mem _)
   have hb:b.data.toList.length=256:=by rw[Array.length_toList];exact hc.2.2
   unfold zq
   split
   ·omega
   ·rw[List.length_append,List.length_take,List.length_drop];omega
 ·exact⟨h1,h2⟩
theorem aTo{h:j_}(a:Acc)(t:oh)(k:D7 h):D7 (fZ h a t).1:=by
 unfold fZ
 repeat' split
 all_goals first
  |exact k
  |(rename_i hx;exact⟨by rw[(aPv hx t.cut k.nc k.val).1];exact k.nb,(aPv hx t.cut k.nc k.val).2.1,(aPv hx t.cut k.nc k.val).2.2,k.nf,k.sz,k.rt⟩)
  |exact⟨k.nb,k.nc,k.val,(aGu k.nf k.sz).1,(aGu k.nf k.sz).2,k.rt⟩
theorem Gj{F:List oh}:∀ (l:List Acc) (i:Nat) {h:j_},D7 h->D7 (zy F h l i)
 |[],_,_,k=>k
 |_::l,i,_,k=>Gj l (i+1) (aTo _ _ k)
namespace Pv
def En(F:List oh)(n:Nat):Prop:=∀ k,k<n->(eX F k).cut=false
theorem VW{α:Type}(O:List Acc->Option jc)(p:ah α):∀ (n:Nat),p.Within n->∀ l:List Acc,(go O p l).2.length<=l.length+n:=by
 induction p with
 |ret a=>intro n _ l;exact Nat.le_add_right _ _
 | ask a k ih=>
  intro n hW l
  cases n with
  |zero=>exact hW.elim
  |succ n=>
   rw[vY];have:=ih _ n (hW (ans O (l++[a]))) (l++[a]);rw[List.length_append,List.length_singleton] at this;omega
end Pv
namespace Pv
theorem aQp(b:List (List Int))(ay cell:Int):gB Tryz.prog a_ 157 true [.w (.agg (y9 b)),gy ay,gy cell] (qc (BB b ay cell)):=by
 have M:=zZ (I:=a_);refine bI Tryz.func157 rfl rfl bQ (fun A hS hn hI=>?_);refine aB M hI hn (by rfl) (by kernel_rfl) ?_ ?_
 ·simp
 refine aB M hI hn (by rfl) (by kernel_rfl) ?_ ?_
 ·simp;exact fun h1 h2 _=>⟨h1,h2⟩
 refine aK (fun a w hg=>⟨.inr rfl,_,?_,hg⟩);refine aC (by rfl) (by simp) (by rfl) (by rfl) ?_;refine congrArg qc ?_;unfold BB
 cases decide (ay>=0)<;>cases decide (ay<(b.length:Int))<;>cases decide (cell>=0)<;>rfl
def exG:List PV->Option (Prop×PV)
 |[.w (.agg [.sl 1 n f]),.w (.one (.lit (.int .i64 ay))),.w (.one (.lit (.int .i64 cell)))]=>some (lW n f,qc (BB (bC n f) ay cell))
 |_=>none
theorem aAw:aj Tryz.prog a_ 157 (aZ true exG):=by
 refine aY (aF Tryz.func157 (by kernel_rfl) rfl) (fun xs p r hg hp w ok0 vs hI hv=>?_);unfold exG at hg
 split at hg
 ·rename_i n f ay cell;cases hg
  match vs,hv with
  |[v1,v2,v3],⟨k1,k2,k3,_⟩=>exact aQp (bC n f) ay cell w ok0 [v1,v2,v3] hI ⟨Yu hp k1,k2,k3,trivial⟩
 ·cases hg
theorem aNj(x:Int)(nz:Bool):gB Tryz.prog a_ 158 true [ji (.int .u8 x),qc nz] (gy (fK x nz)):=by
 have M:=zZ (I:=a_);refine bI Tryz.func158 rfl rfl bQ (fun A hS hn hI=>?_);refine aB M hI hn (by rfl) (by kernel_rfl) ?_ ?_
 ·simp
 refine aJ ?_;refine aB M hI hn (by rfl) (by kernel_rfl) ?_ ?_
 ·simp;exact fun h1 h2=>⟨h1,h2⟩
 refine aG (by rfl) (fun hc=>?_) (fun hc=>?_)
 ·have hc2:(bif x==2 then true else bif x==1 then nz else false)=true:=hc
  have e:fK x nz=1:=by
   unfold fK
   by_cases h2:x=2
   ·simp[h2]
   ·by_cases h1:x=1
    ·subst h1;have:nz=true:=hc2;simp[this]
    ·simp[h1,h2] at hc2
  refine aB M hI hn (by rfl) (by kernel_rfl) ?_ ?_
  ·simp
  refine aK (fun a w hg=>⟨.inr rfl,_,?_,hg⟩);refine aC (by rfl) (by simp) (by rfl) (by rfl) ?_;rw[e]
 ·have hc2:(bif x==2 then true else bif x==1 then nz else false)=false:=hc
  have e:fK x nz=0:=by
   unfold fK
   by_cases h2:x=2
   ·simp[h2] at hc2
   ·by_cases h1:x=1
    ·subst h1;have:nz=false:=hc2;simp[this]
    ·simp[h1,h2]
  refine aO ?_;change h_ _ _ _ _ _;refine aB M hI hn (by rfl) (by kernel_rfl) ?_ ?_
  ·simp
  refine aK (fun a w hg=>⟨.inr rfl,_,?_,hg⟩);refine aC (by rfl) (by simp) (by rfl) (by rfl) ?_;rw[e]
def UJ:List PV->Option (Prop×PV)
 |[.w (.one (.lit (.int .u8 x))),.w (.one (.lit (.bool nz)))]=>some (True,gy (fK x nz))
 |_=>none
theorem aJp:aj Tryz.prog a_ 158 (aZ true UJ):=by
 refine aY (aF Tryz.func158 (by kernel_rfl) rfl) (fun xs p r hg hp=>?_);unfold UJ at hg
 split at hg
 ·cases hg;exact aNj _ _
 ·cases hg
def fzL:List (Nat×Spec):=[(157,aZ true exG),(158,aZ true UJ)]
theorem aBR:∀ p∈fzL,aj Tryz.prog a_ p.1 p.2:=by
 intro p hp;simp only[fzL,List.mem_cons,List.not_mem_nil,or_false] at hp;rcases hp with rfl|rfl
 ·exact aAw
 ·exact aJp
theorem fzM:kw Tryz.prog a_ (find fzL):=⟨bV aBR,fC⟩
theorem aTk{b:List (List Int)}{ay cell:Int}(he:BB b ay cell=true):(0<=ay/\ay<(b.length:Int))/\0<=cell/\cell<((b.getD ay.toNat []).length:Int):=by
 unfold BB at he;simp only[Bool.and_eq_true,decide_eq_true_eq] at he
 exact⟨⟨he.1.1.1,he.1.1.2⟩,he.1.2,he.2⟩
def Ve(b:List (List Int))(ay cell:Int)(nz:Bool):PV:=.kz [.one (.lit (.int .i64 (if BB b ay cell then fK (cZ b ay cell) nz else 0))),.one (.lit (.int .i64 (if BB b ay cell then 0 else 1)))]
theorem Qc(b:List (List Int))(ay cell:Int)(nz:Bool):gB Tryz.prog a_ 123 true [.w (.agg (y9 b)),gy ay,gy cell,qc nz] (Ve b ay cell nz):=by
 have M:=fzM;refine bI Tryz.func123 rfl rfl bQ (fun A hS hn hI=>?_);unfold Ve;refine aB M hI hn (by rfl) (by kernel_rfl) ?_ ?_
 ·simp
 refine aJ ?_;refine aB M hI hn (by rfl) (by kernel_rfl) ?_ ?_
 ·simp
 rw[aH];refine aG (by rfl) (fun hc=>?_) (fun hc=>?_)
 ·have he:BB b ay cell=false:=by
   have hc2:(!(BB b ay cell))=true:=hc
   simpa using hc2
  rw[he];refine aB M hI hn (by rfl) (by kernel_rfl) ?_ ?_
  ·simp
  refine aK (fun a w hg=>⟨.inr rfl,_,?_,hg⟩);refine aC (by rfl) (by simp) (by rfl) (by rfl) ?_;rfl
 have he:BB b ay cell=true:=by
  have hc2:(!(BB b ay cell))=false:=hc
  simpa using hc2
 have hex:=aTk he;rw[he];refine aO ?_;change h_ _ _ _ _ _;refine aB M hI hn (by rfl) (by kernel_rfl) ?_ ?_
 ·simp;rw[zG] at hex;exact hex
 refine aK (fun a w hg=>⟨.inr rfl,_,?_,hg⟩);refine aC (by rfl) (by simp) (by rfl) (by rfl) ?_;rfl
def Vf:List PV->Option (Prop×PV)
 |[.w (.agg [.sl 1 n f]),.w (.one (.lit (.int .i64 ay))),.w (.one (.lit (.int .i64 cell))),.w (.one (.lit (.bool nz)))]=>some (lW n f,Ve (bC n f) ay cell nz)
 |_=>none
theorem LM:aj Tryz.prog a_ 123 (aZ true Vf):=by
 refine aY (aF Tryz.func123 (by kernel_rfl) rfl) (fun xs p r hg hp w ok0 vs hI hv=>?_);unfold Vf at hg
 split at hg
 ·rename_i n f ay cell nz;cases hg
  match vs,hv with
  |[v1,v2,v3,v4],⟨k1,k2,k3,k4,_⟩=>exact Qc (bC n f) ay cell nz w ok0 [v1,v2,v3,v4] hI ⟨Yu hp k1,k2,k3,k4,trivial⟩
 ·cases hg
def UH(w:World)(ok0:Nat->Prop)(base:Nat)(val:Value):Ctx:={ w:=w,ok:=fun b=>(ok0 b\/base<=b)/\hblk val≠some b,env:=fun _=>none }
def Z8(P:Program)(I:World->Prop)(f:Nat)(args:List PV)(e n len:Nat)(f':Nat->List PC):Prop:=
 ∀ (w:World) (ok0:Nat->Prop) (vs:List Value),I w->lm { w,ok:=ok0,env:=fun _=>none } args vs ->
  Calls P f vs.toArray w fun r w'=>∃ val xs,r=.returned val/\Ext w w'/\w'.ownsRow w.heap.size e n val len xs/\∀ i,i<len->RL (UH w' ok0 w.heap.size val) (f' i) ((xs.drop (i*n)).take n)
def bEp(P:Program)(fn:Func)(e n len:Nat)(f':Nat->List PC)(s:St):Prop:=
 ∃ x ai g f,(Am P fn.results).ok none s (fun _ v' wr=>v'=dm (.ow x ai n 0 len)/\wr=[])/\find s.o x=some (g,ai,.arr e n len f)/\gT g/\∀ i,i<len->f i=f' i/\(f' i).all (dH false)=true
def aQQ(P:Program)(A:jq)(fn:Func)(e n len:Nat)(f':Nat->List PC):Exit->Act->World->Prop
 |.panic chain,a,w=>a.defers=[]/\D6 A chain w
 |x,a,w=>(x=.normal\/x=.ret)/\∃ s,bEp P fn e n len f' s/\n_ A s a w
theorem aZb{P:Program}{fn:Func}{e n len x ai:Nat}{g:Option Bool}{f f':Nat->List PC}{s:St}{out:Out}(h:(Am P fn.results).exec none s [] [] [] []=some out)(hc:All out.conds)(hw:out.wr=[])(hx:out.val=dm (.ow x ai n 0 len))(hf:find s.o x=some (g,ai,.arr e n len f))(hg:gT g)(QM:∀ i,i<len->f i=f' i/\(f' i).all (dH false)=true):bEp P fn e n len f' s:=by
 rw[yO] at h
 exact⟨x,ai,g,f,M.vk _ none s out _ h (fun p hp=>hc.mem p hp) ⟨hx,hw⟩,hf,hg,QM⟩
theorem aWe{P:Program}{I:World->Prop}{f:Nat}{fn:Func}{c:Code}{args:List PV}{e n len:Nat}{f':Nat->List PC}(hf:P.funcs[f]?=some fn)(hb:fn.body=some c)(hnb:Nat.ble args.length fn.ntmps=true)(hI:∀ w w',Ext w w'->I w->I w')
  (hT:∀ A:jq,A.S=Non->A.nt=fn.ntmps->lu P I A->h_ P A ⟨slots 0 args,[]⟩ c (aQQ P A fn e n len f')) (hmk:Nat.blt e F6=true:=by rfl):Z8 P I f args e n len f':=by
 intro w ok0 vs VV hv;have hn:=Nat.le_of_ble_eq_true hnb;have hlen:=hv.length
 have hg:n_ (jq.plain w ok0 fn.ntmps) ⟨slots 0 args,[]⟩ { tmps:=vs.toArray++Array.replicate (fn.ntmps-vs.toArray.size) undef,defers:=[] } w:=by
  refine⟨fun _=>none,{ g_:=di.refl _ _,size:=?_,dom:=fun x _=>rfl,jf:=fun x g ai o h=>(by cases h),live:=fun x ai hd b h=>(by cases h),inj:=fun x y v1 h1 v2 h2 b h=>(by cases h),tmps:=fun t g pv h hgt=>?_,defers:=rfl,und:=fun t pv h=>(by obtain⟨k,_,h2⟩:=kN h;cases h2),jy:=fun x hd h=>(by cases h),dev:=fun g ai O dh l h=>(by cases h) }⟩
  ·simp[jq.plain];omega
  ·obtain⟨k,h1,h2⟩:=lU h;obtain⟨v,h3,h4⟩:=hv.at h2;rw[Nat.zero_add] at h1;subst h1;have hk:t<vs.length:=(List.getElem?_eq_some_iff.1 h3).1
   refine⟨v,?_,?_⟩
   ·rw[Array.getElem?_append_left (by simpa using hk)]
    simpa using h3
   ·refine h4.le ⟨Nat.le_refl _,fun b _ hb=>⟨⟨.inl hb,fun _ _ _ h=>by cases h⟩,rfl⟩,fun _ _ _ h=>by cases h⟩
 refine calls_of_wp hf hb (wp_mono (hT (jq.plain w ok0 fn.ntmps) rfl rfl (lu.plain fun w' hc=>hI w w' hc VV) _ w hg (fun _ _ _ hd h=>⟨hd,h⟩)) (fun x a' w' he=>?_))
 have he':(x=.normal\/x=.ret)/\∃ s,bEp P fn e n len f' s/\n_ (jq.plain w ok0 fn.ntmps) s a' w':=by
  cases x with
  |panic chain=>obtain⟨_,l,hl,_⟩:=he;exact hl.elim
  |_=>exact he
 obtain⟨h1,s,⟨x0,ai,g,f0,h2,hfo,hgt,QM⟩,h4⟩:=he';obtain⟨env,hE⟩:=h4;obtain⟨v',val,h5,h6,h7,_⟩:=sV hE h2;subst h7;obtain⟨hd,hev,hob⟩:=jI hE hfo hgt;obtain⟨A0,n0,c0,rfl,hle0,rfl⟩:=h6.x_ hev;obtain⟨xs,hown,hel⟩:=hob
 have hn0:n0=len:=by
  obtain⟨_,A1,c1,e1,_⟩:=Reads.ut hown
  cases e1;rfl
 have hown:=hown.plain hmk;subst hn0
 have hA:A0.map (fun p=>p.add (0*n))=A0:=by
  cases A0 with
  |none=>rfl
  |some ad=>simp[Addr.add]
 have hown2:w'.ownsRow w.heap.size e n (.slice A0 n0 c0) n0 xs:=⟨hown.1,hown.2.imp id (fun⟨g,cap,cur,h1,_,h3⟩=>⟨g,cap,cur,h1,by
  have:=(hE.live x0 ai _ g hev (by rw[h1];rfl)).2
  exact this.resolve_right (fun h=>h.1),h3⟩)⟩
 have this:a'.defers=[]/\∃ v,(results fn a'.tmps).run P w'=.ok v w'/\∃ val xs,Ending.returned v=.returned val/\Ext w w'/\w'.ownsRow w.heap.size e n val n0 xs/\∀ i,i<n0->RL (UH w' ok0 w.heap.size val) (f' i) ((xs.drop (i*n)).take n):=by
  refine⟨hE.defers,_,h5,_,xs,rfl,hE.g_,?_,fun i hi=>?_⟩
  ·first|exact hown2|(simp only[Nat.zero_mul,Nat.sub_zero] at hA ⊢;rw[hA];exact hown2)
  ·have h8:=hel i hi;rw[(QM i hi).1] at h8;refine (iY h8 (QM i hi).2).le ⟨Nat.le_refl _,fun b _ ho=>⟨⟨ho.1,fun e=>ho.2 x0 ai _ hev ?_⟩,rfl⟩,fun _ _ _ h=>by cases h⟩;simp only[Nat.zero_mul,Nat.sub_zero] at hA e;rw[hA] at e;exact e
 rcases h1 with rfl|rfl<;>exact this
section
variable {P:Program} {I:World->Prop} {A:jq} {s:St} {a:Act} {w:World} {env:Env}
theorem eu.JP(h:eu A s a w env)(nm:Nat)(e n len:Nat){f:Nat->List PC}{v:Value}{xs:List Value}{w':World}(hE:Ext w w')(ho:w'.ownsRow w.heap.size e n v len xs)(hr:∀ i,i<len->RL (UH w' (aU A w env).ok w.heap.size v) (f i) ((xs.drop (i*n)).take n)) :
  ∃ env',eu A { s with o:=[(nm,none,fresh s nm,.arr e n len f)]++s.o } a w' env'/\RV (aU A w' env') (dm (.ow nm (fresh s nm) n 0 len)) v:=by
 have ho0:w'.ownsRow 0 e n v len xs:=⟨ho.1,ho.2.imp id (fun⟨g,cap,cur,h1,_,h3⟩=>⟨g,cap,cur,h1,Nat.zero_le _,h3⟩)⟩;obtain⟨A0,c0,rfl⟩:=mM ho
 obtain⟨h1,h2⟩:=h.new (w':=w') nm none (.slice A0 len c0) (.arr e n len f) hE (fun b hb=>by
   have hb':(Value.slice A0 len c0).ownBlock=some b:=by cases A0<;>exact hb
   exact⟨(ho.lt b hb').2,(ho.lt b hb').1⟩)
  (
   fun hle _=>⟨xs,wM ho0,fun i hi=>(hr i hi).le ⟨Nat.le_refl _,fun b hb hok=>⟨by
   obtain⟨hq,hne⟩:=hok;rcases Nat.lt_or_ge b w.heap.size with hlt|hge
   ·rcases hq with hq|hq
    ·exact (hle.blk b hlt hq).1
    ·omega
   ·refine⟨.inr (Nat.le_trans h.g_.size hge),fun x ai hd he hbl=>?_⟩
    by_cases hx:x=nm
    ·subst hx;rw[gU] at he;cases he;exact hne hbl
    ·rw[jL hx] at he;have:=(h.live x ai hd b he hbl).1
     omega,rfl⟩,fun _ _ _ h=>by cases h⟩⟩)
 refine⟨_,h1,.w (.one (.ow ⟨_,_,rfl⟩ ⟨_,_,gU _ _ _ _,Nat.le_refl _,fun _=>⟨_,_,_,rfl,by omega,?_⟩⟩))⟩
 cases A0 with
 |none=>simp
 |some ad=>simp[Addr.add]
def aIi(g:List PV->Option (Prop×Nat×Nat×Nat×(Nat->List PC))):Spec:=fun nm xs=>match xs.all rC,g xs with
 |true,some (p,e,n,len,f)=>.need p (.new nm (.arr e n len f) fun v=>.ret (dm (.ow nm v n 0 len)))
 |_,_=>.fail
theorem aPi{f:Nat}{g:List PV->Option (Prop×Nat×Nat×Nat×(Nat->List PC))}(hent:∀ args w,(callFunc f args).run P w=.ok (.enter f args) w)(hg:∀ xs p e n len f',g xs=some (p,e,n,len,f')->p->Z8 P I f xs e n len f'):aj P I f (aIi g):=by
 refine⟨hent,fun A s a w env nm ul vs F h hI hv hk=>?_⟩
 unfold aIi at hk
 cases hc:ul.all rC<;>cases hq:g ul<;>simp only[hc,hq] at hk<;>try exact hk.elim
 rename_i q;obtain⟨p,e,n,len,f'⟩:=q;obtain⟨hp,hk⟩:=hk;refine (hg ul p e n len f' hq hp w (aU A w env).ok vs (hI.mem w h.g_) (aEo hv hc)).mono ?_;rintro r w' ⟨val,xs,rfl,hE,ho,hr⟩;obtain⟨env',h3,h4⟩:=h.JP nm e n len (f:=f') hE ho hr;exact .inl ⟨_,_,_,env',rfl,hk,h3,h4⟩
end
end Pv
end Go.Proofs.YtndpjopifkbgiaaGreatDoor
