/-.-/
import Derived.Test.YtndpjopifkbgiaaGreatDoorMsN
import Derived.Test.YtndpjopifkbgiaaGreatDoorMsL
import Derived.Test.YtndpjopifkbgiaaGreatDoorMsK
import Derived.Test.YtndpjopifkbgiaaGreatDoorMsJ
import Derived.Test.YtndpjopifkbgiaaGreatDoorMsI
set_option maxRecDepth 100000
set_option maxHeartbeats 4000000
namespace Go.Proofs.YtndpjopifkbgiaaGreatDoor
open Go.RowKit
namespace Pv
def bGt(l:List PC)(ys:List PV):Option (Prop×ah Unit×(Unit->PV)):=match CU l,ys with
 |some (m,_),[.w (.agg rl)]=>(match UM rl with
  |some r=>some (m.root.length=16/\Ce r,y_ m r,fun _=>.lw [])
  |none=>none)
 |_,_=>none
theorem Qh:aj Tryz.prog a_ 79 (iO ny ul bGt):=
 jY (aF Tryz.func79 (by kernel_rfl) rfl) (fun l ys c p v h hc=>by
  unfold bGt at h
  split at h
  ·rename_i m f rl ho
   cases hq:UM rl with
   |none=>rw[hq] at h;cases h
   |some r=>
    rw[hq] at h;cases h;rw[vT ho,aMm hq];exact Q3 m f r hc.1 hc.2
  ·cases h)
def bGv(l:List PC)(ys:List PV):Option (Prop×ah kw×(kw->PV)):=match CU l,ys with
 |some (m,_),[]=>some (m.root.length=16,qj m,fun r=>.w (.agg (uj r)))
 |_,_=>none
theorem Qi:aj Tryz.prog a_ 76 (iO ny ul bGv):=
 jY (aF Tryz.func76 (by kernel_rfl) rfl) (fun l ys c p v h hc=>by
  unfold bGv at h
  split at h
  ·rename_i m f ho;cases h;rw[vT ho];exact Rf m f hc
  ·cases h)
def aTm(l:List PC)(ys:List PV):Option (Prop×ah Unit×(Unit->PV)):=match CU l,ys with
 |some (_,f),[]=>some (0<=f/\f<=900,pW f.toNat,fun _=>.lw [])
 |_,_=>none
theorem KU:aj Tryz.prog a_ 77 (iO ny ul aTm):=
 jY (aF Tryz.func77 (by kernel_rfl) rfl) (fun l ys c p v h hc=>by
  unfold aTm at h
  split at h
  ·rename_i m f ho;cases h;rw[vT ho];obtain⟨k,rfl⟩:∃ k:Nat,f=(k:Int):=⟨f.toNat,by omega⟩;rw[Int.toNat_natCast];exact KD m k (by omega)
  ·cases h)
def aTj(l:List PC)(ys:List PV):Option (Prop×ah Unit×(Unit->PV)):=match CU l,ys with
 |some (_,f),[]=>some (0<=f/\f<=900,pF f.toNat,fun _=>.lw [])
 |_,_=>none
theorem KT:aj Tryz.prog a_ 74 (iO ny ul aTj):=
 jY (aF Tryz.func74 (by kernel_rfl) rfl) (fun l ys c p v h hc=>by
  unfold aTj at h
  split at h
  ·rename_i m f ho;cases h;rw[vT ho];obtain⟨k,rfl⟩:∃ k:Nat,f=(k:Int):=⟨f.toNat,by omega⟩;rw[Int.toNat_natCast];exact J4 m k (by omega)
  ·cases h)
def QV:List (Nat×Spec):=(79,iO ny ul bGt)::(76,iO ny ul bGv)::(77,iO ny ul aTm)::(74,iO ny ul aTj)::QW
theorem KH:∀ p∈QV,aj Tryz.prog a_ p.1 p.2:=by
 intro p hp;simp only[QV,List.mem_cons] at hp;rcases hp with rfl|rfl|rfl|rfl|hp
 ·exact Qh
 ·exact Qi
 ·exact KU
 ·exact KT
 ·exact KI p hp
theorem aMX:lm Tryz.prog a_ (find QV):=⟨bV KH,fK⟩
def oD(f:Nat)(p:ByteArray):kw:=⟨1,((f+1:Nat):Int),yh,0,p⟩
def lX(m:jl)(f:Nat)(p:ByteArray):ah jk:=(y_ m (oD f p)).bind fun _=>(pW f).bind fun _=>.ret { jr with payload:=p }
theorem bAc(m:jl)(f:Nat)(p:ByteArray)(hf:f<=900)(hr:m.root.length=16)(hp:p.size<=10000):vU Tryz.prog a_ ny 75 ul (ku m f) (lX m f p) [pg p] (fun o=>.w (.agg (h_ o))):=by
 intro O l hO hF;have M:=aMX;have hL0:Left O (lX m f p) l (lX m f p) l:=Left.start _ _ _;have hL1:=Left.step (q:=y_ m (oD f p)) hL0;have hL2:=Left.step hL1
 have hw:IntKind.i64.wrap ((f:Int)+1)=((f+1:Nat):Int):=by rw[IntKind.wrap_i64];omega
 generalize hstp:(fun h=>l <+: h/\h <+: (go O (lX m f p) l).2)=di;refine lC Tryz.func75 rfl rfl (fun A hn hI=>?_);refine aB M hI hn (by rfl) (by kernel_rfl) ?_ ?_
 ·simp
 refine aB M hI hn (by rfl) (by kernel_rfl) ?_ ?_
 ·simp;rw[hw]
  refine⟨⟨hO,hF,hr,⟨(by show jb 1;unfold jb;omega),(by show jb ((f+1:Nat):Int);unfold jb;omega),(by show jb 0;unfold jb;omega),rfl,hp⟩⟩,?_⟩
  intro h h1 h2 h3;rw[<-hstp];exact Left.di (q:=y_ m (oD f p)) hL0 h h1 h2 h3
 obtain⟨l1,hq⟩:∃ l1,(go O (y_ m (oD f p)) l).2=l1:=⟨_,rfl⟩;rw[hq] at hL1 hL2;refine aI (s':=⟨[(0,none,dn (.pt px 0 0)),(1,none,pg p),(4,none,dn (.pt 0 0 0))],[(dx,none,0,.dev O di l1),(px,none,0,.box ul (.dv::ku m f)),(0,none,0,.box 40 (h_ jr))]⟩) (fun a w hg=>(hg.reset (kT:=[0,1,4]) (kO:=[dx,px,0]) (by rfl) (by simp)).same ?_ ?_) ?_
 ·exact .cons rfl (.cons rfl (.cons rfl .nil))
 ·refine .cons (.dev ?_) (.cons (.box rfl) (.cons (.box rfl) .nil));show (go O (y_ m ⟨1,IntKind.i64.wrap ((f:Int)+1),yh,0,p⟩) l).2=_;rw[hw];exact hq
 refine aB M hI hn (by rfl) (by kernel_rfl) ?_ ?_
 ·simp
  refine⟨⟨hO,hF,by omega⟩,?_⟩
  intro h h1 h2 h3;rw[<-hstp];exact Left.di hL1 h h1 h2 h3
 refine aB M hI hn (by rfl) (by kernel_rfl) ?_ ?_
 ·simp
 refine aK (fun a w hg=>⟨.inr rfl,_,⟨?_,⟨ku m f,rfl,dX rfl⟩,?_⟩,hg⟩);rotate_left 1
 ·rw[hL2.2];rfl
 refine aC (by rfl) (by simp) (by rfl) (by rfl) ?_;rw[hL2.2];rfl
def aFz(l:List PC)(ys:List PV):Option (Prop×ah jk×(jk->PV)):=match CU l,ys with
 |some (m,f),[.w (.one (.lit (.string p)))]=>some (0<=f/\f<=900/\m.root.length=16/\p.size<=10000,lX m f.toNat p,fun o=>.w (.agg (h_ o)))
 |_,_=>none
theorem aYo:aj Tryz.prog a_ 75 (iO ny ul aFz):=
 jY (aF Tryz.func75 (by kernel_rfl) rfl) (fun l ys c p v h hc=>by
  unfold aFz at h
  split at h
  ·rename_i m f q ho;cases h;rw[vT ho];obtain⟨k,rfl⟩:∃ k:Nat,f=(k:Int):=⟨f.toNat,by omega⟩;rw[Int.toNat_natCast];exact bAc m k q (by omega) hc.2.2.1 hc.2.2.2
  ·cases h)
def QU:List (Nat×Spec):=(75,iO ny ul aFz)::QV
theorem KG:∀ p∈QU,aj Tryz.prog a_ p.1 p.2:=by
 intro p hp;simp only[QU,List.mem_cons] at hp;rcases hp with rfl|hp
 ·exact aYo
 ·exact KH p hp
theorem aCR:lm Tryz.prog a_ (find QU):=⟨bV KG,fK⟩
def aBf(m:jl)(f:Nat):ah jk:=(pF f).bind fun _=>(lX m f m.payload).bind fun o=>.ret o
theorem aZu(m:jl)(f:Nat)(hf:f<=900)(hr:m.root.length=16)(hp:m.payload.size<=10000):vU Tryz.prog a_ ny 48 ul (ku m f) (aBf m f) [] (fun o=>.w (.agg (h_ o))):=by
 intro O l hO hF;have M:=aCR;have hL0:Left O (aBf m f) l (aBf m f) l:=Left.start _ _ _;have hL1:=Left.step (q:=pF f) hL0;have hL2:=Left.step hL1;generalize hstp:(fun h=>l <+: h/\h <+: (go O (aBf m f) l).2)=di;refine lC Tryz.func48 rfl rfl (fun A hn hI=>?_);refine aB M hI hn (by rfl) (by kernel_rfl) ?_ ?_
 ·simp
 refine aB M hI hn (by rfl) (by kernel_rfl) ?_ ?_
 ·simp
  refine⟨⟨hO,hF,by omega⟩,?_⟩
  intro h h1 h2 h3;rw[<-hstp];exact Left.di (q:=pF f) hL0 h h1 h2 h3
 refine aB M hI hn (by rfl) (by kernel_rfl) ?_ ?_
 ·simp
  refine⟨⟨hO,hF,by omega,hr,hp⟩,?_⟩
  intro h h1 h2 h3;rw[<-hstp];exact Left.di hL1 h h1 h2 h3
 refine aK (fun a w hg=>⟨.inr rfl,_,⟨?_,⟨ku m f,rfl,dX rfl⟩,?_⟩,hg⟩);rotate_left 1
 ·rw[hL2.2];rfl
 refine aC (by rfl) (by simp) (by rfl) (by rfl) ?_;rw[hL2.2];rfl
def Zr(m:jl)(f:Nat):ah jk:=(pF f).bind fun _=>.ret { jr with ot:=m.id,ol:=f }
theorem bDo(m:jl)(f:Nat)(hf:f<=900):vU Tryz.prog a_ ny 51 ul (ku m f) (Zr m f) [] (fun o=>.w (.agg (h_ o))):=by
 intro O l hO hF;have M:=aCR;have hL0:Left O (Zr m f) l (Zr m f) l:=Left.start _ _ _;have hL1:=Left.step (q:=pF f) hL0;generalize hstp:(fun h=>l <+: h/\h <+: (go O (Zr m f) l).2)=di;refine lC Tryz.func51 rfl rfl (fun A hn hI=>?_);refine aB M hI hn (by rfl) (by kernel_rfl) ?_ ?_
 ·simp
 refine aB M hI hn (by rfl) (by kernel_rfl) ?_ ?_
 ·simp
  refine⟨⟨hO,hF,by omega⟩,?_⟩
  intro h h1 h2 h3;rw[<-hstp];exact Left.di (q:=pF f) hL0 h h1 h2 h3
 refine aB M hI hn (by rfl) (by kernel_rfl) ?_ ?_
 ·simp
 refine aK (fun a w hg=>⟨.inr rfl,_,⟨?_,⟨ku m f,rfl,dX rfl⟩,?_⟩,hg⟩);rotate_left 1
 ·rw[hL1.2];rfl
 refine aC (by rfl) (by simp) (by rfl) (by rfl) ?_;rw[hL1.2];rfl
def NF(l:List PC)(ys:List PV):Option (Prop×ah jk×(jk->PV)):=match CU l,ys with
 |some (m,_),[.w (.agg rl)]=>(match UM rl with
  |some r=>some (jb r.ol/\m.link.length=16/\r.ot.length=16/\r.payload.size<=10000,.ret (eG m.link r),fun o=>.w (.agg (h_ o)))
  |none=>none)
 |_,_=>none
theorem Vo:aj Tryz.prog a_ 80 (iO ny ul NF):=
 jY (aF Tryz.func80 (by kernel_rfl) rfl) (fun l ys c p v h hc=>by
  unfold NF at h
  split at h
  ·rename_i m f rl ho
   cases hq:UM rl with
   |none=>rw[hq] at h;cases h
   |some r=>
    rw[hq] at h;cases h;rw[vT ho,aMm hq];exact aNk m f r hc.1 hc.2.1 hc.2.2.1 hc.2.2.2
  ·cases h)
def Vb:List (Nat×Spec):=(80,iO ny ul NF)::QU
theorem Vf:∀ p∈Vb,aj Tryz.prog a_ p.1 p.2:=by
 intro p hp;simp only[Vb,List.mem_cons] at hp;rcases hp with rfl|hp
 ·exact Vo
 ·exact KG p hp
theorem FN:lm Tryz.prog a_ (find Vb):=⟨bV Vf,fK⟩
def Xc(m:jl)(f:Nat):ah jk:=(gZ (((f % 2:Nat):Int)==1) 21).bind fun _=>(y_ m ⟨1,(f:Int),yh,0,m.payload⟩).bind fun _=>.ret { jr with payload:=m.payload }
theorem Zm(f:Nat):(f:Int).tmod 2=((f % 2:Nat):Int):=rfl
theorem bDy(m:jl)(f:Nat)(hf:f<=900)(hr:m.root.length=16)(hp:m.payload.size<=10000):vU Tryz.prog a_ ny 50 ul (ku m f) (Xc m f) [] (fun o=>.w (.agg (h_ o))):=by
 intro O l hO hF;have M:=FN;have hL0:Left O (Xc m f) l (Xc m f) l:=Left.start _ _ _;have hL1:=Left.step (q:=gZ (((f % 2:Nat):Int)==1) 21) hL0;have hL2:=Left.step hL1;generalize hstp:(fun h=>l <+: h/\h <+: (go O (Xc m f) l).2)=di;refine lC Tryz.func50 rfl rfl (fun A hn hI=>?_);refine aB M hI hn (by rfl) (by kernel_rfl) ?_ ?_
 ·simp
 refine aB M hI hn (by rfl) (by kernel_rfl) ?_ ?_
 ·simp
  refine⟨⟨hO,hF⟩,?_⟩
  rw[Zm];intro h h1 h2 h3;rw[<-hstp];exact Left.di (q:=gZ (((f % 2:Nat):Int)==1) 21) hL0 h h1 h2 h3
 obtain⟨l1,hq⟩:∃ l1,(go O (gZ (((f % 2:Nat):Int)==1) 21) l).2=l1:=⟨_,rfl⟩;rw[hq] at hL1 hL2;refine aI (s':=⟨[(0,none,dn (.pt px 0 0)),(2,none,dn (.pt 0 0 0))],[(dx,none,0,.dev O di l1),(px,none,0,.box ul (.dv::ku m f)),(0,none,0,.box 40 (h_ jr))]⟩) (fun a w hg=>(hg.reset (kT:=[0,2]) (kO:=[dx,px,0]) (by rfl) (by simp)).same ?_ ?_) ?_
 ·exact .cons rfl (.cons rfl .nil)
 ·exact .cons (.dev hq) (.cons (.box rfl) (.cons (.box rfl) .nil))
 refine aB M hI hn (by rfl) (by kernel_rfl) ?_ ?_
 ·simp
  refine⟨⟨hO,hF,hr,⟨(by show jb 1;unfold jb;omega),(by show jb (f:Int);unfold jb;omega),(by show jb 0;unfold jb;omega),rfl,hp⟩⟩,?_⟩
  intro h h1 h2 h3;rw[<-hstp];exact Left.di hL1 h h1 h2 h3
 refine aB M hI hn (by rfl) (by kernel_rfl) ?_ ?_
 ·simp
 refine aK (fun a w hg=>⟨.inr rfl,_,⟨?_,⟨ku m f,rfl,dX rfl⟩,?_⟩,hg⟩);rotate_left 1
 ·rw[hL2.2];rfl
 refine aC (by rfl) (by simp) (by rfl) (by rfl) ?_;rw[hL2.2];rfl
theorem NI(root:List UInt8)(s:ByteArray)(hs:s.size<=5000):Ce (Oj root s).1:=by
 have h0:Ce FH:=⟨by show jb 0;unfold jb;omega,by show jb 0;unfold jb;omega,by show jb 0;unfold jb;omega,rfl,by decide⟩;unfold Oj
 cases hR:zK root s.data.toList with
 |EH=>exact h0
 |FZ=>exact h0
 | okR p=>
  have hpl:=aOo hR;rw[show s.data.toList.length=s.size from Array.length_toList] at hpl;unfold UB;dsimp only;unfold mgT
  split
  ·exact h0
  ·rename_i h;unfold mgU;dsimp only;have h1:=oO (List.drop (d_ (List.drop 16 (List.drop (d_ (List.drop (d_ p).2.1 p)).2.1 (List.drop (d_ p).2.1 p)))).2.1 (List.drop 16 (List.drop (d_ (List.drop (d_ p).2.1 p)).2.1 (List.drop (d_ p).2.1 p))));simp only[List.length_drop] at h1
   refine⟨iR _,iR _,iR _,?_,?_⟩
   ·simp only[List.length_drop,not_or,Nat.not_lt] at h;simp only[List.length_take,List.length_drop];omega
   ·show (strOf _).size<=10000;rw[bW];omega
theorem aLs(m:jl):ah.All (fun r:kw=>Ce r) (qj m):=by
 refine ah.All.bind (aOy 3) (fun s hs=>?_);refine ah.All.bind (R:=fun _=>True) (ah.All.yx _) (fun _ _=>?_);refine ah.All.bind (R:=fun _=>True) (ah.All.yx _) (fun _ _=>?_);exact NI m.root s.content (by omega)
def aAk(m:jl)(f:Nat):ah jk:=(gZ (((f % 2:Nat):Int)==0) 21).bind fun _=>(qj m).bind fun r=>(gZ (bif r.kind==2 then r.level==(f:Int) else false) 14).bind fun _=>.ret (eG m.link r)
theorem aXy(m:jl)(f:Nat)(_:f<=900)(hr:m.root.length=16)(hl:m.link.length=16):vU Tryz.prog a_ ny 53 ul (ku m f) (aAk m f) [] (fun o=>.w (.agg (h_ o))):=by
 intro O l hO hF;have M:=FN;have hL0:Left O (aAk m f) l (aAk m f) l:=Left.start _ _ _;have hL1:=Left.step (q:=gZ (((f % 2:Nat):Int)==0) 21) hL0;have hL2:=Left.step hL1;generalize hstp:(fun h=>l <+: h/\h <+: (go O (aAk m f) l).2)=di;refine lC Tryz.func53 rfl rfl (fun A hn hI=>?_);refine aB M hI hn (by rfl) (by kernel_rfl) ?_ ?_
 ·simp
 refine aB M hI hn (by rfl) (by kernel_rfl) ?_ ?_
 ·simp
  refine⟨⟨hO,hF⟩,?_⟩
  rw[Zm];intro h h1 h2 h3;rw[<-hstp];exact Left.di (q:=gZ (((f % 2:Nat):Int)==0) 21) hL0 h h1 h2 h3
 obtain⟨l1,hq⟩:∃ l1,(go O (gZ (((f % 2:Nat):Int)==0) 21) l).2=l1:=⟨_,rfl⟩;rw[hq] at hL1 hL2;refine aI (s':=⟨[(0,none,dn (.pt px 0 0)),(2,none,dn (.pt 0 0 0))],[(dx,none,0,.dev O di l1),(px,none,0,.box ul (.dv::ku m f)),(0,none,0,.box 40 (h_ jr))]⟩) (fun a w hg=>(hg.reset (kT:=[0,2]) (kO:=[dx,px,0]) (by rfl) (by simp)).same ?_ ?_) ?_
 ·exact .cons rfl (.cons rfl .nil)
 ·exact .cons (.dev hq) (.cons (.box rfl) (.cons (.box rfl) .nil))
 have BC:=UU O (aLs m) l1;refine aB M hI hn (by rfl) (by kernel_rfl) ?_ ?_
 ·simp
  refine⟨⟨hO,hF,hr⟩,?_⟩
  intro h h1 h2 h3;rw[<-hstp];exact Left.di hL1 h h1 h2 h3
 obtain⟨r,l2,hq2⟩:∃ r l2,go O (qj m) l1=(r,l2):=⟨_,_,rfl⟩;rw[hq2] at hL2 BC;dsimp only at hL2 BC;refine aI (s':=⟨[(0,none,dn (.pt px 0 0)),(2,none,dn (.pt 0 0 0)),(3,none,dn (.pt 2002 0 0))],[(dx,none,0,.dev O di l2),(px,none,0,.box ul (.dv::ku m f)),(0,none,0,.box 40 (h_ jr)),(2002,none,0,.box 149 (uj r))]⟩) (fun a w hg=>(hg.reset (kT:=[0,2,3]) (kO:=[dx,px,0,2002]) (by rfl) (by simp)).same ?_ ?_) ?_
 ·exact .cons rfl (.cons rfl (.cons rfl .nil))
 ·refine .cons (.dev ?_) (.cons (.box rfl) (.cons (.box rfl) (.cons (.box ?_) .nil)))
  ·show (go O (qj m) l1).2=_;rw[hq2]
  ·show uj (go O (qj m) l1).1=_;rw[hq2]
 have hL3:=Left.step hL2;have hL2':=hL2;have hL3':=hL3
 rw[show ∀ a b:Bool,(bif a then b else false)=(a&&b) from fun a b=>by cases a<;>rfl] at hL2' hL3'
 refine aB M hI hn (by rfl) (by kernel_rfl) ?_ ?_
 ·simp
  refine⟨⟨hO,hF⟩,?_⟩
  intro h h1 h2 h3;rw[<-hstp];exact Left.di hL2' h h1 h2 h3
 refine aB M hI hn (by rfl) (by kernel_rfl) ?_ ?_
 ·simp
  refine⟨⟨hO,hF,BC.ol,hl,BC.ot,BC.payload⟩,?_⟩
  intro h h1 h2 h3;rw[<-hstp];exact Left.di (q:=.ret (eG m.link r)) (f:=fun o=>.ret o) hL3' h h1 h2 h3
 refine aK (fun a w hg=>⟨.inr rfl,_,⟨?_,⟨ku m f,rfl,dX rfl⟩,?_⟩,hg⟩);rotate_left 1
 ·rw[hL3.2];rfl
 refine aC (by rfl) (by simp) (by rfl) (by rfl) ?_;rw[hL3.2];rfl
def UT(m:jl)(f:Nat)(r:kw):kw:=⟨2,((f+1:Nat):Int),m.ot,m.ol,r.payload⟩
def Zg(m:jl)(f:Nat):ah jk:=(gZ (((f % 2:Nat):Int)==1) 21).bind fun _=>(qj m).bind fun r=>(gZ (bif r.kind==1 then r.level==(f:Int) else false) 14).bind fun _=>
 (pW f).bind fun _=>(y_ m (UT m f r)).bind fun _=>.ret (eG m.link (UT m f r))
theorem IE(m:jl)(f:Nat)(hf:f<=900)(hr:m.root.length=16)(hl:m.link.length=16)(ho:m.ot.length=16)(hol:jb m.ol):vU Tryz.prog a_ ny 52 ul (ku m f) (Zg m f) [] (fun o=>.w (.agg (h_ o))):=by
 intro O l hO hF;have M:=FN;have hL0:Left O (Zg m f) l (Zg m f) l:=Left.start _ _ _;have hL1:=Left.step (q:=gZ (((f % 2:Nat):Int)==1) 21) hL0;have hL2:=Left.step hL1;generalize hstp:(fun h=>l <+: h/\h <+: (go O (Zg m f) l).2)=di;refine lC Tryz.func52 rfl rfl (fun A hn hI=>?_);refine aB M hI hn (by rfl) (by kernel_rfl) ?_ ?_
 ·simp
 refine aB M hI hn (by rfl) (by kernel_rfl) ?_ ?_
 ·simp
  refine⟨⟨hO,hF⟩,?_⟩
  rw[Zm];intro h h1 h2 h3;rw[<-hstp];exact Left.di (q:=gZ (((f % 2:Nat):Int)==1) 21) hL0 h h1 h2 h3
 obtain⟨l1,hq⟩:∃ l1,(go O (gZ (((f % 2:Nat):Int)==1) 21) l).2=l1:=⟨_,rfl⟩;rw[hq] at hL1 hL2;refine aI (s':=⟨[(0,none,dn (.pt px 0 0)),(2,none,dn (.pt 0 0 0))],[(dx,none,0,.dev O di l1),(px,none,0,.box ul (.dv::ku m f)),(0,none,0,.box 40 (h_ jr))]⟩) (fun a w hg=>(hg.reset (kT:=[0,2]) (kO:=[dx,px,0]) (by rfl) (by simp)).same ?_ ?_) ?_
 ·exact .cons rfl (.cons rfl .nil)
 ·exact .cons (.dev hq) (.cons (.box rfl) (.cons (.box rfl) .nil))
 have BC:=UU O (aLs m) l1;refine aB M hI hn (by rfl) (by kernel_rfl) ?_ ?_
 ·simp
  refine⟨⟨hO,hF,hr⟩,?_⟩
  intro h h1 h2 h3;rw[<-hstp];exact Left.di hL1 h h1 h2 h3
 obtain⟨r,l2,hq2⟩:∃ r l2,go O (qj m) l1=(r,l2):=⟨_,_,rfl⟩;rw[hq2] at hL2 BC;dsimp only at hL2 BC;refine aI (s':=⟨[(0,none,dn (.pt px 0 0)),(2,none,dn (.pt 0 0 0)),(3,none,dn (.pt 2002 0 0))],[(dx,none,0,.dev O di l2),(px,none,0,.box ul (.dv::ku m f)),(0,none,0,.box 40 (h_ jr)),(2002,none,0,.box 149 (uj r))]⟩) (fun a w hg=>(hg.reset (kT:=[0,2,3]) (kO:=[dx,px,0,2002]) (by rfl) (by simp)).same ?_ ?_) ?_
 ·exact .cons rfl (.cons rfl (.cons rfl .nil))
 ·refine .cons (.dev ?_) (.cons (.box rfl) (.cons (.box rfl) (.cons (.box ?_) .nil)))
  ·show (go O (qj m) l1).2=_;rw[hq2]
  ·show uj (go O (qj m) l1).1=_;rw[hq2]
 have hL3:=Left.step hL2;have hL2':=hL2;have hL3':=hL3
 rw[show ∀ a b:Bool,(bif a then b else false)=(a&&b) from fun a b=>by cases a<;>rfl] at hL2' hL3'
 have hw:IntKind.i64.wrap ((f:Int)+1)=((f+1:Nat):Int):=by rw[IntKind.wrap_i64];omega
 refine aB M hI hn (by rfl) (by kernel_rfl) ?_ ?_
 ·simp
  refine⟨⟨hO,hF⟩,?_⟩
  intro h h1 h2 h3;rw[<-hstp];exact Left.di hL2' h h1 h2 h3
 have hL4:=Left.step hL3;obtain⟨l3,hq3⟩:∃ l3,(go O (gZ (bif r.kind==1 then r.level==(f:Int) else false) 14) l2).2=l3:=⟨_,rfl⟩;rw[hq3] at hL3 hL4;refine aI (s':=⟨[(0,none,dn (.pt px 0 0)),(2,none,dn (.pt 0 0 0)),(3,none,dn (.pt 2002 0 0))],[(dx,none,0,.dev O di l3),(px,none,0,.box ul (.dv::ku m f)),(0,none,0,.box 40 (h_ jr)),(2002,none,0,.box 149 (uj r))]⟩) (fun a w hg=>(hg.reset (kT:=[0,2,3]) (kO:=[dx,px,0,2002]) (by rfl) (by simp)).same ?_ ?_) ?_
 ·exact .cons rfl (.cons rfl (.cons rfl .nil))
 ·exact .cons (.dev hq3) (.cons (.box rfl) (.cons (.box rfl) (.cons (.box rfl) .nil)))
 refine aB M hI hn (by rfl) (by kernel_rfl) ?_ ?_
 ·simp
  refine⟨⟨hO,hF,by omega⟩,?_⟩
  intro h h1 h2 h3;rw[<-hstp];exact Left.di hL3 h h1 h2 h3
 obtain⟨l4,hq4⟩:∃ l4,(go O (pW f) l3).2=l4:=⟨_,rfl⟩;have hL5:=Left.step hL4;rw[hq4] at hL4 hL5;refine aB M hI hn (by rfl) (by kernel_rfl) ?_ ?_
 ·simp
 refine aI (s':=⟨[(0,none,dn (.pt px 0 0)),(2,none,dn (.pt 0 0 0)),(3,none,dn (.pt 2002 0 0))],[(dx,none,0,.dev O di l4),(px,none,0,.box ul (.dv::ku m f)),(0,none,0,.box 40 (h_ jr)),(2002,none,0,.box 149 (uj (UT m f r)))]⟩) (fun a w hg=>(hg.reset (kT:=[0,2,3]) (kO:=[dx,px,0,2002]) (by rfl) (by simp)).same ?_ ?_) ?_
 ·exact .cons rfl (.cons rfl (.cons rfl .nil))
 ·refine .cons (.dev hq4) (.cons (.box rfl) (.cons (.box rfl) (.cons (.box ?_) .nil)));show uj ⟨2,IntKind.i64.wrap ((f:Int)+1),m.ot,m.ol,r.payload⟩=_;rw[hw];rfl
 refine aB M hI hn (by rfl) (by kernel_rfl) ?_ ?_
 ·simp
  refine⟨⟨hO,hF,hr,⟨(by show jb 2;unfold jb;omega),(by show jb ((f+1:Nat):Int);unfold jb;omega),hol,ho,BC.payload⟩⟩,?_⟩
  intro h h1 h2 h3;rw[<-hstp];exact Left.di hL4 h h1 h2 h3
 refine aB M hI hn (by rfl) (by kernel_rfl) ?_ ?_
 ·simp
  refine⟨⟨hO,hF,hol,hl,ho,BC.payload⟩,?_⟩
  intro h h1 h2 h3;rw[<-hstp];exact Left.di (q:=.ret (eG m.link (UT m f r))) (f:=fun o=>.ret o) hL5 h h1 h2 h3
 refine aK (fun a w hg=>⟨.inr rfl,_,⟨?_,⟨ku m f,rfl,dX rfl⟩,?_⟩,hg⟩);rotate_left 1
 ·rw[hL5.2];rfl
 refine aC (by rfl) (by simp) (by rfl) (by rfl) ?_;rw[hL5.2];rfl
theorem aFg(b:Int)(n:Nat):ah.All (fun k:Nat=>k<=n) (ah.ig b n):=by
 refine ah.All.bind (R:=fun k=>k<=n) ((Gs b n 0).mono (fun m hm=>by omega)) (fun k hk=>?_);exact ah.All.bind (R:=fun _=>True) (ah.All.yx _) (fun _ _=>hk)
def bEn(_:jl)(r:kw):ah jk:=(ah.ig 2 16).bind fun n=>(gZ (decide ((n:Int)<16)) 17).bind fun _=>(jP 2 (n+1)).bind fun _=>.ret { jr with session:=n,payload:=r.payload }
def Ol(m:jl)(f:Nat):ah jk:=(qj m).bind fun r=>(gZ (bif r.kind==1 then r.level==((f+1-f % 2:Nat):Int) else false) 14).bind fun _=>(bif ((f % 2:Nat):Int)==0 then pW f else .ret ()).bind fun _=>bEn m r
def Xk(O:List Acc->Option je)(di:List Acc->Prop)(m:jl)(f:Nat)(r:kw)(lk:List Acc):St:=⟨[(0,none,dn (.pt px 0 0)),(2,none,dn (.pt 0 0 0)),(3,none,dn (.pt 1002 0 0))],[(dx,none,0,.dev O di lk),(px,none,0,.box ul (.dv::ku m f)),(0,none,0,.box 40 (h_ jr)),(1002,none,0,.box 149 (uj r))]⟩
theorem bEd(m:jl)(f:Nat)(hf:f<=900)(hr:m.root.length=16):vU Tryz.prog a_ ny 49 ul (ku m f) (Ol m f) [] (fun o=>.w (.agg (h_ o))):=by
 intro O l hO hF;have M:=FN;have hL0:Left O (Ol m f) l (Ol m f) l:=Left.start _ _ _;have hL1:=Left.step (q:=qj m) hL0
 have hw:IntKind.i64.wrap (IntKind.i64.wrap ((f:Int)+1)-(f:Int).tmod 2)=((f+1-f % 2:Nat):Int):=by
  rw[Zm,IntKind.wrap_i64,IntKind.wrap_i64];omega
 generalize hstp:(fun h=>l <+: h/\h <+: (go O (Ol m f) l).2)=di;refine lC Tryz.func49 rfl rfl (fun A hn hI=>?_);refine aB M hI hn (by rfl) (by kernel_rfl) ?_ ?_
 ·simp
 have BC:=UU O (aLs m) l;refine aB M hI hn (by rfl) (by kernel_rfl) ?_ ?_
 ·simp
  refine⟨⟨hO,hF,hr⟩,?_⟩
  intro h h1 h2 h3;rw[<-hstp];exact Left.di (q:=qj m) hL0 h h1 h2 h3
 obtain⟨r,l1,hq⟩:∃ r l1,go O (qj m) l=(r,l1):=⟨_,_,rfl⟩;rw[hq] at hL1 BC;dsimp only at hL1 BC;refine aI (s':=Xk O di m f r l1) (fun a w hg=>(hg.reset (kT:=[0,2,3]) (kO:=[dx,px,0,1002]) (by rfl) (by simp)).same ?_ ?_) ?_
 ·exact .cons rfl (.cons rfl (.cons rfl .nil))
 ·refine .cons (.dev ?_) (.cons (.box rfl) (.cons (.box rfl) (.cons (.box ?_) .nil)))
  ·show (go O (qj m) l).2=_;rw[hq]
  ·show uj (go O (qj m) l).1=_;rw[hq]
 have hL2:=Left.step hL1;have hL1':=hL1
 rw[show ∀ a b:Bool,(bif a then b else false)=(a&&b) from fun a b=>by cases a<;>rfl] at hL1'
 refine aB M hI hn (by rfl) (by kernel_rfl) ?_ ?_
 ·simp;rw[hw]
  refine⟨⟨hO,hF⟩,?_⟩
  intro h h1 h2 h3;rw[<-hstp];exact Left.di hL1' h h1 h2 h3
 obtain⟨l2,hq2⟩:∃ l2,(go O (gZ (bif r.kind==1 then r.level==((f+1-f % 2:Nat):Int) else false) 14) l1).2=l2:=⟨_,rfl⟩;rw[hq2] at hL2;refine aI (s':=Xk O di m f r l2) (fun a w hg=>(hg.reset (kT:=[0,2,3]) (kO:=[dx,px,0,1002]) (by rfl) (by simp)).same ?_ ?_) ?_
 ·exact .cons rfl (.cons rfl (.cons rfl .nil))
 ·refine .cons (.dev ?_) (.cons (.box rfl) (.cons (.box rfl) (.cons (.box rfl) .nil)));show (go O (gZ (bif r.kind==1 then r.level==IntKind.i64.wrap (IntKind.i64.wrap ((f:Int)+1)-(f:Int).tmod 2) else false) 14) l1).2=_;rw[hw];exact hq2
 refine aRf (fun s'=>∃ lk,s'=Xk O di m f r lk/\Left O (Ol m f) l (bEn m r) lk) ?_ ?_
 ·refine aB M hI hn (by rfl) (by kernel_rfl) ?_ ?_
  ·simp
  refine aH (by rfl) (fun hc=>?_) (fun hc=>?_)
  ·have h0:(((f % 2:Nat):Int)==0)=true:=by rw[<-Zm];exact hc
   rw[h0] at hL2;refine aQ M hI hn (by rfl) (by kernel_rfl) ?_ ?_
   ·simp
    refine⟨⟨hO,hF,by omega⟩,?_⟩
    intro h h1 h2 h3;rw[<-hstp];exact Left.di (q:=pW f) hL2 h h1 h2 h3
   intro a w hg
   refine⟨_,⟨(go O (pW f) l2).2,rfl,Left.step (q:=pW f) hL2⟩,(hg.reset (kT:=[0,2,3]) (kO:=[dx,px,0,1002]) (by rfl) (by simp)).same ?_ ?_⟩
   ·exact .cons rfl (.cons rfl (.cons rfl .nil))
   ·exact .cons (.dev rfl) (.cons (.box rfl) (.cons (.box rfl) (.cons (.box rfl) .nil)))
  ·have h0:(((f % 2:Nat):Int)==0)=false:=by rw[<-Zm];exact hc
   rw[h0] at hL2;refine aO ?_;intro a w hg
   refine⟨_,⟨l2,rfl,Left.step (q:=.ret ()) hL2⟩,(hg.reset (kT:=[0,2,3]) (kO:=[dx,px,0,1002]) (by rfl) (by simp)).same ?_ ?_⟩
   ·exact .cons rfl (.cons rfl (.cons rfl .nil))
   ·exact .cons (.dev rfl) (.cons (.box rfl) (.cons (.box rfl) (.cons (.box rfl) .nil)))
 rintro s' ⟨lk,rfl,hL⟩;have hL5:=Left.step (q:=ah.ig 2 16) hL;have hn16:=UU O (aFg 2 16) lk;refine aB M hI hn (by rfl) (by kernel_rfl) ?_ ?_
 ·simp;intro h h1 h2 h3;rw[<-hstp];exact Left.di (q:=ah.ig 2 16) hL h h1 h2 h3
 obtain⟨n,l5,hq5⟩:∃ n l5,go O (ah.ig 2 16) lk=(n,l5):=⟨_,_,rfl⟩;rw[hq5] at hL5 hn16;dsimp only at hL5 hn16;refine aI (s':=⟨(4,none,iy (n:Int))::(Xk O di m f r l5).t,(Xk O di m f r l5).o⟩) (fun a w hg=>(hg.reset (kT:=[4,0,2,3]) (kO:=[dx,px,0,1002]) (by rfl) (by simp)).same ?_ ?_) ?_
 ·refine .cons ?_ (.cons rfl (.cons rfl (.cons rfl .nil)));show iy ((go O (ah.ig 2 16) lk).1:Int)=_;rw[hq5]
 ·refine .cons (.dev ?_) (.cons (.box rfl) (.cons (.box rfl) (.cons (.box rfl) .nil)));show (go O (ah.ig 2 16) lk).2=_;rw[hq5]
 have hL6:=Left.step hL5;refine aB M hI hn (by rfl) (by kernel_rfl) ?_ ?_
 ·simp
  refine⟨⟨hO,hF⟩,?_⟩
  intro h h1 h2 h3;rw[<-hstp];exact Left.di hL5 h h1 h2 h3
 have hL7:=Left.step (q:=jP 2 (n+1)) hL6
 have hwn:IntKind.i64.wrap ((n:Int)+1)=((n+1:Nat):Int):=by rw[IntKind.wrap_i64];omega
 refine aB M hI hn (by rfl) (by kernel_rfl) ?_ ?_
 ·simp;rw[hwn]
  refine⟨⟨hO,hF,by omega,by omega⟩,?_⟩
  intro h h1 h2 h3;rw[<-hstp];exact Left.di (q:=jP 2 (n+1)) hL6 h h1 h2 h3
 obtain⟨l7,hq7⟩:∃ l7,(go O (jP 2 (n+1)) (go O (gZ (decide ((n:Int)<16)) 17) l5).2).2=l7:=⟨_,rfl⟩;rw[hq7] at hL7;refine aI (s':=⟨(4,none,iy (n:Int))::(Xk O di m f r l7).t,(Xk O di m f r l7).o⟩) (fun a w hg=>(hg.reset (kT:=[4,0,2,3]) (kO:=[dx,px,0,1002]) (by rfl) (by simp)).same ?_ ?_) ?_
 ·exact .cons rfl (.cons rfl (.cons rfl (.cons rfl .nil)))
 ·refine .cons (.dev ?_) (.cons (.box rfl) (.cons (.box rfl) (.cons (.box rfl) .nil)));show (go O (jP 2 (IntKind.i64.wrap ((n:Int)+1)).toNat) (go O (gZ (decide ((n:Int)<16)) 17) l5).2).2=_;rw[hwn];exact hq7
 refine aB M hI hn (by rfl) (by kernel_rfl) ?_ ?_
 ·simp
 refine aK (fun a w hg=>⟨.inr rfl,_,⟨?_,⟨ku m f,rfl,dX rfl⟩,?_⟩,hg⟩);rotate_left 1
 ·rw[hL7.2];rfl
 refine aC (by rfl) (by simp) (by rfl) (by rfl) ?_;rw[hL7.2];rfl
def tJ(m:jl):ByteArray:=bif opened (keyS m.link m.xt m.xl) m.bn m.bc m.bt then strOf (dV (keyS m.link m.xt m.xl) m.bn m.bc.data.toList) else { data:=#[] }
def Zo(m:jl):Int:=bif opened (keyS m.link m.xt m.xl) m.bn m.bc m.bt then 0 else 8
def qU(m:jl)(f:Nat):ah jk:=(pF f).bind fun _=>(gZ (m.xl==(f:Int)) 14).bind fun _=>(gZ (Zo m==0) 8).bind fun _=>(gZ (decide (((tJ m).size:Int)<=1000)) 2).bind fun _=>(lX m f (tJ m)).bind fun o=>.ret o
theorem aUc(m:jl)(h:m.bc.size<=2000):(tJ m).size<=2000:=by
 unfold tJ
 cases opened (keyS m.link m.xt m.xl) m.bn m.bc m.bt
 ·exact (by decide:(0:Nat)<=2000)
 ·show (strOf _).size<=2000;rw[bW,eY,show m.bc.data.toList.length=m.bc.size from Array.length_toList];exact h
theorem bAj(m:jl)(f:Nat)(hf:f<=900)(hr:m.root.length=16)(hl:m.link.length=16)(ht:m.xt.length=16)(hxl:jb m.xl)(hbn:jb m.bn)(hbc:m.bc.size<=2000):vU Tryz.prog a_ ny 54 ul (ku m f) (qU m f) [] (fun o=>.w (.agg (h_ o))):=by
 intro O l hO hF;have M:=FN;have hL0:Left O (qU m f) l (qU m f) l:=Left.start _ _ _;have hL1:=Left.step (q:=pF f) hL0;have hL2:=Left.step hL1;have hL3:=Left.step hL2;have hL4:=Left.step hL3;have hL5:=Left.step (q:=lX m f (tJ m)) hL4;generalize hstp:(fun h=>l <+: h/\h <+: (go O (qU m f) l).2)=di;refine lC Tryz.func54 rfl rfl (fun A hn hI=>?_);refine aB M hI hn (by rfl) (by kernel_rfl) ?_ ?_
 ·simp
 refine aB M hI hn (by rfl) (by kernel_rfl) ?_ ?_
 ·simp
  refine⟨⟨hO,hF,by omega⟩,?_⟩
  intro h h1 h2 h3;rw[<-hstp];exact Left.di (q:=pF f) hL0 h h1 h2 h3
 refine aB M hI hn (by rfl) (by kernel_rfl) ?_ ?_
 ·simp
 refine aB M hI hn (by rfl) (by kernel_rfl) ?_ ?_
 ·simp
  refine⟨⟨hO,hF⟩,?_⟩
  intro h h1 h2 h3;rw[<-hstp];exact Left.di hL1 h h1 h2 h3
 refine aB M hI hn (by rfl) (by kernel_rfl) ?_ ?_
 ·simp
  refine⟨⟨hO,hF,hxl,hl,ht⟩,?_,hbn,by omega⟩
  intro h h1 h2 h3;rw[<-hstp];exact Left.di (q:=.ret (keyS m.link m.xt m.xl)) (f:=fun _=>_) hL2 h h1 h2 h3
 obtain⟨l2,hq2⟩:∃ l2,(go O (gZ (m.xl==(f:Int)) 14) (go O (pF f) l).2).2=l2:=⟨_,rfl⟩;rw[hq2] at hL2 hL3 hL4 hL5;refine aI (s':=⟨[(0,none,dn (.pt px 0 0)),(2,none,dn (.pt 0 0 0)),(4,none,pg (tJ m)),(5,none,iy (Zo m))],[(dx,none,0,.dev O di l2),(px,none,0,.box ul (.dv::ku m f)),(0,none,0,.box 40 (h_ jr))]⟩) (fun a w hg=>(hg.reset (kT:=[0,2,4,5]) (kO:=[dx,px,0]) (by rfl) (by simp)).same ?_ ?_) ?_
 ·exact .cons rfl (.cons rfl (.cons rfl (.cons rfl .nil)))
 ·exact .cons (.dev hq2) (.cons (.box rfl) (.cons (.box rfl) .nil))
 have hpay:=aUc m hbc;refine aB M hI hn (by rfl) (by kernel_rfl) ?_ ?_
 ·simp
  refine⟨⟨hO,hF⟩,?_⟩
  intro h h1 h2 h3;rw[<-hstp];exact Left.di hL2 h h1 h2 h3
 refine aB M hI hn (by rfl) (by kernel_rfl) ?_ ?_
 ·simp
  refine⟨⟨hO,hF⟩,?_⟩
  intro h h1 h2 h3;rw[<-hstp];exact Left.di hL3 h h1 h2 h3
 refine aB M hI hn (by rfl) (by kernel_rfl) ?_ ?_
 ·simp
  refine⟨⟨hO,hF,by omega,hr,by omega⟩,?_⟩
  intro h h1 h2 h3;rw[<-hstp];exact Left.di hL4 h h1 h2 h3
 refine aK (fun a w hg=>⟨.inr rfl,_,⟨?_,⟨ku m f,rfl,dX rfl⟩,?_⟩,hg⟩);rotate_left 1
 ·rw[hL5.2];rfl
 refine aC (by rfl) (by simp) (by rfl) (by rfl) ?_;rw[hL5.2];rfl
def vO(m:jl):ah Unit:=
 if m.kind=1\/m.kind=3 then gZ (decide ((m.payload.size:Int)<=1000)) 2 else
  if m.kind=5 then gZ (bif bif bif decide (m.ol>=0) then decide (m.ol<16) else false then m.ol.tmod 2==0 else false then !(m.ot==m.id) else false) 1 else
   if m.kind=7 then gZ (m.xt==m.id) 1 else .ret ()
def kM(m:jl):ah Unit:=(gZ (bif decide (m.kind>=1) then decide (m.kind<=7) else false) 1).bind fun _=>(vO m).bind fun _=>.ret ()
def Nl(O:List Acc->Option je)(di:List Acc->Prop)(m:jl)(lk:List Acc):St:=⟨[(1,none,dn (.pt 0 0 0)),(13,none,iy m.kind)],[(dx,none,0,.dev O di lk),(0,none,0,.box 31 (zo m))]⟩
theorem bHg(m:jl):OT Tryz.prog a_ ny 47 (kM m) [.w (.agg (zo m))] (fun _=>.lw []):=by
 intro O l hO hF;have M:=FN;have hL0:Left O (kM m) l (kM m) l:=Left.start _ _ _;have hL1:=Left.step hL0;generalize hstp:(fun h=>l <+: h/\h <+: (go O (kM m) l).2)=di;refine kD Tryz.func47 rfl rfl rfl (fun A hn hI=>?_);refine aB M hI hn (by rfl) (by kernel_rfl) ?_ ?_
 ·simp
 have hb0:(bif decide (m.kind>=1) then decide (m.kind<=7) else false)=(decide (1<=m.kind)&&decide (m.kind<=7)):=by
  show cond (decide (1<=m.kind)) _ _=_
  cases decide (1<=m.kind)<;>rfl
 have hL0':Left O (kM m) l ((gZ (decide (1<=m.kind)&&decide (m.kind<=7)) 1).bind fun _=>(vO m).bind fun _=>.ret ()) l:=by
  rw[<-hb0];exact hL0
 refine aB M hI hn (by rfl) (by kernel_rfl) ?_ ?_
 ·simp
  refine⟨⟨hO,hF⟩,?_⟩
  intro h h1 h2 h3;rw[<-hstp];exact Left.di hL0' h h1 h2 h3
 obtain⟨l1,hq⟩:∃ l1,(go O (gZ (bif decide (m.kind>=1) then decide (m.kind<=7) else false) 1) l).2=l1:=⟨_,rfl⟩;rw[hq] at hL1;refine aB M hI hn (by rfl) (by kernel_rfl) ?_ ?_
 ·simp
 refine aI (s':=Nl O di m l1) (fun a w hg=>(hg.reset (kT:=[1,13]) (kO:=[dx,0]) (by rfl) (by simp)).same ?_ ?_) ?_
 ·exact .cons rfl (.cons rfl .nil)
 ·exact .cons (.dev hq) (.cons (.box rfl) .nil)
 refine bP ?_;refine aRf (fun s'=>∃ b,s'=⟨(14,none,qi b)::(Nl O di m l1).t,(Nl O di m l1).o⟩/\(b=true↔(m.kind=1\/m.kind=3))) ?_ ?_
 ·refine aB M hI hn (by rfl) (by kernel_rfl) ?_ ?_
  ·simp
  refine aH (by rfl) (fun hc=>?_) (fun hc=>?_)
  ·have h1:m.kind=1:=by simpa using hc
   refine aO ?_;intro a w hg
   refine⟨_,⟨true,rfl,by simp[h1]⟩,(hg.reset (kT:=[14,1,13]) (kO:=[dx,0]) (by rfl) (by simp)).same ?_ ?_⟩
   ·refine .cons ?_ (.cons rfl (.cons rfl .nil));show qi (m.kind==1)=_;rw[h1];rfl
   ·exact .cons (.dev rfl) (.cons (.box rfl) .nil)
  ·have h1:¬m.kind=1:=by simpa using hc
   refine aQ M hI hn (by rfl) (by kernel_rfl) ?_ ?_
   ·simp
   intro a w hg
   refine⟨_,⟨m.kind==3,rfl,by simp[h1]⟩,(hg.reset (kT:=[14,1,13]) (kO:=[dx,0]) (by rfl) (by simp)).same ?_ ?_⟩
   ·exact .cons rfl (.cons rfl (.cons rfl .nil))
   ·exact .cons (.dev rfl) (.cons (.box rfl) .nil)
 rintro s' ⟨b,rfl,hb⟩;have hL2:=Left.step hL1;unfold vO at hL1 hL2;refine aH (by rfl) (fun hc=>?_) (fun hc=>?_)
 ·have h1:m.kind=1\/m.kind=3:=hb.1 hc;rw[if_pos h1] at hL1 hL2;refine aQ M hI hn (by rfl) (by kernel_rfl) ?_ ?_
  ·simp
   refine⟨⟨hO,hF⟩,?_⟩
   intro h h1 h2 h3;rw[<-hstp];exact Left.di hL1 h h1 h2 h3
  intro a w hg
  refine⟨.inl rfl,_,⟨?_,(fun o ho=>by cases ho),fun p hp=>?_⟩,hg⟩
  rotate_left 1
  ·cases hp;rw[hL2.2];rfl
  refine aC (by rfl) (by simp) (by rfl) (by rfl) ?_;rfl
 ·have h1:¬(m.kind=1\/m.kind=3):=fun h=>by rw[hb.2 h] at hc;cases hc
  rw[if_neg h1] at hL1 hL2;refine aB M hI hn (by rfl) (by kernel_rfl) ?_ ?_
  ·simp
  refine aH (by rfl) (fun hc=>?_) (fun hc=>?_)
  ·have h5:m.kind=5:=by simpa using hc
   rw[if_pos h5] at hL1 hL2;refine aB M hI hn (by rfl) (by kernel_rfl) ?_ ?_
   ·simp
   have hb8:∀ a b c d:Bool,(bif bif bif a then b else false then c else false then d else false)=(a&&b&&c&&d):=fun a b c d=>by cases a<;>cases b<;>cases c<;>cases d<;>rfl
   have hL1':Left O (kM m) l ((gZ (decide (0<=m.ol)&&decide (m.ol<16)&&m.ol.tmod 2==0&&!(m.ot==m.id)) 1).bind fun _=>.ret ()) l1:=by
    rw[<-hb8];exact hL1
   refine aQ M hI hn (by rfl) (by kernel_rfl) ?_ ?_
   ·simp
    refine⟨⟨hO,hF⟩,?_⟩
    intro h h1 h2 h3;rw[<-hstp];exact Left.di hL1' h h1 h2 h3
   intro a w hg
   refine⟨.inl rfl,_,⟨?_,(fun o ho=>by cases ho),fun p hp=>?_⟩,hg⟩
   rotate_left 1
   ·cases hp;rw[hL2.2];rfl
   refine aC (by rfl) (by simp) (by rfl) (by rfl) ?_;rfl
  ·have h5:¬m.kind=5:=by simpa using hc
   rw[if_neg h5] at hL1 hL2;refine aB M hI hn (by rfl) (by kernel_rfl) ?_ ?_
   ·simp
   refine aH (by rfl) (fun hc=>?_) (fun hc=>?_)
   ·have h7:m.kind=7:=by simpa using hc
    rw[if_pos h7] at hL1 hL2;refine aQ M hI hn (by rfl) (by kernel_rfl) ?_ ?_
    ·simp
     refine⟨⟨hO,hF⟩,?_⟩
     intro h h1 h2 h3;rw[<-hstp];exact Left.di hL1 h h1 h2 h3
    intro a w hg
    refine⟨.inl rfl,_,⟨?_,(fun o ho=>by cases ho),fun p hp=>?_⟩,hg⟩
    rotate_left 1
    ·cases hp;rw[hL2.2];rfl
    refine aC (by rfl) (by simp) (by rfl) (by rfl) ?_;rfl
   ·have h7:¬m.kind=7:=by simpa using hc
    rw[if_neg h7] at hL1 hL2;refine aO ?_;intro a w hg
    refine⟨.inl rfl,_,⟨?_,(fun o ho=>by cases ho),fun p hp=>?_⟩,hg⟩
    rotate_left 1
    ·cases hp;rw[hL2.2];rfl
    refine aC (by rfl) (by simp) (by rfl) (by rfl) ?_;rfl
def bHt:List PC->Option jl
 |[.lit (.int .i64 k),.bs 16 r,.bs 16 i,.bs 16 l,.lit (.string p),.bs 16 ot,.lit (.int .i64 ol),.bs 16 xt,.lit (.int .i64 xl),.lit (.int .i64 bn),.lit (.string bc),.bs 16 bt]=>some ⟨k,r,i,l,p,ot,ol,xt,xl,bn,bc,bt⟩
 |_=>none
theorem aMn{l:List PC}{m:jl}(h:bHt l=some m):l=zo m:=by
 unfold bHt at h
 split at h
 ·cases h;rfl
 ·cases h
structure uz(m:jl):Prop where
 root:m.root.length=16
 link:m.link.length=16
 ot:m.ot.length=16
 xt:m.xt.length=16
 ol:jb m.ol
 xl:jb m.xl
 bn:jb m.bn
 payload:m.payload.size<=10000
 bc:m.bc.size<=2000
def qc(l:List Int):Nat->List PC:=fun i=>[.lit (.int .u8 (l.getD i 0))]
def Aq:List PC->Int
 |[.lit (.int _ n)]=>n
 |_=>0
def bEv:List PC->Bool
 |[.lit (.int .u8 _)]=>true
 |_=>false
theorem aLm{l:List PC}(h:bEv l=true):l=[.lit (.int .u8 (Aq l))]:=by
 unfold bEv at h
 split at h
 ·rfl
 ·cases h
def Am(l:List Int):List PC:=[.sl 1 l.length (qc l)]
def bJ(b:List (List Int)):Nat->List PC:=fun i=>Am (b.getD i [])
def ER:List PC->List Int
 |[.sl 1 k g]=>(List.range k).map fun j=>Aq (g j)
 |_=>[]
def bIm:List PC->Prop
 |[.sl 1 k g]=>∀ j,j<k->bEv (g j)=true
 |_=>False
def bF(n:Nat)(f:Nat->List PC):List (List Int):=(List.range n).map fun i=>ER (f i)
def pV(n:Nat)(f:Nat->List PC):Prop:=∀ i,i<n->bIm (f i)
@[simp] theorem dR(n:Nat)(f:Nat->List PC):(bF n f).length=n:=by simp[bF]
theorem aQo(l:List Int):ER (Am l)=l:=by
 apply List.ext_getElem (by simp[ER,Am]);intro i h1 h2;simp only[ER,Am,List.getElem_map,List.getElem_range,qc,Aq];rw[zG,zH h2];rfl
@[simp] theorem OY(n:Nat)(b:List (List Int)):pV n (bJ b):=fun _ _=>fun _ _=>rfl
@[simp] theorem aG(b:List (List Int)):bF b.length (bJ b)=b:=by
 apply List.ext_getElem (by simp);intro i h1 h2;simp only[bF,List.getElem_map,List.getElem_range,bJ];rw[aQo,zG,zH h2];rfl
theorem aGn{n:Nat}{f:Nat->List PC}{C:Ctx}{fv:Value}(hf:pV n f)(h:R C (.sl 1 n f) [fv]):R C (.sl 1 (bF n f).length (bJ (bF n f))) [fv]:=by
 rw[dR]
 cases h with
 | sl hr hb he=>
  refine .sl hr hb (fun i hi=>?_);have h3:=he i hi;have h4:=hf i hi
  have e2:bJ (bF n f) i=Am (ER (f i)):=by
   unfold bJ bF;rw[kS n i (fun i=>ER (f i)) hi]
  rw[e2];generalize f i=c at h3 h4 ⊢;unfold bIm at h4
  split at h4
  ·rename_i kk g;generalize (List.take 1 _)=xs at h3 ⊢
   cases h3 with
   |cons k1 k2=>
    cases k2;refine .cons ?_ .nil;show R _ (.sl 1 ((List.range kk).map fun j=>Aq (g j)).length (qc ((List.range kk).map fun j=>Aq (g j)))) _;rw[List.length_map,List.length_range];have hx:=k1;cases hx;refine k1.zt (fun j hj=>?_);unfold qc;rw[kS kk j (fun j=>Aq (g j)) hj];exact aLm (h4 j hj)
  ·exact h4.elim
def AY(b:List (List Int)):List PC:=[.sl 1 b.length (bJ b)]
theorem aVx{C:Ctx}{n:Nat}{f:Nat->List PC}{v:Value}(hf:pV n f)(h:RV C (.w (.agg [.sl 1 n f])) v):RV C (.w (.agg (AY (bF n f)))) v:=by
 cases h with
 | w h=>cases h with
  | agg h=>
   refine .w (.agg ?_);generalize Array.toList _=xs at h ⊢
   cases h with
   |cons k1 h=>cases h;cases k1 with
    |sl h1 h2 h3=>exact .cons (xs:=[_]) (aGn hf (.sl h1 h2 h3)) .nil
end Pv
structure j_ where
 b:List (List Int)
 f:Fl
 r:List UInt8
structure lu where
 cut:Bool
 bytes:Int
 iw:Bool
def tu:lu:=⟨false,0,false⟩
def kP:je:=⟨0,aS⟩
def BI(b:List (List Int))(ay cell:Int):Bool:=(decide (ay>=0)&&decide (ay<(b.length:Int)))&&decide (cell>=0)&&decide (cell<((b.getD ay.toNat []).length:Int))
def dI(b:List (List Int))(ay cell:Int):Int:=(b.getD ay.toNat []).getD cell.toNat 0
def ru(b:List (List Int))(ay cell:Int)(cut:Bool):List (List Int):=b.set ay.toNat ((b.getD ay.toNat []).set cell.toNat (eH (dI b ay cell) cut))
def CQ(t:lu):Int:=if t.cut then min (max t.bytes 0) 256 else -1
def fJ (h:j_) (a:Acc) (t:lu):j_×je×Int:=
 if a.kind=1 then
  if a.bytes=aS then
   if BI h.b a.ay a.cell then (h,if t.cut then kP else⟨fV (dI h.b a.ay a.cell) t.iw,aS⟩,0) else (h,kP,1)
  else (h,kP,1)
 else if a.kind=2 then
  if a.bytes=aS then
   if BI h.b a.ay a.cell then ({ h with b:=ru h.b a.ay a.cell t.cut },kP,0) else (h,kP,1)
  else (h,kP,1)
 else if a.kind=3 then
  if a.bytes=aS/\a.ay=0 then
   if 0<=a.cell/\a.cell<h.f.length then (h,if t.cut then kP else⟨0,strOf (sec h.f a.cell)⟩,0) else (h,kP,13)
  else (h,kP,1)
 else if a.kind=4 then
  if a.ay=0 then
   if 0<=a.cell/\a.cell<h.f.length then
    if a.bytes.size=256 then ({ h with f:=iQ h.f a.cell a.bytes (CQ t) },kP,0) else (h,kP,1)
   else (h,kP,13)
  else (h,kP,1)
 else (h,kP,1)
def eX(F:List lu)(i:Nat):lu:=F.getD i tu
def dK{α:Type}(F:List lu):ah α->j_->Nat->Option α×j_×Nat
 |.ret a,h,i=>(some a,h,i)
 |.ask c k,h,i=>if (eX F i).cut=true then (none,(fJ h c (eX F i)).1,i+1) else dK F (k (fJ h c (eX F i)).2.1) (fJ h c (eX F i)).1 (i+1)
def AO(F:List lu)(h:j_):List Acc->Nat->j_
 |[],_=>h
 |c::l,i=>AO F (fJ h c (eX F i)).1 l (i+1)
theorem bBo(F:List lu):∀ (l m:List Acc) (h:j_) (i:Nat),AO F h (l++m) i=AO F (AO F h l i) m (i+l.length)
 |[],m,h,i=>rfl
 |c::l,m,h,i=>by
  rw[List.cons_append,AO,AO,bBo F l m,List.length_cons,show i+1+l.length=i+(l.length+1) from by omega]
theorem aUl(F:List lu)(l:List Acc)(c:Acc)(h:j_):AO F h (l++[c]) 0=(fJ (AO F h l 0) c (eX F l.length)).1:=by
 rw[bBo,Nat.zero_add];rfl
structure DI(h:j_):Prop where
 nb:h.b.length<=1000
 nc:∀ l∈h.b,l.length<=100000
 val:∀ l∈h.b,∀ x∈l,0<=x/\x<=3
 nf:h.f.length<=1000000
 sz:∀ x∈h.f,x.size<=1000000
 rt:h.r.length=16
theorem aYg{x:Int}(h:0<=x/\x<=3)(cut:Bool):0<=eH x cut/\eH x cut<=3:=by
 unfold eH
 split
 ·split<;>omega
 ·exact h
theorem aSj{b:List (List Int)}{ay cell:Int}(hx:BI b ay cell=true)(cut:Bool)(h1:∀ l∈b,l.length<=100000)(h2:∀ l∈b,∀ x∈l,0<=x/\x<=3):(ru b ay cell cut).length=b.length/\(∀ l∈ru b ay cell cut,l.length<=100000)/\∀ l∈ru b ay cell cut,∀ x∈l,0<=x/\x<=3:=by
 have he:(0<=ay/\ay<(b.length:Int))/\0<=cell/\cell<((b.getD ay.toNat []).length:Int):=by
  unfold BI at hx;simp only[Bool.and_eq_true,decide_eq_true_eq] at hx
  exact⟨⟨hx.1.1.1,hx.1.1.2⟩,hx.1.2,hx.2⟩
 have hbk:b.getD ay.toNat []∈b:=by
  rw[zG,zH (by omega)];exact List.getElem_mem _
 have hcl:dI b ay cell∈b.getD ay.toNat []:=by
  unfold dI;generalize b.getD ay.toNat []=l at he;rw[zG,zH (by omega)];exact List.getElem_mem _
 unfold ru
 refine⟨List.length_set ..,fun l hl=>?_,fun l hl x hx=>?_⟩
 ·rcases List.mem_or_eq_of_mem_set hl with hl|rfl
  ·exact h1 l hl
  ·rw[List.length_set];exact h1 _ hbk
 ·rcases List.mem_or_eq_of_mem_set hl with hl|rfl
  ·exact h2 l hl x hx
  ·rcases List.mem_or_eq_of_mem_set hx with hx|rfl
   ·exact h2 _ hbk x hx
   ·exact aYg (h2 _ hbk _ hcl) cut
theorem aIs{f:Fl}{s:Int}{b:ByteArray}{cut:Int}(h1:f.length<=1000000)(h2:∀ x∈f,x.size<=1000000):(iQ f s b cut).length<=1000000/\∀ x∈iQ f s b cut,x.size<=1000000:=by
 unfold iQ
 split
 ·rename_i hc
  refine⟨by rw[List.length_set];exact h1,fun x hx=>?_⟩
  rcases List.mem_or_eq_of_mem_set hx with hx|rfl
  ·exact h2 x hx
  ·rw[bW]
   have hs:(sec f s).length<=1000000:=by
    unfold sec;rw[if_pos ⟨hc.1,hc.2.1⟩,Array.length_toList];rw[zG,zH (by omega)];exact h2 _ (List.getElem_mem _)
   have hb:b.data.toList.length=256:=by rw[Array.length_toList];exact hc.2.2
   unfold y8
   split
   ·omega
   ·rw[List.length_append,List.length_take,List.length_drop];omega
 ·exact⟨h1,h2⟩
theorem aWi{h:j_}(a:Acc)(t:lu)(k:DI h):DI (fJ h a t).1:=by
 unfold fJ
 repeat' split
 all_goals first
  |exact k
  |(rename_i hx;exact⟨by rw[(aSj hx t.cut k.nc k.val).1];exact k.nb,(aSj hx t.cut k.nc k.val).2.1,(aSj hx t.cut k.nc k.val).2.2,k.nf,k.sz,k.rt⟩)
  |exact⟨k.nb,k.nc,k.val,(aIs k.nf k.sz).1,(aIs k.nf k.sz).2,k.rt⟩
theorem Hu{F:List lu}:∀ (l:List Acc) (i:Nat) {h:j_},DI h->DI (AO F h l i)
 |[],_,_,k=>k
 |_::l,i,_,k=>Hu l (i+1) (aWi _ _ k)
namespace Pv
def F7(F:List lu)(n:Nat):Prop:=∀ k,k<n->(eX F k).cut=false
theorem WZ{α:Type}(O:List Acc->Option je)(p:ah α):∀ (n:Nat),p.Within n->∀ l:List Acc,(go O p l).2.length<=l.length+n:=by
 induction p with
 |ret a=>intro n _ l;exact Nat.le_add_right _ _
 | ask a k ih=>
  intro n hW l
  cases n with
  |zero=>exact hW.elim
  |succ n=>
   rw[wZ];have:=ih _ n (hW (ans O (l++[a]))) (l++[a]);rw[List.length_append,List.length_singleton] at this;omega
theorem aTb(b:List (List Int))(ay cell:Int):gQ Tryz.prog a_ 157 true [.w (.agg (AY b)),iy ay,iy cell] (qi (BI b ay cell)):=by
 have M:=Fq (I:=a_);refine bM Tryz.func157 rfl rfl bU (fun A hS hn hI=>?_);refine aB M hI hn (by rfl) (by kernel_rfl) ?_ ?_
 ·simp
 refine aB M hI hn (by rfl) (by kernel_rfl) ?_ ?_
 ·simp;exact fun h1 h2 _=>⟨h1,h2⟩
 refine aK (fun a w hg=>⟨.inr rfl,_,?_,hg⟩);refine aC (by rfl) (by simp) (by rfl) (by rfl) ?_;refine congrArg qi ?_;unfold BI
 cases decide (ay>=0)<;>cases decide (ay<(b.length:Int))<;>cases decide (cell>=0)<;>rfl
def exG:List PV->Option (Prop×PV)
 |[.w (.agg [.sl 1 n f]),.w (.one (.lit (.int .i64 ay))),.w (.one (.lit (.int .i64 cell)))]=>some (pV n f,qi (BI (bF n f) ay cell))
 |_=>none
theorem aCb:aj Tryz.prog a_ 157 (bD true exG):=by
 refine bC (aF Tryz.func157 (by kernel_rfl) rfl) (fun xs p r hg hp w ok0 vs hI hv=>?_);unfold exG at hg
 split at hg
 ·rename_i n f ay cell;cases hg
  match vs,hv with
  |[v1,v2,v3],⟨k1,k2,k3,_⟩=>exact aTb (bF n f) ay cell w ok0 [v1,v2,v3] hI ⟨aVx hp k1,k2,k3,trivial⟩
 ·cases hg
theorem aPp(x:Int)(nz:Bool):gQ Tryz.prog a_ 158 true [jo (.int .u8 x),qi nz] (iy (fV x nz)):=by
 have M:=Fq (I:=a_);refine bM Tryz.func158 rfl rfl bU (fun A hS hn hI=>?_);refine aB M hI hn (by rfl) (by kernel_rfl) ?_ ?_
 ·simp
 refine aP ?_;refine aB M hI hn (by rfl) (by kernel_rfl) ?_ ?_
 ·simp;exact fun h1 h2=>⟨h1,h2⟩
 refine aH (by rfl) (fun hc=>?_) (fun hc=>?_)
 ·have hc2:(bif x==2 then true else bif x==1 then nz else false)=true:=hc
  have e:fV x nz=1:=by
   unfold fV
   by_cases h2:x=2
   ·simp[h2]
   ·by_cases h1:x=1
    ·subst h1;have:nz=true:=hc2;simp[this]
    ·simp[h1,h2] at hc2
  refine aB M hI hn (by rfl) (by kernel_rfl) ?_ ?_
  ·simp
  refine aK (fun a w hg=>⟨.inr rfl,_,?_,hg⟩);refine aC (by rfl) (by simp) (by rfl) (by rfl) ?_;rw[e]
 ·have hc2:(bif x==2 then true else bif x==1 then nz else false)=false:=hc
  have e:fV x nz=0:=by
   unfold fV
   by_cases h2:x=2
   ·simp[h2] at hc2
   ·by_cases h1:x=1
    ·subst h1;have:nz=false:=hc2;simp[this]
    ·simp[h1,h2]
  refine aO ?_;change ja _ _ _ _ _;refine aB M hI hn (by rfl) (by kernel_rfl) ?_ ?_
  ·simp
  refine aK (fun a w hg=>⟨.inr rfl,_,?_,hg⟩);refine aC (by rfl) (by simp) (by rfl) (by rfl) ?_;rw[e]
def VA:List PV->Option (Prop×PV)
 |[.w (.one (.lit (.int .u8 x))),.w (.one (.lit (.bool nz)))]=>some (True,iy (fV x nz))
 |_=>none
theorem aLv:aj Tryz.prog a_ 158 (bD true VA):=by
 refine bC (aF Tryz.func158 (by kernel_rfl) rfl) (fun xs p r hg hp=>?_);unfold VA at hg
 split at hg
 ·cases hg;exact aPp _ _
 ·cases hg
def fzL:List (Nat×Spec):=[(157,bD true exG),(158,bD true VA)]
theorem aEP:∀ p∈fzL,aj Tryz.prog a_ p.1 p.2:=by
 intro p hp;simp only[fzL,List.mem_cons,List.not_mem_nil,or_false] at hp;rcases hp with rfl|rfl
 ·exact aCb
 ·exact aLv
theorem fzM:lm Tryz.prog a_ (find fzL):=⟨bV aEP,fK⟩
theorem aWc{b:List (List Int)}{ay cell:Int}(he:BI b ay cell=true):(0<=ay/\ay<(b.length:Int))/\0<=cell/\cell<((b.getD ay.toNat []).length:Int):=by
 unfold BI at he;simp only[Bool.and_eq_true,decide_eq_true_eq] at he
 exact⟨⟨he.1.1.1,he.1.1.2⟩,he.1.2,he.2⟩
def Wn(b:List (List Int))(ay cell:Int)(nz:Bool):PV:=.lw [.one (.lit (.int .i64 (if BI b ay cell then fV (dI b ay cell) nz else 0))),.one (.lit (.int .i64 (if BI b ay cell then 0 else 1)))]
theorem Ri(b:List (List Int))(ay cell:Int)(nz:Bool):gQ Tryz.prog a_ 123 true [.w (.agg (AY b)),iy ay,iy cell,qi nz] (Wn b ay cell nz):=by
 have M:=fzM;refine bM Tryz.func123 rfl rfl bU (fun A hS hn hI=>?_);unfold Wn;refine aB M hI hn (by rfl) (by kernel_rfl) ?_ ?_
 ·simp
 refine aP ?_;refine aB M hI hn (by rfl) (by kernel_rfl) ?_ ?_
 ·simp
 rw[aG];refine aH (by rfl) (fun hc=>?_) (fun hc=>?_)
 ·have he:BI b ay cell=false:=by
   have hc2:(!(BI b ay cell))=true:=hc
   simpa using hc2
  rw[he];refine aB M hI hn (by rfl) (by kernel_rfl) ?_ ?_
  ·simp
  refine aK (fun a w hg=>⟨.inr rfl,_,?_,hg⟩);refine aC (by rfl) (by simp) (by rfl) (by rfl) ?_;rfl
 have he:BI b ay cell=true:=by
  have hc2:(!(BI b ay cell))=false:=hc
  simpa using hc2
 have hex:=aWc he;rw[he];refine aO ?_;change ja _ _ _ _ _;refine aB M hI hn (by rfl) (by kernel_rfl) ?_ ?_
 ·simp;rw[zG] at hex;exact hex
 refine aK (fun a w hg=>⟨.inr rfl,_,?_,hg⟩);refine aC (by rfl) (by simp) (by rfl) (by rfl) ?_;rfl
def Wp:List PV->Option (Prop×PV)
 |[.w (.agg [.sl 1 n f]),.w (.one (.lit (.int .i64 ay))),.w (.one (.lit (.int .i64 cell))),.w (.one (.lit (.bool nz)))]=>some (pV n f,Wn (bF n f) ay cell nz)
 |_=>none
theorem MB:aj Tryz.prog a_ 123 (bD true Wp):=by
 refine bC (aF Tryz.func123 (by kernel_rfl) rfl) (fun xs p r hg hp w ok0 vs hI hv=>?_);unfold Wp at hg
 split at hg
 ·rename_i n f ay cell nz;cases hg
  match vs,hv with
  |[v1,v2,v3,v4],⟨k1,k2,k3,k4,_⟩=>exact Ri (bF n f) ay cell nz w ok0 [v1,v2,v3,v4] hI ⟨aVx hp k1,k2,k3,k4,trivial⟩
 ·cases hg
def V9(w:World)(ok0:Nat->Prop)(base:Nat)(val:Value):Ctx:={ w:=w,ok:=fun b=>(ok0 b\/base<=b)/\hblk val≠some b,env:=fun _=>none }
def aBl(P:Program)(I:World->Prop)(f:Nat)(args:List PV)(e n len:Nat)(f':Nat->List PC):Prop:=
 ∀ (w:World) (ok0:Nat->Prop) (vs:List Value),I w->mg { w,ok:=ok0,env:=fun _=>none } args vs ->
  Calls P f vs.toArray w fun r w'=>∃ val xs,r=.returned val/\Ext w w'/\w'.ownsRow w.heap.size e n val len xs/\∀ i,i<len->RL (V9 w' ok0 w.heap.size val) (f' i) ((xs.drop (i*n)).take n)
def bIf(P:Program)(fn:Func)(e n len:Nat)(f':Nat->List PC)(s:St):Prop:=
 ∃ x ai g f,(Az P fn.results).ok none s (fun _ v' wr=>v'=dn (.ow x ai n 0 len)/\wr=[])/\find s.o x=some (g,ai,.arr e n len f)/\gT g/\∀ i,i<len->f i=f' i/\(f' i).all (dG false)=true
def aVJ(P:Program)(A:kz)(fn:Func)(e n len:Nat)(f':Nat->List PC):Exit->Act->World->Prop
 |.panic chain,a,w=>a.defers=[]/\DF A chain w
 |x,a,w=>(x=.normal\/x=.ret)/\∃ s,bIf P fn e n len f' s/\o7 A s a w
theorem bCf{P:Program}{fn:Func}{e n len x ai:Nat}{g:Option Bool}{f f':Nat->List PC}{s:St}{out:Out}(h:(Az P fn.results).exec none s [] [] [] []=some out)(hc:All out.conds)(hw:out.wr=[])(hx:out.val=dn (.ow x ai n 0 len))(hf:find s.o x=some (g,ai,.arr e n len f))(hg:gT g)(RF:∀ i,i<len->f i=f' i/\(f' i).all (dG false)=true):bIf P fn e n len f' s:=by
 rw[zY] at h
 exact⟨x,ai,g,f,M.yc _ none s out _ h (fun p hp=>hc.mem p hp) ⟨hx,hw⟩,hf,hg,RF⟩
theorem aZb{P:Program}{I:World->Prop}{f:Nat}{fn:Func}{c:Code}{args:List PV}{e n len:Nat}{f':Nat->List PC}(hf:P.funcs[f]?=some fn)(hb:fn.body=some c)(hnb:Nat.ble args.length fn.ntmps=true)(hI:∀ w w',Ext w w'->I w->I w')
  (hT:∀ A:kz,A.S=Non->A.nt=fn.ntmps->mi P I A->ja P A ⟨slots 0 args,[]⟩ c (aVJ P A fn e n len f')) (hmk:Nat.blt e FM=true:=by rfl):aBl P I f args e n len f':=by
 intro w ok0 vs WY hv;have hn:=Nat.le_of_ble_eq_true hnb;have hlen:=hv.length
 have hg:o7 (kz.plain w ok0 fn.ntmps) ⟨slots 0 args,[]⟩ { tmps:=vs.toArray++Array.replicate (fn.ntmps-vs.toArray.size) undef,defers:=[] } w:=by
  refine⟨fun _=>none,{ gu:=dm.refl _ _,size:=?_,dom:=fun x _=>rfl,ji:=fun x g ai o h=>(by cases h),live:=fun x ai hd b h=>(by cases h),inj:=fun x y v1 h1 v2 h2 b h=>(by cases h),tmps:=fun t g pv h hgt=>?_,defers:=rfl,und:=fun t pv h=>(by obtain⟨k,_,h2⟩:=lG h;cases h2),l_:=fun x hd h=>(by cases h),dev:=fun g ai O di l h=>(by cases h) }⟩
  ·simp[kz.plain];omega
  ·obtain⟨k,h1,h2⟩:=mY h;obtain⟨v,h3,h4⟩:=hv.at h2;rw[Nat.zero_add] at h1;subst h1;have hk:t<vs.length:=(List.getElem?_eq_some_iff.1 h3).1
   refine⟨v,?_,?_⟩
   ·rw[Array.getElem?_append_left (by simpa using hk)]
    simpa using h3
   ·refine h4.le ⟨Nat.le_refl _,fun b _ hb=>⟨⟨.inl hb,fun _ _ _ h=>by cases h⟩,rfl⟩,fun _ _ _ h=>by cases h⟩
 refine calls_of_wp hf hb (wp_mono (hT (kz.plain w ok0 fn.ntmps) rfl rfl (mi.plain fun w' hc=>hI w w' hc WY) _ w hg (fun _ _ _ hd h=>⟨hd,h⟩)) (fun x a' w' he=>?_))
 have he':(x=.normal\/x=.ret)/\∃ s,bIf P fn e n len f' s/\o7 (kz.plain w ok0 fn.ntmps) s a' w':=by
  cases x with
  |panic chain=>obtain⟨_,l,hl,_⟩:=he;exact hl.elim
  |_=>exact he
 obtain⟨h1,s,⟨x0,ai,g,f0,h2,hfo,hgt,RF⟩,h4⟩:=he';obtain⟨env,hE⟩:=h4;obtain⟨v',val,h5,h6,h7,_⟩:=uP hE h2;subst h7;obtain⟨hd,hev,hob⟩:=jQ hE hfo hgt;obtain⟨A0,n0,c0,rfl,hle0,rfl⟩:=h6.yt hev;obtain⟨xs,hown,hel⟩:=hob
 have hn0:n0=len:=by
  obtain⟨_,A1,c1,e1,_⟩:=Reads.vg hown
  cases e1;rfl
 have hown:=hown.plain hmk;subst hn0
 have hA:A0.map (fun p=>p.add (0*n))=A0:=by
  cases A0 with
  |none=>rfl
  |some ad=>simp[Addr.add]
 have hown2:w'.ownsRow w.heap.size e n (.slice A0 n0 c0) n0 xs:=⟨hown.1,hown.2.imp id (fun⟨g,cap,cur,h1,_,h3⟩=>⟨g,cap,cur,h1,by
  have:=(hE.live x0 ai _ g hev (by rw[h1];rfl)).2
  exact this.resolve_right (fun h=>h.1),h3⟩)⟩
 have this:a'.defers=[]/\∃ v,(results fn a'.tmps).run P w'=.ok v w'/\∃ val xs,Ending.returned v=.returned val/\Ext w w'/\w'.ownsRow w.heap.size e n val n0 xs/\∀ i,i<n0->RL (V9 w' ok0 w.heap.size val) (f' i) ((xs.drop (i*n)).take n):=by
  refine⟨hE.defers,_,h5,_,xs,rfl,hE.gu,?_,fun i hi=>?_⟩
  ·first|exact hown2|(simp only[Nat.zero_mul,Nat.sub_zero] at hA ⊢;rw[hA];exact hown2)
  ·have h8:=hel i hi;rw[(RF i hi).1] at h8;refine (jF h8 (RF i hi).2).le ⟨Nat.le_refl _,fun b _ ho=>⟨⟨ho.1,fun e=>ho.2 x0 ai _ hev ?_⟩,rfl⟩,fun _ _ _ h=>by cases h⟩;simp only[Nat.zero_mul,Nat.sub_zero] at hA e;rw[hA] at e;exact e
 rcases h1 with rfl|rfl<;>exact this
section
variable {P:Program} {I:World->Prop} {A:kz} {s:St} {a:Act} {w:World} {env:Env}
theorem gm.Jh(h:gm A s a w env)(nm:Nat)(e n len:Nat){f:Nat->List PC}{v:Value}{xs:List Value}{w':World}(hE:Ext w w')(ho:w'.ownsRow w.heap.size e n v len xs)(hr:∀ i,i<len->RL (V9 w' (aU A w env).ok w.heap.size v) (f i) ((xs.drop (i*n)).take n)) :
  ∃ env',gm A { s with o:=[(nm,none,fresh s nm,.arr e n len f)]++s.o } a w' env'/\RV (aU A w' env') (dn (.ow nm (fresh s nm) n 0 len)) v:=by
 have ho0:w'.ownsRow 0 e n v len xs:=⟨ho.1,ho.2.imp id (fun⟨g,cap,cur,h1,_,h3⟩=>⟨g,cap,cur,h1,Nat.zero_le _,h3⟩)⟩;obtain⟨A0,c0,rfl⟩:=nS ho
 obtain⟨h1,h2⟩:=h.new (w':=w') nm none (.slice A0 len c0) (.arr e n len f) hE (fun b hb=>by
   have hb':(Value.slice A0 len c0).ownBlock=some b:=by cases A0<;>exact hb
   exact⟨(ho.lt b hb').2,(ho.lt b hb').1⟩)
  (
   fun hle _=>⟨xs,xQ ho0,fun i hi=>(hr i hi).le ⟨Nat.le_refl _,fun b hb hok=>⟨by
   obtain⟨hq,hne⟩:=hok;rcases Nat.lt_or_ge b w.heap.size with hlt|hge
   ·rcases hq with hq|hq
    ·exact (hle.blk b hlt hq).1
    ·omega
   ·refine⟨.inr (Nat.le_trans h.gu.size hge),fun x ai hd he hbl=>?_⟩
    by_cases hx:x=nm
    ·subst hx;rw[iE] at he;cases he;exact hne hbl
    ·rw[jU hx] at he;have:=(h.live x ai hd b he hbl).1
     omega,rfl⟩,fun _ _ _ h=>by cases h⟩⟩)
 refine⟨_,h1,.w (.one (.ow ⟨_,_,rfl⟩ ⟨_,_,iE _ _ _ _,Nat.le_refl _,fun _=>⟨_,_,_,rfl,by omega,?_⟩⟩))⟩
 cases A0 with
 |none=>simp
 |some ad=>simp[Addr.add]
def aKk(g:List PV->Option (Prop×Nat×Nat×Nat×(Nat->List PC))):Spec:=fun nm xs=>match xs.all sN,g xs with
 |true,some (p,e,n,len,f)=>.need p (.new nm (.arr e n len f) fun v=>.ret (dn (.ow nm v n 0 len)))
 |_,_=>.fail
theorem aRx{f:Nat}{g:List PV->Option (Prop×Nat×Nat×Nat×(Nat->List PC))}(hent:∀ args w,(callFunc f args).run P w=.ok (.enter f args) w)(hg:∀ xs p e n len f',g xs=some (p,e,n,len,f')->p->aBl P I f xs e n len f'):aj P I f (aKk g):=by
 refine⟨hent,fun A s a w env nm uq vs F h hI hv hk=>?_⟩
 unfold aKk at hk
 cases hc:uq.all sN<;>cases hq:g uq<;>simp only[hc,hq] at hk<;>try exact hk.elim
 rename_i q;obtain⟨p,e,n,len,f'⟩:=q;obtain⟨hp,hk⟩:=hk;refine (hg uq p e n len f' hq hp w (aU A w env).ok vs (hI.mem w h.gu) (aGe hv hc)).mono ?_;rintro r w' ⟨val,xs,rfl,hE,ho,hr⟩;obtain⟨env',h3,h4⟩:=h.Jh nm e n len (f:=f') hE ho hr;exact .inl ⟨_,_,_,env',rfl,hk,h3,h4⟩
end
end Pv
end Go.Proofs.YtndpjopifkbgiaaGreatDoor
