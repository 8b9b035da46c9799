/-
  Several texts in one file: each has its own heading below.
-/
import Derived.Test.YtndpjopifkbgiaaGreatDoorMmJ
import Derived.Test.YtndpjopifkbgiaaGreatDoorMmM
import Derived.Shelf.Spec.SlicesGrow
import Derived.Test.YtndpjopifkbgiaaGreatDoorMmC
import Derived.Test.YtndpjopifkbgiaaGreatDoorMmK
import Derived.Test.YtndpjopifkbgiaaGreatDoorProg
import Derived.Test.YtndpjopifkbgiaaGreatDoorMmA
set_option maxRecDepth 100000
set_option maxHeartbeats 4000000
namespace Go.Proofs.YtndpjopifkbgiaaGreatDoor
open Go.RowKit
namespace Pv
@[simp] theorem Yf:Tryz.prog.eqGuardType Tryz.prog.depth 27=false:=by kernel_rfl
def Yn:List (Nat×Spec):=(103,Z8 100000)::(120,Z8 10000)::(81,Z7 100000)::(21,Z7 10000)::KJ
theorem aJg:∀ p∈Yn,aj Tryz.prog a_ p.1 p.2:=by
 intro p hp;simp only[Yn,List.mem_cons] at hp;rcases hp with rfl|rfl|rfl|rfl|hp
 ·exact Om
 ·exact IJ
 ·exact PX
 ·exact IU
 ·exact bCd p hp
theorem aAV:l_ Tryz.prog a_ (find Yn):=⟨bV aJg,fC⟩
structure ji where
 kind:Int
 root:List UInt8
 id:List UInt8
 link:List UInt8
 payload:ByteArray
 ot:List UInt8
 ol:Int
 xt:List UInt8
 xl:Int
 bn:Int
 bc:ByteArray
 bt:List UInt8
structure lm where
 kind:Int
 level:Int
 ot:List UInt8
 ol:Int
 payload:ByteArray
structure jd where
 session:Int
 payload:ByteArray
 ot:List UInt8
 ol:Int
 xt:List UInt8
 xl:Int
 bn:Int
 bc:ByteArray
 bt:List UInt8
 err:Int
def uz:List UInt8:=List.replicate 16 0
def Ez:lm:=⟨0,0,uz,0,aS⟩
def jr:jd:=⟨0,aS,uz,0,uz,0,0,aS,uz,0⟩
def zk(m:ji):List PC:=[.lit (.int .i64 m.kind),.bs 16 m.root,.bs 16 m.id,.bs 16 m.link,.lit (.string m.payload),.bs 16 m.ot,.lit (.int .i64 m.ol),.bs 16 m.xt,.lit (.int .i64 m.xl),.lit (.int .i64 m.bn),.lit (.string m.bc),.bs 16 m.bt]
def jw(m:ji)(f:Int):List PC:=[.lit (.int .i64 m.kind),.bs 16 m.root,.bs 16 m.id,.bs 16 m.link,.lit (.string m.payload),.bs 16 m.ot,.lit (.int .i64 m.ol),.bs 16 m.xt,.lit (.int .i64 m.xl),.lit (.int .i64 m.bn),.lit (.string m.bc),.bs 16 m.bt,.lit (.int .i64 f)]
def uj(r:lm):List PC:=[.lit (.int .i64 r.kind),.lit (.int .i64 r.level),.bs 16 r.ot,.lit (.int .i64 r.ol),.lit (.string r.payload)]
def g_(o:jd):List PC:=[.lit (.int .i64 o.session),.lit (.string o.payload),.bs 16 o.ot,.lit (.int .i64 o.ol),.bs 16 o.xt,.lit (.int .i64 o.xl),.lit (.int .i64 o.bn),.lit (.string o.bc),.bs 16 o.bt,.lit (.int .i64 o.err)]
def um:TypeId:=122
def keyS(link t:List UInt8)(l:Int):List UInt8:=kP link [116,114,97,110,115,102,101,114] [t,di l]
def ZY(k:List UInt8)(n:Int)(b:List UInt8):ByteArray:=strOf (dQ k n b)
def ZX(k:List UInt8)(n:Int)(b:List UInt8):List UInt8:=qx k n (dQ k n b)
def fZ(link:List UInt8)(r:lm):jd:={ jr with xt:=r.ot,xl:=r.ol,bn:=r.ol,bc:=ZY (keyS link r.ot r.ol) r.ol r.payload.data.toList,bt:=ZX (keyS link r.ot r.ol) r.ol r.payload.data.toList }
theorem QO(m:ji)(f:Int)(t:List UInt8)(n:Int)(hn0:iq n)(hl:m.link.length=16)(ht:t.length=16):uM Tryz.prog a_ ny 82 um (jw m f) (.ret (keyS m.link t n)) [.w (.agg [.bs 16 t,.lit (.int .i64 n)])] (fun k=>.w (.agg [.bs 16 k])):=by
 intro O l _ _;have M:=aAV;have hw:=aX n;refine kM Tryz.func82 rfl rfl (fun A hn hI=>?_);refine aB M hI hn (by rfl) (by kernel_rfl) ?_ ?_
 ·simp
 refine aB M hI hn (by rfl) (by kernel_rfl) ?_ ?_
 ·simp
  exact⟨hn0,by omega,(by decide),by omega,by omega⟩
 refine aO (fun a w hg=>⟨.inr rfl,_,⟨?_,⟨jw m f,rfl,dV rfl⟩,?_⟩,hg⟩);rotate_left 1
 ·rfl
 refine aC (by rfl) (by simp) (by rfl) (by rfl) ?_;simp[keyS,go]
def Bv:List PC->Option (ji×Int)
 |[.lit (.int .i64 k),.bs 16 r,.bs 16 i,.bs 16 l,.lit (.string p),.bs 16 ot,.lit (.int .i64 ol),.bs 16 xt,.lit (.int .i64 xl),.lit (.int .i64 bn),.lit (.string bc),.bs 16 bt,.lit (.int .i64 f)]=>some (⟨k,r,i,l,p,ot,ol,xt,xl,bn,bc,bt⟩,f)
 |_=>none
theorem uK{l:List PC}{m:ji}{f:Int}(h:Bv l=some (m,f)):l=jw m f:=by
 unfold Bv at h
 split at h
 ·cases h;rfl
 ·cases h
def aUf(l:List PC)(ys:List PV):Option (Prop×ai (List UInt8)×(List UInt8->PV)):=match Bv l,ys with
 |some (m,_),[.w (.agg [.bs 16 t,.lit (.int .i64 n)])]=>some (iq n/\m.link.length=16/\t.length=16,.ret (keyS m.link t n),fun k=>.w (.agg [.bs 16 k]))
 |_,_=>none
theorem aTl:aj Tryz.prog a_ 82 (iM ny um aUf):=
 jR (aF Tryz.func82 (by kernel_rfl) rfl) (fun l ys c p v h hc=>by
  unfold aUf at h
  split at h
  ·rename_i m f t n ho;cases h;rw[uK ho];exact QO m f t n hc.1 hc.2.1 hc.2.2
  ·cases h)
def Uy:List (Nat×Spec):=(82,iM ny um aUf)::Yn
theorem V4:∀ p∈Uy,aj Tryz.prog a_ p.1 p.2:=by
 intro p hp;simp only[Uy,List.mem_cons] at hp;rcases hp with rfl|hp
 ·exact aTl
 ·exact aJg p hp
theorem aKC:l_ Tryz.prog a_ (find Uy):=⟨bV V4,fC⟩
theorem aLi(m:ji)(f:Int)(r:lm)(hn0:iq r.ol)(hl:m.link.length=16)(ht:r.ot.length=16)(hp:r.payload.size<=10000):uM Tryz.prog a_ ny 80 um (jw m f) (.ret (fZ m.link r)) [.w (.agg (uj r))] (fun o=>.w (.agg (g_ o))):=by
 intro O l Dq hFO;have M:=aKC;refine kM Tryz.func80 rfl rfl (fun A hn hI=>?_);refine aB M hI hn (by rfl) (by kernel_rfl) ?_ ?_
 ·simp
 refine aB M hI hn (by rfl) (by kernel_rfl) ?_ ?_
 ·simp
  exact⟨⟨Dq,hFO,hn0,hl,ht⟩,fun h h1 h2 _=>⟨h1,h2⟩,hn0,by omega⟩
 refine aO (fun a w hg=>⟨.inr rfl,_,⟨?_,⟨jw m f,rfl,dV rfl⟩,?_⟩,hg⟩);rotate_left 1
 ·rfl
 refine aC (by rfl) (by simp) (by rfl) (by rfl) ?_;rfl
end Pv
section
open Go.RowKit Go.Shelf
def dI:Ren:=
{
 f:=fun x=>
  match x with
  |4=>177
  |n=>n,
 t:=fun x=>
  match x with
  |22=>74
  |25=>5
  |3=>3
  |4=>4
  |9=>9
  |20=>20
  |0=>0
  |n=>n,
 g:=fun x=>
  have n:=x;
  n }
theorem KW:Lays8.n4 Tryz.prog dI:=
{mixed := Eq.refl true,
  f4:=
    Exists.intro "slices.Grow[[]byte,byte]"
      ⟨of_decide_eq_true (id (Eq.refl true)),
        Eq.trans Tryz.func177
          (congrArg some
            (
             Eq.refl
             ({
              name := "slices.Grow[[]byte,byte]",origin:=(Body8.n4 dI).origin,
              targs:=(Body8.n4 dI).targs,params:=(Body8.n4 dI).params,
              resultTypes:=(Body8.n4 dI).resultTypes,nfree:=(Body8.n4 dI).nfree,
              ntmps:=(Body8.n4 dI).ntmps,results:=(Body8.n4 dI).results,
              body:=(Body8.n4 dI).body,norace:=(Body8.n4 dI).norace,
              ours:=(Body8.n4 dI).ours,file:=(Body8.n4 dI).file,
              endLine := (Body8.n4 dI).endLine, litNo := (Body8.n4 dI).litNo,
              met:=(Body8.n4 dI).met,tmpNames:=(Body8.n4 dI).tmpNames }:Go.Func)))⟩,
  t0:=Tryz.underlying0,a0:=Tryz.isAgg0,z0:=Tryz.sizeOf0,v0:=Tryz.zeroValue0,t3:=Tryz.underlying3,
  a3:=Tryz.isAgg3,z3:=Tryz.sizeOf3,v3:=Tryz.zeroValue3,t4:=Tryz.underlying4,a4:=Tryz.isAgg4,
  z4:=Tryz.sizeOf4,v4:=Tryz.zeroValue4,t9:=Tryz.underlying9,a9:=Tryz.isAgg9,z9:=Tryz.sizeOf9,
  v9:=Tryz.zeroValue9,t20:=Tryz.underlying20,a20:=Tryz.isAgg20,z20:=Tryz.sizeOf20,v20:=Tryz.zeroValue20,
  t22:=Tryz.underlying74,a22:=Tryz.isAgg74,z22:=Tryz.sizeOf74,v22:=Tryz.zeroValue74 }
theorem aKs(z:Array Value)(n:Nat):(Builtin.zeroCells z n).size=n*z.size:=by
 unfold Builtin.zeroCells;simp
theorem LC(n:Nat)(w:World)(hn:0<n)(hb:n<=1000000000000):Calls Tryz.prog 177 #[.slice none 0 0,.int .i64 n] w fun e w'=>∃ c,e=.returned (.slice (some ⟨w.heap.size,0,none⟩) 0 c)/\w'.ownsRow w.heap.size 5 1 (.slice (some ⟨w.heap.size,0,none⟩) 0 c) 0 []/\Ext w w':=by
 obtain⟨_,⟨i0,z,hi,hz,hs,hby,hzs⟩,_,_⟩:=eG;refine (Any8.slices_Grow_grow KW i0 z hi hz (by omega) none 0 0 n [] w (Nat.le_refl _) (by omega) (by rw[hby];omega) (by omega) (by simp) (fun _=>rfl) (fun a h=>by cases h)).mono ?_;rintro e w' ⟨rfl,rfl⟩;have h1:=grownCap_ge w (0+n) 0 (dI.t 25);have h2:=grownCap_le_maxLen w (0+n) 0 (dI.t 25) (by unfold maxLen;omega)
 refine⟨_,rfl,⟨by simp,.inr ⟨w.heap.size,_,_,rfl,Nat.le_refl _,heap_alloc_new w.drew _,Nat.zero_le _,h2,?_,by simp⟩⟩,(Ext.refl w).drew.alloc _⟩
 simp only[Array.size_append,aKs,hzs];simp;rw[Nat.zero_add] at h1;omega
end
theorem aNr(ps:List (List UInt8))(k:Nat)(h:k<ps.length):(ps.take (k+1)).flatten=(ps.take k).flatten++ps[k]:=by
 rw[List.take_add_one,zH h,List.flatten_append];simp
theorem aWz(ps:List (List UInt8))(m:Nat)(h:∀ p∈ps,p.length<=m):ps.flatten.length<=ps.length*m:=by
 induction ps with
 |nil=>simp
 |cons p l ih=>
  have h1:=h p (by simp);have h2:=ih (fun q hq=>h q (by simp[hq]));rw[List.flatten_cons,List.length_append,List.length_cons,Nat.succ_mul];omega
theorem aNq(ps:List (List UInt8))(k:Nat):(ps.take k).flatten.length<=ps.flatten.length:=by
 have h:=congrArg (fun l=>l.flatten.length) (List.take_append_drop k ps);simp only[List.flatten_append,List.length_append] at h;omega
theorem Ub{w:World}{B:Nat}{e:TypeId}{s:Nat}{v:Value}{n:Nat}{xs:List Value}(h:w.ownsRow B e s v n xs):∀ g,v.ownBlock=some g->B<=g:=by
 intro g hg;rcases h.2 with⟨rfl,rfl⟩|⟨g',cap,cs,rfl,hb,_⟩
 ·simp[Value.ownBlock] at hg
 ·simp[Value.ownBlock] at hg;omega
theorem aXo(pv:Value)(ps:List (List UInt8))(w:World)(hp:Parts w pv ps)(hps:ps.length<=1000)(hpl:∀ p∈ps,p.length<=1000000)(h0:0<ps.flatten.length)(hS:∀ X,Ext w X->Parts X pv ps) :
  Calls Tryz.prog 144 #[pv] w fun e w'=>∃ A c,e=.returned (.slice A ps.flatten.length c)/\w'.ownsRow w.heap.size 5 1 (.slice A ps.flatten.length c) ps.flatten.length (ps.flatten.map f_)/\Ext w w':=by
 have HP:=hide hp;have HS:=hide hS;have EM:=hide hpl;have htot:=aWz ps 1000000 hpl;have HTK:=hide (aNq ps)
 obtain⟨A1,c1,rfl⟩:∃ A c,pv=.slice A ps.length c:=by obtain⟨vs,_,⟨_,A,c,h,_⟩,_⟩:=hp;exact⟨A,c,h⟩
 obtain⟨T,hT⟩:∃ T,T=ps.flatten.length:=⟨_,rfl⟩;rw[<-hT] at h0 htot ⊢;have HT:=hide hT;clear hp hS hpl hT;have HG:=hide (fun (w:World)=>LC T w h0 (by omega))
 go_enter Tryz.func144,Tryz.ntmps144
 go_wp2
 go_loopw [3,11] (fun b i wr=>∃ (k n:Nat),k<=ps.length/\i=.int .i64 k/\b=.int .i64 n/\n<=T/\Hid (n=(ps.take k).flatten.length)/\wr=w) (fun _ i _=>ps.length-(intOf i).toNat)
 case atStart=>exact⟨0,0,Nat.zero_le _,rfl,rfl,Nat.zero_le _,hide (by simp),rfl⟩
 case round=>
  obtain⟨k,n,hk,rfl,rfl,hn,HI,hwr⟩:=hrel;have aKM:=hwr.symm;clear hwr;subst aKM
  by_cases hlt:k<ps.length
  ·have hpw:Parts w (.slice A1 ps.length c1) ps:=aA HP;obtain⟨vs,q1,q2,q3⟩:=hpw;obtain⟨u,q4,q5⟩:=q3 k ps[k] (zH hlt);obtain⟨b,o,c',u',hv,_,_,hb,hu,hcc⟩:=q2.D8 hlt;cases hv;rw[q4] at hu;cases hu
   obtain⟨Au,cu,rfl⟩:∃ A c,u=.slice A ps[k].length c:=by obtain⟨_,A,c,h,_⟩:=q5;exact⟨A,c,h⟩
   have hpk:=aA EM ps[k] (List.getElem_mem hlt);have HE:=hide (aNr ps k hlt);have hkt:=aA HTK (k+1);rw[aA HE,List.length_append,<-aA HI,<-aA HT] at hkt;clear q1 q2 q3 q4 q5;generalize ps[k]=p at *
   have hneg:¬((n:Int)+(p.length:Int)<0):=by omega
   go_wp2
   refine⟨⟨k+1,n+p.length,by omega,by go_num,by go_num,by omega,hide ?_,trivial⟩,by simp[intOf];omega⟩
   rw[aA HE,List.length_append,<-aA HI]
  ·obtain rfl:k=ps.length:=by omega
   obtain rfl:n=T:=by rw[aA HI,aA HT,List.take_length]
   go_wp2_with (go_at_call 177;refine (aA HG _).mono ?_;rintro e w3 ⟨c3,rfl,ho3,ug⟩;have H3:=hide (And.intro ho3 ug);clear ho3 ug)
   go_loopw [6,27] (fun b i wx=>∃ (k m:Nat) (A:Option Addr) (c:Nat),k<=ps.length/\i=.int .i64 k/\b=.slice A m c/\m<=n/\Hid (m=(ps.take k).flatten.length/\wx.ownsRow w.heap.size 5 1 (.slice A m c) m ((ps.take k).flatten.map f_)/\Ext w wx)) (fun _ i _=>ps.length-(intOf i).toNat)
   case atStart=>exact⟨0,0,_,c3,Nat.zero_le _,rfl,rfl,Nat.zero_le _,hide ⟨by simp,by simpa using (aA H3).1,(aA H3).2⟩⟩
   case round=>
    obtain⟨k,m,A,c,hk,rfl,rfl,hm,HJ⟩:=hrel
    by_cases hlt:k<ps.length
    ·have hpw:Parts wr (.slice A1 ps.length c1) ps:=aA HS wr (aA HJ).2.2;obtain⟨vs,q1,q2,q3⟩:=hpw;obtain⟨u,q4,q5⟩:=q3 k ps[k] (zH hlt);obtain⟨b,o,c',u',hv,_,_,hb,hu,hcc⟩:=q2.D8 hlt;cases hv;rw[q4] at hu;cases hu
     obtain⟨Au,cu,rfl⟩:∃ A c,u=.slice A ps[k].length c:=by obtain⟨_,A,c,h,_⟩:=q5;exact⟨A,c,h⟩
     have HE:=hide (aNr ps k hlt);have hkt:=aA HTK (k+1);rw[aA HE,List.length_append,<-(aA HJ).1,<-aA HT] at hkt;have X9:=hide q5;clear q1 q2 q3 q4 q5;generalize ps[k]=p at *
     go_wp2_with (at_builtin;refine bF rfl rfl eG rfl (aA HJ).2.1 rfl (aA X9) (dJ.u8 _) (by omega) (aA HJ).2.2.size' ?_;intro A' c4 w4 ho hc hv;have H4:=hide (And.intro ho (Onto.CZ (aA HJ).2.2 (Onto.app hc hv) (Ub (aA HJ).2.1)));clear ho hc hv)
     go_roundw
     case rel=>
      refine⟨k+1,m+p.length,A',c4,by omega,by go_num,rfl,by omega,hide ⟨?_,?_,(aA H4).2⟩⟩
      ·rw[aA HE,List.length_append,<-(aA HJ).1]
      ·rw[aA HE,List.map_append];exact (aA H4).1
     case measure=>simp[intOf];omega
    ·obtain rfl:k=ps.length:=by omega
     go_wp2
     go_ret
     obtain⟨h1,h2,h3⟩:=aA HJ;rw[List.take_length] at h1 h2
     obtain rfl:m=n:=by rw[h1,aA HT]
     exact⟨A,c,rfl,h2,h3⟩
namespace Pv
def aIg:Spec:=fun nm xs=>match xs with
 |[ps]=>GK ps fun pl=>.need (pl.length<=1000/\(∀ p∈pl,p.length<=1000000)/\0<pl.flatten.length) (.new nm (.arr 5 1 pl.flatten.length (ou pl.flatten)) fun v=>.ret (dh (.ow nm v 1 0 pl.flatten.length)))
 |_=>.fail
theorem bEg:aj Tryz.prog a_ 144 aIg:=by
 refine⟨aF Tryz.func144 (by kernel_rfl) rfl,fun A s a w env nm ul vs F h hI hv hk=>?_⟩
 unfold aIg at hk
 split at hk
 rotate_left
 ·exact hk.elim
 rename_i ps
 match vs,hv with
 |[pv],⟨h2,_⟩=>
  obtain⟨pl,hp,hk⟩:=aCk h h2 hk;obtain⟨⟨c1,c2,c3⟩,hk⟩:=hk;refine (aXo pv pl w hp c1 c2 c3 (fun X hX=>hp.ext hX)).mono ?_;rintro e w' ⟨A1,c,rfl,ho,hE⟩;obtain⟨env',h3,h4⟩:=h.zl nm 5 1 pl.flatten.length (f:=ou pl.flatten) hE ho (fun C i hi=>mW C pl.flatten i hi);exact .inl ⟨_,_,_,env',rfl,hk,h3,h4⟩
def QA:List (Nat×Spec):=(144,aIg)::Yn
theorem Jy:∀ p∈QA,aj Tryz.prog a_ p.1 p.2:=by
 intro p hp;simp only[QA,List.mem_cons] at hp;rcases hp with rfl|hp
 ·exact bEg
 ·exact aJg p hp
theorem aKB:l_ Tryz.prog a_ (find QA):=⟨bV Jy,fC⟩
def tC(r:lm):List UInt8:=di r.kind++(di r.level++(r.ot++(di r.ol++bU r.payload.data.toList)))
def sV(root:List UInt8):List UInt8:=kP root [109,111,118,101] []
def oC(root:List UInt8)(r:lm):List UInt8:=di r.level++(bU (dQ (sV root) r.level (tC r))++qx (sV root) r.level (dQ (sV root) r.level (tC r)))
def iU(root:List UInt8)(r:lm):ByteArray:=strOf (oC root r)
theorem bBy(r:lm)(root:List UInt8)(h1:iq r.kind)(h2:iq r.level)(h3:iq r.ol)(h4:r.ot.length=16)(h5:root.length=16)(hp:r.payload.size<=10000):gU Tryz.prog a_ 102 true [.w (.agg (uj r)),.w (.agg [.bs 16 root])] (pq (iU root r)):=by
 have M:=aKB;have l1:=aX r.kind;have l2:=aX r.level;have l3:=aX r.ol;have l4:=fJ r.payload.data.toList;have l5:r.payload.data.toList.length=r.payload.size:=Array.length_toList;refine bJ Tryz.func102 rfl rfl bP (fun A hS hn hI=>?_);refine aB M hI hn (by rfl) (by kernel_rfl) ?_ ?_
 ·simp
 refine aB M hI hn (by rfl) (by kernel_rfl) ?_ ?_
 ·simp
  exact⟨h1,h2,h3,by omega,⟨by omega,by omega,by omega,by omega,by omega⟩,by omega⟩
 refine aB M hI hn (by rfl) (by kernel_rfl) ?_ ?_
 ·simp[↓fO]
  refine⟨⟨by omega,by decide⟩,h2,?_⟩
  show (strOf _).size<=100000;rw[bQ];simp;omega
 refine aB M hI hn (by rfl) (by kernel_rfl) ?_ ?_
 ·have l6:=fJ (dQ (kP root [109,111,118,101] []) r.level (tC r));rw[dZ] at l6;simp[tC] at l6;simp[↓fO,bQ,dA,dZ,eP]
  exact⟨h2,by omega⟩
 refine aO (fun a w hg=>⟨.inr rfl,_,?_,hg⟩);refine aC (by rfl) (by simp) (by rfl) (by rfl) ?_;simp[↓fO,dA,iU,oC,tC,sV];rfl
def Q_:List (Nat×Spec):=(138,Tj jD fun l=>wP (b_ l))::(139,Tj jD fun l=>EI (jB l))::QA
theorem Jw:∀ p∈Q_,aj Tryz.prog a_ p.1 p.2:=by
 intro p hp;simp only[Q_,List.mem_cons] at hp;rcases hp with rfl|rfl|hp
 ·exact qR (aF Tryz.func138 (by kernel_rfl) rfl) aGz
 ·exact qR (aF Tryz.func139 (by kernel_rfl) rfl) aAw
 ·exact Jy p hp
theorem aAN:l_ Tryz.prog a_ (find Q_):=⟨bV Jw,fC⟩
inductive C_ where
 |E8|FP|okR (p:List UInt8)
def C_.pv:C_->PV
 |.E8=>.lh [.one (.lit (.slice none 0 0)),.one (.lit (.bool false))]
 |.FP=>.lh [.one (.sl 1 0 (ou [])),.one (.lit (.bool false))]
 |.okR p=>.lh [.one (.sl 1 p.length (ou p)),.one (.lit (.bool true))]
def ET(root:List UInt8)(q:Int)(c t:List UInt8):C_:=if qx (sV root) q c=t then .okR (dQ (sV root) q c) else .FP
def yC(root b:List UInt8):C_:=
 if (b_ b).2.2≠0 then .E8 else
  if (jB (b.drop (b_ b).2.1)).2.2≠0\/b.length≠(b_ b).2.1+(jB (b.drop (b_ b).2.1)).2.1+16 then .E8 else
   ET root (b_ b).1 (jB (b.drop (b_ b).2.1)).1 (b.drop ((b_ b).2.1+(jB (b.drop (b_ b).2.1)).2.1))
theorem J7(root:List UInt8)(s:ByteArray)(hr:root.length=16)(hs:s.size<=100000):gU Tryz.prog a_ 136 false [.w (.agg [.bs 16 root]),pq s] (yC root s.data.toList).pv:=by
 have M:=aAN;have hbl:s.data.toList.length=s.size:=Array.length_toList;refine bJ Tryz.func136 rfl rfl bP (fun A hS hn hI=>?_);refine aB M hI hn (by rfl) (by kernel_rfl) ?_ ?_
 ·simp
 refine aB M hI hn (by rfl) (by kernel_rfl) ?_ ?_
 ·simp;omega
 refine aG (s':=⟨[(2,none,dh (.pt 0 0 0)),(6,none,og s.data.toList)],[(0,none,0,.box 23 [.bs 16 root])]⟩) (fun a w hg=>(hg.reset (kT:=[2,6]) (kO:=[0]) (by rfl) (by simp)).same ?_ ?_) ?_
 ·refine .cons rfl (.cons ?_ .nil);rw[<-hbl]
 ·exact .cons (.box rfl) .nil
 generalize s.data.toList=b at *;refine aB M hI hn (by rfl) (by kernel_rfl) ?_ ?_
 ·simp;show b.length<4611686018427387904;omega
 refine aG (s':=⟨[(2,none,dh (.pt 0 0 0)),(6,none,og b),(7,none,h_ (b_ b).1),(8,none,h_ ((b_ b).2.1:Int)),(9,none,h_ (b_ b).2.2)],[(0,none,0,.box 23 [.bs 16 root])]⟩) (fun a w hg=>(hg.reset (kT:=[2,6,7,8,9]) (kO:=[0]) (by rfl) (by simp)).same ?_ ?_) ?_
 ·rw[fO];exact .cons rfl (.cons rfl (.cons rfl (.cons rfl (.cons rfl .nil))))
 ·exact .cons (.box rfl) .nil
 have hle:=pR b;have hrg0:=iO b;obtain⟨m,hm⟩:∃ m,yC root b=m:=⟨_,rfl⟩;rw[hm];unfold yC at hm;generalize hg:b_ b=g at *;obtain⟨q,k,e⟩:=g;dsimp only at *;refine aN ?_;refine aB M hI hn (by rfl) (by kernel_rfl) ?_ ?_
 ·simp
 refine aH (by rfl) (fun hc=>?_) (fun hc=>?_)
 ·refine aB M hI hn (by rfl) (by kernel_rfl) ?_ ?_
  ·simp
  refine aO (fun a w hg=>⟨.inr rfl,_,?_,hg⟩);refine aC (by rfl) (by simp) (by rfl) (by rfl) ?_
  have h:e≠0:=by simpa using hc
  rw[if_pos h] at hm;rw[<-hm];rfl
 ·have h:¬e≠0:=by simpa using hc
  rw[if_neg h] at hm;refine aP ?_;change iw _ _ _ _ _;refine aB M hI hn (by rfl) (by kernel_rfl) ?_ ?_
  ·simp
   refine⟨hle.1,?_⟩
   unfold jD;rw[fM];omega
  have Vz:(rowB ((b.length:Int)-(k:Int)).toNat fun i=>ou b ((k:Int).toNat+i))=b.drop k:=by
   rw[show ((b.length:Int)-(k:Int)).toNat=b.length-k from by omega,show (k:Int).toNat=k from by omega,mO (by omega)];exact List.take_of_length_le (by rw[List.length_drop];exact Nat.le_refl _)
  have hsz:=nP (b.drop k);have hle2:=LM (b.drop k);rw[List.length_drop] at hsz hle2;refine aG (s':=⟨[(2,none,dh (.pt 0 0 0)),(6,none,og b),(7,none,h_ q),(8,none,h_ (k:Int)),(9,none,h_ (jB (b.drop k)).2.2),(10,none,pq (strOf (jB (b.drop k)).1)),(11,none,h_ ((jB (b.drop k)).2.1:Int))],[(0,none,0,.box 23 [.bs 16 root])]⟩) (fun a w hg=>(hg.reset (kT:=[2,6,7,8,9,10,11]) (kO:=[0]) (by rfl) (by simp)).same ?_ ?_) ?_
  ·rw[Vz];exact .cons rfl (.cons rfl (.cons rfl (.cons rfl (.cons rfl (.cons rfl (.cons rfl .nil))))))
  ·exact .cons (.box rfl) .nil
  generalize jB (b.drop k)=g2 at *;obtain⟨c,n,e2⟩:=g2;dsimp only at *
  have hw1:IntKind.i64.wrap ((k:Int)+(n:Int))=((k+n:Nat):Int):=by rw[IntKind.wrap_i64];omega
  have hw2:IntKind.i64.wrap (((k+n:Nat):Int)+16)=((k+n+16:Nat):Int):=by rw[IntKind.wrap_i64];omega
  refine aN ?_;refine aB M hI hn (by rfl) (by kernel_rfl) ?_ ?_
  ·simp
  refine aH (by rfl) (fun hc=>?_) (fun hc=>?_)
  ·refine aB M hI hn (by rfl) (by kernel_rfl) ?_ ?_
   ·simp
   refine aO (fun a w hg=>⟨.inr rfl,_,?_,hg⟩);refine aC (by rfl) (by simp) (by rfl) (by rfl) ?_;simp[hw1] at hc
   have h2:e2≠0\/b.length≠k+n+16:=by
    rcases hc with h3|h3
    ·exact .inl h3
    ·refine .inr (fun h4=>h3 ?_);rw[IntKind.wrap_i64];omega
   rw[if_pos h2] at hm;rw[<-hm];rfl
  ·refine aP ?_;change iw _ _ _ _ _;simp[hw1] at hc
   have h2:¬(e2≠0\/b.length≠k+n+16):=by
    rintro (h3|h3)
    ·exact h3 hc.1
    ·have h4:=hc.2;rw[IntKind.wrap_i64] at h4;omega
   rw[if_neg h2] at hm
   have bEZ:b.length=k+n+16:=by
    by_cases h5:b.length=k+n+16
    ·exact h5
    ·exact absurd (.inr h5) h2
   have hrg:iq q:=hrg0;refine aB M hI hn (by rfl) (by kernel_rfl) ?_ ?_
   ·simp;rw[hw1,bQ]
    exact⟨⟨by omega,by decide⟩,⟨by omega,by omega⟩,⟨by omega,by omega⟩,by omega,hrg,by omega⟩
   have aLV:(rowB 16 fun i=>ou b ((IntKind.i64.wrap ((k:Int)+(n:Int))).toNat+i))=b.drop (k+n):=by
    rw[hw1,Int.toNat_natCast,mO (by omega)];exact List.take_of_length_le (by rw[List.length_drop];omega)
   generalize b.drop (k+n)=t at *;refine aG (s':=⟨[(9,none,h_ (bif opened (sV root) q (strOf c) t then 0 else 8)),(12,none,pq (bif opened (sV root) q (strOf c) t then strOf (dQ (sV root) q (strOf c).data.toList) else { data:=#[] }))],[]⟩) (fun a w hg=>(hg.reset (kT:=[9,12]) (kO:=[]) (by rfl) (by simp)).same ?_ ?_) ?_
   ·rw[aLV];exact .cons rfl (.cons rfl .nil)
   ·exact .nil
   unfold ET at hm
   by_cases ht:qx (sV root) q c=t
   ·have ho:opened (sV root) q (strOf c) t=true:=by unfold opened;rw[dA,ht];simp
    rw[ho,dA];rw[if_pos ht] at hm;have hXl:=dZ (sV root) q c;generalize dQ (sV root) q c=X at *;change iw _ _ ⟨[(9,none,h_ 0),(12,none,pq (strOf X))],[]⟩ _ _;refine aB M hI hn (by rfl) (by kernel_rfl) ?_ ?_
    ·simp;rw[bQ];omega
    refine aO (fun a w hg=>⟨.inr rfl,_,?_,hg⟩);refine aC (by rfl) (by simp) (by rfl) (by rfl) ?_;rw[<-hm];show PV.lh [.one (.sl 1 (strOf X).size (ou (strOf X).data.toList)),_]=_;rw[bQ,dA];rfl
   ·have ho:opened (sV root) q (strOf c) t=false:=by unfold opened;rw[dA];simpa using ht
    rw[ho];rw[if_neg ht] at hm;change iw _ _ ⟨[(9,none,h_ 8),(12,none,pq { data:=#[] })],[]⟩ _ _;refine aB M hI hn (by rfl) (by kernel_rfl) ?_ ?_
    ·simp
     decide
    refine aO (fun a w hg=>⟨.inr rfl,_,?_,hg⟩);refine aC (by rfl) (by simp) (by rfl) (by rfl) ?_;rw[<-hm];rfl
theorem X5(x y:Nat)(t u:TypeId)(l l0 l' m m':List PC)(bl:Nat->Nat)(D:Dv):SX [⟨x,t,l,l'⟩,⟨y,u,m,m'⟩] bl D=SX [⟨x,t,l0,l'⟩,⟨y,u,m,m'⟩] bl D:=by
 funext b;simp[SX]
theorem v_.cells2{P:Program}{I:World->Prop}{f:Nat}{new:Bool}{x y:Nat}{t u:TypeId}{l l0 l' m m':List PC}{O:List Acc->Option je}{d_:List Acc->Prop}{args:List PV}{res:PV}
  (h:v_ P I f new [⟨x,t,l0,l'⟩,⟨y,u,m,m'⟩] O none d_ args res) (hl:∀ C xs,RL C l xs->RL C l0 xs):v_ P I f new [⟨x,t,l,l'⟩,⟨y,u,m,m'⟩] O none d_ args res:=by
 intro w ok0 vs bl D X0 h1 h2 h3 h4 h5 h6 h7 h8 h9 h10;rw[X5 x y t u l l0 l' m m'] at h1 h2 ⊢;refine (h w ok0 vs bl D X0 h1 h2 h3 h4 h5 h6 h7 (fun o ho=>?_) (fun o ho o' ho' hb=>?_) h10).mono ?_
 ·rcases List.mem_cons.1 ho with rfl|ho
  ·obtain⟨k1,cs,k2,k3⟩:=h8 _ List.mem_cons_self
   exact⟨k1,cs,k2,hl _ _ k3⟩
  ·exact h8 _ (List.mem_cons_of_mem _ ho)
 ·have e:∀ o:Ob,o∈[(⟨x,t,l0,l'⟩:Ob),⟨y,u,m,m'⟩]->∃ o2∈[(⟨x,t,l,l'⟩:Ob),⟨y,u,m,m'⟩],o2.x=o.x:=fun o ho=>by
   rcases List.mem_cons.1 ho with rfl|ho
   ·exact⟨_,List.mem_cons_self,rfl⟩
   ·exact⟨o,List.mem_cons_of_mem _ ho,rfl⟩
  obtain⟨o2,q1,q2⟩:=e o ho;obtain⟨o3,q3,q4⟩:=e o' ho';rw[<-q2,<-q4] at hb ⊢;exact h9 o2 q1 o3 q3 hb
 ·rintro e w' ⟨k1,k2⟩
  refine⟨k1,k2.imp (fun⟨val,k3,k4,k5,k6⟩=>⟨val,k3,k4,fun o ho=>?_,k6⟩) id⟩
  rcases List.mem_cons.1 ho with rfl|ho
  ·exact k5 ⟨x,t,l0,l'⟩ List.mem_cons_self
  ·exact k5 o (List.mem_cons_of_mem _ ho)
def TJ(L:List UInt8)(ok:Bool):List Ob:=[⟨px,74,[.sl 1 L.length (ou L)],[.sl 1 (L.drop (b_ L).2.1).length (ou (L.drop (b_ L).2.1))]⟩,⟨px+1,4,[.lit (.bool ok)],[.lit (.bool (ok&&(b_ L).2.2==0))]⟩]
theorem aLv{L:List UInt8}{k:Nat}(h:k<=L.length):PC.sl 1 ((L.length:Int)-(k:Int)).toNat (fun i=>ou L ((k:Int).toNat+i))=.sl 1 (L.drop k).length (ou (L.drop k)):=by
 rw[Int.toNat_natCast,NQ,List.length_drop];congr 1;omega
theorem JI(L:List UInt8)(ok:Bool)(hL:jD L):v_ Tryz.prog a_ 137 false (TJ L ok) (fun _=>none) none (fun _=>False) [dh (.pt px 0 0),dh (.pt (px+1) 0 0)] (h_ (b_ L).1):=by
 have M:=aAN;have hle:=pR L;refine jU Tryz.func137 rfl rfl (by rfl) (fun A hn hI=>?_);refine aB M hI hn (by rfl) (by kernel_rfl) ?_ ?_
 ·simp
 refine aB M hI hn (by rfl) (by kernel_rfl) ?_ ?_
 ·simp;exact hL
 refine aB M hI hn (by rfl) (by kernel_rfl) ?_ ?_
 ·simp
 refine aG (s':=⟨[(0,none,dh (.pt px 0 0)),(3,none,h_ (b_ L).1),(4,none,h_ ((b_ L).2.1:Int))],[(px,none,0,.box 74 [.sl 1 L.length (ou L)]),(px+1,none,0,.box 4 [.lit (.bool (ok&&(b_ L).2.2==0))])]⟩) (fun a w hg=>(hg.reset (kT:=[0,3,4]) (kO:=[px,px+1]) (by rfl) (by simp)).same ?_ ?_) ?_
 ·rw[fO];exact .cons rfl (.cons rfl (.cons rfl .nil))
 ·refine .cons (.box rfl) (.cons (.box ?_) .nil);rw[fO]
  cases ok<;>rfl
 refine aB M hI hn (by rfl) (by kernel_rfl) ?_ ?_
 ·simp;exact hle.1
 refine aB M hI hn (by rfl) (by kernel_rfl) ?_ ?_
 ·simp
 refine aO (fun a w hg=>⟨.inr rfl,_,⟨?_,fun o ho=>?_,fun p hp=>by cases hp⟩,hg⟩);rotate_left 1
 ·simp only[TJ,List.mem_cons,List.not_mem_nil,or_false] at ho;rcases ho with rfl|rfl
  ·refine⟨_,rfl,?_⟩
   rw[aLv hle.1];exact dV rfl
  ·exact⟨_,rfl,dV rfl⟩
 refine aC (by rfl) (by simp) (by rfl) (by rfl) ?_;rfl
def EZ(i:Nat):PV->Bool
 |.w (.one (.pt x v o))=>Nat.beq x (px+i)&&(Nat.beq v 0&&Nat.beq o 0)
 |_=>false
theorem aTn{i:Nat}{v:PV}(h:EZ i v=true):v=dh (.pt (px+i) 0 0):=by
 unfold EZ at h
 split at h
 ·rw[Bool.and_eq_true,Bool.and_eq_true] at h;rw[gq h.1,gq h.2.1,gq h.2.2]
 ·cases h
def SQ:Spec:=aTe fun os ys=>match os,ys with
 |[(t0,[.sl k len f]),(t1,[.lit (.bool ok)])],[p0,p1]=>
  (match Nat.beq t0 74&&(Nat.beq t1 4&&(Nat.beq k 1&&(EZ 0 p0&&EZ 1 p1))) with
  |true=>some (FX len f/\jD (rowB len f),[[.sl 1 ((rowB len f).drop (b_ (rowB len f)).2.1).length (ou ((rowB len f).drop (b_ (rowB len f)).2.1))],[.lit (.bool (ok&&(b_ (rowB len f)).2.2==0))]],h_ (b_ (rowB len f)).1)
  |false=>none)
 |_,_=>none
theorem Un:aj Tryz.prog a_ 137 SQ:=by
 refine aMl (aF Tryz.func137 (by kernel_rfl) rfl) (fun os ys p cs r hg hlen hp=>?_)
 split at hg
 ·rename_i t0 k len f t1 ok p0 p1 hos
  split at hg
  ·rename_i hb;simp only[Bool.and_eq_true] at hb;obtain⟨b0,b1,b2,q0,q1⟩:=hb;cases hg
   match os,hos with
   | [o0,o1],hos=>
    simp only[List.map_cons,List.map_nil,List.cons.injEq,Prod.mk.injEq,and_true] at hos;obtain⟨⟨h0,k0⟩,⟨h1,k1⟩⟩:=hos;have e0:=gq b0;have e1:=gq b1
    obtain rfl:=gq b2
    have:=JI (rowB len f) ok hp.2;unfold zN zN zN;rw[aTn q0,aTn q1,h0,h1,e0,e1,k0,k1];refine v_.cells2 this (fun C xs h=>?_)
    cases h with
    |cons h1 h2=>
     refine .cons ?_ h2;rw[fM];exact h1.yx (bEn hp.1)
  ·cases hg
 ·cases hg
def SN(R:C_):Spec:=bD false fun xs=>match xs with
 |[.w (.agg [.bs 16 root]),.w (.one (.lit (.string s)))]=>some (root.length=16/\s.size<=100000/\yC root s.data.toList=R,R.pv)
 |_=>none
theorem Ud(R:C_):aj Tryz.prog a_ 136 (SN R):=by
 refine aZ (aF Tryz.func136 (by kernel_rfl) rfl) (fun xs p r hg hp=>?_)
 split at hg
 ·cases hg;have:=J7 _ _ hp.1 hp.2.1;rw[hp.2.2] at this;exact this
 ·cases hg
def TY:List PC->Option lm
 |[.lit (.int .i64 k),.lit (.int .i64 l),.bs 16 t,.lit (.int .i64 n),.lit (.string p)]=>some ⟨k,l,t,n,p⟩
 |_=>none
theorem aKj{l:List PC}{r:lm}(h:TY l=some r):l=uj r:=by
 unfold TY at h
 split at h
 ·cases h;rfl
 ·cases h
structure CP(r:lm):Prop where
 kind:iq r.kind
 level:iq r.level
 ol:iq r.ol
 ot:r.ot.length=16
 payload:r.payload.size<=10000
def aZh:Spec:=bD true fun xs=>match xs with
 |[.w (.agg l),.w (.agg [.bs 16 root])]=>(match TY l with
  |some r=>some (CP r/\root.length=16,pq (iU root r))
  |none=>none)
 |_=>none
theorem bCc:aj Tryz.prog a_ 102 aZh:=by
 refine aZ (aF Tryz.func102 (by kernel_rfl) rfl) (fun xs p r hg hp=>?_)
 split at hg
 ·rename_i l root
  cases hq:TY l with
  |none=>rw[hq] at hg;cases hg
  |some q=>
   rw[hq] at hg;cases hg;rw[aKj hq];exact bBy q root hp.1.kind hp.1.level hp.1.ol hp.1.ot hp.2 hp.1.payload
 ·cases hg
def Ux(R:C_):List (Nat×Spec):=(137,SQ)::(136,SN R)::(102,aZh)::Q_
theorem V3(R:C_):∀ p∈Ux R,aj Tryz.prog a_ p.1 p.2:=by
 intro p hp;simp only[Ux,List.mem_cons] at hp;rcases hp with rfl|rfl|rfl|hp
 ·exact Un
 ·exact Ud R
 ·exact bCc
 ·exact Jw p hp
theorem aKA(R:C_):l_ Tryz.prog a_ (find (Ux R)):=⟨bV (V3 R),fC⟩
def mgU(root:List UInt8)(s:ByteArray)(e3 e4:Int)(r:lm):lm×Bool:=(r,decide (e3=0/\e4=0/\(r.kind=1\/r.kind=2)/\0<=r.level/\r.level<=16/\iU root r=s))
def mgT(root:List UInt8)(s:ByteArray)(ok1:Bool)(kd lv:Int)(p2:List UInt8):lm×Bool:=
 if ok1=false\/p2.length<16 then (Ez,false) else
  mgU root s (b_ (p2.drop 16)).2.2 (jB ((p2.drop 16).drop (b_ (p2.drop 16)).2.1)).2.2 ⟨kd,lv,p2.take 16,(b_ (p2.drop 16)).1,strOf (jB ((p2.drop 16).drop (b_ (p2.drop 16)).2.1)).1⟩
def TM(root:List UInt8)(s:ByteArray):C_->lm×Bool
 |.E8=>(Ez,false)
 |.FP=>(Ez,false)
 |.okR p=>mgT root s ((true&&(b_ p).2.2==0)&&(b_ (p.drop (b_ p).2.1)).2.2==0) (b_ p).1 (b_ (p.drop (b_ p).2.1)).1 ((p.drop (b_ p).2.1).drop (b_ (p.drop (b_ p).2.1)).2.1)
def TV(d:lm×Bool):PV:=.lh [.agg (uj d.1),.one (.lit (.bool d.2))]
theorem aMj{root b p:List UInt8}(h:yC root b=.okR p):p.length<=b.length:=by
 have h1:=nP (b.drop (b_ b).2.1);rw[List.length_drop] at h1;unfold yC at h
 split at h
 ·cases h
 split at h
 ·cases h
 unfold ET at h
 split at h
 ·cases h;rw[dZ];omega
 ·cases h
theorem bBz(root:List UInt8)(s:ByteArray)(hr:root.length=16)(hs:s.size<=5000):gU Tryz.prog a_ 99 true [.w (.agg [.bs 16 root]),pq s] (TV (TM root s (yC root s.data.toList))):=by
 obtain⟨R,hR⟩:∃ R,yC root s.data.toList=R:=⟨_,rfl⟩;rw[hR];have M:=aKA R;refine bJ Tryz.func99 rfl rfl bP (fun A hS hn hI=>?_);refine aB M hI hn (by rfl) (by kernel_rfl) ?_ ?_
 ·simp
 cases R with
 | E8=>
  refine aB M hI hn (by rfl) (by kernel_rfl) ?_ ?_
  ·simp
   exact⟨hr,by omega,hR⟩
  refine aN ?_;refine aB M hI hn (by rfl) (by kernel_rfl) ?_ ?_
  ·simp
  refine aH (by rfl) (fun hc=>?_) (fun hc=>?_)
  ·refine aB M hI hn (by rfl) (by kernel_rfl) ?_ ?_
   ·simp
   refine aO (fun a w hg=>⟨.inr rfl,_,?_,hg⟩);refine aC (by rfl) (by simp) (by rfl) (by rfl) ?_;rfl
  ·cases hc
 | FP=>
  refine aB M hI hn (by rfl) (by kernel_rfl) ?_ ?_
  ·simp
   exact⟨hr,by omega,hR⟩
  refine aN ?_;refine aB M hI hn (by rfl) (by kernel_rfl) ?_ ?_
  ·simp
  refine aH (by rfl) (fun hc=>?_) (fun hc=>?_)
  ·refine aB M hI hn (by rfl) (by kernel_rfl) ?_ ?_
   ·simp
   refine aO (fun a w hg=>⟨.inr rfl,_,?_,hg⟩);refine aC (by rfl) (by simp) (by rfl) (by rfl) ?_;rfl
  ·cases hc
 | okR p=>
  refine aB M hI hn (by rfl) (by kernel_rfl) ?_ ?_
  ·simp
   exact⟨hr,by omega,hR⟩
  refine aN ?_;refine aB M hI hn (by rfl) (by kernel_rfl) ?_ ?_
  ·simp
  refine aH (by rfl) (fun hc=>?_) (fun hc=>?_)
  ·cases hc
  ·refine aP ?_;change iw _ _ _ _ _;refine aB M hI hn (by rfl) (by kernel_rfl) ?_ ?_
   ·simp
   have hpl:=aMj hR;rw[show s.data.toList.length=s.size from Array.length_toList] at hpl;have hle1:=pR p;have hrg1:=iO p;refine aB M hI hn (by rfl) (by kernel_rfl) ?_ ?_
   ·simp;unfold jD;rw[fM];omega
   obtain⟨p2,hp2⟩:∃ p2,(p.drop (b_ p).2.1).drop (b_ (p.drop (b_ p).2.1)).2.1=p2:=⟨_,rfl⟩;obtain⟨ok1,hok1⟩:∃ ok1,((true&&(b_ p).2.2==0)&&(b_ (p.drop (b_ p).2.1)).2.2==0)=ok1:=⟨_,rfl⟩
   refine aG (s':=⟨[(1,none,pq s),(2,none,dh (.pt 0 0 0)),(4,none,dh (.pt 1 0 0)),(5,none,dh (.pt 2 0 0)),(6,none,dh (.pt 1006 0 0)),(7,none,dh (.fn (.func 137) [] [.pt 1006 0 0,.pt 2 0 0]))],
    [(0,none,0,.box 23 [.bs 16 root]),(1,none,0,.box 149 (uj ⟨(b_ p).1,(b_ (p.drop (b_ p).2.1)).1,uz,0,aS⟩)),(2,none,0,.box 4 [.lit (.bool ok1)]),(1006,none,0,.box 74 [.sl 1 p2.length (ou p2)])]⟩) (fun a w hg=>(hg.reset (kT:=[1,2,4,5,6,7]) (kO:=[0,1,2,1006]) (by rfl) (by simp)).same ?_ ?_) ?_
   ·exact .cons rfl (.cons rfl (.cons rfl (.cons rfl (.cons rfl (.cons rfl .nil)))))
   ·refine .cons (.box rfl) (.cons (.box ?_) (.cons (.box ?_) (.cons (.box ?_) .nil)))
    ·simp only[fO];rfl
    ·simp only[fO];rw[<-hok1]
    ·simp only[fO];rw[<-hp2]
   have hrg2:=iO (p.drop (b_ p).2.1)
   have bEO:p2.length<=p.length:=by rw[<-hp2,List.length_drop,List.length_drop];omega
   obtain⟨d,hd⟩:∃ d,TM root s (.okR p)=d:=⟨_,rfl⟩;rw[hd];unfold TM at hd;dsimp only at hd;rw[hp2,hok1] at hd;unfold mgT at hd;generalize (b_ p).1=kd at *;generalize (b_ (p.drop (b_ p).2.1)).1=lv at *;clear hp2 hok1 hR;refine aN ?_;refine aB M hI hn (by rfl) (by kernel_rfl) ?_ ?_
   ·simp
   refine aH (by rfl) (fun hc=>?_) (fun hc=>?_)
   ·refine aB M hI hn (by rfl) (by kernel_rfl) ?_ ?_
    ·simp
    refine aO (fun a w hg=>⟨.inr rfl,_,?_,hg⟩);refine aC (by rfl) (by simp) (by rfl) (by rfl) ?_
    have h:ok1=false\/p2.length<16:=by
     cases ok1
     ·exact .inl rfl
     ·simp at hc;exact .inr (by omega)
    rw[if_pos h] at hd;rw[<-hd];rfl
   ·refine aP ?_;change iw _ _ _ _ _
    have h:¬(ok1=false\/p2.length<16):=by
     cases ok1
     ·cases hc
     ·simp at hc;intro h;rcases h with h|h
      ·cases h
      ·omega
    have h16:16<=p2.length:=by
     rcases Nat.lt_or_ge p2.length 16 with h2|h2
     ·exact absurd (.inr h2) h
     ·exact h2
    obtain rfl:ok1=true:=by
     cases ok1
     ·exact absurd (.inl rfl) h
     ·rfl
    rw[if_neg h] at hd;refine aB M hI hn (by rfl) (by kernel_rfl) ?_ ?_
    ·simp;omega
    refine aG (s':=⟨[(1,none,pq s),(2,none,dh (.pt 0 0 0)),(4,none,dh (.pt 1 0 0)),(5,none,dh (.pt 2 0 0)),(6,none,dh (.pt 1006 0 0)),(7,none,dh (.fn (.func 137) [] [.pt 1006 0 0,.pt 2 0 0]))],
     [(0,none,0,.box 23 [.bs 16 root]),(1,none,0,.box 149 (uj ⟨kd,lv,p2.take 16,0,aS⟩)),(2,none,0,.box 4 [.lit (.bool true)]),(1006,none,0,.box 74 [.sl 1 (p2.drop 16).length (ou (p2.drop 16))])]⟩) (fun a w hg=>(hg.reset (kT:=[1,2,4,5,6,7]) (kO:=[0,1,2,1006]) (by rfl) (by simp)).same ?_ ?_) ?_
    ·exact .cons rfl (.cons rfl (.cons rfl (.cons rfl (.cons rfl (.cons rfl .nil)))))
    ·refine .cons (.box rfl) (.cons (.box ?_) (.cons (.box rfl) (.cons (.box ?_) .nil)))
     ·rw[show (rowB 16 fun i=>ou p2 (Int.toNat 0+i))=p2.take 16 from (mO (L:=p2) (k:=0) (m:=16) (by omega)).trans (by rw[List.drop_zero])];rfl
     ·exact congrArg (fun c=>[c]) (aLv h16)
    have hp3:(p2.drop 16).length<=p2.length:=by rw[List.length_drop];omega
    have htl:(p2.take 16).length=16:=by rw[List.length_take];omega
    generalize p2.drop 16=p3 at *;generalize p2.take 16=t at *;have hle3:=pR p3;have hrg3:=iO p3;refine aB M hI hn (by rfl) (by kernel_rfl) ?_ ?_
    ·simp;unfold jD;omega
    have hp4:(p3.drop (b_ p3).2.1).length<=p3.length:=by rw[List.length_drop];omega
    refine aG (s':=⟨[(1,none,pq s),(2,none,dh (.pt 0 0 0)),(4,none,dh (.pt 1 0 0)),(5,none,dh (.pt 2 0 0)),(6,none,dh (.pt 1006 0 0))],
     [(0,none,0,.box 23 [.bs 16 root]),(1,none,0,.box 149 (uj ⟨kd,lv,t,(b_ p3).1,aS⟩)),(2,none,0,.box 4 [.lit (.bool ((b_ p3).2.2==0))]),(1006,none,0,.box 74 [.sl 1 (p3.drop (b_ p3).2.1).length (ou (p3.drop (b_ p3).2.1))])]⟩) (fun a w hg=>(hg.reset (kT:=[1,2,4,5,6]) (kO:=[0,1,2,1006]) (by rfl) (by simp)).same ?_ ?_) ?_
    ·exact .cons rfl (.cons rfl (.cons rfl (.cons rfl (.cons rfl .nil))))
    ·refine .cons (.box rfl) (.cons (.box ?_) (.cons (.box ?_) (.cons (.box ?_) .nil)))
     ·simp only[fO];rfl
     ·simp only[fO];rfl
     ·simp only[fO]
    generalize p3.drop (b_ p3).2.1=p4 at *;generalize b_ p3=g3 at *;obtain⟨ol,u3,e3⟩:=g3;dsimp only at *;have bEL:=nP p4;refine aB M hI hn (by rfl) (by kernel_rfl) ?_ ?_
    ·simp;unfold jD;omega
    refine aG (s':=⟨[(1,none,pq s),(2,none,dh (.pt 0 0 0)),(4,none,dh (.pt 1 0 0)),(5,none,dh (.pt 2 0 0)),(8,none,pq (strOf (jB p4).1)),(10,none,h_ (jB p4).2.2)],
     [(0,none,0,.box 23 [.bs 16 root]),(1,none,0,.box 149 (uj ⟨kd,lv,t,ol,aS⟩)),(2,none,0,.box 4 [.lit (.bool (e3==0))])]⟩) (fun a w hg=>(hg.reset (kT:=[1,2,4,5,8,10]) (kO:=[0,1,2]) (by rfl) (by simp)).same ?_ ?_) ?_
    ·rw[fO];exact .cons rfl (.cons rfl (.cons rfl (.cons rfl (.cons rfl (.cons rfl .nil)))))
    ·exact .cons (.box rfl) (.cons (.box rfl) (.cons (.box rfl) .nil))
    generalize jB p4=g4 at *;obtain⟨pay,u4,e4⟩:=g4;dsimp only at *;refine aB M hI hn (by rfl) (by kernel_rfl) ?_ ?_
    ·simp
    refine aB M hI hn (by rfl) (by kernel_rfl) ?_ ?_
    ·simp
     exact⟨fun h1 h2 h3=>⟨⟨h1,h2⟩,h3⟩,fun _ _ _ _ _=>⟨⟨hrg1,hrg2,hrg3,htl,by show (strOf pay).size<=10000;rw[bQ];omega⟩,hr⟩⟩
    refine aB M hI hn (by rfl) (by kernel_rfl) ?_ ?_
    ·simp
    refine aO (fun a w hg=>⟨.inr rfl,_,?_,hg⟩);refine aC (by rfl) (by simp) (by rfl) (by rfl) ?_;rw[<-hd];refine congrArg (fun b=>PV.lh [.agg (uj ⟨kd,lv,t,ol,strOf pay⟩),.one (.lit (.bool b))]) ?_;unfold mgU;dsimp only;generalize iU root ⟨kd,lv,t,ol,strOf pay⟩=E
    have hE:E.toList=s.toList↔E=s:=by
     rw[ByteArray.toList_eq,ByteArray.toList_eq]
     exact⟨fun h=>ByteArray.ext (Array.ext' h),fun h=>by rw[h]⟩
    rw[Bool.eq_iff_iff];simp[and_assoc,hE]
theorem noM{I:World->Prop}:l_ Tryz.prog I (find ([]:List (Nat×Spec))):=⟨fun f sp h=>(by cases h),(by kernel_rfl)⟩
theorem LV{I:World->Prop}(b c:Int):Bg Tryz.prog I 108 (ai.DZ b c) [.w (.one .dv),h_ b,h_ c] h_:=by
 intro O l;have M:=noM (I:=I);refine jU Tryz.func108 rfl rfl rfl (fun A hn hI=>?_);refine aB M hI hn (by rfl) (by kernel_rfl) ?_ ?_
 ·simp
 refine aB M hI hn (by rfl) (by kernel_rfl) ?_ ?_
 ·exact⟨aIx (nH _) (nH _),trivial⟩
 refine aO (fun a w hg=>⟨.inr rfl,_,⟨?_,(fun o ho=>by cases ho),fun p hp=>?_⟩,hg⟩);rotate_left 1
 ·cases hp;rfl
 refine aC (by rfl) (by simp) (by rfl) (by rfl) ?_;rfl
theorem bAn{I:World->Prop}(b c:Int):Bg Tryz.prog I 110 (ai.B_ b c) [.w (.one .dv),h_ b,h_ c] (fun _=>.lh []):=by
 intro O l;have M:=noM (I:=I);refine jU Tryz.func110 rfl rfl rfl (fun A hn hI=>?_);refine aQ M hI hn (by rfl) (by kernel_rfl) ?_ ?_
 ·exact⟨aIx (nH _) (nH _),trivial⟩
 intro a w hg
 refine⟨.inl rfl,_,⟨?_,(fun o ho=>by cases ho),fun p hp=>?_⟩,hg⟩
 rotate_left 1
 ·cases hp;rfl
 refine aC (by rfl) (by simp) (by rfl) (by rfl) ?_;rfl
def MZ(p:Int->Int->ai Int):List PV->Option (Prop×ai Int×(Int->PV))
 |[.w (.one (.lit (.int .i64 b))),.w (.one (.lit (.int .i64 c)))]=>some (True,p b c,h_)
 |_=>none
def FQ(p:Int->Int->ai Unit)(q:Int->Int->Prop):List PV->Option (Prop×ai Unit×(Unit->PV))
 |[.w (.one (.lit (.int .i64 b))),.w (.one (.lit (.int .i64 c)))]=>some (q b c,p b c,fun _=>.lh [])
 |_=>none
theorem bCw{I:World->Prop}:aj Tryz.prog I 108 (kW (MZ ai.DZ)):=
 nN (aF Tryz.func108 (by kernel_rfl) rfl) (fun ys c p v h _=>by
  unfold MZ at h
  split at h
  ·cases h;exact LV _ _
  ·cases h)
theorem aWc{I:World->Prop}:aj Tryz.prog I 110 (kW (FQ ai.B_ fun _ _=>True)):=
 nN (aF Tryz.func110 (by kernel_rfl) rfl) (fun ys c p v h _=>by
  unfold FQ at h
  split at h
  ·cases h;exact bAn _ _
  ·cases h)
theorem aMo(l:List Int)(x:Int):nonzero (l++[x])=nonzero l+if x=0 then 0 else 1:=by
 unfold nonzero;rw[List.filter_append,List.length_append]
 by_cases h:x=0<;>simp[h]
theorem aGu(l:List Int):nonzero l<=l.length:=List.length_filter_le _ _
theorem aMn{l:List Int}{k:Nat}(h:k<l.length):nonzero (l.take (k+1))=nonzero (l.take k)+if l.getD k 0=0 then 0 else 1:=by
 rw[List.take_add_one,zH h,zG,zH h];exact aMo _ _
theorem aXy{k:Nat}{f g:Nat->List PC}(h1:∀ i,i<k->(f i).all (cZ false)=true)(h2:(g 0).all (cZ false)=true):∀ i,i<k+1->(qh k f g i).all (cZ false)=true:=fun i hi=>by
 unfold qh
 by_cases h:i<k
 ·rw[if_pos h];exact h1 i h
 ·obtain rfl:i=k:=by omega
  rw[if_neg h,Nat.sub_self];exact h2
def aAJ(l:List Int)(k:Nat):St:=⟨[(0,none,dh (.sl 1 l.length (Ce l))),(3,none,h_ (nonzero (l.take k))),(6,none,dh (.sl 1 l.length (Ce l))),(7,none,h_ l.length),(8,none,h_ k)],[]⟩
theorem QE{I:World->Prop}(hI0:∀ w w',Ext w w'->I w->I w')(l:List Int)(hl:l.length<=1000):gU Tryz.prog I 109 true [dh (.sl 1 l.length (Ce l))] (rq (qG l)):=by
 have M:=noM (I:=I);refine bJ Tryz.func109 rfl rfl hI0 (fun A hS hn hI=>?_);refine aB M hI hn (by rfl) (by kernel_rfl) ?_ ?_
 ·simp
 refine aB M hI hn (by rfl) (by kernel_rfl) ?_ ?_
 ·simp
 refine aN ?_;refine aB M hI hn (by rfl) (by kernel_rfl) ?_ ?_
 ·simp
 refine bG ?_;refine aG (s':=aAJ l 0) (fun a w hg=>(hg.reset (kT:=[0,3,6,7,8]) (kO:=[]) (by rfl) (by simp)).same ?_ ?_) ?_
 ·exact .cons rfl (.cons rfl (.cons rfl (.cons rfl (.cons rfl .nil))))
 ·exact .nil
 refine iL l.length (fun k s=>s=aAJ l k) 0 rfl (by omega) (fun k s hJ hk=>?_);subst hJ;refine aB M hI hn (by rfl) (by kernel_rfl) ?_ ?_
 ·simp
 refine aN ?_;refine aH (by rfl) (fun hc=>?_) (fun hc=>?_)
 ·have hk2:k<l.length:=by simpa using hc
  have hnk:=aMn hk2;have hnl:=aGu (l.take k);rw[List.length_take] at hnl;refine aP ?_;change iw _ _ _ _ _;refine aN ?_;refine bG ?_;refine aB M hI hn (by rfl) (by kernel_rfl) ?_ ?_
  ·simp;omega
  refine aB M hI hn (by rfl) (by kernel_rfl) ?_ ?_
  ·simp
  refine aH (by rfl) (fun hc=>?_) (fun hc=>?_)
  ·have hx:¬l.getD k 0=0:=by
    have h:(l.getD k 0 != 0)=true:=hc
    simpa using h
   refine aQ M hI hn (by rfl) (by kernel_rfl) ?_ ?_
   ·simp
   change iw _ _ _ _ _;refine aQ M hI hn (by rfl) (by kernel_rfl) ?_ ?_
   ·simp
   intro a w hg
   refine⟨k+1,_,by omega,by omega,rfl,(hg.reset (kT:=[0,3,6,7,8]) (kO:=[]) (by rfl) (by simp)).same ?_ ?_⟩
   ·refine .cons rfl (.cons ?_ (.cons rfl (.cons rfl (.cons (by rw[fG k (by omega)]) .nil))));rw[fG _ (by omega),hnk,if_neg hx]
   ·exact .nil
  ·have hx:l.getD k 0=0:=by
    have h:(l.getD k 0 != 0)=false:=hc
    simpa using h
   refine aP ?_;change iw _ _ _ _ _;refine aQ M hI hn (by rfl) (by kernel_rfl) ?_ ?_
   ·simp
   intro a w hg
   refine⟨k+1,_,by omega,by omega,rfl,(hg.reset (kT:=[0,3,6,7,8]) (kO:=[]) (by rfl) (by simp)).same ?_ ?_⟩
   ·refine .cons rfl (.cons ?_ (.cons rfl (.cons rfl (.cons (by rw[fG k (by omega)]) .nil))));rw[hnk,if_pos hx,Nat.add_zero]
   ·exact .nil
 ·have hkk:k=l.length:=by
   have:¬k<l.length:=by simpa using hc
   omega
  subst hkk;have hnl:=aGu l;refine gW ?_;change iw _ _ _ _ _;refine aB M hI hn (by rfl) (by kernel_rfl) ?_ ?_
  ·simp
  refine aO (fun a w hg=>⟨.inr rfl,_,?_,hg⟩);refine aC (by rfl) (by simp) (by rfl) (by rfl) ?_;refine congrArg rq ?_;rw[List.take_length];unfold qG
  have e:IntKind.i64.wrap (2*(nonzero l:Int))=2*(nonzero l:Int):=by rw[IntKind.wrap_i64];omega
  have e2:∀ x:Int,decide (x > (l.length:Int))=decide ((l.length:Int)<x):=fun x=>rfl;refine decide_eq_decide.2 ?_;show IntKind.i64.wrap (2*(nonzero l:Int)) > (l.length:Int)↔_;rw[e];omega
def V7:List PV->Option (Prop×PV)
 |[.w (.one (.sl 1 n f))]=>some (aKq n f/\n<=1000,rq (qG (Tt n f)))
 |_=>none
theorem KC{I:World->Prop}(hI0:∀ w w',Ext w w'->I w->I w'):aj Tryz.prog I 109 (bD true V7):=by
 refine aZ (aF Tryz.func109 (by kernel_rfl) rfl) (fun xs p r hg hp=>?_);unfold V7 at hg
 split at hg
 ·rename_i n f;cases hg;have h:=QE hI0 (Tt n f) (by rw[xW];exact hp.2);rw[xW] at h;intro w ok0 vs hI hV
  match vs,hV with
  |[v],⟨k1,_⟩=>exact h w ok0 [v] hI ⟨.w (.one (k1.inv.yx (Kq hp.1))),trivial⟩
 ·cases hg
def BL:List (Nat×Spec):=[(108,kW (MZ ai.DZ)),(110,kW (FQ ai.B_ fun _ _=>True)),(109,bD true V7)]
theorem Sv{I:World->Prop}(hI0:∀ w w',Ext w w'->I w->I w'):∀ p∈BL,aj Tryz.prog I p.1 p.2:=by
 intro p hp;simp only[BL,List.mem_cons,List.not_mem_nil,or_false] at hp;rcases hp with rfl|rfl|rfl
 ·exact bCw
 ·exact aWc
 ·exact KC hI0
theorem rdM{I:World->Prop}(hI0:∀ w w',Ext w w'->I w->I w'):l_ Tryz.prog I (find BL):=⟨bV (Sv hI0),fC⟩
def O0(kd b c:Int)(l:List Acc):Nat->List Acc
 |0=>l
 |k+1=>O0 kd b c l k++[⟨kd,b,3*c+k,aS⟩]
def rdV(O:List Acc->Option je)(b c:Int)(l:List Acc)(k:Nat):Int:=(ans O (O0 1 b c l (k+1))).val
def UW(O:List Acc->Option je)(b c:Int)(l:List Acc):List Int:=[rdV O b c l 0,rdV O b c l 1,rdV O b c l 2]
theorem Qk(O:List Acc->Option je)(b c:Int)(l:List Acc):go O (ai.read b c) l=(qG (UW O b c l),O0 1 b c l 3):=rfl
theorem aBl(kd b c:Int)(l:List Acc)(k:Nat):O0 kd b c l k <+: O0 kd b c l (k+1):=List.prefix_append _ _
theorem bAi(kd b c:Int)(l:List Acc):∀ k,l <+: O0 kd b c l k
 |0=>List.prefix_refl _
 |k+1=>(bAi kd b c l k).trans (aBl kd b c l k)
theorem Ie(kd b c:Int)(l:List Acc){k:Nat}(hk:k<3):O0 kd b c l (k+1) <+: O0 kd b c l 3:=by
 match k,hk with
 |0,_=>exact (aBl _ _ _ _ 1).trans (aBl _ _ _ _ 2)
 |1,_=>exact aBl _ _ _ _ 2
 |2,_=>exact List.prefix_refl _
theorem SH{c:Int}{k:Nat}(hc:0<=c/\c<=100000)(hk:k<3):IntKind.i64.wrap (IntKind.i64.wrap (3*c)+(k:Int))=3*c+k:=by
 rw[IntKind.wrap_i64,IntKind.wrap_i64];omega
def Zl(O:List Acc->Option je)(d_:List Acc->Prop)(b c:Int)(l:List Acc)(k:Nat):St:=⟨[(0,none,.w (.one .dv)),(1,none,h_ b),(2,none,h_ c),(7,none,dh (.ow 5009 0 1 0 k)),(9,none,h_ k)],
 [(dx,none,0,.dev O d_ (O0 1 b c l k)),(5009,none,0,.arr 3 1 k (Ce (UW O b c l)))]⟩
theorem Ib{I:World->Prop}(hI0:∀ w w',Ext w w'->I w->I w')(b c:Int)(hbc:0<=c/\c<=100000):Bg Tryz.prog I 83 (ai.read b c) [.w (.one .dv),h_ b,h_ c] rq:=by
 intro O l;have M:=rdM hI0
 have hbt:Tryz.prog.types[3].bytes=8:=by kernel_rfl
 have hst:Tryz.prog.types[3].size=1:=by kernel_rfl
 refine jU Tryz.func83 rfl rfl rfl (fun A hn hI=>?_);generalize hstp:(fun h=>l <+: h/\h <+: (go O (ai.read b c) l).2)=d_;refine aB M hI hn (by rfl) (by kernel_rfl) ?_ ?_
 ·simp
 refine aB M hI hn (by rfl) (by kernel_rfl) ?_ ?_
 ·simp
 refine aN ?_;refine aB M hI hn (by rfl) (by kernel_rfl) ?_ ?_
 ·simp
 refine bG ?_;refine aG (s':=Zl O d_ b c l 0) (fun a w hg=>((hg.nilRow (x:=5009) (e:=3) (n:=1) (t:=7) (by rfl) (by rfl)).reset (kT:=[0,1,2,7,9]) (kO:=[900000,5009]) (by rfl) (by simp)).same ?_ ?_) ?_
 ·exact .cons rfl (.cons rfl (.cons rfl (.cons rfl (.cons rfl .nil))))
 ·exact .cons (.dev rfl) (.cons (.arr rfl (fun i hi=>by omega)) .nil)
 refine iL 3 (fun k s=>s=Zl O d_ b c l k) 0 rfl (by omega) (fun k s hJ hk=>?_);subst hJ;refine aB M hI hn (by rfl) (by kernel_rfl) ?_ ?_
 ·simp
 refine aN ?_;refine aH (by rfl) (fun hc=>?_) (fun hc=>?_)
 ·have hk2:k<3:=by have:=of_decide_eq_true hc;omega
  have hw:=SH hbc hk2;refine aP ?_;change iw _ _ _ _ _;refine aN ?_;refine bG ?_;refine aB M hI hn (by rfl) (by kernel_rfl) ?_ ?_
  ·simp
  refine aQ M hI hn (by rfl) (by kernel_rfl) ?_ ?_
  ·simp
   refine⟨fun h h1 h2 _=>?_,by rw[hbt];omega⟩
   rw[hw] at h2;rw[<-hstp]
   exact⟨(bAi 1 b c l k).trans h1,h2.trans (Ie 1 b c l hk2)⟩
  change iw _ _ _ _ _;refine aQ M hI hn (by rfl) (by kernel_rfl) ?_ ?_
  ·simp
  intro a w hg
  refine⟨k+1,_,by omega,by omega,rfl,(hg.reset (kT:=[0,1,2,7,9]) (kO:=[900000,5009]) (by rfl) ?_).same ?_ ?_⟩
  ·simp only[All,and_true,List.append_nil,List.nil_append];exact aXy (fun i hi=>rfl) rfl
  ·exact .cons rfl (.cons rfl (.cons rfl (.cons rfl (.cons (by rw[fG k (by omega)]) .nil))))
  ·refine .cons (.dev ?_) (.cons (.arr rfl (aUp (fun i hi=>rfl) ?_)) .nil)
   ·rw[hw];rfl
   ·rw[hw]
    match k,hk2 with
    |0,_=>rfl
    |1,_=>rfl
    |2,_=>rfl
 ·have hkk:k=3:=by
   have:=of_decide_eq_false hc;omega
  subst hkk;refine gW ?_;change iw _ _ _ _ _;refine aB M hI hn (by rfl) (by kernel_rfl) ?_ ?_
  ·simp;exact fun i _=>oQ rfl
  refine aO (fun a w hg=>⟨.inr rfl,_,⟨?_,(fun o ho=>by cases ho),fun p hp=>?_⟩,hg⟩);rotate_left 1
  ·cases hp;rfl
  refine aC (by rfl) (by simp) (by rfl) (by rfl) ?_;rw[Qk];have:=aPt (UW O b c l);simp only[Nat.zero_add];exact congrArg (fun x=>rq (qG x)) this
def Zq(O:List Acc->Option je)(d_:List Acc->Prop)(b c:Int)(l:List Acc)(k:Nat):St:=⟨[(0,none,.w (.one .dv)),(1,none,h_ b),(2,none,h_ c),(7,none,h_ k)],[(dx,none,0,.dev O d_ (O0 2 b c l k))]⟩
theorem aWa{I:World->Prop}(hI0:∀ w w',Ext w w'->I w->I w')(b c:Int)(hbc:0<=c/\c<=100000):Bg Tryz.prog I 84 (ai.ru b c) [.w (.one .dv),h_ b,h_ c] (fun _=>.lh []):=by
 intro O l;have M:=rdM hI0;refine jU Tryz.func84 rfl rfl rfl (fun A hn hI=>?_);generalize hstp:(fun h=>l <+: h/\h <+: (go O (ai.ru b c) l).2)=d_;refine aB M hI hn (by rfl) (by kernel_rfl) ?_ ?_
 ·simp
 refine bG ?_;refine aG (s':=Zq O d_ b c l 0) (fun a w hg=>(hg.reset (kT:=[0,1,2,7]) (kO:=[900000]) (by rfl) (by simp)).same ?_ ?_) ?_
 ·exact .cons rfl (.cons rfl (.cons rfl (.cons rfl .nil)))
 ·exact .cons (.dev rfl) .nil
 refine iL 3 (fun k s=>s=Zq O d_ b c l k) 0 rfl (by omega) (fun k s hJ hk=>?_);subst hJ;refine aB M hI hn (by rfl) (by kernel_rfl) ?_ ?_
 ·simp
 refine aN ?_;refine aH (by rfl) (fun hc=>?_) (fun hc=>?_)
 ·have hk2:k<3:=by have:=of_decide_eq_true hc;omega
  have hw:=SH hbc hk2;refine aP ?_;change iw _ _ _ _ _;refine aN ?_;refine bG ?_;refine aB M hI hn (by rfl) (by kernel_rfl) ?_ ?_
  ·simp
  refine aQ M hI hn (by rfl) (by kernel_rfl) ?_ ?_
  ·simp;refine fun h h1 h2 _=>?_;rw[hw] at h2;rw[<-hstp]
   exact⟨(bAi 2 b c l k).trans h1,h2.trans (Ie 2 b c l hk2)⟩
  change iw _ _ _ _ _;refine aQ M hI hn (by rfl) (by kernel_rfl) ?_ ?_
  ·simp
  intro a w hg
  refine⟨k+1,_,by omega,by omega,rfl,(hg.reset (kT:=[0,1,2,7]) (kO:=[900000]) (by rfl) (by simp)).same ?_ ?_⟩
  ·exact .cons rfl (.cons rfl (.cons rfl (.cons (by rw[fG k (by omega)]) .nil)))
  ·refine .cons (.dev ?_) .nil;rw[hw];rfl
 ·have hkk:k=3:=by
   have:=of_decide_eq_false hc;omega
  subst hkk;refine gW ?_;change ZJ _ _ _;intro a w hg
  refine⟨.inl rfl,_,⟨?_,(fun o ho=>by cases ho),fun p hp=>?_⟩,hg⟩
  rotate_left 1
  ·cases hp;rfl
  refine aC (by rfl) (by simp) (by rfl) (by rfl) ?_;rfl
def WB:List PV->Option (Prop×ai Bool×(Bool->PV))
 |[.w (.one (.lit (.int .i64 b))),.w (.one (.lit (.int .i64 c)))]=>some (0<=c/\c<=100000,ai.read b c,rq)
 |_=>none
theorem bAe{I:World->Prop}(hI0:∀ w w',Ext w w'->I w->I w'):aj Tryz.prog I 83 (kW WB):=
 nN (aF Tryz.func83 (by kernel_rfl) rfl) (fun ys c p v h hc=>by
  unfold WB at h
  split at h
  ·cases h;exact Ib hI0 _ _ hc
  ·cases h)
theorem aQe{I:World->Prop}(hI0:∀ w w',Ext w w'->I w->I w'):aj Tryz.prog I 84 (kW (FQ ai.ru fun _ c=>0<=c/\c<=100000)):=
 nN (aF Tryz.func84 (by kernel_rfl) rfl) (fun ys c p v h hc=>by
  unfold FQ at h
  split at h
  ·cases h;exact aWa hI0 _ _ hc
  ·cases h)
theorem aPc{P:Program}{A:jk}{s:St}{Q:Exit->Act->World->Prop}{x y:Code}(J:St->Prop)(h:iw P A s x (Exit.then (fun a w=>∃ s',J s'/\o6 A s' a w) Q))(h2:∀ s',J s'->iw P A s' y Q):iw P A s (.seq x y) Q:=fun a w hg AO=>
 wp_seq (wp_mono (h a w hg (fun chain a w hd hp=>AO chain a w hd hp)) (fun e a' w' he=>by
  cases e<;>first|exact he|(obtain⟨s',h3,h4⟩:=he;exact h2 s' h3 a' w' h4 AO)))
def lvL:List (Nat×Spec):=(83,kW WB)::(84,kW (FQ ai.ru fun _ c=>0<=c/\c<=100000))::BL
theorem TP{I:World->Prop}(hI0:∀ w w',Ext w w'->I w->I w'):∀ p∈lvL,aj Tryz.prog I p.1 p.2:=by
 intro p hp;simp only[lvL,List.mem_cons] at hp;rcases hp with rfl|rfl|hp
 ·exact bAe hI0
 ·exact aQe hI0
 ·exact Sv hI0 p hp
theorem lvM{I:World->Prop}(hI0:∀ w w',Ext w w'->I w->I w'):l_ Tryz.prog I (find lvL):=⟨bV (TP hI0),fC⟩
def Left{α:Type}(O:List Acc->Option je)(p:ai α)(l:List Acc)(q:ai α)(k:List Acc):Prop:=l <+: k/\go O p l=go O q k
theorem Left.start{α:Type}(O:List Acc->Option je)(p:ai α)(l:List Acc):Left O p l p l:=⟨List.prefix_refl _,rfl⟩
theorem Left.step{α β:Type}{O:List Acc->Option je}{p:ai α}{l k:List Acc}{q:ai β}{f:β->ai α}(h:Left O p l (q.bind f) k):Left O p l (f (go O q k).1) (go O q k).2:=
 ⟨h.1.trans (uD O q k),h.2.trans (wS O q f k)⟩
theorem Left.d_{α β:Type}{O:List Acc->Option je}{p:ai α}{l k:List Acc}{q:ai β}{f:β->ai α}(h:Left O p l (q.bind f) k):∀ g,k <+: g->g <+: (go O q k).2->O g=none->l <+: g/\g <+: (go O p l).2:=fun g h1 h2 _=>by
 refine⟨h.1.trans h1,h2.trans ?_⟩
 rw[h.step.2];exact uD _ _ _
def VA(O:List Acc->Option je)(d_:List Acc->Prop)(b:Int)(m:Nat)(n:Nat)(lk:List Acc):St:=⟨[(0,none,.w (.one .dv)),(1,none,h_ b),(2,none,h_ m),(7,none,h_ n)],[(dx,none,0,.dev O d_ lk)]⟩
def aAP(O:List Acc->Option je)(d_:List Acc->Prop)(b:Int)(m:Nat)(n k:Nat)(lk:List Acc):St:=⟨[(0,none,.w (.one .dv)),(1,none,h_ b),(2,none,h_ m),(7,none,h_ n),(19,none,h_ n),(20,none,h_ k)],[(dx,none,0,.dev O d_ lk)]⟩
theorem aDw{I:World->Prop}(hI0:∀ w w',Ext w w'->I w->I w')(b:Int)(m:Nat)(hm:m<=1000):Bg Tryz.prog I 55 (ai.jc b m) [.w (.one .dv),h_ b,h_ m] (fun n=>h_ n):=by
 intro O l;have M:=lvM hI0;refine jU Tryz.func55 rfl rfl rfl (fun A hn hI=>?_);generalize hstp:(fun h=>l <+: h/\h <+: (go O (ai.jc b m) l).2)=d_;refine aB M hI hn (by rfl) (by kernel_rfl) ?_ ?_
 ·simp
 refine aYy ?_;refine aB M hI hn (by rfl) (by kernel_rfl) ?_ ?_
 ·simp
 refine aN ?_;refine aYz ?_;change iw _ _ _ _ _;refine aPc (fun s'=>∃ n lk,s'=VA O d_ b m n lk/\n<=m/\Left O (ai.jc b m) l ((ai.down b n 0).bind fun _=>.ret n) lk) ?_ ?_
 ·refine bG ?_;refine aG (s':=VA O d_ b m 0 l) (fun a w hg=>(hg.reset (kT:=[0,1,2,7]) (kO:=[900000]) (by rfl) (by simp)).same ?_ ?_) ?_
  ·exact .cons rfl (.cons rfl (.cons rfl (.cons rfl .nil)))
  ·exact .cons (.dev rfl) .nil
  refine iL m (fun n s=>∃ lk,s=VA O d_ b m n lk/\Left O (ai.jc b m) l ((ai.up b (m-n) n).bind fun n=>(ai.down b n 0).bind fun _=>.ret n) lk) 0 ⟨l,rfl,Left.start _ _ _⟩ (by omega) (fun n s hJ hk=>?_);obtain⟨lk,rfl,hL⟩:=hJ;refine aN ?_;refine aB M hI hn (by rfl) (by kernel_rfl) ?_ ?_
  ·simp
  refine aH (by rfl) (fun hc=>?_) (fun hc=>?_)
  ·have hn2:n<m:=by have:=of_decide_eq_true hc;omega
   have hmn:m-n=(m-(n+1))+1:=by omega
   rw[hmn,ai.up,ai.bind_assoc] at hL;refine aP ?_;change iw _ _ _ _ _;refine bG ?_;refine aN ?_;refine aB M hI hn (by rfl) (by kernel_rfl) ?_ ?_
   ·simp
    refine⟨by omega,fun h h1 h2 h3=>?_⟩
    rw[<-hstp];exact hL.d_ h h1 h2 h3
   refine aH (by rfl) (fun hc=>?_) (fun hc=>?_)
   ·have hb:(go O (ai.read b n) lk).1=false:=by
     have h:(!(go O (ai.read b n) lk).1)=true:=hc
     simpa using h
    have hL2:=hL.step;rw[hb,if_neg (by simp)] at hL2;refine gW ?_;intro a w hg
    refine⟨_,⟨n,_,rfl,by omega,hL2⟩,(hg.reset (kT:=[0,1,2,7]) (kO:=[900000]) (by rfl) (by simp)).same ?_ ?_⟩
    ·exact .cons rfl (.cons rfl (.cons rfl (.cons rfl .nil)))
    ·exact .cons (.dev rfl) .nil
   ·have hb:(go O (ai.read b n) lk).1=true:=by
     have h:(!(go O (ai.read b n) lk).1)=false:=hc
     simpa using h
    have hL2:=hL.step;rw[hb,if_pos rfl] at hL2;refine aP ?_;change iw _ _ _ _ _;refine aQ M hI hn (by rfl) (by kernel_rfl) ?_ ?_
    ·simp
    intro a w hg
    refine⟨n+1,_,by omega,by omega,⟨_,rfl,hL2⟩,(hg.reset (kT:=[0,1,2,7]) (kO:=[900000]) (by rfl) (by simp)).same ?_ ?_⟩
    ·exact .cons rfl (.cons rfl (.cons rfl (.cons (by rw[fG n (by omega)]) .nil)))
    ·exact .cons (.dev rfl) .nil
  ·have hnm:n=m:=by have:=of_decide_eq_false hc;omega
   refine gW ?_;intro a w hg
   refine⟨_,⟨n,lk,rfl,by omega,?_⟩,(hg.reset (kT:=[0,1,2,7]) (kO:=[900000]) (by rfl) (by simp)).same ?_ ?_⟩
   ·rw[hnm,Nat.sub_self] at hL;rw[hnm];exact hL
   ·exact .cons rfl (.cons rfl (.cons rfl (.cons rfl .nil)))
   ·exact .cons (.dev rfl) .nil
 ·rintro s' ⟨n,lk,rfl,hnm,hL⟩;refine aN ?_;refine aB M hI hn (by rfl) (by kernel_rfl) ?_ ?_
  ·simp
  refine bG ?_;refine aG (s':=aAP O d_ b m n 0 lk) (fun a w hg=>(hg.reset (kT:=[0,1,2,7,19,20]) (kO:=[900000]) (by rfl) (by simp)).same ?_ ?_) ?_
  ·exact .cons rfl (.cons rfl (.cons rfl (.cons rfl (.cons rfl (.cons rfl .nil)))))
  ·exact .cons (.dev rfl) .nil
  refine iL n (fun k s=>∃ lk,s=aAP O d_ b m n k lk/\Left O (ai.jc b m) l ((ai.down b (n-k) k).bind fun _=>.ret n) lk) 0 ⟨lk,rfl,hL⟩ (by omega) (fun k s hJ hk=>?_);obtain⟨lk2,rfl,hL2⟩:=hJ;refine aB M hI hn (by rfl) (by kernel_rfl) ?_ ?_
  ·simp
  refine aN ?_;refine aH (by rfl) (fun hc=>?_) (fun hc=>?_)
  ·have hk2:k<n:=by have:=of_decide_eq_true hc;omega
   have hnk:n-k=(n-(k+1))+1:=by omega
   rw[hnk,ai.down,ai.bind_assoc] at hL2;refine aP ?_;change iw _ _ _ _ _;refine aN ?_;refine bG ?_;refine aB M hI hn (by rfl) (by kernel_rfl) ?_ ?_
   ·simp
   refine aQ M hI hn (by rfl) (by kernel_rfl) ?_ ?_
   ·simp
    refine⟨by omega,fun h h1 h2 h3=>?_⟩
    rw[<-hstp];exact hL2.d_ h h1 h2 h3
   change iw _ _ _ _ _;refine aQ M hI hn (by rfl) (by kernel_rfl) ?_ ?_
   ·simp
   intro a w hg
   refine⟨k+1,_,by omega,by omega,⟨_,rfl,hL2.step⟩,(hg.reset (kT:=[0,1,2,7,19,20]) (kO:=[900000]) (by rfl) (by simp)).same ?_ ?_⟩
   ·exact .cons rfl (.cons rfl (.cons rfl (.cons rfl (.cons rfl (.cons (by rw[fG k (by omega)]) .nil)))))
   ·exact .cons (.dev rfl) .nil
  ·have hkk:k=n:=by have:=of_decide_eq_false hc;omega
   rw[hkk,Nat.sub_self] at hL2;have hE:go O (ai.jc b m) l=(n,lk2):=hL2.2;refine gW ?_;change iw _ _ _ _ _;refine aB M hI hn (by rfl) (by kernel_rfl) ?_ ?_
   ·simp
   refine aO (fun a w hg=>⟨.inr rfl,_,⟨?_,(fun o ho=>by cases ho),fun p hp=>?_⟩,hg⟩);rotate_left 1
   ·cases hp;rw[hE];rfl
   refine aC (by rfl) (by simp) (by rfl) (by rfl) ?_;rw[hE]
def Ee:List PV->Option (Prop×ai Nat×(Nat->PV))
 |[.w (.one (.lit (.int .i64 b))),.w (.one (.lit (.int .i64 m)))]=>some (0<=m/\m<=1000,ai.jc b m.toNat,fun n=>h_ n)
 |_=>none
theorem aAu{I:World->Prop}(hI0:∀ w w',Ext w w'->I w->I w'):aj Tryz.prog I 55 (kW Ee):=
 nN (aF Tryz.func55 (by kernel_rfl) rfl) (fun ys c p v h hc=>by
  unfold Ee at h
  split at h
  ·rename_i b m;cases h;obtain⟨k,rfl⟩:∃ k:Nat,m=(k:Int):=⟨m.toNat,by omega⟩;rw[Int.toNat_natCast];exact aDw hI0 b k (by omega)
  ·cases h)
def raL:List (Nat×Spec):=(55,kW Ee)::lvL
theorem Zn{I:World->Prop}(hI0:∀ w w',Ext w w'->I w->I w'):∀ p∈raL,aj Tryz.prog I p.1 p.2:=by
 intro p hp;simp only[raL,List.mem_cons] at hp;rcases hp with rfl|hp
 ·exact aAu hI0
 ·exact TP hI0 p hp
theorem raM{I:World->Prop}(hI0:∀ w w',Ext w w'->I w->I w'):l_ Tryz.prog I (find raL):=⟨bV (Zn hI0),fC⟩
def Zo(O:List Acc->Option je)(d_:List Acc->Prop)(b:Int)(t:Nat)(n:Nat)(lk:List Acc):St:=⟨[(0,none,.w (.one .dv)),(1,none,h_ b),(3,none,h_ t),(10,none,h_ n)],[(dx,none,0,.dev O d_ lk)]⟩
def raV(p:Nat×Int):PV:=.lh [.one (.lit (.int .i64 p.1)),.one (.lit (.int .i64 p.2))]
theorem aQc{I:World->Prop}(hI0:∀ w w',Ext w w'->I w->I w')(b:Int)(m t:Nat)(hm:m<=1000)(ht:t<=1000):Bg Tryz.prog I 100 (ai.mg b m t) [.w (.one .dv),h_ b,h_ m,h_ t] raV:=by
 intro O l;have M:=raM hI0;refine jU Tryz.func100 rfl rfl rfl (fun A hn hI=>?_);generalize hstp:(fun h=>l <+: h/\h <+: (go O (ai.mg b m t) l).2)=d_;have hL0:Left O (ai.mg b m t) l ((ai.jc b m).bind fun n=>ai.qm b (t-n) n) l:=Left.start _ _ _;have hn0:(go O (ai.jc b m) l).1<=m:=Tn O (aDx b m) l;have hL:=hL0.step;refine aB M hI hn (by rfl) (by kernel_rfl) ?_ ?_
 ·simp
 refine aB M hI hn (by rfl) (by kernel_rfl) ?_ ?_
 ·simp
  refine⟨by omega,fun h h1 h2 h3=>?_⟩
  rw[<-hstp];exact hL0.d_ h h1 h2 h3
 obtain⟨n0,l0,hq⟩:∃ n0 l0,go O (ai.jc b m) l=(n0,l0):=⟨_,_,rfl⟩;rw[hq] at hn0 hL;dsimp only at hn0 hL;refine aN ?_;refine bG ?_;refine aG (s':=Zo O d_ b t n0 l0) (fun a w hg=>(hg.reset (kT:=[0,1,3,10]) (kO:=[900000]) (by rfl) (by simp)).same ?_ ?_) ?_
 ·exact .cons rfl (.cons rfl (.cons rfl (.cons (by show h_ ((go O (ai.jc b m) l).1:Int)=_;rw[hq]) .nil)))
 ·exact .cons (.dev (by show (go O (ai.jc b m) l).2=_;rw[hq])) .nil
 refine iL (m+t) (fun n s=>∃ lk,s=Zo O d_ b t n lk/\Left O (ai.mg b m t) l (ai.qm b (t-n) n) lk) n0 ⟨l0,rfl,hL⟩ (by omega) (fun n s hJ hk=>?_);obtain⟨lk,rfl,hL⟩:=hJ;refine aN ?_;refine aB M hI hn (by rfl) (by kernel_rfl) ?_ ?_
 ·simp
 refine aH (by rfl) (fun hc=>?_) (fun hc=>?_)
 ·have hn2:n<t:=by have:=of_decide_eq_true hc;omega
  rw[show t-n=(t-(n+1))+1 by omega,ai.qm] at hL;have hL2:=hL.step;have hL3:=hL2.step;refine aP ?_;change iw _ _ _ _ _;refine aN ?_;refine bG ?_;refine aB M hI hn (by rfl) (by kernel_rfl) ?_ ?_
  ·simp
   refine⟨by omega,fun h h1 h2 h3=>?_⟩
   rw[<-hstp];exact hL.d_ h h1 h2 h3
  refine aB M hI hn (by rfl) (by kernel_rfl) ?_ ?_
  ·simp
   refine⟨by omega,fun h h1 h2 h3=>?_⟩
   rw[<-hstp];exact hL2.d_ h h1 h2 h3
  refine aH (by rfl) (fun hc=>?_) (fun hc=>?_)
  ·have hb:(go O (ai.read b n) (go O (ai.ru b n) lk).2).1=false:=by
    have h:(!(go O (ai.read b n) (go O (ai.ru b n) lk).2).1)=true:=hc
    simpa using h
   rw[hb,if_neg (by simp)] at hL3;have hE:=hL3.2;refine aB M hI hn (by rfl) (by kernel_rfl) ?_ ?_
   ·simp
   refine aO (fun a w hg=>⟨.inr rfl,_,⟨?_,(fun o ho=>by cases ho),fun p hp=>?_⟩,hg⟩);rotate_left 1
   ·cases hp;rw[hE];rfl
   refine aC (by rfl) (by simp) (by rfl) (by rfl) ?_;rw[hE];rfl
  ·have hb:(go O (ai.read b n) (go O (ai.ru b n) lk).2).1=true:=by
    have h:(!(go O (ai.read b n) (go O (ai.ru b n) lk).2).1)=false:=hc
    simpa using h
   rw[hb,if_pos rfl] at hL3;refine aP ?_;change iw _ _ _ _ _;refine aQ M hI hn (by rfl) (by kernel_rfl) ?_ ?_
   ·simp
   intro a w hg
   refine⟨n+1,_,by omega,by omega,⟨_,rfl,hL3⟩,(hg.reset (kT:=[0,1,3,10]) (kO:=[900000]) (by rfl) (by simp)).same ?_ ?_⟩
   ·exact .cons rfl (.cons rfl (.cons rfl (.cons (by rw[fG n (by omega)]) .nil)))
   ·exact .cons (.dev rfl) .nil
 ·have hn2:t-n=0:=by have:=of_decide_eq_false hc;omega
  rw[hn2] at hL;have hE:go O (ai.mg b m t) l=((n,0),lk):=hL.2;refine gW ?_;change iw _ _ _ _ _;refine aB M hI hn (by rfl) (by kernel_rfl) ?_ ?_
  ·simp
  refine aO (fun a w hg=>⟨.inr rfl,_,⟨?_,(fun o ho=>by cases ho),fun p hp=>?_⟩,hg⟩);rotate_left 1
  ·cases hp;rw[hE];rfl
  refine aC (by rfl) (by simp) (by rfl) (by rfl) ?_;rw[hE];rfl
def MW:List PV->Option (Prop×ai (Nat×Int)×(Nat×Int->PV))
 |[.w (.one (.lit (.int .i64 b))),.w (.one (.lit (.int .i64 m))),.w (.one (.lit (.int .i64 t)))]=>some ((0<=m/\m<=1000)/\0<=t/\t<=1000,ai.mg b m.toNat t.toNat,raV)
 |_=>none
theorem aMc{I:World->Prop}(hI0:∀ w w',Ext w w'->I w->I w'):aj Tryz.prog I 100 (kW MW):=
 nN (aF Tryz.func100 (by kernel_rfl) rfl) (fun ys c p v h hc=>by
  unfold MW at h
  split at h
  ·rename_i b m t;cases h;obtain⟨k,rfl⟩:∃ k:Nat,m=(k:Int):=⟨m.toNat,by omega⟩;obtain⟨j,rfl⟩:∃ j:Nat,t=(j:Int):=⟨t.toNat,by omega⟩;rw[Int.toNat_natCast,Int.toNat_natCast];exact aQc hI0 b k j (by omega) (by omega)
  ·cases h)
def aRk:List PV->Option (Prop×ai Dt×(Dt->PV))
 |[.w (.one (.lit (.int .i64 rec)))]=>some (iq rec,ai.load rec,EP)
 |_=>none
def aRf:List PV->Option (Prop×ai Dt×(Dt->PV))
 |[.w (.one (.lit (.int .i64 rec))),.w (.one (.lit (.string c)))]=>some (iq rec,ai.save rec c,EP)
 |_=>none
theorem KG:aj Tryz.prog a_ 98 (kV aRk):=
 nV (aF Tryz.func98 (by kernel_rfl) rfl) (fun ys c p v h hc=>by
  unfold aRk at h
  split at h
  ·cases h;exact KN _ hc
  ·cases h)
theorem KD:aj Tryz.prog a_ 101 (kV aRf):=
 nV (aF Tryz.func101 (by kernel_rfl) rfl) (fun ys c p v h hc=>by
  unfold aRf at h
  split at h
  ·cases h;exact Hr _ hc _
  ·cases h)
def Gt:Spec:=bD true fun xs=>match xs with
 |[.w (.agg [.bs 16 root]),.w (.one (.lit (.string s)))]=>some (root.length=16/\s.size<=5000,TV (TM root s (yC root s.data.toList)))
 |_=>none
theorem QI:aj Tryz.prog a_ 99 Gt:=by
 refine aZ (aF Tryz.func99 (by kernel_rfl) rfl) (fun xs p r hg hp=>?_)
 split at hg
 ·cases hg;exact bBz _ _ hp.1 hp.2
 ·cases hg
def Q9:List (Nat×Spec):=(73,aIw ny aRi)::(98,kV aRk)::(101,kV aRf)::(55,kW Ee)::(100,kW MW) ::
 (99,Gt)::(102,aZh)::(82,iM ny um aUf)::Yn
theorem Jv:∀ p∈Q9,aj Tryz.prog a_ p.1 p.2:=by
 intro p hp;simp only[Q9,List.mem_cons] at hp;rcases hp with rfl|rfl|rfl|rfl|rfl|rfl|rfl|rfl|hp
 ·exact bBm
 ·exact KG
 ·exact KD
 ·exact aAu bP
 ·exact aMc bP
 ·exact QI
 ·exact bCc
 ·exact aTl
 ·exact aJg p hp
theorem QB:l_ Tryz.prog a_ (find Q9):=⟨bV Jv,fC⟩
def OG(root:List UInt8)(s:ByteArray):lm×Bool:=TM root s (yC root s.data.toList)
def qo(m:ji):ai lm:=(ai.load 3).bind fun s=>(iC (s.err==0) s.err).bind fun _=>(iC (OG m.root s.content).2 8).bind fun _=>.ret (OG m.root s.content).1
def z_(m:ji)(r:lm):ai Unit:=(ai.save 3 (iU m.root r)).bind fun s=>(iC (s.err==0) s.err).bind fun _=>.ret ()
def kD(b:Int)(t:Nat):ai Nat:=(ai.mg b 16 t).bind fun p=>(iC (p.2==0) p.2).bind fun _=>.ret p.1
def rW(f:Nat):ai Unit:=(kD 3 (f+1)).bind fun n=>(iC ((n:Int)==((f+1:Nat):Int)) 21).bind fun _=>.ret ()
def oJ(f:Nat):ai Unit:=(iC (((f % 2:Nat):Int)==0) 21).bind fun _=>(iC (decide ((f:Int)<16)) 17).bind fun _=>.ret ()
theorem aNy(rec:Int)(b:List UInt8):(oq rec b).2.length<=2000:=by
 unfold oq
 split
 ·simp
 ·split
  ·simp
  ·show (rf b).1.length<=2000;omega
theorem aMv(rec:Int):ai.All (fun o:Dt=>o.content.size<=2000) (ai.load rec):=by
 unfold ai.load
 split
 ·exact (by decide:(0:Nat)<=2000)
 ·refine ai.All.bind (R:=fun p:(Int×List UInt8)×Nat=>p.1.2.length<=2000) ?_ (fun p hp=>?_)
  ·unfold ai.cur;refine ai.All.bind (R:=fun _=>True) (ai.All.yg _) (fun a _=>?_);refine ai.All.bind (R:=fun _=>True) (ai.All.yg _) (fun b _=>?_);show (vz (oq rec a) (oq rec b)).1.2.length<=2000;unfold vz
   split
   ·exact aNy _ _
   ·exact aNy _ _
  ·show (zS p.1).content.size<=2000;unfold zS
   split
   ·exact (by decide:(0:Nat)<=2000)
   ·show (strOf p.1.2).size<=2000;rw[bQ];exact hp
theorem Qm(m:ji)(f:Int)(hr:m.root.length=16):uM Tryz.prog a_ ny 76 um (jw m f) (qo m) [] (fun r=>.w (.agg (uj r))):=by
 intro O l hO hF;have M:=QB;have hL0:Left O (qo m) l (qo m) l:=Left.start _ _ _;have hL1:=Left.step (q:=ai.load 3) hL0;have hsz:=Tn O (aMv 3) l;generalize hstp:(fun h=>l <+: h/\h <+: (go O (qo m) l).2)=d_;refine kM Tryz.func76 rfl rfl (fun A hn hI=>?_);refine aB M hI hn (by rfl) (by kernel_rfl) ?_ ?_
 ·simp
 refine aB M hI hn (by rfl) (by kernel_rfl) ?_ ?_
 ·simp
  refine⟨⟨hO,by unfold iq;omega⟩,?_⟩
  intro h h1 h2 h3;rw[<-hstp];exact Left.d_ (q:=ai.load 3) hL0 h h1 h2 h3
 obtain⟨s,l1,hq⟩:∃ s l1,go O (ai.load 3) l=(s,l1):=⟨_,_,rfl⟩;rw[hq] at hL1 hsz;dsimp only at hL1 hsz;refine aG (s':=⟨[(0,none,dh (.pt px 0 0)),(2,none,dh (.pt 0 0 0)),(3,none,dh (.pt 1005 0 0))],[(dx,none,0,.dev O d_ l1),(px,none,0,.box um (.dv::jw m f)),(0,none,0,.box 149 (uj Ez)),(1005,none,0,.box 164 (Yv s))]⟩) (fun a w hg=>(hg.reset (kT:=[0,2,3]) (kO:=[dx,px,0,1005]) (by rfl) (by simp)).same ?_ ?_) ?_
 ·exact .cons rfl (.cons rfl (.cons rfl .nil))
 ·refine .cons (.dev ?_) (.cons (.box rfl) (.cons (.box rfl) (.cons (.box ?_) .nil)))
  ·show (go O (ai.load 3) l).2=_;rw[hq]
  ·show Yv (go O (ai.load 3) l).1=_;rw[hq]
 have hL2:=Left.step hL1;refine aB M hI hn (by rfl) (by kernel_rfl) ?_ ?_
 ·simp
  refine⟨⟨hO,hF⟩,?_⟩
  intro h h1 h2 h3;rw[<-hstp];exact Left.d_ hL1 h h1 h2 h3
 obtain⟨l2,hq2⟩:∃ l2,(go O (iC (s.err==0) s.err) l1).2=l2:=⟨_,rfl⟩;rw[hq2] at hL2;refine aG (s':=⟨[(0,none,dh (.pt px 0 0)),(2,none,dh (.pt 0 0 0)),(3,none,dh (.pt 1005 0 0))],[(dx,none,0,.dev O d_ l2),(px,none,0,.box um (.dv::jw m f)),(0,none,0,.box 149 (uj Ez)),(1005,none,0,.box 164 (Yv s))]⟩) (fun a w hg=>(hg.reset (kT:=[0,2,3]) (kO:=[dx,px,0,1005]) (by rfl) (by simp)).same ?_ ?_) ?_
 ·exact .cons rfl (.cons rfl (.cons rfl .nil))
 ·exact .cons (.dev hq2) (.cons (.box rfl) (.cons (.box rfl) (.cons (.box rfl) .nil)))
 refine aB M hI hn (by rfl) (by kernel_rfl) ?_ ?_
 ·simp
  exact⟨hr,by omega⟩
 refine aB M hI hn (by rfl) (by kernel_rfl) ?_ ?_
 ·simp
  refine⟨⟨hO,hF⟩,?_⟩
  intro h h1 h2 h3;rw[<-hstp];exact Left.d_ hL2 h h1 h2 h3
 have hL3:=Left.step hL2;refine aB M hI hn (by rfl) (by kernel_rfl) ?_ ?_
 ·simp
 refine aO (fun a w hg=>⟨.inr rfl,_,⟨?_,⟨jw m f,rfl,dV rfl⟩,?_⟩,hg⟩);rotate_left 1
 ·rw[hL3.2];rfl
 refine aC (by rfl) (by simp) (by rfl) (by rfl) ?_;rw[hL3.2];rfl
theorem PG(m:ji)(f:Int)(r:lm)(hr:m.root.length=16)(hrec:CP r):uM Tryz.prog a_ ny 79 um (jw m f) (z_ m r) [.w (.agg (uj r))] (fun _=>.lh []):=by
 intro O l hO hF;have M:=QB;have hL0:Left O (z_ m r) l (z_ m r) l:=Left.start _ _ _;have hL1:=Left.step (q:=ai.save 3 (iU m.root r)) hL0;generalize hstp:(fun h=>l <+: h/\h <+: (go O (z_ m r) l).2)=d_;refine kM Tryz.func79 rfl rfl (fun A hn hI=>?_);refine aB M hI hn (by rfl) (by kernel_rfl) ?_ ?_
 ·simp
 refine aB M hI hn (by rfl) (by kernel_rfl) ?_ ?_
 ·simp
  refine⟨⟨hrec,hr⟩,⟨hO,by unfold iq;omega⟩,?_⟩
  intro h h1 h2 h3;rw[<-hstp];exact Left.d_ (q:=ai.save 3 (iU m.root r)) hL0 h h1 h2 h3
 obtain⟨s,l1,hq⟩:∃ s l1,go O (ai.save 3 (iU m.root r)) l=(s,l1):=⟨_,_,rfl⟩;rw[hq] at hL1;dsimp only at hL1;refine aG (s':=⟨[(0,none,dh (.pt px 0 0)),(4,none,dh (.pt 1012 0 0))],[(dx,none,0,.dev O d_ l1),(px,none,0,.box um (.dv::jw m f)),(1012,none,0,.box 164 (Yv s))]⟩) (fun a w hg=>(hg.reset (kT:=[0,4]) (kO:=[dx,px,1012]) (by rfl) (by simp)).same ?_ ?_) ?_
 ·exact .cons rfl (.cons rfl .nil)
 ·refine .cons (.dev ?_) (.cons (.box rfl) (.cons (.box ?_) .nil))
  ·show (go O (ai.save 3 (iU m.root r)) l).2=_;rw[hq]
  ·show Yv (go O (ai.save 3 (iU m.root r)) l).1=_;rw[hq]
 have hL2:=Left.step hL1;refine aQ M hI hn (by rfl) (by kernel_rfl) ?_ ?_
 ·simp
  refine⟨⟨hO,hF⟩,?_⟩
  intro h h1 h2 h3;rw[<-hstp];exact Left.d_ hL1 h h1 h2 h3
 intro a w hg
 refine⟨.inl rfl,_,⟨?_,⟨jw m f,rfl,dV rfl⟩,?_⟩,hg⟩
 rotate_left 1
 ·rw[hL2.2];rfl
 refine aC (by rfl) (by simp) (by rfl) (by rfl) ?_;rfl
theorem bAl(m:ji)(f:Int)(b:Int)(t:Nat)(ht:t<=1000):uM Tryz.prog a_ ny 78 um (jw m f) (kD b t) [h_ b,h_ t] (fun n=>h_ n):=by
 intro O l hO hF;have M:=QB;have hL0:Left O (kD b t) l (kD b t) l:=Left.start _ _ _;have hL1:=Left.step (q:=ai.mg b 16 t) hL0;generalize hstp:(fun h=>l <+: h/\h <+: (go O (kD b t) l).2)=d_;refine kM Tryz.func78 rfl rfl (fun A hn hI=>?_);refine aB M hI hn (by rfl) (by kernel_rfl) ?_ ?_
 ·simp
 refine aB M hI hn (by rfl) (by kernel_rfl) ?_ ?_
 ·simp
  refine⟨by omega,?_⟩
  intro h h1 h2 h3;rw[<-hstp];exact Left.d_ (q:=ai.mg b 16 t) hL0 h h1 h2 h3
 obtain⟨q,l1,hq⟩:∃ q l1,go O (ai.mg b 16 t) l=(q,l1):=⟨_,_,rfl⟩;rw[hq] at hL1;dsimp only at hL1;refine aG (s':=⟨[(7,none,h_ q.1),(8,none,h_ q.2)],[(dx,none,0,.dev O d_ l1),(px,none,0,.box um (.dv::jw m f))]⟩) (fun a w hg=>(hg.reset (kT:=[7,8]) (kO:=[dx,px]) (by rfl) (by simp)).same ?_ ?_) ?_
 ·refine .cons ?_ (.cons ?_ .nil)
  ·show h_ (go O (ai.mg b 16 t) l).1.1=_;rw[hq]
  ·show h_ (go O (ai.mg b 16 t) l).1.2=_;rw[hq]
 ·refine .cons (.dev ?_) (.cons (.box rfl) .nil);show (go O (ai.mg b 16 t) l).2=_;rw[hq]
 have hL2:=Left.step hL1;refine aB M hI hn (by rfl) (by kernel_rfl) ?_ ?_
 ·simp
  refine⟨⟨hO,hF⟩,?_⟩
  intro h h1 h2 h3;rw[<-hstp];exact Left.d_ hL1 h h1 h2 h3
 refine aB M hI hn (by rfl) (by kernel_rfl) ?_ ?_
 ·simp
 refine aO (fun a w hg=>⟨.inr rfl,_,⟨?_,⟨jw m f,rfl,dV rfl⟩,?_⟩,hg⟩);rotate_left 1
 ·rw[hL2.2];rfl
 refine aC (by rfl) (by simp) (by rfl) (by rfl) ?_;rw[hL2.2];rfl
def aKd(l:List PC)(ys:List PV):Option (Prop×ai Nat×(Nat->PV)):=match Bv l,ys with
 |some _,[.w (.one (.lit (.int .i64 b))),.w (.one (.lit (.int .i64 t)))]=>some (0<=t/\t<=1000,kD b t.toNat,fun n=>h_ n)
 |_,_=>none
theorem Ig:aj Tryz.prog a_ 78 (iM ny um aKd):=
 jR (aF Tryz.func78 (by kernel_rfl) rfl) (fun l ys c p v h hc=>by
  unfold aKd at h
  split at h
  ·rename_i mf b t ho;cases h;rw[uK (m:=mf.1) (f:=mf.2) ho];obtain⟨k,rfl⟩:∃ k:Nat,t=(k:Int):=⟨t.toNat,by omega⟩;rw[Int.toNat_natCast];exact bAl mf.1 mf.2 b k (by omega)
  ·cases h)
def Q8:List (Nat×Spec):=(78,iM ny um aKd)::Q9
theorem Ju:∀ p∈Q8,aj Tryz.prog a_ p.1 p.2:=by
 intro p hp;simp only[Q8,List.mem_cons] at hp;rcases hp with rfl|hp
 ·exact Ig
 ·exact Jv p hp
theorem aJZ:l_ Tryz.prog a_ (find Q8):=⟨bV Ju,fC⟩
theorem Jp(m:ji)(f:Nat)(hf:f<=900):uM Tryz.prog a_ ny 77 um (jw m f) (rW f) [] (fun _=>.lh []):=by
 intro O l hO hF;have M:=aJZ;have hL0:Left O (rW f) l (rW f) l:=Left.start _ _ _;have hL1:=Left.step (q:=kD 3 (f+1)) hL0;have hL2:=Left.step hL1
 have hw:IntKind.i64.wrap ((f:Int)+1)=((f+1:Nat):Int):=by rw[IntKind.wrap_i64];omega
 generalize hstp:(fun h=>l <+: h/\h <+: (go O (rW f) l).2)=d_;obtain⟨g,hg⟩:∃ g:Int,(f:Int)=g:=⟨_,rfl⟩;rw[hg] at hw ⊢;refine kM Tryz.func77 rfl rfl (fun A hn hI=>?_);refine aQ M hI hn (by rfl) (by kernel_rfl) ?_ ?_
 ·simp;rw[hw]
  refine⟨⟨hO,hF,by omega,by omega⟩,?_,⟨hO,hF⟩,?_⟩
  ·intro h h1 h2 h3;rw[<-hstp];exact Left.d_ (q:=kD 3 (f+1)) hL0 h h1 h2 h3
  ·intro h h1 h2 h3;rw[<-hstp];exact Left.d_ hL1 h h1 h2 h3
 have hend:(go O (iC (((go O (kD 3 (IntKind.i64.wrap (g+1)).toNat) l).1:Int)==IntKind.i64.wrap (g+1)) 21) (go O (kD 3 (IntKind.i64.wrap (g+1)).toNat) l).2).2=(go O (rW f) l).2:=by
  rw[hw,hL2.2];rfl
 intro a w hg
 refine⟨.inl rfl,_,⟨?_,⟨jw m g,rfl,dV rfl⟩,?_⟩,hg⟩
 rotate_left 1
 ·exact congrArg (fun h=>some (none,0,o_.dev O d_ h)) hend
 refine aC (by rfl) (by simp) (by rfl) (by rfl) ?_;rfl
theorem Ia(m:ji)(f:Nat)(_:f<=900):uM Tryz.prog a_ ny 74 um (jw m f) (oJ f) [] (fun _=>.lh []):=by
 intro O l hO hF;have M:=QB;have hL0:Left O (oJ f) l (oJ f) l:=Left.start _ _ _;have hL1:=Left.step (q:=iC (((f % 2:Nat):Int)==0) 21) hL0;have hL2:=Left.step hL1;generalize hstp:(fun h=>l <+: h/\h <+: (go O (oJ f) l).2)=d_;refine kM Tryz.func74 rfl rfl (fun A hn hI=>?_)
 have hm:((f:Int).tmod 2==0)=(((f % 2:Nat):Int)==0):=by
  rw[show (f:Int).tmod 2=((f % 2:Nat):Int) from rfl]
 refine aB M hI hn (by rfl) (by kernel_rfl) ?_ ?_
 ·simp
  refine⟨⟨hO,hF⟩,?_⟩
  rw[hm];intro h h1 h2 h3;rw[<-hstp];exact Left.d_ (q:=iC (((f % 2:Nat):Int)==0) 21) hL0 h h1 h2 h3
 refine aQ M hI hn (by rfl) (by kernel_rfl) ?_ ?_
 ·simp
  refine⟨⟨hO,hF⟩,?_⟩
  intro h h1 h2 h3;rw[<-hstp];exact Left.d_ hL1 h h1 h2 h3
 intro a w hg
 refine⟨.inl rfl,_,⟨?_,⟨jw m f,rfl,dV rfl⟩,?_⟩,hg⟩
 rotate_left 1
 ·rw[hL2.2];rfl
 refine aC (by rfl) (by simp) (by rfl) (by rfl) ?_;rfl
end Pv
end Go.Proofs.YtndpjopifkbgiaaGreatDoor
