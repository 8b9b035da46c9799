/-
  Several texts in one file: each has its own heading below.
-/
import Derived.Test.YtndpjopifkbgiaaGreatDoorMfJ
import Derived.Test.YtndpjopifkbgiaaGreatDoorMfM
import Derived.Shelf.Spec.SlicesGrow
import Derived.Test.YtndpjopifkbgiaaGreatDoorMfC
import Derived.Test.YtndpjopifkbgiaaGreatDoorMfK
import Derived.Test.YtndpjopifkbgiaaGreatDoorProg
import Derived.Test.YtndpjopifkbgiaaGreatDoorMfA
set_option maxRecDepth 100000
set_option maxHeartbeats 4000000
namespace Go.Proofs.YtndpjopifkbgiaaGreatDoor
open Go.RowKit
namespace Pv
@[simp] theorem YZ:Tryz.prog.eqGuardType Tryz.prog.depth 27=false:=by kernel_rfl
def WV:List (Nat×Spec):=(103,Z4 100000)::(120,Z4 10000)::(81,Yz 100000)::(21,Yz 10000)::KD
theorem aDq:∀ p∈WV,aj Tryz.prog a_ p.1 p.2:=by
 intro p hp;simp only[WV,List.mem_cons] at hp;rcases hp with rfl|rfl|rfl|rfl|hp
 ·exact OW
 ·exact IJ
 ·exact PG
 ·exact IU
 ·exact bBh p hp
theorem aAE:kw Tryz.prog a_ (find WV):=⟨bV aDq,fC⟩
structure jh where
 kind:Int
 root:List UInt8
 id:List UInt8
 link:List UInt8
 payload:ByteArray
 ot:List UInt8
 ol:Int
 xt:List UInt8
 xl:Int
 bn:Int
 bc:ByteArray
 bt:List UInt8
structure l_ where
 kind:Int
 level:Int
 ot:List UInt8
 ol:Int
 payload:ByteArray
structure jg where
 session:Int
 payload:ByteArray
 ot:List UInt8
 ol:Int
 xt:List UInt8
 xl:Int
 bn:Int
 bc:ByteArray
 bt:List UInt8
 err:Int
def zl:List UInt8:=List.replicate 16 0
def Ey:l_:=⟨0,0,zl,0,aS⟩
def jr:jg:=⟨0,aS,zl,0,zl,0,0,aS,zl,0⟩
def yw(m:jh):List PC:=[.lit (.int .i64 m.kind),.bs 16 m.root,.bs 16 m.id,.bs 16 m.link,.lit (.string m.payload),.bs 16 m.ot,.lit (.int .i64 m.ol),.bs 16 m.xt,.lit (.int .i64 m.xl),.lit (.int .i64 m.bn),.lit (.string m.bc),.bs 16 m.bt]
def jo(m:jh)(f:Int):List PC:=[.lit (.int .i64 m.kind),.bs 16 m.root,.bs 16 m.id,.bs 16 m.link,.lit (.string m.payload),.bs 16 m.ot,.lit (.int .i64 m.ol),.bs 16 m.xt,.lit (.int .i64 m.xl),.lit (.int .i64 m.bn),.lit (.string m.bc),.bs 16 m.bt,.lit (.int .i64 f)]
def ug(r:l_):List PC:=[.lit (.int .i64 r.kind),.lit (.int .i64 r.level),.bs 16 r.ot,.lit (.int .i64 r.ol),.lit (.string r.payload)]
def gq(o:jg):List PC:=[.lit (.int .i64 o.session),.lit (.string o.payload),.bs 16 o.ot,.lit (.int .i64 o.ol),.bs 16 o.xt,.lit (.int .i64 o.xl),.lit (.int .i64 o.bn),.lit (.string o.bc),.bs 16 o.bt,.lit (.int .i64 o.err)]
def uh:TypeId:=122
def keyS(link t:List UInt8)(l:Int):List UInt8:=iW link [116,114,97,110,115,102,101,114] [t,d_ l]
def ZR(k:List UInt8)(n:Int)(b:List UInt8):ByteArray:=strOf (dQ k n b)
def ZQ(k:List UInt8)(n:Int)(b:List UInt8):List UInt8:=qj k n (dQ k n b)
def fQ(link:List UInt8)(r:l_):jg:={ jr with xt:=r.ot,xl:=r.ol,bn:=r.ol,bc:=ZR (keyS link r.ot r.ol) r.ol r.payload.data.toList,bt:=ZQ (keyS link r.ot r.ol) r.ol r.payload.data.toList }
theorem QC(m:jh)(f:Int)(t:List UInt8)(n:Int)(hn0:iq n)(hl:m.link.length=16)(ht:t.length=16):uO Tryz.prog a_ mi 82 uh (jo m f) (.ret (keyS m.link t n)) [.w (.agg [.bs 16 t,.lit (.int .i64 n)])] (fun k=>.w (.agg [.bs 16 k])):=by
 intro O l _ _;have M:=aAE;have hw:=aX n;refine kM Tryz.func82 rfl rfl (fun A hn hI=>?_);refine aB M hI hn (by rfl) (by kernel_rfl) ?_ ?_
 ·simp
 refine aB M hI hn (by rfl) (by kernel_rfl) ?_ ?_
 ·simp
  exact⟨hn0,by omega,(by decide),by omega,by omega⟩
 refine aK (fun a w hg=>⟨.inr rfl,_,⟨?_,⟨jo m f,rfl,dS rfl⟩,?_⟩,hg⟩);rotate_left 1
 ·rfl
 refine aC (by rfl) (by simp) (by rfl) (by rfl) ?_;simp[keyS,go]
def C_:List PC->Option (jh×Int)
 |[.lit (.int .i64 k),.bs 16 r,.bs 16 i,.bs 16 l,.lit (.string p),.bs 16 ot,.lit (.int .i64 ol),.bs 16 xt,.lit (.int .i64 xl),.lit (.int .i64 bn),.lit (.string bc),.bs 16 bt,.lit (.int .i64 f)]=>some (⟨k,r,i,l,p,ot,ol,xt,xl,bn,bc,bt⟩,f)
 |_=>none
theorem uN{l:List PC}{m:jh}{f:Int}(h:C_ l=some (m,f)):l=jo m f:=by
 unfold C_ at h
 split at h
 ·cases h;rfl
 ·cases h
def aTq(l:List PC)(ys:List PV):Option (Prop×ah (List UInt8)×(List UInt8->PV)):=match C_ l,ys with
 |some (m,_),[.w (.agg [.bs 16 t,.lit (.int .i64 n)])]=>some (iq n/\m.link.length=16/\t.length=16,.ret (keyS m.link t n),fun k=>.w (.agg [.bs 16 k]))
 |_,_=>none
theorem aSy:aj Tryz.prog a_ 82 (iI mi uh aTq):=
 jQ (aF Tryz.func82 (by kernel_rfl) rfl) (fun l ys c p v h hc=>by
  unfold aTq at h
  split at h
  ·rename_i m f t n ho;cases h;rw[uN ho];exact QC m f t n hc.1 hc.2.1 hc.2.2
  ·cases h)
def Un:List (Nat×Spec):=(82,iI mi uh aTq)::WV
theorem Us:∀ p∈Un,aj Tryz.prog a_ p.1 p.2:=by
 intro p hp;simp only[Un,List.mem_cons] at hp;rcases hp with rfl|hp
 ·exact aSy
 ·exact aDq p hp
theorem aJA:kw Tryz.prog a_ (find Un):=⟨bV Us,fC⟩
theorem aLb(m:jh)(f:Int)(r:l_)(hn0:iq r.ol)(hl:m.link.length=16)(ht:r.ot.length=16)(hp:r.payload.size<=10000):uO Tryz.prog a_ mi 80 uh (jo m f) (.ret (fQ m.link r)) [.w (.agg (ug r))] (fun o=>.w (.agg (gq o))):=by
 intro O l Dq hFO;have M:=aJA;refine kM Tryz.func80 rfl rfl (fun A hn hI=>?_);refine aB M hI hn (by rfl) (by kernel_rfl) ?_ ?_
 ·simp
 refine aB M hI hn (by rfl) (by kernel_rfl) ?_ ?_
 ·simp
  exact⟨⟨Dq,hFO,hn0,hl,ht⟩,fun h h1 h2 _=>⟨h1,h2⟩,hn0,by omega⟩
 refine aK (fun a w hg=>⟨.inr rfl,_,⟨?_,⟨jo m f,rfl,dS rfl⟩,?_⟩,hg⟩);rotate_left 1
 ·rfl
 refine aC (by rfl) (by simp) (by rfl) (by rfl) ?_;rfl
end Pv
section
open Go.RowKit Go.Shelf
def dG:Ren:=
{
 f:=fun x=>
  match x with
  |4=>177
  |n=>n,
 t:=fun x=>
  match x with
  |22=>74
  |25=>5
  |3=>3
  |4=>4
  |9=>9
  |20=>20
  |0=>0
  |n=>n,
 g:=fun x=>
  have n:=x;
  n }
theorem KO:Lays8.n4 Tryz.prog dG:=
{mixed := Eq.refl true,
  f4:=
    Exists.intro "slices.Grow[[]byte,byte]"
      ⟨of_decide_eq_true (id (Eq.refl true)),
        Eq.trans Tryz.func177
          (congrArg some
            (
             Eq.refl
             ({
              name := "slices.Grow[[]byte,byte]",origin:=(Body8.n4 dG).origin,
              targs:=(Body8.n4 dG).targs,params:=(Body8.n4 dG).params,
              resultTypes:=(Body8.n4 dG).resultTypes,nfree:=(Body8.n4 dG).nfree,
              ntmps:=(Body8.n4 dG).ntmps,results:=(Body8.n4 dG).results,
              body:=(Body8.n4 dG).body,norace:=(Body8.n4 dG).norace,
              ours:=(Body8.n4 dG).ours,file:=(Body8.n4 dG).file,
              endLine := (Body8.n4 dG).endLine, litNo := (Body8.n4 dG).litNo,
              met:=(Body8.n4 dG).met,tmpNames:=(Body8.n4 dG).tmpNames }:Go.Func)))⟩,
  t0:=Tryz.underlying0,a0:=Tryz.isAgg0,z0:=Tryz.sizeOf0,v0:=Tryz.zeroValue0,t3:=Tryz.underlying3,
  a3:=Tryz.isAgg3,z3:=Tryz.sizeOf3,v3:=Tryz.zeroValue3,t4:=Tryz.underlying4,a4:=Tryz.isAgg4,
  z4:=Tryz.sizeOf4,v4:=Tryz.zeroValue4,t9:=Tryz.underlying9,a9:=Tryz.isAgg9,z9:=Tryz.sizeOf9,
  v9:=Tryz.zeroValue9,t20:=Tryz.underlying20,a20:=Tryz.isAgg20,z20:=Tryz.sizeOf20,v20:=Tryz.zeroValue20,
  t22:=Tryz.underlying74,a22:=Tryz.isAgg74,z22:=Tryz.sizeOf74,v22:=Tryz.zeroValue74 }
theorem aKl(z:Array Value)(n:Nat):(Builtin.zeroCells z n).size=n*z.size:=by
 unfold Builtin.zeroCells;simp
theorem Kw(n:Nat)(w:World)(hn:0<n)(hb:n<=1000000000000):Calls Tryz.prog 177 #[.slice none 0 0,.int .i64 n] w fun e w'=>∃ c,e=.returned (.slice (some ⟨w.heap.size,0,none⟩) 0 c)/\w'.ownsRow w.heap.size 5 1 (.slice (some ⟨w.heap.size,0,none⟩) 0 c) 0 []/\Ext w w':=by
 obtain⟨_,⟨i0,z,hi,hz,hs,hby,hzs⟩,_,_⟩:=eH;refine (Any8.slices_Grow_grow KO i0 z hi hz (by omega) none 0 0 n [] w (Nat.le_refl _) (by omega) (by rw[hby];omega) (by omega) (by simp) (fun _=>rfl) (fun a h=>by cases h)).mono ?_;rintro e w' ⟨rfl,rfl⟩;have h1:=grownCap_ge w (0+n) 0 (dG.t 25);have h2:=grownCap_le_maxLen w (0+n) 0 (dG.t 25) (by unfold maxLen;omega)
 refine⟨_,rfl,⟨by simp,.inr ⟨w.heap.size,_,_,rfl,Nat.le_refl _,heap_alloc_new w.drew _,Nat.zero_le _,h2,?_,by simp⟩⟩,(Ext.refl w).drew.alloc _⟩
 simp only[Array.size_append,aKl,hzs];simp;rw[Nat.zero_add] at h1;omega
end
theorem aNm(ps:List (List UInt8))(k:Nat)(h:k<ps.length):(ps.take (k+1)).flatten=(ps.take k).flatten++ps[k]:=by
 rw[List.take_add_one,zH h,List.flatten_append];simp
theorem aWh(ps:List (List UInt8))(m:Nat)(h:∀ p∈ps,p.length<=m):ps.flatten.length<=ps.length*m:=by
 induction ps with
 |nil=>simp
 |cons p l ih=>
  have h1:=h p (by simp);have h2:=ih (fun q hq=>h q (by simp[hq]));rw[List.flatten_cons,List.length_append,List.length_cons,Nat.succ_mul];omega
theorem aNl(ps:List (List UInt8))(k:Nat):(ps.take k).flatten.length<=ps.flatten.length:=by
 have h:=congrArg (fun l=>l.flatten.length) (List.take_append_drop k ps);simp only[List.flatten_append,List.length_append] at h;omega
theorem UT{w:World}{B:Nat}{e:TypeId}{s:Nat}{v:Value}{n:Nat}{xs:List Value}(h:w.ownsRow B e s v n xs):∀ g,v.ownBlock=some g->B<=g:=by
 intro g hg;rcases h.2 with⟨rfl,rfl⟩|⟨g',cap,cs,rfl,hb,_⟩
 ·simp[Value.ownBlock] at hg
 ·simp[Value.ownBlock] at hg;omega
theorem aWw(pv:Value)(ps:List (List UInt8))(w:World)(hp:Parts w pv ps)(hps:ps.length<=1000)(hpl:∀ p∈ps,p.length<=1000000)(h0:0<ps.flatten.length)(hS:∀ X,Ext w X->Parts X pv ps) :
  Calls Tryz.prog 144 #[pv] w fun e w'=>∃ A c,e=.returned (.slice A ps.flatten.length c)/\w'.ownsRow w.heap.size 5 1 (.slice A ps.flatten.length c) ps.flatten.length (ps.flatten.map f_)/\Ext w w':=by
 have HP:=hide hp;have HS:=hide hS;have EM:=hide hpl;have htot:=aWh ps 1000000 hpl;have HTK:=hide (aNl ps)
 obtain⟨A1,c1,rfl⟩:∃ A c,pv=.slice A ps.length c:=by obtain⟨vs,_,⟨_,A,c,h,_⟩,_⟩:=hp;exact⟨A,c,h⟩
 obtain⟨T,hT⟩:∃ T,T=ps.flatten.length:=⟨_,rfl⟩;rw[<-hT] at h0 htot ⊢;have HT:=hide hT;clear hp hS hpl hT;have HG:=hide (fun (w:World)=>Kw T w h0 (by omega))
 go_enter Tryz.func144,Tryz.ntmps144
 go_wp2
 go_loopw [3,11] (fun b i wr=>∃ (k n:Nat),k<=ps.length/\i=.int .i64 k/\b=.int .i64 n/\n<=T/\Hid (n=(ps.take k).flatten.length)/\wr=w) (fun _ i _=>ps.length-(intOf i).toNat)
 case atStart=>exact⟨0,0,Nat.zero_le _,rfl,rfl,Nat.zero_le _,hide (by simp),rfl⟩
 case round=>
  obtain⟨k,n,hk,rfl,rfl,hn,HI,hwr⟩:=hrel;have aJJ:=hwr.symm;clear hwr;subst aJJ
  by_cases hlt:k<ps.length
  ·have hpw:Parts w (.slice A1 ps.length c1) ps:=aA HP;obtain⟨vs,q1,q2,q3⟩:=hpw;obtain⟨u,q4,q5⟩:=q3 k ps[k] (zH hlt);obtain⟨b,o,c',u',hv,_,_,hb,hu,hcc⟩:=q2.DC hlt;cases hv;rw[q4] at hu;cases hu
   obtain⟨Au,cu,rfl⟩:∃ A c,u=.slice A ps[k].length c:=by obtain⟨_,A,c,h,_⟩:=q5;exact⟨A,c,h⟩
   have hpk:=aA EM ps[k] (List.getElem_mem hlt);have HE:=hide (aNm ps k hlt);have hkt:=aA HTK (k+1);rw[aA HE,List.length_append,<-aA HI,<-aA HT] at hkt;clear q1 q2 q3 q4 q5;generalize ps[k]=p at *
   have hneg:¬((n:Int)+(p.length:Int)<0):=by omega
   go_wp2
   refine⟨⟨k+1,n+p.length,by omega,by go_num,by go_num,by omega,hide ?_,trivial⟩,by simp[intOf];omega⟩
   rw[aA HE,List.length_append,<-aA HI]
  ·obtain rfl:k=ps.length:=by omega
   obtain rfl:n=T:=by rw[aA HI,aA HT,List.take_length]
   go_wp2_with (go_at_call 177;refine (aA HG _).mono ?_;rintro e w3 ⟨c3,rfl,ho3,t_⟩;have H3:=hide (And.intro ho3 t_);clear ho3 t_)
   go_loopw [6,27] (fun b i wx=>∃ (k m:Nat) (A:Option Addr) (c:Nat),k<=ps.length/\i=.int .i64 k/\b=.slice A m c/\m<=n/\Hid (m=(ps.take k).flatten.length/\wx.ownsRow w.heap.size 5 1 (.slice A m c) m ((ps.take k).flatten.map f_)/\Ext w wx)) (fun _ i _=>ps.length-(intOf i).toNat)
   case atStart=>exact⟨0,0,_,c3,Nat.zero_le _,rfl,rfl,Nat.zero_le _,hide ⟨by simp,by simpa using (aA H3).1,(aA H3).2⟩⟩
   case round=>
    obtain⟨k,m,A,c,hk,rfl,rfl,hm,HJ⟩:=hrel
    by_cases hlt:k<ps.length
    ·have hpw:Parts wr (.slice A1 ps.length c1) ps:=aA HS wr (aA HJ).2.2;obtain⟨vs,q1,q2,q3⟩:=hpw;obtain⟨u,q4,q5⟩:=q3 k ps[k] (zH hlt);obtain⟨b,o,c',u',hv,_,_,hb,hu,hcc⟩:=q2.DC hlt;cases hv;rw[q4] at hu;cases hu
     obtain⟨Au,cu,rfl⟩:∃ A c,u=.slice A ps[k].length c:=by obtain⟨_,A,c,h,_⟩:=q5;exact⟨A,c,h⟩
     have HE:=hide (aNm ps k hlt);have hkt:=aA HTK (k+1);rw[aA HE,List.length_append,<-(aA HJ).1,<-aA HT] at hkt;have Wx:=hide q5;clear q1 q2 q3 q4 q5;generalize ps[k]=p at *
     go_wp2_with (at_builtin;refine bG rfl rfl eH rfl (aA HJ).2.1 rfl (aA Wx) (dI.u8 _) (by omega) (aA HJ).2.2.size' ?_;intro A' c4 w4 ho hc hv;have H4:=hide (And.intro ho (Onto.Cc (aA HJ).2.2 (Onto.app hc hv) (UT (aA HJ).2.1)));clear ho hc hv)
     go_roundw
     case rel=>
      refine⟨k+1,m+p.length,A',c4,by omega,by go_num,rfl,by omega,hide ⟨?_,?_,(aA H4).2⟩⟩
      ·rw[aA HE,List.length_append,<-(aA HJ).1]
      ·rw[aA HE,List.map_append];exact (aA H4).1
     case measure=>simp[intOf];omega
    ·obtain rfl:k=ps.length:=by omega
     go_wp2
     go_ret
     obtain⟨h1,h2,h3⟩:=aA HJ;rw[List.take_length] at h1 h2
     obtain rfl:m=n:=by rw[h1,aA HT]
     exact⟨A,c,rfl,h2,h3⟩
namespace Pv
def aId:Spec:=fun nm xs=>match xs with
 |[ps]=>GI ps fun pl=>.need (pl.length<=1000/\(∀ p∈pl,p.length<=1000000)/\0<pl.flatten.length) (.new nm (.arr 5 1 pl.flatten.length (o5 pl.flatten)) fun v=>.ret (dm (.ow nm v 1 0 pl.flatten.length)))
 |_=>.fail
theorem bDn:aj Tryz.prog a_ 144 aId:=by
 refine⟨aF Tryz.func144 (by kernel_rfl) rfl,fun A s a w env nm ul vs F h hI hv hk=>?_⟩
 unfold aId at hk
 split at hk
 rotate_left
 ·exact hk.elim
 rename_i ps
 match vs,hv with
 |[pv],⟨h2,_⟩=>
  obtain⟨pl,hp,hk⟩:=aCi h h2 hk;obtain⟨⟨c1,c2,c3⟩,hk⟩:=hk;refine (aWw pv pl w hp c1 c2 c3 (fun X hX=>hp.ext hX)).mono ?_;rintro e w' ⟨A1,c,rfl,ho,hE⟩;obtain⟨env',h3,h4⟩:=h.zo nm 5 1 pl.flatten.length (f:=o5 pl.flatten) hE ho (fun C i hi=>mQ C pl.flatten i hi);exact .inl ⟨_,_,_,env',rfl,hk,h3,h4⟩
def Po:List (Nat×Spec):=(144,aId)::WV
theorem Js:∀ p∈Po,aj Tryz.prog a_ p.1 p.2:=by
 intro p hp;simp only[Po,List.mem_cons] at hp;rcases hp with rfl|hp
 ·exact bDn
 ·exact aDq p hp
theorem aIZ:kw Tryz.prog a_ (find Po):=⟨bV Js,fC⟩
def tC(r:l_):List UInt8:=d_ r.kind++(d_ r.level++(r.ot++(d_ r.ol++bU r.payload.data.toList)))
def sU(root:List UInt8):List UInt8:=iW root [109,111,118,101] []
def rH(root:List UInt8)(r:l_):List UInt8:=d_ r.level++(bU (dQ (sU root) r.level (tC r))++qj (sU root) r.level (dQ (sU root) r.level (tC r)))
def jC(root:List UInt8)(r:l_):ByteArray:=strOf (rH root r)
theorem bBc(r:l_)(root:List UInt8)(h1:iq r.kind)(h2:iq r.level)(h3:iq r.ol)(h4:r.ot.length=16)(h5:root.length=16)(hp:r.payload.size<=10000):gB Tryz.prog a_ 102 true [.w (.agg (ug r)),.w (.agg [.bs 16 root])] (oq (jC root r)):=by
 have M:=aIZ;have l1:=aX r.kind;have l2:=aX r.level;have l3:=aX r.ol;have l4:=fG r.payload.data.toList;have l5:r.payload.data.toList.length=r.payload.size:=Array.length_toList;refine bI Tryz.func102 rfl rfl bQ (fun A hS hn hI=>?_);refine aB M hI hn (by rfl) (by kernel_rfl) ?_ ?_
 ·simp
 refine aB M hI hn (by rfl) (by kernel_rfl) ?_ ?_
 ·simp
  exact⟨h1,h2,h3,by omega,⟨by omega,by omega,by omega,by omega,by omega⟩,by omega⟩
 refine aB M hI hn (by rfl) (by kernel_rfl) ?_ ?_
 ·simp[↓eF]
  refine⟨⟨by omega,by decide⟩,h2,?_⟩
  show (strOf _).size<=100000;rw[bM];simp;omega
 refine aB M hI hn (by rfl) (by kernel_rfl) ?_ ?_
 ·have l6:=fG (dQ (iW root [109,111,118,101] []) r.level (tC r));rw[dU] at l6;simp[tC] at l6;simp[↓eF,bM,dO,dU,eP]
  exact⟨h2,by omega⟩
 refine aK (fun a w hg=>⟨.inr rfl,_,?_,hg⟩);refine aC (by rfl) (by simp) (by rfl) (by rfl) ?_;simp[↓eF,dO,jC,rH,tC,sU];rfl
def Pm:List (Nat×Spec):=(138,TU jB fun l=>wQ (b_ l))::(139,TU jB fun l=>EI (iZ l))::Po
theorem Jr:∀ p∈Pm,aj Tryz.prog a_ p.1 p.2:=by
 intro p hp;simp only[Pm,List.mem_cons] at hp;rcases hp with rfl|rfl|hp
 ·exact qQ (aF Tryz.func138 (by kernel_rfl) rfl) aGt
 ·exact qQ (aF Tryz.func139 (by kernel_rfl) rfl) aAu
 ·exact Js p hp
theorem Zw:kw Tryz.prog a_ (find Pm):=⟨bV Jr,fC⟩
inductive CE where
 |E8|FN|okR (p:List UInt8)
def CE.pv:CE->PV
 |.E8=>.kz [.one (.lit (.slice none 0 0)),.one (.lit (.bool false))]
 |.FN=>.kz [.one (.sl 1 0 (o5 [])),.one (.lit (.bool false))]
 |.okR p=>.kz [.one (.sl 1 p.length (o5 p)),.one (.lit (.bool true))]
def EU(root:List UInt8)(q:Int)(c t:List UInt8):CE:=if qj (sU root) q c=t then .okR (dQ (sU root) q c) else .FN
def yD(root b:List UInt8):CE:=
 if (b_ b).2.2≠0 then .E8 else
  if (iZ (b.drop (b_ b).2.1)).2.2≠0\/b.length≠(b_ b).2.1+(iZ (b.drop (b_ b).2.1)).2.1+16 then .E8 else
   EU root (b_ b).1 (iZ (b.drop (b_ b).2.1)).1 (b.drop ((b_ b).2.1+(iZ (b.drop (b_ b).2.1)).2.1))
theorem J9(root:List UInt8)(s:ByteArray)(hr:root.length=16)(hs:s.size<=100000):gB Tryz.prog a_ 136 false [.w (.agg [.bs 16 root]),oq s] (yD root s.data.toList).pv:=by
 have M:=Zw;have hbl:s.data.toList.length=s.size:=Array.length_toList;refine bI Tryz.func136 rfl rfl bQ (fun A hS hn hI=>?_);refine aB M hI hn (by rfl) (by kernel_rfl) ?_ ?_
 ·simp
 refine aB M hI hn (by rfl) (by kernel_rfl) ?_ ?_
 ·simp;omega
 refine aI (s':=⟨[(2,none,dm (.pt 0 0 0)),(6,none,o7 s.data.toList)],[(0,none,0,.box 23 [.bs 16 root])]⟩) (fun a w hg=>(hg.reset (kT:=[2,6]) (kO:=[0]) (by rfl) (by simp)).same ?_ ?_) ?_
 ·refine .cons rfl (.cons ?_ .nil);rw[<-hbl]
 ·exact .cons (.box rfl) .nil
 generalize s.data.toList=b at *;refine aB M hI hn (by rfl) (by kernel_rfl) ?_ ?_
 ·simp;show b.length<4611686018427387904;omega
 refine aI (s':=⟨[(2,none,dm (.pt 0 0 0)),(6,none,o7 b),(7,none,gy (b_ b).1),(8,none,gy ((b_ b).2.1:Int)),(9,none,gy (b_ b).2.2)],[(0,none,0,.box 23 [.bs 16 root])]⟩) (fun a w hg=>(hg.reset (kT:=[2,6,7,8,9]) (kO:=[0]) (by rfl) (by simp)).same ?_ ?_) ?_
 ·rw[eF];exact .cons rfl (.cons rfl (.cons rfl (.cons rfl (.cons rfl .nil))))
 ·exact .cons (.box rfl) .nil
 have hle:=pO b;have hrg0:=iJ b;obtain⟨m,hm⟩:∃ m,yD root b=m:=⟨_,rfl⟩;rw[hm];unfold yD at hm;generalize hg:b_ b=g at *;obtain⟨q,k,e⟩:=g;dsimp only at *;refine aJ ?_;refine aB M hI hn (by rfl) (by kernel_rfl) ?_ ?_
 ·simp
 refine aG (by rfl) (fun hc=>?_) (fun hc=>?_)
 ·refine aB M hI hn (by rfl) (by kernel_rfl) ?_ ?_
  ·simp
  refine aK (fun a w hg=>⟨.inr rfl,_,?_,hg⟩);refine aC (by rfl) (by simp) (by rfl) (by rfl) ?_
  have h:e≠0:=by simpa using hc
  rw[if_pos h] at hm;rw[<-hm];rfl
 ·have h:¬e≠0:=by simpa using hc
  rw[if_neg h] at hm;refine aO ?_;change h_ _ _ _ _ _;refine aB M hI hn (by rfl) (by kernel_rfl) ?_ ?_
  ·simp
   refine⟨hle.1,?_⟩
   unfold jB;rw[dZ];omega
  have Vp:(rowB ((b.length:Int)-(k:Int)).toNat fun i=>o5 b ((k:Int).toNat+i))=b.drop k:=by
   rw[show ((b.length:Int)-(k:Int)).toNat=b.length-k from by omega,show (k:Int).toNat=k from by omega,kV (by omega)];exact List.take_of_length_le (by rw[List.length_drop];exact Nat.le_refl _)
  have hsz:=nN (b.drop k);have hle2:=L_ (b.drop k);rw[List.length_drop] at hsz hle2;refine aI (s':=⟨[(2,none,dm (.pt 0 0 0)),(6,none,o7 b),(7,none,gy q),(8,none,gy (k:Int)),(9,none,gy (iZ (b.drop k)).2.2),(10,none,oq (strOf (iZ (b.drop k)).1)),(11,none,gy ((iZ (b.drop k)).2.1:Int))],[(0,none,0,.box 23 [.bs 16 root])]⟩) (fun a w hg=>(hg.reset (kT:=[2,6,7,8,9,10,11]) (kO:=[0]) (by rfl) (by simp)).same ?_ ?_) ?_
  ·rw[Vp];exact .cons rfl (.cons rfl (.cons rfl (.cons rfl (.cons rfl (.cons rfl (.cons rfl .nil))))))
  ·exact .cons (.box rfl) .nil
  generalize iZ (b.drop k)=g2 at *;obtain⟨c,n,e2⟩:=g2;dsimp only at *
  have hw1:IntKind.i64.wrap ((k:Int)+(n:Int))=((k+n:Nat):Int):=by rw[IntKind.wrap_i64];omega
  have hw2:IntKind.i64.wrap (((k+n:Nat):Int)+16)=((k+n+16:Nat):Int):=by rw[IntKind.wrap_i64];omega
  refine aJ ?_;refine aB M hI hn (by rfl) (by kernel_rfl) ?_ ?_
  ·simp
  refine aG (by rfl) (fun hc=>?_) (fun hc=>?_)
  ·refine aB M hI hn (by rfl) (by kernel_rfl) ?_ ?_
   ·simp
   refine aK (fun a w hg=>⟨.inr rfl,_,?_,hg⟩);refine aC (by rfl) (by simp) (by rfl) (by rfl) ?_;simp[hw1] at hc
   have h2:e2≠0\/b.length≠k+n+16:=by
    rcases hc with h3|h3
    ·exact .inl h3
    ·refine .inr (fun h4=>h3 ?_);rw[IntKind.wrap_i64];omega
   rw[if_pos h2] at hm;rw[<-hm];rfl
  ·refine aO ?_;change h_ _ _ _ _ _;simp[hw1] at hc
   have h2:¬(e2≠0\/b.length≠k+n+16):=by
    rintro (h3|h3)
    ·exact h3 hc.1
    ·have h4:=hc.2;rw[IntKind.wrap_i64] at h4;omega
   rw[if_neg h2] at hm
   have bDQ:b.length=k+n+16:=by
    by_cases h5:b.length=k+n+16
    ·exact h5
    ·exact absurd (.inr h5) h2
   have hrg:iq q:=hrg0;refine aB M hI hn (by rfl) (by kernel_rfl) ?_ ?_
   ·simp;rw[hw1,bM]
    exact⟨⟨by omega,by decide⟩,⟨by omega,by omega⟩,⟨by omega,by omega⟩,by omega,hrg,by omega⟩
   have aKS:(rowB 16 fun i=>o5 b ((IntKind.i64.wrap ((k:Int)+(n:Int))).toNat+i))=b.drop (k+n):=by
    rw[hw1,Int.toNat_natCast,kV (by omega)];exact List.take_of_length_le (by rw[List.length_drop];omega)
   generalize b.drop (k+n)=t at *;refine aI (s':=⟨[(9,none,gy (bif opened (sU root) q (strOf c) t then 0 else 8)),(12,none,oq (bif opened (sU root) q (strOf c) t then strOf (dQ (sU root) q (strOf c).data.toList) else { data:=#[] }))],[]⟩) (fun a w hg=>(hg.reset (kT:=[9,12]) (kO:=[]) (by rfl) (by simp)).same ?_ ?_) ?_
   ·rw[aKS];exact .cons rfl (.cons rfl .nil)
   ·exact .nil
   unfold EU at hm
   by_cases ht:qj (sU root) q c=t
   ·have ho:opened (sU root) q (strOf c) t=true:=by unfold opened;rw[dO,ht];simp
    rw[ho,dO];rw[if_pos ht] at hm;have hXl:=dU (sU root) q c;generalize dQ (sU root) q c=X at *;change h_ _ _ ⟨[(9,none,gy 0),(12,none,oq (strOf X))],[]⟩ _ _;refine aB M hI hn (by rfl) (by kernel_rfl) ?_ ?_
    ·simp;rw[bM];omega
    refine aK (fun a w hg=>⟨.inr rfl,_,?_,hg⟩);refine aC (by rfl) (by simp) (by rfl) (by rfl) ?_;rw[<-hm];show PV.kz [.one (.sl 1 (strOf X).size (o5 (strOf X).data.toList)),_]=_;rw[bM,dO];rfl
   ·have ho:opened (sU root) q (strOf c) t=false:=by unfold opened;rw[dO];simpa using ht
    rw[ho];rw[if_neg ht] at hm;change h_ _ _ ⟨[(9,none,gy 8),(12,none,oq { data:=#[] })],[]⟩ _ _;refine aB M hI hn (by rfl) (by kernel_rfl) ?_ ?_
    ·simp
     decide
    refine aK (fun a w hg=>⟨.inr rfl,_,?_,hg⟩);refine aC (by rfl) (by simp) (by rfl) (by rfl) ?_;rw[<-hm];rfl
theorem Wq(x y:Nat)(t u:TypeId)(l l0 l' m m':List PC)(bl:Nat->Nat)(D:Dv):SX [⟨x,t,l,l'⟩,⟨y,u,m,m'⟩] bl D=SX [⟨x,t,l0,l'⟩,⟨y,u,m,m'⟩] bl D:=by
 funext b;simp[SX]
theorem uq.cells2{P:Program}{I:World->Prop}{f:Nat}{new:Bool}{x y:Nat}{t u:TypeId}{l l0 l' m m':List PC}{O:List Acc->Option jc}{dh:List Acc->Prop}{args:List PV}{res:PV}
  (h:uq P I f new [⟨x,t,l0,l'⟩,⟨y,u,m,m'⟩] O none dh args res) (hl:∀ C xs,RL C l xs->RL C l0 xs):uq P I f new [⟨x,t,l,l'⟩,⟨y,u,m,m'⟩] O none dh args res:=by
 intro w ok0 vs bl D X0 h1 h2 h3 h4 h5 h6 h7 h8 h9 h10;rw[Wq x y t u l l0 l' m m'] at h1 h2 ⊢;refine (h w ok0 vs bl D X0 h1 h2 h3 h4 h5 h6 h7 (fun o ho=>?_) (fun o ho o' ho' hb=>?_) h10).mono ?_
 ·rcases List.mem_cons.1 ho with rfl|ho
  ·obtain⟨k1,cs,k2,k3⟩:=h8 _ List.mem_cons_self
   exact⟨k1,cs,k2,hl _ _ k3⟩
  ·exact h8 _ (List.mem_cons_of_mem _ ho)
 ·have e:∀ o:Ob,o∈[(⟨x,t,l0,l'⟩:Ob),⟨y,u,m,m'⟩]->∃ o2∈[(⟨x,t,l,l'⟩:Ob),⟨y,u,m,m'⟩],o2.x=o.x:=fun o ho=>by
   rcases List.mem_cons.1 ho with rfl|ho
   ·exact⟨_,List.mem_cons_self,rfl⟩
   ·exact⟨o,List.mem_cons_of_mem _ ho,rfl⟩
  obtain⟨o2,q1,q2⟩:=e o ho;obtain⟨o3,q3,q4⟩:=e o' ho';rw[<-q2,<-q4] at hb ⊢;exact h9 o2 q1 o3 q3 hb
 ·rintro e w' ⟨k1,k2⟩
  refine⟨k1,k2.imp (fun⟨val,k3,k4,k5,k6⟩=>⟨val,k3,k4,fun o ho=>?_,k6⟩) id⟩
  rcases List.mem_cons.1 ho with rfl|ho
  ·exact k5 ⟨x,t,l0,l'⟩ List.mem_cons_self
  ·exact k5 o (List.mem_cons_of_mem _ ho)
def T_(L:List UInt8)(ok:Bool):List Ob:=[⟨px,74,[.sl 1 L.length (o5 L)],[.sl 1 (L.drop (b_ L).2.1).length (o5 (L.drop (b_ L).2.1))]⟩,⟨px+1,4,[.lit (.bool ok)],[.lit (.bool (ok&&(b_ L).2.2==0))]⟩]
theorem aLq{L:List UInt8}{k:Nat}(h:k<=L.length):PC.sl 1 ((L.length:Int)-(k:Int)).toNat (fun i=>o5 L ((k:Int).toNat+i))=.sl 1 (L.drop k).length (o5 (L.drop k)):=by
 rw[Int.toNat_natCast,NE,List.length_drop];congr 1;omega
theorem JI(L:List UInt8)(ok:Bool)(hL:jB L):uq Tryz.prog a_ 137 false (T_ L ok) (fun _=>none) none (fun _=>False) [dm (.pt px 0 0),dm (.pt (px+1) 0 0)] (gy (b_ L).1):=by
 have M:=Zw;have hle:=pO L;refine jT Tryz.func137 rfl rfl (by rfl) (fun A hn hI=>?_);refine aB M hI hn (by rfl) (by kernel_rfl) ?_ ?_
 ·simp
 refine aB M hI hn (by rfl) (by kernel_rfl) ?_ ?_
 ·simp;exact hL
 refine aB M hI hn (by rfl) (by kernel_rfl) ?_ ?_
 ·simp
 refine aI (s':=⟨[(0,none,dm (.pt px 0 0)),(3,none,gy (b_ L).1),(4,none,gy ((b_ L).2.1:Int))],[(px,none,0,.box 74 [.sl 1 L.length (o5 L)]),(px+1,none,0,.box 4 [.lit (.bool (ok&&(b_ L).2.2==0))])]⟩) (fun a w hg=>(hg.reset (kT:=[0,3,4]) (kO:=[px,px+1]) (by rfl) (by simp)).same ?_ ?_) ?_
 ·rw[eF];exact .cons rfl (.cons rfl (.cons rfl .nil))
 ·refine .cons (.box rfl) (.cons (.box ?_) .nil);rw[eF]
  cases ok<;>rfl
 refine aB M hI hn (by rfl) (by kernel_rfl) ?_ ?_
 ·simp;exact hle.1
 refine aB M hI hn (by rfl) (by kernel_rfl) ?_ ?_
 ·simp
 refine aK (fun a w hg=>⟨.inr rfl,_,⟨?_,fun o ho=>?_,fun p hp=>by cases hp⟩,hg⟩);rotate_left 1
 ·simp only[T_,List.mem_cons,List.not_mem_nil,or_false] at ho;rcases ho with rfl|rfl
  ·refine⟨_,rfl,?_⟩
   rw[aLq hle.1];exact dS rfl
  ·exact⟨_,rfl,dS rfl⟩
 refine aC (by rfl) (by simp) (by rfl) (by rfl) ?_;rfl
def Ea(i:Nat):PV->Bool
 |.w (.one (.pt x v o))=>Nat.beq x (px+i)&&(Nat.beq v 0&&Nat.beq o 0)
 |_=>false
theorem aTa{i:Nat}{v:PV}(h:Ea i v=true):v=dm (.pt (px+i) 0 0):=by
 unfold Ea at h
 split at h
 ·rw[Bool.and_eq_true,Bool.and_eq_true] at h;rw[gm h.1,gm h.2.1,gm h.2.2]
 ·cases h
def SB:Spec:=aSs fun os ys=>match os,ys with
 |[(t0,[.sl k len f]),(t1,[.lit (.bool ok)])],[p0,p1]=>
  (match Nat.beq t0 74&&(Nat.beq t1 4&&(Nat.beq k 1&&(Ea 0 p0&&Ea 1 p1))) with
  |true=>some (FV len f/\jB (rowB len f),[[.sl 1 ((rowB len f).drop (b_ (rowB len f)).2.1).length (o5 ((rowB len f).drop (b_ (rowB len f)).2.1))],[.lit (.bool (ok&&(b_ (rowB len f)).2.2==0))]],gy (b_ (rowB len f)).1)
  |false=>none)
 |_,_=>none
theorem Uf:aj Tryz.prog a_ 137 SB:=by
 refine aMg (aF Tryz.func137 (by kernel_rfl) rfl) (fun os ys p cs r hg hlen hp=>?_)
 split at hg
 ·rename_i t0 k len f t1 ok p0 p1 hos
  split at hg
  ·rename_i hb;simp only[Bool.and_eq_true] at hb;obtain⟨b0,b1,b2,q0,q1⟩:=hb;cases hg
   match os,hos with
   | [o0,o1],hos=>
    simp only[List.map_cons,List.map_nil,List.cons.injEq,Prod.mk.injEq,and_true] at hos;obtain⟨⟨h0,k0⟩,⟨h1,k1⟩⟩:=hos;have e0:=gm b0;have e1:=gm b1
    obtain rfl:=gm b2
    have:=JI (rowB len f) ok hp.2;unfold zS zS zS;rw[aTa q0,aTa q1,h0,h1,e0,e1,k0,k1];refine uq.cells2 this (fun C xs h=>?_)
    cases h with
    |cons h1 h2=>
     refine .cons ?_ h2;rw[dZ];exact h1.zf (bDv hp.1)
  ·cases hg
 ·cases hg
def SA(R:CE):Spec:=aZ false fun xs=>match xs with
 |[.w (.agg [.bs 16 root]),.w (.one (.lit (.string s)))]=>some (root.length=16/\s.size<=100000/\yD root s.data.toList=R,R.pv)
 |_=>none
theorem UV(R:CE):aj Tryz.prog a_ 136 (SA R):=by
 refine aY (aF Tryz.func136 (by kernel_rfl) rfl) (fun xs p r hg hp=>?_)
 split at hg
 ·cases hg;have:=J9 _ _ hp.1 hp.2.1;rw[hp.2.2] at this;exact this
 ·cases hg
def TP:List PC->Option l_
 |[.lit (.int .i64 k),.lit (.int .i64 l),.bs 16 t,.lit (.int .i64 n),.lit (.string p)]=>some ⟨k,l,t,n,p⟩
 |_=>none
theorem aKc{l:List PC}{r:l_}(h:TP l=some r):l=ug r:=by
 unfold TP at h
 split at h
 ·cases h;rfl
 ·cases h
structure CS(r:l_):Prop where
 kind:iq r.kind
 level:iq r.level
 ol:iq r.ol
 ot:r.ot.length=16
 payload:r.payload.size<=10000
def aYk:Spec:=aZ true fun xs=>match xs with
 |[.w (.agg l),.w (.agg [.bs 16 root])]=>(match TP l with
  |some r=>some (CS r/\root.length=16,oq (jC root r))
  |none=>none)
 |_=>none
theorem bBg:aj Tryz.prog a_ 102 aYk:=by
 refine aY (aF Tryz.func102 (by kernel_rfl) rfl) (fun xs p r hg hp=>?_)
 split at hg
 ·rename_i l root
  cases hq:TP l with
  |none=>rw[hq] at hg;cases hg
  |some q=>
   rw[hq] at hg;cases hg;rw[aKc hq];exact bBc q root hp.1.kind hp.1.level hp.1.ol hp.1.ot hp.2 hp.1.payload
 ·cases hg
def Um(R:CE):List (Nat×Spec):=(137,SB)::(136,SA R)::(102,aYk)::Pm
theorem Ur(R:CE):∀ p∈Um R,aj Tryz.prog a_ p.1 p.2:=by
 intro p hp;simp only[Um,List.mem_cons] at hp;rcases hp with rfl|rfl|rfl|hp
 ·exact Uf
 ·exact UV R
 ·exact bBg
 ·exact Jr p hp
theorem aIY(R:CE):kw Tryz.prog a_ (find (Um R)):=⟨bV (Ur R),fC⟩
def Zt(root:List UInt8)(s:ByteArray)(e3 e4:Int)(r:l_):l_×Bool:=(r,decide (e3=0/\e4=0/\(r.kind=1\/r.kind=2)/\0<=r.level/\r.level<=16/\jC root r=s))
def Zu(root:List UInt8)(s:ByteArray)(ok1:Bool)(kd lv:Int)(p2:List UInt8):l_×Bool:=
 if ok1=false\/p2.length<16 then (Ey,false) else
  Zt root s (b_ (p2.drop 16)).2.2 (iZ ((p2.drop 16).drop (b_ (p2.drop 16)).2.1)).2.2 ⟨kd,lv,p2.take 16,(b_ (p2.drop 16)).1,strOf (iZ ((p2.drop 16).drop (b_ (p2.drop 16)).2.1)).1⟩
def TD(root:List UInt8)(s:ByteArray):CE->l_×Bool
 |.E8=>(Ey,false)
 |.FN=>(Ey,false)
 |.okR p=>Zu root s ((true&&(b_ p).2.2==0)&&(b_ (p.drop (b_ p).2.1)).2.2==0) (b_ p).1 (b_ (p.drop (b_ p).2.1)).1 ((p.drop (b_ p).2.1).drop (b_ (p.drop (b_ p).2.1)).2.1)
def TM(d:l_×Bool):PV:=.kz [.agg (ug d.1),.one (.lit (.bool d.2))]
theorem aMf{root b p:List UInt8}(h:yD root b=.okR p):p.length<=b.length:=by
 have h1:=nN (b.drop (b_ b).2.1);rw[List.length_drop] at h1;unfold yD at h
 split at h
 ·cases h
 split at h
 ·cases h
 unfold EU at h
 split at h
 ·cases h;rw[dU];omega
 ·cases h
theorem bBd(root:List UInt8)(s:ByteArray)(hr:root.length=16)(hs:s.size<=5000):gB Tryz.prog a_ 99 true [.w (.agg [.bs 16 root]),oq s] (TM (TD root s (yD root s.data.toList))):=by
 obtain⟨R,hR⟩:∃ R,yD root s.data.toList=R:=⟨_,rfl⟩;rw[hR];have M:=aIY R;refine bI Tryz.func99 rfl rfl bQ (fun A hS hn hI=>?_);refine aB M hI hn (by rfl) (by kernel_rfl) ?_ ?_
 ·simp
 cases R with
 | E8=>
  refine aB M hI hn (by rfl) (by kernel_rfl) ?_ ?_
  ·simp
   exact⟨hr,by omega,hR⟩
  refine aJ ?_;refine aB M hI hn (by rfl) (by kernel_rfl) ?_ ?_
  ·simp
  refine aG (by rfl) (fun hc=>?_) (fun hc=>?_)
  ·refine aB M hI hn (by rfl) (by kernel_rfl) ?_ ?_
   ·simp
   refine aK (fun a w hg=>⟨.inr rfl,_,?_,hg⟩);refine aC (by rfl) (by simp) (by rfl) (by rfl) ?_;rfl
  ·cases hc
 | FN=>
  refine aB M hI hn (by rfl) (by kernel_rfl) ?_ ?_
  ·simp
   exact⟨hr,by omega,hR⟩
  refine aJ ?_;refine aB M hI hn (by rfl) (by kernel_rfl) ?_ ?_
  ·simp
  refine aG (by rfl) (fun hc=>?_) (fun hc=>?_)
  ·refine aB M hI hn (by rfl) (by kernel_rfl) ?_ ?_
   ·simp
   refine aK (fun a w hg=>⟨.inr rfl,_,?_,hg⟩);refine aC (by rfl) (by simp) (by rfl) (by rfl) ?_;rfl
  ·cases hc
 | okR p=>
  refine aB M hI hn (by rfl) (by kernel_rfl) ?_ ?_
  ·simp
   exact⟨hr,by omega,hR⟩
  refine aJ ?_;refine aB M hI hn (by rfl) (by kernel_rfl) ?_ ?_
  ·simp
  refine aG (by rfl) (fun hc=>?_) (fun hc=>?_)
  ·cases hc
  ·refine aO ?_;change h_ _ _ _ _ _;refine aB M hI hn (by rfl) (by kernel_rfl) ?_ ?_
   ·simp
   have hpl:=aMf hR;rw[show s.data.toList.length=s.size from Array.length_toList] at hpl;have hle1:=pO p;have hrg1:=iJ p;refine aB M hI hn (by rfl) (by kernel_rfl) ?_ ?_
   ·simp;unfold jB;rw[dZ];omega
   obtain⟨p2,hp2⟩:∃ p2,(p.drop (b_ p).2.1).drop (b_ (p.drop (b_ p).2.1)).2.1=p2:=⟨_,rfl⟩;obtain⟨ok1,hok1⟩:∃ ok1,((true&&(b_ p).2.2==0)&&(b_ (p.drop (b_ p).2.1)).2.2==0)=ok1:=⟨_,rfl⟩
   refine aI (s':=⟨[(1,none,oq s),(2,none,dm (.pt 0 0 0)),(4,none,dm (.pt 1 0 0)),(5,none,dm (.pt 2 0 0)),(6,none,dm (.pt 1006 0 0)),(7,none,dm (.fn (.func 137) [] [.pt 1006 0 0,.pt 2 0 0]))],
    [(0,none,0,.box 23 [.bs 16 root]),(1,none,0,.box 149 (ug ⟨(b_ p).1,(b_ (p.drop (b_ p).2.1)).1,zl,0,aS⟩)),(2,none,0,.box 4 [.lit (.bool ok1)]),(1006,none,0,.box 74 [.sl 1 p2.length (o5 p2)])]⟩) (fun a w hg=>(hg.reset (kT:=[1,2,4,5,6,7]) (kO:=[0,1,2,1006]) (by rfl) (by simp)).same ?_ ?_) ?_
   ·exact .cons rfl (.cons rfl (.cons rfl (.cons rfl (.cons rfl (.cons rfl .nil)))))
   ·refine .cons (.box rfl) (.cons (.box ?_) (.cons (.box ?_) (.cons (.box ?_) .nil)))
    ·simp only[eF];rfl
    ·simp only[eF];rw[<-hok1]
    ·simp only[eF];rw[<-hp2]
   have hrg2:=iJ (p.drop (b_ p).2.1)
   have bDF:p2.length<=p.length:=by rw[<-hp2,List.length_drop,List.length_drop];omega
   obtain⟨d,hd⟩:∃ d,TD root s (.okR p)=d:=⟨_,rfl⟩;rw[hd];unfold TD at hd;dsimp only at hd;rw[hp2,hok1] at hd;unfold Zu at hd;generalize (b_ p).1=kd at *;generalize (b_ (p.drop (b_ p).2.1)).1=lv at *;clear hp2 hok1 hR;refine aJ ?_;refine aB M hI hn (by rfl) (by kernel_rfl) ?_ ?_
   ·simp
   refine aG (by rfl) (fun hc=>?_) (fun hc=>?_)
   ·refine aB M hI hn (by rfl) (by kernel_rfl) ?_ ?_
    ·simp
    refine aK (fun a w hg=>⟨.inr rfl,_,?_,hg⟩);refine aC (by rfl) (by simp) (by rfl) (by rfl) ?_
    have h:ok1=false\/p2.length<16:=by
     cases ok1
     ·exact .inl rfl
     ·simp at hc;exact .inr (by omega)
    rw[if_pos h] at hd;rw[<-hd];rfl
   ·refine aO ?_;change h_ _ _ _ _ _
    have h:¬(ok1=false\/p2.length<16):=by
     cases ok1
     ·cases hc
     ·simp at hc;intro h;rcases h with h|h
      ·cases h
      ·omega
    have h16:16<=p2.length:=by
     rcases Nat.lt_or_ge p2.length 16 with h2|h2
     ·exact absurd (.inr h2) h
     ·exact h2
    obtain rfl:ok1=true:=by
     cases ok1
     ·exact absurd (.inl rfl) h
     ·rfl
    rw[if_neg h] at hd;refine aB M hI hn (by rfl) (by kernel_rfl) ?_ ?_
    ·simp;omega
    refine aI (s':=⟨[(1,none,oq s),(2,none,dm (.pt 0 0 0)),(4,none,dm (.pt 1 0 0)),(5,none,dm (.pt 2 0 0)),(6,none,dm (.pt 1006 0 0)),(7,none,dm (.fn (.func 137) [] [.pt 1006 0 0,.pt 2 0 0]))],
     [(0,none,0,.box 23 [.bs 16 root]),(1,none,0,.box 149 (ug ⟨kd,lv,p2.take 16,0,aS⟩)),(2,none,0,.box 4 [.lit (.bool true)]),(1006,none,0,.box 74 [.sl 1 (p2.drop 16).length (o5 (p2.drop 16))])]⟩) (fun a w hg=>(hg.reset (kT:=[1,2,4,5,6,7]) (kO:=[0,1,2,1006]) (by rfl) (by simp)).same ?_ ?_) ?_
    ·exact .cons rfl (.cons rfl (.cons rfl (.cons rfl (.cons rfl (.cons rfl .nil)))))
    ·refine .cons (.box rfl) (.cons (.box ?_) (.cons (.box rfl) (.cons (.box ?_) .nil)))
     ·rw[show (rowB 16 fun i=>o5 p2 (Int.toNat 0+i))=p2.take 16 from (kV (L:=p2) (k:=0) (m:=16) (by omega)).trans (by rw[List.drop_zero])];rfl
     ·exact congrArg (fun c=>[c]) (aLq h16)
    have hp3:(p2.drop 16).length<=p2.length:=by rw[List.length_drop];omega
    have htl:(p2.take 16).length=16:=by rw[List.length_take];omega
    generalize p2.drop 16=p3 at *;generalize p2.take 16=t at *;have hle3:=pO p3;have hrg3:=iJ p3;refine aB M hI hn (by rfl) (by kernel_rfl) ?_ ?_
    ·simp;unfold jB;omega
    have hp4:(p3.drop (b_ p3).2.1).length<=p3.length:=by rw[List.length_drop];omega
    refine aI (s':=⟨[(1,none,oq s),(2,none,dm (.pt 0 0 0)),(4,none,dm (.pt 1 0 0)),(5,none,dm (.pt 2 0 0)),(6,none,dm (.pt 1006 0 0))],
     [(0,none,0,.box 23 [.bs 16 root]),(1,none,0,.box 149 (ug ⟨kd,lv,t,(b_ p3).1,aS⟩)),(2,none,0,.box 4 [.lit (.bool ((b_ p3).2.2==0))]),(1006,none,0,.box 74 [.sl 1 (p3.drop (b_ p3).2.1).length (o5 (p3.drop (b_ p3).2.1))])]⟩) (fun a w hg=>(hg.reset (kT:=[1,2,4,5,6]) (kO:=[0,1,2,1006]) (by rfl) (by simp)).same ?_ ?_) ?_
    ·exact .cons rfl (.cons rfl (.cons rfl (.cons rfl (.cons rfl .nil))))
    ·refine .cons (.box rfl) (.cons (.box ?_) (.cons (.box ?_) (.cons (.box ?_) .nil)))
     ·simp only[eF];rfl
     ·simp only[eF];rfl
     ·simp only[eF]
    generalize p3.drop (b_ p3).2.1=p4 at *;generalize b_ p3=g3 at *;obtain⟨ol,u3,e3⟩:=g3;dsimp only at *;have bDC:=nN p4;refine aB M hI hn (by rfl) (by kernel_rfl) ?_ ?_
    ·simp;unfold jB;omega
    refine aI (s':=⟨[(1,none,oq s),(2,none,dm (.pt 0 0 0)),(4,none,dm (.pt 1 0 0)),(5,none,dm (.pt 2 0 0)),(8,none,oq (strOf (iZ p4).1)),(10,none,gy (iZ p4).2.2)],
     [(0,none,0,.box 23 [.bs 16 root]),(1,none,0,.box 149 (ug ⟨kd,lv,t,ol,aS⟩)),(2,none,0,.box 4 [.lit (.bool (e3==0))])]⟩) (fun a w hg=>(hg.reset (kT:=[1,2,4,5,8,10]) (kO:=[0,1,2]) (by rfl) (by simp)).same ?_ ?_) ?_
    ·rw[eF];exact .cons rfl (.cons rfl (.cons rfl (.cons rfl (.cons rfl (.cons rfl .nil)))))
    ·exact .cons (.box rfl) (.cons (.box rfl) (.cons (.box rfl) .nil))
    generalize iZ p4=g4 at *;obtain⟨pay,u4,e4⟩:=g4;dsimp only at *;refine aB M hI hn (by rfl) (by kernel_rfl) ?_ ?_
    ·simp
    refine aB M hI hn (by rfl) (by kernel_rfl) ?_ ?_
    ·simp
     exact⟨fun h1 h2 h3=>⟨⟨h1,h2⟩,h3⟩,fun _ _ _ _ _=>⟨⟨hrg1,hrg2,hrg3,htl,by show (strOf pay).size<=10000;rw[bM];omega⟩,hr⟩⟩
    refine aB M hI hn (by rfl) (by kernel_rfl) ?_ ?_
    ·simp
    refine aK (fun a w hg=>⟨.inr rfl,_,?_,hg⟩);refine aC (by rfl) (by simp) (by rfl) (by rfl) ?_;rw[<-hd];refine congrArg (fun b=>PV.kz [.agg (ug ⟨kd,lv,t,ol,strOf pay⟩),.one (.lit (.bool b))]) ?_;unfold Zt;dsimp only;generalize jC root ⟨kd,lv,t,ol,strOf pay⟩=E
    have hE:E.toList=s.toList↔E=s:=by
     rw[ByteArray.toList_eq,ByteArray.toList_eq]
     exact⟨fun h=>ByteArray.ext (Array.ext' h),fun h=>by rw[h]⟩
    rw[Bool.eq_iff_iff];simp[and_assoc,hE]
theorem noM{I:World->Prop}:kw Tryz.prog I (find ([]:List (Nat×Spec))):=⟨fun f sp h=>(by cases h),(by kernel_rfl)⟩
theorem LH{I:World->Prop}(b c:Int):Bl Tryz.prog I 108 (ah.Dh b c) [.w (.one .dv),gy b,gy c] gy:=by
 intro O l;have M:=noM (I:=I);refine jT Tryz.func108 rfl rfl rfl (fun A hn hI=>?_);refine aB M hI hn (by rfl) (by kernel_rfl) ?_ ?_
 ·simp
 refine aB M hI hn (by rfl) (by kernel_rfl) ?_ ?_
 ·exact⟨aIr (nC _) (nC _),trivial⟩
 refine aK (fun a w hg=>⟨.inr rfl,_,⟨?_,(fun o ho=>by cases ho),fun p hp=>?_⟩,hg⟩);rotate_left 1
 ·cases hp;rfl
 refine aC (by rfl) (by simp) (by rfl) (by rfl) ?_;rfl
theorem aZu{I:World->Prop}(b c:Int):Bl Tryz.prog I 110 (ah.BA b c) [.w (.one .dv),gy b,gy c] (fun _=>.kz []):=by
 intro O l;have M:=noM (I:=I);refine jT Tryz.func110 rfl rfl rfl (fun A hn hI=>?_);refine aP M hI hn (by rfl) (by kernel_rfl) ?_ ?_
 ·exact⟨aIr (nC _) (nC _),trivial⟩
 intro a w hg
 refine⟨.inl rfl,_,⟨?_,(fun o ho=>by cases ho),fun p hp=>?_⟩,hg⟩
 rotate_left 1
 ·cases hp;rfl
 refine aC (by rfl) (by simp) (by rfl) (by rfl) ?_;rfl
def ML(p:Int->Int->ah Int):List PV->Option (Prop×ah Int×(Int->PV))
 |[.w (.one (.lit (.int .i64 b))),.w (.one (.lit (.int .i64 c)))]=>some (True,p b c,gy)
 |_=>none
def FO(p:Int->Int->ah Unit)(q:Int->Int->Prop):List PV->Option (Prop×ah Unit×(Unit->PV))
 |[.w (.one (.lit (.int .i64 b))),.w (.one (.lit (.int .i64 c)))]=>some (q b c,p b c,fun _=>.kz [])
 |_=>none
theorem bCa{I:World->Prop}:aj Tryz.prog I 108 (kX (ML ah.Dh)):=
 nM (aF Tryz.func108 (by kernel_rfl) rfl) (fun ys c p v h _=>by
  unfold ML at h
  split at h
  ·cases h;exact LH _ _
  ·cases h)
theorem aVl{I:World->Prop}:aj Tryz.prog I 110 (kX (FO ah.BA fun _ _=>True)):=
 nM (aF Tryz.func110 (by kernel_rfl) rfl) (fun ys c p v h _=>by
  unfold FO at h
  split at h
  ·cases h;exact aZu _ _
  ·cases h)
theorem aMj(l:List Int)(x:Int):nonzero (l++[x])=nonzero l+if x=0 then 0 else 1:=by
 unfold nonzero;rw[List.filter_append,List.length_append]
 by_cases h:x=0<;>simp[h]
theorem aGo(l:List Int):nonzero l<=l.length:=List.length_filter_le _ _
theorem aMi{l:List Int}{k:Nat}(h:k<l.length):nonzero (l.take (k+1))=nonzero (l.take k)+if l.getD k 0=0 then 0 else 1:=by
 rw[List.take_add_one,zH h,zG,zH h];exact aMj _ _
theorem aXg{k:Nat}{f g:Nat->List PC}(h1:∀ i,i<k->(f i).all (dH false)=true)(h2:(g 0).all (dH false)=true):∀ i,i<k+1->(ou k f g i).all (dH false)=true:=fun i hi=>by
 unfold ou
 by_cases h:i<k
 ·rw[if_pos h];exact h1 i h
 ·obtain rfl:i=k:=by omega
  rw[if_neg h,Nat.sub_self];exact h2
def Zr(l:List Int)(k:Nat):St:=⟨[(0,none,dm (.sl 1 l.length (Ci l))),(3,none,gy (nonzero (l.take k))),(6,none,dm (.sl 1 l.length (Ci l))),(7,none,gy l.length),(8,none,gy k)],[]⟩
theorem Pz{I:World->Prop}(hI0:∀ w w',Ext w w'->I w->I w')(l:List Int)(hl:l.length<=1000):gB Tryz.prog I 109 true [dm (.sl 1 l.length (Ci l))] (qc (qE l)):=by
 have M:=noM (I:=I);refine bI Tryz.func109 rfl rfl hI0 (fun A hS hn hI=>?_);refine aB M hI hn (by rfl) (by kernel_rfl) ?_ ?_
 ·simp
 refine aB M hI hn (by rfl) (by kernel_rfl) ?_ ?_
 ·simp
 refine aJ ?_;refine aB M hI hn (by rfl) (by kernel_rfl) ?_ ?_
 ·simp
 refine bF ?_;refine aI (s':=Zr l 0) (fun a w hg=>(hg.reset (kT:=[0,3,6,7,8]) (kO:=[]) (by rfl) (by simp)).same ?_ ?_) ?_
 ·exact .cons rfl (.cons rfl (.cons rfl (.cons rfl (.cons rfl .nil))))
 ·exact .nil
 refine iH l.length (fun k s=>s=Zr l k) 0 rfl (by omega) (fun k s hJ hk=>?_);subst hJ;refine aB M hI hn (by rfl) (by kernel_rfl) ?_ ?_
 ·simp
 refine aJ ?_;refine aG (by rfl) (fun hc=>?_) (fun hc=>?_)
 ·have hk2:k<l.length:=by simpa using hc
  have hnk:=aMi hk2;have hnl:=aGo (l.take k);rw[List.length_take] at hnl;refine aO ?_;change h_ _ _ _ _ _;refine aJ ?_;refine bF ?_;refine aB M hI hn (by rfl) (by kernel_rfl) ?_ ?_
  ·simp;omega
  refine aB M hI hn (by rfl) (by kernel_rfl) ?_ ?_
  ·simp
  refine aG (by rfl) (fun hc=>?_) (fun hc=>?_)
  ·have hx:¬l.getD k 0=0:=by
    have h:(l.getD k 0 != 0)=true:=hc
    simpa using h
   refine aP M hI hn (by rfl) (by kernel_rfl) ?_ ?_
   ·simp
   change h_ _ _ _ _ _;refine aP M hI hn (by rfl) (by kernel_rfl) ?_ ?_
   ·simp
   intro a w hg
   refine⟨k+1,_,by omega,by omega,rfl,(hg.reset (kT:=[0,3,6,7,8]) (kO:=[]) (by rfl) (by simp)).same ?_ ?_⟩
   ·refine .cons rfl (.cons ?_ (.cons rfl (.cons rfl (.cons (by rw[fP k (by omega)]) .nil))));rw[fP _ (by omega),hnk,if_neg hx]
   ·exact .nil
  ·have hx:l.getD k 0=0:=by
    have h:(l.getD k 0 != 0)=false:=hc
    simpa using h
   refine aO ?_;change h_ _ _ _ _ _;refine aP M hI hn (by rfl) (by kernel_rfl) ?_ ?_
   ·simp
   intro a w hg
   refine⟨k+1,_,by omega,by omega,rfl,(hg.reset (kT:=[0,3,6,7,8]) (kO:=[]) (by rfl) (by simp)).same ?_ ?_⟩
   ·refine .cons rfl (.cons ?_ (.cons rfl (.cons rfl (.cons (by rw[fP k (by omega)]) .nil))));rw[hnk,if_pos hx,Nat.add_zero]
   ·exact .nil
 ·have hkk:k=l.length:=by
   have:¬k<l.length:=by simpa using hc
   omega
  subst hkk;have hnl:=aGo l;refine gQ ?_;change h_ _ _ _ _ _;refine aB M hI hn (by rfl) (by kernel_rfl) ?_ ?_
  ·simp
  refine aK (fun a w hg=>⟨.inr rfl,_,?_,hg⟩);refine aC (by rfl) (by simp) (by rfl) (by rfl) ?_;refine congrArg qc ?_;rw[List.take_length];unfold qE
  have e:IntKind.i64.wrap (2*(nonzero l:Int))=2*(nonzero l:Int):=by rw[IntKind.wrap_i64];omega
  have e2:∀ x:Int,decide (x > (l.length:Int))=decide ((l.length:Int)<x):=fun x=>rfl;refine decide_eq_decide.2 ?_;show IntKind.i64.wrap (2*(nonzero l:Int)) > (l.length:Int)↔_;rw[e];omega
def Uw:List PV->Option (Prop×PV)
 |[.w (.one (.sl 1 n f))]=>some (aKj n f/\n<=1000,qc (qE (Tc n f)))
 |_=>none
theorem Jv{I:World->Prop}(hI0:∀ w w',Ext w w'->I w->I w'):aj Tryz.prog I 109 (aZ true Uw):=by
 refine aY (aF Tryz.func109 (by kernel_rfl) rfl) (fun xs p r hg hp=>?_);unfold Uw at hg
 split at hg
 ·rename_i n f;cases hg;have h:=Pz hI0 (Tc n f) (by rw[xU];exact hp.2);rw[xU] at h;intro w ok0 vs hI hV
  match vs,hV with
  |[v],⟨k1,_⟩=>exact h w ok0 [v] hI ⟨.w (.one (k1.inv.zf (KU hp.1))),trivial⟩
 ·cases hg
def BN:List (Nat×Spec):=[(108,kX (ML ah.Dh)),(110,kX (FO ah.BA fun _ _=>True)),(109,aZ true Uw)]
theorem SS{I:World->Prop}(hI0:∀ w w',Ext w w'->I w->I w'):∀ p∈BN,aj Tryz.prog I p.1 p.2:=by
 intro p hp;simp only[BN,List.mem_cons,List.not_mem_nil,or_false] at hp;rcases hp with rfl|rfl|rfl
 ·exact bCa
 ·exact aVl
 ·exact Jv hI0
theorem rdM{I:World->Prop}(hI0:∀ w w',Ext w w'->I w->I w'):kw Tryz.prog I (find BN):=⟨bV (SS hI0),fC⟩
def Nq(kd b c:Int)(l:List Acc):Nat->List Acc
 |0=>l
 |k+1=>Nq kd b c l k++[⟨kd,b,3*c+k,aS⟩]
def rdV(O:List Acc->Option jc)(b c:Int)(l:List Acc)(k:Nat):Int:=(ans O (Nq 1 b c l (k+1))).val
def UL(O:List Acc->Option jc)(b c:Int)(l:List Acc):List Int:=[rdV O b c l 0,rdV O b c l 1,rdV O b c l 2]
theorem QX(O:List Acc->Option jc)(b c:Int)(l:List Acc):go O (ah.read b c) l=(qE (UL O b c l),Nq 1 b c l 3):=rfl
theorem aBk(kd b c:Int)(l:List Acc)(k:Nat):Nq kd b c l k <+: Nq kd b c l (k+1):=List.prefix_append _ _
theorem aZo(kd b c:Int)(l:List Acc):∀ k,l <+: Nq kd b c l k
 |0=>List.prefix_refl _
 |k+1=>(aZo kd b c l k).trans (aBk kd b c l k)
theorem Ih(kd b c:Int)(l:List Acc){k:Nat}(hk:k<3):Nq kd b c l (k+1) <+: Nq kd b c l 3:=by
 match k,hk with
 |0,_=>exact (aBk _ _ _ _ 1).trans (aBk _ _ _ _ 2)
 |1,_=>exact aBk _ _ _ _ 2
 |2,_=>exact List.prefix_refl _
theorem Rx{c:Int}{k:Nat}(hc:0<=c/\c<=100000)(hk:k<3):IntKind.i64.wrap (IntKind.i64.wrap (3*c)+(k:Int))=3*c+k:=by
 rw[IntKind.wrap_i64,IntKind.wrap_i64];omega
def Zf(O:List Acc->Option jc)(dh:List Acc->Prop)(b c:Int)(l:List Acc)(k:Nat):St:=⟨[(0,none,.w (.one .dv)),(1,none,gy b),(2,none,gy c),(7,none,dm (.ow 5009 0 1 0 k)),(9,none,gy k)],
 [(dx,none,0,.dev O dh (Nq 1 b c l k)),(5009,none,0,.arr 3 1 k (Ci (UL O b c l)))]⟩
theorem Ie{I:World->Prop}(hI0:∀ w w',Ext w w'->I w->I w')(b c:Int)(hbc:0<=c/\c<=100000):Bl Tryz.prog I 83 (ah.read b c) [.w (.one .dv),gy b,gy c] qc:=by
 intro O l;have M:=rdM hI0
 have hbt:Tryz.prog.types[3].bytes=8:=by kernel_rfl
 have hst:Tryz.prog.types[3].size=1:=by kernel_rfl
 refine jT Tryz.func83 rfl rfl rfl (fun A hn hI=>?_);generalize hstp:(fun h=>l <+: h/\h <+: (go O (ah.read b c) l).2)=dh;refine aB M hI hn (by rfl) (by kernel_rfl) ?_ ?_
 ·simp
 refine aB M hI hn (by rfl) (by kernel_rfl) ?_ ?_
 ·simp
 refine aJ ?_;refine aB M hI hn (by rfl) (by kernel_rfl) ?_ ?_
 ·simp
 refine bF ?_;refine aI (s':=Zf O dh b c l 0) (fun a w hg=>((hg.nilRow (x:=5009) (e:=3) (n:=1) (t:=7) (by rfl) (by rfl)).reset (kT:=[0,1,2,7,9]) (kO:=[900000,5009]) (by rfl) (by simp)).same ?_ ?_) ?_
 ·exact .cons rfl (.cons rfl (.cons rfl (.cons rfl (.cons rfl .nil))))
 ·exact .cons (.dev rfl) (.cons (.arr rfl (fun i hi=>by omega)) .nil)
 refine iH 3 (fun k s=>s=Zf O dh b c l k) 0 rfl (by omega) (fun k s hJ hk=>?_);subst hJ;refine aB M hI hn (by rfl) (by kernel_rfl) ?_ ?_
 ·simp
 refine aJ ?_;refine aG (by rfl) (fun hc=>?_) (fun hc=>?_)
 ·have hk2:k<3:=by have:=of_decide_eq_true hc;omega
  have hw:=Rx hbc hk2;refine aO ?_;change h_ _ _ _ _ _;refine aJ ?_;refine bF ?_;refine aB M hI hn (by rfl) (by kernel_rfl) ?_ ?_
  ·simp
  refine aP M hI hn (by rfl) (by kernel_rfl) ?_ ?_
  ·simp
   refine⟨fun h h1 h2 _=>?_,by rw[hbt];omega⟩
   rw[hw] at h2;rw[<-hstp]
   exact⟨(aZo 1 b c l k).trans h1,h2.trans (Ih 1 b c l hk2)⟩
  change h_ _ _ _ _ _;refine aP M hI hn (by rfl) (by kernel_rfl) ?_ ?_
  ·simp
  intro a w hg
  refine⟨k+1,_,by omega,by omega,rfl,(hg.reset (kT:=[0,1,2,7,9]) (kO:=[900000,5009]) (by rfl) ?_).same ?_ ?_⟩
  ·simp only[All,and_true,List.append_nil,List.nil_append];exact aXg (fun i hi=>rfl) rfl
  ·exact .cons rfl (.cons rfl (.cons rfl (.cons rfl (.cons (by rw[fP k (by omega)]) .nil))))
  ·refine .cons (.dev ?_) (.cons (.arr rfl (aUa (fun i hi=>rfl) ?_)) .nil)
   ·rw[hw];rfl
   ·rw[hw]
    match k,hk2 with
    |0,_=>rfl
    |1,_=>rfl
    |2,_=>rfl
 ·have hkk:k=3:=by
   have:=of_decide_eq_false hc;omega
  subst hkk;refine gQ ?_;change h_ _ _ _ _ _;refine aB M hI hn (by rfl) (by kernel_rfl) ?_ ?_
  ·simp;exact fun i _=>oQ rfl
  refine aK (fun a w hg=>⟨.inr rfl,_,⟨?_,(fun o ho=>by cases ho),fun p hp=>?_⟩,hg⟩);rotate_left 1
  ·cases hp;rfl
  refine aC (by rfl) (by simp) (by rfl) (by rfl) ?_;rw[QX];have:=aPj (UL O b c l);simp only[Nat.zero_add];exact congrArg (fun x=>qc (qE x)) this
def Zk(O:List Acc->Option jc)(dh:List Acc->Prop)(b c:Int)(l:List Acc)(k:Nat):St:=⟨[(0,none,.w (.one .dv)),(1,none,gy b),(2,none,gy c),(7,none,gy k)],[(dx,none,0,.dev O dh (Nq 2 b c l k))]⟩
theorem aVj{I:World->Prop}(hI0:∀ w w',Ext w w'->I w->I w')(b c:Int)(hbc:0<=c/\c<=100000):Bl Tryz.prog I 84 (ah.qp b c) [.w (.one .dv),gy b,gy c] (fun _=>.kz []):=by
 intro O l;have M:=rdM hI0;refine jT Tryz.func84 rfl rfl rfl (fun A hn hI=>?_);generalize hstp:(fun h=>l <+: h/\h <+: (go O (ah.qp b c) l).2)=dh;refine aB M hI hn (by rfl) (by kernel_rfl) ?_ ?_
 ·simp
 refine bF ?_;refine aI (s':=Zk O dh b c l 0) (fun a w hg=>(hg.reset (kT:=[0,1,2,7]) (kO:=[900000]) (by rfl) (by simp)).same ?_ ?_) ?_
 ·exact .cons rfl (.cons rfl (.cons rfl (.cons rfl .nil)))
 ·exact .cons (.dev rfl) .nil
 refine iH 3 (fun k s=>s=Zk O dh b c l k) 0 rfl (by omega) (fun k s hJ hk=>?_);subst hJ;refine aB M hI hn (by rfl) (by kernel_rfl) ?_ ?_
 ·simp
 refine aJ ?_;refine aG (by rfl) (fun hc=>?_) (fun hc=>?_)
 ·have hk2:k<3:=by have:=of_decide_eq_true hc;omega
  have hw:=Rx hbc hk2;refine aO ?_;change h_ _ _ _ _ _;refine aJ ?_;refine bF ?_;refine aB M hI hn (by rfl) (by kernel_rfl) ?_ ?_
  ·simp
  refine aP M hI hn (by rfl) (by kernel_rfl) ?_ ?_
  ·simp;refine fun h h1 h2 _=>?_;rw[hw] at h2;rw[<-hstp]
   exact⟨(aZo 2 b c l k).trans h1,h2.trans (Ih 2 b c l hk2)⟩
  change h_ _ _ _ _ _;refine aP M hI hn (by rfl) (by kernel_rfl) ?_ ?_
  ·simp
  intro a w hg
  refine⟨k+1,_,by omega,by omega,rfl,(hg.reset (kT:=[0,1,2,7]) (kO:=[900000]) (by rfl) (by simp)).same ?_ ?_⟩
  ·exact .cons rfl (.cons rfl (.cons rfl (.cons (by rw[fP k (by omega)]) .nil)))
  ·refine .cons (.dev ?_) .nil;rw[hw];rfl
 ·have hkk:k=3:=by
   have:=of_decide_eq_false hc;omega
  subst hkk;refine gQ ?_;change ZF _ _ _;intro a w hg
  refine⟨.inl rfl,_,⟨?_,(fun o ho=>by cases ho),fun p hp=>?_⟩,hg⟩
  rotate_left 1
  ·cases hp;rfl
  refine aC (by rfl) (by simp) (by rfl) (by rfl) ?_;rfl
def Vt:List PV->Option (Prop×ah Bool×(Bool->PV))
 |[.w (.one (.lit (.int .i64 b))),.w (.one (.lit (.int .i64 c)))]=>some (0<=c/\c<=100000,ah.read b c,qc)
 |_=>none
theorem aZk{I:World->Prop}(hI0:∀ w w',Ext w w'->I w->I w'):aj Tryz.prog I 83 (kX Vt):=
 nM (aF Tryz.func83 (by kernel_rfl) rfl) (fun ys c p v h hc=>by
  unfold Vt at h
  split at h
  ·cases h;exact Ie hI0 _ _ hc
  ·cases h)
theorem aPu{I:World->Prop}(hI0:∀ w w',Ext w w'->I w->I w'):aj Tryz.prog I 84 (kX (FO ah.qp fun _ c=>0<=c/\c<=100000)):=
 nM (aF Tryz.func84 (by kernel_rfl) rfl) (fun ys c p v h hc=>by
  unfold FO at h
  split at h
  ·cases h;exact aVj hI0 _ _ hc
  ·cases h)
theorem aOt{P:Program}{A:jq}{s:St}{Q:Exit->Act->World->Prop}{x y:Code}(J:St->Prop)(h:h_ P A s x (Exit.then (fun a w=>∃ s',J s'/\n_ A s' a w) Q))(h2:∀ s',J s'->h_ P A s' y Q):h_ P A s (.seq x y) Q:=fun a w hg AP=>
 wp_seq (wp_mono (h a w hg (fun chain a w hd hp=>AP chain a w hd hp)) (fun e a' w' he=>by
  cases e<;>first|exact he|(obtain⟨s',h3,h4⟩:=he;exact h2 s' h3 a' w' h4 AP)))
def lvL:List (Nat×Spec):=(83,kX Vt)::(84,kX (FO ah.qp fun _ c=>0<=c/\c<=100000))::BN
theorem TF{I:World->Prop}(hI0:∀ w w',Ext w w'->I w->I w'):∀ p∈lvL,aj Tryz.prog I p.1 p.2:=by
 intro p hp;simp only[lvL,List.mem_cons] at hp;rcases hp with rfl|rfl|hp
 ·exact aZk hI0
 ·exact aPu hI0
 ·exact SS hI0 p hp
theorem lvM{I:World->Prop}(hI0:∀ w w',Ext w w'->I w->I w'):kw Tryz.prog I (find lvL):=⟨bV (TF hI0),fC⟩
def Left{α:Type}(O:List Acc->Option jc)(p:ah α)(l:List Acc)(q:ah α)(k:List Acc):Prop:=l <+: k/\go O p l=go O q k
theorem Left.start{α:Type}(O:List Acc->Option jc)(p:ah α)(l:List Acc):Left O p l p l:=⟨List.prefix_refl _,rfl⟩
theorem Left.step{α β:Type}{O:List Acc->Option jc}{p:ah α}{l k:List Acc}{q:ah β}{f:β->ah α}(h:Left O p l (q.bind f) k):Left O p l (f (go O q k).1) (go O q k).2:=
 ⟨h.1.trans (uD O q k),h.2.trans (wU O q f k)⟩
theorem Left.dh{α β:Type}{O:List Acc->Option jc}{p:ah α}{l k:List Acc}{q:ah β}{f:β->ah α}(h:Left O p l (q.bind f) k):∀ g,k <+: g->g <+: (go O q k).2->O g=none->l <+: g/\g <+: (go O p l).2:=fun g h1 h2 _=>by
 refine⟨h.1.trans h1,h2.trans ?_⟩
 rw[h.step.2];exact uD _ _ _
def V3(O:List Acc->Option jc)(dh:List Acc->Prop)(b:Int)(m:Nat)(n:Nat)(lk:List Acc):St:=⟨[(0,none,.w (.one .dv)),(1,none,gy b),(2,none,gy m),(7,none,gy n)],[(dx,none,0,.dev O dh lk)]⟩
def Zy(O:List Acc->Option jc)(dh:List Acc->Prop)(b:Int)(m:Nat)(n k:Nat)(lk:List Acc):St:=⟨[(0,none,.w (.one .dv)),(1,none,gy b),(2,none,gy m),(7,none,gy n),(19,none,gy n),(20,none,gy k)],[(dx,none,0,.dev O dh lk)]⟩
theorem aDt{I:World->Prop}(hI0:∀ w w',Ext w w'->I w->I w')(b:Int)(m:Nat)(hm:m<=1000):Bl Tryz.prog I 55 (ah.jb b m) [.w (.one .dv),gy b,gy m] (fun n=>gy n):=by
 intro O l;have M:=lvM hI0;refine jT Tryz.func55 rfl rfl rfl (fun A hn hI=>?_);generalize hstp:(fun h=>l <+: h/\h <+: (go O (ah.jb b m) l).2)=dh;refine aB M hI hn (by rfl) (by kernel_rfl) ?_ ?_
 ·simp
 refine aYd ?_;refine aB M hI hn (by rfl) (by kernel_rfl) ?_ ?_
 ·simp
 refine aJ ?_;refine aYe ?_;change h_ _ _ _ _ _;refine aOt (fun s'=>∃ n lk,s'=V3 O dh b m n lk/\n<=m/\Left O (ah.jb b m) l ((ah.down b n 0).bind fun _=>.ret n) lk) ?_ ?_
 ·refine bF ?_;refine aI (s':=V3 O dh b m 0 l) (fun a w hg=>(hg.reset (kT:=[0,1,2,7]) (kO:=[900000]) (by rfl) (by simp)).same ?_ ?_) ?_
  ·exact .cons rfl (.cons rfl (.cons rfl (.cons rfl .nil)))
  ·exact .cons (.dev rfl) .nil
  refine iH m (fun n s=>∃ lk,s=V3 O dh b m n lk/\Left O (ah.jb b m) l ((ah.up b (m-n) n).bind fun n=>(ah.down b n 0).bind fun _=>.ret n) lk) 0 ⟨l,rfl,Left.start _ _ _⟩ (by omega) (fun n s hJ hk=>?_);obtain⟨lk,rfl,hL⟩:=hJ;refine aJ ?_;refine aB M hI hn (by rfl) (by kernel_rfl) ?_ ?_
  ·simp
  refine aG (by rfl) (fun hc=>?_) (fun hc=>?_)
  ·have hn2:n<m:=by have:=of_decide_eq_true hc;omega
   have hmn:m-n=(m-(n+1))+1:=by omega
   rw[hmn,ah.up,ah.bind_assoc] at hL;refine aO ?_;change h_ _ _ _ _ _;refine bF ?_;refine aJ ?_;refine aB M hI hn (by rfl) (by kernel_rfl) ?_ ?_
   ·simp
    refine⟨by omega,fun h h1 h2 h3=>?_⟩
    rw[<-hstp];exact hL.dh h h1 h2 h3
   refine aG (by rfl) (fun hc=>?_) (fun hc=>?_)
   ·have hb:(go O (ah.read b n) lk).1=false:=by
     have h:(!(go O (ah.read b n) lk).1)=true:=hc
     simpa using h
    have hL2:=hL.step;rw[hb,if_neg (by simp)] at hL2;refine gQ ?_;intro a w hg
    refine⟨_,⟨n,_,rfl,by omega,hL2⟩,(hg.reset (kT:=[0,1,2,7]) (kO:=[900000]) (by rfl) (by simp)).same ?_ ?_⟩
    ·exact .cons rfl (.cons rfl (.cons rfl (.cons rfl .nil)))
    ·exact .cons (.dev rfl) .nil
   ·have hb:(go O (ah.read b n) lk).1=true:=by
     have h:(!(go O (ah.read b n) lk).1)=false:=hc
     simpa using h
    have hL2:=hL.step;rw[hb,if_pos rfl] at hL2;refine aO ?_;change h_ _ _ _ _ _;refine aP M hI hn (by rfl) (by kernel_rfl) ?_ ?_
    ·simp
    intro a w hg
    refine⟨n+1,_,by omega,by omega,⟨_,rfl,hL2⟩,(hg.reset (kT:=[0,1,2,7]) (kO:=[900000]) (by rfl) (by simp)).same ?_ ?_⟩
    ·exact .cons rfl (.cons rfl (.cons rfl (.cons (by rw[fP n (by omega)]) .nil)))
    ·exact .cons (.dev rfl) .nil
  ·have hnm:n=m:=by have:=of_decide_eq_false hc;omega
   refine gQ ?_;intro a w hg
   refine⟨_,⟨n,lk,rfl,by omega,?_⟩,(hg.reset (kT:=[0,1,2,7]) (kO:=[900000]) (by rfl) (by simp)).same ?_ ?_⟩
   ·rw[hnm,Nat.sub_self] at hL;rw[hnm];exact hL
   ·exact .cons rfl (.cons rfl (.cons rfl (.cons rfl .nil)))
   ·exact .cons (.dev rfl) .nil
 ·rintro s' ⟨n,lk,rfl,hnm,hL⟩;refine aJ ?_;refine aB M hI hn (by rfl) (by kernel_rfl) ?_ ?_
  ·simp
  refine bF ?_;refine aI (s':=Zy O dh b m n 0 lk) (fun a w hg=>(hg.reset (kT:=[0,1,2,7,19,20]) (kO:=[900000]) (by rfl) (by simp)).same ?_ ?_) ?_
  ·exact .cons rfl (.cons rfl (.cons rfl (.cons rfl (.cons rfl (.cons rfl .nil)))))
  ·exact .cons (.dev rfl) .nil
  refine iH n (fun k s=>∃ lk,s=Zy O dh b m n k lk/\Left O (ah.jb b m) l ((ah.down b (n-k) k).bind fun _=>.ret n) lk) 0 ⟨lk,rfl,hL⟩ (by omega) (fun k s hJ hk=>?_);obtain⟨lk2,rfl,hL2⟩:=hJ;refine aB M hI hn (by rfl) (by kernel_rfl) ?_ ?_
  ·simp
  refine aJ ?_;refine aG (by rfl) (fun hc=>?_) (fun hc=>?_)
  ·have hk2:k<n:=by have:=of_decide_eq_true hc;omega
   have hnk:n-k=(n-(k+1))+1:=by omega
   rw[hnk,ah.down,ah.bind_assoc] at hL2;refine aO ?_;change h_ _ _ _ _ _;refine aJ ?_;refine bF ?_;refine aB M hI hn (by rfl) (by kernel_rfl) ?_ ?_
   ·simp
   refine aP M hI hn (by rfl) (by kernel_rfl) ?_ ?_
   ·simp
    refine⟨by omega,fun h h1 h2 h3=>?_⟩
    rw[<-hstp];exact hL2.dh h h1 h2 h3
   change h_ _ _ _ _ _;refine aP M hI hn (by rfl) (by kernel_rfl) ?_ ?_
   ·simp
   intro a w hg
   refine⟨k+1,_,by omega,by omega,⟨_,rfl,hL2.step⟩,(hg.reset (kT:=[0,1,2,7,19,20]) (kO:=[900000]) (by rfl) (by simp)).same ?_ ?_⟩
   ·exact .cons rfl (.cons rfl (.cons rfl (.cons rfl (.cons rfl (.cons (by rw[fP k (by omega)]) .nil)))))
   ·exact .cons (.dev rfl) .nil
  ·have hkk:k=n:=by have:=of_decide_eq_false hc;omega
   rw[hkk,Nat.sub_self] at hL2;have hE:go O (ah.jb b m) l=(n,lk2):=hL2.2;refine gQ ?_;change h_ _ _ _ _ _;refine aB M hI hn (by rfl) (by kernel_rfl) ?_ ?_
   ·simp
   refine aK (fun a w hg=>⟨.inr rfl,_,⟨?_,(fun o ho=>by cases ho),fun p hp=>?_⟩,hg⟩);rotate_left 1
   ·cases hp;rw[hE];rfl
   refine aC (by rfl) (by simp) (by rfl) (by rfl) ?_;rw[hE]
def Eg:List PV->Option (Prop×ah Nat×(Nat->PV))
 |[.w (.one (.lit (.int .i64 b))),.w (.one (.lit (.int .i64 m)))]=>some (0<=m/\m<=1000,ah.jb b m.toNat,fun n=>gy n)
 |_=>none
theorem aAs{I:World->Prop}(hI0:∀ w w',Ext w w'->I w->I w'):aj Tryz.prog I 55 (kX Eg):=
 nM (aF Tryz.func55 (by kernel_rfl) rfl) (fun ys c p v h hc=>by
  unfold Eg at h
  split at h
  ·rename_i b m;cases h;obtain⟨k,rfl⟩:∃ k:Nat,m=(k:Int):=⟨m.toNat,by omega⟩;rw[Int.toNat_natCast];exact aDt hI0 b k (by omega)
  ·cases h)
def raL:List (Nat×Spec):=(55,kX Eg)::lvL
theorem Zh{I:World->Prop}(hI0:∀ w w',Ext w w'->I w->I w'):∀ p∈raL,aj Tryz.prog I p.1 p.2:=by
 intro p hp;simp only[raL,List.mem_cons] at hp;rcases hp with rfl|hp
 ·exact aAs hI0
 ·exact TF hI0 p hp
theorem raM{I:World->Prop}(hI0:∀ w w',Ext w w'->I w->I w'):kw Tryz.prog I (find raL):=⟨bV (Zh hI0),fC⟩
def Zi(O:List Acc->Option jc)(dh:List Acc->Prop)(b:Int)(t:Nat)(n:Nat)(lk:List Acc):St:=⟨[(0,none,.w (.one .dv)),(1,none,gy b),(3,none,gy t),(10,none,gy n)],[(dx,none,0,.dev O dh lk)]⟩
def raV(p:Nat×Int):PV:=.kz [.one (.lit (.int .i64 p.1)),.one (.lit (.int .i64 p.2))]
theorem aPs{I:World->Prop}(hI0:∀ w w',Ext w w'->I w->I w')(b:Int)(m t:Nat)(hm:m<=1000)(ht:t<=1000):Bl Tryz.prog I 100 (ah.lh b m t) [.w (.one .dv),gy b,gy m,gy t] raV:=by
 intro O l;have M:=raM hI0;refine jT Tryz.func100 rfl rfl rfl (fun A hn hI=>?_);generalize hstp:(fun h=>l <+: h/\h <+: (go O (ah.lh b m t) l).2)=dh;have hL0:Left O (ah.lh b m t) l ((ah.jb b m).bind fun n=>ah.pz b (t-n) n) l:=Left.start _ _ _;have hn0:(go O (ah.jb b m) l).1<=m:=TZ O (aDu b m) l;have hL:=hL0.step;refine aB M hI hn (by rfl) (by kernel_rfl) ?_ ?_
 ·simp
 refine aB M hI hn (by rfl) (by kernel_rfl) ?_ ?_
 ·simp
  refine⟨by omega,fun h h1 h2 h3=>?_⟩
  rw[<-hstp];exact hL0.dh h h1 h2 h3
 obtain⟨n0,l0,hq⟩:∃ n0 l0,go O (ah.jb b m) l=(n0,l0):=⟨_,_,rfl⟩;rw[hq] at hn0 hL;dsimp only at hn0 hL;refine aJ ?_;refine bF ?_;refine aI (s':=Zi O dh b t n0 l0) (fun a w hg=>(hg.reset (kT:=[0,1,3,10]) (kO:=[900000]) (by rfl) (by simp)).same ?_ ?_) ?_
 ·exact .cons rfl (.cons rfl (.cons rfl (.cons (by show gy ((go O (ah.jb b m) l).1:Int)=_;rw[hq]) .nil)))
 ·exact .cons (.dev (by show (go O (ah.jb b m) l).2=_;rw[hq])) .nil
 refine iH (m+t) (fun n s=>∃ lk,s=Zi O dh b t n lk/\Left O (ah.lh b m t) l (ah.pz b (t-n) n) lk) n0 ⟨l0,rfl,hL⟩ (by omega) (fun n s hJ hk=>?_);obtain⟨lk,rfl,hL⟩:=hJ;refine aJ ?_;refine aB M hI hn (by rfl) (by kernel_rfl) ?_ ?_
 ·simp
 refine aG (by rfl) (fun hc=>?_) (fun hc=>?_)
 ·have hn2:n<t:=by have:=of_decide_eq_true hc;omega
  rw[show t-n=(t-(n+1))+1 by omega,ah.pz] at hL;have hL2:=hL.step;have hL3:=hL2.step;refine aO ?_;change h_ _ _ _ _ _;refine aJ ?_;refine bF ?_;refine aB M hI hn (by rfl) (by kernel_rfl) ?_ ?_
  ·simp
   refine⟨by omega,fun h h1 h2 h3=>?_⟩
   rw[<-hstp];exact hL.dh h h1 h2 h3
  refine aB M hI hn (by rfl) (by kernel_rfl) ?_ ?_
  ·simp
   refine⟨by omega,fun h h1 h2 h3=>?_⟩
   rw[<-hstp];exact hL2.dh h h1 h2 h3
  refine aG (by rfl) (fun hc=>?_) (fun hc=>?_)
  ·have hb:(go O (ah.read b n) (go O (ah.qp b n) lk).2).1=false:=by
    have h:(!(go O (ah.read b n) (go O (ah.qp b n) lk).2).1)=true:=hc
    simpa using h
   rw[hb,if_neg (by simp)] at hL3;have hE:=hL3.2;refine aB M hI hn (by rfl) (by kernel_rfl) ?_ ?_
   ·simp
   refine aK (fun a w hg=>⟨.inr rfl,_,⟨?_,(fun o ho=>by cases ho),fun p hp=>?_⟩,hg⟩);rotate_left 1
   ·cases hp;rw[hE];rfl
   refine aC (by rfl) (by simp) (by rfl) (by rfl) ?_;rw[hE];rfl
  ·have hb:(go O (ah.read b n) (go O (ah.qp b n) lk).2).1=true:=by
    have h:(!(go O (ah.read b n) (go O (ah.qp b n) lk).2).1)=false:=hc
    simpa using h
   rw[hb,if_pos rfl] at hL3;refine aO ?_;change h_ _ _ _ _ _;refine aP M hI hn (by rfl) (by kernel_rfl) ?_ ?_
   ·simp
   intro a w hg
   refine⟨n+1,_,by omega,by omega,⟨_,rfl,hL3⟩,(hg.reset (kT:=[0,1,3,10]) (kO:=[900000]) (by rfl) (by simp)).same ?_ ?_⟩
   ·exact .cons rfl (.cons rfl (.cons rfl (.cons (by rw[fP n (by omega)]) .nil)))
   ·exact .cons (.dev rfl) .nil
 ·have hn2:t-n=0:=by have:=of_decide_eq_false hc;omega
  rw[hn2] at hL;have hE:go O (ah.lh b m t) l=((n,0),lk):=hL.2;refine gQ ?_;change h_ _ _ _ _ _;refine aB M hI hn (by rfl) (by kernel_rfl) ?_ ?_
  ·simp
  refine aK (fun a w hg=>⟨.inr rfl,_,⟨?_,(fun o ho=>by cases ho),fun p hp=>?_⟩,hg⟩);rotate_left 1
  ·cases hp;rw[hE];rfl
  refine aC (by rfl) (by simp) (by rfl) (by rfl) ?_;rw[hE];rfl
def MJ:List PV->Option (Prop×ah (Nat×Int)×(Nat×Int->PV))
 |[.w (.one (.lit (.int .i64 b))),.w (.one (.lit (.int .i64 m))),.w (.one (.lit (.int .i64 t)))]=>some ((0<=m/\m<=1000)/\0<=t/\t<=1000,ah.lh b m.toNat t.toNat,raV)
 |_=>none
theorem aLy{I:World->Prop}(hI0:∀ w w',Ext w w'->I w->I w'):aj Tryz.prog I 100 (kX MJ):=
 nM (aF Tryz.func100 (by kernel_rfl) rfl) (fun ys c p v h hc=>by
  unfold MJ at h
  split at h
  ·rename_i b m t;cases h;obtain⟨k,rfl⟩:∃ k:Nat,m=(k:Int):=⟨m.toNat,by omega⟩;obtain⟨j,rfl⟩:∃ j:Nat,t=(j:Int):=⟨t.toNat,by omega⟩;rw[Int.toNat_natCast,Int.toNat_natCast];exact aPs hI0 b k j (by omega) (by omega)
  ·cases h)
def aRa:List PV->Option (Prop×ah Dt×(Dt->PV))
 |[.w (.one (.lit (.int .i64 rec)))]=>some (iq rec,ah.load rec,EP)
 |_=>none
def aQv:List PV->Option (Prop×ah Dt×(Dt->PV))
 |[.w (.one (.lit (.int .i64 rec))),.w (.one (.lit (.string c)))]=>some (iq rec,ah.save rec c,EP)
 |_=>none
theorem K_:aj Tryz.prog a_ 98 (kW aRa):=
 nU (aF Tryz.func98 (by kernel_rfl) rfl) (fun ys c p v h hc=>by
  unfold aRa at h
  split at h
  ·cases h;exact KG _ hc
  ·cases h)
theorem Jw:aj Tryz.prog a_ 101 (kW aQv):=
 nU (aF Tryz.func101 (by kernel_rfl) rfl) (fun ys c p v h hc=>by
  unfold aQv at h
  split at h
  ·cases h;exact Hr _ hc _
  ·cases h)
def Gq:Spec:=aZ true fun xs=>match xs with
 |[.w (.agg [.bs 16 root]),.w (.one (.lit (.string s)))]=>some (root.length=16/\s.size<=5000,TM (TD root s (yD root s.data.toList)))
 |_=>none
theorem Q7:aj Tryz.prog a_ 99 Gq:=by
 refine aY (aF Tryz.func99 (by kernel_rfl) rfl) (fun xs p r hg hp=>?_)
 split at hg
 ·cases hg;exact bBd _ _ hp.1 hp.2
 ·cases hg
def Pj:List (Nat×Spec):=(73,aIq mi aQy)::(98,kW aRa)::(101,kW aQv)::(55,kX Eg)::(100,kX MJ) ::
 (99,Gq)::(102,aYk)::(82,iI mi uh aTq)::WV
theorem Jq:∀ p∈Pj,aj Tryz.prog a_ p.1 p.2:=by
 intro p hp;simp only[Pj,List.mem_cons] at hp;rcases hp with rfl|rfl|rfl|rfl|rfl|rfl|rfl|rfl|hp
 ·exact bAt
 ·exact K_
 ·exact Jw
 ·exact aAs bQ
 ·exact aLy bQ
 ·exact Q7
 ·exact bBg
 ·exact aSy
 ·exact aDq p hp
theorem Pq:kw Tryz.prog a_ (find Pj):=⟨bV Jq,fC⟩
def O3(root:List UInt8)(s:ByteArray):l_×Bool:=TD root s (yD root s.data.toList)
def qm(m:jh):ah l_:=(ah.load 3).bind fun s=>(gX (s.err==0) s.err).bind fun _=>(gX (O3 m.root s.content).2 8).bind fun _=>.ret (O3 m.root s.content).1
def zh(m:jh)(r:l_):ah Unit:=(ah.save 3 (jC m.root r)).bind fun s=>(gX (s.err==0) s.err).bind fun _=>.ret ()
def kD(b:Int)(t:Nat):ah Nat:=(ah.lh b 16 t).bind fun p=>(gX (p.2==0) p.2).bind fun _=>.ret p.1
def rV(f:Nat):ah Unit:=(kD 3 (f+1)).bind fun n=>(gX ((n:Int)==((f+1:Nat):Int)) 21).bind fun _=>.ret ()
def oI(f:Nat):ah Unit:=(gX (((f % 2:Nat):Int)==0) 21).bind fun _=>(gX (decide ((f:Int)<16)) 17).bind fun _=>.ret ()
theorem aNt(rec:Int)(b:List UInt8):(o_ rec b).2.length<=2000:=by
 unfold o_
 split
 ·simp
 ·split
  ·simp
  ·show (qo b).1.length<=2000;omega
theorem aMq(rec:Int):ah.All (fun o:Dt=>o.content.size<=2000) (ah.load rec):=by
 unfold ah.load
 split
 ·exact (by decide:(0:Nat)<=2000)
 ·refine ah.All.bind (R:=fun p:(Int×List UInt8)×Nat=>p.1.2.length<=2000) ?_ (fun p hp=>?_)
  ·unfold ah.cur;refine ah.All.bind (R:=fun _=>True) (ah.All.yg _) (fun a _=>?_);refine ah.All.bind (R:=fun _=>True) (ah.All.yg _) (fun b _=>?_);show (ve (o_ rec a) (o_ rec b)).1.2.length<=2000;unfold ve
   split
   ·exact aNt _ _
   ·exact aNt _ _
  ·show (Fh p.1).content.size<=2000;unfold Fh
   split
   ·exact (by decide:(0:Nat)<=2000)
   ·show (strOf p.1.2).size<=2000;rw[bM];exact hp
theorem QZ(m:jh)(f:Int)(hr:m.root.length=16):uO Tryz.prog a_ mi 76 uh (jo m f) (qm m) [] (fun r=>.w (.agg (ug r))):=by
 intro O l hO hF;have M:=Pq;have hL0:Left O (qm m) l (qm m) l:=Left.start _ _ _;have hL1:=Left.step (q:=ah.load 3) hL0;have hsz:=TZ O (aMq 3) l;generalize hstp:(fun h=>l <+: h/\h <+: (go O (qm m) l).2)=dh;refine kM Tryz.func76 rfl rfl (fun A hn hI=>?_);refine aB M hI hn (by rfl) (by kernel_rfl) ?_ ?_
 ·simp
 refine aB M hI hn (by rfl) (by kernel_rfl) ?_ ?_
 ·simp
  refine⟨⟨hO,by unfold iq;omega⟩,?_⟩
  intro h h1 h2 h3;rw[<-hstp];exact Left.dh (q:=ah.load 3) hL0 h h1 h2 h3
 obtain⟨s,l1,hq⟩:∃ s l1,go O (ah.load 3) l=(s,l1):=⟨_,_,rfl⟩;rw[hq] at hL1 hsz;dsimp only at hL1 hsz;refine aI (s':=⟨[(0,none,dm (.pt px 0 0)),(2,none,dm (.pt 0 0 0)),(3,none,dm (.pt 1005 0 0))],[(dx,none,0,.dev O dh l1),(px,none,0,.box uh (.dv::jo m f)),(0,none,0,.box 149 (ug Ey)),(1005,none,0,.box 164 (Yo s))]⟩) (fun a w hg=>(hg.reset (kT:=[0,2,3]) (kO:=[dx,px,0,1005]) (by rfl) (by simp)).same ?_ ?_) ?_
 ·exact .cons rfl (.cons rfl (.cons rfl .nil))
 ·refine .cons (.dev ?_) (.cons (.box rfl) (.cons (.box rfl) (.cons (.box ?_) .nil)))
  ·show (go O (ah.load 3) l).2=_;rw[hq]
  ·show Yo (go O (ah.load 3) l).1=_;rw[hq]
 have hL2:=Left.step hL1;refine aB M hI hn (by rfl) (by kernel_rfl) ?_ ?_
 ·simp
  refine⟨⟨hO,hF⟩,?_⟩
  intro h h1 h2 h3;rw[<-hstp];exact Left.dh hL1 h h1 h2 h3
 obtain⟨l2,hq2⟩:∃ l2,(go O (gX (s.err==0) s.err) l1).2=l2:=⟨_,rfl⟩;rw[hq2] at hL2;refine aI (s':=⟨[(0,none,dm (.pt px 0 0)),(2,none,dm (.pt 0 0 0)),(3,none,dm (.pt 1005 0 0))],[(dx,none,0,.dev O dh l2),(px,none,0,.box uh (.dv::jo m f)),(0,none,0,.box 149 (ug Ey)),(1005,none,0,.box 164 (Yo s))]⟩) (fun a w hg=>(hg.reset (kT:=[0,2,3]) (kO:=[dx,px,0,1005]) (by rfl) (by simp)).same ?_ ?_) ?_
 ·exact .cons rfl (.cons rfl (.cons rfl .nil))
 ·exact .cons (.dev hq2) (.cons (.box rfl) (.cons (.box rfl) (.cons (.box rfl) .nil)))
 refine aB M hI hn (by rfl) (by kernel_rfl) ?_ ?_
 ·simp
  exact⟨hr,by omega⟩
 refine aB M hI hn (by rfl) (by kernel_rfl) ?_ ?_
 ·simp
  refine⟨⟨hO,hF⟩,?_⟩
  intro h h1 h2 h3;rw[<-hstp];exact Left.dh hL2 h h1 h2 h3
 have hL3:=Left.step hL2;refine aB M hI hn (by rfl) (by kernel_rfl) ?_ ?_
 ·simp
 refine aK (fun a w hg=>⟨.inr rfl,_,⟨?_,⟨jo m f,rfl,dS rfl⟩,?_⟩,hg⟩);rotate_left 1
 ·rw[hL3.2];rfl
 refine aC (by rfl) (by simp) (by rfl) (by rfl) ?_;rw[hL3.2];rfl
theorem Ov(m:jh)(f:Int)(r:l_)(hr:m.root.length=16)(hrec:CS r):uO Tryz.prog a_ mi 79 uh (jo m f) (zh m r) [.w (.agg (ug r))] (fun _=>.kz []):=by
 intro O l hO hF;have M:=Pq;have hL0:Left O (zh m r) l (zh m r) l:=Left.start _ _ _;have hL1:=Left.step (q:=ah.save 3 (jC m.root r)) hL0;generalize hstp:(fun h=>l <+: h/\h <+: (go O (zh m r) l).2)=dh;refine kM Tryz.func79 rfl rfl (fun A hn hI=>?_);refine aB M hI hn (by rfl) (by kernel_rfl) ?_ ?_
 ·simp
 refine aB M hI hn (by rfl) (by kernel_rfl) ?_ ?_
 ·simp
  refine⟨⟨hrec,hr⟩,⟨hO,by unfold iq;omega⟩,?_⟩
  intro h h1 h2 h3;rw[<-hstp];exact Left.dh (q:=ah.save 3 (jC m.root r)) hL0 h h1 h2 h3
 obtain⟨s,l1,hq⟩:∃ s l1,go O (ah.save 3 (jC m.root r)) l=(s,l1):=⟨_,_,rfl⟩;rw[hq] at hL1;dsimp only at hL1;refine aI (s':=⟨[(0,none,dm (.pt px 0 0)),(4,none,dm (.pt 1012 0 0))],[(dx,none,0,.dev O dh l1),(px,none,0,.box uh (.dv::jo m f)),(1012,none,0,.box 164 (Yo s))]⟩) (fun a w hg=>(hg.reset (kT:=[0,4]) (kO:=[dx,px,1012]) (by rfl) (by simp)).same ?_ ?_) ?_
 ·exact .cons rfl (.cons rfl .nil)
 ·refine .cons (.dev ?_) (.cons (.box rfl) (.cons (.box ?_) .nil))
  ·show (go O (ah.save 3 (jC m.root r)) l).2=_;rw[hq]
  ·show Yo (go O (ah.save 3 (jC m.root r)) l).1=_;rw[hq]
 have hL2:=Left.step hL1;refine aP M hI hn (by rfl) (by kernel_rfl) ?_ ?_
 ·simp
  refine⟨⟨hO,hF⟩,?_⟩
  intro h h1 h2 h3;rw[<-hstp];exact Left.dh hL1 h h1 h2 h3
 intro a w hg
 refine⟨.inl rfl,_,⟨?_,⟨jo m f,rfl,dS rfl⟩,?_⟩,hg⟩
 rotate_left 1
 ·rw[hL2.2];rfl
 refine aC (by rfl) (by simp) (by rfl) (by rfl) ?_;rfl
theorem aZr(m:jh)(f:Int)(b:Int)(t:Nat)(ht:t<=1000):uO Tryz.prog a_ mi 78 uh (jo m f) (kD b t) [gy b,gy t] (fun n=>gy n):=by
 intro O l hO hF;have M:=Pq;have hL0:Left O (kD b t) l (kD b t) l:=Left.start _ _ _;have hL1:=Left.step (q:=ah.lh b 16 t) hL0;generalize hstp:(fun h=>l <+: h/\h <+: (go O (kD b t) l).2)=dh;refine kM Tryz.func78 rfl rfl (fun A hn hI=>?_);refine aB M hI hn (by rfl) (by kernel_rfl) ?_ ?_
 ·simp
 refine aB M hI hn (by rfl) (by kernel_rfl) ?_ ?_
 ·simp
  refine⟨by omega,?_⟩
  intro h h1 h2 h3;rw[<-hstp];exact Left.dh (q:=ah.lh b 16 t) hL0 h h1 h2 h3
 obtain⟨q,l1,hq⟩:∃ q l1,go O (ah.lh b 16 t) l=(q,l1):=⟨_,_,rfl⟩;rw[hq] at hL1;dsimp only at hL1;refine aI (s':=⟨[(7,none,gy q.1),(8,none,gy q.2)],[(dx,none,0,.dev O dh l1),(px,none,0,.box uh (.dv::jo m f))]⟩) (fun a w hg=>(hg.reset (kT:=[7,8]) (kO:=[dx,px]) (by rfl) (by simp)).same ?_ ?_) ?_
 ·refine .cons ?_ (.cons ?_ .nil)
  ·show gy (go O (ah.lh b 16 t) l).1.1=_;rw[hq]
  ·show gy (go O (ah.lh b 16 t) l).1.2=_;rw[hq]
 ·refine .cons (.dev ?_) (.cons (.box rfl) .nil);show (go O (ah.lh b 16 t) l).2=_;rw[hq]
 have hL2:=Left.step hL1;refine aB M hI hn (by rfl) (by kernel_rfl) ?_ ?_
 ·simp
  refine⟨⟨hO,hF⟩,?_⟩
  intro h h1 h2 h3;rw[<-hstp];exact Left.dh hL1 h h1 h2 h3
 refine aB M hI hn (by rfl) (by kernel_rfl) ?_ ?_
 ·simp
 refine aK (fun a w hg=>⟨.inr rfl,_,⟨?_,⟨jo m f,rfl,dS rfl⟩,?_⟩,hg⟩);rotate_left 1
 ·rw[hL2.2];rfl
 refine aC (by rfl) (by simp) (by rfl) (by rfl) ?_;rw[hL2.2];rfl
def aJx(l:List PC)(ys:List PV):Option (Prop×ah Nat×(Nat->PV)):=match C_ l,ys with
 |some _,[.w (.one (.lit (.int .i64 b))),.w (.one (.lit (.int .i64 t)))]=>some (0<=t/\t<=1000,kD b t.toNat,fun n=>gy n)
 |_,_=>none
theorem Ii:aj Tryz.prog a_ 78 (iI mi uh aJx):=
 jQ (aF Tryz.func78 (by kernel_rfl) rfl) (fun l ys c p v h hc=>by
  unfold aJx at h
  split at h
  ·rename_i mf b t ho;cases h;rw[uN (m:=mf.1) (f:=mf.2) ho];obtain⟨k,rfl⟩:∃ k:Nat,t=(k:Int):=⟨t.toNat,by omega⟩;rw[Int.toNat_natCast];exact aZr mf.1 mf.2 b k (by omega)
  ·cases h)
def Ph:List (Nat×Spec):=(78,iI mi uh aJx)::Pj
theorem Jp:∀ p∈Ph,aj Tryz.prog a_ p.1 p.2:=by
 intro p hp;simp only[Ph,List.mem_cons] at hp;rcases hp with rfl|hp
 ·exact Ii
 ·exact Jq p hp
theorem aIX:kw Tryz.prog a_ (find Ph):=⟨bV Jp,fC⟩
theorem Jk(m:jh)(f:Nat)(hf:f<=900):uO Tryz.prog a_ mi 77 uh (jo m f) (rV f) [] (fun _=>.kz []):=by
 intro O l hO hF;have M:=aIX;have hL0:Left O (rV f) l (rV f) l:=Left.start _ _ _;have hL1:=Left.step (q:=kD 3 (f+1)) hL0;have hL2:=Left.step hL1
 have hw:IntKind.i64.wrap ((f:Int)+1)=((f+1:Nat):Int):=by rw[IntKind.wrap_i64];omega
 generalize hstp:(fun h=>l <+: h/\h <+: (go O (rV f) l).2)=dh;obtain⟨g,hg⟩:∃ g:Int,(f:Int)=g:=⟨_,rfl⟩;rw[hg] at hw ⊢;refine kM Tryz.func77 rfl rfl (fun A hn hI=>?_);refine aP M hI hn (by rfl) (by kernel_rfl) ?_ ?_
 ·simp;rw[hw]
  refine⟨⟨hO,hF,by omega,by omega⟩,?_,⟨hO,hF⟩,?_⟩
  ·intro h h1 h2 h3;rw[<-hstp];exact Left.dh (q:=kD 3 (f+1)) hL0 h h1 h2 h3
  ·intro h h1 h2 h3;rw[<-hstp];exact Left.dh hL1 h h1 h2 h3
 have hend:(go O (gX (((go O (kD 3 (IntKind.i64.wrap (g+1)).toNat) l).1:Int)==IntKind.i64.wrap (g+1)) 21) (go O (kD 3 (IntKind.i64.wrap (g+1)).toNat) l).2).2=(go O (rV f) l).2:=by
  rw[hw,hL2.2];rfl
 intro a w hg
 refine⟨.inl rfl,_,⟨?_,⟨jo m g,rfl,dS rfl⟩,?_⟩,hg⟩
 rotate_left 1
 ·exact congrArg (fun h=>some (none,0,o6.dev O dh h)) hend
 refine aC (by rfl) (by simp) (by rfl) (by rfl) ?_;rfl
theorem Ic(m:jh)(f:Nat)(_:f<=900):uO Tryz.prog a_ mi 74 uh (jo m f) (oI f) [] (fun _=>.kz []):=by
 intro O l hO hF;have M:=Pq;have hL0:Left O (oI f) l (oI f) l:=Left.start _ _ _;have hL1:=Left.step (q:=gX (((f % 2:Nat):Int)==0) 21) hL0;have hL2:=Left.step hL1;generalize hstp:(fun h=>l <+: h/\h <+: (go O (oI f) l).2)=dh;refine kM Tryz.func74 rfl rfl (fun A hn hI=>?_)
 have hm:((f:Int).tmod 2==0)=(((f % 2:Nat):Int)==0):=by
  rw[show (f:Int).tmod 2=((f % 2:Nat):Int) from rfl]
 refine aB M hI hn (by rfl) (by kernel_rfl) ?_ ?_
 ·simp
  refine⟨⟨hO,hF⟩,?_⟩
  rw[hm];intro h h1 h2 h3;rw[<-hstp];exact Left.dh (q:=gX (((f % 2:Nat):Int)==0) 21) hL0 h h1 h2 h3
 refine aP M hI hn (by rfl) (by kernel_rfl) ?_ ?_
 ·simp
  refine⟨⟨hO,hF⟩,?_⟩
  intro h h1 h2 h3;rw[<-hstp];exact Left.dh hL1 h h1 h2 h3
 intro a w hg
 refine⟨.inl rfl,_,⟨?_,⟨jo m f,rfl,dS rfl⟩,?_⟩,hg⟩
 rotate_left 1
 ·rw[hL2.2];rfl
 refine aC (by rfl) (by simp) (by rfl) (by rfl) ?_;rfl
end Pv
end Go.Proofs.YtndpjopifkbgiaaGreatDoor
