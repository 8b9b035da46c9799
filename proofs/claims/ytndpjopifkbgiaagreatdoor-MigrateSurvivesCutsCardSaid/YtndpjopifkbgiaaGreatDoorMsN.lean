/-.-/
import Derived.Test.YtndpjopifkbgiaaGreatDoorMsJ
import Derived.Test.YtndpjopifkbgiaaGreatDoorMsM
import Derived.Shelf.Spec.SlicesGrow
import Derived.Test.YtndpjopifkbgiaaGreatDoorMsC
import Derived.Test.YtndpjopifkbgiaaGreatDoorMsK
import Derived.Test.YtndpjopifkbgiaaGreatDoorProg
import Derived.Test.YtndpjopifkbgiaaGreatDoorMsA
set_option maxRecDepth 100000
set_option maxHeartbeats 4000000
namespace Go.Proofs.YtndpjopifkbgiaaGreatDoor
open Go.RowKit
namespace Pv
@[simp] theorem ZX:Tryz.prog.eqGuardType Tryz.prog.depth 27=false:=by kernel_rfl
def Zf:List (Nat×Spec):=(103,Zw 100000)::(120,Zw 10000)::(81,Zv 100000)::(21,Zv 10000)::KZ
theorem aLh:∀ p∈Zf,aj Tryz.prog a_ p.1 p.2:=by
 intro p hp;simp only[Zf,List.mem_cons] at hp;rcases hp with rfl|rfl|rfl|rfl|hp
 ·exact PO
 ·exact Ij
 ·exact QF
 ·exact Ir
 ·exact bEm p hp
theorem aCZ:lm Tryz.prog a_ (find Zf):=⟨bV aLh,fK⟩
structure jl where
 kind:Int
 root:List UInt8
 id:List UInt8
 link:List UInt8
 payload:ByteArray
 ot:List UInt8
 ol:Int
 xt:List UInt8
 xl:Int
 bn:Int
 bc:ByteArray
 bt:List UInt8
structure kw where
 kind:Int
 level:Int
 ot:List UInt8
 ol:Int
 payload:ByteArray
structure jk where
 session:Int
 payload:ByteArray
 ot:List UInt8
 ol:Int
 xt:List UInt8
 xl:Int
 bn:Int
 bc:ByteArray
 bt:List UInt8
 err:Int
def yh:List UInt8:=List.replicate 16 0
def FH:kw:=⟨0,0,yh,0,aS⟩
def jr:jk:=⟨0,aS,yh,0,yh,0,0,aS,yh,0⟩
def zo(m:jl):List PC:=[.lit (.int .i64 m.kind),.bs 16 m.root,.bs 16 m.id,.bs 16 m.link,.lit (.string m.payload),.bs 16 m.ot,.lit (.int .i64 m.ol),.bs 16 m.xt,.lit (.int .i64 m.xl),.lit (.int .i64 m.bn),.lit (.string m.bc),.bs 16 m.bt]
def ku(m:jl)(f:Int):List PC:=[.lit (.int .i64 m.kind),.bs 16 m.root,.bs 16 m.id,.bs 16 m.link,.lit (.string m.payload),.bs 16 m.ot,.lit (.int .i64 m.ol),.bs 16 m.xt,.lit (.int .i64 m.xl),.lit (.int .i64 m.bn),.lit (.string m.bc),.bs 16 m.bt,.lit (.int .i64 f)]
def uj(r:kw):List PC:=[.lit (.int .i64 r.kind),.lit (.int .i64 r.level),.bs 16 r.ot,.lit (.int .i64 r.ol),.lit (.string r.payload)]
def h_(o:jk):List PC:=[.lit (.int .i64 o.session),.lit (.string o.payload),.bs 16 o.ot,.lit (.int .i64 o.ol),.bs 16 o.xt,.lit (.int .i64 o.xl),.lit (.int .i64 o.bn),.lit (.string o.bc),.bs 16 o.bt,.lit (.int .i64 o.err)]
def ul:TypeId:=122
def keyS(link t:List UInt8)(l:Int):List UInt8:=kH link [116,114,97,110,115,102,101,114] [t,b_ l]
def aBL(k:List UInt8)(n:Int)(b:List UInt8):ByteArray:=strOf (dV k n b)
def aBK(k:List UInt8)(n:Int)(b:List UInt8):List UInt8:=qg k n (dV k n b)
def eG(link:List UInt8)(r:kw):jk:={ jr with xt:=r.ot,xl:=r.ol,bn:=r.ol,bc:=aBL (keyS link r.ot r.ol) r.ol r.payload.data.toList,bt:=aBK (keyS link r.ot r.ol) r.ol r.payload.data.toList }
theorem Qq(m:jl)(f:Int)(t:List UInt8)(n:Int)(hn0:jb n)(hl:m.link.length=16)(ht:t.length=16):vU Tryz.prog a_ ny 82 ul (ku m f) (.ret (keyS m.link t n)) [.w (.agg [.bs 16 t,.lit (.int .i64 n)])] (fun k=>.w (.agg [.bs 16 k])):=by
 intro O l _ _;have M:=aCZ;have hw:=aY n;refine lC Tryz.func82 rfl rfl (fun A hn hI=>?_);refine aB M hI hn (by rfl) (by kernel_rfl) ?_ ?_
 ·simp
 refine aB M hI hn (by rfl) (by kernel_rfl) ?_ ?_
 ·simp
  exact⟨hn0,by omega,(by decide),by omega,by omega⟩
 refine aK (fun a w hg=>⟨.inr rfl,_,⟨?_,⟨ku m f,rfl,dX rfl⟩,?_⟩,hg⟩);rotate_left 1
 ·rfl
 refine aC (by rfl) (by simp) (by rfl) (by rfl) ?_;simp[keyS,go]
def CU:List PC->Option (jl×Int)
 |[.lit (.int .i64 k),.bs 16 r,.bs 16 i,.bs 16 l,.lit (.string p),.bs 16 ot,.lit (.int .i64 ol),.bs 16 xt,.lit (.int .i64 xl),.lit (.int .i64 bn),.lit (.string bc),.bs 16 bt,.lit (.int .i64 f)]=>some (⟨k,r,i,l,p,ot,ol,xt,xl,bn,bc,bt⟩,f)
 |_=>none
theorem vT{l:List PC}{m:jl}{f:Int}(h:CU l=some (m,f)):l=ku m f:=by
 unfold CU at h
 split at h
 ·cases h;rfl
 ·cases h
def aWk(l:List PC)(ys:List PV):Option (Prop×ah (List UInt8)×(List UInt8->PV)):=match CU l,ys with
 |some (m,_),[.w (.agg [.bs 16 t,.lit (.int .i64 n)])]=>some (jb n/\m.link.length=16/\t.length=16,.ret (keyS m.link t n),fun k=>.w (.agg [.bs 16 k]))
 |_,_=>none
theorem aVq:aj Tryz.prog a_ 82 (iO ny ul aWk):=
 jY (aF Tryz.func82 (by kernel_rfl) rfl) (fun l ys c p v h hc=>by
  unfold aWk at h
  split at h
  ·rename_i m f t n ho;cases h;rw[vT ho];exact Qq m f t n hc.1 hc.2.1 hc.2.2
  ·cases h)
def Ve:List (Nat×Spec):=(82,iO ny ul aWk)::Zf
theorem Vh:∀ p∈Ve,aj Tryz.prog a_ p.1 p.2:=by
 intro p hp;simp only[Ve,List.mem_cons] at hp;rcases hp with rfl|hp
 ·exact aVq
 ·exact aLh p hp
theorem aNB:lm Tryz.prog a_ (find Ve):=⟨bV Vh,fK⟩
theorem aNk(m:jl)(f:Int)(r:kw)(hn0:jb r.ol)(hl:m.link.length=16)(ht:r.ot.length=16)(hp:r.payload.size<=10000):vU Tryz.prog a_ ny 80 ul (ku m f) (.ret (eG m.link r)) [.w (.agg (uj r))] (fun o=>.w (.agg (h_ o))):=by
 intro O l Dz hFO;have M:=aNB;refine lC Tryz.func80 rfl rfl (fun A hn hI=>?_);refine aB M hI hn (by rfl) (by kernel_rfl) ?_ ?_
 ·simp
 refine aB M hI hn (by rfl) (by kernel_rfl) ?_ ?_
 ·simp
  exact⟨⟨Dz,hFO,hn0,hl,ht⟩,fun h h1 h2 _=>⟨h1,h2⟩,hn0,by omega⟩
 refine aK (fun a w hg=>⟨.inr rfl,_,⟨?_,⟨ku m f,rfl,dX rfl⟩,?_⟩,hg⟩);rotate_left 1
 ·rfl
 refine aC (by rfl) (by simp) (by rfl) (by rfl) ?_;rfl
end Pv
section
open Go.RowKit Go.Shelf
def dM:Ren:=
{
 f:=fun x=>
  match x with
  |4=>177
  |n=>n,
 t:=fun x=>
  match x with
  |22=>74
  |25=>5
  |3=>3
  |4=>4
  |9=>9
  |20=>20
  |0=>0
  |n=>n,
 g:=fun x=>
  have n:=x;
  n }
theorem Kz:Lays8.n4 Tryz.prog dM:=
{mixed := Eq.refl true,
  f4:=
    Exists.intro "slices.Grow[[]byte,byte]"
      ⟨of_decide_eq_true (id (Eq.refl true)),
        Eq.trans Tryz.func177
          (congrArg some
            (
             Eq.refl
             ({
              name := "slices.Grow[[]byte,byte]",origin:=(Body8.n4 dM).origin,
              targs:=(Body8.n4 dM).targs,params:=(Body8.n4 dM).params,
              resultTypes:=(Body8.n4 dM).resultTypes,nfree:=(Body8.n4 dM).nfree,
              ntmps:=(Body8.n4 dM).ntmps,results:=(Body8.n4 dM).results,
              body:=(Body8.n4 dM).body,norace:=(Body8.n4 dM).norace,
              ours:=(Body8.n4 dM).ours,file:=(Body8.n4 dM).file,
              endLine := (Body8.n4 dM).endLine, litNo := (Body8.n4 dM).litNo,
              met:=(Body8.n4 dM).met,tmpNames:=(Body8.n4 dM).tmpNames }:Go.Func)))⟩,
  t0:=Tryz.underlying0,a0:=Tryz.isAgg0,z0:=Tryz.sizeOf0,v0:=Tryz.zeroValue0,t3:=Tryz.underlying3,
  a3:=Tryz.isAgg3,z3:=Tryz.sizeOf3,v3:=Tryz.zeroValue3,t4:=Tryz.underlying4,a4:=Tryz.isAgg4,
  z4:=Tryz.sizeOf4,v4:=Tryz.zeroValue4,t9:=Tryz.underlying9,a9:=Tryz.isAgg9,z9:=Tryz.sizeOf9,
  v9:=Tryz.zeroValue9,t20:=Tryz.underlying20,a20:=Tryz.isAgg20,z20:=Tryz.sizeOf20,v20:=Tryz.zeroValue20,
  t22:=Tryz.underlying74,a22:=Tryz.isAgg74,z22:=Tryz.sizeOf74,v22:=Tryz.zeroValue74 }
theorem aMv(z:Array Value)(n:Nat):(Builtin.zeroCells z n).size=n*z.size:=by
 unfold Builtin.zeroCells;simp
theorem LZ(n:Nat)(w:World)(hn:0<n)(hb:n<=1000000000000):Calls Tryz.prog 177 #[.slice none 0 0,.int .i64 n] w fun e w'=>∃ c,e=.returned (.slice (some ⟨w.heap.size,0,none⟩) 0 c)/\w'.ownsRow w.heap.size 5 1 (.slice (some ⟨w.heap.size,0,none⟩) 0 c) 0 []/\Ext w w':=by
 obtain⟨_,⟨i0,z,hi,hz,hs,hby,hzs⟩,_,_⟩:=fC;refine (Any8.slices_Grow_grow Kz i0 z hi hz (by omega) none 0 0 n [] w (Nat.le_refl _) (by omega) (by rw[hby];omega) (by omega) (by simp) (fun _=>rfl) (fun a h=>by cases h)).mono ?_;rintro e w' ⟨rfl,rfl⟩;have h1:=grownCap_ge w (0+n) 0 (dM.t 25);have h2:=grownCap_le_maxLen w (0+n) 0 (dM.t 25) (by unfold maxLen;omega)
 refine⟨_,rfl,⟨by simp,.inr ⟨w.heap.size,_,_,rfl,Nat.le_refl _,heap_alloc_new w.drew _,Nat.zero_le _,h2,?_,by simp⟩⟩,(Ext.refl w).drew.alloc _⟩
 simp only[Array.size_append,aMv,hzs];simp;rw[Nat.zero_add] at h1;omega
end
theorem aPs(ps:List (List UInt8))(k:Nat)(h:k<ps.length):(ps.take (k+1)).flatten=(ps.take k).flatten++ps[k]:=by
 rw[List.take_add_one,zH h,List.flatten_append];simp
theorem aZd(ps:List (List UInt8))(m:Nat)(h:∀ p∈ps,p.length<=m):ps.flatten.length<=ps.length*m:=by
 induction ps with
 |nil=>simp
 |cons p l ih=>
  have h1:=h p (by simp);have h2:=ih (fun q hq=>h q (by simp[hq]));rw[List.flatten_cons,List.length_append,List.length_cons,Nat.succ_mul];omega
theorem aPr(ps:List (List UInt8))(k:Nat):(ps.take k).flatten.length<=ps.flatten.length:=by
 have h:=congrArg (fun l=>l.flatten.length) (List.take_append_drop k ps);simp only[List.flatten_append,List.length_append] at h;omega
theorem VG{w:World}{B:Nat}{e:TypeId}{s:Nat}{v:Value}{n:Nat}{xs:List Value}(h:w.ownsRow B e s v n xs):∀ g,v.ownBlock=some g->B<=g:=by
 intro g hg;rcases h.2 with⟨rfl,rfl⟩|⟨g',cap,cs,rfl,hb,_⟩
 ·simp[Value.ownBlock] at hg
 ·simp[Value.ownBlock] at hg;omega
theorem aZx(pv:Value)(ps:List (List UInt8))(w:World)(hp:Parts w pv ps)(hps:ps.length<=1000)(hpl:∀ p∈ps,p.length<=1000000)(h0:0<ps.flatten.length)(hS:∀ X,Ext w X->Parts X pv ps) :
  Calls Tryz.prog 144 #[pv] w fun e w'=>∃ A c,e=.returned (.slice A ps.flatten.length c)/\w'.ownsRow w.heap.size 5 1 (.slice A ps.flatten.length c) ps.flatten.length (ps.flatten.map gq)/\Ext w w':=by
 have HP:=hide hp;have HS:=hide hS;have EU:=hide hpl;have htot:=aZd ps 1000000 hpl;have HTK:=hide (aPr ps)
 obtain⟨A1,c1,rfl⟩:∃ A c,pv=.slice A ps.length c:=by obtain⟨vs,_,⟨_,A,c,h,_⟩,_⟩:=hp;exact⟨A,c,h⟩
 obtain⟨T,hT⟩:∃ T,T=ps.flatten.length:=⟨_,rfl⟩;rw[<-hT] at h0 htot ⊢;have HT:=hide hT;clear hp hS hpl hT;have HG:=hide (fun (w:World)=>LZ T w h0 (by omega))
 go_enter Tryz.func144,Tryz.ntmps144
 go_wp2
 go_loopw [3,11] (fun b i wr=>∃ (k n:Nat),k<=ps.length/\i=.int .i64 k/\b=.int .i64 n/\n<=T/\Hid (n=(ps.take k).flatten.length)/\wr=w) (fun _ i _=>ps.length-(intOf i).toNat)
 case atStart=>exact⟨0,0,Nat.zero_le _,rfl,rfl,Nat.zero_le _,hide (by simp),rfl⟩
 case round=>
  obtain⟨k,n,hk,rfl,rfl,hn,HI,hwr⟩:=hrel;have aNI:=hwr.symm;clear hwr;subst aNI
  by_cases hlt:k<ps.length
  ·have hpw:Parts w (.slice A1 ps.length c1) ps:=aA HP;obtain⟨vs,q1,q2,q3⟩:=hpw;obtain⟨u,q4,q5⟩:=q3 k ps[k] (zH hlt);obtain⟨b,o,c',u',hv,_,_,hb,hu,hcc⟩:=q2.DN hlt;cases hv;rw[q4] at hu;cases hu
   obtain⟨Au,cu,rfl⟩:∃ A c,u=.slice A ps[k].length c:=by obtain⟨_,A,c,h,_⟩:=q5;exact⟨A,c,h⟩
   have hpk:=aA EU ps[k] (List.getElem_mem hlt);have HE:=hide (aPs ps k hlt);have hkt:=aA HTK (k+1);rw[aA HE,List.length_append,<-aA HI,<-aA HT] at hkt;clear q1 q2 q3 q4 q5;generalize ps[k]=p at *
   have hneg:¬((n:Int)+(p.length:Int)<0):=by omega
   go_wp2
   refine⟨⟨k+1,n+p.length,by omega,by go_num,by go_num,by omega,hide ?_,trivial⟩,by simp[intOf];omega⟩
   rw[aA HE,List.length_append,<-aA HI]
  ·obtain rfl:k=ps.length:=by omega
   obtain rfl:n=T:=by rw[aA HI,aA HT,List.take_length]
   go_wp2_with (go_at_call 177;refine (aA HG _).mono ?_;rintro e w3 ⟨c3,rfl,ho3,ug⟩;have H3:=hide (And.intro ho3 ug);clear ho3 ug)
   go_loopw [6,27] (fun b i wx=>∃ (k m:Nat) (A:Option Addr) (c:Nat),k<=ps.length/\i=.int .i64 k/\b=.slice A m c/\m<=n/\Hid (m=(ps.take k).flatten.length/\wx.ownsRow w.heap.size 5 1 (.slice A m c) m ((ps.take k).flatten.map gq)/\Ext w wx)) (fun _ i _=>ps.length-(intOf i).toNat)
   case atStart=>exact⟨0,0,_,c3,Nat.zero_le _,rfl,rfl,Nat.zero_le _,hide ⟨by simp,by simpa using (aA H3).1,(aA H3).2⟩⟩
   case round=>
    obtain⟨k,m,A,c,hk,rfl,rfl,hm,HJ⟩:=hrel
    by_cases hlt:k<ps.length
    ·have hpw:Parts wr (.slice A1 ps.length c1) ps:=aA HS wr (aA HJ).2.2;obtain⟨vs,q1,q2,q3⟩:=hpw;obtain⟨u,q4,q5⟩:=q3 k ps[k] (zH hlt);obtain⟨b,o,c',u',hv,_,_,hb,hu,hcc⟩:=q2.DN hlt;cases hv;rw[q4] at hu;cases hu
     obtain⟨Au,cu,rfl⟩:∃ A c,u=.slice A ps[k].length c:=by obtain⟨_,A,c,h,_⟩:=q5;exact⟨A,c,h⟩
     have HE:=hide (aPs ps k hlt);have hkt:=aA HTK (k+1);rw[aA HE,List.length_append,<-(aA HJ).1,<-aA HT] at hkt;have Xu:=hide q5;clear q1 q2 q3 q4 q5;generalize ps[k]=p at *
     go_wp2_with (at_builtin;refine bH rfl rfl fC rfl (aA HJ).2.1 rfl (aA Xu) (dN.u8 _) (by omega) (aA HJ).2.2.size' ?_;intro A' c4 w4 ho hc hv;have H4:=hide (And.intro ho (Onto.D7 (aA HJ).2.2 (Onto.app hc hv) (VG (aA HJ).2.1)));clear ho hc hv)
     go_roundw
     case rel=>
      refine⟨k+1,m+p.length,A',c4,by omega,by go_num,rfl,by omega,hide ⟨?_,?_,(aA H4).2⟩⟩
      ·rw[aA HE,List.length_append,<-(aA HJ).1]
      ·rw[aA HE,List.map_append];exact (aA H4).1
     case measure=>simp[intOf];omega
    ·obtain rfl:k=ps.length:=by omega
     go_wp2
     go_ret
     obtain⟨h1,h2,h3⟩:=aA HJ;rw[List.take_length] at h1 h2
     obtain rfl:m=n:=by rw[h1,aA HT]
     exact⟨A,c,rfl,h2,h3⟩
namespace Pv
def aKf:Spec:=fun nm xs=>match xs with
 |[ps]=>Gp ps fun pl=>.need (pl.length<=1000/\(∀ p∈pl,p.length<=1000000)/\0<pl.flatten.length) (.new nm (.arr 5 1 pl.flatten.length (p_ pl.flatten)) fun v=>.ret (dn (.ow nm v 1 0 pl.flatten.length)))
 |_=>.fail
theorem bHd:aj Tryz.prog a_ 144 aKf:=by
 refine⟨aF Tryz.func144 (by kernel_rfl) rfl,fun A s a w env nm uq vs F h hI hv hk=>?_⟩
 unfold aKf at hk
 split at hk
 rotate_left
 ·exact hk.elim
 rename_i ps
 match vs,hv with
 |[pv],⟨h2,_⟩=>
  obtain⟨pl,hp,hk⟩:=aDu h h2 hk;obtain⟨⟨c1,c2,c3⟩,hk⟩:=hk;refine (aZx pv pl w hp c1 c2 c3 (fun X hX=>hp.ext hX)).mono ?_;rintro e w' ⟨A1,c,rfl,ho,hE⟩;obtain⟨env',h3,h4⟩:=h.A_ nm 5 1 pl.flatten.length (f:=p_ pl.flatten) hE ho (fun C i hi=>nZ C pl.flatten i hi);exact .inl ⟨_,_,_,env',rfl,hk,h3,h4⟩
def QZ:List (Nat×Spec):=(144,aKf)::Zf
theorem KN:∀ p∈QZ,aj Tryz.prog a_ p.1 p.2:=by
 intro p hp;simp only[QZ,List.mem_cons] at hp;rcases hp with rfl|hp
 ·exact bHd
 ·exact aLh p hp
theorem aNA:lm Tryz.prog a_ (find QZ):=⟨bV KN,fK⟩
def oH(r:kw):List UInt8:=b_ r.kind++(b_ r.level++(r.ot++(b_ r.ol++bT r.payload.data.toList)))
def qY(root:List UInt8):List UInt8:=kH root [109,111,118,101] []
def jM(root:List UInt8)(r:kw):List UInt8:=b_ r.level++(bT (dV (qY root) r.level (oH r))++qg (qY root) r.level (dV (qY root) r.level (oH r)))
def fG(root:List UInt8)(r:kw):ByteArray:=strOf (jM root r)
theorem bEh(r:kw)(root:List UInt8)(h1:jb r.kind)(h2:jb r.level)(h3:jb r.ol)(h4:r.ot.length=16)(h5:root.length=16)(hp:r.payload.size<=10000):gQ Tryz.prog a_ 102 true [.w (.agg (uj r)),.w (.agg [.bs 16 root])] (pg (fG root r)):=by
 have M:=aNA;have l1:=aY r.kind;have l2:=aY r.level;have l3:=aY r.ol;have l4:=fO r.payload.data.toList;have l5:r.payload.data.toList.length=r.payload.size:=Array.length_toList;refine bM Tryz.func102 rfl rfl bU (fun A hS hn hI=>?_);refine aB M hI hn (by rfl) (by kernel_rfl) ?_ ?_
 ·simp
 refine aB M hI hn (by rfl) (by kernel_rfl) ?_ ?_
 ·simp
  exact⟨h1,h2,h3,by omega,⟨by omega,by omega,by omega,by omega,by omega⟩,by omega⟩
 refine aB M hI hn (by rfl) (by kernel_rfl) ?_ ?_
 ·simp[↓fQ]
  refine⟨⟨by omega,by decide⟩,h2,?_⟩
  show (strOf _).size<=100000;rw[bW];simp;omega
 refine aB M hI hn (by rfl) (by kernel_rfl) ?_ ?_
 ·have l6:=fO (dV (kH root [109,111,118,101] []) r.level (oH r));rw[eY] at l6;simp[oH] at l6;simp[↓fQ,bW,dD,eY,fE]
  exact⟨h2,by omega⟩
 refine aK (fun a w hg=>⟨.inr rfl,_,?_,hg⟩);refine aC (by rfl) (by simp) (by rfl) (by rfl) ?_;simp[↓fQ,dD,fG,jM,oH,qY];rfl
def QY:List (Nat×Spec):=(138,UR jH fun l=>xW (d_ l))::(139,UR jH fun l=>EQ (jG l))::QZ
theorem KL:∀ p∈QY,aj Tryz.prog a_ p.1 p.2:=by
 intro p hp;simp only[QY,List.mem_cons] at hp;rcases hp with rfl|rfl|hp
 ·exact rV (aF Tryz.func138 (by kernel_rfl) rfl) aIr
 ·exact rV (aF Tryz.func139 (by kernel_rfl) rfl) aBz
 ·exact KN p hp
theorem aCS:lm Tryz.prog a_ (find QY):=⟨bV KL,fK⟩
inductive CV where
 |EH|FZ|okR (p:List UInt8)
def CV.pv:CV->PV
 |.EH=>.lw [.one (.lit (.slice none 0 0)),.one (.lit (.bool false))]
 |.FZ=>.lw [.one (.sl 1 0 (p_ [])),.one (.lit (.bool false))]
 |.okR p=>.lw [.one (.sl 1 p.length (p_ p)),.one (.lit (.bool true))]
def Ee(root:List UInt8)(q:Int)(c t:List UInt8):CV:=if qg (qY root) q c=t then .okR (dV (qY root) q c) else .FZ
def zK(root b:List UInt8):CV:=
 if (d_ b).2.2≠0 then .EH else
  if (jG (b.drop (d_ b).2.1)).2.2≠0\/b.length≠(d_ b).2.1+(jG (b.drop (d_ b).2.1)).2.1+16 then .EH else
   Ee root (d_ b).1 (jG (b.drop (d_ b).2.1)).1 (b.drop ((d_ b).2.1+(jG (b.drop (d_ b).2.1)).2.1))
theorem JQ(root:List UInt8)(s:ByteArray)(hr:root.length=16)(hs:s.size<=100000):gQ Tryz.prog a_ 136 false [.w (.agg [.bs 16 root]),pg s] (zK root s.data.toList).pv:=by
 have M:=aCS;have hbl:s.data.toList.length=s.size:=Array.length_toList;refine bM Tryz.func136 rfl rfl bU (fun A hS hn hI=>?_);refine aB M hI hn (by rfl) (by kernel_rfl) ?_ ?_
 ·simp
 refine aB M hI hn (by rfl) (by kernel_rfl) ?_ ?_
 ·simp;omega
 refine aI (s':=⟨[(2,none,dn (.pt 0 0 0)),(6,none,oq s.data.toList)],[(0,none,0,.box 23 [.bs 16 root])]⟩) (fun a w hg=>(hg.reset (kT:=[2,6]) (kO:=[0]) (by rfl) (by simp)).same ?_ ?_) ?_
 ·refine .cons rfl (.cons ?_ .nil);rw[<-hbl]
 ·exact .cons (.box rfl) .nil
 generalize s.data.toList=b at *;refine aB M hI hn (by rfl) (by kernel_rfl) ?_ ?_
 ·simp;show b.length<4611686018427387904;omega
 refine aI (s':=⟨[(2,none,dn (.pt 0 0 0)),(6,none,oq b),(7,none,iy (d_ b).1),(8,none,iy ((d_ b).2.1:Int)),(9,none,iy (d_ b).2.2)],[(0,none,0,.box 23 [.bs 16 root])]⟩) (fun a w hg=>(hg.reset (kT:=[2,6,7,8,9]) (kO:=[0]) (by rfl) (by simp)).same ?_ ?_) ?_
 ·rw[fQ];exact .cons rfl (.cons rfl (.cons rfl (.cons rfl (.cons rfl .nil))))
 ·exact .cons (.box rfl) .nil
 have hle:=qQ b;have hrg0:=iR b;obtain⟨m,hm⟩:∃ m,zK root b=m:=⟨_,rfl⟩;rw[hm];unfold zK at hm;generalize hg:d_ b=g at *;obtain⟨q,k,e⟩:=g;dsimp only at *;refine aP ?_;refine aB M hI hn (by rfl) (by kernel_rfl) ?_ ?_
 ·simp
 refine aH (by rfl) (fun hc=>?_) (fun hc=>?_)
 ·refine aB M hI hn (by rfl) (by kernel_rfl) ?_ ?_
  ·simp
  refine aK (fun a w hg=>⟨.inr rfl,_,?_,hg⟩);refine aC (by rfl) (by simp) (by rfl) (by rfl) ?_
  have h:e≠0:=by simpa using hc
  rw[if_pos h] at hm;rw[<-hm];rfl
 ·have h:¬e≠0:=by simpa using hc
  rw[if_neg h] at hm;refine aO ?_;change ja _ _ _ _ _;refine aB M hI hn (by rfl) (by kernel_rfl) ?_ ?_
  ·simp
   refine⟨hle.1,?_⟩
   unfold jH;rw[fP];omega
  have X6:(rowB ((b.length:Int)-(k:Int)).toNat fun i=>p_ b ((k:Int).toNat+i))=b.drop k:=by
   rw[show ((b.length:Int)-(k:Int)).toNat=b.length-k from by omega,show (k:Int).toNat=k from by omega,nR (by omega)];exact List.take_of_length_le (by rw[List.length_drop];exact Nat.le_refl _)
  have hsz:=oO (b.drop k);have hle2:=Ll (b.drop k);rw[List.length_drop] at hsz hle2;refine aI (s':=⟨[(2,none,dn (.pt 0 0 0)),(6,none,oq b),(7,none,iy q),(8,none,iy (k:Int)),(9,none,iy (jG (b.drop k)).2.2),(10,none,pg (strOf (jG (b.drop k)).1)),(11,none,iy ((jG (b.drop k)).2.1:Int))],[(0,none,0,.box 23 [.bs 16 root])]⟩) (fun a w hg=>(hg.reset (kT:=[2,6,7,8,9,10,11]) (kO:=[0]) (by rfl) (by simp)).same ?_ ?_) ?_
  ·rw[X6];exact .cons rfl (.cons rfl (.cons rfl (.cons rfl (.cons rfl (.cons rfl (.cons rfl .nil))))))
  ·exact .cons (.box rfl) .nil
  generalize jG (b.drop k)=g2 at *;obtain⟨c,n,e2⟩:=g2;dsimp only at *
  have hw1:IntKind.i64.wrap ((k:Int)+(n:Int))=((k+n:Nat):Int):=by rw[IntKind.wrap_i64];omega
  have hw2:IntKind.i64.wrap (((k+n:Nat):Int)+16)=((k+n+16:Nat):Int):=by rw[IntKind.wrap_i64];omega
  refine aP ?_;refine aB M hI hn (by rfl) (by kernel_rfl) ?_ ?_
  ·simp
  refine aH (by rfl) (fun hc=>?_) (fun hc=>?_)
  ·refine aB M hI hn (by rfl) (by kernel_rfl) ?_ ?_
   ·simp
   refine aK (fun a w hg=>⟨.inr rfl,_,?_,hg⟩);refine aC (by rfl) (by simp) (by rfl) (by rfl) ?_;simp[hw1] at hc
   have h2:e2≠0\/b.length≠k+n+16:=by
    rcases hc with h3|h3
    ·exact .inl h3
    ·refine .inr (fun h4=>h3 ?_);rw[IntKind.wrap_i64];omega
   rw[if_pos h2] at hm;rw[<-hm];rfl
  ·refine aO ?_;change ja _ _ _ _ _;simp[hw1] at hc
   have h2:¬(e2≠0\/b.length≠k+n+16):=by
    rintro (h3|h3)
    ·exact h3 hc.1
    ·have h4:=hc.2;rw[IntKind.wrap_i64] at h4;omega
   rw[if_neg h2] at hm
   have bJj:b.length=k+n+16:=by
    by_cases h5:b.length=k+n+16
    ·exact h5
    ·exact absurd (.inr h5) h2
   have hrg:jb q:=hrg0;refine aB M hI hn (by rfl) (by kernel_rfl) ?_ ?_
   ·simp;rw[hw1,bW]
    exact⟨⟨by omega,by decide⟩,⟨by omega,by omega⟩,⟨by omega,by omega⟩,by omega,hrg,by omega⟩
   have aOR:(rowB 16 fun i=>p_ b ((IntKind.i64.wrap ((k:Int)+(n:Int))).toNat+i))=b.drop (k+n):=by
    rw[hw1,Int.toNat_natCast,nR (by omega)];exact List.take_of_length_le (by rw[List.length_drop];omega)
   generalize b.drop (k+n)=t at *;refine aI (s':=⟨[(9,none,iy (bif opened (qY root) q (strOf c) t then 0 else 8)),(12,none,pg (bif opened (qY root) q (strOf c) t then strOf (dV (qY root) q (strOf c).data.toList) else { data:=#[] }))],[]⟩) (fun a w hg=>(hg.reset (kT:=[9,12]) (kO:=[]) (by rfl) (by simp)).same ?_ ?_) ?_
   ·rw[aOR];exact .cons rfl (.cons rfl .nil)
   ·exact .nil
   unfold Ee at hm
   by_cases ht:qg (qY root) q c=t
   ·have ho:opened (qY root) q (strOf c) t=true:=by unfold opened;rw[dD,ht];simp
    rw[ho,dD];rw[if_pos ht] at hm;have hXl:=eY (qY root) q c;generalize dV (qY root) q c=X at *;change ja _ _ ⟨[(9,none,iy 0),(12,none,pg (strOf X))],[]⟩ _ _;refine aB M hI hn (by rfl) (by kernel_rfl) ?_ ?_
    ·simp;rw[bW];omega
    refine aK (fun a w hg=>⟨.inr rfl,_,?_,hg⟩);refine aC (by rfl) (by simp) (by rfl) (by rfl) ?_;rw[<-hm];show PV.lw [.one (.sl 1 (strOf X).size (p_ (strOf X).data.toList)),_]=_;rw[bW,dD];rfl
   ·have ho:opened (qY root) q (strOf c) t=false:=by unfold opened;rw[dD];simpa using ht
    rw[ho];rw[if_neg ht] at hm;change ja _ _ ⟨[(9,none,iy 8),(12,none,pg { data:=#[] })],[]⟩ _ _;refine aB M hI hn (by rfl) (by kernel_rfl) ?_ ?_
    ·simp
     decide
    refine aK (fun a w hg=>⟨.inr rfl,_,?_,hg⟩);refine aC (by rfl) (by simp) (by rfl) (by rfl) ?_;rw[<-hm];rfl
theorem Xo(x y:Nat)(t u:TypeId)(l l0 l' m m':List PC)(bl:Nat->Nat)(D:Dv):SX [⟨x,t,l,l'⟩,⟨y,u,m,m'⟩] bl D=SX [⟨x,t,l0,l'⟩,⟨y,u,m,m'⟩] bl D:=by
 funext b;simp[SX]
theorem ve.cells2{P:Program}{I:World->Prop}{f:Nat}{new:Bool}{x y:Nat}{t u:TypeId}{l l0 l' m m':List PC}{O:List Acc->Option je}{di:List Acc->Prop}{args:List PV}{res:PV}
  (h:ve P I f new [⟨x,t,l0,l'⟩,⟨y,u,m,m'⟩] O none di args res) (hl:∀ C xs,RL C l xs->RL C l0 xs):ve P I f new [⟨x,t,l,l'⟩,⟨y,u,m,m'⟩] O none di args res:=by
 intro w ok0 vs bl D X0 h1 h2 h3 h4 h5 h6 h7 h8 h9 h10;rw[Xo x y t u l l0 l' m m'] at h1 h2 ⊢;refine (h w ok0 vs bl D X0 h1 h2 h3 h4 h5 h6 h7 (fun o ho=>?_) (fun o ho o' ho' hb=>?_) h10).mono ?_
 ·rcases List.mem_cons.1 ho with rfl|ho
  ·obtain⟨k1,cs,k2,k3⟩:=h8 _ List.mem_cons_self
   exact⟨k1,cs,k2,hl _ _ k3⟩
  ·exact h8 _ (List.mem_cons_of_mem _ ho)
 ·have e:∀ o:Ob,o∈[(⟨x,t,l0,l'⟩:Ob),⟨y,u,m,m'⟩]->∃ o2∈[(⟨x,t,l,l'⟩:Ob),⟨y,u,m,m'⟩],o2.x=o.x:=fun o ho=>by
   rcases List.mem_cons.1 ho with rfl|ho
   ·exact⟨_,List.mem_cons_self,rfl⟩
   ·exact⟨o,List.mem_cons_of_mem _ ho,rfl⟩
  obtain⟨o2,q1,q2⟩:=e o ho;obtain⟨o3,q3,q4⟩:=e o' ho';rw[<-q2,<-q4] at hb ⊢;exact h9 o2 q1 o3 q3 hb
 ·rintro e w' ⟨k1,k2⟩
  refine⟨k1,k2.imp (fun⟨val,k3,k4,k5,k6⟩=>⟨val,k3,k4,fun o ho=>?_,k6⟩) id⟩
  rcases List.mem_cons.1 ho with rfl|ho
  ·exact k5 ⟨x,t,l0,l'⟩ List.mem_cons_self
  ·exact k5 o (List.mem_cons_of_mem _ ho)
def U9(L:List UInt8)(ok:Bool):List Ob:=[⟨px,74,[.sl 1 L.length (p_ L)],[.sl 1 (L.drop (d_ L).2.1).length (p_ (L.drop (d_ L).2.1))]⟩,⟨px+1,4,[.lit (.bool ok)],[.lit (.bool (ok&&(d_ L).2.2==0))]⟩]
theorem aNz{L:List UInt8}{k:Nat}(h:k<=L.length):PC.sl 1 ((L.length:Int)-(k:Int)).toNat (fun i=>p_ L ((k:Int).toNat+i))=.sl 1 (L.drop k).length (p_ (L.drop k)):=by
 rw[Int.toNat_natCast,Nv,List.length_drop];congr 1;omega
theorem Jb(L:List UInt8)(ok:Bool)(hL:jH L):ve Tryz.prog a_ 137 false (U9 L ok) (fun _=>none) none (fun _=>False) [dn (.pt px 0 0),dn (.pt (px+1) 0 0)] (iy (d_ L).1):=by
 have M:=aCS;have hle:=qQ L;refine kD Tryz.func137 rfl rfl (by rfl) (fun A hn hI=>?_);refine aB M hI hn (by rfl) (by kernel_rfl) ?_ ?_
 ·simp
 refine aB M hI hn (by rfl) (by kernel_rfl) ?_ ?_
 ·simp;exact hL
 refine aB M hI hn (by rfl) (by kernel_rfl) ?_ ?_
 ·simp
 refine aI (s':=⟨[(0,none,dn (.pt px 0 0)),(3,none,iy (d_ L).1),(4,none,iy ((d_ L).2.1:Int))],[(px,none,0,.box 74 [.sl 1 L.length (p_ L)]),(px+1,none,0,.box 4 [.lit (.bool (ok&&(d_ L).2.2==0))])]⟩) (fun a w hg=>(hg.reset (kT:=[0,3,4]) (kO:=[px,px+1]) (by rfl) (by simp)).same ?_ ?_) ?_
 ·rw[fQ];exact .cons rfl (.cons rfl (.cons rfl .nil))
 ·refine .cons (.box rfl) (.cons (.box ?_) .nil);rw[fQ]
  cases ok<;>rfl
 refine aB M hI hn (by rfl) (by kernel_rfl) ?_ ?_
 ·simp;exact hle.1
 refine aB M hI hn (by rfl) (by kernel_rfl) ?_ ?_
 ·simp
 refine aK (fun a w hg=>⟨.inr rfl,_,⟨?_,fun o ho=>?_,fun p hp=>by cases hp⟩,hg⟩);rotate_left 1
 ·simp only[U9,List.mem_cons,List.not_mem_nil,or_false] at ho;rcases ho with rfl|rfl
  ·refine⟨_,rfl,?_⟩
   rw[aNz hle.1];exact dX rfl
  ·exact⟨_,rfl,dX rfl⟩
 refine aC (by rfl) (by simp) (by rfl) (by rfl) ?_;rfl
def Ei(i:Nat):PV->Bool
 |.w (.one (.pt x v o))=>Nat.beq x (px+i)&&(Nat.beq v 0&&Nat.beq o 0)
 |_=>false
theorem aVs{i:Nat}{v:PV}(h:Ei i v=true):v=dn (.pt (px+i) 0 0):=by
 unfold Ei at h
 split at h
 ·rw[Bool.and_eq_true,Bool.and_eq_true] at h;rw[gy h.1,gy h.2.1,gy h.2.2]
 ·cases h
def TZ:Spec:=aVk fun os ys=>match os,ys with
 |[(t0,[.sl k len f]),(t1,[.lit (.bool ok)])],[p0,p1]=>
  (match Nat.beq t0 74&&(Nat.beq t1 4&&(Nat.beq k 1&&(Ei 0 p0&&Ei 1 p1))) with
  |true=>some (Fj len f/\jH (rowB len f),[[.sl 1 ((rowB len f).drop (d_ (rowB len f)).2.1).length (p_ ((rowB len f).drop (d_ (rowB len f)).2.1))],[.lit (.bool (ok&&(d_ (rowB len f)).2.2==0))]],iy (d_ (rowB len f)).1)
  |false=>none)
 |_,_=>none
theorem VU:aj Tryz.prog a_ 137 TZ:=by
 refine aOp (aF Tryz.func137 (by kernel_rfl) rfl) (fun os ys p cs r hg hlen hp=>?_)
 split at hg
 ·rename_i t0 k len f t1 ok p0 p1 hos
  split at hg
  ·rename_i hb;simp only[Bool.and_eq_true] at hb;obtain⟨b0,b1,b2,q0,q1⟩:=hb;cases hg
   match os,hos with
   | [o0,o1],hos=>
    simp only[List.map_cons,List.map_nil,List.cons.injEq,Prod.mk.injEq,and_true] at hos;obtain⟨⟨h0,k0⟩,⟨h1,k1⟩⟩:=hos;have e0:=gy b0;have e1:=gy b1
    obtain rfl:=gy b2
    have:=Jb (rowB len f) ok hp.2;unfold Fz Fz Fz;rw[aVs q0,aVs q1,h0,h1,e0,e1,k0,k1];refine ve.cells2 this (fun C xs h=>?_)
    cases h with
    |cons h1 h2=>
     refine .cons ?_ h2;rw[fP];exact h1.zt (bHk hp.1)
  ·cases hg
 ·cases hg
def TY(R:CV):Spec:=bD false fun xs=>match xs with
 |[.w (.agg [.bs 16 root]),.w (.one (.lit (.string s)))]=>some (root.length=16/\s.size<=100000/\zK root s.data.toList=R,R.pv)
 |_=>none
theorem VJ(R:CV):aj Tryz.prog a_ 136 (TY R):=by
 refine bC (aF Tryz.func136 (by kernel_rfl) rfl) (fun xs p r hg hp=>?_)
 split at hg
 ·cases hg;have:=JQ _ _ hp.1 hp.2.1;rw[hp.2.2] at this;exact this
 ·cases hg
def UM:List PC->Option kw
 |[.lit (.int .i64 k),.lit (.int .i64 l),.bs 16 t,.lit (.int .i64 n),.lit (.string p)]=>some ⟨k,l,t,n,p⟩
 |_=>none
theorem aMm{l:List PC}{r:kw}(h:UM l=some r):l=uj r:=by
 unfold UM at h
 split at h
 ·cases h;rfl
 ·cases h
structure Ce(r:kw):Prop where
 kind:jb r.kind
 level:jb r.level
 ol:jb r.ol
 ot:r.ot.length=16
 payload:r.payload.size<=10000
def bBq:Spec:=bD true fun xs=>match xs with
 |[.w (.agg l),.w (.agg [.bs 16 root])]=>(match UM l with
  |some r=>some (Ce r/\root.length=16,pg (fG root r))
  |none=>none)
 |_=>none
theorem bEl:aj Tryz.prog a_ 102 bBq:=by
 refine bC (aF Tryz.func102 (by kernel_rfl) rfl) (fun xs p r hg hp=>?_)
 split at hg
 ·rename_i l root
  cases hq:UM l with
  |none=>rw[hq] at hg;cases hg
  |some q=>
   rw[hq] at hg;cases hg;rw[aMm hq];exact bEh q root hp.1.kind hp.1.level hp.1.ol hp.1.ot hp.2 hp.1.payload
 ·cases hg
def Vd(R:CV):List (Nat×Spec):=(137,TZ)::(136,TY R)::(102,bBq)::QY
theorem Vg(R:CV):∀ p∈Vd R,aj Tryz.prog a_ p.1 p.2:=by
 intro p hp;simp only[Vd,List.mem_cons] at hp;rcases hp with rfl|rfl|rfl|hp
 ·exact VU
 ·exact VJ R
 ·exact bEl
 ·exact KL p hp
theorem aMZ(R:CV):lm Tryz.prog a_ (find (Vd R)):=⟨bV (Vg R),fK⟩
def mgU(root:List UInt8)(s:ByteArray)(e3 e4:Int)(r:kw):kw×Bool:=(r,decide (e3=0/\e4=0/\(r.kind=1\/r.kind=2)/\0<=r.level/\r.level<=16/\fG root r=s))
def mgT(root:List UInt8)(s:ByteArray)(ok1:Bool)(kd lv:Int)(p2:List UInt8):kw×Bool:=
 if ok1=false\/p2.length<16 then (FH,false) else
  mgU root s (d_ (p2.drop 16)).2.2 (jG ((p2.drop 16).drop (d_ (p2.drop 16)).2.1)).2.2 ⟨kd,lv,p2.take 16,(d_ (p2.drop 16)).1,strOf (jG ((p2.drop 16).drop (d_ (p2.drop 16)).2.1)).1⟩
def UB(root:List UInt8)(s:ByteArray):CV->kw×Bool
 |.EH=>(FH,false)
 |.FZ=>(FH,false)
 |.okR p=>mgT root s ((true&&(d_ p).2.2==0)&&(d_ (p.drop (d_ p).2.1)).2.2==0) (d_ p).1 (d_ (p.drop (d_ p).2.1)).1 ((p.drop (d_ p).2.1).drop (d_ (p.drop (d_ p).2.1)).2.1)
def UK(d:kw×Bool):PV:=.lw [.agg (uj d.1),.one (.lit (.bool d.2))]
theorem aOo{root b p:List UInt8}(h:zK root b=.okR p):p.length<=b.length:=by
 have h1:=oO (b.drop (d_ b).2.1);rw[List.length_drop] at h1;unfold zK at h
 split at h
 ·cases h
 split at h
 ·cases h
 unfold Ee at h
 split at h
 ·cases h;rw[eY];omega
 ·cases h
theorem bEi(root:List UInt8)(s:ByteArray)(hr:root.length=16)(hs:s.size<=5000):gQ Tryz.prog a_ 99 true [.w (.agg [.bs 16 root]),pg s] (UK (UB root s (zK root s.data.toList))):=by
 obtain⟨R,hR⟩:∃ R,zK root s.data.toList=R:=⟨_,rfl⟩;rw[hR];have M:=aMZ R;refine bM Tryz.func99 rfl rfl bU (fun A hS hn hI=>?_);refine aB M hI hn (by rfl) (by kernel_rfl) ?_ ?_
 ·simp
 cases R with
 | EH=>
  refine aB M hI hn (by rfl) (by kernel_rfl) ?_ ?_
  ·simp
   exact⟨hr,by omega,hR⟩
  refine aP ?_;refine aB M hI hn (by rfl) (by kernel_rfl) ?_ ?_
  ·simp
  refine aH (by rfl) (fun hc=>?_) (fun hc=>?_)
  ·refine aB M hI hn (by rfl) (by kernel_rfl) ?_ ?_
   ·simp
   refine aK (fun a w hg=>⟨.inr rfl,_,?_,hg⟩);refine aC (by rfl) (by simp) (by rfl) (by rfl) ?_;rfl
  ·cases hc
 | FZ=>
  refine aB M hI hn (by rfl) (by kernel_rfl) ?_ ?_
  ·simp
   exact⟨hr,by omega,hR⟩
  refine aP ?_;refine aB M hI hn (by rfl) (by kernel_rfl) ?_ ?_
  ·simp
  refine aH (by rfl) (fun hc=>?_) (fun hc=>?_)
  ·refine aB M hI hn (by rfl) (by kernel_rfl) ?_ ?_
   ·simp
   refine aK (fun a w hg=>⟨.inr rfl,_,?_,hg⟩);refine aC (by rfl) (by simp) (by rfl) (by rfl) ?_;rfl
  ·cases hc
 | okR p=>
  refine aB M hI hn (by rfl) (by kernel_rfl) ?_ ?_
  ·simp
   exact⟨hr,by omega,hR⟩
  refine aP ?_;refine aB M hI hn (by rfl) (by kernel_rfl) ?_ ?_
  ·simp
  refine aH (by rfl) (fun hc=>?_) (fun hc=>?_)
  ·cases hc
  ·refine aO ?_;change ja _ _ _ _ _;refine aB M hI hn (by rfl) (by kernel_rfl) ?_ ?_
   ·simp
   have hpl:=aOo hR;rw[show s.data.toList.length=s.size from Array.length_toList] at hpl;have hle1:=qQ p;have hrg1:=iR p;refine aB M hI hn (by rfl) (by kernel_rfl) ?_ ?_
   ·simp;unfold jH;rw[fP];omega
   obtain⟨p2,hp2⟩:∃ p2,(p.drop (d_ p).2.1).drop (d_ (p.drop (d_ p).2.1)).2.1=p2:=⟨_,rfl⟩;obtain⟨ok1,hok1⟩:∃ ok1,((true&&(d_ p).2.2==0)&&(d_ (p.drop (d_ p).2.1)).2.2==0)=ok1:=⟨_,rfl⟩
   refine aI (s':=⟨[(1,none,pg s),(2,none,dn (.pt 0 0 0)),(4,none,dn (.pt 1 0 0)),(5,none,dn (.pt 2 0 0)),(6,none,dn (.pt 1006 0 0)),(7,none,dn (.fn (.func 137) [] [.pt 1006 0 0,.pt 2 0 0]))],
    [(0,none,0,.box 23 [.bs 16 root]),(1,none,0,.box 149 (uj ⟨(d_ p).1,(d_ (p.drop (d_ p).2.1)).1,yh,0,aS⟩)),(2,none,0,.box 4 [.lit (.bool ok1)]),(1006,none,0,.box 74 [.sl 1 p2.length (p_ p2)])]⟩) (fun a w hg=>(hg.reset (kT:=[1,2,4,5,6,7]) (kO:=[0,1,2,1006]) (by rfl) (by simp)).same ?_ ?_) ?_
   ·exact .cons rfl (.cons rfl (.cons rfl (.cons rfl (.cons rfl (.cons rfl .nil)))))
   ·refine .cons (.box rfl) (.cons (.box ?_) (.cons (.box ?_) (.cons (.box ?_) .nil)))
    ·simp only[fQ];rfl
    ·simp only[fQ];rw[<-hok1]
    ·simp only[fQ];rw[<-hp2]
   have hrg2:=iR (p.drop (d_ p).2.1)
   have bIW:p2.length<=p.length:=by rw[<-hp2,List.length_drop,List.length_drop];omega
   obtain⟨d,hd⟩:∃ d,UB root s (.okR p)=d:=⟨_,rfl⟩;rw[hd];unfold UB at hd;dsimp only at hd;rw[hp2,hok1] at hd;unfold mgT at hd;generalize (d_ p).1=kd at *;generalize (d_ (p.drop (d_ p).2.1)).1=lv at *;clear hp2 hok1 hR;refine aP ?_;refine aB M hI hn (by rfl) (by kernel_rfl) ?_ ?_
   ·simp
   refine aH (by rfl) (fun hc=>?_) (fun hc=>?_)
   ·refine aB M hI hn (by rfl) (by kernel_rfl) ?_ ?_
    ·simp
    refine aK (fun a w hg=>⟨.inr rfl,_,?_,hg⟩);refine aC (by rfl) (by simp) (by rfl) (by rfl) ?_
    have h:ok1=false\/p2.length<16:=by
     cases ok1
     ·exact .inl rfl
     ·simp at hc;exact .inr (by omega)
    rw[if_pos h] at hd;rw[<-hd];rfl
   ·refine aO ?_;change ja _ _ _ _ _
    have h:¬(ok1=false\/p2.length<16):=by
     cases ok1
     ·cases hc
     ·simp at hc;intro h;rcases h with h|h
      ·cases h
      ·omega
    have h16:16<=p2.length:=by
     rcases Nat.lt_or_ge p2.length 16 with h2|h2
     ·exact absurd (.inr h2) h
     ·exact h2
    obtain rfl:ok1=true:=by
     cases ok1
     ·exact absurd (.inl rfl) h
     ·rfl
    rw[if_neg h] at hd;refine aB M hI hn (by rfl) (by kernel_rfl) ?_ ?_
    ·simp;omega
    refine aI (s':=⟨[(1,none,pg s),(2,none,dn (.pt 0 0 0)),(4,none,dn (.pt 1 0 0)),(5,none,dn (.pt 2 0 0)),(6,none,dn (.pt 1006 0 0)),(7,none,dn (.fn (.func 137) [] [.pt 1006 0 0,.pt 2 0 0]))],
     [(0,none,0,.box 23 [.bs 16 root]),(1,none,0,.box 149 (uj ⟨kd,lv,p2.take 16,0,aS⟩)),(2,none,0,.box 4 [.lit (.bool true)]),(1006,none,0,.box 74 [.sl 1 (p2.drop 16).length (p_ (p2.drop 16))])]⟩) (fun a w hg=>(hg.reset (kT:=[1,2,4,5,6,7]) (kO:=[0,1,2,1006]) (by rfl) (by simp)).same ?_ ?_) ?_
    ·exact .cons rfl (.cons rfl (.cons rfl (.cons rfl (.cons rfl (.cons rfl .nil)))))
    ·refine .cons (.box rfl) (.cons (.box ?_) (.cons (.box rfl) (.cons (.box ?_) .nil)))
     ·rw[show (rowB 16 fun i=>p_ p2 (Int.toNat 0+i))=p2.take 16 from (nR (L:=p2) (k:=0) (m:=16) (by omega)).trans (by rw[List.drop_zero])];rfl
     ·exact congrArg (fun c=>[c]) (aNz h16)
    have hp3:(p2.drop 16).length<=p2.length:=by rw[List.length_drop];omega
    have htl:(p2.take 16).length=16:=by rw[List.length_take];omega
    generalize p2.drop 16=p3 at *;generalize p2.take 16=t at *;have hle3:=qQ p3;have hrg3:=iR p3;refine aB M hI hn (by rfl) (by kernel_rfl) ?_ ?_
    ·simp;unfold jH;omega
    have hp4:(p3.drop (d_ p3).2.1).length<=p3.length:=by rw[List.length_drop];omega
    refine aI (s':=⟨[(1,none,pg s),(2,none,dn (.pt 0 0 0)),(4,none,dn (.pt 1 0 0)),(5,none,dn (.pt 2 0 0)),(6,none,dn (.pt 1006 0 0))],
     [(0,none,0,.box 23 [.bs 16 root]),(1,none,0,.box 149 (uj ⟨kd,lv,t,(d_ p3).1,aS⟩)),(2,none,0,.box 4 [.lit (.bool ((d_ p3).2.2==0))]),(1006,none,0,.box 74 [.sl 1 (p3.drop (d_ p3).2.1).length (p_ (p3.drop (d_ p3).2.1))])]⟩) (fun a w hg=>(hg.reset (kT:=[1,2,4,5,6]) (kO:=[0,1,2,1006]) (by rfl) (by simp)).same ?_ ?_) ?_
    ·exact .cons rfl (.cons rfl (.cons rfl (.cons rfl (.cons rfl .nil))))
    ·refine .cons (.box rfl) (.cons (.box ?_) (.cons (.box ?_) (.cons (.box ?_) .nil)))
     ·simp only[fQ];rfl
     ·simp only[fQ];rfl
     ·simp only[fQ]
    generalize p3.drop (d_ p3).2.1=p4 at *;generalize d_ p3=g3 at *;obtain⟨ol,u3,e3⟩:=g3;dsimp only at *;have bIT:=oO p4;refine aB M hI hn (by rfl) (by kernel_rfl) ?_ ?_
    ·simp;unfold jH;omega
    refine aI (s':=⟨[(1,none,pg s),(2,none,dn (.pt 0 0 0)),(4,none,dn (.pt 1 0 0)),(5,none,dn (.pt 2 0 0)),(8,none,pg (strOf (jG p4).1)),(10,none,iy (jG p4).2.2)],
     [(0,none,0,.box 23 [.bs 16 root]),(1,none,0,.box 149 (uj ⟨kd,lv,t,ol,aS⟩)),(2,none,0,.box 4 [.lit (.bool (e3==0))])]⟩) (fun a w hg=>(hg.reset (kT:=[1,2,4,5,8,10]) (kO:=[0,1,2]) (by rfl) (by simp)).same ?_ ?_) ?_
    ·rw[fQ];exact .cons rfl (.cons rfl (.cons rfl (.cons rfl (.cons rfl (.cons rfl .nil)))))
    ·exact .cons (.box rfl) (.cons (.box rfl) (.cons (.box rfl) .nil))
    generalize jG p4=g4 at *;obtain⟨pay,u4,e4⟩:=g4;dsimp only at *;refine aB M hI hn (by rfl) (by kernel_rfl) ?_ ?_
    ·simp
    refine aB M hI hn (by rfl) (by kernel_rfl) ?_ ?_
    ·simp
     exact⟨fun h1 h2 h3=>⟨⟨h1,h2⟩,h3⟩,fun _ _ _ _ _=>⟨⟨hrg1,hrg2,hrg3,htl,by show (strOf pay).size<=10000;rw[bW];omega⟩,hr⟩⟩
    refine aB M hI hn (by rfl) (by kernel_rfl) ?_ ?_
    ·simp
    refine aK (fun a w hg=>⟨.inr rfl,_,?_,hg⟩);refine aC (by rfl) (by simp) (by rfl) (by rfl) ?_;rw[<-hd];refine congrArg (fun b=>PV.lw [.agg (uj ⟨kd,lv,t,ol,strOf pay⟩),.one (.lit (.bool b))]) ?_;unfold mgU;dsimp only;generalize fG root ⟨kd,lv,t,ol,strOf pay⟩=E
    have hE:E.toList=s.toList↔E=s:=by
     rw[ByteArray.toList_eq,ByteArray.toList_eq]
     exact⟨fun h=>ByteArray.ext (Array.ext' h),fun h=>by rw[h]⟩
    rw[Bool.eq_iff_iff];simp[and_assoc,hE]
theorem noM{I:World->Prop}:lm Tryz.prog I (find ([]:List (Nat×Spec))):=⟨fun f sp h=>(by cases h),(by kernel_rfl)⟩
theorem Ls{I:World->Prop}(b c:Int):C_ Tryz.prog I 108 (ah.Dp b c) [.w (.one .dv),iy b,iy c] iy:=by
 intro O l;have M:=noM (I:=I);refine kD Tryz.func108 rfl rfl rfl (fun A hn hI=>?_);refine aB M hI hn (by rfl) (by kernel_rfl) ?_ ?_
 ·simp
 refine aB M hI hn (by rfl) (by kernel_rfl) ?_ ?_
 ·exact⟨aKw (oI _) (oI _),trivial⟩
 refine aK (fun a w hg=>⟨.inr rfl,_,⟨?_,(fun o ho=>by cases ho),fun p hp=>?_⟩,hg⟩);rotate_left 1
 ·cases hp;rfl
 refine aC (by rfl) (by simp) (by rfl) (by rfl) ?_;rfl
theorem bCy{I:World->Prop}(b c:Int):C_ Tryz.prog I 110 (ah.BH b c) [.w (.one .dv),iy b,iy c] (fun _=>.lw []):=by
 intro O l;have M:=noM (I:=I);refine kD Tryz.func110 rfl rfl rfl (fun A hn hI=>?_);refine aQ M hI hn (by rfl) (by kernel_rfl) ?_ ?_
 ·exact⟨aKw (oI _) (oI _),trivial⟩
 intro a w hg
 refine⟨.inl rfl,_,⟨?_,(fun o ho=>by cases ho),fun p hp=>?_⟩,hg⟩
 rotate_left 1
 ·cases hp;rfl
 refine aC (by rfl) (by simp) (by rfl) (by rfl) ?_;rfl
def NJ(p:Int->Int->ah Int):List PV->Option (Prop×ah Int×(Int->PV))
 |[.w (.one (.lit (.int .i64 b))),.w (.one (.lit (.int .i64 c)))]=>some (True,p b c,iy)
 |_=>none
def Fa(p:Int->Int->ah Unit)(q:Int->Int->Prop):List PV->Option (Prop×ah Unit×(Unit->PV))
 |[.w (.one (.lit (.int .i64 b))),.w (.one (.lit (.int .i64 c)))]=>some (q b c,p b c,fun _=>.lw [])
 |_=>none
theorem bFl{I:World->Prop}:aj Tryz.prog I 108 (lU (NJ ah.Dp)):=
 oN (aF Tryz.func108 (by kernel_rfl) rfl) (fun ys c p v h _=>by
  unfold NJ at h
  split at h
  ·cases h;exact Ls _ _
  ·cases h)
theorem aYh{I:World->Prop}:aj Tryz.prog I 110 (lU (Fa ah.BH fun _ _=>True)):=
 oN (aF Tryz.func110 (by kernel_rfl) rfl) (fun ys c p v h _=>by
  unfold Fa at h
  split at h
  ·cases h;exact bCy _ _
  ·cases h)
theorem aOs(l:List Int)(x:Int):nonzero (l++[x])=nonzero l+if x=0 then 0 else 1:=by
 unfold nonzero;rw[List.filter_append,List.length_append]
 by_cases h:x=0<;>simp[h]
theorem aIm(l:List Int):nonzero l<=l.length:=List.length_filter_le _ _
theorem aOr{l:List Int}{k:Nat}(h:k<l.length):nonzero (l.take (k+1))=nonzero (l.take k)+if l.getD k 0=0 then 0 else 1:=by
 rw[List.take_add_one,zH h,zG,zH h];exact aOs _ _
theorem bAh{k:Nat}{f g:Nat->List PC}(h1:∀ i,i<k->(f i).all (dG false)=true)(h2:(g 0).all (dG false)=true):∀ i,i<k+1->(qm k f g i).all (dG false)=true:=fun i hi=>by
 unfold qm
 by_cases h:i<k
 ·rw[if_pos h];exact h1 i h
 ·obtain rfl:i=k:=by omega
  rw[if_neg h,Nat.sub_self];exact h2
def aCO(l:List Int)(k:Nat):St:=⟨[(0,none,dn (.sl 1 l.length (D_ l))),(3,none,iy (nonzero (l.take k))),(6,none,dn (.sl 1 l.length (D_ l))),(7,none,iy l.length),(8,none,iy k)],[]⟩
theorem Qd{I:World->Prop}(hI0:∀ w w',Ext w w'->I w->I w')(l:List Int)(hl:l.length<=1000):gQ Tryz.prog I 109 true [dn (.sl 1 l.length (D_ l))] (qi (rF l)):=by
 have M:=noM (I:=I);refine bM Tryz.func109 rfl rfl hI0 (fun A hS hn hI=>?_);refine aB M hI hn (by rfl) (by kernel_rfl) ?_ ?_
 ·simp
 refine aB M hI hn (by rfl) (by kernel_rfl) ?_ ?_
 ·simp
 refine aP ?_;refine aB M hI hn (by rfl) (by kernel_rfl) ?_ ?_
 ·simp
 refine bP ?_;refine aI (s':=aCO l 0) (fun a w hg=>(hg.reset (kT:=[0,3,6,7,8]) (kO:=[]) (by rfl) (by simp)).same ?_ ?_) ?_
 ·exact .cons rfl (.cons rfl (.cons rfl (.cons rfl (.cons rfl .nil))))
 ·exact .nil
 refine iY l.length (fun k s=>s=aCO l k) 0 rfl (by omega) (fun k s hJ hk=>?_);subst hJ;refine aB M hI hn (by rfl) (by kernel_rfl) ?_ ?_
 ·simp
 refine aP ?_;refine aH (by rfl) (fun hc=>?_) (fun hc=>?_)
 ·have hk2:k<l.length:=by simpa using hc
  have hnk:=aOr hk2;have hnl:=aIm (l.take k);rw[List.length_take] at hnl;refine aO ?_;change ja _ _ _ _ _;refine aP ?_;refine bP ?_;refine aB M hI hn (by rfl) (by kernel_rfl) ?_ ?_
  ·simp;omega
  refine aB M hI hn (by rfl) (by kernel_rfl) ?_ ?_
  ·simp
  refine aH (by rfl) (fun hc=>?_) (fun hc=>?_)
  ·have hx:¬l.getD k 0=0:=by
    have h:(l.getD k 0 != 0)=true:=hc
    simpa using h
   refine aQ M hI hn (by rfl) (by kernel_rfl) ?_ ?_
   ·simp
   change ja _ _ _ _ _;refine aQ M hI hn (by rfl) (by kernel_rfl) ?_ ?_
   ·simp
   intro a w hg
   refine⟨k+1,_,by omega,by omega,rfl,(hg.reset (kT:=[0,3,6,7,8]) (kO:=[]) (by rfl) (by simp)).same ?_ ?_⟩
   ·refine .cons rfl (.cons ?_ (.cons rfl (.cons rfl (.cons (by rw[gU k (by omega)]) .nil))));rw[gU _ (by omega),hnk,if_neg hx]
   ·exact .nil
  ·have hx:l.getD k 0=0:=by
    have h:(l.getD k 0 != 0)=false:=hc
    simpa using h
   refine aO ?_;change ja _ _ _ _ _;refine aQ M hI hn (by rfl) (by kernel_rfl) ?_ ?_
   ·simp
   intro a w hg
   refine⟨k+1,_,by omega,by omega,rfl,(hg.reset (kT:=[0,3,6,7,8]) (kO:=[]) (by rfl) (by simp)).same ?_ ?_⟩
   ·refine .cons rfl (.cons ?_ (.cons rfl (.cons rfl (.cons (by rw[gU k (by omega)]) .nil))));rw[hnk,if_pos hx,Nat.add_zero]
   ·exact .nil
 ·have hkk:k=l.length:=by
   have:¬k<l.length:=by simpa using hc
   omega
  subst hkk;have hnl:=aIm l;refine iM ?_;change ja _ _ _ _ _;refine aB M hI hn (by rfl) (by kernel_rfl) ?_ ?_
  ·simp
  refine aK (fun a w hg=>⟨.inr rfl,_,?_,hg⟩);refine aC (by rfl) (by simp) (by rfl) (by rfl) ?_;refine congrArg qi ?_;rw[List.take_length];unfold rF
  have e:IntKind.i64.wrap (2*(nonzero l:Int))=2*(nonzero l:Int):=by rw[IntKind.wrap_i64];omega
  have e2:∀ x:Int,decide (x > (l.length:Int))=decide ((l.length:Int)<x):=fun x=>rfl;refine decide_eq_decide.2 ?_;show IntKind.i64.wrap (2*(nonzero l:Int)) > (l.length:Int)↔_;rw[e];omega
def Vl:List PV->Option (Prop×PV)
 |[.w (.one (.sl 1 n f))]=>some (aMt n f/\n<=1000,qi (rF (UW n f)))
 |_=>none
theorem KQ{I:World->Prop}(hI0:∀ w w',Ext w w'->I w->I w'):aj Tryz.prog I 109 (bD true Vl):=by
 refine bC (aF Tryz.func109 (by kernel_rfl) rfl) (fun xs p r hg hp=>?_);unfold Vl at hg
 split at hg
 ·rename_i n f;cases hg;have h:=Qd hI0 (UW n f) (by rw[yU];exact hp.2);rw[yU] at h;intro w ok0 vs hI hV
  match vs,hV with
  |[v],⟨k1,_⟩=>exact h w ok0 [v] hI ⟨.w (.one (k1.inv.zt (LC hp.1))),trivial⟩
 ·cases hg
def BM:List (Nat×Spec):=[(108,lU (NJ ah.Dp)),(110,lU (Fa ah.BH fun _ _=>True)),(109,bD true Vl)]
theorem U0{I:World->Prop}(hI0:∀ w w',Ext w w'->I w->I w'):∀ p∈BM,aj Tryz.prog I p.1 p.2:=by
 intro p hp;simp only[BM,List.mem_cons,List.not_mem_nil,or_false] at hp;rcases hp with rfl|rfl|rfl
 ·exact bFl
 ·exact aYh
 ·exact KQ hI0
theorem rdM{I:World->Prop}(hI0:∀ w w',Ext w w'->I w->I w'):lm Tryz.prog I (find BM):=⟨bV (U0 hI0),fK⟩
def OU(kd b c:Int)(l:List Acc):Nat->List Acc
 |0=>l
 |k+1=>OU kd b c l k++[⟨kd,b,3*c+k,aS⟩]
def rdV(O:List Acc->Option je)(b c:Int)(l:List Acc)(k:Nat):Int:=(ans O (OU 1 b c l (k+1))).val
def VC(O:List Acc->Option je)(b c:Int)(l:List Acc):List Int:=[rdV O b c l 0,rdV O b c l 1,rdV O b c l 2]
theorem RY(O:List Acc->Option je)(b c:Int)(l:List Acc):go O (ah.read b c) l=(rF (VC O b c l),OU 1 b c l 3):=rfl
theorem aCq(kd b c:Int)(l:List Acc)(k:Nat):OU kd b c l k <+: OU kd b c l (k+1):=List.prefix_append _ _
theorem bCs(kd b c:Int)(l:List Acc):∀ k,l <+: OU kd b c l k
 |0=>List.prefix_refl _
 |k+1=>(bCs kd b c l k).trans (aCq kd b c l k)
theorem J7(kd b c:Int)(l:List Acc){k:Nat}(hk:k<3):OU kd b c l (k+1) <+: OU kd b c l 3:=by
 match k,hk with
 |0,_=>exact (aCq _ _ _ _ 1).trans (aCq _ _ _ _ 2)
 |1,_=>exact aCq _ _ _ _ 2
 |2,_=>exact List.prefix_refl _
theorem TT{c:Int}{k:Nat}(hc:0<=c/\c<=100000)(hk:k<3):IntKind.i64.wrap (IntKind.i64.wrap (3*c)+(k:Int))=3*c+k:=by
 rw[IntKind.wrap_i64,IntKind.wrap_i64];omega
def aBY(O:List Acc->Option je)(di:List Acc->Prop)(b c:Int)(l:List Acc)(k:Nat):St:=⟨[(0,none,.w (.one .dv)),(1,none,iy b),(2,none,iy c),(7,none,dn (.ow 5009 0 1 0 k)),(9,none,iy k)],
 [(dx,none,0,.dev O di (OU 1 b c l k)),(5009,none,0,.arr 3 1 k (D_ (VC O b c l)))]⟩
theorem J5{I:World->Prop}(hI0:∀ w w',Ext w w'->I w->I w')(b c:Int)(hbc:0<=c/\c<=100000):C_ Tryz.prog I 83 (ah.read b c) [.w (.one .dv),iy b,iy c] qi:=by
 intro O l;have M:=rdM hI0
 have hbt:Tryz.prog.types[3].bytes=8:=by kernel_rfl
 have hst:Tryz.prog.types[3].size=1:=by kernel_rfl
 refine kD Tryz.func83 rfl rfl rfl (fun A hn hI=>?_);generalize hstp:(fun h=>l <+: h/\h <+: (go O (ah.read b c) l).2)=di;refine aB M hI hn (by rfl) (by kernel_rfl) ?_ ?_
 ·simp
 refine aB M hI hn (by rfl) (by kernel_rfl) ?_ ?_
 ·simp
 refine aP ?_;refine aB M hI hn (by rfl) (by kernel_rfl) ?_ ?_
 ·simp
 refine bP ?_;refine aI (s':=aBY O di b c l 0) (fun a w hg=>((hg.nilRow (x:=5009) (e:=3) (n:=1) (t:=7) (by rfl) (by rfl)).reset (kT:=[0,1,2,7,9]) (kO:=[900000,5009]) (by rfl) (by simp)).same ?_ ?_) ?_
 ·exact .cons rfl (.cons rfl (.cons rfl (.cons rfl (.cons rfl .nil))))
 ·exact .cons (.dev rfl) (.cons (.arr rfl (fun i hi=>by omega)) .nil)
 refine iY 3 (fun k s=>s=aBY O di b c l k) 0 rfl (by omega) (fun k s hJ hk=>?_);subst hJ;refine aB M hI hn (by rfl) (by kernel_rfl) ?_ ?_
 ·simp
 refine aP ?_;refine aH (by rfl) (fun hc=>?_) (fun hc=>?_)
 ·have hk2:k<3:=by have:=of_decide_eq_true hc;omega
  have hw:=TT hbc hk2;refine aO ?_;change ja _ _ _ _ _;refine aP ?_;refine bP ?_;refine aB M hI hn (by rfl) (by kernel_rfl) ?_ ?_
  ·simp
  refine aQ M hI hn (by rfl) (by kernel_rfl) ?_ ?_
  ·simp
   refine⟨fun h h1 h2 _=>?_,by rw[hbt];omega⟩
   rw[hw] at h2;rw[<-hstp]
   exact⟨(bCs 1 b c l k).trans h1,h2.trans (J7 1 b c l hk2)⟩
  change ja _ _ _ _ _;refine aQ M hI hn (by rfl) (by kernel_rfl) ?_ ?_
  ·simp
  intro a w hg
  refine⟨k+1,_,by omega,by omega,rfl,(hg.reset (kT:=[0,1,2,7,9]) (kO:=[900000,5009]) (by rfl) ?_).same ?_ ?_⟩
  ·simp only[All,and_true,List.append_nil,List.nil_append];exact bAh (fun i hi=>rfl) rfl
  ·exact .cons rfl (.cons rfl (.cons rfl (.cons rfl (.cons (by rw[gU k (by omega)]) .nil))))
  ·refine .cons (.dev ?_) (.cons (.arr rfl (aWx (fun i hi=>rfl) ?_)) .nil)
   ·rw[hw];rfl
   ·rw[hw]
    match k,hk2 with
    |0,_=>rfl
    |1,_=>rfl
    |2,_=>rfl
 ·have hkk:k=3:=by
   have:=of_decide_eq_false hc;omega
  subst hkk;refine iM ?_;change ja _ _ _ _ _;refine aB M hI hn (by rfl) (by kernel_rfl) ?_ ?_
  ·simp;exact fun i _=>qG rfl
  refine aK (fun a w hg=>⟨.inr rfl,_,⟨?_,(fun o ho=>by cases ho),fun p hp=>?_⟩,hg⟩);rotate_left 1
  ·cases hp;rfl
  refine aC (by rfl) (by simp) (by rfl) (by rfl) ?_;rw[RY];have:=aRy (VC O b c l);simp only[Nat.zero_add];exact congrArg (fun x=>qi (rF x)) this
def aCE(O:List Acc->Option je)(di:List Acc->Prop)(b c:Int)(l:List Acc)(k:Nat):St:=⟨[(0,none,.w (.one .dv)),(1,none,iy b),(2,none,iy c),(7,none,iy k)],[(dx,none,0,.dev O di (OU 2 b c l k))]⟩
theorem aYf{I:World->Prop}(hI0:∀ w w',Ext w w'->I w->I w')(b c:Int)(hbc:0<=c/\c<=100000):C_ Tryz.prog I 84 (ah.rq b c) [.w (.one .dv),iy b,iy c] (fun _=>.lw []):=by
 intro O l;have M:=rdM hI0;refine kD Tryz.func84 rfl rfl rfl (fun A hn hI=>?_);generalize hstp:(fun h=>l <+: h/\h <+: (go O (ah.rq b c) l).2)=di;refine aB M hI hn (by rfl) (by kernel_rfl) ?_ ?_
 ·simp
 refine bP ?_;refine aI (s':=aCE O di b c l 0) (fun a w hg=>(hg.reset (kT:=[0,1,2,7]) (kO:=[900000]) (by rfl) (by simp)).same ?_ ?_) ?_
 ·exact .cons rfl (.cons rfl (.cons rfl (.cons rfl .nil)))
 ·exact .cons (.dev rfl) .nil
 refine iY 3 (fun k s=>s=aCE O di b c l k) 0 rfl (by omega) (fun k s hJ hk=>?_);subst hJ;refine aB M hI hn (by rfl) (by kernel_rfl) ?_ ?_
 ·simp
 refine aP ?_;refine aH (by rfl) (fun hc=>?_) (fun hc=>?_)
 ·have hk2:k<3:=by have:=of_decide_eq_true hc;omega
  have hw:=TT hbc hk2;refine aO ?_;change ja _ _ _ _ _;refine aP ?_;refine bP ?_;refine aB M hI hn (by rfl) (by kernel_rfl) ?_ ?_
  ·simp
  refine aQ M hI hn (by rfl) (by kernel_rfl) ?_ ?_
  ·simp;refine fun h h1 h2 _=>?_;rw[hw] at h2;rw[<-hstp]
   exact⟨(bCs 2 b c l k).trans h1,h2.trans (J7 2 b c l hk2)⟩
  change ja _ _ _ _ _;refine aQ M hI hn (by rfl) (by kernel_rfl) ?_ ?_
  ·simp
  intro a w hg
  refine⟨k+1,_,by omega,by omega,rfl,(hg.reset (kT:=[0,1,2,7]) (kO:=[900000]) (by rfl) (by simp)).same ?_ ?_⟩
  ·exact .cons rfl (.cons rfl (.cons rfl (.cons (by rw[gU k (by omega)]) .nil)))
  ·refine .cons (.dev ?_) .nil;rw[hw];rfl
 ·have hkk:k=3:=by
   have:=of_decide_eq_false hc;omega
  subst hkk;refine iM ?_;change Aft _ _ _;intro a w hg
  refine⟨.inl rfl,_,⟨?_,(fun o ho=>by cases ho),fun p hp=>?_⟩,hg⟩
  rotate_left 1
  ·cases hp;rfl
  refine aC (by rfl) (by simp) (by rfl) (by rfl) ?_;rfl
def X_:List PV->Option (Prop×ah Bool×(Bool->PV))
 |[.w (.one (.lit (.int .i64 b))),.w (.one (.lit (.int .i64 c)))]=>some (0<=c/\c<=100000,ah.read b c,qi)
 |_=>none
theorem bCp{I:World->Prop}(hI0:∀ w w',Ext w w'->I w->I w'):aj Tryz.prog I 83 (lU X_):=
 oN (aF Tryz.func83 (by kernel_rfl) rfl) (fun ys c p v h hc=>by
  unfold X_ at h
  split at h
  ·cases h;exact J5 hI0 _ _ hc
  ·cases h)
theorem aSi{I:World->Prop}(hI0:∀ w w',Ext w w'->I w->I w'):aj Tryz.prog I 84 (lU (Fa ah.rq fun _ c=>0<=c/\c<=100000)):=
 oN (aF Tryz.func84 (by kernel_rfl) rfl) (fun ys c p v h hc=>by
  unfold Fa at h
  split at h
  ·cases h;exact aYf hI0 _ _ hc
  ·cases h)
theorem aRf{P:Program}{A:kz}{s:St}{Q:Exit->Act->World->Prop}{x y:Code}(J:St->Prop)(h:ja P A s x (Exit.then (fun a w=>∃ s',J s'/\o7 A s' a w) Q))(h2:∀ s',J s'->ja P A s' y Q):ja P A s (.seq x y) Q:=fun a w hg AX=>
 wp_seq (wp_mono (h a w hg (fun chain a w hd hp=>AX chain a w hd hp)) (fun e a' w' he=>by
  cases e<;>first|exact he|(obtain⟨s',h3,h4⟩:=he;exact h2 s' h3 a' w' h4 AX)))
def lvL:List (Nat×Spec):=(83,lU X_)::(84,lU (Fa ah.rq fun _ c=>0<=c/\c<=100000))::BM
theorem UE{I:World->Prop}(hI0:∀ w w',Ext w w'->I w->I w'):∀ p∈lvL,aj Tryz.prog I p.1 p.2:=by
 intro p hp;simp only[lvL,List.mem_cons] at hp;rcases hp with rfl|rfl|hp
 ·exact bCp hI0
 ·exact aSi hI0
 ·exact U0 hI0 p hp
theorem lvM{I:World->Prop}(hI0:∀ w w',Ext w w'->I w->I w'):lm Tryz.prog I (find lvL):=⟨bV (UE hI0),fK⟩
def Left{α:Type}(O:List Acc->Option je)(p:ah α)(l:List Acc)(q:ah α)(k:List Acc):Prop:=l <+: k/\go O p l=go O q k
theorem Left.start{α:Type}(O:List Acc->Option je)(p:ah α)(l:List Acc):Left O p l p l:=⟨List.prefix_refl _,rfl⟩
theorem Left.step{α β:Type}{O:List Acc->Option je}{p:ah α}{l k:List Acc}{q:ah β}{f:β->ah α}(h:Left O p l (q.bind f) k):Left O p l (f (go O q k).1) (go O q k).2:=
 ⟨h.1.trans (vG O q k),h.2.trans (xZ O q f k)⟩
theorem Left.di{α β:Type}{O:List Acc->Option je}{p:ah α}{l k:List Acc}{q:ah β}{f:β->ah α}(h:Left O p l (q.bind f) k):∀ g,k <+: g->g <+: (go O q k).2->O g=none->l <+: g/\g <+: (go O p l).2:=fun g h1 h2 _=>by
 refine⟨h.1.trans h1,h2.trans ?_⟩
 rw[h.step.2];exact vG _ _ _
def Vq(O:List Acc->Option je)(di:List Acc->Prop)(b:Int)(m:Nat)(n:Nat)(lk:List Acc):St:=⟨[(0,none,.w (.one .dv)),(1,none,iy b),(2,none,iy m),(7,none,iy n)],[(dx,none,0,.dev O di lk)]⟩
def aCU(O:List Acc->Option je)(di:List Acc->Prop)(b:Int)(m:Nat)(n k:Nat)(lk:List Acc):St:=⟨[(0,none,.w (.one .dv)),(1,none,iy b),(2,none,iy m),(7,none,iy n),(19,none,iy n),(20,none,iy k)],[(dx,none,0,.dev O di lk)]⟩
theorem aFe{I:World->Prop}(hI0:∀ w w',Ext w w'->I w->I w')(b:Int)(m:Nat)(hm:m<=1000):C_ Tryz.prog I 55 (ah.ig b m) [.w (.one .dv),iy b,iy m] (fun n=>iy n):=by
 intro O l;have M:=lvM hI0;refine kD Tryz.func55 rfl rfl rfl (fun A hn hI=>?_);generalize hstp:(fun h=>l <+: h/\h <+: (go O (ah.ig b m) l).2)=di;refine aB M hI hn (by rfl) (by kernel_rfl) ?_ ?_
 ·simp
 refine bBe ?_;refine aB M hI hn (by rfl) (by kernel_rfl) ?_ ?_
 ·simp
 refine aP ?_;refine bBf ?_;change ja _ _ _ _ _;refine aRf (fun s'=>∃ n lk,s'=Vq O di b m n lk/\n<=m/\Left O (ah.ig b m) l ((ah.down b n 0).bind fun _=>.ret n) lk) ?_ ?_
 ·refine bP ?_;refine aI (s':=Vq O di b m 0 l) (fun a w hg=>(hg.reset (kT:=[0,1,2,7]) (kO:=[900000]) (by rfl) (by simp)).same ?_ ?_) ?_
  ·exact .cons rfl (.cons rfl (.cons rfl (.cons rfl .nil)))
  ·exact .cons (.dev rfl) .nil
  refine iY m (fun n s=>∃ lk,s=Vq O di b m n lk/\Left O (ah.ig b m) l ((ah.up b (m-n) n).bind fun n=>(ah.down b n 0).bind fun _=>.ret n) lk) 0 ⟨l,rfl,Left.start _ _ _⟩ (by omega) (fun n s hJ hk=>?_);obtain⟨lk,rfl,hL⟩:=hJ;refine aP ?_;refine aB M hI hn (by rfl) (by kernel_rfl) ?_ ?_
  ·simp
  refine aH (by rfl) (fun hc=>?_) (fun hc=>?_)
  ·have hn2:n<m:=by have:=of_decide_eq_true hc;omega
   have hmn:m-n=(m-(n+1))+1:=by omega
   rw[hmn,ah.up,ah.bind_assoc] at hL;refine aO ?_;change ja _ _ _ _ _;refine bP ?_;refine aP ?_;refine aB M hI hn (by rfl) (by kernel_rfl) ?_ ?_
   ·simp
    refine⟨by omega,fun h h1 h2 h3=>?_⟩
    rw[<-hstp];exact hL.di h h1 h2 h3
   refine aH (by rfl) (fun hc=>?_) (fun hc=>?_)
   ·have hb:(go O (ah.read b n) lk).1=false:=by
     have h:(!(go O (ah.read b n) lk).1)=true:=hc
     simpa using h
    have hL2:=hL.step;rw[hb,if_neg (by simp)] at hL2;refine iM ?_;intro a w hg
    refine⟨_,⟨n,_,rfl,by omega,hL2⟩,(hg.reset (kT:=[0,1,2,7]) (kO:=[900000]) (by rfl) (by simp)).same ?_ ?_⟩
    ·exact .cons rfl (.cons rfl (.cons rfl (.cons rfl .nil)))
    ·exact .cons (.dev rfl) .nil
   ·have hb:(go O (ah.read b n) lk).1=true:=by
     have h:(!(go O (ah.read b n) lk).1)=false:=hc
     simpa using h
    have hL2:=hL.step;rw[hb,if_pos rfl] at hL2;refine aO ?_;change ja _ _ _ _ _;refine aQ M hI hn (by rfl) (by kernel_rfl) ?_ ?_
    ·simp
    intro a w hg
    refine⟨n+1,_,by omega,by omega,⟨_,rfl,hL2⟩,(hg.reset (kT:=[0,1,2,7]) (kO:=[900000]) (by rfl) (by simp)).same ?_ ?_⟩
    ·exact .cons rfl (.cons rfl (.cons rfl (.cons (by rw[gU n (by omega)]) .nil)))
    ·exact .cons (.dev rfl) .nil
  ·have hnm:n=m:=by have:=of_decide_eq_false hc;omega
   refine iM ?_;intro a w hg
   refine⟨_,⟨n,lk,rfl,by omega,?_⟩,(hg.reset (kT:=[0,1,2,7]) (kO:=[900000]) (by rfl) (by simp)).same ?_ ?_⟩
   ·rw[hnm,Nat.sub_self] at hL;rw[hnm];exact hL
   ·exact .cons rfl (.cons rfl (.cons rfl (.cons rfl .nil)))
   ·exact .cons (.dev rfl) .nil
 ·rintro s' ⟨n,lk,rfl,hnm,hL⟩;refine aP ?_;refine aB M hI hn (by rfl) (by kernel_rfl) ?_ ?_
  ·simp
  refine bP ?_;refine aI (s':=aCU O di b m n 0 lk) (fun a w hg=>(hg.reset (kT:=[0,1,2,7,19,20]) (kO:=[900000]) (by rfl) (by simp)).same ?_ ?_) ?_
  ·exact .cons rfl (.cons rfl (.cons rfl (.cons rfl (.cons rfl (.cons rfl .nil)))))
  ·exact .cons (.dev rfl) .nil
  refine iY n (fun k s=>∃ lk,s=aCU O di b m n k lk/\Left O (ah.ig b m) l ((ah.down b (n-k) k).bind fun _=>.ret n) lk) 0 ⟨lk,rfl,hL⟩ (by omega) (fun k s hJ hk=>?_);obtain⟨lk2,rfl,hL2⟩:=hJ;refine aB M hI hn (by rfl) (by kernel_rfl) ?_ ?_
  ·simp
  refine aP ?_;refine aH (by rfl) (fun hc=>?_) (fun hc=>?_)
  ·have hk2:k<n:=by have:=of_decide_eq_true hc;omega
   have hnk:n-k=(n-(k+1))+1:=by omega
   rw[hnk,ah.down,ah.bind_assoc] at hL2;refine aO ?_;change ja _ _ _ _ _;refine aP ?_;refine bP ?_;refine aB M hI hn (by rfl) (by kernel_rfl) ?_ ?_
   ·simp
   refine aQ M hI hn (by rfl) (by kernel_rfl) ?_ ?_
   ·simp
    refine⟨by omega,fun h h1 h2 h3=>?_⟩
    rw[<-hstp];exact hL2.di h h1 h2 h3
   change ja _ _ _ _ _;refine aQ M hI hn (by rfl) (by kernel_rfl) ?_ ?_
   ·simp
   intro a w hg
   refine⟨k+1,_,by omega,by omega,⟨_,rfl,hL2.step⟩,(hg.reset (kT:=[0,1,2,7,19,20]) (kO:=[900000]) (by rfl) (by simp)).same ?_ ?_⟩
   ·exact .cons rfl (.cons rfl (.cons rfl (.cons rfl (.cons rfl (.cons (by rw[gU k (by omega)]) .nil)))))
   ·exact .cons (.dev rfl) .nil
  ·have hkk:k=n:=by have:=of_decide_eq_false hc;omega
   rw[hkk,Nat.sub_self] at hL2;have hE:go O (ah.ig b m) l=(n,lk2):=hL2.2;refine iM ?_;change ja _ _ _ _ _;refine aB M hI hn (by rfl) (by kernel_rfl) ?_ ?_
   ·simp
   refine aK (fun a w hg=>⟨.inr rfl,_,⟨?_,(fun o ho=>by cases ho),fun p hp=>?_⟩,hg⟩);rotate_left 1
   ·cases hp;rw[hE];rfl
   refine aC (by rfl) (by simp) (by rfl) (by rfl) ?_;rw[hE]
def Et:List PV->Option (Prop×ah Nat×(Nat->PV))
 |[.w (.one (.lit (.int .i64 b))),.w (.one (.lit (.int .i64 m)))]=>some (0<=m/\m<=1000,ah.ig b m.toNat,fun n=>iy n)
 |_=>none
theorem aBx{I:World->Prop}(hI0:∀ w w',Ext w w'->I w->I w'):aj Tryz.prog I 55 (lU Et):=
 oN (aF Tryz.func55 (by kernel_rfl) rfl) (fun ys c p v h hc=>by
  unfold Et at h
  split at h
  ·rename_i b m;cases h;obtain⟨k,rfl⟩:∃ k:Nat,m=(k:Int):=⟨m.toNat,by omega⟩;rw[Int.toNat_natCast];exact aFe hI0 b k (by omega)
  ·cases h)
def raL:List (Nat×Spec):=(55,lU Et)::lvL
theorem aCB{I:World->Prop}(hI0:∀ w w',Ext w w'->I w->I w'):∀ p∈raL,aj Tryz.prog I p.1 p.2:=by
 intro p hp;simp only[raL,List.mem_cons] at hp;rcases hp with rfl|hp
 ·exact aBx hI0
 ·exact UE hI0 p hp
theorem raM{I:World->Prop}(hI0:∀ w w',Ext w w'->I w->I w'):lm Tryz.prog I (find raL):=⟨bV (aCB hI0),fK⟩
def aCC(O:List Acc->Option je)(di:List Acc->Prop)(b:Int)(t:Nat)(n:Nat)(lk:List Acc):St:=⟨[(0,none,.w (.one .dv)),(1,none,iy b),(3,none,iy t),(10,none,iy n)],[(dx,none,0,.dev O di lk)]⟩
def raV(p:Nat×Int):PV:=.lw [.one (.lit (.int .i64 p.1)),.one (.lit (.int .i64 p.2))]
theorem aSh{I:World->Prop}(hI0:∀ w w',Ext w w'->I w->I w')(b:Int)(m t:Nat)(hm:m<=1000)(ht:t<=1000):C_ Tryz.prog I 100 (ah.jh b m t) [.w (.one .dv),iy b,iy m,iy t] raV:=by
 intro O l;have M:=raM hI0;refine kD Tryz.func100 rfl rfl rfl (fun A hn hI=>?_);generalize hstp:(fun h=>l <+: h/\h <+: (go O (ah.jh b m t) l).2)=di;have hL0:Left O (ah.jh b m t) l ((ah.ig b m).bind fun n=>ah.qw b (t-n) n) l:=Left.start _ _ _;have hn0:(go O (ah.ig b m) l).1<=m:=UU O (aFf b m) l;have hL:=hL0.step;refine aB M hI hn (by rfl) (by kernel_rfl) ?_ ?_
 ·simp
 refine aB M hI hn (by rfl) (by kernel_rfl) ?_ ?_
 ·simp
  refine⟨by omega,fun h h1 h2 h3=>?_⟩
  rw[<-hstp];exact hL0.di h h1 h2 h3
 obtain⟨n0,l0,hq⟩:∃ n0 l0,go O (ah.ig b m) l=(n0,l0):=⟨_,_,rfl⟩;rw[hq] at hn0 hL;dsimp only at hn0 hL;refine aP ?_;refine bP ?_;refine aI (s':=aCC O di b t n0 l0) (fun a w hg=>(hg.reset (kT:=[0,1,3,10]) (kO:=[900000]) (by rfl) (by simp)).same ?_ ?_) ?_
 ·exact .cons rfl (.cons rfl (.cons rfl (.cons (by show iy ((go O (ah.ig b m) l).1:Int)=_;rw[hq]) .nil)))
 ·exact .cons (.dev (by show (go O (ah.ig b m) l).2=_;rw[hq])) .nil
 refine iY (m+t) (fun n s=>∃ lk,s=aCC O di b t n lk/\Left O (ah.jh b m t) l (ah.qw b (t-n) n) lk) n0 ⟨l0,rfl,hL⟩ (by omega) (fun n s hJ hk=>?_);obtain⟨lk,rfl,hL⟩:=hJ;refine aP ?_;refine aB M hI hn (by rfl) (by kernel_rfl) ?_ ?_
 ·simp
 refine aH (by rfl) (fun hc=>?_) (fun hc=>?_)
 ·have hn2:n<t:=by have:=of_decide_eq_true hc;omega
  rw[show t-n=(t-(n+1))+1 by omega,ah.qw] at hL;have hL2:=hL.step;have hL3:=hL2.step;refine aO ?_;change ja _ _ _ _ _;refine aP ?_;refine bP ?_;refine aB M hI hn (by rfl) (by kernel_rfl) ?_ ?_
  ·simp
   refine⟨by omega,fun h h1 h2 h3=>?_⟩
   rw[<-hstp];exact hL.di h h1 h2 h3
  refine aB M hI hn (by rfl) (by kernel_rfl) ?_ ?_
  ·simp
   refine⟨by omega,fun h h1 h2 h3=>?_⟩
   rw[<-hstp];exact hL2.di h h1 h2 h3
  refine aH (by rfl) (fun hc=>?_) (fun hc=>?_)
  ·have hb:(go O (ah.read b n) (go O (ah.rq b n) lk).2).1=false:=by
    have h:(!(go O (ah.read b n) (go O (ah.rq b n) lk).2).1)=true:=hc
    simpa using h
   rw[hb,if_neg (by simp)] at hL3;have hE:=hL3.2;refine aB M hI hn (by rfl) (by kernel_rfl) ?_ ?_
   ·simp
   refine aK (fun a w hg=>⟨.inr rfl,_,⟨?_,(fun o ho=>by cases ho),fun p hp=>?_⟩,hg⟩);rotate_left 1
   ·cases hp;rw[hE];rfl
   refine aC (by rfl) (by simp) (by rfl) (by rfl) ?_;rw[hE];rfl
  ·have hb:(go O (ah.read b n) (go O (ah.rq b n) lk).2).1=true:=by
    have h:(!(go O (ah.read b n) (go O (ah.rq b n) lk).2).1)=false:=hc
    simpa using h
   rw[hb,if_pos rfl] at hL3;refine aO ?_;change ja _ _ _ _ _;refine aQ M hI hn (by rfl) (by kernel_rfl) ?_ ?_
   ·simp
   intro a w hg
   refine⟨n+1,_,by omega,by omega,⟨_,rfl,hL3⟩,(hg.reset (kT:=[0,1,3,10]) (kO:=[900000]) (by rfl) (by simp)).same ?_ ?_⟩
   ·exact .cons rfl (.cons rfl (.cons rfl (.cons (by rw[gU n (by omega)]) .nil)))
   ·exact .cons (.dev rfl) .nil
 ·have hn2:t-n=0:=by have:=of_decide_eq_false hc;omega
  rw[hn2] at hL;have hE:go O (ah.jh b m t) l=((n,0),lk):=hL.2;refine iM ?_;change ja _ _ _ _ _;refine aB M hI hn (by rfl) (by kernel_rfl) ?_ ?_
  ·simp
  refine aK (fun a w hg=>⟨.inr rfl,_,⟨?_,(fun o ho=>by cases ho),fun p hp=>?_⟩,hg⟩);rotate_left 1
  ·cases hp;rw[hE];rfl
  refine aC (by rfl) (by simp) (by rfl) (by rfl) ?_;rw[hE];rfl
def NH:List PV->Option (Prop×ah (Nat×Int)×(Nat×Int->PV))
 |[.w (.one (.lit (.int .i64 b))),.w (.one (.lit (.int .i64 m))),.w (.one (.lit (.int .i64 t)))]=>some ((0<=m/\m<=1000)/\0<=t/\t<=1000,ah.jh b m.toNat t.toNat,raV)
 |_=>none
theorem aOg{I:World->Prop}(hI0:∀ w w',Ext w w'->I w->I w'):aj Tryz.prog I 100 (lU NH):=
 oN (aF Tryz.func100 (by kernel_rfl) rfl) (fun ys c p v h hc=>by
  unfold NH at h
  split at h
  ·rename_i b m t;cases h;obtain⟨k,rfl⟩:∃ k:Nat,m=(k:Int):=⟨m.toNat,by omega⟩;obtain⟨j,rfl⟩:∃ j:Nat,t=(j:Int):=⟨t.toNat,by omega⟩;rw[Int.toNat_natCast,Int.toNat_natCast];exact aSh hI0 b k j (by omega) (by omega)
  ·cases h)
def aTn:List PV->Option (Prop×ah Dw×(Dw->PV))
 |[.w (.one (.lit (.int .i64 rec)))]=>some (jb rec,ah.load rec,EX)
 |_=>none
def aTi:List PV->Option (Prop×ah Dw×(Dw->PV))
 |[.w (.one (.lit (.int .i64 rec))),.w (.one (.lit (.string c)))]=>some (jb rec,ah.save rec c,EX)
 |_=>none
theorem KW:aj Tryz.prog a_ 98 (lT aTn):=
 pJ (aF Tryz.func98 (by kernel_rfl) rfl) (fun ys c p v h hc=>by
  unfold aTn at h
  split at h
  ·cases h;exact Kr _ hc
  ·cases h)
theorem KR:aj Tryz.prog a_ 101 (lT aTi):=
 pJ (aF Tryz.func101 (by kernel_rfl) rfl) (fun ys c p v h hc=>by
  unfold aTi at h
  split at h
  ·cases h;exact IL _ hc _
  ·cases h)
def I5:Spec:=bD true fun xs=>match xs with
 |[.w (.agg [.bs 16 root]),.w (.one (.lit (.string s)))]=>some (root.length=16/\s.size<=5000,UK (UB root s (zK root s.data.toList)))
 |_=>none
theorem Qj:aj Tryz.prog a_ 99 I5:=by
 refine bC (aF Tryz.func99 (by kernel_rfl) rfl) (fun xs p r hg hp=>?_)
 split at hg
 ·cases hg;exact bEi _ _ hp.1 hp.2
 ·cases hg
def QX:List (Nat×Spec):=(73,aKv ny aTl)::(98,lT aTn)::(101,lT aTi)::(55,lU Et)::(100,lU NH) ::
 (99,I5)::(102,bBq)::(82,iO ny ul aWk)::Zf
theorem KJ:∀ p∈QX,aj Tryz.prog a_ p.1 p.2:=by
 intro p hp;simp only[QX,List.mem_cons] at hp;rcases hp with rfl|rfl|rfl|rfl|rfl|rfl|rfl|rfl|hp
 ·exact bDx
 ·exact KW
 ·exact KR
 ·exact aBx bU
 ·exact aOg bU
 ·exact Qj
 ·exact bEl
 ·exact aVq
 ·exact aLh p hp
theorem Qa:lm Tryz.prog a_ (find QX):=⟨bV KJ,fK⟩
def Oj(root:List UInt8)(s:ByteArray):kw×Bool:=UB root s (zK root s.data.toList)
def qj(m:jl):ah kw:=(ah.load 3).bind fun s=>(gZ (s.err==0) s.err).bind fun _=>(gZ (Oj m.root s.content).2 8).bind fun _=>.ret (Oj m.root s.content).1
def y_(m:jl)(r:kw):ah Unit:=(ah.save 3 (fG m.root r)).bind fun s=>(gZ (s.err==0) s.err).bind fun _=>.ret ()
def jP(b:Int)(t:Nat):ah Nat:=(ah.jh b 16 t).bind fun p=>(gZ (p.2==0) p.2).bind fun _=>.ret p.1
def pW(f:Nat):ah Unit:=(jP 3 (f+1)).bind fun n=>(gZ ((n:Int)==((f+1:Nat):Int)) 21).bind fun _=>.ret ()
def pF(f:Nat):ah Unit:=(gZ (((f % 2:Nat):Int)==0) 21).bind fun _=>(gZ (decide ((f:Int)<16)) 17).bind fun _=>.ret ()
theorem aQc(rec:Int)(b:List UInt8):(oh rec b).2.length<=2000:=by
 unfold oh
 split
 ·simp
 ·split
  ·simp
  ·show (rf b).1.length<=2000;omega
theorem aOy(rec:Int):ah.All (fun o:Dw=>o.content.size<=2000) (ah.load rec):=by
 unfold ah.load
 split
 ·exact (by decide:(0:Nat)<=2000)
 ·refine ah.All.bind (R:=fun p:(Int×List UInt8)×Nat=>p.1.2.length<=2000) ?_ (fun p hp=>?_)
  ·unfold ah.cur;refine ah.All.bind (R:=fun _=>True) (ah.All.yx _) (fun a _=>?_);refine ah.All.bind (R:=fun _=>True) (ah.All.yx _) (fun b _=>?_);show (ui (oh rec a) (oh rec b)).1.2.length<=2000;unfold ui
   split
   ·exact aQc _ _
   ·exact aQc _ _
  ·show (GL p.1).content.size<=2000;unfold GL
   split
   ·exact (by decide:(0:Nat)<=2000)
   ·show (strOf p.1.2).size<=2000;rw[bW];exact hp
theorem Rf(m:jl)(f:Int)(hr:m.root.length=16):vU Tryz.prog a_ ny 76 ul (ku m f) (qj m) [] (fun r=>.w (.agg (uj r))):=by
 intro O l hO hF;have M:=Qa;have hL0:Left O (qj m) l (qj m) l:=Left.start _ _ _;have hL1:=Left.step (q:=ah.load 3) hL0;have hsz:=UU O (aOy 3) l;generalize hstp:(fun h=>l <+: h/\h <+: (go O (qj m) l).2)=di;refine lC Tryz.func76 rfl rfl (fun A hn hI=>?_);refine aB M hI hn (by rfl) (by kernel_rfl) ?_ ?_
 ·simp
 refine aB M hI hn (by rfl) (by kernel_rfl) ?_ ?_
 ·simp
  refine⟨⟨hO,by unfold jb;omega⟩,?_⟩
  intro h h1 h2 h3;rw[<-hstp];exact Left.di (q:=ah.load 3) hL0 h h1 h2 h3
 obtain⟨s,l1,hq⟩:∃ s l1,go O (ah.load 3) l=(s,l1):=⟨_,_,rfl⟩;rw[hq] at hL1 hsz;dsimp only at hL1 hsz;refine aI (s':=⟨[(0,none,dn (.pt px 0 0)),(2,none,dn (.pt 0 0 0)),(3,none,dn (.pt 1005 0 0))],[(dx,none,0,.dev O di l1),(px,none,0,.box ul (.dv::ku m f)),(0,none,0,.box 149 (uj FH)),(1005,none,0,.box 164 (Zl s))]⟩) (fun a w hg=>(hg.reset (kT:=[0,2,3]) (kO:=[dx,px,0,1005]) (by rfl) (by simp)).same ?_ ?_) ?_
 ·exact .cons rfl (.cons rfl (.cons rfl .nil))
 ·refine .cons (.dev ?_) (.cons (.box rfl) (.cons (.box rfl) (.cons (.box ?_) .nil)))
  ·show (go O (ah.load 3) l).2=_;rw[hq]
  ·show Zl (go O (ah.load 3) l).1=_;rw[hq]
 have hL2:=Left.step hL1;refine aB M hI hn (by rfl) (by kernel_rfl) ?_ ?_
 ·simp
  refine⟨⟨hO,hF⟩,?_⟩
  intro h h1 h2 h3;rw[<-hstp];exact Left.di hL1 h h1 h2 h3
 obtain⟨l2,hq2⟩:∃ l2,(go O (gZ (s.err==0) s.err) l1).2=l2:=⟨_,rfl⟩;rw[hq2] at hL2;refine aI (s':=⟨[(0,none,dn (.pt px 0 0)),(2,none,dn (.pt 0 0 0)),(3,none,dn (.pt 1005 0 0))],[(dx,none,0,.dev O di l2),(px,none,0,.box ul (.dv::ku m f)),(0,none,0,.box 149 (uj FH)),(1005,none,0,.box 164 (Zl s))]⟩) (fun a w hg=>(hg.reset (kT:=[0,2,3]) (kO:=[dx,px,0,1005]) (by rfl) (by simp)).same ?_ ?_) ?_
 ·exact .cons rfl (.cons rfl (.cons rfl .nil))
 ·exact .cons (.dev hq2) (.cons (.box rfl) (.cons (.box rfl) (.cons (.box rfl) .nil)))
 refine aB M hI hn (by rfl) (by kernel_rfl) ?_ ?_
 ·simp
  exact⟨hr,by omega⟩
 refine aB M hI hn (by rfl) (by kernel_rfl) ?_ ?_
 ·simp
  refine⟨⟨hO,hF⟩,?_⟩
  intro h h1 h2 h3;rw[<-hstp];exact Left.di hL2 h h1 h2 h3
 have hL3:=Left.step hL2;refine aB M hI hn (by rfl) (by kernel_rfl) ?_ ?_
 ·simp
 refine aK (fun a w hg=>⟨.inr rfl,_,⟨?_,⟨ku m f,rfl,dX rfl⟩,?_⟩,hg⟩);rotate_left 1
 ·rw[hL3.2];rfl
 refine aC (by rfl) (by simp) (by rfl) (by rfl) ?_;rw[hL3.2];rfl
theorem Q3(m:jl)(f:Int)(r:kw)(hr:m.root.length=16)(hrec:Ce r):vU Tryz.prog a_ ny 79 ul (ku m f) (y_ m r) [.w (.agg (uj r))] (fun _=>.lw []):=by
 intro O l hO hF;have M:=Qa;have hL0:Left O (y_ m r) l (y_ m r) l:=Left.start _ _ _;have hL1:=Left.step (q:=ah.save 3 (fG m.root r)) hL0;generalize hstp:(fun h=>l <+: h/\h <+: (go O (y_ m r) l).2)=di;refine lC Tryz.func79 rfl rfl (fun A hn hI=>?_);refine aB M hI hn (by rfl) (by kernel_rfl) ?_ ?_
 ·simp
 refine aB M hI hn (by rfl) (by kernel_rfl) ?_ ?_
 ·simp
  refine⟨⟨hrec,hr⟩,⟨hO,by unfold jb;omega⟩,?_⟩
  intro h h1 h2 h3;rw[<-hstp];exact Left.di (q:=ah.save 3 (fG m.root r)) hL0 h h1 h2 h3
 obtain⟨s,l1,hq⟩:∃ s l1,go O (ah.save 3 (fG m.root r)) l=(s,l1):=⟨_,_,rfl⟩;rw[hq] at hL1;dsimp only at hL1;refine aI (s':=⟨[(0,none,dn (.pt px 0 0)),(4,none,dn (.pt 1012 0 0))],[(dx,none,0,.dev O di l1),(px,none,0,.box ul (.dv::ku m f)),(1012,none,0,.box 164 (Zl s))]⟩) (fun a w hg=>(hg.reset (kT:=[0,4]) (kO:=[dx,px,1012]) (by rfl) (by simp)).same ?_ ?_) ?_
 ·exact .cons rfl (.cons rfl .nil)
 ·refine .cons (.dev ?_) (.cons (.box rfl) (.cons (.box ?_) .nil))
  ·show (go O (ah.save 3 (fG m.root r)) l).2=_;rw[hq]
  ·show Zl (go O (ah.save 3 (fG m.root r)) l).1=_;rw[hq]
 have hL2:=Left.step hL1;refine aQ M hI hn (by rfl) (by kernel_rfl) ?_ ?_
 ·simp
  refine⟨⟨hO,hF⟩,?_⟩
  intro h h1 h2 h3;rw[<-hstp];exact Left.di hL1 h h1 h2 h3
 intro a w hg
 refine⟨.inl rfl,_,⟨?_,⟨ku m f,rfl,dX rfl⟩,?_⟩,hg⟩
 rotate_left 1
 ·rw[hL2.2];rfl
 refine aC (by rfl) (by simp) (by rfl) (by rfl) ?_;rfl
theorem bCv(m:jl)(f:Int)(b:Int)(t:Nat)(ht:t<=1000):vU Tryz.prog a_ ny 78 ul (ku m f) (jP b t) [iy b,iy t] (fun n=>iy n):=by
 intro O l hO hF;have M:=Qa;have hL0:Left O (jP b t) l (jP b t) l:=Left.start _ _ _;have hL1:=Left.step (q:=ah.jh b 16 t) hL0;generalize hstp:(fun h=>l <+: h/\h <+: (go O (jP b t) l).2)=di;refine lC Tryz.func78 rfl rfl (fun A hn hI=>?_);refine aB M hI hn (by rfl) (by kernel_rfl) ?_ ?_
 ·simp
 refine aB M hI hn (by rfl) (by kernel_rfl) ?_ ?_
 ·simp
  refine⟨by omega,?_⟩
  intro h h1 h2 h3;rw[<-hstp];exact Left.di (q:=ah.jh b 16 t) hL0 h h1 h2 h3
 obtain⟨q,l1,hq⟩:∃ q l1,go O (ah.jh b 16 t) l=(q,l1):=⟨_,_,rfl⟩;rw[hq] at hL1;dsimp only at hL1;refine aI (s':=⟨[(7,none,iy q.1),(8,none,iy q.2)],[(dx,none,0,.dev O di l1),(px,none,0,.box ul (.dv::ku m f))]⟩) (fun a w hg=>(hg.reset (kT:=[7,8]) (kO:=[dx,px]) (by rfl) (by simp)).same ?_ ?_) ?_
 ·refine .cons ?_ (.cons ?_ .nil)
  ·show iy (go O (ah.jh b 16 t) l).1.1=_;rw[hq]
  ·show iy (go O (ah.jh b 16 t) l).1.2=_;rw[hq]
 ·refine .cons (.dev ?_) (.cons (.box rfl) .nil);show (go O (ah.jh b 16 t) l).2=_;rw[hq]
 have hL2:=Left.step hL1;refine aB M hI hn (by rfl) (by kernel_rfl) ?_ ?_
 ·simp
  refine⟨⟨hO,hF⟩,?_⟩
  intro h h1 h2 h3;rw[<-hstp];exact Left.di hL1 h h1 h2 h3
 refine aB M hI hn (by rfl) (by kernel_rfl) ?_ ?_
 ·simp
 refine aK (fun a w hg=>⟨.inr rfl,_,⟨?_,⟨ku m f,rfl,dX rfl⟩,?_⟩,hg⟩);rotate_left 1
 ·rw[hL2.2];rfl
 refine aC (by rfl) (by simp) (by rfl) (by rfl) ?_;rw[hL2.2];rfl
def aMg(l:List PC)(ys:List PV):Option (Prop×ah Nat×(Nat->PV)):=match CU l,ys with
 |some _,[.w (.one (.lit (.int .i64 b))),.w (.one (.lit (.int .i64 t)))]=>some (0<=t/\t<=1000,jP b t.toNat,fun n=>iy n)
 |_,_=>none
theorem J8:aj Tryz.prog a_ 78 (iO ny ul aMg):=
 jY (aF Tryz.func78 (by kernel_rfl) rfl) (fun l ys c p v h hc=>by
  unfold aMg at h
  split at h
  ·rename_i mf b t ho;cases h;rw[vT (m:=mf.1) (f:=mf.2) ho];obtain⟨k,rfl⟩:∃ k:Nat,t=(k:Int):=⟨t.toNat,by omega⟩;rw[Int.toNat_natCast];exact bCv mf.1 mf.2 b k (by omega)
  ·cases h)
def QW:List (Nat×Spec):=(78,iO ny ul aMg)::QX
theorem KI:∀ p∈QW,aj Tryz.prog a_ p.1 p.2:=by
 intro p hp;simp only[QW,List.mem_cons] at hp;rcases hp with rfl|hp
 ·exact J8
 ·exact KJ p hp
theorem aMY:lm Tryz.prog a_ (find QW):=⟨bV KI,fK⟩
theorem KD(m:jl)(f:Nat)(hf:f<=900):vU Tryz.prog a_ ny 77 ul (ku m f) (pW f) [] (fun _=>.lw []):=by
 intro O l hO hF;have M:=aMY;have hL0:Left O (pW f) l (pW f) l:=Left.start _ _ _;have hL1:=Left.step (q:=jP 3 (f+1)) hL0;have hL2:=Left.step hL1
 have hw:IntKind.i64.wrap ((f:Int)+1)=((f+1:Nat):Int):=by rw[IntKind.wrap_i64];omega
 generalize hstp:(fun h=>l <+: h/\h <+: (go O (pW f) l).2)=di;obtain⟨g,hg⟩:∃ g:Int,(f:Int)=g:=⟨_,rfl⟩;rw[hg] at hw ⊢;refine lC Tryz.func77 rfl rfl (fun A hn hI=>?_);refine aQ M hI hn (by rfl) (by kernel_rfl) ?_ ?_
 ·simp;rw[hw]
  refine⟨⟨hO,hF,by omega,by omega⟩,?_,⟨hO,hF⟩,?_⟩
  ·intro h h1 h2 h3;rw[<-hstp];exact Left.di (q:=jP 3 (f+1)) hL0 h h1 h2 h3
  ·intro h h1 h2 h3;rw[<-hstp];exact Left.di hL1 h h1 h2 h3
 have hend:(go O (gZ (((go O (jP 3 (IntKind.i64.wrap (g+1)).toNat) l).1:Int)==IntKind.i64.wrap (g+1)) 21) (go O (jP 3 (IntKind.i64.wrap (g+1)).toNat) l).2).2=(go O (pW f) l).2:=by
  rw[hw,hL2.2];rfl
 intro a w hg
 refine⟨.inl rfl,_,⟨?_,⟨ku m g,rfl,dX rfl⟩,?_⟩,hg⟩
 rotate_left 1
 ·exact congrArg (fun h=>some (none,0,og.dev O di h)) hend
 refine aC (by rfl) (by simp) (by rfl) (by rfl) ?_;rfl
theorem J4(m:jl)(f:Nat)(_:f<=900):vU Tryz.prog a_ ny 74 ul (ku m f) (pF f) [] (fun _=>.lw []):=by
 intro O l hO hF;have M:=Qa;have hL0:Left O (pF f) l (pF f) l:=Left.start _ _ _;have hL1:=Left.step (q:=gZ (((f % 2:Nat):Int)==0) 21) hL0;have hL2:=Left.step hL1;generalize hstp:(fun h=>l <+: h/\h <+: (go O (pF f) l).2)=di;refine lC Tryz.func74 rfl rfl (fun A hn hI=>?_)
 have hm:((f:Int).tmod 2==0)=(((f % 2:Nat):Int)==0):=by
  rw[show (f:Int).tmod 2=((f % 2:Nat):Int) from rfl]
 refine aB M hI hn (by rfl) (by kernel_rfl) ?_ ?_
 ·simp
  refine⟨⟨hO,hF⟩,?_⟩
  rw[hm];intro h h1 h2 h3;rw[<-hstp];exact Left.di (q:=gZ (((f % 2:Nat):Int)==0) 21) hL0 h h1 h2 h3
 refine aQ M hI hn (by rfl) (by kernel_rfl) ?_ ?_
 ·simp
  refine⟨⟨hO,hF⟩,?_⟩
  intro h h1 h2 h3;rw[<-hstp];exact Left.di hL1 h h1 h2 h3
 intro a w hg
 refine⟨.inl rfl,_,⟨?_,⟨ku m f,rfl,dX rfl⟩,?_⟩,hg⟩
 rotate_left 1
 ·rw[hL2.2];rfl
 refine aC (by rfl) (by simp) (by rfl) (by rfl) ?_;rfl
end Pv
end Go.Proofs.YtndpjopifkbgiaaGreatDoor
