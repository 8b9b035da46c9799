/-
  Several texts in one file: each has its own heading below.
-/
import Derived.Test.YtndpjopifkbgiaaGreatDoorMsL
import Derived.Test.YtndpjopifkbgiaaGreatDoorMsJ
import Derived.Test.YtndpjopifkbgiaaGreatDoorMsI
import Derived.Test.YtndpjopifkbgiaaGreatDoorProg
import Derived.Test.YtndpjopifkbgiaaGreatDoorMsA
set_option maxRecDepth 100000
set_option maxHeartbeats 4000000
namespace Go.Proofs.YtndpjopifkbgiaaGreatDoor
open Go.RowKit Tryz
open _root_.List renaming length_drop->AC,mem_cons->xn,length_append->ed,drop->aDf,mem_cons_of_mem->Y3,mem_cons_self->Xv,take_length->aAe,prefix_refl->aAE,length_take->uk,take_of_length_le->IR,take_add_one->aDh,not_mem_nil->Xq
open _root_.Go.IntKind renaming wrap_i64->TC
open _root_.Int renaming toNat_natCast->MM
open _root_.Array renaming length_toList->mf
open _root_.Go renaming World->ae
open _root_.Nat renaming zero_le->x8,beq->bz,sub_self->YB
theorem aRm(a:List (List UInt8))(k:Nat)(h:k<a.length):(a.take (k+1)).flatten=(a.take k).flatten++a[k]:=by rw[aDh,zH h,List.flatten_append];simp
theorem bCy(a:List (List UInt8))(m:Nat)(h:∀ p∈a,p.length<=m):a.flatten.length<=a.length*m:=by
 induction a with
 |nil=>simp|cons p l b=>have e:=h p ay;have d:=b (fun q c=>h q (by simp[c]));rw[List.flatten_cons,ed,List.length_cons,Nat.succ_mul];omega
theorem aRl(a:List (List UInt8))(k:Nat):(a.take k).flatten.length<=a.flatten.length:=by have h:=congrArg (fun l=>l.flatten.length) (List.take_append_drop k a);simp only[List.flatten_append,ed] at h;omega
theorem VC{w:ae}{B:Nat}{e:TypeId}{s:Nat}{v:Value}{n:Nat}{xs:List Value}(h:w.ownsRow B e s v n xs):∀ g,v.ownBlock=some g->B<=g:=by intro g a;rcases h.2 with⟨rfl,rfl⟩|⟨c,cap,d,rfl,b,_⟩;simp[Value.ownBlock] at a;simp[Value.ownBlock] at a;omega
theorem bDo(pv:Value)(a:List (List UInt8))(w:ae)(J:Parts w pv a)(a0:a.length<=1000)(j:∀ p∈a,p.length<=1000000)(h0:0<a.flatten.length)(hS:∀ X,Ext w X->Parts X pv a) :
  Calls prog 144 #[pv] w fun e S=>∃ A c,e=.returned (.slice A a.flatten.length c)/\S.ownsRow w.heap.size 5 1 (.slice A a.flatten.length c) a.flatten.length (a.flatten.map gq)/\Ext w S:=by
 have HP:=hide J;have HS:=hide hS;have O:=hide j;have D:=bCy a 1000000 j;have G:=hide (aRl a);obtain⟨A1,c1,rfl⟩:∃ A c,pv=.slice A a.length c:=by obtain⟨U,_,⟨_,A,c,h,_⟩,_⟩:=J;exact⟨A,c,h⟩
 obtain⟨T,L⟩:∃ T,T=a.flatten.length:=⟨_,rfl⟩;rw[<-L] at h0 D ⊢;have H:=hide L;clear J hS j L;have HG:=hide (fun (w:ae)=>LX T w h0 a_)
 go_enter func144,ntmps144
 go_wp2
 go_loopw [3,11] (fun b i wr=>∃ (k n:Nat),k<=a.length/\i=.int .i64 k/\b=.int .i64 n/\n<=T/\Hid (n=(a.take k).flatten.length)/\wr=w) (fun _ i _=>a.length-(intOf i).toNat)
 case atStart=>exact⟨0,0,x8 _,rfl,rfl,x8 _,hide ay,rfl⟩
 case round=>
  obtain⟨k,n,hk,rfl,rfl,hn,P,B⟩:=hrel;have z:=B.symm;clear B;subst z;by_cases d:k<a.length
  ·have g:Parts w (.slice A1 a.length c1) a:=aA HP;obtain⟨U,I,y,x⟩:=g;obtain⟨u,t,q⟩:=x k a[k] (zH d);obtain⟨b,o,c',u',r,_,_,hb,C,K⟩:=y.DV d;cases r;rw[t] at C;cases C;obtain⟨Au,cu,rfl⟩:∃ A c,u=.slice A a[k].length c:=by obtain⟨_,A,c,h,_⟩:=q;exact⟨A,c,h⟩
   have a1:=aA O a[k] (List.getElem_mem d);have s:=hide (aRm a k d);have l:=aA G (k+1);rw[aA s,ed,<-aA P,<-aA H] at l;clear I y x t q;generalize a[k]=p at *;have W:¬((n:Int)+(p.length:Int)<0):=by omega
   go_wp2
   refine⟨⟨k+1,n+p.length,by omega,by go_num,by go_num,by omega,hide ?_,trivial⟩,by simp[intOf];omega⟩;rw[aA s,ed,<-aA P]
  ·obtain rfl:k=a.length:=by omega
   obtain rfl:n=T:=by rw[aA P,aA H,aAe]
   go_wp2_with (go_at_call 177;refine (aA HG _).mono ?_;rintro e w3 ⟨c3,rfl,E,F⟩;have H3:=hide (And.intro E F);clear E F)
   go_loopw [6,27] (fun b i Q=>∃ (k m:Nat) (A:Option Addr) (c:Nat),k<=a.length/\i=.int .i64 k/\b=.slice A m c/\m<=n/\Hid (m=(a.take k).flatten.length/\Q.ownsRow w.heap.size 5 1 (.slice A m c) m ((a.take k).flatten.map gq)/\Ext w Q)) (fun _ i _=>a.length-(intOf i).toNat)
   case atStart=>exact⟨0,0,_,c3,x8 _,rfl,rfl,x8 _,hide ⟨by simp,by simpa using (aA H3).1,(aA H3).2⟩⟩
   case round=>
    obtain⟨k,m,A,c,hk,rfl,rfl,hm,f⟩:=hrel;by_cases d:k<a.length
    ·have g:Parts wr (.slice A1 a.length c1) a:=aA HS wr (aA f).2.2;obtain⟨U,I,y,x⟩:=g;obtain⟨u,t,q⟩:=x k a[k] (zH d);obtain⟨b,o,c',u',r,_,_,hb,C,K⟩:=y.DV d;cases r;rw[t] at C;cases C;obtain⟨Au,cu,rfl⟩:∃ A c,u=.slice A a[k].length c:=by obtain⟨_,A,c,h,_⟩:=q;exact⟨A,c,h⟩
     have s:=hide (aRm a k d);have l:=aA G (k+1);rw[aA s,ed,<-(aA f).1,<-aA H] at l;have N:=hide q;clear I y x t q;generalize a[k]=p at *
     go_wp2_with (at_builtin;refine bQ rfl rfl fV rfl (aA f).2.1 rfl (aA N) (dO.u8 _) a_ (aA f).2.2.size' ?_;intro A' c4 w4 V Y r;have H4:=hide (And.intro V (Onto.D9 (aA f).2.2 (Onto.app Y r) (VC (aA f).2.1)));clear V Y r)
     go_roundw
     case rel=>refine⟨k+1,m+p.length,A',c4,by omega,by go_num,rfl,by omega,hide ⟨?_,?_,(aA H4).2⟩⟩;rw[aA s,ed,<-(aA f).1];rw[aA s,List.map_append];exact (aA H4).1
     case measure=>simp[intOf];omega
    ·obtain rfl:k=a.length:=by omega
     go_wp2
     go_ret;obtain⟨h1,Z,h3⟩:=aA f;rw[aAe] at h1 Z
     obtain rfl:m=n:=by rw[h1,aA H]
     exact⟨A,c,rfl,Z,h3⟩
namespace Pv
def aLc:Spec:=fun b c=>match c with
 |[d]=>Fb d fun a=>.need (a.length<=1000/\(∀ p∈a,p.length<=1000000)/\0<a.flatten.length) (.new b (.arr 5 1 a.flatten.length (m_ a.flatten)) fun v=>.ret (d_ (.ow b v 1 0 a.flatten.length)))|_=>.fail
theorem bNm:ai prog af 144 aLc:=by
 refine⟨aC func144 aj rfl,fun A s a w y m l k F h H n b=>?_⟩;unfold aLc at b;split at b;rotate_left;exact b.elim;rename_i G
 match k,n with
 |[pv],⟨x,_⟩=>obtain⟨g,j,b⟩:=aEn h x b;obtain⟨⟨D,B,z⟩,b⟩:=b;refine (bDo pv g w j D B z (fun X q=>j.ext q)).mono ?_;rintro e E ⟨I,c,rfl,o,r⟩;obtain⟨d,u,t⟩:=h.AQ m 5 1 g.flatten.length (f:=m_ g.flatten) r o (fun C i p=>oU C g.flatten i p);exact .inl ⟨_,_,_,d,rfl,b,u,t⟩
def QV:List (Nat×Spec):=(144,aLc)::ZZ
theorem Js:∀ p∈QV,ai prog af p.1 p.2:=by intro p a;simp only[QV,xn] at a;rcases a with rfl|a;exact bNm;exact aDu p a
theorem aKF:jl prog af (find QV):=⟨bD Js,dG⟩
def jJ(r:jg):List UInt8:=b_ r.kind++(b_ r.level++(r.ot++(b_ r.ol++bI r.payload.data.toList)))
def jT(root:List UInt8):List UInt8:=lS root [109,111,118,101] []
def kZ(root:List UInt8)(r:jg):List UInt8:=b_ r.level++(bI (dN (jT root) r.level (jJ r))++qc (jT root) r.level (dN (jT root) r.level (jJ r)))
def fK(root:List UInt8)(r:jg):ByteArray:=strOf (kZ root r)
theorem bJg(r:jg)(root:List UInt8)(h1:g_ r.kind)(h2:g_ r.level)(h3:g_ r.ol)(h4:r.ot.length=16)(h5:root.length=16)(g:r.payload.size<=10000):fP prog af 102 true [.w (.agg (oz r)),.w (.agg [.bs 16 root])] (jr (fK root r)):=by have M:=aKF;have f:=aP r.kind;have e:=aP r.level;have d:=aP r.ol;have c:=fD r.payload.data.toList;have b:r.payload.data.toList.length=r.payload.size:=mf;refine bH func102 rfl rfl bK (fun A i h j=>?_);refine aB ?_;refine aF ?_ ?_;simp;exact⟨h1,h2,h3,by omega,⟨by omega,by omega,by omega,by omega,by omega⟩,by omega⟩;refine aF ?_ ?_;simp[↓dY];refine⟨⟨by omega,by decide⟩,h2,?_⟩;show (strOf _).size<=100000;rw[bJ];simp;omega;refine aF ?_ ?_;have a:=fD (dN (lS root [109,111,118,101] []) r.level (jJ r));rw[dH] at a;simp[jJ] at a;simp[↓dY,bJ,bV,dH,fZ];exact⟨h2,by omega⟩;refine bU ?_;simp[↓dY,bV,fK,kZ,jJ,jT];rfl
def QU:List (Nat×Spec):=(138,FN iM fun l=>xY (au l))::(139,FN iM fun l=>Dh (gJ l))::QV
theorem Jr:∀ p∈QU,ai prog af p.1 p.2:=by intro p a;simp only[QU,xn] at a;rcases a with rfl|rfl|a;exact oC (aC func138 aj rfl) aJr;exact oC (aC func139 aj rfl) aCy;exact Js p a
theorem aBL:jl prog af (find QU):=⟨bD Jr,dG⟩
inductive CY where
 |DZ|Dz|okR (p:List UInt8)
def CY.pv:CY->PV
 |.DZ=>.lu [.one (.lit (.slice none 0 0)),.one (.lit (.bool false))]|.Dz=>.lu [.one (.sl 1 0 (m_ [])),.one (.lit (.bool false))]|.okR p=>.lu [.one (.sl 1 p.length (m_ p)),.one (.lit (.bool true))]
def bIi(root:List UInt8)(q:Int)(c t:List UInt8):CY:=if qc (jT root) q c=t then .okR (dN (jT root) q c) else .Dz
def wJ(root b:List UInt8):CY:=
 if (au b).2.2≠0 then .DZ else
  if (gJ (b.drop (au b).2.1)).2.2≠0\/b.length≠(au b).2.1+(gJ (b.drop (au b).2.1)).2.1+16 then .DZ else
   bIi root (au b).1 (gJ (b.drop (au b).2.1)).1 (b.drop ((au b).2.1+(gJ (b.drop (au b).2.1)).2.1))
theorem J8(root:List UInt8)(s:ByteArray)(hr:root.length=16)(hs:s.size<=100000):fP prog af 136 false [.w (.agg [.bs 16 root]),jr s] (wJ root s.data.toList).pv:=by
 have M:=aBL;have D:s.data.toList.length=s.size:=mf;refine bH func136 rfl rfl bK (fun A O L P=>?_);refine aB ?_;refine aF ?_ ?_;simp;omega;refine aU (⟨[(2,none,d_ (.pt 0 0 0)),(6,none,l7 s.data.toList)],[(0,none,0,.box 23 [.bs 16 root])]⟩) ?_ ?_ ?_;refine .cons rfl (.cons ?_ .nil);rw[<-D];exact o7;generalize s.data.toList=b at *;refine aF ?_ ?_;simp;show b.length<4611686018427387904;omega;refine aU (⟨[(2,none,d_ (.pt 0 0 0)),(6,none,l7 b),(7,none,di (au b).1),(8,none,di ((au b).2.1:Int)),(9,none,di (au b).2.2)],[(0,none,0,.box 23 [.bs 16 root])]⟩) ?_ ?_ ?_;rw[dY];exact ig;exact o7;have C:=mV b;have l:=fJ b;obtain⟨m,a⟩:∃ m,wJ root b=m:=⟨_,rfl⟩;rw[a];unfold wJ at a;generalize N:au b=g at *;obtain⟨q,k,e⟩:=g;dsimp only at *;refine aG ?_;refine aB ?_;refine aI (fun d=>?_) (fun d=>?_);refine aB ?_;refine bU ?_;have h:e≠0:=by simpa using d
 rw[if_pos h] at a;rw[<-a];rfl;have h:¬e≠0:=by simpa using d
 rw[if_neg h] at a;refine aJ ?_;refine aF ?_ ?_;simp;refine⟨C.1,?_⟩;unfold iM;rw[dQ];omega;have r:(rowB ((b.length:Int)-(k:Int)).toNat fun i=>m_ b ((k:Int).toNat+i))=b.drop k:=by rw[show ((b.length:Int)-(k:Int)).toNat=b.length-k from by omega,show (k:Int).toNat=k from by omega,kQ a_];exact IR (by rw[AC];exact Nat.le_refl _)
 have y:=jW (b.drop k);have o:=aMw (b.drop k);rw[AC] at y o;refine aU (⟨[(2,none,d_ (.pt 0 0 0)),(6,none,l7 b),(7,none,di q),(8,none,di (k:Int)),(9,none,di (gJ (b.drop k)).2.2),(10,none,jr (strOf (gJ (b.drop k)).1)),(11,none,di ((gJ (b.drop k)).2.1:Int))],[(0,none,0,.box 23 [.bs 16 root])]⟩) ?_ ?_ ?_;rw[r];exact ig;exact o7;generalize gJ (b.drop k)=K at *;obtain⟨c,n,H⟩:=K;dsimp only at *;have f:IntKind.i64.wrap ((k:Int)+(n:Int))=((k+n:Nat):Int):=by rw[TC];omega
 have I:IntKind.i64.wrap (((k+n:Nat):Int)+16)=((k+n+16:Nat):Int):=by rw[TC];omega
 refine aG ?_;refine aB ?_;refine aI (fun d=>?_) (fun d=>?_);refine aB ?_;refine bU ?_;simp[f] at d;have x:H≠0\/b.length≠k+n+16:=by rcases d with j|j;exact .inl j;refine .inr (fun G=>j ?_);rw[TC];omega
 rw[if_pos x] at a;rw[<-a];rfl;refine aJ ?_;simp[f] at d;have x:¬(H≠0\/b.length≠k+n+16):=by rintro (j|j);exact j d.1;have G:=d.2;rw[TC] at G;omega
 rw[if_neg x] at a;have E:b.length=k+n+16:=by by_cases F:b.length=k+n+16;exact F;exact absurd (.inr F) x
 have z:g_ q:=l;refine aF ?_ ?_;simp;rw[f,bJ];exact⟨⟨by omega,by decide⟩,⟨by omega,by omega⟩,⟨by omega,by omega⟩,by omega,z,by omega⟩;have p:(rowB 16 fun i=>m_ b ((IntKind.i64.wrap ((k:Int)+(n:Int))).toNat+i))=b.drop (k+n):=by rw[f,MM,kQ a_];exact IR (by rw[AC];omega)
 generalize b.drop (k+n)=t at *;refine aU (⟨[(9,none,di (bif opened (jT root) q (strOf c) t then 0 else 8)),(12,none,jr (bif opened (jT root) q (strOf c) t then strOf (dN (jT root) q (strOf c).data.toList) else { data:=#[] }))],[]⟩) ?_ ?_ ?_;rw[p];exact ig;exact .nil;unfold bIi at a;by_cases u:qc (jT root) q c=t;have B:opened (jT root) q (strOf c) t=true:=by unfold opened;rw[bV,u];simp
 rw[B,bV];rw[if_pos u] at a;have J:=dH (jT root) q c;generalize dN (jT root) q c=X at *;change lh _ _ ⟨[(9,none,di 0),(12,none,jr (strOf X))],[]⟩ _ _;refine aF ?_ ?_;simp;rw[bJ];omega;refine bU ?_;rw[<-a];show PV.lu [.one (.sl 1 (strOf X).size (m_ (strOf X).data.toList)),_]=_;rw[bJ,bV];rfl;have B:opened (jT root) q (strOf c) t=false:=by unfold opened;rw[bV];simpa using u
 rw[B];rw[if_neg u] at a;change lh _ _ ⟨[(9,none,di 8),(12,none,jr { data:=#[] })],[]⟩ _ _;refine aF ?_ ?_;simp;decide;refine bU ?_;rw[<-a];rfl
theorem Xj(x y:Nat)(t u:TypeId)(l c l' m a:List PC)(bl:Nat->Nat)(D:Dv):SX [⟨x,t,l,l'⟩,⟨y,u,m,a⟩] bl D=SX [⟨x,t,c,l'⟩,⟨y,u,m,a⟩] bl D:=by funext b;simp[SX]
theorem ui.cells2{P:Program}{I:ae->Prop}{f:Nat}{new:Bool}{x y:Nat}{t u:TypeId}{l d l' m c:List PC}{O:List Acc->Option jh}{dw:List Acc->Prop}{args:List PV}{b:PV}
  (h:ui P I f new [⟨x,t,d,l'⟩,⟨y,u,m,c⟩] O none dw args b) (hl:∀ C s,RL C l s->RL C d s):ui P I f new [⟨x,t,l,l'⟩,⟨y,u,m,c⟩] O none dw args b:=by
 intro w i G bl D X0 F E Z Y X W V B U r;rw[Xj x y t u l d l' m c] at F E ⊢;refine (h w i G bl D X0 F E Z Y X W V (fun o a=>?_) (fun o a Q q A=>?_) r).mono ?_;rcases List.mem_cons.1 a with rfl|a;obtain⟨p,cs,n,k⟩:=B _ Xv
 exact⟨p,cs,n,hl _ _ k⟩;exact B _ (Y3 _ a)
 have e:∀ o:Ob,o∈[(⟨x,t,d,l'⟩:Ob),⟨y,u,m,c⟩]->∃ j∈[(⟨x,t,l,l'⟩:Ob),⟨y,u,m,c⟩],j.x=o.x:=fun o a=>by
  rcases List.mem_cons.1 a with rfl|a
  exact⟨_,Xv,rfl⟩;exact⟨o,Y3 _ a,rfl⟩
 obtain⟨j,L,K⟩:=e o a;obtain⟨N,J,H⟩:=e Q q;rw[<-K,<-H] at A ⊢;exact U j L N J A;rintro e w' ⟨p,n⟩;refine⟨p,n.imp (fun⟨g,k,T,z,S⟩=>⟨g,k,T,fun o a=>?_,S⟩) id⟩;rcases List.mem_cons.1 a with rfl|a;exact z ⟨x,t,d,l'⟩ Xv;exact z o (Y3 _ a)
def Tt(L:List UInt8)(ok:Bool):List Ob:=[⟨px,74,[.sl 1 L.length (m_ L)],[.sl 1 (L.drop (au L).2.1).length (m_ (L.drop (au L).2.1))]⟩,⟨px+1,4,[.lit (.bool ok)],[.lit (.bool (ok&&(au L).2.2==0))]⟩]
theorem aPh{L:List UInt8}{k:Nat}(h:k<=L.length):PC.sl 1 ((L.length:Int)-(k:Int)).toNat (fun i=>m_ L ((k:Int).toNat+i))=.sl 1 (L.drop k).length (m_ (L.drop k)):=by rw[MM,Nh,AC];congr 1;omega
theorem JJ(L:List UInt8)(ok:Bool)(f:iM L):ui prog af 137 false (Tt L ok) (fun _=>none) none (fun _=>False) [d_ (.pt px 0 0),d_ (.pt (px+1) 0 0)] (di (au L).1):=by
 have M:=aBL;have b:=mV L;refine dM func137 rfl rfl f_ (fun A g h=>?_);refine aB ?_;refine aF ?_ ?_;simp;exact f;refine aB ?_;refine aU (⟨[(0,none,d_ (.pt px 0 0)),(3,none,di (au L).1),(4,none,di ((au L).2.1:Int))],[(px,none,0,.box 74 [.sl 1 L.length (m_ L)]),(px+1,none,0,.box 4 [.lit (.bool (ok&&(au L).2.2==0))])]⟩) ?_ ?_ ?_;rw[dY];exact ig
 ·refine .cons (.box rfl) (.cons (.box ?_) .nil);rw[dY]
  cases ok<;>rfl
 refine aF ?_ ?_;simp;exact b.1;refine aB ?_;refine cZ (fun a w e=>⟨.inr rfl,_,⟨?_,fun o c=>?_,fun p d=>by cases d⟩,e⟩);rotate_left 1;simp only[Tt,xn,Xq,or_false] at c;rcases c with rfl|rfl
 refine⟨_,rfl,?_⟩;rw[aPh b.1];exact eQ rfl;exact⟨_,rfl,eQ rfl⟩;refine aY (by rfl) (by simp) (by rfl) (by rfl) ?_;rfl
def EP(i:Nat):PV->Bool
 |.w (.one (.pt x v o))=>bz x (px+i)&&(bz v 0&&bz o 0)|_=>false
theorem aYq{i:Nat}{v:PV}(h:EP i v=true):v=d_ (.pt (px+i) 0 0):=by unfold EP at h;split at h;rw[Bool.and_eq_true,Bool.and_eq_true] at h;rw[iq h.1,iq h.2.1,iq h.2.2];cases h
def TQ:Spec:=aYe fun d a=>match d,a with
 |[(t0,[.sl k len f]),(t1,[.lit (.bool ok)])],[c,b]=>
  (match bz t0 74&&(bz t1 4&&(bz k 1&&(EP 0 c&&EP 1 b))) with
  |true=>some (Ez len f/\iM (rowB len f),[[.sl 1 ((rowB len f).drop (au (rowB len f)).2.1).length (m_ ((rowB len f).drop (au (rowB len f)).2.1))],[.lit (.bool (ok&&(au (rowB len f)).2.2==0))]],di (au (rowB len f)).1)|false=>none)
 |_,_=>none
theorem VQ:ai prog af 137 TQ:=by
 refine aQb (aC func137 aj rfl) (fun l y p H r b e d=>?_);split at b;rename_i B k len f A ok E D a;split at b;rename_i g;simp only[Bool.and_eq_true] at g;obtain⟨x,w,u,j,i⟩:=g;cases b
 match l,a with
 | [G,F],a=>
  simp only[List.map_cons,List.map_nil,List.cons.injEq,Prod.mk.injEq,and_true] at a;obtain⟨⟨q,n⟩,⟨c,m⟩⟩:=a;have t:=iq x;have s:=iq w;obtain rfl:=iq u;have:=JJ (rowB len f) ok d.2;unfold F6 F6 F6;rw[aYq j,aYq i,q,c,t,s,n,m];refine ui.cells2 this (fun C z h=>?_);cases h with
  |cons c o=>refine .cons ?_ o;rw[dQ];exact c.A_ (bNv d.1)
 cases b;cases b
def TP(R:CY):Spec:=aZ false fun a=>match a with
 |[.w (.agg [.bs 16 root]),.w (.one (.lit (.string s)))]=>some (root.length=16/\s.size<=100000/\wJ root s.data.toList=R,R.pv)|_=>none
theorem VE(R:CY):ai prog af 136 (TP R):=by refine aW (aC func136 aj rfl) (fun c p r b a=>?_);split at b;cases b;have:=J8 _ _ a.1 a.2.1;rw[a.2.2] at this;exact this;cases b
def FD:List PC->Option jg
 |[.lit (.int .i64 k),.lit (.int .i64 l),.bs 16 t,.lit (.int .i64 n),.lit (.string p)]=>some ⟨k,l,t,n,p⟩|_=>none
theorem xP{l:List PC}{r:jg}(h:FD l=some r):l=oz r:=by unfold FD at h;split at h;cases h;rfl;cases h
structure Cf(r:jg):Prop where
 kind:g_ r.kind
 level:g_ r.level
 ol:g_ r.ol
 ot:r.ot.length=16
 payload:r.payload.size<=10000
def bFv:Spec:=aZ true fun a=>match a with
 |[.w (.agg l),.w (.agg [.bs 16 root])]=>(match FD l with
  |some r=>some (Cf r/\root.length=16,jr (fK root r))|none=>none)
 |_=>none
theorem bJk:ai prog af 102 bFv:=by
 refine aW (aC func102 aj rfl) (fun e p r b a=>?_);split at b;rename_i l c;cases d:FD l with
 |none=>rw[d] at b;cases b|some q=>rw[d] at b;cases b;rw[xP d];exact bJg q c a.1.kind a.1.level a.1.ol a.1.ot a.2 a.1.payload
 cases b
def VY(R:CY):List (Nat×Spec):=(137,TQ)::(136,TP R)::(102,bFv)::QU
theorem Vb(R:CY):∀ p∈VY R,ai prog af p.1 p.2:=by intro p a;simp only[VY,xn] at a;rcases a with rfl|rfl|rfl|a;exact VQ;exact VE R;exact bJk;exact Jr p a
theorem aKE(R:CY):jl prog af (find (VY R)):=⟨bD (Vb R),dG⟩
def VV(root:List UInt8)(s:ByteArray)(b a:Int)(r:jg):jg×Bool:=(r,decide (b=0/\a=0/\(r.kind=1\/r.kind=2)/\0<=r.level/\r.level<=16/\fK root r=s))
def VW(root:List UInt8)(s:ByteArray)(b:Bool)(d c:Int)(a:List UInt8):jg×Bool:=
 if b=false\/a.length<16 then (zq,false) else
  VV root s (au (a.drop 16)).2.2 (gJ ((a.drop 16).drop (au (a.drop 16)).2.1)).2.2 ⟨d,c,a.take 16,(au (a.drop 16)).1,strOf (gJ ((a.drop 16).drop (au (a.drop 16)).2.1)).1⟩
def OH(root:List UInt8)(s:ByteArray):CY->jg×Bool
 |.DZ=>(zq,false)|.Dz=>(zq,false)|.okR p=>VW root s ((true&&(au p).2.2==0)&&(au (p.drop (au p).2.1)).2.2==0) (au p).1 (au (p.drop (au p).2.1)).1 ((p.drop (au p).2.1).drop (au (p.drop (au p).2.1)).2.1)
def ES(d:jg×Bool):PV:=.lu [.agg (oz d.1),.one (.lit (.bool d.2))]
theorem aPz{root b p:List UInt8}(h:wJ root b=.okR p):p.length<=b.length:=by have a:=jW (b.drop (au b).2.1);rw[AC] at a;unfold wJ at h;split at h;cases h;split at h;cases h;unfold bIi at h;split at h;cases h;rw[dH];omega;cases h
theorem bJh(root:List UInt8)(s:ByteArray)(hr:root.length=16)(hs:s.size<=5000):fP prog af 99 true [.w (.agg [.bs 16 root]),jr s] (ES (OH root s (wJ root s.data.toList))):=by
 obtain⟨R,u⟩:∃ R,wJ root s.data.toList=R:=⟨_,rfl⟩;rw[u];have M:=aKE R;refine bH func99 rfl rfl bK (fun A hS hn hI=>?_);refine aB ?_;cases R with
 |DZ=>refine aF ?_ ?_;simp;exact⟨hr,by omega,u⟩;refine aG ?_;refine aB ?_;refine aI (fun j=>?_) (fun j=>?_);refine aB ?_;exact jC;cases j|Dz=>refine aF ?_ ?_;simp;exact⟨hr,by omega,u⟩;refine aG ?_;refine aB ?_;refine aI (fun j=>?_) (fun j=>?_);refine aB ?_;exact jC;cases j| okR p=>
  refine aF ?_ ?_;simp;exact⟨hr,by omega,u⟩;refine aG ?_;refine aB ?_;refine aI (fun j=>?_) (fun j=>?_);cases j;refine aJ ?_;refine aB ?_;have I:=aPz u;rw[show s.data.toList.length=s.size from mf] at I;have P:=mV p;have C:=fJ p;refine aF ?_ ?_;simp;unfold iM;rw[dQ];omega;obtain⟨e,n⟩:∃ e,(p.drop (au p).2.1).drop (au (p.drop (au p).2.1)).2.1=e:=⟨_,rfl⟩;obtain⟨f,l⟩:∃ f,((true&&(au p).2.2==0)&&(au (p.drop (au p).2.1)).2.2==0)=f:=⟨_,rfl⟩
  refine bY (s':=⟨[(1,none,jr s),(2,none,d_ (.pt 0 0 0)),(4,none,d_ (.pt 1 0 0)),(5,none,d_ (.pt 2 0 0)),(6,none,d_ (.pt 1006 0 0)),(7,none,d_ (.fn (.func 137) [] [.pt 1006 0 0,.pt 2 0 0]))],
   [(0,none,0,.box 23 [.bs 16 root]),(1,none,0,.box 149 (oz ⟨(au p).1,(au (p.drop (au p).2.1)).1,vz,0,aH⟩)),(2,none,0,.box 4 [.lit (.bool f)]),(1006,none,0,.box 74 [.sl 1 e.length (m_ e)])]⟩) (fun a w r=>(r.reset (kT:=[1,2,4,5,6,7]) (kO:=[0,1,2,1006]) f_ ay).same ?_ ?_) ?_
  exact ig;refine .cons (.box rfl) (.cons (.box ?_) (.cons (.box ?_) (.cons (.box ?_) .nil)));simp only[dY];rfl;simp only[dY];rw[<-l];simp only[dY];rw[<-n];have B:=fJ (p.drop (au p).2.1);have N:e.length<=p.length:=by rw[<-n,AC,AC];omega
  obtain⟨d,o⟩:∃ d,OH root s (.okR p)=d:=⟨_,rfl⟩;rw[o];unfold OH at o;dsimp only at o;rw[n,l] at o;unfold VW at o;generalize (au p).1=y at *;generalize (au (p.drop (au p).2.1)).1=x at *;clear n l u;refine aG ?_;refine aB ?_;refine aI (fun j=>?_) (fun j=>?_);refine aB ?_;refine bU ?_;have h:f=false\/e.length<16:=by cases f;exact .inl rfl;simp at j;exact .inr a_
  rw[if_pos h] at o;rw[<-o];rfl;refine aJ ?_;have h:¬(f=false\/e.length<16):=by cases f;cases j;simp at j;intro h;rcases h with h|h;cases h;omega
  have J:16<=e.length:=by rcases Nat.lt_or_ge e.length 16 with D|D;exact absurd (.inr D) h;exact D
  obtain rfl:f=true:=by cases f;exact absurd (.inl rfl) h;rfl
  rw[if_neg h] at o;refine aF ?_ ?_;simp;omega
  refine bY (s':=⟨[(1,none,jr s),(2,none,d_ (.pt 0 0 0)),(4,none,d_ (.pt 1 0 0)),(5,none,d_ (.pt 2 0 0)),(6,none,d_ (.pt 1006 0 0)),(7,none,d_ (.fn (.func 137) [] [.pt 1006 0 0,.pt 2 0 0]))],
   [(0,none,0,.box 23 [.bs 16 root]),(1,none,0,.box 149 (oz ⟨y,x,e.take 16,0,aH⟩)),(2,none,0,.box 4 [.lit (.bool true)]),(1006,none,0,.box 74 [.sl 1 (e.drop 16).length (m_ (e.drop 16))])]⟩) (fun a w r=>(r.reset (kT:=[1,2,4,5,6,7]) (kO:=[0,1,2,1006]) f_ ay).same ?_ ?_) ?_
  exact ig;refine .cons (.box rfl) (.cons (.box ?_) (.cons (.box rfl) (.cons (.box ?_) .nil)));rw[show (rowB 16 fun i=>m_ e (Int.toNat 0+i))=e.take 16 from (kQ (L:=e) (k:=0) (m:=16) a_).trans (by rw[List.drop_zero])];rfl;exact congrArg (fun c=>[c]) (aPh J);have S:(e.drop 16).length<=e.length:=by rw[AC];omega
  have H:(e.take 16).length=16:=by rw[uk];omega
  generalize e.drop 16=g at *;generalize e.take 16=t at *;have O:=mV g;have z:=fJ g;refine aF ?_ ?_;simp;unfold iM;omega;have Q:(g.drop (au g).2.1).length<=g.length:=by rw[AC];omega
  refine bY (s':=⟨[(1,none,jr s),(2,none,d_ (.pt 0 0 0)),(4,none,d_ (.pt 1 0 0)),(5,none,d_ (.pt 2 0 0)),(6,none,d_ (.pt 1006 0 0))],
   [(0,none,0,.box 23 [.bs 16 root]),(1,none,0,.box 149 (oz ⟨y,x,t,(au g).1,aH⟩)),(2,none,0,.box 4 [.lit (.bool ((au g).2.2==0))]),(1006,none,0,.box 74 [.sl 1 (g.drop (au g).2.1).length (m_ (g.drop (au g).2.1))])]⟩) (fun a w r=>(r.reset (kT:=[1,2,4,5,6]) (kO:=[0,1,2,1006]) f_ ay).same ?_ ?_) ?_
  exact ig;refine .cons (.box rfl) (.cons (.box ?_) (.cons (.box ?_) (.cons (.box ?_) .nil)));simp only[dY];rfl;simp only[dY];rfl;simp only[dY];generalize g.drop (au g).2.1=F at *;generalize au g=X at *;obtain⟨G,u3,Y⟩:=X;dsimp only at *;have K:=jW F;refine aF ?_ ?_;simp;unfold iM;omega
  refine bY (s':=⟨[(1,none,jr s),(2,none,d_ (.pt 0 0 0)),(4,none,d_ (.pt 1 0 0)),(5,none,d_ (.pt 2 0 0)),(8,none,jr (strOf (gJ F).1)),(10,none,di (gJ F).2.2)],
   [(0,none,0,.box 23 [.bs 16 root]),(1,none,0,.box 149 (oz ⟨y,x,t,G,aH⟩)),(2,none,0,.box 4 [.lit (.bool (Y==0))])]⟩) (fun a w r=>(r.reset (kT:=[1,2,4,5,8,10]) (kO:=[0,1,2]) f_ ay).same ?_ ?_) ?_
  rw[dY];exact ig;exact o7;generalize gJ F=W at *;obtain⟨q,Z,e4⟩:=W;dsimp only at *;refine aB ?_;refine aF ?_ ?_;simp;exact⟨fun V D U=>⟨⟨V,D⟩,U⟩,fun _ _ _ _ _=>⟨⟨C,B,z,H,by show (strOf q).size<=10000;rw[bJ];omega⟩,hr⟩⟩;refine aB ?_;refine bU ?_;rw[<-o];refine congrArg (fun b=>PV.lu [.agg (oz ⟨y,x,t,G,strOf q⟩),.one (.lit (.bool b))]) ?_;unfold VV;dsimp only;generalize fK root ⟨y,x,t,G,strOf q⟩=E;have T:E.toList=s.toList↔E=s:=by rw[ByteArray.toList_eq,ByteArray.toList_eq];exact⟨fun h=>ByteArray.ext (Array.ext' h),fun h=>by rw[h]⟩
  rw[Bool.eq_iff_iff];simp[and_assoc,T]
theorem noM{I:ae->Prop}:jl prog I (find ([]:List (Nat×Spec))):=⟨fun f a h=>(by cases h),aj⟩
theorem Ll{I:ae->Prop}(b c:Int):CO prog I 108 (ah.vw b c) [.w (.one .dv),di b,di c] di:=by intro O l;have M:=noM (I:=I);refine dM func108 rfl rfl rfl (fun A g h=>?_);refine aB ?_;refine aF ?_ ?_;exact⟨aLw (pF _) (pF _),trivial⟩;refine cZ (fun a w f=>⟨.inr rfl,_,⟨?_,(fun o e=>by cases e),fun p d=>?_⟩,f⟩);rotate_left 1;cases d;rfl;refine aY (by rfl) (by simp) (by rfl) (by rfl) ?_;rfl
theorem bHx{I:ae->Prop}(b c:Int):CO prog I 110 (ah.ul b c) [.w (.one .dv),di b,di c] (fun _=>.lu []):=by intro O l;have M:=noM (I:=I);refine dM func110 rfl rfl rfl (fun A f h=>?_);refine bC M h f (by rfl) (by kernel_rfl) ?_ ?_;exact⟨aLw (pF _) (pF _),trivial⟩;intro a w g;refine⟨.inl rfl,_,⟨?_,(fun o e=>by cases e),fun p d=>?_⟩,g⟩;rotate_left 1;cases d;rfl;refine aY (by rfl) (by simp) (by rfl) (by rfl) ?_;rfl
def NF(p:Int->Int->ah Int):List PV->Option (Prop×ah Int×(Int->PV))
 |[.w (.one (.lit (.int .i64 b))),.w (.one (.lit (.int .i64 c)))]=>some (True,p b c,di)|_=>none
def Ep(p:Int->Int->ah Unit)(q:Int->Int->Prop):List PV->Option (Prop×ah Unit×(Unit->PV))
 |[.w (.one (.lit (.int .i64 b))),.w (.one (.lit (.int .i64 c)))]=>some (q b c,p b c,fun _=>.lu [])|_=>none
theorem bLb{I:ae->Prop}:ai prog I 108 (nD (NF ah.vw)):=
 pO (aC func108 aj rfl) (fun a c p v h _=>by
  unfold NF at h;split at h;cases h;exact Ll _ _
  cases h)
theorem bBr{I:ae->Prop}:ai prog I 110 (nD (Ep ah.ul fun _ _=>True)):=
 pO (aC func110 aj rfl) (fun a c p v h _=>by
  unfold Ep at h;split at h;cases h;exact bHx _ _
  cases h)
theorem wK(l:List Int)(x:Int):nonzero (l++[x])=nonzero l+if x=0 then 0 else 1:=by
 unfold nonzero;rw[List.filter_append,ed]
 by_cases h:x=0<;>simp[h]
theorem xJ(l:List Int):nonzero l<=l.length:=List.length_filter_le _ _
theorem aQd{l:List Int}{k:Nat}(h:k<l.length):nonzero (l.take (k+1))=nonzero (l.take k)+if l.getD k 0=0 then 0 else 1:=by rw[aDh,zH h,zG,zH h];exact wK _ _
theorem bEd{k:Nat}{f g:Nat->List PC}(h1:∀ i,i<k->(f i).all (dJ false)=true)(h2:(g 0).all (dJ false)=true):∀ i,i<k+1->(o_ k f g i).all (dJ false)=true:=fun i a=>by
 unfold o_;by_cases h:i<k;rw[if_pos h];exact h1 i h;obtain rfl:i=k:=by omega
 rw[if_neg h,YB];exact h2
def aBJ(l:List Int)(k:Nat):St:=⟨[(0,none,d_ (.sl 1 l.length (DJ l))),(3,none,di (nonzero (l.take k))),(6,none,d_ (.sl 1 l.length (DJ l))),(7,none,di l.length),(8,none,di k)],[]⟩
theorem QZ{I:ae->Prop}(m:∀ w n,Ext w n->I w->I n)(l:List Int)(hl:l.length<=1000):fP prog I 109 true [d_ (.sl 1 l.length (DJ l))] (qy (mG l)):=by
 have M:=noM (I:=I);refine bH func109 rfl rfl m (fun A r p t=>?_);refine aB ?_;refine aB ?_;refine aG ?_;refine aB ?_;refine aQ ?_;refine lV (aBJ l 0) ?_;refine fF l.length (fun k s=>s=aBJ l k) 0 rfl a_ (fun k s o q=>?_);subst o;refine aB ?_;refine aG ?_;refine aI (fun b=>?_) (fun b=>?_);have i:k<l.length:=by simpa using b
 have d:=aQd i;have c:=xJ (l.take k);rw[uk] at c;refine aJ ?_;refine aG ?_;refine aQ ?_;refine aF ?_ ?_;simp;omega;refine aB ?_;refine aI (fun b=>?_) (fun b=>?_);have f:¬l.getD k 0=0:=by have h:(l.getD k 0 != 0)=true:=b;simpa using h
 refine lU ?_;refine gI ?_;intro a w j;refine⟨k+1,_,by omega,by omega,rfl,(j.reset (kT:=[0,3,6,7,8]) (kO:=[]) f_ ay).same ?_ ?_⟩;refine .cons rfl (.cons ?_ (.cons rfl (.cons rfl (.cons (by rw[cO k a_]) .nil))));rw[cO _ a_,d,if_neg f];exact .nil;have f:l.getD k 0=0:=by have h:(l.getD k 0 != 0)=false:=b;simpa using h
 refine aJ ?_;refine gI ?_;intro a w j;refine⟨k+1,_,by omega,by omega,rfl,(j.reset (kT:=[0,3,6,7,8]) (kO:=[]) f_ ay).same ?_ ?_⟩;refine .cons rfl (.cons ?_ (.cons rfl (.cons rfl (.cons (by rw[cO k a_]) .nil))));rw[d,if_pos f,Nat.add_zero];exact .nil
 have g:k=l.length:=by
  have:¬k<l.length:=by simpa using b
  omega
 subst g;have c:=xJ l;refine eP ?_;change lh _ _ _ _ _;refine aB ?_;refine bU ?_;refine congrArg qy ?_;rw[aAe];unfold mG;have e:IntKind.i64.wrap (2*(nonzero l:Int))=2*(nonzero l:Int):=by rw[TC];omega
 have u:∀ x:Int,decide (x > (l.length:Int))=decide ((l.length:Int)<x):=fun x=>rfl;refine decide_eq_decide.2 ?_;show IntKind.i64.wrap (2*(nonzero l:Int)) > (l.length:Int)↔_;rw[e];omega
def Vg:List PV->Option (Prop×PV)
 |[.w (.one (.sl 1 n f))]=>some (aNv n f/\n<=1000,qy (mG (UL n f)))|_=>none
theorem Jv{I:ae->Prop}(c:∀ w d,Ext w d->I w->I d):ai prog I 109 (aZ true Vg):=by
 refine aW (aC func109 aj rfl) (fun k p r a e=>?_);unfold Vg at a;split at a;rename_i n f;cases a;have h:=QZ c (UL n f) (by rw[aAl];exact e.2);rw[aAl] at h;intro w b g j i
 match g,i with
 |[v],⟨k1,_⟩=>exact h w b [v] j ⟨.w (.one (k1.inv.A_ (LQ e.1))),trivial⟩
 cases a
def Bg:List (Nat×Spec):=[(108,nD (NF ah.vw)),(110,nD (Ep ah.ul fun _ _=>True)),(109,aZ true Vg)]
theorem Td{I:ae->Prop}(a:∀ w b,Ext w b->I w->I b):∀ p∈Bg,ai prog I p.1 p.2:=by intro p c;simp only[Bg,xn,Xq,or_false] at c;rcases c with rfl|rfl|rfl;exact bLb;exact bBr;exact Jv a
theorem rdM{I:ae->Prop}(a:∀ w b,Ext w b->I w->I b):jl prog I (find Bg):=⟨bD (Td a),dG⟩
def OE(a b c:Int)(l:List Acc):Nat->List Acc
 |0=>l|k+1=>OE a b c l k++[⟨a,b,3*c+k,aH⟩]
def rdV(O:List Acc->Option jh)(b c:Int)(l:List Acc)(k:Nat):Int:=(ans O (OE 1 b c l (k+1))).val
def V5(O:List Acc->Option jh)(b c:Int)(l:List Acc):List Int:=[rdV O b c l 0,rdV O b c l 1,rdV O b c l 2]
theorem RF(O:List Acc->Option jh)(b c:Int)(l:List Acc):go O (ah.read b c) l=(mG (V5 O b c l),OE 1 b c l 3):=rfl
theorem aDr(a b c:Int)(l:List Acc)(k:Nat):OE a b c l k <+: OE a b c l (k+1):=List.prefix_append _ _
theorem bHo(a b c:Int)(l:List Acc):∀ k,l <+: OE a b c l k
 |0=>aAE _|k+1=>(bHo a b c l k).trans (aDr a b c l k)
theorem Ig(a b c:Int)(l:List Acc){k:Nat}(d:k<3):OE a b c l (k+1) <+: OE a b c l 3:=by
 match k,d with
 |0,_=>exact (aDr _ _ _ _ 1).trans (aDr _ _ _ _ 2)|1,_=>exact aDr _ _ _ _ 2|2,_=>exact aAE _
theorem TJ{c:Int}{k:Nat}(hc:0<=c/\c<=100000)(a:k<3):IntKind.i64.wrap (IntKind.i64.wrap (3*c)+(k:Int))=3*c+k:=by rw[TC,TC];omega
def aAT(O:List Acc->Option jh)(dw:List Acc->Prop)(b c:Int)(l:List Acc)(k:Nat):St:=⟨[(0,none,.w (.one .dv)),(1,none,di b),(2,none,di c),(7,none,d_ (.ow 5009 0 1 0 k)),(9,none,di k)],
 [(dx,none,0,.dev O dw (OE 1 b c l k)),(5009,none,0,.arr 3 1 k (DJ (V5 O b c l)))]⟩
theorem Ia{I:ae->Prop}(y:∀ w z,Ext w z->I w->I z)(b c:Int)(u:0<=c/\c<=100000):CO prog I 83 (ah.read b c) [.w (.one .dv),di b,di c] qy:=by
 intro O l;have M:=rdM y;have r:prog.types[3].bytes=8:=by kernel_rfl
 have D:prog.types[3].size=1:=by kernel_rfl
 refine dM func83 rfl rfl rfl (fun A G J=>?_);generalize f:(fun h=>l <+: h/\h <+: (go O (ah.read b c) l).2)=dw;refine aB ?_;refine aB ?_;refine aG ?_;refine aB ?_;refine aQ ?_;refine bY (s':=aAT O dw b c l 0) (fun a w g=>((g.nilRow (x:=5009) (e:=3) (n:=1) (t:=7) f_ f_).reset (kT:=[0,1,2,7,9]) (kO:=[900000,5009]) f_ ay).same ?_ ?_) ?_;exact ig;exact .cons (.dev rfl) (.cons (.arr rfl (fun i B=>by omega)) .nil);refine fF 3 (fun k s=>s=aAT O dw b c l k) 0 rfl a_ (fun k s H L=>?_);subst H;refine aB ?_;refine aG ?_;refine aI (fun q=>?_) (fun q=>?_);have d:k<3:=by have:=of_decide_eq_true q;omega
 have j:=TJ u d;refine aJ ?_;refine aG ?_;refine aQ ?_;refine aB ?_;refine bC M J G (by rfl) (by kernel_rfl) ?_ ?_;simp;refine⟨fun h K C _=>?_,by rw[r];omega⟩;rw[j] at C;rw[<-f];exact⟨(bHo 1 b c l k).trans K,C.trans (Ig 1 b c l d)⟩;change lh _ _ _ _ _;refine gI ?_;intro a w g;refine⟨k+1,_,by omega,by omega,rfl,(g.reset (kT:=[0,1,2,7,9]) (kO:=[900000,5009]) f_ ?_).same ?_ ?_⟩;simp only[All,and_true,List.append_nil,List.nil_append];exact bEd (fun i B=>rfl) rfl;exact .cons rfl (.cons rfl (.cons rfl (.cons rfl (.cons (by rw[cO k a_]) .nil))));refine .cons (.dev ?_) (.cons (.arr rfl (aZt (fun i B=>rfl) ?_)) .nil);rw[j];rfl;rw[j]
 match k,d with
 |0,_=>rfl|1,_=>rfl|2,_=>rfl
 ·have m:k=3:=by
   have:=of_decide_eq_false q;omega
  subst m;refine eP ?_;change lh _ _ _ _ _;refine aF ?_ ?_;simp;exact fun i _=>qV rfl;refine cZ (fun a w g=>⟨.inr rfl,_,⟨?_,(fun o F=>by cases F),fun p E=>?_⟩,g⟩);rotate_left 1;cases E;rfl;refine aY (by rfl) (by simp) (by rfl) (by rfl) ?_;rw[RF];have:=aTw (V5 O b c l);simp only[Nat.zero_add];exact congrArg (fun x=>qy (mG x)) this
def aAZ(O:List Acc->Option jh)(dw:List Acc->Prop)(b c:Int)(l:List Acc)(k:Nat):St:=⟨[(0,none,.w (.one .dv)),(1,none,di b),(2,none,di c),(7,none,di k)],[(dx,none,0,.dev O dw (OE 2 b c l k))]⟩
theorem bBp{I:ae->Prop}(m:∀ w n,Ext w n->I w->I n)(b c:Int)(j:0<=c/\c<=100000):CO prog I 84 (ah.jo b c) [.w (.one .dv),di b,di c] (fun _=>.lu []):=by
 intro O l;have M:=rdM m;refine dM func84 rfl rfl rfl (fun A x z=>?_);generalize d:(fun h=>l <+: h/\h <+: (go O (ah.jo b c) l).2)=dw;refine aB ?_;refine aQ ?_;refine aU (aAZ O dw b c l 0) ?_ ?_ ?_;exact ig;exact .cons (.dev rfl) .nil;refine fF 3 (fun k s=>s=aAZ O dw b c l k) 0 rfl a_ (fun k s y C=>?_);subst y;refine aB ?_;refine aG ?_;refine aI (fun i=>?_) (fun i=>?_);have e:k<3:=by have:=of_decide_eq_true i;omega
 have q:=TJ j e;refine aJ ?_;refine aG ?_;refine aQ ?_;refine aB ?_;refine bC M z x (by rfl) (by kernel_rfl) ?_ ?_;simp;refine fun h B r _=>?_;rw[q] at r;rw[<-d];exact⟨(bHo 2 b c l k).trans B,r.trans (Ig 2 b c l e)⟩;change lh _ _ _ _ _;refine gI ?_;intro a w g;refine⟨k+1,_,by omega,by omega,rfl,(g.reset (kT:=[0,1,2,7]) (kO:=[900000]) f_ ay).same ?_ ?_⟩;exact .cons rfl (.cons rfl (.cons rfl (.cons (by rw[cO k a_]) .nil)));refine .cons (.dev ?_) .nil;rw[q];rfl
 ·have f:k=3:=by
   have:=of_decide_eq_false i;omega
  subst f;refine eP ?_;change UN _ _ _;intro a w g;refine⟨.inl rfl,_,⟨?_,(fun o u=>by cases u),fun p t=>?_⟩,g⟩;rotate_left 1;cases t;rfl;refine aY (by rfl) (by simp) (by rfl) (by rfl) ?_;rfl
def X6:List PV->Option (Prop×ah Bool×(Bool->PV))
 |[.w (.one (.lit (.int .i64 b))),.w (.one (.lit (.int .i64 c)))]=>some (0<=c/\c<=100000,ah.read b c,qy)|_=>none
theorem bHi{I:ae->Prop}(a:∀ w b,Ext w b->I w->I b):ai prog I 83 (nD X6):=
 pO (aC func83 aj rfl) (fun e c p v h d=>by
  unfold X6 at h;split at h;cases h;exact Ia a _ _ d
  cases h)
theorem aUn{I:ae->Prop}(a:∀ w b,Ext w b->I w->I b):ai prog I 84 (nD (Ep ah.jo fun _ c=>0<=c/\c<=100000)):=
 pO (aC func84 aj rfl) (fun e c p v h d=>by
  unfold Ep at h;split at h;cases h;exact bBp a _ _ d
  cases h)
theorem aTc{P:Program}{A:n_}{s:St}{Q:Exit->Act->ae->Prop}{x y:Code}(J:St->Prop)(h:lh P A s x (Exit.then (fun a w=>∃ b,J b/\qh A b a w) Q))(h2:∀ b,J b->lh P A b y Q):lh P A s (.seq x y) Q:=fun a w j d=>wp_seq (wp_mono (h a w j (fun c a w k i=>d c a w k i)) (fun e n g f=>by cases e<;>first|exact f|(obtain⟨b,m,l⟩:=f;exact h2 b m n g l d)))
def lvL:List (Nat×Spec):=(83,nD X6)::(84,nD (Ep ah.jo fun _ c=>0<=c/\c<=100000))::Bg
theorem U0{I:ae->Prop}(a:∀ w c,Ext w c->I w->I c):∀ p∈lvL,ai prog I p.1 p.2:=by intro p b;simp only[lvL,xn] at b;rcases b with rfl|rfl|b;exact bHi a;exact aUn a;exact Td a p b
theorem lvM{I:ae->Prop}(a:∀ w b,Ext w b->I w->I b):jl prog I (find lvL):=⟨bD (U0 a),dG⟩
def Left{a:Type}(O:List Acc->Option jh)(p:ah a)(l:List Acc)(q:ah a)(k:List Acc):Prop:=l <+: k/\go O p l=go O q k
theorem Left.start{a:Type}(O:List Acc->Option jh)(p:ah a)(l:List Acc):Left O p l p l:=⟨aAE _,rfl⟩
theorem Left.step{b a:Type}{O:List Acc->Option jh}{p:ah b}{l k:List Acc}{q:ah a}{f:a->ah b}(h:Left O p l (q.bind f) k):Left O p l (f (go O q k).1) (go O q k).2:=⟨h.1.trans (wR O q k),h.2.trans (zK O q f k)⟩
theorem Left.dw{b a:Type}{O:List Acc->Option jh}{p:ah b}{l k:List Acc}{q:ah a}{f:a->ah b}(h:Left O p l (q.bind f) k):∀ g,k <+: g->g <+: (go O q k).2->O g=none->l <+: g/\g <+: (go O p l).2:=fun g d c _=>by refine⟨h.1.trans d,c.trans ?_⟩;rw[h.step.2];exact wR _ _ _
def Vk(O:List Acc->Option jh)(dw:List Acc->Prop)(b:Int)(m:Nat)(n:Nat)(a:List Acc):St:=⟨[(0,none,.w (.one .dv)),(1,none,di b),(2,none,di m),(7,none,di n)],[(dx,none,0,.dev O dw a)]⟩
def aBN(O:List Acc->Option jh)(dw:List Acc->Prop)(b:Int)(m:Nat)(n k:Nat)(a:List Acc):St:=⟨[(0,none,.w (.one .dv)),(1,none,di b),(2,none,di m),(7,none,di n),(19,none,di n),(20,none,di k)],[(dx,none,0,.dev O dw a)]⟩
theorem aGj{I:ae->Prop}(z:∀ w E,Ext w E->I w->I E)(b:Int)(m:Nat)(S:m<=1000):CO prog I 55 (ah.dn b m) [.w (.one .dv),di b,di m] (fun n=>di n):=by
 intro O l;have M:=lvM z;refine dM func55 rfl rfl rfl (fun A L Q=>?_);generalize g:(fun h=>l <+: h/\h <+: (go O (ah.dn b m) l).2)=dw;refine aB ?_;refine bFl ?_;refine aB ?_;refine aG ?_;refine bFm ?_;change lh _ _ _ _ _;refine aTc (fun F=>∃ n d,F=Vk O dw b m n d/\n<=m/\Left O (ah.dn b m) l ((ah.down b n 0).bind fun _=>.ret n) d) ?_ ?_;refine aQ ?_;refine aU (Vk O dw b m 0 l) ?_ ?_ ?_;exact ig;exact .cons (.dev rfl) .nil;refine fF m (fun n s=>∃ d,s=Vk O dw b m n d/\Left O (ah.dn b m) l ((ah.up b (m-n) n).bind fun n=>(ah.down b n 0).bind fun _=>.ret n) d) 0 ⟨l,rfl,Left.start _ _ _⟩ a_ (fun n s y P=>?_);obtain⟨d,rfl,i⟩:=y;refine aG ?_;refine aB ?_;refine aI (fun e=>?_) (fun e=>?_);have K:n<m:=by have:=of_decide_eq_true e;omega
 have t:m-n=(m-(n+1))+1:=by omega
 rw[t,ah.up,ah.bind_assoc] at i;refine aJ ?_;refine aQ ?_;refine aG ?_;refine aF ?_ ?_;simp;refine⟨by omega,fun h D C B=>?_⟩;rw[<-g];exact i.dw h D C B;refine aI (fun e=>?_) (fun e=>?_);have x:(go O (ah.read b n) d).1=false:=by have h:(!(go O (ah.read b n) d).1)=true:=e;simpa using h
 have c:=i.step;rw[x,if_neg ay] at c;refine eP ?_;intro a w f;refine⟨_,⟨n,_,rfl,by omega,c⟩,(f.reset (kT:=[0,1,2,7]) (kO:=[900000]) f_ ay).same ?_ ?_⟩;exact ig;exact .cons (.dev rfl) .nil;have x:(go O (ah.read b n) d).1=true:=by have h:(!(go O (ah.read b n) d).1)=false:=e;simpa using h
 have c:=i.step;rw[x,if_pos rfl] at c;refine aJ ?_;refine gI ?_;intro a w f;refine⟨n+1,_,by omega,by omega,⟨_,rfl,c⟩,(f.reset (kT:=[0,1,2,7]) (kO:=[900000]) f_ ay).same ?_ ?_⟩;exact .cons rfl (.cons rfl (.cons rfl (.cons (by rw[cO n a_]) .nil)));exact .cons (.dev rfl) .nil;have j:n=m:=by have:=of_decide_eq_false e;omega
 refine eP ?_;intro a w f;refine⟨_,⟨n,d,rfl,by omega,?_⟩,(f.reset (kT:=[0,1,2,7]) (kO:=[900000]) f_ ay).same ?_ ?_⟩;rw[j,YB] at i;rw[j];exact i;exact ig;exact .cons (.dev rfl) .nil
 ·rintro F ⟨n,d,rfl,j,i⟩;refine aG ?_;refine aB ?_;refine aQ ?_;refine aU (aBN O dw b m n 0 d) ?_ ?_ ?_;exact ig;exact .cons (.dev rfl) .nil;refine fF n (fun k s=>∃ d,s=aBN O dw b m n k d/\Left O (ah.dn b m) l ((ah.down b (n-k) k).bind fun _=>.ret n) d) 0 ⟨d,rfl,i⟩ a_ (fun k s y P=>?_);obtain⟨q,rfl,c⟩:=y;refine aB ?_;refine aG ?_;refine aI (fun e=>?_) (fun e=>?_);have N:k<n:=by have:=of_decide_eq_true e;omega
  have r:n-k=(n-(k+1))+1:=by omega
  rw[r,ah.down,ah.bind_assoc] at c;refine aJ ?_;refine aG ?_;refine aQ ?_;refine aB ?_;refine bC M Q L (by rfl) (by kernel_rfl) ?_ ?_;simp;refine⟨by omega,fun h D C B=>?_⟩;rw[<-g];exact c.dw h D C B;change lh _ _ _ _ _;refine gI ?_;intro a w f;refine⟨k+1,_,by omega,by omega,⟨_,rfl,c.step⟩,(f.reset (kT:=[0,1,2,7,19,20]) (kO:=[900000]) f_ ay).same ?_ ?_⟩;exact .cons rfl (.cons rfl (.cons rfl (.cons rfl (.cons rfl (.cons (by rw[cO k a_]) .nil)))));exact .cons (.dev rfl) .nil
  ·have u:k=n:=by have:=of_decide_eq_false e;omega
   rw[u,YB] at c;have G:go O (ah.dn b m) l=(n,q):=c.2;refine eP ?_;change lh _ _ _ _ _;refine aB ?_;refine cZ (fun a w f=>⟨.inr rfl,_,⟨?_,(fun o J=>by cases J),fun p H=>?_⟩,f⟩);rotate_left 1;cases H;rw[G];rfl;refine aY (by rfl) (by simp) (by rfl) (by rfl) ?_;rw[G]
def ET:List PV->Option (Prop×ah Nat×(Nat->PV))
 |[.w (.one (.lit (.int .i64 b))),.w (.one (.lit (.int .i64 m)))]=>some (0<=m/\m<=1000,ah.dn b m.toNat,fun n=>di n)|_=>none
theorem aCw{I:ae->Prop}(a:∀ w d,Ext w d->I w->I d):ai prog I 55 (nD ET):=
 pO (aC func55 aj rfl) (fun e c p v h f=>by
  unfold ET at h;split at h;rename_i b m;cases h;obtain⟨k,rfl⟩:∃ k:Nat,m=(k:Int):=⟨m.toNat,by omega⟩;rw[MM];exact aGj a b k a_
  cases h)
def raL:List (Nat×Spec):=(55,nD ET)::lvL
theorem aAV{I:ae->Prop}(a:∀ w c,Ext w c->I w->I c):∀ p∈raL,ai prog I p.1 p.2:=by intro p b;simp only[raL,xn] at b;rcases b with rfl|b;exact aCw a;exact U0 a p b
theorem raM{I:ae->Prop}(a:∀ w b,Ext w b->I w->I b):jl prog I (find raL):=⟨bD (aAV a),dG⟩
def aAW(O:List Acc->Option jh)(dw:List Acc->Prop)(b:Int)(t:Nat)(n:Nat)(a:List Acc):St:=⟨[(0,none,.w (.one .dv)),(1,none,di b),(3,none,di t),(10,none,di n)],[(dx,none,0,.dev O dw a)]⟩
def raV(p:Nat×Int):PV:=.lu [.one (.lit (.int .i64 p.1)),.one (.lit (.int .i64 p.2))]
theorem aUk{I:ae->Prop}(H:∀ w J,Ext w J->I w->I J)(b:Int)(m t:Nat)(P:m<=1000)(L:t<=1000):CO prog I 100 (ah.jw b m t) [.w (.one .dv),di b,di m,di t] raV:=by
 intro O l;have M:=raM H;refine dM func100 rfl rfl rfl (fun A N S=>?_);generalize c:(fun h=>l <+: h/\h <+: (go O (ah.jw b m t) l).2)=dw;have r:Left O (ah.jw b m t) l ((ah.dn b m).bind fun n=>ah.p_ b (t-n) n) l:=Left.start _ _ _;have j:(go O (ah.dn b m) l).1<=m:=UK O (yZ b m) l;have e:=r.step;refine aB ?_;refine aF ?_ ?_;simp;refine⟨by omega,fun h z y x=>?_⟩;rw[<-c];exact r.dw h z y x;obtain⟨B,C,D⟩:∃ B C,go O (ah.dn b m) l=(B,C):=⟨_,_,rfl⟩;rw[D] at j e;dsimp only at j e;refine aG ?_;refine aQ ?_;refine aU (aAW O dw b t B C) ?_ ?_ ?_;exact .cons rfl (.cons rfl (.cons rfl (.cons (by show di ((go O (ah.dn b m) l).1:Int)=_;rw[D]) .nil)));exact .cons (.dev (by show (go O (ah.dn b m) l).2=_;rw[D])) .nil;refine fF (m+t) (fun n s=>∃ f,s=aAW O dw b t n f/\Left O (ah.jw b m t) l (ah.p_ b (t-n) n) f) B ⟨C,rfl,e⟩ a_ (fun n s K Q=>?_);obtain⟨f,rfl,e⟩:=K;refine aG ?_;refine aB ?_;refine aI (fun g=>?_) (fun g=>?_)
 ·have i:n<t:=by have:=of_decide_eq_true g;omega
  rw[show t-n=(t-(n+1))+1 by omega,ah.p_] at e;have q:=e.step;have d:=q.step;refine aJ ?_;refine aG ?_;refine aQ ?_;refine aF ?_ ?_;simp;refine⟨by omega,fun h z y x=>?_⟩;rw[<-c];exact e.dw h z y x;refine aF ?_ ?_;simp;refine⟨by omega,fun h z y x=>?_⟩;rw[<-c];exact q.dw h z y x;refine aI (fun g=>?_) (fun g=>?_)
  ·have G:(go O (ah.read b n) (go O (ah.jo b n) f).2).1=false:=by
    have h:(!(go O (ah.read b n) (go O (ah.jo b n) f).2).1)=true:=g;simpa using h
   rw[G,if_neg ay] at d;have u:=d.2;refine aB ?_;refine cZ (fun a w k=>⟨.inr rfl,_,⟨?_,(fun o F=>by cases F),fun p E=>?_⟩,k⟩);rotate_left 1;cases E;rw[u];rfl;refine aY (by rfl) (by simp) (by rfl) (by rfl) ?_;rw[u];rfl
  have G:(go O (ah.read b n) (go O (ah.jo b n) f).2).1=true:=by have h:(!(go O (ah.read b n) (go O (ah.jo b n) f).2).1)=false:=g;simpa using h
  rw[G,if_pos rfl] at d;refine aJ ?_;refine gI ?_;intro a w k;refine⟨n+1,_,by omega,by omega,⟨_,rfl,d⟩,(k.reset (kT:=[0,1,3,10]) (kO:=[900000]) f_ ay).same ?_ ?_⟩;exact .cons rfl (.cons rfl (.cons rfl (.cons (by rw[cO n a_]) .nil)));exact .cons (.dev rfl) .nil
 ·have i:t-n=0:=by have:=of_decide_eq_false g;omega
  rw[i] at e;have u:go O (ah.jw b m t) l=((n,0),f):=e.2;refine eP ?_;change lh _ _ _ _ _;refine aB ?_;refine cZ (fun a w k=>⟨.inr rfl,_,⟨?_,(fun o F=>by cases F),fun p E=>?_⟩,k⟩);rotate_left 1;cases E;rw[u];rfl;refine aY (by rfl) (by simp) (by rfl) (by rfl) ?_;rw[u];rfl
def NE:List PV->Option (Prop×ah (Nat×Int)×(Nat×Int->PV))
 |[.w (.one (.lit (.int .i64 b))),.w (.one (.lit (.int .i64 m))),.w (.one (.lit (.int .i64 t)))]=>some ((0<=m/\m<=1000)/\0<=t/\t<=1000,ah.jw b m.toNat t.toNat,raV)|_=>none
theorem aPp{I:ae->Prop}(a:∀ w d,Ext w d->I w->I d):ai prog I 100 (nD NE):=
 pO (aC func100 aj rfl) (fun e c p v h f=>by
  unfold NE at h;split at h;rename_i b m t;cases h;obtain⟨k,rfl⟩:∃ k:Nat,m=(k:Int):=⟨m.toNat,by omega⟩;obtain⟨j,rfl⟩:∃ j:Nat,t=(j:Int):=⟨t.toNat,by omega⟩;rw[MM,MM];exact aUk a b k j a_ a_
  cases h)
def aWd:List PV->Option (Prop×ah Ce×(Ce->PV))
 |[.w (.one (.lit (.int .i64 rec)))]=>some (g_ rec,ah.load rec,ZT)|_=>none
def aVy:List PV->Option (Prop×ah Ce×(Ce->PV))
 |[.w (.one (.lit (.int .i64 rec))),.w (.one (.lit (.string c)))]=>some (g_ rec,ah.save rec c,ZT)|_=>none
theorem KA:ai prog af 98 (nC aWd):=
 qB (aC func98 aj rfl) (fun b c p v h a=>by
  unfold aWd at h;split at h;cases h;exact KI _ a
  cases h)
theorem Jy:ai prog af 101 (nC aVy):=
 qB (aC func101 aj rfl) (fun b c p v h a=>by
  unfold aVy at h;split at h;cases h;exact Hg _ a _
  cases h)
def Gi:Spec:=aZ true fun a=>match a with
 |[.w (.agg [.bs 16 root]),.w (.one (.lit (.string s)))]=>some (root.length=16/\s.size<=5000,ES (OH root s (wJ root s.data.toList)))|_=>none
theorem Qd:ai prog af 99 Gi:=by refine aW (aC func99 aj rfl) (fun c p r a b=>?_);split at a;cases a;exact bJh _ _ b.1 b.2;cases a
def QT:List (Nat×Spec):=(73,aLv qg aWb)::(98,nC aWd)::(101,nC aVy)::(55,nD ET)::(100,nD NE) ::
 (99,Gi)::(102,bFv)::(82,jG qg wu aZk)::ZZ
theorem Jq:∀ p∈QT,ai prog af p.1 p.2:=by intro p a;simp only[QT,xn] at a;rcases a with rfl|rfl|rfl|rfl|rfl|rfl|rfl|rfl|a;exact bIx;exact KA;exact Jy;exact aCw bK;exact aPp bK;exact Qd;exact bJk;exact aYn;exact aDu p a
theorem QW:jl prog af (find QT):=⟨bD Jq,dG⟩
def qM(root:List UInt8)(s:ByteArray):jg×Bool:=OH root s (wJ root s.data.toList)
def r_(m:je):ah jg:=(ah.load 3).bind fun s=>(iH (s.err==0) s.err).bind fun _=>(iH (qM m.root s.content).2 8).bind fun _=>.ret (qM m.root s.content).1
def z_(m:je)(r:jg):ah Unit:=(ah.save 3 (fK m.root r)).bind fun s=>(iH (s.err==0) s.err).bind fun _=>.ret ()
def kS(b:Int)(t:Nat):ah Nat:=(ah.jw b 16 t).bind fun p=>(iH (p.2==0) p.2).bind fun _=>.ret p.1
def qK(f:Nat):ah Unit:=(kS 3 (f+1)).bind fun n=>(iH ((n:Int)==((f+1:Nat):Int)) 21).bind fun _=>.ret ()
def nM(f:Nat):ah Unit:=(iH (((f % 2:Nat):Int)==0) 21).bind fun _=>(iH (decide ((f:Int)<16)) 17).bind fun _=>.ret ()
theorem aRw(rec:Int)(b:List UInt8):(o6 rec b).2.length<=2000:=by unfold o6;split;simp;split;simp;show (tq b).1.length<=2000;omega
theorem aGf(rec:Int):ah.All (fun o:Ce=>o.content.size<=2000) (ah.load rec):=by unfold ah.load;split;exact (by decide:(0:Nat)<=2000);refine ah.All.bind (R:=fun p:(Int×List UInt8)×Nat=>p.1.2.length<=2000) ?_ (fun p c=>?_);unfold ah.cur;refine ah.All.bind (R:=fun _=>True) (ah.All.zo _) (fun a _=>?_);refine ah.All.bind (R:=fun _=>True) (ah.All.zo _) (fun b _=>?_);show (ut (o6 rec a) (o6 rec b)).1.2.length<=2000;unfold ut;split;exact aRw _ _;exact aRw _ _;show (uH p.1).content.size<=2000;unfold uH;split;exact (by decide:(0:Nat)<=2000);show (strOf p.1.2).size<=2000;rw[bJ];exact c
theorem RH(m:je)(f:Int)(hr:m.root.length=16):wZ prog af qg 76 wu (ng m f) (r_ m) [] (fun r=>.w (.agg (oz r))):=by intro O l x y;have M:=QW;have j:Left O (r_ m) l (r_ m) l:=Left.start _ _ _;have c:=Left.step (q:=ah.load 3) j;have e:=UK O (aGf 3) l;generalize b:(fun h=>l <+: h/\h <+: (go O (r_ m) l).2)=dw;refine mW func76 rfl rfl (fun A B C=>?_);refine aB ?_;refine aF ?_ ?_;simp;refine⟨⟨x,by unfold g_;omega⟩,?_⟩;intro h o n k;rw[<-b];exact Left.dw (q:=ah.load 3) j h o n k;obtain⟨s,p,u⟩:∃ s p,go O (ah.load 3) l=(s,p):=⟨_,_,rfl⟩;rw[u] at c e;dsimp only at c e;refine aU (⟨[(0,none,d_ (.pt px 0 0)),(2,none,d_ (.pt 0 0 0)),(3,none,d_ (.pt 1005 0 0))],[(dx,none,0,.dev O dw p),(px,none,0,.box wu (.dv::ng m f)),(0,none,0,.box 149 (oz zq)),(1005,none,0,.box 164 (ZR s))]⟩) ?_ ?_ ?_;exact ig;refine .cons (.dev ?_) (.cons (.box rfl) (.cons (.box rfl) (.cons (.box ?_) .nil)));show (go O (ah.load 3) l).2=_;rw[u];show ZR (go O (ah.load 3) l).1=_;rw[u];have d:=Left.step c;refine aF ?_ ?_;simp;refine⟨⟨x,y⟩,?_⟩;intro h o n k;rw[<-b];exact Left.dw c h o n k;obtain⟨t,g⟩:∃ t,(go O (iH (s.err==0) s.err) p).2=t:=⟨_,rfl⟩;rw[g] at d;refine aU (⟨[(0,none,d_ (.pt px 0 0)),(2,none,d_ (.pt 0 0 0)),(3,none,d_ (.pt 1005 0 0))],[(dx,none,0,.dev O dw t),(px,none,0,.box wu (.dv::ng m f)),(0,none,0,.box 149 (oz zq)),(1005,none,0,.box 164 (ZR s))]⟩) ?_ ?_ ?_;exact ig;exact .cons (.dev g) (.cons (.box rfl) (.cons (.box rfl) (.cons (.box rfl) .nil)));refine aF ?_ ?_;simp;exact⟨hr,by omega⟩;refine aF ?_ ?_;simp;refine⟨⟨x,y⟩,?_⟩;intro h o n k;rw[<-b];exact Left.dw d h o n k;have i:=Left.step d;refine aB ?_;refine cZ (fun a w z=>⟨.inr rfl,_,⟨?_,⟨ng m f,rfl,eQ rfl⟩,?_⟩,z⟩);rotate_left 1;rw[i.2];rfl;refine aY (by rfl) (by simp) (by rfl) (by rfl) ?_;rw[i.2];rfl
theorem Pm(m:je)(f:Int)(r:jg)(hr:m.root.length=16)(d:Cf r):wZ prog af qg 79 wu (ng m f) (z_ m r) [.w (.agg (oz r))] (fun _=>.lu []):=by intro O l p y;have M:=QW;have e:Left O (z_ m r) l (z_ m r) l:=Left.start _ _ _;have b:=Left.step (q:=ah.save 3 (fK m.root r)) e;generalize c:(fun h=>l <+: h/\h <+: (go O (z_ m r) l).2)=dw;refine mW func79 rfl rfl (fun A t x=>?_);refine aB ?_;refine aF ?_ ?_;simp;refine⟨⟨d,hr⟩,⟨p,by unfold g_;omega⟩,?_⟩;intro h o n k;rw[<-c];exact Left.dw (q:=ah.save 3 (fK m.root r)) e h o n k;obtain⟨s,g,i⟩:∃ s g,go O (ah.save 3 (fK m.root r)) l=(s,g):=⟨_,_,rfl⟩;rw[i] at b;dsimp only at b;refine aU (⟨[(0,none,d_ (.pt px 0 0)),(4,none,d_ (.pt 1012 0 0))],[(dx,none,0,.dev O dw g),(px,none,0,.box wu (.dv::ng m f)),(1012,none,0,.box 164 (ZR s))]⟩) ?_ ?_ ?_;exact ig;refine .cons (.dev ?_) (.cons (.box rfl) (.cons (.box ?_) .nil));show (go O (ah.save 3 (fK m.root r)) l).2=_;rw[i];show ZR (go O (ah.save 3 (fK m.root r)) l).1=_;rw[i];have j:=Left.step b;refine bC M x t (by rfl) (by kernel_rfl) ?_ ?_;simp;refine⟨⟨p,y⟩,?_⟩;intro h o n k;rw[<-c];exact Left.dw b h o n k;intro a w u;refine⟨.inl rfl,_,⟨?_,⟨ng m f,rfl,eQ rfl⟩,?_⟩,u⟩;rotate_left 1;rw[j.2];rfl;refine aY (by rfl) (by simp) (by rfl) (by rfl) ?_;rfl
theorem bHr(m:je)(f:Int)(b:Int)(t:Nat)(x:t<=1000):wZ prog af qg 78 wu (ng m f) (kS b t) [di b,di t] (fun n=>di n):=by intro O l s u;have M:=QW;have g:Left O (kS b t) l (kS b t) l:=Left.start _ _ _;have c:=Left.step (q:=ah.jw b 16 t) g;generalize d:(fun h=>l <+: h/\h <+: (go O (kS b t) l).2)=dw;refine mW func78 rfl rfl (fun A y z=>?_);refine aB ?_;refine aF ?_ ?_;simp;refine⟨by omega,?_⟩;intro h p o k;rw[<-d];exact Left.dw (q:=ah.jw b 16 t) g h p o k;obtain⟨q,j,i⟩:∃ q j,go O (ah.jw b 16 t) l=(q,j):=⟨_,_,rfl⟩;rw[i] at c;dsimp only at c;refine aU (⟨[(7,none,di q.1),(8,none,di q.2)],[(dx,none,0,.dev O dw j),(px,none,0,.box wu (.dv::ng m f))]⟩) ?_ ?_ ?_;refine .cons ?_ (.cons ?_ .nil);show di (go O (ah.jw b 16 t) l).1.1=_;rw[i];show di (go O (ah.jw b 16 t) l).1.2=_;rw[i];refine .cons (.dev ?_) (.cons (.box rfl) .nil);show (go O (ah.jw b 16 t) l).2=_;rw[i];have e:=Left.step c;refine aF ?_ ?_;simp;refine⟨⟨s,u⟩,?_⟩;intro h p o k;rw[<-d];exact Left.dw c h p o k;refine aB ?_;refine cZ (fun a w r=>⟨.inr rfl,_,⟨?_,⟨ng m f,rfl,eQ rfl⟩,?_⟩,r⟩);rotate_left 1;rw[e.2];rfl;refine aY (by rfl) (by simp) (by rfl) (by rfl) ?_;rw[e.2];rfl
def aNk(l:List PC)(ys:List PV):Option (Prop×ah Nat×(Nat->PV)):=match CW l,ys with
 |some _,[.w (.one (.lit (.int .i64 b))),.w (.one (.lit (.int .i64 t)))]=>some (0<=t/\t<=1000,kS b t.toNat,fun n=>di n)|_,_=>none
theorem Ih:ai prog af 78 (jG qg wu aNk):=
 kU (aC func78 aj rfl) (fun l e c p v h g=>by
  unfold aNk at h;split at h;rename_i a b t d;cases h;rw[wW (m:=a.1) (f:=a.2) d];obtain⟨k,rfl⟩:∃ k:Nat,t=(k:Int):=⟨t.toNat,by omega⟩;rw[MM];exact bHr a.1 a.2 b k a_
  cases h)
def QR:List (Nat×Spec):=(78,jG qg wu aNk)::QT
theorem Jp:∀ p∈QR,ai prog af p.1 p.2:=by intro p a;simp only[QR,xn] at a;rcases a with rfl|a;exact Ih;exact Jq p a
theorem aKD:jl prog af (find QR):=⟨bD Jp,dG⟩
theorem Jk(m:je)(f:Nat)(x:f<=900):wZ prog af qg 77 wu (ng m f) (qK f) [] (fun _=>.lu []):=by
 intro O l r s;have M:=aKD;have e:Left O (qK f) l (qK f) l:=Left.start _ _ _;have d:=Left.step (q:=kS 3 (f+1)) e;have k:=Left.step d;have i:IntKind.i64.wrap ((f:Int)+1)=((f+1:Nat):Int):=by rw[TC];omega
 generalize b:(fun h=>l <+: h/\h <+: (go O (qK f) l).2)=dw;obtain⟨g,j⟩:∃ g:Int,(f:Int)=g:=⟨_,rfl⟩;rw[j] at i ⊢;refine mW func77 rfl rfl (fun A t u=>?_);refine bC M u t (by rfl) (by kernel_rfl) ?_ ?_;simp;rw[i];refine⟨⟨r,s,by omega,by omega⟩,?_,⟨r,s⟩,?_⟩;intro h p o n;rw[<-b];exact Left.dw (q:=kS 3 (f+1)) e h p o n;intro h p o n;rw[<-b];exact Left.dw d h p o n;have c:(go O (iH (((go O (kS 3 (IntKind.i64.wrap (g+1)).toNat) l).1:Int)==IntKind.i64.wrap (g+1)) 21) (go O (kS 3 (IntKind.i64.wrap (g+1)).toNat) l).2).2=(go O (qK f) l).2:=by rw[i,k.2];rfl
 intro a w j;refine⟨.inl rfl,_,⟨?_,⟨ng m g,rfl,eQ rfl⟩,?_⟩,j⟩;rotate_left 1;exact congrArg (fun h=>some (none,0,qm.dev O dw h)) c;refine aY (by rfl) (by simp) (by rfl) (by rfl) ?_;rfl
theorem IZ(m:je)(f:Nat)(_:f<=900):wZ prog af qg 74 wu (ng m f) (nM f) [] (fun _=>.lu []):=by
 intro O l k n;have M:=QW;have d:Left O (nM f) l (nM f) l:=Left.start _ _ _;have c:=Left.step (q:=iH (((f % 2:Nat):Int)==0) 21) d;have e:=Left.step c;generalize b:(fun h=>l <+: h/\h <+: (go O (nM f) l).2)=dw;refine mW func74 rfl rfl (fun A o s=>?_);have p:((f:Int).tmod 2==0)=(((f % 2:Nat):Int)==0):=by rw[show (f:Int).tmod 2=((f % 2:Nat):Int) from rfl]
 refine aF ?_ ?_;simp;refine⟨⟨k,n⟩,?_⟩;rw[p];intro h j i g;rw[<-b];exact Left.dw (q:=iH (((f % 2:Nat):Int)==0) 21) d h j i g;refine bC M s o (by rfl) (by kernel_rfl) ?_ ?_;simp;refine⟨⟨k,n⟩,?_⟩;intro h j i g;rw[<-b];exact Left.dw c h j i g;intro a w r;refine⟨.inl rfl,_,⟨?_,⟨ng m f,rfl,eQ rfl⟩,?_⟩,r⟩;rotate_left 1;rw[e.2];rfl;refine aY (by rfl) (by simp) (by rfl) (by rfl) ?_;rfl
def bMk(l:List PC)(ys:List PV):Option (Prop×ah Unit×(Unit->PV)):=match CW l,ys with
 |some (m,_),[.w (.agg a)]=>(match FD a with
  |some r=>some (m.root.length=16/\Cf r,z_ m r,fun _=>.lu [])|none=>none)
 |_,_=>none
theorem Qb:ai prog af 79 (jG qg wu bMk):=
 kU (aC func79 aj rfl) (fun l g c p v h b=>by
  unfold bMk at h;split at h;rename_i m f d e;cases a:FD d with
  |none=>rw[a] at h;cases h|some r=>rw[a] at h;cases h;rw[wW e,xP a];exact Pm m f r b.1 b.2
  cases h)
def bMv(l:List PC)(ys:List PV):Option (Prop×ah jg×(jg->PV)):=match CW l,ys with
 |some (m,_),[]=>some (m.root.length=16,r_ m,fun r=>.w (.agg (oz r)))|_,_=>none
theorem Qc:ai prog af 76 (jG qg wu bMv):=
 kU (aC func76 aj rfl) (fun l d c p v h b=>by
  unfold bMv at h;split at h;rename_i m f a;cases h;rw[wW a];exact RH m f b
  cases h)
def aWc(l:List PC)(ys:List PV):Option (Prop×ah Unit×(Unit->PV)):=match CW l,ys with
 |some (_,f),[]=>some (0<=f/\f<=900,qK f.toNat,fun _=>.lu [])|_,_=>none
theorem K_:ai prog af 77 (jG qg wu aWc):=
 kU (aC func77 aj rfl) (fun l b c p v h d=>by
  unfold aWc at h;split at h;rename_i m f a;cases h;rw[wW a];obtain⟨k,rfl⟩:∃ k:Nat,f=(k:Int):=⟨f.toNat,by omega⟩;rw[MM];exact Jk m k a_
  cases h)
def aVz(l:List PC)(ys:List PV):Option (Prop×ah Unit×(Unit->PV)):=match CW l,ys with
 |some (_,f),[]=>some (0<=f/\f<=900,nM f.toNat,fun _=>.lu [])|_,_=>none
theorem Jz:ai prog af 74 (jG qg wu aVz):=
 kU (aC func74 aj rfl) (fun l b c p v h d=>by
  unfold aVz at h;split at h;rename_i m f a;cases h;rw[wW a];obtain⟨k,rfl⟩:∃ k:Nat,f=(k:Int):=⟨f.toNat,by omega⟩;rw[MM];exact IZ m k a_
  cases h)
def QQ:List (Nat×Spec):=(79,jG qg wu bMk)::(76,jG qg wu bMv)::(77,jG qg wu aWc)::(74,jG qg wu aVz)::QR
theorem Jo:∀ p∈QQ,ai prog af p.1 p.2:=by intro p a;simp only[QQ,xn] at a;rcases a with rfl|rfl|rfl|rfl|a;exact Qb;exact Qc;exact K_;exact Jz;exact Jp p a
theorem aKC:jl prog af (find QQ):=⟨bD Jo,dG⟩
def qL(f:Nat)(p:ByteArray):jg:=⟨1,((f+1:Nat):Int),vz,0,p⟩
def nJ(m:je)(f:Nat)(p:ByteArray):ah ja:=(z_ m (qL f p)).bind fun _=>(qK f).bind fun _=>.ret { kz with payload:=p }
theorem bDx(m:je)(f:Nat)(p:ByteArray)(z:f<=900)(hr:m.root.length=16)(u:p.size<=10000):wZ prog af qg 75 wu (ng m f) (nJ m f p) [jr p] (fun o=>.w (.agg (gm o))):=by
 intro O l s t;have M:=aKC;have e:Left O (nJ m f p) l (nJ m f p) l:=Left.start _ _ _;have d:=Left.step (q:=z_ m (qL f p)) e;have c:=Left.step d;have n:IntKind.i64.wrap ((f:Int)+1)=((f+1:Nat):Int):=by rw[TC];omega
 generalize b:(fun h=>l <+: h/\h <+: (go O (nJ m f p) l).2)=dw;refine mW func75 rfl rfl (fun A y B=>?_);refine aB ?_;refine aF ?_ ?_;simp;rw[n];refine⟨⟨s,t,hr,⟨(by show g_ 1;unfold g_;omega),(by show g_ ((f+1:Nat):Int);unfold g_;omega),(by show g_ 0;unfold g_;omega),rfl,u⟩⟩,?_⟩;intro h k j i;rw[<-b];exact Left.dw (q:=z_ m (qL f p)) e h k j i;obtain⟨g,r⟩:∃ g,(go O (z_ m (qL f p)) l).2=g:=⟨_,rfl⟩;rw[r] at d c;refine aU (⟨[(0,none,d_ (.pt px 0 0)),(1,none,jr p),(4,none,d_ (.pt 0 0 0))],[(dx,none,0,.dev O dw g),(px,none,0,.box wu (.dv::ng m f)),(0,none,0,.box 40 (gm kz))]⟩) ?_ ?_ ?_;exact ig;refine .cons (.dev ?_) (.cons (.box rfl) (.cons (.box rfl) .nil));show (go O (z_ m ⟨1,IntKind.i64.wrap ((f:Int)+1),vz,0,p⟩) l).2=_;rw[n];exact r;refine aF ?_ ?_;simp;refine⟨⟨s,t,by omega⟩,?_⟩;intro h k j i;rw[<-b];exact Left.dw d h k j i;refine aB ?_;refine cZ (fun a w x=>⟨.inr rfl,_,⟨?_,⟨ng m f,rfl,eQ rfl⟩,?_⟩,x⟩);rotate_left 1;rw[c.2];rfl;refine aY (by rfl) (by simp) (by rfl) (by rfl) ?_;rw[c.2];rfl
def aHd(l:List PC)(ys:List PV):Option (Prop×ah ja×(ja->PV)):=match CW l,ys with
 |some (m,f),[.w (.one (.lit (.string p)))]=>some (0<=f/\f<=900/\m.root.length=16/\p.size<=10000,nJ m f.toNat p,fun o=>.w (.agg (gm o)))|_,_=>none
theorem bCc:ai prog af 75 (jG qg wu aHd):=
 kU (aC func75 aj rfl) (fun l d c p v h a=>by
  unfold aHd at h;split at h;rename_i m f q b;cases h;rw[wW b];obtain⟨k,rfl⟩:∃ k:Nat,f=(k:Int):=⟨f.toNat,by omega⟩;rw[MM];exact bDx m k q a_ a.2.2.1 a.2.2.2
  cases h)
def QP:List (Nat×Spec):=(75,jG qg wu aHd)::QQ
theorem Jn:∀ p∈QP,ai prog af p.1 p.2:=by intro p a;simp only[QP,xn] at a;rcases a with rfl|a;exact bCc;exact Jo p a
theorem aBK:jl prog af (find QP):=⟨bD Jn,dG⟩
def zN(m:je)(f:Nat):ah ja:=(nM f).bind fun _=>(nJ m f m.payload).bind fun o=>.ret o
theorem bDk(m:je)(f:Nat)(t:f<=900)(hr:m.root.length=16)(p:m.payload.size<=10000):wZ prog af qg 48 wu (ng m f) (zN m f) [] (fun o=>.w (.agg (gm o))):=by intro O l k n;have M:=aBK;have e:Left O (zN m f) l (zN m f) l:=Left.start _ _ _;have d:=Left.step (q:=nM f) e;have c:=Left.step d;generalize b:(fun h=>l <+: h/\h <+: (go O (zN m f) l).2)=dw;refine mW func48 rfl rfl (fun A s u=>?_);refine aB ?_;refine aF ?_ ?_;simp;refine⟨⟨k,n,by omega⟩,?_⟩;intro h j i g;rw[<-b];exact Left.dw (q:=nM f) e h j i g;refine aF ?_ ?_;simp;refine⟨⟨k,n,by omega,hr,p⟩,?_⟩;intro h j i g;rw[<-b];exact Left.dw d h j i g;refine cZ (fun a w r=>⟨.inr rfl,_,⟨?_,⟨ng m f,rfl,eQ rfl⟩,?_⟩,r⟩);rotate_left 1;rw[c.2];rfl;refine aY (by rfl) (by simp) (by rfl) (by rfl) ?_;rw[c.2];rfl
def Xe(m:je)(f:Nat):ah ja:=(nM f).bind fun _=>.ret { kz with ot:=m.id,ol:=f }
theorem bIp(m:je)(f:Nat)(r:f<=900):wZ prog af qg 51 wu (ng m f) (Xe m f) [] (fun o=>.w (.agg (gm o))):=by intro O l g i;have M:=aBK;have d:Left O (Xe m f) l (Xe m f) l:=Left.start _ _ _;have c:=Left.step (q:=nM f) d;generalize b:(fun h=>l <+: h/\h <+: (go O (Xe m f) l).2)=dw;refine mW func51 rfl rfl (fun A p s=>?_);refine aB ?_;refine aF ?_ ?_;simp;refine⟨⟨g,i,by omega⟩,?_⟩;intro h n k j;rw[<-b];exact Left.dw (q:=nM f) d h n k j;refine aB ?_;refine cZ (fun a w e=>⟨.inr rfl,_,⟨?_,⟨ng m f,rfl,eQ rfl⟩,?_⟩,e⟩);rotate_left 1;rw[c.2];rfl;refine aY (by rfl) (by simp) (by rfl) (by rfl) ?_;rw[c.2];rfl
def NC(l:List PC)(ys:List PV):Option (Prop×ah ja×(ja->PV)):=match CW l,ys with
 |some (m,_),[.w (.agg a)]=>(match FD a with
  |some r=>some (g_ r.ol/\m.link.length=16/\r.ot.length=16/\r.payload.size<=10000,.ret (gW m.link r),fun o=>.w (.agg (gm o)))|none=>none)
 |_,_=>none
theorem Vh:ai prog af 80 (jG qg wu NC):=
 kU (aC func80 aj rfl) (fun l g c p v h a=>by
  unfold NC at h;split at h;rename_i m f d e;cases b:FD d with
  |none=>rw[b] at h;cases h|some r=>rw[b] at h;cases h;rw[wW e,xP b];exact aOn m f r a.1 a.2.1 a.2.2.1 a.2.2.2
  cases h)
def VX:List (Nat×Spec):=(80,jG qg wu NC)::QP
theorem Va:∀ p∈VX,ai prog af p.1 p.2:=by intro p a;simp only[VX,xn] at a;rcases a with rfl|a;exact Vh;exact Jn p a
theorem Eh:jl prog af (find VX):=⟨bD Va,dG⟩
def UG(m:je)(f:Nat):ah ja:=(iH (((f % 2:Nat):Int)==1) 21).bind fun _=>(z_ m ⟨1,(f:Int),vz,0,m.payload⟩).bind fun _=>.ret { kz with payload:=m.payload }
theorem ZU(f:Nat):(f:Int).tmod 2=((f % 2:Nat):Int):=rfl
theorem bIz(m:je)(f:Nat)(x:f<=900)(hr:m.root.length=16)(s:m.payload.size<=10000):wZ prog af qg 50 wu (ng m f) (UG m f) [] (fun o=>.w (.agg (gm o))):=by intro O l p r;have M:=Eh;have e:Left O (UG m f) l (UG m f) l:=Left.start _ _ _;have d:=Left.step (q:=iH (((f % 2:Nat):Int)==1) 21) e;have c:=Left.step d;generalize b:(fun h=>l <+: h/\h <+: (go O (UG m f) l).2)=dw;refine mW func50 rfl rfl (fun A u y=>?_);refine aB ?_;refine aF ?_ ?_;simp;refine⟨⟨p,r⟩,?_⟩;rw[ZU];intro h k j i;rw[<-b];exact Left.dw (q:=iH (((f % 2:Nat):Int)==1) 21) e h k j i;obtain⟨g,n⟩:∃ g,(go O (iH (((f % 2:Nat):Int)==1) 21) l).2=g:=⟨_,rfl⟩;rw[n] at d c;refine aU (⟨[(0,none,d_ (.pt px 0 0)),(2,none,d_ (.pt 0 0 0))],[(dx,none,0,.dev O dw g),(px,none,0,.box wu (.dv::ng m f)),(0,none,0,.box 40 (gm kz))]⟩) ?_ ?_ ?_;exact ig;exact .cons (.dev n) (.cons (.box rfl) (.cons (.box rfl) .nil));refine aF ?_ ?_;simp;refine⟨⟨p,r,hr,⟨(by show g_ 1;unfold g_;omega),(by show g_ (f:Int);unfold g_;omega),(by show g_ 0;unfold g_;omega),rfl,s⟩⟩,?_⟩;intro h k j i;rw[<-b];exact Left.dw d h k j i;refine aB ?_;refine cZ (fun a w t=>⟨.inr rfl,_,⟨?_,⟨ng m f,rfl,eQ rfl⟩,?_⟩,t⟩);rotate_left 1;rw[c.2];rfl;refine aY (by rfl) (by simp) (by rfl) (by rfl) ?_;rw[c.2];rfl
theorem aZi(root:List UInt8)(s:ByteArray)(hs:s.size<=5000):Cf (qM root s).1:=by
 have b:Cf zq:=⟨by show g_ 0;unfold g_;omega,by show g_ 0;unfold g_;omega,by show g_ 0;unfold g_;omega,rfl,by decide⟩;unfold qM;cases c:wJ root s.data.toList with
 |DZ=>exact b|Dz=>exact b|okR p=>have a:=aPz c;rw[show s.data.toList.length=s.size from mf] at a;unfold OH;dsimp only;unfold VW;split;exact b;rename_i h;unfold VV;dsimp only;have d:=jW (aDf (au (aDf 16 (aDf (au (aDf (au p).2.1 p)).2.1 (aDf (au p).2.1 p)))).2.1 (aDf 16 (aDf (au (aDf (au p).2.1 p)).2.1 (aDf (au p).2.1 p))));simp only[AC] at d;refine⟨fJ _,fJ _,fJ _,?_,?_⟩;simp only[AC,not_or,Nat.not_lt] at h;simp only[uk,AC];omega;show (strOf _).size<=10000;rw[bJ];omega
theorem aMu(m:je):ah.All (fun r:jg=>Cf r) (r_ m):=by refine ah.All.bind (aGf 3) (fun s a=>?_);refine ah.All.bind (R:=fun _=>True) (ah.All.zo _) (fun _ _=>?_);refine ah.All.bind (R:=fun _=>True) (ah.All.zo _) (fun _ _=>?_);exact aZi m.root s.content a_
def tN(m:je)(f:Nat):ah ja:=(iH (((f % 2:Nat):Int)==0) 21).bind fun _=>(r_ m).bind fun r=>(iH (bif r.kind==2 then r.level==(f:Int) else false) 14).bind fun _=>.ret (gW m.link r)
theorem bBd(m:je)(f:Nat)(_:f<=900)(hr:m.root.length=16)(hl:m.link.length=16):wZ prog af qg 53 wu (ng m f) (tN m f) [] (fun o=>.w (.agg (gm o))):=by
 intro O l y z;have M:=Eh;have x:Left O (tN m f) l (tN m f) l:=Left.start _ _ _;have p:=Left.step (q:=iH (((f % 2:Nat):Int)==0) 21) x;have e:=Left.step p;generalize d:(fun h=>l <+: h/\h <+: (go O (tN m f) l).2)=dw;refine mW func53 rfl rfl (fun A E G=>?_);refine aB ?_;refine aF ?_ ?_;simp;refine⟨⟨y,z⟩,?_⟩;rw[ZU];intro h u t s;rw[<-d];exact Left.dw (q:=iH (((f % 2:Nat):Int)==0) 21) x h u t s;obtain⟨j,C⟩:∃ j,(go O (iH (((f % 2:Nat):Int)==0) 21) l).2=j:=⟨_,rfl⟩;rw[C] at p e;refine aU (⟨[(0,none,d_ (.pt px 0 0)),(2,none,d_ (.pt 0 0 0))],[(dx,none,0,.dev O dw j),(px,none,0,.box wu (.dv::ng m f)),(0,none,0,.box 40 (gm kz))]⟩) ?_ ?_ ?_;exact ig;exact .cons (.dev C) (.cons (.box rfl) (.cons (.box rfl) .nil));have c:=UK O (aMu m) j;refine aF ?_ ?_;simp;refine⟨⟨y,z,hr⟩,?_⟩;intro h u t s;rw[<-d];exact Left.dw p h u t s;obtain⟨r,B,k⟩:∃ r B,go O (r_ m) j=(r,B):=⟨_,_,rfl⟩;rw[k] at e c;dsimp only at e c;refine aU (⟨[(0,none,d_ (.pt px 0 0)),(2,none,d_ (.pt 0 0 0)),(3,none,d_ (.pt 2002 0 0))],[(dx,none,0,.dev O dw B),(px,none,0,.box wu (.dv::ng m f)),(0,none,0,.box 40 (gm kz)),(2002,none,0,.box 149 (oz r))]⟩) ?_ ?_ ?_;exact ig;refine .cons (.dev ?_) (.cons (.box rfl) (.cons (.box rfl) (.cons (.box ?_) .nil)));show (go O (r_ m) j).2=_;rw[k];show oz (go O (r_ m) j).1=_;rw[k];have n:=Left.step e;have i:=e;have g:=n
 rw[show ∀ a b:Bool,(bif a then b else false)=(a&&b) from fun a b=>by cases a<;>rfl] at i g
 refine aF ?_ ?_;simp;refine⟨⟨y,z⟩,?_⟩;intro h u t s;rw[<-d];exact Left.dw i h u t s;refine aF ?_ ?_;simp;refine⟨⟨y,z,c.ol,hl,c.ot,c.payload⟩,?_⟩;intro h u t s;rw[<-d];exact Left.dw (q:=.ret (gW m.link r)) (f:=fun o=>.ret o) g h u t s;refine cZ (fun a w D=>⟨.inr rfl,_,⟨?_,⟨ng m f,rfl,eQ rfl⟩,?_⟩,D⟩);rotate_left 1;rw[n.2];rfl;refine aY (by rfl) (by simp) (by rfl) (by rfl) ?_;rw[n.2];rfl
def yN(m:je)(f:Nat)(r:jg):jg:=⟨2,((f+1:Nat):Int),m.ot,m.ol,r.payload⟩
def Sv(m:je)(f:Nat):ah ja:=(iH (((f % 2:Nat):Int)==1) 21).bind fun _=>(r_ m).bind fun r=>(iH (bif r.kind==1 then r.level==(f:Int) else false) 14).bind fun _=>(qK f).bind fun _=>(z_ m (yN m f r)).bind fun _=>.ret (gW m.link (yN m f r))
theorem Gt(m:je)(f:Nat)(Q:f<=900)(hr:m.root.length=16)(hl:m.link.length=16)(K:m.ot.length=16)(D:g_ m.ol):wZ prog af qg 52 wu (ng m f) (Sv m f) [] (fun o=>.w (.agg (gm o))):=by
 intro O l y z;have M:=Eh;have F:Left O (Sv m f) l (Sv m f) l:=Left.start _ _ _;have x:=Left.step (q:=iH (((f % 2:Nat):Int)==1) 21) F;have e:=Left.step x;generalize c:(fun h=>l <+: h/\h <+: (go O (Sv m f) l).2)=dw;refine mW func52 rfl rfl (fun A P S=>?_);refine aB ?_;refine aF ?_ ?_;simp;refine⟨⟨y,z⟩,?_⟩;rw[ZU];intro h j i g;rw[<-c];exact Left.dw (q:=iH (((f % 2:Nat):Int)==1) 21) F h j i g;obtain⟨t,J⟩:∃ t,(go O (iH (((f % 2:Nat):Int)==1) 21) l).2=t:=⟨_,rfl⟩;rw[J] at x e;refine aU (⟨[(0,none,d_ (.pt px 0 0)),(2,none,d_ (.pt 0 0 0))],[(dx,none,0,.dev O dw t),(px,none,0,.box wu (.dv::ng m f)),(0,none,0,.box 40 (gm kz))]⟩) ?_ ?_ ?_;exact ig;exact .cons (.dev J) (.cons (.box rfl) (.cons (.box rfl) .nil));have d:=UK O (aMu m) t;refine aF ?_ ?_;simp;refine⟨⟨y,z,hr⟩,?_⟩;intro h j i g;rw[<-c];exact Left.dw x h j i g;obtain⟨r,H,u⟩:∃ r H,go O (r_ m) t=(r,H):=⟨_,_,rfl⟩;rw[u] at e d;dsimp only at e d;refine aU (⟨[(0,none,d_ (.pt px 0 0)),(2,none,d_ (.pt 0 0 0)),(3,none,d_ (.pt 2002 0 0))],[(dx,none,0,.dev O dw H),(px,none,0,.box wu (.dv::ng m f)),(0,none,0,.box 40 (gm kz)),(2002,none,0,.box 149 (oz r))]⟩) ?_ ?_ ?_;exact ig;refine .cons (.dev ?_) (.cons (.box rfl) (.cons (.box rfl) (.cons (.box ?_) .nil)));show (go O (r_ m) t).2=_;rw[u];show oz (go O (r_ m) t).1=_;rw[u];have p:=Left.step e;have s:=e;have E:=p
 rw[show ∀ a b:Bool,(bif a then b else false)=(a&&b) from fun a b=>by cases a<;>rfl] at s E
 have L:IntKind.i64.wrap ((f:Int)+1)=((f+1:Nat):Int):=by rw[TC];omega
 refine aF ?_ ?_;simp;refine⟨⟨y,z⟩,?_⟩;intro h j i g;rw[<-c];exact Left.dw s h j i g;have n:=Left.step p;obtain⟨G,C⟩:∃ G,(go O (iH (bif r.kind==1 then r.level==(f:Int) else false) 14) H).2=G:=⟨_,rfl⟩;rw[C] at p n;refine aU (⟨[(0,none,d_ (.pt px 0 0)),(2,none,d_ (.pt 0 0 0)),(3,none,d_ (.pt 2002 0 0))],[(dx,none,0,.dev O dw G),(px,none,0,.box wu (.dv::ng m f)),(0,none,0,.box 40 (gm kz)),(2002,none,0,.box 149 (oz r))]⟩) ?_ ?_ ?_;exact ig;exact .cons (.dev C) (.cons (.box rfl) (.cons (.box rfl) (.cons (.box rfl) .nil)));refine aF ?_ ?_;simp;refine⟨⟨y,z,by omega⟩,?_⟩;intro h j i g;rw[<-c];exact Left.dw p h j i g;obtain⟨I,B⟩:∃ I,(go O (qK f) G).2=I:=⟨_,rfl⟩;have k:=Left.step n;rw[B] at n k;refine aB ?_;refine aU (⟨[(0,none,d_ (.pt px 0 0)),(2,none,d_ (.pt 0 0 0)),(3,none,d_ (.pt 2002 0 0))],[(dx,none,0,.dev O dw I),(px,none,0,.box wu (.dv::ng m f)),(0,none,0,.box 40 (gm kz)),(2002,none,0,.box 149 (oz (yN m f r)))]⟩) ?_ ?_ ?_;exact ig;refine .cons (.dev B) (.cons (.box rfl) (.cons (.box rfl) (.cons (.box ?_) .nil)));show oz ⟨2,IntKind.i64.wrap ((f:Int)+1),m.ot,m.ol,r.payload⟩=_;rw[L];rfl;refine aF ?_ ?_;simp;refine⟨⟨y,z,hr,⟨(by show g_ 2;unfold g_;omega),(by show g_ ((f+1:Nat):Int);unfold g_;omega),D,K,d.payload⟩⟩,?_⟩;intro h j i g;rw[<-c];exact Left.dw n h j i g;refine aF ?_ ?_;simp;refine⟨⟨y,z,D,hl,K,d.payload⟩,?_⟩;intro h j i g;rw[<-c];exact Left.dw (q:=.ret (gW m.link (yN m f r))) (f:=fun o=>.ret o) k h j i g;refine cZ (fun a w N=>⟨.inr rfl,_,⟨?_,⟨ng m f,rfl,eQ rfl⟩,?_⟩,N⟩);rotate_left 1;rw[k.2];rfl;refine aY (by rfl) (by simp) (by rfl) (by rfl) ?_;rw[k.2];rfl
end Pv
end Go.Proofs.YtndpjopifkbgiaaGreatDoor
