/-
  Several texts in one file: each has its own heading below.
-/
import Derived.Test.YtndpjopifkbgiaaGreatDoorMsM
import Derived.Test.YtndpjopifkbgiaaGreatDoorMsK
import Derived.Test.YtndpjopifkbgiaaGreatDoorMsI
import Derived.WalkMore
import Derived.Test.YtndpjopifkbgiaaGreatDoorMsL
set_option maxRecDepth 100000
set_option maxHeartbeats 4000000
namespace Go.Proofs.YtndpjopifkbgiaaGreatDoor
open Go.RowKit Tryz
open _root_.Nat renaming zero_add->lL,le_refl->dE,zero_mul->aDe,sub_zero->aDi,lt_or_ge->Y6
open _root_.List renaming length_set->VM,length_append->ed,length_singleton->Yd,mem_or_eq_of_mem_set->aEX,mem_singleton_self->aFI,not_mem_nil->Xq,mem_cons->xn,range->yf,append_assoc->yl,getElem_mem->YV,append_cancel_left->aFH,getElem?_set_self->aCx,getElem?_set_ne->aCD,mem_singleton->aGC,getElem_range->Yl,getElem_map->Yp,ext_getElem->YX,cons_append->We,append_nil->Pi
open _root_.Int renaming toNat_natCast->MM
open _root_.Go renaming Program->gp,World->ae,Value->ag
open _root_.Array renaming length_toList->mf
open _root_.Go.IntKind renaming wrap_i64->TC
namespace Pv
theorem aGk(b:Int)(n:Nat):ah.All (fun k:Nat=>k<=n) (ah.dn b n):=by refine ah.All.bind (R:=fun k=>k<=n) ((Fh b n 0).mono (fun m c=>by omega)) (fun k a=>?_);exact ah.All.bind (R:=fun _=>True) (ah.All.zo _) (fun _ _=>a)
def ZN(_:je)(r:jg):ah ja:=(ah.dn 2 16).bind fun n=>(iH (decide ((n:Int)<16)) 17).bind fun _=>(kS 2 (n+1)).bind fun _=>.ret { kz with session:=n,payload:=r.payload }
def O5(m:je)(f:Nat):ah ja:=(r_ m).bind fun r=>(iH (bif r.kind==1 then r.level==((f+1-f % 2:Nat):Int) else false) 14).bind fun _=>(bif ((f % 2:Nat):Int)==0 then qK f else .ret ()).bind fun _=>ZN m r
def Xd(O:List Acc->Option jh)(dw:List Acc->Prop)(m:je)(f:Nat)(r:jg)(a:List Acc):St:=⟨[(0,none,d_ (.pt px 0 0)),(2,none,d_ (.pt 0 0 0)),(3,none,d_ (.pt 1002 0 0))],[(dx,none,0,.dev O dw a),(px,none,0,.box wu (.dv::ng m f)),(0,none,0,.box 40 (gm kz)),(1002,none,0,.box 149 (oz r))]⟩
theorem bJc(m:je)(f:Nat)(Y:f<=900)(hr:m.root.length=16):wZ prog af qg 49 wu (ng m f) (O5 m f) [] (fun o=>.w (.agg (gm o))):=by
 intro O l I L;have M:=Eh;have K:Left O (O5 m f) l (O5 m f) l:=Left.start _ _ _;have k:=Left.step (q:=r_ m) K;have U:IntKind.i64.wrap (IntKind.i64.wrap ((f:Int)+1)-(f:Int).tmod 2)=((f+1-f % 2:Nat):Int):=by rw[ZU,TC,TC];omega
 generalize c:(fun h=>l <+: h/\h <+: (go O (O5 m f) l).2)=dw;refine mW func49 rfl rfl (fun A W X=>?_);refine aB ?_;have p:=UK O (aMu m) l;refine aF ?_ ?_;simp;refine⟨⟨I,L,hr⟩,?_⟩;intro h i g e;rw[<-c];exact Left.dw (q:=r_ m) K h i g e;obtain⟨r,D,P⟩:∃ r D,go O (r_ m) l=(r,D):=⟨_,_,rfl⟩;rw[P] at k p;dsimp only at k p;refine aU (Xd O dw m f r D) ?_ ?_ ?_;exact ig;refine .cons (.dev ?_) (.cons (.box rfl) (.cons (.box rfl) (.cons (.box ?_) .nil)));show (go O (r_ m) l).2=_;rw[P];show oz (go O (r_ m) l).1=_;rw[P];have d:=Left.step k;have u:=k
 rw[show ∀ a b:Bool,(bif a then b else false)=(a&&b) from fun a b=>by cases a<;>rfl] at u
 refine aF ?_ ?_;simp;rw[U];refine⟨⟨I,L⟩,?_⟩;intro h i g e;rw[<-c];exact Left.dw u h i g e;obtain⟨C,G⟩:∃ C,(go O (iH (bif r.kind==1 then r.level==((f+1-f % 2:Nat):Int) else false) 14) D).2=C:=⟨_,rfl⟩;rw[G] at d;refine aU (Xd O dw m f r C) ?_ ?_ ?_;exact ig;refine .cons (.dev ?_) (.cons (.box rfl) (.cons (.box rfl) (.cons (.box rfl) .nil)));show (go O (iH (bif r.kind==1 then r.level==IntKind.i64.wrap (IntKind.i64.wrap ((f:Int)+1)-(f:Int).tmod 2) else false) 14) D).2=_;rw[U];exact G;refine aTc (fun T=>∃ x,T=Xd O dw m f r x/\Left O (O5 m f) l (ZN m r) x) ?_ ?_;refine aB ?_;refine aI (fun Q=>?_) (fun Q=>?_);have S:(((f % 2:Nat):Int)==0)=true:=by rw[<-ZU];exact Q
 rw[S] at d;refine bC M X W (by rfl) (by kernel_rfl) ?_ ?_;simp;refine⟨⟨I,L,by omega⟩,?_⟩;intro h i g e;rw[<-c];exact Left.dw (q:=qK f) d h i g e;intro a w H;refine⟨_,⟨(go O (qK f) C).2,rfl,Left.step (q:=qK f) d⟩,(H.reset (kT:=[0,2,3]) (kO:=[dx,px,0,1002]) f_ ay).same ?_ ?_⟩;exact ig;exact .cons (.dev rfl) (.cons (.box rfl) (.cons (.box rfl) (.cons (.box rfl) .nil)));have S:(((f % 2:Nat):Int)==0)=false:=by rw[<-ZU];exact Q
 rw[S] at d;refine iV ?_;intro a w H;refine⟨_,⟨C,rfl,Left.step (q:=.ret ()) d⟩,(H.reset (kT:=[0,2,3]) (kO:=[dx,px,0,1002]) f_ ay).same ?_ ?_⟩;exact ig;exact .cons (.dev rfl) (.cons (.box rfl) (.cons (.box rfl) (.cons (.box rfl) .nil)));rintro T ⟨x,rfl,V⟩;have j:=Left.step (q:=ah.dn 2 16) V;have s:=UK O (aGk 2 16) x;refine aF ?_ ?_;simp;intro h i g e;rw[<-c];exact Left.dw (q:=ah.dn 2 16) V h i g e;obtain⟨n,B,y⟩:∃ n B,go O (ah.dn 2 16) x=(n,B):=⟨_,_,rfl⟩;rw[y] at j s;dsimp only at j s;refine aU (⟨(4,none,di (n:Int))::(Xd O dw m f r B).t,(Xd O dw m f r B).o⟩) ?_ ?_ ?_;refine .cons ?_ (.cons rfl (.cons rfl (.cons rfl .nil)));show di ((go O (ah.dn 2 16) x).1:Int)=_;rw[y];refine .cons (.dev ?_) (.cons (.box rfl) (.cons (.box rfl) (.cons (.box rfl) .nil)));show (go O (ah.dn 2 16) x).2=_;rw[y];have J:=Left.step j;refine aF ?_ ?_;simp;refine⟨⟨I,L⟩,?_⟩;intro h i g e;rw[<-c];exact Left.dw j h i g e;have z:=Left.step (q:=kS 2 (n+1)) J;have E:IntKind.i64.wrap ((n:Int)+1)=((n+1:Nat):Int):=by rw[TC];omega
 refine aF ?_ ?_;simp;rw[E];refine⟨⟨I,L,by omega,by omega⟩,?_⟩;intro h i g e;rw[<-c];exact Left.dw (q:=kS 2 (n+1)) J h i g e;obtain⟨N,F⟩:∃ N,(go O (kS 2 (n+1)) (go O (iH (decide ((n:Int)<16)) 17) B).2).2=N:=⟨_,rfl⟩;rw[F] at z;refine aU (⟨(4,none,di (n:Int))::(Xd O dw m f r N).t,(Xd O dw m f r N).o⟩) ?_ ?_ ?_;exact ig;refine .cons (.dev ?_) (.cons (.box rfl) (.cons (.box rfl) (.cons (.box rfl) .nil)));show (go O (kS 2 (IntKind.i64.wrap ((n:Int)+1)).toNat) (go O (iH (decide ((n:Int)<16)) 17) B).2).2=_;rw[E];exact F;refine aB ?_;refine cZ (fun a w H=>⟨.inr rfl,_,⟨?_,⟨ng m f,rfl,eQ rfl⟩,?_⟩,H⟩);rotate_left 1;rw[z.2];rfl;refine aY (by rfl) (by simp) (by rfl) (by rfl) ?_;rw[z.2];rfl
def qZ(m:je):ByteArray:=bif opened (keyS m.link m.xt m.xl) m.bn m.bc m.bt then strOf (dN (keyS m.link m.xt m.xl) m.bn m.bc.data.toList) else { data:=#[] }
def UJ(m:je):Int:=bif opened (keyS m.link m.xt m.xl) m.bn m.bc m.bt then 0 else 8
def qJ(m:je)(f:Nat):ah ja:=(nM f).bind fun _=>(iH (m.xl==(f:Int)) 14).bind fun _=>(iH (UJ m==0) 8).bind fun _=>(iH (decide (((qZ m).size:Int)<=1000)) 2).bind fun _=>(nJ m f (qZ m)).bind fun o=>.ret o
theorem aHr(m:je)(h:m.bc.size<=2000):(qZ m).size<=2000:=by unfold qZ;cases opened (keyS m.link m.xt m.xl) m.bn m.bc m.bt;exact (by decide:(0:Nat)<=2000);show (strOf _).size<=2000;rw[bJ,dH,show m.bc.data.toList.length=m.bc.size from mf];exact h
theorem bEi(m:je)(f:Nat)(F:f<=900)(hr:m.root.length=16)(hl:m.link.length=16)(C:m.xt.length=16)(x:g_ m.xl)(y:g_ m.bn)(z:m.bc.size<=2000):wZ prog af qg 54 wu (ng m f) (qJ m f) [] (fun o=>.w (.agg (gm o))):=by intro O l n p;have M:=Eh;have t:Left O (qJ m f) l (qJ m f) l:=Left.start _ _ _;have s:=Left.step (q:=nM f) t;have g:=Left.step s;have k:=Left.step g;have j:=Left.step k;have i:=Left.step (q:=nJ m f (qZ m)) j;generalize b:(fun h=>l <+: h/\h <+: (go O (qJ m f) l).2)=dw;refine mW func54 rfl rfl (fun A E G=>?_);refine aB ?_;refine aF ?_ ?_;simp;refine⟨⟨n,p,by omega⟩,?_⟩;intro h e d c;rw[<-b];exact Left.dw (q:=nM f) t h e d c;refine aB ?_;refine aF ?_ ?_;simp;refine⟨⟨n,p⟩,?_⟩;intro h e d c;rw[<-b];exact Left.dw s h e d c;refine aF ?_ ?_;simp;refine⟨⟨n,p,x,hl,C⟩,?_,y,by omega⟩;intro h e d c;rw[<-b];exact Left.dw (q:=.ret (keyS m.link m.xt m.xl)) (f:=fun _=>_) g h e d c;obtain⟨u,r⟩:∃ u,(go O (iH (m.xl==(f:Int)) 14) (go O (nM f) l).2).2=u:=⟨_,rfl⟩;rw[r] at g k j i;refine aU (⟨[(0,none,d_ (.pt px 0 0)),(2,none,d_ (.pt 0 0 0)),(4,none,jr (qZ m)),(5,none,di (UJ m))],[(dx,none,0,.dev O dw u),(px,none,0,.box wu (.dv::ng m f)),(0,none,0,.box 40 (gm kz))]⟩) ?_ ?_ ?_;exact ig;exact .cons (.dev r) (.cons (.box rfl) (.cons (.box rfl) .nil));have B:=aHr m z;refine aF ?_ ?_;simp;refine⟨⟨n,p⟩,?_⟩;intro h e d c;rw[<-b];exact Left.dw g h e d c;refine aF ?_ ?_;simp;refine⟨⟨n,p⟩,?_⟩;intro h e d c;rw[<-b];exact Left.dw k h e d c;refine aF ?_ ?_;simp;refine⟨⟨n,p,by omega,hr,by omega⟩,?_⟩;intro h e d c;rw[<-b];exact Left.dw j h e d c;refine cZ (fun a w D=>⟨.inr rfl,_,⟨?_,⟨ng m f,rfl,eQ rfl⟩,?_⟩,D⟩);rotate_left 1;rw[i.2];rfl;refine aY (by rfl) (by simp) (by rfl) (by rfl) ?_;rw[i.2];rfl
def sQ(m:je):ah Unit:=
 if m.kind=1\/m.kind=3 then iH (decide ((m.payload.size:Int)<=1000)) 2 else
  if m.kind=5 then iH (bif bif bif decide (m.ol>=0) then decide (m.ol<16) else false then m.ol.tmod 2==0 else false then !(m.ot==m.id) else false) 1 else
   if m.kind=7 then iH (m.xt==m.id) 1 else .ret ()
def lJ(m:je):ah Unit:=(iH (bif decide (m.kind>=1) then decide (m.kind<=7) else false) 1).bind fun _=>(sQ m).bind fun _=>.ret ()
def NZ(O:List Acc->Option jh)(dw:List Acc->Prop)(m:je)(a:List Acc):St:=⟨[(1,none,d_ (.pt 0 0 0)),(13,none,di m.kind)],[(dx,none,0,.dev O dw a),(0,none,0,.box 31 (um m))]⟩
theorem bNr(m:je):OC prog af qg 47 (lJ m) [.w (.agg (um m))] (fun _=>.lu []):=by
 intro O l B C;have M:=Eh;have z:Left O (lJ m) l (lJ m) l:=Left.start _ _ _;have e:=Left.step z;generalize j:(fun h=>l <+: h/\h <+: (go O (lJ m) l).2)=dw;refine dM func47 rfl rfl rfl (fun A D G=>?_);refine aB ?_
 have F:(bif decide (m.kind>=1) then decide (m.kind<=7) else false)=(decide (1<=m.kind)&&decide (m.kind<=7)):=by
  show cond (decide (1<=m.kind)) _ _=_
  cases decide (1<=m.kind)<;>rfl
 have y:Left O (lJ m) l ((iH (decide (1<=m.kind)&&decide (m.kind<=7)) 1).bind fun _=>(sQ m).bind fun _=>.ret ()) l:=by rw[<-F];exact z
 refine aF ?_ ?_;simp;refine⟨⟨B,C⟩,?_⟩;intro h i s r;rw[<-j];exact Left.dw y h i s r;obtain⟨u,K⟩:∃ u,(go O (iH (bif decide (m.kind>=1) then decide (m.kind<=7) else false) 1) l).2=u:=⟨_,rfl⟩;rw[K] at e;refine aB ?_;refine aU (NZ O dw m u) ?_ ?_ ?_;exact ig;exact .cons (.dev K) (.cons (.box rfl) .nil);refine aQ ?_;refine aTc (fun J=>∃ b,J=⟨(14,none,qy b)::(NZ O dw m u).t,(NZ O dw m u).o⟩/\(b=true↔(m.kind=1\/m.kind=3))) ?_ ?_;refine aB ?_;refine aI (fun g=>?_) (fun g=>?_);have i:m.kind=1:=by simpa using g
 refine iV ?_;intro a w k;refine⟨_,⟨true,rfl,by simp[i]⟩,(k.reset (kT:=[14,1,13]) (kO:=[dx,0]) f_ ay).same ?_ ?_⟩;refine .cons ?_ (.cons rfl (.cons rfl .nil));show qy (m.kind==1)=_;rw[i];rfl;exact .cons (.dev rfl) (.cons (.box rfl) .nil);have i:¬m.kind=1:=by simpa using g
 refine gI ?_;intro a w k;refine⟨_,⟨m.kind==3,rfl,by simp[i]⟩,(k.reset (kT:=[14,1,13]) (kO:=[dx,0]) f_ ay).same ?_ ?_⟩;exact ig;exact .cons (.dev rfl) (.cons (.box rfl) .nil);rintro J ⟨b,rfl,L⟩;have f:=Left.step e;unfold sQ at e f;refine aI (fun g=>?_) (fun g=>?_)
 ·have i:m.kind=1\/m.kind=3:=L.1 g;rw[if_pos i] at e f;refine bC M G D (by rfl) (by kernel_rfl) ?_ ?_;simp;refine⟨⟨B,C⟩,?_⟩;intro h i s r;rw[<-j];exact Left.dw e h i s r;intro a w k;refine⟨.inl rfl,_,⟨?_,(fun o q=>by cases q),fun p n=>?_⟩,k⟩;rotate_left 1;cases n;rw[f.2];rfl;refine aY (by rfl) (by simp) (by rfl) (by rfl) ?_;rfl
 ·have i:¬(m.kind=1\/m.kind=3):=fun h=>by rw[L.2 h] at g;cases g
  rw[if_neg i] at e f;refine aB ?_;refine aI (fun g=>?_) (fun g=>?_)
  ·have I:m.kind=5:=by simpa using g
   rw[if_pos I] at e f;refine aB ?_
   have E:∀ a b c d:Bool,(bif bif bif a then b else false then c else false then d else false)=(a&&b&&c&&d):=fun a b c d=>by cases a<;>cases b<;>cases c<;>cases d<;>rfl
   have x:Left O (lJ m) l ((iH (decide (0<=m.ol)&&decide (m.ol<16)&&m.ol.tmod 2==0&&!(m.ot==m.id)) 1).bind fun _=>.ret ()) u:=by rw[<-E];exact e
   refine bC M G D (by rfl) (by kernel_rfl) ?_ ?_;simp;refine⟨⟨B,C⟩,?_⟩;intro h i s r;rw[<-j];exact Left.dw x h i s r;intro a w k;refine⟨.inl rfl,_,⟨?_,(fun o q=>by cases q),fun p n=>?_⟩,k⟩;rotate_left 1;cases n;rw[f.2];rfl;refine aY (by rfl) (by simp) (by rfl) (by rfl) ?_;rfl
  ·have I:¬m.kind=5:=by simpa using g
   rw[if_neg I] at e f;refine aB ?_;refine aI (fun g=>?_) (fun g=>?_)
   ·have H:m.kind=7:=by simpa using g
    rw[if_pos H] at e f;refine bC M G D (by rfl) (by kernel_rfl) ?_ ?_;simp;refine⟨⟨B,C⟩,?_⟩;intro h i s r;rw[<-j];exact Left.dw e h i s r;intro a w k;refine⟨.inl rfl,_,⟨?_,(fun o q=>by cases q),fun p n=>?_⟩,k⟩;rotate_left 1;cases n;rw[f.2];rfl;refine aY (by rfl) (by simp) (by rfl) (by rfl) ?_;rfl
   ·have H:¬m.kind=7:=by simpa using g
    rw[if_neg H] at e f;refine iV ?_;intro a w k;refine⟨.inl rfl,_,⟨?_,(fun o q=>by cases q),fun p n=>?_⟩,k⟩;rotate_left 1;cases n;rw[f.2];rfl;refine aY (by rfl) (by simp) (by rfl) (by rfl) ?_;rfl
def bOe:List PC->Option je
 |[.lit (.int .i64 k),.bs 16 r,.bs 16 i,.bs 16 l,.lit (.string p),.bs 16 ot,.lit (.int .i64 ol),.bs 16 xt,.lit (.int .i64 xl),.lit (.int .i64 bn),.lit (.string bc),.bs 16 bt]=>some ⟨k,r,i,l,p,ot,ol,xt,xl,bn,bc,bt⟩|_=>none
theorem aNp{l:List PC}{m:je}(h:bOe l=some m):l=um m:=by unfold bOe at h;split at h;cases h;rfl;cases h
structure zh(m:je):Prop where
 root:m.root.length=16
 link:m.link.length=16
 ot:m.ot.length=16
 xt:m.xt.length=16
 ol:g_ m.ol
 xl:g_ m.xl
 bn:g_ m.bn
 payload:m.payload.size<=10000
 bc:m.bc.size<=2000
def BB(l:List Int):Nat->List PC:=fun i=>[.lit (.int .u8 (l.getD i 0))]
def BD:List PC->Int
 |[.lit (.int _ n)]=>n|_=>0
def bKo:List PC->Bool
 |[.lit (.int .u8 _)]=>true|_=>false
theorem aMn{l:List PC}(h:bKo l=true):l=[.lit (.int .u8 (BD l))]:=by
 unfold bKo at h;split at h
 rfl;cases h
def DN(l:List Int):List PC:=[.sl 1 l.length (BB l)]
def eX(b:List (List Int)):Nat->List PC:=fun i=>DN (b.getD i [])
def E5:List PC->List Int
 |[.sl 1 k g]=>(yf k).map fun j=>BD (g j)|_=>[]
def bOw:List PC->Prop
 |[.sl 1 k g]=>∀ j,j<k->bKo (g j)=true|_=>False
def dL(n:Nat)(f:Nat->List PC):List (List Int):=(yf n).map fun i=>E5 (f i)
def nY(n:Nat)(f:Nat->List PC):Prop:=∀ i,i<n->bOw (f i)
@[simp] theorem iC(n:Nat)(f:Nat->List PC):(dL n f).length=n:=by simp[dL]
theorem aSk(l:List Int):E5 (DN l)=l:=by apply YX (by simp[E5,DN]);intro i b a;simp only[E5,DN,Yp,Yl,BB,BD];rw[zG,zH a];rfl
@[simp] theorem aMo(n:Nat)(b:List (List Int)):nY n (eX b):=fun _ _=>fun _ _=>rfl
@[simp] theorem aV(b:List (List Int)):dL b.length (eX b)=b:=by apply YX ay;intro i c a;simp only[dL,Yp,Yl,eX];rw[aSk,zG,zH a];rfl
theorem aHo{n:Nat}{f:Nat->List PC}{C:Ctx}{l:ag}(p:nY n f)(h:R C (.sl 1 n f) [l]):R C (.sl 1 (dL n f).length (eX (dL n f))) [l]:=by
 rw[iC];cases h with
 | sl o r q=>
  refine .sl o r (fun i d=>?_);have e:=q i d;have a:=p i d;have s:eX (dL n f) i=DN (E5 (f i)):=by unfold eX dL;rw[mJ n i (fun i=>E5 (f i)) d]
  rw[s];generalize f i=c at e a ⊢;unfold bOw at a;split at a;rename_i b g;generalize (List.take 1 _)=t at e ⊢;cases e with
  |cons k1 k2=>cases k2;refine .cons ?_ .nil;show R _ (.sl 1 ((yf b).map fun j=>BD (g j)).length (BB ((yf b).map fun j=>BD (g j)))) _;rw[List.length_map,List.length_range];have m:=k1;cases m;refine k1.A_ (fun j k=>?_);unfold BB;rw[mJ b j (fun j=>BD (g j)) k];exact aMn (a j k)
  exact a.elim
def BJ(b:List (List Int)):List PC:=[.sl 1 b.length (eX b)]
theorem ZY{C:Ctx}{n:Nat}{f:Nat->List PC}{v:ag}(a:nY n f)(h:RV C (.w (.agg [.sl 1 n f])) v):RV C (.w (.agg (BJ (dL n f)))) v:=by
 cases h with
 | w h=>cases h with
  | agg h=>
   refine .w (.agg ?_);generalize Array.toList _=e at h ⊢;cases h with
   |cons k1 h=>cases h;cases k1 with
    |sl d c b=>exact .cons (xs:=[_]) (aHo a (.sl d c b)) .nil
end Pv
structure jk where
 b:List (List Int)
 f:Fl
 r:List UInt8
structure qx where
 cut:Bool
 bytes:Int
 AY:Bool
def AL:qx:=⟨false,0,false⟩
def iJ:jh:=⟨0,aH⟩
def zx(b:List (List Int))(a cell:Int):Bool:=(decide (a>=0)&&decide (a<(b.length:Int)))&&decide (cell>=0)&&decide (cell<((b.getD a.toNat []).length:Int))
def iI(b:List (List Int))(a cell:Int):Int:=(b.getD a.toNat []).getD cell.toNat 0
def qi(b:List (List Int))(a cell:Int)(cut:Bool):List (List Int):=b.set a.toNat ((b.getD a.toNat []).set cell.toNat (kK (iI b a cell) cut))
def yu(t:qx):Int:=if t.cut then min (max t.bytes 0) 256 else -1
def fQ (h:jk) (a:Acc) (t:qx):jk×jh×Int:=
 if a.kind=1 then
  if a.bytes=aH then
   if zx h.b a.jy a.cell then (h,if t.cut then iJ else⟨fO (iI h.b a.jy a.cell) t.AY,aH⟩,0) else (h,iJ,1)
  else (h,iJ,1)
 else if a.kind=2 then
  if a.bytes=aH then
   if zx h.b a.jy a.cell then ({ h with b:=qi h.b a.jy a.cell t.cut },iJ,0) else (h,iJ,1)
  else (h,iJ,1)
 else if a.kind=3 then
  if a.bytes=aH/\a.jy=0 then
   if 0<=a.cell/\a.cell<h.f.length then (h,if t.cut then iJ else⟨0,strOf (sec h.f a.cell)⟩,0) else (h,iJ,13)
  else (h,iJ,1)
 else if a.kind=4 then
  if a.jy=0 then
   if 0<=a.cell/\a.cell<h.f.length then
    if a.bytes.size=256 then ({ h with f:=fU h.f a.cell a.bytes (yu t) },iJ,0) else (h,iJ,1)
   else (h,iJ,13)
  else (h,iJ,1)
 else (h,iJ,1)
def eY(F:List qx)(i:Nat):qx:=F.getD i AL
def iF{b:Type}(F:List qx):ah b->jk->Nat->Option b×jk×Nat
 |.ret a,h,i=>(some a,h,i)|.ask c k,h,i=>if (eY F i).cut=true then (none,(fQ h c (eY F i)).1,i+1) else iF F (k (fQ h c (eY F i)).2.1) (fQ h c (eY F i)).1 (i+1)
def AV(F:List qx)(h:jk):List Acc->Nat->jk
 |[],_=>h|c::l,i=>AV F (fQ h c (eY F i)).1 l (i+1)
theorem bFs(F:List qx):∀ (l m:List Acc) (h:jk) (i:Nat),AV F h (l++m) i=AV F (AV F h l i) m (i+l.length)
 |[],m,h,i=>rfl|c::l,m,h,i=>by rw[We,AV,AV,bFs F l m,List.length_cons,show i+1+l.length=i+(l.length+1) from by omega]
theorem aXc(F:List qx)(l:List Acc)(c:Acc)(h:jk):AV F h (l++[c]) 0=(fQ (AV F h l 0) c (eY F l.length)).1:=by rw[bFs,lL];rfl
structure BN(h:jk):Prop where
 nb:h.b.length<=1000
 nc:∀ l∈h.b,l.length<=100000
 val:∀ l∈h.b,∀ x∈l,0<=x/\x<=3
 nf:h.f.length<=1000000
 sz:∀ x∈h.f,x.size<=1000000
 rt:h.r.length=16
theorem bBq{x:Int}(h:0<=x/\x<=3)(cut:Bool):0<=kK x cut/\kK x cut<=3:=by
 unfold kK;split
 ·split<;>omega
 exact h
theorem aUq{b:List (List Int)}{a cell:Int}(c:zx b a cell=true)(cut:Bool)(h1:∀ l∈b,l.length<=100000)(h2:∀ l∈b,∀ x∈l,0<=x/\x<=3):(qi b a cell cut).length=b.length/\(∀ l∈qi b a cell cut,l.length<=100000)/\∀ l∈qi b a cell cut,∀ x∈l,0<=x/\x<=3:=by
 have g:(0<=a/\a<(b.length:Int))/\0<=cell/\cell<((b.getD a.toNat []).length:Int):=by unfold zx at c;simp only[Bool.and_eq_true,decide_eq_true_eq] at c;exact⟨⟨c.1.1.1,c.1.1.2⟩,c.1.2,c.2⟩
 have e:b.getD a.toNat []∈b:=by rw[zG,zH a_];exact YV _
 have f:iI b a cell∈b.getD a.toNat []:=by unfold iI;generalize b.getD a.toNat []=l at g;rw[zG,zH a_];exact YV _
 unfold qi;refine⟨VM ..,fun l d=>?_,fun l d x c=>?_⟩;rcases aEX d with d|rfl;exact h1 l d;rw[VM];exact h1 _ e;rcases aEX d with d|rfl;exact h2 l d x c;rcases aEX c with c|rfl;exact h2 _ e x c;exact bBq (h2 _ e _ f) cut
theorem aJs{f:Fl}{s:Int}{b:ByteArray}{cut:Int}(h1:f.length<=1000000)(h2:∀ x∈f,x.size<=1000000):(fU f s b cut).length<=1000000/\∀ x∈fU f s b cut,x.size<=1000000:=by
 unfold fU;split;rename_i c;refine⟨by rw[VM];exact h1,fun x a=>?_⟩;rcases aEX a with a|rfl;exact h2 x a;rw[bJ]
 have d:(sec f s).length<=1000000:=by unfold sec;rw[if_pos ⟨c.1,c.2.1⟩,mf];rw[zG,zH a_];exact h2 _ (YV _)
 have e:b.data.toList.length=256:=by rw[mf];exact c.2.2
 unfold yx;split
 omega;rw[ed,List.length_take,List.length_drop];omega
 exact⟨h1,h2⟩
theorem aNh{h:jk}(a:Acc)(t:qx)(k:BN h):BN (fQ h a t).1:=by
 unfold fQ
 repeat' split
 all_goals first
  |exact k
  |(rename_i b;exact⟨by rw[(aUq b t.cut k.nc k.val).1];exact k.nb,(aUq b t.cut k.nc k.val).2.1,(aUq b t.cut k.nc k.val).2.2,k.nf,k.sz,k.rt⟩)
  |exact⟨k.nb,k.nc,k.val,(aJs k.nf k.sz).1,(aJs k.nf k.sz).2,k.rt⟩
theorem GL{F:List qx}:∀ (l:List Acc) (i:Nat) {h:jk},BN h->BN (AV F h l i)
 |[],_,_,k=>k|_::l,i,_,k=>GL l (i+1) (aNh _ _ k)
namespace Pv
def EZ(F:List qx)(n:Nat):Prop:=∀ k,k<n->(eY F k).cut=false
theorem WU{c:Type}(O:List Acc->Option jh)(p:ah c):∀ (n:Nat),p.Within n->∀ l:List Acc,(go O p l).2.length<=l.length+n:=by
 induction p with
 |ret a=>intro n _ l;exact Nat.le_add_right _ _| ask a k d=>
  intro n b l;cases n with
  |zero=>exact b.elim|succ n=>rw[yH];have:=d _ n (b (ans O (l++[a]))) (l++[a]);rw[ed,Yd] at this;omega
end Pv
namespace Pv
theorem aVq(b:List (List Int))(a cell:Int):fP prog af 157 true [.w (.agg (BJ b)),di a,di cell] (qy (zx b a cell)):=by
 have M:=zM (I:=af);refine bH func157 rfl rfl bK (fun A f e g=>?_);refine aB ?_;refine aF ?_ ?_;simp;exact fun d c _=>⟨d,c⟩;refine bU ?_;refine congrArg qy ?_;unfold zx
 cases decide (a>=0)<;>cases decide (a<(b.length:Int))<;>cases decide (cell>=0)<;>rfl
def exG:List PV->Option (Prop×PV)
 |[.w (.agg [.sl 1 n f]),.w (.one (.lit (.int .i64 jy))),.w (.one (.lit (.int .i64 cell)))]=>some (nY n f,qy (zx (dL n f) jy cell))|_=>none
theorem aDa:ai prog af 157 (aZ true exG):=by
 refine aW (aC func157 aj rfl) (fun i p r b g w c d h e=>?_);unfold exG at b;split at b;rename_i n f a cell;cases b
 match d,e with
 |[v1,v2,v3],⟨k1,k2,k3,_⟩=>exact aVq (dL n f) a cell w c [v1,v2,v3] h ⟨ZY g k1,k2,k3,trivial⟩
 cases b
theorem aRj(x:Int)(b:Bool):fP prog af 158 true [o9 (.int .u8 x),qy b] (di (fO x b)):=by
 have M:=zM (I:=af);refine bH func158 rfl rfl bK (fun A h g i=>?_);refine aB ?_;refine aG ?_;refine aF ?_ ?_;simp;exact fun d c=>⟨d,c⟩;refine aI (fun f=>?_) (fun f=>?_);have a:(bif x==2 then true else bif x==1 then b else false)=true:=f;have e:fO x b=1:=by unfold fO;by_cases c:x=2;simp[c];by_cases d:x=1;subst d;have:b=true:=a;simp[this];simp[d,c] at a
 refine aB ?_;refine bU ?_;rw[e];have a:(bif x==2 then true else bif x==1 then b else false)=false:=f;have e:fO x b=0:=by unfold fO;by_cases c:x=2;simp[c] at a;by_cases d:x=1;subst d;have:b=false:=a;simp[this];simp[d,c]
 refine aJ ?_;refine aB ?_;refine bU ?_;rw[e]
def Uz:List PV->Option (Prop×PV)
 |[.w (.one (.lit (.int .u8 x))),.w (.one (.lit (.bool a)))]=>some (True,di (fO x a))|_=>none
theorem aNa:ai prog af 158 (aZ true Uz):=by refine aW (aC func158 aj rfl) (fun b p r a c=>?_);unfold Uz at a;split at a;cases a;exact aRj _ _;cases a
def fzL:List (Nat×Spec):=[(157,aZ true exG),(158,aZ true Uz)]
theorem aCP:∀ p∈fzL,ai prog af p.1 p.2:=by intro p a;simp only[fzL,xn,Xq,or_false] at a;rcases a with rfl|rfl;exact aDa;exact aNa
theorem fzM:jl prog af (find fzL):=⟨bD aCP,dG⟩
theorem aRs{b:List (List Int)}{a cell:Int}(c:zx b a cell=true):(0<=a/\a<(b.length:Int))/\0<=cell/\cell<((b.getD a.toNat []).length:Int):=by unfold zx at c;simp only[Bool.and_eq_true,decide_eq_true_eq] at c;exact⟨⟨c.1.1.1,c.1.1.2⟩,c.1.2,c.2⟩
def WZ(b:List (List Int))(a cell:Int)(c:Bool):PV:=.lu [.one (.lit (.int .i64 (if zx b a cell then fO (iI b a cell) c else 0))),.one (.lit (.int .i64 (if zx b a cell then 0 else 1)))]
theorem RN(b:List (List Int))(a cell:Int)(g:Bool):fP prog af 123 true [.w (.agg (BJ b)),di a,di cell,qy g] (WZ b a cell g):=by
 have M:=fzM;refine bH func123 rfl rfl bK (fun A i h j=>?_);unfold WZ;refine aB ?_;refine aG ?_;refine aB ?_;rw[aV];refine aI (fun f=>?_) (fun f=>?_);have e:zx b a cell=false:=by have c:(!(zx b a cell))=true:=f;simpa using c
 rw[e];refine aB ?_;exact jC;have e:zx b a cell=true:=by have c:(!(zx b a cell))=false:=f;simpa using c
 have d:=aRs e;rw[e];refine aJ ?_;refine aF ?_ ?_;simp;rw[zG] at d;exact d;exact jC
def Wh:List PV->Option (Prop×PV)
 |[.w (.agg [.sl 1 n f]),.w (.one (.lit (.int .i64 jy))),.w (.one (.lit (.int .i64 cell))),.w (.one (.lit (.bool a)))]=>some (nY n f,WZ (dL n f) jy cell a)|_=>none
theorem Ls:ai prog af 123 (aZ true Wh):=by
 refine aW (aC func123 aj rfl) (fun k p r b i w c d j h=>?_);unfold Wh at b;split at b;rename_i n f a cell g;cases b
 match d,h with
 |[v1,v2,v3,e],⟨k1,k2,k3,k4,_⟩=>exact RN (dL n f) a cell g w c [v1,v2,v3,e] j ⟨ZY i k1,k2,k3,k4,trivial⟩
 cases b
def Ux(w:ae)(ok0:Nat->Prop)(c:Nat)(val:ag):Ctx:={ w:=w,ok:=fun b=>(ok0 b\/c<=b)/\hblk val≠some b,env:=fun _=>none }
def Ze(P:gp)(I:ae->Prop)(f:Nat)(args:List PV)(e n len:Nat)(j:Nat->List PC):Prop:=
 ∀ (w:ae) (c:Nat->Prop) (h:List ag),I w->oh { w,ok:=c,env:=fun _=>none } args h ->
  Calls P f h.toArray w fun r d=>∃ b g,r=.returned b/\Ext w d/\d.ownsRow w.heap.size e n b len g/\∀ i,i<len->RL (Ux d c w.heap.size b) (j i) ((g.drop (i*n)).take n)
def bOp(P:gp)(fn:Func)(e n len:Nat)(c:Nat->List PC)(s:St):Prop:=∃ x b g f,(AA P fn.results).ok none s (fun _ d wr=>d=d_ (.ow x b n 0 len)/\wr=[])/\find s.o x=some (g,b,.arr e n len f)/\gT g/\∀ i,i<len->f i=c i/\(c i).all (dJ false)=true
def aTK(P:gp)(A:n_)(fn:Func)(e n len:Nat)(b:Nat->List PC):Exit->Act->ae->Prop
 |.panic chain,a,w=>a.defers=[]/\DT A chain w|x,a,w=>(x=.normal\/x=.ret)/\∃ s,bOp P fn e n len b s/\qh A s a w
theorem bGo{P:gp}{fn:Func}{e n len x jm:Nat}{g:Option Bool}{f c:Nat->List PC}{s:St}{out:Out}(h:(AA P fn.results).exec none s [] [] [] []=some out)(hc:All out.conds)(j:out.wr=[])(d:out.val=d_ (.ow x jm n 0 len))(m:find s.o x=some (g,jm,.arr e n len f))(l:gT g)(b:∀ i,i<len->f i=c i/\(c i).all (dJ false)=true):bOp P fn e n len c s:=by rw[aBl] at h;exact⟨x,jm,g,f,M.zf _ none s out _ h (fun p k=>hc.mem p k) ⟨d,j⟩,m,l,b⟩
theorem bCw{P:gp}{I:ae->Prop}{f:Nat}{fn:Func}{c:Code}{args:List PV}{e n len:Nat}{E:Nat->List PC}(hf:P.funcs[f]?=some fn)(hb:fn.body=some c)(y:Nat.ble args.length fn.ntmps=true)(hI:∀ w j,Ext w j->I w->I j)
  (hT:∀ A:n_,A.S=Non->A.nt=fn.ntmps->o5 P I A->lh P A ⟨slots 0 args,[]⟩ c (aTK P A fn e n len E)) (J:Nat.blt e Eg=true:=by rfl):Ze P I f args e n len E:=by
 intro w o vs T W;have hn:=Nat.le_of_ble_eq_true y;have Y:=W.length;refine calls_of_wp hf hb (wp_mono (hT (n_.plain w o fn.ntmps) rfl rfl (o5.plain fun j hc=>hI w j hc T) _ w (aGt y W) (fun _ _ _ hd h=>⟨hd,h⟩)) (fun x U j he=>?_))
 have Q:(x=.normal\/x=.ret)/\∃ s,bOp P fn e n len E s/\qh (n_.plain w o fn.ntmps) s U j:=by
  cases x with
  |panic chain=>obtain⟨_,l,hl,_⟩:=he;exact hl.elim
  |_=>exact he
 obtain⟨D,s,⟨V,t,g,f0,h2,N,L,z⟩,h4⟩:=Q;obtain⟨env,B⟩:=h4;obtain⟨v',m,h5,h6,h7,_⟩:=wB B h2;subst h7;obtain⟨hd,q,G⟩:=kL B N L;obtain⟨F,u,c0,rfl,Z,rfl⟩:=h6.zl q;obtain⟨r,d,O⟩:=G;have H:u=len:=by obtain⟨_,A1,c1,e1,_⟩:=Reads.yh d;cases e1;rfl
 have d:=d.plain J;subst H
 have C:F.map (fun p=>p.add (0*n))=F:=by
  cases F with
  |none=>rfl|some ad=>simp[Addr.add]
 have k:j.ownsRow w.heap.size e n (.slice F u c0) u r:=⟨d.1,d.2.imp id (fun⟨g,cap,cur,D,_,h3⟩=>⟨g,cap,cur,D,by
  have:=(B.live V t _ g q (by rw[D];rfl)).2
  exact this.resolve_right (fun h=>h.1),h3⟩)⟩
 have this:U.defers=[]/\∃ v,(results fn U.tmps).run P j=.ok v j/\∃ m r,Ending.returned v=.returned m/\Ext w j/\j.ownsRow w.heap.size e n m u r/\∀ i,i<u->RL (Ux j o w.heap.size m) (E i) ((r.drop (i*n)).take n):=by
  refine⟨B.defers,_,h5,_,r,rfl,B.gy,?_,fun i K=>?_⟩
  ·first|exact k|(simp only[aDe,aDi] at C ⊢;rw[C];exact k)
  have h8:=O i K;rw[(z i K).1] at h8;refine (jY h8 (z i K).2).le ⟨dE _,fun b _ X=>⟨⟨X.1,fun e=>X.2 V t _ q ?_⟩,rfl⟩,fun _ _ _ h=>by cases h⟩;simp only[aDe,aDi] at C e;rw[C] at e;exact e
 rcases D with rfl|rfl<;>exact this
section
variable {P:gp} {I:ae->Prop} {A:n_} {s:St} {a:Act} {w:ae} {env:Env}
theorem gu.JP(h:gu A s a w env)(d:Nat)(e n len:Nat){f:Nat->List PC}{v:ag}{xs:List ag}{w':ae}(K:Ext w w')(j:w'.ownsRow w.heap.size e n v len xs)(hr:∀ i,i<len->RL (Ux w' (aT A w env).ok w.heap.size v) (f i) ((xs.drop (i*n)).take n)) :
  ∃ c,gu A { s with o:=[(d,none,fresh s d,.arr e n len f)]++s.o } a w' c/\RV (aT A w' c) (d_ (.ow d (fresh s d) n 0 len)) v:=by
 have u:w'.ownsRow 0 e n v len xs:=⟨j.1,j.2.imp id (fun⟨g,cap,cur,D,_,L⟩=>⟨g,cap,cur,D,Nat.zero_le _,L⟩)⟩;obtain⟨q,G,rfl⟩:=oN j
 obtain⟨D,N⟩:=h.new (w':=w') d none (.slice q len G) (.arr e n len f) K (fun b F=>by
   have l:(Value.slice q len G).ownBlock=some b:=by cases q<;>exact F
   exact⟨(j.lt b l).2,(j.lt b l).1⟩)
  (
   fun B _=>⟨xs,yU u,fun i H=>(hr i H).le ⟨dE _,fun b F t=>⟨by
   obtain⟨m,y⟩:=t;rcases Y6 b w.heap.size with z|C;rcases m with m|m;exact (B.blk b z m).1;omega
   refine⟨.inr (Nat.le_trans h.gy.size C),fun x r J p k=>?_⟩;by_cases E:x=d;subst E;rw[iR] at p;cases p;exact y k;rw[kP E] at p;have:=(h.live x r J b p k).1
   omega,rfl⟩,fun _ _ _ h=>by cases h⟩⟩)
 refine⟨_,D,.w (.one (.ow ⟨_,_,rfl⟩ ⟨_,_,iR _ _ _ _,dE _,fun _=>⟨_,_,_,rfl,by omega,?_⟩⟩))⟩;cases q with
 |none=>simp|some O=>simp[Addr.add]
def aLi(g:List PV->Option (Prop×Nat×Nat×Nat×(Nat->List PC))):Spec:=fun c b=>match b.all uK,g b with
 |true,some (p,e,n,len,f)=>.need p (.new c (.arr e n len f) fun v=>.ret (d_ (.ow c v n 0 len)))|_,_=>.fail
theorem aTv{f:Nat}{g:List PV->Option (Prop×Nat×Nat×Nat×(Nat->List PC))}(d:∀ args w,(callFunc f args).run P w=.ok (.enter f args) w)(C:∀ k p e n len i,g k=some (p,e,n,len,i)->p->Ze P I f k e n len i):ai P I f (aLi g):=by
 refine⟨d,fun A s a w env u b o F h D x c=>?_⟩;unfold aLi at c
 cases m:b.all uK<;>cases l:g b<;>simp only[m,l] at c<;>try exact c.elim
 rename_i q;obtain⟨p,e,n,len,i⟩:=q;obtain⟨z,c⟩:=c;refine (C b p e n len i l z w (aT A w env).ok o (D.mem w h.gy) (aHg x m)).mono ?_;rintro r J ⟨t,k,rfl,E,B,y⟩;obtain⟨j,H,G⟩:=h.JP u e n len (f:=i) E B y;exact .inl ⟨_,_,_,j,rfl,c,H,G⟩
end
end Pv
namespace Pv
theorem app0(f g:Nat->List PC):o_ 0 f g=g:=by funext i;unfold o_;rw[if_neg a_];rfl
theorem NY(b:List (List Int))(h0:0<b.length)(hl:b.length<=100000):Ze prog af 159 [d_ (.sl 1 b.length (eX b))] 74 1 b.length (eX b):=by
 have M:=zM (I:=af);have e:prog.types[74].bytes=24:=by kernel_rfl
 have c:prog.types[74].size=1:=by kernel_rfl
 refine bCw func159 rfl rfl bK (fun A m l n=>?_);refine aB ?_;refine aG ?_;refine aF ?_ ?_;simp;omega;refine aI (fun h=>?_) (fun h=>?_);cases h;refine aJ ?_;refine aF ?_ ?_;simp;rw[e];omega;refine bY (s':=⟨[(2,none,d_ (.ow 3000 0 1 0 b.length))],[(3000,none,0,.arr 74 1 b.length (eX b))]⟩) (fun a w d=>(d.reset (kT:=[2]) (kO:=[3000]) f_ ?_).same ?_ ?_) ?_;simp;rw[app0];exact fun i _ x j=>by have:x∈[_]:=j;rw[aGC] at this;subst this;rfl
 refine .cons ?_ .nil;change d_ (.ow 3000 0 prog.types[74].size 0 (0+b.length))=_;rw[c,lL];refine .cons (.arr ?_ (fun i k=>?_)) .nil;exact lL _;rw[app0];refine cZ (fun a w d=>⟨.inr rfl,_,?_,d⟩);refine bGo (x:=3000) (jm:=0) (g:=none) (f:=?_) (out:=?_) ?_ ?_ ?_ ?_ ?_ trivial ?_;rotate_left 2;rfl;simp;rfl;rfl;rfl;exact fun i k=>⟨rfl,rfl⟩
theorem NW(b:List Int)(h0:0<b.length)(hl:b.length<=100000):T_ prog af 160 [d_ (.sl 1 b.length (BB b))] 5 1 b.length (BB b):=by
 have M:=zM (I:=af);have e:prog.types[5].bytes=1:=by kernel_rfl
 have c:prog.types[5].size=1:=by kernel_rfl
 refine aBi func160 rfl rfl bK (fun A m l n=>?_);refine aB ?_;refine aG ?_;refine aF ?_ ?_;simp;omega;refine aI (fun h=>?_) (fun h=>?_);cases h;refine aJ ?_;refine aF ?_ ?_;simp;rw[e];omega;refine bY (s':=⟨[(2,none,d_ (.ow 3000 0 1 0 b.length))],[(3000,none,0,.arr 5 1 b.length (BB b))]⟩) (fun a w d=>(d.reset (kT:=[2]) (kO:=[3000]) f_ ?_).same ?_ ?_) ?_;simp;rw[app0];exact fun i _ x j=>by have:x∈[_]:=j;rw[aGC] at this;subst this;rfl
 refine .cons ?_ .nil;change d_ (.ow 3000 0 prog.types[5].size 0 (0+b.length))=_;rw[c,lL];refine .cons (.arr ?_ (fun i k=>?_)) .nil;exact lL _;rw[app0];refine cZ (fun a w d=>⟨.inr rfl,_,?_,d⟩);refine aDo (x:=3000) (jm:=0) (g:=none) (f:=?_) (out:=?_) ?_ ?_ ?_ ?_ ?_ trivial ?_;rotate_left 2;rfl;simp;rfl;rfl;rfl;exact fun i k=>⟨rfl,rfl⟩
def Gl:Spec:=aLi fun a=>match a with
 |[.w (.one (.sl 1 n f))]=>some (0<n/\n<=100000/\nY n f,74,1,(dL n f).length,eX (dL n f))|_=>none
theorem UX{C:Ctx}{n:Nat}{f:Nat->List PC}{v:ag}(a:nY n f)(h:RV C (d_ (.sl 1 n f)) v):RV C (d_ (.sl 1 (dL n f).length (eX (dL n f)))) v:=by
 cases h with
 |w h=>cases h with
  |one h=>exact .w (.one (aHo a h))
theorem Ze.args{P:gp}{I:ae->Prop}{f:Nat}{args a:List PV}{e n len:Nat}{d:Nat->List PC}(h:Ze P I f a e n len d)(g:∀ C b,oh C args b->oh C a b):Ze P I f args e n len d:=fun w c b j i=>h w c b j (g _ _ i)
theorem T_.args{P:gp}{I:ae->Prop}{f:Nat}{args a:List PV}{e n len:Nat}{d:Nat->List PC}(h:T_ P I f a e n len d)(g:∀ C b,oh C args b->oh C a b):T_ P I f args e n len d:=fun w c b j i=>h w c b j (g _ _ i)
theorem SC:ai prog af 159 Gl:=by
 refine aTv (aC func159 aj rfl) (fun l p e n len m a g=>?_);split at a;rename_i c k;cases a;obtain⟨j,i,h⟩:=g
 exact (NY (dL c k) (by rw[iC];exact j) (by rw[iC];exact i)).args fun C b f=>by
  match b,f with
  |[x],⟨d,_⟩=>exact⟨UX h d,trivial⟩
 cases a
def aSu(n:Nat)(g:Nat->List PC):Prop:=∀ j,j<n->bKo (g j)=true
def rowCell(n:Nat)(g:Nat->List PC):List Int:=(yf n).map fun j=>BD (g j)
theorem aFb(l:List Int):rowCell l.length (BB l)=l:=aSk l
theorem Na{C:Ctx}{n:Nat}{g:Nat->List PC}{v:ag}(c:aSu n g)(h:RV C (d_ (.sl 1 n g)) v):RV C (d_ (.sl 1 (rowCell n g).length (BB (rowCell n g)))) v:=by
 have b:(rowCell n g).length=n:=by unfold rowCell;simp
 rw[b];cases h with
 | w h=>cases h with
  |one h=>exact .w (.one (h.A_ fun j a=>by
   unfold BB rowCell;rw[mJ n j (fun j=>BD (g j)) a]
   exact aMn (c j a)))
@[simp] theorem oD(n:Nat)(g:Nat->List PC):(rowCell n g).length=n:=by unfold rowCell;simp
theorem aXz{b:List (List Int)}{nb a:Nat}{cut:Bool}(h:nb<b.length):eX (qi b (nb:Int) (a:Int) cut) nb=DN ((b.getD nb []).set a (kK (iI b (nb:Int) (a:Int)) cut)):=by unfold eX qi;rw[MM,zG,aCx h];rfl
theorem bHy{b:List (List Int)}{nb a:Nat}{cut:Bool}{i:Nat}(h:i≠nb):eX (qi b (nb:Int) (a:Int) cut) i=eX b i:=by unfold eX qi;rw[MM,zG,aCD (fun e=>h e.symm),<-zG]
theorem bFi{l:List Int}{a:Nat}{x:Int}(h:a<l.length){k:Nat}:(if k=a then[PC.lit (.int .u8 x)] else BB l k)=BB (l.set a x) k:=by unfold BB;by_cases b:k=a;subst b;rw[if_pos rfl,zG,aCx h];rfl;rw[if_neg b,zG,zG,aCD (fun e=>b e.symm)]
theorem FO.Cm{s:St}{new:Bool}{c:PC}{n len a:Nat}{f:Nat->List PC}(e:a=len)(h:FO s new c (.sl n a f)):FO s new c (.sl n len f):=by subst e;exact h
theorem aFt(b:List (List Int))(a cell:Int)(cut:Bool):(qi b a cell cut).length=b.length:=VM ..
def Gj:Spec:=aFa fun a=>match a with
 |[.w (.one (.sl 1 n f))]=>some (0<n/\n<=100000/\aSu n f,5,1,(rowCell n f).length,BB (rowCell n f))|_=>none
theorem SB:ai prog af 160 Gj:=by
 refine xI (aC func160 aj rfl) (fun m p e n len o b i=>?_);split at b;rename_i a d;cases b;obtain⟨l,k,j⟩:=i;have c:(rowCell a d).length=a:=by unfold rowCell;simp
 exact (NW (rowCell a d) (by rw[c];exact l) (by rw[c];exact k)).args fun C f h=>by
  match f,h with
  |[x],⟨g,_⟩=>exact⟨Na j g,trivial⟩
 cases b
def puL:List (Nat×Spec):=[(157,aZ true exG),(159,Gl),(160,Gj)]
theorem aAY:∀ p∈puL,ai prog af p.1 p.2:=by intro p a;simp only[puL,xn,Xq,or_false] at a;rcases a with rfl|rfl|rfl;exact aDa;exact SC;exact SB
theorem puM:jl prog af (find puL):=⟨bD aAY,dG⟩
def XX(b:List (List Int))(e:Int):PV:=.lu [.agg (BJ b),.one (.lit (.int .i64 e))]
def Pq(b:List (List Int))(nb a:Nat)(x:Int):St:=⟨[(1,none,di (nb:Int)),(2,none,di (a:Int)),(4,none,d_ (.pt 0 0 0)),(8,none,d_ (.pt 1 0 0)),(10,none,o9 (.int .u8 x))],[(0,none,0,.box 60 (BJ b)),(1,none,0,.box 60 [.lit (.slice none 0 0)])]⟩
theorem aDm{P:gp}{A:n_}{s:St}{Q:Exit->Act->ae->Prop}{x y:Code}(t:St)(h1:lh P A s x (Exit.then (qh A t) Q))(h2:lh P A t y Q):lh P A s (.seq x y) Q:=fun a w d b=>wp_seq (wp_mono (h1 a w d b) (fun e g f c=>by cases e<;>first|exact c|exact h2 _ _ c b))
theorem Io(b:List (List Int))(c:Nat)(cut:Bool)(B:b.length<=1000)(r:∀ l∈b,l.length<=100000)(y:∀ l∈b,∀ x∈l,0<=x/\x<=3)(t:zx b 2 (c:Int)=true):fP prog af 125 false [.w (.agg (BJ b)),di ((2:Nat):Int),di (c:Int),qy cut] (XX (qi b 2 (c:Int) cut) 0):=by
 have M:=puM;have n:=aRs t;refine bH func125 rfl rfl bK (fun A I F J=>?_);refine aB ?_;refine aG ?_;refine aB ?_;rw[aV,show ((2:Nat):Int)=2 from rfl,t];refine aI (fun f=>?_) (fun f=>?_);cases f;refine aJ ?_;refine aB ?_;have o:2<b.length:=by have:=n.1.2;omega
 have m:b.getD 2 []∈b:=getD_mem o [];have D:(c:Int)<((b.getD 2 []).length:Int):=n.2.2;have C:0<=iI b 2 (c:Int)/\iI b 2 (c:Int)<=3:=y _ m _ (getD_mem a_ 0);refine aDm (Pq b 2 c (bif cut then 1 else 2)) ?_ ?_;refine aB ?_;refine aI (fun f=>?_) (fun f=>?_);have e:cut=true:=f;refine gI ?_;exact fun a w g=>(g.reset (kT:=[1,2,4,8,10]) (kO:=[0,1]) f_ ay).same (.cons rfl (.cons rfl (.cons rfl (.cons rfl (.cons (congrArg (fun z=>o9 (.int .u8 z)) (show (1:Int)=(bif cut then 1 else 2) by rw[e];rfl)) .nil))))) (.cons (.box rfl) (.cons (.box rfl) .nil));have e:cut=false:=f;exact iV fun a w g=>(g.reset (kT:=[1,2,4,8,10]) (kO:=[0,1]) f_ ay).same (.cons rfl (.cons rfl (.cons rfl (.cons rfl (.cons (congrArg (fun z=>o9 (.int .u8 z)) (show (2:Int)=(bif cut then 1 else 2) by rw[e];rfl)) .nil))))) (.cons (.box rfl) (.cons (.box rfl) .nil));refine aDm (Pq b 2 c (kK (iI b 2 (c:Int)) cut)) ?_ ?_
 ·refine aF ?_ ?_;simp;rw[<-zG];omega;refine aB ?_;refine aI (fun f=>?_) (fun f=>?_);have d:(bif iI b 2 (c:Int)==2 then true else iI b 2 (c:Int)==3)=true:=f
  have q:kK (iI b 2 (c:Int)) cut=iI b 2 (c:Int):=by
   unfold kK
   have s:¬iI b 2 (c:Int)<=1:=fun h=>by
    by_cases p:iI b 2 (c:Int)=2
    omega;rw[beq_eq_false_iff_ne.2 p] at d;have u:=eq_of_beq d;omega
   rw[if_neg s]
  refine gI ?_;exact fun a w g=>(g.reset (kT:=[1,2,4,8,10]) (kO:=[0,1]) f_ ay).same (.cons rfl (.cons rfl (.cons rfl (.cons rfl (.cons (congrArg (fun z=>o9 (.int .u8 z)) (q.symm)) .nil))))) (.cons (.box rfl) (.cons (.box rfl) .nil))
  ·have d:(bif iI b 2 (c:Int)==2 then true else iI b 2 (c:Int)==3)=false:=f
   have q:kK (iI b 2 (c:Int)) cut=bif cut then 1 else 2:=by
    unfold kK;have s:iI b 2 (c:Int)<=1:=by by_cases p:iI b 2 (c:Int)=2;rw[p] at d;cases d;rw[beq_eq_false_iff_ne.2 p] at d;by_cases u:iI b 2 (c:Int)=3;rw[u] at d;cases d;omega
    rw[if_pos s]
    cases cut<;>rfl
   exact iV fun a w g=>(g.reset (kT:=[1,2,4,8,10]) (kO:=[0,1]) f_ ay).same (.cons rfl (.cons rfl (.cons rfl (.cons rfl (.cons (congrArg (fun z=>o9 (.int .u8 z)) (q.symm)) .nil))))) (.cons (.box rfl) (.cons (.box rfl) .nil))
 refine aF ?_ ?_;simp;omega;refine aF ?_ ?_;simp;rw[<-zG];exact⟨by omega,by omega,⟨by omega,r _ m,fun _ _=>rfl⟩,by omega,by omega⟩;refine aF ?_ ?_;simp;rw[<-zG];omega;refine aB ?_;refine cZ (fun a w g=>⟨.inr rfl,_,?_,g⟩);unfold XX BJ;rw[aFt];refine oG (by rfl) (by simp) (by rfl) ?_;refine .lu (.cons (.agg (.cons ?_ .nil)) (.cons (.one (.cold rfl)) .nil));have E:(dL b.length (eX b)).length=b.length:=iC _ _;refine FO.Cm E (.rows rfl trivial a_ (fun i H=>?_));rw[lL];by_cases j:i=2;subst j;refine .inr ⟨10008,0,1,0,(b.getD 2 []).length,_,_,_,_,BB ((b.getD 2 []).set c (kK (iI b 2 (c:Int)) cut)),?_,?_,rfl,trivial,?_,fun k G=>⟨?_,rfl⟩⟩;change [PC.ow 10008 0 1 0 (rowCell ((dL b.length (eX b)).getD 2 []).length (BB ((dL b.length (eX b)).getD 2 []))).length]=_;rw[aV,oD];rw[show (2:Int)=((2:Nat):Int) from rfl,aXz o];unfold DN;rw[VM];change 0+(b.getD 2 []).length<=(rowCell ((dL b.length (eX b)).getD 2 []).length (BB ((dL b.length (eX b)).getD 2 []))).length;rw[aV,oD];omega;rw[lL];change (if k=0+(c:Int).toNat then[PC.lit (.int .u8 (kK (iI b 2 (c:Int)) cut))] else BB (rowCell ((dL b.length (eX b)).getD 2 []).length (BB ((dL b.length (eX b)).getD 2 []))) k)=_;rw[aV,aFb,MM,lL];exact bFi a_;refine .inl ⟨?_,rfl⟩;rw[if_neg (by rw[lL];exact j),aV];exact (bHy (nb:=2) j).symm
theorem Il(b:List (List Int))(c:Nat)(cut:Bool)(B:b.length<=1000)(r:∀ l∈b,l.length<=100000)(y:∀ l∈b,∀ x∈l,0<=x/\x<=3)(t:zx b 3 (c:Int)=true):fP prog af 125 false [.w (.agg (BJ b)),di ((3:Nat):Int),di (c:Int),qy cut] (XX (qi b 3 (c:Int) cut) 0):=by
 have M:=puM;have n:=aRs t;refine bH func125 rfl rfl bK (fun A I F J=>?_);refine aB ?_;refine aG ?_;refine aB ?_;rw[aV,show ((3:Nat):Int)=3 from rfl,t];refine aI (fun f=>?_) (fun f=>?_);cases f;refine aJ ?_;refine aB ?_;have o:3<b.length:=by have:=n.1.2;omega
 have m:b.getD 3 []∈b:=getD_mem o [];have D:(c:Int)<((b.getD 3 []).length:Int):=n.2.2;have C:0<=iI b 3 (c:Int)/\iI b 3 (c:Int)<=3:=y _ m _ (getD_mem a_ 0);refine aDm (Pq b 3 c (bif cut then 1 else 2)) ?_ ?_;refine aB ?_;refine aI (fun f=>?_) (fun f=>?_);have e:cut=true:=f;refine gI ?_;exact fun a w g=>(g.reset (kT:=[1,2,4,8,10]) (kO:=[0,1]) f_ ay).same (.cons rfl (.cons rfl (.cons rfl (.cons rfl (.cons (congrArg (fun z=>o9 (.int .u8 z)) (show (1:Int)=(bif cut then 1 else 2) by rw[e];rfl)) .nil))))) (.cons (.box rfl) (.cons (.box rfl) .nil));have e:cut=false:=f;exact iV fun a w g=>(g.reset (kT:=[1,2,4,8,10]) (kO:=[0,1]) f_ ay).same (.cons rfl (.cons rfl (.cons rfl (.cons rfl (.cons (congrArg (fun z=>o9 (.int .u8 z)) (show (2:Int)=(bif cut then 1 else 2) by rw[e];rfl)) .nil))))) (.cons (.box rfl) (.cons (.box rfl) .nil));refine aDm (Pq b 3 c (kK (iI b 3 (c:Int)) cut)) ?_ ?_
 ·refine aF ?_ ?_;simp;rw[<-zG];omega;refine aB ?_;refine aI (fun f=>?_) (fun f=>?_);have d:(bif iI b 3 (c:Int)==2 then true else iI b 3 (c:Int)==3)=true:=f
  have q:kK (iI b 3 (c:Int)) cut=iI b 3 (c:Int):=by
   unfold kK
   have s:¬iI b 3 (c:Int)<=1:=fun h=>by
    by_cases p:iI b 3 (c:Int)=2
    omega;rw[beq_eq_false_iff_ne.2 p] at d;have u:=eq_of_beq d;omega
   rw[if_neg s]
  refine gI ?_;exact fun a w g=>(g.reset (kT:=[1,2,4,8,10]) (kO:=[0,1]) f_ ay).same (.cons rfl (.cons rfl (.cons rfl (.cons rfl (.cons (congrArg (fun z=>o9 (.int .u8 z)) (q.symm)) .nil))))) (.cons (.box rfl) (.cons (.box rfl) .nil))
  ·have d:(bif iI b 3 (c:Int)==2 then true else iI b 3 (c:Int)==3)=false:=f
   have q:kK (iI b 3 (c:Int)) cut=bif cut then 1 else 2:=by
    unfold kK;have s:iI b 3 (c:Int)<=1:=by by_cases p:iI b 3 (c:Int)=2;rw[p] at d;cases d;rw[beq_eq_false_iff_ne.2 p] at d;by_cases u:iI b 3 (c:Int)=3;rw[u] at d;cases d;omega
    rw[if_pos s]
    cases cut<;>rfl
   exact iV fun a w g=>(g.reset (kT:=[1,2,4,8,10]) (kO:=[0,1]) f_ ay).same (.cons rfl (.cons rfl (.cons rfl (.cons rfl (.cons (congrArg (fun z=>o9 (.int .u8 z)) (q.symm)) .nil))))) (.cons (.box rfl) (.cons (.box rfl) .nil))
 refine aF ?_ ?_;simp;omega;refine aF ?_ ?_;simp;rw[<-zG];exact⟨by omega,by omega,⟨by omega,r _ m,fun _ _=>rfl⟩,by omega,by omega⟩;refine aF ?_ ?_;simp;rw[<-zG];omega;refine aB ?_;refine cZ (fun a w g=>⟨.inr rfl,_,?_,g⟩);unfold XX BJ;rw[aFt];refine oG (by rfl) (by simp) (by rfl) ?_;refine .lu (.cons (.agg (.cons ?_ .nil)) (.cons (.one (.cold rfl)) .nil));have E:(dL b.length (eX b)).length=b.length:=iC _ _;refine FO.Cm E (.rows rfl trivial a_ (fun i H=>?_));rw[lL];by_cases j:i=3;subst j;refine .inr ⟨10008,0,1,0,(b.getD 3 []).length,_,_,_,_,BB ((b.getD 3 []).set c (kK (iI b 3 (c:Int)) cut)),?_,?_,rfl,trivial,?_,fun k G=>⟨?_,rfl⟩⟩;change [PC.ow 10008 0 1 0 (rowCell ((dL b.length (eX b)).getD 3 []).length (BB ((dL b.length (eX b)).getD 3 []))).length]=_;rw[aV,oD];rw[show (3:Int)=((3:Nat):Int) from rfl,aXz o];unfold DN;rw[VM];change 0+(b.getD 3 []).length<=(rowCell ((dL b.length (eX b)).getD 3 []).length (BB ((dL b.length (eX b)).getD 3 []))).length;rw[aV,oD];omega;rw[lL];change (if k=0+(c:Int).toNat then[PC.lit (.int .u8 (kK (iI b 3 (c:Int)) cut))] else BB (rowCell ((dL b.length (eX b)).getD 3 []).length (BB ((dL b.length (eX b)).getD 3 []))) k)=_;rw[aV,aFb,MM,lL];exact bFi a_;refine .inl ⟨?_,rfl⟩;rw[if_neg (by rw[lL];exact j),aV];exact (bHy (nb:=3) j).symm
def V_:List PV->Option (Prop×PV)
 |[.w (.agg [.sl 1 n f]),.w (.one (.lit (.int .i64 bk))),.w (.one (.lit (.int .i64 c))),.w (.one (.lit (.bool cut)))]=>some (nY n f/\n<=1000/\(∀ l∈dL n f,l.length<=100000)/\(∀ l∈dL n f,∀ x∈l,0<=x/\x<=3)/\(bk=2\/bk=3)/\zx (dL n f) bk c=true,XX (qi (dL n f) bk c cut) 0)|_=>none
theorem Ip:ai prog af 125 (aZ false V_):=by
 refine aW (aC func125 aj rfl) (fun u p r e t w a q j s=>?_);unfold V_ at e;split at e;rename_i n f x c b;cases e;obtain⟨o,m,l,k,g,h⟩:=t;obtain⟨d,rfl⟩:∃ d:Nat,c=(d:Int):=⟨c.toNat,by have:=(aRs h).2.1;omega⟩
 match q,s with
 |[v1,v2,v3,i],⟨k1,k2,k3,k4,_⟩=>rcases g with rfl|rfl;exact Io (dL n f) d b (by rw[iC];exact m) l k h w a [v1,v2,v3,i] j ⟨ZY o k1,k2,k3,k4,trivial⟩;exact Il (dL n f) d b (by rw[iC];exact m) l k h w a [v1,v2,v3,i] j ⟨ZY o k1,k2,k3,k4,trivial⟩
 cases e
end Pv
theorem aKm:ve prog 173 10:=⟨⟨_,underlying173,rfl⟩,by kernel_rfl⟩
def aEA:Array ag:=#[.nilFunc,.nilFunc,.func (.func 121) #[] #[],.func (.func 122) #[] #[],.func (.func 121) #[] #[],.func (.func 124) #[] #[],
 .func (.func 126) #[] #[],.func (.func 127) #[] #[],.func (.func 129) #[] #[],.func (.func 130) #[] #[]]
theorem aSt(w:ae):Calls prog 94 #[] w fun e c=>e=.returned (.agg aEA)/\Ext w c:=by
 go_enter func94,ntmps94
 go_wp2_with (refine aS (ty:=173) (t:=173) (x:=.tmp 0) (y:=.tmp 8) rfl rfl aKm rfl rfl (dh.new w _ _) rfl rfl (by rw[<-Array.all_toList];rfl) ?_;intro f b a d)
 refine bodyPost_ret (v:=.agg aEA) (dR aKm rfl b rfl rfl) rfl ⟨rfl,?_⟩;exact ((Ext.refl w).alloc _).trans' a (fun _ _ h=>h) (fun i g e=>by omega)
def zX(c:Acc):Prop:=((c.kind=1\/c.kind=2)/\(c.jy=2\/c.jy=3)/\(0<=c.cell/\c.cell<48)/\c.bytes=aH)\/((c.kind=3/\c.bytes=aH\/c.kind=4/\c.bytes.size=256)/\c.jy=0/\0<=c.cell/\c.cell<64)
instance (c:Acc):Decidable (zX c):=by unfold zX;infer_instance
structure vg(h:jk):Prop where
 ok:BN h
 n:3<h.b.length
 l2:(h.b.getD 2 []).length=48
 l3:(h.b.getD 3 []).length=48
 f:64<=h.f.length
theorem MO{b:List (List Int)}{k c:Int}(h0:0<=k)(h1:k<b.length)(h2:0<=c)(h3:c<((b.getD k.toNat []).length:Int)):zx b k c=true:=by unfold zx;simp only[Bool.and_eq_true,decide_eq_true_eq];exact⟨⟨⟨h0,h1⟩,h2⟩,h3⟩
theorem vg.ex{h:jk}(d:vg h){k c:Int}(a:k=2\/k=3)(hc:0<=c/\c<48):zx h.b k c=true:=by have e:=d.n;rcases a with rfl|rfl;refine MO jc a_ hc.1 ?_;rw[show (2:Int).toNat=2 from rfl,d.l2];exact hc.2;refine MO jc a_ hc.1 ?_;rw[show (3:Int).toNat=3 from rfl,d.l3];exact hc.2
theorem aJf(b:List (List Int))(k c:Int)(cut:Bool)(j:Nat):((qi b k c cut).getD j []).length=(b.getD j []).length:=by unfold qi;rw[zG,List.getElem?_set];split;rename_i e;subst e;split;rename_i a;rw[Option.getD_some,VM];rename_i a;rw[zG,List.getElem?_eq_none a_];rw[<-zG]
theorem aBf(f:Fl)(s:Int)(b:ByteArray)(cut:Int):(fU f s b cut).length=f.length:=by unfold fU;split;exact VM ..;rfl
theorem aVx{h:jk}{a:Acc}{t:qx}(d:a.kind=1)(hb:a.bytes=aH)(c:zx h.b a.jy a.cell=true):fQ h a t=(h,if t.cut then iJ else⟨fO (iI h.b a.jy a.cell) t.AY,aH⟩,0):=by unfold fQ;rw[if_pos d,if_pos hb,if_pos c]
theorem aVw{h:jk}{a:Acc}{t:qx}(d:a.kind=2)(hb:a.bytes=aH)(c:zx h.b a.jy a.cell=true):fQ h a t=({ h with b:=qi h.b a.jy a.cell t.cut },iJ,0):=by unfold fQ;rw[if_neg a_,if_pos d,if_pos hb,if_pos c]
theorem aNj{h:jk}{a:Acc}{t:qx}(c:a.kind=3)(hb:a.bytes=aH/\a.jy=0)(b:0<=a.cell/\a.cell<h.f.length):fQ h a t=(h,if t.cut then iJ else⟨0,strOf (sec h.f a.cell)⟩,0):=by unfold fQ;rw[if_neg a_,if_neg a_,if_pos c,if_pos hb,if_pos b]
theorem aNi{h:jk}{a:Acc}{t:qx}(c:a.kind=4)(hb:a.jy=0)(b:0<=a.cell/\a.cell<h.f.length)(hs:a.bytes.size=256):fQ h a t=({ h with f:=fU h.f a.cell a.bytes (yu t) },iJ,0):=by unfold fQ;rw[if_neg a_,if_neg a_,if_neg a_,if_pos c,if_pos hb,if_pos b,if_pos hs]
theorem vg.step{h:jk}(d:vg h){c:Acc}(g:zX c)(t:qx):vg (fQ h c t).1:=by
 have a:=aNh c t d.ok;have k:=d.f;rcases g with⟨b|b,j,i,e⟩|⟨⟨b,e⟩|⟨b,e⟩,j,i⟩;rw[aVx b e (d.ex j i)];exact d;rw[aVw b e (d.ex j i)] at a ⊢
 refine⟨a,?_,?_,?_,d.f⟩;show 3<(qi _ _ _ _).length;unfold qi;rw[VM];exact d.n;exact (aJf _ _ _ _ 2).trans d.l2;exact (aJf _ _ _ _ 3).trans d.l3;rw[aNj b ⟨e,j⟩ ⟨i.1,by omega⟩];exact d;rw[aNi b j ⟨i.1,by omega⟩ e] at a ⊢;exact⟨a,d.n,d.l2,d.l3,by show 64<=(fU _ _ _ _).length;rw[aBf];exact k⟩
theorem aXd{F:List qx}:∀ (l:List Acc) (i:Nat) {h:jk},vg h->(∀ c∈l,zX c)->vg (AV F h l i)
 |[],_,_,d,_=>d|c::l,i,_,d,g=>aXd l (i+1) (d.step (g c List.mem_cons_self) _) (fun x a=>g x (List.mem_cons_of_mem _ a))
def ah.Zl{b:Type}:ah b->Prop
 |.ret _=>True|.ask a k=>zX a/\∀ r,ah.Zl (k r)
namespace Pv
def pI(F:List qx)(h:jk)(l:List Acc):Option jh:=match l.getLast? with
 |none=>some iJ|some c=>if (eY F (l.length-1)).cut=true\/¬zX c\/1000000<l.length-1 then none else some (fQ (AV F h l.dropLast 0) c (eY F (l.length-1))).2.1
theorem aJl(F:List qx)(h:jk)(l:List Acc)(c:Acc):pI F h (l++[c])=if (eY F l.length).cut=true\/¬zX c\/1000000<l.length then none else some (fQ (AV F h l 0) c (eY F l.length)).2.1:=by unfold pI;rw[List.getLast?_append,List.dropLast_concat,ed,Yd,Nat.add_sub_cancel];rfl
theorem La{H:Type}(F:List qx)(h0:jk)(p:ah H):ah.Zl p->∀ (n:Nat),p.Within n->∀ l:List Acc,l.length+n<=1000000 ->
  (EZ F (go (pI F h0) p l).2.length->iF F p (AV F h0 l 0) l.length=(some (go (pI F h0) p l).1,AV F h0 (go (pI F h0) p l).2 0,(go (pI F h0) p l).2.length)) /\
  ∀ b c,l <+: b->b++[c] <+: (go (pI F h0) p l).2->EZ F b.length->(eY F b.length).cut=true->iF F p (AV F h0 l 0) l.length=(none,AV F h0 (b++[c]) 0,b.length+1):=by
 induction p with
 |ret a=>intro _ n _ l _;refine⟨fun _=>rfl,fun b c r o _ _=>?_⟩;rw[go_ret] at o;have S:=r.length_le;have Q:(b++[c]).length<=l.length:=o.length_le;rw[ed,Yd] at Q;exfalso;omega| ask a k I=>
  intro y n E l L
  obtain⟨n,rfl⟩:∃ m,n=m+1:=by
   cases n with
   |zero=>exact E.elim|succ m=>exact⟨m,rfl⟩
  have C:zX a:=y.1;rw[yH];have D:=aXc F l a h0;have P:=aJl F h0 l a;have s:(l++[a]).length=l.length+1:=by rw[ed,Yd]
  have d:=wR (pI F h0) (k (ans (pI F h0) (l++[a]))) (l++[a]);obtain⟨K,J⟩:=I (ans (pI F h0) (l++[a])) (y.2 _) n (E _) (l++[a]) (by rw[ed,Yd];omega);by_cases f:(eY F l.length).cut=true;have e:iF F (.ask a k) (AV F h0 l 0) l.length=(none,AV F h0 (l++[a]) 0,l.length+1):=by rw[iF,if_pos f,D]
  refine⟨fun i=>?_,fun b c r o i j=>?_⟩;have:=i l.length (by have:=d.length_le;omega);rw[this] at f;cases f;have S:=r.length_le;have N:b.length=l.length:=by rcases Y6 l.length b.length with h|h;have:=i _ h;rw[this] at f;cases f;omega
  obtain⟨t,g⟩:=r;have B:t=[]:=by have:=congrArg List.length g;rw[ed] at this;exact List.eq_nil_of_length_eq_zero a_
  subst B;rw[Pi] at g;subst g;have O:l++[c]=l++[a]:=by obtain⟨u,A⟩:=d;obtain⟨v,q⟩:=o;rw[<-A,yl,yl] at q;have z:=aFH q;simp only[List.singleton_append,List.cons.injEq] at z;rw[z.1]
  rw[O,e];have w:ans (pI F h0) (l++[a])=(fQ (AV F h0 l 0) a (eY F l.length)).2.1:=by unfold ans;rw[P,if_neg (fun h=>h.elim f fun h=>h.elim (fun h=>h C) (fun h=>by omega))];rfl
  have e:iF F (.ask a k) (AV F h0 l 0) l.length=iF F (k (ans (pI F h0) (l++[a]))) (AV F h0 (l++[a]) 0) (l++[a]).length:=by rw[iF,if_neg f,D,s,w]
  refine⟨fun i=>by rw[e];exact K i,fun b c r o i j=>?_⟩;rw[e];refine J b c ?_ o i j;obtain⟨t,g⟩:=r;cases t with
  |nil=>rw[Pi] at g;subst g;exact absurd j f| cons x t=>
   subst g;obtain⟨u,A⟩:=d;obtain⟨v,q⟩:=o;rw[<-A] at q;have z:x=a:=by simp only[yl,We,List.nil_append] at q;have G:=aFH q;simp only[List.cons.injEq] at G;exact G.1
   subst z;exact⟨t,by simp⟩
theorem Lc{e:Type}(O:List Acc->Option jh)(p:ah e):ah.Zl p->∀ l:List Acc,(∀ c∈l,zX c)->∀ c∈(go O p l).2,zX c:=by
 induction p with
 |ret a=>intro _ l h;exact h|ask a k f=>
  intro d l h;rw[yH];refine f _ (d.2 _) _ (fun c b=>?_);rcases List.mem_append.1 b with b|b;exact h c b
  obtain rfl:=List.mem_singleton.1 b;exact d.1
end Pv
namespace Pv
def aFR(A:n_)(s:St):Exit->Act->ae->Prop
 |.panic chain,a,w=>a.defers=A.ds/\DT A chain w|e,a,w=>e=.normal/\qh A s a w
theorem qQ{P:gp}{A:n_}{s:St}(s':St){x y:Code}{Q:Exit->Act->ae->Prop}(h1:lh P A s x (aFR A s'))(h2:lh P A s' y Q):lh P A s (.seq x y) Q:=fun a w h b=>
 wp_seq (wp_mono (h1 a w h (fun _ _ _ i g=>⟨i,g⟩)) (fun e f d c=>by
  cases e with
  |panic chain=>exact b chain f d c.1 c.2|normal=>exact h2 f d c.2 b|_=>cases c.1))
def pz(h:jk):List PC:=[.sl 1 h.b.length (eX h.b),.sl 1 h.f.length (su h.f),.bs 16 h.r]
def qF(t:qx):List PC:=[.lit (.bool t.cut),.lit (.int .i64 t.bytes),.lit (.bool t.AY)]
def yw(k b c:Int):Acc:=⟨k,b,c,aH⟩
def Ap:List PC->Option (Prop×jk)
 |[.sl 1 n f,.sl 1 m g,.bs 16 r]=>some (nY n f/\aNw m g,⟨dL n f,jX m g,r⟩)|_=>none
theorem aXw{C:Ctx}{n len:Nat}{f:Nat->List PC}{xs:List ag}(h:R C (.sl n len f) xs):∃ v,xs=[v]:=by cases h;exact⟨_,rfl⟩
theorem zI{C:Ctx}{l:List PC}{p:Prop}{h:jk}(e:Ap l=some (p,h))(a:p){xs:List ag}(hr:RL C l xs):RL C (pz h) xs:=by
 unfold Ap at e;split at e;rename_i n f m g r;cases e;obtain⟨c,b⟩:=a;unfold pz;dsimp only;cases hr with
 | cons k1 hr=>cases hr with
  |cons k2 hr=>obtain⟨v,rfl⟩:=aXw k1;refine .cons (aHo c k1) (.cons ?_ hr);rw[aCz];exact k2.A_ (bLd b)
 cases e
theorem ui.EU{P:gp}{I:ae->Prop}{f:Nat}{new:Bool}{x:Nat}{t:TypeId}{l l1 l':List PC}{O:List Acc->Option jh}{dev:Option (List Acc×List Acc)}{dw:List Acc->Prop}{args:List PV}{c:PV}(h:ui P I f new [⟨x,t,l1,l'⟩] O dev dw args c)
  (hl:∀ C B,RL C l B->RL C l1 B):ui P I f new [⟨x,t,l,l'⟩] O dev dw args c:=by
 intro w k G A D T L d m n K s r p F H
 have u:∀ b,SX [⟨x,t,l,l'⟩] A D b↔SX [⟨x,t,l1,l'⟩] A D b:=fun b=>by
  constructor<;>rintro (h|⟨o,a,rfl⟩)
  exact .inl h;obtain rfl:=List.mem_singleton.1 a;exact .inr ⟨_,aFI _,rfl⟩;exact .inl h;obtain rfl:=List.mem_singleton.1 a;exact .inr ⟨_,aFI _,rfl⟩
 refine (h w k G A D T (fun E J=>L E (J.mono fun b _ g=>(u b).2 g)) (fun b g=>d b ((u b).2 g)) m n K s r (fun o a=>?_) (fun o a U q _=>?_) H).mono ?_;obtain rfl:=List.mem_singleton.1 a;obtain⟨z,S,i,y⟩:=p _ (aFI _);exact⟨z,S,i,hl _ _ y⟩;obtain rfl:=List.mem_singleton.1 a;obtain rfl:=List.mem_singleton.1 q
 rfl;rintro e E ⟨z,i⟩
 refine⟨z.mono fun b _ g=>(u b).2 g,?_⟩;rcases i with⟨j,rfl,y,Q,N⟩|i;refine .inl ⟨j,rfl,y,fun o a=>?_,N⟩
 obtain rfl:=List.mem_singleton.1 a;exact Q ⟨x,t,l1,l'⟩ (aFI _);exact .inr i
theorem QI(k b c:Int):fP prog af 121 true [.w (.agg (lT (yw k b c)))] (qy true):=by have M:=zM (I:=af);refine bH func121 rfl rfl bK (fun A d a e=>?_);refine aB ?_;refine aB ?_;refine bU ?_;refine congrArg qy (?_:(aH.toList==(⟨#[]⟩:ByteArray).toList)=true);exact beq_self_eq_true _
def VJ:List PV->Option (Prop×PV)
 |[.w (.agg [.lit (.int .i64 _),.lit (.int .i64 _),.lit (.int .i64 _),.lit (.string s)])]=>some (s=aH,qy true)|_=>none
theorem JC:ai prog af 121 (aZ true VJ):=by refine aW (aC func121 aj rfl) (fun c p r a b=>?_);unfold VJ at a;split at a;cases a;obtain rfl:=b;exact QI _ _ _;cases a
theorem QH(k c:Int):fP prog af 126 true [.w (.agg (lT (yw k 0 c)))] (qy true):=by have M:=zM (I:=af);refine bH func126 rfl rfl bK (fun A b a d=>?_);refine aB ?_;refine aB ?_;refine bU ?_;refine congrArg qy (?_:(bif (aH.toList==(⟨#[]⟩:ByteArray).toList) then ((0:Int)==0) else false)=true);rw[show (aH.toList==(⟨#[]⟩:ByteArray).toList)=true from beq_self_eq_true _];rfl
def VI:List PV->Option (Prop×PV)
 |[.w (.agg [.lit (.int .i64 _),.lit (.int .i64 b),.lit (.int .i64 _),.lit (.string s)])]=>some (b=0/\s=aH,qy true)|_=>none
theorem JB:ai prog af 126 (aZ true VI):=by refine aW (aC func126 aj rfl) (fun c p r a b=>?_);unfold VI at a;split at a;cases a;obtain⟨rfl,rfl⟩:=b;exact QH _ _;cases a
theorem QG(a:Acc)(hb:a.jy=0):fP prog af 129 true [.w (.agg (lT a))] (qy true):=by have M:=zM (I:=af);refine bH func129 rfl rfl bK (fun A e d f=>?_);obtain⟨k,b,c,s⟩:=a;obtain rfl:b=0:=hb;refine aB ?_;refine aB ?_;exact jC
def VH:List PV->Option (Prop×PV)
 |[.w (.agg [.lit (.int .i64 _),.lit (.int .i64 b),.lit (.int .i64 _),.lit (.string _)])]=>some (b=0,qy true)|_=>none
theorem JA:ai prog af 129 (aZ true VH):=by refine aW (aC func129 aj rfl) (fun e p r a d=>?_);unfold VH at a;split at a;rename_i k b c s;cases a;exact QG ⟨k,b,c,s⟩ d;cases a
def dcL:List (Nat×Spec):=[(123,aZ true Wh),(125,aZ false V_),(128,Zx),(131,Zw)]
theorem aCU:∀ p∈dcL,ai prog af p.1 p.2:=by intro p a;simp only[dcL,xn,Xq,or_false] at a;rcases a with rfl|rfl|rfl|rfl;exact Ls;exact Ip;exact Lr;exact bKz
theorem dcM:jl prog af (find dcL):=⟨bD aCU,dG⟩
structure BP(h:jk)(b c:Int):Prop where
 ok:BN h
 bk:b=2\/b=3
 ex:zx h.b b c=true
structure BR(h:jk)(c:Int):Prop where
 ok:BN h
 ex:0<=c/\c<h.f.length
theorem BR.has{h:jk}{c:Int}(k:BR h c):AB h.f c=true:=by unfold AB;rw[decide_eq_true k.ex.1,decide_eq_true k.ex.2];rfl
theorem bLy(h:jk)(k b c:Int)(t:qx)(hc:BP h b c):ui prog af 122 false [⟨px,65,pz h,pz h⟩] (fun _=>none) none (fun _=>False) [d_ (.pt px 0 0),.w (.agg (lT (yw k b c))),.w (.agg (qF t))]
  (.lu [.agg (iW ⟨fO (iI h.b b c) t.AY,aH⟩),.one (.lit (.int .i64 0))]):=by
 have M:=dcM;refine dM func122 rfl rfl rfl (fun A a d=>?_);refine aB ?_;refine aB ?_;refine aB ?_;refine bT ?_;change PV.lu [.agg [.lit (.int .i64 (if zx (dL h.b.length (eX h.b)) b c=true then fO (iI (dL h.b.length (eX h.b)) b c) t.AY else 0)),.lit (.string aH)],.one (.lit (.int .i64 (if zx (dL h.b.length (eX h.b)) b c=true then 0 else 1)))]=_;rw[aV,hc.ex,if_pos rfl,if_pos rfl];rfl
theorem MZ(h:jk)(k b c:Int)(t:qx)(hc:BP h b c):ui prog af 124 false [⟨px,65,pz h,pz { h with b:=qi h.b b c t.cut }⟩] (fun _=>none) none (fun _=>False) [d_ (.pt px 0 0),.w (.agg (lT (yw k b c))),.w (.agg (qF t))]
  (.lu [.agg (iW iJ),.one (.lit (.int .i64 0))]):=by
 have M:=dcM;refine dM func124 rfl rfl rfl (fun A a d=>?_);refine aB ?_;refine aF ?_ ?_;simp;exact⟨hc.ok.nb,hc.ok.nc,hc.ok.val,hc.bk,hc.ex⟩;refine aG ?_;refine aB ?_;refine aI (fun hc=>?_) (fun hc=>?_);refine lU ?_;refine aB ?_;refine aU (⟨[(6,none,d_ (.pt 2 0 0)),(7,none,di 0)],[(px,none,0,.box 65 (pz { h with b:=qi h.b b c t.cut })),(2,none,0,.box 35 (iW iJ))]⟩) ?_ ?_ ?_;exact ig;refine .cons (.box ?_) (.cons (.box rfl) .nil);change [PC.sl 1 (qi (dL h.b.length (eX h.b)) b c t.cut).length (eX (qi (dL h.b.length (eX h.b)) b c t.cut)),.sl 1 h.f.length (su h.f),.bs 16 h.r]=_;rw[aV];rfl;exact G8;cases hc
theorem MW(h:jk)(k c:Int)(t:qx)(hc:BR h c):ui prog af 127 false [⟨px,65,pz h,pz h⟩] (fun _=>none) none (fun _=>False) [d_ (.pt px 0 0),.w (.agg (lT (yw k 0 c))),.w (.agg (qF t))]
  (.lu [.agg (iW ⟨0,strOf (sec h.f c)⟩),.one (.lit (.int .i64 0))]):=by
 have M:=dcM;refine dM func127 rfl rfl rfl (fun A a b=>?_);refine aB ?_;refine aB ?_;refine aB ?_;refine bT ?_;change PV.lu [.agg [.lit (.int .i64 0),.lit (.string (strOf (sec (jX h.f.length (su h.f)) c)))],.one (.lit (.int .i64 (if AB (jX h.f.length (su h.f)) c=true then 0 else 13)))]=_;rw[bW,hc.has,if_pos rfl];rfl
def aCQ(h:jk)(a:Acc)(_:qx)(cut:Int):St:=⟨[(0,none,d_ (.pt px 0 0)),(4,none,d_ (.pt 0 0 0)),(6,none,d_ (.pt 2 0 0)),(8,none,di cut)],[(px,none,0,.box 65 (pz h)),(0,none,0,.box 37 (lT a)),(2,none,0,.box 35 (iW iJ))]⟩
theorem Rh(h:jk)(a:Acc)(t:qx)(hc:BR h a.cell)(hs:a.bytes.size=256):ui prog af 130 false [⟨px,65,pz h,pz { h with f:=fU h.f a.cell a.bytes (yu t) }⟩] (fun _=>none) none (fun _=>False) [d_ (.pt px 0 0),.w (.agg (lT a)),.w (.agg (qF t))]
  (.lu [.agg (iW iJ),.one (.lit (.int .i64 0))]):=by
 have M:=dcM;refine dM func130 rfl rfl rfl (fun A i j=>?_);refine aB ?_;refine aB ?_;refine qQ (aCQ h a t (yu t)) ?_ ?_;refine aB ?_;refine aI (fun hc=>?_) (fun hc=>?_);have b:t.cut=true:=hc;refine gI ?_;refine fun g w c=>⟨rfl,(c.reset (kT:=[0,4,6,8]) (kO:=[px,0,2]) f_ ay).same ?_ ?_⟩;refine .cons rfl (.cons rfl (.cons rfl (.cons ?_ .nil)));unfold yu;rw[if_pos b];exact o7;have b:t.cut=false:=hc;refine iV (fun g w c=>⟨rfl,(c.reset (kT:=[0,4,6,8]) (kO:=[px,0,2]) f_ ay).same ?_ ?_⟩);refine .cons rfl (.cons rfl (.cons rfl (.cons ?_ .nil)));unfold yu;rw[if_neg (by rw[b];exact Bool.false_ne_true)];exact o7;have d:=bW h.f;refine aF ?_ ?_;simp;exact⟨hc.ok.sz,hc.ok.nf⟩;refine aG ?_;refine aB ?_;rw[d];have e:yB h.f a.cell a.bytes=0:=by unfold yB;rw[hc.has,if_pos rfl,if_pos hs]
 rw[e];refine aI (fun hc=>?_) (fun hc=>?_);refine lU ?_;refine aB ?_;exact G8;cases hc
def F9:List PV->Option (Acc×qx)
 |[.w (.agg [.lit (.int .i64 k),.lit (.int .i64 b),.lit (.int .i64 c),.lit (.string s)]),.w (.agg [.lit (.bool cut),.lit (.int .i64 d),.lit (.bool a)])]=>some (⟨k,b,c,s⟩,⟨cut,d,a⟩)|_=>none
theorem aRn{ys:List PV}{a:Acc}{t:qx}(h:F9 ys=some (a,t)):ys=[.w (.agg (lT a)),.w (.agg (qF t))]:=by unfold F9 at h;split at h;cases h;rfl;cases h
def bLz:List PC->List PV->Option (Prop×List PC×PV):=fun l c=>match Ap l,F9 c with
 |some (p,h),some (a,t)=>some (p/\a.bytes=aH/\BP h a.jy a.cell,pz h,.lu [.agg (iW ⟨fO (iI h.b a.jy a.cell) t.AY,aH⟩),.one (.lit (.int .i64 0))])|_,_=>none
def Mc:List PC->List PV->Option (Prop×List PC×PV):=fun l c=>match Ap l,F9 c with
 |some (p,h),some (a,t)=>some (p/\a.bytes=aH/\BP h a.jy a.cell,pz { h with b:=qi h.b a.jy a.cell t.cut },.lu [.agg (iW iJ),.one (.lit (.int .i64 0))])
 |_,_=>none
def MX:List PC->List PV->Option (Prop×List PC×PV):=fun l b=>match Ap l,F9 b with
 |some (p,h),some (a,_)=>some (p/\a.jy=0/\a.bytes=aH/\BR h a.cell,pz h,.lu [.agg (iW ⟨0,strOf (sec h.f a.cell)⟩),.one (.lit (.int .i64 0))])|_,_=>none
def Wv:List PC->List PV->Option (Prop×List PC×PV):=fun l b=>match Ap l,F9 b with
 |some (p,h),some (a,t)=>some (p/\a.bytes.size=256/\BR h a.cell,pz { h with f:=fU h.f a.cell a.bytes (yu t) },.lu [.agg (iW iJ),.one (.lit (.int .i64 0))])
 |_,_=>none
theorem bDf:ai prog af 122 (dI 65 bLz):=by
 refine wF (aC func122 aj rfl) (fun l g p x r a j=>?_);unfold bLz at a;cases d:Ap l with
 |none=>rw[d] at a;cases a| some q=>
  cases e:F9 g with
  |none=>rw[d,e] at a;cases a|some y=>obtain⟨w,h⟩:=q;obtain⟨⟨k,b,c,s⟩,t⟩:=y;rw[d,e] at a;cases a;obtain⟨o,n,m⟩:=j;have f:s=aH:=n;subst f;rw[aRn e];exact (bLy h k b c t m).EU (fun C u i=>zI d o i)
theorem bMa:ai prog af 124 (dI 65 Mc):=by
 refine wF (aC func124 aj rfl) (fun l g p x r a j=>?_);unfold Mc at a;cases d:Ap l with
 |none=>rw[d] at a;cases a| some q=>
  cases e:F9 g with
  |none=>rw[d,e] at a;cases a|some y=>obtain⟨w,h⟩:=q;obtain⟨⟨k,b,c,s⟩,t⟩:=y;rw[d,e] at a;cases a;obtain⟨o,n,m⟩:=j;have f:s=aH:=n;subst f;rw[aRn e];exact (MZ h k b c t m).EU (fun C u i=>zI d o i)
theorem bLx:ai prog af 127 (dI 65 MX):=by
 refine wF (aC func127 aj rfl) (fun l i p A r a m=>?_);unfold MX at a;cases d:Ap l with
 |none=>rw[d] at a;cases a| some q=>
  cases e:F9 i with
  |none=>rw[d,e] at a;cases a|some y=>obtain⟨z,h⟩:=q;obtain⟨⟨k,b,c,s⟩,t⟩:=y;rw[d,e] at a;cases a;obtain⟨w,u,o,n⟩:=m;have g:b=0:=u;have f:s=aH:=o;subst g f;rw[aRn e];exact (MW h k c t n).EU (fun C x j=>zI d w j)
theorem MS:ai prog af 130 (dI 65 Wv):=by
 refine wF (aC func130 aj rfl) (fun l f p w r a i=>?_);unfold Wv at a;cases d:Ap l with
 |none=>rw[d] at a;cases a| some q=>
  cases e:F9 f with
  |none=>rw[d,e] at a;cases a|some y=>obtain⟨u,h⟩:=q;obtain⟨⟨k,b,c,s⟩,t⟩:=y;rw[d,e] at a;cases a;obtain⟨n,m,j⟩:=i;rw[aRn e];exact (Rh h ⟨k,b,c,s⟩ t j m).EU (fun C o g=>zI d n g)
def O0:List PC:=[.lit .nilFunc,.lit .nilFunc,.lit (.func (.func 121) #[] #[]),.lit (.func (.func 122) #[] #[]),.lit (.func (.func 121) #[] #[]),.lit (.func (.func 124) #[] #[]),
 .lit (.func (.func 126) #[] #[]),.lit (.func (.func 127) #[] #[]),.lit (.func (.func 129) #[] #[]),.lit (.func (.func 130) #[] #[])]
theorem Nz:fP prog af 94 true [] (.w (.agg O0)):=by
 intro w b a g c
 match a,c with
 |[],_=>refine (aSt w).mono ?_;rintro e f ⟨rfl,d⟩;refine⟨_,rfl,d,.w (.agg ?_)⟩;exact .cons (xs:=[_]) (.lit rfl) (.cons (xs:=[_]) (.lit rfl) (.cons (xs:=[_]) (.lit rfl) (.cons (xs:=[_]) (.lit rfl) (.cons (xs:=[_]) (.lit rfl) (.cons (xs:=[_]) (.lit rfl) (.cons (xs:=[_]) (.lit rfl) (.cons (xs:=[_]) (.lit rfl) (.cons (xs:=[_]) (.lit rfl) (.cons (xs:=[_]) (.lit rfl) .nil)))))))))
def O1:List PV->Option (Prop×PV)
 |[]=>some (True,.w (.agg O0))|_=>none
theorem bOo:ai prog af 94 (aZ true O1):=by refine aW (aC func94 aj rfl) (fun b p r a c=>?_);unfold O1 at a;split at a;cases a;exact Nz;cases a
def ddL:List (Nat×Spec):=[(94,aZ true O1),(121,aZ true VJ),(122,dI 65 bLz),(124,dI 65 Mc),
 (126,aZ true VI),(127,dI 65 MX),(129,aZ true VH),(130,dI 65 Wv)]
theorem aCT:∀ p∈ddL,ai prog af p.1 p.2:=by intro p a;simp only[ddL,xn,Xq,or_false] at a;rcases a with rfl|rfl|rfl|rfl|rfl|rfl|rfl|rfl;exact bOo;exact JC;exact bDf;exact bMa;exact JB;exact bLx;exact JA;exact MS
theorem ddM:jl prog af (find ddL):=⟨bD aCT,dG⟩
def Es(x:jk×jh×Int):PV:=.lu [.agg (pz x.1),.agg (iW x.2.1),.one (.lit (.int .i64 x.2.2))]
def Ru(_ b:jk)(_:Acc)(t:qx)(r:jh):St:=⟨[(5,none,d_ (.pt 2 0 0)),(6,none,d_ (.pt 3 0 0)),(7,none,d_ (.pt 4 0 0)),(10,none,d_ (.pt 4001 0 0)),(11,none,d_ (.pt 5011 0 0)),(12,none,di 0)],[(2,none,0,.box 104 (qF t)),(3,none,0,.box 65 [.lit (.slice none 0 0),.lit (.slice none 0 0),.bs 16 (List.replicate 16 0)]),(4,none,0,.box 35 (iW iJ)),(4001,none,0,.box 65 (pz b)),(5011,none,0,.box 35 (iW r))]⟩
theorem Rq(h:jk)(b c:Int)(t:qx)(e:BP h b c)  : fP prog af 66 false [.w (.agg (pz h)),.w (.agg (lT (yw 1 b c))),.w (.agg (qF t))] (Es (fQ h (yw 1 b c) t)):=by
 have M:=ddM;have g:=aVx (t:=t) (show (yw 1 b c).kind=1 from rfl) rfl e.ex;rw[g];refine bH func66 rfl rfl bK (fun A j i k=>?_);refine aB ?_;refine aB ?_;refine aG ?_;refine aF ?_ ?_;simp;exact⟨fun _ _=>⟨(by decide:(0:Int)<=1),(by decide:(1:Int)<5)⟩,fun _ _=>rfl⟩;refine aI (fun d=>?_) (fun d=>?_);simp[yw] at d;refine aJ ?_;refine aB ?_;refine aF ?_ ?_;simp;exact⟨⟨(by decide:(0:Int)<=1),(by decide:(1:Int)<5)⟩,rfl,e⟩;refine aU (Ru h h (yw 1 b c) t ⟨fO (iI h.b b c) t.AY,aH⟩) ?_ ?_ ?_;exact ig
 ·refine .cons (.box rfl) (.cons (.box rfl) (.cons (.box rfl) (.cons (.box ?_) (.cons (.box ?_) .nil))));change pz ⟨dL h.b.length (eX h.b),jX h.f.length (su h.f),h.r⟩=_;rw[aV,bW]
  ·change iW ⟨fO (iI (dL h.b.length (eX h.b)) b c) t.AY,aH⟩=_
   first|rw[aV]|rw[bW]|rfl
 refine aG ?_;refine aB ?_;refine aI (fun d=>?_) (fun d=>?_);cases d;refine aJ ?_;refine aG ?_;refine aB ?_;refine aI (fun d=>?_) (fun d=>?_)
 ·have a:t.cut=true:=d;refine lU ?_;refine aB ?_;refine bU ?_
  try rw[a]
  rfl
 ·have a:t.cut=false:=d;refine aJ ?_;refine aB ?_;refine bU ?_
  try rw[a]
  rfl
theorem Ro(h:jk)(b c:Int)(t:qx)(e:BP h b c)  : fP prog af 66 false [.w (.agg (pz h)),.w (.agg (lT (yw 2 b c))),.w (.agg (qF t))] (Es (fQ h (yw 2 b c) t)):=by
 have M:=ddM;have g:=aVw (t:=t) (show (yw 2 b c).kind=2 from rfl) rfl e.ex;rw[g];refine bH func66 rfl rfl bK (fun A j i k=>?_);refine aB ?_;refine aB ?_;refine aG ?_;refine aF ?_ ?_;simp;exact⟨fun _ _=>⟨(by decide:(0:Int)<=2),(by decide:(2:Int)<5)⟩,fun _ _=>rfl⟩;refine aI (fun d=>?_) (fun d=>?_);simp[yw] at d;refine aJ ?_;refine aB ?_;refine aF ?_ ?_;simp;exact⟨⟨(by decide:(0:Int)<=2),(by decide:(2:Int)<5)⟩,rfl,e⟩;refine aU (Ru h ⟨qi h.b b c t.cut,h.f,h.r⟩ (yw 2 b c) t iJ) ?_ ?_ ?_;exact ig
 ·refine .cons (.box rfl) (.cons (.box rfl) (.cons (.box rfl) (.cons (.box ?_) (.cons (.box ?_) .nil))));change pz ⟨qi (dL h.b.length (eX h.b)) b c t.cut,jX h.f.length (su h.f),h.r⟩=_;rw[aV,bW]
  ·change iW iJ=_
   first|rw[aV]|rw[bW]|rfl
 refine aG ?_;refine aB ?_;refine aI (fun d=>?_) (fun d=>?_);cases d;refine aJ ?_;refine aG ?_;refine aB ?_;refine aI (fun d=>?_) (fun d=>?_)
 ·have a:t.cut=true:=d;refine lU ?_;refine aB ?_;refine bU ?_
  try rw[a]
  rfl
 ·have a:t.cut=false:=d;refine aJ ?_;refine aB ?_;refine bU ?_
  try rw[a]
  rfl
theorem Rn(h:jk)(c:Int)(t:qx)(e:BR h c)  : fP prog af 66 false [.w (.agg (pz h)),.w (.agg (lT (yw 3 0 c))),.w (.agg (qF t))] (Es (fQ h (yw 3 0 c) t)):=by
 have M:=ddM;have g:=aNj (t:=t) (show (yw 3 0 c).kind=3 from rfl) ⟨rfl,rfl⟩ e.ex;rw[g];refine bH func66 rfl rfl bK (fun A j i k=>?_);refine aB ?_;refine aB ?_;refine aG ?_;refine aF ?_ ?_;simp;exact⟨fun _ _=>⟨(by decide:(0:Int)<=3),(by decide:(3:Int)<5)⟩,fun _ _=>⟨rfl,rfl⟩⟩;refine aI (fun d=>?_) (fun d=>?_);simp[yw] at d;refine aJ ?_;refine aB ?_;refine aF ?_ ?_;simp;exact⟨⟨(by decide:(0:Int)<=3),(by decide:(3:Int)<5)⟩,rfl,rfl,e⟩;refine aU (Ru h h (yw 3 0 c) t ⟨0,strOf (sec h.f c)⟩) ?_ ?_ ?_;exact ig
 ·refine .cons (.box rfl) (.cons (.box rfl) (.cons (.box rfl) (.cons (.box ?_) (.cons (.box ?_) .nil))));change pz ⟨dL h.b.length (eX h.b),jX h.f.length (su h.f),h.r⟩=_;rw[aV,bW]
  ·change iW ⟨0,strOf (sec (jX h.f.length (su h.f)) c)⟩=_
   first|rw[aV]|rw[bW]|rfl
 refine aG ?_;refine aB ?_;refine aI (fun d=>?_) (fun d=>?_);cases d;refine aJ ?_;refine aG ?_;refine aB ?_;refine aI (fun d=>?_) (fun d=>?_)
 ·have a:t.cut=true:=d;refine lU ?_;refine aB ?_;refine bU ?_
  try rw[a]
  rfl
 ·have a:t.cut=false:=d;refine aJ ?_;refine aB ?_;refine bU ?_
  try rw[a]
  rfl
theorem Rl(h:jk)(c:Int)(x:ByteArray)(t:qx)(g:BR h c)(hs:x.size=256):fP prog af 66 false [.w (.agg (pz h)),.w (.agg (lT (⟨4,0,c,x⟩:Acc))),.w (.agg (qF t))] (Es (fQ h (⟨4,0,c,x⟩:Acc) t)):=by
 have M:=ddM;have i:=aNi (h:=h) (a:=⟨4,0,c,x⟩) (t:=t) rfl rfl g.ex hs;rw[i];refine bH func66 rfl rfl bK (fun A k j l=>?_);refine aB ?_;refine aB ?_;refine aG ?_;refine aF ?_ ?_
 ·simp
  done
 refine aI (fun e=>?_) (fun e=>?_);simp[] at e;refine aJ ?_;refine aB ?_;refine aF ?_ ?_;simp;exact⟨hs,g⟩;refine aU (Ru h ⟨h.b,fU h.f c x (yu t),h.r⟩ (⟨4,0,c,x⟩:Acc) t iJ) ?_ ?_ ?_;exact ig
 ·refine .cons (.box rfl) (.cons (.box rfl) (.cons (.box rfl) (.cons (.box ?_) (.cons (.box ?_) .nil))));change pz ⟨dL h.b.length (eX h.b),fU (jX h.f.length (su h.f)) c x (yu t),h.r⟩=_;rw[aV,bW]
  ·change iW iJ=_
   first|rw[aV]|rw[bW]|rfl
 refine aG ?_;refine aB ?_;refine aI (fun e=>?_) (fun e=>?_);cases e;refine aJ ?_;refine aG ?_;refine aB ?_;refine aI (fun e=>?_) (fun e=>?_)
 ·have d:t.cut=true:=e;refine lU ?_;refine aB ?_;refine bU ?_
  try rw[d]
  rfl
 ·have d:t.cut=false:=e;refine aJ ?_;refine aB ?_;refine bU ?_
  try rw[d]
  rfl
structure Dj(h:jk)(a:Acc):Prop where
 dim:vg h
 good:zX a
theorem Ri{h:jk}{a:Acc}(g:Dj h a)(t:qx):fP prog af 66 false [.w (.agg (pz h)),.w (.agg (lT a)),.w (.agg (qF t))] (Es (fQ h a t)):=by obtain⟨k,b,c,s⟩:=a;obtain⟨d,g⟩:=g;have n:=d.f;rcases g with⟨j,e,l,i⟩|⟨⟨j,i⟩|⟨j,i⟩,e,l⟩;have m:=d.ex e l;dsimp only at j e l i m;subst i;rcases j with rfl|rfl;exact Rq h b c t ⟨d.ok,e,m⟩;exact Ro h b c t ⟨d.ok,e,m⟩;dsimp only at j e l i;subst j i e;exact Rn h c t ⟨d.ok,l.1,by omega⟩;dsimp only at j e l i;subst j e;exact Rl h c s t ⟨d.ok,l.1,by omega⟩ i
def ddG:List PV->Option (Prop×PV)
 |.w (.agg l)::ys=>(match Ap l,F9 ys with
  |some (p,h),some (a,t)=>some (p/\Dj h a,Es (fQ h a t))|_,_=>none)
 |_=>none
theorem NG:ai prog af 66 (aZ false ddG):=by
 refine aW (aC func66 aj rfl) (fun s p r b e=>?_);unfold ddG at b;split at b;rename_i l f;cases c:Ap l with
 |none=>rw[c] at b;cases b| some q=>
  cases d:F9 f with
  |none=>rw[c,d] at b;cases b| some y=>
   obtain⟨u,h⟩:=q;obtain⟨a,t⟩:=y;rw[c,d] at b;cases b;rw[aRn d]
   exact (Ri e.2 t).args fun C g i=>by
    match g,i with
    | [x,y,z],⟨o,n,m,_⟩=>
     refine⟨?_,n,m,trivial⟩;cases o with
     |w k=>cases k with
      |agg j=>exact .w (.agg (zI c e.1 j))
 cases b
end Pv
end Go.Proofs.YtndpjopifkbgiaaGreatDoor
