/-
  Several texts in one file.
-/
import Derived.Test.YtndpjopifkbgiaaGreatDoorOnE
import Derived.Test.YtndpjopifkbgiaaGreatDoorOnD
import Derived.Test.YtndpjopifkbgiaaGreatDoorOnB
import Derived.Test.YtndpjopifkbgiaaGreatDoorOnC
import Derived.WalkMore
import Derived.MapKept
set_option maxRecDepth 100000
set_option maxHeartbeats 4000000
namespace Go.Proofs.YtndpjopifkbgiaaGreatDoor
open Go.RowKit Tryz
open _root_.List renaming length_append->gp,not_mem_nil->YP,length_singleton->ZV,mem_cons->zg,length_set->Yb,cons_append->yz,length_cons->zl,size_toArray->Yx,append_toArray->aAQ,replicate->PR,nil_append->Ha,length_nil->Yg,push_toArray->aAP,append_assoc->Pi,mem_or_eq_of_mem_set->aFG,mem_singleton_self->aFZ,append_cancel_left->aFR,getElem?_replicate->aAG,singleton_append->aAT,append_nil->Lt,range->AC,prefix_of_prefix_length_le->aGg,getElem_mem->ZN,getElem?_cons_zero->Yv,getElem?_cons_succ->Ya,getElem?_set_self->aBE,length_replicate->Z_,getElem?_toArray->Zd,getElem?_eq_none->YQ,mem_cons_of_mem->VM,getElem?_set_ne->aBF,prefix_append->ZG,mem_singleton->aGQ,mem_cons_self->MM,getElem_range->ZI,length_take->xe,getElem_map->ZU,ext_getElem->Z9,nil_prefix->aCr
open _root_.Nat renaming le_refl->dC,zero_add->ik,lt_or_ge->Yk,reduceSub->aAM,reduceAdd->aAL,zero_le->xn,le_of_ble_eq_true->Yp,le_trans->PP,lt_of_lt_of_le->YX,beq->bu,zero_mul->aAH,sub_zero->aBC,sub_self->Yf,add_comm->ZB,blt->Hm
open _root_.Go renaming wpAny_ready->Yi,TypeId->bi,World->ae,Program->dE,PanicEntry->Yr,Value->ag,undef->bz,run_underlying->xy,yielded->YV
open _root_.Array renaming replicate_zero->aAO,replicate_succ->aAN,length_toList->uA,getD_eq_getD_getElem?->Yw,size_setIfInBounds->aGR,all_toList->aAD,ext'->GM
open _root_.Bool renaming and_eq_true->ww
open _root_.And renaming intro->az
open _root_.Int renaming toNat_natCast->WF
open _root_.Go.IntKind renaming wrap_i64->TC
open _root_.Go.Value renaming ownBlock->Yz
namespace Pv
theorem aBh(b:Int)(n:Nat):aj.All (fun k:Nat=>k<=n) (aj.jf b n):=by refine aj.All.bind (R:=fun k=>k<=n) ((Hy b n 0).mono (fun m c=>a_)) (fun k a=>?_);exact aj.All.bind (R:=fun _=>True) (aj.All.yt _) (fun _ _=>a)
def Zx(_:jy)(r:l_):aj kz:=(aj.jf 2 16).bind fun n=>(gJ (decide ((n:Int)<16)) 17).bind fun _=>(kC 2 (n+1)).bind fun _=>.ret { ni with session:=n,payload:=r.payload }
def PM(m:jy)(f:Nat):aj kz:=(tu m).bind fun r=>(gJ (bif r.kind==1 then r.level==((f+1-f % 2:Nat):Int) else false) 14).bind fun _=>(bif ((f % 2:Nat):Int)==0 then qP f else .ret ()).bind fun _=>Zx m r
def Y7(O:qy)(dn:jc->Prop)(m:jy)(f:Nat)(r:l_)(a:jc):St:=⟨[(0,none,dm (.pt px 0 0)),(2,none,dm (.pt 0 0 0)),(3,none,dm (.pt 1002 0 0))],[(dx,none,0,.dev O dn a),(px,none,0,.box y_ (.dv::ny m f)),(0,none,0,.box 40 (j_ ni)),(1002,none,0,.box 149 (y9 r))]⟩
theorem bFh(m:jy)(f:Nat)(Y:f<=900)(hr:m.root.length=16):wF prog af qh 49 y_ (ny m f) (PM m f) [] (fun o=>.w (.agg (j_ o))):=by
 intro O l H K;have M:=G8;have J:Left O (PM m f) l (PM m f) l:=Left.start _ _ _;have k:=Left.step (q:=tu m) J;have U:IntKind.wrap .i64 (IntKind.wrap .i64 ((f:Int)+1)-(f:Int).tmod 2)=((f+1-f % 2:Nat):Int):=by rw[aYi,TC,TC];omega
 generalize c:(fun h=>l <+: h/\h <+: (go O (PM m f) l).2)=dn;refine lK func49 rfl rfl (fun A W X=>?_);refine aN ?_;have p:=Uz O (aLm m) l;refine aH ?_ ?_;simp;refine⟨⟨H,K,hr⟩,?_⟩;intro h i g e;rw[<-c];exact Left.dn (q:=tu m) J h i g e;obtain⟨r,C,N⟩:∃ r C,go O (tu m) l=(r,C):=⟨_,_,rfl⟩;rw[N] at k p;dsimp only at k p;refine bM (Y7 O dn m f r C) ?_ ?_ ?_;exact jg;refine .cons (.dev ?_) (.cb (.cb (.cons (.box ?_) .nil)));show (go O (tu m) l).2=_;rw[N];show y9 (go O (tu m) l).1=_;rw[N];have d:=Left.step k;have u:=k
 rw[show ∀ a b:Bool,(bif a then b else false)=(a&&b) from fun a b=>by cases a<;>rfl] at u
 refine aH ?_ ?_;simp;rw[U];refine⟨⟨H,K⟩,?_⟩;intro h i g e;rw[<-c];exact Left.dn u h i g e;obtain⟨L,F⟩:=lm ((go O (gJ (bif r.kind==1 then r.level==((f+1-f % 2:Nat):Int) else false) 14) C).2);rw[F] at d;refine bM (Y7 O dn m f r L) ?_ ?_ ?_;exact jg;refine .cons (.dev ?_) ((fD _));show (go O (gJ (bif r.kind==1 then r.level==IntKind.wrap .i64 (IntKind.wrap .i64 ((f:Int)+1)-(f:Int).tmod 2) else false) 14) C).2=_;rw[U];exact F;refine aRu (fun S=>∃ x,S=Y7 O dn m f r x/\Left O (PM m f) l (Zx m r) x) ?_ ?_;refine lQ (fun P=>?_) (fun P=>?_);have Q:(((f % 2:Nat):Int)==0)=true:=by rw[<-aYi];exact P
 rw[Q] at d;refine aX M X W (ai) ah ?_ ?_;simp;refine⟨⟨H,K,a_⟩,?_⟩;intro h i g e;rw[<-c];exact Left.dn (q:=qP f) d h i g e;intro a w G;refine⟨_,⟨(go O (qP f) L).2,rfl,Left.step (q:=qP f) d⟩,(G.reset (kT:=[0,2,3]) (kO:=[dx,px,0,1002]) ai b_).same ?_ ?_⟩;exact jg;exact .cons (.dev rfl) ((fD _));have Q:(((f % 2:Nat):Int)==0)=false:=by rw[<-aYi];exact P
 rw[Q] at d;refine iH ?_;intro a w G;refine⟨_,⟨L,rfl,Left.step (q:=.ret ()) d⟩,(G.reset (kT:=[0,2,3]) (kO:=[dx,px,0,1002]) ai b_).same ?_ ?_⟩;exact jg;exact .cons (.dev rfl) ((fD _));rintro S ⟨x,rfl,V⟩;have j:=Left.step (q:=aj.jf 2 16) V;have s:=Uz O (aBh 2 16) x;refine aH ?_ ?_;simp;intro h i g e;rw[<-c];exact Left.dn (q:=aj.jf 2 16) V h i g e;obtain⟨n,B,y⟩:∃ n B,go O (aj.jf 2 16) x=(n,B):=⟨_,_,rfl⟩;rw[y] at j s;dsimp only at j s;refine bM (⟨(4,none,iy (n:Int))::(Y7 O dn m f r B).t,(Y7 O dn m f r B).o⟩) ?_ ?_ ?_;refine .cons ?_ ((iP _));show iy ((go O (aj.jf 2 16) x).1:Int)=_;rw[y];refine .cons (.dev ?_) ((fD _));show (go O (aj.jf 2 16) x).2=_;rw[y];have I:=Left.step j;refine aH ?_ ?_;simp;refine⟨⟨H,K⟩,?_⟩;intro h i g e;rw[<-c];exact Left.dn j h i g e;have z:=Left.step (q:=kC 2 (n+1)) I;have D:IntKind.wrap .i64 ((n:Int)+1)=((n+1:Nat):Int):=by rw[TC];omega
 refine aH ?_ ?_;simp;rw[D];refine⟨⟨H,K,a_,a_⟩,?_⟩;intro h i g e;rw[<-c];exact Left.dn (q:=kC 2 (n+1)) I h i g e;obtain⟨T,E⟩:=lm ((go O (kC 2 (n+1)) (go O (gJ (decide ((n:Int)<16)) 17) B).2).2);rw[E] at z;refine bM (⟨(4,none,iy (n:Int))::(Y7 O dn m f r T).t,(Y7 O dn m f r T).o⟩) ?_ ?_ ?_;exact jg;refine .cons (.dev ?_) ((fD _));show (go O (kC 2 (IntKind.wrap .i64 ((n:Int)+1)).toNat) (go O (gJ (decide ((n:Int)<16)) 17) B).2).2=_;rw[D];exact E;refine aN ?_;refine bI (fun a w G=>⟨.inr rfl,_,⟨?_,⟨ny m f,rfl,dN rfl⟩,?_⟩,G⟩);rotate_left 1;rw[z.2];rfl;refine aO (ai) b_ ai ai ?_;rw[z.2];rfl
def wE(m:jy):l9:=bif opened (keyS m.link m.xt m.xl) m.bn m.bc m.bt then strOf (dW (keyS m.link m.xt m.xl) m.bn m.bc.data.toList) else { data:=#[] }
def aXy(m:jy):Int:=bif opened (keyS m.link m.xt m.xl) m.bn m.bc m.bt then 0 else 8
def tC(m:jy)(f:Nat):aj kz:=(oD f).bind fun _=>(gJ (m.xl==(f:Int)) 14).bind fun _=>(gJ (aXy m==0) 8).bind fun _=>(gJ (decide (((wE m).size:Int)<=1000)) 2).bind fun _=>(mJ m f (wE m)).bind fun o=>.ret o
theorem aUx(m:jy)(h:m.bc.size<=2000):(wE m).size<=2000:=by unfold wE;cases opened (keyS m.link m.xt m.xl) m.bn m.bc m.bt;exact (by decide:(0:Nat)<=2000);show (strOf _).size<=2000;rw[aW,dA,show m.bc.data.toList.length=m.bc.size from uA];exact h
theorem bBi(m:jy)(f:Nat)(F:f<=900)(hr:m.root.length=16)(hl:m.link.length=16)(C:m.xt.length=16)(u:ja m.xl)(x:ja m.bn)(y:m.bc.size<=2000):wF prog af qh 54 y_ (ny m f) (tC m f) [] (fun o=>.w (.agg (j_ o))):=by intro O l n p;have M:=G8;have t:Left O (tC m f) l (tC m f) l:=Left.start _ _ _;have s:=Left.step (q:=oD f) t;have g:=Left.step s;have k:=Left.step g;have j:=Left.step k;have i:=Left.step (q:=mJ m f (wE m)) j;generalize b:(fun h=>l <+: h/\h <+: (go O (tC m f) l).2)=dn;refine lK func54 rfl rfl (fun A E G=>?_);refine bY ?_ ?_;simp;refine⟨⟨n,p,a_⟩,?_⟩;intro h e d c;rw[<-b];exact Left.dn (q:=oD f) t h e d c;refine bY ?_ ?_;simp;refine⟨⟨n,p⟩,?_⟩;intro h e d c;rw[<-b];exact Left.dn s h e d c;refine aH ?_ ?_;simp;refine⟨⟨n,p,u,hl,C⟩,?_,x,a_⟩;intro h e d c;rw[<-b];exact Left.dn (q:=.ret (keyS m.link m.xt m.xl)) (f:=fun _=>_) g h e d c;obtain⟨B,r⟩:=lm ((go O (gJ (m.xl==(f:Int)) 14) (go O (oD f) l).2).2);rw[r] at g k j i;refine bM (⟨[(0,none,dm (.pt px 0 0)),(2,none,dm (.pt 0 0 0)),(4,none,t_ (wE m)),(5,none,iy (aXy m))],[(dx,none,0,.dev O dn B),(px,none,0,.box y_ (.dv::ny m f)),(0,none,0,.box 40 (j_ ni))]⟩) ?_ ?_ ?_;exact jg;exact .cons (.dev r) ((fD _));have z:=aUx m y;refine aH ?_ ?_;simp;refine⟨⟨n,p⟩,?_⟩;intro h e d c;rw[<-b];exact Left.dn g h e d c;refine aH ?_ ?_;simp;refine⟨⟨n,p⟩,?_⟩;intro h e d c;rw[<-b];exact Left.dn k h e d c;refine aH ?_ ?_;simp;refine⟨⟨n,p,a_,hr,a_⟩,?_⟩;intro h e d c;rw[<-b];exact Left.dn j h e d c;refine bI (fun a w D=>⟨.inr rfl,_,⟨?_,⟨ny m f,rfl,dN rfl⟩,?_⟩,D⟩);rotate_left 1;rw[i.2];rfl;refine aO (ai) b_ ai ai ?_;rw[i.2];rfl
def tX(m:jy):aj Unit:=
 if m.kind=1\/m.kind=3 then gJ (decide ((m.payload.size:Int)<=1000)) 2 else
  if m.kind=5 then gJ (bif bif bif decide (m.ol>=0) then decide (m.ol<16) else false then m.ol.tmod 2==0 else false then !(m.ot==m.id) else false) 1 else
   if m.kind=7 then gJ (m.xt==m.id) 1 else .ret ()
def kY(m:jy):aj Unit:=(gJ (bif decide (m.kind>=1) then decide (m.kind<=7) else false) 1).bind fun _=>(tX m).bind fun _=>.ret ()
def O9(O:qy)(dn:jc->Prop)(m:jy)(a:jc):St:=⟨[(1,none,dm (.pt 0 0 0)),(13,none,iy m.kind)],[(dx,none,0,.dev O dn a),(0,none,0,.box 31 (Ad m))]⟩
theorem bIm(m:jy):Oy prog af qh 47 (kY m) [.w (.agg (Ad m))] (fun _=>.og []):=by
 intro O l B C;have M:=G8;have y:Left O (kY m) l (kY m) l:=Left.start _ _ _;have e:=Left.step y;generalize j:(fun h=>l <+: h/\h <+: (go O (kY m) l).2)=dn;refine kR func47 rfl rfl rfl (fun A D G=>?_);refine aN ?_
 have F:(bif decide (m.kind>=1) then decide (m.kind<=7) else false)=(decide (1<=m.kind)&&decide (m.kind<=7)):=by
  show cond (decide (1<=m.kind)) _ _=_
  cases decide (1<=m.kind)<;>rfl
 have x:Left O (kY m) l ((gJ (decide (1<=m.kind)&&decide (m.kind<=7)) 1).bind fun _=>(tX m).bind fun _=>.ret ()) l:=by rw[<-F];exact y
 refine aH ?_ ?_;simp;refine⟨⟨B,C⟩,?_⟩;intro h i s r;rw[<-j];exact Left.dn x h i s r;obtain⟨z,K⟩:=lm ((go O (gJ (bif decide (m.kind>=1) then decide (m.kind<=7) else false) 1) l).2);rw[K] at e;refine aN ?_;refine bM (O9 O dn m z) ?_ ?_ ?_;exact jg;exact .cons (.dev K) ((fD _));refine aS ?_;refine aRu (fun J=>∃ b,J=⟨(14,none,rf b)::(O9 O dn m z).t,(O9 O dn m z).o⟩/\(b=true↔(m.kind=1\/m.kind=3))) ?_ ?_;refine lQ (fun g=>?_) (fun g=>?_);have i:m.kind=1:=by simpa using g
 refine iH ?_;intro a w k;refine⟨_,⟨true,rfl,by simp[i]⟩,(k.reset (kT:=[14,1,13]) (kO:=[dx,0]) ai b_).same ?_ ?_⟩;refine .cons ?_ ((iP _));show rf (m.kind==1)=_;rw[i];rfl;exact .cons (.dev rfl) ((fD _));have i:¬m.kind=1:=by simpa using g
 refine fP ?_;intro a w k;refine⟨_,⟨m.kind==3,rfl,by simp[i]⟩,(k.reset (kT:=[14,1,13]) (kO:=[dx,0]) ai b_).same ?_ ?_⟩;exact jg;exact .cons (.dev rfl) ((fD _));rintro J ⟨b,rfl,L⟩;have f:=Left.step e;unfold tX at e f;refine dU (fun g=>?_) (fun g=>?_)
 ·have i:m.kind=1\/m.kind=3:=L.1 g;rw[au i] at e f;refine aX M G D (ai) ah ?_ ?_;simp;refine⟨⟨B,C⟩,?_⟩;intro h i s r;rw[<-j];exact Left.dn e h i s r;intro a w k;refine⟨.inl rfl,_,⟨?_,(fun o q=>by cases q),fun p n=>?_⟩,k⟩;rotate_left 1;cases n;rw[f.2];rfl;refine aO (ai) b_ ai ai ?_;rfl
 ·have i:¬(m.kind=1\/m.kind=3):=fun h=>by rw[L.2 h] at g;cases g
  rw[ay i] at e f;refine lQ (fun g=>?_) (fun g=>?_)
  ·have I:m.kind=5:=by simpa using g
   rw[au I] at e f;refine aN ?_
   have E:∀ a b c d:Bool,(bif bif bif a then b else false then c else false then d else false)=(a&&b&&c&&d):=fun a b c d=>by cases a<;>cases b<;>cases c<;>cases d<;>rfl
   have u:Left O (kY m) l ((gJ (decide (0<=m.ol)&&decide (m.ol<16)&&m.ol.tmod 2==0&&!(m.ot==m.id)) 1).bind fun _=>.ret ()) z:=by rw[<-E];exact e
   refine aX M G D (ai) ah ?_ ?_;simp;refine⟨⟨B,C⟩,?_⟩;intro h i s r;rw[<-j];exact Left.dn u h i s r;intro a w k;refine⟨.inl rfl,_,⟨?_,(fun o q=>by cases q),fun p n=>?_⟩,k⟩;rotate_left 1;cases n;rw[f.2];rfl;refine aO (ai) b_ ai ai ?_;rfl
  ·have I:¬m.kind=5:=by simpa using g
   rw[ay I] at e f;refine lQ (fun g=>?_) (fun g=>?_)
   ·have H:m.kind=7:=by simpa using g
    rw[au H] at e f;refine aX M G D (ai) ah ?_ ?_;simp;refine⟨⟨B,C⟩,?_⟩;intro h i s r;rw[<-j];exact Left.dn e h i s r;intro a w k;refine⟨.inl rfl,_,⟨?_,(fun o q=>by cases q),fun p n=>?_⟩,k⟩;rotate_left 1;cases n;rw[f.2];rfl;refine aO (ai) b_ ai ai ?_;rfl
   ·have H:¬m.kind=7:=by simpa using g
    rw[ay H] at e f;refine iH ?_;intro a w k;refine⟨.inl rfl,_,⟨?_,(fun o q=>by cases q),fun p n=>?_⟩,k⟩;rotate_left 1;cases n;rw[f.2];rfl;refine aO (ai) b_ ai ai ?_;rfl
def bJd:dw->Option jy
 |[.lit (.int .i64 k),.bs 16 r,.bs 16 i,.bs 16 l,.lit (.string p),.bs 16 ot,.lit (.int .i64 ol),.bs 16 xt,.lit (.int .i64 xl),.lit (.int .i64 bn),.lit (.string bc),.bs 16 bt]=>some ⟨k,r,i,l,p,ot,ol,xt,xl,bn,bc,bt⟩|_=>none
theorem aMm{l:dw}{m:jy}(h:bJd l=some m):l=Ad m:=by unfold bJd at h;split at h;cases h;rfl;cases h
structure vk(m:jy):Prop where
 root:m.root.length=16
 link:m.link.length=16
 ot:m.ot.length=16
 xt:m.xt.length=16
 ol:ja m.ol
 xl:ja m.xl
 bn:ja m.bn
 payload:m.payload.size<=10000
 bc:m.bc.size<=2000
def Bi(l:List Int):Nat->dw:=fun i=>[.lit (.int .u8 (l.getD i 0))]
def Bh:dw->Int
 |[.lit (.int _ n)]=>n|_=>0
def bGe:dw->Bool
 |[.lit (.int .u8 _)]=>true|_=>false
theorem aLh{l:dw}(h:bGe l=true):l=[.lit (.int .u8 (Bh l))]:=by
 unfold bGe at h;split at h
 rfl;cases h
def EM(l:List Int):dw:=[.sl 1 l.length (Bi l)]
def dK(b:y5):Nat->dw:=fun i=>EM (b.getD i [])
def Ep:dw->List Int
 |[.sl 1 k g]=>(AC k).map fun j=>Bh (g j)|_=>[]
def bJv:dw->Prop
 |[.sl 1 k g]=>∀ j,j<k->bGe (g j)=true|_=>False
def bW(n:Nat)(f:Nat->dw):y5:=(AC n).map fun i=>Ep (f i)
def pX(n:Nat)(f:Nat->dw):Prop:=∀ i,i<n->bJv (f i)
@[simp] theorem fQ(n:Nat)(f:Nat->dw):(bW n f).length=n:=by simp[bW]
theorem aQx(l:List Int):Ep (EM l)=l:=by apply Z9 (by simp[Ep,EM]);intro i b a;simp only[Ep,EM,ZU,ZI,Bi,Bh];rw[zG,zH a];rfl
@[simp] theorem P_(n:Nat)(b:y5):pX n (dK b):=fun _ _=>fun _ _=>rfl
@[simp] theorem aJ(b:y5):bW b.length (dK b)=b:=by apply Z9 b_;intro i c a;simp only[bW,ZU,ZI,dK];rw[aQx,zG,zH a];rfl
theorem aGv{n:Nat}{f:Nat->dw}{C:Ctx}{l:ag}(p:pX n f)(h:R C (.sl 1 n f) [l]):R C (.sl 1 (bW n f).length (dK (bW n f))) [l]:=by
 rw[fQ];cases h with
 | sl o r q=>
  refine .sl o r (fun i d=>?_);have e:=q i d;have a:=p i d;have s:dK (bW n f) i=EM (Ep (f i)):=by unfold dK bW;rw[kX n i (fun i=>Ep (f i)) d]
  rw[s];generalize f i=c at e a ⊢;unfold bJv at a;split at a;rename_i b g;generalize (List.take 1 _)=t at e ⊢;cases e with
  |cons k1 k2=>cases k2;refine .cons ?_ .nil;show R _ (.sl 1 ((AC b).map fun j=>Bh (g j)).length (Bi ((AC b).map fun j=>Bh (g j)))) _;rw[List.length_map,List.length_range];have m:=k1;cases m;refine k1.Ar (fun j k=>?_);unfold Bi;rw[kX b j (fun j=>Bh (g j)) k];exact aLh (a j k)
  exact a.elim
def Dq(b:y5):dw:=[.sl 1 b.length (dK b)]
theorem aWs{C:Ctx}{n:Nat}{f:Nat->dw}{v:ag}(a:pX n f)(h:RV C (.w (.agg [.sl 1 n f])) v):RV C (.w (.agg (Dq (bW n f)))) v:=by
 cases h with
 | w h=>cases h with
  | agg h=>
   refine .w (.agg ?_);generalize Array.toList _=e at h ⊢;cases h with
   |cons k1 h=>cases h;cases k1 with
    |sl d c b=>exact .cons (xs:=[_]) (aGv a (.sl d c b)) .nil
end Pv
structure jd where
 b:y5
 f:Fl
 r:dh
structure pq where
 cut:Bool
 bytes:Int
 qg:Bool
def AA:pq:=⟨false,0,false⟩
def jY:qj:=⟨0,aG⟩
def BO(b:y5)(a cell:Int):Bool:=(decide (a>=0)&&decide (a<(b.length:Int)))&&decide (cell>=0)&&decide (cell<((b.getD a.toNat []).length:Int))
def iE(b:y5)(a cell:Int):Int:=(b.getD a.toNat []).getD cell.toNat 0
def um(b:y5)(a cell:Int)(cut:Bool):y5:=b.set a.toNat ((b.getD a.toNat []).set cell.toNat (iL (iE b a cell) cut))
def DT(t:pq):Int:=if t.cut then min (max t.bytes 0) 256 else -1
def dM (h:jd) (a:Acc) (t:pq):jd×qj×Int:=
 if a.kind=1 then
  if a.bytes=aG then
   if BO h.b a.pg a.cell then (h,if t.cut then jY else⟨dF (iE h.b a.pg a.cell) t.qg,aG⟩,0) else (h,jY,1)
  else (h,jY,1)
 else if a.kind=2 then
  if a.bytes=aG then
   if BO h.b a.pg a.cell then ({ h with b:=um h.b a.pg a.cell t.cut },jY,0) else (h,jY,1)
  else (h,jY,1)
 else if a.kind=3 then
  if a.bytes=aG/\a.pg=0 then
   if 0<=a.cell/\a.cell<h.f.length then (h,if t.cut then jY else⟨0,strOf (sec h.f a.cell)⟩,0) else (h,jY,13)
  else (h,jY,1)
 else if a.kind=4 then
  if a.pg=0 then
   if 0<=a.cell/\a.cell<h.f.length then
    if a.bytes.size=256 then ({ h with f:=iO h.f a.cell a.bytes (DT t) },jY,0) else (h,jY,1)
   else (h,jY,13)
  else (h,jY,1)
 else (h,jY,1)
def dP(F:List pq)(i:Nat):pq:=F.getD i AA
def cZ{b:Type}(F:List pq):aj b->jd->Nat->Option b×jd×Nat
 |.ret a,h,i=>(some a,h,i)|.ask c k,h,i=>if (dP F i).cut=true then (none,(dM h c (dP F i)).1,i+1) else cZ F (k (dM h c (dP F i)).2.1) (dM h c (dP F i)).1 (i+1)
def Ap(F:List pq)(h:jd):jc->Nat->jd
 |[],_=>h|c::l,i=>Ap F (dM h c (dP F i)).1 l (i+1)
theorem bCo(F:List pq):∀ (l m:jc) (h:jd) (i:Nat),Ap F h (l++m) i=Ap F (Ap F h l i) m (i+l.length)
 |[],m,h,i=>rfl|c::l,m,h,i=>by rw[yz,Ap,Ap,bCo F l m,zl,show i+1+l.length=i+(l.length+1) from a_]
theorem aVe(F:List pq)(l:jc)(c:Acc)(h:jd):Ap F h (l++[c]) 0=(dM (Ap F h l 0) c (dP F l.length)).1:=by rw[bCo,ik];rfl
structure Dx(h:jd):Prop where
 nb:h.b.length<=1000
 nc:∀ l∈h.b,l.length<=100000
 val:∀ l∈h.b,∀ x∈l,0<=x/\x<=3
 nf:h.f.length<=1000000
 sz:∀ x∈h.f,x.size<=1000000
 rt:h.r.length=16
theorem aZf{x:Int}(h:0<=x/\x<=3)(cut:Bool):0<=iL x cut/\iL x cut<=3:=by
 unfold iL;split
 ·split<;>omega
 exact h
theorem aSx{b:y5}{a cell:Int}(c:BO b a cell=true)(cut:Bool)(h1:∀ l∈b,l.length<=100000)(h2:∀ l∈b,∀ x∈l,0<=x/\x<=3):(um b a cell cut).length=b.length/\(∀ l∈um b a cell cut,l.length<=100000)/\∀ l∈um b a cell cut,∀ x∈l,0<=x/\x<=3:=by
 have g:(0<=a/\a<(b.length:Int))/\0<=cell/\cell<((b.getD a.toNat []).length:Int):=by unfold BO at c;simp only[ww,decide_eq_true_eq] at c;exact⟨⟨c.1.1.1,c.1.1.2⟩,c.1.2,c.2⟩
 have e:b.getD a.toNat []∈b:=by rw[zG,zH a_];exact ZN _
 have f:iE b a cell∈b.getD a.toNat []:=by unfold iE;generalize b.getD a.toNat []=l at g;rw[zG,zH a_];exact ZN _
 unfold um;refine⟨Yb ..,fun l d=>?_,fun l d x c=>?_⟩;rcases aFG d with d|rfl;exact h1 l d;rw[Yb];exact h1 _ e;rcases aFG d with d|rfl;exact h2 l d x c;rcases aFG c with c|rfl;exact h2 _ e x c;exact aZf (h2 _ e _ f) cut
theorem aIv{f:Fl}{s:Int}{b:l9}{cut:Int}(h1:f.length<=1000000)(h2:∀ x∈f,x.size<=1000000):(iO f s b cut).length<=1000000/\∀ x∈iO f s b cut,x.size<=1000000:=by
 unfold iO;split;rename_i c;refine⟨by rw[Yb];exact h1,fun x a=>?_⟩;rcases aFG a with a|rfl;exact h2 x a;rw[aW]
 have d:(sec f s).length<=1000000:=by unfold sec;rw[au ⟨c.1,c.2.1⟩,uA];rw[zG,zH a_];exact h2 _ (ZN _)
 have e:b.data.toList.length=256:=by rw[uA];exact c.2.2
 unfold Ah;split
 omega;rw[gp,xe,List.length_drop];omega
 exact⟨h1,h2⟩
theorem aXe{h:jd}(a:Acc)(t:pq)(k:Dx h):Dx (dM h a t).1:=by
 unfold dM
 repeat' split
 all_goals first
  |exact k
  |(rename_i b;exact⟨by rw[(aSx b t.cut k.nc k.val).1];exact k.nb,(aSx b t.cut k.nc k.val).2.1,(aSx b t.cut k.nc k.val).2.2,k.nf,k.sz,k.rt⟩)
  |exact⟨k.nb,k.nc,k.val,(aIv k.nf k.sz).1,(aIv k.nf k.sz).2,k.rt⟩
theorem IZ{F:List pq}:∀ (l:jc) (i:Nat) {h:jd},Dx h->Dx (Ap F h l i)
 |[],_,_,k=>k|_::l,i,_,k=>IZ l (i+1) (aXe _ _ k)
namespace Pv
def Fe(F:List pq)(n:Nat):Prop:=∀ k,k<n->(dP F k).cut=false
theorem X5{c:Type}(O:qy)(p:aj c):∀ (n:Nat),p.Within n->∀ l:jc,(go O p l).2.length<=l.length+n:=by
 induction p with
 |ret a=>intro n _ l;exact Nat.le_add_right _ _| ask a k d=>
  intro n b l;cases n with
  |zero=>exact b.elim|succ n=>rw[xM];have:=d _ n (b (ans O (l++[a]))) (l++[a]);rw[gp,ZV] at this;omega
theorem aTw(b:y5)(a cell:Int):fF prog af 157 true [.w (.agg (Dq b)),iy a,iy cell] (rf (BO b a cell)):=by
 have M:=Gf (I:=af);refine bD func157 rfl rfl bJ (fun A f e g=>?_);refine bY ?_ ?_;simp;exact fun d c _=>⟨d,c⟩;refine kJ ?_;refine congrArg rf ?_;unfold BO
 cases decide (a>=0)<;>cases decide (a<(b.length:Int))<;>cases decide (cell>=0)<;>rfl
def exG:jl->Option (Prop×PV)
 |[.w (.agg [.sl 1 n f]),.w (.one (.lit (.int .i64 pg))),.w (.one (.lit (.int .i64 cell)))]=>some (pX n f,rf (BO (bW n f) pg cell))|_=>none
theorem aCk:d_ prog af 157 (aU true exG):=by
 refine aT (aB func157 ah rfl) (fun i p r b g w c d h e=>?_);unfold exG at b;split at b;rename_i n f a cell;cases b
 match d,e with
 |[v1,v2,v3],⟨k1,k2,k3,_⟩=>exact aTw (bW n f) a cell w c [v1,v2,v3] h ⟨aWs g k1,k2,k3,trivial⟩
 cases b
theorem aPq(x:Int)(b:Bool):fF prog af 158 true [o7 (.int .u8 x),rf b] (iy (dF x b)):=by
 have M:=Gf (I:=af);refine bD func158 rfl rfl bJ (fun A h g i=>?_);refine nZ ?_;refine aH ?_ ?_;simp;exact fun d c=>⟨d,c⟩;refine dU (fun f=>?_) (fun f=>?_);have a:(bif x==2 then true else bif x==1 then b else false)=true:=f;have e:dF x b=1:=by unfold dF;by_cases c:x=2;simp[c];by_cases d:x=1;subst d;have:b=true:=a;simp[this];simp[d,c] at a
 refine eQ ?_;rw[e];have a:(bif x==2 then true else bif x==1 then b else false)=false:=f;have e:dF x b=0:=by unfold dF;by_cases c:x=2;simp[c] at a;by_cases d:x=1;subst d;have:b=false:=a;simp[this];simp[d,c]
 refine iK ?_;refine kJ ?_;rw[e]
def VZ:jl->Option (Prop×PV)
 |[.w (.one (.lit (.int .u8 x))),.w (.one (.lit (.bool a)))]=>some (True,iy (dF x a))|_=>none
theorem aLq:d_ prog af 158 (aU true VZ):=by refine aT (aB func158 ah rfl) (fun b p r a c=>?_);unfold VZ at a;split at a;cases a;exact aPq _ _;cases a
def fzL:List (Nat×Spec):=[(157,aU true exG),(158,aU true VZ)]
theorem aEK:∀ p∈fzL,d_ prog af p.1 p.2:=by intro p a;simp only[fzL,zg,YP,or_false] at a;rcases a with rfl|rfl;exact aCk;exact aLq
theorem fzM:jq prog af (find fzL):=⟨bG aEK,dV⟩
theorem aWz{b:y5}{a cell:Int}(c:BO b a cell=true):(0<=a/\a<(b.length:Int))/\0<=cell/\cell<((b.getD a.toNat []).length:Int):=by unfold BO at c;simp only[ww,decide_eq_true_eq] at c;exact⟨⟨c.1.1.1,c.1.1.2⟩,c.1.2,c.2⟩
def X9(b:y5)(a cell:Int)(c:Bool):PV:=.og [.one (.lit (.int .i64 (if BO b a cell then dF (iE b a cell) c else 0))),.one (.lit (.int .i64 (if BO b a cell then 0 else 1)))]
theorem SG(b:y5)(a cell:Int)(g:Bool):fF prog af 123 true [.w (.agg (Dq b)),iy a,iy cell,rf g] (X9 b a cell g):=by
 have M:=fzM;refine bD func123 rfl rfl bJ (fun A i h j=>?_);unfold X9;refine aN ?_;refine lM ?_;rw[aJ];refine dU (fun f=>?_) (fun f=>?_);have e:BO b a cell=false:=by have c:(!(BO b a cell))=true:=f;simpa using c
 rw[e];refine aN ?_;exact mP;have e:BO b a cell=true:=by have c:(!(BO b a cell))=false:=f;simpa using c
 have d:=aWz e;rw[e];refine qM ?_ ?_;simp;rw[zG] at d;exact d;exact mP
def X_:jl->Option (Prop×PV)
 |[.w (.agg [.sl 1 n f]),.w (.one (.lit (.int .i64 pg))),.w (.one (.lit (.int .i64 cell))),.w (.one (.lit (.bool a)))]=>some (pX n f,X9 (bW n f) pg cell a)|_=>none
theorem MS:d_ prog af 123 (aU true X_):=by
 refine aT (aB func123 ah rfl) (fun k p r b i w c d j h=>?_);unfold X_ at b;split at b;rename_i n f a cell g;cases b
 match d,h with
 |[v1,v2,v3,e],⟨k1,k2,k3,k4,_⟩=>exact SG (bW n f) a cell g w c [v1,v2,v3,e] j ⟨aWs i k1,k2,k3,k4,trivial⟩
 cases b
def VX(w:ae)(ok0:qo)(c:Nat)(val:ag):Ctx:={ w:=w,ok:=fun b=>(ok0 b\/c<=b)/\hblk val≠some b,env:=fun _=>none }
def aBv(P:dE)(I:je)(f:Nat)(args:jl)(e n len:Nat)(f':Nat->dw):Prop:=
 ∀ (w:ae) (c:qo) (h:ji),I w->o5 { w,ok:=c,env:=fun _=>none } args h ->
  Calls P f h.toArray w fun r d=>∃ b g,r=.returned b/\Ext w d/\d.ownsRow w.heap.size e n b len g/\∀ i,i<len->RL (VX d c w.heap.size b) (f' i) ((g.drop (i*n)).take n)
def bJo(P:dE)(fn:Func)(e n len:Nat)(f':Nat->dw)(s:St):Prop:=∃ x b g f,(yx P fn.results).ok none s (fun _ c wr=>c=dm (.ow x b n 0 len)/\wr=[])/\find s.o x=some (g,b,.arr e n len f)/\gT g/\∀ i,i<len->f i=f' i/\(f' i).all (aY false)=true
def aUA(P:dE)(A:lh)(fn:Func)(e n len:Nat)(f':Nat->dw):Exit->Act->ae->Prop
 |.panic chain,a,w=>a.defers=[]/\DW A chain w|x,a,w=>(x=.normal\/x=.ret)/\∃ s,bJo P fn e n len f' s/\oq A s a w
theorem bDg{P:dE}{fn:Func}{e n len x jm:Nat}{g:mi}{f f':Nat->dw}{s:St}{out:Out}(h:(yx P fn.results).exec none s [] [] [] []=some out)(hc:All out.conds)(d:out.wr=[])(c:out.val=dm (.ow x jm n 0 len))(l:find s.o x=some (g,jm,.arr e n len f))(k:gT g)(b:∀ i,i<len->f i=f' i/\(f' i).all (aY false)=true):bJo P fn e n len f' s:=by rw[wO] at h;exact⟨x,jm,g,f,M.y8 _ none s out _ h (fun p j=>hc.mem p j) ⟨c,d⟩,l,k,b⟩
theorem bAd{P:dE}{I:je}{f:Nat}{fn:Func}{c:Code}{args:jl}{e n len:Nat}{f':Nat->dw}(hf:P.funcs[f]?=some fn)(hb:fn.body=some c)(y:Nat.ble args.length fn.ntmps=true)(hI:∀ w j,Ext w j->I w->I j)
  (hT:∀ A:lh,A.S=Non->A.nt=fn.ntmps->jo P I A->jw P A ⟨slots 0 args,[]⟩ c (aUA P A fn e n len f')) (H:Hm e G7=true:=by rfl):aBv P I f args e n len f':=by
 intro w o vs Q V;have hn:=Yp y;have X:=V.length;refine calls_of_wp hf hb (wp_mono (hT (lh.plain w o fn.ntmps) rfl rfl (jo.plain fun j hc=>hI w j hc Q) _ w (aFw y V) (fun _ _ _ hd h=>⟨hd,h⟩)) (fun x T j Z=>?_))
 have O:(x=.normal\/x=.ret)/\∃ s,bJo P fn e n len f' s/\oq (lh.plain w o fn.ntmps) s T j:=by
  cases x with
  |panic chain=>obtain⟨_,l,hl,_⟩:=Z;exact hl.elim
  |_=>exact Z
 obtain⟨D,s,⟨U,t,g,f0,h2,L,K,z⟩,h4⟩:=O;obtain⟨env,B⟩:=h4;obtain⟨v',m,h5,h6,h7,_⟩:=rY B h2;subst h7;obtain⟨hd,q,F⟩:=jQ B L K;obtain⟨E,u,c0,rfl,Y,rfl⟩:=h6.AY q;obtain⟨r,d,N⟩:=F;have G:u=len:=by obtain⟨_,A1,c1,e1,_⟩:=Reads.zk d;cases e1;rfl
 have d:=d.plain H;subst G
 have C:E.map (fun p=>p.add (0*n))=E:=by
  cases E with
  |none=>rfl|some ad=>simp[Addr.add]
 have k:j.ownsRow w.heap.size e n (.slice E u c0) u r:=⟨d.1,d.2.imp id (fun⟨g,cap,cur,D,_,h3⟩=>⟨g,cap,cur,D,by
  have:=(B.live U t _ g q (by rw[D];rfl)).2
  exact this.resolve_right (fun h=>h.1),h3⟩)⟩
 have this:T.defers=[]/\∃ v,(results fn T.tmps).run P j=.ok v j/\∃ m r,Ending.returned v=.returned m/\Ext w j/\j.ownsRow w.heap.size e n m u r/\∀ i,i<u->RL (VX j o w.heap.size m) (f' i) ((r.drop (i*n)).take n):=by
  refine⟨B.defers,_,h5,_,r,rfl,B.iq,?_,fun i J=>?_⟩
  ·first|exact k|(simp only[aAH,aBC] at C ⊢;rw[C];exact k)
  have h8:=N i J;rw[(z i J).1] at h8;refine (jK h8 (z i J).2).le ⟨dC _,fun b _ W=>⟨⟨W.1,fun e=>W.2 U t _ q ?_⟩,rfl⟩,fun _ _ _ h=>by cases h⟩;simp only[aAH,aBC] at C e;rw[C] at e;exact e
 rcases D with rfl|rfl<;>exact this
section
variable {P:dE} {I:je} {A:lh} {s:St} {a:Act} {w:ae} {env:Env}
theorem gy.KF(h:gy A s a w env)(d:Nat)(e n len:Nat){f:Nat->dw}{v:ag}{xs:ji}{w':ae}(K:Ext w w')(j:w'.ownsRow w.heap.size e n v len xs)(hr:∀ i,i<len->RL (VX w' (aI A w env).ok w.heap.size v) (f i) ((xs.drop (i*n)).take n)) :
  ∃ c,gy A { s with o:=[(d,none,fresh s d,.arr e n len f)]++s.o } a w' c/\RV (aI A w' c) (dm (.ow d (fresh s d) n 0 len)) v:=by
 have u:w'.ownsRow 0 e n v len xs:=⟨j.1,j.2.imp id (fun⟨g,cap,cur,D,_,L⟩=>⟨g,cap,cur,D,xn _,L⟩)⟩;obtain⟨q,G,rfl⟩:=nS j
 obtain⟨D,N⟩:=h.new (w':=w') d none (.slice q len G) (.arr e n len f) K (fun b F=>by
   have l:(Value.slice q len G).ownBlock=some b:=by cases q<;>exact F
   exact⟨(j.lt b l).2,(j.lt b l).1⟩)
  (
   fun B _=>⟨xs,yC u,fun i H=>(hr i H).le ⟨dC _,fun b F t=>⟨by
   obtain⟨m,y⟩:=t;rcases Yk b w.heap.size with z|C;rcases m with m|m;exact (B.blk b z m).1;omega
   refine⟨.inr (PP h.iq.size C),fun x r J p k=>?_⟩;by_cases E:x=d;subst E;rw[fO] at p;cases p;exact y k;rw[kK E] at p;have:=(h.live x r J b p k).1
   omega,rfl⟩,fun _ _ _ h=>by cases h⟩⟩)
 refine⟨_,D,.w (.one (.ow ⟨_,_,rfl⟩ ⟨_,_,fO _ _ _ _,dC _,fun _=>⟨_,_,_,rfl,a_,?_⟩⟩))⟩;cases q with
 |none=>simp|some O=>simp[Addr.add]
def aKk(g:jl->Option (Prop×Nat×Nat×Nat×(Nat->dw))):Spec:=fun c b=>match b.all sJ,g b with
 |true,some (p,e,n,len,f)=>.need p (.new c (.arr e n len f) fun v=>.ret (dm (.ow c v n 0 len)))|_,_=>.fail
theorem aSi{f:Nat}{g:jl->Option (Prop×Nat×Nat×Nat×(Nat->dw))}(d:∀ args w,(callFunc f args).run P w=.ok (.enter f args) w)(C:∀ k p e n len i,g k=some (p,e,n,len,i)->p->aBv P I f k e n len i):d_ P I f (aKk g):=by
 refine⟨d,fun A s a w env u b o F h D x c=>?_⟩;unfold aKk at c
 cases m:b.all sJ<;>cases l:g b<;>simp only[m,l] at c<;>try exact c.elim
 rename_i q;obtain⟨p,e,n,len,i⟩:=q;obtain⟨z,c⟩:=c;refine (C b p e n len i l z w (aI A w env).ok o (D.mem w h.iq) (aGo x m)).mono ?_;rintro r J ⟨t,k,rfl,E,B,y⟩;obtain⟨j,H,G⟩:=h.KF u e n len (f:=i) E B y;exact .inl ⟨_,_,_,j,rfl,c,H,G⟩
end
theorem app0(f g:Nat->dw):uh 0 f g=g:=by funext i;unfold uh;rw[ay a_];rfl
theorem O8(b:y5)(h0:0<b.length)(hl:b.length<=100000):aBv prog af 159 [dm (.sl 1 b.length (dK b))] 74 1 b.length (dK b):=by
 have M:=Gf (I:=af);have e:prog.types[74].bytes=24:=ah;have c:prog.types[74].size=1:=ah;refine bAd func159 rfl rfl bJ (fun A m l n=>?_);refine nZ ?_;refine aH ?_ ?_;simp;omega;refine dU (fun h=>?_) (fun h=>?_);cases h;refine qM ?_ ?_;simp;rw[e];omega;refine bF (s':=⟨[(2,none,dm (.ow 3000 0 1 0 b.length))],[(3000,none,0,.arr 74 1 b.length (dK b))]⟩) (fun a w d=>(d.reset (kT:=[2]) (kO:=[3000]) ai ?_).same ?_ ?_) ?_;simp;rw[app0];exact fun i _ x j=>by have:x∈[_]:=j;rw[aGQ] at this;subst this;rfl
 refine .cons ?_ .nil;change dm (.ow 3000 0 prog.types[74].size 0 (0+b.length))=_;rw[c,ik];refine .cons (.arr ?_ (fun i k=>?_)) .nil;exact ik _;rw[app0];refine bI (fun a w d=>⟨.inr rfl,_,?_,d⟩);refine bDg (x:=3000) (jm:=0) (g:=none) (f:=?_) (out:=?_) ?_ ?_ ?_ ?_ ?_ trivial ?_;rotate_left 2;rfl;simp;rfl;rfl;rfl;exact fun i k=>⟨rfl,rfl⟩
theorem O7(b:List Int)(h0:0<b.length)(hl:b.length<=100000):Y3 prog af 160 [dm (.sl 1 b.length (Bi b))] 5 1 b.length (Bi b):=by
 have M:=Gf (I:=af);have e:prog.types[5].bytes=1:=ah;have c:prog.types[5].size=1:=ah;refine aPp func160 rfl rfl bJ (fun A m l n=>?_);refine nZ ?_;refine aH ?_ ?_;simp;omega;refine dU (fun h=>?_) (fun h=>?_);cases h;refine qM ?_ ?_;simp;rw[e];omega;refine bF (s':=⟨[(2,none,dm (.ow 3000 0 1 0 b.length))],[(3000,none,0,.arr 5 1 b.length (Bi b))]⟩) (fun a w d=>(d.reset (kT:=[2]) (kO:=[3000]) ai ?_).same ?_ ?_) ?_;simp;rw[app0];exact fun i _ x j=>by have:x∈[_]:=j;rw[aGQ] at this;subst this;rfl
 refine .cons ?_ .nil;change dm (.ow 3000 0 prog.types[5].size 0 (0+b.length))=_;rw[c,ik];refine .cons (.arr ?_ (fun i k=>?_)) .nil;exact ik _;rw[app0];refine bI (fun a w d=>⟨.inr rfl,_,?_,d⟩);refine aVn (x:=3000) (jm:=0) (g:=none) (f:=?_) (out:=?_) ?_ ?_ ?_ ?_ ?_ trivial ?_;rotate_left 2;rfl;simp;rfl;rfl;rfl;exact fun i k=>⟨rfl,rfl⟩
def Ij:Spec:=aKk fun a=>match a with
 |[.w (.one (.sl 1 n f))]=>some (0<n/\n<=100000/\pX n f,74,1,(bW n f).length,dK (bW n f))|_=>none
theorem VJ{C:Ctx}{n:Nat}{f:Nat->dw}{v:ag}(a:pX n f)(h:RV C (dm (.sl 1 n f)) v):RV C (dm (.sl 1 (bW n f).length (dK (bW n f)))) v:=by
 cases h with
 |w h=>cases h with
  |one h=>exact .w (.one (aGv a h))
theorem aBv.args{P:dE}{I:je}{f:Nat}{args a:jl}{e n len:Nat}{f':Nat->dw}(h:aBv P I f a e n len f')(d:∀ C b,o5 C args b->o5 C a b):aBv P I f args e n len f':=fun w c b i g=>h w c b i (d _ _ g)
theorem Y3.args{P:dE}{I:je}{f:Nat}{args a:jl}{e n len:Nat}{f':Nat->dw}(h:Y3 P I f a e n len f')(d:∀ C b,o5 C args b->o5 C a b):Y3 P I f args e n len f':=fun w c b i g=>h w c b i (d _ _ g)
theorem TP:d_ prog af 159 Ij:=by
 refine aSi (aB func159 ah rfl) (fun l p e n len m a g=>?_);split at a;rename_i c k;cases a;obtain⟨j,i,h⟩:=g
 exact (O8 (bW c k) (by rw[fQ];exact j) (by rw[fQ];exact i)).args fun C b f=>by
  match b,f with
  |[x],⟨d,_⟩=>exact⟨VJ h d,trivial⟩
 cases a
def aRi(n:Nat)(g:Nat->dw):Prop:=∀ j,j<n->bGe (g j)=true
def rowCell(n:Nat)(g:Nat->dw):List Int:=(AC n).map fun j=>Bh (g j)
theorem aEn(l:List Int):rowCell l.length (Bi l)=l:=aQx l
theorem O_{C:Ctx}{n:Nat}{g:Nat->dw}{v:ag}(c:aRi n g)(h:RV C (dm (.sl 1 n g)) v):RV C (dm (.sl 1 (rowCell n g).length (Bi (rowCell n g)))) v:=by
 have b:(rowCell n g).length=n:=by unfold rowCell;simp
 rw[b];cases h with
 | w h=>cases h with
  |one h=>exact .w (.one (h.Ar fun j a=>by
   unfold Bi rowCell;rw[kX n j (fun j=>Bh (g j)) a]
   exact aLh (c j a)))
@[simp] theorem nN(n:Nat)(g:Nat->dw):(rowCell n g).length=n:=by unfold rowCell;simp
theorem aVz{b:y5}{nb a:Nat}{cut:Bool}(h:nb<b.length):dK (um b (nb:Int) (a:Int) cut) nb=EM ((b.getD nb []).set a (iL (iE b (nb:Int) (a:Int)) cut)):=by unfold dK um;rw[WF,zG,aBE h];rfl
theorem bEc{b:y5}{nb a:Nat}{cut:Bool}{i:Nat}(h:i≠nb):dK (um b (nb:Int) (a:Int) cut) i=dK b i:=by unfold dK um;rw[WF,zG,aBF (fun e=>h e.symm),<-zG]
theorem bCc{l:List Int}{a:Nat}{x:Int}(h:a<l.length){k:Nat}:(if k=a then[PC.lit (.int .u8 x)] else Bi l k)=Bi (l.set a x) k:=by unfold Bi;by_cases b:k=a;subst b;rw[au rfl,zG,aBE h];rfl;rw[ay b,zG,zG,aBF (fun e=>b e.symm)]
theorem Gz.Dh{s:St}{new:Bool}{c:PC}{n len a:Nat}{f:Nat->dw}(e:a=len)(h:Gz s new c (.sl n a f)):Gz s new c (.sl n len f):=by subst e;exact h
theorem aFa(b:y5)(a cell:Int)(cut:Bool):(um b a cell cut).length=b.length:=Yb ..
def Ii:Spec:=aKl fun a=>match a with
 |[.w (.one (.sl 1 n f))]=>some (0<n/\n<=100000/\aRi n f,5,1,(rowCell n f).length,Bi (rowCell n f))|_=>none
theorem TN:d_ prog af 160 Ii:=by
 refine aIg (aB func160 ah rfl) (fun m p e n len o b i=>?_);split at b;rename_i a d;cases b;obtain⟨l,k,j⟩:=i;have c:(rowCell a d).length=a:=by unfold rowCell;simp
 exact (O7 (rowCell a d) (by rw[c];exact l) (by rw[c];exact k)).args fun C f h=>by
  match f,h with
  |[x],⟨g,_⟩=>exact⟨O_ j g,trivial⟩
 cases b
def puL:List (Nat×Spec):=[(157,aU true exG),(159,Ij),(160,Ii)]
theorem aCW:∀ p∈puL,d_ prog af p.1 p.2:=by intro p a;simp only[puL,zg,YP,or_false] at a;rcases a with rfl|rfl|rfl;exact aCk;exact TP;exact TN
theorem puM:jq prog af (find puL):=⟨bG aCW,dV⟩
def bEb(b:y5)(e:Int):PV:=.og [.agg (Dq b),.one (.lit (.int .i64 e))]
def QR(b:y5)(nb a:Nat)(x:Int):St:=⟨[(1,none,iy (nb:Int)),(2,none,iy (a:Int)),(4,none,dm (.pt 0 0 0)),(8,none,dm (.pt 1 0 0)),(10,none,o7 (.int .u8 x))],[(0,none,0,.box 60 (Dq b)),(1,none,0,.box 60 [.lit (.slice none 0 0)])]⟩
theorem aCw{P:dE}{A:lh}{s:St}{Q:Exit->Act->je}{x y:Code}(t:St)(h1:jw P A s x (Exit.then (oq A t) Q))(h2:jw P A t y Q):jw P A s (.seq x y) Q:=fun a w d b=>wp_seq (wp_mono (h1 a w d b) (fun e g f c=>by cases e<;>first|exact c|exact h2 _ _ c b))
theorem JY(b:y5)(c:Nat)(cut:Bool)(B:b.length<=1000)(r:∀ l∈b,l.length<=100000)(y:∀ l∈b,∀ x∈l,0<=x/\x<=3)(t:BO b 2 (c:Int)=true):fF prog af 125 false [.w (.agg (Dq b)),iy ((2:Nat):Int),iy (c:Int),rf cut] (bEb (um b 2 (c:Int) cut) 0):=by
 have M:=puM;have n:=aWz t;refine bD func125 rfl rfl bJ (fun A I F J=>?_);refine aN ?_;refine rQ ?_;refine aN ?_;rw[aJ,show ((2:Nat):Int)=2 from rfl,t];refine dU (fun f=>?_) (fun f=>?_);cases f;refine jD ?_;refine aN ?_;have o:2<b.length:=by have:=n.1.2;omega
 have m:b.getD 2 []∈b:=getD_mem o [];have D:(c:Int)<((b.getD 2 []).length:Int):=n.2.2;have C:0<=iE b 2 (c:Int)/\iE b 2 (c:Int)<=3:=y _ m _ (getD_mem a_ 0);refine aCw (QR b 2 c (bif cut then 1 else 2)) ?_ ?_;refine aN ?_;refine dU (fun f=>?_) (fun f=>?_);have e:cut=true:=f;refine fP ?_;exact fun a w g=>(g.reset (kT:=[1,2,4,8,10]) (kO:=[0,1]) ai b_).same (.cons rfl (.cons rfl (.cons rfl (.cons rfl (.cons (congrArg (fun z=>o7 (.int .u8 z)) (show (1:Int)=(bif cut then 1 else 2) by rw[e];rfl)) .nil))))) (.cons (.box rfl) (.cons (.box rfl) .nil));have e:cut=false:=f;exact iH fun a w g=>(g.reset (kT:=[1,2,4,8,10]) (kO:=[0,1]) ai b_).same (.cons rfl (.cons rfl (.cons rfl (.cons rfl (.cons (congrArg (fun z=>o7 (.int .u8 z)) (show (2:Int)=(bif cut then 1 else 2) by rw[e];rfl)) .nil))))) (.cons (.box rfl) (.cons (.box rfl) .nil));refine aCw (QR b 2 c (iL (iE b 2 (c:Int)) cut)) ?_ ?_
 ·refine aH ?_ ?_;simp;rw[<-zG];omega;refine aN ?_;refine dU (fun f=>?_) (fun f=>?_);have d:(bif iE b 2 (c:Int)==2 then true else iE b 2 (c:Int)==3)=true:=f
  have q:iL (iE b 2 (c:Int)) cut=iE b 2 (c:Int):=by
   unfold iL
   have s:¬iE b 2 (c:Int)<=1:=fun h=>by
    by_cases p:iE b 2 (c:Int)=2
    omega;rw[beq_eq_false_iff_ne.2 p] at d;have u:=eq_of_beq d;omega
   rw[if_neg s]
  refine fP ?_;exact fun a w g=>(g.reset (kT:=[1,2,4,8,10]) (kO:=[0,1]) ai b_).same (.cons rfl (.cons rfl (.cons rfl (.cons rfl (.cons (congrArg (fun z=>o7 (.int .u8 z)) (q.symm)) .nil))))) (.cons (.box rfl) (.cons (.box rfl) .nil))
  ·have d:(bif iE b 2 (c:Int)==2 then true else iE b 2 (c:Int)==3)=false:=f
   have q:iL (iE b 2 (c:Int)) cut=bif cut then 1 else 2:=by
    unfold iL;have s:iE b 2 (c:Int)<=1:=by by_cases p:iE b 2 (c:Int)=2;rw[p] at d;cases d;rw[beq_eq_false_iff_ne.2 p] at d;by_cases u:iE b 2 (c:Int)=3;rw[u] at d;cases d;omega
    rw[if_pos s]
    cases cut<;>rfl
   exact iH fun a w g=>(g.reset (kT:=[1,2,4,8,10]) (kO:=[0,1]) ai b_).same (.cons rfl (.cons rfl (.cons rfl (.cons rfl (.cons (congrArg (fun z=>o7 (.int .u8 z)) (q.symm)) .nil))))) (.cons (.box rfl) (.cons (.box rfl) .nil))
 refine aH ?_ ?_;simp;omega;refine aH ?_ ?_;simp;rw[<-zG];exact⟨a_,a_,⟨a_,r _ m,fun _ _=>rfl⟩,a_,a_⟩;refine aH ?_ ?_;simp;rw[<-zG];omega;refine aN ?_;refine bI (fun a w g=>⟨.inr rfl,_,?_,g⟩);unfold bEb Dq;rw[aFa];refine rX (ai) b_ ai ?_;refine .og (.cons (.agg (.cons ?_ .nil)) (.cons (.one (.cold rfl)) .nil));have E:(bW b.length (dK b)).length=b.length:=fQ _ _;refine Gz.Dh E (.rows rfl trivial a_ (fun i H=>?_));rw[ik];by_cases j:i=2;subst j;refine .inr ⟨10008,0,1,0,(b.getD 2 []).length,_,_,_,_,Bi ((b.getD 2 []).set c (iL (iE b 2 (c:Int)) cut)),?_,?_,rfl,trivial,?_,fun k G=>⟨?_,rfl⟩⟩;change [PC.ow 10008 0 1 0 (rowCell ((bW b.length (dK b)).getD 2 []).length (Bi ((bW b.length (dK b)).getD 2 []))).length]=_;rw[aJ,nN];rw[show (2:Int)=((2:Nat):Int) from rfl,aVz o];unfold EM;rw[Yb];change 0+(b.getD 2 []).length<=(rowCell ((bW b.length (dK b)).getD 2 []).length (Bi ((bW b.length (dK b)).getD 2 []))).length;rw[aJ,nN];omega;rw[ik];change (if k=0+(c:Int).toNat then[PC.lit (.int .u8 (iL (iE b 2 (c:Int)) cut))] else Bi (rowCell ((bW b.length (dK b)).getD 2 []).length (Bi ((bW b.length (dK b)).getD 2 []))) k)=_;rw[aJ,aEn,WF,ik];exact bCc a_;refine .inl ⟨?_,rfl⟩;rw[if_neg (by rw[ik];exact j),aJ];exact (bEc (nb:=2) j).symm
theorem JX(b:y5)(c:Nat)(cut:Bool)(B:b.length<=1000)(r:∀ l∈b,l.length<=100000)(y:∀ l∈b,∀ x∈l,0<=x/\x<=3)(t:BO b 3 (c:Int)=true):fF prog af 125 false [.w (.agg (Dq b)),iy ((3:Nat):Int),iy (c:Int),rf cut] (bEb (um b 3 (c:Int) cut) 0):=by
 have M:=puM;have n:=aWz t;refine bD func125 rfl rfl bJ (fun A I F J=>?_);refine aN ?_;refine rQ ?_;refine aN ?_;rw[aJ,show ((3:Nat):Int)=3 from rfl,t];refine dU (fun f=>?_) (fun f=>?_);cases f;refine jD ?_;refine aN ?_;have o:3<b.length:=by have:=n.1.2;omega
 have m:b.getD 3 []∈b:=getD_mem o [];have D:(c:Int)<((b.getD 3 []).length:Int):=n.2.2;have C:0<=iE b 3 (c:Int)/\iE b 3 (c:Int)<=3:=y _ m _ (getD_mem a_ 0);refine aCw (QR b 3 c (bif cut then 1 else 2)) ?_ ?_;refine aN ?_;refine dU (fun f=>?_) (fun f=>?_);have e:cut=true:=f;refine fP ?_;exact fun a w g=>(g.reset (kT:=[1,2,4,8,10]) (kO:=[0,1]) ai b_).same (.cons rfl (.cons rfl (.cons rfl (.cons rfl (.cons (congrArg (fun z=>o7 (.int .u8 z)) (show (1:Int)=(bif cut then 1 else 2) by rw[e];rfl)) .nil))))) (.cons (.box rfl) (.cons (.box rfl) .nil));have e:cut=false:=f;exact iH fun a w g=>(g.reset (kT:=[1,2,4,8,10]) (kO:=[0,1]) ai b_).same (.cons rfl (.cons rfl (.cons rfl (.cons rfl (.cons (congrArg (fun z=>o7 (.int .u8 z)) (show (2:Int)=(bif cut then 1 else 2) by rw[e];rfl)) .nil))))) (.cons (.box rfl) (.cons (.box rfl) .nil));refine aCw (QR b 3 c (iL (iE b 3 (c:Int)) cut)) ?_ ?_
 ·refine aH ?_ ?_;simp;rw[<-zG];omega;refine aN ?_;refine dU (fun f=>?_) (fun f=>?_);have d:(bif iE b 3 (c:Int)==2 then true else iE b 3 (c:Int)==3)=true:=f
  have q:iL (iE b 3 (c:Int)) cut=iE b 3 (c:Int):=by
   unfold iL
   have s:¬iE b 3 (c:Int)<=1:=fun h=>by
    by_cases p:iE b 3 (c:Int)=2
    omega;rw[beq_eq_false_iff_ne.2 p] at d;have u:=eq_of_beq d;omega
   rw[if_neg s]
  refine fP ?_;exact fun a w g=>(g.reset (kT:=[1,2,4,8,10]) (kO:=[0,1]) ai b_).same (.cons rfl (.cons rfl (.cons rfl (.cons rfl (.cons (congrArg (fun z=>o7 (.int .u8 z)) (q.symm)) .nil))))) (.cons (.box rfl) (.cons (.box rfl) .nil))
  ·have d:(bif iE b 3 (c:Int)==2 then true else iE b 3 (c:Int)==3)=false:=f
   have q:iL (iE b 3 (c:Int)) cut=bif cut then 1 else 2:=by
    unfold iL;have s:iE b 3 (c:Int)<=1:=by by_cases p:iE b 3 (c:Int)=2;rw[p] at d;cases d;rw[beq_eq_false_iff_ne.2 p] at d;by_cases u:iE b 3 (c:Int)=3;rw[u] at d;cases d;omega
    rw[if_pos s]
    cases cut<;>rfl
   exact iH fun a w g=>(g.reset (kT:=[1,2,4,8,10]) (kO:=[0,1]) ai b_).same (.cons rfl (.cons rfl (.cons rfl (.cons rfl (.cons (congrArg (fun z=>o7 (.int .u8 z)) (q.symm)) .nil))))) (.cons (.box rfl) (.cons (.box rfl) .nil))
 refine aH ?_ ?_;simp;omega;refine aH ?_ ?_;simp;rw[<-zG];exact⟨a_,a_,⟨a_,r _ m,fun _ _=>rfl⟩,a_,a_⟩;refine aH ?_ ?_;simp;rw[<-zG];omega;refine aN ?_;refine bI (fun a w g=>⟨.inr rfl,_,?_,g⟩);unfold bEb Dq;rw[aFa];refine rX (ai) b_ ai ?_;refine .og (.cons (.agg (.cons ?_ .nil)) (.cons (.one (.cold rfl)) .nil));have E:(bW b.length (dK b)).length=b.length:=fQ _ _;refine Gz.Dh E (.rows rfl trivial a_ (fun i H=>?_));rw[ik];by_cases j:i=3;subst j;refine .inr ⟨10008,0,1,0,(b.getD 3 []).length,_,_,_,_,Bi ((b.getD 3 []).set c (iL (iE b 3 (c:Int)) cut)),?_,?_,rfl,trivial,?_,fun k G=>⟨?_,rfl⟩⟩;change [PC.ow 10008 0 1 0 (rowCell ((bW b.length (dK b)).getD 3 []).length (Bi ((bW b.length (dK b)).getD 3 []))).length]=_;rw[aJ,nN];rw[show (3:Int)=((3:Nat):Int) from rfl,aVz o];unfold EM;rw[Yb];change 0+(b.getD 3 []).length<=(rowCell ((bW b.length (dK b)).getD 3 []).length (Bi ((bW b.length (dK b)).getD 3 []))).length;rw[aJ,nN];omega;rw[ik];change (if k=0+(c:Int).toNat then[PC.lit (.int .u8 (iL (iE b 3 (c:Int)) cut))] else Bi (rowCell ((bW b.length (dK b)).getD 3 []).length (Bi ((bW b.length (dK b)).getD 3 []))) k)=_;rw[aJ,aEn,WF,ik];exact bCc a_;refine .inl ⟨?_,rfl⟩;rw[if_neg (by rw[ik];exact j),aJ];exact (bEc (nb:=3) j).symm
def Vd:jl->Option (Prop×PV)
 |[.w (.agg [.sl 1 n f]),.w (.one (.lit (.int .i64 bk))),.w (.one (.lit (.int .i64 c))),.w (.one (.lit (.bool cut)))]=>some (pX n f/\n<=1000/\(∀ l∈bW n f,l.length<=100000)/\(∀ l∈bW n f,∀ x∈l,0<=x/\x<=3)/\(bk=2\/bk=3)/\BO (bW n f) bk c=true,bEb (um (bW n f) bk c cut) 0)|_=>none
theorem JZ:d_ prog af 125 (aU false Vd):=by
 refine aT (aB func125 ah rfl) (fun t p r d s w a o i q=>?_);unfold Vd at d;split at d;rename_i n f u c cut;cases d;obtain⟨m,l,k,j,e,g⟩:=s;obtain⟨b,rfl⟩:∃ b:Nat,c=(b:Int):=⟨c.toNat,by have:=(aWz g).2.1;omega⟩
 match o,q with
 |[v1,v2,v3,h],⟨k1,k2,k3,k4,_⟩=>rcases e with rfl|rfl;exact JY (bW n f) b cut (by rw[fQ];exact l) k j g w a [v1,v2,v3,h] i ⟨aWs m k1,k2,k3,k4,trivial⟩;exact JX (bW n f) b cut (by rw[fQ];exact l) k j g w a [v1,v2,v3,h] i ⟨aWs m k1,k2,k3,k4,trivial⟩
 cases d
end Pv
theorem aJt:y7 prog 173 10:=⟨⟨_,underlying173,rfl⟩,ah⟩
def aFY:kw:=#[.nilFunc,.nilFunc,.func (.func 121) #[] #[],.func (.func 122) #[] #[],.func (.func 121) #[] #[],.func (.func 124) #[] #[],
 .func (.func 126) #[] #[],.func (.func 127) #[] #[],.func (.func 129) #[] #[],.func (.func 130) #[] #[]]
theorem aRh(w:ae):Calls prog 94 #[] w fun e c=>e=.returned (.agg aFY)/\Ext w c:=by
 go_enter func94,ntmps94
 go_wp2_with (refine aV (ty:=173) (t:=173) (x:=.tmp 0) (y:=.tmp 8) rfl rfl aJt rfl rfl (f_.new w _ _) rfl rfl (by rw[<-aAD];rfl) ?_;intro f b a d)
 refine bodyPost_ret (v:=.agg aFY) (gI aJt rfl b rfl rfl) rfl ⟨rfl,?_⟩;exact ((Ext.refl w).alloc _).trans' a (fun _ _ h=>h) (fun i g e=>a_)
def yS(c:Acc):Prop:=((c.kind=1\/c.kind=2)/\(c.pg=2\/c.pg=3)/\(0<=c.cell/\c.cell<48)/\c.bytes=aG)\/((c.kind=3/\c.bytes=aG\/c.kind=4/\c.bytes.size=256)/\c.pg=0/\0<=c.cell/\c.cell<64)
instance (c:Acc):Decidable (yS c):=by unfold yS;infer_instance
structure qc(h:jd):Prop where
 ok:Dx h
 n:3<h.b.length
 l2:(h.b.getD 2 []).length=48
 l3:(h.b.getD 3 []).length=48
 f:64<=h.f.length
theorem NE{b:y5}{k c:Int}(h0:0<=k)(h1:k<b.length)(h2:0<=c)(h3:c<((b.getD k.toNat []).length:Int)):BO b k c=true:=by unfold BO;simp only[ww,decide_eq_true_eq];exact⟨⟨⟨h0,h1⟩,h2⟩,h3⟩
theorem qc.ex{h:jd}(d:qc h){k c:Int}(a:k=2\/k=3)(hc:0<=c/\c<48):BO h.b k c=true:=by have e:=d.n;rcases a with rfl|rfl;refine NE g_ a_ hc.1 ?_;rw[show (2:Int).toNat=2 from rfl,d.l2];exact hc.2;refine NE g_ a_ hc.1 ?_;rw[show (3:Int).toNat=3 from rfl,d.l3];exact hc.2
theorem aIk(b:y5)(k c:Int)(cut:Bool)(j:Nat):((um b k c cut).getD j []).length=(b.getD j []).length:=by unfold um;rw[zG,List.getElem?_set];split;rename_i e;subst e;split;rename_i a;rw[Option.getD_some,Yb];rename_i a;rw[zG,YQ a_];rw[<-zG]
theorem aAk(f:Fl)(s:Int)(b:l9)(cut:Int):(iO f s b cut).length=f.length:=by unfold iO;split;exact Yb ..;rfl
theorem aUb{h:jd}{a:Acc}{t:pq}(d:a.kind=1)(hb:a.bytes=aG)(c:BO h.b a.pg a.cell=true):dM h a t=(h,if t.cut then jY else⟨dF (iE h.b a.pg a.cell) t.qg,aG⟩,0):=by unfold dM;rw[au d,au hb,au c]
theorem aUa{h:jd}{a:Acc}{t:pq}(d:a.kind=2)(hb:a.bytes=aG)(c:BO h.b a.pg a.cell=true):dM h a t=({ h with b:=um h.b a.pg a.cell t.cut },jY,0):=by unfold dM;rw[ay a_,au d,au hb,au c]
theorem sV{h:jd}{a:Acc}{t:pq}(c:a.kind=3)(hb:a.bytes=aG/\a.pg=0)(b:0<=a.cell/\a.cell<h.f.length):dM h a t=(h,if t.cut then jY else⟨0,strOf (sec h.f a.cell)⟩,0):=by unfold dM;rw[ay a_,ay a_,au c,au hb,au b]
theorem sU{h:jd}{a:Acc}{t:pq}(c:a.kind=4)(hb:a.pg=0)(b:0<=a.cell/\a.cell<h.f.length)(hs:a.bytes.size=256):dM h a t=({ h with f:=iO h.f a.cell a.bytes (DT t) },jY,0):=by unfold dM;rw[ay a_,ay a_,ay a_,au c,au hb,au b,au hs]
theorem qc.step{h:jd}(d:qc h){c:Acc}(g:yS c)(t:pq):qc (dM h c t).1:=by
 have a:=aXe c t d.ok;have k:=d.f;rcases g with⟨b|b,j,i,e⟩|⟨⟨b,e⟩|⟨b,e⟩,j,i⟩;rw[aUb b e (d.ex j i)];exact d;rw[aUa b e (d.ex j i)] at a ⊢
 refine⟨a,?_,?_,?_,d.f⟩;show 3<(um _ _ _ _).length;unfold um;rw[Yb];exact d.n;exact (aIk _ _ _ _ 2).trans d.l2;exact (aIk _ _ _ _ 3).trans d.l3;rw[sV b ⟨e,j⟩ ⟨i.1,a_⟩];exact d;rw[sU b j ⟨i.1,a_⟩ e] at a ⊢;exact⟨a,d.n,d.l2,d.l3,by show 64<=(iO _ _ _ _).length;rw[aAk];exact k⟩
theorem aVf{F:List pq}:∀ (l:jc) (i:Nat) {h:jd},qc h->(∀ c∈l,yS c)->qc (Ap F h l i)
 |[],_,_,d,_=>d|c::l,i,_,d,g=>aVf l (i+1) (d.step (g c MM) _) (fun x a=>g x (VM _ a))
def aj.YG{b:Type}:aj b->Prop
 |.ret _=>True|.ask a k=>yS a/\∀ r,aj.YG (k r)
namespace Pv
def oI(F:List pq)(h:jd)(l:jc):Option qj:=match l.getLast? with
 |none=>some jY|some c=>if (dP F (l.length-1)).cut=true\/¬yS c\/1000000<l.length-1 then none else some (dM (Ap F h l.dropLast 0) c (dP F (l.length-1))).2.1
theorem aIp(F:List pq)(h:jd)(l:jc)(c:Acc):oI F h (l++[c])=if (dP F l.length).cut=true\/¬yS c\/1000000<l.length then none else some (dM (Ap F h l 0) c (dP F l.length)).2.1:=by unfold oI;rw[List.getLast?_append,List.dropLast_concat,gp,ZV,Nat.add_sub_cancel];rfl
theorem MJ{H:Type}(F:List pq)(h0:jd)(p:aj H):aj.YG p->∀ (n:Nat),p.Within n->∀ l:jc,l.length+n<=1000000 ->
  (Fe F (go (oI F h0) p l).2.length->cZ F p (Ap F h0 l 0) l.length=(some (go (oI F h0) p l).1,Ap F h0 (go (oI F h0) p l).2 0,(go (oI F h0) p l).2.length)) /\
  ∀ b c,l <+: b->b++[c] <+: (go (oI F h0) p l).2->Fe F b.length->(dP F b.length).cut=true->cZ F p (Ap F h0 l 0) l.length=(none,Ap F h0 (b++[c]) 0,b.length+1):=by
 induction p with
 |ret a=>intro _ n _ l _;refine⟨fun _=>rfl,fun b c r o _ _=>?_⟩;rw[go_ret] at o;have S:=r.length_le;have Q:(b++[c]).length<=l.length:=o.length_le;rw[gp,ZV] at Q;exfalso;omega| ask a k I=>
  intro y n E l L
  obtain⟨n,rfl⟩:∃ m,n=m+1:=by
   cases n with
   |zero=>exact E.elim|succ m=>exact⟨m,rfl⟩
  have C:yS a:=y.1;rw[xM];have D:=aVe F l a h0;have P:=aIp F h0 l a;have s:(l++[a]).length=l.length+1:=by rw[gp,ZV]
  have d:=vO (oI F h0) (k (ans (oI F h0) (l++[a]))) (l++[a]);obtain⟨K,J⟩:=I (ans (oI F h0) (l++[a])) (y.2 _) n (E _) (l++[a]) (by rw[gp,ZV];omega);by_cases f:(dP F l.length).cut=true;have e:cZ F (.ask a k) (Ap F h0 l 0) l.length=(none,Ap F h0 (l++[a]) 0,l.length+1):=by rw[cZ,au f,D]
  refine⟨fun i=>?_,fun b c r o i j=>?_⟩;have:=i l.length (by have:=d.length_le;omega);rw[this] at f;cases f;have S:=r.length_le;have N:b.length=l.length:=by rcases Yk l.length b.length with h|h;have:=i _ h;rw[this] at f;cases f;omega
  obtain⟨t,g⟩:=r;have B:t=[]:=by have:=congrArg List.length g;rw[gp] at this;exact List.eq_nil_of_length_eq_zero a_
  subst B;rw[Lt] at g;subst g;have O:l++[c]=l++[a]:=by obtain⟨u,A⟩:=d;obtain⟨v,q⟩:=o;rw[<-A,Pi,Pi] at q;have z:=aFR q;simp only[aAT,List.cons.injEq] at z;rw[z.1]
  rw[O,e];have w:ans (oI F h0) (l++[a])=(dM (Ap F h0 l 0) a (dP F l.length)).2.1:=by unfold ans;rw[P,ay (fun h=>h.elim f fun h=>h.elim (fun h=>h C) (fun h=>a_))];rfl
  have e:cZ F (.ask a k) (Ap F h0 l 0) l.length=cZ F (k (ans (oI F h0) (l++[a]))) (Ap F h0 (l++[a]) 0) (l++[a]).length:=by rw[cZ,ay f,D,s,w]
  refine⟨fun i=>by rw[e];exact K i,fun b c r o i j=>?_⟩;rw[e];refine J b c ?_ o i j;obtain⟨t,g⟩:=r;cases t with
  |nil=>rw[Lt] at g;subst g;exact absurd j f| cons x t=>
   subst g;obtain⟨u,A⟩:=d;obtain⟨v,q⟩:=o;rw[<-A] at q;have z:x=a:=by simp only[Pi,yz,Ha] at q;have G:=aFR q;simp only[List.cons.injEq] at G;exact G.1
   subst z;exact⟨t,b_⟩
theorem MK{e:Type}(O:qy)(p:aj e):aj.YG p->∀ l:jc,(∀ c∈l,yS c)->∀ c∈(go O p l).2,yS c:=by
 induction p with
 |ret a=>intro _ l h;exact h|ask a k f=>
  intro d l h;rw[xM];refine f _ (d.2 _) _ (fun c b=>?_);rcases List.mem_append.1 b with b|b;exact h c b
  obtain rfl:=List.mem_singleton.1 b;exact d.1
def aHB(A:lh)(s:St):Exit->Act->ae->Prop
 |.panic chain,a,w=>a.defers=A.ds/\DW A chain w|e,a,w=>e=.normal/\oq A s a w
theorem IB{P:dE}{A:lh}{s:St}(s':St){x y:Code}{Q:Exit->Act->je}(h1:jw P A s x (aHB A s'))(h2:jw P A s' y Q):jw P A s (.seq x y) Q:=fun a w h b=>
 wp_seq (wp_mono (h1 a w h (fun _ _ _ i g=>⟨i,g⟩)) (fun e f d c=>by
  cases e with
  |panic chain=>exact b chain f d c.1 c.2|normal=>exact h2 f d c.2 b|_=>cases c.1))
def p_(h:jd):dw:=[.sl 1 h.b.length (dK h.b),.sl 1 h.f.length (uo h.f),.bs 16 h.r]
def oK(t:pq):dw:=[.lit (.bool t.cut),.lit (.int .i64 t.bytes),.lit (.bool t.qg)]
def AP(k b c:Int):Acc:=⟨k,b,c,aG⟩
def BX:dw->Option (Prop×jd)
 |[.sl 1 n f,.sl 1 m g,.bs 16 r]=>some (pX n f/\aMs m g,⟨bW n f,iG m g,r⟩)|_=>none
theorem JV{C:Ctx}{n len:Nat}{f:Nat->dw}{xs:ji}(h:R C (.sl n len f) xs):∃ v,xs=[v]:=by cases h;exact⟨_,rfl⟩
theorem yJ{C:Ctx}{l:dw}{p:Prop}{h:jd}(e:BX l=some (p,h))(a:p){xs:ji}(hr:RL C l xs):RL C (p_ h) xs:=by
 unfold BX at e;split at e;rename_i n f m g r;cases e;obtain⟨c,b⟩:=a;unfold p_;dsimp only;cases hr with
 | cons k1 hr=>cases hr with
  |cons k2 hr=>obtain⟨v,rfl⟩:=JV k1;refine .cons (aGv c k1) (.cons ?_ hr);rw[aCi];exact k2.Ar (bGt b)
 cases e
theorem zh.FT{P:dE}{I:je}{f:Nat}{new:Bool}{x:Nat}{t:bi}{l l1 d:dw}{O:qy}{dev:Option (jc×jc)}{dn:jc->Prop}{args:jl}{c:PV}(h:zh P I f new [⟨x,t,l1,d⟩] O dev dn args c)
  (hl:∀ C E,RL C l E->RL C l1 E):zh P I f new [⟨x,t,l,d⟩] O dev dn args c:=by
 intro w m H B D U N g n p L u s q G J
 have y:∀ b,SX [⟨x,t,l,d⟩] B D b↔SX [⟨x,t,l1,d⟩] B D b:=fun b=>by
  constructor<;>rintro (h|⟨o,a,rfl⟩)
  exact .inl h;obtain rfl:=List.mem_singleton.1 a;exact .inr ⟨_,aFZ _,rfl⟩;exact .inl h;obtain rfl:=List.mem_singleton.1 a;exact .inr ⟨_,aFZ _,rfl⟩
 refine (h w m H B D U (fun F K=>N F (K.mono fun b _ i=>(y b).2 i)) (fun b i=>g b ((y b).2 i)) n p L u s (fun o a=>?_) (fun o a V r _=>?_) J).mono ?_;obtain rfl:=List.mem_singleton.1 a;obtain⟨A,T,j,z⟩:=q _ (aFZ _);exact⟨A,T,j,hl _ _ z⟩;obtain rfl:=List.mem_singleton.1 a;obtain rfl:=List.mem_singleton.1 r
 rfl;rintro e F ⟨A,j⟩
 refine⟨A.mono fun b _ i=>(y b).2 i,?_⟩;rcases j with⟨k,rfl,z,S,Q⟩|j;refine .inl ⟨k,rfl,z,fun o a=>?_,Q⟩
 obtain rfl:=List.mem_singleton.1 a;exact S ⟨x,t,l1,d⟩ (aFZ _);exact .inr j
theorem Qm(k b c:Int):fF prog af 121 true [.w (.agg (uD (AP k b c)))] (rf true):=by have M:=Gf (I:=af);refine bD func121 rfl rfl bJ (fun A d a e=>?_);refine aN ?_;refine eQ ?_;refine congrArg rf (?_:(aG.toList==(⟨#[]⟩:l9).toList)=true);exact beq_self_eq_true _
def Vq:jl->Option (Prop×PV)
 |[.w (.agg [.lit (.int .i64 _),.lit (.int .i64 _),.lit (.int .i64 _),.lit (.string s)])]=>some (s=aG,rf true)|_=>none
theorem Jr:d_ prog af 121 (aU true Vq):=by refine aT (aB func121 ah rfl) (fun c p r a b=>?_);unfold Vq at a;split at a;cases a;obtain rfl:=b;exact Qm _ _ _;cases a
theorem Ql(k c:Int):fF prog af 126 true [.w (.agg (uD (AP k 0 c)))] (rf true):=by have M:=Gf (I:=af);refine bD func126 rfl rfl bJ (fun A b a d=>?_);refine aN ?_;refine eQ ?_;refine congrArg rf (?_:(bif (aG.toList==(⟨#[]⟩:l9).toList) then ((0:Int)==0) else false)=true);rw[show (aG.toList==(⟨#[]⟩:l9).toList)=true from beq_self_eq_true _];rfl
def Vp:jl->Option (Prop×PV)
 |[.w (.agg [.lit (.int .i64 _),.lit (.int .i64 b),.lit (.int .i64 _),.lit (.string s)])]=>some (b=0/\s=aG,rf true)|_=>none
theorem Jq:d_ prog af 126 (aU true Vp):=by refine aT (aB func126 ah rfl) (fun c p r a b=>?_);unfold Vp at a;split at a;cases a;obtain⟨rfl,rfl⟩:=b;exact Ql _ _;cases a
theorem Qk(a:Acc)(hb:a.pg=0):fF prog af 129 true [.w (.agg (uD a))] (rf true):=by have M:=Gf (I:=af);refine bD func129 rfl rfl bJ (fun A e d f=>?_);obtain⟨k,b,c,s⟩:=a;obtain rfl:b=0:=hb;refine mQ ?_;exact mP
def Vo:jl->Option (Prop×PV)
 |[.w (.agg [.lit (.int .i64 _),.lit (.int .i64 b),.lit (.int .i64 _),.lit (.string _)])]=>some (b=0,rf true)|_=>none
theorem Jp:d_ prog af 129 (aU true Vo):=by refine aT (aB func129 ah rfl) (fun e p r a d=>?_);unfold Vo at a;split at a;rename_i k b c s;cases a;exact Qk ⟨k,b,c,s⟩ d;cases a
def dcL:List (Nat×Spec):=[(123,aU true X_),(125,aU false Vd),(128,aCB),(131,aCA)]
theorem aER:∀ p∈dcL,d_ prog af p.1 p.2:=by intro p a;simp only[dcL,zg,YP,or_false] at a;rcases a with rfl|rfl|rfl|rfl;exact MS;exact JZ;exact MR;exact bGq
theorem dcM:jq prog af (find dcL):=⟨bG aER,dV⟩
structure CE(h:jd)(b c:Int):Prop where
 ok:Dx h
 bk:b=2\/b=3
 ex:BO h.b b c=true
structure CO(h:jd)(c:Int):Prop where
 ok:Dx h
 ex:0<=c/\c<h.f.length
theorem CO.has{h:jd}{c:Int}(k:CO h c):Aw h.f c=true:=by unfold Aw;rw[rq k.ex.1,rq k.ex.2];rfl
theorem bHt(h:jd)(k b c:Int)(t:pq)(hc:CE h b c):zh prog af 122 false [⟨px,65,p_ h,p_ h⟩] (fun _=>none) none (fun _=>False) [dm (.pt px 0 0),.w (.agg (uD (AP k b c))),.w (.agg (oK t))]
  (.og [.agg (mO ⟨dF (iE h.b b c) t.qg,aG⟩),.one (.lit (.int .i64 0))]):=by
 have M:=dcM;refine kR func122 rfl rfl rfl (fun A a d=>?_);refine mQ ?_;refine IC ?_;change PV.og [.agg [.lit (.int .i64 (if BO (bW h.b.length (dK h.b)) b c=true then dF (iE (bW h.b.length (dK h.b)) b c) t.qg else 0)),.lit (.string aG)],.one (.lit (.int .i64 (if BO (bW h.b.length (dK h.b)) b c=true then 0 else 1)))]=_;rw[aJ,hc.ex,au rfl,au rfl];rfl
theorem NV(h:jd)(k b c:Int)(t:pq)(hc:CE h b c):zh prog af 124 false [⟨px,65,p_ h,p_ { h with b:=um h.b b c t.cut }⟩] (fun _=>none) none (fun _=>False) [dm (.pt px 0 0),.w (.agg (uD (AP k b c))),.w (.agg (oK t))]
  (.og [.agg (mO jY),.one (.lit (.int .i64 0))]):=by
 have M:=dcM;refine kR func124 rfl rfl rfl (fun A a d=>?_);refine bY ?_ ?_;simp;exact⟨hc.ok.nb,hc.ok.nc,hc.ok.val,hc.bk,hc.ex⟩;refine bC (fun hc=>?_) (fun hc=>?_);refine oQ ?_;refine aN ?_;refine bM (⟨[(6,none,dm (.pt 2 0 0)),(7,none,iy 0)],[(px,none,0,.box 65 (p_ { h with b:=um h.b b c t.cut })),(2,none,0,.box 35 (mO jY))]⟩) ?_ ?_ ?_;exact jg;refine .cons (.box ?_) ((fD _));change [PC.sl 1 (um (bW h.b.length (dK h.b)) b c t.cut).length (dK (um (bW h.b.length (dK h.b)) b c t.cut)),.sl 1 h.f.length (uo h.f),.bs 16 h.r]=_;rw[aJ];rfl;exact I_;cases hc
theorem NT(h:jd)(k c:Int)(t:pq)(hc:CO h c):zh prog af 127 false [⟨px,65,p_ h,p_ h⟩] (fun _=>none) none (fun _=>False) [dm (.pt px 0 0),.w (.agg (uD (AP k 0 c))),.w (.agg (oK t))]
  (.og [.agg (mO ⟨0,strOf (sec h.f c)⟩),.one (.lit (.int .i64 0))]):=by
 have M:=dcM;refine kR func127 rfl rfl rfl (fun A a b=>?_);refine mQ ?_;refine IC ?_;change PV.og [.agg [.lit (.int .i64 0),.lit (.string (strOf (sec (iG h.f.length (uo h.f)) c)))],.one (.lit (.int .i64 (if Aw (iG h.f.length (uo h.f)) c=true then 0 else 13)))]=_;rw[aZ,hc.has,au rfl];rfl
def aEO(h:jd)(a:Acc)(_:pq)(cut:Int):St:=⟨[(0,none,dm (.pt px 0 0)),(4,none,dm (.pt 0 0 0)),(6,none,dm (.pt 2 0 0)),(8,none,iy cut)],[(px,none,0,.box 65 (p_ h)),(0,none,0,.box 37 (uD a)),(2,none,0,.box 35 (mO jY))]⟩
theorem Sj(h:jd)(a:Acc)(t:pq)(hc:CO h a.cell)(hs:a.bytes.size=256):zh prog af 130 false [⟨px,65,p_ h,p_ { h with f:=iO h.f a.cell a.bytes (DT t) }⟩] (fun _=>none) none (fun _=>False) [dm (.pt px 0 0),.w (.agg (uD a)),.w (.agg (oK t))]
  (.og [.agg (mO jY),.one (.lit (.int .i64 0))]):=by
 have M:=dcM;refine kR func130 rfl rfl rfl (fun A i j=>?_);refine mQ ?_;refine IB (aEO h a t (DT t)) ?_ ?_;refine lQ (fun hc=>?_) (fun hc=>?_);have b:t.cut=true:=hc;refine fP ?_;refine fun g w c=>⟨rfl,(c.reset (kT:=[0,4,6,8]) (kO:=[px,0,2]) ai b_).same ?_ ?_⟩;refine .cr (.cr (.cr (.cons ?_ .nil)));unfold DT;rw[au b];exact BR;have b:t.cut=false:=hc;refine iH (fun g w c=>⟨rfl,(c.reset (kT:=[0,4,6,8]) (kO:=[px,0,2]) ai b_).same ?_ ?_⟩);refine .cr (.cr (.cr (.cons ?_ .nil)));unfold DT;rw[ay (by rw[b];exact Bool.false_ne_true)];exact BR;have d:=aZ h.f;refine aH ?_ ?_;simp;exact⟨hc.ok.sz,hc.ok.nf⟩;refine lM ?_;rw[d];have e:xC h.f a.cell a.bytes=0:=by unfold xC;rw[hc.has,au rfl,au hs]
 rw[e];refine dU (fun hc=>?_) (fun hc=>?_);refine oQ ?_;refine aN ?_;exact I_;cases hc
def Gm:jl->Option (Acc×pq)
 |[.w (.agg [.lit (.int .i64 k),.lit (.int .i64 b),.lit (.int .i64 c),.lit (.string s)]),.w (.agg [.lit (.bool cut),.lit (.int .i64 d),.lit (.bool a)])]=>some (⟨k,b,c,s⟩,⟨cut,d,a⟩)|_=>none
theorem aPv{ys:jl}{a:Acc}{t:pq}(h:Gm ys=some (a,t)):ys=[.w (.agg (uD a)),.w (.agg (oK t))]:=by unfold Gm at h;split at h;cases h;rfl;cases h
def bHu:dw->jl->Option (Prop×dw×PV):=fun l c=>match BX l,Gm c with
 |some (p,h),some (a,t)=>some (p/\a.bytes=aG/\CE h a.pg a.cell,p_ h,.og [.agg (mO ⟨dF (iE h.b a.pg a.cell) t.qg,aG⟩),.one (.lit (.int .i64 0))])|_,_=>none
def NW:dw->jl->Option (Prop×dw×PV):=fun l c=>match BX l,Gm c with
 |some (p,h),some (a,t)=>some (p/\a.bytes=aG/\CE h a.pg a.cell,p_ { h with b:=um h.b a.pg a.cell t.cut },.og [.agg (mO jY),.one (.lit (.int .i64 0))])
 |_,_=>none
def NU:dw->jl->Option (Prop×dw×PV):=fun l b=>match BX l,Gm b with
 |some (p,h),some (a,_)=>some (p/\a.pg=0/\a.bytes=aG/\CO h a.cell,p_ h,.og [.agg (mO ⟨0,strOf (sec h.f a.cell)⟩),.one (.lit (.int .i64 0))])|_,_=>none
def XP:dw->jl->Option (Prop×dw×PV):=fun l b=>match BX l,Gm b with
 |some (p,h),some (a,t)=>some (p/\a.bytes.size=256/\CO h a.cell,p_ { h with f:=iO h.f a.cell a.bytes (DT t) },.og [.agg (mO jY),.one (.lit (.int .i64 0))])
 |_,_=>none
theorem bAm:d_ prog af 122 (xI 65 bHu):=by
 refine zX (aB func122 ah rfl) (fun l g p x r a j=>?_);unfold bHu at a;cases d:BX l with
 |none=>rw[d] at a;cases a| some q=>
  cases e:Gm g with
  |none=>rw[d,e] at a;cases a|some y=>obtain⟨w,h⟩:=q;obtain⟨⟨k,b,c,s⟩,t⟩:=y;rw[d,e] at a;cases a;obtain⟨o,n,m⟩:=j;have f:s=aG:=n;subst f;rw[aPv e];exact (bHt h k b c t m).FT (fun C u i=>yJ d o i)
theorem bHv:d_ prog af 124 (xI 65 NW):=by
 refine zX (aB func124 ah rfl) (fun l g p x r a j=>?_);unfold NW at a;cases d:BX l with
 |none=>rw[d] at a;cases a| some q=>
  cases e:Gm g with
  |none=>rw[d,e] at a;cases a|some y=>obtain⟨w,h⟩:=q;obtain⟨⟨k,b,c,s⟩,t⟩:=y;rw[d,e] at a;cases a;obtain⟨o,n,m⟩:=j;have f:s=aG:=n;subst f;rw[aPv e];exact (NV h k b c t m).FT (fun C u i=>yJ d o i)
theorem bHs:d_ prog af 127 (xI 65 NU):=by
 refine zX (aB func127 ah rfl) (fun l i p A r a m=>?_);unfold NU at a;cases d:BX l with
 |none=>rw[d] at a;cases a| some q=>
  cases e:Gm i with
  |none=>rw[d,e] at a;cases a|some y=>obtain⟨z,h⟩:=q;obtain⟨⟨k,b,c,s⟩,t⟩:=y;rw[d,e] at a;cases a;obtain⟨w,u,o,n⟩:=m;have g:b=0:=u;have f:s=aG:=o;subst g f;rw[aPv e];exact (NT h k c t n).FT (fun C x j=>yJ d w j)
theorem NQ:d_ prog af 130 (xI 65 XP):=by
 refine zX (aB func130 ah rfl) (fun l f p w r a i=>?_);unfold XP at a;cases d:BX l with
 |none=>rw[d] at a;cases a| some q=>
  cases e:Gm f with
  |none=>rw[d,e] at a;cases a|some y=>obtain⟨u,h⟩:=q;obtain⟨⟨k,b,c,s⟩,t⟩:=y;rw[d,e] at a;cases a;obtain⟨n,m,j⟩:=i;rw[aPv e];exact (Sj h ⟨k,b,c,s⟩ t j m).FT (fun C o g=>yJ d n g)
def Oa:dw:=[.lit .nilFunc,.lit .nilFunc,.lit (.func (.func 121) #[] #[]),.lit (.func (.func 122) #[] #[]),.lit (.func (.func 121) #[] #[]),.lit (.func (.func 124) #[] #[]),
 .lit (.func (.func 126) #[] #[]),.lit (.func (.func 127) #[] #[]),.lit (.func (.func 129) #[] #[]),.lit (.func (.func 130) #[] #[])]
theorem OZ:fF prog af 94 true [] (.w (.agg Oa)):=by
 intro w b a g c
 match a,c with
 |[],_=>refine (aRh w).mono ?_;rintro e f ⟨rfl,d⟩;refine⟨_,rfl,d,.w (.agg ?_)⟩;exact .cons (xs:=[_]) (.lit rfl) (.cons (xs:=[_]) (.lit rfl) (.cons (xs:=[_]) (.lit rfl) (.cons (xs:=[_]) (.lit rfl) (.cons (xs:=[_]) (.lit rfl) (.cons (xs:=[_]) (.lit rfl) (.cons (xs:=[_]) (.lit rfl) (.cons (xs:=[_]) (.lit rfl) (.cons (xs:=[_]) (.lit rfl) (.cons (xs:=[_]) (.lit rfl) .nil)))))))))
def Oc:jl->Option (Prop×PV)
 |[]=>some (True,.w (.agg Oa))|_=>none
theorem bJn:d_ prog af 94 (aU true Oc):=by refine aT (aB func94 ah rfl) (fun b p r a c=>?_);unfold Oc at a;split at a;cases a;exact OZ;cases a
def ddL:List (Nat×Spec):=[(94,aU true Oc),(121,aU true Vq),(122,xI 65 bHu),(124,xI 65 NW),
 (126,aU true Vp),(127,xI 65 NU),(129,aU true Vo),(130,xI 65 XP)]
theorem aEQ:∀ p∈ddL,d_ prog af p.1 p.2:=by intro p a;simp only[ddL,zg,YP,or_false] at a;rcases a with rfl|rfl|rfl|rfl|rfl|rfl|rfl|rfl;exact bJn;exact Jr;exact bAm;exact bHv;exact Jq;exact bHs;exact Jp;exact NQ
theorem ddM:jq prog af (find ddL):=⟨bG aEQ,dV⟩
def GK(x:jd×qj×Int):PV:=.og [.agg (p_ x.1),.agg (mO x.2.1),.one (.lit (.int .i64 x.2.2))]
def T_(_ b:jd)(_:Acc)(t:pq)(r:qj):St:=⟨[(5,none,dm (.pt 2 0 0)),(6,none,dm (.pt 3 0 0)),(7,none,dm (.pt 4 0 0)),(10,none,dm (.pt 4001 0 0)),(11,none,dm (.pt 5011 0 0)),(12,none,iy 0)],[(2,none,0,.box 104 (oK t)),(3,none,0,.box 65 [.lit (.slice none 0 0),.lit (.slice none 0 0),.bs 16 (PR 16 0)]),(4,none,0,.box 35 (mO jY)),(4001,none,0,.box 65 (p_ b)),(5011,none,0,.box 35 (mO r))]⟩
theorem Sv(h:jd)(b c:Int)(t:pq)(e:CE h b c)  : fF prog af 66 false [.w (.agg (p_ h)),.w (.agg (uD (AP 1 b c))),.w (.agg (oK t))] (GK (dM h (AP 1 b c) t)):=by
 have M:=ddM;have g:=aUb (t:=t) (show (AP 1 b c).kind=1 from rfl) rfl e.ex;rw[g];refine bD func66 rfl rfl bJ (fun A j i k=>?_);refine aN ?_;refine nZ ?_;refine aH ?_ ?_;simp;exact⟨fun _ _=>⟨(by decide:(0:Int)<=1),(by decide:(1:Int)<5)⟩,fun _ _=>rfl⟩;refine dU (fun d=>?_) (fun d=>?_);simp[AP] at d;refine iK ?_;refine aH ?_ ?_;simp;exact⟨⟨(by decide:(0:Int)<=1),(by decide:(1:Int)<5)⟩,rfl,e⟩;refine bM (T_ h h (AP 1 b c) t ⟨dF (iE h.b b c) t.qg,aG⟩) ?_ ?_ ?_;exact jg
 ·refine .cb (.cb (.cb (.cons (.box ?_) (.cons (.box ?_) .nil))));change p_ ⟨bW h.b.length (dK h.b),iG h.f.length (uo h.f),h.r⟩=_;rw[aJ,aZ]
  ·change mO ⟨dF (iE (bW h.b.length (dK h.b)) b c) t.qg,aG⟩=_
   first|rw[aJ]|rw[aZ]|rfl
 refine bC (fun d=>?_) (fun d=>?_);cases d;refine rU (fun d=>?_) (fun d=>?_)
 ·have a:t.cut=true:=d;refine oQ ?_;refine eQ ?_
  try rw[a]
  rfl
 ·have a:t.cut=false:=d;refine iK ?_;refine kJ ?_
  try rw[a]
  rfl
theorem Su(h:jd)(b c:Int)(t:pq)(e:CE h b c)  : fF prog af 66 false [.w (.agg (p_ h)),.w (.agg (uD (AP 2 b c))),.w (.agg (oK t))] (GK (dM h (AP 2 b c) t)):=by
 have M:=ddM;have g:=aUa (t:=t) (show (AP 2 b c).kind=2 from rfl) rfl e.ex;rw[g];refine bD func66 rfl rfl bJ (fun A j i k=>?_);refine aN ?_;refine nZ ?_;refine aH ?_ ?_;simp;exact⟨fun _ _=>⟨(by decide:(0:Int)<=2),(by decide:(2:Int)<5)⟩,fun _ _=>rfl⟩;refine dU (fun d=>?_) (fun d=>?_);simp[AP] at d;refine iK ?_;refine aH ?_ ?_;simp;exact⟨⟨(by decide:(0:Int)<=2),(by decide:(2:Int)<5)⟩,rfl,e⟩;refine bM (T_ h ⟨um h.b b c t.cut,h.f,h.r⟩ (AP 2 b c) t jY) ?_ ?_ ?_;exact jg
 ·refine .cb (.cb (.cb (.cons (.box ?_) (.cons (.box ?_) .nil))));change p_ ⟨um (bW h.b.length (dK h.b)) b c t.cut,iG h.f.length (uo h.f),h.r⟩=_;rw[aJ,aZ]
  ·change mO jY=_
   first|rw[aJ]|rw[aZ]|rfl
 refine bC (fun d=>?_) (fun d=>?_);cases d;refine rU (fun d=>?_) (fun d=>?_)
 ·have a:t.cut=true:=d;refine oQ ?_;refine eQ ?_
  try rw[a]
  rfl
 ·have a:t.cut=false:=d;refine iK ?_;refine kJ ?_
  try rw[a]
  rfl
theorem Sr(h:jd)(c:Int)(t:pq)(e:CO h c)  : fF prog af 66 false [.w (.agg (p_ h)),.w (.agg (uD (AP 3 0 c))),.w (.agg (oK t))] (GK (dM h (AP 3 0 c) t)):=by
 have M:=ddM;have g:=sV (t:=t) (show (AP 3 0 c).kind=3 from rfl) ⟨rfl,rfl⟩ e.ex;rw[g];refine bD func66 rfl rfl bJ (fun A j i k=>?_);refine aN ?_;refine nZ ?_;refine aH ?_ ?_;simp;exact⟨fun _ _=>⟨(by decide:(0:Int)<=3),(by decide:(3:Int)<5)⟩,fun _ _=>⟨rfl,rfl⟩⟩;refine dU (fun d=>?_) (fun d=>?_);simp[AP] at d;refine iK ?_;refine aH ?_ ?_;simp;exact⟨⟨(by decide:(0:Int)<=3),(by decide:(3:Int)<5)⟩,rfl,rfl,e⟩;refine bM (T_ h h (AP 3 0 c) t ⟨0,strOf (sec h.f c)⟩) ?_ ?_ ?_;exact jg
 ·refine .cb (.cb (.cb (.cons (.box ?_) (.cons (.box ?_) .nil))));change p_ ⟨bW h.b.length (dK h.b),iG h.f.length (uo h.f),h.r⟩=_;rw[aJ,aZ]
  ·change mO ⟨0,strOf (sec (iG h.f.length (uo h.f)) c)⟩=_
   first|rw[aJ]|rw[aZ]|rfl
 refine bC (fun d=>?_) (fun d=>?_);cases d;refine rU (fun d=>?_) (fun d=>?_)
 ·have a:t.cut=true:=d;refine oQ ?_;refine eQ ?_
  try rw[a]
  rfl
 ·have a:t.cut=false:=d;refine iK ?_;refine kJ ?_
  try rw[a]
  rfl
theorem Sm(h:jd)(c:Int)(x:l9)(t:pq)(g:CO h c)(hs:x.size=256):fF prog af 66 false [.w (.agg (p_ h)),.w (.agg (uD (⟨4,0,c,x⟩:Acc))),.w (.agg (oK t))] (GK (dM h (⟨4,0,c,x⟩:Acc) t)):=by
 have M:=ddM;have i:=sU (h:=h) (a:=⟨4,0,c,x⟩) (t:=t) rfl rfl g.ex hs;rw[i];refine bD func66 rfl rfl bJ (fun A k j l=>?_);refine aN ?_;refine nZ ?_;refine aH ?_ ?_
 ·simp
  done
 refine dU (fun e=>?_) (fun e=>?_);simp[] at e;refine iK ?_;refine aH ?_ ?_;simp;exact⟨hs,g⟩;refine bM (T_ h ⟨h.b,iO h.f c x (DT t),h.r⟩ (⟨4,0,c,x⟩:Acc) t jY) ?_ ?_ ?_;exact jg
 ·refine .cb (.cb (.cb (.cons (.box ?_) (.cons (.box ?_) .nil))));change p_ ⟨bW h.b.length (dK h.b),iO (iG h.f.length (uo h.f)) c x (DT t),h.r⟩=_;rw[aJ,aZ]
  ·change mO jY=_
   first|rw[aJ]|rw[aZ]|rfl
 refine bC (fun e=>?_) (fun e=>?_);cases e;refine rU (fun e=>?_) (fun e=>?_)
 ·have d:t.cut=true:=e;refine oQ ?_;refine eQ ?_
  try rw[d]
  rfl
 ·have d:t.cut=false:=e;refine iK ?_;refine kJ ?_
  try rw[d]
  rfl
structure EP(h:jd)(a:Acc):Prop where
 PG:qc h
 good:yS a
theorem Sl{h:jd}{a:Acc}(g:EP h a)(t:pq):fF prog af 66 false [.w (.agg (p_ h)),.w (.agg (uD a)),.w (.agg (oK t))] (GK (dM h a t)):=by obtain⟨k,b,c,s⟩:=a;obtain⟨d,g⟩:=g;have n:=d.f;rcases g with⟨j,e,l,i⟩|⟨⟨j,i⟩|⟨j,i⟩,e,l⟩;have m:=d.ex e l;dsimp only at j e l i m;subst i;rcases j with rfl|rfl;exact Sv h b c t ⟨d.ok,e,m⟩;exact Su h b c t ⟨d.ok,e,m⟩;dsimp only at j e l i;subst j i e;exact Sr h c t ⟨d.ok,l.1,a_⟩;dsimp only at j e l i;subst j e;exact Sm h c s t ⟨d.ok,l.1,a_⟩ i
def ddG:jl->Option (Prop×PV)
 |.w (.agg l)::ys=>(match BX l,Gm ys with
  |some (p,h),some (a,t)=>some (p/\EP h a,GK (dM h a t))|_,_=>none)
 |_=>none
theorem Nq:d_ prog af 66 (aU false ddG):=by
 refine aT (aB func66 ah rfl) (fun s p r b e=>?_);unfold ddG at b;split at b;rename_i l f;cases c:BX l with
 |none=>rw[c] at b;cases b| some q=>
  cases d:Gm f with
  |none=>rw[c,d] at b;cases b| some y=>
   obtain⟨u,h⟩:=q;obtain⟨a,t⟩:=y;rw[c,d] at b;cases b;rw[aPv d]
   exact (Sl e.2 t).args fun C g i=>by
    match g,i with
    | [x,y,z],⟨o,n,m,_⟩=>
     refine⟨?_,n,m,trivial⟩;cases o with
     |w k=>cases k with
      |agg j=>exact .w (.agg (yJ c e.1 j))
 cases b
def yg(F:List pq):Nat->dw:=fun i=>oK (F.getD i AA)
def tV(F:List pq):PC:=.sl 3 F.length (yg F)
def cutV:ag:=.iface 139 (.agg #[])
def pM(F:List pq)(h a:jd)(i:Nat):List Ob:=[⟨900001,3,[.lit (.int .i64 i)],[.lit (.int .i64 ((i+1:Nat):Int))]⟩,⟨900002,68,[tV F],[tV F]⟩,⟨900003,65,p_ h,p_ a⟩]
def Xv(x:jd×qj×Int)(t:pq):Sum PV (List Yr):=if t.cut then .inr [{ v:=cutV,recovered:=false }] else .inl (.w (.agg (mO x.2.1)))
def aDQ:List (Nat×Spec):=[(66,aU false ddG)]
theorem WV:∀ p∈aDQ,d_ prog af p.1 p.2:=by intro p a;obtain rfl:=List.mem_singleton.1 a;exact Nq
theorem aMD:jq prog af (find aDQ):=⟨bG WV,dV⟩
def lvO(F:List pq)(h:jd)(i:Int)(a:Acc):Wr:=[(900001,none,0,.box 3 [.lit (.int .i64 i)]),(900002,none,0,.box 68 [tV F]),(900003,none,0,.box 65 (p_ h)),(0,none,0,.box 37 (uD a)),(1,none,0,.box 35 (mO jY))]
def lvT:List (Nat×mi×PV):=[(1,none,dm (.pt 900001 0 0)),(2,none,dm (.pt 900002 0 0)),(3,none,dm (.pt 900003 0 0)),(4,none,dm (.pt 0 0 0)),(5,none,dm (.pt 1 0 0)),(6,none,dm (.pt 1000 0 0))]
def UZ(F:List pq)(h:jd)(i:Int)(a:Acc)(t:pq):St:=⟨lvT,(1000,none,0,.box 104 (oK t))::lvO F h i a⟩
def aDT(F:List pq)(h b:jd)(i:Int)(a:Acc)(t:pq)(r:qj):St:=⟨(7,none,dm (.pt 5008 0 0))::(8,none,dm (.pt 5009 0 0))::(9,none,iy 0)::lvT,(5008,none,0,.box 65 (p_ b))::(5009,none,0,.box 35 (mO r))::(1000,none,0,.box 104 (oK t))::lvO F h i a⟩
def aDS(F:List pq)(b:jd)(i:Int)(a:Acc)(t:pq)(r:qj):St:=⟨(8,none,dm (.pt 5009 0 0))::lvT,(5009,none,0,.box 35 (mO r))::(1000,none,0,.box 104 (oK t))::lvO F b i a⟩
theorem MH{h:jd}{a:Acc}(g:EP h a)(t:pq):(dM h a t).2.2=0:=by obtain⟨d,g⟩:=g;have j:=d.f;rcases g with⟨b|b,i,e,c⟩|⟨⟨b,c⟩|⟨b,c⟩,i,e⟩;rw[aUb b c (d.ex i e)];rw[aUa b c (d.ex i e)];rw[sV b ⟨c,i⟩ ⟨e.1,a_⟩];rw[sU b i ⟨e.1,a_⟩ c]
theorem gy.forget{A:lh}{s:St}{a c:Act}{w:ae}{env:Env}(h:gy A s a w env)(h1:c.tmps.size=a.tmps.size)(h2:c.defers=a.defers):gy A ⟨[],s.o⟩ c w env:={ iq:=h.iq,size:=h1.trans h.size,dom:=h.dom,jv:=h.jv,live:=h.live,inj:=h.inj,tmps:=fun t g pv b=>(by cases b),defers:=h2.trans h.defers,und:=fun t pv b=>(by cases b),n_:=h.n_,dev:=h.dev }
theorem wp_cut(e d:Nat)(ops:Array Oper)(h g f:String)(m l k:Array Edge)(b:ops=#[{ dst:=some 33,op:=Op.build 139 #[],type:=139,pos:=h,after:=m,guard:=none },{ dst:=some 34,op:=Op.makeInterface 139 (Operand.tmp 33),type:=e,pos:=g,after:=l,guard:=none },{ dst:=none,op:=Op.panic (Operand.tmp 34),type:=d,pos:=f,after:=k,guard:=none }])
  {a:Act} {w:ae} {Q:Exit->Act->je} (i:a.tmps.size=36) (j:∀ c,c.tmps.size=a.tmps.size->c.defers=a.defers->Q (.panic [{ v:=cutV,recovered:=false }]) c w):(Code.region 9 ops false).wp prog Q a w:=by
 subst b;apply wp_region;simp[wpOps,go_sem,Region.wanted];refine .inl (.inl (.inl ?_));rw[au a_,au a_];simp[Instr.panic];exact j _ b_ rfl
theorem aZs(F:List pq)(h:jd)(i:Nat)(c:Acc)(g:EP h c)(H:i<=1000000)(_:F.length<=1000000):aHE prog af 65 (pM F h (dM h c (dP F i)).1 i)
  [.w (.agg (uD c)),dm (.pt 900001 0 0),dm (.pt 900002 0 0),dm (.pt 900003 0 0)] (Xv (dM h c (dP F i)) (dP F i)):=by
 have M:=aMD;have j:=MH g (dP F i);refine SE func65 rfl rfl rfl (fun A t E=>?_);refine mQ ?_;refine bC (fun e=>?_) (fun e=>?_)
 ·have u:i<F.length:=by have:=of_decide_eq_true e;omega
  refine aX M E t (ai) ah ?_ ?_;simp;exact u;change jw _ _ _ _ _;refine aHz (UZ F h (i:Int) c (dP F i)) ?_;refine bY ?_ ?_;simp;exact g;refine bM (aDT F h (dM h c (dP F i)).1 ((i+1:Nat):Int) c (dP F i) (dM h c (dP F i)).2.1) ?_ ?_ ?_;refine .cr (.cr (.cons ?_ ((iP _))));change iy (dM ⟨bW h.b.length (dK h.b),iG h.f.length (uo h.f),h.r⟩ c (dP F i)).2.2=_;rw[aJ,aZ,j];refine .cons (.box ?_) (.cons (.box ?_) (.cb (.cons (.box ?_) ((fD _)))));change p_ (dM ⟨bW h.b.length (dK h.b),iG h.f.length (uo h.f),h.r⟩ c (dP F i)).1=_;rw[aJ,aZ];change mO (dM ⟨bW h.b.length (dK h.b),iG h.f.length (uo h.f),h.r⟩ c (dP F i)).2.1=_;rw[aJ,aZ];rw[fH i a_];generalize (dM h c (dP F i)).1=C at j ⊢;refine bC (fun e=>?_) (fun e=>?_)
  ·refine oQ ?_;refine aHz (aDS F C ((i+1:Nat):Int) c (dP F i) (dM h c (dP F i)).2.1) ?_;refine bC (fun e=>?_) (fun e=>?_)
   ·have d:(dP F i).cut=true:=e;have m:Xv (dM h c (dP F i)) (dP F i)=.inr [{ v:=cutV,recovered:=false }]:=au d;intro a w l y;obtain⟨p,n⟩:=l;refine wp_cut _ _ _ _ _ _ _ _ _ rfl (by rw[n.size,t];rfl) (fun G B s=>?_);refine⟨s.trans n.defers,m,⟨[],_⟩,?_,p,n.forget B s⟩;intro o k;simp only[pM,zg,YP,or_false] at k
    rcases k with rfl|rfl|rfl<;>exact⟨_,rfl,dN rfl⟩
   ·have d:¬(dP F i).cut=true:=fun q=>by
     have z:(dP F i).cut=false:=e;rw[z] at q;cases q
    have m:Xv (dM h c (dP F i)) (dP F i)=.inl (.w (.agg (mO (dM h c (dP F i)).2.1))):=ay d;refine iK ?_;refine bI (fun a w l=>⟨.inr rfl,_,m,_,⟨?_,?_⟩,l⟩);refine aO (ai) b_ ai ai ?_;rfl
    ·intro o k;simp only[pM,zg,YP,or_false] at k
     rcases k with rfl|rfl|rfl<;>exact⟨_,rfl,dN rfl⟩
  cases e
 ·have x:F.length<=i:=by have:=of_decide_eq_false e;omega
  have D:dP F i=AA:=by unfold dP;rw[zG,YQ x];rfl
  refine jD ?_;refine bM (UZ F h (i:Int) c (dP F i)) ?_ ?_ ?_;exact jg;exact .cons (.box (by rw[D];rfl)) ((fD _));refine bY ?_ ?_;simp;exact g;refine bM (aDT F h (dM h c (dP F i)).1 ((i+1:Nat):Int) c (dP F i) (dM h c (dP F i)).2.1) ?_ ?_ ?_;refine .cr (.cr (.cons ?_ ((iP _))));change iy (dM ⟨bW h.b.length (dK h.b),iG h.f.length (uo h.f),h.r⟩ c (dP F i)).2.2=_;rw[aJ,aZ,j];refine .cons (.box ?_) (.cons (.box ?_) (.cb (.cons (.box ?_) ((fD _)))));change p_ (dM ⟨bW h.b.length (dK h.b),iG h.f.length (uo h.f),h.r⟩ c (dP F i)).1=_;rw[aJ,aZ];change mO (dM ⟨bW h.b.length (dK h.b),iG h.f.length (uo h.f),h.r⟩ c (dP F i)).2.1=_;rw[aJ,aZ];rw[fH i a_];generalize (dM h c (dP F i)).1=C at j ⊢;refine bC (fun e=>?_) (fun e=>?_)
  ·refine oQ ?_;refine aHz (aDS F C ((i+1:Nat):Int) c (dP F i) (dM h c (dP F i)).2.1) ?_;refine bC (fun e=>?_) (fun e=>?_)
   ·have d:(dP F i).cut=true:=e;have m:Xv (dM h c (dP F i)) (dP F i)=.inr [{ v:=cutV,recovered:=false }]:=au d;intro a w l y;obtain⟨p,n⟩:=l;refine wp_cut _ _ _ _ _ _ _ _ _ rfl (by rw[n.size,t];rfl) (fun G B s=>?_);refine⟨s.trans n.defers,m,⟨[],_⟩,?_,p,n.forget B s⟩;intro o k;simp only[pM,zg,YP,or_false] at k
    rcases k with rfl|rfl|rfl<;>exact⟨_,rfl,dN rfl⟩
   ·have d:¬(dP F i).cut=true:=fun q=>by
     have z:(dP F i).cut=false:=e;rw[z] at q;cases q
    have m:Xv (dM h c (dP F i)) (dP F i)=.inl (.w (.agg (mO (dM h c (dP F i)).2.1))):=ay d;refine iK ?_;refine bI (fun a w l=>⟨.inr rfl,_,m,_,⟨?_,?_⟩,l⟩);refine aO (ai) b_ ai ai ?_;rfl
    ·intro o k;simp only[pM,zg,YP,or_false] at k
     rcases k with rfl|rfl|rfl<;>exact⟨_,rfl,dN rfl⟩
  cases e
def kS(T:bi)(O:qy):jc->Option qj:=fun l=>match l.getLast? with
 |none=>some ⟨(T:Int)+1,aG⟩|some c=>match decide (c.kind = -1) with
  |true=>none|false=>O l
theorem aJb(T:bi)(O:qy)(l:jc)(c:Acc):kS T O (l++[c])=match decide (c.kind = -1) with|true=>none|false=>O (l++[c]):=by unfold kS;rw[List.getLast?_concat]
theorem aLr(T:bi)(O:qy)(l:jc){c:Acc}(h:c.kind ≠ -1):kS T O (l++[c])=O (l++[c]):=by rw[aJb,Bg h]
theorem aWv(T:bi)(O:qy):Zr T (kS T O):=⟨rfl,fun l e=>by rw[aJb];rfl⟩
def Y4(a:List Yr):Prop:=∀ e∈a,e.goexit=false
theorem aAz{v:ag}{a:List Yr}(h:Y4 a):settle (.panicking ({ v:=v,recovered:=true }::a))=.returning:=by
 have d:a.dropWhile (!·.goexit)=[]:=by
  induction a with
  |nil=>rfl|cons e l b=>rw[List.dropWhile_cons_of_pos (by rw[h e MM];rfl)];exact b (fun x c=>h x (VM _ c))
 unfold settle;dsimp only;rw[d]
def rO(l:jc):Prop:=∀ c∈l,c.kind ≠ -1
theorem rO.app{l:jc}{c:Acc}(h:rO l)(hc:c.kind ≠ -1):rO (l++[c]):=fun x a=>by
 rcases List.mem_append.1 a with a|a;exact h x a
 obtain rfl:=List.mem_singleton.1 a;exact hc
theorem bAh(T:bi)(O:qy){l:jc}(h:rO l)(h0:l≠[]):kS T O l=O l:=by obtain⟨m,c,rfl⟩:∃ m c,l=m++[c]:=⟨_,_,(List.dropLast_concat_getLast h0).symm⟩;exact aLr T O m (h c b_)
def fZ(T:bi)(D:Dv):Dv where
 hd:=D.hd
 O:=kS T D.O
 S:=D.S
 inv:=fun l X w=>D.inv l X w/\kS T D.O l≠none/\rO l
 pan:=fun l X w chain=>(D.pan l X w chain/\rO l/\l≠[])\/∃ l0 e,l=l0++[sQ e]/\rO l0/\D.inv l0 X w/\chain=aGc T e
 one:=D.one
 yc:=D.yc
 notS:=fun l X w b h=>D.notS l X w b h.1
 grow:=fun l X Y w w' h hc hy=>⟨D.grow l X Y w w' h.1 hc hy,h.2⟩
theorem aJy{P:dE}{D:Dv}{T:bi}{dn a:jc->Prop}(h:oz P D a)(hs:∀ l c,rO (l++[c])->dn (l++[c])->a (l++[c])):oz P (fZ T D) dn:=
 ⟨
  fun l X w d=>by
  obtain⟨F,f,x,u,t⟩:=h.step l X w d.1;refine⟨F,f,x,u,fun c m q=>?_⟩;have g:kS T D.O (l++[c])=D.O (l++[c]):=aLr T D.O l m;have hN:rO (l++[c]):=d.2.2.app m;refine (t c m fun p=>hs l c hN (q (g.trans p))).mono ?_;rintro e A ⟨n,⟨r,i,k,j⟩|⟨b,i,k,j⟩⟩;exact⟨n,.inl ⟨r,g.trans i,k,j,by rw[g,i];simp,hN⟩⟩
  exact⟨n,.inr ⟨b,g.trans i,k,.inl ⟨j,hN,b_⟩⟩⟩,
 fun o s l X w d=>by
  have z:(T:Int)+1=(o:Int)+1:=congrArg qj.val (Option.some.inj s.1);have y:T=o:=Int.ofNat.inj ((Int.add_left_inj 1).1 z);subst y
  exact⟨d.2.1,fun e=>.inr ⟨l,e,rfl,d.2.2,d.1,rfl⟩⟩⟩
theorem uH{D:Dv}{T:bi}(h:∀ l X Y w c a,D.pan l X w a->gu X w c->(∀ b,Y b->X b)->D.pan l Y c a):∀ l X Y w c a,(fZ T D).pan l X w a->gu X w c->(∀ b,Y b->X b)->(fZ T D).pan l Y c a:=by rintro l X Y w c a (⟨d,hN⟩|⟨f,e,d,hN,m,k⟩) i g;exact .inl ⟨h l X Y w c a d i g,hN⟩;exact .inr ⟨f,e,d,hN,D.grow f X Y w c m i (fun b j=>.inl (g b j)),k⟩
def aj.catch{b:Type}(k:Int->b):aj b->aj b
 |.ret a=>.ret a|.ask c g=>match decide (c.kind = -1) with
  |true=>.ret (k c.pg)|false=>.ask c fun r=>aj.catch k (g r)
theorem pW{a:Type}(k:Int->a){c:Acc}(g:qj->aj a)(h:c.kind ≠ -1):aj.catch k (.ask c g)=.ask c fun r=>aj.catch k (g r):=by
 conv=>lhs;unfold aj.catch
 rw[Bg h]
theorem bAw{a:Type}(k:Int->a)(e:Int)(g:qj->aj a):aj.catch k (.ask (sQ e) g)=.ret (k e):=rfl
theorem aGx(T:bi)(O:qy)(l:jc){c:Acc}(h:c.kind ≠ -1):ans (kS T O) (l++[c])=ans O (l++[c]):=by unfold ans;rw[aLr T O l h]
theorem OA{b:Type}(k:Int->b)(T:bi)(O:qy)(p:aj b):∀ l,rO (go (kS T O) p l).2->go O (aj.catch k p) l=go (kS T O) p l:=by
 induction p with
 |ret a=>intro l _;rfl|ask c g e=>intro l h;rw[xM] at h ⊢;have d:c.kind ≠ -1:=h c ((vO _ _ _).subset b_);rw[pW k g d,xM,<-aGx T O l d];exact e _ _ h
theorem aQt{d:Type}(k:Int->d)(T:bi)(O:qy)(p:aj d):∀ l m,l <+: m->rO m->m <+: (go (kS T O) p l).2->m <+: (go O (aj.catch k p) l).2:=by
 induction p with
 |ret a=>intro l m _ _ h;exact h| ask c g j=>
  intro l m o h b;rw[xM] at b;obtain⟨t,rfl⟩:=o;cases t with
  |nil=>rw[Lt];exact vO _ _ _| cons x t=>
   have n:x=c:=by have q:=aGg (vO (kS T O) (g (ans (kS T O) (l++[c]))) (l++[c])) b b_;obtain⟨u,e⟩:=q;rw[Pi] at e;have i:=aFR e;simp only[aAT,List.cons.injEq] at i;exact i.1.symm
   subst n;have f:x.kind ≠ -1:=h x b_;rw[pW k g f,xM,<-aGx T O l f];exact j _ _ _ (by rw[show l++x::t=(l++[x])++t from b_];exact ZG _ _) h b
theorem bIp{m:Type}(k:Int->m)(T:bi)(O:qy)(p:aj m):∀ l b e,l <+: b->rO b->b++[sQ e] <+: (go (kS T O) p l).2->go O (aj.catch k p) l=(k e,b):=by
 induction p with
 |ret a=>intro l b e j _ d;have w:=j.length_le;have o:=d.length_le;rw[gp,ZV] at o;have s:(go (kS T O) (aj.ret a) l).2=l:=rfl;rw[s] at o;omega| ask c g q=>
  intro l b e j f d;rw[xM] at d;obtain⟨t,rfl⟩:=j;have i:=aGg (vO (kS T O) (g (ans (kS T O) (l++[c]))) (l++[c])) d b_;cases t with
  |nil=>
   rw[Lt] at i d ⊢;have:=i.eq_of_length b_;have h:c=sQ e:=by simpa using this
   rw[h,bAw];rfl
  | cons x t=>
   have r:x=c:=by obtain⟨u,n⟩:=i;rw[Pi,Pi] at n;have f:=aFR n;simp only[yz,List.cons.injEq] at f;exact f.1.symm
   subst r;have h:x.kind ≠ -1:=f x b_;rw[pW k g h,xM,<-aGx T O l h];exact q _ _ _ _ (by rw[show l++x::t=(l++[x])++t from b_];exact ZG _ _) f d
def Zj:Nat:=2
def Zi:Nat:=0
def P6(K X:qo)(a c gH:Nat):Nat->Prop:=fun b=>K b/\¬X b/\b≠a/\b≠c/\b≠gH
structure DF(K:qo)(gN gF gH:Nat)(F:List pq)(h0:jd)(l:jc)(X:qo)(w:ae):Prop where
 bn:f_ w gN 3 #[.int .i64 (l.length:Int)]
 bf:∃ cs,f_ w gF 68 cs/\RL { w:=w,ok:=P6 K X gN gF gH,env:=fun _=>none } [tV F] cs.toList
 bh:∃ cs,f_ w gH 65 cs/\RL { w:=w,ok:=P6 K X gN gF gH,env:=fun _=>none } (p_ (Ap F h0 l 0)) cs.toList
 ne:gN≠gF/\gN≠gH/\gF≠gH
 good:∀ c∈l,yS c
 mine:∀ b,X b->b<w.heap.size/\b≠gN/\b≠gF/\b≠gH
 mem:af w
 tab:∀ b,b=Zj\/b=Zi->¬X b/\b≠gN/\b≠gF/\b≠gH
 up:∀ b,w.heap.size<=b->K b
theorem aIc{w:ae}(h:af w){b:Nat}(hb:b=Zj\/b=Zi):b<w.heap.size:=by rcases hb with rfl|rfl;exact lt_of_cell (h.k 0 _ rfl);exact lt_of_cell (h.h 0 _ rfl)
theorem aRy{S:qo}{w w':ae}(h:af w)(hc:gu S w w')(hS:∀ b,b=Zj\/b=Zi->¬S b):af w':=h.iq hc (hS _ (.inl rfl)) (hS _ (.inr rfl))
theorem DF.grow{K:qo}{i j gH:Nat}{F:List pq}{h0:jd}{l:jc}{X Y:qo}{w w':ae}(h:DF K i j gH F h0 l X w)(hc:gu X w w')(m:∀ b,Y b->X b\/(w.heap.size<=b/\b<w'.heap.size)):DF K i j gH F h0 l Y w':=by
 have k:∀ g,(g=i\/g=j\/g=gH)->¬X g:=fun g x t=>by have:=(h.mine g t).2;rcases x with rfl|rfl|rfl;exact this.1 rfl;exact this.2.1 rfl;exact this.2.2 rfl
 have f:∀ {p:dw} {n:ji},RL { w:=w,ok:=P6 K X i j gH,env:=fun _=>none } p n->RL { w:=w',ok:=P6 K Y i j gH,env:=fun _=>none } p n:=fun u=>u.le ⟨hc.size,fun b a c=>⟨⟨c.1,fun e=>(m b e).elim c.2.1 (fun d=>by have y:b<w.heap.size:=a;omega),c.2.2⟩,hc.block b a c.2.1⟩,fun _ _ _ h=>by cases h⟩;obtain⟨A,q,s⟩:=h.bf;obtain⟨z,o,r⟩:=h.bh;have B:=h.bn.lt;have D:=q.lt;have C:=o.lt;refine⟨h.bn.iq hc (k _ (.inl rfl)),⟨A,q.iq hc (k _ (.inr (.inl rfl))),f s⟩,⟨z,o.iq hc (k _ (.inr (.inr rfl))),f r⟩,h.ne,h.good,fun b a=>?_,aRy h.mem hc (fun b a=>(h.tab b a).1),fun b a=>⟨fun e=>?_,(h.tab b a).2⟩,fun b a=>h.up b (PP hc.size a)⟩;rcases m b a with d|d
 exact⟨YX (h.mine b d).1 hc.size,(h.mine b d).2⟩;exact⟨d.2,a_,a_,a_⟩;rcases m b e with d|d;exact (h.tab b a).1 d;have:=aIc h.mem a;omega
def O0:List Yr:=[{ v:=cutV,recovered:=false }]
def Tq(K:qo)(gN gF gH:Nat)(F:List pq)(h0:jd):Dv where
 hd:=.func (.func 65) #[] #[.pointer (some ⟨gN,0,none⟩),.pointer (some ⟨gF,0,none⟩),.pointer (some ⟨gH,0,none⟩)]
 O:=oI F h0
 S:=fun b=>b=gN\/b=gF\/b=gH
 inv l X w:=DF K gN gF gH F h0 l X w/\Fe F l.length
 pan l X w chain:=(∃ older,Y4 older/\chain={ v:=cutV,recovered:=false }::older)/\DF K gN gF gH F h0 l X w/\∃ l' c,l=l'++[c]/\Fe F l'.length/\(dP F l'.length).cut=true
 one:=rfl
 yc:=rfl
 notS:=fun l X w b h hx hs=>by
  have:=(h.1.mine b hx).2;rcases hs with rfl|rfl|rfl;exact this.1 rfl;exact this.2.1 rfl;exact this.2.2 rfl
 grow:=fun l X Y w w' h hc hy=>⟨h.1.grow hc hy,h.2⟩
theorem bFv(K:qo)(d e gH:Nat)(F:List pq)(h0:jd):∀ l X Y w c a,(Tq K d e gH F h0).pan l X w a->gu X w c->(∀ b,Y b->X b)->(Tq K d e gH F h0).pan l Y c a:=fun _ _ _ _ _ _ h g f=>⟨h.1,h.2.1.grow g (fun b i=>.inl (f b i)),h.2.2⟩
theorem aZv{α:Type}(K:qo)(m n gH:Nat)(F:List pq)(h0:jd)(hF:F.length<=1000000)(hd:qc h0)(p:aj α)(hp:aj.YG p)(hl:(go (oI F h0) p []).2.length<=1000000) :
  oz prog (Tq K m n gH F h0) (fun h=>[] <+: h/\h <+: (go (oI F h0) p []).2):=by
 refine⟨?_,fun T hT=>absurd hT.1 (by intro h;have:=congrArg (·.map qj.val) h;simp[Tq,oI,jY] at this;omega)⟩;intro l X w ⟨f,hN⟩;refine⟨_,_,rfl,(fun args w=>ah),fun c _ V=>?_⟩;have W:=aIp F h0 l c
 have L:yS c:=by
  by_cases g:yS c;exact g
  ·have h1:(Tq K m n gH F h0).O (l++[c])=none:=by
    show oI F h0 (l++[c])=none;rw[W,au (.inr (.inl g))]
   exact MK (oI F h0) p hp [] (fun _ h=>by cases h) c ((V h1).2.subset b_)
 have N:l.length<=1000000:=by
  rcases Yk 1000000 l.length with h2|h2
  have h1:(Tq K m n gH F h0).O (l++[c])=none:=by show oI F h0 (l++[c])=none;rw[W,au (.inr (.inr h2))]
  have h3:=(V h1).2.length_le;rw[gp,ZV] at h3;omega;exact h2
 have Q:=aVf (F:=F) l 0 hd f.good;have hg:EP (Ap F h0 l 0) c:=⟨Q,L⟩;have a0:=aVe F l c h0;obtain⟨C,y,u,s⟩:∃ C:Nat->Nat,C 900001=m/\C 900002=n/\C 900003=gH:=⟨fun x=>if x=900001 then m else if x=900002 then n else gH,rfl,rfl,rfl⟩;have j:∀ {E:jd} {o:Ob},o∈pM F (Ap F h0 l 0) E l.length->(o.x=900001/\o.t=3/\o.l=[.lit (.int .i64 (l.length:Int))]/\o.l'=[.lit (.int .i64 ((l.length+1:Nat):Int))])\/(o.x=900002/\o.t=68/\o.l=[tV F]/\o.l'=[tV F])\/(o.x=900003/\o.t=65/\o.l=p_ (Ap F h0 l 0)/\o.l'=p_ E):=by intro E o D;simp only[pM,zg,YP,or_false] at D;rcases D with rfl|rfl|rfl;exact .inl ⟨rfl,rfl,rfl,rfl⟩;exact .inr (.inl ⟨rfl,rfl,rfl,rfl⟩);exact .inr (.inr ⟨rfl,rfl,rfl,rfl⟩)
 have B:∀ {E:jd} b,SX (pM F (Ap F h0 l 0) E l.length) C Dv.non b->b=m\/b=n\/b=gH:=by
  rintro E b (i|⟨o,D,rfl⟩);exact i.elim
  ·rcases j D with⟨e,_⟩|⟨e,_⟩|⟨e,_⟩<;>rw[e]<;>simp[y,u,s]
 obtain⟨n1,n2,n3⟩:=f.ne;obtain⟨cF,f1,f2⟩:=f.bf;obtain⟨cH,f3,f4⟩:=f.bh;have e1:Value.pointer (some ⟨m,0,none⟩)=.pointer (some ⟨C 900001,0,none⟩):=by rw[y]
 have e2:Value.pointer (some ⟨n,0,none⟩)=.pointer (some ⟨C 900002,0,none⟩):=by rw[u]
 have e3:Value.pointer (some ⟨gH,0,none⟩)=.pointer (some ⟨C 900003,0,none⟩):=by rw[s]
 refine (aZs F (Ap F h0 l 0) l.length c hg N hF w (P6 K X m n gH) [c.v,.pointer (some ⟨m,0,none⟩),.pointer (some ⟨n,0,none⟩),.pointer (some ⟨gH,0,none⟩)] C
  (fun U V=>aRy f.mem V (fun b i hs=>?_)) (fun b i=>?_) (fun o D=>?_) (fun o D o' a2 e=>?_) ⟨?_,?_,?_,?_,trivial⟩).mono ?_
 have:=(f.tab b i).2;rcases B b hs with h|h|h;exact this.1 h;exact this.2.1 h;exact this.2.2 h;rcases B b i with rfl|rfl|rfl
 exact⟨f.bn.lt,fun h=>h.2.2.1 rfl⟩;exact⟨f1.lt,fun h=>h.2.2.2.1 rfl⟩;exact⟨f3.lt,fun h=>h.2.2.2.2 rfl⟩
 ·rcases j D with⟨H,G,k3,_⟩|⟨H,G,k3,_⟩|⟨H,G,k3,_⟩<;>rw[H,G,k3]
  exact⟨_,by rw[y];exact f.bn,.cons (xs:=[_]) (.lit rfl) .nil⟩;exact⟨cF,by rw[u];exact f1,f2⟩;exact⟨cH,by rw[s];exact f3,f4⟩
 ·rcases j D with⟨H,_⟩|⟨H,_⟩|⟨H,_⟩<;>rcases j a2 with⟨G,_⟩|⟨G,_⟩|⟨G,_⟩<;>rw[H,G] at e ⊢<;>simp only[y,u,s] at e<;>first|(exact absurd e n1)|(exact absurd e n2)|(exact absurd e n3)|(exact absurd e.symm n1)|(exact absurd e.symm n2)|(exact absurd e.symm n3)
 exact .w (.agg (.cons (xs:=[_]) (.lit rfl) (.cons (xs:=[_]) (.lit rfl) (.cons (xs:=[_]) (.lit rfl) (.cons (xs:=[_]) (.lit rfl) .nil)))));exact .w (.one (.pt ⟨_,_,rfl⟩ ⟨0,_,rfl,dC _,fun _=>⟨_,rfl,e1⟩⟩));exact .w (.one (.pt ⟨_,_,rfl⟩ ⟨0,_,rfl,dC _,fun _=>⟨_,rfl,e2⟩⟩));exact .w (.one (.pt ⟨_,_,rfl⟩ ⟨0,_,rfl,dC _,fun _=>⟨_,rfl,e3⟩⟩));rintro e U ⟨A,J,a⟩;refine⟨A.mono fun b _ i=>B b i,?_⟩
 have S:DF K m n gH F h0 (l++[c]) X U:=by
  have P:∀ {p:dw} {xs:ji},RL { w:=U,ok:=pI w (P6 K X m n gH) false,env:=fun _=>none } p xs->RL { w:=U,ok:=P6 K X m n gH,env:=fun _=>none } p xs:=fun hr=>hr.le ⟨dC _,fun b i a1=>⟨a1.elim (fun h=>h.2) (fun h=>by have E:w.heap.size<=b:=h;exact⟨f.up b E,fun I=>by have:=(f.mine b I).1;omega,by have:=f.bn.lt;omega,by have:=f1.lt;omega,by have:=f3.lt;omega⟩),rfl⟩,fun _ _ _ h=>by cases h⟩;have o1:=J ⟨900001,3,[.lit (.int .i64 (l.length:Int))],[.lit (.int .i64 ((l.length+1:Nat):Int))]⟩ (by simp[pM]);have o2:=J ⟨900002,68,[tV F],[tV F]⟩ (by simp[pM]);have o3:=J ⟨900003,65,p_ (Ap F h0 l 0),p_ (dM (Ap F h0 l 0) c (dP F l.length)).1⟩ (by simp[pM]);dsimp only at o1 o2 o3;rw[y] at o1;rw[u] at o2;rw[s] at o3;obtain⟨c1,p1,p2⟩:=o1;obtain⟨c2,p3,p4⟩:=o2;obtain⟨c3,p5,p6⟩:=o3;refine⟨?_,⟨c2,p3,P p4⟩,⟨c3,p5,?_⟩,f.ne,fun x I=>?_,fun b i=>⟨YX (f.mine b i).1 A.size,(f.mine b i).2⟩,aRy f.mem A (fun b i hs=>?_),f.tab,fun b i=>f.up b (PP A.size i)⟩
  have a3:c1=#[.int .i64 ((l.length+1:Nat):Int)]:=by
   apply GM;generalize c1.toList=z at p2;cases p2 with
   |cons Z Y=>cases Y;cases Z;rfl
  rw[a3] at p1;rw[gp,ZV];exact p1;rw[a0];exact P p6;rcases List.mem_append.1 I with I|I;exact f.good x I
  obtain rfl:=List.mem_singleton.1 I;exact L;have:=(f.tab b i).2;rcases B b hs with h|h|h;exact this.1 h;exact this.2.1 h;exact this.2.2 h
 by_cases d:(dP F l.length).cut=true;right;unfold Xv at a;rw[au d] at a;refine⟨O0,?_,a,⟨[],(fun _ h=>by cases h),rfl⟩,S,l,c,rfl,hN,d⟩;show oI F h0 (l++[c])=none;rw[W,au (.inl d)];left;unfold Xv at a;rw[ay d] at a;obtain⟨a4,rfl,q⟩:=a;refine⟨(dM (Ap F h0 l 0) c (dP F l.length)).2.1,?_,?_,S,fun k hk=>?_⟩;show oI F h0 (l++[c])=some _;rw[W,ay (fun h=>h.elim d fun h=>h.elim (fun h=>h L) (fun h=>a_))];congr 1;generalize (dM (Ap F h0 l 0) c (dP F l.length)).2.1=r at q;cases q with
 | w q=>cases q with
  | @agg _ cs q=>
   obtain⟨cs⟩:=cs;dsimp only at q;cases q with
   |cons Z q=>cases q with
    |cons Y q=>cases q;cases Z;cases Y;rfl
 rw[gp,ZV] at hk;rcases Yk k l.length with h|h;exact hN k h
 obtain rfl:k=l.length:=a_;simpa using d
structure Loc(P:dE)(T:bi)(b:Nat)(t:bi)(cs:kw)(v:ag):Prop where
 ld:∀ w,f_ w b t cs->(Instr.loadAt T (.pointer (some ⟨b,0,none⟩))).run P w=.ok v w
 st:∀ w old,old.size=cs.size->f_ w b t old->∃ w',(Instr.storeAt T (.pointer (some ⟨b,0,none⟩)) v).run P w=.ok () w'/\f_ w' b t cs/\gu (fun k=>k=b) w w'/\w'.heap.size=w.heap.size
theorem Loc.wide{P:dE}{T:bi}{n:Nat}(W:y7 P T n)(b:Nat)(t:bi)(cs:kw)(hn:cs.size=n)(h1:cs.all (·.oneCell')=true):Loc P T b t cs (.agg cs):=by refine⟨fun w a=>?_,fun w old c a=>⟨_,run_storeAt_mid w b 0 T cs (by rw[<-c];exact a.Ea) (by rw[hn];exact W.info) h1,aEe a c,(eU b cs.toList 0 w).1,(eU b cs.toList 0 w).2⟩⟩;obtain⟨d,e,f⟩:=W.und;have:=run_loadAt_mid (P:=P) w b 0 T cs.toList d a.range e f (by rw[uA,hn];exact W.info);rw[Array.toArray_toList] at this;exact this
def Dn(T:bi)(p:String):Oper:=⟨some 17,.load T (.tmp 6),T,p,#[],none⟩
def Cm(T:bi)(p:String):Oper:=⟨some 18,.load T (.tmp 7),T,p,#[],none⟩
def CV(T:bi)(p:String):Oper:=⟨some 19,.load T (.tmp 8),T,p,#[],none⟩
def Dl(T:bi)(p:String):Oper:=⟨none,.store T (.tmp 6) (.tmp 17),0,p,#[⟨0,.data⟩,⟨0,.phase⟩,⟨1,.textOnly .lateStoresUnsure⟩,⟨2,.textOnly .lateStoresUnsure⟩],none⟩
def Eg(T:bi)(p:String):Oper:=⟨none,.store T (.tmp 7) (.tmp 18),0,p,#[⟨1,.data⟩,⟨3,.chain⟩,⟨0,.phase⟩,⟨1,.phase⟩,⟨2,.textOnly .lateStoresUnsure⟩,⟨3,.phase⟩],none⟩
def G_(T:bi)(p:String):Oper:=⟨none,.store T (.tmp 8) (.tmp 19),0,p,#[⟨2,.data⟩,⟨4,.chain⟩,⟨0,.phase⟩,⟨1,.phase⟩,⟨2,.phase⟩,⟨3,.phase⟩,⟨4,.phase⟩],none⟩
def G9(T:bi)(p:String):Oper:=⟨none,.store T (.tmp 9) (.const (.bool true)),0,p,#[⟨5,.chain⟩,⟨0,.phase⟩,⟨1,.phase⟩,⟨2,.phase⟩,⟨3,.phase⟩,⟨4,.phase⟩,⟨5,.phase⟩],none⟩
def oH(c b a d:bi)(p:String):Array Oper:=#[Dn c p,Cm b p,CV a p,Dl c p,Eg b p,G_ a p,G9 d p]
structure LvV where
 a0:Act
 w0:ae
 b1:Nat
 b2:Nat
 b3:Nat
 b4:Nat
 t1:bi
 t2:bi
 t3:bi
 t4:bi
 c1:kw
 c2:kw
 c3:kw
 v1:ag
 v2:ag
 v3:ag
structure BM(V:LvV)(x y z f:Bool)(a:Act)(w:ae):Prop where
 ds:a.defers=V.a0.defers
 sz:a.tmps.size=V.a0.tmps.size
 tm:∀ t,t<17->a.tmps.getD t bz=V.a0.tmps.getD t bz
 l1:x=true->a.tmps.getD 17 bz=V.v1
 l2:y=true->a.tmps.getD 18 bz=V.v2
 l3:z=true->a.tmps.getD 19 bz=V.v3
 k1:f_ w V.b1 V.t1 V.c1
 k2:f_ w V.b2 V.t2 V.c2
 k3:f_ w V.b3 V.t3 V.c3
 k4:∃ v,f_ w V.b4 V.t4 #[v]/\(f=true->v=.bool true)
 iq:gu (fun k=>k=V.b1\/k=V.b2\/k=V.b3\/k=V.b4) V.w0 w
 size:w.heap.size=V.w0.heap.size
theorem sN{a:kw}{i:Nat}(h:i<a.size)(v:ag):(a.setIfInBounds i v).getD i bz=v:=by simp[Yw,h]
theorem getD_set_ne{a:kw}{i j:Nat}(h:i≠j)(v:ag):(a.setIfInBounds i v).getD j bz=a.getD j bz:=by simp[Yw,h]
theorem LX{P:dE}(hm:P.follows .mixedOrders=true)(V:LvV){l j i m:bi}{id:Nat}{p:String}{Q:Exit->Act->je}
  (L1:Loc P l V.b1 V.t1 V.c1 V.v1) (L2:Loc P j V.b2 V.t2 V.c2 V.v2) (L3:Loc P i V.b3 V.t3 V.c3 V.v3) (L4:Loc P m V.b4 V.t4 #[.bool true] (.bool true))
  (e1:V.a0.tmps.getD 6 bz=.pointer (some ⟨V.b1,0,none⟩)) (e2:V.a0.tmps.getD 7 bz=.pointer (some ⟨V.b2,0,none⟩)) (e3:V.a0.tmps.getD 8 bz=.pointer (some ⟨V.b3,0,none⟩)) (e4:V.a0.tmps.getD 9 bz=.pointer (some ⟨V.b4,0,none⟩))
  (hz:V.a0.tmps.size=20) (a7:V.b1≠V.b2) (a6:V.b1≠V.b3) (a5:V.b1≠V.b4) (a4:V.b2≠V.b3) (a3:V.b2≠V.b4) (a2:V.b3≠V.b4)
  (K1:f_ V.w0 V.b1 V.t1 V.c1) (K2:f_ V.w0 V.b2 V.t2 V.c2) (K3:f_ V.w0 V.b3 V.t3 V.c3) (K4:∃ v,f_ V.w0 V.b4 V.t4 #[v])
  (hQ:∀ a w,BM V true true true true a w->Q .normal a w):(Code.region id (oH l j i m p) true).wp P Q V.a0 V.w0:=by
 have d0:∀ {x y z f:Bool} (J:Act->je) (a:Act) (w:ae),BM V x y z f a w->(∀ E n,BM V true y z f E n->J E n)->if Region.wanted (Dn l p) (YV (oH l j i m p) a.tmps)=true then Oper.wp P (Dn l p) a w J Q else J (a.put (Dn l p).dst bz) w:=by intro x y z f J a w h b;rw[au ai];have hs:=h.sz.trans hz;refine aJw (o:=Dn l p) rfl (val:=V.v1) (by rw[show a.eval (.tmp 6)=.pointer (some ⟨V.b1,0,none⟩) from (h.tm 6 a_).trans e1];exact L1.ld w h.k1) (b _ _ ?_);exact⟨h.ds,by show (a.tmps.setIfInBounds 17 _).size=_;rw[aGR];exact h.sz,fun t ht=>(getD_set_ne a_ _).trans (h.tm t ht),fun _=>sN a_ _,fun hy=>(getD_set_ne a_ _).trans (h.l2 hy),fun X=>(getD_set_ne a_ _).trans (h.l3 X),h.k1,h.k2,h.k3,h.k4,h.iq,h.size⟩
 have d1:∀ {x y z f:Bool} (J:Act->je) (a:Act) (w:ae),BM V x y z f a w->(∀ E n,BM V x true z f E n->J E n)->if Region.wanted (Cm j p) (YV (oH l j i m p) a.tmps)=true then Oper.wp P (Cm j p) a w J Q else J (a.put (Cm j p).dst bz) w:=by intro x y z f J a w h b;rw[au ai];have hs:=h.sz.trans hz;refine aJw (o:=Cm j p) rfl (val:=V.v2) (by rw[show a.eval (.tmp 7)=.pointer (some ⟨V.b2,0,none⟩) from (h.tm 7 a_).trans e2];exact L2.ld w h.k2) (b _ _ ?_);exact⟨h.ds,by show (a.tmps.setIfInBounds 18 _).size=_;rw[aGR];exact h.sz,fun t ht=>(getD_set_ne a_ _).trans (h.tm t ht),fun hx=>(getD_set_ne a_ _).trans (h.l1 hx),fun _=>sN a_ _,fun X=>(getD_set_ne a_ _).trans (h.l3 X),h.k1,h.k2,h.k3,h.k4,h.iq,h.size⟩
 have d2:∀ {x y z f:Bool} (J:Act->je) (a:Act) (w:ae),BM V x y z f a w->(∀ E n,BM V x y true f E n->J E n)->if Region.wanted (CV i p) (YV (oH l j i m p) a.tmps)=true then Oper.wp P (CV i p) a w J Q else J (a.put (CV i p).dst bz) w:=by intro x y z f J a w h b;rw[au ai];have hs:=h.sz.trans hz;refine aJw (o:=CV i p) rfl (val:=V.v3) (by rw[show a.eval (.tmp 8)=.pointer (some ⟨V.b3,0,none⟩) from (h.tm 8 a_).trans e3];exact L3.ld w h.k3) (b _ _ ?_);exact⟨h.ds,by show (a.tmps.setIfInBounds 19 _).size=_;rw[aGR];exact h.sz,fun t ht=>(getD_set_ne a_ _).trans (h.tm t ht),fun hx=>(getD_set_ne a_ _).trans (h.l1 hx),fun hy=>(getD_set_ne a_ _).trans (h.l2 hy),fun _=>sN a_ _,h.k1,h.k2,h.k3,h.k4,h.iq,h.size⟩
 have d3:∀ {y z f:Bool} (J:Act->je) (a:Act) (w:ae),BM V true y z f a w->(∀ E n,BM V true y z f E n->J E n)->if Region.wanted (Dl l p) (YV (oH l j i m p) a.tmps)=true then Oper.wp P (Dl l p) a w J Q else J (a.put (Dl l p).dst bz) w:=by intro y z f J a w h b;rw[au ai];obtain⟨n,Y,hb,F,G⟩:=L1.st w V.c1 rfl h.k1;obtain⟨W,h4,U⟩:=h.k4;refine lC (o:=Dl l p) rfl (w':=n) (by rw[show a.eval (.tmp 6)=.pointer (some ⟨V.b1,0,none⟩) from (h.tm 6 a_).trans e1,show a.eval (.tmp 17)=V.v1 from h.l1 rfl];exact Y) (b _ _ ?_);exact⟨h.ds,h.sz,h.tm,h.l1,h.l2,h.l3,hb,h.k2.iq F (fun e=>a7 e.symm),h.k3.iq F (fun e=>a6 e.symm),⟨W,h4.iq F (fun e=>a5 e.symm),U⟩,h.iq.trans (F.mono fun k _ Z=>.inl Z),G.trans h.size⟩
 have d4:∀ {x z f:Bool} (J:Act->je) (a:Act) (w:ae),BM V x true z f a w->(∀ E n,BM V x true z f E n->J E n)->if Region.wanted (Eg j p) (YV (oH l j i m p) a.tmps)=true then Oper.wp P (Eg j p) a w J Q else J (a.put (Eg j p).dst bz) w:=by intro x z f J a w h b;rw[au ai];obtain⟨n,Y,hb,F,G⟩:=L2.st w V.c2 rfl h.k2;obtain⟨W,h4,U⟩:=h.k4;refine lC (o:=Eg j p) rfl (w':=n) (by rw[show a.eval (.tmp 7)=.pointer (some ⟨V.b2,0,none⟩) from (h.tm 7 a_).trans e2,show a.eval (.tmp 18)=V.v2 from h.l2 rfl];exact Y) (b _ _ ?_);exact⟨h.ds,h.sz,h.tm,h.l1,h.l2,h.l3,h.k1.iq F a7,hb,h.k3.iq F (fun e=>a4 e.symm),⟨W,h4.iq F (fun e=>a3 e.symm),U⟩,h.iq.trans (F.mono fun k _ Z=>.inr (.inl Z)),G.trans h.size⟩
 have d5:∀ {x y f:Bool} (J:Act->je) (a:Act) (w:ae),BM V x y true f a w->(∀ E n,BM V x y true f E n->J E n)->if Region.wanted (G_ i p) (YV (oH l j i m p) a.tmps)=true then Oper.wp P (G_ i p) a w J Q else J (a.put (G_ i p).dst bz) w:=by intro x y f J a w h b;rw[au ai];obtain⟨n,Y,hb,F,G⟩:=L3.st w V.c3 rfl h.k3;obtain⟨W,h4,U⟩:=h.k4;refine lC (o:=G_ i p) rfl (w':=n) (by rw[show a.eval (.tmp 8)=.pointer (some ⟨V.b3,0,none⟩) from (h.tm 8 a_).trans e3,show a.eval (.tmp 19)=V.v3 from h.l3 rfl];exact Y) (b _ _ ?_);exact⟨h.ds,h.sz,h.tm,h.l1,h.l2,h.l3,h.k1.iq F a6,h.k2.iq F a4,hb,⟨W,h4.iq F (fun e=>a2 e.symm),U⟩,h.iq.trans (F.mono fun k _ Z=>.inr (.inr (.inl Z))),G.trans h.size⟩
 have d6:∀ {x y z f:Bool} (J:Act->je) (a:Act) (w:ae),BM V x y z f a w->(∀ E n,BM V x y z true E n->J E n)->if Region.wanted (G9 m p) (YV (oH l j i m p) a.tmps)=true then Oper.wp P (G9 m p) a w J Q else J (a.put (G9 m p).dst bz) w:=by intro x y z f J a w h b;rw[au ai];obtain⟨W,h4,U⟩:=h.k4;obtain⟨n,Y,hb,F,G⟩:=L4.st w #[W] rfl h4;refine lC (o:=G9 m p) rfl (w':=n) (by rw[show a.eval (.tmp 9)=.pointer (some ⟨V.b4,0,none⟩) from (h.tm 9 a_).trans e4];exact Y) (b _ _ ?_);exact⟨h.ds,h.sz,h.tm,h.l1,h.l2,h.l3,h.k1.iq F a5,h.k2.iq F a3,h.k3.iq F a2,⟨_,hb,fun _=>rfl⟩,h.iq.trans (F.mono fun k _ Z=>.inr (.inr (.inr Z))),G.trans h.size⟩
 have H:∀ a w,BM V true true true true a w->wpAny P .any (oH l j i m p) Q 0 #[true,true,true,true,true,true,true] a w:=fun a w h=>by exact wpAny_done ah (hQ a w h) _
 have I:∀ a w,BM V true true true false a w->wpAny P .any (oH l j i m p) Q 1 #[true,true,true,true,true,true,false] a w:=fun a w h=>by exact Yi (rs:=[6]) ah b_ (AllReady.cons (o:=G9 m p) rfl (fun J b=>d6 J a w h fun g c d=>b _ _ (H g c d)) AllReady.nil)
 have s:∀ a w,BM V true true true false a w->wpAny P .any (oH l j i m p) Q 2 #[true,true,true,true,true,false,false] a w:=fun a w h=>by exact Yi (rs:=[5]) ah b_ (AllReady.cons (o:=G_ i p) rfl (fun J b=>d5 J a w h fun g c d=>b _ _ (I g c d)) AllReady.nil)
 have q:∀ a w,BM V true true true false a w->wpAny P .any (oH l j i m p) Q 3 #[true,true,true,true,false,false,false] a w:=fun a w h=>by exact Yi (rs:=[4]) ah b_ (AllReady.cons (o:=Eg j p) rfl (fun J b=>d4 J a w h fun g c d=>b _ _ (s g c d)) AllReady.nil)
 have r:∀ a w,BM V true true true false a w->wpAny P .any (oH l j i m p) Q 4 #[true,true,true,false,false,false,false] a w:=fun a w h=>by exact Yi (rs:=[3]) ah b_ (AllReady.cons (o:=Dl l p) rfl (fun J b=>d3 J a w h fun g c d=>b _ _ (q g c d)) AllReady.nil)
 have K:∀ a w,BM V true true false false a w->wpAny P .any (oH l j i m p) Q 3 #[true,true,false,true,true,false,false] a w:=fun a w h=>by exact Yi (rs:=[2]) ah b_ (AllReady.cons (o:=CV i p) rfl (fun J b=>d2 J a w h fun g c d=>b _ _ (s g c d)) AllReady.nil)
 have u:∀ a w,BM V true true false false a w->wpAny P .any (oH l j i m p) Q 4 #[true,true,false,true,false,false,false] a w:=fun a w h=>by exact Yi (rs:=[2,4]) ah b_ (AllReady.cons (o:=CV i p) rfl (fun J b=>d2 J a w h fun g c d=>b _ _ (q g c d)) (AllReady.cons (o:=Eg j p) rfl (fun J b=>d4 J a w h fun g c d=>b _ _ (K g c d)) AllReady.nil))
 have A:∀ a w,BM V true true false false a w->wpAny P .any (oH l j i m p) Q 5 #[true,true,false,false,false,false,false] a w:=fun a w h=>by exact Yi (rs:=[2,3]) ah b_ (AllReady.cons (o:=CV i p) rfl (fun J b=>d2 J a w h fun g c d=>b _ _ (r g c d)) (AllReady.cons (o:=Dl l p) rfl (fun J b=>d3 J a w h fun g c d=>b _ _ (u g c d)) AllReady.nil))
 have B:∀ a w,BM V true false true false a w->wpAny P .any (oH l j i m p) Q 4 #[true,false,true,true,false,false,false] a w:=fun a w h=>by exact Yi (rs:=[1]) ah b_ (AllReady.cons (o:=Cm j p) rfl (fun J b=>d1 J a w h fun g c d=>b _ _ (q g c d)) AllReady.nil)
 have C:∀ a w,BM V true false true false a w->wpAny P .any (oH l j i m p) Q 5 #[true,false,true,false,false,false,false] a w:=fun a w h=>by exact Yi (rs:=[1,3]) ah b_ (AllReady.cons (o:=Cm j p) rfl (fun J b=>d1 J a w h fun g c d=>b _ _ (r g c d)) (AllReady.cons (o:=Dl l p) rfl (fun J b=>d3 J a w h fun g c d=>b _ _ (B g c d)) AllReady.nil))
 have L:∀ a w,BM V true false false false a w->wpAny P .any (oH l j i m p) Q 5 #[true,false,false,true,false,false,false] a w:=fun a w h=>by exact Yi (rs:=[1,2]) ah b_ (AllReady.cons (o:=Cm j p) rfl (fun J b=>d1 J a w h fun g c d=>b _ _ (u g c d)) (AllReady.cons (o:=CV i p) rfl (fun J b=>d2 J a w h fun g c d=>b _ _ (B g c d)) AllReady.nil))
 have N:∀ a w,BM V true false false false a w->wpAny P .any (oH l j i m p) Q 6 #[true,false,false,false,false,false,false] a w:=fun a w h=>by exact Yi (rs:=[1,2,3]) ah b_ (AllReady.cons (o:=Cm j p) rfl (fun J b=>d1 J a w h fun g c d=>b _ _ (A g c d)) (AllReady.cons (o:=CV i p) rfl (fun J b=>d2 J a w h fun g c d=>b _ _ (C g c d)) (AllReady.cons (o:=Dl l p) rfl (fun J b=>d3 J a w h fun g c d=>b _ _ (L g c d)) AllReady.nil)))
 have D:∀ a w,BM V false true true false a w->wpAny P .any (oH l j i m p) Q 5 #[false,true,true,false,false,false,false] a w:=fun a w h=>by exact Yi (rs:=[0]) ah b_ (AllReady.cons (o:=Dn l p) rfl (fun J b=>d0 J a w h fun g c d=>b _ _ (r g c d)) AllReady.nil)
 have O:∀ a w,BM V false true false false a w->wpAny P .any (oH l j i m p) Q 6 #[false,true,false,false,false,false,false] a w:=fun a w h=>by exact Yi (rs:=[0,2]) ah b_ (AllReady.cons (o:=Dn l p) rfl (fun J b=>d0 J a w h fun g c d=>b _ _ (A g c d)) (AllReady.cons (o:=CV i p) rfl (fun J b=>d2 J a w h fun g c d=>b _ _ (D g c d)) AllReady.nil))
 have S:∀ a w,BM V false false true false a w->wpAny P .any (oH l j i m p) Q 6 #[false,false,true,false,false,false,false] a w:=fun a w h=>by exact Yi (rs:=[0,1]) ah b_ (AllReady.cons (o:=Dn l p) rfl (fun J b=>d0 J a w h fun g c d=>b _ _ (C g c d)) (AllReady.cons (o:=Cm j p) rfl (fun J b=>d1 J a w h fun g c d=>b _ _ (D g c d)) AllReady.nil))
 have T:∀ a w,BM V false false false false a w->wpAny P .any (oH l j i m p) Q 7 #[false,false,false,false,false,false,false] a w:=fun a w h=>by exact Yi (rs:=[0,1,2]) ah b_ (AllReady.cons (o:=Dn l p) rfl (fun J b=>d0 J a w h fun g c d=>b _ _ (N g c d)) (AllReady.cons (o:=Cm j p) rfl (fun J b=>d1 J a w h fun g c d=>b _ _ (O g c d)) (AllReady.cons (o:=CV i p) rfl (fun J b=>d2 J a w h fun g c d=>b _ _ (S g c d)) AllReady.nil)))
 obtain⟨W,K4⟩:=K4;refine wp_region_any hm ?_;exact T _ _ ⟨rfl,rfl,fun _ _=>rfl,fun h=>(by cases h),fun h=>(by cases h),fun h=>(by cases h),K1.drew,K2.drew,K3.drew,⟨W,K4.drew,fun h=>by cases h⟩,gu.drew (gu.refl _ _),rfl⟩
end Pv
section
theorem jF:y7 prog 40 55:=⟨⟨_,underlying40,rfl⟩,ah⟩
namespace Pv
def EK(l:dh):kw:=(l.map ql).toArray
def mr(o:kz):kw:=(#[.int .i64 o.session,.string o.payload]:kw)++EK o.ot++#[.int .i64 o.ol]++EK o.xt++#[.int .i64 o.xl,.int .i64 o.bn,.string o.bc]++EK o.bt++#[.int .i64 o.err]
structure uj(o:kz):Prop where
 ot:o.ot.length=16
 xt:o.xt.length=16
 bt:o.bt.length=16
theorem aXl(l:dh):(EK l).size=l.length:=by simp[EK]
theorem OG(l:dh):∀ u∈(EK l).toList,u.oneCell'=true:=by intro u a;simp only[EK,List.mem_map] at a;obtain⟨b,_,rfl⟩:=a;rfl
theorem dH{o:kz}(h:uj o):(mr o).size=55:=by unfold mr;simp only[Array.size_append,aXl,h.ot,h.xt,h.bt,Yx,zl,Yg]
theorem bEm(C:Ctx){o:kz}(h:uj o):RL C (j_ o) (mr o).toList:=by
 have e:(mr o).toList=[.int .i64 o.session]++([.string o.payload]++(o.ot.map ql++([.int .i64 o.ol]++(o.xt.map ql++([.int .i64 o.xl]++([.int .i64 o.bn]++([.string o.bc]++(o.bt.map ql++([.int .i64 o.err]++[]))))))))):=by simp[mr,EK]
 rw[e];exact .cons (.lit rfl) (.cons (.lit rfl) (.cons (.bs h.ot) (.cons (.lit rfl) (.cons (.bs h.xt) (.cons (.lit rfl) (.cons (.lit rfl) (.cons (.lit rfl) (.cons (.bs h.bt) (.cons (.lit rfl) .nil)))))))))
theorem Qd{C:Ctx}{o:kz}{xs:ji}(h:RL C (j_ o) xs):xs=(mr o).toList/\uj o:=by unfold j_ at h;cases h with|cons f h=>cases h with|cons k1 h=>cases h with|cons k2 h=>cases h with|cons k3 h=>cases h with|cons k4 h=>cases h with|cons e h=>cases h with|cons d h=>cases h with|cons c h=>cases h with|cons a h=>cases h with|cons b h=>cases h;cases f;cases k1;cases k3;cases e;cases d;cases c;cases b;cases k2 with|bs k2=>cases k4 with|bs k4=>cases a with|bs a=>exact⟨by simp[mr,EK],k2,k4,a⟩
theorem mD(o:kz):(mr o).all (·.oneCell')=true:=by
 rw[<-aAD,List.all_eq_true];intro u a;simp only[mr,Array.toList_append,List.mem_append] at a;rcases a with (((((a|a)|a)|a)|a)|a)|a
 all_goals first
  |exact OG _ _ a
  |(simp only[zg,YP,or_false] at a;rcases a with rfl|rfl|rfl<;>rfl)
  |(simp only[zg,YP,or_false] at a;rcases a with rfl|rfl<;>rfl)
  |(simp only[zg,YP,or_false] at a;subst a;rfl)
theorem kE:uj ni:=⟨rfl,rfl,rfl⟩
end Pv
theorem bBa(w:ae):(Instr.typeAssert (.iface 139 (.agg #[])) 20 139 true).run prog w=.ok (.tuple #[.agg #[],.bool true]) w:=ah
attribute [local go_sem] bBa
theorem aZu(Ob d:Nat)(y:kw)(E:ag)(b:List Yr)(w:ae)(A:y.size=55)
  (s:f_ w Ob 40 y) (u:f_ w d 4 #[E]) (a:¬Ob=d) :
  CallsD prog 67 #[.pointer (some ⟨Ob,0,none⟩),.pointer (some ⟨d,0,none⟩)] (.panicking ({ v:=Pv.cutV,recovered:=false }::b)) w fun e G q=>
   e=.returned (.tuple #[])/\G=.panicking ({ v:=Pv.cutV,recovered:=true }::b)/\gu (fun k=>k=Ob\/k=d) w q /\
   f_ q Ob 40 (Pv.mr Pv.ni)/\f_ q d 4 #[.bool false]:=by
 have Q:=s.lt;have S:=u.lt;have D:=hide (az s A);have L:=hide u;clear s u A;have B:¬d=Ob:=fun e=>a e.symm;simp only[Pv.cutV];refine callsD_of_wpS func67 rfl fun C Y H=>?_;simp only[ntmps67,Yx,zl,Yg,aAL,aAM,aAN,aAO,aAP,aAQ,Ha,yz];apply wpS_seq;apply wpS_region;simp[wpOpsS,go_sem,recoverD,H,Exit.thenS];refine wpS_of_wp ?_
 go_upto_region 8 with fail
 generalize r:World.alloc _ (.cells _ 40)=W
 have g:Ext w W:=by
  rw[<-r]
  all_goals exact DL
 have o:f_ W (w.heap.size+1) 40 (Pv.mr Pv.ni):=by rw[<-r];exact f_.new' _ _ _ b_
 have n:=(aA D).1.ext g;have f:=(aA L).ext g;have K:=f.cell 0;have V:=f.frozen;simp only[Zd,Yv] at K;have j:=hide (az g (az o (az n f)));clear r g o n f;have I:¬w.heap.size+1=Ob:=a_
 go_wp2_with (first
  |(refine iV (ty:=40) (t:=40) (x:=.tmp 4) rfl rfl jF rfl (cs:=Pv.mr Pv.ni) (aA j).2.1 (Pv.dH Pv.kE) ?_)
  |(refine aV (ty:=40) (t:=40) (x:=.tmp 0) (y:=.tmp 12) rfl rfl jF rfl rfl (aA j).2.2.1 (aA D).2 (Pv.dH Pv.kE) (Pv.mD _) ?_;intro P m c l;have J:=((aA j).2.2.2.iq c (fun e=>a e.symm)).cell 0;have X:=((aA j).2.2.2.iq c (fun e=>a e.symm)).frozen;have T:=((aA j).2.2.2.iq c (fun e=>a e.symm)).lt;simp only[Zd,Yv] at J;have N:=hide (az m (az c l));clear m c l))
 obtain⟨F,z,O⟩:=aA N;obtain⟨g,o,n,f⟩:=aA j;refine⟨rfl,_,rfl,.tuple #[],results_none rfl _ _ _,rfl,rfl,?_,?_,?_⟩;exact (g.trans' z (fun _ _ h=>h.elim) (fun i U e=>by rw[e];exact .inl rfl)).setCell (.inl (.inr rfl)) _;exact F.far (p:=⟨d,0,none⟩) a _;exact (f.iq z (fun e=>a e.symm)).BH 0 _
theorem bFu(x y:ag)(w:ae) :
  CallsD prog 67 #[x,y] .returning w fun e c b=>e=.returned (.tuple #[])/\c=.returning/\w=b:=by
 refine callsD_of_wpS func67 rfl fun a f d=>?_;simp only[ntmps67,Yx,zl,Yg,aAL,aAM,aAN,aAO,aAP,aAQ,Ha,yz];apply wpS_seq;apply wpS_region;simp[wpOpsS,go_sem,recoverD,d,Exit.thenS];refine wpS_of_wp ?_
 go_wp2
 exact⟨rfl,.returning,by cases a;simp_all,.tuple #[],results_none rfl _ _ _,rfl,rfl,rfl⟩
end
section
namespace Pv
def kH(e:Int):kz:={ ni with err:=e }
theorem aBn(e:Int):uj (kH e):=⟨rfl,rfl,rfl⟩
def UU:bi:=114
def aEV:bi:=139
end Pv
theorem aUr(x:ag)(w:ae):(Instr.typeAssert (.iface 118 x) 20 118 true).run prog w=.ok (.tuple #[x,.bool true]) w:=ah
theorem aUq(x:ag)(w:ae):(Instr.typeAssert (.iface 114 x) 20 118 true).run prog w=.ok (.tuple #[.agg #[.int .i64 0],.bool false]) w:=ah
theorem aUs(x:ag)(w:ae):(Instr.typeAssert (.iface 139 x) 20 118 true).run prog w=.ok (.tuple #[.agg #[.int .i64 0],.bool false]) w:=ah
theorem aJn(c:Int)(w:ae):(Instr.build 40 #[(4,.int .i64 c)]).run prog w=.ok (.agg (Pv.mr (Pv.kH c))) w:=ah
attribute [local go_sem] aJn aUr aUq aUs
theorem bEf(Ob:Nat)(y:kw)(c:Int)(a:List Yr)(w:ae)(m:y.size=55)(g:f_ w Ob 40 y) :
  CallsD prog 46 #[.pointer (some ⟨Ob,0,none⟩)] (.panicking ({ v:=.iface 118 (.agg #[.int .i64 c]),recovered:=false }::a)) w fun e r l=>e=.returned (.tuple #[])/\r=.panicking ({ v:=.iface 118 (.agg #[.int .i64 c]),recovered:=true }::a)/\gu (fun k=>k=Ob) w l/\f_ l Ob 40 (Pv.mr (Pv.kH c)):=by
 have C:=g.lt;have o:=hide (az g m);clear g m;refine callsD_of_wpS func46 rfl fun n E s=>?_;simp only[ntmps46,Yx,zl,Yg,aAL,aAM,aAN,aAO,aAP,aAQ,Ha,yz];apply wpS_seq;apply wpS_region;simp[wpOpsS,go_sem,recoverD,s,Exit.thenS];refine wpS_of_wp ?_
 go_upto_region 7 with fail
 go_step
 iterate 6 (first|go_values|go_step|go_upon|go_in|go_back)
 have j:Ext w (w.alloc (.cells #[.int .i64 c] 118)):=(Ext.refl w).alloc _;generalize w.alloc (.cells #[.int .i64 c] 118)=W at *;refine wpList_plain rfl fun K u=>Pv.aK (w:=W) (w':=W) (v:=.agg (Pv.mr (Pv.kH c))) ?_ (u _ _ ?_);simp[execOp,Act.eval,aJn];refine aV (ty:=40) (t:=40) (x:=.tmp 0) (y:=.tmp 12) rfl rfl jF rfl (cs:=Pv.mr (Pv.kH c)) rfl ((aA o).1.ext j) (aA o).2 (Pv.dH (Pv.aBn c)) (Pv.mD _) ?_;intro B f d b;have z:=hide (az f (az d b));clear f d b
 go_wp2
 obtain⟨q,p,A⟩:=aA z;refine⟨rfl,_,rfl,.tuple #[],results_none rfl _ _ _,rfl,rfl,?_,q⟩;exact j.trans' p (fun _ _ h=>h.elim) (fun i D e=>e)
theorem bEd(Ob:ag)(x:ag)(a:List Yr)(w:ae) :
  CallsD prog 46 #[Ob] (.panicking ({ v:=.iface 114 x,recovered:=false }::a)) w fun e d c=>e=.panicked [{ v:=.iface 114 x,recovered:=false }]/\d=.panicking ({ v:=.iface 114 x,recovered:=true }::a)/\c=w:=by
 refine callsD_of_wpS func46 rfl fun b g f=>?_;simp only[ntmps46,Yx,zl,Yg,aAL,aAM,aAN,aAO,aAP,aAQ,Ha,yz];apply wpS_seq;apply wpS_region;simp[wpOpsS,go_sem,recoverD,f,Exit.thenS];refine wpS_of_wp ?_
 go_wp2
 exact⟨rfl,_,rfl,rfl,rfl,rfl⟩
theorem Ja(Ob:ag)(x:ag)(a:List Yr)(w:ae) :
  CallsD prog 46 #[Ob] (.panicking ({ v:=.iface 139 x,recovered:=false }::a)) w fun e d c=>e=.panicked [{ v:=.iface 139 x,recovered:=false }]/\d=.panicking ({ v:=.iface 139 x,recovered:=true }::a)/\c=w:=by
 refine callsD_of_wpS func46 rfl fun b g f=>?_;simp only[ntmps46,Yx,zl,Yg,aAL,aAM,aAN,aAO,aAP,aAQ,Ha,yz];apply wpS_seq;apply wpS_region;simp[wpOpsS,go_sem,recoverD,f,Exit.thenS];refine wpS_of_wp ?_
 go_wp2
 exact⟨rfl,_,rfl,rfl,rfl,rfl⟩
theorem bEe(x:ag)(w:ae) :
  CallsD prog 46 #[x] .returning w fun e c b=>e=.returned (.tuple #[])/\c=.returning/\b=w:=by
 refine callsD_of_wpS func46 rfl fun a f d=>?_;simp only[ntmps46,Yx,zl,Yg,aAL,aAM,aAN,aAO,aAP,aAQ,Ha,yz];apply wpS_seq;apply wpS_region;simp[wpOpsS,go_sem,recoverD,d,Exit.thenS];refine wpS_of_wp ?_
 go_wp2
 exact⟨rfl,.returning,by cases a;simp_all,.tuple #[],results_none rfl _ _ _,rfl,rfl,rfl⟩
end
def Ak(g f:Nat):ag:=.func (.func f) #[.pointer (some ⟨g,0,none⟩)] #[]
def CS(g:Nat):List MapEntry:=[⟨.int .i64 1,Ak g 48,0⟩,⟨.int .i64 2,Ak g 49,1⟩,⟨.int .i64 3,Ak g 50,2⟩,⟨.int .i64 4,Ak g 51,3⟩,
 ⟨.int .i64 5,Ak g 52,4⟩,⟨.int .i64 6,Ak g 53,5⟩,⟨.int .i64 7,Ak g 54,6⟩]
def ve(w:ae)(g n:Nat):ae:=w.alloc (.map ((CS g).take n).toArray n)
theorem xW{P:dE}{d a i:bi}(f:P.underlying d=some (.map a i))(e:P.underlying a=some (.int .i64)){w:ae}{r:Nat}{es:Array MapEntry}{c:Nat}{k:Int}{v:ag}(hb:w.heap[r]?=some (.map es c))(b:Instr.findNow (.int .i64) (.int .i64 k) es.toList 0=some none) :
  (Instr.mapUpdate d (.map (some r)) (.int .i64 k) v).run P w=.ok () { w with heap:=w.heap.setIfInBounds r (.map (es.push ⟨.int .i64 k,v,c⟩) (c+1)) }:=by
 have h:(Instr.checkKey false 10000 a (.int .i64 k)).run P w=.ok () w:=by show (Instr.checkKey false (9999+1) a (.int .i64 k)).run P w=_;unfold Instr.checkKey;simp[xy e]
 have g:=MapKept.run_findKey (w:=w) e b;unfold Instr.mapUpdate;simp[xy f,MapKept.run_getObj_map hb,h,g,MapKept.run_setObj_map _ hb]
theorem yD(w:ae)(o a:Obj):({ w.alloc o with heap:=(w.alloc o).heap.setIfInBounds w.heap.size a }:ae)=w.alloc a:=by
 have h:(w.heap.push o).setIfInBounds w.heap.size a=w.heap.push a:=by apply GM;simp
 unfold World.alloc;dsimp only;rw[h]
theorem KR(w:ae)(g:Nat):(Instr.makeMap 124 none).run prog w=.ok (.map (some w.heap.size)) (ve w g 0):=rfl
theorem Kq(w:ae)(g:Nat):(Instr.mapUpdate 124 (.map (some w.heap.size)) (.int .i64 1) (Ak g 48)).run prog (ve w g 0)=.ok () (ve w g 1):=by refine (xW (es:=((CS g).take 0).toArray) (c:=0) underlying124 underlying3 (MapKept.heap_alloc w _).1 ah).trans ?_;unfold ve;rw[yD];rfl
theorem Ko(w:ae)(g:Nat):(Instr.mapUpdate 124 (.map (some w.heap.size)) (.int .i64 2) (Ak g 49)).run prog (ve w g 1)=.ok () (ve w g 2):=by refine (xW (es:=((CS g).take 1).toArray) (c:=1) underlying124 underlying3 (MapKept.heap_alloc w _).1 ah).trans ?_;unfold ve;rw[yD];rfl
theorem KZ(w:ae)(g:Nat):(Instr.mapUpdate 124 (.map (some w.heap.size)) (.int .i64 3) (Ak g 50)).run prog (ve w g 2)=.ok () (ve w g 3):=by refine (xW (es:=((CS g).take 2).toArray) (c:=2) underlying124 underlying3 (MapKept.heap_alloc w _).1 ah).trans ?_;unfold ve;rw[yD];rfl
theorem KY(w:ae)(g:Nat):(Instr.mapUpdate 124 (.map (some w.heap.size)) (.int .i64 4) (Ak g 51)).run prog (ve w g 3)=.ok () (ve w g 4):=by refine (xW (es:=((CS g).take 3).toArray) (c:=3) underlying124 underlying3 (MapKept.heap_alloc w _).1 ah).trans ?_;unfold ve;rw[yD];rfl
theorem KX(w:ae)(g:Nat):(Instr.mapUpdate 124 (.map (some w.heap.size)) (.int .i64 5) (Ak g 52)).run prog (ve w g 4)=.ok () (ve w g 5):=by refine (xW (es:=((CS g).take 4).toArray) (c:=4) underlying124 underlying3 (MapKept.heap_alloc w _).1 ah).trans ?_;unfold ve;rw[yD];rfl
theorem KW(w:ae)(g:Nat):(Instr.mapUpdate 124 (.map (some w.heap.size)) (.int .i64 6) (Ak g 53)).run prog (ve w g 5)=.ok () (ve w g 6):=by refine (xW (es:=((CS g).take 5).toArray) (c:=5) underlying124 underlying3 (MapKept.heap_alloc w _).1 ah).trans ?_;unfold ve;rw[yD];rfl
theorem KU(w:ae)(g:Nat):(Instr.mapUpdate 124 (.map (some w.heap.size)) (.int .i64 7) (Ak g 54)).run prog (ve w g 6)=.ok () (ve w g 7):=by refine (xW (es:=((CS g).take 6).toArray) (c:=6) underlying124 underlying3 (MapKept.heap_alloc w _).1 ah).trans ?_;unfold ve;rw[yD];rfl
def Uu(k:Int):Nat:=if k=1 then 48 else if k=2 then 49 else if k=3 then 50 else if k=4 then 51 else
 if k=5 then 52 else if k=6 then 53 else 54
theorem KT{w:ae}{r g:Nat}(hb:w.heap[r]?=some (.map (CS g).toArray 7)){k:Int}(f:1<=k/\k<=7):(Instr.lookup 124 (.map (some r)) (.int .i64 k) false).run prog w=.ok (Ak g (Uu k)) w:=by
 have d:∀ e,(Instr.checkKey e 10000 3 (.int .i64 k)).run prog w=.ok () w:=fun e=>by show (Instr.checkKey e (9999+1) 3 (.int .i64 k)).run prog w=_;unfold Instr.checkKey;simp[xy underlying3]
 have a:∃ i,Instr.findNow (.int .i64) (.int .i64 k) (CS g) 0=some (some (i,Ak g (Uu k))):=by
  have b:k=1\/k=2\/k=3\/k=4\/k=5\/k=6\/k=7:=a_;rcases b with rfl|rfl|rfl|rfl|rfl|rfl|rfl
  exact⟨0,ah⟩;exact⟨1,ah⟩;exact⟨2,ah⟩;exact⟨3,ah⟩;exact⟨4,ah⟩;exact⟨5,ah⟩;exact⟨6,ah⟩
 obtain⟨i,a⟩:=a;have c:=MapKept.run_findKey (P:=prog) (w:=w) underlying3 a;unfold Instr.lookup;simp[xy underlying124,MapKept.run_getObj_map hb,d,c]
namespace Pv
def oJ(m:jy)(n:Nat):aj kz:=if m.kind=1 then aBr m n else if m.kind=2 then PM m n else if m.kind=3 then Y1 m n else if m.kind=4 then V3 m n else if m.kind=5 then Ux m n else if m.kind=6 then uZ m n else tC m n
def lJ(m:jy):aj kz:=(kY m).bind fun _=>(aj.jf 3 16).bind fun n=>oJ m n
def bU(m:jy):aj kz:=aj.catch kH (lJ m)
theorem aWw{T:bi}{O:qy}(h:OB O):OB (kS T O):=by intro l r a;unfold kS at a;split at a;cases a;exact (by decide:(0:Nat)<=1000000);split at a;cases a;exact h l r a
def Fa(D:Dv):Prop:=∀ l X w b,D.pan l X w b->∃ T x a,b={ v:=.iface T x,recovered:=false }::a/\Y4 a/\(T=UU\/T=aEV)/\D.pan l X w ({ v:=.iface T x,recovered:=false }::{ v:=.iface T x,recovered:=true }::a)
def aUy(m:jy)(D:Dv)(X0:qo)(e:Ending)(w':ae):Prop:=
 (
  uj (go D.O (bU m) []).1/\e=.returned (.agg (mr (go D.O (bU m) []).1))/\D.inv (go D.O (bU m) []).2 X0 w') \/
  ∃ a l,e=.panicked a/\l <+: (go D.O (bU m) []).2/\D.O l=none/\D.pan l X0 w' a
theorem aBz(a:kw)(w:ae)(g:Nat)(b:kw)(c:b.size=55)(h3:a.getD 3 bz=.pointer (some ⟨g,0,none⟩))(d:f_ w g 40 b):(results Tryz.f45 a).run prog w=.ok (.agg b) w:=by have e:=jB d jF c;simp only[Yw] at h3;simp[results,results45,h3,asAddr,e]
def UR(a:Nat):List Deferred:=[{ target:=.fn (.func 46) #[.pointer (some ⟨a,0,none⟩)],args:=#[] }]
theorem yA{m:jy}{D:Dv}{X0 X:qo}{S:qo}{w0 w:ae}{a:List Yr}{l:jc}{d:kw}{g:Nat}{y:kw}(u:Fa D)(o:∀ l X Y w c a,D.pan l X w a->gu X w c->(∀ b,Y b->X b)->D.pan l Y c a)
  (B:∀ b,X0 b->X b) (t:X g) (I:w0.heap.size<=g) (q:(fZ qh D).pan l X w a) (hl:l <+: (go (kS qh D.O) (lJ m) []).2) (L:kS qh D.O l=none) (N:f_ w g 40 y) (F:y.size=55) (G:d.getD 3 bz=.pointer (some ⟨g,0,none⟩)) (hc:gu S w0 w) :
  Leaves prog Tryz.f45 d (fun e c=>gu S w0 c/\aUy m D X0 e c) (UR g) (.panicking a) w:=by
 rcases q with⟨q,hN,r⟩|⟨E,e,rfl,hN,A,rfl⟩
 ·obtain⟨T,x,k,rfl,H,K,p⟩:=u _ _ _ _ q;have j:∀ c,c=w->Leaves prog Tryz.f45 d (fun e c=>gu S w0 c/\aUy m D X0 e c) [] (raised (.panicking ({ v:=.iface T x,recovered:=true }::k)) [{ v:=.iface T x,recovered:=false }]) c:=by rintro c rfl;exact⟨hc,.inr ⟨_,l,rfl,aQt _ _ _ _ _ _ (aCr) hN hl,by rw[<-bAh qh D.O hN r];exact L,o _ _ _ _ _ _ p (gu.refl _ _) B⟩⟩
  rcases K with rfl|rfl
  ·refine leaves_cons (f:=46) (args:=#[.pointer (some ⟨g,0,none⟩)]) b_ (by simp[go_sem]) ?_;refine (bEd _ _ _ _).mono ?_;rintro e z c ⟨rfl,rfl,h⟩;exact j c h
  ·refine leaves_cons (f:=46) (args:=#[.pointer (some ⟨g,0,none⟩)]) b_ (by simp[go_sem]) ?_;refine (Ja _ _ _ _).mono ?_;rintro e z c ⟨rfl,rfl,h⟩;exact j c h
 ·refine leaves_cons (f:=46) (args:=#[.pointer (some ⟨g,0,none⟩)]) b_ (by simp[go_sem]) ?_;refine (bEf g y e [] w F N).mono ?_;rintro Q z c ⟨rfl,rfl,C,P⟩;have n:settle (.panicking ({ v:=.iface qh (.agg #[.int .i64 e]),recovered:=true }::[]))=.returning:=aAz (fun _ h=>by cases h);show Leaves _ _ _ _ _ (settle (.panicking ({ v:=.iface qh (.agg #[.int .i64 e]),recovered:=true }::[]))) _;rw[n];have s:=bIp kH qh D.O (lJ m) [] E e aCr hN hl;refine⟨_,aBz d c g _ (dH (aBn e)) G P,hc.trans' C (fun _ _ h=>h) (fun i A e=>a_),.inl ?_⟩;unfold bU;rw[s];exact⟨aBn e,rfl,D.grow _ _ _ _ _ A (C.mono fun i _ e=>e ▸ t) (fun b J=>.inl (B b J))⟩
def aj.o9{b:Type}:aj b->Prop
 |.ret _=>True|.ask a k=>a.kind = -1\/(yS a/\∀ r,aj.o9 (k r))
def aj.uw{b:Type}(R:b->Prop):aj b->Prop
 |.ret a=>R a|.ask a k=>a.kind = -1\/∀ r,aj.uw R (k r)
theorem o9.bind{c d:Type}{R:c->Prop}{p:aj c}{f:c->aj d}(h:aj.o9 p)(b:aj.uw R p)(g:∀ a,R a->aj.o9 (f a)):aj.o9 (p.bind f):=by
 induction p with
 |ret a=>exact g a b|ask a k e=>rcases h with h|⟨j,i⟩;exact .inl h;rcases b with b|b;exact .inl b;exact .inr ⟨j,fun r=>e r (i r) (b r)⟩
theorem uw.bind{b c:Type}{R:b->Prop}{S:c->Prop}{p:aj b}{f:b->aj c}(d:aj.uw R p)(g:∀ a,R a->aj.uw S (f a)):aj.uw S (p.bind f):=by
 induction p with
 |ret a=>exact g a d|ask a k e=>exact d.imp id fun h r=>e r (h r)
theorem uw.of{b:Type}{R:b->Prop}{p:aj b}(h:aj.All R p):aj.uw R p:=by
 induction p with
 |ret a=>exact h|ask a k c=>exact .inr fun r=>c r (h r)
theorem uw.yt{a:Type}(p:aj a):aj.uw (fun _=>True) p:=uw.of (aj.All.yt p)
theorem o9.bind'{b c:Type}{p:aj b}{f:b->aj c}(h:aj.o9 p)(d:∀ a,aj.o9 (f a)):aj.o9 (p.bind f):=o9.bind h (uw.yt p) fun a _=>d a
theorem iC(b:Bool)(e:Int):aj.o9 (gJ b e):=by cases b;exact .inl rfl;trivial
theorem vJ(b:Bool)(e:Int):aj.uw (fun _=>b=true) (gJ b e):=by cases b;exact .inl rfl;exact rfl
theorem bIo{c:Type}(k:Int->c){p:aj c}(h:aj.o9 p):aj.YG (aj.catch k p):=by
 induction p with
 |ret a=>trivial| ask a g d=>
  by_cases b:a.kind = -1
  ·have e:aj.catch k (.ask a g)=.ret (k a.pg):=by
    conv=>lhs;unfold aj.catch
    rw[rq b]
   rw[e];trivial
  rw[pW k g b];rcases h with h|⟨i,f⟩;exact absurd h b
  exact⟨i,fun r=>d r (f r)⟩
theorem aNd{b:Type}(k:Int->b){p:aj b}:∀ {n:Nat},p.Within n->(aj.catch k p).Within n:=by
 induction p with
 |ret a=>intro n _;cases n<;>trivial| ask a g d=>
  intro n h;cases n with
  |zero=>exact h.elim| succ n=>
   by_cases c:a.kind = -1
   ·have e:aj.catch k (.ask a g)=.ret (k a.pg):=by
     conv=>lhs;unfold aj.catch
     rw[rq c]
    rw[e];trivial
   rw[pW k g c];exact fun r=>d r (h r)
theorem dX{b:Type}(a:b)(n:Nat):(aj.ret a).Within n:=by cases n<;>trivial
theorem bBu(s:Int):(aj.rd s).Within 1:=fun _=>trivial
theorem aDw(s:Int)(b:l9):(aj.wr s b).Within 1:=fun _=>trivial
theorem dJ(b:Bool)(e:Int):(gJ b e).Within 1:=by cases b;exact fun _=>trivial;trivial
theorem aLn{a:Int}(hb:a=2\/a=3){b:Nat}(k:Nat)(c:3*b+k<48):aj.o9 (aj.Bv a (3*(b:Int)+k)):=.inr ⟨.inl ⟨.inl rfl,hb,⟨by show (0:Int)<=3*(b:Int)+k;omega,by show 3*(b:Int)+k<48;omega⟩,rfl⟩,fun _=>trivial⟩
theorem aEz{a:Int}(hb:a=2\/a=3){b:Nat}(k:Nat)(c:3*b+k<48):aj.o9 (aj.AQ a (3*(b:Int)+k)):=.inr ⟨.inl ⟨.inr rfl,hb,⟨by show (0:Int)<=3*(b:Int)+k;omega,by show 3*(b:Int)+k<48;omega⟩,rfl⟩,fun _=>trivial⟩
theorem aVw{a:Int}(hb:a=2\/a=3){b:Nat}(h:3*b+2<48):aj.o9 (aj.read a b):=o9.bind' (aLn hb 0 a_) fun _=>o9.bind' (aLn hb 1 a_) fun _=>o9.bind' (aLn hb 2 a_) fun _=>trivial
theorem aIj{a:Int}(hb:a=2\/a=3){b:Nat}(h:3*b+2<48):aj.o9 (aj.tq a b):=o9.bind' (aEz hb 0 a_) fun _=>o9.bind' (aEz hb 1 a_) fun _=>o9.bind' (aEz hb 2 a_) fun _=>trivial
theorem Hw{a:Int}(hb:a=2\/a=3):∀ (f b:Nat),b+f<=16->aj.o9 (aj.up a f b)
 |0,_,_=>trivial|f+1,b,h=>o9.bind' (aVw hb a_) fun x=>by
  cases x with
  |true=>exact Hw hb f (b+1) a_|false=>trivial
theorem aXd{a:Int}(hb:a=2\/a=3):∀ (r b:Nat),b+r<=16->aj.o9 (aj.down a r b)
 |0,_,_=>trivial|r+1,b,h=>o9.bind' (aIj hb a_) fun _=>aXd hb r (b+1) a_
theorem yF{a:Int}(hb:a=2\/a=3):aj.o9 (aj.jf a 16):=o9.bind (Hw hb 16 0 a_) (uw.of (Ew a 16 0)) fun m h=>o9.bind' (aXd hb m 0 a_) fun _=>trivial
theorem zV{a:Int}(hb:a=2\/a=3):∀ (f b:Nat),b+f<=16->aj.o9 (aj.ru a f b)
 |0,_,_=>trivial|f+1,b,h=>o9.bind' (aIj hb a_) fun _=>o9.bind' (aVw hb a_) fun x=>by
  cases x with
  |true=>exact zV hb f (b+1) a_|false=>trivial
theorem aSs{a:Int}(hb:a=2\/a=3)(t:Nat)(h:t<=16):aj.o9 (aj.o6 a 16 t):=o9.bind (yF hb) (uw.of (aFr a 16)) fun m c=>by by_cases b:m<=t;exact zV hb _ _ a_;rw[show t-m=0 from a_];trivial
theorem aIi{a:Int}(hb:a=2\/a=3)(t:Nat)(h:t<=16):aj.o9 (kC a t):=o9.bind' (aSs hb t h) fun _=>o9.bind' (iC _ _) fun _=>trivial
theorem zU(a:Int)(t:Nat)(h:t<=17):(kC a t).Within 199:=Within.mono (Within.bind (aHe a 16 t) fun _=>Within.bind (m:=0) (dJ _ _) fun _=>dX _ _) a_
theorem aFi(f:Nat)(h:f<16):aj.o9 (qP f):=o9.bind' (aIi (.inr rfl) (f+1) a_) fun _=>o9.bind' (iC _ _) fun _=>trivial
theorem vK(f:Nat)(h:f<=16):(qP f).Within 200:=Within.bind (zU 3 (f+1) a_) fun _=>Within.bind (m:=0) (dJ _ _) fun _=>dX _ _
theorem aAn:dG 3 0=48:=g_
theorem Md:dG 3 1=56:=g_
theorem aEh{f:Int}(h0:0<=f/\f+7<64):∀ (n:Nat) (b:dh),n<=8->aj.o9 (aj.w_ f n b)
 |0,_,_=>trivial|n+1,b,h=>o9.bind' (.inr ⟨.inr ⟨.inl ⟨rfl,rfl⟩,rfl,by show (0:Int)<=f+((7-n:Nat):Int);omega,by show f+((7-n:Nat):Int)<64;omega⟩,fun _=>trivial⟩) fun s=>aEh h0 n _ a_
theorem uP(f:Int):∀ (n:Nat) (b:dh),(aj.w_ f n b).Within n
 |0,_=>trivial|n+1,b=>by refine Within.mono ?_ (Nat.le_of_eq (ZB 1 n));exact Within.bind (bBu _) fun s=>uP f n _
theorem bIf:aj.o9 (aj.cur 3):=o9.bind' (aEh (by rw[aAn];omega) 8 [] (dC _)) fun _=>o9.bind' (aEh (by rw[Md];omega) 8 [] (dC _)) fun _=>trivial
theorem aJj:(aj.cur 3).Within 16:=Within.bind (m:=8) (uP _ 8 []) fun _=>Within.bind (m:=0) (uP _ 8 []) fun _=>dX _ _
theorem LU:aj.o9 (aj.load 3):=by unfold aj.load;rw[ay (by rw[aAn];omega)];exact o9.bind' bIf fun _=>trivial
theorem aTk:(aj.load 3).Within 16:=by unfold aj.load;rw[ay (by rw[aAn];omega)];exact Within.bind (m:=0) aJj fun _=>dX _ _
theorem dR(b:dh)(k:Nat):(l7 b k).length=256:=by unfold l7;rw[gp,Z_,xe];omega
theorem bBp{s:Int}{b:l9}(h0:0<=s/\s<64)(hb:b.size=256):aj.o9 (aj.wr s b):=.inr ⟨.inr ⟨.inr ⟨rfl,hb⟩,rfl,h0⟩,fun _=>trivial⟩
theorem bBm{f:Int}(h0:0<=f/\f+7<64)(b:dh):∀ (n i:Nat),i+n<=8->aj.o9 (aj.Hf f b n i)
 |0,_,_=>trivial|n+1,i,h=>o9.bind' (bBp ⟨a_,a_⟩ (by rw[aW,dR])) fun _=>bBm h0 b n (i+1) a_
theorem aHt(f:Int)(b:dh):∀ (n i:Nat),(aj.Hf f b n i).Within n
 |0,_=>trivial|n+1,i=>by refine Within.mono ?_ (Nat.le_of_eq (ZB 1 n));exact Within.bind (aDw _ _) fun _=>aHt f b n (i+1)
theorem bEw{b:dh}(h:b.length<=2040):nsec b<=8:=by unfold nsec;omega
theorem bHr(rec seq:Int){c:dh}(h:c.length<=2000):(encS rec seq c).length<=2040:=by have b:=aQ seq;have a:=aQ (c.length:Int);rw[nG,pV];omega
theorem bBo{f:Int}(h0:0<=f/\f+7<64){b:dh}(hb:b.length<=2040):aj.o9 (aj.write f b):=o9.bind' (bBp ⟨a_,a_⟩ (by rw[aW];exact Z_)) fun _=>o9.bind' (bBm h0 b _ _ (by have:=bEw hb;omega)) fun _=>bBp ⟨a_,a_⟩ (by rw[aW,dR])
theorem aMu{f:Int}{b:dh}(hb:b.length<=2040):(aj.write f b).Within 9:=Within.bind (m:=8) (aDw _ _) fun _=>Within.mono (Within.bind (m:=1) (aHt f b _ _) fun _=>aDw _ _) (by have:=bEw hb;omega)
theorem Mc{k:Nat}(h:k<=1):0<=dG 3 (1-(k:Int))/\dG 3 (1-(k:Int))+7<64:=by
 have:k=0\/k=1:=a_
 rcases this with rfl|rfl<;>decide
theorem O3:aj.All (fun p:(Int×dh)×Nat=>p.2<=1) (aj.cur 3):=by
 unfold aj.cur;refine aj.All.bind (R:=fun _=>True) (aj.All.yt _) (fun a _=>?_);refine aj.All.bind (R:=fun _=>True) (aj.All.yt _) (fun b _=>?_);show (xu (qw 3 a) (qw 3 b)).2<=1;unfold xu
 split<;>omega
theorem J5(c:l9):aj.o9 (aj.save 3 c):=by
 unfold aj.save;rw[ay (by rw[aAn];omega)];split
 trivial;rename_i b;refine o9.bind bIf (uw.of O3) fun p a=>?_
 split
 trivial;exact o9.bind' (bBo (Mc a) (bHr _ _ (by rw[uA];exact Nat.le_of_not_lt b))) fun _=>trivial
theorem aSd(c:l9):(aj.save 3 c).Within 25:=by
 unfold aj.save;rw[ay (by rw[aAn];omega)];split
 trivial;rename_i a;refine Within.bind (m:=9) aJj fun p=>?_
 split
 trivial;exact Within.bind (m:=0) (aMu (bHr _ _ (by rw[uA];exact Nat.le_of_not_lt a))) fun _=>dX _ _
theorem aUe{root:dh}{s:l9}(h:(xB root s).2=true):0<=(xB root s).1.level/\(xB root s).1.level<=16:=by
 unfold xB at h ⊢;cases a:wV root s.data.toList with
 |Dk=>rw[a] at h;cases h|EI=>rw[a] at h;cases h|okR p=>rw[a] at h;unfold P7 at h ⊢;dsimp only at h ⊢;unfold WG at h ⊢;split at h;cases h;rename_i b;rw[ay b];unfold WE at h ⊢;have:=of_decide_eq_true h;exact⟨this.2.2.2.1,this.2.2.2.2.1⟩
def aHA(r:l_):Prop:=0<=r.level/\r.level<=16
theorem aLl(m:jy):aj.o9 (tu m):=o9.bind' LU fun _=>o9.bind' (iC _ _) fun _=>o9.bind' (iC _ _) fun _=>trivial
theorem bGo(m:jy):aj.uw aHA (tu m):=uw.bind (uw.yt _) fun _ _=>uw.bind (uw.yt _) fun _ _=>uw.bind (vJ _ _) fun _ h=>aUe h
theorem yM(m:jy):(tu m).Within 18:=Within.bind (m:=2) aTk fun _=>Within.bind (m:=1) (dJ _ _) fun _=>Within.bind (m:=0) (dJ _ _) fun _=>dX _ _
theorem aKt(m:jy)(r:l_):aj.o9 (AX m r):=o9.bind' (J5 _) fun _=>o9.bind' (iC _ _) fun _=>trivial
theorem xZ(m:jy)(r:l_):(AX m r).Within 26:=Within.bind (m:=1) (aSd _) fun _=>Within.bind (m:=0) (dJ _ _) fun _=>dX _ _
theorem aEv(f:Nat):aj.o9 (oD f):=o9.bind' (iC _ _) fun _=>o9.bind' (iC _ _) fun _=>trivial
theorem aIh(f:Nat):aj.uw (fun _=>f<16) (oD f):=uw.bind (uw.yt _) fun _ _=>uw.bind (vJ _ _) fun _ h=>by have:=of_decide_eq_true h;show f<16;omega
theorem vC(f:Nat):(oD f).Within 2:=Within.bind (m:=1) (dJ _ _) fun _=>Within.bind (m:=0) (dJ _ _) fun _=>dX _ _
theorem aGt(m:jy){f:Nat}(a:f<16)(p:l9):aj.o9 (mJ m f p):=o9.bind' (aKt _ _) fun _=>o9.bind' (aFi f a) fun _=>trivial
theorem xN(m:jy){f:Nat}(a:f<=16)(p:l9):(mJ m f p).Within 226:=Within.bind (m:=200) (xZ _ _) fun _=>Within.bind (m:=0) (vK f a) fun _=>dX _ _
theorem bGd(m:jy){f:Nat}(e:f<=16):aj.o9 (oJ m f):=by
 unfold oJ;split;exact o9.bind (aEv f) (aIh f) fun _ h=>o9.bind' (aGt m h _) fun _=>trivial;split;refine o9.bind (aLl m) (bGo m) fun r b=>o9.bind (iC _ _) (vJ _ _) fun _ h=>o9.bind' ?_ fun _=>?_;cases d:(((f % 2:Nat):Int)==0) with
 |false=>trivial| true=>
  refine aFi f ?_;have c:((f % 2:Nat):Int)=0:=by simpa using d
  have g:r.level=((f+1-f % 2:Nat):Int):=by
   cases a:(r.kind==1) with
   |false=>rw[a] at h;cases h|true=>rw[a] at h;simpa using h
  have:=b.2;omega
 exact o9.bind' (yF (.inl rfl)) fun n=>o9.bind (iC _ _) (vJ _ _) fun _ h=>o9.bind' (aIi (.inl rfl) (n+1) (by have:=of_decide_eq_true h;omega)) fun _=>trivial;split;exact o9.bind' (iC _ _) fun _=>o9.bind' (aKt _ _) fun _=>trivial;split;exact o9.bind' (aEv f) fun _=>trivial;split;refine o9.bind (iC _ _) (vJ _ _) fun _ h=>o9.bind' (aLl m) fun _=>o9.bind' (iC _ _) fun _=>o9.bind' (aFi f ?_) fun _=>o9.bind' (aKt _ _) fun _=>trivial;have c:((f % 2:Nat):Int)=1:=by simpa using h
 omega;split
 exact o9.bind' (iC _ _) fun _=>o9.bind' (aLl m) fun _=>o9.bind' (iC _ _) fun _=>trivial;exact o9.bind (aEv f) (aIh f) fun _ h=>o9.bind' (iC _ _) fun _=>o9.bind' (iC _ _) fun _=>o9.bind' (iC _ _) fun _=>o9.bind' (aGt m h _) fun _=>trivial
theorem aPc(m:jy){f:Nat}(a:f<=16):(oJ m f).Within 700:=by
 unfold oJ;split;exact Within.mono (Within.bind (m:=226) (vC f) fun _=>Within.bind (m:=0) (xN m a _) fun _=>dX _ _) a_;split;refine Within.mono (Within.bind (m:=1+(200+296)) (yM m) fun r=>Within.bind (m:=200+296) (dJ _ _) fun _=>Within.bind (m:=296) ?_ fun _=>?_) a_;cases (((f % 2:Nat):Int)==0) with
 |false=>trivial|true=>exact vK f a
 exact Within.OL (m:=200) (qL 2 16) (aBh 2 16) fun n b=>Within.bind (m:=199) (dJ _ _) fun _=>Within.bind (m:=0) (zU 2 (n+1) a_) fun _=>dX _ _;split;exact Within.mono (Within.bind (m:=26) (dJ _ _) fun _=>Within.bind (m:=0) (xZ _ _) fun _=>dX _ _) a_;split;exact Within.mono (Within.bind (m:=0) (vC f) fun _=>dX _ _) a_;split;exact Within.mono (Within.bind (m:=18+(1+(200+26))) (dJ _ _) fun _=>Within.bind (m:=1+(200+26)) (yM m) fun _=>Within.bind (m:=200+26) (dJ _ _) fun _=>Within.bind (m:=26) (vK f a) fun _=>Within.bind (m:=0) (xZ _ _) fun _=>dX _ _) a_;split;exact Within.mono (Within.bind (m:=19) (dJ _ _) fun _=>Within.bind (m:=1) (yM m) fun _=>Within.bind (m:=0) (dJ _ _) fun _=>dX _ _) a_;exact Within.mono (Within.bind (m:=229) (vC f) fun _=>Within.bind (m:=228) (dJ _ _) fun _=>Within.bind (m:=227) (dJ _ _) fun _=>Within.bind (m:=226) (dJ _ _) fun _=>Within.bind (m:=0) (xN m a _) fun _=>dX _ _) a_
theorem bAv(m:jy):aj.o9 (kY m):=by
 refine o9.bind' (iC _ _) fun _=>o9.bind' ?_ fun _=>trivial;unfold tX
 repeat' split
 all_goals first
  |exact iC _ _
  |trivial
theorem aMf(m:jy):(kY m).Within 2:=by
 refine Within.bind (m:=1) (dJ _ _) fun _=>Within.bind (n:=1) (m:=0) ?_ fun _=>dX _ _;unfold tX
 repeat' split
 all_goals first
  |exact dJ _ _
  |trivial
theorem aKu(m:jy):aj.YG (bU m):=bIo _ (o9.bind' (bAv m) fun _=>o9.bind (yF (.inr rfl)) (uw.of (aBh 3 16)) fun _ a=>bGd m a)
theorem aOj(m:jy):(bU m).Within 900:=aNd _ (Within.mono (Within.bind (m:=96+700) (aMf m) fun _=>Within.OL (m:=700) (qL 3 16) (aBh 3 16) fun n a=>aPc m a) a_)
section
variable {P:dE} {I:je}
def aLp(g:jl->Option (Prop×PV)):Spec:=fun _ e=>match e with
 | [d,.w (.one (.ow x b n a len))]=>.obj x fun k h j=>jE k (match bu b h,Hm x dx,j with
  |true,true,.arr _ m c f=>(match bu n m,sJ d,g [d,dm (.sl n len (fun i=>f (a+i)))] with
   |true,true,some (p,r)=>.need ((a+len<=c/\∀ i,i<len->(f (a+i)).all (aY false)=true)/\p) (.upd x (b+1) .dead (.ret r))|_,_,_=>.fail)
  |_,_,_=>.fail)
 |_=>.fail
theorem bAe {f:Nat} {g:jl->Option (Prop×PV)} (H:∀ args w,(callFunc f args).run P w=.ok (.enter f args) w) (hg:∀ C p r,g C=some (p,r)->p->fF P I f false C r):d_ P I f (aLp g):=by
 refine⟨H,fun A s a w O nm a5 vs F h hI hv d=>?_⟩;unfold aLp at d;split at d
 ·rename_i T x c n k len;obtain⟨gd,vr,ob,a0,d⟩:=d;have Y:=dD d;clear d;obtain⟨Z,d⟩:=Y;obtain⟨hd,l,V⟩:=jQ h a0 Z
  cases j:bu c vr<;>cases N:Hm x dx<;>cases ob<;>simp only[j,N] at d<;>try exact d.elim
  rename_i e m U f';obtain rfl:=ig j
  cases L:bu n m<;>cases K:sJ T<;>cases hq:g [T,dm (.sl n len (fun i=>f' (k+i)))]<;>simp only[L,K,hq] at d<;>try exact d.elim
  rename_i q;obtain⟨p,r⟩:=q;obtain rfl:=ig L;obtain⟨⟨⟨X,z⟩,hp⟩,_,hF⟩:=d
  match vs,hv with
  | [x0, x1],⟨k0,k1,_⟩=>
   cases k1 with
   | w k1=>cases k1 with
    | one k1=>cases k1 with
     | ow h1 a2=>
      obtain⟨A0,n0,c0,rfl,a4,rfl⟩:=a2.now l;obtain⟨C,G,a1⟩:=V;have E:=Reads.zk G;have W:n0=U:=by obtain⟨_,A1,c1,e1,_⟩:=E;cases e1;rfl
      subst W;obtain⟨h',hL⟩:=h.upd (w':=w) x none (c+1) (.bool false) .dead (gu.refl _ _) (fun a3 a7 Q=>by rw[l] at Q;cases Q;exact .inl (Nat.lt_succ_self _)) (fun b j=>by cases j) (fun _ _=>trivial)
      have B:o5 { w:=w,ok:=(aI A w (zt O x (c+1) (.bool false))).ok,env:=fun _=>none } [T,dm (.sl n len (fun i=>f' (k+i)))] [x0,.slice (A0.map (·.add (k*n))) len (c0-k)]:=by
       refine⟨(aXj k0 K).le ⟨dC _,fun b j u=>⟨(hL.blk b j u).1,rfl⟩,fun _ _ _ h=>by cases h⟩,.w (.one (.sl (vs:=(C.drop (k*n)).take (len*n)) (mY X E) (fun b j a6=>?_) (fun i hi=>?_))),trivial⟩
       have J:hblk (.slice A0 n0 c0)=some b:=by
        cases A0 with
        |none=>simp[Yz] at j|some ad=>simp only[Option.map_some,Yz,Option.some.injEq,qI] at j;simp[hblk,j]
       obtain⟨j1,j2⟩:=h.live x c _ b l J;refine⟨⟨.inr (j2.resolve_right (fun hs=>?_)),fun y vy hy Q D=>?_⟩,j1⟩;have:=Yp hs.2;have:=Yp N;omega;have o:zt O x (c+1) (.bool false) y=some (vy,hy):=Q;by_cases t:y=x;subst t;rw[fO] at o;cases o;cases D;rw[kK t] at o;exact t (h.inj y x vy hy c _ b o l D J);rw[jT C hi];exact (jK (a1 _ a_) (z i hi)).le ⟨dC _,fun b j u=>⟨(hL.blk b j u).1,rfl⟩,fun _ _ _ h=>by cases h⟩
      refine (hg _ p r hq hp w _ _ (hI.mem w h.iq) B).mono ?_;rintro e w' ⟨S,rfl,hE,hr⟩;exact .inl ⟨r,[(x,none,c+1,.dead)],S,_,rfl,hF,h'.ext hE,hr.le (bDn (new:=false) h' hE)⟩
 exact d.elim
theorem WX:jq prog af (find ([]:List (Nat×Spec))):=⟨bG (fun p a=>by cases a),dV⟩
def ED:dh:=PR 256 0
def D7:Fl:=PR 128 (strOf ED)
theorem HY(n:Nat):rowB n (fun _=>[PC.lit (.int .u8 0)])=PR n 0:=by unfold rowB;rw[List.eq_replicate_iff];refine⟨b_,fun b a=>?_⟩;obtain⟨_,_,rfl⟩:=List.mem_map.1 a;rfl
def Vy:Nat->dw:=fun _=>[.lit (.string (strOf ED))]
def UV(k:Nat):St:=⟨[(0,none,iy 128),(2,none,dm (.pt 0 0 0)),(4,none,dm (.pt 3001 0 0)),(5,none,iy k)],[(0,none,0,.box 63 [.lit (.slice none 0 0)]),(3001,none,0,.box 63 [.ow 7005 0 1 0 k]),(7005,none,0,.arr 9 1 k Vy)]⟩
theorem KI:fF prog af 64 true [iy 128] (.og [.agg (XB D7),.one (.lit (.int .i64 0))]):=by
 have M:=WX;have l:prog.types[9].bytes=16:=ah;have h:prog.types[5].bytes=1:=ah;have m:prog.types[9].size=1:=ah;refine bD func64 rfl rfl bJ (fun A s o q=>?_);refine aN ?_;refine bC (fun c=>?_) (fun c=>?_);cases c;refine iK ?_;refine lM ?_;refine bF (s':=UV 0) (fun a w f=>((f.BV (x:=7005) (b:=3001) (e:=9) (n:=1) (l1:=[]) ai ai).reset (kT:=[0,2,4,5]) (kO:=[0,3001,7005]) ai b_).same ?_ ?_) ?_;exact jg;exact .cb (.cb (.cons (.arr rfl (fun i g=>a_)) .nil));refine aS ?_;refine fJ 128 (fun k t=>t=UV k) 0 rfl a_ (fun k t p r=>?_);subst p;refine bC (fun c=>?_) (fun c=>?_);have d:k<128:=by have:=of_decide_eq_true c;omega
 refine jM ?_;refine aS ?_;refine aX M q o (ai) ah ?_ ?_;simp[l,h];exact⟨fun _ _=>rfl,a_⟩;change jw _ _ _ _ _;refine fP ?_;intro a w f;refine⟨k+1,_,a_,a_,rfl,(f.reset (kT:=[0,2,4,5]) (kO:=[0,3001,7005]) ai ?_).same ?_ ?_⟩;simp;exact wC (fun j _=>aDl rfl) (aDl rfl);exact .cr (.cr (.cr (.cons (by rw[fH k a_]) .nil)));exact .cb (.cb (.cons (.arr rfl (aXu (fun i _=>rfl) (by show[PC.lit (.string ⟨(rowB 256 (fun _=>[PC.lit (.int .u8 0)])).toArray⟩)]=Vy k;rw[HY];rfl))) .nil));have d:k=128:=by have:=of_decide_eq_false c;omega
 subst d;refine dY ?_;change jw _ _ _ _ _;refine aN ?_;refine bI (fun a w f=>⟨.inr rfl,_,?_,f⟩);refine rX (ai) b_ ai ?_;refine .og (.cons (.agg (.cons (.row rfl trivial a_ (fun i g=>?_) (fun i g=>rfl)) .nil)) (.cons (.one (.cold rfl)) .nil));rw[ik];unfold Vy uo D7;rw[zG,aAG,au g];rfl
def Gn:List Int:=PR 48 0
def Jy(k:Nat):y5:=PR k Gn
def GU:Nat->dw:=fun _=>[.lit (.int .i64 16)]
def z8F:Nat->dw:=fun _=>[.lit (.int .u8 0)]
def Qp:Nat->dw:=fun _=>[.sl 1 48 z8F]
theorem bEv{i:Nat}(a:i<4):Qp i=dK (Jy 4) i:=by
 unfold Qp dK Jy;rw[zG,aAG,au a]
 show[PC.sl 1 48 z8F]=[PC.sl 1 48 (Bi Gn)]
 have:z8F=Bi Gn:=by
  funext j;unfold z8F Bi Gn;rw[zG,aAG]
  split<;>rfl
 rw[this]
def UW(k:Nat):St:=⟨[(0,none,dm (.sl 1 4 GU)),(2,none,dm (.pt 0 0 0)),(4,none,dm (.pt 1000 0 0)),(5,none,iy k)],[(0,none,0,.box 60 [.lit (.slice none 0 0)]),(1000,none,0,.box 60 [.ow 9009 0 1 0 k]),(9009,none,0,.arr 74 1 k Qp)]⟩
theorem KL:fF prog af 63 false [dm (.sl 1 4 GU)] (.og [.agg [.sl 1 4 (dK (Jy 4))],.one (.lit (.int .i64 0))]):=by
 have M:=WX;have l:prog.types[74].bytes=24:=ah;have j:prog.types[5].bytes=1:=ah;have o:prog.types[74].size=1:=ah;refine bD func63 rfl rfl bJ (fun A q p s=>?_);refine mQ ?_;refine bC (fun c=>?_) (fun c=>?_);cases c;refine jM ?_;refine aN ?_;refine bF (s':=UW 0) (fun a w f=>((f.BV (x:=9009) (b:=1000) (e:=74) (n:=1) (l1:=[]) ai ai).reset (kT:=[0,2,4,5]) (kO:=[0,1000,9009]) ai b_).same ?_ ?_) ?_;exact jg;exact .cb (.cb (.cons (.arr rfl (fun i g=>a_)) .nil));refine aS ?_;refine fJ 4 (fun k t=>t=UW k) 0 rfl a_ (fun k t r u=>?_);subst r;refine bC (fun c=>?_) (fun c=>?_);have d:k<4:=by have:=of_decide_eq_true c;omega
 refine jM ?_;refine aS ?_;refine xU ?_ ?_;simp;omega;refine dU (fun c=>?_) (fun c=>?_);cases c;refine jD ?_;refine aX M s p (ai) ah ?_ ?_;simp[l,j];have m:IntKind.wrap .i64 48=48:=g_;exact⟨a_,by rw[m];omega,a_⟩;change jw _ _ _ _ _;refine fP ?_;intro a w f;refine⟨k+1,_,a_,a_,rfl,(f.ul (R:=[(9009,Qp)]) (kF:=[9007]) (kT:=[0,2,4,5]) (kO:=[0,1000,9009]) (.inr q) ai ?_).same ?_ ?_⟩;simp;refine⟨fun i g=>?_,fun i _=>?_⟩;by_cases h:i<k;unfold uh;rw[au h];rfl;obtain rfl:i=k:=a_;unfold uh;rw[ay h,Yf];rfl;rfl;exact .cr (.cr (.cr (.cons (by rw[fH k a_]) .nil)));exact BR;have d:k=4:=by have:=of_decide_eq_false c;omega
 subst d;refine dY ?_;change jw _ _ _ _ _;refine aN ?_;refine bI (fun a w f=>⟨.inr rfl,_,?_,f⟩);refine rX (ai) b_ ai ?_;refine .og (.cons (.agg (.cons (.row rfl trivial a_ (fun i g=>?_) (fun i g=>rfl)) .nil)) (.cons (.one (.cold rfl)) .nil));rw[ik];exact bEv g
def D5(root:dh):jd:=⟨Jy 4,D7,root⟩
def KJ:jl->Option (Prop×PV)
 |[.w (.one (.lit (.int .i64 n)))]=>some (n=128,.og [.agg (XB D7),.one (.lit (.int .i64 0))])|_=>none
theorem bFa:d_ prog af 64 (aU true KJ):=by refine aT (aB func64 ah rfl) (fun c p r a b=>?_);unfold KJ at a;split at a;cases a;obtain rfl:_=(128:Int):=b;exact KI;cases a
def KN:jl->Option (Prop×PV)
 |[.w (.one (.sl 1 n f))]=>some (n=4/\∀ i,i<4->f i=GU i,.og [.agg [.sl 1 4 (dK (Jy 4))],.one (.lit (.int .i64 0))])|_=>none
theorem aNq{C:Ctx}{n:Nat}{f g:Nat->dw}{v:ag}(h:RV C (dm (.sl 1 n f)) v)(a:∀ i,i<n->f i=g i):RV C (dm (.sl 1 n g)) v:=by
 cases h with
 |w h=>cases h with
  |one h=>exact .w (.one (h.Ar a))
theorem bFb:d_ prog af 63 (aU false KN):=by
 refine aT (aB func63 ah rfl) (fun f p r a e=>?_);unfold KN at a;split at a;cases a;obtain⟨rfl,h⟩:=e
 exact KL.args fun C b d=>by
  match b,d with
  |[x],⟨c,_⟩=>exact⟨aNq c h,trivial⟩
 cases a
def nwL:List (Nat×Spec):=[(63,aU false KN),(64,aU true KJ)]
theorem aDG:∀ p∈nwL,d_ prog af p.1 p.2:=by intro p a;simp only[nwL,zg,YP,or_false] at a;rcases a with rfl|rfl;exact bFb;exact bFa
theorem nwM:jq prog af (find nwL):=⟨bG aDG,dV⟩
theorem KG(root:dh):fF prog af 33 false [.w (.agg [.bs 16 root]),dm (.sl 1 4 GU)] (.og [.agg (p_ (D5 root)),.one (.lit (.int .i64 0))]):=by have M:=nwM;refine bD func33 rfl rfl bJ (fun A e d f=>?_);refine mQ ?_;refine bC (fun b=>?_) (fun b=>?_);cases b;refine iK ?_;refine aN ?_;refine bI (fun a w c=>⟨.inr rfl,_,?_,c⟩);refine rX (ai) b_ ai ?_;refine .og (.cons (.agg (.cons (.cold rfl) (.cons (.cold rfl) (.cons (.cold rfl) .nil)))) (.cons (.one (.cold rfl)) .nil))
def KH:jl->Option (Prop×PV)
 |[.w (.agg [.bs 16 root]),.w (.one (.sl 1 n f))]=>some (n=4/\∀ i,i<4->f i=GU i,.og [.agg (p_ (D5 root)),.one (.lit (.int .i64 0))])|_=>none
theorem bEz:d_ prog af 33 (aLp KH):=by
 refine bAe (aB func33 ah rfl) (fun f p r a e=>?_);unfold KH at a;split at a;cases a;obtain⟨rfl,h⟩:=e
 exact (KG _).args fun C b d=>by
  match b,d with
  |[x,y],⟨c,k1,_⟩=>exact⟨c,aNq k1 h,trivial⟩
 cases a
variable {α β:Type}
def uf:aj α->jd->Except Int α×jd
 |.ret a,h=>(.ok a,h)|.ask c k,h=>if c.kind = -1 then (.error c.pg,h) else uf (k (dM h c AA).2.1) (dM h c AA).1
def nfB(f:α->jd->Except Int β×jd):Except Int α×jd->Except Int β×jd
 |(.ok a,h)=>f a h|(.error e,h)=>(.error e,h)
theorem aLa(p:aj α)(f:α->aj β):∀ h,uf (p.bind f) h=nfB (fun a h=>uf (f a) h) (uf p h):=by
 induction p with
 |ret a=>intro h;rfl|ask c k d=>intro h;show uf (.ask c fun r=>(k r).bind f) h=_;rw[uf,uf];by_cases b:c.kind = -1;rw[au b,au b];rfl;rw[ay b,ay b];exact d _ _
theorem bQ{p:aj α}{f:α->aj β}{h b:jd}{a:α}(c:uf p h=(.ok a,b)):uf (p.bind f) h=uf (f a) b:=by rw[aLa,c];rfl
theorem aKz{p:aj α}{f:α->aj β}{h a:jd}{e:Int}(b:uf p h=(.error e,a)):uf (p.bind f) h=(.error e,a):=by rw[aLa,b];rfl
def TQ(k:Int->α):Except Int α->α
 |.ok a=>a|.error e=>k e
theorem aTy(k:Int->α)(p:aj α):∀ h i,∃ n,cZ [] (aj.catch k p) h i=(some (TQ k (uf p h).1),(uf p h).2,n):=by
 induction p with
 |ret a=>intro h i;exact⟨i,rfl⟩|ask c g d=>intro h i;rw[uf];by_cases b:c.kind = -1;rw[au b];unfold aj.catch;rw[rq b];exact⟨i,rfl⟩;rw[ay b];rw[pW k g b,cZ];have e:dP [] i=AA:=rfl;rw[e,ay g_];exact d _ _ _
theorem cO(e:Int)(h:jd):uf (gJ true e) h=(.ok (),h):=rfl
theorem xJ(e:Int)(h:jd):uf (gJ false e) h=(.error e,h):=rfl
def cl(n:Nat):List Int:=PR (3*n) 2++PR (48-3*n) 0
def qi(c2 a:List Int)(f:Fl)(r:dh):jd:=⟨[Gn,Gn,c2,a],f,r⟩
theorem Xg:Gn=cl 0:=rfl
def oh{α:Type}(B:Int)(Q:α->List Int->Prop)(C:List Int->Prop):aj α->List Int->Prop
  |.ret a,c=>Q a c|.ask a k,c=>a.pg=B/\a.bytes=aG/\∃ j:Nat,a.cell=(j:Int)/\j<48 /\
      (
       (a.kind=1/\C c/\∀ b,oh B Q C (k ⟨dF (cell c j) b,aG⟩) c) \/
       (a.kind=2/\C (c.set j (iL (cell c j) true))/\oh B Q C (k jY) (c.set j (iL (cell c j) false))))
variable {B:Int} {C C':List Int->Prop} {c:List Int}
theorem oh.mono{Q g:α->List Int->Prop}(l:∀ a c,Q a c->g a c)(hc:∀ c,C c->C' c){p:aj α}:∀ {c:List Int},oh B Q C p c->oh B g C' p c:=by
 induction p with
 |ret a=>intro c h;exact l _ _ h|ask a k f=>rintro c ⟨q,o,j,n,m,b⟩;refine⟨q,o,j,n,m,?_⟩;rcases b with⟨b,e,d⟩|⟨b,e,d⟩;exact .inl ⟨b,hc _ e,fun i=>f _ (d i)⟩;exact .inr ⟨b,hc _ e,f _ d⟩
theorem oh.bind{Q:β->List Int->Prop}{p:aj α}{f:α->aj β}:∀ {c:List Int},oh B (fun a c=>oh B Q C (f a) c) C p c->oh B Q C (p.bind f) c:=by
 induction p with
 |ret a=>intro c h;exact h|ask a k g=>rintro c ⟨o,n,j,m,l,b⟩;refine⟨o,n,j,m,l,?_⟩;rcases b with⟨b,e,d⟩|⟨b,e,d⟩;exact .inl ⟨b,e,fun i=>g _ (d i)⟩;exact .inr ⟨b,e,g _ d⟩
theorem oh.Bv{Q:β->List Int->Prop}{f:Int->aj β}(j:Nat)(x:Int)(b:x=(j:Int))(d:j<48)(e:C c)(h:∀ a,oh B Q C (f (dF (cell c j) a)) c):oh B Q C ((aj.Bv B x).bind f) c:=⟨rfl,rfl,j,b,d,.inl ⟨rfl,e,h⟩⟩
theorem oh.AQ{Q:β->List Int->Prop}{f:Unit->aj β}(j:Nat)(x:Int)(a:x=(j:Int))(b:j<48)(d:C (c.set j (iL (cell c j) true)))(h:oh B Q C (f ()) (c.set j (iL (cell c j) false))):oh B Q C ((aj.AQ B x).bind f) c:=⟨rfl,rfl,j,a,b,.inr ⟨rfl,d,h⟩⟩
theorem aQf(B:Int){b:Nat}(hb:b<16)(c:List Int):oh B (fun v a=>a=c/\(v=true->iD c true b=true)/\(v=false->iD c false b=false)) (fun a=>a=c) (aj.read B b) c:=by unfold aj.read;refine oh.Bv (3*b) _ a_ a_ rfl fun j=>oh.Bv (3*b+1) _ a_ a_ rfl fun i=>oh.Bv (3*b+2) _ a_ a_ rfl fun g=>?_;show c=c/\_;rw[bFo _ _ _ (oM _ _) (oM _ _) (oM _ _)];have f:=pO (cell c (3*b)) j;have e:=pO (cell c (3*b+1)) i;have d:=pO (cell c (3*b+2)) g;refine⟨rfl,fun h=>?_,fun h=>?_⟩;unfold iD;unfold cell at h f e d;simp only[decide_eq_true_eq] at h ⊢;omega;unfold iD;unfold cell at h f e d;simp only[decide_eq_false_iff_not] at h ⊢;omega
theorem aGj(B:Int){b:Nat}(hb:b<16)(c:List Int):oh B (fun _ d=>x_ c b (b+1) (b+1) d) (fun d=>x_ c b (b+1) b d) (aj.tq B b) c:=by unfold aj.tq;have a:Pul c b 0 c:=⟨EQ.refl _,fun j _=>rfl,fun j e f=>a_⟩;refine oh.AQ (3*b+0) _ a_ a_ (a.cut a_) (oh.AQ (3*b+1) _ a_ a_ (a.step.cut a_) (oh.AQ (3*b+2) _ a_ a_ (a.step.step.cut a_) ?_));have h:=a.step.step.step;exact⟨h.BP,fun j g=>h.out j a_,fun j e f=>h.done j e a_⟩
theorem bHz(B:Int)(a:List Int):∀ f n,n+f<=16->oh B (fun m c=>c=a/\n<=m/\m<=n+f/\(∀ b,n<=b->b<m->iD a true b=true)/\(m<n+f->iD a false m=false)) (fun c=>c=a) (aj.up B f n) a
 |0,n,_=>⟨rfl,dC _,dC _,fun b g i=>a_,fun h=>a_⟩| f+1,n,q=>by
  unfold aj.up;refine oh.bind (oh.mono ?_ (fun _ h=>h) (aQf B a_ a));rintro v c ⟨rfl,k,j⟩;cases v with
  |true=>refine oh.mono ?_ (fun _ h=>h) (bHz B c f (n+1) a_);rintro m c ⟨g,i,r,p,o⟩;refine⟨g,a_,a_,fun b l d=>?_,fun h=>o a_⟩;by_cases e:b=n;rw[e];exact k rfl;exact p b a_ d
  |false=>exact⟨rfl,dC _,a_,fun b g i=>a_,fun _=>j rfl⟩
theorem aQh(B:Int)(d:List Int)(a:Nat)(e:a<=16):∀ r b,b+r=a->∀ c,x_ d 0 a b c->oh B (fun _ c=>x_ d 0 a a c) (fun c=>x_ d 0 a 0 c) (aj.down B r b) c
 |0,b,f,c,h=>by rw[<-f];rw[<-f] at h;exact h|r+1,b,f,c,h=>by unfold aj.down;refine oh.bind (oh.mono ?_ ?_ (aGj B a_ c));intro _ i g;exact aQh B d a e r (b+1) a_ i (h.step g (dC _) (xn _) a_ a_);intro i g;have:=h.step g a_ (xn _) a_ (dC _);exact⟨this.BP,this.out,fun j l k=>a_⟩
theorem aQg(B:Int)(a:List Int):oh B (fun m c=>U3 a 16 m m c) (fun c=>c=a\/∃ m,U3 a 16 m 0 c) (aj.jf B 16) a:=by unfold aj.jf;refine oh.bind (oh.mono ?_ (fun c h=>.inl h) (bHz B a 16 0 (dC _)));rintro m c ⟨rfl,_,i,f,e⟩;refine oh.bind (oh.mono ?_ ?_ (aQh B c m a_ m 0 a_ c (x_.start c 0 m (xn _))));intro _ g h;exact⟨a_,fun b d=>f b (xn _) d,fun h=>e a_,h⟩;intro g h;exact .inr ⟨m,a_,fun b d=>f b (xn _) d,fun h=>e a_,h⟩
structure Bk(c:List Int)(n:Nat)(w:Bool):Prop where
 len:c.length=48
 val:∀ j,0<=cell c j/\cell c j<=2
 le:n<=16
 RP:∀ b,b<n->iD c false b=true
 noq:n<16->iD c false n=false
 Rx:∀ j,3*(n+w.toNat)<=j->cell c j=0
theorem Bk.weak{c:List Int}{n:Nat}{w:Bool}(h:Bk c n w):Bk c n true:=⟨h.len,h.val,h.le,h.RP,h.noq,fun j a=>h.Rx j (by have:(true:Bool).toNat=1:=rfl;cases w<;>simp at a ⊢<;>omega)⟩
theorem qJ{c:List Int}{b:Nat}(h:∀ j,3*b<=j->cell c j=0)(a:Bool):iD c a b=false:=by
 have f:=h (3*b) a_;have e:=h (3*b+1) a_;have d:=h (3*b+2) a_;unfold cell at f e d;unfold iD;rw[f,e,d]
 cases a<;>rfl
theorem OI{c g:List Int}{b:Nat}(h:∀ j,3*b<=j->cell g j=cell c j)(a:Bool):iD g a b=iD c a b:=by have f:=h (3*b) a_;have e:=h (3*b+1) a_;have d:=h (3*b+2) a_;unfold cell at f e d;unfold iD;rw[f,e,d]
theorem aUn{c:List Int}{b:Nat}(h:∀ j,3*b<=j->j<3*(b+1)->cell c j=2):iD c false b=true:=by have e:=h (3*b) a_ a_;have d:=h (3*b+1) a_ a_;have a:=h (3*b+2) a_ a_;unfold cell at e d a;unfold iD;rw[e,d,a];rfl
theorem Bk.EY{c a:List Int}{n:Nat}{w:Bool}(h:Bk c n w)(e:EQ c a)(j:Nat):0<=cell a j/\cell a j<=2:=by
 have:=h.val j
 rcases e.at_ j with b|b<;>omega
theorem Bk.lev{g c:List Int}{n m:Nat}{w:Bool}(h:Bk g n w)(l:U3 g 16 m m c):(m=n/\Bk c n w)\/(w=true/\m=n+1/\Bk c (n+1) false):=by
 have r:=h.le;have q:=l.le;have t:n<=m:=by rcases Yk m n with a|a;have:=l.low a_;rw[h.RP m a] at this;cases this;exact a
 have k:m<=n+w.toNat:=by rcases Yk (n+w.toNat) m with a|a;have:=l.high (n+w.toNat) a;rw[qJ (h.Rx) true] at this;cases this;exact a
 have d:c.length=48:=by rw[l.wu.BP.len];exact h.len
 by_cases e:m=n;subst e;exact .inl ⟨rfl,d,h.EY l.wu.BP,h.le,fun b p=>l.wu.BP.low (h.RP b p),fun a=>by rw[OI (fun j f=>l.wu.out j (.inr f))];exact h.noq a,fun j f=>by rw[l.wu.out j (.inr a_)];exact h.Rx j f⟩
 have i:w=true:=by cases w with
  |true=>rfl|false=>simp at k;omega
 subst i;have a:m=n+1:=by simp at k;omega
 subst a;refine .inr ⟨rfl,rfl,d,h.EY l.wu.BP,q,fun b p=>?_,fun a=>?_,fun j f=>?_⟩;refine aUn fun j x u=>?_;have s:=h.val j;rcases (by omega:cell g j<=1\/1<cell g j) with o|o;exact l.wu.done j (xn _) a_ (by have:=h.len;omega) o;have:=l.wu.BP.at_ j;omega;refine qJ (fun j f=>?_) false;rw[l.wu.out j (.inr f)];exact h.Rx j jr;rw[l.wu.out j (.inr (by simp at f;omega))];exact h.Rx j (by simp at f ⊢;omega)
theorem Bk.aMG{q c:List Int}{n m:Nat}{w:Bool}(h:Bk q n w)(l:U3 q 16 m 0 c):Bk c n w\/(w=true/\Bk c (n+1) false):=by
 have s:=h.le;have u:=l.le;have y:n<=m:=by rcases Yk m n with f|f;have:=l.low a_;rw[h.RP m f] at this;cases this;exact f
 have x:m<=n+w.toNat:=by rcases Yk (n+w.toNat) m with f|f;have:=l.high (n+w.toNat) f;rw[qJ (h.Rx) true] at this;cases this;exact f
 have d:c.length=48:=by rw[l.wu.BP.len];exact h.len
 have a:∀ j,3*(n+w.toNat)<=j->cell c j=0:=fun j g=>by rw[l.wu.out j (.inr a_)];exact h.Rx j g
 by_cases k:n<16->iD c false n=false;exact .inl ⟨d,h.EY l.wu.BP,h.le,fun b k=>l.wu.BP.low (h.RP b k),k,a⟩
 have i:n<16/\iD c false n=true:=by
  refine⟨?_,?_⟩;apply Decidable.byContradiction;intro o;exact k fun r=>absurd r o;cases o:iD c false n with
  |true=>rfl|false=>exact absurd (fun _=>o) k
 have p:w=true:=by cases w with
  |true=>rfl|false=>have:=qJ (b:=n) (c:=c) (fun j g=>a j (by simpa using g)) false;rw[this] at i;cases i.2
 subst p;refine .inr ⟨rfl,d,h.EY l.wu.BP,a_,fun b t=>?_,fun _=>qJ (fun j g=>a j (by simpa using g)) false,fun j g=>a j (by simp at g ⊢;omega)⟩;by_cases e:b=n;rw[e];exact i.2;exact l.wu.BP.low (h.RP b a_)
theorem Bk.pul{d c:List Int}{n:Nat}{w:Bool}(h:Bk d n w)(hn:n<16)(l:x_ d n (n+1) (n+1) c):Bk c (n+1) false:=by
 have f:∀ j,3*(n+1)<=j->cell c j=0:=fun j a=>by rw[l.out j (.inr a)];exact h.weak.Rx j (by simpa using a)
 refine⟨by rw[l.BP.len];exact h.len,h.EY l.BP,hn,fun b o=>?_,fun _=>qJ f false,fun j a=>f j (by simpa using a)⟩;by_cases e:b=n;subst e;refine aUn fun j k i=>?_;have m:=h.val j;rcases (by omega:cell d j<=1\/1<cell d j) with g|g;exact l.done j k i (by have:=h.len;omega) g;have:=l.BP.at_ j;omega;exact l.BP.low (h.RP b a_)
theorem Bk.aLP{k c:List Int}{n:Nat}{w:Bool}(h:Bk k n w)(hn:n<16)(l:x_ k n (n+1) n c):Bk c n true\/Bk c (n+1) false:=by
 have f:∀ j,3*(n+1)<=j->cell c j=0:=fun j a=>by rw[l.out j (.inr a)];exact h.weak.Rx j (by simpa using a)
 have d:∀ b,b<n->iD c false b=true:=fun b i=>l.BP.low (h.RP b i);cases g:iD c false n with
 |false=>exact .inl ⟨by rw[l.BP.len];exact h.len,h.EY l.BP,h.le,d,fun _=>g,fun j a=>f j (by simpa using a)⟩|true=>refine .inr ⟨by rw[l.BP.len];exact h.len,h.EY l.BP,hn,fun b i=>?_,fun _=>qJ f false,fun j a=>f j (by simpa using a)⟩;by_cases e:b=n;rw[e];exact g;exact d b a_
theorem aMb(B:Int){a:List Int}{n:Nat}{w:Bool}(h:Bk a n w):oh B (fun m c=>(m=n/\Bk c n w)\/(w=true/\m=n+1/\Bk c (n+1) false)) (fun c=>Bk c n w\/(w=true/\Bk c (n+1) false)) (aj.jf B 16) a:=by refine oh.mono (fun m c l=>h.lev l) ?_ (aQg B a);rintro c (rfl|⟨m,l⟩);exact .inl h;exact h.aMG l
theorem aXg(B:Int){b:List Int}{n:Nat}{w:Bool}(h:Bk b n w)(hn:n<16):oh B (fun p c=>p=(n+1,0)/\Bk c (n+1) false) (fun c=>Bk c n true\/Bk c (n+1) false) (aj.o6 B 16 (n+1)) b:=by
 unfold aj.o6;refine oh.bind (oh.mono ?_ ?_ (aMb B h));rintro m c (⟨rfl,k⟩|⟨_,rfl,k⟩);rw[show m+1-m=1 from a_];unfold aj.ru;refine oh.bind (oh.mono ?_ (fun c l=>k.aLP hn l) (aGj B hn c));intro _ f l;have a:=k.pul hn l;refine oh.bind (oh.mono ?_ ?_ (aQf B hn f));rintro v e ⟨rfl,_,d⟩;cases v with
 |true=>exact⟨rfl,a⟩|false=>have:=d rfl;rw[a.RP m a_] at this;cases this
 rintro e rfl;exact .inr a;rw[Yf];exact⟨rfl,k⟩;rintro c (k|⟨_,k⟩);exact .inl k.weak;exact .inr k
def ng{α:Type}(Q:Except Int α->jd->Prop)(C:jd->Prop):aj α->jd->Prop
 |.ret a,h=>Q (.ok a) h|.ask c k,h=>(c.kind = -1->Q (.error c.pg) h)/\(c.kind ≠ -1->(∀ t:pq,t.cut=true->0<=t.bytes->t.bytes<=255->C (dM h c t).1)/\∀ t:pq,t.cut=false->ng Q C (k (dM h c t).2.1) (dM h c t).1)
variable {C C':jd->Prop}
theorem ng.mono{Q j:Except Int α->jd->Prop}(i:∀ a h,Q a h->j a h)(hc:∀ h,C h->C' h){p:aj α}:∀ {h:jd},ng Q C p h->ng j C' p h:=by
 induction p with
 |ret a=>intro h k;exact i _ _ k|ask c g m=>exact fun⟨l,f⟩=>⟨fun e=>i _ _ (l e),fun e=>⟨fun t a b d=>hc _ ((f e).1 t a b d),fun t a=>m _ ((f e).2 t a)⟩⟩
def aMX(Q:Except Int β->jd->Prop)(C:jd->Prop)(f:α->aj β):Except Int α->jd->Prop
 |.ok a,h=>ng Q C (f a) h|.error e,h=>Q (.error e) h
theorem ng.bind{Q:Except Int β->jd->Prop}{p:aj α}{f:α->aj β}:∀ {h:jd},ng (aMX Q C f) C p h->ng Q C (p.bind f) h:=by
 induction p with
 |ret a=>intro h k;exact k|ask c g i=>exact fun⟨d,b⟩=>⟨d,fun e=>⟨(b e).1,fun t a=>i _ ((b e).2 t a)⟩⟩
theorem ng.qx{Q:Except Int β->jd->Prop}{b:Bool}{e:Int}{f:Unit->aj β}{h:jd}(h1:b=true->ng Q C (f ()) h)(h2:b=false->Q (.error e) h):ng Q C ((gJ b e).bind f) h:=by
 cases b with
 |true=>exact h1 rfl|false=>exact⟨fun _=>h2 rfl,fun k=>absurd rfl k⟩
def FOk(F:List pq):Prop:=∀ i,0<=(dP F i).bytes/\(dP F i).bytes<=255
theorem aMa{Q:Except Int α->jd->Prop}{F:List pq}(f:FOk F)(k:Int->α){p:aj α}:∀ {h:jd},ng Q C p h->∀ i,((cZ F (aj.catch k p) h i).1=none/\C (cZ F (aj.catch k p) h i).2.1)\/∃ x,(cZ F (aj.catch k p) h i).1=some (TQ k x)/\Q x (cZ F (aj.catch k p) h i).2.1:=by
 induction p with
 |ret a=>intro h d i;exact .inr ⟨.ok a,rfl,d⟩|ask c g o=>rintro h ⟨n,m⟩ i;by_cases e:c.kind = -1;unfold aj.catch;rw[rq e];exact .inr ⟨.error c.pg,rfl,n e⟩;rw[pW k g e,cZ];obtain⟨l,j⟩:=m e;by_cases b:(dP F i).cut=true;rw[au b];exact .inl ⟨rfl,l _ b (f i).1 (f i).2⟩;rw[ay b];exact o _ (j _ (Bool.eq_false_iff.2 b)) (i+1)
end
theorem Nb{α:Type}{Q:α->List Int->Prop}{C:List Int->Prop}{p:aj α}(c2:List Int)(f:Fl)(r:dh):∀ {c:List Int},c.length=48->oh 3 Q C p c->ng (fun x h=>∃ a l,x=.ok a/\h=qi c2 l f r/\Q a l) (fun h=>∃ l,h=qi c2 l f r/\C l) p (qi c2 c f r):=by
 induction p with
 |ret a=>intro c _ h;exact⟨a,c,rfl,rfl,h⟩| ask a k u=>
  rintro c m ⟨s,z,j,q,A,i⟩;have w:BO (qi c2 c f r).b a.pg a.cell=true:=by unfold BO;rw[s,q,show ((qi c2 c f r).b.getD (3:Int).toNat []).length=48 from m];simp only[ww,decide_eq_true_eq];exact⟨⟨⟨g_,(by decide:(3:Int)<4)⟩,a_⟩,a_⟩
  have y:iE (qi c2 c f r).b a.pg a.cell=cell c j:=by rw[s,q];rfl
  rcases i with⟨i,o,n⟩|⟨i,o,n⟩
  have g:∀ t,dM (qi c2 c f r) a t=(qi c2 c f r,if t.cut then jY else⟨dF (cell c j) t.qg,aG⟩,0):=fun t=>by unfold dM;rw[au i,au z,au w,y]
  refine⟨fun e=>a_,fun _=>⟨fun t _ _ _=>?_,fun t d=>?_⟩⟩;rw[g];exact⟨c,rfl,o⟩;rw[g,d];exact u _ m (n t.qg);have g:∀ t,dM (qi c2 c f r) a t=(qi c2 (c.set j (iL (cell c j) t.cut)) f r,jY,0):=fun t=>by unfold dM;rw[ay a_,au i,au z,au w];unfold um;rw[y,s,q];rfl
  refine⟨fun e=>a_,fun _=>⟨fun t d _ _=>?_,fun t d=>?_⟩⟩;rw[g,d];exact⟨_,rfl,o⟩;rw[g,d];exact u _ (by rw[Yb];exact m) n
theorem Nc{α:Type}{Q:α->List Int->Prop}{C:List Int->Prop}{p:aj α}(d:List Int)(f:Fl)(r:dh):∀ {c:List Int},c.length=48->oh 2 Q C p c->ng (fun x h=>∃ a m,x=.ok a/\h=qi m d f r/\Q a m) (fun h=>∃ m,h=qi m d f r/\C m) p (qi c d f r):=by
 induction p with
 |ret a=>intro c _ h;exact⟨a,c,rfl,rfl,h⟩| ask a k w=>
  rintro c n ⟨u,A,j,s,D,l⟩;have y:BO (qi c d f r).b a.pg a.cell=true:=by unfold BO;rw[u,s,show ((qi c d f r).b.getD (2:Int).toNat []).length=48 from n];simp only[ww,decide_eq_true_eq];exact⟨⟨⟨g_,(by decide:(2:Int)<4)⟩,a_⟩,a_⟩
  have z:iE (qi c d f r).b a.pg a.cell=cell c j:=by rw[u,s];rfl
  rcases l with⟨l,q,o⟩|⟨l,q,o⟩
  have i:∀ t,dM (qi c d f r) a t=(qi c d f r,if t.cut then jY else⟨dF (cell c j) t.qg,aG⟩,0):=fun t=>by unfold dM;rw[au l,au A,au y,z]
  refine⟨fun e=>a_,fun _=>⟨fun t _ _ _=>?_,fun t g=>?_⟩⟩;rw[i];exact⟨c,rfl,q⟩;rw[i,g];exact w _ n (o t.qg);have i:∀ t,dM (qi c d f r) a t=(qi (c.set j (iL (cell c j) t.cut)) d f r,jY,0):=fun t=>by unfold dM;rw[ay a_,au l,au A,au y];unfold um;rw[z,u,s];rfl
  refine⟨fun e=>a_,fun _=>⟨fun t g _ _=>?_,fun t g=>?_⟩⟩;rw[i,g];exact⟨_,rfl,q⟩;rw[i,g];exact w _ (by rw[Yb];exact n) o
end Pv
section
section
variable {f:Fl} {u:Om}
theorem N9(h:Fine f u){g:Fl}(c:∀ t,(t<jb f u\/jb f u+8<=t)->sec g t=sec f t){rec k:Int}(h0:0<=rec)(h1:rec<=3)(h2:0<=k)(h3:k<=1)(a:rec≠u.gq\/k=((iw f u.gq).2:Int)):Da g rec k=Da f rec k:=by
 have j:=h.first;have i:(iw f u.gq).2=0\/(iw f u.gq).2=1:=aJk _ _;unfold Da;rw[yQ (f:=g) (g:=f) (s:=dG rec k) (fun t e d=>c t ?_)];rw[vU h0 h1 h2 h3] at e d;rcases a with a|rfl;omega
 by_cases b:rec=u.gq;subst b;omega;omega
structure EO(f:Fl)(u:Om)(x:Fl×EU×Bool×jc):Prop where
 sz:Sz x.1
 far:∀ rec k:Int,0<=rec->rec<=3->0<=k->k<=1->(rec≠u.gq\/k=((iw f u.gq).2:Int))->Da x.1 rec k=Da f rec k
 done:x.2.2.1=true->x.2.1=⟨u.content,(iw f u.gq).1.1+1,0⟩/\Da x.1 u.gq (1-((iw f u.gq).2:Int))=((iw f u.gq).1.1+1,u.content.data.toList)
 left:x.2.2.1=false->x.2.1=bBl/\V7 f u (Da x.1 u.gq (1-((iw f u.gq).2:Int)))
theorem bDx(h:Fine f u):EO f u (zy f u):=by have s:=h.len;have z:=h.nsec;by_cases w:u.cut<0\/17+(nsec (gm f u):Int)<=u.cut;have d:(bV (jb f u) (gm f u))[nsec (gm f u)]?=some ⟨4,0,jb f u,strOf (l7 (gm f u) 0)⟩:=oP _ _ s.1;have b:=aMv h (dC _) _ d (-1);have t:=aDz h (cut := -1) (.inl g_);rw[<-Ht h] at b t;rw[zW h w];exact⟨b.1,fun i k q p o n c=>N9 h b.2 q p o n c,fun _=>⟨rfl,t⟩,(fun g=>by cases g)⟩;by_cases x:u.cut<16;rw[aVx h a_ x];exact⟨h.sz,fun _ _ _ _ _ _ _=>rfl,(fun g=>by cases g),fun _=>⟨rfl,.old rfl⟩⟩;obtain⟨j,y⟩:∃ j:Nat,u.cut=16+(j:Int):=⟨(u.cut-16).toNat,a_⟩;have e:j<=nsec (gm f u):=a_;have r:=iU (jb f u) (gm f u) s.1;obtain⟨a,m⟩:∃ a,(bV (jb f u) (gm f u))[j]?=some a:=⟨_,zH a_⟩;have b:=aMv h e a m (max 0 u.bytes);have l:=aYd h e a m (cut:=max 0 u.bytes) a_;rw[aOi h y e a m];exact⟨b.1,fun i k q p o n c=>N9 h b.2 q p o n c,(fun g=>by cases g),fun _=>⟨rfl,l⟩⟩
theorem EO.same{x:Fl×EU×Bool×jc}(h:Fine f u)(p:EO f u x):Da x.1 u.gq ((iw f u.gq).2:Int)=(iw f u.gq).1:=by have a:(iw f u.gq).2=0\/(iw f u.gq).2=1:=aJk _ _;rw[p.far u.gq _ h.r0 h.r3 a_ a_ (.inr rfl)];exact (aQm f u.gq).1
theorem EO.whole{x:Fl×EU×Bool×jc}(h:Fine f u)(p:EO f u x)(a:x.2.2.1=true):(iw x.1 u.gq).1=((iw f u.gq).1.1+1,u.content.data.toList):=aUi (p.same h) (p.done a).2
end
end
end Go.Proofs.YtndpjopifkbgiaaGreatDoor
