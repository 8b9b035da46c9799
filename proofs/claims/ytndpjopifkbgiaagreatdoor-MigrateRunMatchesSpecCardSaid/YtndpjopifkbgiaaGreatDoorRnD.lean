/-
  Several texts in one file.
-/
import Derived.Test.YtndpjopifkbgiaaGreatDoorRnC
import Derived.Test.YtndpjopifkbgiaaGreatDoorRnB
import Derived.WalkMore
import Derived.MapKept
import Derived.Test.YtndpjopifkbgiaaGreatDoorRnA
set_option maxRecDepth 100000
set_option maxHeartbeats 4000000
namespace Go.Proofs.YtndpjopifkbgiaaGreatDoor
open Go.RowKit Tryz
open _root_.And renaming intro->az
open _root_.List renaming length_append->gz,length_singleton->aBY,cons_append->C_,getElem?_cons_zero->aBN,not_mem_nil->aAe,mem_cons->xn,getElem?_toArray->aBU,length_cons->We,size_toArray->aBM,length_nil->aBJ,length_set->aAA,append_toArray->aDJ,replicate->Pi,push_toArray->aDI,append_assoc->GM,nil_append->IR,prefix_of_prefix_length_le->aIh,getElem?_replicate->aCT,getElem?_eq_none->PR,mem_or_eq_of_mem_set->aFI,nil_prefix->aEW,mem_singleton_self->aIg,getElem?_cons_succ->aCQ,append_cancel_left->aHx,range->yz,getElem?_map->aAg,length_replicate->aCG,getElem?_range->aDc,drop->aBQ,append_nil->AC,getElem_range->aCA,map_cons->aAJ,length_drop->MM,getElem_mem->aBI,getElem_map->aCI,ext_getElem->aBR,getElem?_set_self->aDZ,singleton_append->aDX,mem_cons_of_mem->aAD,getElem?_set_ne->aEb,prefix_append->aBW,mem_cons_self->aAw,all_cons->aBV,length_take->ww,mem_of_getElem?->aCH,mem_singleton->aJW,getElem?_set->aED,ext_getElem?->aAX,all_eq_true->aGp,length_map->aAB
open _root_.Nat renaming le_refl->dE,zero_add->mf,lt_of_lt_of_le->aAF,reduceSub->aDF,reduceAdd->aDE,beq->bz,le_trans->ry,le_of_ble_eq_true->aBO,lt_or_ge->aAW,blt->XN,zero_le->x8,zero_mul->aDN,sub_zero->aDU,add_comm->aBS
open _root_.Go renaming World->ae,undef->dC,Value->ag,TypeId->bu,wpAny_ready->aAU,Program->ed,wpAnyH_take->aBC,PanicEntry->aBG,run_underlying->Ha,yielded->aAG,Calls->lL,bodyPost_ret->aAT,callFunc->aAE,wp_mono->aCD,Oper->ik
open _root_.Bool renaming and_eq_true->zg
open _root_.Array renaming length_toList->nz,getD_eq_getD_getElem?->aBL,replicate_zero->aDH,replicate_succ->aDG,all_toList->aCS,size_setIfInBounds->aJX,ext'->TC,replicate->DD,size_append->aEM
open _root_.Int renaming toNat_natCast->VM
open _root_.Go.IntKind renaming wrap_i64->PP
open _root_.Go.World renaming alloc->aEJ
open _root_.Go.Value renaming ownBlock->aAC
namespace Pv
def bPw(l:g_)(ys:ji):Option (Prop×aj Unit×(Unit->PV)):=match Dy l,ys with
 |some (m,_),[.w (.agg a)]=>(match IA a with
  |some r=>some (m.root.length=16/\Dh r,Ak m r,fun _=>.o7 [])|none=>none)
 |_,_=>none
theorem Tv:b_ prog af 79 (jV uf AA bPw):=
 lX (aB func79 ai rfl) (fun l g c p v h b=>by
  unfold bPw at h;split at h;rename_i m f d e;cases a:IA d with
  |none=>rw[a] at h;cases h|some r=>rw[a] at h;cases h;rw[yL e,zN a];exact SY m f r b.1 b.2
  cases h)
def bQi(l:g_)(ys:ji):Option (Prop×aj jv×(jv->PV)):=match Dy l,ys with
 |some (m,_),[]=>some (m.root.length=16,uw m,fun r=>.w (.agg (qo r)))|_,_=>none
theorem Tz:b_ prog af 76 (jV uf AA bQi):=
 lX (aB func76 ai rfl) (fun l d c p v h b=>by
  unfold bQi at h;split at h;rename_i m f a;cases h;rw[yL a];exact UQ m f b
  cases h)
def aZf(l:g_)(ys:ji):Option (Prop×aj Unit×(Unit->PV)):=match Dy l,ys with
 |some (_,f),[]=>some (0<=f/\f<=900,rZ f.toNat,fun _=>.o7 [])|_,_=>none
theorem NG:b_ prog af 77 (jV uf AA aZf):=
 lX (aB func77 ai rfl) (fun l b c p v h d=>by
  unfold aZf at h;split at h;rename_i m f a;cases h;rw[yL a];obtain⟨k,rfl⟩:∃ k:Nat,f=(k:Int):=⟨f.toNat,a_⟩;rw[VM];exact MS m k a_
  cases h)
def aZc(l:g_)(ys:ji):Option (Prop×aj Unit×(Unit->PV)):=match Dy l,ys with
 |some (_,f),[]=>some (0<=f/\f<=900,oN f.toNat,fun _=>.o7 [])|_,_=>none
theorem NF:b_ prog af 74 (jV uf AA aZc):=
 lX (aB func74 ai rfl) (fun l b c p v h d=>by
  unfold aZc at h;split at h;rename_i m f a;cases h;rw[yL a];obtain⟨k,rfl⟩:∃ k:Nat,f=(k:Int):=⟨f.toNat,a_⟩;rw[VM];exact KQ m k a_
  cases h)
def Tc:List (Nat×Spec):=(79,jV uf AA bPw)::(76,jV uf AA bQi)::(77,jV uf AA aZf)::(74,jV uf AA aZc)::Td
theorem Mc:∀ p∈Tc,b_ prog af p.1 p.2:=by intro p a;simp only[Tc,xn] at a;rcases a with rfl|rfl|rfl|rfl|a;exact Tv;exact Tz;exact NG;exact NF;exact Md p a
theorem aRT:jq prog af (find Tc):=⟨aY Mc,dB⟩
def sF(f:Nat)(p:jy):jv:=⟨1,((f+1:Nat):Int),y8,0,p⟩
def nV(m:jm)(f:Nat)(p:jy):aj jk:=(Ak m (sF f p)).bind fun _=>(rZ f).bind fun _=>.ret { ni with payload:=p }
theorem bHg(m:jm)(f:Nat)(p:jy)(z:f<=900)(hr:m.root.length=16)(u:p.size<=10000):yQ prog af uf 75 AA (pz m f) (nV m f p) [n_ p] (fun o=>.w (.agg (h_ o))):=by
 intro O l r s;have M:=aRT;have e:Left O (nV m f p) l (nV m f p) l:=Left.start _ _ _;have d:=Left.step (q:=Ak m (sF f p)) e;have c:=Left.step d;have k:IntKind.wrap .i64 ((f:Int)+1)=((f+1:Nat):Int):=by rw[PP];omega
 generalize b:(fun h=>l <+: h/\h <+: (go O (nV m f p) l).2)=gm;refine nS func75 rfl rfl (fun A y B=>?_);refine bU ?_ ?_;simp;rw[k];refine⟨⟨r,s,hr,⟨(by show gy 1;unfold gy;omega),(by show gy ((f+1:Nat):Int);unfold gy;omega),(by show gy 0;unfold gy;omega),rfl,u⟩⟩,?_⟩;intro h j i g;rw[<-b];exact Left.gm (q:=Ak m (sF f p)) e h j i g;obtain⟨t,n⟩:=jc ((go O (Ak m (sF f p)) l).2);rw[n] at d c;refine aW (⟨[(0,none,dm (.pt px 0 0)),(1,none,n_ p),(4,none,dm (.pt 0 0 0))],[(dx,none,0,.dev O gm t),(px,none,0,.box AA (.dv::pz m f)),(0,none,0,.box 40 (h_ ni))]⟩) ?_ ?_ ?_;exact iq;refine .cons (.dev ?_) ((dU _));show (go O (Ak m ⟨1,IntKind.wrap .i64 ((f:Int)+1),y8,0,p⟩) l).2=_;rw[k];exact n;refine aH ?_ ?_;simp;refine⟨⟨r,s,a_⟩,?_⟩;intro h j i g;rw[<-b];exact Left.gm d h j i g;refine aI ?_;refine bZ (fun a w x=>⟨.inr rfl,_,⟨?_,⟨pz m f,rfl,eQ rfl⟩,?_⟩,x⟩);rotate_left 1;rw[c.2];rfl;refine aZ (ay) d_ ay ay ?_;rw[c.2];rfl
def aJe(l:g_)(ys:ji):Option (Prop×aj jk×(jk->PV)):=match Dy l,ys with
 |some (m,f),[.w (.one (.lit (.string p)))]=>some (0<=f/\f<=900/\m.root.length=16/\p.size<=10000,nV m f.toNat p,fun o=>.w (.agg (h_ o)))|_,_=>none
theorem bFk:b_ prog af 75 (jV uf AA aJe):=
 lX (aB func75 ai rfl) (fun l d c p v h a=>by
  unfold aJe at h;split at h;rename_i m f q b;cases h;rw[yL b];obtain⟨k,rfl⟩:∃ k:Nat,f=(k:Int):=⟨f.toNat,a_⟩;rw[VM];exact bHg m k q a_ a.2.2.1 a.2.2.2
  cases h)
def TZ:List (Nat×Spec):=(75,jV uf AA aJe)::Tc
theorem MZ:∀ p∈TZ,b_ prog af p.1 p.2:=by intro p a;simp only[TZ,xn] at a;rcases a with rfl|a;exact bFk;exact Mc p a
theorem aHV:jq prog af (find TZ):=⟨aY MZ,dB⟩
def aBb(m:jm)(f:Nat):aj jk:=(oN f).bind fun _=>(nV m f m.payload).bind fun o=>.ret o
theorem bGu(m:jm)(f:Nat)(t:f<=900)(hr:m.root.length=16)(p:m.payload.size<=10000):yQ prog af uf 48 AA (pz m f) (aBb m f) [] (fun o=>.w (.agg (h_ o))):=by intro O l k n;have M:=aHV;have e:Left O (aBb m f) l (aBb m f) l:=Left.start _ _ _;have d:=Left.step (q:=oN f) e;have c:=Left.step d;generalize b:(fun h=>l <+: h/\h <+: (go O (aBb m f) l).2)=gm;refine nS func48 rfl rfl (fun A s u=>?_);refine bU ?_ ?_;simp;refine⟨⟨k,n,a_⟩,?_⟩;intro h j i g;rw[<-b];exact Left.gm (q:=oN f) e h j i g;refine aH ?_ ?_;simp;refine⟨⟨k,n,a_,hr,p⟩,?_⟩;intro h j i g;rw[<-b];exact Left.gm d h j i g;refine bZ (fun a w r=>⟨.inr rfl,_,⟨?_,⟨pz m f,rfl,eQ rfl⟩,?_⟩,r⟩);rotate_left 1;rw[c.2];rfl;refine aZ (ay) d_ ay ay ?_;rw[c.2];rfl
def Zv(m:jm)(f:Nat):aj jk:=(oN f).bind fun _=>.ret { ni with ot:=m.id,ol:=f }
theorem bLz(m:jm)(f:Nat)(r:f<=900):yQ prog af uf 51 AA (pz m f) (Zv m f) [] (fun o=>.w (.agg (h_ o))):=by intro O l g i;have M:=aHV;have d:Left O (Zv m f) l (Zv m f) l:=Left.start _ _ _;have c:=Left.step (q:=oN f) d;generalize b:(fun h=>l <+: h/\h <+: (go O (Zv m f) l).2)=gm;refine nS func51 rfl rfl (fun A p s=>?_);refine bU ?_ ?_;simp;refine⟨⟨g,i,a_⟩,?_⟩;intro h n k j;rw[<-b];exact Left.gm (q:=oN f) d h n k j;refine aI ?_;refine bZ (fun a w e=>⟨.inr rfl,_,⟨?_,⟨pz m f,rfl,eQ rfl⟩,?_⟩,e⟩);rotate_left 1;rw[c.2];rfl;refine aZ (ay) d_ ay ay ?_;rw[c.2];rfl
def PQ(l:g_)(ys:ji):Option (Prop×aj jk×(jk->PV)):=match Dy l,ys with
 |some (m,_),[.w (.agg a)]=>(match IA a with
  |some r=>some (gy r.ol/\m.link.length=16/\r.ot.length=16/\r.payload.size<=10000,.ret (iD m.link r),fun o=>.w (.agg (h_ o)))|none=>none)
 |_,_=>none
theorem YF:b_ prog af 80 (jV uf AA PQ):=
 lX (aB func80 ai rfl) (fun l g c p v h a=>by
  unfold PQ at h;split at h;rename_i m f d e;cases b:IA d with
  |none=>rw[b] at h;cases h|some r=>rw[b] at h;cases h;rw[yL e,zN b];exact aRb m f r a.1 a.2.1 a.2.2.1 a.2.2.2
  cases h)
def Y7:List (Nat×Spec):=(80,jV uf AA PQ)::TZ
theorem Y_:∀ p∈Y7,b_ prog af p.1 p.2:=by intro p a;simp only[Y7,xn] at a;rcases a with rfl|a;exact YF;exact MZ p a
theorem Gy:jq prog af (find Y7):=⟨aY Y_,dB⟩
def Wi(m:jm)(f:Nat):aj jk:=(iU (((f % 2:Nat):Int)==1) 21).bind fun _=>(Ak m ⟨1,(f:Int),y8,0,m.payload⟩).bind fun _=>.ret { ni with payload:=m.payload }
theorem bDk(f:Nat):(f:Int).tmod 2=((f % 2:Nat):Int):=rfl
theorem bMj(m:jm)(f:Nat)(x:f<=900)(hr:m.root.length=16)(s:m.payload.size<=10000):yQ prog af uf 50 AA (pz m f) (Wi m f) [] (fun o=>.w (.agg (h_ o))):=by intro O l n p;have M:=Gy;have e:Left O (Wi m f) l (Wi m f) l:=Left.start _ _ _;have d:=Left.step (q:=iU (((f % 2:Nat):Int)==1) 21) e;have c:=Left.step d;generalize b:(fun h=>l <+: h/\h <+: (go O (Wi m f) l).2)=gm;refine nS func50 rfl rfl (fun A u y=>?_);refine bU ?_ ?_;simp;refine⟨⟨n,p⟩,?_⟩;rw[bDk];intro h j i g;rw[<-b];exact Left.gm (q:=iU (((f % 2:Nat):Int)==1) 21) e h j i g;obtain⟨r,k⟩:=jc ((go O (iU (((f % 2:Nat):Int)==1) 21) l).2);rw[k] at d c;refine aW (⟨[(0,none,dm (.pt px 0 0)),(2,none,dm (.pt 0 0 0))],[(dx,none,0,.dev O gm r),(px,none,0,.box AA (.dv::pz m f)),(0,none,0,.box 40 (h_ ni))]⟩) ?_ ?_ ?_;exact iq;exact .cons (.dev k) ((dU _));refine aH ?_ ?_;simp;refine⟨⟨n,p,hr,⟨(by show gy 1;unfold gy;omega),(by show gy (f:Int);unfold gy;omega),(by show gy 0;unfold gy;omega),rfl,s⟩⟩,?_⟩;intro h j i g;rw[<-b];exact Left.gm d h j i g;refine aI ?_;refine bZ (fun a w t=>⟨.inr rfl,_,⟨?_,⟨pz m f,rfl,eQ rfl⟩,?_⟩,t⟩);rotate_left 1;rw[c.2];rfl;refine aZ (ay) d_ ay ay ?_;rw[c.2];rfl
theorem aPv(root:di)(s:jy)(hs:s.size<=5000):Dh (qR root s).1:=by
 have b:Dh BA:=⟨by show gy 0;unfold gy;omega,by show gy 0;unfold gy;omega,by show gy 0;unfold gy;omega,rfl,jb⟩;unfold qR;cases c:wV root s.data.toList with
 |EM=>exact b|Es=>exact b|okR p=>have a:=aHt c;rw[show s.data.toList.length=s.size from nz] at a;unfold MX;dsimp only;unfold WC;split;exact b;rename_i h;unfold WB;dsimp only;have d:=kD (aBQ (dh (aBQ 16 (aBQ (dh (aBQ (dh p).2.1 p)).2.1 (aBQ (dh p).2.1 p)))).2.1 (aBQ 16 (aBQ (dh (aBQ (dh p).2.1 p)).2.1 (aBQ (dh p).2.1 p))));simp only[MM] at d;refine⟨fV _,fV _,fV _,?_,?_⟩;simp only[MM,not_or,Nat.not_lt] at h;simp only[ww,MM];omega;show (strOf _).size<=10000;rw[bC];omega
theorem aPc(m:jm):aj.All (fun r:jv=>Dh r) (uw m):=by refine aj.All.bind (aCk 3) (fun s a=>?_);refine aj.All.bind (R:=fun _=>True) (aj.All.AP _) (fun _ _=>?_);refine aj.All.bind (R:=fun _=>True) (aj.All.AP _) (fun _ _=>?_);exact aPv m.root s.content a_
def vO(m:jm)(f:Nat):aj jk:=(iU (((f % 2:Nat):Int)==0) 21).bind fun _=>(uw m).bind fun r=>(iU (bif r.kind==2 then r.level==(f:Int) else false) 14).bind fun _=>.ret (iD m.link r)
theorem bEm(m:jm)(f:Nat)(_:f<=900)(hr:m.root.length=16)(hl:m.link.length=16):yQ prog af uf 53 AA (pz m f) (vO m f) [] (fun o=>.w (.agg (h_ o))):=by
 intro O l y z;have M:=Gy;have x:Left O (vO m f) l (vO m f) l:=Left.start _ _ _;have n:=Left.step (q:=iU (((f % 2:Nat):Int)==0) 21) x;have e:=Left.step n;generalize d:(fun h=>l <+: h/\h <+: (go O (vO m f) l).2)=gm;refine nS func53 rfl rfl (fun A E G=>?_);refine bU ?_ ?_;simp;refine⟨⟨y,z⟩,?_⟩;rw[bDk];intro h t s p;rw[<-d];exact Left.gm (q:=iU (((f % 2:Nat):Int)==0) 21) x h t s p;obtain⟨u,C⟩:=jc ((go O (iU (((f % 2:Nat):Int)==0) 21) l).2);rw[C] at n e;refine aW (⟨[(0,none,dm (.pt px 0 0)),(2,none,dm (.pt 0 0 0))],[(dx,none,0,.dev O gm u),(px,none,0,.box AA (.dv::pz m f)),(0,none,0,.box 40 (h_ ni))]⟩) ?_ ?_ ?_;exact iq;exact .cons (.dev C) ((dU _));have c:=Wq O (aPc m) u;refine aH ?_ ?_;simp;refine⟨⟨y,z,hr⟩,?_⟩;intro h t s p;rw[<-d];exact Left.gm n h t s p;obtain⟨r,B,j⟩:∃ r B,go O (uw m) u=(r,B):=⟨_,_,rfl⟩;rw[j] at e c;dsimp only at e c;refine aW (⟨[(0,none,dm (.pt px 0 0)),(2,none,dm (.pt 0 0 0)),(3,none,dm (.pt 2002 0 0))],[(dx,none,0,.dev O gm B),(px,none,0,.box AA (.dv::pz m f)),(0,none,0,.box 40 (h_ ni)),(2002,none,0,.box 149 (qo r))]⟩) ?_ ?_ ?_;exact iq;refine .cons (.dev ?_) (.cb (.cb (.cons (.box ?_) .nil)));show (go O (uw m) u).2=_;rw[j];show qo (go O (uw m) u).1=_;rw[j];have k:=Left.step e;have i:=e;have g:=k
 rw[show ∀ a b:Bool,(bif a then b else false)=(a&&b) from fun a b=>by cases a<;>rfl] at i g
 refine aH ?_ ?_;simp;refine⟨⟨y,z⟩,?_⟩;intro h t s p;rw[<-d];exact Left.gm i h t s p;refine aH ?_ ?_;simp;refine⟨⟨y,z,c.ol,hl,c.ot,c.payload⟩,?_⟩;intro h t s p;rw[<-d];exact Left.gm (q:=.ret (iD m.link r)) (f:=fun o=>.ret o) g h t s p;refine bZ (fun a w D=>⟨.inr rfl,_,⟨?_,⟨pz m f,rfl,eQ rfl⟩,?_⟩,D⟩);rotate_left 1;rw[k.2];rfl;refine aZ (ay) d_ ay ay ?_;rw[k.2];rfl
def Fe(m:jm)(f:Nat)(r:jv):jv:=⟨2,((f+1:Nat):Int),m.ot,m.ol,r.payload⟩
def VO(m:jm)(f:Nat):aj jk:=(iU (((f % 2:Nat):Int)==1) 21).bind fun _=>(uw m).bind fun r=>(iU (bif r.kind==1 then r.level==(f:Int) else false) 14).bind fun _=>(rZ f).bind fun _=>(Ak m (Fe m f r)).bind fun _=>.ret (iD m.link (Fe m f r))
theorem JR(m:jm)(f:Nat)(Q:f<=900)(hr:m.root.length=16)(hl:m.link.length=16)(J:m.ot.length=16)(D:gy m.ol):yQ prog af uf 52 AA (pz m f) (VO m f) [] (fun o=>.w (.agg (h_ o))):=by
 intro O l x y;have M:=Gy;have F:Left O (VO m f) l (VO m f) l:=Left.start _ _ _;have u:=Left.step (q:=iU (((f % 2:Nat):Int)==1) 21) F;have e:=Left.step u;generalize c:(fun h=>l <+: h/\h <+: (go O (VO m f) l).2)=gm;refine nS func52 rfl rfl (fun A P S=>?_);refine bU ?_ ?_;simp;refine⟨⟨x,y⟩,?_⟩;rw[bDk];intro h j i g;rw[<-c];exact Left.gm (q:=iU (((f % 2:Nat):Int)==1) 21) F h j i g;obtain⟨z,I⟩:=jc ((go O (iU (((f % 2:Nat):Int)==1) 21) l).2);rw[I] at u e;refine aW (⟨[(0,none,dm (.pt px 0 0)),(2,none,dm (.pt 0 0 0))],[(dx,none,0,.dev O gm z),(px,none,0,.box AA (.dv::pz m f)),(0,none,0,.box 40 (h_ ni))]⟩) ?_ ?_ ?_;exact iq;exact .cons (.dev I) ((dU _));have d:=Wq O (aPc m) z;refine aH ?_ ?_;simp;refine⟨⟨x,y,hr⟩,?_⟩;intro h j i g;rw[<-c];exact Left.gm u h j i g;obtain⟨r,G,t⟩:∃ r G,go O (uw m) z=(r,G):=⟨_,_,rfl⟩;rw[t] at e d;dsimp only at e d;refine aW (⟨[(0,none,dm (.pt px 0 0)),(2,none,dm (.pt 0 0 0)),(3,none,dm (.pt 2002 0 0))],[(dx,none,0,.dev O gm G),(px,none,0,.box AA (.dv::pz m f)),(0,none,0,.box 40 (h_ ni)),(2002,none,0,.box 149 (qo r))]⟩) ?_ ?_ ?_;exact iq;refine .cons (.dev ?_) (.cb (.cb (.cons (.box ?_) .nil)));show (go O (uw m) z).2=_;rw[t];show qo (go O (uw m) z).1=_;rw[t];have p:=Left.step e;have s:=e;have E:=p
 rw[show ∀ a b:Bool,(bif a then b else false)=(a&&b) from fun a b=>by cases a<;>rfl] at s E
 have L:IntKind.wrap .i64 ((f:Int)+1)=((f+1:Nat):Int):=by rw[PP];omega
 refine aH ?_ ?_;simp;refine⟨⟨x,y⟩,?_⟩;intro h j i g;rw[<-c];exact Left.gm s h j i g;have n:=Left.step p;obtain⟨H,C⟩:=jc ((go O (iU (bif r.kind==1 then r.level==(f:Int) else false) 14) G).2);rw[C] at p n;refine aW (⟨[(0,none,dm (.pt px 0 0)),(2,none,dm (.pt 0 0 0)),(3,none,dm (.pt 2002 0 0))],[(dx,none,0,.dev O gm H),(px,none,0,.box AA (.dv::pz m f)),(0,none,0,.box 40 (h_ ni)),(2002,none,0,.box 149 (qo r))]⟩) ?_ ?_ ?_;exact iq;exact .cons (.dev C) ((dU _));refine aH ?_ ?_;simp;refine⟨⟨x,y,a_⟩,?_⟩;intro h j i g;rw[<-c];exact Left.gm p h j i g;obtain⟨K,B⟩:=jc ((go O (rZ f) H).2);have k:=Left.step n;rw[B] at n k;refine aI ?_;refine aW (⟨[(0,none,dm (.pt px 0 0)),(2,none,dm (.pt 0 0 0)),(3,none,dm (.pt 2002 0 0))],[(dx,none,0,.dev O gm K),(px,none,0,.box AA (.dv::pz m f)),(0,none,0,.box 40 (h_ ni)),(2002,none,0,.box 149 (qo (Fe m f r)))]⟩) ?_ ?_ ?_;exact iq;refine .cons (.dev B) (.cb (.cb (.cons (.box ?_) .nil)));show qo ⟨2,IntKind.wrap .i64 ((f:Int)+1),m.ot,m.ol,r.payload⟩=_;rw[L];rfl;refine aH ?_ ?_;simp;refine⟨⟨x,y,hr,⟨(by show gy 2;unfold gy;omega),(by show gy ((f+1:Nat):Int);unfold gy;omega),D,J,d.payload⟩⟩,?_⟩;intro h j i g;rw[<-c];exact Left.gm n h j i g;refine aH ?_ ?_;simp;refine⟨⟨x,y,D,hl,J,d.payload⟩,?_⟩;intro h j i g;rw[<-c];exact Left.gm (q:=.ret (iD m.link (Fe m f r))) (f:=fun o=>.ret o) k h j i g;refine bZ (fun a w N=>⟨.inr rfl,_,⟨?_,⟨pz m f,rfl,eQ rfl⟩,?_⟩,N⟩);rotate_left 1;rw[k.2];rfl;refine aZ (ay) d_ ay ay ?_;rw[k.2];rfl
theorem aDo(b:Int)(n:Nat):aj.All (fun k:Nat=>k<=n) (aj.f_ b n):=by refine aj.All.bind (R:=fun k=>k<=n) ((Ih b n 0).mono (fun m c=>a_)) (fun k a=>?_);exact aj.All.bind (R:=fun _=>True) (aj.All.AP _) (fun _ _=>a)
def bFm(_:jm)(r:jv):aj jk:=(aj.f_ 2 16).bind fun n=>(iU (decide ((n:Int)<16)) 17).bind fun _=>(lW 2 (n+1)).bind fun _=>.ret { ni with session:=n,payload:=r.payload }
def QV(m:jm)(f:Nat):aj jk:=(uw m).bind fun r=>(iU (bif r.kind==1 then r.level==((f+1-f % 2:Nat):Int) else false) 14).bind fun _=>(bif ((f % 2:Nat):Int)==0 then rZ f else .ret ()).bind fun _=>bFm m r
def Zu(O:ut)(gm:je->Prop)(m:jm)(f:Nat)(r:jv)(a:je):St:=⟨[(0,none,dm (.pt px 0 0)),(2,none,dm (.pt 0 0 0)),(3,none,dm (.pt 1002 0 0))],[(dx,none,0,.dev O gm a),(px,none,0,.box AA (.dv::pz m f)),(0,none,0,.box 40 (h_ ni)),(1002,none,0,.box 149 (qo r))]⟩
theorem bMl(m:jm)(f:Nat)(Y:f<=900)(hr:m.root.length=16):yQ prog af uf 49 AA (pz m f) (QV m f) [] (fun o=>.w (.agg (h_ o))):=by
 intro O l H K;have M:=Gy;have J:Left O (QV m f) l (QV m f) l:=Left.start _ _ _;have k:=Left.step (q:=uw m) J;have U:IntKind.wrap .i64 (IntKind.wrap .i64 ((f:Int)+1)-(f:Int).tmod 2)=((f+1-f % 2:Nat):Int):=by rw[bDk,PP,PP];omega
 generalize c:(fun h=>l <+: h/\h <+: (go O (QV m f) l).2)=gm;refine nS func49 rfl rfl (fun A W X=>?_);refine aI ?_;have p:=Wq O (aPc m) l;refine aH ?_ ?_;simp;refine⟨⟨H,K,hr⟩,?_⟩;intro h i g e;rw[<-c];exact Left.gm (q:=uw m) J h i g e;obtain⟨r,C,N⟩:∃ r C,go O (uw m) l=(r,C):=⟨_,_,rfl⟩;rw[N] at k p;dsimp only at k p;refine aW (Zu O gm m f r C) ?_ ?_ ?_;exact iq;refine .cons (.dev ?_) (.cb (.cb (.cons (.box ?_) .nil)));show (go O (uw m) l).2=_;rw[N];show qo (go O (uw m) l).1=_;rw[N];have d:=Left.step k;have u:=k
 rw[show ∀ a b:Bool,(bif a then b else false)=(a&&b) from fun a b=>by cases a<;>rfl] at u
 refine aH ?_ ?_;simp;rw[U];refine⟨⟨H,K⟩,?_⟩;intro h i g e;rw[<-c];exact Left.gm u h i g e;obtain⟨L,F⟩:=jc ((go O (iU (bif r.kind==1 then r.level==((f+1-f % 2:Nat):Int) else false) 14) C).2);rw[F] at d;refine aW (Zu O gm m f r L) ?_ ?_ ?_;exact iq;refine .cons (.dev ?_) ((dU _));show (go O (iU (bif r.kind==1 then r.level==IntKind.wrap .i64 (IntKind.wrap .i64 ((f:Int)+1)-(f:Int).tmod 2) else false) 14) C).2=_;rw[U];exact F;refine aVv (fun S=>∃ x,S=Zu O gm m f r x/\Left O (QV m f) l (bFm m r) x) ?_ ?_;refine eH (fun P=>?_) (fun P=>?_);have Q:(((f % 2:Nat):Int)==0)=true:=by rw[<-bDk];exact P
 rw[Q] at d;refine aS M X W (ay) ai ?_ ?_;simp;refine⟨⟨H,K,a_⟩,?_⟩;intro h i g e;rw[<-c];exact Left.gm (q:=rZ f) d h i g e;intro a w G;refine⟨_,⟨(go O (rZ f) L).2,rfl,Left.step (q:=rZ f) d⟩,(G.reset (kT:=[0,2,3]) (kO:=[dx,px,0,1002]) ay d_).same ?_ ?_⟩;exact iq;exact .cons (.dev rfl) ((dU _));have Q:(((f % 2:Nat):Int)==0)=false:=by rw[<-bDk];exact P
 rw[Q] at d;refine fH ?_;intro a w G;refine⟨_,⟨L,rfl,Left.step (q:=.ret ()) d⟩,(G.reset (kT:=[0,2,3]) (kO:=[dx,px,0,1002]) ay d_).same ?_ ?_⟩;exact iq;exact .cons (.dev rfl) ((dU _));rintro S ⟨x,rfl,V⟩;have j:=Left.step (q:=aj.f_ 2 16) V;have s:=Wq O (aDo 2 16) x;refine aH ?_ ?_;simp;intro h i g e;rw[<-c];exact Left.gm (q:=aj.f_ 2 16) V h i g e;obtain⟨n,B,y⟩:∃ n B,go O (aj.f_ 2 16) x=(n,B):=⟨_,_,rfl⟩;rw[y] at j s;dsimp only at j s;refine aW (⟨(4,none,dw (n:Int))::(Zu O gm m f r B).t,(Zu O gm m f r B).o⟩) ?_ ?_ ?_;refine .cons ?_ ((iT _));show dw ((go O (aj.f_ 2 16) x).1:Int)=_;rw[y];refine .cons (.dev ?_) ((dU _));show (go O (aj.f_ 2 16) x).2=_;rw[y];have I:=Left.step j;refine aH ?_ ?_;simp;refine⟨⟨H,K⟩,?_⟩;intro h i g e;rw[<-c];exact Left.gm j h i g e;have z:=Left.step (q:=lW 2 (n+1)) I;have D:IntKind.wrap .i64 ((n:Int)+1)=((n+1:Nat):Int):=by rw[PP];omega
 refine aH ?_ ?_;simp;rw[D];refine⟨⟨H,K,a_,a_⟩,?_⟩;intro h i g e;rw[<-c];exact Left.gm (q:=lW 2 (n+1)) I h i g e;obtain⟨T,E⟩:=jc ((go O (lW 2 (n+1)) (go O (iU (decide ((n:Int)<16)) 17) B).2).2);rw[E] at z;refine aW (⟨(4,none,dw (n:Int))::(Zu O gm m f r T).t,(Zu O gm m f r T).o⟩) ?_ ?_ ?_;exact iq;refine .cons (.dev ?_) ((dU _));show (go O (lW 2 (IntKind.wrap .i64 ((n:Int)+1)).toNat) (go O (iU (decide ((n:Int)<16)) 17) B).2).2=_;rw[D];exact E;refine aI ?_;refine bZ (fun a w G=>⟨.inr rfl,_,⟨?_,⟨pz m f,rfl,eQ rfl⟩,?_⟩,G⟩);rotate_left 1;rw[z.2];rfl;refine aZ (ay) d_ ay ay ?_;rw[z.2];rfl
def sZ(m:jm):jy:=bif opened (keyS m.link m.xt m.xl) m.bn m.bc m.bt then strOf (dM (keyS m.link m.xt m.xl) m.bn m.bc.data.toList) else { data:=#[] }
def Wn(m:jm):Int:=bif opened (keyS m.link m.xt m.xl) m.bn m.bc m.bt then 0 else 8
def rY(m:jm)(f:Nat):aj jk:=(oN f).bind fun _=>(iU (m.xl==(f:Int)) 14).bind fun _=>(iU (Wn m==0) 8).bind fun _=>(iU (decide (((sZ m).size:Int)<=1000)) 2).bind fun _=>(nV m f (sZ m)).bind fun o=>.ret o
theorem aJt(m:jm)(h:m.bc.size<=2000):(sZ m).size<=2000:=by unfold sZ;cases opened (keyS m.link m.xt m.xl) m.bn m.bc m.bt;exact (by decide:(0:Nat)<=2000);show (strOf _).size<=2000;rw[bC,cZ,show m.bc.data.toList.length=m.bc.size from nz];exact h
theorem bHr(m:jm)(f:Nat)(F:f<=900)(hr:m.root.length=16)(hl:m.link.length=16)(C:m.xt.length=16)(u:gy m.xl)(x:gy m.bn)(y:m.bc.size<=2000):yQ prog af uf 54 AA (pz m f) (rY m f) [] (fun o=>.w (.agg (h_ o))):=by intro O l n p;have M:=Gy;have t:Left O (rY m f) l (rY m f) l:=Left.start _ _ _;have s:=Left.step (q:=oN f) t;have g:=Left.step s;have k:=Left.step g;have j:=Left.step k;have i:=Left.step (q:=nV m f (sZ m)) j;generalize b:(fun h=>l <+: h/\h <+: (go O (rY m f) l).2)=gm;refine nS func54 rfl rfl (fun A E G=>?_);refine bU ?_ ?_;simp;refine⟨⟨n,p,a_⟩,?_⟩;intro h e d c;rw[<-b];exact Left.gm (q:=oN f) t h e d c;refine bU ?_ ?_;simp;refine⟨⟨n,p⟩,?_⟩;intro h e d c;rw[<-b];exact Left.gm s h e d c;refine aH ?_ ?_;simp;refine⟨⟨n,p,u,hl,C⟩,?_,x,a_⟩;intro h e d c;rw[<-b];exact Left.gm (q:=.ret (keyS m.link m.xt m.xl)) (f:=fun _=>_) g h e d c;obtain⟨B,r⟩:=jc ((go O (iU (m.xl==(f:Int)) 14) (go O (oN f) l).2).2);rw[r] at g k j i;refine aW (⟨[(0,none,dm (.pt px 0 0)),(2,none,dm (.pt 0 0 0)),(4,none,n_ (sZ m)),(5,none,dw (Wn m))],[(dx,none,0,.dev O gm B),(px,none,0,.box AA (.dv::pz m f)),(0,none,0,.box 40 (h_ ni))]⟩) ?_ ?_ ?_;exact iq;exact .cons (.dev r) ((dU _));have z:=aJt m y;refine aH ?_ ?_;simp;refine⟨⟨n,p⟩,?_⟩;intro h e d c;rw[<-b];exact Left.gm g h e d c;refine aH ?_ ?_;simp;refine⟨⟨n,p⟩,?_⟩;intro h e d c;rw[<-b];exact Left.gm k h e d c;refine aH ?_ ?_;simp;refine⟨⟨n,p,a_,hr,a_⟩,?_⟩;intro h e d c;rw[<-b];exact Left.gm j h e d c;refine bZ (fun a w D=>⟨.inr rfl,_,⟨?_,⟨pz m f,rfl,eQ rfl⟩,?_⟩,D⟩);rotate_left 1;rw[i.2];rfl;refine aZ (ay) d_ ay ay ?_;rw[i.2];rfl
def uZ(m:jm):aj Unit:=
 if m.kind=1\/m.kind=3 then iU (decide ((m.payload.size:Int)<=1000)) 2 else
  if m.kind=5 then iU (bif bif bif decide (m.ol>=0) then decide (m.ol<16) else false then m.ol.tmod 2==0 else false then !(m.ot==m.id) else false) 1 else
   if m.kind=7 then iU (m.xt==m.id) 1 else .ret ()
def mO(m:jm):aj Unit:=(iU (bif decide (m.kind>=1) then decide (m.kind<=7) else false) 1).bind fun _=>(uZ m).bind fun _=>.ret ()
def Q4(O:ut)(gm:je->Prop)(m:jm)(a:je):St:=⟨[(1,none,dm (.pt 0 0 0)),(13,none,dw m.kind)],[(dx,none,0,.dev O gm a),(0,none,0,.box 31 (w_ m))]⟩
theorem bRd(m:jm):Qd prog af uf 47 (mO m) [.w (.agg (w_ m))] (fun _=>.o7 []):=by
 intro O l B C;have M:=Gy;have y:Left O (mO m) l (mO m) l:=Left.start _ _ _;have e:=Left.step y;generalize j:(fun h=>l <+: h/\h <+: (go O (mO m) l).2)=gm;refine dL func47 rfl rfl rfl (fun A D G=>?_);refine aI ?_
 have F:(bif decide (m.kind>=1) then decide (m.kind<=7) else false)=(decide (1<=m.kind)&&decide (m.kind<=7)):=by
  show cond (decide (1<=m.kind)) _ _=_
  cases decide (1<=m.kind)<;>rfl
 have x:Left O (mO m) l ((iU (decide (1<=m.kind)&&decide (m.kind<=7)) 1).bind fun _=>(uZ m).bind fun _=>.ret ()) l:=by rw[<-F];exact y
 refine aH ?_ ?_;simp;refine⟨⟨B,C⟩,?_⟩;intro h i s r;rw[<-j];exact Left.gm x h i s r;obtain⟨z,K⟩:=jc ((go O (iU (bif decide (m.kind>=1) then decide (m.kind<=7) else false) 1) l).2);rw[K] at e;refine aI ?_;refine aW (Q4 O gm m z) ?_ ?_ ?_;exact iq;exact .cons (.dev K) ((dU _));refine aN ?_;refine aVv (fun J=>∃ b,J=⟨(14,none,t_ b)::(Q4 O gm m z).t,(Q4 O gm m z).o⟩/\(b=true↔(m.kind=1\/m.kind=3))) ?_ ?_;refine eH (fun g=>?_) (fun g=>?_);have i:m.kind=1:=by simpa using g
 refine fH ?_;intro a w k;refine⟨_,⟨true,rfl,by simp[i]⟩,(k.reset (kT:=[14,1,13]) (kO:=[dx,0]) ay d_).same ?_ ?_⟩;refine .cons ?_ ((iT _));show t_ (m.kind==1)=_;rw[i];rfl;exact .cons (.dev rfl) ((dU _));have i:¬m.kind=1:=by simpa using g
 refine fJ ?_;intro a w k;refine⟨_,⟨m.kind==3,rfl,by simp[i]⟩,(k.reset (kT:=[14,1,13]) (kO:=[dx,0]) ay d_).same ?_ ?_⟩;exact iq;exact .cons (.dev rfl) ((dU _));rintro J ⟨b,rfl,L⟩;have f:=Left.step e;unfold uZ at e f;refine cO (fun g=>?_) (fun g=>?_)
 ·have i:m.kind=1\/m.kind=3:=L.1 g;rw[au i] at e f;refine aS M G D (ay) ai ?_ ?_;simp;refine⟨⟨B,C⟩,?_⟩;intro h i s r;rw[<-j];exact Left.gm e h i s r;intro a w k;refine⟨.inl rfl,_,⟨?_,(fun o q=>by cases q),fun p n=>?_⟩,k⟩;rotate_left 1;cases n;rw[f.2];rfl;refine aZ (ay) d_ ay ay ?_;rfl
 ·have i:¬(m.kind=1\/m.kind=3):=fun h=>by rw[L.2 h] at g;cases g
  rw[ah i] at e f;refine eH (fun g=>?_) (fun g=>?_)
  ·have I:m.kind=5:=by simpa using g
   rw[au I] at e f;refine aI ?_
   have E:∀ a b c d:Bool,(bif bif bif a then b else false then c else false then d else false)=(a&&b&&c&&d):=fun a b c d=>by cases a<;>cases b<;>cases c<;>cases d<;>rfl
   have u:Left O (mO m) l ((iU (decide (0<=m.ol)&&decide (m.ol<16)&&m.ol.tmod 2==0&&!(m.ot==m.id)) 1).bind fun _=>.ret ()) z:=by rw[<-E];exact e
   refine aS M G D (ay) ai ?_ ?_;simp;refine⟨⟨B,C⟩,?_⟩;intro h i s r;rw[<-j];exact Left.gm u h i s r;intro a w k;refine⟨.inl rfl,_,⟨?_,(fun o q=>by cases q),fun p n=>?_⟩,k⟩;rotate_left 1;cases n;rw[f.2];rfl;refine aZ (ay) d_ ay ay ?_;rfl
  ·have I:¬m.kind=5:=by simpa using g
   rw[ah I] at e f;refine eH (fun g=>?_) (fun g=>?_)
   ·have H:m.kind=7:=by simpa using g
    rw[au H] at e f;refine aS M G D (ay) ai ?_ ?_;simp;refine⟨⟨B,C⟩,?_⟩;intro h i s r;rw[<-j];exact Left.gm e h i s r;intro a w k;refine⟨.inl rfl,_,⟨?_,(fun o q=>by cases q),fun p n=>?_⟩,k⟩;rotate_left 1;cases n;rw[f.2];rfl;refine aZ (ay) d_ ay ay ?_;rfl
   ·have H:¬m.kind=7:=by simpa using g
    rw[ah H] at e f;refine fH ?_;intro a w k;refine⟨.inl rfl,_,⟨?_,(fun o q=>by cases q),fun p n=>?_⟩,k⟩;rotate_left 1;cases n;rw[f.2];rfl;refine aZ (ay) d_ ay ay ?_;rfl
def bRu:g_->Option jm
 |[.lit (.int .i64 k),.bs 16 r,.bs 16 i,.bs 16 l,.lit (.string p),.bs 16 ot,.lit (.int .i64 ol),.bs 16 xt,.lit (.int .i64 xl),.lit (.int .i64 bn),.lit (.string bc),.bs 16 bt]=>some ⟨k,r,i,l,p,ot,ol,xt,xl,bn,bc,bt⟩|_=>none
theorem aQc{l:g_}{m:jm}(h:bRu l=some m):l=w_ m:=by unfold bRu at h;split at h;cases h;rfl;cases h
structure zl(m:jm):Prop where
 root:m.root.length=16
 link:m.link.length=16
 ot:m.ot.length=16
 xt:m.xt.length=16
 ol:gy m.ol
 xl:gy m.xl
 bn:gy m.bn
 payload:m.payload.size<=10000
 bc:m.bc.size<=2000
def CQ(l:List Int):Nat->g_:=fun i=>[.lit (.int .u8 (l.getD i 0))]
def CU:g_->Int
 |[.lit (.int _ n)]=>n|_=>0
def bNw:g_->Bool
 |[.lit (.int .u8 _)]=>true|_=>false
theorem aOw{l:g_}(h:bNw l=true):l=[.lit (.int .u8 (CU l))]:=by
 unfold bNw at h;split at h
 rfl;cases h
def EX(l:List Int):g_:=[.sl 1 l.length (CQ l)]
def eY(b:vk):Nat->g_:=fun i=>EX (b.getD i [])
def FU:g_->List Int
 |[.sl 1 k g]=>(yz k).map fun j=>CU (g j)|_=>[]
def bSl:g_->Prop
 |[.sl 1 k g]=>∀ j,j<k->bNw (g j)=true|_=>False
def dF(n:Nat)(f:Nat->g_):vk:=(yz n).map fun i=>FU (f i)
def nX(n:Nat)(f:Nat->g_):Prop:=∀ i,i<n->bSl (f i)
@[simp] theorem iE(n:Nat)(f:Nat->g_):(dF n f).length=n:=by simp[dF]
theorem aVd(l:List Int):FU (EX l)=l:=by apply aBR (by simp[FU,EX]);intro i b a;simp only[FU,EX,aCI,aCA,CQ,CU];rw[zG,zH a];rfl
@[simp] theorem wE(n:Nat)(b:vk):nX n (eY b):=fun _ _=>fun _ _=>rfl
@[simp] theorem aQ(b:vk):dF b.length (eY b)=b:=by apply aBR d_;intro i c a;simp only[dF,aCI,aCA,eY];rw[aVd,zG,zH a];rfl
theorem aJq{n:Nat}{f:Nat->g_}{C:Ctx}{l:ag}(p:nX n f)(h:R C (.sl 1 n f) [l]):R C (.sl 1 (dF n f).length (eY (dF n f))) [l]:=by
 rw[iE];cases h with
 | sl o r q=>
  refine .sl o r (fun i d=>?_);have e:=q i d;have a:=p i d;have s:eY (dF n f) i=EX (FU (f i)):=by unfold eY dF;rw[nK n i (fun i=>FU (f i)) d]
  rw[s];generalize f i=c at e a ⊢;unfold bSl at a;split at a;rename_i b g;generalize (List.take 1 _)=t at e ⊢;cases e with
  |cons k1 k2=>cases k2;refine .cons ?_ .nil;show R _ (.sl 1 ((yz b).map fun j=>CU (g j)).length (CQ ((yz b).map fun j=>CU (g j)))) _;rw[aAB,List.length_range];have m:=k1;cases m;refine k1.BH (fun j k=>?_);unfold CQ;rw[nK b j (fun j=>CU (g j)) k];exact aOw (a j k)
  exact a.elim
def BK(b:vk):g_:=[.sl 1 b.length (eY b)]
theorem Wp{C:Ctx}{n:Nat}{f:Nat->g_}{v:ag}(a:nX n f)(h:RV C (.w (.agg [.sl 1 n f])) v):RV C (.w (.agg (BK (dF n f)))) v:=by
 cases h with
 | w h=>cases h with
  | agg h=>
   refine .w (.agg ?_);generalize Array.toList _=e at h ⊢;cases h with
   |cons k1 h=>cases h;cases k1 with
    |sl d c b=>exact .cons (xs:=[_]) (aJq a (.sl d c b)) .nil
end Pv
structure jr where
 b:vk
 f:Fl
 r:di
structure qy where
 cut:Bool
 bytes:Int
 ul:Bool
def yw:qy:=⟨false,0,false⟩
def iW:u_:=⟨0,aC⟩
def BD(b:vk)(a cell:Int):Bool:=(decide (a>=0)&&decide (a<(b.length:Int)))&&decide (cell>=0)&&decide (cell<((b.getD a.toNat []).length:Int))
def iV(b:vk)(a cell:Int):Int:=(b.getD a.toNat []).getD cell.toNat 0
def ug(b:vk)(a cell:Int)(cut:Bool):vk:=b.set a.toNat ((b.getD a.toNat []).set cell.toNat (lM (iV b a cell) cut))
def Ag(t:qy):Int:=if t.cut then min (max t.bytes 0) 256 else -1
def fM (h:jr) (a:Acc) (t:qy):jr×u_×Int:=
 if a.kind=1 then
  if a.bytes=aC then
   if BD h.b a.ng a.cell then (h,if t.cut then iW else⟨gJ (iV h.b a.ng a.cell) t.ul,aC⟩,0) else (h,iW,1)
  else (h,iW,1)
 else if a.kind=2 then
  if a.bytes=aC then
   if BD h.b a.ng a.cell then ({ h with b:=ug h.b a.ng a.cell t.cut },iW,0) else (h,iW,1)
  else (h,iW,1)
 else if a.kind=3 then
  if a.bytes=aC/\a.ng=0 then
   if 0<=a.cell/\a.cell<h.f.length then (h,if t.cut then iW else⟨0,strOf (sec h.f a.cell)⟩,0) else (h,iW,13)
  else (h,iW,1)
 else if a.kind=4 then
  if a.ng=0 then
   if 0<=a.cell/\a.cell<h.f.length then
    if a.bytes.size=256 then ({ h with f:=gU h.f a.cell a.bytes (Ag t) },iW,0) else (h,iW,1)
   else (h,iW,13)
  else (h,iW,1)
 else (h,iW,1)
def eG(F:List qy)(i:Nat):qy:=F.getD i yw
def fE{b:Type}(F:List qy):aj b->jr->Nat->Option b×jr×Nat
 |.ret a,h,i=>(some a,h,i)|.ask c k,h,i=>if (eG F i).cut=true then (none,(fM h c (eG F i)).1,i+1) else fE F (k (fM h c (eG F i)).2.1) (fM h c (eG F i)).1 (i+1)
def BF(F:List qy)(h:jr):je->Nat->jr
 |[],_=>h|c::l,i=>BF F (fM h c (eG F i)).1 l (i+1)
theorem bJd(F:List qy):∀ (l m:je) (h:jr) (i:Nat),BF F h (l++m) i=BF F (BF F h l i) m (i+l.length)
 |[],m,h,i=>rfl|c::l,m,h,i=>by rw[C_,BF,BF,bJd F l m,We,show i+1+l.length=i+(l.length+1) from a_]
theorem bAh(F:List qy)(l:je)(c:Acc)(h:jr):BF F h (l++[c]) 0=(fM (BF F h l 0) c (eG F l.length)).1:=by rw[bJd,mf];rfl
structure CP(h:jr):Prop where
 nb:h.b.length<=1000
 nc:∀ l∈h.b,l.length<=100000
 val:∀ l∈h.b,∀ x∈l,0<=x/\x<=3
 nf:h.f.length<=1000000
 sz:∀ x∈h.f,x.size<=1000000
 rt:h.r.length=16
theorem bEy{x:Int}(h:0<=x/\x<=3)(cut:Bool):0<=lM x cut/\lM x cut<=3:=by
 unfold lM;split
 ·split<;>omega
 exact h
theorem aXp{b:vk}{a cell:Int}(c:BD b a cell=true)(cut:Bool)(h1:∀ l∈b,l.length<=100000)(h2:∀ l∈b,∀ x∈l,0<=x/\x<=3):(ug b a cell cut).length=b.length/\(∀ l∈ug b a cell cut,l.length<=100000)/\∀ l∈ug b a cell cut,∀ x∈l,0<=x/\x<=3:=by
 have g:(0<=a/\a<(b.length:Int))/\0<=cell/\cell<((b.getD a.toNat []).length:Int):=by unfold BD at c;simp only[zg,decide_eq_true_eq] at c;exact⟨⟨c.1.1.1,c.1.1.2⟩,c.1.2,c.2⟩
 have e:b.getD a.toNat []∈b:=by rw[zG,zH a_];exact aBI _
 have f:iV b a cell∈b.getD a.toNat []:=by unfold iV;generalize b.getD a.toNat []=l at g;rw[zG,zH a_];exact aBI _
 unfold ug;refine⟨aAA ..,fun l d=>?_,fun l d x c=>?_⟩;rcases aFI d with d|rfl;exact h1 l d;rw[aAA];exact h1 _ e;rcases aFI d with d|rfl;exact h2 l d x c;rcases aFI c with c|rfl;exact h2 _ e x c;exact bEy (h2 _ e _ f) cut
theorem aLw{f:Fl}{s:Int}{b:jy}{cut:Int}(h1:f.length<=1000000)(h2:∀ x∈f,x.size<=1000000):(gU f s b cut).length<=1000000/\∀ x∈gU f s b cut,x.size<=1000000:=by
 unfold gU;split;rename_i c;refine⟨by rw[aAA];exact h1,fun x a=>?_⟩;rcases aFI a with a|rfl;exact h2 x a;rw[bC]
 have d:(sec f s).length<=1000000:=by unfold sec;rw[au ⟨c.1,c.2.1⟩,nz];rw[zG,zH a_];exact h2 _ (aBI _)
 have e:b.data.toList.length=256:=by rw[nz];exact c.2.2
 unfold Ai;split
 omega;rw[gz,ww,MM];omega
 exact⟨h1,h2⟩
theorem aPr{h:jr}(a:Acc)(t:qy)(k:CP h):CP (fM h a t).1:=by
 unfold fM
 repeat' split
 all_goals first
  |exact k
  |(rename_i b;exact⟨by rw[(aXp b t.cut k.nc k.val).1];exact k.nb,(aXp b t.cut k.nc k.val).2.1,(aXp b t.cut k.nc k.val).2.2,k.nf,k.sz,k.rt⟩)
  |exact⟨k.nb,k.nc,k.val,(aLw k.nf k.sz).1,(aLw k.nf k.sz).2,k.rt⟩
theorem J7{F:List qy}:∀ (l:je) (i:Nat) {h:jr},CP h->CP (BF F h l i)
 |[],_,_,k=>k|_::l,i,_,k=>J7 l (i+1) (aPr _ _ k)
namespace Pv
def Gj(F:List qy)(n:Nat):Prop:=∀ k,k<n->(eG F k).cut=false
theorem Yo{c:Type}(O:ut)(p:aj c):∀ (n:Nat),p.Within n->∀ l:je,(go O p l).2.length<=l.length+n:=by
 induction p with
 |ret a=>intro n _ l;exact Nat.le_add_right _ _| ask a k d=>
  intro n b l;cases n with
  |zero=>exact b.elim|succ n=>rw[Qw];have:=d _ n (b (ans O (l++[a]))) (l++[a]);rw[gz,aBY] at this;omega
theorem aYs(b:vk)(a cell:Int):fQ prog af 157 true [.w (.agg (BK b)),dw a,dw cell] (t_ (BD b a cell)):=by
 have M:=Fa (I:=af);refine bH func157 rfl rfl bJ (fun A f e g=>?_);refine bU ?_ ?_;simp;exact fun d c _=>⟨d,c⟩;refine jB ?_;refine congrArg t_ ?_;unfold BD
 cases decide (a>=0)<;>cases decide (a<(b.length:Int))<;>cases decide (cell>=0)<;>rfl
def exG:ji->Option (Prop×PV)
 |[.w (.agg [.sl 1 n f]),.w (.one (.lit (.int .i64 ng))),.w (.one (.lit (.int .i64 cell)))]=>some (nX n f,t_ (BD (dF n f) ng cell))|_=>none
theorem aEs:b_ prog af 157 (aV true exG):=by
 refine aU (aB func157 ai rfl) (fun i p r b g w c d h e=>?_);unfold exG at b;split at b;rename_i n f a cell;cases b
 match d,e with
 |[v1,v2,v3],⟨k1,k2,k3,_⟩=>exact aYs (dF n f) a cell w c [v1,v2,v3] h ⟨Wp g k1,k2,k3,trivial⟩
 cases b
theorem aTy(x:Int)(b:Bool):fQ prog af 158 true [qc (.int .u8 x),t_ b] (dw (gJ x b)):=by
 have M:=Fa (I:=af);refine bH func158 rfl rfl bJ (fun A h g i=>?_);refine qK ?_;refine aH ?_ ?_;simp;exact fun d c=>⟨d,c⟩;refine cO (fun f=>?_) (fun f=>?_);have a:(bif x==2 then true else bif x==1 then b else false)=true:=f;have e:gJ x b=1:=by unfold gJ;by_cases c:x=2;simp[c];by_cases d:x=1;subst d;have:b=true:=a;simp[this];simp[d,c] at a
 refine gB ?_;rw[e];have a:(bif x==2 then true else bif x==1 then b else false)=false:=f;have e:gJ x b=0:=by unfold gJ;by_cases c:x=2;simp[c] at a;by_cases d:x=1;subst d;have:b=false:=a;simp[this];simp[d,c]
 refine dS ?_;refine jB ?_;rw[e]
def Xa:ji->Option (Prop×PV)
 |[.w (.one (.lit (.int .u8 x))),.w (.one (.lit (.bool a)))]=>some (True,dw (gJ x a))|_=>none
theorem aPj:b_ prog af 158 (aV true Xa):=by refine aU (aB func158 ai rfl) (fun b p r a c=>?_);unfold Xa at a;split at a;cases a;exact aTy _ _;cases a
def fzL:List (Nat×Spec):=[(157,aV true exG),(158,aV true Xa)]
theorem aJB:∀ p∈fzL,b_ prog af p.1 p.2:=by intro p a;simp only[fzL,xn,aAe,or_false] at a;rcases a with rfl|rfl;exact aEs;exact aPj
theorem fzM:jq prog af (find fzL):=⟨aY aJB,dB⟩
theorem aUh{b:vk}{a cell:Int}(c:BD b a cell=true):(0<=a/\a<(b.length:Int))/\0<=cell/\cell<((b.getD a.toNat []).length:Int):=by unfold BD at c;simp only[zg,decide_eq_true_eq] at c;exact⟨⟨c.1.1.1,c.1.1.2⟩,c.1.2,c.2⟩
def Yu(b:vk)(a cell:Int)(c:Bool):PV:=.o7 [.one (.lit (.int .i64 (if BD b a cell then gJ (iV b a cell) c else 0))),.one (.lit (.int .i64 (if BD b a cell then 0 else 1)))]
theorem UU(b:vk)(a cell:Int)(g:Bool):fQ prog af 123 true [.w (.agg (BK b)),dw a,dw cell,t_ g] (Yu b a cell g):=by
 have M:=fzM;refine bH func123 rfl rfl bJ (fun A i h j=>?_);unfold Yu;refine aI ?_;refine jG ?_;rw[aQ];refine cO (fun f=>?_) (fun f=>?_);have e:BD b a cell=false:=by have c:(!(BD b a cell))=true:=f;simpa using c
 rw[e];refine aI ?_;exact kE;have e:BD b a cell=true:=by have c:(!(BD b a cell))=false:=f;simpa using c
 have d:=aUh e;rw[e];refine jK ?_ ?_;simp;rw[zG] at d;exact d;exact kE
def Yv:ji->Option (Prop×PV)
 |[.w (.agg [.sl 1 n f]),.w (.one (.lit (.int .i64 ng))),.w (.one (.lit (.int .i64 cell))),.w (.one (.lit (.bool a)))]=>some (nX n f,Yu (dF n f) ng cell a)|_=>none
theorem Oe:b_ prog af 123 (aV true Yv):=by
 refine aU (aB func123 ai rfl) (fun k p r b i w c d j h=>?_);unfold Yv at b;split at b;rename_i n f a cell g;cases b
 match d,h with
 |[v1,v2,v3,e],⟨k1,k2,k3,k4,_⟩=>exact UU (dF n f) a cell g w c [v1,v2,v3,e] j ⟨Wp i k1,k2,k3,k4,trivial⟩
 cases b
def XY(w:ae)(ok0:uy)(c:Nat)(val:ag):Ctx:={ w:=w,ok:=fun b=>(ok0 b\/c<=b)/\hblk val≠some b,env:=fun _=>none }
def aEc(P:ed)(I:jg)(f:Nat)(args:ji)(e n len:Nat)(f':Nat->g_):Prop:=
 ∀ (w:ae) (c:uy) (h:jl),I w->pq { w,ok:=c,env:=fun _=>none } args h ->
  lL P f h.toArray w fun r d=>∃ b g,r=.returned b/\Ext w d/\d.ownsRow w.heap.size e n b len g/\∀ i,i<len->RL (XY d c w.heap.size b) (f' i) ((g.drop (i*n)).take n)
def bSe(P:ed)(fn:Func)(e n len:Nat)(f':Nat->g_)(s:St):Prop:=∃ x b g f,(AQ P fn.results).ok none s (fun _ c wr=>c=dm (.ow x b n 0 len)/\wr=[])/\find s.o x=some (g,b,.arr e n len f)/\gT g/\∀ i,i<len->f i=f' i/\(f' i).all (bT false)=true
def bBW(P:ed)(A:o_)(fn:Func)(e n len:Nat)(f':Nat->g_):Exit->Act->ae->Prop
 |.panic chain,a,w=>a.defers=[]/\E5 A chain w|x,a,w=>(x=.normal\/x=.ret)/\∃ s,bSe P fn e n len f' s/\qj A s a w
theorem bKa{P:ed}{fn:Func}{e n len x l9:Nat}{g:og}{f f':Nat->g_}{s:St}{out:Out}(h:(AQ P fn.results).exec none s [] [] [] []=some out)(hc:All out.conds)(d:out.wr=[])(c:out.val=dm (.ow x l9 n 0 len))(l:find s.o x=some (g,l9,.arr e n len f))(k:gT g)(b:∀ i,i<len->f i=f' i/\(f' i).all (bT false)=true):bSe P fn e n len f' s:=by rw[zL] at h;exact⟨x,l9,g,f,M.zy _ none s out _ h (fun p j=>hc.mem p j) ⟨c,d⟩,l,k,b⟩
theorem bGg{P:ed}{I:jg}{f:Nat}{fn:Func}{c:Code}{args:ji}{e n len:Nat}{f':Nat->g_}(hf:P.funcs[f]?=some fn)(hb:fn.body=some c)(y:Nat.ble args.length fn.ntmps=true)(hI:∀ w j,Ext w j->I w->I j)
  (hT:∀ A:o_,A.S=Non->A.nt=fn.ntmps->l_ P I A->kw P A ⟨slots 0 args,[]⟩ c (bBW P A fn e n len f')) (H:XN e Gx=true:=by rfl):aEc P I f args e n len f':=by
 intro w o vs Q V;have hn:=aBO y;have X:=V.length;refine calls_of_wp hf hb (aCD (hT (o_.plain w o fn.ntmps) rfl rfl (l_.plain fun j hc=>hI w j hc Q) _ w (aIt y V) (fun _ _ _ hd h=>⟨hd,h⟩)) (fun x T j Z=>?_))
 have O:(x=.normal\/x=.ret)/\∃ s,bSe P fn e n len f' s/\qj (o_.plain w o fn.ntmps) s T j:=by
  cases x with
  |panic chain=>obtain⟨_,l,hl,_⟩:=Z;exact hl.elim
  |_=>exact Z
 obtain⟨D,s,⟨U,t,g,f0,h2,L,K,z⟩,h4⟩:=O;obtain⟨env,B⟩:=h4;obtain⟨v',m,h5,h6,h7,_⟩:=vN B h2;subst h7;obtain⟨hd,q,F⟩:=kX B L K;obtain⟨E,u,c0,rfl,Y,rfl⟩:=h6.Ar q;obtain⟨r,d,N⟩:=F;have G:u=len:=by obtain⟨_,A1,c1,e1,_⟩:=Reads.Ac d;cases e1;rfl
 have d:=d.plain H;subst G
 have C:E.map (fun p=>p.add (0*n))=E:=by
  cases E with
  |none=>rfl|some ad=>simp[Addr.add]
 have k:j.ownsRow w.heap.size e n (.slice E u c0) u r:=⟨d.1,d.2.imp id (fun⟨g,cap,cur,D,_,h3⟩=>⟨g,cap,cur,D,by
  have:=(B.live U t _ g q (by rw[D];rfl)).2
  exact this.resolve_right (fun h=>h.1),h3⟩)⟩
 have this:T.defers=[]/\∃ v,(results fn T.tmps).run P j=.ok v j/\∃ m r,Ending.returned v=.returned m/\Ext w j/\j.ownsRow w.heap.size e n m u r/\∀ i,i<u->RL (XY j o w.heap.size m) (f' i) ((r.drop (i*n)).take n):=by
  refine⟨B.defers,_,h5,_,r,rfl,B.iw,?_,fun i J=>?_⟩
  ·first|exact k|(simp only[aDN,aDU] at C ⊢;rw[C];exact k)
  have h8:=N i J;rw[(z i J).1] at h8;refine (kV h8 (z i J).2).le ⟨dE _,fun b _ W=>⟨⟨W.1,fun e=>W.2 U t _ q ?_⟩,rfl⟩,fun _ _ _ h=>by cases h⟩;simp only[aDN,aDU] at C e;rw[C] at e;exact e
 rcases D with rfl|rfl<;>exact this
section
variable {P:ed} {I:jg} {A:o_} {s:St} {a:Act} {w:ae} {env:Env}
theorem ig.Lm(h:ig A s a w env)(d:Nat)(e n len:Nat){f:Nat->g_}{v:ag}{xs:jl}{w':ae}(K:Ext w w')(j:w'.ownsRow w.heap.size e n v len xs)(hr:∀ i,i<len->RL (XY w' (aP A w env).ok w.heap.size v) (f i) ((xs.drop (i*n)).take n)) :
  ∃ c,ig A { s with o:=[(d,none,fresh s d,.arr e n len f)]++s.o } a w' c/\RV (aP A w' c) (dm (.ow d (fresh s d) n 0 len)) v:=by
 have u:w'.ownsRow 0 e n v len xs:=⟨j.1,j.2.imp id (fun⟨g,cap,cur,D,_,L⟩=>⟨g,cap,cur,D,x8 _,L⟩)⟩;obtain⟨q,G,rfl⟩:=pX j
 obtain⟨D,N⟩:=h.new (w':=w') d none (.slice q len G) (.arr e n len f) K (fun b F=>by
   have l:(Value.slice q len G).ownBlock=some b:=by cases q<;>exact F
   exact⟨(j.lt b l).2,(j.lt b l).1⟩)
  (
   fun B _=>⟨xs,aAr u,fun i H=>(hr i H).le ⟨dE _,fun b F t=>⟨by
   obtain⟨m,y⟩:=t;rcases aAW b w.heap.size with z|C;rcases m with m|m;exact (B.blk b z m).1;omega
   refine⟨.inr (ry h.iw.size C),fun x r J p k=>?_⟩;by_cases E:x=d;subst E;rw[jA] at p;cases p;exact y k;rw[lT E] at p;have:=(h.live x r J b p k).1
   omega,rfl⟩,fun _ _ _ h=>by cases h⟩⟩)
 refine⟨_,D,.w (.one (.ow ⟨_,_,rfl⟩ ⟨_,_,jA _ _ _ _,dE _,fun _=>⟨_,_,_,rfl,a_,?_⟩⟩))⟩;cases q with
 |none=>simp|some O=>simp[Addr.add]
def aNo(g:ji->Option (Prop×Nat×Nat×Nat×(Nat->g_))):Spec:=fun c b=>match b.all wC,g b with
 |true,some (p,e,n,len,f)=>.need p (.new c (.arr e n len f) fun v=>.ret (dm (.ow c v n 0 len)))|_,_=>.fail
theorem aWr{f:Nat}{g:ji->Option (Prop×Nat×Nat×Nat×(Nat->g_))}(d:∀ args w,(aAE f args).run P w=.ok (.enter f args) w)(C:∀ k p e n len i,g k=some (p,e,n,len,i)->p->aEc P I f k e n len i):b_ P I f (aNo g):=by
 refine⟨d,fun A s a w env u b o F h D x c=>?_⟩;unfold aNo at c
 cases m:b.all wC<;>cases l:g b<;>simp only[m,l] at c<;>try exact c.elim
 rename_i q;obtain⟨p,e,n,len,i⟩:=q;obtain⟨z,c⟩:=c;refine (C b p e n len i l z w (aP A w env).ok o (D.mem w h.iw) (aJh x m)).mono ?_;rintro r J ⟨t,k,rfl,E,B,y⟩;obtain⟨j,H,G⟩:=h.Lm u e n len (f:=i) E B y;exact .inl ⟨_,_,_,j,rfl,c,H,G⟩
end
theorem app0(f g:Nat->g_):ru 0 f g=g:=by funext i;unfold ru;rw[ah a_];rfl
theorem Q3(b:vk)(h0:0<b.length)(hl:b.length<=100000):aEc prog af 159 [dm (.sl 1 b.length (eY b))] 74 1 b.length (eY b):=by
 have M:=Fa (I:=af);have e:prog.types[74].bytes=24:=ai;have c:prog.types[74].size=1:=ai;refine bGg func159 rfl rfl bJ (fun A m l n=>?_);refine qK ?_;refine aH ?_ ?_;simp;omega;refine cO (fun h=>?_) (fun h=>?_);cases h;refine jK ?_ ?_;simp;rw[e];omega;refine bK (s':=⟨[(2,none,dm (.ow 3000 0 1 0 b.length))],[(3000,none,0,.arr 74 1 b.length (eY b))]⟩) (fun a w d=>(d.reset (kT:=[2]) (kO:=[3000]) ay ?_).same ?_ ?_) ?_;simp;rw[app0];exact fun i _ x j=>by have:x∈[_]:=j;rw[aJW] at this;subst this;rfl
 refine .cons ?_ .nil;change dm (.ow 3000 0 prog.types[74].size 0 (0+b.length))=_;rw[c,mf];refine .cons (.arr ?_ (fun i k=>?_)) .nil;exact mf _;rw[app0];refine bZ (fun a w d=>⟨.inr rfl,_,?_,d⟩);refine bKa (x:=3000) (l9:=0) (g:=none) (f:=?_) (out:=?_) ?_ ?_ ?_ ?_ ?_ trivial ?_;rotate_left 2;rfl;simp;rfl;rfl;rfl;exact fun i k=>⟨rfl,rfl⟩
theorem Pz(b:List Int)(h0:0<b.length)(hl:b.length<=100000):VP prog af 160 [dm (.sl 1 b.length (CQ b))] 5 1 b.length (CQ b):=by
 have M:=Fa (I:=af);have e:prog.types[5].bytes=1:=ai;have c:prog.types[5].size=1:=ai;refine aCv func160 rfl rfl bJ (fun A m l n=>?_);refine qK ?_;refine aH ?_ ?_;simp;omega;refine cO (fun h=>?_) (fun h=>?_);cases h;refine jK ?_ ?_;simp;rw[e];omega;refine bK (s':=⟨[(2,none,dm (.ow 3000 0 1 0 b.length))],[(3000,none,0,.arr 5 1 b.length (CQ b))]⟩) (fun a w d=>(d.reset (kT:=[2]) (kO:=[3000]) ay ?_).same ?_ ?_) ?_;simp;rw[app0];exact fun i _ x j=>by have:x∈[_]:=j;rw[aJW] at this;subst this;rfl
 refine .cons ?_ .nil;change dm (.ow 3000 0 prog.types[5].size 0 (0+b.length))=_;rw[c,mf];refine .cons (.arr ?_ (fun i k=>?_)) .nil;exact mf _;rw[app0];refine bZ (fun a w d=>⟨.inr rfl,_,?_,d⟩);refine aFi (x:=3000) (l9:=0) (g:=none) (f:=?_) (out:=?_) ?_ ?_ ?_ ?_ ?_ trivial ?_;rotate_left 2;rfl;simp;rfl;rfl;rfl;exact fun i k=>⟨rfl,rfl⟩
def JJ:Spec:=aNo fun a=>match a with
 |[.w (.one (.sl 1 n f))]=>some (0<n/\n<=100000/\nX n f,74,1,(dF n f).length,eY (dF n f))|_=>none
theorem XA{C:Ctx}{n:Nat}{f:Nat->g_}{v:ag}(a:nX n f)(h:RV C (dm (.sl 1 n f)) v):RV C (dm (.sl 1 (dF n f).length (eY (dF n f)))) v:=by
 cases h with
 |w h=>cases h with
  |one h=>exact .w (.one (aJq a h))
theorem aEc.args{P:ed}{I:jg}{f:Nat}{args a:ji}{e n len:Nat}{f':Nat->g_}(h:aEc P I f a e n len f')(d:∀ C b,pq C args b->pq C a b):aEc P I f args e n len f':=fun w c b i g=>h w c b i (d _ _ g)
theorem VP.args{P:ed}{I:jg}{f:Nat}{args a:ji}{e n len:Nat}{f':Nat->g_}(h:VP P I f a e n len f')(d:∀ C b,pq C args b->pq C a b):VP P I f args e n len f':=fun w c b i g=>h w c b i (d _ _ g)
theorem V6:b_ prog af 159 JJ:=by
 refine aWr (aB func159 ai rfl) (fun l p e n len m a g=>?_);split at a;rename_i c k;cases a;obtain⟨j,i,h⟩:=g
 exact (Q3 (dF c k) (by rw[iE];exact j) (by rw[iE];exact i)).args fun C b f=>by
  match b,f with
  |[x],⟨d,_⟩=>exact⟨XA h d,trivial⟩
 cases a
def aVn(n:Nat)(g:Nat->g_):Prop:=∀ j,j<n->bNw (g j)=true
def rowCell(n:Nat)(g:Nat->g_):List Int:=(yz n).map fun j=>CU (g j)
theorem aGy(l:List Int):rowCell l.length (CQ l)=l:=aVd l
theorem Q5{C:Ctx}{n:Nat}{g:Nat->g_}{v:ag}(c:aVn n g)(h:RV C (dm (.sl 1 n g)) v):RV C (dm (.sl 1 (rowCell n g).length (CQ (rowCell n g)))) v:=by
 have b:(rowCell n g).length=n:=by unfold rowCell;simp
 rw[b];cases h with
 | w h=>cases h with
  |one h=>exact .w (.one (h.BH fun j a=>by
   unfold CQ rowCell;rw[nK n j (fun j=>CU (g j)) a]
   exact aOw (c j a)))
@[simp] theorem pO(n:Nat)(g:Nat->g_):(rowCell n g).length=n:=by unfold rowCell;simp
theorem bBd{b:vk}{nb a:Nat}{cut:Bool}(h:nb<b.length):eY (ug b (nb:Int) (a:Int) cut) nb=EX ((b.getD nb []).set a (lM (iV b (nb:Int) (a:Int)) cut)):=by unfold eY ug;rw[VM,zG,aDZ h];rfl
theorem bLj{b:vk}{nb a:Nat}{cut:Bool}{i:Nat}(h:i≠nb):eY (ug b (nb:Int) (a:Int) cut) i=eY b i:=by unfold eY ug;rw[VM,zG,aEb (fun e=>h e.symm),<-zG]
theorem bIs{l:List Int}{a:Nat}{x:Int}(h:a<l.length){k:Nat}:(if k=a then[PC.lit (.int .u8 x)] else CQ l k)=CQ (l.set a x) k:=by unfold CQ;by_cases b:k=a;subst b;rw[au rfl,zG,aDZ h];rfl;rw[ah b,zG,zG,aEb (fun e=>b e.symm)]
theorem IL.EH{s:St}{new:Bool}{c:PC}{n len a:Nat}{f:Nat->g_}(e:a=len)(h:IL s new c (.sl n a f)):IL s new c (.sl n len f):=by subst e;exact h
theorem aHq(b:vk)(a cell:Int)(cut:Bool):(ug b a cell cut).length=b.length:=aAA ..
def JI:Spec:=aGx fun a=>match a with
 |[.w (.one (.sl 1 n f))]=>some (0<n/\n<=100000/\aVn n f,5,1,(rowCell n f).length,CQ (rowCell n f))|_=>none
theorem V5:b_ prog af 160 JI:=by
 refine yY (aB func160 ai rfl) (fun m p e n len o b i=>?_);split at b;rename_i a d;cases b;obtain⟨l,k,j⟩:=i;have c:(rowCell a d).length=a:=by unfold rowCell;simp
 exact (Pz (rowCell a d) (by rw[c];exact l) (by rw[c];exact k)).args fun C f h=>by
  match f,h with
  |[x],⟨g,_⟩=>exact⟨Q5 j g,trivial⟩
 cases b
def puL:List (Nat×Spec):=[(157,aV true exG),(159,JJ),(160,JI)]
theorem aHJ:∀ p∈puL,b_ prog af p.1 p.2:=by intro p a;simp only[puL,xn,aAe,or_false] at a;rcases a with rfl|rfl|rfl;exact aEs;exact V6;exact V5
theorem puM:jq prog af (find puL):=⟨aY aHJ,dB⟩
def Zm(b:vk)(e:Int):PV:=.o7 [.agg (BK b),.one (.lit (.int .i64 e))]
def Sj(b:vk)(nb a:Nat)(x:Int):St:=⟨[(1,none,dw (nb:Int)),(2,none,dw (a:Int)),(4,none,dm (.pt 0 0 0)),(8,none,dm (.pt 1 0 0)),(10,none,qc (.int .u8 x))],[(0,none,0,.box 60 (BK b)),(1,none,0,.box 60 [.lit (.slice none 0 0)])]⟩
theorem aFg{P:ed}{A:o_}{s:St}{Q:Exit->Act->jg}{x y:Code}(t:St)(h1:kw P A s x (Exit.then (qj A t) Q))(h2:kw P A t y Q):kw P A s (.seq x y) Q:=fun a w d b=>wp_seq (aCD (h1 a w d b) (fun e g f c=>by cases e<;>first|exact c|exact h2 _ _ c b))
theorem Kt(b:vk)(c:Nat)(cut:Bool)(B:b.length<=1000)(r:∀ l∈b,l.length<=100000)(y:∀ l∈b,∀ x∈l,0<=x/\x<=3)(t:BD b 2 (c:Int)=true):fQ prog af 125 false [.w (.agg (BK b)),dw ((2:Nat):Int),dw (c:Int),t_ cut] (Zm (ug b 2 (c:Int) cut) 0):=by
 have M:=puM;have n:=aUh t;refine bH func125 rfl rfl bJ (fun A I F J=>?_);refine aI ?_;refine mP ?_;refine aI ?_;rw[aQ,show ((2:Nat):Int)=2 from rfl,t];refine cO (fun f=>?_) (fun f=>?_);cases f;refine fZ ?_;refine aI ?_;have o:2<b.length:=by have:=n.1.2;omega
 have m:b.getD 2 []∈b:=getD_mem o [];have D:(c:Int)<((b.getD 2 []).length:Int):=n.2.2;have C:0<=iV b 2 (c:Int)/\iV b 2 (c:Int)<=3:=y _ m _ (getD_mem a_ 0);refine aFg (Sj b 2 c (bif cut then 1 else 2)) ?_ ?_;refine aI ?_;refine cO (fun f=>?_) (fun f=>?_);have e:cut=true:=f;refine fJ ?_;exact fun a w g=>(g.reset (kT:=[1,2,4,8,10]) (kO:=[0,1]) ay d_).same (.cons rfl (.cons rfl (.cons rfl (.cons rfl (.cons (congrArg (fun z=>qc (.int .u8 z)) (show (1:Int)=(bif cut then 1 else 2) by rw[e];rfl)) .nil))))) (.cons (.box rfl) (.cons (.box rfl) .nil));have e:cut=false:=f;exact fH fun a w g=>(g.reset (kT:=[1,2,4,8,10]) (kO:=[0,1]) ay d_).same (.cons rfl (.cons rfl (.cons rfl (.cons rfl (.cons (congrArg (fun z=>qc (.int .u8 z)) (show (2:Int)=(bif cut then 1 else 2) by rw[e];rfl)) .nil))))) (.cons (.box rfl) (.cons (.box rfl) .nil));refine aFg (Sj b 2 c (lM (iV b 2 (c:Int)) cut)) ?_ ?_
 ·refine aH ?_ ?_;simp;rw[<-zG];omega;refine aI ?_;refine cO (fun f=>?_) (fun f=>?_);have d:(bif iV b 2 (c:Int)==2 then true else iV b 2 (c:Int)==3)=true:=f
  have q:lM (iV b 2 (c:Int)) cut=iV b 2 (c:Int):=by
   unfold lM
   have s:¬iV b 2 (c:Int)<=1:=fun h=>by
    by_cases p:iV b 2 (c:Int)=2
    omega;rw[beq_eq_false_iff_ne.2 p] at d;have u:=eq_of_beq d;omega
   rw[if_neg s]
  refine fJ ?_;exact fun a w g=>(g.reset (kT:=[1,2,4,8,10]) (kO:=[0,1]) ay d_).same (.cons rfl (.cons rfl (.cons rfl (.cons rfl (.cons (congrArg (fun z=>qc (.int .u8 z)) (q.symm)) .nil))))) (.cons (.box rfl) (.cons (.box rfl) .nil))
  ·have d:(bif iV b 2 (c:Int)==2 then true else iV b 2 (c:Int)==3)=false:=f
   have q:lM (iV b 2 (c:Int)) cut=bif cut then 1 else 2:=by
    unfold lM;have s:iV b 2 (c:Int)<=1:=by by_cases p:iV b 2 (c:Int)=2;rw[p] at d;cases d;rw[beq_eq_false_iff_ne.2 p] at d;by_cases u:iV b 2 (c:Int)=3;rw[u] at d;cases d;omega
    rw[if_pos s]
    cases cut<;>rfl
   exact fH fun a w g=>(g.reset (kT:=[1,2,4,8,10]) (kO:=[0,1]) ay d_).same (.cons rfl (.cons rfl (.cons rfl (.cons rfl (.cons (congrArg (fun z=>qc (.int .u8 z)) (q.symm)) .nil))))) (.cons (.box rfl) (.cons (.box rfl) .nil))
 refine aH ?_ ?_;simp;omega;refine aH ?_ ?_;simp;rw[<-zG];exact⟨a_,a_,⟨a_,r _ m,fun _ _=>rfl⟩,a_,a_⟩;refine aH ?_ ?_;simp;rw[<-zG];omega;refine aI ?_;refine bZ (fun a w g=>⟨.inr rfl,_,?_,g⟩);unfold Zm BK;rw[aHq];refine qL (ay) d_ ay ?_;refine .o7 (.cons (.agg (.cons ?_ .nil)) (.cons (.one (.cold rfl)) .nil));have E:(dF b.length (eY b)).length=b.length:=iE _ _;refine IL.EH E (.rows rfl trivial a_ (fun i H=>?_));rw[mf];by_cases j:i=2;subst j;refine .inr ⟨10008,0,1,0,(b.getD 2 []).length,_,_,_,_,CQ ((b.getD 2 []).set c (lM (iV b 2 (c:Int)) cut)),?_,?_,rfl,trivial,?_,fun k G=>⟨?_,rfl⟩⟩;change [PC.ow 10008 0 1 0 (rowCell ((dF b.length (eY b)).getD 2 []).length (CQ ((dF b.length (eY b)).getD 2 []))).length]=_;rw[aQ,pO];rw[show (2:Int)=((2:Nat):Int) from rfl,bBd o];unfold EX;rw[aAA];change 0+(b.getD 2 []).length<=(rowCell ((dF b.length (eY b)).getD 2 []).length (CQ ((dF b.length (eY b)).getD 2 []))).length;rw[aQ,pO];omega;rw[mf];change (if k=0+(c:Int).toNat then[PC.lit (.int .u8 (lM (iV b 2 (c:Int)) cut))] else CQ (rowCell ((dF b.length (eY b)).getD 2 []).length (CQ ((dF b.length (eY b)).getD 2 []))) k)=_;rw[aQ,aGy,VM,mf];exact bIs a_;refine .inl ⟨?_,rfl⟩;rw[if_neg (by rw[mf];exact j),aQ];exact (bLj (nb:=2) j).symm
theorem Kr(b:vk)(c:Nat)(cut:Bool)(B:b.length<=1000)(r:∀ l∈b,l.length<=100000)(y:∀ l∈b,∀ x∈l,0<=x/\x<=3)(t:BD b 3 (c:Int)=true):fQ prog af 125 false [.w (.agg (BK b)),dw ((3:Nat):Int),dw (c:Int),t_ cut] (Zm (ug b 3 (c:Int) cut) 0):=by
 have M:=puM;have n:=aUh t;refine bH func125 rfl rfl bJ (fun A I F J=>?_);refine aI ?_;refine mP ?_;refine aI ?_;rw[aQ,show ((3:Nat):Int)=3 from rfl,t];refine cO (fun f=>?_) (fun f=>?_);cases f;refine fZ ?_;refine aI ?_;have o:3<b.length:=by have:=n.1.2;omega
 have m:b.getD 3 []∈b:=getD_mem o [];have D:(c:Int)<((b.getD 3 []).length:Int):=n.2.2;have C:0<=iV b 3 (c:Int)/\iV b 3 (c:Int)<=3:=y _ m _ (getD_mem a_ 0);refine aFg (Sj b 3 c (bif cut then 1 else 2)) ?_ ?_;refine aI ?_;refine cO (fun f=>?_) (fun f=>?_);have e:cut=true:=f;refine fJ ?_;exact fun a w g=>(g.reset (kT:=[1,2,4,8,10]) (kO:=[0,1]) ay d_).same (.cons rfl (.cons rfl (.cons rfl (.cons rfl (.cons (congrArg (fun z=>qc (.int .u8 z)) (show (1:Int)=(bif cut then 1 else 2) by rw[e];rfl)) .nil))))) (.cons (.box rfl) (.cons (.box rfl) .nil));have e:cut=false:=f;exact fH fun a w g=>(g.reset (kT:=[1,2,4,8,10]) (kO:=[0,1]) ay d_).same (.cons rfl (.cons rfl (.cons rfl (.cons rfl (.cons (congrArg (fun z=>qc (.int .u8 z)) (show (2:Int)=(bif cut then 1 else 2) by rw[e];rfl)) .nil))))) (.cons (.box rfl) (.cons (.box rfl) .nil));refine aFg (Sj b 3 c (lM (iV b 3 (c:Int)) cut)) ?_ ?_
 ·refine aH ?_ ?_;simp;rw[<-zG];omega;refine aI ?_;refine cO (fun f=>?_) (fun f=>?_);have d:(bif iV b 3 (c:Int)==2 then true else iV b 3 (c:Int)==3)=true:=f
  have q:lM (iV b 3 (c:Int)) cut=iV b 3 (c:Int):=by
   unfold lM
   have s:¬iV b 3 (c:Int)<=1:=fun h=>by
    by_cases p:iV b 3 (c:Int)=2
    omega;rw[beq_eq_false_iff_ne.2 p] at d;have u:=eq_of_beq d;omega
   rw[if_neg s]
  refine fJ ?_;exact fun a w g=>(g.reset (kT:=[1,2,4,8,10]) (kO:=[0,1]) ay d_).same (.cons rfl (.cons rfl (.cons rfl (.cons rfl (.cons (congrArg (fun z=>qc (.int .u8 z)) (q.symm)) .nil))))) (.cons (.box rfl) (.cons (.box rfl) .nil))
  ·have d:(bif iV b 3 (c:Int)==2 then true else iV b 3 (c:Int)==3)=false:=f
   have q:lM (iV b 3 (c:Int)) cut=bif cut then 1 else 2:=by
    unfold lM;have s:iV b 3 (c:Int)<=1:=by by_cases p:iV b 3 (c:Int)=2;rw[p] at d;cases d;rw[beq_eq_false_iff_ne.2 p] at d;by_cases u:iV b 3 (c:Int)=3;rw[u] at d;cases d;omega
    rw[if_pos s]
    cases cut<;>rfl
   exact fH fun a w g=>(g.reset (kT:=[1,2,4,8,10]) (kO:=[0,1]) ay d_).same (.cons rfl (.cons rfl (.cons rfl (.cons rfl (.cons (congrArg (fun z=>qc (.int .u8 z)) (q.symm)) .nil))))) (.cons (.box rfl) (.cons (.box rfl) .nil))
 refine aH ?_ ?_;simp;omega;refine aH ?_ ?_;simp;rw[<-zG];exact⟨a_,a_,⟨a_,r _ m,fun _ _=>rfl⟩,a_,a_⟩;refine aH ?_ ?_;simp;rw[<-zG];omega;refine aI ?_;refine bZ (fun a w g=>⟨.inr rfl,_,?_,g⟩);unfold Zm BK;rw[aHq];refine qL (ay) d_ ay ?_;refine .o7 (.cons (.agg (.cons ?_ .nil)) (.cons (.one (.cold rfl)) .nil));have E:(dF b.length (eY b)).length=b.length:=iE _ _;refine IL.EH E (.rows rfl trivial a_ (fun i H=>?_));rw[mf];by_cases j:i=3;subst j;refine .inr ⟨10008,0,1,0,(b.getD 3 []).length,_,_,_,_,CQ ((b.getD 3 []).set c (lM (iV b 3 (c:Int)) cut)),?_,?_,rfl,trivial,?_,fun k G=>⟨?_,rfl⟩⟩;change [PC.ow 10008 0 1 0 (rowCell ((dF b.length (eY b)).getD 3 []).length (CQ ((dF b.length (eY b)).getD 3 []))).length]=_;rw[aQ,pO];rw[show (3:Int)=((3:Nat):Int) from rfl,bBd o];unfold EX;rw[aAA];change 0+(b.getD 3 []).length<=(rowCell ((dF b.length (eY b)).getD 3 []).length (CQ ((dF b.length (eY b)).getD 3 []))).length;rw[aQ,pO];omega;rw[mf];change (if k=0+(c:Int).toNat then[PC.lit (.int .u8 (lM (iV b 3 (c:Int)) cut))] else CQ (rowCell ((dF b.length (eY b)).getD 3 []).length (CQ ((dF b.length (eY b)).getD 3 []))) k)=_;rw[aQ,aGy,VM,mf];exact bIs a_;refine .inl ⟨?_,rfl⟩;rw[if_neg (by rw[mf];exact j),aQ];exact (bLj (nb:=3) j).symm
def Xj:ji->Option (Prop×PV)
 |[.w (.agg [.sl 1 n f]),.w (.one (.lit (.int .i64 bk))),.w (.one (.lit (.int .i64 c))),.w (.one (.lit (.bool cut)))]=>some (nX n f/\n<=1000/\(∀ l∈dF n f,l.length<=100000)/\(∀ l∈dF n f,∀ x∈l,0<=x/\x<=3)/\(bk=2\/bk=3)/\BD (dF n f) bk c=true,Zm (ug (dF n f) bk c cut) 0)|_=>none
theorem Ku:b_ prog af 125 (aV false Xj):=by
 refine aU (aB func125 ai rfl) (fun u p r e t w a q j s=>?_);unfold Xj at e;split at e;rename_i n f x c b;cases e;obtain⟨o,m,l,k,g,h⟩:=t;obtain⟨d,rfl⟩:∃ d:Nat,c=(d:Int):=⟨c.toNat,by have:=(aUh h).2.1;omega⟩
 match q,s with
 |[v1,v2,v3,i],⟨k1,k2,k3,k4,_⟩=>rcases g with rfl|rfl;exact Kt (dF n f) d b (by rw[iE];exact m) l k h w a [v1,v2,v3,i] j ⟨Wp o k1,k2,k3,k4,trivial⟩;exact Kr (dF n f) d b (by rw[iE];exact m) l k h w a [v1,v2,v3,i] j ⟨Wp o k1,k2,k3,k4,trivial⟩
 cases e
end Pv
theorem aMt:zk prog 173 10:=⟨⟨_,underlying173,rfl⟩,ai⟩
def aKQ:mg:=#[.nilFunc,.nilFunc,.func (.func 121) #[] #[],.func (.func 122) #[] #[],.func (.func 121) #[] #[],.func (.func 124) #[] #[],
 .func (.func 126) #[] #[],.func (.func 127) #[] #[],.func (.func 129) #[] #[],.func (.func 130) #[] #[]]
theorem aVm(w:ae):lL prog 94 #[] w fun e c=>e=.returned (.agg aKQ)/\Ext w c:=by
 go_enter func94,ntmps94
 go_wp2_with (refine aT (ty:=173) (t:=173) (x:=.tmp 0) (y:=.tmp 8) rfl rfl aMt rfl rfl (eu.new w _ _) rfl rfl (by rw[<-aCS];rfl) ?_;intro f b a d)
 refine aAT (v:=.agg aKQ) (dQ aMt rfl b rfl rfl) rfl ⟨rfl,?_⟩;exact ((Ext.refl w).alloc _).trans' a (fun _ _ h=>h) (fun i g e=>a_)
def FX(c:Acc):Prop:=((c.kind=1\/c.kind=2)/\(c.ng=2\/c.ng=3)/\(0<=c.cell/\c.cell<48)/\c.bytes=aC)\/((c.kind=3/\c.bytes=aC\/c.kind=4/\c.bytes.size=256)/\c.ng=0/\0<=c.cell/\c.cell<64)
instance (c:Acc):Decidable (FX c):=by unfold FX;infer_instance
structure qx(h:jr):Prop where
 ok:CP h
 n:3<h.b.length
 l2:(h.b.getD 2 []).length=48
 l3:(h.b.getD 3 []).length=48
 f:64<=h.f.length
theorem Ov{b:vk}{k c:Int}(h0:0<=k)(h1:k<b.length)(h2:0<=c)(h3:c<((b.getD k.toNat []).length:Int)):BD b k c=true:=by unfold BD;simp only[zg,decide_eq_true_eq];exact⟨⟨⟨h0,h1⟩,h2⟩,h3⟩
theorem qx.ex{h:jr}(d:qx h){k c:Int}(a:k=2\/k=3)(hc:0<=c/\c<48):BD h.b k c=true:=by have e:=d.n;rcases a with rfl|rfl;refine Ov jb a_ hc.1 ?_;rw[show (2:Int).toNat=2 from rfl,d.l2];exact hc.2;refine Ov jb a_ hc.1 ?_;rw[show (3:Int).toNat=3 from rfl,d.l3];exact hc.2
theorem aLi(b:vk)(k c:Int)(cut:Bool)(j:Nat):((ug b k c cut).getD j []).length=(b.getD j []).length:=by unfold ug;rw[zG,aED];split;rename_i e;subst e;split;rename_i a;rw[Option.getD_some,aAA];rename_i a;rw[zG,PR a_];rw[<-zG]
theorem aCs(f:Fl)(s:Int)(b:jy)(cut:Int):(gU f s b cut).length=f.length:=by unfold gU;split;exact aAA ..;rfl
theorem aZa{h:jr}{a:Acc}{t:qy}(d:a.kind=1)(hb:a.bytes=aC)(c:BD h.b a.ng a.cell=true):fM h a t=(h,if t.cut then iW else⟨gJ (iV h.b a.ng a.cell) t.ul,aC⟩,0):=by unfold fM;rw[au d,au hb,au c]
theorem aYz{h:jr}{a:Acc}{t:qy}(d:a.kind=2)(hb:a.bytes=aC)(c:BD h.b a.ng a.cell=true):fM h a t=({ h with b:=ug h.b a.ng a.cell t.cut },iW,0):=by unfold fM;rw[ah a_,au d,au hb,au c]
theorem aPt{h:jr}{a:Acc}{t:qy}(c:a.kind=3)(hb:a.bytes=aC/\a.ng=0)(b:0<=a.cell/\a.cell<h.f.length):fM h a t=(h,if t.cut then iW else⟨0,strOf (sec h.f a.cell)⟩,0):=by unfold fM;rw[ah a_,ah a_,au c,au hb,au b]
theorem aPs{h:jr}{a:Acc}{t:qy}(c:a.kind=4)(hb:a.ng=0)(b:0<=a.cell/\a.cell<h.f.length)(hs:a.bytes.size=256):fM h a t=({ h with f:=gU h.f a.cell a.bytes (Ag t) },iW,0):=by unfold fM;rw[ah a_,ah a_,ah a_,au c,au hb,au b,au hs]
theorem qx.step{h:jr}(d:qx h){c:Acc}(g:FX c)(t:qy):qx (fM h c t).1:=by
 have a:=aPr c t d.ok;have k:=d.f;rcases g with⟨b|b,j,i,e⟩|⟨⟨b,e⟩|⟨b,e⟩,j,i⟩;rw[aZa b e (d.ex j i)];exact d;rw[aYz b e (d.ex j i)] at a ⊢
 refine⟨a,?_,?_,?_,d.f⟩;show 3<(ug _ _ _ _).length;unfold ug;rw[aAA];exact d.n;exact (aLi _ _ _ _ 2).trans d.l2;exact (aLi _ _ _ _ 3).trans d.l3;rw[aPt b ⟨e,j⟩ ⟨i.1,a_⟩];exact d;rw[aPs b j ⟨i.1,a_⟩ e] at a ⊢;exact⟨a,d.n,d.l2,d.l3,by show 64<=(gU _ _ _ _).length;rw[aCs];exact k⟩
theorem bAi{F:List qy}:∀ (l:je) (i:Nat) {h:jr},qx h->(∀ c∈l,FX c)->qx (BF F h l i)
 |[],_,_,d,_=>d|c::l,i,_,d,g=>bAi l (i+1) (d.step (g c aAw) _) (fun x a=>g x (aAD _ a))
def aj.InW{b:Type}:aj b->Prop
 |.ret _=>True|.ask a k=>FX a/\∀ r,aj.InW (k r)
namespace Pv
def qP(F:List qy)(h:jr)(l:je):Option u_:=match l.getLast? with
 |none=>some iW|some c=>if (eG F (l.length-1)).cut=true\/¬FX c\/1000000<l.length-1 then none else some (fM (BF F h l.dropLast 0) c (eG F (l.length-1))).2.1
theorem aLo(F:List qy)(h:jr)(l:je)(c:Acc):qP F h (l++[c])=if (eG F l.length).cut=true\/¬FX c\/1000000<l.length then none else some (fM (BF F h l 0) c (eG F l.length)).2.1:=by unfold qP;rw[List.getLast?_append,List.dropLast_concat,gz,aBY,Nat.add_sub_cancel];rfl
theorem OQ{H:Type}(F:List qy)(h0:jr)(p:aj H):aj.InW p->∀ (n:Nat),p.Within n->∀ l:je,l.length+n<=1000000 ->
  (Gj F (go (qP F h0) p l).2.length->fE F p (BF F h0 l 0) l.length=(some (go (qP F h0) p l).1,BF F h0 (go (qP F h0) p l).2 0,(go (qP F h0) p l).2.length)) /\
  ∀ b c,l <+: b->b++[c] <+: (go (qP F h0) p l).2->Gj F b.length->(eG F b.length).cut=true->fE F p (BF F h0 l 0) l.length=(none,BF F h0 (b++[c]) 0,b.length+1):=by
 induction p with
 |ret a=>intro _ n _ l _;refine⟨fun _=>rfl,fun b c r o _ _=>?_⟩;rw[go_ret] at o;have S:=r.length_le;have Q:(b++[c]).length<=l.length:=o.length_le;rw[gz,aBY] at Q;exfalso;omega| ask a k I=>
  intro y n E l L
  obtain⟨n,rfl⟩:∃ m,n=m+1:=by
   cases n with
   |zero=>exact E.elim|succ m=>exact⟨m,rfl⟩
  have C:FX a:=y.1;rw[Qw];have D:=bAh F l a h0;have P:=aLo F h0 l a;have s:(l++[a]).length=l.length+1:=by rw[gz,aBY]
  have d:=yH (qP F h0) (k (ans (qP F h0) (l++[a]))) (l++[a]);obtain⟨K,J⟩:=I (ans (qP F h0) (l++[a])) (y.2 _) n (E _) (l++[a]) (by rw[gz,aBY];omega);by_cases f:(eG F l.length).cut=true;have e:fE F (.ask a k) (BF F h0 l 0) l.length=(none,BF F h0 (l++[a]) 0,l.length+1):=by rw[fE,au f,D]
  refine⟨fun i=>?_,fun b c r o i j=>?_⟩;have:=i l.length (by have:=d.length_le;omega);rw[this] at f;cases f;have S:=r.length_le;have N:b.length=l.length:=by rcases aAW l.length b.length with h|h;have:=i _ h;rw[this] at f;cases f;omega
  obtain⟨t,g⟩:=r;have B:t=[]:=by have:=congrArg List.length g;rw[gz] at this;exact List.eq_nil_of_length_eq_zero a_
  subst B;rw[AC] at g;subst g;have O:l++[c]=l++[a]:=by obtain⟨u,A⟩:=d;obtain⟨v,q⟩:=o;rw[<-A,GM,GM] at q;have z:=aHx q;simp only[aDX,List.cons.injEq] at z;rw[z.1]
  rw[O,e];have w:ans (qP F h0) (l++[a])=(fM (BF F h0 l 0) a (eG F l.length)).2.1:=by unfold ans;rw[P,ah (fun h=>h.elim f fun h=>h.elim (fun h=>h C) (fun h=>a_))];rfl
  have e:fE F (.ask a k) (BF F h0 l 0) l.length=fE F (k (ans (qP F h0) (l++[a]))) (BF F h0 (l++[a]) 0) (l++[a]).length:=by rw[fE,ah f,D,s,w]
  refine⟨fun i=>by rw[e];exact K i,fun b c r o i j=>?_⟩;rw[e];refine J b c ?_ o i j;obtain⟨t,g⟩:=r;cases t with
  |nil=>rw[AC] at g;subst g;exact absurd j f| cons x t=>
   subst g;obtain⟨u,A⟩:=d;obtain⟨v,q⟩:=o;rw[<-A] at q;have z:x=a:=by simp only[GM,C_,IR] at q;have G:=aHx q;simp only[List.cons.injEq] at G;exact G.1
   subst z;exact⟨t,d_⟩
theorem OT{e:Type}(O:ut)(p:aj e):aj.InW p->∀ l:je,(∀ c∈l,FX c)->∀ c∈(go O p l).2,FX c:=by
 induction p with
 |ret a=>intro _ l h;exact h|ask a k f=>
  intro d l h;rw[Qw];refine f _ (d.2 _) _ (fun c b=>?_);rcases List.mem_append.1 b with b|b;exact h c b
  obtain rfl:=List.mem_singleton.1 b;exact d.1
def aMJ(A:o_)(s:St):Exit->Act->ae->Prop
 |.panic chain,a,w=>a.defers=A.ds/\E5 A chain w|e,a,w=>e=.normal/\qj A s a w
theorem sN{P:ed}{A:o_}{s:St}(s':St){x y:Code}{Q:Exit->Act->jg}(h1:kw P A s x (aMJ A s'))(h2:kw P A s' y Q):kw P A s (.seq x y) Q:=fun a w h b=>
 wp_seq (aCD (h1 a w h (fun _ _ _ i g=>⟨i,g⟩)) (fun e f d c=>by
  cases e with
  |panic chain=>exact b chain f d c.1 c.2|normal=>exact h2 f d c.2 b|_=>cases c.1))
def qi(h:jr):g_:=[.sl 1 h.b.length (eY h.b),.sl 1 h.f.length (vz h.f),.bs 16 h.r]
def nT(t:qy):g_:=[.lit (.bool t.cut),.lit (.int .i64 t.bytes),.lit (.bool t.ul)]
def Ah(k b c:Int):Acc:=⟨k,b,c,aC⟩
def BI:g_->Option (Prop×jr)
 |[.sl 1 n f,.sl 1 m g,.bs 16 r]=>some (nX n f/\aQj m g,⟨dF n f,kC m g,r⟩)|_=>none
theorem bBa{C:Ctx}{n len:Nat}{f:Nat->g_}{xs:jl}(h:R C (.sl n len f) xs):∃ v,xs=[v]:=by cases h;exact⟨_,rfl⟩
theorem tZ{C:Ctx}{l:g_}{p:Prop}{h:jr}(e:BI l=some (p,h))(a:p){xs:jl}(hr:RL C l xs):RL C (qi h) xs:=by
 unfold BI at e;split at e;rename_i n f m g r;cases e;obtain⟨c,b⟩:=a;unfold qi;dsimp only;cases hr with
 | cons k1 hr=>cases hr with
  |cons k2 hr=>obtain⟨v,rfl⟩:=bBa k1;refine .cons (aJq c k1) (.cons ?_ hr);rw[aEq];exact k2.BH (bOl b)
 cases e
theorem y_.GX{P:ed}{I:jg}{f:Nat}{new:Bool}{x:Nat}{t:bu}{l l1 l':g_}{O:ut}{dev:Option (je×je)}{gm:je->Prop}{args:ji}{c:PV}(h:y_ P I f new [⟨x,t,l1,l'⟩] O dev gm args c)
  (hl:∀ C B,RL C l B->RL C l1 B):y_ P I f new [⟨x,t,l,l'⟩] O dev gm args c:=by
 intro w k G A D T L d m n K s r p F H
 have u:∀ b,SX [⟨x,t,l,l'⟩] A D b↔SX [⟨x,t,l1,l'⟩] A D b:=fun b=>by
  constructor<;>rintro (h|⟨o,a,rfl⟩)
  exact .inl h;obtain rfl:=List.mem_singleton.1 a;exact .inr ⟨_,aIg _,rfl⟩;exact .inl h;obtain rfl:=List.mem_singleton.1 a;exact .inr ⟨_,aIg _,rfl⟩
 refine (h w k G A D T (fun E J=>L E (J.mono fun b _ g=>(u b).2 g)) (fun b g=>d b ((u b).2 g)) m n K s r (fun o a=>?_) (fun o a U q _=>?_) H).mono ?_;obtain rfl:=List.mem_singleton.1 a;obtain⟨z,S,i,y⟩:=p _ (aIg _);exact⟨z,S,i,hl _ _ y⟩;obtain rfl:=List.mem_singleton.1 a;obtain rfl:=List.mem_singleton.1 q
 rfl;rintro e E ⟨z,i⟩
 refine⟨z.mono fun b _ g=>(u b).2 g,?_⟩;rcases i with⟨j,rfl,y,Q,N⟩|i;refine .inl ⟨j,rfl,y,fun o a=>?_,N⟩
 obtain rfl:=List.mem_singleton.1 a;exact Q ⟨x,t,l1,l'⟩ (aIg _);exact .inr i
theorem TQ(k b c:Int):fQ prog af 121 true [.w (.agg (oP (Ah k b c)))] (t_ true):=by have M:=Fa (I:=af);refine bH func121 rfl rfl bJ (fun A d a e=>?_);refine aI ?_;refine gB ?_;refine congrArg t_ (?_:(aC.toList==(⟨#[]⟩:jy).toList)=true);exact beq_self_eq_true _
def Xu:ji->Option (Prop×PV)
 |[.w (.agg [.lit (.int .i64 _),.lit (.int .i64 _),.lit (.int .i64 _),.lit (.string s)])]=>some (s=aC,t_ true)|_=>none
theorem LQ:b_ prog af 121 (aV true Xu):=by refine aU (aB func121 ai rfl) (fun c p r a b=>?_);unfold Xu at a;split at a;cases a;obtain rfl:=b;exact TQ _ _ _;cases a
theorem TP(k c:Int):fQ prog af 126 true [.w (.agg (oP (Ah k 0 c)))] (t_ true):=by have M:=Fa (I:=af);refine bH func126 rfl rfl bJ (fun A b a d=>?_);refine aI ?_;refine gB ?_;refine congrArg t_ (?_:(bif (aC.toList==(⟨#[]⟩:jy).toList) then ((0:Int)==0) else false)=true);rw[show (aC.toList==(⟨#[]⟩:jy).toList)=true from beq_self_eq_true _];rfl
def Xt:ji->Option (Prop×PV)
 |[.w (.agg [.lit (.int .i64 _),.lit (.int .i64 b),.lit (.int .i64 _),.lit (.string s)])]=>some (b=0/\s=aC,t_ true)|_=>none
theorem LP:b_ prog af 126 (aV true Xt):=by refine aU (aB func126 ai rfl) (fun c p r a b=>?_);unfold Xt at a;split at a;cases a;obtain⟨rfl,rfl⟩:=b;exact TP _ _;cases a
theorem TN(a:Acc)(hb:a.ng=0):fQ prog af 129 true [.w (.agg (oP a))] (t_ true):=by have M:=Fa (I:=af);refine bH func129 rfl rfl bJ (fun A e d f=>?_);obtain⟨k,b,c,s⟩:=a;obtain rfl:b=0:=hb;refine iC ?_;exact kE
def Xr:ji->Option (Prop×PV)
 |[.w (.agg [.lit (.int .i64 _),.lit (.int .i64 b),.lit (.int .i64 _),.lit (.string _)])]=>some (b=0,t_ true)|_=>none
theorem LM:b_ prog af 129 (aV true Xr):=by refine aU (aB func129 ai rfl) (fun e p r a d=>?_);unfold Xr at a;split at a;rename_i k b c s;cases a;exact TN ⟨k,b,c,s⟩ d;cases a
def dcL:List (Nat×Spec):=[(123,aV true Yv),(125,aV false Xj),(128,aGA),(131,aFZ)]
theorem aJJ:∀ p∈dcL,b_ prog af p.1 p.2:=by intro p a;simp only[dcL,xn,aAe,or_false] at a;rcases a with rfl|rfl|rfl|rfl;exact Oe;exact Ku;exact Oc;exact bOg
theorem dcM:jq prog af (find dcL):=⟨aY aJJ,dB⟩
structure Ci(h:jr)(b c:Int):Prop where
 ok:CP h
 bk:b=2\/b=3
 ex:BD h.b b c=true
structure D5(h:jr)(c:Int):Prop where
 ok:CP h
 ex:0<=c/\c<h.f.length
theorem D5.has{h:jr}{c:Int}(k:D5 h c):BJ h.f c=true:=by unfold BJ;rw[mi k.ex.1,mi k.ex.2];rfl
theorem bPk(h:jr)(k b c:Int)(t:qy)(hc:Ci h b c):y_ prog af 122 false [⟨px,65,qi h,qi h⟩] (fun _=>none) none (fun _=>False) [dm (.pt px 0 0),.w (.agg (oP (Ah k b c))),.w (.agg (nT t))]
  (.o7 [.agg (jR ⟨gJ (iV h.b b c) t.ul,aC⟩),.one (.lit (.int .i64 0))]):=by
 have M:=dcM;refine dL func122 rfl rfl rfl (fun A a d=>?_);refine iC ?_;refine iJ ?_;change PV.o7 [.agg [.lit (.int .i64 (if BD (dF h.b.length (eY h.b)) b c=true then gJ (iV (dF h.b.length (eY h.b)) b c) t.ul else 0)),.lit (.string aC)],.one (.lit (.int .i64 (if BD (dF h.b.length (eY h.b)) b c=true then 0 else 1)))]=_;rw[aQ,hc.ex,au rfl,au rfl];rfl
theorem PG(h:jr)(k b c:Int)(t:qy)(hc:Ci h b c):y_ prog af 124 false [⟨px,65,qi h,qi { h with b:=ug h.b b c t.cut }⟩] (fun _=>none) none (fun _=>False) [dm (.pt px 0 0),.w (.agg (oP (Ah k b c))),.w (.agg (nT t))]
  (.o7 [.agg (jR iW),.one (.lit (.int .i64 0))]):=by
 have M:=dcM;refine dL func124 rfl rfl rfl (fun A a d=>?_);refine bU ?_ ?_;simp;exact⟨hc.ok.nb,hc.ok.nc,hc.ok.val,hc.bk,hc.ex⟩;refine aJ (fun hc=>?_) (fun hc=>?_);refine mY ?_;refine aI ?_;refine aW (⟨[(6,none,dm (.pt 2 0 0)),(7,none,dw 0)],[(px,none,0,.box 65 (qi { h with b:=ug h.b b c t.cut })),(2,none,0,.box 35 (jR iW))]⟩) ?_ ?_ ?_;exact iq;refine .cons (.box ?_) ((dU _));change [PC.sl 1 (ug (dF h.b.length (eY h.b)) b c t.cut).length (eY (ug (dF h.b.length (eY h.b)) b c t.cut)),.sl 1 h.f.length (vz h.f),.bs 16 h.r]=_;rw[aQ];rfl;exact Ir;cases hc
theorem PD(h:jr)(k c:Int)(t:qy)(hc:D5 h c):y_ prog af 127 false [⟨px,65,qi h,qi h⟩] (fun _=>none) none (fun _=>False) [dm (.pt px 0 0),.w (.agg (oP (Ah k 0 c))),.w (.agg (nT t))]
  (.o7 [.agg (jR ⟨0,strOf (sec h.f c)⟩),.one (.lit (.int .i64 0))]):=by
 have M:=dcM;refine dL func127 rfl rfl rfl (fun A a b=>?_);refine iC ?_;refine iJ ?_;change PV.o7 [.agg [.lit (.int .i64 0),.lit (.string (strOf (sec (kC h.f.length (vz h.f)) c)))],.one (.lit (.int .i64 (if BJ (kC h.f.length (vz h.f)) c=true then 0 else 13)))]=_;rw[bV,hc.has,au rfl];rfl
def aJF(h:jr)(a:Acc)(_:qy)(cut:Int):St:=⟨[(0,none,dm (.pt px 0 0)),(4,none,dm (.pt 0 0 0)),(6,none,dm (.pt 2 0 0)),(8,none,dw cut)],[(px,none,0,.box 65 (qi h)),(0,none,0,.box 37 (oP a)),(2,none,0,.box 35 (jR iW))]⟩
theorem Ui(h:jr)(a:Acc)(t:qy)(hc:D5 h a.cell)(hs:a.bytes.size=256):y_ prog af 130 false [⟨px,65,qi h,qi { h with f:=gU h.f a.cell a.bytes (Ag t) }⟩] (fun _=>none) none (fun _=>False) [dm (.pt px 0 0),.w (.agg (oP a)),.w (.agg (nT t))]
  (.o7 [.agg (jR iW),.one (.lit (.int .i64 0))]):=by
 have M:=dcM;refine dL func130 rfl rfl rfl (fun A i j=>?_);refine iC ?_;refine sN (aJF h a t (Ag t)) ?_ ?_;refine eH (fun hc=>?_) (fun hc=>?_);have b:t.cut=true:=hc;refine fJ ?_;refine fun g w c=>⟨rfl,(c.reset (kT:=[0,4,6,8]) (kO:=[px,0,2]) ay d_).same ?_ ?_⟩;refine .cr (.cr (.cr (.cons ?_ .nil)));unfold Ag;rw[au b];exact r_;have b:t.cut=false:=hc;refine fH (fun g w c=>⟨rfl,(c.reset (kT:=[0,4,6,8]) (kO:=[px,0,2]) ay d_).same ?_ ?_⟩);refine .cr (.cr (.cr (.cons ?_ .nil)));unfold Ag;rw[ah (by rw[b];exact Bool.false_ne_true)];exact r_;have d:=bV h.f;refine aH ?_ ?_;simp;exact⟨hc.ok.sz,hc.ok.nf⟩;refine jG ?_;rw[d];have e:zY h.f a.cell a.bytes=0:=by unfold zY;rw[hc.has,au rfl,au hs]
 rw[e];refine cO (fun hc=>?_) (fun hc=>?_);refine mY ?_;refine aI ?_;exact Ir;cases hc
def I8:ji->Option (Acc×qy)
 |[.w (.agg [.lit (.int .i64 k),.lit (.int .i64 b),.lit (.int .i64 c),.lit (.string s)]),.w (.agg [.lit (.bool cut),.lit (.int .i64 d),.lit (.bool a)])]=>some (⟨k,b,c,s⟩,⟨cut,d,a⟩)|_=>none
theorem aUc{ys:ji}{a:Acc}{t:qy}(h:I8 ys=some (a,t)):ys=[.w (.agg (oP a)),.w (.agg (nT t))]:=by unfold I8 at h;split at h;cases h;rfl;cases h
def bPl:g_->ji->Option (Prop×g_×PV):=fun l c=>match BI l,I8 c with
 |some (p,h),some (a,t)=>some (p/\a.bytes=aC/\Ci h a.ng a.cell,qi h,.o7 [.agg (jR ⟨gJ (iV h.b a.ng a.cell) t.ul,aC⟩),.one (.lit (.int .i64 0))])|_,_=>none
def PH:g_->ji->Option (Prop×g_×PV):=fun l c=>match BI l,I8 c with
 |some (p,h),some (a,t)=>some (p/\a.bytes=aC/\Ci h a.ng a.cell,qi { h with b:=ug h.b a.ng a.cell t.cut },.o7 [.agg (jR iW),.one (.lit (.int .i64 0))])
 |_,_=>none
def PE:g_->ji->Option (Prop×g_×PV):=fun l b=>match BI l,I8 b with
 |some (p,h),some (a,_)=>some (p/\a.ng=0/\a.bytes=aC/\D5 h a.cell,qi h,.o7 [.agg (jR ⟨0,strOf (sec h.f a.cell)⟩),.one (.lit (.int .i64 0))])|_,_=>none
def Z_:g_->ji->Option (Prop×g_×PV):=fun l b=>match BI l,I8 b with
 |some (p,h),some (a,t)=>some (p/\a.bytes.size=256/\D5 h a.cell,qi { h with f:=gU h.f a.cell a.bytes (Ag t) },.o7 [.agg (jR iW),.one (.lit (.int .i64 0))])
 |_,_=>none
theorem bGp:b_ prog af 122 (dI 65 bPl):=by
 refine xX (aB func122 ai rfl) (fun l g p x r a j=>?_);unfold bPl at a;cases d:BI l with
 |none=>rw[d] at a;cases a| some q=>
  cases e:I8 g with
  |none=>rw[d,e] at a;cases a|some y=>obtain⟨w,h⟩:=q;obtain⟨⟨k,b,c,s⟩,t⟩:=y;rw[d,e] at a;cases a;obtain⟨o,n,m⟩:=j;have f:s=aC:=n;subst f;rw[aUc e];exact (bPk h k b c t m).GX (fun C u i=>tZ d o i)
theorem bPm:b_ prog af 124 (dI 65 PH):=by
 refine xX (aB func124 ai rfl) (fun l g p x r a j=>?_);unfold PH at a;cases d:BI l with
 |none=>rw[d] at a;cases a| some q=>
  cases e:I8 g with
  |none=>rw[d,e] at a;cases a|some y=>obtain⟨w,h⟩:=q;obtain⟨⟨k,b,c,s⟩,t⟩:=y;rw[d,e] at a;cases a;obtain⟨o,n,m⟩:=j;have f:s=aC:=n;subst f;rw[aUc e];exact (PG h k b c t m).GX (fun C u i=>tZ d o i)
theorem bPj:b_ prog af 127 (dI 65 PE):=by
 refine xX (aB func127 ai rfl) (fun l i p A r a m=>?_);unfold PE at a;cases d:BI l with
 |none=>rw[d] at a;cases a| some q=>
  cases e:I8 i with
  |none=>rw[d,e] at a;cases a|some y=>obtain⟨z,h⟩:=q;obtain⟨⟨k,b,c,s⟩,t⟩:=y;rw[d,e] at a;cases a;obtain⟨w,u,o,n⟩:=m;have g:b=0:=u;have f:s=aC:=o;subst g f;rw[aUc e];exact (PD h k c t n).GX (fun C x j=>tZ d w j)
theorem P9:b_ prog af 130 (dI 65 Z_):=by
 refine xX (aB func130 ai rfl) (fun l f p w r a i=>?_);unfold Z_ at a;cases d:BI l with
 |none=>rw[d] at a;cases a| some q=>
  cases e:I8 f with
  |none=>rw[d,e] at a;cases a|some y=>obtain⟨u,h⟩:=q;obtain⟨⟨k,b,c,s⟩,t⟩:=y;rw[d,e] at a;cases a;obtain⟨n,m,j⟩:=i;rw[aUc e];exact (Ui h ⟨k,b,c,s⟩ t j m).GX (fun C o g=>tZ d n g)
def QO:g_:=[.lit .nilFunc,.lit .nilFunc,.lit (.func (.func 121) #[] #[]),.lit (.func (.func 122) #[] #[]),.lit (.func (.func 121) #[] #[]),.lit (.func (.func 124) #[] #[]),
 .lit (.func (.func 126) #[] #[]),.lit (.func (.func 127) #[] #[]),.lit (.func (.func 129) #[] #[]),.lit (.func (.func 130) #[] #[])]
theorem QN:fQ prog af 94 true [] (.w (.agg QO)):=by
 intro w b a g c
 match a,c with
 |[],_=>refine (aVm w).mono ?_;rintro e f ⟨rfl,d⟩;refine⟨_,rfl,d,.w (.agg ?_)⟩;exact .cons (xs:=[_]) (.lit rfl) (.cons (xs:=[_]) (.lit rfl) (.cons (xs:=[_]) (.lit rfl) (.cons (xs:=[_]) (.lit rfl) (.cons (xs:=[_]) (.lit rfl) (.cons (xs:=[_]) (.lit rfl) (.cons (xs:=[_]) (.lit rfl) (.cons (xs:=[_]) (.lit rfl) (.cons (xs:=[_]) (.lit rfl) (.cons (xs:=[_]) (.lit rfl) .nil)))))))))
def QP:ji->Option (Prop×PV)
 |[]=>some (True,.w (.agg QO))|_=>none
theorem bSd:b_ prog af 94 (aV true QP):=by refine aU (aB func94 ai rfl) (fun b p r a c=>?_);unfold QP at a;split at a;cases a;exact QN;cases a
def ddL:List (Nat×Spec):=[(94,aV true QP),(121,aV true Xu),(122,dI 65 bPl),(124,dI 65 PH),
 (126,aV true Xt),(127,dI 65 PE),(129,aV true Xr),(130,dI 65 Z_)]
theorem aJI:∀ p∈ddL,b_ prog af p.1 p.2:=by intro p a;simp only[ddL,xn,aAe,or_false] at a;rcases a with rfl|rfl|rfl|rfl|rfl|rfl|rfl|rfl;exact bSd;exact LQ;exact bGp;exact bPm;exact LP;exact bPj;exact LM;exact P9
theorem ddM:jq prog af (find ddL):=⟨aY aJI,dB⟩
def Hq(x:jr×u_×Int):PV:=.o7 [.agg (qi x.1),.agg (jR x.2.1),.one (.lit (.int .i64 x.2.2))]
def Ut(_ b:jr)(_:Acc)(t:qy)(r:u_):St:=⟨[(5,none,dm (.pt 2 0 0)),(6,none,dm (.pt 3 0 0)),(7,none,dm (.pt 4 0 0)),(10,none,dm (.pt 4001 0 0)),(11,none,dm (.pt 5011 0 0)),(12,none,dw 0)],[(2,none,0,.box 104 (nT t)),(3,none,0,.box 65 [.lit (.slice none 0 0),.lit (.slice none 0 0),.bs 16 (Pi 16 0)]),(4,none,0,.box 35 (jR iW)),(4001,none,0,.box 65 (qi b)),(5011,none,0,.box 35 (jR r))]⟩
theorem Ur(h:jr)(b c:Int)(t:qy)(e:Ci h b c)  : fQ prog af 66 false [.w (.agg (qi h)),.w (.agg (oP (Ah 1 b c))),.w (.agg (nT t))] (Hq (fM h (Ah 1 b c) t)):=by
 have M:=ddM;have g:=aZa (t:=t) (show (Ah 1 b c).kind=1 from rfl) rfl e.ex;rw[g];refine bH func66 rfl rfl bJ (fun A j i k=>?_);refine aI ?_;refine qK ?_;refine aH ?_ ?_;simp;exact⟨fun _ _=>⟨(by decide:(0:Int)<=1),(by decide:(1:Int)<5)⟩,fun _ _=>rfl⟩;refine cO (fun d=>?_) (fun d=>?_);simp[Ah] at d;refine dS ?_;refine aH ?_ ?_;simp;exact⟨⟨(by decide:(0:Int)<=1),(by decide:(1:Int)<5)⟩,rfl,e⟩;refine aW (Ut h h (Ah 1 b c) t ⟨gJ (iV h.b b c) t.ul,aC⟩) ?_ ?_ ?_;exact iq
 ·refine .cb (.cb (.cb (.cons (.box ?_) (.cons (.box ?_) .nil))));change qi ⟨dF h.b.length (eY h.b),kC h.f.length (vz h.f),h.r⟩=_;rw[aQ,bV]
  ·change jR ⟨gJ (iV (dF h.b.length (eY h.b)) b c) t.ul,aC⟩=_
   first|rw[aQ]|rw[bV]|rfl
 refine aJ (fun d=>?_) (fun d=>?_);cases d;refine jU (fun d=>?_) (fun d=>?_)
 ·have a:t.cut=true:=d;refine mY ?_;refine gB ?_
  try rw[a]
  rfl
 ·have a:t.cut=false:=d;refine dS ?_;refine jB ?_
  try rw[a]
  rfl
theorem Uo(h:jr)(b c:Int)(t:qy)(e:Ci h b c)  : fQ prog af 66 false [.w (.agg (qi h)),.w (.agg (oP (Ah 2 b c))),.w (.agg (nT t))] (Hq (fM h (Ah 2 b c) t)):=by
 have M:=ddM;have g:=aYz (t:=t) (show (Ah 2 b c).kind=2 from rfl) rfl e.ex;rw[g];refine bH func66 rfl rfl bJ (fun A j i k=>?_);refine aI ?_;refine qK ?_;refine aH ?_ ?_;simp;exact⟨fun _ _=>⟨(by decide:(0:Int)<=2),(by decide:(2:Int)<5)⟩,fun _ _=>rfl⟩;refine cO (fun d=>?_) (fun d=>?_);simp[Ah] at d;refine dS ?_;refine aH ?_ ?_;simp;exact⟨⟨(by decide:(0:Int)<=2),(by decide:(2:Int)<5)⟩,rfl,e⟩;refine aW (Ut h ⟨ug h.b b c t.cut,h.f,h.r⟩ (Ah 2 b c) t iW) ?_ ?_ ?_;exact iq
 ·refine .cb (.cb (.cb (.cons (.box ?_) (.cons (.box ?_) .nil))));change qi ⟨ug (dF h.b.length (eY h.b)) b c t.cut,kC h.f.length (vz h.f),h.r⟩=_;rw[aQ,bV]
  ·change jR iW=_
   first|rw[aQ]|rw[bV]|rfl
 refine aJ (fun d=>?_) (fun d=>?_);cases d;refine jU (fun d=>?_) (fun d=>?_)
 ·have a:t.cut=true:=d;refine mY ?_;refine gB ?_
  try rw[a]
  rfl
 ·have a:t.cut=false:=d;refine dS ?_;refine jB ?_
  try rw[a]
  rfl
theorem Un(h:jr)(c:Int)(t:qy)(e:D5 h c)  : fQ prog af 66 false [.w (.agg (qi h)),.w (.agg (oP (Ah 3 0 c))),.w (.agg (nT t))] (Hq (fM h (Ah 3 0 c) t)):=by
 have M:=ddM;have g:=aPt (t:=t) (show (Ah 3 0 c).kind=3 from rfl) ⟨rfl,rfl⟩ e.ex;rw[g];refine bH func66 rfl rfl bJ (fun A j i k=>?_);refine aI ?_;refine qK ?_;refine aH ?_ ?_;simp;exact⟨fun _ _=>⟨(by decide:(0:Int)<=3),(by decide:(3:Int)<5)⟩,fun _ _=>⟨rfl,rfl⟩⟩;refine cO (fun d=>?_) (fun d=>?_);simp[Ah] at d;refine dS ?_;refine aH ?_ ?_;simp;exact⟨⟨(by decide:(0:Int)<=3),(by decide:(3:Int)<5)⟩,rfl,rfl,e⟩;refine aW (Ut h h (Ah 3 0 c) t ⟨0,strOf (sec h.f c)⟩) ?_ ?_ ?_;exact iq
 ·refine .cb (.cb (.cb (.cons (.box ?_) (.cons (.box ?_) .nil))));change qi ⟨dF h.b.length (eY h.b),kC h.f.length (vz h.f),h.r⟩=_;rw[aQ,bV]
  ·change jR ⟨0,strOf (sec (kC h.f.length (vz h.f)) c)⟩=_
   first|rw[aQ]|rw[bV]|rfl
 refine aJ (fun d=>?_) (fun d=>?_);cases d;refine jU (fun d=>?_) (fun d=>?_)
 ·have a:t.cut=true:=d;refine mY ?_;refine gB ?_
  try rw[a]
  rfl
 ·have a:t.cut=false:=d;refine dS ?_;refine jB ?_
  try rw[a]
  rfl
theorem Um(h:jr)(c:Int)(x:jy)(t:qy)(g:D5 h c)(hs:x.size=256):fQ prog af 66 false [.w (.agg (qi h)),.w (.agg (oP (⟨4,0,c,x⟩:Acc))),.w (.agg (nT t))] (Hq (fM h (⟨4,0,c,x⟩:Acc) t)):=by
 have M:=ddM;have i:=aPs (h:=h) (a:=⟨4,0,c,x⟩) (t:=t) rfl rfl g.ex hs;rw[i];refine bH func66 rfl rfl bJ (fun A k j l=>?_);refine aI ?_;refine qK ?_;refine aH ?_ ?_
 ·simp
  done
 refine cO (fun e=>?_) (fun e=>?_);simp[] at e;refine dS ?_;refine aH ?_ ?_;simp;exact⟨hs,g⟩;refine aW (Ut h ⟨h.b,gU h.f c x (Ag t),h.r⟩ (⟨4,0,c,x⟩:Acc) t iW) ?_ ?_ ?_;exact iq
 ·refine .cb (.cb (.cb (.cons (.box ?_) (.cons (.box ?_) .nil))));change qi ⟨dF h.b.length (eY h.b),gU (kC h.f.length (vz h.f)) c x (Ag t),h.r⟩=_;rw[aQ,bV]
  ·change jR iW=_
   first|rw[aQ]|rw[bV]|rfl
 refine aJ (fun e=>?_) (fun e=>?_);cases e;refine jU (fun e=>?_) (fun e=>?_)
 ·have d:t.cut=true:=e;refine mY ?_;refine gB ?_
  try rw[d]
  rfl
 ·have d:t.cut=false:=e;refine dS ?_;refine jB ?_
  try rw[d]
  rfl
structure Ez(h:jr)(a:Acc):Prop where
 Qk:qx h
 good:FX a
theorem Uj{h:jr}{a:Acc}(g:Ez h a)(t:qy):fQ prog af 66 false [.w (.agg (qi h)),.w (.agg (oP a)),.w (.agg (nT t))] (Hq (fM h a t)):=by obtain⟨k,b,c,s⟩:=a;obtain⟨d,g⟩:=g;have n:=d.f;rcases g with⟨j,e,l,i⟩|⟨⟨j,i⟩|⟨j,i⟩,e,l⟩;have m:=d.ex e l;dsimp only at j e l i m;subst i;rcases j with rfl|rfl;exact Ur h b c t ⟨d.ok,e,m⟩;exact Uo h b c t ⟨d.ok,e,m⟩;dsimp only at j e l i;subst j i e;exact Un h c t ⟨d.ok,l.1,a_⟩;dsimp only at j e l i;subst j e;exact Um h c s t ⟨d.ok,l.1,a_⟩ i
def ddG:ji->Option (Prop×PV)
 |.w (.agg l)::ys=>(match BI l,I8 ys with
  |some (p,h),some (a,t)=>some (p/\Ez h a,Hq (fM h a t))|_,_=>none)
 |_=>none
theorem PX:b_ prog af 66 (aV false ddG):=by
 refine aU (aB func66 ai rfl) (fun s p r b e=>?_);unfold ddG at b;split at b;rename_i l f;cases c:BI l with
 |none=>rw[c] at b;cases b| some q=>
  cases d:I8 f with
  |none=>rw[c,d] at b;cases b| some y=>
   obtain⟨u,h⟩:=q;obtain⟨a,t⟩:=y;rw[c,d] at b;cases b;rw[aUc d]
   exact (Uj e.2 t).args fun C g i=>by
    match g,i with
    | [x,y,z],⟨o,n,m,_⟩=>
     refine⟨?_,n,m,trivial⟩;cases o with
     |w k=>cases k with
      |agg j=>exact .w (.agg (tZ c e.1 j))
 cases b
def yu(F:List qy):Nat->g_:=fun i=>nT (F.getD i yw)
def uP(F:List qy):PC:=.sl 3 F.length (yu F)
def cutV:ag:=.iface 139 (.agg #[])
def rQ(F:List qy)(h a:jr)(i:Nat):List Ob:=[⟨900001,3,[.lit (.int .i64 i)],[.lit (.int .i64 ((i+1:Nat):Int))]⟩,⟨900002,68,[uP F],[uP F]⟩,⟨900003,65,qi h,qi a⟩]
def Zh(x:jr×u_×Int)(t:qy):Sum PV (List aBG):=if t.cut then .inr [{ v:=cutV,recovered:=false }] else .inl (.w (.agg (jR x.2.1)))
def aHY:List (Nat×Spec):=[(66,aV false ddG)]
theorem YG:∀ p∈aHY,b_ prog af p.1 p.2:=by intro p a;obtain rfl:=List.mem_singleton.1 a;exact PX
theorem aRZ:jq prog af (find aHY):=⟨aY YG,dB⟩
def lvO(F:List qy)(h:jr)(i:Int)(a:Acc):Wr:=[(900001,none,0,.box 3 [.lit (.int .i64 i)]),(900002,none,0,.box 68 [uP F]),(900003,none,0,.box 65 (qi h)),(0,none,0,.box 37 (oP a)),(1,none,0,.box 35 (jR iW))]
def lvT:List (Nat×og×PV):=[(1,none,dm (.pt 900001 0 0)),(2,none,dm (.pt 900002 0 0)),(3,none,dm (.pt 900003 0 0)),(4,none,dm (.pt 0 0 0)),(5,none,dm (.pt 1 0 0)),(6,none,dm (.pt 1000 0 0))]
def WE(F:List qy)(h:jr)(i:Int)(a:Acc)(t:qy):St:=⟨lvT,(1000,none,0,.box 104 (nT t))::lvO F h i a⟩
def aIB(F:List qy)(h b:jr)(i:Int)(a:Acc)(t:qy)(r:u_):St:=⟨(7,none,dm (.pt 5008 0 0))::(8,none,dm (.pt 5009 0 0))::(9,none,dw 0)::lvT,(5008,none,0,.box 65 (qi b))::(5009,none,0,.box 35 (jR r))::(1000,none,0,.box 104 (nT t))::lvO F h i a⟩
def aIA(F:List qy)(b:jr)(i:Int)(a:Acc)(t:qy)(r:u_):St:=⟨(8,none,dm (.pt 5009 0 0))::lvT,(5009,none,0,.box 35 (jR r))::(1000,none,0,.box 104 (nT t))::lvO F b i a⟩
theorem OM{h:jr}{a:Acc}(g:Ez h a)(t:qy):(fM h a t).2.2=0:=by obtain⟨d,g⟩:=g;have j:=d.f;rcases g with⟨b|b,i,e,c⟩|⟨⟨b,c⟩|⟨b,c⟩,i,e⟩;rw[aZa b c (d.ex i e)];rw[aYz b c (d.ex i e)];rw[aPt b ⟨c,i⟩ ⟨e.1,a_⟩];rw[aPs b i ⟨e.1,a_⟩ c]
theorem ig.forget{A:o_}{s:St}{a c:Act}{w:ae}{env:Env}(h:ig A s a w env)(h1:c.tmps.size=a.tmps.size)(h2:c.defers=a.defers):ig A ⟨[],s.o⟩ c w env:={ iw:=h.iw,size:=h1.trans h.size,dom:=h.dom,lu:=h.lu,live:=h.live,inj:=h.inj,tmps:=fun t g pv b=>(by cases b),defers:=h2.trans h.defers,und:=fun t pv b=>(by cases b),pg:=h.pg,dev:=h.dev }
theorem wp_cut(e d:Nat)(ops:Array ik)(h g f:String)(m l k:Array Edge)(b:ops=#[{ dst:=some 33,op:=Op.build 139 #[],type:=139,pos:=h,after:=m,guard:=none },{ dst:=some 34,op:=Op.makeInterface 139 (Operand.tmp 33),type:=e,pos:=g,after:=l,guard:=none },{ dst:=none,op:=Op.panic (Operand.tmp 34),type:=d,pos:=f,after:=k,guard:=none }])
  {a:Act} {w:ae} {Q:Exit->Act->jg} (i:a.tmps.size=36) (j:∀ c,c.tmps.size=a.tmps.size->c.defers=a.defers->Q (.panic [{ v:=cutV,recovered:=false }]) c w):(Code.region 9 ops false).wp prog Q a w:=by
 subst b;apply wp_region;simp[wpOps,go_sem,Region.wanted];refine .inl (.inl (.inl ?_));rw[au a_,au a_];simp[Instr.panic];exact j _ d_ rfl
theorem bFn(F:List qy)(h:jr)(i:Nat)(c:Acc)(g:Ez h c)(H:i<=1000000)(_:F.length<=1000000):aMN prog af 65 (rQ F h (fM h c (eG F i)).1 i)
  [.w (.agg (oP c)),dm (.pt 900001 0 0),dm (.pt 900002 0 0),dm (.pt 900003 0 0)] (Zh (fM h c (eG F i)) (eG F i)):=by
 have M:=aRZ;have j:=OM g (eG F i);refine UT func65 rfl rfl rfl (fun A t E=>?_);refine iC ?_;refine aJ (fun e=>?_) (fun e=>?_)
 ·have u:i<F.length:=by have:=of_decide_eq_true e;omega
  refine aS M E t (ay) ai ?_ ?_;simp;exact u;change kw _ _ _ _ _;refine mZ (WE F h (i:Int) c (eG F i)) ?_;refine bU ?_ ?_;simp;exact g;refine aW (aIB F h (fM h c (eG F i)).1 ((i+1:Nat):Int) c (eG F i) (fM h c (eG F i)).2.1) ?_ ?_ ?_;refine .cr (.cr (.cons ?_ ((iT _))));change dw (fM ⟨dF h.b.length (eY h.b),kC h.f.length (vz h.f),h.r⟩ c (eG F i)).2.2=_;rw[aQ,bV,j];refine .cons (.box ?_) (.cons (.box ?_) (.cb (.cons (.box ?_) ((dU _)))));change qi (fM ⟨dF h.b.length (eY h.b),kC h.f.length (vz h.f),h.r⟩ c (eG F i)).1=_;rw[aQ,bV];change jR (fM ⟨dF h.b.length (eY h.b),kC h.f.length (vz h.f),h.r⟩ c (eG F i)).2.1=_;rw[aQ,bV];rw[bW i a_];generalize (fM h c (eG F i)).1=C at j ⊢;refine aJ (fun e=>?_) (fun e=>?_)
  ·refine mY ?_;refine mZ (aIA F C ((i+1:Nat):Int) c (eG F i) (fM h c (eG F i)).2.1) ?_;refine aJ (fun e=>?_) (fun e=>?_)
   ·have d:(eG F i).cut=true:=e;have m:Zh (fM h c (eG F i)) (eG F i)=.inr [{ v:=cutV,recovered:=false }]:=au d;intro a w l y;obtain⟨p,n⟩:=l;refine wp_cut _ _ _ _ _ _ _ _ _ rfl (by rw[n.size,t];rfl) (fun G B s=>?_);refine⟨s.trans n.defers,m,⟨[],_⟩,?_,p,n.forget B s⟩;intro o k;simp only[rQ,xn,aAe,or_false] at k
    rcases k with rfl|rfl|rfl<;>exact⟨_,rfl,eQ rfl⟩
   ·have d:¬(eG F i).cut=true:=fun q=>by
     have z:(eG F i).cut=false:=e;rw[z] at q;cases q
    have m:Zh (fM h c (eG F i)) (eG F i)=.inl (.w (.agg (jR (fM h c (eG F i)).2.1))):=ah d;refine dS ?_;refine bZ (fun a w l=>⟨.inr rfl,_,m,_,⟨?_,?_⟩,l⟩);refine aZ (ay) d_ ay ay ?_;rfl
    ·intro o k;simp only[rQ,xn,aAe,or_false] at k
     rcases k with rfl|rfl|rfl<;>exact⟨_,rfl,eQ rfl⟩
  cases e
 ·have x:F.length<=i:=by have:=of_decide_eq_false e;omega
  have D:eG F i=yw:=by unfold eG;rw[zG,PR x];rfl
  refine fZ ?_;refine aW (WE F h (i:Int) c (eG F i)) ?_ ?_ ?_;exact iq;exact .cons (.box (by rw[D];rfl)) ((dU _));refine bU ?_ ?_;simp;exact g;refine aW (aIB F h (fM h c (eG F i)).1 ((i+1:Nat):Int) c (eG F i) (fM h c (eG F i)).2.1) ?_ ?_ ?_;refine .cr (.cr (.cons ?_ ((iT _))));change dw (fM ⟨dF h.b.length (eY h.b),kC h.f.length (vz h.f),h.r⟩ c (eG F i)).2.2=_;rw[aQ,bV,j];refine .cons (.box ?_) (.cons (.box ?_) (.cb (.cons (.box ?_) ((dU _)))));change qi (fM ⟨dF h.b.length (eY h.b),kC h.f.length (vz h.f),h.r⟩ c (eG F i)).1=_;rw[aQ,bV];change jR (fM ⟨dF h.b.length (eY h.b),kC h.f.length (vz h.f),h.r⟩ c (eG F i)).2.1=_;rw[aQ,bV];rw[bW i a_];generalize (fM h c (eG F i)).1=C at j ⊢;refine aJ (fun e=>?_) (fun e=>?_)
  ·refine mY ?_;refine mZ (aIA F C ((i+1:Nat):Int) c (eG F i) (fM h c (eG F i)).2.1) ?_;refine aJ (fun e=>?_) (fun e=>?_)
   ·have d:(eG F i).cut=true:=e;have m:Zh (fM h c (eG F i)) (eG F i)=.inr [{ v:=cutV,recovered:=false }]:=au d;intro a w l y;obtain⟨p,n⟩:=l;refine wp_cut _ _ _ _ _ _ _ _ _ rfl (by rw[n.size,t];rfl) (fun G B s=>?_);refine⟨s.trans n.defers,m,⟨[],_⟩,?_,p,n.forget B s⟩;intro o k;simp only[rQ,xn,aAe,or_false] at k
    rcases k with rfl|rfl|rfl<;>exact⟨_,rfl,eQ rfl⟩
   ·have d:¬(eG F i).cut=true:=fun q=>by
     have z:(eG F i).cut=false:=e;rw[z] at q;cases q
    have m:Zh (fM h c (eG F i)) (eG F i)=.inl (.w (.agg (jR (fM h c (eG F i)).2.1))):=ah d;refine dS ?_;refine bZ (fun a w l=>⟨.inr rfl,_,m,_,⟨?_,?_⟩,l⟩);refine aZ (ay) d_ ay ay ?_;rfl
    ·intro o k;simp only[rQ,xn,aAe,or_false] at k
     rcases k with rfl|rfl|rfl<;>exact⟨_,rfl,eQ rfl⟩
  cases e
def mF(T:bu)(O:ut):je->Option u_:=fun l=>match l.getLast? with
 |none=>some ⟨(T:Int)+1,aC⟩|some c=>match decide (c.kind = -1) with
  |true=>none|false=>O l
theorem aMa(T:bu)(O:ut)(l:je)(c:Acc):mF T O (l++[c])=match decide (c.kind = -1) with|true=>none|false=>O (l++[c]):=by unfold mF;rw[List.getLast?_concat]
theorem aPk(T:bu)(O:ut)(l:je){c:Acc}(h:c.kind ≠ -1):mF T O (l++[c])=O (l++[c]):=by rw[aMa,su h]
theorem bCf(T:bu)(O:ut):bHv T (mF T O):=⟨rfl,fun l e=>by rw[aMa];rfl⟩
def Zq(a:List aBG):Prop:=∀ e∈a,e.goexit=false
theorem aDg{v:ag}{a:List aBG}(h:Zq a):settle (.panicking ({ v:=v,recovered:=true }::a))=.returning:=by
 have d:a.dropWhile (!·.goexit)=[]:=by
  induction a with
  |nil=>rfl|cons e l b=>rw[List.dropWhile_cons_of_pos (by rw[h e aAw];rfl)];exact b (fun x c=>h x (aAD _ c))
 unfold settle;dsimp only;rw[d]
def vF(l:je):Prop:=∀ c∈l,c.kind ≠ -1
theorem vF.app{l:je}{c:Acc}(h:vF l)(hc:c.kind ≠ -1):vF (l++[c]):=fun x a=>by
 rcases List.mem_append.1 a with a|a;exact h x a
 obtain rfl:=List.mem_singleton.1 a;exact hc
theorem bGl(T:bu)(O:ut){l:je}(h:vF l)(h0:l≠[]):mF T O l=O l:=by obtain⟨m,c,rfl⟩:∃ m c,l=m++[c]:=⟨_,_,(List.dropLast_concat_getLast h0).symm⟩;exact aPk T O m (h c d_)
def jF(T:bu)(D:Dv):Dv where
 hd:=D.hd
 O:=mF T D.O
 S:=D.S
 inv:=fun l X w=>D.inv l X w/\mF T D.O l≠none/\vF l
 pan:=fun l X w chain=>(D.pan l X w chain/\vF l/\l≠[])\/∃ l0 e,l=l0++[wJ e]/\vF l0/\D.inv l0 X w/\chain=aIx T e
 one:=D.one
 AB:=D.AB
 notS:=fun l X w b h=>D.notS l X w b h.1
 grow:=fun l X Y w w' h hc hy=>⟨D.grow l X Y w w' h.1 hc hy,h.2⟩
theorem aNb{P:ed}{D:Dv}{T:bu}{gm a:je->Prop}(h:qw P D a)(hs:∀ l c,vF (l++[c])->gm (l++[c])->a (l++[c])):qw P (jF T D) gm:=
 ⟨
  fun l X w d=>by
  obtain⟨F,f,y,x,u⟩:=h.step l X w d.1;refine⟨F,f,y,x,fun c n s=>?_⟩;have g:mF T D.O (l++[c])=D.O (l++[c]):=aPk T D.O l n;have j:vF (l++[c]):=d.2.2.app n;refine (u c n fun q=>hs l c j (s (g.trans q))).mono ?_;rintro e B ⟨o,⟨r,i,m,k⟩|⟨b,i,m,k⟩⟩;exact⟨o,.inl ⟨r,g.trans i,m,k,by rw[g,i];simp,j⟩⟩
  exact⟨o,.inr ⟨b,g.trans i,m,.inl ⟨k,j,d_⟩⟩⟩,
 fun p t l X w d=>by
  have A:(T:Int)+1=(p:Int)+1:=congrArg u_.val (Option.some.inj t.1);have z:T=p:=Int.ofNat.inj ((Int.add_left_inj 1).1 A);subst z
  exact⟨d.2.1,fun e=>.inr ⟨l,e,rfl,d.2.2,d.1,rfl⟩⟩⟩
theorem xB{D:Dv}{T:bu}(h:∀ l X Y w c a,D.pan l X w a->gq X w c->(∀ b,Y b->X b)->D.pan l Y c a):∀ l X Y w c a,(jF T D).pan l X w a->gq X w c->(∀ b,Y b->X b)->(jF T D).pan l Y c a:=by rintro l X Y w c a (⟨f,d⟩|⟨g,e,f,d,n,m⟩) j i;exact .inl ⟨h l X Y w c a f j i,d⟩;exact .inr ⟨g,e,f,d,D.grow g X Y w c n j (fun b k=>.inl (i b k)),m⟩
def aj.catch{b:Type}(k:Int->b):aj b->aj b
 |.ret a=>.ret a|.ask c g=>match decide (c.kind = -1) with
  |true=>.ret (k c.ng)|false=>.ask c fun r=>aj.catch k (g r)
theorem rV{a:Type}(k:Int->a){c:Acc}(g:u_->aj a)(h:c.kind ≠ -1):aj.catch k (.ask c g)=.ask c fun r=>aj.catch k (g r):=by
 conv=>lhs;unfold aj.catch
 rw[su h]
theorem bHe{a:Type}(k:Int->a)(e:Int)(g:u_->aj a):aj.catch k (.ask (wJ e) g)=.ret (k e):=rfl
theorem aJs(T:bu)(O:ut)(l:je){c:Acc}(h:c.kind ≠ -1):ans (mF T O) (l++[c])=ans O (l++[c]):=by unfold ans;rw[aPk T O l h]
theorem Q7{b:Type}(k:Int->b)(T:bu)(O:ut)(p:aj b):∀ l,vF (go (mF T O) p l).2->go O (aj.catch k p) l=go (mF T O) p l:=by
 induction p with
 |ret a=>intro l _;rfl|ask c g e=>intro l h;rw[Qw] at h ⊢;have d:c.kind ≠ -1:=h c ((yH _ _ _).subset d_);rw[rV k g d,Qw,<-aJs T O l d];exact e _ _ h
theorem aUz{d:Type}(k:Int->d)(T:bu)(O:ut)(p:aj d):∀ l m,l <+: m->vF m->m <+: (go (mF T O) p l).2->m <+: (go O (aj.catch k p) l).2:=by
 induction p with
 |ret a=>intro l m _ _ h;exact h| ask c g j=>
  intro l m o h b;rw[Qw] at b;obtain⟨t,rfl⟩:=o;cases t with
  |nil=>rw[AC];exact yH _ _ _| cons x t=>
   have n:x=c:=by have q:=aIh (yH (mF T O) (g (ans (mF T O) (l++[c]))) (l++[c])) b d_;obtain⟨u,e⟩:=q;rw[GM] at e;have i:=aHx e;simp only[aDX,List.cons.injEq] at i;exact i.1.symm
   subst n;have f:x.kind ≠ -1:=h x d_;rw[rV k g f,Qw,<-aJs T O l f];exact j _ _ _ (by rw[show l++x::t=(l++[x])++t from d_];exact aBW _ _) h b
theorem bRf{m:Type}(k:Int->m)(T:bu)(O:ut)(p:aj m):∀ l b e,l <+: b->vF b->b++[wJ e] <+: (go (mF T O) p l).2->go O (aj.catch k p) l=(k e,b):=by
 induction p with
 |ret a=>intro l b e j _ d;have w:=j.length_le;have o:=d.length_le;rw[gz,aBY] at o;have s:(go (mF T O) (aj.ret a) l).2=l:=rfl;rw[s] at o;omega| ask c g q=>
  intro l b e j f d;rw[Qw] at d;obtain⟨t,rfl⟩:=j;have i:=aIh (yH (mF T O) (g (ans (mF T O) (l++[c]))) (l++[c])) d d_;cases t with
  |nil=>
   rw[AC] at i d ⊢;have:=i.eq_of_length d_;have h:c=wJ e:=by simpa using this
   rw[h,bHe];rfl
  | cons x t=>
   have r:x=c:=by obtain⟨u,n⟩:=i;rw[GM,GM] at n;have f:=aHx n;simp only[C_,List.cons.injEq] at f;exact f.1.symm
   subst r;have h:x.kind ≠ -1:=f x d_;rw[rV k g h,Qw,<-aJs T O l h];exact q _ _ _ _ (by rw[show l++x::t=(l++[x])++t from d_];exact aBW _ _) f d
def kT1:Nat:=2
def kT2:Nat:=0
def Qg(K X:uy)(a c gH:Nat):Nat->Prop:=fun b=>K b/\¬X b/\b≠a/\b≠c/\b≠gH
structure Dk(K:uy)(gN gF gH:Nat)(F:List qy)(h0:jr)(l:je)(X:uy)(w:ae):Prop where
 bn:eu w gN 3 #[.int .i64 (l.length:Int)]
 bf:∃ cs,eu w gF 68 cs/\RL { w:=w,ok:=Qg K X gN gF gH,env:=fun _=>none } [uP F] cs.toList
 bh:∃ cs,eu w gH 65 cs/\RL { w:=w,ok:=Qg K X gN gF gH,env:=fun _=>none } (qi (BF F h0 l 0)) cs.toList
 ne:gN≠gF/\gN≠gH/\gF≠gH
 good:∀ c∈l,FX c
 mine:∀ b,X b->b<w.heap.size/\b≠gN/\b≠gF/\b≠gH
 mem:af w
 tab:∀ b,b=kT1\/b=kT2->¬X b/\b≠gN/\b≠gF/\b≠gH
 up:∀ b,w.heap.size<=b->K b
theorem aKw{w:ae}(h:af w){b:Nat}(hb:b=kT1\/b=kT2):b<w.heap.size:=by rcases hb with rfl|rfl;exact lt_of_cell (h.k 0 _ rfl);exact lt_of_cell (h.h 0 _ rfl)
theorem aWa{S:uy}{w w':ae}(h:af w)(hc:gq S w w')(hS:∀ b,b=kT1\/b=kT2->¬S b):af w':=h.iw hc (hS _ (.inl rfl)) (hS _ (.inr rfl))
theorem Dk.grow{K:uy}{i j gH:Nat}{F:List qy}{h0:jr}{l:je}{X Y:uy}{w w':ae}(h:Dk K i j gH F h0 l X w)(hc:gq X w w')(m:∀ b,Y b->X b\/(w.heap.size<=b/\b<w'.heap.size)):Dk K i j gH F h0 l Y w':=by
 have k:∀ g,(g=i\/g=j\/g=gH)->¬X g:=fun g x t=>by have:=(h.mine g t).2;rcases x with rfl|rfl|rfl;exact this.1 rfl;exact this.2.1 rfl;exact this.2.2 rfl
 have f:∀ {p:g_} {n:jl},RL { w:=w,ok:=Qg K X i j gH,env:=fun _=>none } p n->RL { w:=w',ok:=Qg K Y i j gH,env:=fun _=>none } p n:=fun u=>u.le ⟨hc.size,fun b a c=>⟨⟨c.1,fun e=>(m b e).elim c.2.1 (fun d=>by have y:b<w.heap.size:=a;omega),c.2.2⟩,hc.block b a c.2.1⟩,fun _ _ _ h=>by cases h⟩;obtain⟨A,q,s⟩:=h.bf;obtain⟨z,o,r⟩:=h.bh;have B:=h.bn.lt;have D:=q.lt;have C:=o.lt;refine⟨h.bn.iw hc (k _ (.inl rfl)),⟨A,q.iw hc (k _ (.inr (.inl rfl))),f s⟩,⟨z,o.iw hc (k _ (.inr (.inr rfl))),f r⟩,h.ne,h.good,fun b a=>?_,aWa h.mem hc (fun b a=>(h.tab b a).1),fun b a=>⟨fun e=>?_,(h.tab b a).2⟩,fun b a=>h.up b (ry hc.size a)⟩;rcases m b a with d|d
 exact⟨aAF (h.mine b d).1 hc.size,(h.mine b d).2⟩;exact⟨d.2,a_,a_,a_⟩;rcases m b e with d|d;exact (h.tab b a).1 d;have:=aKw h.mem a;omega
def Pj:List aBG:=[{ v:=cutV,recovered:=false }]
def VL(K:uy)(gN gF gH:Nat)(F:List qy)(h0:jr):Dv where
 hd:=.func (.func 65) #[] #[.pointer (some ⟨gN,0,none⟩),.pointer (some ⟨gF,0,none⟩),.pointer (some ⟨gH,0,none⟩)]
 O:=qP F h0
 S:=fun b=>b=gN\/b=gF\/b=gH
 inv l X w:=Dk K gN gF gH F h0 l X w/\Gj F l.length
 pan l X w chain:=(∃ older,Zq older/\chain={ v:=cutV,recovered:=false }::older)/\Dk K gN gF gH F h0 l X w/\∃ l' c,l=l'++[c]/\Gj F l'.length/\(eG F l'.length).cut=true
 one:=rfl
 AB:=rfl
 notS:=fun l X w b h hx hs=>by
  have:=(h.1.mine b hx).2;rcases hs with rfl|rfl|rfl;exact this.1 rfl;exact this.2.1 rfl;exact this.2.2 rfl
 grow:=fun l X Y w w' h hc hy=>⟨h.1.grow hc hy,h.2⟩
theorem bMz(K:uy)(d e gH:Nat)(F:List qy)(h0:jr):∀ l X Y w c a,(VL K d e gH F h0).pan l X w a->gq X w c->(∀ b,Y b->X b)->(VL K d e gH F h0).pan l Y c a:=fun _ _ _ _ _ _ h g f=>⟨h.1,h.2.1.grow g (fun b i=>.inl (f b i)),h.2.2⟩
theorem bFs{α:Type}(K:uy)(m n gH:Nat)(F:List qy)(h0:jr)(hF:F.length<=1000000)(hd:qx h0)(p:aj α)(hp:aj.InW p)(hl:(go (qP F h0) p []).2.length<=1000000) :
  qw prog (VL K m n gH F h0) (fun h=>[] <+: h/\h <+: (go (qP F h0) p []).2):=by
 refine⟨?_,fun T hT=>absurd hT.1 (by intro h;have:=congrArg (·.map u_.val) h;simp[VL,qP,iW] at this;omega)⟩;intro l X w ⟨f,hN⟩;refine⟨_,_,rfl,(fun args w=>ai),fun c _ V=>?_⟩;have W:=aLo F h0 l c
 have L:FX c:=by
  by_cases g:FX c;exact g
  ·have h1:(VL K m n gH F h0).O (l++[c])=none:=by
    show qP F h0 (l++[c])=none;rw[W,au (.inr (.inl g))]
   exact OT (qP F h0) p hp [] (fun _ h=>by cases h) c ((V h1).2.subset d_)
 have N:l.length<=1000000:=by
  rcases aAW 1000000 l.length with h2|h2
  have h1:(VL K m n gH F h0).O (l++[c])=none:=by show qP F h0 (l++[c])=none;rw[W,au (.inr (.inr h2))]
  have h3:=(V h1).2.length_le;rw[gz,aBY] at h3;omega;exact h2
 have Q:=bAi (F:=F) l 0 hd f.good;have hg:Ez (BF F h0 l 0) c:=⟨Q,L⟩;have a0:=bAh F l c h0;obtain⟨C,y,u,s⟩:∃ C:Nat->Nat,C 900001=m/\C 900002=n/\C 900003=gH:=⟨fun x=>if x=900001 then m else if x=900002 then n else gH,rfl,rfl,rfl⟩;have j:∀ {E:jr} {o:Ob},o∈rQ F (BF F h0 l 0) E l.length->(o.x=900001/\o.t=3/\o.l=[.lit (.int .i64 (l.length:Int))]/\o.l'=[.lit (.int .i64 ((l.length+1:Nat):Int))])\/(o.x=900002/\o.t=68/\o.l=[uP F]/\o.l'=[uP F])\/(o.x=900003/\o.t=65/\o.l=qi (BF F h0 l 0)/\o.l'=qi E):=by intro E o D;simp only[rQ,xn,aAe,or_false] at D;rcases D with rfl|rfl|rfl;exact .inl ⟨rfl,rfl,rfl,rfl⟩;exact .inr (.inl ⟨rfl,rfl,rfl,rfl⟩);exact .inr (.inr ⟨rfl,rfl,rfl,rfl⟩)
 have B:∀ {E:jr} b,SX (rQ F (BF F h0 l 0) E l.length) C Dv.non b->b=m\/b=n\/b=gH:=by
  rintro E b (i|⟨o,D,rfl⟩);exact i.elim
  ·rcases j D with⟨e,_⟩|⟨e,_⟩|⟨e,_⟩<;>rw[e]<;>simp[y,u,s]
 obtain⟨n1,n2,n3⟩:=f.ne;obtain⟨cF,f1,f2⟩:=f.bf;obtain⟨cH,f3,f4⟩:=f.bh;have e1:Value.pointer (some ⟨m,0,none⟩)=.pointer (some ⟨C 900001,0,none⟩):=by rw[y]
 have e2:Value.pointer (some ⟨n,0,none⟩)=.pointer (some ⟨C 900002,0,none⟩):=by rw[u]
 have e3:Value.pointer (some ⟨gH,0,none⟩)=.pointer (some ⟨C 900003,0,none⟩):=by rw[s]
 refine (bFn F (BF F h0 l 0) l.length c hg N hF w (Qg K X m n gH) [c.v,.pointer (some ⟨m,0,none⟩),.pointer (some ⟨n,0,none⟩),.pointer (some ⟨gH,0,none⟩)] C
  (fun U V=>aWa f.mem V (fun b i hs=>?_)) (fun b i=>?_) (fun o D=>?_) (fun o D o' a2 e=>?_) ⟨?_,?_,?_,?_,trivial⟩).mono ?_
 have:=(f.tab b i).2;rcases B b hs with h|h|h;exact this.1 h;exact this.2.1 h;exact this.2.2 h;rcases B b i with rfl|rfl|rfl
 exact⟨f.bn.lt,fun h=>h.2.2.1 rfl⟩;exact⟨f1.lt,fun h=>h.2.2.2.1 rfl⟩;exact⟨f3.lt,fun h=>h.2.2.2.2 rfl⟩
 ·rcases j D with⟨H,G,k3,_⟩|⟨H,G,k3,_⟩|⟨H,G,k3,_⟩<;>rw[H,G,k3]
  exact⟨_,by rw[y];exact f.bn,.cons (xs:=[_]) (.lit rfl) .nil⟩;exact⟨cF,by rw[u];exact f1,f2⟩;exact⟨cH,by rw[s];exact f3,f4⟩
 ·rcases j D with⟨H,_⟩|⟨H,_⟩|⟨H,_⟩<;>rcases j a2 with⟨G,_⟩|⟨G,_⟩|⟨G,_⟩<;>rw[H,G] at e ⊢<;>simp only[y,u,s] at e<;>first|(exact absurd e n1)|(exact absurd e n2)|(exact absurd e n3)|(exact absurd e.symm n1)|(exact absurd e.symm n2)|(exact absurd e.symm n3)
 exact .w (.agg (.cons (xs:=[_]) (.lit rfl) (.cons (xs:=[_]) (.lit rfl) (.cons (xs:=[_]) (.lit rfl) (.cons (xs:=[_]) (.lit rfl) .nil)))));exact .w (.one (.pt ⟨_,_,rfl⟩ ⟨0,_,rfl,dE _,fun _=>⟨_,rfl,e1⟩⟩));exact .w (.one (.pt ⟨_,_,rfl⟩ ⟨0,_,rfl,dE _,fun _=>⟨_,rfl,e2⟩⟩));exact .w (.one (.pt ⟨_,_,rfl⟩ ⟨0,_,rfl,dE _,fun _=>⟨_,rfl,e3⟩⟩));rintro e U ⟨A,J,a⟩;refine⟨A.mono fun b _ i=>B b i,?_⟩
 have S:Dk K m n gH F h0 (l++[c]) X U:=by
  have P:∀ {p:g_} {xs:jl},RL { w:=U,ok:=rJ w (Qg K X m n gH) false,env:=fun _=>none } p xs->RL { w:=U,ok:=Qg K X m n gH,env:=fun _=>none } p xs:=fun hr=>hr.le ⟨dE _,fun b i a1=>⟨a1.elim (fun h=>h.2) (fun h=>by have E:w.heap.size<=b:=h;exact⟨f.up b E,fun I=>by have:=(f.mine b I).1;omega,by have:=f.bn.lt;omega,by have:=f1.lt;omega,by have:=f3.lt;omega⟩),rfl⟩,fun _ _ _ h=>by cases h⟩;have o1:=J ⟨900001,3,[.lit (.int .i64 (l.length:Int))],[.lit (.int .i64 ((l.length+1:Nat):Int))]⟩ (by simp[rQ]);have o2:=J ⟨900002,68,[uP F],[uP F]⟩ (by simp[rQ]);have o3:=J ⟨900003,65,qi (BF F h0 l 0),qi (fM (BF F h0 l 0) c (eG F l.length)).1⟩ (by simp[rQ]);dsimp only at o1 o2 o3;rw[y] at o1;rw[u] at o2;rw[s] at o3;obtain⟨c1,p1,p2⟩:=o1;obtain⟨c2,p3,p4⟩:=o2;obtain⟨c3,p5,p6⟩:=o3;refine⟨?_,⟨c2,p3,P p4⟩,⟨c3,p5,?_⟩,f.ne,fun x I=>?_,fun b i=>⟨aAF (f.mine b i).1 A.size,(f.mine b i).2⟩,aWa f.mem A (fun b i hs=>?_),f.tab,fun b i=>f.up b (ry A.size i)⟩
  have a3:c1=#[.int .i64 ((l.length+1:Nat):Int)]:=by
   apply TC;generalize c1.toList=z at p2;cases p2 with
   |cons Z Y=>cases Y;cases Z;rfl
  rw[a3] at p1;rw[gz,aBY];exact p1;rw[a0];exact P p6;rcases List.mem_append.1 I with I|I;exact f.good x I
  obtain rfl:=List.mem_singleton.1 I;exact L;have:=(f.tab b i).2;rcases B b hs with h|h|h;exact this.1 h;exact this.2.1 h;exact this.2.2 h
 by_cases d:(eG F l.length).cut=true;right;unfold Zh at a;rw[au d] at a;refine⟨Pj,?_,a,⟨[],(fun _ h=>by cases h),rfl⟩,S,l,c,rfl,hN,d⟩;show qP F h0 (l++[c])=none;rw[W,au (.inl d)];left;unfold Zh at a;rw[ah d] at a;obtain⟨a4,rfl,q⟩:=a;refine⟨(fM (BF F h0 l 0) c (eG F l.length)).2.1,?_,?_,S,fun k hk=>?_⟩;show qP F h0 (l++[c])=some _;rw[W,ah (fun h=>h.elim d fun h=>h.elim (fun h=>h L) (fun h=>a_))];congr 1;generalize (fM (BF F h0 l 0) c (eG F l.length)).2.1=r at q;cases q with
 | w q=>cases q with
  | @agg _ cs q=>
   obtain⟨cs⟩:=cs;dsimp only at q;cases q with
   |cons Z q=>cases q with
    |cons Y q=>cases q;cases Z;cases Y;rfl
 rw[gz,aBY] at hk;rcases aAW k l.length with h|h;exact hN k h
 obtain rfl:k=l.length:=a_;simpa using d
structure Loc(P:ed)(T:bu)(b:Nat)(t:bu)(cs:mg)(v:ag):Prop where
 ld:∀ w,eu w b t cs->(Instr.loadAt T (.pointer (some ⟨b,0,none⟩))).run P w=.ok v w
 st:∀ w old,old.size=cs.size->eu w b t old->∃ w',(Instr.storeAt T (.pointer (some ⟨b,0,none⟩)) v).run P w=.ok () w'/\eu w' b t cs/\gq (fun k=>k=b) w w'/\w'.heap.size=w.heap.size
theorem Loc.wide{P:ed}{T:bu}{n:Nat}(W:zk P T n)(b:Nat)(t:bu)(cs:mg)(hn:cs.size=n)(h1:cs.all (·.oneCell')=true):Loc P T b t cs (.agg cs):=by refine⟨fun w a=>?_,fun w old c a=>⟨_,run_storeAt_mid w b 0 T cs (by rw[<-c];exact a.FB) (by rw[hn];exact W.info) h1,aGm a c,(iO b cs.toList 0 w).1,(iO b cs.toList 0 w).2⟩⟩;obtain⟨d,e,f⟩:=W.und;have:=run_loadAt_mid (P:=P) w b 0 T cs.toList d a.range e f (by rw[nz,hn];exact W.info);rw[Array.toArray_toList] at this;exact this
def EP(T:bu)(p:String):ik:=⟨some 17,.load T (.tmp 6),T,p,#[],none⟩
def DX(T:bu)(p:String):ik:=⟨some 18,.load T (.tmp 7),T,p,#[],none⟩
def D9(T:bu)(p:String):ik:=⟨some 19,.load T (.tmp 8),T,p,#[],none⟩
def EO(T:bu)(p:String):ik:=⟨none,.store T (.tmp 6) (.tmp 17),0,p,#[⟨0,.data⟩,⟨0,.phase⟩,⟨1,.textOnly .lateStoresUnsure⟩,⟨2,.textOnly .lateStoresUnsure⟩],none⟩
def FN(T:bu)(p:String):ik:=⟨none,.store T (.tmp 7) (.tmp 18),0,p,#[⟨1,.data⟩,⟨3,.chain⟩,⟨0,.phase⟩,⟨1,.phase⟩,⟨2,.textOnly .lateStoresUnsure⟩,⟨3,.phase⟩],none⟩
def He(T:bu)(p:String):ik:=⟨none,.store T (.tmp 8) (.tmp 19),0,p,#[⟨2,.data⟩,⟨4,.chain⟩,⟨0,.phase⟩,⟨1,.phase⟩,⟨2,.phase⟩,⟨3,.phase⟩,⟨4,.phase⟩],none⟩
def H_(T:bu)(p:String):ik:=⟨none,.store T (.tmp 9) (.const (.bool true)),0,p,#[⟨5,.chain⟩,⟨0,.phase⟩,⟨1,.phase⟩,⟨2,.phase⟩,⟨3,.phase⟩,⟨4,.phase⟩,⟨5,.phase⟩],none⟩
def qO(c b a d:bu)(p:String):Array ik:=#[EP c p,DX b p,D9 a p,EO c p,FN b p,He a p,H_ d p]
structure LvV where
 a0:Act
 w0:ae
 b1:Nat
 b2:Nat
 b3:Nat
 b4:Nat
 t1:bu
 t2:bu
 t3:bu
 t4:bu
 c1:mg
 c2:mg
 c3:mg
 v1:ag
 v2:ag
 v3:ag
structure Bg(V:LvV)(x y z f:Bool)(a:Act)(w:ae):Prop where
 ds:a.defers=V.a0.defers
 sz:a.tmps.size=V.a0.tmps.size
 tm:∀ t,t<17->a.tmps.getD t dC=V.a0.tmps.getD t dC
 l1:x=true->a.tmps.getD 17 dC=V.v1
 l2:y=true->a.tmps.getD 18 dC=V.v2
 l3:z=true->a.tmps.getD 19 dC=V.v3
 k1:eu w V.b1 V.t1 V.c1
 k2:eu w V.b2 V.t2 V.c2
 k3:eu w V.b3 V.t3 V.c3
 k4:∃ v,eu w V.b4 V.t4 #[v]/\(f=true->v=.bool true)
 iw:gq (fun k=>k=V.b1\/k=V.b2\/k=V.b3\/k=V.b4) V.w0 w
 size:w.heap.size=V.w0.heap.size
theorem wH{a:mg}{i:Nat}(h:i<a.size)(v:ag):(a.setIfInBounds i v).getD i dC=v:=by simp[aBL,h]
theorem getD_set_ne{a:mg}{i j:Nat}(h:i≠j)(v:ag):(a.setIfInBounds i v).getD j dC=a.getD j dC:=by simp[aBL,h]
theorem NV{P:ed}(hm:P.follows .mixedOrders=true)(V:LvV){l j i m:bu}{id:Nat}{p:String}{Q:Exit->Act->jg}
  (L1:Loc P l V.b1 V.t1 V.c1 V.v1) (L2:Loc P j V.b2 V.t2 V.c2 V.v2) (L3:Loc P i V.b3 V.t3 V.c3 V.v3) (L4:Loc P m V.b4 V.t4 #[.bool true] (.bool true))
  (e1:V.a0.tmps.getD 6 dC=.pointer (some ⟨V.b1,0,none⟩)) (e2:V.a0.tmps.getD 7 dC=.pointer (some ⟨V.b2,0,none⟩)) (e3:V.a0.tmps.getD 8 dC=.pointer (some ⟨V.b3,0,none⟩)) (e4:V.a0.tmps.getD 9 dC=.pointer (some ⟨V.b4,0,none⟩))
  (hz:V.a0.tmps.size=20) (a7:V.b1≠V.b2) (a6:V.b1≠V.b3) (a5:V.b1≠V.b4) (a4:V.b2≠V.b3) (a3:V.b2≠V.b4) (a2:V.b3≠V.b4)
  (K1:eu V.w0 V.b1 V.t1 V.c1) (K2:eu V.w0 V.b2 V.t2 V.c2) (K3:eu V.w0 V.b3 V.t3 V.c3) (K4:∃ v,eu V.w0 V.b4 V.t4 #[v])
  (hQ:∀ a w,Bg V true true true true a w->Q .normal a w):(Code.region id (qO l j i m p) true).wp P Q V.a0 V.w0:=by
 have d0:∀ {x y z f:Bool} (J:Act->jg) (a:Act) (w:ae),Bg V x y z f a w->(∀ E n,Bg V true y z f E n->J E n)->if Region.wanted (EP l p) (aAG (qO l j i m p) a.tmps)=true then Oper.wp P (EP l p) a w J Q else J (a.put (EP l p).dst dC) w:=by intro x y z f J a w h b;rw[au ay];have hs:=h.sz.trans hz;refine aMy (o:=EP l p) rfl (val:=V.v1) (by rw[show a.eval (.tmp 6)=.pointer (some ⟨V.b1,0,none⟩) from (h.tm 6 a_).trans e1];exact L1.ld w h.k1) (b _ _ ?_);exact⟨h.ds,by show (a.tmps.setIfInBounds 17 _).size=_;rw[aJX];exact h.sz,fun t ht=>(getD_set_ne a_ _).trans (h.tm t ht),fun _=>wH a_ _,fun hy=>(getD_set_ne a_ _).trans (h.l2 hy),fun X=>(getD_set_ne a_ _).trans (h.l3 X),h.k1,h.k2,h.k3,h.k4,h.iw,h.size⟩
 have d1:∀ {x y z f:Bool} (J:Act->jg) (a:Act) (w:ae),Bg V x y z f a w->(∀ E n,Bg V x true z f E n->J E n)->if Region.wanted (DX j p) (aAG (qO l j i m p) a.tmps)=true then Oper.wp P (DX j p) a w J Q else J (a.put (DX j p).dst dC) w:=by intro x y z f J a w h b;rw[au ay];have hs:=h.sz.trans hz;refine aMy (o:=DX j p) rfl (val:=V.v2) (by rw[show a.eval (.tmp 7)=.pointer (some ⟨V.b2,0,none⟩) from (h.tm 7 a_).trans e2];exact L2.ld w h.k2) (b _ _ ?_);exact⟨h.ds,by show (a.tmps.setIfInBounds 18 _).size=_;rw[aJX];exact h.sz,fun t ht=>(getD_set_ne a_ _).trans (h.tm t ht),fun hx=>(getD_set_ne a_ _).trans (h.l1 hx),fun _=>wH a_ _,fun X=>(getD_set_ne a_ _).trans (h.l3 X),h.k1,h.k2,h.k3,h.k4,h.iw,h.size⟩
 have d2:∀ {x y z f:Bool} (J:Act->jg) (a:Act) (w:ae),Bg V x y z f a w->(∀ E n,Bg V x y true f E n->J E n)->if Region.wanted (D9 i p) (aAG (qO l j i m p) a.tmps)=true then Oper.wp P (D9 i p) a w J Q else J (a.put (D9 i p).dst dC) w:=by intro x y z f J a w h b;rw[au ay];have hs:=h.sz.trans hz;refine aMy (o:=D9 i p) rfl (val:=V.v3) (by rw[show a.eval (.tmp 8)=.pointer (some ⟨V.b3,0,none⟩) from (h.tm 8 a_).trans e3];exact L3.ld w h.k3) (b _ _ ?_);exact⟨h.ds,by show (a.tmps.setIfInBounds 19 _).size=_;rw[aJX];exact h.sz,fun t ht=>(getD_set_ne a_ _).trans (h.tm t ht),fun hx=>(getD_set_ne a_ _).trans (h.l1 hx),fun hy=>(getD_set_ne a_ _).trans (h.l2 hy),fun _=>wH a_ _,h.k1,h.k2,h.k3,h.k4,h.iw,h.size⟩
 have d3:∀ {y z f:Bool} (J:Act->jg) (a:Act) (w:ae),Bg V true y z f a w->(∀ E n,Bg V true y z f E n->J E n)->if Region.wanted (EO l p) (aAG (qO l j i m p) a.tmps)=true then Oper.wp P (EO l p) a w J Q else J (a.put (EO l p).dst dC) w:=by intro y z f J a w h b;rw[au ay];obtain⟨n,Y,hb,F,G⟩:=L1.st w V.c1 rfl h.k1;obtain⟨W,h4,U⟩:=h.k4;refine nO (o:=EO l p) rfl (w':=n) (by rw[show a.eval (.tmp 6)=.pointer (some ⟨V.b1,0,none⟩) from (h.tm 6 a_).trans e1,show a.eval (.tmp 17)=V.v1 from h.l1 rfl];exact Y) (b _ _ ?_);exact⟨h.ds,h.sz,h.tm,h.l1,h.l2,h.l3,hb,h.k2.iw F (fun e=>a7 e.symm),h.k3.iw F (fun e=>a6 e.symm),⟨W,h4.iw F (fun e=>a5 e.symm),U⟩,h.iw.trans (F.mono fun k _ Z=>.inl Z),G.trans h.size⟩
 have d4:∀ {x z f:Bool} (J:Act->jg) (a:Act) (w:ae),Bg V x true z f a w->(∀ E n,Bg V x true z f E n->J E n)->if Region.wanted (FN j p) (aAG (qO l j i m p) a.tmps)=true then Oper.wp P (FN j p) a w J Q else J (a.put (FN j p).dst dC) w:=by intro x z f J a w h b;rw[au ay];obtain⟨n,Y,hb,F,G⟩:=L2.st w V.c2 rfl h.k2;obtain⟨W,h4,U⟩:=h.k4;refine nO (o:=FN j p) rfl (w':=n) (by rw[show a.eval (.tmp 7)=.pointer (some ⟨V.b2,0,none⟩) from (h.tm 7 a_).trans e2,show a.eval (.tmp 18)=V.v2 from h.l2 rfl];exact Y) (b _ _ ?_);exact⟨h.ds,h.sz,h.tm,h.l1,h.l2,h.l3,h.k1.iw F a7,hb,h.k3.iw F (fun e=>a4 e.symm),⟨W,h4.iw F (fun e=>a3 e.symm),U⟩,h.iw.trans (F.mono fun k _ Z=>.inr (.inl Z)),G.trans h.size⟩
 have d5:∀ {x y f:Bool} (J:Act->jg) (a:Act) (w:ae),Bg V x y true f a w->(∀ E n,Bg V x y true f E n->J E n)->if Region.wanted (He i p) (aAG (qO l j i m p) a.tmps)=true then Oper.wp P (He i p) a w J Q else J (a.put (He i p).dst dC) w:=by intro x y f J a w h b;rw[au ay];obtain⟨n,Y,hb,F,G⟩:=L3.st w V.c3 rfl h.k3;obtain⟨W,h4,U⟩:=h.k4;refine nO (o:=He i p) rfl (w':=n) (by rw[show a.eval (.tmp 8)=.pointer (some ⟨V.b3,0,none⟩) from (h.tm 8 a_).trans e3,show a.eval (.tmp 19)=V.v3 from h.l3 rfl];exact Y) (b _ _ ?_);exact⟨h.ds,h.sz,h.tm,h.l1,h.l2,h.l3,h.k1.iw F a6,h.k2.iw F a4,hb,⟨W,h4.iw F (fun e=>a2 e.symm),U⟩,h.iw.trans (F.mono fun k _ Z=>.inr (.inr (.inl Z))),G.trans h.size⟩
 have d6:∀ {x y z f:Bool} (J:Act->jg) (a:Act) (w:ae),Bg V x y z f a w->(∀ E n,Bg V x y z true E n->J E n)->if Region.wanted (H_ m p) (aAG (qO l j i m p) a.tmps)=true then Oper.wp P (H_ m p) a w J Q else J (a.put (H_ m p).dst dC) w:=by intro x y z f J a w h b;rw[au ay];obtain⟨W,h4,U⟩:=h.k4;obtain⟨n,Y,hb,F,G⟩:=L4.st w #[W] rfl h4;refine nO (o:=H_ m p) rfl (w':=n) (by rw[show a.eval (.tmp 9)=.pointer (some ⟨V.b4,0,none⟩) from (h.tm 9 a_).trans e4];exact Y) (b _ _ ?_);exact⟨h.ds,h.sz,h.tm,h.l1,h.l2,h.l3,h.k1.iw F a5,h.k2.iw F a3,h.k3.iw F a2,⟨_,hb,fun _=>rfl⟩,h.iw.trans (F.mono fun k _ Z=>.inr (.inr (.inr Z))),G.trans h.size⟩
 have H:∀ a w,Bg V true true true true a w->wpAny P .any (qO l j i m p) Q 0 #[true,true,true,true,true,true,true] a w:=fun a w h=>by exact wpAny_done ai (hQ a w h) _
 have I:∀ a w,Bg V true true true false a w->wpAny P .any (qO l j i m p) Q 1 #[true,true,true,true,true,true,false] a w:=fun a w h=>by exact aAU (rs:=[6]) ai d_ (AllReady.cons (o:=H_ m p) rfl (fun J b=>d6 J a w h fun g c d=>b _ _ (H g c d)) AllReady.nil)
 have s:∀ a w,Bg V true true true false a w->wpAny P .any (qO l j i m p) Q 2 #[true,true,true,true,true,false,false] a w:=fun a w h=>by exact aAU (rs:=[5]) ai d_ (AllReady.cons (o:=He i p) rfl (fun J b=>d5 J a w h fun g c d=>b _ _ (I g c d)) AllReady.nil)
 have q:∀ a w,Bg V true true true false a w->wpAny P .any (qO l j i m p) Q 3 #[true,true,true,true,false,false,false] a w:=fun a w h=>by exact aAU (rs:=[4]) ai d_ (AllReady.cons (o:=FN j p) rfl (fun J b=>d4 J a w h fun g c d=>b _ _ (s g c d)) AllReady.nil)
 have r:∀ a w,Bg V true true true false a w->wpAny P .any (qO l j i m p) Q 4 #[true,true,true,false,false,false,false] a w:=fun a w h=>by exact aAU (rs:=[3]) ai d_ (AllReady.cons (o:=EO l p) rfl (fun J b=>d3 J a w h fun g c d=>b _ _ (q g c d)) AllReady.nil)
 have K:∀ a w,Bg V true true false false a w->wpAny P .any (qO l j i m p) Q 3 #[true,true,false,true,true,false,false] a w:=fun a w h=>by exact aAU (rs:=[2]) ai d_ (AllReady.cons (o:=D9 i p) rfl (fun J b=>d2 J a w h fun g c d=>b _ _ (s g c d)) AllReady.nil)
 have u:∀ a w,Bg V true true false false a w->wpAny P .any (qO l j i m p) Q 4 #[true,true,false,true,false,false,false] a w:=fun a w h=>by exact aAU (rs:=[2,4]) ai d_ (AllReady.cons (o:=D9 i p) rfl (fun J b=>d2 J a w h fun g c d=>b _ _ (q g c d)) (AllReady.cons (o:=FN j p) rfl (fun J b=>d4 J a w h fun g c d=>b _ _ (K g c d)) AllReady.nil))
 have A:∀ a w,Bg V true true false false a w->wpAny P .any (qO l j i m p) Q 5 #[true,true,false,false,false,false,false] a w:=fun a w h=>by exact aAU (rs:=[2,3]) ai d_ (AllReady.cons (o:=D9 i p) rfl (fun J b=>d2 J a w h fun g c d=>b _ _ (r g c d)) (AllReady.cons (o:=EO l p) rfl (fun J b=>d3 J a w h fun g c d=>b _ _ (u g c d)) AllReady.nil))
 have B:∀ a w,Bg V true false true false a w->wpAny P .any (qO l j i m p) Q 4 #[true,false,true,true,false,false,false] a w:=fun a w h=>by exact aAU (rs:=[1]) ai d_ (AllReady.cons (o:=DX j p) rfl (fun J b=>d1 J a w h fun g c d=>b _ _ (q g c d)) AllReady.nil)
 have C:∀ a w,Bg V true false true false a w->wpAny P .any (qO l j i m p) Q 5 #[true,false,true,false,false,false,false] a w:=fun a w h=>by exact aAU (rs:=[1,3]) ai d_ (AllReady.cons (o:=DX j p) rfl (fun J b=>d1 J a w h fun g c d=>b _ _ (r g c d)) (AllReady.cons (o:=EO l p) rfl (fun J b=>d3 J a w h fun g c d=>b _ _ (B g c d)) AllReady.nil))
 have L:∀ a w,Bg V true false false false a w->wpAny P .any (qO l j i m p) Q 5 #[true,false,false,true,false,false,false] a w:=fun a w h=>by exact aAU (rs:=[1,2]) ai d_ (AllReady.cons (o:=DX j p) rfl (fun J b=>d1 J a w h fun g c d=>b _ _ (u g c d)) (AllReady.cons (o:=D9 i p) rfl (fun J b=>d2 J a w h fun g c d=>b _ _ (B g c d)) AllReady.nil))
 have N:∀ a w,Bg V true false false false a w->wpAny P .any (qO l j i m p) Q 6 #[true,false,false,false,false,false,false] a w:=fun a w h=>by exact aAU (rs:=[1,2,3]) ai d_ (AllReady.cons (o:=DX j p) rfl (fun J b=>d1 J a w h fun g c d=>b _ _ (A g c d)) (AllReady.cons (o:=D9 i p) rfl (fun J b=>d2 J a w h fun g c d=>b _ _ (C g c d)) (AllReady.cons (o:=EO l p) rfl (fun J b=>d3 J a w h fun g c d=>b _ _ (L g c d)) AllReady.nil)))
 have D:∀ a w,Bg V false true true false a w->wpAny P .any (qO l j i m p) Q 5 #[false,true,true,false,false,false,false] a w:=fun a w h=>by exact aAU (rs:=[0]) ai d_ (AllReady.cons (o:=EP l p) rfl (fun J b=>d0 J a w h fun g c d=>b _ _ (r g c d)) AllReady.nil)
 have O:∀ a w,Bg V false true false false a w->wpAny P .any (qO l j i m p) Q 6 #[false,true,false,false,false,false,false] a w:=fun a w h=>by exact aAU (rs:=[0,2]) ai d_ (AllReady.cons (o:=EP l p) rfl (fun J b=>d0 J a w h fun g c d=>b _ _ (A g c d)) (AllReady.cons (o:=D9 i p) rfl (fun J b=>d2 J a w h fun g c d=>b _ _ (D g c d)) AllReady.nil))
 have S:∀ a w,Bg V false false true false a w->wpAny P .any (qO l j i m p) Q 6 #[false,false,true,false,false,false,false] a w:=fun a w h=>by exact aAU (rs:=[0,1]) ai d_ (AllReady.cons (o:=EP l p) rfl (fun J b=>d0 J a w h fun g c d=>b _ _ (C g c d)) (AllReady.cons (o:=DX j p) rfl (fun J b=>d1 J a w h fun g c d=>b _ _ (D g c d)) AllReady.nil))
 have T:∀ a w,Bg V false false false false a w->wpAny P .any (qO l j i m p) Q 7 #[false,false,false,false,false,false,false] a w:=fun a w h=>by exact aAU (rs:=[0,1,2]) ai d_ (AllReady.cons (o:=EP l p) rfl (fun J b=>d0 J a w h fun g c d=>b _ _ (N g c d)) (AllReady.cons (o:=DX j p) rfl (fun J b=>d1 J a w h fun g c d=>b _ _ (O g c d)) (AllReady.cons (o:=D9 i p) rfl (fun J b=>d2 J a w h fun g c d=>b _ _ (S g c d)) AllReady.nil)))
 obtain⟨W,K4⟩:=K4;refine wp_region_any hm ?_;exact T _ _ ⟨rfl,rfl,fun _ _=>rfl,fun h=>(by cases h),fun h=>(by cases h),fun h=>(by cases h),K1.drew,K2.drew,K3.drew,⟨W,K4.drew,fun h=>by cases h⟩,gq.drew (gq.refl _ _),rfl⟩
end Pv
section
theorem kM:zk prog 40 55:=⟨⟨_,underlying40,rfl⟩,ai⟩
namespace Pv
def Eu(l:di):mg:=(l.map uh).toArray
def p_(o:jk):mg:=(#[.int .i64 o.session,.string o.payload]:mg)++Eu o.ot++#[.int .i64 o.ol]++Eu o.xt++#[.int .i64 o.xl,.int .i64 o.bn,.string o.bc]++Eu o.bt++#[.int .i64 o.err]
structure wu(o:jk):Prop where
 ot:o.ot.length=16
 xt:o.xt.length=16
 bt:o.bt.length=16
theorem bCv(l:di):(Eu l).size=l.length:=by simp[Eu]
theorem Q_(l:di):∀ u∈(Eu l).toList,u.oneCell'=true:=by intro u a;simp only[Eu,List.mem_map] at a;obtain⟨b,_,rfl⟩:=a;rfl
theorem eX{o:jk}(h:wu o):(p_ o).size=55:=by unfold p_;simp only[aEM,bCv,h.ot,h.xt,h.bt,aBM,We,aBJ]
theorem bLq(C:Ctx){o:jk}(h:wu o):RL C (h_ o) (p_ o).toList:=by
 have e:(p_ o).toList=[.int .i64 o.session]++([.string o.payload]++(o.ot.map uh++([.int .i64 o.ol]++(o.xt.map uh++([.int .i64 o.xl]++([.int .i64 o.bn]++([.string o.bc]++(o.bt.map uh++([.int .i64 o.err]++[]))))))))):=by simp[p_,Eu]
 rw[e];exact .cons (.lit rfl) (.cons (.lit rfl) (.cons (.bs h.ot) (.cons (.lit rfl) (.cons (.bs h.xt) (.cons (.lit rfl) (.cons (.lit rfl) (.cons (.lit rfl) (.cons (.bs h.bt) (.cons (.lit rfl) .nil)))))))))
theorem TG{C:Ctx}{o:jk}{xs:jl}(h:RL C (h_ o) xs):xs=(p_ o).toList/\wu o:=by unfold h_ at h;cases h with|cons f h=>cases h with|cons k1 h=>cases h with|cons k2 h=>cases h with|cons k3 h=>cases h with|cons k4 h=>cases h with|cons e h=>cases h with|cons d h=>cases h with|cons c h=>cases h with|cons a h=>cases h with|cons b h=>cases h;cases f;cases k1;cases k3;cases e;cases d;cases c;cases b;cases k2 with|bs k2=>cases k4 with|bs k4=>cases a with|bs a=>exact⟨by simp[p_,Eu],k2,k4,a⟩
theorem oK(o:jk):(p_ o).all (·.oneCell')=true:=by
 rw[<-aCS,aGp];intro u a;simp only[p_,Array.toList_append,List.mem_append] at a;rcases a with (((((a|a)|a)|a)|a)|a)|a
 all_goals first
  |exact Q_ _ _ a
  |(simp only[xn,aAe,or_false] at a;rcases a with rfl|rfl|rfl<;>rfl)
  |(simp only[xn,aAe,or_false] at a;rcases a with rfl|rfl<;>rfl)
  |(simp only[xn,aAe,or_false] at a;subst a;rfl)
theorem lS:wu ni:=⟨rfl,rfl,rfl⟩
end Pv
theorem bHi(w:ae):(Instr.typeAssert (.iface 139 (.agg #[])) 20 139 true).run prog w=.ok (.tuple #[.agg #[],.bool true]) w:=ai
attribute [local go_sem] bHi
theorem bFr(Ob d:Nat)(y:mg)(E:ag)(b:List aBG)(w:ae)(A:y.size=55)
  (s:eu w Ob 40 y) (u:eu w d 4 #[E]) (a:¬Ob=d) :
  CallsD prog 67 #[.pointer (some ⟨Ob,0,none⟩),.pointer (some ⟨d,0,none⟩)] (.panicking ({ v:=Pv.cutV,recovered:=false }::b)) w fun e G q=>
   e=.returned (.tuple #[])/\G=.panicking ({ v:=Pv.cutV,recovered:=true }::b)/\gq (fun k=>k=Ob\/k=d) w q /\
   eu q Ob 40 (Pv.p_ Pv.ni)/\eu q d 4 #[.bool false]:=by
 have Q:=s.lt;have S:=u.lt;have D:=hide (az s A);have L:=hide u;clear s u A;have B:¬d=Ob:=fun e=>a e.symm;simp only[Pv.cutV];refine callsD_of_wpS func67 rfl fun C Y H=>?_;simp only[ntmps67,aBM,We,aBJ,aDE,aDF,aDG,aDH,aDI,aDJ,IR,C_];apply wpS_seq;apply wpS_region;simp[wpOpsS,go_sem,recoverD,H,Exit.thenS];refine wpS_of_wp ?_
 go_upto_region 8 with fail
 generalize r:aEJ _ (.cells _ 40)=W
 have g:Ext w W:=by
  rw[<-r]
  all_goals exact Dp
 have o:eu W (w.heap.size+1) 40 (Pv.p_ Pv.ni):=by rw[<-r];exact eu.new' _ _ _ d_
 have n:=(aA D).1.ext g;have f:=(aA L).ext g;have K:=f.cell 0;have V:=f.frozen;simp only[aBU,aBN] at K;have j:=hide (az g (az o (az n f)));clear r g o n f;have I:¬w.heap.size+1=Ob:=a_
 go_wp2_with (first
  |(refine fO (ty:=40) (t:=40) (x:=.tmp 4) rfl rfl kM rfl (cs:=Pv.p_ Pv.ni) (aA j).2.1 (Pv.eX Pv.lS) ?_)
  |(refine aT (ty:=40) (t:=40) (x:=.tmp 0) (y:=.tmp 12) rfl rfl kM rfl rfl (aA j).2.2.1 (aA D).2 (Pv.eX Pv.lS) (Pv.oK _) ?_;intro P m c l;have J:=((aA j).2.2.2.iw c (fun e=>a e.symm)).cell 0;have X:=((aA j).2.2.2.iw c (fun e=>a e.symm)).frozen;have T:=((aA j).2.2.2.iw c (fun e=>a e.symm)).lt;simp only[aBU,aBN] at J;have N:=hide (az m (az c l));clear m c l))
 obtain⟨F,z,O⟩:=aA N;obtain⟨g,o,n,f⟩:=aA j;refine⟨rfl,_,rfl,.tuple #[],results_none rfl _ _ _,rfl,rfl,?_,?_,?_⟩;exact (g.trans' z (fun _ _ h=>h.elim) (fun i U e=>by rw[e];exact .inl rfl)).setCell (.inl (.inr rfl)) _;exact F.far (p:=⟨d,0,none⟩) a _;exact (f.iw z (fun e=>a e.symm)).zq 0 _
theorem bMw(x y:ag)(w:ae) :
  CallsD prog 67 #[x,y] .returning w fun e c b=>e=.returned (.tuple #[])/\c=.returning/\w=b:=by
 refine callsD_of_wpS func67 rfl fun a f d=>?_;simp only[ntmps67,aBM,We,aBJ,aDE,aDF,aDG,aDH,aDI,aDJ,IR,C_];apply wpS_seq;apply wpS_region;simp[wpOpsS,go_sem,recoverD,d,Exit.thenS];refine wpS_of_wp ?_
 go_wp2
 exact⟨rfl,.returning,by cases a;simp_all,.tuple #[],results_none rfl _ _ _,rfl,rfl,rfl⟩
end
section
namespace Pv
def eF(e:Int):jk:={ ni with err:=e }
theorem aDw(e:Int):wu (eF e):=⟨rfl,rfl,rfl⟩
def Vx:bu:=114
def aJO:bu:=139
end Pv
theorem aZr(x:ag)(w:ae):(Instr.typeAssert (.iface 118 x) 20 118 true).run prog w=.ok (.tuple #[x,.bool true]) w:=ai
theorem aZq(x:ag)(w:ae):(Instr.typeAssert (.iface 114 x) 20 118 true).run prog w=.ok (.tuple #[.agg #[.int .i64 0],.bool false]) w:=ai
theorem aZs(x:ag)(w:ae):(Instr.typeAssert (.iface 139 x) 20 118 true).run prog w=.ok (.tuple #[.agg #[.int .i64 0],.bool false]) w:=ai
theorem aMm(c:Int)(w:ae):(Instr.build 40 #[(4,.int .i64 c)]).run prog w=.ok (.agg (Pv.p_ (Pv.eF c))) w:=ai
attribute [local go_sem] aMm aZr aZq aZs
theorem bLm(Ob:Nat)(y:mg)(c:Int)(a:List aBG)(w:ae)(m:y.size=55)(g:eu w Ob 40 y) :
  CallsD prog 46 #[.pointer (some ⟨Ob,0,none⟩)] (.panicking ({ v:=.iface 118 (.agg #[.int .i64 c]),recovered:=false }::a)) w fun e r l=>e=.returned (.tuple #[])/\r=.panicking ({ v:=.iface 118 (.agg #[.int .i64 c]),recovered:=true }::a)/\gq (fun k=>k=Ob) w l/\eu l Ob 40 (Pv.p_ (Pv.eF c)):=by
 have C:=g.lt;have o:=hide (az g m);clear g m;refine callsD_of_wpS func46 rfl fun n E s=>?_;simp only[ntmps46,aBM,We,aBJ,aDE,aDF,aDG,aDH,aDI,aDJ,IR,C_];apply wpS_seq;apply wpS_region;simp[wpOpsS,go_sem,recoverD,s,Exit.thenS];refine wpS_of_wp ?_
 go_upto_region 7 with fail
 go_step
 iterate 6 (first|go_values|go_step|go_upon|go_in|go_back)
 have j:Ext w (w.alloc (.cells #[.int .i64 c] 118)):=(Ext.refl w).alloc _;generalize w.alloc (.cells #[.int .i64 c] 118)=W at *;refine wpList_plain rfl fun K u=>Pv.aX (w:=W) (w':=W) (v:=.agg (Pv.p_ (Pv.eF c))) ?_ (u _ _ ?_);simp[execOp,Act.eval,aMm];refine aT (ty:=40) (t:=40) (x:=.tmp 0) (y:=.tmp 12) rfl rfl kM rfl (cs:=Pv.p_ (Pv.eF c)) rfl ((aA o).1.ext j) (aA o).2 (Pv.eX (Pv.aDw c)) (Pv.oK _) ?_;intro B f d b;have z:=hide (az f (az d b));clear f d b
 go_wp2
 obtain⟨q,p,A⟩:=aA z;refine⟨rfl,_,rfl,.tuple #[],results_none rfl _ _ _,rfl,rfl,?_,q⟩;exact j.trans' p (fun _ _ h=>h.elim) (fun i D e=>e)
theorem bLk(Ob:ag)(x:ag)(a:List aBG)(w:ae) :
  CallsD prog 46 #[Ob] (.panicking ({ v:=.iface 114 x,recovered:=false }::a)) w fun e d c=>e=.panicked [{ v:=.iface 114 x,recovered:=false }]/\d=.panicking ({ v:=.iface 114 x,recovered:=true }::a)/\c=w:=by
 refine callsD_of_wpS func46 rfl fun b g f=>?_;simp only[ntmps46,aBM,We,aBJ,aDE,aDF,aDG,aDH,aDI,aDJ,IR,C_];apply wpS_seq;apply wpS_region;simp[wpOpsS,go_sem,recoverD,f,Exit.thenS];refine wpS_of_wp ?_
 go_wp2
 exact⟨rfl,_,rfl,rfl,rfl,rfl⟩
theorem Kv(Ob:ag)(x:ag)(a:List aBG)(w:ae) :
  CallsD prog 46 #[Ob] (.panicking ({ v:=.iface 139 x,recovered:=false }::a)) w fun e d c=>e=.panicked [{ v:=.iface 139 x,recovered:=false }]/\d=.panicking ({ v:=.iface 139 x,recovered:=true }::a)/\c=w:=by
 refine callsD_of_wpS func46 rfl fun b g f=>?_;simp only[ntmps46,aBM,We,aBJ,aDE,aDF,aDG,aDH,aDI,aDJ,IR,C_];apply wpS_seq;apply wpS_region;simp[wpOpsS,go_sem,recoverD,f,Exit.thenS];refine wpS_of_wp ?_
 go_wp2
 exact⟨rfl,_,rfl,rfl,rfl,rfl⟩
theorem bLl(x:ag)(w:ae) :
  CallsD prog 46 #[x] .returning w fun e c b=>e=.returned (.tuple #[])/\c=.returning/\b=w:=by
 refine callsD_of_wpS func46 rfl fun a f d=>?_;simp only[ntmps46,aBM,We,aBJ,aDE,aDF,aDG,aDH,aDI,aDJ,IR,C_];apply wpS_seq;apply wpS_region;simp[wpOpsS,go_sem,recoverD,d,Exit.thenS];refine wpS_of_wp ?_
 go_wp2
 exact⟨rfl,.returning,by cases a;simp_all,.tuple #[],results_none rfl _ _ _,rfl,rfl,rfl⟩
end
def BC(g f:Nat):ag:=.func (.func f) #[.pointer (some ⟨g,0,none⟩)] #[]
def D7(g:Nat):List MapEntry:=[⟨.int .i64 1,BC g 48,0⟩,⟨.int .i64 2,BC g 49,1⟩,⟨.int .i64 3,BC g 50,2⟩,⟨.int .i64 4,BC g 51,3⟩,
 ⟨.int .i64 5,BC g 52,4⟩,⟨.int .i64 6,BC g 53,5⟩,⟨.int .i64 7,BC g 54,6⟩]
def zh(w:ae)(g n:Nat):ae:=w.alloc (.map ((D7 g).take n).toArray n)
theorem aAl{P:ed}{d a i:bu}(f:P.underlying d=some (.map a i))(e:P.underlying a=some (.int .i64)){w:ae}{r:Nat}{es:Array MapEntry}{c:Nat}{k:Int}{v:ag}(hb:w.heap[r]?=some (.map es c))(b:Instr.findNow (.int .i64) (.int .i64 k) es.toList 0=some none) :
  (Instr.mapUpdate d (.map (some r)) (.int .i64 k) v).run P w=.ok () { w with heap:=w.heap.setIfInBounds r (.map (es.push ⟨.int .i64 k,v,c⟩) (c+1)) }:=by
 have h:(Instr.checkKey false 10000 a (.int .i64 k)).run P w=.ok () w:=by show (Instr.checkKey false (9999+1) a (.int .i64 k)).run P w=_;unfold Instr.checkKey;simp[Ha e]
 have g:=MapKept.run_findKey (w:=w) e b;unfold Instr.mapUpdate;simp[Ha f,MapKept.run_getObj_map hb,h,g,MapKept.run_setObj_map _ hb]
theorem aAs(w:ae)(o a:Obj):({ w.alloc o with heap:=(w.alloc o).heap.setIfInBounds w.heap.size a }:ae)=w.alloc a:=by
 have h:(w.heap.push o).setIfInBounds w.heap.size a=w.heap.push a:=by apply TC;simp
 unfold aEJ;dsimp only;rw[h]
theorem MH(w:ae)(g:Nat):(Instr.makeMap 124 none).run prog w=.ok (.map (some w.heap.size)) (zh w g 0):=rfl
theorem MQ(w:ae)(g:Nat):(Instr.mapUpdate 124 (.map (some w.heap.size)) (.int .i64 1) (BC g 48)).run prog (zh w g 0)=.ok () (zh w g 1):=by refine (aAl (es:=((D7 g).take 0).toArray) (c:=0) underlying124 underlying3 (MapKept.heap_alloc w _).1 ai).trans ?_;unfold zh;rw[aAs];rfl
theorem MP(w:ae)(g:Nat):(Instr.mapUpdate 124 (.map (some w.heap.size)) (.int .i64 2) (BC g 49)).run prog (zh w g 1)=.ok () (zh w g 2):=by refine (aAl (es:=((D7 g).take 1).toArray) (c:=1) underlying124 underlying3 (MapKept.heap_alloc w _).1 ai).trans ?_;unfold zh;rw[aAs];rfl
theorem MO(w:ae)(g:Nat):(Instr.mapUpdate 124 (.map (some w.heap.size)) (.int .i64 3) (BC g 50)).run prog (zh w g 2)=.ok () (zh w g 3):=by refine (aAl (es:=((D7 g).take 2).toArray) (c:=2) underlying124 underlying3 (MapKept.heap_alloc w _).1 ai).trans ?_;unfold zh;rw[aAs];rfl
theorem MN(w:ae)(g:Nat):(Instr.mapUpdate 124 (.map (some w.heap.size)) (.int .i64 4) (BC g 51)).run prog (zh w g 3)=.ok () (zh w g 4):=by refine (aAl (es:=((D7 g).take 3).toArray) (c:=3) underlying124 underlying3 (MapKept.heap_alloc w _).1 ai).trans ?_;unfold zh;rw[aAs];rfl
theorem ML(w:ae)(g:Nat):(Instr.mapUpdate 124 (.map (some w.heap.size)) (.int .i64 5) (BC g 52)).run prog (zh w g 4)=.ok () (zh w g 5):=by refine (aAl (es:=((D7 g).take 4).toArray) (c:=4) underlying124 underlying3 (MapKept.heap_alloc w _).1 ai).trans ?_;unfold zh;rw[aAs];rfl
theorem MK(w:ae)(g:Nat):(Instr.mapUpdate 124 (.map (some w.heap.size)) (.int .i64 6) (BC g 53)).run prog (zh w g 5)=.ok () (zh w g 6):=by refine (aAl (es:=((D7 g).take 5).toArray) (c:=5) underlying124 underlying3 (MapKept.heap_alloc w _).1 ai).trans ?_;unfold zh;rw[aAs];rfl
theorem MJ(w:ae)(g:Nat):(Instr.mapUpdate 124 (.map (some w.heap.size)) (.int .i64 7) (BC g 54)).run prog (zh w g 6)=.ok () (zh w g 7):=by refine (aAl (es:=((D7 g).take 6).toArray) (c:=6) underlying124 underlying3 (MapKept.heap_alloc w _).1 ai).trans ?_;unfold zh;rw[aAs];rfl
def Wh(k:Int):Nat:=if k=1 then 48 else if k=2 then 49 else if k=3 then 50 else if k=4 then 51 else
 if k=5 then 52 else if k=6 then 53 else 54
theorem MI{w:ae}{r g:Nat}(hb:w.heap[r]?=some (.map (D7 g).toArray 7)){k:Int}(f:1<=k/\k<=7):(Instr.lookup 124 (.map (some r)) (.int .i64 k) false).run prog w=.ok (BC g (Wh k)) w:=by
 have d:∀ e,(Instr.checkKey e 10000 3 (.int .i64 k)).run prog w=.ok () w:=fun e=>by show (Instr.checkKey e (9999+1) 3 (.int .i64 k)).run prog w=_;unfold Instr.checkKey;simp[Ha underlying3]
 have a:∃ i,Instr.findNow (.int .i64) (.int .i64 k) (D7 g) 0=some (some (i,BC g (Wh k))):=by
  have b:k=1\/k=2\/k=3\/k=4\/k=5\/k=6\/k=7:=a_;rcases b with rfl|rfl|rfl|rfl|rfl|rfl|rfl
  exact⟨0,ai⟩;exact⟨1,ai⟩;exact⟨2,ai⟩;exact⟨3,ai⟩;exact⟨4,ai⟩;exact⟨5,ai⟩;exact⟨6,ai⟩
 obtain⟨i,a⟩:=a;have c:=MapKept.run_findKey (P:=prog) (w:=w) underlying3 a;unfold Instr.lookup;simp[Ha underlying124,MapKept.run_getObj_map hb,d,c]
namespace Pv
def pY(m:jm)(n:Nat):aj jk:=if m.kind=1 then aBb m n else if m.kind=2 then QV m n else if m.kind=3 then Wi m n else if m.kind=4 then Zv m n else if m.kind=5 then VO m n else if m.kind=6 then vO m n else rY m n
def oO(m:jm):aj jk:=(mO m).bind fun _=>(aj.f_ 3 16).bind fun n=>pY m n
def dA(m:jm):aj jk:=aj.catch eF (oO m)
theorem bCg{T:bu}{O:ut}(h:OB O):OB (mF T O):=by intro l r a;unfold mF at a;split at a;cases a;exact (by decide:(0:Nat)<=1000000);split at a;cases a;exact h l r a
def Gh(D:Dv):Prop:=∀ l X w b,D.pan l X w b->∃ T x a,b={ v:=.iface T x,recovered:=false }::a/\Zq a/\(T=Vx\/T=aJO)/\D.pan l X w ({ v:=.iface T x,recovered:=false }::{ v:=.iface T x,recovered:=true }::a)
def aZx(m:jm)(D:Dv)(X0:uy)(e:Ending)(w':ae):Prop:=
 (
  wu (go D.O (dA m) []).1/\e=.returned (.agg (p_ (go D.O (dA m) []).1))/\D.inv (go D.O (dA m) []).2 X0 w') \/
  ∃ a l,e=.panicked a/\l <+: (go D.O (dA m) []).2/\D.O l=none/\D.pan l X0 w' a
theorem aEg(a:mg)(w:ae)(g:Nat)(b:mg)(c:b.size=55)(h3:a.getD 3 dC=.pointer (some ⟨g,0,none⟩))(d:eu w g 40 b):(results Tryz.f45 a).run prog w=.ok (.agg b) w:=by have e:=kK d kM c;simp only[aBL] at h3;simp[results,results45,h3,asAddr,e]
def Vu(a:Nat):List Deferred:=[{ target:=.fn (.func 46) #[.pointer (some ⟨a,0,none⟩)],args:=#[] }]
theorem aAq{m:jm}{D:Dv}{X0 X:uy}{S:uy}{w0 w:ae}{a:List aBG}{l:je}{d:mg}{g:Nat}{y:mg}(z:Gh D)(p:∀ l X Y w c a,D.pan l X w a->gq X w c->(∀ b,Y b->X b)->D.pan l Y c a)
  (C:∀ b,X0 b->X b) (u:X g) (J:w0.heap.size<=g) (r:(jF uf D).pan l X w a) (hl:l <+: (go (mF uf D.O) (oO m) []).2) (N:mF uf D.O l=none) (P:eu w g 40 y) (G:y.size=55) (H:d.getD 3 dC=.pointer (some ⟨g,0,none⟩)) (hc:gq S w0 w) :
  Leaves prog Tryz.f45 d (fun e c=>gq S w0 c/\aZx m D X0 e c) (Vu g) (.panicking a) w:=by
 rcases r with⟨r,n,s⟩|⟨F,e,rfl,n,B,rfl⟩
 ·obtain⟨T,x,k,rfl,I,L,q⟩:=z _ _ _ _ r;have j:∀ c,c=w->Leaves prog Tryz.f45 d (fun e c=>gq S w0 c/\aZx m D X0 e c) [] (raised (.panicking ({ v:=.iface T x,recovered:=true }::k)) [{ v:=.iface T x,recovered:=false }]) c:=by rintro c rfl;exact⟨hc,.inr ⟨_,l,rfl,aUz _ _ _ _ _ _ (aEW) n hl,by rw[<-bGl uf D.O n s];exact N,p _ _ _ _ _ _ q (gq.refl _ _) C⟩⟩
  rcases L with rfl|rfl
  ·refine leaves_cons (f:=46) (args:=#[.pointer (some ⟨g,0,none⟩)]) d_ (by simp[go_sem]) ?_;refine (bLk _ _ _ _).mono ?_;rintro e A c ⟨rfl,rfl,h⟩;exact j c h
  ·refine leaves_cons (f:=46) (args:=#[.pointer (some ⟨g,0,none⟩)]) d_ (by simp[go_sem]) ?_;refine (Kv _ _ _ _).mono ?_;rintro e A c ⟨rfl,rfl,h⟩;exact j c h
 ·refine leaves_cons (f:=46) (args:=#[.pointer (some ⟨g,0,none⟩)]) d_ (by simp[go_sem]) ?_;refine (bLm g y e [] w G P).mono ?_;rintro U A c ⟨rfl,rfl,E,Q⟩;have o:settle (.panicking ({ v:=.iface uf (.agg #[.int .i64 e]),recovered:=true }::[]))=.returning:=aDg (fun _ h=>by cases h);show Leaves _ _ _ _ _ (settle (.panicking ({ v:=.iface uf (.agg #[.int .i64 e]),recovered:=true }::[]))) _;rw[o];have t:=bRf eF uf D.O (oO m) [] F e aEW n hl;refine⟨_,aEg d c g _ (eX (aDw e)) H Q,hc.trans' E (fun _ _ h=>h) (fun i B e=>a_),.inl ?_⟩;unfold dA;rw[t];exact⟨aDw e,rfl,D.grow _ _ _ _ _ B (E.mono fun i _ e=>e ▸ u) (fun b K=>.inl (C b K))⟩
def aj.qf{b:Type}:aj b->Prop
 |.ret _=>True|.ask a k=>a.kind = -1\/(FX a/\∀ r,aj.qf (k r))
def aj.yc{b:Type}(R:b->Prop):aj b->Prop
 |.ret a=>R a|.ask a k=>a.kind = -1\/∀ r,aj.yc R (k r)
theorem qf.bind{c d:Type}{R:c->Prop}{p:aj c}{f:c->aj d}(h:aj.qf p)(b:aj.yc R p)(g:∀ a,R a->aj.qf (f a)):aj.qf (p.bind f):=by
 induction p with
 |ret a=>exact g a b|ask a k e=>rcases h with h|⟨j,i⟩;exact .inl h;rcases b with b|b;exact .inl b;exact .inr ⟨j,fun r=>e r (i r) (b r)⟩
theorem yc.bind{b c:Type}{R:b->Prop}{S:c->Prop}{p:aj b}{f:b->aj c}(d:aj.yc R p)(g:∀ a,R a->aj.yc S (f a)):aj.yc S (p.bind f):=by
 induction p with
 |ret a=>exact g a d|ask a k e=>exact d.imp id fun h r=>e r (h r)
theorem yc.of{b:Type}{R:b->Prop}{p:aj b}(h:aj.All R p):aj.yc R p:=by
 induction p with
 |ret a=>exact h|ask a k c=>exact .inr fun r=>c r (h r)
theorem yc.AP{a:Type}(p:aj a):aj.yc (fun _=>True) p:=yc.of (aj.All.AP p)
theorem qf.bind'{b c:Type}{p:aj b}{f:b->aj c}(h:aj.qf p)(d:∀ a,aj.qf (f a)):aj.qf (p.bind f):=qf.bind h (yc.AP p) fun a _=>d a
theorem jM(b:Bool)(e:Int):aj.qf (iU b e):=by cases b;exact .inl rfl;trivial
theorem yC(b:Bool)(e:Int):aj.yc (fun _=>b=true) (iU b e):=by cases b;exact .inl rfl;exact rfl
theorem bRe{c:Type}(k:Int->c){p:aj c}(h:aj.qf p):aj.InW (aj.catch k p):=by
 induction p with
 |ret a=>trivial| ask a g d=>
  by_cases b:a.kind = -1
  ·have e:aj.catch k (.ask a g)=.ret (k a.ng):=by
    conv=>lhs;unfold aj.catch
    rw[mi b]
   rw[e];trivial
  rw[rV k g b];rcases h with h|⟨i,f⟩;exact absurd h b
  exact⟨i,fun r=>d r (f r)⟩
theorem aQu{b:Type}(k:Int->b){p:aj b}:∀ {n:Nat},p.Within n->(aj.catch k p).Within n:=by
 induction p with
 |ret a=>intro n _;cases n<;>trivial| ask a g d=>
  intro n h;cases n with
  |zero=>exact h.elim| succ n=>
   by_cases c:a.kind = -1
   ·have e:aj.catch k (.ask a g)=.ret (k a.ng):=by
     conv=>lhs;unfold aj.catch
     rw[mi c]
    rw[e];trivial
   rw[rV k g c];exact fun r=>d r (h r)
theorem gY{b:Type}(a:b)(n:Nat):(aj.ret a).Within n:=by cases n<;>trivial
theorem bIi(s:Int):(aj.rd s).Within 1:=fun _=>trivial
theorem aGf(s:Int)(b:jy):(aj.wr s b).Within 1:=fun _=>trivial
theorem fC(b:Bool)(e:Int):(iU b e).Within 1:=by cases b;exact fun _=>trivial;trivial
theorem aPf{a:Int}(hb:a=2\/a=3){b:Nat}(k:Nat)(c:3*b+k<48):aj.qf (aj.zu a (3*(b:Int)+k)):=.inr ⟨.inl ⟨.inl rfl,hb,⟨by show (0:Int)<=3*(b:Int)+k;omega,by show 3*(b:Int)+k<48;omega⟩,rfl⟩,fun _=>trivial⟩
theorem aHo{a:Int}(hb:a=2\/a=3){b:Nat}(k:Nat)(c:3*b+k<48):aj.qf (aj.yh a (3*(b:Int)+k)):=.inr ⟨.inl ⟨.inr rfl,hb,⟨by show (0:Int)<=3*(b:Int)+k;omega,by show 3*(b:Int)+k<48;omega⟩,rfl⟩,fun _=>trivial⟩
theorem bAy{a:Int}(hb:a=2\/a=3){b:Nat}(h:3*b+2<48):aj.qf (aj.read a b):=qf.bind' (aPf hb 0 a_) fun _=>qf.bind' (aPf hb 1 a_) fun _=>qf.bind' (aPf hb 2 a_) fun _=>trivial
theorem aLg{a:Int}(hb:a=2\/a=3){b:Nat}(h:3*b+2<48):aj.qf (aj.lh a b):=qf.bind' (aHo hb 0 a_) fun _=>qf.bind' (aHo hb 1 a_) fun _=>qf.bind' (aHo hb 2 a_) fun _=>trivial
theorem Ie{a:Int}(hb:a=2\/a=3):∀ (f b:Nat),b+f<=16->aj.qf (aj.up a f b)
 |0,_,_=>trivial|f+1,b,h=>qf.bind' (bAy hb a_) fun x=>by
  cases x with
  |true=>exact Ie hb f (b+1) a_|false=>trivial
theorem bCm{a:Int}(hb:a=2\/a=3):∀ (r b:Nat),b+r<=16->aj.qf (aj.down a r b)
 |0,_,_=>trivial|r+1,b,h=>qf.bind' (aLg hb a_) fun _=>bCm hb r (b+1) a_
theorem aAt{a:Int}(hb:a=2\/a=3):aj.qf (aj.f_ a 16):=qf.bind (Ie hb 16 0 a_) (yc.of (Fj a 16 0)) fun m h=>qf.bind' (bCm hb m 0 a_) fun _=>trivial
theorem aCc{a:Int}(hb:a=2\/a=3):∀ (f b:Nat),b+f<=16->aj.qf (aj.rq a f b)
 |0,_,_=>trivial|f+1,b,h=>qf.bind' (aLg hb a_) fun _=>qf.bind' (bAy hb a_) fun x=>by
  cases x with
  |true=>exact aCc hb f (b+1) a_|false=>trivial
theorem aXh{a:Int}(hb:a=2\/a=3)(t:Nat)(h:t<=16):aj.qf (aj.mr a 16 t):=qf.bind (aAt hb) (yc.of (aAv a 16)) fun m c=>by by_cases b:m<=t;exact aCc hb _ _ a_;rw[show t-m=0 from a_];trivial
theorem aLf{a:Int}(hb:a=2\/a=3)(t:Nat)(h:t<=16):aj.qf (lW a t):=qf.bind' (aXh hb t h) fun _=>qf.bind' (jM _ _) fun _=>trivial
theorem aCb(a:Int)(t:Nat)(h:t<=17):(lW a t).Within 199:=Within.mono (Within.bind (aJz a 16 t) fun _=>Within.bind (m:=0) (fC _ _) fun _=>gY _ _) a_
theorem aHz(f:Nat)(h:f<16):aj.qf (rZ f):=qf.bind' (aLf (.inr rfl) (f+1) a_) fun _=>qf.bind' (jM _ _) fun _=>trivial
theorem yD(f:Nat)(h:f<=16):(rZ f).Within 200:=Within.bind (aCb 3 (f+1) a_) fun _=>Within.bind (m:=0) (fC _ _) fun _=>gY _ _
theorem aCw:bD 3 0=48:=jb
theorem Oi:bD 3 1=56:=jb
theorem aGr{f:Int}(h0:0<=f/\f+7<64):∀ (n:Nat) (b:di),n<=8->aj.qf (aj.o9 f n b)
 |0,_,_=>trivial|n+1,b,h=>qf.bind' (.inr ⟨.inr ⟨.inl ⟨rfl,rfl⟩,rfl,by show (0:Int)<=f+((7-n:Nat):Int);omega,by show f+((7-n:Nat):Int)<64;omega⟩,fun _=>trivial⟩) fun s=>aGr h0 n _ a_
theorem xJ(f:Int):∀ (n:Nat) (b:di),(aj.o9 f n b).Within n
 |0,_=>trivial|n+1,b=>by refine Within.mono ?_ (Nat.le_of_eq (aBS 1 n));exact Within.bind (bIi _) fun s=>xJ f n _
theorem bQt:aj.qf (aj.cur 3):=qf.bind' (aGr (by rw[aCw];omega) 8 [] (dE _)) fun _=>qf.bind' (aGr (by rw[Oi];omega) 8 [] (dE _)) fun _=>trivial
theorem aMj:(aj.cur 3).Within 16:=Within.bind (m:=8) (xJ _ 8 []) fun _=>Within.bind (m:=0) (xJ _ 8 []) fun _=>gY _ _
theorem NP:aj.qf (aj.load 3):=by unfold aj.load;rw[ah (by rw[aCw];omega)];exact qf.bind' bQt fun _=>trivial
theorem aYe:(aj.load 3).Within 16:=by unfold aj.load;rw[ah (by rw[aCw];omega)];exact Within.bind (m:=0) aMj fun _=>gY _ _
theorem gI(b:di)(k:Nat):(lm b k).length=256:=by unfold lm;rw[gz,aCG,ww];omega
theorem bId{s:Int}{b:jy}(h0:0<=s/\s<64)(hb:b.size=256):aj.qf (aj.wr s b):=.inr ⟨.inr ⟨.inr ⟨rfl,hb⟩,rfl,h0⟩,fun _=>trivial⟩
theorem bHx{f:Int}(h0:0<=f/\f+7<64)(b:di):∀ (n i:Nat),i+n<=8->aj.qf (aj.Fh f b n i)
 |0,_,_=>trivial|n+1,i,h=>qf.bind' (bId ⟨a_,a_⟩ (by rw[bC,gI])) fun _=>bHx h0 b n (i+1) a_
theorem aKn(f:Int)(b:di):∀ (n i:Nat),(aj.Fh f b n i).Within n
 |0,_=>trivial|n+1,i=>by refine Within.mono ?_ (Nat.le_of_eq (aBS 1 n));exact Within.bind (aGf _ _) fun _=>aKn f b n (i+1)
theorem bMb{b:di}(h:b.length<=2040):nsec b<=8:=by unfold nsec;omega
theorem bPi(rec seq:Int){c:di}(h:c.length<=2000):(encS rec seq c).length<=2040:=by have b:=aO seq;have a:=aO (c.length:Int);rw[nU,pI];omega
theorem bIa{f:Int}(h0:0<=f/\f+7<64){b:di}(hb:b.length<=2040):aj.qf (aj.write f b):=qf.bind' (bId ⟨a_,a_⟩ (by rw[bC];exact aCG)) fun _=>qf.bind' (bHx h0 b _ _ (by have:=bMb hb;omega)) fun _=>bId ⟨a_,a_⟩ (by rw[bC,gI])
theorem aQl{f:Int}{b:di}(hb:b.length<=2040):(aj.write f b).Within 9:=Within.bind (m:=8) (aGf _ _) fun _=>Within.mono (Within.bind (m:=1) (aKn f b _ _) fun _=>aGf _ _) (by have:=bMb hb;omega)
theorem Oh{k:Nat}(h:k<=1):0<=bD 3 (1-(k:Int))/\bD 3 (1-(k:Int))+7<64:=by
 have:k=0\/k=1:=a_
 rcases this with rfl|rfl<;>decide
theorem Pm:aj.All (fun p:(Int×di)×Nat=>p.2<=1) (aj.cur 3):=by
 unfold aj.cur;refine aj.All.bind (R:=fun _=>True) (aj.All.AP _) (fun a _=>?_);refine aj.All.bind (R:=fun _=>True) (aj.All.AP _) (fun b _=>?_);show (yx (qh 3 a) (qh 3 b)).2<=1;unfold yx
 split<;>omega
theorem Ja(c:jy):aj.qf (aj.save 3 c):=by
 unfold aj.save;rw[ah (by rw[aCw];omega)];split
 trivial;rename_i b;refine qf.bind bQt (yc.of Pm) fun p a=>?_
 split
 trivial;exact qf.bind' (bIa (Oh a) (bPi _ _ (by rw[nz];exact Nat.le_of_not_lt b))) fun _=>trivial
theorem aWf(c:jy):(aj.save 3 c).Within 25:=by
 unfold aj.save;rw[ah (by rw[aCw];omega)];split
 trivial;rename_i a;refine Within.bind (m:=9) aMj fun p=>?_
 split
 trivial;exact Within.bind (m:=0) (aQl (bPi _ _ (by rw[nz];exact Nat.le_of_not_lt a))) fun _=>gY _ _
theorem aZd{root:di}{s:jy}(h:(qR root s).2=true):0<=(qR root s).1.level/\(qR root s).1.level<=16:=by
 unfold qR at h ⊢;cases a:wV root s.data.toList with
 |EM=>rw[a] at h;cases h|Es=>rw[a] at h;cases h|okR p=>rw[a] at h;unfold MX at h ⊢;dsimp only at h ⊢;unfold WC at h ⊢;split at h;cases h;rename_i b;rw[ah b];unfold WB at h ⊢;have:=of_decide_eq_true h;exact⟨this.2.2.2.1,this.2.2.2.2.1⟩
def aMI(r:jv):Prop:=0<=r.level/\r.level<=16
theorem aPb(m:jm):aj.qf (uw m):=qf.bind' NP fun _=>qf.bind' (jM _ _) fun _=>qf.bind' (jM _ _) fun _=>trivial
theorem bOe(m:jm):aj.yc aMI (uw m):=yc.bind (yc.AP _) fun _ _=>yc.bind (yc.AP _) fun _ _=>yc.bind (yC _ _) fun _ h=>aZd h
theorem aAz(m:jm):(uw m).Within 18:=Within.bind (m:=2) aYe fun _=>Within.bind (m:=1) (fC _ _) fun _=>Within.bind (m:=0) (fC _ _) fun _=>gY _ _
theorem aOb(m:jm)(r:jv):aj.qf (Ak m r):=qf.bind' (Ja _) fun _=>qf.bind' (jM _ _) fun _=>trivial
theorem aAp(m:jm)(r:jv):(Ak m r).Within 26:=Within.bind (m:=1) (aWf _) fun _=>Within.bind (m:=0) (fC _ _) fun _=>gY _ _
theorem aHi(f:Nat):aj.qf (oN f):=qf.bind' (jM _ _) fun _=>qf.bind' (jM _ _) fun _=>trivial
theorem aLc(f:Nat):aj.yc (fun _=>f<16) (oN f):=yc.bind (yc.AP _) fun _ _=>yc.bind (yC _ _) fun _ h=>by have:=of_decide_eq_true h;show f<16;omega
theorem xW(f:Nat):(oN f).Within 2:=Within.bind (m:=1) (fC _ _) fun _=>Within.bind (m:=0) (fC _ _) fun _=>gY _ _
theorem aJp(m:jm){f:Nat}(a:f<16)(p:jy):aj.qf (nV m f p):=qf.bind' (aOb _ _) fun _=>qf.bind' (aHz f a) fun _=>trivial
theorem aAf(m:jm){f:Nat}(a:f<=16)(p:jy):(nV m f p).Within 226:=Within.bind (m:=200) (aAp _ _) fun _=>Within.bind (m:=0) (yD f a) fun _=>gY _ _
theorem bNu(m:jm){f:Nat}(e:f<=16):aj.qf (pY m f):=by
 unfold pY;split;exact qf.bind (aHi f) (aLc f) fun _ h=>qf.bind' (aJp m h _) fun _=>trivial;split;refine qf.bind (aPb m) (bOe m) fun r b=>qf.bind (jM _ _) (yC _ _) fun _ h=>qf.bind' ?_ fun _=>?_;cases d:(((f % 2:Nat):Int)==0) with
 |false=>trivial| true=>
  refine aHz f ?_;have c:((f % 2:Nat):Int)=0:=by simpa using d
  have g:r.level=((f+1-f % 2:Nat):Int):=by
   cases a:(r.kind==1) with
   |false=>rw[a] at h;cases h|true=>rw[a] at h;simpa using h
  have:=b.2;omega
 exact qf.bind' (aAt (.inl rfl)) fun n=>qf.bind (jM _ _) (yC _ _) fun _ h=>qf.bind' (aLf (.inl rfl) (n+1) (by have:=of_decide_eq_true h;omega)) fun _=>trivial;split;exact qf.bind' (jM _ _) fun _=>qf.bind' (aOb _ _) fun _=>trivial;split;exact qf.bind' (aHi f) fun _=>trivial;split;refine qf.bind (jM _ _) (yC _ _) fun _ h=>qf.bind' (aPb m) fun _=>qf.bind' (jM _ _) fun _=>qf.bind' (aHz f ?_) fun _=>qf.bind' (aOb _ _) fun _=>trivial;have c:((f % 2:Nat):Int)=1:=by simpa using h
 omega;split
 exact qf.bind' (jM _ _) fun _=>qf.bind' (aPb m) fun _=>qf.bind' (jM _ _) fun _=>trivial;exact qf.bind (aHi f) (aLc f) fun _ h=>qf.bind' (jM _ _) fun _=>qf.bind' (jM _ _) fun _=>qf.bind' (jM _ _) fun _=>qf.bind' (aJp m h _) fun _=>trivial
theorem aTk(m:jm){f:Nat}(a:f<=16):(pY m f).Within 700:=by
 unfold pY;split;exact Within.mono (Within.bind (m:=226) (xW f) fun _=>Within.bind (m:=0) (aAf m a _) fun _=>gY _ _) a_;split;refine Within.mono (Within.bind (m:=1+(200+296)) (aAz m) fun r=>Within.bind (m:=200+296) (fC _ _) fun _=>Within.bind (m:=296) ?_ fun _=>?_) a_;cases (((f % 2:Nat):Int)==0) with
 |false=>trivial|true=>exact yD f a
 exact Within.QC (m:=200) (tH 2 16) (aDo 2 16) fun n b=>Within.bind (m:=199) (fC _ _) fun _=>Within.bind (m:=0) (aCb 2 (n+1) a_) fun _=>gY _ _;split;exact Within.mono (Within.bind (m:=26) (fC _ _) fun _=>Within.bind (m:=0) (aAp _ _) fun _=>gY _ _) a_;split;exact Within.mono (Within.bind (m:=0) (xW f) fun _=>gY _ _) a_;split;exact Within.mono (Within.bind (m:=18+(1+(200+26))) (fC _ _) fun _=>Within.bind (m:=1+(200+26)) (aAz m) fun _=>Within.bind (m:=200+26) (fC _ _) fun _=>Within.bind (m:=26) (yD f a) fun _=>Within.bind (m:=0) (aAp _ _) fun _=>gY _ _) a_;split;exact Within.mono (Within.bind (m:=19) (fC _ _) fun _=>Within.bind (m:=1) (aAz m) fun _=>Within.bind (m:=0) (fC _ _) fun _=>gY _ _) a_;exact Within.mono (Within.bind (m:=229) (xW f) fun _=>Within.bind (m:=228) (fC _ _) fun _=>Within.bind (m:=227) (fC _ _) fun _=>Within.bind (m:=226) (fC _ _) fun _=>Within.bind (m:=0) (aAf m a _) fun _=>gY _ _) a_
theorem bHb(m:jm):aj.qf (mO m):=by
 refine qf.bind' (jM _ _) fun _=>qf.bind' ?_ fun _=>trivial;unfold uZ
 repeat' split
 all_goals first
  |exact jM _ _
  |trivial
theorem aPx(m:jm):(mO m).Within 2:=by
 refine Within.bind (m:=1) (fC _ _) fun _=>Within.bind (n:=1) (m:=0) ?_ fun _=>gY _ _;unfold uZ
 repeat' split
 all_goals first
  |exact fC _ _
  |trivial
theorem aFn(m:jm):aj.InW (dA m):=bRe _ (qf.bind' (bHb m) fun _=>qf.bind (aAt (.inr rfl)) (yc.of (aDo 3 16)) fun _ a=>bNu m a)
theorem aEh(m:jm):(dA m).Within 900:=aQu _ (Within.mono (Within.bind (m:=96+700) (aPx m) fun _=>Within.QC (m:=700) (tH 3 16) (aDo 3 16) fun n a=>aTk m a) a_)
section
variable {P:ed} {I:jg}
def aPi(g:ji->Option (Prop×PV)):Spec:=fun _ e=>match e with
 | [d,.w (.one (.ow x b n a len))]=>.obj x fun k h j=>kL k (match bz b h,XN x dx,j with
  |true,true,.arr _ m c f=>(match bz n m,wC d,g [d,dm (.sl n len (fun i=>f (a+i)))] with
   |true,true,some (p,r)=>.need ((a+len<=c/\∀ i,i<len->(f (a+i)).all (bT false)=true)/\p) (.upd x (b+1) .dead (.ret r))|_,_,_=>.fail)
  |_,_,_=>.fail)
 |_=>.fail
theorem bGh {f:Nat} {g:ji->Option (Prop×PV)} (H:∀ args w,(aAE f args).run P w=.ok (.enter f args) w) (hg:∀ C p r,g C=some (p,r)->p->fQ P I f false C r):b_ P I f (aPi g):=by
 refine⟨H,fun A s a w O nm a5 vs F h hI hv d=>?_⟩;unfold aPi at d;split at d
 ·rename_i T x c n k len;obtain⟨gd,vr,ob,a0,d⟩:=d;have Y:=dZ d;clear d;obtain⟨Z,d⟩:=Y;obtain⟨hd,l,V⟩:=kX h a0 Z
  cases j:bz c vr<;>cases N:XN x dx<;>cases ob<;>simp only[j,N] at d<;>try exact d.elim
  rename_i e m U f';obtain rfl:=iy j
  cases L:bz n m<;>cases K:wC T<;>cases hq:g [T,dm (.sl n len (fun i=>f' (k+i)))]<;>simp only[L,K,hq] at d<;>try exact d.elim
  rename_i q;obtain⟨p,r⟩:=q;obtain rfl:=iy L;obtain⟨⟨⟨X,z⟩,hp⟩,_,hF⟩:=d
  match vs,hv with
  | [x0, x1],⟨k0,k1,_⟩=>
   cases k1 with
   | w k1=>cases k1 with
    | one k1=>cases k1 with
     | ow h1 a2=>
      obtain⟨A0,n0,c0,rfl,a4,rfl⟩:=a2.now l;obtain⟨C,G,a1⟩:=V;have E:=Reads.Ac G;have W:n0=U:=by obtain⟨_,A1,c1,e1,_⟩:=E;cases e1;rfl
      subst W;obtain⟨h',hL⟩:=h.upd (w':=w) x none (c+1) (.bool false) .dead (gq.refl _ _) (fun a3 a7 Q=>by rw[l] at Q;cases Q;exact .inl (Nat.lt_succ_self _)) (fun b j=>by cases j) (fun _ _=>trivial)
      have B:pq { w:=w,ok:=(aP A w (Ae O x (c+1) (.bool false))).ok,env:=fun _=>none } [T,dm (.sl n len (fun i=>f' (k+i)))] [x0,.slice (A0.map (·.add (k*n))) len (c0-k)]:=by
       refine⟨(bCs k0 K).le ⟨dE _,fun b j u=>⟨(hL.blk b j u).1,rfl⟩,fun _ _ _ h=>by cases h⟩,.w (.one (.sl (vs:=(C.drop (k*n)).take (len*n)) (oZ X E) (fun b j a6=>?_) (fun i hi=>?_))),trivial⟩
       have J:hblk (.slice A0 n0 c0)=some b:=by
        cases A0 with
        |none=>simp[aAC] at j|some ad=>simp only[Option.map_some,aAC,Option.some.injEq,sU] at j;simp[hblk,j]
       obtain⟨j1,j2⟩:=h.live x c _ b l J;refine⟨⟨.inr (j2.resolve_right (fun hs=>?_)),fun y vy hy Q D=>?_⟩,j1⟩;have:=aBO hs.2;have:=aBO N;omega;have o:Ae O x (c+1) (.bool false) y=some (vy,hy):=Q;by_cases t:y=x;subst t;rw[jA] at o;cases o;cases D;rw[lT t] at o;exact t (h.inj y x vy hy c _ b o l D J);rw[lG C hi];exact (kV (a1 _ a_) (z i hi)).le ⟨dE _,fun b j u=>⟨(hL.blk b j u).1,rfl⟩,fun _ _ _ h=>by cases h⟩
      refine (hg _ p r hq hp w _ _ (hI.mem w h.iw) B).mono ?_;rintro e w' ⟨S,rfl,hE,hr⟩;exact .inl ⟨r,[(x,none,c+1,.dead)],S,_,rfl,hF,h'.ext hE,hr.le (bKp (new:=false) h' hE)⟩
 exact d.elim
theorem YI:jq prog af (find ([]:List (Nat×Spec))):=⟨aY (fun p a=>by cases a),dB⟩
def Em:di:=Pi 256 0
def ED:Fl:=Pi 128 (strOf Em)
theorem IP(n:Nat):rowB n (fun _=>[PC.lit (.int .u8 0)])=Pi n 0:=by unfold rowB;rw[List.eq_replicate_iff];refine⟨d_,fun b a=>?_⟩;obtain⟨_,_,rfl⟩:=List.mem_map.1 a;rfl
def Y0:Nat->g_:=fun _=>[.lit (.string (strOf Em))]
def Vy(k:Nat):St:=⟨[(0,none,dw 128),(2,none,dm (.pt 0 0 0)),(4,none,dm (.pt 3001 0 0)),(5,none,dw k)],[(0,none,0,.box 63 [.lit (.slice none 0 0)]),(3001,none,0,.box 63 [.ow 7005 0 1 0 k]),(7005,none,0,.arr 9 1 k Y0)]⟩
theorem Ls:fQ prog af 64 true [dw 128] (.o7 [.agg (UX ED),.one (.lit (.int .i64 0))]):=by
 have M:=YI;have l:prog.types[9].bytes=16:=ai;have h:prog.types[5].bytes=1:=ai;have m:prog.types[9].size=1:=ai;refine bH func64 rfl rfl bJ (fun A s o q=>?_);refine aI ?_;refine aJ (fun c=>?_) (fun c=>?_);cases c;refine dS ?_;refine jG ?_;refine bK (s':=Vy 0) (fun a w f=>((f.C9 (x:=7005) (b:=3001) (e:=9) (n:=1) (l1:=[]) ay ay).reset (kT:=[0,2,4,5]) (kO:=[0,3001,7005]) ay d_).same ?_ ?_) ?_;exact iq;exact .cb (.cb (.cons (.arr rfl (fun i g=>a_)) .nil));refine aN ?_;refine dX 128 (fun k t=>t=Vy k) 0 rfl a_ (fun k t p r=>?_);subst p;refine aJ (fun c=>?_) (fun c=>?_);have d:k<128:=by have:=of_decide_eq_true c;omega
 refine gQ ?_;refine aN ?_;refine aS M q o (ay) ai ?_ ?_;simp[l,h];exact⟨fun _ _=>rfl,a_⟩;change kw _ _ _ _ _;refine fJ ?_;intro a w f;refine⟨k+1,_,a_,a_,rfl,(f.reset (kT:=[0,2,4,5]) (kO:=[0,3001,7005]) ay ?_).same ?_ ?_⟩;simp;exact yN (fun j _=>aFx rfl) (aFx rfl);exact .cr (.cr (.cr (.cons (by rw[bW k a_]) .nil)));exact .cb (.cb (.cons (.arr rfl (bDa (fun i _=>rfl) (by show[PC.lit (.string ⟨(rowB 256 (fun _=>[PC.lit (.int .u8 0)])).toArray⟩)]=Y0 k;rw[IP];rfl))) .nil));have d:k=128:=by have:=of_decide_eq_false c;omega
 subst d;refine dK ?_;change kw _ _ _ _ _;refine aI ?_;refine bZ (fun a w f=>⟨.inr rfl,_,?_,f⟩);refine qL (ay) d_ ay ?_;refine .o7 (.cons (.agg (.cons (.row rfl trivial a_ (fun i g=>?_) (fun i g=>rfl)) .nil)) (.cons (.one (.cold rfl)) .nil));rw[mf];unfold Y0 vz ED;rw[zG,aCT,au g];rfl
def I9:List Int:=Pi 48 0
def LZ(k:Nat):vk:=Pi k I9
def Hu:Nat->g_:=fun _=>[.lit (.int .i64 16)]
def z8F:Nat->g_:=fun _=>[.lit (.int .u8 0)]
def TS:Nat->g_:=fun _=>[.sl 1 48 z8F]
theorem bMa{i:Nat}(a:i<4):TS i=eY (LZ 4) i:=by
 unfold TS eY LZ;rw[zG,aCT,au a]
 show[PC.sl 1 48 z8F]=[PC.sl 1 48 (CQ I9)]
 have:z8F=CQ I9:=by
  funext j;unfold z8F CQ I9;rw[zG,aCT]
  split<;>rfl
 rw[this]
def Vz(k:Nat):St:=⟨[(0,none,dm (.sl 1 4 Hu)),(2,none,dm (.pt 0 0 0)),(4,none,dm (.pt 1000 0 0)),(5,none,dw k)],[(0,none,0,.box 60 [.lit (.slice none 0 0)]),(1000,none,0,.box 60 [.ow 9009 0 1 0 k]),(9009,none,0,.arr 74 1 k TS)]⟩
theorem M_:fQ prog af 63 false [dm (.sl 1 4 Hu)] (.o7 [.agg [.sl 1 4 (eY (LZ 4))],.one (.lit (.int .i64 0))]):=by
 have M:=YI;have l:prog.types[74].bytes=24:=ai;have j:prog.types[5].bytes=1:=ai;have o:prog.types[74].size=1:=ai;refine bH func63 rfl rfl bJ (fun A q p s=>?_);refine iC ?_;refine aJ (fun c=>?_) (fun c=>?_);cases c;refine gQ ?_;refine aI ?_;refine bK (s':=Vz 0) (fun a w f=>((f.C9 (x:=9009) (b:=1000) (e:=74) (n:=1) (l1:=[]) ay ay).reset (kT:=[0,2,4,5]) (kO:=[0,1000,9009]) ay d_).same ?_ ?_) ?_;exact iq;exact .cb (.cb (.cons (.arr rfl (fun i g=>a_)) .nil));refine aN ?_;refine dX 4 (fun k t=>t=Vz k) 0 rfl a_ (fun k t r u=>?_);subst r;refine aJ (fun c=>?_) (fun c=>?_);have d:k<4:=by have:=of_decide_eq_true c;omega
 refine gQ ?_;refine aN ?_;refine qG ?_ ?_;simp;omega;refine cO (fun c=>?_) (fun c=>?_);cases c;refine fZ ?_;refine aS M s p (ay) ai ?_ ?_;simp[l,j];have m:IntKind.wrap .i64 48=48:=jb;exact⟨a_,by rw[m];omega,a_⟩;change kw _ _ _ _ _;refine fJ ?_;intro a w f;refine⟨k+1,_,a_,a_,rfl,(f.x_ (R:=[(9009,TS)]) (kF:=[9007]) (kT:=[0,2,4,5]) (kO:=[0,1000,9009]) (.inr q) ay ?_).same ?_ ?_⟩;simp;refine⟨fun i g=>?_,fun i _=>?_⟩;by_cases h:i<k;unfold ru;rw[au h];rfl;obtain rfl:i=k:=a_;unfold ru;rw[ah h,Nat.sub_self];rfl;rfl;exact .cr (.cr (.cr (.cons (by rw[bW k a_]) .nil)));exact r_;have d:k=4:=by have:=of_decide_eq_false c;omega
 subst d;refine dK ?_;change kw _ _ _ _ _;refine aI ?_;refine bZ (fun a w f=>⟨.inr rfl,_,?_,f⟩);refine qL (ay) d_ ay ?_;refine .o7 (.cons (.agg (.cons (.row rfl trivial a_ (fun i g=>?_) (fun i g=>rfl)) .nil)) (.cons (.one (.cold rfl)) .nil));rw[mf];exact bMa g
def ET(root:di):jr:=⟨LZ 4,ED,root⟩
def Lu:ji->Option (Prop×PV)
 |[.w (.one (.lit (.int .i64 n)))]=>some (n=128,.o7 [.agg (UX ED),.one (.lit (.int .i64 0))])|_=>none
theorem bMf:b_ prog af 64 (aV true Lu):=by refine aU (aB func64 ai rfl) (fun c p r a b=>?_);unfold Lu at a;split at a;cases a;obtain rfl:_=(128:Int):=b;exact Ls;cases a
def MB:ji->Option (Prop×PV)
 |[.w (.one (.sl 1 n f))]=>some (n=4/\∀ i,i<4->f i=Hu i,.o7 [.agg [.sl 1 4 (eY (LZ 4))],.one (.lit (.int .i64 0))])|_=>none
theorem aRj{C:Ctx}{n:Nat}{f g:Nat->g_}{v:ag}(h:RV C (dm (.sl 1 n f)) v)(a:∀ i,i<n->f i=g i):RV C (dm (.sl 1 n g)) v:=by
 cases h with
 |w h=>cases h with
  |one h=>exact .w (.one (h.BH a))
theorem bMg:b_ prog af 63 (aV false MB):=by
 refine aU (aB func63 ai rfl) (fun f p r a e=>?_);unfold MB at a;split at a;cases a;obtain⟨rfl,h⟩:=e
 exact M_.args fun C b d=>by
  match b,d with
  |[x],⟨c,_⟩=>exact⟨aRj c h,trivial⟩
 cases a
def nwL:List (Nat×Spec):=[(63,aV false MB),(64,aV true Lu)]
theorem aHQ:∀ p∈nwL,b_ prog af p.1 p.2:=by intro p a;simp only[nwL,xn,aAe,or_false] at a;rcases a with rfl|rfl;exact bMg;exact bMf
theorem nwM:jq prog af (find nwL):=⟨aY aHQ,dB⟩
theorem Lp(root:di):fQ prog af 33 false [.w (.agg [.bs 16 root]),dm (.sl 1 4 Hu)] (.o7 [.agg (qi (ET root)),.one (.lit (.int .i64 0))]):=by have M:=nwM;refine bH func33 rfl rfl bJ (fun A e d f=>?_);refine iC ?_;refine aJ (fun b=>?_) (fun b=>?_);cases b;refine dS ?_;refine aI ?_;refine bZ (fun a w c=>⟨.inr rfl,_,?_,c⟩);refine qL (ay) d_ ay ?_;refine .o7 (.cons (.agg (.cons (.cold rfl) (.cons (.cold rfl) (.cons (.cold rfl) .nil)))) (.cons (.one (.cold rfl)) .nil))
def Lr:ji->Option (Prop×PV)
 |[.w (.agg [.bs 16 root]),.w (.one (.sl 1 n f))]=>some (n=4/\∀ i,i<4->f i=Hu i,.o7 [.agg (qi (ET root)),.one (.lit (.int .i64 0))])|_=>none
theorem bMe:b_ prog af 33 (aPi Lr):=by
 refine bGh (aB func33 ai rfl) (fun f p r a e=>?_);unfold Lr at a;split at a;cases a;obtain⟨rfl,h⟩:=e
 exact (Lp _).args fun C b d=>by
  match b,d with
  |[x,y],⟨c,k1,_⟩=>exact⟨c,aRj k1 h,trivial⟩
 cases a
variable {α β:Type}
def xu:aj α->jr->Except Int α×jr
 |.ret a,h=>(.ok a,h)|.ask c k,h=>if c.kind = -1 then (.error c.ng,h) else xu (k (fM h c yw).2.1) (fM h c yw).1
def nfB(f:α->jr->Except Int β×jr):Except Int α×jr->Except Int β×jr
 |(.ok a,h)=>f a h|(.error e,h)=>(.error e,h)
theorem aOj(p:aj α)(f:α->aj β):∀ h,xu (p.bind f) h=nfB (fun a h=>xu (f a) h) (xu p h):=by
 induction p with
 |ret a=>intro h;rfl|ask c k d=>intro h;show xu (.ask c fun r=>(k r).bind f) h=_;rw[xu,xu];by_cases b:c.kind = -1;rw[au b,au b];rfl;rw[ah b,ah b];exact d _ _
theorem dG{p:aj α}{f:α->aj β}{h b:jr}{a:α}(c:xu p h=(.ok a,b)):xu (p.bind f) h=xu (f a) b:=by rw[aOj,c];rfl
theorem aOi{p:aj α}{f:α->aj β}{h a:jr}{e:Int}(b:xu p h=(.error e,a)):xu (p.bind f) h=(.error e,a):=by rw[aOj,b];rfl
def Hr(k:Int->α):Except Int α->α
 |.ok a=>a|.error e=>k e
theorem aYv(k:Int->α)(p:aj α):∀ h i,∃ n,fE [] (aj.catch k p) h i=(some (Hr k (xu p h).1),(xu p h).2,n):=by
 induction p with
 |ret a=>intro h i;exact⟨i,rfl⟩|ask c g d=>intro h i;rw[xu];by_cases b:c.kind = -1;rw[au b];unfold aj.catch;rw[mi b];exact⟨i,rfl⟩;rw[ah b];rw[rV k g b,fE];have e:eG [] i=yw:=rfl;rw[e,ah jb];exact d _ _ _
theorem dY(e:Int)(h:jr):xu (iU true e) h=(.ok (),h):=rfl
theorem aAc(e:Int)(h:jr):xu (iU false e) h=(.error e,h):=rfl
end
def cl(n:Nat):List Int:=Pi (3*n) 2++Pi (48-3*n) 0
def AY(c2 a:List Int)(f:Fl)(r:di):jr:=⟨[I9,I9,c2,a],f,r⟩
theorem ZT:I9=cl 0:=rfl
end Pv
section
section
variable {f:Fl} {u:VV}
theorem Om(h:Fine f u){g:Fl}(c:∀ t,(t<ku f u\/ku f u+8<=t)->sec g t=sec f t){rec k:Int}(h0:0<=rec)(h1:rec<=3)(h2:0<=k)(h3:k<=1)(a:rec≠u.jo\/k=((lw f u.jo).2:Int)):Da g rec k=Da f rec k:=by
 have j:=h.first;have i:(lw f u.jo).2=0\/(lw f u.jo).2=1:=bCr _ _;unfold Da;rw[aJr (f:=g) (g:=f) (s:=bD rec k) (fun t e d=>c t ?_)];rw[yI h0 h1 h2 h3] at e d;rcases a with a|rfl;omega
 by_cases b:rec=u.jo;subst b;omega;omega
structure Ey(f:Fl)(u:VV)(x:Fl×EE×Bool×je):Prop where
 sz:Sz x.1
 far:∀ rec k:Int,0<=rec->rec<=3->0<=k->k<=1->(rec≠u.jo\/k=((lw f u.jo).2:Int))->Da x.1 rec k=Da f rec k
 done:x.2.2.1=true->x.2.1=⟨u.content,(lw f u.jo).1.1+1,0⟩/\Da x.1 u.jo (1-((lw f u.jo).2:Int))=((lw f u.jo).1.1+1,u.content.data.toList)
 left:x.2.2.1=false->x.2.1=Fg/\Wu f u (Da x.1 u.jo (1-((lw f u.jo).2:Int)))
theorem Xi(h:Fine f u):Ey f u (EJ f u):=by have s:=h.len;have z:=h.nsec;by_cases w:u.cut<0\/17+(nsec (jd f u):Int)<=u.cut;have d:(fF (ku f u) (jd f u))[nsec (jd f u)]?=some ⟨4,0,ku f u,strOf (lm (jd f u) 0)⟩:=vH _ _ s.1;have b:=aQm h (dE _) _ d (-1);have t:=aQv h (cut := -1) (.inl jb);rw[<-Ia h] at b t;rw[aHm h w];exact⟨b.1,fun i k q p o n c=>Om h b.2 q p o n c,fun _=>⟨rfl,t⟩,(fun g=>by cases g)⟩;by_cases x:u.cut<16;rw[Ko h a_ x];exact⟨h.sz,fun _ _ _ _ _ _ _=>rfl,(fun g=>by cases g),fun _=>⟨rfl,.old rfl⟩⟩;obtain⟨j,y⟩:∃ j:Nat,u.cut=16+(j:Int):=⟨(u.cut-16).toNat,a_⟩;have e:j<=nsec (jd f u):=a_;have r:=kZ (ku f u) (jd f u) s.1;obtain⟨a,m⟩:∃ a,(fF (ku f u) (jd f u))[j]?=some a:=⟨_,zH a_⟩;have b:=aQm h e a m (max 0 u.bytes);have l:=bDh h e a m (cut:=max 0 u.bytes) a_;rw[bLf h y e a m];exact⟨b.1,fun i k q p o n c=>Om h b.2 q p o n c,(fun g=>by cases g),fun _=>⟨rfl,l⟩⟩
theorem Ey.same{x:Fl×EE×Bool×je}(h:Fine f u)(p:Ey f u x):Da x.1 u.jo ((lw f u.jo).2:Int)=(lw f u.jo).1:=by have a:(lw f u.jo).2=0\/(lw f u.jo).2=1:=bCr _ _;rw[p.far u.jo _ h.r0 h.r3 a_ a_ (.inr rfl)];exact (aUq f u.jo).1
theorem Ey.whole{x:Fl×EE×Bool×je}(h:Fine f u)(p:Ey f u x)(a:x.2.2.1=true):(lw x.1 u.jo).1=((lw f u.jo).1.1+1,u.content.data.toList):=Ux (p.same h) (p.done a).2
end
end
namespace Pv
def Zf(n:Nat)(c:Acc):Prop:=(c.kind=3/\(c.bytes=aC/\c.ng=0)/\0<=c.cell/\c.cell<n)\/(c.kind=4/\c.ng=0/\(0<=c.cell/\c.cell<n)/\c.bytes.size=256)
theorem PN{b:vk}{f:Fl}{r:di}{c:Acc}(h:Zf f.length c):fM ⟨b,f,r⟩ c yw=(⟨b,kP (-1) c f,r⟩,Df c f,0):=by rcases h with⟨a,e,d⟩|⟨a,e,d,g⟩;rw[aPt a e d];unfold kP Df;rw[au a,au a];rfl;rw[aPs a e d g];unfold kP Df;rw[ah a_,ah a_];rfl
theorem aRf(cut:Int)(c:Acc)(f:Fl):(kP cut c f).length=f.length:=by
 unfold kP;split
 rfl;exact aCs _ _ _ _
theorem aSu{e:Type}(p:aj e):∀ (b:vk) (f:Fl) (r:di),(∀ c∈ql p f,Zf f.length c)->xu p ⟨b,f,r⟩=(.ok (BB p f),⟨b,AV (ql p f) f,r⟩):=by
 induction p with
 |ret a=>intro b f r _;rfl|ask c k g=>
  intro b f r h;have d:Zf f.length c:=h c aAw
  have j:c.kind ≠ -1:=by rcases d with⟨l,_⟩|⟨l,_⟩<;>omega
  rw[xu,ah j,PN d];refine (g (Df c f) b (kP (-1) c f) r (fun x i=>?_)).trans rfl;rw[aRf];exact h x (aAD _ i)
theorem aHj{s:Int}(h0:0<=s)(h1:s+8<=128):∀ n,n<=8->∀ c∈rF s n,Zf 128 c
 |0,_,c,h=>by cases h|n+1,a,c,h=>by rcases List.mem_cons.1 h with rfl|h;exact .inl ⟨rfl,⟨rfl,rfl⟩,by show 0<=s+((7-n:Nat):Int);omega,by show s+((7-n:Nat):Int)<128;omega⟩;exact aHj h0 h1 n a_ c h
theorem bHz{s:Int}{b:di}(h0:0<=s):∀ n i,s+((i+n:Nat):Int)<=128->∀ c∈Bl s b n i,Zf 128 c
 |0,_,_,c,h=>by cases h|n+1,i,a,c,h=>by rcases List.mem_cons.1 h with rfl|h;exact .inr ⟨rfl,rfl,⟨by show 0<=s+(i:Int);omega,by show s+(i:Int)<128;omega⟩,by rw[bC,gI]⟩;exact bHz h0 n (i+1) a_ c h
theorem bIb{s:Int}{b:di}(h0:0<=s)(h1:s+8<=128)(hb:nsec b<=8)(a:1<=nsec b):∀ c∈fF s b,Zf 128 c:=by
 intro c h;rcases List.mem_cons.1 h with rfl|h;exact .inr ⟨rfl,rfl,⟨h0,by show s<128;omega⟩,by rw[bC,oQ]⟩;rcases List.mem_append.1 h with h|h;exact bHz h0 (nsec b-1) 1 a_ c h
 obtain rfl:=List.mem_singleton.1 h;exact .inr ⟨rfl,rfl,⟨h0,by show s<128;omega⟩,by rw[bC,gI]⟩
theorem bKy:∀ c∈Go.Proofs.YtndpjopifkbgiaaGreatDoor.DL 3,Zf 128 c:=by intro c h;rcases List.mem_append.1 h with h|h;exact aHj jb jb 8 (dE _) c h;exact aHj jb jb 8 (dE _) c h
structure DJ(f:Fl)(s:Int)(c:di):Prop where
 sz:Sz f
 cur:(lw f 3).1=(s,c)
theorem bOs:Sz ED:=⟨by unfold ED;rw[aCG],fun x a=>by
 rw[List.eq_of_mem_replicate a,bC];unfold Em
 rw[aCG]⟩
theorem UY{t:Int}(h0:0<=t)(h1:t<128):(sec ED t)[0]?=some 0:=by
 obtain⟨n,rfl⟩:=Int.eq_ofNat_of_zero_le h0;have a:n<128:=a_;have e:ED.getD n aC=strOf Em:=by unfold ED;rw[zG,aCT,au a,Option.getD_some]
 unfold sec;rw[au ⟨h0,by rw[bOs.1];exact h1⟩,VM,e,bY];unfold Em;rw[aCT,au a_]
theorem aFk:DJ ED 0 []:=by
 refine⟨bOs,?_⟩;have h:∀ k:Int,0<=k->k<=1->Da ED 3 k=(0,[]):=fun k b a=>by have e:=yI (rec:=3) (k:=k) a_ a_ b a;exact aMv bOs a_ a_ (UY a_ a_) 3
 unfold lw;rw[h 0 a_ a_,h 1 a_ a_];rfl
theorem NM{f:Fl}{s:Int}{c:di}(h:DJ f s c)(b:vk)(r:di):xu (aj.load 3) ⟨b,f,r⟩=(.ok (vY (s,c)),⟨b,f,r⟩):=by obtain⟨d,e⟩:=YM (rec:=3) (f:=f) a_ a_;have a:=(Qp 3 f).2.2;rw[(Qp 3 f).1] at a;rw[aSu _ b f r (by rw[d,h.sz.1];exact bKy),d,e,a,h.cur]
def I7(f:Fl)(x:jy):Fl:=(EJ f ⟨3,x,-1,0⟩).1
theorem JZ{f:Fl}{s:Int}{c:di}(h:DJ f s c){x:jy}(j:x.size<=2000)(hs:s+1<=1099511627776)(b:vk)(r:di):xu (aj.save 3 x) ⟨b,f,r⟩=(.ok ⟨x,s+1,0⟩,⟨b,I7 f x,r⟩):=by
 have a:(lw f 3).1.1+1<=1099511627776:=by rw[h.cur];exact hs
 have e:Fine f ⟨3,x,-1,0⟩:=⟨h.sz,(by show (0:Int)<=3;decide),(by show (3:Int)<=3;decide),j,a⟩;obtain⟨i,m⟩:=bAm (rec:=3) (c:=x) (f:=f) a_ a_ j a;have g:=(Qp 3 f).2.2;rw[(Qp 3 f).1] at g;have n:=aHm e (.inl (by show (-1:Int)<0;decide));have o:=e.first;have k:=e.nsec;have l:(lw f 3).1.1=s:=by rw[h.cur]
 rw[aSu _ b f r,i,m,aIu,g,l];unfold I7;rw[n];dsimp only;unfold ku jd;rw[show (lw f (VV.jo ⟨3,x,-1,0⟩)).1.1=s from l];rw[i,h.sz.1];intro c d;rcases List.mem_append.1 d with d|d;exact bKy c d;exact bIb (s:=ku f ⟨3,x,-1,0⟩) (b:=jd f ⟨3,x,-1,0⟩) o.1 a_ k.2 k.1 c d
theorem Ri{f:Fl}{s:Int}{c:di}(h:DJ f s c){x:jy}(d:x.size<=2000)(hs:s+1<=1099511627776):DJ (I7 f x) (s+1) x.data.toList:=by
 have a:(lw f 3).1.1+1<=1099511627776:=by rw[h.cur];exact hs
 have b:Fine f ⟨3,x,-1,0⟩:=⟨h.sz,(by show (0:Int)<=3;decide),(by show (3:Int)<=3;decide),d,a⟩;have p:=Xi b;have g:(EJ f ⟨3,x,-1,0⟩).2.2.1=true:=by rw[aHm b (.inl (by show (-1:Int)<0;decide))]
 have e:=p.whole b g;refine⟨p.sz,e.trans ?_⟩;show ((lw f 3).1.1+1,_)=_;rw[h.cur]
structure Dz(r:jv):Prop where
 kind:r.kind=1\/r.kind=2
 l0:0<=r.level
 l1:r.level<=16
 ol:gy r.ol
 ot:r.ot.length=16
 p:r.payload.size<=1000
theorem jX{c:Type}(a b:List c){n:Nat}(h:n=a.length):(a++b).drop n=b:=by rw[h];exact List.drop_left
theorem bLu(root:di)(r:jv)(g:Dz r):wV root (mG root r)=.okR (jZ r):=by
 have e:=g.l0;have d:=g.l1;unfold mG;obtain⟨C,c⟩:=jc (dM (kR root) r.level (jZ r));obtain⟨T,a⟩:=jc (tq (kR root) r.level C);have f:T.length=16:=by rw[<-a];exact gW _ _ _
 have b:C.length<4611686018427387904:=by rw[<-c,cZ];unfold jZ bI;have t:=aO r.kind;have s:=aO r.level;have q:=aO r.ol;have o:=aO (r.payload.data.toList.length:Int);have m:r.payload.data.toList.length=r.payload.size:=nz;have l:=g.p;have k:=g.ot;simp only[gz];omega
 rw[c,a];have j:=jE (n:=r.level) (bI C++T) a_ a_;have i:=mD C T b;unfold wV;rw[j];dsimp only;rw[ah jb,jX _ _ rfl,i];dsimp only;rw[ah (by simp only[gz];omega)];have h:(dn r.level++(bI C++T)).drop ((dn r.level).length+(bI C).length)=T:=by rw[<-GM];exact jX _ _ (by rw[gz])
 rw[h];unfold bLt;rw[au a,<-c,zQ]
theorem bQb(root:di)(r:jv)(g:Dz r):qR root (gG root r)=(r,true):=by
 have b:=g.l0;have a:=g.l1;have d:=g.kind;unfold qR;rw[show (gG root r).data.toList=mG root r from bY _,bLu root r g];unfold MX jZ;dsimp only;have h:=jE (n:=r.kind) (dn r.level++(r.ot++(dn r.ol++bI r.payload.data.toList))) a_ a_;have f:=jE (n:=r.level) (r.ot++(dn r.ol++bI r.payload.data.toList)) a_ a_;have e:=jE (n:=r.ol) (bI r.payload.data.toList) g.ol.1 g.ol.2
 have c:=mD r.payload.data.toList [] (by
  have i:r.payload.data.toList.length=r.payload.size:=nz;have:=g.p
  omega)
 rw[AC] at c;rw[h];dsimp only;rw[jX _ _ rfl,f];dsimp only;rw[jX _ _ rfl];unfold WC
 rw[ah (by
  have:=g.ot;rw[gz];simp
  omega),jX _ _ g.ot.symm,e]
 dsimp only;rw[jX _ _ rfl,c];dsimp only;rw[show (r.ot++(dn r.ol++bI r.payload.data.toList)).take 16=r.ot from by rw[<-g.ot];exact List.take_left,kG];unfold WB;rw[mi];exact⟨rfl,rfl,d,b,a,rfl⟩
theorem aJb(root:di)(r:jv)(g:Dz r):(gG root r).size<=2000:=by unfold gG;rw[bC];unfold mG bI;have j:=aO r.kind;have i:=aO r.level;have h:=aO r.ol;have f:=aO (r.payload.data.toList.length:Int);have e:r.payload.data.toList.length=r.payload.size:=nz;have d:=g.p;have c:=g.ot;have b:=aO ((dM (kR root) r.level (jZ r)).length:Int);simp only[gz,cZ,gW];unfold jZ bI;simp only[gz];have a:=aO ((dn r.kind++(dn r.level++(r.ot++(dn r.ol++(dn (r.payload.data.toList.length:Int)++r.payload.data.toList))))).length:Int);simp only[gz] at a;omega
structure E_(f:Fl)(s:Int)(root:di)(r:jv):Prop where
 jo:DJ f s (mG root r)
 s1:1<=s
 ok:Dz r
theorem UO{m:jm}{f:Fl}{s:Int}{r:jv}(h:E_ f s m.root r)(b:vk)(q:di):xu (uw m) ⟨b,f,q⟩=(.ok r,⟨b,f,q⟩):=by
 have a:=h.s1;have e:vY (s,mG m.root r)=⟨gG m.root r,s,0⟩:=by unfold vY;rw[ah (by show ¬s=0;omega)];rfl
 unfold uw;rw[dG ((NM h.jo b q).trans (by rw[e]))];dsimp only;rw[show ((0:Int)==0)=true from rfl,dG (dY _ _),bQb m.root r h.ok];exact dG (dY _ _)
theorem SV{m:jm}{f:Fl}{s:Int}{c:di}{r:jv}(h:DJ f s c)(hs:s+1<=1099511627776)(g:Dz r)(b:vk)(q:di):xu (Ak m r) ⟨b,f,q⟩=(.ok (),⟨b,I7 f (gG m.root r),q⟩):=by unfold Ak;rw[dG (JZ h (aJb m.root r g) hs b q)];dsimp only;rw[show ((0:Int)==0)=true from rfl,dG (dY _ _)];rfl
theorem aXl{root:di}{f:Fl}{s:Int}{c:di}{r:jv}(h:DJ f s c)(h0:0<=s)(hs:s+1<=1099511627776)(g:Dz r):E_ (I7 f (gG root r)) (s+1) root r:=by have:=Ri h (aJb root r g) hs;rw[show (gG root r).data.toList=mG root r from bY _] at this;exact⟨this,a_,g⟩
theorem YP{n:Nat}(h:n<=16):n=0\/n=1\/n=2\/n=3\/n=4\/n=5\/n=6\/n=7\/n=8\/n=9\/n=10\/n=11\/n=12\/n=13\/n=14\/n=15\/n=16:=a_
theorem aSD{n:Nat}(hn:n<=16)(c2:List Int)(f:Fl)(r:di):xu (aj.f_ 3 16) (AY c2 (cl n) f r)=(.ok n,AY c2 (cl n) f r):=by
 rcases YP hn with rfl|rfl|rfl|rfl|rfl|rfl|rfl|rfl|rfl|rfl|rfl|rfl|rfl|rfl|rfl|rfl|rfl
 all_goals kernel_rfl
theorem aSE{n:Nat}(hn:n<=16)(a:List Int)(f:Fl)(r:di):xu (aj.f_ 2 16) (AY (cl n) a f r)=(.ok n,AY (cl n) a f r):=by
 rcases YP hn with rfl|rfl|rfl|rfl|rfl|rfl|rfl|rfl|rfl|rfl|rfl|rfl|rfl|rfl|rfl|rfl|rfl
 all_goals kernel_rfl
theorem aIC{n:Nat}(h:n<16):n=0\/n=1\/n=2\/n=3\/n=4\/n=5\/n=6\/n=7\/n=8\/n=9\/n=10\/n=11\/n=12\/n=13\/n=14\/n=15:=a_
theorem aRL{n:Nat}(hn:n<16)(c2:List Int)(f:Fl)(r:di):xu (aj.mr 3 16 (n+1)) (AY c2 (cl n) f r)=(.ok (n+1,0),AY c2 (cl (n+1)) f r):=by
 rcases aIC hn with rfl|rfl|rfl|rfl|rfl|rfl|rfl|rfl|rfl|rfl|rfl|rfl|rfl|rfl|rfl|rfl
 all_goals kernel_rfl
theorem aRM{n:Nat}(hn:n<16)(a:List Int)(f:Fl)(r:di):xu (aj.mr 2 16 (n+1)) (AY (cl n) a f r)=(.ok (n+1,0),AY (cl (n+1)) a f r):=by
 rcases aIC hn with rfl|rfl|rfl|rfl|rfl|rfl|rfl|rfl|rfl|rfl|rfl|rfl|rfl|rfl|rfl|rfl
 all_goals kernel_rfl
theorem NI{n:Nat}(hn:n<=16):lZ (cl n) false=n:=by
 rcases YP hn with rfl|rfl|rfl|rfl|rfl|rfl|rfl|rfl|rfl|rfl|rfl|rfl|rfl|rfl|rfl|rfl|rfl
 all_goals kernel_rfl
theorem aPa{m:jm}{f:Fl}{s:Int}{r:jv}(h:E_ f s m.root r)(c2 a:List Int)(q:di):xu (uw m) (AY c2 a f q)=(.ok r,AY c2 a f q):=UO h _ q
theorem bLg{m:jm}{f:Fl}{s:Int}{c:di}{r:jv}(h:DJ f s c)(hs:s+1<=1099511627776)(g:Dz r)(c2 a:List Int)(q:di):xu (Ak m r) (AY c2 a f q)=(.ok (),AY c2 a (I7 f (gG m.root r)) q):=SV h hs g _ q
theorem SN{n:Nat}(hn:n<16)(c2:List Int)(f:Fl)(r:di):xu (lW 3 (n+1)) (AY c2 (cl n) f r)=(.ok (n+1),AY c2 (cl (n+1)) f r):=by unfold lW;rw[dG (aRL hn c2 f r)];rfl
theorem SQ{n:Nat}(hn:n<16)(a:List Int)(f:Fl)(r:di):xu (lW 2 (n+1)) (AY (cl n) a f r)=(.ok (n+1),AY (cl (n+1)) a f r):=by unfold lW;rw[dG (aRM hn a f r)];rfl
theorem bBi{n:Nat}(hn:n<16)(c2:List Int)(f:Fl)(r:di):xu (rZ n) (AY c2 (cl n) f r)=(.ok (),AY c2 (cl (n+1)) f r):=by unfold rZ;rw[dG (SN hn c2 f r),show (((n+1:Nat):Int)==((n+1:Nat):Int))=true from beq_self_eq_true _,dG (dY _ _)];rfl
theorem aNw{n:Nat}(hn:n<16)(a:n % 2=0)(h:jr):xu (oN n) h=(.ok (),h):=by unfold oN;rw[a,show (((0:Nat):Int)==0)=true from rfl,dG (dY _ _),mi a_,dG (dY _ _)];rfl
theorem KP{n:Nat}(a:n % 2=1)(h:jr):xu (oN n) h=(.error 21,h):=by unfold oN;rw[a,show (((1:Nat):Int)==0)=false from rfl];exact aOi (aAc _ _)
theorem aOp{n:Nat}(hn:n<16){p:jy}(a:p.size<=1000):Dz (sF n p):=⟨.inl rfl,by show (0:Int)<=((n+1:Nat):Int);omega,by show ((n+1:Nat):Int)<=16;omega,by show gy 0;unfold gy;omega,rfl,a⟩
theorem aMo{m:jm}{n:Nat}{f:Fl}{s:Int}{c:di}{p:jy}(h:DJ f s c)(hs:s+1<=1099511627776)(hn:n<16)(a:p.size<=1000)(c2:List Int)(q:di) :
  xu (nV m n p) (AY c2 (cl n) f q)=(.ok { ni with payload:=p },AY c2 (cl (n+1)) (I7 f (gG m.root (sF n p))) q):=by
 unfold nV;rw[dG (bLg h hs (aOp hn a) _ _ q)];rw[dG (bBi hn c2 _ q)];rfl
theorem aCz{m:jm}(a:1<=m.kind/\m.kind<=7)(h:jr):xu (mO m) h=nfB (fun _ h=>(.ok (),h)) (xu (uZ m) h):=by unfold mO;rw[mi (show m.kind>=1 from a.1),mi a.2,show (bif true then true else false)=true from rfl,dG (dY _ _),aOj];rfl
theorem wK{m:jm}(a:m.kind=2\/m.kind=4\/m.kind=6)(h:jr):xu (mO m) h=(.ok (),h):=by rw[aCz a_];unfold uZ;rw[ah a_,ah a_,ah a_];rfl
theorem bRc{m:jm}(d:m.kind=1\/m.kind=3)(a:m.payload.size<=1000)(h:jr):xu (mO m) h=(.ok (),h):=by rw[aCz a_];unfold uZ;rw[au a_,mi a_];rfl
theorem bGz{m:jm}(a:m.kind=5)(h0:0<=m.ol)(h1:m.ol<16)(h2:m.ol.tmod 2=0)(h3:(m.ot==m.id)=false)(h:jr):xu (mO m) h=(.ok (),h):=by rw[aCz a_];unfold uZ;rw[ah a_,au a,mi (show m.ol>=0 from h0),mi h1,h2,h3];rfl
theorem aUx{m:jm}(d:m.kind=7)(a:(m.xt==m.id)=true)(h:jr):xu (mO m) h=(.ok (),h):=by rw[aCz a_];unfold uZ;rw[ah a_,ah a_,au d,a];rfl
theorem sO{m:jm}{n:Nat}{c2:List Int}{f:Fl}{q:di}(hc:∀ h,xu (mO m) h=(.ok (),h))(hn:n<=16):xu (oO m) (AY c2 (cl n) f q)=xu (pY m n) (AY c2 (cl n) f q):=by unfold oO;rw[dG (hc _),dG (aSD hn c2 f q)]
section
variable {m:jm} {n n2:Nat} {f:Fl} {s:Int} {c c2:List Int} {b:di} {r:jv} {q:di}
theorem bGt(d:m.kind=1)(a:m.payload.size<=1000)(h:DJ f s b)(hs:s+1<=1099511627776)(hn:n<16)(e:n % 2=0) :
  xu (oO m) (AY c2 (cl n) f q)=(.ok { ni with payload:=m.payload },AY c2 (cl (n+1)) (I7 f (gG m.root (sF n m.payload))) q):=by
 rw[sO (bRc (.inl d) a) a_];unfold pY;rw[au d];unfold aBb;rw[dG (aNw hn e _),dG (aMo h hs hn a c2 q)];rfl
theorem bLy(a:m.kind=4)(hn:n<16)(d:n % 2=0):xu (oO m) (AY c2 (cl n) f q)=(.ok { ni with ot:=m.id,ol:=n },AY c2 (cl n) f q):=by rw[sO (wK (.inr (.inl a))) a_];unfold pY;rw[ah a_,ah a_,ah a_,au a];unfold Zv;rw[dG (aNw hn d _)];rfl
theorem bAk(hn:n<16)(d:gy m.ol)(a:m.ot.length=16)(g:Dz r):Dz (Fe m n r):=⟨.inr rfl,by show (0:Int)<=((n+1:Nat):Int);omega,by show ((n+1:Nat):Int)<=16;omega,d,a,g.p⟩
theorem JQ(a:m.kind=5)(h0:0<=m.ol)(h1:m.ol<16)(h2:m.ol.tmod 2=0)(h3:(m.ot==m.id)=false)(d:m.ot.length=16)(h:E_ f s m.root r)(hs:s+1<=1099511627776)(hn:n<16)(e:n % 2=1)(hr:r.kind=1)(hl:r.level=n) :
  xu (oO m) (AY c2 (cl n) f q)=(.ok (iD m.link (Fe m n r)),AY c2 (cl (n+1)) (I7 f (gG m.root (Fe m n r))) q):=by
 rw[sO (bGz a h0 h1 h2 h3) a_];unfold pY;rw[ah a_,ah a_,ah a_,ah a_,au a];unfold VO;rw[e,show (((1:Nat):Int)==1)=true from rfl,dG (dY _ _),dG (aPa h _ _ q),hr,hl,show ((1:Int)==1)=true from rfl,show ((n:Int)==(n:Int))=true from beq_self_eq_true _,show (bif true then true else false)=true from rfl,dG (dY _ _)];rw[dG (bBi hn c2 f q)];rw[dG (bLg h.jo hs (bAk hn (by unfold gy;omega) d h.ok) _ _ q)];rfl
theorem bEl(a:m.kind=6)(h:E_ f s m.root r)(hn:n<=16)(d:n % 2=0)(hr:r.kind=2)(hl:r.level=n):xu (oO m) (AY c2 (cl n) f q)=(.ok (iD m.link r),AY c2 (cl n) f q):=by rw[sO (wK (.inr (.inr a))) hn];unfold pY;rw[ah a_,ah a_,ah a_,ah a_,ah a_,au a];unfold vO;rw[d,show (((0:Nat):Int)==0)=true from rfl,dG (dY _ _),dG (aPa h _ _ q),hr,hl,show ((2:Int)==2)=true from rfl,show ((n:Int)==(n:Int))=true from beq_self_eq_true _,show (bif true then true else false)=true from rfl,dG (dY _ _)];rfl
structure Tra(m:jm)(p:jy):Prop where
 xt:(m.xt==m.id)=true
 o:opened (keyS m.link m.xt m.xl) m.bn m.bc m.bt=true
 p:strOf (dM (keyS m.link m.xt m.xl) m.bn m.bc.data.toList)=p
theorem bHq{p:jy}(d:m.kind=7)(t:Tra m p)(a:p.size<=1000)(h:DJ f s b)(hs:s+1<=1099511627776)(hn:n<16)(e:n % 2=0)(hl:m.xl=n) :
  xu (oO m) (AY c2 (cl n) f q)=(.ok { ni with payload:=p },AY c2 (cl (n+1)) (I7 f (gG m.root (sF n p))) q):=by
 rw[sO (aUx d t.xt) a_];unfold pY;rw[ah a_,ah a_,ah a_,ah a_,ah a_,ah a_];have i:Wn m=0:=by unfold Wn;rw[t.o];rfl
 have g:sZ m=p:=by unfold sZ;rw[t.o,t.p];rfl
 unfold rY;rw[dG (aNw hn e _),hl,show ((n:Int)==(n:Int))=true from beq_self_eq_true _,dG (dY _ _),i,g,show ((0:Int)==0)=true from rfl,dG (dY _ _),mi a_,dG (dY _ _),dG (aMo h hs hn a c2 q)];rfl
theorem bHp(d:m.kind=7)(a:(m.xt==m.id)=true)(hn:n<=16)(e:n % 2=1):xu (oO m) (AY c2 (cl n) f q)=(.error 21,AY c2 (cl n) f q):=by rw[sO (aUx d a) hn];unfold pY;rw[ah a_,ah a_,ah a_,ah a_,ah a_,ah a_];unfold rY;exact aOi (KP e _)
theorem aTa(a:m.kind=2)(h:E_ f s m.root r)(hn:n<=16)(d:n % 2=1)(hr:r.kind=1)(hl:r.level=n)(h2:n2<16):xu (oO m) (AY (cl n2) (cl n) f q)=(.ok { ni with session:=n2,payload:=r.payload },AY (cl (n2+1)) (cl n) f q):=by rw[sO (wK (.inl a)) hn];unfold pY;rw[ah a_,au a];unfold QV;rw[dG (aPa h _ _ q),hr,hl,d,show n+1-1=n from a_,show ((1:Int)==1)=true from rfl,show ((n:Int)==(n:Int))=true from beq_self_eq_true _,show (bif true then true else false)=true from rfl,dG (dY _ _)];rw[show (((1:Nat):Int)==0)=false from rfl,show (bif false then rZ n else aj.ret ())=aj.ret () from rfl,aj.QB];unfold bFm;rw[dG (aSE a_ (cl n) f q),mi a_,dG (dY _ _),dG (SQ h2 (cl n) f q)];rfl
theorem bFl(a:m.kind=2)(h:E_ f s m.root r)(hn:n<=16)(hr:(bif r.kind==1 then r.level==((n+1-n % 2:Nat):Int) else false)=false):xu (oO m) (AY c2 (cl n) f q)=(.error 14,AY c2 (cl n) f q):=by rw[sO (wK (.inl a)) a_];unfold pY;rw[ah a_,au a];unfold QV;rw[dG (aPa h _ _ q),hr];exact aOi (aAc _ _)
end
theorem aKP(a:Act)(h:a.tmps.size=39){J:List Deferred}(hd:a.defers=J):∃ V U T S Q P O N u8 K I H G F E D C B A z y x w u t s r q p o n m k j g f e c b,a={ tmps:=#[V,U,T,S,Q,P,O,N,u8,K,I,H,G,F,E,D,C,B,A,z,y,x,w,u,t,s,r,q,p,o,n,m,k,j,g,f,e,c,b],defers:=J }:=by
 obtain⟨⟨L⟩,d⟩:=a;obtain rfl:d=J:=hd;have W:L=(yz 39).map fun i=>L.getD i dC:=by apply aBR;simpa using h;intro i X Y;rw[aCI,aCA,zG,zH X];rfl
 exact⟨L.getD 0 dC,L.getD 1 dC,L.getD 2 dC,L.getD 3 dC,L.getD 4 dC,L.getD 5 dC,L.getD 6 dC,L.getD 7 dC,L.getD 8 dC,L.getD 9 dC,L.getD 10 dC,L.getD 11 dC,L.getD 12 dC,L.getD 13 dC,L.getD 14 dC,L.getD 15 dC,L.getD 16 dC,L.getD 17 dC,L.getD 18 dC,L.getD 19 dC,L.getD 20 dC,L.getD 21 dC,L.getD 22 dC,L.getD 23 dC,L.getD 24 dC,L.getD 25 dC,L.getD 26 dC,L.getD 27 dC,L.getD 28 dC,L.getD 29 dC,L.getD 30 dC,L.getD 31 dC,L.getD 32 dC,L.getD 33 dC,L.getD 34 dC,L.getD 35 dC,L.getD 36 dC,L.getD 37 dC,L.getD 38 dC,congrArg (fun l=>({ tmps:=⟨l⟩,defers:=d }:Act)) W⟩
theorem ig.aRI{A:o_}{s:St}{a:Act}{w:ae}{env:Env}(h:ig A s a w env)(b:Act)(d:List (Nat×og×PV))(hs:b.tmps.size=a.tmps.size)(e:∀ t g pv,find d t=some (g,pv)->g=none/\∃ v,b.tmps[t]?=some v/\RV (aP A w env) pv v):ig { A with ds:=b.defers } ⟨d,s.o⟩ b w env:={ iw:=h.iw,size:=hs.trans h.size,dom:=h.dom,lu:=h.lu,live:=h.live,inj:=h.inj,tmps:=fun t g pv c _=>(e t g pv c).2,defers:=rfl,und:=fun t pv c=>(by cases (e t _ pv c).1),pg:=h.pg,dev:=h.dev }
def opC(m:jm):mg:=(#[.int .i64 m.kind]:mg)++Eu m.root++Eu m.id++Eu m.link++#[.string m.payload]++Eu m.ot++#[.int .i64 m.ol]++Eu m.xt++#[.int .i64 m.xl,.int .i64 m.bn,.string m.bc]++Eu m.bt
theorem bBg{C:Ctx}{m:jm}{xs:jl}(h:RL C (w_ m) xs):xs=(opC m).toList/\m.id.length=16/\m.bt.length=16:=by unfold w_ at h;cases h with|cons i h=>cases h with|cons k1 h=>cases h with|cons k2 h=>cases h with|cons k3 h=>cases h with|cons k4 h=>cases h with|cons d h=>cases h with|cons g h=>cases h with|cons c h=>cases h with|cons f h=>cases h with|cons e h=>cases h with|cons b h=>cases h with|cons a h=>cases h;cases i;cases k4;cases g;cases f;cases e;cases b;cases k1 with|bs k1=>cases k2 with|bs k2=>cases k3 with|bs k3=>cases d with|bs d=>cases c with|bs c=>cases a with|bs a=>exact⟨by simp[opC,Eu],k2,a⟩
structure B_(m:jm):Prop where
 root:m.root.length=16
 id:m.id.length=16
 link:m.link.length=16
 ot:m.ot.length=16
 xt:m.xt.length=16
 bt:m.bt.length=16
theorem bLw(C:Ctx){m:jm}(h:B_ m):RL C (w_ m) (opC m).toList:=by
 have e:(opC m).toList=[.int .i64 m.kind]++(m.root.map uh++(m.id.map uh++(m.link.map uh++([.string m.payload]++(m.ot.map uh++([.int .i64 m.ol]++(m.xt.map uh++([.int .i64 m.xl]++([.int .i64 m.bn]++([.string m.bc]++(m.bt.map uh++[]))))))))))):=by simp[opC,Eu]
 rw[e];exact .cons (.lit rfl) (.cons (.bs h.root) (.cons (.bs h.id) (.cons (.bs h.link) (.cons (.lit rfl) (.cons (.bs h.ot) (.cons (.lit rfl) (.cons (.bs h.xt) (.cons (.lit rfl) (.cons (.lit rfl) (.cons (.lit rfl) (.cons (.bs h.bt) .nil)))))))))))
theorem aOm:zk prog 31 102:=⟨⟨_,underlying31,rfl⟩,ai⟩
theorem vV{m:jm}(h:B_ m):(opC m).size=102:=by unfold opC;simp only[aEM,bCv,h.root,h.id,h.link,h.ot,h.xt,h.bt,aBM,We,aBJ]
theorem bAs{C:Ctx}:∀ {l m:g_} {a:jl},RL C (l++m) a->∃ d b,a=d++b/\RL C l d/\RL C m b
 |[],m,a,h=>⟨[],a,rfl,.nil,h⟩| c::l,m,a,h=>by
  cases h with
  |@cons _ _ _ e k j i=>obtain⟨d,b,rfl,g,f⟩:=bAs i;exact⟨e++d,b,(GM ..).symm,.cons j g,f⟩
def Bc(hd:ag)(m:jm)(f:Int):mg:=(#[hd]:mg)++opC m++#[.int .i64 f]
theorem TM{C:Ctx}{hd:ag}{m:jm}{f:Int}{xs:jl}(h:RL C (.lit hd::pz m f) xs):xs=(Bc hd m f).toList:=by
 have e:pz m f=w_ m++[.lit (.int .i64 f)]:=rfl;rw[e] at h;cases h with
 | cons k h=>
  cases k;obtain⟨d,c,rfl,b,a⟩:=bAs h;rw[(bBg b).1];cases a with
  |cons k2 a=>cases k2;cases a;simp[Bc]
theorem TL{C:Ctx}{hd:ag}(a:R C .dv [hd]){m:jm}(h:B_ m)(f:Int):RL C (.dv::pz m f) (Bc hd m f).toList:=by
 have e:(Bc hd m f).toList=[hd]++((opC m).toList++[.int .i64 f]):=by simp[Bc]
 rw[e];exact .cons a ((bLw C h).append (.cons (xs:=[_]) (.lit rfl) .nil))
structure R3(m:jm)(hd:ag)(g g3:Nat)(ds:List Deferred)(w1:ae)(a:Act)(W:ae)(go:Nat):Prop where
 sz:a.tmps.size=39
 ds:a.defers=ds
 t0:a.tmps[0]?=some hd
 t1:a.tmps[1]?=some (.pointer (some ⟨g,0,none⟩))
 t3:a.tmps[3]?=some (.pointer (some ⟨g3,0,none⟩))
 t4:a.tmps[4]?=some (.pointer (some ⟨go,0,none⟩))
 iw:gq (fun b=>b=g) w1 W
 new:w1.heap.size<=go/\go<W.heap.size
 bg:eu W g 31 (opC m)
 bo:eu W go 122 (Bc hd m 0)
def r3T(hd:ag)(a:Nat):List (Nat×og×PV):=[(0,none,qc hd),(1,none,dm (.pt 900001 0 0)),(3,none,qc (.pointer (some ⟨a,0,none⟩)))]
def r3S(m:jm)(hd:ag)(a:Nat):St:=⟨r3T hd a,[(900001,none,0,.box 31 (w_ m))]⟩
def r3E(m:jm)(hd:ag)(a:Nat):St:=⟨(4,none,dm (.pt 3003 0 0))::r3T hd a,[(3003,none,0,.box 122 (.lit hd::pz m 0)),(900001,none,0,.box 31 (w_ m))]⟩
structure R3A(g:Nat)(w1:ae)(ds:List Deferred)(A:o_):Prop where
 nt:A.nt=Tryz.f45.ntmps
 ok:l_ prog (fun _=>True) A
 gm:∀ l,¬A.gm l
 S:∀ b,A.S b->b=g
 w0:A.w0=w1
 ds:A.ds=ds
 eg:A.ext 900001=some (kJ g)
theorem Sl(m:jm)(q:B_ m)(d:ae)(g E:Nat)(hd:ag)(h1:hd.oneCell'=true)(z:eu d g 31 (opC m))(a:Act)(s:a.tmps.size=39)(K:a.tmps[0]?=some hd)(J:a.tmps[1]?=some (.pointer (some ⟨g,0,none⟩)))(H:a.tmps[3]?=some (.pointer (some ⟨E,0,none⟩))) :
  ∃ A:o_,R3A g d a.defers A/\qj A (r3S m hd E) a d:=by
 have f:∀ b,SX [⟨900001,31,w_ m,w_ m⟩] (fun _=>g) Dv.non b->b=g:=by rintro b (h|⟨o,i,rfl⟩);exact h.elim;rfl
 have j:∀ o∈[(⟨900001,31,w_ m,w_ m⟩:Ob)],(fun _=>True) ((fun _=>g) o.x)/\∃ F,eu d ((fun _=>g) o.x) o.t F/\RL { w:=d,ok:=fun _=>False,env:=fun _=>none } o.l F.toList:=fun o i=>by obtain rfl:=List.mem_singleton.1 i;exact⟨trivial,_,z,bLw _ q⟩
 have T:∀ o∈[(⟨900001,31,w_ m,w_ m⟩:Ob)],∀ k∈[(⟨900001,31,w_ m,w_ m⟩:Ob)],(fun _:Nat=>g) o.x=(fun _:Nat=>g) k.x->o.x=k.x:=fun o i k n _=>by obtain rfl:=List.mem_singleton.1 i;obtain rfl:=List.mem_singleton.1 n;rfl
 have S:pq { w:=d,ok:=fun _=>False,env:=AX [⟨900001,31,w_ m,w_ m⟩] (fun _=>g) none Dv.non.hd } [qc hd,dm (.pt 900001 0 0)] [hd,.pointer (some ⟨g,0,none⟩)]:=⟨.w (.one (.lit h1)),.w (.one (.pt ⟨_,_,rfl⟩ ⟨0,_,rfl,dE _,fun _=>⟨_,rfl,rfl⟩⟩)),trivial⟩
 obtain⟨e,u,r⟩:=aCu (P:=prog) (I:=fun _=>True) (fn:=Tryz.f45) (os:=[⟨900001,31,w_ m,w_ m⟩]) (O:=fun _=>none) (dev:=none) (gm:=fun _=>False) (args:=[qc hd,dm (.pt 900001 0 0)])
  (w:=d) (ok0:=fun _=>False) (vs:=[hd,.pointer (some ⟨g,0,none⟩)]) (bl:=fun _=>g) (D:=Dv.non) (X0:=fun _=>True) rfl rfl (fun _ _=>trivial) (fun b Q=>⟨by rw[f b Q];exact z.lt,fun h=>h⟩)
  (qw.non _) (fun _ _ _ _ _ _ h=>h.elim) rfl (fun p N=>by cases N) (fun _=>⟨fun _ h=>h,fun _ _ _ h=>h⟩) j T S
 refine⟨⟨d,SX [⟨900001,31,w_ m,w_ m⟩] (fun _=>g) Dv.non,fun _=>False,Tryz.f45.ntmps,xx [⟨900001,31,w_ m,w_ m⟩] (fun _=>g) none Dv.non.hd,Dv.non,fun _=>False,fun _=>True,a.defers⟩,
  ⟨rfl,⟨e.mem,e.sub,e.old,e.step,e.dvh,e.DV⟩,fun _ h=>h,f,rfl,rfl,rfl⟩,u,r.aRI a _ ?_ ?_⟩
 have:=r.size;rw[s];exact this.symm;intro t V pv c;obtain⟨G,U,L⟩:=r.tmps 1 none _ rfl trivial;have y:G=.pointer (some ⟨g,0,none⟩):=by simpa using U.symm
 subst y;by_cases C:0=t;subst C;rw[r3T,aG] at c;cases c;exact⟨rfl,_,K,.w (.one (.lit h1))⟩;rw[r3T,aF _ _ C] at c;by_cases B:1=t;subst B;rw[aG] at c;cases c;exact⟨rfl,_,J,L⟩;rw[aF _ _ B] at c;by_cases j:3=t;subst j;rw[aG] at c;cases c;exact⟨rfl,_,H,.w (.one (.lit rfl))⟩;rw[aF _ _ j] at c;cases c
theorem Sm{m:jm}{hd:ag}{g n:Nat}{p:List Deferred}{f:ae}{A:o_}(d:R3A g f p A){a:Act}{W:ae}(h:qj A (r3E m hd n) a W):∃ go,R3 m hd g n p f a W go:=by
 obtain⟨D,c⟩:=h;obtain⟨N,H,z⟩:=c.tmps 0 none _ rfl trivial;obtain⟨L,F,w⟩:=c.tmps 3 none _ rfl trivial;obtain⟨o,J,G,s,K,y⟩:=qj.Ce c (t:=1) (x:=900001) rfl rfl;obtain⟨go,I,E,r,q,u⟩:=qj.Ce c (t:=4) (x:=3003) rfl rfl;have B:o=g:=by have:=(c.pg 900001 _ d.eg).2.now s;exact (mM (b:=o) (g:=g) (by rw[<-this];rfl))
 subst B;have i:=c.live 3003 0 _ go r rfl;have e:f.heap.size<=go:=by rcases i.2 with h|⟨_,h⟩;rw[d.w0] at h;exact h;cases h
 have k:J=opC m:=by apply TC;exact (bBg y).1
 have j:I=Bc hd m 0:=by apply TC;exact TM u
 subst k j;have l:=c.size;rw[d.nt] at l;refine⟨go,⟨l,c.defers.trans d.ds,H.trans (congrArg some z.gu),G,F.trans (congrArg some w.gu),E,?_,⟨e,q.lt⟩,K,q⟩⟩;have:=c.iw;rw[d.w0] at this;exact this.mono fun b _ C=>d.S b C
theorem bHa{m:jm}{O:ut}(h:vF (go O (mO m) []).2):1<=m.kind/\m.kind<=7:=by
 unfold mO at h;rw[aAy] at h;cases a:(bif decide (m.kind>=1) then decide (m.kind<=7) else false) with
 |false=>
  exfalso;rw[a] at h
  exact h (wJ 1) ((yH _ _ _).subset (by show _∈_++[_];simp)) rfl
 | true=>
  cases b:decide (m.kind>=1) with
  |false=>rw[b] at a;cases a|true=>rw[b] at a;exact⟨of_decide_eq_true b,of_decide_eq_true a⟩
theorem bLx(m:jm):(opC m)[0]?=some (.int .i64 m.kind):=by
 unfold opC
 repeat rw[Array.getElem?_append_left (by simp only[aEM,aBM,We,aBJ];omega)]
 rfl
theorem bLv(hd:ag){m:jm}(h:B_ m)(f:Int):(Bc hd m f)[103]?=some (.int .i64 f):=by unfold Bc;rw[Array.getElem?_append_right (by simp[vV h])];simp[vV h]
theorem LJ(hd:ag){m:jm}(h:B_ m)(f f':Int):(Bc hd m f).setIfInBounds 103 (.int .i64 f')=Bc hd m f':=by
 have a:((#[hd]:mg)++opC m).size=103:=by simp[vV h]
 unfold Bc;rw[Array.setIfInBounds_append_right a_];simp[vV h]
theorem O5(m:jm)(a:zl m)(n:Nat)(hn:n<=16)(c:1<=m.kind/\m.kind<=7):yQ prog af uf (Wh m.kind) AA (pz m n) (pY m n) [] (fun o=>.w (.agg (h_ o))):=by
 have b:m.kind=1\/m.kind=2\/m.kind=3\/m.kind=4\/m.kind=5\/m.kind=6\/m.kind=7:=a_;unfold pY Wh
 rcases b with h|h|h|h|h|h|h<;>rw[h]
 exact bGu m n a_ a.root a.payload;exact bMl m n a_ a.root;exact bMj m n a_ a.root a.payload;exact bLz m n a_;exact JR m n a_ a.root a.link a.ot a.ol;exact bEm m n a_ a.root a.link;exact bHr m n a_ a.root a.link a.xt a.xl a.bn a.bc
theorem aEi{b:Type}(p:aj b):p.bind .ret=p:=by
 induction p with
 |ret a=>rfl|ask a k c=>exact congrArg (aj.ask a) (funext fun r=>c r)
theorem XC{C:Ctx}{o:jk}{v:ag}(h:RV C (.w (.agg (h_ o))) v):v=.agg (p_ o)/\wu o:=by
 cases h with
 | w h=>cases h with
  |@agg _ c h=>obtain⟨b,a⟩:=TG h;exact⟨congrArg Value.agg (TC b),a⟩
theorem bFi(k:Int)(args:mg)(w:ae):(aAE (Wh k) args).run prog w=.ok (.enter (Wh k) args) w:=by
 unfold Wh
 repeat' split
 all_goals kernel_rfl
theorem aSk(m:jm)(hm:zl m)(b2:B_ m)(w:ae)(g:Nat)(D:Dv)(X0:uy)(hB:eu w g 31 (opC m))(hM:∀ w',gq (fun b=>D.S b\/b=g) w w'->af w')(j:∀ b,D.S b->b<w.heap.size)
  (B:qw prog D (fun h=>h <+: (go D.O (dA m) []).2)) (k:∀ l X Y w w' z,D.pan l X w z->gq X w w'->(∀ b,Y b->X b)->D.pan l Y w' z) (s:Gh D) (u:OB D.O) (E:D.inv [] X0 w) (r:X0 g) :
  lL prog 45 #[D.hd,.pointer (some ⟨g,0,none⟩)] w fun e w'=>gq (fun b=>D.S b\/b=g) w w'/\aZx m D X0 e w':=by
 have l4:∀ (fn:Fn) (first cap:mg) (w:ae),(Instr.makeFunc fn first cap).run prog w=.ok (.func fn first cap) w:=fun _ _ _ _=>rfl;have HH:=hide (az hB (az hM (az j (az B (az k (az s (az u (az E r))))))));clear hB hM j B k s u E r;generalize e5:D.hd=hd
 go_enter_defers func45,ntmps45
 go_upto_region 2 with fail
 generalize e8:aEJ _ (.cells _ 40)=W0
 have z1:Ext w W0:=by
  rw[<-e8]
  all_goals exact Dp
 have z2:eu W0 w.heap.size 40 (p_ ni):=by rw[<-e8];exact eu.new' _ _ _ d_
 clear e8;have HZ:=hide (az z1 z2);clear z1 z2
 go_wp2_with (refine fO (ty:=31) (t:=31) (x:=.tmp 1) rfl rfl aOm rfl (cs:=opC m) ((aA HH).1.ext (aA HZ).1) (vV b2) ?_)
 have N:=aA HZ;obtain⟨hB,hM,j,B,k,s,u,E,r⟩:=aA HH;have hS:qw prog (jF uf D) (fun h=>h <+: (go (mF uf D.O) (oO m) []).2):=aNb B fun l c hN hs=>aUz _ _ _ _ _ _ aEW hN hs;have K:(jF uf D).inv [] (fun b=>X0 b\/b=w.heap.size) W0:=⟨D.grow _ _ _ _ _ E (N.1.mono fun _ _ h=>h.elim) (fun b V=>V.imp id fun e=>by subst e;exact⟨dE _,N.2.lt⟩),by simp[mF],fun _ h=>by cases h⟩;have b7:Left (mF uf D.O) (oO m) [] (oO m) []:=Left.start _ _ _;have J:=Left.step (q:=mO m) b7
 refine (bRd m (mF uf D.O) [] (bCg u) (bCf uf D.O) W0 (fun _=>False) [.agg (opC m)] (fun _=>0) (jF uf D) (fun b=>X0 b\/b=w.heap.size)
  (fun w' hc=>hM w' (N.1.trans' hc (fun _ _ h=>h.elim) (fun i _ h=>.inl (h.elim id (fun⟨o,C,_⟩=>by cases C))))) (fun b V=>⟨aAF (j b (V.elim id (fun⟨o,C,_⟩=>by cases C))) N.1.size,fun h=>h⟩)
  (hS.mono fun h hh hO=>(Left.gm b7 h hh.1 hh.2 hO).2) (xB k) rfl (fun p hp=>by cases hp;exact K) (fun h=>by cases h) (fun o C=>by cases C) (fun o C=>by cases C) ⟨.w (.agg (bLw _ b2)),trivial⟩).mono ?_
 rintro e w1 ⟨d8,hq⟩;have a5:gq (fun b=>D.S b\/b=g) w w1:=N.1.trans' d8 (fun _ _ h=>h.elim) (fun i _ h=>.inl (h.elim id (fun⟨o,C,_⟩=>by cases C)));have f7:∀ {X:uy},¬SX [] (fun _=>0) (jF uf D) w.heap.size:=fun h=>h.elim ((jF uf D).notS _ _ _ _ K (.inr rfl)) (fun⟨o,C,_⟩=>by cases C);have a7:eu w1 w.heap.size 40 (p_ ni):=N.2.iw d8 (f7 (X:=X0));rcases hq with⟨e4,rfl,_,_,c5⟩|⟨z,l,rfl,P,U,c1⟩;rotate_left 1;exact aAq s k (fun b h=>.inl h) (.inr rfl) (dE _) c1 (Left.gm b7 l P.1 P.2 U).2 U a7 (eX lS) rfl a5;have a4:=c5 _ rfl;dsimp only at a4;have c4:=bHa a4.2.2;have b0:eu w1 g 31 (opC m):=(hB.ext N.1).iw d8 (fun h=>h.elim ((jF uf D).notS _ _ _ _ K (.inl r)) (fun⟨o,C,_⟩=>by cases C))
 have e9:hd.oneCell'=true:=by rw[<-e5];exact D.one
 generalize d7:(go (mF uf D.O) (mO m) []).2=la at *;have H1:=hide (az a4 (az a5 (az a7 (az c4 (az b0 (az hS J))))));clear N hB hM j B k s u E r hS K b7 J d8 a5 f7 a7 c5 a4 c4 b0 d7 HZ
 go_upto_region 3 with fail
 refine (fun (h:∀ a0:Act,a0.tmps.size=39->a0.defers=Vu w.heap.size->a0.tmps[0]?=some hd->a0.tmps[1]?=some (.pointer (some ⟨g,0,none⟩))->a0.tmps[3]?=some (.pointer (some ⟨w.heap.size,0,none⟩))->Code.wp _ _ _ a0 w1)=>h _ rfl rfl rfl rfl rfl) ?_;intro a0 g5 g0 t0 t1 t3;obtain⟨A,hA,hg⟩:=Sl m b2 w1 g w.heap.size hd e9 (aA H1).2.2.2.2.1 a0 g5 t0 t1 t3;rw[g0] at hA;have hn:=hA.nt;have hI:=hA.ok;have M:jq prog (fun _=>True) (find ([]:List (Nat×Spec))):=Fa;refine (show kw prog A (r3S m hd w.heap.size) _ (Exit.then _ _) from ?_) a0 w1 hg (fun z a w _ ⟨l,hs,_⟩=>(hA.gm l hs).elim);refine fJ ?_;intro a W f9;have e3:qj A (r3E m hd w.heap.size) a W:=by refine (f9.reset (kT:=[4,0,1,3]) (kO:=[3003,900001]) ay d_).same ?_ ?_;exact iq;exact r_
 obtain⟨d,R⟩:=Sm hA e3;clear f9 e3 hg hA hn hI M A g5 g0 t0 t1 t3 a0;obtain⟨u0,u1,u2,u3,u4,u5,u6,u7,u8,u9,l0,k9,k8,k7,k6,k5,k2,j9,j8,j7,j6,j5,j4,j3,j2,j1,j0,i9,i8,i7,h9,h8,h7,h6,h5,h4,h3,h2,h1,ea⟩:=aKP a R.sz R.ds;have k0:=R.t0;have k1:=R.t1;have k3:=R.t3;have k4:=R.t4;have HR:=hide (az R.iw (az R.new (az R.bg R.bo)));clear R;subst ea;obtain rfl:u0=hd:=by simpa using k0
 obtain rfl:u1=.pointer (some ⟨g,0,none⟩):=by simpa using k1
 obtain rfl:u3=.pointer (some ⟨w.heap.size,0,none⟩):=by simpa using k3
 obtain rfl:u4=.pointer (some ⟨d,0,none⟩):=by simpa using k4
 clear k0 k1 k3 k4;have mk:=MH W d;have i0:=MQ W d;have i1:=MP W d;have i2:=MO W d;have i3:=MN W d;have i4:=ML W d;have i5:=MK W d;have i6:=MJ W d;unfold BC at i0 i1 i2 i3 i4 i5 i6;dsimp only[Exit.then]
 go_upto_region 5 with fail
 clear mk i0 i1 i2 i3 i4 i5 i6;have a2:(zh W d 7).heap[W.heap.size]?=some (.map (D7 d).toArray 7):=(MapKept.heap_alloc W _).1;have x4:Ext W (zh W d 7):=(Ext.refl W).alloc _;generalize zh W d 7=W4 at *;obtain⟨hB,hM,j,B,k,s,u,E,r⟩:=aA HH;obtain⟨a4,a5,a7,c4,b0,hS,d7⟩:=aA H1;obtain⟨e6,f5,g3,g2⟩:=aA HR;have h0:W.heap.size<W4.heap.size:=lt_of_heap a2;have lg:=hB.lt;have l1:=a5.size;have l2:=e6.size;have e2:gq (fun b=>b=g) w1 W4:=e6.ext x4;obtain⟨X4,a6⟩:∃ X:Nat->Prop,X=fun b=>(X0 b\/b=w.heap.size)\/(w1.heap.size<=b/\b<W4.heap.size):=⟨_,rfl⟩;have xg:X4 g:=by rw[a6];exact .inl (.inl r)
 have L:X4 w.heap.size:=by rw[a6];exact .inl (.inr rfl)
 have xo:X4 d:=by rw[a6];exact .inr ⟨f5.1,a_⟩
 have xm:X4 W.heap.size:=by rw[a6];exact .inr ⟨a_,h0⟩
 have Z:∀ b,X0 b->X4 b:=fun b V=>by rw[a6];exact .inl (.inl V)
 have b5:(jF uf D).inv la X4 W4:=(jF uf D).grow _ _ _ _ _ a4 (e2.mono fun b _ e=>e ▸ .inl r) (fun b V=>by rw[a6] at V;exact V);have a9:gq (fun b=>D.S b\/b=g) w W4:=a5.trans' e2 (fun _ _ h=>h) (fun _ _ e=>.inr e);have d1:eu W4 w.heap.size 40 (p_ ni):=a7.iw e2 a_;have c7:eu W4 g 31 (opC m):=g3.ext x4;have c3:eu W4 d 122 (Bc u0 m 0):=g2.ext x4;have l3:¬d=g:=a_;have l5:w.heap.size<d/\d<W.heap.size:=by have:=a7.lt;omega
 clear f5 g3 g2 e6 e2 x4 a5 a7 b0 a4 HR H1 l1 l2;have b7:Left (mF uf D.O) (oO m) [] (oO m) []:=Left.start _ _ _;have J:Left (mF uf D.O) (oO m) [] ((aj.f_ 3 16).bind fun n=>pY m n) la:=d7;have H:=Left.step (q:=aj.f_ 3 16) J;have G:=Wq (mF uf D.O) (aDo 3 16) la;have Q:∀ b:Nat,X4 b->¬SX [] (fun _=>0) (jF uf D) b:=fun _ hx h=>h.elim ((jF uf D).notS _ _ _ _ b5 hx) (fun⟨o,C,_⟩=>by cases C);have HA:=hide (az hM (az j (az B (az k (az s (az u r))))));have HB:=hide (az hS (az J (az H (az G Q))));have HC:=hide (az a2 (az xg (az L (az xo (az xm (az Z (az b5 (az a9 (az d1 (az c7 c3))))))))));clear hB hM j B k s u E r hS b7 J H G Q a2 xg L xo xm Z b5 a9 d1 c7 c3 a6 d7 HH
 go_wp2_with fail
 obtain⟨hM,j,B,k,s,u,r⟩:=aA HA;obtain⟨hS,J,H,G,Q⟩:=aA HB;obtain⟨a2,xg,L,xo,xm,Z,b5,a9,d1,c7,c3⟩:=aA HC
 refine (aIi (I:=af) bJ 3 16 jb (mF uf D.O) la W4 (fun _=>False) [u0,.int .i64 3,.int .i64 16] (fun _=>0) (jF uf D) X4
  (fun w' hc=>hM w' (a9.trans' hc (fun _ _ h=>h) (fun i _ h=>.inl (h.elim id (fun⟨o,C,_⟩=>by cases C))))) (fun b V=>⟨aAF (j b (V.elim id (fun⟨o,C,_⟩=>by cases C))) a9.size,fun h=>h⟩)
  (hS.mono fun h hh hO=>(Left.gm J h hh.1 hh.2 hO).2) (xB k) rfl (fun p hp=>by cases hp;exact b5) (fun h=>by cases h) (fun o C=>by cases C) (fun o C=>by cases C) ⟨.w (.one (.dv e9 ⟨0,D.hd,rfl,dE _,fun _=>e5.symm⟩)),.w (.one (.lit rfl)),.w (.one (.lit rfl)),trivial⟩).mono ?_
 rintro e w5 ⟨b6,hq⟩;have c0:gq (fun b=>D.S b\/b=g) w w5:=a9.trans' b6 (fun _ _ h=>h) (fun i _ h=>.inl (h.elim id (fun⟨o,C,_⟩=>by cases C)));have b9:eu w5 w.heap.size 40 (p_ ni):=d1.iw b6 (Q _ L);rcases hq with⟨e4,rfl,hv,_,c5⟩|⟨z,l,rfl,P,U,c1⟩;rotate_left 1;exact aAq s k Z L (dE _) c1 (Left.gm J l P.1 P.2 U).2 U b9 (eX lS) rfl c0;have T:=c5 _ rfl;dsimp only at T;obtain⟨n,lb,f4⟩:∃ n lb,go (mF uf D.O) (aj.f_ 3 16) la=(n,lb):=⟨_,_,rfl⟩;rw[f4] at H G T hv;dsimp only at H G T hv
 obtain rfl:e4=.int .i64 (n:Int):=RV.gu hv;have d0:eu w5 g 31 (opC m):=c7.iw b6 (Q _ xg);have a1:eu w5 d 122 (Bc u0 m 0):=c3.iw b6 (Q _ xo);have b3:w5.heap[W.heap.size]?=some (.map (D7 d).toArray 7):=(b6.block _ (lt_of_heap a2) (Q _ xm)).trans a2;have d3:=a1.cell 103;rw[bLv u0 b2] at d3;have f3:=a1.frozen;have g7:=hide (az xg (az L (az xo (az Z (az T (az c0 (az b9 (az d0 (az a1 b3)))))))));have g8:=hide (az hS (az H G));clear hv c5 b6 a9 d1 c7 c3 a2 b5 xg L xo xm Z T c0 b9 d0 a1 b3 hM j B k s u r hS J H G Q HC HB f4;have xk:=bFi m.kind
 go_upto_region 6 with fail
 obtain⟨xg,L,xo,Z,T,c0,b9,d0,a1,b3⟩:=aA g7;have d2:eu (w5.setCell ⟨d,103,none⟩ (.int .i64 (n:Int))) w.heap.size 40 (p_ ni):=b9.far (p:=⟨d,103,none⟩) (show ¬w.heap.size=d by omega) _;have c9:eu (w5.setCell ⟨d,103,none⟩ (.int .i64 (n:Int))) g 31 (opC m):=d0.far (p:=⟨d,103,none⟩) (show ¬g=d by omega) _;have b1:eu (w5.setCell ⟨d,103,none⟩ (.int .i64 (n:Int))) d 122 (Bc u0 m n):=by have:=a1.zq 103 (.int .i64 (n:Int));rw[LJ u0 b2] at this;exact this
 have e1:gq (fun b=>b=d) w5 (w5.setCell ⟨d,103,none⟩ (.int .i64 (n:Int))):=gq.setCell (S:=fun b=>b=d) (p:=⟨d,103,none⟩) (gq.refl _ _) (.inl rfl) _;have f8:=(e1.block _ (lt_of_heap b3) (show ¬W.heap.size=d by omega)).trans b3;generalize w5.setCell ⟨d,103,none⟩ (.int .i64 (n:Int))=w6 at *;have lk:=MI f8 c4;unfold BC at lk;have d6:=c9.cell 0;rw[bLx] at d6;have b4:(jF uf D).inv lb X4 w6:=(jF uf D).grow _ _ _ _ _ T (e1.mono fun b _ e=>e ▸ xo) (fun b V=>.inl V);have a8:gq (fun b=>D.S b\/b=g) w w6:=c0.trans' e1 (fun _ _ h=>h) (fun i hi e=>a_);have g6:=hide (az xg (az L (az xo (az Z (az b4 (az a8 (az d2 (az c9 b1))))))));clear xg L xo Z T c0 b9 d0 a1 b3 d2 c9 b1 e1 f8 b4 a8 g7 d3 f3;generalize g9:Wh m.kind=F at *
 go_wp2_with fail
 obtain⟨hM,j,B,k,s,u,r⟩:=aA HA;obtain⟨hS,H,G⟩:=aA g8;obtain⟨xg,L,xo,Z,b4,a8,d2,c9,b1⟩:=aA g6;have d9:Left (mF uf D.O) (oO m) [] ((pY m n).bind aj.ret) lb:=by rw[aEi];exact H
 subst g9
 refine (O5 m hm n G c4 (mF uf D.O) lb (bCg u) (bCf uf D.O) w6 (fun _=>False) [.pointer (some ⟨d,0,none⟩)] d (jF uf D) X4
  (fun w' hc=>hM w' (a8.trans' hc (fun _ _ h=>h) (fun i hi h=>h.elim .inl (fun e=>a_)))) (fun b V=>⟨V.elim (fun h=>aAF (j b h) a8.size) (fun e=>e ▸ b1.lt),fun h=>h⟩)
  (hS.mono fun h hh hO=>(Left.gm d9 h hh.1 hh.2 hO).2) (xB k) rfl b4 xo ⟨_,b1,TL (.dv e9 ⟨0,D.hd,rfl,dE _,fun _=>e5.symm⟩) b2 n⟩ ⟨.w (.one (.pt ⟨_,_,rfl⟩ ⟨0,_,rfl,dE _,fun _=>⟨_,rfl,rfl⟩⟩)),trivial⟩).mono ?_
 rintro e w7 ⟨e7,hq⟩;have f6:¬SD d (jF uf D) w.heap.size:=fun h=>h.elim ((jF uf D).notS _ _ _ _ b4 L) (fun e=>a_);have d4:gq (fun b=>D.S b\/b=g) w w7:=a8.trans' e7 (fun _ _ h=>h) (fun i hi h=>h.elim .inl (fun e=>a_));have e0:eu w7 w.heap.size 40 (p_ ni):=d2.iw e7 f6;rcases hq with⟨e4,rfl,hv,_,a3⟩|⟨z,l,rfl,P,U,c1⟩;rotate_left 1;exact aAq s k Z L (dE _) c1 (Left.gm d9 l P.1 P.2 U).2 U e0 (eX lS) rfl d4;have c6:=d9.2;rw[aEi] at c6;obtain⟨o,lc,f2⟩:∃ o lc,go (mF uf D.O) (pY m n) lb=(o,lc):=⟨_,_,rfl⟩;rw[f2] at c6 hv a3;dsimp only at hv a3;obtain⟨rfl,c2⟩:=XC hv
 have hC:go D.O (dA m) []=(o,lc):=by unfold dA;rw[Q7 eF uf D.O (oO m) [] (by rw[c6];exact a3.2.2),c6]
 have f0:=hide (az e0 (az c2 (az d4 (az a3.1 (az L (az Z hC))))));clear c6 hv a3 c2 hC e0 d4 L Z f6 e7 xg xo b4 a8 d2 c9 b1 d9 hS H G hM j B k s u r f2 g6 g8 lk d6 HA xk;generalize d5:p_ o=oc at *
 go_wp2_with (refine aT (ty:=40) (t:=40) (x:=.tmp 3) (y:=.tmp 38) rfl rfl kM rfl rfl (aA f0).1 (eX lS) (by rw[<-d5];exact eX (aA f0).2.1) (by rw[<-d5];exact oK _) ?_;intro w8 g4 g1 f1;have H8:=hide (az g4 (az g1 f1));clear g4 g1 f1)
 obtain⟨b8,c8,z8⟩:=aA H8;obtain⟨e0,c2,d4,a3,L,Z,hC⟩:=aA f0;refine leaves_cons (f:=46) (args:=#[.pointer (some ⟨w.heap.size,0,none⟩)]) d_ (by simp[go_sem]) ?_;refine (bLl _ _).mono ?_;rintro e u' w9 ⟨rfl,rfl,rfl⟩;refine⟨_,aEg _ _ w.heap.size oc (by rw[<-d5];exact eX c2) rfl b8,d4.trans' c8 (fun _ _ h=>h) (fun i hi e=>a_),.inl ?_⟩;rw[hC];exact⟨c2,by rw[d5],D.grow _ _ _ _ _ a3 (c8.mono fun i _ e=>e ▸ L) (fun b V=>.inl (Z b V))⟩
end Pv
theorem wF:zk prog 65 18:=⟨⟨_,underlying65,rfl⟩,ai⟩
theorem U3(b:Nat)(n:Int):Pv.Loc prog 3 b 3 #[.int .i64 n] (.int .i64 n):=by
 refine⟨fun w a=>?_,fun w old d a=>⟨w.setCell ⟨b,0,none⟩ (.int .i64 n),?_,?_,gq.setCell (S:=fun k=>k=b) (p:=⟨b,0,none⟩) (gq.refl _ _) (.inl rfl) _,d_⟩⟩
 ·have c:=a.cell 0;simp only[aBU,aBN] at c;simp[go_sem,c]
 ·obtain⟨x,rfl⟩:∃ x,old=#[x]:=by
   obtain⟨old⟩:=old
   match old,d with
   |[x],_=>exact⟨x,rfl⟩
  have c:=a.cell 0;have e:=a.frozen 0;simp only[aBU,aBN] at c;simp[go_sem,c,e]
 obtain⟨x,rfl⟩:∃ x,old=#[x]:=by
  obtain⟨old⟩:=old
  match old,d with
  |[x],_=>exact⟨x,rfl⟩
 exact a.zq 0 _
theorem bBk(b:Nat)(n:Bool):Pv.Loc prog 4 b 4 #[.bool n] (.bool n):=by
 refine⟨fun w a=>?_,fun w old d a=>⟨w.setCell ⟨b,0,none⟩ (.bool n),?_,?_,gq.setCell (S:=fun k=>k=b) (p:=⟨b,0,none⟩) (gq.refl _ _) (.inl rfl) _,d_⟩⟩
 ·have c:=a.cell 0;simp only[aBU,aBN] at c;simp[go_sem,c]
 ·obtain⟨x,rfl⟩:∃ x,old=#[x]:=by
   obtain⟨old⟩:=old
   match old,d with
   |[x],_=>exact⟨x,rfl⟩
  have c:=a.cell 0;have e:=a.frozen 0;simp only[aBU,aBN] at c;simp[go_sem,c,e]
 obtain⟨x,rfl⟩:∃ x,old=#[x]:=by
  obtain⟨old⟩:=old
  match old,d with
  |[x],_=>exact⟨x,rfl⟩
 exact a.zq 0 _
theorem aEl(a:mg)(w:ae)(l Ob e f:Nat)(c:mg)(hs:c.size=18)(b:mg)(o:b.size=55)(n d:ag)(h6:a.getD 6 dC=.pointer (some ⟨l,0,none⟩))(j:a.getD 7 dC=.pointer (some ⟨Ob,0,none⟩))(i:a.getD 8 dC=.pointer (some ⟨e,0,none⟩))(h:a.getD 9 dC=.pointer (some ⟨f,0,none⟩))
  (s:eu w l 65 c) (p:eu w Ob 40 b) (q:eu w e 3 #[n]) (r:eu w f 4 #[d]) :
  (results Tryz.f34 a).run prog w=.ok (.tuple #[.agg c,.agg b,n,d]) w:=by
 have x:=kK s wF hs;have u:=kK p kM o;have g:=q.cell 0;have k:=r.cell 0;simp only[aBU,aBN] at g k;simp only[aBL] at h6 j i h;have m:(loadVar 3 ⟨e,0,none⟩).run prog w=.ok n w:=by simp[go_sem,g]
 have t:(loadVar 4 ⟨f,0,none⟩).run prog w=.ok d w:=by simp[go_sem,k]
 simp[results,results34,h6,j,i,h,asAddr,x,u,m,t]
theorem NW (G:Nat) (pc:mg) (S:mg) (B:Option Addr) (nF cF:Nat) (V:mg->Int->Option Pv.jk->jg) (g:Nat) (w:ae) (hs:S.size=18) (h1:S.all (·.oneCell')=true) (hG:∀ (args:mg) (w:ae),(aAE G args).run prog w=.ok (.enter G args) w) (hg:g<=w.heap.size)
    (hV:∀ a n o l q,V a n o l->gq (fun k=>w.heap.size<=k/\k<w.heap.size+6) l q->V a n o q)
    (hp : ∀ l,Ext w l->l.heap.size=w.heap.size+6->eu l (w.heap.size+1) 68 #[.slice B nF cF]->eu l (w.heap.size+1+1) 65 S->eu l (w.heap.size+1+1+1+1) 3 #[.int .i64 0] ->
      lL prog G (#[.func (.func 65) #[] #[.pointer (some ⟨w.heap.size+1+1+1+1,0,none⟩),.pointer (some ⟨w.heap.size+1,0,none⟩),.pointer (some ⟨w.heap.size+1+1,0,none⟩)]]++pc) l fun e q=>gq (fun k=>k=w.heap.size+1+1+1+1\/k=w.heap.size+1\/k=w.heap.size+1+1\/(g<=k/\k<w.heap.size)) l q /\
        ∃ b n,b.size=18/\b.all (·.oneCell')=true/\eu q (w.heap.size+1+1) 65 b/\eu q (w.heap.size+1+1+1+1) 3 #[.int .i64 n] /\
        ((∃ o,Pv.wu o/\e=.returned (.agg (Pv.p_ o))/\V b n (some o) q)\/(∃ c,Pv.Zq c/\e=.panicked ({ v:=Pv.cutV,recovered:=false }::c)/\V b n none q))) :
    lL prog 34 #[.func (.func G) #[] pc,.agg S,.slice B nF cF] w fun e w'=>gq (fun k=>g<=k) w w'/\∃ b n,b.size=18 /\
      (
       (∃ o,Pv.wu o/\e=.returned (.tuple #[.agg b,.agg (Pv.p_ o),.int .i64 n,.bool true])/\V b n (some o) w') \/
       (e=.returned (.tuple #[.agg b,.agg (Pv.p_ Pv.ni),.int .i64 n,.bool false])/\V b n none w')):=by
  have b2:∀ (fn:Fn) (first cap:mg) (w:ae),(Instr.makeFunc fn first cap).run prog w=.ok (.func fn first cap) w:=fun _ _ _ _=>rfl;have HP:=hide hp;have HS:=hide (az hs h1);have HV:=hide hV;clear hp hs h1 hV
  go_enter_defers func34,ntmps34
  go_upto_region 1 with fail
  generalize j:aEJ _ (.cells _ 4)=F
  have Q:Ext w F:=by
    rw[<-j]
    all_goals exact Dp
  have Y:eu F w.heap.size 65 S:=by rw[<-j];exact (((((eu.new w _ _).alloc _).alloc _).alloc _).alloc _).alloc _
  have P:eu F (w.heap.size+1) 68 #[.slice B nF cF]:=by rw[<-j];exact ((((eu.new' _ _ _ d_).alloc _).alloc _).alloc _).alloc _
  have X:eu F (w.heap.size+1+1) 65 (#[.slice none 0 0,.slice none 0 0]++DD 16 (.int .u8 0)):=by rw[<-j];exact (((eu.new' _ _ _ d_).alloc _).alloc _).alloc _
  have O:eu F (w.heap.size+1+1+1) 40 (Pv.p_ Pv.ni):=by rw[<-j];exact ((eu.new' _ _ _ d_).alloc _).alloc _
  have N:eu F (w.heap.size+1+1+1+1) 3 #[.int .i64 0]:=by rw[<-j];exact (eu.new' _ _ _ d_).alloc _
  have L:eu F (w.heap.size+1+1+1+1+1) 4 #[.bool false]:=by rw[<-j];exact eu.new' _ _ _ d_
  have z8:F.heap.size=w.heap.size+6:=by rw[<-j];simp
  have HZ:=hide (az Q (az Y (az P (az X (az O (az N (az L z8)))))));clear j Q Y P X O N L z8
  go_wp2_with (first
    |(refine fO (ty:=65) (t:=65) (x:=.tmp 4) rfl rfl wF rfl (cs:=S) (aA HZ).2.1 (aA HS).1 ?_)
    |(refine aT (ty:=65) (t:=65) (x:=.tmp 6) (y:=.tmp 11) rfl rfl wF rfl rfl (aA HZ).2.2.2.1 rfl (aA HS).1 (aA HS).2 ?_;intro l a2 a1 a0;have H1:=hide (az a2 (az a1 a0));clear a2 a1 a0))
  obtain⟨Q,Y,P,X,O,N,L,z8⟩:=aA HZ;obtain⟨y1,H,y3⟩:=aA H1;have C:Ext w l:=Q.trans' H (fun _ _ h=>h) (fun i hi e=>a_);refine (aA HP l C (y3.trans z8) (P.iw H a_) y1 (N.iw H a_)).mono ?_;rintro e q ⟨U,b,n,m,E,u,s,hq⟩;have hO:=(O.iw H a_).iw U a_;have hD:=(L.iw H a_).iw U a_;have a3:Hid (gq (fun k=>g<=k) w q):=hide (C.trans' U (fun _ _ h=>h.elim) (fun i hi e=>a_));have b0:l.heap.size<=q.heap.size:=U.size;rcases hq with⟨o,J,rfl,r⟩|⟨c,a7,rfl,r⟩
  ·
    have W:=hide (az hO (az J (Pv.eX J)));have HD:=hide hD;have HQ:=hide (az m (az E (az u (az s r))));have b1:w.heap.size+6<=q.heap.size:=a_;clear Q Y P X O N L y1 H C U m E u s r hO hD HP H1 HZ J;generalize K:Pv.p_ o=oc at *
    go_upto_region 5 with (refine aT (ty:=40) (t:=40) (x:=.tmp 7) (y:=.tmp 16) rfl rfl kM rfl rfl (aA W).1 (Pv.eX Pv.lS) (aA W).2.2 (by rw[<-K];exact Pv.oK _) ?_;intro w3 A d I;have H3:=hide (az A (az d I));clear A d I)
    obtain⟨A,d,I⟩:=aA H3;have a5:=(aA W).2.2;obtain⟨m,E,u,s,r⟩:=aA HQ
    refine Pv.NV ai ⟨_,_,w.heap.size+1+1,w.heap.size+1+1+1,w.heap.size+1+1+1+1,w.heap.size+1+1+1+1+1,65,40,3,4,b,oc,#[.int .i64 n],.agg b,.agg oc,.int .i64 n⟩
      (Pv.Loc.wide wF _ _ _ m E) (Pv.Loc.wide kM _ _ _ a5 (by rw[<-K];exact Pv.oK _)) (U3 _ _) (bBk _ _) rfl rfl rfl rfl rfl (by dsimp only;omega) (by dsimp only;omega) (by dsimp only;omega) (by dsimp only;omega) (by dsimp only;omega) (by dsimp only;omega)
      (u.iw d a_) A (s.iw d a_) ⟨_,(aA HD).iw d a_⟩ fun a4 w4 h4=>?_
    obtain⟨ds,sz,D,l1,l2,l3,k1,k2,k3,⟨v4,Z,k5⟩,p,z⟩:=h4;dsimp only at ds D k1 k2 k3 Z p z;obtain rfl:=k5 rfl;have H4:=hide (az ds (az sz (az D (az k1 (az k2 (az k3 (az Z (az p z))))))));have H3:=hide (az m (az r d));clear l1 l2 l3 k5 ds sz D k1 k2 k3 Z p z m E u s r d;dsimp only[Exit.then]
    go_wp2
    obtain⟨ds,sz,D,k1,k2,k3,Z,p,z⟩:=aA H4;obtain⟨m,r,d⟩:=aA H3;show Leaves _ _ a4.tmps _ a4.defers .returning w4;rw[ds];refine leaves_cons (f:=67) (args:=#[.pointer (some ⟨w.heap.size+1+1+1,0,none⟩),.pointer (some ⟨w.heap.size+1+1+1+1+1,0,none⟩)]) d_ (by simp[go_sem]) ?_;refine (bMw _ _ _).mono ?_;rintro e u' w5 ⟨rfl,rfl,rfl⟩;refine⟨_,aEl _ _ (w.heap.size+1+1) (w.heap.size+1+1+1) (w.heap.size+1+1+1+1) (w.heap.size+1+1+1+1+1) b m oc a5 (.int .i64 n) (.bool true) (D 6 a_) (D 7 a_) (D 8 a_) (D 9 a_) k1 k2 k3 Z,?_,b,m,n,.inl ⟨o,(aA W).2.1,by rw[K],?_⟩⟩
    · exact (aA a3).trans (d.mono fun k _ T=>a_) |>.trans (p.mono fun k _ T=>by rcases T with h|h|h|h<;>omega)
    · exact (aA HV) _ _ _ _ _ r ((d.mono fun k _ T=>a_).trans (p.mono fun k _ T=>by rcases T with h|h|h|h<;>omega))
  ·
    have W:=hide hO;have HD:=hide hD;have HQ:=hide (az m (az E (az u (az s r))));clear Q Y P X O N L y1 H C U m E u s r hO hD HP H1 HZ
    go_wp2
    obtain⟨m,E,u,s,r⟩:=aA HQ;refine leaves_cons (f:=67) (args:=#[.pointer (some ⟨w.heap.size+1+1+1,0,none⟩),.pointer (some ⟨w.heap.size+1+1+1+1+1,0,none⟩)]) d_ (by simp[go_sem]) ?_;refine (bFr _ _ _ _ c _ (Pv.eX Pv.lS) (aA W) (aA HD) a_).mono ?_;rintro e u' w5 ⟨rfl,rfl,hc,a8,a9⟩;have a6:settle (.panicking ({ v:=Pv.cutV,recovered:=true }::c))=.returning:=Pv.aDg a7;show Leaves _ _ _ _ _ (settle _) _;rw[a6];refine⟨_,aEl _ _ (w.heap.size+1+1) (w.heap.size+1+1+1) (w.heap.size+1+1+1+1) (w.heap.size+1+1+1+1+1) b m _ (Pv.eX Pv.lS) _ _ rfl rfl rfl rfl (u.iw hc a_) a8 (s.iw hc a_) a9,?_,b,n,m,.inr ⟨rfl,?_⟩⟩;exact (aA a3).trans' hc (fun _ _ h=>h) (fun i hi e=>a_);exact (aA HV) _ _ _ _ _ r (hc.mono fun k _ T=>a_)
namespace Pv
theorem bFq(K:uy)(f g gH:Nat)(F:List qy)(h0:jr):Gh (VL K f g gH F h0):=by rintro l X w c ⟨⟨a,d,rfl⟩,h⟩;refine⟨aJO,.agg #[],a,rfl,d,.inr rfl,⟨{ v:=cutV,recovered:=true }::a,fun e b=>?_,rfl⟩,h⟩;rcases List.mem_cons.1 b with rfl|b;rfl;exact d e b
theorem JU{h:jr}(k:CP h)(c:Int):(strOf (sec h.f c)).size<=1000000:=by rw[bC];unfold sec;split;rename_i a;rw[nz,zG,zH a_];exact k.sz _ (aBI _);exact (by decide:([]:di).length<=1000000)
theorem U6(F:List qy){h0:jr}(hd:qx h0):OB (qP F h0):=by
 intro l r a;unfold qP at a;split at a;cases a;exact (by decide:(0:Nat)<=1000000)
 ·rename_i c e;split at a;cases a
  ·cases a;have d:CP (BF F h0 l.dropLast 0):=J7 _ _ hd.ok;have z:(iW.bytes).size<=1000000:=jb;have b:aC.size<=1000000:=jb;unfold fM
   repeat' split
   all_goals first
    |exact z
    |exact b
    |exact JU d _
def aMH(q:Option jk×jr×Nat)(e:Ending):Prop:=(∃ o,wu o/\q.1=some o/\e=.returned (.agg (p_ o)))\/(q.1=none/\∃ a,Zq a/\e=.panicked ({ v:=cutV,recovered:=false }::a))
theorem bFa(m:jm)(S:zl m)(C:B_ m)(F:List qy)(Y:F.length<=1000000)(h0:jr)(hd:qx h0)(g:Nat)(w0 w:ae)(y:Ext w0 w)(o:∀ t,gq (fun b=>g<=b) w t->af t)(O:eu w0 g 31 (opC m))
  (a d gH:Nat) (hN:w0.heap.size<=a) (W:w0.heap.size<=d) (hH:w0.heap.size<=gH) (K X:uy) (V:X g) (u:Dk K a d gH F h0 [] X w) :
  lL prog 45 (#[.func (.func 65) #[] #[.pointer (some ⟨a,0,none⟩),.pointer (some ⟨d,0,none⟩),.pointer (some ⟨gH,0,none⟩)]]++#[.pointer (some ⟨g,0,none⟩)]) w fun e j=>
   gq (fun k=>k=a\/k=d\/k=gH\/(g<=k/\k<w0.heap.size)) w j /\
   eu j a 3 #[.int .i64 ((fE F (dA m) h0 0).2.2:Int)]/\(∃ N,eu j gH 65 N/\RL { w:=j,ok:=Qg K X a d gH,env:=fun _=>none } (qi (fE F (dA m) h0 0).2.1) N.toList) /\
   aMH (fE F (dA m) h0 0) e:=by
 have lg:=O.lt;have lN:=u.bn.lt;obtain⟨cF,f1,f2⟩:=u.bf;obtain⟨cH,f3,f4⟩:=u.bh;have lF:=f1.lt;have lH:=f3.lt;have q:=aFn m;have n:=aEh m;have r:=OQ F h0 (dA m) q 900 n [] d_;have p:=Yo (qP F h0) (dA m) 900 n [];rw[aBJ,mf] at p;have E:(VL K a d gH F h0).inv [] X w:=⟨u,fun k U=>by cases U⟩;have z:=bFs K a d gH F h0 Y hd (dA m) q a_;refine (aSk m S C w g (VL K a d gH F h0) X (O.ext y) (fun t D=>o t (D.mono fun b _ f=>?_)) (fun b f=>?_) (z.mono fun l T _=>⟨aEW,T⟩) (bMz K a d gH F h0) (bFq K a d gH F h0) (U6 F hd) E V).mono ?_
 ·rcases f with (h|h|h)|h<;>omega
 ·rcases f with h|h|h<;>omega
 rintro e j ⟨D,Q⟩
 refine⟨D.mono fun b _ f=>by rcases f with (h|h|h)|h<;>omega,?_⟩
 rcases Q with⟨A,rfl,s,G⟩|⟨J,l,rfl,h1,h2,h3⟩;have x:fE F (dA m) h0 0=_:=r.1 G;rw[x];obtain⟨L,I,H⟩:=s.bh
 exact⟨s.bn,⟨L,I,H⟩,.inl ⟨_,A,rfl,rfl⟩⟩;obtain⟨⟨i,B,rfl⟩,s,P,c,rfl,h4,Z⟩:=h3;have x:fE F (dA m) h0 0=_:=r.2 P c aEW h1 h4 Z;rw[x];obtain⟨L,I,H⟩:=s.bh;have f:=s.bn;rw[gz,aBY] at f;exact⟨f,⟨L,I,H⟩,.inr ⟨rfl,i,B,rfl⟩⟩
end Pv
section
theorem Pv.XB{C:Pv.Ctx}{l1 c:List Pv.PC}{e c2:mg}{b:Int}{d:Bool}(h1:Pv.RL C l1 e.toList)(h2:Pv.RL C c c2.toList):Pv.RV C (.o7 [.agg l1,.agg c,.one (.lit (.int .i64 b)),.one (.lit (.bool d))]) (.tuple #[.agg e,.agg c2,.int .i64 b,.bool d]):=
 .o7 rfl (fun i x a=>by
  match i,a with
  |0,a=>cases a;exact⟨_,rfl,.agg h1⟩|1,a=>cases a;exact⟨_,rfl,.agg h2⟩|2,a=>cases a;exact⟨_,rfl,.one (.lit rfl)⟩|3,a=>cases a;exact⟨_,rfl,.one (.lit rfl)⟩|i+4,a=>cases a)
theorem MW(b:mg)(w:ae) :
  lL prog 29 #[.agg b] w fun e a=>e=.returned (.func (.func 45) #[] #[.pointer (some ⟨w.heap.size,0,none⟩)])/\Ext w a/\a.heap.size=w.heap.size+1/\eu a w.heap.size 31 b:=by
 have d:∀ (c:Fn) (first cap:mg) (w:ae),(Instr.makeFunc c first cap).run prog w=.ok (.func c first cap) w:=fun _ _ _ _=>rfl
 go_enter func29,ntmps29
 go_wp2
 refine aAT (v:=.func (.func 45) #[] #[.pointer (some ⟨w.heap.size,0,none⟩)]) (by simp[results,results29,go_sem]) rfl ⟨rfl,?_,?_,?_⟩
 ·all_goals exact Dp
 simp;exact eu.new w _ _
namespace Pv
def bG(o:Option jk):jk:=o.getD ni
def aSx(q:Option jk×jr×Nat):PV:=.o7 [.agg (qi q.2.1),.agg (h_ (bG q.1)),.one (.lit (.int .i64 (q.2.2:Int))),.one (.lit (.bool q.1.isSome))]
def Gl(q:Option jk×jr×Nat)(ok:uy)(a:mg)(n:Int)(o:Option jk)(w:ae):Prop:=n=(q.2.2:Int)/\RL { w:=w,ok:=ok,env:=fun _=>none } (qi q.2.1) a.toList/\q.1=o
theorem Gl.le{q:Option jk×jr×Nat}{ok a:uy}{f:mg}{n:Int}{o:Option jk}{w w':ae}(c:Gl q ok f n o w)(hs:w.heap.size<=w'.heap.size)(hb:∀ b,b<w.heap.size->ok b->a b/\w'.heap[b]?=w.heap[b]?):Gl q a f n o w':=⟨c.1,c.2.1.le ⟨hs,fun b e d=>hb b e d,fun _ _ _ h=>by cases h⟩,c.2.2⟩
theorem aFt{C:Ctx}{h:jr}{cs:mg}(hr:RL C (qi h) cs.toList):cs.size=18:=by
 unfold qi at hr;obtain⟨cs⟩:=cs;dsimp only at hr;cases hr with
 | cons k1 hr=>cases hr with
  |cons k2 hr=>obtain⟨d,c⟩:=hr.bs1;have b:=k1.width;have a:=k2.width;subst c;simp[PC.width] at b a;simp[b,a,d]
theorem aYo{C:Ctx}{h:jr}{cs:mg}(hr:RL C (qi h) cs.toList):cs.all (·.oneCell')=true:=by rw[<-aCS,aGp];exact fun x a=>hr.ones x a
end Pv
theorem aRq{a:mg}{w:ae}{e Ob:Nat}{c b:mg}(hs:c.size=18)(f:b.size=55)(h6:a.getD 6 dC=.pointer (some ⟨e,0,none⟩))(d:a.getD 7 dC=.pointer (some ⟨Ob,0,none⟩))
  (h:eu w e 65 c) (g:eu w Ob 40 b) :
  (results Tryz.f15 a).run prog w=.ok (.tuple #[.agg c,.agg b,a.getD 8 dC,a.getD 9 dC]) w:=by
 have j:=kK h wF hs;have i:=kK g kM f;simp only[aBL] at h6 d;simp[results,results15,h6,d,asAddr,j,i]
namespace Pv
def okF(ok0:uy)(S:Nat):Nat->Prop:=fun b=>(ok0 b\/S<=b)/\¬(S<=b/\b<S+11)
theorem U5(m:jm)(hm:zl m)(P:B_ m)(F:List qy)(hF:F.length<=1000000)(h0:jr)(hd:qx h0)(ok0:uy)(y:mg)(B:Option Addr)(L S:Nat)(w:ae)(I:af w)
  (Q:RL { w:=w,ok:=ok0,env:=fun _=>none } (qi h0) y.toList) (hV:RL { w:=w,ok:=ok0,env:=fun _=>none } [uP F] [.slice B L S])
  (l d:ae) (Z:Ext w l) (z7:l.heap.size=w.heap.size+4) (k1:Ext l d) (k2:d.heap.size=l.heap.size+1) (k3:eu d l.heap.size 31 (opC m)) :
  lL prog 34 #[.func (.func 45) #[] #[.pointer (some ⟨l.heap.size,0,none⟩)],.agg y,.slice B L S] d fun e z=>gq (fun k=>l.heap.size<=k) d z /\
   ∃ i,wu (bG (fE F (dA m) h0 0).1)/\e=.returned (.tuple #[.agg i,.agg (p_ (bG (fE F (dA m) h0 0).1)),.int .i64 ((fE F (dA m) h0 0).2.2:Int),.bool (fE F (dA m) h0 0).1.isSome]) /\
    RL { w:=z,ok:=okF ok0 w.heap.size,env:=fun _=>none } (qi (fE F (dA m) h0 0).2.1) i.toList:=by
 obtain⟨q,V⟩:=jc (fE F (dA m) h0 0);rw[V];refine (NW 45 _ y B L S (Gl q (okF ok0 w.heap.size)) l.heap.size d (aFt Q) (aYo Q) (fun args w=>ai) a_ (fun a n o G wb hv j=>?_) (fun G X U y1 y2 y3=>?_)).mono ?_;exact hv.le j.size (fun b f g=>⟨g,j.block b f (fun W=>g.2 a_)⟩);have r:Ext w G:=(Z.trans k1).trans X
 have E:∀ {p:g_} {T:jl},RL { w:=w,ok:=ok0,env:=fun _=>none } p T->RL { w:=G,ok:=Qg (fun b=>ok0 b\/w.heap.size<=b) (fun b=>w.heap.size<=b/\b<w.heap.size+11/\b≠d.heap.size+1+1+1+1/\b≠d.heap.size+1/\b≠d.heap.size+1+1) (d.heap.size+1+1+1+1) (d.heap.size+1) (d.heap.size+1+1),env:=fun _=>none } p T:=fun hr=>
  hr.le ⟨r.size,fun b f g=>by
   have a0:b<w.heap.size:=f
   exact⟨⟨.inl g,fun H=>a_,a_,a_,a_⟩,r.block b f (fun W=>W)⟩,fun _ _ _ h=>by cases h⟩
 have C:=bFa m hm P F hF h0 hd l.heap.size d G X (fun w' j=>I.past (B:=l.heap.size) a_ (I.ext r) j) k3 (d.heap.size+1+1+1+1) (d.heap.size+1) (d.heap.size+1+1) a_ a_ a_
  (fun b=>ok0 b\/w.heap.size<=b) (fun b=>w.heap.size<=b/\b<w.heap.size+11/\b≠d.heap.size+1+1+1+1/\b≠d.heap.size+1/\b≠d.heap.size+1+1) a_
  { bn:=y3,bf:=⟨_,y1,E hV⟩,bh:=⟨_,y2,E Q⟩,ne:=⟨a_,a_,a_⟩,good:=fun c j=>(by cases j),mine:=fun b f=>⟨a_,f.2.2.1,f.2.2.2.1,f.2.2.2.2⟩,mem:=I.ext r,tab:=fun b f=>(by have:=aKw I f;exact⟨fun H=>a_,a_,a_,a_⟩),up:=fun b f=>.inr a_ }
 rw[V] at C;refine C.mono ?_;rintro e z ⟨j,hN,⟨Y,f,u⟩,D⟩;have g:∀ b,Qg (fun b=>ok0 b\/w.heap.size<=b) (fun b=>w.heap.size<=b/\b<w.heap.size+11/\b≠d.heap.size+1+1+1+1/\b≠d.heap.size+1/\b≠d.heap.size+1+1) (d.heap.size+1+1+1+1) (d.heap.size+1) (d.heap.size+1+1) b->okF ok0 w.heap.size b:=fun b f=>⟨f.1,fun H=>f.2.1 ⟨H.1,H.2,f.2.2⟩⟩;have s:RL { w:=z,ok:=okF ok0 w.heap.size,env:=fun _=>none } (qi q.2.1) Y.toList:=u.le ⟨dE _,fun b _ f=>⟨g b f,rfl⟩,fun _ _ _ h=>by cases h⟩;refine⟨j,Y,_,aFt u,aYo u,f,hN,?_⟩;rcases D with⟨o,ho,x,rfl⟩|⟨x,t,O,rfl⟩;exact .inl ⟨o,ho,rfl,rfl,s,x⟩;exact .inr ⟨t,O,rfl,rfl,s,x⟩;rintro e z ⟨j,i,n,_,N⟩
 refine⟨j,?_⟩;rcases N with⟨o,g,rfl,K,J,A⟩|⟨rfl,K,J,A⟩
 refine⟨i,?_,?_,J⟩;rw[A];exact g;rw[K,A];rfl;refine⟨i,?_,?_,J⟩;rw[A];exact lS;rw[K,A];rfl
end Pv
theorem MR(m:Pv.jm)(hm:Pv.zl m)(u:Pv.B_ m)(F:List qy)(hF:F.length<=1000000)(h0:jr)(hd:qx h0)(ok0:uy)(g:mg)(B:Option Addr)(nF cF:Nat)(w:ae)(hM:af w)
  (hH:Pv.RL { w:=w,ok:=ok0,env:=fun _=>none } (Pv.qi h0) g.toList) (hV:Pv.RL { w:=w,ok:=ok0,env:=fun _=>none } [Pv.uP F] [.slice B nF cF]) :
  lL prog 15 #[.agg g,.agg (Pv.opC m),.slice B nF cF] w fun e Y=>Ext w Y/\∃ H,e=.returned H /\
   Pv.RV { w:=Y,ok:=fun b=>ok0 b\/w.heap.size<=b,env:=fun _=>none } (Pv.aSx (fE F (Pv.dA m) h0 0)) H:=by
 have A:=hide (show g.size=18/\(Pv.opC m).size=102 from⟨Pv.aFt hH,Pv.vV u⟩);have HR:=hide (fun W=>MW (Pv.opC m) W);have Z:=hide (fun d w1 X V=>Pv.U5 m hm u F hF h0 hd ok0 g B nF cF w hM hH hV d w1 X V);obtain⟨q,hq⟩:=jc (fE F (Pv.dA m) h0 0);rw[hq] at Z ⊢;obtain⟨I,s⟩:∃ x,Pv.opC m=x:=⟨_,rfl⟩;rw[s] at A HR Z ⊢;obtain⟨oc,f⟩:∃ x,Pv.p_ (Pv.bG q.1)=x:=⟨_,rfl⟩;rw[f] at Z;have HO:=hide f;clear s hM hm u hF hd hH hV hq f
 go_enter func15,ntmps15
 go_upto_region 1 with fail
 generalize c:aEJ _ (.cells _ 40)=d
 have X:Ext w d:=by
  rw[<-c]
  all_goals exact Dp
 have z2:eu d w.heap.size 65 g:=by rw[<-c];exact (((eu.new w _ _).alloc _).alloc _).alloc _
 have z3:eu d (w.heap.size+1) 31 I:=by rw[<-c];exact ((eu.new' _ _ _ d_).alloc _).alloc _
 have z5:eu d (w.heap.size+1+1) 65 (#[.slice none 0 0,.slice none 0 0]++DD 16 (.int .u8 0)):=by rw[<-c];exact (eu.new' _ _ _ d_).alloc _
 have z6:eu d (w.heap.size+1+1+1) 40 (Pv.p_ Pv.ni):=by rw[<-c];exact eu.new' _ _ _ d_
 have V:d.heap.size=w.heap.size+4:=by rw[<-c];simp
 have z8:Ext w d.drew:=X.drew;have G:=hide (show Ext w d.drew/\eu d.drew (w.heap.size+1+1) 65 (#[.slice none 0 0,.slice none 0 0]++DD 16 (.int .u8 0))/\eu d.drew (w.heap.size+1+1+1) 40 (Pv.p_ Pv.ni)/\d.drew.heap.size=w.heap.size+4 from⟨z8,z5.drew,z6.drew,V⟩);refine wp_region_held_drew (S:=fun W=>eu W w.heap.size 65 g/\eu W (w.heap.size+1) 31 I) ai ⟨z2.drew,z3.drew⟩ (fun a=>?_);clear c X z2 z3 z5 z6 V z8;generalize d.drew=Wd at G a ⊢;refine aBC (i:=0) (v:=_) rfl ai ai ai (fun _ _ _ h=>h) (ylb Pv.aOm rfl ay rfl (aA A).2 (fun Y hw=>hw.2)) qm ?_
 try simp only[Act.put,zA,zB,zC,zD,zF]
 refine aBC (i:=2) (v:=_) rfl ai ai ai (fun _ _ _ h=>h) (ylb wF rfl ay rfl (aA A).1 (fun Y hw=>hw.1)) qm ?_
 try simp only[Act.put,zA,zB,zC,zD,zE,zF]
 refine aBC (i:=3) (v:=?_) rfl ai ai ai (fun _ _ _ h=>h) (Or.inl ⟨ay,fun C j=>?_⟩) qm ?_;rotate_left
 ·(first|(go_simp;done)|(go_simp;with_reducible rfl))
 try simp only[Act.put,zA,zB,zC,zD,zE,zF]
 refine wpAnyH_ready (rs:=[1]) ai d_ (AllReadyH.cons (o:=_) rfl (fun K k=>?_) AllReadyH.nil)
 try go_simp
 (refine (aA HR Wd).mono ?_;rintro e w1 ⟨rfl,l,L,J⟩;have z:=az (a.1.ext l) (a.2.ext l);have H1:=hide (az l (az L J));clear a l L J)
 refine k.out _ _ ?_ (fun a=>?_);exact z;clear k K
 try simp only[Act.put,zA,zB,zC,zD,zE,zF]
 refine wpAnyH_ready (rs:=[4]) ai d_ (AllReadyH.cons (o:=_) rfl (fun K k=>?_) AllReadyH.nil)
 try go_simp
 (obtain⟨l,L,J⟩:=aA H1;have hz:=(aA G).2.2.2;refine (aA Z Wd w1 (aA G).1 hz l L J).mono ?_;rintro e w2 ⟨E,a0,Q,rfl,D⟩;have z:=az (a.1.iw E a_) (a.2.iw E a_);have H2:=hide (az (((aA G).1.trans l).trans' E (fun _ _ h=>h) (fun i hi e=>a_)) (az (((aA G).2.1.ext l).iw E a_) (az (((aA G).2.2.1.ext l).iw E a_) (az Q D))));have e3:=Pv.aFt D;have e4:=Pv.aYo D;clear a l L J hz E D Q H1)
 refine k.out _ _ ?_ (fun a=>?_);exact z;clear k K
 try simp only[Act.put,zA,zB,zC,zD,zE,zF]
 refine aBC (i:=5) (v:=?_) rfl ai ai ai (fun _ _ _ h=>h) (Or.inl ⟨ay,fun C j=>?_⟩) qm ?_;rotate_left
 ·(first|(go_simp;done)|(go_simp;with_reducible rfl))
 try simp only[Act.put,zA,zB,zC,zD,zE,zF]
 refine aBC (i:=6) (v:=?_) rfl ai ai ai (fun _ _ _ h=>h) (Or.inl ⟨ay,fun C j=>?_⟩) qm ?_;rotate_left
 ·(first|(go_simp;done)|(go_simp;with_reducible rfl))
 try simp only[Act.put,zA,zB,zC,zD,zE,zF]
 refine aBC (i:=7) (v:=?_) rfl ai ai ai (fun _ _ _ h=>h) (Or.inl ⟨ay,fun C j=>?_⟩) qm ?_;rotate_left
 ·(first|(go_simp;done)|(go_simp;with_reducible rfl))
 try simp only[Act.put,zA,zB,zC,zD,zE,zF]
 refine aBC (i:=8) (v:=?_) rfl ai ai ai (fun _ _ _ h=>h) (Or.inl ⟨ay,fun C j=>?_⟩) qm ?_;rotate_left
 ·(first|(go_simp;done)|(go_simp;with_reducible rfl))
 try simp only[Act.put,zA,zB,zC,zD,zE,zF]
 refine wpAnyH_ready (rs:=[9]) ai d_ (AllReadyH.cons (o:=_) rfl (fun K k=>?_) AllReadyH.nil)
 (refine jQ (ty:=65) (t:=65) (x:=.tmp 6) (y:=.tmp 15) rfl rfl wF rfl rfl (aA H2).2.1 rfl e3 e4 ?_;intro w3 U r O;have z:=az (a.1.iw r a_) (a.2.iw r a_);have H3:=hide (az U (az r O));clear a U r O)
 refine k.out _ _ ?_ (fun a=>?_);exact z;clear k K
 try simp only[Act.put,zD,zE,zF]
 refine wpAnyH_ready (rs:=[10]) ai d_ (AllReadyH.cons (o:=_) rfl (fun K k=>?_) AllReadyH.nil)
 (refine jQ (ty:=40) (t:=40) (x:=.tmp 7) (y:=.tmp 16) rfl rfl kM rfl rfl ((aA H2).2.2.1.iw (aA H3).2.1 a_) (Pv.eX Pv.lS) (by rw[<-aA HO];exact Pv.eX (aA H2).2.2.2.1) (by rw[<-aA HO];exact Pv.oK _) ?_;intro w4 T n N;have z:=az (a.1.iw n a_) (a.2.iw n a_);have H4:=hide (az T (az n N));clear a T n N)
 refine k.out _ _ ?_ (fun a=>?_);exact z;clear k K
 try simp only[Act.put,zD,zE,zF]
 refine aBC (i:=11) (v:=?_) rfl ai ai ai (fun _ _ _ h=>h) (Or.inl ⟨ay,fun C j=>?_⟩) qm ?_;rotate_left
 ·(first|(go_simp;done)|(go_simp;with_reducible rfl))
 try simp only[Act.put,zA,zB,zC,zD,zE,zF]
 refine aBC (i:=12) (v:=?_) rfl ai ai ai (fun _ _ _ h=>h) (Or.inl ⟨ay,fun C j=>?_⟩) qm ?_;rotate_left
 ·(first|(go_simp;done)|(go_simp;with_reducible rfl))
 try simp only[Act.put,zA,zB,zC,zD,zE,zF]
 refine wpAnyH_done ai ?_ _;clear a
 go_wp2
 obtain⟨x1,_,_,Q,D⟩:=aA H2;obtain⟨b3,c3,s3⟩:=aA H3;obtain⟨b4,c4,s4⟩:=aA H4;have f:=aA HO;refine aAT (aRq e3 (by rw[<-f];exact Pv.eX Q) rfl rfl (b3.iw c4 a_) b4) rfl ⟨?_,_,rfl,?_⟩;exact (x1.trans' c3 (fun _ _ h=>h) (fun i hi e=>a_)).trans' c4 (fun _ _ h=>h) (fun i hi e=>a_)
 have a1:∀ {p:List Pv.PC} {xs:jl},Pv.RL { w:=w2,ok:=Pv.okF ok0 w.heap.size,env:=fun _=>none } p xs->Pv.RL { w:=w4,ok:=fun b=>ok0 b\/w.heap.size<=b,env:=fun _=>none } p xs:=fun hr=>
  hr.le ⟨by rw[s4,s3];exact dE _,fun b hb P=>⟨P.1,by
   have hn:¬(w.heap.size<=b/\b<w.heap.size+11):=P.2
   exact (c4.block b (by rw[s3];exact hb) a_).trans (c3.block b hb a_)⟩,fun _ _ _ h=>by cases h⟩
 show Pv.RV _ (Pv.aSx q) (.tuple #[.agg a0,.agg oc,.int .i64 (q.2.2:Int),.bool q.1.isSome]);rw[<-f];exact Pv.XB (a1 D) (Pv.bLq _ Q)
namespace Pv
def aTz:g_->Option qy
 |[.lit (.bool c),.lit (.int .i64 b),.lit (.bool n)]=>some ⟨c,b,n⟩|_=>none
def rE(n:Nat)(f:Nat->g_):List qy:=(yz n).map fun i=>(aTz (f i)).getD yw
def GK:PC->Option (Prop×List qy)
 |.sl 3 n f=>some (∀ i,i<n->(aTz (f i)).isSome=true,rE n f)|.lit (.slice none 0 0)=>some (True,[])|_=>none
theorem bOp{l:g_}(h:(aTz l).isSome=true):l=nT ((aTz l).getD yw):=by
 unfold aTz at h ⊢;split
 rfl;rename_i a
 split at h;rename_i c b n;exact absurd rfl (a c b n);cases h
theorem bCa{C:Ctx}{c:PC}{p:Prop}{F:List qy}(e:GK c=some (p,F))(d:p){v:ag}(hr:R C c [v]):(∃ B n k,v=.slice B n k)/\R C (uP F) [v]:=by
 unfold GK at e;split at e;rename_i n f;cases e;have a:(rE n f).length=n:=by simp[rE]
 refine⟨?_,?_⟩;cases hr with
 |sl r _ _=>obtain⟨_,A,k,rfl,_⟩:=r;exact⟨_,_,_,rfl⟩
 unfold uP;rw[a];refine hr.BH fun i b=>?_;have g:=bOp (d i b);rw[g];unfold yu rE;congr 1;rw[zG,aAg,aDc b];rfl;cases e;obtain rfl:v=.slice none 0 0:=by cases hr;rfl
 exact⟨⟨_,_,_,rfl⟩,R.sl (Reads.nil _ 3) (fun _ _ h=>absurd h d_) (fun i h=>absurd h d_)⟩;cases e
def bFj:ji->Option (Prop×PV)
 |[.w (.agg c),.w (.agg ol),.w (.one d)]=>match BI c,bRu ol,GK d with
  |some (p,a),some m,some (b,F)=>some (p/\b/\qx a/\F.length<=1000000/\zl m,aSx (fE F (dA m) a 0))|_,_,_=>none
 |_=>none
theorem aCh:b_ prog af 15 (aV false bFj):=by
 refine aU (aB func15 ai rfl) (fun L p r a y w g o C x=>?_);unfold bFj at a;split at a;rename_i S Q T;split at a;rename_i P G m O F K H J;cases a;obtain⟨u,t,s,q,c⟩:=y
 match o,x with
 | [v1, v2,v3],⟨k1,k2,k3,_⟩=>
  cases k1 with
  | w k1=>cases k1 with
   | @agg _ c1 k1=>
    cases k2 with
    | w k2=>cases k2 with
     | @agg _ c2 k2=>
      cases k3 with
      | w k3=>cases k3 with
       |one k3=>rw[aQc H] at k2;obtain⟨E,i,l⟩:=bBg k2;have I:c2=opC m:=TC E;subst I;obtain⟨⟨B,n,k,rfl⟩,z⟩:=bCa J t k3;have j:=RL.cons z RL.nil;refine (MR m c ⟨c.root,i,c.link,c.ot,c.xt,l⟩ F q G s g c1 B n k w C (tZ K u k1) j).mono ?_;rintro e N ⟨D,f,rfl,d⟩;exact⟨f,rfl,D,d.le ⟨dE _,fun b _ A=>⟨A.elim (fun h=>.inl ⟨rfl,h⟩) .inr,rfl⟩,fun _ _ _ h=>by cases h⟩⟩
 cases a;cases a
end Pv
structure y9(A L:Nat)(lv:ag)(log:List u_)(i:Nat)(X:uy)(w:ae):Prop where
 at_:w.heap[A]?=some (.cells #[.int .i64 (i:Int)] 3 (0,0))
 FO:w.heap[L]?=some (.cells #[lv] 32 (0,0))
 reads:Reads w 2 lv log.length (logCells log)
 ne:A≠L
 own:0<log.length->lv.ownBlock≠some A
 le:i<=log.length
 mine:∀ k,X k->k<w.heap.size/\k≠A/\k≠L/\(0<log.length->lv.ownBlock≠some k)
def pending(a:Acc):ag:=.iface 114 a.v
theorem y9.iw{A L:Nat}{d:ag}{a:List u_}{i:Nat}{X:uy}{w w':ae}(h:y9 A L d a i X w)(hc:gq X w w'):y9 A L d a i X w':=
 ⟨
  gq.blk hc h.at_ (fun b=>(h.mine _ b).2.1 rfl),gq.blk hc h.FO (fun b=>(h.mine _ b).2.2.1 rfl),h.reads.iw hc (fun _ e c b=>(h.mine _ b).2.2.2 e c),h.ne,h.own,h.le,
  fun k c=>⟨aAF (h.mine k c).1 hc.size,(h.mine k c).2⟩⟩
theorem y9.step{A L:Nat}{d:ag}{a:List u_}{i:Nat}{X:uy}{w:ae}(h:y9 A L d a i X w)(g:i<a.length):y9 A L d a (i+1) X (w.setCell ⟨A,0,none⟩ (.int .i64 ((i:Int)+1))):=by have c:gq (fun k=>k=A) w (w.setCell ⟨A,0,none⟩ (.int .i64 ((i:Int)+1))):=gq.setCell (S:=fun k=>k=A) (p:=⟨A,0,none⟩) (gq.refl _ _) (.inl rfl) _;refine⟨?_,gq.blk c h.FO (fun e=>h.ne e.symm),h.reads.iw c (fun k f b e=>h.own f (e ▸ b)),h.ne,h.own,g,fun k b=>⟨aAF (h.mine k b).1 c.size,(h.mine k b).2⟩⟩;exact one_setCell h.at_
theorem XF(A L:Nat)(x:ag)(d:List u_)(a:Acc)(i:Nat)(X:uy)(w:ae)(h:y9 A L x d i X w)(F:Nat)(N:F=43) :
  lL prog F (#[a.v]++#[.pointer (some ⟨A,0,none⟩),.pointer (some ⟨L,0,none⟩)]) w (oM (y9 A L x d) (fun k=>k=A) X pending w u_.v (replay d a i)):=by
 subst N;have V:=cell_of_one h.at_;have E:=free_of_one h.at_;have U:=cell_of_one h.FO;have O:=lt_of_heap h.at_;have K:=lt_of_heap h.FO;have C:¬L=A:=fun e=>h.ne e.symm;have m:=h.reads.Aw;have l:=hide h;obtain⟨_,B,c,rfl,D,G,_⟩:=h.reads;clear h;unfold maxLen at m;obtain⟨s,u,t,q⟩:=a;simp only[Acc.v];by_cases f:i<d.length
 ·obtain⟨b,o,W,Q,P,y,_,_,T,j,g,I,H⟩:=(aA l).reads.at2 f;cases y;have J:¬b=A:=fun e=>(aA l).own a_ (by rw[e];rfl);rw[(aEk d i).1,zH f] at j;rw[(aEk d i).2,zH f] at g;cases j;cases g;have R:Hid (replay d ⟨s,u,t,q⟩ i=.ok d[i] (i+1)):=hide (by unfold replay;rw[zH f]);generalize d[i]=r at *;have n:¬d.length<=i:=a_
  go_enter func43,ntmps43
  go_wp2
  go_returns
  have z:=(aA l).step f;refine oM.ok (aA R) rfl ?_ ?_;exact (z.iw (gq.alloc (gq.refl _ _) _)).iw (gq.alloc (gq.refl _ _) _);exact ((gq.setCell (S:=fun k=>k=A) (p:=⟨A,0,none⟩) (gq.refl _ _) (.inl rfl) _).alloc _).alloc _
 ·have R:Hid (replay d ⟨s,u,t,q⟩ i=.error ⟨s,u,t,q⟩ i):=hide (by unfold replay;rw[PR a_]);have n:d.length<=i:=a_
  go_enter func43,ntmps43
  go_wp2
  refine⟨rfl,oM.err (aA R) rfl ?_ ?_⟩;exact ((aA l).iw (gq.alloc (gq.refl _ _) _)).iw (gq.alloc (gq.refl _ _) _);exact ((gq.refl _ _).alloc _).alloc _
theorem aVx{P:ed}{ops:Array ik}{o:ik}{a:Act}{w w':ae}{K:Act->jg}{Q:Exit->Act->jg}{E:Prop}(b:o.guard=none){ty:bu}{x y:Operand}(d:o.op=.store ty x y)(hr:(Instr.storeAt ty (a.eval x) (a.eval y)).run P w=.ok () w')(h:K (a.put o.dst dC) w') :
  if Region.wanted o (aAG ops a.tmps)=true then Oper.wp P o a w K Q else E:=by
 have c:Region.wanted o (aAG ops a.tmps)=true:=by simp[Region.wanted,b]
 rw[au c];unfold Oper.wp;rw[show (execOp a.eval o).run P w=.ok .skip w' from by simp[execOp,d,hr]];exact h
theorem zS:zk prog 37 4:=⟨⟨_,underlying37,rfl⟩,ai⟩
theorem aKi(x:ag)(w:ae):(Instr.typeAssert (.iface 114 x) 20 114 true).run prog w=.ok (.tuple #[x,.bool true]) w:=ai
attribute [local go_sem] aKi
theorem catch_panicking(d Ob c:Nat)(a:Acc)(x0 Z Y X H:ag)(y:mg)(f:List aBG)(w:ae)(hy:y.size=55)
  (O:eu w d 37 #[x0,Z,Y,X]) (L:eu w Ob 40 y) (N:eu w c 4 #[H]) (C:¬d=Ob) (D:¬d=c) (A:¬Ob=c) :
  CallsD prog 44 #[.pointer (some ⟨d,0,none⟩),.pointer (some ⟨Ob,0,none⟩),.pointer (some ⟨c,0,none⟩)] (.panicking ({ v:=pending a,recovered:=false }::f)) w fun e u' p=>
   e=.returned (.tuple #[])/\u'=.panicking ({ v:=pending a,recovered:=true }::f)/\gq (fun k=>k=d\/k=Ob\/k=c) w p /\
   eu p d 37 #[.int .i64 a.kind,.int .i64 a.ng,.int .i64 a.cell,.string a.bytes]/\eu p Ob 40 (Pv.p_ Pv.ni)/\eu p c 4 #[.bool false]:=by
 have lA:=O.lt;have lO:=L.lt;have lD:=N.lt;have HA:=hide O;have HO:=hide (az L hy);have HD:=hide N;clear O L N hy;have a1:¬Ob=d:=fun e=>C e.symm;have a2:¬c=d:=fun e=>D e.symm;have a0:¬c=Ob:=fun e=>A e.symm;obtain⟨ak,ab,ac,ax⟩:=a;simp only[pending,Acc.v];refine callsD_of_wpS func44 rfl fun a3 cs hu=>?_;simp only[ntmps44,aBM,We,aBJ,aDE,aDF,aDG,aDH,aDI,aDJ,IR,C_];apply wpS_seq;apply wpS_region;simp[wpOpsS,go_sem,recoverD,hu,Exit.thenS];refine wpS_of_wp ?_
 go_upto_region 8 with fail
 generalize F:aEJ _ (.cells _ 40)=W
 have n:Ext w W:=by
  rw[<-F]
  all_goals exact Dp
 have V:eu W w.heap.size 114 #[.int .i64 ak,.int .i64 ab,.int .i64 ac,.string ax]:=by rw[<-F];exact (eu.new' _ _ _ d_).alloc _
 have Q:eu W (w.heap.size+1) 40 (Pv.p_ Pv.ni):=by rw[<-F];exact eu.new' _ _ _ d_
 have E:=hide (show Ext w W.drew/\eu W.drew d 37 #[x0,Z,Y,X]/\eu W.drew Ob 40 y/\eu W.drew c 4 #[H] from⟨n.drew,((aA HA).ext n).drew,((aA HO).1.ext n).drew,((aA HD).ext n).drew⟩);refine wp_region_held_drew (S:=fun W=>eu W w.heap.size 114 #[.int .i64 ak,.int .i64 ab,.int .i64 ac,.string ax]/\eu W (w.heap.size+1) 40 (Pv.p_ Pv.ni)) ai ⟨V.drew,Q.drew⟩ (fun b=>?_);clear F n V Q;generalize W.drew=Wd at E b ⊢;refine aBC (i:=0) (v:=?_) rfl ai ai ai (fun _ _ _ h=>h) (Or.inl ⟨ay,fun wz a5=>?_⟩) qm ?_;rotate_left
 ·(first|(go_simp;done)|(go_simp;with_reducible rfl))
 try simp only[Act.put,zA,zB,zC,zD,zF]
 refine aBC (i:=1) (v:=_) rfl ai ai ai (fun _ _ _ h=>h) (ylb zS rfl ay rfl rfl (fun p J=>J.1)) qm ?_
 try simp only[Act.put,zA,zB,zC,zD,zE,zF]
 refine aBC (i:=2) (v:=_) rfl ai ai ai (fun _ _ _ h=>h) (ylb kM rfl ay rfl (Pv.eX Pv.lS) (fun p J=>J.2)) qm ?_
 try simp only[Act.put,zA,zB,zC,zD,zE,zF]
 refine wpAnyH_ready (rs:=[3]) ai d_ (AllReadyH.cons (o:=_) rfl (fun K l=>?_) AllReadyH.nil)
 (refine jQ (ty:=37) (t:=37) (x:=.tmp 0) (y:=.tmp 14) rfl rfl zS rfl rfl (aA E).2.1 rfl rfl (by rw[<-aCS];rfl) ?_;intro w2 u j r;have z:=az (b.1.iw j a_) (b.2.iw j a_);have P:=hide (az u (az j r));clear b u j r)
 refine l.out _ _ ?_ (fun b=>?_);exact z;clear l K
 try simp only[Act.put,zD,zE,zF]
 refine wpAnyH_ready (rs:=[4]) ai d_ (AllReadyH.cons (o:=_) rfl (fun K l=>?_) AllReadyH.nil)
 (refine jQ (ty:=40) (t:=40) (x:=.tmp 1) (y:=.tmp 15) rfl rfl kM rfl rfl ((aA E).2.2.1.iw (aA P).2.1 a_) (aA HO).2 (Pv.eX Pv.lS) (Pv.oK _) ?_;intro w3 s g q;have z:=az (b.1.iw g a_) (b.2.iw g a_);have B:=(((aA E).2.2.2.iw (aA P).2.1 a_).iw g a_);have H3:=hide (az s (az g (az q B)));clear b s g q B)
 refine l.out _ _ ?_ (fun b=>?_);exact z;clear l K
 try simp only[Act.put,zD,zE,zF]
 refine wpAnyH_ready (rs:=[5]) ai d_ (AllReadyH.cons (o:=_) rfl (fun K l=>?_) AllReadyH.nil)
 (obtain⟨w4,e4,G,m,I⟩:=(bBk c false).st _ #[H] rfl (aA H3).2.2.2;refine aVx (ty:=4) (x:=.tmp 2) (y:=.const (.bool false)) rfl rfl e4 ?_;have z:=az (b.1.iw m a_) (b.2.iw m a_);have H4:=hide (az G (az m I));clear b G m I e4)
 refine l.out _ _ ?_ (fun b=>?_);exact z;clear l K
 try simp only[Act.put,zD,zE,zF]
 refine wpAnyH_done ai ?_ _;clear b
 go_wp2
 obtain⟨n,zA,zO,zD⟩:=aA E;obtain⟨b2,c2,s2⟩:=aA P;obtain⟨b3,c3,s3,a4⟩:=aA H3;obtain⟨G,m,I⟩:=aA H4;refine⟨rfl,_,rfl,.tuple #[],results_none rfl _ _ _,rfl,rfl,?_,?_,?_,?_⟩;exact ((n.trans' c2 (T:=fun k=>k=d) (U:=fun k=>k=d\/k=Ob\/k=c) (fun _ _ h=>h.elim) (fun i _ e=>.inl e)).trans' c3 (T:=fun k=>k=Ob) (U:=fun k=>k=d\/k=Ob\/k=c) (fun _ _ h=>h) (fun i _ e=>.inr (.inl e))).trans' m (T:=fun k=>k=c) (U:=fun k=>k=d\/k=Ob\/k=c) (fun _ _ h=>h) (fun i _ e=>.inr (.inr e));exact (b2.iw c3 C).iw m D;exact b3.iw m A;exact G
theorem catch_idle(x y z:ag)(w:ae) :
  CallsD prog 44 #[x,y,z] .returning w fun e c b=>e=.returned (.tuple #[])/\c=.returning/\w=b:=by
 refine callsD_of_wpS func44 rfl fun a f d=>?_;simp only[ntmps44,aBM,We,aBJ,aDE,aDF,aDG,aDH,aDI,aDJ,IR,C_];apply wpS_seq;apply wpS_region;simp[wpOpsS,go_sem,recoverD,d,Exit.thenS];refine wpS_of_wp ?_
 go_wp2
 exact⟨rfl,.returning,by cases a;simp_all,.tuple #[],results_none rfl _ _ _,rfl,rfl,rfl⟩
end
def oG(w:ae)(a:ag):ae:=((((w.alloc (.cells #[a] 32)).alloc (.cells #[.int .i64 0,.int .i64 0,.int .i64 0,.string { data:=#[] }] 37)).alloc (.cells (Pv.p_ Pv.ni) 40)).alloc (.cells #[.bool false] 4)).alloc (.cells #[.int .i64 0] 3)
theorem aKd(w:ae)(a:ag)(b:List u_)(hl:Reads w 2 a b.length (logCells b)) :
  Ext w (oG w a)/\(oG w a).heap.size=w.heap.size+5 /\
  y9 (w.heap.size+1+1+1+1) w.heap.size a b 0 (fun k=>k=w.heap.size+1\/k=w.heap.size+1+1\/k=w.heap.size+1+1+1) (oG w a) /\
  eu (oG w a) (w.heap.size+1) 37 #[.int .i64 0,.int .i64 0,.int .i64 0,.string { data:=#[] }] /\
  eu (oG w a) (w.heap.size+1+1) 40 (Pv.p_ Pv.ni)/\eu (oG w a) (w.heap.size+1+1+1) 4 #[.bool false]:=by
 have d:=fun k (c:0<b.length) e=>hl.DW a_ c k e
 have g:Ext w (oG w a):=by
  unfold oG
  all_goals exact Dp
 refine⟨g,by simp[oG],⟨?_,?_,hl.ext g,a_,?_,a_,?_⟩,?_,?_,?_⟩;exact eu.new' _ _ _ d_;exact ((((eu.new w 32 #[a]).alloc _).alloc _).alloc _).alloc _;intro c e;have:=d _ c e;omega;rintro k e;refine⟨by simp[oG];omega,a_,a_,fun c f=>?_⟩;have:=d _ c f;omega;exact (((eu.new' _ _ _ d_).alloc _).alloc _).alloc _;exact ((eu.new' _ _ _ d_).alloc _).alloc _;exact (eu.new' _ _ _ d_).alloc _
theorem aGt(a:mg)(w:ae)(k Ob f:Nat)(j i h g d:ag)(c:mg)(l:c.size=55)(h4:a[4]?.getD dC=.pointer (some ⟨k,0,none⟩))(h5:a[5]?.getD dC=.pointer (some ⟨Ob,0,none⟩))(h6:a[6]?.getD dC=.pointer (some ⟨f,0,none⟩))
  (o:eu w k 37 #[j,i,h,g]) (m:eu w Ob 40 c) (n:eu w f 4 #[d]) :
  (results Tryz.f28 a).run prog w=.ok (.tuple #[.agg #[j,i,h,g],.agg c,d]) w:=by
 have e:=kK o zS rfl;have q:=kK m kM l;have b:=n.cell 0;simp only[aBU,aBN] at b;have p:(loadVar 4 ⟨f,0,none⟩).run prog w=.ok d w:=by simp[go_sem,b]
 simp[results,results28,h4,h5,h6,asAddr,e,q,p]
theorem Jl (G:Nat) (pc:mg) (X:ag) (d:List u_) (p:aj Pv.jk) (T:uy) (w:ae) (hl:Reads w 2 X d.length (logCells d)) (hG:∀ (args:mg) (w:ae),(aAE G args).run prog w=.ok (.enter G args) w)
    (hp : ∀ j,Ext w j->j.heap.size=w.heap.size+5->y9 (w.heap.size+1+1+1+1) w.heap.size X d 0 (fun k=>k=w.heap.size+1\/k=w.heap.size+1+1\/k=w.heap.size+1+1+1) j ->
      lL prog G (#[.func (.func 43) #[] #[.pointer (some ⟨w.heap.size+1+1+1+1,0,none⟩),.pointer (some ⟨w.heap.size,0,none⟩)]]++pc) j fun e S=>gq (fun k=>k=w.heap.size+1+1+1+1\/(T k/\k<w.heap.size)) j S /\
        ((∃ a i,p.run (replay d) 0=.ok a i/\Pv.wu a/\e=.returned (.agg (Pv.p_ a)))\/∃ c i b,p.run (replay d) 0=.error c i/\Pv.Zq b/\e=.panicked ({ v:=pending c,recovered:=false }::b))) :
    lL prog 28 #[.func (.func G) #[] pc,X] w fun e w'=>gq T w w' /\
      (
       (∃ a i,p.run (replay d) 0=.ok a i/\Pv.wu a/\e=.returned (.tuple #[.agg #[.int .i64 0,.int .i64 0,.int .i64 0,.string aC],.agg (Pv.p_ a),.bool true])) \/
       ∃ c i,p.run (replay d) 0=.error c i/\e=.returned (.tuple #[c.v,.agg (Pv.p_ Pv.ni),.bool false])):=by
  have a6:∀ (fn:Fn) (first cap:mg) (w:ae),(Instr.makeFunc fn first cap).run prog w=.ok (.func fn first cap) w:=fun _ _ _ _=>rfl;have HP:=hide hp;have HL:=hide hl;obtain⟨_,B,c,rfl,a1,a2,_⟩:=hl;clear hp a1 a2
  go_enter_defers func28,ntmps28
  go_wp2_with fail
  obtain⟨N,l,hI,z,r,u⟩:=aKd w (.slice B d.length c) d (aA HL);refine (aA HP (oG w (.slice B d.length c)) N l hI).mono ?_;rintro e j ⟨A,hq⟩
  have W:¬(w.heap.size+1=w.heap.size+1+1+1+1\/(T (w.heap.size+1)/\w.heap.size+1<w.heap.size)):=by rintro (h|⟨_,h⟩)<;>omega
  have U:¬(w.heap.size+1+1=w.heap.size+1+1+1+1\/(T (w.heap.size+1+1)/\w.heap.size+1+1<w.heap.size)):=by rintro (h|⟨_,h⟩)<;>omega
  have V:¬(w.heap.size+1+1+1=w.heap.size+1+1+1+1\/(T (w.heap.size+1+1+1)/\w.heap.size+1+1+1<w.heap.size)):=by rintro (h|⟨_,h⟩)<;>omega
  have P:=z.iw A W;have L:=r.iw A U;have O:=u.iw A V;have K:Hid (gq T w j):=hide (N.trans' A (fun _ _ h=>h.elim) (fun i hi e=>by rcases e with e|e;omega;exact e.1));rcases hq with⟨o,s,E,n,rfl⟩|⟨a,s,b,E,a0,rfl⟩
  ·
    have Q:=hide (az E n);have HA:=hide P;have HO:=hide L;have HD:=hide O;have F:=Pv.eX n;have m:=Pv.oK o;clear E A N l hI z r u HP W U V P L O n;generalize Z:Pv.p_ o=oc at *;have e1:¬w.heap.size+1=w.heap.size+1+1:=a_;have e2:¬w.heap.size+1=w.heap.size+1+1+1:=a_;have e3:¬w.heap.size+1+1=w.heap.size+1:=a_;have e4:¬w.heap.size+1+1=w.heap.size+1+1+1:=a_;have e5:¬w.heap.size+1+1+1=w.heap.size+1:=a_;have e6:¬w.heap.size+1+1+1=w.heap.size+1+1:=a_
    go_wp2_with (first
      |(refine aT (ty:=37) (t:=37) (x:=.tmp 4) (y:=.tmp 11) rfl rfl zS rfl rfl (aA HA) rfl rfl (by rw[<-aCS];rfl) ?_;intro S J H D;have H2:=hide (az J (az H D));clear J H D)
      |(refine aT (ty:=40) (t:=40) (x:=.tmp 5) (y:=.tmp 14) rfl rfl kM rfl rfl ((aA HO).iw (aA H2).2.1 e3) (Pv.eX Pv.lS) F m ?_;intro w3 I q C;have g:=((aA HD).iw (aA H2).2.1 e5).iw q e6;have d1:=g.cell 0;have f1:=g.frozen;have l1:=g.lt;simp only[aBU,aBN] at d1;have H3:=hide (az I (az q (az C g)));clear I q C g))
    obtain⟨b2,c2,s2⟩:=aA H2;obtain⟨b3,c3,s3,g⟩:=aA H3;refine leaves_cons (f:=44) (args:=#[.pointer (some ⟨w.heap.size+1,0,none⟩),.pointer (some ⟨w.heap.size+1+1,0,none⟩),.pointer (some ⟨w.heap.size+1+1+1,0,none⟩)]) d_ (by simp[go_sem]) ?_;refine (catch_idle _ _ _ _).mono ?_;rintro e u' w4 ⟨rfl,rfl,rfl⟩;refine⟨_,aGt _ _ (w.heap.size+1) (w.heap.size+1+1) (w.heap.size+1+1+1) (.int .i64 0) (.int .i64 0) (.int .i64 0) (.string { data:=#[] }) (.bool true) oc F rfl rfl rfl ((b2.iw c3 e1).far (p:=⟨w.heap.size+1+1+1,0,none⟩) e2 _) (b3.far (p:=⟨w.heap.size+1+1+1,0,none⟩) e4 _) (g.zq 0 _),?_,?_⟩;exact (((aA K).trans' c2 (fun _ _ h=>h) (fun i hi e=>a_)).trans' c3 (fun _ _ h=>h) (fun i hi e=>a_)).setCell (.inr (show w.heap.size<=w.heap.size+1+1+1 by omega)) _;exact .inl ⟨o,s,(aA Q).1,(aA Q).2,by rw[Z];rfl⟩
  ·
    have Q:=hide E;have HA:=hide P;have HO:=hide L;have HD:=hide O;clear E A N l hI z r u HP W U V P L O
    go_wp2
    refine leaves_cons (f:=44) (args:=#[.pointer (some ⟨w.heap.size+1,0,none⟩),.pointer (some ⟨w.heap.size+1+1,0,none⟩),.pointer (some ⟨w.heap.size+1+1+1,0,none⟩)]) d_ (by simp[go_sem]) ?_;refine (catch_panicking _ _ _ a _ _ _ _ _ _ b _ (Pv.eX Pv.lS) (aA HA) (aA HO) (aA HD) a_ a_ a_).mono ?_;rintro e u' S ⟨rfl,rfl,hc,a5,a3,a4⟩;have Y:settle (.panicking ({ v:=pending a,recovered:=true }::b))=.returning:=Pv.aDg a0;show Leaves _ _ _ _ _ (settle _) _;rw[Y];refine⟨_,aGt _ _ _ _ _ _ _ _ _ _ _ (Pv.eX Pv.lS) rfl rfl rfl a5 a3 a4,?_,?_⟩;rotate_left 1;exact .inr ⟨a,s,aA Q,rfl⟩
    · exact (aA K).trans' hc (fun _ _ h=>h) (fun i hi e=>by rcases e with e|e|e<;>omega)
namespace Pv
def CZ(a:List u_):je->Option u_:=fun l=>match l.length with
 |0=>none|n+1=>a[n]?
theorem aCl(a:List u_)(l:je)(c:Acc):CZ a (l++[c])=a[l.length]?:=by unfold CZ;rw[gz];rfl
theorem aHd{b:List u_}{a:Acc}{i:Nat}{r:u_}(h:b[i]?=some r):replay b a i=.ok r (i+1):=by unfold replay;rw[h]
theorem aHe{b:List u_}{a:Acc}{i:Nat}(h:b[i]?=none):replay b a i=.error a i:=by unfold replay;rw[h]
theorem bOb{w:Type}(b:List u_)(p:aj w):∀ l:je,l.length<=b.length ->
  ((go (CZ b) p l).2.length<=b.length->p.run (replay b) l.length=.ok (go (CZ b) p l).1 (go (CZ b) p l).2.length) /\
  (∀ g c,g++[c] <+: (go (CZ b) p l).2->l <+: g->g.length=b.length->p.run (replay b) l.length=.error c b.length):=by
 induction p with
 |ret a=>refine fun l z=>⟨fun _=>rfl,fun g c i o n=>?_⟩;have m:=i.length_le;have u:=o.length_le;rw[gz,aBY] at m;have C:(go (CZ b) (aj.ret a) l).2=l:=rfl;rw[C] at m;omega| ask a k x=>
  intro l z;rw[Qw];have d:=yH (CZ b) (k (ans (CZ b) (l++[a]))) (l++[a]);have f:(l++[a]).length=l.length+1:=d_;cases j:b[l.length]? with
  | some r=>
   have y:l.length<b.length:=(List.getElem?_eq_some_iff.1 j).1;have B:ans (CZ b) (l++[a])=r:=by unfold ans;rw[aCl,j];rfl
   rw[B] at d ⊢;obtain⟨t,s⟩:=x r (l++[a]) a_;rw[f] at t s;have e:(aj.ask a k).run (replay b) l.length=(k r).run (replay b) (l.length+1):=by simp only[aj.run,aHd j]
   rw[e];refine⟨t,fun g c i o n=>s g c i ?_ n⟩;exact aIh d ((aBW g [c]).trans i) (by rw[f];omega)
  | none=>
   have A:b.length<=l.length:=List.getElem?_eq_none_iff.1 j;have e:(aj.ask a k).run (replay b) l.length=.error a l.length:=by simp only[aj.run,aHe j]
   refine⟨fun h=>?_,fun g c i o n=>?_⟩;have:=d.length_le;rw[f] at this;omega;have q:g=l:=(o.eq_of_length a_).symm;subst q;have:=aIh i d d_;have m:=this.eq_of_length d_;have u:c=a:=by simpa using m
   rw[e,u,n]
def XI(A L:Nat)(lv:ag)(log:List u_):Dv where
 hd:=.func (.func 43) #[] #[.pointer (some ⟨A,0,none⟩),.pointer (some ⟨L,0,none⟩)]
 O:=CZ log
 S:=fun k=>k=A
 inv:=fun l X w=>y9 A L lv log l.length X w
 pan:=fun l _ _ chain=>∃ l' c,l=l'++[c]/\l'.length<=log.length/\∃ older,Zq older/\chain={ v:=pending c,recovered:=false }::older
 one:=rfl
 AB:=rfl
 notS:=fun _ _ _ b h hb=>(h.mine b hb).2.1
 grow:=fun l X Y w w' h hc hY=>by
  have h':=h.iw hc
  refine⟨h'.at_,h'.FO,h'.reads,h'.ne,h'.own,h'.le,fun k hk=>?_⟩
  rcases hY k hk with hx|⟨h1,h2⟩;exact h'.mine k hx;have h3:=lt_of_heap h.at_;have h4:=lt_of_heap h.FO
  refine⟨h2,a_,a_,fun hn hk'=>?_⟩
  have:=h.reads.DW a_ hn k hk';omega
theorem bJv(A L:Nat)(d:ag)(a:List u_):∀ {gm:je->Prop},qw prog (XI A L d a) gm:=⟨fun l X w h=>by
 refine⟨_,_,rfl,(fun args w=>ai),fun c _ _=>?_⟩;refine (XF A L d a c l.length X w h _ rfl).mono ?_;intro e k i;cases b:a[l.length]? with
 |some r=>obtain⟨g,j,f⟩:=i.aHP (aHd b);refine⟨f,.inl ⟨r,?_,g,?_⟩⟩;exact (aCl a l c).trans b;show y9 A L d a (l++[c]).length X k;rw[gz];exact j
 |none=>
  obtain⟨g,j,f⟩:=i.Xy (aHe b)
  exact⟨f,.inr ⟨_,(aCl a l c).trans b,g,l,c,rfl,h.le,[],(fun _ h=>by cases h),rfl⟩⟩,fun T m=>absurd m.1 (by intro h;cases h)⟩
end Pv
section
namespace Pv
theorem bJt(A L:Nat)(h:ag)(d:List u_):Gh (XI A L h d):=by rintro l X w g ⟨i,c,rfl,j,a,b,rfl⟩;refine⟨Vx,c.v,a,rfl,b,.inl rfl,i,c,rfl,j,{ v:=pending c,recovered:=true }::a,fun e f=>?_,rfl⟩;rcases List.mem_cons.1 f with rfl|f;rfl;exact b e f
def bSk(a:List u_):Prop:=∀ r∈a,r.bytes.size<=1000000
theorem YL{a:List u_}(h:bSk a):OB (CZ a):=by intro l r b;unfold CZ at b;split at b;cases b;exact h r (aCH b)
def WA(q:EStateM.Result Acc Nat jk):mg:=match q with
 |.ok a _=>#[.agg #[.int .i64 0,.int .i64 0,.int .i64 0,.string aC],.agg (p_ a),.bool true]|.error c _=>#[c.v,.agg (p_ ni),.bool false]
def Qb(q:EStateM.Result Acc Nat jk):Prop:=match q with
 |.ok a _=>wu a|.error _ _=>True
end Pv
open Pv in
theorem Ji(m:jm)(N:zl m)(z:B_ m)(d:List u_)(q:bSk d)(o:ag)(g:Nat)(w:ae)(D:af w)(Q:kT1<g/\kT2<g)(hl:Reads w 2 o d.length (logCells d))(A:0<d.length->o.ownBlock≠some g)(J:eu w g 31 (opC m)) :
  lL prog 28 #[.func (.func 45) #[] #[.pointer (some ⟨g,0,none⟩)],o] w fun e t=>gq (fun k=>k=g) w t/\Qb ((dA m).run (replay d) 0)/\e=.returned (.tuple (WA ((dA m).run (replay d) 0))):=by
 refine (Jl 45 #[.pointer (some ⟨g,0,none⟩)] o d (dA m) (fun k=>k=g) w hl (fun args w=>ai) (fun H I K n=>?_)).mono ?_
 ·have X:=J.lt
  have E:y9 (w.heap.size+1+1+1+1) w.heap.size o d 0 (fun k=>(k=w.heap.size+1\/k=w.heap.size+1+1\/k=w.heap.size+1+1+1)\/k=g) H:=
   ⟨
    n.at_,n.FO,n.reads,n.ne,n.own,n.le,fun k B=>by
    rcases B with B|rfl;exact n.mine k B
    exact⟨a_,a_,a_,A⟩⟩
  have s:=bOb d (dA m) [] (x8 _);refine (aSk m N z H g (XI (w.heap.size+1+1+1+1) w.heap.size o d) _ (J.ext I) (fun t p=>?_) (fun b C=>?_) (bJv _ _ _ _) (fun _ _ _ _ _ _ h _ _=>h) (bJt _ _ _ _) (YL q) E (.inr rfl)).mono ?_;have P:=aKw D (.inl rfl);have O:=aKw D (.inr rfl);refine (D.ext I).iw p ?_ ?_;rintro (h|h);have F:kT1=w.heap.size+1+1+1+1:=h;omega;have F:kT1=g:=h;omega;rintro (h|h);have F:kT2=w.heap.size+1+1+1+1:=h;omega;have F:kT2=g:=h;omega;have S:b=w.heap.size+1+1+1+1:=C;omega;rintro e W ⟨p,L⟩;refine⟨p.mono fun b _ C=>by rcases C with h|h;exact .inl h;exact .inr ⟨h,a_⟩,?_⟩;rcases L with⟨j,rfl,r⟩|⟨G,l,rfl,V,U,u,c,rfl,Y,f,y,rfl⟩;exact .inl ⟨_,_,s.1 r.le,j,rfl⟩;refine .inr ⟨c,_,f,s.2 u c V aEW ?_,y,rfl⟩;have T:d[u.length]?=none:=(aCl d u c).symm.trans U;have:=List.getElem?_eq_none_iff.1 T;omega
 rintro e t ⟨p,⟨a,i,x,j,rfl⟩|⟨c,i,x,rfl⟩⟩;rw[x];exact⟨p,j,rfl⟩;rw[x];exact⟨p,trivial,rfl⟩
theorem aSv{a:mg}{w:ae}{d Ob:Nat}{c b:mg}(f:c.size=4)(e:b.size=55)(h4:a.getD 4 dC=.pointer (some ⟨d,0,none⟩))(h5:a.getD 5 dC=.pointer (some ⟨Ob,0,none⟩))
  (h:eu w d 37 c) (g:eu w Ob 40 b) :
  (results Tryz.f10 a).run prog w=.ok (.tuple #[.agg c,.agg b,a.getD 6 dC]) w:=by
 have j:=kK h zS f;have i:=kK g kM e;simp only[aBL] at h4 h5;simp[results,results10,h4,h5,asAddr,j,i]
namespace Pv
def bMd(q:EStateM.Result Acc Nat jk):Acc:=match q with
 |.ok _ _=>⟨0,0,0,aC⟩|.error c _=>c
def VN(q:EStateM.Result Acc Nat jk):jk:=match q with
 |.ok a _=>a|.error _ _=>ni
def Zl(q:EStateM.Result Acc Nat jk):Bool:=match q with
 |.ok _ _=>true|.error _ _=>false
def QQ(a:Acc):mg:=#[.int .i64 a.kind,.int .i64 a.ng,.int .i64 a.cell,.string a.bytes]
theorem Ld(q:EStateM.Result Acc Nat jk):WA q=#[.agg (QQ (bMd q)),.agg (p_ (VN q)),.bool (Zl q)]:=by cases q<;>rfl
theorem Lh{q:EStateM.Result Acc Nat jk}(h:Qb q):wu (VN q):=by
 cases q with
 |ok a i=>exact h|error c i=>exact lS
end Pv
theorem next_any(m:Pv.jm)(hm:Pv.zl m)(p:Pv.B_ m)(a:List u_)(G:Pv.bSk a)(S:ag)(w:ae)(V:af w)(hl:Reads w 2 S a.length (logCells a)) :
  lL prog 10 #[.agg (Pv.opC m),S] w fun e Q=>Ext w Q/\Pv.wu (Pv.VN ((Pv.dA m).run (replay a) 0))/\e=.returned (.tuple #[.agg (Pv.QQ (Pv.bMd ((Pv.dA m).run (replay a) 0))),.agg (Pv.p_ (Pv.VN ((Pv.dA m).run (replay a) 0))),.bool (Pv.Zl ((Pv.dA m).run (replay a) 0))]):=by
 have s:=hide (show (Pv.opC m).size=102 from Pv.vV p);have HR:=hide (fun W=>MW (Pv.opC m) W)
 have N:Hid (∀ g W,w.heap.size<=g->Ext w W->eu W g 31 (Pv.opC m)->lL prog 28 #[.func (.func 45) #[] #[.pointer (some ⟨g,0,none⟩)],S] W fun e Q=>gq (fun k=>k=g) W Q/\Pv.wu (Pv.VN ((Pv.dA m).run (replay a) 0))/\e=.returned (.tuple #[.agg (Pv.QQ (Pv.bMd ((Pv.dA m).run (replay a) 0))),.agg (Pv.p_ (Pv.VN ((Pv.dA m).run (replay a) 0))),.bool (Pv.Zl ((Pv.dA m).run (replay a) 0))])):=hide (fun g W hg hE hB=>by
  have a1:=Pv.aKw V (.inl rfl);have a0:=Pv.aKw V (.inr rfl);refine (Ji m hm p a G S g W (V.ext hE) ⟨a_,a_⟩ (hl.ext hE) (fun h0 hk=>?_) hB).mono ?_;have:=hl.DW a_ h0 _ hk;omega;rintro e Q ⟨h1,h2,rfl⟩
  exact⟨h1,Pv.Lh h2,by rw[Pv.Ld]⟩)
 obtain⟨q,hq⟩:=jc ((Pv.dA m).run (replay a) 0);rw[hq] at N ⊢;obtain⟨C,n⟩:∃ x,Pv.opC m=x:=⟨_,rfl⟩;rw[n] at s HR N ⊢;obtain⟨oc,f⟩:∃ x,Pv.p_ (Pv.VN q)=x:=⟨_,rfl⟩;obtain⟨ac,j⟩:∃ x,Pv.QQ (Pv.bMd q)=x:=⟨_,rfl⟩;have o:ac.size=4:=by rw[<-j];rfl
 have L:ac.all (·.oneCell')=true:=by rw[<-j,<-aCS];rfl
 rw[f,j] at N ⊢;have HO:=hide f;obtain⟨_,B,c,rfl,_,_,_⟩:=hl;clear n V hm p hq f j
 go_enter func10,ntmps10
 go_upto_region 1 with fail
 generalize b:aEJ _ (.cells _ 40)=r
 have u:Ext w r:=by
  rw[<-b]
  all_goals exact Dp
 have P:eu r w.heap.size 31 C:=by rw[<-b];exact ((eu.new w _ _).alloc _).alloc _
 have A:eu r (w.heap.size+1) 37 #[.int .i64 0,.int .i64 0,.int .i64 0,.string { data:=#[] }]:=by rw[<-b];exact (eu.new' _ _ _ d_).alloc _
 have z:eu r (w.heap.size+1+1) 40 (Pv.p_ Pv.ni):=by rw[<-b];exact eu.new' _ _ _ d_
 have O:r.heap.size=w.heap.size+3:=by rw[<-b];simp
 have Z:=hide (az u (az P (az A (az z O))));clear b u P A z O
 go_wp2_with (refine fO (ty:=31) (t:=31) (x:=.tmp 2) rfl rfl Pv.aOm rfl (cs:=C) (aA Z).2.1 (aA s) ?_)
 refine (aA HR r).mono ?_;rintro e w1 ⟨rfl,l,T,D⟩;have H1:=hide (az l (az T D));clear l T D
 go_wp2_with fail
 obtain⟨u,P,A,z,O⟩:=aA Z;obtain⟨l,T,D⟩:=aA H1;refine (aA N r.heap.size w1 a_ (u.trans l) D).mono ?_;rintro e Y ⟨U,d,rfl⟩;have X:=hide (show Ext w Y/\eu Y (w.heap.size+1) 37 #[.int .i64 0,.int .i64 0,.int .i64 0,.string { data:=#[] }]/\eu Y (w.heap.size+1+1) 40 (Pv.p_ Pv.ni)/\Pv.wu (Pv.VN q) from⟨(u.trans l).trans' U (fun _ _ h=>h) (fun i hi e=>a_),(A.ext l).iw U a_,(z.ext l).iw U a_,d⟩);clear u P A z O l T D U d Z H1 N HR s
 go_wp2_with (first
  |(refine aT (ty:=37) (t:=37) (x:=.tmp 4) (y:=.tmp 11) rfl rfl zS rfl rfl (aA X).2.1 rfl o L ?_;intro w3 K I F;have H3:=hide (az K (az I F));clear K I F)
  |(refine aT (ty:=40) (t:=40) (x:=.tmp 5) (y:=.tmp 12) rfl rfl kM rfl rfl ((aA X).2.2.1.iw (aA H3).2.1 a_) (Pv.eX Pv.lS) (by rw[<-aA HO];exact Pv.eX (aA X).2.2.2) (by rw[<-aA HO];exact Pv.oK _) ?_;intro w4 J H E;have H4:=hide (az J (az H E));clear J H E))
 obtain⟨x1,_,_,d⟩:=aA X;obtain⟨b3,c3,s3⟩:=aA H3;obtain⟨b4,c4,s4⟩:=aA H4;have f:=aA HO;refine aAT (aSv o (by rw[<-f];exact Pv.eX d) rfl rfl (b3.iw c4 a_) b4) rfl ⟨?_,d,rfl⟩;exact (x1.trans' c3 (fun _ _ h=>h) (fun i hi e=>a_)).trans' c4 (fun _ _ h=>h) (fun i hi e=>a_)
end
namespace Pv
theorem VG(C:Ctx)(a:Acc):RL C (oP a) (QQ a).toList:=.cons (xs:=[_]) (.lit rfl) (.cons (xs:=[_]) (.lit rfl) (.cons (xs:=[_]) (.lit rfl) (.cons (xs:=[_]) (.lit rfl) .nil)))
def Y3(q:EStateM.Result Acc Nat jk):PV:=.o7 [.agg (oP (bMd q)),.agg (h_ (VN q)),.one (.lit (.bool (Zl q)))]
def Lj:ji->Option (Prop×PV)
 |[.w (.agg ol),.w (.one a)]=>match bRu ol,XL a with
  |some m,some (p,log)=>some (p/\zl m/\bSk log,Y3 ((dA m).run (replay log) 0))|_,_=>none
 |_=>none
theorem bMc:b_ prog af 10 (aV true Lj):=by
 refine aU (aB func10 ai rfl) (fun B p r b q w n j s o=>?_);unfold Lj at b;split at b;rename_i E F;split at b;rename_i m D d y A;cases b;obtain⟨l,c,k⟩:=q
 match j,o with
 | [v1,v2],⟨k1,k2,_⟩=>
  cases k1 with
  | w k1=>cases k1 with
   | @agg _ c1 k1=>
    cases k2 with
    | w k2=>cases k2 with
     |one k2=>
      rw[aQc y] at k1;obtain⟨u,g,h⟩:=bBg k1;have z:c1=opC m:=TC u;subst z;refine (next_any m c ⟨c.root,g,c.link,c.ot,c.xt,h⟩ d k v2 w s (Rz A l k2)).mono ?_;rintro e C ⟨t,f,rfl⟩;refine⟨_,rfl,t,.o7 rfl (fun i x a=>?_)⟩
      match i,a with
      |0,a=>cases a;exact⟨_,rfl,.agg (VG _ _)⟩|1,a=>cases a;exact⟨_,rfl,.agg (bLq _ f)⟩|2,a=>cases a;exact⟨_,rfl,.one (.lit rfl)⟩|i+3,a=>cases a
 cases b;cases b
def Cc(k:Nat):di:=UInt8.ofNat k::Pi 15 0
def UI(k:Nat):di:=Cc (k+1)
def lI(k:Nat):di:=100::UInt8.ofNat k::Pi 14 0
def Bv(k:Nat)(a:Int):jm:=⟨a,lI k,UI k,Cc 7,aC,y8,0,y8,0,0,aC,y8⟩
theorem Yj(k:Nat)(e:k<=2):fQ prog af 26 true [dw k] (.w (.agg [.bs 16 (UI k)])):=by
 have d:k=0\/k=1\/k=2:=a_;rcases d with rfl|rfl|rfl;have M:=Fa (I:=af);refine bH func26 rfl rfl bJ (fun A b a c=>?_);refine bU ?_ ?_;simp
 decide;exact kE;have M:=Fa (I:=af);refine bH func26 rfl rfl bJ (fun A b a c=>?_);refine bU ?_ ?_;simp;decide;exact kE;have M:=Fa (I:=af);refine bH func26 rfl rfl bJ (fun A b a c=>?_);refine bU ?_ ?_;simp;decide;exact kE
def idG:ji->Option (Prop×PV)
 |[.w (.one (.lit (.int .i64 k)))]=>some (0<=k/\k<=2,.w (.agg [.bs 16 (UI k.toNat)]))|_=>none
theorem bNy:b_ prog af 26 (aV true idG):=by refine aU (aB func26 ai rfl) (fun b p r a c=>?_);unfold idG at a;split at a;rename_i k;cases a;obtain⟨n,rfl⟩:∃ n:Nat,k=(n:Int):=⟨k.toNat,a_⟩;exact Yj n a_;cases a
def aRP:List (Nat×Spec):=[(26,aV true idG)]
theorem Xp:jq prog af (find aRP):=⟨aY (fun p a=>by
 obtain rfl:=List.mem_singleton.1 a
 exact bNy),dB⟩
theorem TI(k:Nat)(f:k<=2)(a:Int):fQ prog af 14 true [dw k,dw a] (.w (.agg (w_ (Bv k a)))):=by
 have e:k=0\/k=1\/k=2:=a_;rcases e with rfl|rfl|rfl
 ·have M:=Xp;refine bH func14 rfl rfl bJ (fun A c b d=>?_);refine bU ?_ ?_
  ·simp
   try decide
  exact kE
 ·have M:=Xp;refine bH func14 rfl rfl bJ (fun A c b d=>?_);refine bU ?_ ?_
  ·simp
   try decide
  exact kE
 ·have M:=Xp;refine bH func14 rfl rfl bJ (fun A c b d=>?_);refine bU ?_ ?_
  ·simp
   try decide
  exact kE
def Gw:ji->Option (Prop×PV)
 |[.w (.one (.lit (.int .i64 k))),.w (.one (.lit (.int .i64 kind)))]=>some (0<=k/\k<=2,.w (.agg (w_ (Bv k.toNat kind))))|_=>none
theorem aFp:b_ prog af 14 (aV true Gw):=by refine aU (aB func14 ai rfl) (fun c p r b d=>?_);unfold Gw at b;split at b;rename_i k a;cases b;obtain⟨n,rfl⟩:∃ n:Nat,k=(n:Int):=⟨k.toNat,a_⟩;exact TI n a_ a;cases b
def XH:List (Nat×Spec):=[(15,aV false bFj)]
theorem XG:jq prog af (find XH):=⟨aY (fun p a=>by
 obtain rfl:=List.mem_singleton.1 a
 exact aCh),dB⟩
def bJu(q:Option jk×jr×Nat):PV:=.o7 [.agg (qi q.2.1),.agg (h_ (bG q.1))]
def YJ(q:Option jk×jr×Nat):St:=⟨[(4,none,dm (.pt 2 0 0)),(5,none,dm (.pt 3 0 0)),(6,none,dm (.pt 1008 0 0)),(7,none,dm (.pt 1009 0 0))],
 [(2,none,0,.box 65 [.lit (.slice none 0 0),.lit (.slice none 0 0),.bs 16 (Pi 16 0)]),(3,none,0,.box 40 (h_ ni)),(1008,none,0,.box 65 (qi q.2.1)),(1009,none,0,.box 40 (h_ (bG q.1)))]⟩
theorem NJ(h:jr)(m:jm)(hd:qx h)(c:zl m):fQ prog af 20 false [.w (.agg (qi h)),.w (.agg (w_ m))] (bJu (fE [] (dA m) h 0)):=by
 have M:=XG;refine bH func20 rfl rfl bJ (fun A g d i=>?_);obtain⟨q,a⟩:=jc (fE [] (dA m) h 0);rw[a];refine bU ?_ ?_;simp;exact⟨hd,c⟩;refine aW (YJ q) ?_ ?_ ?_;exact iq;have e:(⟨dF h.b.length (eY h.b),kC h.f.length (vz h.f),h.r⟩:jr)=h:=by rw[aQ,bV]
 refine .cb (.cb (.cons (.box ?_) (.cons (.box ?_) .nil)));rw[<-a];change qi (fE [] (dA m) (⟨dF h.b.length (eY h.b),kC h.f.length (vz h.f),h.r⟩:jr) 0).2.1=_;rw[e];rw[<-a];change h_ (bG (fE [] (dA m) (⟨dF h.b.length (eY h.b),kC h.f.length (vz h.f),h.r⟩:jr) 0).1)=_;rw[e];refine aI ?_;exact kE
def aYc:ji->Option (Prop×PV)
 |[.w (.agg a),.w (.agg ol)]=>match BI a,bRu ol with
  |some (p,h),some m=>some (p/\qx h/\zl m,bJu (fE [] (dA m) h 0))|_,_=>none
 |_=>none
theorem bMu:b_ prog af 20 (aV false aYc):=by
 refine aU (aB func20 ai rfl) (fun q p r a g=>?_);unfold aYc at a;split at a;rename_i u t;split at a;rename_i s h m o n;cases a;obtain⟨e,d,c⟩:=g;rw[aQc n]
 exact (NJ h m d c).args fun C b f=>by
  match b,f with
  | [x,y],⟨l,k,_⟩=>
   refine⟨?_,k,trivial⟩;cases l with
   |w j=>cases j with
    |agg i=>exact .w (.agg (tZ o e i))
 cases a;cases a
structure EvS where
 dev:Int
 kind:Int
 replay:Int
 msg:Int
 cut:Int
 ul:Bool
def F6(e:EvS):g_:=[.lit (.int .u8 e.dev),.lit (.int .u8 e.kind),.lit (.int .u8 e.replay),.lit (.int .u8 e.msg),.lit (.int .u8 e.cut),.lit (.bool e.ul)]
structure zn(e:EvS):Prop where
 dev:0<=e.dev/\e.dev<256
 kind:0<=e.kind/\e.kind<256
 replay:0<=e.replay/\e.replay<256
 msg:0<=e.msg/\e.msg<256
 cut:0<=e.cut/\e.cut<256
def Zi(e:EvS)(i:Nat):qy:=if 0<e.cut/\(i:Int)=e.cut-1 then⟨true,e.replay,e.ul⟩ else⟨false,0,e.ul⟩
def nZ(e:EvS):List qy:=(yz 250).map (Zi e)
def wW(e:EvS)(k:Nat):List qy:=(yz 250).map fun i=>if i<k then Zi e i else yw
theorem aEt(e:EvS)(k:Nat):(wW e k).length=250:=by simp[wW]
theorem bCj(e:EvS)(k i:Nat)(h:i<250):(wW e k).getD i yw=if i<k then Zi e i else yw:=by unfold wW;rw[zG,aAg,aDc h];rfl
theorem aIz(e:EvS)(k i:Nat):(wW e k)[i]?=if i<250 then some (if i<k then Zi e i else yw) else none:=by unfold wW;rw[aAg];by_cases h:i<250;rw[aDc h,au h];rfl;rw[PR l7,ah h];rfl
theorem aMd(e:EvS){k:Nat}(b:k<250):(wW e k).set k (Zi e k)=wW e (k+1):=by apply aAX;intro i;rw[aED,aIz,aIz,aEt];by_cases h:k=i;subst h;rw[au rfl,au b,au b,au a_];rw[ah h];by_cases a:i<250;rw[au a,au a];by_cases c:i<k;rw[au c,au a_];rw[ah c,ah a_];rw[ah a,ah a]
theorem bPb(e:EvS):wW e 250=nZ e:=by apply aAX;intro i;rw[aIz];unfold nZ;rw[aAg];by_cases h:i<250;rw[aDc h,au h,au h];rfl;rw[PR l7,ah h];rfl
def aJD(e:EvS)(F:List qy):Wr:=[(0,none,0,.box 46 (F6 e)),(1000,none,0,.arr 104 3 250 (yu F))]
def aJC(k:Nat):List (Nat×og×PV):=[(1,none,dm (.pt 0 0 0)),(3,none,dm (.ow 1000 0 3 0 250)),(4,none,dw k)]
def GL(e:EvS)(F:List qy)(k:Nat):St:=⟨aJC k,aJD e F⟩
theorem rC{F:List qy}{k i:Nat}(t:qy)(h:¬i=k):(F.set k t).getD i yw=F.getD i yw:=by rw[zG,aEb (fun e=>h e.symm),<-zG]
theorem oD{F:List qy}{k:Nat}(t:qy)(h:k<F.length):(F.set k t).getD k yw=t:=by rw[zG,aDZ h];rfl
theorem UV(e:EvS)(x:zn e):fQ prog af 16 true [.w (.agg (F6 e))] (dm (.sl 3 250 (yu (nZ e)))):=by
 have M:=YI;have B:prog.types[104].size=3:=ai;refine bH func16 rfl rfl bJ (fun A H C F=>?_);have s:prog.types[104].bytes=24:=ai;refine bU ?_ ?_;simp;rw[s];omega;refine jG ?_;refine bK (s':=GL e (wW e 0) 0) (fun a w d=>(d.reset (kT:=[1,3,4]) (kO:=[0,1000]) ay (by simp;exact fun i _=>⟨rfl,rfl,rfl⟩)).same ?_ ?_) ?_;exact .cr (.cons ai ((iT _)));refine .cb (.cons (.arr rfl (fun i n=>?_)) .nil);have q:i<250:=n;unfold yu;rw[bCj e 0 i q,ah a_];rfl;refine aN ?_;refine dX 250 (fun k t=>t=GL e (wW e k) k) 0 rfl a_ (fun k t E G=>?_);subst E;refine aJ (fun m=>?_) (fun m=>?_)
 ·have c:k<250:=by have:=of_decide_eq_true m;omega
  have r:(wW e k).getD k yw=yw:=by rw[bCj e k k c,ah a_]
  refine gQ ?_;refine aN ?_;refine aH ?_ ?_;simp;omega;have o:k<(wW e k).length:=by rw[aEt];exact c
  refine bK (s':=GL e ((wW e k).set k ⟨false,0,e.ul⟩) k) (fun a w d=>(d.reset (kT:=[1,3,4]) (kO:=[0,1000]) ay (by simp;exact fun i _=>by split<;>simp[yu,nT,bT,PW.cells])).same ?_ ?_) ?_
  exact iq;refine .cb (.cons (.arr rfl (fun i n=>?_)) .nil);change (if i=0+(k:Int).toNat then _ else _)=_;rw[VM,mf];split;rename_i h;subst h;unfold yu nT;rw[oD _ o,r];rfl;rename_i h;unfold yu;simp only[rC _ h];refine aI ?_;obtain⟨b,f⟩:=jc ((bif decide (e.cut > 0) then (k:Int)==IntKind.wrap .i64 (IntKind.wrap .i64 e.cut-1) else false));refine bK (s':=⟨(28,none,t_ b)::aJC k,aJD e ((wW e k).set k ⟨false,0,e.ul⟩)⟩) (fun a w d=>(d.reset (kT:=[28,1,3,4]) (kO:=[0,1000]) ay (by simp;exact fun i _=>by simp[yu,nT,bT])).same ?_ ?_) ?_;exact .cons (congrArg t_ f) ((iT _));exact r_;have y:=x.cut;have p:IntKind.wrap .i64 (IntKind.wrap .i64 e.cut-1)=e.cut-1:=by rw[PP,PP];omega
  rw[p] at f;have g:k<((wW e k).set k (⟨false,0,e.ul⟩:qy)).length:=by rw[aAA];exact o
  refine cO (fun m=>?_) (fun m=>?_)
  ·have l:0<e.cut/\(k:Int)=e.cut-1:=by
    rw[m] at f;cases u:decide (e.cut > 0) with
    |false=>rw[u] at f;cases f|true=>rw[u] at f;exact⟨of_decide_eq_true u,by simpa using f⟩
   have j:Zi e k=⟨true,e.replay,e.ul⟩:=au l;refine aH ?_ ?_;simp;omega
   refine bK (s':=GL e (((wW e k).set k ⟨false,0,e.ul⟩).set k ⟨true,0,e.ul⟩) k) (fun a w d=>(d.reset (kT:=[1,3,4]) (kO:=[0,1000]) ay (by simp;exact fun i _=>by split<;>simp[yu,nT,bT,PW.cells])).same ?_ ?_) ?_
   exact iq;refine .cb (.cons (.arr rfl (fun i n=>?_)) .nil);change (if i=0+(k:Int).toNat then _ else _)=_;rw[VM,mf];split;rename_i h;subst h;unfold yu nT;rw[oD _ g,oD _ o];rfl;rename_i h;unfold yu;simp only[rC _ h];have D:k<(((wW e k).set k (⟨false,0,e.ul⟩:qy)).set k (⟨true,0,e.ul⟩:qy)).length:=by rw[aAA];exact g
   refine aS M F C (ay) ai ?_ ?_;simp;omega;change kw _ _ _ _ _;refine fJ ?_;intro a w d
   refine⟨k+1,_,a_,a_,rfl,(d.reset (kT:=[1,3,4]) (kO:=[0,1000]) ay (by simp;exact fun i _=>by split<;>simp[yu,nT,bT,PW.cells])).same ?_ ?_⟩
   exact .cr (.cr (.cons (by rw[bW k a_]) .nil));rw[<-aMd e c,j];refine .cb (.cons (.arr rfl (fun i n=>?_)) .nil);change (if i=0+(k:Int).toNat then _ else _)=_;rw[VM,mf];have z:=x.replay;split;rename_i h;subst h;unfold yu nT;rw[oD _ o,oD _ g];have:IntKind.wrap .i64 e.replay=e.replay:=by rw[PP];omega
   rw[this];rfl;rename_i h;unfold yu;rw[rC _ h,rC _ h,rC _ h]
  have l:¬(0<e.cut/\(k:Int)=e.cut-1):=fun h=>by rw[m,mi h.1] at f;rw[h.2] at f;simp at f
  have j:Zi e k=⟨false,0,e.ul⟩:=ah l;refine fZ ?_;refine fJ ?_;intro a w d;refine⟨k+1,_,a_,a_,rfl,(d.reset (kT:=[1,3,4]) (kO:=[0,1000]) ay (by simp;exact fun i _=>by simp[yu,nT,bT])).same ?_ ?_⟩;exact .cr (.cr (.cons (by rw[bW k a_]) .nil));rw[<-aMd e c,j];exact r_
 have c:k=250:=by have:=of_decide_eq_false m;omega
 subst c;refine dK ?_;change kw _ _ _ _ _;refine aI ?_;refine bZ (fun a w d=>⟨.inr rfl,_,?_,d⟩);refine qL (ay) d_ ay ?_;refine .w (.one (.row rfl trivial a_ (fun i n=>?_) (fun i n=>?_)));rw[mf,bPb];rfl
def Uh:g_->Option EvS
 |[.lit (.int .u8 a),.lit (.int .u8 b),.lit (.int .u8 c),.lit (.int .u8 d),.lit (.int .u8 x),.lit (.bool n)]=>some ⟨a,b,c,d,x,n⟩|_=>none
theorem Ug{l:g_}{e:EvS}(h:Uh l=some e):l=F6 e:=by unfold Uh at h;split at h;cases h;rfl;cases h
def UW:ji->Option (Prop×PV)
 |[.w (.agg l)]=>(match Uh l with
  |some e=>some (zn e,dm (.sl 3 250 (yu (nZ e))))|none=>none)
 |_=>none
theorem bCb:b_ prog af 16 (aV true UW):=by
 refine aU (aB func16 ai rfl) (fun d p r a c=>?_);unfold UW at a;split at a;rename_i l;cases b:Uh l with
 |none=>rw[b] at a;cases a|some e=>rw[b] at a;cases a;rw[Ug b];exact UV e c
 cases a
theorem aRy(L:List qy):rE L.length (yu L)=L:=by unfold rE yu;apply aBR d_;intro i b a;simp only[aCI,aCA];rw[zG,zH a];rfl
theorem aCy(e:EvS):(nZ e).length=250:=by simp[nZ]
section
variable {P:ed} {I:jg}
def aVo(P:ed)(I:jg)(f:Nat)(t:bu)(l:g_):Prop:=∀ w:ae,I w->lL P f #[] w fun e a=>∃ g c,e=.returned (.pointer (some ⟨g,0,none⟩))/\Ext w a/\w.heap.size<=g/\g<a.heap.size/\eu a g t c/\RL { w:=a,ok:=fun b=>w.heap.size<=b/\b≠g,env:=fun _=>none } l c.toList
def newSpec(t:bu)(l:g_):Spec:=fun a b=>match b with
 |[]=>.new a (.box t l) fun v=>.ret (dm (.pt a v 0))|_=>.fail
theorem bFh{f:Nat}{t:bu}{l:g_}(j:∀ args w,(aAE f args).run P w=.ok (.enter f args) w)(E:aVo P I f t l):b_ P I f (newSpec t l):=by
 refine⟨j,fun A s a w r m B z F h G C n=>?_⟩;unfold newSpec at n;split at n
 match z,C with
 | [],_=>
  refine (E w (G.mem w h.iw)).mono ?_;rintro e u ⟨g,Q,rfl,H,O,N,L,K⟩;have q:∀ b,b<u.heap.size->(w.heap.size<=b/\b≠g)->∀ x i o,Ae r m (fresh s m) (kJ g) x=some (i,o)->hblk o≠some b:=by intro b p c x i o d k;by_cases y:x=m;subst y;rw[jA] at d;cases d;cases k;exact c.2 rfl;rw[lT y] at d;have:=(h.live x i o b d k).1;have:=c.1;omega
  obtain⟨J,S⟩:=h.new (w':=u) m none (kJ g) (.box t l) H (fun b p=>by cases p;exact⟨N,O⟩) (fun D _=>⟨g,Q,rfl,L,K.le ⟨dE _,fun b p c=>⟨⟨.inr (ry h.iw.size c.1),q b p c⟩,rfl⟩,fun _ _ _ h=>by cases h⟩⟩);exact .inl ⟨_,_,_,_,rfl,n,J,.w (.one (.pt ⟨_,_,rfl⟩ ⟨_,_,jA _ _ _ _,dE _,fun _=>⟨_,rfl,rfl⟩⟩))⟩
 exact n.elim
def RQN(P:ed)(A:o_)(fn:Func)(t:bu)(l:g_):Exit->Act->ae->Prop
 |.panic chain,a,w=>a.defers=A.ds/\E5 A chain w|e,a,w=>(e=.normal\/e=.ret)/\∃ s x b,(AQ P fn.results).run none s=some b/\All b.conds/\b.wr=[]/\b.val=dm (.pt x 0 0)/\XN x dx=true/\find s.o x=some (none,0,.box t l)/\l.all (bT false)=true/\qj A s a w
theorem L6(P:ed)(A:o_)(fn:Func)(t:bu)(l:g_):Di A (RQN P A fn t l):=fun _ _ _ a h=>⟨a,h⟩
theorem bOk{f:Nat}{fn:Func}{c:Code}{t:bu}{l:g_}(hf:P.funcs[f]?=some fn)(hb:fn.body=some c)(hI:∀ w d,Ext w d->I w->I d)
  (hT:∀ A:o_,A.S=Non->A.nt=fn.ntmps->l_ P I A->kw P A ⟨[],[]⟩ c (RQN P A fn t l)):aVo P I f t l:=by
 intro w G;have hg:qj (o_.plain w (fun _=>False) fn.ntmps) ⟨[],[]⟩ { tmps:=#[]++DD (fn.ntmps-0) dC,defers:=[] } w:=by refine⟨fun _=>none,{ iw:=gq.refl _ _,size:=?_,dom:=fun x _=>rfl,lu:=fun x g k o h=>(by cases h),live:=fun x k N b h=>(by cases h),inj:=fun x y v1 Q v2 h2 b h=>(by cases h),tmps:=fun t g pv h a0=>(by cases h),defers:=rfl,und:=fun t pv h=>(by cases h),pg:=fun x N h=>(by cases h),dev:=fun g k O gm l h=>(by cases h) }⟩;simp[o_.plain]
 refine calls_of_wp hf hb (aCD (hT (o_.plain w (fun _=>False) fn.ntmps) rfl rfl (l_.plain fun d hc=>hI w d hc G) _ w hg (L6 _ _ _ _ _)) (fun e J d L=>?_))
 have E:(e=.normal\/e=.ret)/\∃ s x a,(AQ P fn.results).run none s=some a/\All a.conds/\a.wr=[]/\a.val=dm (.pt x 0 0)/\XN x dx=true/\find s.o x=some (none,0,.box t l)/\l.all (bT false)=true/\qj (o_.plain w (fun _=>False) fn.ntmps) s J d:=by
  cases e with
  |panic chain=>obtain⟨_,l,z,_⟩:=L;exact z.elim
  |_=>exact L
 obtain⟨Q,s,x,a,Z,Y,X,W,kx,V,U,H,q⟩:=E;have i:(AQ P fn.results).ok none s (fun _ K wr=>K=dm (.pt x 0 0)/\wr=[]):=M.zy _ none s a _ Z (fun p hp=>Y.mem p hp) ⟨W,X⟩;obtain⟨K,C,h5,r,h7,_⟩:=vN q i;subst h7;obtain⟨N,j,D⟩:=q.lu x none 0 _ V;obtain⟨g,B,rfl,hB,hR⟩:=D trivial
 have m:C=.pointer (some ⟨g,0,none⟩):=by
  cases r with
  | w r=>cases r with
   | one r=>cases r with
    |pt j1 j2=>obtain⟨T,F,e1,_,e3⟩:=j2;have u:H x=some (T,F):=e1;rw[j] at u;cases u;obtain⟨g',e4,e5⟩:=e3 rfl;cases e4;exact e5
 subst m;have z:=q.live x 0 _ g j rfl;have n:w.heap.size<=g:=z.2.resolve_right (fun hs=>hs.1.elim);have:J.defers=[]/\∃ v,(results fn J.tmps).run P d=.ok v d/\∃ g B,Ending.returned v=.returned (.pointer (some ⟨g,0,none⟩))/\Ext w d/\w.heap.size<=g/\g<d.heap.size/\eu d g t B/\RL { w:=d,ok:=fun b=>w.heap.size<=b/\b≠g,env:=fun _=>none } l B.toList:=⟨q.defers,_,h5,g,B,rfl,q.iw,n,z.1,hB,(kV hR U).le ⟨dE _,fun b hb i=>⟨⟨i.1.resolve_left id,fun e=>i.2 x 0 _ j (by rw[e];rfl)⟩,rfl⟩,fun _ _ _ h=>by cases h⟩⟩
 rcases Q with rfl|rfl<;>exact this
abbrev yg:=List (Nat×oh)
def Af(os:yg)(a:Nat->ag):Env:=fun x=>match find os x with
 |some _=>some (0,a x)|none=>none
def CG(os:yg)(a:Nat->ag)(b:Nat):Prop:=∃ x o,find os x=some o/\hblk (a x)=some b
def Et(w' w:ae)(ok0:uy)(os:yg)(a:Nat->ag):Ctx:=⟨w',fun b=>(ok0 b\/w.heap.size<=b)/\¬CG os a b,Af os a⟩
def uo(os:yg)(x:Nat):Bool:=match find os x with
 |some _=>true|none=>false
theorem kU{os:yg}{x:Nat}(h:uo os x=true):∃ o,find os x=some o:=by unfold uo at h;split at h;exact⟨_,by assumption⟩;cases h
def zt(os:yg):PC->Bool
 |.ow x a _ _ _=>uo os x&&bz a 0|.pt x a _=>uo os x&&bz a 0|c=>bT false c
def DZ(os:yg)(o:oh):Prop:=match o with
 |.box _ l=>l.all (zt os)=true|.arr _ _ len f=>∀ i,i<len->(f i).all (zt os)=true|_=>False
def VJ(vf:Nat->Nat):PC->PC
 |.ow x _ n a len=>.ow x (vf x) n a len|.pt x _ a=>.pt x (vf x) a|c=>c
def WV(vf:Nat->Nat):oh->oh
 |.box t l=>.box t (l.map (VJ vf))|.arr e n len f=>.arr e n len fun i=>(f i).map (VJ vf)|o=>o
def GY(vf:Nat->Nat):PW->PW
 |.one c=>.one (VJ vf c)|.agg l=>.agg (l.map (VJ vf))
def GZ(vf:Nat->Nat):PV->PV
 |.w x=>.w (GY vf x)|.o7 l=>.o7 (l.map (GY vf))|.none=>.none
variable {C C':Ctx} {os:yg} {vf:Nat->Nat}
structure Ad(C C':Ctx)(os:yg)(vf:Nat->Nat):Prop where
 cold:C.cold.Le C'.cold
 env:∀ x o,find os x=some o->∃ hd,C.env x=some (0,hd)/\C'.env x=some (vf x,hd)
theorem Ad.at(h:Ad C C' os vf){x l9:Nat}{p:ag->Prop}(a:(uo os x&&bz l9 0)=true)(d:At C x l9 p):At C' x (vf x) p:=by rw[zg] at a;obtain⟨o,b⟩:=kU a.1;obtain⟨c,f,e⟩:=h.env x o b;obtain rfl:=iy a.2;exact⟨_,c,e,dE _,fun _=>d.now f⟩
theorem R.hot(h:Ad C C' os vf){c:PC}{xs:jl}(hr:R C c xs)(hc:zt os c=true):R C' (VJ vf c) xs:=by
 cases hr with
 |ow a b=>exact .ow a (h.at hc b)|pt a b=>exact .pt a (h.at hc b)|lit a=>exact .lit a|bs a=>exact .bs a|sl a b e=>exact (R.sl (C:=C.cold) a b e).le (C':=C'.cold) h.cold |>.le ⟨dE _,fun _ _ d=>⟨d,rfl⟩,fun _ _ _ h=>by cases h⟩|_=>cases hc
theorem RL.hot(h:Ad C C' os vf):∀ {l:g_} {b:jl},RL C l b->l.all (zt os)=true->RL C' (l.map (VJ vf)) b
 |[],_,a,_=>by cases a;exact .nil|c::l,_,a,hc=>by
  rw[aBV,zg] at hc;cases a with
  |cons e d=>exact .cons (e.hot h hc.1) (RL.hot h d hc.2)
theorem pJ.hot(h:Ad C C' os vf)(d:C'.w=C.w){hd:ag}{o:oh}(j:pJ C hd o)(a:DZ os o):pJ C' hd (WV vf o):=by
 cases o with
 |box t l=>obtain⟨g,q,c,b,p⟩:=j;exact⟨g,q,c,by rw[d];exact b,p.hot h a⟩
 |arr e n len f=>obtain⟨m,c,b⟩:=j;exact⟨m,by rw[d];exact c,fun i k=>(b i k).hot h (a i k)⟩
 |dead=>exact a.elim|dev _ _ _=>exact a.elim
theorem RW.hot(h:Ad C C' os vf){x:PW}{v:ag}(hr:RW C x v)(hc:Zn (zt os) x=true):RW C' (GY vf x) v:=by
 cases hr with
 |one a=>exact .one (a.hot h hc)|agg a=>exact .agg (a.hot h hc)
theorem RV.hot(h:Ad C C' os vf){x:PV}{v:ag}(hr:RV C x v)(hc:vP (zt os) x=true):RV C' (GZ vf x) v:=by
 cases hr with
 |w c=>exact .w (c.hot h hc)| o7 d c=>
  refine .o7 (by rw[aAB];exact d) (fun i x a=>?_);rw[aAg] at a;cases b:(_:List PW)[i]? with
  |none=>rw[b] at a;cases a|some y=>rw[b] at a;cases a;obtain⟨v,f,e⟩:=c i y b;exact⟨v,f,e.hot h (List.all_eq_true.1 hc y (aCH b))⟩
 |none=>exact .none
theorem aVc{c:PC}(h:zt os c=true):VJ (fun _=>0) c=c:=by
 cases c<;>first|rfl|skip
 all_goals
  have a:=h;simp only[zt,zg] at a;obtain rfl:=iy a.2;rfl
theorem aDa:∀ {l:g_},l.all (zt os)=true->l.map (VJ fun _=>0)=l
 |[],_=>rfl|c::l,h=>by rw[aBV,zg] at h;rw[aAJ,aVc h.1,aDa h.2]
theorem bRk{x:PV}(h:vP (zt os) x=true):GZ (fun _=>0) x=x:=by
 have d:∀ {y:PW},Zn (zt os) y=true->GY (fun _=>0) y=y:=by
  intro y b;cases y with
  |one c=>exact congrArg PW.one (aVc b)|agg l=>exact congrArg PW.agg (aDa b)
 cases x with
 |w y=>exact congrArg PV.w (d h)| o7 l=>
  refine congrArg PV.o7 ?_;have a:l.all (Zn (zt os))=true:=h;clear h
  induction l with
  |nil=>rfl|cons y l e=>rw[aBV,zg] at a;rw[aAJ,d a.1,e a.2]
 |none=>rfl
theorem pJ.En(h:Ad C C' os fun _=>0)(c:C'.w=C.w){hd:ag}{o:oh}(d:pJ C hd o)(a:DZ os o):pJ C' hd o:=by
 cases o with
 |box t l=>have:pJ C' hd (.box t (l.map (VJ fun _=>0))):=d.hot h c a;rw[aDa a] at this;exact this|arr e n len f=>obtain⟨g,k,j⟩:=d;refine⟨g,by rw[c];exact k,fun i b=>?_⟩;have:=(j i b).hot h (a i b);rw[aDa (a i b)] at this;exact this
 |dead=>exact a.elim|dev _ _ _=>exact a.elim
theorem RV.En(h:Ad C C' os fun _=>0){x:PV}{v:ag}(hr:RV C x v)(hc:vP (zt os) x=true):RV C' x v:=by have:=hr.hot h hc;rw[bRk hc] at this;exact this
theorem pq.En(h:Ad C C' os fun _=>0):∀ {a:ji} {l:jl},pq C a l->a.all (vP (zt os))=true->pq C' a l
 |[],[],_,_=>trivial|[],_::_,h,_=>h.elim|_::_,[],h,_=>h.elim|_::_,_::_,⟨h1,h2⟩,hc=>by rw[aBV,zg] at hc;exact⟨h1.En h hc.1,pq.En h h2 hc.2⟩
def Eb(P:ed)(I:jg)(f:Nat)(os d:yg)(args:ji)(j:PV):Prop:=
 ∀ (w:ae) (g:uy) (k:jl) (c:Nat->ag),(∀ h,gq (CG os c) w h->I h)->(∀ b,CG os c b->b<w.heap.size/\¬g b) ->
  (∀ x y b,uo os x=true->uo os y=true->hblk (c x)=some b->hblk (c y)=some b->x=y)->(∀ x o,find os x=some o->pJ ⟨w,g,Af os c⟩ (c x) o)->pq ⟨w,g,Af os c⟩ args k ->
  lL P f k.toArray w fun e h=>∃ a i,e=.returned i/\gq (CG os c) w h/\(∀ x t l,find os x=some (.box t l)->a x=c x) /\
   (∀ x b,uo d x=true->hblk (a x)=some b->b<h.heap.size/\(w.heap.size<=b\/CG os c b))/\(∀ x y b,uo d x=true->uo d y=true->hblk (a x)=some b->hblk (a y)=some b->x=y) /\
   (∀ x o,find d x=some o->pJ (Et h w g d a) (a x) o)/\RV (Et h w g d a) j i
def rdW:List Nat->(yg->M)->M
 |[],k=>k []|x::l,k=>.obj x fun c a b=>kL c (match bz a 0 with
  |true=>rdW l fun os=>k ((x,b)::os)|false=>.fail)
def Ec(a:yg)(v:Nat)(x:Nat):Nat:=match find a x with
 |some (.arr _ _ _ _)=>v|_=>0
def I5(a:Bool)(v:Nat)(vf:Nat->Nat):yg->M->M
 |[],k=>k|(x,.box t l)::r,k=>(match a with
  |true=>.new x (WV vf (.box t l)) fun u=>(match bz u 0 with|true=>I5 a v vf r k|false=>.fail)
  |false=>.upd x 0 (WV vf (.box t l)) (I5 a v vf r k))
 |(x,.arr e n len f)::r,k=>.new x (WV vf (.arr e n len f)) fun u=>(match bz u v with|true=>I5 a v vf r k|false=>.fail)
 |_,_=>.fail
def eqN:yg->List Nat->Bool
 |[],[]=>true|(x,_)::l,y::m=>bz x y&&eqN l m|_,_=>false
def IB:List Nat->Bool
 |[]=>true|x::l=>XN dx x&&(l.all fun y=>!Nat.beq x y)&&IB l
def Zk:yg->yg->Bool
 |[],[]=>true|(x,.box _ _)::l,(y,.box _ _)::m=>bz x y&&Zk l m|(x,.arr _ _ _ _)::l,(y,.arr _ _ _ _)::m=>bz x y&&Zk l m|_,_=>false
def OD:Bool->Nat
 |true=>0|false=>1
def aSM(b:List Nat):Bool->List Nat
 |true=>[]|false=>b
def wSpec(c:Bool)(e:List Nat)(g:yg->ji->Option (Prop×yg×PV)):Spec:=fun _ f=>rdW (aSM e c) fun d=>match f.all (vP (zt d)),IB e,g d f with
 |true,true,some (p,b,r)=>(match eqN b e,(c||Zk d b),vP (zt b) r with
  |true,true,true=>.need p (.need ((∀ q∈d,DZ d q.2)/\∀ q∈b,DZ b q.2) (I5 c (OD c) (Ec b (OD c)) b (.ret (GZ (Ec b (OD c)) r))))|_,_,_=>.fail)
 |_,_,_=>.fail
variable {A:o_} {s:St} {a:Act} {w:ae} {env:Env} {F:og->PV->Wr->Prop}
theorem KW(h:ig A s a w env):∀ {p:List Nat} {k:yg->M},(rdW p k).ok none s F->∃ c,c.map (·.1)=p/\(∀ q∈c,∃ i g,find s.o q.1=some (i,0,q.2)/\gT i/\env q.1=some (0,g)/\pJ (aP A w env) g q.2)/\(k c).ok none s F
 |[],k,b=>⟨[],rfl,(fun q d=>by cases d),b⟩|x::l,k,b=>by
  obtain⟨i,r,t,f,b⟩:=b;have m:=dZ b;clear b;obtain⟨e,b⟩:=m;obtain⟨g,u,j⟩:=kX h f e
  cases n:bz r 0<;>simp only[n] at b
  exact b.elim;obtain rfl:=iy n;obtain⟨c,B,z,y⟩:=KW h b;refine⟨(x,t)::c,by rw[aAJ,B],fun q d=>?_,y⟩;rcases List.mem_cons.1 d with rfl|d
  exact⟨i,g,f,e,u,j⟩;exact z q d
theorem wI:∀ {c:yg} {q:Nat×oh},q∈c->IB (c.map (·.1))=true->find c q.1=some q.2
 | (x,o)::l,q,b,hd=>by
  simp only[aAJ,IB,zg] at hd;rcases List.mem_cons.1 b with rfl|b;exact aG _ _ _
  have d:x≠q.1:=fun e=>by have:=List.all_eq_true.1 hd.1.2 q.1 (List.mem_map.2 ⟨q,b,rfl⟩);rw[e,Nat.beq_refl] at this;cases this
  rw[aF _ _ d];exact wI b hd.2
theorem aPp:∀ {l:List Nat},IB l=true->∀ x∈l,dx<x
 |y::l,hd,x,b=>by
  simp only[IB,zg] at hd;rcases List.mem_cons.1 b with rfl|b
  have c:dx+1<=x:=by simpa[XN] using hd.1.1
  exact c;exact aPp hd.2 x b
theorem bPg:∀ {b:yg} {c:List Nat},eqN b c=true->b.map (·.1)=c
 |[],[],_=>rfl|(x,o)::l,y::m,h=>by simp only[eqN,zg] at h;rw[aAJ,bPg h.2,iy h.1]|[],_::_,h=>by cases h|_::_,[],h=>by cases h
theorem zK{os:yg}{x:Nat}(h:uo os x=true):x∈os.map (·.1):=by obtain⟨o,b⟩:=kU h;exact List.mem_map.2 ⟨(x,o),sS b,rfl⟩
theorem mV{os:yg}{x:Nat}{o:oh}(h:find os x=some o):uo os x=true:=by unfold uo;rw[h]
theorem aIl:∀ {d b:yg} {x:Nat} {t:bu} {l:g_},Zk d b=true->find b x=some (.box t l)->∃ e f,find d x=some (.box e f)
 |[],[],_,_,_,_,h=>by cases h|(y,.box t1 l1)::d,(z,.box t2 l2)::b,x,t,l,hk,h=>by simp only[Zk,zg] at hk;obtain rfl:=iy hk.1;by_cases c:y=x;subst c;exact⟨t1,l1,aG _ _ _⟩;rw[aF _ _ c] at h ⊢;exact aIl hk.2 h
 |(y,.arr _ _ _ _)::d,(z,.arr _ _ _ _)::b,x,t,l,hk,h=>by simp only[Zk,zg] at hk;obtain rfl:=iy hk.1;by_cases c:y=x;subst c;rw[aG] at h;cases h;rw[aF _ _ c] at h ⊢;exact aIl hk.2 h
def RP(v:Nat):oh->Nat
 |.arr _ _ _ _=>v|_=>0
def frO(s:St)(b:Bool)(v x:Nat):oh->Prop
 |.arr _ _ _ _=>fresh s x=v|.box _ _=>b=true->fresh s x=0|_=>False
structure WrO(s:St)(ini:Bool)(v:Nat)(vf:Nat->Nat)(os':yg)(wr:Wr):Prop where
 out:∀ x,find os' x=none->∀ r:Wr,find (wr++r) x=find r x
 own:∀ x o,find os' x=some o->(∀ r:Wr,find (wr++r) x=some (none,RP v o,WV vf o))/\frO s ini v x o
theorem WrO.cons{d:Bool}{v:Nat}{f:Nat->Nat}{e:yg}{wr:Wr}{x:Nat}{o:oh}(h:WrO s d v f e wr)(i:frO s d v x o):WrO s d v f ((x,o)::e) ((x,none,RP v o,WV f o)::wr):=by refine⟨fun y c r=>?_,fun y g c=>?_⟩;by_cases b:x=y;subst b;rw[aG] at c;cases c;rw[aF _ _ b] at c;rw[C_,aF _ _ b];exact h.out y c r;by_cases b:x=y;subst b;rw[aG] at c;cases c;exact⟨fun r=>by rw[C_,aG],i⟩;rw[aF _ _ b] at c;refine⟨fun r=>?_,(h.own y g c).2⟩;rw[C_,aF _ _ b];exact (h.own y g c).1 r
theorem bAa{j:Bool}{v:Nat}{p:Nat->Nat}:∀ {c:yg} {k:M} {F:og->PV->Wr->Prop},(I5 j v p c k).ok none s F->∃ wr:Wr,WrO s j v p c wr/\k.ok none s (fun g pv i=>F g pv (wr++i))
 |[],k,F,d=>⟨[],⟨fun _ _ _=>rfl,fun x o h=>by cases h⟩,d⟩| (x,.box t l)::c,k,F,d=>by
  cases j with
  |true=>
   unfold I5 at d;have b:(match bz (fresh s x) 0 with|true=>I5 true v p c k|false=>M.fail).ok none s (fun g pv i=>F g pv ((x,none,fresh s x,WV p (.box t l))::i)):=d
   cases m:bz (fresh s x) 0<;>simp only[m] at b
   exact b.elim;rw[iy m] at b;obtain⟨wr,r,q⟩:=bAa b;exact⟨_,r.cons (o:=.box t l) (fun _=>iy m),q⟩
  |false=>unfold I5 at d;obtain⟨wr,r,q⟩:=bAa d.2;exact⟨_,r.cons (o:=.box t l) (fun h=>(by cases h)),q⟩
 |(x,.arr e n len f)::c,k,F,d=>by
  unfold I5 at d;have b:(match bz (fresh s x) v with|true=>I5 j v p c k|false=>M.fail).ok none s (fun g pv i=>F g pv ((x,none,fresh s x,WV p (.arr e n len f))::i)):=d
  cases m:bz (fresh s x) v<;>simp only[m] at b
  exact b.elim;rw[iy m] at b;obtain⟨wr,r,q⟩:=bAa b;exact⟨_,r.cons (o:=.arr e n len f) (iy m),q⟩
 |(x,.dead)::c,k,F,d=>by unfold I5 at d;exact d.elim|(x,.dev _ _ _)::c,k,F,d=>by unfold I5 at d;exact d.elim
def Cb(c:yg)(d:Nat->Nat)(b:Nat->ag)(env:Env):Env:=fun x=>match find c x with
 |some _=>some (d x,b x)|none=>env x
theorem RN{b:yg}{v x:Nat}{o:oh}(h:find b x=some o):Ec b v x=RP v o:=by unfold Ec;rw[h];cases o<;>rfl
theorem ig.aHX(h:ig A s a w env){w':ae}{L:Bool}{v:Nat}{os c:yg}{K d:Nat->ag}{wr:Wr}(T:WrO s L v (Ec c v) c wr)(_:v=0\/(L=false/\v=1))
  (b2:∀ x,uo c x=true->dx<x) (a6:∀ x,uo os x=true->uo c x=true) (c4:L=false->∀ x,uo c x=true->uo os x=true)
  (a1:∀ x o,find os x=some o->env x=some (0,K x)) (a9:L=true->v=0) (c3:L=false->v=1)
  (hw:gq (CG os K) w w') (b4:L=false->∀ x t l,find c x=some (.box t l)->d x=K x)
  (hb:∀ x b,uo c x=true->hblk (d x)=some b->b<w'.heap.size/\(w.heap.size<=b\/CG os K b)) (a8:∀ x y b,uo c x=true->uo c y=true->hblk (d x)=some b->hblk (d y)=some b->x=y)
  (c1:∀ x o,find c x=some o->pJ (Et w' w (aP A w env).ok c d) (d x) o) (b0:∀ x o,find c x=some o->DZ c o) :
  ig A { s with o:=wr++s.o } a w' (Cb c (Ec c v) d env)/\(aP A w env).Le (aP A w' (Cb c (Ec c v) d env))/\Ad (Et w' w (aP A w env).ok c d) (aP A w' (Cb c (Ec c v) d env)) c (Ec c v):=by
 have eI:∀ {x o},find c x=some o->Cb c (Ec c v) d env x=some (RP v o,d x):=fun {x o} m=>by unfold Cb;rw[m];dsimp only;rw[RN m]
 have X:∀ {x},find c x=none->Cb c (Ec c v) d env x=env x:=fun {x} m=>by unfold Cb;rw[m]
 have E:∀ b,CG os K b->∃ x,uo c x=true/\env x=some (0,K x)/\hblk (K x)=some b:=fun b ⟨x,o,q,H⟩=>⟨x,a6 x (mV q),a1 x o q,H⟩;have a0:∀ {b},b<w.heap.size->(∀ x j B,env x=some (j,B)->hblk B≠some b)->¬CG os K b:=fun {b} _ hn G=>by obtain⟨x,_,q,H⟩:=E b G;exact hn x 0 _ q H
 have a7:∀ {b},b<w.heap.size->(∀ x j B,env x=some (j,B)->hblk B≠some b)->∀ x j B,Cb c (Ec c v) d env x=some (j,B)->hblk B≠some b:=by
  intro b J hn x j B m e;cases C:find c x with
  |none=>rw[X C] at m;exact hn x j B m e|some o=>rw[eI C] at m;cases m;rcases (hb x b (mV C) e).2 with q|q;omega;exact a0 J hn q
 have Y:(aP A w env).Le (aP A w' (Cb c (Ec c v) d env)):=by
  refine⟨hw.size,fun b J N=>⟨⟨N.1,a7 J N.2⟩,hw.block b J (a0 J N.2)⟩,fun x j B m=>?_⟩;have D:env x=some (j,B):=m;cases C:find c x with
  |none=>exact⟨j,B,(X C).trans D,dE _,fun _=>rfl⟩| some o=>
   have U:=(T.own x o C).2;cases hi:L with
   | true=>
    exfalso
    have a3:fresh s x=0:=by
     cases o with
     |box t l=>exact U hi|arr e n len f=>exact (show fresh s x=v from U).trans (a9 hi)|dead=>exact U.elim|dev _ _ _=>exact U.elim
    unfold fresh at a3;cases hs:find s.o x with
    |none=>rw[h.dom x hs] at D;cases D|some p=>rw[hs] at a3;cases a3
   |false=>
    obtain⟨o0,c2⟩:=kU (c4 hi x (mV C));rw[a1 x o0 c2] at D;cases D;refine⟨_,_,eI C,x8 _,fun e=>?_⟩;cases o with
    |box t l=>exact b4 hi x t l C|arr e0 n len f=>have e1:0=v:=e;have:=c3 hi;omega|dead=>exact U.elim|dev _ _ _=>exact U.elim
 have b1:Ad (Et w' w (aP A w env).ok c d) (aP A w' (Cb c (Ec c v) d env)) c (Ec c v):=by
  refine⟨⟨dE _,fun b J N=>⟨⟨?_,fun x j B m e=>?_⟩,rfl⟩,fun _ _ _ h=>by cases h⟩,fun x o ho=>⟨d x,by show Af c d x=_;unfold Af;rw[ho],by show Cb c (Ec c v) d env x=_;unfold Cb;rw[ho]⟩⟩;rcases N.1 with q|q;exact q.1;exact .inr (ry h.iw.size q);have D:Cb c (Ec c v) d env x=some (j,B):=m
  cases C:find c x with
  |none=>
   rw[X C] at D;rcases N.1 with q|q;exact q.2 x j B D e
   have:=(h.live x j B b D e).1;omega
  |some o=>rw[eI C] at D;cases D;exact N.2 ⟨x,o,C,e⟩
 refine⟨{ iw:=?_,size:=h.size,dom:=fun x m=>?_,lu:=fun x g j o C=>?_,live:=fun x j B b m G=>?_,inj:=fun x y v1 q v2 H b m S Q V=>?_,tmps:=fun t g pv C hg=>?_,defers:=h.defers,und:=h.und,pg:=fun y B S=>⟨(h.pg y B S).1,(h.pg y B S).2.le Y⟩,dev:=fun g j O gm l C hg=>?_ },Y,b1⟩;refine h.iw.trans' hw (fun _ _ h=>h) (fun i hi G=>?_);obtain⟨x,_,q,H⟩:=E i G;rcases (h.live x _ _ i q H).2 with Z|Z;omega;exact Z.1
 cases C:find c x with
 |none=>rw[X C];exact h.dom x (by rw[<-T.out x C];exact m)|some o=>have:=(T.own x o C).1 s.o;rw[this] at m;cases m
 cases r:find c x with
 |none=>
  have a4:find s.o x=some (g,j,o):=by rw[<-T.out x r];exact C
  obtain⟨B,q,H⟩:=h.lu x g j o a4;refine⟨B,(X r).trans q,fun hg=>(H hg).Az Y (fun b G J=>hw.block b J (fun c6=>?_))⟩;obtain⟨y,c0,b9,b8⟩:=E b c6;have:x=y:=h.inj x y _ _ _ _ b q b9 G b8;subst this;obtain⟨o2,a2⟩:=kU c0;rw[a2] at r;cases r
 |some o2=>have e1:find (wr++s.o) x=some (g,j,o):=C;rw[(T.own x o2 r).1 s.o] at e1;cases e1;exact⟨d x,eI r,fun _=>(c1 x o2 r).hot b1 rfl (b0 x o2 r)⟩
 cases r:find c x with
 |none=>rw[X r] at m;exact⟨aAF (h.live x j B b m G).1 hw.size,(h.live x j B b m G).2⟩|some o=>rw[eI r] at m;cases m;obtain⟨q,H⟩:=hb x b (mV r) G;refine⟨q,?_⟩;rcases H with H|H;exact .inl (ry h.iw.size H);obtain⟨y,_,Z,h4⟩:=E b H;rcases (h.live y _ _ b Z h4).2 with h5|h5;exact .inl h5;exact .inr ⟨h5.1,Nat.ble_eq_true_of_le (Nat.le_of_lt (b2 x (mV r)))⟩
 have a5:∀ {x y v1 q o},find c x=none->find c y=some o->env x=some (v1,q)->hblk q=some b->hblk (d y)=some b->False:=by intro x y v1 q o m S he Q V;rcases (hb y b (mV S) V).2 with Z|Z;have:=(h.live x v1 q b he Q).1;omega;obtain⟨z,b7,b6,b5⟩:=E b Z;have:x=z:=h.inj x z _ _ _ _ b he b6 Q b5;subst this;obtain⟨o2,a2⟩:=kU b7;rw[a2] at m;cases m
 cases W:find c x with
 |none=>
  rw[X W] at m;cases u:find c y with
  |none=>rw[X u] at S;exact h.inj x y v1 q v2 H b m S Q V|some o=>rw[eI u] at S;cases S;exact (a5 W u m Q V).elim
 |some o=>
  rw[eI W] at m;cases m;cases u:find c y with
  |none=>rw[X u] at S;exact (a5 u W S V Q).elim|some o2=>rw[eI u] at S;cases S;exact a8 x y b (mV W) (mV u) Q V
 obtain⟨v,q,H⟩:=h.tmps t g pv C hg;exact⟨v,q,H.le Y⟩;cases b3:find c dx with
 |some o=>have:=b2 dx (mV b3);omega| none=>
  have a4:find s.o dx=some (g,j,.dev O gm l):=by rw[<-T.out dx b3];exact C
  obtain⟨q,H,Z⟩:=h.dev g j O gm l a4 hg;refine⟨q,H,A.dv.grow _ _ _ _ _ Z (hw.mono fun k _ hk=>?_) (fun b c7=>?_)⟩;obtain⟨x,_,e1,e2⟩:=E k hk;exact .inr ⟨x,0,_,e1,e2⟩;rcases c7 with h4|⟨y,v2,c5,h4,h5⟩;exact .inl (.inl h4)
  cases u:find c y with
  |none=>rw[X u] at h4;exact .inl (.inr ⟨y,v2,c5,h4,h5⟩)|some o=>rw[eI u] at h4;cases h4;obtain⟨h6,h7⟩:=hb y b (mV u) h5;rcases h7 with h7|h7;exact .inr ⟨h7,h6⟩;obtain⟨z,_,e1,e2⟩:=E b h7;exact .inl (.inr ⟨z,0,_,e1,e2⟩)
end
end Pv
end Go.Proofs.YtndpjopifkbgiaaGreatDoor
