/-
  Several texts in one file.
-/
import Derived.Test.YtndpjopifkbgiaaGreatDoorOnF
import Derived.Test.YtndpjopifkbgiaaGreatDoorOnB
import Derived.Test.YtndpjopifkbgiaaGreatDoorOnE
import Derived.WalkMore
import Derived.Test.YtndpjopifkbgiaaGreatDoorOnC
import Derived.Test.YtndpjopifkbgiaaGreatDoorOnD
set_option maxRecDepth 100000
set_option maxHeartbeats 4000000
namespace Go.Proofs.YtndpjopifkbgiaaGreatDoor
open Go.RowKit Tryz
open _root_.And renaming intro->az
open _root_.Nat renaming le_refl->dC,lt_of_lt_of_le->YX,beq->bu,zero_add->ik,ble_eq_true_of_le->aCn,blt->Hm,le_trans->PP,le_of_lt->aFF,le_of_ble_eq_true->Yp,beq_refl->aCg,reduceSub->aAM,reduceAdd->aAL,zero_le->xn
open _root_.Bool renaming and_eq_true->ww
open _root_.List renaming length_append->gp,getElem?_cons_zero->Yv,getElem?_toArray->Zd,map_cons->DD,mem_cons_of_mem->VM,mem_cons_self->MM,getElem?_map->XN,cons_append->yz,length_nil->Yg,getElem?_range->Zb,size_toArray->Yx,all_cons->ZF,length_cons->zl,nil_prefix->aCr,getElem?_eq_none->YQ,prefix_of_prefix_length_le->aGg,replicate->PR,range->AC,getElem?_replicate->aAG,getElem?_cons_succ->Ya,length_singleton->ZV,length_replicate->Z_,mem_of_getElem?->ZO,append_toArray->aAQ,getElem_range->ZI,push_toArray->aAP,ext_getElem?->YZ,append_assoc->Pi,getElem_map->ZU,ext_getElem->Z9,nil_append->Ha,length_set->Yb,append_nil->Lt
open _root_.Go renaming undef->bz,World->ae,Value->ag,wpAnyH_take->Yn,Program->dE,Calls->mf,TypeId->bi,callFunc->YR,bodyPost_ret->ZJ
open _root_.Array renaming replicate->IR,length_toList->uA,getD_eq_getD_getElem?->Yw,all_toList->aAD,ext'->GM,getElem?_append_left->aCc,replicate_zero->aAO,replicate_succ->aAN,size_append->aBK
open _root_.Int renaming toNat_natCast->WF
open _root_.Go.World renaming alloc->aBA
open _root_.Go.IntKind renaming wrap_i64->TC
namespace Pv
def Gp(n:Nat)(c:Acc):Prop:=(c.kind=3/\(c.bytes=aG/\c.pg=0)/\0<=c.cell/\c.cell<n)\/(c.kind=4/\c.pg=0/\(0<=c.cell/\c.cell<n)/\c.bytes.size=256)
theorem aLz{b:y5}{f:Fl}{r:dh}{c:Acc}(h:Gp f.length c):dM ⟨b,f,r⟩ c AA=(⟨b,eX (-1) c f,r⟩,Bd c f,0):=by rcases h with⟨a,e,d⟩|⟨a,e,d,g⟩;rw[sV a e d];unfold eX Bd;rw[au a,au a];rfl;rw[sU a e d g];unfold eX Bd;rw[ay a_,ay a_];rfl
theorem uN(cut:Int)(c:Acc)(f:Fl):(eX cut c f).length=f.length:=by
 unfold eX;split
 rfl;exact aAk _ _ _ _
theorem aOu{e:Type}(p:aj e):∀ (b:y5) (f:Fl) (r:dh),(∀ c∈mg p f,Gp f.length c)->uf p ⟨b,f,r⟩=(.ok (Aj p f),⟨b,ui (mg p f) f,r⟩):=by
 induction p with
 |ret a=>intro b f r _;rfl|ask c k g=>
  intro b f r h;have d:Gp f.length c:=h c MM
  have j:c.kind ≠ -1:=by rcases d with⟨l,_⟩|⟨l,_⟩<;>omega
  rw[uf,ay j,aLz d];refine (g (Bd c f) b (eX (-1) c f) r (fun x i=>?_)).trans rfl;rw[uN];exact h x (VM _ i)
theorem aEw{s:Int}(h0:0<=s)(h1:s+8<=128):∀ n,n<=8->∀ c∈Y_ s n,Gp 128 c
 |0,_,c,h=>by cases h|n+1,a,c,h=>by rcases List.mem_cons.1 h with rfl|h;exact .inl ⟨rfl,⟨rfl,rfl⟩,by show 0<=s+((7-n:Nat):Int);omega,by show s+((7-n:Nat):Int)<128;omega⟩;exact aEw h0 h1 n a_ c h
theorem bBn{s:Int}{b:dh}(h0:0<=s):∀ n i,s+((i+n:Nat):Int)<=128->∀ c∈BQ s b n i,Gp 128 c
 |0,_,_,c,h=>by cases h|n+1,i,a,c,h=>by rcases List.mem_cons.1 h with rfl|h;exact .inr ⟨rfl,rfl,⟨by show 0<=s+(i:Int);omega,by show s+(i:Int)<128;omega⟩,by rw[aW,dR]⟩;exact bBn h0 n (i+1) a_ c h
theorem aDr{s:Int}{b:dh}(h0:0<=s)(h1:s+8<=128)(hb:nsec b<=8)(a:1<=nsec b):∀ c∈bV s b,Gp 128 c:=by
 intro c h;rcases List.mem_cons.1 h with rfl|h;exact .inr ⟨rfl,rfl,⟨h0,by show s<128;omega⟩,by rw[aW,jS]⟩;rcases List.mem_append.1 h with h|h;exact bBn h0 (nsec b-1) 1 a_ c h
 obtain rfl:=List.mem_singleton.1 h;exact .inr ⟨rfl,rfl,⟨h0,by show s<128;omega⟩,by rw[aW,dR]⟩
theorem aBb:∀ c∈Go.Proofs.YtndpjopifkbgiaaGreatDoor.CQ 3,Gp 128 c:=by intro c h;rcases List.mem_append.1 h with h|h;exact aEw g_ g_ 8 (dC _) c h;exact aEw g_ g_ 8 (dC _) c h
structure zf(f:Fl)(s:Int)(c:dh):Prop where
 sz:Sz f
 cur:(iw f 3).1=(s,c)
theorem bHa:Sz D7:=⟨by unfold D7;rw[Z_],fun x a=>by
 rw[List.eq_of_mem_replicate a,aW];unfold ED
 rw[Z_]⟩
theorem SI{t:Int}(h0:0<=t)(h1:t<128):(sec D7 t)[0]?=some 0:=by
 obtain⟨n,rfl⟩:=Int.eq_ofNat_of_zero_le h0;have a:n<128:=a_;have e:D7.getD n aG=strOf ED:=by unfold D7;rw[zG,aAG,au a,Option.getD_some]
 unfold sec;rw[au ⟨h0,by rw[bHa.1];exact h1⟩,WF,e,dI];unfold ED;rw[aAG,au a_]
theorem zT:zf D7 0 []:=by
 refine⟨bHa,?_⟩;have h:∀ k:Int,0<=k->k<=1->Da D7 3 k=(0,[]):=fun k b a=>by have e:=vU (rec:=3) (k:=k) a_ a_ b a;exact yT bHa a_ a_ (SI a_ a_) 3
 unfold iw;rw[h 0 a_ a_,h 1 a_ a_];rfl
theorem aWg{f:Fl}{s:Int}{c:dh}(h:zf f s c)(b:y5)(r:dh):uf (aj.load 3) ⟨b,f,r⟩=(.ok (wY (s,c)),⟨b,f,r⟩):=by obtain⟨d,e⟩:=bFt (rec:=3) (f:=f) a_ a_;have a:=(PK 3 f).2.2;rw[(PK 3 f).1] at a;rw[aOu _ b f r (by rw[d,h.sz.1];exact aBb),d,e,a,h.cur]
def Gl(f:Fl)(x:l9):Fl:=(zy f ⟨3,x,-1,0⟩).1
theorem aVj{f:Fl}{s:Int}{c:dh}(h:zf f s c){x:l9}(j:x.size<=2000)(hs:s+1<=1099511627776)(b:y5)(r:dh):uf (aj.save 3 x) ⟨b,f,r⟩=(.ok ⟨x,s+1,0⟩,⟨b,Gl f x,r⟩):=by
 have a:(iw f 3).1.1+1<=1099511627776:=by rw[h.cur];exact hs
 have e:Fine f ⟨3,x,-1,0⟩:=⟨h.sz,(by show (0:Int)<=3;decide),(by show (3:Int)<=3;decide),j,a⟩;obtain⟨i,m⟩:=aId (rec:=3) (c:=x) (f:=f) a_ a_ j a;have g:=(PK 3 f).2.2;rw[(PK 3 f).1] at g;have n:=zW e (.inl (by show (-1:Int)<0;decide));have o:=e.first;have k:=e.nsec;have l:(iw f 3).1.1=s:=by rw[h.cur]
 rw[aOu _ b f r,i,m,aGa,g,l];unfold Gl;rw[n];dsimp only;unfold jb gm;rw[show (iw f (Om.gq ⟨3,x,-1,0⟩)).1.1=s from l];rw[i,h.sz.1];intro c d;rcases List.mem_append.1 d with d|d;exact aBb c d;exact aDr (s:=jb f ⟨3,x,-1,0⟩) (b:=gm f ⟨3,x,-1,0⟩) o.1 a_ k.2 k.1 c d
theorem bCk{f:Fl}{s:Int}{c:dh}(h:zf f s c){x:l9}(d:x.size<=2000)(hs:s+1<=1099511627776):zf (Gl f x) (s+1) x.data.toList:=by
 have a:(iw f 3).1.1+1<=1099511627776:=by rw[h.cur];exact hs
 have b:Fine f ⟨3,x,-1,0⟩:=⟨h.sz,(by show (0:Int)<=3;decide),(by show (3:Int)<=3;decide),d,a⟩;have p:=bDx b;have g:(zy f ⟨3,x,-1,0⟩).2.2.1=true:=by rw[zW b (.inl (by show (-1:Int)<0;decide))]
 have e:=p.whole b g;refine⟨p.sz,e.trans ?_⟩;show ((iw f 3).1.1+1,_)=_;rw[h.cur]
structure CB(r:l_):Prop where
 kind:r.kind=1\/r.kind=2
 l0:0<=r.level
 l1:r.level<=16
 ol:ja r.ol
 ot:r.ot.length=16
 p:r.payload.size<=1000
theorem wP{c:Type}(a b:List c){n:Nat}(h:n=a.length):(a++b).drop n=b:=by rw[h];exact List.drop_left
theorem bEo(root:dh)(r:l_)(g:CB r):wV root (gU root r)=.okR (iM r):=by
 have e:=g.l0;have d:=g.l1;unfold gU;obtain⟨C,c⟩:=lm (dW (pY root) r.level (iM r));obtain⟨T,a⟩:=lm (Ai (pY root) r.level C);have f:T.length=16:=by rw[<-a];exact jV _ _ _
 have b:C.length<4611686018427387904:=by rw[<-c,dA];unfold iM bH;have t:=aQ r.kind;have s:=aQ r.level;have q:=aQ r.ol;have o:=aQ (r.payload.data.toList.length:Int);have m:r.payload.data.toList.length=r.payload.size:=uA;have l:=g.p;have k:=g.ot;simp only[gp];omega
 rw[c,a];have j:=mF (n:=r.level) (bH C++T) a_ a_;have i:=vP C T b;unfold wV;rw[j];dsimp only;rw[ay g_,wP _ _ rfl,i];dsimp only;rw[ay (by simp only[gp];omega)];have h:(eu r.level++(bH C++T)).drop ((eu r.level).length+(bH C).length)=T:=by rw[<-Pi];exact wP _ _ (by rw[gp])
 rw[h];unfold F9;rw[au a,<-c,aJr]
theorem aQk(root:dh)(r:l_)(g:CB r):xB root (gX root r)=(r,true):=by
 have b:=g.l0;have a:=g.l1;have d:=g.kind;unfold xB;rw[show (gX root r).data.toList=gU root r from dI _,bEo root r g];unfold P7 iM;dsimp only;have h:=mF (n:=r.kind) (eu r.level++(r.ot++(eu r.ol++bH r.payload.data.toList))) a_ a_;have f:=mF (n:=r.level) (r.ot++(eu r.ol++bH r.payload.data.toList)) a_ a_;have e:=mF (n:=r.ol) (bH r.payload.data.toList) g.ol.1 g.ol.2
 have c:=vP r.payload.data.toList [] (by
  have i:r.payload.data.toList.length=r.payload.size:=uA;have:=g.p
  omega)
 rw[Lt] at c;rw[h];dsimp only;rw[wP _ _ rfl,f];dsimp only;rw[wP _ _ rfl];unfold WG
 rw[ay (by
  have:=g.ot;rw[gp];simp
  omega),wP _ _ g.ot.symm,e]
 dsimp only;rw[wP _ _ rfl,c];dsimp only;rw[show (r.ot++(eu r.ol++bH r.payload.data.toList)).take 16=r.ot from by rw[<-g.ot];exact List.take_left,qF];unfold WE;rw[rq];exact⟨rfl,rfl,d,b,a,rfl⟩
theorem sS(root:dh)(r:l_)(g:CB r):(gX root r).size<=2000:=by unfold gX;rw[aW];unfold gU bH;have j:=aQ r.kind;have i:=aQ r.level;have h:=aQ r.ol;have f:=aQ (r.payload.data.toList.length:Int);have e:r.payload.data.toList.length=r.payload.size:=uA;have d:=g.p;have c:=g.ot;have b:=aQ ((dW (pY root) r.level (iM r)).length:Int);simp only[gp,dA,jV];unfold iM bH;simp only[gp];have a:=aQ ((eu r.kind++(eu r.level++(r.ot++(eu r.ol++(eu (r.payload.data.toList.length:Int)++r.payload.data.toList))))).length:Int);simp only[gp] at a;omega
structure DY(f:Fl)(s:Int)(root:dh)(r:l_):Prop where
 gq:zf f s (gU root r)
 s1:1<=s
 ok:CB r
theorem SB{m:jy}{f:Fl}{s:Int}{r:l_}(h:DY f s m.root r)(b:y5)(q:dh):uf (tu m) ⟨b,f,q⟩=(.ok r,⟨b,f,q⟩):=by
 have a:=h.s1;have e:wY (s,gU m.root r)=⟨gX m.root r,s,0⟩:=by unfold wY;rw[ay (by show ¬s=0;omega)];rfl
 unfold tu;rw[bQ ((aWg h.gq b q).trans (by rw[e]))];dsimp only;rw[show ((0:Int)==0)=true from rfl,bQ (cO _ _),aQk m.root r h.ok];exact bQ (cO _ _)
theorem QP{m:jy}{f:Fl}{s:Int}{c:dh}{r:l_}(h:zf f s c)(hs:s+1<=1099511627776)(g:CB r)(b:y5)(q:dh):uf (AX m r) ⟨b,f,q⟩=(.ok (),⟨b,Gl f (gX m.root r),q⟩):=by unfold AX;rw[bQ (aVj h (sS m.root r g) hs b q)];dsimp only;rw[show ((0:Int)==0)=true from rfl,bQ (cO _ _)];rfl
theorem aSv{root:dh}{f:Fl}{s:Int}{c:dh}{r:l_}(h:zf f s c)(h0:0<=s)(hs:s+1<=1099511627776)(g:CB r):DY (Gl f (gX root r)) (s+1) root r:=by have:=bCk h (sS root r g) hs;rw[show (gX root r).data.toList=gU root r from dI _] at this;exact⟨this,a_,g⟩
theorem LZ{n:Nat}(h:n<=16):n=0\/n=1\/n=2\/n=3\/n=4\/n=5\/n=6\/n=7\/n=8\/n=9\/n=10\/n=11\/n=12\/n=13\/n=14\/n=15\/n=16:=a_
theorem aMH{n:Nat}(hn:n<=16)(c2:List Int)(f:Fl)(r:dh):uf (aj.jf 3 16) (qi c2 (cl n) f r)=(.ok n,qi c2 (cl n) f r):=by
 rcases LZ hn with rfl|rfl|rfl|rfl|rfl|rfl|rfl|rfl|rfl|rfl|rfl|rfl|rfl|rfl|rfl|rfl|rfl
 all_goals kernel_rfl
theorem aMI{n:Nat}(hn:n<=16)(a:List Int)(f:Fl)(r:dh):uf (aj.jf 2 16) (qi (cl n) a f r)=(.ok n,qi (cl n) a f r):=by
 rcases LZ hn with rfl|rfl|rfl|rfl|rfl|rfl|rfl|rfl|rfl|rfl|rfl|rfl|rfl|rfl|rfl|rfl|rfl
 all_goals kernel_rfl
theorem aDU{n:Nat}(h:n<16):n=0\/n=1\/n=2\/n=3\/n=4\/n=5\/n=6\/n=7\/n=8\/n=9\/n=10\/n=11\/n=12\/n=13\/n=14\/n=15:=a_
theorem aLM{n:Nat}(hn:n<16)(c2:List Int)(f:Fl)(r:dh):uf (aj.o6 3 16 (n+1)) (qi c2 (cl n) f r)=(.ok (n+1,0),qi c2 (cl (n+1)) f r):=by
 rcases aDU hn with rfl|rfl|rfl|rfl|rfl|rfl|rfl|rfl|rfl|rfl|rfl|rfl|rfl|rfl|rfl|rfl
 all_goals kernel_rfl
theorem aLN{n:Nat}(hn:n<16)(a:List Int)(f:Fl)(r:dh):uf (aj.o6 2 16 (n+1)) (qi (cl n) a f r)=(.ok (n+1,0),qi (cl (n+1)) a f r):=by
 rcases aDU hn with rfl|rfl|rfl|rfl|rfl|rfl|rfl|rfl|rfl|rfl|rfl|rfl|rfl|rfl|rfl|rfl
 all_goals kernel_rfl
theorem LP{n:Nat}(hn:n<=16):kQ (cl n) false=n:=by
 rcases LZ hn with rfl|rfl|rfl|rfl|rfl|rfl|rfl|rfl|rfl|rfl|rfl|rfl|rfl|rfl|rfl|rfl|rfl
 all_goals kernel_rfl
theorem aLk{m:jy}{f:Fl}{s:Int}{r:l_}(h:DY f s m.root r)(c2 a:List Int)(q:dh):uf (tu m) (qi c2 a f q)=(.ok r,qi c2 a f q):=SB h _ q
theorem bDy{m:jy}{f:Fl}{s:Int}{c:dh}{r:l_}(h:zf f s c)(hs:s+1<=1099511627776)(g:CB r)(c2 a:List Int)(q:dh):uf (AX m r) (qi c2 a f q)=(.ok (),qi c2 a (Gl f (gX m.root r)) q):=QP h hs g _ q
theorem QM{n:Nat}(hn:n<16)(c2:List Int)(f:Fl)(r:dh):uf (kC 3 (n+1)) (qi c2 (cl n) f r)=(.ok (n+1),qi c2 (cl (n+1)) f r):=by unfold kC;rw[bQ (aLM hn c2 f r)];rfl
theorem QN{n:Nat}(hn:n<16)(a:List Int)(f:Fl)(r:dh):uf (kC 2 (n+1)) (qi (cl n) a f r)=(.ok (n+1),qi (cl (n+1)) a f r):=by unfold kC;rw[bQ (aLN hn a f r)];rfl
theorem aWd{n:Nat}(hn:n<16)(c2:List Int)(f:Fl)(r:dh):uf (qP n) (qi c2 (cl n) f r)=(.ok (),qi c2 (cl (n+1)) f r):=by unfold qP;rw[bQ (QM hn c2 f r),show (((n+1:Nat):Int)==((n+1:Nat):Int))=true from beq_self_eq_true _,bQ (cO _ _)];rfl
theorem aKr{n:Nat}(hn:n<16)(a:n % 2=0)(h:jd):uf (oD n) h=(.ok (),h):=by unfold oD;rw[a,show (((0:Nat):Int)==0)=true from rfl,bQ (cO _ _),rq a_,bQ (cO _ _)];rfl
theorem JM{n:Nat}(a:n % 2=1)(h:jd):uf (oD n) h=(.error 21,h):=by unfold oD;rw[a,show (((1:Nat):Int)==0)=false from rfl];exact aKz (xJ _ _)
theorem aDd{n:Nat}(hn:n<16){p:l9}(a:p.size<=1000):CB (FZ n p):=⟨.inl rfl,by show (0:Int)<=((n+1:Nat):Int);omega,by show ((n+1:Nat):Int)<=16;omega,by show ja 0;unfold ja;omega,rfl,a⟩
theorem aJp{m:jy}{n:Nat}{f:Fl}{s:Int}{c:dh}{p:l9}(h:zf f s c)(hs:s+1<=1099511627776)(hn:n<16)(a:p.size<=1000)(c2:List Int)(q:dh) :
  uf (mJ m n p) (qi c2 (cl n) f q)=(.ok { ni with payload:=p },qi c2 (cl (n+1)) (Gl f (gX m.root (FZ n p))) q):=by
 unfold mJ;rw[bQ (bDy h hs (aDd hn a) _ _ q)];rw[bQ (aWd hn c2 _ q)];rfl
theorem aAq{m:jy}(a:1<=m.kind/\m.kind<=7)(h:jd):uf (kY m) h=nfB (fun _ h=>(.ok (),h)) (uf (tX m) h):=by unfold kY;rw[rq (show m.kind>=1 from a.1),rq a.2,show (bif true then true else false)=true from rfl,bQ (cO _ _),aLa];rfl
theorem sW{m:jy}(a:m.kind=2\/m.kind=4\/m.kind=6)(h:jd):uf (kY m) h=(.ok (),h):=by rw[aAq a_];unfold tX;rw[ay a_,ay a_,ay a_];rfl
theorem bIl{m:jy}(d:m.kind=1\/m.kind=3)(a:m.payload.size<=1000)(h:jd):uf (kY m) h=(.ok (),h):=by rw[aAq a_];unfold tX;rw[au a_,rq a_];rfl
theorem bAt{m:jy}(a:m.kind=5)(h0:0<=m.ol)(h1:m.ol<16)(h2:m.ol.tmod 2=0)(h3:(m.ot==m.id)=false)(h:jd):uf (kY m) h=(.ok (),h):=by rw[aAq a_];unfold tX;rw[ay a_,au a,rq (show m.ol>=0 from h0),rq h1,h2,h3];rfl
theorem aQr{m:jy}(d:m.kind=7)(a:(m.xt==m.id)=true)(h:jd):uf (kY m) h=(.ok (),h):=by rw[aAq a_];unfold tX;rw[ay a_,ay a_,au d,a];rfl
theorem qG{m:jy}{n:Nat}{c2:List Int}{f:Fl}{q:dh}(hc:∀ h,uf (kY m) h=(.ok (),h))(hn:n<=16):uf (lJ m) (qi c2 (cl n) f q)=uf (oJ m n) (qi c2 (cl n) f q):=by unfold lJ;rw[bQ (hc _),bQ (aMH hn c2 f q)]
section
variable {m:jy} {n n2:Nat} {f:Fl} {s:Int} {c c2:List Int} {b:dh} {r:l_} {q:dh}
theorem bAp(d:m.kind=1)(a:m.payload.size<=1000)(h:zf f s b)(hs:s+1<=1099511627776)(hn:n<16)(e:n % 2=0) :
  uf (lJ m) (qi c2 (cl n) f q)=(.ok { ni with payload:=m.payload },qi c2 (cl (n+1)) (Gl f (gX m.root (FZ n m.payload))) q):=by
 rw[qG (bIl (.inl d) a) a_];unfold oJ;rw[au d];unfold aBr;rw[bQ (aKr hn e _),bQ (aJp h hs hn a c2 q)];rfl
theorem bEt(a:m.kind=4)(hn:n<16)(d:n % 2=0):uf (lJ m) (qi c2 (cl n) f q)=(.ok { ni with ot:=m.id,ol:=n },qi c2 (cl n) f q):=by rw[qG (sW (.inr (.inl a))) a_];unfold oJ;rw[ay a_,ay a_,ay a_,au a];unfold V3;rw[bQ (aKr hn d _)];rfl
theorem aVh(hn:n<16)(d:ja m.ol)(a:m.ot.length=16)(g:CB r):CB (Tu m n r):=⟨.inr rfl,by show (0:Int)<=((n+1:Nat):Int);omega,by show ((n+1:Nat):Int)<=16;omega,d,a,g.p⟩
theorem Iw(a:m.kind=5)(h0:0<=m.ol)(h1:m.ol<16)(h2:m.ol.tmod 2=0)(h3:(m.ot==m.id)=false)(d:m.ot.length=16)(h:DY f s m.root r)(hs:s+1<=1099511627776)(hn:n<16)(e:n % 2=1)(hr:r.kind=1)(hl:r.level=n) :
  uf (lJ m) (qi c2 (cl n) f q)=(.ok (gV m.link (Tu m n r)),qi c2 (cl (n+1)) (Gl f (gX m.root (Tu m n r))) q):=by
 rw[qG (bAt a h0 h1 h2 h3) a_];unfold oJ;rw[ay a_,ay a_,ay a_,ay a_,au a];unfold Ux;rw[e,show (((1:Nat):Int)==1)=true from rfl,bQ (cO _ _),bQ (aLk h _ _ q),hr,hl,show ((1:Int)==1)=true from rfl,show ((n:Int)==(n:Int))=true from beq_self_eq_true _,show (bif true then true else false)=true from rfl,bQ (cO _ _)];rw[bQ (aWd hn c2 f q)];rw[bQ (bDy h.gq hs (aVh hn (by unfold ja;omega) d h.ok) _ _ q)];rfl
theorem aYw(a:m.kind=6)(h:DY f s m.root r)(hn:n<=16)(d:n % 2=0)(hr:r.kind=2)(hl:r.level=n):uf (lJ m) (qi c2 (cl n) f q)=(.ok (gV m.link r),qi c2 (cl n) f q):=by rw[qG (sW (.inr (.inr a))) hn];unfold oJ;rw[ay a_,ay a_,ay a_,ay a_,ay a_,au a];unfold uZ;rw[d,show (((0:Nat):Int)==0)=true from rfl,bQ (cO _ _),bQ (aLk h _ _ q),hr,hl,show ((2:Int)==2)=true from rfl,show ((n:Int)==(n:Int))=true from beq_self_eq_true _,show (bif true then true else false)=true from rfl,bQ (cO _ _)];rfl
structure Tra(m:jy)(p:l9):Prop where
 xt:(m.xt==m.id)=true
 o:opened (keyS m.link m.xt m.xl) m.bn m.bc m.bt=true
 p:strOf (dW (keyS m.link m.xt m.xl) m.bn m.bc.data.toList)=p
theorem bBh{p:l9}(d:m.kind=7)(t:Tra m p)(a:p.size<=1000)(h:zf f s b)(hs:s+1<=1099511627776)(hn:n<16)(e:n % 2=0)(hl:m.xl=n) :
  uf (lJ m) (qi c2 (cl n) f q)=(.ok { ni with payload:=p },qi c2 (cl (n+1)) (Gl f (gX m.root (FZ n p))) q):=by
 rw[qG (aQr d t.xt) a_];unfold oJ;rw[ay a_,ay a_,ay a_,ay a_,ay a_,ay a_];have i:aXy m=0:=by unfold aXy;rw[t.o];rfl
 have g:wE m=p:=by unfold wE;rw[t.o,t.p];rfl
 unfold tC;rw[bQ (aKr hn e _),hl,show ((n:Int)==(n:Int))=true from beq_self_eq_true _,bQ (cO _ _),i,g,show ((0:Int)==0)=true from rfl,bQ (cO _ _),rq a_,bQ (cO _ _),bQ (aJp h hs hn a c2 q)];rfl
theorem bBg(d:m.kind=7)(a:(m.xt==m.id)=true)(hn:n<=16)(e:n % 2=1):uf (lJ m) (qi c2 (cl n) f q)=(.error 21,qi c2 (cl n) f q):=by rw[qG (aQr d a) hn];unfold oJ;rw[ay a_,ay a_,ay a_,ay a_,ay a_,ay a_];unfold tC;exact aKz (JM e _)
theorem aOz(a:m.kind=2)(h:DY f s m.root r)(hn:n<=16)(d:n % 2=1)(hr:r.kind=1)(hl:r.level=n)(h2:n2<16):uf (lJ m) (qi (cl n2) (cl n) f q)=(.ok { ni with session:=n2,payload:=r.payload },qi (cl (n2+1)) (cl n) f q):=by rw[qG (sW (.inl a)) hn];unfold oJ;rw[ay a_,au a];unfold PM;rw[bQ (aLk h _ _ q),hr,hl,d,show n+1-1=n from a_,show ((1:Int)==1)=true from rfl,show ((n:Int)==(n:Int))=true from beq_self_eq_true _,show (bif true then true else false)=true from rfl,bQ (cO _ _)];rw[show (((1:Nat):Int)==0)=false from rfl,show (bif false then qP n else aj.ret ())=aj.ret () from rfl,aj.OJ];unfold Zx;rw[bQ (aMI a_ (cl n) f q),rq a_,bQ (cO _ _),bQ (QN h2 (cl n) f q)];rfl
theorem aZq(a:m.kind=2)(h:DY f s m.root r)(hn:n<=16)(hr:(bif r.kind==1 then r.level==((n+1-n % 2:Nat):Int) else false)=false):uf (lJ m) (qi c2 (cl n) f q)=(.error 14,qi c2 (cl n) f q):=by rw[qG (sW (.inl a)) a_];unfold oJ;rw[ay a_,au a];unfold PM;rw[bQ (aLk h _ _ q),hr];exact aKz (xJ _ _)
end
theorem aFX(a:Act)(h:a.tmps.size=39){J:List Deferred}(hd:a.defers=J):∃ V U T S Q P O N u8 K I H G F E D C B A z y x w u t s r q p o n m k j g f e c b,a={ tmps:=#[V,U,T,S,Q,P,O,N,u8,K,I,H,G,F,E,D,C,B,A,z,y,x,w,u,t,s,r,q,p,o,n,m,k,j,g,f,e,c,b],defers:=J }:=by
 obtain⟨⟨L⟩,d⟩:=a;obtain rfl:d=J:=hd;have W:L=(AC 39).map fun i=>L.getD i bz:=by apply Z9;simpa using h;intro i X Y;rw[ZU,ZI,zG,zH X];rfl
 exact⟨L.getD 0 bz,L.getD 1 bz,L.getD 2 bz,L.getD 3 bz,L.getD 4 bz,L.getD 5 bz,L.getD 6 bz,L.getD 7 bz,L.getD 8 bz,L.getD 9 bz,L.getD 10 bz,L.getD 11 bz,L.getD 12 bz,L.getD 13 bz,L.getD 14 bz,L.getD 15 bz,L.getD 16 bz,L.getD 17 bz,L.getD 18 bz,L.getD 19 bz,L.getD 20 bz,L.getD 21 bz,L.getD 22 bz,L.getD 23 bz,L.getD 24 bz,L.getD 25 bz,L.getD 26 bz,L.getD 27 bz,L.getD 28 bz,L.getD 29 bz,L.getD 30 bz,L.getD 31 bz,L.getD 32 bz,L.getD 33 bz,L.getD 34 bz,L.getD 35 bz,L.getD 36 bz,L.getD 37 bz,L.getD 38 bz,congrArg (fun l=>({ tmps:=⟨l⟩,defers:=d }:Act)) W⟩
theorem gy.aLJ{A:lh}{s:St}{a:Act}{w:ae}{env:Env}(h:gy A s a w env)(b:Act)(d:List (Nat×mi×PV))(hs:b.tmps.size=a.tmps.size)(e:∀ t g pv,find d t=some (g,pv)->g=none/\∃ v,b.tmps[t]?=some v/\RV (aI A w env) pv v):gy { A with ds:=b.defers } ⟨d,s.o⟩ b w env:={ iq:=h.iq,size:=hs.trans h.size,dom:=h.dom,jv:=h.jv,live:=h.live,inj:=h.inj,tmps:=fun t g pv c _=>(e t g pv c).2,defers:=rfl,und:=fun t pv c=>(by cases (e t _ pv c).1),n_:=h.n_,dev:=h.dev }
def opC(m:jy):kw:=(#[.int .i64 m.kind]:kw)++EK m.root++EK m.id++EK m.link++#[.string m.payload]++EK m.ot++#[.int .i64 m.ol]++EK m.xt++#[.int .i64 m.xl,.int .i64 m.bn,.string m.bc]++EK m.bt
theorem aWb{C:Ctx}{m:jy}{xs:ji}(h:RL C (Ad m) xs):xs=(opC m).toList/\m.id.length=16/\m.bt.length=16:=by unfold Ad at h;cases h with|cons i h=>cases h with|cons k1 h=>cases h with|cons k2 h=>cases h with|cons k3 h=>cases h with|cons k4 h=>cases h with|cons d h=>cases h with|cons g h=>cases h with|cons c h=>cases h with|cons f h=>cases h with|cons e h=>cases h with|cons b h=>cases h with|cons a h=>cases h;cases i;cases k4;cases g;cases f;cases e;cases b;cases k1 with|bs k1=>cases k2 with|bs k2=>cases k3 with|bs k3=>cases d with|bs d=>cases c with|bs c=>cases a with|bs a=>exact⟨by simp[opC,EK],k2,a⟩
structure Af(m:jy):Prop where
 root:m.root.length=16
 id:m.id.length=16
 link:m.link.length=16
 ot:m.ot.length=16
 xt:m.xt.length=16
 bt:m.bt.length=16
theorem bEr(C:Ctx){m:jy}(h:Af m):RL C (Ad m) (opC m).toList:=by
 have e:(opC m).toList=[.int .i64 m.kind]++(m.root.map ql++(m.id.map ql++(m.link.map ql++([.string m.payload]++(m.ot.map ql++([.int .i64 m.ol]++(m.xt.map ql++([.int .i64 m.xl]++([.int .i64 m.bn]++([.string m.bc]++(m.bt.map ql++[]))))))))))):=by simp[opC,EK]
 rw[e];exact .cons (.lit rfl) (.cons (.bs h.root) (.cons (.bs h.id) (.cons (.bs h.link) (.cons (.lit rfl) (.cons (.bs h.ot) (.cons (.lit rfl) (.cons (.bs h.xt) (.cons (.lit rfl) (.cons (.lit rfl) (.cons (.lit rfl) (.cons (.bs h.bt) .nil)))))))))))
theorem aLc:y7 prog 31 102:=⟨⟨_,underlying31,rfl⟩,ah⟩
theorem sF{m:jy}(h:Af m):(opC m).size=102:=by unfold opC;simp only[aBK,aXl,h.root,h.id,h.link,h.ot,h.xt,h.bt,Yx,zl,Yg]
theorem aVq{C:Ctx}:∀ {l m:dw} {a:ji},RL C (l++m) a->∃ d b,a=d++b/\RL C l d/\RL C m b
 |[],m,a,h=>⟨[],a,rfl,.nil,h⟩| c::l,m,a,h=>by
  cases h with
  |@cons _ _ _ e k j i=>obtain⟨d,b,rfl,g,f⟩:=aVq i;exact⟨e++d,b,(Pi ..).symm,.cons j g,f⟩
def BK(hd:ag)(m:jy)(f:Int):kw:=(#[hd]:kw)++opC m++#[.int .i64 f]
theorem Qj{C:Ctx}{hd:ag}{m:jy}{f:Int}{xs:ji}(h:RL C (.lit hd::ny m f) xs):xs=(BK hd m f).toList:=by
 have e:ny m f=Ad m++[.lit (.int .i64 f)]:=rfl;rw[e] at h;cases h with
 | cons k h=>
  cases k;obtain⟨d,c,rfl,b,a⟩:=aVq h;rw[(aWb b).1];cases a with
  |cons k2 a=>cases k2;cases a;simp[BK]
theorem Qi{C:Ctx}{hd:ag}(a:R C .dv [hd]){m:jy}(h:Af m)(f:Int):RL C (.dv::ny m f) (BK hd m f).toList:=by
 have e:(BK hd m f).toList=[hd]++((opC m).toList++[.int .i64 f]):=by simp[BK]
 rw[e];exact .cons a ((bEr C h).append (.cons (xs:=[_]) (.lit rfl) .nil))
structure R3(m:jy)(hd:ag)(g g3:Nat)(ds:List Deferred)(w1:ae)(a:Act)(W:ae)(go:Nat):Prop where
 sz:a.tmps.size=39
 ds:a.defers=ds
 t0:a.tmps[0]?=some hd
 t1:a.tmps[1]?=some (.pointer (some ⟨g,0,none⟩))
 t3:a.tmps[3]?=some (.pointer (some ⟨g3,0,none⟩))
 t4:a.tmps[4]?=some (.pointer (some ⟨go,0,none⟩))
 iq:gu (fun b=>b=g) w1 W
 new:w1.heap.size<=go/\go<W.heap.size
 bg:f_ W g 31 (opC m)
 bo:f_ W go 122 (BK hd m 0)
def r3T(hd:ag)(a:Nat):List (Nat×mi×PV):=[(0,none,o7 hd),(1,none,dm (.pt 900001 0 0)),(3,none,o7 (.pointer (some ⟨a,0,none⟩)))]
def r3S(m:jy)(hd:ag)(a:Nat):St:=⟨r3T hd a,[(900001,none,0,.box 31 (Ad m))]⟩
def r3E(m:jy)(hd:ag)(a:Nat):St:=⟨(4,none,dm (.pt 3003 0 0))::r3T hd a,[(3003,none,0,.box 122 (.lit hd::ny m 0)),(900001,none,0,.box 31 (Ad m))]⟩
structure R3A(g:Nat)(w1:ae)(ds:List Deferred)(A:lh):Prop where
 nt:A.nt=Tryz.f45.ntmps
 ok:jo prog (fun _=>True) A
 dn:∀ l,¬A.dn l
 S:∀ b,A.S b->b=g
 w0:A.w0=w1
 ds:A.ds=ds
 eg:A.ext 900001=some (iY g)
theorem QT(m:jy)(q:Af m)(d:ae)(g E:Nat)(hd:ag)(h1:hd.oneCell'=true)(z:f_ d g 31 (opC m))(a:Act)(s:a.tmps.size=39)(K:a.tmps[0]?=some hd)(J:a.tmps[1]?=some (.pointer (some ⟨g,0,none⟩)))(H:a.tmps[3]?=some (.pointer (some ⟨E,0,none⟩))) :
  ∃ A:lh,R3A g d a.defers A/\oq A (r3S m hd E) a d:=by
 have f:∀ b,SX [⟨900001,31,Ad m,Ad m⟩] (fun _=>g) Dv.non b->b=g:=by rintro b (h|⟨o,i,rfl⟩);exact h.elim;rfl
 have j:∀ o∈[(⟨900001,31,Ad m,Ad m⟩:Ob)],(fun _=>True) ((fun _=>g) o.x)/\∃ F,f_ d ((fun _=>g) o.x) o.t F/\RL { w:=d,ok:=fun _=>False,env:=fun _=>none } o.l F.toList:=fun o i=>by obtain rfl:=List.mem_singleton.1 i;exact⟨trivial,_,z,bEr _ q⟩
 have T:∀ o∈[(⟨900001,31,Ad m,Ad m⟩:Ob)],∀ k∈[(⟨900001,31,Ad m,Ad m⟩:Ob)],(fun _:Nat=>g) o.x=(fun _:Nat=>g) k.x->o.x=k.x:=fun o i k n _=>by obtain rfl:=List.mem_singleton.1 i;obtain rfl:=List.mem_singleton.1 n;rfl
 have S:o5 { w:=d,ok:=fun _=>False,env:=z_ [⟨900001,31,Ad m,Ad m⟩] (fun _=>g) none Dv.non.hd } [o7 hd,dm (.pt 900001 0 0)] [hd,.pointer (some ⟨g,0,none⟩)]:=⟨.w (.one (.lit h1)),.w (.one (.pt ⟨_,_,rfl⟩ ⟨0,_,rfl,dC _,fun _=>⟨_,rfl,rfl⟩⟩)),trivial⟩
 obtain⟨e,u,r⟩:=aAl (P:=prog) (I:=fun _=>True) (fn:=Tryz.f45) (os:=[⟨900001,31,Ad m,Ad m⟩]) (O:=fun _=>none) (dev:=none) (dn:=fun _=>False) (args:=[o7 hd,dm (.pt 900001 0 0)])
  (w:=d) (ok0:=fun _=>False) (vs:=[hd,.pointer (some ⟨g,0,none⟩)]) (bl:=fun _=>g) (D:=Dv.non) (X0:=fun _=>True) rfl rfl (fun _ _=>trivial) (fun b Q=>⟨by rw[f b Q];exact z.lt,fun h=>h⟩)
  (oz.non _) (fun _ _ _ _ _ _ h=>h.elim) rfl (fun p N=>by cases N) (fun _=>⟨fun _ h=>h,fun _ _ _ h=>h⟩) j T S
 refine⟨⟨d,SX [⟨900001,31,Ad m,Ad m⟩] (fun _=>g) Dv.non,fun _=>False,Tryz.f45.ntmps,uq [⟨900001,31,Ad m,Ad m⟩] (fun _=>g) none Dv.non.hd,Dv.non,fun _=>False,fun _=>True,a.defers⟩,
  ⟨rfl,⟨e.mem,e.sub,e.old,e.step,e.dvh,e.Ci⟩,fun _ h=>h,f,rfl,rfl,rfl⟩,u,r.aLJ a _ ?_ ?_⟩
 have:=r.size;rw[s];exact this.symm;intro t V pv c;obtain⟨G,U,L⟩:=r.tmps 1 none _ rfl trivial;have y:G=.pointer (some ⟨g,0,none⟩):=by simpa using U.symm
 subst y;by_cases C:0=t;subst C;rw[r3T,aF] at c;cases c;exact⟨rfl,_,K,.w (.one (.lit h1))⟩;rw[r3T,aC _ _ C] at c;by_cases B:1=t;subst B;rw[aF] at c;cases c;exact⟨rfl,_,J,L⟩;rw[aC _ _ B] at c;by_cases j:3=t;subst j;rw[aF] at c;cases c;exact⟨rfl,_,H,.w (.one (.lit rfl))⟩;rw[aC _ _ j] at c;cases c
theorem QU{m:jy}{hd:ag}{g n:Nat}{p:List Deferred}{f:ae}{A:lh}(d:R3A g f p A){a:Act}{W:ae}(h:oq A (r3E m hd n) a W):∃ go,R3 m hd g n p f a W go:=by
 obtain⟨D,c⟩:=h;obtain⟨N,H,z⟩:=c.tmps 0 none _ rfl trivial;obtain⟨L,F,w⟩:=c.tmps 3 none _ rfl trivial;obtain⟨o,J,G,s,K,y⟩:=oq.C_ c (t:=1) (x:=900001) rfl rfl;obtain⟨go,I,E,r,q,u⟩:=oq.C_ c (t:=4) (x:=3003) rfl rfl;have B:o=g:=by have:=(c.n_ 900001 _ d.eg).2.now s;exact (kV (b:=o) (g:=g) (by rw[<-this];rfl))
 subst B;have i:=c.live 3003 0 _ go r rfl;have e:f.heap.size<=go:=by rcases i.2 with h|⟨_,h⟩;rw[d.w0] at h;exact h;cases h
 have k:J=opC m:=by apply GM;exact (aWb y).1
 have j:I=BK hd m 0:=by apply GM;exact Qj u
 subst k j;have l:=c.size;rw[d.nt] at l;refine⟨go,⟨l,c.defers.trans d.ds,H.trans (congrArg some z.h_),G,F.trans (congrArg some w.h_),E,?_,⟨e,q.lt⟩,K,q⟩⟩;have:=c.iq;rw[d.w0] at this;exact this.mono fun b _ C=>d.S b C
theorem bAu{m:jy}{O:qy}(h:rO (go O (kY m) []).2):1<=m.kind/\m.kind<=7:=by
 unfold kY at h;rw[yL] at h;cases a:(bif decide (m.kind>=1) then decide (m.kind<=7) else false) with
 |false=>
  exfalso;rw[a] at h
  exact h (sQ 1) ((vO _ _ _).subset (by show _∈_++[_];simp)) rfl
 | true=>
  cases b:decide (m.kind>=1) with
  |false=>rw[b] at a;cases a|true=>rw[b] at a;exact⟨of_decide_eq_true b,of_decide_eq_true a⟩
theorem bEs(m:jy):(opC m)[0]?=some (.int .i64 m.kind):=by
 unfold opC
 repeat rw[aCc (by simp only[aBK,Yx,zl,Yg];omega)]
 rfl
theorem bEp(hd:ag){m:jy}(h:Af m)(f:Int):(BK hd m f)[103]?=some (.int .i64 f):=by unfold BK;rw[Array.getElem?_append_right (by simp[sF h])];simp[sF h]
theorem Jn(hd:ag){m:jy}(h:Af m)(f f':Int):(BK hd m f).setIfInBounds 103 (.int .i64 f')=BK hd m f':=by
 have a:((#[hd]:kw)++opC m).size=103:=by simp[sF h]
 unfold BK;rw[Array.setIfInBounds_append_right a_];simp[sF h]
theorem Lc(m:jy)(a:vk m)(n:Nat)(hn:n<=16)(c:1<=m.kind/\m.kind<=7):wF prog af qh (Uu m.kind) y_ (ny m n) (oJ m n) [] (fun o=>.w (.agg (j_ o))):=by
 have b:m.kind=1\/m.kind=2\/m.kind=3\/m.kind=4\/m.kind=5\/m.kind=6\/m.kind=7:=a_;unfold oJ Uu
 rcases b with h|h|h|h|h|h|h<;>rw[h]
 exact bAq m n a_ a.root a.payload;exact bFh m n a_ a.root;exact bFe m n a_ a.root a.payload;exact bEu m n a_;exact Iy m n a_ a.root a.link a.ot a.ol;exact aYx m n a_ a.root a.link;exact bBi m n a_ a.root a.link a.xt a.xl a.bn a.bc
theorem aCa{b:Type}(p:aj b):p.bind .ret=p:=by
 induction p with
 |ret a=>rfl|ask a k c=>exact congrArg (aj.ask a) (funext fun r=>c r)
theorem VL{C:Ctx}{o:kz}{v:ag}(h:RV C (.w (.agg (j_ o))) v):v=.agg (mr o)/\uj o:=by
 cases h with
 | w h=>cases h with
  |@agg _ c h=>obtain⟨b,a⟩:=Qd h;exact⟨congrArg Value.agg (GM b),a⟩
theorem aZn(k:Int)(args:kw)(w:ae):(YR (Uu k) args).run prog w=.ok (.enter (Uu k) args) w:=by
 unfold Uu
 repeat' split
 all_goals kernel_rfl
theorem aOk(m:jy)(hm:vk m)(b2:Af m)(w:ae)(g:Nat)(D:Dv)(X0:qo)(hB:f_ w g 31 (opC m))(hM:∀ w',gu (fun b=>D.S b\/b=g) w w'->af w')(j:∀ b,D.S b->b<w.heap.size)
  (B:oz prog D (fun h=>h <+: (go D.O (bU m) []).2)) (k:∀ l X Y w w' z,D.pan l X w z->gu X w w'->(∀ b,Y b->X b)->D.pan l Y w' z) (s:Fa D) (u:OB D.O) (E:D.inv [] X0 w) (r:X0 g) :
  mf prog 45 #[D.hd,.pointer (some ⟨g,0,none⟩)] w fun e w'=>gu (fun b=>D.S b\/b=g) w w'/\aUy m D X0 e w':=by
 have l4:∀ (fn:Fn) (first cap:kw) (w:ae),(Instr.makeFunc fn first cap).run prog w=.ok (.func fn first cap) w:=fun _ _ _ _=>rfl;have HH:=hide (az hB (az hM (az j (az B (az k (az s (az u (az E r))))))));clear hB hM j B k s u E r;generalize e5:D.hd=hd
 go_enter_defers func45,ntmps45
 go_upto_region 2 with fail
 generalize e8:aBA _ (.cells _ 40)=W0
 have z1:Ext w W0:=by
  rw[<-e8]
  all_goals exact DL
 have z2:f_ W0 w.heap.size 40 (mr ni):=by rw[<-e8];exact f_.new' _ _ _ b_
 clear e8;have HZ:=hide (az z1 z2);clear z1 z2
 go_wp2_with (refine iV (ty:=31) (t:=31) (x:=.tmp 1) rfl rfl aLc rfl (cs:=opC m) ((aA HH).1.ext (aA HZ).1) (sF b2) ?_)
 have N:=aA HZ;obtain⟨hB,hM,j,B,k,s,u,E,r⟩:=aA HH;have hS:oz prog (fZ qh D) (fun h=>h <+: (go (kS qh D.O) (lJ m) []).2):=aJy B fun l c hN hs=>aQt _ _ _ _ _ _ aCr hN hs;have K:(fZ qh D).inv [] (fun b=>X0 b\/b=w.heap.size) W0:=⟨D.grow _ _ _ _ _ E (N.1.mono fun _ _ h=>h.elim) (fun b V=>V.imp id fun e=>by subst e;exact⟨dC _,N.2.lt⟩),by simp[kS],fun _ h=>by cases h⟩;have b7:Left (kS qh D.O) (lJ m) [] (lJ m) []:=Left.start _ _ _;have J:=Left.step (q:=kY m) b7
 refine (bIm m (kS qh D.O) [] (aWw u) (aWv qh D.O) W0 (fun _=>False) [.agg (opC m)] (fun _=>0) (fZ qh D) (fun b=>X0 b\/b=w.heap.size)
  (fun w' hc=>hM w' (N.1.trans' hc (fun _ _ h=>h.elim) (fun i _ h=>.inl (h.elim id (fun⟨o,C,_⟩=>by cases C))))) (fun b V=>⟨YX (j b (V.elim id (fun⟨o,C,_⟩=>by cases C))) N.1.size,fun h=>h⟩)
  (hS.mono fun h hh hO=>(Left.dn b7 h hh.1 hh.2 hO).2) (uH k) rfl (fun p hp=>by cases hp;exact K) (fun h=>by cases h) (fun o C=>by cases C) (fun o C=>by cases C) ⟨.w (.agg (bEr _ b2)),trivial⟩).mono ?_
 rintro e w1 ⟨d8,hq⟩;have a5:gu (fun b=>D.S b\/b=g) w w1:=N.1.trans' d8 (fun _ _ h=>h.elim) (fun i _ h=>.inl (h.elim id (fun⟨o,C,_⟩=>by cases C)));have f7:∀ {X:qo},¬SX [] (fun _=>0) (fZ qh D) w.heap.size:=fun h=>h.elim ((fZ qh D).notS _ _ _ _ K (.inr rfl)) (fun⟨o,C,_⟩=>by cases C);have a7:f_ w1 w.heap.size 40 (mr ni):=N.2.iq d8 (f7 (X:=X0));rcases hq with⟨e4,rfl,_,_,c5⟩|⟨z,l,rfl,P,U,c1⟩;rotate_left 1;exact yA s k (fun b h=>.inl h) (.inr rfl) (dC _) c1 (Left.dn b7 l P.1 P.2 U).2 U a7 (dH kE) rfl a5;have a4:=c5 _ rfl;dsimp only at a4;have c4:=bAu a4.2.2;have b0:f_ w1 g 31 (opC m):=(hB.ext N.1).iq d8 (fun h=>h.elim ((fZ qh D).notS _ _ _ _ K (.inl r)) (fun⟨o,C,_⟩=>by cases C))
 have e9:hd.oneCell'=true:=by rw[<-e5];exact D.one
 generalize d7:(go (kS qh D.O) (kY m) []).2=la at *;have H1:=hide (az a4 (az a5 (az a7 (az c4 (az b0 (az hS J))))));clear N hB hM j B k s u E r hS K b7 J d8 a5 f7 a7 c5 a4 c4 b0 d7 HZ
 go_upto_region 3 with fail
 refine (fun (h:∀ a0:Act,a0.tmps.size=39->a0.defers=UR w.heap.size->a0.tmps[0]?=some hd->a0.tmps[1]?=some (.pointer (some ⟨g,0,none⟩))->a0.tmps[3]?=some (.pointer (some ⟨w.heap.size,0,none⟩))->Code.wp _ _ _ a0 w1)=>h _ rfl rfl rfl rfl rfl) ?_;intro a0 g5 g0 t0 t1 t3;obtain⟨A,hA,hg⟩:=QT m b2 w1 g w.heap.size hd e9 (aA H1).2.2.2.2.1 a0 g5 t0 t1 t3;rw[g0] at hA;have hn:=hA.nt;have hI:=hA.ok;have M:jq prog (fun _=>True) (find ([]:List (Nat×Spec))):=Gf;refine (show jw prog A (r3S m hd w.heap.size) _ (Exit.then _ _) from ?_) a0 w1 hg (fun z a w _ ⟨l,hs,_⟩=>(hA.dn l hs).elim);refine fP ?_;intro a W f9;have e3:oq A (r3E m hd w.heap.size) a W:=by refine (f9.reset (kT:=[4,0,1,3]) (kO:=[3003,900001]) ai b_).same ?_ ?_;exact jg;exact BR
 obtain⟨d,R⟩:=QU hA e3;clear f9 e3 hg hA hn hI M A g5 g0 t0 t1 t3 a0;obtain⟨u0,u1,u2,u3,u4,u5,u6,u7,u8,u9,l0,k9,k8,k7,k6,k5,k2,j9,j8,j7,j6,j5,j4,j3,j2,j1,j0,i9,i8,i7,h9,h8,h7,h6,h5,h4,h3,h2,h1,ea⟩:=aFX a R.sz R.ds;have k0:=R.t0;have k1:=R.t1;have k3:=R.t3;have k4:=R.t4;have HR:=hide (az R.iq (az R.new (az R.bg R.bo)));clear R;subst ea;obtain rfl:u0=hd:=by simpa using k0
 obtain rfl:u1=.pointer (some ⟨g,0,none⟩):=by simpa using k1
 obtain rfl:u3=.pointer (some ⟨w.heap.size,0,none⟩):=by simpa using k3
 obtain rfl:u4=.pointer (some ⟨d,0,none⟩):=by simpa using k4
 clear k0 k1 k3 k4;have mk:=KR W d;have i0:=Kq W d;have i1:=Ko W d;have i2:=KZ W d;have i3:=KY W d;have i4:=KX W d;have i5:=KW W d;have i6:=KU W d;unfold Ak at i0 i1 i2 i3 i4 i5 i6;dsimp only[Exit.then]
 go_upto_region 5 with fail
 clear mk i0 i1 i2 i3 i4 i5 i6;have a2:(ve W d 7).heap[W.heap.size]?=some (.map (CS d).toArray 7):=(MapKept.heap_alloc W _).1;have x4:Ext W (ve W d 7):=(Ext.refl W).alloc _;generalize ve W d 7=W4 at *;obtain⟨hB,hM,j,B,k,s,u,E,r⟩:=aA HH;obtain⟨a4,a5,a7,c4,b0,hS,d7⟩:=aA H1;obtain⟨e6,f5,g3,g2⟩:=aA HR;have h0:W.heap.size<W4.heap.size:=lt_of_heap a2;have lg:=hB.lt;have l1:=a5.size;have l2:=e6.size;have e2:gu (fun b=>b=g) w1 W4:=e6.ext x4;obtain⟨X4,a6⟩:∃ X:Nat->Prop,X=fun b=>(X0 b\/b=w.heap.size)\/(w1.heap.size<=b/\b<W4.heap.size):=⟨_,rfl⟩;have xg:X4 g:=by rw[a6];exact .inl (.inl r)
 have L:X4 w.heap.size:=by rw[a6];exact .inl (.inr rfl)
 have xo:X4 d:=by rw[a6];exact .inr ⟨f5.1,a_⟩
 have xm:X4 W.heap.size:=by rw[a6];exact .inr ⟨a_,h0⟩
 have Z:∀ b,X0 b->X4 b:=fun b V=>by rw[a6];exact .inl (.inl V)
 have b5:(fZ qh D).inv la X4 W4:=(fZ qh D).grow _ _ _ _ _ a4 (e2.mono fun b _ e=>e ▸ .inl r) (fun b V=>by rw[a6] at V;exact V);have a9:gu (fun b=>D.S b\/b=g) w W4:=a5.trans' e2 (fun _ _ h=>h) (fun _ _ e=>.inr e);have d1:f_ W4 w.heap.size 40 (mr ni):=a7.iq e2 a_;have c7:f_ W4 g 31 (opC m):=g3.ext x4;have c3:f_ W4 d 122 (BK u0 m 0):=g2.ext x4;have l3:¬d=g:=a_;have l5:w.heap.size<d/\d<W.heap.size:=by have:=a7.lt;omega
 clear f5 g3 g2 e6 e2 x4 a5 a7 b0 a4 HR H1 l1 l2;have b7:Left (kS qh D.O) (lJ m) [] (lJ m) []:=Left.start _ _ _;have J:Left (kS qh D.O) (lJ m) [] ((aj.jf 3 16).bind fun n=>oJ m n) la:=d7;have H:=Left.step (q:=aj.jf 3 16) J;have G:=Uz (kS qh D.O) (aBh 3 16) la;have Q:∀ b:Nat,X4 b->¬SX [] (fun _=>0) (fZ qh D) b:=fun _ hx h=>h.elim ((fZ qh D).notS _ _ _ _ b5 hx) (fun⟨o,C,_⟩=>by cases C);have HA:=hide (az hM (az j (az B (az k (az s (az u r))))));have HB:=hide (az hS (az J (az H (az G Q))));have HC:=hide (az a2 (az xg (az L (az xo (az xm (az Z (az b5 (az a9 (az d1 (az c7 c3))))))))));clear hB hM j B k s u E r hS b7 J H G Q a2 xg L xo xm Z b5 a9 d1 c7 c3 a6 d7 HH
 go_wp2_with fail
 obtain⟨hM,j,B,k,s,u,r⟩:=aA HA;obtain⟨hS,J,H,G,Q⟩:=aA HB;obtain⟨a2,xg,L,xo,xm,Z,b5,a9,d1,c7,c3⟩:=aA HC
 refine (aFq (I:=af) bJ 3 16 g_ (kS qh D.O) la W4 (fun _=>False) [u0,.int .i64 3,.int .i64 16] (fun _=>0) (fZ qh D) X4
  (fun w' hc=>hM w' (a9.trans' hc (fun _ _ h=>h) (fun i _ h=>.inl (h.elim id (fun⟨o,C,_⟩=>by cases C))))) (fun b V=>⟨YX (j b (V.elim id (fun⟨o,C,_⟩=>by cases C))) a9.size,fun h=>h⟩)
  (hS.mono fun h hh hO=>(Left.dn J h hh.1 hh.2 hO).2) (uH k) rfl (fun p hp=>by cases hp;exact b5) (fun h=>by cases h) (fun o C=>by cases C) (fun o C=>by cases C) ⟨.w (.one (.dv e9 ⟨0,D.hd,rfl,dC _,fun _=>e5.symm⟩)),.w (.one (.lit rfl)),.w (.one (.lit rfl)),trivial⟩).mono ?_
 rintro e w5 ⟨b6,hq⟩;have c0:gu (fun b=>D.S b\/b=g) w w5:=a9.trans' b6 (fun _ _ h=>h) (fun i _ h=>.inl (h.elim id (fun⟨o,C,_⟩=>by cases C)));have b9:f_ w5 w.heap.size 40 (mr ni):=d1.iq b6 (Q _ L);rcases hq with⟨e4,rfl,hv,_,c5⟩|⟨z,l,rfl,P,U,c1⟩;rotate_left 1;exact yA s k Z L (dC _) c1 (Left.dn J l P.1 P.2 U).2 U b9 (dH kE) rfl c0;have T:=c5 _ rfl;dsimp only at T;obtain⟨n,lb,f4⟩:∃ n lb,go (kS qh D.O) (aj.jf 3 16) la=(n,lb):=⟨_,_,rfl⟩;rw[f4] at H G T hv;dsimp only at H G T hv
 obtain rfl:e4=.int .i64 (n:Int):=RV.h_ hv;have d0:f_ w5 g 31 (opC m):=c7.iq b6 (Q _ xg);have a1:f_ w5 d 122 (BK u0 m 0):=c3.iq b6 (Q _ xo);have b3:w5.heap[W.heap.size]?=some (.map (CS d).toArray 7):=(b6.block _ (lt_of_heap a2) (Q _ xm)).trans a2;have d3:=a1.cell 103;rw[bEp u0 b2] at d3;have f3:=a1.frozen;have g7:=hide (az xg (az L (az xo (az Z (az T (az c0 (az b9 (az d0 (az a1 b3)))))))));have g8:=hide (az hS (az H G));clear hv c5 b6 a9 d1 c7 c3 a2 b5 xg L xo xm Z T c0 b9 d0 a1 b3 hM j B k s u r hS J H G Q HC HB f4;have xk:=aZn m.kind
 go_upto_region 6 with fail
 obtain⟨xg,L,xo,Z,T,c0,b9,d0,a1,b3⟩:=aA g7;have d2:f_ (w5.setCell ⟨d,103,none⟩ (.int .i64 (n:Int))) w.heap.size 40 (mr ni):=b9.far (p:=⟨d,103,none⟩) (show ¬w.heap.size=d by omega) _;have c9:f_ (w5.setCell ⟨d,103,none⟩ (.int .i64 (n:Int))) g 31 (opC m):=d0.far (p:=⟨d,103,none⟩) (show ¬g=d by omega) _;have b1:f_ (w5.setCell ⟨d,103,none⟩ (.int .i64 (n:Int))) d 122 (BK u0 m n):=by have:=a1.BH 103 (.int .i64 (n:Int));rw[Jn u0 b2] at this;exact this
 have e1:gu (fun b=>b=d) w5 (w5.setCell ⟨d,103,none⟩ (.int .i64 (n:Int))):=gu.setCell (S:=fun b=>b=d) (p:=⟨d,103,none⟩) (gu.refl _ _) (.inl rfl) _;have f8:=(e1.block _ (lt_of_heap b3) (show ¬W.heap.size=d by omega)).trans b3;generalize w5.setCell ⟨d,103,none⟩ (.int .i64 (n:Int))=w6 at *;have lk:=KT f8 c4;unfold Ak at lk;have d6:=c9.cell 0;rw[bEs] at d6;have b4:(fZ qh D).inv lb X4 w6:=(fZ qh D).grow _ _ _ _ _ T (e1.mono fun b _ e=>e ▸ xo) (fun b V=>.inl V);have a8:gu (fun b=>D.S b\/b=g) w w6:=c0.trans' e1 (fun _ _ h=>h) (fun i hi e=>a_);have g6:=hide (az xg (az L (az xo (az Z (az b4 (az a8 (az d2 (az c9 b1))))))));clear xg L xo Z T c0 b9 d0 a1 b3 d2 c9 b1 e1 f8 b4 a8 g7 d3 f3;generalize g9:Uu m.kind=F at *
 go_wp2_with fail
 obtain⟨hM,j,B,k,s,u,r⟩:=aA HA;obtain⟨hS,H,G⟩:=aA g8;obtain⟨xg,L,xo,Z,b4,a8,d2,c9,b1⟩:=aA g6;have d9:Left (kS qh D.O) (lJ m) [] ((oJ m n).bind aj.ret) lb:=by rw[aCa];exact H
 subst g9
 refine (Lc m hm n G c4 (kS qh D.O) lb (aWw u) (aWv qh D.O) w6 (fun _=>False) [.pointer (some ⟨d,0,none⟩)] d (fZ qh D) X4
  (fun w' hc=>hM w' (a8.trans' hc (fun _ _ h=>h) (fun i hi h=>h.elim .inl (fun e=>a_)))) (fun b V=>⟨V.elim (fun h=>YX (j b h) a8.size) (fun e=>e ▸ b1.lt),fun h=>h⟩)
  (hS.mono fun h hh hO=>(Left.dn d9 h hh.1 hh.2 hO).2) (uH k) rfl b4 xo ⟨_,b1,Qi (.dv e9 ⟨0,D.hd,rfl,dC _,fun _=>e5.symm⟩) b2 n⟩ ⟨.w (.one (.pt ⟨_,_,rfl⟩ ⟨0,_,rfl,dC _,fun _=>⟨_,rfl,rfl⟩⟩)),trivial⟩).mono ?_
 rintro e w7 ⟨e7,hq⟩;have f6:¬SD d (fZ qh D) w.heap.size:=fun h=>h.elim ((fZ qh D).notS _ _ _ _ b4 L) (fun e=>a_);have d4:gu (fun b=>D.S b\/b=g) w w7:=a8.trans' e7 (fun _ _ h=>h) (fun i hi h=>h.elim .inl (fun e=>a_));have e0:f_ w7 w.heap.size 40 (mr ni):=d2.iq e7 f6;rcases hq with⟨e4,rfl,hv,_,a3⟩|⟨z,l,rfl,P,U,c1⟩;rotate_left 1;exact yA s k Z L (dC _) c1 (Left.dn d9 l P.1 P.2 U).2 U e0 (dH kE) rfl d4;have c6:=d9.2;rw[aCa] at c6;obtain⟨o,lc,f2⟩:∃ o lc,go (kS qh D.O) (oJ m n) lb=(o,lc):=⟨_,_,rfl⟩;rw[f2] at c6 hv a3;dsimp only at hv a3;obtain⟨rfl,c2⟩:=VL hv
 have hC:go D.O (bU m) []=(o,lc):=by unfold bU;rw[OA kH qh D.O (lJ m) [] (by rw[c6];exact a3.2.2),c6]
 have f0:=hide (az e0 (az c2 (az d4 (az a3.1 (az L (az Z hC))))));clear c6 hv a3 c2 hC e0 d4 L Z f6 e7 xg xo b4 a8 d2 c9 b1 d9 hS H G hM j B k s u r f2 g6 g8 lk d6 HA xk;generalize d5:mr o=oc at *
 go_wp2_with (refine aV (ty:=40) (t:=40) (x:=.tmp 3) (y:=.tmp 38) rfl rfl jF rfl rfl (aA f0).1 (dH kE) (by rw[<-d5];exact dH (aA f0).2.1) (by rw[<-d5];exact mD _) ?_;intro w8 g4 g1 f1;have H8:=hide (az g4 (az g1 f1));clear g4 g1 f1)
 obtain⟨b8,c8,z8⟩:=aA H8;obtain⟨e0,c2,d4,a3,L,Z,hC⟩:=aA f0;refine leaves_cons (f:=46) (args:=#[.pointer (some ⟨w.heap.size,0,none⟩)]) b_ (by simp[go_sem]) ?_;refine (bEe _ _).mono ?_;rintro e u' w9 ⟨rfl,rfl,rfl⟩;refine⟨_,aBz _ _ w.heap.size oc (by rw[<-d5];exact dH c2) rfl b8,d4.trans' c8 (fun _ _ h=>h) (fun i hi e=>a_),.inl ?_⟩;rw[hC];exact⟨c2,by rw[d5],D.grow _ _ _ _ _ a3 (c8.mono fun i _ e=>e ▸ L) (fun b V=>.inl (Z b V))⟩
end Pv
theorem sK:y7 prog 65 18:=⟨⟨_,underlying65,rfl⟩,ah⟩
theorem RS(b:Nat)(n:Int):Pv.Loc prog 3 b 3 #[.int .i64 n] (.int .i64 n):=by
 refine⟨fun w a=>?_,fun w old d a=>⟨w.setCell ⟨b,0,none⟩ (.int .i64 n),?_,?_,gu.setCell (S:=fun k=>k=b) (p:=⟨b,0,none⟩) (gu.refl _ _) (.inl rfl) _,b_⟩⟩
 ·have c:=a.cell 0;simp only[Zd,Yv] at c;simp[go_sem,c]
 ·obtain⟨x,rfl⟩:∃ x,old=#[x]:=by
   obtain⟨old⟩:=old
   match old,d with
   |[x],_=>exact⟨x,rfl⟩
  have c:=a.cell 0;have e:=a.frozen 0;simp only[Zd,Yv] at c;simp[go_sem,c,e]
 obtain⟨x,rfl⟩:∃ x,old=#[x]:=by
  obtain⟨old⟩:=old
  match old,d with
  |[x],_=>exact⟨x,rfl⟩
 exact a.BH 0 _
theorem aWf(b:Nat)(n:Bool):Pv.Loc prog 4 b 4 #[.bool n] (.bool n):=by
 refine⟨fun w a=>?_,fun w old d a=>⟨w.setCell ⟨b,0,none⟩ (.bool n),?_,?_,gu.setCell (S:=fun k=>k=b) (p:=⟨b,0,none⟩) (gu.refl _ _) (.inl rfl) _,b_⟩⟩
 ·have c:=a.cell 0;simp only[Zd,Yv] at c;simp[go_sem,c]
 ·obtain⟨x,rfl⟩:∃ x,old=#[x]:=by
   obtain⟨old⟩:=old
   match old,d with
   |[x],_=>exact⟨x,rfl⟩
  have c:=a.cell 0;have e:=a.frozen 0;simp only[Zd,Yv] at c;simp[go_sem,c,e]
 obtain⟨x,rfl⟩:∃ x,old=#[x]:=by
  obtain⟨old⟩:=old
  match old,d with
  |[x],_=>exact⟨x,rfl⟩
 exact a.BH 0 _
theorem aCe(a:kw)(w:ae)(Ab Ob e f:Nat)(c:kw)(hs:c.size=18)(b:kw)(m:b.size=55)(n d:ag)(h6:a.getD 6 bz=.pointer (some ⟨Ab,0,none⟩))(j:a.getD 7 bz=.pointer (some ⟨Ob,0,none⟩))(i:a.getD 8 bz=.pointer (some ⟨e,0,none⟩))(h:a.getD 9 bz=.pointer (some ⟨f,0,none⟩))
  (q:f_ w Ab 65 c) (o:f_ w Ob 40 b) (hN:f_ w e 3 #[n]) (p:f_ w f 4 #[d]) :
  (results Tryz.f34 a).run prog w=.ok (.tuple #[.agg c,.agg b,n,d]) w:=by
 have t:=jB q sK hs;have s:=jB o jF m;have g:=hN.cell 0;have k:=p.cell 0;simp only[Zd,Yv] at g k;simp only[Yw] at h6 j i h;have l:(loadVar 3 ⟨e,0,none⟩).run prog w=.ok n w:=by simp[go_sem,g]
 have r:(loadVar 4 ⟨f,0,none⟩).run prog w=.ok d w:=by simp[go_sem,k]
 simp[results,results34,h6,j,i,h,asAddr,t,s,l,r]
theorem LY (G:Nat) (pc:kw) (S:kw) (B:Option Addr) (nF cF:Nat) (V:kw->Int->Option Pv.kz->je) (g:Nat) (w:ae) (hs:S.size=18) (h1:S.all (·.oneCell')=true) (hG:∀ (args:kw) (w:ae),(YR G args).run prog w=.ok (.enter G args) w) (hg:g<=w.heap.size)
    (hV:∀ a n o l q,V a n o l->gu (fun k=>w.heap.size<=k/\k<w.heap.size+6) l q->V a n o q)
    (hp : ∀ l,Ext w l->l.heap.size=w.heap.size+6->f_ l (w.heap.size+1) 68 #[.slice B nF cF]->f_ l (w.heap.size+1+1) 65 S->f_ l (w.heap.size+1+1+1+1) 3 #[.int .i64 0] ->
      mf prog G (#[.func (.func 65) #[] #[.pointer (some ⟨w.heap.size+1+1+1+1,0,none⟩),.pointer (some ⟨w.heap.size+1,0,none⟩),.pointer (some ⟨w.heap.size+1+1,0,none⟩)]]++pc) l fun e q=>gu (fun k=>k=w.heap.size+1+1+1+1\/k=w.heap.size+1\/k=w.heap.size+1+1\/(g<=k/\k<w.heap.size)) l q /\
        ∃ b n,b.size=18/\b.all (·.oneCell')=true/\f_ q (w.heap.size+1+1) 65 b/\f_ q (w.heap.size+1+1+1+1) 3 #[.int .i64 n] /\
        ((∃ o,Pv.uj o/\e=.returned (.agg (Pv.mr o))/\V b n (some o) q)\/(∃ c,Pv.Y4 c/\e=.panicked ({ v:=Pv.cutV,recovered:=false }::c)/\V b n none q))) :
    mf prog 34 #[.func (.func G) #[] pc,.agg S,.slice B nF cF] w fun e w'=>gu (fun k=>g<=k) w w'/\∃ b n,b.size=18 /\
      (
       (∃ o,Pv.uj o/\e=.returned (.tuple #[.agg b,.agg (Pv.mr o),.int .i64 n,.bool true])/\V b n (some o) w') \/
       (e=.returned (.tuple #[.agg b,.agg (Pv.mr Pv.ni),.int .i64 n,.bool false])/\V b n none w')):=by
  have b2:∀ (fn:Fn) (first cap:kw) (w:ae),(Instr.makeFunc fn first cap).run prog w=.ok (.func fn first cap) w:=fun _ _ _ _=>rfl;have HP:=hide hp;have HS:=hide (az hs h1);have HV:=hide hV;clear hp hs h1 hV
  go_enter_defers func34,ntmps34
  go_upto_region 1 with fail
  generalize j:aBA _ (.cells _ 4)=F
  have Q:Ext w F:=by
    rw[<-j]
    all_goals exact DL
  have Y:f_ F w.heap.size 65 S:=by rw[<-j];exact (((((f_.new w _ _).alloc _).alloc _).alloc _).alloc _).alloc _
  have P:f_ F (w.heap.size+1) 68 #[.slice B nF cF]:=by rw[<-j];exact ((((f_.new' _ _ _ b_).alloc _).alloc _).alloc _).alloc _
  have X:f_ F (w.heap.size+1+1) 65 (#[.slice none 0 0,.slice none 0 0]++IR 16 (.int .u8 0)):=by rw[<-j];exact (((f_.new' _ _ _ b_).alloc _).alloc _).alloc _
  have O:f_ F (w.heap.size+1+1+1) 40 (Pv.mr Pv.ni):=by rw[<-j];exact ((f_.new' _ _ _ b_).alloc _).alloc _
  have N:f_ F (w.heap.size+1+1+1+1) 3 #[.int .i64 0]:=by rw[<-j];exact (f_.new' _ _ _ b_).alloc _
  have L:f_ F (w.heap.size+1+1+1+1+1) 4 #[.bool false]:=by rw[<-j];exact f_.new' _ _ _ b_
  have z8:F.heap.size=w.heap.size+6:=by rw[<-j];simp
  have HZ:=hide (az Q (az Y (az P (az X (az O (az N (az L z8)))))));clear j Q Y P X O N L z8
  go_wp2_with (first
    |(refine iV (ty:=65) (t:=65) (x:=.tmp 4) rfl rfl sK rfl (cs:=S) (aA HZ).2.1 (aA HS).1 ?_)
    |(refine aV (ty:=65) (t:=65) (x:=.tmp 6) (y:=.tmp 11) rfl rfl sK rfl rfl (aA HZ).2.2.2.1 rfl (aA HS).1 (aA HS).2 ?_;intro l a2 a1 a0;have H1:=hide (az a2 (az a1 a0));clear a2 a1 a0))
  obtain⟨Q,Y,P,X,O,N,L,z8⟩:=aA HZ;obtain⟨y1,H,y3⟩:=aA H1;have C:Ext w l:=Q.trans' H (fun _ _ h=>h) (fun i hi e=>a_);refine (aA HP l C (y3.trans z8) (P.iq H a_) y1 (N.iq H a_)).mono ?_;rintro e q ⟨U,b,n,m,E,u,s,hq⟩;have hO:=(O.iq H a_).iq U a_;have hD:=(L.iq H a_).iq U a_;have a3:Hid (gu (fun k=>g<=k) w q):=hide (C.trans' U (fun _ _ h=>h.elim) (fun i hi e=>a_));have b0:l.heap.size<=q.heap.size:=U.size;rcases hq with⟨o,J,rfl,r⟩|⟨c,a7,rfl,r⟩
  ·
    have W:=hide (az hO (az J (Pv.dH J)));have HD:=hide hD;have HQ:=hide (az m (az E (az u (az s r))));have b1:w.heap.size+6<=q.heap.size:=a_;clear Q Y P X O N L y1 H C U m E u s r hO hD HP H1 HZ J;generalize K:Pv.mr o=oc at *
    go_upto_region 5 with (refine aV (ty:=40) (t:=40) (x:=.tmp 7) (y:=.tmp 16) rfl rfl jF rfl rfl (aA W).1 (Pv.dH Pv.kE) (aA W).2.2 (by rw[<-K];exact Pv.mD _) ?_;intro w3 A d I;have H3:=hide (az A (az d I));clear A d I)
    obtain⟨A,d,I⟩:=aA H3;have a5:=(aA W).2.2;obtain⟨m,E,u,s,r⟩:=aA HQ
    refine Pv.LX ah ⟨_,_,w.heap.size+1+1,w.heap.size+1+1+1,w.heap.size+1+1+1+1,w.heap.size+1+1+1+1+1,65,40,3,4,b,oc,#[.int .i64 n],.agg b,.agg oc,.int .i64 n⟩
      (Pv.Loc.wide sK _ _ _ m E) (Pv.Loc.wide jF _ _ _ a5 (by rw[<-K];exact Pv.mD _)) (RS _ _) (aWf _ _) rfl rfl rfl rfl rfl (by dsimp only;omega) (by dsimp only;omega) (by dsimp only;omega) (by dsimp only;omega) (by dsimp only;omega) (by dsimp only;omega)
      (u.iq d a_) A (s.iq d a_) ⟨_,(aA HD).iq d a_⟩ fun a4 w4 h4=>?_
    obtain⟨ds,sz,D,l1,l2,l3,k1,k2,k3,⟨v4,Z,k5⟩,p,z⟩:=h4;dsimp only at ds D k1 k2 k3 Z p z;obtain rfl:=k5 rfl;have H4:=hide (az ds (az sz (az D (az k1 (az k2 (az k3 (az Z (az p z))))))));have H3:=hide (az m (az r d));clear l1 l2 l3 k5 ds sz D k1 k2 k3 Z p z m E u s r d;dsimp only[Exit.then]
    go_wp2
    obtain⟨ds,sz,D,k1,k2,k3,Z,p,z⟩:=aA H4;obtain⟨m,r,d⟩:=aA H3;show Leaves _ _ a4.tmps _ a4.defers .returning w4;rw[ds];refine leaves_cons (f:=67) (args:=#[.pointer (some ⟨w.heap.size+1+1+1,0,none⟩),.pointer (some ⟨w.heap.size+1+1+1+1+1,0,none⟩)]) b_ (by simp[go_sem]) ?_;refine (bFu _ _ _).mono ?_;rintro e u' w5 ⟨rfl,rfl,rfl⟩;refine⟨_,aCe _ _ (w.heap.size+1+1) (w.heap.size+1+1+1) (w.heap.size+1+1+1+1) (w.heap.size+1+1+1+1+1) b m oc a5 (.int .i64 n) (.bool true) (D 6 a_) (D 7 a_) (D 8 a_) (D 9 a_) k1 k2 k3 Z,?_,b,m,n,.inl ⟨o,(aA W).2.1,by rw[K],?_⟩⟩
    · exact (aA a3).trans (d.mono fun k _ T=>a_) |>.trans (p.mono fun k _ T=>by rcases T with h|h|h|h<;>omega)
    · exact (aA HV) _ _ _ _ _ r ((d.mono fun k _ T=>a_).trans (p.mono fun k _ T=>by rcases T with h|h|h|h<;>omega))
  ·
    have W:=hide hO;have HD:=hide hD;have HQ:=hide (az m (az E (az u (az s r))));clear Q Y P X O N L y1 H C U m E u s r hO hD HP H1 HZ
    go_wp2
    obtain⟨m,E,u,s,r⟩:=aA HQ;refine leaves_cons (f:=67) (args:=#[.pointer (some ⟨w.heap.size+1+1+1,0,none⟩),.pointer (some ⟨w.heap.size+1+1+1+1+1,0,none⟩)]) b_ (by simp[go_sem]) ?_;refine (aZu _ _ _ _ c _ (Pv.dH Pv.kE) (aA W) (aA HD) a_).mono ?_;rintro e u' w5 ⟨rfl,rfl,hc,a8,a9⟩;have a6:settle (.panicking ({ v:=Pv.cutV,recovered:=true }::c))=.returning:=Pv.aAz a7;show Leaves _ _ _ _ _ (settle _) _;rw[a6];refine⟨_,aCe _ _ (w.heap.size+1+1) (w.heap.size+1+1+1) (w.heap.size+1+1+1+1) (w.heap.size+1+1+1+1+1) b m _ (Pv.dH Pv.kE) _ _ rfl rfl rfl rfl (u.iq hc a_) a8 (s.iq hc a_) a9,?_,b,n,m,.inr ⟨rfl,?_⟩⟩;exact (aA a3).trans' hc (fun _ _ h=>h) (fun i hi e=>a_);exact (aA HV) _ _ _ _ _ r (hc.mono fun k _ T=>a_)
namespace Pv
theorem aZt(K:qo)(f g gH:Nat)(F:List pq)(h0:jd):Fa (Tq K f g gH F h0):=by rintro l X w c ⟨⟨a,d,rfl⟩,h⟩;refine⟨aEV,.agg #[],a,rfl,d,.inr rfl,⟨{ v:=cutV,recovered:=true }::a,fun e b=>?_,rfl⟩,h⟩;rcases List.mem_cons.1 b with rfl|b;rfl;exact d e b
theorem Iz{h:jd}(k:Dx h)(c:Int):(strOf (sec h.f c)).size<=1000000:=by rw[aW];unfold sec;split;rename_i a;rw[uA,zG,zH a_];exact k.sz _ (List.getElem_mem _);exact (by decide:([]:dh).length<=1000000)
theorem RZ(F:List pq){h0:jd}(hd:qc h0):OB (oI F h0):=by
 intro l r a;unfold oI at a;split at a;cases a;exact (by decide:(0:Nat)<=1000000)
 ·rename_i c e;split at a;cases a
  ·cases a;have d:Dx (Ap F h0 l.dropLast 0):=IZ _ _ hd.ok;have z:(jY.bytes).size<=1000000:=g_;have b:aG.size<=1000000:=g_;unfold dM
   repeat' split
   all_goals first
    |exact z
    |exact b
    |exact Iz d _
def aGZ(q:Option kz×jd×Nat)(e:Ending):Prop:=(∃ o,uj o/\q.1=some o/\e=.returned (.agg (mr o)))\/(q.1=none/\∃ a,Y4 a/\e=.panicked ({ v:=cutV,recovered:=false }::a))
theorem aZh(m:jy)(S:vk m)(C:Af m)(F:List pq)(Y:F.length<=1000000)(h0:jd)(hd:qc h0)(g:Nat)(w0 w:ae)(y:Ext w0 w)(o:∀ t,gu (fun b=>g<=b) w t->af t)(O:f_ w0 g 31 (opC m))
  (a d gH:Nat) (hN:w0.heap.size<=a) (W:w0.heap.size<=d) (hH:w0.heap.size<=gH) (K X:qo) (V:X g) (u:DF K a d gH F h0 [] X w) :
  mf prog 45 (#[.func (.func 65) #[] #[.pointer (some ⟨a,0,none⟩),.pointer (some ⟨d,0,none⟩),.pointer (some ⟨gH,0,none⟩)]]++#[.pointer (some ⟨g,0,none⟩)]) w fun e j=>
   gu (fun k=>k=a\/k=d\/k=gH\/(g<=k/\k<w0.heap.size)) w j /\
   f_ j a 3 #[.int .i64 ((cZ F (bU m) h0 0).2.2:Int)]/\(∃ N,f_ j gH 65 N/\RL { w:=j,ok:=P6 K X a d gH,env:=fun _=>none } (p_ (cZ F (bU m) h0 0).2.1) N.toList) /\
   aGZ (cZ F (bU m) h0 0) e:=by
 have lg:=O.lt;have lN:=u.bn.lt;obtain⟨cF,f1,f2⟩:=u.bf;obtain⟨cH,f3,f4⟩:=u.bh;have lF:=f1.lt;have lH:=f3.lt;have q:=aKu m;have n:=aOj m;have r:=MJ F h0 (bU m) q 900 n [] b_;have p:=X5 (oI F h0) (bU m) 900 n [];rw[Yg,ik] at p;have E:(Tq K a d gH F h0).inv [] X w:=⟨u,fun k U=>by cases U⟩;have z:=aZv K a d gH F h0 Y hd (bU m) q a_;refine (aOk m S C w g (Tq K a d gH F h0) X (O.ext y) (fun t D=>o t (D.mono fun b _ f=>?_)) (fun b f=>?_) (z.mono fun l T _=>⟨aCr,T⟩) (bFv K a d gH F h0) (aZt K a d gH F h0) (RZ F hd) E V).mono ?_
 ·rcases f with (h|h|h)|h<;>omega
 ·rcases f with h|h|h<;>omega
 rintro e j ⟨D,Q⟩
 refine⟨D.mono fun b _ f=>by rcases f with (h|h|h)|h<;>omega,?_⟩
 rcases Q with⟨A,rfl,s,G⟩|⟨J,l,rfl,h1,h2,h3⟩;have x:cZ F (bU m) h0 0=_:=r.1 G;rw[x];obtain⟨L,I,H⟩:=s.bh
 exact⟨s.bn,⟨L,I,H⟩,.inl ⟨_,A,rfl,rfl⟩⟩;obtain⟨⟨i,B,rfl⟩,s,P,c,rfl,h4,Z⟩:=h3;have x:cZ F (bU m) h0 0=_:=r.2 P c aCr h1 h4 Z;rw[x];obtain⟨L,I,H⟩:=s.bh;have f:=s.bn;rw[gp,ZV] at f;exact⟨f,⟨L,I,H⟩,.inr ⟨rfl,i,B,rfl⟩⟩
end Pv
section
theorem Pv.VK{C:Pv.Ctx}{l1 c:List Pv.PC}{e c2:kw}{b:Int}{d:Bool}(h1:Pv.RL C l1 e.toList)(h2:Pv.RL C c c2.toList):Pv.RV C (.og [.agg l1,.agg c,.one (.lit (.int .i64 b)),.one (.lit (.bool d))]) (.tuple #[.agg e,.agg c2,.int .i64 b,.bool d]):=
 .og rfl (fun i x a=>by
  match i,a with
  |0,a=>cases a;exact⟨_,rfl,.agg h1⟩|1,a=>cases a;exact⟨_,rfl,.agg h2⟩|2,a=>cases a;exact⟨_,rfl,.one (.lit rfl)⟩|3,a=>cases a;exact⟨_,rfl,.one (.lit rfl)⟩|i+4,a=>cases a)
theorem Kv(b:kw)(w:ae) :
  mf prog 29 #[.agg b] w fun e a=>e=.returned (.func (.func 45) #[] #[.pointer (some ⟨w.heap.size,0,none⟩)])/\Ext w a/\a.heap.size=w.heap.size+1/\f_ a w.heap.size 31 b:=by
 have d:∀ (c:Fn) (first cap:kw) (w:ae),(Instr.makeFunc c first cap).run prog w=.ok (.func c first cap) w:=fun _ _ _ _=>rfl
 go_enter func29,ntmps29
 go_wp2
 refine ZJ (v:=.func (.func 45) #[] #[.pointer (some ⟨w.heap.size,0,none⟩)]) (by simp[results,results29,go_sem]) rfl ⟨rfl,?_,?_,?_⟩
 ·all_goals exact DL
 simp;exact f_.new w _ _
namespace Pv
def aP(o:Option kz):kz:=o.getD ni
def bFf(q:Option kz×jd×Nat):PV:=.og [.agg (p_ q.2.1),.agg (j_ (aP q.1)),.one (.lit (.int .i64 (q.2.2:Int))),.one (.lit (.bool q.1.isSome))]
def Ff(q:Option kz×jd×Nat)(ok:qo)(a:kw)(n:Int)(o:Option kz)(w:ae):Prop:=n=(q.2.2:Int)/\RL { w:=w,ok:=ok,env:=fun _=>none } (p_ q.2.1) a.toList/\q.1=o
theorem Ff.le{q:Option kz×jd×Nat}{ok a:qo}{f:kw}{n:Int}{o:Option kz}{w w':ae}(c:Ff q ok f n o w)(hs:w.heap.size<=w'.heap.size)(hb:∀ b,b<w.heap.size->ok b->a b/\w'.heap[b]?=w.heap[b]?):Ff q a f n o w':=⟨c.1,c.2.1.le ⟨hs,fun b e d=>hb b e d,fun _ _ _ h=>by cases h⟩,c.2.2⟩
theorem aDg{C:Ctx}{h:jd}{cs:kw}(hr:RL C (p_ h) cs.toList):cs.size=18:=by
 unfold p_ at hr;obtain⟨cs⟩:=cs;dsimp only at hr;cases hr with
 | cons k1 hr=>cases hr with
  |cons k2 hr=>obtain⟨d,c⟩:=hr.Zq;have b:=k1.width;have a:=k2.width;subst c;simp[PC.width] at b a;simp[b,a,d]
theorem aTr{C:Ctx}{h:jd}{cs:kw}(hr:RL C (p_ h) cs.toList):cs.all (·.oneCell')=true:=by rw[<-aAD,List.all_eq_true];exact fun x a=>hr.ones x a
end Pv
theorem aNv{a:kw}{w:ae}{Ab Ob:Nat}{c b:kw}(hs:c.size=18)(e:b.size=55)(h6:a.getD 6 bz=.pointer (some ⟨Ab,0,none⟩))(d:a.getD 7 bz=.pointer (some ⟨Ob,0,none⟩))
  (g:f_ w Ab 65 c) (f:f_ w Ob 40 b) :
  (results Tryz.f15 a).run prog w=.ok (.tuple #[.agg c,.agg b,a.getD 8 bz,a.getD 9 bz]) w:=by
 have i:=jB g sK hs;have h:=jB f jF e;simp only[Yw] at h6 d;simp[results,results15,h6,d,asAddr,i,h]
namespace Pv
def okF(ok0:qo)(S:Nat):Nat->Prop:=fun b=>(ok0 b\/S<=b)/\¬(S<=b/\b<S+11)
theorem RY(m:jy)(hm:vk m)(P:Af m)(F:List pq)(hF:F.length<=1000000)(h0:jd)(hd:qc h0)(ok0:qo)(y:kw)(B:Option Addr)(L S:Nat)(w:ae)(I:af w)
  (Q:RL { w:=w,ok:=ok0,env:=fun _=>none } (p_ h0) y.toList) (hV:RL { w:=w,ok:=ok0,env:=fun _=>none } [tV F] [.slice B L S])
  (l d:ae) (Z:Ext w l) (z7:l.heap.size=w.heap.size+4) (k1:Ext l d) (k2:d.heap.size=l.heap.size+1) (k3:f_ d l.heap.size 31 (opC m)) :
  mf prog 34 #[.func (.func 45) #[] #[.pointer (some ⟨l.heap.size,0,none⟩)],.agg y,.slice B L S] d fun e z=>gu (fun k=>l.heap.size<=k) d z /\
   ∃ i,uj (aP (cZ F (bU m) h0 0).1)/\e=.returned (.tuple #[.agg i,.agg (mr (aP (cZ F (bU m) h0 0).1)),.int .i64 ((cZ F (bU m) h0 0).2.2:Int),.bool (cZ F (bU m) h0 0).1.isSome]) /\
    RL { w:=z,ok:=okF ok0 w.heap.size,env:=fun _=>none } (p_ (cZ F (bU m) h0 0).2.1) i.toList:=by
 obtain⟨q,V⟩:=lm (cZ F (bU m) h0 0);rw[V];refine (LY 45 _ y B L S (Ff q (okF ok0 w.heap.size)) l.heap.size d (aDg Q) (aTr Q) (fun args w=>ah) a_ (fun a n o G wb hv j=>?_) (fun G X U y1 y2 y3=>?_)).mono ?_;exact hv.le j.size (fun b f g=>⟨g,j.block b f (fun W=>g.2 a_)⟩);have r:Ext w G:=(Z.trans k1).trans X
 have E:∀ {p:dw} {T:ji},RL { w:=w,ok:=ok0,env:=fun _=>none } p T->RL { w:=G,ok:=P6 (fun b=>ok0 b\/w.heap.size<=b) (fun b=>w.heap.size<=b/\b<w.heap.size+11/\b≠d.heap.size+1+1+1+1/\b≠d.heap.size+1/\b≠d.heap.size+1+1) (d.heap.size+1+1+1+1) (d.heap.size+1) (d.heap.size+1+1),env:=fun _=>none } p T:=fun hr=>
  hr.le ⟨r.size,fun b f g=>by
   have a0:b<w.heap.size:=f
   exact⟨⟨.inl g,fun H=>a_,a_,a_,a_⟩,r.block b f (fun W=>W)⟩,fun _ _ _ h=>by cases h⟩
 have C:=aZh m hm P F hF h0 hd l.heap.size d G X (fun w' j=>I.past (B:=l.heap.size) a_ (I.ext r) j) k3 (d.heap.size+1+1+1+1) (d.heap.size+1) (d.heap.size+1+1) a_ a_ a_
  (fun b=>ok0 b\/w.heap.size<=b) (fun b=>w.heap.size<=b/\b<w.heap.size+11/\b≠d.heap.size+1+1+1+1/\b≠d.heap.size+1/\b≠d.heap.size+1+1) a_
  { bn:=y3,bf:=⟨_,y1,E hV⟩,bh:=⟨_,y2,E Q⟩,ne:=⟨a_,a_,a_⟩,good:=fun c j=>(by cases j),mine:=fun b f=>⟨a_,f.2.2.1,f.2.2.2.1,f.2.2.2.2⟩,mem:=I.ext r,tab:=fun b f=>(by have:=aIc I f;exact⟨fun H=>a_,a_,a_,a_⟩),up:=fun b f=>.inr a_ }
 rw[V] at C;refine C.mono ?_;rintro e z ⟨j,hN,⟨Y,f,u⟩,D⟩;have g:∀ b,P6 (fun b=>ok0 b\/w.heap.size<=b) (fun b=>w.heap.size<=b/\b<w.heap.size+11/\b≠d.heap.size+1+1+1+1/\b≠d.heap.size+1/\b≠d.heap.size+1+1) (d.heap.size+1+1+1+1) (d.heap.size+1) (d.heap.size+1+1) b->okF ok0 w.heap.size b:=fun b f=>⟨f.1,fun H=>f.2.1 ⟨H.1,H.2,f.2.2⟩⟩;have s:RL { w:=z,ok:=okF ok0 w.heap.size,env:=fun _=>none } (p_ q.2.1) Y.toList:=u.le ⟨dC _,fun b _ f=>⟨g b f,rfl⟩,fun _ _ _ h=>by cases h⟩;refine⟨j,Y,_,aDg u,aTr u,f,hN,?_⟩;rcases D with⟨o,ho,x,rfl⟩|⟨x,t,O,rfl⟩;exact .inl ⟨o,ho,rfl,rfl,s,x⟩;exact .inr ⟨t,O,rfl,rfl,s,x⟩;rintro e z ⟨j,i,n,_,N⟩
 refine⟨j,?_⟩;rcases N with⟨o,g,rfl,K,J,A⟩|⟨rfl,K,J,A⟩
 refine⟨i,?_,?_,J⟩;rw[A];exact g;rw[K,A];rfl;refine⟨i,?_,?_,J⟩;rw[A];exact kE;rw[K,A];rfl
end Pv
theorem Kr(m:Pv.jy)(hm:Pv.vk m)(u:Pv.Af m)(F:List pq)(hF:F.length<=1000000)(h0:jd)(hd:qc h0)(ok0:qo)(g:kw)(B:Option Addr)(nF cF:Nat)(w:ae)(hM:af w)
  (hH:Pv.RL { w:=w,ok:=ok0,env:=fun _=>none } (Pv.p_ h0) g.toList) (hV:Pv.RL { w:=w,ok:=ok0,env:=fun _=>none } [Pv.tV F] [.slice B nF cF]) :
  mf prog 15 #[.agg g,.agg (Pv.opC m),.slice B nF cF] w fun e Y=>Ext w Y/\∃ H,e=.returned H /\
   Pv.RV { w:=Y,ok:=fun b=>ok0 b\/w.heap.size<=b,env:=fun _=>none } (Pv.bFf (cZ F (Pv.bU m) h0 0)) H:=by
 have A:=hide (show g.size=18/\(Pv.opC m).size=102 from⟨Pv.aDg hH,Pv.sF u⟩);have HR:=hide (fun W=>Kv (Pv.opC m) W);have Z:=hide (fun d w1 X V=>Pv.RY m hm u F hF h0 hd ok0 g B nF cF w hM hH hV d w1 X V);obtain⟨q,hq⟩:=lm (cZ F (Pv.bU m) h0 0);rw[hq] at Z ⊢;obtain⟨I,s⟩:∃ x,Pv.opC m=x:=⟨_,rfl⟩;rw[s] at A HR Z ⊢;obtain⟨oc,f⟩:∃ x,Pv.mr (Pv.aP q.1)=x:=⟨_,rfl⟩;rw[f] at Z;have HO:=hide f;clear s hM hm u hF hd hH hV hq f
 go_enter func15,ntmps15
 go_upto_region 1 with fail
 generalize c:aBA _ (.cells _ 40)=d
 have X:Ext w d:=by
  rw[<-c]
  all_goals exact DL
 have z2:f_ d w.heap.size 65 g:=by rw[<-c];exact (((f_.new w _ _).alloc _).alloc _).alloc _
 have z3:f_ d (w.heap.size+1) 31 I:=by rw[<-c];exact ((f_.new' _ _ _ b_).alloc _).alloc _
 have z5:f_ d (w.heap.size+1+1) 65 (#[.slice none 0 0,.slice none 0 0]++IR 16 (.int .u8 0)):=by rw[<-c];exact (f_.new' _ _ _ b_).alloc _
 have z6:f_ d (w.heap.size+1+1+1) 40 (Pv.mr Pv.ni):=by rw[<-c];exact f_.new' _ _ _ b_
 have V:d.heap.size=w.heap.size+4:=by rw[<-c];simp
 have z8:Ext w d.drew:=X.drew;have G:=hide (show Ext w d.drew/\f_ d.drew (w.heap.size+1+1) 65 (#[.slice none 0 0,.slice none 0 0]++IR 16 (.int .u8 0))/\f_ d.drew (w.heap.size+1+1+1) 40 (Pv.mr Pv.ni)/\d.drew.heap.size=w.heap.size+4 from⟨z8,z5.drew,z6.drew,V⟩);refine wp_region_held_drew (S:=fun W=>f_ W w.heap.size 65 g/\f_ W (w.heap.size+1) 31 I) ah ⟨z2.drew,z3.drew⟩ (fun a=>?_);clear c X z2 z3 z5 z6 V z8;generalize d.drew=Wd at G a ⊢;refine Yn (i:=0) (v:=_) rfl ah ah ah (fun _ _ _ h=>h) (ylb Pv.aLc rfl ai rfl (aA A).2 (fun Y hw=>hw.2)) o_ ?_
 try simp only[Act.put,zA,zB,zC,zD,zF]
 refine Yn (i:=2) (v:=_) rfl ah ah ah (fun _ _ _ h=>h) (ylb sK rfl ai rfl (aA A).1 (fun Y hw=>hw.1)) o_ ?_
 try simp only[Act.put,zA,zB,zC,zD,zE,zF]
 refine Yn (i:=3) (v:=?_) rfl ah ah ah (fun _ _ _ h=>h) (Or.inl ⟨ai,fun C j=>?_⟩) o_ ?_;rotate_left
 ·(first|(go_simp;done)|(go_simp;with_reducible rfl))
 try simp only[Act.put,zA,zB,zC,zD,zE,zF]
 refine wpAnyH_ready (rs:=[1]) ah b_ (AllReadyH.cons (o:=_) rfl (fun K k=>?_) AllReadyH.nil)
 try go_simp
 (refine (aA HR Wd).mono ?_;rintro e w1 ⟨rfl,l,L,J⟩;have z:=az (a.1.ext l) (a.2.ext l);have H1:=hide (az l (az L J));clear a l L J)
 refine k.out _ _ ?_ (fun a=>?_);exact z;clear k K
 try simp only[Act.put,zA,zB,zC,zD,zE,zF]
 refine wpAnyH_ready (rs:=[4]) ah b_ (AllReadyH.cons (o:=_) rfl (fun K k=>?_) AllReadyH.nil)
 try go_simp
 (obtain⟨l,L,J⟩:=aA H1;have hz:=(aA G).2.2.2;refine (aA Z Wd w1 (aA G).1 hz l L J).mono ?_;rintro e w2 ⟨E,a0,Q,rfl,D⟩;have z:=az (a.1.iq E a_) (a.2.iq E a_);have H2:=hide (az (((aA G).1.trans l).trans' E (fun _ _ h=>h) (fun i hi e=>a_)) (az (((aA G).2.1.ext l).iq E a_) (az (((aA G).2.2.1.ext l).iq E a_) (az Q D))));have e3:=Pv.aDg D;have e4:=Pv.aTr D;clear a l L J hz E D Q H1)
 refine k.out _ _ ?_ (fun a=>?_);exact z;clear k K
 try simp only[Act.put,zA,zB,zC,zD,zE,zF]
 refine Yn (i:=5) (v:=?_) rfl ah ah ah (fun _ _ _ h=>h) (Or.inl ⟨ai,fun C j=>?_⟩) o_ ?_;rotate_left
 ·(first|(go_simp;done)|(go_simp;with_reducible rfl))
 try simp only[Act.put,zA,zB,zC,zD,zE,zF]
 refine Yn (i:=6) (v:=?_) rfl ah ah ah (fun _ _ _ h=>h) (Or.inl ⟨ai,fun C j=>?_⟩) o_ ?_;rotate_left
 ·(first|(go_simp;done)|(go_simp;with_reducible rfl))
 try simp only[Act.put,zA,zB,zC,zD,zE,zF]
 refine Yn (i:=7) (v:=?_) rfl ah ah ah (fun _ _ _ h=>h) (Or.inl ⟨ai,fun C j=>?_⟩) o_ ?_;rotate_left
 ·(first|(go_simp;done)|(go_simp;with_reducible rfl))
 try simp only[Act.put,zA,zB,zC,zD,zE,zF]
 refine Yn (i:=8) (v:=?_) rfl ah ah ah (fun _ _ _ h=>h) (Or.inl ⟨ai,fun C j=>?_⟩) o_ ?_;rotate_left
 ·(first|(go_simp;done)|(go_simp;with_reducible rfl))
 try simp only[Act.put,zA,zB,zC,zD,zE,zF]
 refine wpAnyH_ready (rs:=[9]) ah b_ (AllReadyH.cons (o:=_) rfl (fun K k=>?_) AllReadyH.nil)
 (refine jW (ty:=65) (t:=65) (x:=.tmp 6) (y:=.tmp 15) rfl rfl sK rfl rfl (aA H2).2.1 rfl e3 e4 ?_;intro w3 U r O;have z:=az (a.1.iq r a_) (a.2.iq r a_);have H3:=hide (az U (az r O));clear a U r O)
 refine k.out _ _ ?_ (fun a=>?_);exact z;clear k K
 try simp only[Act.put,zD,zE,zF]
 refine wpAnyH_ready (rs:=[10]) ah b_ (AllReadyH.cons (o:=_) rfl (fun K k=>?_) AllReadyH.nil)
 (refine jW (ty:=40) (t:=40) (x:=.tmp 7) (y:=.tmp 16) rfl rfl jF rfl rfl ((aA H2).2.2.1.iq (aA H3).2.1 a_) (Pv.dH Pv.kE) (by rw[<-aA HO];exact Pv.dH (aA H2).2.2.2.1) (by rw[<-aA HO];exact Pv.mD _) ?_;intro w4 T n N;have z:=az (a.1.iq n a_) (a.2.iq n a_);have H4:=hide (az T (az n N));clear a T n N)
 refine k.out _ _ ?_ (fun a=>?_);exact z;clear k K
 try simp only[Act.put,zD,zE,zF]
 refine Yn (i:=11) (v:=?_) rfl ah ah ah (fun _ _ _ h=>h) (Or.inl ⟨ai,fun C j=>?_⟩) o_ ?_;rotate_left
 ·(first|(go_simp;done)|(go_simp;with_reducible rfl))
 try simp only[Act.put,zA,zB,zC,zD,zE,zF]
 refine Yn (i:=12) (v:=?_) rfl ah ah ah (fun _ _ _ h=>h) (Or.inl ⟨ai,fun C j=>?_⟩) o_ ?_;rotate_left
 ·(first|(go_simp;done)|(go_simp;with_reducible rfl))
 try simp only[Act.put,zA,zB,zC,zD,zE,zF]
 refine wpAnyH_done ah ?_ _;clear a
 go_wp2
 obtain⟨x1,_,_,Q,D⟩:=aA H2;obtain⟨b3,c3,s3⟩:=aA H3;obtain⟨b4,c4,s4⟩:=aA H4;have f:=aA HO;refine ZJ (aNv e3 (by rw[<-f];exact Pv.dH Q) rfl rfl (b3.iq c4 a_) b4) rfl ⟨?_,_,rfl,?_⟩;exact (x1.trans' c3 (fun _ _ h=>h) (fun i hi e=>a_)).trans' c4 (fun _ _ h=>h) (fun i hi e=>a_)
 have a1:∀ {p:List Pv.PC} {xs:ji},Pv.RL { w:=w2,ok:=Pv.okF ok0 w.heap.size,env:=fun _=>none } p xs->Pv.RL { w:=w4,ok:=fun b=>ok0 b\/w.heap.size<=b,env:=fun _=>none } p xs:=fun hr=>
  hr.le ⟨by rw[s4,s3];exact dC _,fun b hb P=>⟨P.1,by
   have hn:¬(w.heap.size<=b/\b<w.heap.size+11):=P.2
   exact (c4.block b (by rw[s3];exact hb) a_).trans (c3.block b hb a_)⟩,fun _ _ _ h=>by cases h⟩
 show Pv.RV _ (Pv.bFf q) (.tuple #[.agg a0,.agg oc,.int .i64 (q.2.2:Int),.bool q.1.isSome]);rw[<-f];exact Pv.VK (a1 D) (Pv.bEm _ Q)
namespace Pv
def aPr:dw->Option pq
 |[.lit (.bool c),.lit (.int .i64 b),.lit (.bool n)]=>some ⟨c,b,n⟩|_=>none
def uV(n:Nat)(f:Nat->dw):List pq:=(AC n).map fun i=>(aPr (f i)).getD AA
def MW:PC->Option (Prop×List pq)
 |.sl 3 n f=>some (∀ i,i<n->(aPr (f i)).isSome=true,uV n f)|.lit (.slice none 0 0)=>some (True,[])|_=>none
theorem bGy{l:dw}(h:(aPr l).isSome=true):l=oK ((aPr l).getD AA):=by
 unfold aPr at h ⊢;split
 rfl;rename_i a
 split at h;rename_i c b n;exact absurd rfl (a c b n);cases h
theorem MV{C:Ctx}{c:PC}{p:Prop}{F:List pq}(e:MW c=some (p,F))(d:p){v:ag}(hr:R C c [v]):(∃ B n k,v=.slice B n k)/\R C (tV F) [v]:=by
 unfold MW at e;split at e;rename_i n f;cases e;have a:(uV n f).length=n:=by simp[uV]
 refine⟨?_,?_⟩;cases hr with
 |sl r _ _=>obtain⟨_,A,k,rfl,_⟩:=r;exact⟨_,_,_,rfl⟩
 unfold tV;rw[a];refine hr.Ar fun i b=>?_;have g:=bGy (d i b);rw[g];unfold yg uV;congr 1;rw[zG,XN,Zb b];rfl;cases e;obtain rfl:v=.slice none 0 0:=by cases hr;rfl
 exact⟨⟨_,_,_,rfl⟩,R.sl (Reads.nil _ 3) (fun _ _ h=>absurd h b_) (fun i h=>absurd h b_)⟩;cases e
def Zy:jl->Option (Prop×PV)
 |[.w (.agg c),.w (.agg ol),.w (.one d)]=>match BX c,bJd ol,MW d with
  |some (p,a),some m,some (b,F)=>some (p/\b/\qc a/\F.length<=1000000/\vk m,bFf (cZ F (bU m) a 0))|_,_,_=>none
 |_=>none
theorem aAa:d_ prog af 15 (aU false Zy):=by
 refine aT (aB func15 ah rfl) (fun L p r a y w g o C x=>?_);unfold Zy at a;split at a;rename_i S Q T;split at a;rename_i P G m O F K H J;cases a;obtain⟨u,t,s,q,c⟩:=y
 match o,x with
 | [v1, v2,v3],⟨k1,k2,k3,_⟩=>
  cases k1 with
  | w k1=>cases k1 with
   | @agg _ c1 k1=>
    cases k2 with
    | w k2=>cases k2 with
     | @agg _ c2 k2=>
      cases k3 with
      | w k3=>cases k3 with
       |one k3=>rw[aMm H] at k2;obtain⟨E,i,l⟩:=aWb k2;have I:c2=opC m:=GM E;subst I;obtain⟨⟨B,n,k,rfl⟩,z⟩:=MV J t k3;have j:=RL.cons z RL.nil;refine (Kr m c ⟨c.root,i,c.link,c.ot,c.xt,l⟩ F q G s g c1 B n k w C (yJ K u k1) j).mono ?_;rintro e N ⟨D,f,rfl,d⟩;exact⟨f,rfl,D,d.le ⟨dC _,fun b _ A=>⟨A.elim (fun h=>.inl ⟨rfl,h⟩) .inr,rfl⟩,fun _ _ _ h=>by cases h⟩⟩
 cases a;cases a
end Pv
structure ut(A L:Nat)(lv:ag)(log:List qj)(i:Nat)(X:qo)(w:ae):Prop where
 at_:w.heap[A]?=some (.cells #[.int .i64 (i:Int)] 3 (0,0))
 Eh:w.heap[L]?=some (.cells #[lv] 32 (0,0))
 reads:Reads w 2 lv log.length (logCells log)
 ne:A≠L
 own:0<log.length->lv.ownBlock≠some A
 le:i<=log.length
 mine:∀ k,X k->k<w.heap.size/\k≠A/\k≠L/\(0<log.length->lv.ownBlock≠some k)
def pending(a:Acc):ag:=.iface 114 a.v
theorem ut.iq{A L:Nat}{d:ag}{a:List qj}{i:Nat}{X:qo}{w w':ae}(h:ut A L d a i X w)(hc:gu X w w'):ut A L d a i X w':=
 ⟨
  gu.blk hc h.at_ (fun b=>(h.mine _ b).2.1 rfl),gu.blk hc h.Eh (fun b=>(h.mine _ b).2.2.1 rfl),h.reads.iq hc (fun _ e c b=>(h.mine _ b).2.2.2 e c),h.ne,h.own,h.le,
  fun k c=>⟨YX (h.mine k c).1 hc.size,(h.mine k c).2⟩⟩
theorem ut.step{A L:Nat}{d:ag}{a:List qj}{i:Nat}{X:qo}{w:ae}(h:ut A L d a i X w)(g:i<a.length):ut A L d a (i+1) X (w.setCell ⟨A,0,none⟩ (.int .i64 ((i:Int)+1))):=by have c:gu (fun k=>k=A) w (w.setCell ⟨A,0,none⟩ (.int .i64 ((i:Int)+1))):=gu.setCell (S:=fun k=>k=A) (p:=⟨A,0,none⟩) (gu.refl _ _) (.inl rfl) _;refine⟨?_,gu.blk c h.Eh (fun e=>h.ne e.symm),h.reads.iq c (fun k f b e=>h.own f (e ▸ b)),h.ne,h.own,g,fun k b=>⟨YX (h.mine k b).1 c.size,(h.mine k b).2⟩⟩;exact one_setCell h.at_
theorem VQ(A L:Nat)(x:ag)(d:List qj)(a:Acc)(i:Nat)(X:qo)(w:ae)(h:ut A L x d i X w)(F:Nat)(N:F=43) :
  mf prog F (#[a.v]++#[.pointer (some ⟨A,0,none⟩),.pointer (some ⟨L,0,none⟩)]) w (mM (ut A L x d) (fun k=>k=A) X pending w qj.v (replay d a i)):=by
 subst N;have V:=cell_of_one h.at_;have E:=free_of_one h.at_;have U:=cell_of_one h.Eh;have O:=lt_of_heap h.at_;have K:=lt_of_heap h.Eh;have C:¬L=A:=fun e=>h.ne e.symm;have m:=h.reads.AZ;have l:=hide h;obtain⟨_,B,c,rfl,D,G,_⟩:=h.reads;clear h;unfold maxLen at m;obtain⟨s,u,t,q⟩:=a;simp only[Acc.v];by_cases f:i<d.length
 ·obtain⟨b,o,W,Q,P,y,_,_,T,j,g,I,H⟩:=(aA l).reads.at2 f;cases y;have J:¬b=A:=fun e=>(aA l).own a_ (by rw[e];rfl);rw[(aCd d i).1,zH f] at j;rw[(aCd d i).2,zH f] at g;cases j;cases g;have R:Hid (replay d ⟨s,u,t,q⟩ i=.ok d[i] (i+1)):=hide (by unfold replay;rw[zH f]);generalize d[i]=r at *;have n:¬d.length<=i:=a_
  go_enter func43,ntmps43
  go_wp2
  go_returns
  have z:=(aA l).step f;refine mM.ok (aA R) rfl ?_ ?_;exact (z.iq (gu.alloc (gu.refl _ _) _)).iq (gu.alloc (gu.refl _ _) _);exact ((gu.setCell (S:=fun k=>k=A) (p:=⟨A,0,none⟩) (gu.refl _ _) (.inl rfl) _).alloc _).alloc _
 ·have R:Hid (replay d ⟨s,u,t,q⟩ i=.error ⟨s,u,t,q⟩ i):=hide (by unfold replay;rw[YQ a_]);have n:d.length<=i:=a_
  go_enter func43,ntmps43
  go_wp2
  refine⟨rfl,mM.err (aA R) rfl ?_ ?_⟩;exact ((aA l).iq (gu.alloc (gu.refl _ _) _)).iq (gu.alloc (gu.refl _ _) _);exact ((gu.refl _ _).alloc _).alloc _
theorem aRw{P:dE}{ops:Array Oper}{o:Oper}{a:Act}{w w':ae}{K:Act->je}{Q:Exit->Act->je}{E:Prop}(b:o.guard=none){ty:bi}{x y:Operand}(d:o.op=.store ty x y)(hr:(Instr.storeAt ty (a.eval x) (a.eval y)).run P w=.ok () w')(h:K (a.put o.dst bz) w') :
  if Region.wanted o (yielded ops a.tmps)=true then Oper.wp P o a w K Q else E:=by
 have c:Region.wanted o (yielded ops a.tmps)=true:=by simp[Region.wanted,b]
 rw[au c];unfold Oper.wp;rw[show (execOp a.eval o).run P w=.ok .skip w' from by simp[execOp,d,hr]];exact h
theorem wS:y7 prog 37 4:=⟨⟨_,underlying37,rfl⟩,ah⟩
theorem aHp(x:ag)(w:ae):(Instr.typeAssert (.iface 114 x) 20 114 true).run prog w=.ok (.tuple #[x,.bool true]) w:=ah
attribute [local go_sem] aHp
theorem catch_panicking(Ab Ob c:Nat)(a:Acc)(Z Y X V G:ag)(y:kw)(d:List PanicEntry)(w:ae)(hy:y.size=55)
  (N:f_ w Ab 37 #[Z,Y,X,V]) (J:f_ w Ob 40 y) (L:f_ w c 4 #[G]) (B:¬Ab=Ob) (C:¬Ab=c) (z:¬Ob=c) :
  CallsD prog 44 #[.pointer (some ⟨Ab,0,none⟩),.pointer (some ⟨Ob,0,none⟩),.pointer (some ⟨c,0,none⟩)] (.panicking ({ v:=pending a,recovered:=false }::d)) w fun e u' n=>
   e=.returned (.tuple #[])/\u'=.panicking ({ v:=pending a,recovered:=true }::d)/\gu (fun k=>k=Ab\/k=Ob\/k=c) w n /\
   f_ n Ab 37 #[.int .i64 a.kind,.int .i64 a.pg,.int .i64 a.cell,.string a.bytes]/\f_ n Ob 40 (Pv.mr Pv.ni)/\f_ n c 4 #[.bool false]:=by
 have lA:=N.lt;have lO:=J.lt;have lD:=L.lt;have HA:=hide N;have HO:=hide (az J hy);have HD:=hide L;clear N J L hy;have a1:¬Ob=Ab:=fun e=>B e.symm;have a2:¬c=Ab:=fun e=>C e.symm;have a0:¬c=Ob:=fun e=>z e.symm;obtain⟨ak,ab,ac,ax⟩:=a;simp only[pending,Acc.v];refine callsD_of_wpS func44 rfl fun a3 cs hu=>?_;simp only[ntmps44,Yx,zl,Yg,aAL,aAM,aAN,aAO,aAP,aAQ,Ha,yz];apply wpS_seq;apply wpS_region;simp[wpOpsS,go_sem,recoverD,hu,Exit.thenS];refine wpS_of_wp ?_
 go_upto_region 8 with fail
 generalize E:aBA _ (.cells _ 40)=W
 have m:Ext w W:=by
  rw[<-E]
  all_goals exact DL
 have Q:f_ W w.heap.size 114 #[.int .i64 ak,.int .i64 ab,.int .i64 ac,.string ax]:=by rw[<-E];exact (f_.new' _ _ _ b_).alloc _
 have P:f_ W (w.heap.size+1) 40 (Pv.mr Pv.ni):=by rw[<-E];exact f_.new' _ _ _ b_
 have D:=hide (show Ext w W.drew/\f_ W.drew Ab 37 #[Z,Y,X,V]/\f_ W.drew Ob 40 y/\f_ W.drew c 4 #[G] from⟨m.drew,((aA HA).ext m).drew,((aA HO).1.ext m).drew,((aA HD).ext m).drew⟩);refine wp_region_held_drew (S:=fun W=>f_ W w.heap.size 114 #[.int .i64 ak,.int .i64 ab,.int .i64 ac,.string ax]/\f_ W (w.heap.size+1) 40 (Pv.mr Pv.ni)) ah ⟨Q.drew,P.drew⟩ (fun b=>?_);clear E m Q P;generalize W.drew=Wd at D b ⊢;refine Yn (i:=0) (v:=?_) rfl ah ah ah (fun _ _ _ h=>h) (Or.inl ⟨ai,fun wz a5=>?_⟩) o_ ?_;rotate_left
 ·(first|(go_simp;done)|(go_simp;with_reducible rfl))
 try simp only[Act.put,zA,zB,zC,zD,zF]
 refine Yn (i:=1) (v:=_) rfl ah ah ah (fun _ _ _ h=>h) (ylb wS rfl ai rfl rfl (fun n I=>I.1)) o_ ?_
 try simp only[Act.put,zA,zB,zC,zD,zE,zF]
 refine Yn (i:=2) (v:=_) rfl ah ah ah (fun _ _ _ h=>h) (ylb jF rfl ai rfl (Pv.dH Pv.kE) (fun n I=>I.2)) o_ ?_
 try simp only[Act.put,zA,zB,zC,zD,zE,zF]
 refine wpAnyH_ready (rs:=[3]) ah b_ (AllReadyH.cons (o:=_) rfl (fun K j=>?_) AllReadyH.nil)
 (refine jW (ty:=37) (t:=37) (x:=.tmp 0) (y:=.tmp 14) rfl rfl wS rfl rfl (aA D).2.1 rfl rfl (by rw[<-aAD];rfl) ?_;intro w2 s g q;have u:=az (b.1.iq g a_) (b.2.iq g a_);have O:=hide (az s (az g q));clear b s g q)
 refine j.out _ _ ?_ (fun b=>?_);exact u;clear j K
 try simp only[Act.put,zD,zE,zF]
 refine wpAnyH_ready (rs:=[4]) ah b_ (AllReadyH.cons (o:=_) rfl (fun K j=>?_) AllReadyH.nil)
 (refine jW (ty:=40) (t:=40) (x:=.tmp 1) (y:=.tmp 15) rfl rfl jF rfl rfl ((aA D).2.2.1.iq (aA O).2.1 a_) (aA HO).2 (Pv.dH Pv.kE) (Pv.mD _) ?_;intro w3 r f p;have u:=az (b.1.iq f a_) (b.2.iq f a_);have A:=(((aA D).2.2.2.iq (aA O).2.1 a_).iq f a_);have H3:=hide (az r (az f (az p A)));clear b r f p A)
 refine j.out _ _ ?_ (fun b=>?_);exact u;clear j K
 try simp only[Act.put,zD,zE,zF]
 refine wpAnyH_ready (rs:=[5]) ah b_ (AllReadyH.cons (o:=_) rfl (fun K j=>?_) AllReadyH.nil)
 (obtain⟨w4,e4,F,l,H⟩:=(aWf c false).st _ #[G] rfl (aA H3).2.2.2;refine aRw (ty:=4) (x:=.tmp 2) (y:=.const (.bool false)) rfl rfl e4 ?_;have u:=az (b.1.iq l a_) (b.2.iq l a_);have H4:=hide (az F (az l H));clear b F l H e4)
 refine j.out _ _ ?_ (fun b=>?_);exact u;clear j K
 try simp only[Act.put,zD,zE,zF]
 refine wpAnyH_done ah ?_ _;clear b
 go_wp2
 obtain⟨m,zA,zO,zD⟩:=aA D;obtain⟨b2,c2,s2⟩:=aA O;obtain⟨b3,c3,s3,a4⟩:=aA H3;obtain⟨F,l,H⟩:=aA H4;refine⟨rfl,_,rfl,.tuple #[],results_none rfl _ _ _,rfl,rfl,?_,?_,?_,?_⟩;exact ((m.trans' c2 (T:=fun k=>k=Ab) (U:=fun k=>k=Ab\/k=Ob\/k=c) (fun _ _ h=>h.elim) (fun i _ e=>.inl e)).trans' c3 (T:=fun k=>k=Ob) (U:=fun k=>k=Ab\/k=Ob\/k=c) (fun _ _ h=>h) (fun i _ e=>.inr (.inl e))).trans' l (T:=fun k=>k=c) (U:=fun k=>k=Ab\/k=Ob\/k=c) (fun _ _ h=>h) (fun i _ e=>.inr (.inr e));exact (b2.iq c3 B).iq l C;exact b3.iq l z;exact F
theorem catch_idle(x y z:ag)(w:ae) :
  CallsD prog 44 #[x,y,z] .returning w fun e c b=>e=.returned (.tuple #[])/\c=.returning/\w=b:=by
 refine callsD_of_wpS func44 rfl fun a f d=>?_;simp only[ntmps44,Yx,zl,Yg,aAL,aAM,aAN,aAO,aAP,aAQ,Ha,yz];apply wpS_seq;apply wpS_region;simp[wpOpsS,go_sem,recoverD,d,Exit.thenS];refine wpS_of_wp ?_
 go_wp2
 exact⟨rfl,.returning,by cases a;simp_all,.tuple #[],results_none rfl _ _ _,rfl,rfl,rfl⟩
end
def lV(w:ae)(a:ag):ae:=((((w.alloc (.cells #[a] 32)).alloc (.cells #[.int .i64 0,.int .i64 0,.int .i64 0,.string { data:=#[] }] 37)).alloc (.cells (Pv.mr Pv.ni) 40)).alloc (.cells #[.bool false] 4)).alloc (.cells #[.int .i64 0] 3)
theorem aHi(w:ae)(a:ag)(b:List qj)(hl:Reads w 2 a b.length (logCells b)) :
  Ext w (lV w a)/\(lV w a).heap.size=w.heap.size+5 /\
  ut (w.heap.size+1+1+1+1) w.heap.size a b 0 (fun k=>k=w.heap.size+1\/k=w.heap.size+1+1\/k=w.heap.size+1+1+1) (lV w a) /\
  f_ (lV w a) (w.heap.size+1) 37 #[.int .i64 0,.int .i64 0,.int .i64 0,.string { data:=#[] }] /\
  f_ (lV w a) (w.heap.size+1+1) 40 (Pv.mr Pv.ni)/\f_ (lV w a) (w.heap.size+1+1+1) 4 #[.bool false]:=by
 have d:=fun k (c:0<b.length) e=>hl.Cj a_ c k e
 have g:Ext w (lV w a):=by
  unfold lV
  all_goals exact DL
 refine⟨g,by simp[lV],⟨?_,?_,hl.ext g,a_,?_,a_,?_⟩,?_,?_,?_⟩;exact f_.new' _ _ _ b_;exact ((((f_.new w 32 #[a]).alloc _).alloc _).alloc _).alloc _;intro c e;have:=d _ c e;omega;rintro k e;refine⟨by simp[lV];omega,a_,a_,fun c f=>?_⟩;have:=d _ c f;omega;exact (((f_.new' _ _ _ b_).alloc _).alloc _).alloc _;exact ((f_.new' _ _ _ b_).alloc _).alloc _;exact (f_.new' _ _ _ b_).alloc _
theorem aEj(a:kw)(w:ae)(Ab Ob f:Nat)(j i h g d:ag)(c:kw)(k:c.size=55)(h4:a[4]?.getD bz=.pointer (some ⟨Ab,0,none⟩))(h5:a[5]?.getD bz=.pointer (some ⟨Ob,0,none⟩))(h6:a[6]?.getD bz=.pointer (some ⟨f,0,none⟩))
  (n:f_ w Ab 37 #[j,i,h,g]) (l:f_ w Ob 40 c) (m:f_ w f 4 #[d]) :
  (results Tryz.f28 a).run prog w=.ok (.tuple #[.agg #[j,i,h,g],.agg c,d]) w:=by
 have e:=jB n wS rfl;have p:=jB l jF k;have b:=m.cell 0;simp only[Zd,Yv] at b;have o:(loadVar 4 ⟨f,0,none⟩).run prog w=.ok d w:=by simp[go_sem,b]
 simp[results,results28,h4,h5,h6,asAddr,e,p,o]
theorem JC (G:Nat) (pc:kw) (X:ag) (d:List qj) (p:aj Pv.kz) (T:qo) (w:ae) (hl:Reads w 2 X d.length (logCells d)) (hG:∀ (args:kw) (w:ae),(YR G args).run prog w=.ok (.enter G args) w)
    (hp : ∀ j,Ext w j->j.heap.size=w.heap.size+5->ut (w.heap.size+1+1+1+1) w.heap.size X d 0 (fun k=>k=w.heap.size+1\/k=w.heap.size+1+1\/k=w.heap.size+1+1+1) j ->
      mf prog G (#[.func (.func 43) #[] #[.pointer (some ⟨w.heap.size+1+1+1+1,0,none⟩),.pointer (some ⟨w.heap.size,0,none⟩)]]++pc) j fun e S=>gu (fun k=>k=w.heap.size+1+1+1+1\/(T k/\k<w.heap.size)) j S /\
        ((∃ a i,p.run (replay d) 0=.ok a i/\Pv.uj a/\e=.returned (.agg (Pv.mr a)))\/∃ c i b,p.run (replay d) 0=.error c i/\Pv.Y4 b/\e=.panicked ({ v:=pending c,recovered:=false }::b))) :
    mf prog 28 #[.func (.func G) #[] pc,X] w fun e w'=>gu T w w' /\
      (
       (∃ a i,p.run (replay d) 0=.ok a i/\Pv.uj a/\e=.returned (.tuple #[.agg #[.int .i64 0,.int .i64 0,.int .i64 0,.string aG],.agg (Pv.mr a),.bool true])) \/
       ∃ c i,p.run (replay d) 0=.error c i/\e=.returned (.tuple #[c.v,.agg (Pv.mr Pv.ni),.bool false])):=by
  have a6:∀ (fn:Fn) (first cap:kw) (w:ae),(Instr.makeFunc fn first cap).run prog w=.ok (.func fn first cap) w:=fun _ _ _ _=>rfl;have HP:=hide hp;have HL:=hide hl;obtain⟨_,B,c,rfl,a1,a2,_⟩:=hl;clear hp a1 a2
  go_enter_defers func28,ntmps28
  go_wp2_with fail
  obtain⟨N,l,hI,z,r,u⟩:=aHi w (.slice B d.length c) d (aA HL);refine (aA HP (lV w (.slice B d.length c)) N l hI).mono ?_;rintro e j ⟨A,hq⟩
  have W:¬(w.heap.size+1=w.heap.size+1+1+1+1\/(T (w.heap.size+1)/\w.heap.size+1<w.heap.size)):=by rintro (h|⟨_,h⟩)<;>omega
  have U:¬(w.heap.size+1+1=w.heap.size+1+1+1+1\/(T (w.heap.size+1+1)/\w.heap.size+1+1<w.heap.size)):=by rintro (h|⟨_,h⟩)<;>omega
  have V:¬(w.heap.size+1+1+1=w.heap.size+1+1+1+1\/(T (w.heap.size+1+1+1)/\w.heap.size+1+1+1<w.heap.size)):=by rintro (h|⟨_,h⟩)<;>omega
  have P:=z.iq A W;have L:=r.iq A U;have O:=u.iq A V;have K:Hid (gu T w j):=hide (N.trans' A (fun _ _ h=>h.elim) (fun i hi e=>by rcases e with e|e;omega;exact e.1));rcases hq with⟨o,s,E,n,rfl⟩|⟨a,s,b,E,a0,rfl⟩
  ·
    have Q:=hide (az E n);have HA:=hide P;have HO:=hide L;have HD:=hide O;have F:=Pv.dH n;have m:=Pv.mD o;clear E A N l hI z r u HP W U V P L O n;generalize Z:Pv.mr o=oc at *;have e1:¬w.heap.size+1=w.heap.size+1+1:=a_;have e2:¬w.heap.size+1=w.heap.size+1+1+1:=a_;have e3:¬w.heap.size+1+1=w.heap.size+1:=a_;have e4:¬w.heap.size+1+1=w.heap.size+1+1+1:=a_;have e5:¬w.heap.size+1+1+1=w.heap.size+1:=a_;have e6:¬w.heap.size+1+1+1=w.heap.size+1+1:=a_
    go_wp2_with (first
      |(refine aV (ty:=37) (t:=37) (x:=.tmp 4) (y:=.tmp 11) rfl rfl wS rfl rfl (aA HA) rfl rfl (by rw[<-aAD];rfl) ?_;intro S J H D;have H2:=hide (az J (az H D));clear J H D)
      |(refine aV (ty:=40) (t:=40) (x:=.tmp 5) (y:=.tmp 14) rfl rfl jF rfl rfl ((aA HO).iq (aA H2).2.1 e3) (Pv.dH Pv.kE) F m ?_;intro w3 I q C;have g:=((aA HD).iq (aA H2).2.1 e5).iq q e6;have d1:=g.cell 0;have f1:=g.frozen;have l1:=g.lt;simp only[Zd,Yv] at d1;have H3:=hide (az I (az q (az C g)));clear I q C g))
    obtain⟨b2,c2,s2⟩:=aA H2;obtain⟨b3,c3,s3,g⟩:=aA H3;refine leaves_cons (f:=44) (args:=#[.pointer (some ⟨w.heap.size+1,0,none⟩),.pointer (some ⟨w.heap.size+1+1,0,none⟩),.pointer (some ⟨w.heap.size+1+1+1,0,none⟩)]) b_ (by simp[go_sem]) ?_;refine (catch_idle _ _ _ _).mono ?_;rintro e u' w4 ⟨rfl,rfl,rfl⟩;refine⟨_,aEj _ _ (w.heap.size+1) (w.heap.size+1+1) (w.heap.size+1+1+1) (.int .i64 0) (.int .i64 0) (.int .i64 0) (.string { data:=#[] }) (.bool true) oc F rfl rfl rfl ((b2.iq c3 e1).far (p:=⟨w.heap.size+1+1+1,0,none⟩) e2 _) (b3.far (p:=⟨w.heap.size+1+1+1,0,none⟩) e4 _) (g.BH 0 _),?_,?_⟩;exact (((aA K).trans' c2 (fun _ _ h=>h) (fun i hi e=>a_)).trans' c3 (fun _ _ h=>h) (fun i hi e=>a_)).setCell (.inr (show w.heap.size<=w.heap.size+1+1+1 by omega)) _;exact .inl ⟨o,s,(aA Q).1,(aA Q).2,by rw[Z];rfl⟩
  ·
    have Q:=hide E;have HA:=hide P;have HO:=hide L;have HD:=hide O;clear E A N l hI z r u HP W U V P L O
    go_wp2
    refine leaves_cons (f:=44) (args:=#[.pointer (some ⟨w.heap.size+1,0,none⟩),.pointer (some ⟨w.heap.size+1+1,0,none⟩),.pointer (some ⟨w.heap.size+1+1+1,0,none⟩)]) b_ (by simp[go_sem]) ?_;refine (catch_panicking _ _ _ a _ _ _ _ _ _ b _ (Pv.dH Pv.kE) (aA HA) (aA HO) (aA HD) a_ a_ a_).mono ?_;rintro e u' S ⟨rfl,rfl,hc,a5,a3,a4⟩;have Y:settle (.panicking ({ v:=pending a,recovered:=true }::b))=.returning:=Pv.aAz a0;show Leaves _ _ _ _ _ (settle _) _;rw[Y];refine⟨_,aEj _ _ _ _ _ _ _ _ _ _ _ (Pv.dH Pv.kE) rfl rfl rfl a5 a3 a4,?_,?_⟩;rotate_left 1;exact .inr ⟨a,s,aA Q,rfl⟩
    · exact (aA K).trans' hc (fun _ _ h=>h) (fun i hi e=>by rcases e with e|e|e<;>omega)
namespace Pv
def Bq(a:List qj):jc->Option qj:=fun l=>match l.length with
 |0=>none|n+1=>a[n]?
theorem aAe(a:List qj)(l:jc)(c:Acc):Bq a (l++[c])=a[l.length]?:=by unfold Bq;rw[gp];rfl
theorem aEr{b:List qj}{a:Acc}{i:Nat}{r:qj}(h:b[i]?=some r):replay b a i=.ok r (i+1):=by unfold replay;rw[h]
theorem aEs{b:List qj}{a:Acc}{i:Nat}(h:b[i]?=none):replay b a i=.error a i:=by unfold replay;rw[h]
theorem bGl{w:Type}(b:List qj)(p:aj w):∀ l:jc,l.length<=b.length ->
  ((go (Bq b) p l).2.length<=b.length->p.run (replay b) l.length=.ok (go (Bq b) p l).1 (go (Bq b) p l).2.length) /\
  (∀ g c,g++[c] <+: (go (Bq b) p l).2->l <+: g->g.length=b.length->p.run (replay b) l.length=.error c b.length):=by
 induction p with
 |ret a=>refine fun l z=>⟨fun _=>rfl,fun g c i o n=>?_⟩;have m:=i.length_le;have u:=o.length_le;rw[gp,ZV] at m;have C:(go (Bq b) (aj.ret a) l).2=l:=rfl;rw[C] at m;omega| ask a k x=>
  intro l z;rw[xM];have d:=vO (Bq b) (k (ans (Bq b) (l++[a]))) (l++[a]);have f:(l++[a]).length=l.length+1:=b_;cases j:b[l.length]? with
  | some r=>
   have y:l.length<b.length:=(List.getElem?_eq_some_iff.1 j).1;have B:ans (Bq b) (l++[a])=r:=by unfold ans;rw[aAe,j];rfl
   rw[B] at d ⊢;obtain⟨t,s⟩:=x r (l++[a]) a_;rw[f] at t s;have e:(aj.ask a k).run (replay b) l.length=(k r).run (replay b) (l.length+1):=by simp only[aj.run,aEr j]
   rw[e];refine⟨t,fun g c i o n=>s g c i ?_ n⟩;exact aGg d ((List.prefix_append g [c]).trans i) (by rw[f];omega)
  | none=>
   have A:b.length<=l.length:=List.getElem?_eq_none_iff.1 j;have e:(aj.ask a k).run (replay b) l.length=.error a l.length:=by simp only[aj.run,aEs j]
   refine⟨fun h=>?_,fun g c i o n=>?_⟩;have:=d.length_le;rw[f] at this;omega;have q:g=l:=(o.eq_of_length a_).symm;subst q;have:=aGg i d b_;have m:=this.eq_of_length b_;have u:c=a:=by simpa using m
   rw[e,u,n]
def VT(A L:Nat)(lv:ag)(log:List qj):Dv where
 hd:=.func (.func 43) #[] #[.pointer (some ⟨A,0,none⟩),.pointer (some ⟨L,0,none⟩)]
 O:=Bq log
 S:=fun k=>k=A
 inv:=fun l X w=>ut A L lv log l.length X w
 pan:=fun l _ _ chain=>∃ l' c,l=l'++[c]/\l'.length<=log.length/\∃ older,Y4 older/\chain={ v:=pending c,recovered:=false }::older
 one:=rfl
 yc:=rfl
 notS:=fun _ _ _ b h hb=>(h.mine b hb).2.1
 grow:=fun l X Y w w' h hc hY=>by
  have h':=h.iq hc
  refine⟨h'.at_,h'.Eh,h'.reads,h'.ne,h'.own,h'.le,fun k hk=>?_⟩
  rcases hY k hk with hx|⟨h1,h2⟩;exact h'.mine k hx;have h3:=lt_of_heap h.at_;have h4:=lt_of_heap h.Eh
  refine⟨h2,a_,a_,fun hn hk'=>?_⟩
  have:=h.reads.Cj a_ hn k hk';omega
theorem bDe(A L:Nat)(d:ag)(a:List qj):∀ {dn:jc->Prop},oz prog (VT A L d a) dn:=⟨fun l X w h=>by
 refine⟨_,_,rfl,(fun args w=>ah),fun c _ _=>?_⟩;refine (VQ A L d a c l.length X w h _ rfl).mono ?_;intro e k i;cases b:a[l.length]? with
 |some r=>obtain⟨g,j,f⟩:=i.aDF (aEr b);refine⟨f,.inl ⟨r,?_,g,?_⟩⟩;exact (aAe a l c).trans b;show ut A L d a (l++[c]).length X k;rw[gp];exact j
 |none=>
  obtain⟨g,j,f⟩:=i.Vu (aEs b)
  exact⟨f,.inr ⟨_,(aAe a l c).trans b,g,l,c,rfl,h.le,[],(fun _ h=>by cases h),rfl⟩⟩,fun T m=>absurd m.1 (by intro h;cases h)⟩
end Pv
section
namespace Pv
theorem bDc(A L:Nat)(h:ag)(d:List qj):Fa (VT A L h d):=by rintro l X w g ⟨i,c,rfl,j,a,b,rfl⟩;refine⟨UU,c.v,a,rfl,b,.inl rfl,i,c,rfl,j,{ v:=pending c,recovered:=true }::a,fun e f=>?_,rfl⟩;rcases List.mem_cons.1 f with rfl|f;rfl;exact b e f
def bJu(a:List qj):Prop:=∀ r∈a,r.bytes.size<=1000000
theorem Wh{a:List qj}(h:bJu a):OB (Bq a):=by intro l r b;unfold Bq at b;split at b;cases b;exact h r (ZO b)
def UY(q:EStateM.Result Acc Nat kz):kw:=match q with
 |.ok a _=>#[.agg #[.int .i64 0,.int .i64 0,.int .i64 0,.string aG],.agg (mr a),.bool true]|.error c _=>#[c.v,.agg (mr ni),.bool false]
def Ov(q:EStateM.Result Acc Nat kz):Prop:=match q with
 |.ok a _=>uj a|.error _ _=>True
end Pv
open Pv in
theorem J_(m:jy)(N:vk m)(z:Af m)(d:List qj)(q:bJu d)(o:ag)(g:Nat)(w:ae)(D:af w)(Q:Zj<g/\Zi<g)(hl:Reads w 2 o d.length (logCells d))(A:0<d.length->o.ownBlock≠some g)(J:f_ w g 31 (opC m)) :
  mf prog 28 #[.func (.func 45) #[] #[.pointer (some ⟨g,0,none⟩)],o] w fun e t=>gu (fun k=>k=g) w t/\Ov ((bU m).run (replay d) 0)/\e=.returned (.tuple (UY ((bU m).run (replay d) 0))):=by
 refine (JC 45 #[.pointer (some ⟨g,0,none⟩)] o d (bU m) (fun k=>k=g) w hl (fun args w=>ah) (fun H I K n=>?_)).mono ?_
 ·have X:=J.lt
  have E:ut (w.heap.size+1+1+1+1) w.heap.size o d 0 (fun k=>(k=w.heap.size+1\/k=w.heap.size+1+1\/k=w.heap.size+1+1+1)\/k=g) H:=
   ⟨
    n.at_,n.Eh,n.reads,n.ne,n.own,n.le,fun k B=>by
    rcases B with B|rfl;exact n.mine k B
    exact⟨a_,a_,a_,A⟩⟩
  have s:=bGl d (bU m) [] (xn _);refine (aOk m N z H g (VT (w.heap.size+1+1+1+1) w.heap.size o d) _ (J.ext I) (fun t p=>?_) (fun b C=>?_) (bDe _ _ _ _) (fun _ _ _ _ _ _ h _ _=>h) (bDc _ _ _ _) (Wh q) E (.inr rfl)).mono ?_;have P:=aIc D (.inl rfl);have O:=aIc D (.inr rfl);refine (D.ext I).iq p ?_ ?_;rintro (h|h);have F:Zj=w.heap.size+1+1+1+1:=h;omega;have F:Zj=g:=h;omega;rintro (h|h);have F:Zi=w.heap.size+1+1+1+1:=h;omega;have F:Zi=g:=h;omega;have S:b=w.heap.size+1+1+1+1:=C;omega;rintro e W ⟨p,L⟩;refine⟨p.mono fun b _ C=>by rcases C with h|h;exact .inl h;exact .inr ⟨h,a_⟩,?_⟩;rcases L with⟨j,rfl,r⟩|⟨G,l,rfl,V,U,u,c,rfl,Y,f,y,rfl⟩;exact .inl ⟨_,_,s.1 r.le,j,rfl⟩;refine .inr ⟨c,_,f,s.2 u c V aCr ?_,y,rfl⟩;have T:d[u.length]?=none:=(aAe d u c).symm.trans U;have:=List.getElem?_eq_none_iff.1 T;omega
 rintro e t ⟨p,⟨a,i,x,j,rfl⟩|⟨c,i,x,rfl⟩⟩;rw[x];exact⟨p,j,rfl⟩;rw[x];exact⟨p,trivial,rfl⟩
theorem aOv{a:kw}{w:ae}{Ab Ob:Nat}{c b:kw}(e:c.size=4)(d:b.size=55)(h4:a.getD 4 bz=.pointer (some ⟨Ab,0,none⟩))(h5:a.getD 5 bz=.pointer (some ⟨Ob,0,none⟩))
  (g:f_ w Ab 37 c) (f:f_ w Ob 40 b) :
  (results Tryz.f10 a).run prog w=.ok (.tuple #[.agg c,.agg b,a.getD 6 bz]) w:=by
 have i:=jB g wS e;have h:=jB f jF d;simp only[Yw] at h4 h5;simp[results,results10,h4,h5,asAddr,i,h]
namespace Pv
def bEy(q:EStateM.Result Acc Nat kz):Acc:=match q with
 |.ok _ _=>⟨0,0,0,aG⟩|.error c _=>c
def Tt(q:EStateM.Result Acc Nat kz):kz:=match q with
 |.ok a _=>a|.error _ _=>ni
def Xy(q:EStateM.Result Acc Nat kz):Bool:=match q with
 |.ok _ _=>true|.error _ _=>false
def Og(a:Acc):kw:=#[.int .i64 a.kind,.int .i64 a.pg,.int .i64 a.cell,.string a.bytes]
theorem KA(q:EStateM.Result Acc Nat kz):UY q=#[.agg (Og (bEy q)),.agg (mr (Tt q)),.bool (Xy q)]:=by cases q<;>rfl
theorem KC{q:EStateM.Result Acc Nat kz}(h:Ov q):uj (Tt q):=by
 cases q with
 |ok a i=>exact h|error c i=>exact kE
end Pv
theorem next_any(m:Pv.jy)(hm:Pv.vk m)(p:Pv.Af m)(a:List qj)(G:Pv.bJu a)(S:ag)(w:ae)(V:af w)(hl:Reads w 2 S a.length (logCells a)) :
  mf prog 10 #[.agg (Pv.opC m),S] w fun e Q=>Ext w Q/\Pv.uj (Pv.Tt ((Pv.bU m).run (replay a) 0))/\e=.returned (.tuple #[.agg (Pv.Og (Pv.bEy ((Pv.bU m).run (replay a) 0))),.agg (Pv.mr (Pv.Tt ((Pv.bU m).run (replay a) 0))),.bool (Pv.Xy ((Pv.bU m).run (replay a) 0))]):=by
 have s:=hide (show (Pv.opC m).size=102 from Pv.sF p);have HR:=hide (fun W=>Kv (Pv.opC m) W)
 have N:Hid (∀ g W,w.heap.size<=g->Ext w W->f_ W g 31 (Pv.opC m)->mf prog 28 #[.func (.func 45) #[] #[.pointer (some ⟨g,0,none⟩)],S] W fun e Q=>gu (fun k=>k=g) W Q/\Pv.uj (Pv.Tt ((Pv.bU m).run (replay a) 0))/\e=.returned (.tuple #[.agg (Pv.Og (Pv.bEy ((Pv.bU m).run (replay a) 0))),.agg (Pv.mr (Pv.Tt ((Pv.bU m).run (replay a) 0))),.bool (Pv.Xy ((Pv.bU m).run (replay a) 0))])):=hide (fun g W hg hE hB=>by
  have a1:=Pv.aIc V (.inl rfl);have a0:=Pv.aIc V (.inr rfl);refine (J_ m hm p a G S g W (V.ext hE) ⟨a_,a_⟩ (hl.ext hE) (fun h0 hk=>?_) hB).mono ?_;have:=hl.Cj a_ h0 _ hk;omega;rintro e Q ⟨h1,h2,rfl⟩
  exact⟨h1,Pv.KC h2,by rw[Pv.KA]⟩)
 obtain⟨q,hq⟩:=lm ((Pv.bU m).run (replay a) 0);rw[hq] at N ⊢;obtain⟨C,n⟩:∃ x,Pv.opC m=x:=⟨_,rfl⟩;rw[n] at s HR N ⊢;obtain⟨oc,f⟩:∃ x,Pv.mr (Pv.Tt q)=x:=⟨_,rfl⟩;obtain⟨ac,j⟩:∃ x,Pv.Og (Pv.bEy q)=x:=⟨_,rfl⟩;have o:ac.size=4:=by rw[<-j];rfl
 have L:ac.all (·.oneCell')=true:=by rw[<-j,<-aAD];rfl
 rw[f,j] at N ⊢;have HO:=hide f;obtain⟨_,B,c,rfl,_,_,_⟩:=hl;clear n V hm p hq f j
 go_enter func10,ntmps10
 go_upto_region 1 with fail
 generalize b:aBA _ (.cells _ 40)=r
 have u:Ext w r:=by
  rw[<-b]
  all_goals exact DL
 have P:f_ r w.heap.size 31 C:=by rw[<-b];exact ((f_.new w _ _).alloc _).alloc _
 have A:f_ r (w.heap.size+1) 37 #[.int .i64 0,.int .i64 0,.int .i64 0,.string { data:=#[] }]:=by rw[<-b];exact (f_.new' _ _ _ b_).alloc _
 have z:f_ r (w.heap.size+1+1) 40 (Pv.mr Pv.ni):=by rw[<-b];exact f_.new' _ _ _ b_
 have O:r.heap.size=w.heap.size+3:=by rw[<-b];simp
 have Z:=hide (az u (az P (az A (az z O))));clear b u P A z O
 go_wp2_with (refine iV (ty:=31) (t:=31) (x:=.tmp 2) rfl rfl Pv.aLc rfl (cs:=C) (aA Z).2.1 (aA s) ?_)
 refine (aA HR r).mono ?_;rintro e w1 ⟨rfl,l,T,D⟩;have H1:=hide (az l (az T D));clear l T D
 go_wp2_with fail
 obtain⟨u,P,A,z,O⟩:=aA Z;obtain⟨l,T,D⟩:=aA H1;refine (aA N r.heap.size w1 a_ (u.trans l) D).mono ?_;rintro e Y ⟨U,d,rfl⟩;have X:=hide (show Ext w Y/\f_ Y (w.heap.size+1) 37 #[.int .i64 0,.int .i64 0,.int .i64 0,.string { data:=#[] }]/\f_ Y (w.heap.size+1+1) 40 (Pv.mr Pv.ni)/\Pv.uj (Pv.Tt q) from⟨(u.trans l).trans' U (fun _ _ h=>h) (fun i hi e=>a_),(A.ext l).iq U a_,(z.ext l).iq U a_,d⟩);clear u P A z O l T D U d Z H1 N HR s
 go_wp2_with (first
  |(refine aV (ty:=37) (t:=37) (x:=.tmp 4) (y:=.tmp 11) rfl rfl wS rfl rfl (aA X).2.1 rfl o L ?_;intro w3 K I F;have H3:=hide (az K (az I F));clear K I F)
  |(refine aV (ty:=40) (t:=40) (x:=.tmp 5) (y:=.tmp 12) rfl rfl jF rfl rfl ((aA X).2.2.1.iq (aA H3).2.1 a_) (Pv.dH Pv.kE) (by rw[<-aA HO];exact Pv.dH (aA X).2.2.2) (by rw[<-aA HO];exact Pv.mD _) ?_;intro w4 J H E;have H4:=hide (az J (az H E));clear J H E))
 obtain⟨x1,_,_,d⟩:=aA X;obtain⟨b3,c3,s3⟩:=aA H3;obtain⟨b4,c4,s4⟩:=aA H4;have f:=aA HO;refine ZJ (aOv o (by rw[<-f];exact Pv.dH d) rfl rfl (b3.iq c4 a_) b4) rfl ⟨?_,d,rfl⟩;exact (x1.trans' c3 (fun _ _ h=>h) (fun i hi e=>a_)).trans' c4 (fun _ _ h=>h) (fun i hi e=>a_)
end
namespace Pv
theorem Td(C:Ctx)(a:Acc):RL C (uD a) (Og a).toList:=.cons (xs:=[_]) (.lit rfl) (.cons (xs:=[_]) (.lit rfl) (.cons (xs:=[_]) (.lit rfl) (.cons (xs:=[_]) (.lit rfl) .nil)))
def W_(q:EStateM.Result Acc Nat kz):PV:=.og [.agg (uD (bEy q)),.agg (j_ (Tt q)),.one (.lit (.bool (Xy q)))]
def KD:jl->Option (Prop×PV)
 |[.w (.agg ol),.w (.one b)]=>match bJd ol,VU b with
  |some m,some (p,a)=>some (p/\vk m/\bJu a,W_ ((bU m).run (replay a) 0))|_,_=>none
 |_=>none
theorem bEx:d_ prog af 10 (aU true KD):=by
 refine aT (aB func10 ah rfl) (fun B p r b q w n j s o=>?_);unfold KD at b;split at b;rename_i E F;split at b;rename_i m D d y A;cases b;obtain⟨l,c,k⟩:=q
 match j,o with
 | [v1,v2],⟨k1,k2,_⟩=>
  cases k1 with
  | w k1=>cases k1 with
   | @agg _ c1 k1=>
    cases k2 with
    | w k2=>cases k2 with
     |one k2=>
      rw[aMm y] at k1;obtain⟨u,g,h⟩:=aWb k1;have z:c1=opC m:=GM u;subst z;refine (next_any m c ⟨c.root,g,c.link,c.ot,c.xt,h⟩ d k v2 w s (QF A l k2)).mono ?_;rintro e C ⟨t,f,rfl⟩;refine⟨_,rfl,t,.og rfl (fun i x a=>?_)⟩
      match i,a with
      |0,a=>cases a;exact⟨_,rfl,.agg (Td _ _)⟩|1,a=>cases a;exact⟨_,rfl,.agg (bEm _ f)⟩|2,a=>cases a;exact⟨_,rfl,.one (.lit rfl)⟩|i+3,a=>cases a
 cases b;cases b
def C9(k:Nat):dh:=UInt8.ofNat k::PR 15 0
def Cb(k:Nat):dh:=C9 (k+1)
def bT(k:Nat):dh:=100::UInt8.ofNat k::PR 14 0
def BG(k:Nat)(a:Int):jy:=⟨a,bT k,Cb k,C9 7,aG,AO,0,AO,0,0,aG,AO⟩
theorem Wy(k:Nat)(e:k<=2):fF prog af 26 true [iy k] (.w (.agg [.bs 16 (Cb k)])):=by
 have d:k=0\/k=1\/k=2:=a_;rcases d with rfl|rfl|rfl;have M:=Gf (I:=af);refine bD func26 rfl rfl bJ (fun A b a c=>?_);refine bY ?_ ?_;simp
 decide;exact mP;have M:=Gf (I:=af);refine bD func26 rfl rfl bJ (fun A b a c=>?_);refine bY ?_ ?_;simp;decide;exact mP;have M:=Gf (I:=af);refine bD func26 rfl rfl bJ (fun A b a c=>?_);refine bY ?_ ?_;simp;decide;exact mP
def idG:jl->Option (Prop×PV)
 |[.w (.one (.lit (.int .i64 k)))]=>some (0<=k/\k<=2,.w (.agg [.bs 16 (Cb k.toNat)]))|_=>none
theorem bGg:d_ prog af 26 (aU true idG):=by refine aT (aB func26 ah rfl) (fun b p r a c=>?_);unfold idG at a;split at a;rename_i k;cases a;obtain⟨n,rfl⟩:∃ n:Nat,k=(n:Int):=⟨k.toNat,a_⟩;exact Wy n a_;cases a
def aLS:List (Nat×Spec):=[(26,aU true idG)]
theorem Vl:jq prog af (find aLS):=⟨bG (fun p a=>by
 obtain rfl:=List.mem_singleton.1 a
 exact bGg),dV⟩
theorem Qe(k:Nat)(f:k<=2)(a:Int):fF prog af 14 true [iy k,iy a] (.w (.agg (Ad (BG k a)))):=by
 have e:k=0\/k=1\/k=2:=a_;rcases e with rfl|rfl|rfl
 ·have M:=Vl;refine bD func14 rfl rfl bJ (fun A c b d=>?_);refine bY ?_ ?_
  ·simp
   try decide
  exact mP
 ·have M:=Vl;refine bD func14 rfl rfl bJ (fun A c b d=>?_);refine bY ?_ ?_
  ·simp
   try decide
  exact mP
 ·have M:=Vl;refine bD func14 rfl rfl bJ (fun A c b d=>?_);refine bY ?_ ?_
  ·simp
   try decide
  exact mP
def G6:jl->Option (Prop×PV)
 |[.w (.one (.lit (.int .i64 k))),.w (.one (.lit (.int .i64 kind)))]=>some (0<=k/\k<=2,.w (.agg (Ad (BG k.toNat kind))))|_=>none
theorem aDb:d_ prog af 14 (aU true G6):=by refine aT (aB func14 ah rfl) (fun c p r b d=>?_);unfold G6 at b;split at b;rename_i k a;cases b;obtain⟨n,rfl⟩:∃ n:Nat,k=(n:Int):=⟨k.toNat,a_⟩;exact Qe n a_ a;cases b
def VS:List (Nat×Spec):=[(15,aU false Zy)]
theorem VR:jq prog af (find VS):=⟨bG (fun p a=>by
 obtain rfl:=List.mem_singleton.1 a
 exact aAa),dV⟩
def bDd(q:Option kz×jd×Nat):PV:=.og [.agg (p_ q.2.1),.agg (j_ (aP q.1))]
def WY(q:Option kz×jd×Nat):St:=⟨[(4,none,dm (.pt 2 0 0)),(5,none,dm (.pt 3 0 0)),(6,none,dm (.pt 1008 0 0)),(7,none,dm (.pt 1009 0 0))],
 [(2,none,0,.box 65 [.lit (.slice none 0 0),.lit (.slice none 0 0),.bs 16 (PR 16 0)]),(3,none,0,.box 40 (j_ ni)),(1008,none,0,.box 65 (p_ q.2.1)),(1009,none,0,.box 40 (j_ (aP q.1)))]⟩
theorem LQ(h:jd)(m:jy)(hd:qc h)(c:vk m):fF prog af 20 false [.w (.agg (p_ h)),.w (.agg (Ad m))] (bDd (cZ [] (bU m) h 0)):=by
 have M:=VR;refine bD func20 rfl rfl bJ (fun A g d i=>?_);obtain⟨q,a⟩:=lm (cZ [] (bU m) h 0);rw[a];refine bY ?_ ?_;simp;exact⟨hd,c⟩;refine bM (WY q) ?_ ?_ ?_;exact jg;have e:(⟨bW h.b.length (dK h.b),iG h.f.length (uo h.f),h.r⟩:jd)=h:=by rw[aJ,aZ]
 refine .cb (.cb (.cons (.box ?_) (.cons (.box ?_) .nil)));rw[<-a];change p_ (cZ [] (bU m) (⟨bW h.b.length (dK h.b),iG h.f.length (uo h.f),h.r⟩:jd) 0).2.1=_;rw[e];rw[<-a];change j_ (aP (cZ [] (bU m) (⟨bW h.b.length (dK h.b),iG h.f.length (uo h.f),h.r⟩:jd) 0).1)=_;rw[e];refine aN ?_;exact mP
def aTi:jl->Option (Prop×PV)
 |[.w (.agg a),.w (.agg ol)]=>match BX a,bJd ol with
  |some (p,h),some m=>some (p/\qc h/\vk m,bDd (cZ [] (bU m) h 0))|_,_=>none
 |_=>none
theorem bFr:d_ prog af 20 (aU false aTi):=by
 refine aT (aB func20 ah rfl) (fun q p r a g=>?_);unfold aTi at a;split at a;rename_i u t;split at a;rename_i s h m o n;cases a;obtain⟨e,d,c⟩:=g;rw[aMm n]
 exact (LQ h m d c).args fun C b f=>by
  match b,f with
  | [x,y],⟨l,k,_⟩=>
   refine⟨?_,k,trivial⟩;cases l with
   |w j=>cases j with
    |agg i=>exact .w (.agg (yJ o e i))
 cases a;cases a
structure EvS where
 dev:Int
 kind:Int
 replay:Int
 msg:Int
 cut:Int
 qg:Bool
def PE(e:EvS):dw:=[.lit (.int .u8 e.dev),.lit (.int .u8 e.kind),.lit (.int .u8 e.replay),.lit (.int .u8 e.msg),.lit (.int .u8 e.cut),.lit (.bool e.qg)]
structure vw(e:EvS):Prop where
 dev:0<=e.dev/\e.dev<256
 kind:0<=e.kind/\e.kind<256
 replay:0<=e.replay/\e.replay<256
 msg:0<=e.msg/\e.msg<256
 cut:0<=e.cut/\e.cut<256
def Tn(e:EvS)(i:Nat):pq:=if 0<e.cut/\(i:Int)=e.cut-1 then⟨true,e.replay,e.qg⟩ else⟨false,0,e.qg⟩
def mG(e:EvS):List pq:=(AC 250).map (Tn e)
def tZ(e:EvS)(k:Nat):List pq:=(AC 250).map fun i=>if i<k then Tn e i else AA
theorem aCl(e:EvS)(k:Nat):(tZ e k).length=250:=by simp[tZ]
theorem aXa(e:EvS)(k i:Nat)(h:i<250):(tZ e k).getD i AA=if i<k then Tn e i else AA:=by unfold tZ;rw[zG,XN,Zb h];rfl
theorem aGf(e:EvS)(k i:Nat):(tZ e k)[i]?=if i<250 then some (if i<k then Tn e i else AA) else none:=by unfold tZ;rw[XN];by_cases h:i<250;rw[Zb h,au h];rfl;rw[YQ jr,ay h];rfl
theorem aJe(e:EvS){k:Nat}(b:k<250):(tZ e k).set k (Tn e k)=tZ e (k+1):=by apply YZ;intro i;rw[List.getElem?_set,aGf,aGf,aCl];by_cases h:k=i;subst h;rw[au rfl,au b,au b,au a_];rw[ay h];by_cases a:i<250;rw[au a,au a];by_cases c:i<k;rw[au c,au a_];rw[ay c,ay a_];rw[ay a,ay a]
theorem bHk(e:EvS):tZ e 250=mG e:=by apply YZ;intro i;rw[aGf];unfold mG;rw[XN];by_cases h:i<250;rw[Zb h,au h,au h];rfl;rw[YQ jr,ay h];rfl
def aEM(e:EvS)(F:List pq):Wr:=[(0,none,0,.box 46 (PE e)),(1000,none,0,.arr 104 3 250 (yg F))]
def aEL(k:Nat):List (Nat×mi×PV):=[(1,none,dm (.pt 0 0 0)),(3,none,dm (.ow 1000 0 3 0 250)),(4,none,iy k)]
def FO(e:EvS)(F:List pq)(k:Nat):St:=⟨aEL k,aEM e F⟩
theorem oV{F:List pq}{k i:Nat}(t:pq)(h:¬i=k):(F.set k t).getD i AA=F.getD i AA:=by rw[zG,List.getElem?_set_ne (fun e=>h e.symm),<-zG]
theorem lU{F:List pq}{k:Nat}(t:pq)(h:k<F.length):(F.set k t).getD k AA=t:=by rw[zG,List.getElem?_set_self h];rfl
theorem SH(e:EvS)(x:vw e):fF prog af 16 true [.w (.agg (PE e))] (dm (.sl 3 250 (yg (mG e)))):=by
 have M:=WX;have B:prog.types[104].size=3:=ah;refine bD func16 rfl rfl bJ (fun A H C F=>?_);have s:prog.types[104].bytes=24:=ah;refine bY ?_ ?_;simp;rw[s];omega;refine lM ?_;refine bF (s':=FO e (tZ e 0) 0) (fun a w d=>(d.reset (kT:=[1,3,4]) (kO:=[0,1000]) ai (by simp;exact fun i _=>⟨rfl,rfl,rfl⟩)).same ?_ ?_) ?_;exact .cr (.cons ah ((iP _)));refine .cb (.cons (.arr rfl (fun i n=>?_)) .nil);have q:i<250:=n;unfold yg;rw[aXa e 0 i q,ay a_];rfl;refine aS ?_;refine fJ 250 (fun k t=>t=FO e (tZ e k) k) 0 rfl a_ (fun k t E G=>?_);subst E;refine bC (fun m=>?_) (fun m=>?_)
 ·have c:k<250:=by have:=of_decide_eq_true m;omega
  have r:(tZ e k).getD k AA=AA:=by rw[aXa e k k c,ay a_]
  refine jM ?_;refine aS ?_;refine aH ?_ ?_;simp;omega;have o:k<(tZ e k).length:=by rw[aCl];exact c
  refine bF (s':=FO e ((tZ e k).set k ⟨false,0,e.qg⟩) k) (fun a w d=>(d.reset (kT:=[1,3,4]) (kO:=[0,1000]) ai (by simp;exact fun i _=>by split<;>simp[yg,oK,aY,PW.cells])).same ?_ ?_) ?_
  exact jg;refine .cb (.cons (.arr rfl (fun i n=>?_)) .nil);change (if i=0+(k:Int).toNat then _ else _)=_;rw[WF,ik];split;rename_i h;subst h;unfold yg oK;rw[lU _ o,r];rfl;rename_i h;unfold yg;simp only[oV _ h];refine aN ?_;obtain⟨b,f⟩:=lm ((bif decide (e.cut > 0) then (k:Int)==IntKind.wrap .i64 (IntKind.wrap .i64 e.cut-1) else false));refine bF (s':=⟨(28,none,rf b)::aEL k,aEM e ((tZ e k).set k ⟨false,0,e.qg⟩)⟩) (fun a w d=>(d.reset (kT:=[28,1,3,4]) (kO:=[0,1000]) ai (by simp;exact fun i _=>by simp[yg,oK,aY])).same ?_ ?_) ?_;exact .cons (congrArg rf f) ((iP _));exact BR;have y:=x.cut;have p:IntKind.wrap .i64 (IntKind.wrap .i64 e.cut-1)=e.cut-1:=by rw[TC,TC];omega
  rw[p] at f;have g:k<((tZ e k).set k (⟨false,0,e.qg⟩:pq)).length:=by rw[Yb];exact o
  refine dU (fun m=>?_) (fun m=>?_)
  ·have l:0<e.cut/\(k:Int)=e.cut-1:=by
    rw[m] at f;cases u:decide (e.cut > 0) with
    |false=>rw[u] at f;cases f|true=>rw[u] at f;exact⟨of_decide_eq_true u,by simpa using f⟩
   have j:Tn e k=⟨true,e.replay,e.qg⟩:=au l;refine aH ?_ ?_;simp;omega
   refine bF (s':=FO e (((tZ e k).set k ⟨false,0,e.qg⟩).set k ⟨true,0,e.qg⟩) k) (fun a w d=>(d.reset (kT:=[1,3,4]) (kO:=[0,1000]) ai (by simp;exact fun i _=>by split<;>simp[yg,oK,aY,PW.cells])).same ?_ ?_) ?_
   exact jg;refine .cb (.cons (.arr rfl (fun i n=>?_)) .nil);change (if i=0+(k:Int).toNat then _ else _)=_;rw[WF,ik];split;rename_i h;subst h;unfold yg oK;rw[lU _ g,lU _ o];rfl;rename_i h;unfold yg;simp only[oV _ h];have D:k<(((tZ e k).set k (⟨false,0,e.qg⟩:pq)).set k (⟨true,0,e.qg⟩:pq)).length:=by rw[Yb];exact g
   refine aX M F C (ai) ah ?_ ?_;simp;omega;change jw _ _ _ _ _;refine fP ?_;intro a w d
   refine⟨k+1,_,a_,a_,rfl,(d.reset (kT:=[1,3,4]) (kO:=[0,1000]) ai (by simp;exact fun i _=>by split<;>simp[yg,oK,aY,PW.cells])).same ?_ ?_⟩
   exact .cr (.cr (.cons (by rw[fH k a_]) .nil));rw[<-aJe e c,j];refine .cb (.cons (.arr rfl (fun i n=>?_)) .nil);change (if i=0+(k:Int).toNat then _ else _)=_;rw[WF,ik];have z:=x.replay;split;rename_i h;subst h;unfold yg oK;rw[lU _ o,lU _ g];have:IntKind.wrap .i64 e.replay=e.replay:=by rw[TC];omega
   rw[this];rfl;rename_i h;unfold yg;rw[oV _ h,oV _ h,oV _ h]
  have l:¬(0<e.cut/\(k:Int)=e.cut-1):=fun h=>by rw[m,rq h.1] at f;rw[h.2] at f;simp at f
  have j:Tn e k=⟨false,0,e.qg⟩:=ay l;refine jD ?_;refine fP ?_;intro a w d;refine⟨k+1,_,a_,a_,rfl,(d.reset (kT:=[1,3,4]) (kO:=[0,1000]) ai (by simp;exact fun i _=>by simp[yg,oK,aY])).same ?_ ?_⟩;exact .cr (.cr (.cons (by rw[fH k a_]) .nil));rw[<-aJe e c,j];exact BR
 have c:k=250:=by have:=of_decide_eq_false m;omega
 subst c;refine dY ?_;change jw _ _ _ _ _;refine aN ?_;refine bI (fun a w d=>⟨.inr rfl,_,?_,d⟩);refine rX (ai) b_ ai ?_;refine .w (.one (.row rfl trivial a_ (fun i n=>?_) (fun i n=>?_)));rw[ik,bHk];rfl
def Si:dw->Option EvS
 |[.lit (.int .u8 a),.lit (.int .u8 b),.lit (.int .u8 c),.lit (.int .u8 d),.lit (.int .u8 x),.lit (.bool n)]=>some ⟨a,b,c,d,x,n⟩|_=>none
theorem SY{l:dw}{e:EvS}(h:Si l=some e):l=PE e:=by unfold Si at h;split at h;cases h;rfl;cases h
def XA:jl->Option (Prop×PV)
 |[.w (.agg l)]=>(match Si l with
  |some e=>some (vw e,dm (.sl 3 250 (yg (mG e))))|none=>none)
 |_=>none
theorem MX:d_ prog af 16 (aU true XA):=by
 refine aT (aB func16 ah rfl) (fun d p r a c=>?_);unfold XA at a;split at a;rename_i l;cases b:Si l with
 |none=>rw[b] at a;cases a|some e=>rw[b] at a;cases a;rw[SY b];exact SH e c
 cases a
theorem bDh(L:List pq):uV L.length (yg L)=L:=by unfold uV yg;apply Z9 b_;intro i b a;simp only[ZU,ZI];rw[zG,zH a];rfl
theorem aLv(e:EvS):(mG e).length=250:=by simp[mG]
section
variable {P:dE} {I:je}
def aRj(P:dE)(I:je)(f:Nat)(t:bi)(l:dw):Prop:=∀ w:ae,I w->mf P f #[] w fun e a=>∃ g c,e=.returned (.pointer (some ⟨g,0,none⟩))/\Ext w a/\w.heap.size<=g/\g<a.heap.size/\f_ a g t c/\RL { w:=a,ok:=fun b=>w.heap.size<=b/\b≠g,env:=fun _=>none } l c.toList
def newSpec(t:bi)(l:dw):Spec:=fun a b=>match b with
 |[]=>.new a (.box t l) fun v=>.ret (dm (.pt a v 0))|_=>.fail
theorem aZm{f:Nat}{t:bi}{l:dw}(j:∀ args w,(YR f args).run P w=.ok (.enter f args) w)(E:aRj P I f t l):d_ P I f (newSpec t l):=by
 refine⟨j,fun A s a w r m B z F h G C n=>?_⟩;unfold newSpec at n;split at n
 match z,C with
 | [],_=>
  refine (E w (G.mem w h.iq)).mono ?_;rintro e u ⟨g,Q,rfl,H,O,N,L,K⟩;have q:∀ b,b<u.heap.size->(w.heap.size<=b/\b≠g)->∀ x i o,zt r m (fresh s m) (iY g) x=some (i,o)->hblk o≠some b:=by intro b p c x i o d k;by_cases y:x=m;subst y;rw[fO] at d;cases d;cases k;exact c.2 rfl;rw[kK y] at d;have:=(h.live x i o b d k).1;have:=c.1;omega
  obtain⟨J,S⟩:=h.new (w':=u) m none (iY g) (.box t l) H (fun b p=>by cases p;exact⟨N,O⟩) (fun D _=>⟨g,Q,rfl,L,K.le ⟨dC _,fun b p c=>⟨⟨.inr (PP h.iq.size c.1),q b p c⟩,rfl⟩,fun _ _ _ h=>by cases h⟩⟩);exact .inl ⟨_,_,_,_,rfl,n,J,.w (.one (.pt ⟨_,_,rfl⟩ ⟨_,_,fO _ _ _ _,dC _,fun _=>⟨_,rfl,rfl⟩⟩))⟩
 exact n.elim
def RQN(P:dE)(A:lh)(fn:Func)(t:bi)(l:dw):Exit->Act->ae->Prop
 |.panic chain,a,w=>a.defers=A.ds/\DW A chain w|e,a,w=>(e=.normal\/e=.ret)/\∃ s x b,(yx P fn.results).run none s=some b/\All b.conds/\b.wr=[]/\b.val=dm (.pt x 0 0)/\Hm x dx=true/\find s.o x=some (none,0,.box t l)/\l.all (aY false)=true/\oq A s a w
theorem Jd(P:dE)(A:lh)(fn:Func)(t:bi)(l:dw):D_ A (RQN P A fn t l):=fun _ _ _ a h=>⟨a,h⟩
theorem bGs{f:Nat}{fn:Func}{c:Code}{t:bi}{l:dw}(hf:P.funcs[f]?=some fn)(hb:fn.body=some c)(hI:∀ w d,Ext w d->I w->I d)
  (hT:∀ A:lh,A.S=Non->A.nt=fn.ntmps->jo P I A->jw P A ⟨[],[]⟩ c (RQN P A fn t l)):aRj P I f t l:=by
 intro w G;have hg:oq (lh.plain w (fun _=>False) fn.ntmps) ⟨[],[]⟩ { tmps:=#[]++IR (fn.ntmps-0) bz,defers:=[] } w:=by refine⟨fun _=>none,{ iq:=gu.refl _ _,size:=?_,dom:=fun x _=>rfl,jv:=fun x g k o h=>(by cases h),live:=fun x k N b h=>(by cases h),inj:=fun x y v1 Q v2 h2 b h=>(by cases h),tmps:=fun t g pv h a0=>(by cases h),defers:=rfl,und:=fun t pv h=>(by cases h),n_:=fun x N h=>(by cases h),dev:=fun g k O dn l h=>(by cases h) }⟩;simp[lh.plain]
 refine calls_of_wp hf hb (wp_mono (hT (lh.plain w (fun _=>False) fn.ntmps) rfl rfl (jo.plain fun d hc=>hI w d hc G) _ w hg (Jd _ _ _ _ _)) (fun e J d L=>?_))
 have E:(e=.normal\/e=.ret)/\∃ s x a,(yx P fn.results).run none s=some a/\All a.conds/\a.wr=[]/\a.val=dm (.pt x 0 0)/\Hm x dx=true/\find s.o x=some (none,0,.box t l)/\l.all (aY false)=true/\oq (lh.plain w (fun _=>False) fn.ntmps) s J d:=by
  cases e with
  |panic chain=>obtain⟨_,l,z,_⟩:=L;exact z.elim
  |_=>exact L
 obtain⟨Q,s,x,a,Z,Y,X,W,kx,V,U,H,q⟩:=E;have i:(yx P fn.results).ok none s (fun _ K wr=>K=dm (.pt x 0 0)/\wr=[]):=M.y8 _ none s a _ Z (fun p hp=>Y.mem p hp) ⟨W,X⟩;obtain⟨K,C,h5,r,h7,_⟩:=rY q i;subst h7;obtain⟨N,j,D⟩:=q.jv x none 0 _ V;obtain⟨g,B,rfl,hB,hR⟩:=D trivial
 have m:C=.pointer (some ⟨g,0,none⟩):=by
  cases r with
  | w r=>cases r with
   | one r=>cases r with
    |pt j1 j2=>obtain⟨T,F,e1,_,e3⟩:=j2;have u:H x=some (T,F):=e1;rw[j] at u;cases u;obtain⟨g',e4,e5⟩:=e3 rfl;cases e4;exact e5
 subst m;have z:=q.live x 0 _ g j rfl;have n:w.heap.size<=g:=z.2.resolve_right (fun hs=>hs.1.elim);have:J.defers=[]/\∃ v,(results fn J.tmps).run P d=.ok v d/\∃ g B,Ending.returned v=.returned (.pointer (some ⟨g,0,none⟩))/\Ext w d/\w.heap.size<=g/\g<d.heap.size/\f_ d g t B/\RL { w:=d,ok:=fun b=>w.heap.size<=b/\b≠g,env:=fun _=>none } l B.toList:=⟨q.defers,_,h5,g,B,rfl,q.iq,n,z.1,hB,(jK hR U).le ⟨dC _,fun b hb i=>⟨⟨i.1.resolve_left id,fun e=>i.2 x 0 _ j (by rw[e];rfl)⟩,rfl⟩,fun _ _ _ h=>by cases h⟩⟩
 rcases Q with rfl|rfl<;>exact this
abbrev ug:=List (Nat×lu)
def AB(os:ug)(a:Nat->ag):Env:=fun x=>match find os x with
 |some _=>some (0,a x)|none=>none
def Bc(os:ug)(a:Nat->ag)(b:Nat):Prop:=∃ x o,find os x=some o/\hblk (a x)=some b
def EJ(w' w:ae)(ok0:qo)(os:ug)(a:Nat->ag):Ctx:=⟨w',fun b=>(ok0 b\/w.heap.size<=b)/\¬Bc os a b,AB os a⟩
def qp(os:ug)(x:Nat):Bool:=match find os x with
 |some _=>true|none=>false
theorem jJ{os:ug}{x:Nat}(h:qp os x=true):∃ o,find os x=some o:=by unfold qp at h;split at h;exact⟨_,by assumption⟩;cases h
def xq(os:ug):PC->Bool
 |.ow x a _ _ _=>qp os x&&bu a 0|.pt x a _=>qp os x&&bu a 0|c=>aY false c
def D6(os:ug)(o:lu):Prop:=match o with
 |.box _ l=>l.all (xq os)=true|.arr _ _ len f=>∀ i,i<len->(f i).all (xq os)=true|_=>False
def Tm(vf:Nat->Nat):PC->PC
 |.ow x _ n a len=>.ow x (vf x) n a len|.pt x _ a=>.pt x (vf x) a|c=>c
def Uo(vf:Nat->Nat):lu->lu
 |.box t l=>.box t (l.map (Tm vf))|.arr e n len f=>.arr e n len fun i=>(f i).map (Tm vf)|o=>o
def FU(vf:Nat->Nat):PW->PW
 |.one c=>.one (Tm vf c)|.agg l=>.agg (l.map (Tm vf))
def FV(vf:Nat->Nat):PV->PV
 |.w x=>.w (FU vf x)|.og l=>.og (l.map (FU vf))|.none=>.none
variable {C C':Ctx} {os:ug} {vf:Nat->Nat}
structure zo(C C':Ctx)(os:ug)(vf:Nat->Nat):Prop where
 cold:C.cold.Le C'.cold
 env:∀ x o,find os x=some o->∃ hd,C.env x=some (0,hd)/\C'.env x=some (vf x,hd)
theorem zo.at(h:zo C C' os vf){x jm:Nat}{p:ag->Prop}(a:(qp os x&&bu jm 0)=true)(d:At C x jm p):At C' x (vf x) p:=by rw[ww] at a;obtain⟨o,b⟩:=jJ a.1;obtain⟨c,f,e⟩:=h.env x o b;obtain rfl:=ig a.2;exact⟨_,c,e,dC _,fun _=>d.now f⟩
theorem R.hot(h:zo C C' os vf){c:PC}{xs:ji}(hr:R C c xs)(hc:xq os c=true):R C' (Tm vf c) xs:=by
 cases hr with
 |ow a b=>exact .ow a (h.at hc b)|pt a b=>exact .pt a (h.at hc b)|lit a=>exact .lit a|bs a=>exact .bs a|sl a b e=>exact (R.sl (C:=C.cold) a b e).le (C':=C'.cold) h.cold |>.le ⟨dC _,fun _ _ d=>⟨d,rfl⟩,fun _ _ _ h=>by cases h⟩|_=>cases hc
theorem RL.hot(h:zo C C' os vf):∀ {l:dw} {b:ji},RL C l b->l.all (xq os)=true->RL C' (l.map (Tm vf)) b
 |[],_,a,_=>by cases a;exact .nil|c::l,_,a,hc=>by
  rw[ZF,ww] at hc;cases a with
  |cons e d=>exact .cons (e.hot h hc.1) (RL.hot h d hc.2)
theorem nI.hot(h:zo C C' os vf)(d:C'.w=C.w){hd:ag}{o:lu}(j:nI C hd o)(a:D6 os o):nI C' hd (Uo vf o):=by
 cases o with
 |box t l=>obtain⟨g,q,c,b,p⟩:=j;exact⟨g,q,c,by rw[d];exact b,p.hot h a⟩
 |arr e n len f=>obtain⟨m,c,b⟩:=j;exact⟨m,by rw[d];exact c,fun i k=>(b i k).hot h (a i k)⟩
 |dead=>exact a.elim|dev _ _ _=>exact a.elim
theorem RW.hot(h:zo C C' os vf){x:PW}{v:ag}(hr:RW C x v)(hc:Xz (xq os) x=true):RW C' (FU vf x) v:=by
 cases hr with
 |one a=>exact .one (a.hot h hc)|agg a=>exact .agg (a.hot h hc)
theorem RV.hot(h:zo C C' os vf){x:PV}{v:ag}(hr:RV C x v)(hc:rZ (xq os) x=true):RV C' (FV vf x) v:=by
 cases hr with
 |w c=>exact .w (c.hot h hc)| og d c=>
  refine .og (by rw[List.length_map];exact d) (fun i x a=>?_);rw[XN] at a;cases b:(_:List PW)[i]? with
  |none=>rw[b] at a;cases a|some y=>rw[b] at a;cases a;obtain⟨v,f,e⟩:=c i y b;exact⟨v,f,e.hot h (List.all_eq_true.1 hc y (ZO b))⟩
 |none=>exact .none
theorem aQw{c:PC}(h:xq os c=true):Tm (fun _=>0) c=c:=by
 cases c<;>first|rfl|skip
 all_goals
  have a:=h;simp only[xq,ww] at a;obtain rfl:=ig a.2;rfl
theorem aAr:∀ {l:dw},l.all (xq os)=true->l.map (Tm fun _=>0)=l
 |[],_=>rfl|c::l,h=>by rw[ZF,ww] at h;rw[DD,aQw h.1,aAr h.2]
theorem bIu{x:PV}(h:rZ (xq os) x=true):FV (fun _=>0) x=x:=by
 have d:∀ {y:PW},Xz (xq os) y=true->FU (fun _=>0) y=y:=by
  intro y b;cases y with
  |one c=>exact congrArg PW.one (aQw b)|agg l=>exact congrArg PW.agg (aAr b)
 cases x with
 |w y=>exact congrArg PV.w (d h)| og l=>
  refine congrArg PV.og ?_;have a:l.all (Xz (xq os))=true:=h;clear h
  induction l with
  |nil=>rfl|cons y l e=>rw[ZF,ww] at a;rw[DD,d a.1,e a.2]
 |none=>rfl
theorem nI.EE(h:zo C C' os fun _=>0)(c:C'.w=C.w){hd:ag}{o:lu}(d:nI C hd o)(a:D6 os o):nI C' hd o:=by
 cases o with
 |box t l=>have:nI C' hd (.box t (l.map (Tm fun _=>0))):=d.hot h c a;rw[aAr a] at this;exact this|arr e n len f=>obtain⟨g,k,j⟩:=d;refine⟨g,by rw[c];exact k,fun i b=>?_⟩;have:=(j i b).hot h (a i b);rw[aAr (a i b)] at this;exact this
 |dead=>exact a.elim|dev _ _ _=>exact a.elim
theorem RV.EE(h:zo C C' os fun _=>0){x:PV}{v:ag}(hr:RV C x v)(hc:rZ (xq os) x=true):RV C' x v:=by have:=hr.hot h hc;rw[bIu hc] at this;exact this
theorem o5.EE(h:zo C C' os fun _=>0):∀ {a:jl} {l:ji},o5 C a l->a.all (rZ (xq os))=true->o5 C' a l
 |[],[],_,_=>trivial|[],_::_,h,_=>h.elim|_::_,[],h,_=>h.elim|_::_,_::_,⟨h1,h2⟩,hc=>by rw[ZF,ww] at hc;exact⟨h1.EE h hc.1,o5.EE h h2 hc.2⟩
def DI(P:dE)(I:je)(f:Nat)(os d:ug)(args:jl)(j:PV):Prop:=
 ∀ (w:ae) (g:qo) (k:ji) (c:Nat->ag),(∀ h,gu (Bc os c) w h->I h)->(∀ b,Bc os c b->b<w.heap.size/\¬g b) ->
  (∀ x y b,qp os x=true->qp os y=true->hblk (c x)=some b->hblk (c y)=some b->x=y)->(∀ x o,find os x=some o->nI ⟨w,g,AB os c⟩ (c x) o)->o5 ⟨w,g,AB os c⟩ args k ->
  mf P f k.toArray w fun e h=>∃ a i,e=.returned i/\gu (Bc os c) w h/\(∀ x t l,find os x=some (.box t l)->a x=c x) /\
   (∀ x b,qp d x=true->hblk (a x)=some b->b<h.heap.size/\(w.heap.size<=b\/Bc os c b))/\(∀ x y b,qp d x=true->qp d y=true->hblk (a x)=some b->hblk (a y)=some b->x=y) /\
   (∀ x o,find d x=some o->nI (EJ h w g d a) (a x) o)/\RV (EJ h w g d a) j i
def rdW:List Nat->(ug->M)->M
 |[],k=>k []|x::l,k=>.obj x fun c a b=>jE c (match bu a 0 with
  |true=>rdW l fun os=>k ((x,b)::os)|false=>.fail)
def Dy(a:ug)(v:Nat)(x:Nat):Nat:=match find a x with
 |some (.arr _ _ _ _)=>v|_=>0
def Gj(a:Bool)(v:Nat)(vf:Nat->Nat):ug->M->M
 |[],k=>k|(x,.box t l)::r,k=>(match a with
  |true=>.new x (Uo vf (.box t l)) fun u=>(match bu u 0 with|true=>Gj a v vf r k|false=>.fail)
  |false=>.upd x 0 (Uo vf (.box t l)) (Gj a v vf r k))
 |(x,.arr e n len f)::r,k=>.new x (Uo vf (.arr e n len f)) fun u=>(match bu u v with|true=>Gj a v vf r k|false=>.fail)
 |_,_=>.fail
def eqN:ug->List Nat->Bool
 |[],[]=>true|(x,_)::l,y::m=>bu x y&&eqN l m|_,_=>false
def Gt:List Nat->Bool
 |[]=>true|x::l=>Hm dx x&&(l.all fun y=>!Nat.beq x y)&&Gt l
def Xx:ug->ug->Bool
 |[],[]=>true|(x,.box _ _)::l,(y,.box _ _)::m=>bu x y&&Xx l m|(x,.arr _ _ _ _)::l,(y,.arr _ _ _ _)::m=>bu x y&&Xx l m|_,_=>false
def Lr:Bool->Nat
 |true=>0|false=>1
def aMM(b:List Nat):Bool->List Nat
 |true=>[]|false=>b
def wSpec(c:Bool)(e:List Nat)(g:ug->jl->Option (Prop×ug×PV)):Spec:=fun _ f=>rdW (aMM e c) fun d=>match f.all (rZ (xq d)),Gt e,g d f with
 |true,true,some (p,b,r)=>(match eqN b e,(c||Xx d b),rZ (xq b) r with
  |true,true,true=>.need p (.need ((∀ q∈d,D6 d q.2)/\∀ q∈b,D6 b q.2) (Gj c (Lr c) (Dy b (Lr c)) b (.ret (FV (Dy b (Lr c)) r))))|_,_,_=>.fail)
 |_,_,_=>.fail
variable {A:lh} {s:St} {a:Act} {w:ae} {env:Env} {F:mi->PV->Wr->Prop}
theorem JQ(h:gy A s a w env):∀ {p:List Nat} {k:ug->M},(rdW p k).ok none s F->∃ c,c.map (·.1)=p/\(∀ q∈c,∃ i g,find s.o q.1=some (i,0,q.2)/\gT i/\env q.1=some (0,g)/\nI (aI A w env) g q.2)/\(k c).ok none s F
 |[],k,b=>⟨[],rfl,(fun q d=>by cases d),b⟩|x::l,k,b=>by
  obtain⟨i,r,t,f,b⟩:=b;have m:=dD b;clear b;obtain⟨e,b⟩:=m;obtain⟨g,u,j⟩:=jQ h f e
  cases n:bu r 0<;>simp only[n] at b
  exact b.elim;obtain rfl:=ig n;obtain⟨c,B,z,y⟩:=JQ h b;refine⟨(x,t)::c,by rw[DD,B],fun q d=>?_,y⟩;rcases List.mem_cons.1 d with rfl|d
  exact⟨i,g,f,e,u,j⟩;exact z q d
theorem sO:∀ {c:ug} {q:Nat×lu},q∈c->Gt (c.map (·.1))=true->find c q.1=some q.2
 | (x,o)::l,q,b,hd=>by
  simp only[DD,Gt,ww] at hd;rcases List.mem_cons.1 b with rfl|b;exact aF _ _ _
  have d:x≠q.1:=fun e=>by have:=List.all_eq_true.1 hd.1.2 q.1 (List.mem_map.2 ⟨q,b,rfl⟩);rw[e,aCg] at this;cases this
  rw[aC _ _ d];exact sO b hd.2
theorem aLx:∀ {l:List Nat},Gt l=true->∀ x∈l,dx<x
 |y::l,hd,x,b=>by
  simp only[Gt,ww] at hd;rcases List.mem_cons.1 b with rfl|b
  have c:dx+1<=x:=by simpa[Hm] using hd.1.1
  exact c;exact aLx hd.2 x b
theorem bHp:∀ {b:ug} {c:List Nat},eqN b c=true->b.map (·.1)=c
 |[],[],_=>rfl|(x,o)::l,y::m,h=>by simp only[eqN,ww] at h;rw[DD,bHp h.2,ig h.1]|[],_::_,h=>by cases h|_::_,[],h=>by cases h
theorem wM{os:ug}{x:Nat}(h:qp os x=true):x∈os.map (·.1):=by obtain⟨o,b⟩:=jJ h;exact List.mem_map.2 ⟨(x,o),qH b,rfl⟩
theorem kG{os:ug}{x:Nat}{o:lu}(h:find os x=some o):qp os x=true:=by unfold qp;rw[h]
theorem aFs:∀ {d b:ug} {x:Nat} {t:bi} {l:dw},Xx d b=true->find b x=some (.box t l)->∃ e f,find d x=some (.box e f)
 |[],[],_,_,_,_,h=>by cases h|(y,.box t1 l1)::d,(z,.box t2 l2)::b,x,t,l,hk,h=>by simp only[Xx,ww] at hk;obtain rfl:=ig hk.1;by_cases c:y=x;subst c;exact⟨t1,l1,aF _ _ _⟩;rw[aC _ _ c] at h ⊢;exact aFs hk.2 h
 |(y,.arr _ _ _ _)::d,(z,.arr _ _ _ _)::b,x,t,l,hk,h=>by simp only[Xx,ww] at hk;obtain rfl:=ig hk.1;by_cases c:y=x;subst c;rw[aF] at h;cases h;rw[aC _ _ c] at h ⊢;exact aFs hk.2 h
def Pj(v:Nat):lu->Nat
 |.arr _ _ _ _=>v|_=>0
def frO(s:St)(b:Bool)(v x:Nat):lu->Prop
 |.arr _ _ _ _=>fresh s x=v|.box _ _=>b=true->fresh s x=0|_=>False
structure WrO(s:St)(ini:Bool)(v:Nat)(vf:Nat->Nat)(os':ug)(wr:Wr):Prop where
 out:∀ x,find os' x=none->∀ r:Wr,find (wr++r) x=find r x
 own:∀ x o,find os' x=some o->(∀ r:Wr,find (wr++r) x=some (none,Pj v o,Uo vf o))/\frO s ini v x o
theorem WrO.cons{d:Bool}{v:Nat}{f:Nat->Nat}{e:ug}{wr:Wr}{x:Nat}{o:lu}(h:WrO s d v f e wr)(i:frO s d v x o):WrO s d v f ((x,o)::e) ((x,none,Pj v o,Uo f o)::wr):=by refine⟨fun y c r=>?_,fun y g c=>?_⟩;by_cases b:x=y;subst b;rw[aF] at c;cases c;rw[aC _ _ b] at c;rw[yz,aC _ _ b];exact h.out y c r;by_cases b:x=y;subst b;rw[aF] at c;cases c;exact⟨fun r=>by rw[yz,aF],i⟩;rw[aC _ _ b] at c;refine⟨fun r=>?_,(h.own y g c).2⟩;rw[yz,aC _ _ b];exact (h.own y g c).1 r
theorem aVa{j:Bool}{v:Nat}{p:Nat->Nat}:∀ {c:ug} {k:M} {F:mi->PV->Wr->Prop},(Gj j v p c k).ok none s F->∃ wr:Wr,WrO s j v p c wr/\k.ok none s (fun g pv i=>F g pv (wr++i))
 |[],k,F,d=>⟨[],⟨fun _ _ _=>rfl,fun x o h=>by cases h⟩,d⟩| (x,.box t l)::c,k,F,d=>by
  cases j with
  |true=>
   unfold Gj at d;have b:(match bu (fresh s x) 0 with|true=>Gj true v p c k|false=>M.fail).ok none s (fun g pv i=>F g pv ((x,none,fresh s x,Uo p (.box t l))::i)):=d
   cases m:bu (fresh s x) 0<;>simp only[m] at b
   exact b.elim;rw[ig m] at b;obtain⟨wr,r,q⟩:=aVa b;exact⟨_,r.cons (o:=.box t l) (fun _=>ig m),q⟩
  |false=>unfold Gj at d;obtain⟨wr,r,q⟩:=aVa d.2;exact⟨_,r.cons (o:=.box t l) (fun h=>(by cases h)),q⟩
 |(x,.arr e n len f)::c,k,F,d=>by
  unfold Gj at d;have b:(match bu (fresh s x) v with|true=>Gj j v p c k|false=>M.fail).ok none s (fun g pv i=>F g pv ((x,none,fresh s x,Uo p (.arr e n len f))::i)):=d
  cases m:bu (fresh s x) v<;>simp only[m] at b
  exact b.elim;rw[ig m] at b;obtain⟨wr,r,q⟩:=aVa b;exact⟨_,r.cons (o:=.arr e n len f) (ig m),q⟩
 |(x,.dead)::c,k,F,d=>by unfold Gj at d;exact d.elim|(x,.dev _ _ _)::c,k,F,d=>by unfold Gj at d;exact d.elim
def Bz(c:ug)(d:Nat->Nat)(b:Nat->ag)(env:Env):Env:=fun x=>match find c x with
 |some _=>some (d x,b x)|none=>env x
theorem Ph{b:ug}{v x:Nat}{o:lu}(h:find b x=some o):Dy b v x=Pj v o:=by unfold Dy;rw[h];cases o<;>rfl
theorem gy.aDO(h:gy A s a w env){w':ae}{L:Bool}{v:Nat}{os c:ug}{K d:Nat->ag}{wr:Wr}(T:WrO s L v (Dy c v) c wr)(_:v=0\/(L=false/\v=1))
  (b2:∀ x,qp c x=true->dx<x) (a6:∀ x,qp os x=true->qp c x=true) (c4:L=false->∀ x,qp c x=true->qp os x=true)
  (a1:∀ x o,find os x=some o->env x=some (0,K x)) (a9:L=true->v=0) (c3:L=false->v=1)
  (hw:gu (Bc os K) w w') (b4:L=false->∀ x t l,find c x=some (.box t l)->d x=K x)
  (hb:∀ x b,qp c x=true->hblk (d x)=some b->b<w'.heap.size/\(w.heap.size<=b\/Bc os K b)) (a8:∀ x y b,qp c x=true->qp c y=true->hblk (d x)=some b->hblk (d y)=some b->x=y)
  (c1:∀ x o,find c x=some o->nI (EJ w' w (aI A w env).ok c d) (d x) o) (b0:∀ x o,find c x=some o->D6 c o) :
  gy A { s with o:=wr++s.o } a w' (Bz c (Dy c v) d env)/\(aI A w env).Le (aI A w' (Bz c (Dy c v) d env))/\zo (EJ w' w (aI A w env).ok c d) (aI A w' (Bz c (Dy c v) d env)) c (Dy c v):=by
 have eI:∀ {x o},find c x=some o->Bz c (Dy c v) d env x=some (Pj v o,d x):=fun {x o} m=>by unfold Bz;rw[m];dsimp only;rw[Ph m]
 have X:∀ {x},find c x=none->Bz c (Dy c v) d env x=env x:=fun {x} m=>by unfold Bz;rw[m]
 have E:∀ b,Bc os K b->∃ x,qp c x=true/\env x=some (0,K x)/\hblk (K x)=some b:=fun b ⟨x,o,q,H⟩=>⟨x,a6 x (kG q),a1 x o q,H⟩;have a0:∀ {b},b<w.heap.size->(∀ x j B,env x=some (j,B)->hblk B≠some b)->¬Bc os K b:=fun {b} _ hn G=>by obtain⟨x,_,q,H⟩:=E b G;exact hn x 0 _ q H
 have a7:∀ {b},b<w.heap.size->(∀ x j B,env x=some (j,B)->hblk B≠some b)->∀ x j B,Bz c (Dy c v) d env x=some (j,B)->hblk B≠some b:=by
  intro b J hn x j B m e;cases C:find c x with
  |none=>rw[X C] at m;exact hn x j B m e|some o=>rw[eI C] at m;cases m;rcases (hb x b (kG C) e).2 with q|q;omega;exact a0 J hn q
 have Y:(aI A w env).Le (aI A w' (Bz c (Dy c v) d env)):=by
  refine⟨hw.size,fun b J N=>⟨⟨N.1,a7 J N.2⟩,hw.block b J (a0 J N.2)⟩,fun x j B m=>?_⟩;have D:env x=some (j,B):=m;cases C:find c x with
  |none=>exact⟨j,B,(X C).trans D,dC _,fun _=>rfl⟩| some o=>
   have U:=(T.own x o C).2;cases hi:L with
   | true=>
    exfalso
    have a3:fresh s x=0:=by
     cases o with
     |box t l=>exact U hi|arr e n len f=>exact (show fresh s x=v from U).trans (a9 hi)|dead=>exact U.elim|dev _ _ _=>exact U.elim
    unfold fresh at a3;cases hs:find s.o x with
    |none=>rw[h.dom x hs] at D;cases D|some p=>rw[hs] at a3;cases a3
   |false=>
    obtain⟨o0,c2⟩:=jJ (c4 hi x (kG C));rw[a1 x o0 c2] at D;cases D;refine⟨_,_,eI C,xn _,fun e=>?_⟩;cases o with
    |box t l=>exact b4 hi x t l C|arr e0 n len f=>have e1:0=v:=e;have:=c3 hi;omega|dead=>exact U.elim|dev _ _ _=>exact U.elim
 have b1:zo (EJ w' w (aI A w env).ok c d) (aI A w' (Bz c (Dy c v) d env)) c (Dy c v):=by
  refine⟨⟨dC _,fun b J N=>⟨⟨?_,fun x j B m e=>?_⟩,rfl⟩,fun _ _ _ h=>by cases h⟩,fun x o ho=>⟨d x,by show AB c d x=_;unfold AB;rw[ho],by show Bz c (Dy c v) d env x=_;unfold Bz;rw[ho]⟩⟩;rcases N.1 with q|q;exact q.1;exact .inr (PP h.iq.size q);have D:Bz c (Dy c v) d env x=some (j,B):=m
  cases C:find c x with
  |none=>
   rw[X C] at D;rcases N.1 with q|q;exact q.2 x j B D e
   have:=(h.live x j B b D e).1;omega
  |some o=>rw[eI C] at D;cases D;exact N.2 ⟨x,o,C,e⟩
 refine⟨{ iq:=?_,size:=h.size,dom:=fun x m=>?_,jv:=fun x g j o C=>?_,live:=fun x j B b m G=>?_,inj:=fun x y v1 q v2 H b m S Q V=>?_,tmps:=fun t g pv C hg=>?_,defers:=h.defers,und:=h.und,n_:=fun y B S=>⟨(h.n_ y B S).1,(h.n_ y B S).2.le Y⟩,dev:=fun g j O dn l C hg=>?_ },Y,b1⟩;refine h.iq.trans' hw (fun _ _ h=>h) (fun i hi G=>?_);obtain⟨x,_,q,H⟩:=E i G;rcases (h.live x _ _ i q H).2 with Z|Z;omega;exact Z.1
 cases C:find c x with
 |none=>rw[X C];exact h.dom x (by rw[<-T.out x C];exact m)|some o=>have:=(T.own x o C).1 s.o;rw[this] at m;cases m
 cases r:find c x with
 |none=>
  have a4:find s.o x=some (g,j,o):=by rw[<-T.out x r];exact C
  obtain⟨B,q,H⟩:=h.jv x g j o a4;refine⟨B,(X r).trans q,fun hg=>(H hg).Aa Y (fun b G J=>hw.block b J (fun c6=>?_))⟩;obtain⟨y,c0,b9,b8⟩:=E b c6;have:x=y:=h.inj x y _ _ _ _ b q b9 G b8;subst this;obtain⟨o2,a2⟩:=jJ c0;rw[a2] at r;cases r
 |some o2=>have e1:find (wr++s.o) x=some (g,j,o):=C;rw[(T.own x o2 r).1 s.o] at e1;cases e1;exact⟨d x,eI r,fun _=>(c1 x o2 r).hot b1 rfl (b0 x o2 r)⟩
 cases r:find c x with
 |none=>rw[X r] at m;exact⟨YX (h.live x j B b m G).1 hw.size,(h.live x j B b m G).2⟩|some o=>rw[eI r] at m;cases m;obtain⟨q,H⟩:=hb x b (kG r) G;refine⟨q,?_⟩;rcases H with H|H;exact .inl (PP h.iq.size H);obtain⟨y,_,Z,h4⟩:=E b H;rcases (h.live y _ _ b Z h4).2 with h5|h5;exact .inl h5;exact .inr ⟨h5.1,aCn (aFF (b2 x (kG r)))⟩
 have a5:∀ {x y v1 q o},find c x=none->find c y=some o->env x=some (v1,q)->hblk q=some b->hblk (d y)=some b->False:=by intro x y v1 q o m S he Q V;rcases (hb y b (kG S) V).2 with Z|Z;have:=(h.live x v1 q b he Q).1;omega;obtain⟨z,b7,b6,b5⟩:=E b Z;have:x=z:=h.inj x z _ _ _ _ b he b6 Q b5;subst this;obtain⟨o2,a2⟩:=jJ b7;rw[a2] at m;cases m
 cases W:find c x with
 |none=>
  rw[X W] at m;cases u:find c y with
  |none=>rw[X u] at S;exact h.inj x y v1 q v2 H b m S Q V|some o=>rw[eI u] at S;cases S;exact (a5 W u m Q V).elim
 |some o=>
  rw[eI W] at m;cases m;cases u:find c y with
  |none=>rw[X u] at S;exact (a5 u W S V Q).elim|some o2=>rw[eI u] at S;cases S;exact a8 x y b (kG W) (kG u) Q V
 obtain⟨v,q,H⟩:=h.tmps t g pv C hg;exact⟨v,q,H.le Y⟩;cases b3:find c dx with
 |some o=>have:=b2 dx (kG b3);omega| none=>
  have a4:find s.o dx=some (g,j,.dev O dn l):=by rw[<-T.out dx b3];exact C
  obtain⟨q,H,Z⟩:=h.dev g j O dn l a4 hg;refine⟨q,H,A.dv.grow _ _ _ _ _ Z (hw.mono fun k _ hk=>?_) (fun b c7=>?_)⟩;obtain⟨x,_,e1,e2⟩:=E k hk;exact .inr ⟨x,0,_,e1,e2⟩;rcases c7 with h4|⟨y,v2,c5,h4,h5⟩;exact .inl (.inl h4)
  cases u:find c y with
  |none=>rw[X u] at h4;exact .inl (.inr ⟨y,v2,c5,h4,h5⟩)|some o=>rw[eI u] at h4;cases h4;obtain⟨h6,h7⟩:=hb y b (kG u) h5;rcases h7 with h7|h7;exact .inr ⟨h7,h6⟩;obtain⟨z,_,e1,e2⟩:=E b h7;exact .inl (.inr ⟨z,0,_,e1,e2⟩)
theorem aCv{f:Nat}{j:Bool}{NS:List Nat}{g:ug->jl->Option (Prop×ug×PV)}(W:∀ args w,(YR f args).run P w=.ok (.enter f args) w)
  (hg:∀ i ys p c r,g i ys=some (p,c,r)->p->DI P I f i c ys r):d_ P I f (wSpec j NS g):=by
 refine⟨W,fun A s a w env nm J vs F h hI hv z=>?_⟩;unfold wSpec at z;obtain⟨i,E,hq,z⟩:=JQ h z
 cases a2:J.all (rZ (xq i))<;>cases G:Gt NS<;>cases a1:g i J<;>simp only[a2,G,a1] at z<;>try exact z.elim
 rename_i q;obtain⟨p,c,r⟩:=q;dsimp only at z
 cases a0:eqN c NS<;>cases Z:(j||Xx i c)<;>cases Y:rZ (xq c) r<;>simp only[a0,Z,Y] at z<;>try exact z.elim
 obtain⟨hp,⟨b1,b0⟩,z⟩:=z;have H:=bHp a0;obtain⟨wr,N,hF⟩:=aVa z;have hF:F none (FV (Dy c (Lr j)) r) (wr++[]):=hF;rw[Lt] at hF;have X:Gt (i.map (·.1))=true:=by rw[E];cases j;exact G;rfl
 have V:∀ x o,find i x=some o->∃ gd hd,find s.o x=some (gd,0,o)/\gT gd/\env x=some (0,hd)/\nI (aI A w env) hd o:=fun x o m=>hq (x,o) (qH m)
 obtain⟨k,d⟩:∃ k:Nat->ag,∀ x o,find i x=some o->env x=some (0,k x):=⟨fun x=>((env x).map (·.2)).getD bz,fun x o m=>by
  obtain⟨_,hd,_,_,L,_⟩:=V x o m;show env x=some (0,((env x).map (·.2)).getD bz)
  rw[L];rfl⟩
 have a3:∀ b,Bc i k b->∃ x,env x=some (0,k x)/\hblk (k x)=some b:=fun b ⟨x,o,n,D⟩=>⟨x,d x o n,D⟩;have U:zo (aI A w env) ⟨w,(aI A w env).ok,AB i k⟩ i fun _=>0:=⟨⟨dC _,fun b _ K=>⟨K,rfl⟩,fun _ _ _ h=>by cases h⟩,fun x o m=>⟨k x,d x o m,by show AB i k x=_;unfold AB;rw[m]⟩⟩;have T:∀ x o,find i x=some o->D6 i o:=fun x o m=>b1 _ (qH m);refine (hg i J p c r a1 hp w (aI A w env).ok vs k (fun w' hw=>hI.mem w' (h.iq.trans' hw (fun _ _ h=>h) (fun b b7 K=>?_))) (fun b K=>?_) (fun x y b B hy b5 b4=>?_) (fun x o m=>?_) (hv.EE U a2)).mono ?_;obtain⟨x,n,D⟩:=a3 b K;rcases (h.live x _ _ b n D).2 with L|L;omega;exact L.1;obtain⟨x,n,D⟩:=a3 b K
 exact⟨(h.live x _ _ b n D).1,fun a6=>a6.2 x _ _ n D⟩;obtain⟨o,m⟩:=jJ B;obtain⟨o2,a8⟩:=jJ hy;exact h.inj x y _ _ _ _ b (d x o m) (d y o2 a8) b5 b4;obtain⟨_,hd,_,_,L,h4⟩:=V x o m;rw[d x o m] at L;cases L;exact h4.EE U rfl (T x o m);rintro e w' ⟨b6,a4,rfl,hw,b3,K,S,a7,Q⟩;have b2:∀ x,qp c x=true->dx<x:=fun x B=>aLx G x (by rw[<-H];exact wM B)
 have a9:j=false->∀ x,qp c x=true->qp i x=true:=fun C x B=>by
  subst C;have n:x∈i.map (·.1):=by rw[E,<-H];exact wM B
  obtain⟨q,D,rfl⟩:=List.mem_map.1 n;exact kG (sO D X)
 have O:∀ x,qp i x=true->qp c x=true:=fun x B=>by
  cases C:j with
  |true=>have n:=wM B;rw[E,C] at n;cases n| false=>
   have n:x∈c.map (·.1):=by have h0:=wM B;rw[E,C] at h0;rw[H];exact h0
   obtain⟨q,D,rfl⟩:=List.mem_map.1 n;exact kG (sO D (by rw[H];exact G))
 obtain⟨v,u⟩:=lm ((Lr j));rw[u] at N hF;have a5:v=0\/(j=false/\v=1):=by cases j;exact .inr ⟨rfl,u.symm⟩;exact .inl u.symm
 obtain⟨k1,k2,k3⟩:=h.aDO N a5 b2 O a9 d (fun C=>by subst C;exact u.symm) (fun C=>by subst C;exact u.symm) hw (fun C x t l B=>by
  subst C;obtain⟨t',l',n⟩:=aFs (by simpa using Z) B
  exact b3 x t' l' n) K S a7 (fun x o m=>b0 _ (qH m))
 exact .inl ⟨_,_,a4,_,rfl,hF,k1,Q.hot k3 Y⟩
def Ei(os:ug)(b:Nat->ag):Nat->Option ag:=fun x=>match find os x with
 |some (.box _ _)=>some (b x)|_=>none
def Du(os:ug)(b:Nat->ag)(w:ae)(ok0:qo)(c:Nat):lh:=⟨w,Bc os b,ok0,c,Ei os b,Dv.non,fun _=>False,Non,[]⟩
def headW(os:ug):Wr:=os.map fun q=>(q.1,none,0,q.2)
theorem rE:∀ {b:ug} {x:Nat},find (headW b) x=(find b x).map fun o=>(none,0,o)
 |[],x=>rfl|(y,o)::b,x=>by by_cases c:y=x;subst c;unfold headW;rw[DD,aF,aF];rfl;unfold headW;rw[DD,aC _ _ c,aC _ _ c];exact rE
def aUF(b:ug)(s:St):Prop:=∀ q∈b,find s.o q.1=some (none,0,q.2)/\D6 b q.2
def YD(P:dE)(fn:Func)(d:ug)(c:PV)(s:St):Prop:=∃ b,(yx P fn.results).exec none s [] [] [] []=some b/\All b.conds/\b.wr=[]/\b.val=c/\rZ (xq d) c=true/\aUF d s
def RQW(P:dE)(A:lh)(fn:Func)(c:ug)(b:PV):Exit->Act->ae->Prop
 |.panic chain,a,w=>a.defers=A.ds/\DW A chain w|e,a,w=>(e=.normal\/e=.ret)/\∃ s,YD P fn c b s/\oq A s a w
def YI(os:ug)(A:lh):Prop:=∀ x b,A.ext x=some b->∃ t l,find os x=some (.box t l)
theorem aFz{f:Nat}{fn:Func}{c:Code}{os j:ug}{args:jl}{L:PV}(hf:P.funcs[f]?=some fn)(hb:fn.body=some c)(a4:Nat.ble args.length fn.ntmps=true)(a6:Gt (os.map (·.1))=true)(_:Gt (j.map (·.1))=true)
  (a7:∀ x t l,find os x=some (.box t l)->qp j x=true) (b0:∀ q∈os,D6 os q.2) (b2:args.all (rZ (xq os))=true)
  (hT:∀ A:lh,A.nt=fn.ntmps->YI os A->(os=[]->A.S=Non)->jo P I A->jw P A ⟨slots 0 args,headW os⟩ c (RQW P A fn j L)):DI P I f os j args L:=by
 intro w m vs d hM J Y a2 hv;have a9:=hv.length;have hn:=Yp a4;have N:∀ x,qp os x=true->dx<x:=fun x r=>aLx a6 x (wM r);have hA:jo P I (Du os d w m fn.ntmps):=⟨hM,fun _ h=>h.elim,J,oz.non P,fun _ _ _ h=>h.elim,fun _ _ _ _ _ _ h=>h.elim⟩;have hX:YI os (Du os d w m fn.ntmps):=fun x C r=>by have E:Ei os d x=some C:=r;unfold Ei at E;split at E;exact⟨_,_,by assumption⟩;cases E
 have G:∀ {x B C},AB os d x=some (B,C)->qp os x=true/\B=0/\C=d x:=fun {x B C} h=>by unfold AB at h;split at h;cases h;exact⟨kG o_,rfl,rfl⟩;cases h
 have X:Ctx.Le ⟨w,m,AB os d⟩ (aI (Du os d w m fn.ntmps) w (AB os d)):=⟨dC _,fun b _ hb=>⟨⟨.inl hb,fun x B C r e=>by
  obtain⟨D,rfl,rfl⟩:=G r;obtain⟨o,u⟩:=jJ D
  exact (J b ⟨x,o,u,e⟩).2 hb⟩,rfl⟩,fun x B C h=>⟨B,C,h,dC _,fun _=>rfl⟩⟩
 have hg:oq (Du os d w m fn.ntmps) ⟨slots 0 args,headW os⟩ { tmps:=vs.toArray++IR (fn.ntmps-vs.toArray.size) bz,defers:=[] } w:=by
  refine⟨AB os d,{ iq:=gu.refl _ _,size:=?_,dom:=fun x r=>?_,jv:=fun x g B o h=>?_,live:=fun x B C b h hb=>?_,inj:=fun x y v1 D v2 W b r hy V U=>?_,tmps:=fun t g pv h N=>?_,defers:=rfl,und:=fun t pv h=>(by obtain⟨k,_,W⟩:=pU h;cases W),n_:=fun x C r=>?_,dev:=fun g B O a8 l h _=>?_ }⟩;simp[Du];omega;rw[rE] at r;cases z:find os x with
  |none=>unfold AB;rw[z]|some o=>rw[z] at r;cases r
  rw[rE] at h;cases z:find os x with
  |none=>rw[z] at h;cases h|some o2=>rw[z] at h;cases h;refine⟨d x,by unfold AB;rw[z],fun _=>?_⟩;exact (a2 x _ z).Aa X (fun b _ _=>rfl)
  obtain⟨D,rfl,rfl⟩:=G h;obtain⟨o,u⟩:=jJ D;exact⟨(J b ⟨x,o,u,hb⟩).1,.inr ⟨⟨x,o,u,hb⟩,aCn (aFF (N x D))⟩⟩;obtain⟨k1,rfl,rfl⟩:=G r;obtain⟨k2,rfl,rfl⟩:=G hy;exact Y x y b k1 k2 V U;obtain⟨k,D,W⟩:=rD h;obtain⟨v,h3,h4⟩:=hv.at W;rw[ik] at D;subst D;have hk:t<vs.length:=(List.getElem?_eq_some_iff.1 h3).1;refine⟨v,?_,h4.le X⟩;rw[aCc (by simpa using hk)];simpa using h3;obtain⟨t,l,D⟩:=hX x C r;refine⟨aCn (aFF (N x (kG D))),0,d x,by show AB os d x=_;unfold AB;rw[D],dC _,fun _=>?_⟩;have E:Ei os d x=some C:=r;unfold Ei at E;rw[D] at E;cases E;rfl;rw[rE] at h;cases z:find os dx with
  |none=>rw[z] at h;cases h|some o2=>have:=N dx (kG z);omega
 refine calls_of_wp hf hb (wp_mono (hT (Du os d w m fn.ntmps) rfl hX (fun e=>by subst e;funext b;exact propext ⟨fun⟨x,o,h,_⟩=>(by cases h),False.elim⟩) hA _ w hg (fun _ _ _ C h=>⟨C,h⟩)) (fun e a' K he=>?_))
 have a5:(e=.normal\/e=.ret)/\∃ s,YD P fn j L s/\oq (Du os d w m fn.ntmps) s a' K:=by
  cases e with
  |panic chain=>obtain⟨_,l,hl,_⟩:=he;exact hl.elim
  |_=>exact he
 obtain⟨D,s,⟨a0,k1,k2,k3,k4,k5,k6⟩,env,Q⟩:=a5;rw[wO] at k1;have a1:(yx P fn.results).ok none s (fun _ v' wr=>v'=L/\wr=[]):=M.y8 _ none s a0 _ k1 (fun p hp=>k2.mem p hp) ⟨k4,k3⟩;obtain⟨v',H,h5,h6,h7,_⟩:=rY Q a1;subst h7;have T:∀ x o,find j x=some o->find s.o x=some (none,0,o)/\D6 j o:=fun x o u=>k6 (x,o) (qH u)
 obtain⟨i,n⟩:∃ i:Nat->ag,∀ x o,find j x=some o->env x=some (0,i x):=⟨fun x=>((env x).map (·.2)).getD bz,fun x o u=>by
  obtain⟨C,h3,_⟩:=Q.jv x none 0 o (T x o u).1;show env x=some (0,((env x).map (·.2)).getD bz)
  rw[h3];rfl⟩
 have Z:zo (aI (Du os d w m fn.ntmps) K env) (EJ K w m j i) j fun _=>0:=⟨⟨dC _,fun b _ hb=>⟨⟨hb.1,fun⟨x,o,D,W⟩=>hb.2 x 0 _ (n x o D) W⟩,rfl⟩,fun _ _ _ h=>by cases h⟩,fun x o u=>⟨i x,n x o u,by show AB j i x=_;unfold AB;rw[u]⟩⟩
 have:a'.defers=[]/\∃ v,(results fn a'.tmps).run P K=.ok v K/\∃ i H,Ending.returned v=.returned H/\gu (Bc os d) w K/\(∀ x t l,find os x=some (.box t l)->i x=d x) /\
   (∀ x b,qp j x=true->hblk (i x)=some b->b<K.heap.size/\(w.heap.size<=b\/Bc os d b))/\(∀ x y b,qp j x=true->qp j y=true->hblk (i x)=some b->hblk (i y)=some b->x=y) /\
   (∀ x o,find j x=some o->nI (EJ K w m j i) (i x) o)/\RV (EJ K w m j i) v' H:=by
  refine⟨Q.defers,H,h5,i,H,rfl,Q.iq,fun x t l r=>?_,fun x b r hb=>?_,fun x y b r hy V U=>?_,fun x o u=>?_,h6.EE Z k5⟩;obtain⟨o,u⟩:=jJ (a7 x t l r);have e1:(Du os d w m fn.ntmps).ext x=some (d x):=by show Ei os d x=_;unfold Ei;rw[r]
  exact (Q.n_ x _ e1).2.now (n x o u);obtain⟨o,u⟩:=jJ r;obtain⟨h8,h9⟩:=Q.live x _ _ b (n x o u) hb;exact⟨h8,h9.imp id fun h=>h.1⟩;obtain⟨o,u⟩:=jJ r;obtain⟨o2,a3⟩:=jJ hy;exact Q.inj x y _ _ _ _ b (n x o u) (n y o2 a3) V U;obtain⟨C,h8,h9⟩:=Q.jv x none 0 o (T x o u).1;rw[n x o u] at h8;cases h8;exact (h9 trivial).EE Z rfl (T x o u).2
 rcases D with rfl|rfl<;>exact this
end
section
variable {A:lh} {s s':St} {a:Act} {w:ae} {env:Env}
def yP(kO:List Nat)(s:St):ug->Bool
 |[]=>true|(x,.box _ _)::l=>(match find s.o x with
  |some (_,0,_)=>kO.any (bu x)|_=>false)&&yP kO s l
 |_::l=>yP kO s l
theorem aJo{kO:List Nat}:∀ {os:ug} {x:Nat} {t:bi} {l:dw},yP kO s os=true->find os x=some (.box t l)->∃ g ob,find s.o x=some (g,0,ob)/\kO.any (bu x)=true
 |(y,o)::os,x,t,l,h,hf=>by by_cases hy:y=x;subst hy;rw[aF] at hf;cases hf;unfold yP at h;rw[ww] at h;have h1:=h.1;split at h1;exact⟨_,_,by assumption,h1⟩;cases h1;rw[aC _ _ hy] at hf;refine aJo (os:=os) ?_ hf;unfold yP at h;split at h;rename_i e;cases e;rename_i e;cases e;rw[ww] at h;exact h.2;rename_i e;cases e;exact h
def aVu(os:ug)(R:List (Nat×(Nat->dw)))(kT kO:List Nat)(s:St):Option (List Prop×St):=match yH [] kO s kT,tN R [] kO s kO,yP kO s os with
 |some t,some (b,o),true=>some (b,⟨t,o⟩)|_,_,_=>none
theorem oq.jh{os:ug}{R:List (Nat×(Nat->dw))}{kT kO:List Nat}{cs:List Prop}(h:oq A s a w)(g:YI os A)(hr:aVu os R kT kO s=some (cs,s'))(hc:All cs):oq A s' a w:=by
 unfold aVu at hr
 cases d:yH [] kO s kT<;>cases c:tN R [] kO s kO<;>cases b:yP kO s os<;>simp only[d,c,b] at hr<;>try (cases hr;done)
 rename_i t q;obtain⟨j,o⟩:=q;cases hr
 exact h.JH d c hc BN.nil (fun x f e=>by
  obtain⟨t,l,i⟩:=g x f e
  exact aJo b i)
def Fz(m:Nat->Nat):PC->Option PC
 |.lit v=>some (.lit v)|.bs n l=>some (.bs n l)|.sl n len f=>some (.sl n len f)|.ow x b n c len=>some (.ow (m x) b n c len)|.pt x b c=>some (.pt (m x) b c)|.any=>some .any|_=>none
def BU(m:Nat->Nat):dw->Option dw
 |[]=>some []|c::l=>match Fz m c,BU m l with
  |some c,some l=>some (c::l)|_,_=>none
def JL(m:Nat->Nat):PW->Option PW
 |.one c=>match Fz m c with|some c=>some (.one c)|none=>none
 |.agg l=>match BU m l with|some l=>some (.agg l)|none=>none
def Fv(m:Nat->Nat):List (Nat×mi×PV)->Option (List (Nat×mi×PV))
 |[]=>some []|(t,g,.w x)::l=>(match JL m x,Fv m l with
  |some x,some l=>some ((t,g,.w x)::l)|_,_=>none)
 |_=>none
def BI(m:Nat->Nat)(R:List (Nat×(Nat->dw))):Wr->Option (List Prop×Wr)
 |[]=>some ([],[])|(x,g,b,.box t l)::o=>(match BU m l,BI m R o with
  |some l,some (c,o)=>some (c,(m x,g,b,.box t l)::o)|_,_=>none)
 |(x,g,b,.arr e n len f)::o=>(match find R x,BI m R o with
  |some d,some (c,o)=>some ((∀ i,i<len->BU m (f i)=some (d i))::c,(m x,g,b,.arr e n len d)::o)|none,some (c,o)=>some ((∀ i,i<len->(f i).all (aY false)=true)::c,(m x,g,b,.arr e n len f)::o)|_,_=>none)
 |_=>none
def Ec(m:Nat->Nat):List Nat->Bool
 |[]=>true|x::l=>(l.all fun y=>!Nat.beq (m x) (m y))&&Ec m l
def aCR(m:Nat->Nat)(l:List Nat):Bool:=l.all fun x=>Hm x dx||bu (m x) x
def aCP(m:Nat->Nat)(R:List (Nat×(Nat->dw)))(s:St):Option (List Prop×St):=match Fv m s.t,BI m R s.o,Ec m (s.o.map (·.1))&&aCR m (s.o.map (·.1)) with
 |some t,some (b,o),true=>some (b,⟨t,o⟩)|_,_,_=>none
def EG(m:Nat->Nat)(l:List Nat)(env:Env):Env:=fun z=>match find (l.map fun x=>(m x,x)) z with
 |some x=>env x|none=>none
theorem bDo:∀ {m:Nat->Nat} {l:List Nat},Ec m l=true->∀ x∈l,find (l.map fun x=>(m x,x)) (m x)=some x
 | m,y::l,h,x,b=>by
  simp only[Ec,ww] at h;rw[DD];rcases List.mem_cons.1 b with rfl|b;exact aF _ _ _
  have c:m y≠m x:=fun e=>by have:=List.all_eq_true.1 h.1 x b;rw[e,aCg] at this;cases this
  rw[aC _ _ c];exact bDo h.2 x b
theorem aCj{m:Nat->Nat}:∀ {l:List Nat} {z x:Nat},find (l.map fun x=>(m x,x)) z=some x->x∈l/\m x=z
 |y::l,z,x,h=>by rw[DD] at h;by_cases b:m y=z;rw[<-b,aF] at h;cases h;exact⟨MM,b⟩;rw[aC _ _ b] at h;obtain⟨d,c⟩:=aCj h;exact⟨VM _ d,c⟩
theorem find_some_of{c:Type}:∀ {o:List (Nat×c)} {x:Nat},find o x≠none->x∈o.map (·.1)
 |[],x,h=>absurd rfl h|(y,p)::o,x,h=>by by_cases b:y=x;subst b;exact MM;rw[aC _ _ b] at h;exact VM _ (find_some_of h)
section
variable {m:Nat->Nat} {C C':Ctx}
theorem R.ren(hc:C.cold.Le C'.cold)(l:∀ x d g,C.env x=some (d,g)->C'.env (m x)=some (d,g)){c j:PC}{xs:ji}(hr:R C c xs)(h:Fz m c=some j):R C' j xs:=by
 have f:∀ {x d p},At C x d p->At C' (m x) d p:=fun⟨k,g,b,e,i⟩=>⟨k,g,l _ _ _ b,e,i⟩;cases hr with
 |ow b e=>cases h;exact .ow b (f e)|pt b e=>cases h;exact .pt b (f e)|lit b=>cases h;exact .lit b|bs b=>cases h;exact .bs b|any b=>cases h;exact .any b|sl b e i=>cases h;exact (R.sl (C:=C.cold) b e i).le (C':=C'.cold) hc |>.le ⟨dC _,fun _ _ n=>⟨n,rfl⟩,fun _ _ _ h=>by cases h⟩|_=>cases h
theorem RL.ren(hc:C.cold.Le C'.cold)(g:∀ x b i,C.env x=some (b,i)->C'.env (m x)=some (b,i)):∀ {l f:dw} {e:ji},RL C l e->BU m l=some f->RL C' f e
 |[],_,_,d,h=>by cases h;cases d;exact .nil|c::l,_,_,d,h=>by
  unfold BU at h
  cases k:Fz m c<;>cases j:BU m l<;>simp only[k,j] at h<;>try (cases h;done)
  cases h;cases d with
  |cons o n=>exact .cons (o.ren hc g k) (RL.ren hc g n j)
theorem RW.ren(hc:C.cold.Le C'.cold)(g:∀ x b i,C.env x=some (b,i)->C'.env (m x)=some (b,i)){x f:PW}{v:ag}(hr:RW C x v)(h:JL m x=some f):RW C' f v:=by
 unfold JL at h;cases hr with
 |@one c _ e=>
  cases d:Fz m c<;>simp only[d] at h<;>cases h
  exact .one (e.ren hc g d)
 |@agg l _ e=>
  cases d:BU m l<;>simp only[d] at h<;>cases h
  exact .agg (e.ren hc g d)
end
theorem aSp{m:Nat->Nat}:∀ {l c:List (Nat×mi×PV)} {t:Nat} {g:mi} {pv:PV},Fv m l=some c->find c t=some (g,pv)->∃ x e,find l t=some (g,.w x)/\JL m x=some e/\pv=.w e
 |[],_,t,g,pv,h,b=>by cases h;cases b|(t0,p,.w x)::l,c,t,g,pv,h,b=>by
  unfold Fv at h
  cases i:JL m x<;>cases f:Fv m l<;>simp only[i,f] at h<;>cases h
  by_cases d:t0=t;subst d;rw[aF] at b;cases b;exact⟨x,_,aF _ _ _,i,rfl⟩;rw[aC _ _ d] at b;obtain⟨y,j,o,n,k⟩:=aSp f b;exact⟨y,j,(aC _ _ d).trans o,n,k⟩
 |(_,_,.og _)::_,_,_,_,_,h,_=>by cases h|(_,_,.none)::_,_,_,_,_,h,_=>by cases h
def aCQ(m:Nat->Nat):lu->lu->Prop
 |.box t l,.box c l'=>t=c/\BU m l=some l'|.arr e n len f,.arr h d b g=>e=h/\n=d/\len=b/\∀ i,i<len->BU m (f i)=some (g i)|_,_=>False
theorem aOf{m:Nat->Nat}:∀ {l:dw},l.all (aY false)=true->BU m l=some l
 |[],_=>rfl| c::l,h=>by
  rw[ZF,ww] at h
  have d:Fz m c=some c:=by
   have b:=h.1
   cases c<;>first|rfl|cases b
  rw[BU,d,aOf h.2]
theorem aKq{m:Nat->Nat}{R:List (Nat×(Nat->dw))}:∀ {o r:Wr} {B:List Prop} {z:Nat} {g:mi} {b:Nat} {c:lu},BI m R o=some (B,r)->All B->find r z=some (g,b,c)->∃ x j,(x,g,b,j)∈o/\m x=z/\aCQ m j c
 |[],_,_,z,g,b,c,h,_,d=>by cases h;cases d|(x,K,I,.box t l)::o,r,B,z,g,b,c,h,hc,d=>by
  unfold BI at h
  cases u:BU m l<;>cases p:BI m R o<;>simp only[u,p] at h<;>cases h
  rename_i q;obtain⟨G,J⟩:=q;by_cases k:m x=z;subst k;rw[aF] at d;cases d;exact⟨x,_,MM,rfl,rfl,u⟩;rw[aC _ _ k] at d;obtain⟨y,j,F,E,D⟩:=aKq p hc d;exact⟨y,j,VM _ F,E,D⟩
 | (x,K,I,.arr e n len f)::o,r,B,z,g,b,c,h,hc,d=>by
  unfold BI at h
  cases u:find R x<;>cases p:BI m R o<;>simp only[u,p] at h<;>cases h
  all_goals
   rename_i q;obtain⟨G,J⟩:=q;by_cases k:m x=z
   ·subst k;rw[aF] at d;cases d;refine⟨x,_,MM,rfl,rfl,rfl,rfl,fun i H=>?_⟩
    first|exact hc.1 i H|exact aOf (hc.1 i H)
   rw[aC _ _ k] at d;obtain⟨y,j,F,E,D⟩:=aKq p hc.2 d;exact⟨y,j,VM _ F,E,D⟩
 |(_,_,_,.dead)::_,_,_,_,_,_,_,h,_,_=>by cases h|(_,_,_,.dev _ _ _)::_,_,_,_,_,_,_,h,_,_=>by cases h
end
section
variable {A:lh} {s s':St} {a:Act} {w:ae} {env:Env}
theorem aOe{m:Nat->Nat}:∀ {o:Wr} {x:Nat} {p:mi×Nat×lu},Ec m (o.map (·.1))=true->(x,p)∈o->find o x=some p
 | (y,q)::o,x,p,h,b=>by
  simp only[DD,Ec,ww] at h;rcases List.mem_cons.1 b with e|b
  cases e;exact aF _ _ _;have c:y≠x:=fun e=>by have:=List.all_eq_true.1 h.1 x (List.mem_map.2 ⟨_,b,rfl⟩);rw[e,aCg] at this;cases this
  rw[aC _ _ c];exact aOe h.2 b
theorem oq.ren{m:Nat->Nat}{R:List (Nat×(Nat->dw))}{cs:List Prop}(h:oq A s a w)(hS:A.S=Non)(hr:aCP m R s=some (cs,s'))(Z:All cs):oq A s' a w:=by
 obtain⟨env,h⟩:=h;unfold aCP at hr
 cases T:Fv m s.t<;>cases N:BI m R s.o<;>cases L:Ec m (s.o.map (·.1))&&aCR m (s.o.map (·.1))<;>simp only[T,N,L] at hr<;>try (cases hr;done)
 rename_i t q;obtain⟨b0,o⟩:=q;cases hr;rw[ww] at L;obtain⟨h3,a8⟩:=L;have Y:∀ x c d,env x=some (c,d)->x∈s.o.map (·.1):=fun x c d B=>find_some_of (fun Q=>by rw[h.dom x Q] at B;cases B);have eN:∀ x c d,env x=some (c,d)->EG m (s.o.map (·.1)) env (m x)=some (c,d):=fun x c d B=>by unfold EG;rw[bDo h3 x (Y x c d B)];exact B
 have eO:∀ z c d,EG m (s.o.map (·.1)) env z=some (c,d)->∃ x,m x=z/\x∈s.o.map (·.1)/\env x=some (c,d):=fun z c d B=>by unfold EG at B;split at B;rename_i x u;obtain⟨H,W⟩:=aCj u;exact⟨x,W,H,B⟩;cases B
 have a5:∀ b,(aI A w env).ok b->(aI A w (EG m (s.o.map (·.1)) env)).ok b:=fun b D=>⟨D.1,fun z c d J e=>by
  obtain⟨x,_,_,u⟩:=eO z c d J
  exact D.2 x c d u e⟩
 have j:(aI A w env).cold.Le (aI A w (EG m (s.o.map (·.1)) env)).cold:=⟨dC _,fun b _ D=>⟨a5 b D,rfl⟩,fun _ _ _ h=>by cases h⟩;refine⟨EG m (s.o.map (·.1)) env,{ iq:=h.iq,size:=h.size,dom:=fun z J=>?_,jv:=fun z g c ob K=>?_,live:=fun z c d b J D=>?_,inj:=fun y z v1 T v2 N b X J a7 a6=>?_,tmps:=fun t' g pv K hg=>?_,defers:=h.defers,und:=fun t' pv K=>?_,n_:=fun x d u=>?_,dev:=fun g c O dn l K hg=>?_ }⟩
 ·cases a4:EG m (s.o.map (·.1)) env z with
  |none=>rfl| some p=>
   obtain⟨c,d⟩:=p;obtain⟨x,rfl,u,_⟩:=eO z c d a4;exfalso
   have a2:∀ {R:List (Nat×(Nat->dw))} {l o:Wr} {cs:List Prop},BI m R l=some (cs,o)->x∈l.map (·.1)->find o (m x)=none->False:=by
    intro R l
    induction l with
    |nil=>intro o cs _ u _;cases u| cons p l ih=>
     intro o cs E u Q;obtain⟨y,g,P,ob⟩:=p;have r:∀ {U:lu} {o2:Wr} {a1:List Prop},BI m R l=some (a1,o2)->o=(m y,g,P,U)::o2->False:=fun {U o2 a1} h5 e=>by subst e;by_cases X:m y=m x;rw[<-X,aF] at Q;cases Q;rw[aC _ _ X] at Q;rcases List.mem_cons.1 u with e|u;exact X (by rw[e]);exact ih h5 u Q
     cases ob with
     |box t l2=>
      unfold BI at E
      cases h6:BU m l2<;>cases C:BI m R l<;>simp only[h6,C] at E<;>cases E
      exact r C rfl
     |arr e n len f=>
      unfold BI at E
      cases h6:find R y<;>cases C:BI m R l<;>simp only[h6,C] at E<;>cases E
      exact r C rfl;exact r C rfl
     |dead=>cases E|dev _ _ _=>cases E
   exact a2 N u J
 ·obtain⟨x,F,H,rfl,I⟩:=aKq N Z K;obtain⟨d,V,k5⟩:=h.jv x g c F (aOe h3 H);refine⟨d,eN x c d V,fun hg=>?_⟩;have k6:=k5 hg
  cases F<;>cases ob<;>try exact I.elim
  obtain⟨rfl,k7⟩:=I;obtain⟨g0,a9,k8,k9,a3⟩:=k6;exact⟨g0,a9,k8,k9,a3.ren j eN k7⟩;obtain⟨rfl,rfl,rfl,k7⟩:=I;obtain⟨vs,k8,k9⟩:=k6;exact⟨vs,k8,fun i hi=>(k9 i hi).ren j eN (k7 i hi)⟩
 obtain⟨x,rfl,_,B⟩:=eO z c d J;exact⟨(h.live x c d b B D).1,.inl ((h.live x c d b B D).2.resolve_right fun k=>by have:=k.1;rw[hS] at this;exact this.elim)⟩;obtain⟨x1,rfl,_,e1⟩:=eO y v1 T X;obtain⟨x2,rfl,_,e2⟩:=eO z v2 N J;rw[h.inj x1 x2 v1 T v2 N b e1 e2 a7 a6];obtain⟨x,x',H,W,rfl⟩:=aSp T K;obtain⟨v,I,V⟩:=h.tmps t' g _ H hg;cases V with
 |w V=>exact⟨v,I,.w (V.ren j eN W)⟩
 obtain⟨x,x',H,W,rfl⟩:=aSp T K;exact h.und t' _ H;obtain⟨D,P,G,E,h5,h6⟩:=h.n_ x d u;have a0:env x=some (P,G):=E;have C:=List.all_eq_true.1 a8 x (Y x P G a0)
 have h8:m x=x:=by
  rw[Bool.or_eq_true] at C;rcases C with C|C
  have h9:x+1<=dx:=by simpa[Hm] using C
  have:=Yp D;omega;exact ig C
 refine⟨D,P,G,?_,h5,h6⟩;have:=eN x P G a0;rw[h8] at this;exact this
 ·obtain⟨x,F,H,W,I⟩:=aKq N Z K
  cases F<;>exact I.elim
end
theorem oq.Dj{A:lh}{s:St}{a:Act}{w:ae}{x e n b y G len j:Nat}{f f':Nat->dw}(h:oq A s a w)(F:find s.o x=none)(hb:find s.o b=some (none,y,.arr G 1 len f))(h1:f j=[.lit (.slice none 0 0)])(h2:f' j=[.ow x 0 n 0 0])(h3:∀ i,i<len->i≠j->f' i=f i) :
  oq A { t:=s.t,o:=(b,none,y,.arr G 1 len f')::(x,none,0,.arr e n 0 (fun _=>[]))::s.o } a w:=by
 obtain⟨env,h⟩:=h;have C:fresh s x=0:=by unfold fresh;rw[F]
 obtain⟨m,P⟩:=h.new (w':=w) x none (.slice none 0 0) (.arr e n 0 (fun _=>[])) (Ext.refl w) (fun b hb=>by cases hb) (fun _ _=>⟨[],⟨b_,.inl ⟨rfl,rfl⟩⟩,fun i u=>a_⟩);rw[C] at m P;have B:x≠b:=fun e=>by subst e;rw[F] at hb;cases hb
 refine⟨_,{ m with dom:=fun p d=>?_,jv:=fun p g k o d=>?_,tmps:=fun H g pv d r=>m.tmps H g pv d r,dev:=fun g k O dn l d r=>?_ }⟩;by_cases c:b=p;subst c;rw[aF] at d;cases d;rw[aC _ _ c] at d;exact m.dom p d;by_cases c:b=p;subst c;rw[aF] at d;cases d;obtain⟨Q,N,L⟩:=m.jv b none y _ (show find ((x,none,0,lu.arr e n 0 (fun _=>[]))::s.o) b=_ by rw[aC _ _ B];exact hb);refine⟨Q,N,fun r=>?_⟩;obtain⟨D,K,E⟩:=L r;refine⟨D,K,fun i u=>?_⟩;by_cases q:i=j;subst q;have z:=E i u;rw[h1] at z;rw[h2];generalize (D.drop (i*1)).take 1=S at z;cases z with
 |@cons _ _ _ U T J I=>cases I;cases J;exact .cons (xs:=[_]) (.ow ⟨_,_,rfl⟩ ⟨0,_,fO _ _ _ _,dC _,fun _=>⟨none,0,0,rfl,a_,rfl⟩⟩) .nil
 rw[h3 i u q];exact E i u;rw[aC _ _ c] at d;exact m.jv p g k o d;by_cases c:b=dx;subst c;rw[aF] at d;cases d;rw[aC _ _ c] at d;exact m.dev g k O dn l d r
end Pv
end Go.Proofs.YtndpjopifkbgiaaGreatDoor
