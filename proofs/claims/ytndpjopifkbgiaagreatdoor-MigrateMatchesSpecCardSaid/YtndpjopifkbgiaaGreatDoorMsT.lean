/-
  Several texts in one file: each has its own heading below.
-/
import Derived.Test.YtndpjopifkbgiaaGreatDoorMsS
import Derived.Test.YtndpjopifkbgiaaGreatDoorMsL
import Derived.Test.YtndpjopifkbgiaaGreatDoorMsR
import Derived.Test.YtndpjopifkbgiaaGreatDoorMsO
import Derived.Test.YtndpjopifkbgiaaGreatDoorMsP
set_option maxRecDepth 100000
set_option maxHeartbeats 4000000
namespace Go.Proofs.YtndpjopifkbgiaaGreatDoor
open Go.RowKit Tryz
open _root_.List renaming length_append->ed,length_drop->AC,append_assoc->yl,length_take->uk,take_of_length_le->IR,append_nil->Pi,drop_drop->aAD,replicate->DD,mem_cons->xn
open _root_.Array renaming length_toList->mf
open _root_.Go.IntKind renaming wrap_i64->TC
open _root_.Int renaming toNat_natCast->MM,toNat->YK
open _root_.Nat renaming zero_add->lL,le_trans->mr
namespace Pv
def C9(rec:Int)(c:ByteArray)(m:iy)(s:h_):h_×Ce:=
 if 2000<c.size then (s,⟨aH,0,19⟩) else
 if (aO m (ah.cur rec) s).2.stop=true then ((aO m (ah.cur rec) s).2,⟨aH,0,0⟩) else ((aO m (ah.save rec c) s).2,(aO m (ah.save rec c) s).1)
def W_(rec:Int)(c:ByteArray):Ai:=fun m s=>((C9 rec c m s).1,ZT (C9 rec c m s).2)
theorem aJn:rowB 256 (fun _=>[PC.lit (.int .u8 0)])=gU:=by decide +kernel
def CS(c:ByteArray)(seq F:Int)(b:List UInt8)(i:Nat):ah Ce:=(ah.ED F b (nsec b-i) i).bind fun _=>(ah.wr F (strOf (jq b 0))).bind fun _=>.ret ⟨c,seq,0⟩
theorem bKk(c:ByteArray)(seq F:Int)(b:List UInt8){i:Nat}(a:i<nsec b)(m:iy)(s:h_):aO m (CS c seq F b i) s=aO m (CS c seq F b (i+1)) (aO m (ah.wr (F+(i:Int)) (strOf (jq b i))) s).2:=by
 have e:nsec b-i=(nsec b-(i+1))+1:=by omega
 unfold CS;rw[e,ah.ED,ah.bind_assoc,dS]
theorem Kr(c:ByteArray)(seq F:Int)(b:List UInt8){i:Nat}(a:¬i<nsec b)(m:iy)(s:h_):aO m (CS c seq F b i) s=(⟨c,seq,0⟩,(aO m (ah.wr F (strOf (jq b 0))) s).2):=by
 have e:nsec b-i=0:=by omega
 unfold CS;rw[e];rfl
def U5(m:iy)(c:ByteArray)(a:Int)(b:List UInt8)(F:Int)(cs:h_)(i:Nat):St:=
 ⟨
  [(0,none,d_ (.pt px 0 0)),(2,none,jr c),(6,none,d_ (.pt 0 0 0)),(8,none,di a),(10,none,d_ (.ow 10004 0 1 0 b.length)),(11,none,di F),(12,none,di (i:Int))],
  [(px,none,0,.box 96 (qo m cs)),(10004,none,0,.arr 5 1 b.length (m_ b)),(0,none,0,.box 164 [.lit (.string aH),.lit (.int .i64 0),.lit (.int .i64 0)])]⟩
theorem aQu(b:List UInt8)(k:Nat):(strOf (jq b k)).size=256:=by rw[bJ];unfold jq;rw[ed,List.length_replicate,uk];omega
theorem bAs(rec:Int)(hr:0<=rec/\rec<=3)(c:ByteArray):uw 90 [di rec,jr c] (fun m s=>qp m s) (W_ rec c):=by
 intro m s V hC o;have M:=Qs m s;have a4:prog.types[5].bytes=1:=by kernel_rfl
 have a5:prog.types[5].size=1:=by kernel_rfl
 have T:g_ rec:=by unfold g_;omega
 have a8:=(pU hr (k:=0) a_).1;unfold W_ at o ⊢;dsimp only at o ⊢;obtain⟨R,f⟩:∃ R,C9 rec c m s=R:=⟨_,rfl⟩;rw[f] at o ⊢;unfold C9 at f;refine dM func90 rfl rfl rfl (fun A hn hI=>?_);refine aB ?_;refine aG ?_;refine aB ?_;refine aI (fun g=>?_) (fun g=>?_);have h:bF rec 0<0:=of_decide_eq_true g;omega;refine aJ ?_;refine aG ?_;refine aB ?_;refine aI (fun g=>?_) (fun g=>?_)
 ·have Y:2000<c.size:=by have:=of_decide_eq_true g;omega
  rw[if_pos Y] at f;refine aB ?_;rw[<-f];refine bT ?_
  all_goals rfl
 have Y:¬2000<c.size:=by have:=of_decide_eq_false g;omega
 rw[if_neg Y] at f;refine aJ ?_;have hp:ah.save rec c=(ah.cur rec).bind fun p=>if 1099511627776<p.1.1+1 then .ret ⟨aH,0,19⟩ else (ah.write (bF rec (1-(p.2:Int))) (encS rec (p.1.1+1) c.data.toList)).bind fun _=>.ret ⟨c,p.1.1+1,0⟩:=by unfold ah.save;rw[if_neg a_,if_neg Y]
 rw[hp,dS] at f;have C:(aO m (ah.cur rec) s).2.i<=1000000:=by split at f;rw[<-f] at o;exact o;rw[<-f] at o;exact mr (jL m _ _) o
 refine aF ?_ ?_;simp;exact⟨V,⟨hr,hC⟩,C⟩;have j:=jH (ah.cur rec) V C;have E:=hC.BF (iO m (ah.cur rec) s);have N:=aGm (bNi rec) m s;obtain⟨q,Q,U⟩:∃ q Q,aO m (ah.cur rec) s=(q,Q):=⟨_,_,rfl⟩;rw[U] at f j N E;dsimp only at f j N E;refine aU (⟨[(0,none,d_ (.pt px 0 0)),(1,none,di rec),(2,none,jr c),(6,none,d_ (.pt 0 0 0)),(7,none,di (Af (q,Q)).1),(8,none,di (Af (q,Q)).2.1)],[(px,none,0,.box 96 (qo m Q)),(0,none,0,.box 164 [.lit (.string aH),.lit (.int .i64 0),.lit (.int .i64 0)])]⟩) ?_ ?_ ?_;refine .cons rfl (.cons rfl (.cons rfl (.cons rfl (.cons ?_ (.cons ?_ .nil)))));change di (Af (aO m (ah.cur rec) s)).1=_;rw[U];change di (Af (aO m (ah.cur rec) s)).2.1=_;rw[U];refine .cons (.box ?_) (.cons (.box rfl) .nil);change qo m (aO m (ah.cur rec) s).2=_;rw[U];clear U C M;obtain⟨G,d,Z,I,H⟩:=Q;refine aG ?_;have M:=Qs m ⟨G,d,Z,I,H⟩;refine aB ?_;refine aI (fun g=>?_) (fun g=>?_)
 ·have L:Z=true:=g;subst L;rw[if_pos rfl] at f;refine aB ?_;rw[<-f];refine bT ?_
  all_goals rfl
 have L:Z=false:=g;subst L;rw[if_neg ay] at f;refine aJ ?_;have e1:(Af (q,⟨G,d,false,I,H⟩)).1=(q.2:Int):=rfl;have e2:(Af (q,⟨G,d,false,I,H⟩)).2.1=q.1.1:=rfl;rw[e1,e2];obtain⟨⟨e,co⟩,l⟩:=q;dsimp only at f N ⊢;refine aG ?_;refine aB ?_;refine aI (fun g=>?_) (fun g=>?_)
 ·have h7:1099511627776<e+1:=by have h0:e=1099511627776:=(by simpa using g);omega
  rw[if_pos h7] at f;refine aB ?_;rw[<-f];refine bT ?_
  all_goals rfl
 have h7:¬1099511627776<e+1:=by have h0:¬e=1099511627776:=(by simpa using g);omega
 rw[if_neg h7] at f;refine aJ ?_;have y:IntKind.i64.wrap (e+1)=e+1:=dD a_ a_;have O:IntKind.i64.wrap (1-(l:Int))=1-(l:Int):=dD a_ a_;have W:=pU hr (k:=1-(l:Int)) a_;refine aF ?_ ?_;simp;rw[y];exact⟨T,⟨by omega,by omega⟩,by omega⟩;refine aB ?_;have a3:(encS rec (e+1) c.data.toList).length<=2048/\0<(encS rec (e+1) c.data.toList).length:=by rw[mX,nX];have:=aP (e+1);have:=aP (c.data.toList.length:Int);have a9:c.data.toList.length=c.size:=mf;omega
 have D:R=((aO m (CS c (e+1) (bF rec (1-(l:Int))) (encS rec (e+1) c.data.toList) 1) (aO m (ah.wr (bF rec (1-(l:Int))) (strOf gU)) ⟨G,d,false,I,H⟩).2).2,(aO m (CS c (e+1) (bF rec (1-(l:Int))) (encS rec (e+1) c.data.toList) 1) (aO m (ah.wr (bF rec (1-(l:Int))) (strOf gU)) ⟨G,d,false,I,H⟩).2).1):=by rw[<-f];unfold ah.write;rw[ah.bind_assoc,dS];unfold CS;rw[ah.bind_assoc]
 clear f;have B:(aO m (ah.wr (bF rec (1-(l:Int))) (strOf gU)) ⟨G,d,false,I,H⟩).2.i<=1000000:=by rw[D] at o;exact mr (jL m _ _) o
 refine aF ?_ ?_;simp;rw[O,aJn];exact⟨by rw[a4];omega,fun i _=>rfl,j,⟨E,⟨W.1,by omega⟩,by decide +kernel⟩,B⟩;refine aG ?_;refine aB ?_;have J:=jH (ah.wr (bF rec (1-(l:Int))) (strOf gU)) j B;have X:=E.BF (iO m (ah.wr (bF rec (1-(l:Int))) (strOf gU)) ⟨G,d,false,I,H⟩);refine bY (s':=U5 m c e (encS rec (e+1) c.data.toList) (bF rec (1-(l:Int))) (aO m (ah.wr (bF rec (1-(l:Int))) (strOf gU)) ⟨G,d,false,I,H⟩).2 1) (fun a w hg=>(hg.reset (kT:=[0,2,6,8,10,11,12]) (kO:=[px,10004,0]) f_ (by simp;exact fun i _ x K=>pM _ i x K)).same ?_ ?_) ?_;refine .cons rfl (.cons rfl (.cons rfl (.cons rfl (.cons ?_ (.cons ?_ (.cons rfl .nil))))));rw[y];rw[O];refine .cons (.box ?_) (.cons (.arr ?_ (fun i _=>?_)) (.cons (.box rfl) .nil));change qo m (aO m (ah.wr (bF rec (IntKind.i64.wrap (1-(l:Int)))) (strOf (rowB 256 (fun _=>[PC.lit (.int .u8 0)])))) ⟨G,d,false,I,H⟩).2=_;rw[O,aJn];rw[y];rw[y];clear M j E B;generalize (aO m (ah.wr (bF rec (1-(l:Int))) (strOf gU)) ⟨G,d,false,I,H⟩).2=s2 at D J X ⊢;generalize bF rec (1-(l:Int))=F at D W ⊢;generalize encS rec (e+1) c.data.toList=b at D a3 ⊢;have hN:nsec b<=8/\0<nsec b:=by unfold nsec;omega
 refine aQ ?_;refine fF (nsec b) (fun i t=>∃ u,t=U5 m c e b F u i/\0<i/\ru m u/\qp m u/\R=((aO m (CS c (e+1) F b i) u).2,(aO m (CS c (e+1) F b i) u).1)) 1 ⟨_,rfl,by omega,J,X,D⟩ a_ (fun i t hJ a6=>?_);obtain⟨u,rfl,a7,z,P,r⟩:=hJ;have M:=Qs m u;refine aG ?_;have a0:IntKind.i64.wrap (256*(i:Int))=256*(i:Int):=dD a_ a_;refine aB ?_;rw[a0];refine aI (fun g=>?_) (fun g=>?_);have a1:i<nsec b:=by have h0:=of_decide_eq_true g;unfold nsec;omega
 refine aJ ?_;refine aG ?_;refine aQ ?_;have S:IntKind.i64.wrap (F+(i:Int))=F+(i:Int):=dD a_ a_;rw[bKk _ _ _ _ a1] at r;have n:(aO m (ah.wr (F+(i:Int)) (strOf (jq b i))) u).2.i<=1000000:=by rw[r] at o;exact mr (jL m _ _) o
 refine bC M hI hn (by rfl) (by kernel_rfl) ?_ ?_;simp;rw[S];exact⟨fun i _ x K=>pM _ i x K,⟨by omega,by omega⟩,z,⟨P,by omega,aQu _ _⟩,n⟩;change lh _ _ _ _ _;refine gI ?_;intro a w hg;refine⟨i+1,_,by omega,by omega,⟨_,rfl,by omega,jH _ z n,P.BF (iO m _ _),r⟩,(hg.reset (kT:=[0,2,6,8,10,11,12]) (kO:=[px,10004,0]) f_ (by simp;exact fun i _ x K=>pM _ i x K)).same ?_ ?_⟩;exact .cons rfl (.cons rfl (.cons rfl (.cons rfl (.cons rfl (.cons rfl (.cons (by rw[cO i a_]) .nil))))));refine .cons (.box ?_) (.cons (.arr rfl (fun i _=>rfl)) (.cons (.box rfl) .nil));change qo m (aO m (ah.wr (IntKind.i64.wrap (F+(i:Int))) (strOf (jq (rowB b.length fun i=>m_ b (0+i)) ((i:Int)).toNat))) u).2=_;rw[S,vY,MM]
 ·have a2:¬i<nsec b:=by have h0:=of_decide_eq_false g;unfold nsec;omega
  rw[Kr _ _ _ _ a2] at r;have n:(aO m (ah.wr F (strOf (jq b 0))) u).2.i<=1000000:=by rw[r] at o;exact o
  refine eP ?_;change lh _ _ _ _ _;refine aF ?_ ?_;simp;exact⟨fun i _ x K=>pM _ i x K,by omega,z,⟨P,by omega,aQu _ _⟩,n⟩;refine aB ?_;rw[r];refine aU (⟨[(6,none,d_ (.pt 0 0 0))],[(px,none,0,.box 96 (qo m (aO m (ah.wr F (strOf (jq b 0))) u).2)),(0,none,0,.box 164 [.lit (.string c),.lit (.int .i64 (e+1)),.lit (.int .i64 0)])]⟩) ?_ ?_ ?_;exact ig;refine .cons (.box ?_) (.cons (.box ?_) .nil);change qo m (aO m (ah.wr F (strOf (jq (rowB b.length fun i=>m_ b (0+i)) (YK 0)))) u).2=_;rw[vY];rfl;change [PC.lit (.string c),PC.lit (.int .i64 (IntKind.i64.wrap (e+1))),PC.lit (.int .i64 0)]=_;rw[y];refine bT ?_
  all_goals rfl
def bMd:List PV->Option (BC×Ai)
 |[.w (.one (.lit (.int .i64 rec))),.w (.one (.lit (.string c)))]=>some (fun m s=>(0<=rec/\rec<=3)/\qp m s,W_ rec c)|_=>none
theorem aTs(m:iy)(s:h_):ai prog af 90 (dI 96 (uq m s bMd)):=
 eU (aC func90 aj rfl) (fun d C F h=>by
  unfold bMd at h;split at h;cases h;exact fun m s a b c=>bAs _ b.1 _ m s a b.2 c
  cases h)
theorem aUx:jl prog af (find []):=⟨bD (fun p a=>by cases a),dG⟩
theorem bHc(e:Int):fP prog af 31 true [di e] (.w (.agg (gm (dX e)))):=by have M:=aUx;refine bH func31 rfl rfl bK (fun A b a c=>?_);refine aB ?_;refine aB ?_;exact jC
def Bc(m:je):Int:=if m.kind<1\/7<m.kind then 1 else if (m.kind=1\/m.kind=3)/\1000<m.payload.size then 2 else
 if m.kind=5/\(m.ol<0\/16<=m.ol\/¬m.ol.tmod 2=0\/m.ot=m.id) then 1 else if m.kind=7/\¬m.xt=m.id then 1 else 0
theorem IG(m:je):fP prog af 30 true [.w (.agg (um m))] (di (Bc m)):=by
 have M:=aUx;refine bH func30 rfl rfl bK (fun A p o q=>?_);obtain⟨e,g⟩:∃ e,Bc m=e:=⟨_,rfl⟩;rw[g];unfold Bc at g;refine aB ?_;refine aG ?_;refine aB ?_;refine aI (fun f=>?_) (fun f=>?_);refine aB ?_;have h:m.kind<1\/7<m.kind:=by simp at f;omega
 rw[if_pos h] at g;rw[<-g];exact jC;have i:¬(m.kind<1\/7<m.kind):=by simp at f;omega
 rw[if_neg i] at g;refine aJ ?_;refine aG ?_;refine aB ?_;refine aI (fun f=>?_) (fun f=>?_);refine aB ?_;have h:(m.kind=1\/m.kind=3)/\1000<m.payload.size:=by simp at f;omega
 rw[if_pos h] at g;rw[<-g];exact jC;have n:¬((m.kind=1\/m.kind=3)/\1000<m.payload.size):=by simp at f;omega
 rw[if_neg n] at g;refine aJ ?_;refine aB ?_;refine aG ?_;refine aF ?_ ?_;simp;exact⟨fun a b=>⟨a,b⟩,fun a b c=>⟨a,b,c⟩,fun a b c d=>⟨a,⟨b,c⟩,d⟩⟩;refine aI (fun f=>?_) (fun f=>?_);refine aB ?_
 have h:m.kind=5/\(m.ol<0\/16<=m.ol\/¬m.ol.tmod 2=0\/m.ot=m.id):=by
  simp at f;rcases f with⟨i,((h|h)|h)|h⟩
  exact⟨i,.inl h⟩;exact⟨i,.inr (.inl h)⟩;exact⟨i,.inr (.inr (.inl h))⟩;exact⟨i,.inr (.inr (.inr h))⟩
 rw[if_pos h] at g;rw[<-g];exact jC;have l:¬(m.kind=5/\(m.ol<0\/16<=m.ol\/¬m.ol.tmod 2=0\/m.ot=m.id)):=by simp at f;rintro⟨j,h⟩;obtain⟨⟨⟨a,b⟩,c⟩,d⟩:=f j;rcases h with h|h|h|h;omega;omega;exact h c;exact d h
 rw[if_neg l] at g;refine aJ ?_;refine aG ?_;refine aB ?_;refine aI (fun f=>?_) (fun f=>?_);refine aB ?_;have h:m.kind=7/\¬m.xt=m.id:=by simp at f;exact f
 rw[if_pos h] at g;rw[<-g];exact jC;have k:¬(m.kind=7/\¬m.xt=m.id):=by simp at f;exact fun h=>h.2 (f h.1)
 rw[if_neg k] at g;rw[<-g];refine aJ ?_;refine aB ?_;exact jC
def dgK(b:List UInt8)(k:Nat):List UInt8:=b.take k++DD (16-k) 0
theorem N8(b:List UInt8){k:Nat}(d:k<16)(hb:16<=b.length):(dgK b k).set k (UInt8.ofNat ((((b.getD k 0).toNat:Int))).toNat)=dgK b (k+1):=by
 have c:UInt8.ofNat ((((b.getD k 0).toNat:Int))).toNat=b.getD k 0:=by rw[MM];exact UInt8.ofNat_toNat
 rw[c];unfold dgK;have a:(b.take k).length=k:=by rw[uk];omega
 rw[List.set_append_right _ _ a_,a,Nat.sub_self,show 16-k=(15-k)+1 by omega,List.replicate_succ,List.set_cons_zero,List.take_succ_eq_append_getElem a_,yl,show 16-(k+1)=15-k by omega,
  zG,zH a_,Option.getD_some]
 rfl
def aCS(b:List UInt8)(k:Nat):St:=⟨[(0,none,l7 b),(2,none,d_ (.pt 0 0 0)),(3,none,d_ (.pt 1001 0 0)),(4,none,di k)],[(0,none,0,.box 23 [.bs 16 (DD 16 0)]),(1001,none,0,.box 23 [.bs 16 (dgK b k)])]⟩
theorem Ic(b:List UInt8)(hb:16<=b.length):fP prog af 153 true [l7 b] (.w (.agg [.bs 16 (b.take 16)])):=by
 have M:=aUx;refine bH func153 rfl rfl bK (fun A j e h=>?_);refine aB ?_;refine aB ?_;refine aG ?_;refine aB ?_;refine lV (aCS b 0) ?_;refine aQ ?_;refine fF 16 (fun k t=>t=aCS b k) 0 rfl a_ (fun k t g i=>?_);subst g;refine aG ?_;refine aB ?_;refine aI (fun d=>?_) (fun d=>?_)
 have c:k<16:=by
  have:(k:Int)<16:=by simpa using d
  omega
 refine aJ ?_;refine aG ?_;refine aQ ?_;refine bC M h e (by rfl) (by kernel_rfl) ?_ ?_;simp;exact⟨by omega,by omega,c,Int.ofNat_lt.2 (UInt8.toNat_lt _)⟩;change lh _ _ _ _ _;refine gI ?_;intro a w f;refine⟨k+1,_,by omega,by omega,rfl,(f.reset (kT:=[0,2,3,4]) (kO:=[0,1001]) f_ ay).same ?_ ?_⟩;exact .cons rfl (.cons rfl (.cons rfl (.cons (by rw[cO k a_]) .nil)));refine .cons (.box rfl) (.cons (.box ?_) .nil);rw[<-N8 b c hb];rfl
 have c:k=16:=by
  have:¬(k:Int)<16:=by simpa using d
  omega
 subst c;refine eP ?_;change lh _ _ _ _ _;refine aB ?_;refine bU ?_;show PV.w (PW.agg [PC.bs 16 (List.take 16 b++[])])=_;rw[Pi]
def WE:List (Nat×Spec):=(23,TM)::KF
theorem LC:∀ p∈WE,ai prog af p.1 p.2:=by intro p a;rcases List.mem_cons.1 a with rfl|a;exact V6;exact Qg p a
theorem aCE:jl prog af (find WE):=⟨bD LC,dG⟩
theorem IE(m:je)(t:List UInt8)(n:Int)(a:g_ n)(hl:m.link.length=16)(b:t.length=16):fP prog af 93 true [.w (.agg (um m)),.w (.agg [.bs 16 t,.lit (.int .i64 n)])] (.w (.agg [.bs 16 (keyS m.link t n)])):=by have M:=aCE;have c:=aP n;refine bH func93 rfl rfl bK (fun A e d f=>?_);refine aB ?_;refine aF ?_ ?_;simp;rw[lY hl,lY b];exact⟨a,by omega,by decide,by omega,by omega⟩;refine bU ?_;show PV.w (PW.agg [PC.bs 16 (lS (rowB 16 (m_ m.link)) _ ([]++[rowB 16 (m_ t)]++[rowB (b_ n).length (m_ (b_ n))]))])=_;rw[lY hl,lY b,dY];rfl
def qI(l:List PC):Option je:=match l with
 |[.lit (.int .i64 k),.bs 16 r,.bs 16 i,.bs 16 a,.lit (.string p),.bs 16 ot,.lit (.int .i64 ol),.bs 16 xt,.lit (.int .i64 xl),.lit (.int .i64 bn),.lit (.string bc),.bs 16 bt]=>some ⟨k,r,i,a,p,ot,ol,xt,xl,bn,bc,bt⟩|_=>none
theorem kM{l:List PC}{m:je}(h:qI l=some m):l=um m:=by unfold qI at h;split at h;cases h;rfl;cases h
def GZ:Spec:=aZ true fun a=>match a with
 |[.w (.agg ol),.w (.agg [.bs 16 t,.lit (.int .i64 n)])]=>(match qI ol with
  |some m=>some (g_ n/\m.link.length=16/\t.length=16,.w (.agg [.bs 16 (keyS m.link t n)]))|none=>none)
 |_=>none
theorem PM:ai prog af 93 GZ:=by
 refine aW (aC func93 aj rfl) (fun e p r a c=>?_);split at a;rename_i d t n;cases b:qI d with
 |none=>rw[b] at a;cases a|some m=>rw[b] at a;cases a;rw[kM b];exact IE m t n c.1 c.2.1 c.2.2
 cases a
def WC:List (Nat×Spec):=(93,GZ)::WE
theorem L_:∀ p∈WC,ai prog af p.1 p.2:=by intro p a;rcases List.mem_cons.1 a with rfl|a;exact PM;exact LC p a
theorem aKT:jl prog af (find WC):=⟨bD L_,dG⟩
theorem Hz(m:je)(r:jg)(a:g_ r.ol)(hl:m.link.length=16)(b:r.ot.length=16)(c:r.payload.size<=10000):fP prog af 92 true [.w (.agg (um m)),.w (.agg (oz r))] (.w (.agg (gm (gW m.link r)))):=by have M:=aKT;refine bH func92 rfl rfl bK (fun A e d f=>?_);refine aB ?_;refine aB ?_;refine aF ?_ ?_;simp;exact⟨⟨a,hl,b⟩,a,c⟩;refine aB ?_;exact jC
def Kw(root:List UInt8)(r:jg)(L:List UInt8):St:=⟨[(2,none,d_ (.pt 0 0 0)),(3,none,d_ (.pt 1 0 0)),(5,none,d_ (.ow 1000 0 1 0 L.length))],[(0,none,0,.box 23 [.bs 16 root]),(1,none,0,.box 131 (oz r)),(1000,none,0,.arr 5 1 L.length (m_ L))]⟩
def U6(n:Int)(c:ByteArray)(a:List UInt8)(L:List UInt8):St:=⟨[(6,none,d_ (.pt 6008 0 0)),(7,none,d_ (.ow 7000 0 1 0 L.length))],[(6008,none,0,.box 27 [.lit (.int .i64 n),.lit (.string c),.bs 16 a]),(7000,none,0,.arr 5 1 L.length (m_ L))]⟩
theorem aNr(Y:List UInt8)(i:Nat):o_ 0 (fun i=>([]:List (List PC)).getD i []) (fun i=>m_ Y (0+i)) i=m_ Y i:=by unfold o_;rw[if_neg a_,Nat.sub_zero];dsimp only;rw[lL]
theorem uV(X Y:List UInt8)(i:Nat):o_ X.length (m_ X) (fun i=>m_ Y (0+i)) i=m_ (X++Y) i:=by simp only[lL];exact congrFun (uT X Y) i
theorem aSq(Y:List UInt8)(i:Nat):(o_ 0 (fun i=>([]:List (List PC)).getD i []) (fun i=>m_ Y (0+i)) i).all (dJ false)=true:=by rw[aNr];rfl
theorem wX(X Y:List UInt8)(i:Nat):(o_ X.length (m_ X) (fun i=>m_ Y (0+i)) i).all (dJ false)=true:=by rw[uV];rfl
theorem bBg(r:jg)(root:List UInt8)(h1:g_ r.kind)(h2:g_ r.level)(h3:g_ r.ol)(h4:r.ot.length=16)(h5:root.length=16)(I:r.payload.size<=5000):fP prog af 91 true [.w (.agg [.bs 16 root]),.w (.agg (oz r))] (jr (fK root r)):=by
 have M:=aCE;have b:prog.types[5].bytes=1:=by kernel_rfl
 have d:prog.types[5].size=1:=by kernel_rfl
 have H:=aP r.kind;have G:=aP r.level;have F:=aP r.ol;have E:=fD r.payload.data.toList;have D:r.payload.data.toList.length=r.payload.size:=mf;refine bH func91 rfl rfl bK (fun A K J L=>?_);refine aB ?_;refine aF ?_ ?_;simp;rw[b];exact⟨h1,by omega⟩;refine bY (s':=Kw root r (b_ r.kind)) (fun a w e=>(e.reset (kT:=[2,3,5]) (kO:=[0,1,1000]) f_ ?_).same ?_ ?_) ?_;exact⟨fun i _=>aSq _ i,trivial⟩;exact .cons rfl (.cons rfl (.cons (by rw[d,lL]) .nil));exact .cons (.box rfl) (.cons (.box rfl) (.cons (.arr (by rw[lL]) (fun i _=>aNr _ i)) .nil));refine aF ?_ ?_;simp;rw[b];exact⟨h2,by omega⟩;refine bY (s':=Kw root r (b_ r.kind++b_ r.level)) (fun a w e=>(e.reset (kT:=[2,3,5]) (kO:=[0,1,1000]) f_ ?_).same ?_ ?_) ?_;exact⟨fun i _=>wX _ _ i,trivial⟩;exact .cons rfl (.cons rfl (.cons (by rw[d,ed]) .nil));exact .cons (.box rfl) (.cons (.box rfl) (.cons (.arr (by rw[ed]) (fun i _=>uV _ _ i)) .nil));obtain⟨q,j⟩:∃ X,b_ r.kind++b_ r.level=X:=⟨_,rfl⟩;have x:q.length<=20:=by rw[<-j,ed];omega
 rw[j];refine aF ?_ ?_;simp;rw[b];omega;refine bY (s':=Kw root r (q++r.ot)) (fun a w e=>(e.reset (kT:=[2,3,5]) (kO:=[0,1,1000]) f_ ?_).same ?_ ?_) ?_;exact⟨fun i _=>wX _ _ i,trivial⟩;exact .cons rfl (.cons rfl (.cons (by rw[d,ed,h4]) .nil));exact .cons (.box rfl) (.cons (.box rfl) (.cons (.arr (by rw[ed,h4]) (fun i _=>uV _ _ i)) .nil));obtain⟨p,h⟩:∃ X,q++r.ot=X:=⟨_,rfl⟩;have u:p.length<=36:=by rw[<-h,ed];omega
 rw[h];refine aF ?_ ?_;simp;rw[b];exact⟨h3,by omega⟩;refine bY (s':=Kw root r (p++b_ r.ol)) (fun a w e=>(e.reset (kT:=[2,3,5]) (kO:=[0,1,1000]) f_ ?_).same ?_ ?_) ?_;exact⟨fun i _=>wX _ _ i,trivial⟩;exact .cons rfl (.cons rfl (.cons (by rw[d,ed]) .nil));exact .cons (.box rfl) (.cons (.box rfl) (.cons (.arr (by rw[ed]) (fun i _=>uV _ _ i)) .nil));obtain⟨o,g⟩:∃ X,p++b_ r.ol=X:=⟨_,rfl⟩;have t:o.length<=46:=by rw[<-g,ed];omega
 rw[g];refine aF ?_ ?_;simp;rw[b];exact⟨by omega,by omega⟩;refine bY (s':=Kw root r (o++bI r.payload.data.toList)) (fun a w e=>(e.reset (kT:=[2,3,5]) (kO:=[0,1,1000]) f_ ?_).same ?_ ?_) ?_;exact⟨fun i _=>wX _ _ i,trivial⟩;exact .cons rfl (.cons rfl (.cons (by rw[d,ed]) .nil));exact .cons (.box rfl) (.cons (.box rfl) (.cons (.arr (by rw[ed]) (fun i _=>uV _ _ i)) .nil));have l:o++bI r.payload.data.toList=jJ r:=by rw[<-g,<-h,<-j];unfold jJ;simp only[yl]
 rw[l];have y:(jJ r).length<=6000:=by rw[<-l,ed];omega
 obtain⟨P,hP⟩:∃ P,jJ r=P:=⟨_,rfl⟩;rw[hP] at y ⊢;refine aF ?_ ?_;simp;rw[lY h5];exact⟨⟨by omega,by decide⟩,h2,by show (strOf P).size<=10000;rw[bJ];omega⟩;obtain⟨c,n⟩:∃ c,dN (jT root) r.level P=c:=⟨_,rfl⟩;refine aU (⟨[(6,none,d_ (.pt 6008 0 0))],[(6008,none,0,.box 27 [.lit (.int .i64 r.level),.lit (.string (strOf c)),.bs 16 (qc (jT root) r.level c)])]⟩) ?_ ?_ ?_;exact ig;refine .cons (.box ?_) .nil;rw[lY h5,dY,<-n];rfl;have z:c.length=P.length:=by rw[<-n,dH]
 have m:(qc (jT root) r.level c).length=16:=fZ _ _ _;have C:=fD c;refine aF ?_ ?_;simp;rw[b];exact⟨h2,by omega⟩;refine bY (s':=U6 r.level (strOf c) (qc (jT root) r.level c) (b_ r.level)) (fun a w e=>(e.reset (kT:=[6,7]) (kO:=[6008,7000]) f_ ?_).same ?_ ?_) ?_;exact⟨fun i _=>aSq _ i,trivial⟩;exact .cons rfl (.cons (by rw[d,lL]) .nil);exact .cons (.box rfl) (.cons (.arr (by rw[lL]) (fun i _=>aNr _ i)) .nil);refine aF ?_ ?_;simp;rw[b,bV,bJ];omega;rw[bV];refine bY (s':=U6 r.level (strOf c) (qc (jT root) r.level c) (b_ r.level++bI c)) (fun a w e=>(e.reset (kT:=[6,7]) (kO:=[6008,7000]) f_ ?_).same ?_ ?_) ?_;exact⟨fun i _=>wX _ _ i,trivial⟩;exact .cons rfl (.cons (by rw[d,ed]) .nil);exact .cons (.box rfl) (.cons (.arr (by rw[ed]) (fun i _=>uV _ _ i)) .nil);obtain⟨k,f⟩:∃ X,b_ r.level++bI c=X:=⟨_,rfl⟩;have s:k.length<=7000:=by rw[<-f,ed];omega
 rw[f];refine aF ?_ ?_;simp;rw[b];omega;refine bU ?_;show PV.w (PW.one (PC.lit (Value.string (strOf (rowB (k.length+16) (o_ k.length (m_ k) fun i=>m_ (qc (jT root) r.level c) (0+i)))))))=jr (fK root r);have B:(o_ k.length (m_ k) fun i=>m_ (qc (jT root) r.level c) (0+i))=m_ (k++qc (jT root) r.level c):=funext fun i=>uV _ _ i;rw[B,lY (by rw[ed,m])];unfold fK kZ;rw[hP,n,<-f,yl]
def Gf:Spec:=aZ true fun a=>match a with
 |[.w (.agg [.bs 16 root]),.w (.agg l)]=>(match FD l with
  |some r=>some ((g_ r.kind/\g_ r.level/\g_ r.ol/\r.ot.length=16/\r.payload.size<=5000)/\root.length=16,jr (fK root r))|none=>none)
 |_=>none
theorem bHg:ai prog af 91 Gf:=by
 refine aW (aC func91 aj rfl) (fun e p r b a=>?_);split at b;rename_i c l;cases d:FD l with
 |none=>rw[d] at b;cases b|some q=>rw[d] at b;cases b;rw[xP d];exact bBg q c a.1.1 a.1.2.1 a.1.2.2.1 a.1.2.2.2.1 a.2 a.1.2.2.2.2
 cases b
theorem PX:ai prog af 153 (FN (fun l=>16<=l.length) fun l=>.w (.agg [.bs 16 (l.take 16)])):=oC (aC func153 aj rfl) Ic
def kdT(root:List UInt8)(s:ByteArray)(q:Int)(p:List UInt8):jg×Bool:=
 if (au p).2.2≠0 then (zq,false) else
 if (au (p.drop (au p).2.1)).2.2≠0\/p.length<(au p).2.1+(au (p.drop (au p).2.1)).2.1+16\/(au (p.drop (au p).2.1)).1≠q\/(au (p.drop (au p).2.1)).1<0\/16<(au (p.drop (au p).2.1)).1\/(au p).1<1\/2<(au p).1 then (zq,false) else
 if (au (p.drop ((au p).2.1+(au (p.drop (au p).2.1)).2.1+16))).2.2≠0 then (zq,false) else
 if (gJ (p.drop ((au p).2.1+(au (p.drop (au p).2.1)).2.1+16+(au (p.drop ((au p).2.1+(au (p.drop (au p).2.1)).2.1+16))).2.1))).2.2≠0 \/
  (au p).2.1+(au (p.drop (au p).2.1)).2.1+16+(au (p.drop ((au p).2.1+(au (p.drop (au p).2.1)).2.1+16))).2.1+(gJ (p.drop ((au p).2.1+(au (p.drop (au p).2.1)).2.1+16+(au (p.drop ((au p).2.1+(au (p.drop (au p).2.1)).2.1+16))).2.1))).2.1≠p.length then (zq,false) else
 (
  ⟨(au p).1,(au (p.drop (au p).2.1)).1,(p.drop ((au p).2.1+(au (p.drop (au p).2.1)).2.1)).take 16,(au (p.drop ((au p).2.1+(au (p.drop (au p).2.1)).2.1+16))).1,strOf (gJ (p.drop ((au p).2.1+(au (p.drop (au p).2.1)).2.1+16+(au (p.drop ((au p).2.1+(au (p.drop (au p).2.1)).2.1+16))).2.1))).1⟩,
  (fK root ⟨(au p).1,(au (p.drop (au p).2.1)).1,(p.drop ((au p).2.1+(au (p.drop (au p).2.1)).2.1)).take 16,(au (p.drop ((au p).2.1+(au (p.drop (au p).2.1)).2.1+16))).1,strOf (gJ (p.drop ((au p).2.1+(au (p.drop (au p).2.1)).2.1+16+(au (p.drop ((au p).2.1+(au (p.drop (au p).2.1)).2.1+16))).2.1))).1⟩).toList==s.toList)
def DI(root:List UInt8)(s:ByteArray)(b:List UInt8):jg×Bool:=
 if (au b).2.2≠0 then (zq,false) else
 if (gJ (b.drop (au b).2.1)).2.2≠0\/b.length≠(au b).2.1+(gJ (b.drop (au b).2.1)).2.1+16 then (zq,false) else
 if qc (jT root) (au b).1 (gJ (b.drop (au b).2.1)).1=b.drop ((au b).2.1+(gJ (b.drop (au b).2.1)).2.1) then kdT root s (au b).1 (dN (jT root) (au b).1 (gJ (b.drop (au b).2.1)).1) else (zq,false)
def Kz:List (Nat×Spec):=(91,Gf)::(153,FN (fun l=>16<=l.length) fun l=>.w (.agg [.bs 16 (l.take 16)]))::(151,FN iM fun l=>xY (au l))::(152,FN iM fun l=>Dh (gJ l))::WC
theorem L9:∀ p∈Kz,ai prog af p.1 p.2:=by intro p a;simp only[Kz,xn] at a;rcases a with rfl|rfl|rfl|rfl|a;exact bHg;exact PX;exact oC (aC func151 aj rfl) aFd;exact oC (aC func152 aj rfl) aAn;exact L_ p a
theorem aKS:jl prog af (find Kz):=⟨bD L9,dG⟩
def Dx(root:List UInt8):Wr:=[(0,none,0,.box 23 [.bs 16 root]),(1,none,0,.box 131 (oz zq))]
def Ae(s:ByteArray):List (Nat×Option Bool×PV):=[(1,none,jr s),(2,none,d_ (.pt 0 0 0)),(4,none,d_ (.pt 1 0 0))]
theorem xH{b:List UInt8}{k:Nat}(h:k<=b.length):(rowB ((b.length:Int)-(k:Int)).toNat fun i=>m_ b ((k:Int).toNat+i))=b.drop k:=by rw[show ((b.length:Int)-(k:Int)).toNat=b.length-k from by omega,show (k:Int).toNat=k from by omega,kQ a_];exact IR (by rw[AC];exact Nat.le_refl _)
theorem bBj(root:List UInt8)(s:ByteArray)(hr:root.length=16)(hs:s.size<=5000):fP prog af 114 true [.w (.agg [.bs 16 root]),jr s] (ES (DI root s s.data.toList)):=by
 have M:=aKS;have L:s.data.toList.length=s.size:=mf;obtain⟨m,d⟩:∃ m,DI root s s.data.toList=m:=⟨_,rfl⟩;rw[d];unfold DI at d;refine bH func114 rfl rfl bK (fun A hS hn hI=>?_);refine aB ?_;refine aF ?_ ?_;simp;omega;refine aU (⟨(6,none,l7 s.data.toList)::Ae s,Dx root⟩) ?_ ?_ ?_;refine .cons ?_ (.cons rfl (.cons rfl (.cons rfl .nil)));rw[<-L];exact o7;generalize s.data.toList=b at d L ⊢;refine aF ?_ ?_;simp;show b.length<4611686018427387904;omega;refine aU (⟨(7,none,di (au b).1)::(8,none,di ((au b).2.1:Int))::(9,none,di (au b).2.2)::(6,none,l7 b)::Ae s,Dx root⟩) ?_ ?_ ?_;rw[dY];exact ig;exact o7;have K:=mV b;have J:=fJ b;generalize hg:au b=g at *;obtain⟨q,k,e⟩:=g;dsimp only at *;refine aG ?_;refine aB ?_;refine aI (fun a=>?_) (fun a=>?_);refine aB ?_;have h:e≠0:=by simpa using a
 rw[if_pos h] at d;refine bU ?_;rw[<-d];rfl;have h:¬e≠0:=by simpa using a
 rw[if_neg h] at d;refine aJ ?_;refine aF ?_ ?_;simp;refine⟨K.1,?_⟩;unfold iM;rw[dQ];omega;have I:=jW (b.drop k);have C:=aMw (b.drop k);rw[AC] at I C;refine aU (⟨(10,none,jr (strOf (gJ (b.drop k)).1))::(11,none,di ((gJ (b.drop k)).2.1:Int))::(9,none,di (gJ (b.drop k)).2.2)::(7,none,di q)::(8,none,di (k:Int))::(6,none,l7 b)::Ae s,Dx root⟩) ?_ ?_ ?_;rw[xH a_];exact ig;exact o7;generalize gJ (b.drop k)=g2 at *;obtain⟨c,n,F⟩:=g2;dsimp only at *;have u:IntKind.i64.wrap ((k:Int)+(n:Int))=((k+n:Nat):Int):=by rw[TC];omega
 have a1:IntKind.i64.wrap (((k+n:Nat):Int)+16)=((k+n+16:Nat):Int):=by rw[TC];omega
 refine aG ?_;refine aB ?_;refine aI (fun a=>?_) (fun a=>?_);refine aB ?_;simp[u] at a;have P:F≠0\/b.length≠k+n+16:=by rcases a with z|z;exact .inl z;refine .inr (fun V=>z ?_);rw[TC];omega
 rw[if_pos P] at d;refine bU ?_;rw[<-d];rfl;simp[u] at a;have P:¬(F≠0\/b.length≠k+n+16):=by rintro (z|z);exact z a.1;have V:=a.2;rw[TC] at V;omega
 rw[if_neg P] at d;have a5:b.length=k+n+16:=by by_cases U:b.length=k+n+16;exact U;exact absurd (.inr U) P
 refine aJ ?_;have a2:g_ q:=J;have x:(rowB ((b.length:Int)-IntKind.i64.wrap ((k:Int)+(n:Int))).toNat fun i=>m_ b ((IntKind.i64.wrap ((k:Int)+(n:Int))).toNat+i))=b.drop (k+n):=by rw[u];exact xH a_
 have p:(b.drop (k+n)).length=16:=by rw[AC];omega
 refine aF ?_ ?_;simp;rw[x,p,lY hr,bJ,u];exact⟨⟨by omega,by decide⟩,⟨by omega,by omega⟩,by omega,a2,by omega⟩;refine aU (⟨(9,none,di (bif opened (jT root) q (strOf c) (b.drop (k+n)) then 0 else 8))::(12,none,jr (bif opened (jT root) q (strOf c) (b.drop (k+n)) then strOf (dN (jT root) q (strOf c).data.toList) else { data:=#[] }))::(7,none,di q)::Ae s,Dx root⟩) ?_ ?_ ?_;rw[x,lY hr,IR (Nat.le_of_eq p)];exact ig;exact o7;generalize b.drop (k+n)=t at *;have a7:=dH (jT root) q c;by_cases H:qc (jT root) q c=t;rotate_left 1;have T:opened (jT root) q (strOf c) t=false:=by unfold opened;rw[bV];simpa using H
 rw[T];rw[if_neg H] at d;change lh _ _ ⟨(9,none,di 8)::(12,none,jr { data:=#[] })::(7,none,di q)::Ae s,Dx root⟩ _ _;refine aG ?_;refine aB ?_;refine aI (fun a=>?_) (fun a=>?_);refine aB ?_;refine bU ?_;rw[<-d];rfl;cases a;have T:opened (jT root) q (strOf c) t=true:=by unfold opened;rw[bV,H];simp
 rw[T,bV];rw[if_pos H] at d;generalize dN (jT root) q c=X at *;change lh _ _ ⟨(9,none,di 0)::(12,none,jr (strOf X))::(7,none,di q)::Ae s,Dx root⟩ _ _;refine aG ?_;refine aB ?_;refine aI (fun a=>?_) (fun a=>?_);cases a;refine aJ ?_;refine aF ?_ ?_;simp;rw[bJ];omega;refine aU (⟨(13,none,l7 X)::(7,none,di q)::Ae s,Dx root⟩) ?_ ?_ ?_;refine .cons ?_ (.cons rfl (.cons rfl (.cons rfl (.cons rfl .nil))));show d_ (.sl 1 (strOf X).size (m_ (strOf X).data.toList))=_;rw[bJ,bV];exact o7;have a8:X.length<=5000:=by omega
 clear hg T H x p I C K u a1 P a;unfold kdT at d;refine aF ?_ ?_;simp;unfold iM;omega;have p1:=mV X;have q1:=fJ X;refine aU (⟨(14,none,di (au X).1)::(15,none,di ((au X).2.1:Int))::(16,none,di (au X).2.2)::(13,none,l7 X)::(7,none,di q)::Ae s,Dx root⟩) ?_ ?_ ?_;rw[dY];exact ig;exact o7;generalize au X=g1 at *;obtain⟨r,l,e1⟩:=g1;dsimp only at *;refine aG ?_;refine aB ?_;refine aI (fun a=>?_) (fun a=>?_);refine aB ?_;have h:e1≠0:=by simpa using a
 rw[if_pos h] at d;refine bU ?_;rw[<-d];rfl;have h1:¬e1≠0:=by simpa using a
 rw[if_neg h1] at d;refine aJ ?_;refine aF ?_ ?_;simp;refine⟨by omega,?_⟩;unfold iM;rw[dQ];omega;have p2:=mV (X.drop l);have q2:=fJ (X.drop l);rw[AC] at p2;refine aU (⟨(17,none,di (au (X.drop l)).1)::(18,none,di ((au (X.drop l)).2.1:Int))::(19,none,di (au (X.drop l)).2.2)::(14,none,di r)::(15,none,di (l:Int))::(13,none,l7 X)::(7,none,di q)::Ae s,Dx root⟩) ?_ ?_ ?_;rw[xH a_];exact ig;exact o7;generalize au (X.drop l)=g2 at *;obtain⟨o,E,F⟩:=g2;dsimp only at *;have a0:IntKind.i64.wrap ((l:Int)+(E:Int))=((l+E:Nat):Int):=by rw[TC];omega
 have y:IntKind.i64.wrap (((l+E:Nat):Int)+16)=((l+E+16:Nat):Int):=by rw[TC];omega
 refine aB ?_;refine aU (⟨(20,none,di ((l+E:Nat):Int))::(17,none,di o)::(19,none,di F)::(14,none,di r)::(13,none,l7 X)::(7,none,di q)::Ae s,Dx root⟩) ?_ ?_ ?_;exact .cons (by rw[a0]) (.cons rfl (.cons rfl (.cons rfl (.cons rfl (.cons rfl (.cons rfl (.cons rfl (.cons rfl .nil))))))));exact o7;obtain⟨j,a4⟩:∃ j,l+E=j:=⟨_,rfl⟩;rw[a4] at d y ⊢;refine aG ?_;refine aB ?_;refine aI (fun a=>?_) (fun a=>?_);refine aB ?_;have h:F≠0\/X.length<j+16\/o≠q\/o<0\/16<o\/r<1\/2<r:=by simp[y] at a;omega
 rw[if_pos h] at d;refine bU ?_;rw[<-d];rfl;have z:¬(F≠0\/X.length<j+16\/o≠q\/o<0\/16<o\/r<1\/2<r):=by simp[y] at a;omega
 rw[if_neg z] at d;have a3:j+16<=X.length:=by rcases Nat.lt_or_ge X.length (j+16) with h|h;exact absurd (.inr (.inl h)) z;exact h
 refine aJ ?_;refine aB ?_;refine aF ?_ ?_;simp;rw[dQ];omega;obtain⟨B,D⟩:∃ B,(X.drop j).take 16=B:=⟨_,rfl⟩;have W:B.length=16:=by rw[<-D,uk,AC];omega
 rw[D] at d;refine aU (⟨(20,none,di (j:Int))::(21,none,d_ (.pt 19003 0 0))::(13,none,l7 X)::Ae s,(19003,none,0,.box 131 (oz ⟨r,o,B,0,aH⟩))::Dx root⟩) ?_ ?_ ?_;exact ig;refine .cons (.box ?_) (.cons (.box rfl) (.cons (.box rfl) .nil));rw[xH a_,D];rfl;refine aB ?_;have Z:IntKind.i64.wrap ((j:Int)+16)=((j+16:Nat):Int):=y;refine aU (⟨(20,none,di ((j+16:Nat):Int))::(21,none,d_ (.pt 19003 0 0))::(13,none,l7 X)::Ae s,(19003,none,0,.box 131 (oz ⟨r,o,B,0,aH⟩))::Dx root⟩) ?_ ?_ ?_;exact .cons (by rw[Z]) (.cons rfl (.cons rfl (.cons rfl (.cons rfl (.cons rfl .nil)))));exact o7;obtain⟨at2,O⟩:∃ at2,j+16=at2:=⟨_,rfl⟩;rw[O] at d a3 ⊢;refine aF ?_ ?_;simp;refine⟨by omega,?_⟩;unfold iM;rw[dQ];omega;have p3:=mV (X.drop at2);have q3:=fJ (X.drop at2);rw[AC] at p3;refine aU (⟨(8,none,di (au (X.drop at2)).1)::(22,none,di ((au (X.drop at2)).2.1:Int))::(23,none,di (au (X.drop at2)).2.2)::(20,none,di (at2:Int))::(21,none,d_ (.pt 19003 0 0))::(13,none,l7 X)::Ae s,(19003,none,0,.box 131 (oz ⟨r,o,B,0,aH⟩))::Dx root⟩) ?_ ?_ ?_;rw[xH a_];exact ig;exact o7;generalize au (X.drop at2)=g3 at *;obtain⟨ol,S,e3⟩:=g3;dsimp only at *;refine aG ?_;refine aB ?_;refine aI (fun a=>?_) (fun a=>?_);refine aB ?_;have h:e3≠0:=by simpa using a
 rw[if_pos h] at d;refine bU ?_;rw[<-d];rfl;have V:¬e3≠0:=by simpa using a
 rw[if_neg V] at d;refine aJ ?_;have Y:IntKind.i64.wrap ((at2:Int)+(S:Int))=((at2+S:Nat):Int):=by rw[TC];omega
 refine aB ?_;refine aB ?_;refine aU (⟨(20,none,di ((at2+S:Nat):Int))::(21,none,d_ (.pt 19003 0 0))::(13,none,l7 X)::Ae s,(19003,none,0,.box 131 (oz ⟨r,o,B,ol,aH⟩))::Dx root⟩) ?_ ?_ ?_;exact .cons (by rw[Y]) (.cons rfl (.cons rfl (.cons rfl (.cons rfl (.cons rfl .nil)))));exact o7;obtain⟨f,N⟩:∃ f,at2+S=f:=⟨_,rfl⟩;rw[N] at d ⊢;refine aF ?_ ?_;simp;refine⟨by omega,?_⟩;unfold iM;rw[dQ];omega;have p4:=aMw (X.drop f);have z4:=jW (X.drop f);rw[AC] at p4 z4;refine aU (⟨(24,none,jr (strOf (gJ (X.drop f)).1))::(25,none,di ((gJ (X.drop f)).2.1:Int))::(26,none,di (gJ (X.drop f)).2.2)::(20,none,di (f:Int))::(21,none,d_ (.pt 19003 0 0))::(13,none,l7 X)::Ae s,(19003,none,0,.box 131 (oz ⟨r,o,B,ol,aH⟩))::Dx root⟩) ?_ ?_ ?_;rw[xH a_];exact ig;exact o7;generalize gJ (X.drop f)=g4 at *;obtain⟨a6,Q,e4⟩:=g4;dsimp only at *;have G:IntKind.i64.wrap ((f:Int)+(Q:Int))=((f+Q:Nat):Int):=by rw[TC];omega
 refine aG ?_;refine aB ?_;refine aI (fun a=>?_) (fun a=>?_);refine aB ?_;have h:e4≠0\/f+Q≠X.length:=by simp[G] at a;omega
 rw[if_pos h] at d;refine bU ?_;rw[<-d];rfl;have U:¬(e4≠0\/f+Q≠X.length):=by simp[G] at a;omega
 rw[if_neg U] at d;refine aJ ?_;refine aB ?_;refine aF ?_ ?_;simp;exact⟨⟨q1,q2,q3,W,by rw[bJ];omega⟩,hr⟩;refine bU ?_;rw[<-d];rfl
def Gg:Spec:=aZ true fun a=>match a with
 |[.w (.agg [.bs 16 root]),.w (.one (.lit (.string s)))]=>some (root.length=16/\s.size<=5000,ES (DI root s s.data.toList))|_=>none
theorem bHk:ai prog af 114 Gg:=by refine aW (aC func114 aj rfl) (fun c p r a b=>?_);split at a;cases a;exact bBj _ _ b.1 b.2;cases a
def bFw:Spec:=aZ true fun a=>match a with
 |[.w (.one (.lit (.int .i64 e)))]=>some (True,.w (.agg (gm (dX e))))|_=>none
theorem aXp:ai prog af 31 bFw:=by refine aW (aC func31 aj rfl) (fun b p r a c=>?_);split at a;cases a;exact bHc _;cases a
def kmK(m:iy)(s:h_):List (Nat×Spec):=(113,dI 96 (uq m s bMt))::(90,dI 96 (uq m s bMd)) ::
 (56,dI 96 (uq m s aZj))::(89,dI 96 (uq m s bMj)) ::
 (114,Gg)::(31,bFw)::Kz
theorem L6(m:iy)(s:h_):∀ p∈kmK m s,ai prog af p.1 p.2:=by intro p a;simp only[kmK,xn] at a;rcases a with rfl|rfl|rfl|rfl|rfl|rfl|a;exact aTz m s;exact aTs m s;exact aIy m s;exact aPf m s;exact bHk;exact aXp;exact L9 p (by simpa[Kz] using a)
theorem WG(m:iy)(s:h_):jl prog af (find (kmK m s)):=⟨bD (L6 m s),dG⟩
theorem bLu{e:Int}{b:Bool}:(bif e != 0 then true else b)=true↔(e≠0\/b=true):=by
 by_cases h:e=0
 ·subst h
  cases b<;>simp
 rw[show (e != 0)=true from by simpa using h];exact⟨fun _=>.inl h,fun _=>rfl⟩
theorem aVt{e:Int}{b:Bool}(h:(bif e != 0 then true else b)=false):¬(e≠0\/b=true):=fun a=>by rw[bLu.2 a] at h;cases h
theorem aBB{e:Int}{b:Bool}:(bif e==0 then !b else false)=true↔(e=0/\b=false):=by
 by_cases h:e=0
 ·subst h
  cases b<;>simp
 rw[show (e==0)=false from by simpa using h];exact⟨fun h=>by (cases h),fun a=>absurd a.1 h⟩
theorem JF{e:Int}{b:Bool}(h:(bif e==0 then !b else false)=false):¬(e=0/\b=false):=fun a=>by rw[aBB.2 a] at h;cases h
def jd(op:je)(m:iy)(s:h_):(jg×Int)×h_:=
 if (xx (aO m (ah.load 3) s)).err≠0\/(aO m (ah.load 3) s).2.stop=true then ((zq,(xx (aO m (ah.load 3) s)).err),(aO m (ah.load 3) s).2)
 else if (DI op.root (xx (aO m (ah.load 3) s)).content (xx (aO m (ah.load 3) s)).content.data.toList).2=true then (((DI op.root (xx (aO m (ah.load 3) s)).content (xx (aO m (ah.load 3) s)).content.data.toList).1,0),(aO m (ah.load 3) s).2)
 else ((zq,8),(aO m (ah.load 3) s).2)
def aAS(p:jg×Int):PV:=.lu [.agg (oz p.1),.one (.lit (.int .i64 p.2))]
theorem RI(op:je)(m:iy)(s:h_):(jd op m s).2=(aO m (ah.load 3) s).2:=by
 unfold jd;split;rfl
 ·split<;>rfl
theorem aMk(m:iy)(s:h_):(xx (aO m (ah.load 3) s)).content.size<=2000:=by unfold xx;split;exact Nat.zero_le _;exact aGm (aGf 3) m s
theorem bGw(op:je)(hr:op.root.length=16):uw 88 [.w (.agg (um op))] (fun m s=>qp m s) (fun m s=>((jd op m s).2,aAS (jd op m s).1)):=by
 intro m c e k i;have M:=WG m c;dsimp only at i ⊢;rw[RI] at i;obtain⟨R,a⟩:∃ R,jd op m c=R:=⟨_,rfl⟩;rw[a];unfold jd at a;have f:=aMk m c;refine dM func88 rfl rfl rfl (fun A n p=>?_);refine aB ?_;refine aF ?_ ?_;simp;exact⟨e,k,i⟩;obtain⟨o,g⟩:∃ o,xx (aO m (ah.load 3) c)=o:=⟨_,rfl⟩;obtain⟨s,l⟩:∃ s,(aO m (ah.load 3) c).2=s:=⟨_,rfl⟩;refine aU (⟨[(0,none,d_ (.pt px 0 0)),(3,none,d_ (.pt 0 0 0)),(4,none,d_ (.pt 1 0 0)),(5,none,di 0),(6,none,d_ (.pt 1002 0 0))],[(px,none,0,.box 96 (qo m s)),(0,none,0,.box 31 (um op)),(1,none,0,.box 131 (oz zq)),(1002,none,0,.box 164 [.lit (.string o.content),.lit (.int .i64 o.seq),.lit (.int .i64 o.err)])]⟩) ?_ ?_ ?_;exact ig;refine .cons (.box ?_) (.cons (.box rfl) (.cons (.box rfl) (.cons (.box ?_) .nil)));show qo m (aO m (ah.load 3) c).2=_;rw[l];rw[<-g];rw[g,l] at a;rw[g] at f;refine aG ?_;refine aB ?_;refine aI (fun b=>?_) (fun b=>?_)
 ·have h:o.err≠0\/s.stop=true:=bLu.1 b;rw[if_pos h] at a;refine aB ?_;rw[<-a];refine bT ?_
  all_goals rfl
 have h:¬(o.err≠0\/s.stop=true):=aVt b;rw[if_neg h] at a;refine aJ ?_;refine aF ?_ ?_;simp;exact⟨hr,by omega⟩;obtain⟨d,j⟩:∃ d,DI op.root o.content o.content.data.toList=d:=⟨_,rfl⟩;rw[j] at a;obtain⟨r,ok⟩:=d;dsimp only at a;refine aU (⟨[(4,none,d_ (.pt 1 0 0)),(5,none,di 0),(7,none,d_ (.pt 4008 0 0)),(8,none,qy ok)],[(px,none,0,.box 96 (qo m s)),(1,none,0,.box 131 (oz zq)),(4008,none,0,.box 131 (oz r))]⟩) ?_ ?_ ?_;refine .cons rfl (.cons rfl (.cons rfl (.cons ?_ .nil)));rw[j];refine .cons (.box rfl) (.cons (.box rfl) (.cons (.box ?_) .nil));rw[j];rfl;refine aG ?_;refine aB ?_;cases ok with
 | false=>
  rw[if_neg Bool.false_ne_true] at a;refine aI (fun b=>?_) (fun b=>?_)
  ·refine aB ?_;rw[<-a];refine bT ?_
   all_goals rfl
  cases b
 |true=>
  rw[if_pos rfl] at a;refine aI (fun b=>?_) (fun b=>?_);cases b;refine aJ ?_;refine aB ?_;rw[<-a];refine bT ?_
  all_goals rfl
def t_(op:je)(r:jg)(m:iy)(s:h_):Int×h_:=((C9 3 (fK op.root r) m s).2.err,(C9 3 (fK op.root r) m s).1)
structure O8(r:jg):Prop where
 kind:g_ r.kind
 level:g_ r.level
 ol:g_ r.ol
 ot:r.ot.length=16
 payload:r.payload.size<=5000
theorem bGm(op:je)(r:jg)(hr:op.root.length=16)(h:O8 r):uw 59 [.w (.agg (um op)),.w (.agg (oz r))] (fun m s=>qp m s) (fun m s=>((t_ op r m s).2,di (t_ op r m s).1)):=by
 intro m d a c b;have M:=WG m d;unfold t_ at b ⊢;dsimp only at b ⊢;refine dM func59 rfl rfl rfl (fun A e f=>?_);refine aB ?_;refine aF ?_ ?_;simp;exact⟨⟨⟨h.kind,h.level,h.ol,h.ot,h.payload⟩,hr⟩,a,c,b⟩;refine aB ?_;refine bT ?_
 all_goals rfl
def mF(t:Nat)(m:iy)(s:h_):Int×h_:=(if (AX m 3 16 t s).1.2=0/\(AX m 3 16 t s).1.1≠t then 21 else (AX m 3 16 t s).1.2,(AX m 3 16 t s).2)
theorem bAx(t:Nat)(l:t<=16):uw 87 [di t] (fun m s=>pg m s 3) (fun m s=>((mF t m s).2,di (mF t m s).1)):=by
 intro m b c k g;have M:=WG m b;dsimp only at g ⊢;obtain⟨R,a⟩:∃ R,mF t m b=R:=⟨_,rfl⟩;rw[a] at g ⊢;unfold mF at a;have j:(AX m 3 16 t b).2.i<=1000000:=by rw[<-a] at g;exact g
 refine dM func87 rfl rfl rfl (fun A o p=>?_);refine aB ?_;refine aF ?_ ?_;simp;exact⟨c,⟨k,by omega⟩,j⟩;obtain⟨q,f⟩:∃ q,AX m 3 16 t b=q:=⟨_,rfl⟩;obtain⟨⟨n,e⟩,s⟩:=q;rw[f] at a;dsimp only at a;refine aU (⟨[(1,none,di t),(5,none,di n),(6,none,di e)],[(px,none,0,.box 96 (qo m s))]⟩) ?_ ?_ ?_;refine .cons rfl (.cons ?_ (.cons ?_ .nil));show di ((AX m 3 (YK 16) (t:Int).toNat b).1.1:Int)=_;rw[show YK 16=16 from rfl,MM,f];show di (AX m 3 (YK 16) (t:Int).toNat b).1.2=_;rw[show YK 16=16 from rfl,MM,f];refine .cons (.box ?_) .nil;show qo m (AX m 3 (YK 16) (t:Int).toNat b).2=_;rw[show YK 16=16 from rfl,MM,f];refine aG ?_;refine aB ?_;refine aI (fun d=>?_) (fun d=>?_)
 ·have h:e=0/\n≠t:=by
   simp at d;exact⟨d.1,by omega⟩
  rw[if_pos h] at a;refine aB ?_;rw[<-a];refine bT ?_
  all_goals rfl
 ·have h:¬(e=0/\n≠t):=by
   simp at d;exact fun h=>by have:=d h.1;omega
  rw[if_neg h] at a;refine aJ ?_;refine aB ?_;rw[<-a];refine bT ?_
  all_goals rfl
def bMm:List PV->Option (BC×Ai)
 |[.w (.agg ol),.w (.agg a)]=>match qI ol,FD a with
  |some op,some r=>some (fun m s=>(op.root.length=16/\O8 r)/\qp m s,fun m s=>((t_ op r m s).2,di (t_ op r m s).1))|_,_=>none
 |_=>none
theorem bAt(m:iy)(s:h_):ai prog af 59 (dI 96 (uq m s bMm)):=
 eU (aC func59 aj rfl) (fun f C F h=>by
  unfold bMm at h;split at h;split at h;rename_i e d;cases h;rw[kM e,xP d];exact fun m s a b c=>bGm _ _ b.1.1 b.1.2 m s a b.2 c;cases h
  cases h)
def bMp:List PV->Option (BC×Ai)
 |[.w (.one (.lit (.int .i64 t)))]=>some (fun m s=>(0<=t/\t<=16)/\pg m s 3,fun m s=>((mF t.toNat m s).2,di (mF t.toNat m s).1))|_=>none
theorem aTy(m:iy)(s:h_):ai prog af 87 (dI 96 (uq m s bMp)):=
 eU (aC func87 aj rfl) (fun d C F h=>by
  unfold bMp at h;split at h;rename_i t;cases h;intro m s a b c;obtain⟨k,rfl⟩:=Int.eq_ofNat_of_zero_le b.1.1;exact bAx k (by have:=b.1.2;omega) m s a b.2 c
  cases h)
def bMu:List PV->Option (BC×Ai)
 |[.w (.agg ol)]=>match qI ol with
  |some op=>some (fun m s=>op.root.length=16/\qp m s,fun m s=>((jd op m s).2,aAS (jd op m s).1))|none=>none
 |_=>none
theorem bAz(m:iy)(s:h_):ai prog af 88 (dI 96 (uq m s bMu)):=
 eU (aC func88 aj rfl) (fun e C F h=>by
  unfold bMu at h;split at h;split at h;rename_i d;cases h;rw[kM d];exact fun m s a b c=>bGw _ b.1 m s a b.2 c;cases h
  cases h)
section
variable {α β:Type}
def Ak:ah α->ah (Except Int α)
 |.ret a=>.ret (.ok a)|.ask c g=>if c.kind = -1 then .ret (.error c.jy) else .ask c fun r=>Ak (g r)
def yg:ah α->Prop
 |.ret _=>True|.ask c k=>c.kind ≠ -1/\∀ r,yg (k r)
theorem yg.bind{p:ah α}{f:α->ah β}(b:yg p)(e:∀ a,yg (f a)):yg (p.bind f):=by
 induction p with
 |ret a=>exact e a|ask c k d=>exact⟨b.1,fun r=>d r (b.2 r)⟩
def aLE(f:α->ah (Except Int β)):Except Int α->ah (Except Int β)
 |.ok a=>f a|.error e=>.ret (.error e)
theorem aWy(c:Acc)(g:jh->ah α):Ak (.ask c g)=if c.kind = -1 then .ret (.error c.jy) else .ask c fun r=>Ak (g r):=rfl
theorem bFj(p:ah α)(f:α->ah β):Ak (p.bind f)=(Ak p).bind (aLE fun a=>Ak (f a)):=by
 induction p with
 |ret a=>rfl|ask c k d=>show Ak (.ask c fun r=>(k r).bind f)=_;rw[aWy,aWy];by_cases b:c.kind = -1;rw[if_pos b,if_pos b];rfl;rw[if_neg b,if_neg b];show ah.ask c _=ah.ask c _;congr 1;funext r;exact d r
theorem G5{p:ah α}(h:yg p):Ak p=p.bind fun a=>.ret (.ok a):=by
 induction p with
 |ret a=>rfl|ask c k b=>unfold Ak;rw[if_neg h.1];show ah.ask c _=ah.ask c _;congr 1;funext r;exact b r (h.2 r)
theorem bDt(k:Int->α)(p:ah α):ah.catch k p=(Ak p).bind fun x=>.ret (Et k x):=by
 induction p with
 |ret a=>rfl|ask c g d=>unfold Ak;by_cases b:c.kind = -1;rw[if_pos b];unfold ah.catch;rw[decide_eq_true b];rfl;rw[if_neg b,qG k g b];show ah.ask c _=ah.ask c _;congr 1;funext r;exact d r
def xq(m:iy)(p:ah α)(s:h_):Except Int α×h_:=aO m (Ak p) s
theorem aBa(m:iy)(p:ah α)(f:α->ah β)(s:h_):xq m (p.bind f) s=match xq m p s with
  |(.ok a,b)=>xq m (f a) b|(.error e,b)=>(.error e,b):=by
 unfold xq;rw[bFj,dS];obtain⟨x,b⟩:=aO m (Ak p) s
 cases x<;>rfl
theorem jQ{m:iy}{p:ah α}{f:α->ah β}{s s':h_}{a:α}(h:xq m p s=(.ok a,s')):xq m (p.bind f) s=xq m (f a) s':=by rw[aBa,h]
theorem pJ{m:iy}{p:ah α}{f:α->ah β}{s s':h_}{e:Int}(h:xq m p s=(.error e,s')):xq m (p.bind f) s=(.error e,s'):=by rw[aBa,h]
theorem Zh{m:iy}{p:ah α}(h:yg p)(s:h_):xq m p s=(.ok (aO m p s).1,(aO m p s).2):=by unfold xq;rw[G5 h,dS];rfl
theorem oH(m:iy)(e:Int)(s:h_):xq m (iH true e) s=(.ok (),s):=rfl
theorem nH(m:iy)(e:Int)(s:h_):xq m (iH false e) s=(.error e,s):=rfl
theorem rM(m:iy)(a:α)(s:h_):xq m (.ret a) s=(.ok a,s):=rfl
theorem aDv(m:iy)(p:ah α){s:h_}(h:s.stop=true):(xq m p s).2=s:=pR m _ s h
theorem bKi(m:iy)(p:ah α)(s:h_):s.i<=(xq m p s).2.i:=jL m _ s
theorem aVj(m:iy)(p:ah α)(s:h_):DW s.h (xq m p s).2.h:=iO m _ s
theorem bKj{m:iy}(p:ah α){s:h_}(h:ru m s)(a:(xq m p s).2.i<=1000000):ru m (xq m p s).2:=jH _ h a
end
theorem aMy(b c:Int):yg (ah.vw b c):=⟨by show (1:Int) ≠ -1;decide,fun _=>trivial⟩
theorem aFs(b c:Int):yg (ah.ul b c):=⟨by show (2:Int) ≠ -1;decide,fun _=>trivial⟩
theorem V4(c:Int):yg (ah.rd c):=⟨by show (3:Int) ≠ -1;decide,fun _=>trivial⟩
theorem bEv(c:Int)(b:ByteArray):yg (ah.wr c b):=⟨by show (4:Int) ≠ -1;decide,fun _=>trivial⟩
theorem aXv(a b:Int):yg (ah.read a b):=yg.bind (aMy _ _) fun _=>yg.bind (aMy _ _) fun _=>yg.bind (aMy _ _) fun _=>trivial
theorem aJe(a b:Int):yg (ah.jo a b):=yg.bind (aFs _ _) fun _=>yg.bind (aFs _ _) fun _=>yg.bind (aFs _ _) fun _=>trivial
theorem Fg(a:Int):∀ (f b:Nat),yg (ah.up a f b)
 |0,_=>trivial|f+1,b=>yg.bind (aXv _ _) fun x=>by
  cases x with
  |true=>exact Fg a f (b+1)|false=>exact trivial
theorem aZg(a:Int):∀ (r b:Nat),yg (ah.down a r b)
 |0,_=>trivial|r+1,b=>yg.bind (aJe _ _) fun _=>aZg a r (b+1)
theorem yY(a:Int)(n:Nat):yg (ah.dn a n):=yg.bind (Fg a n 0) fun m=>yg.bind (aZg a m 0) fun _=>trivial
theorem aAr(a:Int):∀ (f b:Nat),yg (ah.p_ a f b)
 |0,_=>trivial|f+1,b=>yg.bind (aJe _ _) fun _=>yg.bind (aXv _ _) fun x=>by
  cases x with
  |true=>exact aAr a f (b+1)|false=>exact trivial
theorem aFo(a:Int)(n t:Nat):yg (ah.jw a n t):=yg.bind (yY a n) fun _=>aAr a _ _
theorem aEv(f:Int):∀ (n:Nat) (b:List UInt8),yg (ah.l_ f n b)
 |0,_=>trivial|n+1,_=>yg.bind (V4 _) fun _=>aEv f n _
theorem bNh(rec:Int):yg (ah.cur rec):=yg.bind (aEv _ 8 []) fun _=>yg.bind (aEv _ 8 []) fun _=>trivial
theorem KJ(rec:Int):yg (ah.load rec):=by
 unfold ah.load;split
 trivial;exact yg.bind (bNh rec) fun _=>trivial
theorem bEp(f:Int)(b:List UInt8):∀ (n i:Nat),yg (ah.ED f b n i)
 |0,_=>trivial|n+1,i=>yg.bind (bEv _ _) fun _=>bEp f b n (i+1)
theorem Hl(rec:Int)(c:ByteArray):yg (ah.save rec c):=by
 unfold ah.save;split;trivial;split
 trivial;refine yg.bind (bNh rec) fun p=>?_
 split
 trivial;exact yg.bind (yg.bind (bEv _ _) fun _=>yg.bind (bEp _ _ _ _) fun _=>bEv _ _) fun _=>trivial
structure F7(r:jg):Prop where
 kind:r.kind=1\/r.kind=2
 l0:0<=r.level
 l1:r.level<=16
 ol:g_ r.ol
 ot:r.ot.length=16
 p:r.payload.size<=100000
theorem bBz(root:List UInt8)(r:jg)(g:F7 r):wJ root (kZ root r)=.okR (jJ r):=by
 have e:=g.l0;have d:=g.l1;unfold kZ;obtain⟨C,c⟩:∃ C,dN (jT root) r.level (jJ r)=C:=⟨_,rfl⟩;obtain⟨T,a⟩:∃ T,qc (jT root) r.level C=T:=⟨_,rfl⟩;have f:T.length=16:=by rw[<-a];exact fZ _ _ _
 have b:C.length<4611686018427387904:=by rw[<-c,dH];unfold jJ bI;have t:=aP r.kind;have s:=aP r.level;have q:=aP r.ol;have o:=aP (r.payload.data.toList.length:Int);have m:r.payload.data.toList.length=r.payload.size:=mf;have l:=g.p;have k:=g.ot;simp only[ed];omega
 rw[c,a];have j:=iP (n:=r.level) (bI C++T) a_ a_;have i:=kX C T b;unfold wJ;rw[j];dsimp only;rw[if_neg jc,jI _ _ rfl,i];dsimp only;rw[if_neg (by simp only[ed];omega)];have h:(b_ r.level++(bI C++T)).drop ((b_ r.level).length+(bI C).length)=T:=by rw[<-yl];exact jI _ _ (by rw[ed])
 rw[h];unfold bIi;rw[if_pos a,<-c,xQ]
theorem bDi(root:List UInt8)(r:jg)(g:F7 r):qM root (fK root r)=(r,true):=by
 have b:=g.l0;have a:=g.l1;have d:=g.kind;unfold qM;rw[show (fK root r).data.toList=kZ root r from bV _,bBz root r g];unfold OH jJ;dsimp only;have h:=iP (n:=r.kind) (b_ r.level++(r.ot++(b_ r.ol++bI r.payload.data.toList))) a_ a_;have f:=iP (n:=r.level) (r.ot++(b_ r.ol++bI r.payload.data.toList)) a_ a_;have e:=iP (n:=r.ol) (bI r.payload.data.toList) g.ol.1 g.ol.2
 have c:=kX r.payload.data.toList [] (by
  have i:r.payload.data.toList.length=r.payload.size:=mf;have:=g.p
  omega)
 rw[Pi] at c;rw[h];dsimp only;rw[jI _ _ rfl,f];dsimp only;rw[jI _ _ rfl];unfold VW
 rw[if_neg (by
  have:=g.ot;rw[ed];simp
  omega),jI _ _ g.ot.symm,e]
 dsimp only;rw[jI _ _ rfl,c];dsimp only;rw[show (r.ot++(b_ r.ol++bI r.payload.data.toList)).take 16=r.ot from by rw[<-g.ot];exact List.take_left,jK];unfold VV;rw[decide_eq_true];exact⟨rfl,rfl,d,b,a,rfl⟩
theorem Rt(root:List UInt8)(s:ByteArray)(hs:s.size<=5000)(h:(qM root s).2=true):fK root (qM root s).1=s/\F7 (qM root s).1:=by
 have c:=aZi root s hs;obtain⟨d,a⟩:∃ d,qM root s=d:=⟨_,rfl⟩;rw[a] at h c ⊢;unfold qM at a
 have b:(d.1.kind=1\/d.1.kind=2)/\0<=d.1.level/\d.1.level<=16/\fK root d.1=s:=by
  cases f:wJ root s.data.toList with
  |DZ=>rw[f] at a;rw[<-a] at h;cases h|Dz=>rw[f] at a;rw[<-a] at h;cases h|okR p=>rw[f] at a;unfold OH VW at a;dsimp only at a;split at a;rw[<-a] at h;cases h;unfold VV at a;rw[<-a] at h ⊢;have e:=of_decide_eq_true h;exact⟨e.2.2.1,e.2.2.2.1,e.2.2.2.2.1,e.2.2.2.2.2⟩
 exact⟨b.2.2.2,⟨b.1,b.2.1,b.2.2.1,c.ol,c.ot,mr c.payload jc⟩⟩
theorem WN(root:List UInt8)(r:jg)(g:F7 r):DI root (fK root r) (kZ root r)=(r,true):=by
 have q:=g.l0;have o:=g.l1;have F:=g.kind;have b:=g.ot;obtain⟨E,i⟩:∃ E,fK root r=E:=⟨_,rfl⟩;rw[i];unfold kZ;obtain⟨C,h⟩:∃ C,dN (jT root) r.level (jJ r)=C:=⟨_,rfl⟩;obtain⟨T,d⟩:∃ T,qc (jT root) r.level C=T:=⟨_,rfl⟩;have s:T.length=16:=by rw[<-d];exact fZ _ _ _
 have c:r.payload.data.toList.length<4611686018427387904:=by have t:r.payload.data.toList.length=r.payload.size:=mf;have:=g.p;omega
 have e:(jJ r).length<4611686018427387904:=by unfold jJ bI;have K:=aP r.kind;have J:=aP r.level;have I:=aP r.ol;have H:=aP (r.payload.data.toList.length:Int);have t:r.payload.data.toList.length=r.payload.size:=mf;have G:=g.p;simp only[ed];omega
 have f:C.length<4611686018427387904:=by rw[<-h,dH];exact e
 rw[h,d];have B:=iP (n:=r.level) (bI C++T) a_ a_;have A:=kX C T f;unfold DI;rw[B];dsimp only;rw[if_neg jc,jI _ _ rfl,A];dsimp only;rw[if_neg (by simp only[ed];omega)];have z:(b_ r.level++(bI C++T)).drop ((b_ r.level).length+(bI C).length)=T:=by rw[<-yl];exact jI _ _ (by rw[ed])
 rw[z,if_pos d,<-h,xQ];unfold kdT;have y:=iP (n:=r.kind) (b_ r.level++(r.ot++(b_ r.ol++bI r.payload.data.toList))) a_ a_;have x:=iP (n:=r.level) (r.ot++(b_ r.ol++bI r.payload.data.toList)) a_ a_;have w:=iP (n:=r.ol) (bI r.payload.data.toList) g.ol.1 g.ol.2;have j:=kX r.payload.data.toList [] c;rw[Pi] at j;have u:au (jJ r)=(r.kind,(b_ r.kind).length,0):=y;have m:(jJ r).drop (b_ r.kind).length=b_ r.level++(r.ot++(b_ r.ol++bI r.payload.data.toList)):=jI _ _ rfl;have l:(jJ r).drop ((b_ r.kind).length+(b_ r.level).length)=r.ot++(b_ r.ol++bI r.payload.data.toList):=by rw[<-aAD,m];exact jI _ _ rfl
 have k:(jJ r).drop ((b_ r.kind).length+(b_ r.level).length+16)=b_ r.ol++bI r.payload.data.toList:=by rw[<-aAD,l];exact jI _ _ b.symm
 have D:(jJ r).drop ((b_ r.kind).length+(b_ r.level).length+16+(b_ r.ol).length)=bI r.payload.data.toList:=by rw[<-aAD,k];exact jI _ _ rfl
 have a:(jJ r).length=(b_ r.kind).length+(b_ r.level).length+16+(b_ r.ol).length+(bI r.payload.data.toList).length:=by unfold jJ;simp only[ed,b];omega
 rw[u];dsimp only;rw[if_neg jc,m,x];dsimp only;rw[k,w];dsimp only;rw[D,j];dsimp only;rw[if_neg (by rw[a];omega),if_neg jc,if_neg (by rw[a];omega),l,List.take_append_of_le_length a_,IR a_,jK];rw[i];simp
theorem LH(root:List UInt8)(s:ByteArray)(hs:s.size<=5000)(h:(DI root s s.data.toList).2=true):fK root (DI root s s.data.toList).1=s/\F7 (DI root s s.data.toList).1:=by
 have m:s.data.toList.length=s.size:=mf;generalize s.data.toList=b at *;unfold DI at h ⊢;split at h;cases h;rename_i B;rw[if_neg B];split at h;cases h;rename_i A;rw[if_neg A];split at h;rotate_left 1;cases h;rename_i z;rw[if_pos z];have F:=dH (jT root) (au b).1 (gJ (b.drop (au b).2.1)).1;have n:=jW (b.drop (au b).2.1);rw[AC] at n;generalize dN (jT root) (au b).1 (gJ (b.drop (au b).2.1)).1=X at *;generalize (au b).1=q at *;unfold kdT at h ⊢;have C:=fJ X;generalize au X=t at *;obtain⟨g,a,J⟩:=t;dsimp only at *;split at h;cases h;rename_i y;rw[if_neg y];generalize au (X.drop a)=r at *;obtain⟨f,c,I⟩:=r;dsimp only at *;split at h;cases h;rename_i x;rw[if_neg x];have k:=fJ (X.drop (a+c+16));generalize au (X.drop (a+c+16))=p at *;obtain⟨D,e,H⟩:=p;dsimp only at *;split at h;cases h;rename_i w;rw[if_neg w];have j:=jW (X.drop (a+c+16+e));rw[AC] at j;generalize gJ (X.drop (a+c+16+e))=o at *;obtain⟨d,E,G⟩:=o;dsimp only at *;split at h;cases h;rename_i u;rw[if_neg u];have l:((X.drop (a+c)).take 16).length=16:=by rw[uk,AC];omega
 refine⟨?_,⟨by show g=1\/g=2;omega,by show 0<=f;omega,by show f<=16;omega,k,l,by show (strOf d).size<=100000;rw[bJ];omega⟩⟩;have i:=beq_iff_eq.1 h;rw[ByteArray.toList_eq,ByteArray.toList_eq] at i;exact ByteArray.ext (Array.ext' i)
theorem aCH(root:List UInt8)(s:ByteArray)(hs:s.size<=5000):(DI root s s.data.toList).2=(qM root s).2/\((qM root s).2=true->(DI root s s.data.toList).1=(qM root s).1):=by
 have e:∀ r,fK root r=s->s.data.toList=kZ root r:=fun r h=>by rw[<-h];exact bV _
 cases c:(DI root s s.data.toList).2 with
 |true=>obtain⟨a,b⟩:=LH root s hs c;have:=bDi root _ b;rw[a] at this;rw[this];exact⟨rfl,fun _=>rfl⟩
 | false=>
  cases d:(qM root s).2 with
  |false=>exact⟨rfl,fun h=>by cases h⟩|true=>obtain⟨a,b⟩:=Rt root s hs d;have:=WN root _ b;rw[a,<-e _ a] at this;rw[this] at c;cases c
def NV{α:Type}:Except Int α->Int->Prop
 |.ok _,x=>x=0|.error e,x=>x=e/\e≠0
def aLA:Except Int jg->jg×Int->Prop
 |.ok r,x=>x=(r,0)|.error e,x=>x.2=e/\e≠0
theorem Qr(rec:Int)(hr:0<=rec/\rec<=3)(c:ByteArray)(m:iy)(s:h_):(C9 rec c m s).1=(aO m (ah.save rec c) s).2/\((C9 rec c m s).1.stop=false->(C9 rec c m s).2=(aO m (ah.save rec c) s).1):=by
 have d:¬bF rec 0<0:=by have:=(pU hr (k:=0) a_).1;omega
 unfold C9;by_cases b:2000<c.size;rw[if_pos b];have e:ah.save rec c=.ret ⟨aH,0,19⟩:=by unfold ah.save;rw[if_neg d,if_pos b]
 rw[e];exact⟨rfl,fun _=>rfl⟩;rw[if_neg b];by_cases a:(aO m (ah.cur rec) s).2.stop=true;rw[if_pos a];have e:(aO m (ah.save rec c) s).2=(aO m (ah.cur rec) s).2:=by unfold ah.save;rw[if_neg d,if_neg b,dS];exact pR m _ _ a
 exact⟨e.symm,fun h=>by rw[a] at h;cases h⟩;rw[if_neg a];exact⟨rfl,fun _=>rfl⟩
theorem aFq(op:je)(r:jg)(m:iy)(s:h_):(t_ op r m s).2=(xq m (z_ op r) s).2/\((t_ op r m s).2.stop=false->NV (xq m (z_ op r) s).1 (t_ op r m s).1):=by obtain⟨b,a⟩:=Qr 3 a_ (fK op.root r) m s;unfold t_ z_;dsimp only;rw[jQ (Zh (Hl 3 _) s)];generalize C9 3 (fK op.root r) m s=x at b a;generalize aO m (ah.save 3 (fK op.root r)) s=y at b a;obtain⟨g,f⟩:=x;obtain⟨c,e⟩:=y;dsimp only at b a ⊢;subst b;by_cases h:c.err=0;rw[show (c.err==0)=true from by simpa using h,jQ (oH _ _ _)];exact⟨rfl,fun d=>by rw[a d];exact h⟩;rw[show (c.err==0)=false from by simpa using h,pJ (nH _ _ _)];exact⟨rfl,fun d=>by rw[a d];exact⟨rfl,h⟩⟩
theorem aGr(op:je)(m:iy)(s:h_):(jd op m s).2=(xq m (r_ op) s).2/\((jd op m s).2.stop=false->aLA (xq m (r_ op) s).1 (jd op m s).1)/\((jd op m s).2.stop=true->(jd op m s).1.2≠0):=by
 have d:=aMk m s;unfold jd r_;rw[jQ (Zh (KJ 3) s)];generalize l:aO m (ah.load 3) s=y at d ⊢;obtain⟨o,c⟩:=y;dsimp only;by_cases b:c.stop=true;have e:xx (o,c)=⟨aH,0,13⟩:=if_pos b;rw[if_pos (.inr b),e];refine⟨(aDv m _ b).symm,fun h=>absurd h (by show ¬c.stop=false;rw[b];exact fun h=>Bool.noConfusion h),fun _=>by show (13:Int)≠0;decide⟩;have e:xx (o,c)=o:=if_neg b;rw[e] at d ⊢;have i:c.stop=false:=by simpa using b
 by_cases h:o.err=0;rw[if_neg (fun k=>k.elim (fun a=>a h) (fun a=>b a)),show (o.err==0)=true from by simpa using h,jQ (oH _ _ _)];obtain⟨f,j⟩:=aCH op.root o.content a_;cases g:(qM op.root o.content).2 with
 |true=>rw[g] at f;rw[if_pos f,jQ (oH _ _ _)];exact⟨rfl,fun _=>by rw[j g];rfl,fun h=>absurd h b⟩|false=>rw[g] at f;rw[if_neg (by rw[f];exact Bool.false_ne_true),pJ (nH _ _ _)];exact⟨rfl,fun _=>⟨rfl,by decide⟩,fun h=>absurd h b⟩
 rw[if_pos (.inl h),show (o.err==0)=false from by simpa using h,pJ (nH _ _ _)];exact⟨rfl,fun _=>⟨rfl,h⟩,fun h=>absurd h b⟩
theorem aAv(f:Nat)(m:iy)(s:h_):(mF (f+1) m s).2=(xq m (qK f) s).2/\((mF (f+1) m s).2.stop=false->NV (xq m (qK f) s).1 (mF (f+1) m s).1):=by obtain⟨c,a⟩:=bHt m 3 16 (f+1) s;unfold mF qK kS;rw[aBa,jQ (Zh (aFo 3 16 (f+1)) s)];generalize AX m 3 16 (f+1) s=x at c a;generalize aO m (ah.jw 3 16 (f+1)) s=y at c a;obtain⟨⟨i,d⟩,n⟩:=x;obtain⟨⟨g,e⟩,l⟩:=y;dsimp only at c a ⊢;subst c;by_cases h:e=0;rw[h] at a ⊢;rw[show ((0:Int)==0)=true from rfl,jQ (oH _ _ _),rM];dsimp only;by_cases j:g=f+1;subst j;rw[show (((f+1:Nat):Int)==((f+1:Nat):Int))=true from by simp,jQ (oH _ _ _)];refine⟨rfl,fun b=>?_⟩;cases a b;show (if (0:Int)=0/\f+1≠f+1 then (21:Int) else 0)=0;rw[if_neg a_];rw[show ((g:Int)==((f+1:Nat):Int))=false from by rw[beq_eq_false_iff_ne];omega,pJ (nH _ _ _)];refine⟨rfl,fun b=>?_⟩;cases a b;refine⟨?_,by decide⟩;show (if (0:Int)=0/\i≠f+1 then (21:Int) else 0)=21;rw[if_pos ⟨rfl,j⟩];rw[show (e==0)=false from by simpa using h,pJ (nH _ _ _)];refine⟨rfl,fun b=>?_⟩;cases a b;refine⟨?_,h⟩;show (if d=0/\i≠f+1 then (21:Int) else d)=d;rw[if_neg (fun k=>h k.1)]
end Pv
namespace Pv
def DK(p:ByteArray)(b:Int×h_):ja×h_:=(if b.1≠0 then dX b.1 else { kz with payload:=p },b.2)
def uU(op:je)(f:Nat)(p:ByteArray)(m:iy)(s:h_):ja×h_:=DK p (if (t_ op (qL f p) m s).1=0/\(t_ op (qL f p) m s).2.stop=false then mF (f+1) m (t_ op (qL f p) m s).2 else t_ op (qL f p) m s)
def Vt(r:jg)(n:Nat)(c:(Nat×Int)×h_):ja×h_:=if c.1.2≠0 then (dX c.1.2,c.2) else ({ kz with session:=n,payload:=r.payload },c.2)
def Vu(r:jg)(m:iy)(n:Nat×h_):ja×h_:=if n.2.stop=true then ({ kz with session:=n.1,payload:=r.payload },n.2) else if 16<=n.1 then (dX 17,n.2) else Vt r n.1 (AX m 2 16 (n.1+1) n.2)
def Vw(r:jg)(m:iy)(b:Int×h_):ja×h_:=if b.1≠0 then (dX b.1,b.2) else Vu r m (aO m (ah.dn 2 16) b.2)
def UD(op:je)(f:Nat)(m:iy)(s:h_):ja×h_:=
 if (jd op m s).1.2≠0 then (dX (jd op m s).1.2,(jd op m s).2) else
 if (jd op m s).1.1.kind≠1\/(jd op m s).1.1.level≠((f+1-f % 2:Nat):Int) then (dX 14,(jd op m s).2) else
 Vw (jd op m s).1.1 m (if f % 2=0 then mF (f+1) m (jd op m s).2 else (0,(jd op m s).2))
def Z7(op:je)(f:Nat)(r:jg)(c:Int×h_):ja×h_:=if c.1≠0 then (dX c.1,c.2) else (gW op.link (yN op f r),c.2)
def sdB(op:je)(f:Nat)(r:jg)(m:iy)(b:Int×h_):ja×h_:=if b.1≠0 then (dX b.1,b.2) else Z7 op f r (if b.2.stop=false then t_ op (yN op f r) m b.2 else (0,b.2))
def UH(op:je)(f:Nat)(m:iy)(s:h_):ja×h_:=
 if (jd op m s).1.2≠0 then (dX (jd op m s).1.2,(jd op m s).2) else
 if (jd op m s).1.1.kind≠1\/(jd op m s).1.1.level≠(f:Int) then (dX 14,(jd op m s).2) else
 sdB op f (jd op m s).1.1 m (mF (f+1) m (jd op m s).2)
def wC(op:je)(f:Nat)(m:iy)(s:h_):ja×h_:=
 if (jd op m s).1.2≠0 then (dX (jd op m s).1.2,(jd op m s).2) else
 if (jd op m s).1.1.kind≠2\/(jd op m s).1.1.level≠(f:Int) then (dX 14,(jd op m s).2) else
 (gW op.link (jd op m s).1.1,(jd op m s).2)
def wY(op:je)(f:Nat)(m:iy)(s:h_):ja×h_:=if op.xl≠(f:Int) then (dX 14,s) else if UJ op≠0 then (dX 8,s) else if 1000<(qZ op).size then (dX 2,s) else uU op f (qZ op) m s
def EG(op:je)(f:Nat)(m:iy)(s:h_):ja×h_:=DK op.payload (t_ op ⟨1,(f:Int),vz,0,op.payload⟩ m s)
def bKn(op:je)(f:Nat)(m:iy)(s:h_):ja×h_:=
 if (((op.kind=1\/op.kind=4\/op.kind=7)\/op.kind=6)/\f % 2=1)\/((op.kind=3\/op.kind=5)/\f % 2=0) then (dX 21,s) else
 if (op.kind=1\/op.kind=4\/op.kind=7)/\16<=f then (dX 17,s) else
 if op.kind=1 then uU op f op.payload m s else if op.kind=2 then UD op f m s else if op.kind=3 then EG op f m s else
 if op.kind=4 then ({ kz with ot:=op.id,ol:=f },s) else if op.kind=5 then UH op f m s else if op.kind=6 then wC op f m s else wY op f m s
def F_(op:je)(m:iy)(s:h_):ja×h_:=if (aO m (ah.dn 3 16) s).2.stop=true then (kz,(aO m (ah.dn 3 16) s).2) else bKn op (aO m (ah.dn 3 16) s).1 m (aO m (ah.dn 3 16) s).2
def ji(m:iy)(x:ja×h_)(p:ah ja)(s:h_):Prop:=x.2=(xq m p s).2/\(x.2.stop=false->x.1=Et dX (xq m p s).1)
theorem ji.of{m:iy}{x:ja×h_}{p:ah ja}{s s':h_}{y:Except Int ja}(h:xq m p s=(y,s'))(h1:x.2=s')(h2:s'.stop=false->x.1=Et dX y):ji m x p s:=by unfold ji;rw[h];exact⟨h1,fun a=>h2 (h1 ▸ a)⟩
theorem ji.step{m:iy}{b:Type}{x:ja×h_}{p:ah b}{f:b->ah ja}{s s':h_}{a:b}(h:xq m p s=(.ok a,s'))(h1:ji m x (f a) s'):ji m x (p.bind f) s:=by unfold ji;rw[jQ h];exact h1
theorem ji.fail{m:iy}{a:Type}{p:ah a}{f:a->ah ja}{s s':h_}{e:Int}(h:xq m p s=(.error e,s')):ji m (dX e,s') (p.bind f) s:=by unfold ji;rw[pJ h];exact⟨rfl,fun _=>rfl⟩
theorem ji.stop{m:iy}{b:Type}{x:ja×h_}{p:ah b}{f:b->ah ja}{s:h_}(h:(xq m p s).2.stop=true)(h1:x.2=(xq m p s).2):ji m x (p.bind f) s:=by
 unfold ji
 have e:(xq m (p.bind f) s).2=(xq m p s).2:=by
  rw[aBa];generalize xq m p s=z at h ⊢;obtain⟨y,d⟩:=z;cases y with
  |error e=>rfl|ok a=>exact aDv m _ h
 rw[e,h1];exact⟨rfl,fun c=>by rw[h] at c;cases c⟩
theorem pV{m:iy}{d:Type}{p:ah d}{s:h_}{a:Int×h_}(h:a.2=(xq m p s).2/\(a.2.stop=false->NV (xq m p s).1 a.1)):(a.2.stop=true/\a.2=(xq m p s).2)\/(a.2.stop=false/\a.1=0/\∃ y,xq m p s=(.ok y,a.2))\/(a.2.stop=false/\a.1≠0/\xq m p s=(.error a.1,a.2)):=by
 obtain⟨c,g⟩:=h;cases f:a.2.stop with
 |true=>exact .inl ⟨rfl,c⟩|false=>
  have b:=g f;generalize xq m p s=z at c b ⊢;obtain⟨y,i⟩:=z;dsimp only at c b;subst c;cases y with
  |ok v=>exact .inr (.inl ⟨rfl,b,v,rfl⟩)|error e=>exact .inr (.inr ⟨rfl,by rw[b.1];exact b.2,by rw[b.1]⟩)
theorem aKj(op:je)(f:Nat)(p:ByteArray)(m:iy)(s:h_):ji m (uU op f p m s) (nJ op f p) s:=by
 unfold uU nJ;have d:=pV (aFq op (qL f p) m s);generalize t_ op (qL f p) m s=a at d ⊢;rcases d with⟨h,e⟩|⟨h,e,y,k⟩|⟨h,e,k⟩;rw[if_neg (fun c=>by rw[h] at c;exact absurd c.2 jc)];exact ji.stop (by rw[<-e];exact h) e;rw[if_pos ⟨e,h⟩];refine ji.step k ?_;have c:=pV (aAv f m a.2);generalize mF (f+1) m a.2=b at c ⊢;rcases c with⟨h,e⟩|⟨h,e,y,k⟩|⟨h,e,k⟩;exact ji.stop (by rw[<-e];exact h) e;refine ji.step k (ji.of (rM _ _ _) rfl fun _=>?_);show (if b.1≠0 then dX b.1 else _)=_;rw[if_neg (fun c=>c e)];rfl
 have:DK p b=(dX b.1,b.2):=by unfold DK;rw[if_pos e]
 rw[this];exact ji.fail k;rw[if_neg (fun c=>e c.1)];have:DK p a=(dX a.1,a.2):=by unfold DK;rw[if_pos e]
 rw[this];exact ji.fail k
theorem aGp(op:je)(m:iy)(s:h_):((jd op m s).1.2≠0/\∀ f:jg->ah ja,ji m (dX (jd op m s).1.2,(jd op m s).2) ((r_ op).bind f) s)\/((jd op m s).1.2=0/\(jd op m s).2.stop=false/\xq m (r_ op) s=(.ok (jd op m s).1.1,(jd op m s).2)):=by
 obtain⟨b,j,i⟩:=aGr op m s;cases g:(jd op m s).2.stop with
 |true=>exact .inl ⟨i g,fun f=>ji.stop (by rw[<-b];exact g) b⟩| false=>
  have d:=j g;generalize jd op m s=a at g b d ⊢;obtain⟨z,h⟩:∃ z,xq m (r_ op) s=z:=⟨_,rfl⟩;rw[h] at b d;obtain⟨y,k⟩:=z;dsimp only at b d;cases y with
  |ok r=>have c:a.1=(r,0):=d;refine .inr ⟨by rw[c],rfl,?_⟩;rw[h,c,b]|error e=>have c:a.1.2=e/\e≠0:=d;refine .inl ⟨by rw[c.1];exact c.2,fun f=>?_⟩;rw[b,c.1];exact ji.fail h
theorem lZ{m:iy}{x:ja×h_}{b:Bool}{e:Int}{f:Unit->ah ja}{s:h_}(hb:b=true)(h:ji m x (f ()) s):ji m x ((iH b e).bind f) s:=by subst hb;exact ji.step (oH m e s) h
theorem mD{m:iy}{b:Bool}{e:Int}{f:Unit->ah ja}{s:h_}(hb:b=false):ji m (dX e,s) ((iH b e).bind f) s:=by subst hb;exact ji.fail (nH m e s)
theorem aVl{k:Int}{r:jg}{v:Int}(h:¬(r.kind≠k\/r.level≠v)):(bif r.kind==k then r.level==v else false)=true:=by have b:r.kind=k:=Decidable.byContradiction fun a=>h (.inl a);have a:r.level=v:=Decidable.byContradiction fun a=>h (.inr a);rw[b,a];simp
theorem aMl{k:Int}{r:jg}{v:Int}(h:r.kind≠k\/r.level≠v):(bif r.kind==k then r.level==v else false)=false:=by
 rcases h with h|h;rw[show (r.kind==k)=false from by simpa using h];rfl
 ·rw[show (r.level==v)=false from by simpa using h];cases r.kind==k<;>rfl
theorem bJz(r:jg)(op:je)(m:iy)(s:h_):ji m (Vu r m (aO m (ah.dn 2 16) s)) (ZN op r) s:=by
 unfold Vu ZN;have d:=Zh (m:=m) (yY 2 16) s;generalize aO m (ah.dn 2 16) s=q at d ⊢;obtain⟨n,b⟩:=q;dsimp only at d ⊢;by_cases k:b.stop=true;rw[if_pos k];exact ji.stop (by rw[d];exact k) (by rw[d]);rw[if_neg k];refine ji.step d ?_;by_cases t:16<=n;rw[if_pos t];exact mD (decide_eq_false a_);rw[if_neg t];refine lZ (decide_eq_true a_) ?_;unfold Vt kS;obtain⟨g,f⟩:=bHt m 2 16 (n+1) b;have c:=Zh (m:=m) (aFo 2 16 (n+1)) b;generalize AX m 2 16 (n+1) b=x at g f ⊢;generalize aO m (ah.jw 2 16 (n+1)) b=y at g f c;obtain⟨⟨u,l⟩,i⟩:=x;obtain⟨⟨A,z⟩,w⟩:=y;dsimp only at g f c ⊢;subst g;cases j:i.stop with
 | true=>
  have o:(xq m ((ah.jw 2 16 (n+1)).bind fun p=>(iH (p.2==0) p.2).bind fun _=>.ret p.1) b).2=i:=by rw[jQ c];exact aDv m _ j
  refine ji.stop (by rw[o];exact j) ?_;rw[o]
  split<;>rfl
 |false=>cases f j;by_cases e:l=0;rw[if_neg (fun h=>h e)];refine ji.step (a:=u) (s':=i) ?_ (ji.of (rM _ _ _) rfl fun _=>rfl);rw[jQ c];dsimp only;rw[e,show ((0:Int)==0)=true from rfl,jQ (oH _ _ _),rM];rw[if_pos e];refine ji.fail ?_;rw[jQ c];dsimp only;rw[show (l==0)=false from by simpa using e,pJ (nH _ _ _)]
theorem KN(op:je)(f:Nat)(m:iy)(s:h_):ji m (UD op f m s) (O5 op f) s:=by
 unfold UD O5;rcases aGp op m s with⟨h,k⟩|⟨h,i,k⟩;rw[if_pos h];exact k _;rw[if_neg (fun c=>c h)];generalize jd op m s=a at h i k ⊢;refine ji.step k ?_
 by_cases d:a.1.1.kind≠1\/a.1.1.level≠((f+1-f % 2:Nat):Int);rw[if_pos d];exact mD (aMl d);rw[if_neg d];refine lZ (aVl d) ?_;by_cases c:f % 2=0;rw[if_pos c,show ((((f % 2:Nat):Int)==0))=true from by rw[c];rfl];show ji m _ ((qK f).bind fun _=>ZN op a.1.1) a.2;have g:=pV (aAv f m a.2);generalize mF (f+1) m a.2=b at g ⊢;unfold Vw;rcases g with⟨h,e⟩|⟨h,e,y,k⟩|⟨h,e,k⟩;refine ji.stop (by rw[<-e];exact h) ?_;rw[<-e]
 split
 rfl;exact (bJz a.1.1 op m b.2).1.trans (aDv m _ h);rw[if_neg (fun c=>c e)];exact ji.step k (bJz a.1.1 op m b.2);rw[if_pos e];exact ji.fail k;rw[if_neg c,show ((((f % 2:Nat):Int)==0))=false from by rw[beq_eq_false_iff_ne];omega];refine ji.step (rM m () a.2) ?_;unfold Vw;rw[if_neg (fun h=>h rfl)];exact bJz a.1.1 op m a.2
theorem Gu(op:je)(f:Nat)(n:f % 2=1)(m:iy)(s:h_):ji m (UH op f m s) (Sv op f) s:=by
 unfold UH Sv;refine lZ (by rw[n];rfl) ?_;rcases aGp op m s with⟨h,k⟩|⟨h,l,k⟩;rw[if_pos h];exact k _;rw[if_neg (fun d=>d h)];generalize jd op m s=a at h l k ⊢;refine ji.step k ?_
 by_cases g:a.1.1.kind≠1\/a.1.1.level≠(f:Int);rw[if_pos g];exact mD (aMl g);rw[if_neg g];refine lZ (aVl g) ?_;have j:=pV (aAv f m a.2);generalize mF (f+1) m a.2=b at j ⊢;unfold sdB;rcases j with⟨h,e⟩|⟨h,e,y,k⟩|⟨h,e,k⟩
 ·refine ji.stop (by rw[<-e];exact h) ?_;rw[<-e,if_neg (show ¬b.2.stop=false from by rw[h];decide)];unfold Z7;split;rfl
  ·split<;>rfl
 ·rw[if_neg (fun d=>d e),if_pos h];refine ji.step k ?_;have i:=pV (aFq op (yN op f a.1.1) m b.2);generalize t_ op (yN op f a.1.1) m b.2=c at i ⊢;unfold Z7;rcases i with⟨h,e⟩|⟨h,e,y,k⟩|⟨h,e,k⟩
  ·refine ji.stop (by rw[<-e];exact h) ?_;rw[<-e]
   split<;>rfl
  rw[if_neg (fun d=>d e)];exact ji.step k (ji.of (rM _ _ _) rfl fun _=>rfl);rw[if_pos e];exact ji.fail k
 rw[if_pos e];exact ji.fail k
theorem bBe(op:je)(f:Nat)(d:f % 2=0)(m:iy)(s:h_):ji m (wC op f m s) (tN op f) s:=by
 unfold wC tN;refine lZ (by rw[d];rfl) ?_;rcases aGp op m s with⟨h,k⟩|⟨h,c,k⟩;rw[if_pos h];exact k _;rw[if_neg (fun e=>e h)];generalize jd op m s=a at h c k ⊢;refine ji.step k ?_
 by_cases b:a.1.1.kind≠2\/a.1.1.level≠(f:Int);rw[if_pos b];exact mD (aMl b);rw[if_neg b];exact lZ (aVl b) (ji.of (rM _ _ _) rfl fun _=>rfl)
theorem ji.map{m:iy}{x:ja×h_}{p:ah ja}{s:h_}(h:ji m x p s):ji m x (p.bind fun o=>.ret o) s:=by
 have e:xq m (p.bind fun o=>.ret o) s=xq m p s:=by
  rw[aBa];generalize xq m p s=z;obtain⟨y,a⟩:=z
  cases y<;>rfl
 unfold ji at h ⊢;rw[e];exact h
theorem aBu{m:iy}{x:ja×h_}{f:Nat}{g:Unit->ah ja}{s:h_}(h0:f % 2=0)(h1:f<16)(h:ji m x (g ()) s):ji m x ((nM f).bind g) s:=by refine ji.step (a:=()) (s':=s) ?_ h;unfold nM;rw[show ((((f % 2:Nat):Int)==0))=true from by rw[h0];rfl,jQ (oH _ _ _),decide_eq_true (show (f:Int)<16 by omega),jQ (oH _ _ _),rM]
theorem aFk{m:iy}{f:Nat}{g:Unit->ah ja}{s:h_}(h0:¬f % 2=0):ji m (dX 21,s) ((nM f).bind g) s:=by refine ji.fail ?_;unfold nM;rw[show ((((f % 2:Nat):Int)==0))=false from by rw[beq_eq_false_iff_ne];omega,pJ (nH _ _ _)]
theorem aBv{m:iy}{f:Nat}{g:Unit->ah ja}{s:h_}(h0:f % 2=0)(h1:¬f<16):ji m (dX 17,s) ((nM f).bind g) s:=by refine ji.fail ?_;unfold nM;rw[show ((((f % 2:Nat):Int)==0))=true from by rw[h0];rfl,jQ (oH _ _ _),decide_eq_false (show ¬(f:Int)<16 by omega),pJ (nH _ _ _)]
theorem bEj(op:je)(f:Nat)(h0:f % 2=0)(h1:f<16)(m:iy)(s:h_):ji m (wY op f m s) (qJ op f) s:=by unfold wY qJ;refine aBu h0 h1 ?_;by_cases b:op.xl≠(f:Int);rw[if_pos b];exact mD (by simpa using b);rw[if_neg b];refine lZ (by simpa using b) ?_;by_cases a:UJ op≠0;rw[if_pos a];exact mD (by simpa using a);rw[if_neg a];refine lZ (by simpa using a) ?_;by_cases c:1000<(qZ op).size;rw[if_pos c];exact mD (decide_eq_false a_);rw[if_neg c];exact lZ (decide_eq_true a_) (aKj op f (qZ op) m s).map
theorem Ho(op:je)(f:Nat)(c:f % 2=1)(m:iy)(s:h_):ji m (EG op f m s) (UG op f) s:=by unfold EG UG;refine lZ (by rw[c];rfl) ?_;have b:=pV (aFq op ⟨1,(f:Int),vz,0,op.payload⟩ m s);generalize t_ op ⟨1,(f:Int),vz,0,op.payload⟩ m s=a at b ⊢;unfold DK;rcases b with⟨h,e⟩|⟨h,e,y,k⟩|⟨h,e,k⟩;exact ji.stop (by rw[<-e];exact h) e;rw[if_neg (fun d=>d e)];exact ji.step k (ji.of (rM _ _ _) rfl fun _=>rfl);rw[if_pos e];exact ji.fail k
theorem aYm(op:je)(j:1<=op.kind/\op.kind<=7)(f:Nat)(m:iy)(s:h_):ji m (bKn op f m s) (pK op f) s:=by unfold bKn pK;by_cases a:op.kind=1;by_cases c:f % 2=0;rw[if_neg a_];by_cases h:f<16;rw[if_neg a_,if_pos a,if_pos a];exact aBu c h (aKj op f op.payload m s).map;rw[if_pos a_,if_pos a];exact aBv c h;rw[if_pos a_,if_pos a];exact aFk c;by_cases b:op.kind=2;rw[if_neg a_,if_neg a_,if_neg a,if_pos b,if_neg a,if_pos b];exact KN op f m s;by_cases d:op.kind=3;by_cases c:f % 2=1;rw[if_neg a_,if_neg a_,if_neg a,if_neg b,if_pos d,if_neg a,if_neg b,if_pos d];exact Ho op f c m s;rw[if_pos a_,if_neg a,if_neg b,if_pos d];exact mD (by rw[beq_eq_false_iff_ne];omega);by_cases e:op.kind=4;by_cases c:f % 2=0;rw[if_neg a_];by_cases h:f<16;rw[if_neg a_,if_neg a,if_neg b,if_neg d,if_pos e,if_neg a,if_neg b,if_neg d,if_pos e];exact aBu c h (ji.of (rM _ _ _) rfl fun _=>rfl);rw[if_pos a_,if_neg a,if_neg b,if_neg d,if_pos e];exact aBv c h;rw[if_pos a_,if_neg a,if_neg b,if_neg d,if_pos e];exact aFk c;by_cases g:op.kind=5;by_cases c:f % 2=1;rw[if_neg a_,if_neg a_,if_neg a,if_neg b,if_neg d,if_neg e,if_pos g,if_neg a,if_neg b,if_neg d,if_neg e,if_pos g];exact Gu op f c m s;rw[if_pos a_,if_neg a,if_neg b,if_neg d,if_neg e,if_pos g];exact mD (by rw[beq_eq_false_iff_ne];omega);by_cases i:op.kind=6;by_cases c:f % 2=0;rw[if_neg a_,if_neg a_,if_neg a,if_neg b,if_neg d,if_neg e,if_neg g,if_pos i,if_neg a,if_neg b,if_neg d,if_neg e,if_neg g,if_pos i];exact bBe op f c m s;rw[if_pos a_,if_neg a,if_neg b,if_neg d,if_neg e,if_neg g,if_pos i];exact mD (by rw[beq_eq_false_iff_ne];omega);rw[show (if op.kind=1 then zN op f else if op.kind=2 then O5 op f else if op.kind=3 then UG op f else if op.kind=4 then Xe op f else if op.kind=5 then Sv op f else if op.kind=6 then tN op f else qJ op f)=qJ op f from by rw[if_neg a,if_neg b,if_neg d,if_neg e,if_neg g,if_neg i]];by_cases c:f % 2=0;rw[if_neg a_];by_cases h:f<16;rw[if_neg a_,if_neg a,if_neg b,if_neg d,if_neg e,if_neg g,if_neg i];exact bEj op f c h m s;rw[if_pos a_];exact aBv c h;rw[if_pos a_];exact aFk c
theorem X3(op:je)(d:1<=op.kind/\op.kind<=7)(m:iy)(s:h_):ji m (F_ op m s) ((ah.dn 3 16).bind fun n=>pK op n) s:=by unfold F_;have a:=Zh (m:=m) (yY 3 16) s;generalize aO m (ah.dn 3 16) s=q at a ⊢;obtain⟨n,c⟩:=q;dsimp only at a ⊢;by_cases b:c.stop=true;rw[if_pos b];exact ji.stop (by rw[a];exact b) (by rw[a]);rw[if_neg b];exact ji.step a (aYm op d n m c)
end Pv
end Go.Proofs.YtndpjopifkbgiaaGreatDoor
