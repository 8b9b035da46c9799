/-
  Several texts in one file: each has its own heading below.
-/
import Derived.Test.YtndpjopifkbgiaaGreatDoorMsR
import Derived.Test.YtndpjopifkbgiaaGreatDoorMsE
import Derived.Test.YtndpjopifkbgiaaGreatDoorMsK
set_option maxRecDepth 100000
set_option maxHeartbeats 4000000
namespace Go.Proofs.YtndpjopifkbgiaaGreatDoor.Pv
open Go.RowKit Tryz
open _root_.Array renaming length_toList->mf
open _root_.List renaming length_append->ed,take_of_length_le->IR,length_drop->AC,getElem?_eq_none->GM,append_nil->Pi,length_take->uk,getElem?_set_self->aCx,getElem?_set_ne->aCD,mem_cons->xn,not_mem_nil->Xq,cons_append->We,nil_append->WF,length_set->VM,replicate->DD,length_singleton->Yd,getElem_mem->YV
open _root_.Bool renaming false_ne_true->Xw
open _root_.Int renaming eq_ofNat_of_zero_le->Ye,toNat_natCast->MM,emod_eq_of_lt->aEG,toNat->YK
open _root_.Nat renaming zero_add->lL,le_trans->mr,le_refl->dE
open _root_.Go.IntKind renaming wrap_i64->TC
def pg(m:iy)(s:h_)(a:Int):Prop:=m.live=true->(0<=a/\a<(s.h.b.length:Int))/\(s.h.b.getD a.toNat []).length=48
theorem pg.BF{m:iy}{s s':h_}{a:Int}(h:pg m s a)(e:DW s.h s'.h):pg m s' a:=fun b=>by rw[e.n,e.l];exact h b
theorem pg.ex{m:iy}{s:h_}{a:Int}(h:pg m s a)(d:m.live=true){c:Int}(hc:0<=c/\c<48):zx s.h.b a c=true:=by obtain⟨f,e⟩:=h d;unfold zx;rw[e];simp only[Bool.and_eq_true,decide_eq_true_eq];omega
def bMy:List PV->Option (BC×Ai)
 |[.w (.agg [.lit (.int .i64 k),.lit (.int .i64 b),.lit (.int .i64 c),.lit (.string x)])]=>some (fun m s=>m.live=true->s.stop=false->ZJ s.h ⟨k,b,c,x⟩,fun m s=>((dV m ⟨k,b,c,x⟩ s).2,.w (.agg (iW (dV m ⟨k,b,c,x⟩ s).1))))|_=>none
theorem Md(m:iy)(s:h_):ai prog af 150 (dI 96 (uq m s bMy)):=
 eU (aC func150 aj rfl) (fun a C F h=>by
  unfold bMy at h;split at h;cases h;exact Rj _
  cases h)
def aKN(m:iy)(s:h_):List (Nat×Spec):=[(150,dI 96 (uq m s bMy))]
theorem aBU(m:iy)(s:h_):jl prog af (find (aKN m s)):=⟨bD (fun p a=>by
 obtain rfl:=List.mem_singleton.1 a
 exact Md m s),dG⟩
theorem bDs(b c:Int):uw 111 [di b,di c] (fun m s=>pg m s b/\0<=c/\c<48) (fun m s=>((aO m (ah.vw b c) s).2,di (aO m (ah.vw b c) s).1)):=by
 intro m s a d f;have M:=aBU m s;have g:m.live=true->s.stop=false->ZJ s.h ⟨1,b,c,aH⟩:=fun e _=>⟨.inl rfl,rfl,d.1.ex e d.2⟩;refine dM func111 rfl rfl rfl (fun A i j=>?_);refine aB ?_;refine aF ?_ ?_;simp;exact⟨a,g,f⟩;refine aB ?_;refine bT ?_
 all_goals rfl
theorem aWg(b c:Int):uw 112 [di b,di c] (fun m s=>pg m s b/\0<=c/\c<48) (fun m s=>((aO m (ah.ul b c) s).2,.lu [])):=by
 intro m s d f l;have M:=aBU m s;have e:m.live=true->s.stop=false->ZJ s.h ⟨2,b,c,aH⟩:=fun k _=>⟨.inr rfl,rfl,f.1.ex k f.2⟩;refine dM func112 rfl rfl rfl (fun A j n=>?_);refine bC M n j (by rfl) (by kernel_rfl) ?_ ?_;simp;exact⟨d,e,l⟩;intro a w e;refine⟨.inl rfl,_,⟨?_,(fun o i=>by obtain rfl:=List.mem_singleton.1 i;exact⟨_,rfl,eQ rfl⟩),fun p g=>(by cases g)⟩,e⟩;refine aY (by rfl) (by simp) (by rfl) (by rfl) ?_
 all_goals rfl
def bMw:List PV->Option (BC×Ai)
 |[.w (.one (.lit (.int .i64 b))),.w (.one (.lit (.int .i64 c)))]=>some (fun m s=>pg m s b/\0<=c/\c<48,fun m s=>((aO m (ah.vw b c) s).2,di (aO m (ah.vw b c) s).1))|_=>none
def bMl:List PV->Option (BC×Ai)
 |[.w (.one (.lit (.int .i64 b))),.w (.one (.lit (.int .i64 c)))]=>some (fun m s=>pg m s b/\0<=c/\c<48,fun m s=>((aO m (ah.ul b c) s).2,.lu []))|_=>none
theorem aWk(m:iy)(s:h_):ai prog af 111 (dI 96 (uq m s bMw)):=
 eU (aC func111 aj rfl) (fun a C F h=>by
  unfold bMw at h;split at h;cases h;exact bDs _ _
  cases h)
theorem aSa(m:iy)(s:h_):ai prog af 112 (dI 96 (uq m s bMl)):=
 eU (aC func112 aj rfl) (fun a C F h=>by
  unfold bMl at h;split at h;cases h;exact aWg _ _
  cases h)
def aBW(m:iy)(s:h_):List (Nat×Spec):=[(111,dI 96 (uq m s bMw)),(112,dI 96 (uq m s bMl))]
theorem Qo(m:iy)(s:h_):jl prog af (find (aBW m s)):=⟨bD (fun p a=>by
 simp only[aBW,xn,Xq,or_false] at a;rcases a with rfl|rfl;exact aWk m s
 exact aSa m s),dG⟩
theorem wr3{b i:Nat}(hb:b<16)(c:i<3):IntKind.i64.wrap (IntKind.i64.wrap (3*(b:Int))+(i:Int))=3*(b:Int)+(i:Int):=by
 have a:IntKind.i64.wrap (3*(b:Int))=3*(b:Int):=by rw[TC,aEG a_ a_];omega
 rw[a,TC,aEG a_ a_];omega
def bKa(m:iy)(s:h_)(a:Int)(b i:Nat):St:=⟨[(0,none,d_ (.pt px 0 0)),(1,none,di a),(2,none,di (b:Int)),(6,none,di (i:Int))],[(px,none,0,.box 96 (qo m s))]⟩
theorem aUs(m:iy)(a:Int)(b i:Nat)(c:i<3)(s:h_):aO m (ah.u_ a b (3-i)) s=aO m (ah.u_ a b (3-(i+1))) (aO m (ah.ul a (3*(b:Int)+(i:Int))) s).2:=by rw[show 3-i=(2-i)+1 from by omega,ah.u_,dS,show 2-(2-i)=i from by omega,show 3-(i+1)=2-i from by omega]
theorem aTu(c:Int)(b:Nat)(hb:b<16):uw 86 [di c,di (b:Int)] (fun m s=>pg m s c) (fun m s=>((aO m (ah.jo c b) s).2,.lu [])):=by
 intro m n h x l;dsimp only at l ⊢;rw[ah.Ed] at l ⊢;obtain⟨R,z⟩:∃ R,aO m (ah.u_ c (b:Int) 3) n=R:=⟨_,rfl⟩;rw[z] at l ⊢;refine dM func86 rfl rfl rfl (fun A E G=>?_);have M:=Qo m n;refine aB ?_;refine aQ ?_;refine lV (bKa m n c b 0) ?_;refine fF 3 (fun i t=>∃ s,t=bKa m s c b i/\ru m s/\pg m s c/\aO m (ah.u_ c b (3-i)) s=R) 0 ⟨_,rfl,h,x,z⟩ a_ (fun i t f F=>?_);obtain⟨s,rfl,j,B,f⟩:=f;refine aG ?_;refine aB ?_;refine aI (fun r=>?_) (fun r=>?_);have d:i<3:=by have e:decide ((i:Int)<3)=true:=r;have:=of_decide_eq_true e;omega
 refine aJ ?_;refine aG ?_;refine aQ ?_;rw[aUs m c b i d] at f;have k:(aO m (ah.ul c (3*(b:Int)+(i:Int))) s).2.i<=1000000:=mr (jL m _ _) (by rw[f];exact l);have g:=jH (ah.ul c (3*(b:Int)+(i:Int))) j k;have u:=B.BF (iO m (ah.ul c (3*(b:Int)+(i:Int))) s);have y:=wr3 hb d;have M:=Qo m s;refine bC M G E (by rfl) (by kernel_rfl) ?_ ?_;simp;rw[y];exact⟨j,⟨B,by omega,by omega⟩,k⟩;change lh _ _ _ _ _;refine gI ?_;intro a w q;refine⟨i+1,_,by omega,by omega,⟨_,rfl,g,u,f⟩,(q.reset (kT:=[0,1,2,6]) (kO:=[px]) f_ ay).same ?_ ?_⟩;exact .cons rfl (.cons rfl (.cons rfl (.cons (by rw[cO i a_]) .nil)));refine .cons (.box ?_) .nil;show qo m (aO m (ah.ul c (IntKind.i64.wrap (IntKind.i64.wrap (3*(b:Int))+(i:Int)))) s).2=_;rw[y]
 ·have d:i=3:=by
   have e:decide ((i:Int)<3)=false:=r;have:=of_decide_eq_false e;omega
  subst d;have H:R=((),s):=f.symm;rw[H];refine eP ?_;change UN _ _ _;intro a w q;refine⟨.inl rfl,_,⟨?_,(fun o D=>by obtain rfl:=List.mem_singleton.1 D;exact⟨_,rfl,eQ rfl⟩),fun p C=>(by cases C)⟩,q⟩;refine aY (by rfl) (by simp) (by rfl) (by rfl) ?_
  all_goals rfl
def bKc(m:iy)(s:h_)(a:Int)(b n i:Nat):St:=⟨[(0,none,d_ (.pt px 0 0)),(1,none,di a),(2,none,di (b:Int)),(7,none,di (n:Int)),(8,none,di (i:Int))],[(px,none,0,.box 96 (qo m s))]⟩
def KX(m:iy)(q:Int×h_)(a:Int)(b n i:Nat):St:=⟨[(0,none,d_ (.pt px 0 0)),(1,none,di a),(2,none,di (b:Int)),(7,none,di (n:Int)),(8,none,di (i:Int)),(9,none,di q.1)],[(px,none,0,.box 96 (qo m q.2))]⟩
theorem aUg(m:iy)(a:Int)(b i:Nat)(c:i<3)(l:List Int)(s:h_):aO m (ah.w_ a b (3-i) l) s=aO m (ah.w_ a b (3-(i+1)) (l++[(aO m (ah.vw a (3*(b:Int)+(i:Int))) s).1])) (aO m (ah.vw a (3*(b:Int)+(i:Int))) s).2:=by rw[show 3-i=(2-i)+1 from by omega,ah.w_,dS,show 2-(2-i)=i from by omega,show 3-(i+1)=2-i from by omega]
theorem bHq(c:Int)(b:Nat)(hb:b<16):uw 85 [di c,di (b:Int)] (fun m s=>pg m s c) (fun m s=>((aO m (ah.read c b) s).2,qy (aO m (ah.read c b) s).1)):=by
 intro m u n C r;dsimp only at r ⊢;rw[ah.PU] at r ⊢;obtain⟨R,D⟩:∃ R,aO m (ah.w_ c (b:Int) 3 []) u=R:=⟨_,rfl⟩;rw[D] at r ⊢;refine dM func85 rfl rfl rfl (fun A J K=>?_);have M:=Qo m u;refine aB ?_;refine aB ?_;refine aG ?_;refine aB ?_;refine aQ ?_;refine lV (bKc m u c b (nonzero []) 0) ?_;refine fF 3 (fun i t=>∃ s l,t=bKc m s c b (nonzero l) i/\l.length=i/\ru m s/\pg m s c/\aO m (ah.w_ c b (3-i) l) s=R) 0 ⟨_,[],rfl,rfl,n,C,D⟩ a_ (fun i t h H=>?_);obtain⟨s,l,rfl,z,o,E,h⟩:=h;refine aG ?_;refine aB ?_;refine aI (fun j=>?_) (fun j=>?_);have g:i<3:=by have d:decide ((i:Int)<3)=true:=j;have:=of_decide_eq_true d;omega
 refine aJ ?_;refine aG ?_;refine aQ ?_;rw[aUg m c b i g] at h;have p:(aO m (ah.vw c (3*(b:Int)+(i:Int))) s).2.i<=1000000:=mr (jL m _ _) (by rw[h];exact r);have e:=jH (ah.vw c (3*(b:Int)+(i:Int))) o p;have k:=E.BF (iO m (ah.vw c (3*(b:Int)+(i:Int))) s);have x:=wr3 hb g;have M:=Qo m s;refine aF ?_ ?_;simp;rw[x];exact⟨o,⟨E,by omega,by omega⟩,p⟩;refine aU (KX m (aO m (ah.vw c (3*(b:Int)+(i:Int))) s) c b (nonzero l) i) ?_ ?_ ?_;refine .cons rfl (.cons rfl (.cons rfl (.cons rfl (.cons rfl (.cons ?_ .nil)))));show di (aO m (ah.vw c (IntKind.i64.wrap (IntKind.i64.wrap (3*(b:Int))+(i:Int)))) s).1=_;rw[x];refine .cons (.box ?_) .nil;show qo m (aO m (ah.vw c (IntKind.i64.wrap (IntKind.i64.wrap (3*(b:Int))+(i:Int)))) s).2=_;rw[x];generalize aO m (ah.vw c (3*(b:Int)+(i:Int))) s=q at h e k ⊢;have f:=wK l q.1;have F:=xJ l;refine aB ?_;refine aI (fun j=>?_) (fun j=>?_);have y:q.1≠0:=by have d:(q.1 != 0)=true:=j;simpa using d
 rw[if_neg y] at f;refine lU ?_;refine gI ?_;intro a w B;refine⟨i+1,_,by omega,by omega,⟨_,_,rfl,by rw[ed,Yd,z],e,k,h⟩,(B.reset (kT:=[0,1,2,7,8]) (kO:=[px]) f_ ay).same ?_ ?_⟩;exact .cons rfl (.cons rfl (.cons rfl (.cons (by rw[cO (nonzero l) a_,f]) (.cons (by rw[cO i a_]) .nil))));exact o7;have y:q.1=0:=by have d:(q.1 != 0)=false:=j;simpa using d
 rw[if_pos y] at f;refine aJ ?_;refine gI ?_;intro a w B;refine⟨i+1,_,by omega,by omega,⟨_,_,rfl,by rw[ed,Yd,z],e,k,h⟩,(B.reset (kT:=[0,1,2,7,8]) (kO:=[px]) f_ ay).same ?_ ?_⟩;exact .cons rfl (.cons rfl (.cons rfl (.cons (by rw[f,Nat.add_zero]) (.cons (by rw[cO i a_]) .nil))));exact o7
 ·have g:i=3:=by
   have d:decide ((i:Int)<3)=false:=j;have:=of_decide_eq_false d;omega
  subst g;have I:R=(mG l,s):=h.symm;rw[I];refine eP ?_;change lh _ _ _ _ _;have G:mG l=decide ((nonzero l:Int) > 1):=by unfold mG;rw[z];exact decide_eq_decide.2 a_
  rw[G];refine aB ?_;refine bT ?_
  all_goals rfl
def bNc:List PV->Option (BC×Ai)
 |[.w (.one (.lit (.int .i64 jy))),.w (.one (.lit (.int .i64 b)))]=>some (fun m s=>pg m s jy/\0<=b/\b<16,fun m s=>((aO m (ah.read jy b) s).2,qy (aO m (ah.read jy b) s).1))|_=>none
def bMn:List PV->Option (BC×Ai)
 |[.w (.one (.lit (.int .i64 jy))),.w (.one (.lit (.int .i64 b)))]=>some (fun m s=>pg m s jy/\0<=b/\b<16,fun m s=>((aO m (ah.jo jy b) s).2,.lu []))|_=>none
theorem bBl(m:iy)(s:h_):ai prog af 85 (dI 96 (uq m s bNc)):=
 eU (aC func85 aj rfl) (fun f C F h=>by
  unfold bNc at h;split at h;rename_i a b;cases h;intro m s c d e;obtain⟨k,rfl⟩:=Ye d.2.1;exact bHq a k (by have:=d.2.2;omega) m s c d.1 e
  cases h)
theorem aPg(m:iy)(s:h_):ai prog af 86 (dI 96 (uq m s bMn)):=
 eU (aC func86 aj rfl) (fun f C F h=>by
  unfold bMn at h;split at h;rename_i a b;cases h;intro m s c d e;obtain⟨k,rfl⟩:=Ye d.2.1;exact aTu a k (by have:=d.2.2;omega) m s c d.1 e
  cases h)
def Qq(m:iy)(s:h_):List (Nat×Spec):=[(85,dI 96 (uq m s bNc)),(86,dI 96 (uq m s bMn))]
theorem Kq(m:iy)(s:h_):∀ p∈Qq m s,ai prog af p.1 p.2:=by intro p a;simp only[Qq,xn,Xq,or_false] at a;rcases a with rfl|rfl;exact bBl m s;exact aPg m s
theorem Qn(m:iy)(s:h_):jl prog af (find (Qq m s)):=⟨bD (Kq m s),dG⟩
theorem bHh(m:iy)(b c:Int){s:h_}(h:s.stop=true):aO m (ah.read b c) s=(false,s):=by have e:∀ a,dV m a s=(iJ,s):=fun a=>uJ m a h;unfold ah.read ah.vw;simp only[ah.bind,aO,e];rfl
theorem Oq(m:iy)(a:Int)(f n:Nat){s:h_}(h:s.stop=true):aO m (ah.up a f n) s=(n,s):=by
 cases f with
 |zero=>rfl|succ f=>rw[ah.up,dS,bHh m a _ h];rfl
def Ql(a:Int)(n:Nat):ah Nat:=(ah.down a n 0).bind fun _=>.ret n
def aYk(m:iy)(s:h_)(b:Int)(a n:Nat):St:=⟨[(0,none,d_ (.pt px 0 0)),(1,none,di b),(2,none,di (a:Int)),(7,none,di (n:Int))],[(px,none,0,.box 96 (qo m s))]⟩
def bKb(m:iy)(q:Bool×h_)(b:Int)(a n:Nat):St:=⟨[(0,none,d_ (.pt px 0 0)),(1,none,di b),(2,none,di (a:Int)),(7,none,di (n:Int)),(8,none,qy q.1)],[(px,none,0,.box 96 (qo m q.2))]⟩
def aAz(m:iy)(s:h_)(a:Int)(n b:Nat):St:=⟨[(0,none,d_ (.pt px 0 0)),(1,none,di a),(7,none,di (n:Int)),(9,none,di (b:Int))],[(px,none,0,.box 96 (qo m s))]⟩
theorem bGt(c:Int)(d:Nat)(O:d<=16):uw 56 [di c,di (d:Int)] (fun m s=>pg m s c) (fun m s=>((aO m (ah.dn c d) s).2,di ((aO m (ah.dn c d) s).1:Nat))):=by
 intro m C y H z;dsimp only at z ⊢;obtain⟨R,F⟩:∃ R,aO m (ah.dn c d) C=R:=⟨_,rfl⟩;rw[F] at z ⊢;change aO m ((ah.up c d 0).bind (Ql c)) C=R at F;refine dM func56 rfl rfl rfl (fun A J K=>?_);have M:=Qn m C;refine aB ?_;refine aB ?_;refine aG ?_;refine aQ ?_;refine lV (aYk m C c d 0) ?_;refine fF d (fun n t=>∃ s,t=aYk m s c d n/\ru m s/\pg m s c/\aO m ((ah.up c (d-n) n).bind (Ql c)) s=R) 0 ⟨_,rfl,y,H,F⟩ a_ (fun n t j L=>?_);obtain⟨s,rfl,f,o,j⟩:=j;refine aG ?_;refine aB ?_;refine aI (fun p=>?_) (fun p=>?_)
 ·have e:(bif decide ((n:Int)<(d:Int)) then !s.stop else false)=true:=p;have N:n<d:=by by_cases h:n<d;exact h;rw[decide_eq_false a_] at e;cases e
  refine aJ ?_;refine aQ ?_;rw[show d-n=(d-(n+1))+1 by omega,ah.up,ah.bind_assoc,dS] at j;have k:(aO m (ah.read c (n:Int)) s).2.i<=1000000:=mr (jL m _ _) (by rw[j];exact z);have g:=jH (ah.read c (n:Int)) f k;have l:=o.BF (iO m (ah.read c (n:Int)) s);have M:=Qn m s;refine aF ?_ ?_;simp;exact⟨f,⟨o,by omega⟩,k⟩;refine lV (bKb m (aO m (ah.read c (n:Int)) s) c d n) ?_;generalize aO m (ah.read c (n:Int)) s=q at j g l ⊢;obtain⟨one,I⟩:=q;dsimp only at g l j ⊢;clear f o;have f:=g;have o:=l;clear g l k;refine aG ?_;refine aB ?_;refine aI (fun p=>?_) (fun p=>?_)
  ·have D:one=false:=by
    have u:(!one)=true:=p;simpa using u
   subst D;refine eP ?_;change lh _ _ _ _ _;have x:aO m (Ql c n) I=R:=j;clear j;generalize I=s at f o x ⊢;refine aG ?_;refine aB ?_;refine aQ ?_;refine lV (aAz m s c n 0) ?_;refine fF n (fun b t=>∃ s,t=aAz m s c n b/\ru m s/\pg m s c/\aO m ((ah.down c (n-b) b).bind fun _=>.ret n) s=R) 0 ⟨_,rfl,f,o,x⟩ a_ (fun b t j P=>?_);clear f o x;obtain⟨s,rfl,f,o,j⟩:=j;refine aG ?_;refine aB ?_;refine aI (fun p=>?_) (fun p=>?_);have e:(bif decide ((b:Int)<(n:Int)) then !s.stop else false)=true:=p;have E:b<n:=by by_cases h:b<n;exact h;rw[decide_eq_false a_] at e;cases e
   refine aJ ?_;refine aG ?_;refine aQ ?_;rw[show n-b=(n-(b+1))+1 by omega,ah.down,ah.bind_assoc,dS] at j;have k:(aO m (ah.jo c (b:Int)) s).2.i<=1000000:=mr (jL m _ _) (by rw[j];exact z);have g:=jH (ah.jo c (b:Int)) f k;have l:=o.BF (iO m (ah.jo c (b:Int)) s);have M:=Qn m s;refine bC M K J (by rfl) (by kernel_rfl) ?_ ?_;simp;exact⟨f,⟨o,by omega⟩,k⟩;change lh _ _ _ _ _;refine gI ?_;intro a w B;refine⟨b+1,_,by omega,by omega,⟨_,rfl,g,l,j⟩,(B.reset (kT:=[0,1,7,9]) (kO:=[px]) f_ ay).same ?_ ?_⟩;exact .cons rfl (.cons rfl (.cons rfl (.cons (by rw[cO b a_]) .nil)));exact o7
   ·have e:(bif decide ((b:Int)<(n:Int)) then !s.stop else false)=false:=p
    have G:R=(n,s):=by
     rw[<-j,dS];by_cases h:b<n;rw[decide_eq_true a_] at e;have r:s.stop=true:=by simpa using e
     rw[pR m _ s r];rfl;rw[show n-b=0 by omega];rfl
    rw[G];refine eP ?_;change lh _ _ _ _ _;refine aB ?_;refine bT ?_
    all_goals rfl
  have D:one=true:=by have u:(!one)=false:=p;simpa using u
  subst D;refine aJ ?_;refine gI ?_;intro a w B;refine⟨n+1,_,by omega,by omega,⟨_,rfl,f,o,j⟩,(B.reset (kT:=[0,1,2,7]) (kO:=[px]) f_ ay).same ?_ ?_⟩;exact .cons rfl (.cons rfl (.cons rfl (.cons (by rw[cO n a_]) .nil)));exact o7
 ·have e:(bif decide ((n:Int)<(d:Int)) then !s.stop else false)=false:=p
  have x:aO m (Ql c n) s=R:=by
   rw[<-j,dS m (ah.up c (d-n) n)];by_cases h:n<d;rw[decide_eq_true a_] at e;have r:s.stop=true:=by simpa using e
   rw[Oq m c _ n r];rw[show d-n=0 by omega];rfl
  refine eP ?_;change lh _ _ _ _ _;clear j;refine aG ?_;refine aB ?_;refine aQ ?_;refine lV (aAz m s c n 0) ?_;refine fF n (fun b t=>∃ s,t=aAz m s c n b/\ru m s/\pg m s c/\aO m ((ah.down c (n-b) b).bind fun _=>.ret n) s=R) 0 ⟨_,rfl,f,o,x⟩ a_ (fun b t j P=>?_);clear f o x;obtain⟨s,rfl,f,o,j⟩:=j;refine aG ?_;refine aB ?_;refine aI (fun p=>?_) (fun p=>?_);have e:(bif decide ((b:Int)<(n:Int)) then !s.stop else false)=true:=p;have E:b<n:=by by_cases h:b<n;exact h;rw[decide_eq_false a_] at e;cases e
  refine aJ ?_;refine aG ?_;refine aQ ?_;rw[show n-b=(n-(b+1))+1 by omega,ah.down,ah.bind_assoc,dS] at j;have k:(aO m (ah.jo c (b:Int)) s).2.i<=1000000:=mr (jL m _ _) (by rw[j];exact z);have g:=jH (ah.jo c (b:Int)) f k;have l:=o.BF (iO m (ah.jo c (b:Int)) s);have M:=Qn m s;refine bC M K J (by rfl) (by kernel_rfl) ?_ ?_;simp;exact⟨f,⟨o,by omega⟩,k⟩;change lh _ _ _ _ _;refine gI ?_;intro a w B;refine⟨b+1,_,by omega,by omega,⟨_,rfl,g,l,j⟩,(B.reset (kT:=[0,1,7,9]) (kO:=[px]) f_ ay).same ?_ ?_⟩;exact .cons rfl (.cons rfl (.cons rfl (.cons (by rw[cO b a_]) .nil)));exact o7
  ·have e:(bif decide ((b:Int)<(n:Int)) then !s.stop else false)=false:=p
   have G:R=(n,s):=by
    rw[<-j,dS];by_cases h:b<n;rw[decide_eq_true a_] at e;have r:s.stop=true:=by simpa using e
    rw[pR m _ s r];rfl;rw[show n-b=0 by omega];rfl
   rw[G];refine eP ?_;change lh _ _ _ _ _;refine aB ?_;refine bT ?_
   all_goals rfl
theorem RL.BX{C:Ctx}{c b:PC}{l l':List PC}{xs:List Value}(h:RL C (c::l) xs)(h1:∀ a,R C c a->R C b a)(h2:∀ a,RL C l a->RL C l' a):RL C (b::l') xs:=by
 cases h with
 |cons k1 k2=>exact .cons (h1 _ k1) (h2 _ k2)
theorem qh.aDB{A:n_}{s:St}{a:Act}{w:World}{b ty m:Nat}{g:Option Bool}{l l':List PC}(h:qh A s a w)(hb:find s.o b=some (g,m,.box ty l))(hl:∀ C j,RL C l j->RL C l' j) :
  qh A { t:=s.t,o:=(b,g,m,.box ty l')::s.o } a w:=by
 obtain⟨i,h⟩:=h;refine⟨i,{ h with dom:=fun x c=>?_,l9:=fun x u f o c=>?_,tmps:=fun n g pv c e=>h.tmps n g pv c e,dev:=fun u f O dw l c e=>?_ }⟩;by_cases d:b=x;subst d;rw[aK] at c;cases c;rw[aN _ _ d] at c;exact h.dom x c;by_cases d:b=x;subst d;rw[aK] at c;cases c;obtain⟨p,r,q⟩:=h.l9 b _ _ _ hb
 exact⟨p,r,fun e=>by
  obtain⟨k,D,B,z,y⟩:=q e
  exact⟨k,D,B,z,hl _ _ y⟩⟩
 rw[aN _ _ d] at c;exact h.l9 x _ _ _ c;by_cases d:b=dx;subst d;rw[aK] at c;cases c;rw[aN _ _ d] at c;exact h.dev _ _ _ _ _ c e
theorem Ii{C:Ctx}{n:Nat}{f:Nat->List PC}{xs:List Value}(h:R C (.lit (.slice none 0 0)) xs):R C (.sl n 0 f) xs:=by cases h;exact .sl (vs:=[]) (Reads.nil _ _) (fun g b=>by cases b) (fun i a=>absurd a a_)
def CQ(m:iy)(a:Int):Nat->Nat->h_->(Nat×Int)×h_
 |0,n,s=>((n,0),s)|f+1,n,s=>if s.stop=true then ((n,0),s)
  else if (aO m (ah.read a n) (aO m (ah.jo a n) s).2).1=true then CQ m a f (n+1) (aO m (ah.read a n) (aO m (ah.jo a n) s).2).2
  else ((n,12),(aO m (ah.read a n) (aO m (ah.jo a n) s).2).2)
def AX(m:iy)(a:Int)(b c:Nat)(s:h_):(Nat×Int)×h_:=CQ m a (c-(aO m (ah.dn a b) s).1) (aO m (ah.dn a b) s).1 (aO m (ah.dn a b) s).2
theorem aUl(m:iy)(a:Int):∀ f n s,(CQ m a f n s).2=(aO m (ah.p_ a f n) s).2/\((CQ m a f n s).2.stop=false->(CQ m a f n s).1=(aO m (ah.p_ a f n) s).1)
 |0,n,s=>⟨rfl,fun _=>rfl⟩|f+1,n,s=>by
  rw[CQ,ah.p_];by_cases b:s.stop=true;rw[if_pos b];exact⟨(pR m _ s b).symm,fun h=>by rw[b] at h;cases h⟩;rw[if_neg b,dS,dS];by_cases c:(aO m (ah.read a n) (aO m (ah.jo a n) s).2).1=true;rw[if_pos c,c,if_pos rfl];exact aUl m a f (n+1) _;rw[if_neg c];have d:(aO m (ah.read a n) (aO m (ah.jo a n) s).2).1=false:=by simpa using c
  rw[d,if_neg Xw];exact⟨rfl,fun _=>rfl⟩
theorem bHt(m:iy)(b:Int)(c a:Nat)(s:h_):(AX m b c a s).2=(aO m (ah.jw b c a) s).2/\((AX m b c a s).2.stop=false->(AX m b c a s).1=(aO m (ah.jw b c a) s).1):=by unfold AX ah.jw;rw[dS];exact aUl m b _ _ _
theorem bHs(m:iy)(a:Int)(f n:Nat)(s:h_):s.i<=(CQ m a f n s).2.i:=by rw[(aUl m a f n s).1];exact jL m _ _
theorem aLm(m:iy)(b:Int)(a:Nat)(s:h_):(aO m (ah.dn b a) s).1<=a:=aGm (yZ b a) m s
def aZj:List PV->Option (BC×Ai)
 |[.w (.one (.lit (.int .i64 jy))),.w (.one (.lit (.int .i64 bits)))]=>some (fun m s=>pg m s jy/\0<=bits/\bits<=16,fun m s=>((aO m (ah.dn jy bits.toNat) s).2,di ((aO m (ah.dn jy bits.toNat) s).1:Nat)))|_=>none
theorem aIy(m:iy)(s:h_):ai prog af 56 (dI 96 (uq m s aZj)):=
 eU (aC func56 aj rfl) (fun f C F h=>by
  unfold aZj at h;split at h;rename_i a b;cases h;intro m s c d e;obtain⟨k,rfl⟩:=Ye d.2.1;exact bGt a k (by have:=d.2.2;omega) m s c d.1 e
  cases h)
def aBV(m:iy)(s:h_):List (Nat×Spec):=(56,dI 96 (uq m s aZj))::Qq m s
theorem W9(m:iy)(s:h_):∀ p∈aBV m s,ai prog af p.1 p.2:=by intro p a;rcases List.mem_cons.1 a with rfl|a;exact aIy m s;exact Kq m s p a
theorem Vx(m:iy)(s:h_):jl prog af (find (aBV m s)):=⟨bD (W9 m s),dG⟩
def aVi(m:iy)(s:h_)(b:Int)(a n:Nat):St:=⟨[(0,none,d_ (.pt px 0 0)),(1,none,di b),(3,none,di (a:Int)),(10,none,di (n:Int))],[(px,none,0,.box 96 (qo m s))]⟩
def KW(m:iy)(q:Bool×h_)(b:Int)(a n:Nat):St:=⟨[(0,none,d_ (.pt px 0 0)),(1,none,di b),(3,none,di (a:Int)),(10,none,di (n:Int)),(11,none,qy q.1)],[(px,none,0,.box 96 (qo m q.2))]⟩
def aAX(p:Nat×Int):PV:=.lu [.one (.lit (.int .i64 (p.1:Int))),.one (.lit (.int .i64 p.2))]
theorem aTt(c:Int)(d b:Nat)(U:d<=16)(P:b<=16):uw 89 [di c,di (d:Int),di (b:Int)] (fun m s=>pg m s c) (fun m s=>((AX m c d b s).2,aAX (AX m c d b s).1)):=by
 intro m o p J F;dsimp only at F ⊢;obtain⟨R,G⟩:∃ R,AX m c d b o=R:=⟨_,rfl⟩;rw[G] at F ⊢;have I:=aLm m c d o;unfold AX at G;have u:(aO m (ah.dn c d) o).2.i<=1000000:=mr (bHs m c _ _ _) (by rw[G];exact F);have k:=jH (ah.dn c d) p u;have D:=J.BF (iO m (ah.dn c d) o);refine dM func89 rfl rfl rfl (fun A Y Z=>?_);have M:=Vx m o;refine aB ?_;refine aF ?_ ?_;simp;exact⟨p,⟨J,by omega⟩,u⟩;refine aG ?_;refine aQ ?_;refine lV (aVi m (aO m (ah.dn c d) o).2 c b (aO m (ah.dn c d) o).1) ?_;generalize aO m (ah.dn c d) o=O at G I k D ⊢;obtain⟨L,X⟩:=O;dsimp only at G I k D ⊢;refine fF (max L b) (fun n t=>∃ s,t=aVi m s c b n/\ru m s/\pg m s c/\CQ m c (b-n) n s=R) L ⟨_,rfl,k,D,G⟩ a_ (fun n t f Q=>?_);obtain⟨s,rfl,H,N,f⟩:=f;refine aG ?_;refine aB ?_;refine aI (fun z=>?_) (fun z=>?_)
 ·have e:(bif decide ((n:Int)<(b:Int)) then !s.stop else false)=true:=z;have S:n<b:=by by_cases h:n<b;exact h;rw[decide_eq_false a_] at e;cases e
  rw[decide_eq_true a_] at e;have x:s.stop=false:=by simpa using e
  refine aJ ?_;refine aQ ?_;rw[show b-n=(b-(n+1))+1 by omega,CQ,if_neg (by rw[x];exact Xw)] at f;have l:(aO m (ah.read c (n:Int)) (aO m (ah.jo c (n:Int)) s).2).2.i<=1000000:=by by_cases E:(aO m (ah.read c (n:Int)) (aO m (ah.jo c (n:Int)) s).2).1=true;rw[if_pos E] at f;exact mr (bHs m c _ _ _) (by rw[f];exact F);rw[if_neg E] at f;rw[<-f] at F;exact F
  have r:(aO m (ah.jo c (n:Int)) s).2.i<=1000000:=mr (jL m _ _) l;have j:=jH (ah.jo c (n:Int)) H r;have C:=N.BF (iO m (ah.jo c (n:Int)) s);have M:=Vx m s;refine aF ?_ ?_;simp;exact⟨H,⟨N,by omega⟩,r⟩;refine lV (aVi m (aO m (ah.jo c (n:Int)) s).2 c b n) ?_;generalize (aO m (ah.jo c (n:Int)) s).2=K at f l j C ⊢;have g:=jH (ah.read c (n:Int)) j l;have B:=C.BF (iO m (ah.read c (n:Int)) K);have M:=Vx m K;refine aF ?_ ?_;simp;exact⟨j,⟨C,by omega⟩,l⟩;refine lV (KW m (aO m (ah.read c (n:Int)) K) c b n) ?_;generalize aO m (ah.read c (n:Int)) K=q at f g B ⊢;obtain⟨one,W⟩:=q;dsimp only at g B f ⊢;refine aG ?_;refine aB ?_;refine aI (fun z=>?_) (fun z=>?_)
  ·have E:one=false:=by
    have y:(!one)=true:=z;simpa using y
   subst E;rw[if_neg Xw] at f;rw[<-f];refine aB ?_;refine bT ?_
   all_goals rfl
  have E:one=true:=by have y:(!one)=false:=z;simpa using y
  subst E;rw[if_pos rfl] at f;refine aJ ?_;refine gI ?_;intro a w T;refine⟨n+1,_,by omega,by omega,⟨_,rfl,g,B,f⟩,(T.reset (kT:=[0,1,3,10]) (kO:=[px]) f_ ay).same ?_ ?_⟩;exact .cons rfl (.cons rfl (.cons rfl (.cons (by rw[cO n a_]) .nil)));exact o7
 ·have e:(bif decide ((n:Int)<(b:Int)) then !s.stop else false)=false:=z
  have V:R=((n,0),s):=by
   rw[<-f];by_cases h:n<b;rw[decide_eq_true a_] at e;have x:s.stop=true:=by simpa using e
   rw[show b-n=(b-(n+1))+1 by omega,CQ,if_pos x];rw[show b-n=0 by omega];rfl
  rw[V];refine eP ?_;change lh _ _ _ _ _;refine aB ?_;refine bT ?_
  all_goals rfl
def bMj:List PV->Option (BC×Ai)
 |[.w (.one (.lit (.int .i64 jy))),.w (.one (.lit (.int .i64 bits))),.w (.one (.lit (.int .i64 target)))]=>some (fun m s=>pg m s jy/\(0<=bits/\bits<=16)/\0<=target/\target<=16,fun m s=>((AX m jy bits.toNat target.toNat s).2,aAX (AX m jy bits.toNat target.toNat s).1))|_=>none
theorem aPf(m:iy)(s:h_):ai prog af 89 (dI 96 (uq m s bMj)):=
 eU (aC func89 aj rfl) (fun f C F h=>by
  unfold bMj at h;split at h;rename_i c b t;cases h;intro m s d a e;obtain⟨k,rfl⟩:=Ye a.2.1.1;obtain⟨j,rfl⟩:=Ye a.2.2.1;exact aTt c k j (by have:=a.2.1.2;omega) (by have:=a.2.2.2;omega) m s d a.1 e
  cases h)
theorem IQ(f:Fl)(s:Int)(h2:0<=s/\s<f.length):fP prog af 195 true [ZF f,di s] (.lu [.one (.lit (.string (strOf (sec f s)))),.one (.lit (.int .i64 0))]):=by
 have M:=zM (I:=af);refine bH func195 rfl rfl bK (fun A d c g=>?_);refine aB ?_;refine aG ?_;refine aB ?_;refine aI (fun b=>?_) (fun b=>?_);exfalso;have a:(bif decide (s<0) then true else decide (s>=(f.length:Int)))=true:=b;rw[decide_eq_false a_,decide_eq_false a_] at a;cases a;refine aJ ?_;refine aF ?_ ?_;simp;exact h2;have e:strOf (sec f s)=f.getD s.toNat aH:=by unfold sec;rw[if_pos h2,jK]
 rw[e];exact jC
def IU:List PV->Option (Prop×PV)
 |[v,.w (.one (.lit (.int .i64 s)))]=>(match Bd v with
  |some (p,f)=>some (p/\0<=s/\s<f.length,.lu [.one (.lit (.string (strOf (sec f s)))),.one (.lit (.int .i64 0))])|none=>none)
 |_=>none
theorem bHa:ai prog af 195 (aZ true IU):=by
 refine aW (aC func195 aj rfl) (fun i p r a c=>?_);unfold IU at a;split at a;rename_i v s;cases b:Bd v with
 |none=>rw[b] at a;cases a| some q=>
  obtain⟨k,f⟩:=q;rw[b] at a;cases a
  exact (IQ f s c.2).args fun C d e=>by
   match d,e with
   |[j,x],⟨h,g,_⟩=>exact⟨aGv b c.1 h,g,trivial⟩
 cases a
def zY(cut:Int)(b old:ByteArray):ByteArray:=strOf (yx cut b.data.toList old.data.toList)
theorem Oo{cut:Int}{b old:ByteArray}(h:0<=cut/\cut<256)(hb:b.size=256)(_:cut<(old.size:Int)):b.extract (YK 0) cut.toNat++old.extract cut.toNat ((old.size:Int)).toNat=zY cut b old:=by
 have c:b.data.toList.length=256:=by rw[mf];exact hb
 have a:old.data.toList.length=old.size:=mf;unfold zY yx;rw[if_neg a_,ext_list,ext_list,bFp,MM,IR (i:=old.size) a_];rfl
theorem Om{cut:Int}{b old:ByteArray}(h:0<=cut/\cut<256)(hb:b.size=256)(h2:(old.size:Int)<=cut):b.extract (YK 0) cut.toNat=zY cut b old:=by
 have c:b.data.toList.length=256:=by rw[mf];exact hb
 have a:old.data.toList.length=old.size:=mf;unfold zY yx;rw[if_neg a_,ext_list,List.drop_of_length_le (l:=old.data.toList) a_,Pi];rfl
theorem Ol{cut:Int}{b old:ByteArray}(h:¬(0<=cut/\cut<256))(hb:b.size=256):b=zY cut b old:=by
 have a:b.data.toList.length=256:=by rw[mf];exact hb
 unfold zY yx;rw[if_pos a_,jK]
theorem IM(f:Fl)(s:Int)(b:ByteArray)(cut:Int)(h2:0<=s/\s<f.length)(hb:b.size=256)(B:∀ x∈f,x.size<=1000000)(u:f.length<=1000000):fP prog af 196 false [ZF f,di s,jr b,di cut] (.lu [.agg [.sl 1 (fU f s b cut).length (su (fU f s b cut))],.one (.lit (.int .i64 0))]):=by
 have M:=zM (I:=af);have n:prog.types[9].bytes=16:=by kernel_rfl
 have m:prog.types[9].size=1:=by kernel_rfl
 refine bH func196 rfl rfl bK (fun A G z C=>?_);refine aB ?_;refine aG ?_;refine aB ?_;refine aI (fun d=>?_) (fun d=>?_);exfalso;have o:(bif decide (s<0) then true else decide (s>=(f.length:Int)))=true:=d;rw[decide_eq_false a_,decide_eq_false a_] at o;cases o;refine aJ ?_;refine aG ?_;refine aB ?_;refine aI (fun d=>?_) (fun d=>?_);exfalso;simp at d;omega;refine aJ ?_;refine aF ?_ ?_;simp;exact h2;refine aB ?_;have y:f.getD s.toNat aH=strOf (sec f s):=by unfold sec;rw[if_pos h2,jK]
 have p:(f.getD s.toNat aH).size<=1000000:=by rw[zG,zH a_];exact B _ (YV _)
 have F:fU f s b cut=f.set s.toNat (zY cut b (f.getD s.toNat aH)):=by unfold fU zY sec;rw[if_pos ⟨h2.1,h2.2,hb⟩,if_pos h2]
 rw[F];generalize f.getD s.toNat aH=old at p ⊢;refine aG ?_;refine aB ?_;refine aI (fun d=>?_) (fun d=>?_);have c:(bif decide (cut>=0) then decide (cut<256) else false)=true:=d;have k:0<=cut/\cut<256:=by by_cases h:0<=cut;rw[decide_eq_true (show cut>=0 from h)] at c;exact⟨h,of_decide_eq_true c⟩;rw[decide_eq_false (show ¬cut>=0 from h)] at c;cases c
 refine aF ?_ ?_;simp;omega;refine aB ?_;refine aI (fun d=>?_) (fun d=>?_);have t:cut<(old.size:Int):=of_decide_eq_true d;refine bC M C z (by rfl) (by kernel_rfl) ?_ ?_;simp;omega;change lh _ _ _ _ _;refine aU (⟨[(1,none,di s),(4,none,d_ (.pt 0 0 0)),(8,none,d_ (.pt 1 0 0)),(11,none,jr (zY cut b old))],[(0,none,0,.box 63 [.sl 1 f.length (su f)]),(1,none,0,.box 63 [.lit (.slice none 0 0)])]⟩) ?_ ?_ ?_;exact .cons rfl (.cons rfl (.cons rfl (.cons (congrArg jr (Oo k hb t)) .nil)));exact o7;generalize zY cut b old=X;refine aF ?_ ?_;simp;rw[n];omega;refine bY (s':=⟨[(1,none,di s),(8,none,d_ (.pt 1 0 0)),(11,none,jr X),(12,none,d_ (.ow 11000 0 1 0 f.length))],[(11000,none,0,.arr 9 1 f.length (su f)),(1,none,0,.box 63 [.lit (.slice none 0 0)])]⟩) (fun a w g=>(g.reset (kT:=[1,8,11,12]) (kO:=[11000,1]) f_ ?_).same ?_ ?_) ?_;refine⟨fun i _=>?_,trivial⟩;unfold o_;split
 omega;rfl;refine .cons rfl (.cons rfl (.cons rfl (.cons ?_ .nil)));change d_ (.ow 11000 0 prog.types[9].size 0 (0+f.length))=_;rw[m,lL];refine .cons (.arr ?_ (fun i j=>?_)) (.cons (.box rfl) .nil);exact lL _;unfold o_;rw[if_neg a_];rfl;refine aF ?_ ?_;simp
 exact⟨h2,by omega⟩;refine aB ?_;rw[VM];refine cZ (fun a w g=>⟨.inr rfl,_,?_,g⟩);refine oG (by rfl) (by simp) (by rfl) ?_;refine .lu (.cons (.agg (.cons (.row rfl trivial a_ (fun i j=>?_) (fun i j=>rfl)) .nil)) (.cons (.one (.cold rfl)) .nil));rw[lL];split;rename_i e;obtain rfl:i=s.toNat:=by omega
 unfold su;rw[zG (l:=f.set _ _),aCx a_];rfl;rename_i e;unfold su;rw[zG (l:=f.set _ _),aCD a_,zG];have r:(old.size:Int)<=cut:=by have:=of_decide_eq_false d;omega
 refine aJ ?_;refine aU (⟨[(1,none,di s),(4,none,d_ (.pt 0 0 0)),(8,none,d_ (.pt 1 0 0)),(11,none,jr (zY cut b old))],[(0,none,0,.box 63 [.sl 1 f.length (su f)]),(1,none,0,.box 63 [.lit (.slice none 0 0)])]⟩) ?_ ?_ ?_;exact .cons rfl (.cons rfl (.cons rfl (.cons (congrArg jr (Om k hb r)) .nil)));exact o7;generalize zY cut b old=X;refine aF ?_ ?_;simp;rw[n];omega;refine bY (s':=⟨[(1,none,di s),(8,none,d_ (.pt 1 0 0)),(11,none,jr X),(12,none,d_ (.ow 11000 0 1 0 f.length))],[(11000,none,0,.arr 9 1 f.length (su f)),(1,none,0,.box 63 [.lit (.slice none 0 0)])]⟩) (fun a w g=>(g.reset (kT:=[1,8,11,12]) (kO:=[11000,1]) f_ ?_).same ?_ ?_) ?_;refine⟨fun i _=>?_,trivial⟩;unfold o_;split
 omega;rfl;refine .cons rfl (.cons rfl (.cons rfl (.cons ?_ .nil)));change d_ (.ow 11000 0 prog.types[9].size 0 (0+f.length))=_;rw[m,lL];refine .cons (.arr ?_ (fun i j=>?_)) (.cons (.box rfl) .nil);exact lL _;unfold o_;rw[if_neg a_];rfl;refine aF ?_ ?_;simp
 exact⟨h2,by omega⟩;refine aB ?_;rw[VM];refine cZ (fun a w g=>⟨.inr rfl,_,?_,g⟩);refine oG (by rfl) (by simp) (by rfl) ?_;refine .lu (.cons (.agg (.cons (.row rfl trivial a_ (fun i j=>?_) (fun i j=>rfl)) .nil)) (.cons (.one (.cold rfl)) .nil));rw[lL];split;rename_i e;obtain rfl:i=s.toNat:=by omega
 unfold su;rw[zG (l:=f.set _ _),aCx a_];rfl;rename_i e;unfold su;rw[zG (l:=f.set _ _),aCD a_,zG];have q:¬(0<=cut/\cut<256):=by have c:(bif decide (cut>=0) then decide (cut<256) else false)=false:=d;rintro⟨E,D⟩;rw[decide_eq_true (show cut>=0 from E),decide_eq_true D] at c;cases c
 refine aJ ?_;refine aU (⟨[(1,none,di s),(4,none,d_ (.pt 0 0 0)),(8,none,d_ (.pt 1 0 0)),(11,none,jr (zY cut b old))],[(0,none,0,.box 63 [.sl 1 f.length (su f)]),(1,none,0,.box 63 [.lit (.slice none 0 0)])]⟩) ?_ ?_ ?_;exact .cons rfl (.cons rfl (.cons rfl (.cons (congrArg jr (Ol q hb)) .nil)));exact o7;generalize zY cut b old=X;refine aF ?_ ?_;simp;rw[n];omega;refine bY (s':=⟨[(1,none,di s),(8,none,d_ (.pt 1 0 0)),(11,none,jr X),(12,none,d_ (.ow 11000 0 1 0 f.length))],[(11000,none,0,.arr 9 1 f.length (su f)),(1,none,0,.box 63 [.lit (.slice none 0 0)])]⟩) (fun a w g=>(g.reset (kT:=[1,8,11,12]) (kO:=[11000,1]) f_ ?_).same ?_ ?_) ?_;refine⟨fun i _=>?_,trivial⟩;unfold o_;split
 omega;rfl;refine .cons rfl (.cons rfl (.cons rfl (.cons ?_ .nil)));change d_ (.ow 11000 0 prog.types[9].size 0 (0+f.length))=_;rw[m,lL];refine .cons (.arr ?_ (fun i j=>?_)) (.cons (.box rfl) .nil);exact lL _;unfold o_;rw[if_neg a_];rfl;refine aF ?_ ?_;simp
 exact⟨h2,by omega⟩;refine aB ?_;rw[VM];refine cZ (fun a w g=>⟨.inr rfl,_,?_,g⟩);refine oG (by rfl) (by simp) (by rfl) ?_;refine .lu (.cons (.agg (.cons (.row rfl trivial a_ (fun i j=>?_) (fun i j=>rfl)) .nil)) (.cons (.one (.cold rfl)) .nil));rw[lL];split;rename_i e;obtain rfl:i=s.toNat:=by omega
 unfold su;rw[zG (l:=f.set _ _),aCx a_];rfl;rename_i e;unfold su;rw[zG (l:=f.set _ _),aCD a_,zG]
def IP:List PV->Option (Prop×PV)
 |[v,.w (.one (.lit (.int .i64 s))),.w (.one (.lit (.string b))),.w (.one (.lit (.int .i64 cut)))]=>(match Bd v with
  |some (p,f)=>some (p/\(0<=s/\s<f.length)/\b.size=256/\(∀ x∈f,x.size<=1000000)/\f.length<=1000000,.lu [.agg (RP (fU f s b cut)),.one (.lit (.int .i64 0))])|none=>none)
 |_=>none
theorem bGz:ai prog af 196 (aZ false IP):=by
 refine aW (aC func196 aj rfl) (fun m p r a c=>?_);unfold IP at a;split at a;rename_i v s b e;cases d:Bd v with
 |none=>rw[d] at a;cases a| some q=>
  obtain⟨o,f⟩:=q;rw[d] at a;cases a
  exact (IM f s b e c.2.1 c.2.2.1 c.2.2.2.1 c.2.2.2.2).args fun C g h=>by
   match g,h with
   |[n,x,y,z],⟨l,k,j,i,_⟩=>exact⟨aGv d c.1 l,k,j,i,trivial⟩
 cases a
def bKh:List (Nat×Spec):=[(195,aZ true IU),(196,aZ false IP)]
theorem Ko:∀ p∈bKh,ai prog af p.1 p.2:=by intro p a;simp only[bKh,xn,Xq,or_false] at a;rcases a with rfl|rfl;exact bHa;exact bGz
theorem KY:jl prog af (find bKh):=⟨bD Ko,dG⟩
theorem bJs(m:iy)(i:Nat)(d:Acc)(j:Bool)(h:jk)(b c:Int)(_:ByteArray)(z:m.live=true)(p:ru m ⟨i,d,false,j,h⟩)(E:i+1<=1000000)(u:0<=c/\c<h.f.length)(r:b=0):ui prog af 180 false [⟨px,96,qo m ⟨i,d,false,j,h⟩,qo m (dV m ⟨3,b,c,aH⟩ ⟨i,d,false,j,h⟩).2⟩] (fun _=>none) none (fun _=>False) [.w (.one (.pt px 0 0)),.w (.agg (lT ⟨3,b,c,aH⟩))] (.w (.agg (iW (dV m ⟨3,b,c,aH⟩ ⟨i,d,false,j,h⟩).1))):=by
 have M:=KY;obtain⟨t,o⟩:∃ t,eY m.F i=t:=⟨_,rfl⟩;have B:=p.lf;have n:IntKind.i64.wrap ((i:Int)+1)=((i+1:Nat):Int):=cO i a_
 have D:dV m ⟨3,b,c,aH⟩ ⟨i,d,false,j,h⟩=if t.cut=true then (iJ,⟨i+1,d,true,true,h⟩) else (⟨0,strOf (sec h.f c)⟩,⟨i+1,d,false,j,h⟩):=by
  unfold dV fQ;rw[if_neg (by exact Xw),if_pos z];dsimp only;rw[o,if_neg (show ¬((3:Int)=1) by decide),if_neg (show ¬((3:Int)=2) by decide),if_pos (show (3:Int)=3 from rfl),if_pos (show aH=aH/\b=0 from⟨rfl,r⟩),if_pos u]
  all_goals (cases t.cut<;>rfl)
 rw[D];refine dM func180 rfl rfl rfl (fun A y C=>?_);refine aB ?_;refine aB ?_;refine qQ (aMj m ⟨i,d,false,j,h⟩ 3 b c aH t) ?_ ?_;refine aB ?_;refine aI (fun e=>?_) (fun e=>?_);have l:i<m.F.length:=by have k:decide ((i:Int)<(m.F.length:Int))=true:=e;have:=of_decide_eq_true k;omega
 have s:m.F.getD ((i:Int)).toNat AL=t:=o;refine bC M C y (by rfl) (by kernel_rfl) ?_ ?_;simp;exact l;refine fun a w q=>⟨rfl,(q.reset (kT:=[0,3,4,5]) (kO:=[px,0,1,1001]) f_ ay).same ?_ ?_⟩;exact ig;exact .cons (.box rfl) (.cons (.box rfl) (.cons (.box rfl) (.cons (.box (congrArg qF s)) .nil)));have l:¬i<m.F.length:=by have k:decide ((i:Int)<(m.F.length:Int))=false:=e;have:=of_decide_eq_false k;omega
 have s:t=AL:=by rw[<-o];unfold eY;rw[zG,GM a_];rfl
 refine iV (fun a w q=>⟨rfl,(q.reset (kT:=[0,3,4,5]) (kO:=[px,0,1,1001]) f_ ay).same ?_ ?_⟩);exact ig;exact .cons (.box rfl) (.cons (.box rfl) (.cons (.box rfl) (.cons (.box (by rw[s];rfl)) .nil)));refine aB ?_;refine aB ?_;refine aG ?_;refine aB ?_;refine aU (wP m ⟨i+1,d,false,j,h⟩ 3 b c aH t) ?_ ?_ ?_;exact ig;refine .cons (.box ?_) (.cons (.box rfl) (.cons (.box rfl) (.cons (.box ?_) (.cons (.box rfl) .nil))));unfold qo;dsimp only;rw[<-n];rfl;refine aQ ?_;refine aB ?_;refine aI (fun e=>?_) (fun e=>?_);cases e;refine aB ?_;refine aI (fun e=>?_) (fun e=>?_);cases e;refine aB ?_;refine aI (fun e=>?_) (fun e=>?_)
 ·refine aF ?_ ?_;simp;exact u;refine lU ?_;refine aU (aAy m ⟨i+1,d,false,j,h⟩ ⟨0,strOf (sec h.f c)⟩ t) ?_ ?_ ?_;exact ig;refine .cons (.box ?_) (.cons (.box rfl) (.cons (.box rfl) (.cons (.box ?_) .nil)));rfl
  (rw[show sec h.f c=sec (jX h.f.length (su h.f)) c by rw[bW]];rfl)
  refine aG ?_;refine aB ?_;refine aI (fun e=>?_) (fun e=>?_)
  ·have g:t.cut=true:=e;rw[if_pos g];refine aB ?_;refine aB ?_;refine aB ?_;refine bT ?_
   all_goals rfl
  ·have g:t.cut=false:=e;rw[if_neg (by rw[g];exact Xw)];refine aJ ?_;refine aB ?_;refine bT ?_
   all_goals rfl
 cases e
theorem bJr(m:iy)(i:Nat)(g:Acc)(j:Bool)(h:jk)(b c:Int)(x:ByteArray)(D:m.live=true)(k:ru m ⟨i,g,false,j,h⟩)(I:i+1<=1000000)(q:0<=c/\c<h.f.length)(z:b=0)(l:x.size=256):ui prog af 180 false [⟨px,96,qo m ⟨i,g,false,j,h⟩,qo m (dV m ⟨4,b,c,x⟩ ⟨i,g,false,j,h⟩).2⟩] (fun _=>none) none (fun _=>False) [.w (.one (.pt px 0 0)),.w (.agg (lT ⟨4,b,c,x⟩))] (.w (.agg (iW (dV m ⟨4,b,c,x⟩ ⟨i,g,false,j,h⟩).1))):=by
 have M:=KY;obtain⟨t,u⟩:∃ t,eY m.F i=t:=⟨_,rfl⟩;have E:=k.lf;have s:IntKind.i64.wrap ((i:Int)+1)=((i+1:Nat):Int):=cO i a_
 have H:dV m ⟨4,b,c,x⟩ ⟨i,g,false,j,h⟩=if t.cut=true then (iJ,⟨i+1,g,true,true,⟨h.b,fU h.f c x (yu t),h.r⟩⟩) else (iJ,⟨i+1,g,false,j,⟨h.b,fU h.f c x (yu t),h.r⟩⟩):=by
  unfold dV fQ;rw[if_neg (by exact Xw),if_pos D];dsimp only;rw[u,if_neg (show ¬((4:Int)=1) by decide),if_neg (show ¬((4:Int)=2) by decide),if_neg (show ¬((4:Int)=3) by decide),if_pos (show (4:Int)=4 from rfl),if_pos z,if_pos q,if_pos l]
  all_goals (cases t.cut<;>rfl)
 rw[H];refine dM func180 rfl rfl rfl (fun A C G=>?_);refine aB ?_;refine aB ?_;refine qQ (aMj m ⟨i,g,false,j,h⟩ 4 b c x t) ?_ ?_;refine aB ?_;refine aI (fun e=>?_) (fun e=>?_);have p:i<m.F.length:=by have n:decide ((i:Int)<(m.F.length:Int))=true:=e;have:=of_decide_eq_true n;omega
 have B:m.F.getD ((i:Int)).toNat AL=t:=u;refine bC M G C (by rfl) (by kernel_rfl) ?_ ?_;simp;exact p;refine fun a w y=>⟨rfl,(y.reset (kT:=[0,3,4,5]) (kO:=[px,0,1,1001]) f_ ay).same ?_ ?_⟩;exact ig;exact .cons (.box rfl) (.cons (.box rfl) (.cons (.box rfl) (.cons (.box (congrArg qF B)) .nil)));have p:¬i<m.F.length:=by have n:decide ((i:Int)<(m.F.length:Int))=false:=e;have:=of_decide_eq_false n;omega
 have B:t=AL:=by rw[<-u];unfold eY;rw[zG,GM a_];rfl
 refine iV (fun a w y=>⟨rfl,(y.reset (kT:=[0,3,4,5]) (kO:=[px,0,1,1001]) f_ ay).same ?_ ?_⟩);exact ig;exact .cons (.box rfl) (.cons (.box rfl) (.cons (.box rfl) (.cons (.box (by rw[B];rfl)) .nil)));refine aB ?_;refine aB ?_;refine aG ?_;refine aB ?_;refine aU (wP m ⟨i+1,g,false,j,h⟩ 4 b c x t) ?_ ?_ ?_;exact ig;refine .cons (.box ?_) (.cons (.box rfl) (.cons (.box rfl) (.cons (.box ?_) (.cons (.box rfl) .nil))));unfold qo;dsimp only;rw[<-s];rfl;refine aQ ?_;refine aB ?_;refine aI (fun e=>?_) (fun e=>?_);cases e;refine aB ?_;refine aI (fun e=>?_) (fun e=>?_);cases e;refine aB ?_;refine aI (fun e=>?_) (fun e=>?_);cases e;refine aB ?_;refine aI (fun e=>?_) (fun e=>?_)
 ·refine aB ?_;refine aG ?_;refine aB ?_;refine aI (fun e=>?_) (fun e=>?_)
  ·have d:t.cut=true:=e;refine lU ?_;refine aU (⟨(wP m ⟨i+1,g,false,j,h⟩ 4 b c x t).t++[(13,none,di (yu t))],(wP m ⟨i+1,g,false,j,h⟩ 4 b c x t).o⟩) ?_ ?_ ?_;exact .cons rfl (.cons rfl (.cons rfl (.cons rfl (.cons rfl (.cons rfl (.cons (congrArg di (by unfold yu;rw[d];rfl)) .nil))))));exact o7;refine aF ?_ ?_;simp;exact⟨q,l,k.hw.sz,k.hw.nf⟩;refine aB ?_;refine aI (fun e=>?_) (fun e=>?_)
   ·refine lU ?_;refine aU (aAy m ⟨i+1,g,false,j,⟨h.b,fU h.f c x (yu t),h.r⟩⟩ iJ t) ?_ ?_ ?_;exact ig;refine .cons (.box ?_) (.cons (.box rfl) (.cons (.box rfl) (.cons (.box ?_) .nil)))
    (rw[show fU h.f c x (yu t)=fU (jX h.f.length (su h.f)) c x (yu t) by rw[bW]];rfl)
    rfl;refine aG ?_;refine aB ?_;refine aI (fun e=>?_) (fun e=>?_)
    ·have d:t.cut=true:=e;rw[if_pos d];refine aB ?_;refine aB ?_;refine aB ?_;refine bT ?_
     all_goals rfl
    ·have d:t.cut=false:=e;rw[if_neg (by rw[d];exact Xw)];refine aJ ?_;refine aB ?_;refine bT ?_
     all_goals rfl
   cases e
  ·have d:t.cut=false:=e;refine aJ ?_;refine aU (⟨(wP m ⟨i+1,g,false,j,h⟩ 4 b c x t).t++[(13,none,di (yu t))],(wP m ⟨i+1,g,false,j,h⟩ 4 b c x t).o⟩) ?_ ?_ ?_;exact .cons rfl (.cons rfl (.cons rfl (.cons rfl (.cons rfl (.cons rfl (.cons (congrArg di (by unfold yu;rw[d];rfl)) .nil))))));exact o7;refine aF ?_ ?_;simp;exact⟨q,l,k.hw.sz,k.hw.nf⟩;refine aB ?_;refine aI (fun e=>?_) (fun e=>?_)
   ·refine lU ?_;refine aU (aAy m ⟨i+1,g,false,j,⟨h.b,fU h.f c x (yu t),h.r⟩⟩ iJ t) ?_ ?_ ?_;exact ig;refine .cons (.box ?_) (.cons (.box rfl) (.cons (.box rfl) (.cons (.box ?_) .nil)))
    (rw[show fU h.f c x (yu t)=fU (jX h.f.length (su h.f)) c x (yu t) by rw[bW]];rfl)
    rfl;refine aG ?_;refine aB ?_;refine aI (fun e=>?_) (fun e=>?_)
    ·have d:t.cut=true:=e;rw[if_pos d];refine aB ?_;refine aB ?_;refine aB ?_;refine bT ?_
     all_goals rfl
    ·have d:t.cut=false:=e;rw[if_neg (by rw[d];exact Xw)];refine aJ ?_;refine aB ?_;refine bT ?_
     all_goals rfl
   cases e
 cases e
def CU(rec seq:Int)(c:List UInt8)(k:Nat):List UInt8:=qf seq c++(lQ 5 [b_ rec,qf seq c]).take k
theorem aHb(rec seq:Int)(c:List UInt8){k:Nat}(a:k<=16):(CU rec seq c k).length=(qf seq c).length+k:=by unfold CU;rw[ed,uk,jB];omega
def aAR(rec seq:Int)(c:List UInt8)(k:Nat):St:=⟨[(7,none,d_ (.ow 1001 0 1 0 ((qf seq c).length+k))),(8,none,d_ (.pt 2005 0 0)),(9,none,di k)],[(2005,none,0,.box 23 [.bs 16 (lQ 5 [b_ rec,qf seq c])]),(1001,none,0,.arr 5 1 ((qf seq c).length+k) (m_ (CU rec seq c k)))]⟩
theorem aUd(rec seq:Int)(c:ByteArray)(h1:g_ rec)(h2:g_ seq)(hc:c.size<=3000):T_ prog af 117 [di rec,di seq,jr c] 5 1 (encS rec seq c.data.toList).length (m_ (encS rec seq c.data.toList)):=by
 have M:=aKK;have m:prog.types[5].bytes=1:=by kernel_rfl
 have l:prog.types[5].size=1:=by kernel_rfl
 have y:=aP seq;have u:=aP rec;have s:=fD c.data.toList;have E:c.data.toList.length=c.size:=mf;refine aBi func117 rfl rfl bK (fun A I z G=>?_);refine aB ?_;refine aF ?_ ?_;simp;refine⟨h2,by omega,?_⟩;rw[m];omega;refine bY (s':=⟨[(0,none,di rec),(7,none,d_ (.ow 1001 0 1 0 (qf seq c.data.toList).length))],[(1001,none,0,.arr 5 1 (qf seq c.data.toList).length (m_ (qf seq c.data.toList)))]⟩) (fun a w b=>(b.reset (kT:=[0,7]) (kO:=[1001]) f_ ?_).same ?_ ?_) ?_;simp only[All,and_true,Pi];exact fun i _=>sN (fun _=>rfl) (fun _=>rfl) i;refine .cons rfl (.cons ?_ .nil);rw[l,qf,ed];refine .cons (.arr ?_ (fun i o=>?_)) .nil;rw[qf,ed];simp only[lL];exact congrFun (uT (b_ seq) (bI c.data.toList)) i;have C:(qf seq c.data.toList).length<=4000:=by unfold qf;rw[ed];omega
 have D:=jB 5 [b_ rec,qf seq c.data.toList];refine aF ?_ ?_;simp;exact⟨h1,by omega,by omega⟩;refine aG ?_;refine aB ?_;refine bY (s':=aAR rec seq c.data.toList 0) (fun a w b=>(b.reset (kT:=[7,8,9]) (kO:=[2005,1001]) f_ (by simp;exact fun i _ x p=>pM _ i x p)).same ?_ ?_) ?_;exact ig;refine .cons (.box ?_) (.cons (.arr rfl (fun i o=>?_)) .nil);simp only[dY];rfl;unfold CU;rw[List.take_zero,Pi];refine aQ ?_;refine fF 16 (fun k t=>t=aAR rec seq c.data.toList k) 0 rfl a_ (fun k t F H=>?_);subst F;refine aG ?_;refine aB ?_;refine aI (fun hc=>?_) (fun hc=>?_)
 ·have B:k<16:=by
   have:(k:Int)<16:=by simpa using hc
   omega
  refine aJ ?_;refine aG ?_;refine aQ ?_;refine bC M G z (by rfl) (by kernel_rfl) ?_ ?_;simp;rw[m];omega;change lh _ _ _ _ _;refine gI ?_;intro a w b;refine⟨k+1,_,by omega,by omega,rfl,(b.reset (kT:=[7,8,9]) (kO:=[2005,1001]) f_ ?_).same ?_ ?_⟩
  ·simp only[All,and_true,Pi,WF];refine fun i _=>sN (fun _=>rfl) (fun j=>?_) i;rw[lL]
   cases j<;>rfl
  exact .cons (congrArg (fun n=>d_ (.ow 1001 0 n 0 ((qf seq c.data.toList).length+(k+1)))) l) (.cons rfl (.cons (by rw[cO k a_]) .nil));refine .cons (.box rfl) (.cons (.arr ?_ (fun i o=>?_)) .nil);rfl;have e:CU rec seq c.data.toList (k+1)=CU rec seq c.data.toList k++[(lQ 5 [b_ rec,qf seq c.data.toList]).getD k 0]:=by unfold CU;rw[List.append_assoc];congr 1;rw[List.take_add_one,zG,zH a_];rfl
  have r:=congrFun (uT (CU rec seq c.data.toList k) [(lQ 5 [b_ rec,qf seq c.data.toList]).getD k 0]) i;rw[aHb _ _ _ a_] at r;rw[e,<-r,MM];unfold o_;split
  rfl;rw[show i-((qf seq c.data.toList).length+k)=0 from by omega];rfl
 ·have q:k=16:=by
   have:¬(k:Int)<16:=by simpa using hc
   omega
  subst q;refine eP ?_;change lh _ _ _ _ _;have d:CU rec seq c.data.toList 16=encS rec seq c.data.toList:=by unfold CU encS;rw[IR a_]
  have h:(qf seq c.data.toList).length+16=(encS rec seq c.data.toList).length:=by rw[<-d,aHb _ _ _ (dE 16)]
  refine bY (s':=⟨[(7,none,d_ (.ow 1001 0 1 0 (encS rec seq c.data.toList).length))],[(1001,none,0,.arr 5 1 (encS rec seq c.data.toList).length (m_ (encS rec seq c.data.toList)))]⟩) (fun a w b=>(b.reset (kT:=[7]) (kO:=[1001]) f_ (by simp;exact fun i _ x p=>pM _ i x p)).same ?_ ?_) ?_;exact .cons (by rw[h]) .nil;exact .cons (.arr h (fun i o=>by rw[d])) .nil;refine aB ?_;refine cZ (fun a w b=>⟨.inr rfl,_,?_,b⟩);refine aDo (x:=1001) (jm:=0) (g:=none) (f:=?_) (out:=?_) ?_ ?_ ?_ ?_ ?_ trivial ?_;rotate_left 2;rfl;simp;rfl;rfl;rfl;intro i o;exact⟨rfl,rfl⟩
theorem PT:ai prog af 117 EF:=by refine xI (aC func117 aj rfl) (fun g p e n len h f d=>?_);split at f;rename_i b a c;cases f;exact aUd b a c d.1 d.2.1 d.2.2;cases f
def Uu:List (Nat×Spec):=(117,EF)::GN
theorem IV:∀ p∈Uu,ai prog af p.1 p.2:=by intro p a;rcases List.mem_cons.1 a with rfl|a;exact PT;exact bFt p a
theorem aJP:jl prog af (find Uu):=⟨bD IV,dG⟩
def seK(b:List UInt8)(k i:Nat):List UInt8:=((b.drop (256*k)).take i)++DD (256-((b.drop (256*k)).take i).length) 0
theorem aLf(b:List UInt8)(k i j:Nat):(seK b k i).getD j 0=if j<i then b.getD (256*k+j) 0 else 0:=by
 unfold seK;rw[zG,List.getElem?_append];split;rename_i h;rw[uk,AC] at h;rw[List.getElem?_take,if_pos a_,if_pos a_,List.getElem?_drop,zG]
 ·rename_i h;rw[uk,AC] at h
  have a:∀ n m:Nat,((DD n (0:UInt8))[m]?).getD 0=0:=fun n m=>by rw[show (DD n (0:UInt8))[m]?=if m<n then some 0 else none from List.getElem?_replicate];split<;>rfl
  rw[a];split;rw[zG,GM a_];rfl;rfl
theorem P8(b:List UInt8)(k i:Nat)(a:i<=256)(h:i=256\/b.length<=256*k+i):seK b k i=jq b k:=by unfold seK jq;rcases h with rfl|h;rfl;rw[IR (by rw[AC];omega),IR (i:=256) (by rw[AC];omega)]
def aAC(b:List UInt8)(k i:Nat):St:=⟨[(0,none,l7 b),(1,none,di (k:Int)),(5,none,d_ (.ow 1000 0 1 0 256)),(6,none,di (i:Int))],[(1000,none,0,.arr 5 1 256 (m_ (seK b k i)))]⟩
theorem bAn(b:List UInt8)(k:Nat)(s:k<=1000)(_:b.length<=1000000):fP prog af 119 true [l7 b,di k] (jr (strOf (jq b k))):=by
 have M:=Zu;refine bH func119 rfl rfl bK (fun A x p r=>?_);refine aB ?_;have m:prog.types[5].bytes=1:=by kernel_rfl
 have g:prog.types[5].size=1:=by kernel_rfl
 refine aF ?_ ?_;simp;rw[m];omega;refine aG ?_;refine aB ?_;refine bY (s':=aAC b k 0) (fun a w h=>(h.reset (kT:=[0,1,5,6]) (kO:=[1000]) f_ ?_).same ?_ ?_) ?_;exact⟨fun i _=>rfl,trivial⟩;exact .cons rfl (.cons rfl (.cons (congrArg (fun n=>d_ (.ow 1000 0 n 0 256)) g) (.cons rfl .nil)));refine .cons (.arr ?_ (fun i o=>?_)) .nil;rfl;unfold m_;rw[aLf,if_neg a_];rfl;refine aQ ?_;refine fF 256 (fun i t=>t=aAC b k i) 0 rfl a_ (fun i t q o=>?_);subst q;refine aG ?_;have c:IntKind.i64.wrap (IntKind.i64.wrap (256*(k:Int))+(i:Int))=256*(k:Int)+(i:Int):=by rw[dD (n:=256*(k:Int)) a_ a_];exact dD a_ a_
 refine aB ?_;rw[c];refine aI (fun l=>?_) (fun l=>?_)
 ·have f:i<256/\256*k+i<b.length:=by simp at l;omega
  refine aJ ?_;refine aG ?_;refine aQ ?_;refine bC M r p (by rfl) (by kernel_rfl) ?_ ?_;simp;rw[c];omega;change lh _ _ _ _ _;refine gI ?_;intro a w h;refine⟨i+1,_,by omega,by omega,rfl,(h.reset (kT:=[0,1,5,6]) (kO:=[1000]) f_ ?_).same ?_ ?_⟩
  ·refine⟨fun j _=>?_,trivial⟩;dsimp only
   split<;>rfl
  exact .cons rfl (.cons rfl (.cons rfl (.cons (by rw[cO i a_]) .nil)));refine .cons (.arr rfl (fun j u=>?_)) .nil;rw[c];split;rename_i e;obtain rfl:j=i:=by omega
  unfold m_;rw[aLf,if_pos a_,show (256*(k:Int)+(j:Int)).toNat=256*k+j from by omega];rfl;unfold m_;rw[aLf,aLf];by_cases d:j<i;rw[if_pos d,if_pos a_];rw[if_neg d,if_neg a_]
 have f:i=256\/b.length<=256*k+i:=by simp at l;omega
 refine eP ?_;change lh _ _ _ _ _;refine aB ?_;refine bU ?_;rw[P8 b k i o f,lY (fM b k)];rfl
theorem bGe(b W:List UInt8):(bif decide ((b.length:Int)<(W.length:Int)) then true else !((rowB ((W.length:Int)-0).toNat fun i=>m_ b (YK 0+i))==rowB W.length fun i=>m_ W (0+i)))=decide (b.take W.length≠W):=by
 rw[vY];by_cases h:b.length<W.length;rw[decide_eq_true (by omega:(b.length:Int)<(W.length:Int)),cond_true,decide_eq_true];intro e;have:=congrArg List.length e;rw[uk] at this;omega;rw[decide_eq_false (by omega:¬(b.length:Int)<(W.length:Int)),cond_false];have e:(rowB ((W.length:Int)-0).toNat fun i=>m_ b (YK 0+i))=b.take W.length:=by have:=kQ (L:=b) (k:=0) (m:=W.length) a_;rw[show ((W.length:Int)-0).toNat=W.length from by omega];exact this
 rw[e];by_cases a:b.take W.length=W;rw[a,beq_self_eq_true,decide_eq_false ay];rfl;rw[beq_eq_false_iff_ne.2 a,decide_eq_true a];rfl
theorem aUf(rec:Int)(b:List UInt8)(h1:g_ rec)(hb:b.length<4611686018427387904):fP prog af 155 true [di rec,l7 b] (.lu [.one (.lit (.int .i64 (o6 rec b).1)),.one (.lit (.string (strOf (o6 rec b).2)))]):=by
 have M:=aJP;have t:=mV b;have z:=fJ b;refine bH func155 rfl rfl bK (fun A E B F=>?_);refine aB ?_;refine aF ?_ ?_;simp;exact hb;refine aU (⟨[(0,none,di rec),(1,none,l7 b),(6,none,di (au b).1),(7,none,di ((au b).2.1:Int)),(8,none,di (au b).2.2)],[]⟩) ?_ ?_ ?_;rw[dY];exact ig;exact .nil;obtain⟨m,d⟩:∃ m,o6 rec b=m:=⟨_,rfl⟩;rw[d];have j:gJ (b.drop (au b).2.1)=tq b:=rfl;unfold o6 at d;have r:=jW (b.drop (au b).2.1);rw[j,AC] at r;generalize D:au b=g at *;obtain⟨q,k,e⟩:=g;dsimp only at *;refine aG ?_;refine aB ?_;refine aI (fun f=>?_) (fun f=>?_);refine aB ?_;refine bU ?_;have h:e≠0\/q<1\/1099511627776<q:=by simp at f;omega
 rw[if_pos h] at d;rw[<-d];rfl;have h:¬(e≠0\/q<1\/1099511627776<q):=by simp at f;omega
 rw[if_neg h] at d;refine aJ ?_;refine aF ?_ ?_;simp;refine⟨t.1,?_⟩;unfold iM;rw[dQ];omega;have o:(rowB ((b.length:Int)-(k:Int)).toNat fun i=>m_ b ((k:Int).toNat+i))=b.drop k:=by rw[show ((b.length:Int)-(k:Int)).toNat=b.length-k from by omega,show (k:Int).toNat=k from by omega,kQ a_];exact IR (by rw[AC];exact dE _)
 refine aU (⟨[(0,none,di rec),(1,none,l7 b),(6,none,di q),(9,none,jr (strOf (tq b).1)),(11,none,di (tq b).2.2)],[]⟩) ?_ ?_ ?_;rw[o,j];exact ig;exact .nil;generalize tq b=c at *;obtain⟨s,n,w⟩:=c;dsimp only at *;have a:(strOf s).size=s.length:=bJ s;refine aG ?_;refine aB ?_;refine aI (fun f=>?_) (fun f=>?_);refine aB ?_;refine bU ?_;have p:w≠0\/2000<s.length:=by simp[a] at f;omega
 rw[if_pos (p.elim .inl (fun h=>.inr (.inl h)))] at d;rw[<-d];rfl;have p:¬(w≠0\/2000<s.length):=by simp[a] at f;omega
 refine aJ ?_;refine aF ?_ ?_;simp;exact⟨h1,by unfold g_;omega,by rw[a];omega⟩;refine aG ?_;refine aF ?_ ?_;simp;refine⟨fun _ i _ x y=>pM _ i x y,fun C=>?_⟩;unfold iM;rw[dQ];omega;rw[bV,bGe];refine aI (fun f=>?_) (fun f=>?_);refine aB ?_;refine bU ?_;have u:b.take (encS rec q s).length≠encS rec q s:=of_decide_eq_true f;rw[if_pos (.inr (.inr u))] at d;rw[<-d];rfl;refine aJ ?_;refine aB ?_;refine bU ?_;have u:b.take (encS rec q s).length=encS rec q s:=Classical.not_not.1 (of_decide_eq_false f);rw[if_neg (fun l=>by rcases l with l|l|l;exact p (.inl l);exact p (.inr l);exact l u)] at d;rw[<-d]
def Zz:List PV->Option (Prop×PV)
 |[v,.w (.one (.lit (.int .i64 k)))]=>(match vH v with
  |some (p,l)=>some (p/\0<=k/\k<=1000/\l.length<=1000000,jr (strOf (jq l k.toNat)))|none=>none)
 |_=>none
def GV:Spec:=aZ true Zz
def Gh:Spec:=aZ true fun a=>match a with
 |[.w (.one (.lit (.int .i64 rec))),v]=>(match vH v with
  |some (p,l)=>some (p/\g_ rec/\l.length<4611686018427387904,.lu [.one (.lit (.int .i64 (o6 rec l).1)),.one (.lit (.string (strOf (o6 rec l).2)))])|none=>none)
 |_=>none
theorem bJp(a:Acc):uw 180 [.w (.agg (lT a))] (fun m s=>m.live=true/\s.stop=false/\ZK s.h a) (fun m s=>((dV m a s).2,.w (.agg (iW (dV m a s).1)))):=by
 intro m s f ⟨o,n,z⟩ u;obtain⟨i,d,A,t,h⟩:=s;obtain⟨k,b,c,x⟩:=a;dsimp only at n z u ⊢;subst n
 have g:i+1<=1000000:=by
  have e:(dV m ⟨k,b,c,x⟩ ⟨i,d,false,t,h⟩).2.i=i+1:=by
   unfold dV;rw[if_neg (by exact Xw),if_pos o]
   split<;>rfl
  rw[e] at u;exact u
 rcases z with⟨j,l,y⟩|⟨j,p,l,r,q⟩|⟨j,p,r,q⟩;dsimp only at j l y;subst l;rcases j with rfl|rfl;exact aQp m i d t h b c aH o f g y;exact aQo m i d t h b c aH o f g y;dsimp only at j p l r q;subst j l;exact bJs m i d t h b c aH o f g ⟨r,q⟩ p;dsimp only at j p r q;subst j;exact bJr m i d t h b c x o f g r p q
def bMr:List PV->Option (BC×Ai)
 |[.w (.agg [.lit (.int .i64 k),.lit (.int .i64 b),.lit (.int .i64 c),.lit (.string x)])]=>some (fun m s=>m.live=true/\s.stop=false/\ZK s.h ⟨k,b,c,x⟩,fun m s=>((dV m ⟨k,b,c,x⟩ s).2,.w (.agg (iW (dV m ⟨k,b,c,x⟩ s).1))))|_=>none
theorem bCh(m:iy)(s:h_):ai prog af 180 (dI 96 (uq m s bMr)):=
 eU (aC func180 aj rfl) (fun a C F h=>by
  unfold bMr at h;split at h;cases h;exact bJp _
  cases h)
def Vz(m:iy)(s:h_):List (Nat×Spec):=[(180,dI 96 (uq m s bMr))]
theorem Vy(m:iy)(s:h_):jl prog af (find (Vz m s)):=⟨bD (fun p a=>by
 obtain rfl:=List.mem_singleton.1 a
 exact bCh m s),dG⟩
theorem Rk(a:Acc):uw 150 [.w (.agg (lT a))] (fun m s=>m.live=true->s.stop=false->ZK s.h a) (fun m s=>((dV m a s).2,.w (.agg (iW (dV m a s).1)))):=by
 intro m s e y q;have M:=Vy m s;dsimp only at q ⊢;refine dM func150 rfl rfl rfl (fun A z B=>?_);obtain⟨t,b,F⟩:=m;obtain⟨i,g,r,p,h⟩:=s;cases r with
 | true=>
  rw[uJ _ a (s:=⟨i,g,true,p,h⟩) rfl];refine aB ?_;refine aG ?_;refine aB ?_;refine aI (fun c=>?_) (fun c=>?_)
  ·refine aB ?_;refine bT ?_
   all_goals rfl
  cases c
 | false=>
  cases t with
  | true=>
   have x:=y rfl rfl;refine aB ?_;refine aG ?_;refine aB ?_;refine aI (fun c=>?_) (fun c=>?_);cases c;refine aJ ?_;refine aG ?_;refine aB ?_;refine aI (fun c=>?_) (fun c=>?_)
   ·refine aF ?_ ?_;simp;exact⟨e,x,q⟩;refine bT ?_
    all_goals rfl
   cases c
  | false=>
   have l:=e.ll;have n:=e.i;dsimp only at l n;rw[aJo (m:=⟨false,b,F⟩) (s:=⟨i,g,false,p,h⟩) rfl rfl];refine aB ?_;refine aG ?_;refine aB ?_;refine aI (fun c=>?_) (fun c=>?_);cases c;refine aJ ?_;refine aG ?_;refine aB ?_;refine aI (fun c=>?_) (fun c=>?_);cases c;refine aJ ?_;refine aG ?_;refine aB ?_;refine aI (fun c=>?_) (fun c=>?_)
   ·refine aB ?_;refine aB ?_;refine aB ?_;have o:b.length<=i:=by have f:decide ((i:Int)>=(b.length:Int))=true:=c;have:=of_decide_eq_true f;omega
    dsimp only;rw[GM o];refine bT ?_
    all_goals rfl
   ·have k:i<b.length:=by
     have f:decide ((i:Int)>=(b.length:Int))=false:=c;have:=of_decide_eq_false f;omega
    refine aJ ?_;refine aB ?_;have d:IntKind.i64.wrap ((i:Int)+1)=((i+1:Nat):Int):=cO i a_;have j:IntKind.i64.wrap (((i+1:Nat):Int)-1)=(i:Int):=by rw[show (((i+1:Nat):Int)-1)=(i:Int) by omega,TC,aEG a_ a_];omega
    refine aF ?_ ?_;simp;rw[d,j];omega;have u:b[i]?=some (b.getD i ⟨0,aH⟩):=by rw[zG,zH k];rfl
    dsimp only;rw[u];refine aU (⟨[(4,none,d_ (.pt 1 0 0))],[(px,none,0,.box 96 (qo ⟨false,b,F⟩ ⟨i+1,g,false,p,h⟩)),(1,none,0,.box 35 (iW (b.getD i ⟨0,aH⟩)))]⟩) ?_ ?_ ?_;exact ig;refine .cons (.box ?_) (.cons (.box ?_) .nil);unfold qo;dsimp only;rw[<-d]
    show[PC.lit (.int .i64 (b.getD (IntKind.i64.wrap (IntKind.i64.wrap ((i:Int)+1)-1)).toNat ⟨0,aH⟩).val),PC.lit (.string (b.getD (IntKind.i64.wrap (IntKind.i64.wrap ((i:Int)+1)-1)).toNat ⟨0,aH⟩).bytes)]=_
    rw[d,j];rfl;refine bT ?_
    all_goals rfl
def bMz:List PV->Option (BC×Ai)
 |[.w (.agg [.lit (.int .i64 k),.lit (.int .i64 b),.lit (.int .i64 c),.lit (.string x)])]=>some (fun m s=>m.live=true->s.stop=false->ZK s.h ⟨k,b,c,x⟩,fun m s=>((dV m ⟨k,b,c,x⟩ s).2,.w (.agg (iW (dV m ⟨k,b,c,x⟩ s).1))))|_=>none
theorem Me(m:iy)(s:h_):ai prog af 150 (dI 96 (uq m s bMz)):=
 eU (aC func150 aj rfl) (fun a C F h=>by
  unfold bMz at h;split at h;cases h;exact Rk _
  cases h)
def aKO(m:iy)(s:h_):List (Nat×Spec):=[(150,dI 96 (uq m s bMz))]
theorem aCB(m:iy)(s:h_):jl prog af (find (aKO m s)):=⟨bD (fun p a=>by
 obtain rfl:=List.mem_singleton.1 a
 exact Me m s),dG⟩
def qp(m:iy)(s:h_):Prop:=m.live=true->64<=s.h.f.length
theorem qp.BF{m:iy}{s s':h_}(h:qp m s)(e:DW s.h s'.h):qp m s':=fun a=>by rw[e.f];exact h a
theorem bDl(c:Int):uw 184 [di c] (fun m s=>qp m s/\0<=c/\c<64) (fun m s=>((aO m (ah.rd c) s).2,jr (aO m (ah.rd c) s).1)):=by
 intro m s a b e;have M:=aCB m s;have g:m.live=true->s.stop=false->ZK s.h ⟨3,0,c,aH⟩:=fun d _=>.inr (.inl ⟨rfl,rfl,rfl,b.2.1,by have:=b.1 d;have:=b.2.2;show c<(s.h.f.length:Int);omega⟩);refine dM func184 rfl rfl rfl (fun A i j=>?_);refine aB ?_;refine aF ?_ ?_;simp;exact⟨a,g,e⟩;refine aB ?_;refine bT ?_
 all_goals rfl
theorem aWe(c:Int)(b:ByteArray):uw 118 [di c,jr b] (fun m s=>qp m s/\(0<=c/\c<64)/\b.size=256) (fun m s=>((aO m (ah.wr c b) s).2,.lu [])):=by
 intro m s e d n;have M:=aCB m s;have g:m.live=true->s.stop=false->ZK s.h ⟨4,0,c,b⟩:=fun l _=>.inr (.inr ⟨rfl,rfl,⟨d.2.1.1,by have:=d.1 l;have:=d.2.1.2;show c<(s.h.f.length:Int);omega⟩,d.2.2⟩);refine dM func118 rfl rfl rfl (fun A k q=>?_);refine bC M q k (by rfl) (by kernel_rfl) ?_ ?_;simp;exact⟨e,g,n⟩;intro a w g;refine⟨.inl rfl,_,⟨?_,(fun o j=>by obtain rfl:=List.mem_singleton.1 j;exact⟨_,rfl,eQ rfl⟩),fun p i=>(by cases i)⟩,g⟩;refine aY (by rfl) (by simp) (by rfl) (by rfl) ?_
 all_goals rfl
def bMi:List PV->Option (BC×Ai)
 |[.w (.one (.lit (.int .i64 c)))]=>some (fun m s=>qp m s/\0<=c/\c<64,fun m s=>((aO m (ah.rd c) s).2,jr (aO m (ah.rd c) s).1))|_=>none
def bMc:List PV->Option (BC×Ai)
 |[.w (.one (.lit (.int .i64 c))),.w (.one (.lit (.string b)))]=>some (fun m s=>qp m s/\(0<=c/\c<64)/\b.size=256,fun m s=>((aO m (ah.wr c b) s).2,.lu []))|_=>none
theorem aWf(m:iy)(s:h_):ai prog af 184 (dI 96 (uq m s bMi)):=
 eU (aC func184 aj rfl) (fun a C F h=>by
  unfold bMi at h;split at h;cases h;exact bDl _
  cases h)
theorem aRx(m:iy)(s:h_):ai prog af 118 (dI 96 (uq m s bMc)):=
 eU (aC func118 aj rfl) (fun a C F h=>by
  unfold bMc at h;split at h;cases h;exact aWe _ _
  cases h)
theorem bCn:ai prog af 119 GV:=by
 refine aW (aC func119 aj rfl) (fun j p r a h=>?_);unfold Zz at a;split at a;rename_i v k;cases b:vH v with
 |none=>rw[b] at a;cases a| some q=>
  obtain⟨o,l⟩:=q;rw[b] at a;cases a;obtain⟨c,e,d,i⟩:=h;obtain⟨n,rfl⟩:∃ n:Nat,k=(n:Int):=⟨k.toNat,by omega⟩;rw[MM]
  exact (bAn l n a_ i).args fun C f g=>by
   match f,g with
   |[m,x],⟨e,d,_⟩=>exact⟨qY b c e,d,trivial⟩
 cases a
theorem Kv:ai prog af 155 Gh:=by
 refine aW (aC func155 aj rfl) (fun i p r a d=>?_);split at a;rename_i b v;cases c:vH v with
 |none=>rw[c] at a;cases a| some q=>
  obtain⟨k,l⟩:=q;rw[c] at a;cases a
  exact (aUf b l d.2.1 d.2.2).args fun C e f=>by
   match e,f with
   |[j,x],⟨h,g,_⟩=>exact⟨h,qY c d.1 g,trivial⟩
 cases a
def Qu(m:iy)(s:h_):List (Nat×Spec):=(184,dI 96 (uq m s bMi))::(118,dI 96 (uq m s bMc))::(119,GV)::(155,Gh)::Uu
theorem Ku(m:iy)(s:h_):∀ p∈Qu m s,ai prog af p.1 p.2:=by intro p a;simp only[Qu,xn] at a;rcases a with rfl|rfl|rfl|rfl|a;exact aWf m s;exact aRx m s;exact bCn;exact Kv;exact IV p a
theorem aCA(m:iy)(s:h_):jl prog af (find (Qu m s)):=⟨bD (Ku m s),dG⟩
theorem aHx{h:jk}(a:BN h)(c:Int):(strOf (sec h.f c)).size<=1000000:=by rw[bJ];unfold sec;split;rename_i b;obtain⟨n,rfl⟩:=Ye b.1;rw[show ((n:Int)).toNat=n from rfl,zG,zH a_,Option.getD_some,mf];exact a.sz _ (YV _);exact Nat.zero_le _
theorem aQt{m:iy}{a:Acc}{s:h_}(h:ru m s):(dV m a s).1.bytes.size<=1000000:=by
 have b:iJ.bytes.size<=1000000:=by decide
 have d:aH.size<=1000000:=by decide
 unfold dV;split;exact b;split
 ·split;exact b
  ·show (fQ s.h a (eY m.F s.i)).2.1.bytes.size<=1000000;unfold fQ
   repeat' split
   all_goals first
    |exact b
    |exact d
    |skip
   exact aHx h.hw _
 split;rename_i r c;exact h.lb r (List.mem_of_getElem? c);exact b
theorem aQv{m:iy}{c:Int}{s:h_}(h:ru m s):(aO m (ah.rd c) s).1.size<=1000000:=aQt h
theorem wQ{m:iy}(F:Int):∀ (n:Nat) (b:List UInt8) {s:h_},ru m s->(aO m (ah.l_ F n b) s).2.i<=1000000->(aO m (ah.l_ F n b) s).1.length<=b.length+n*1000000
 |0,b,s,h,_=>by show b.length<=_;omega|n+1,b,s,h,a=>by
  rw[ah.l_,dS] at a ⊢;have e:=aQv (c:=F+((7-n:Nat):Int)) h;have d:=wQ F n (b++(aO m (ah.rd (F+((7-n:Nat):Int))) s).1.data.toList) (jH (ah.rd (F+((7-n:Nat):Int))) h (mr (jL m _ _) a)) a;have f:(aO m (ah.rd (F+((7-n:Nat):Int))) s).1.data.toList.length<=1000000:=by rw[mf];exact e
  rw[ed] at d;omega
def U7(m:iy)(rec k:Int)(s:h_)(b:List UInt8)(i:Nat):St:=⟨[(0,none,d_ (.pt px 0 0)),(1,none,di rec),(2,none,di k),(7,none,d_ (.ow 7000 0 1 0 b.length)),(8,none,di (i:Int))],[(px,none,0,.box 96 (qo m s)),(7000,none,0,.arr 5 1 b.length (m_ b))]⟩
theorem aVk{F:Int}{i:Nat}(a:i<8)(b:List UInt8)(m:iy)(s:h_):aO m (ah.l_ F (8-i) b) s=aO m (ah.l_ F (8-(i+1)) (b++(aO m (ah.rd (F+i)) s).1.data.toList)) (aO m (ah.rd (F+i)) s).2:=by
 have e:8-i=(7-i)+1:=by omega
 rw[e,ah.l_,dS,show 7-(7-i)=i from by omega,show 8-(i+1)=7-i from by omega]
theorem bOi(rec k:Int)(O:0<=bF rec k):uw 154 [di rec,di k] (fun m s=>qp m s) (fun m s=>((aO m (ah.l_ (bF rec k) 8 []) s).2,l7 (aO m (ah.l_ (bF rec k) 8 []) s).1)):=by
 intro m z r E h;have C:prog.types[5].bytes=1:=by kernel_rfl
 have M:=aCA m z;have N:=aCf rec k;dsimp only at h ⊢;refine dM func154 rfl rfl rfl (fun A J L=>?_);generalize K:aO m (ah.l_ (bF rec k) 8 []) z=R at h ⊢;refine aB ?_;refine aB ?_;refine aG ?_;refine aB ?_;refine bY (s':=U7 m rec k z [] 0) (fun a w y=>((y.nilRow (x:=7000) (e:=5) (n:=1) (t:=7) f_ f_).reset (kT:=[0,1,2,7,8]) (kO:=[px,7000]) f_ ay).same ?_ ?_) ?_;exact ig;exact .cons (.box rfl) (.cons (.arr rfl (fun i F=>absurd F ay)) .nil);refine aQ ?_;refine fF 8 (fun i t=>∃ s b,t=U7 m rec k s b i/\ru m s/\qp m s/\b.length<=i*1000000/\aO m (ah.l_ (bF rec k) (8-i) b) s=R) 0 ⟨_,_,rfl,r,E,by simp,K⟩ a_ (fun i t l F=>?_);obtain⟨s,b,rfl,f,G,T,l⟩:=l;clear M;have M:=aCA m s;refine aG ?_;refine aB ?_;refine aI (fun B=>?_) (fun B=>?_);have g:i<8:=by have:=of_decide_eq_true B;omega
 refine aJ ?_;refine aG ?_;refine aQ ?_;have d:IntKind.i64.wrap (bF rec k+(i:Int))=bF rec k+(i:Int):=dD a_ a_;rw[aVk g] at l;have u:(aO m (ah.rd (bF rec k+(i:Int))) s).2.i<=1000000:=mr (jL m _ _) (by rw[l];exact h);refine aF ?_ ?_;simp;rw[d];exact⟨f,⟨G,by omega,by omega⟩,u⟩;have Q:=aQv (c:=bF rec k+(i:Int)) f;have q:=jH (ah.rd (bF rec k+(i:Int))) f u;have D:=G.BF (iO m (ah.rd (bF rec k+(i:Int))) s);refine bC M L J (by rfl) (by kernel_rfl) ?_ ?_;simp;change ((aO m (ah.rd (IntKind.i64.wrap (bF rec k+(i:Int)))) s).1).size<=_/\(b.length+((aO m (ah.rd (IntKind.i64.wrap (bF rec k+(i:Int)))) s).1).size)*_<=_;rw[d,C];omega;change lh _ _ _ _ _;refine gI ?_;intro a w y;refine⟨i+1,_,by omega,by omega,⟨_,_,rfl,q,D,?_,l⟩,(y.reset (kT:=[0,1,2,7,8]) (kO:=[px,7000]) f_ ?_).same ?_ ?_⟩;rw[ed,mf];change b.length+((aO m (ah.rd (bF rec k+(i:Int))) s).1).size<=_;omega;simp only[All,and_true,Pi,WF];exact fun i _=>sN (fun _=>rfl) (fun _=>rfl) i;refine .cons rfl (.cons rfl (.cons rfl (.cons ?_ (.cons (by rw[cO i a_]) .nil))));change d_ (.ow 7000 0 prog.types[5].size 0 (b.length+((aO m (ah.rd (IntKind.i64.wrap (bF rec k+(i:Int)))) s).1).size))=_;rw[d,ed,mf];rfl;refine .cons (.box ?_) (.cons (.arr ?_ (fun j S=>?_)) .nil);show qo m (aO m (ah.rd (IntKind.i64.wrap (bF rec k+(i:Int)))) s).2=_;rw[d];change b.length+((aO m (ah.rd (IntKind.i64.wrap (bF rec k+(i:Int)))) s).1).size=_;rw[d,ed,mf];rfl;change o_ b.length (m_ b) (m_ ((aO m (ah.rd (IntKind.i64.wrap (bF rec k+(i:Int)))) s).1).data.toList) j=_;rw[d];exact congrFun (uT b _) j;have g:i=8:=by have:=of_decide_eq_false B;omega
 subst g;have P:(b,s)=R:=l;refine eP ?_;change lh _ _ _ _ _;refine aB ?_;rw[<-P];refine cZ (fun a w y=>⟨.inr rfl,_,⟨?_,(fun o I=>by obtain rfl:=List.mem_singleton.1 I;exact⟨_,rfl,eQ rfl⟩),fun p H=>(by cases H)⟩,y⟩);refine oG (by rfl) (by simp) (by rfl) ?_;exact .w (.one (.row rfl trivial a_ (fun i _=>by rw[lL]) (fun i _=>rfl)))
def bNe:List PV->Option (BC×Ai)
 |[.w (.one (.lit (.int .i64 rec))),.w (.one (.lit (.int .i64 k)))]=>some (fun m s=>0<=bF rec k/\qp m s,fun m s=>((aO m (ah.l_ (bF rec k) 8 []) s).2,l7 (aO m (ah.l_ (bF rec k) 8 []) s).1))|_=>none
theorem bEc(m:iy)(s:h_):ai prog af 154 (dI 96 (uq m s bNe)):=
 eU (aC func154 aj rfl) (fun d C F h=>by
  unfold bNe at h;split at h;cases h;exact fun m s a b c=>bOi _ _ b.1 m s a b.2 c
  cases h)
def WA(m:iy)(s:h_):List (Nat×Spec):=(154,dI 96 (uq m s bNe))::Qu m s
theorem Kt(m:iy)(s:h_):∀ p∈WA m s,ai prog af p.1 p.2:=by intro p a;rcases List.mem_cons.1 a with rfl|a;exact bEc m s;exact Ku m s p a
theorem aBZ(m:iy)(s:h_):jl prog af (find (WA m s)):=⟨bD (Kt m s),dG⟩
def aCJ(n:Int)(seq:Int)(c:ByteArray):PV:=.lu [.one (.lit (.int .i64 n)),.one (.lit (.int .i64 seq)),.one (.lit (.string c))]
def Af(x:((Int×List UInt8)×Nat)×h_):Int×Int×ByteArray:=if x.2.stop then (0,0,aH) else ((x.1.2:Int),x.1.1.1,strOf x.1.1.2)
def aCI(x:((Int×List UInt8)×Nat)×h_):PV:=aCJ (Af x).1 (Af x).2.1 (Af x).2.2
theorem pU{rec:Int}(hr:0<=rec/\rec<=3){k:Int}(a:0<=k/\k<=1):0<=bF rec k/\bF rec k<=56:=by unfold bF;rw[if_neg a_];omega
theorem aRy(rec:Int)(hr:0<=rec/\rec<=3):uw 116 [di rec] (fun m s=>qp m s) (fun m s=>((aO m (ah.cur rec) s).2,aCI (aO m (ah.cur rec) s))):=by
 intro m s l F t;have M:=aBZ m s;dsimp only at t ⊢;have f:g_ rec:=by unfold g_;omega
 have w:=(pU hr (k:=0) a_).1;have u:=(pU hr (k:=1) a_).1;refine dM func116 rfl rfl rfl (fun A J K=>?_);obtain⟨R,z⟩:∃ R,aO m (ah.cur rec) s=R:=⟨_,rfl⟩;rw[z] at t ⊢;obtain⟨a,c,d⟩:∃ a c,aO m (ah.l_ (bF rec 0) 8 []) s=(a,c):=⟨_,_,rfl⟩;obtain⟨b,r,q⟩:∃ b r,aO m (ah.l_ (bF rec 1) 8 []) c=(b,r):=⟨_,_,rfl⟩;have B:R=(ut (o6 rec a) (o6 rec b),r):=by rw[<-z];unfold ah.cur;rw[dS,d,dS,q];rfl
 have n:r.i<=1000000:=by rw[B] at t;exact t
 have o:c.i<=1000000:=by have:=jL m (ah.l_ (bF rec 1) 8 []) c;rw[q] at this;exact mr this n
 have g:ru m c:=by have:=jH (ah.l_ (bF rec 0) 8 []) l (by rw[d];exact o);rw[d] at this;exact this
 have C:qp m c:=by have:=F.BF (iO m (ah.l_ (bF rec 0) 8 []) s);rw[d] at this;exact this
 have H:a.length<=8000000:=by have:=wQ (bF rec 0) 8 [] l (by rw[d];exact o);rw[d] at this;simpa using this
 have G:b.length<=8000000:=by have:=wQ (bF rec 1) 8 [] g (by rw[q];exact n);rw[q] at this;simpa using this
 rw[B];clear B z t R;refine aB ?_;refine aF ?_ ?_;simp;rw[d];exact⟨l,⟨w,F⟩,o⟩;refine aU (⟨[(0,none,d_ (.pt px 0 0)),(1,none,di rec),(7,none,l7 a)],[(px,none,0,.box 96 (qo m c))]⟩) ?_ ?_ ?_;refine .cons rfl (.cons rfl (.cons ?_ .nil));change l7 (aO m (ah.l_ (bF rec 0) 8 []) s).1=_;rw[d];refine .cons (.box ?_) .nil;change qo m (aO m (ah.l_ (bF rec 0) 8 []) s).2=_;rw[d];clear M;have M:=aBZ m c;refine aF ?_ ?_;simp;rw[q];exact⟨g,⟨u,C⟩,n⟩;refine aU (⟨[(0,none,d_ (.pt px 0 0)),(1,none,di rec),(7,none,l7 a),(8,none,l7 b)],[(px,none,0,.box 96 (qo m r))]⟩) ?_ ?_ ?_;refine .cons rfl (.cons rfl (.cons rfl (.cons ?_ .nil)));change l7 (aO m (ah.l_ (bF rec 1) 8 []) c).1=_;rw[q];refine .cons (.box ?_) .nil;change qo m (aO m (ah.l_ (bF rec 1) 8 []) c).2=_;rw[q];obtain⟨i,D,E,I,h⟩:=r;refine aG ?_;refine aB ?_;refine aI (fun p=>?_) (fun p=>?_)
 ·refine aB ?_;have j:E=true:=p;subst j;refine bT ?_
  all_goals rfl
 ·have j:E=false:=p;subst j;refine aJ ?_;refine aF ?_ ?_;simp;exact⟨f,by omega⟩;refine aF ?_ ?_;simp;exact⟨f,by omega⟩;refine aU (⟨[(9,none,di (o6 rec a).1),(10,none,jr (strOf (o6 rec a).2)),(11,none,di (o6 rec b).1),(12,none,jr (strOf (o6 rec b).2))],[(px,none,0,.box 96 (qo m ⟨i,D,false,I,h⟩))]⟩) ?_ ?_ ?_;rw[dY,dY];exact ig;exact o7;generalize o6 rec a=x;generalize o6 rec b=y;refine aG ?_;refine aB ?_;refine aI (fun p=>?_) (fun p=>?_)
  ·refine aB ?_;have h:x.1=0\/x.1<y.1:=by simp at p;omega
   have e:ut x y=(y,1):=by unfold ut;rw[if_pos h]
   rw[e];refine bT ?_
   all_goals rfl
  ·refine aJ ?_;refine aB ?_;have h:¬(x.1=0\/x.1<y.1):=by simp at p;omega
   have e:ut x y=(x,0):=by unfold ut;rw[if_neg h]
   rw[e];refine bT ?_
   all_goals rfl
def bNb:List PV->Option (BC×Ai)
 |[.w (.one (.lit (.int .i64 rec)))]=>some (fun m s=>(0<=rec/\rec<=3)/\qp m s,fun m s=>((aO m (ah.cur rec) s).2,aCI (aO m (ah.cur rec) s)))|_=>none
theorem aNl(m:iy)(s:h_):ai prog af 116 (dI 96 (uq m s bNb)):=
 eU (aC func116 aj rfl) (fun d C F h=>by
  unfold bNb at h;split at h;cases h;exact fun m s a b c=>aRy _ b.1 m s a b.2 c
  cases h)
def aCC(m:iy)(s:h_):List (Nat×Spec):=(116,dI 96 (uq m s bNb))::WA m s
theorem WB(m:iy)(s:h_):∀ p∈aCC m s,ai prog af p.1 p.2:=by intro p a;rcases List.mem_cons.1 a with rfl|a;exact aNl m s;exact Kt m s p a
theorem Qs(m:iy)(s:h_):jl prog af (find (aCC m s)):=⟨bD (WB m s),dG⟩
def xx(x:Ce×h_):Ce:=if x.2.stop then⟨aH,0,13⟩ else x.1
def WL(rec:Int):Ai:=fun m s=>((aO m (ah.load rec) s).2,ZT (xx (aO m (ah.load rec) s)))
theorem bAy(rec:Int)(hr:0<=rec/\rec<=3):uw 113 [di rec] (fun m s=>qp m s) (WL rec):=by
 intro m s n w g;have M:=Qs m s;unfold WL at g ⊢;dsimp only at g ⊢;have u:=(pU hr (k:=0) a_).1;have t:ah.load rec=(ah.cur rec).bind fun p=>.ret (uH p.1):=if_neg a_;rw[t,dS] at g ⊢;have o:(aO m (ah.cur rec) s).2.i<=1000000:=g;refine dM func113 rfl rfl rfl (fun A x y=>?_);refine aB ?_;refine aG ?_;refine aB ?_;refine aI (fun c=>?_) (fun c=>?_);have h:bF rec 0<0:=of_decide_eq_true c;omega;refine aJ ?_;refine aF ?_ ?_;simp;exact⟨n,⟨hr,w⟩,o⟩;obtain⟨q,b,f⟩:∃ q b,aO m (ah.cur rec) s=(q,b):=⟨_,_,rfl⟩;refine aU (⟨[(4,none,d_ (.pt 0 0 0)),(6,none,di (Af (q,b)).2.1),(7,none,jr (Af (q,b)).2.2)],[(px,none,0,.box 96 (qo m b)),(0,none,0,.box 164 [.lit (.string aH),.lit (.int .i64 0),.lit (.int .i64 0)])]⟩) ?_ ?_ ?_;refine .cons rfl (.cons ?_ (.cons ?_ .nil));change di (Af (aO m (ah.cur rec) s)).2.1=_;rw[f];change jr (Af (aO m (ah.cur rec) s)).2.2=_;rw[f];refine .cons (.box ?_) (.cons (.box rfl) .nil);change qo m (aO m (ah.cur rec) s).2=_;rw[f];rw[f];obtain⟨i,a,d,l,h⟩:=b;refine aG ?_;refine aB ?_;refine aI (fun c=>?_) (fun c=>?_)
 ·refine aB ?_;have j:(Af (q,⟨i,a,d,l,h⟩)).2.1=0:=by simpa using c
  have e:xx (uH q.1,⟨i,a,d,l,h⟩)=⟨aH,0,13⟩:=by
   cases d with
   |true=>rfl|false=>have r:q.1.1=0:=j;show uH q.1=_;unfold uH;rw[if_pos r]
  change lh _ _ _ _ _;simp only[aO];rw[e];refine bT ?_
  all_goals rfl
 ·refine aJ ?_;refine aB ?_;have j:¬(Af (q,⟨i,a,d,l,h⟩)).2.1=0:=by simpa using c
  cases d with
  |true=>exact absurd rfl j| false=>
   have r:¬q.1.1=0:=j;have e:xx (uH q.1,⟨i,a,false,l,h⟩)=⟨strOf q.1.2,q.1.1,0⟩:=by show uH q.1=_;unfold uH;rw[if_neg r]
   simp only[aO];rw[e];refine bT ?_
   all_goals rfl
def bMt:List PV->Option (BC×Ai)
 |[.w (.one (.lit (.int .i64 rec)))]=>some (fun m s=>(0<=rec/\rec<=3)/\qp m s,WL rec)|_=>none
theorem aTz(m:iy)(s:h_):ai prog af 113 (dI 96 (uq m s bMt)):=
 eU (aC func113 aj rfl) (fun d C F h=>by
  unfold bMt at h;split at h;cases h;exact fun m s a b c=>bAy _ b.1 m s a b.2 c
  cases h)
end Go.Proofs.YtndpjopifkbgiaaGreatDoor.Pv
