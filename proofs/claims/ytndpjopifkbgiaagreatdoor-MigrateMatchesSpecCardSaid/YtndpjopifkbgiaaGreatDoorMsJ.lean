/-
  Several texts in one file: each has its own heading below.
-/
import Derived.Test.YtndpjopifkbgiaaGreatDoorMsI
import Derived.Test.YtndpjopifkbgiaaGreatDoorMsC
import Derived.Great.BuildSlice
import Derived.Deep.RegionLaw
import Derived.Deep.Cut
import Derived.Test.YtndpjopifkbgiaaGreatDoorMsD
import Derived.Test.YtndpjopifkbgiaaGreatDoorMsA
import Derived.Test.YtndpjopifkbgiaaGreatDoorMsB
import Derived.Shelf.Strings.Repeat
import Derived.Shelf.Strings.Prefix
import Derived.Test.YtndpjopifkbgiaaGreatDoorProg
set_option maxRecDepth 100000
set_option maxHeartbeats 4000000
namespace Go.Proofs.YtndpjopifkbgiaaGreatDoor
open Go.RowKit Tryz
open _root_.Nat renaming mod_eq_of_lt->Yq,beq->bz,pow_succ->aEB,min_eq_left->aBo,div_lt_iff_lt_mul->aGi,lt_or_eq_of_le->aEF,le_of_lt_succ->aGB,and_two_pow_sub_one_eq_mod->aFM,zero_mul->aDe,sub_self->YB,lt_or_ge->Y6
open _root_.List renaming length_take->uk,getD_cons_succ->aEU,drop_zero->YD,getD_cons_zero->aGA,mem_cons->xn,length_drop->AC,ext_getElem->YX,getElem?_append_left->YO,getElem_range->Yl,getElem?_take->xe,getElem?_drop->PR,not_mem_nil->Xq,length_cons->Lt,getElem_map->Yp,cons_append->We,range->yf
open _root_.Eq renaming trans->YJ,refl->YU
open _root_.Go.IntKind renaming wrap_i64->TC
open _root_.Int renaming toNat_natCast->MM,tmod_eq_emod_of_nonneg->aGM,emod_eq_of_lt->aEG
open _root_.Go renaming World->ae,Value->ag,Program->gp,TypeId->bu,callFunc->Xy
open _root_.Bool renaming and_eq_true->PP
namespace Pv
def iH:Bool->Int->ah Unit
 |true,_=>.ret ()|false,e=>.ask (uQ e) fun _=>.ret ()
def OC(P:gp)(I:ae->Prop)(T:bu)(f:Nat){a:Type}(p:ah a)(args:List PV)(val:a->PV):Prop:=∀ O l,OB O->ZI T O->ui P I f false [] O (some (l,(go O p l).2)) (fun h=>l <+: h/\h <+: (go O p l).2) args (val (go O p l).1)
def wZ(P:gp)(I:ae->Prop)(T:bu)(f:Nat)(t:bu)(cells:List PC){a:Type}(p:ah a)(args:List PV)(val:a->PV):Prop:=∀ O l,OB O->ZI T O->Xm P I f t cells cells O l (go O p l).2 (fun h=>l <+: h/\h <+: (go O p l).2) (.w (.one (.pt px 0 0))::args) (val (go O p l).1)
section
variable {P:gp} {I:ae->Prop}
def aWs(hist:(List Acc->Option jh)->List Acc->List PV->List Acc)(b:(List Acc->Option jh)->List Acc->List PV->Option (Prop×PV)):Spec:=fun _ c=>match F5 c with
 | some a=>.obj dx fun g d e=>jV g (match bz d 0,e with
  |true,.dev O dw l=>(match b O l a with
   |some (p,r)=>.need p (.need (∀ h,l <+: h->h <+: hist O l a->O h=none->dw h) (.upd dx 0 (.dev O dw (hist O l a)) (.ret r)))|none=>.fail)
  |_,_=>.fail)
 |none=>.fail
theorem bEe{f:Nat}{hist:(List Acc->Option jh)->List Acc->List PV->List Acc}{m:(List Acc->Option jh)->List Acc->List PV->Option (Prop×PV)}(H:∀ args w,(Xy f args).run P w=.ok (.enter f args) w)
  (hg:∀ O l k p r,m O l k=some (p,r)->p->ui P I f false [] O (some (l,hist O l k)) (fun h=>l <+: h/\h <+: hist O l k) k r):ai P I f (aWs hist m):=by
 refine⟨H,fun A s a w t nm Q Z F h g hv c=>?_⟩;unfold aWs at c;cases T:F5 Q with
 |none=>rw[T] at c;exact c.elim| some k=>
  rw[T] at c;obtain⟨gd,vr,ob,G,c⟩:=c;have X:=eG c;clear c;obtain⟨E,c⟩:=X
  cases J:bz vr 0<;>cases ob<;>simp only[J] at c<;>try exact c.elim
  rename_i O dw l;obtain rfl:=iq J;cases U:m O l k with
  |none=>rw[U] at c;exact c.elim| some q=>
   obtain⟨p,r⟩:=q;rw[U] at c;obtain⟨V,z,_,hF⟩:=c;obtain⟨hO,y,D⟩:=h.dev gd 0 O dw l G E;subst hO y;have i:∀ b,SX [] (fun _=>0) A.dv b->A.dv.S b:=by rintro b (h|⟨o,C,rfl⟩);exact h;cases C
   refine (hg A.dv.O l k p r U V w (aT A w t).ok Z (fun _=>0) A.dv (ownB A t)
    (fun L x=>g.mem L (h.gy.trans' x (fun _ _ h=>h) (fun b _ d=>g.sub b (i b d))))
    (
     fun b d=>by
     have j:=g.old b (g.sub b (i b d));refine⟨Nat.lt_of_lt_of_le j.1 h.gy.size,fun W=>?_⟩;rcases W.1 with n|n;exact j.2 n
     omega)
    (g.step.mono fun K j n=>z K j.1 j.2 n) g.Bo rfl (fun p V=>by cases V;exact D) (fun h=>by cases h) (fun o C=>by cases C) (fun o C=>by cases C)
    (aBn aHf T hv)).mono ?_
   rintro e L ⟨x,⟨N,rfl,B,_,Y⟩|⟨u,K,rfl,j,n,h3⟩⟩;obtain⟨h4,h5⟩:=h.asked (w':=L) G E g.sub (fun b d=>g.old b (g.sub b d)) (x.mono fun b _ d=>i b d) (Y _ rfl);exact .inl ⟨r,_,N,t,rfl,hF,h4,B.le (yQ h x.size)⟩;exact .inr ⟨u,rfl,K,z K j.1 j.2 n,n,g.Bo _ _ _ _ _ _ h3 (dm.refl _ _) (fun b d=>.inl d),h.gy.trans (x.mono fun b _ d=>g.sub b (i b d))⟩
def aLv(T:bu){d:Type}(a:List PV->Option (Prop×ah d×(d->PV))):Spec:=aWs (fun O l b=>match a b with|some (_,p,_)=>(go O p l).2|none=>l) (fun O l b=>match a b with|some (c,p,f)=>some (OB O/\ZI T O/\c,f (go O p l).1)|none=>none)
theorem aUr{f:Nat}{T:bu}{i:Type}{a:List PV->Option (Prop×ah i×(i->PV))}(d:∀ args w,(Xy f args).run P w=.ok (.enter f args) w)
  (k:∀ b c p v,a b=some (c,p,v)->c->OC P I T f p b v):ai P I f (aLv T a):=by
 refine bEe d (fun O l b p r e g=>?_);cases h:a b with
 |none=>rw[h] at e;cases e|some q=>obtain⟨c,j,v⟩:=q;rw[h] at e;cases e;exact k b _ j v h g.2.2 O l g.1 g.2.1
def jG(T t:bu){d:Type}(a:List PC->List PV->Option (Prop×ah d×(d->PV))):Spec:=aUt t (fun O k l b=>match a l b with|some (_,p,_)=>(go O p k).2|none=>k) (fun O k l b=>match a l b with|some (c,p,f)=>some (OB O/\ZI T O/\c,f (go O p k).1)|none=>none)
theorem kU{f:Nat}{T t:bu}{i:Type}{a:List PC->List PV->Option (Prop×ah i×(i->PV))}(d:∀ args w,(Xy f args).run P w=.ok (.enter f args) w)
  (m:∀ l b c p v,a l b=some (c,p,v)->c->wZ P I T f t l p b v):ai P I f (jG T t a):=by
 refine bBt d (fun O k l b p r e g=>?_);cases h:a l b with
 |none=>rw[h] at e;cases e|some q=>obtain⟨c,j,v⟩:=q;rw[h] at e;cases e;exact m l b _ j v h g.2.2 O k g.1 g.2.1
end
end Pv
section
section
variable {w w':ae} {v:ag} {ds:List (List UInt8)}
end
section
variable {P:gp}
end
end
theorem af.lt{w:ae}(h:af w):2<w.heap.size/\0<w.heap.size:=⟨lt_of_cell (h.k 0 _ rfl),lt_of_cell (h.h 0 _ rfl)⟩
theorem af.past{w0 w w':ae}{B:Nat}(h0:af w0)(a:w0.heap.size<=B)(h:af w)(hc:dm (fun k=>B<=k) w w'):af w':=h.gy hc (by have:=h0.lt;omega) (by have:=h0.lt;omega)
theorem aBI(fn:Fn)(first cap:Array ag)(w:ae):(Instr.makeFunc fn first cap).run prog w=.ok (.func fn first cap) w:=rfl



namespace Pv
theorem Fp:qj=gq:=rfl
theorem IC{C:Ctx}{k:Nat}{b:List UInt8}{cs:Array ag}(h:RL C [.bs k b] cs.toList):b.length=k/\cs=(b.map gq).toArray:=by obtain⟨d,c⟩:=h.ZH;exact⟨d,by apply Array.ext';simpa[Fp] using c⟩
theorem aOz{C:Ctx}{k:Nat}{b:List UInt8}{v:ag}(h:RV C (.w (.agg [.bs k b])) v):b.length=k/\v=.agg (b.map gq).toArray:=by
 cases h with
 | w h=>cases h with
  |agg h=>obtain⟨d,c⟩:=IC h;exact⟨d,by rw[c]⟩
theorem rV{C:Ctx}{b:List UInt8}{k:Nat}(h:b.length=k):RV C (.w (.agg [.bs k b])) (.agg (b.map gq).toArray):=.w (.agg (by simpa[Fp] using RL.cons (R.bs (C:=C) h) RL.nil))
def UU:Nat->(Nat->List PC)->(List (List UInt8)->M)->M
 |0,_,k=>k []|n+1,f,k=>UU n f fun l=>(match f n with
  |[c]=>Xc (d_ c) fun b=>k (l++[b])|_=>.fail)
def Fb(v:PV)(k:List (List UInt8)->M):M:=match v with
 | .w (.one (.ow x b n d len))=>.obj x fun g e h=>jV g (match bz b e,bz n 1,bz d 0,h with
  |true,true,true,.arr _ m c f=>(match bz n m,bz len c with
   |true,true=>UU len f k|_,_=>.fail)
  |_,_,_,_=>.fail)
 |.w (.one (.lit (.slice none 0 0)))=>k []|_=>.fail
section
variable {A:n_} {s:St} {a:Act} {w:ae} {env:Env} {F:Option Bool->PV->Wr->Prop}
theorem bFd(h:gu A s a w env){vs:List ag}{f:Nat->List PC}:∀ {n:Nat} {k:List (List UInt8)->M},n<=vs.length->(∀ i,i<n->RL (aT A w env) (f i) ((vs.drop (i*1)).take 1))->(UU n f k).ok none s F ->
  ∃ g,g.length=n/\(∀ (i:Nat) (p:List UInt8),g[i]?=some p->∃ u,vs[i]?=some u/\Reads w 1 u p.length (p.map gq))/\(k g).ok none s F
 |0,k,_,_,d=>⟨[],rfl,fun i p b=>by simp at b,d⟩| n+1,k,D,r,d=>by
  obtain⟨g,x,C,d⟩:=bFd h (n:=n) a_ (fun i t=>r i a_) d;split at d;rename_i c m;have o:=r n a_;rw[m] at o
  have y:(vs.drop (n*1)).take 1=[vs[n]]:=by
   apply List.ext_getElem?;intro q;rw[xe,PR,Nat.mul_one];cases q with
   |zero=>rw[if_pos a_,Nat.add_zero,zH a_];rfl|succ q=>rw[if_neg a_];simp
  rw[y] at o;obtain⟨l,B,d⟩:=oQ h (.w (.one o.single)) d;refine⟨g++[l],by simp[x],fun i p b=>?_,d⟩;rcases Y6 i n with z|j;rw[YO a_] at b;exact C i p b;rw[List.getElem?_append_right a_] at b
  have t:i=n:=by rcases Nat.eq_or_lt_of_le j with e|e;exact e.symm;rw[List.getElem?_eq_none mg] at b;cases b
  subst t;rw[x,YB] at b;cases b;exact⟨vs[i],zH _,B⟩;exact d.elim
theorem aEn(h:gu A s a w env){v:PV}{val:ag}(I:RV (aT A w env) v val){k:List (List UInt8)->M}(b:(Fb v k).ok none s F):∃ q,Parts w val q/\(k q).ok none s F:=by
 unfold Fb at b;split at b
 ·rename_i x r n u len;obtain⟨g,N,O,C,b⟩:=b;have B:=eG b;clear b;obtain⟨P,b⟩:=B;obtain⟨T,D,y⟩:=kL h C P
  cases K:bz r N<;>cases p:bz n 1<;>cases o:bz u 0<;>cases O<;>simp only[K,p,o] at b<;>try exact b.elim
  rename_i e m t f;obtain rfl:=iq K;obtain rfl:=iq p;obtain rfl:=iq o
  cases l:bz 1 m<;>cases j:bz len t<;>simp only[l,j] at b<;>try exact b.elim
  obtain rfl:=iq l;obtain rfl:=iq j;obtain⟨X,H,V,rfl,J,rfl⟩:=I.zl D;obtain⟨G,c,E⟩:=y;have i:=Reads.yh c;have z:H=len:=by obtain⟨_,W,U,S,_⟩:=i;cases S;rfl
  subst z;have d:=nT (off:=0) (m:=H) a_ i;rw[aDe,YD,List.take_of_length_le (by rw[c.1];omega)] at d;obtain⟨q,L,Q,b⟩:=bFd h (vs:=G) (by rw[c.1];omega) E b;exact⟨q,⟨G,by rw[c.1,L];omega,by rw[L,aDe];exact d,Q⟩,b⟩
 have:=I.eu;subst this;exact⟨[],Parts.nil w,b⟩;exact b.elim
end
def g_(n:Int):Prop := -9223372036854775808<=n/\n<9223372036854775808
def UI:Spec:=fun b c=>match c with
 |[.w (.one (.lit (.int .i64 n)))]=>.need (g_ n) (.new b (.arr 5 1 (b_ n).length (m_ (b_ n))) fun v=>.ret (d_ (.ow b v 1 0 (b_ n).length)))|_=>.fail
def vT:Spec:=fun c d=>match d with
 |[.w (.one (.lit (.string b)))]=>.need (b.size<=1000000000) (.new c (.arr 5 1 (bI b.data.toList).length (m_ (bI b.data.toList))) fun v=>.ret (d_ (.ow c v 1 0 (bI b.data.toList).length)))|_=>.fail
def tH:Spec:=fun _ d=>match d with
 |[.w (.one (.lit (.int .i64 b))),e]=>Fb e fun c=>.need (c.length<=1000/\∀ p∈c,p.length<=10000) (.ret (.w (.agg [.bs 16 (lQ b c)])))|_=>.fail
def tJ:Spec:=fun _ e=>match e with
 |[k,.w (.one (.lit (.string b))),f]=>Xc k fun d=>Fb f fun c=>.need (d.length<=10000/\b.size<=10000/\c.length<=90/\∀ p∈c,p.length<=10000) (.ret (.w (.agg [.bs 16 (lS d b.data.toList c)])))|_=>.fail
def XZ:Spec:=fun _ e=>match e with
 |[k,b]=>Xc k fun c=>Xc b fun d=>.need (c.length<=1000000/\d.length<=1000000) (.ret (.w (.agg [.bs 16 (Ei c d)])))|_=>.fail
theorem LP:ai prog af 107 UI:=by
 refine⟨aC func107 aj rfl,fun A s a w env l k j F h y m b=>?_⟩;unfold UI at b;split at b;rotate_left;exact b.elim;rename_i n;obtain⟨g,b⟩:=b
 match j,m with
 |[v],⟨u,_⟩=>obtain rfl:=RV.eu (show RV _ _ _ from u);refine (xA n w g.1 g.2).mono ?_;rintro e x ⟨z,c,rfl,o,q⟩;obtain⟨d,t,r⟩:=h.AQ l 5 1 (b_ n).length (f:=m_ (b_ n)) q o (fun C i p=>oU C (b_ n) i p);exact .inl ⟨_,_,_,d,rfl,b,t,r⟩
theorem bGv:ai prog af 24 UI:=by
 refine⟨aC func24 aj rfl,fun A s a w env l k j F h y m b=>?_⟩;unfold UI at b;split at b;rotate_left;exact b.elim;rename_i n;obtain⟨g,b⟩:=b
 match j,m with
 |[v],⟨u,_⟩=>obtain rfl:=RV.eu (show RV _ _ _ from u);refine (aAm n w g.1 g.2).mono ?_;rintro e x ⟨z,c,rfl,o,q⟩;obtain⟨d,t,r⟩:=h.AQ l 5 1 (b_ n).length (f:=m_ (b_ n)) q o (fun C i p=>oU C (b_ n) i p);exact .inl ⟨_,_,_,d,rfl,b,t,r⟩
theorem aZo:ai prog af 145 vT:=by
 refine⟨aC func145 aj rfl,fun A s a w env l k j F h y m d=>?_⟩;unfold vT at d;split at d;rotate_left;exact d.elim;rename_i b;obtain⟨o,d⟩:=d
 match j,m with
 |[v],⟨u,_⟩=>obtain rfl:=RV.eu (show RV _ _ _ from u);refine (xB b w o).mono ?_;rintro e x ⟨z,c,rfl,n,q⟩;obtain⟨g,t,r⟩:=h.AQ l 5 1 (bI b.data.toList).length (f:=m_ (bI b.data.toList)) q n (fun C i p=>oU C _ i p);exact .inl ⟨_,_,_,g,rfl,d,t,r⟩
theorem aPn:ai prog af 39 vT:=by
 refine⟨aC func39 aj rfl,fun A s a w env l k j F h y m d=>?_⟩;unfold vT at d;split at d;rotate_left;exact d.elim;rename_i b;obtain⟨o,d⟩:=d
 match j,m with
 |[v],⟨u,_⟩=>obtain rfl:=RV.eu (show RV _ _ _ from u);refine (rY b w o).mono ?_;rintro e x ⟨z,c,rfl,n,q⟩;obtain⟨g,t,r⟩:=h.AQ l 5 1 (bI b.data.toList).length (f:=m_ (bI b.data.toList)) q n (fun C i p=>oU C _ i p);exact .inl ⟨_,_,_,g,rfl,d,t,r⟩
theorem aRu:ai prog af 176 tH:=by
 refine⟨aC func176 aj rfl,fun A s a w env t f d F h k i b=>?_⟩;unfold tH at b;split at b;rotate_left;exact b.elim;rename_i c r
 match d,i with
 |[v,pv],⟨n,m,_⟩=>obtain rfl:=RV.eu (show RV _ _ _ from n);obtain⟨g,j,b⟩:=aEn h m b;obtain⟨⟨p,o⟩,b⟩:=b;refine (bDg c g pv w (k.mem w h.gy) j p o).mono ?_;rintro e q ⟨rfl,l⟩;exact .inl ⟨_,[],_,env,rfl,b,h.ext l,rV (jB _ _)⟩
theorem bBh:ai prog af 156 tH:=by
 refine⟨aC func156 aj rfl,fun A s a w env r f d F h t i b=>?_⟩;unfold tH at b;split at b;rotate_left;exact b.elim;rename_i c q
 match d,i with
 |[v,pv],⟨m,l,_⟩=>obtain rfl:=RV.eu (show RV _ _ _ from m);obtain⟨g,j,b⟩:=aEn h l b;obtain⟨⟨o,n⟩,b⟩:=b;refine (aUe c g pv w  j o n).mono ?_;rintro e p ⟨rfl,k⟩;exact .inl ⟨_,[],_,env,rfl,b,h.ext k,rV (jB _ _)⟩
theorem aRv:ai prog af 106 tJ:=by
 refine⟨aC func106 aj rfl,fun A s a w env D g f F h o m c=>?_⟩;unfold tJ at c;split at c;rotate_left;exact c.elim;rename_i k b C
 match f,m with
 |[j,v,pv],⟨t,r,q,_⟩=>obtain rfl:=RV.eu (show RV _ _ _ from r);obtain⟨l,d,c⟩:=oQ h t c;obtain⟨i,n,c⟩:=aEn h q c;obtain⟨⟨z,y,x,u⟩,c⟩:=c;refine (aCj l j b i pv w (o.mem w h.gy) d z y n x u).mono ?_;rintro e B ⟨rfl,p⟩;exact .inl ⟨_,[],_,env,rfl,c,h.ext p,rV (fH _ _ _)⟩
theorem bBi:ai prog af 22 tJ:=by
 refine⟨aC func22 aj rfl,fun A s a w env C g f F h D m c=>?_⟩;unfold tJ at c;split at c;rotate_left;exact c.elim;rename_i k b B
 match f,m with
 |[j,v,pv],⟨r,q,p,_⟩=>obtain rfl:=RV.eu (show RV _ _ _ from q);obtain⟨l,d,c⟩:=oQ h r c;obtain⟨i,n,c⟩:=aEn h p c;obtain⟨⟨y,x,u,t⟩,c⟩:=c;refine (yR l j b i pv w  d y x n u t).mono ?_;rintro e z ⟨rfl,o⟩;exact .inl ⟨_,[],_,env,rfl,c,h.ext o,rV (fH _ _ _)⟩
theorem Jw:ai prog af 146 XZ:=by
 refine⟨aC func146 aj rfl,fun A s a w env z i g F h n m c=>?_⟩;unfold XZ at c;split at c;rotate_left;exact c.elim;rename_i k b
 match g,m with
 |[j,u],⟨q,p,_⟩=>obtain⟨l,d,c⟩:=oQ h q c;obtain⟨x,f,c⟩:=oQ h p c;obtain⟨⟨t,r⟩,c⟩:=c;refine (aVb l x j u w (n.mem w h.gy) d f t r).mono ?_;rintro e y ⟨rfl,o⟩;exact .inl ⟨_,[],_,env,rfl,c,h.ext o,rV (mY _ _)⟩
theorem PL:ai prog af 40 XZ:=by
 refine⟨aC func40 aj rfl,fun A s a w env y i g F h z m c=>?_⟩;unfold XZ at c;split at c;rotate_left;exact c.elim;rename_i k b
 match g,m with
 |[j,t],⟨p,o,_⟩=>obtain⟨l,d,c⟩:=oQ h p c;obtain⟨u,f,c⟩:=oQ h o c;obtain⟨⟨r,q⟩,c⟩:=c;refine (aLk l u j t w  d f r q).mono ?_;rintro e x ⟨rfl,n⟩;exact .inl ⟨_,[],_,env,rfl,c,h.ext n,rV (mY _ _)⟩
end Pv
namespace Pv
theorem bD{P:gp}{I:ae->Prop}{l:List (Nat×Spec)}(h:∀ p∈l,ai P I p.1 p.2):aHs P I (find l):=by
 intro f i a
 induction l with
 |nil=>cases a|cons p l d=>by_cases c:p.1=f;obtain⟨g,b⟩:=p;subst c;rw[aK] at a;cases a;exact h _ List.mem_cons_self;obtain⟨g,b⟩:=p;rw[aN _ _ c] at a;exact d (fun q e=>h q (List.mem_cons_of_mem _ e)) a
theorem dG:prog.follows .mixedOrders=true:=by kernel_rfl
theorem bK:∀ w a,Ext w a->af w->af a:=fun _ _ h b=>b.ext h
theorem mJ{a:Type} [Inhabited a] (n i:Nat) (g:Nat->a) (h:i<n) (d:a):((yf n).map g).getD i d=g i:=by rw[zG,List.getElem?_map,List.getElem?_range h];rfl
def DJ(l:List Int):Nat->List PC:=fun i=>[.lit (.int .i64 (l.getD i 0))]
def intOf:List PC->Int
 |[.lit (.int _ n)]=>n|_=>0
def isInt:List PC->Bool
 |[.lit (.int .i64 _)]=>true|_=>false
def UL(n:Nat)(f:Nat->List PC):List Int:=(yf n).map fun i=>intOf (f i)
def aNv(n:Nat)(f:Nat->List PC):Prop:=∀ i,i<n->isInt (f i)=true
theorem LM{l:List PC}(h:isInt l=true):l=[.lit (.int .i64 (intOf l))]:=by
 unfold isInt at h;split at h
 rfl;cases h
@[simp] theorem aAl(n:Nat)(f:Nat->List PC):(UL n f).length=n:=by simp[UL]
theorem LQ{n:Nat}{f:Nat->List PC}(h:aNv n f):∀ i,i<n->f i=DJ (UL n f) i:=fun i a=>by unfold DJ UL;rw[mJ n i _ a];exact LM (h i a)
@[simp] theorem OJ(n:Nat)(l:List Int):aNv n (DJ l):=fun _ _=>rfl
@[simp] theorem aTw(l:List Int):UL l.length (DJ l)=l:=by apply YX ay;intro i b a;simp only[UL,Yp,Yl,DJ,intOf];rw[zG,zH a];rfl
theorem R.A_{C:Ctx}{n len:Nat}{f b:Nat->List PC}{xs:List ag}(h:R C (.sl n len f) xs)(c:∀ i,i<len->f i=b i):R C (.sl n len b) xs:=by
 cases h with
 |sl g e d=>exact .sl g e (fun i a=>by rw[<-c i a];exact d i a)
theorem fP.args{P:gp}{I:ae->Prop}{f:Nat}{new:Bool}{args a:List PV}{c:PV}(h:fP P I f new a c)(e:∀ C b,oh C args b->oh C a b):fP P I f new args c:=fun w d b i g=>h w d b i (e _ b g)
theorem cO(k:Nat)(h:k<9223372036854775807):IntKind.i64.wrap ((k:Int)+1)=((k+1:Nat):Int):=by rw[TC];omega
theorem getD_mem{a:Type}{l:List a}{i:Nat}(h:i<l.length)(d:a):l.getD i d∈l:=by rw[zG,zH h];exact List.getElem_mem h
theorem aEb{l:List PC}(h:l.all (dJ false)=true):∀ x∈l,dJ false x=true:=fun x a=>List.all_eq_true.1 h x a
def Qe:List (Nat×Spec):=[(107,UI),(24,UI),(145,vT),(39,vT),(176,tH),(156,tH),
 (106,tJ),(22,tJ),(146,XZ),(40,XZ)
 ]
theorem KE:∀ p∈Qe,ai prog af p.1 p.2:=by intro p a;simp only[Qe,xn,Xq,or_false] at a;rcases a with rfl|rfl|rfl|rfl|rfl|rfl|rfl|rfl|rfl|rfl;exact LP;exact bGv;exact aZo;exact aPn;exact aRu;exact bBh;exact aRv;exact bBi;exact Jw;exact PL
theorem aKK:jl prog af (find Qe):=⟨bD KE,dG⟩
def bJm:List (Nat×Spec):=[(107,UI),(24,UI),(145,vT),(39,vT),(176,tH),(106,tJ),(146,XZ)]
theorem aVd:∀ p∈bJm,ai prog af p.1 p.2:=by intro p a;simp only[bJm,xn,Xq,or_false] at a;rcases a with rfl|rfl|rfl|rfl|rfl|rfl|rfl;exact LP;exact bGv;exact aZo;exact aPn;exact aRu;exact aRv;exact Jw
theorem U1:jl prog af (find bJm):=⟨bD aVd,dG⟩
theorem Fe{C:Ctx}{n:Nat}{k:List UInt8}{l:List PV}{vs:List ag}(h:oh C (.w (.agg [.bs n k])::l) vs):k.length=n:=by
 match vs,h with
 |v::vs,⟨h,_⟩=>exact (aOz h).1
end Pv
def term:Nat->List UInt8->Option Nat
 |0,_=>none|_+1,[]=>none|n+1,b::l=>if b.toNat<128 then some 0 else (term n l).map (·+1)
def lm:List UInt8->Nat
 |[]=>0|b::l=>b.toNat % 128+128*lm l
def nS(u:Nat):Int:=if u % 2=0 then ((u / 2:Nat):Int) else -((u / 2:Nat):Int)-1
def au(b:List UInt8):Int×Nat×Int:=match term 10 b with
 |none=>(0,0,if b.length<10 then 6 else 7)|some k=>if lm (b.take (k+1))<18446744073709551616/\(k=0\/b.getD k 0≠0) then (nS (lm (b.take (k+1))),k+1,0) else (0,0,7)
def O4:List UInt8->Prop
 |[]=>False|[b]=>b.toNat<128|b::l=>128<=b.toNat/\O4 l
def yJ:List UInt8->Prop
 |[]=>False|[b]=>b≠0|_::b::l=>yJ (b::l)
theorem bEn{u:Nat}:zig (nS u)=u:=by
 unfold zig nS
 split<;>split<;>omega
theorem aOl(n:Int):nS (zig n)=n:=by
 unfold zig nS
 split<;>split<;>omega
theorem yL{u:Nat}(h:u<18446744073709551616):-9223372036854775808<=nS u/\nS u<9223372036854775808:=by
 unfold nS
 split<;>omega
theorem kV{u:Nat}(h:u<256):(UInt8.ofNat u).toNat=u:=by simp;omega
theorem aOj:∀ (f u:Nat),u<128 ^ (f+1)->O4 (varint f u):=by
 intro f
 induction f with
 |zero=>intro u h;simp only[varint,O4];rw[kV (by omega)];omega| succ f e=>
  intro u h;by_cases c:u<128;rw[jZ c];simp only[O4];rw[kV (by omega)];exact c;rw[nR c];have a:=e (u / 128) (by rw[aGi (by omega)];rw[aEB] at h;exact h);cases d:varint f (u / 128) with
  |nil=>rw[d] at a;exact a.elim|cons b l=>rw[d] at a;refine⟨?_,a⟩;rw[kV (by omega)];omega
theorem aEo:∀ (f u:Nat),u<128 ^ (f+1)->lm (varint f u)=u:=by
 intro f
 induction f with
 |zero=>intro u h;simp only[varint,lm];rw[kV (by omega)];omega|succ f b=>intro u h;by_cases a:u<128;rw[jZ a];simp only[lm];rw[kV (by omega)];omega;rw[nR a];have c:=b (u / 128) (by rw[aGi (by omega)];rw[aEB] at h;exact h);simp only[lm];rw[c,kV (by omega)];omega
theorem aQc:∀ (f u:Nat),u<128 ^ (f+1)->u≠0->yJ (varint f u):=by
 intro f
 induction f with
 |zero=>intro u h d;simp only[varint,yJ];intro e;have:=congrArg UInt8.toNat e;rw[kV (by omega)] at this;exact d this|succ f j=>
  intro u h d;by_cases i:u<128;rw[jZ i];simp only[yJ];intro e;have:=congrArg UInt8.toNat e;rw[kV (by omega)] at this;exact d this;rw[nR i];have c:u / 128<128 ^ (f+1):=by rw[aGi (by omega)];rw[aEB] at h;exact h
  have a:=j (u / 128) c (by omega);cases g:varint f (u / 128) with
  |nil=>rw[g] at a;exact a.elim|cons b l=>rw[g] at a;exact a
theorem aWx:∀ (l:List UInt8),O4 l->yJ l->lm l≠0
 |[],h,_=>h.elim|[b],h,k=>by
  simp only[lm];have d:b.toNat<128:=h;intro e;have a:b.toNat=0:=by omega
  exact k (UInt8.toNat_inj.1 (by rw[a];rfl))
 |b::c::l,h,k=>by have:=aWx (c::l) h.2 k;rw[lm];omega
theorem aEl:∀ (f:Nat) (l:List UInt8),O4 l->(l.length=1\/yJ l)->l.length<=f+1->varint f (lm l)=l
 |_,[],h,_,_=>h.elim|f,[b],h,_,_=>by
  have i:b.toNat<128:=h;have e:lm [b]=b.toNat:=by simp only[lm];omega
  rw[e,jZ i];simp
 |0,b::c::l,_,_,hl=>by simp at hl| f+1,b::c::l,h,k,hl=>by
  have a:yJ (c::l):=by rcases k with k|k;simp at k;exact k
  have n:=aWx (c::l) h.2 a;have d:=aEl f (c::l) h.2 (.inr a) (by simpa using hl);have o:128<=b.toNat:=h.1;have g:=b.toNat_lt;have e:lm (b::c::l)=b.toNat % 128+128*lm (c::l):=rfl;rw[e,nR (by omega)];have m:(b.toNat % 128+128*lm (c::l)) % 128=b.toNat % 128:=by omega
  have j:(b.toNat % 128+128*lm (c::l)) / 128=lm (c::l):=by omega
  rw[m,j,d];congr 1;rw[show 128+b.toNat % 128=b.toNat from by omega];simp
theorem rQ:∀ (n:Nat) (b:List UInt8) (k:Nat),term n b=some k->O4 (b.take (k+1))/\k<n/\k<b.length
 |0,_,_,h=>by cases h|_+1,[],_,h=>by cases h| n+1,b::l,k,h=>by
  rw[term] at h;by_cases e:b.toNat<128;rw[if_pos e] at h;cases h;exact⟨by simpa[O4] using e,by omega,by simp⟩;rw[if_neg e] at h;cases d:term n l with
  |none=>rw[d] at h;cases h|some j=>
   rw[d] at h;cases h;obtain⟨a,i,g⟩:=rQ n l j d;refine⟨?_,(by show j+1<n+1;omega),(by show j+1<(b::l).length;simp;omega)⟩;rw[List.take_succ_cons];cases f:l.take (j+1) with
   |nil=>rw[f] at a;exact a.elim|cons c r=>rw[f] at a;exact⟨by omega,a⟩
theorem aAc:∀ (l r:List UInt8) (n:Nat),O4 l->l.length<=n->term n (l++r)=some (l.length-1)
 |[],_,_,h,_=>h.elim| [b],r,n,h,a=>by
  cases n with
  |zero=>simp at a|succ n=>have e:b.toNat<128:=h;simp[term,e]
 | b::c::l,r,n,h,a=>by
  cases n with
  |zero=>simp at a|succ n=>have f:128<=b.toNat:=h.1;have d:=aAc (c::l) r n h.2 (by simpa using a);rw[We,term,if_neg (by omega),d];simp
theorem uF:∀ (l:List UInt8) (k:Nat),l.length=k+1->(yJ l↔l.getD k 0≠0)
 |[],k,h=>by simp at h|[b],k,h=>by
  obtain rfl:k=0:=by simpa using h.symm
  simp[yJ]
 |b::c::l,0,h=>by simp at h|b::c::l,k+1,h=>by have:=uF (c::l) k (by simpa using h);rw[aEU];exact this
theorem getD_take{l:List UInt8}{k n:Nat}(h:k<n):(l.take n).getD k 0=l.getD k 0:=by rw[zG,zG,xe,if_pos h]
theorem aTa{l:List UInt8}{k:Nat}(h:O4 l)(c:l.length=k+1)(g:k<10):b_ (nS (lm l % 18446744073709551616))=l↔(lm l<18446744073709551616/\(k=0\/l.getD k 0≠0)):=by
 have b:lm l % 18446744073709551616<128 ^ (9+1):=by have:lm l % 18446744073709551616<18446744073709551616:=Nat.mod_lt _ (by omega);omega
 unfold b_;rw[bEn];constructor;intro e;have f:=aEo 9 _ b;rw[e] at f;refine⟨by omega,?_⟩;rcases Nat.eq_zero_or_pos k with a|a;exact .inl a;refine .inr ((uF l k c).1 ?_);rw[<-e];refine aQc 9 _ b (fun i=>?_);rw[i] at e;rw[<-e] at c;simp[varint] at c;omega
 rintro⟨f,d⟩;rw[Yq f];refine aEl 9 l h ?_ (by omega);rcases d with d|d;exact .inl (by omega);exact .inr ((uF l k c).2 d)
theorem aRf{b:List UInt8}{k:Nat}(h:term 10 b=some k):au b=if lm (b.take (k+1))<18446744073709551616/\(k=0\/b.getD k 0≠0) then (nS (lm (b.take (k+1))),k+1,0) else (0,0,7):=by unfold au;rw[h]
theorem aIo{n:Int}(h1:-9223372036854775808<=n)(h2:n<9223372036854775808):O4 (b_ n):=aOj 9 _ (by have:=Zd h1 h2;omega)
theorem aKv(n:Int)(h1:-9223372036854775808<=n)(h2:n<9223372036854775808):0<(b_ n).length:=by
 have:=aIo h1 h2;cases h:b_ n with
 |nil=>rw[h] at this;exact this.elim|cons b l=>simp
theorem iP{n:Int}(r:List UInt8)(h1:-9223372036854775808<=n)(h2:n<9223372036854775808):au (b_ n++r)=(n,(b_ n).length,0):=by
 have b:=aIo h1 h2;have g:=aP n;have i:=aKv n h1 h2;have f:=aAc (b_ n) r 10 b g;rw[aRf f];have e:(b_ n++r).take ((b_ n).length-1+1)=b_ n:=by rw[show (b_ n).length-1+1=(b_ n).length from by omega,List.take_left]
 have d:=Zd h1 h2;have c:lm (b_ n)=zig n:=aEo 9 _ (by omega);have a:=(aTa b (k:=(b_ n).length-1) (by omega) (by omega)).1 (by rw[c,Yq d,aOl]);have h:(b_ n++r).getD ((b_ n).length-1) 0=(b_ n).getD ((b_ n).length-1) 0:=by rw[zG,zG,YO (by omega)]
 rw[e,h,if_pos a,c,aOl];congr 2;omega
theorem bKv{b:List UInt8}{n:Int}{k:Nat}(h:au b=(n,k,0)):b.take k=b_ n/\0<k/\k<=10/\k<=b.length /\ -9223372036854775808<=n/\n<9223372036854775808:=by
 unfold au at h;split at h
 ·split at h<;>simp at h
 rename_i j e;split at h;rename_i c;simp only[Prod.mk.injEq,and_true] at h;obtain⟨rfl,rfl⟩:=h;obtain⟨g,m,i⟩:=rQ _ _ _ e;have f:(b.take (j+1)).length=j+1:=by rw[uk];omega
 have a:=c;rw[<-getD_take (l:=b) (show j<j+1 by omega)] at a;have:=(aTa g f (by omega)).2 a;rw[Yq c.1] at this;have d:=yL c.1;exact⟨this.symm,by omega,by omega,by omega,d.1,d.2⟩;simp at h
theorem bKw(b:List UInt8):(au b).2.2=0\/((au b).1=0/\(au b).2.1=0/\((au b).2.2=6\/(au b).2.2=7)):=by
 unfold au;split
 ·split<;>simp
 ·split<;>simp
theorem mV(b:List UInt8):(au b).2.1<=b.length/\(au b).2.1<=10:=by
 unfold au;split
 ·split<;>simp
 ·rename_i j a;obtain⟨_,d,c⟩:=rQ _ _ _ a
  split<;>simp<;>omega
theorem fJ(b:List UInt8):-9223372036854775808<=(au b).1/\(au b).1<9223372036854775808:=by
 unfold au;split
 ·split<;>simp
 split;rename_i h;exact yL h.1;simp
def gJ(b:List UInt8):List UInt8×Nat×Int:=
 if (au b).2.2≠0 then ([],0,(au b).2.2) else if (au b).1<0 then ([],0,7) else if (au b).1 > (b.length:Int)-(au b).2.1 then ([],0,6)
 else ((b.drop (au b).2.1).take (au b).1.toNat,(au b).2.1+(au b).1.toNat,0)
theorem kX(l r:List UInt8)(h:l.length<4611686018427387904):gJ (bI l++r)=(l,(bI l).length,0):=by
 unfold gJ bI;rw[List.append_assoc,iP (n:=(l.length:Int)) (l++r) (by omega) (by omega)];have a:¬((l.length:Int) > ((b_ (l.length:Int)++(l++r)).length:Int)-((b_ (l.length:Int)).length:Nat)):=by simp only[List.length_append];omega
 dsimp only;rw[if_neg (by simp),if_neg (by omega),if_neg a,List.drop_left];simp
theorem Ld{b c:List UInt8}{k:Nat}(h:gJ b=(c,k,0)):b.take k=bI c/\k<=b.length:=by
 unfold gJ at h;split at h;rename_i d;simp only[Prod.mk.injEq] at h;exact absurd h.2.2 d;rename_i d;split at h;simp at h;split at h;simp at h;rename_i n m;simp only[Prod.mk.injEq,and_true] at h;obtain⟨rfl,rfl⟩:=h
 have e:au b=((au b).1,(au b).2.1,0):=by
  have:(au b).2.2=0:=by simpa using d
  rw[<-this]
 obtain⟨f,l,j,i,_⟩:=bKv e;have g:(au b).1.toNat<=b.length-(au b).2.1:=by omega
 refine⟨?_,by omega⟩;unfold bI;have a:(((b.drop (au b).2.1).take (au b).1.toNat).length:Int)=(au b).1:=by rw[uk,AC];omega
 rw[a,<-f,List.take_add]
theorem bCr(b:List UInt8):(gJ b).2.2=0\/((gJ b).1=[]/\(gJ b).2.1=0/\((gJ b).2.2=6\/(gJ b).2.2=7)):=by
 unfold gJ;split;rename_i h;rcases bKw b with a|⟨_,_,a⟩;exact absurd a h;exact .inr ⟨rfl,rfl,a⟩
 ·split;simp
  ·split<;>simp
theorem aMw(b:List UInt8):(gJ b).2.1<=b.length:=by unfold gJ;have:=(mV b).1;split;simp;split;simp;split;simp;simp only;omega
theorem jW(b:List UInt8):(gJ b).1.length<=b.length:=by unfold gJ;split;simp;split;simp;split;simp;simp only[uk,AC];omega
theorem aTb(l m:List UInt8):lm (l++m)=lm l+128 ^ l.length*lm m:=by
 induction l with
 |nil=>simp[lm]|cons b l a=>simp only[We,lm,a,Lt,aEB];rw[Nat.mul_add,<-Nat.mul_assoc,Nat.mul_comm 128 (128 ^ l.length)];omega
theorem bFe(l:List UInt8):lm l<128 ^ l.length:=by
 induction l with
 |nil=>simp[lm]|cons b l a=>simp only[lm,Lt,aEB];omega
theorem aOk{L:List UInt8}{k:Nat}(h:k<L.length):lm (L.take (k+1))=lm (L.take k)+128 ^ k*((L.getD k 0).toNat % 128):=by rw[List.take_add_one,zH h,Option.toList_some,aTb,uk,aBo (by omega),zG,zH h];simp[lm]
theorem oJ(n:Nat):IntKind.u64.wrap (n:Int)=((n % 18446744073709551616:Nat):Int):=by rw[IntKind.wrap_u64];omega
theorem aAt(n:Nat):(BitVec.ofInt 64 (n:Int)).toNat=n % 18446744073709551616:=by simp
theorem J5{u a i:Nat}(h:u<2 ^ i):u ||| a*2 ^ i=u+a*2 ^ i:=by rw[Nat.or_comm,Nat.add_comm,<-Nat.shiftLeft_eq,Nat.shiftLeft_add_eq_or_of_lt h]
theorem XR(c:UInt8):IntKind.u8.wrap ↑(BitVec.ofInt IntKind.u8.bits (c.toNat:Int) &&& BitVec.ofInt IntKind.u8.bits 127).toNat=((c.toNat % 128:Nat):Int):=by have a:=c.toNat_lt;have:=u8_and (c.toNat:Int) 127 (by omega) (by omega) (by omega) (by omega);refine (show _=bits .and .u8 (c.toNat:Int) 127 from rfl).trans (this.trans ?_);rw[MM,show (127:Int).toNat=2 ^ 7-1 from rfl,aFM]
theorem Oz{k u:Nat}(c:UInt8)(o:k<=9)(f:u<128 ^ k) :
  IntKind.u64.wrap ↑(BitVec.ofInt IntKind.u64.bits (u:Int) ||| BitVec.ofInt IntKind.u64.bits (IntKind.u64.wrap (IntKind.u64.wrap (IntKind.u8.wrap ↑(BitVec.ofInt IntKind.u8.bits (c.toNat:Int) &&& BitVec.ofInt IntKind.u8.bits 127).toNat)*2 ^ min (IntKind.i64.wrap (7*(k:Int))).toNat IntKind.u64.bits))).toNat =
   (((u+128 ^ k*(c.toNat % 128)) % 18446744073709551616:Nat):Int):=by
 have m:(IntKind.i64.wrap (7*(k:Int))).toNat=7*k:=by clear f;rw[TC,aEG (by omega) (by omega)];omega
 have e:IntKind.u64.bits=64:=rfl;rw[XR,m,e,oJ (c.toNat % 128),Yq (show c.toNat % 128<18446744073709551616 by omega),aBo (show 7*k<=64 by omega)];have l:((c.toNat % 128:Nat):Int)*2 ^ (7*k)=((c.toNat % 128*2 ^ (7*k):Nat):Int):=by simp
 rw[l,oJ,oJ,BitVec.toNat_or,aAt,aAt];have n:c.toNat % 128<128:=by omega
 generalize c.toNat % 128=x at *;have d:k=0\/k=1\/k=2\/k=3\/k=4\/k=5\/k=6\/k=7\/k=8\/k=9:=by omega
 congr 1
 have b:∀ i a,u<2 ^ i->a*2 ^ i<18446744073709551616-u->x*2 ^ (7*k) % 18446744073709551616=a*2 ^ i->(u+128 ^ k*x) % 18446744073709551616=u+a*2 ^ i ->
   (u % 18446744073709551616 ||| x*2 ^ (7*k) % 18446744073709551616 % 18446744073709551616) % 18446744073709551616=(u+128 ^ k*x) % 18446744073709551616:=by
  intro i a j p h g;rw[g,Nat.mod_mod,h,Yq (show u<18446744073709551616 by omega),J5 j,Yq (by omega)]
 rcases d with rfl|rfl|rfl|rfl|rfl|rfl|rfl|rfl|rfl|rfl;exact b 0 x (by omega) (by omega) (by omega) (by omega);exact b 7 x (by omega) (by omega) (by omega) (by omega);exact b 14 x (by omega) (by omega) (by omega) (by omega);exact b 21 x (by omega) (by omega) (by omega) (by omega);exact b 28 x (by omega) (by omega) (by omega) (by omega);exact b 35 x (by omega) (by omega) (by omega) (by omega);exact b 42 x (by omega) (by omega) (by omega) (by omega);exact b 49 x (by omega) (by omega) (by omega) (by omega);exact b 56 x (by omega) (by omega) (by omega) (by omega);exact b 63 (x % 2) (by omega) (by omega) (by omega) (by omega)
theorem P7{u:Nat}(a:u<18446744073709551616):IntKind.i64.wrap ((u:Int).fdiv (2 ^ min (1:Int).toNat IntKind.u64.bits))=((u / 2:Nat):Int):=by
 rw[show (2:Int) ^ min (1:Int).toNat IntKind.u64.bits=2 from rfl,TC];have:(u:Int).fdiv 2=((u / 2:Nat):Int):=by rw[Int.fdiv_eq_ediv_of_nonneg _ (by omega)];omega
 rw[this];omega
theorem SV(u:Nat)(b:u<18446744073709551616):IntKind.u64.wrap ↑(BitVec.ofInt IntKind.u64.bits (u:Int) &&& BitVec.ofInt IntKind.u64.bits 1).toNat=((u % 2:Nat):Int):=by have a:IntKind.u64.bits=64:=rfl;rw[a,BitVec.toNat_and,aAt,show (1:Int)=((1:Nat):Int) from rfl,aAt,oJ,Yq b,show 1 % 18446744073709551616=2 ^ 1-1 from rfl,aFM];congr 1;omega
theorem Zo{n:Nat}(hn:n<9223372036854775808):IntKind.i64.wrap ↑(BitVec.ofInt IntKind.i64.bits (if IntKind.i64.signed=true then -1 else IntKind.i64.max) ^^^ BitVec.ofInt IntKind.i64.bits (n:Int)).toNat = -(n:Int)-1:=by have a:IntKind.i64.bits=64:=rfl;have b:(if IntKind.i64.signed=true then -1 else IntKind.i64.max:Int) = -1:=rfl;rw[b,a,show BitVec.ofInt 64 (-1)=BitVec.allOnes 64 from by decide,BitVec.allOnes_xor,BitVec.toNat_not,aAt,TC];omega
namespace Pv
abbrev l7(l:List UInt8):PV:=d_ (.sl 1 l.length (m_ l))
def xY(r:Int×Nat×Int):PV:=.lu [.one (.lit (.int .i64 r.1)),.one (.lit (.int .i64 (r.2.1:Int))),.one (.lit (.int .i64 r.2.2))]
def aCN(L:List UInt8)(k:Nat):St:=⟨[(0,none,l7 L),(5,none,o9 (.int .u64 ((lm (L.take k) % 18446744073709551616:Nat):Int))),(13,none,d_ (.sl 1 (min L.length 10) (m_ L))),(14,none,di ((min L.length 10:Nat):Int)),(15,none,di k)],[]⟩
def aCM(L:List UInt8)(k:Nat):St:=⟨[(0,none,l7 L),(5,none,o9 (.int .u64 ((lm (L.take (k+1)) % 18446744073709551616:Nat):Int))),(6,none,di k),(7,none,o9 (qj (L.getD k 0))),(13,none,d_ (.sl 1 (min L.length 10) (m_ L))),(14,none,di ((min L.length 10:Nat):Int)),(15,none,di k)],[]⟩
theorem dD{n:Int}(h1:-9223372036854775808<=n)(h2:n<9223372036854775808):IntKind.i64.wrap n=n:=by rw[TC,aEG a_ a_];omega
theorem vP:∀ (n:Nat) (L:List UInt8),(∀ i,i<min L.length n->128<=(L.getD i 0).toNat)->term n L=none
 |0,_,_=>rfl|_+1,[],_=>rfl| n+1,b::l,h=>by
  have a:=h 0 ay;rw[aGA] at a
  rw[term,if_neg a_,vP n l (fun i c=>by
   have:=h (i+1) mg
   rwa [aEU] at this)]
  rfl
theorem vO:∀ (n:Nat) (L:List UInt8) (k:Nat),(∀ i,i<k->128<=(L.getD i 0).toNat)->k<L.length->k<n->(L.getD k 0).toNat<128->term n L=some k
 |0,_,_,_,_,h,_=>by omega|_+1,[],_,_,h,_,_=>by simp at h|n+1,b::l,0,_,_,_,h=>by rw[aGA] at h;rw[term,if_pos h]| n+1,b::l,k+1,h,h1,h2,h3=>by
  have a:=h 0 a_;rw[aGA] at a;rw[aEU] at h3
  rw[term,if_neg a_,vO n l k (fun i c=>by
   have:=h (i+1) a_
   rwa [aEU] at this) (by simpa using h1) a_ h3]
  rfl
theorem aJr(L:List UInt8)(N:L.length<4611686018427387904):fP prog af 138 true [l7 L] (xY (au L)):=by
 have M:=U1;refine bH func138 rfl rfl bK (fun A K I O=>?_);refine aB ?_;refine aB ?_;refine aG ?_;refine aF ?_ ?_;simp;omega;refine aQ ?_;refine aU (aCN L 0) ?_ ?_ ?_;refine .cons rfl (.cons rfl (.cons ?_ (.cons ?_ (.cons rfl .nil))));have e:(min (L.length:Int) 10-0).toNat=min L.length 10:=by omega
 exact congrArg d_ (by rw[e];congr 1;funext i;simp);exact congrArg di a_;exact .nil;refine fF (min L.length 10) (fun k s=>s=aCN L k/\∀ i,i<k->128<=(L.getD i 0).toNat) 0 ⟨rfl,fun i x=>by omega⟩ a_ (fun k s G J=>?_);obtain⟨rfl,g⟩:=G;refine aB ?_;refine aG ?_;refine aI (fun b=>?_) (fun b=>?_)
 ·have j:k<L.length/\k<10:=by
   have:(k:Int)<((min L.length 10:Nat):Int):=by simpa using b
   omega
  refine aJ ?_;refine aG ?_;refine aQ ?_;refine aF ?_ ?_;simp;omega;refine aF ?_ ?_;simp;rw[dD a_ a_];omega;refine aU (aCM L k) ?_ ?_ ?_;refine .cons rfl (.cons ?_ (.cons rfl (.cons rfl (.cons rfl (.cons rfl (.cons rfl .nil))))));refine congrArg (fun n=>o9 (.int .u64 n)) ?_;have r:=bFe (L.take k);rw[uk,aBo a_] at r;have C:(128:Nat) ^ k<=128 ^ 9:=Nat.pow_le_pow_right a_ a_;rw[Yq (show lm (L.take k)<18446744073709551616 by omega),MM];refine (Oz _ a_ r).trans ?_;rw[aOk j.1];exact .nil;refine aG ?_;refine aB ?_;refine aI (fun b=>?_) (fun b=>?_);refine eP ?_;change lh _ _ _ _ _;refine gI ?_;intro a w F;refine⟨k+1,_,by omega,by omega,⟨rfl,?_⟩,(F.reset (kT:=[0,5,13,14,15]) (kO:=[]) f_ ay).same ?_ ?_⟩;intro i x;rcases aEF (aGB x) with h|rfl;exact g i h
  have:((L.getD i 0).toNat:Int)>=128:=by simpa using b
  omega;exact .cons rfl (.cons rfl (.cons rfl (.cons rfl (.cons (by rw[cO k a_]) .nil))));exact .nil
  ·have p:(L.getD k 0).toNat<128:=by
    have:¬((L.getD k 0).toNat:Int)>=128:=by simpa using b
    omega
   have t:=vO 10 L k g j.1 j.2 p;have l:=aRf t
   have f:lm (L.take (k+1))<18446744073709551616↔(k=9->(L.getD k 0).toNat<=1):=by
    have r:=bFe (L.take k);rw[uk,aBo a_] at r;rw[aOk j.1,Yq p];rcases Y6 k 9 with C|C
    ·have H:(128:Nat) ^ k<=128 ^ 8:=Nat.pow_le_pow_right a_ a_;have:128 ^ k*(L.getD k 0).toNat<=128 ^ 8*127:=Nat.mul_le_mul H a_
     constructor<;>intro<;>omega
    ·obtain rfl:k=9:=by omega
     constructor<;>intro<;>omega
   have z:(L.getD k 0=0)↔(L.getD k 0).toNat=0:=by rw[<-UInt8.toNat_inj];rfl
   refine aJ ?_;refine aG ?_;refine aF ?_ ?_;simp;generalize (L[k]?.getD 0).toNat=c;omega;refine aI (fun b=>?_) (fun b=>?_);have o:¬(lm (L.take (k+1))<18446744073709551616/\(k=0\/L.getD k 0≠0)):=by rw[f,ne_eq,z];simp only[Bool.cond_eq_ite,Bool.if_true_left,PP,Bool.or_eq_true,decide_eq_true_eq,beq_iff_eq,Bool.if_false_right] at b;omega
   refine aB ?_;refine bU ?_;rw[l,if_neg o];rfl;have d:lm (L.take (k+1))<18446744073709551616/\(k=0\/L.getD k 0≠0):=by rw[f,ne_eq,z];simp only[Bool.cond_eq_ite,Bool.if_true_left,Bool.and_eq_false_iff,Bool.or_eq_false_iff,decide_eq_false_iff_not,Bool.if_false_right] at b;simp only[PP,decide_eq_true_eq,beq_iff_eq] at b;omega
   have u:=Yq d.1;have m:=P7 d.1;have q:=SV _ d.1;refine aJ ?_;refine aB ?_;refine aG ?_;refine aB ?_;refine aI (fun b=>?_) (fun b=>?_);refine lU ?_;refine aB ?_;refine bU ?_;rw[u,q] at b;have D:=Zo (n:=lm (L.take (k+1)) / 2) a_
   have B:lm (L.take (k+1)) % 2=1:=by
    have:((lm (L.take (k+1)) % 2:Nat):Int)=1:=by simpa using b
    omega
   rw[l,if_pos d,u,m,D,cO k a_];unfold nS xY;rw[if_neg a_];refine aJ ?_;refine aB ?_;refine bU ?_;rw[u,q] at b
   have y:lm (L.take (k+1)) % 2=0:=by
    have:¬((lm (L.take (k+1)) % 2:Nat):Int)=1:=by simpa using b
    omega
   rw[l,if_pos d,u,m,cO k a_];unfold nS xY;rw[if_pos y]
 have E:k=min L.length 10:=by
  have:¬(k:Int)<((min L.length 10:Nat):Int):=by simpa using b
  omega
 have t:=vP 10 L (fun i x=>g i a_);refine eP ?_;change lh _ _ _ _ _;refine aG ?_;refine aB ?_;refine aI (fun b=>?_) (fun b=>?_);refine aB ?_;refine bU ?_;have:(L.length:Int)<10:=by simpa using b
 unfold au;rw[t];dsimp only;rw[if_pos a_];rfl;refine aJ ?_;refine aB ?_;refine bU ?_;have:¬(L.length:Int)<10:=by simpa using b
 unfold au;rw[t];dsimp only;rw[if_neg a_];rfl
theorem bNv{len:Nat}{f:Nat->List PC}(h:Ez len f):∀ i,i<len->f i=m_ (rowB len f) i:=fun i a=>by unfold m_ rowB;rw[mJ len i _ a];exact aQy (h i a)
theorem PK{C:Ctx}{len:Nat}{f:Nat->List PC}{x:ag}(h:Ez len f)(a:RV C (d_ (.sl 1 len f)) x):RV C (l7 (rowB len f)) x:=by refine .w (.one ?_);rw[dQ];exact (a.inv).A_ (bNv h)
theorem I9{C:Ctx}{x:ag}(a:RV C (d_ (.lit (.slice none 0 0))) x):RV C (l7 []) x:=by have:=a.eu;subst this;exact .w (.one (.sl (Reads.nil _ _) (fun g c=>by simp[Value.ownBlock] at c) (fun i b=>by simp at b)))
def vH:PV->Option (Prop×List UInt8)
 |.w (.one (.sl n len f))=>(match bz n 1 with
  |true=>some (Ez len f,rowB len f)|false=>none)
 |.w (.one (.lit (.slice none 0 0)))=>some (True,[])|_=>none
theorem qY{C:Ctx}{v:PV}{p:Prop}{l:List UInt8}{x:ag}(h:vH v=some (p,l))(c:p)(a:RV C v x):RV C (l7 l) x:=by
 unfold vH at h;split at h
 ·rename_i n len f
  cases b:bz n 1<;>rw[b] at h<;>cases h
  obtain rfl:=iq b;exact PK c a
 cases h;exact I9 a;cases h
def FN(pre:List UInt8->Prop)(a:List UInt8->PV):Spec:=aZ true fun b=>match b with
 |[v]=>(match vH v with
  |some (p,l)=>some (p/\pre l,a l)|none=>none)
 |_=>none
theorem oC{f:Nat}{pre:List UInt8->Prop}{b:List UInt8->PV}(c:∀ args w,(Xy f args).run prog w=.ok (.enter f args) w)(h:∀ l,pre l->fP prog af f true [l7 l] (b l)):ai prog af f (FN pre b):=by
 refine aW c (fun k p r a e=>?_);split at a;rename_i v;cases d:vH v with
 |none=>rw[d] at a;cases a| some q=>
  obtain⟨m,l⟩:=q;rw[d] at a;cases a
  exact (h l e.2).args fun C g i=>by
   match g,i with
   |[x],⟨j,_⟩=>exact⟨qY d e.1 j,trivial⟩
 cases a
def iM(l:List UInt8):Prop:=l.length<4611686018427387904
def Ar(l:List UInt8):Int×Nat×Int:=((au l).1,(au l).2.1,if (au l).2.2≠0 then (au l).2.2 else if (au l).1<0 then 7 else if (au l).1 > (l.length:Int)-(au l).2.1 then 6 else 0)
def Dh(r:List UInt8×Nat×Int):PV:=.lu [.one (.lit (.string (strOf r.1))),.one (.lit (.int .i64 (r.2.1:Int))),.one (.lit (.int .i64 r.2.2))]
theorem kQ{L:List UInt8}{k m:Nat}(h:k+m<=L.length):rowB m (fun i=>m_ L (k+i))=(L.drop k).take m:=by apply YX;rw[dQ,uk,AC];omega;intro i a b;rw[dQ] at a;simp only[rowB,Yp,Yl,aKf,List.getElem_take,List.getElem_drop];rw[zG,zH a_];rfl
theorem Nh(L:List UInt8)(k:Nat):(fun i=>m_ L (k+i))=m_ (L.drop k):=by funext i;unfold m_;rw[zG,zG,PR]
@[simp] theorem U8(n k:Nat)(L:List UInt8):Ez n (fun i=>m_ L (k+i)):=fun _ _=>aJq L _
def X9:List (Nat×Spec):=(138,FN iM fun l=>xY (au l))::bJm
theorem NL:∀ p∈X9,ai prog af p.1 p.2:=by intro p a;rcases List.mem_cons.1 a with rfl|a;exact oC (aC func138 aj rfl) aJr;exact aVd p a
theorem aLL:jl prog af (find X9):=⟨bD NL,dG⟩
theorem bNk(L:List UInt8)(h:iM L):fP prog af 168 true [l7 L,di 1] (xY (Ar L)):=by
 have M:=aLL;have j:=mV L;have i:=fJ L;have l:L.length<4611686018427387904:=h;refine bH func168 rfl rfl bK (fun A o m p=>?_);refine aB ?_;refine aF ?_ ?_;simp[h];refine aU (⟨[(0,none,l7 L),(1,none,di 1),(4,none,di (au L).1),(5,none,di ((au L).2.1:Int)),(6,none,di (au L).2.2)],[]⟩) ?_ ?_ ?_;rw[dY];exact ig;exact .nil;unfold Ar;generalize au L=g at *;obtain⟨n,k,e⟩:=g;dsimp only at *;refine aG ?_;refine aQ ?_;refine aB ?_;refine aI (fun a=>?_) (fun a=>?_);have f:e≠0:=by simpa using a
 refine aJ ?_;refine aB ?_;refine bU ?_;unfold xY;rw[if_pos f];have f:e=0:=by simpa using a
 subst f;refine aB ?_;refine aI (fun a=>?_) (fun a=>?_);have b:n<0:=by simpa using a
 refine lU ?_;refine aB ?_;refine bU ?_;unfold xY;rw[if_neg ay,if_pos b];have b:¬n<0:=by simpa using a
 refine aB ?_;refine aI (fun a=>?_) (fun a=>?_);have c:n > (L.length:Int)-k:=by have d:IntKind.i64.wrap ((L.length:Int)-k)=(L.length:Int)-k:=dD a_ a_;rw[d,Int.tdiv_one,d] at a;simpa using a
 refine lU ?_;refine aB ?_;refine bU ?_;unfold xY;rw[if_neg ay,if_neg b,if_pos c];have c:¬n > (L.length:Int)-k:=by have d:IntKind.i64.wrap ((L.length:Int)-k)=(L.length:Int)-k:=dD a_ a_;rw[d,Int.tdiv_one,d] at a;simpa using a
 refine aJ ?_;refine aB ?_;refine bU ?_;unfold xY;rw[if_neg ay,if_neg b,if_neg c]
def bFx:Spec:=aZ true fun a=>match a with
 |[v,.w (.one (.lit (.int .i64 1)))]=>(match vH v with
  |some (p,l)=>some (p/\iM l,xY (Ar l))|none=>none)
 |_=>none
theorem NS:ai prog af 168 bFx:=by
 refine aW (aC func168 aj rfl) (fun h p r a c=>?_);split at a;rename_i v;cases b:vH v with
 |none=>rw[b] at a;cases a| some q=>
  obtain⟨i,l⟩:=q;rw[b] at a;cases a
  exact (bNk l c.2).args fun C d e=>by
   match d,e with
   |[x,y],⟨g,f,_⟩=>exact⟨qY b c.1 g,f,trivial⟩
 cases a
def X8:List (Nat×Spec):=(168,bFx)::X9
theorem NK:∀ p∈X8,ai prog af p.1 p.2:=by intro p a;rcases List.mem_cons.1 a with rfl|a;exact NS;exact NL p a
theorem XA:jl prog af (find X8):=⟨bD NK,dG⟩
theorem aSf(L:List UInt8):(Ar L).2.2=0->(au L).2.2=0/\0<=(au L).1/\(au L).1<=(L.length:Int)-(au L).2.1:=by unfold Ar;dsimp only;split;rename_i h;intro a;exact absurd a h;rename_i h;split;intro a;cases a;split;intro a;cases a;intro _;exact⟨by simpa using h,by omega,by omega⟩
theorem aRg(L:List UInt8):gJ L=if (Ar L).2.2≠0 then ([],0,(Ar L).2.2) else ((L.drop (au L).2.1).take (au L).1.toNat,(au L).2.1+(au L).1.toNat,0):=by
 unfold gJ Ar;dsimp only;by_cases h:(au L).2.2=0;by_cases a:(au L).1<0;simp[h,a];by_cases b:(au L).1 > (L.length:Int)-(au L).2.1;have e:(if (au L).2.2≠0 then (au L).2.2 else if (au L).1<0 then (7:Int) else if (au L).1 > (L.length:Int)-(au L).2.1 then 6 else 0)=6:=by rw[if_neg (by simp[h]),if_neg a,if_pos b]
 rw[e,if_neg (by simp[h]),if_neg a,if_pos b,if_pos jc];have e:(if (au L).2.2≠0 then (au L).2.2 else if (au L).1<0 then (7:Int) else if (au L).1 > (L.length:Int)-(au L).2.1 then 6 else 0)=0:=by rw[if_neg (by simp[h]),if_neg a,if_neg b]
 rw[e,if_neg (by simp[h]),if_neg a,if_neg b,if_neg jc];rw[if_pos h,if_pos h,if_pos h]
theorem aCy(L:List UInt8)(d:iM L):fP prog af 139 true [l7 L] (Dh (gJ L)):=by
 have M:=XA;have l:=mV L;have h:=fJ L;have m:L.length<4611686018427387904:=d;refine bH func139 rfl rfl bK (fun A q p r=>?_);refine aB ?_;refine aF ?_ ?_;simp[d];refine aU (⟨[(0,none,l7 L),(5,none,di (au L).1),(6,none,di ((au L).2.1:Int)),(7,none,di (Ar L).2.2)],[]⟩) ?_ ?_ ?_;rw[dY];exact ig;exact .nil;have b:=aSf L;rw[aRg L];generalize (Ar L).2.2=e at *;generalize au L=g at *;obtain⟨n,k,s⟩:=g;dsimp only at *;refine aG ?_;refine aB ?_;refine aI (fun c=>?_) (fun c=>?_);have a:e≠0:=by simpa using c
 refine aB ?_;refine bU ?_;rw[if_pos a];rfl;have a:e=0:=by simpa using c
 subst a;obtain⟨_,j,i⟩:=b rfl;have f:IntKind.i64.wrap ((k:Int)+n)=((k+n.toNat:Nat):Int):=by rw[dD a_ a_];omega
 refine aJ ?_;refine aF ?_ ?_;simp;rw[f];omega;refine bU ?_;rw[if_neg ay,f];have o:(((k+n.toNat:Nat):Int)-(k:Int)).toNat=n.toNat:=by omega
 unfold Dh;rw[o,MM,kQ a_];rfl
def ku(L:List UInt8):Nat:=match term 10 L with
 |none=>0|some k=>k+1
def aBS(L:List UInt8)(k:Nat):St:=⟨[(0,none,l7 L),(3,none,di k)],[]⟩
theorem aUa(L:List UInt8)(_:iM L):fP prog af 181 true [l7 L] (di (ku L)):=by
 have M:=XA;refine bH func181 rfl rfl bK (fun A r p u=>?_);refine aB ?_;refine aG ?_;refine aB ?_;refine lV (aBS L 0) ?_;refine aQ ?_;refine fF (min L.length 10) (fun k s=>s=aBS L k/\∀ i,i<k->128<=(L.getD i 0).toNat) 0 ⟨rfl,fun i g=>by omega⟩ a_ (fun k s n q=>?_);obtain⟨rfl,b⟩:=n;refine aG ?_;refine aB ?_;refine aI (fun c=>?_) (fun c=>?_)
 have d:k<L.length/\k<10:=by
  have o:(k:Int)<(L.length:Int)/\(k:Int)<10:=by simpa using c
  omega
 refine aJ ?_;refine aG ?_;refine aQ ?_;refine aF ?_ ?_;simp;omega;refine aI (fun c=>?_) (fun c=>?_)
 have f:(L.getD k 0).toNat<128:=by
  have:((L.getD k 0).toNat:Int)<128:=by simpa using c
  omega
 have e:=vO 10 L k b d.1 d.2 f;refine aB ?_;refine bU ?_;unfold ku;rw[e,cO k a_]
 have j:128<=(L.getD k 0).toNat:=by
  have:¬((L.getD k 0).toNat:Int)<128:=by simpa using c
  omega
 refine aJ ?_;refine gI ?_;intro a w m;refine⟨k+1,_,by omega,by omega,⟨rfl,fun i g=>?_⟩,(m.reset (kT:=[0,3]) (kO:=[]) f_ ay).same ?_ ?_⟩;rcases aEF (aGB g) with h|rfl;exact b i h;exact j;exact .cons rfl (.cons (by rw[cO k a_]) .nil);exact .nil
 have l:k=min L.length 10:=by
  have o:¬((k:Int)<(L.length:Int)/\(k:Int)<10):=by simpa using c
  omega
 have e:=vP 10 L (fun i g=>b i a_);refine eP ?_;change lh _ _ _ _ _;refine aB ?_;refine bU ?_;unfold ku;rw[e];rfl
def Zy(X Y:List UInt8)(k:Nat):St:=⟨[(0,none,l7 X),(1,none,l7 Y),(5,none,di k)],[]⟩
theorem bDd{X Y:List UInt8}(hl:X.length=Y.length)(h:∀ i,i<X.length->X.getD i 0=Y.getD i 0):X=Y:=by apply YX hl;intro i a b;have:=h i a;rw[zG,zG,zH a,zH b] at this;exact this
theorem bGl(X Y:List UInt8)(p:iM X):fP prog af 182 true [l7 X,l7 Y] (qy (X==Y)):=by
 have M:=XA;have o:X.length<4611686018427387904:=p;refine bH func182 rfl rfl bK (fun A u r x=>?_);refine aB ?_;refine aG ?_;refine aB ?_;refine aI (fun b=>?_) (fun b=>?_)
 have c:X≠Y:=by
  have:¬(X.length:Int)=Y.length:=by simpa using b
  intro e;subst e;exact this rfl
 refine aB ?_;refine bU ?_;rw[beq_eq_false_iff_ne.2 c]
 have j:X.length=Y.length:=by
  have:(X.length:Int)=Y.length:=by simpa using b
  omega
 refine aJ ?_;refine aG ?_;refine aB ?_;refine lV (Zy X Y 0) ?_;refine aQ ?_;refine fF X.length (fun k s=>s=Zy X Y k/\∀ i,i<k->X.getD i 0=Y.getD i 0) 0 ⟨rfl,fun i f=>by omega⟩ a_ (fun k s q t=>?_);obtain⟨rfl,d⟩:=q;refine aG ?_;refine aB ?_;refine aI (fun b=>?_) (fun b=>?_);have m:k<X.length:=by simpa using b
 refine aJ ?_;refine aG ?_;refine aQ ?_;refine aF ?_ ?_;simp;omega;refine aI (fun b=>?_) (fun b=>?_);have c:X≠Y:=by intro e;subst e;simp at b
 refine aB ?_;refine bU ?_;rw[beq_eq_false_iff_ne.2 c]
 have g:X.getD k 0=Y.getD k 0:=by
  have:((X.getD k 0).toNat:Int)=(Y.getD k 0).toNat:=by simpa using b
  exact UInt8.toNat_inj.1 a_
 refine aJ ?_;refine gI ?_;intro a w n;refine⟨k+1,_,by omega,by omega,⟨rfl,fun i f=>?_⟩,(n.reset (kT:=[0,1,5]) (kO:=[]) f_ ay).same ?_ ?_⟩;rcases aEF (aGB f) with h|rfl;exact d i h;exact g;exact .cons rfl (.cons rfl (.cons (by rw[cO k a_]) .nil));exact .nil
 have l:k=X.length:=by
  have:¬k<X.length:=by simpa using b
  omega
 have g:=bDd j (fun i f=>d i a_);refine eP ?_;change lh _ _ _ _ _;refine aB ?_;refine bU ?_;subst g;simp
def GX:Spec:=aZ true fun a=>match a with
 |[v,u]=>(match vH v,vH u with
  |some (p,l),some (q,m)=>some (p/\q/\iM l,qy (l==m))|_,_=>none)
 |_=>none
theorem I5:ai prog af 182 GX:=by
 refine aW (aC func182 aj rfl) (fun i p r b c=>?_);split at b
 ·rename_i v u
  cases d:vH v<;>cases a:vH u<;>simp only[d,a] at b<;>try (cases b;done)
  cases b
  exact (bGl _ _ c.2.2).args fun C e f=>by
   match e,f with
   |[x,y],⟨h,g,_⟩=>exact⟨qY d c.1 h,qY a c.2.1 g,trivial⟩
 cases b
def Rx:List (Nat×Spec):=(181,FN iM fun l=>di (ku l))::(182,GX)::X8
theorem NJ:∀ p∈Rx,ai prog af p.1 p.2:=by intro p a;simp only[Rx,xn] at a;rcases a with rfl|rfl|a;exact oC (aC func181 aj rfl) aUa;exact I5;exact NK p a
theorem aLK:jl prog af (find Rx):=⟨bD NJ,dG⟩
theorem Qm(L:List UInt8):ku L<=L.length/\ku L<=10:=by
 unfold ku;cases h:term 10 L with
 |none=>simp|some k=>obtain⟨_,b,a⟩:=rQ _ _ _ h;dsimp only;omega
theorem aYu(L:List UInt8):au L=if ku L=0 then (0,0,if L.length<10 then 6 else 7) else if b_ (nS (lm (L.take (ku L)) % 18446744073709551616))=L.take (ku L) then (nS (lm (L.take (ku L)) % 18446744073709551616),ku L,0) else (0,0,7):=by
 unfold au ku;cases h:term 10 L with
 |none=>rfl|some k=>
  obtain⟨f,d,g⟩:=rQ _ _ _ h;dsimp only;rw[if_neg (show ¬k+1=0 by omega)];have c:(L.take (k+1)).length=k+1:=by rw[uk];omega
  have a:=aTa f c d;rw[getD_take a_] at a;by_cases b:lm (L.take (k+1))<18446744073709551616/\(k=0\/L.getD k 0≠0);rw[if_pos b,if_pos (a.2 b),Yq b.1];rw[if_neg b,if_neg (fun e=>b (a.1 e))]
theorem Fv(u c:Nat):IntKind.u64.wrap (IntKind.u64.wrap (128*(u:Int))+IntKind.u64.wrap ((c:Int).tmod 128))=(((c % 128+128*u) % 18446744073709551616:Nat):Int):=by
 have e:(c:Int).tmod 128=((c % 128:Nat):Int):=by rw[aGM a_];omega
 rw[e,show (128:Int)*(u:Int)=((128*u:Nat):Int) from by omega,oJ,oJ,<-Int.natCast_add,oJ];congr 1;omega
theorem bFf{l:List UInt8}{k:Nat}(h:k<l.length):lm (l.drop k)=(l.getD k 0).toNat % 128+128*lm (l.drop (k+1)):=by rw[List.drop_eq_getElem_cons h,zG,zH h];rfl
def Dn(L:List UInt8)(r:Nat):Nat:=lm ((L.take (ku L)).drop (ku L-r)) % 18446744073709551616
def aAP(L:List UInt8)(r:Nat):St:=⟨[(0,none,l7 L),(5,none,di (ku L)),(6,none,o9 (.int .u64 (Dn L r:Int))),(7,none,di ((ku L:Int)-1-r))],[]⟩
theorem aFd(L:List UInt8)(C:iM L):fP prog af 151 true [l7 L] (xY (au L)):=by
 have M:=aLK;have O:L.length<4611686018427387904:=C;have F:=Qm L;refine bH func151 rfl rfl bK (fun A V E Q=>?_);refine aB ?_;refine aF ?_ ?_;simp[C];refine aU (⟨[(0,none,l7 L),(5,none,di (ku L))],[]⟩) ?_ ?_ ?_;rw[dY];exact ig;exact .nil;refine aG ?_;refine aB ?_;refine aI (fun b=>?_) (fun b=>?_)
 have t:ku L=0/\L.length<10:=by
  have:((ku L:Nat):Int)=0/\(L.length:Int)<10:=by simpa using b
  omega
 refine aB ?_;refine bU ?_;rw[aYu,if_pos t.1,if_pos t.2];rfl;have t:¬(ku L=0/\L.length<10):=by intro h;simp[h.1] at b;omega
 refine aJ ?_;refine aB ?_;refine aG ?_;refine aB ?_;refine aU (aAP L 0) ?_ ?_ ?_;refine .cons rfl (.cons rfl (.cons ?_ (.cons ?_ .nil)));unfold Dn;rw[Nat.sub_zero,List.drop_of_length_le (by rw[uk];omega)];rfl;exact congrArg di (by rw[dD a_ a_];omega);exact .nil;refine aQ ?_;refine fF (ku L) (fun k s=>s=aAP L k) 0 rfl a_ (fun k s P S=>?_);subst P;refine aG ?_;refine aB ?_;refine aI (fun b=>?_) (fun b=>?_)
 have G:k<ku L:=by
  have:((ku L:Nat):Int)-1-k>=0:=by simpa using b
  omega
 refine aJ ?_;refine aG ?_;refine aQ ?_;refine bC M Q E (by rfl) (by kernel_rfl) ?_ ?_;simp;omega;change lh _ _ _ _ _;refine gI ?_;intro a w J;refine⟨k+1,_,by omega,by omega,rfl,(J.reset (kT:=[0,5,6,7]) (kO:=[]) f_ ay).same ?_ ?_⟩;refine .cons rfl (.cons rfl (.cons ?_ (.cons ?_ .nil)));refine congrArg (fun n=>o9 (.int .u64 n)) ?_;rw[show ((ku L:Nat):Int)-1-k=((ku L-1-k:Nat):Int) from by omega,MM,Fv];unfold Dn;have c:=bFf (l:=L.take (ku L)) (k:=ku L-1-k) (by rw[uk];omega);rw[getD_take a_,show ku L-1-k+1=ku L-k from by omega] at c;rw[show ku L-(k+1)=ku L-1-k from by omega,c];congr 1;omega;exact congrArg di (by rw[dD a_ a_];omega);exact .nil
 have z:k=ku L:=by
  have:¬((ku L:Nat):Int)-1-k>=0:=by simpa using b
  omega
 subst z;have D:Dn L (ku L)=lm (L.take (ku L)) % 18446744073709551616:=by unfold Dn;rw[YB,YD]
 have y:Dn L (ku L)<18446744073709551616:=Nat.mod_lt _ a_;have p:=yL y;refine eP ?_;change lh _ _ _ _ _;refine aB ?_
 have I:IntKind.i64.wrap (IntKind.u64.wrap (((Dn L (ku L):Nat):Int).tdiv 2))=((Dn L (ku L) / 2:Nat):Int):=by
  have e:((Dn L (ku L):Nat):Int).tdiv 2=((Dn L (ku L) / 2:Nat):Int):=by rw[Int.tdiv_eq_ediv_of_nonneg a_];omega
  rw[e,oJ,Yq a_,dD a_ a_]
 refine aU (⟨[(0,none,l7 L),(5,none,di (ku L)),(6,none,o9 (.int .u64 (Dn L (ku L):Int))),(8,none,di ((Dn L (ku L) / 2:Nat):Int))],[]⟩) ?_ ?_ ?_;exact .cons rfl (.cons rfl (.cons rfl (.cons (congrArg di I) .nil)));exact .nil;have q:((Dn L (ku L):Nat):Int).tmod 2=((Dn L (ku L) % 2:Nat):Int):=by rw[aGM a_];omega
 have d:=aYu L;rw[<-D] at d;generalize T:Dn L (ku L)=U at *;have r:g_ (nS U):=p;have N:=aP (nS U);have g:(rowB (b_ (nS U)).length fun i=>m_ (b_ (nS U)) (0+i))=b_ (nS U):=by rw[kQ a_,YD,List.take_length]
 have f:(rowB (((ku L:Nat):Int)-0).toNat fun i=>m_ L (Int.toNat 0+i))=L.take (ku L):=by rw[show (((ku L:Nat):Int)-0).toNat=ku L from by omega];exact (kQ (L:=L) (k:=0) (m:=ku L) a_).trans (by rw[YD])
 refine aG ?_;refine aB ?_;refine aI (fun b=>?_) (fun b=>?_)
 have o:IntKind.i64.wrap (IntKind.i64.wrap (0-((U / 2:Nat):Int))-1)=nS U:=by
  rw[q] at b;have B:((U % 2:Nat):Int)=1:=by simpa using b
  have e:IntKind.i64.wrap (0-((U / 2:Nat):Int))=0-((U / 2:Nat):Int):=dD a_ a_;rw[e,dD a_ a_];unfold nS;rw[if_neg a_];omega
 refine lU ?_;refine aU (⟨[(0,none,l7 L),(5,none,di (ku L)),(8,none,di (nS U))],[]⟩) ?_ ?_ ?_;exact .cons rfl (.cons rfl (.cons (congrArg di o) .nil));exact .nil;refine aG ?_;refine aF ?_ ?_;simp[r];exact⟨fun _=>by omega,fun _ i H x u=>aEb (show (m_ _ i).all (dJ false)=true from rfl) x u,fun _=>by unfold iM;omega⟩;refine aI (fun b=>?_) (fun b=>?_);rw[g,f] at b;have j:au L=(0,0,7):=by rw[d];by_cases c:ku L=0;rw[if_pos c,if_neg (fun h=>t ⟨c,h⟩)];rw[if_neg c,if_neg];intro e;rw[e] at b;simp[c] at b
 refine aB ?_;refine bU ?_;rw[j];rfl;rw[g,f] at b;have j:ku L≠0/\b_ (nS U)=L.take (ku L):=by by_cases c:ku L=0;simp[c] at b;refine⟨c,?_⟩;simp[c] at b;exact b
 refine aJ ?_;refine aB ?_;refine bU ?_;rw[d,if_neg j.1,if_pos j.2];rfl
 have o:((U / 2:Nat):Int)=nS U:=by
  rw[q] at b;have K:¬((U % 2:Nat):Int)=1:=by simpa using b
  unfold nS;rw[if_pos a_]
 refine aJ ?_;refine aU (⟨[(0,none,l7 L),(5,none,di (ku L)),(8,none,di (nS U))],[]⟩) ?_ ?_ ?_;exact .cons rfl (.cons rfl (.cons (congrArg di o) .nil));exact .nil;refine aG ?_;refine aF ?_ ?_;simp[r];exact⟨fun _=>by omega,fun _ i H x u=>aEb (show (m_ _ i).all (dJ false)=true from rfl) x u,fun _=>by unfold iM;omega⟩;refine aI (fun b=>?_) (fun b=>?_);rw[g,f] at b;have j:au L=(0,0,7):=by rw[d];by_cases c:ku L=0;rw[if_pos c,if_neg (fun h=>t ⟨c,h⟩)];rw[if_neg c,if_neg];intro e;rw[e] at b;simp[c] at b
 refine aB ?_;refine bU ?_;rw[j];rfl;rw[g,f] at b;have j:ku L≠0/\b_ (nS U)=L.take (ku L):=by by_cases c:ku L=0;simp[c] at b;refine⟨c,?_⟩;simp[c] at b;exact b
 refine aJ ?_;refine aB ?_;refine bU ?_;rw[d,if_neg j.1,if_pos j.2];rfl
def Rw:List (Nat×Spec):=(151,FN iM fun l=>xY (au l))::(139,FN iM fun l=>Dh (gJ l))::Rx
theorem NI:∀ p∈Rw,ai prog af p.1 p.2:=by intro p a;simp only[Rw,xn] at a;rcases a with rfl|rfl|a;exact oC (aC func151 aj rfl) aFd;exact oC (aC func139 aj rfl) aCy;exact NJ p a
theorem aLJ:jl prog af (find Rw):=⟨bD NI,dG⟩
def XY(L:List UInt8):Int×Nat×Int:=if (Ar L).2.2=0 then ((au L).1,(au L).2.1,0) else (0,0,(Ar L).2.2)
theorem bBk(L:List UInt8)(i:iM L):fP prog af 183 true [l7 L,di 1] (xY (XY L)):=by
 have M:=aLJ;have o:=mV L;have m:=fJ L;have p:L.length<4611686018427387904:=i;refine bH func183 rfl rfl bK (fun A r q s=>?_);refine aB ?_;refine aF ?_ ?_;simp[i];refine aU (⟨[(0,none,l7 L),(1,none,di 1),(7,none,di (au L).1),(8,none,di ((au L).2.1:Int)),(9,none,di (au L).2.2)],[]⟩) ?_ ?_ ?_;rw[dY];exact ig;exact .nil;unfold XY Ar;generalize au L=g at *;obtain⟨n,k,e⟩:=g;dsimp only at *;refine aG ?_;refine aB ?_;refine aI (fun a=>?_) (fun a=>?_);have f:e≠0:=by simpa using a
 refine aB ?_;refine bU ?_;rw[if_pos f,if_neg f];rfl;have f:e=0:=by simpa using a
 subst f;refine aJ ?_;refine aG ?_;refine aB ?_;refine aI (fun a=>?_) (fun a=>?_);have b:n<0:=by simpa using a
 refine aB ?_;refine bU ?_;have d:(if (0:Int)≠0 then (0:Int) else if n<0 then (7:Int) else if n > (L.length:Int)-k then 6 else 0)=7:=by rw[if_neg ay,if_pos b]
 rw[d];rfl;have b:¬n<0:=by simpa using a
 refine aJ ?_;refine aG ?_;refine aB ?_;have l:IntKind.i64.wrap ((L.length:Int)-k)=(L.length:Int)-k:=dD a_ a_;have j:IntKind.i64.wrap (n*1)=n:=by rw[Int.mul_one];exact dD a_ a_
 refine aI (fun a=>?_) (fun a=>?_);rw[l,j] at a
 have c:n > (L.length:Int)-k:=by
  by_cases h:(L.length:Int)<n
  omega;simp[h] at a;exact a
 refine aB ?_;refine bU ?_;have d:(if (0:Int)≠0 then (0:Int) else if n<0 then (7:Int) else if n > (L.length:Int)-k then 6 else 0)=6:=by rw[if_neg ay,if_neg b,if_pos c]
 rw[d];rfl;rw[l,j] at a;have c:¬n > (L.length:Int)-k:=by by_cases h:(L.length:Int)<n;simp[h] at a;simp[h] at a;omega
 refine aJ ?_;refine aB ?_;refine bU ?_;have d:(if (0:Int)≠0 then (0:Int) else if n<0 then (7:Int) else if n > (L.length:Int)-k then 6 else 0)=0:=by rw[if_neg ay,if_neg b,if_neg c]
 rw[d];rfl
def aXe:Spec:=aZ true fun a=>match a with
 |[v,.w (.one (.lit (.int .i64 1)))]=>(match vH v with
  |some (p,l)=>some (p/\iM l,xY (XY l))|none=>none)
 |_=>none
theorem bHp:ai prog af 183 aXe:=by
 refine aW (aC func183 aj rfl) (fun h p r a c=>?_);split at a;rename_i v;cases b:vH v with
 |none=>rw[b] at a;cases a| some q=>
  obtain⟨i,l⟩:=q;rw[b] at a;cases a
  exact (bBk l c.2).args fun C d e=>by
   match d,e with
   |[x,y],⟨g,f,_⟩=>exact⟨qY b c.1 g,f,trivial⟩
 cases a
def X7:List (Nat×Spec):=(183,aXe)::Rw
theorem NH:∀ p∈X7,ai prog af p.1 p.2:=by intro p a;rcases List.mem_cons.1 a with rfl|a;exact bHp;exact NI p a
theorem aCW:jl prog af (find X7):=⟨bD NH,dG⟩
theorem aAn(L:List UInt8)(d:iM L):fP prog af 152 true [l7 L] (Dh (gJ L)):=by
 have M:=aCW;have m:=mV L;have i:=fJ L;have o:L.length<4611686018427387904:=d;refine bH func152 rfl rfl bK (fun A r q s=>?_);refine aB ?_;refine aF ?_ ?_;simp[d];refine aU (⟨[(0,none,l7 L),(5,none,di (XY L).1),(6,none,di ((XY L).2.1:Int)),(7,none,di (XY L).2.2)],[]⟩) ?_ ?_ ?_;rw[dY];exact ig;exact .nil;have c:=aSf L;rw[aRg L];unfold XY;generalize (Ar L).2.2=e at *;generalize au L=g at *;obtain⟨n,k,t⟩:=g;dsimp only at *;refine aG ?_;refine aB ?_;refine aI (fun a=>?_) (fun a=>?_);have b:e≠0:=by intro h;rw[if_pos h] at a;simp at a
 refine aB ?_;refine bU ?_;rw[if_pos b,if_neg b];rfl;have b:e=0:=by rcases Decidable.em (e=0) with h|h;exact h;rw[if_neg h] at a;exact absurd (by simpa using a) h
 subst b;obtain⟨_,l,j⟩:=c rfl;have f:IntKind.i64.wrap ((k:Int)+n)=((k+n.toNat:Nat):Int):=by rw[dD a_ a_];omega
 refine aJ ?_;simp only[if_pos];refine aF ?_ ?_;simp;rw[f];omega;refine bU ?_;rw[if_neg ay,f];have p:(((k+n.toNat:Nat):Int)-(k:Int)).toNat=n.toNat:=by omega
 unfold Dh;rw[p,MM,kQ a_];rfl
def aCV:List (Nat×Spec):=(152,FN iM fun l=>Dh (gJ l))::X7
theorem X_:∀ p∈aCV,ai prog af p.1 p.2:=by intro p a;rcases List.mem_cons.1 a with rfl|a;exact oC (aC func152 aj rfl) aAn;exact NH p a
end Pv
section
open Go.RowKit Go.Shelf
def laysRepeat_ren:Ren:=
{
 f:=fun x=>
  match x with
  |105=>141
  |212=>169
  |99=>170
  |165=>171
  |166=>172
  |170=>173
  |169=>174
  |263=>186
  |264=>187
  |206=>188
  |240=>189
  |241=>190
  |276=>198
  |277=>199
  |n=>n,
 t:=fun x=>
  match x with
  |9=>9
  |3=>3
  |4=>4
  |20=>20
  |0=>0
  |46=>220
  |109=>238
  |5=>5
  |72=>243
  |76=>247
  |51=>203
  |146=>253
  |53=>110
  |148=>255
  |70=>241
  |37=>74
  |75=>246
  |127=>257
  |164=>259
  |80=>249
  |n=>n,
 g:=fun x=>
  have n:=x;
  n }
theorem laysRepeat:Lays.n105 prog laysRepeat_ren:=
{mixed:=YU true,f99:=YJ func170 (congrArg some (YU (Body.n99 laysRepeat_ren))),
 f105:=YJ func141 (congrArg some (YU (Body.n105 laysRepeat_ren))),
 f165:=YJ func171 (congrArg some (YU (Body.n165 laysRepeat_ren))),
 f166:=YJ func172 (congrArg some (YU (Body.n166 laysRepeat_ren))),
 f169:=YJ func174 (congrArg some (YU (Body.n169 laysRepeat_ren))),
 f170:=YJ func173 (congrArg some (YU (Body.n170 laysRepeat_ren))),
 f206:=YJ func188 (congrArg some (YU (Body.n206 laysRepeat_ren))),
 f212:=YJ func169 (congrArg some (YU (Body.n212 laysRepeat_ren))),
 f240:=YJ func189 (congrArg some (YU (Body.n240 laysRepeat_ren))),
 f241:=YJ func190 (congrArg some (YU (Body.n241 laysRepeat_ren))),
 f263:=YJ func186 (congrArg some (YU (Body.n263 laysRepeat_ren))),
 f264:=YJ func187 (congrArg some (YU (Body.n264 laysRepeat_ren))),
 f276:=YJ func198 (congrArg some (YU (Body.n276 laysRepeat_ren))),
 f277:=YJ func199 (congrArg some (YU (Body.n277 laysRepeat_ren))),t0:=underlying0,
 a0:=isAgg0,z0:=sizeOf0,v0:=zeroValue0,t3:=underlying3,a3:=isAgg3,
 z3:=sizeOf3,v3:=zeroValue3,t4:=underlying4,a4:=isAgg4,z4:=sizeOf4,
 v4:=zeroValue4,t5:=underlying5,a5:=isAgg5,z5:=sizeOf5,v5:=zeroValue5,
 t9:=underlying9,a9:=isAgg9,z9:=sizeOf9,v9:=zeroValue9,t20:=underlying20,
 a20:=isAgg20,z20:=sizeOf20,v20:=zeroValue20,t37:=underlying74,a37:=isAgg74,
 z37:=sizeOf74,v37:=zeroValue74,t46:=underlying220,a46:=isAgg220,z46:=sizeOf220,
 v46:=zeroValue220,t51:=underlying203,a51:=isAgg203,z51:=sizeOf203,
 v51:=zeroValue203,t53:=underlying110,a53:=isAgg110,z53:=sizeOf110,
 v53:=zeroValue110,t70:=underlying241,a70:=isAgg241,z70:=sizeOf241,
 v70:=zeroValue241,t72:=underlying243,a72:=isAgg243,z72:=sizeOf243,
 v72:=zeroValue243,t75:=underlying246,a75:=isAgg246,z75:=sizeOf246,
 v75:=zeroValue246,t76:=underlying247,a76:=isAgg247,z76:=sizeOf247,
 v76:=zeroValue247,t109:=underlying238,a109:=isAgg238,z109:=sizeOf238,
 v109:=zeroValue238,t127:=underlying257,a127:=isAgg257,z127:=sizeOf257,
 v127:=zeroValue257,t146:=underlying253,a146:=isAgg253,z146:=sizeOf253,
 v146:=zeroValue253,t148:=underlying255,a148:=isAgg255,z148:=sizeOf255,
 v148:=zeroValue255,t164:=underlying259,a164:=isAgg259,z164:=sizeOf259,
 v164:=zeroValue259 }
theorem aVr:Builder.Extra prog laysRepeat_ren where
 sizeBuilder:=by kernel_rfl
 liesBuilder:=by kernel_rfl
 t5:=laysRepeat.t5
 a5:=laysRepeat.a5
 z5:=laysRepeat.z5
 v5:=laysRepeat.v5
 infoByte:=by kernel_rfl
 cellsByte:=by kernel_rfl
 sizeByte:=by kernel_rfl
 neB5:=by decide
theorem aFi(s:ByteArray)(c:Nat)(w:ae)(hc:c<=9223372036854775807)(a:s.size*c<=140737488355328) :
  Calls prog 141 #[.string s,.int .i64 c] w fun e b=>e=.returned (.string ⟨(Lib.repeatL s.data.toList c).toArray⟩)/\Below w.heap.size w b:=
 Any.strings_Repeat laysRepeat aVr s c w hc a
theorem aMr(s p:ByteArray)(w:ae):Calls prog 170 #[.string s,.string p] w fun e a=>e=.returned (.bool (Lib.hasPrefix s.data.toList p.data.toList))/\a=w:=Any.strings_HasPrefix { laysRepeat with } s p w
end
abbrev Fl:=List ByteArray
def sec(f:Fl)(s:Int):List UInt8:=if 0<=s/\s<f.length then (f.getD s.toNat aH).data.toList else[]
def yx(cut:Int)(b old:List UInt8):List UInt8:=if cut<0\/(b.length:Int)<=cut then b else b.take cut.toNat++old.drop cut.toNat
def fU(f:Fl)(s:Int)(b:ByteArray)(cut:Int):Fl:=if 0<=s/\s<f.length/\b.size=256 then f.set s.toNat (strOf (yx cut b.data.toList (sec f s))) else f
end Go.Proofs.YtndpjopifkbgiaaGreatDoor
