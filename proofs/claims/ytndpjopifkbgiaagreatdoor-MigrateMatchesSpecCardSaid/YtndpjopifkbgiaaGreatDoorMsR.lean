/-
  Several texts in one file: each has its own heading below.
-/
import Derived.Test.YtndpjopifkbgiaaGreatDoorMsI
import Derived.Test.YtndpjopifkbgiaaGreatDoorProg
import Derived.Deep.RegionLaw
import Derived.Test.YtndpjopifkbgiaaGreatDoorMsN
import Derived.Test.YtndpjopifkbgiaaGreatDoorMsO
import Derived.Test.YtndpjopifkbgiaaGreatDoorMsQ
import Derived.Test.YtndpjopifkbgiaaGreatDoorMsP
import Derived.Test.YtndpjopifkbgiaaGreatDoorMsJ
import Derived.Test.YtndpjopifkbgiaaGreatDoorMsM
import Derived.WalkMore
set_option maxRecDepth 100000
set_option maxHeartbeats 4000000
namespace Go.Proofs.YtndpjopifkbgiaaGreatDoor
open Go.RowKit Tryz
open _root_.List renaming getElem?_eq_none->GM,length_set->VM,drop_eq_getElem_cons->aDk,not_mem_nil->Xq,mem_cons->xn,range->yf,getElem?_map->Xu,eq_of_mem_replicate->aFK,length_replicate->Yk,getElem?_append->aEE,length_append->ed,getElem_mem->YV,getElem_map->Yp,nil_append->WF,append_nil->Pi
open _root_.Bool renaming false_ne_true->Xw
open _root_.Nat renaming le_trans->mr,lt_of_lt_of_le->Y1,lt_or_ge->Y6,mul_one->Y_,le_refl->dE,eq_zero_or_pos->Yi,sub_self->YB
open _root_.Go.Value renaming int->df,slice->Y2
open _root_.Option renaming getD_some->Yo
open _root_.Go renaming Value->ag,World->ae,bodyPost_ret->Y4,maxLen->uC,Calls->ik
open _root_.And renaming intro->az
structure Bh(w:ae)(OM:List ag)(BQ:List (List Int)):Prop where
 len:OM.length=BQ.length
 each:∀ (k:Nat) (bv:ag) (l:List Int),OM[k]?=some bv->BQ[k]?=some l->Reads w 1 bv l.length (l.map (df .u8))
structure qw(w:ae)(fv:ag)(BQ:List (List Int)):Prop where
 ex:∃ OM,Reads w 1 fv BQ.length OM/\Bh w OM BQ
theorem Bh.ext{w w':ae}{b:List ag}{a:List (List Int)}(h:Bh w b a)(hc:Ext w w'):Bh w' b a:=⟨h.len,fun k e l d c=>(h.each k e l d c).ext hc⟩
theorem qw.ext{w w':ae}{c:ag}{a:List (List Int)}(h:qw w c a)(hc:Ext w w'):qw w' c a:=by obtain⟨b,e,d⟩:=h.ex;exact⟨b,e.ext hc,d.ext hc⟩
theorem qw.at_{w:ae}{e:ag}{a:List (List Int)}(h:qw w e a){k:Nat}(d:k<a.length) :
  ∃ b o c f,e=.slice (some ⟨b,o,none⟩) a.length c/\b<w.heap.size/\w.cell? ⟨b,o+k,none⟩=some f/\Reads w 1 f a[k].length (a[k].map (df .u8)):=by
 obtain⟨p,i,g⟩:=h.ex;obtain⟨b,o,c,u,n,_,_,m,l,j⟩:=i.DV d;exact⟨b,o,c,u,n,m,j,g.each k u a[k] l (zH d)⟩
theorem aJz(k:ag)(a:List (List Int))(d cell:Nat)(w:ae)(h:qw w k a)(hb:d<a.length)(hc:cell<a[d].length) :
  ik prog 97 #[.agg #[k],.int .i64 (d:Int),.int .i64 (cell:Int)] w fun e l=>e=.returned (.bool true)/\Ext w l:=by
 obtain⟨b,o,c,s,rfl,n,i,j⟩:=h.at_ hb;have g:a.length<=uC:=by obtain⟨q,p,_⟩:=h.ex;exact p.zn
 have f:=j.zn;obtain⟨_,A,r,rfl,_⟩:=j;unfold uC at g f;generalize a[d].length=m at *;clear h
 go_enter func97,ntmps97
 go_wp2
 go_ret;refine⟨rfl,?_⟩
 repeat' (first|(with_reducible exact dm.refl _ _)|(with_reducible exact Ext.refl _)|(with_reducible assumption)|(with_reducible refine dm.alloc ?_ _)|(with_reducible refine dm.drew ?_)|(with_reducible refine dm.drewN ?_ _)|(with_reducible refine dm.setCell ?_ ?_ _)|(with_reducible refine Ext.alloc ?_ _)|(with_reducible refine Ext.drew ?_)|(with_reducible refine Ext.drewN ?_ _)|(with_reducible refine Ext.setCell ?_ ?_ _)|(simp;done)|(simp;omega)|omega)
theorem aBg(E:ag)(a:List (List Int))(d cell:Nat)(f:Bool)(w:ae)(h:qw w E a)(hb:d<a.length)(hc:cell<a[d].length) :
  ik prog 72 #[.agg #[E],.int .i64 (d:Int),.int .i64 (cell:Int),.bool f] w fun e H=>e=.returned (.tuple #[.int .i64 (fO a[d][cell] f),.int .i64 0])/\Ext w H:=by
 have O:=hide h;obtain⟨b,o,c,T,rfl,J,A,s⟩:=h.at_ hb;have y:a.length<=uC:=by obtain⟨N,j,_⟩:=h.ex;exact j.zn
 have t:=s.zn;obtain⟨U,Q,S,u,rfl,_,_,K,C,l⟩:=s.DV hc;rw[Xu,zH hc] at C;cases C;unfold uC at y t;clear h
 have D:∀ x:Int,fO x f=if x=2 then 1 else if x=1 then (if f=true then 1 else 0) else 0:=by intro x;unfold fO;by_cases j:x=2<;>by_cases i:x=1<;>cases f<;>simp_all
 have q:=hide (D a[d][cell]);have P:=hide (aJz _ a d cell (w.alloc (.cells #[.slice (some ⟨b,o,none⟩) a.length c] 60)) ((aA O).ext (dm.alloc (Ext.refl _) _)) hb hc);clear D s;generalize a[d][cell]=x at *;have I:cell<a[d].length:=hc;clear hc;generalize a[d].length=m at *
 go_enter func72,ntmps72
 go_wp2_with fail
 refine (aA P).mono ?_;rintro e G ⟨rfl,n⟩;have z:=n.rules;simp only[World.size_alloc] at z;have r:=n.size';simp only[World.size_alloc] at r;have B:=hide n;clear n;have g:Hid (Ext w G):=hide ((dm.alloc (Ext.refl _) _).trans (aA B));by_cases i:x=2
 ·have F:(x==2)=true:=by simp[i]
  have k:=hide i;clear i
  go_wp2
  go_ret2
  exact⟨aDp (by rw[aA q,if_pos (aA k)]),aA g⟩
 ·by_cases j:x=1
  ·have F:(x==2)=false:=by simp[i]
   have L:(x==1)=true:=by simp[j]
   have k:=hide i;have p:=hide j;clear i j;cases f with
   |true=>
    go_wp2
    go_ret2
    exact⟨aDp (by rw[aA q,if_neg (aA k),if_pos (aA p)];rfl),aA g⟩
   |false=>
    go_wp2
    go_ret2
    exact⟨aDp (by rw[aA q,if_neg (aA k),if_pos (aA p)];rfl),aA g⟩
  ·have F:(x==2)=false:=by simp[i]
   have L:(x==1)=false:=by simp[j]
   have k:=hide i;have p:=hide j;clear i j
   go_wp2
   go_ret2
   exact⟨aDp (by rw[aA q,if_neg (aA k),if_neg (aA p)]),aA g⟩
theorem Ou:yc prog 74 5 1 1:=yc.mk' (z:=.int .u8 0) aj aj rfl a_ a_
theorem Nu:yc prog 58 74 1 24:=yc.mk' (z:=.slice none 0 0) aj aj rfl a_ a_
structure kw(w:ae)(B:Nat)(OM:List ag)(BQ:List (List Int)):Prop where
 len:OM.length=BQ.length
 each:∀ (k:Nat) (bv:ag) (l:List Int),OM[k]?=some bv->BQ[k]?=some l->w.ownsRow B 5 1 bv l.length (l.map (df .u8))
 apart:∀ (i j:Nat) (bi bj:ag) (g:Nat),OM[i]?=some bi->OM[j]?=some bj->i≠j->bi.ownBlock=some g->bj.ownBlock≠some g
theorem kw.nil(w:ae)(B:Nat):kw w B [] []:=⟨rfl,fun k a l h=>by simp at h,fun i j c b g h=>by simp at h⟩
theorem kw.gy{w w':ae}{B:Nat}{b:List ag}{a:List (List Int)}{S:Nat->Prop}(h:kw w B b a)(hc:dm S w w')(hS:∀ (k:Nat) (c:ag) (g:Nat),b[k]?=some c->c.ownBlock=some g->¬S g):kw w' B b a:=⟨h.len,fun k c l d f=>gB (h.each k c l d f) hc (fun g e=>hS k c g d e),h.apart⟩
theorem kw.snoc{w:ae}{B:Nat}{a:List ag}{f:List (List Int)}(h:kw w B a f){o:ag}{l:List Int}(C:w.ownsRow B 5 1 o l.length (l.map (df .u8)))
  (hn:∀ (k:Nat) (b:ag) (g:Nat),a[k]?=some b->b.ownBlock=some g->o.ownBlock≠some g):kw w B (a++[o]) (f++[l]):=by
 have m:=h.len;refine⟨by simp[m],fun k b x d c=>?_,fun i j u r g d c s t=>?_⟩;rw[aEE] at d c;by_cases y:k<a.length;rw[if_pos y] at d;rw[if_pos a_] at c;exact h.each k b x d c;rw[if_neg y] at d;rw[if_neg a_] at c;have A:k-a.length=0:=by rcases Yi (k-a.length) with e|e;exact e;rw[GM mg] at d;cases d
 rw[A] at d;rw[<-m,A] at c;cases d;cases c;exact C;rw[aEE] at d c;have z:∀ (i:Nat) (b:ag),¬i<a.length->([o]:List ag)[i-a.length]?=some b->i=a.length/\b=o:=by intro i b p q;rcases Yi (i-a.length) with e|e;rw[e] at q;cases q;exact⟨by omega,rfl⟩;rw[GM mg] at q;cases q
 by_cases p:i<a.length;rw[if_pos p] at d;by_cases n:j<a.length;rw[if_pos n] at c;exact h.apart i j u r g d c s t;rw[if_neg n] at c;obtain⟨_,rfl⟩:=z j r n c;exact hn i u g d t;rw[if_neg p] at d;obtain⟨E,rfl⟩:=z i u p d;by_cases n:j<a.length;rw[if_pos n] at c;exact fun F=>hn j r g c F t;rw[if_neg n] at c;obtain⟨D,_⟩:=z j r n c;omega
theorem aUo{c wr x d:ae}{k:Nat}{f:List ag}{a:List (List Int)}{l:List Int}{v:ag}{t n:Option Addr}{s m:Nat}
  (E:dh wr c.heap.size 60 #[v]) (u:wr.ownsRow c.heap.size 74 1 v k f) (r:kw wr c.heap.size f a) (B:Ext c wr)
  (L:x.ownsRow c.heap.size 5 1 (.slice t l.length s) l.length (l.map (df .u8))) (y:dm (fun j=>(Y2 (some ⟨wr.heap.size,0,none⟩) 0 0).ownBlock=some j) (wr.alloc (.cells #[] 5)).drew x)
  (U:(Y2 t l.length s).ownBlock=(Y2 (some ⟨wr.heap.size,0,none⟩) 0 0).ownBlock\/∃ g,(Y2 t l.length s).ownBlock=some g/\(wr.alloc (.cells #[] 5)).drew.heap.size<=g/\g<x.heap.size)
  (A:d.ownsRow c.heap.size 74 1 (.slice n (k+1) m) (k+1) (f++[.slice t l.length s])) (q:dm (fun j=>v.ownBlock=some j) (x.alloc (.cells #[.slice t l.length s] 74)) d) :
  dh (d.setCell ⟨c.heap.size,0,none⟩ (.slice n (k+1) m)) c.heap.size 60 #[.slice n (k+1) m] /\
  (d.setCell ⟨c.heap.size,0,none⟩ (.slice n (k+1) m)).ownsRow c.heap.size 74 1 (.slice n (k+1) m) (k+1) (f++[.slice t l.length s]) /\
  kw (d.setCell ⟨c.heap.size,0,none⟩ (.slice n (k+1) m)) c.heap.size (f++[.slice t l.length s]) (a++[l]) /\
  Ext c (d.setCell ⟨c.heap.size,0,none⟩ (.slice n (k+1) m)):=by
 have hB:=B.size';have a0:=E.lt;have z:=u.lt;have N:Ext wr (wr.alloc (.cells #[] 5)).drew:=dm.drew (dm.alloc (Ext.refl _) _);have W:Ext x (x.alloc (.cells #[.slice t l.length s] 74)):=dm.alloc (Ext.refl _) _;have b8:dh x c.heap.size 60 #[v]:=(E.ext N).gy y (uI a_);have Q:v.ownBlock≠some c.heap.size:=rZ u E jc;have H:dh d c.heap.size 60 #[v]:=(b8.ext W).gy q Q;have Y:x.ownsRow c.heap.size 74 1 v k f:=gB (bP u N) y (fun g I=>uI (by have:=(z g I).2;omega));have X:dm (fun j=>j=c.heap.size) d (d.setCell ⟨c.heap.size,0,none⟩ (.slice n (k+1) m)):=dm.setCell (S:=fun j=>j=c.heap.size) (p:=⟨c.heap.size,0,none⟩) (dm.refl _ _) (.inl rfl) _;have O:(Y2 n (k+1) m).ownBlock≠some c.heap.size:=rZ A H jc
 have J:kw x c.heap.size f a:=(r.gy N (fun _ _ _ _ _ h=>h)).gy y (fun j G g o F=>by
  have D:j<a.length:=by have:=r.len;rcases Y6 j f.length with w|w;omega;rw[GM w] at o;cases o
  have:=((r.each j G a[j] o (zH D)).lt g F).2
  exact uI a_)
 have K:kw d c.heap.size f a:=(J.gy W (fun _ _ _ _ _ h=>h)).gy q (fun j G g o F=>by
  have D:j<a.length:=by have:=r.len;rcases Y6 j f.length with w|w;omega;rw[GM w] at o;cases o
  exact own_ne (J.each j G a[j] o (zH D)) Y jc F)
 have P:d.ownsRow c.heap.size 5 1 (.slice t l.length s) l.length (l.map (df .u8)):=gB (bP L W) q (fun g I=>own_ne L Y jc I)
 have C:kw d c.heap.size (f++[.slice t l.length s]) (a++[l]):=K.snoc P (fun j G g o F=>by
  have D:j<a.length:=by have:=r.len;rcases Y6 j f.length with w|w;omega;rw[GM w] at o;cases o
  have I:=((r.each j G a[j] o (zH D)).lt g F).2;rcases U with e|⟨g',e,V,_⟩;rw[e];exact uI a_;rw[e];intro e2
  injection e2 with e2
  simp at V
  omega)
 refine⟨H.vk 0 _,gB A X (fun g I e=>O (by rw[I,e])),C.gy X (fun j G g o F e=>?_),?_⟩;have D:j<(a++[l]).length:=by have:=C.len;rcases Y6 j (f++[Y2 t l.length s]).length with w|w;omega;rw[GM w] at o;cases o
 exact rZ (C.each j G (a++[l])[j] o (zH D)) H jc (by rw[F,e]);refine dm.trans' (S:=Non) (T:=fun j=>j=c.heap.size) (b:=d) ?_ X (fun _ _ h=>h) (fun i Z e=>by omega);refine dm.trans' (S:=Non) (T:=fun j=>v.ownBlock=some j) (b:=x.alloc (.cells #[.slice t l.length s] 74)) ?_ q (fun _ _ h=>h) (fun i Z e=>by have:=(z i e).1;omega);refine dm.alloc ?_ _
 exact dm.trans' (S:=Non) (B.trans N) y (fun _ _ h=>h) (fun i Z e=>by
  simp only[Value.ownBlock,Option.some.injEq] at e
  omega)
theorem kw.vk{w:ae}{B:Nat}{c:List ag}{a:List (List Int)}(h:kw w B c a){b cell:Nat}{g cap:Nat}{l:List Int}(i:c[b]?=some (.slice (some ⟨g,0,none⟩) l.length cap))(hl:a[b]?=some l)(hc:cell<l.length)(y:Int) :
  kw (w.setCell ⟨g,cell,none⟩ (.int .u8 y)) B c (a.set b (l.set cell y)):=by
 refine⟨by rw[VM];exact h.len,fun k n x f d=>?_,h.apart⟩;by_cases m:k=b;subst m;rw[i] at f;cases f;have q:k<a.length:=(List.getElem?_eq_some_iff.1 hl).1;rw[List.getElem?_set_self q] at d;cases d;have:=Q8 (h.each k _ l i hl) cell hc (.int .u8 y);rw[VM,List.map_set];exact this;rw[List.getElem?_set_ne (fun e=>m e.symm)] at d;exact gB (S:=fun j=>j=g) (h.each k n x f d) (dm.setCell (S:=fun j=>j=g) (p:=⟨g,cell,none⟩) (dm.refl _ _) (.inl rfl) _) (fun j o e=>h.apart k b n _ j f i m o (by rw[e];rfl))
def uX(B:Nat)(w:ae)(d:ag)(a:List (List Int)):Prop:=∃ c b,B<=c/\w.ownsRow c 74 1 d a.length b/\kw w c b a
theorem uX.gy{B:Nat}{w w':ae}{i:ag}{a:List (List Int)}(h:uX B w i a){S:Nat->Prop}(hc:dm S w w')(hS:∀ k,B<=k->¬S k):uX B w' i a:=by
 obtain⟨p,b,c,g,d⟩:=h;refine⟨p,b,c,gB g hc (fun j m=>hS j (mr c (g.lt j m).1)),d.gy hc (fun k o j e n=>?_)⟩;have l:k<a.length:=by have:=d.len;rcases Y6 k b.length with f|f;omega;rw[GM f] at e;cases e
 exact hS j (mr c ((d.each k o a[k] e (zH l)).lt j n).1)
theorem aCd{w wr:ae}{B r:Nat}{b:List ag}{a:List (List Int)}{g cap:Nat}{V:ag}(c:wr.ownsRow B 74 1 (.slice (some ⟨g,0,none⟩) a.length cap) a.length b)(f:kw wr B b a)(hr:r<B)(h:w.heap.size<=r)(i:Ext w wr) :
  uX w.heap.size (wr.setCell ⟨r,0,none⟩ V) (.slice (some ⟨g,0,none⟩) a.length cap) a/\Ext w (wr.setCell ⟨r,0,none⟩ V):=by
 have l:dm (fun j=>j=r) wr (wr.setCell ⟨r,0,none⟩ V):=dm.setCell (S:=fun j=>j=r) (p:=⟨r,0,none⟩) (dm.refl _ _) (.inl rfl) _;have o:uX B wr (.slice (some ⟨g,0,none⟩) a.length cap) a:=⟨B,b,dE _,c,f⟩;obtain⟨q,d,t,n,m⟩:=o.gy l (fun k s e=>by omega);exact⟨⟨q,d,by omega,n,m⟩,dm.setCell (p:=⟨r,0,none⟩) i (.inr h) _⟩
theorem bAf{a:Type}(l:List a)(k:Nat)(h:k<l.length):l.take (k+1)=l.take k++[l[k]]:=by rw[List.take_add_one,zH h];rfl
theorem bCv (fv:ag) (a:List (List Int)) (d cell:Nat) (cut:Bool) (w:ae) (h:qw w fv a) (hb:d<a.length) (hc:cell<a[d].length) (hn:a.length<=1000) (a1:∀ l∈a,l.length<=100000) :
    ik prog 194 #[.agg #[fv],.int .i64 (d:Int),.int .i64 (cell:Int),.bool cut] w fun e w'=>∃ a6,e=.returned (.tuple #[.agg #[a6],.int .i64 0])/\uX w.heap.size w' a6 (a.set d (a[d].set cell (kK a[d][cell] cut)))/\Ext w w':=by
  have HF:=hide h;obtain⟨_,⟨_,A,c,rfl,_⟩,_⟩:=h.ex;have HE:=hide (aJz _ a d cell ((w.alloc (.cells #[.slice A a.length c] 60)).alloc (.cells #[.slice none 0 0] 60)) ((aA HF).ext (dm.alloc (dm.alloc (Ext.refl _) _) _)) hb hc);clear h
  go_enter func194,ntmps194
  go_wp2_with fail
  refine (aA HE).mono ?_;rintro e t ⟨rfl,hE⟩;have W:=((dh.new w 60 #[.slice A a.length c]).alloc (.cells #[.slice none 0 0] 60)).ext hE;have V:=(dh.new' (w.alloc (.cells #[.slice A a.length c] 60)) 60 #[.slice none 0 0] (g:=w.heap.size+1) ay).ext hE;have a8:=hE.size';simp only[World.size_alloc] at a8;have HX:Hid (Ext w t):=hide ((dm.alloc (dm.alloc (Ext.refl _) _) _).trans hE);clear hE HE;obtain⟨f0,ff,fl⟩:=W.AO;obtain⟨r0,rf,rl⟩:=V.AO;have HB:=hide (az W V);clear W V
  go_wp2
  have Y:Hid (w.heap.size+1<t.heap.size):=hide a_
  go_loopw [11] (fun i wr=>∃ (k:Nat) (K:List ag) (v:ag),k<=a.length/\i=.int .i64 k/\dh wr t.heap.size 60 #[v]/\wr.ownsRow t.heap.size 74 1 v k K/\kw wr t.heap.size K (a.take k)/\Ext t wr) (fun i _=>a.length-(intOf i).toNat)
  case atStart=>exact⟨0,[],.slice none 0 0,by omega,rfl,dh.new _ _ _,World.ownsRow_nil _ _ _ _,kw.nil _ _,dm.alloc (Ext.refl _) _⟩
  case round =>
    obtain⟨k,K,v,hk,rfl,J,q,y,f⟩:=hrel;have T:=(aA HB).1.ext f;obtain⟨g0,gf,gl⟩:=T.AO;obtain⟨o0,of,ol⟩:=J.AO;by_cases Q:k<a.length
    ·
      obtain ⟨b,o,c',bv,hv,c6,C,hr⟩:=(aA HF).at_ Q;cases hv;have U:Ext w wr:=(aA HX).trans f;have C:=U.j_ C;have hr:=hr.ext U;have a2:a[k].length<=100000:=a1 _ (YV Q);have b7:(0:Int)<=(k:Int):=by omega
      have b6:(k:Int)<(a.length:Int):=by omega
      have H:=hide (az J (az q (az y f)));have HR:=hide hr;clear J q y hr T f0 ff r0 rf f U;have hB:t.heap.size<=wr.heap.size:=(aA H).2.2.2.size'
      go_wp2
      have F:∀ g,v.ownBlock=some g->t.heap.size<=g/\g<wr.heap.size/\¬g=t.heap.size:=fun g hg=>⟨((aA H).2.1.lt g hg).1,((aA H).2.1.lt g hg).2,fun e=>rZ (aA H).2.1 (aA H).1 jc (e ▸ hg)⟩;have b1:b<wr.heap.size:=by omega
      go_region_law (first
          | (
           refine aLa (s:=.tmp 28) (x:=.tmp 33) rfl rfl Ou (v:=.slice (some ⟨wr.heap.size,0,none⟩) 0 0) rfl (B:=t.heap.size) (n:=0) (xs:=[]) (by exact aAs wr _ _ _ hB) rfl (by exact ((aA HR).ext (dm.alloc (Ext.refl _) _)).ext (dm.drew (Ext.refl _))) (dO.map (fun _=>rfl) _) a_ (by exact mr hB ay) ?_;intro A8 c8 w8 P m O;simp only[Nat.zero_add,WF] at P O;have a9:t.heap.size<w8.heap.size:=Y1 mg m.size
           have D:w8.cell? ⟨t.heap.size,0,none⟩=some v/\w8.cell? ⟨w.heap.size,0,none⟩=some (.slice (some ⟨b,o,none⟩) a.length c)/\w8.cell? ⟨b,o+k,none⟩=some bv:=⟨m.j_ (Ext.j_ (dm.drew (dm.alloc (Ext.refl _) _)) o0) (uI (by simp only;omega)),m.j_ (Ext.j_ (dm.drew (dm.alloc (Ext.refl _) _)) g0) (uI (by simp only;omega)),m.j_ (Ext.j_ (dm.drew (dm.alloc (Ext.refl _) _)) C) (uI (by simp only;omega))⟩)
          | (
           refine aLa (s:=.tmp 27) (x:=.tmp 35) rfl rfl Nu (v:=v) rfl (B:=t.heap.size) (n:=k) (xs:=K) (by exact bP (gB (bP (aA H).2.1 (dm.drew (dm.alloc (Ext.refl _) _))) m (fun g hg=>uI (by have:=(F g hg).2.1;omega))) (dm.alloc (Ext.refl _) _)) rfl (by exact Reads.uo _ _ _) (dO.one rfl) a_ (by exact mr hB (mr ay (mr m.size ay))) ?_;intro d3 d2 I L r Z;have a0:I.cell? ⟨t.heap.size,0,none⟩=some v/\I.cell? ⟨w.heap.size,0,none⟩=some (.slice (some ⟨b,o,none⟩) a.length c)/\I.cell? ⟨b,o+k,none⟩=some bv:=⟨r.j_ (Ext.j_ (dm.alloc (Ext.refl _) _) D.1) (fun e=>(F _ e).2.2 rfl),r.j_ (Ext.j_ (dm.alloc (Ext.refl _) _) D.2.1) (fun e=>by have:=(F _ e).1;simp only at this;omega),r.j_ (Ext.j_ (dm.alloc (Ext.refl _) _) D.2.2) (fun e=>by have:=(F _ e).1;simp only at this;omega)⟩
           have a4:I.frozen? ⟨t.heap.size,0,none⟩=false:=r.rq (Ext.rq (dm.alloc (Ext.refl _) _) (m.rq (Ext.rq (dm.drew (dm.alloc (Ext.refl _) _)) (of 0) ol) mg (uI (by simp only;omega))) (Y1 mg m.size)) (Y1 (Y1 mg m.size) ay) (fun e=>(F _ e).2.2 rfl)))
      all_goals
        have z:=hide (aUo (aA H).1 (aA H).2.1 (aA H).2.2.1 (aA H).2.2.2 P m O L r);clear D a0 a4 a9 P m O L r Z H
        go_wp2
        go_roundw
        case rel=>exact⟨k+1,_,_,by omega,by go_num,(aA z).1,(aA z).2.1,by rw[bAf a k Q];exact (aA z).2.2.1,(aA z).2.2.2⟩
        case measure=>simp[intOf];omega
    ·
      obtain rfl:k=a.length:=by omega
      rw[List.take_length] at y;obtain⟨g,cap,u,rfl,c2,c1,hu,c4,c0⟩:=aPx q hb;obtain⟨E,cb,x,a7,d0,c9,hx,c3,c7⟩:=aPx (y.each d u a[d] hu (zH hb)) hc;subst a7;rw[Xu,zH hc] at hx;cases hx;have a3:¬E=g:=fun e=>own_ne (y.each d _ a[d] hu (zH hb)) q jc (g:=E) rfl (by rw[e];rfl);have a5:=(aA HB).2.ext f;obtain⟨N,b3,b2⟩:=a5.AO;have b8:¬E=w.heap.size+1:=by have:=aA Y;omega
      have b0:¬g=w.heap.size+1:=by have:=aA Y;omega
      have b9:¬E=t.heap.size:=fun e=>rZ (y.each d _ a[d] hu (zH hb)) J jc (by rw[<-e];rfl);have b5:¬w.heap.size+1=t.heap.size:=by have:=aA Y;omega
      have z:=hide (az q (az y (az f hu)));have d1:(d:Int)<(a.length:Int):=by omega
      have c5:(cell:Int)<(a[d].length:Int):=by omega
      have a2:a[d].length<=100000:=a1 _ (YV hb);clear q y f hu T a5 r0 rf f0 ff;generalize hX:a[d][cell]=x at *;have X:=hide hX;clear hX;have HP:=hide (show kK x cut=if x<=1 then (if cut then 1 else 2) else x from rfl);by_cases G:x<=1
      ·
        have HL:=hide G;cases cut with
        |
         true=>
         have HY:Hid (kK a[d][cell] true=1):=hide (by rw[aA X,aA HP,if_pos G];rfl)
         go_wp2
         refine Y4 (v:=.tuple #[.agg #[.slice (some ⟨g,0,none⟩) a.length cap],.int .i64 0]) (by simp[results,results194,go_sem,N]) rfl ⟨_,rfl,?_⟩;rw[aA HY];have h0:=gB (S:=fun j=>j=E) (aA z).1 (dm.setCell (S:=fun j=>j=E) (p:=⟨E,cell,none⟩) (dm.refl _ _) (.inl rfl) (.int .u8 1)) (fun j hj e=>by cases hj;exact a3 e.symm);have h1:=(aA z).2.1.vk (aA z).2.2.2 (zH hb) hc 1;have hl:(a.set d (a[d].set cell 1)).length=a.length:=VM;rw[<-hl] at h0 ⊢;exact aCd h0 h1 (aA Y) a_ (dm.setCell (p:=⟨E,cell,none⟩) ((aA HX).trans (aA z).2.2.1) (.inr (by simp only;omega)) _)
        |
         false=>
         have HY:Hid (kK a[d][cell] false=2):=hide (by rw[aA X,aA HP,if_pos G];rfl)
         go_wp2
         refine Y4 (v:=.tuple #[.agg #[.slice (some ⟨g,0,none⟩) a.length cap],.int .i64 0]) (by simp[results,results194,go_sem,N]) rfl ⟨_,rfl,?_⟩;rw[aA HY];have h0:=gB (S:=fun j=>j=E) (aA z).1 (dm.setCell (S:=fun j=>j=E) (p:=⟨E,cell,none⟩) (dm.refl _ _) (.inl rfl) (.int .u8 2)) (fun j hj e=>by cases hj;exact a3 e.symm);have h1:=(aA z).2.1.vk (aA z).2.2.2 (zH hb) hc 2;have hl:(a.set d (a[d].set cell 2)).length=a.length:=VM;rw[<-hl] at h0 ⊢;exact aCd h0 h1 (aA Y) a_ (dm.setCell (p:=⟨E,cell,none⟩) ((aA HX).trans (aA z).2.2.1) (.inr (by simp only;omega)) _)
      ·
        have b4:¬x<=1:=G;have HY:Hid (kK a[d][cell] cut=a[d][cell]):=hide (by rw[aA X,aA HP,if_neg G])
        go_wp2
        refine Y4 (v:=.tuple #[.agg #[.slice (some ⟨g,0,none⟩) a.length cap],.int .i64 0]) (by simp[results,results194,go_sem,N]) rfl ⟨_,rfl,?_⟩;rw[aA HY,List.set_getElem_self,List.set_getElem_self];exact aCd (aA z).1 (aA z).2.1 (aA Y) a_ ((aA HX).trans (aA z).2.2.1)
namespace Pv
theorem bDy{C:Ctx}{k:Nat}{g:Nat->List PC}{m:ag}(h:R C (.sl 1 k g) [m])(p:∀ j,j<k->bKo (g j)=true):Reads C.w 1 m ((yf k).map fun j=>BD (g j)).length (((yf k).map fun j=>BD (g j)).map (df .u8)):=by
 cases h with
 | sl f s q=>
  rename_i d
  have:d=((yf k).map fun j=>BD (g j)).flatMap fun z=>[df .u8 z]:=by
   refine aVp (fun z=>[df .u8 z]) 1 _ d (fun a _=>rfl) (by simpa using f.1) (fun i o=>?_);have b:i<k:=by simpa using o
   have c:=q i b;rw[aMn (p i b)] at c;rw[Yp,List.getElem_range];generalize (d.drop (i*1)).take 1=r at c ⊢;cases c with
   |cons k1 c=>cases c;cases k1;rfl
  rw[List.length_map,List.length_range]
  have e:(((yf k).map fun j=>BD (g j)).map (df .u8))=d:=by
   rw[this];generalize (yf k).map (fun j=>BD (g j))=l
   induction l with
   |nil=>rfl|cons a l n=>rw[List.map_cons,List.flatMap_cons,n];rfl
  rw[e];exact f
theorem aYv{C:Ctx}{n:Nat}{f:Nat->List PC}{q:ag}(h:R C (.sl 1 n f) [q])(u:nY n f):qw C.w q (dL n f):=by
 cases h with
 | sl p z x=>
  rename_i d;refine⟨d,by rw[iC];exact p,⟨by rw[iC];simpa using p.1,fun k m l e b=>?_⟩⟩;have i:k<n:=by have:=(List.getElem?_eq_some_iff.1 b).1;rwa [iC] at this
  have j:=x k i;have a:=u k i
  have s:(d.drop (k*1)).take 1=[m]:=by
   rw[Y_];have o:k<d.length:=(List.getElem?_eq_some_iff.1 e).1;rw[aDk o];have:d[k]=m:=by rw[zH o] at e;exact Option.some.inj e
   rw[this];rfl
  rw[s] at j;have r:l=E5 (f k):=by unfold dL at b;rw[Xu,List.getElem?_range i] at b;exact (Option.some.inj b).symm
  rw[r];clear r b e s;generalize f k=c at j a ⊢;unfold bOw at a;split at a;rename_i t g;have y:R C.cold (.sl 1 t g) [m]:=by have:=j.single;exact this
  exact bDy (C:=C.cold) y a;exact a.elim
theorem V8{C:Ctx}{a:ag}{l:List Int}(h:Reads C.w 1 a l.length (l.map (df .u8)))(hb:∀ g,a.ownBlock=some g->0<l.length->C.ok g/\g<C.w.heap.size):R C (.sl 1 l.length (BB l)) [a]:=
 .sl h hb (fun i b=>by
  have e:((l.map (df .u8)).drop (i*1)).take 1=[.int .u8 (l.getD i 0)]:=by rw[Y_,aDk (by simpa using b),Yp,zG,zH b];rfl
  rw[e]
  exact .cons (xs:=[_]) (.lit rfl) .nil)
theorem bLa{w':ae}{B:Nat}{p:ag}{a:List (List Int)}(h:uX B w' p a){ok:Nat->Prop}(d:∀ b,B<=b->ok b):R { w:=w',ok:=ok,env:=fun _=>none } (.sl 1 a.length (eX a)) [p]:=by
 obtain⟨r,c,o,l,n⟩:=h;refine .sl (Reads.lw l) (fun g f _=>⟨d g (mr o (l.lt g f).1),(l.lt g f).2⟩) (fun i j=>?_);have m:i<c.length:=by rw[n.len];exact j
 have e:(c.drop (i*1)).take 1=[c[i]]:=by rw[Y_,aDk m];rfl
 rw[e];have k:=n.each i c[i] a[i] (zH m) (zH j);have q:eX a i=DN a[i]:=by unfold eX;rw[zG,zH j];rfl
 rw[q];refine .cons (xs:=[_]) (V8 (Reads.lw k) (fun g f _=>⟨d g (mr o (k.lt g f).1),(k.lt g f).2⟩)) .nil
end Pv
structure DW(h h':jk):Prop where
 n:h'.b.length=h.b.length
 l:∀ k,(h'.b.getD k []).length=(h.b.getD k []).length
 f:h'.f.length=h.f.length
theorem DW.refl(h:jk):DW h h:=⟨rfl,fun _=>rfl,rfl⟩
theorem DW.trans{a b c:jk}(h1:DW a b)(h2:DW b c):DW a c:=⟨h2.n.trans h1.n,fun k=>(h2.l k).trans (h1.l k),h2.f.trans h1.f⟩
theorem aXy(b:List (List Int))(a cell:Int)(cut:Bool):(qi b a cell cut).length=b.length/\∀ k,((qi b a cell cut).getD k []).length=(b.getD k []).length:=by unfold qi;refine⟨VM ..,fun k=>?_⟩;rw[zG,zG (l:=b) (i:=k),List.getElem?_set];split;rename_i e;subst e;split;rename_i c;rw[Yo,VM,zG];rename_i c;rw[GM a_];rfl
theorem bCt(f:Fl)(s:Int)(b:ByteArray)(cut:Int):(fU f s b cut).length=f.length:=by unfold fU;split;exact VM ..;rfl
theorem bMb(h:jk)(a:Acc)(t:qx):DW h (fQ h a t).1:=by
 unfold fQ
 repeat' split
 all_goals first
  |exact DW.refl h
  |exact⟨(aXy _ _ _ _).1,(aXy _ _ _ _).2,rfl⟩
  |exact⟨rfl,fun _=>rfl,bCt _ _ _ _⟩
def ZK(h:jk)(a:Acc):Prop:=((a.kind=1\/a.kind=2)/\a.bytes=aH/\zx h.b a.jy a.cell=true)\/(a.kind=3/\a.jy=0/\a.bytes=aH/\0<=a.cell/\a.cell<h.f.length)\/(a.kind=4/\a.jy=0/\(0<=a.cell/\a.cell<h.f.length)/\a.bytes.size=256)
namespace Pv
structure iy where
 live:Bool
 log:List jh
 F:List qx
structure h_ where
 i:Nat
 ask:Acc
 stop:Bool
 cut:Bool
 h:jk
def dV(m:iy)(a:Acc)(s:h_):jh×h_:=
 if s.stop=true then (iJ,s)
 else if m.live=true then
  if (eY m.F s.i).cut=true then (iJ,⟨s.i+1,s.ask,true,true,(fQ s.h a (eY m.F s.i)).1⟩)
  else ((fQ s.h a (eY m.F s.i)).2.1,⟨s.i+1,s.ask,s.stop,s.cut,(fQ s.h a (eY m.F s.i)).1⟩)
 else match m.log[s.i]? with
  |some r=>(r,⟨s.i+1,s.ask,s.stop,s.cut,s.h⟩)|none=>(iJ,⟨s.i,a,true,s.cut,s.h⟩)
def aO{b:Type}(m:iy):ah b->h_->b×h_
 |.ret a,s=>(a,s)|.ask c k,s=>aO m (k (dV m c s).1) (dV m c s).2
theorem dS{b d:Type}(m:iy)(p:ah b)(f:b->ah d):∀ s,aO m (p.bind f) s=aO m (f (aO m p s).1) (aO m p s).2:=by
 induction p with
 |ret a=>intro s;rfl|ask c k e=>intro s;exact e _ _
structure ru(m:iy)(s:h_):Prop where
 hw:BN s.h
 ll:m.log.length<=1000000
 lb:∀ r∈m.log,r.bytes.size<=1000000
 lf:m.F.length<=1000000
 i:s.i<=1000000
theorem bKd(m:iy)(a:Acc)(s:h_):s.i<=(dV m a s).2.i:=by
 unfold dV
 repeat' split
 all_goals first
  |exact dE _
  |exact Nat.le_succ _
theorem bCm(m:iy)(a:Acc)(s:h_):DW s.h (dV m a s).2.h:=by
 unfold dV
 repeat' split
 all_goals first
  |exact DW.refl _
  |exact bMb _ _ _
theorem bKf(m:iy)(a:Acc)(s:h_)(h:BN s.h):BN (dV m a s).2.h:=by
 unfold dV
 repeat' split
 all_goals first
  |exact h
  |exact aNh _ _ h
theorem bKe{m:iy}{a:Acc}{s:h_}(h:ru m s)(b:(dV m a s).2.i<=1000000):ru m (dV m a s).2:=⟨bKf m a s h.hw,h.ll,h.lb,h.lf,b⟩
theorem jL{b:Type}(m:iy)(p:ah b):∀ s,s.i<=(aO m p s).2.i:=by
 induction p with
 |ret a=>intro s;exact dE _|ask c k d=>intro s;exact mr (bKd m c s) (d _ _)
theorem iO{b:Type}(m:iy)(p:ah b):∀ s,DW s.h (aO m p s).2.h:=by
 induction p with
 |ret a=>intro s;exact DW.refl _|ask c k d=>intro s;exact (bCm m c s).trans (d _ _)
theorem jH{d:Type}{m:iy}(p:ah d):∀ {s},ru m s->(aO m p s).2.i<=1000000->ru m (aO m p s).2:=by
 induction p with
 |ret a=>intro s h _;exact h|ask c k e=>intro s h b;exact e _ (bKe h (mr (jL m _ _) b)) b
theorem uJ(m:iy)(a:Acc){s:h_}(h:s.stop=true):dV m a s=(iJ,s):=if_pos h
theorem pR{b:Type}(m:iy)(p:ah b):∀ s:h_,s.stop=true->(aO m p s).2=s:=by
 induction p with
 |ret a=>intro s h;rfl|ask c k d=>intro s h;rw[aO,uJ m c h];exact d _ _ h
theorem aGm{b:Type}{R:b->Prop}{p:ah b}(h:ah.All R p)(m:iy):∀ s,R (aO m p s).1:=by
 induction p with
 |ret a=>intro s;exact h|ask c k d=>intro s;exact d _ (h _) _
theorem bKg{g:Type}{m:iy}(f:m.live=false)(p:ah g):∀ {s:h_},s.stop=false ->
  match p.run (replay m.log) s.i with
  |.ok a j=>aO m p s=(a,⟨j,s.ask,false,s.cut,s.h⟩)|.error a j=>(aO m p s).2=⟨j,a,true,s.cut,s.h⟩:=by
 induction p with
 |ret a=>intro s b;obtain⟨i,n,o,q,h⟩:=s;dsimp only at b;subst b;rfl
 | ask c k l=>
  intro s b;simp only[ah.run,aO,replay];cases d:m.log[s.i]? with
  | none=>
   have e:dV m c s=(iJ,⟨s.i,c,true,s.cut,s.h⟩):=by unfold dV;rw[if_neg (by rw[b];exact Xw),if_neg (by rw[f];exact Xw),d]
   rw[e];exact pR m _ _ rfl
  | some r=>
   have e:dV m c s=(r,⟨s.i+1,s.ask,s.stop,s.cut,s.h⟩):=by unfold dV;rw[if_neg (by rw[b];exact Xw),if_neg (by rw[f];exact Xw),d]
   rw[e];exact l _ (s:=⟨s.i+1,s.ask,s.stop,s.cut,s.h⟩) b
def qo(m:iy)(s:h_):List PC:=[.sl 2 m.log.length (AZ m.log),.lit (.int .i64 (s.i:Int)),.lit (.int .i64 s.ask.kind),.lit (.int .i64 s.ask.jy),.lit (.int .i64 s.ask.cell),.lit (.string s.ask.bytes),.lit (.bool s.stop),.lit (.bool m.live),.sl 1 s.h.b.length (eX s.h.b),.sl 1 s.h.f.length (su s.h.f),.bs 16 s.h.r,.sl 3 m.F.length (Wi m.F),.lit (.bool s.cut)]
abbrev BC:=iy->h_->Prop
abbrev Ai:=iy->h_->h_×PV
def uw(f:Nat)(ys:List PV)(C:BC)(F:Ai):Prop:=∀ m s,ru m s->C m s->(F m s).1.i<=1000000 ->
 ui prog af f false [⟨px,96,qo m s,qo m (F m s).1⟩] (fun _=>none) none (fun _=>False) (.w (.one (.pt px 0 0))::ys) (F m s).2
def uq(m:iy)(s:h_)(a:List PV->Option (BC×Ai)):List PC->List PV->Option (Prop×List PC×PV):=fun l b=>match a b with
 |some (C,F)=>some ((l=qo m s/\ru m s)/\C m s/\(F m s).1.i<=1000000,qo m (F m s).1,(F m s).2)|none=>none
theorem eU{f:Nat}{a:List PV->Option (BC×Ai)}{m:iy}{s:h_}(e:∀ args w,(callFunc f args).run prog w=.ok (.enter f args) w)
  (k:∀ b C F,a b=some (C,F)->uw f b C F):ai prog af f (dI 96 (uq m s a)):=by
 refine wF e (fun l b p o r c i=>?_);unfold uq at c;cases h:a b with
 |none=>rw[h] at c;cases c|some d=>obtain⟨C,F⟩:=d;rw[h] at c;cases c;obtain⟨⟨rfl,g⟩,n,j⟩:=i;exact k b C F h m s g n j
end Pv
namespace Pv
theorem Lp{C:Ctx}{b:List (List Int)}{v:ag}(h:RV C (.w (.agg (BJ b))) v):∃ a,v=.agg #[a]/\qw C.w a b:=by
 cases h with
 | w h=>cases h with
  | @agg _ c h=>
   unfold BJ at h;obtain⟨c⟩:=c;change RL _ _ c at h;cases h with
   |cons k1 k2=>cases k2;obtain⟨a,e⟩:=aXw k1;subst e;refine⟨a,rfl,?_⟩;have:=aYv k1 (aMo _ b);rwa [aV] at this
theorem MJ{b:List (List Int)}{c cell:Int}(h:zx b c cell=true):∃ a d:Nat,c=a/\cell=d/\∃ f:a<b.length,d<b[a].length:=by
 have e:=aRs h;obtain⟨a,rfl⟩:=Int.eq_ofNat_of_zero_le e.1.1;obtain⟨d,rfl⟩:=Int.eq_ofNat_of_zero_le e.2.1;have f:a<b.length:=by have:=e.1.2;omega
 refine⟨a,d,rfl,rfl,f,?_⟩;have g:=e.2.2;rw[show ((a:Int)).toNat=a from rfl,zG,zH f,Yo] at g;exact Int.ofNat_lt.1 g
theorem II(b:List (List Int))(a cell:Int)(g:Bool)(o:zx b a cell=true):fP prog af 72 true [.w (.agg (BJ b)),di a,di cell,qy g] (.lu [.one (.lit (.int .i64 (fO (iI b a cell) g))),.one (.lit (.int .i64 0))]):=by
 intro w l k u m
 match k,m with
 | [v1,v2,v3,t],⟨k1,k2,k3,k4,_⟩=>
  obtain⟨q,rfl,n⟩:=Lp k1;obtain rfl:=k2.eu;obtain rfl:=k3.eu;obtain rfl:=k4.eu;obtain⟨f,d,rfl,rfl,j,h⟩:=MJ o;have r:iI b (f:Int) (d:Int)=b[f][d]:=by unfold iI;rw[show ((f:Int)).toNat=f from rfl,show ((d:Int)).toNat=d from rfl,zG,zG,zH j,Yo,zH h,Yo]
  rw[r];refine (aBg q b f d g w n j h).mono ?_;rintro e s ⟨rfl,p⟩;refine⟨_,rfl,p,.lu rfl (fun i x c=>?_)⟩
  match i,c with
  |0,c=>cases c;exact⟨_,rfl,.one (.lit rfl)⟩|1,c=>cases c;exact⟨_,rfl,.one (.lit rfl)⟩|i+2,c=>cases c
theorem IK(b:List (List Int))(a cell:Int)(cut:Bool)(q:zx b a cell=true)(hn:b.length<=1000)(h:∀ l∈b,l.length<=100000):fP prog af 194 false [.w (.agg (BJ b)),di a,di cell,qy cut] (XX (qi b a cell cut) 0):=by
 intro w g m C n
 match m,n with
 | [v1,v2,v3,B],⟨k1,k2,k3,k4,_⟩=>
  obtain⟨y,rfl,p⟩:=Lp k1;obtain rfl:=k2.eu;obtain rfl:=k3.eu;obtain rfl:=k4.eu;obtain⟨c,f,rfl,rfl,k,j⟩:=MJ q;have z:qi b (c:Int) (f:Int) cut=b.set c (b[c].set f (kK b[c][f] cut)):=by unfold qi iI;rw[show ((c:Int)).toNat=c from rfl,show ((f:Int)).toNat=f from rfl,zG,zG,zH k,Yo,zH j,Yo]
  rw[z];refine (bCv y b c f cut w p k j hn h).mono ?_;rintro e A ⟨u,rfl,s,t⟩;refine⟨_,rfl,t,?_⟩;have o:=bLa s (ok:=fun b=>(false=false/\g b)\/w.heap.size<=b) (fun b r=>.inr r);refine .lu rfl (fun i x d=>?_)
  match i,d with
  |0,d=>cases d;exact⟨_,rfl,.agg (.cons (xs:=[_]) o .nil)⟩|1,d=>cases d;exact⟨_,rfl,.one (.lit rfl)⟩|i+2,d=>cases d
def IJ:List PV->Option (Prop×PV)
 |[.w (.agg [.sl 1 n f]),.w (.one (.lit (.int .i64 jy))),.w (.one (.lit (.int .i64 cell))),.w (.one (.lit (.bool a)))]=>some (nY n f/\zx (dL n f) jy cell=true,.lu [.one (.lit (.int .i64 (fO (iI (dL n f) jy cell) a))),.one (.lit (.int .i64 0))])|_=>none
theorem bGx:ai prog af 72 (aZ true IJ):=by
 refine aW (aC func72 aj rfl) (fun k p r b d w c e j i=>?_);unfold IJ at b;split at b;rename_i n f a cell h;cases b
 match e,i with
 |[v1,v2,v3,g],⟨k1,k2,k3,k4,_⟩=>exact II (dL n f) a cell h d.2 w c [v1,v2,v3,g] j ⟨ZY d.1 k1,k2,k3,k4,trivial⟩
 cases b
def IL:List PV->Option (Prop×PV)
 |[.w (.agg [.sl 1 n f]),.w (.one (.lit (.int .i64 jy))),.w (.one (.lit (.int .i64 c))),.w (.one (.lit (.bool cut)))]=>some (nY n f/\n<=1000/\(∀ l∈dL n f,l.length<=100000)/\zx (dL n f) jy c=true,XX (qi (dL n f) jy c cut) 0)|_=>none
theorem bGy:ai prog af 194 (aZ false IL):=by
 refine aW (aC func194 aj rfl) (fun s p r b j w d g k i=>?_);unfold IL at b;split at b;rename_i n f a c e;cases b;obtain⟨q,o,m,l⟩:=j
 match g,i with
 |[v1,v2,v3,h],⟨k1,k2,k3,k4,_⟩=>exact IK (dL n f) a c e l (by rw[iC];exact o) m w d [v1,v2,v3,h] k ⟨ZY q k1,k2,k3,k4,trivial⟩
 cases b
end Pv
theorem bFb(l:ag)(a:List (List Int))(d:Nat)(w:ae)(h:qw w l a)(hb:d<a.length) :
  ik prog 71 #[.agg #[l],.int .i64 (d:Int)] w fun e m=>e=.returned (.int .i64 ((a[d].length / 3:Nat):Int))/\Ext w m:=by
 obtain⟨b,o,c,t,rfl,n,i,j⟩:=h.at_ hb;have g:a.length<=uC:=by obtain⟨p,k,_⟩:=h.ex;exact k.zn
 have f:=j.zn;unfold uC at g f;obtain⟨_,B,s,rfl,_,_,_⟩:=j;have k:decide ((a.length:Int)<=(d:Int))=false:=by simp;omega
 have r:decide ((a.length)<=(d))=false:=by simp;omega
 have q:(d:Int)<(a.length:Int):=by omega
 clear h
 go_enter func71,ntmps71
 go_wp2
 go_ret
 exact⟨tK a_,by
  repeat' (first|(with_reducible exact dm.refl _ _)|(with_reducible exact Ext.refl _)|(with_reducible assumption)|(with_reducible refine dm.alloc ?_ _)|(with_reducible refine dm.drew ?_)|(with_reducible refine dm.drewN ?_ _)|(with_reducible refine dm.setCell ?_ ?_ _)|(with_reducible refine Ext.alloc ?_ _)|(with_reducible refine Ext.drew ?_)|(with_reducible refine Ext.drewN ?_ _)|(with_reducible refine Ext.setCell ?_ ?_ _)|(simp;done)|(simp;omega)|omega)
  ⟩
theorem aPm(O:ag)(a:List (List Int))(b:Nat)(d:Bool)(w:ae)(h:qw w O a)(hb:b<a.length)(hn:a[b].length<=100000) :
  ik prog 42 #[.agg #[O],.int .i64 (b:Int),.bool d] w fun e W=>e=.returned (.int .i64 (kW a[b] d))/\Ext w W:=by
 have C:=hide h;obtain⟨_,⟨_,A,c,rfl,_⟩,_⟩:=h.ex;clear h;have HN:=hide (rfl:a[b].length / 3=a[b].length / 3);generalize E:a[b].length / 3=m at HN;have a1:m<=100000:=by omega
 have U:=hide E
 go_enter func42,ntmps42
 go_wp2_with fail
 refine (bFb _ a b _ ((aA C).ext ((Ext.refl w).alloc _)) hb).mono ?_;rintro e V ⟨rfl,o⟩;rw[E];have l:=hide (az ((dh.new w 60 #[.slice A a.length c]).ext o) (((Ext.refl w).alloc _).trans o));clear o E
 go_wp2
 go_loopw [8] (fun i wr=>∃ k:Nat,k<=m/\i=.int .i64 k/\Ext V wr/\wO a[b] d (m-k) k=kW a[b] d) (fun i _=>m-(intOf i).toNat)
 case atStart=>exact⟨0,Nat.zero_le _,rfl,Ext.refl _,by rw[Nat.sub_zero,<-aA U];rfl⟩
 case round=>
  obtain⟨k,hk,rfl,o,N⟩:=hrel;have n:=hide (az o N);clear o N;by_cases a2:k<m
  ·have t:=aA U;have H:3*k<a[b].length:=by omega
   have G:3*k+1<a[b].length:=by omega
   have F:3*k+2<a[b].length:=by omega
   have T:=hide (show Xb a[b] d k=decide (2<=fO a[b][3*k] d+fO a[b][3*k+1] d+fO a[b][3*k+2] d) from by unfold Xb;rw[getD_at H,getD_at G,getD_at F]);have S:=aBg (.slice A a.length c) a b (3*k) d;have Q:=aBg (.slice A a.length c) a b (3*k+1) d;have P:=aBg (.slice A a.length c) a b (3*k+2) d;have g0:=aCe a[b][3*k] d;have g1:=aCe a[b][3*k+1] d;have g2:=aCe a[b][3*k+2] d;have C0:=hide fun w u=>S w u hb H;have C1:=hide fun w u=>Q w u hb G;have C2:=hide fun w u=>P w u hb F;generalize fO a[b][3*k] d=K at *;generalize fO a[b][3*k+1] d=J at *;generalize fO a[b][3*k+2] d=I at *;clear S Q P H G F t;obtain⟨s,q,p⟩:=((aA l).1.ext (aA n).1).AO;have Z:IntKind.i64.wrap (3*(k:Int))=((3*k:Nat):Int):=by rw[IntWalk.i64_in _ a_];omega
   go_wp2_with fail
   refine (aA C0 _ ((aA C).ext ((aA l).2.trans (aA n).1))).mono ?_;rintro e wa ⟨rfl,z⟩;have g:=hide ((aA n).1.trans z);clear z s q p;obtain⟨s,q,p⟩:=((aA l).1.ext (aA g)).AO;have Y:IntKind.i64.wrap (((3*k:Nat):Int)+1)=((3*k+1:Nat):Int):=by rw[IntWalk.i64_in _ a_];omega
   have X:IntKind.i64.wrap (((3*k:Nat):Int)+2)=((3*k+2:Nat):Int):=by rw[IntWalk.i64_in _ a_];omega
   go_wp2_with fail
   refine (aA C1 _ ((aA C).ext ((aA l).2.trans (aA g)))).mono ?_;rintro e wb ⟨rfl,y⟩;have f:=hide ((aA g).trans y);clear y s q p g;obtain⟨s,q,p⟩:=((aA l).1.ext (aA f)).AO
   go_wp2_with fail
   refine (aA C2 _ ((aA C).ext ((aA l).2.trans (aA f)))).mono ?_;rintro e wc ⟨rfl,x⟩;have B:=hide ((aA f).trans x);clear x s q p f Z Y X;by_cases L:K+J+I<2
   ·go_wp2
    go_ret;have hb:Xb a[b] d k=false:=by rw[aA T];simpa using L
    have j:=(aA n).2;obtain⟨r,D⟩:∃ r,m-k=r+1:=⟨m-k-1,by omega⟩;rw[D,bCl hb] at j;exact⟨tK (by rw[j]),(aA l).2.trans (aA B)⟩
   ·have a0:decide (K+J+I<2)=false:=by simpa using L
    have hb:Hid (Xb a[b] d k=true):=hide (by rw[aA T];simp;omega)
    go_wp2
    go_roundw
    case rel=>have j:=(aA n).2;obtain⟨r,D⟩:∃ r,m-k=r+1:=⟨m-k-1,by omega⟩;rw[D,aVf (aA hb)] at j;exact⟨k+1,by omega,by go_num,aA B,by rw[show m-(k+1)=r from by omega];exact j⟩
    case measure=>simp[intOf];omega
  ·obtain rfl:k=m:=by omega
   go_wp2
   go_ret;have j:=(aA n).2;rw[YB] at j
   exact⟨tK (by rw[<-j];rfl),(aA l).2.trans (aA n).1⟩
theorem bJv(f:ag)(a:List (List Int))(b:Nat)(w:ae)(h:qw w f a)(hb:b<a.length)(hn:a[b].length<=100000) :
  ik prog 27 #[.agg #[f],.int .i64 (b:Int)] w fun e g=>e=.returned (.int .i64 (kW a[b] false))/\Ext w g:=by
 have i:=hide h;obtain⟨_,⟨_,A,c,rfl,_⟩,_⟩:=h.ex;clear h
 go_enter func27,ntmps27
 go_wp2_with fail
 refine (aPm _ a b false _ ((aA i).ext ((Ext.refl w).alloc _)) hb hn).mono ?_;rintro e k ⟨rfl,d⟩;have j:=hide d;clear d
 go_wp2
 go_ret;exact⟨rfl,((Ext.refl w).alloc _).trans (aA j)⟩
namespace Pv
def aVh:List PV->Option (Prop×PV)
 |[.w (.agg [.sl 1 n f]),.w (.one (.lit (.int .i64 3)))]=>some (nY n f/\3<n/\((dL n f).getD 3 []).length<=100000,di (kW ((dL n f).getD 3 []) false))|_=>none
theorem aVg:ai prog af 27 (aZ true aVh):=by
 refine aW (aC func27 aj rfl) (fun s p r a j w h g u i=>?_);unfold aVh at a;split at a;rename_i n f;cases a;obtain⟨o,m,c⟩:=j
 match g,i with
 | [v1,v2],⟨k1,k2,_⟩=>
  obtain rfl:=k2.eu;cases k1 with
  | w k1=>cases k1 with
   | @agg _ d k1=>
    obtain⟨d⟩:=d;dsimp only at k1;cases k1 with
    | cons q k1=>
     cases k1;cases q with
     |sl b1 b2 b3=>
      have k:=aYv (.sl b1 b2 b3) o;have b:3<(dL n f).length:=by rw[iC];exact m
      have e:(dL n f).getD 3 []=(dL n f)[3]:=by rw[zG,zH b];rfl
      rw[e] at c ⊢;refine (bJv _ (dL n f) 3 w k b c).mono ?_;rintro e t ⟨rfl,l⟩;exact⟨_,rfl,l,.w (.one (.lit rfl))⟩
 cases a
def TK:List UInt8:=[115,116,97,116,101]
def Cj(o:ja):je:={ Bv 0 5 with ot:=o.ot,ol:=o.ol }
def Aw(o:ja):je:={ Bv 1 7 with xt:=o.xt,xl:=o.xl,bn:=o.bn,bc:=o.bc,bt:=o.bt }
def op0:je:=⟨0,vz,vz,vz,aH,vz,0,vz,0,0,aH,vz⟩
theorem XM(b:ByteArray)(n:Nat):∀ i r,b.size-i=n->ByteArray.toList.loop b i r=r.reverse++b.data.toList.drop i:=by
 induction n with
 |zero=>intro i r h;rw[ByteArray.toList.loop,if_neg a_,List.drop_eq_nil_of_le (by show b.data.toList.length<=i;have:b.data.toList.length=b.size:=rfl;omega),Pi]| succ n c=>
  intro i r h;have a:i<b.data.toList.length:=by show i<b.size;omega
  rw[ByteArray.toList.loop,if_pos a_,c (i+1) _ a_,List.reverse_cons,List.append_assoc,aDk a];congr 1
  show[b.get! i]++_=_
  have:b.get! i=b.data.toList[i]:=by show b.data[i]! = _;rw[getElem!_pos b.data i a,Array.getElem_toList]
  rw[this];rfl
theorem bOd(b:ByteArray):b.toList=b.data.toList:=by unfold ByteArray.toList;rw[XM b b.size 0 [] rfl];rfl
theorem aZr{h:jk}(d:vg h):(h.b[3]?.getD []).length<=100000:=by have:=d.l3;rw[zG] at this;omega
theorem VG:zh op0:=⟨rfl,rfl,rfl,rfl,by show g_ 0;unfold g_;omega,by show g_ 0;unfold g_;omega,by show g_ 0;unfold g_;omega,by show aH.size<=10000;decide,by show aH.size<=2000;decide⟩
def aJN(H:Nat->jk)(_ _ _ _ _ _ _ _:QS):St:=⟨[(1,none,d_ (.pt 1000 0 0))],[(1000,none,0,.box 57 (Dk H false))]⟩
def aJM(H:Nat->jk)(a _ _ _ _ _ _ _:QS):St:=⟨[(3,none,d_ (.pt 2012 0 0)),(1,none,d_ (.pt 1000 0 0))],[(2012,none,0,.box 40 (gm (bZ a.1))),(1000,none,0,.box 57 (Dk H false))]⟩
def aJL(H:Nat->jk)(a _ _ _ _ _ _ _:QS):St:=⟨[(4,none,d_ (.pt 3001 0 0)),(3,none,d_ (.pt 2012 0 0)),(1,none,d_ (.pt 1000 0 0))],[(3001,none,0,.box 31 (um (Cj (bZ a.1)))),(2012,none,0,.box 40 (gm (bZ a.1))),(1000,none,0,.box 57 (Dk H false))]⟩
def aJK(H:Nat->jk)(b a _ _ _ _ _ _:QS):St:=⟨[(6,none,d_ (.pt 5012 0 0)),(5,none,d_ (.pt 5011 0 0)),(3,none,d_ (.pt 2012 0 0)),(1,none,d_ (.pt 1000 0 0))],[(5012,none,0,.box 40 (gm (bZ a.1))),(5011,none,0,.box 65 (pz a.2.1)),(2012,none,0,.box 40 (gm (bZ b.1))),(1000,none,0,.box 57 (Dk H false))]⟩
def aJJ(H:Nat->jk)(c a b _ _ _ _ _:QS):St:=⟨[(8,none,d_ (.pt 6007 0 0)),(6,none,d_ (.pt 5012 0 0)),(5,none,d_ (.pt 5011 0 0)),(3,none,d_ (.pt 2012 0 0)),(1,none,d_ (.pt 1000 0 0))],[(6007,none,0,.box 40 (gm (bZ b.1))),(5012,none,0,.box 40 (gm (bZ a.1))),(5011,none,0,.box 65 (pz a.2.1)),(2012,none,0,.box 40 (gm (bZ c.1))),(1000,none,0,.box 57 (Dk H false))]⟩
def aJI(H:Nat->jk)(c a b _ _ _ _ _:QS):St:=⟨[(9,none,d_ (.pt 7001 0 0)),(8,none,d_ (.pt 6007 0 0)),(6,none,d_ (.pt 5012 0 0)),(5,none,d_ (.pt 5011 0 0)),(3,none,d_ (.pt 2012 0 0)),(1,none,d_ (.pt 1000 0 0))],[(7001,none,0,.box 31 (um (Aw (bZ a.1)))),(6007,none,0,.box 40 (gm (bZ b.1))),(5012,none,0,.box 40 (gm (bZ a.1))),(5011,none,0,.box 65 (pz a.2.1)),(2012,none,0,.box 40 (gm (bZ c.1))),(1000,none,0,.box 57 (Dk H false))]⟩
def aJH(H:Nat->jk)(d a c b _ _ _ _:QS):St:=⟨[(11,none,d_ (.pt 9012 0 0)),(10,none,d_ (.pt 9011 0 0)),(9,none,d_ (.pt 7001 0 0)),(8,none,d_ (.pt 6007 0 0)),(6,none,d_ (.pt 5012 0 0)),(5,none,d_ (.pt 5011 0 0)),(3,none,d_ (.pt 2012 0 0)),(1,none,d_ (.pt 1000 0 0))],[(9012,none,0,.box 40 (gm (bZ b.1))),(9011,none,0,.box 65 (pz b.2.1)),(7001,none,0,.box 31 (um (Aw (bZ a.1)))),(6007,none,0,.box 40 (gm (bZ c.1))),(5012,none,0,.box 40 (gm (bZ a.1))),(5011,none,0,.box 65 (pz a.2.1)),(2012,none,0,.box 40 (gm (bZ d.1))),(1000,none,0,.box 57 (Dk H false))]⟩
def aAJ(H:Nat->jk)(e b d a c _ _ _:QS):St:=⟨[(13,none,d_ (.pt 10007 0 0)),(11,none,d_ (.pt 9012 0 0)),(10,none,d_ (.pt 9011 0 0)),(8,none,d_ (.pt 6007 0 0)),(6,none,d_ (.pt 5012 0 0)),(5,none,d_ (.pt 5011 0 0)),(3,none,d_ (.pt 2012 0 0)),(1,none,d_ (.pt 1000 0 0))],[(10007,none,0,.box 40 (gm (bZ c.1))),(9012,none,0,.box 40 (gm (bZ a.1))),(9011,none,0,.box 65 (pz a.2.1)),(6007,none,0,.box 40 (gm (bZ d.1))),(5012,none,0,.box 40 (gm (bZ b.1))),(5011,none,0,.box 65 (pz b.2.1)),(2012,none,0,.box 40 (gm (bZ e.1))),(1000,none,0,.box 57 (Dk H false))]⟩
def aAI(H:Nat->jk)(f c e b d a _ _:QS):St:=⟨[(15,none,d_ (.pt 11007 0 0)),(14,none,d_ (.pt 11006 0 0)),(13,none,d_ (.pt 10007 0 0)),(11,none,d_ (.pt 9012 0 0)),(10,none,d_ (.pt 9011 0 0)),(8,none,d_ (.pt 6007 0 0)),(6,none,d_ (.pt 5012 0 0)),(5,none,d_ (.pt 5011 0 0)),(3,none,d_ (.pt 2012 0 0)),(1,none,d_ (.pt 1000 0 0))],[(11007,none,0,.box 40 (gm (bZ a.1))),(11006,none,0,.box 65 (pz a.2.1)),(10007,none,0,.box 40 (gm (bZ d.1))),(9012,none,0,.box 40 (gm (bZ b.1))),(9011,none,0,.box 65 (pz b.2.1)),(6007,none,0,.box 40 (gm (bZ e.1))),(5012,none,0,.box 40 (gm (bZ c.1))),(5011,none,0,.box 65 (pz c.2.1)),(2012,none,0,.box 40 (gm (bZ f.1))),(1000,none,0,.box 57 (Dk H false))]⟩
def aAH(H:Nat->jk)(g b f a e d c _:QS):St:=⟨[(17,none,d_ (.pt 12007 0 0)),(15,none,d_ (.pt 11007 0 0)),(13,none,d_ (.pt 10007 0 0)),(11,none,d_ (.pt 9012 0 0)),(10,none,d_ (.pt 9011 0 0)),(8,none,d_ (.pt 6007 0 0)),(6,none,d_ (.pt 5012 0 0)),(5,none,d_ (.pt 5011 0 0)),(3,none,d_ (.pt 2012 0 0)),(1,none,d_ (.pt 1000 0 0))],[(12007,none,0,.box 40 (gm (bZ c.1))),(11007,none,0,.box 40 (gm (bZ d.1))),(10007,none,0,.box 40 (gm (bZ e.1))),(9012,none,0,.box 40 (gm (bZ a.1))),(9011,none,0,.box 65 (pz a.2.1)),(6007,none,0,.box 40 (gm (bZ f.1))),(5012,none,0,.box 40 (gm (bZ b.1))),(5011,none,0,.box 65 (pz b.2.1)),(2012,none,0,.box 40 (gm (bZ g.1))),(1000,none,0,.box 57 (Dk H false))]⟩
def aAG(H:Nat->jk)(h b g a f e d c:QS):St:=⟨[(19,none,d_ (.pt 13007 0 0)),(17,none,d_ (.pt 12007 0 0)),(15,none,d_ (.pt 11007 0 0)),(13,none,d_ (.pt 10007 0 0)),(11,none,d_ (.pt 9012 0 0)),(10,none,d_ (.pt 9011 0 0)),(8,none,d_ (.pt 6007 0 0)),(6,none,d_ (.pt 5012 0 0)),(5,none,d_ (.pt 5011 0 0)),(3,none,d_ (.pt 2012 0 0)),(1,none,d_ (.pt 1000 0 0))],[(13007,none,0,.box 40 (gm (bZ c.1))),(12007,none,0,.box 40 (gm (bZ d.1))),(11007,none,0,.box 40 (gm (bZ e.1))),(10007,none,0,.box 40 (gm (bZ f.1))),(9012,none,0,.box 40 (gm (bZ a.1))),(9011,none,0,.box 65 (pz a.2.1)),(6007,none,0,.box 40 (gm (bZ g.1))),(5012,none,0,.box 40 (gm (bZ b.1))),(5011,none,0,.box 65 (pz b.2.1)),(2012,none,0,.box 40 (gm (bZ h.1))),(1000,none,0,.box 57 (Dk H false))]⟩
def aAF(H:Nat->jk)(g a _ b f e d c:QS):St:=⟨[(22,none,qy true),(19,none,d_ (.pt 13007 0 0)),(17,none,d_ (.pt 12007 0 0)),(15,none,d_ (.pt 11007 0 0)),(13,none,d_ (.pt 10007 0 0)),(11,none,d_ (.pt 9012 0 0)),(10,none,d_ (.pt 9011 0 0)),(8,none,d_ (.pt 6007 0 0)),(6,none,d_ (.pt 5012 0 0)),(5,none,d_ (.pt 5011 0 0)),(3,none,d_ (.pt 2012 0 0)),(1,none,d_ (.pt 1000 0 0))],[(13007,none,0,.box 40 (gm { bZ c.1 with err:=14 })),(12007,none,0,.box 40 (gm { bZ d.1 with session:=1 })),(11007,none,0,.box 40 (gm { bZ e.1 with payload:=strOf TK,session:=0 })),(10007,none,0,.box 40 (gm { bZ f.1 with err:=21 })),(9012,none,0,.box 40 (gm { bZ b.1 with err:=0,payload:=strOf TK })),(9011,none,0,.box 65 (pz b.2.1)),(6007,none,0,.box 40 (gm { bZ a.1 with err:=0 })),(5012,none,0,.box 40 (gm { bZ a.1 with err:=0 })),(5011,none,0,.box 65 (pz a.2.1)),(2012,none,0,.box 40 (gm { bZ g.1 with ot:=Qx 1,ol:=0 })),(1000,none,0,.box 57 (Dk H false))]⟩
def saL(H:Nat->jk):List (Nat×Spec):=[(12,newSpec 57 (Dk H false)),(14,aZ true QC),(20,aZ false aVc),(10,aZ true EK),(27,aZ true aVh),(26,aZ true idG)]
theorem saM{H:Nat->jk}(hb:aSv prog af 12 57 (Dk H false)):jl prog af (find (saL H)):=⟨bD (fun p a=>by
 simp only[saL,xn,Xq,or_false] at a;rcases a with rfl|rfl|rfl|rfl|rfl|rfl;exact bCa (aC func12 aj rfl) hb;exact aYc;exact bJl;exact aQf;exact aVg
 exact bKr),dG⟩
theorem P9{H:Nat->jk}(hb:aSv prog af 12 57 (Dk H false))(e a j c i d h g:QS)(z:EStateM.Result Acc Nat ja)
  (e1:iF [] (dF (Bv 1 4)) (H 1) 0=e) (e2:iF [] (dF (Cj (bZ e.1))) (H 0) 0=a) (Y:iF [] (dF (Bv 0 6)) a.2.1 0=j) (I:iF [] (dF (Aw (bZ a.1))) (H 1) 0=c)
  (X:iF [] (dF (Aw (bZ a.1))) c.2.1 0=i) (G:iF [] (dF (Bv 1 2)) c.2.1 0=d) (W:iF [] (dF (Bv 1 2)) d.2.1 0=h) (V:iF [] (dF (Bv 0 2)) a.2.1 0=g) (U:(dF op0).run (replay []) 0=z)
  (d0:vg (H 0)) (J:vg (H 1)) (w:vg a.2.1) (u:vg c.2.1) (Z:vg d.2.1) (K:zh (Cj (bZ e.1))) (y:zh (Aw (bZ a.1)))
  (F:(bZ e.1).ot=Qx 1/\(bZ e.1).ol=0) (E:(bZ a.1).err=0) (T:bZ j.1=bZ a.1) (D:(bZ c.1).err=0/\(bZ c.1).payload=strOf TK) (S:(bZ i.1).err=21) (C:(bZ d.1).payload=strOf TK/\(bZ d.1).session=0) (Q:(bZ h.1).session=1) (P:(bZ g.1).err=14) (x:OX z=true)
  (B:kW (a.2.1.b.getD 3 []) false=2) (lb:kW (c.2.1.b.getD 3 []) false=1):fP prog af 9 true [] (qy true):=by
 have M:=saM hb;have t:bZ e.1={ bZ e.1 with ot:=Qx 1,ol:=0 }:=by rw[<-F.1,<-F.2]
 have s:bZ a.1={ bZ a.1 with err:=0 }:=by rw[<-E]
 have q:bZ j.1={ bZ a.1 with err:=0 }:=by rw[T,<-E]
 have p:bZ c.1={ bZ c.1 with err:=0,payload:=strOf TK }:=by rw[<-D.1,<-D.2]
 have o:bZ i.1={ bZ i.1 with err:=21 }:=by rw[<-S]
 have m:bZ d.1={ bZ d.1 with payload:=strOf TK,session:=0 }:=by rw[<-C.1,<-C.2]
 have l:bZ h.1={ bZ h.1 with session:=1 }:=by rw[<-Q]
 have k:bZ g.1={ bZ g.1 with err:=14 }:=by rw[<-P]
 refine bH func9 rfl rfl bK (fun A hS N O=>?_);refine aB ?_;refine aB ?_;refine aU (aJN H e a j c i d h g) ?_ ?_ ?_;exact .cons rfl (.nil);refine .cons (.box rfl) (.nil);refine aF ?_ ?_;simp;exact⟨J,aQa 1 4⟩;refine aU (aJM H e a j c i d h g) ?_ ?_ ?_;exact .cons rfl (.cons rfl (.nil));refine .cons (.box ?_) (.cons (.box rfl) (.nil));rw[<-e1];change gm (bZ (iF [] (dF (Bv 1 4)) (⟨dL (H 1).b.length (eX (H 1).b),jX (H 1).f.length (su (H 1).f),(H 1).r⟩:jk) 0).1)=_;rw[aV,bW];refine aB ?_;refine aB ?_;refine aU (aJL H e a j c i d h g) ?_ ?_ ?_;exact .cons rfl (.cons rfl (.cons rfl (.nil)));refine .cons (.box rfl) (.cons (.box rfl) (.cons (.box rfl) (.nil)));refine aF ?_ ?_;simp;exact⟨d0,K⟩;refine aU (aJK H e a j c i d h g) ?_ ?_ ?_;exact .cons rfl (.cons rfl (.cons rfl (.cons rfl (.nil))));refine .cons (.box ?_) (.cons (.box ?_) (.cons (.box rfl) (.cons (.box rfl) (.nil))));rw[<-e2];change gm (bZ (iF [] (dF (Cj (bZ e.1))) (⟨dL (H 0).b.length (eX (H 0).b),jX (H 0).f.length (su (H 0).f),(H 0).r⟩:jk) 0).1)=_;rw[aV,bW];rw[<-e2];change pz (iF [] (dF (Cj (bZ e.1))) (⟨dL (H 0).b.length (eX (H 0).b),jX (H 0).f.length (su (H 0).f),(H 0).r⟩:jk) 0).2.1=_;rw[aV,bW];refine aF ?_ ?_;simp;exact⟨w,aQa 0 6⟩;refine aU (aJJ H e a j c i d h g) ?_ ?_ ?_;exact .cons rfl (.cons rfl (.cons rfl (.cons rfl (.cons rfl (.nil)))));refine .cons (.box ?_) (.cons (.box rfl) (.cons (.box rfl) (.cons (.box rfl) (.cons (.box rfl) (.nil)))));rw[<-Y];change gm (bZ (iF [] (dF (Bv 0 6)) (⟨dL (a.2.1).b.length (eX (a.2.1).b),jX (a.2.1).f.length (su (a.2.1).f),(a.2.1).r⟩:jk) 0).1)=_;rw[aV,bW];refine aB ?_;refine aB ?_;refine aU (aJI H e a j c i d h g) ?_ ?_ ?_;exact .cons rfl (.cons rfl (.cons rfl (.cons rfl (.cons rfl (.cons rfl (.nil))))));refine .cons (.box rfl) (.cons (.box rfl) (.cons (.box rfl) (.cons (.box rfl) (.cons (.box rfl) (.cons (.box rfl) (.nil))))));refine aF ?_ ?_;simp;exact⟨J,y⟩;refine aU (aJH H e a j c i d h g) ?_ ?_ ?_;exact .cons rfl (.cons rfl (.cons rfl (.cons rfl (.cons rfl (.cons rfl (.cons rfl (.cons rfl (.nil))))))));refine .cons (.box ?_) (.cons (.box ?_) (.cons (.box rfl) (.cons (.box rfl) (.cons (.box rfl) (.cons (.box rfl) (.cons (.box rfl) (.cons (.box rfl) (.nil))))))));rw[<-I];change gm (bZ (iF [] (dF (Aw (bZ a.1))) (⟨dL (H 1).b.length (eX (H 1).b),jX (H 1).f.length (su (H 1).f),(H 1).r⟩:jk) 0).1)=_;rw[aV,bW];rw[<-I];change pz (iF [] (dF (Aw (bZ a.1))) (⟨dL (H 1).b.length (eX (H 1).b),jX (H 1).f.length (su (H 1).f),(H 1).r⟩:jk) 0).2.1=_;rw[aV,bW];refine aF ?_ ?_;simp;exact⟨u,y⟩;refine aU (aAJ H e a j c i d h g) ?_ ?_ ?_;exact .cons rfl (.cons rfl (.cons rfl (.cons rfl (.cons rfl (.cons rfl (.cons rfl (.cons rfl (.nil))))))));refine .cons (.box ?_) (.cons (.box rfl) (.cons (.box rfl) (.cons (.box rfl) (.cons (.box rfl) (.cons (.box rfl) (.cons (.box rfl) (.cons (.box rfl) (.nil))))))));rw[<-X];change gm (bZ (iF [] (dF (Aw (bZ a.1))) (⟨dL (c.2.1).b.length (eX (c.2.1).b),jX (c.2.1).f.length (su (c.2.1).f),(c.2.1).r⟩:jk) 0).1)=_;rw[aV,bW];refine aF ?_ ?_;simp;exact⟨u,aQa 1 2⟩;refine aU (aAI H e a j c i d h g) ?_ ?_ ?_;exact .cons rfl (.cons rfl (.cons rfl (.cons rfl (.cons rfl (.cons rfl (.cons rfl (.cons rfl (.cons rfl (.cons rfl (.nil))))))))));refine .cons (.box ?_) (.cons (.box ?_) (.cons (.box rfl) (.cons (.box rfl) (.cons (.box rfl) (.cons (.box rfl) (.cons (.box rfl) (.cons (.box rfl) (.cons (.box rfl) (.cons (.box rfl) (.nil))))))))));rw[<-G];change gm (bZ (iF [] (dF (Bv 1 2)) (⟨dL (c.2.1).b.length (eX (c.2.1).b),jX (c.2.1).f.length (su (c.2.1).f),(c.2.1).r⟩:jk) 0).1)=_;rw[aV,bW];rw[<-G];change pz (iF [] (dF (Bv 1 2)) (⟨dL (c.2.1).b.length (eX (c.2.1).b),jX (c.2.1).f.length (su (c.2.1).f),(c.2.1).r⟩:jk) 0).2.1=_;rw[aV,bW];refine aF ?_ ?_;simp;exact⟨Z,aQa 1 2⟩
 refine aU (aAH H e a j c i d h g) ?_ ?_ ?_;exact .cons rfl (.cons rfl (.cons rfl (.cons rfl (.cons rfl (.cons rfl (.cons rfl (.cons rfl (.cons rfl (.cons rfl (.nil))))))))));refine .cons (.box ?_) (.cons (.box rfl) (.cons (.box rfl) (.cons (.box rfl) (.cons (.box rfl) (.cons (.box rfl) (.cons (.box rfl) (.cons (.box rfl) (.cons (.box rfl) (.cons (.box rfl) (.nil))))))))));rw[<-W];change gm (bZ (iF [] (dF (Bv 1 2)) (⟨dL (d.2.1).b.length (eX (d.2.1).b),jX (d.2.1).f.length (su (d.2.1).f),(d.2.1).r⟩:jk) 0).1)=_;rw[aV,bW];refine aF ?_ ?_;simp;exact⟨w,aQa 0 2⟩;refine aU (aAG H e a j c i d h g) ?_ ?_ ?_;exact .cons rfl (.cons rfl (.cons rfl (.cons rfl (.cons rfl (.cons rfl (.cons rfl (.cons rfl (.cons rfl (.cons rfl (.cons rfl (.nil)))))))))));refine .cons (.box ?_) (.cons (.box rfl) (.cons (.box rfl) (.cons (.box rfl) (.cons (.box rfl) (.cons (.box rfl) (.cons (.box rfl) (.cons (.box rfl) (.cons (.box rfl) (.cons (.box rfl) (.cons (.box rfl) (.nil)))))))))));rw[<-V];change gm (bZ (iF [] (dF (Bv 0 2)) (⟨dL (a.2.1).b.length (eX (a.2.1).b),jX (a.2.1).f.length (su (a.2.1).f),(a.2.1).r⟩:jk) 0).1)=_;rw[aV,bW];refine aF ?_ ?_;simp;exact⟨VG,by unfold bOv;simp⟩;refine aU (aAF H e a j c i d h g) ?_ ?_ ?_;exact .cons (congrArg qy (by change OX ((dF op0).run (replay []) 0)=true;rw[U];exact x)) (.cons rfl (.cons rfl (.cons rfl (.cons rfl (.cons rfl (.cons rfl (.cons rfl (.cons rfl (.cons rfl (.cons rfl (.cons rfl (.nil))))))))))));refine .cons (.box ?_) (.cons (.box ?_) (.cons (.box ?_) (.cons (.box ?_) (.cons (.box ?_) (.cons (.box rfl) (.cons (.box ?_) (.cons (.box ?_) (.cons (.box rfl) (.cons (.box ?_) (.cons (.box rfl) (.nil)))))))))));exact congrArg gm k;exact congrArg gm l;exact congrArg gm m;exact congrArg gm o;exact congrArg gm p;exact congrArg gm q;exact congrArg gm s;exact congrArg gm t;refine aKy M O N (outs:=?_) (s':=?_) ?_ ?_ ?_ ?_;rotate_left 2
 with_unfolding_all rfl
 kernel_rfl;simp[hP]
 exact⟨fun _=>⟨w.n,aZr w⟩,fun _ _=>⟨u.n,aZr u⟩⟩;refine aU (⟨[(0,none,qy true)],[]⟩) ?_ ?_ ?_;refine .cons (congrArg qy ?_) .nil;have L:(strOf TK).toList=[115,116,97,116,101]:=by rw[bOd];exact bV _
 rw[zG] at B lb;simp[L,B,lb];exact .nil;exact jC
def stB:ByteArray:=strOf TK
theorem TB{m:je}{h b:jk}{x:Except Int ja}(e:uf (nN m) h=(x,b)):∃ n,iF [] (dF m) h 0=(some (Et dX x),b,n):=by obtain⟨n,a⟩:=aVs dX (nN m) h 0;rw[e] at a;exact⟨n,a⟩
theorem sO{n:Nat}(hn:n<=16):(cl n).length=48:=by unfold cl;rw[ed,Yk,Yk];omega
theorem XD{n:Nat}:∀ x∈cl n,0<=x/\x<=3:=by intro x a;rcases List.mem_append.1 a with a|a;rw[aFK a];omega;rw[aFK a];omega
theorem aDz{a b:Nat}{f:Fl}{r:List UInt8}(h:a<=16)(hb:b<=16)(d:Sz f)(hr:r.length=16):vg (y_ (cl a) (cl b) f r):=by
 have i:FB=cl 0:=XI;refine⟨⟨by show 4<=1000;decide,?_,?_,?_,?_,hr⟩,by show 3<4;decide,sO h,sO hb,by show 64<=f.length;rw[d.1];decide⟩;intro l g;have c:l∈[FB,FB,cl a,cl b]:=g;simp only[xn,Xq,or_false,i] at c;rcases c with rfl|rfl|rfl|rfl;rw[sO a_];decide;rw[sO a_];decide;rw[sO h];decide;rw[sO hb];decide
 ·intro l g x e;have c:l∈[FB,FB,cl a,cl b]:=g;simp only[xn,Xq,or_false,i] at c
  rcases c with rfl|rfl|rfl|rfl<;>exact XD x e
 show f.length<=1000000;rw[d.1];decide;intro x e;rw[d.2 x e];decide
def crO:ja:={ kz with payload:=stB }
theorem bOb:∃ n a,iF [] (dF Su) (En (lM 0)) 0=(some crO,y_ (cl 0) (cl 1) a (lM 0),n)/\CZ a 1 (lM 0) (qL 0 stB):=by obtain⟨n,b⟩:=TB (bDj (m:=Su) (n:=0) (c2:=cl 0) (f:=Cc) (q:=lM 0) rfl (by show (5:Nat)<=1000;decide) aDq jc jc rfl);refine⟨n,_,b,?_⟩;exact aUm (root:=lM 0) aDq jc jc (aMh (p:=stB) jc (by show (5:Nat)<=1000;decide))
theorem aOo{r:jg}(a:r.ot=Qx 1):Tra (Aw (gW (BK 7) r)) r.payload:=by refine⟨?_,?_,?_⟩;show (r.ot==Qx 1)=true;rw[a];exact beq_self_eq_true _;show opened (keyS (BK 7) r.ot r.ol) r.ol (strOf _) _=true;unfold opened;rw[bV];exact beq_self_eq_true _;show strOf (dN (keyS (BK 7) r.ot r.ol) r.ol (strOf (dN (keyS (BK 7) r.ot r.ol) r.ol r.payload.data.toList)).data.toList)=r.payload;rw[bV,xQ,jK]
theorem UC:g_ 0:=by unfold g_;omega
theorem SY{r:jg}(b:r.ot.length=16)(a:g_ r.ol)(c:r.payload.size<=1000):zh (Aw (gW (BK 7) r)):=by refine⟨rfl,rfl,rfl,b,UC,a,a,by show aH.size<=10000;decide,?_⟩;show (strOf (dN (keyS (BK 7) r.ot r.ol) r.ol r.payload.data.toList)).size<=2000;rw[bJ,dH];have:r.payload.data.toList.length=r.payload.size:=Array.length_toList;omega
theorem P6{o:ja}(a:o.ot.length=16)(b:g_ o.ol):zh (Cj o):=⟨rfl,rfl,a,rfl,b,UC,UC,by show aH.size<=10000;decide,by show aH.size<=2000;decide⟩
theorem JK:OX ((dF op0).run (replay []) 0)=true:=by kernel_rfl
def JG:ja:={ kz with ot:=Qx 1,ol:=((0:Nat):Int) }
def Ci:jg:=yN (Cj JG) 1 (qL 0 stB)
structure aFW(n:Nat)(fA fB:Fl):Prop where
 cr:iF [] (dF Su) (En (lM 0)) 0=(some crO,y_ (cl 0) (cl 1) fA (lM 0),n)
 hA:CZ fA 1 (lM 0) (qL 0 stB)
 hB:CZ fB 2 (lM 0) Ci
 snd:uf (nN (Cj JG)) (y_ (cl 0) (cl 1) fA (lM 0))=(.ok (gW (BK 7) Ci),y_ (cl 0) (cl 2) fB (lM 0))
theorem Ns:∃ n b e,aFW n b e:=by obtain⟨n,b,d,a⟩:=bOb;have c:=Gs (m:=Cj JG) (n:=1) (c2:=cl 0) (q:=lM 0) rfl jc jc jc jc rfl a jc jc rfl rfl rfl;refine⟨n,b,_,d,a,?_,c⟩;exact aUm (root:=lM 0) (r:=Ci) a.jb jc jc (aXf jc UC rfl a.ok)
theorem off1:uf (nN (Bv 1 4)) (En (lM 1))=(.ok JG,En (lM 1)):=bIo (m:=Bv 1 4) (n:=0) (c2:=cl 0) (f:=Cc) (q:=lM 1) rfl jc rfl
theorem bAp:fP prog af 9 true [] (qy true):=by
 obtain⟨n,l,K,B⟩:=Ns;have k:=XL (crO |> some,y_ (cl 0) (cl 1) l (lM 0),n) _ _ _ rfl rfl rfl B.cr;have d:ZL (some crO,y_ (cl 0) (cl 1) l (lM 0),n)=false:=rfl;rw[d] at k;have j:Tra (Aw (gW (BK 7) Ci)) stB:=aOo (r:=Ci) rfl;have a:stB.size<=1000:=by show (5:Nat)<=1000;decide
 obtain⟨J,A⟩:=TB off1;obtain⟨I,z⟩:=TB B.snd;obtain⟨H,y⟩:=TB (bBc (m:=Bv 0 6) (n:=2) (c2:=cl 0) (q:=lM 0) rfl B.hB jc rfl rfl rfl);have i:=bEh (m:=Aw (gW (BK 7) Ci)) (n:=0) (c2:=cl 0) (q:=lM 1) (f:=Cc) rfl j a aDq jc jc rfl rfl;have e:=aUm (root:=lM 1) aDq jc jc (aMh (n:=0) (p:=stB) jc a);obtain⟨g,c⟩:∃ g,F8 Cc (fK (lM 1) (qL 0 stB))=g:=⟨_,rfl⟩;have b:F8 Cc (fK (Aw (gW (BK 7) Ci)).root (qL 0 stB))=g:=c;rw[c] at e;rw[b] at i;obtain⟨G,x⟩:=TB i;obtain⟨F,w⟩:=TB (bEg (m:=Aw (gW (BK 7) Ci)) (n:=1) (c2:=cl 0) (f:=g) (q:=lM 1) rfl j.xt jc rfl);obtain⟨E,u⟩:=TB (aQm (m:=Bv 1 2) (n:=1) (n2:=0) (q:=lM 1) rfl e jc rfl rfl rfl jc);obtain⟨D,t⟩:=TB (aQm (m:=Bv 1 2) (n:=1) (n2:=1) (q:=lM 1) rfl e jc rfl rfl rfl jc);obtain⟨C,s⟩:=TB (bCd (m:=Bv 0 2) (n:=2) (c2:=cl 0) (q:=lM 0) rfl B.hB jc rfl);have zB:=B.hB.jb.sz;have h:=e.jb.sz;have zA:=B.hA.jb.sz;refine P9 k _ _ _ _ _ _ _ _ _ A z y x w u t s rfl (aDz jc jc zA rfl) (N7 _ rfl) (aDz jc jc zB rfl) (aDz jc jc h rfl) (aDz jc jc h rfl) (P6 (o:=JG) rfl UC) (SY (r:=Ci) rfl UC a) ⟨rfl,rfl⟩ rfl rfl ⟨rfl,rfl⟩ rfl ⟨rfl,rfl⟩ rfl rfl JK (KC jc) (KC jc)
def Tf(L:List UInt8)(k:Nat):St:=⟨[(1,none,d_ (.pt 0 0 0)),(3,none,d_ (.ow 7000 0 1 0 k)),(4,none,di k)],[(0,none,0,.box 23 [.bs 16 L]),(7000,none,0,.arr 5 1 k (m_ (L.take k)))]⟩
theorem PZ(L:List UInt8)(s:L.length=16):T_ prog af 23 [.w (.agg [.bs 16 L])] 5 1 16 (m_ L):=by
 have M:=aCW;have j:prog.types[5].bytes=1:=by kernel_rfl
 refine aBi func23 rfl rfl bK (fun A r l p=>?_);refine aB ?_;refine aB ?_;refine aG ?_;refine aB ?_;refine bY (s':=Tf L 0) (fun a w b=>((b.nilRow (x:=7000) (e:=5) (n:=1) (t:=3) f_ f_).reset (kT:=[1,3,4]) (kO:=[0,7000]) f_ ay).same ?_ ?_) ?_;exact ig;exact .cons (.box rfl) (.cons (.arr rfl (fun i d=>by omega)) .nil);refine aQ ?_;refine fF 16 (fun k t=>t=Tf L k) 0 rfl a_ (fun k t o q=>?_);subst o;refine aG ?_;refine aB ?_;refine aI (fun h=>?_) (fun h=>?_)
 have m:k<16:=by
  have:(k:Int)<16:=by simpa using h
  omega
 refine aJ ?_;refine aG ?_;refine aQ ?_;refine bC M p l (by rfl) (by kernel_rfl) ?_ ?_;simp;rw[j];omega;change lh _ _ _ _ _;refine gI ?_;intro a w b;refine⟨k+1,_,by omega,by omega,rfl,(b.reset (kT:=[1,3,4]) (kO:=[0,7000]) f_ ?_).same ?_ ?_⟩;simp only[All,and_true,Pi,WF];intro i d;unfold o_;split
 rfl;rw[show i-k=0 from by omega];rfl;exact .cons rfl (.cons rfl (.cons (by rw[cO k a_]) .nil));refine .cons (.box rfl) (.cons (.arr rfl (fun i d=>?_)) .nil);rw[Int.toNat_natCast];unfold o_
 split;unfold m_;rw[getD_take a_,getD_take a_]
 obtain rfl:i=k:=by omega
 rw[YB];unfold m_;rw[getD_take a_];rfl
 ·have c:k=16:=by
   have:¬(k:Int)<16:=by simpa using h
   omega
  subst c;refine eP ?_;change lh _ _ _ _ _;refine aB ?_;refine cZ (fun a w b=>⟨.inr rfl,_,?_,b⟩);refine aDo (x:=7000) (jm:=0) (g:=none) (f:=?_) (out:=?_) ?_ ?_ ?_ ?_ ?_ trivial ?_;rotate_left 2;rfl;simp;rfl;rfl;rfl;intro i d;refine⟨?_,rfl⟩;rw[List.take_of_length_le a_]
def TM:Spec:=aFa fun a=>match a with
 |[.w (.agg [.bs 16 l])]=>some (True,5,1,16,m_ l)|_=>none
theorem V6:ai prog af 23 TM:=by refine xI (aC func23 aj rfl) (fun g p e n len i b h=>?_);split at b;cases b;exact fun w a d f c=>PZ _ (Fe c) w a d f c;cases b
def KZ:List (Nat×Spec):=[(72,aZ true IJ),(194,aZ false IL)]
theorem Qp:∀ p∈KZ,ai prog af p.1 p.2:=by intro p a;simp only[KZ,xn,Xq,or_false] at a;rcases a with rfl|rfl;exact bGx;exact bGy
theorem U4:jl prog af (find KZ):=⟨bD Qp,dG⟩
def wP(m:iy)(s:h_)(k b c:Int)(x:ByteArray)(t:qx):St:=⟨[(0,none,d_ (.pt px 0 0)),(3,none,d_ (.pt 0 0 0)),(4,none,d_ (.pt 1 0 0)),(5,none,d_ (.pt 1001 0 0)),(6,none,d_ (.pt 5001 0 0)),(46,none,di k)],
 [(px,none,0,.box 96 (qo m s)),(0,none,0,.box 37 (lT ⟨k,b,c,x⟩)),(1,none,0,.box 35 (iW iJ)),(1001,none,0,.box 104 (qF t)),(5001,none,0,.box 35 (iW iJ))]⟩
def aMj(m:iy)(s:h_)(k b c:Int)(x:ByteArray)(t:qx):St:=⟨[(0,none,d_ (.pt px 0 0)),(3,none,d_ (.pt 0 0 0)),(4,none,d_ (.pt 1 0 0)),(5,none,d_ (.pt 1001 0 0))],
 [(px,none,0,.box 96 (qo m s)),(0,none,0,.box 37 (lT ⟨k,b,c,x⟩)),(1,none,0,.box 35 (iW iJ)),(1001,none,0,.box 104 (qF t))]⟩
def aAy(m:iy)(s:h_)(r:jh)(t:qx):St:=⟨[(0,none,d_ (.pt px 0 0)),(4,none,d_ (.pt 1 0 0)),(5,none,d_ (.pt 1001 0 0)),(6,none,d_ (.pt 5001 0 0))],
 [(px,none,0,.box 96 (qo m s)),(1,none,0,.box 35 (iW iJ)),(1001,none,0,.box 104 (qF t)),(5001,none,0,.box 35 (iW r))]⟩
theorem aQp(m:iy)(i:Nat)(d:Acc)(g:Bool)(h:jk)(b c:Int)(_:ByteArray)(u:m.live=true)(o:ru m ⟨i,d,false,g,h⟩)(C:i+1<=1000000)(r:zx h.b b c=true):ui prog af 180 false [⟨px,96,qo m ⟨i,d,false,g,h⟩,qo m (dV m ⟨1,b,c,aH⟩ ⟨i,d,false,g,h⟩).2⟩] (fun _=>none) none (fun _=>False) [.w (.one (.pt px 0 0)),.w (.agg (lT ⟨1,b,c,aH⟩))] (.w (.agg (iW (dV m ⟨1,b,c,aH⟩ ⟨i,d,false,g,h⟩).1))):=by
 have M:=U4;obtain⟨t,n⟩:∃ t,eY m.F i=t:=⟨_,rfl⟩;have y:=o.lf;have l:IntKind.i64.wrap ((i:Int)+1)=((i+1:Nat):Int):=cO i a_
 have B:dV m ⟨1,b,c,aH⟩ ⟨i,d,false,g,h⟩=if t.cut=true then (iJ,⟨i+1,d,true,true,h⟩) else (⟨fO (iI h.b b c) t.AY,aH⟩,⟨i+1,d,false,g,h⟩):=by
  unfold dV fQ;rw[if_neg (by exact Xw),if_pos u];dsimp only;rw[n,if_pos rfl,if_pos rfl,if_pos r]
  all_goals (cases t.cut<;>rfl)
 rw[B];refine dM func180 rfl rfl rfl (fun A s z=>?_);refine aB ?_;refine aB ?_;refine qQ (aMj m ⟨i,d,false,g,h⟩ 1 b c aH t) ?_ ?_;refine aB ?_;refine aI (fun f=>?_) (fun f=>?_);have k:i<m.F.length:=by have j:decide ((i:Int)<(m.F.length:Int))=true:=f;have:=of_decide_eq_true j;omega
 have q:m.F.getD ((i:Int)).toNat AL=t:=n;refine bC M z s (by rfl) (by kernel_rfl) ?_ ?_;simp;exact k;refine fun a w p=>⟨rfl,(p.reset (kT:=[0,3,4,5]) (kO:=[px,0,1,1001]) f_ ay).same ?_ ?_⟩;exact ig;exact .cons (.box rfl) (.cons (.box rfl) (.cons (.box rfl) (.cons (.box (congrArg qF q)) .nil)));have k:¬i<m.F.length:=by have j:decide ((i:Int)<(m.F.length:Int))=false:=f;have:=of_decide_eq_false j;omega
 have q:t=AL:=by rw[<-n];unfold eY;rw[zG,GM a_];rfl
 refine iV (fun a w p=>⟨rfl,(p.reset (kT:=[0,3,4,5]) (kO:=[px,0,1,1001]) f_ ay).same ?_ ?_⟩);exact ig;exact .cons (.box rfl) (.cons (.box rfl) (.cons (.box rfl) (.cons (.box (by rw[q];rfl)) .nil)));refine aB ?_;refine aB ?_;refine aG ?_;refine aB ?_;refine aU (wP m ⟨i+1,d,false,g,h⟩ 1 b c aH t) ?_ ?_ ?_;exact ig;refine .cons (.box ?_) (.cons (.box rfl) (.cons (.box rfl) (.cons (.box ?_) (.cons (.box rfl) .nil))));unfold qo;dsimp only;rw[<-l];rfl;refine aQ ?_;refine aB ?_;refine aI (fun f=>?_) (fun f=>?_)
 ·refine aF ?_ ?_;simp;exact r;refine lU ?_;refine aU (aAy m ⟨i+1,d,false,g,h⟩ ⟨fO (iI h.b b c) t.AY,aH⟩ t) ?_ ?_ ?_;exact ig;refine .cons (.box ?_) (.cons (.box rfl) (.cons (.box rfl) (.cons (.box ?_) .nil)));rfl
  (rw[show iI h.b b c=iI (dL h.b.length (eX h.b)) b c by rw[aV]];rfl)
  refine aG ?_;refine aB ?_;refine aI (fun f=>?_) (fun f=>?_)
  ·have e:t.cut=true:=f;rw[if_pos e];refine aB ?_;refine aB ?_;refine aB ?_;refine bT ?_
   all_goals rfl
  ·have e:t.cut=false:=f;rw[if_neg (by rw[e];exact Xw)];refine aJ ?_;refine aB ?_;refine bT ?_
   all_goals rfl
 cases f
theorem aQo(m:iy)(i:Nat)(d:Acc)(j:Bool)(h:jk)(b c:Int)(_:ByteArray)(z:m.live=true)(k:ru m ⟨i,d,false,j,h⟩)(E:i+1<=1000000)(u:zx h.b b c=true):ui prog af 180 false [⟨px,96,qo m ⟨i,d,false,j,h⟩,qo m (dV m ⟨2,b,c,aH⟩ ⟨i,d,false,j,h⟩).2⟩] (fun _=>none) none (fun _=>False) [.w (.one (.pt px 0 0)),.w (.agg (lT ⟨2,b,c,aH⟩))] (.w (.agg (iW (dV m ⟨2,b,c,aH⟩ ⟨i,d,false,j,h⟩).1))):=by
 have M:=U4;obtain⟨t,p⟩:∃ t,eY m.F i=t:=⟨_,rfl⟩;have B:=k.lf;have o:IntKind.i64.wrap ((i:Int)+1)=((i+1:Nat):Int):=cO i a_
 have D:dV m ⟨2,b,c,aH⟩ ⟨i,d,false,j,h⟩=if t.cut=true then (iJ,⟨i+1,d,true,true,⟨qi h.b b c t.cut,h.f,h.r⟩⟩) else (iJ,⟨i+1,d,false,j,⟨qi h.b b c t.cut,h.f,h.r⟩⟩):=by
  unfold dV fQ;rw[if_neg (by exact Xw),if_pos z];dsimp only;rw[p,if_neg (show ¬((2:Int)=1) by decide),if_pos rfl,if_pos rfl,if_pos u]
  all_goals (cases t.cut<;>rfl)
 rw[D];refine dM func180 rfl rfl rfl (fun A y C=>?_);refine aB ?_;refine aB ?_;refine qQ (aMj m ⟨i,d,false,j,h⟩ 2 b c aH t) ?_ ?_;refine aB ?_;refine aI (fun e=>?_) (fun e=>?_);have n:i<m.F.length:=by have l:decide ((i:Int)<(m.F.length:Int))=true:=e;have:=of_decide_eq_true l;omega
 have s:m.F.getD ((i:Int)).toNat AL=t:=p;refine bC M C y (by rfl) (by kernel_rfl) ?_ ?_;simp;exact n;refine fun a w q=>⟨rfl,(q.reset (kT:=[0,3,4,5]) (kO:=[px,0,1,1001]) f_ ay).same ?_ ?_⟩;exact ig;exact .cons (.box rfl) (.cons (.box rfl) (.cons (.box rfl) (.cons (.box (congrArg qF s)) .nil)));have n:¬i<m.F.length:=by have l:decide ((i:Int)<(m.F.length:Int))=false:=e;have:=of_decide_eq_false l;omega
 have s:t=AL:=by rw[<-p];unfold eY;rw[zG,GM a_];rfl
 refine iV (fun a w q=>⟨rfl,(q.reset (kT:=[0,3,4,5]) (kO:=[px,0,1,1001]) f_ ay).same ?_ ?_⟩);exact ig;exact .cons (.box rfl) (.cons (.box rfl) (.cons (.box rfl) (.cons (.box (by rw[s];rfl)) .nil)));refine aB ?_;refine aB ?_;refine aG ?_;refine aB ?_;refine aU (wP m ⟨i+1,d,false,j,h⟩ 2 b c aH t) ?_ ?_ ?_;exact ig;refine .cons (.box ?_) (.cons (.box rfl) (.cons (.box rfl) (.cons (.box ?_) (.cons (.box rfl) .nil))));unfold qo;dsimp only;rw[<-o];rfl;refine aQ ?_;refine aB ?_;refine aI (fun e=>?_) (fun e=>?_);cases e;refine aB ?_;refine aI (fun e=>?_) (fun e=>?_)
 ·refine aF ?_ ?_;simp;exact⟨k.hw.nb,k.hw.nc,u⟩;refine aB ?_;refine aI (fun e=>?_) (fun e=>?_)
  ·refine lU ?_;refine aU (aAy m ⟨i+1,d,false,j,⟨qi h.b b c t.cut,h.f,h.r⟩⟩ iJ t) ?_ ?_ ?_;exact ig;refine .cons (.box ?_) (.cons (.box rfl) (.cons (.box rfl) (.cons (.box ?_) .nil)))
   (rw[show qi h.b b c t.cut=qi (dL h.b.length (eX h.b)) b c t.cut by rw[aV]];rfl)
   rfl;refine aG ?_;refine aB ?_;refine aI (fun e=>?_) (fun e=>?_)
   ·have g:t.cut=true:=e;rw[if_pos g];refine aB ?_;refine aB ?_;refine aB ?_;refine bT ?_
    all_goals rfl
   ·have g:t.cut=false:=e;rw[if_neg (by rw[g];exact Xw)];refine aJ ?_;refine aB ?_;refine bT ?_
    all_goals rfl
  cases e
 cases e
def ZJ(h:jk)(a:Acc):Prop:=(a.kind=1\/a.kind=2)/\a.bytes=aH/\zx h.b a.jy a.cell=true
theorem bJo(a:Acc):uw 180 [.w (.agg (lT a))] (fun m s=>m.live=true/\s.stop=false/\ZJ s.h a) (fun m s=>((dV m a s).2,.w (.agg (iW (dV m a s).1)))):=by
 intro m s g ⟨l,f,t⟩ n;obtain⟨i,d,u,p,h⟩:=s;obtain⟨k,b,c,x⟩:=a;dsimp only at f t n ⊢;subst f
 have j:i+1<=1000000:=by
  have e:(dV m ⟨k,b,c,x⟩ ⟨i,d,false,p,h⟩).2.i=i+1:=by
   unfold dV;rw[if_neg (by exact Xw),if_pos l]
   split<;>rfl
  rw[e] at n;exact n
 obtain⟨r,q,o⟩:=t;dsimp only at r q o;subst q;rcases r with rfl|rfl;exact aQp m i d p h b c aH l g j o;exact aQo m i d p h b c aH l g j o
def bMq:List PV->Option (BC×Ai)
 |[.w (.agg [.lit (.int .i64 k),.lit (.int .i64 b),.lit (.int .i64 c),.lit (.string x)])]=>some (fun m s=>m.live=true/\s.stop=false/\ZJ s.h ⟨k,b,c,x⟩,fun m s=>((dV m ⟨k,b,c,x⟩ s).2,.w (.agg (iW (dV m ⟨k,b,c,x⟩ s).1))))|_=>none
theorem bCg(m:iy)(s:h_):ai prog af 180 (dI 96 (uq m s bMq)):=
 eU (aC func180 aj rfl) (fun a C F h=>by
  unfold bMq at h;split at h;cases h;exact bJo _
  cases h)
def aBY(m:iy)(s:h_):List (Nat×Spec):=[(180,dI 96 (uq m s bMq))]
theorem aBX(m:iy)(s:h_):jl prog af (find (aBY m s)):=⟨bD (fun p a=>by
 obtain rfl:=List.mem_singleton.1 a
 exact bCg m s),dG⟩
theorem aJo{m:iy}{a:Acc}{s:h_}(b:m.live=false)(hs:s.stop=false):dV m a s=match m.log[s.i]? with
  |some r=>(r,⟨s.i+1,s.ask,s.stop,s.cut,s.h⟩)|none=>(iJ,⟨s.i,a,true,s.cut,s.h⟩):=by
 unfold dV;rw[if_neg (by rw[hs];exact Xw),if_neg (by rw[b];exact Xw)]
 all_goals rfl
theorem Rj(a:Acc):uw 150 [.w (.agg (lT a))] (fun m s=>m.live=true->s.stop=false->ZJ s.h a) (fun m s=>((dV m a s).2,.w (.agg (iW (dV m a s).1)))):=by
 intro m s e y q;have M:=aBX m s;dsimp only at q ⊢;refine dM func150 rfl rfl rfl (fun A z B=>?_);obtain⟨t,b,F⟩:=m;obtain⟨i,g,r,p,h⟩:=s;cases r with
 | true=>
  rw[uJ _ a (s:=⟨i,g,true,p,h⟩) rfl];refine aB ?_;refine aG ?_;refine aB ?_;refine aI (fun c=>?_) (fun c=>?_)
  ·refine aB ?_;refine bT ?_
   all_goals rfl
  cases c
 | false=>
  cases t with
  | true=>
   have x:=y rfl rfl;refine aB ?_;refine aG ?_;refine aB ?_;refine aI (fun c=>?_) (fun c=>?_);cases c;refine aJ ?_;refine aG ?_;refine aB ?_;refine aI (fun c=>?_) (fun c=>?_)
   ·refine aF ?_ ?_;simp;exact⟨e,x,q⟩;refine bT ?_
    all_goals rfl
   cases c
  | false=>
   have l:=e.ll;have n:=e.i;dsimp only at l n;rw[aJo (m:=⟨false,b,F⟩) (s:=⟨i,g,false,p,h⟩) rfl rfl];refine aB ?_;refine aG ?_;refine aB ?_;refine aI (fun c=>?_) (fun c=>?_);cases c;refine aJ ?_;refine aG ?_;refine aB ?_;refine aI (fun c=>?_) (fun c=>?_);cases c;refine aJ ?_;refine aG ?_;refine aB ?_;refine aI (fun c=>?_) (fun c=>?_)
   ·refine aB ?_;refine aB ?_;refine aB ?_;have o:b.length<=i:=by have f:decide ((i:Int)>=(b.length:Int))=true:=c;have:=of_decide_eq_true f;omega
    dsimp only;rw[GM o];refine bT ?_
    all_goals rfl
   ·have k:i<b.length:=by
     have f:decide ((i:Int)>=(b.length:Int))=false:=c;have:=of_decide_eq_false f;omega
    refine aJ ?_;refine aB ?_;have d:IntKind.i64.wrap ((i:Int)+1)=((i+1:Nat):Int):=cO i a_;have j:IntKind.i64.wrap (((i+1:Nat):Int)-1)=(i:Int):=by rw[show (((i+1:Nat):Int)-1)=(i:Int) by omega,IntKind.wrap_i64,Int.emod_eq_of_lt a_ a_];omega
    refine aF ?_ ?_;simp;rw[d,j];omega;have u:b[i]?=some (b.getD i ⟨0,aH⟩):=by rw[zG,zH k];rfl
    dsimp only;rw[u];refine aU (⟨[(4,none,d_ (.pt 1 0 0))],[(px,none,0,.box 96 (qo ⟨false,b,F⟩ ⟨i+1,g,false,p,h⟩)),(1,none,0,.box 35 (iW (b.getD i ⟨0,aH⟩)))]⟩) ?_ ?_ ?_;exact ig;refine .cons (.box ?_) (.cons (.box ?_) .nil);unfold qo;dsimp only;rw[<-d]
    show[PC.lit (.int .i64 (b.getD (IntKind.i64.wrap (IntKind.i64.wrap ((i:Int)+1)-1)).toNat ⟨0,aH⟩).val),PC.lit (.string (b.getD (IntKind.i64.wrap (IntKind.i64.wrap ((i:Int)+1)-1)).toNat ⟨0,aH⟩).bytes)]=_
    rw[d,j];rfl;refine bT ?_
    all_goals rfl
end Pv
theorem wK(l:List Int)(x:Int):nonzero (l++[x])=nonzero l+if x=0 then 0 else 1:=by
 unfold nonzero;rw[List.filter_append,ed]
 by_cases h:x=0<;>simp[h]
theorem xJ(l:List Int):nonzero l<=l.length:=List.length_filter_le _ _
def ah.w_(a b:Int):Nat->List Int->ah Bool
 |0,l=>.ret (mG l)|n+1,l=>(ah.vw a (3*b+((2-n:Nat):Int))).bind fun x=>ah.w_ a b n (l++[x])
def ah.u_(a b:Int):Nat->ah Unit
 |0=>.ret ()|n+1=>(ah.ul a (3*b+((2-n:Nat):Int))).bind fun _=>ah.u_ a b n
theorem ah.PU(a b:Int):ah.read a b=ah.w_ a b 3 []:=rfl
theorem ah.Ed(a b:Int):ah.jo a b=ah.u_ a b 3:=rfl
end Go.Proofs.YtndpjopifkbgiaaGreatDoor
