/-
  Several texts in one file: each has its own heading below.
-/
import Derived.Test.YtndpjopifkbgiaaGreatDoorMsB
import Derived.Defers
import Derived.Deep.CutRange
import Derived.Deep.RegionHeld3
import Derived.ChangeKeysEq
import Derived.Lib.SlBytesConst
import Derived.Test.YtndpjopifkbgiaaGreatDoorMsA
import Derived.Outline
set_option maxRecDepth 100000
set_option maxHeartbeats 4000000
namespace Go.Proofs.YtndpjopifkbgiaaGreatDoor
open Go.RowKit Tryz
open _root_.And renaming intro->az
open _root_.List renaming length_append->ed,length_take->uk,length_zipWith->aDP,take_of_length_le->IR,length_map->Xt,getElem?_take->xe,drop_zero->YD,zipWith->Ym,map_append->Y9,getElem?_append_right->YC,getElem?_map->Xu,range->yf,getElem?_drop->PR,map_take->aDN,getElem?_toArray->YY,getElem?_eq_none->GM,getElem?_append->aEE,flatMap_append->aEO,size_toArray->YS,append_assoc->yl,take_append->aED,length_drop->AC,length_cons->Lt,range_succ->aDR,mem_range->aFA
open _root_.Array renaming replicate->yz,length_toList->mf
open _root_.Go renaming World->ae,Value->ag,wpAnyH_take->YI,bodyPost_ret->Y4,Calls->ik,TypeId->bu,maxLen->uC,wpAny_ready->Y5
open _root_.Go.Value renaming string->Ya,int->df,ownBlock->Xr
open _root_.Nat renaming le_trans->mr,zero_le->x8,zero_add->lL,mul_le_mul_right->YH,succ_mul->aCR,sub_self->YB,lt_or_ge->Y6
open _root_.Go.World renaming ownsRow_nil->aDL,size_alloc->aCq
open _root_.UInt32 renaming ofNat->YG
section
theorem bFg:(prog.info? 5).map (·.zero)=some (some (.int .u8 0)):=by kernel_rfl
theorem aIq(s:ByteArray):(bI s.data.toList).length=(b_ s.size).length+s.size:=by unfold bI;rw[ed,mf];rfl
theorem aIp(s:ByteArray):(bI s.data.toList).map gq=(b_ s.size).map gq++s.data.toList.map rO:=by unfold bI;rw[Y9,mf];rfl
theorem xB(s:ByteArray)(w:ae)(hs:s.size<=1000000000) :
  ik prog 145 #[.string s] w fun e d=>∃ A c,e=.returned (.slice A (bI s.data.toList).length c)/\d.ownsRow w.heap.size 5 1 (.slice A (bI s.data.toList).length c) (bI s.data.toList).length ((bI s.data.toList).map gq)/\Ext w d:=by
 have n:=hide (fun w=>xA (s.size:Int) w a_ a_);have k:=hide (aIq s);have p:=hide (aIp s);have u:=aP (s.size:Int)
 go_enter func145,ntmps145
 go_wp2_with fail
 refine (aA n _).mono ?_;rintro e t ⟨A,c,rfl,a,g⟩;have b:=hide (az a g);clear a g
 go_wp2_with (at_builtin;refine aSx rfl rfl fV bFg underlying9 rfl (aA b).1 rfl a_ (aA b).2.size' ?_;intro q m r a f;have o:=hide (az a f);clear a f)
 go_ret;obtain⟨j,l⟩:=aA o;rw[<-aA k,<-aA p] at j
 exact⟨q,m,by rw[aA k];rfl,j,(aA b).2.trans' l (fun _ _ h=>h) (fun i x e=>by have:=((aA b).1.lt i e).1;omega)⟩
theorem rY(s:ByteArray)(w:ae)(hs:s.size<=1000000000) :
  ik prog 39 #[.string s] w fun e k=>∃ A c,e=.returned (.slice A (bI s.data.toList).length c)/\k.ownsRow w.heap.size 5 1 (.slice A (bI s.data.toList).length c) (bI s.data.toList).length ((bI s.data.toList).map gq)/\Ext w k:=by
 have t:=hide (fun w=>aAm (s.size:Int) w a_ a_);have o:=hide (aIq s);have y:=hide (aIp s);have E:=aP (s.size:Int)
 go_enter func39,ntmps39
 go_wp2_with fail
 refine (aA t _).mono ?_;rintro e D ⟨A,c,rfl,b,m⟩;have g:=hide (az b m);clear b m
 go_wp2_with (first
  |(refine yC (src:=9) (dst:=74) (x:=.tmp 6) (s:=s) rfl rfl underlying9 underlying74 underlying5 rfl (by unfold uC;omega) ?_;intro G C a d j;have f:=hide (az a d);clear a d j)
  |(at_builtin;refine bQ rfl rfl fV rfl (bP (aA g).1 (aA f).2) rfl (aA f).1 (dO.map (fun _=>rfl) _) a_ (mr (aA g).2.size' (aA f).2.size') ?_;intro z r B b l p;have u:=hide (az b l);clear b l p))
 go_ret;obtain⟨n,q⟩:=aA u;rw[<-aA o,<-aA y] at n
 exact⟨z,r,by rw[aA o];rfl,n,((aA g).2.trans (aA f).2).trans' q (fun _ _ h=>h) (fun i F e=>by have:=((aA g).1.lt i e).1;omega)⟩
theorem bG:ve prog 23 16:=⟨⟨_,underlying23,rfl⟩,by kernel_rfl⟩
theorem short_any(l:List UInt8)(w:ae)(hl:l.length=32) :
  ik prog 178 #[.agg (l.map gq).toArray] w fun e s=>e=.returned (.agg ((l.take 16).map gq).toArray)/\Ext w s:=by
 obtain⟨k,b⟩:∃ r,(l.map gq).toArray=r:=⟨_,rfl⟩;obtain⟨d,a⟩:∃ r,((l.take 16).map gq).toArray=r:=⟨_,rfl⟩;have p:=hide (az b hl);have z:=hide a;have o:=hide (show d.size=16/\d.all (·.oneCell')=true from by rw[<-a];exact⟨by simp;omega,dK _⟩);rw[b,a];clear b a hl;have u:=fun X=>aXk (P:=prog) underlying23 (ad:=some ⟨w.heap.size,0,none⟩) (len:=16) (c:=32) a_ X
 go_enter func178,ntmps178
 go_wp2_with (first
  |(refine qO (ty:=23) (x:=.tmp 4) rfl rfl bG rfl (arr:=d) (cs:=(l.take 16).map gq) ?_ ?_ (aA z) ?_;(focus (refine qA (w:=w.alloc (.cells k 142)) (S:=Non) (fun j v m=>?_) ((Ext.refl _).alloc _) (fun h=>h);rw[lL,(dh.new w _ k).cell,<-(aA p).1];rw[aDN,xe] at m;split at m;(simpa using m);(cases m)));(focus (have:=(aA p).2;simp;omega)))
  |(refine aS (ty:=23) (t:=23) (x:=.tmp 2) (y:=.tmp 5) rfl rfl bG rfl rfl (dh.new' _ _ _ ?_) rfl (aA o).1 (aA o).2 ?_;(focus (simp;done));intro A g f n;have q:=hide (az g f);clear g f n))
 refine Y4 (v:=.agg d) (dR bG rfl (aA q).1 (aA o).1 rfl) rfl ⟨rfl,?_⟩;exact (((Ext.refl w).alloc _).alloc _).trans' (aA q).2 (fun _ _ h=>h) (fun i B e=>by omega)
theorem bJj(a b:List UInt8)(w:ae):ik prog 178 #[.agg ((Ag a b).map gq).toArray] w fun e c=>e=.returned (.agg ((Ei a b).map gq).toArray)/\Ext w c:=short_any _ _ (jE _ _)
theorem mY(a b:List UInt8):(Ei a b).length=16:=by unfold Ei;rw[uk,jE];omega
theorem aVb(a b:List UInt8)(j n:ag)(w:ae)(p:af w)(o:Reads w 1 j a.length (a.map gq))(hb:Reads w 1 n b.length (b.map gq))(l:a.length<=1000000)(m:b.length<=1000000) :
  ik prog 146 #[j,n] w fun e z=>e=.returned (.agg ((Ei a b).map gq).toArray)/\Ext w z:=by
 have A:=hide (aMp a b j n _ (p.ext ((Ext.refl w).alloc (.cells (yz 16 (.int .u8 0)) 23))) (o.ext ((Ext.refl w).alloc _)) (hb.ext ((Ext.refl w).alloc _)) l m);have r:=hide (mY a b);clear p o hb
 go_enter func146,ntmps146
 go_wp2_with fail
 refine (aA A).mono ?_;rintro e D ⟨rfl,d⟩
 go_wp2_with fail
 refine (bJj a b _).mono ?_;rintro e C ⟨rfl,c⟩;have q:=(dh.new w 23 (yz 16 (.int .u8 0))).ext (d.trans c);have s:=hide (az q (d.trans c));clear q d c
 go_wp2_with (refine aS (ty:=23) (t:=23) (x:=.tmp 4) (y:=.tmp 8) rfl rfl bG rfl rfl (aA s).1 ay ?_ (dK _) ?_;(focus (simpa using aA r));intro B g f k;have u:=hide (az g f);clear g f k)
 refine Y4 (v:=.agg ((Ei a b).map gq).toArray) (dR bG rfl (aA u).1 (by simpa using aA r) rfl) rfl ⟨rfl,?_⟩;exact (((Ext.refl w).alloc _).trans (aA s).2).trans' (aA u).2 (fun _ _ h=>h) (fun i E e=>by omega)
def Parts(w:ae)(v:ag)(b:List (List UInt8)):Prop:=∃ a:List ag,a.length=b.length/\Reads w 1 v b.length a/\∀ (i:Nat) (p:List UInt8),b[i]?=some p->∃ u,a[i]?=some u/\Reads w 1 u p.length (p.map gq)
theorem Parts.ext{w w':ae}{v:ag}{a:List (List UInt8)}(h:Parts w v a)(b:Ext w w'):Parts w' v a:=by obtain⟨c,k,j,g⟩:=h;refine⟨c,k,j.ext b,fun i p d=>?_⟩;obtain⟨u,f,e⟩:=g i p d;exact⟨u,f,e.ext b⟩
theorem Parts.nil(w:ae):Parts w (.slice none 0 0) []:=⟨[],rfl,Reads.nil w 1,fun i p h=>by simp at h⟩
def encs(a:List (List UInt8)):List UInt8:=a.flatMap bI
theorem aGz(a:List (List UInt8))(k:Nat)(h:k<a.length):encs (a.take (k+1))=encs (a.take k)++bI a[k]:=by unfold encs;rw[lW a k h,aEO];simp
theorem aKb(a:List (List UInt8))(M:Nat)(h:∀ p∈a,p.length<=M):(encs a).length<=a.length*(M+10):=by
 unfold encs
 induction a with
 |nil=>simp|cons p a b=>have f:=b fun q c=>h q (List.mem_cons_of_mem _ c);have e:=h p List.mem_cons_self;have d:=fD p;rw[List.flatMap_cons,ed,Lt,aCR];omega
theorem Q9(w:ae)(B:Nat)(e:bu)(x:ag)(a:B<=w.heap.size):(w.alloc (.cells #[x] e)).ownsRow B e 1 (.slice (some ⟨w.heap.size,0,none⟩) 1 1) 1 [x]:=⟨by simp,.inr ⟨w.heap.size,1,#[x],rfl,a,heap_alloc_new w _,Nat.le_refl _,by unfold uC;omega,rfl,rfl⟩⟩
theorem aYb(w:ae)(B:Nat)(e:bu)(x:ag){g:Nat}(a:g=w.heap.size)(b:B<=w.heap.size):(w.alloc (.cells #[x] e)).ownsRow B e 1 (.slice (some ⟨g,0,none⟩) 1 1) 1 [x]:=by subst a;exact Q9 w B e x b
theorem aYp(v:ag)(l:List UInt8)(pv:ag)(a:List (List UInt8))(B:Nat)(w:ae)(h:w.ownsRow B 5 1 v l.length (l.map gq))(hB:B<=w.heap.size)(y:Parts w pv a)
  (hl:l.length<=1000000) (W:a.length<=1000) (g:∀ p∈a,p.length<=1000000) (hS:∀ X,dm (fun k=>v.ownBlock=some k) w X->Parts X pv a) :
  ik prog 149 #[v,pv] w fun e D=>∃ A c,e=.returned (.slice A (l++encs a).length c)/\D.ownsRow B 5 1 (.slice A (l++encs a).length c) (l++encs a).length ((l++encs a).map gq)/\Onto w v D (.slice A (l++encs a).length c):=by
 have H0:=hide h;have HP:=hide y;have HS:=hide hS;have C:=hide g;obtain⟨A1,c1,rfl⟩:∃ A c,pv=.slice A a.length c:=by obtain⟨T,_,⟨_,A,c,h,_⟩,_⟩:=y;exact⟨A,c,h⟩
 obtain⟨S,N,rfl⟩:=oN h;clear h y hS g
 go_enter func149,ntmps149
 go_wp2
 go_loopw [0,9] (fun b i wr=>∃ (k n:Nat) (A:Option Addr) (c:Nat),k<=a.length/\i=.int .i64 k/\b=.slice A n c/\n<=1000000+k*1000010/\Hid (n=(l++encs (a.take k)).length/\wr.ownsRow B 5 1 (.slice A n c) n ((l++encs (a.take k)).map gq)/\Onto w (.slice S l.length N) wr (.slice A n c))) (fun _ i _=>a.length-(intOf i).toNat)
 case atStart=>exact⟨0,l.length,S,N,x8 _,rfl,rfl,by omega,hide ⟨by simp[encs],by simpa[encs] using aA H0,Onto.refl _ _⟩⟩
 case round=>
  obtain⟨k,n,A,c,hk,rfl,rfl,hn,f⟩:=hrel;by_cases d:k<a.length
  ·have t:Parts wr (.slice A1 a.length c1) a:=aA HS wr (aA f).2.2.gy;obtain⟨T,U,G,F⟩:=t;obtain⟨u,E,s⟩:=F k a[k] (zH d);obtain⟨b,o,c',u',q,_,_,hb,H,Z⟩:=G.DV d;cases q;rw[E] at H;cases H;obtain⟨Au,cu,rfl⟩:∃ A c,u=.slice A a[k].length c:=by obtain⟨_,A,c,h,_⟩:=s;exact⟨A,c,h⟩
   have Y:=aA C a[k] (List.getElem_mem d);have z:=hide s;have P:=hide (aGz a k d);clear U G F E s;have V:=fD a[k];generalize a[k]=p at *;have O:=hide (fun w=>xB (strOf p) w (by rw[bJ];omega));rw[bV] at O
   go_wp2_with (first
    |(refine qN (src:=74) (dst:=9) (x:=.tmp 14) (l:=p) rfl rfl underlying74 underlying5 underlying9 rfl (aA z) ?_)
    |(go_at_call 145;refine (aA O _).mono ?_;rintro e w3 ⟨A3,c3,rfl,j,m⟩;have r:=hide (az j m);clear j m)
    |(at_builtin;refine bQ rfl rfl fV rfl (bP (aA f).2.1 (aA r).2) rfl (Reads.lw (aA r).1) (dO.u8 _) a_ (mr hB (mr (aA f).2.2.gy.size (aA r).2.size')) ?_;intro A' c4 w4 I J q;have Q:=hide (az I (((aA f).2.2.ext (aA r).2).trans (Onto.app J q)));clear I J q))
   go_roundw
   case rel=>refine⟨k+1,n+(bI p).length,A',c4,by omega,by go_num,rfl,by rw[aCR];omega,hide ⟨?_,?_,(aA Q).2⟩⟩;rw[aA P,<-yl,ed,<-(aA f).1];rw[aA P,<-yl,Y9];exact (aA Q).1
   case measure=>simp[intOf];omega
  ·obtain rfl:k=a.length:=by omega
   go_wp2
   go_ret;obtain⟨L,K,h3⟩:=aA f;rw[List.take_length] at L K;subst L
   exact⟨A,c,rfl,K,h3⟩
def yM(t:Int):UInt8:=UInt8.ofNat (t % 256).toNat
theorem aXb(t:Int):t % 256=((yM t).toNat:Int):=by unfold yM;simp;omega
def lQ(a:Int)(b:List (List UInt8)):List UInt8:=(sha ([yM a]++encs b)).take 16
def lS(b a:List UInt8)(c:List (List UInt8)):List UInt8:=Ei b (bI a++encs c)
theorem jB(a:Int)(b:List (List UInt8)):(lQ a b).length=16:=by unfold lQ;rw[uk,dA];omega
theorem fH(b a:List UInt8)(c:List (List UInt8)):(lS b a c).length=16:=mY _ _
theorem aRt(a:Int)(b:List (List UInt8))(w:ae):ik prog 178 #[.agg ((sha ([yM a]++encs b)).map gq).toArray] w fun e c=>e=.returned (.agg ((lQ a b).map gq).toArray)/\Ext w c:=short_any _ _ (dA _)
theorem bDg(a:Int)(b:List (List UInt8))(pv:ag)(w:ae)(B:af w)(m:Parts w pv b)(j:b.length<=1000)(d:∀ p∈b,p.length<=10000) :
  ik prog 176 #[.int .i64 a,pv] w fun e H=>e=.returned (.agg ((lQ a b).map gq).toArray)/\Ext w H:=by
 have K:=hide B;have E:=hide m;have r:=hide d;have J:=hide (aXb a);have L:=hide (aKb b 10000 d);clear B m d
 go_enter func176,ntmps176
 go_wp2_with fail
 rw[aA J];refine (aYp _ [yM a] _ b (w.heap.size+1) _ ?h1 ?h2 ?h3 ay j ?h4 ?h5).mono ?_
 case h1=>exact aYb _ _ _ _ ay ay
 case h2=>simp
 case h3=>exact (aA E).ext (((Ext.refl w).alloc _).alloc _)
 case h4=>intro p m;have:=aA r p m;omega
 case h5=>intro X I;refine (aA E).ext ((((Ext.refl w).alloc _).alloc _).trans' I (fun _ _ h=>h) (fun i z e=>?_));simp[Xr] at e;omega
 rintro e s ⟨A,c,rfl,u,q⟩;have C:Ext w s:=(((Ext.refl w).alloc _).alloc _).trans' q.gy (fun _ _ h=>h) (fun i z e=>by simp[Xr] at e;omega);have D:dh s w.heap.size 23 (yz 16 (.int .u8 0)):=((dh.new w 23 (yz 16 (.int .u8 0))).alloc _).gy q.gy (by intro e;simp[Xr] at e);have n:=hide (az u (az C D));clear u q C D
 go_wp2_with fail
 refine (sum_any ([yM a]++encs b) _ _ ((aA K).ext (aA n).2.1) ?hr ?hl).mono ?_
 case hr=>have:=Reads.lw (aA n).1;first|exact this|(rw[ed] at this;rw[ed];exact this)|(simp only[ed,Lt,List.length_nil] at this ⊢;exact this)
 case hl=>have:=aA L;have Q:b.length*(10000+10)<=1000*(10000+10):=YH _ j;simp;omega
 rintro e P ⟨rfl,g⟩
 go_wp2_with fail
 refine (aRt a b _).mono ?_;rintro e O ⟨rfl,f⟩;have G:=hide (az ((aA n).2.1.trans (g.trans f)) ((aA n).2.2.ext (g.trans f)));clear g f
 go_wp2_with (refine aS (ty:=23) (t:=23) (x:=.tmp 4) (y:=.tmp 11) rfl rfl bG rfl rfl (aA G).2 ay ?_ (dK _) ?_;(focus (simpa using jB a b));intro N l k o;have F:=hide (az l k);clear l k o)
 refine Y4 (v:=.agg ((lQ a b).map gq).toArray) (dR bG rfl (aA F).1 (by simpa using jB a b) rfl) rfl ⟨rfl,?_⟩;exact (aA G).1.trans' (aA F).2 (fun _ _ h=>h) (fun i z e=>by omega)
theorem aCj(b:List UInt8)(G:ag)(a:ByteArray)(d:List (List UInt8))(pv:ag)(w:ae)(J:af w)(z:Reads w 1 G b.length (b.map gq))(T:b.length<=10000)(S:a.size<=10000)(u:Parts w pv d)(C:d.length<=90)(f:∀ p∈d,p.length<=10000) :
  ik prog 106 #[G,.string a,pv] w fun e Q=>e=.returned (.agg ((lS b a.data.toList d).map gq).toArray)/\Ext w Q:=by
 have Y:=hide J;have Z:=hide z;have N:=hide u;have E:=hide f;have HB:=hide (aKb d 10000 f);have W:=hide (fun w=>xB a w a_);have r:=hide (show (bI a.data.toList).length<=10+a.size from fD a.data.toList);clear J u f z
 go_enter func106,ntmps106
 go_wp2_with fail
 refine (aA W _).mono ?_;rintro e w1 ⟨A1,V,rfl,m,q⟩;have l:=hide (az m q);clear m q;have g:Hid (∀ k,(Value.slice A1 (bI a.data.toList).length V).ownBlock=some k->w.heap.size+1<=k):=hide (fun k z=>by have:=((aA l).1.lt k z).1;simp at this;omega)
 go_wp2_with fail
 refine (aYp _ (bI a.data.toList) _ d (w.heap.size+1) _ ?h1 ?h2 ?h3 ?h6 a_ ?h4 ?h5).mono ?_
 case h1=>have:=(aA l).1;simp only[aCq] at this;exact this
 case h2=>have:=(aA l).2.size';simp at this;omega
 case h3=>exact (aA N).ext (((Ext.refl w).alloc _).trans (aA l).2)
 case h6=>have:=aA r;omega
 case h4=>intro p u;have:=aA E p u;omega
 case h5=>intro X U;refine (aA N).ext ((((Ext.refl w).alloc _).trans (aA l).2).trans' U (fun _ _ h=>h) (fun i I e=>?_));have:=aA g i e;omega
 rintro e F ⟨A,c,rfl,H,D⟩;have K:Ext w F:=(((Ext.refl w).alloc _).trans (aA l).2).trans' D.gy (fun _ _ h=>h) (fun i I e=>by have:=aA g i e;omega);have L:dh F w.heap.size 23 (yz 16 (.int .u8 0)):=((dh.new w 23 (yz 16 (.int .u8 0))).ext (aA l).2).gy D.gy (by intro e;have:=aA g _ e;omega);have s:=hide (az H (az K L));clear H D K L
 go_wp2_with fail
 refine (aVb b (bI a.data.toList++encs d) _ _ _ ((aA Y).ext (aA s).2.1) ((aA Z).ext (aA s).2.1) ?hr a_ ?hl).mono ?_
 case hr=>have:=Reads.lw (aA s).1;rw[ed] at this;rw[ed];exact this
 case hl=>have:=aA HB;have:=aA r;have h2:d.length*(10000+10)<=90*(10000+10):=YH _ C;simp;omega
 rintro e w3 ⟨rfl,j⟩;have P:=hide (az ((aA s).2.1.trans j) ((aA s).2.2.ext j));clear j
 go_wp2_with (refine aS (ty:=23) (t:=23) (x:=.tmp 6) (y:=.tmp 12) rfl rfl bG rfl rfl (aA P).2 ay ?_ (dK _) ?_;(focus (first|(simpa using fH _ _ _)|(simpa using mY _ _)));intro w4 o n B;have O:=hide (az o n);clear o n B)
 refine Y4 (v:=.agg ((lS b a.data.toList d).map gq).toArray) (dR bG rfl (aA O).1 (by simpa using fH _ _ _) rfl) rfl ⟨rfl,?_⟩;exact (aA P).1.trans' (aA O).2 (fun _ _ h=>h) (fun i I e=>by omega)
def iU(a:List UInt8)(k:Nat):List UInt8:=(yf k).flatMap fun j:Nat=>Ag a (b_ (j:Int))
def tC(a:List UInt8)(n:Int):List UInt8:=(iU a ((n.toNat+31) / 32)).take n.toNat
theorem lX(a:List UInt8)(k:Nat):iU a (k+1)=iU a k++Ag a (b_ k):=by unfold iU;rw[aDR,aEO];simp
theorem kJ(a:List UInt8)(k:Nat):(iU a k).length=32*k:=by
 induction k with
 |zero=>rfl|succ k b=>rw[lX,ed,b,jE];omega
theorem aAd(a:List UInt8)(k d:Nat):iU a k <+: iU a (k+d):=by
 induction d with
 |zero=>exact List.prefix_refl _|succ d b=>exact b.trans (by rw[<-Nat.add_assoc,lX];exact List.prefix_append _ _)
theorem aXa{c:Type}{a b:List c}(h:a <+: b){n:Nat}(hn:n<=a.length):b.take n=a.take n:=by obtain⟨t,rfl⟩:=h;rw[List.take_append_of_le_length hn]
theorem aIr(a:List UInt8)(N k:Nat)(h:N<=32*k):(iU a k).take N=tC a N:=by have e:tC a N=(iU a ((N+31) / 32)).take N:=rfl;rw[e];rcases Nat.le_total k ((N+31) / 32) with b|b;obtain⟨d,c⟩:=Nat.exists_eq_add_of_le b;rw[c,aXa (aAd a k d) (by rw[kJ];exact h)];obtain⟨d,c⟩:=Nat.exists_eq_add_of_le b;rw[c,aXa (aAd a ((N+31) / 32) d) (by rw[kJ];omega)]
theorem rF(a:List UInt8)(n:Int):(tC a n).length=n.toNat:=by unfold tC;rw[uk,kJ];omega
theorem bAg(a:List UInt8)(T:ag)(N:Nat)(w:ae)(Y:af w)(U:Reads w 1 T a.length (a.map gq))(B:a.length<=10000)(hN:N<=100000) :
  ik prog 148 #[T,.int .i64 (N:Int)] w fun e S=>∃ A c,e=.returned (.slice A N c)/\S.ownsRow w.heap.size 5 1 (.slice A N c) N ((tC a N).map gq)/\Ext w S:=by
 have HM:=hide Y;have HK:=hide U;clear Y U;have B:a.length<=1000000:=by omega
 go_enter func148,ntmps148
 go_wp2
 go_loopw [5,6] (fun b i wr=>∃ (k m:Nat) (A:Option Addr) (c:Nat),k<=N/\i=.int .i64 k/\b=.slice A m c/\m<=N/\Hid (m=min (32*k) N/\wr.ownsRow w.heap.size 5 1 (.slice A m c) m (((iU a k).take N).map gq)/\Ext w wr)) (fun b _ _=>match b with|.slice _ m _=>N-m|_=>0)
 case atStart=>exact⟨0,0,none,0,x8 _,rfl,rfl,by omega,hide ⟨by omega,by rw[show iU a 0=[] from rfl,List.take_nil];exact aDL _ _ _ _,Ext.refl _⟩⟩
 case round=>
  obtain⟨k,m,A,c,a4,rfl,rfl,hm,d⟩:=hrel;by_cases a3:m<N
  ·by_cases I:32<=N-m
   ·go_wp2_with (first
     |(go_at_call 107;refine (xA (k:Int) _ a_ a_).mono ?_;rintro e w2 ⟨A2,c2,rfl,j,p⟩;have g:=hide (az j p);clear j p)
     |(go_at_call 179;refine (aMp a (b_ k) _ _ _ ((aA HM).ext ((aA d).2.2.trans (aA g).2)) ((aA HK).ext ((aA d).2.2.trans (aA g).2)) (Reads.lw (aA g).1) B (by have:=aP k;omega)).mono ?_;rintro e J ⟨rfl,o⟩;have u:=hide o;clear o)
     |(refine aS (ty:=142) (t:=142) (x:=.tmp 7) (y:=.tmp 17) rfl rfl fE rfl rfl (dh.new _ _ _) rfl ?_ (dK _) ?_;(focus (simpa using jE _ _));intro E l f z;have D:=hide (gB (bP (aA d).2.1 (((aA g).2.trans (aA u)).alloc _)) f (fun q I e=>by have:=((aA d).2.1.lt q I).2;have s:=((aA g).2.trans (aA u)).size';omega));have r:=hide (show Ext wr E from (((aA g).2.trans (aA u)).alloc _).trans' f (fun _ _ h=>h) (fun i L e=>by have s:=((aA g).2.trans (aA u)).size';omega));have C:=hide (show Reads E 1 (.slice (some ⟨J.heap.size,0,none⟩) (32) 32) (32) (((Ag a (b_ k)).take (32)).map gq) from by (have:=Reads.uy l (i:=0) (n:=32) (c:=32) (by rw[YS,Xt,jE];omega) a_ (by unfold uC;omega));simp only[YD] at this;rw[aDN];exact this);clear l f z)
     |(at_builtin;refine bQ rfl rfl fV rfl (aA D) rfl (aA C) (dO.u8 _) a_ (mr (aA d).2.2.size' (aA r).size') ?_;intro Q P w5 F G K;have H:=hide (az F G);clear F G K))
    go_roundw
    case rel=>
     refine⟨k+1,m+(32),Q,P,by have:=(aA d).1;omega,by go_num,rfl,by omega,hide ⟨by have:=(aA d).1;omega,?_,((aA d).2.2.trans (aA r)).trans' (aA H).2 (fun _ _ h=>h) (fun i L e=>by have:=((aA d).2.1.lt i e).1;omega)⟩⟩;have O:(iU a (k+1)).take N=(iU a k).take N++(Ag a (b_ k)).take (32):=by have:=(aA d).1;rw[lX,aED,kJ];congr 1;rw[List.take_eq_take_iff,jE];omega
     rw[O,Y9];exact (aA H).1
    case measure=>simp;omega
   ·obtain⟨q,a1,a0⟩:∃ q,m+q<=N/\N<=m+q:=⟨N-m,by omega,by omega⟩;have a2:((N:Int)-(m:Int))=(q:Int):=by omega
    have W:q<=32:=by omega
    have X:q<32:=by omega
    have V:(q:Int)<=32:=by omega
    go_wp2_with (first
     |(go_at_call 107;refine (xA (k:Int) _ a_ a_).mono ?_;rintro e w2 ⟨A2,c2,rfl,j,p⟩;have g:=hide (az j p);clear j p)
     |(go_at_call 179;refine (aMp a (b_ k) _ _ _ ((aA HM).ext ((aA d).2.2.trans (aA g).2)) ((aA HK).ext ((aA d).2.2.trans (aA g).2)) (Reads.lw (aA g).1) B (by have:=aP k;omega)).mono ?_;rintro e J ⟨rfl,o⟩;have u:=hide o;clear o)
     |(refine aS (ty:=142) (t:=142) (x:=.tmp 7) (y:=.tmp 17) rfl rfl fE rfl rfl (dh.new _ _ _) rfl ?_ (dK _) ?_;(focus (simpa using jE _ _));intro E l f z;have D:=hide (gB (bP (aA d).2.1 (((aA g).2.trans (aA u)).alloc _)) f (fun q I e=>by have:=((aA d).2.1.lt q I).2;have s:=((aA g).2.trans (aA u)).size';omega));have r:=hide (show Ext wr E from (((aA g).2.trans (aA u)).alloc _).trans' f (fun _ _ h=>h) (fun i L e=>by have s:=((aA g).2.trans (aA u)).size';omega));have C:=hide (show Reads E 1 (.slice (some ⟨J.heap.size,0,none⟩) (q) 32) (q) (((Ag a (b_ k)).take (q)).map gq) from by (have:=Reads.uy l (i:=0) (n:=q) (c:=32) (by rw[YS,Xt,jE];omega) a_ (by unfold uC;omega));simp only[YD] at this;rw[aDN];exact this);clear l f z)
     |(at_builtin;refine bQ rfl rfl fV rfl (aA D) rfl (aA C) (dO.u8 _) a_ (mr (aA d).2.2.size' (aA r).size') ?_;intro Q P w5 F G K;have H:=hide (az F G);clear F G K))
    go_roundw
    case rel=>
     refine⟨k+1,m+(q),Q,P,by have:=(aA d).1;omega,by go_num,rfl,by omega,hide ⟨by have:=(aA d).1;omega,?_,((aA d).2.2.trans (aA r)).trans' (aA H).2 (fun _ _ h=>h) (fun i L e=>by have:=((aA d).2.1.lt i e).1;omega)⟩⟩;have O:(iU a (k+1)).take N=(iU a k).take N++(Ag a (b_ k)).take (q):=by have:=(aA d).1;rw[lX,aED,kJ];congr 1;rw[List.take_eq_take_iff,jE];omega
     rw[O,Y9];exact (aA H).1
    case measure=>simp;omega
  ·obtain rfl:m=N:=by omega
   go_wp2
   go_ret;obtain⟨h1,Z,h3⟩:=aA d;rw[aIr a m k a_] at Z
   exact⟨A,c,rfl,Z,h3⟩
def aGl:ByteArray:={ data:=#[97,117,116,104,101,110,116,105,99,97,116,101] }
def aQs:ByteArray:={ data:=#[101,110,99,114,121,112,116] }
def qc(b:List UInt8)(a:Int)(c:List UInt8):List UInt8:=Ei (lS b aGl.data.toList []) (b_ a++bI c)
theorem fZ(b:List UInt8)(a:Int)(c:List UInt8):(qc b a c).length=16:=mY _ _
theorem bFo(b:List UInt8)(a:Int)(c:ByteArray)(w:ae)(hM:af w)(hk:b.length=16)(h1:-9223372036854775808<=a)(h2:a<9223372036854775808)(hc:c.size<=100000) :
    ik prog 104 #[.agg (b.map gq).toArray,.int .i64 a,.string c] w fun e w'=>e=.returned (.agg ((qc b a c.data.toList).map gq).toArray)/\Ext w w':=by
  obtain⟨A,g⟩:∃ r,(b.map gq).toArray=r:=⟨_,rfl⟩;obtain⟨z,l⟩:∃ d,lS b aGl.data.toList []=d:=⟨_,rfl⟩;obtain⟨k,f⟩:∃ d,qc b a c.data.toList=d:=⟨_,rfl⟩;have G:z.length=16:=by rw[<-l];exact fH _ _ _
  have HM:=hide hM;have Z:=hide (fun w=>xA a w h1 h2);have Y:=hide (fun w=>xB c w a_);have HB:=hide (show (b_ a).length<=10/\(bI c.data.toList).length<=10+c.size from⟨aP _,fD c.data.toList⟩);have HR:=hide f;have HD:=hide l;have HA:=hide g;rw[g,f];clear g l f hM h1 h2;have a1:A.size=16:=by rw[<-aA HA];simpa using hk
  go_enter func104,ntmps104
  go_wp2_with fail
  refine (aCj b _ aGl [] _ _ ((aA HM).ext (((Ext.refl w).alloc _).alloc _)) ?_ a_ jc (Parts.nil _) ay (fun p hp=>by cases hp)).mono ?_;have:=Reads.uy ((dh.new w 23 A).alloc (.cells (yz 16 (.int .u8 0)) 23)) (i:=0) (n:=16) (c:=16) a_ a_ (by unfold uC;omega);rw[<-aA HA] at this;simp only[YD] at this;rw[IR (by rw[Xt];omega),aA HA] at this;rw[hk];exact this;rintro e C ⟨rfl,j⟩;rw[aA HD];have U:=hide (show Ext w C/\dh C (w.heap.size+1) 23 (yz 16 (.int .u8 0))/\w.heap.size+2<=C.heap.size from⟨(((Ext.refl w).alloc _).alloc _).trans j,(dh.new' (w.alloc (.cells A 23)) _ _ ay).ext j,by have:=j.size';simp at this;omega⟩);clear j;have HS:=hide (show ((z.map gq).toArray).size=16 from by simpa using G)
  go_wp2_with (refine aS (ty:=23) (t:=23) (x:=.tmp 7) (y:=.tmp 9) rfl rfl bG rfl rfl (dh.new C _ _) rfl (aA HS) (dK _) ?_;intro B N m W;have T:=hide (show dh B C.heap.size 23 ((z.map gq).toArray)/\Ext w B/\dh B (w.heap.size+1) 23 (yz 16 (.int .u8 0)) from⟨N,((aA U).1.alloc _).trans' m (fun _ _ h=>h) (fun i hi e=>by have:=(aA U).2.2;omega),((aA U).2.1.alloc _).gy m (by have:=(aA U).2.2;omega)⟩);clear N m W)
  have HK:=hide (show Reads B 1 (.slice (some ⟨C.heap.size,0,none⟩) 16 16) z.length (z.map gq) from by
    have:=Reads.uy (aA T).1 (i:=0) (n:=16) (c:=16) (by rw[aA HS];omega) a_ (by unfold uC;omega);simp only[YD] at this;rw[IR (by rw[Xt];omega)] at this;rw[G]
    exact this)
  have a0:=hide (show Ei z (b_ a++bI c.data.toList)=k from by rw[<-aA HR,<-aA HD];rfl);have O:=hide (show ((k.map gq).toArray).size=16 from by rw[<-aA HR];simpa using fZ _ _ _);have hB:=hide (show (b_ a).length+(bI c.data.toList).length<=1000000 from by have:=aA HB;omega)
  go_region_law (first
    |(refine aLa (s:=.tmp 12) (x:=.tmp 14) rfl rfl fV rfl (bP (aA S).1 (aA Q).2.1) rfl (Reads.lw (aA Q).1) (dO.u8 _) (by have:=aA hB;omega) (mr (aA S).2.2 (aA Q).2.2) ?_;intro A5 c5 w5 D I X;have P:=hide (show Reads w5 1 (.slice A5 ((b_ a).length+(bI c.data.toList).length) c5) ((b_ a).length+(bI c.data.toList).length) ((b_ a).map gq++(bI c.data.toList).map gq)/\Ext B w5 from⟨Reads.lw D,(((aA S).2.1.trans (aA Q).2.1)).trans' I (fun _ _ h=>h) (fun i hi e=>by have:=((aA S).1.lt i e).1;simp at this;omega)⟩);clear D I X)
    |(go_simp;go_at_call 107;refine (aA Z _).mono ?_;rintro e w3 ⟨A3,c3,rfl,F,u⟩;have S:=hide (az F (az (((Ext.refl B).drew).trans u) u.size'));clear F u)
    |(go_simp;go_at_call 145;refine (aA Y _).mono ?_;rintro e w4 ⟨A4,c4,rfl,E,q⟩;have Q:=hide (az E (az q q.size'));clear E q)
    | (
     rename_i K hK;go_simp;go_at_call 146;refine (aVb z (b_ a++bI c.data.toList) _ _ _ ((aA HM).ext ((aA T).2.1.trans (aA P).2)) ((aA HK).ext (aA P).2) ?_ a_ ?_).mono ?_
     (focus (rw[Y9,ed];exact (aA P).1))
     (focus (have:=aA hB;rw[ed];omega))
     rintro e w6 ⟨rfl,o⟩;rw[aA a0];have H6:=hide (show Ext w w6/\dh w6 (w.heap.size+1) 23 (yz 16 (.int .u8 0)) from⟨((aA T).2.1.trans (aA P).2).trans o,(aA T).2.2.ext ((aA P).2.trans o)⟩);clear o;dsimp only;refine hK _ _ ?_;clear hK K;refine Y5 (rs:=[7]) aj ay (AllReady.cons rfl (fun J hJ=>?_) AllReady.nil);refine jD (ty:=23) (t:=23) (x:=.tmp 6) (y:=.tmp 16) rfl rfl bG rfl rfl (aA H6).2 ?_ ?_ ?_ ?_;rw[Array.size_replicate];exact aA O;exact dK _;intro w7 L H V;have H7:=hide (az L H);clear L H V;refine hJ _ _ ?_
     clear hJ J))
  go_wp2
  refine Y4 (v:=.agg ((k.map gq).toArray)) (dR bG rfl (aA H7).1 (aA O) rfl) rfl ⟨rfl,?_⟩;exact (aA H6).1.trans' (aA H7).2 (fun _ _ h=>h) (fun i hi e=>by omega)
def keyS(b:List UInt8)(a:Int):List UInt8:=lS b aQs.data.toList [b_ a]
def dN(b:List UInt8)(a:Int)(s:List UInt8):List UInt8:=Ym (· ^^^ ·) s (tC (keyS b a) s.length)
def BH(s x:List UInt8)(k:Nat):List UInt8:=(Ym (· ^^^ ·) s x).take k++s.drop k
theorem bJe(s x:List UInt8):BH s x 0=s:=by unfold BH;simp
theorem Jl(s x:List UInt8)(h:x.length=s.length):BH s x s.length=Ym (· ^^^ ·) s x:=by unfold BH;rw[List.drop_length,List.append_nil,IR (by rw[aDP];omega)]
theorem aUz(s x:List UInt8)(k:Nat)(h:x.length=s.length)(a:k<=s.length):(BH s x k).length=s.length:=by unfold BH;rw[ed,uk,aDP,AC];omega
theorem QO(s x:List UInt8)(k:Nat)(h:x.length=s.length)(a:k<s.length):(BH s x k)[k]?=some s[k]:=by unfold BH;rw[YC (by rw[uk];omega),uk,aDP,PR,show min k (min s.length x.length)=k from by omega,YB,Nat.add_zero,zH a]
theorem bJf(s x:List UInt8)(k:Nat)(h:x.length=s.length)(e:k<s.length):BH s x (k+1)=(BH s x k).set k (s[k] ^^^ x[k]):=by
 apply List.ext_getElem?;intro i;unfold BH;rw[List.getElem?_set];have c:((Ym (· ^^^ ·) s x).take k).length=k:=by rw[uk,aDP];omega
 have a:((Ym (· ^^^ ·) s x).take (k+1)).length=k+1:=by rw[uk,aDP];omega
 rw[aEE,aEE,c,a,ed,c,AC];by_cases b:i<k;rw[if_pos a_,if_neg a_,if_pos b,xe,xe,if_pos a_,if_pos b];by_cases d:k=i;subst d;rw[if_pos a_,if_pos rfl,if_pos a_,xe,if_pos a_,List.getElem?_zipWith,zH e,zH a_];rw[if_neg a_,if_neg d,if_neg b,PR,PR];congr 1;omega
theorem XO(l:List UInt8)(v o:ag)(b a:Nat)(u:FrameMode)(w:ae)(i:w.cell? ⟨b,0,none⟩=some v)(h6:w.cell? ⟨a,0,none⟩=some o)(j:w.frozen? ⟨a,0,none⟩=false)(hr:Reads w 1 v l.length (l.map gq)) :
  CallsD prog 147 #[.pointer (some ⟨b,0,none⟩),.pointer (some ⟨a,0,none⟩)] u w fun e f d=>f=u/\(e=.returned (.tuple #[])/\d=w.setCell ⟨a,0,none⟩ (.string (strOf l))):=by
 have g:=aBt (P:=prog) (w:=w) underlying74 underlying5 underlying9 hr;obtain⟨A,c,rfl⟩:∃ A c,v=.slice A l.length c:=by obtain⟨_,A,c,h,_⟩:=hr;exact⟨A,c,h⟩
 go_enter_d func147,ntmps147
 go_wp2
 go_end0
 exact⟨rfl,rfl⟩
theorem aSl (m:List UInt8) (a:Int) (s:ByteArray) (w:ae) (hM:af w) (hk:m.length=16) (h1:-9223372036854775808<=a) (h2:a<9223372036854775808) (hs:s.size<=100000) :
    ik prog 105 #[.agg (m.map gq).toArray,.int .i64 a,.string s] w fun e w'=>e=.returned (.string (strOf (dN m a s.data.toList)))/\Ext w w':=by
  obtain⟨P,F⟩:∃ r,(m.map gq).toArray=r:=⟨_,rfl⟩;have HM:=hide hM;have c4:=hide (fun w=>xA a w h1 h2);have HA:=hide F;rw[F];clear F hM h1 h2;have d1:P.size=16:=by rw[<-aA HA];simpa using hk
  have d4:∀ (fn:Fn) (first cap:Array ag) (w:ae),(Instr.makeFunc fn first cap).run prog w=.ok (.func fn first cap) w:=fun _ _ _ _=>rfl
  go_enter_defers func105,ntmps105
  go_wp2_with (refine yC rfl rfl underlying9 underlying74 underlying5 rfl (by unfold uC;omega) ?_;intro C q a6 b3 a8;have H1:=hide (az a6 (az b3 a8));clear a6 b3 a8)
  have a5:w.heap.size+2<=q.heap.size:=by have h2:=(aA H1).2.1.size';simp at h2;omega
  have Q:=hide (show Reads (q.alloc (.cells #[.slice (some ⟨w.heap.size+1+1,0,none⟩) s.size C] 74)) 1 (.slice (some ⟨w.heap.size+1+1,0,none⟩) s.size C) s.size (s.data.toList.map rO)/\∀ i,i<s.size->(q.alloc (.cells #[.slice (some ⟨w.heap.size+1+1,0,none⟩) s.size C] 74)).frozen? ⟨w.heap.size+1+1,i,none⟩=false from by
    have h1:=(aA H1).1;have h3:=(aA H1).2.2;simp only[aCq] at h1 h3;refine⟨h1.ext ((Ext.refl q).alloc _),fun i L=>?_⟩;obtain⟨_,hc⟩:∃ u,q.cell? ⟨w.heap.size+1+1,i,none⟩=some u:=by obtain⟨b,o,c,u,hv,_,_,_,_,N⟩:=h1.DV L;cases hv;exact⟨u,by simpa using N⟩
    exact Ext.rq ((Ext.refl q).alloc _) (h3 i L) (lt_of_cell hc))
  have b6:=hide (show dh (q.alloc (.cells #[.slice (some ⟨w.heap.size+1+1,0,none⟩) s.size C] 74)) (w.heap.size+1) 9 #[.string { data:=#[] }] from ((dh.new' (w.alloc (.cells P 23)) _ _ ay).ext (aA H1).2.1).alloc _);have a4:=hide (show dh (q.alloc (.cells #[.slice (some ⟨w.heap.size+1+1,0,none⟩) s.size C] 74)) q.heap.size 74 #[.slice (some ⟨w.heap.size+1+1,0,none⟩) s.size C] from dh.new _ _ _);have b5:=hide (show dh (q.alloc (.cells #[.slice (some ⟨w.heap.size+1+1,0,none⟩) s.size C] 74)) w.heap.size 23 P from ((((dh.new w _ P).alloc _).ext (aA H1).2.1).alloc _));have HP:=hide (show Ext w (q.alloc (.cells #[.slice (some ⟨w.heap.size+1+1,0,none⟩) s.size C] 74)) from ((((Ext.refl w).alloc _).alloc _).trans (aA H1).2.1).alloc _);generalize b0:(q.alloc (.cells #[.slice (some ⟨w.heap.size+1+1,0,none⟩) s.size C] 74))=B;rw[b0] at HP Q b6 a4 b5;obtain⟨dk,a9⟩:∃ d,keyS m a=d:=⟨_,rfl⟩;have HD:=hide a9
  have d0:=hide (show Reads B 1 (.slice (some ⟨w.heap.size,0,none⟩) 16 16) m.length (m.map gq) from by
    have:=Reads.uy (aA b5) (i:=0) (n:=16) (c:=16) a_ a_ (by unfold uC;omega);rw[<-aA HA] at this;simp only[YD] at this;rw[IR (by rw[Xt];omega)] at this;rw[hk]
    exact this)
  clear a9
  have c8:=hide (fun (W4:ae) (pv:ag) (A3:Option Addr) (Z:Nat) (hX:Ext B W4) (b8:Reads W4 1 pv 1 [.slice A3 (b_ a).length Z]) (hr:Reads W4 1 (.slice A3 (b_ a).length Z) (b_ a).length ((b_ a).map gq))=>aCj m (.slice (some ⟨w.heap.size,0,none⟩) 16 16) aQs [b_ a] pv W4 ((aA HM).ext ((aA HP).trans hX)) ((aA d0).ext hX) a_ jc ⟨[.slice A3 (b_ a).length Z],rfl,b8,fun i p hp=>by
    cases i with
    |zero=>cases hp;exact⟨_,rfl,hr⟩|succ i=>simp at hp⟩ ay (fun p hp=>by simp at hp;subst hp;have:=aP a;omega))
  go_cut [8] from 14 to 18 (fun s8 wx=>∃ g,s8=.pointer (some ⟨g,0,none⟩)/\Hid (dh wx g 23 ((dk.map gq).toArray)/\Ext B wx/\B.heap.size<=g))
  case first=>
    have HS:=hide (show ((dk.map gq).toArray).size=16 from by rw[<-aA HD];unfold keyS;simpa using fH _ _ _);refine wp_region_noPanic ?_
    go_region_law (first
      | (
       go_simp;go_at_call 107;refine (aA c4 _).mono ?_;rintro e U ⟨A3,Z,rfl,I,G⟩
       first
       |(have S:=hide (show Reads U 1 (.slice A3 (b_ a).length Z) (b_ a).length ((b_ a).map gq)/\Ext B U/\True from az (Reads.lw I) (az (((Ext.refl B).drew).trans G) trivial));clear I G)
       |(have S:=hide (show Reads U 1 (.slice A3 (b_ a).length Z) (b_ a).length ((b_ a).map gq)/\Ext B U/\dh U B.heap.size 23 (yz 16 (.int .u8 0)) from az (Reads.lw I) (az ((((Ext.refl B).drew).alloc _).trans G) ((dh.new B.drew _ _).ext G)));clear I G))
      | (
       rename_i K hK;go_simp;go_at_call 106;refine (aA c8 _ _ A3 Z ?_ ?_ ?_).mono ?_
       (focus (first|exact (aA S).2.1.alloc _|exact ((aA S).2.1.alloc _).alloc _))
       (focus (first|exact Reads.uo _ _ _|exact (Reads.uo _ _ _).ext ((Ext.refl _).alloc _)|(have h:=Reads.uo (U.alloc (.cells (yz 16 (.int .u8 0)) 23)) (.slice A3 (b_ a).length Z) 74;rw[aCq] at h;exact h)))
       (focus (first|exact (aA S).1.ext ((Ext.refl _).alloc _)|exact (aA S).1.ext (((Ext.refl _).alloc _).alloc _)))
       rintro e w5 ⟨rfl,O⟩;rw[show lS m aQs.data.toList [b_ a]=dk from aA HD];have H5:=hide (show Ext B w5/\Ext _ w5 from az (by first|exact ((aA S).2.1.alloc _).trans O|exact (((aA S).2.1.alloc _).alloc _).trans O) O);clear O;dsimp only;refine hK _ _ ?_;clear hK K
       first
       | (
        refine Y5 (rs:=[5]) aj ay (AllReady.cons rfl (fun J Y=>?_) AllReady.nil);rw[if_pos f_];go_simp;refine Y _ _ ?_;clear Y J;refine Y5 (rs:=[6]) aj ay (AllReady.cons rfl (fun J Y=>?_) AllReady.nil);refine jD (ty:=23) (t:=23) (x:=.tmp 8) (y:=.tmp 18) rfl rfl bG rfl rfl (dh.new w5 _ _) ?_ ?_ ?_ ?_;rfl;exact aA HS;exact dK _;intro w7 E D a0;have H7:=hide (az E (az (((aA H5).1.alloc _).trans' D (fun _ _ h=>h) (fun i L e=>by have:=(aA H5).1.size';omega)) (aA H5).1.size'));clear E D a0;refine Y _ _ ?_
        clear Y J)
       | (
        refine Y5 (rs:=[6]) aj ay (AllReady.cons rfl (fun J Y=>?_) AllReady.nil);have b7:=(aA S).2.1.size';refine jD (ty:=23) (t:=23) (x:=.tmp 8) (y:=.tmp 18) (old:=yz 16 (.int .u8 0)) rfl rfl bG rfl rfl ?_ ?_ ?_ ?_ ?_
        · first|exact (((aA S).2.2).alloc _).ext (aA H5).2|exact ((dh.new U _ _).alloc _).ext (aA H5).2|exact (dh.new' (U.alloc _) _ _ ay).ext (aA H5).2
        rfl;exact aA HS;exact dK _;intro w7 E D a0;have H7:=hide (az E (az ((aA H5).1.trans' D (fun _ _ h=>h) (fun i L e=>by omega)) (show B.heap.size<=_ by omega)));clear E D a0 b7;refine Y _ _ ?_
        clear Y J)))
    all_goals
      refine NoPanic.normal ?_
      go_wp2_with fail
      go_meet
      exact⟨_,rfl,hide ⟨(aA H7).1,(aA H7).2.1,by have:=(aA H7).2.2;omega⟩⟩
  case rest=>
    obtain⟨g8,rfl,H8⟩:=hcut;have HS:=hide (show ((dk.map gq).toArray).size=16/\dk.length=16 from by rw[<-aA HD];unfold keyS;exact⟨by simpa using fH _ _ _,fH _ _ _⟩);have c7:=((aA a4).ext (aA H8).2.1).cell 0
    have HQ:=hide (fun (W:ae) (hE:Ext wc W)=>bAg dk (.slice (some ⟨g8,0,none⟩) 16 16) s.size W ((aA HM).ext (((aA HP).trans (aA H8).2.1).trans hE)) (by
      have:=Reads.uy ((aA H8).1.ext hE) (i:=0) (n:=16) (c:=16) (by rw[(aA HS).1];omega) a_ (by unfold uC;omega);simp only[YD] at this;rw[IR (by rw[Xt,(aA HS).2];omega)] at this;rw[(aA HS).2]
      exact this) (by have:=(aA HS).2;omega) a_)
    go_upto_region 4 with fail
    refine wp_region_noPanic ?_
    go_region_law (first
      | (
       go_simp;go_at_call 148;refine (aA HQ _ ((Ext.refl wc).drew)).mono ?_;rintro e w9 ⟨A9,c9,rfl,a7,b2⟩
       have H9:=hide (az a7 (((Ext.refl wc).drew).trans b2))
       clear a7 b2))
    refine NoPanic.normal ?_;obtain⟨x,hx⟩:∃ x,tC dk s.size=x:=⟨_,rfl⟩;have HX:=hide hx;rw[hx] at H9;obtain⟨sl,a2⟩:∃ l,s.data.toList=l:=⟨_,rfl⟩;have a1:sl.length=s.size:=by rw[<-a2,mf];rfl
    have d3:B.heap.size=q.heap.size+1:=by rw[<-b0];simp
    have E9:Ext B w9:=(aA H8).2.1.trans (aA H9).2;have H:x.length=sl.length:=by have:=(aA H9).1.1;rw[Xt] at this;omega
    have c5:=hide a2;rw[a2] at Q;clear hx c7
    go_wp2
    go_simp
    go_loopw [24] (fun i wr=>∃ k:Nat,k<=s.size/\i=.int .i64 k/\Hid (Reads wr 1 (.slice (some ⟨w.heap.size+1+1,0,none⟩) s.size C) s.size ((BH sl x k).map gq)/\(∀ i,i<s.size->wr.frozen? ⟨w.heap.size+1+1,i,none⟩=false)/\dh wr q.heap.size 74 #[.slice (some ⟨w.heap.size+1+1,0,none⟩) s.size C]/\dh wr (w.heap.size+1) 9 #[.string { data:=#[] }]/\dm (fun b=>b=w.heap.size+1+1) w9 wr)) (fun i _=>s.size-(intOf i).toNat)
    case atStart=>exact⟨0,x8 _,rfl,hide ⟨by rw[bJe];exact (aA Q).1.ext E9,fun i L=>Ext.rq E9 ((aA Q).2 i L) (by show w.heap.size+1+1<_;omega),(aA a4).ext E9,(aA b6).ext E9,dm.refl _ _⟩⟩
    case round=>
      obtain⟨k,hk,rfl,A⟩:=hrel;by_cases a3:k<s.size
      ·
        obtain⟨b,o,c',u,hv,_,_,hb,hu,N⟩:=(aA A).1.DV a3;cases hv;rw[Xu,QO sl x k H a_] at hu;cases hu;have b1:=gB (aA H9).1 (aA A).2.2.2.2 (fun j hj e=>by have h1:=((aA H9).1.lt j hj).1;have h2:=(aA H8).2.1.size';simp at h1;omega);obtain⟨b,o,c',u,hv,_,_,d5,hu,b9⟩:=(Reads.lw b1).DV a3;cases hv;rw[Xu,zH (show k<x.length by omega)] at hu;cases hu;clear b1;have V:¬q.heap.size=w.heap.size+1+1:=by have:=(aA H1).1.Bq a_ a_ _ rfl;simp at this;omega
        have c7:=(aA A).2.2.1.cell 0;have hf:=(aA A).2.1 k a3;have c6:=hide (bJf sl x k H a_);rw[lL] at N;unfold gq at N b9;generalize sl[k]=y at *;generalize x[k]=z at *;have c2:=hide (Bi y z)
        go_wp2
        go_roundw
        case rel=>refine⟨k+1,by omega,by go_num,hide ⟨?_,fun i L=>by rw[World.frozen?_setCell];exact (aA A).2.1 i L,(aA A).2.2.1.far' V k _,(aA A).2.2.2.1.far' a_ k _,(aA A).2.2.2.2.setCell (p:=⟨w.heap.size+1+1,k,none⟩) (.inl rfl) _⟩⟩;rw[aA c6,List.map_set];have:=(aA A).1.set (k:=k) a_ (gq (y ^^^ z));rw[aA c2];exact this
        case measure=>simp[intOf];omega
      ·
        obtain rfl:k=s.size:=by omega
        have hA:dN m a s.data.toList=BH sl x s.size:=by unfold dN;rw[aA HD,aA c5,a1,aA HX,<-a1,Jl _ _ H]
        have b4:(dN m a s.data.toList).length=s.size:=by rw[hA,aUz _ _ _ H a_,a1]
        have X:Reads wr 1 (.slice (some ⟨w.heap.size+1+1,0,none⟩) s.size C) (dN m a s.data.toList).length ((dN m a s.data.toList).map gq):=by rw[b4,hA];exact (aA A).1
        have HF:=hide X;have V:=a5;clear hA b4 X
        go_wp2
        refine leaves_cons (f:=147) (args:=#[.pointer (some ⟨q.heap.size,0,none⟩),.pointer (some ⟨w.heap.size+1,0,none⟩)]) ay (by simp[go_sem]) ?_;refine (XO (dN m a s.data.toList) _ _ _ _ .returning _ ((aA A).2.2.1.cell 0) ((aA A).2.2.2.1.cell 0) ((aA A).2.2.2.1.frozen 0) (aA HF)).mono ?_;rintro e u' d2 ⟨rfl,rfl,rfl⟩;have c0:(wr.setCell ⟨w.heap.size+1,0,none⟩ (.string (strOf (dN m a s.data.toList)))).cell? ⟨w.heap.size+1,0,none⟩=some (.string (strOf (dN m a s.data.toList))):=World.cell?_setCell_same' _ _ _ (by rw[(aA A).2.2.2.1.cell 0];rfl);have hE:Ext w (wr.setCell ⟨w.heap.size+1,0,none⟩ (.string (strOf (dN m a s.data.toList)))):=((aA HP).trans E9).trans' ((dm.mono (T:=fun b=>b=w.heap.size+1+1\/b=w.heap.size+1) (aA A).2.2.2.2 (fun _ _ h=>.inl h)).setCell (p:=⟨w.heap.size+1,0,none⟩) (.inl (.inr rfl)) _) (fun _ _ h=>h.elim) (fun i L e=>by omega);simp[Leaves,settle,results,results105,go_sem,c0];exact hE
theorem aEa:ve prog 27 18:=⟨⟨_,underlying27,rfl⟩,by kernel_rfl⟩
def BM(n:Int)(c:ByteArray)(t:List UInt8):Array ag:=(df .i64 n::Ya c::t.map gq).toArray
theorem dH(b:List UInt8)(a:Int)(s:List UInt8):(dN b a s).length=s.length:=by unfold dN;rw[aDP,rF];simp
theorem KQ{l:List UInt8}(h:l.length=16):∃ r q p o n m k j i g f e d c b a,l=[r,q,p,o,n,m,k,j,i,g,f,e,d,c,b,a]:=by
 match l,h with
 |[r,q,p,o,n,m,k,j,i,g,f,e,d,c,b,a],_=>exact⟨r,q,p,o,n,m,k,j,i,g,f,e,d,c,b,a,rfl⟩
theorem Gy (key : List UInt8) (ny:Int) (s:ByteArray) (w:ae) (hM:af w) (hk:key.length=16) (h1:-9223372036854775808<=ny) (h2:ny<9223372036854775808) (hs:s.size<=100000) :
    ik prog 103 #[.agg (key.map gq).toArray,.int .i64 ny,.string s] w fun e w'=>e=.returned (.agg (BM ny (strOf (dN key ny s.data.toList)) (qc key ny (dN key ny s.data.toList))))/\Ext w w':=by
  obtain⟨arr,harr⟩:∃ r,(key.map gq).toArray=r:=⟨_,rfl⟩;have HM:=hide hM;have Xl:=hide (fun W hW=>aSl key ny s W hW hk h1 h2 hs);rw[harr] at Xl ⊢;have WT:arr.size=16:=by rw[<-harr];simpa using hk
  have h1c:arr.all (·.oneCell')=true:=by rw[<-harr];exact dK _
  have HA:=hide harr;clear hM harr
  go_enter func103,ntmps103
  obtain⟨cs,hcs⟩:∃ c,strOf (dN key ny s.data.toList)=c:=⟨_,rfl⟩;have hcl:cs.data.toList=dN key ny s.data.toList:=by rw[<-hcs];exact bV _
  have hcz : cs.size <= 100000 := by
   have h:cs.data.toList.length=s.data.toList.length:=by rw[hcl,dH]
   rw[mf,mf] at h;have h2:cs.size=s.size:=h;omega
  have HTg:=hide (fun W hW=>bFo key ny cs W hW hk h1 h2 hcz);rw[aA HA,hcl] at HTg;rw[hcs] at Xl ⊢;have HTL:=hide (fZ key ny (dN key ny s.data.toList));generalize qc key ny (dN key ny s.data.toList)=tg at *;clear hcs hcl;obtain⟨t0,t1,t2,t3,t4,t5,t6,t7,t8,t9,t10,t11,t12,t13,t14,t15,rfl⟩:=KQ (aA HTL)
  go_wp2_with (first
    |(refine fG (x:=.tmp 3) rfl rfl bG rfl (cs:=arr) (g:=w.heap.size) (by first|exact (dh.new w _ _).alloc _|assumption) WT ?_)
    | (
     go_at_call 105;refine (aA Xl _ ((aA HM).ext (((Ext.refl w).alloc _).alloc _))).mono ?_;rintro e w1 ⟨rfl,hE1⟩
     have hba:dh w1 w.heap.size 23 arr:=((dh.new w _ _).alloc _).ext hE1;have hbb:=(dh.new' (g:=w.heap.size+1) (w.alloc (.cells arr 23)) _ _ ay).ext hE1
     have H1:=hide (show Ext w w1/\dh w1 (w.heap.size+1) 27 (#[.int .i64 0,.string { data:=#[] }]++yz 16 (.int .u8 0)) from az ((((Ext.refl w).alloc _).alloc _).trans hE1) hbb);clear hE1 hbb)
    |(go_at_call 104;refine (aA HTg _ ((aA HM).ext (aA H1).1)).mono ?_;rintro e w2 ⟨rfl,hE2⟩;have H2:=hide (az ((aA H1).1.trans hE2) ((aA H1).2.ext hE2));clear hE2)
    |(refine aS (ty:=27) (t:=27) (x:=.tmp 6) (y:=.tmp 18) rfl rfl aEa rfl rfl (aA H2).2 ay rfl (by rw[<-Array.all_toList];rfl) ?_;intro w3 hb3 hc3 hz3;have H3:=hide (az hb3 hc3);clear hb3 hc3 hz3))
  refine Y4 (dR aEa rfl (aA H3).1 rfl rfl) rfl ⟨rfl,?_⟩;exact (aA H2).1.trans' (aA H3).2 (fun _ _ h=>h) (fun i hi e=>by omega)
theorem ylm{S:ae->Prop}{ops:Array Oper}{o:Oper}{a:Act}{T:bu}{n:Nat}(b:ve prog T n){x:Operand}(h:o.op=.load T x)(e:Region.wanted o (yielded ops a.tmps)=true){g off:Nat}{cs:List ag}(c:a.eval x=.pointer (some ⟨g,off,none⟩))(hn:cs.length=n)(j:∀ w,S w->w.rangeAt g off cs):YieldsIf prog ops S o (.agg cs.toArray) a:=by obtain⟨d,f,i⟩:=b.und;exact yieldsIf_load_mid (P:=prog) (S:=S) e T x h g off c cs d j f i (by rw[hn];exact b.info)
theorem Zn{S:ae->Prop}{ops:Array Oper}{o:Oper}{a:Act}{T:bu}{n:Nat}(f:ve prog T n){x:Operand}(d:o.op=.load T x)(c:Region.wanted o (yielded ops a.tmps)=true){g:Nat}{t:bu}{cs:Array ag}(b:a.eval x=.pointer (some ⟨g,0,none⟩))(hn:cs.size=n)(e:∀ w,S w->dh w g t cs):YieldsIf prog ops S o (.agg cs) a:=by have:=ylm (S:=S) (ops:=ops) (o:=o) (a:=a) f d c (cs:=cs.toList) b (by rw[mf,hn]) (fun w h=>(e w h).range);rwa [Array.toArray_toList] at this
theorem aJb{w:ae}{g:Nat}{t:bu}{pre l:List ag}(h:dh w g t (pre++l).toArray):w.rangeAt g pre.length l:=fun j v a=>by rw[h.cell,YY,YC a_,show pre.length+j-pre.length=j from by omega];exact a
theorem aUi{w w':ae}{g o:Nat}{cs:List ag}(h:w.rangeAt g o cs)(b:Ext w w'):w'.rangeAt g o cs:=fun j v a=>Ext.j_ b (h j v a)
theorem aMf{w a b:ae}{o:Obj}(h:Ext w a)(hc:dm (fun k=>k=a.heap.size) (a.alloc o) b):Ext w b:=(h.alloc _).trans' hc (fun _ _ h=>h) (fun i c e=>by have:=h.size';omega)
theorem aGe{a b:ae}{o:Obj}(hc:dm (fun k=>k=a.heap.size) (a.alloc o) b):Ext a b:=aMf (Ext.refl a) hc
theorem aKt{P:Program}{ops:Array Oper}{rest:List Oper}{o:Oper}{a:Act}{w:ae}{Q:Exit->Act->ae->Prop}(b:Region.wanted o (yielded ops a.tmps)=true){ty:bu}{x:Operand}(f:o.op=.load ty x){n:Nat}(W:ve P ty n)
  {g off:Nat} (c:a.eval x=.pointer (some ⟨g,off,none⟩)) {cs:List ag} (k:w.rangeAt g off cs) (hn:cs.length=n) (h:wpList P ops Q rest (a.put o.dst (.agg cs.toArray)) w):wpList P ops Q (o::rest) a w:=by
 obtain⟨d,e,i⟩:=W.und;exact Go.BigFrame.wpList_want b fun _ j=>wp_load_mid ty x f g off c cs d k e i (by rw[hn];exact W.info) (j _ _ h)
section
variable {P:Program}
theorem yE{e:bu}(k:P.underlying e=some (.int .u8))(g:P.plainKey e=true)(d:Nat)(a b:List UInt8)(w:ae):∀ c:List Nat,(∀ i∈c,i<a.length/\i<b.length) ->
  (Op.eqItems (d+1) e 1 (a.map rO).toArray (b.map rO).toArray c).run P w=.ok (c.all fun i=>a.getD i 0==b.getD i 0) w
 |[],_=>by simp[Op.eqItems]| i::c,h=>by
  obtain⟨m,l⟩:=h i ay;have p:(part e (a.map rO).toArray (i*1)).run P w=.ok (rO a[i]) w:=run_part_plain w g (by simp[zH m]);have o:(part e (b.map rO).toArray (i*1)).run P w=.ok (rO b[i]) w:=run_part_plain w g (by simp[zH l]);have n:(Op.equalIn (d+1) e (rO a[i]) (rO b[i])).run P w=.ok (a[i]==b[i]) w:=by simp[Op.equalIn,run_underlying k,rO];rw[Bool.eq_iff_iff];simp;exact⟨fun h=>UInt8.toNat_inj.1 (Int.ofNat_inj.1 h),fun h=>by rw[h]⟩
  have q:=yE k g d a b w c fun j r=>h j (by simp[r]);simp only[Op.eqItems,Sem.run_bind,p,o,n,Result.andThen_ok];rw[List.all_cons,zG,zG,zH m,zH l];simp only[Option.getD_some];by_cases f:a[i]=b[i];simpa[f] using q;simp[f]
theorem all_eq(a b:List UInt8)(n:Nat)(e:a.length=n)(hb:b.length=n):((yf n).all fun i=>a.getD i 0==b.getD i 0)=decide (a=b):=by rw[Bool.eq_iff_iff];simp only[List.all_eq_true,aFA,beq_iff_eq,decide_eq_true_eq];constructor;intro h;apply List.ext_getElem a_;intro i d c;have:=h i a_;simpa[zG,zH d,zH c] using this;rintro rfl i _;rfl
theorem aLg{t e:bu}{n:Nat}(d:P.underlying t=some (.array n e))(c:P.underlying e=some (.int .u8))(j:P.plainKey e=true){inf:TypeInfo}(g:P.info? e=some inf)(h1:P.cellsOf e=1){a b:List UInt8}(k:a.length=n)(hb:b.length=n)(w:ae) :
  (binOp .neq t (.agg (a.map rO).toArray) (.agg (b.map rO).toArray)).run P w=.ok (.bool (!decide (a=b))) w:=by
 have h:=run_equalIn_array (P:=P) w 9999 (a.map rO).toArray (b.map rO).toArray d g;rw[h1,yE c j 9998 a b w _ (fun i f=>by rw[aFA] at f;omega),all_eq a b n k hb] at h;simp only[binOp];simp[Op.equal,Op.maxDepth,h]
end
theorem Reads.aJZ(w:ae)(cs:Array ag)(e:bu)(l:Nat×Nat)(n c:Nat)(xs:List ag){g:Nat}(k:g=w.heap.size)(b:xs.length=n)(hc:n<=c)(f:c<=uC)(d:cs.toList.take xs.length=xs) :
  Reads (w.alloc (.cells cs e l)) 1 (.slice (some ⟨g,0,none⟩) n c) n xs:=by
 subst k;refine⟨by rw[b,Nat.mul_one],_,c,rfl,hc,f,fun _=>⟨w.heap.size,0,rfl,fun j u a=>?_⟩⟩;have i:j<xs.length:=by rcases Y6 j xs.length with h|h;exact h;rw[GM h] at a;cases a
 rw[lL,World.cell?_alloc_mark];rw[<-d,xe,if_pos i] at a;simpa using a
end
theorem Fq:prog.plainKey 5=true:=by kernel_rfl
theorem UV:prog.cellsOf 5=1:=by kernel_rfl
theorem aBG{a b:List UInt8}(c:a.length=16)(hb:b.length=16)(w:ae):(binOp .neq 23 (.agg (a.map gq).toArray) (.agg (b.map gq).toArray)).run prog w=.ok (.bool (!decide (a=b))) w:=aLg (inf:=_) underlying23 underlying5 Fq rfl UV c hb w
theorem aPy(g:List UInt8)(a:Int)(c:ByteArray)(t:List UInt8)(w:ae)(U:af w)(O:g.length=16)(Q:t.length=16)(h1:-9223372036854775808<=a)(h2:a<9223372036854775808)(hs:c.size<=100000) :
  ik prog 81 #[.agg (g.map gq).toArray,.agg (BM a c t)] w fun e B=>e=.returned (bif decide (qc g a c.data.toList=t) then .tuple #[.string (strOf (dN g a c.data.toList)),.int .i64 0] else .tuple #[.string { data:=#[] },.int .i64 8])/\Ext w B:=by
 obtain⟨j,m⟩:∃ r,(g.map gq).toArray=r:=⟨_,rfl⟩;have Y:=hide U;have J:=hide (fun W P=>aSl g a c W P O h1 h2 hs);have z:=hide (fun W P=>bFo g a c W P O h1 h2 hs);rw[m] at J z ⊢;have q:j.size=16:=by rw[<-m];simpa using O
 have I:=hide (show (t.map gq).length=16 from by simpa using Q);have y:=fun W=>aBG (fZ g a c.data.toList) Q W;obtain⟨d,T⟩:∃ d,decide (qc g a c.data.toList=t)=d:=⟨_,rfl⟩;rw[T] at y ⊢;clear T;obtain⟨p,u⟩:∃ l,t.map gq=l:=⟨_,rfl⟩;have D:BM a c t=(df .i64 a::Ya c::p).toArray:=by rw[<-u];rfl
 rw[u] at y I;rw[D];obtain⟨tg,C⟩:∃ l,(qc g a c.data.toList).map gq=l:=⟨_,rfl⟩;rw[C] at y z
 have s:=hide (show dh ((w.alloc (.cells j 23)).alloc (.cells (df .i64 a::Ya c::p).toArray 27)) w.heap.size 23 j /\
   ((w.alloc (.cells j 23)).alloc (.cells (df .i64 a::Ya c::p).toArray 27)).cell? ⟨w.heap.size+1,0,none⟩=some (.int .i64 a) /\
   ((w.alloc (.cells j 23)).alloc (.cells (df .i64 a::Ya c::p).toArray 27)).cell? ⟨w.heap.size+1,1,none⟩=some (.string c) /\
   ((w.alloc (.cells j 23)).alloc (.cells (df .i64 a::Ya c::p).toArray 27)).rangeAt (w.heap.size+1) 2 p from
  ⟨(dh.new w _ _).alloc _,iE _ _ _ ay rfl,iE _ _ _ ay rfl,aJb (pre:=[df .i64 a,Ya c]) (dh.new' _ _ _ ay)⟩)
 have A:=hide (fun W (X:Ext ((w.alloc (.cells j 23)).alloc (.cells (df .i64 a::Ya c::p).toArray 27)) W)=>az (Ext.j_ X (aA s).2.1) (Ext.j_ X (aA s).2.2.1));clear U m u D C
 go_enter func81,ntmps81
 go_upto_region 1 with fail
 refine wp_region_held_drew (S:=fun B=>Ext ((w.alloc (.cells j 23)).alloc (.cells (df .i64 a::Ya c::p).toArray 27)) B) aj (Ext.refl _).drew (fun b=>?_);refine YI (i:=0) (v:=_) rfl aj aj aj (fun _ _ _ h=>h) (Zn bG rfl f_ rfl q (fun B N=>(aA s).1.ext N)) ou ?_
 try simp only[Act.put,zA,zB,zC,zD,zF]
 refine YI (i:=1) (v:=?_) rfl aj aj aj (fun _ _ _ h=>h) (Or.inl ⟨by rfl,fun k f=>?_⟩) ou ?_;rotate_left
 ·(first|(go_simp;done)|(go_simp;with_reducible rfl)|(obtain⟨H,G⟩:=(aA A) k f;clear f;first|(go_simp;done)|(go_simp;with_reducible rfl)))
 try simp only[Act.put,zA,zB,zC,zD,zE,zF]
 refine YI (i:=2) (v:=?_) rfl aj aj aj (fun _ _ _ h=>h) (Or.inl ⟨by rfl,fun k f=>?_⟩) ou ?_;rotate_left
 ·(first|(go_simp;done)|(go_simp;with_reducible rfl)|(obtain⟨H,G⟩:=(aA A) k f;clear f;first|(go_simp;done)|(go_simp;with_reducible rfl)))
 try simp only[Act.put,zA,zB,zC,zD,zE,zF]
 refine YI (i:=3) (v:=?_) rfl aj aj aj (fun _ _ _ h=>h) (Or.inl ⟨by rfl,fun k f=>?_⟩) ou ?_;rotate_left
 ·(first|(go_simp;done)|(go_simp;with_reducible rfl)|(obtain⟨H,G⟩:=(aA A) k f;clear f;first|(go_simp;done)|(go_simp;with_reducible rfl)))
 try simp only[Act.put,zA,zB,zC,zD,zE,zF]
 refine YI (i:=4) (v:=?_) rfl aj aj aj (fun _ _ _ h=>h) (Or.inl ⟨by rfl,fun k f=>?_⟩) ou ?_;rotate_left
 ·(first|(go_simp;done)|(go_simp;with_reducible rfl)|(obtain⟨H,G⟩:=(aA A) k f;clear f;first|(go_simp;done)|(go_simp;with_reducible rfl)))
 try simp only[Act.put,zA,zB,zC,zD,zE,zF]
 refine YI (i:=6) (v:=?_) rfl aj aj aj (fun _ _ _ h=>h) (Or.inl ⟨by rfl,fun k f=>?_⟩) ou ?_;rotate_left
 ·(first|(go_simp;done)|(go_simp;with_reducible rfl)|(obtain⟨H,G⟩:=(aA A) k f;clear f;first|(go_simp;done)|(go_simp;with_reducible rfl)))
 try simp only[Act.put,zA,zB,zC,zD,zE,zF]
 refine YI (i:=7) (v:=_) rfl aj aj aj (fun _ _ _ h=>h) (ylm bG rfl f_ rfl (aA I) (fun B N=>aUi (aA s).2.2.2 N)) ou ?_
 try simp only[Act.put,zA,zB,zC,zD,zE,zF]
 refine wpAnyH_ready (rs:=[5]) aj ay (AllReadyH.cons (o:=_) rfl (fun K V=>?_) AllReadyH.nil);go_simp;refine (aA z _ ((aA Y).ext ((((Ext.refl w).alloc _).alloc _).trans b))).mono ?_;rintro e L ⟨rfl,F⟩;have Z:=Ext.trans b F;clear F b;refine V.out _ _ ?_ (fun b=>?_);exact Z;clear V K
 try simp only[Act.put,zA,zB,zC,zD,zE,zF]
 refine YI (i:=8) (v:=?_) rfl aj aj aj (fun _ _ _ h=>h) (Or.inl ⟨by rfl,fun k f=>?_⟩) ou ?_;rotate_left
 ·(first|(go_simp;done)|(go_simp;with_reducible rfl)|(obtain⟨H,G⟩:=(aA A) k f;clear f;first|(go_simp;done)|(go_simp;with_reducible rfl)))
 try simp only[Act.put,zA,zB,zC,zD,zE,zF]
 refine wpAnyH_done aj ?_ _;cases d
 ·go_wp2
  go_ret2
  exact⟨rfl,(((Ext.refl w).alloc _).alloc _).trans b⟩
 ·have n:=hide (show dh L w.heap.size 23 j/\L.cell? ⟨w.heap.size+1,0,none⟩=some (.int .i64 a)/\L.cell? ⟨w.heap.size+1,1,none⟩=some (.string c)/\Ext w L from
   ⟨(aA s).1.ext b,Ext.j_ b (aA s).2.1,Ext.j_ b (aA s).2.2.1,(((Ext.refl w).alloc _).alloc _).trans b⟩)
  have c1:=(aA n).2.1;have c2:=(aA n).2.2.1;clear b s A
  go_wp2_with (first
   |(refine fG (x:=.tmp 2) rfl rfl bG rfl (cs:=j) (aA n).1 q ?_)
   |(go_at_call 105;refine (aA J _ ((aA Y).ext (aA n).2.2.2)).mono ?_;rintro e w6 ⟨rfl,E⟩;have H6:=hide E;clear E))
  go_ret2
  exact⟨rfl,(aA n).2.2.2.trans (aA H6)⟩
theorem QD(b:List UInt8)(a:Int)(c:ByteArray)(t:List UInt8)(w:ae)(i:af w)(h:b.length=16)(g:t.length=16)(h1:-9223372036854775808<=a)(h2:a<9223372036854775808)(hs:c.size<=100000)
  (d:¬qc b a c.data.toList=t) :
  ik prog 81 #[.agg (b.map gq).toArray,.agg (BM a c t)] w fun e f=>e=.returned (.tuple #[.string { data:=#[] },.int .i64 8])/\Ext w f:=by
 have:=aPy b a c t w i h g h1 h2 hs;rw[decide_eq_false d] at this;exact this
theorem J6(b:List UInt8)(a:Int)(c:ByteArray)(t:List UInt8)(w:ae)(i:af w)(h:b.length=16)(g:t.length=16)(h1:-9223372036854775808<=a)(h2:a<9223372036854775808)(hs:c.size<=100000)
  (d:qc b a c.data.toList=t) :
  ik prog 81 #[.agg (b.map gq).toArray,.agg (BM a c t)] w fun e f=>e=.returned (.tuple #[.string (strOf (dN b a c.data.toList)),.int .i64 0])/\Ext w f:=by
 have:=aPy b a c t w i h g h1 h2 hs;rw[decide_eq_true d] at this;exact this

theorem FT(a x:UInt8):(a ^^^ x) ^^^ x=a:=by rw[UInt8.xor_assoc,UInt8.xor_self,UInt8.xor_zero]
theorem FP(s x:List UInt8)(h:s.length<=x.length):Ym (· ^^^ ·) (Ym (· ^^^ ·) s x) x=s:=by
 induction s generalizing x with
 |nil=>simp| cons a s c=>
  cases x with
  |nil=>simp at h|cons b x=>simp only[List.zipWith_cons_cons];rw[FT,c x (by simpa using h)]
theorem xQ(b:List UInt8)(a:Int)(s:List UInt8):dN b a (dN b a s)=s:=by have c:=dH b a s;unfold dN at c ⊢;rw[c];exact FP _ _ (by rw[rF];simp)
def DL(n:Int)(c:ByteArray)(l:List ag):Array ag:=(df .i64 n::Ya c::l).toArray
theorem SG(n:Int)(c:ByteArray)(t:List UInt8):BM n c t=DL n c (t.map gq):=rfl
theorem bDv{w:ae}{g:Nat}{t:bu}{n:Int}{c:ByteArray}{l:List ag}(h:dh w g t (DL n c l)):w.rangeAt g 2 l:=aJb (pre:=[df .i64 n,Ya c]) h
theorem rH(x:UInt32)(n:Nat)(b:Int)(hI:b=(n:Int))(w:ae)(hn:0<n)(a:n<32) :
  ik prog 164 #[.int .u32 (x.toNat:Int),.int .i64 b] w fun e c=>e=.returned (.int .u32 ((gQ x (YG n)).toNat:Int))/\∃ k,c=w.drewN k:=by
 subst hI
 have d:=hide (show bits BinOp.or IntKind.u32 ((x.toNat:Int) / 2 ^ n) ((x.toNat:Int)*2 ^ (32-n) % 4294967296)=((gQ x (YG n)).toNat:Int) from by
  rw[ZQ x (32-n) a_,bGa x n a,Ee];unfold gQ;have e:YG (32-n)=32-YG n:=by apply UInt32.toNat_inj.1;rw[UInt32.toNat_sub];simp;omega
  rw[e])
 have f:=x.toNat_lt;have g:IntKind.i64.wrap (32-(n:Int))=((32-n:Nat):Int):=by rw[show (32:Int)-(n:Int)=((32-n:Nat):Int) by omega];exact IntWalk.i64_in _ a_
 go_enter func164,ntmps164
 go_wp2
 go_quiet (fail)
 go_wp2
 go_ret;exact⟨tK (aA d),_,rfl⟩
theorem Ox:yc prog 200 203 1 4:=yc.mk' (z:=.int .u32 0) aj aj rfl a_ a_
def hexD(c:UInt8):UInt32:=if 97<=c.toNat then (c-97+10).toUInt32 else (c-48).toUInt32
def UB(l:List UInt8)(i k:Nat):UInt32:=((l.drop (8*i)).take k).foldl (fun w c=>16*w+hexD c) 0
def uN(l:List UInt8)(i:Nat):UInt32:=UB l i 8
theorem bCq(l:List UInt8)(i k:Nat)(h:8*i+k<l.length):UB l i (k+1)=16*UB l i k+hexD l[8*i+k]:=by unfold UB;rw[lW _ k mg,List.foldl_append];simp
theorem WR(c:UInt8)(h:c.toNat<97):((c.toNat:Int)-48) % 256=((hexD c).toNat:Int):=by unfold hexD;rw[if_neg a_,UInt8.toNat_toUInt32,UInt8.toNat_sub,show (48:UInt8).toNat=48 from rfl];have:=c.toNat_lt;omega
theorem WS(c:UInt8)(h:97<=c.toNat):(c.toNat:Int)-97+10=((hexD c).toNat:Int):=by unfold hexD;rw[if_pos h,UInt8.toNat_toUInt32,UInt8.toNat_add,UInt8.toNat_sub,show (97:UInt8).toNat=97 from rfl,show (10:UInt8).toNat=10 from rfl];have:=c.toNat_lt;omega
theorem LU(a d:UInt32):(16*(a.toNat:Int) % 4294967296+(d.toNat:Int)) % 4294967296=((16*a+d).toNat:Int):=by rw[UInt32.toNat_add,UInt32.toNat_mul];simp
theorem FZ(s:ByteArray)(i:Nat)(w:ae)(hs:s.size<=100000)(r:8*i+8<=s.size) :
  ik prog 163 #[.string s,.int .i64 (i:Int)] w fun e m=>e=.returned (.int .u32 ((uN s.data.toList i).toNat:Int))/\w=m:=by
 have x:IntKind.i64.wrap (8*(i:Int))=8*(i:Int):=IntWalk.i64_in _ a_
 go_enter func163,ntmps163
 go_wp2
 go_loop [5,6] (fun a b=>∃ k:Nat,k<=8/\b=.int .i64 ((8*i+k:Nat):Int)/\a=.int .u32 ((UB s.data.toList i k).toNat:Int)) (fun _ b=>8*i+8-(intOf b).toNat)
 case atStart=>exact⟨0,x8 _,by simp,rfl⟩
 case round=>
  obtain⟨k,q,rfl,rfl⟩:=hrel;by_cases n:k<8
  ·have g:8*i+k<s.size:=by omega
   have h:=hide (bCq s.data.toList i k (by rw[mf];exact g));have t:=s[8*i+k].toNat_lt;have l:Hid (s.data.toList[8*i+k]'(by rw[mf];exact g)=s[8*i+k]):=hide (by rw[Array.getElem_toList];rfl);have u:=(UB s.data.toList i k).toNat_lt;have j:=hide (fun d=>LU (UB s.data.toList i k) d);generalize UB s.data.toList i k=p at *;have o:decide (((8*i+k:Nat):Int)<8*(i:Int)+8)=true:=decide_eq_true a_;by_cases c:97<=s[8*i+k].toNat
   ·have f:=hide (WS s[8*i+k] c)
    go_wp2
    go_round
    case rel=>exact⟨k+1,by omega,by go_num,int_eq (by rw[aA f,aA h,aA l];exact aA j _)⟩
    case measure=>simp[intOf];omega
   ·have f:=hide (WR s[8*i+k] a_)
    go_wp2
    go_round
    case rel=>exact⟨k+1,by omega,by go_num,int_eq (by rw[aA f,aA h,aA l];exact aA j _)⟩
    case measure=>simp[intOf];omega
  ·obtain rfl:k=8:=by omega
   have o:decide (((8*i+8:Nat):Int)<8*(i:Int)+8)=false:=decide_eq_false a_
   go_wp2
   go_ret;exact⟨rfl,rfl⟩
theorem aOe(s:ByteArray)(n:Nat)(g:Int)(hI:g=(n:Int))(w:ae)(hs:s.size<=100000)(hn:8*n<=s.size) :
  ik prog 132 #[.string s,.int .i64 g] w fun e d=>∃ A c,e=.returned (.slice A n c)/\d.ownsRow w.heap.size 203 1 (.slice A n c) n (((yf n).map (uN s.data.toList)).map w32)/\Ext w d:=by
 subst hI
 go_enter func132,ntmps132
 go_wp2
 go_loopw [5,6] (fun b i wr=>∃ (k:Nat) (A:Option Addr) (c:Nat),k<=n/\i=.int .i64 k/\b=.slice A k c/\Hid (wr.ownsRow w.heap.size 203 1 (.slice A k c) k (((yf k).map (uN s.data.toList)).map w32)/\Ext w wr)) (fun _ i _=>n-(intOf i).toNat)
 case atStart=>exact⟨0,none,0,x8 _,rfl,rfl,hide ⟨aDL _ _ _ _,Ext.refl _⟩⟩
 case round=>
  obtain⟨k,A,c,z,rfl,rfl,a⟩:=hrel;by_cases o:k<n
  ·have r:=hide (show ((yf (k+1)).map (uN s.data.toList)).map w32=((yf k).map (uN s.data.toList)).map w32++[w32 (uN s.data.toList k)] from by rw[aDR];simp);have t:=hide (fun W=>FZ s k W hs a_);generalize uN s.data.toList k=x at *
   go_wp2_with (first
    |(go_at_call 163;refine (aA t _).mono ?_;rintro e d ⟨rfl,rfl⟩)
    |(at_builtin;refine bQ rfl rfl Ox rfl (bP (aA a).1 ((Ext.refl _).alloc _)) rfl (Reads.uo _ _ _) (dO.one rfl) a_ (mr (aA a).2.size' ay) ?_;intro u p y j l h;have f:=hide (az j (az l h));clear j l h))
   go_roundw
   case rel=>refine⟨k+1,u,p,by omega,by go_num,rfl,hide ⟨by rw[aA r];exact (aA f).1,?_⟩⟩;exact Onto.D9 (aA a).2 (((Onto.refl _ _).ext ((Ext.refl wr).alloc _)).trans (Onto.app (aA f).2.1 (aA f).2.2)) (fun q m=>((aA a).1.lt q m).1)
   case measure=>simp[intOf];omega
  ·obtain rfl:k=n:=by omega
   go_wp2
   go_ret;exact⟨_,_,rfl,(aA a).1,(aA a).2⟩
theorem Reads.at_{w:ae}{b o n c:Nat}{xs:List ag}(h:Reads w 1 (.slice (some ⟨b,o,none⟩) n c) n xs){j:Nat}{u:ag}(a:xs[j]?=some u):w.cell? ⟨b,o+j,none⟩=some u:=by
 obtain⟨l,A,m,e,_,_,g⟩:=h;have f:j<xs.length:=by rcases Y6 j xs.length with h|h;exact h;rw[GM h] at a;cases a
 obtain⟨p,k,i,d⟩:=g a_;cases e;cases i;exact d j u a
theorem Reads.byteAt{w:ae}{b o n c:Nat}{l:List UInt8}(h:Reads w 1 (.slice (some ⟨b,o,none⟩) n c) n (l.map gq)){j:Nat}(a:j<l.length):w.cell? ⟨b,o+j,none⟩=some (.int .u8 ((l.getD j 0).toNat:Int)):=h.at_ (by rw[Xu,zG,zH a];rfl)
theorem Reads.wordAt{w:ae}{b o n c:Nat}{l:List UInt32}(h:Reads w 1 (.slice (some ⟨b,o,none⟩) n c) n (l.map w32)){j:Nat}(a:j<l.length):w.cell? ⟨b,o+j,none⟩=some (.int .u32 ((l.getD j 0).toNat:Int)):=h.at_ (by rw[Xu,zG,zH a];rfl)
structure GB(w0:ae)(B:Nat)(v:ag)(n:Nat)(l:List UInt8)(wr:ae):Prop where
 own:wr.ownsRow B 5 1 v n (l.map gq)
 ext:Ext w0 wr
 base:w0.heap.size<=B
 room:B<=wr.heap.size
theorem GB.nil{w0 wr:ae}{B:Nat}(b:Ext w0 wr)(c:w0.heap.size<=B)(a:B<=wr.heap.size):GB w0 B (.slice none 0 0) 0 [] wr:=⟨aDL _ _ _ _,b,c,a⟩
theorem GB.len{w0 wr:ae}{B n:Nat}{v:ag}{l:List UInt8}(h:GB w0 B v n l wr):l.length=n:=by have:=h.own.1;simpa using this
theorem GB.to{w0 wr b:ae}{B n:Nat}{v:ag}{l:List UInt8}(h:GB w0 B v n l wr)(a:Ext wr b):GB w0 B v n l b:=⟨bP h.own a,h.ext.trans a,h.base,mr h.room a.size'⟩
theorem GB.step{w0 wr b a:ae}{B n d:Nat}{v c:ag}{l l':List UInt8}(h:GB w0 B v n l wr)(f:Ext wr b)(hc:dm (fun k=>v.ownBlock=some k) b a)(g:a.ownsRow B 5 1 c d (l'.map gq)):GB w0 B c d l' a:=⟨g,(h.ext.trans f).trans' hc (fun _ _ h=>h) (fun i j e=>by have:=(h.own.lt i e).1;have:=h.base;omega),h.base,mr h.room (mr f.size' hc.size)⟩
theorem GB.blk{w0 wr b a:ae}{B n:Nat}{v:ag}{l:List UInt8}(h:GB w0 B v n l wr)(c:Ext wr b)(hc:dm (fun k=>v.ownBlock=some k) b a){g:Nat}{t:bu}{cs:Array ag}(hb:dh wr g t cs)(d:g<B):dh a g t cs:=(hb.ext c).gy hc (fun e=>by have:=(h.own.lt g e).1;omega)
theorem GB.reads{w0 wr:ae}{B n:Nat}{v:ag}{l:List UInt8}(h:GB w0 B v n l wr):Reads wr 1 v n (l.map gq):=Reads.lw h.own
def dZ(n:Nat)(l:List UInt8):Array ag:=(l.map gq++List.replicate (n-l.length) (df .u8 0)).toArray
theorem qH{n:Nat}{l:List UInt8}{i:Nat}(h:l.length<=i)(a:i<n):(dZ n l)[i]?=some (.int .u8 0):=by unfold dZ;rw[YY,YC (by simpa using h),List.getElem?_replicate,if_pos mg]
theorem zQ{n k:Nat}{l:List UInt8}(x:UInt8)(hl:l.length=k)(h:k<n):(dZ n l).setIfInBounds k (.int .u8 (x.toNat:Int))=dZ n (l++[x]):=by subst hl;unfold dZ;rw[show n-l.length=(n-(l++[x]).length)+1 from by simp;omega,List.replicate_succ];simp[gq]
theorem aHk(n:Nat):dZ n []=yz n (df .u8 0):=by unfold dZ;simp
theorem lC{n:Nat}{l:List UInt8}(h:l.length<=n):(dZ n l).size=n:=by unfold dZ;simp;omega
theorem zS{n:Nat}{l:List UInt8}(h:l.length=n):dZ n l=(l.map gq).toArray:=by unfold dZ;rw[h,YB];simp
end Go.Proofs.YtndpjopifkbgiaaGreatDoor
