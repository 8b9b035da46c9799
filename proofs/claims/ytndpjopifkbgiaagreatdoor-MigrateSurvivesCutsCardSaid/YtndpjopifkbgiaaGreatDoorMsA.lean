/-.-/
import Derived.WalkKit
import Derived.WalkSpells
import Derived.WalkLawsBesides
import Derived.Handy
import Derived.Deep.QuietTactic
import Derived.BigQuiet
import Derived.Deep.Draws
import Derived.Maps.AppendAt
import Derived.Laws.BitsAllLaws
import Derived.Test.YtndpjopifkbgiaaGreatDoorProg
import Derived.Outline
import Derived.Deep.MidRow
import Derived.OwnWalkIn
import Derived.RangeFuncNested
import Derived.RangeFuncBound
import Derived.RangeFuncCalls
import Derived.RangeFuncLeaves
import Derived.TacticsInMore
import Derived.LoopNIn
import Derived.LoopIn
import Derived.Deep.Cut
import Derived.ChangeKeysEq
import Derived.DeepKeys
import Derived.Deep.RegionHeld3
import Derived.Deep.DeepCutAuto
set_option maxRecDepth 100000
set_option maxHeartbeats 4000000
namespace Go.Proofs.YtndpjopifkbgiaaGreatDoor
open Go.RowKit
section
theorem zA{α:Type}(l:List α)(i:Nat)(a:α):l.toArray.setIfInBounds i a=(l.set i a).toArray:=List.setIfInBounds_toArray ..
theorem zB{α:Type}(x y:α)(l:List α):(x::l).set 0 y=y::l:=rfl
theorem zC{α:Type}(x y:α)(l:List α)(n:Nat):(x::l).set (n+1) y=x::l.set n y:=rfl
theorem zD{α:Type}(l:List α)(i:Nat)(h:i<l.toArray.size):l.toArray[i]'h=l[i]'(by simpa using h):=List.getElem_toArray ..
theorem zE{α:Type}(x:α)(l:List α)(n:Nat)(h:n+1<(x::l).length):(x::l)[n+1]'h=l[n]'(Nat.lt_of_succ_lt_succ h):=rfl
theorem zG{α:Type}{l:List α}{i:Nat}{a:α}:l.getD i a=l[i]?.getD a:=List.getD_eq_getElem?_getD
theorem zH{α:Type}{l:List α}{i:Nat}(h:i<l.length):l[i]?=some l[i]:=List.getElem?_eq_getElem h
theorem zF{α:Type}(x:α)(l:List α)(h:0<(x::l).length):(x::l)[0]'h=x:=rfl
theorem hide{p:Prop}(h:p):Hid p:=h
theorem aA{p:Prop}(h:Hid p):p:=h
theorem rW{k:IntKind}{a b:Int}(h:a=b):Ending.returned (.int k a)=.returned (.int k b):=by rw[h]
theorem int_eq{k:IntKind}{a b:Int}(h:a=b):Value.int k a=.int k b:=by rw[h]
theorem aCo{k:IntKind}{a b:Int}{y:Value}(h:a=b):Ending.returned (.tuple #[.int k a,y])=.returned (.tuple #[.int k b,y]):=by rw[h]
structure dm(S:Nat->Prop)(w w':World):Prop where
 os:w'.os=w.os
 tape:w'.tape=w.tape
 output:w'.output=w.output
 size:w.heap.size<=w'.heap.size
 block:∀ k,k<w.heap.size->¬S k->w'.heap[k]?=w.heap[k]?
def Non:Nat->Prop:=fun _=>False
def Ext(w w':World):Prop:=dm Non w w'
theorem dm.refl(S:Nat->Prop)(w:World):dm S w w:=⟨rfl,rfl,rfl,Nat.le_refl _,fun _ _ _=>rfl⟩
theorem dm.trans'{S T U:Nat->Prop}{a b c:World}(h:dm S a b)(k:dm T b c)(hS:∀ i,i<a.heap.size->S i->U i)(hT:∀ i,i<a.heap.size->T i->U i):dm U a c:=
 ⟨
  k.os.trans h.os,k.tape.trans h.tape,k.output.trans h.output,Nat.le_trans h.size k.size,fun i hi hn=>
  (k.block i (Nat.lt_of_lt_of_le hi h.size) (fun ht=>hn (hT i hi ht))).trans (h.block i hi (fun hs=>hn (hS i hi hs)))⟩
theorem dm.trans{S:Nat->Prop}{a b c:World}(h:dm S a b)(k:dm S b c):dm S a c:=h.trans' k (fun _ _ h=>h) (fun _ _ h=>h)
theorem dm.mono{S T:Nat->Prop}{a b:World}(h:dm S a b)(hS:∀ i,i<a.heap.size->S i->T i):dm T a b:=
 ⟨h.os,h.tape,h.output,h.size,fun i hi hn=>h.block i hi (fun hs=>hn (hS i hi hs))⟩
theorem Ext.gu{S:Nat->Prop}{a b:World}(h:Ext a b):dm S a b:=dm.mono h (fun _ _ h=>h.elim)
theorem dm.ext{S:Nat->Prop}{a b c:World}(h:dm S a b)(k:Ext b c):dm S a c:=h.trans k.gu
theorem Ext.refl(w:World):Ext w w:=dm.refl _ _
theorem Ext.trans{a b c:World}(h:Ext a b)(k:Ext b c):Ext a c:=dm.trans h k
theorem dm.alloc{S:Nat->Prop}{a w:World}(h:dm S a w)(o:Obj):dm S a (w.alloc o):=
 h.trans ⟨rfl,rfl,rfl,by simp,fun k hk _=>Below.heap_alloc _ _ _ hk⟩
theorem Ext.alloc{a w:World}(h:Ext a w)(o:Obj):Ext a (w.alloc o):=dm.alloc h o
theorem dm.drew{S:Nat->Prop}{a w:World}(h:dm S a w):dm S a w.drew:=⟨h.os,h.tape,h.output,h.size,h.block⟩
theorem Ext.drew{a w:World}(h:Ext a w):Ext a w.drew:=dm.drew h
theorem dm.drewN{S:Nat->Prop}{a w:World}(h:dm S a w)(n:Nat):dm S a (w.drewN n):=⟨h.os,h.tape,h.output,h.size,h.block⟩
theorem Ext.drewN{a w:World}(h:Ext a w)(n:Nat):Ext a (w.drewN n):=dm.drewN h n
theorem dm.setCell{S:Nat->Prop}{a w:World}(h:dm S a w){p:Addr}(hp:S p.block\/a.heap.size<=p.block)(u:Value):dm S a (w.setCell p u):=
 ⟨h.os,h.tape,h.output,by simpa[World.setCell] using h.size,fun k hk hn=>(Below.heap_setCell _ _ _ _ (by rintro rfl;exact hp.elim hn (fun h=>by omega))).trans (h.block k hk hn)⟩
theorem Ext.setCell{a w:World}(h:Ext a w){p:Addr}(hp:a.heap.size<=p.block)(u:Value):Ext a (w.setCell p u):=dm.setCell h (.inr hp) u
theorem dm.grown{S:Nat->Prop}{a w w':World}{row:Option Nat}(h:dm S a w)(hg:w.grownBy w' row)(hr:∀ k,row=some k->S k\/a.heap.size<=k):dm S a w':=
 ⟨
  hg.os.trans h.os,hg.tape.trans h.tape,hg.output.trans h.output,Nat.le_trans h.size hg.size,fun k hk hn=>
  (hg.block k (Nat.lt_of_lt_of_le hk h.size) (fun e=>(hr k e.symm).elim hn (fun h=>by omega))).trans (h.block k hk hn)⟩
theorem Ext.grown{a w w':World}{row:Option Nat}(h:Ext a w)(hg:w.grownBy w' row)(hr:∀ k,row=some k->a.heap.size<=k):Ext a w':=dm.grown h hg (fun k hk=>.inr (hr k hk))
theorem Ext.of_below{w w':World}(h:Below w.heap.size w w'):Ext w w':=⟨h.os,h.tape,h.output,h.size,fun k hk _=>h.block k hk⟩
theorem Ext.below{w w':World}(h:Ext w w'):Below w.heap.size w w':=⟨h.os,h.tape,h.output,h.size,fun k hk=>h.block k hk (fun h=>h)⟩
theorem dm.cell{S:Nat->Prop}{w w':World}(h:dm S w w'){p:Addr}(hp:p.block<w.heap.size)(hn:¬S p.block):w'.cell? p=w.cell? p:=World.cell?_of_block (w:=w) (h.block p.block hp hn)
theorem dm.frozen{S:Nat->Prop}{w w':World}(h:dm S w w'){p:Addr}(hp:p.block<w.heap.size)(hn:¬S p.block):w'.frozen? p=w.frozen? p:=World.frozen?_of_block (w:=w) (h.block p.block hp hn)
theorem lt_of_cell{w:World}{p:Addr}{v:Value}(h:w.cell? p=some v):p.block<w.heap.size:=World.block_lt_of_cell? w p h
theorem Ext.jd{w w':World}(h:Ext w w'){p:Addr}{v:Value}(hv:w.cell? p=some v):w'.cell? p=some v:=(dm.cell h (lt_of_cell hv) (fun h=>h)).trans hv
theorem dm.jd{S:Nat->Prop}{w w':World}(h:dm S w w'){p:Addr}{v:Value}(hv:w.cell? p=some v)(hn:¬S p.block):w'.cell? p=some v:=(dm.cell h (lt_of_cell hv) hn).trans hv
theorem dm.vw{S:Nat->Prop}{w w':World}(h:dm S w w'){p:Addr}(hv:w.frozen? p=false)(hl:p.block<w.heap.size)(hn:¬S p.block):w'.frozen? p=false:=(dm.frozen h hl hn).trans hv
theorem Ext.vw{w w':World}(h:Ext w w'){p:Addr}(hv:w.frozen? p=false)(hl:p.block<w.heap.size):w'.frozen? p=false:=(dm.frozen h hl (fun h=>h)).trans hv
theorem lt_of_heap{w:World}{k:Nat}{o:Obj}(h:w.heap[k]?=some o):k<w.heap.size:=(Array.getElem?_eq_some_iff.1 h).1
theorem dm.blk{S:Nat->Prop}{w w':World}(h:dm S w w'){k:Nat}{o:Obj}(hv:w.heap[k]?=some o)(hn:¬S k):w'.heap[k]?=some o:=(h.block k (lt_of_heap hv) hn).trans hv
theorem Ext.blk{w w':World}(h:Ext w w'){k:Nat}{o:Obj}(hv:w.heap[k]?=some o):w'.heap[k]?=some o:=dm.blk h hv (fun h=>h)
theorem Ext.size'{w w':World}(h:Ext w w'):w.heap.size<=w'.heap.size:=dm.size h
theorem Ext.rules{w w':World}(h:Ext w w'):(∀ b o,b<w.heap.size->w'.cell? ⟨b,o,none⟩=w.cell? ⟨b,o,none⟩)/\(∀ b o,b<w.heap.size->w'.frozen? ⟨b,o,none⟩=w.frozen? ⟨b,o,none⟩):=
 ⟨fun b o hb=>dm.cell (p:=⟨b,o,none⟩) h hb (fun h=>h),fun b o hb=>dm.frozen (p:=⟨b,o,none⟩) h hb (fun h=>h)⟩
def au(w:World)(g:Nat)(t:TypeId)(cs:Array Value):Prop:=w.heap[g]?=some (.cells cs t (0,0))
section
variable {w w':World} {g:Nat} {t:TypeId} {cs:Array Value}
theorem au.lt(h:au w g t cs):g<w.heap.size:=lt_of_heap h
theorem au.cell(h:au w g t cs)(i:Nat):w.cell? ⟨g,i,none⟩=cs[i]?:=cell_of_row w g i cs t (0,0) h
theorem au.frozen(h:au w g t cs)(i:Nat):w.frozen? ⟨g,i,none⟩=false:=by
 unfold au at h;simp[World.frozen?,h]
theorem au.new(w:World)(t:TypeId)(cs:Array Value):au (w.alloc (.cells cs t)) w.heap.size t cs:=heap_alloc_new w _
theorem au.new'(w:World)(t:TypeId)(cs:Array Value){g:Nat}(hg:g=w.heap.size):au (w.alloc (.cells cs t)) g t cs:=by subst hg;exact heap_alloc_new w _
theorem au.drew(h:au w g t cs):au w.drew g t cs:=h
theorem au.drewN(h:au w g t cs)(n:Nat):au (w.drewN n) g t cs:=h
theorem au.alloc(h:au w g t cs)(o:Obj):au (w.alloc o) g t cs:=(Below.heap_alloc w o g h.lt).trans h
theorem au.y9(h:au w g t cs)(i:Nat)(u:Value):au (w.setCell ⟨g,i,none⟩ u) g t (cs.setIfInBounds i u):=by
 unfold au at h ⊢;simp[World.setCell,Array.getElem?_modify,h]
theorem au.far(h:au w g t cs){p:Addr}(hp:g≠p.block)(u:Value):au (w.setCell p u) g t cs:=(Below.heap_setCell w p u g hp).trans h
theorem au.gu{S:Nat->Prop}(h:au w g t cs)(hc:dm S w w')(hn:¬S g):au w' g t cs:=dm.blk hc h hn
theorem au.EP{a:Value}(h:au w g t #[a]):w.cell? ⟨g,0,none⟩=some a/\(∀ i,w.frozen? ⟨g,i,none⟩=false)/\g<w.heap.size:=⟨h.cell 0,h.frozen,h.lt⟩
theorem au.ext(h:au w g t cs)(hc:Ext w w'):au w' g t cs:=Ext.blk hc h
end
def held(w:World)(p:Addr):Value:=(w.cell? p).getD undef
theorem RG{w:World}{p:Addr}{v:Value}(h:w.cell? p=some v):held w p=v:=by unfold held;rw[h];rfl
theorem aGi{w:World}{p:Addr}{v:Value}(h:w.cell? p=some v):w.cell? p=some (held w p):=by rw[RG h];exact h
theorem qH(a:Addr)(n:Nat):(a.add n).block=a.block:=by unfold Addr.add;split<;>rfl
theorem add_lit(b o n:Nat):(⟨b,o,none⟩:Addr).add n=⟨b,o+n,none⟩:=by
 unfold Addr.add;split<;>simp_all
def Reads(w:World)(size:Nat)(v:Value)(n:Nat)(xs:List Value):Prop:=
 xs.length=n*size/\∃ A c,v=.slice A n c/\n<=c/\c<=maxLen/\(0<n->∃ b o,A=some ⟨b,o,none⟩/\∀ j u,xs[j]?=some u->w.cell? ⟨b,o+j,none⟩=some u)
section
variable {w w':World} {size n:Nat} {v:Value} {xs:List Value}
theorem Reads.nil(w:World)(size:Nat):Reads w size (.slice none 0 0) 0 []:=⟨by simp,none,0,rfl,Nat.le_refl _,Nat.zero_le _,fun h=>absurd h (by omega)⟩
theorem Reads.keep(h:Reads w size v n xs)(hk:∀ p u,w.cell? p=some u->w'.cell? p=some u):Reads w' size v n xs:=by
 obtain⟨h1,A,c,rfl,h2,h3,h4⟩:=h
 refine⟨h1,A,c,rfl,h2,h3,fun hn=>?_⟩
 obtain⟨b,o,rfl,hc⟩:=h4 hn
 exact⟨b,o,rfl,fun j u hu=>hk _ _ (hc j u hu)⟩
theorem Reads.ext(h:Reads w size v n xs)(he:Ext w w'):Reads w' size v n xs:=h.keep (fun _ _ hc=>Ext.jd he hc)
theorem Reads.l9{base:Nat}{e:TypeId}(h:w.ownsRow base e size v n xs):Reads w size v n xs:=by
 refine⟨h.1,?_⟩
 rcases h.2 with⟨rfl,rfl⟩|⟨g,cap,cur,rfl,hb,hg,hnc,hcm,hcs,htake⟩
 ·exact⟨none,0,rfl,Nat.le_refl _,Nat.zero_le _,fun h=>absurd h (by omega)⟩
 ·refine⟨_,cap,rfl,hnc,hcm,fun _=>⟨g,0,rfl,fun j u hu=>?_⟩⟩
  have:=h.cells (g:=g) rfl j u hu;rwa [add_lit] at this
end
section
variable {w w':World} {size n:Nat} {v:Value} {xs:List Value}
theorem Reads.gu{S:Nat->Prop}(h:Reads w size v n xs)(he:dm S w w')(hS:∀ k,0<n->v.ownBlock=some k->¬S k):Reads w' size v n xs:=by
 obtain⟨h1,A,c,rfl,h2,h3,h4⟩:=h
 refine⟨h1,A,c,rfl,h2,h3,fun hn=>?_⟩
 obtain⟨b,o,rfl,hc⟩:=h4 hn
 exact⟨b,o,rfl,fun j u hu=>dm.jd he (hc j u hu) (hS b hn rfl)⟩
theorem Reads.DN{k:Nat}(h:Reads w 1 v n xs)(hk:k<n):∃ b o c u,v=.slice (some ⟨b,o,none⟩) n c/\n<=c/\c<=maxLen/\b<w.heap.size/\xs[k]?=some u/\w.cell? ⟨b,o+k,none⟩=some u:=by
 obtain⟨h1,A,c,rfl,h2,h3,h4⟩:=h;obtain⟨b,o,rfl,hc⟩:=h4 (by omega)
 have hl:k<xs.length:=by omega
 have:=hc k _ (List.getElem?_eq_getElem hl)
 exact⟨b,o,c,xs[k],rfl,h2,h3,lt_of_cell this,List.getElem?_eq_getElem hl,this⟩
theorem Reads.at2{k:Nat}(h:Reads w 2 v n xs)(hk:k<n):∃ b o c u1 u2,v=.slice (some ⟨b,o,none⟩) n c/\n<=c/\c<=maxLen/\b<w.heap.size/\xs[k*2]?=some u1/\xs[k*2+1]?=some u2 /\
  w.cell? ⟨b,o+k*2,none⟩=some u1/\w.cell? ⟨b,o+k*2+1,none⟩=some u2:=by
 obtain⟨h1,A,c,rfl,h2,h3,h4⟩:=h;obtain⟨b,o,rfl,hc⟩:=h4 (by omega)
 have hl:k*2<xs.length:=by omega
 have hl':k*2+1<xs.length:=by omega
 have e1:=hc (k*2) _ (List.getElem?_eq_getElem hl);have e2:=hc (k*2+1) _ (List.getElem?_eq_getElem hl')
 exact⟨b,o,c,_,_,rfl,h2,h3,lt_of_cell e1,List.getElem?_eq_getElem hl,List.getElem?_eq_getElem hl',e1,by rw[<-Nat.add_assoc] at e2;exact e2⟩
theorem Reads.Cm(h:Reads w size v n xs)(hsz:0<size)(hn:0<n):∀ k,v.ownBlock=some k->k<w.heap.size:=by
 obtain⟨h1,B,c,rfl,h2,h3,h4⟩:=h;obtain⟨b,o,rfl,hc⟩:=h4 hn;intro k hk;cases hk
 have hl:0<xs.length:=by rw[h1];exact Nat.mul_pos hn hsz
 exact lt_of_cell (hc 0 xs[0] (List.getElem?_eq_getElem hl))
theorem Reads.yu(h:Reads w size v n xs):n<=maxLen:=by
 obtain⟨h1,A,c,rfl,h2,h3,h4⟩:=h;omega
end
theorem Reads.new(w:World)(cs:Array Value)(e:TypeId)(size n c:Nat)(xs:List Value)(hx:xs.length=n*size)(hc:n<=c)(hm:c<=maxLen)(ht:cs.toList.take xs.length=xs) :
  Reads (w.alloc (.cells cs e)) size (.slice (some ⟨w.heap.size,0,none⟩) n c) n xs:=by
 refine⟨hx,_,c,rfl,hc,hm,fun _=>⟨w.heap.size,0,rfl,fun j u hu=>?_⟩⟩
 have hj:j<xs.length:=by
  rcases Nat.lt_or_ge j xs.length with h|h
  ·exact h
  ·rw[List.getElem?_eq_none h] at hu;cases hu
 rw[Nat.zero_add,World.cell?_alloc_new];rw[<-ht,List.getElem?_take,if_pos hj] at hu
 simpa using hu
theorem Reads.t_(w:World)(u:Value)(e:TypeId):Reads (w.alloc (.cells #[u] e)) 1 (.slice (some ⟨w.heap.size,0,none⟩) 1 1) 1 [u]:=
 Reads.new w #[u] e 1 1 1 [u] rfl (Nat.le_refl _) (by unfold maxLen;omega) rfl
structure zn(P:Program)(t e:TypeId)(size bytes:Nat):Prop where
 und:P.underlying t=some (.slice e)
 info:∃ (i:TypeInfo) (z:Value),P.info? e=some i/\i.zero=some z/\i.size=size/\i.bytes=bytes/\z.cells.size=size
 pos:0<size
 bpos:0<bytes
theorem zn.mk'{P:Program}{t e:TypeId}{z:Value}{size bytes:Nat}(hu:P.underlying t=some (.slice e))(h:(P.info? e).map (fun i=>(i.zero,i.size,i.bytes))=some (some z,size,bytes))(hz:z.cells.size=size)(h0:0<size)(hb:0<bytes):zn P t e size bytes:=by
 obtain⟨i,hi,h1,h2,h3⟩:=info_parts h
 exact⟨hu,⟨i,z,hi,h1,h2,h3,hz⟩,h0,hb⟩
def dN(xs:List Value):Prop:=∀ u∈xs,u.oneCell'=true
theorem dN.map{α:Type}{f:α->Value}(hf:∀ a,(f a).oneCell'=true)(l:List α):dN (l.map f):=by
 intro u hu;obtain⟨a,_,rfl⟩:=List.mem_map.1 hu;exact hf a
theorem dN.one{u:Value}(h:u.oneCell'=true):dN [u]:=by
 intro x hx;simp at hx;subst hx;exact h
theorem mW{w w':World}{base:Nat}{e:TypeId}{size:Nat}{v:Value}{n:Nat}{xs:List Value}{S:Nat->Prop}(h:w.ownsRow base e size v n xs)(hc:dm S w w')(hS:∀ k,v.ownBlock=some k->¬S k):w'.ownsRow base e size v n xs:=by
 refine⟨h.1,?_⟩
 rcases h.2 with hn|⟨g,cap,cur,rfl,hb,hgg,rest⟩
 ·exact .inl hn
 ·exact .inr ⟨g,cap,cur,rfl,hb,dm.blk hc hgg (hS g rfl),rest⟩
theorem bQ{w w':World}{base:Nat}{e:TypeId}{size:Nat}{v:Value}{n:Nat}{xs:List Value}(h:w.ownsRow base e size v n xs)(hc:Ext w w'):w'.ownsRow base e size v n xs:=mW h hc (fun _ _ h=>h)
theorem aEs(w:World)(B:Nat)(e:TypeId)(size:Nat)(hb:B<=w.heap.size):(w.alloc (.cells #[] e)).ownsRow B e size (.slice (some ⟨w.heap.size,0,none⟩) 0 0) 0 []:=
 ⟨by simp,.inr ⟨w.heap.size,0,#[],rfl,hb,heap_alloc_new w _,Nat.le_refl _,Nat.zero_le _,by simp,by simp⟩⟩
section
variable {P:Program} {w:World}
theorem PU{B:Nat}{t ty e:TypeId}{size bytes:Nat}(T:zn P t e size bytes){v:Value}{n:Nat}{xs:List Value}(hown:w.ownsRow B e size v n xs)
  {u:Value} {m:Nat} {news:List Value} (hr:Reads w size u m news) (h1:dN news) (hbytes:(n+m)*bytes<=140737488355328) (hbase:B<=w.heap.size) :
  ∃ v' w',(Builtin.append_ #[t,t] ty #[v,u]).run P w=.ok v' w'/\w'.ownsRow B e size v' (n+m) (xs++news)/\dm (fun k=>v.ownBlock=some k) w w' /\
   (v'.ownBlock=v.ownBlock\/∃ g,v'.ownBlock=some g/\w.heap.size<=g/\g<w'.heap.size):=by
 obtain⟨ht,⟨i,z,hi,hz,hsize,hby,hzs⟩,hsz,hbp⟩:=T;obtain⟨hl,A,c,rfl,hmc,hcm,hcell⟩:=hr
 have h63:n+m<=maxLen:=by
  have:(n+m)*1<=(n+m)*bytes:=Nat.mul_le_mul_left _ hbp;unfold maxLen;omega
 rcases A with _|ad
 ·have hm:m=0:=by
   rcases Nat.eq_zero_or_pos m with h0|h0
   ·exact h0
   ·obtain⟨b,o,h,_⟩:=hcell h0;cases h
  subst hm;have hn:news=[]:=List.eq_nil_of_length_eq_zero (by simpa using hl);subst hn
  refine⟨v,w,?_,by simpa using hown,dm.refl _ _,.inl rfl⟩
  rcases hown.2 with⟨rfl,rfl⟩|⟨g,cap,cur,rfl,_,_,hnc,_⟩
  ·simp[Builtin.append_,run_underlying ht,sizeOf,typeInfo,hi,Builtin.lenOf,Builtin.firstCells]
  ·simp[Builtin.append_,run_underlying ht,sizeOf,typeInfo,hi,Builtin.lenOf,Builtin.firstCells,hnc,storeCells]
 ·have hcells:∀ j u,news[j]?=some u->w.cell? (ad.add j)=some u:=by
   intro j u hu;rcases Nat.eq_zero_or_pos m with h0|h0
   ·subst h0;have hn:news=[]:=List.eq_nil_of_length_eq_zero (by simpa using hl);subst hn;simp at hu
   ·obtain⟨b,o,h,hc⟩:=hcell h0
    injection h with h
    subst h;rw[add_lit];exact hc j u hu
  obtain⟨v',w',hrun,h2,h3,_,h5⟩:=run_append_own_at (P:=P) w B t ty e i z size bytes ht hi hz hsize hby hzs hsz v n xs hown ad m c news hl hcells h1 h63 hbytes hbase
  refine⟨v',w',hrun,h2,⟨h3.os,h3.tape,h3.output,h3.size,fun k hk hn=>h3.block k hk (fun e=>hn e.symm)⟩,?_⟩
  rcases h5 with h5|h5
  ·exact .inl h5
  ·exact .inr ⟨_,h5,Nat.le_refl _,(h2.lt _ h5).2⟩
theorem nS{w:World}{B:Nat}{e:TypeId}{size:Nat}{v:Value}{n:Nat}{xs:List Value}(h:w.ownsRow B e size v n xs):∃ A c,v=.slice A n c:=by
 rcases h.2 with⟨rfl,rfl⟩|⟨g,cap,cur,rfl,_⟩
 ·exact⟨_,_,rfl⟩
 ·exact⟨_,_,rfl⟩
theorem aUh{o:Oper}{a:Act}{K:Act->World->Prop}{Q:Exit->Act->World->Prop}{s x:Operand}{t:TypeId}
  (ho:o.op=.call { callee:=.builtin .append,args:=#[s,x],argTypes:=#[t,t] })
  {B:Nat} {e:TypeId} {size bytes:Nat} (T:zn P t e size bytes) {v:Value} (hs:a.eval s=v) {n:Nat} {xs:List Value} (hown:w.ownsRow B e size v n xs)
  {u:Value} (hx:a.eval x=u) {m:Nat} {news:List Value} (hr:Reads w size u m news) (h1:dN news) (hbytes:(n+m)*bytes<=140737488355328) (hbase:B<=w.heap.size)
  (h:∀ (A':Option Addr) (c':Nat) w',w'.ownsRow B e size (.slice A' (n+m) c') (n+m) (xs++news)->dm (fun k=>v.ownBlock=some k) w w'->((Value.slice A' (n+m) c').ownBlock=v.ownBlock\/∃ g,(Value.slice A' (n+m) c').ownBlock=some g/\w.heap.size<=g/\g<w'.heap.size)->K (a.put o.dst (.slice A' (n+m) c')) w'):o.wp P a w K Q:=by
 obtain⟨v',w',hrun,h2,h3,h4⟩:=PU (P:=P) (ty:=o.type) T hown hr h1 hbytes hbase;unfold Oper.wp execOp;simp only[ho,resolve,invoke,builtin,Sem.run_bind,Sem.run_pure,Result.andThen_ok,List.map_toArray,List.map_cons,List.map_nil,hs,hx,hrun];obtain⟨A',c',rfl⟩:=nS h2;exact h A' c' w' h2 h3 h4
theorem Hr{ops:Array Oper}{o:Oper}{a:Act}{K:Act->World->Prop}{Q:Exit->Act->World->Prop}{E:Prop}(hgd:o.guard=none){s x:Operand}{t:TypeId}
  (ho:o.op=.call { callee:=.builtin .append,args:=#[s,x],argTypes:=#[t,t] })
  {B:Nat} {e:TypeId} {size bytes:Nat} (T:zn P t e size bytes) {v:Value} (hs:a.eval s=v) {n:Nat} {xs:List Value} (hown:w.ownsRow B e size v n xs)
  {u:Value} (hx:a.eval x=u) {m:Nat} {news:List Value} (hr:Reads w size u m news) (h1:dN news) (hbytes:(n+m)*bytes<=140737488355328) (hbase:B<=w.heap.size)
  (h:∀ (A':Option Addr) (c':Nat) w',w'.ownsRow B e size (.slice A' (n+m) c') (n+m) (xs++news)->dm (fun k=>v.ownBlock=some k) w w'->((Value.slice A' (n+m) c').ownBlock=v.ownBlock\/∃ g,(Value.slice A' (n+m) c').ownBlock=some g/\w.heap.size<=g/\g<w'.heap.size)->K (a.put o.dst (.slice A' (n+m) c')) w') :
  if Region.wanted o (yielded ops a.tmps)=true then Oper.wp P o a w K Q else E:=by
 have hw:Region.wanted o (yielded ops a.tmps)=true:=by simp[Region.wanted,hgd]
 rw[if_pos hw];exact aUh ho T hs hown hx hr h1 hbytes hbase h
theorem bH{ops:Array Oper}{rest:List Oper}{o:Oper}{a:Act}{Q:Exit->Act->World->Prop}(hgd:o.guard=none){s x:Operand}{t:TypeId}
  (ho:o.op=.call { callee:=.builtin .append,args:=#[s,x],argTypes:=#[t,t] })
  {B:Nat} {e:TypeId} {size bytes:Nat} (T:zn P t e size bytes) {v:Value} (hs:a.eval s=v) {n:Nat} {xs:List Value} (hown:w.ownsRow B e size v n xs)
  {u:Value} (hx:a.eval x=u) {m:Nat} {news:List Value} (hr:Reads w size u m news) (h1:dN news) (hbytes:(n+m)*bytes<=140737488355328) (hbase:B<=w.heap.size)
  (h:∀ (A':Option Addr) (c':Nat) w',w'.ownsRow B e size (.slice A' (n+m) c') (n+m) (xs++news)->dm (fun k=>v.ownBlock=some k) w w'->((Value.slice A' (n+m) c').ownBlock=v.ownBlock\/∃ g,(Value.slice A' (n+m) c').ownBlock=some g/\w.heap.size<=g/\g<w'.heap.size)->wpList P ops Q rest (a.put o.dst (.slice A' (n+m) c')) w'):wpList P ops Q (o::rest) a w:=
 wpList_plain hgd fun _ hK=>aUh ho T hs hown hx hr h1 hbytes hbase fun A' c' w' h2 h3 h4=>hK _ _ (h A' c' w' h2 h3 h4)
end
theorem bDf{w:World}{B:Nat}{e:TypeId}{v:Value}{n k:Nat}{xs:List Value}(h:w.ownsRow B e 1 v n xs)(hk:k<n) :
  ∃ g cap u,v=.slice (some ⟨g,0,none⟩) n cap/\B<=g/\g<w.heap.size/\xs[k]?=some u/\w.cell? ⟨g,k,none⟩=some u/\∀ i,w.frozen? ⟨g,i,none⟩=false:=by
 have hl:=h.1;rcases h.2 with⟨rfl,rfl⟩|⟨g,cap,cur,rfl,hb,hg,hnc,hcm,hcs,htake⟩
 ·omega
 ·have hc:=h.cells (g:=g) rfl k xs[k] (List.getElem?_eq_getElem (by omega));rw[add_lit,Nat.zero_add] at hc
  exact⟨g,cap,xs[k],rfl,hb,lt_of_heap hg,List.getElem?_eq_getElem (by omega),hc,fun i=>by simp[World.frozen?,hg]⟩
structure Acc where
 kind:Int
 ay:Int
 cell:Int
 bytes:ByteArray
structure je where
 val:Int
 bytes:ByteArray
def Acc.v(a:Acc):Value:=.agg #[.int .i64 a.kind,.int .i64 a.ay,.int .i64 a.cell,.string a.bytes]
def je.v(r:je):Value:=.agg #[.int .i64 r.val,.string r.bytes]
def aS:ByteArray:={ data:=#[] }
inductive ah(α:Type):Type where
 |ret (a:α)
 |ask (a:Acc) (k:je->ah α)
def ah.bind{α β:Type}:ah α->(α->ah β)->ah β
 |.ret a,f=>f a
 |.ask a k,f=>.ask a fun r=>(k r).bind f
theorem ah.Bo{α β:Type}(a:α)(f:α->ah β):(ah.ret a).bind f=f a:=rfl
theorem ah.bind_assoc{α β γ:Type}(p:ah α)(f:α->ah β)(g:β->ah γ):(p.bind f).bind g=p.bind fun a=>(f a).bind g:=by
 induction p with
 |ret a=>rfl
 |ask a k ih=>simp only[ah.bind];congr 1;funext r;exact ih r
def ah.run{α σ ε:Type}(d:Acc->σ->EStateM.Result ε σ je):ah α->σ->EStateM.Result ε σ α
 |.ret a,s=>.ok a s
 |.ask a k,s=>match d a s with
  |.ok r s'=>(k r).run d s'
  |.error e s'=>.error e s'
def ah.All{α:Type}(R:α->Prop):ah α->Prop
 |.ret a=>R a
 |.ask _ k=>∀ r,ah.All R (k r)
theorem ah.All.yx{α:Type}(p:ah α):ah.All (fun _=>True) p:=by
 induction p with
 |ret a=>trivial
 |ask a k ih=>exact fun r=>ih r
theorem ah.All.mono{α:Type}{R R':α->Prop}{p:ah α}(h:ah.All R p)(hr:∀ a,R a->R' a):ah.All R' p:=by
 induction p with
 |ret a=>exact hr a h
 |ask a k ih=>exact fun r=>ih r (h r)
theorem ah.All.bind{α β:Type}{R:α->Prop}{R':β->Prop}{p:ah α}{f:α->ah β}(h:ah.All R p)(hf:∀ a,R a->ah.All R' (f a)):ah.All R' (p.bind f):=by
 induction p with
 |ret a=>exact hf a h
 |ask a k ih=>exact fun r=>ih r (h r)
def replay(log:List je)(a:Acc)(i:Nat):EStateM.Result Acc Nat je:=
 match log[i]? with
 |some r=>.ok r (i+1)
 |none=>.error a i
def je.cells(r:je):List Value:=[.int .i64 r.val,.string r.bytes]
def logCells(log:List je):List Value:=log.flatMap je.cells
theorem aBv(log:List je):∀ i,(logCells log)[i*2]?=(log[i]?).map (fun r=>Value.int .i64 r.val)/\(logCells log)[i*2+1]?=(log[i]?).map (fun r=>Value.string r.bytes):=by
 unfold logCells
 induction log with
 |nil=>intro i;simp
 | cons r l ih=>
  intro i
  cases i with
  |zero=>simp[je.cells]
  |succ i=>
   have:=ih i;rw[List.flatMap_cons];simp only[je.cells,List.getElem?_cons_succ];rw[show (i+1)*2=i*2+1+1 from by omega]
   simpa using this
def mD{α σ ε:Type}(Inv:σ->(Nat->Prop)->World->Prop)(S X:Nat->Prop)(pan:ε->Value)(w:World)(val:α->Value)(r:EStateM.Result ε σ α)(e:Ending)(w':World):Prop:=
 match r with
 |.ok a s=>e=.returned (val a)/\Inv s X w'/\dm S w w'
 |.error er s=>e=.panicked [{ v:=pan er,recovered:=false }]/\Inv s X w'/\dm S w w'
section
variable {α σ ε:Type} {Inv:σ->(Nat->Prop)->World->Prop} {S X:Nat->Prop} {pan:ε->Value} {w w':World} {val:α->Value} {r:EStateM.Result ε σ α} {e:Ending} {a:α} {s:σ} {er:ε}
theorem mD.ok(hr:r=.ok a s)(he:e=.returned (val a))(hi:Inv s X w')(hc:dm S w w'):mD Inv S X pan w val r e w':=by subst hr;exact⟨he,hi,hc⟩
theorem mD.err(hr:r=.error er s)(he:e=.panicked [{ v:=pan er,recovered:=false }])(hi:Inv s X w')(hc:dm S w w'):mD Inv S X pan w val r e w':=by subst hr;exact⟨he,hi,hc⟩
theorem mD.aCI(hr:r=.ok a s)(h:mD Inv S X pan w val r e w'):e=.returned (val a)/\Inv s X w'/\dm S w w':=by subst hr;exact h
theorem mD.VR(hr:r=.error er s)(h:mD Inv S X pan w val r e w'):e=.panicked [{ v:=pan er,recovered:=false }]/\Inv s X w'/\dm S w w':=by subst hr;exact h
end
section
variable {P:Program} {F:FuncId} {caps:Array Value} {σ ε:Type} {d:Acc->σ->EStateM.Result ε σ je} {pan:ε->Value} {Inv:σ->(Nat->Prop)->World->Prop} {S X:Nat->Prop}
 {B:Nat} {ty:TypeId} {size:Nat} {s:σ} {v:Value} {n:Nat} {xs:List Value} {w w':World}
end
end
def dZ(x:UInt32)(n:UInt32):UInt32:=(x >>> n) ||| (x <<< (32-n))
def qh:List UInt32:=[
 0x428a2f98,0x71374491,0xb5c0fbcf,0xe9b5dba5,0x3956c25b,0x59f111f1,0x923f82a4,0xab1c5ed5,
 0xd807aa98,0x12835b01,0x243185be,0x550c7dc3,0x72be5d74,0x80deb1fe,0x9bdc06a7,0xc19bf174,
 0xe49b69c1,0xefbe4786,0x0fc19dc6,0x240ca1cc,0x2de92c6f,0x4a7484aa,0x5cb0a9dc,0x76f988da,
 0x983e5152,0xa831c66d,0xb00327c8,0xbf597fc7,0xc6e00bf3,0xd5a79147,0x06ca6351,0x14292967,
 0x27b70a85,0x2e1b2138,0x4d2c6dfc,0x53380d13,0x650a7354,0x766a0abb,0x81c2c92e,0x92722c85,
 0xa2bfe8a1,0xa81a664b,0xc24b8b70,0xc76c51a3,0xd192e819,0xd6990624,0xf40e3585,0x106aa070,
 0x19a4c116,0x1e376c08,0x2748774c,0x34b0bcb5,0x391c0cb3,0x4ed8aa4a,0x5b9cca4f,0x682e6ff3,
 0x748f82ee,0x78a5636f,0x84c87814,0x8cc70208,0x90befffa,0xa4506ceb,0xbef9a3f7,0xc67178f2]
def mF:List UInt32:=[0x6a09e667,0xbb67ae85,0x3c6ef372,0xa54ff53a,0x510e527f,0x9b05688c,0x1f83d9ab,0x5be0cd19]
def lY(l:List UInt8):UInt32:=l.foldl (fun n b=>(n <<< 8) ||| b.toUInt32) 0
def uK(w:List UInt32):UInt32:=
 let i:=w.length
 let x:=w.getD (i-15) 0
 let y:=w.getD (i-2) 0
 w.getD (i-16) 0+((dZ x 7 ^^^ dZ x 18) ^^^ (x >>> 3))+w.getD (i-7) 0+((dZ y 17 ^^^ dZ y 19) ^^^ (y >>> 10))
def bY(b:List UInt8):Nat->List UInt32
 |0=>[]
 |i+1=>bY b i++[if i<16 then lY ((b.drop (4*i)).take 4) else uK (bY b i)]
def sched(b:List UInt8):List UInt32:=bY b 64
theorem dO(b:List UInt8)(i:Nat):(bY b i).length=i:=by induction i with
 |zero=>rfl
 |succ i ih=>simp[bY,ih]
def wC(v:List UInt32)(k w:UInt32):List UInt32:=
 let a:=v.getD 0 0;let b:=v.getD 1 0;let c:=v.getD 2 0;let d:=v.getD 3 0
 let e:=v.getD 4 0;let f:=v.getD 5 0;let g:=v.getD 6 0;let h:=v.getD 7 0
 let t:=h+((dZ e 6 ^^^ dZ e 11) ^^^ dZ e 25)+((e &&& f) ^^^ (~~~e &&& g))+k+w
 let u:=((dZ a 2 ^^^ dZ a 13) ^^^ dZ a 22)+(((a &&& b) ^^^ (a &&& c)) ^^^ (b &&& c))
 [t+u,a,b,c,d+t,e,f,g]
def aX(b:List UInt8)(v:List UInt32):Nat->List UInt32
 |0=>v
 |k+1=>wC (aX b v k) (qh.getD k 0) ((sched b).getD k 0)
def uI(b:List UInt8)(v:List UInt32):List UInt32:=aX b v 64
theorem jB(b:List UInt8)(v:List UInt32)(h:v.length=8)(k:Nat):(aX b v k).length=8:=by cases k with
 |zero=>exact h
 |succ k=>rfl
def jT(v:List UInt32)(b:List UInt8):List UInt32:=List.zipWith (·+·) (uI b v) v
def beBytes(n:Nat):Nat->List UInt8
 |0=>[]
 |k+1=>UInt8.ofNat (n / 256 ^ k)::beBytes n k
def eU(m:List UInt8):List UInt8:=m++[128]++List.replicate ((119-m.length % 64) % 64) 0++beBytes (8*m.length) 8
def lK:Nat->List UInt32->List UInt8->List UInt32
 |0,v,_=>v
 |n+1,v,m=>lK n (jT v (m.take 64)) (m.drop 64)
def sha(m:List UInt8):List UInt8:=(lK ((eU m).length / 64) mF (eU m)).flatMap fun w=>beBytes w.toNat 4
def AA(key m:List UInt8):List UInt8:=
 let k:=if key.length > 64 then sha key else key
 let pad:=fun (x:UInt8)=>(List.range 64).map fun i=>k.getD i 0 ^^^ x
 sha (pad 0x5c++sha (pad 0x36++m))
def EI(key m:List UInt8):List UInt8:=(AA key m).take 16
section
theorem BQ(a:UInt32):0<=(a.toNat:Int)/\(a.toNat:Int)<4294967296:=by have:=a.toNat_lt;omega
theorem lt8(a:UInt8):0<=(a.toNat:Int)/\(a.toNat:Int)<256:=by have:=a.toNat_lt;omega
theorem FK(a b:UInt32):bits BinOp.or IntKind.u32 (a.toNat:Int) (b.toNat:Int)=((a ||| b).toNat:Int):=by
 rw[u32_or _ _ (BQ a).1 (BQ a).2 (BQ b).1 (BQ b).2];simp
theorem Oh(a b:UInt32):bits BinOp.and IntKind.u32 (a.toNat:Int) (b.toNat:Int)=((a &&& b).toNat:Int):=by
 rw[u32_and _ _ (BQ a).1 (BQ a).2 (BQ b).1 (BQ b).2];simp
theorem wL(a b:UInt32):bits BinOp.xor IntKind.u32 (a.toNat:Int) (b.toNat:Int)=((a ^^^ b).toNat:Int):=by
 rw[u32_xor _ _ (BQ a).1 (BQ a).2 (BQ b).1 (BQ b).2];simp
theorem add32(a b:UInt32):((a.toNat:Int)+(b.toNat:Int)) % 4294967296=((a+b).toNat:Int):=by
 rw[UInt32.toNat_add];omega
theorem Ba(a b:UInt8):bits BinOp.xor IntKind.u8 (a.toNat:Int) (b.toNat:Int)=((a ^^^ b).toNat:Int):=by
 rw[u8_xor _ _ (lt8 a).1 (lt8 a).2 (lt8 b).1 (lt8 b).2];simp
theorem bBv(a:UInt32)(n:Nat)(hn:n<32):(a.toNat:Int) / 2 ^ n=((a >>> UInt32.ofNat n).toNat:Int):=by
 rw[UInt32.toNat_shiftRight,Nat.shiftRight_eq_div_pow]
 have:(UInt32.ofNat n).toNat % 32=n:=by simp;omega
 rw[this];simp
theorem Zi(a:UInt32)(n:Nat)(hn:n<32):(a.toNat:Int)*2 ^ n % 4294967296=((a <<< UInt32.ofNat n).toNat:Int):=by
 rw[UInt32.toNat_shiftLeft,Nat.shiftLeft_eq]
 have:(UInt32.ofNat n).toNat % 32=n:=by simp;omega
 rw[this];simp
theorem O8(a b:UInt32):IntKind.u32.wrap ((a.toNat:Int)+(b.toNat:Int))=((a+b).toNat:Int):=by rw[IntKind.wrap_u32];exact add32 a b
theorem U_(a:UInt32):bits BinOp.xor IntKind.u32 IntKind.u32.max (a.toNat:Int)=((~~~a).toNat:Int):=by
 rw[show IntKind.u32.max=(((-1:UInt32)).toNat:Int) from rfl,wL,UInt32.neg_one_xor]
def w32(x:UInt32):Value:=.int .u32 (x.toNat:Int)
theorem bDw(n:Nat)(hn:0<n)(hn2:n<32):bits BinOp.and IntKind.u64 (IntKind.u64.wrap (-(n:Int))) 31=((32-n:Nat):Int):=by
 have h:IntKind.u64.wrap (-(n:Int))=((18446744073709551616-n:Nat):Int):=by
  rw[IntKind.wrap_u64];omega
 rw[h,u64_and _ _ (by omega) (by omega) (by omega) (by omega)];rw[Int.toNat_natCast,show (31:Int).toNat=2 ^ 5-1 from rfl,Nat.and_two_pow_sub_one_eq_mod];omega
theorem Ux(x:UInt32)(n:Nat)(hn:0<n)(hn2:n<32):bits BinOp.or IntKind.u32 ((x.toNat:Int)*2 ^ (32-n) % 4294967296) ((x.toNat:Int) / 2 ^ n)=((dZ x (UInt32.ofNat n)).toNat:Int):=by
 rw[Zi x (32-n) (by omega),bBv x n hn2,FK];unfold dZ
 have e:UInt32.ofNat (32-n)=32-UInt32.ofNat n:=by
  apply UInt32.toNat_inj.1;rw[UInt32.toNat_sub];simp;omega
 rw[e,UInt32.or_comm]
theorem Iq(x:UInt32)(n:Nat)(w:World)(hn:0<n)(hn2:n<32) :
  Calls Tryz.prog 206 #[.int .u32 (x.toNat:Int),.int .i64 (-(n:Int))] w fun e w'=>e=.returned (.int .u32 ((dZ x (UInt32.ofNat n)).toNat:Int))/\w=w':=by
 have h0:=hide (Ux x n hn hn2);have hx:=x.toNat_lt;have h1:=bDw n hn hn2
 have h2:IntKind.u64.wrap (32-((32-n:Nat):Int))=(n:Int):=by
  rw[show (32:Int)-((32-n:Nat):Int)=(n:Int) by omega];exact IntWalk.u64_in _ (by omega)
 go_enter Tryz.func206,Tryz.ntmps206
 go_wp2
 go_ret
 exact⟨rW (aA h0),rfl⟩
def uO(x:UInt32)(ns:List Nat):UInt32:=ns.foldl (fun o n=>o ^^^ dZ x (UInt32.ofNat n)) 0
theorem kQ{α:Type}(l:List α)(k:Nat)(h:k<l.length):l.take (k+1)=l.take k++[l[k]]:=by rw[List.take_add_one,zH h];rfl
theorem aRz(x:UInt32)(ns:List Nat)(k:Nat)(h:k<ns.length):uO x (ns.take (k+1))=uO x (ns.take k) ^^^ dZ x (UInt32.ofNat ns[k]):=by
 rw[kQ ns k h];unfold uO;rw[List.foldl_append];rfl
theorem aUx(x:UInt32)(ns:List Nat)(v:Value)(w:World)(h:Reads w 1 v ns.length (ns.map fun n:Nat=>Value.int .i64 (n:Int)))(hn:∀ n∈ns,0<n/\n<32) :
  Calls Tryz.prog 204 #[.int .u32 (x.toNat:Int),v] w fun e w'=>e=.returned (.int .u32 ((uO x ns).toNat:Int))/\w=w':=by
 have HH:=hide h;have hm:=h.yu;unfold maxLen at hm;obtain⟨_,B,c,rfl,_,_,_⟩:=h
 go_enter Tryz.func204,Tryz.ntmps204
 go_wp2
 go_loop [5,10] (fun o i=>∃ k:Nat,k<=ns.length/\i=.int .i64 k/\o=.int .u32 ((uO x (ns.take k)).toNat:Int)) (fun _ i=>ns.length-(intOf i).toNat)
 case atStart=>exact⟨0,Nat.zero_le _,rfl,rfl⟩
 case round=>
  obtain⟨k,hk,rfl,rfl⟩:=hrel
  by_cases hlt:k<ns.length
  ·obtain⟨b,o,c',u,hv,_,_,hb,hu,hc1⟩:=(aA HH).DN hlt;cases hv;rw[List.getElem?_map,zH hlt] at hu;cases hu;obtain⟨n1,n2⟩:=hn _ (List.getElem_mem hlt);have HS:=hide (aRz x ns k hlt);have HX:=hide (wL (uO x (ns.take k)) (dZ x (UInt32.ofNat ns[k])));dsimp only at hc1;have HR:=hide (fun w=>Iq x ns[k] w n1 n2);generalize ns[k]=n at *;generalize uO x (ns.take k)=acc at *;have e1:IntKind.i64.wrap (-(n:Int)) = -(n:Int):=IntWalk.i64_in _ (by omega)
   go_wp2_with fail
   refine (aA HR _).mono ?_;rintro e w' ⟨rfl,rfl⟩
   go_wp2
   go_round
   case rel=>exact⟨k+1,by omega,by go_num,int_eq (by rw[aA HS];exact aA HX)⟩
   case measure=>simp[intOf];omega
  ·obtain rfl:k=ns.length:=by omega
   have HT:=hide (show uO x (ns.take ns.length)=uO x ns by rw[List.take_length])
   go_wp2
   go_ret
   exact⟨rW (by first|rfl|rw[aA HT]),rfl⟩
structure Onto(w:World)(v:Value)(w':World)(v':Value):Prop where
 gu:dm (fun k=>v.ownBlock=some k) w w'
 own:v'.ownBlock=v.ownBlock\/∃ g,v'.ownBlock=some g/\w.heap.size<=g
theorem Onto.refl(w:World)(v:Value):Onto w v w v:=⟨dm.refl _ _,.inl rfl⟩
theorem Onto.trans{a b c:World}{u v x:Value}(h:Onto a u b v)(k:Onto b v c x):Onto a u c x:=by
 refine⟨h.gu.trans' k.gu (fun _ _ h=>h) (fun i hi e=>?_),?_⟩
 ·rcases h.own with h1|⟨g,h1,h2⟩
  ·rw[<-h1];exact e
  ·rw[h1] at e;cases e;omega
 ·rcases k.own with h1|⟨g,h1,h2⟩
  ·rw[h1];exact h.own
  ·exact .inr ⟨g,h1,Nat.le_trans h.gu.size h2⟩
theorem Onto.ext{a b c:World}{u v:Value}(h:Onto a u b v)(k:Ext b c):Onto a u c v:=⟨h.gu.ext k,h.own⟩
theorem Onto.app{w w':World}{v v':Value}(hc:dm (fun k=>v.ownBlock=some k) w w')(hv:v'.ownBlock=v.ownBlock\/∃ g,v'.ownBlock=some g/\w.heap.size<=g/\g<w'.heap.size):Onto w v w' v':=
 ⟨hc,hv.imp id fun⟨g,h1,h2,_⟩=>⟨g,h1,h2⟩⟩
theorem Onto.D7{w0 w w':World}{v v':Value}(h0:Ext w0 w)(h:Onto w v w' v')(hv:∀ g,v.ownBlock=some g->w0.heap.size<=g):Ext w0 w':=
 h0.trans' h.gu (fun _ _ h=>h) (fun i hi e=>by have:=hv i e;omega)
def gq(b:UInt8):Value:=.int .u8 (b.toNat:Int)
theorem aTt(l:List UInt8)(k:Nat)(h:k<l.length):lY (l.take (k+1))=(lY (l.take k) <<< 8) ||| l[k].toUInt32:=by
 rw[kQ l k h];unfold lY;rw[List.foldl_append];rfl
theorem aQg(b:UInt8):(b.toNat:Int)=(b.toUInt32.toNat:Int):=by simp
theorem Kt(l:List UInt8)(v:Value)(w:World)(h:Reads w 1 v l.length (l.map gq)) :
  Calls Tryz.prog 203 #[v] w fun e w'=>e=.returned (.int .u32 ((lY l).toNat:Int))/\w=w':=by
 have HH:=hide h;have hm:=h.yu;unfold maxLen at hm;obtain⟨_,B,c,rfl,_,_,_⟩:=h
 go_enter Tryz.func203,Tryz.ntmps203
 go_wp2
 go_loop [3,8] (fun o i=>∃ k:Nat,k<=l.length/\i=.int .i64 k/\o=.int .u32 ((lY (l.take k)).toNat:Int)) (fun _ i=>l.length-(intOf i).toNat)
 case atStart=>exact⟨0,Nat.zero_le _,rfl,rfl⟩
 case round=>
  obtain⟨k,hk,rfl,rfl⟩:=hrel
  by_cases hlt:k<l.length
  ·obtain⟨b,o,c',u,hv,_,_,hb,hu,hc1⟩:=(aA HH).DN hlt;cases hv;rw[List.getElem?_map,zH hlt] at hu;cases hu;unfold gq at hc1;have HS:=hide (aTt l k hlt);generalize l[k]=z at *;generalize lY (l.take k)=acc at *;have hz:=z.toNat_lt;have ha:=acc.toNat_lt;have HX:=hide (show bits BinOp.or IntKind.u32 ((acc.toNat:Int)*2 ^ 8 % 4294967296) (z.toNat:Int)=((acc <<< 8 ||| z.toUInt32).toNat:Int) from by rw[Zi acc 8 (by omega),aQg,FK];rfl)
   go_wp2
   go_round
   case rel=>exact⟨k+1,by omega,by go_num,int_eq (by rw[aA HS];exact aA HX)⟩
   case measure=>simp[intOf];omega
  ·obtain rfl:k=l.length:=by omega
   have HT:=hide (show lY (l.take l.length)=lY l by rw[List.take_length])
   go_wp2
   go_ret
   exact⟨rW (by first|rfl|rw[aA HT]),rfl⟩
theorem fC:zn Tryz.prog 74 5 1 1:=zn.mk' (z:=.int .u8 0) (by kernel_rfl) (by kernel_rfl) rfl (by omega) (by omega)
theorem beBytes_length(n k:Nat):(beBytes n k).length=k:=by induction k with
 |zero=>rfl
 |succ k ih=>unfold beBytes;simp[ih]
theorem yG(n:Nat):∀ (many j:Nat),j<many->(beBytes n many)[j]?=some (UInt8.ofNat (n / 256 ^ (many-1-j)))
 |0,j,h=>by omega
 |many+1,0,h=>by simp[beBytes]
 |many+1,j+1,h=>by
  rw[beBytes,List.getElem?_cons_succ,yG n many j (by omega),show many+1-1-(j+1)=many-1-j from by omega]
theorem aCe(n many k:Nat)(h0:0<k)(hk:k<=many):(beBytes n many).take (many-(k-1))=(beBytes n many).take (many-k)++[UInt8.ofNat (n / 256 ^ (k-1))]:=by
 rw[show many-(k-1)=many-k+1 from by omega,List.take_add_one,yG n many (many-k) (by omega),show many-1-(many-k)=k-1 from by omega];rfl
theorem byte_of(n k:Nat):(n:Int) / 2 ^ (8*k) % 256=((UInt8.ofNat (n / 256 ^ k)).toNat:Int):=by
 rw[show (2:Int) ^ (8*k)=((256 ^ k:Nat):Int) from by rw[Int.pow_mul];simp];simp
theorem bBm(v:Value)(m:Nat)(xs:List Value)(n:Nat)(many:Nat)(B:Nat)(w:World)(h:w.ownsRow B 5 1 v m xs)(hB:B<=w.heap.size)(hm:m<=1000000000)(h8:many<=8) :
  Calls Tryz.prog 200 #[v,.int .u64 (n:Int),.int .i64 (many:Int)] w fun e w'=>∃ v',e=.returned v'/\w'.ownsRow B 5 1 v' (m+many) (xs++(beBytes n many).map gq)/\Onto w v w' v':=by
 have H0:=hide h;clear h
 go_enter Tryz.func200,Tryz.ntmps200
 go_wp2
 go_loopw [0,7] (fun b i wr=>∃ (k:Nat),k<=many/\i=.int .i64 ((k:Int)-1)/\Hid (wr.ownsRow B 5 1 b (m+(many-k)) (xs++((beBytes n many).take (many-k)).map gq)/\Onto w v wr b)) (fun _ i _=>(intOf i+1).toNat)
 case atStart=>exact⟨many,Nat.le_refl _,rfl,hide ⟨by rw[Nat.sub_self];simpa using aA H0,Onto.refl _ _⟩⟩
 case round=>
  obtain⟨k,hk,rfl,HR⟩:=hrel
  by_cases hk0:0<k
  ·have e0:(0:Int)<=(k:Int)-1:=by omega
   have e1:IntKind.i64.wrap (8*((k:Int)-1))=((8*(k-1):Nat):Int):=by rw[IntWalk.i64_in _ (by omega)];omega
   have hb:=byte_of n (k-1);have HX:=hide (aCe n many k hk0 hk);generalize UInt8.ofNat (n / 256 ^ (k-1))=z at *;have hsz:Hid (B<=wr.heap.size):=hide (Nat.le_trans hB (aA HR).2.gu.size)
   go_wp2_with (at_builtin;refine bH rfl rfl fC rfl (bQ (aA HR).1 ((Ext.refl _).alloc _)) rfl (Reads.t_ _ _ _) (dN.one rfl) (by omega) (Nat.le_trans (aA hsz) (by simp)) ?_;intro A' c' w2 ho hc hv)
   have HQ:=hide (And.intro ho (((aA HR).2.ext ((Ext.refl wr).alloc _)).trans (Onto.app hc hv)));clear ho hc hv
   go_wp2
   go_roundw
   case rel=>exact⟨k-1,by omega,by go_num,hide ⟨by rw[aA HX,List.map_append,<-List.append_assoc,show m+(many-(k-1))=m+(many-k)+1 from by omega];exact (aA HQ).1,(aA HQ).2⟩⟩
   case measure=>simp[intOf];omega
  ·obtain rfl:k=0:=by omega
   go_wp2
   go_ret
   have h1:=(aA HR).1;rw[Nat.sub_zero,List.take_of_length_le (by rw[beBytes_length];exact Nat.le_refl _)] at h1
   exact⟨_,rfl,h1,(aA HR).2⟩
theorem aNm(v:Value)(m:Nat)(xs:List Value)(n:Nat)(many:Nat)(B:Nat)(w:World)(nI mI:Int)(e1:nI=(n:Int))(e2:mI=(many:Int))(h:w.ownsRow B 5 1 v m xs)(hB:B<=w.heap.size)(hm:m<=1000000000)(_:n<18446744073709551616)(h8:many<=8) :
  Calls Tryz.prog 200 #[v,.int .u64 nI,.int .i64 mI] w fun e w'=>∃ A c,e=.returned (.slice A (m+many) c)/\w'.ownsRow B 5 1 (.slice A (m+many) c) (m+many) (xs++(beBytes n many).map gq)/\Onto w v w' (.slice A (m+many) c):=by
 subst e1 e2;refine (bBm v m xs n many B w h hB hm h8).mono ?_;rintro e w' ⟨v',rfl,h1,h2⟩;obtain⟨A,c,rfl⟩:=nS h1
 exact⟨A,c,rfl,h1,h2⟩
theorem dN.u8(l:List UInt8):dN (l.map gq):=dN.map (fun _=>rfl) l
theorem clone_any(v:Value)(l:List UInt8)(w:World)(h:Reads w 1 v l.length (l.map gq))(hn:l.length<=1000000000) :
  Calls Tryz.prog 160 #[v] w fun e w'=>∃ v',e=.returned v'/\w'.ownsRow w.heap.size 5 1 v' l.length (l.map gq)/\Ext w w':=by
 have HH:=hide h;obtain⟨hl,A,c,rfl,_,_,hp⟩:=h;rcases A with _|a
 ·have h0:l=[]:=by
   cases l with
   |nil=>rfl
   |cons x l=>
    obtain⟨b,o,e,_⟩:=hp (by simp);cases e
  subst h0;clear hl hp;simp only[List.length_nil];have hnil:=fun w=>Lib.run_eql_slice_nil (P:=Tryz.prog) w 74 5 none 0 c 0 0 Tryz.underlying74
  go_enter Tryz.func160,Tryz.ntmps160
  go_wp2
  go_ret
  exact⟨_,rfl,World.ownsRow_nil _ _ _ _,Ext.refl _⟩
 ·clear hl hp;have hnil:=fun w=>Lib.run_eql_slice_nil (P:=Tryz.prog) w 74 5 (some a) l.length c 0 0 Tryz.underlying74
  go_enter Tryz.func160,Tryz.ntmps160
  go_wp2_with (at_builtin;refine bH rfl rfl fC rfl (aEs _ w.heap.size _ _ (Nat.le_refl _)) rfl ((aA HH).ext ((Ext.refl w).alloc _)) (dN.u8 l) (by omega) (by simp) ?_;intro A' c' w2 ho hc hv)
  have HQ:=hide (And.intro ho (And.intro hc hv));clear ho hc hv
  go_wp2
  go_ret
  obtain⟨ho,hc,hv⟩:=aA HQ
  refine⟨_,rfl,by simpa using ho,?_⟩
  exact ((Ext.refl w).alloc (.cells #[] 5)).trans' hc (fun _ _ h=>h) (fun i hi e=>by cases e;exact absurd hi (Nat.lt_irrefl _))
structure u_(P:Program)(ty:TypeId)(n:Nat):Prop where
 und:∃ d,P.underlying ty=some d/\d.isRow=true
 info:(P.info? ty).map (·.size)=some n
theorem au.range{w:World}{g:Nat}{t:TypeId}{cs:Array Value}(h:au w g t cs):w.rangeAt g 0 cs.toList:=fun j v hv=>by
 rw[Nat.zero_add,h.cell]
 simpa using hv
theorem au.EC{w:World}{g:Nat}{t:TypeId}{cs:Array Value}(h:au w g t cs):w.there g 0 cs.size:=fun j hj=>by
 rw[Nat.zero_add,h.cell,h.frozen];simp[hj]
theorem fZ(b:Nat):∀ (vs:List Value) (o:Nat) (w:World),dm (fun k=>k=b) w (w.setCells b o vs)/\(w.setCells b o vs).heap.size=w.heap.size:=by
 intro vs
 induction vs with
 |nil=>intro o w;exact⟨dm.refl _ _,rfl⟩
 |cons v vs ih=>
  intro o w;have h:=ih (o+1) (w.setCell ⟨b,o,none⟩ v)
  refine⟨(dm.setCell (S:=fun k=>k=b) (p:=⟨b,o,none⟩) (dm.refl _ _) (.inl rfl) v).trans h.1,?_⟩
  show ((w.setCell ⟨b,o,none⟩ v).setCells b (o+1) vs).heap.size=_;rw[h.2];simp[World.setCell]
theorem aNq(b:Nat)(t:TypeId):∀ (vs:List Value) (pre:List Value) (old:List Value) (w:World),old.length=vs.length->au w b t (pre++old).toArray->au (w.setCells b pre.length vs) b t (pre++vs).toArray:=by
 intro vs
 induction vs with
 |nil=>intro pre old w hl h;cases old with|nil=>exact h|cons=>simp at hl
 | cons v vs ih=>
  intro pre old w hl h
  cases old with
  |nil=>simp at hl
  |cons x old=>
   have h1:=h.y9 pre.length v
   have e:(pre++x::old).toArray.setIfInBounds pre.length v=((pre++[v])++old).toArray:=by simp
   rw[e] at h1;have:=ih (pre++[v]) old (w.setCell ⟨b,pre.length,none⟩ v) (by simpa using hl) h1;simp only[List.length_append,List.length_cons,List.length_nil,Nat.zero_add,List.append_assoc,List.singleton_append] at this;exact this
theorem aDw{w:World}{g:Nat}{t:TypeId}{old cs:Array Value}(h:au w g t old)(hs:old.size=cs.size):au (w.setCells g 0 cs.toList) g t cs:=by
 have:=aNq g t cs.toList [] old.toList w (by simpa using hs) (by simpa using h)
 simpa using this
section
variable {P:Program}
theorem Gj{o:Oper}{a:Act}{w:World}{K:Act->World->Prop}{Q:Exit->Act->World->Prop}{ty:TypeId}{x:Operand}(ho:o.op=.load ty x){n:Nat}(W:u_ P ty n)
  {g:Nat} (hx:a.eval x=.pointer (some ⟨g,0,none⟩)) {t:TypeId} {cs:Array Value} (hB:au w g t cs) (hn:cs.size=n) (h:K (a.put o.dst (.agg cs)) w):o.wp P a w K Q:=by
 obtain⟨d,hu,hd⟩:=W.und;refine wp_load_mid ty x ho g 0 hx cs.toList d hB.range hu hd (by rw[Array.length_toList,hn];exact W.info) ?_;rw[Array.toArray_toList];exact h
theorem dL{ops:Array Oper}{rest:List Oper}{o:Oper}{a:Act}{w:World}{Q:Exit->Act->World->Prop}(hgd:o.guard=none){ty:TypeId}{x:Operand}(ho:o.op=.load ty x){n:Nat}(W:u_ P ty n)
  {g:Nat} (hx:a.eval x=.pointer (some ⟨g,0,none⟩)) {t:TypeId} {cs:Array Value} (hB:au w g t cs) (hn:cs.size=n) (h:wpList P ops Q rest (a.put o.dst (.agg cs)) w):wpList P ops Q (o::rest) a w:=
 wpList_plain hgd fun _ hK=>Gj ho W hx hB hn (hK _ _ h)
theorem aNa{o:Oper}{a:Act}{w:World}{K:Act->World->Prop}{Q:Exit->Act->World->Prop}{ty:TypeId}{x y:Operand}(ho:o.op=.store ty x y){n:Nat}(W:u_ P ty n)
  {g:Nat} (hx:a.eval x=.pointer (some ⟨g,0,none⟩)) {cs:Array Value} (hy:a.eval y=.agg cs) {t:TypeId} {old:Array Value} (hB:au w g t old) (ho2:old.size=n) (hn:cs.size=n) (h1:cs.all (·.oneCell')=true)
  (h:∀ w',au w' g t cs->dm (fun k=>k=g) w w'->w'.heap.size=w.heap.size->K (a.put o.dst undef) w'):o.wp P a w K Q:=by
 refine wp_store_mid ty x y ho g 0 cs hx hy (by rw[show cs.size=old.size from by omega];exact hB.EC) (by rw[hn];exact W.info) h1 ?_;exact h _ (aDw hB (by omega)) (fZ g cs.toList 0 w).1 (fZ g cs.toList 0 w).2
theorem aT{ops:Array Oper}{rest:List Oper}{o:Oper}{a:Act}{w:World}{Q:Exit->Act->World->Prop}(hgd:o.guard=none){ty:TypeId}{x y:Operand}(ho:o.op=.store ty x y){n:Nat}(W:u_ P ty n)
  {g:Nat} (hx:a.eval x=.pointer (some ⟨g,0,none⟩)) {cs:Array Value} (hy:a.eval y=.agg cs) {t:TypeId} {old:Array Value} (hB:au w g t old) (ho2:old.size=n) (hn:cs.size=n) (h1:cs.all (·.oneCell')=true)
  (h:∀ w',au w' g t cs->dm (fun k=>k=g) w w'->w'.heap.size=w.heap.size->wpList P ops Q rest (a.put o.dst undef) w'):wpList P ops Q (o::rest) a w:=
 wpList_plain hgd fun _ hK=>aNa ho W hx hy hB ho2 hn h1 fun w' h2 h3 h4=>hK _ _ (h w' h2 h3 h4)
theorem iI{ops:Array Oper}{o:Oper}{a:Act}{w:World}{K:Act->World->Prop}{Q:Exit->Act->World->Prop}{E:Prop}(hgd:o.guard=none){ty:TypeId}{x y:Operand}(ho:o.op=.store ty x y){n:Nat}(W:u_ P ty n)
  {g:Nat} (hx:a.eval x=.pointer (some ⟨g,0,none⟩)) {cs:Array Value} (hy:a.eval y=.agg cs) {t:TypeId} {old:Array Value} (hB:au w g t old) (ho2:old.size=n) (hn:cs.size=n) (h1:cs.all (·.oneCell')=true)
  (h:∀ w',au w' g t cs->dm (fun k=>k=g) w w'->w'.heap.size=w.heap.size->K (a.put o.dst undef) w'):if Region.wanted o (yielded ops a.tmps)=true then Oper.wp P o a w K Q else E:=by
 have hw:Region.wanted o (yielded ops a.tmps)=true:=by simp[Region.wanted,hgd]
 rw[if_pos hw];exact aNa ho W hx hy hB ho2 hn h1 h
end
end
section
theorem aUu{P:Program}{T e:TypeId}{n:Nat}(hu:P.underlying T=some (.array n e)){ad:Option Addr}{len c:Nat}(hl:n<=len)(w:World):(Instr.arrayAt T (.slice ad len c)).run P w=.ok (.pointer ad) w:=by
 have h:¬len<n:=by omega
 simp[Instr.arrayAt,run_underlying hu,h]
def GH(S:Nat->Prop)(w w':World):Prop:=∀ p v,¬S p.block->w.cell? p=some v->w'.cell? p=some v
theorem GH.trans{S:Nat->Prop}{a b c:World}(h:GH S a b)(k:GH S b c):GH S a c:=fun p v hn hc=>k p v hn (h p v hn hc)
theorem GH.VS{S:Nat->Prop}{a b:World}(h:dm S a b):GH S a b:=fun _ _ hn hc=>dm.jd h hc hn
def Oe(w w':World):Prop:=∀ (k:Nat) (o:Obj),w.heap[k]?=some o->o.isCells=true->w'.heap[k]?=some o
theorem cells_of_cell{w:World}{p:Addr}{v:Value}(h:w.cell? p=some v):∃ o,w.heap[p.block]?=some o/\o.isCells=true:=by
 have hl:=lt_of_cell h
 refine⟨_,Array.getElem?_eq_getElem hl,?_⟩
 unfold World.cell? at h;rw[Array.getElem?_eq_getElem hl] at h
 cases ho:w.heap[p.block]<;>simp_all [Obj.isCells]
theorem GH.putObj{S:Nat->Prop}(W:World)(l:Nat){o:Obj}(o':Obj)(h:W.heap[l]?=some o)(ho:o.isCells=false):GH S W (W.putObj l o'):=fun p v _ hc=>by
 obtain⟨q,hq,hqc⟩:=cells_of_cell hc
 have hne:p.block≠l:=fun e=>by
  rw[e,h] at hq;cases hq;rw[ho] at hqc;cases hqc
 rw[World.cell?_of_block (w:=W) (World.putObj_heap_other hne)];exact hc
theorem Oe.cell{w w':World}(h:Oe w w'){p:Addr}{v:Value}(hc:w.cell? p=some v):w'.cell? p=some v:=by
 obtain⟨o,ho,hoc⟩:=cells_of_cell hc;rw[World.cell?_of_block (w:=w) ((h _ _ ho hoc).trans ho.symm)];exact hc
theorem Oe.blk{w w':World}(h:Oe w w'){g:Nat}{t:TypeId}{cs:Array Value}(hb:au w g t cs):au w' g t cs:=h _ _ hb rfl
theorem aF{P:Program}{f:FuncId}{fn:Func}{c:Code}(hf:P.funcs[f]?=some fn)(hname:(fn.name == "runtime.NumGoroutine")=false)(hb:fn.body=some c)(args:Array Value)(w:World):(callFunc f args).run P w=.ok (.enter f args) w:=by
 have h1:fn.name ≠ "runtime.NumGoroutine" := by simpa using hname
 simp[callFunc,hf,h1,hb,mark]
theorem Gi{α:Type}{P:Program}{g:Operand}{ps:Array Tmp}{assign body:Code}{Q:Exit->Act->World->Prop}{a:Act}{w:World}
  {gf:Nat} {lb:Array Value} (hg:a.eval g=.func (.func gf) #[] lb) (eg:∀ args w,(callFunc gf args).run P w=.ok (.enter gf args) w)
  {encs:α->Array Value} {S:Nat->Prop} {all:List α} {N:Nat} (hS:∀ k,S k->k<w.heap.size)
  (hseq:SeqStopsK Fence.wide 2 P gf lb encs (GH S) (fun ys=>ys=all) (fun _=>True) N w) (hps:∀ x,(encs x).size=ps.size)
  (J:List α->World->Prop) (hJ:∀ pre W W',J pre W->Oe W W'->J pre W') (h0:J [] w) (a₁:α->Act)
  (
   hassign:∀ (l:Nat) (x:α) (W:World) (K:Act->World->Prop),K (a₁ x) W ->
   assign.wpIn (Fence.wide.inRound l) 1 P (Exit.then K (fun _ _ _=>False)) { tmps:=(ps.zip (encs x)).foldl (fun t (p,v)=>t.setIfInBounds p v) a.tmps,defers:=[] } W)
  (
   hbody:∀ (l:Nat) (pre:List α) (x:α) (W:World),dm S w W->J pre W->pre.length<N ->
   body.wpIn (Fence.wide.inRound l) 1 P (Exit.then (fun _ W'=>dm S W W'/\J (pre++[x]) W') (fun _ _ _=>False)) (a₁ x) W)
  (hdone:∀ (D:Nat) (W:World),w.heap.size<=D->dm S w W->J all W->W.heap[D]?=some (.deferred (some []))->Q .normal { a with defers:={ target:=.collected D,args:=#[] }::a.defers } W) :
  (Code.rangeFunc g ps assign body).wp P Q a w:=by
 refine (wpIn_wide (n:=3)).1 ?_
 refine wpIn_rangeFunc_ownG (n:=3) (N:=N) (w0:=w) rfl (by omega) hg trivial eg hseq (fun h k=>h.trans k) (fun W l o o' _ h ho _=>GH.putObj W l o' h ho) (Below.refl _ _) hps
  (fun pre W=>dm S w W/\J pre W) (fun _ _ _=>False) ?hI (fun _ _ _ _ _ h _ _=>h) ⟨dm.refl _ _,h0⟩ a₁ hassign ?hbody ?hdone (fun _ _ _ _ _ _ h _=>h.elim)
 case hI=>
  rintro pre W W' row ⟨hc,hj⟩ hgr hrow
  refine⟨hc.grown hgr fun k e=>.inr (hrow k e).1,hJ _ _ _ hj (show Oe W W' from fun k o hk ho=>?_)⟩
  rw[hgr.block k (lt_of_heap hk) (fun e=>?_)]
  ·exact hk
  ·obtain⟨_,q,hq,hqc⟩:=hrow k e.symm;rw[hk] at hq;cases hq;rw[ho] at hqc;cases hqc
 case hbody=>
  rintro l pre x W ⟨hc,hj⟩ hl;refine wpIn_mono (hbody l pre x W hc hj hl) ?_;rintro e b W' h
  cases e with
  |normal=>
   obtain⟨h1,h2⟩:=h
   refine⟨⟨h1.size,fun k o hk ho _=>h1.blk ho (fun hs=>?_)⟩,GH.VS h1,hc.trans h1,h2⟩
   have:=hS k hs
   omega
  |_=>exact h.elim
 case hdone=>
  rintro D xs W hD rfl ⟨hc,hj⟩ hd;exact hdone D W hD hc hj hd
section
variable {P:Program} {F:Fence} {n0:Nat}
theorem aGw{ops:Array Oper}{rest:List Oper}{o:Oper}{a:Act}{w:World}{Q:Exit->Act->World->Prop}(hgd:o.guard=none){ty:TypeId}{x:Operand}(ho:o.op=.load ty x){n:Nat}(W:u_ P ty n)
  {g:Nat} (hx:a.eval x=.pointer (some ⟨g,0,none⟩)) {t:TypeId} {cs:Array Value} (hB:au w g t cs) (hn:cs.size=n) (h:wpListIn F n0 P ops Q rest (a.put o.dst (.agg cs)) w):wpListIn F n0 P ops Q (o::rest) a w:=
 wpListIn_plain hgd fun _ hK=>by
  obtain⟨d,hu,hd⟩:=W.und;unfold Oper.wpIn
  refine⟨by simp[Oper.about,ho],?_⟩
  rw[Oper.semAt_plain F _ _ (by rw[ho];intro c h;cases h)];unfold execOp;have hr:=run_loadVar_mid (P:=P) w g 0 ty cs.toList d hB.range hu hd (by rw[Array.length_toList,hn];exact W.info);rw[Array.toArray_toList] at hr;simp only[ho,hx,Instr.loadAt,Instr.sureAddr,Sem.run_bind,Sem.run_pure,Result.andThen_ok,hr];exact hK _ _ h
theorem aDn{ops:Array Oper}{rest:List Oper}{o:Oper}{a:Act}{w:World}{Q:Exit->Act->World->Prop}(hgd:o.guard=none){ty:TypeId}{x y:Operand}(ho:o.op=.store ty x y){n:Nat}(W:u_ P ty n)
  {g:Nat} (hx:a.eval x=.pointer (some ⟨g,0,none⟩)) {cs:Array Value} (hy:a.eval y=.agg cs) {t:TypeId} {old:Array Value} (hB:au w g t old) (ho2:old.size=n) (hn:cs.size=n) (h1:cs.all (·.oneCell')=true)
  (h:∀ w',au w' g t cs->dm (fun k=>k=g) w w'->w'.heap.size=w.heap.size->wpListIn F n0 P ops Q rest (a.put o.dst undef) w'):wpListIn F n0 P ops Q (o::rest) a w:=
 wpListIn_plain hgd fun _ hK=>by
  unfold Oper.wpIn
  refine⟨by simp[Oper.about,ho],?_⟩
  rw[Oper.semAt_plain F _ _ (by rw[ho];intro c h;cases h)];unfold execOp;have hr:=run_storeAt_mid (P:=P) w g 0 ty cs (by rw[show cs.size=old.size from by omega];exact hB.EC) (by rw[hn];exact W.info) h1;simp only[ho,hx,hy,Sem.run_bind,Sem.run_pure,hr,Result.andThen_ok];exact hK _ _ (h _ (aDw hB (by omega)) (fZ g cs.toList 0 w).1 (fZ g cs.toList 0 w).2)
end
theorem aIp{P:Program}{fn:Func}{R:Ending->World->Prop}{n:Nat}{a:Act}{W:World}{D:Nat}{v:Value}(hd:a.defers=[{ target:=.collected D,args:=#[] }])(hD:W.heap[D]?=some (.deferred (some [])))
  (hr:(results fn a.tmps).run P (W.putObj D (.deferred none))=.ok v (W.putObj D (.deferred none))) (h:R (.returned v) (W.putObj D (.deferred none))):bodyPostM Fence.wide n P fn R .ret a W:=by
 show LeavesInM Fence.wide n P fn a.tmps R a.defers .returning W;rw[hd]
 refine⟨by simp,.inl ⟨_,_,rfl,run_takeDeferred hD,?_⟩⟩
 exact⟨_,hr,h⟩
theorem aYe{w W:World}{D:Nat}(o:Obj)(h:Ext w W)(hD:w.heap.size<=D):Ext w (W.putObj D o):=
 h.grown (grownBy_putObj' W D o) (fun k e=>by cases e;exact hD)
end
section
attribute [local go_sem] Oper.semAt_some
theorem bHf(A:Option Addr)(n c:Nat)(w:World) :
  Calls Tryz.prog 202 #[.slice A n c,.int .i64 64] w fun e w'=>e=.returned (.func (.func 205) #[] #[.pointer (some ⟨w.heap.size,0,none⟩),.pointer (some ⟨w.heap.size+1,0,none⟩)]) /\
   (w.alloc (.cells #[.slice A n c] 74)).alloc (.cells #[.int .i64 64] 3)=w':=by
 go_enter Tryz.func202,Tryz.ntmps202
 go_wp2
 go_ret
 exact⟨rfl,rfl⟩
theorem MK(m k:Nat)(h:k<m):(List.finRange m).take (k+1)=(List.finRange m).take k++[⟨k,h⟩]:=by
 rw[kQ _ k (by simpa using h)];simp
theorem Rl(m:Nat):(List.finRange m).map Fin.val=List.range m:=by
 apply List.ext_getElem
 ·simp
 ·intro i h1 h2;simp
theorem aTq(b o c m:Nat)(Bs Bn:Nat)(S:Nat->Prop)(w:World)(hm:64*m<=1000000000)(hc:64*m<=c)(hs:¬S Bs)(hn:¬S Bn)
  (h1:w.cell? ⟨Bs,0,none⟩=some (.slice (some ⟨b,o,none⟩) (64*m) c)) (h2:w.cell? ⟨Bn,0,none⟩=some (.int .i64 64)) :
  SeqStopsK Fence.wide 2 Tryz.prog 205 #[.pointer (some ⟨Bs,0,none⟩),.pointer (some ⟨Bn,0,none⟩)] (fun x:Fin m=>#[.slice (some ⟨b,o+64*x.val,none⟩) 64 64]) (GH S) (fun ys=>ys=List.finRange m) (fun _=>True) m w:=by
 intro l J Jx W hW hJ hJx hY h0;have k1:=(hW.cell (p:=⟨Bs,0,none⟩) (lt_of_cell h1)).trans h1;have k2:=(hW.cell (p:=⟨Bn,0,none⟩) (lt_of_cell h2)).trans h2;clear h1 h2;refine callsIn_wide.2 ?_
 go_enter Tryz.func205,Tryz.ntmps205
 go_wp2
 go_loopw [4] (fun i wr=>∃ k:Nat,k<=m/\i=.int .i64 ((64*k:Nat):Int)/\Hid (J ((List.finRange m).take k) wr)/\wr.cell? ⟨Bs,0,none⟩=some (.slice (some ⟨b,o,none⟩) (64*m) c)/\wr.cell? ⟨Bn,0,none⟩=some (.int .i64 64)) (fun i _=>64*m-(intOf i).toNat)
 case atStart=>exact⟨0,Nat.zero_le _,rfl,hide h0,k1,k2⟩
 case round=>
  obtain⟨k,hk,rfl,hj,g1,g2⟩:=hrel
  by_cases hlt:k<m
  ·have e1:¬64*k=c:=by omega
   have e2:64*k<64*m:=by omega
   have e3:64<=64*m-64*k:=by omega
   go_wp2
   go_quiet (fail)
   go_upto_region 4 with fail
   have hj':=hJ _ _ (wr.drewN nq) none (aA hj) ⟨rfl,rfl,rfl,Nat.le_refl _,fun _ _ _=>rfl⟩ (fun r e=>by cases e);obtain⟨fn,tmps,assign,body,hy,hR⟩:=hY ((List.finRange m).take k) ⟨k,hlt⟩ (wr.drewN nq) hj' (by simp;omega);dsimp only at hy;refine (wpIn_wide (n:=2)).1 ?_
   gi_wp2
   clear hy;refine hR.mono ?_;rintro e W3 (⟨rfl,hJ3,hk3⟩|⟨rfl,hJx3⟩)
   ·have g1':=hk3 _ _ hs g1;have g2':=hk3 _ _ hn g2;have hJ4:=hide hJ3;clear hJ3 hk3
    gi_wp2
    go_wp2
    go_roundw
    case rel=>exact⟨k+1,by omega,by go_num,hide (by rw[MK m k hlt];exact aA hJ4),g1',g2'⟩
    case measure=>simp[intOf];omega
   ·gi_wp2
    go_wp2
    refine bodyPost_ret (results_none rfl _ _ _) rfl ?_
    exact⟨⟨_,rfl⟩,.inr ⟨_,trivial,hJx3⟩⟩
  ·obtain rfl:k=m:=by omega
   go_wp2
   go_end0
   exact⟨⟨_,rfl⟩,.inl ⟨_,rfl,by have:=aA hj;rwa [List.take_of_length_le (by simp)] at this⟩⟩
end
section
theorem au.far'{w:World}{g:Nat}{t:TypeId}{cs:Array Value}(h:au w g t cs){b:Nat}(hn:¬g=b)(i:Nat)(u:Value):au (w.setCell ⟨b,i,none⟩ u) g t cs:=h.far hn u
theorem fH(W:World)(t:TypeId)(cs:Array Value){g:Nat}(hg:g=W.heap.size){i:Nat}{v:Value}(hv:cs[i]?=some v):(W.alloc (.cells cs t)).cell? ⟨g,i,none⟩=some v:=by
 rw[(au.new' W t cs hg).cell];exact hv
theorem gW(W:World)(o:Obj){p:Addr}{v:Value}(h:W.cell? p=some v):(W.alloc o).cell? p=some v:=Ext.jd ((Ext.refl W).alloc o) h
theorem aDD{W:World}(o:Obj){p q r s u:Addr}{a b c d e:Value}(h:W.cell? p=some a/\W.cell? q=some b/\W.cell? r=some c/\W.cell? s=some d/\W.cell? u=some e):(W.alloc o).cell? p=some a/\(W.alloc o).cell? q=some b/\(W.alloc o).cell? r=some c/\(W.alloc o).cell? s=some d/\(W.alloc o).cell? u=some e:=
 ⟨gW _ _ h.1,gW _ _ h.2.1,gW _ _ h.2.2.1,gW _ _ h.2.2.2.1,gW _ _ h.2.2.2.2⟩
theorem W9{W:World}(o:Obj){p q r:Addr}{a b c:Value}(h:W.cell? p=some a/\W.cell? q=some b/\W.cell? r=some c):(W.alloc o).cell? p=some a/\(W.alloc o).cell? q=some b/\(W.alloc o).cell? r=some c:=
 ⟨gW _ _ h.1,gW _ _ h.2.1,gW _ _ h.2.2⟩
theorem aDC{W:World}(o:Obj){p q r:Addr}{a b:Value}(h:W.cell? p=some a/\W.cell? q=some b/\W.cell? r=some (held W r)/\W.frozen? r=false):(W.alloc o).cell? p=some a/\(W.alloc o).cell? q=some b/\(W.alloc o).cell? r=some (held (W.alloc o) r)/\(W.alloc o).frozen? r=false:=
 ⟨gW _ _ h.1,gW _ _ h.2.1,aGi (gW _ _ h.2.2.1),Ext.vw ((Ext.refl W).alloc o) h.2.2.2 (lt_of_cell h.2.2.1)⟩
theorem Fv{W:World}(u:Value){g i j k:Nat}{a b:Value}(hi:i≠k)(hj:j≠k)(h:W.cell? ⟨g,i,none⟩=some a/\W.cell? ⟨g,j,none⟩=some b/\W.cell? ⟨g,k,none⟩=some (held W ⟨g,k,none⟩)/\W.frozen? ⟨g,k,none⟩=false) :
  (W.setCell ⟨g,k,none⟩ u).cell? ⟨g,i,none⟩=some a/\(W.setCell ⟨g,k,none⟩ u).cell? ⟨g,j,none⟩=some b/\(W.setCell ⟨g,k,none⟩ u).cell? ⟨g,k,none⟩=some (held (W.setCell ⟨g,k,none⟩ u) ⟨g,k,none⟩)/\(W.setCell ⟨g,k,none⟩ u).frozen? ⟨g,k,none⟩=false:=by
 refine⟨?_,?_,aGi (World.cell?_setCell_same' _ _ _ (by rw[h.2.2.1];rfl)),by rw[World.frozen?_setCell];exact h.2.2.2⟩
 ·rw[World.cell?_setCell_other (h:=by intro e;cases e;exact hi rfl)];exact h.1
 ·rw[World.cell?_setCell_other (h:=by intro e;cases e;exact hj rfl)];exact h.2.1
section
variable {P:Program}
theorem yR{T elem:TypeId}{len:Nat}(hu:P.underlying T=some (.array len elem))(hp:P.plainKey elem=true){inf:TypeInfo}(hi:P.info? elem=some inf)(h1:P.cellsOf elem=1)
  {cs:Array Value} {k:Nat} (hk:k<len) {v:Value} (hv:cs[k]?=some v) (w:World):(Instr.index T (.agg cs) (.int .i64 (k:Int))).run P w=.ok v w:=by
 have h2:(0:Int)<=(k:Int)/\(k:Int)<(len:Int):=by omega
 simp[Instr.index,asIntOf,run_underlying hu,run_sizeOf (w:=w) hi,h1,hk,run_part_plain w hp hv]
theorem qA{ops:Array Oper}{rest:List Oper}{o:Oper}{a:Act}{w:World}{Q:Exit->Act->World->Prop}(hgd:o.guard=none){ty:TypeId}{x:Operand}(ho:o.op=.load ty x){n:Nat}(W:u_ P ty n)
  {g:Nat} (hx:a.eval x=.pointer (some ⟨g,0,none⟩)) {cs:List Value} {arr:Array Value} (hB:w.rangeAt g 0 cs) (hn:cs.length=n) (ha:cs.toArray=arr) (h:wpList P ops Q rest (a.put o.dst (.agg arr)) w):wpList P ops Q (o::rest) a w:=
 wpList_plain hgd fun _ hK=>by
  obtain⟨d,hu,hd⟩:=W.und;refine wp_load_mid ty x ho g 0 hx cs d hB hu hd (by rw[hn];exact W.info) ?_;rw[ha];exact hK _ _ h
theorem iV{w:World}{b:Nat}{t:TypeId}{cs:Array Value}(hB:au w b t cs){T:TypeId}{n:Nat}(W:u_ P T n)(hn:cs.size=n):(loadVar T ⟨b,0,none⟩).run P w=.ok (.agg cs) w:=by
 obtain⟨d,hu,hd⟩:=W.und;have:=run_loadVar_mid (P:=P) w b 0 T cs.toList d hB.range hu hd (by rw[Array.length_toList,hn];exact W.info);rw[Array.toArray_toList] at this;exact this
theorem dJ{fn:Func}{i:Tmp}{T:TypeId}{n:Nat}(W:u_ P T n)(hf:fn.results=#[.cell i T]){tmps:Array Value}{w:World}{b:Nat}{t:TypeId}{cs:Array Value}(hB:au w b t cs)(hn:cs.size=n)(ei:tmps.getD i undef=.pointer (some ⟨b,0,none⟩)) :
  (results fn tmps).run P w=.ok (.agg cs) w:=by
 have h1:=iV hB W hn;simp only[Array.getD_eq_getD_getElem?] at ei;simp[results,hf,ei,asAddr,h1]
theorem Reads.sub{w:World}{v:Value}{n:Nat}{xs:List Value}(h:Reads w 1 v n xs)(i m:Nat)(hi:i+m<=n)(hm:0<m) :
  ∃ b o c,v=.slice (some ⟨b,o,none⟩) n c/\n<=c/\c<=maxLen/\b<w.heap.size/\Reads w 1 (.slice (some ⟨b,o+i,none⟩) m (c-i)) m ((xs.drop i).take m):=by
 obtain⟨b,o,c,u,rfl,h1,h2,h3,_,_⟩:=h.DN (k:=0) (by omega);have hl:=h.1
 refine⟨b,o,c,rfl,h1,h2,h3,by simp;omega,_,_,rfl,by omega,by omega,fun _=>⟨b,o+i,rfl,fun j u hu=>?_⟩⟩
 have hj:j<m:=by
  rcases Nat.lt_or_ge j m with h|h
  ·exact h
  ·rw[List.getElem?_eq_none (by simp;omega)] at hu;cases hu
 rw[List.getElem?_take,if_pos hj,List.getElem?_drop] at hu;obtain⟨_,A,c',e,_,_,h4⟩:=h;cases e;obtain⟨b',o',e,hc⟩:=h4 (by omega);cases e;rw[Nat.add_assoc];exact hc _ _ hu
theorem Reads.cap{w:World}{A:Option Addr}{n c c':Nat}{xs:List Value}(h:Reads w 1 (.slice A n c) n xs)(h1:n<=c')(h2:c'<=maxLen):Reads w 1 (.slice A n c') n xs:=by
 obtain⟨hl,A',c'',e,_,_,h4⟩:=h;cases e
 exact⟨hl,A,c',rfl,h1,h2,h4⟩
theorem Reads.su{w:World}{g:Nat}{t:TypeId}{cs:Array Value}(h:au w g t cs){i n c:Nat}(hi:i+n<=cs.size)(hc:n<=c)(hm:c<=maxLen) :
  Reads w 1 (.slice (some ⟨g,i,none⟩) n c) n ((cs.toList.drop i).take n):=by
 refine⟨by simp;omega,_,_,rfl,hc,hm,fun _=>⟨g,i,rfl,fun j u hu=>?_⟩⟩
 have hj:j<n:=by
  rcases Nat.lt_or_ge j n with h|h
  ·exact h
  ·rw[List.getElem?_eq_none (by simp;omega)] at hu;cases hu
 rw[List.getElem?_take,if_pos hj,List.getElem?_drop] at hu;rw[h.cell,<-hu];simp
end
end
section
def fM(n:Nat)(l:List UInt32):Array Value:=(l.map w32++List.replicate (n-l.length) (Value.int .u32 0)).toArray
theorem jK{n:Nat}{l:List UInt32}{i:Nat}(h:i<l.length):(fM n l)[i]?=some (.int .u32 ((l.getD i 0).toNat:Int)):=by
 unfold fM;rw[List.getElem?_toArray,List.getElem?_append_left (by simpa using h),List.getElem?_map,zG,zH h];rfl
theorem aRc{n:Nat}{l:List UInt32}(x:UInt32)(h:l.length<n):(fM n l).setIfInBounds l.length (.int .u32 (x.toNat:Int))=fM n (l++[x]):=by
 unfold fM;rw[show n-l.length=(n-(l++[x]).length)+1 from by simp;omega,List.replicate_succ];simp[w32]
theorem tX{n k:Nat}{l:List UInt32}(x:UInt32)(hl:l.length=k)(h:k<n):(fM n l).setIfInBounds k (.int .u32 (x.toNat:Int))=fM n (l++[x]):=by subst hl;exact aRc x h
theorem aNd(n:Nat):fM n []=Array.replicate n (Value.int .u32 0):=by
 unfold fM;simp
theorem aBm{n:Nat}{l:List UInt32}(h:l.length<=n):(fM n l).size=n:=by
 unfold fM;simp;omega
theorem bAg:u_ Tryz.prog 269 64:=⟨⟨_,Tryz.underlying269,rfl⟩,by kernel_rfl⟩
theorem jA:u_ Tryz.prog 263 8:=⟨⟨_,Tryz.underlying263,rfl⟩,by kernel_rfl⟩
structure a_(w:World):Prop where
 k:w.rangeAt 2 0 (qh.map w32)
 h:w.rangeAt 0 0 (mF.map w32)
theorem pI{S:Nat->Prop}{w w':World}{b:Nat}{cs:List Value}(h:w.rangeAt b 0 cs)(hc:dm S w w')(hn:¬S b):w'.rangeAt b 0 cs:=fun j v hj=>dm.jd hc (h j v hj) hn
theorem a_.gu{S:Nat->Prop}{w w':World}(h:a_ w)(hc:dm S w w')(h1:¬S 2)(h2:¬S 0):a_ w':=⟨pI h.k hc h1,pI h.h hc h2⟩
theorem a_.ext{w w':World}(h:a_ w)(hc:Ext w w'):a_ w':=h.gu hc (fun h=>h) (fun h=>h)
theorem Tz(x:UInt32)(n0 n1:Nat)(g:Nat)(w:World)(h0:w.cell? ⟨g,0,none⟩=some (.int .i64 (n0:Int)))(h1:w.cell? ⟨g,1,none⟩=some (.int .i64 (n1:Int)))(hn:(0<n0/\n0<32)/\0<n1/\n1<32) :
  Calls Tryz.prog 204 #[.int .u32 (x.toNat:Int),.slice (some ⟨g,0,none⟩) 2 2] w fun e w'=>e=.returned (.int .u32 ((dZ x (UInt32.ofNat n0) ^^^ dZ x (UInt32.ofNat n1)).toNat:Int))/\w=w':=by
 have:=aUx x [n0,n1] (.slice (some ⟨g,0,none⟩) 2 2) w ⟨rfl,_,_,rfl,Nat.le_refl _,by unfold maxLen;omega,fun _=>⟨g,0,rfl,fun j u hu=>?_⟩⟩ (by simp;omega)
 ·simpa[uO] using this
 ·match j,hu with
  |0,hu=>cases hu;exact h0
  |1,hu=>cases hu;exact h1
theorem Tv(x:UInt32)(n0 n1 n2:Nat)(g:Nat)(w:World)(h0:w.cell? ⟨g,0,none⟩=some (.int .i64 (n0:Int)))(h1:w.cell? ⟨g,1,none⟩=some (.int .i64 (n1:Int)))(h2:w.cell? ⟨g,2,none⟩=some (.int .i64 (n2:Int)))(hn:(0<n0/\n0<32)/\(0<n1/\n1<32)/\0<n2/\n2<32) :
  Calls Tryz.prog 204 #[.int .u32 (x.toNat:Int),.slice (some ⟨g,0,none⟩) 3 3] w fun e w'=>e=.returned (.int .u32 ((dZ x (UInt32.ofNat n0) ^^^ dZ x (UInt32.ofNat n1) ^^^ dZ x (UInt32.ofNat n2)).toNat:Int))/\w=w':=by
 have:=aUx x [n0,n1,n2] (.slice (some ⟨g,0,none⟩) 3 3) w ⟨rfl,_,_,rfl,Nat.le_refl _,by unfold maxLen;omega,fun _=>⟨g,0,rfl,fun j u hu=>?_⟩⟩ (by simp;omega)
 ·simpa[uO] using this
 ·match j,hu with
  |0,hu=>cases hu;exact h0
  |1,hu=>cases hu;exact h1
  |2,hu=>cases hu;exact h2
def rr2(x a b:UInt32):UInt32:=dZ x a ^^^ dZ x b
def rr3(x a b c:UInt32):UInt32:=dZ x a ^^^ dZ x b ^^^ dZ x c
theorem bCh(x:UInt32)(g:Nat)(w:World)(h0:w.cell? ⟨g,0,none⟩=some (.int .i64 7))(h1:w.cell? ⟨g,1,none⟩=some (.int .i64 18)) :
  Calls Tryz.prog 204 #[.int .u32 (x.toNat:Int),.slice (some ⟨g,0,none⟩) 2 2] w fun e w'=>e=.returned (.int .u32 ((rr2 x 7 18).toNat:Int))/\w=w':=
 Tz x 7 18 g w h0 h1 (by omega)
theorem aXu(x:UInt32)(g:Nat)(w:World)(h0:w.cell? ⟨g,0,none⟩=some (.int .i64 17))(h1:w.cell? ⟨g,1,none⟩=some (.int .i64 19)) :
  Calls Tryz.prog 204 #[.int .u32 (x.toNat:Int),.slice (some ⟨g,0,none⟩) 2 2] w fun e w'=>e=.returned (.int .u32 ((rr2 x 17 19).toNat:Int))/\w=w':=
 Tz x 17 19 g w h0 h1 (by omega)
theorem aOc(x:UInt32)(g:Nat)(w:World)(h0:w.cell? ⟨g,0,none⟩=some (.int .i64 6))(h1:w.cell? ⟨g,1,none⟩=some (.int .i64 11))(h2:w.cell? ⟨g,2,none⟩=some (.int .i64 25)) :
  Calls Tryz.prog 204 #[.int .u32 (x.toNat:Int),.slice (some ⟨g,0,none⟩) 3 3] w fun e w'=>e=.returned (.int .u32 ((rr3 x 6 11 25).toNat:Int))/\w=w':=
 Tv x 6 11 25 g w h0 h1 h2 (by omega)
theorem aOd(x:UInt32)(g:Nat)(w:World)(h0:w.cell? ⟨g,0,none⟩=some (.int .i64 2))(h1:w.cell? ⟨g,1,none⟩=some (.int .i64 13))(h2:w.cell? ⟨g,2,none⟩=some (.int .i64 22)) :
  Calls Tryz.prog 204 #[.int .u32 (x.toNat:Int),.slice (some ⟨g,0,none⟩) 3 3] w fun e w'=>e=.returned (.int .u32 ((rr3 x 2 13 22).toNat:Int))/\w=w':=
 Tv x 2 13 22 g w h0 h1 h2 (by omega)
theorem bBw(x0 r1 x1 x9 r14 x14:UInt32):((((x0.toNat:Int)+bits BinOp.xor IntKind.u32 (r1.toNat:Int) ((x1.toNat:Int) / (8:Int))) % (4294967296:Int)+(x9.toNat:Int)) % (4294967296:Int)+bits BinOp.xor IntKind.u32 (r14.toNat:Int) ((x14.toNat:Int) / (1024:Int))) % (4294967296:Int) =
  ((x0+(r1 ^^^ (x1 >>> 3))+x9+(r14 ^^^ (x14 >>> 10))).toNat:Int):=by
 have h3:=bBv x1 3 (by omega);have h10:=bBv x14 10 (by omega);rw[show (8:Int)=2 ^ 3 from rfl,show (1024:Int)=2 ^ 10 from rfl,h3,h10,wL,wL,add32,add32,add32];rfl
theorem aAU(x7 r x4 x5 x6 xk xw:UInt32):IntKind.u32.wrap (IntKind.u32.wrap (IntKind.u32.wrap (IntKind.u32.wrap ((x7.toNat:Int)+(r.toNat:Int))+bits BinOp.xor IntKind.u32 (bits BinOp.and IntKind.u32 (x4.toNat:Int) (x5.toNat:Int)) (bits BinOp.and IntKind.u32 (bits BinOp.xor IntKind.u32 IntKind.u32.max (x4.toNat:Int)) (x6.toNat:Int)))+(xk.toNat:Int))+(xw.toNat:Int)) =
  ((x7+r+((x4 &&& x5) ^^^ (~~~x4 &&& x6))+xk+xw).toNat:Int):=by
 rw[U_,Oh,Oh,wL,O8,O8,O8,O8]
theorem aAR(r x0 x1 x2:UInt32):IntKind.u32.wrap ((r.toNat:Int)+bits BinOp.xor IntKind.u32 (bits BinOp.xor IntKind.u32 (bits BinOp.and IntKind.u32 (x0.toNat:Int) (x1.toNat:Int)) (bits BinOp.and IntKind.u32 (x0.toNat:Int) (x2.toNat:Int))) (bits BinOp.and IntKind.u32 (x1.toNat:Int) (x2.toNat:Int))) =
  ((r+(((x0 &&& x1) ^^^ (x0 &&& x2)) ^^^ (x1 &&& x2))).toNat:Int):=by
 rw[Oh,Oh,Oh,wL,wL,O8]
def aXa(w:World)(hc:Array Value)(bs:List UInt8)(k:Nat)(wr:World):Prop:=
 au wr w.heap.size 263 hc/\(∃ o8,au wr (w.heap.size+1) 263 o8/\o8.size=8)/\au wr (w.heap.size+1+1) 269 (fM 64 (bY bs k))/\Ext w wr
theorem aXa.step{w wr wr':World}{hc:Array Value}{bs:List UInt8}{k:Nat}(h:aXa w hc bs k wr)(hE:Ext wr wr')(hk:k<64){x:UInt32}(hx:(if k<16 then lY ((bs.drop (4*k)).take 4) else uK (bY bs k))=x) :
  aXa w hc bs (k+1) (wr'.setCell ⟨w.heap.size+1+1,k,none⟩ (.int .u32 (x.toNat:Int))):=by
 obtain⟨q1,⟨o8,q5,q6⟩,q3,q4⟩:=h
 refine⟨(q1.ext hE).far' (by omega) _ _,⟨o8,(q5.ext hE).far' (by omega) _ _,q6⟩,?_,(q4.trans hE).setCell (by simp;omega) _⟩
 have:=(q3.ext hE).y9 k (.int .u32 (x.toNat:Int));rw[tX x (dO bs k) hk] at this;rw[bY,hx];exact this
def bIg(w:World)(hc:Array Value)(h:List UInt32)(bs:List UInt8)(g k:Nat)(wr:World):Prop:=
 au wr w.heap.size 263 hc/\(∃ o8,au wr (w.heap.size+1) 263 o8/\o8.size=8)/\au wr (w.heap.size+1+1) 269 (fM 64 (sched bs))/\au wr g 263 (fM 8 (aX bs h k))/\Ext w wr/\w.heap.size+1+1<g
theorem kZ{n:Nat}{l:List UInt32}(h:l.length=n):fM n l=(l.map w32).toArray:=by
 unfold fM;rw[h,Nat.sub_self];simp
theorem Ud{k:Nat}(h:k<64):((qh.map w32).toArray)[k]?=some (.int .u32 ((qh.getD k 0).toNat:Int)):=by
 have:=jK (n:=64) (l:=qh) (i:=k) h;rwa [kZ (show qh.length=64 from rfl)] at this
theorem yM(l:List UInt32):((l.map w32).toArray).all (·.oneCell')=true:=by
 rw[<-Array.all_toList];simp[w32];intro x _;rfl
def wP(R h:List UInt32)(k:Nat):List UInt32:=(List.zipWith (·+·) R h).take k++R.drop k
def qI(w:World)(hc:Array Value)(h R:List UInt32)(g k:Nat)(wr:World):Prop:=
 au wr w.heap.size 263 hc/\(∃ o8,au wr (w.heap.size+1) 263 o8/\o8.size=8)/\au wr g 263 (fM 8 (wP R h k))/\Ext w wr/\w.heap.size+1+1<g
theorem vK{R h:List UInt32}(hR:R.length=8)(hh:h.length=8){k:Nat}(hk:k<=8):(wP R h k).length=8:=by
 unfold wP;simp;omega
theorem qI.start{w wr:World}{hc:Array Value}{h:List UInt32}{bs:List UInt8}{g:Nat}(hi:bIg w hc h bs g 64 wr):qI w hc h (aX bs h 64) g 0 wr:=by
 obtain⟨q1,q2,_,q4,q5,q6⟩:=hi
 exact⟨q1,q2,q4,q5,q6⟩
section
variable {w wr:World} {hc:Array Value} {h R:List UInt32} {g k:Nat}
theorem qI.new(hi:qI w hc h R g k wr)(hR:R.length=8)(hh:h.length=8)(hk:k<8):wr.cell? ⟨g,k,none⟩=some (.int .u32 ((R.getD k 0).toNat:Int)):=by
 rw[hi.2.2.1.cell,jK (by rw[vK hR hh (by omega)];exact hk)]
 have:(wP R h k).getD k 0=R.getD k 0:=by
  unfold wP;rw[zG,zG,List.getElem?_append_right (by simp;omega)];simp;rw[show k+(k-min k (min R.length h.length))=k from by omega]
 rw[this]
theorem qI.old(hi:qI w hc h R g k wr)(hC:(h.map w32).toArray=hc)(hh:h.length=8)(hk:k<8):wr.cell? ⟨w.heap.size,k,none⟩=some (.int .u32 ((h.getD k 0).toNat:Int)):=by
 rw[hi.1.cell,<-hC,<-kZ hh,jK (by omega)]
theorem qI.step(hi:qI w hc h R g k wr){wr':World}(hE:Ext wr wr')(hR:R.length=8)(hh:h.length=8)(hk:k<8):qI w hc h R g (k+1) (wr'.setCell ⟨g,k,none⟩ (.int .u32 ((R.getD k 0+h.getD k 0).toNat:Int))):=by
 obtain⟨q1,⟨o8,q5,q6⟩,q3,q4,q7⟩:=hi
 refine⟨(q1.ext hE).far' (by omega) _ _,⟨o8,(q5.ext hE).far' (by omega) _ _,q6⟩,?_,(q4.trans hE).setCell (by simp;omega) _,q7⟩
 have:=(q3.ext hE).y9 k (.int .u32 ((R.getD k 0+h.getD k 0).toNat:Int))
 have e:(fM 8 (wP R h k)).setIfInBounds k (.int .u32 ((R.getD k 0+h.getD k 0).toNat:Int))=fM 8 (wP R h (k+1)):=by
  rw[kZ (vK hR hh (by omega)),kZ (vK hR hh (by omega))];apply Array.ext';rw[Array.toList_setIfInBounds];dsimp only
  have e1:wP R h (k+1)=(wP R h k).set k (R.getD k 0+h.getD k 0):=by
   unfold wP;rw[kQ _ k (by simp;omega),List.set_append_right _ _ (by simp;omega)];rw[show k-((List.zipWith (·+·) R h).take k).length=0 from by simp;omega];rw[List.drop_eq_getElem_cons (show k<R.length by omega)];rw[List.set_cons_zero,List.append_assoc,zG,zG,zH (show k<R.length by omega),zH (show k<h.length by omega),List.getElem_zipWith];rfl
  rw[e1,List.map_set];rfl
 rw[e] at this;exact this
theorem qI.drew(hi:qI w hc h R g k wr):qI w hc h R g k wr.drew:=by
 obtain⟨q1,⟨o8,q5,q6⟩,q3,q4,q7⟩:=hi
 exact⟨q1.drew,⟨o8,q5.drew,q6⟩,q3.drew,q4.drew,q7⟩
theorem bFx(hR:R.length=8)(hh:h.length=8):wP R h 8=List.zipWith (·+·) R h:=by
 unfold wP;rw[List.take_of_length_le (by simp;omega),List.drop_of_length_le (by omega),List.append_nil]
end
end
end Go.Proofs.YtndpjopifkbgiaaGreatDoor
