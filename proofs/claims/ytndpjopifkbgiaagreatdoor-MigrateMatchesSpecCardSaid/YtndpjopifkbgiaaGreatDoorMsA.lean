/-
  Several texts in one file: each has its own heading below.
-/
import Derived.WalkKit
import Derived.WalkSpells
import Derived.WalkLawsBesides
import Derived.Handy
import Derived.Deep.QuietTactic
import Derived.BigQuiet
import Derived.Deep.Draws
import Derived.Maps.AppendAt
import Derived.Laws.BitsAllLaws
import Derived.Test.YtndpjopifkbgiaaGreatDoorProg
import Derived.Outline
import Derived.Deep.MidRow
import Derived.OwnWalkIn
import Derived.RangeFuncNested
import Derived.RangeFuncBound
import Derived.RangeFuncCalls
import Derived.RangeFuncLeaves
import Derived.TacticsInMore
import Derived.LoopNIn
import Derived.LoopIn
import Derived.Deep.Cut
import Derived.ChangeKeysEq
import Derived.DeepKeys
import Derived.Deep.RegionHeld3
import Derived.Deep.DeepCutAuto
set_option maxRecDepth 100000
set_option maxHeartbeats 4000000
namespace Go.Proofs.YtndpjopifkbgiaaGreatDoor
open Go.RowKit Tryz
open _root_.Go renaming World->ae,Value->ag,TypeId->bu,Program->gp,Operand->nz,maxLen->uC,run_underlying->zg,Addr->ry,Oper->gz,Calls->ik,heap_alloc_new->aBp,wpList->YA,yielded->Xx,Exit->uB,undef->dC,callFunc->Xy
open _root_.List renaming getElem?_eq_getElem->aBx,finRange->aDM,take_of_length_le->IR,getElem?_eq_none->GM,getElem?_take->xe,getElem?_map->Xu,append_assoc->yl,zipWith->Ym,eq_nil_of_length_eq_zero->aDI,getElem?_cons_succ->Yv,getElem?_drop->PR,take_add_one->aDh,foldl_append->aEd,take_length->aAe,length_nil->YN,replicate->DD,range->yf
open _root_.UInt32 renaming ofNat->YG
open _root_.Go.IntKind renaming u32->xy
open _root_.Nat renaming le_refl->dE,zero_le->x8,zero_add->lL,le_trans->mr,add_assoc->YM,lt_or_ge->Y6,lt_of_lt_of_le->Y1,eq_zero_or_pos->Yi,sub_self->YB
open _root_.Go.Value renaming ownBlock->Xr,slice->Y2,int->df
open _root_.Go.World renaming cell?_of_block->aEY,setCell->aEJ,cell?_setCell_other->aFT,frozen?->aEK
open _root_.Array renaming toArray_toList->aEs,length_toList->mf,toList_setIfInBounds->aEZ,getElem?_eq_getElem->Yj,getElem?_modify->aFL
open _root_.UInt8 renaming ofNat->ww
section
theorem zA{α:Type}(l:List α)(i:Nat)(a:α):l.toArray.setIfInBounds i a=(l.set i a).toArray:=List.setIfInBounds_toArray ..
theorem zB{α:Type}(x y:α)(l:List α):(x::l).set 0 y=y::l:=rfl
theorem zC{α:Type}(x y:α)(l:List α)(n:Nat):(x::l).set (n+1) y=x::l.set n y:=rfl
theorem zD{α:Type}(l:List α)(i:Nat)(h:i<l.toArray.size):l.toArray[i]'h=l[i]'(by simpa using h):=List.getElem_toArray ..
theorem zE{α:Type}(x:α)(l:List α)(n:Nat)(h:n+1<(x::l).length):(x::l)[n+1]'h=l[n]'(Nat.lt_of_succ_lt_succ h):=rfl
theorem zG{α:Type}{l:List α}{i:Nat}{a:α}:l.getD i a=l[i]?.getD a:=List.getD_eq_getElem?_getD
theorem zH{α:Type}{l:List α}{i:Nat}(h:i<l.length):l[i]?=some l[i]:=aBx h
theorem zF{α:Type}(x:α)(l:List α)(h:0<(x::l).length):(x::l)[0]'h=x:=rfl
theorem a_{p:Prop}(h:p:=by omega):p:=h
theorem aj{p:Prop}(h:p:=by kernel_rfl):p:=h
theorem ay{p:Prop}(h:p:=by simp):p:=h
theorem f_{p:Prop}(h:p:=by rfl):p:=h
theorem jc{p:Prop}(h:p:=by decide):p:=h
theorem mg{p:Prop}(h:p:=by simp;omega):p:=h
theorem ou{p:Prop}(h:p:=by assumption):p:=h
theorem hide{p:Prop}(h:p):Hid p:=h
theorem aA{p:Prop}(h:Hid p):p:=h
theorem tK{k:IntKind}{a b:Int}(h:a=b):Ending.returned (.int k a)=.returned (.int k b):=by rw[h]
theorem int_eq{k:IntKind}{a b:Int}(h:a=b):df k a=.int k b:=by rw[h]
theorem aDp{k:IntKind}{a b:Int}{y:ag}(h:a=b):Ending.returned (.tuple #[.int k a,y])=.returned (.tuple #[.int k b,y]):=by rw[h]
structure dm(S:Nat->Prop)(w w':ae):Prop where
 os:w'.os=w.os
 tape:w'.tape=w.tape
 output:w'.output=w.output
 size:w.heap.size<=w'.heap.size
 block:∀ k,k<w.heap.size->¬S k->w'.heap[k]?=w.heap[k]?
def Non:Nat->Prop:=fun _=>False
def Ext(w w':ae):Prop:=dm Non w w'
theorem dm.refl(S:Nat->Prop)(w:ae):dm S w w:=⟨rfl,rfl,rfl,dE _,fun _ _ _=>rfl⟩
theorem dm.trans'{S T U:Nat->Prop}{a b c:ae}(h:dm S a b)(k:dm T b c)(hS:∀ i,i<a.heap.size->S i->U i)(o:∀ i,i<a.heap.size->T i->U i):dm U a c:=
 ⟨
  k.os.trans h.os,k.tape.trans h.tape,k.output.trans h.output,mr h.size k.size,fun i f j=>
  (k.block i (Y1 f h.size) (fun l=>j (o i f l))).trans (h.block i f (fun m=>j (hS i f m)))⟩
theorem dm.trans{S:Nat->Prop}{a b c:ae}(h:dm S a b)(k:dm S b c):dm S a c:=h.trans' k (fun _ _ h=>h) (fun _ _ h=>h)
theorem dm.mono{S T:Nat->Prop}{a b:ae}(h:dm S a b)(hS:∀ i,i<a.heap.size->S i->T i):dm T a b:=⟨h.os,h.tape,h.output,h.size,fun i c j=>h.block i c (fun f=>j (hS i c f))⟩
theorem Ext.gy{S:Nat->Prop}{a b:ae}(h:Ext a b):dm S a b:=dm.mono h (fun _ _ h=>h.elim)
theorem dm.ext{S:Nat->Prop}{a b c:ae}(h:dm S a b)(k:Ext b c):dm S a c:=h.trans k.gy
theorem Ext.refl(w:ae):Ext w w:=dm.refl _ _
theorem Ext.trans{a b c:ae}(h:Ext a b)(k:Ext b c):Ext a c:=dm.trans h k
theorem dm.alloc{S:Nat->Prop}{a w:ae}(h:dm S a w)(o:Obj):dm S a (w.alloc o):=h.trans ⟨rfl,rfl,rfl,by simp,fun k b _=>Below.heap_alloc _ _ _ b⟩
theorem Ext.alloc{a w:ae}(h:Ext a w)(o:Obj):Ext a (w.alloc o):=dm.alloc h o
theorem dm.drew{S:Nat->Prop}{a w:ae}(h:dm S a w):dm S a w.drew:=⟨h.os,h.tape,h.output,h.size,h.block⟩
theorem Ext.drew{a w:ae}(h:Ext a w):Ext a w.drew:=dm.drew h
theorem dm.drewN{S:Nat->Prop}{a w:ae}(h:dm S a w)(n:Nat):dm S a (w.drewN n):=⟨h.os,h.tape,h.output,h.size,h.block⟩
theorem Ext.drewN{a w:ae}(h:Ext a w)(n:Nat):Ext a (w.drewN n):=dm.drewN h n
theorem dm.setCell{S:Nat->Prop}{a w:ae}(h:dm S a w){p:ry}(c:S p.block\/a.heap.size<=p.block)(u:ag):dm S a (w.setCell p u):=⟨h.os,h.tape,h.output,by simpa[aEJ] using h.size,fun k f b=>(Below.heap_setCell _ _ _ _ (by rintro rfl;exact c.elim b (fun h=>by omega))).trans (h.block k f b)⟩
theorem Ext.setCell{a w:ae}(h:Ext a w){p:ry}(b:a.heap.size<=p.block)(u:ag):Ext a (w.setCell p u):=dm.setCell h (.inr b) u
theorem dm.grown{S:Nat->Prop}{a w w':ae}{b:Option Nat}(h:dm S a w)(c:w.grownBy w' b)(hr:∀ k,b=some k->S k\/a.heap.size<=k):dm S a w':=
 ⟨
  c.os.trans h.os,c.tape.trans h.tape,c.output.trans h.output,mr h.size c.size,fun k i f=>
  (c.block k (Y1 i h.size) (fun e=>(hr k e.symm).elim f (fun h=>by omega))).trans (h.block k i f)⟩
theorem Ext.grown{a w w':ae}{b:Option Nat}(h:Ext a w)(f:w.grownBy w' b)(hr:∀ k,b=some k->a.heap.size<=k):Ext a w':=dm.grown h f (fun k c=>.inr (hr k c))
theorem Ext.of_below{w w':ae}(h:Below w.heap.size w w'):Ext w w':=⟨h.os,h.tape,h.output,h.size,fun k b _=>h.block k b⟩
theorem Ext.below{w w':ae}(h:Ext w w'):Below w.heap.size w w':=⟨h.os,h.tape,h.output,h.size,fun k b=>h.block k b (fun h=>h)⟩
theorem dm.cell{S:Nat->Prop}{w w':ae}(h:dm S w w'){p:ry}(b:p.block<w.heap.size)(hn:¬S p.block):w'.cell? p=w.cell? p:=aEY (w:=w) (h.block p.block b hn)
theorem dm.frozen{S:Nat->Prop}{w w':ae}(h:dm S w w'){p:ry}(b:p.block<w.heap.size)(hn:¬S p.block):w'.frozen? p=w.frozen? p:=World.frozen?_of_block (w:=w) (h.block p.block b hn)
theorem lt_of_cell{w:ae}{p:ry}{v:ag}(h:w.cell? p=some v):p.block<w.heap.size:=World.block_lt_of_cell? w p h
theorem Ext.j_{w w':ae}(h:Ext w w'){p:ry}{v:ag}(b:w.cell? p=some v):w'.cell? p=some v:=(dm.cell h (lt_of_cell b) (fun h=>h)).trans b
theorem dm.j_{S:Nat->Prop}{w w':ae}(h:dm S w w'){p:ry}{v:ag}(b:w.cell? p=some v)(hn:¬S p.block):w'.cell? p=some v:=(dm.cell h (lt_of_cell b) hn).trans b
theorem dm.rq{S:Nat->Prop}{w w':ae}(h:dm S w w'){p:ry}(b:w.frozen? p=false)(hl:p.block<w.heap.size)(hn:¬S p.block):w'.frozen? p=false:=(dm.frozen h hl hn).trans b
theorem Ext.rq{w w':ae}(h:Ext w w'){p:ry}(b:w.frozen? p=false)(hl:p.block<w.heap.size):w'.frozen? p=false:=(dm.frozen h hl (fun h=>h)).trans b
theorem lt_of_heap{w:ae}{k:Nat}{o:Obj}(h:w.heap[k]?=some o):k<w.heap.size:=(Array.getElem?_eq_some_iff.1 h).1
theorem dm.blk{S:Nat->Prop}{w w':ae}(h:dm S w w'){k:Nat}{o:Obj}(b:w.heap[k]?=some o)(hn:¬S k):w'.heap[k]?=some o:=(h.block k (lt_of_heap b) hn).trans b
theorem Ext.blk{w w':ae}(h:Ext w w'){k:Nat}{o:Obj}(b:w.heap[k]?=some o):w'.heap[k]?=some o:=dm.blk h b (fun h=>h)
theorem Ext.size'{w w':ae}(h:Ext w w'):w.heap.size<=w'.heap.size:=dm.size h
theorem Ext.rules{w w':ae}(h:Ext w w'):(∀ b o,b<w.heap.size->w'.cell? ⟨b,o,none⟩=w.cell? ⟨b,o,none⟩)/\(∀ b o,b<w.heap.size->w'.frozen? ⟨b,o,none⟩=w.frozen? ⟨b,o,none⟩):=⟨fun b o c=>dm.cell (p:=⟨b,o,none⟩) h c (fun h=>h),fun b o c=>dm.frozen (p:=⟨b,o,none⟩) h c (fun h=>h)⟩
def dh(w:ae)(g:Nat)(t:bu)(cs:Array ag):Prop:=w.heap[g]?=some (.cells cs t (0,0))
section
variable {w w':ae} {g:Nat} {t:bu} {cs:Array ag}
theorem dh.lt(h:dh w g t cs):g<w.heap.size:=lt_of_heap h
theorem dh.cell(h:dh w g t cs)(i:Nat):w.cell? ⟨g,i,none⟩=cs[i]?:=cell_of_row w g i cs t (0,0) h
theorem dh.frozen(h:dh w g t cs)(i:Nat):w.frozen? ⟨g,i,none⟩=false:=by unfold dh at h;simp[aEK,h]
theorem dh.new(w:ae)(t:bu)(cs:Array ag):dh (w.alloc (.cells cs t)) w.heap.size t cs:=aBp w _
theorem dh.new'(w:ae)(t:bu)(cs:Array ag){g:Nat}(b:g=w.heap.size):dh (w.alloc (.cells cs t)) g t cs:=by subst b;exact aBp w _
theorem dh.drew(h:dh w g t cs):dh w.drew g t cs:=h
theorem dh.drewN(h:dh w g t cs)(n:Nat):dh (w.drewN n) g t cs:=h
theorem dh.alloc(h:dh w g t cs)(o:Obj):dh (w.alloc o) g t cs:=(Below.heap_alloc w o g h.lt).trans h
theorem dh.vk(h:dh w g t cs)(i:Nat)(u:ag):dh (w.setCell ⟨g,i,none⟩ u) g t (cs.setIfInBounds i u):=by unfold dh at h ⊢;simp[aEJ,aFL,h]
theorem dh.far(h:dh w g t cs){p:ry}(b:g≠p.block)(u:ag):dh (w.setCell p u) g t cs:=(Below.heap_setCell w p u g b).trans h
theorem dh.gy{S:Nat->Prop}(h:dh w g t cs)(hc:dm S w w')(hn:¬S g):dh w' g t cs:=dm.blk hc h hn
theorem dh.AO{a:ag}(h:dh w g t #[a]):w.cell? ⟨g,0,none⟩=some a/\(∀ i,w.frozen? ⟨g,i,none⟩=false)/\g<w.heap.size:=⟨h.cell 0,h.frozen,h.lt⟩
theorem dh.ext(h:dh w g t cs)(hc:Ext w w'):dh w' g t cs:=Ext.blk hc h
end
def held(w:ae)(p:ry):ag:=(w.cell? p).getD dC
theorem Qy{w:ae}{p:ry}{v:ag}(h:w.cell? p=some v):held w p=v:=by unfold held;rw[h];rfl
theorem aHj{w:ae}{p:ry}{v:ag}(h:w.cell? p=some v):w.cell? p=some (held w p):=by rw[Qy h];exact h
theorem qW(a:ry)(n:Nat):(a.add n).block=a.block:=by unfold Addr.add;split<;>rfl
theorem bEf(a:ry)(i j:Nat):(a.add i).add j=a.add (i+j):=by
 unfold Addr.add
 by_cases c:i=0<;>by_cases b:j=0<;>simp[c,b,YM]
theorem add_lit(b o n:Nat):(⟨b,o,none⟩:ry).add n=⟨b,o+n,none⟩:=by unfold Addr.add;split<;>simp_all
def Reads(w:ae)(size:Nat)(v:ag)(n:Nat)(xs:List ag):Prop:=xs.length=n*size/\∃ A c,v=.slice A n c/\n<=c/\c<=uC/\(0<n->∃ b o,A=some ⟨b,o,none⟩/\∀ j u,xs[j]?=some u->w.cell? ⟨b,o+j,none⟩=some u)
section
variable {w w':ae} {size n:Nat} {v:ag} {xs:List ag}
theorem Reads.nil(w:ae)(size:Nat):Reads w size (.slice none 0 0) 0 []:=⟨by simp,none,0,rfl,dE _,x8 _,fun h=>absurd h (by omega)⟩
theorem Reads.keep(h:Reads w size v n xs)(k:∀ p u,w.cell? p=some u->w'.cell? p=some u):Reads w' size v n xs:=by obtain⟨y,A,c,rfl,x,q,m⟩:=h;refine⟨y,A,c,rfl,x,q,fun i=>?_⟩;obtain⟨b,o,rfl,l⟩:=m i;exact⟨b,o,rfl,fun j u f=>k _ _ (l j u f)⟩
theorem Reads.ext(h:Reads w size v n xs)(b:Ext w w'):Reads w' size v n xs:=h.keep (fun _ _ c=>Ext.j_ b c)
theorem Reads.lw{b:Nat}{e:bu}(h:w.ownsRow b e size v n xs):Reads w size v n xs:=by
 refine⟨h.1,?_⟩;rcases h.2 with⟨rfl,rfl⟩|⟨g,cap,cur,rfl,o,m,f,i,l,c⟩
 exact⟨none,0,rfl,dE _,x8 _,fun h=>absurd h (by omega)⟩;refine⟨_,cap,rfl,f,i,fun _=>⟨g,0,rfl,fun j u k=>?_⟩⟩;have:=h.cells (g:=g) rfl j u k;rwa [add_lit] at this
end
section
variable {w w':ae} {size n:Nat} {v:ag} {xs:List ag}
theorem Reads.gy{S:Nat->Prop}(h:Reads w size v n xs)(l:dm S w w')(hS:∀ k,0<n->v.ownBlock=some k->¬S k):Reads w' size v n xs:=by obtain⟨y,A,c,rfl,x,q,p⟩:=h;refine⟨y,A,c,rfl,x,q,fun f=>?_⟩;obtain⟨b,o,rfl,m⟩:=p f;exact⟨b,o,rfl,fun j u i=>dm.j_ l (m j u i) (hS b f rfl)⟩
theorem Reads.DV{k:Nat}(h:Reads w 1 v n xs)(p:k<n):∃ b o c u,v=.slice (some ⟨b,o,none⟩) n c/\n<=c/\c<=uC/\b<w.heap.size/\xs[k]?=some u/\w.cell? ⟨b,o+k,none⟩=some u:=by
 obtain⟨q,A,c,rfl,m,l,j⟩:=h;obtain⟨b,o,rfl,i⟩:=j (by omega);have f:k<xs.length:=by omega
 have:=i k _ (aBx f);exact⟨b,o,c,xs[k],rfl,m,l,lt_of_cell this,aBx f,this⟩
theorem Reads.at2{k:Nat}(h:Reads w 2 v n xs)(z:k<n):∃ b o c j i,v=.slice (some ⟨b,o,none⟩) n c/\n<=c/\c<=uC/\b<w.heap.size/\xs[k*2]?=some j/\xs[k*2+1]?=some i /\
  w.cell? ⟨b,o+k*2,none⟩=some j/\w.cell? ⟨b,o+k*2+1,none⟩=some i:=by
 obtain⟨C,A,c,rfl,y,x,u⟩:=h;obtain⟨b,o,rfl,m⟩:=u (by omega);have l:k*2<xs.length:=by omega
 have f:k*2+1<xs.length:=by omega
 have q:=m (k*2) _ (aBx l);have p:=m (k*2+1) _ (aBx f);exact⟨b,o,c,_,_,rfl,y,x,lt_of_cell q,aBx l,aBx f,q,by rw[<-YM] at p;exact p⟩
theorem Reads.Bq(h:Reads w size v n xs)(f:0<size)(hn:0<n):∀ k,v.ownBlock=some k->k<w.heap.size:=by
 obtain⟨p,B,c,rfl,u,q,m⟩:=h;obtain⟨b,o,rfl,l⟩:=m hn;intro k j;cases j;have i:0<xs.length:=by rw[p];exact Nat.mul_pos hn f
 exact lt_of_cell (l 0 xs[0] (aBx i))
theorem Reads.zn(h:Reads w size v n xs):n<=uC:=by obtain⟨j,A,c,rfl,i,f,b⟩:=h;omega
end
theorem Reads.new(w:ae)(cs:Array ag)(e:bu)(size n c:Nat)(xs:List ag)(f:xs.length=n*size)(hc:n<=c)(k:c<=uC)(i:cs.toList.take xs.length=xs) :
  Reads (w.alloc (.cells cs e)) size (.slice (some ⟨w.heap.size,0,none⟩) n c) n xs:=by
 refine⟨f,_,c,rfl,hc,k,fun _=>⟨w.heap.size,0,rfl,fun j u b=>?_⟩⟩;have l:j<xs.length:=by rcases Y6 j xs.length with h|h;exact h;rw[GM h] at b;cases b
 rw[lL,World.cell?_alloc_new];rw[<-i,xe,if_pos l] at b;simpa using b
theorem Reads.uo(w:ae)(u:ag)(e:bu):Reads (w.alloc (.cells #[u] e)) 1 (.slice (some ⟨w.heap.size,0,none⟩) 1 1) 1 [u]:=Reads.new w #[u] e 1 1 1 [u] rfl (dE _) (by unfold uC;omega) rfl
structure yc(P:gp)(t e:bu)(size bytes:Nat):Prop where
 und:P.underlying t=some (.slice e)
 info:∃ (i:TypeInfo) (z:ag),P.info? e=some i/\i.zero=some z/\i.size=size/\i.bytes=bytes/\z.cells.size=size
 pos:0<size
 bpos:0<bytes
theorem yc.mk'{P:gp}{t e:bu}{z:ag}{size bytes:Nat}(c:P.underlying t=some (.slice e))(h:(P.info? e).map (fun i=>(i.zero,i.size,i.bytes))=some (some z,size,bytes))(b:z.cells.size=size)(h0:0<size)(hb:0<bytes):yc P t e size bytes:=by obtain⟨i,f,l,k,j⟩:=info_parts h;exact⟨c,⟨i,z,f,l,k,j,b⟩,h0,hb⟩
def dO(xs:List ag):Prop:=∀ u∈xs,u.oneCell'=true
theorem dO.map{α:Type}{f:α->ag}(c:∀ a,(f a).oneCell'=true)(l:List α):dO (l.map f):=by intro u b;obtain⟨a,_,rfl⟩:=List.mem_map.1 b;exact c a
theorem dO.one{u:ag}(h:u.oneCell'=true):dO [u]:=by intro x b;simp at b;subst b;exact h
theorem gB{w w':ae}{b:Nat}{e:bu}{size:Nat}{v:ag}{n:Nat}{xs:List ag}{S:Nat->Prop}(h:w.ownsRow b e size v n xs)(hc:dm S w w')(hS:∀ k,v.ownBlock=some k->¬S k):w'.ownsRow b e size v n xs:=by refine⟨h.1,?_⟩;rcases h.2 with i|⟨g,cap,cur,rfl,j,f,c⟩;exact .inl i;exact .inr ⟨g,cap,cur,rfl,j,dm.blk hc f (hS g rfl),c⟩
theorem bP{w w':ae}{b:Nat}{e:bu}{size:Nat}{v:ag}{n:Nat}{xs:List ag}(h:w.ownsRow b e size v n xs)(hc:Ext w w'):w'.ownsRow b e size v n xs:=gB h hc (fun _ _ h=>h)
theorem uI{g n c b:Nat}(h:g≠b):¬(Y2 (some ⟨g,0,none⟩) n c).ownBlock=some b:=by intro e;simp only[Xr,Option.some.injEq] at e;exact h e
theorem aAs(w:ae)(B:Nat)(e:bu)(size:Nat)(hb:B<=w.heap.size):(w.alloc (.cells #[] e)).ownsRow B e size (.slice (some ⟨w.heap.size,0,none⟩) 0 0) 0 []:=⟨by simp,.inr ⟨w.heap.size,0,#[],rfl,hb,aBp w _,dE _,x8 _,by simp,by simp⟩⟩
section
variable {P:gp} {w:ae}
theorem PG{B:Nat}{t ty e:bu}{size bytes:Nat}(T:yc P t e size bytes){v:ag}{n:Nat}{xs:List ag}(l:w.ownsRow B e size v n xs)
  {u:ag} {m:Nat} {f:List ag} (hr:Reads w size u m f) (h1:dO f) (x:(n+m)*bytes<=140737488355328) (C:B<=w.heap.size) :
  ∃ E w',(Builtin.append_ #[t,t] ty #[v,u]).run P w=.ok E w'/\w'.ownsRow B e size E (n+m) (xs++f)/\dm (fun k=>v.ownBlock=some k) w w' /\
   (E.ownBlock=v.ownBlock\/∃ g,E.ownBlock=some g/\w.heap.size<=g/\g<w'.heap.size):=by
 obtain⟨L,⟨i,z,U,hz,y,V,K⟩,N,W⟩:=T;obtain⟨Q,A,c,rfl,a0,a1,p⟩:=hr;have Y:n+m<=uC:=by have:(n+m)*1<=(n+m)*bytes:=Nat.mul_le_mul_left _ W;unfold uC;omega
 rcases A with _|ad
 have hm:m=0:=by rcases Yi m with D|D;exact D;obtain⟨b,o,h,_⟩:=p D;cases h
 subst hm;have I:f=[]:=aDI (by simpa using Q);subst I;refine⟨v,w,?_,by simpa using l,dm.refl _ _,.inl rfl⟩;rcases l.2 with⟨rfl,rfl⟩|⟨g,cap,cur,rfl,_,_,O,_⟩;simp[Builtin.append_,zg L,sizeOf,typeInfo,U,Builtin.lenOf,Builtin.firstCells];simp[Builtin.append_,zg L,sizeOf,typeInfo,U,Builtin.lenOf,Builtin.firstCells,O,storeCells]
 have q:∀ j u,f[j]?=some u->w.cell? (ad.add j)=some u:=by
  intro j u Z;rcases Yi m with D|D;subst D;have I:f=[]:=aDI (by simpa using Q);subst I;simp at Z;obtain⟨b,o,h,hc⟩:=p D
  injection h with h
  subst h;rw[add_lit];exact hc j u Z
 obtain⟨E,w',H,h2,J,_,G⟩:=run_append_own_at (P:=P) w B t ty e i z size bytes L U hz y V K N v n xs l ad m c f Q q h1 Y x C;refine⟨E,w',H,h2,⟨J.os,J.tape,J.output,J.size,fun k hk I=>J.block k hk (fun e=>I e.symm)⟩,?_⟩;rcases G with G|G;exact .inl G;exact .inr ⟨_,G,dE _,(h2.lt _ G).2⟩
theorem oN{w:ae}{B:Nat}{e:bu}{size:Nat}{v:ag}{n:Nat}{xs:List ag}(h:w.ownsRow B e size v n xs):∃ A c,v=.slice A n c:=by
 rcases h.2 with⟨rfl,rfl⟩|⟨g,cap,cur,rfl,_⟩
 exact⟨_,_,rfl⟩;exact⟨_,_,rfl⟩
theorem aWw{o:gz}{a:Act}{K:Act->ae->Prop}{Q:uB->Act->ae->Prop}{s x:nz}{t:bu}
  (z:o.op=.call { callee:=.builtin .append,args:=#[s,x],argTypes:=#[t,t] })
  {B:Nat} {e:bu} {size bytes:Nat} (T:yc P t e size bytes) {v:ag} (hs:a.eval s=v) {n:Nat} {xs:List ag} (p:w.ownsRow B e size v n xs)
  {u:ag} (y:a.eval x=u) {m:Nat} {b:List ag} (hr:Reads w size u m b) (h1:dO b) (c:(n+m)*bytes<=140737488355328) (f:B<=w.heap.size)
  (h:∀ (j:Option ry) (i:Nat) w',w'.ownsRow B e size (.slice j (n+m) i) (n+m) (xs++b)->dm (fun k=>v.ownBlock=some k) w w'->((Y2 j (n+m) i).ownBlock=v.ownBlock\/∃ g,(Y2 j (n+m) i).ownBlock=some g/\w.heap.size<=g/\g<w'.heap.size)->K (a.put o.dst (.slice j (n+m) i)) w'):o.wp P a w K Q:=by
 obtain⟨D,w',l,q,C,A⟩:=PG (P:=P) (ty:=o.type) T p hr h1 c f;unfold Oper.wp execOp;simp only[z,resolve,invoke,builtin,Sem.run_bind,Sem.run_pure,Result.andThen_ok,List.map_toArray,List.map_cons,List.map_nil,hs,y,l];obtain⟨j,i,rfl⟩:=oN q;exact h j i w' q C A
theorem aLa{ops:Array gz}{o:gz}{a:Act}{K:Act->ae->Prop}{Q:uB->Act->ae->Prop}{E:Prop}(p:o.guard=none){s x:nz}{t:bu}
  (z:o.op=.call { callee:=.builtin .append,args:=#[s,x],argTypes:=#[t,t] })
  {B:Nat} {e:bu} {size bytes:Nat} (T:yc P t e size bytes) {v:ag} (hs:a.eval s=v) {n:Nat} {xs:List ag} (i:w.ownsRow B e size v n xs)
  {u:ag} (q:a.eval x=u) {m:Nat} {b:List ag} (hr:Reads w size u m b) (h1:dO b) (c:(n+m)*bytes<=140737488355328) (f:B<=w.heap.size)
  (h:∀ (l:Option ry) (j:Nat) w',w'.ownsRow B e size (.slice l (n+m) j) (n+m) (xs++b)->dm (fun k=>v.ownBlock=some k) w w'->((Y2 l (n+m) j).ownBlock=v.ownBlock\/∃ g,(Y2 l (n+m) j).ownBlock=some g/\w.heap.size<=g/\g<w'.heap.size)->K (a.put o.dst (.slice l (n+m) j)) w') :
  if Region.wanted o (Xx ops a.tmps)=true then Oper.wp P o a w K Q else E:=by
 have y:Region.wanted o (Xx ops a.tmps)=true:=by simp[Region.wanted,p]
 rw[if_pos y];exact aWw z T hs i q hr h1 c f h
theorem bQ{ops:Array gz}{rest:List gz}{o:gz}{a:Act}{Q:uB->Act->ae->Prop}(p:o.guard=none){s x:nz}{t:bu}
  (y:o.op=.call { callee:=.builtin .append,args:=#[s,x],argTypes:=#[t,t] })
  {B:Nat} {e:bu} {size bytes:Nat} (T:yc P t e size bytes) {v:ag} (hs:a.eval s=v) {n:Nat} {xs:List ag} (l:w.ownsRow B e size v n xs)
  {u:ag} (q:a.eval x=u) {m:Nat} {b:List ag} (hr:Reads w size u m b) (h1:dO b) (c:(n+m)*bytes<=140737488355328) (f:B<=w.heap.size)
  (h:∀ (j:Option ry) (i:Nat) w',w'.ownsRow B e size (.slice j (n+m) i) (n+m) (xs++b)->dm (fun k=>v.ownBlock=some k) w w'->((Y2 j (n+m) i).ownBlock=v.ownBlock\/∃ g,(Y2 j (n+m) i).ownBlock=some g/\w.heap.size<=g/\g<w'.heap.size)->YA P ops Q rest (a.put o.dst (.slice j (n+m) i)) w'):YA P ops Q (o::rest) a w:=
 wpList_plain p fun _ z=>aWw y T hs l q hr h1 c f fun j i w' D C A=>z _ _ (h j i w' D C A)
end
theorem aPx{w:ae}{B:Nat}{e:bu}{v:ag}{n k:Nat}{xs:List ag}(h:w.ownsRow B e 1 v n xs)(q:k<n) :
  ∃ g cap u,v=.slice (some ⟨g,0,none⟩) n cap/\B<=g/\g<w.heap.size/\xs[k]?=some u/\w.cell? ⟨g,k,none⟩=some u/\∀ i,w.frozen? ⟨g,i,none⟩=false:=by
 have p:=h.1;rcases h.2 with⟨rfl,rfl⟩|⟨g,cap,cur,rfl,o,c,j,m,l,b⟩;omega;have f:=h.cells (g:=g) rfl k xs[k] (aBx (by omega));rw[add_lit,lL] at f
 exact⟨g,cap,xs[k],rfl,o,lt_of_heap c,aBx (by omega),f,fun i=>by simp[aEK,c]⟩
theorem Q8{w:ae}{B:Nat}{e:bu}{g n cap:Nat}{xs:List ag}(h:w.ownsRow B e 1 (.slice (some ⟨g,0,none⟩) n cap) n xs)(k:Nat)(_hk:k<n)(u:ag) :
  (w.setCell ⟨g,k,none⟩ u).ownsRow B e 1 (.slice (some ⟨g,0,none⟩) n cap) n (xs.set k u):=by
 have m:=h.1;refine⟨by rw[List.length_set];exact m,?_⟩;rcases h.2 with⟨e,_⟩|⟨q,j,cur,l,p,o,c,i,f,b⟩;cases e;cases l;refine .inr ⟨g,cap,cur.setIfInBounds k u,rfl,p,?_,c,i,by simpa using f,?_⟩;simp[aEJ,aFL,o];rw[<-b,aEZ,List.take_set]
theorem own_ne{w:ae}{B q:Nat}{e l:bu}{size size' n m:Nat}{v k:ag}{xs f:List ag}(h:w.ownsRow B e size v n xs)(p:w.ownsRow q l size' k m f)(i:e≠l){g:Nat}(j:v.ownBlock=some g):k.ownBlock≠some g:=by
 intro c;rcases h.2 with⟨rfl,_⟩|⟨z,C,x,rfl,_,o,_⟩;simp[Xr] at j;rcases p.2 with⟨rfl,_⟩|⟨y,A,u,rfl,_,b,_⟩;simp[Xr] at c;simp[Xr] at j c;subst j c;rw[o] at b
 injection b with b
 injection b with _ ht
 exact i ht
theorem rZ{w:ae}{B:Nat}{e t:bu}{size n g:Nat}{v:ag}{xs:List ag}{cs:Array ag}(h:w.ownsRow B e size v n xs)(b:dh w g t cs)(c:e≠t):v.ownBlock≠some g:=by
 rcases h.2 with⟨rfl,_⟩|⟨j,cap,cur,rfl,_,f,_⟩;simp[Xr];intro i
 have:j=g:=by simpa[Xr] using i
 subst this;unfold dh at b;rw[f] at b;injection b with b
 injection b with _ ht
 exact c ht
structure Acc where
 kind:Int
 jy:Int
 cell:Int
 bytes:ByteArray
structure jh where
 val:Int
 bytes:ByteArray
def Acc.v(a:Acc):ag:=.agg #[.int .i64 a.kind,.int .i64 a.jy,.int .i64 a.cell,.string a.bytes]
def jh.v(r:jh):ag:=.agg #[.int .i64 r.val,.string r.bytes]
def aH:ByteArray:={ data:=#[] }
inductive ah(α:Type):Type where
 |ret (a:α)
 |ask (a:Acc) (k:jh->ah α)
def ah.bind{α b:Type}:ah α->(α->ah b)->ah b
 |.ret a,f=>f a|.ask a k,f=>.ask a fun r=>(k r).bind f
theorem ah.Nl{α b:Type}(a:α)(f:α->ah b):(ah.ret a).bind f=f a:=rfl
theorem ah.bind_assoc{α b c:Type}(p:ah α)(f:α->ah b)(g:b->ah c):(p.bind f).bind g=p.bind fun a=>(f a).bind g:=by
 induction p with
 |ret a=>rfl|ask a k h=>simp only[ah.bind];congr 1;funext r;exact h r
def ah.run{α σ ε:Type}(d:Acc->σ->EStateM.Result ε σ jh):ah α->σ->EStateM.Result ε σ α
 |.ret a,s=>.ok a s|.ask a k,s=>match d a s with
  |.ok r b=>(k r).run d b|.error e b=>.error e b
def ah.All{α:Type}(R:α->Prop):ah α->Prop
 |.ret a=>R a|.ask _ k=>∀ r,ah.All R (k r)
theorem ah.All.zo{α:Type}(p:ah α):ah.All (fun _=>True) p:=by
 induction p with
 |ret a=>trivial|ask a k b=>exact fun r=>b r
theorem ah.All.mono{α:Type}{R b:α->Prop}{p:ah α}(h:ah.All R p)(hr:∀ a,R a->b a):ah.All b p:=by
 induction p with
 |ret a=>exact hr a h|ask a k c=>exact fun r=>c r (h r)
theorem ah.All.bind{α b:Type}{R:α->Prop}{c:b->Prop}{p:ah α}{f:α->ah b}(h:ah.All R p)(j:∀ a,R a->ah.All c (f a)):ah.All c (p.bind f):=by
 induction p with
 |ret a=>exact j a h|ask a k i=>exact fun r=>i r (h r)
def replay(b:List jh)(a:Acc)(i:Nat):EStateM.Result Acc Nat jh:=
 match b[i]? with
 |some r=>.ok r (i+1)|none=>.error a i
def jh.cells(r:jh):List ag:=[.int .i64 r.val,.string r.bytes]
def logCells(b:List jh):List ag:=b.flatMap jh.cells
theorem aCu(b:List jh):∀ i,(logCells b)[i*2]?=(b[i]?).map (fun r=>df .i64 r.val)/\(logCells b)[i*2+1]?=(b[i]?).map (fun r=>Value.string r.bytes):=by
 unfold logCells
 induction b with
 |nil=>intro i;simp| cons r l c=>
  intro i;cases i with
  |zero=>simp[jh.cells]|succ i=>have:=c i;rw[List.flatMap_cons];simp only[jh.cells,Yv];rw[show (i+1)*2=i*2+1+1 from by omega];simpa using this
def nK{α σ ε:Type}(Inv:σ->(Nat->Prop)->ae->Prop)(S X:Nat->Prop)(pan:ε->ag)(w:ae)(val:α->ag)(r:EStateM.Result ε σ α)(e:Ending)(w':ae):Prop:=
 match r with
 |.ok a s=>e=.returned (val a)/\Inv s X w'/\dm S w w'|.error er s=>e=.panicked [{ v:=pan er,recovered:=false }]/\Inv s X w'/\dm S w w'
section
variable {α σ ε:Type} {Inv:σ->(Nat->Prop)->ae->Prop} {S X:Nat->Prop} {pan:ε->ag} {w w':ae} {val:α->ag} {r:EStateM.Result ε σ α} {e:Ending} {a:α} {s:σ} {er:ε}
theorem nK.ok(hr:r=.ok a s)(c:e=.returned (val a))(b:Inv s X w')(hc:dm S w w'):nK Inv S X pan w val r e w':=by subst hr;exact⟨c,b,hc⟩
theorem nK.err(hr:r=.error er s)(c:e=.panicked [{ v:=pan er,recovered:=false }])(b:Inv s X w')(hc:dm S w w'):nK Inv S X pan w val r e w':=by subst hr;exact⟨c,b,hc⟩
theorem nK.aBC(hr:r=.ok a s)(h:nK Inv S X pan w val r e w'):e=.returned (val a)/\Inv s X w'/\dm S w w':=by subst hr;exact h
theorem nK.VL(hr:r=.error er s)(h:nK Inv S X pan w val r e w'):e=.panicked [{ v:=pan er,recovered:=false }]/\Inv s X w'/\dm S w w':=by subst hr;exact h
end
section
variable {P:gp} {F:FuncId} {caps:Array ag} {σ ε:Type} {d:Acc->σ->EStateM.Result ε σ jh} {pan:ε->ag} {Inv:σ->(Nat->Prop)->ae->Prop} {S X:Nat->Prop}
 {B:Nat} {ty:bu} {size:Nat} {s:σ} {v:ag} {n:Nat} {xs:List ag} {w w':ae}
end
end
def gQ(x:UInt32)(n:UInt32):UInt32:=(x >>> n) ||| (x <<< (32-n))
def zk:List UInt32:=[
 0x428a2f98,0x71374491,0xb5c0fbcf,0xe9b5dba5,0x3956c25b,0x59f111f1,0x923f82a4,0xab1c5ed5,
 0xd807aa98,0x12835b01,0x243185be,0x550c7dc3,0x72be5d74,0x80deb1fe,0x9bdc06a7,0xc19bf174,
 0xe49b69c1,0xefbe4786,0x0fc19dc6,0x240ca1cc,0x2de92c6f,0x4a7484aa,0x5cb0a9dc,0x76f988da,
 0x983e5152,0xa831c66d,0xb00327c8,0xbf597fc7,0xc6e00bf3,0xd5a79147,0x06ca6351,0x14292967,
 0x27b70a85,0x2e1b2138,0x4d2c6dfc,0x53380d13,0x650a7354,0x766a0abb,0x81c2c92e,0x92722c85,
 0xa2bfe8a1,0xa81a664b,0xc24b8b70,0xc76c51a3,0xd192e819,0xd6990624,0xf40e3585,0x106aa070,
 0x19a4c116,0x1e376c08,0x2748774c,0x34b0bcb5,0x391c0cb3,0x4ed8aa4a,0x5b9cca4f,0x682e6ff3,
 0x748f82ee,0x78a5636f,0x84c87814,0x8cc70208,0x90befffa,0xa4506ceb,0xbef9a3f7,0xc67178f2]
def oL:List UInt32:=[0x6a09e667,0xbb67ae85,0x3c6ef372,0xa54ff53a,0x510e527f,0x9b05688c,0x1f83d9ab,0x5be0cd19]
def qX(l:List UInt8):UInt32:=l.foldl (fun n b=>(n <<< 8) ||| b.toUInt32) 0
def vV(w:List UInt32):UInt32:=
 let i:=w.length;let x:=w.getD (i-15) 0;let y:=w.getD (i-2) 0
 w.getD (i-16) 0+((gQ x 7 ^^^ gQ x 18) ^^^ (x >>> 3))+w.getD (i-7) 0+((gQ y 17 ^^^ gQ y 19) ^^^ (y >>> 10))
def dP(b:List UInt8):Nat->List UInt32
 |0=>[]|i+1=>dP b i++[if i<16 then qX ((b.drop (4*i)).take 4) else vV (dP b i)]
def sched(b:List UInt8):List UInt32:=dP b 64
theorem iK(b:List UInt8)(i:Nat):(dP b i).length=i:=by induction i with
 |zero=>rfl|succ i a=>simp[dP,a]
def aAg(v:List UInt32)(k w:UInt32):List UInt32:=
 let a:=v.getD 0 0;let b:=v.getD 1 0;let c:=v.getD 2 0;let d:=v.getD 3 0;let e:=v.getD 4 0;let f:=v.getD 5 0;let g:=v.getD 6 0;let h:=v.getD 7 0;let t:=h+((gQ e 6 ^^^ gQ e 11) ^^^ gQ e 25)+((e &&& f) ^^^ (~~~e &&& g))+k+w;let u:=((gQ a 2 ^^^ gQ a 13) ^^^ gQ a 22)+(((a &&& b) ^^^ (a &&& c)) ^^^ (b &&& c))
 [t+u,a,b,c,d+t,e,f,g]
def bM(b:List UInt8)(v:List UInt32):Nat->List UInt32
 |0=>v|k+1=>aAg (bM b v k) (zk.getD k 0) ((sched b).getD k 0)
def aAf(b:List UInt8)(v:List UInt32):List UInt32:=bM b v 64
theorem kR(b:List UInt8)(v:List UInt32)(h:v.length=8)(k:Nat):(bM b v k).length=8:=by cases k with
 |zero=>exact h|succ k=>rfl
def mM(v:List UInt32)(b:List UInt8):List UInt32:=Ym (·+·) (aAf b v) v
def beBytes(n:Nat):Nat->List UInt8
 |0=>[]|k+1=>ww (n / 256 ^ k)::beBytes n k
def gX(m:List UInt8):List UInt8:=m++[128]++DD ((119-m.length % 64) % 64) 0++beBytes (8*m.length) 8
def oM:Nat->List UInt32->List UInt8->List UInt32
 |0,v,_=>v|n+1,v,m=>oM n (mM v (m.take 64)) (m.drop 64)
def sha(m:List UInt8):List UInt8:=(oM ((gX m).length / 64) oL (gX m)).flatMap fun w=>beBytes w.toNat 4
def Ag(a m:List UInt8):List UInt8:=
 let k:=if a.length > 64 then sha a else a
 let b:=fun (x:UInt8)=>(yf 64).map fun i=>k.getD i 0 ^^^ x
 sha (b 0x5c++sha (b 0x36++m))
def Ei(a m:List UInt8):List UInt8:=(Ag a m).take 16
section
theorem Ba(a:UInt32):0<=(a.toNat:Int)/\(a.toNat:Int)<4294967296:=by have:=a.toNat_lt;omega
theorem lt8(a:UInt8):0<=(a.toNat:Int)/\(a.toNat:Int)<256:=by have:=a.toNat_lt;omega
theorem Ee(a b:UInt32):bits BinOp.or xy (a.toNat:Int) (b.toNat:Int)=((a ||| b).toNat:Int):=by rw[u32_or _ _ (Ba a).1 (Ba a).2 (Ba b).1 (Ba b).2];simp
theorem OU(a b:UInt32):bits BinOp.and xy (a.toNat:Int) (b.toNat:Int)=((a &&& b).toNat:Int):=by rw[u32_and _ _ (Ba a).1 (Ba a).2 (Ba b).1 (Ba b).2];simp
theorem xW(a b:UInt32):bits BinOp.xor xy (a.toNat:Int) (b.toNat:Int)=((a ^^^ b).toNat:Int):=by rw[u32_xor _ _ (Ba a).1 (Ba a).2 (Ba b).1 (Ba b).2];simp
theorem add32(a b:UInt32):((a.toNat:Int)+(b.toNat:Int)) % 4294967296=((a+b).toNat:Int):=by rw[UInt32.toNat_add];omega
theorem Bi(a b:UInt8):bits BinOp.xor IntKind.u8 (a.toNat:Int) (b.toNat:Int)=((a ^^^ b).toNat:Int):=by rw[u8_xor _ _ (lt8 a).1 (lt8 a).2 (lt8 b).1 (lt8 b).2];simp
theorem bGa(a:UInt32)(n:Nat)(hn:n<32):(a.toNat:Int) / 2 ^ n=((a >>> YG n).toNat:Int):=by
 rw[UInt32.toNat_shiftRight,Nat.shiftRight_eq_div_pow];have:(YG n).toNat % 32=n:=by simp;omega
 rw[this];simp
theorem ZQ(a:UInt32)(n:Nat)(hn:n<32):(a.toNat:Int)*2 ^ n % 4294967296=((a <<< YG n).toNat:Int):=by
 rw[UInt32.toNat_shiftLeft,Nat.shiftLeft_eq];have:(YG n).toNat % 32=n:=by simp;omega
 rw[this];simp
theorem Ny(a b:UInt32):IntKind.u32.wrap ((a.toNat:Int)+(b.toNat:Int))=((a+b).toNat:Int):=by rw[IntKind.wrap_u32];exact add32 a b
theorem Tu(a:UInt32):bits BinOp.xor xy IntKind.u32.max (a.toNat:Int)=((~~~a).toNat:Int):=by rw[show IntKind.u32.max=(((-1:UInt32)).toNat:Int) from rfl,xW,UInt32.neg_one_xor]
def w32(x:UInt32):ag:=.int .u32 (x.toNat:Int)
theorem bIw(n:Nat)(hn:0<n)(a:n<32):bits BinOp.and IntKind.u64 (IntKind.u64.wrap (-(n:Int))) 31=((32-n:Nat):Int):=by
 have h:IntKind.u64.wrap (-(n:Int))=((18446744073709551616-n:Nat):Int):=by rw[IntKind.wrap_u64];omega
 rw[h,u64_and _ _ a_ a_ a_ a_];rw[Int.toNat_natCast,show (31:Int).toNat=2 ^ 5-1 from rfl,Nat.and_two_pow_sub_one_eq_mod];omega
theorem Uk(x:UInt32)(n:Nat)(hn:0<n)(a:n<32):bits BinOp.or xy ((x.toNat:Int)*2 ^ (32-n) % 4294967296) ((x.toNat:Int) / 2 ^ n)=((gQ x (YG n)).toNat:Int):=by
 rw[ZQ x (32-n) a_,bGa x n a,Ee];unfold gQ;have e:YG (32-n)=32-YG n:=by apply UInt32.toNat_inj.1;rw[UInt32.toNat_sub];simp;omega
 rw[e,UInt32.or_comm]
theorem I_(x:UInt32)(n:Nat)(w:ae)(hn:0<n)(a:n<32) :
  ik prog 206 #[.int .u32 (x.toNat:Int),.int .i64 (-(n:Int))] w fun e b=>e=.returned (.int .u32 ((gQ x (YG n)).toNat:Int))/\w=b:=by
 have c:=hide (Uk x n hn a);have d:=x.toNat_lt;have g:=bIw n hn a;have f:IntKind.u64.wrap (32-((32-n:Nat):Int))=(n:Int):=by rw[show (32:Int)-((32-n:Nat):Int)=(n:Int) by omega];exact IntWalk.u64_in _ a_
 go_enter func206,ntmps206
 go_wp2
 go_ret;exact⟨tK (aA c),rfl⟩
def vZ(x:UInt32)(ns:List Nat):UInt32:=ns.foldl (fun o n=>o ^^^ gQ x (YG n)) 0
theorem lW{a:Type}(l:List a)(k:Nat)(h:k<l.length):l.take (k+1)=l.take k++[l[k]]:=by rw[aDh,zH h];rfl
theorem aTx(x:UInt32)(ns:List Nat)(k:Nat)(h:k<ns.length):vZ x (ns.take (k+1))=vZ x (ns.take k) ^^^ gQ x (YG ns[k]):=by rw[lW ns k h];unfold vZ;rw[aEd];rfl
theorem aXn(x:UInt32)(ns:List Nat)(v:ag)(w:ae)(h:Reads w 1 v ns.length (ns.map fun n:Nat=>df .i64 (n:Int)))(hn:∀ n∈ns,0<n/\n<32) :
  ik prog 204 #[.int .u32 (x.toNat:Int),v] w fun e f=>e=.returned (.int .u32 ((vZ x ns).toNat:Int))/\w=f:=by
 have z:=hide h;have p:=h.zn;unfold uC at p;obtain⟨_,B,c,rfl,_,_,_⟩:=h
 go_enter func204,ntmps204
 go_wp2
 go_loop [5,10] (fun o i=>∃ k:Nat,k<=ns.length/\i=.int .i64 k/\o=.int .u32 ((vZ x (ns.take k)).toNat:Int)) (fun _ i=>ns.length-(intOf i).toNat)
 case atStart=>exact⟨0,x8 _,rfl,rfl⟩
 case round=>
  obtain⟨k,A,rfl,rfl⟩:=hrel;by_cases a:k<ns.length
  ·obtain⟨b,o,E,u,m,_,_,C,g,d⟩:=(aA z).DV a;cases m;rw[Xu,zH a] at g;cases g;obtain⟨l,j⟩:=hn _ (List.getElem_mem a);have t:=hide (aTx x ns k a);have r:=hide (xW (vZ x (ns.take k)) (gQ x (YG ns[k])));dsimp only at d;have y:=hide (fun w=>I_ x ns[k] w l j);generalize ns[k]=n at *;generalize vZ x (ns.take k)=q at *;have D:IntKind.i64.wrap (-(n:Int)) = -(n:Int):=IntWalk.i64_in _ a_
   go_wp2_with fail
   refine (aA y _).mono ?_;rintro e f ⟨rfl,rfl⟩
   go_wp2
   go_round
   case rel=>exact⟨k+1,by omega,by go_num,int_eq (by rw[aA t];exact aA r)⟩
   case measure=>simp[intOf];omega
  ·obtain rfl:k=ns.length:=by omega
   have s:=hide (show vZ x (ns.take ns.length)=vZ x ns by rw[aAe])
   go_wp2
   go_ret;exact⟨tK (by first|rfl|rw[aA s]),rfl⟩
structure Onto(w:ae)(v:ag)(w':ae)(v':ag):Prop where
 gy:dm (fun k=>v.ownBlock=some k) w w'
 own:v'.ownBlock=v.ownBlock\/∃ g,v'.ownBlock=some g/\w.heap.size<=g
theorem Onto.refl(w:ae)(v:ag):Onto w v w v:=⟨dm.refl _ _,.inl rfl⟩
theorem Onto.trans{a b c:ae}{u v x:ag}(h:Onto a u b v)(k:Onto b v c x):Onto a u c x:=by refine⟨h.gy.trans' k.gy (fun _ _ h=>h) (fun i j e=>?_),?_⟩;rcases h.own with d|⟨g,d,f⟩;rw[<-d];exact e;rw[d] at e;cases e;omega;rcases k.own with d|⟨g,d,f⟩;rw[d];exact h.own;exact .inr ⟨g,d,mr h.gy.size f⟩
theorem Onto.ext{a b c:ae}{u v:ag}(h:Onto a u b v)(k:Ext b c):Onto a u c v:=⟨h.gy.ext k,h.own⟩
theorem Onto.app{w w':ae}{v a:ag}(hc:dm (fun k=>v.ownBlock=some k) w w')(b:a.ownBlock=v.ownBlock\/∃ g,a.ownBlock=some g/\w.heap.size<=g/\g<w'.heap.size):Onto w v w' a:=⟨hc,b.imp id fun⟨g,d,c,_⟩=>⟨g,d,c⟩⟩
theorem Onto.D9{w0 w w':ae}{v a:ag}(h0:Ext w0 w)(h:Onto w v w' a)(b:∀ g,v.ownBlock=some g->w0.heap.size<=g):Ext w0 w':=h0.trans' h.gy (fun _ _ h=>h) (fun i c e=>by have:=b i e;omega)
def gq(b:UInt8):ag:=.int .u8 (b.toNat:Int)
theorem aWl(l:List UInt8)(k:Nat)(h:k<l.length):qX (l.take (k+1))=(qX (l.take k) <<< 8) ||| l[k].toUInt32:=by rw[lW l k h];unfold qX;rw[aEd];rfl
theorem aSb(b:UInt8):(b.toNat:Int)=(b.toUInt32.toNat:Int):=by simp
theorem KL(l:List UInt8)(v:ag)(w:ae)(h:Reads w 1 v l.length (l.map gq)) :
  ik prog 203 #[v] w fun e j=>e=.returned (.int .u32 ((qX l).toNat:Int))/\w=j:=by
 have s:=hide h;have n:=h.zn;unfold uC at n;obtain⟨_,B,c,rfl,_,_,_⟩:=h
 go_enter func203,ntmps203
 go_wp2
 go_loop [3,8] (fun o i=>∃ k:Nat,k<=l.length/\i=.int .i64 k/\o=.int .u32 ((qX (l.take k)).toNat:Int)) (fun _ i=>l.length-(intOf i).toNat)
 case atStart=>exact⟨0,x8 _,rfl,rfl⟩
 case round=>
  obtain⟨k,x,rfl,rfl⟩:=hrel;by_cases d:k<l.length
  ·obtain⟨b,o,C,u,m,_,_,y,g,f⟩:=(aA s).DV d;cases m;rw[Xu,zH d] at g;cases g;unfold gq at f;have r:=hide (aWl l k d);generalize l[k]=z at *;generalize qX (l.take k)=a at *;have t:=z.toNat_lt;have A:=a.toNat_lt;have p:=hide (show bits BinOp.or xy ((a.toNat:Int)*2 ^ 8 % 4294967296) (z.toNat:Int)=((a <<< 8 ||| z.toUInt32).toNat:Int) from by rw[ZQ a 8 a_,aSb,Ee];rfl)
   go_wp2
   go_round
   case rel=>exact⟨k+1,by omega,by go_num,int_eq (by rw[aA r];exact aA p)⟩
   case measure=>simp[intOf];omega
  ·obtain rfl:k=l.length:=by omega
   have q:=hide (show qX (l.take l.length)=qX l by rw[aAe])
   go_wp2
   go_ret;exact⟨tK (by first|rfl|rw[aA q]),rfl⟩
theorem fV:yc prog 74 5 1 1:=yc.mk' (z:=.int .u8 0) aj aj rfl a_ a_
theorem beBytes_length(n k:Nat):(beBytes n k).length=k:=by induction k with
 |zero=>rfl|succ k a=>unfold beBytes;simp[a]
theorem zU(n:Nat):∀ (many j:Nat),j<many->(beBytes n many)[j]?=some (ww (n / 256 ^ (many-1-j)))
 |0,j,h=>by omega|many+1,0,h=>by simp[beBytes]|many+1,j+1,h=>by rw[beBytes,Yv,zU n many j a_,show many+1-1-(j+1)=many-1-j from by omega]
theorem aDc(n many k:Nat)(h0:0<k)(a:k<=many):(beBytes n many).take (many-(k-1))=(beBytes n many).take (many-k)++[ww (n / 256 ^ (k-1))]:=by rw[show many-(k-1)=many-k+1 from by omega,aDh,zU n many (many-k) a_,show many-1-(many-k)=k-1 from by omega];rfl
theorem byte_of(n k:Nat):(n:Int) / 2 ^ (8*k) % 256=((ww (n / 256 ^ k)).toNat:Int):=by rw[show (2:Int) ^ (8*k)=((256 ^ k:Nat):Int) from by rw[Int.pow_mul];simp];simp
theorem bFq(v:ag)(m:Nat)(xs:List ag)(n:Nat)(many:Nat)(B:Nat)(w:ae)(h:w.ownsRow B 5 1 v m xs)(s:B<=w.heap.size)(y:m<=1000000000)(C:many<=8) :
  ik prog 200 #[v,.int .u64 (n:Int),.int .i64 (many:Int)] w fun e g=>∃ c,e=.returned c/\g.ownsRow B 5 1 c (m+many) (xs++(beBytes n many).map gq)/\Onto w v g c:=by
 have u:=hide h;clear h
 go_enter func200,ntmps200
 go_wp2
 go_loopw [0,7] (fun b i wr=>∃ (k:Nat),k<=many/\i=.int .i64 ((k:Int)-1)/\Hid (wr.ownsRow B 5 1 b (m+(many-k)) (xs++((beBytes n many).take (many-k)).map gq)/\Onto w v wr b)) (fun _ i _=>(intOf i+1).toNat)
 case atStart=>exact⟨many,dE _,rfl,hide ⟨by rw[YB];simpa using aA u,Onto.refl _ _⟩⟩
 case round=>
  obtain⟨k,r,rfl,a⟩:=hrel;by_cases f:0<k
  ·have E:(0:Int)<=(k:Int)-1:=by omega
   have D:IntKind.i64.wrap (8*((k:Int)-1))=((8*(k-1):Nat):Int):=by rw[IntWalk.i64_in _ a_];omega
   have A:=byte_of n (k-1);have t:=hide (aDc n many k f r);generalize ww (n / 256 ^ (k-1))=z at *;have d:Hid (B<=wr.heap.size):=hide (mr s (aA a).2.gy.size)
   go_wp2_with (at_builtin;refine bQ rfl rfl fV rfl (bP (aA a).1 ((Ext.refl _).alloc _)) rfl (Reads.uo _ _ _) (dO.one rfl) a_ (mr (aA d) ay) ?_;intro G F x l o j)
   have q:=hide (And.intro l (((aA a).2.ext ((Ext.refl wr).alloc _)).trans (Onto.app o j)));clear l o j
   go_wp2
   go_roundw
   case rel=>exact⟨k-1,by omega,by go_num,hide ⟨by rw[aA t,List.map_append,<-yl,show m+(many-(k-1))=m+(many-k)+1 from by omega];exact (aA q).1,(aA q).2⟩⟩
   case measure=>simp[intOf];omega
  ·obtain rfl:k=0:=by omega
   go_wp2
   go_ret;have p:=(aA a).1;rw[Nat.sub_zero,IR (by rw[beBytes_length];exact dE _)] at p
   exact⟨_,rfl,p,(aA a).2⟩
theorem aOp(v:ag)(m:Nat)(xs:List ag)(n:Nat)(many:Nat)(B:Nat)(w:ae)(b d:Int)(e1:b=(n:Int))(e2:d=(many:Int))(h:w.ownsRow B 5 1 v m xs)(i:B<=w.heap.size)(g:m<=1000000000)(_:n<18446744073709551616)(j:many<=8) :
  ik prog 200 #[v,.int .u64 b,.int .i64 d] w fun e a=>∃ A c,e=.returned (.slice A (m+many) c)/\a.ownsRow B 5 1 (.slice A (m+many) c) (m+many) (xs++(beBytes n many).map gq)/\Onto w v a (.slice A (m+many) c):=by
 subst e1 e2;refine (bFq v m xs n many B w h i g j).mono ?_;rintro e a ⟨l,rfl,f,k⟩;obtain⟨A,c,rfl⟩:=oN f;exact⟨A,c,rfl,f,k⟩
theorem dO.u8(l:List UInt8):dO (l.map gq):=dO.map (fun _=>rfl) l
theorem clone_any(v:ag)(l:List UInt8)(w:ae)(h:Reads w 1 v l.length (l.map gq))(hn:l.length<=1000000000) :
  ik prog 160 #[v] w fun e m=>∃ n,e=.returned n/\m.ownsRow w.heap.size 5 1 n l.length (l.map gq)/\Ext w m:=by
 have t:=hide h;obtain⟨p,A,c,rfl,_,_,k⟩:=h;rcases A with _|a
 ·have r:l=[]:=by
   cases l with
   |nil=>rfl|cons x l=>obtain⟨b,o,e,_⟩:=k ay;cases e
  subst r;clear p k;simp only[YN];have d:=fun w=>Lib.run_eql_slice_nil (P:=prog) w 74 5 none 0 c 0 0 underlying74
  go_enter func160,ntmps160
  go_wp2
  go_ret;exact⟨_,rfl,World.ownsRow_nil _ _ _ _,Ext.refl _⟩
 ·clear p k;have d:=fun w=>Lib.run_eql_slice_nil (P:=prog) w 74 5 (some a) l.length c 0 0 underlying74
  go_enter func160,ntmps160
  go_wp2_with (at_builtin;refine bQ rfl rfl fV rfl (aAs _ w.heap.size _ _ (dE _)) rfl ((aA t).ext ((Ext.refl w).alloc _)) (dO.u8 l) a_ ay ?_;intro z y u f g j)
  have s:=hide (And.intro f (And.intro g j));clear f g j
  go_wp2
  go_ret;obtain⟨f,g,j⟩:=aA s
  refine⟨_,rfl,by simpa using f,?_⟩;exact ((Ext.refl w).alloc (.cells #[] 5)).trans' g (fun _ _ h=>h) (fun i q e=>by cases e;exact absurd q (Nat.lt_irrefl _))
structure ve(P:gp)(ty:bu)(n:Nat):Prop where
 und:∃ d,P.underlying ty=some d/\d.isRow=true
 info:(P.info? ty).map (·.size)=some n
theorem dh.range{w:ae}{g:Nat}{t:bu}{cs:Array ag}(h:dh w g t cs):w.rangeAt g 0 cs.toList:=fun j v a=>by rw[lL,h.cell];simpa using a
theorem dh.Dp{w:ae}{g:Nat}{t:bu}{cs:Array ag}(h:dh w g t cs):w.there g 0 cs.size:=fun j a=>by rw[lL,h.cell,h.frozen];simp[a]
theorem gZ(b:Nat):∀ (a:List ag) (o:Nat) (w:ae),dm (fun k=>k=b) w (w.setCells b o a)/\(w.setCells b o a).heap.size=w.heap.size:=by
 intro a
 induction a with
 |nil=>intro o w;exact⟨dm.refl _ _,rfl⟩|cons v a c=>intro o w;have h:=c (o+1) (w.setCell ⟨b,o,none⟩ v);refine⟨(dm.setCell (S:=fun k=>k=b) (p:=⟨b,o,none⟩) (dm.refl _ _) (.inl rfl) v).trans h.1,?_⟩;show ((w.setCell ⟨b,o,none⟩ v).setCells b (o+1) a).heap.size=_;rw[h.2];simp[aEJ]
theorem aOv(b:Nat)(t:bu):∀ (c:List ag) (a:List ag) (old:List ag) (w:ae),old.length=c.length->dh w b t (a++old).toArray->dh (w.setCells b a.length c) b t (a++c).toArray:=by
 intro c
 induction c with
 |nil=>intro a old w d h;cases old with|nil=>exact h|cons=>simp at d
 | cons v c g=>
  intro a old w d h;cases old with
  |nil=>simp at d|cons x old=>
   have f:=h.vk a.length v;have e:(a++x::old).toArray.setIfInBounds a.length v=((a++[v])++old).toArray:=by simp
   rw[e] at f;have:=g (a++[v]) old (w.setCell ⟨b,a.length,none⟩ v) (by simpa using d) f;simp only[List.length_append,List.length_cons,YN,lL,yl,List.singleton_append] at this;exact this
theorem aEp{w:ae}{g:Nat}{t:bu}{old cs:Array ag}(h:dh w g t old)(hs:old.size=cs.size):dh (w.setCells g 0 cs.toList) g t cs:=by have:=aOv g t cs.toList [] old.toList w (by simpa using hs) (by simpa using h);simpa using this
section
variable {P:gp}
theorem FX{o:gz}{a:Act}{w:ae}{K:Act->ae->Prop}{Q:uB->Act->ae->Prop}{ty:bu}{x:nz}(e:o.op=.load ty x){n:Nat}(W:ve P ty n)
  {g:Nat} (b:a.eval x=.pointer (some ⟨g,0,none⟩)) {t:bu} {cs:Array ag} (i:dh w g t cs) (hn:cs.size=n) (h:K (a.put o.dst (.agg cs)) w):o.wp P a w K Q:=by
 obtain⟨d,c,f⟩:=W.und;refine wp_load_mid ty x e g 0 b cs.toList d i.range c f (by rw[mf,hn];exact W.info) ?_;rw[aEs];exact h
theorem fG{ops:Array gz}{rest:List gz}{o:gz}{a:Act}{w:ae}{Q:uB->Act->ae->Prop}(b:o.guard=none){ty:bu}{x:nz}(d:o.op=.load ty x){n:Nat}(W:ve P ty n)
  {g:Nat} (c:a.eval x=.pointer (some ⟨g,0,none⟩)) {t:bu} {cs:Array ag} (f:dh w g t cs) (hn:cs.size=n) (h:YA P ops Q rest (a.put o.dst (.agg cs)) w):YA P ops Q (o::rest) a w:=
 wpList_plain b fun _ e=>FX d W c f hn (e _ _ h)
theorem aOc{o:gz}{a:Act}{w:ae}{K:Act->ae->Prop}{Q:uB->Act->ae->Prop}{ty:bu}{x y:nz}(i:o.op=.store ty x y){n:Nat}(W:ve P ty n)
  {g:Nat} (e:a.eval x=.pointer (some ⟨g,0,none⟩)) {cs:Array ag} (d:a.eval y=.agg cs) {t:bu} {old:Array ag} (c:dh w g t old) (f:old.size=n) (hn:cs.size=n) (h1:cs.all (·.oneCell')=true)
  (h:∀ b,dh b g t cs->dm (fun k=>k=g) w b->b.heap.size=w.heap.size->K (a.put o.dst dC) b):o.wp P a w K Q:=by
 refine wp_store_mid ty x y i g 0 cs e d (by rw[show cs.size=old.size from by omega];exact c.Dp) (by rw[hn];exact W.info) h1 ?_;exact h _ (aEp c a_) (gZ g cs.toList 0 w).1 (gZ g cs.toList 0 w).2
theorem aS{ops:Array gz}{rest:List gz}{o:gz}{a:Act}{w:ae}{Q:uB->Act->ae->Prop}(d:o.guard=none){ty:bu}{x y:nz}(i:o.op=.store ty x y){n:Nat}(W:ve P ty n)
  {g:Nat} (f:a.eval x=.pointer (some ⟨g,0,none⟩)) {cs:Array ag} (e:a.eval y=.agg cs) {t:bu} {old:Array ag} (l:dh w g t old) (c:old.size=n) (hn:cs.size=n) (h1:cs.all (·.oneCell')=true)
  (h:∀ b,dh b g t cs->dm (fun k=>k=g) w b->b.heap.size=w.heap.size->YA P ops Q rest (a.put o.dst dC) b):YA P ops Q (o::rest) a w:=
 wpList_plain d fun _ j=>aOc i W f e l c hn h1 fun b q p m=>j _ _ (h b q p m)
theorem jD{ops:Array gz}{o:gz}{a:Act}{w:ae}{K:Act->ae->Prop}{Q:uB->Act->ae->Prop}{E:Prop}(d:o.guard=none){ty:bu}{x y:nz}(j:o.op=.store ty x y){n:Nat}(W:ve P ty n)
  {g:Nat} (f:a.eval x=.pointer (some ⟨g,0,none⟩)) {cs:Array ag} (e:a.eval y=.agg cs) {t:bu} {old:Array ag} (l:dh w g t old) (c:old.size=n) (hn:cs.size=n) (h1:cs.all (·.oneCell')=true)
  (h:∀ b,dh b g t cs->dm (fun k=>k=g) w b->b.heap.size=w.heap.size->K (a.put o.dst dC) b):if Region.wanted o (Xx ops a.tmps)=true then Oper.wp P o a w K Q else E:=by
 have i:Region.wanted o (Xx ops a.tmps)=true:=by simp[Region.wanted,d]
 rw[if_pos i];exact aOc j W f e l c hn h1 h
end
end
section
theorem aXk{P:gp}{T e:bu}{n:Nat}(a:P.underlying T=some (.array n e)){ad:Option ry}{len c:Nat}(hl:n<=len)(w:ae):(Instr.arrayAt T (.slice ad len c)).run P w=.ok (.pointer ad) w:=by
 have h:¬len<n:=by omega
 simp[Instr.arrayAt,zg a,h]
def FC(S:Nat->Prop)(w w':ae):Prop:=∀ p v,¬S p.block->w.cell? p=some v->w'.cell? p=some v
theorem FC.trans{S:Nat->Prop}{a b c:ae}(h:FC S a b)(k:FC S b c):FC S a c:=fun p v d e=>k p v d (h p v d e)
theorem FC.VN{S:Nat->Prop}{a b:ae}(h:dm S a b):FC S a b:=fun _ _ c d=>dm.j_ h d c
def OQ(w w':ae):Prop:=∀ (k:Nat) (o:Obj),w.heap[k]?=some o->o.isCells=true->w'.heap[k]?=some o
theorem cells_of_cell{w:ae}{p:ry}{v:ag}(h:w.cell? p=some v):∃ o,w.heap[p.block]?=some o/\o.isCells=true:=by
 have a:=lt_of_cell h;refine⟨_,Yj a,?_⟩;unfold World.cell? at h;rw[Yj a] at h
 cases b:w.heap[p.block]<;>simp_all [Obj.isCells]
theorem FC.putObj{S:Nat->Prop}(W:ae)(l:Nat){o:Obj}(f:Obj)(h:W.heap[l]?=some o)(g:o.isCells=false):FC S W (W.putObj l f):=fun p v _ d=>by
 obtain⟨q,c,a⟩:=cells_of_cell d;have b:p.block≠l:=fun e=>by rw[e,h] at c;cases c;rw[g] at a;cases a
 rw[aEY (w:=W) (World.putObj_heap_other b)];exact d
theorem OQ.cell{w w':ae}(h:OQ w w'){p:ry}{v:ag}(hc:w.cell? p=some v):w'.cell? p=some v:=by obtain⟨o,b,a⟩:=cells_of_cell hc;rw[aEY (w:=w) ((h _ _ b a).trans b.symm)];exact hc
theorem OQ.blk{w w':ae}(h:OQ w w'){g:Nat}{t:bu}{cs:Array ag}(hb:dh w g t cs):dh w' g t cs:=h _ _ hb rfl
theorem aC{P:gp}{f:FuncId}{fn:Func}{c:Code}(b:P.funcs[f]?=some fn)(a:(fn.name == "runtime.NumGoroutine")=false)(hb:fn.body=some c)(args:Array ag)(w:ae):(Xy f args).run P w=.ok (.enter f args) w:=by
 have d:fn.name ≠ "runtime.NumGoroutine" := by simpa using a
 simp[Xy,b,d,hb,mark]
theorem FW{m:Type}{P:gp}{g:nz}{E:Array Tmp}{assign body:Code}{Q:uB->Act->ae->Prop}{a:Act}{w:ae}
  {gf:Nat} {lb:Array ag} (V:a.eval g=.func (.func gf) #[] lb) (eg:∀ args w,(Xy gf args).run P w=.ok (.enter gf args) w)
  {encs:m->Array ag} {S:Nat->Prop} {all:List m} {N:Nat} (hS:∀ k,S k->k<w.heap.size)
  (s:SeqStopsK Fence.wide 2 P gf lb encs (FC S) (fun I=>I=all) (fun _=>True) N w) (G:∀ x,(encs x).size=E.size)
  (J:List m->ae->Prop) (Y:∀ c W j,J c W->OQ W j->J c j) (h0:J [] w) (f:m->Act)
  (
   d:∀ (l:Nat) (x:m) (W:ae) (K:Act->ae->Prop),K (f x) W ->
   assign.wpIn (Fence.wide.inRound l) 1 P (Exit.then K (fun _ _ _=>False)) { tmps:=(E.zip (encs x)).foldl (fun t (p,v)=>t.setIfInBounds p v) a.tmps,defers:=[] } W)
  (
   hbody:∀ (l:Nat) (c:List m) (x:m) (W:ae),dm S w W->J c W->c.length<N ->
   body.wpIn (Fence.wide.inRound l) 1 P (Exit.then (fun _ j=>dm S W j/\J (c++[x]) j) (fun _ _ _=>False)) (f x) W)
  (hdone:∀ (D:Nat) (W:ae),w.heap.size<=D->dm S w W->J all W->W.heap[D]?=some (.deferred (some []))->Q .normal { a with defers:={ target:=.collected D,args:=#[] }::a.defers } W) :
  (Code.rangeFunc g E assign body).wp P Q a w:=by
 refine (wpIn_wide (n:=3)).1 ?_
 refine wpIn_rangeFunc_ownG (n:=3) (N:=N) (w0:=w) rfl a_ V trivial eg s (fun h k=>h.trans k) (fun W l o O _ h y _=>FC.putObj W l O h y) (Below.refl _ _) G
  (fun c W=>dm S w W/\J c W) (fun _ _ _=>False) ?hI (fun _ _ _ _ _ h _ _=>h) ⟨dm.refl _ _,h0⟩ f d ?hbody ?hdone (fun _ _ _ _ _ _ h _=>h.elim)
 case hI=>rintro c W j L ⟨r,z⟩ A i;refine⟨r.grown A fun k e=>.inr (i k e).1,Y _ _ _ z (show OQ W j from fun k o B y=>?_)⟩;rw[A.block k (lt_of_heap B) (fun e=>?_)];exact B;obtain⟨_,q,H,u⟩:=i k e.symm;rw[B] at H;cases H;rw[y] at u;cases u
 case hbody=>
  rintro l c x W ⟨r,z⟩ U;refine wpIn_mono (hbody l c x W r z U) ?_;rintro e b j h;cases e with
  |normal=>obtain⟨C,h2⟩:=h;refine⟨⟨C.size,fun k o B y _=>C.blk y (fun T=>?_)⟩,FC.VN C,r.trans C,h2⟩;have:=hS k T;omega
  |_=>exact h.elim
 case hdone=>rintro D xs W Z rfl ⟨r,z⟩ X;exact hdone D W Z r z X
section
variable {P:gp} {F:Fence} {n0:Nat}
theorem aHv{ops:Array gz}{rest:List gz}{o:gz}{a:Act}{w:ae}{Q:uB->Act->ae->Prop}(e:o.guard=none){ty:bu}{x:nz}(b:o.op=.load ty x){n:Nat}(W:ve P ty n)
  {g:Nat} (i:a.eval x=.pointer (some ⟨g,0,none⟩)) {t:bu} {cs:Array ag} (m:dh w g t cs) (hn:cs.size=n) (h:wpListIn F n0 P ops Q rest (a.put o.dst (.agg cs)) w):wpListIn F n0 P ops Q (o::rest) a w:=
 wpListIn_plain e fun _ l=>by obtain⟨d,j,k⟩:=W.und;unfold Oper.wpIn;refine⟨by simp[Oper.about,b],?_⟩;rw[Oper.semAt_plain F _ _ (by rw[b];intro c h;cases h)];unfold execOp;have f:=run_loadVar_mid (P:=P) w g 0 ty cs.toList d m.range j k (by rw[mf,hn];exact W.info);rw[aEs] at f;simp only[b,i,Instr.loadAt,Instr.sureAddr,Sem.run_bind,Sem.run_pure,Result.andThen_ok,f];exact l _ _ h
theorem aEh{ops:Array gz}{rest:List gz}{o:gz}{a:Act}{w:ae}{Q:uB->Act->ae->Prop}(e:o.guard=none){ty:bu}{x y:nz}(d:o.op=.store ty x y){n:Nat}(W:ve P ty n)
  {g:Nat} (j:a.eval x=.pointer (some ⟨g,0,none⟩)) {cs:Array ag} (i:a.eval y=.agg cs) {t:bu} {old:Array ag} (f:dh w g t old) (m:old.size=n) (hn:cs.size=n) (h1:cs.all (·.oneCell')=true)
  (h:∀ b,dh b g t cs->dm (fun k=>k=g) w b->b.heap.size=w.heap.size->wpListIn F n0 P ops Q rest (a.put o.dst dC) b):wpListIn F n0 P ops Q (o::rest) a w:=
 wpListIn_plain e fun _ p=>by unfold Oper.wpIn;refine⟨by simp[Oper.about,d],?_⟩;rw[Oper.semAt_plain F _ _ (by rw[d];intro c h;cases h)];unfold execOp;have l:=run_storeAt_mid (P:=P) w g 0 ty cs (by rw[show cs.size=old.size from by omega];exact f.Dp) (by rw[hn];exact W.info) h1;simp only[d,j,i,Sem.run_bind,Sem.run_pure,l,Result.andThen_ok];exact p _ _ (h _ (aEp f a_) (gZ g cs.toList 0 w).1 (gZ g cs.toList 0 w).2)
end
theorem aJm{P:gp}{fn:Func}{R:Ending->ae->Prop}{n:Nat}{a:Act}{W:ae}{D:Nat}{v:ag}(hd:a.defers=[{ target:=.collected D,args:=#[] }])(b:W.heap[D]?=some (.deferred (some [])))
  (hr:(results fn a.tmps).run P (W.putObj D (.deferred none))=.ok v (W.putObj D (.deferred none))) (h:R (.returned v) (W.putObj D (.deferred none))):bodyPostM Fence.wide n P fn R .ret a W:=by
 show LeavesInM Fence.wide n P fn a.tmps R a.defers .returning W;rw[hd];refine⟨by simp,.inl ⟨_,_,rfl,run_takeDeferred b,?_⟩⟩;exact⟨_,hr,h⟩
theorem bBo{w W:ae}{D:Nat}(o:Obj)(h:Ext w W)(a:w.heap.size<=D):Ext w (W.putObj D o):=h.grown (grownBy_putObj' W D o) (fun k e=>by cases e;exact a)
end
section
attribute [local go_sem] Oper.semAt_some
theorem bNo(A:Option ry)(n c:Nat)(w:ae) :
  ik prog 202 #[.slice A n c,.int .i64 64] w fun e a=>e=.returned (.func (.func 205) #[] #[.pointer (some ⟨w.heap.size,0,none⟩),.pointer (some ⟨w.heap.size+1,0,none⟩)]) /\
   (w.alloc (.cells #[.slice A n c] 74)).alloc (.cells #[.int .i64 64] 3)=a:=by
 go_enter func202,ntmps202
 go_wp2
 go_ret;exact⟨rfl,rfl⟩
theorem MG(m k:Nat)(h:k<m):(aDM m).take (k+1)=(aDM m).take k++[⟨k,h⟩]:=by rw[lW _ k (by simpa using h)];simp
theorem RU(m:Nat):(aDM m).map Fin.val=yf m:=by apply List.ext_getElem;simp;intro i b a;simp
theorem aWi(b o c m:Nat)(h j:Nat)(S:Nat->Prop)(w:ae)(P:64*m<=1000000000)(hc:64*m<=c)(hs:¬S h)(hn:¬S j)
  (h1:w.cell? ⟨h,0,none⟩=some (.slice (some ⟨b,o,none⟩) (64*m) c)) (h2:w.cell? ⟨j,0,none⟩=some (.int .i64 64)) :
  SeqStopsK Fence.wide 2 prog 205 #[.pointer (some ⟨h,0,none⟩),.pointer (some ⟨j,0,none⟩)] (fun x:Fin m=>#[.slice (some ⟨b,o+64*x.val,none⟩) 64 64]) (FC S) (fun D=>D=aDM m) (fun _=>True) m w:=by
 intro l J Z W C K I G L;have F:=(C.cell (p:=⟨h,0,none⟩) (lt_of_cell h1)).trans h1;have E:=(C.cell (p:=⟨j,0,none⟩) (lt_of_cell h2)).trans h2;clear h1 h2;refine callsIn_wide.2 ?_
 go_enter func205,ntmps205
 go_wp2
 go_loopw [4] (fun i wr=>∃ k:Nat,k<=m/\i=.int .i64 ((64*k:Nat):Int)/\Hid (J ((aDM m).take k) wr)/\wr.cell? ⟨h,0,none⟩=some (.slice (some ⟨b,o,none⟩) (64*m) c)/\wr.cell? ⟨j,0,none⟩=some (.int .i64 64)) (fun i _=>64*m-(intOf i).toNat)
 case atStart=>exact⟨0,x8 _,rfl,hide L,F,E⟩
 case round=>
  obtain⟨k,Q,rfl,B,O,N⟩:=hrel;by_cases d:k<m
  ·have X:¬64*k=c:=by omega
   have V:64*k<64*m:=by omega
   have U:64<=64*m-64*k:=by omega
   go_wp2
   go_quiet (fail)
   go_upto_region 4 with fail
   have s:=K _ _ (wr.drewN nq) none (aA B) ⟨rfl,rfl,rfl,dE _,fun _ _ _=>rfl⟩ (fun r e=>by cases e);obtain⟨T,z,q,body,A,H⟩:=G ((aDM m).take k) ⟨k,d⟩ (wr.drewN nq) s mg;dsimp only at A;refine (wpIn_wide (n:=2)).1 ?_
   gi_wp2
   clear A;refine H.mono ?_;rintro e Y (⟨rfl,g,a⟩|⟨rfl,f⟩)
   ·have y:=a _ _ hs O;have u:=a _ _ hn N;have t:=hide g;clear g a
    gi_wp2
    go_wp2
    go_roundw
    case rel=>exact⟨k+1,by omega,by go_num,hide (by rw[MG m k d];exact aA t),y,u⟩
    case measure=>simp[intOf];omega
   ·gi_wp2
    go_wp2
    refine bodyPost_ret (results_none rfl _ _ _) rfl ?_;exact⟨⟨_,rfl⟩,.inr ⟨_,trivial,f⟩⟩
  ·obtain rfl:k=m:=by omega
   go_wp2
   go_end0
   exact⟨⟨_,rfl⟩,.inl ⟨_,rfl,by have:=aA B;rwa [IR ay] at this⟩⟩
end
section
theorem dh.far'{w:ae}{g:Nat}{t:bu}{cs:Array ag}(h:dh w g t cs){b:Nat}(hn:¬g=b)(i:Nat)(u:ag):dh (w.setCell ⟨b,i,none⟩ u) g t cs:=h.far hn u
theorem iE(W:ae)(t:bu)(cs:Array ag){g:Nat}(b:g=W.heap.size){i:Nat}{v:ag}(a:cs[i]?=some v):(W.alloc (.cells cs t)).cell? ⟨g,i,none⟩=some v:=by rw[(dh.new' W t cs b).cell];exact a
theorem iL(W:ae)(o:Obj){p:ry}{v:ag}(h:W.cell? p=some v):(W.alloc o).cell? p=some v:=Ext.j_ ((Ext.refl W).alloc o) h
theorem aCG{W:ae}(o:Obj){p q r s u:ry}{a b c d e:ag}(h:W.cell? p=some a/\W.cell? q=some b/\W.cell? r=some c/\W.cell? s=some d/\W.cell? u=some e):(W.alloc o).cell? p=some a/\(W.alloc o).cell? q=some b/\(W.alloc o).cell? r=some c/\(W.alloc o).cell? s=some d/\(W.alloc o).cell? u=some e:=⟨iL _ _ h.1,iL _ _ h.2.1,iL _ _ h.2.2.1,iL _ _ h.2.2.2.1,iL _ _ h.2.2.2.2⟩
theorem WM{W:ae}(o:Obj){p q r:ry}{a b c:ag}(h:W.cell? p=some a/\W.cell? q=some b/\W.cell? r=some c):(W.alloc o).cell? p=some a/\(W.alloc o).cell? q=some b/\(W.alloc o).cell? r=some c:=⟨iL _ _ h.1,iL _ _ h.2.1,iL _ _ h.2.2⟩
theorem aCF{W:ae}(o:Obj){p q r:ry}{a b:ag}(h:W.cell? p=some a/\W.cell? q=some b/\W.cell? r=some (held W r)/\W.frozen? r=false):(W.alloc o).cell? p=some a/\(W.alloc o).cell? q=some b/\(W.alloc o).cell? r=some (held (W.alloc o) r)/\(W.alloc o).frozen? r=false:=⟨iL _ _ h.1,iL _ _ h.2.1,aHj (iL _ _ h.2.2.1),Ext.rq ((Ext.refl W).alloc o) h.2.2.2 (lt_of_cell h.2.2.1)⟩
theorem FH{W:ae}(u:ag){g i j k:Nat}{a b:ag}(d:i≠k)(c:j≠k)(h:W.cell? ⟨g,i,none⟩=some a/\W.cell? ⟨g,j,none⟩=some b/\W.cell? ⟨g,k,none⟩=some (held W ⟨g,k,none⟩)/\W.frozen? ⟨g,k,none⟩=false) :
  (W.setCell ⟨g,k,none⟩ u).cell? ⟨g,i,none⟩=some a/\(W.setCell ⟨g,k,none⟩ u).cell? ⟨g,j,none⟩=some b/\(W.setCell ⟨g,k,none⟩ u).cell? ⟨g,k,none⟩=some (held (W.setCell ⟨g,k,none⟩ u) ⟨g,k,none⟩)/\(W.setCell ⟨g,k,none⟩ u).frozen? ⟨g,k,none⟩=false:=by
 refine⟨?_,?_,aHj (World.cell?_setCell_same' _ _ _ (by rw[h.2.2.1];rfl)),by rw[World.frozen?_setCell];exact h.2.2.2⟩;rw[aFT (h:=by intro e;cases e;exact d rfl)];exact h.1;rw[aFT (h:=by intro e;cases e;exact c rfl)];exact h.2.1
section
variable {P:gp}
theorem aAi{T a:bu}{len:Nat}(c:P.underlying T=some (.array len a))(d:P.plainKey a=true){inf:TypeInfo}(f:P.info? a=some inf)(h1:P.cellsOf a=1)
  {cs:Array ag} {k:Nat} (e:k<len) {v:ag} (b:cs[k]?=some v) (w:ae):(Instr.index T (.agg cs) (.int .i64 (k:Int))).run P w=.ok v w:=by
 have g:(0:Int)<=(k:Int)/\(k:Int)<(len:Int):=by omega
 simp[Instr.index,asIntOf,zg c,run_sizeOf (w:=w) f,h1,e,run_part_plain w d b]
theorem qO{ops:Array gz}{rest:List gz}{o:gz}{a:Act}{w:ae}{Q:uB->Act->ae->Prop}(b:o.guard=none){ty:bu}{x:nz}(f:o.op=.load ty x){n:Nat}(W:ve P ty n)
  {g:Nat} (c:a.eval x=.pointer (some ⟨g,0,none⟩)) {cs:List ag} {arr:Array ag} (l:w.rangeAt g 0 cs) (hn:cs.length=n) (j:cs.toArray=arr) (h:YA P ops Q rest (a.put o.dst (.agg arr)) w):YA P ops Q (o::rest) a w:=
 wpList_plain b fun _ k=>by obtain⟨d,e,i⟩:=W.und;refine wp_load_mid ty x f g 0 c cs d l e i (by rw[hn];exact W.info) ?_;rw[j];exact k _ _ h
theorem jO{w:ae}{b:Nat}{t:bu}{cs:Array ag}(e:dh w b t cs){T:bu}{n:Nat}(W:ve P T n)(hn:cs.size=n):(loadVar T ⟨b,0,none⟩).run P w=.ok (.agg cs) w:=by obtain⟨d,a,c⟩:=W.und;have:=run_loadVar_mid (P:=P) w b 0 T cs.toList d e.range a c (by rw[mf,hn];exact W.info);rw[aEs] at this;exact this
theorem dR{fn:Func}{i:Tmp}{T:bu}{n:Nat}(W:ve P T n)(d:fn.results=#[.cell i T]){a:Array ag}{w:ae}{b:Nat}{t:bu}{cs:Array ag}(e:dh w b t cs)(hn:cs.size=n)(c:a.getD i dC=.pointer (some ⟨b,0,none⟩)) :
  (results fn a).run P w=.ok (.agg cs) w:=by
 have f:=jO e W hn;simp only[Array.getD_eq_getD_getElem?] at c;simp[results,d,c,asAddr,f]
theorem Reads.sub{w:ae}{v:ag}{n:Nat}{xs:List ag}(h:Reads w 1 v n xs)(i m:Nat)(x:i+m<=n)(s:0<m) :
  ∃ b o c,v=.slice (some ⟨b,o,none⟩) n c/\n<=c/\c<=uC/\b<w.heap.size/\Reads w 1 (.slice (some ⟨b,o+i,none⟩) m (c-i)) m ((xs.drop i).take m):=by
 obtain⟨b,o,c,u,rfl,q,p,l,_,_⟩:=h.DV (k:=0) a_;have t:=h.1;refine⟨b,o,c,rfl,q,p,l,by simp;omega,_,_,rfl,by omega,by omega,fun _=>⟨b,o+i,rfl,fun j u a=>?_⟩⟩;have d:j<m:=by rcases Y6 j m with h|h;exact h;rw[GM mg] at a;cases a
 rw[xe,if_pos d,PR] at a;obtain⟨_,A,y,e,_,_,g⟩:=h;cases e;obtain⟨z,r,e,f⟩:=g a_;cases e;rw[YM];exact f _ _ a
theorem Reads.cap{w:ae}{A:Option ry}{n c a:Nat}{xs:List ag}(h:Reads w 1 (.slice A n c) n xs)(h1:n<=a)(h2:a<=uC):Reads w 1 (.slice A n a) n xs:=by obtain⟨b,g,f,e,_,_,d⟩:=h;cases e;exact⟨b,A,a,rfl,h1,h2,d⟩
theorem Reads.uy{w:ae}{g:Nat}{t:bu}{cs:Array ag}(h:dh w g t cs){i n c:Nat}(e:i+n<=cs.size)(hc:n<=c)(b:c<=uC) :
  Reads w 1 (.slice (some ⟨g,i,none⟩) n c) n ((cs.toList.drop i).take n):=by
 refine⟨by simp;omega,_,_,rfl,hc,b,fun _=>⟨g,i,rfl,fun j u a=>?_⟩⟩;have d:j<n:=by rcases Y6 j n with h|h;exact h;rw[GM mg] at a;cases a
 rw[xe,if_pos d,PR] at a;rw[h.cell,<-a];simp
end
end
section
def gV(n:Nat)(l:List UInt32):Array ag:=(l.map w32++DD (n-l.length) (df .u32 0)).toArray
theorem kE{n:Nat}{l:List UInt32}{i:Nat}(h:i<l.length):(gV n l)[i]?=some (.int .u32 ((l.getD i 0).toNat:Int)):=by unfold gV;rw[List.getElem?_toArray,List.getElem?_append_left (by simpa using h),Xu,zG,zH h];rfl
theorem aSz{n:Nat}{l:List UInt32}(x:UInt32)(h:l.length<n):(gV n l).setIfInBounds l.length (.int .u32 (x.toNat:Int))=gV n (l++[x]):=by unfold gV;rw[show n-l.length=(n-(l++[x]).length)+1 from by simp;omega,List.replicate_succ];simp[w32]
theorem vJ{n k:Nat}{l:List UInt32}(x:UInt32)(hl:l.length=k)(h:k<n):(gV n l).setIfInBounds k (.int .u32 (x.toNat:Int))=gV n (l++[x]):=by subst hl;exact aSz x h
theorem aOf(n:Nat):gV n []=Array.replicate n (df .u32 0):=by unfold gV;simp
theorem aCo{n:Nat}{l:List UInt32}(h:l.length<=n):(gV n l).size=n:=by unfold gV;simp;omega
theorem bEb:ve prog 269 64:=⟨⟨_,underlying269,rfl⟩,by kernel_rfl⟩
theorem jS:ve prog 263 8:=⟨⟨_,underlying263,rfl⟩,by kernel_rfl⟩
structure af(w:ae):Prop where
 k:w.rangeAt 2 0 (zk.map w32)
 h:w.rangeAt 0 0 (oL.map w32)
theorem qA{S:Nat->Prop}{w w':ae}{b:Nat}{cs:List ag}(h:w.rangeAt b 0 cs)(hc:dm S w w')(hn:¬S b):w'.rangeAt b 0 cs:=fun j v a=>dm.j_ hc (h j v a) hn
theorem af.gy{S:Nat->Prop}{w w':ae}(h:af w)(hc:dm S w w')(h1:¬S 2)(h2:¬S 0):af w':=⟨qA h.k hc h1,qA h.h hc h2⟩
theorem af.ext{w w':ae}(h:af w)(hc:Ext w w'):af w':=h.gy hc (fun h=>h) (fun h=>h)
theorem Tc(x:UInt32)(n0 a:Nat)(g:Nat)(w:ae)(h0:w.cell? ⟨g,0,none⟩=some (.int .i64 (n0:Int)))(h1:w.cell? ⟨g,1,none⟩=some (.int .i64 (a:Int)))(hn:(0<n0/\n0<32)/\0<a/\a<32) :
  ik prog 204 #[.int .u32 (x.toNat:Int),.slice (some ⟨g,0,none⟩) 2 2] w fun e c=>e=.returned (.int .u32 ((gQ x (YG n0) ^^^ gQ x (YG a)).toNat:Int))/\w=c:=by
 have:=aXn x [n0,a] (.slice (some ⟨g,0,none⟩) 2 2) w ⟨rfl,_,_,rfl,dE _,by unfold uC;omega,fun _=>⟨g,0,rfl,fun j u b=>?_⟩⟩ mg;simpa[vZ] using this
 match j,b with
 |0,b=>cases b;exact h0|1,b=>cases b;exact h1
theorem TZ(x:UInt32)(n0 b n2:Nat)(g:Nat)(w:ae)(h0:w.cell? ⟨g,0,none⟩=some (.int .i64 (n0:Int)))(h1:w.cell? ⟨g,1,none⟩=some (.int .i64 (b:Int)))(h2:w.cell? ⟨g,2,none⟩=some (.int .i64 (n2:Int)))(hn:(0<n0/\n0<32)/\(0<b/\b<32)/\0<n2/\n2<32) :
  ik prog 204 #[.int .u32 (x.toNat:Int),.slice (some ⟨g,0,none⟩) 3 3] w fun e c=>e=.returned (.int .u32 ((gQ x (YG n0) ^^^ gQ x (YG b) ^^^ gQ x (YG n2)).toNat:Int))/\w=c:=by
 have:=aXn x [n0,b,n2] (.slice (some ⟨g,0,none⟩) 3 3) w ⟨rfl,_,_,rfl,dE _,by unfold uC;omega,fun _=>⟨g,0,rfl,fun j u a=>?_⟩⟩ mg;simpa[vZ] using this
 match j,a with
 |0,a=>cases a;exact h0|1,a=>cases a;exact h1|2,a=>cases a;exact h2
def rr2(x a b:UInt32):UInt32:=gQ x a ^^^ gQ x b
def rr3(x a b c:UInt32):UInt32:=gQ x a ^^^ gQ x b ^^^ gQ x c
theorem bGp(x:UInt32)(g:Nat)(w:ae)(h0:w.cell? ⟨g,0,none⟩=some (.int .i64 7))(h1:w.cell? ⟨g,1,none⟩=some (.int .i64 18)) :
  ik prog 204 #[.int .u32 (x.toNat:Int),.slice (some ⟨g,0,none⟩) 2 2] w fun e a=>e=.returned (.int .u32 ((rr2 x 7 18).toNat:Int))/\w=a:=
 Tc x 7 18 g w h0 h1 a_
theorem bAv(x:UInt32)(g:Nat)(w:ae)(h0:w.cell? ⟨g,0,none⟩=some (.int .i64 17))(h1:w.cell? ⟨g,1,none⟩=some (.int .i64 19)) :
  ik prog 204 #[.int .u32 (x.toNat:Int),.slice (some ⟨g,0,none⟩) 2 2] w fun e a=>e=.returned (.int .u32 ((rr2 x 17 19).toNat:Int))/\w=a:=
 Tc x 17 19 g w h0 h1 a_
theorem aPi(x:UInt32)(g:Nat)(w:ae)(h0:w.cell? ⟨g,0,none⟩=some (.int .i64 6))(h1:w.cell? ⟨g,1,none⟩=some (.int .i64 11))(h2:w.cell? ⟨g,2,none⟩=some (.int .i64 25)) :
  ik prog 204 #[.int .u32 (x.toNat:Int),.slice (some ⟨g,0,none⟩) 3 3] w fun e a=>e=.returned (.int .u32 ((rr3 x 6 11 25).toNat:Int))/\w=a:=
 TZ x 6 11 25 g w h0 h1 h2 a_
theorem aPj(x:UInt32)(g:Nat)(w:ae)(h0:w.cell? ⟨g,0,none⟩=some (.int .i64 2))(h1:w.cell? ⟨g,1,none⟩=some (.int .i64 13))(h2:w.cell? ⟨g,2,none⟩=some (.int .i64 22)) :
  ik prog 204 #[.int .u32 (x.toNat:Int),.slice (some ⟨g,0,none⟩) 3 3] w fun e a=>e=.returned (.int .u32 ((rr3 x 2 13 22).toNat:Int))/\w=a:=
 TZ x 2 13 22 g w h0 h1 h2 a_
theorem bGc(f i c e b a:UInt32):((((f.toNat:Int)+bits BinOp.xor xy (i.toNat:Int) ((c.toNat:Int) / (8:Int))) % (4294967296:Int)+(e.toNat:Int)) % (4294967296:Int)+bits BinOp.xor xy (b.toNat:Int) ((a.toNat:Int) / (1024:Int))) % (4294967296:Int) =
  ((f+(i ^^^ (c >>> 3))+e+(b ^^^ (a >>> 10))).toNat:Int):=by
 have j:=bGa c 3 a_;have d:=bGa a 10 a_;rw[show (8:Int)=2 ^ 3 from rfl,show (1024:Int)=2 ^ 10 from rfl,j,d,xW,xW,add32,add32,add32];rfl
theorem Zq(d r a f e c b:UInt32):IntKind.u32.wrap (IntKind.u32.wrap (IntKind.u32.wrap (IntKind.u32.wrap ((d.toNat:Int)+(r.toNat:Int))+bits BinOp.xor xy (bits BinOp.and xy (a.toNat:Int) (f.toNat:Int)) (bits BinOp.and xy (bits BinOp.xor xy IntKind.u32.max (a.toNat:Int)) (e.toNat:Int)))+(c.toNat:Int))+(b.toNat:Int)) =
  ((d+r+((a &&& f) ^^^ (~~~a &&& e))+c+b).toNat:Int):=by
 rw[Tu,OU,OU,xW,Ny,Ny,Ny,Ny]
theorem Zp(r c b a:UInt32):IntKind.u32.wrap ((r.toNat:Int)+bits BinOp.xor xy (bits BinOp.xor xy (bits BinOp.and xy (c.toNat:Int) (b.toNat:Int)) (bits BinOp.and xy (c.toNat:Int) (a.toNat:Int))) (bits BinOp.and xy (b.toNat:Int) (a.toNat:Int))) =
  ((r+(((c &&& b) ^^^ (c &&& a)) ^^^ (b &&& a))).toNat:Int):=by
 rw[OU,OU,OU,xW,xW,Ny]
def aZw(w:ae)(hc:Array ag)(b:List UInt8)(k:Nat)(wr:ae):Prop:=dh wr w.heap.size 263 hc/\(∃ a,dh wr (w.heap.size+1) 263 a/\a.size=8)/\dh wr (w.heap.size+1+1) 269 (gV 64 (dP b k))/\Ext w wr
theorem aZw.step{w wr a:ae}{hc:Array ag}{b:List UInt8}{k:Nat}(h:aZw w hc b k wr)(c:Ext wr a)(n:k<64){x:UInt32}(m:(if k<16 then qX ((b.drop (4*k)).take 4) else vV (dP b k))=x) :
  aZw w hc b (k+1) (a.setCell ⟨w.heap.size+1+1,k,none⟩ (.int .u32 (x.toNat:Int))):=by
 obtain⟨j,⟨l,e,d⟩,i,f⟩:=h;refine⟨(j.ext c).far' a_ _ _,⟨l,(e.ext c).far' a_ _ _,d⟩,?_,(f.trans c).setCell mg _⟩;have:=(i.ext c).vk k (.int .u32 (x.toNat:Int));rw[vJ x (iK b k) n] at this;rw[dP,m];exact this
def bOq(w:ae)(hc:Array ag)(h:List UInt32)(b:List UInt8)(g k:Nat)(wr:ae):Prop:=dh wr w.heap.size 263 hc/\(∃ a,dh wr (w.heap.size+1) 263 a/\a.size=8)/\dh wr (w.heap.size+1+1) 269 (gV 64 (sched b))/\dh wr g 263 (gV 8 (bM b h k))/\Ext w wr/\w.heap.size+1+1<g
theorem mQ{n:Nat}{l:List UInt32}(h:l.length=n):gV n l=(l.map w32).toArray:=by unfold gV;rw[h,YB];simp
theorem UR{k:Nat}(h:k<64):((zk.map w32).toArray)[k]?=some (.int .u32 ((zk.getD k 0).toNat:Int)):=by have:=kE (n:=64) (l:=zk) (i:=k) h;rwa [mQ (show zk.length=64 from rfl)] at this
theorem zZ(l:List UInt32):((l.map w32).toArray).all (·.oneCell')=true:=by rw[<-Array.all_toList];simp[w32];intro x _;rfl
def yA(R h:List UInt32)(k:Nat):List UInt32:=(Ym (·+·) R h).take k++R.drop k
def rC(w:ae)(hc:Array ag)(h R:List UInt32)(g k:Nat)(wr:ae):Prop:=dh wr w.heap.size 263 hc/\(∃ a,dh wr (w.heap.size+1) 263 a/\a.size=8)/\dh wr g 263 (gV 8 (yA R h k))/\Ext w wr/\w.heap.size+1+1<g
theorem wU{R h:List UInt32}(c:R.length=8)(b:h.length=8){k:Nat}(a:k<=8):(yA R h k).length=8:=by unfold yA;simp;omega
theorem rC.start{w wr:ae}{hc:Array ag}{h:List UInt32}{a:List UInt8}{g:Nat}(i:bOq w hc h a g 64 wr):rC w hc h (bM a h 64) g 0 wr:=by obtain⟨f,e,_,d,c,b⟩:=i;exact⟨f,e,d,c,b⟩
section
variable {w wr:ae} {hc:Array ag} {h R:List UInt32} {g k:Nat}
theorem rC.new(b:rC w hc h R g k wr)(d:R.length=8)(c:h.length=8)(a:k<8):wr.cell? ⟨g,k,none⟩=some (.int .u32 ((R.getD k 0).toNat:Int)):=by
 rw[b.2.2.1.cell,kE (by rw[wU d c a_];exact a)];have:(yA R h k).getD k 0=R.getD k 0:=by unfold yA;rw[zG,zG,List.getElem?_append_right mg];simp;rw[show k+(k-min k (min R.length h.length))=k from by omega]
 rw[this]
theorem rC.old(a:rC w hc h R g k wr)(c:(h.map w32).toArray=hc)(b:h.length=8)(d:k<8):wr.cell? ⟨w.heap.size,k,none⟩=some (.int .u32 ((h.getD k 0).toNat:Int)):=by rw[a.1.cell,<-c,<-mQ b,kE a_]
theorem rC.step(p:rC w hc h R g k wr){a:ae}(b:Ext wr a)(d:R.length=8)(c:h.length=8)(r:k<8):rC w hc h R g (k+1) (a.setCell ⟨g,k,none⟩ (.int .u32 ((R.getD k 0+h.getD k 0).toNat:Int))):=by
 obtain⟨n,⟨o,j,i⟩,m,l,f⟩:=p;refine⟨(n.ext b).far' a_ _ _,⟨o,(j.ext b).far' a_ _ _,i⟩,?_,(l.trans b).setCell mg _,f⟩;have:=(m.ext b).vk k (.int .u32 ((R.getD k 0+h.getD k 0).toNat:Int))
 have e:(gV 8 (yA R h k)).setIfInBounds k (.int .u32 ((R.getD k 0+h.getD k 0).toNat:Int))=gV 8 (yA R h (k+1)):=by
  rw[mQ (wU d c a_),mQ (wU d c a_)];apply Array.ext';rw[aEZ];dsimp only;have q:yA R h (k+1)=(yA R h k).set k (R.getD k 0+h.getD k 0):=by unfold yA;rw[lW _ k mg,List.set_append_right _ _ mg];rw[show k-((Ym (·+·) R h).take k).length=0 from by simp;omega];rw[List.drop_eq_getElem_cons (show k<R.length by omega)];rw[List.set_cons_zero,yl,zG,zG,zH (show k<R.length by omega),zH (show k<h.length by omega),List.getElem_zipWith];rfl
  rw[q,List.map_set];rfl
 rw[e] at this;exact this
theorem rC.drew(j:rC w hc h R g k wr):rC w hc h R g k wr.drew:=by obtain⟨f,⟨i,c,b⟩,e,d,a⟩:=j;exact⟨f.drew,⟨i,c.drew,b⟩,e.drew,d.drew,a⟩
theorem bLn(b:R.length=8)(a:h.length=8):yA R h 8=Ym (·+·) R h:=by unfold yA;rw[IR mg,List.drop_of_length_le a_,List.append_nil]
end
end
end Go.Proofs.YtndpjopifkbgiaaGreatDoor
