/-
  Several texts in one file.
-/
import Derived.WalkKit
import Derived.WalkSpells
import Derived.WalkLawsBesides
import Derived.Handy
import Derived.Deep.QuietTactic
import Derived.BigQuiet
import Derived.Deep.Draws
import Derived.Maps.AppendAt
import Derived.Laws.BitsAllLaws
import Derived.Test.YtndpjopifkbgiaaGreatDoorProg
import Derived.Outline
import Derived.Deep.MidRow
import Derived.OwnWalkIn
import Derived.RangeFuncNested
import Derived.RangeFuncBound
import Derived.RangeFuncCalls
import Derived.RangeFuncLeaves
import Derived.TacticsInMore
import Derived.LoopNIn
import Derived.LoopIn
import Derived.Deep.Cut
import Derived.ChangeKeysEq
import Derived.DeepKeys
import Derived.Deep.RegionHeld3
import Derived.Deep.DeepCutAuto
import Derived.Laws.EntriesVeiled
import Derived.ArgAppend
import Derived.Lib.MakeNoZero
import Derived.Laws.CopyOwn
import Derived.Deep.RegionLaw
import Derived.Laws.IdiomStrings
import Derived.Laws.BytesArg
import Derived.Lib.AppendStr
set_option maxRecDepth 100000
set_option maxHeartbeats 4000000
namespace Go.Proofs.YtndpjopifkbgiaaGreatDoor
open Go.RowKit Tryz
open _root_.Go.Value renaming int->ed,slice->Yu,ownBlock->Yz
open _root_.And renaming intro->az
open _root_.Go.IntKind renaming u8->ry,u32->We,wrap_u64->aAJ
open _root_.Go renaming World->ae,Value->ag,TypeId->bi,maxLen->uk,Operand->lL,bytesRow->YS,bodyPost_ret->ZJ,Calls->mf,grownCap->YT,Program->dE,Addr->uC,wpList->ZE,run_underlying->xy,heap_alloc_new->aAu,Oper->df,yielded->YV,Exit->nz,execOp->uu,callFunc->YR,undef->bz,typeInfo->Yj
open _root_.List renaming length_append->gp,getElem?_eq_getElem->aAB,replicate->PR,map_append->Z8,take_of_length_le->YY,getElem?_eq_none->YQ,append_assoc->Pi,getElem?_map->XN,length_map->YU,getElem?_take->x8,finRange->aBf,drop_zero->Yh,eq_nil_of_length_eq_zero->aAZ,map_take->aAU,length_cons->zl,length_nil->Yg,range->AC,flatMap_append->aEX,size_toArray->Yx,foldl_append->aBB,zipWith->Z7,take_length->Zc,length_take->xe,getElem?_replicate->aAG,getElem?_cons_succ->Ya,getElem?_drop->YN,take_add_one->aEd,flatMap_cons->ZQ,take_append->aBM,map_toArray->aBc,getElem_mem->ZN,ext_getElem->Z9,length_set->Yb,foldl_cons->aAK,map_cons->DD,map_nil->ZY
open _root_.Array renaming replicate->IR,length_toList->uA,getElem?_eq_getElem->ZR,toArray_toList->aEx,all_toList->aAD,size_replicate->aFK
open _root_.UInt8 renaming ofNat->uB
open _root_.UInt32 renaming ofNat->Yl
open _root_.Nat renaming le_refl->dC,zero_add->ik,zero_le->xn,le_trans->PP,lt_or_ge->Yk,lt_of_lt_of_le->YX,eq_zero_or_pos->ZP,add_assoc->Yt,mul_le_mul_right->Ym,succ_mul->aBu,sub_self->Yf,mul_one->Yy
open _root_.Go.World renaming cell?_setCell_same'->aEN,cell?_setCell_other->aGF,ownsRow_nil->aFI,cell?_of_block->aFH,putObj_heap_other->ZT,frozen?->aDo,frozen?_setCell->aGE,size_alloc->aBl
section
theorem zA{α:Type}(l:List α)(i:Nat)(a:α):l.toArray.setIfInBounds i a=(l.set i a).toArray:=List.setIfInBounds_toArray ..
theorem zB{α:Type}(x y:α)(l:List α):(x::l).set 0 y=y::l:=rfl
theorem zC{α:Type}(x y:α)(l:List α)(n:Nat):(x::l).set (n+1) y=x::l.set n y:=rfl
theorem zD{α:Type}(l:List α)(i:Nat)(h:i<l.toArray.size):l.toArray[i]'h=l[i]'(by simpa using h):=List.getElem_toArray ..
theorem zE{α:Type}(x:α)(l:List α)(n:Nat)(h:n+1<(x::l).length):(x::l)[n+1]'h=l[n]'(Nat.lt_of_succ_lt_succ h):=rfl
theorem zG{α:Type}{l:List α}{i:Nat}{a:α}:l.getD i a=l[i]?.getD a:=List.getD_eq_getElem?_getD
theorem zH{α:Type}{l:List α}{i:Nat}(h:i<l.length):l[i]?=some l[i]:=aAB h
theorem zF{α:Type}(x:α)(l:List α)(h:0<(x::l).length):(x::l)[0]'h=x:=rfl
abbrev l9:=ByteArray
abbrev mi:=Option Bool
abbrev y5:=List (List Int)
abbrev je:=ae->Prop
abbrev qo:=Nat->Prop
abbrev dh:=List UInt8
abbrev ji:=List ag
abbrev kw:=Array ag
theorem au{c:Prop}{h:Decidable c}(hc:c){α:Sort _}{t e:α}:ite c t e=t:=if_pos hc
theorem ay{c:Prop}{h:Decidable c}(hc:¬c){α:Sort _}{t e:α}:ite c t e=e:=if_neg hc
theorem rq{p:Prop} [h:Decidable p] (q:p):decide p=true:=decide_eq_true q
theorem Bg{p:Prop} [h:Decidable p] (q:¬p):decide p=false:=decide_eq_false q
theorem lm{α:Sort _}(a:α):∃ x,a=x:=⟨a,rfl⟩
theorem DL{p:Prop}(h:p:=by repeat' (first|(with_reducible exact gu.refl _ _)|(with_reducible exact Ext.refl _)|(with_reducible assumption)|(with_reducible refine gu.alloc ?_ _)|(with_reducible refine gu.drew ?_)|(with_reducible refine gu.drewN ?_ _)|(with_reducible refine gu.setCell ?_ ?_ _)|(with_reducible refine Ext.alloc ?_ _)|(with_reducible refine Ext.drew ?_)|(with_reducible refine Ext.drewN ?_ _)|(with_reducible refine Ext.setCell ?_ ?_ _)|(simp;done)|(simp;omega)|omega)):p:=h
theorem a_{p:Prop}(h:p:=by omega):p:=h
theorem ah{p:Prop}(h:p:=by kernel_rfl):p:=h
theorem b_{p:Prop}(h:p:=by simp):p:=h
theorem ai{p:Prop}(h:p:=by rfl):p:=h
theorem g_{p:Prop}(h:p:=by decide):p:=h
theorem jr{p:Prop}(h:p:=by simp;omega):p:=h
theorem o_{p:Prop}(h:p:=by assumption):p:=h
theorem hide{p:Prop}(h:p):Hid p:=h
theorem aA{p:Prop}(h:Hid p):p:=h
theorem uY{k:IntKind}{a b:Int}(h:a=b):Ending.returned (.int k a)=.returned (.int k b):=by rw[h]
theorem int_eq{k:IntKind}{a b:Int}(h:a=b):ed k a=.int k b:=by rw[h]
theorem aCz{k:IntKind}{a b:Int}{y:ag}(h:a=b):Ending.returned (.tuple #[.int k a,y])=.returned (.tuple #[.int k b,y]):=by rw[h]
structure gu(S:Nat->Prop)(w w':ae):Prop where
 os:w'.os=w.os
 tape:w'.tape=w.tape
 output:w'.output=w.output
 size:w.heap.size<=w'.heap.size
 block:∀ k,k<w.heap.size->¬S k->w'.heap[k]?=w.heap[k]?
def Non:Nat->Prop:=fun _=>False
def Ext(w w':ae):Prop:=gu Non w w'
theorem gu.refl(S:Nat->Prop)(w:ae):gu S w w:=⟨rfl,rfl,rfl,dC _,fun _ _ _=>rfl⟩
theorem gu.trans'{S T U:Nat->Prop}{a b c:ae}(h:gu S a b)(k:gu T b c)(hS:∀ i,i<a.heap.size->S i->U i)(o:∀ i,i<a.heap.size->T i->U i):gu U a c:=
 ⟨
  k.os.trans h.os,k.tape.trans h.tape,k.output.trans h.output,PP h.size k.size,fun i f j=>
  (k.block i (YX f h.size) (fun l=>j (o i f l))).trans (h.block i f (fun m=>j (hS i f m)))⟩
theorem gu.trans{S:Nat->Prop}{a b c:ae}(h:gu S a b)(k:gu S b c):gu S a c:=h.trans' k (fun _ _ h=>h) (fun _ _ h=>h)
theorem gu.mono{S T:Nat->Prop}{a b:ae}(h:gu S a b)(hS:∀ i,i<a.heap.size->S i->T i):gu T a b:=⟨h.os,h.tape,h.output,h.size,fun i c j=>h.block i c (fun f=>j (hS i c f))⟩
theorem Ext.iq{S:Nat->Prop}{a b:ae}(h:Ext a b):gu S a b:=gu.mono h (fun _ _ h=>h.elim)
theorem gu.ext{S:Nat->Prop}{a b c:ae}(h:gu S a b)(k:Ext b c):gu S a c:=h.trans k.iq
theorem Ext.refl(w:ae):Ext w w:=gu.refl _ _
theorem Ext.trans{a b c:ae}(h:Ext a b)(k:Ext b c):Ext a c:=gu.trans h k
theorem gu.alloc{S:Nat->Prop}{a w:ae}(h:gu S a w)(o:Obj):gu S a (w.alloc o):=h.trans ⟨rfl,rfl,rfl,by simp,fun k b _=>Below.heap_alloc _ _ _ b⟩
theorem Ext.alloc{a w:ae}(h:Ext a w)(o:Obj):Ext a (w.alloc o):=gu.alloc h o
theorem gu.drew{S:Nat->Prop}{a w:ae}(h:gu S a w):gu S a w.drew:=⟨h.os,h.tape,h.output,h.size,h.block⟩
theorem Ext.drew{a w:ae}(h:Ext a w):Ext a w.drew:=gu.drew h
theorem gu.drewN{S:Nat->Prop}{a w:ae}(h:gu S a w)(n:Nat):gu S a (w.drewN n):=⟨h.os,h.tape,h.output,h.size,h.block⟩
theorem Ext.drewN{a w:ae}(h:Ext a w)(n:Nat):Ext a (w.drewN n):=gu.drewN h n
theorem gu.setCell{S:Nat->Prop}{a w:ae}(h:gu S a w){p:uC}(c:S p.block\/a.heap.size<=p.block)(u:ag):gu S a (w.setCell p u):=⟨h.os,h.tape,h.output,by simpa[World.setCell] using h.size,fun k f b=>(Below.heap_setCell _ _ _ _ (by rintro rfl;exact c.elim b (fun h=>by omega))).trans (h.block k f b)⟩
theorem Ext.setCell{a w:ae}(h:Ext a w){p:uC}(b:a.heap.size<=p.block)(u:ag):Ext a (w.setCell p u):=gu.setCell h (.inr b) u
theorem gu.grown{S:Nat->Prop}{a w w':ae}{b:Option Nat}(h:gu S a w)(c:w.grownBy w' b)(hr:∀ k,b=some k->S k\/a.heap.size<=k):gu S a w':=
 ⟨
  c.os.trans h.os,c.tape.trans h.tape,c.output.trans h.output,PP h.size c.size,fun k i f=>
  (c.block k (YX i h.size) (fun e=>(hr k e.symm).elim f (fun h=>by omega))).trans (h.block k i f)⟩
theorem Ext.grown{a w w':ae}{b:Option Nat}(h:Ext a w)(f:w.grownBy w' b)(hr:∀ k,b=some k->a.heap.size<=k):Ext a w':=gu.grown h f (fun k c=>.inr (hr k c))
theorem Ext.of_below{w w':ae}(h:Below w.heap.size w w'):Ext w w':=⟨h.os,h.tape,h.output,h.size,fun k b _=>h.block k b⟩
theorem Ext.below{w w':ae}(h:Ext w w'):Below w.heap.size w w':=⟨h.os,h.tape,h.output,h.size,fun k b=>h.block k b (fun h=>h)⟩
theorem gu.cell{S:Nat->Prop}{w w':ae}(h:gu S w w'){p:uC}(b:p.block<w.heap.size)(hn:¬S p.block):w'.cell? p=w.cell? p:=aFH (w:=w) (h.block p.block b hn)
theorem gu.frozen{S:Nat->Prop}{w w':ae}(h:gu S w w'){p:uC}(b:p.block<w.heap.size)(hn:¬S p.block):w'.frozen? p=w.frozen? p:=World.frozen?_of_block (w:=w) (h.block p.block b hn)
theorem lt_of_cell{w:ae}{p:uC}{v:ag}(h:w.cell? p=some v):p.block<w.heap.size:=World.block_lt_of_cell? w p h
theorem Ext.lw{w w':ae}(h:Ext w w'){p:uC}{v:ag}(b:w.cell? p=some v):w'.cell? p=some v:=(gu.cell h (lt_of_cell b) (fun h=>h)).trans b
theorem gu.lw{S:Nat->Prop}{w w':ae}(h:gu S w w'){p:uC}{v:ag}(b:w.cell? p=some v)(hn:¬S p.block):w'.cell? p=some v:=(gu.cell h (lt_of_cell b) hn).trans b
theorem gu.zn{S:Nat->Prop}{w w':ae}(h:gu S w w'){p:uC}(b:w.frozen? p=false)(hl:p.block<w.heap.size)(hn:¬S p.block):w'.frozen? p=false:=(gu.frozen h hl hn).trans b
theorem Ext.zn{w w':ae}(h:Ext w w'){p:uC}(b:w.frozen? p=false)(hl:p.block<w.heap.size):w'.frozen? p=false:=(gu.frozen h hl (fun h=>h)).trans b
theorem lt_of_heap{w:ae}{k:Nat}{o:Obj}(h:w.heap[k]?=some o):k<w.heap.size:=(Array.getElem?_eq_some_iff.1 h).1
theorem gu.blk{S:Nat->Prop}{w w':ae}(h:gu S w w'){k:Nat}{o:Obj}(b:w.heap[k]?=some o)(hn:¬S k):w'.heap[k]?=some o:=(h.block k (lt_of_heap b) hn).trans b
theorem Ext.blk{w w':ae}(h:Ext w w'){k:Nat}{o:Obj}(b:w.heap[k]?=some o):w'.heap[k]?=some o:=gu.blk h b (fun h=>h)
theorem Ext.size'{w w':ae}(h:Ext w w'):w.heap.size<=w'.heap.size:=gu.size h
theorem Ext.rules{w w':ae}(h:Ext w w'):(∀ b o,b<w.heap.size->w'.cell? ⟨b,o,none⟩=w.cell? ⟨b,o,none⟩)/\(∀ b o,b<w.heap.size->w'.frozen? ⟨b,o,none⟩=w.frozen? ⟨b,o,none⟩):=⟨fun b o c=>gu.cell (p:=⟨b,o,none⟩) h c (fun h=>h),fun b o c=>gu.frozen (p:=⟨b,o,none⟩) h c (fun h=>h)⟩
def f_(w:ae)(g:Nat)(t:bi)(cs:Array ag):Prop:=w.heap[g]?=some (.cells cs t (0,0))
section
variable {w w':ae} {g:Nat} {t:bi} {cs:Array ag}
theorem f_.lt(h:f_ w g t cs):g<w.heap.size:=lt_of_heap h
theorem f_.cell(h:f_ w g t cs)(i:Nat):w.cell? ⟨g,i,none⟩=cs[i]?:=cell_of_row w g i cs t (0,0) h
theorem f_.frozen(h:f_ w g t cs)(i:Nat):w.frozen? ⟨g,i,none⟩=false:=by unfold f_ at h;simp[aDo,h]
theorem f_.new(w:ae)(t:bi)(cs:Array ag):f_ (w.alloc (.cells cs t)) w.heap.size t cs:=aAu w _
theorem f_.new'(w:ae)(t:bi)(cs:Array ag){g:Nat}(b:g=w.heap.size):f_ (w.alloc (.cells cs t)) g t cs:=by subst b;exact aAu w _
theorem f_.drew(h:f_ w g t cs):f_ w.drew g t cs:=h
theorem f_.drewN(h:f_ w g t cs)(n:Nat):f_ (w.drewN n) g t cs:=h
theorem f_.alloc(h:f_ w g t cs)(o:Obj):f_ (w.alloc o) g t cs:=(Below.heap_alloc w o g h.lt).trans h
theorem f_.BH(h:f_ w g t cs)(i:Nat)(u:ag):f_ (w.setCell ⟨g,i,none⟩ u) g t (cs.setIfInBounds i u):=by unfold f_ at h ⊢;simp[World.setCell,Array.getElem?_modify,h]
theorem f_.far(h:f_ w g t cs){p:uC}(b:g≠p.block)(u:ag):f_ (w.setCell p u) g t cs:=(Below.heap_setCell w p u g b).trans h
theorem f_.iq{S:Nat->Prop}(h:f_ w g t cs)(hc:gu S w w')(hn:¬S g):f_ w' g t cs:=gu.blk hc h hn
theorem f_.En{a:ag}(h:f_ w g t #[a]):w.cell? ⟨g,0,none⟩=some a/\(∀ i,w.frozen? ⟨g,i,none⟩=false)/\g<w.heap.size:=⟨h.cell 0,h.frozen,h.lt⟩
theorem f_.ext(h:f_ w g t cs)(hc:Ext w w'):f_ w' g t cs:=Ext.blk hc h
end
def held(w:ae)(p:uC):ag:=(w.cell? p).getD bz
theorem Ry{w:ae}{p:uC}{v:ag}(h:w.cell? p=some v):held w p=v:=by unfold held;rw[h];rfl
theorem aGr{w:ae}{p:uC}{v:ag}(h:w.cell? p=some v):w.cell? p=some (held w p):=by rw[Ry h];exact h
theorem qI(a:uC)(n:Nat):(a.add n).block=a.block:=by unfold Addr.add;split<;>rfl
theorem bBf(a:uC)(i j:Nat):(a.add i).add j=a.add (i+j):=by
 unfold Addr.add
 by_cases c:i=0<;>by_cases b:j=0<;>simp[c,b,Yt]
theorem add_lit(b o n:Nat):(⟨b,o,none⟩:uC).add n=⟨b,o+n,none⟩:=by unfold Addr.add;split<;>simp_all
def Reads(w:ae)(size:Nat)(v:ag)(n:Nat)(xs:List ag):Prop:=xs.length=n*size/\∃ A c,v=.slice A n c/\n<=c/\c<=uk/\(0<n->∃ b o,A=some ⟨b,o,none⟩/\∀ j u,xs[j]?=some u->w.cell? ⟨b,o+j,none⟩=some u)
section
variable {w w':ae} {size n:Nat} {v:ag} {xs:List ag}
theorem Reads.nil(w:ae)(size:Nat):Reads w size (.slice none 0 0) 0 []:=⟨by simp,none,0,rfl,dC _,xn _,fun h=>absurd h (by omega)⟩
theorem Reads.keep(h:Reads w size v n xs)(k:∀ p u,w.cell? p=some u->w'.cell? p=some u):Reads w' size v n xs:=by obtain⟨y,A,c,rfl,x,q,m⟩:=h;refine⟨y,A,c,rfl,x,q,fun i=>?_⟩;obtain⟨b,o,rfl,l⟩:=m i;exact⟨b,o,rfl,fun j u f=>k _ _ (l j u f)⟩
theorem Reads.ext(h:Reads w size v n xs)(b:Ext w w'):Reads w' size v n xs:=h.keep (fun _ _ c=>Ext.lw b c)
theorem Reads.v_{b:Nat}{e:bi}(h:w.ownsRow b e size v n xs):Reads w size v n xs:=by
 refine⟨h.1,?_⟩;rcases h.2 with⟨rfl,rfl⟩|⟨g,cap,cur,rfl,o,m,f,i,l,c⟩
 exact⟨none,0,rfl,dC _,xn _,fun h=>absurd h (by omega)⟩;refine⟨_,cap,rfl,f,i,fun _=>⟨g,0,rfl,fun j u k=>?_⟩⟩;have:=h.cells (g:=g) rfl j u k;rwa [add_lit] at this
end
section
variable {w w':ae} {size n:Nat} {v:ag} {xs:List ag}
theorem Reads.iq{S:Nat->Prop}(h:Reads w size v n xs)(l:gu S w w')(hS:∀ k,0<n->v.ownBlock=some k->¬S k):Reads w' size v n xs:=by obtain⟨y,A,c,rfl,x,q,p⟩:=h;refine⟨y,A,c,rfl,x,q,fun f=>?_⟩;obtain⟨b,o,rfl,m⟩:=p f;exact⟨b,o,rfl,fun j u i=>gu.lw l (m j u i) (hS b f rfl)⟩
theorem Reads.GV{k:Nat}(h:Reads w 1 v n xs)(p:k<n):∃ b o c u,v=.slice (some ⟨b,o,none⟩) n c/\n<=c/\c<=uk/\b<w.heap.size/\xs[k]?=some u/\w.cell? ⟨b,o+k,none⟩=some u:=by
 obtain⟨q,A,c,rfl,m,l,j⟩:=h;obtain⟨b,o,rfl,i⟩:=j (by omega);have f:k<xs.length:=by omega
 have:=i k _ (aAB f);exact⟨b,o,c,xs[k],rfl,m,l,lt_of_cell this,aAB f,this⟩
theorem Reads.at2{k:Nat}(h:Reads w 2 v n xs)(z:k<n):∃ b o c j i,v=.slice (some ⟨b,o,none⟩) n c/\n<=c/\c<=uk/\b<w.heap.size/\xs[k*2]?=some j/\xs[k*2+1]?=some i /\
  w.cell? ⟨b,o+k*2,none⟩=some j/\w.cell? ⟨b,o+k*2+1,none⟩=some i:=by
 obtain⟨C,A,c,rfl,y,x,u⟩:=h;obtain⟨b,o,rfl,m⟩:=u (by omega);have l:k*2<xs.length:=by omega
 have f:k*2+1<xs.length:=by omega
 have q:=m (k*2) _ (aAB l);have p:=m (k*2+1) _ (aAB f);exact⟨b,o,c,_,_,rfl,y,x,lt_of_cell q,aAB l,aAB f,q,by rw[<-Yt] at p;exact p⟩
theorem Reads.Cj(h:Reads w size v n xs)(f:0<size)(hn:0<n):∀ k,v.ownBlock=some k->k<w.heap.size:=by
 obtain⟨p,B,c,rfl,u,q,m⟩:=h;obtain⟨b,o,rfl,l⟩:=m hn;intro k j;cases j;have i:0<xs.length:=by rw[p];exact Nat.mul_pos hn f
 exact lt_of_cell (l 0 xs[0] (aAB i))
theorem Reads.AZ(h:Reads w size v n xs):n<=uk:=by obtain⟨j,A,c,rfl,i,f,b⟩:=h;omega
end
theorem Reads.new(w:ae)(cs:Array ag)(e:bi)(size n c:Nat)(xs:List ag)(f:xs.length=n*size)(hc:n<=c)(k:c<=uk)(i:cs.toList.take xs.length=xs) :
  Reads (w.alloc (.cells cs e)) size (.slice (some ⟨w.heap.size,0,none⟩) n c) n xs:=by
 refine⟨f,_,c,rfl,hc,k,fun _=>⟨w.heap.size,0,rfl,fun j u b=>?_⟩⟩;have l:j<xs.length:=by rcases Yk j xs.length with h|h;exact h;rw[YQ h] at b;cases b
 rw[ik,World.cell?_alloc_new];rw[<-i,x8,if_pos l] at b;simpa using b
theorem Reads.Bl(w:ae)(u:ag)(e:bi):Reads (w.alloc (.cells #[u] e)) 1 (.slice (some ⟨w.heap.size,0,none⟩) 1 1) 1 [u]:=Reads.new w #[u] e 1 1 1 [u] rfl (dC _) (by unfold uk;omega) rfl
structure BF(P:dE)(t e:bi)(size bytes:Nat):Prop where
 und:P.underlying t=some (.slice e)
 info:∃ (i:TypeInfo) (z:ag),P.info? e=some i/\i.zero=some z/\i.size=size/\i.bytes=bytes/\z.cells.size=size
 pos:0<size
 bpos:0<bytes
theorem BF.mk'{P:dE}{t e:bi}{z:ag}{size bytes:Nat}(c:P.underlying t=some (.slice e))(h:(P.info? e).map (fun i=>(i.zero,i.size,i.bytes))=some (some z,size,bytes))(b:z.cells.size=size)(h0:0<size)(hb:0<bytes):BF P t e size bytes:=by obtain⟨i,f,l,k,j⟩:=info_parts h;exact⟨c,⟨i,z,f,l,k,j,b⟩,h0,hb⟩
def fG(xs:List ag):Prop:=∀ u∈xs,u.oneCell'=true
theorem fG.map{α:Type}{f:α->ag}(c:∀ a,(f a).oneCell'=true)(l:List α):fG (l.map f):=by intro u b;obtain⟨a,_,rfl⟩:=List.mem_map.1 b;exact c a
theorem fG.one{u:ag}(h:u.oneCell'=true):fG [u]:=by intro x b;simp at b;subst b;exact h
theorem pG{w w':ae}{b:Nat}{e:bi}{size:Nat}{v:ag}{n:Nat}{xs:List ag}{S:Nat->Prop}(h:w.ownsRow b e size v n xs)(hc:gu S w w')(hS:∀ k,v.ownBlock=some k->¬S k):w'.ownsRow b e size v n xs:=by refine⟨h.1,?_⟩;rcases h.2 with i|⟨g,cap,cur,rfl,j,f,c⟩;exact .inl i;exact .inr ⟨g,cap,cur,rfl,j,gu.blk hc f (hS g rfl),c⟩
theorem eG{w w':ae}{b:Nat}{e:bi}{size:Nat}{v:ag}{n:Nat}{xs:List ag}(h:w.ownsRow b e size v n xs)(hc:Ext w w'):w'.ownsRow b e size v n xs:=pG h hc (fun _ _ h=>h)
theorem bEj(w:ae)(B:Nat)(e:bi)(size:Nat)(hb:B<=w.heap.size):(w.alloc (.cells #[] e)).ownsRow B e size (.slice (some ⟨w.heap.size,0,none⟩) 0 0) 0 []:=⟨by simp,.inr ⟨w.heap.size,0,#[],rfl,hb,aAu w _,dC _,xn _,by simp,by simp⟩⟩
section
variable {P:dE} {w:ae}
theorem QE{B:Nat}{t ty e:bi}{size bytes:Nat}(T:BF P t e size bytes){v:ag}{n:Nat}{xs:List ag}(l:w.ownsRow B e size v n xs)
  {u:ag} {m:Nat} {f:List ag} (hr:Reads w size u m f) (h1:fG f) (x:(n+m)*bytes<=140737488355328) (C:B<=w.heap.size) :
  ∃ E w',(Builtin.append_ #[t,t] ty #[v,u]).run P w=.ok E w'/\w'.ownsRow B e size E (n+m) (xs++f)/\gu (fun k=>v.ownBlock=some k) w w' /\
   (E.ownBlock=v.ownBlock\/∃ g,E.ownBlock=some g/\w.heap.size<=g/\g<w'.heap.size):=by
 obtain⟨L,⟨i,z,U,hz,y,V,K⟩,N,W⟩:=T;obtain⟨Q,A,c,rfl,a0,a1,p⟩:=hr;have Y:n+m<=uk:=by have:(n+m)*1<=(n+m)*bytes:=Nat.mul_le_mul_left _ W;unfold uk;omega
 rcases A with _|ad
 have hm:m=0:=by rcases ZP m with D|D;exact D;obtain⟨b,o,h,_⟩:=p D;cases h
 subst hm;have I:f=[]:=aAZ (by simpa using Q);subst I;refine⟨v,w,?_,by simpa using l,gu.refl _ _,.inl rfl⟩;rcases l.2 with⟨rfl,rfl⟩|⟨g,cap,cur,rfl,_,_,O,_⟩;simp[Builtin.append_,xy L,sizeOf,Yj,U,Builtin.lenOf,Builtin.firstCells];simp[Builtin.append_,xy L,sizeOf,Yj,U,Builtin.lenOf,Builtin.firstCells,O,storeCells]
 have q:∀ j u,f[j]?=some u->w.cell? (ad.add j)=some u:=by
  intro j u Z;rcases ZP m with D|D;subst D;have I:f=[]:=aAZ (by simpa using Q);subst I;simp at Z;obtain⟨b,o,h,hc⟩:=p D
  injection h with h
  subst h;rw[add_lit];exact hc j u Z
 obtain⟨E,w',H,h2,J,_,G⟩:=run_append_own_at (P:=P) w B t ty e i z size bytes L U hz y V K N v n xs l ad m c f Q q h1 Y x C;refine⟨E,w',H,h2,⟨J.os,J.tape,J.output,J.size,fun k hk I=>J.block k hk (fun e=>I e.symm)⟩,?_⟩;rcases G with G|G;exact .inl G;exact .inr ⟨_,G,dC _,(h2.lt _ G).2⟩
theorem nS{w:ae}{B:Nat}{e:bi}{size:Nat}{v:ag}{n:Nat}{xs:List ag}(h:w.ownsRow B e size v n xs):∃ A c,v=.slice A n c:=by
 rcases h.2 with⟨rfl,rfl⟩|⟨g,cap,cur,rfl,_⟩
 exact⟨_,_,rfl⟩;exact⟨_,_,rfl⟩
theorem aVb{o:df}{a:Act}{K:Act->ae->Prop}{Q:nz->Act->ae->Prop}{s x:lL}{t:bi}
  (z:o.op=.call { callee:=.builtin .append,args:=#[s,x],argTypes:=#[t,t] })
  {B:Nat} {e:bi} {size bytes:Nat} (T:BF P t e size bytes) {v:ag} (hs:a.eval s=v) {n:Nat} {xs:List ag} (p:w.ownsRow B e size v n xs)
  {u:ag} (y:a.eval x=u) {m:Nat} {b:List ag} (hr:Reads w size u m b) (h1:fG b) (c:(n+m)*bytes<=140737488355328) (f:B<=w.heap.size)
  (h:∀ (j:Option uC) (i:Nat) w',w'.ownsRow B e size (.slice j (n+m) i) (n+m) (xs++b)->gu (fun k=>v.ownBlock=some k) w w'->((Yu j (n+m) i).ownBlock=v.ownBlock\/∃ g,(Yu j (n+m) i).ownBlock=some g/\w.heap.size<=g/\g<w'.heap.size)->K (a.put o.dst (.slice j (n+m) i)) w'):o.wp P a w K Q:=by
 obtain⟨D,w',l,q,C,A⟩:=QE (P:=P) (ty:=o.type) T p hr h1 c f;unfold Oper.wp uu;simp only[z,resolve,invoke,builtin,Sem.run_bind,Sem.run_pure,Result.andThen_ok,aBc,DD,ZY,hs,y,l];obtain⟨j,i,rfl⟩:=nS q;exact h j i w' q C A
theorem IV{ops:Array df}{o:df}{a:Act}{K:Act->ae->Prop}{Q:nz->Act->ae->Prop}{E:Prop}(p:o.guard=none){s x:lL}{t:bi}
  (z:o.op=.call { callee:=.builtin .append,args:=#[s,x],argTypes:=#[t,t] })
  {B:Nat} {e:bi} {size bytes:Nat} (T:BF P t e size bytes) {v:ag} (hs:a.eval s=v) {n:Nat} {xs:List ag} (i:w.ownsRow B e size v n xs)
  {u:ag} (q:a.eval x=u) {m:Nat} {b:List ag} (hr:Reads w size u m b) (h1:fG b) (c:(n+m)*bytes<=140737488355328) (f:B<=w.heap.size)
  (h:∀ (l:Option uC) (j:Nat) w',w'.ownsRow B e size (.slice l (n+m) j) (n+m) (xs++b)->gu (fun k=>v.ownBlock=some k) w w'->((Yu l (n+m) j).ownBlock=v.ownBlock\/∃ g,(Yu l (n+m) j).ownBlock=some g/\w.heap.size<=g/\g<w'.heap.size)->K (a.put o.dst (.slice l (n+m) j)) w') :
  if Region.wanted o (YV ops a.tmps)=true then Oper.wp P o a w K Q else E:=by
 have y:Region.wanted o (YV ops a.tmps)=true:=by simp[Region.wanted,p]
 rw[if_pos y];exact aVb z T hs i q hr h1 c f h
theorem fE{ops:Array df}{rest:List df}{o:df}{a:Act}{Q:nz->Act->ae->Prop}(p:o.guard=none){s x:lL}{t:bi}
  (y:o.op=.call { callee:=.builtin .append,args:=#[s,x],argTypes:=#[t,t] })
  {B:Nat} {e:bi} {size bytes:Nat} (T:BF P t e size bytes) {v:ag} (hs:a.eval s=v) {n:Nat} {xs:List ag} (l:w.ownsRow B e size v n xs)
  {u:ag} (q:a.eval x=u) {m:Nat} {b:List ag} (hr:Reads w size u m b) (h1:fG b) (c:(n+m)*bytes<=140737488355328) (f:B<=w.heap.size)
  (h:∀ (j:Option uC) (i:Nat) w',w'.ownsRow B e size (.slice j (n+m) i) (n+m) (xs++b)->gu (fun k=>v.ownBlock=some k) w w'->((Yu j (n+m) i).ownBlock=v.ownBlock\/∃ g,(Yu j (n+m) i).ownBlock=some g/\w.heap.size<=g/\g<w'.heap.size)->ZE P ops Q rest (a.put o.dst (.slice j (n+m) i)) w'):ZE P ops Q (o::rest) a w:=
 wpList_plain p fun _ z=>aVb y T hs l q hr h1 c f fun j i w' D C A=>z _ _ (h j i w' D C A)
end
theorem bEk{w:ae}{B:Nat}{e:bi}{v:ag}{n k:Nat}{xs:List ag}(h:w.ownsRow B e 1 v n xs)(q:k<n) :
  ∃ g cap u,v=.slice (some ⟨g,0,none⟩) n cap/\B<=g/\g<w.heap.size/\xs[k]?=some u/\w.cell? ⟨g,k,none⟩=some u/\∀ i,w.frozen? ⟨g,i,none⟩=false:=by
 have p:=h.1;rcases h.2 with⟨rfl,rfl⟩|⟨g,cap,cur,rfl,o,c,j,m,l,b⟩;omega;have f:=h.cells (g:=g) rfl k xs[k] (aAB (by omega));rw[add_lit,ik] at f
 exact⟨g,cap,xs[k],rfl,o,lt_of_heap c,aAB (by omega),f,fun i=>by simp[aDo,c]⟩
structure Acc where
 kind:Int
 pg:Int
 cell:Int
 bytes:ByteArray
abbrev jc:=List Acc
structure qj where
 val:Int
 bytes:ByteArray
abbrev qy:=List Acc->Option qj
def Acc.v(a:Acc):ag:=.agg #[.int .i64 a.kind,.int .i64 a.pg,.int .i64 a.cell,.string a.bytes]
def qj.v(r:qj):ag:=.agg #[.int .i64 r.val,.string r.bytes]
def aG:ByteArray:={ data:=#[] }
inductive aj(α:Type):Type where
 |ret (a:α)
 |ask (a:Acc) (k:qj->aj α)
def aj.bind{α b:Type}:aj α->(α->aj b)->aj b
 |.ret a,f=>f a|.ask a k,f=>.ask a fun r=>(k r).bind f
theorem aj.OJ{α b:Type}(a:α)(f:α->aj b):(aj.ret a).bind f=f a:=rfl
theorem aj.bind_assoc{α b c:Type}(p:aj α)(f:α->aj b)(g:b->aj c):(p.bind f).bind g=p.bind fun a=>(f a).bind g:=by
 induction p with
 |ret a=>rfl|ask a k h=>simp only[aj.bind];congr 1;funext r;exact h r
def aj.run{α σ ε:Type}(d:Acc->σ->EStateM.Result ε σ qj):aj α->σ->EStateM.Result ε σ α
 |.ret a,s=>.ok a s|.ask a k,s=>match d a s with
  |.ok r b=>(k r).run d b|.error e b=>.error e b
def aj.All{α:Type}(R:α->Prop):aj α->Prop
 |.ret a=>R a|.ask _ k=>∀ r,aj.All R (k r)
theorem aj.All.yt{α:Type}(p:aj α):aj.All (fun _=>True) p:=by
 induction p with
 |ret a=>trivial|ask a k b=>exact fun r=>b r
theorem aj.All.mono{α:Type}{R b:α->Prop}{p:aj α}(h:aj.All R p)(hr:∀ a,R a->b a):aj.All b p:=by
 induction p with
 |ret a=>exact hr a h|ask a k c=>exact fun r=>c r (h r)
theorem aj.All.bind{α b:Type}{R:α->Prop}{c:b->Prop}{p:aj α}{f:α->aj b}(h:aj.All R p)(j:∀ a,R a->aj.All c (f a)):aj.All c (p.bind f):=by
 induction p with
 |ret a=>exact j a h|ask a k i=>exact fun r=>i r (h r)
def replay(b:List qj)(a:Acc)(i:Nat):EStateM.Result Acc Nat qj:=
 match b[i]? with
 |some r=>.ok r (i+1)|none=>.error a i
def qj.cells(r:qj):List ag:=[.int .i64 r.val,.string r.bytes]
def logCells(b:List qj):List ag:=b.flatMap qj.cells
theorem aCd(b:List qj):∀ i,(logCells b)[i*2]?=(b[i]?).map (fun r=>ed .i64 r.val)/\(logCells b)[i*2+1]?=(b[i]?).map (fun r=>Value.string r.bytes):=by
 unfold logCells
 induction b with
 |nil=>intro i;simp| cons r l c=>
  intro i;cases i with
  |zero=>simp[qj.cells]|succ i=>have:=c i;rw[ZQ];simp only[qj.cells,Ya];rw[show (i+1)*2=i*2+1+1 from by omega];simpa using this
def mM{α σ ε:Type}(Inv:σ->(Nat->Prop)->ae->Prop)(S X:Nat->Prop)(pan:ε->ag)(w:ae)(val:α->ag)(r:EStateM.Result ε σ α)(e:Ending)(w':ae):Prop:=
 match r with
 |.ok a s=>e=.returned (val a)/\Inv s X w'/\gu S w w'|.error er s=>e=.panicked [{ v:=pan er,recovered:=false }]/\Inv s X w'/\gu S w w'
section
variable {α σ ε:Type} {Inv:σ->(Nat->Prop)->ae->Prop} {S X:Nat->Prop} {pan:ε->ag} {w w':ae} {val:α->ag} {r:EStateM.Result ε σ α} {e:Ending} {a:α} {s:σ} {er:ε}
theorem mM.ok(hr:r=.ok a s)(c:e=.returned (val a))(b:Inv s X w')(hc:gu S w w'):mM Inv S X pan w val r e w':=by subst hr;exact⟨c,b,hc⟩
theorem mM.err(hr:r=.error er s)(c:e=.panicked [{ v:=pan er,recovered:=false }])(b:Inv s X w')(hc:gu S w w'):mM Inv S X pan w val r e w':=by subst hr;exact⟨c,b,hc⟩
theorem mM.aDF(hr:r=.ok a s)(h:mM Inv S X pan w val r e w'):e=.returned (val a)/\Inv s X w'/\gu S w w':=by subst hr;exact h
theorem mM.Vu(hr:r=.error er s)(h:mM Inv S X pan w val r e w'):e=.panicked [{ v:=pan er,recovered:=false }]/\Inv s X w'/\gu S w w':=by subst hr;exact h
end
section
variable {P:dE} {F:FuncId} {caps:Array ag} {σ ε:Type} {d:Acc->σ->EStateM.Result ε σ qj} {pan:ε->ag} {Inv:σ->(Nat->Prop)->ae->Prop} {S X:Nat->Prop}
 {B:Nat} {ty:bi} {size:Nat} {s:σ} {v:ag} {n:Nat} {xs:List ag} {w w':ae}
end
end
def fV(x:UInt32)(n:UInt32):UInt32:=(x >>> n) ||| (x <<< (32-n))
def yu:List UInt32:=[
 0x428a2f98,0x71374491,0xb5c0fbcf,0xe9b5dba5,0x3956c25b,0x59f111f1,0x923f82a4,0xab1c5ed5,
 0xd807aa98,0x12835b01,0x243185be,0x550c7dc3,0x72be5d74,0x80deb1fe,0x9bdc06a7,0xc19bf174,
 0xe49b69c1,0xefbe4786,0x0fc19dc6,0x240ca1cc,0x2de92c6f,0x4a7484aa,0x5cb0a9dc,0x76f988da,
 0x983e5152,0xa831c66d,0xb00327c8,0xbf597fc7,0xc6e00bf3,0xd5a79147,0x06ca6351,0x14292967,
 0x27b70a85,0x2e1b2138,0x4d2c6dfc,0x53380d13,0x650a7354,0x766a0abb,0x81c2c92e,0x92722c85,
 0xa2bfe8a1,0xa81a664b,0xc24b8b70,0xc76c51a3,0xd192e819,0xd6990624,0xf40e3585,0x106aa070,
 0x19a4c116,0x1e376c08,0x2748774c,0x34b0bcb5,0x391c0cb3,0x4ed8aa4a,0x5b9cca4f,0x682e6ff3,
 0x748f82ee,0x78a5636f,0x84c87814,0x8cc70208,0x90befffa,0xa4506ceb,0xbef9a3f7,0xc67178f2]
def tY:List UInt32:=[0x6a09e667,0xbb67ae85,0x3c6ef372,0xa54ff53a,0x510e527f,0x9b05688c,0x1f83d9ab,0x5be0cd19]
def oC(l:List UInt8):UInt32:=l.foldl (fun n b=>(n <<< 8) ||| b.toUInt32) 0
def uQ(w:List UInt32):UInt32:=
 let i:=w.length;let x:=w.getD (i-15) 0;let y:=w.getD (i-2) 0
 w.getD (i-16) 0+((fV x 7 ^^^ fV x 18) ^^^ (x >>> 3))+w.getD (i-7) 0+((fV y 17 ^^^ fV y 19) ^^^ (y >>> 10))
def dB(b:List UInt8):Nat->List UInt32
 |0=>[]|i+1=>dB b i++[if i<16 then oC ((b.drop (4*i)).take 4) else uQ (dB b i)]
def sched(b:List UInt8):List UInt32:=dB b 64
theorem fK(b:List UInt8)(i:Nat):(dB b i).length=i:=by induction i with
 |zero=>rfl|succ i a=>simp[dB,a]
def aCy(v:List UInt32)(k w:UInt32):List UInt32:=
 let a:=v.getD 0 0;let b:=v.getD 1 0;let c:=v.getD 2 0;let d:=v.getD 3 0;let e:=v.getD 4 0;let f:=v.getD 5 0;let g:=v.getD 6 0;let h:=v.getD 7 0;let t:=h+((fV e 6 ^^^ fV e 11) ^^^ fV e 25)+((e &&& f) ^^^ (~~~e &&& g))+k+w;let u:=((fV a 2 ^^^ fV a 13) ^^^ fV a 22)+(((a &&& b) ^^^ (a &&& c)) ^^^ (b &&& c))
 [t+u,a,b,c,d+t,e,f,g]
def bP(b:List UInt8)(v:List UInt32):Nat->List UInt32
 |0=>v|k+1=>aCy (bP b v k) (yu.getD k 0) ((sched b).getD k 0)
def zK(b:List UInt8)(v:List UInt32):List UInt32:=bP b v 64
theorem kL(b:List UInt8)(v:List UInt32)(h:v.length=8)(k:Nat):(bP b v k).length=8:=by cases k with
 |zero=>exact h|succ k=>rfl
def nM(v:List UInt32)(b:List UInt8):List UInt32:=Z7 (·+·) (zK b v) v
def beBytes(n:Nat):Nat->List UInt8
 |0=>[]|k+1=>uB (n / 256 ^ k)::beBytes n k
def iF(m:List UInt8):List UInt8:=m++[128]++PR ((119-m.length % 64) % 64) 0++beBytes (8*m.length) 8
def lT:Nat->List UInt32->List UInt8->List UInt32
 |0,v,_=>v|n+1,v,m=>lT n (nM v (m.take 64)) (m.drop 64)
def sha(m:List UInt8):List UInt8:=(lT ((iF m).length / 64) tY (iF m)).flatMap fun w=>beBytes w.toNat 4
def CX(a m:List UInt8):List UInt8:=
 let k:=if a.length > 64 then sha a else a
 let b:=fun (x:UInt8)=>(AC 64).map fun i=>k.getD i 0 ^^^ x
 sha (b 0x5c++sha (b 0x36++m))
def LG(a m:List UInt8):List UInt8:=(CX a m).take 16
section
theorem CW(a:UInt32):0<=(a.toNat:Int)/\(a.toNat:Int)<4294967296:=by have:=a.toNat_lt;omega
theorem lt8(a:UInt8):0<=(a.toNat:Int)/\(a.toNat:Int)<256:=by have:=a.toNat_lt;omega
theorem aDB(a b:UInt32):bits BinOp.or We (a.toNat:Int) (b.toNat:Int)=((a ||| b).toNat:Int):=by rw[u32_or _ _ (CW a).1 (CW a).2 (CW b).1 (CW b).2];simp
theorem bJk(a b:UInt32):bits BinOp.and We (a.toNat:Int) (b.toNat:Int)=((a &&& b).toNat:Int):=by rw[u32_and _ _ (CW a).1 (CW a).2 (CW b).1 (CW b).2];simp
theorem Y2(a b:UInt32):bits BinOp.xor We (a.toNat:Int) (b.toNat:Int)=((a ^^^ b).toNat:Int):=by rw[u32_xor _ _ (CW a).1 (CW a).2 (CW b).1 (CW b).2];simp
theorem add32(a b:UInt32):((a.toNat:Int)+(b.toNat:Int)) % 4294967296=((a+b).toNat:Int):=by rw[UInt32.toNat_add];omega
theorem aBI(a b:UInt8):bits BinOp.xor ry (a.toNat:Int) (b.toNat:Int)=((a ^^^ b).toNat:Int):=by rw[u8_xor _ _ (lt8 a).1 (lt8 a).2 (lt8 b).1 (lt8 b).2];simp
theorem Ip(a:UInt32)(n:Nat)(hn:n<32):(a.toNat:Int) / 2 ^ n=((a >>> Yl n).toNat:Int):=by
 rw[UInt32.toNat_shiftRight,Nat.shiftRight_eq_div_pow];have:(Yl n).toNat % 32=n:=by simp;omega
 rw[this];simp
theorem UK(a:UInt32)(n:Nat)(hn:n<32):(a.toNat:Int)*2 ^ n % 4294967296=((a <<< Yl n).toNat:Int):=by
 rw[UInt32.toNat_shiftLeft,Nat.shiftLeft_eq];have:(Yl n).toNat % 32=n:=by simp;omega
 rw[this];simp
theorem OY(a b:UInt32):IntKind.u32.wrap ((a.toNat:Int)+(b.toNat:Int))=((a+b).toNat:Int):=by rw[IntKind.wrap_u32];exact add32 a b
theorem aDJ(a:UInt32):bits BinOp.xor We IntKind.u32.max (a.toNat:Int)=((~~~a).toNat:Int):=by rw[show IntKind.u32.max=(((-1:UInt32)).toNat:Int) from rfl,Y2,UInt32.neg_one_xor]
def w32(x:UInt32):ag:=.int .u32 (x.toNat:Int)
theorem bFc(n:Nat)(hn:0<n)(a:n<32):bits BinOp.and IntKind.u64 (IntKind.wrap .u64 (-(n:Int))) 31=((32-n:Nat):Int):=by
 have h:IntKind.wrap .u64 (-(n:Int))=((18446744073709551616-n:Nat):Int):=by rw[aAJ];omega
 rw[h,u64_and _ _ a_ a_ a_ a_];rw[Int.toNat_natCast,show (31:Int).toNat=2 ^ 5-1 from rfl,Nat.and_two_pow_sub_one_eq_mod];omega
theorem VV(x:UInt32)(n:Nat)(hn:0<n)(a:n<32):bits BinOp.or We ((x.toNat:Int)*2 ^ (32-n) % 4294967296) ((x.toNat:Int) / 2 ^ n)=((fV x (Yl n)).toNat:Int):=by
 rw[UK x (32-n) a_,Ip x n a,aDB];unfold fV;have e:Yl (32-n)=32-Yl n:=by apply UInt32.toNat_inj.1;rw[UInt32.toNat_sub];simp;omega
 rw[e,UInt32.or_comm]
theorem JF(x:UInt32)(n:Nat)(w:ae)(hn:0<n)(a:n<32) :
  mf prog 206 #[.int .u32 (x.toNat:Int),.int .i64 (-(n:Int))] w fun e b=>e=.returned (.int .u32 ((fV x (Yl n)).toNat:Int))/\w=b:=by
 have c:=hide (VV x n hn a);have d:=x.toNat_lt;have g:=bFc n hn a;have f:IntKind.wrap .u64 (32-((32-n:Nat):Int))=(n:Int):=by rw[show (32:Int)-((32-n:Nat):Int)=(n:Int) by omega];exact IntWalk.u64_in _ a_
 go_enter func206,ntmps206
 go_wp2
 go_ret;exact⟨uY (aA c),rfl⟩
def uX(x:UInt32)(ns:List Nat):UInt32:=ns.foldl (fun o n=>o ^^^ fV x (Yl n)) 0
theorem lS{a:Type}(l:List a)(k:Nat)(h:k<l.length):l.take (k+1)=l.take k++[l[k]]:=by rw[aEd,zH h];rfl
theorem aSk(x:UInt32)(ns:List Nat)(k:Nat)(h:k<ns.length):uX x (ns.take (k+1))=uX x (ns.take k) ^^^ fV x (Yl ns[k]):=by rw[lS ns k h];unfold uX;rw[aBB];rfl
theorem aVp(x:UInt32)(ns:List Nat)(v:ag)(w:ae)(h:Reads w 1 v ns.length (ns.map fun n:Nat=>ed .i64 (n:Int)))(hn:∀ n∈ns,0<n/\n<32) :
  mf prog 204 #[.int .u32 (x.toNat:Int),v] w fun e f=>e=.returned (.int .u32 ((uX x ns).toNat:Int))/\w=f:=by
 have z:=hide h;have p:=h.AZ;unfold uk at p;obtain⟨_,B,c,rfl,_,_,_⟩:=h
 go_enter func204,ntmps204
 go_wp2
 go_loop [5,10] (fun o i=>∃ k:Nat,k<=ns.length/\i=.int .i64 k/\o=.int .u32 ((uX x (ns.take k)).toNat:Int)) (fun _ i=>ns.length-(intOf i).toNat)
 case atStart=>exact⟨0,xn _,rfl,rfl⟩
 case round=>
  obtain⟨k,A,rfl,rfl⟩:=hrel;by_cases a:k<ns.length
  ·obtain⟨b,o,E,u,m,_,_,C,g,d⟩:=(aA z).GV a;cases m;rw[XN,zH a] at g;cases g;obtain⟨l,j⟩:=hn _ (ZN a);have t:=hide (aSk x ns k a);have r:=hide (Y2 (uX x (ns.take k)) (fV x (Yl ns[k])));dsimp only at d;have y:=hide (fun w=>JF x ns[k] w l j);generalize ns[k]=n at *;generalize uX x (ns.take k)=q at *;have D:IntKind.wrap .i64 (-(n:Int)) = -(n:Int):=IntWalk.i64_in _ a_
   go_wp2_with fail
   refine (aA y _).mono ?_;rintro e f ⟨rfl,rfl⟩
   go_wp2
   go_round
   case rel=>exact⟨k+1,a_,by go_num,int_eq (by rw[aA t];exact aA r)⟩
   case measure=>simp[intOf];omega
  ·obtain rfl:k=ns.length:=a_;have s:=hide (show uX x (ns.take ns.length)=uX x ns by rw[Zc])
   go_wp2
   go_ret;exact⟨uY (by first|rfl|rw[aA s]),rfl⟩
structure Onto(w:ae)(v:ag)(w':ae)(v':ag):Prop where
 iq:gu (fun k=>v.ownBlock=some k) w w'
 own:v'.ownBlock=v.ownBlock\/∃ g,v'.ownBlock=some g/\w.heap.size<=g
theorem Onto.refl(w:ae)(v:ag):Onto w v w v:=⟨gu.refl _ _,.inl rfl⟩
theorem Onto.trans{a b c:ae}{u v x:ag}(h:Onto a u b v)(k:Onto b v c x):Onto a u c x:=by refine⟨h.iq.trans' k.iq (fun _ _ h=>h) (fun i j e=>?_),?_⟩;rcases h.own with d|⟨g,d,f⟩;rw[<-d];exact e;rw[d] at e;cases e;omega;rcases k.own with d|⟨g,d,f⟩;rw[d];exact h.own;exact .inr ⟨g,d,PP h.iq.size f⟩
theorem Onto.ext{a b c:ae}{u v:ag}(h:Onto a u b v)(k:Ext b c):Onto a u c v:=⟨h.iq.ext k,h.own⟩
theorem Onto.app{w w':ae}{v a:ag}(hc:gu (fun k=>v.ownBlock=some k) w w')(b:a.ownBlock=v.ownBlock\/∃ g,a.ownBlock=some g/\w.heap.size<=g/\g<w'.heap.size):Onto w v w' a:=⟨hc,b.imp id fun⟨g,d,c,_⟩=>⟨g,d,c⟩⟩
theorem Onto.FB{w0 w w':ae}{v a:ag}(h0:Ext w0 w)(h:Onto w v w' a)(b:∀ g,v.ownBlock=some g->w0.heap.size<=g):Ext w0 w':=h0.trans' h.iq (fun _ _ h=>h) (fun i c e=>by have:=b i e;omega)
def jk(b:UInt8):ag:=.int .u8 (b.toNat:Int)
theorem aUp(l:dh)(k:Nat)(h:k<l.length):oC (l.take (k+1))=(oC (l.take k) <<< 8) ||| l[k].toUInt32:=by rw[lS l k h];unfold oC;rw[aBB];rfl
theorem XZ(b:UInt8):(b.toNat:Int)=(b.toUInt32.toNat:Int):=b_
theorem LW(l:dh)(v:ag)(w:ae)(h:Reads w 1 v l.length (l.map jk)) :
  mf prog 203 #[v] w fun e j=>e=.returned (.int .u32 ((oC l).toNat:Int))/\w=j:=by
 have s:=hide h;have n:=h.AZ;unfold uk at n;obtain⟨_,B,c,rfl,_,_,_⟩:=h
 go_enter func203,ntmps203
 go_wp2
 go_loop [3,8] (fun o i=>∃ k:Nat,k<=l.length/\i=.int .i64 k/\o=.int .u32 ((oC (l.take k)).toNat:Int)) (fun _ i=>l.length-(intOf i).toNat)
 case atStart=>exact⟨0,xn _,rfl,rfl⟩
 case round=>
  obtain⟨k,x,rfl,rfl⟩:=hrel;by_cases d:k<l.length
  ·obtain⟨b,o,C,u,m,_,_,y,g,f⟩:=(aA s).GV d;cases m;rw[XN,zH d] at g;cases g;unfold jk at f;have r:=hide (aUp l k d);generalize l[k]=z at *;generalize oC (l.take k)=a at *;have t:=z.toNat_lt;have A:=a.toNat_lt;have p:=hide (show bits BinOp.or We ((a.toNat:Int)*2 ^ 8 % 4294967296) (z.toNat:Int)=((a <<< 8 ||| z.toUInt32).toNat:Int) from by rw[UK a 8 a_,XZ,aDB];rfl)
   go_wp2
   go_round
   case rel=>exact⟨k+1,a_,by go_num,int_eq (by rw[aA r];exact aA p)⟩
   case measure=>simp[intOf];omega
  ·obtain rfl:k=l.length:=a_;have q:=hide (show oC (l.take l.length)=oC l by rw[Zc])
   go_wp2
   go_ret;exact⟨uY (by first|rfl|rw[aA q]),rfl⟩
theorem kW:BF prog 74 5 1 1:=BF.mk' (z:=.int .u8 0) ah ah rfl a_ a_
theorem beBytes_length(n k:Nat):(beBytes n k).length=k:=by induction k with
 |zero=>rfl|succ k a=>unfold beBytes;simp[a]
theorem aGu(n:Nat):∀ (many j:Nat),j<many->(beBytes n many)[j]?=some (uB (n / 256 ^ (many-1-j)))
 |0,j,h=>a_|many+1,0,h=>by simp[beBytes]|many+1,j+1,h=>by rw[beBytes,Ya,aGu n many j a_,show many+1-1-(j+1)=many-1-j from a_]
theorem aQy(n many k:Nat)(h0:0<k)(a:k<=many):(beBytes n many).take (many-(k-1))=(beBytes n many).take (many-k)++[uB (n / 256 ^ (k-1))]:=by rw[show many-(k-1)=many-k+1 from a_,aEd,aGu n many (many-k) a_,show many-1-(many-k)=k-1 from a_];rfl
theorem byte_of(n k:Nat):(n:Int) / 2 ^ (8*k) % 256=((uB (n / 256 ^ k)).toNat:Int):=by rw[show (2:Int) ^ (8*k)=((256 ^ k:Nat):Int) from by rw[Int.pow_mul];simp];simp
theorem bCl(v:ag)(m:Nat)(xs:ji)(n:Nat)(many:Nat)(B:Nat)(w:ae)(h:w.ownsRow B 5 1 v m xs)(s:B<=w.heap.size)(y:m<=1000000000)(C:many<=8) :
  mf prog 200 #[v,.int .u64 (n:Int),.int .i64 (many:Int)] w fun e g=>∃ c,e=.returned c/\g.ownsRow B 5 1 c (m+many) (xs++(beBytes n many).map jk)/\Onto w v g c:=by
 have u:=hide h;clear h
 go_enter func200,ntmps200
 go_wp2
 go_loopw [0,7] (fun b i wr=>∃ (k:Nat),k<=many/\i=.int .i64 ((k:Int)-1)/\Hid (wr.ownsRow B 5 1 b (m+(many-k)) (xs++((beBytes n many).take (many-k)).map jk)/\Onto w v wr b)) (fun _ i _=>(intOf i+1).toNat)
 case atStart=>exact⟨many,dC _,rfl,hide ⟨by rw[Yf];simpa using aA u,Onto.refl _ _⟩⟩
 case round=>
  obtain⟨k,r,rfl,a⟩:=hrel;by_cases f:0<k
  ·have E:(0:Int)<=(k:Int)-1:=a_;have D:IntKind.wrap .i64 (8*((k:Int)-1))=((8*(k-1):Nat):Int):=by rw[IntWalk.i64_in _ a_];omega
   have A:=byte_of n (k-1);have t:=hide (aQy n many k f r);generalize uB (n / 256 ^ (k-1))=z at *;have d:Hid (B<=wr.heap.size):=hide (PP s (aA a).2.iq.size)
   go_wp2_with (at_builtin;refine fE rfl rfl kW rfl (eG (aA a).1 ((Ext.refl _).alloc _)) rfl (Reads.Bl _ _ _) (fG.one rfl) a_ (PP (aA d) b_) ?_;intro G F x l o j)
   have q:=hide (az l (((aA a).2.ext ((Ext.refl wr).alloc _)).trans (Onto.app o j)));clear l o j
   go_wp2
   go_roundw
   case rel=>exact⟨k-1,a_,by go_num,hide ⟨by rw[aA t,Z8,<-Pi,show m+(many-(k-1))=m+(many-k)+1 from a_];exact (aA q).1,(aA q).2⟩⟩
   case measure=>simp[intOf];omega
  ·obtain rfl:k=0:=a_
   go_wp2
   go_ret;have p:=(aA a).1;rw[Nat.sub_zero,YY (by rw[beBytes_length];exact dC _)] at p
   exact⟨_,rfl,p,(aA a).2⟩
theorem aNk(v:ag)(m:Nat)(xs:ji)(n:Nat)(many:Nat)(B:Nat)(w:ae)(b d:Int)(e1:b=(n:Int))(e2:d=(many:Int))(h:w.ownsRow B 5 1 v m xs)(i:B<=w.heap.size)(g:m<=1000000000)(_:n<18446744073709551616)(j:many<=8) :
  mf prog 200 #[v,.int .u64 b,.int .i64 d] w fun e a=>∃ A c,e=.returned (.slice A (m+many) c)/\a.ownsRow B 5 1 (.slice A (m+many) c) (m+many) (xs++(beBytes n many).map jk)/\Onto w v a (.slice A (m+many) c):=by
 subst e1 e2;refine (bCl v m xs n many B w h i g j).mono ?_;rintro e a ⟨l,rfl,f,k⟩;obtain⟨A,c,rfl⟩:=nS f;exact⟨A,c,rfl,f,k⟩
theorem fG.u8(l:dh):fG (l.map jk):=fG.map (fun _=>rfl) l
theorem clone_any(v:ag)(l:dh)(w:ae)(h:Reads w 1 v l.length (l.map jk))(hn:l.length<=1000000000) :
  mf prog 160 #[v] w fun e m=>∃ n,e=.returned n/\m.ownsRow w.heap.size 5 1 n l.length (l.map jk)/\Ext w m:=by
 have t:=hide h;obtain⟨p,A,c,rfl,_,_,k⟩:=h;rcases A with _|a
 ·have r:l=[]:=by
   cases l with
   |nil=>rfl|cons x l=>obtain⟨b,o,e,_⟩:=k b_;cases e
  subst r;clear p k;simp only[Yg];have d:=fun w=>Lib.run_eql_slice_nil (P:=prog) w 74 5 none 0 c 0 0 underlying74
  go_enter func160,ntmps160
  go_wp2
  go_ret;exact⟨_,rfl,aFI _ _ _ _,Ext.refl _⟩
 ·clear p k;have d:=fun w=>Lib.run_eql_slice_nil (P:=prog) w 74 5 (some a) l.length c 0 0 underlying74
  go_enter func160,ntmps160
  go_wp2_with (at_builtin;refine fE rfl rfl kW rfl (bEj _ w.heap.size _ _ (dC _)) rfl ((aA t).ext ((Ext.refl w).alloc _)) (fG.u8 l) a_ b_ ?_;intro z y u f g j)
  have s:=hide (az f (az g j));clear f g j
  go_wp2
  go_ret;obtain⟨f,g,j⟩:=aA s
  refine⟨_,rfl,by simpa using f,?_⟩;exact ((Ext.refl w).alloc (.cells #[] 5)).trans' g (fun _ _ h=>h) (fun i q e=>by cases e;exact absurd q (Nat.lt_irrefl _))
structure y7(P:dE)(ty:bi)(n:Nat):Prop where
 und:∃ d,P.underlying ty=some d/\d.isRow=true
 info:(P.info? ty).map (·.size)=some n
theorem f_.range{w:ae}{g:Nat}{t:bi}{cs:kw}(h:f_ w g t cs):w.rangeAt g 0 cs.toList:=fun j v a=>by rw[ik,h.cell];simpa using a
theorem f_.Ea{w:ae}{g:Nat}{t:bi}{cs:kw}(h:f_ w g t cs):w.there g 0 cs.size:=fun j a=>by rw[ik,h.cell,h.frozen];simp[a]
theorem eU(b:Nat):∀ (a:ji) (o:Nat) (w:ae),gu (fun k=>k=b) w (w.setCells b o a)/\(w.setCells b o a).heap.size=w.heap.size:=by
 intro a
 induction a with
 |nil=>intro o w;exact⟨gu.refl _ _,rfl⟩|cons v a c=>intro o w;have h:=c (o+1) (w.setCell ⟨b,o,none⟩ v);refine⟨(gu.setCell (S:=fun k=>k=b) (p:=⟨b,o,none⟩) (gu.refl _ _) (.inl rfl) v).trans h.1,?_⟩;show ((w.setCell ⟨b,o,none⟩ v).setCells b (o+1) a).heap.size=_;rw[h.2];simp[World.setCell]
theorem aNs(b:Nat)(t:bi):∀ (c:ji) (a:ji) (old:ji) (w:ae),old.length=c.length->f_ w b t (a++old).toArray->f_ (w.setCells b a.length c) b t (a++c).toArray:=by
 intro c
 induction c with
 |nil=>intro a old w d h;cases old with|nil=>exact h|cons=>simp at d
 | cons v c g=>
  intro a old w d h;cases old with
  |nil=>simp at d|cons x old=>have f:=h.BH a.length v;have e:(a++x::old).toArray.setIfInBounds a.length v=((a++[v])++old).toArray:=b_;rw[e] at f;have:=g (a++[v]) old (w.setCell ⟨b,a.length,none⟩ v) (by simpa using d) f;simp only[gp,zl,Yg,ik,Pi,List.singleton_append] at this;exact this
theorem aEe{w:ae}{g:Nat}{t:bi}{old cs:kw}(h:f_ w g t old)(hs:old.size=cs.size):f_ (w.setCells g 0 cs.toList) g t cs:=by have:=aNs g t cs.toList [] old.toList w (by simpa using hs) (by simpa using h);simpa using this
section
variable {P:dE}
theorem Hq{o:df}{a:Act}{w:ae}{K:Act->je}{Q:nz->Act->je}{ty:bi}{x:lL}(e:o.op=.load ty x){n:Nat}(W:y7 P ty n)
  {g:Nat} (b:a.eval x=.pointer (some ⟨g,0,none⟩)) {t:bi} {cs:kw} (i:f_ w g t cs) (hn:cs.size=n) (h:K (a.put o.dst (.agg cs)) w):o.wp P a w K Q:=by
 obtain⟨d,c,f⟩:=W.und;refine wp_load_mid ty x e g 0 b cs.toList d i.range c f (by rw[uA,hn];exact W.info) ?_;rw[aEx];exact h
theorem iV{ops:Array df}{rest:List df}{o:df}{a:Act}{w:ae}{Q:nz->Act->je}(b:o.guard=none){ty:bi}{x:lL}(d:o.op=.load ty x){n:Nat}(W:y7 P ty n)
  {g:Nat} (c:a.eval x=.pointer (some ⟨g,0,none⟩)) {t:bi} {cs:kw} (f:f_ w g t cs) (hn:cs.size=n) (h:ZE P ops Q rest (a.put o.dst (.agg cs)) w):ZE P ops Q (o::rest) a w:=
 wpList_plain b fun _ e=>Hq d W c f hn (e _ _ h)
theorem aMx{o:df}{a:Act}{w:ae}{K:Act->je}{Q:nz->Act->je}{ty:bi}{x y:lL}(i:o.op=.store ty x y){n:Nat}(W:y7 P ty n)
  {g:Nat} (e:a.eval x=.pointer (some ⟨g,0,none⟩)) {cs:kw} (d:a.eval y=.agg cs) {t:bi} {old:kw} (c:f_ w g t old) (f:old.size=n) (hn:cs.size=n) (h1:cs.all (·.oneCell')=true)
  (h:∀ b,f_ b g t cs->gu (fun k=>k=g) w b->b.heap.size=w.heap.size->K (a.put o.dst bz) b):o.wp P a w K Q:=by
 refine wp_store_mid ty x y i g 0 cs e d (by rw[show cs.size=old.size from a_];exact c.Ea) (by rw[hn];exact W.info) h1 ?_;exact h _ (aEe c a_) (eU g cs.toList 0 w).1 (eU g cs.toList 0 w).2
theorem aV{ops:Array df}{rest:List df}{o:df}{a:Act}{w:ae}{Q:nz->Act->je}(d:o.guard=none){ty:bi}{x y:lL}(i:o.op=.store ty x y){n:Nat}(W:y7 P ty n)
  {g:Nat} (f:a.eval x=.pointer (some ⟨g,0,none⟩)) {cs:kw} (e:a.eval y=.agg cs) {t:bi} {old:kw} (l:f_ w g t old) (c:old.size=n) (hn:cs.size=n) (h1:cs.all (·.oneCell')=true)
  (h:∀ b,f_ b g t cs->gu (fun k=>k=g) w b->b.heap.size=w.heap.size->ZE P ops Q rest (a.put o.dst bz) b):ZE P ops Q (o::rest) a w:=
 wpList_plain d fun _ j=>aMx i W f e l c hn h1 fun b q p m=>j _ _ (h b q p m)
theorem jW{ops:Array df}{o:df}{a:Act}{w:ae}{K:Act->je}{Q:nz->Act->je}{E:Prop}(d:o.guard=none){ty:bi}{x y:lL}(j:o.op=.store ty x y){n:Nat}(W:y7 P ty n)
  {g:Nat} (f:a.eval x=.pointer (some ⟨g,0,none⟩)) {cs:kw} (e:a.eval y=.agg cs) {t:bi} {old:kw} (l:f_ w g t old) (c:old.size=n) (hn:cs.size=n) (h1:cs.all (·.oneCell')=true)
  (h:∀ b,f_ b g t cs->gu (fun k=>k=g) w b->b.heap.size=w.heap.size->K (a.put o.dst bz) b):if Region.wanted o (YV ops a.tmps)=true then Oper.wp P o a w K Q else E:=by
 have i:Region.wanted o (YV ops a.tmps)=true:=by simp[Region.wanted,d]
 rw[au i];exact aMx j W f e l c hn h1 h
end
end
section
theorem aVm{P:dE}{T e:bi}{n:Nat}(a:P.underlying T=some (.array n e)){ad:Option uC}{len c:Nat}(hl:n<=len)(w:ae):(Instr.arrayAt T (.slice ad len c)).run P w=.ok (.pointer ad) w:=by have h:¬len<n:=a_;simp[Instr.arrayAt,xy a,h]
def Gq(S:qo)(w w':ae):Prop:=∀ p v,¬S p.block->w.cell? p=some v->w'.cell? p=some v
theorem Gq.trans{S:qo}{a b c:ae}(h:Gq S a b)(k:Gq S b c):Gq S a c:=fun p v d e=>k p v d (h p v d e)
theorem Gq.Vw{S:qo}{a b:ae}(h:gu S a b):Gq S a b:=fun _ _ c d=>gu.lw h d c
def PH(w w':ae):Prop:=∀ (k:Nat) (o:Obj),w.heap[k]?=some o->o.isCells=true->w'.heap[k]?=some o
theorem cells_of_cell{w:ae}{p:uC}{v:ag}(h:w.cell? p=some v):∃ o,w.heap[p.block]?=some o/\o.isCells=true:=by
 have a:=lt_of_cell h;refine⟨_,ZR a,?_⟩;unfold World.cell? at h;rw[ZR a] at h
 cases b:w.heap[p.block]<;>simp_all [Obj.isCells]
theorem Gq.putObj{S:qo}(W:ae)(l:Nat){o:Obj}(f:Obj)(h:W.heap[l]?=some o)(g:o.isCells=false):Gq S W (W.putObj l f):=fun p v _ d=>by
 obtain⟨q,c,a⟩:=cells_of_cell d;have b:p.block≠l:=fun e=>by rw[e,h] at c;cases c;rw[g] at a;cases a
 rw[aFH (w:=W) (ZT b)];exact d
theorem PH.cell{w w':ae}(h:PH w w'){p:uC}{v:ag}(hc:w.cell? p=some v):w'.cell? p=some v:=by obtain⟨o,b,a⟩:=cells_of_cell hc;rw[aFH (w:=w) ((h _ _ b a).trans b.symm)];exact hc
theorem PH.blk{w w':ae}(h:PH w w'){g:Nat}{t:bi}{cs:kw}(hb:f_ w g t cs):f_ w' g t cs:=h _ _ hb rfl
theorem aB{P:dE}{f:FuncId}{fn:Func}{c:Code}(b:P.funcs[f]?=some fn)(a:(fn.name == "runtime.NumGoroutine")=false)(hb:fn.body=some c)(args:kw)(w:ae):(YR f args).run P w=.ok (.enter f args) w:=by
 have d:fn.name ≠ "runtime.NumGoroutine" := by simpa using a
 simp[YR,b,d,hb,mark]
theorem Ho{m:Type}{P:dE}{g:lL}{E:Array Tmp}{assign body:Code}{Q:nz->Act->je}{a:Act}{w:ae}
  {gf:Nat} {lb:kw} (V:a.eval g=.func (.func gf) #[] lb) (eg:∀ args w,(YR gf args).run P w=.ok (.enter gf args) w)
  {encs:m->kw} {S:qo} {all:List m} {N:Nat} (hS:∀ k,S k->k<w.heap.size)
  (s:SeqStopsK Fence.wide 2 P gf lb encs (Gq S) (fun I=>I=all) (fun _=>True) N w) (G:∀ x,(encs x).size=E.size)
  (J:List m->je) (Y:∀ c W j,J c W->PH W j->J c j) (h0:J [] w) (f:m->Act)
  (
   d:∀ (l:Nat) (x:m) (W:ae) (K:Act->je),K (f x) W ->
   assign.wpIn (Fence.wide.inRound l) 1 P (Exit.then K (fun _ _ _=>False)) { tmps:=(E.zip (encs x)).foldl (fun t (p,v)=>t.setIfInBounds p v) a.tmps,defers:=[] } W)
  (
   hbody:∀ (l:Nat) (c:List m) (x:m) (W:ae),gu S w W->J c W->c.length<N ->
   body.wpIn (Fence.wide.inRound l) 1 P (Exit.then (fun _ j=>gu S W j/\J (c++[x]) j) (fun _ _ _=>False)) (f x) W)
  (hdone:∀ (D:Nat) (W:ae),w.heap.size<=D->gu S w W->J all W->W.heap[D]?=some (.deferred (some []))->Q .normal { a with defers:={ target:=.collected D,args:=#[] }::a.defers } W) :
  (Code.rangeFunc g E assign body).wp P Q a w:=by
 refine (wpIn_wide (n:=3)).1 ?_
 refine wpIn_rangeFunc_ownG (n:=3) (N:=N) (w0:=w) rfl a_ V trivial eg s (fun h k=>h.trans k) (fun W l o O _ h y _=>Gq.putObj W l O h y) (Below.refl _ _) G
  (fun c W=>gu S w W/\J c W) (fun _ _ _=>False) ?hI (fun _ _ _ _ _ h _ _=>h) ⟨gu.refl _ _,h0⟩ f d ?hbody ?hdone (fun _ _ _ _ _ _ h _=>h.elim)
 case hI=>rintro c W j L ⟨r,z⟩ A i;refine⟨r.grown A fun k e=>.inr (i k e).1,Y _ _ _ z (show PH W j from fun k o B y=>?_)⟩;rw[A.block k (lt_of_heap B) (fun e=>?_)];exact B;obtain⟨_,q,H,u⟩:=i k e.symm;rw[B] at H;cases H;rw[y] at u;cases u
 case hbody=>
  rintro l c x W ⟨r,z⟩ U;refine wpIn_mono (hbody l c x W r z U) ?_;rintro e b j h;cases e with
  |normal=>obtain⟨C,h2⟩:=h;refine⟨⟨C.size,fun k o B y _=>C.blk y (fun T=>?_)⟩,Gq.Vw C,r.trans C,h2⟩;have:=hS k T;omega
  |_=>exact h.elim
 case hdone=>rintro D xs W Z rfl ⟨r,z⟩ X;exact hdone D W Z r z X
section
variable {P:dE} {F:Fence} {n0:Nat}
theorem aHd{ops:Array df}{rest:List df}{o:df}{a:Act}{w:ae}{Q:nz->Act->je}(e:o.guard=none){ty:bi}{x:lL}(b:o.op=.load ty x){n:Nat}(W:y7 P ty n)
  {g:Nat} (i:a.eval x=.pointer (some ⟨g,0,none⟩)) {t:bi} {cs:kw} (m:f_ w g t cs) (hn:cs.size=n) (h:wpListIn F n0 P ops Q rest (a.put o.dst (.agg cs)) w):wpListIn F n0 P ops Q (o::rest) a w:=
 wpListIn_plain e fun _ l=>by obtain⟨d,j,k⟩:=W.und;unfold Oper.wpIn;refine⟨by simp[Oper.about,b],?_⟩;rw[Oper.semAt_plain F _ _ (by rw[b];intro c h;cases h)];unfold uu;have f:=run_loadVar_mid (P:=P) w g 0 ty cs.toList d m.range j k (by rw[uA,hn];exact W.info);rw[aEx] at f;simp only[b,i,Instr.loadAt,Instr.sureAddr,Sem.run_bind,Sem.run_pure,Result.andThen_ok,f];exact l _ _ h
theorem aDv{ops:Array df}{rest:List df}{o:df}{a:Act}{w:ae}{Q:nz->Act->je}(e:o.guard=none){ty:bi}{x y:lL}(d:o.op=.store ty x y){n:Nat}(W:y7 P ty n)
  {g:Nat} (j:a.eval x=.pointer (some ⟨g,0,none⟩)) {cs:kw} (i:a.eval y=.agg cs) {t:bi} {old:kw} (f:f_ w g t old) (m:old.size=n) (hn:cs.size=n) (h1:cs.all (·.oneCell')=true)
  (h:∀ b,f_ b g t cs->gu (fun k=>k=g) w b->b.heap.size=w.heap.size->wpListIn F n0 P ops Q rest (a.put o.dst bz) b):wpListIn F n0 P ops Q (o::rest) a w:=
 wpListIn_plain e fun _ p=>by unfold Oper.wpIn;refine⟨by simp[Oper.about,d],?_⟩;rw[Oper.semAt_plain F _ _ (by rw[d];intro c h;cases h)];unfold uu;have l:=run_storeAt_mid (P:=P) w g 0 ty cs (by rw[show cs.size=old.size from a_];exact f.Ea) (by rw[hn];exact W.info) h1;simp only[d,j,i,Sem.run_bind,Sem.run_pure,l,Result.andThen_ok];exact p _ _ (h _ (aEe f a_) (eU g cs.toList 0 w).1 (eU g cs.toList 0 w).2)
end
theorem aIq{P:dE}{fn:Func}{R:Ending->je}{n:Nat}{a:Act}{W:ae}{D:Nat}{v:ag}(hd:a.defers=[{ target:=.collected D,args:=#[] }])(b:W.heap[D]?=some (.deferred (some [])))
  (hr:(results fn a.tmps).run P (W.putObj D (.deferred none))=.ok v (W.putObj D (.deferred none))) (h:R (.returned v) (W.putObj D (.deferred none))):bodyPostM Fence.wide n P fn R .ret a W:=by
 show LeavesInM Fence.wide n P fn a.tmps R a.defers .returning W;rw[hd];refine⟨b_,.inl ⟨_,_,rfl,run_takeDeferred b,?_⟩⟩;exact⟨_,hr,h⟩
theorem aZd{w W:ae}{D:Nat}(o:Obj)(h:Ext w W)(a:w.heap.size<=D):Ext w (W.putObj D o):=h.grown (grownBy_putObj' W D o) (fun k e=>by cases e;exact a)
end
section
attribute [local go_sem] Oper.semAt_some
theorem bIk(A:Option uC)(n c:Nat)(w:ae) :
  mf prog 202 #[.slice A n c,.int .i64 64] w fun e a=>e=.returned (.func (.func 205) #[] #[.pointer (some ⟨w.heap.size,0,none⟩),.pointer (some ⟨w.heap.size+1,0,none⟩)]) /\
   (w.alloc (.cells #[.slice A n c] 74)).alloc (.cells #[.int .i64 64] 3)=a:=by
 go_enter func202,ntmps202
 go_wp2
 go_ret;exact⟨rfl,rfl⟩
theorem Me(m k:Nat)(h:k<m):(aBf m).take (k+1)=(aBf m).take k++[⟨k,h⟩]:=by rw[lS _ k (by simpa using h)];simp
theorem SK(m:Nat):(aBf m).map Fin.val=AC m:=by apply Z9;simp;intro i b a;simp
theorem aUk(b o c m:Nat)(h j:Nat)(S:qo)(w:ae)(P:64*m<=1000000000)(hc:64*m<=c)(hs:¬S h)(hn:¬S j)
  (h1:w.cell? ⟨h,0,none⟩=some (.slice (some ⟨b,o,none⟩) (64*m) c)) (h2:w.cell? ⟨j,0,none⟩=some (.int .i64 64)) :
  SeqStopsK Fence.wide 2 prog 205 #[.pointer (some ⟨h,0,none⟩),.pointer (some ⟨j,0,none⟩)] (fun x:Fin m=>#[.slice (some ⟨b,o+64*x.val,none⟩) 64 64]) (Gq S) (fun D=>D=aBf m) (fun _=>True) m w:=by
 intro l J Z W C K I G L;have F:=(C.cell (p:=⟨h,0,none⟩) (lt_of_cell h1)).trans h1;have E:=(C.cell (p:=⟨j,0,none⟩) (lt_of_cell h2)).trans h2;clear h1 h2;refine callsIn_wide.2 ?_
 go_enter func205,ntmps205
 go_wp2
 go_loopw [4] (fun i wr=>∃ k:Nat,k<=m/\i=.int .i64 ((64*k:Nat):Int)/\Hid (J ((aBf m).take k) wr)/\wr.cell? ⟨h,0,none⟩=some (.slice (some ⟨b,o,none⟩) (64*m) c)/\wr.cell? ⟨j,0,none⟩=some (.int .i64 64)) (fun i _=>64*m-(intOf i).toNat)
 case atStart=>exact⟨0,xn _,rfl,hide L,F,E⟩
 case round=>
  obtain⟨k,Q,rfl,B,O,N⟩:=hrel;by_cases d:k<m
  ·have X:¬64*k=c:=a_;have V:64*k<64*m:=a_;have U:64<=64*m-64*k:=a_
   go_wp2
   go_quiet (fail)
   go_upto_region 4 with fail
   have s:=K _ _ (wr.drewN nq) none (aA B) ⟨rfl,rfl,rfl,dC _,fun _ _ _=>rfl⟩ (fun r e=>by cases e);obtain⟨T,z,q,body,A,H⟩:=G ((aBf m).take k) ⟨k,d⟩ (wr.drewN nq) s jr;dsimp only at A;refine (wpIn_wide (n:=2)).1 ?_
   gi_wp2
   clear A;refine H.mono ?_;rintro e Y (⟨rfl,g,a⟩|⟨rfl,f⟩)
   ·have y:=a _ _ hs O;have u:=a _ _ hn N;have t:=hide g;clear g a
    gi_wp2
    go_wp2
    go_roundw
    case rel=>exact⟨k+1,a_,by go_num,hide (by rw[Me m k d];exact aA t),y,u⟩
    case measure=>simp[intOf];omega
   ·gi_wp2
    go_wp2
    refine ZJ (results_none rfl _ _ _) rfl ?_;exact⟨⟨_,rfl⟩,.inr ⟨_,trivial,f⟩⟩
  ·obtain rfl:k=m:=a_
   go_wp2
   go_end0
   exact⟨⟨_,rfl⟩,.inl ⟨_,rfl,by have:=aA B;rwa [YY b_] at this⟩⟩
end
section
theorem f_.far'{w:ae}{g:Nat}{t:bi}{cs:kw}(h:f_ w g t cs){b:Nat}(hn:¬g=b)(i:Nat)(u:ag):f_ (w.setCell ⟨b,i,none⟩ u) g t cs:=h.far hn u
theorem eY(W:ae)(t:bi)(cs:kw){g:Nat}(b:g=W.heap.size){i:Nat}{v:ag}(a:cs[i]?=some v):(W.alloc (.cells cs t)).cell? ⟨g,i,none⟩=some v:=by rw[(f_.new' W t cs b).cell];exact a
theorem fM(W:ae)(o:Obj){p:uC}{v:ag}(h:W.cell? p=some v):(W.alloc o).cell? p=some v:=Ext.lw ((Ext.refl W).alloc o) h
theorem aDY{W:ae}(o:Obj){p q r s u:uC}{a b c d e:ag}(h:W.cell? p=some a/\W.cell? q=some b/\W.cell? r=some c/\W.cell? s=some d/\W.cell? u=some e):(W.alloc o).cell? p=some a/\(W.alloc o).cell? q=some b/\(W.alloc o).cell? r=some c/\(W.alloc o).cell? s=some d/\(W.alloc o).cell? u=some e:=⟨fM _ _ h.1,fM _ _ h.2.1,fM _ _ h.2.2.1,fM _ _ h.2.2.2.1,fM _ _ h.2.2.2.2⟩
theorem Wp{W:ae}(o:Obj){p q r:uC}{a b c:ag}(h:W.cell? p=some a/\W.cell? q=some b/\W.cell? r=some c):(W.alloc o).cell? p=some a/\(W.alloc o).cell? q=some b/\(W.alloc o).cell? r=some c:=⟨fM _ _ h.1,fM _ _ h.2.1,fM _ _ h.2.2⟩
theorem aDX{W:ae}(o:Obj){p q r:uC}{a b:ag}(h:W.cell? p=some a/\W.cell? q=some b/\W.cell? r=some (held W r)/\W.frozen? r=false):(W.alloc o).cell? p=some a/\(W.alloc o).cell? q=some b/\(W.alloc o).cell? r=some (held (W.alloc o) r)/\(W.alloc o).frozen? r=false:=⟨fM _ _ h.1,fM _ _ h.2.1,aGr (fM _ _ h.2.2.1),Ext.zn ((Ext.refl W).alloc o) h.2.2.2 (lt_of_cell h.2.2.1)⟩
theorem yH{W:ae}(u:ag){g i j k:Nat}{a b:ag}(d:i≠k)(c:j≠k)(h:W.cell? ⟨g,i,none⟩=some a/\W.cell? ⟨g,j,none⟩=some b/\W.cell? ⟨g,k,none⟩=some (held W ⟨g,k,none⟩)/\W.frozen? ⟨g,k,none⟩=false) :
  (W.setCell ⟨g,k,none⟩ u).cell? ⟨g,i,none⟩=some a/\(W.setCell ⟨g,k,none⟩ u).cell? ⟨g,j,none⟩=some b/\(W.setCell ⟨g,k,none⟩ u).cell? ⟨g,k,none⟩=some (held (W.setCell ⟨g,k,none⟩ u) ⟨g,k,none⟩)/\(W.setCell ⟨g,k,none⟩ u).frozen? ⟨g,k,none⟩=false:=by
 refine⟨?_,?_,aGr (aEN _ _ _ (by rw[h.2.2.1];rfl)),by rw[aGE];exact h.2.2.2⟩;rw[aGF (h:=by intro e;cases e;exact d rfl)];exact h.1;rw[aGF (h:=by intro e;cases e;exact c rfl)];exact h.2.1
section
variable {P:dE}
theorem zM{T a:bi}{len:Nat}(c:P.underlying T=some (.array len a))(d:P.plainKey a=true){inf:TypeInfo}(f:P.info? a=some inf)(h1:P.cellsOf a=1)
  {cs:kw} {k:Nat} (e:k<len) {v:ag} (b:cs[k]?=some v) (w:ae):(Instr.index T (.agg cs) (.int .i64 (k:Int))).run P w=.ok v w:=by
 have g:(0:Int)<=(k:Int)/\(k:Int)<(len:Int):=a_;simp[Instr.index,asIntOf,xy c,run_sizeOf (w:=w) f,h1,e,run_part_plain w d b]
theorem qB{ops:Array df}{rest:List df}{o:df}{a:Act}{w:ae}{Q:nz->Act->je}(b:o.guard=none){ty:bi}{x:lL}(f:o.op=.load ty x){n:Nat}(W:y7 P ty n)
  {g:Nat} (c:a.eval x=.pointer (some ⟨g,0,none⟩)) {cs:ji} {arr:kw} (l:w.rangeAt g 0 cs) (hn:cs.length=n) (j:cs.toArray=arr) (h:ZE P ops Q rest (a.put o.dst (.agg arr)) w):ZE P ops Q (o::rest) a w:=
 wpList_plain b fun _ k=>by obtain⟨d,e,i⟩:=W.und;refine wp_load_mid ty x f g 0 c cs d l e i (by rw[hn];exact W.info) ?_;rw[j];exact k _ _ h
theorem jB{w:ae}{b:Nat}{t:bi}{cs:kw}(e:f_ w b t cs){T:bi}{n:Nat}(W:y7 P T n)(hn:cs.size=n):(loadVar T ⟨b,0,none⟩).run P w=.ok (.agg cs) w:=by obtain⟨d,a,c⟩:=W.und;have:=run_loadVar_mid (P:=P) w b 0 T cs.toList d e.range a c (by rw[uA,hn];exact W.info);rw[aEx] at this;exact this
theorem gI{fn:Func}{i:Tmp}{T:bi}{n:Nat}(W:y7 P T n)(d:fn.results=#[.cell i T]){a:kw}{w:ae}{b:Nat}{t:bi}{cs:kw}(e:f_ w b t cs)(hn:cs.size=n)(c:a.getD i bz=.pointer (some ⟨b,0,none⟩)) :
  (results fn a).run P w=.ok (.agg cs) w:=by
 have f:=jB e W hn;simp only[Array.getD_eq_getD_getElem?] at c;simp[results,d,c,asAddr,f]
theorem Reads.sub{w:ae}{v:ag}{n:Nat}{xs:ji}(h:Reads w 1 v n xs)(i m:Nat)(x:i+m<=n)(s:0<m) :
  ∃ b o c,v=.slice (some ⟨b,o,none⟩) n c/\n<=c/\c<=uk/\b<w.heap.size/\Reads w 1 (.slice (some ⟨b,o+i,none⟩) m (c-i)) m ((xs.drop i).take m):=by
 obtain⟨b,o,c,u,rfl,q,p,l,_,_⟩:=h.GV (k:=0) a_;have t:=h.1;refine⟨b,o,c,rfl,q,p,l,jr,_,_,rfl,a_,a_,fun _=>⟨b,o+i,rfl,fun j u a=>?_⟩⟩;have d:j<m:=by rcases Yk j m with h|h;exact h;rw[YQ jr] at a;cases a
 rw[x8,au d,YN] at a;obtain⟨_,A,y,e,_,_,g⟩:=h;cases e;obtain⟨z,r,e,f⟩:=g a_;cases e;rw[Yt];exact f _ _ a
theorem Reads.cap{w:ae}{A:Option uC}{n c a:Nat}{xs:ji}(h:Reads w 1 (.slice A n c) n xs)(h1:n<=a)(h2:a<=uk):Reads w 1 (.slice A n a) n xs:=by obtain⟨b,g,f,e,_,_,d⟩:=h;cases e;exact⟨b,A,a,rfl,h1,h2,d⟩
theorem Reads.A_{w:ae}{g:Nat}{t:bi}{cs:kw}(h:f_ w g t cs){i n c:Nat}(e:i+n<=cs.size)(hc:n<=c)(b:c<=uk) :
  Reads w 1 (.slice (some ⟨g,i,none⟩) n c) n ((cs.toList.drop i).take n):=by
 refine⟨jr,_,_,rfl,hc,b,fun _=>⟨g,i,rfl,fun j u a=>?_⟩⟩;have d:j<n:=by rcases Yk j n with h|h;exact h;rw[YQ jr] at a;cases a
 rw[x8,au d,YN] at a;rw[h.cell,<-a];simp
end
end
section
def gG(n:Nat)(l:List UInt32):kw:=(l.map w32++PR (n-l.length) (ed .u32 0)).toArray
theorem lG{n:Nat}{l:List UInt32}{i:Nat}(h:i<l.length):(gG n l)[i]?=some (.int .u32 ((l.getD i 0).toNat:Int)):=by unfold gG;rw[List.getElem?_toArray,List.getElem?_append_left (by simpa using h),XN,zG,zH h];rfl
theorem aRp{n:Nat}{l:List UInt32}(x:UInt32)(h:l.length<n):(gG n l).setIfInBounds l.length (.int .u32 (x.toNat:Int))=gG n (l++[x]):=by unfold gG;rw[show n-l.length=(n-(l++[x]).length)+1 from jr,List.replicate_succ];simp[w32]
theorem aNb{n k:Nat}{l:List UInt32}(x:UInt32)(hl:l.length=k)(h:k<n):(gG n l).setIfInBounds k (.int .u32 (x.toNat:Int))=gG n (l++[x]):=by subst hl;exact aRp x h
theorem aNa(n:Nat):gG n []=IR n (ed .u32 0):=by unfold gG;simp
theorem aBw{n:Nat}{l:List UInt32}(h:l.length<=n):(gG n l).size=n:=by unfold gG;simp;omega
theorem bBc:y7 prog 269 64:=⟨⟨_,underlying269,rfl⟩,ah⟩
theorem jH:y7 prog 263 8:=⟨⟨_,underlying263,rfl⟩,ah⟩
structure af(w:ae):Prop where
 k:w.rangeAt 2 0 (yu.map w32)
 h:w.rangeAt 0 0 (tY.map w32)
theorem oZ{S:qo}{w w':ae}{b:Nat}{cs:ji}(h:w.rangeAt b 0 cs)(hc:gu S w w')(hn:¬S b):w'.rangeAt b 0 cs:=fun j v a=>gu.lw hc (h j v a) hn
theorem af.iq{S:qo}{w w':ae}(h:af w)(hc:gu S w w')(h1:¬S 2)(h2:¬S 0):af w':=⟨oZ h.k hc h1,oZ h.h hc h2⟩
theorem af.ext{w w':ae}(h:af w)(hc:Ext w w'):af w':=h.iq hc (fun h=>h) (fun h=>h)
theorem UO(x:UInt32)(n0 a:Nat)(g:Nat)(w:ae)(h0:w.cell? ⟨g,0,none⟩=some (.int .i64 (n0:Int)))(h1:w.cell? ⟨g,1,none⟩=some (.int .i64 (a:Int)))(hn:(0<n0/\n0<32)/\0<a/\a<32) :
  mf prog 204 #[.int .u32 (x.toNat:Int),.slice (some ⟨g,0,none⟩) 2 2] w fun e c=>e=.returned (.int .u32 ((fV x (Yl n0) ^^^ fV x (Yl a)).toNat:Int))/\w=c:=by
 have:=aVp x [n0,a] (.slice (some ⟨g,0,none⟩) 2 2) w ⟨rfl,_,_,rfl,dC _,by unfold uk;omega,fun _=>⟨g,0,rfl,fun j u b=>?_⟩⟩ jr;simpa[uX] using this
 match j,b with
 |0,b=>cases b;exact h0|1,b=>cases b;exact h1
theorem UN(x:UInt32)(n0 b n2:Nat)(g:Nat)(w:ae)(h0:w.cell? ⟨g,0,none⟩=some (.int .i64 (n0:Int)))(h1:w.cell? ⟨g,1,none⟩=some (.int .i64 (b:Int)))(h2:w.cell? ⟨g,2,none⟩=some (.int .i64 (n2:Int)))(hn:(0<n0/\n0<32)/\(0<b/\b<32)/\0<n2/\n2<32) :
  mf prog 204 #[.int .u32 (x.toNat:Int),.slice (some ⟨g,0,none⟩) 3 3] w fun e c=>e=.returned (.int .u32 ((fV x (Yl n0) ^^^ fV x (Yl b) ^^^ fV x (Yl n2)).toNat:Int))/\w=c:=by
 have:=aVp x [n0,b,n2] (.slice (some ⟨g,0,none⟩) 3 3) w ⟨rfl,_,_,rfl,dC _,by unfold uk;omega,fun _=>⟨g,0,rfl,fun j u a=>?_⟩⟩ jr;simpa[uX] using this
 match j,a with
 |0,a=>cases a;exact h0|1,a=>cases a;exact h1|2,a=>cases a;exact h2
def rr2(x a b:UInt32):UInt32:=fV x a ^^^ fV x b
def rr3(x a b c:UInt32):UInt32:=fV x a ^^^ fV x b ^^^ fV x c
theorem bDi(x:UInt32)(g:Nat)(w:ae)(h0:w.cell? ⟨g,0,none⟩=some (.int .i64 7))(h1:w.cell? ⟨g,1,none⟩=some (.int .i64 18)) :
  mf prog 204 #[.int .u32 (x.toNat:Int),.slice (some ⟨g,0,none⟩) 2 2] w fun e a=>e=.returned (.int .u32 ((rr2 x 7 18).toNat:Int))/\w=a:=
 UO x 7 18 g w h0 h1 a_
theorem aYt(x:UInt32)(g:Nat)(w:ae)(h0:w.cell? ⟨g,0,none⟩=some (.int .i64 17))(h1:w.cell? ⟨g,1,none⟩=some (.int .i64 19)) :
  mf prog 204 #[.int .u32 (x.toNat:Int),.slice (some ⟨g,0,none⟩) 2 2] w fun e a=>e=.returned (.int .u32 ((rr2 x 17 19).toNat:Int))/\w=a:=
 UO x 17 19 g w h0 h1 a_
theorem aOc(x:UInt32)(g:Nat)(w:ae)(h0:w.cell? ⟨g,0,none⟩=some (.int .i64 6))(h1:w.cell? ⟨g,1,none⟩=some (.int .i64 11))(h2:w.cell? ⟨g,2,none⟩=some (.int .i64 25)) :
  mf prog 204 #[.int .u32 (x.toNat:Int),.slice (some ⟨g,0,none⟩) 3 3] w fun e a=>e=.returned (.int .u32 ((rr3 x 6 11 25).toNat:Int))/\w=a:=
 UN x 6 11 25 g w h0 h1 h2 a_
theorem aOd(x:UInt32)(g:Nat)(w:ae)(h0:w.cell? ⟨g,0,none⟩=some (.int .i64 2))(h1:w.cell? ⟨g,1,none⟩=some (.int .i64 13))(h2:w.cell? ⟨g,2,none⟩=some (.int .i64 22)) :
  mf prog 204 #[.int .u32 (x.toNat:Int),.slice (some ⟨g,0,none⟩) 3 3] w fun e a=>e=.returned (.int .u32 ((rr3 x 2 13 22).toNat:Int))/\w=a:=
 UN x 2 13 22 g w h0 h1 h2 a_
theorem bCx(f i c e b a:UInt32):((((f.toNat:Int)+bits BinOp.xor We (i.toNat:Int) ((c.toNat:Int) / (8:Int))) % (4294967296:Int)+(e.toNat:Int)) % (4294967296:Int)+bits BinOp.xor We (b.toNat:Int) ((a.toNat:Int) / (1024:Int))) % (4294967296:Int) =
  ((f+(i ^^^ (c >>> 3))+e+(b ^^^ (a >>> 10))).toNat:Int):=by
 have j:=Ip c 3 a_;have d:=Ip a 10 a_;rw[show (8:Int)=2 ^ 3 from rfl,show (1024:Int)=2 ^ 10 from rfl,j,d,Y2,Y2,add32,add32,add32];rfl
theorem aBQ(d r a f e c b:UInt32):IntKind.wrap .u32 (IntKind.wrap .u32 (IntKind.wrap .u32 (IntKind.wrap .u32 ((d.toNat:Int)+(r.toNat:Int))+bits BinOp.xor We (bits BinOp.and We (a.toNat:Int) (f.toNat:Int)) (bits BinOp.and We (bits BinOp.xor We IntKind.u32.max (a.toNat:Int)) (e.toNat:Int)))+(c.toNat:Int))+(b.toNat:Int)) =
  ((d+r+((a &&& f) ^^^ (~~~a &&& e))+c+b).toNat:Int):=by
 rw[aDJ,bJk,bJk,Y2,OY,OY,OY,OY]
theorem aBN(r c b a:UInt32):IntKind.wrap .u32 ((r.toNat:Int)+bits BinOp.xor We (bits BinOp.xor We (bits BinOp.and We (c.toNat:Int) (b.toNat:Int)) (bits BinOp.and We (c.toNat:Int) (a.toNat:Int))) (bits BinOp.and We (b.toNat:Int) (a.toNat:Int))) =
  ((r+(((c &&& b) ^^^ (c &&& a)) ^^^ (b &&& a))).toNat:Int):=by
 rw[bJk,bJk,bJk,Y2,Y2,OY]
def aXz(w:ae)(hc:kw)(b:dh)(k:Nat)(wr:ae):Prop:=f_ wr w.heap.size 263 hc/\(∃ a,f_ wr (w.heap.size+1) 263 a/\a.size=8)/\f_ wr (w.heap.size+1+1) 269 (gG 64 (dB b k))/\Ext w wr
theorem aXz.step{w wr a:ae}{hc:kw}{b:dh}{k:Nat}(h:aXz w hc b k wr)(c:Ext wr a)(n:k<64){x:UInt32}(m:(if k<16 then oC ((b.drop (4*k)).take 4) else uQ (dB b k))=x) :
  aXz w hc b (k+1) (a.setCell ⟨w.heap.size+1+1,k,none⟩ (.int .u32 (x.toNat:Int))):=by
 obtain⟨j,⟨l,e,d⟩,i,f⟩:=h;refine⟨(j.ext c).far' a_ _ _,⟨l,(e.ext c).far' a_ _ _,d⟩,?_,(f.trans c).setCell jr _⟩;have:=(i.ext c).BH k (.int .u32 (x.toNat:Int));rw[aNb x (fK b k) n] at this;rw[dB,m];exact this
def bJp(w:ae)(hc:kw)(h:List UInt32)(b:dh)(g k:Nat)(wr:ae):Prop:=f_ wr w.heap.size 263 hc/\(∃ a,f_ wr (w.heap.size+1) 263 a/\a.size=8)/\f_ wr (w.heap.size+1+1) 269 (gG 64 (sched b))/\f_ wr g 263 (gG 8 (bP b h k))/\Ext w wr/\w.heap.size+1+1<g
theorem lI{n:Nat}{l:List UInt32}(h:l.length=n):gG n l=(l.map w32).toArray:=by unfold gG;rw[h,Yf];simp
theorem V_{k:Nat}(h:k<64):((yu.map w32).toArray)[k]?=some (.int .u32 ((yu.getD k 0).toNat:Int)):=by have:=lG (n:=64) (l:=yu) (i:=k) h;rwa [lI (show yu.length=64 from rfl)] at this
theorem yU(l:List UInt32):((l.map w32).toArray).all (·.oneCell')=true:=by rw[<-aAD];simp[w32];intro x _;rfl
def xA(R h:List UInt32)(k:Nat):List UInt32:=(Z7 (·+·) R h).take k++R.drop k
def qK(w:ae)(hc:kw)(h R:List UInt32)(g k:Nat)(wr:ae):Prop:=f_ wr w.heap.size 263 hc/\(∃ a,f_ wr (w.heap.size+1) 263 a/\a.size=8)/\f_ wr g 263 (gG 8 (xA R h k))/\Ext w wr/\w.heap.size+1+1<g
theorem vV{R h:List UInt32}(c:R.length=8)(b:h.length=8){k:Nat}(a:k<=8):(xA R h k).length=8:=by unfold xA;simp;omega
theorem qK.start{w wr:ae}{hc:kw}{h:List UInt32}{a:dh}{g:Nat}(i:bJp w hc h a g 64 wr):qK w hc h (bP a h 64) g 0 wr:=by obtain⟨f,e,_,d,c,b⟩:=i;exact⟨f,e,d,c,b⟩
section
variable {w wr:ae} {hc:kw} {h R:List UInt32} {g k:Nat}
theorem qK.new(b:qK w hc h R g k wr)(d:R.length=8)(c:h.length=8)(a:k<8):wr.cell? ⟨g,k,none⟩=some (.int .u32 ((R.getD k 0).toNat:Int)):=by
 rw[b.2.2.1.cell,lG (by rw[vV d c a_];exact a)];have:(xA R h k).getD k 0=R.getD k 0:=by unfold xA;rw[zG,zG,List.getElem?_append_right jr];simp;rw[show k+(k-min k (min R.length h.length))=k from a_]
 rw[this]
theorem qK.old(a:qK w hc h R g k wr)(c:(h.map w32).toArray=hc)(b:h.length=8)(d:k<8):wr.cell? ⟨w.heap.size,k,none⟩=some (.int .u32 ((h.getD k 0).toNat:Int)):=by rw[a.1.cell,<-c,<-lI b,lG a_]
theorem qK.step(p:qK w hc h R g k wr){a:ae}(b:Ext wr a)(d:R.length=8)(c:h.length=8)(r:k<8):qK w hc h R g (k+1) (a.setCell ⟨g,k,none⟩ (.int .u32 ((R.getD k 0+h.getD k 0).toNat:Int))):=by
 obtain⟨n,⟨o,j,i⟩,m,l,f⟩:=p;refine⟨(n.ext b).far' a_ _ _,⟨o,(j.ext b).far' a_ _ _,i⟩,?_,(l.trans b).setCell jr _,f⟩;have:=(m.ext b).BH k (.int .u32 ((R.getD k 0+h.getD k 0).toNat:Int))
 have e:(gG 8 (xA R h k)).setIfInBounds k (.int .u32 ((R.getD k 0+h.getD k 0).toNat:Int))=gG 8 (xA R h (k+1)):=by
  rw[lI (vV d c a_),lI (vV d c a_)];apply Array.ext';rw[Array.toList_setIfInBounds];dsimp only;have q:xA R h (k+1)=(xA R h k).set k (R.getD k 0+h.getD k 0):=by unfold xA;rw[lS _ k jr,List.set_append_right _ _ jr];rw[show k-((Z7 (·+·) R h).take k).length=0 from jr];rw[List.drop_eq_getElem_cons (show k<R.length by omega)];rw[List.set_cons_zero,Pi,zG,zG,zH (show k<R.length by omega),zH (show k<h.length by omega),List.getElem_zipWith];rfl
  rw[q,List.map_set];rfl
 rw[e] at this;exact this
theorem qK.drew(j:qK w hc h R g k wr):qK w hc h R g k wr.drew:=by obtain⟨f,⟨i,c,b⟩,e,d,a⟩:=j;exact⟨f.drew,⟨i,c.drew,b⟩,e.drew,d.drew,a⟩
theorem bHc(b:R.length=8)(a:h.length=8):xA R h 8=Z7 (·+·) R h:=by unfold xA;rw[YY jr,List.drop_of_length_le a_,List.append_nil]
end
end
section
theorem aQn (h:List UInt32) (a:dh) (v:ag) (w:ae) (hM:af w) (hh:h.length=8) (hb:a.length=64) (hr:Reads w 1 v 64 (a.map jk)) :
    mf prog 201 #[.agg (h.map w32).toArray,v] w fun e c=>e=.returned (.agg ((nM h a).map w32).toArray)/\Ext w c:=by
  have HM:=hide hM;have HR:=hide hr;obtain⟨b0,o0,c0,rfl,d6,d3,e2,_⟩:=hr.sub 0 64 a_ a_;unfold uk at d3;clear hM hr;have s:=hide hh;have HB:=hide hb;clear hh hb;generalize a4:(h.map w32).toArray=D;have HC:=hide a4;clear a4
  go_enter func201,ntmps201
  go_wp2
  go_loopw [15] (fun i wr=>∃ k:Nat,k<=64/\i=.int .i64 k/\Hid (aXz w D a k wr)) (fun i _=>64-(intOf i).toNat)
  case atStart=>refine⟨0,xn _,rfl,hide ⟨((f_.new w _ D).alloc _).alloc _,⟨_,(f_.new' _ _ _ b_).alloc _,rfl⟩,?_,(((Ext.refl w).alloc _).alloc _).alloc _⟩⟩;have:=f_.new' ((w.alloc (Obj.cells D 263)).alloc (Obj.cells #[ed We 0,ed We 0,ed We 0,ed We 0,ed We 0,ed We 0,ed We 0,ed We 0] 263)) 269 (gG 64 (dB a 0)) (g:=w.heap.size+1+1) b_;rw[show gG 64 (dB a 0)=IR 64 (ed .u32 0) from aNa 64] at this ⊢;exact this
  case round=>
    obtain⟨k,P,rfl,A⟩:=hrel;by_cases b:k<64
    ·
      have hL:=fK a k;obtain⟨old,Z⟩:∃ old,wr.cell? ⟨w.heap.size+1+1,k,none⟩=some old:=by rw[(aA A).2.2.1.cell];exact⟨_,ZR (by rw[aBw a_];exact b)⟩
      have d2:=(aA A).2.2.1.frozen k;by_cases a9:k<16
      ·
        have d1:4*k+4<=64:=a_;obtain⟨b1,o1,c1,e,_,_,_,C⟩:=((aA HR).ext (aA A).2.2.2).sub (4*k) 4 d1 a_;cases e;have o:=hide C;clear C;have HL:=hide (show ((a.drop (4*k)).take 4).length=4 from by have:=aA HB;simp;omega)
        go_wp2_with fail
        refine (LW ((a.drop (4*k)).take 4) _ _ ?hl).mono ?_
        case hl=>rw[aA HL,aAU,List.map_drop];exact aA o
        rintro e w1 ⟨rfl,rfl⟩;clear o;generalize hx:oC ((a.drop (4*k)).take 4)=x;have m:=hide hx;clear hx
        go_wp2
        go_roundw
        case rel=>exact⟨k+1,a_,by go_num,hide ((aA A).step (Ext.refl _) b (by rw[au a9,aA m]))⟩
        case measure=>simp[intOf];omega
      ·
        obtain⟨j,rfl⟩:∃ j,k=j+16:=⟨k-16,a_⟩;have cx:∀ i,i<j+16->wr.cell? ⟨w.heap.size+1+1,i,none⟩=some (.int .u32 (((dB a (j+16)).getD i 0).toNat:Int)):=fun i hi=>by rw[(aA A).2.2.1.cell];exact lG a_
        have HN:=hide (show uQ (dB a (j+16))=(dB a (j+16)).getD j 0+((fV ((dB a (j+16)).getD (j+1) 0) 7 ^^^ fV ((dB a (j+16)).getD (j+1) 0) 18) ^^^ ((dB a (j+16)).getD (j+1) 0 >>> 3))+(dB a (j+16)).getD (j+9) 0 +
            ((fV ((dB a (j+16)).getD (j+14) 0) 17 ^^^ fV ((dB a (j+16)).getD (j+14) 0) 19) ^^^ ((dB a (j+16)).getD (j+14) 0 >>> 10)) from by
          unfold uQ
          simp only[hL,show j+16-15=j+1 from a_,show j+16-2=j+14 from a_,show j+16-16=j from a_,show j+16-7=j+9 from a_])
        have d5:=cx j a_;have c1:=cx (j+1) a_;have c9:=cx (j+9) a_;have b6:=cx (j+14) a_;clear cx;generalize (dB a (j+16)).getD j 0=B at *;generalize (dB a (j+16)).getD (j+1) 0=x1 at *;generalize (dB a (j+16)).getD (j+9) 0=x9 at *;generalize (dB a (j+16)).getD (j+14) 0=d7 at *;have d4:decide ((j:Int)+16<16)=false:=Bg a_;have G:decide ((j:Int)+16<64)=true:=rq a_;have hj:j<48:=a_;clear a9 P b
        go_upto_region 7 with fail
        have c7:(((j+16:Nat):Int)-15)=((j+1:Nat):Int):=a_;have i2:(((j+16:Nat):Int)-2)=((j+14:Nat):Int):=a_
        go_quiet (fail)
        go_upto_region 8 with fail
        have e1:IntKind.wrap .i64 (((j+16:Nat):Int)-16)=(j:Int):=(IntWalk.i64_in _ a_).trans a_;have i7:IntKind.wrap .i64 (((j+16:Nat):Int)-7)=((j+9:Nat):Int):=(IntWalk.i64_in _ a_).trans a_;have e0:IntKind.wrap .i64 ((j:Int)+16-7)=(j:Int)+9:=(IntWalk.i64_in _ a_).trans a_;have i9:IntKind.wrap .i64 ((j:Int)+9)=(j:Int)+9:=IntWalk.i64_in _ a_;have i0:IntKind.wrap .i64 (j:Int)=(j:Int):=IntWalk.i64_in _ a_;have b0:(0:Int)<=(j:Int)+9/\(j:Int)+9<64/\(j:Int)<64/\(j:Int)+16<64/\(0:Int)<=(j:Int)+16:=a_;obtain⟨b1,b2,b3,b4,b5⟩:=b0;have t9:((j:Int)+9).toNat=j+9:=a_;have d9:((j:Int)+16).toNat=j+16:=a_;have r:=hide (az c1 b6);clear c1 b6 c7 i2 d4 G
        go_region_held3 (fun c=>c.cell? ⟨w.heap.size+1+1,j,none⟩=some (.int .u32 (B.toNat:Int))/\c.cell? ⟨w.heap.size+1+1,j+9,none⟩=some (.int .u32 (x9.toNat:Int))/\c.cell? ⟨w.heap.size+1+1,j+16,none⟩=some (held c ⟨w.heap.size+1+1,j+16,none⟩)/\c.frozen? ⟨w.heap.size+1+1,j+16,none⟩=false) (first|exact⟨d5,c9,aGr Z,d2⟩|exact aDX _ o_|exact yH _ a_ a_ o_|assumption)
          (first
            |(go_at_call 204;refine (bDi _ _ _ ?_ ?_).mono ?_;(first|(refine eY _ _ _ ?_ ?_;(focus (simp;done));(focus rfl))|(refine fM _ _ (eY _ _ _ ?_ ?_);(focus (simp;done));(focus rfl)));(first|(refine eY _ _ _ ?_ ?_;(focus (simp;done));(focus rfl))|(refine fM _ _ (eY _ _ _ ?_ ?_);(focus (simp;done));(focus rfl)));rintro e c ⟨rfl,rfl⟩)
            |(go_at_call 204;refine (aYt _ _ _ ?_ ?_).mono ?_;(first|(refine eY _ _ _ ?_ ?_;(focus (simp;done));(focus rfl))|(refine fM _ _ (eY _ _ _ ?_ ?_);(focus (simp;done));(focus rfl)));(first|(refine eY _ _ _ ?_ ?_;(focus (simp;done));(focus rfl))|(refine fM _ _ (eY _ _ _ ?_ ?_);(focus (simp;done));(focus rfl)));rintro e c ⟨rfl,rfl⟩))
        all_goals
          go_wp2
          go_roundw
          case rel=>rw[bCx];exact⟨j+16+1,a_,by go_num,hide ((aA A).step ((((Ext.refl wr).drewN _).alloc _).alloc _) a_ (by rw[ay a_];exact aA HN))⟩
          case measure=>simp[intOf];omega
    ·
      obtain rfl : k=64:=a_;clear P b;obtain⟨d,rfl⟩:∃ d:ae,d=wr:=⟨_,rfl⟩;obtain⟨kc,a0⟩:=lm ((yu.map w32).toArray);have b9:=hide a0;clear a0;have H8:=hide (show D.size=8/\D.all (·.oneCell')=true from by rw[<-aA HC];exact⟨by simpa using aA s,yU h⟩);have H:=hide ((aA HM).ext (aA A).2.2.2).k
      go_wp2_with (first
        |(refine iV (ty:=263) (t:=263) (x:=.tmp 2) rfl rfl jH rfl (aA A).1 (aA H8).1 ?_)
        | (
         refine aV (ty:=263) (t:=263) (x:=.tmp 9) (y:=.tmp 64) rfl rfl jH rfl rfl (f_.new _ _ _) rfl (aA H8).1 (aA H8).2 ?_;intro w2 a8 a6 Y;have o:=hide (az a8 a6);have d0:d.heap.size<w2.heap.size:=by rw[Y];simp
         clear a8 a6 Y)
        | (
         refine qB (ty:=269) (x:=.global 2) rfl rfl bBc rfl (arr:=kc) (cs:=yu.map w32) ?_ rfl (aA b9) ?_
         exact oZ (oZ (aA H) ((Ext.refl d).alloc _) (fun h=>h)) (aA o).2 (fun e=>by have:=lt_of_cell ((aA H) 0 _ rfl);simp at e this;omega)))
      have u:=hide (show Ext d w2 from ((Ext.refl d).alloc (.cells #[ed We 0,ed We 0,ed We 0,ed We 0,ed We 0,ed We 0,ed We 0,ed We 0] 263)).trans' (aA o).2 (fun _ _ h=>h) (fun i hi e=>a_))
      have f:=hide (show bJp w D h a d.heap.size 0 w2 from by
        obtain⟨X,⟨o8,O,N⟩,E,V⟩:=aA A;refine⟨X.ext (aA u),⟨o8,O.ext (aA u),N⟩,E.ext (aA u),?_,V.trans (aA u),E.lt⟩;rw[bP,lI (aA s),aA HC]
        exact (aA o).1)
      clear o u H d0
      go_loopw [66] (fun i wr=>∃ k:Nat,k<=64/\i=.int .i64 k/\Hid (bJp w D h a d.heap.size k wr)) (fun i _=>64-(intOf i).toNat)
      case atStart=>exact⟨0,xn _,rfl,f⟩
      case round=>
        clear f;obtain⟨k,P,rfl,f⟩:=hrel;by_cases b:k<64
        · have z:∀ i,i<8->wr.cell? ⟨d.heap.size,i,none⟩=some (.int .u32 (((bP a h k).getD i 0).toNat:Int)):=fun i hi=>by
            rw[(aA f).2.2.2.1.cell];exact lG (by rw[kL _ _ (aA s)];exact hi)
          have cw:wr.cell? ⟨w.heap.size+1+1,k,none⟩=some (.int .u32 (((sched a).getD k 0).toNat:Int)):=by rw[(aA f).2.2.1.cell];exact lG (by unfold sched;rw[fK];exact b)
          have a3:∀ W,(Instr.index 269 (.agg kc) (.int .i64 (k:Int))).run prog W=.ok (.int .u32 ((yu.getD k 0).toNat:Int)) W:=fun W=>zM (inf:=_) underlying269 ah rfl ah b (by rw[<-aA b9];exact V_ b) W;have HN:=hide (show bP a h (k+1)=aCy (bP a h k) (yu.getD k 0) ((sched a).getD k 0) from rfl);have L:=z 0 a_;have K:=z 1 a_;have J:=z 2 a_;have v3:=z 3 a_;have v4:=z 4 a_;have v5:=z 5 a_;have v6:=z 6 a_;have v7:=z 7 a_;clear z;unfold aCy at HN;generalize (bP a h k).getD 0 0=B at *;generalize (bP a h k).getD 1 0=x1 at *;generalize (bP a h k).getD 2 0=x2 at *;generalize (bP a h k).getD 3 0=x3 at *;generalize (bP a h k).getD 4 0=I at *;generalize (bP a h k).getD 5 0=x5 at *;generalize (bP a h k).getD 6 0=x6 at *;generalize (bP a h k).getD 7 0=x7 at *;generalize (sched a).getD k 0=xw at *;generalize yu.getD k 0=xk at *;have G:decide ((k:Int)<64)=true:=rq a_;have e3:(k:Int)<64:=a_;have r:=hide (az L (az K (az J (az v3 (az v4 (az v5 v6))))));clear L K J v3
          go_upto_region 14 with fail
          have t1:(0:Int)<=(k:Int):=a_;clear a3 G
          go_cut [12] (fun c5 wx=>∃ T:UInt32,c5=.int .u32 (T.toNat:Int)/\Hid (T=x7+(fV I 6 ^^^ fV I 11 ^^^ fV I 25)+((I &&& x5) ^^^ (~~~I &&& x6))+xk+xw/\Ext wr wx))
          case first=>
            go_region_held3 (fun c=>c.cell? ⟨d.heap.size,7,none⟩=some (.int .u32 (x7.toNat:Int))/\c.cell? ⟨d.heap.size,4,none⟩=some (.int .u32 (I.toNat:Int))/\c.cell? ⟨d.heap.size,5,none⟩=some (.int .u32 (x5.toNat:Int))/\c.cell? ⟨d.heap.size,6,none⟩=some (.int .u32 (x6.toNat:Int))/\c.cell? ⟨w.heap.size+1+1,k,none⟩=some (.int .u32 (xw.toNat:Int))) (first|exact⟨v7,v4,v5,v6,cw⟩|exact aDY _ o_|assumption)
              (first
                |(go_at_call 204;refine (aOc _ _ _ ?_ ?_ ?_).mono ?_;(refine eY _ _ _ ?_ ?_;(focus (simp;done));(focus rfl));(refine eY _ _ _ ?_ ?_;(focus (simp;done));(focus rfl));(refine eY _ _ _ ?_ ?_;(focus (simp;done));(focus rfl));rintro e c ⟨rfl,rfl⟩))
            all_goals (go_wp2_with fail;go_meet)
            all_goals
              rw[aBQ];exact⟨_,rfl,hide ⟨rfl,((Ext.refl wr).alloc _).drew⟩⟩
          case rest=>
            obtain⟨T,rfl,S⟩:=hcut;obtain⟨wp,rfl⟩:∃ wp:ae,wp=wc:=⟨_,rfl⟩;clear v7 v4 v5 v6 cw;have HP:=hide (az (aA f) (aA S).2);have L:=Ext.lw (aA S).2 (aA r).1;have K:=Ext.lw (aA S).2 (aA r).2.1;have J:=Ext.lw (aA S).2 (aA r).2.2.1
            go_upto_region 15 with fail
            go_cut [13] (fun c4 wx=>∃ U:UInt32,c4=.int .u32 (U.toNat:Int)/\Hid (U=(fV B 2 ^^^ fV B 13 ^^^ fV B 22)+(((B &&& x1) ^^^ (B &&& x2)) ^^^ (x1 &&& x2))/\Ext wp wx))
            case first=>
              go_region_held3 (fun c=>c.cell? ⟨d.heap.size,0,none⟩=some (.int .u32 (B.toNat:Int))/\c.cell? ⟨d.heap.size,1,none⟩=some (.int .u32 (x1.toNat:Int))/\c.cell? ⟨d.heap.size,2,none⟩=some (.int .u32 (x2.toNat:Int))) (first|exact⟨L,K,J⟩|exact Wp _ o_|assumption)
                (first
                  |(go_at_call 204;refine (aOd _ _ _ ?_ ?_ ?_).mono ?_;(refine eY _ _ _ ?_ ?_;(focus (simp;done));(focus rfl));(refine eY _ _ _ ?_ ?_;(focus (simp;done));(focus rfl));(refine eY _ _ _ ?_ ?_;(focus (simp;done));(focus rfl));rintro e c ⟨rfl,rfl⟩))
              all_goals (go_wp2_with fail;go_meet)
              all_goals
                rw[aBN];exact⟨_,rfl,hide ⟨rfl,((Ext.refl wp).alloc _).drew⟩⟩
            case rest=>
              obtain⟨U,rfl,HU⟩:=hcut;have m:=hide ((aA S).2.trans (aA HU).2);clear L K J;have L:=Ext.lw (aA m) (aA r).1;have K:=Ext.lw (aA m) (aA r).2.1;have J:=Ext.lw (aA m) (aA r).2.2.1;have v3:=Ext.lw (aA m) (aA r).2.2.2.1;have v4:=Ext.lw (aA m) (aA r).2.2.2.2.1;have v5:=Ext.lw (aA m) (aA r).2.2.2.2.2.1;have v6:=Ext.lw (aA m) (aA r).2.2.2.2.2.2;have a1:((T.toNat:Int)+(U.toNat:Int)) % 4294967296=((T+U).toNat:Int):=add32 T U;have a2:((x3.toNat:Int)+(T.toNat:Int)) % 4294967296=((x3+T).toNat:Int):=add32 x3 T;have HA:=hide (az a1 a2);clear a1 a2;have Q:=hide (aBw (n:=8) (show (bP a h k).length<=8 from by rw[kL _ _ (aA s)];omega))
              go_wp2_with (refine aV (ty:=263) (t:=263) (x:=.tmp 9) (y:=.tmp 137) rfl rfl jH rfl rfl ((aA f).2.2.2.1.ext (aA m)) (aA Q) ?_ ?_ ?_;(focus rfl);(focus (rw[<-aAD];rfl));intro w5 p l F;have o:=hide (az p (az l F));clear p l F)
              go_roundw
              case rel=>refine⟨k+1,a_,by go_num,hide ?_⟩;obtain⟨X,⟨o8,O,N⟩,E,V,q7,q8⟩:=aA f;obtain⟨p,l,F⟩:=aA o;have n1:¬w.heap.size=d.heap.size:=a_;have n2:¬w.heap.size+1=d.heap.size:=a_;have n3:¬w.heap.size+1+1=d.heap.size:=a_;refine⟨(X.ext (aA m)).iq l n1,⟨o8,(O.ext (aA m)).iq l n2,N⟩,(E.ext (aA m)).iq l n3,?_,(q7.trans (aA m)).trans' l (fun _ _ h=>h) (fun i hi e=>a_),q8⟩;rw[(aA HA).1,(aA HA).2] at p;rw[aA HN];dsimp only;rw[<-(aA S).1,<-(aA HU).1];exact p
              case measure=>simp[intOf];omega
        ·
          obtain rfl:k=64:=a_;clear P b;obtain⟨wq,rfl⟩:∃ wq:ae,wq=wr:=⟨_,rfl⟩
          go_wp2
          have q:=hide (kL a h (aA s) 64)
          go_loopw [139] (fun i wr=>∃ k:Nat,k<=8/\i=.int .i64 k/\Hid (qK w D h (bP a h 64) d.heap.size k wr)) (fun i _=>8-(intOf i).toNat)
          case atStart=>exact⟨0,xn _,rfl,hide (qK.start (aA f))⟩
          case round=>
            clear f;obtain⟨k,P,rfl,f⟩:=hrel;by_cases b:k<8
            ·
              have c1:=(aA f).new (aA q) (aA s) b;have c2:=(aA f).old (aA HC) (aA s) b;have f1:=(aA f).2.2.1.frozen k;have b7:=hide (fun c3 (hE:Ext wr c3)=>(aA f).step hE (aA q) (aA s) b);generalize (bP a h 64).getD k 0=xr at *;generalize h.getD k 0=xh at *;have d8:decide ((k:Int)<8)=true:=rq a_;have b8:(k:Int)<8:=a_;have HA:=hide (add32 xr xh)
              go_upto_region 21 with fail
              go_region
              all_goals
                go_wp2
                go_roundw
                case rel=>rw[aA HA];exact⟨k+1,a_,by go_num,hide (by first|exact (aA b7 _ (Ext.refl _)).drew|exact aA b7 _ ((Ext.refl _).drew))⟩
                case measure=>simp[intOf];omega
            ·
              obtain rfl:k=8:=a_;clear P b;obtain⟨X,⟨o8,O,N⟩,E,V,q7⟩:=aA f;have o:=hide (az O (az N (az E V)));clear X O N E V
              have HZ:=hide (show gG 8 (xA (bP a h 64) h 8)=((nM h a).map w32).toArray from by
                rw[bHc (aA q) (aA s)]
                exact lI (by simp;rw[aA q,aA s];rfl))
              have Q:=hide (show (gG 8 (xA (bP a h 64) h 8)).size=8/\(gG 8 (xA (bP a h 64) h 8)).all (·.oneCell')=true from by
                rw[aA HZ]
                exact⟨by simp[nM];rw[show (zK a h).length=8 from aA q,aA s];rfl,yU _⟩)
              generalize gG 8 (xA (bP a h 64) h 8)=c6 at *
              go_wp2_with (first
                |(refine iV (ty:=263) (t:=263) (x:=.tmp 9) rfl rfl jH rfl (aA o).2.2.1 (aA Q).1 ?_)
                | (
                 refine aV (ty:=263) (t:=263) (x:=.tmp 4) (y:=.tmp 151) rfl rfl jH rfl rfl (aA o).1 (aA o).2.1 (aA Q).1 (aA Q).2 ?_;intro w9 a7 a5 c8;have HV:=hide (az a7 a5)
                 clear a7 a5 c8))
              refine ZJ (v:=.agg c6) (gI jH rfl (aA HV).1 (aA Q).1 rfl) rfl ⟨by rw[aA HZ],?_⟩;exact (aA o).2.2.2.trans' (aA HV).2 (fun _ _ h=>h) (fun i hi e=>a_)
attribute [local go_sem] Oper.semAt_some
def PO(l:dh)(k:Nat):dh:=l++[128]++PR k 0
theorem aOl(l:dh)(k:Nat):(PO l k).length=l.length+1+k:=by simp[PO];omega
theorem aZk(l:dh)(k:Nat):PO l (k+1)=PO l k++[0]:=by unfold PO;rw[List.replicate_succ',Pi,Pi,Pi]
def oU(P:dh)(l:List Nat)(v:List UInt32):List UInt32:=l.foldl (fun v i=>nM v ((P.drop (64*i)).take 64)) v
theorem qO(m:Nat)(v:List UInt32)(P:dh):oU P (AC m) v=lT m v P:=by
 induction m generalizing v P with
 |zero=>rfl|succ m a=>
  have b:∀ i,(P.drop 64).drop (64*i)=P.drop (64*(i+1)):=fun i=>by rw[List.drop_drop,show 64+64*i=64*(i+1) from a_]
  have h:=a (nM v (P.take 64)) (P.drop 64);refine Eq.trans ?_ h;unfold oU;simp only[b];rw[List.range_succ_eq_map,aAK,List.foldl_map,Nat.mul_zero,Yh]
theorem iZ(P:dh)(l:List Nat)(v:List UInt32)(h:v.length=8):(oU P l v).length=8:=by
 unfold oU
 induction l generalizing v with
 |nil=>exact h|cons i l a=>rw[aAK];refine a _ ?_;unfold nM;rw[List.length_zipWith,h];rw[show (zK ((P.drop (64*i)).take 64) v).length=8 from kL _ _ h 64];rfl
def PN(l:List UInt32)(k:Nat):dh:=(l.take k).flatMap fun w=>beBytes w.toNat 4
theorem aIm(l:List UInt32)(k:Nat)(h:k<l.length):PN l (k+1)=PN l k++beBytes (l.getD k 0).toNat 4:=by unfold PN;rw[lS l k h,aEX,zG,zH h];simp
theorem aCb(l:List UInt32)(k:Nat)(h:k<=l.length):(PN l k).length=4*k:=by
 induction k with
 |zero=>simp[PN]|succ k a=>rw[aIm l k h,gp,a a_,beBytes_length];omega
theorem f_.putObj{W:ae}{g:Nat}{t:bi}{cs:kw}(h:f_ W g t cs){D:Nat}{o b:Obj}(hd:W.heap[D]?=some o)(c:o.isCells=false):f_ (W.putObj D b) g t cs:=by
 have a:g≠D:=fun e=>by unfold f_ at h;rw[e,hd] at h;cases h;cases c
 exact (ZT a).trans h
theorem fU(l:dh):((l.map jk).toArray).all (·.oneCell')=true:=by rw[<-aAD];simp[jk];intro x _;rfl
def rP(n:Nat):Nat:=(119-n % 64) % 64
theorem iT:y7 prog 142 32:=⟨⟨_,underlying142,rfl⟩,ah⟩
def Ou(l:dh)(w:ae)(v:ag)(n k:Nat)(wr:ae):Prop:=(n=l.length+1+k/\k<=rP l.length)/\wr.ownsRow (w.heap.size+1) 5 1 v n ((PO l k).map jk)/\Ext w wr/\(∃ o,f_ wr w.heap.size 142 o/\o.size=32)
theorem sum_any (l:dh) (v:ag) (w:ae) (hM:af w) (hr:Reads w 1 v l.length (l.map jk)) (hl:l.length<=100000000) :
    mf prog 191 #[v] w fun e w'=>e=.returned (.agg ((sha l).map jk).toArray)/\Ext w w':=by
  have HM:=hide hM;have HR:=hide hr;obtain⟨A,c,rfl⟩:∃ A c,v=.slice A l.length c:=by obtain⟨_,A,c,h,_⟩:=hr;exact⟨A,c,h⟩
  clear hM hr;refine (callsIn_wide (n:=3)).1 (callsIn_of_wp_marks func191 rfl trivial ((wpIn_wide (n:=3)).2 ?_));simp only[ntmps191,Yx,zl,Yg,Nat.reduceAdd,Nat.reduceSub,Array.replicate_succ,Array.replicate_zero,List.push_toArray,List.append_toArray,List.nil_append,List.cons_append]
  go_wp2_with fail
  refine (clone_any _ l _ ?hr a_).mono ?_
  case hr=>exact (aA HR).ext ((Ext.refl w).alloc _)
  rintro e w1 ⟨v1,rfl,H,hE⟩;have HO:=hide (az H (az hE (f_.ext (f_.new w 142 _) hE)));clear H hE
  go_wp2_with (at_builtin;refine fE rfl rfl kW rfl (eG (aA HO).1 ((Ext.refl w1).alloc _)) rfl (Reads.Bl _ _ _) (fG.one rfl) a_ (by have:=(aA HO).2.1.size';simp at this ⊢;omega) ?_;intro A' c' w2 H V F;have L:=hide (az H (az V F));clear H V F)
  have f:=hide (show Ou l w (.slice A' (l.length+1) c') (l.length+1) 0 w2 from by
    obtain⟨a,I,Z⟩:=aA HO;obtain⟨Q,h5,_⟩:=aA L;have e0:(PO l 0).map jk=l.map jk++[jk 128]:=by unfold PO;simp
    have hz:=I.size';simp only[aBl] at hz Q;have F:=pG a (gu.refl (fun k=>¬v1.ownBlock=some k) w1) (fun k hk hn=>hn hk);have U:∀ k,v1.ownBlock=some k->w.heap.size+1<=k:=fun k hk=>by have:=a.lt k hk;simp at this;omega
    refine⟨⟨rfl,xn _⟩,by rw[e0];exact Q,?_,⟨_,Z.iq ((Ext.refl w1).alloc _) (fun h=>h) |>.iq h5 (fun e=>by have:=U _ e;omega),rfl⟩⟩
    exact ((((Ext.refl w).alloc _).trans I).alloc _).trans' h5 (fun _ _ h=>h) (fun i hi e=>by have:=U _ e;omega))
  clear HO L
  go_loopw [3] (fun b wr=>∃ (n k:Nat) (A:Option uC) (c:Nat),b=.slice A n c/\n<=200000000/\Hid (Ou l w (.slice A n c) n k wr)) (fun b _=>match b with|.slice _ n _=>l.length+1+rP l.length-n|_=>0)
  case atStart=>exact⟨_,0,_,_,rfl,a_,f⟩
  case round=>
    clear f;obtain⟨n,k,A1,c1,rfl,hn,f⟩:=hrel;by_cases B:k<rP l.length
    ·
      have ht:n % 64≠56:=by have a:=(aA f).1;unfold rP at a B;omega
      have b4:(((n:Int) % 64)==56)=false:=jr
      go_wp2_with (at_builtin;refine fE rfl rfl kW rfl (eG (aA f).2.1 ((Ext.refl wr).alloc _)) rfl (Reads.Bl _ _ _) (fG.one rfl) a_ (by have:=(aA f).2.2.1.size';have:=(aA f).2.2.2.choose_spec.1.lt;simp;omega) ?_;intro A' c' d H V F;have L:=hide (az H V);clear H V F)
      go_roundw
      case rel=>obtain⟨⟨e1,e2⟩,a,I,o8,Z,Q⟩:=aA f;obtain⟨h5,h6⟩:=aA L;have U:∀ k,(Yu A1 n c1).ownBlock=some k->w.heap.size+1<=k:=fun k hk=>(a.lt k hk).1;refine⟨n+1,k+1,A',c',rfl,by unfold rP at e2;omega,hide ⟨⟨a_,B⟩,?_,(I.alloc _).trans' h6 (fun _ _ h=>h) (fun i hi e=>by have:=U _ e;omega),o8,(Z.alloc _).iq h6 (fun e=>by have:=U _ e;omega),Q⟩⟩;rw[aZk,Z8];exact h5
      case measure=>have:=(aA f).1;simp;omega
    ·
      obtain ⟨⟨e1,e2⟩,a,I,o8,Z,Q⟩:=aA f;have d0:k=rP l.length:=a_;subst d0;have HP:=hide (show PO l (rP l.length)++beBytes (8*l.length) 8=iF l from rfl);have a4:n % 64=56:=by unfold rP at e1;omega
      have b4:(((n:Int) % 64)==56)=true:=jr;have HN:=hide (az e1 a4);clear e1 e2 B a4 a I Z Q
      go_wp2_with fail
      clear b4;refine (aNk _ n ((PO l (rP l.length)).map jk) (8*l.length) 8 (w.heap.size+1) _ _ _ ?e1 ?e2 (aA f).2.1 ?hb a_ a_ a_).mono ?_
      case e1=>simp
      case e2=>rfl
      case hb=>have:=(aA f).2.2.2.choose_spec.1.lt;omega
      rintro e d ⟨A3,c3,rfl,H,hO⟩;obtain⟨g3,rfl⟩:∃ g3,A3=some ⟨g3,0,none⟩:=by obtain⟨g,cap,u,F,_⟩:=bEk (k:=0) H a_;cases F;exact⟨g,rfl⟩
      have L:=hide (az H hO);clear H hO;obtain⟨a7,G⟩:∃ st,(tY.map w32).toArray=st:=⟨_,rfl⟩;have b0:=hide G;have Y:=hide (show a7.size=8/\a7.all (·.oneCell')=true from by rw[<-G];exact⟨rfl,yU _⟩);clear G
      have C:=hide (show Ext w d from by
        obtain⟨⟨e1,e2⟩,a,I,o8,Z,Q⟩:=aA f
        exact I.trans' (aA L).2.iq (fun _ _ h=>h) (fun i hi e=>by have:=(a.lt i e).1;omega))
      go_wp2_with (first
        |(refine qB (ty:=263) (x:=.global 0) rfl rfl jH rfl (arr:=a7) (cs:=tY.map w32) ?_ rfl (aA b0) ?_;(focus exact ((aA HM).ext (aA C)).h))
        | (
         refine aV (ty:=263) (t:=263) (x:=.tmp 4) (y:=.tmp 27) rfl rfl jH rfl rfl ((f_.new d _ _).alloc _) rfl (aA Y).1 (aA Y).2 ?_;intro w4 b9 a0 b3;have k5:w4.cell? ⟨d.heap.size+1,0,none⟩=some .nilFunc:=gu.lw a0 (eY _ _ _ b_ rfl) b_;have f5:w4.frozen? ⟨d.heap.size+1,0,none⟩=false:=gu.zn a0 ((f_.new' _ _ _ b_).frozen 0) b_ b_;have HV:=hide (az b9 (az a0 b3))
         clear b9 a0 b3)
        |(go_at_call 202;refine (bIk _ _ _ _).mono ?_;rintro e w' ⟨rfl,rfl⟩))
      obtain⟨m,hm⟩:∃ m,n+8=64*m:=⟨(n+8) / 64,by have:=(aA HN).2;omega⟩;have HL:=hide (show (iF l).length=64*m from by rw[<-aA HP,gp,aOl,beBytes_length,<-hm];have:=(aA HN).1;omega);have HS:=hide (show d.heap.size<w4.heap.size/\w4.heap.size=d.heap.size+2 from by have:=(aA HV).2.2;simp at this;omega)
      refine Ho (gf:=205) (S:=fun k=>k=d.heap.size) (all:=aBf m) (N:=m) (encs:=fun x:Fin m=>#[.slice (some ⟨g3,0+64*x.val,none⟩) 64 64]) rfl (aB func205 ah rfl) ?hS (aUk g3 0 c3 m _ _ _ _ a_ ?hc ?hs ?hn ?h1 ?h2) (fun _=>rfl)
        (fun E W=>f_ W d.heap.size 263 ((oU (iF l) (E.map Fin.val) tY).map w32).toArray/\W.cell? ⟨d.heap.size+1,0,none⟩=some (.func (.func 201) #[] #[]))
        (fun E W W' h k=>⟨k.blk h.1,k.cell h.2⟩) ?h0 ?a1 ?assign ?body ?done
      case assign=>
        intro l x W K hK
        gi_wp2
        exact hK
      case hS=>intro k e;have:=(aA HS).1;simp;omega
      case hc=>
        have a:=(aA L).1;obtain⟨g,cap,u,F,_⟩:=bEk (k:=0) a a_;cases F;obtain⟨_,I⟩:=a;rcases I with⟨e,_⟩|⟨g,cap,cur,F,_,_,f6,_⟩;cases e
        cases F;omega
      case hs=>have:=(aA HS).1;omega
      case hn=>have:=(aA HS).1;omega
      case h1=>rw[<-hm];exact fM _ _ (eY _ _ _ b_ rfl)
      case h2=>exact eY _ _ _ b_ rfl
      case h0=>refine⟨?_,?_⟩;have:=(aA HV).1;rw[<-aA b0] at this;exact ((this.far' a_ _ _).alloc _).alloc _;exact fM _ _ (fM _ _ (aEN _ _ _ (by rw[k5];rfl)))
      case body=>
        rintro lb E x W V ⟨hb,hf⟩ e9;have d1:w.heap.size+1<=g3/\g3<d.heap.size:=(aA L).1.lt g3 rfl;obtain⟨f1,b7⟩:=d1;have d9:Hid (Reads d 1 (.slice (some ⟨g3,0,none⟩) (n+8) c3) (n+8) ((iF l).map jk)):=hide (by have:=Reads.v_ (aA L).1;rwa [<-Z8,aA HP] at this)
        have a2:Hid (gu (fun k=>k=d.heap.size) d W):=hide (by
          have a:gu (fun k=>k=d.heap.size) d w4:=(((Ext.refl d).alloc _).alloc _).iq.trans (aA HV).2.1
          exact (((a.setCell (p:=⟨d.heap.size+1,0,none⟩) (.inr b_) _).alloc _).alloc _).trans V)
        have e6:=hide (show ((((iF l).drop (64*x.val)).take 64).length=64) from by have:=x.isLt;simp;rw[aA HL];omega)
        have d7:Hid (Reads W 1 (.slice (some ⟨g3,64*x.val,none⟩) 64 64) 64 ((((iF l).drop (64*x.val)).take 64).map jk)):=hide (by
          have a:=(aA d9).iq (aA a2) (fun k _ hk e=>by cases hk;exact absurd e (Nat.ne_of_lt b7));obtain⟨b,o,c,F,I,Z,_,Q⟩:=a.sub (64*x.val) 64 (by have:=x.isLt;omega) a_;cases F;rw[aAU,List.map_drop];rw[ik] at Q
          exact Q.cap a_ (by unfold uk;omega))
        have e4:Hid (af W):=hide (((aA HM).ext (aA C)).iq (aA a2) (fun e=>by have a:_<w.heap.size:=lt_of_cell ((aA HM).k 0 _ rfl);have:=(aA C).size';simp at a;omega) (fun e=>by have a:_<w.heap.size:=lt_of_cell ((aA HM).h 0 _ rfl);have:=(aA C).size';simp at a;omega));have e5:=hide (aQn (oU (iF l) (E.map Fin.val) tY) (((iF l).drop (64*x.val)).take 64) _ W (aA e4) (iZ _ _ _ rfl) (aA e6) (aA d7));have HB:=hide hb;clear hb;generalize G:((oU (iF l) (E.map Fin.val) tY).map w32).toArray=dn at *;have H8:=hide (show dn.size=8 from by rw[<-G];simp;exact iZ _ _ _ rfl);have HT:=hide G;clear G;have e3:=hide (show ((nM (oU (iF l) (E.map Fin.val) tY) (((iF l).drop (64*x.val)).take 64)).map w32).toArray.size=8 from by simp;exact iZ (iF l) [x.val] (oU (iF l) (E.map Fin.val) tY) (iZ _ _ _ rfl))
        gi_wp2_with (first
          |(refine aHd (ty:=263) (t:=263) (x:=.tmp 4) rfl rfl jH rfl (aA HB) (aA H8) ?_)
          |(refine⟨trivial,?_⟩;gi_at_call 201;refine (CallsIn.inRound lb (callsIn_wide.2 (aA e5))).mono ?_;rintro e w9 ⟨rfl,c2⟩;have a9:=hide c2;clear c2)
          |(refine aDv (ty:=263) (t:=263) (x:=.tmp 4) (y:=.tmp 34) rfl rfl jH rfl rfl ((aA HB).ext (aA a9)) (aA H8) (aA e3) (yU _) ?_;intro f3 c0 a6 e7))
        refine⟨(aA a9).iq.trans a6,?_,gu.lw a6 (Ext.lw (aA a9) hf) b_⟩;rw[Z8];unfold oU;rw[aBB];exact c0
      case done=>
        rintro D W hD V ⟨hb,hf⟩ hd
        have a2:Hid (Ext w W):=hide (by
          have a:gu (fun k=>k=d.heap.size) d w4:=(((Ext.refl d).alloc _).alloc _).iq.trans (aA HV).2.1;have I:=(((a.setCell (p:=⟨d.heap.size+1,0,none⟩) (.inr b_) _).alloc _).alloc _).trans V
          exact (aA C).trans' I (fun _ _ h=>h) (fun i hi e=>by have:=(aA C).size';omega))
        have HO:Hid (∃ o,f_ W w.heap.size 142 o/\o.size=32):=hide (by
          obtain⟨_,a,_,o8,Z,Q⟩:=aA f;have B:=Z.lt;have k1:=Z.iq (aA L).2.iq (fun e=>by have:=(a.lt _ e).1;omega);have e8:=k1.lt;have a:gu (fun k=>k=d.heap.size) d w4:=(((Ext.refl d).alloc _).alloc _).iq.trans (aA HV).2.1;have I:=(((a.setCell (p:=⟨d.heap.size+1,0,none⟩) (.inr b_) _).alloc _).alloc _).trans V
          exact⟨o8,k1.iq I a_,Q⟩)
        rw[SK,qO] at hb;have b6:m=(iF l).length / 64:=by rw[aA HL];omega
        rw[b6] at hb;have O:=hide (show (lT ((iF l).length / 64) tY (iF l)).length=8 from by rw[<-qO];exact iZ _ _ _ rfl);have d5:=hide (show (lT ((iF l).length / 64) tY (iF l)).flatMap (fun w=>beBytes w.toNat 4)=sha l from rfl);generalize lT ((iF l).length / 64) tY (iF l)=z at *;obtain⟨b2,J⟩:∃ s,(z.map w32).toArray=s:=⟨_,rfl⟩;rw[J] at hb;have HB:=hide hb;have d4:=hide J;have H8:=hide (show b2.size=8 from by rw[<-J];simpa using aA O);have c4:w.heap.size<D:=by have:=(aA C).size';have:=(aA HS).1;simp at hD;omega
        have HD:=hide (az c4 hd);clear c4;clear hb hf hd hD J b6 L HV HS C b0 Y f HN k5 f5 V
        go_wp2_with (refine iV (ty:=263) (t:=263) (x:=.tmp 4) rfl rfl jH rfl (aA HB) (aA H8) ?_)
        go_loopw [7,36] (fun b i wr=>∃ (k:Nat) (A:Option uC) (c:Nat),k<=8/\i=.int .i64 k/\b=.slice A (4*k) c/\Hid (wr.ownsRow W.heap.size 5 1 (.slice A (4*k) c) (4*k) ((PN z k).map jk)/\Ext W wr)) (fun _ i _=>8-(intOf i).toNat)
        case atStart=>exact⟨0,none,0,xn _,rfl,rfl,hide ⟨aFI _ _ _ _,Ext.refl _⟩⟩
        case round=>
          obtain⟨k,A7,c7,hk,rfl,rfl,f⟩:=hrel;by_cases B:k<8
          · have f0:∀ X,(Instr.index 263 (.agg b2) (.int .i64 (k:Int))).run prog X=.ok (.int .u32 ((z.getD k 0).toNat:Int)) X:=fun X=>
              zM (inf:=_) underlying263 ah rfl ah B (by rw[<-aA d4,<-lI (aA O)];exact lG (by rw[aA O];exact B)) X
            have d6:=hide (aIm z k (by rw[aA O];exact B));have hx:=(z.getD k 0).toNat_lt;generalize z.getD k 0=xk at *
            go_wp2_with fail
            refine (aNk _ (4*k) ((PN z k).map jk) xk.toNat 4 W.heap.size _ _ _ ?e1 ?e2 (aA f).1 ?hb a_ a_ a_).mono ?_
            case e1=>first|rfl|simp
            case e2=>rfl
            case hb=>exact (aA f).2.size'
            rintro e w5 ⟨A5,c5,rfl,H,hO⟩;have L:=hide (az H hO);clear H hO
            go_wp2
            go_roundw
            case rel=>refine⟨k+1,A5,c5,a_,by go_num,rfl,hide ⟨?_,?_⟩⟩;rw[aA d6,Z8];exact (aA L).1;exact Onto.FB (aA f).2 (aA L).2 (fun q hq=>((aA f).1.lt q hq).1)
            case measure=>simp[intOf];omega
          ·
            obtain rfl:k=8:=a_;clear hk B;obtain⟨g7,rfl⟩:∃ g7,A7=some ⟨g7,0,none⟩:=by obtain⟨g,cap,u,F,_⟩:=bEk (k:=0) (aA f).1 a_;cases F;exact⟨g,rfl⟩
            have HG:=hide (show PN z 8=sha l from by
              unfold PN;rw[YY (by rw[aA O];omega)]
              exact aA d5)
            have d8:Hid (wr.rangeAt g7 0 ((sha l).map jk)):=hide (by
              have a:=(aA f).1;rw[aA HG] at a;intro j v hj;have:=a.cells (g:=g7) rfl j v hj
              rwa [add_lit] at this)
            have c9:=hide (show (sha l).length=32 from by rw[<-aA HG];exact aCb z 8 (by rw[aA O];omega));obtain⟨o8,b5,a3⟩:=aA HO;have c8:=hide (az (b5.ext (aA f).2) a3);clear b5 a3;obtain⟨a8,T⟩:∃ r,((sha l).map jk).toArray=r:=⟨_,rfl⟩;have b1:=hide (show a8.size=32/\a8.all (·.oneCell')=true from by rw[<-T];exact⟨by simpa using aA c9,fU _⟩);have c6:=hide T;clear T;have f2:=fun X=>aVm (P:=prog) underlying142 (ad:=some ⟨g7,0,none⟩) (len:=4*8) (c:=c7) a_ X
            go_wp2_with (first
              |(refine qB (ty:=142) (x:=.tmp 45) rfl rfl iT rfl (arr:=a8) (cs:=(sha l).map jk) (aA d8) ?_ (aA c6) ?_;(focus (simpa using aA c9)))
              |(refine aV (ty:=142) (t:=142) (x:=.tmp 2) (y:=.tmp 46) rfl rfl iT rfl rfl (aA c8).1 (aA c8).2 (aA b1).1 (aA b1).2 ?_;intro w9 d3 b8 f4))
            have d2:=((aA f).2.blk (aA HD).2);have a5:=gu.blk b8 d2 (fun e=>by have:=(aA HD).1;omega);refine aIq rfl a5 (gI iT rfl (d3.putObj a5 rfl) (aA b1).1 rfl) ⟨by rw[aA c6],?_⟩;refine aZd _ (((aA a2).trans (aA f).2).trans' b8 (fun _ _ h=>h) (fun i hi e=>a_)) (by have:=(aA HD).1;omega)
end
section
section
variable {P:dE} {w:ae}
theorem JB{t ty e:bi}{bytes:Nat}(T:BF P t e 1 bytes){b:uC}{n:Nat}{xs:ji}(hs:Reads w 1 (.slice (some b) n n) n xs)(hn:0<n)
  {u:ag} {m:Nat} {a:ji} (hr:Reads w 1 u m a) (h1:fG a) (d:(n+m)*bytes<=140737488355328) :
  ∃ r q o,(Builtin.append_ #[t,t] ty #[.slice (some b) n n,u]).run P w=.ok (.slice r (n+m) q) o/\Reads o 1 (.slice r (n+m) q) (n+m) (xs++a)/\Ext w o:=by
 obtain⟨B,⟨i,z,E,W,f,H,x⟩,_,I⟩:=T;obtain⟨S,A,c,rfl,X,Y,g⟩:=hr;have J:n+m<=uk:=by have:(n+m)*1<=(n+m)*bytes:=Nat.mul_le_mul_left _ I;unfold uk;omega
 rcases ZP m with K|K;subst K;have C:a=[]:=aAZ (by simpa using S);subst C
 refine⟨_,n,w,?_,by simpa using hs,Ext.refl _⟩;rcases A with _|ad;simp[Builtin.append_,xy B,sizeOf,Yj,E,Builtin.lenOf,Builtin.firstCells,storeCells];obtain⟨_,A2,Z,L,_,_,l⟩:=hs;cases L;obtain⟨O,s,N,_⟩:=l hn;cases N;have:=run_append_room_cells (P:=P) w t ty e i B E O s n n ad 0 c [] b_ (fun j u h=>by simp at h) (fun u h=>by cases h) a_ (fun j h=>by simp at h) (fun j h=>by simp at h)
 simpa[World.setCells] using this;obtain⟨y,A2,Z,L,_,_,l⟩:=hs;cases L;obtain⟨O,s,N,F⟩:=l hn;cases N;obtain⟨b1,V,rfl,G⟩:=g K;obtain⟨v',o,p,Q,U⟩:=run_append_arg_grows (P:=P) w t ty e i z 1 bytes B E W f H x a_ ⟨O,s,none⟩ n n xs y (fun j u D=>by rw[Addr.add_lit];exact F j u D) ⟨b1,V,none⟩ m c a S (fun j u D=>by rw[Addr.add_lit];exact G j u D) a_ J d;obtain⟨r,q,rfl⟩:=nS Q;exact⟨r,q,o,p,Reads.v_ Q,(Ext.refl w).grown U (fun k h=>by cases h)⟩
theorem bBr{o:df}{a:Act}{K:Act->je}{Q:nz->Act->je}{s x:lL}{t:bi}
  (p:o.op=.call { callee:=.builtin .append,args:=#[s,x],argTypes:=#[t,t] })
  {e:bi} {bytes:Nat} (T:BF P t e 1 bytes) {b:uC} {n:Nat} {xs:ji} (hs:a.eval s=.slice (some b) n n) (i:Reads w 1 (.slice (some b) n n) n xs) (hn:0<n)
  {u:ag} (l:a.eval x=u) {m:Nat} {c:ji} (hr:Reads w 1 u m c) (h1:fG c) (d:(n+m)*bytes<=140737488355328)
  (h:∀ (k:Option uC) (j:Nat) f,Reads f 1 (.slice k (n+m) j) (n+m) (xs++c)->Ext w f->K (a.put o.dst (.slice k (n+m) j)) f):o.wp P a w K Q:=by
 obtain⟨k,j,f,g,r,q⟩:=JB (P:=P) (ty:=o.type) T i hn hr h1 d;unfold Oper.wp uu;simp only[p,resolve,invoke,builtin,Sem.run_bind,Sem.run_pure,Result.andThen_ok,aBc,DD,ZY,hs,l,g];exact h k j f r q
theorem aNm{ops:Array df}{o:df}{a:Act}{K:Act->je}{Q:nz->Act->je}{E:Prop}(i:o.guard=none){s x:lL}{t:bi}
  (q:o.op=.call { callee:=.builtin .append,args:=#[s,x],argTypes:=#[t,t] })
  {e:bi} {bytes:Nat} (T:BF P t e 1 bytes) {b:uC} {n:Nat} {xs:ji} (hs:a.eval s=.slice (some b) n n) (f:Reads w 1 (.slice (some b) n n) n xs) (hn:0<n)
  {u:ag} (l:a.eval x=u) {m:Nat} {c:ji} (hr:Reads w 1 u m c) (h1:fG c) (d:(n+m)*bytes<=140737488355328)
  (h:∀ (k:Option uC) (j:Nat) g,Reads g 1 (.slice k (n+m) j) (n+m) (xs++c)->Ext w g->K (a.put o.dst (.slice k (n+m) j)) g) :
  if Region.wanted o (YV ops a.tmps)=true then Oper.wp P o a w K Q else E:=by
 have p:Region.wanted o (YV ops a.tmps)=true:=by simp[Region.wanted,i]
 rw[au p];exact bBr q T hs f hn l hr h1 d h
theorem aDu{ops:Array df}{rest:List df}{o:df}{a:Act}{Q:nz->Act->je}(k:o.guard=none){s x:lL}{t:bi}
  (p:o.op=.call { callee:=.builtin .append,args:=#[s,x],argTypes:=#[t,t] })
  {e:bi} {bytes:Nat} (T:BF P t e 1 bytes) {b:uC} {n:Nat} {xs:ji} (hs:a.eval s=.slice (some b) n n) (g:Reads w 1 (.slice (some b) n n) n xs) (hn:0<n)
  {u:ag} (l:a.eval x=u) {m:Nat} {c:ji} (hr:Reads w 1 u m c) (h1:fG c) (d:(n+m)*bytes<=140737488355328)
  (h:∀ (j:Option uC) (i:Nat) f,Reads f 1 (.slice j (n+m) i) (n+m) (xs++c)->Ext w f->ZE P ops Q rest (a.put o.dst (.slice j (n+m) i)) f):ZE P ops Q (o::rest) a w:=
 wpList_plain k fun _ q=>bBr p T hs g hn l hr h1 d fun j i f y r=>q _ _ (h j i f y r)
end
end
section
theorem KQ(w:ae):mf prog 169 #[.int .u64 1,.int .u64 64] w fun e a=>e=.returned (.tuple #[.int .u64 0,.int .u64 64])/\w=a:=by
 go_enter func169,ntmps169
 go_wp2
 go_ret2
 exact⟨ah,rfl⟩
theorem aIb{a:Type}(cur:List a)(x:a)(p m:Nat)(h:cur.take p=PR p x)(_hl:p+m<=cur.length):(splice cur p (PR m x)).take (p+m)=PR (p+m) x:=by unfold splice;rw[h,<-Pi,List.replicate_append_replicate,List.take_left' b_]
def aYa(x:UInt8)(w:ae)(g n p:Nat)(wr:ae):Prop:=∃ cur:ji,wr.heap[g]?=some (.cells cur.toArray 5 (0,0))/\cur.take p=PR p (jk x)/\cur.length=n/\Below w.heap.size w wr
theorem bCb:(prog.info? 5).map (·.size)=some 1:=ah
theorem aYy(x:UInt8)(v:ag)(w:ae)(hr:Reads w 1 v 1 [jk x]) :
  mf prog 193 #[v,.int .i64 64] w fun e D=>∃ g,e=.returned (.slice (some ⟨g,0,none⟩) 64 64)/\Reads D 1 (.slice (some ⟨g,0,none⟩) 64 64) 64 (PR 64 (jk x))/\Ext w D/\w.heap.size<=g/\(∀ i,D.frozen? ⟨g,i,none⟩=false):=by
 have HR:=hide hr;obtain⟨b,o,c,u,rfl,a6,a5,hb,Y,t⟩:=hr.GV (k:=0) a_;cases Y;unfold jk at t;have HU:=hide t;clear hr t;obtain⟨d,a,a3,q⟩:=Lib.run_makeNoZero (P:=prog) w #[3] 74 5 underlying74 64 a_;have J:(YR 199 #[.int .i64 64]).run prog w=.ok (.value (.slice (some ⟨w.heap.size,0,none⟩) 64 d.size)) ((w.alloc (.cells d 5)).drewN 2):=by have:=run_callFunc_extern (P:=prog) (args:=#[.int .i64 64]) (w:=w) func199 ah ah ah (e:=Extern.BytealgMakeNoZero.makeNoZero #[3] #[74]) ah;rw[this];have h2:(Extern.BytealgMakeNoZero.makeNoZero #[3] #[74] #[.int .i64 64]).run prog w=_:=a;rw[h2];rfl
 clear a;have G:=q (by unfold uk;omega);unfold uk at G;clear q;have i1:(64:Int)<=(d.size:Int):=a_;have HC:=hide (show aYa x w w.heap.size d.size 0 ((w.alloc (.cells d 5)).drewN 2) from⟨d.toList,(f_.new w 5 d).drewN 2,rfl,b_,(((Ext.refl w).alloc _).drewN _).below⟩)
 go_enter func193,ntmps193
 go_upto_region 17 with (go_at_call 169;refine (KQ _).mono ?_;rintro e D ⟨rfl,rfl⟩)
 iterate 7 (first|go_values|go_skip|go_guarded|go_step|go_upon)
 obtain⟨s,f,y,z,l⟩:=aA HC;refine wpList_copy_splice rfl (.tmp 58) (.tmp 59) 74 74 rfl 5 underlying74 bCb (some ⟨w.heap.size,0,none⟩) (some ⟨b,o,none⟩) 64 64 1 c rfl rfl w.heap.size 0 s 5 f [jk x] rfl ?_ ?_ ?_ w.heap.size w l (dC _) ?_;intro _;refine⟨rfl,_,rfl,fun j v r=>?_⟩
 match j,r with
 |0,r=>cases r;exact (l.cell (p:=⟨b,o,none⟩) hb).trans (aA HU)
 simp;omega;intro v E;simp at E;subst E;rfl
 ·intro X W V;have C:=hide (show aYa x w w.heap.size d.size 1 X from⟨_,aA W,by have:=aIb s (jk x) 0 1 y a_;simpa using this,by rw[length_splice _ _ _ jr];exact z,V⟩);clear f y z l W V
  go_wp2
  go_loopw [10] (fun p wr=>∃ k:Nat,0<k/\k<=64/\p=.int .i64 k/\Hid (aYa x w w.heap.size d.size k wr)) (fun p _=>64-(intOf p).toNat)
  case atStart=>exact⟨1,a_,a_,rfl,C⟩
  case round=>
   clear C;obtain⟨k,a4,hk,rfl,C⟩:=hrel;by_cases a2:k<64
   ·obtain⟨cur,f,y,z,l⟩:=aA C;have K:64<=cur.length:=a_;have N:=hide (az y z);clear y z;have a7:decide ((k:Int)<64)=true:=rq a_;have a8:(k:Int)<64:=a_;have bn:¬k=64:=a_;have b1:(k:Int)<=64:=a_;have b0:(0:Int)<=(k:Int):=a_;obtain⟨m,H⟩:=lm (Nat.min k (64-k));have B:k+m<=64/\m<=k/\0<m:=by have:Nat.min k (64-k)=min k (64-k):=rfl;omega
    have Q:0<(PR m (jk x)).length->some (⟨w.heap.size,k,none⟩:uC)=some ⟨w.heap.size,k,none⟩/\∃ L,some (⟨w.heap.size,0,none⟩:uC)=some L/\∀ (j:Nat) (v:ag),(PR m (jk x))[j]?=some v->wr.drew.cell? (L.add j)=some v:=by
     intro _;refine⟨rfl,_,rfl,fun j v r=>?_⟩;have I:j<m:=by rcases Yk j m with h|h;exact h;rw[YQ (by simpa using h)] at r;cases r
     rw[aAG,au I] at r;cases r;rw[add_lit,ik];have:=f_.cell (show f_ wr w.heap.size 5 cur.toArray from f) j;refine Eq.trans this ?_;have e:=(aA N).1;have U:(cur.take k)[j]?=some (jk x):=by rw[e,aAG,au a_]
     rw[x8,au a_] at U;simpa using U
    have S:(PR m (jk x)).length=Nat.min k (64-k):=by rw[H];simp
    have O:∀ v∈PR m (jk x),v.oneCell'=true:=by intro v E;rw[(List.mem_replicate.1 E).2];rfl
    obtain⟨F,T,HN⟩:∃ F,(Builtin.copy_ #[74,74] 3 #[.slice (some ⟨w.heap.size,k,none⟩) (64-k) (64-k),.slice (some ⟨w.heap.size,0,none⟩) k 64]).run prog wr.drew=.ok (.int .i64 (m:Int)) F/\Hid (aYa x w w.heap.size d.size (k+m) F):=by obtain⟨_,L,e,A⟩:=Q jr;cases e;have h:=run_copy_row (P:=prog) wr.drew 74 74 3 5 w.heap.size k (64-k) (64-k) ⟨w.heap.size,0,none⟩ k 64 cur.toArray 5 (PR m (jk x)) underlying74 bCb f S A jr O;simp only[List.length_replicate] at h;refine⟨_,h,hide ⟨splice cur k (PR m (jk x)),?_,aIb cur (jk x) k m (aA N).1 a_,?_,?_⟩⟩;have:=setRow_heap wr.drew w.heap.size _ (splice cur k (PR m (jk x))).toArray 5 _ f;simpa[splice,Pi] using this;rw[length_splice _ _ _ jr];exact (aA N).2;exact below_setRow (l.trans (Ext.below ((Ext.refl wr).drew) |>.mono (by have:=l.size;omega))) (dC _) _
    have HM:=hide (az H B);obtain⟨a1,a0,Z⟩:=B;clear H S Q O f l K
    go_upto_region 20 with fail
    go_region
    all_goals
     go_wp2
     go_roundw
     case rel=>exact⟨k+m,a_,a_,by go_num,HN⟩
     case measure=>simp[intOf];omega
   ·obtain rfl:k=64:=a_
    go_wp2
    go_ret;obtain⟨cur,f,y,z,l⟩:=aA C
    refine⟨_,rfl,?_,Ext.of_below l,dC _,(show f_ wr w.heap.size 5 cur.toArray from f).frozen⟩;have:=Reads.A_ (show f_ wr w.heap.size 5 cur.toArray from f) (i:=0) (n:=64) (c:=64) jr a_ (by unfold uk;omega);simpa[y] using this
theorem Reads.set{w:ae}{g n c:Nat}{xs:ji}(h:Reads w 1 (.slice (some ⟨g,0,none⟩) n c) n xs){k:Nat}(r:k<n)(u:ag):Reads (w.setCell ⟨g,k,none⟩ u) 1 (.slice (some ⟨g,0,none⟩) n c) n (xs.set k u):=by obtain⟨l,A,s,e,q,p,m⟩:=h;cases e;refine⟨by rw[Yb];exact l,_,_,rfl,q,p,fun i=>⟨g,0,rfl,fun j v d=>?_⟩⟩;obtain⟨b,o,e,f⟩:=m i;cases e;rw[ik];by_cases a:k=j;subst a;rw[List.getElem?_set_self a_] at d;cases d;have:=f k _ (zH a_);rw[ik] at this;exact aEN _ _ _ (by rw[this];rfl);rw[List.getElem?_set_ne a] at d;have:=f j v d;rw[ik] at this;rw[aGF (h:=fun e=>a (by cases e;rfl))];exact this
def Bj(n:Nat)(a:dh)(x:UInt8)(k:Nat):dh:=(AC n).map fun i=>if i<k then x ^^^ a.getD i 0 else x
def Jf(n:Nat)(a:dh)(x:UInt8):dh:=(AC n).map fun i=>a.getD i 0 ^^^ x
theorem bEh(n:Nat)(a:dh)(x:UInt8):(Bj n a x 0).map jk=PR n (jk x):=by unfold Bj;apply Z9;simp;intro i c b;simp
theorem sD(n:Nat)(a:dh)(x:UInt8)(k:Nat):(Bj n a x k).length=n:=by simp[Bj]
theorem aWa(n:Nat)(a:dh)(x:UInt8)(k i:Nat)(h:i<n):(Bj n a x k)[i]?=some (if i<k then x ^^^ a.getD i 0 else x):=by unfold Bj;rw[XN,List.getElem?_range h];rfl
theorem bEi(n:Nat)(a:dh)(x:UInt8)(k:Nat):Bj n a x (k+1)=(Bj n a x k).set k (x ^^^ a.getD k 0):=by apply List.ext_getElem?;intro i;by_cases c:i<n;rw[aWa n a x (k+1) i c,List.getElem?_set,aWa n a x k i c,sD];by_cases b:k=i;subst b;rw[au rfl,au c,au a_];rw[ay b];by_cases h:i<k;rw[au h,au a_];rw[ay h,ay a_];rw[YQ (by rw[sD];omega),YQ (by rw[Yb,sD];omega)]
theorem Jg(n:Nat)(a:dh)(x:UInt8):Bj n a x a.length=Jf n a x:=by unfold Bj Jf;apply List.map_congr_left;intro i _;by_cases h:i<a.length;rw[au h,UInt8.xor_comm];rw[ay h,zG,YQ a_];simp
theorem Qa(n:Nat)(a:dh)(x:UInt8)(k:Nat)(h:k<n):((Bj n a x k).map jk)[k]?=some (jk x):=by rw[XN,zH (by rw[sD];exact h)];simp[Bj]
def vF(a:dh)(x:UInt8)(k:Nat):dh:=Bj 64 a x k
def qA(a:dh)(x:UInt8):dh:=Jf 64 a x
theorem aOm(a:dh)(x:UInt8):(vF a x 0).map jk=PR 64 (jk x):=bEh 64 a x
theorem aOn(a:dh)(x:UInt8)(k:Nat):vF a x (k+1)=(vF a x k).set k (x ^^^ a.getD k 0):=bEi 64 a x k
theorem aTa(a:dh)(x:UInt8):vF a x a.length=qA a x:=Jg 64 a x
theorem aZl(a:dh)(x:UInt8)(k:Nat)(h:k<64):((vF a x k).map jk)[k]?=some (jk x):=Qa 64 a x k h
theorem jP(a:dh)(x:UInt8):(qA a x).length=64:=by unfold qA Jf;rw[YU,List.length_range]
theorem aKy(x:UInt8)(r:Int)(G:r=(x.toNat:Int))(a:dh)(l:Nat)(v:ag)(w:ae)(j:w.cell? ⟨l,0,none⟩=some v)(hr:Reads w 1 v a.length (a.map jk))(hl:a.length<=64) :
  mf prog 192 #[.int .u8 r,.pointer (some ⟨l,0,none⟩)] w fun e s=>∃ g,e=.returned (.slice (some ⟨g,0,none⟩) 64 64)/\Reads s 1 (.slice (some ⟨g,0,none⟩) 64 64) 64 ((qA a x).map jk)/\Ext w s:=by
 subst G;have O:=hide hr;obtain⟨A,c,rfl⟩:∃ A c,v=.slice A a.length c:=by obtain⟨_,A,c,h,_⟩:=hr;exact⟨A,c,h⟩
 have P:=hide j;have X:=hide (lt_of_cell j);clear hr j
 go_enter func192,ntmps192
 go_wp2_with fail
 refine (aYy x _ _ ?hr).mono ?_
 case hr=>exact Reads.Bl _ _ _
 rintro e F ⟨g,rfl,D,q,B,n⟩;have m:F.cell? ⟨l,0,none⟩=some (.slice A a.length c):=Ext.lw (((Ext.refl w).alloc _).trans q) (aA P);have Q:=hide (show w.heap.size<=g from PP (((Ext.refl w).alloc (.cells #[jk x] 5)).size') B);have S:=hide (((Ext.refl w).alloc (.cells #[jk x] 5)).trans q);have E:=hide (az D n);clear D q B n
 go_wp2
 clear m
 go_loopw [12] (fun i wr=>∃ k:Nat,k<=a.length/\i=.int .i64 k/\Hid (Reads wr 1 (.slice (some ⟨g,0,none⟩) 64 64) 64 ((vF a x k).map jk)/\(∀ i,wr.frozen? ⟨g,i,none⟩=false)/\Ext w wr)) (fun i _=>a.length-(intOf i).toNat)
 case atStart=>exact⟨0,xn _,rfl,hide ⟨by rw[aOm];exact (aA E).1,(aA E).2,aA S⟩⟩
 case round=>
  obtain⟨k,j,rfl,d⟩:=hrel;by_cases f:k<a.length
  ·obtain⟨b,o,V,u,H,_,_,U,t,p⟩:=((aA O).ext (aA d).2.2).GV f;cases H;rw[XN,zH f] at t;cases t;have I:wr.cell? ⟨g,k,none⟩=some (jk x):=by obtain⟨_,_,_,e,_,_,h⟩:=(aA d).1;cases e;obtain⟨W,T,K,J⟩:=h a_;cases K;have:=J k _ (aZl a x k a_);rwa [ik] at this
   have n:=(aA d).2.1 k;unfold jk at p I;have N:=hide (show vF a x (k+1)=(vF a x k).set k (x ^^^ a[k]) from by rw[aOn a x k,zG,zH f];rfl);have y:(k:Int)<64:=a_;generalize a[k]=z at *;have C:=aBI x z;have L:=hide C;clear C
   go_wp2
   go_roundw
   case rel=>refine⟨k+1,a_,by go_num,hide ⟨?_,fun i=>by rw[aGE];exact (aA d).2.1 i,(aA d).2.2.setCell (aA Q) _⟩⟩;rw[aA N,List.map_set];have:=(aA d).1.set (k:=k) a_ (jk (x ^^^ z));rw[aA L];exact this
   case measure=>simp[intOf];omega
  ·obtain rfl:k=a.length:=a_
   go_wp2
   go_ret;refine⟨g,rfl,?_,(aA d).2.2⟩
   rw[<-aTa];exact (aA d).1
theorem aTt(a m:dh):CX a m=sha (qA (if a.length > 64 then sha a else a) 92++sha (qA (if a.length > 64 then sha a else a) 54++m)):=rfl
theorem dS(l:dh):(sha l).length=32:=by
 have h:(lT ((iF l).length / 64) tY (iF l)).length=8:=by rw[<-qO];exact iZ _ _ _ rfl
 have a:=aCb (lT ((iF l).length / 64) tY (iF l)) 8 a_;unfold PN at a;rw[YY a_] at a;exact a
theorem jX(a m:dh):(CX a m).length=32:=by rw[aTt];exact dS _
theorem aLi (a b:dh) (kv bv:ag) (w:ae) (hM:af w) (hk:Reads w 1 kv a.length (a.map jk)) (hb:Reads w 1 bv b.length (b.map jk)) (b6:a.length<=1000000) (b7:b.length<=1000000) :
    mf prog 179 #[kv,bv] w fun e w'=>e=.returned (.agg ((CX a b).map jk).toArray)/\Ext w w':=by
  have HM:=hide hM;have HB:=hide hb;obtain⟨A,c,rfl⟩:∃ A c,kv=.slice A a.length c:=by obtain⟨_,A,c,h,_⟩:=hk;exact⟨A,c,h⟩
  have b2:=hide hk;clear hM hk hb;rw[aTt];by_cases C:a.length > 64
  ·
    rw [au C];have a9:decide ((64:Int)<(a.length:Int))=true:=rq a_;have o:(sha a).length<=64:=by rw[dS];omega
    obtain⟨d,L⟩:=lm (sha a);rw[L] at o ⊢;have a3:=hide L;clear L C
    go_enter func179,ntmps179
    go_wp2_with fail
    refine (sum_any a _ _ ((aA HM).ext (((Ext.refl w).alloc _).alloc _)) ((aA b2).ext (((Ext.refl w).alloc _).alloc _)) a_).mono ?_;rintro e D ⟨rfl,a7⟩;clear a9;rw[aA a3];have H1:=hide a7;clear a7;have b1:=hide (show ((d.map jk).toArray).size=32 from by rw[<-aA a3];simpa using dS _);have c0:D.cell? ⟨w.heap.size,0,none⟩=some (.slice A a.length c):=Ext.lw (aA H1) (fM _ _ (eY _ _ _ rfl rfl));have f0:D.frozen? ⟨w.heap.size,0,none⟩=false:=Ext.zn (aA H1) (((f_.new w 74 #[.slice A a.length c]).alloc _).frozen 0) jr;have B:=hide (az c0 (az f0 (lt_of_cell c0)));clear c0 f0
    go_wp2_with (refine aV (ty:=142) (t:=142) (x:=.tmp 5) (y:=.tmp 12) rfl rfl iT rfl rfl (f_.new D _ _) rfl (aA b1) (fU _) ?_;intro w2 a6 a0 a5;have c0:=gu.lw (a0) (fM _ _ (aA B).1) (Nat.ne_of_lt (aA B).2.2);have f0:=gu.zn a0 (Ext.zn ((Ext.refl D).alloc _) (aA B).2.1 (aA B).2.2) (by have:=(aA B).2.2;simp;omega) (Nat.ne_of_lt (aA B).2.2);have b0:=hide (az a6 (az a0 a5));clear a6 a0 a5)
    obtain⟨g,j⟩:∃ v,v=Yu (some ⟨D.heap.size,0,none⟩) 32 32:=⟨_,rfl⟩;have b4:w.heap.size+2<=D.heap.size:=by have:=(aA H1).size';simp at this;omega
    have a8:d.length=32:=by rw[<-aA a3];exact dS _
    have a1:gu (fun k=>k=w.heap.size) D (w2.setCell ⟨w.heap.size,0,none⟩ g):=by have h1:gu (fun k=>k=w.heap.size) D w2:=((Ext.refl D).alloc _).trans' (aA b0).2.1 (fun _ _ h=>h.elim) (fun i hi e=>a_);exact h1.setCell (p:=⟨w.heap.size,0,none⟩) (.inl rfl) _
    have l:Hid ((w2.setCell ⟨w.heap.size,0,none⟩ g).cell? ⟨w.heap.size,0,none⟩=some g/\Reads (w2.setCell ⟨w.heap.size,0,none⟩ g) 1 g d.length (d.map jk)/\Ext w (w2.setCell ⟨w.heap.size,0,none⟩ g) /\
        f_ (w2.setCell ⟨w.heap.size,0,none⟩ g) (w.heap.size+1) 142 (IR 32 (.int .u8 0))):=hide (by
      refine⟨aEN _ _ _ (by rw[c0];rfl),?_,?_,?_⟩;have hb:=(aA b0).1.far' (show ¬D.heap.size=w.heap.size by omega) 0 g;have:=Reads.A_ hb (i:=0) (n:=32) (c:=32) (by rw[aA b1];omega) a_ (by unfold uk;omega);simp only[Yh] at this;rw[YY (by rw[YU];omega)] at this;rw[a8,j];rw[j] at this;exact this;exact ((((Ext.refl w).alloc _).alloc _).trans (aA H1)).trans' a1 (fun _ _ h=>h) (fun i hi e=>a_);have h1:f_ ((w.alloc (.cells #[.slice A a.length c] 74)).alloc (.cells (IR 32 (.int .u8 0)) 142)) (w.heap.size+1) 142 (IR 32 (.int .u8 0)):=f_.new' _ _ _ b_
      exact (h1.ext (aA H1)).iq a1 a_)
    subst j;clear c0 f0 a1 b4 a8 B;have b5:=hide o
    go_wp2_with fail
    refine (aKy 54 _ rfl d w.heap.size (.slice (some ⟨D.heap.size,0,none⟩) 32 32) _ (aA l).1 (aA l).2.1 o).mono ?_;rintro e w2 ⟨g2,rfl,Q,X⟩;have H2:=hide (az Q X);clear Q X
    go_wp2_with (at_builtin;refine aDu rfl rfl kW rfl (aA H2).1 a_ rfl (((aA HB).ext (aA l).2.2.1).ext (aA H2).2) (fG.u8 b) a_ ?_;intro A3 c3 w3 I W;have H3:=hide (az I W);clear I W)
    refine (sum_any (qA d 54++b) _ _ (((aA HM).ext (aA l).2.2.1).ext ((aA H2).2.trans (aA H3).2)) ?hr (by rw[gp,jP];omega)).mono ?_
    case hr=>have:=(aA H3).1;rw[<-Z8] at this;rw[gp,jP];exact this
    rintro e w4 ⟨rfl,V⟩;obtain⟨E,f⟩:∃ r,((sha (qA d 54++b)).map jk).toArray=r:=⟨_,rfl⟩;have a4:=hide f;have z:=hide (show E.size=32/\E.all (·.oneCell')=true from by rw[<-f];exact⟨by simpa using dS _,fU _⟩);rw[f];have H4:=hide ((aA H2).2.trans ((aA H3).2.trans V));clear f V
    go_wp2_with (refine aV (ty:=142) (t:=142) (x:=.tmp 7) (y:=.tmp 19) rfl rfl iT rfl rfl (f_.new w4 _ _) rfl (aA z).1 (aA z).2 ?_;intro Z O N F;have H5:=hide (az O (az N F));clear O N F)
    have m:=hide ((aA H4).trans (((Ext.refl w4).alloc (.cells #[ed ry 0,ed ry 0,ed ry 0,ed ry 0,ed ry 0,ed ry 0,ed ry 0,ed ry 0,ed ry 0,ed ry 0,ed ry 0,ed ry 0,ed ry 0,ed ry 0,ed ry 0,ed ry 0,ed ry 0,ed ry 0,ed ry 0,ed ry 0,ed ry 0,ed ry 0,ed ry 0,ed ry 0,ed ry 0,ed ry 0,ed ry 0,ed ry 0,ed ry 0,ed ry 0,ed ry 0,ed ry 0] 142)).trans' (aA H5).2.1 (fun _ _ h=>h) (fun i hi e=>a_)))
    have a2:=hide (show Reads Z 1 (.slice (some ⟨w4.heap.size,0,none⟩) 32 32) 32 ((sha (qA d 54++b)).map jk) from by
      have:=Reads.A_ (aA H5).1 (i:=0) (n:=32) (c:=32) (by rw[(aA z).1];omega) a_ (by unfold uk;omega);rw[<-aA a4] at this;simp only[Yh] at this
      rwa [YY (by rw[YU,dS];omega)] at this)
    go_region_law (first
      |(refine aNm (s:=.tmp 21) (x:=.tmp 22) rfl rfl kW rfl (aA H6).1 a_ rfl ((aA a2).ext (((Ext.refl Z).drew).trans (aA H6).2)) (fG.u8 _) a_ ?_;intro A8 c8 w8 H T;have H8:=hide (az H T);clear H T)
      |(go_simp;go_at_call 192;refine (aKy 92 _ rfl d w.heap.size (.slice (some ⟨D.heap.size,0,none⟩) 32 32) _ (Ext.lw ((aA m).drew) (aA l).1) ((aA l).2.1.ext ((aA m).drew)) o).mono ?_;rintro e w6 ⟨g6,rfl,P,U⟩;have H6:=hide (az P U);clear P U)
      | (
       rename_i K hK;go_simp;go_at_call 191;refine (sum_any (qA d 92++sha (qA d 54++b)) _ _ ((((aA HM).ext (aA l).2.2.1).ext (aA m)).ext (((Ext.refl Z).drew).trans ((aA H6).2.trans (aA H8).2))) ?_ ?_).mono ?_;(focus (have:=(aA H8).1;rw[<-Z8] at this;rw[gp,jP,dS];exact this));(focus (rw[gp,jP,dS];omega));rintro e w9 ⟨rfl,S⟩;have H9:=hide ((aA m).trans (((Ext.refl Z).drew).trans ((aA H6).2.trans ((aA H8).2.trans S))));clear S;dsimp only;refine hK _ _ ?_;clear hK K;refine wpAny_ready (rs:=[5]) ah b_ (AllReady.cons rfl (fun J hJ=>?_) AllReady.nil);refine jW (ty:=142) (t:=142) (x:=.tmp 4) (y:=.tmp 24) rfl rfl iT rfl rfl ((aA l).2.2.2.ext (aA H9)) ?_ ?_ ?_ ?_;rw[aFK];simpa using dS _;exact fU _;intro b3 u q G;have Y:=hide (az u q);clear u q G;refine hJ _ _ ?_
       clear hJ J))
    go_wp2
    refine ZJ (v:=.agg ((sha (qA d 92++sha (qA d 54++b))).map jk).toArray) (gI iT rfl (aA Y).1 (by simpa using dS _) rfl) rfl ⟨rfl,?_⟩;exact ((aA l).2.2.1.trans (aA H9)).trans' (aA Y).2 (fun _ _ h=>h) (fun i hi e=>a_)
  ·
    rw [ay C];have o:a.length<=64:=a_;have a9:decide ((64:Int)<(a.length:Int))=false:=Bg a_;obtain⟨d,L⟩:∃ d,d=a:=⟨_,rfl⟩;subst L;obtain⟨g,j⟩:∃ v,v=Yu A d.length c:=⟨_,rfl⟩
    have l:Hid ((((w.alloc (.cells #[.slice A d.length c] 74)).alloc (.cells (IR 32 (.int .u8 0)) 142)).cell? ⟨w.heap.size,0,none⟩=some g) /\
        Reads ((w.alloc (.cells #[.slice A d.length c] 74)).alloc (.cells (IR 32 (.int .u8 0)) 142)) 1 g d.length (d.map jk)/\Ext w ((w.alloc (.cells #[.slice A d.length c] 74)).alloc (.cells (IR 32 (.int .u8 0)) 142)) /\
        f_ ((w.alloc (.cells #[.slice A d.length c] 74)).alloc (.cells (IR 32 (.int .u8 0)) 142)) (w.heap.size+1) 142 (IR 32 (.int .u8 0))):=hide ⟨by rw[j];exact fM _ _ (eY _ _ _ rfl rfl),by rw[j];exact (aA b2).ext (((Ext.refl w).alloc _).alloc _),((Ext.refl w).alloc _).alloc _,f_.new' _ _ _ b_⟩
    have b8:=hide j;clear j C
    go_enter func179,ntmps179
    have b5:=hide o
    go_wp2_with fail
    refine (aKy 54 _ rfl d w.heap.size g _ (aA l).1 (aA l).2.1 o).mono ?_;rintro e w2 ⟨g2,rfl,Q,X⟩;have H2:=hide (az Q X);clear Q X
    go_wp2_with (at_builtin;refine aDu rfl rfl kW rfl (aA H2).1 a_ rfl (((aA HB).ext (aA l).2.2.1).ext (aA H2).2) (fG.u8 b) a_ ?_;intro A3 c3 w3 I W;have H3:=hide (az I W);clear I W)
    refine (sum_any (qA d 54++b) _ _ (((aA HM).ext (aA l).2.2.1).ext ((aA H2).2.trans (aA H3).2)) ?hr (by rw[gp,jP];omega)).mono ?_
    case hr=>have:=(aA H3).1;rw[<-Z8] at this;rw[gp,jP];exact this
    rintro e w4 ⟨rfl,V⟩;obtain⟨E,f⟩:∃ r,((sha (qA d 54++b)).map jk).toArray=r:=⟨_,rfl⟩;have a4:=hide f;have z:=hide (show E.size=32/\E.all (·.oneCell')=true from by rw[<-f];exact⟨by simpa using dS _,fU _⟩);rw[f];have H4:=hide ((aA H2).2.trans ((aA H3).2.trans V));clear f V
    go_wp2_with (refine aV (ty:=142) (t:=142) (x:=.tmp 7) (y:=.tmp 19) rfl rfl iT rfl rfl (f_.new w4 _ _) rfl (aA z).1 (aA z).2 ?_;intro Z O N F;have H5:=hide (az O (az N F));clear O N F)
    have m:=hide ((aA H4).trans (((Ext.refl w4).alloc (.cells #[ed ry 0,ed ry 0,ed ry 0,ed ry 0,ed ry 0,ed ry 0,ed ry 0,ed ry 0,ed ry 0,ed ry 0,ed ry 0,ed ry 0,ed ry 0,ed ry 0,ed ry 0,ed ry 0,ed ry 0,ed ry 0,ed ry 0,ed ry 0,ed ry 0,ed ry 0,ed ry 0,ed ry 0,ed ry 0,ed ry 0,ed ry 0,ed ry 0,ed ry 0,ed ry 0,ed ry 0,ed ry 0] 142)).trans' (aA H5).2.1 (fun _ _ h=>h) (fun i hi e=>a_)))
    have a2:=hide (show Reads Z 1 (.slice (some ⟨w4.heap.size,0,none⟩) 32 32) 32 ((sha (qA d 54++b)).map jk) from by
      have:=Reads.A_ (aA H5).1 (i:=0) (n:=32) (c:=32) (by rw[(aA z).1];omega) a_ (by unfold uk;omega);rw[<-aA a4] at this;simp only[Yh] at this
      rwa [YY (by rw[YU,dS];omega)] at this)
    go_region_law (first
      |(refine aNm (s:=.tmp 21) (x:=.tmp 22) rfl rfl kW rfl (aA H6).1 a_ rfl ((aA a2).ext (((Ext.refl Z).drew).trans (aA H6).2)) (fG.u8 _) a_ ?_;intro A8 c8 w8 H T;have H8:=hide (az H T);clear H T)
      |(go_simp;go_at_call 192;refine (aKy 92 _ rfl d w.heap.size g _ (Ext.lw ((aA m).drew) (aA l).1) ((aA l).2.1.ext ((aA m).drew)) o).mono ?_;rintro e w6 ⟨g6,rfl,P,U⟩;have H6:=hide (az P U);clear P U)
      | (
       rename_i K hK;go_simp;go_at_call 191;refine (sum_any (qA d 92++sha (qA d 54++b)) _ _ ((((aA HM).ext (aA l).2.2.1).ext (aA m)).ext (((Ext.refl Z).drew).trans ((aA H6).2.trans (aA H8).2))) ?_ ?_).mono ?_;(focus (have:=(aA H8).1;rw[<-Z8] at this;rw[gp,jP,dS];exact this));(focus (rw[gp,jP,dS];omega));rintro e w9 ⟨rfl,S⟩;have H9:=hide ((aA m).trans (((Ext.refl Z).drew).trans ((aA H6).2.trans ((aA H8).2.trans S))));clear S;dsimp only;refine hK _ _ ?_;clear hK K;refine wpAny_ready (rs:=[5]) ah b_ (AllReady.cons rfl (fun J hJ=>?_) AllReady.nil);refine jW (ty:=142) (t:=142) (x:=.tmp 4) (y:=.tmp 24) rfl rfl iT rfl rfl ((aA l).2.2.2.ext (aA H9)) ?_ ?_ ?_ ?_;rw[aFK];simpa using dS _;exact fU _;intro b3 u q G;have Y:=hide (az u q);clear u q G;refine hJ _ _ ?_
       clear hJ J))
    go_wp2
    refine ZJ (v:=.agg ((sha (qA d 92++sha (qA d 54++b))).map jk).toArray) (gI iT rfl (aA Y).1 (by simpa using dS _) rfl) rfl ⟨rfl,?_⟩;exact ((aA l).2.2.1.trans (aA H9)).trans' (aA Y).2 (fun _ _ h=>h) (fun i hi e=>a_)
def zig(n:Int):Nat:=if 0<=n then (2*n).toNat else (-2*n-1).toNat
def varint:Nat->Nat->List UInt8
 |0,u=>[uB u]|f+1,u=>if u<128 then[uB u] else uB (128+u % 128)::varint f (u / 128)
def eu(n:Int):List UInt8:=varint 9 (zig n)
def bH(l:List UInt8):List UInt8:=eu l.length++l
theorem iW{f u:Nat}(h:u<128):varint f u=[uB u]:=by cases f with
 |zero=>rfl|succ f=>rw[varint,if_pos h]
theorem mV{f u:Nat}(h:¬u<128):varint (f+1) u=uB (128+u % 128)::varint f (u / 128):=by rw[varint,if_neg h]
theorem aJz(f u:Nat):(varint f u).length<=f+1:=by
 induction f generalizing u with
 |zero=>simp[varint]|succ f a=>rw[varint];split;simp;simp;exact a _
theorem aQ(n:Int):(eu n).length<=10:=aJz 9 _
theorem jU(l:List UInt8):(bH l).length<=10+l.length:=by unfold bH;have:=aQ l.length;simp;omega
theorem aHs{n:Int}(h1:-9223372036854775808<=n)(h2:n<9223372036854775808):zig n<18446744073709551616:=by unfold zig;split<;>omega
theorem aDC:∀ x,x<256->x ||| 128=128+x % 128:=by decide +kernel
theorem bEn(u:Nat):bits BinOp.or ry ((u:Int) % 256) 128=((uB (128+u % 128)).toNat:Int):=by
 rw[u8_or _ _ (by omega) (by omega) (by omega) (by omega)];have e:((u:Int) % 256).toNat=u % 256:=by omega
 rw[e,show (128:Int).toNat=128 from rfl,aDC _ (by omega)];simp;omega
def Ti(x:Nat):Prop:=x<18446744073709551616
def WI(n:Int)(w:ae)(x f m:Nat)(v:ag)(wr:ae):Prop:=∃ a:dh,eu n=a++varint f x/\m=a.length/\x<128 ^ (f+1)/\f<=9/\wr.ownsRow w.heap.size 5 1 v m (a.map jk)/\Ext w wr
theorem WI.small{n:Int}{w wr:ae}{x f m:Nat}{v:ag}(h:WI n w x f m v wr):m<=10:=by obtain⟨a,b,rfl,_⟩:=h;have:=aQ n;rw[b] at this;simp at this;omega
theorem WI.app{n:Int}{w wr a:ae}{x f m:Nat}{A p:Option uC}{c l:Nat}(h:WI n w x f m (.slice A m c) wr)(q:¬x<128)
  (r:a.ownsRow w.heap.size 5 1 (.slice p (m+1) l) (m+1) ((h.choose).map jk++[jk (uB (128+x % 128))])) {o:Obj} (hc:gu (fun k=>(Yu A m c).ownBlock=some k) (wr.alloc o) a) :
  ∃ g,WI n w (x / 128) g (m+1) (.slice p (m+1) l) a:=by
 obtain⟨j,u,d,z,t,s⟩:=h.choose_spec;generalize h.choose=b at *;cases f with
 |zero=>simp at d;omega|succ g=>rw[mV q] at j;refine⟨g,b++[uB (128+x % 128)],by rw[j];simp,by simp[u],?_,a_,by simpa using r,(s.alloc o).trans' hc (fun _ _ h=>h) (fun i y e=>by have:=t.lt i e;omega)⟩;rw[Nat.pow_succ] at d;exact Nat.div_lt_of_lt_mul (by rw[Nat.mul_comm];exact d)
theorem WI.last{n:Int}{w wr a:ae}{x f m:Nat}{A g:Option uC}{c d:Nat}(h:WI n w x f m (.slice A m c) wr)(l:x<128)
  (p:a.ownsRow w.heap.size 5 1 (.slice g (m+1) d) (m+1) ((h.choose).map jk++[jk (uB x)])) {o:Obj} (hc:gu (fun k=>(Yu A m c).ownBlock=some k) (wr.alloc o) a) :
  m+1=(eu n).length/\a.ownsRow w.heap.size 5 1 (.slice g (m+1) d) (m+1) ((eu n).map jk)/\Ext w a:=by
 obtain⟨b,s,y,u,r,q⟩:=h.choose_spec;generalize h.choose=j at *;rw[iW l] at b;refine⟨by rw[b];simp[s],by rw[b];simpa using p,(q.alloc o).trans' hc (fun _ _ h=>h) (fun i t e=>by have:=r.lt i e;omega)⟩
theorem aDI(a:Nat)(h:a<18446744073709551616):bits BinOp.xor IntKind.u64 IntKind.u64.max (a:Int)=((18446744073709551615-a:Nat):Int):=by
 have e:=u64_xor IntKind.u64.max (a:Int) g_ g_ a_ a_;rw[e];have c:(UInt64.ofNat a).toNat=a:=jr;have b:(-1 ^^^ UInt64.ofNat a).toNat=18446744073709551615-a:=by rw[UInt64.neg_one_xor,UInt64.toNat_not,c];rfl
 rw[UInt64.toNat_xor,c] at b;rw[<-b];rfl
theorem PX(n:Int)(h0:0<=n)(h2:n<9223372036854775808):IntKind.wrap .u64 (IntKind.wrap .u64 n*2)=(zig n:Int):=by rw[aAJ,aAJ];unfold zig;rw[au h0];omega
theorem PY(n:Int)(h0:n<0)(h1:-9223372036854775808<=n):bits BinOp.xor IntKind.u64 IntKind.u64.max (IntKind.wrap .u64 (IntKind.wrap .u64 n*2))=(zig n:Int):=by
 have e:IntKind.wrap .u64 (IntKind.wrap .u64 n*2)=((2*n+18446744073709551616).toNat:Int):=by rw[aAJ,aAJ];omega
 rw[e,aDI _ a_];unfold zig;rw[ay a_];omega
theorem WI.start{n:Int}(h1:-9223372036854775808<=n)(h2:n<9223372036854775808)(w:ae):WI n w (zig n) 9 0 (.slice none 0 0) w:=⟨[],rfl,rfl,YX (aHs h1 h2) g_,a_,aFI _ _ _ _,Ext.refl _⟩
theorem aYb(n:Int)(w:ae)(h1:-9223372036854775808<=n)(h2:n<9223372036854775808) :
  mf prog 41 #[.int .i64 n] w fun e c=>e=.returned (.int .u64 (zig n:Int))/\w=c:=by
 by_cases b:0<=n
 ·have a:=hide (show ((zig n:Nat):Int)=2*n from by unfold zig;rw[au b];omega)
  go_enter func41,ntmps41
  go_wp2
  go_ret;exact⟨uY (by first|exact (aA a).symm|(rw[aA a];omega)|(rw[aA a];simp[aAJ];omega)),rfl⟩
 ·have a:=hide (show ((zig n:Nat):Int) = -2*n-1 from by unfold zig;rw[ay b];omega);have f:decide (0<=n)=false:=Bg b;have d:n<0:=a_;clear b
  go_enter func41,ntmps41
  go_wp2
  go_ret;exact⟨uY (by first|exact (aA a).symm|(rw[aA a];omega)|(rw[aA a];simp[aAJ];omega)),rfl⟩
theorem aVr(n:Int)(w:ae)(h1:-9223372036854775808<=n)(h2:n<9223372036854775808) :
  mf prog 24 #[.int .i64 n] w fun e l=>∃ A c,e=.returned (.slice A (eu n).length c)/\l.ownsRow w.heap.size 5 1 (.slice A (eu n).length c) (eu n).length ((eu n).map jk)/\Ext w l:=by
 have a:=hide (WI.start h1 h2 w);have C:=hide (show Ti (zig n) from aHs h1 h2);have r:=hide (fun w=>aYb n w h1 h2);clear h1 h2
 go_enter func24,ntmps24
 go_wp2_with (go_at_call 41;refine (aA r _).mono ?_;rintro e l ⟨rfl,rfl⟩)
 generalize zig n=z at *
 go_loopw [3,4] (fun u b wr=>∃ (x f m:Nat) (A:Option uC) (c:Nat),u=.int .u64 (x:Int)/\Ti x/\b=.slice A m c/\Hid (WI n w x f m (.slice A m c) wr)) (fun u _ _=>(intOf u).toNat)
 case atStart=>exact⟨z,9,0,none,0,rfl,aA C,rfl,a⟩
 case round=>
  clear a C;obtain⟨x,f,m,A,c,rfl,d,rfl,a⟩:=hrel;have H:=(aA a).small;by_cases j:x<128
  ·have t:=hide (show (x:Int)=((uB x).toNat:Int) from jr)
   go_wp2_with (at_builtin;refine fE rfl rfl kW rfl (eG (aA a).choose_spec.2.2.2.2.1 ((Ext.refl wr).alloc _)) rfl (Reads.Bl _ _ _) (fG.one rfl) a_ (by have:=(aA a).choose_spec.2.2.2.2.2.size';simp;omega) ?_;intro D B E i k q;have s:=hide (az i k);clear i k q)
   go_ret;obtain⟨h,p⟩:=aA s;rw[aA t] at h;obtain⟨o,y,F⟩:=(aA a).last j h p;rw[o] at y ⊢
   exact⟨_,_,rfl,y,F⟩
  ·have G:IntKind.wrap .u64 ((x:Int) / 128)=((x / 128:Nat):Int):=by rw[aAJ];unfold Ti at d;omega
   have t:=hide (show 128+(x:Int) % 128=((uB (128+x % 128)).toNat:Int) from jr)
   go_wp2_with (at_builtin;refine fE rfl rfl kW rfl (eG (aA a).choose_spec.2.2.2.2.1 ((Ext.refl wr).alloc _)) rfl (Reads.Bl _ _ _) (fG.one rfl) a_ (by have:=(aA a).choose_spec.2.2.2.2.2.size';simp;omega) ?_;intro D B E i k q;have s:=hide (az i k);clear i k q)
   go_roundw
   case rel=>obtain⟨h,p⟩:=aA s;rw[aA t] at h;obtain⟨g,o⟩:=(aA a).app j h p;exact⟨x / 128,g,m+1,D,B,by go_num,by unfold Ti at d ⊢;omega,rfl,hide o⟩
   case measure=>simp[intOf];omega
theorem wH(n:Int)(w:ae)(h1:-9223372036854775808<=n)(h2:n<9223372036854775808) :
  mf prog 107 #[.int .i64 n] w fun e I=>∃ A c,e=.returned (.slice A (eu n).length c)/\I.ownsRow w.heap.size 5 1 (.slice A (eu n).length c) (eu n).length ((eu n).map jk)/\Ext w I:=by
 have a:=hide (WI.start h1 h2 w);have C:=hide (show Ti (zig n) from aHs h1 h2);rcases Int.lt_or_le n 0 with B|B
 ·have F:=PY n B h1;have H:decide (n<0)=true:=rq B;clear h1 h2
  go_enter func107,ntmps107
  go_wp2
  go_step3
  go_wp2
  go_step3
  go_wp2
  generalize zig n=z at *;clear F H
  go_loopw [3,4] (fun u b wr=>∃ (x f m:Nat) (A:Option uC) (c:Nat),u=.int .u64 (x:Int)/\Ti x/\b=.slice A m c/\Hid (WI n w x f m (.slice A m c) wr)) (fun u _ _=>(intOf u).toNat)
  case atStart=>exact⟨z,9,0,none,0,rfl,aA C,rfl,a⟩
  case round=>
   clear a C;obtain⟨x,f,m,A,c,rfl,h,rfl,a⟩:=hrel;have J:=(aA a).small;by_cases j:x<128
   ·have r:=hide (show (x:Int)=((uB x).toNat:Int) from jr)
    go_wp2_with (at_builtin;refine fE rfl rfl kW rfl (eG (aA a).choose_spec.2.2.2.2.1 ((Ext.refl wr).alloc _)) rfl (Reads.Bl _ _ _) (fG.one rfl) a_ (by have:=(aA a).choose_spec.2.2.2.2.2.size';simp;omega) ?_;intro y t D i k p;have q:=hide (az i k);clear i k p)
    try rw[Exit.noGoto_ret]
    go_ret;obtain⟨d,o⟩:=aA q;rw[aA r] at d;obtain⟨l,s,E⟩:=(aA a).last j d o;rw[l] at s ⊢
    exact⟨_,_,rfl,s,E⟩
   ·have G:(x:Int).fdiv (2 ^ min (Int.toNat 7) IntKind.u64.bits)=((x / 128:Nat):Int):=by
     show (x:Int).fdiv 128=_;rw[Int.fdiv_eq_ediv_of_nonneg _ a_];omega
    have r:=hide (bEn x)
    go_wp2_with (at_builtin;refine fE rfl rfl kW rfl (eG (aA a).choose_spec.2.2.2.2.1 ((Ext.refl wr).alloc _)) rfl (Reads.Bl _ _ _) (fG.one rfl) a_ (by have:=(aA a).choose_spec.2.2.2.2.2.size';simp;omega) ?_;intro y t D i k p;have q:=hide (az i k);clear i k p)
    go_roundw
    case rel=>obtain⟨d,o⟩:=aA q;rw[aA r] at d;obtain⟨g,l⟩:=(aA a).app j d o;exact⟨x / 128,g,m+1,y,t,by go_num,by unfold Ti at h ⊢;omega,rfl,hide l⟩
    case measure=>simp[intOf];omega
 ·have F:=PX n B h2;have H:decide (n<0)=false:=Bg a_;clear h1 h2
  go_enter func107,ntmps107
  go_wp2
  go_step3
  go_wp2
  go_step3
  go_wp2
  generalize zig n=z at *;clear F H
  go_loopw [3,4] (fun u b wr=>∃ (x f m:Nat) (A:Option uC) (c:Nat),u=.int .u64 (x:Int)/\Ti x/\b=.slice A m c/\Hid (WI n w x f m (.slice A m c) wr)) (fun u _ _=>(intOf u).toNat)
  case atStart=>exact⟨z,9,0,none,0,rfl,aA C,rfl,a⟩
  case round=>
   clear a C;obtain⟨x,f,m,A,c,rfl,h,rfl,a⟩:=hrel;have J:=(aA a).small;by_cases j:x<128
   ·have r:=hide (show (x:Int)=((uB x).toNat:Int) from jr)
    go_wp2_with (at_builtin;refine fE rfl rfl kW rfl (eG (aA a).choose_spec.2.2.2.2.1 ((Ext.refl wr).alloc _)) rfl (Reads.Bl _ _ _) (fG.one rfl) a_ (by have:=(aA a).choose_spec.2.2.2.2.2.size';simp;omega) ?_;intro y t D i k p;have q:=hide (az i k);clear i k p)
    try rw[Exit.noGoto_ret]
    go_ret;obtain⟨d,o⟩:=aA q;rw[aA r] at d;obtain⟨l,s,E⟩:=(aA a).last j d o;rw[l] at s ⊢
    exact⟨_,_,rfl,s,E⟩
   ·have G:(x:Int).fdiv (2 ^ min (Int.toNat 7) IntKind.u64.bits)=((x / 128:Nat):Int):=by
     show (x:Int).fdiv 128=_;rw[Int.fdiv_eq_ediv_of_nonneg _ a_];omega
    have r:=hide (bEn x)
    go_wp2_with (at_builtin;refine fE rfl rfl kW rfl (eG (aA a).choose_spec.2.2.2.2.1 ((Ext.refl wr).alloc _)) rfl (Reads.Bl _ _ _) (fG.one rfl) a_ (by have:=(aA a).choose_spec.2.2.2.2.2.size';simp;omega) ?_;intro y t D i k p;have q:=hide (az i k);clear i k p)
    go_roundw
    case rel=>obtain⟨d,o⟩:=aA q;rw[aA r] at d;obtain⟨g,l⟩:=(aA a).app j d o;exact⟨x / 128,g,m+1,y,t,by go_num,by unfold Ti at h ⊢;omega,rfl,hide l⟩
    case measure=>simp[intOf];omega
def strOf(l:dh):l9:=⟨l.toArray⟩
theorem qF(s:l9):strOf s.data.toList=s:=by cases s;simp[strOf]
theorem dI(l:dh):(strOf l).data.toList=l:=by simp[strOf]
theorem aW(l:dh):(strOf l).size=l.length:=by simp[strOf,ByteArray.size]
def rJ(b:UInt8):ag:=.int .u8 (b.toNat:Int)
section
variable {P:dE}
theorem aBa{src dst e:bi}(hs:P.underlying src=some (.slice e))(g:P.underlying e=some (.int .u8))(hd:P.underlying dst=some .string){w:ae}{v:ag}{n:Nat}{l:dh}(hr:Reads w 1 v n (l.map rJ)) :
  (convert src dst v).run P w=.ok (.string (strOf l)) w:=by
 obtain⟨f,A,c,rfl,_,_,h⟩:=hr;rw[YU,Yy] at f;subst f;cases A with
 | none=>
  have:l=[]:=by
   cases l with
   |nil=>rfl|cons x l=>obtain⟨b,o,e,_⟩:=h b_;cases e
  subst this;exact run_convert_bytes_nil w src e hs g _ c dst hd
 |some a=>refine run_convert_bytes_back w src dst e a c l hs g hd fun j i=>?_;obtain⟨b,o,k,d⟩:=h a_;cases k;rw[add_lit];exact d j _ (by rw[XN,zH i];rfl)
theorem aNx{src dst e:bi}(hs:P.underlying src=some .string)(hd:P.underlying dst=some (.slice e))(k:P.underlying e=some (.int .u8))(w:ae)(s:l9)(g:s.size<=uk) :
  ∃ c a,(convert src dst (.string s)).run P w=.ok (.slice (some ⟨w.heap.size,0,none⟩) s.size c) a/\Reads a 1 (.slice (some ⟨w.heap.size,0,none⟩) s.size c) s.size (s.data.toList.map rJ)/\Ext w a/\(∀ i,i<s.size->a.frozen? ⟨w.heap.size,i,none⟩=false):=by
 refine⟨_,_,run_bytes_of_string w src dst e s hs hd k,⟨by rw[YU,uA,Yy];rfl,_,_,rfl,?_,grownCap_le_maxLen w s.size 0 e g,fun _=>⟨_,_,rfl,fun j u b=>?_⟩⟩,((Ext.refl w).drew).alloc _,fun i m=>?_⟩;simpa using grownCap_ge w s.size 0 e;have d:j<s.data.size:=by rcases Yk j s.data.size with h|h;exact h;rw[YQ (by simpa using h)] at b;cases b
 have l:=World.cell?_alloc_mark w.drew (YS s (YT w s.size 0 e)) e ((YS s (YT w s.size 0 e)).size,(YS s (YT w s.size 0 e)).size+1) j;rw[ik];refine Eq.trans l ?_;rw[bytesRow_at s _ j d,<-b,XN,Array.getElem?_toList,ZR d];rfl;have f:(YS s (YT w s.size 0 e)).size>=s.size:=by unfold YS;rw[Array.size_append,Array.size_map];exact Nat.le_add_right _ _
 show (w.drew.alloc (.cells (YS s (YT w s.size 0 e)) e ((YS s (YT w s.size 0 e)).size,(YS s (YT w s.size 0 e)).size+1))).frozen? ⟨w.drew.heap.size,i,none⟩=false;have:(w.drew.alloc (.cells (YS s (YT w s.size 0 e)) e ((YS s (YT w s.size 0 e)).size,(YS s (YT w s.size 0 e)).size+1))).heap[w.drew.heap.size]?=some (.cells (YS s (YT w s.size 0 e)) e ((YS s (YT w s.size 0 e)).size,(YS s (YT w s.size 0 e)).size+1)):=aAu _ _;unfold aDo;rw[this];simp;omega
theorem xE{ops:Array df}{rest:List df}{o:df}{a:Act}{w:ae}{Q:nz->Act->je}(f:o.guard=none){src dst e:bi}{x:lL}(j:o.op=.convert src dst x)
  (hs:P.underlying src=some .string) (hd:P.underlying dst=some (.slice e)) (l:P.underlying e=some (.int .u8)) {s:l9} (g:a.eval x=.string s) (k:s.size<=uk)
  (h:∀ c b,Reads b 1 (.slice (some ⟨w.heap.size,0,none⟩) s.size c) s.size (s.data.toList.map rJ)->Ext w b->(∀ i,i<s.size->b.frozen? ⟨w.heap.size,i,none⟩=false)->ZE P ops Q rest (a.put o.dst (.slice (some ⟨w.heap.size,0,none⟩) s.size c)) b):ZE P ops Q (o::rest) a w:=
 wpList_plain f fun _ m=>by obtain⟨c,b,d,q,p,n⟩:=aNx (P:=P) hs hd l w s k;unfold Oper.wp uu;simp only[j,g,d,Sem.run_bind,Sem.run_pure,Result.andThen_ok];exact m _ _ (h c b q p n)
theorem aMz{ops:Array df}{rest:List df}{o:df}{a:Act}{w:ae}{Q:nz->Act->je}(c:o.guard=none){src dst e:bi}{x:lL}(f:o.op=.convert src dst x)
  (hs:P.underlying src=some (.slice e)) (g:P.underlying e=some (.int .u8)) (hd:P.underlying dst=some .string) {v:ag} (d:a.eval x=v) {n:Nat} {l:dh} (hr:Reads w 1 v n (l.map rJ))
  (h:ZE P ops Q rest (a.put o.dst (.string (strOf l))) w):ZE P ops Q (o::rest) a w:=
 wpList_plain c fun _ i=>by have b:=aBa (P:=P) hs g hd hr;unfold Oper.wp uu;simp only[f,d,b,Sem.run_bind,Sem.run_pure,Result.andThen_ok];exact i _ _ h
theorem aRn{ops:Array df}{rest:List df}{o:df}{a:Act}{w:ae}{Q:nz->Act->je}(r:o.guard=none){p x:lL}{t u:bi}
  (J:o.op=.call { callee:=.builtin .append,args:=#[p,x],argTypes:=#[t,u] })
  {B:Nat} {e:bi} (T:BF P t e 1 1) (A:(P.info? e).map (·.zero)=some (some (.int .u8 0))) (H:P.underlying u=some .string) {v:ag} {n:Nat} {xs:ji} (hs:a.eval p=v) (g:w.ownsRow B e 1 v n xs) {s:l9} (G:a.eval x=.string s)
  (b:n+s.size<=140737488355328) (d:B<=w.heap.size)
  (h:∀ (m:Option uC) (l:Nat) f,f.ownsRow B e 1 (.slice m (n+s.size) l) (n+s.size) (xs++s.data.toList.map rJ)->gu (fun k=>v.ownBlock=some k) w f->ZE P ops Q rest (a.put o.dst (.slice m (n+s.size) l)) f):ZE P ops Q (o::rest) a w:=by
 obtain⟨I,⟨i,z,C,F,c,y,E⟩,_,_⟩:=T;have q:i.zero=some (.int .u8 0):=by rw[C] at A;simpa using A
 refine Lib.wpList_append_own_string (P:=P) (w:=w) r p x t u J B e i I H C q c y v n xs hs g s G (by unfold uk;omega) b d fun N f D j _=>?_;obtain⟨m,l,rfl⟩:=nS D;exact h m l f D ⟨j.os,j.tape,j.output,j.size,fun k L K=>j.block k L (fun e=>K e.symm)⟩
end
end
theorem Po:(prog.info? 5).map (·.zero)=some (some (.int .u8 0)):=ah
theorem aHy(s:l9):(bH s.data.toList).length=(eu s.size).length+s.size:=by unfold bH;rw[gp,uA];rfl
theorem aHx(s:l9):(bH s.data.toList).map jk=(eu s.size).map jk++s.data.toList.map rJ:=by unfold bH;rw[Z8,uA];rfl
theorem wI(s:l9)(w:ae)(hs:s.size<=1000000000) :
  mf prog 145 #[.string s] w fun e d=>∃ A c,e=.returned (.slice A (bH s.data.toList).length c)/\d.ownsRow w.heap.size 5 1 (.slice A (bH s.data.toList).length c) (bH s.data.toList).length ((bH s.data.toList).map jk)/\Ext w d:=by
 have n:=hide (fun w=>wH (s.size:Int) w a_ a_);have k:=hide (aHy s);have p:=hide (aHx s);have u:=aQ (s.size:Int)
 go_enter func145,ntmps145
 go_wp2_with fail
 refine (aA n _).mono ?_;rintro e t ⟨A,c,rfl,a,g⟩;have b:=hide (az a g);clear a g
 go_wp2_with (at_builtin;refine aRn rfl rfl kW Po underlying9 rfl (aA b).1 rfl a_ (aA b).2.size' ?_;intro q m r a f;have o:=hide (az a f);clear a f)
 go_ret;obtain⟨j,l⟩:=aA o;rw[<-aA k,<-aA p] at j
 exact⟨q,m,by rw[aA k];rfl,j,(aA b).2.trans' l (fun _ _ h=>h) (fun i x e=>by have:=((aA b).1.lt i e).1;omega)⟩
theorem aZa(s:l9)(w:ae)(hs:s.size<=1000000000) :
  mf prog 39 #[.string s] w fun e k=>∃ A c,e=.returned (.slice A (bH s.data.toList).length c)/\k.ownsRow w.heap.size 5 1 (.slice A (bH s.data.toList).length c) (bH s.data.toList).length ((bH s.data.toList).map jk)/\Ext w k:=by
 have t:=hide (fun w=>aVr (s.size:Int) w a_ a_);have o:=hide (aHy s);have y:=hide (aHx s);have E:=aQ (s.size:Int)
 go_enter func39,ntmps39
 go_wp2_with fail
 refine (aA t _).mono ?_;rintro e D ⟨A,c,rfl,b,m⟩;have g:=hide (az b m);clear b m
 go_wp2_with (first
  |(refine xE (src:=9) (dst:=74) (x:=.tmp 6) (s:=s) rfl rfl underlying9 underlying74 underlying5 rfl (by unfold uk;omega) ?_;intro G C a d j;have f:=hide (az a d);clear a d j)
  |(at_builtin;refine fE rfl rfl kW rfl (eG (aA g).1 (aA f).2) rfl (aA f).1 (fG.map (fun _=>rfl) _) a_ (PP (aA g).2.size' (aA f).2.size') ?_;intro z r B b l p;have u:=hide (az b l);clear b l p))
 go_ret;obtain⟨n,q⟩:=aA u;rw[<-aA o,<-aA y] at n
 exact⟨z,r,by rw[aA o];rfl,n,((aA g).2.trans (aA f).2).trans' q (fun _ _ h=>h) (fun i F e=>by have:=((aA g).1.lt i e).1;omega)⟩
theorem dL:y7 prog 23 16:=⟨⟨_,underlying23,rfl⟩,ah⟩
theorem short_any(l:dh)(w:ae)(hl:l.length=32) :
  mf prog 178 #[.agg (l.map jk).toArray] w fun e s=>e=.returned (.agg ((l.take 16).map jk).toArray)/\Ext w s:=by
 obtain⟨k,b⟩:∃ r,(l.map jk).toArray=r:=⟨_,rfl⟩;obtain⟨d,a⟩:∃ r,((l.take 16).map jk).toArray=r:=⟨_,rfl⟩;have p:=hide (az b hl);have z:=hide a;have o:=hide (show d.size=16/\d.all (·.oneCell')=true from by rw[<-a];exact⟨jr,fU _⟩);rw[b,a];clear b a hl;have u:=fun X=>aVm (P:=prog) underlying23 (ad:=some ⟨w.heap.size,0,none⟩) (len:=16) (c:=32) a_ X
 go_enter func178,ntmps178
 go_wp2_with (first
  |(refine qB (ty:=23) (x:=.tmp 4) rfl rfl dL rfl (arr:=d) (cs:=(l.take 16).map jk) ?_ ?_ (aA z) ?_;(focus (refine oZ (w:=w.alloc (.cells k 142)) (S:=Non) (fun j v m=>?_) ((Ext.refl _).alloc _) (fun h=>h);rw[ik,(f_.new w _ k).cell,<-(aA p).1];rw[aAU,x8] at m;split at m;(simpa using m);(cases m)));(focus (have:=(aA p).2;simp;omega)))
  |(refine aV (ty:=23) (t:=23) (x:=.tmp 2) (y:=.tmp 5) rfl rfl dL rfl rfl (f_.new' _ _ _ ?_) rfl (aA o).1 (aA o).2 ?_;(focus (simp;done));intro A g f n;have q:=hide (az g f);clear g f n))
 refine ZJ (v:=.agg d) (gI dL rfl (aA q).1 (aA o).1 rfl) rfl ⟨rfl,?_⟩;exact (((Ext.refl w).alloc _).alloc _).trans' (aA q).2 (fun _ _ h=>h) (fun i B e=>a_)
theorem bFp(a b:dh)(w:ae):mf prog 178 #[.agg ((CX a b).map jk).toArray] w fun e c=>e=.returned (.agg ((LG a b).map jk).toArray)/\Ext w c:=short_any _ _ (jX _ _)
theorem rC(a b:dh):(LG a b).length=16:=by unfold LG;rw[xe,jX];omega
theorem aTh(a b:dh)(j n:ag)(w:ae)(p:af w)(o:Reads w 1 j a.length (a.map jk))(hb:Reads w 1 n b.length (b.map jk))(l:a.length<=1000000)(m:b.length<=1000000) :
  mf prog 146 #[j,n] w fun e z=>e=.returned (.agg ((LG a b).map jk).toArray)/\Ext w z:=by
 have A:=hide (aLi a b j n _ (p.ext ((Ext.refl w).alloc (.cells (IR 16 (.int .u8 0)) 23))) (o.ext ((Ext.refl w).alloc _)) (hb.ext ((Ext.refl w).alloc _)) l m);have r:=hide (rC a b);clear p o hb
 go_enter func146,ntmps146
 go_wp2_with fail
 refine (aA A).mono ?_;rintro e D ⟨rfl,d⟩
 go_wp2_with fail
 refine (bFp a b _).mono ?_;rintro e C ⟨rfl,c⟩;have q:=(f_.new w 23 (IR 16 (.int .u8 0))).ext (d.trans c);have s:=hide (az q (d.trans c));clear q d c
 go_wp2_with (refine aV (ty:=23) (t:=23) (x:=.tmp 4) (y:=.tmp 8) rfl rfl dL rfl rfl (aA s).1 b_ ?_ (fU _) ?_;(focus (simpa using aA r));intro B g f k;have u:=hide (az g f);clear g f k)
 refine ZJ (v:=.agg ((LG a b).map jk).toArray) (gI dL rfl (aA u).1 (by simpa using aA r) rfl) rfl ⟨rfl,?_⟩;exact (((Ext.refl w).alloc _).trans (aA s).2).trans' (aA u).2 (fun _ _ h=>h) (fun i E e=>a_)
def Parts(w:ae)(v:ag)(b:List dh):Prop:=∃ a:ji,a.length=b.length/\Reads w 1 v b.length a/\∀ (i:Nat) (p:dh),b[i]?=some p->∃ u,a[i]?=some u/\Reads w 1 u p.length (p.map jk)
theorem Parts.ext{w w':ae}{v:ag}{a:List dh}(h:Parts w v a)(b:Ext w w'):Parts w' v a:=by obtain⟨c,k,j,g⟩:=h;refine⟨c,k,j.ext b,fun i p d=>?_⟩;obtain⟨u,f,e⟩:=g i p d;exact⟨u,f,e.ext b⟩
theorem Parts.nil(w:ae):Parts w (.slice none 0 0) []:=⟨[],rfl,Reads.nil w 1,fun i p h=>by simp at h⟩
def encs(a:List dh):dh:=a.flatMap bH
theorem bHq(a:List dh)(k:Nat)(h:k<a.length):encs (a.take (k+1))=encs (a.take k)++bH a[k]:=by unfold encs;rw[lS a k h,aEX];simp
theorem aJg(a:List dh)(M:Nat)(h:∀ p∈a,p.length<=M):(encs a).length<=a.length*(M+10):=by
 unfold encs
 induction a with
 |nil=>simp|cons p a b=>have f:=b fun q c=>h q (List.mem_cons_of_mem _ c);have e:=h p List.mem_cons_self;have d:=jU p;rw[ZQ,gp,zl,aBu];omega
theorem Qb(w:ae)(B:Nat)(e:bi)(x:ag)(a:B<=w.heap.size):(w.alloc (.cells #[x] e)).ownsRow B e 1 (.slice (some ⟨w.heap.size,0,none⟩) 1 1) 1 [x]:=⟨b_,.inr ⟨w.heap.size,1,#[x],rfl,a,aAu w _,dC _,by unfold uk;omega,rfl,rfl⟩⟩
theorem Jh(w:ae)(B:Nat)(e:bi)(x:ag){g:Nat}(a:g=w.heap.size)(b:B<=w.heap.size):(w.alloc (.cells #[x] e)).ownsRow B e 1 (.slice (some ⟨g,0,none⟩) 1 1) 1 [x]:=by subst a;exact Qb w B e x b
theorem aWl(v:ag)(l:dh)(pv:ag)(a:List dh)(B:Nat)(w:ae)(h:w.ownsRow B 5 1 v l.length (l.map jk))(hB:B<=w.heap.size)(y:Parts w pv a)
  (hl:l.length<=1000000) (W:a.length<=1000) (g:∀ p∈a,p.length<=1000000) (hS:∀ X,gu (fun k=>v.ownBlock=some k) w X->Parts X pv a) :
  mf prog 149 #[v,pv] w fun e D=>∃ A c,e=.returned (.slice A (l++encs a).length c)/\D.ownsRow B 5 1 (.slice A (l++encs a).length c) (l++encs a).length ((l++encs a).map jk)/\Onto w v D (.slice A (l++encs a).length c):=by
 have H0:=hide h;have HP:=hide y;have HS:=hide hS;have C:=hide g;obtain⟨A1,c1,rfl⟩:∃ A c,pv=.slice A a.length c:=by obtain⟨T,_,⟨_,A,c,h,_⟩,_⟩:=y;exact⟨A,c,h⟩
 obtain⟨S,N,rfl⟩:=nS h;clear h y hS g
 go_enter func149,ntmps149
 go_wp2
 go_loopw [0,9] (fun b i wr=>∃ (k n:Nat) (A:Option uC) (c:Nat),k<=a.length/\i=.int .i64 k/\b=.slice A n c/\n<=1000000+k*1000010/\Hid (n=(l++encs (a.take k)).length/\wr.ownsRow B 5 1 (.slice A n c) n ((l++encs (a.take k)).map jk)/\Onto w (.slice S l.length N) wr (.slice A n c))) (fun _ i _=>a.length-(intOf i).toNat)
 case atStart=>exact⟨0,l.length,S,N,xn _,rfl,rfl,a_,hide ⟨by simp[encs],by simpa[encs] using aA H0,Onto.refl _ _⟩⟩
 case round=>
  obtain⟨k,n,A,c,hk,rfl,rfl,hn,f⟩:=hrel;by_cases d:k<a.length
  ·have t:Parts wr (.slice A1 a.length c1) a:=aA HS wr (aA f).2.2.iq;obtain⟨T,U,G,F⟩:=t;obtain⟨u,E,s⟩:=F k a[k] (zH d);obtain⟨b,o,c',u',q,_,_,hb,H,Z⟩:=G.GV d;cases q;rw[E] at H;cases H;obtain⟨Au,cu,rfl⟩:∃ A c,u=.slice A a[k].length c:=by obtain⟨_,A,c,h,_⟩:=s;exact⟨A,c,h⟩
   have Y:=aA C a[k] (ZN d);have z:=hide s;have P:=hide (bHq a k d);clear U G F E s;have V:=jU a[k];generalize a[k]=p at *;have O:=hide (fun w=>wI (strOf p) w (by rw[aW];omega));rw[dI] at O
   go_wp2_with (first
    |(refine aMz (src:=74) (dst:=9) (x:=.tmp 14) (l:=p) rfl rfl underlying74 underlying5 underlying9 rfl (aA z) ?_)
    |(go_at_call 145;refine (aA O _).mono ?_;rintro e w3 ⟨A3,c3,rfl,j,m⟩;have r:=hide (az j m);clear j m)
    |(at_builtin;refine fE rfl rfl kW rfl (eG (aA f).2.1 (aA r).2) rfl (Reads.v_ (aA r).1) (fG.u8 _) a_ (PP hB (PP (aA f).2.2.iq.size (aA r).2.size')) ?_;intro A' c4 w4 I J q;have Q:=hide (az I (((aA f).2.2.ext (aA r).2).trans (Onto.app J q)));clear I J q))
   go_roundw
   case rel=>refine⟨k+1,n+(bH p).length,A',c4,a_,by go_num,rfl,by rw[aBu];omega,hide ⟨?_,?_,(aA Q).2⟩⟩;rw[aA P,<-Pi,gp,<-(aA f).1];rw[aA P,<-Pi,Z8];exact (aA Q).1
   case measure=>simp[intOf];omega
  ·obtain rfl:k=a.length:=a_
   go_wp2
   go_ret;obtain⟨L,K,h3⟩:=aA f;rw[Zc] at L K;subst L
   exact⟨A,c,rfl,K,h3⟩
def aAv(t:Int):UInt8:=uB (t % 256).toNat
theorem IG(t:Int):t % 256=((aAv t).toNat:Int):=by unfold aAv;simp;omega
def qU(a:Int)(b:List dh):dh:=(sha ([aAv a]++encs b)).take 16
def nH(b a:dh)(c:List dh):dh:=LG b (bH a++encs c)
theorem kD(a:Int)(b:List dh):(qU a b).length=16:=by unfold qU;rw[xe,dS];omega
theorem jC(b a:dh)(c:List dh):(nH b a c).length=16:=rC _ _
theorem aQd(a:Int)(b:List dh)(w:ae):mf prog 178 #[.agg ((sha ([aAv a]++encs b)).map jk).toArray] w fun e c=>e=.returned (.agg ((qU a b).map jk).toArray)/\Ext w c:=short_any _ _ (dS _)
theorem bAn(a:Int)(b:List dh)(pv:ag)(w:ae)(B:af w)(m:Parts w pv b)(j:b.length<=1000)(d:∀ p∈b,p.length<=10000) :
  mf prog 176 #[.int .i64 a,pv] w fun e H=>e=.returned (.agg ((qU a b).map jk).toArray)/\Ext w H:=by
 have K:=hide B;have E:=hide m;have r:=hide d;have J:=hide (IG a);have L:=hide (aJg b 10000 d);clear B m d
 go_enter func176,ntmps176
 go_wp2_with fail
 rw[aA J];refine (aWl _ [aAv a] _ b (w.heap.size+1) _ ?h1 ?h2 ?h3 b_ j ?h4 ?h5).mono ?_
 case h1=>exact Jh _ _ _ _ b_ b_
 case h2=>simp
 case h3=>exact (aA E).ext (((Ext.refl w).alloc _).alloc _)
 case h4=>intro p m;have:=aA r p m;omega
 case h5=>intro X I;refine (aA E).ext ((((Ext.refl w).alloc _).alloc _).trans' I (fun _ _ h=>h) (fun i z e=>?_));simp[Yz] at e;omega
 rintro e s ⟨A,c,rfl,u,q⟩;have C:Ext w s:=(((Ext.refl w).alloc _).alloc _).trans' q.iq (fun _ _ h=>h) (fun i z e=>by simp[Yz] at e;omega);have D:f_ s w.heap.size 23 (IR 16 (.int .u8 0)):=((f_.new w 23 (IR 16 (.int .u8 0))).alloc _).iq q.iq (by intro e;simp[Yz] at e);have n:=hide (az u (az C D));clear u q C D
 go_wp2_with fail
 refine (sum_any ([aAv a]++encs b) _ _ ((aA K).ext (aA n).2.1) ?hr ?hl).mono ?_
 case hr=>have:=Reads.v_ (aA n).1;first|exact this|(rw[gp] at this;rw[gp];exact this)|(simp only[gp,zl,Yg] at this ⊢;exact this)
 case hl=>have:=aA L;have Q:b.length*(10000+10)<=1000*(10000+10):=Ym _ j;simp;omega
 rintro e P ⟨rfl,g⟩
 go_wp2_with fail
 refine (aQd a b _).mono ?_;rintro e O ⟨rfl,f⟩;have G:=hide (az ((aA n).2.1.trans (g.trans f)) ((aA n).2.2.ext (g.trans f)));clear g f
 go_wp2_with (refine aV (ty:=23) (t:=23) (x:=.tmp 4) (y:=.tmp 11) rfl rfl dL rfl rfl (aA G).2 b_ ?_ (fU _) ?_;(focus (simpa using kD a b));intro N l k o;have F:=hide (az l k);clear l k o)
 refine ZJ (v:=.agg ((qU a b).map jk).toArray) (gI dL rfl (aA F).1 (by simpa using kD a b) rfl) rfl ⟨rfl,?_⟩;exact (aA G).1.trans' (aA F).2 (fun _ _ h=>h) (fun i z e=>a_)
theorem aBq(b:dh)(G:ag)(a:l9)(d:List dh)(pv:ag)(w:ae)(J:af w)(z:Reads w 1 G b.length (b.map jk))(T:b.length<=10000)(S:a.size<=10000)(u:Parts w pv d)(C:d.length<=90)(f:∀ p∈d,p.length<=10000) :
  mf prog 106 #[G,.string a,pv] w fun e Q=>e=.returned (.agg ((nH b a.data.toList d).map jk).toArray)/\Ext w Q:=by
 have Y:=hide J;have Z:=hide z;have N:=hide u;have E:=hide f;have HB:=hide (aJg d 10000 f);have W:=hide (fun w=>wI a w a_);have r:=hide (show (bH a.data.toList).length<=10+a.size from jU a.data.toList);clear J u f z
 go_enter func106,ntmps106
 go_wp2_with fail
 refine (aA W _).mono ?_;rintro e w1 ⟨A1,V,rfl,m,q⟩;have l:=hide (az m q);clear m q;have g:Hid (∀ k,(Yu A1 (bH a.data.toList).length V).ownBlock=some k->w.heap.size+1<=k):=hide (fun k z=>by have:=((aA l).1.lt k z).1;simp at this;omega)
 go_wp2_with fail
 refine (aWl _ (bH a.data.toList) _ d (w.heap.size+1) _ ?h1 ?h2 ?h3 ?h6 a_ ?h4 ?h5).mono ?_
 case h1=>have:=(aA l).1;simp only[aBl] at this;exact this
 case h2=>have:=(aA l).2.size';simp at this;omega
 case h3=>exact (aA N).ext (((Ext.refl w).alloc _).trans (aA l).2)
 case h6=>have:=aA r;omega
 case h4=>intro p u;have:=aA E p u;omega
 case h5=>intro X U;refine (aA N).ext ((((Ext.refl w).alloc _).trans (aA l).2).trans' U (fun _ _ h=>h) (fun i I e=>?_));have:=aA g i e;omega
 rintro e F ⟨A,c,rfl,H,D⟩;have K:Ext w F:=(((Ext.refl w).alloc _).trans (aA l).2).trans' D.iq (fun _ _ h=>h) (fun i I e=>by have:=aA g i e;omega);have L:f_ F w.heap.size 23 (IR 16 (.int .u8 0)):=((f_.new w 23 (IR 16 (.int .u8 0))).ext (aA l).2).iq D.iq (by intro e;have:=aA g _ e;omega);have s:=hide (az H (az K L));clear H D K L
 go_wp2_with fail
 refine (aTh b (bH a.data.toList++encs d) _ _ _ ((aA Y).ext (aA s).2.1) ((aA Z).ext (aA s).2.1) ?hr a_ ?hl).mono ?_
 case hr=>have:=Reads.v_ (aA s).1;rw[gp] at this;rw[gp];exact this
 case hl=>have:=aA HB;have:=aA r;have h2:d.length*(10000+10)<=90*(10000+10):=Ym _ C;simp;omega
 rintro e w3 ⟨rfl,j⟩;have P:=hide (az ((aA s).2.1.trans j) ((aA s).2.2.ext j));clear j
 go_wp2_with (refine aV (ty:=23) (t:=23) (x:=.tmp 6) (y:=.tmp 12) rfl rfl dL rfl rfl (aA P).2 b_ ?_ (fU _) ?_;(focus (first|(simpa using jC _ _ _)|(simpa using rC _ _)));intro w4 o n B;have O:=hide (az o n);clear o n B)
 refine ZJ (v:=.agg ((nH b a.data.toList d).map jk).toArray) (gI dL rfl (aA O).1 (by simpa using jC _ _ _) rfl) rfl ⟨rfl,?_⟩;exact (aA P).1.trans' (aA O).2 (fun _ _ h=>h) (fun i I e=>a_)
def gW(a:dh)(k:Nat):dh:=(AC k).flatMap fun j:Nat=>CX a (eu (j:Int))
def jG(a:dh)(n:Int):dh:=(gW a ((n.toNat+31) / 32)).take n.toNat
theorem nK(a:dh)(k:Nat):gW a (k+1)=gW a k++CX a (eu k):=by unfold gW;rw[List.range_succ,aEX];simp
theorem jZ(a:dh)(k:Nat):(gW a k).length=32*k:=by
 induction k with
 |zero=>rfl|succ k b=>rw[nK,gp,b,jX];omega
theorem zI(a:dh)(k d:Nat):gW a k <+: gW a (k+d):=by
 induction d with
 |zero=>exact List.prefix_refl _|succ d b=>exact b.trans (by rw[<-Yt,nK];exact List.prefix_append _ _)
theorem aVd{c:Type}{a b:List c}(h:a <+: b){n:Nat}(hn:n<=a.length):b.take n=a.take n:=by obtain⟨t,rfl⟩:=h;rw[List.take_append_of_le_length hn]
theorem aAw(a:dh)(N k:Nat)(h:N<=32*k):(gW a k).take N=jG a N:=by have e:jG a N=(gW a ((N+31) / 32)).take N:=rfl;rw[e];rcases Nat.le_total k ((N+31) / 32) with b|b;obtain⟨d,c⟩:=Nat.exists_eq_add_of_le b;rw[c,aVd (zI a k d) (by rw[jZ];exact h)];obtain⟨d,c⟩:=Nat.exists_eq_add_of_le b;rw[c,aVd (zI a ((N+31) / 32) d) (by rw[jZ];omega)]
theorem nJ(a:dh)(n:Int):(jG a n).length=n.toNat:=by unfold jG;rw[xe,jZ];omega
theorem aHf(a:dh)(n:Int)(m:Nat):(jG a (max n 0+m)).take n.toNat=jG a n:=by
 have d:(max n 0+(m:Int)).toNat=n.toNat+m:=a_;have c:jG a (max n 0+m)=jG a ((n.toNat+m:Nat):Int):=by unfold jG;rw[d];rfl
 have b:jG a n=jG a (n.toNat:Int):=by unfold jG;rfl
 rw[c,b,<-aAw a (n.toNat+m) (n.toNat+m) a_,<-aAw a n.toNat (n.toNat+m) a_,List.take_take];congr 1;omega
theorem aYj(a:dh)(T:ag)(N:Nat)(w:ae)(Y:af w)(U:Reads w 1 T a.length (a.map jk))(B:a.length<=10000)(hN:N<=100000) :
  mf prog 148 #[T,.int .i64 (N:Int)] w fun e S=>∃ A c,e=.returned (.slice A N c)/\S.ownsRow w.heap.size 5 1 (.slice A N c) N ((jG a N).map jk)/\Ext w S:=by
 have HM:=hide Y;have HK:=hide U;clear Y U;have B:a.length<=1000000:=a_
 go_enter func148,ntmps148
 go_wp2
 go_loopw [5,6] (fun b i wr=>∃ (k m:Nat) (A:Option uC) (c:Nat),k<=N/\i=.int .i64 k/\b=.slice A m c/\m<=N/\Hid (m=min (32*k) N/\wr.ownsRow w.heap.size 5 1 (.slice A m c) m (((gW a k).take N).map jk)/\Ext w wr)) (fun b _ _=>match b with|.slice _ m _=>N-m|_=>0)
 case atStart=>exact⟨0,0,none,0,xn _,rfl,rfl,a_,hide ⟨a_,by rw[show gW a 0=[] from rfl,List.take_nil];exact aFI _ _ _ _,Ext.refl _⟩⟩
 case round=>
  obtain⟨k,m,A,c,a4,rfl,rfl,hm,d⟩:=hrel;by_cases a3:m<N
  ·by_cases I:32<=N-m
   ·go_wp2_with (first
     |(go_at_call 107;refine (wH (k:Int) _ a_ a_).mono ?_;rintro e w2 ⟨A2,c2,rfl,j,p⟩;have g:=hide (az j p);clear j p)
     |(go_at_call 179;refine (aLi a (eu k) _ _ _ ((aA HM).ext ((aA d).2.2.trans (aA g).2)) ((aA HK).ext ((aA d).2.2.trans (aA g).2)) (Reads.v_ (aA g).1) B (by have:=aQ k;omega)).mono ?_;rintro e J ⟨rfl,o⟩;have u:=hide o;clear o)
     |(refine aV (ty:=142) (t:=142) (x:=.tmp 7) (y:=.tmp 17) rfl rfl iT rfl rfl (f_.new _ _ _) rfl ?_ (fU _) ?_;(focus (simpa using jX _ _));intro E l f z;have D:=hide (pG (eG (aA d).2.1 (((aA g).2.trans (aA u)).alloc _)) f (fun q I e=>by have:=((aA d).2.1.lt q I).2;have s:=((aA g).2.trans (aA u)).size';omega));have r:=hide (show Ext wr E from (((aA g).2.trans (aA u)).alloc _).trans' f (fun _ _ h=>h) (fun i L e=>by have s:=((aA g).2.trans (aA u)).size';omega));have C:=hide (show Reads E 1 (.slice (some ⟨J.heap.size,0,none⟩) (32) 32) (32) (((CX a (eu k)).take (32)).map jk) from by (have:=Reads.A_ l (i:=0) (n:=32) (c:=32) (by rw[Yx,YU,jX];omega) a_ (by unfold uk;omega));simp only[Yh] at this;rw[aAU];exact this);clear l f z)
     |(at_builtin;refine fE rfl rfl kW rfl (aA D) rfl (aA C) (fG.u8 _) a_ (PP (aA d).2.2.size' (aA r).size') ?_;intro Q P w5 F G K;have H:=hide (az F G);clear F G K))
    go_roundw
    case rel=>
     refine⟨k+1,m+(32),Q,P,by have:=(aA d).1;omega,by go_num,rfl,a_,hide ⟨by have:=(aA d).1;omega,?_,((aA d).2.2.trans (aA r)).trans' (aA H).2 (fun _ _ h=>h) (fun i L e=>by have:=((aA d).2.1.lt i e).1;omega)⟩⟩;have O:(gW a (k+1)).take N=(gW a k).take N++(CX a (eu k)).take (32):=by have:=(aA d).1;rw[nK,aBM,jZ];congr 1;rw[List.take_eq_take_iff,jX];omega
     rw[O,Z8];exact (aA H).1
    case measure=>simp;omega
   ·obtain⟨q,a1,a0⟩:∃ q,m+q<=N/\N<=m+q:=⟨N-m,a_,a_⟩;have a2:((N:Int)-(m:Int))=(q:Int):=a_;have W:q<=32:=a_;have X:q<32:=a_;have V:(q:Int)<=32:=a_
    go_wp2_with (first
     |(go_at_call 107;refine (wH (k:Int) _ a_ a_).mono ?_;rintro e w2 ⟨A2,c2,rfl,j,p⟩;have g:=hide (az j p);clear j p)
     |(go_at_call 179;refine (aLi a (eu k) _ _ _ ((aA HM).ext ((aA d).2.2.trans (aA g).2)) ((aA HK).ext ((aA d).2.2.trans (aA g).2)) (Reads.v_ (aA g).1) B (by have:=aQ k;omega)).mono ?_;rintro e J ⟨rfl,o⟩;have u:=hide o;clear o)
     |(refine aV (ty:=142) (t:=142) (x:=.tmp 7) (y:=.tmp 17) rfl rfl iT rfl rfl (f_.new _ _ _) rfl ?_ (fU _) ?_;(focus (simpa using jX _ _));intro E l f z;have D:=hide (pG (eG (aA d).2.1 (((aA g).2.trans (aA u)).alloc _)) f (fun q I e=>by have:=((aA d).2.1.lt q I).2;have s:=((aA g).2.trans (aA u)).size';omega));have r:=hide (show Ext wr E from (((aA g).2.trans (aA u)).alloc _).trans' f (fun _ _ h=>h) (fun i L e=>by have s:=((aA g).2.trans (aA u)).size';omega));have C:=hide (show Reads E 1 (.slice (some ⟨J.heap.size,0,none⟩) (q) 32) (q) (((CX a (eu k)).take (q)).map jk) from by (have:=Reads.A_ l (i:=0) (n:=q) (c:=32) (by rw[Yx,YU,jX];omega) a_ (by unfold uk;omega));simp only[Yh] at this;rw[aAU];exact this);clear l f z)
     |(at_builtin;refine fE rfl rfl kW rfl (aA D) rfl (aA C) (fG.u8 _) a_ (PP (aA d).2.2.size' (aA r).size') ?_;intro Q P w5 F G K;have H:=hide (az F G);clear F G K))
    go_roundw
    case rel=>
     refine⟨k+1,m+(q),Q,P,by have:=(aA d).1;omega,by go_num,rfl,a_,hide ⟨by have:=(aA d).1;omega,?_,((aA d).2.2.trans (aA r)).trans' (aA H).2 (fun _ _ h=>h) (fun i L e=>by have:=((aA d).2.1.lt i e).1;omega)⟩⟩;have O:(gW a (k+1)).take N=(gW a k).take N++(CX a (eu k)).take (q):=by have:=(aA d).1;rw[nK,aBM,jZ];congr 1;rw[List.take_eq_take_iff,jX];omega
     rw[O,Z8];exact (aA H).1
    case measure=>simp;omega
  ·obtain rfl:m=N:=a_
   go_wp2
   go_ret;obtain⟨h1,Z,h3⟩:=aA d;rw[aAw a m k a_] at Z
   exact⟨A,c,rfl,Z,h3⟩
end Go.Proofs.YtndpjopifkbgiaaGreatDoor
