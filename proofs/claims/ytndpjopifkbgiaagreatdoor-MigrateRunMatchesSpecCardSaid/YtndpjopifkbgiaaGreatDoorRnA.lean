/-
  Several texts in one file.
-/
import Derived.WalkKit
import Derived.WalkSpells
import Derived.WalkLawsBesides
import Derived.Handy
import Derived.Deep.QuietTactic
import Derived.BigQuiet
import Derived.Deep.Draws
import Derived.Maps.AppendAt
import Derived.Laws.BitsAllLaws
import Derived.Test.YtndpjopifkbgiaaGreatDoorProg
import Derived.Outline
import Derived.Deep.MidRow
import Derived.OwnWalkIn
import Derived.RangeFuncNested
import Derived.RangeFuncBound
import Derived.RangeFuncCalls
import Derived.RangeFuncLeaves
import Derived.TacticsInMore
import Derived.LoopNIn
import Derived.LoopIn
import Derived.Deep.Cut
import Derived.ChangeKeysEq
import Derived.DeepKeys
import Derived.Deep.RegionHeld3
import Derived.Deep.DeepCutAuto
import Derived.Laws.EntriesVeiled
import Derived.ArgAppend
import Derived.Lib.MakeNoZero
import Derived.Laws.CopyOwn
import Derived.Deep.RegionLaw
import Derived.Laws.IdiomStrings
import Derived.Laws.BytesArg
import Derived.Lib.AppendStr
import Derived.Defers
import Derived.Deep.CutRange
import Derived.Lib.SlBytesConst
import Derived.StillTailTactics
import Derived.BigRegion
import Derived.Laws.MakeOwn
set_option maxRecDepth 100000
set_option maxHeartbeats 4000000
namespace Go.Proofs.YtndpjopifkbgiaaGreatDoor
open Go.RowKit Tryz
open _root_.And renaming intro->az
open _root_.Go.Value renaming int->gp,ownBlock->aAC,slice->aAP,string->aCJ
open _root_.Go renaming World->ae,Value->ag,TypeId->bu,bodyPost_ret->aAT,Calls->lL,maxLen->uu,Operand->uA,bytesRow->aAH,wpAny_ready->aAU,wpList->aBj,Addr->uB,grownCap->aAI,Program->ed,wpAnyH_take->aBC,run_underlying->Ha,Oper->ik,heap_alloc_new->aDd,yielded->aAG,Exit->uk,execOp->xe,callFunc->aAE,madeCells->aCO,undef->dC,typeInfo->aBt
open _root_.Go.IntKind renaming u8->uC,u32->yl,wrap_u64->aDD
open _root_.Array renaming replicate->DD,length_toList->nz,getElem?_eq_getElem->aCF,all_toList->aCS,toArray_toList->aEK,size_replicate->aFM,toList_setIfInBounds->aFK,getElem?_toList->aEE,getElem?_modify->aIO
open _root_.List renaming length_append->gz,take_of_length_le->WF,map_append->aBc,append_assoc->GM,replicate->Pi,getElem?_eq_none->PR,length_map->aAB,getElem?_eq_getElem->aDA,length_take->ww,getElem?_map->aAg,getElem?_take->yf,range->yz,getElem?_append_right->aBi,drop_zero->aBk,zipWith->aCK,getElem?_toArray->aBU,length_zipWith->aEC,getElem?_replicate->aCT,getElem?_drop->aAk,map_take->aEA,finRange->aEy,append_nil->AC,foldl_append->aDT,take_length->aCR,eq_nil_of_length_eq_zero->aEn,length_cons->We,getElem_mem->aBI,range_succ->aEF,nil_append->IR,length_nil->aBJ,flatMap_append->aFe,take_add_one->aDR,size_toArray->aBM,flatMap_cons->aDQ,ext_getElem?->aAX,take_append->aEN,ext_getElem->aBR,length_set->aAA,foldl_cons->aEB,take_zero->aEG,getElem?_append_left->aBD,getElem?_cons_succ->aCQ,drop_of_length_le->aCV,map_set->aFc,getElem?_append->aEO,replicate_succ->aJv,getElem?_set->aED,map_toArray->aEp,length_drop->MM,mem_range->aGq,map_cons->aAJ,map_nil->aCU
open _root_.Nat renaming le_trans->ry,le_refl->dE,zero_le->x8,zero_add->mf,lt_of_lt_of_le->aAF,lt_succ_self->aDB,lt_or_ge->aAW,sub_self->aBa,eq_zero_or_pos->aCE,add_assoc->aBH,succ_mul->aDL,mul_one->aBq,mul_le_mul_right->aBB,sub_zero->aDU,mul_zero->aFd,add_zero->aBK
open _root_.UInt8 renaming ofNat->xy
open _root_.UInt32 renaming ofNat->aBA,toNat_add->aEw
open _root_.Go.World renaming cell?_setCell_same'->aFb,ownsRow_nil->aEx,size_alloc->aDK,cell?_of_block->aFJ,cell?_setCell_other->aJo,frozen?_setCell->aJn,setCell->aEZ,putObj_heap_other->aCL,frozen?->aFa
open _root_.Int renaming fdiv_eq_ediv_of_nonneg->aJw,toNat_natCast->VM,toNat->aBF
section
theorem zA{α:Type}(l:List α)(i:Nat)(a:α):l.toArray.setIfInBounds i a=(l.set i a).toArray:=List.setIfInBounds_toArray ..
theorem zB{α:Type}(x y:α)(l:List α):(x::l).set 0 y=y::l:=rfl
theorem zC{α:Type}(x y:α)(l:List α)(n:Nat):(x::l).set (n+1) y=x::l.set n y:=rfl
theorem zD{α:Type}(l:List α)(i:Nat)(h:i<l.toArray.size):l.toArray[i]'h=l[i]'(by simpa using h):=List.getElem_toArray ..
theorem zE{α:Type}(x:α)(l:List α)(n:Nat)(h:n+1<(x::l).length):(x::l)[n+1]'h=l[n]'(Nat.lt_of_succ_lt_succ h):=rfl
theorem zG{α:Type}{l:List α}{i:Nat}{a:α}:l.getD i a=l[i]?.getD a:=List.getD_eq_getElem?_getD
theorem zH{α:Type}{l:List α}{i:Nat}(h:i<l.length):l[i]?=some l[i]:=aDA h
theorem zF{α:Type}(x:α)(l:List α)(h:0<(x::l).length):(x::l)[0]'h=x:=rfl
abbrev jy:=ByteArray
abbrev og:=Option Bool
abbrev vk:=List (List Int)
abbrev jg:=ae->Prop
abbrev uy:=Nat->Prop
abbrev di:=List UInt8
abbrev jl:=List ag
abbrev mg:=Array ag
theorem au{c:Prop}{h:Decidable c}(hc:c){α:Sort _}{t e:α}:ite c t e=t:=if_pos hc
theorem ah{c:Prop}{h:Decidable c}(hc:¬c){α:Sort _}{t e:α}:ite c t e=e:=if_neg hc
theorem mi{p:Prop} [h:Decidable p] (q:p):decide p=true:=decide_eq_true q
theorem su{p:Prop} [h:Decidable p] (q:¬p):decide p=false:=decide_eq_false q
theorem jc{α:Sort _}(a:α):∃ x,a=x:=⟨a,rfl⟩
theorem Dp{p:Prop}(h:p:=by repeat' (first|(with_reducible exact gq.refl _ _)|(with_reducible exact Ext.refl _)|(with_reducible assumption)|(with_reducible refine gq.alloc ?_ _)|(with_reducible refine gq.drew ?_)|(with_reducible refine gq.drewN ?_ _)|(with_reducible refine gq.setCell ?_ ?_ _)|(with_reducible refine Ext.alloc ?_ _)|(with_reducible refine Ext.drew ?_)|(with_reducible refine Ext.drewN ?_ _)|(with_reducible refine Ext.setCell ?_ ?_ _)|(simp;done)|(simp;omega)|omega)):p:=h
theorem a_{p:Prop}(h:p:=by omega):p:=h
theorem ai{p:Prop}(h:p:=by kernel_rfl):p:=h
theorem d_{p:Prop}(h:p:=by simp):p:=h
theorem ay{p:Prop}(h:p:=by rfl):p:=h
theorem jb{p:Prop}(h:p:=by decide):p:=h
theorem l7{p:Prop}(h:p:=by simp;omega):p:=h
theorem qm{p:Prop}(h:p:=by assumption):p:=h
theorem hide{p:Prop}(h:p):Hid p:=h
theorem aA{p:Prop}(h:Hid p):p:=h
theorem vM{k:IntKind}{a b:Int}(h:a=b):Ending.returned (.int k a)=.returned (.int k b):=by rw[h]
theorem int_eq{k:IntKind}{a b:Int}(h:a=b):gp k a=.int k b:=by rw[h]
theorem aFj{k:IntKind}{a b:Int}{y:ag}(h:a=b):Ending.returned (.tuple #[.int k a,y])=.returned (.tuple #[.int k b,y]):=by rw[h]
structure gq(S:Nat->Prop)(w w':ae):Prop where
 os:w'.os=w.os
 tape:w'.tape=w.tape
 output:w'.output=w.output
 size:w.heap.size<=w'.heap.size
 block:∀ k,k<w.heap.size->¬S k->w'.heap[k]?=w.heap[k]?
def Non:Nat->Prop:=fun _=>False
def Ext(w w':ae):Prop:=gq Non w w'
theorem gq.refl(S:Nat->Prop)(w:ae):gq S w w:=⟨rfl,rfl,rfl,dE _,fun _ _ _=>rfl⟩
theorem gq.trans'{S T U:Nat->Prop}{a b c:ae}(h:gq S a b)(k:gq T b c)(hS:∀ i,i<a.heap.size->S i->U i)(o:∀ i,i<a.heap.size->T i->U i):gq U a c:=
 ⟨
  k.os.trans h.os,k.tape.trans h.tape,k.output.trans h.output,ry h.size k.size,fun i f j=>
  (k.block i (aAF f h.size) (fun l=>j (o i f l))).trans (h.block i f (fun m=>j (hS i f m)))⟩
theorem gq.trans{S:Nat->Prop}{a b c:ae}(h:gq S a b)(k:gq S b c):gq S a c:=h.trans' k (fun _ _ h=>h) (fun _ _ h=>h)
theorem gq.mono{S T:Nat->Prop}{a b:ae}(h:gq S a b)(hS:∀ i,i<a.heap.size->S i->T i):gq T a b:=⟨h.os,h.tape,h.output,h.size,fun i c j=>h.block i c (fun f=>j (hS i c f))⟩
theorem Ext.iw{S:Nat->Prop}{a b:ae}(h:Ext a b):gq S a b:=gq.mono h (fun _ _ h=>h.elim)
theorem gq.ext{S:Nat->Prop}{a b c:ae}(h:gq S a b)(k:Ext b c):gq S a c:=h.trans k.iw
theorem Ext.refl(w:ae):Ext w w:=gq.refl _ _
theorem Ext.trans{a b c:ae}(h:Ext a b)(k:Ext b c):Ext a c:=gq.trans h k
theorem gq.alloc{S:Nat->Prop}{a w:ae}(h:gq S a w)(o:Obj):gq S a (w.alloc o):=h.trans ⟨rfl,rfl,rfl,by simp,fun k b _=>Below.heap_alloc _ _ _ b⟩
theorem Ext.alloc{a w:ae}(h:Ext a w)(o:Obj):Ext a (w.alloc o):=gq.alloc h o
theorem gq.drew{S:Nat->Prop}{a w:ae}(h:gq S a w):gq S a w.drew:=⟨h.os,h.tape,h.output,h.size,h.block⟩
theorem Ext.drew{a w:ae}(h:Ext a w):Ext a w.drew:=gq.drew h
theorem gq.drewN{S:Nat->Prop}{a w:ae}(h:gq S a w)(n:Nat):gq S a (w.drewN n):=⟨h.os,h.tape,h.output,h.size,h.block⟩
theorem Ext.drewN{a w:ae}(h:Ext a w)(n:Nat):Ext a (w.drewN n):=gq.drewN h n
theorem gq.setCell{S:Nat->Prop}{a w:ae}(h:gq S a w){p:uB}(c:S p.block\/a.heap.size<=p.block)(u:ag):gq S a (w.setCell p u):=⟨h.os,h.tape,h.output,by simpa[aEZ] using h.size,fun k f b=>(Below.heap_setCell _ _ _ _ (by rintro rfl;exact c.elim b (fun h=>by omega))).trans (h.block k f b)⟩
theorem Ext.setCell{a w:ae}(h:Ext a w){p:uB}(b:a.heap.size<=p.block)(u:ag):Ext a (w.setCell p u):=gq.setCell h (.inr b) u
theorem gq.grown{S:Nat->Prop}{a w w':ae}{b:Option Nat}(h:gq S a w)(c:w.grownBy w' b)(hr:∀ k,b=some k->S k\/a.heap.size<=k):gq S a w':=
 ⟨
  c.os.trans h.os,c.tape.trans h.tape,c.output.trans h.output,ry h.size c.size,fun k i f=>
  (c.block k (aAF i h.size) (fun e=>(hr k e.symm).elim f (fun h=>by omega))).trans (h.block k i f)⟩
theorem Ext.grown{a w w':ae}{b:Option Nat}(h:Ext a w)(f:w.grownBy w' b)(hr:∀ k,b=some k->a.heap.size<=k):Ext a w':=gq.grown h f (fun k c=>.inr (hr k c))
theorem Ext.of_below{w w':ae}(h:Below w.heap.size w w'):Ext w w':=⟨h.os,h.tape,h.output,h.size,fun k b _=>h.block k b⟩
theorem Ext.below{w w':ae}(h:Ext w w'):Below w.heap.size w w':=⟨h.os,h.tape,h.output,h.size,fun k b=>h.block k b (fun h=>h)⟩
theorem gq.cell{S:Nat->Prop}{w w':ae}(h:gq S w w'){p:uB}(b:p.block<w.heap.size)(hn:¬S p.block):w'.cell? p=w.cell? p:=aFJ (w:=w) (h.block p.block b hn)
theorem gq.frozen{S:Nat->Prop}{w w':ae}(h:gq S w w'){p:uB}(b:p.block<w.heap.size)(hn:¬S p.block):w'.frozen? p=w.frozen? p:=World.frozen?_of_block (w:=w) (h.block p.block b hn)
theorem lt_of_cell{w:ae}{p:uB}{v:ag}(h:w.cell? p=some v):p.block<w.heap.size:=World.block_lt_of_cell? w p h
theorem Ext.jh{w w':ae}(h:Ext w w'){p:uB}{v:ag}(b:w.cell? p=some v):w'.cell? p=some v:=(gq.cell h (lt_of_cell b) (fun h=>h)).trans b
theorem gq.jh{S:Nat->Prop}{w w':ae}(h:gq S w w'){p:uB}{v:ag}(b:w.cell? p=some v)(hn:¬S p.block):w'.cell? p=some v:=(gq.cell h (lt_of_cell b) hn).trans b
theorem gq.uz{S:Nat->Prop}{w w':ae}(h:gq S w w'){p:uB}(b:w.frozen? p=false)(hl:p.block<w.heap.size)(hn:¬S p.block):w'.frozen? p=false:=(gq.frozen h hl hn).trans b
theorem Ext.uz{w w':ae}(h:Ext w w'){p:uB}(b:w.frozen? p=false)(hl:p.block<w.heap.size):w'.frozen? p=false:=(gq.frozen h hl (fun h=>h)).trans b
theorem lt_of_heap{w:ae}{k:Nat}{o:Obj}(h:w.heap[k]?=some o):k<w.heap.size:=(Array.getElem?_eq_some_iff.1 h).1
theorem gq.blk{S:Nat->Prop}{w w':ae}(h:gq S w w'){k:Nat}{o:Obj}(b:w.heap[k]?=some o)(hn:¬S k):w'.heap[k]?=some o:=(h.block k (lt_of_heap b) hn).trans b
theorem Ext.blk{w w':ae}(h:Ext w w'){k:Nat}{o:Obj}(b:w.heap[k]?=some o):w'.heap[k]?=some o:=gq.blk h b (fun h=>h)
theorem Ext.size'{w w':ae}(h:Ext w w'):w.heap.size<=w'.heap.size:=gq.size h
theorem Ext.rules{w w':ae}(h:Ext w w'):(∀ b o,b<w.heap.size->w'.cell? ⟨b,o,none⟩=w.cell? ⟨b,o,none⟩)/\(∀ b o,b<w.heap.size->w'.frozen? ⟨b,o,none⟩=w.frozen? ⟨b,o,none⟩):=⟨fun b o c=>gq.cell (p:=⟨b,o,none⟩) h c (fun h=>h),fun b o c=>gq.frozen (p:=⟨b,o,none⟩) h c (fun h=>h)⟩
def eu(w:ae)(g:Nat)(t:bu)(cs:Array ag):Prop:=w.heap[g]?=some (.cells cs t (0,0))
section
variable {w w':ae} {g:Nat} {t:bu} {cs:Array ag}
theorem eu.lt(h:eu w g t cs):g<w.heap.size:=lt_of_heap h
theorem eu.cell(h:eu w g t cs)(i:Nat):w.cell? ⟨g,i,none⟩=cs[i]?:=cell_of_row w g i cs t (0,0) h
theorem eu.frozen(h:eu w g t cs)(i:Nat):w.frozen? ⟨g,i,none⟩=false:=by unfold eu at h;simp[aFa,h]
theorem eu.new(w:ae)(t:bu)(cs:Array ag):eu (w.alloc (.cells cs t)) w.heap.size t cs:=aDd w _
theorem eu.new'(w:ae)(t:bu)(cs:Array ag){g:Nat}(b:g=w.heap.size):eu (w.alloc (.cells cs t)) g t cs:=by subst b;exact aDd w _
theorem eu.drew(h:eu w g t cs):eu w.drew g t cs:=h
theorem eu.drewN(h:eu w g t cs)(n:Nat):eu (w.drewN n) g t cs:=h
theorem eu.alloc(h:eu w g t cs)(o:Obj):eu (w.alloc o) g t cs:=(Below.heap_alloc w o g h.lt).trans h
theorem eu.zq(h:eu w g t cs)(i:Nat)(u:ag):eu (w.setCell ⟨g,i,none⟩ u) g t (cs.setIfInBounds i u):=by unfold eu at h ⊢;simp[aEZ,aIO,h]
theorem eu.far(h:eu w g t cs){p:uB}(b:g≠p.block)(u:ag):eu (w.setCell p u) g t cs:=(Below.heap_setCell w p u g b).trans h
theorem eu.iw{S:Nat->Prop}(h:eu w g t cs)(hc:gq S w w')(hn:¬S g):eu w' g t cs:=gq.blk hc h hn
theorem eu.BL{a:ag}(h:eu w g t #[a]):w.cell? ⟨g,0,none⟩=some a/\(∀ i,w.frozen? ⟨g,i,none⟩=false)/\g<w.heap.size:=⟨h.cell 0,h.frozen,h.lt⟩
theorem eu.ext(h:eu w g t cs)(hc:Ext w w'):eu w' g t cs:=Ext.blk hc h
end
def held(w:ae)(p:uB):ag:=(w.cell? p).getD dC
theorem UJ{w:ae}{p:uB}{v:ag}(h:w.cell? p=some v):held w p=v:=by unfold held;rw[h];rfl
theorem aJk{w:ae}{p:uB}{v:ag}(h:w.cell? p=some v):w.cell? p=some (held w p):=by rw[UJ h];exact h
theorem sU(a:uB)(n:Nat):(a.add n).block=a.block:=by unfold Addr.add;split<;>rfl
theorem bHo(a:uB)(i j:Nat):(a.add i).add j=a.add (i+j):=by
 unfold Addr.add
 by_cases c:i=0<;>by_cases b:j=0<;>simp[c,b,aBH]
theorem add_lit(b o n:Nat):(⟨b,o,none⟩:uB).add n=⟨b,o+n,none⟩:=by unfold Addr.add;split<;>simp_all
def Reads(w:ae)(size:Nat)(v:ag)(n:Nat)(xs:List ag):Prop:=xs.length=n*size/\∃ A c,v=.slice A n c/\n<=c/\c<=uu/\(0<n->∃ b o,A=some ⟨b,o,none⟩/\∀ j u,xs[j]?=some u->w.cell? ⟨b,o+j,none⟩=some u)
section
variable {w w':ae} {size n:Nat} {v:ag} {xs:List ag}
theorem Reads.nil(w:ae)(size:Nat):Reads w size (.slice none 0 0) 0 []:=⟨by simp,none,0,rfl,dE _,x8 _,fun h=>absurd h (by omega)⟩
theorem Reads.keep(h:Reads w size v n xs)(k:∀ p u,w.cell? p=some u->w'.cell? p=some u):Reads w' size v n xs:=by obtain⟨y,A,c,rfl,x,q,m⟩:=h;refine⟨y,A,c,rfl,x,q,fun i=>?_⟩;obtain⟨b,o,rfl,l⟩:=m i;exact⟨b,o,rfl,fun j u f=>k _ _ (l j u f)⟩
theorem Reads.ext(h:Reads w size v n xs)(b:Ext w w'):Reads w' size v n xs:=h.keep (fun _ _ c=>Ext.jh b c)
theorem Reads.ou{b:Nat}{e:bu}(h:w.ownsRow b e size v n xs):Reads w size v n xs:=by
 refine⟨h.1,?_⟩;rcases h.2 with⟨rfl,rfl⟩|⟨g,cap,cur,rfl,o,m,f,i,l,c⟩
 exact⟨none,0,rfl,dE _,x8 _,fun h=>absurd h (by omega)⟩;refine⟨_,cap,rfl,f,i,fun _=>⟨g,0,rfl,fun j u k=>?_⟩⟩;have:=h.cells (g:=g) rfl j u k;rwa [add_lit] at this
end
section
variable {w w':ae} {size n:Nat} {v:ag} {xs:List ag}
theorem Reads.iw{S:Nat->Prop}(h:Reads w size v n xs)(l:gq S w w')(hS:∀ k,0<n->v.ownBlock=some k->¬S k):Reads w' size v n xs:=by obtain⟨y,A,c,rfl,x,q,p⟩:=h;refine⟨y,A,c,rfl,x,q,fun f=>?_⟩;obtain⟨b,o,rfl,m⟩:=p f;exact⟨b,o,rfl,fun j u i=>gq.jh l (m j u i) (hS b f rfl)⟩
theorem Reads.Ef{k:Nat}(h:Reads w 1 v n xs)(p:k<n):∃ b o c u,v=.slice (some ⟨b,o,none⟩) n c/\n<=c/\c<=uu/\b<w.heap.size/\xs[k]?=some u/\w.cell? ⟨b,o+k,none⟩=some u:=by
 obtain⟨q,A,c,rfl,m,l,j⟩:=h;obtain⟨b,o,rfl,i⟩:=j (by omega);have f:k<xs.length:=by omega
 have:=i k _ (aDA f);exact⟨b,o,c,xs[k],rfl,m,l,lt_of_cell this,aDA f,this⟩
theorem Reads.at2{k:Nat}(h:Reads w 2 v n xs)(z:k<n):∃ b o c j i,v=.slice (some ⟨b,o,none⟩) n c/\n<=c/\c<=uu/\b<w.heap.size/\xs[k*2]?=some j/\xs[k*2+1]?=some i /\
  w.cell? ⟨b,o+k*2,none⟩=some j/\w.cell? ⟨b,o+k*2+1,none⟩=some i:=by
 obtain⟨C,A,c,rfl,y,x,u⟩:=h;obtain⟨b,o,rfl,m⟩:=u (by omega);have l:k*2<xs.length:=by omega
 have f:k*2+1<xs.length:=by omega
 have q:=m (k*2) _ (aDA l);have p:=m (k*2+1) _ (aDA f);exact⟨b,o,c,_,_,rfl,y,x,lt_of_cell q,aDA l,aDA f,q,by rw[<-aBH] at p;exact p⟩
theorem Reads.DW(h:Reads w size v n xs)(f:0<size)(hn:0<n):∀ k,v.ownBlock=some k->k<w.heap.size:=by
 obtain⟨p,B,c,rfl,u,q,m⟩:=h;obtain⟨b,o,rfl,l⟩:=m hn;intro k j;cases j;have i:0<xs.length:=by rw[p];exact Nat.mul_pos hn f
 exact lt_of_cell (l 0 xs[0] (aDA i))
theorem Reads.Aw(h:Reads w size v n xs):n<=uu:=by obtain⟨j,A,c,rfl,i,f,b⟩:=h;omega
end
theorem Reads.new(w:ae)(cs:Array ag)(e:bu)(size n c:Nat)(xs:List ag)(f:xs.length=n*size)(hc:n<=c)(k:c<=uu)(i:cs.toList.take xs.length=xs) :
  Reads (w.alloc (.cells cs e)) size (.slice (some ⟨w.heap.size,0,none⟩) n c) n xs:=by
 refine⟨f,_,c,rfl,hc,k,fun _=>⟨w.heap.size,0,rfl,fun j u b=>?_⟩⟩;have l:j<xs.length:=by rcases aAW j xs.length with h|h;exact h;rw[PR h] at b;cases b
 rw[mf,World.cell?_alloc_new];rw[<-i,yf,if_pos l] at b;simpa using b
theorem Reads.yj(w:ae)(u:ag)(e:bu):Reads (w.alloc (.cells #[u] e)) 1 (.slice (some ⟨w.heap.size,0,none⟩) 1 1) 1 [u]:=Reads.new w #[u] e 1 1 1 [u] rfl (dE _) (by unfold uu;omega) rfl
structure AZ(P:ed)(t e:bu)(size bytes:Nat):Prop where
 und:P.underlying t=some (.slice e)
 info:∃ (i:TypeInfo) (z:ag),P.info? e=some i/\i.zero=some z/\i.size=size/\i.bytes=bytes/\z.cells.size=size
 pos:0<size
 bpos:0<bytes
theorem AZ.mk'{P:ed}{t e:bu}{z:ag}{size bytes:Nat}(c:P.underlying t=some (.slice e))(h:(P.info? e).map (fun i=>(i.zero,i.size,i.bytes))=some (some z,size,bytes))(b:z.cells.size=size)(h0:0<size)(hb:0<bytes):AZ P t e size bytes:=by obtain⟨i,f,l,k,j⟩:=info_parts h;exact⟨c,⟨i,z,f,l,k,j,b⟩,h0,hb⟩
def dN(xs:List ag):Prop:=∀ u∈xs,u.oneCell'=true
theorem dN.map{α:Type}{f:α->ag}(c:∀ a,(f a).oneCell'=true)(l:List α):dN (l.map f):=by intro u b;obtain⟨a,_,rfl⟩:=List.mem_map.1 b;exact c a
theorem dN.one{u:ag}(h:u.oneCell'=true):dN [u]:=by intro x b;simp at b;subst b;exact h
theorem gX{w w':ae}{b:Nat}{e:bu}{size:Nat}{v:ag}{n:Nat}{xs:List ag}{S:Nat->Prop}(h:w.ownsRow b e size v n xs)(hc:gq S w w')(hS:∀ k,v.ownBlock=some k->¬S k):w'.ownsRow b e size v n xs:=by refine⟨h.1,?_⟩;rcases h.2 with i|⟨g,cap,cur,rfl,j,f,c⟩;exact .inl i;exact .inr ⟨g,cap,cur,rfl,j,gq.blk hc f (hS g rfl),c⟩
theorem bP{w w':ae}{b:Nat}{e:bu}{size:Nat}{v:ag}{n:Nat}{xs:List ag}(h:w.ownsRow b e size v n xs)(hc:Ext w w'):w'.ownsRow b e size v n xs:=gX h hc (fun _ _ h=>h)
theorem vZ{g n c b:Nat}(h:g≠b):¬(aAP (some ⟨g,0,none⟩) n c).ownBlock=some b:=by intro e;simp only[aAC,Option.some.injEq] at e;exact h e
theorem aCe(w:ae)(B:Nat)(e:bu)(size:Nat)(hb:B<=w.heap.size):(w.alloc (.cells #[] e)).ownsRow B e size (.slice (some ⟨w.heap.size,0,none⟩) 0 0) 0 []:=⟨by simp,.inr ⟨w.heap.size,0,#[],rfl,hb,aDd w _,dE _,x8 _,by simp,by simp⟩⟩
section
variable {P:ed} {w:ae}
theorem Rx{B:Nat}{t ty e:bu}{size bytes:Nat}(T:AZ P t e size bytes){v:ag}{n:Nat}{xs:List ag}(l:w.ownsRow B e size v n xs)
  {u:ag} {m:Nat} {f:List ag} (hr:Reads w size u m f) (h1:dN f) (x:(n+m)*bytes<=140737488355328) (C:B<=w.heap.size) :
  ∃ E w',(Builtin.append_ #[t,t] ty #[v,u]).run P w=.ok E w'/\w'.ownsRow B e size E (n+m) (xs++f)/\gq (fun k=>v.ownBlock=some k) w w' /\
   (E.ownBlock=v.ownBlock\/∃ g,E.ownBlock=some g/\w.heap.size<=g/\g<w'.heap.size):=by
 obtain⟨L,⟨i,z,U,hz,y,V,K⟩,N,W⟩:=T;obtain⟨Q,A,c,rfl,a0,a1,p⟩:=hr;have Y:n+m<=uu:=by have:(n+m)*1<=(n+m)*bytes:=Nat.mul_le_mul_left _ W;unfold uu;omega
 rcases A with _|ad
 have hm:m=0:=by rcases aCE m with D|D;exact D;obtain⟨b,o,h,_⟩:=p D;cases h
 subst hm;have I:f=[]:=aEn (by simpa using Q);subst I;refine⟨v,w,?_,by simpa using l,gq.refl _ _,.inl rfl⟩;rcases l.2 with⟨rfl,rfl⟩|⟨g,cap,cur,rfl,_,_,O,_⟩;simp[Builtin.append_,Ha L,sizeOf,aBt,U,Builtin.lenOf,Builtin.firstCells];simp[Builtin.append_,Ha L,sizeOf,aBt,U,Builtin.lenOf,Builtin.firstCells,O,storeCells]
 have q:∀ j u,f[j]?=some u->w.cell? (ad.add j)=some u:=by
  intro j u Z;rcases aCE m with D|D;subst D;have I:f=[]:=aEn (by simpa using Q);subst I;simp at Z;obtain⟨b,o,h,hc⟩:=p D
  injection h with h
  subst h;rw[add_lit];exact hc j u Z
 obtain⟨E,w',H,h2,J,_,G⟩:=run_append_own_at (P:=P) w B t ty e i z size bytes L U hz y V K N v n xs l ad m c f Q q h1 Y x C;refine⟨E,w',H,h2,⟨J.os,J.tape,J.output,J.size,fun k hk I=>J.block k hk (fun e=>I e.symm)⟩,?_⟩;rcases G with G|G;exact .inl G;exact .inr ⟨_,G,dE _,(h2.lt _ G).2⟩
theorem pX{w:ae}{B:Nat}{e:bu}{size:Nat}{v:ag}{n:Nat}{xs:List ag}(h:w.ownsRow B e size v n xs):∃ A c,v=.slice A n c:=by
 rcases h.2 with⟨rfl,rfl⟩|⟨g,cap,cur,rfl,_⟩
 exact⟨_,_,rfl⟩;exact⟨_,_,rfl⟩
theorem bAb{o:ik}{a:Act}{K:Act->ae->Prop}{Q:uk->Act->ae->Prop}{s x:uA}{t:bu}
  (z:o.op=.call { callee:=.builtin .append,args:=#[s,x],argTypes:=#[t,t] })
  {B:Nat} {e:bu} {size bytes:Nat} (T:AZ P t e size bytes) {v:ag} (hs:a.eval s=v) {n:Nat} {xs:List ag} (p:w.ownsRow B e size v n xs)
  {u:ag} (y:a.eval x=u) {m:Nat} {b:List ag} (hr:Reads w size u m b) (h1:dN b) (c:(n+m)*bytes<=140737488355328) (f:B<=w.heap.size)
  (h:∀ (j:Option uB) (i:Nat) w',w'.ownsRow B e size (.slice j (n+m) i) (n+m) (xs++b)->gq (fun k=>v.ownBlock=some k) w w'->((aAP j (n+m) i).ownBlock=v.ownBlock\/∃ g,(aAP j (n+m) i).ownBlock=some g/\w.heap.size<=g/\g<w'.heap.size)->K (a.put o.dst (.slice j (n+m) i)) w'):o.wp P a w K Q:=by
 obtain⟨D,w',l,q,C,A⟩:=Rx (P:=P) (ty:=o.type) T p hr h1 c f;unfold Oper.wp xe;simp only[z,resolve,invoke,builtin,Sem.run_bind,Sem.run_pure,Result.andThen_ok,aEp,aAJ,aCU,hs,y,l];obtain⟨j,i,rfl⟩:=pX q;exact h j i w' q C A
theorem aNg{ops:Array ik}{o:ik}{a:Act}{K:Act->ae->Prop}{Q:uk->Act->ae->Prop}{E:Prop}(p:o.guard=none){s x:uA}{t:bu}
  (z:o.op=.call { callee:=.builtin .append,args:=#[s,x],argTypes:=#[t,t] })
  {B:Nat} {e:bu} {size bytes:Nat} (T:AZ P t e size bytes) {v:ag} (hs:a.eval s=v) {n:Nat} {xs:List ag} (i:w.ownsRow B e size v n xs)
  {u:ag} (q:a.eval x=u) {m:Nat} {b:List ag} (hr:Reads w size u m b) (h1:dN b) (c:(n+m)*bytes<=140737488355328) (f:B<=w.heap.size)
  (h:∀ (l:Option uB) (j:Nat) w',w'.ownsRow B e size (.slice l (n+m) j) (n+m) (xs++b)->gq (fun k=>v.ownBlock=some k) w w'->((aAP l (n+m) j).ownBlock=v.ownBlock\/∃ g,(aAP l (n+m) j).ownBlock=some g/\w.heap.size<=g/\g<w'.heap.size)->K (a.put o.dst (.slice l (n+m) j)) w') :
  if Region.wanted o (aAG ops a.tmps)=true then Oper.wp P o a w K Q else E:=by
 have y:Region.wanted o (aAG ops a.tmps)=true:=by simp[Region.wanted,p]
 rw[if_pos y];exact bAb z T hs i q hr h1 c f h
theorem bQ{ops:Array ik}{rest:List ik}{o:ik}{a:Act}{Q:uk->Act->ae->Prop}(p:o.guard=none){s x:uA}{t:bu}
  (y:o.op=.call { callee:=.builtin .append,args:=#[s,x],argTypes:=#[t,t] })
  {B:Nat} {e:bu} {size bytes:Nat} (T:AZ P t e size bytes) {v:ag} (hs:a.eval s=v) {n:Nat} {xs:List ag} (l:w.ownsRow B e size v n xs)
  {u:ag} (q:a.eval x=u) {m:Nat} {b:List ag} (hr:Reads w size u m b) (h1:dN b) (c:(n+m)*bytes<=140737488355328) (f:B<=w.heap.size)
  (h:∀ (j:Option uB) (i:Nat) w',w'.ownsRow B e size (.slice j (n+m) i) (n+m) (xs++b)->gq (fun k=>v.ownBlock=some k) w w'->((aAP j (n+m) i).ownBlock=v.ownBlock\/∃ g,(aAP j (n+m) i).ownBlock=some g/\w.heap.size<=g/\g<w'.heap.size)->aBj P ops Q rest (a.put o.dst (.slice j (n+m) i)) w'):aBj P ops Q (o::rest) a w:=
 wpList_plain p fun _ z=>bAb y T hs l q hr h1 c f fun j i w' D C A=>z _ _ (h j i w' D C A)
end
theorem aSp{w:ae}{B:Nat}{e:bu}{v:ag}{n k:Nat}{xs:List ag}(h:w.ownsRow B e 1 v n xs)(q:k<n) :
  ∃ g cap u,v=.slice (some ⟨g,0,none⟩) n cap/\B<=g/\g<w.heap.size/\xs[k]?=some u/\w.cell? ⟨g,k,none⟩=some u/\∀ i,w.frozen? ⟨g,i,none⟩=false:=by
 have p:=h.1;rcases h.2 with⟨rfl,rfl⟩|⟨g,cap,cur,rfl,o,c,j,m,l,b⟩;omega;have f:=h.cells (g:=g) rfl k xs[k] (aDA (by omega));rw[add_lit,mf] at f
 exact⟨g,cap,xs[k],rfl,o,lt_of_heap c,aDA (by omega),f,fun i=>by simp[aFa,c]⟩
theorem TD{w:ae}{B:Nat}{e:bu}{g n cap:Nat}{xs:List ag}(h:w.ownsRow B e 1 (.slice (some ⟨g,0,none⟩) n cap) n xs)(k:Nat)(_hk:k<n)(u:ag) :
  (w.setCell ⟨g,k,none⟩ u).ownsRow B e 1 (.slice (some ⟨g,0,none⟩) n cap) n (xs.set k u):=by
 have m:=h.1;refine⟨by rw[aAA];exact m,?_⟩;rcases h.2 with⟨e,_⟩|⟨q,j,cur,l,p,o,c,i,f,b⟩;cases e;cases l;refine .inr ⟨g,cap,cur.setIfInBounds k u,rfl,p,?_,c,i,by simpa using f,?_⟩;simp[aEZ,aIO,o];rw[<-b,aFK,List.take_set]
theorem own_ne{w:ae}{B q:Nat}{e l:bu}{size size' n m:Nat}{v k:ag}{xs f:List ag}(h:w.ownsRow B e size v n xs)(p:w.ownsRow q l size' k m f)(i:e≠l){g:Nat}(j:v.ownBlock=some g):k.ownBlock≠some g:=by
 intro c;rcases h.2 with⟨rfl,_⟩|⟨z,C,x,rfl,_,o,_⟩;simp[aAC] at j;rcases p.2 with⟨rfl,_⟩|⟨y,A,u,rfl,_,b,_⟩;simp[aAC] at c;simp[aAC] at j c;subst j c;rw[o] at b
 injection b with b
 injection b with _ ht
 exact i ht
theorem uN{w:ae}{B:Nat}{e t:bu}{size n g:Nat}{v:ag}{xs:List ag}{cs:Array ag}(h:w.ownsRow B e size v n xs)(b:eu w g t cs)(c:e≠t):v.ownBlock≠some g:=by
 rcases h.2 with⟨rfl,_⟩|⟨j,cap,cur,rfl,_,f,_⟩;simp[aAC];intro i
 have:j=g:=by simpa[aAC] using i
 subst this;unfold eu at b;rw[f] at b;injection b with b
 injection b with _ ht
 exact c ht
structure Acc where
 kind:Int
 ng:Int
 cell:Int
 bytes:ByteArray
abbrev je:=List Acc
structure u_ where
 val:Int
 bytes:ByteArray
abbrev ut:=List Acc->Option u_
def Acc.v(a:Acc):ag:=.agg #[.int .i64 a.kind,.int .i64 a.ng,.int .i64 a.cell,.string a.bytes]
def u_.v(r:u_):ag:=.agg #[.int .i64 r.val,.string r.bytes]
def aC:ByteArray:={ data:=#[] }
inductive aj(α:Type):Type where
 |ret (a:α)
 |ask (a:Acc) (k:u_->aj α)
def aj.bind{α b:Type}:aj α->(α->aj b)->aj b
 |.ret a,f=>f a|.ask a k,f=>.ask a fun r=>(k r).bind f
theorem aj.QB{α b:Type}(a:α)(f:α->aj b):(aj.ret a).bind f=f a:=rfl
theorem aj.bind_assoc{α b c:Type}(p:aj α)(f:α->aj b)(g:b->aj c):(p.bind f).bind g=p.bind fun a=>(f a).bind g:=by
 induction p with
 |ret a=>rfl|ask a k h=>simp only[aj.bind];congr 1;funext r;exact h r
def aj.run{α σ ε:Type}(d:Acc->σ->EStateM.Result ε σ u_):aj α->σ->EStateM.Result ε σ α
 |.ret a,s=>.ok a s|.ask a k,s=>match d a s with
  |.ok r b=>(k r).run d b|.error e b=>.error e b
def aj.All{α:Type}(R:α->Prop):aj α->Prop
 |.ret a=>R a|.ask _ k=>∀ r,aj.All R (k r)
theorem aj.All.AP{α:Type}(p:aj α):aj.All (fun _=>True) p:=by
 induction p with
 |ret a=>trivial|ask a k b=>exact fun r=>b r
theorem aj.All.mono{α:Type}{R b:α->Prop}{p:aj α}(h:aj.All R p)(hr:∀ a,R a->b a):aj.All b p:=by
 induction p with
 |ret a=>exact hr a h|ask a k c=>exact fun r=>c r (h r)
theorem aj.All.bind{α b:Type}{R:α->Prop}{c:b->Prop}{p:aj α}{f:α->aj b}(h:aj.All R p)(j:∀ a,R a->aj.All c (f a)):aj.All c (p.bind f):=by
 induction p with
 |ret a=>exact j a h|ask a k i=>exact fun r=>i r (h r)
def replay(b:List u_)(a:Acc)(i:Nat):EStateM.Result Acc Nat u_:=
 match b[i]? with
 |some r=>.ok r (i+1)|none=>.error a i
def u_.cells(r:u_):List ag:=[.int .i64 r.val,.string r.bytes]
def logCells(b:List u_):List ag:=b.flatMap u_.cells
theorem aEk(b:List u_):∀ i,(logCells b)[i*2]?=(b[i]?).map (fun r=>gp .i64 r.val)/\(logCells b)[i*2+1]?=(b[i]?).map (fun r=>aCJ r.bytes):=by
 unfold logCells
 induction b with
 |nil=>intro i;simp| cons r l c=>
  intro i;cases i with
  |zero=>simp[u_.cells]|succ i=>have:=c i;rw[aDQ];simp only[u_.cells,aCQ];rw[show (i+1)*2=i*2+1+1 from by omega];simpa using this
def oM{α σ ε:Type}(Inv:σ->(Nat->Prop)->ae->Prop)(S X:Nat->Prop)(pan:ε->ag)(w:ae)(val:α->ag)(r:EStateM.Result ε σ α)(e:Ending)(w':ae):Prop:=
 match r with
 |.ok a s=>e=.returned (val a)/\Inv s X w'/\gq S w w'|.error er s=>e=.panicked [{ v:=pan er,recovered:=false }]/\Inv s X w'/\gq S w w'
section
variable {α σ ε:Type} {Inv:σ->(Nat->Prop)->ae->Prop} {S X:Nat->Prop} {pan:ε->ag} {w w':ae} {val:α->ag} {r:EStateM.Result ε σ α} {e:Ending} {a:α} {s:σ} {er:ε}
theorem oM.ok(hr:r=.ok a s)(c:e=.returned (val a))(b:Inv s X w')(hc:gq S w w'):oM Inv S X pan w val r e w':=by subst hr;exact⟨c,b,hc⟩
theorem oM.err(hr:r=.error er s)(c:e=.panicked [{ v:=pan er,recovered:=false }])(b:Inv s X w')(hc:gq S w w'):oM Inv S X pan w val r e w':=by subst hr;exact⟨c,b,hc⟩
theorem oM.aHP(hr:r=.ok a s)(h:oM Inv S X pan w val r e w'):e=.returned (val a)/\Inv s X w'/\gq S w w':=by subst hr;exact h
theorem oM.Xy(hr:r=.error er s)(h:oM Inv S X pan w val r e w'):e=.panicked [{ v:=pan er,recovered:=false }]/\Inv s X w'/\gq S w w':=by subst hr;exact h
end
section
variable {P:ed} {F:FuncId} {caps:Array ag} {σ ε:Type} {d:Acc->σ->EStateM.Result ε σ u_} {pan:ε->ag} {Inv:σ->(Nat->Prop)->ae->Prop} {S X:Nat->Prop}
 {B:Nat} {ty:bu} {size:Nat} {s:σ} {v:ag} {n:Nat} {xs:List ag} {w w':ae}
end
end
def iG(x:UInt32)(n:UInt32):UInt32:=(x >>> n) ||| (x <<< (32-n))
def Aj:List UInt32:=[
 0x428a2f98,0x71374491,0xb5c0fbcf,0xe9b5dba5,0x3956c25b,0x59f111f1,0x923f82a4,0xab1c5ed5,
 0xd807aa98,0x12835b01,0x243185be,0x550c7dc3,0x72be5d74,0x80deb1fe,0x9bdc06a7,0xc19bf174,
 0xe49b69c1,0xefbe4786,0x0fc19dc6,0x240ca1cc,0x2de92c6f,0x4a7484aa,0x5cb0a9dc,0x76f988da,
 0x983e5152,0xa831c66d,0xb00327c8,0xbf597fc7,0xc6e00bf3,0xd5a79147,0x06ca6351,0x14292967,
 0x27b70a85,0x2e1b2138,0x4d2c6dfc,0x53380d13,0x650a7354,0x766a0abb,0x81c2c92e,0x92722c85,
 0xa2bfe8a1,0xa81a664b,0xc24b8b70,0xc76c51a3,0xd192e819,0xd6990624,0xf40e3585,0x106aa070,
 0x19a4c116,0x1e376c08,0x2748774c,0x34b0bcb5,0x391c0cb3,0x4ed8aa4a,0x5b9cca4f,0x682e6ff3,
 0x748f82ee,0x78a5636f,0x84c87814,0x8cc70208,0x90befffa,0xa4506ceb,0xbef9a3f7,0xc67178f2]
def oW:List UInt32:=[0x6a09e667,0xbb67ae85,0x3c6ef372,0xa54ff53a,0x510e527f,0x9b05688c,0x1f83d9ab,0x5be0cd19]
def sV(l:List UInt8):UInt32:=l.foldl (fun n b=>(n <<< 8) ||| b.toUInt32) 0
def xK(w:List UInt32):UInt32:=
 let i:=w.length;let x:=w.getD (i-15) 0;let y:=w.getD (i-2) 0
 w.getD (i-16) 0+((iG x 7 ^^^ iG x 18) ^^^ (x >>> 3))+w.getD (i-7) 0+((iG y 17 ^^^ iG y 19) ^^^ (y >>> 10))
def dO(b:List UInt8):Nat->List UInt32
 |0=>[]|i+1=>dO b i++[if i<16 then sV ((b.drop (4*i)).take 4) else xK (dO b i)]
def sched(b:List UInt8):List UInt32:=dO b 64
theorem iY(b:List UInt8)(i:Nat):(dO b i).length=i:=by induction i with
 |zero=>rfl|succ i a=>simp[dO,a]
def aBs(v:List UInt32)(k w:UInt32):List UInt32:=
 let a:=v.getD 0 0;let b:=v.getD 1 0;let c:=v.getD 2 0;let d:=v.getD 3 0;let e:=v.getD 4 0;let f:=v.getD 5 0;let g:=v.getD 6 0;let h:=v.getD 7 0;let t:=h+((iG e 6 ^^^ iG e 11) ^^^ iG e 25)+((e &&& f) ^^^ (~~~e &&& g))+k+w;let u:=((iG a 2 ^^^ iG a 13) ^^^ iG a 22)+(((a &&& b) ^^^ (a &&& c)) ^^^ (b &&& c))
 [t+u,a,b,c,d+t,e,f,g]
def bM(b:List UInt8)(v:List UInt32):Nat->List UInt32
 |0=>v|k+1=>aBs (bM b v k) (Aj.getD k 0) ((sched b).getD k 0)
def aBr(b:List UInt8)(v:List UInt32):List UInt32:=bM b v 64
theorem lV(b:List UInt8)(v:List UInt32)(h:v.length=8)(k:Nat):(bM b v k).length=8:=by cases k with
 |zero=>exact h|succ k=>rfl
def nM(v:List UInt32)(b:List UInt8):List UInt32:=aCK (·+·) (aBr b v) v
def beBytes(n:Nat):Nat->List UInt8
 |0=>[]|k+1=>xy (n / 256 ^ k)::beBytes n k
def iK(m:List UInt8):List UInt8:=m++[128]++Pi ((119-m.length % 64) % 64) 0++beBytes (8*m.length) 8
def pW:Nat->List UInt32->List UInt8->List UInt32
 |0,v,_=>v|n+1,v,m=>pW n (nM v (m.take 64)) (m.drop 64)
def sha(m:List UInt8):List UInt8:=(pW ((iK m).length / 64) oW (iK m)).flatMap fun w=>beBytes w.toNat 4
def Bf(a m:List UInt8):List UInt8:=
 let k:=if a.length > 64 then sha a else a
 let b:=fun (x:UInt8)=>(yz 64).map fun i=>k.getD i 0 ^^^ x
 sha (b 0x5c++sha (b 0x36++m))
def Gz(a m:List UInt8):List UInt8:=(Bf a m).take 16
section
theorem D_(a:UInt32):0<=(a.toNat:Int)/\(a.toNat:Int)<4294967296:=by have:=a.toNat_lt;omega
theorem lt8(a:UInt8):0<=(a.toNat:Int)/\(a.toNat:Int)<256:=by have:=a.toNat_lt;omega
theorem Gu(a b:UInt32):bits BinOp.or yl (a.toNat:Int) (b.toNat:Int)=((a ||| b).toNat:Int):=by rw[u32_or _ _ (D_ a).1 (D_ a).2 (D_ b).1 (D_ b).2];simp
theorem Qo(a b:UInt32):bits BinOp.and yl (a.toNat:Int) (b.toNat:Int)=((a &&& b).toNat:Int):=by rw[u32_and _ _ (D_ a).1 (D_ a).2 (D_ b).1 (D_ b).2];simp
theorem zT(a b:UInt32):bits BinOp.xor yl (a.toNat:Int) (b.toNat:Int)=((a ^^^ b).toNat:Int):=by rw[u32_xor _ _ (D_ a).1 (D_ a).2 (D_ b).1 (D_ b).2];simp
theorem add32(a b:UInt32):((a.toNat:Int)+(b.toNat:Int)) % 4294967296=((a+b).toNat:Int):=by rw[aEw];omega
theorem DT(a b:UInt8):bits BinOp.xor uC (a.toNat:Int) (b.toNat:Int)=((a ^^^ b).toNat:Int):=by rw[u8_xor _ _ (lt8 a).1 (lt8 a).2 (lt8 b).1 (lt8 b).2];simp
theorem bJl(a:UInt32)(n:Nat)(hn:n<32):(a.toNat:Int) / 2 ^ n=((a >>> aBA n).toNat:Int):=by
 rw[UInt32.toNat_shiftRight,Nat.shiftRight_eq_div_pow];have:(aBA n).toNat % 32=n:=by simp;omega
 rw[this];simp
theorem bDq(a:UInt32)(n:Nat)(hn:n<32):(a.toNat:Int)*2 ^ n % 4294967296=((a <<< aBA n).toNat:Int):=by
 rw[UInt32.toNat_shiftLeft,Nat.shiftLeft_eq];have:(aBA n).toNat % 32=n:=by simp;omega
 rw[this];simp
theorem QM(a b:UInt32):IntKind.u32.wrap ((a.toNat:Int)+(b.toNat:Int))=((a+b).toNat:Int):=by rw[IntKind.wrap_u32];exact add32 a b
theorem W_(a:UInt32):bits BinOp.xor yl IntKind.u32.max (a.toNat:Int)=((~~~a).toNat:Int):=by rw[show IntKind.u32.max=(((-1:UInt32)).toNat:Int) from rfl,zT,UInt32.neg_one_xor]
def w32(x:UInt32):ag:=.int .u32 (x.toNat:Int)
theorem bMh(n:Nat)(hn:0<n)(a:n<32):bits BinOp.and IntKind.u64 (IntKind.wrap .u64 (-(n:Int))) 31=((32-n:Nat):Int):=by
 have h:IntKind.wrap .u64 (-(n:Int))=((18446744073709551616-n:Nat):Int):=by rw[aDD];omega
 rw[h,u64_and _ _ a_ a_ a_ a_];rw[VM,show (31:Int).toNat=2 ^ 5-1 from rfl,Nat.and_two_pow_sub_one_eq_mod];omega
theorem XM(x:UInt32)(n:Nat)(hn:0<n)(a:n<32):bits BinOp.or yl ((x.toNat:Int)*2 ^ (32-n) % 4294967296) ((x.toNat:Int) / 2 ^ n)=((iG x (aBA n)).toNat:Int):=by
 rw[bDq x (32-n) a_,bJl x n a,Gu];unfold iG;have e:aBA (32-n)=32-aBA n:=by apply UInt32.toNat_inj.1;rw[UInt32.toNat_sub];simp;omega
 rw[e,UInt32.or_comm]
theorem Js(x:UInt32)(n:Nat)(w:ae)(hn:0<n)(a:n<32) :
  lL prog 206 #[.int .u32 (x.toNat:Int),.int .i64 (-(n:Int))] w fun e b=>e=.returned (.int .u32 ((iG x (aBA n)).toNat:Int))/\w=b:=by
 have c:=hide (XM x n hn a);have d:=x.toNat_lt;have g:=bMh n hn a;have f:IntKind.wrap .u64 (32-((32-n:Nat):Int))=(n:Int):=by rw[show (32:Int)-((32-n:Nat):Int)=(n:Int) by omega];exact IntWalk.u64_in _ a_
 go_enter func206,ntmps206
 go_wp2
 go_ret;exact⟨vM (aA c),rfl⟩
def xQ(x:UInt32)(ns:List Nat):UInt32:=ns.foldl (fun o n=>o ^^^ iG x (aBA n)) 0
theorem lJ{a:Type}(l:List a)(k:Nat)(h:k<l.length):l.take (k+1)=l.take k++[l[k]]:=by rw[aDR,zH h];rfl
theorem aWt(x:UInt32)(ns:List Nat)(k:Nat)(h:k<ns.length):xQ x (ns.take (k+1))=xQ x (ns.take k) ^^^ iG x (aBA ns[k]):=by rw[lJ ns k h];unfold xQ;rw[aDT];rfl
theorem bAr(x:UInt32)(ns:List Nat)(v:ag)(w:ae)(h:Reads w 1 v ns.length (ns.map fun n:Nat=>gp .i64 (n:Int)))(hn:∀ n∈ns,0<n/\n<32) :
  lL prog 204 #[.int .u32 (x.toNat:Int),v] w fun e f=>e=.returned (.int .u32 ((xQ x ns).toNat:Int))/\w=f:=by
 have z:=hide h;have p:=h.Aw;unfold uu at p;obtain⟨_,B,c,rfl,_,_,_⟩:=h
 go_enter func204,ntmps204
 go_wp2
 go_loop [5,10] (fun o i=>∃ k:Nat,k<=ns.length/\i=.int .i64 k/\o=.int .u32 ((xQ x (ns.take k)).toNat:Int)) (fun _ i=>ns.length-(intOf i).toNat)
 case atStart=>exact⟨0,x8 _,rfl,rfl⟩
 case round=>
  obtain⟨k,A,rfl,rfl⟩:=hrel;by_cases a:k<ns.length
  ·obtain⟨b,o,E,u,m,_,_,C,g,d⟩:=(aA z).Ef a;cases m;rw[aAg,zH a] at g;cases g;obtain⟨l,j⟩:=hn _ (aBI a);have t:=hide (aWt x ns k a);have r:=hide (zT (xQ x (ns.take k)) (iG x (aBA ns[k])));dsimp only at d;have y:=hide (fun w=>Js x ns[k] w l j);generalize ns[k]=n at *;generalize xQ x (ns.take k)=q at *;have D:IntKind.wrap .i64 (-(n:Int)) = -(n:Int):=IntWalk.i64_in _ a_
   go_wp2_with fail
   refine (aA y _).mono ?_;rintro e f ⟨rfl,rfl⟩
   go_wp2
   go_round
   case rel=>exact⟨k+1,a_,by go_num,int_eq (by rw[aA t];exact aA r)⟩
   case measure=>simp[intOf];omega
  ·obtain rfl:k=ns.length:=a_;have s:=hide (show xQ x (ns.take ns.length)=xQ x ns by rw[aCR])
   go_wp2
   go_ret;exact⟨vM (by first|rfl|rw[aA s]),rfl⟩
structure Onto(w:ae)(v:ag)(w':ae)(v':ag):Prop where
 iw:gq (fun k=>v.ownBlock=some k) w w'
 own:v'.ownBlock=v.ownBlock\/∃ g,v'.ownBlock=some g/\w.heap.size<=g
theorem Onto.refl(w:ae)(v:ag):Onto w v w v:=⟨gq.refl _ _,.inl rfl⟩
theorem Onto.trans{a b c:ae}{u v x:ag}(h:Onto a u b v)(k:Onto b v c x):Onto a u c x:=by refine⟨h.iw.trans' k.iw (fun _ _ h=>h) (fun i j e=>?_),?_⟩;rcases h.own with d|⟨g,d,f⟩;rw[<-d];exact e;rw[d] at e;cases e;omega;rcases k.own with d|⟨g,d,f⟩;rw[d];exact h.own;exact .inr ⟨g,d,ry h.iw.size f⟩
theorem Onto.ext{a b c:ae}{u v:ag}(h:Onto a u b v)(k:Ext b c):Onto a u c v:=⟨h.iw.ext k,h.own⟩
theorem Onto.app{w w':ae}{v a:ag}(hc:gq (fun k=>v.ownBlock=some k) w w')(b:a.ownBlock=v.ownBlock\/∃ g,a.ownBlock=some g/\w.heap.size<=g/\g<w'.heap.size):Onto w v w' a:=⟨hc,b.imp id fun⟨g,d,c,_⟩=>⟨g,d,c⟩⟩
theorem Onto.EN{w0 w w':ae}{v a:ag}(h0:Ext w0 w)(h:Onto w v w' a)(b:∀ g,v.ownBlock=some g->w0.heap.size<=g):Ext w0 w':=h0.trans' h.iw (fun _ _ h=>h) (fun i c e=>by have:=b i e;omega)
def j_(b:UInt8):ag:=.int .u8 (b.toNat:Int)
theorem aZp(l:di)(k:Nat)(h:k<l.length):sV (l.take (k+1))=(sV (l.take k) <<< 8) ||| l[k].toUInt32:=by rw[lJ l k h];unfold sV;rw[aDT];rfl
theorem aUs(b:UInt8):(b.toNat:Int)=(b.toUInt32.toNat:Int):=d_
theorem NT(l:di)(v:ag)(w:ae)(h:Reads w 1 v l.length (l.map j_)) :
  lL prog 203 #[v] w fun e j=>e=.returned (.int .u32 ((sV l).toNat:Int))/\w=j:=by
 have s:=hide h;have n:=h.Aw;unfold uu at n;obtain⟨_,B,c,rfl,_,_,_⟩:=h
 go_enter func203,ntmps203
 go_wp2
 go_loop [3,8] (fun o i=>∃ k:Nat,k<=l.length/\i=.int .i64 k/\o=.int .u32 ((sV (l.take k)).toNat:Int)) (fun _ i=>l.length-(intOf i).toNat)
 case atStart=>exact⟨0,x8 _,rfl,rfl⟩
 case round=>
  obtain⟨k,x,rfl,rfl⟩:=hrel;by_cases d:k<l.length
  ·obtain⟨b,o,C,u,m,_,_,y,g,f⟩:=(aA s).Ef d;cases m;rw[aAg,zH d] at g;cases g;unfold j_ at f;have r:=hide (aZp l k d);generalize l[k]=z at *;generalize sV (l.take k)=a at *;have t:=z.toNat_lt;have A:=a.toNat_lt;have p:=hide (show bits BinOp.or yl ((a.toNat:Int)*2 ^ 8 % 4294967296) (z.toNat:Int)=((a <<< 8 ||| z.toUInt32).toNat:Int) from by rw[bDq a 8 a_,aUs,Gu];rfl)
   go_wp2
   go_round
   case rel=>exact⟨k+1,a_,by go_num,int_eq (by rw[aA r];exact aA p)⟩
   case measure=>simp[intOf];omega
  ·obtain rfl:k=l.length:=a_;have q:=hide (show sV (l.take l.length)=sV l by rw[aCR])
   go_wp2
   go_ret;exact⟨vM (by first|rfl|rw[aA q]),rfl⟩
theorem gV:AZ prog 74 5 1 1:=AZ.mk' (z:=.int .u8 0) ai ai rfl a_ a_
theorem beBytes_length(n k:Nat):(beBytes n k).length=k:=by induction k with
 |zero=>rfl|succ k a=>unfold beBytes;simp[a]
theorem aBh(n:Nat):∀ (many j:Nat),j<many->(beBytes n many)[j]?=some (xy (n / 256 ^ (many-1-j)))
 |0,j,h=>a_|many+1,0,h=>by simp[beBytes]|many+1,j+1,h=>by rw[beBytes,aCQ,aBh n many j a_,show many+1-1-(j+1)=many-1-j from a_]
theorem aEv(n many k:Nat)(h0:0<k)(a:k<=many):(beBytes n many).take (many-(k-1))=(beBytes n many).take (many-k)++[xy (n / 256 ^ (k-1))]:=by rw[show many-(k-1)=many-k+1 from a_,aDR,aBh n many (many-k) a_,show many-1-(many-k)=k-1 from a_];rfl
theorem byte_of(n k:Nat):(n:Int) / 2 ^ (8*k) % 256=((xy (n / 256 ^ k)).toNat:Int):=by rw[show (2:Int) ^ (8*k)=((256 ^ k:Nat):Int) from by rw[Int.pow_mul];simp];simp
theorem bIz(v:ag)(m:Nat)(xs:jl)(n:Nat)(many:Nat)(B:Nat)(w:ae)(h:w.ownsRow B 5 1 v m xs)(s:B<=w.heap.size)(y:m<=1000000000)(C:many<=8) :
  lL prog 200 #[v,.int .u64 (n:Int),.int .i64 (many:Int)] w fun e g=>∃ c,e=.returned c/\g.ownsRow B 5 1 c (m+many) (xs++(beBytes n many).map j_)/\Onto w v g c:=by
 have u:=hide h;clear h
 go_enter func200,ntmps200
 go_wp2
 go_loopw [0,7] (fun b i wr=>∃ (k:Nat),k<=many/\i=.int .i64 ((k:Int)-1)/\Hid (wr.ownsRow B 5 1 b (m+(many-k)) (xs++((beBytes n many).take (many-k)).map j_)/\Onto w v wr b)) (fun _ i _=>(intOf i+1).toNat)
 case atStart=>exact⟨many,dE _,rfl,hide ⟨by rw[aBa];simpa using aA u,Onto.refl _ _⟩⟩
 case round=>
  obtain⟨k,r,rfl,a⟩:=hrel;by_cases f:0<k
  ·have E:(0:Int)<=(k:Int)-1:=a_;have D:IntKind.wrap .i64 (8*((k:Int)-1))=((8*(k-1):Nat):Int):=by rw[IntWalk.i64_in _ a_];omega
   have A:=byte_of n (k-1);have t:=hide (aEv n many k f r);generalize xy (n / 256 ^ (k-1))=z at *;have d:Hid (B<=wr.heap.size):=hide (ry s (aA a).2.iw.size)
   go_wp2_with (at_builtin;refine bQ rfl rfl gV rfl (bP (aA a).1 ((Ext.refl _).alloc _)) rfl (Reads.yj _ _ _) (dN.one rfl) a_ (ry (aA d) d_) ?_;intro G F x l o j)
   have q:=hide (az l (((aA a).2.ext ((Ext.refl wr).alloc _)).trans (Onto.app o j)));clear l o j
   go_wp2
   go_roundw
   case rel=>exact⟨k-1,a_,by go_num,hide ⟨by rw[aA t,aBc,<-GM,show m+(many-(k-1))=m+(many-k)+1 from a_];exact (aA q).1,(aA q).2⟩⟩
   case measure=>simp[intOf];omega
  ·obtain rfl:k=0:=a_
   go_wp2
   go_ret;have p:=(aA a).1;rw[aDU,WF (by rw[beBytes_length];exact dE _)] at p
   exact⟨_,rfl,p,(aA a).2⟩
theorem aRd(v:ag)(m:Nat)(xs:jl)(n:Nat)(many:Nat)(B:Nat)(w:ae)(b d:Int)(e1:b=(n:Int))(e2:d=(many:Int))(h:w.ownsRow B 5 1 v m xs)(i:B<=w.heap.size)(g:m<=1000000000)(_:n<18446744073709551616)(j:many<=8) :
  lL prog 200 #[v,.int .u64 b,.int .i64 d] w fun e a=>∃ A c,e=.returned (.slice A (m+many) c)/\a.ownsRow B 5 1 (.slice A (m+many) c) (m+many) (xs++(beBytes n many).map j_)/\Onto w v a (.slice A (m+many) c):=by
 subst e1 e2;refine (bIz v m xs n many B w h i g j).mono ?_;rintro e a ⟨l,rfl,f,k⟩;obtain⟨A,c,rfl⟩:=pX f;exact⟨A,c,rfl,f,k⟩
theorem dN.u8(l:di):dN (l.map j_):=dN.map (fun _=>rfl) l
theorem clone_any(v:ag)(l:di)(w:ae)(h:Reads w 1 v l.length (l.map j_))(hn:l.length<=1000000000) :
  lL prog 160 #[v] w fun e m=>∃ n,e=.returned n/\m.ownsRow w.heap.size 5 1 n l.length (l.map j_)/\Ext w m:=by
 have t:=hide h;obtain⟨p,A,c,rfl,_,_,k⟩:=h;rcases A with _|a
 ·have r:l=[]:=by
   cases l with
   |nil=>rfl|cons x l=>obtain⟨b,o,e,_⟩:=k d_;cases e
  subst r;clear p k;simp only[aBJ];have d:=fun w=>Lib.run_eql_slice_nil (P:=prog) w 74 5 none 0 c 0 0 underlying74
  go_enter func160,ntmps160
  go_wp2
  go_ret;exact⟨_,rfl,aEx _ _ _ _,Ext.refl _⟩
 ·clear p k;have d:=fun w=>Lib.run_eql_slice_nil (P:=prog) w 74 5 (some a) l.length c 0 0 underlying74
  go_enter func160,ntmps160
  go_wp2_with (at_builtin;refine bQ rfl rfl gV rfl (aCe _ w.heap.size _ _ (dE _)) rfl ((aA t).ext ((Ext.refl w).alloc _)) (dN.u8 l) a_ d_ ?_;intro z y u f g j)
  have s:=hide (az f (az g j));clear f g j
  go_wp2
  go_ret;obtain⟨f,g,j⟩:=aA s
  refine⟨_,rfl,by simpa using f,?_⟩;exact ((Ext.refl w).alloc (.cells #[] 5)).trans' g (fun _ _ h=>h) (fun i q e=>by cases e;exact absurd q (Nat.lt_irrefl _))
structure zk(P:ed)(ty:bu)(n:Nat):Prop where
 und:∃ d,P.underlying ty=some d/\d.isRow=true
 info:(P.info? ty).map (·.size)=some n
theorem eu.range{w:ae}{g:Nat}{t:bu}{cs:mg}(h:eu w g t cs):w.rangeAt g 0 cs.toList:=fun j v a=>by rw[mf,h.cell];simpa using a
theorem eu.FB{w:ae}{g:Nat}{t:bu}{cs:mg}(h:eu w g t cs):w.there g 0 cs.size:=fun j a=>by rw[mf,h.cell,h.frozen];simp[a]
theorem iO(b:Nat):∀ (a:jl) (o:Nat) (w:ae),gq (fun k=>k=b) w (w.setCells b o a)/\(w.setCells b o a).heap.size=w.heap.size:=by
 intro a
 induction a with
 |nil=>intro o w;exact⟨gq.refl _ _,rfl⟩|cons v a c=>intro o w;have h:=c (o+1) (w.setCell ⟨b,o,none⟩ v);refine⟨(gq.setCell (S:=fun k=>k=b) (p:=⟨b,o,none⟩) (gq.refl _ _) (.inl rfl) v).trans h.1,?_⟩;show ((w.setCell ⟨b,o,none⟩ v).setCells b (o+1) a).heap.size=_;rw[h.2];simp[aEZ]
theorem aRl(b:Nat)(t:bu):∀ (c:jl) (a:jl) (old:jl) (w:ae),old.length=c.length->eu w b t (a++old).toArray->eu (w.setCells b a.length c) b t (a++c).toArray:=by
 intro c
 induction c with
 |nil=>intro a old w d h;cases old with|nil=>exact h|cons=>simp at d
 | cons v c g=>
  intro a old w d h;cases old with
  |nil=>simp at d|cons x old=>have f:=h.zq a.length v;have e:(a++x::old).toArray.setIfInBounds a.length v=((a++[v])++old).toArray:=d_;rw[e] at f;have:=g (a++[v]) old (w.setCell ⟨b,a.length,none⟩ v) (by simpa using d) f;simp only[gz,We,aBJ,mf,GM,List.singleton_append] at this;exact this
theorem aGm{w:ae}{g:Nat}{t:bu}{old cs:mg}(h:eu w g t old)(hs:old.size=cs.size):eu (w.setCells g 0 cs.toList) g t cs:=by have:=aRl g t cs.toList [] old.toList w (by simpa using hs) (by simpa using h);simpa using this
section
variable {P:ed}
theorem IX{o:ik}{a:Act}{w:ae}{K:Act->jg}{Q:uk->Act->jg}{ty:bu}{x:uA}(e:o.op=.load ty x){n:Nat}(W:zk P ty n)
  {g:Nat} (b:a.eval x=.pointer (some ⟨g,0,none⟩)) {t:bu} {cs:mg} (i:eu w g t cs) (hn:cs.size=n) (h:K (a.put o.dst (.agg cs)) w):o.wp P a w K Q:=by
 obtain⟨d,c,f⟩:=W.und;refine wp_load_mid ty x e g 0 b cs.toList d i.range c f (by rw[nz,hn];exact W.info) ?_;rw[aEK];exact h
theorem fO{ops:Array ik}{rest:List ik}{o:ik}{a:Act}{w:ae}{Q:uk->Act->jg}(b:o.guard=none){ty:bu}{x:uA}(d:o.op=.load ty x){n:Nat}(W:zk P ty n)
  {g:Nat} (c:a.eval x=.pointer (some ⟨g,0,none⟩)) {t:bu} {cs:mg} (f:eu w g t cs) (hn:cs.size=n) (h:aBj P ops Q rest (a.put o.dst (.agg cs)) w):aBj P ops Q (o::rest) a w:=
 wpList_plain b fun _ e=>IX d W c f hn (e _ _ h)
theorem aQp{o:ik}{a:Act}{w:ae}{K:Act->jg}{Q:uk->Act->jg}{ty:bu}{x y:uA}(i:o.op=.store ty x y){n:Nat}(W:zk P ty n)
  {g:Nat} (e:a.eval x=.pointer (some ⟨g,0,none⟩)) {cs:mg} (d:a.eval y=.agg cs) {t:bu} {old:mg} (c:eu w g t old) (f:old.size=n) (hn:cs.size=n) (h1:cs.all (·.oneCell')=true)
  (h:∀ b,eu b g t cs->gq (fun k=>k=g) w b->b.heap.size=w.heap.size->K (a.put o.dst dC) b):o.wp P a w K Q:=by
 refine wp_store_mid ty x y i g 0 cs e d (by rw[show cs.size=old.size from a_];exact c.FB) (by rw[hn];exact W.info) h1 ?_;exact h _ (aGm c a_) (iO g cs.toList 0 w).1 (iO g cs.toList 0 w).2
theorem aT{ops:Array ik}{rest:List ik}{o:ik}{a:Act}{w:ae}{Q:uk->Act->jg}(d:o.guard=none){ty:bu}{x y:uA}(i:o.op=.store ty x y){n:Nat}(W:zk P ty n)
  {g:Nat} (f:a.eval x=.pointer (some ⟨g,0,none⟩)) {cs:mg} (e:a.eval y=.agg cs) {t:bu} {old:mg} (l:eu w g t old) (c:old.size=n) (hn:cs.size=n) (h1:cs.all (·.oneCell')=true)
  (h:∀ b,eu b g t cs->gq (fun k=>k=g) w b->b.heap.size=w.heap.size->aBj P ops Q rest (a.put o.dst dC) b):aBj P ops Q (o::rest) a w:=
 wpList_plain d fun _ j=>aQp i W f e l c hn h1 fun b q p m=>j _ _ (h b q p m)
theorem jQ{ops:Array ik}{o:ik}{a:Act}{w:ae}{K:Act->jg}{Q:uk->Act->jg}{E:Prop}(d:o.guard=none){ty:bu}{x y:uA}(j:o.op=.store ty x y){n:Nat}(W:zk P ty n)
  {g:Nat} (f:a.eval x=.pointer (some ⟨g,0,none⟩)) {cs:mg} (e:a.eval y=.agg cs) {t:bu} {old:mg} (l:eu w g t old) (c:old.size=n) (hn:cs.size=n) (h1:cs.all (·.oneCell')=true)
  (h:∀ b,eu b g t cs->gq (fun k=>k=g) w b->b.heap.size=w.heap.size->K (a.put o.dst dC) b):if Region.wanted o (aAG ops a.tmps)=true then Oper.wp P o a w K Q else E:=by
 have i:Region.wanted o (aAG ops a.tmps)=true:=by simp[Region.wanted,d]
 rw[au i];exact aQp j W f e l c hn h1 h
end
end
section
theorem bAp{P:ed}{T e:bu}{n:Nat}(a:P.underlying T=some (.array n e)){ad:Option uB}{len c:Nat}(hl:n<=len)(w:ae):(Instr.arrayAt T (.slice ad len c)).run P w=.ok (.pointer ad) w:=by have h:¬len<n:=a_;simp[Instr.arrayAt,Ha a,h]
def I_(S:uy)(w w':ae):Prop:=∀ p v,¬S p.block->w.cell? p=some v->w'.cell? p=some v
theorem I_.trans{S:uy}{a b c:ae}(h:I_ S a b)(k:I_ S b c):I_ S a c:=fun p v d e=>k p v d (h p v d e)
theorem I_.Xz{S:uy}{a b:ae}(h:gq S a b):I_ S a b:=fun _ _ c d=>gq.jh h d c
def Qm(w w':ae):Prop:=∀ (k:Nat) (o:Obj),w.heap[k]?=some o->o.isCells=true->w'.heap[k]?=some o
theorem cells_of_cell{w:ae}{p:uB}{v:ag}(h:w.cell? p=some v):∃ o,w.heap[p.block]?=some o/\o.isCells=true:=by
 have a:=lt_of_cell h;refine⟨_,aCF a,?_⟩;unfold World.cell? at h;rw[aCF a] at h
 cases b:w.heap[p.block]<;>simp_all [Obj.isCells]
theorem I_.putObj{S:uy}(W:ae)(l:Nat){o:Obj}(f:Obj)(h:W.heap[l]?=some o)(g:o.isCells=false):I_ S W (W.putObj l f):=fun p v _ d=>by
 obtain⟨q,c,a⟩:=cells_of_cell d;have b:p.block≠l:=fun e=>by rw[e,h] at c;cases c;rw[g] at a;cases a
 rw[aFJ (w:=W) (aCL b)];exact d
theorem Qm.cell{w w':ae}(h:Qm w w'){p:uB}{v:ag}(hc:w.cell? p=some v):w'.cell? p=some v:=by obtain⟨o,b,a⟩:=cells_of_cell hc;rw[aFJ (w:=w) ((h _ _ b a).trans b.symm)];exact hc
theorem Qm.blk{w w':ae}(h:Qm w w'){g:Nat}{t:bu}{cs:mg}(hb:eu w g t cs):eu w' g t cs:=h _ _ hb rfl
theorem aB{P:ed}{f:FuncId}{fn:Func}{c:Code}(b:P.funcs[f]?=some fn)(a:(fn.name == "runtime.NumGoroutine")=false)(hb:fn.body=some c)(args:mg)(w:ae):(aAE f args).run P w=.ok (.enter f args) w:=by
 have d:fn.name ≠ "runtime.NumGoroutine" := by simpa using a
 simp[aAE,b,d,hb,mark]
theorem IW{m:Type}{P:ed}{g:uA}{E:Array Tmp}{assign body:Code}{Q:uk->Act->jg}{a:Act}{w:ae}
  {gf:Nat} {lb:mg} (V:a.eval g=.func (.func gf) #[] lb) (eg:∀ args w,(aAE gf args).run P w=.ok (.enter gf args) w)
  {encs:m->mg} {S:uy} {all:List m} {N:Nat} (hS:∀ k,S k->k<w.heap.size)
  (s:SeqStopsK Fence.wide 2 P gf lb encs (I_ S) (fun I=>I=all) (fun _=>True) N w) (G:∀ x,(encs x).size=E.size)
  (J:List m->jg) (Y:∀ c W j,J c W->Qm W j->J c j) (h0:J [] w) (f:m->Act)
  (
   d:∀ (l:Nat) (x:m) (W:ae) (K:Act->jg),K (f x) W ->
   assign.wpIn (Fence.wide.inRound l) 1 P (Exit.then K (fun _ _ _=>False)) { tmps:=(E.zip (encs x)).foldl (fun t (p,v)=>t.setIfInBounds p v) a.tmps,defers:=[] } W)
  (
   hbody:∀ (l:Nat) (c:List m) (x:m) (W:ae),gq S w W->J c W->c.length<N ->
   body.wpIn (Fence.wide.inRound l) 1 P (Exit.then (fun _ j=>gq S W j/\J (c++[x]) j) (fun _ _ _=>False)) (f x) W)
  (hdone:∀ (D:Nat) (W:ae),w.heap.size<=D->gq S w W->J all W->W.heap[D]?=some (.deferred (some []))->Q .normal { a with defers:={ target:=.collected D,args:=#[] }::a.defers } W) :
  (Code.rangeFunc g E assign body).wp P Q a w:=by
 refine (wpIn_wide (n:=3)).1 ?_
 refine wpIn_rangeFunc_ownG (n:=3) (N:=N) (w0:=w) rfl a_ V trivial eg s (fun h k=>h.trans k) (fun W l o O _ h y _=>I_.putObj W l O h y) (Below.refl _ _) G
  (fun c W=>gq S w W/\J c W) (fun _ _ _=>False) ?hI (fun _ _ _ _ _ h _ _=>h) ⟨gq.refl _ _,h0⟩ f d ?hbody ?hdone (fun _ _ _ _ _ _ h _=>h.elim)
 case hI=>rintro c W j L ⟨r,z⟩ A i;refine⟨r.grown A fun k e=>.inr (i k e).1,Y _ _ _ z (show Qm W j from fun k o B y=>?_)⟩;rw[A.block k (lt_of_heap B) (fun e=>?_)];exact B;obtain⟨_,q,H,u⟩:=i k e.symm;rw[B] at H;cases H;rw[y] at u;cases u
 case hbody=>
  rintro l c x W ⟨r,z⟩ U;refine wpIn_mono (hbody l c x W r z U) ?_;rintro e b j h;cases e with
  |normal=>obtain⟨C,h2⟩:=h;refine⟨⟨C.size,fun k o B y _=>C.blk y (fun T=>?_)⟩,I_.Xz C,r.trans C,h2⟩;have:=hS k T;omega
  |_=>exact h.elim
 case hdone=>rintro D xs W Z rfl ⟨r,z⟩ X;exact hdone D W Z r z X
section
variable {P:ed} {F:Fence} {n0:Nat}
theorem aJy{ops:Array ik}{rest:List ik}{o:ik}{a:Act}{w:ae}{Q:uk->Act->jg}(e:o.guard=none){ty:bu}{x:uA}(b:o.op=.load ty x){n:Nat}(W:zk P ty n)
  {g:Nat} (i:a.eval x=.pointer (some ⟨g,0,none⟩)) {t:bu} {cs:mg} (m:eu w g t cs) (hn:cs.size=n) (h:wpListIn F n0 P ops Q rest (a.put o.dst (.agg cs)) w):wpListIn F n0 P ops Q (o::rest) a w:=
 wpListIn_plain e fun _ l=>by obtain⟨d,j,k⟩:=W.und;unfold Oper.wpIn;refine⟨by simp[Oper.about,b],?_⟩;rw[Oper.semAt_plain F _ _ (by rw[b];intro c h;cases h)];unfold xe;have f:=run_loadVar_mid (P:=P) w g 0 ty cs.toList d m.range j k (by rw[nz,hn];exact W.info);rw[aEK] at f;simp only[b,i,Instr.loadAt,Instr.sureAddr,Sem.run_bind,Sem.run_pure,Result.andThen_ok,f];exact l _ _ h
theorem aGe{ops:Array ik}{rest:List ik}{o:ik}{a:Act}{w:ae}{Q:uk->Act->jg}(e:o.guard=none){ty:bu}{x y:uA}(d:o.op=.store ty x y){n:Nat}(W:zk P ty n)
  {g:Nat} (j:a.eval x=.pointer (some ⟨g,0,none⟩)) {cs:mg} (i:a.eval y=.agg cs) {t:bu} {old:mg} (f:eu w g t old) (m:old.size=n) (hn:cs.size=n) (h1:cs.all (·.oneCell')=true)
  (h:∀ b,eu b g t cs->gq (fun k=>k=g) w b->b.heap.size=w.heap.size->wpListIn F n0 P ops Q rest (a.put o.dst dC) b):wpListIn F n0 P ops Q (o::rest) a w:=
 wpListIn_plain e fun _ p=>by unfold Oper.wpIn;refine⟨by simp[Oper.about,d],?_⟩;rw[Oper.semAt_plain F _ _ (by rw[d];intro c h;cases h)];unfold xe;have l:=run_storeAt_mid (P:=P) w g 0 ty cs (by rw[show cs.size=old.size from a_];exact f.FB) (by rw[hn];exact W.info) h1;simp only[d,j,i,Sem.run_bind,Sem.run_pure,l,Result.andThen_ok];exact p _ _ (h _ (aGm f a_) (iO g cs.toList 0 w).1 (iO g cs.toList 0 w).2)
end
theorem aLp{P:ed}{fn:Func}{R:Ending->jg}{n:Nat}{a:Act}{W:ae}{D:Nat}{v:ag}(hd:a.defers=[{ target:=.collected D,args:=#[] }])(b:W.heap[D]?=some (.deferred (some [])))
  (hr:(results fn a.tmps).run P (W.putObj D (.deferred none))=.ok v (W.putObj D (.deferred none))) (h:R (.returned v) (W.putObj D (.deferred none))):bodyPostM Fence.wide n P fn R .ret a W:=by
 show LeavesInM Fence.wide n P fn a.tmps R a.defers .returning W;rw[hd];refine⟨d_,.inl ⟨_,_,rfl,run_takeDeferred b,?_⟩⟩;exact⟨_,hr,h⟩
theorem bEw{w W:ae}{D:Nat}(o:Obj)(h:Ext w W)(a:w.heap.size<=D):Ext w (W.putObj D o):=h.grown (grownBy_putObj' W D o) (fun k e=>by cases e;exact a)
end
section
attribute [local go_sem] Oper.semAt_some
theorem bRa(A:Option uB)(n c:Nat)(w:ae) :
  lL prog 202 #[.slice A n c,.int .i64 64] w fun e a=>e=.returned (.func (.func 205) #[] #[.pointer (some ⟨w.heap.size,0,none⟩),.pointer (some ⟨w.heap.size+1,0,none⟩)]) /\
   (w.alloc (.cells #[.slice A n c] 74)).alloc (.cells #[.int .i64 64] 3)=a:=by
 go_enter func202,ntmps202
 go_wp2
 go_ret;exact⟨rfl,rfl⟩
theorem Oj(m k:Nat)(h:k<m):(aEy m).take (k+1)=(aEy m).take k++[⟨k,h⟩]:=by rw[lJ _ k (by simpa using h)];simp
theorem UZ(m:Nat):(aEy m).map Fin.val=yz m:=by apply aBR;simp;intro i b a;simp
theorem aZl(b o c m:Nat)(h j:Nat)(S:uy)(w:ae)(P:64*m<=1000000000)(hc:64*m<=c)(hs:¬S h)(hn:¬S j)
  (h1:w.cell? ⟨h,0,none⟩=some (.slice (some ⟨b,o,none⟩) (64*m) c)) (h2:w.cell? ⟨j,0,none⟩=some (.int .i64 64)) :
  SeqStopsK Fence.wide 2 prog 205 #[.pointer (some ⟨h,0,none⟩),.pointer (some ⟨j,0,none⟩)] (fun x:Fin m=>#[.slice (some ⟨b,o+64*x.val,none⟩) 64 64]) (I_ S) (fun D=>D=aEy m) (fun _=>True) m w:=by
 intro l J Z W C K I G L;have F:=(C.cell (p:=⟨h,0,none⟩) (lt_of_cell h1)).trans h1;have E:=(C.cell (p:=⟨j,0,none⟩) (lt_of_cell h2)).trans h2;clear h1 h2;refine callsIn_wide.2 ?_
 go_enter func205,ntmps205
 go_wp2
 go_loopw [4] (fun i wr=>∃ k:Nat,k<=m/\i=.int .i64 ((64*k:Nat):Int)/\Hid (J ((aEy m).take k) wr)/\wr.cell? ⟨h,0,none⟩=some (.slice (some ⟨b,o,none⟩) (64*m) c)/\wr.cell? ⟨j,0,none⟩=some (.int .i64 64)) (fun i _=>64*m-(intOf i).toNat)
 case atStart=>exact⟨0,x8 _,rfl,hide L,F,E⟩
 case round=>
  obtain⟨k,Q,rfl,B,O,N⟩:=hrel;by_cases d:k<m
  ·have X:¬64*k=c:=a_;have V:64*k<64*m:=a_;have U:64<=64*m-64*k:=a_
   go_wp2
   go_quiet (fail)
   go_upto_region 4 with fail
   have s:=K _ _ (wr.drewN nq) none (aA B) ⟨rfl,rfl,rfl,dE _,fun _ _ _=>rfl⟩ (fun r e=>by cases e);obtain⟨T,z,q,body,A,H⟩:=G ((aEy m).take k) ⟨k,d⟩ (wr.drewN nq) s l7;dsimp only at A;refine (wpIn_wide (n:=2)).1 ?_
   gi_wp2
   clear A;refine H.mono ?_;rintro e Y (⟨rfl,g,a⟩|⟨rfl,f⟩)
   ·have y:=a _ _ hs O;have u:=a _ _ hn N;have t:=hide g;clear g a
    gi_wp2
    go_wp2
    go_roundw
    case rel=>exact⟨k+1,a_,by go_num,hide (by rw[Oj m k d];exact aA t),y,u⟩
    case measure=>simp[intOf];omega
   ·gi_wp2
    go_wp2
    refine aAT (results_none rfl _ _ _) rfl ?_;exact⟨⟨_,rfl⟩,.inr ⟨_,trivial,f⟩⟩
  ·obtain rfl:k=m:=a_
   go_wp2
   go_end0
   exact⟨⟨_,rfl⟩,.inl ⟨_,rfl,by have:=aA B;rwa [WF d_] at this⟩⟩
end
section
theorem eu.far'{w:ae}{g:Nat}{t:bu}{cs:mg}(h:eu w g t cs){b:Nat}(hn:¬g=b)(i:Nat)(u:ag):eu (w.setCell ⟨b,i,none⟩ u) g t cs:=h.far hn u
theorem iQ(W:ae)(t:bu)(cs:mg){g:Nat}(b:g=W.heap.size){i:Nat}{v:ag}(a:cs[i]?=some v):(W.alloc (.cells cs t)).cell? ⟨g,i,none⟩=some v:=by rw[(eu.new' W t cs b).cell];exact a
theorem iZ(W:ae)(o:Obj){p:uB}{v:ag}(h:W.cell? p=some v):(W.alloc o).cell? p=some v:=Ext.jh ((Ext.refl W).alloc o) h
theorem aIR{W:ae}(o:Obj){p q r s u:uB}{a b c d e:ag}(h:W.cell? p=some a/\W.cell? q=some b/\W.cell? r=some c/\W.cell? s=some d/\W.cell? u=some e):(W.alloc o).cell? p=some a/\(W.alloc o).cell? q=some b/\(W.alloc o).cell? r=some c/\(W.alloc o).cell? s=some d/\(W.alloc o).cell? u=some e:=⟨iZ _ _ h.1,iZ _ _ h.2.1,iZ _ _ h.2.2.1,iZ _ _ h.2.2.2.1,iZ _ _ h.2.2.2.2⟩
theorem Yg{W:ae}(o:Obj){p q r:uB}{a b c:ag}(h:W.cell? p=some a/\W.cell? q=some b/\W.cell? r=some c):(W.alloc o).cell? p=some a/\(W.alloc o).cell? q=some b/\(W.alloc o).cell? r=some c:=⟨iZ _ _ h.1,iZ _ _ h.2.1,iZ _ _ h.2.2⟩
theorem aIQ{W:ae}(o:Obj){p q r:uB}{a b:ag}(h:W.cell? p=some a/\W.cell? q=some b/\W.cell? r=some (held W r)/\W.frozen? r=false):(W.alloc o).cell? p=some a/\(W.alloc o).cell? q=some b/\(W.alloc o).cell? r=some (held (W.alloc o) r)/\(W.alloc o).frozen? r=false:=⟨iZ _ _ h.1,iZ _ _ h.2.1,aJk (iZ _ _ h.2.2.1),Ext.uz ((Ext.refl W).alloc o) h.2.2.2 (lt_of_cell h.2.2.1)⟩
theorem Fb{W:ae}(u:ag){g i j k:Nat}{a b:ag}(d:i≠k)(c:j≠k)(h:W.cell? ⟨g,i,none⟩=some a/\W.cell? ⟨g,j,none⟩=some b/\W.cell? ⟨g,k,none⟩=some (held W ⟨g,k,none⟩)/\W.frozen? ⟨g,k,none⟩=false) :
  (W.setCell ⟨g,k,none⟩ u).cell? ⟨g,i,none⟩=some a/\(W.setCell ⟨g,k,none⟩ u).cell? ⟨g,j,none⟩=some b/\(W.setCell ⟨g,k,none⟩ u).cell? ⟨g,k,none⟩=some (held (W.setCell ⟨g,k,none⟩ u) ⟨g,k,none⟩)/\(W.setCell ⟨g,k,none⟩ u).frozen? ⟨g,k,none⟩=false:=by
 refine⟨?_,?_,aJk (aFb _ _ _ (by rw[h.2.2.1];rfl)),by rw[aJn];exact h.2.2.2⟩;rw[aJo (h:=by intro e;cases e;exact d rfl)];exact h.1;rw[aJo (h:=by intro e;cases e;exact c rfl)];exact h.2.1
section
variable {P:ed}
theorem aBu{T a:bu}{len:Nat}(c:P.underlying T=some (.array len a))(d:P.plainKey a=true){inf:TypeInfo}(f:P.info? a=some inf)(h1:P.cellsOf a=1)
  {cs:mg} {k:Nat} (e:k<len) {v:ag} (b:cs[k]?=some v) (w:ae):(Instr.index T (.agg cs) (.int .i64 (k:Int))).run P w=.ok v w:=by
 have g:(0:Int)<=(k:Int)/\(k:Int)<(len:Int):=a_;simp[Instr.index,asIntOf,Ha c,run_sizeOf (w:=w) f,h1,e,run_part_plain w d b]
theorem sH{ops:Array ik}{rest:List ik}{o:ik}{a:Act}{w:ae}{Q:uk->Act->jg}(b:o.guard=none){ty:bu}{x:uA}(f:o.op=.load ty x){n:Nat}(W:zk P ty n)
  {g:Nat} (c:a.eval x=.pointer (some ⟨g,0,none⟩)) {cs:jl} {arr:mg} (l:w.rangeAt g 0 cs) (hn:cs.length=n) (j:cs.toArray=arr) (h:aBj P ops Q rest (a.put o.dst (.agg arr)) w):aBj P ops Q (o::rest) a w:=
 wpList_plain b fun _ k=>by obtain⟨d,e,i⟩:=W.und;refine wp_load_mid ty x f g 0 c cs d l e i (by rw[hn];exact W.info) ?_;rw[j];exact k _ _ h
theorem kK{w:ae}{b:Nat}{t:bu}{cs:mg}(e:eu w b t cs){T:bu}{n:Nat}(W:zk P T n)(hn:cs.size=n):(loadVar T ⟨b,0,none⟩).run P w=.ok (.agg cs) w:=by obtain⟨d,a,c⟩:=W.und;have:=run_loadVar_mid (P:=P) w b 0 T cs.toList d e.range a c (by rw[nz,hn];exact W.info);rw[aEK] at this;exact this
theorem dQ{fn:Func}{i:Tmp}{T:bu}{n:Nat}(W:zk P T n)(d:fn.results=#[.cell i T]){a:mg}{w:ae}{b:Nat}{t:bu}{cs:mg}(e:eu w b t cs)(hn:cs.size=n)(c:a.getD i dC=.pointer (some ⟨b,0,none⟩)) :
  (results fn a).run P w=.ok (.agg cs) w:=by
 have f:=kK e W hn;simp only[Array.getD_eq_getD_getElem?] at c;simp[results,d,c,asAddr,f]
theorem Reads.sub{w:ae}{v:ag}{n:Nat}{xs:jl}(h:Reads w 1 v n xs)(i m:Nat)(x:i+m<=n)(s:0<m) :
  ∃ b o c,v=.slice (some ⟨b,o,none⟩) n c/\n<=c/\c<=uu/\b<w.heap.size/\Reads w 1 (.slice (some ⟨b,o+i,none⟩) m (c-i)) m ((xs.drop i).take m):=by
 obtain⟨b,o,c,u,rfl,q,p,l,_,_⟩:=h.Ef (k:=0) a_;have t:=h.1;refine⟨b,o,c,rfl,q,p,l,l7,_,_,rfl,a_,a_,fun _=>⟨b,o+i,rfl,fun j u a=>?_⟩⟩;have d:j<m:=by rcases aAW j m with h|h;exact h;rw[PR l7] at a;cases a
 rw[yf,au d,aAk] at a;obtain⟨_,A,y,e,_,_,g⟩:=h;cases e;obtain⟨z,r,e,f⟩:=g a_;cases e;rw[aBH];exact f _ _ a
theorem Reads.cap{w:ae}{A:Option uB}{n c a:Nat}{xs:jl}(h:Reads w 1 (.slice A n c) n xs)(h1:n<=a)(h2:a<=uu):Reads w 1 (.slice A n a) n xs:=by obtain⟨b,g,f,e,_,_,d⟩:=h;cases e;exact⟨b,A,a,rfl,h1,h2,d⟩
theorem Reads.zf{w:ae}{g:Nat}{t:bu}{cs:mg}(h:eu w g t cs){i n c:Nat}(e:i+n<=cs.size)(hc:n<=c)(b:c<=uu) :
  Reads w 1 (.slice (some ⟨g,i,none⟩) n c) n ((cs.toList.drop i).take n):=by
 refine⟨l7,_,_,rfl,hc,b,fun _=>⟨g,i,rfl,fun j u a=>?_⟩⟩;have d:j<n:=by rcases aAW j n with h|h;exact h;rw[PR l7] at a;cases a
 rw[yf,au d,aAk] at a;rw[h.cell,<-a];simp
end
end
section
def iI(n:Nat)(l:List UInt32):mg:=(l.map w32++Pi (n-l.length) (gp .u32 0)).toArray
theorem lC{n:Nat}{l:List UInt32}{i:Nat}(h:i<l.length):(iI n l)[i]?=some (.int .u32 ((l.getD i 0).toNat:Int)):=by unfold iI;rw[aBU,aBD (by simpa using h),aAg,zG,zH h];rfl
theorem aVs{n:Nat}{l:List UInt32}(x:UInt32)(h:l.length<n):(iI n l).setIfInBounds l.length (.int .u32 (x.toNat:Int))=iI n (l++[x]):=by unfold iI;rw[show n-l.length=(n-(l++[x]).length)+1 from l7,aJv];simp[w32]
theorem wZ{n k:Nat}{l:List UInt32}(x:UInt32)(hl:l.length=k)(h:k<n):(iI n l).setIfInBounds k (.int .u32 (x.toNat:Int))=iI n (l++[x]):=by subst hl;exact aVs x h
theorem aQs(n:Nat):iI n []=DD n (gp .u32 0):=by unfold iI;simp
theorem aEd{n:Nat}{l:List UInt32}(h:l.length<=n):(iI n l).size=n:=by unfold iI;simp;omega
theorem bHk:zk prog 269 64:=⟨⟨_,underlying269,rfl⟩,ai⟩
theorem kQ:zk prog 263 8:=⟨⟨_,underlying263,rfl⟩,ai⟩
structure af(w:ae):Prop where
 k:w.rangeAt 2 0 (Aj.map w32)
 h:w.rangeAt 0 0 (oW.map w32)
theorem rG{S:uy}{w w':ae}{b:Nat}{cs:jl}(h:w.rangeAt b 0 cs)(hc:gq S w w')(hn:¬S b):w'.rangeAt b 0 cs:=fun j v a=>gq.jh hc (h j v a) hn
theorem af.iw{S:uy}{w w':ae}(h:af w)(hc:gq S w w')(h1:¬S 2)(h2:¬S 0):af w':=⟨rG h.k hc h1,rG h.h hc h2⟩
theorem af.ext{w w':ae}(h:af w)(hc:Ext w w'):af w':=h.iw hc (fun h=>h) (fun h=>h)
theorem Vr(x:UInt32)(n0 a:Nat)(g:Nat)(w:ae)(h0:w.cell? ⟨g,0,none⟩=some (.int .i64 (n0:Int)))(h1:w.cell? ⟨g,1,none⟩=some (.int .i64 (a:Int)))(hn:(0<n0/\n0<32)/\0<a/\a<32) :
  lL prog 204 #[.int .u32 (x.toNat:Int),.slice (some ⟨g,0,none⟩) 2 2] w fun e c=>e=.returned (.int .u32 ((iG x (aBA n0) ^^^ iG x (aBA a)).toNat:Int))/\w=c:=by
 have:=bAr x [n0,a] (.slice (some ⟨g,0,none⟩) 2 2) w ⟨rfl,_,_,rfl,dE _,by unfold uu;omega,fun _=>⟨g,0,rfl,fun j u b=>?_⟩⟩ l7;simpa[xQ] using this
 match j,b with
 |0,b=>cases b;exact h0|1,b=>cases b;exact h1
theorem Vq(x:UInt32)(n0 b n2:Nat)(g:Nat)(w:ae)(h0:w.cell? ⟨g,0,none⟩=some (.int .i64 (n0:Int)))(h1:w.cell? ⟨g,1,none⟩=some (.int .i64 (b:Int)))(h2:w.cell? ⟨g,2,none⟩=some (.int .i64 (n2:Int)))(hn:(0<n0/\n0<32)/\(0<b/\b<32)/\0<n2/\n2<32) :
  lL prog 204 #[.int .u32 (x.toNat:Int),.slice (some ⟨g,0,none⟩) 3 3] w fun e c=>e=.returned (.int .u32 ((iG x (aBA n0) ^^^ iG x (aBA b) ^^^ iG x (aBA n2)).toNat:Int))/\w=c:=by
 have:=bAr x [n0,b,n2] (.slice (some ⟨g,0,none⟩) 3 3) w ⟨rfl,_,_,rfl,dE _,by unfold uu;omega,fun _=>⟨g,0,rfl,fun j u a=>?_⟩⟩ l7;simpa[xQ] using this
 match j,a with
 |0,a=>cases a;exact h0|1,a=>cases a;exact h1|2,a=>cases a;exact h2
def rr2(x a b:UInt32):UInt32:=iG x a ^^^ iG x b
def rr3(x a b c:UInt32):UInt32:=iG x a ^^^ iG x b ^^^ iG x c
theorem bKb(x:UInt32)(g:Nat)(w:ae)(h0:w.cell? ⟨g,0,none⟩=some (.int .i64 7))(h1:w.cell? ⟨g,1,none⟩=some (.int .i64 18)) :
  lL prog 204 #[.int .u32 (x.toNat:Int),.slice (some ⟨g,0,none⟩) 2 2] w fun e a=>e=.returned (.int .u32 ((rr2 x 7 18).toNat:Int))/\w=a:=
 Vr x 7 18 g w h0 h1 a_
theorem bEd(x:UInt32)(g:Nat)(w:ae)(h0:w.cell? ⟨g,0,none⟩=some (.int .i64 17))(h1:w.cell? ⟨g,1,none⟩=some (.int .i64 19)) :
  lL prog 204 #[.int .u32 (x.toNat:Int),.slice (some ⟨g,0,none⟩) 2 2] w fun e a=>e=.returned (.int .u32 ((rr2 x 17 19).toNat:Int))/\w=a:=
 Vr x 17 19 g w h0 h1 a_
theorem aRz(x:UInt32)(g:Nat)(w:ae)(h0:w.cell? ⟨g,0,none⟩=some (.int .i64 6))(h1:w.cell? ⟨g,1,none⟩=some (.int .i64 11))(h2:w.cell? ⟨g,2,none⟩=some (.int .i64 25)) :
  lL prog 204 #[.int .u32 (x.toNat:Int),.slice (some ⟨g,0,none⟩) 3 3] w fun e a=>e=.returned (.int .u32 ((rr3 x 6 11 25).toNat:Int))/\w=a:=
 Vq x 6 11 25 g w h0 h1 h2 a_
theorem aSa(x:UInt32)(g:Nat)(w:ae)(h0:w.cell? ⟨g,0,none⟩=some (.int .i64 2))(h1:w.cell? ⟨g,1,none⟩=some (.int .i64 13))(h2:w.cell? ⟨g,2,none⟩=some (.int .i64 22)) :
  lL prog 204 #[.int .u32 (x.toNat:Int),.slice (some ⟨g,0,none⟩) 3 3] w fun e a=>e=.returned (.int .u32 ((rr3 x 2 13 22).toNat:Int))/\w=a:=
 Vq x 2 13 22 g w h0 h1 h2 a_
theorem bJo(f i c e b a:UInt32):((((f.toNat:Int)+bits BinOp.xor yl (i.toNat:Int) ((c.toNat:Int) / (8:Int))) % (4294967296:Int)+(e.toNat:Int)) % (4294967296:Int)+bits BinOp.xor yl (b.toNat:Int) ((a.toNat:Int) / (1024:Int))) % (4294967296:Int) =
  ((f+(i ^^^ (c >>> 3))+e+(b ^^^ (a >>> 10))).toNat:Int):=by
 have j:=bJl c 3 a_;have d:=bJl a 10 a_;rw[show (8:Int)=2 ^ 3 from rfl,show (1024:Int)=2 ^ 10 from rfl,j,d,zT,zT,add32,add32,add32];rfl
theorem aFQ(d r a f e c b:UInt32):IntKind.wrap .u32 (IntKind.wrap .u32 (IntKind.wrap .u32 (IntKind.wrap .u32 ((d.toNat:Int)+(r.toNat:Int))+bits BinOp.xor yl (bits BinOp.and yl (a.toNat:Int) (f.toNat:Int)) (bits BinOp.and yl (bits BinOp.xor yl IntKind.u32.max (a.toNat:Int)) (e.toNat:Int)))+(c.toNat:Int))+(b.toNat:Int)) =
  ((d+r+((a &&& f) ^^^ (~~~a &&& e))+c+b).toNat:Int):=by
 rw[W_,Qo,Qo,zT,QM,QM,QM,QM]
theorem aFO(r c b a:UInt32):IntKind.wrap .u32 ((r.toNat:Int)+bits BinOp.xor yl (bits BinOp.xor yl (bits BinOp.and yl (c.toNat:Int) (b.toNat:Int)) (bits BinOp.and yl (c.toNat:Int) (a.toNat:Int))) (bits BinOp.and yl (b.toNat:Int) (a.toNat:Int))) =
  ((r+(((c &&& b) ^^^ (c &&& a)) ^^^ (b &&& a))).toNat:Int):=by
 rw[Qo,Qo,Qo,zT,zT,QM]
def bDd(w:ae)(hc:mg)(b:di)(k:Nat)(wr:ae):Prop:=eu wr w.heap.size 263 hc/\(∃ a,eu wr (w.heap.size+1) 263 a/\a.size=8)/\eu wr (w.heap.size+1+1) 269 (iI 64 (dO b k))/\Ext w wr
theorem bDd.step{w wr a:ae}{hc:mg}{b:di}{k:Nat}(h:bDd w hc b k wr)(c:Ext wr a)(n:k<64){x:UInt32}(m:(if k<16 then sV ((b.drop (4*k)).take 4) else xK (dO b k))=x) :
  bDd w hc b (k+1) (a.setCell ⟨w.heap.size+1+1,k,none⟩ (.int .u32 (x.toNat:Int))):=by
 obtain⟨j,⟨l,e,d⟩,i,f⟩:=h;refine⟨(j.ext c).far' a_ _ _,⟨l,(e.ext c).far' a_ _ _,d⟩,?_,(f.trans c).setCell l7 _⟩;have:=(i.ext c).zq k (.int .u32 (x.toNat:Int));rw[wZ x (iY b k) n] at this;rw[dO,m];exact this
def bSf(w:ae)(hc:mg)(h:List UInt32)(b:di)(g k:Nat)(wr:ae):Prop:=eu wr w.heap.size 263 hc/\(∃ a,eu wr (w.heap.size+1) 263 a/\a.size=8)/\eu wr (w.heap.size+1+1) 269 (iI 64 (sched b))/\eu wr g 263 (iI 8 (bM b h k))/\Ext w wr/\w.heap.size+1+1<g
theorem nP{n:Nat}{l:List UInt32}(h:l.length=n):iI n l=(l.map w32).toArray:=by unfold iI;rw[h,aBa];simp
theorem X3{k:Nat}(h:k<64):((Aj.map w32).toArray)[k]?=some (.int .u32 ((Aj.getD k 0).toNat:Int)):=by have:=lC (n:=64) (l:=Aj) (i:=k) h;rwa [nP (show Aj.length=64 from rfl)] at this
theorem aBl(l:List UInt32):((l.map w32).toArray).all (·.oneCell')=true:=by rw[<-aCS];simp[w32];intro x _;rfl
def zX(R h:List UInt32)(k:Nat):List UInt32:=(aCK (·+·) R h).take k++R.drop k
def tC(w:ae)(hc:mg)(h R:List UInt32)(g k:Nat)(wr:ae):Prop:=eu wr w.heap.size 263 hc/\(∃ a,eu wr (w.heap.size+1) 263 a/\a.size=8)/\eu wr g 263 (iI 8 (zX R h k))/\Ext w wr/\w.heap.size+1+1<g
theorem yJ{R h:List UInt32}(c:R.length=8)(b:h.length=8){k:Nat}(a:k<=8):(zX R h k).length=8:=by unfold zX;simp;omega
theorem tC.start{w wr:ae}{hc:mg}{h:List UInt32}{a:di}{g:Nat}(i:bSf w hc h a g 64 wr):tC w hc h (bM a h 64) g 0 wr:=by obtain⟨f,e,_,d,c,b⟩:=i;exact⟨f,e,d,c,b⟩
section
variable {w wr:ae} {hc:mg} {h R:List UInt32} {g k:Nat}
theorem tC.new(b:tC w hc h R g k wr)(d:R.length=8)(c:h.length=8)(a:k<8):wr.cell? ⟨g,k,none⟩=some (.int .u32 ((R.getD k 0).toNat:Int)):=by
 rw[b.2.2.1.cell,lC (by rw[yJ d c a_];exact a)];have:(zX R h k).getD k 0=R.getD k 0:=by unfold zX;rw[zG,zG,aBi l7];simp;rw[show k+(k-min k (min R.length h.length))=k from a_]
 rw[this]
theorem tC.old(a:tC w hc h R g k wr)(c:(h.map w32).toArray=hc)(b:h.length=8)(d:k<8):wr.cell? ⟨w.heap.size,k,none⟩=some (.int .u32 ((h.getD k 0).toNat:Int)):=by rw[a.1.cell,<-c,<-nP b,lC a_]
theorem tC.step(p:tC w hc h R g k wr){a:ae}(b:Ext wr a)(d:R.length=8)(c:h.length=8)(r:k<8):tC w hc h R g (k+1) (a.setCell ⟨g,k,none⟩ (.int .u32 ((R.getD k 0+h.getD k 0).toNat:Int))):=by
 obtain⟨n,⟨o,j,i⟩,m,l,f⟩:=p;refine⟨(n.ext b).far' a_ _ _,⟨o,(j.ext b).far' a_ _ _,i⟩,?_,(l.trans b).setCell l7 _,f⟩;have:=(m.ext b).zq k (.int .u32 ((R.getD k 0+h.getD k 0).toNat:Int))
 have e:(iI 8 (zX R h k)).setIfInBounds k (.int .u32 ((R.getD k 0+h.getD k 0).toNat:Int))=iI 8 (zX R h (k+1)):=by
  rw[nP (yJ d c a_),nP (yJ d c a_)];apply Array.ext';rw[aFK];dsimp only;have q:zX R h (k+1)=(zX R h k).set k (R.getD k 0+h.getD k 0):=by unfold zX;rw[lJ _ k l7,List.set_append_right _ _ l7];rw[show k-((aCK (·+·) R h).take k).length=0 from l7];rw[List.drop_eq_getElem_cons (show k<R.length by omega)];rw[List.set_cons_zero,GM,zG,zG,zH (show k<R.length by omega),zH (show k<h.length by omega),List.getElem_zipWith];rfl
  rw[q,aFc];rfl
 rw[e] at this;exact this
theorem tC.drew(j:tC w hc h R g k wr):tC w hc h R g k wr.drew:=by obtain⟨f,⟨i,c,b⟩,e,d,a⟩:=j;exact⟨f.drew,⟨i,c.drew,b⟩,e.drew,d.drew,a⟩
theorem bOv(b:R.length=8)(a:h.length=8):zX R h 8=aCK (·+·) R h:=by unfold zX;rw[WF l7,aCV a_,AC]
end
end
section
theorem aUt (h:List UInt32) (a:di) (v:ag) (w:ae) (hM:af w) (hh:h.length=8) (hb:a.length=64) (hr:Reads w 1 v 64 (a.map j_)) :
    lL prog 201 #[.agg (h.map w32).toArray,v] w fun e c=>e=.returned (.agg ((nM h a).map w32).toArray)/\Ext w c:=by
  have HM:=hide hM;have HR:=hide hr;obtain⟨b0,o0,c0,rfl,d6,d3,e2,_⟩:=hr.sub 0 64 a_ a_;unfold uu at d3;clear hM hr;have s:=hide hh;have HB:=hide hb;clear hh hb;generalize a4:(h.map w32).toArray=D;have HC:=hide a4;clear a4
  go_enter func201,ntmps201
  go_wp2
  go_loopw [15] (fun i wr=>∃ k:Nat,k<=64/\i=.int .i64 k/\Hid (bDd w D a k wr)) (fun i _=>64-(intOf i).toNat)
  case atStart=>refine⟨0,x8 _,rfl,hide ⟨((eu.new w _ D).alloc _).alloc _,⟨_,(eu.new' _ _ _ d_).alloc _,rfl⟩,?_,(((Ext.refl w).alloc _).alloc _).alloc _⟩⟩;have:=eu.new' ((w.alloc (Obj.cells D 263)).alloc (Obj.cells #[gp yl 0,gp yl 0,gp yl 0,gp yl 0,gp yl 0,gp yl 0,gp yl 0,gp yl 0] 263)) 269 (iI 64 (dO a 0)) (g:=w.heap.size+1+1) d_;rw[show iI 64 (dO a 0)=DD 64 (gp .u32 0) from aQs 64] at this ⊢;exact this
  case round=>
    obtain⟨k,P,rfl,A⟩:=hrel;by_cases b:k<64
    ·
      have hL:=iY a k;obtain⟨old,Z⟩:∃ old,wr.cell? ⟨w.heap.size+1+1,k,none⟩=some old:=by rw[(aA A).2.2.1.cell];exact⟨_,aCF (by rw[aEd a_];exact b)⟩
      have d2:=(aA A).2.2.1.frozen k;by_cases a9:k<16
      ·
        have d1:4*k+4<=64:=a_;obtain⟨b1,o1,c1,e,_,_,_,C⟩:=((aA HR).ext (aA A).2.2.2).sub (4*k) 4 d1 a_;cases e;have o:=hide C;clear C;have HL:=hide (show ((a.drop (4*k)).take 4).length=4 from by have:=aA HB;simp;omega)
        go_wp2_with fail
        refine (NT ((a.drop (4*k)).take 4) _ _ ?hl).mono ?_
        case hl=>rw[aA HL,aEA,List.map_drop];exact aA o
        rintro e w1 ⟨rfl,rfl⟩;clear o;generalize hx:sV ((a.drop (4*k)).take 4)=x;have m:=hide hx;clear hx
        go_wp2
        go_roundw
        case rel=>exact⟨k+1,a_,by go_num,hide ((aA A).step (Ext.refl _) b (by rw[au a9,aA m]))⟩
        case measure=>simp[intOf];omega
      ·
        obtain⟨j,rfl⟩:∃ j,k=j+16:=⟨k-16,a_⟩;have cx:∀ i,i<j+16->wr.cell? ⟨w.heap.size+1+1,i,none⟩=some (.int .u32 (((dO a (j+16)).getD i 0).toNat:Int)):=fun i hi=>by rw[(aA A).2.2.1.cell];exact lC a_
        have HN:=hide (show xK (dO a (j+16))=(dO a (j+16)).getD j 0+((iG ((dO a (j+16)).getD (j+1) 0) 7 ^^^ iG ((dO a (j+16)).getD (j+1) 0) 18) ^^^ ((dO a (j+16)).getD (j+1) 0 >>> 3))+(dO a (j+16)).getD (j+9) 0 +
            ((iG ((dO a (j+16)).getD (j+14) 0) 17 ^^^ iG ((dO a (j+16)).getD (j+14) 0) 19) ^^^ ((dO a (j+16)).getD (j+14) 0 >>> 10)) from by
          unfold xK
          simp only[hL,show j+16-15=j+1 from a_,show j+16-2=j+14 from a_,show j+16-16=j from a_,show j+16-7=j+9 from a_])
        have d5:=cx j a_;have c1:=cx (j+1) a_;have c9:=cx (j+9) a_;have b6:=cx (j+14) a_;clear cx;generalize (dO a (j+16)).getD j 0=B at *;generalize (dO a (j+16)).getD (j+1) 0=x1 at *;generalize (dO a (j+16)).getD (j+9) 0=x9 at *;generalize (dO a (j+16)).getD (j+14) 0=d7 at *;have d4:decide ((j:Int)+16<16)=false:=su a_;have G:decide ((j:Int)+16<64)=true:=mi a_;have hj:j<48:=a_;clear a9 P b
        go_upto_region 7 with fail
        have c7:(((j+16:Nat):Int)-15)=((j+1:Nat):Int):=a_;have i2:(((j+16:Nat):Int)-2)=((j+14:Nat):Int):=a_
        go_quiet (fail)
        go_upto_region 8 with fail
        have e1:IntKind.wrap .i64 (((j+16:Nat):Int)-16)=(j:Int):=(IntWalk.i64_in _ a_).trans a_;have i7:IntKind.wrap .i64 (((j+16:Nat):Int)-7)=((j+9:Nat):Int):=(IntWalk.i64_in _ a_).trans a_;have e0:IntKind.wrap .i64 ((j:Int)+16-7)=(j:Int)+9:=(IntWalk.i64_in _ a_).trans a_;have i9:IntKind.wrap .i64 ((j:Int)+9)=(j:Int)+9:=IntWalk.i64_in _ a_;have i0:IntKind.wrap .i64 (j:Int)=(j:Int):=IntWalk.i64_in _ a_;have b0:(0:Int)<=(j:Int)+9/\(j:Int)+9<64/\(j:Int)<64/\(j:Int)+16<64/\(0:Int)<=(j:Int)+16:=a_;obtain⟨b1,b2,b3,b4,b5⟩:=b0;have t9:((j:Int)+9).toNat=j+9:=a_;have d9:((j:Int)+16).toNat=j+16:=a_;have r:=hide (az c1 b6);clear c1 b6 c7 i2 d4 G
        go_region_held3 (fun c=>c.cell? ⟨w.heap.size+1+1,j,none⟩=some (.int .u32 (B.toNat:Int))/\c.cell? ⟨w.heap.size+1+1,j+9,none⟩=some (.int .u32 (x9.toNat:Int))/\c.cell? ⟨w.heap.size+1+1,j+16,none⟩=some (held c ⟨w.heap.size+1+1,j+16,none⟩)/\c.frozen? ⟨w.heap.size+1+1,j+16,none⟩=false) (first|exact⟨d5,c9,aJk Z,d2⟩|exact aIQ _ qm|exact Fb _ a_ a_ qm|assumption)
          (first
            |(go_at_call 204;refine (bKb _ _ _ ?_ ?_).mono ?_;(first|(refine iQ _ _ _ ?_ ?_;(focus (simp;done));(focus rfl))|(refine iZ _ _ (iQ _ _ _ ?_ ?_);(focus (simp;done));(focus rfl)));(first|(refine iQ _ _ _ ?_ ?_;(focus (simp;done));(focus rfl))|(refine iZ _ _ (iQ _ _ _ ?_ ?_);(focus (simp;done));(focus rfl)));rintro e c ⟨rfl,rfl⟩)
            |(go_at_call 204;refine (bEd _ _ _ ?_ ?_).mono ?_;(first|(refine iQ _ _ _ ?_ ?_;(focus (simp;done));(focus rfl))|(refine iZ _ _ (iQ _ _ _ ?_ ?_);(focus (simp;done));(focus rfl)));(first|(refine iQ _ _ _ ?_ ?_;(focus (simp;done));(focus rfl))|(refine iZ _ _ (iQ _ _ _ ?_ ?_);(focus (simp;done));(focus rfl)));rintro e c ⟨rfl,rfl⟩))
        all_goals
          go_wp2
          go_roundw
          case rel=>rw[bJo];exact⟨j+16+1,a_,by go_num,hide ((aA A).step ((((Ext.refl wr).drewN _).alloc _).alloc _) a_ (by rw[ah a_];exact aA HN))⟩
          case measure=>simp[intOf];omega
    ·
      obtain rfl : k=64:=a_;clear P b;obtain⟨d,rfl⟩:∃ d:ae,d=wr:=⟨_,rfl⟩;obtain⟨kc,a0⟩:=jc ((Aj.map w32).toArray);have b9:=hide a0;clear a0;have H8:=hide (show D.size=8/\D.all (·.oneCell')=true from by rw[<-aA HC];exact⟨by simpa using aA s,aBl h⟩);have H:=hide ((aA HM).ext (aA A).2.2.2).k
      go_wp2_with (first
        |(refine fO (ty:=263) (t:=263) (x:=.tmp 2) rfl rfl kQ rfl (aA A).1 (aA H8).1 ?_)
        | (
         refine aT (ty:=263) (t:=263) (x:=.tmp 9) (y:=.tmp 64) rfl rfl kQ rfl rfl (eu.new _ _ _) rfl (aA H8).1 (aA H8).2 ?_;intro w2 a8 a6 Y;have o:=hide (az a8 a6);have d0:d.heap.size<w2.heap.size:=by rw[Y];simp
         clear a8 a6 Y)
        | (
         refine sH (ty:=269) (x:=.global 2) rfl rfl bHk rfl (arr:=kc) (cs:=Aj.map w32) ?_ rfl (aA b9) ?_
         exact rG (rG (aA H) ((Ext.refl d).alloc _) (fun h=>h)) (aA o).2 (fun e=>by have:=lt_of_cell ((aA H) 0 _ rfl);simp at e this;omega)))
      have u:=hide (show Ext d w2 from ((Ext.refl d).alloc (.cells #[gp yl 0,gp yl 0,gp yl 0,gp yl 0,gp yl 0,gp yl 0,gp yl 0,gp yl 0] 263)).trans' (aA o).2 (fun _ _ h=>h) (fun i hi e=>a_))
      have f:=hide (show bSf w D h a d.heap.size 0 w2 from by
        obtain⟨X,⟨o8,O,N⟩,E,V⟩:=aA A;refine⟨X.ext (aA u),⟨o8,O.ext (aA u),N⟩,E.ext (aA u),?_,V.trans (aA u),E.lt⟩;rw[bM,nP (aA s),aA HC]
        exact (aA o).1)
      clear o u H d0
      go_loopw [66] (fun i wr=>∃ k:Nat,k<=64/\i=.int .i64 k/\Hid (bSf w D h a d.heap.size k wr)) (fun i _=>64-(intOf i).toNat)
      case atStart=>exact⟨0,x8 _,rfl,f⟩
      case round=>
        clear f;obtain⟨k,P,rfl,f⟩:=hrel;by_cases b:k<64
        · have z:∀ i,i<8->wr.cell? ⟨d.heap.size,i,none⟩=some (.int .u32 (((bM a h k).getD i 0).toNat:Int)):=fun i hi=>by
            rw[(aA f).2.2.2.1.cell];exact lC (by rw[lV _ _ (aA s)];exact hi)
          have cw:wr.cell? ⟨w.heap.size+1+1,k,none⟩=some (.int .u32 (((sched a).getD k 0).toNat:Int)):=by rw[(aA f).2.2.1.cell];exact lC (by unfold sched;rw[iY];exact b)
          have a3:∀ W,(Instr.index 269 (.agg kc) (.int .i64 (k:Int))).run prog W=.ok (.int .u32 ((Aj.getD k 0).toNat:Int)) W:=fun W=>aBu (inf:=_) underlying269 ai rfl ai b (by rw[<-aA b9];exact X3 b) W;have HN:=hide (show bM a h (k+1)=aBs (bM a h k) (Aj.getD k 0) ((sched a).getD k 0) from rfl);have L:=z 0 a_;have K:=z 1 a_;have J:=z 2 a_;have v3:=z 3 a_;have v4:=z 4 a_;have v5:=z 5 a_;have v6:=z 6 a_;have v7:=z 7 a_;clear z;unfold aBs at HN;generalize (bM a h k).getD 0 0=B at *;generalize (bM a h k).getD 1 0=x1 at *;generalize (bM a h k).getD 2 0=x2 at *;generalize (bM a h k).getD 3 0=x3 at *;generalize (bM a h k).getD 4 0=I at *;generalize (bM a h k).getD 5 0=x5 at *;generalize (bM a h k).getD 6 0=x6 at *;generalize (bM a h k).getD 7 0=x7 at *;generalize (sched a).getD k 0=xw at *;generalize Aj.getD k 0=xk at *;have G:decide ((k:Int)<64)=true:=mi a_;have e3:(k:Int)<64:=a_;have r:=hide (az L (az K (az J (az v3 (az v4 (az v5 v6))))));clear L K J v3
          go_upto_region 14 with fail
          have t1:(0:Int)<=(k:Int):=a_;clear a3 G
          go_cut [12] (fun c5 wx=>∃ T:UInt32,c5=.int .u32 (T.toNat:Int)/\Hid (T=x7+(iG I 6 ^^^ iG I 11 ^^^ iG I 25)+((I &&& x5) ^^^ (~~~I &&& x6))+xk+xw/\Ext wr wx))
          case first=>
            go_region_held3 (fun c=>c.cell? ⟨d.heap.size,7,none⟩=some (.int .u32 (x7.toNat:Int))/\c.cell? ⟨d.heap.size,4,none⟩=some (.int .u32 (I.toNat:Int))/\c.cell? ⟨d.heap.size,5,none⟩=some (.int .u32 (x5.toNat:Int))/\c.cell? ⟨d.heap.size,6,none⟩=some (.int .u32 (x6.toNat:Int))/\c.cell? ⟨w.heap.size+1+1,k,none⟩=some (.int .u32 (xw.toNat:Int))) (first|exact⟨v7,v4,v5,v6,cw⟩|exact aIR _ qm|assumption)
              (first
                |(go_at_call 204;refine (aRz _ _ _ ?_ ?_ ?_).mono ?_;(refine iQ _ _ _ ?_ ?_;(focus (simp;done));(focus rfl));(refine iQ _ _ _ ?_ ?_;(focus (simp;done));(focus rfl));(refine iQ _ _ _ ?_ ?_;(focus (simp;done));(focus rfl));rintro e c ⟨rfl,rfl⟩))
            all_goals (go_wp2_with fail;go_meet)
            all_goals
              rw[aFQ];exact⟨_,rfl,hide ⟨rfl,((Ext.refl wr).alloc _).drew⟩⟩
          case rest=>
            obtain⟨T,rfl,S⟩:=hcut;obtain⟨wp,rfl⟩:∃ wp:ae,wp=wc:=⟨_,rfl⟩;clear v7 v4 v5 v6 cw;have HP:=hide (az (aA f) (aA S).2);have L:=Ext.jh (aA S).2 (aA r).1;have K:=Ext.jh (aA S).2 (aA r).2.1;have J:=Ext.jh (aA S).2 (aA r).2.2.1
            go_upto_region 15 with fail
            go_cut [13] (fun c4 wx=>∃ U:UInt32,c4=.int .u32 (U.toNat:Int)/\Hid (U=(iG B 2 ^^^ iG B 13 ^^^ iG B 22)+(((B &&& x1) ^^^ (B &&& x2)) ^^^ (x1 &&& x2))/\Ext wp wx))
            case first=>
              go_region_held3 (fun c=>c.cell? ⟨d.heap.size,0,none⟩=some (.int .u32 (B.toNat:Int))/\c.cell? ⟨d.heap.size,1,none⟩=some (.int .u32 (x1.toNat:Int))/\c.cell? ⟨d.heap.size,2,none⟩=some (.int .u32 (x2.toNat:Int))) (first|exact⟨L,K,J⟩|exact Yg _ qm|assumption)
                (first
                  |(go_at_call 204;refine (aSa _ _ _ ?_ ?_ ?_).mono ?_;(refine iQ _ _ _ ?_ ?_;(focus (simp;done));(focus rfl));(refine iQ _ _ _ ?_ ?_;(focus (simp;done));(focus rfl));(refine iQ _ _ _ ?_ ?_;(focus (simp;done));(focus rfl));rintro e c ⟨rfl,rfl⟩))
              all_goals (go_wp2_with fail;go_meet)
              all_goals
                rw[aFO];exact⟨_,rfl,hide ⟨rfl,((Ext.refl wp).alloc _).drew⟩⟩
            case rest=>
              obtain⟨U,rfl,HU⟩:=hcut;have m:=hide ((aA S).2.trans (aA HU).2);clear L K J;have L:=Ext.jh (aA m) (aA r).1;have K:=Ext.jh (aA m) (aA r).2.1;have J:=Ext.jh (aA m) (aA r).2.2.1;have v3:=Ext.jh (aA m) (aA r).2.2.2.1;have v4:=Ext.jh (aA m) (aA r).2.2.2.2.1;have v5:=Ext.jh (aA m) (aA r).2.2.2.2.2.1;have v6:=Ext.jh (aA m) (aA r).2.2.2.2.2.2;have a1:((T.toNat:Int)+(U.toNat:Int)) % 4294967296=((T+U).toNat:Int):=add32 T U;have a2:((x3.toNat:Int)+(T.toNat:Int)) % 4294967296=((x3+T).toNat:Int):=add32 x3 T;have HA:=hide (az a1 a2);clear a1 a2;have Q:=hide (aEd (n:=8) (show (bM a h k).length<=8 from by rw[lV _ _ (aA s)];omega))
              go_wp2_with (refine aT (ty:=263) (t:=263) (x:=.tmp 9) (y:=.tmp 137) rfl rfl kQ rfl rfl ((aA f).2.2.2.1.ext (aA m)) (aA Q) ?_ ?_ ?_;(focus rfl);(focus (rw[<-aCS];rfl));intro w5 p l F;have o:=hide (az p (az l F));clear p l F)
              go_roundw
              case rel=>refine⟨k+1,a_,by go_num,hide ?_⟩;obtain⟨X,⟨o8,O,N⟩,E,V,q7,q8⟩:=aA f;obtain⟨p,l,F⟩:=aA o;have n1:¬w.heap.size=d.heap.size:=a_;have n2:¬w.heap.size+1=d.heap.size:=a_;have n3:¬w.heap.size+1+1=d.heap.size:=a_;refine⟨(X.ext (aA m)).iw l n1,⟨o8,(O.ext (aA m)).iw l n2,N⟩,(E.ext (aA m)).iw l n3,?_,(q7.trans (aA m)).trans' l (fun _ _ h=>h) (fun i hi e=>a_),q8⟩;rw[(aA HA).1,(aA HA).2] at p;rw[aA HN];dsimp only;rw[<-(aA S).1,<-(aA HU).1];exact p
              case measure=>simp[intOf];omega
        ·
          obtain rfl:k=64:=a_;clear P b;obtain⟨wq,rfl⟩:∃ wq:ae,wq=wr:=⟨_,rfl⟩
          go_wp2
          have q:=hide (lV a h (aA s) 64)
          go_loopw [139] (fun i wr=>∃ k:Nat,k<=8/\i=.int .i64 k/\Hid (tC w D h (bM a h 64) d.heap.size k wr)) (fun i _=>8-(intOf i).toNat)
          case atStart=>exact⟨0,x8 _,rfl,hide (tC.start (aA f))⟩
          case round=>
            clear f;obtain⟨k,P,rfl,f⟩:=hrel;by_cases b:k<8
            ·
              have c1:=(aA f).new (aA q) (aA s) b;have c2:=(aA f).old (aA HC) (aA s) b;have f1:=(aA f).2.2.1.frozen k;have b7:=hide (fun c3 (hE:Ext wr c3)=>(aA f).step hE (aA q) (aA s) b);generalize (bM a h 64).getD k 0=xr at *;generalize h.getD k 0=xh at *;have d8:decide ((k:Int)<8)=true:=mi a_;have b8:(k:Int)<8:=a_;have HA:=hide (add32 xr xh)
              go_upto_region 21 with fail
              go_region
              all_goals
                go_wp2
                go_roundw
                case rel=>rw[aA HA];exact⟨k+1,a_,by go_num,hide (by first|exact (aA b7 _ (Ext.refl _)).drew|exact aA b7 _ ((Ext.refl _).drew))⟩
                case measure=>simp[intOf];omega
            ·
              obtain rfl:k=8:=a_;clear P b;obtain⟨X,⟨o8,O,N⟩,E,V,q7⟩:=aA f;have o:=hide (az O (az N (az E V)));clear X O N E V
              have HZ:=hide (show iI 8 (zX (bM a h 64) h 8)=((nM h a).map w32).toArray from by
                rw[bOv (aA q) (aA s)]
                exact nP (by simp;rw[aA q,aA s];rfl))
              have Q:=hide (show (iI 8 (zX (bM a h 64) h 8)).size=8/\(iI 8 (zX (bM a h 64) h 8)).all (·.oneCell')=true from by
                rw[aA HZ]
                exact⟨by simp[nM];rw[show (aBr a h).length=8 from aA q,aA s];rfl,aBl _⟩)
              generalize iI 8 (zX (bM a h 64) h 8)=c6 at *
              go_wp2_with (first
                |(refine fO (ty:=263) (t:=263) (x:=.tmp 9) rfl rfl kQ rfl (aA o).2.2.1 (aA Q).1 ?_)
                | (
                 refine aT (ty:=263) (t:=263) (x:=.tmp 4) (y:=.tmp 151) rfl rfl kQ rfl rfl (aA o).1 (aA o).2.1 (aA Q).1 (aA Q).2 ?_;intro w9 a7 a5 c8;have HV:=hide (az a7 a5)
                 clear a7 a5 c8))
              refine aAT (v:=.agg c6) (dQ kQ rfl (aA HV).1 (aA Q).1 rfl) rfl ⟨by rw[aA HZ],?_⟩;exact (aA o).2.2.2.trans' (aA HV).2 (fun _ _ h=>h) (fun i hi e=>a_)
attribute [local go_sem] Oper.semAt_some
def Qs(l:di)(k:Nat):di:=l++[128]++Pi k 0
theorem aSl(l:di)(k:Nat):(Qs l k).length=l.length+1+k:=by simp[Qs];omega
theorem bFd(l:di)(k:Nat):Qs l (k+1)=Qs l k++[0]:=by unfold Qs;rw[List.replicate_succ',GM,GM,GM]
def mQ(P:di)(l:List Nat)(v:List UInt32):List UInt32:=l.foldl (fun v i=>nM v ((P.drop (64*i)).take 64)) v
theorem pK(m:Nat)(v:List UInt32)(P:di):mQ P (yz m) v=pW m v P:=by
 induction m generalizing v P with
 |zero=>rfl|succ m a=>
  have b:∀ i,(P.drop 64).drop (64*i)=P.drop (64*(i+1)):=fun i=>by rw[List.drop_drop,show 64+64*i=64*(i+1) from a_]
  have h:=a (nM v (P.take 64)) (P.drop 64);refine Eq.trans ?_ h;unfold mQ;simp only[b];rw[List.range_succ_eq_map,aEB,List.foldl_map,aFd,aBk]
theorem jO(P:di)(l:List Nat)(v:List UInt32)(h:v.length=8):(mQ P l v).length=8:=by
 unfold mQ
 induction l generalizing v with
 |nil=>exact h|cons i l a=>rw[aEB];refine a _ ?_;unfold nM;rw[aEC,h];rw[show (aBr ((P.drop (64*i)).take 64) v).length=8 from lV _ _ h 64];rfl
def Qr(l:List UInt32)(k:Nat):di:=(l.take k).flatMap fun w=>beBytes w.toNat 4
theorem aLl(l:List UInt32)(k:Nat)(h:k<l.length):Qr l (k+1)=Qr l k++beBytes (l.getD k 0).toNat 4:=by unfold Qr;rw[lJ l k h,aFe,zG,zH h];simp
theorem aEj(l:List UInt32)(k:Nat)(h:k<=l.length):(Qr l k).length=4*k:=by
 induction k with
 |zero=>simp[Qr]|succ k a=>rw[aLl l k h,gz,a a_,beBytes_length];omega
theorem eu.putObj{W:ae}{g:Nat}{t:bu}{cs:mg}(h:eu W g t cs){D:Nat}{o b:Obj}(hd:W.heap[D]?=some o)(c:o.isCells=false):eu (W.putObj D b) g t cs:=by
 have a:g≠D:=fun e=>by unfold eu at h;rw[e,hd] at h;cases h;cases c
 exact (aCL a).trans h
theorem dJ(l:di):((l.map j_).toArray).all (·.oneCell')=true:=by rw[<-aCS];simp[j_];intro x _;rfl
def vG(n:Nat):Nat:=(119-n % 64) % 64
theorem fK:zk prog 142 32:=⟨⟨_,underlying142,rfl⟩,ai⟩
def Qa(l:di)(w:ae)(v:ag)(n k:Nat)(wr:ae):Prop:=(n=l.length+1+k/\k<=vG l.length)/\wr.ownsRow (w.heap.size+1) 5 1 v n ((Qs l k).map j_)/\Ext w wr/\(∃ o,eu wr w.heap.size 142 o/\o.size=32)
theorem sum_any (l:di) (v:ag) (w:ae) (hM:af w) (hr:Reads w 1 v l.length (l.map j_)) (hl:l.length<=100000000) :
    lL prog 191 #[v] w fun e w'=>e=.returned (.agg ((sha l).map j_).toArray)/\Ext w w':=by
  have HM:=hide hM;have HR:=hide hr;obtain⟨A,c,rfl⟩:∃ A c,v=.slice A l.length c:=by obtain⟨_,A,c,h,_⟩:=hr;exact⟨A,c,h⟩
  clear hM hr;refine (callsIn_wide (n:=3)).1 (callsIn_of_wp_marks func191 rfl trivial ((wpIn_wide (n:=3)).2 ?_));simp only[ntmps191,aBM,We,aBJ,Nat.reduceAdd,Nat.reduceSub,Array.replicate_succ,Array.replicate_zero,List.push_toArray,List.append_toArray,IR,List.cons_append]
  go_wp2_with fail
  refine (clone_any _ l _ ?hr a_).mono ?_
  case hr=>exact (aA HR).ext ((Ext.refl w).alloc _)
  rintro e w1 ⟨v1,rfl,H,hE⟩;have HO:=hide (az H (az hE (eu.ext (eu.new w 142 _) hE)));clear H hE
  go_wp2_with (at_builtin;refine bQ rfl rfl gV rfl (bP (aA HO).1 ((Ext.refl w1).alloc _)) rfl (Reads.yj _ _ _) (dN.one rfl) a_ (by have:=(aA HO).2.1.size';simp at this ⊢;omega) ?_;intro A' c' w2 H V F;have L:=hide (az H (az V F));clear H V F)
  have f:=hide (show Qa l w (.slice A' (l.length+1) c') (l.length+1) 0 w2 from by
    obtain⟨a,I,Z⟩:=aA HO;obtain⟨Q,h5,_⟩:=aA L;have e0:(Qs l 0).map j_=l.map j_++[j_ 128]:=by unfold Qs;simp
    have hz:=I.size';simp only[aDK] at hz Q;have F:=gX a (gq.refl (fun k=>¬v1.ownBlock=some k) w1) (fun k hk hn=>hn hk);have U:∀ k,v1.ownBlock=some k->w.heap.size+1<=k:=fun k hk=>by have:=a.lt k hk;simp at this;omega
    refine⟨⟨rfl,x8 _⟩,by rw[e0];exact Q,?_,⟨_,Z.iw ((Ext.refl w1).alloc _) (fun h=>h) |>.iw h5 (fun e=>by have:=U _ e;omega),rfl⟩⟩
    exact ((((Ext.refl w).alloc _).trans I).alloc _).trans' h5 (fun _ _ h=>h) (fun i hi e=>by have:=U _ e;omega))
  clear HO L
  go_loopw [3] (fun b wr=>∃ (n k:Nat) (A:Option uB) (c:Nat),b=.slice A n c/\n<=200000000/\Hid (Qa l w (.slice A n c) n k wr)) (fun b _=>match b with|.slice _ n _=>l.length+1+vG l.length-n|_=>0)
  case atStart=>exact⟨_,0,_,_,rfl,a_,f⟩
  case round=>
    clear f;obtain⟨n,k,A1,c1,rfl,hn,f⟩:=hrel;by_cases B:k<vG l.length
    ·
      have ht:n % 64≠56:=by have a:=(aA f).1;unfold vG at a B;omega
      have b4:(((n:Int) % 64)==56)=false:=l7
      go_wp2_with (at_builtin;refine bQ rfl rfl gV rfl (bP (aA f).2.1 ((Ext.refl wr).alloc _)) rfl (Reads.yj _ _ _) (dN.one rfl) a_ (by have:=(aA f).2.2.1.size';have:=(aA f).2.2.2.choose_spec.1.lt;simp;omega) ?_;intro A' c' d H V F;have L:=hide (az H V);clear H V F)
      go_roundw
      case rel=>obtain⟨⟨e1,e2⟩,a,I,o8,Z,Q⟩:=aA f;obtain⟨h5,h6⟩:=aA L;have U:∀ k,(aAP A1 n c1).ownBlock=some k->w.heap.size+1<=k:=fun k hk=>(a.lt k hk).1;refine⟨n+1,k+1,A',c',rfl,by unfold vG at e2;omega,hide ⟨⟨a_,B⟩,?_,(I.alloc _).trans' h6 (fun _ _ h=>h) (fun i hi e=>by have:=U _ e;omega),o8,(Z.alloc _).iw h6 (fun e=>by have:=U _ e;omega),Q⟩⟩;rw[bFd,aBc];exact h5
      case measure=>have:=(aA f).1;simp;omega
    ·
      obtain ⟨⟨e1,e2⟩,a,I,o8,Z,Q⟩:=aA f;have d0:k=vG l.length:=a_;subst d0;have HP:=hide (show Qs l (vG l.length)++beBytes (8*l.length) 8=iK l from rfl);have a4:n % 64=56:=by unfold vG at e1;omega
      have b4:(((n:Int) % 64)==56)=true:=l7;have HN:=hide (az e1 a4);clear e1 e2 B a4 a I Z Q
      go_wp2_with fail
      clear b4;refine (aRd _ n ((Qs l (vG l.length)).map j_) (8*l.length) 8 (w.heap.size+1) _ _ _ ?e1 ?e2 (aA f).2.1 ?hb a_ a_ a_).mono ?_
      case e1=>simp
      case e2=>rfl
      case hb=>have:=(aA f).2.2.2.choose_spec.1.lt;omega
      rintro e d ⟨A3,c3,rfl,H,hO⟩;obtain⟨g3,rfl⟩:∃ g3,A3=some ⟨g3,0,none⟩:=by obtain⟨g,cap,u,F,_⟩:=aSp (k:=0) H a_;cases F;exact⟨g,rfl⟩
      have L:=hide (az H hO);clear H hO;obtain⟨a7,G⟩:∃ st,(oW.map w32).toArray=st:=⟨_,rfl⟩;have b0:=hide G;have Y:=hide (show a7.size=8/\a7.all (·.oneCell')=true from by rw[<-G];exact⟨rfl,aBl _⟩);clear G
      have C:=hide (show Ext w d from by
        obtain⟨⟨e1,e2⟩,a,I,o8,Z,Q⟩:=aA f
        exact I.trans' (aA L).2.iw (fun _ _ h=>h) (fun i hi e=>by have:=(a.lt i e).1;omega))
      go_wp2_with (first
        |(refine sH (ty:=263) (x:=.global 0) rfl rfl kQ rfl (arr:=a7) (cs:=oW.map w32) ?_ rfl (aA b0) ?_;(focus exact ((aA HM).ext (aA C)).h))
        | (
         refine aT (ty:=263) (t:=263) (x:=.tmp 4) (y:=.tmp 27) rfl rfl kQ rfl rfl ((eu.new d _ _).alloc _) rfl (aA Y).1 (aA Y).2 ?_;intro w4 b9 a0 b3;have k5:w4.cell? ⟨d.heap.size+1,0,none⟩=some .nilFunc:=gq.jh a0 (iQ _ _ _ d_ rfl) d_;have f5:w4.frozen? ⟨d.heap.size+1,0,none⟩=false:=gq.uz a0 ((eu.new' _ _ _ d_).frozen 0) d_ d_;have HV:=hide (az b9 (az a0 b3))
         clear b9 a0 b3)
        |(go_at_call 202;refine (bRa _ _ _ _).mono ?_;rintro e w' ⟨rfl,rfl⟩))
      obtain⟨m,hm⟩:∃ m,n+8=64*m:=⟨(n+8) / 64,by have:=(aA HN).2;omega⟩;have HL:=hide (show (iK l).length=64*m from by rw[<-aA HP,gz,aSl,beBytes_length,<-hm];have:=(aA HN).1;omega);have HS:=hide (show d.heap.size<w4.heap.size/\w4.heap.size=d.heap.size+2 from by have:=(aA HV).2.2;simp at this;omega)
      refine IW (gf:=205) (S:=fun k=>k=d.heap.size) (all:=aEy m) (N:=m) (encs:=fun x:Fin m=>#[.slice (some ⟨g3,0+64*x.val,none⟩) 64 64]) rfl (aB func205 ai rfl) ?hS (aZl g3 0 c3 m _ _ _ _ a_ ?hc ?hs ?hn ?h1 ?h2) (fun _=>rfl)
        (fun E W=>eu W d.heap.size 263 ((mQ (iK l) (E.map Fin.val) oW).map w32).toArray/\W.cell? ⟨d.heap.size+1,0,none⟩=some (.func (.func 201) #[] #[]))
        (fun E W W' h k=>⟨k.blk h.1,k.cell h.2⟩) ?h0 ?a1 ?assign ?body ?done
      case assign=>
        intro l x W K hK
        gi_wp2
        exact hK
      case hS=>intro k e;have:=(aA HS).1;simp;omega
      case hc=>
        have a:=(aA L).1;obtain⟨g,cap,u,F,_⟩:=aSp (k:=0) a a_;cases F;obtain⟨_,I⟩:=a;rcases I with⟨e,_⟩|⟨g,cap,cur,F,_,_,f6,_⟩;cases e
        cases F;omega
      case hs=>have:=(aA HS).1;omega
      case hn=>have:=(aA HS).1;omega
      case h1=>rw[<-hm];exact iZ _ _ (iQ _ _ _ d_ rfl)
      case h2=>exact iQ _ _ _ d_ rfl
      case h0=>refine⟨?_,?_⟩;have:=(aA HV).1;rw[<-aA b0] at this;exact ((this.far' a_ _ _).alloc _).alloc _;exact iZ _ _ (iZ _ _ (aFb _ _ _ (by rw[k5];rfl)))
      case body=>
        rintro lb E x W V ⟨hb,hf⟩ e9;have d1:w.heap.size+1<=g3/\g3<d.heap.size:=(aA L).1.lt g3 rfl;obtain⟨f1,b7⟩:=d1;have d9:Hid (Reads d 1 (.slice (some ⟨g3,0,none⟩) (n+8) c3) (n+8) ((iK l).map j_)):=hide (by have:=Reads.ou (aA L).1;rwa [<-aBc,aA HP] at this)
        have a2:Hid (gq (fun k=>k=d.heap.size) d W):=hide (by
          have a:gq (fun k=>k=d.heap.size) d w4:=(((Ext.refl d).alloc _).alloc _).iw.trans (aA HV).2.1
          exact (((a.setCell (p:=⟨d.heap.size+1,0,none⟩) (.inr d_) _).alloc _).alloc _).trans V)
        have e6:=hide (show ((((iK l).drop (64*x.val)).take 64).length=64) from by have:=x.isLt;simp;rw[aA HL];omega)
        have d7:Hid (Reads W 1 (.slice (some ⟨g3,64*x.val,none⟩) 64 64) 64 ((((iK l).drop (64*x.val)).take 64).map j_)):=hide (by
          have a:=(aA d9).iw (aA a2) (fun k _ hk e=>by cases hk;exact absurd e (Nat.ne_of_lt b7));obtain⟨b,o,c,F,I,Z,_,Q⟩:=a.sub (64*x.val) 64 (by have:=x.isLt;omega) a_;cases F;rw[aEA,List.map_drop];rw[mf] at Q
          exact Q.cap a_ (by unfold uu;omega))
        have e4:Hid (af W):=hide (((aA HM).ext (aA C)).iw (aA a2) (fun e=>by have a:_<w.heap.size:=lt_of_cell ((aA HM).k 0 _ rfl);have:=(aA C).size';simp at a;omega) (fun e=>by have a:_<w.heap.size:=lt_of_cell ((aA HM).h 0 _ rfl);have:=(aA C).size';simp at a;omega));have e5:=hide (aUt (mQ (iK l) (E.map Fin.val) oW) (((iK l).drop (64*x.val)).take 64) _ W (aA e4) (jO _ _ _ rfl) (aA e6) (aA d7));have HB:=hide hb;clear hb;generalize G:((mQ (iK l) (E.map Fin.val) oW).map w32).toArray=gm at *;have H8:=hide (show gm.size=8 from by rw[<-G];simp;exact jO _ _ _ rfl);have HT:=hide G;clear G;have e3:=hide (show ((nM (mQ (iK l) (E.map Fin.val) oW) (((iK l).drop (64*x.val)).take 64)).map w32).toArray.size=8 from by simp;exact jO (iK l) [x.val] (mQ (iK l) (E.map Fin.val) oW) (jO _ _ _ rfl))
        gi_wp2_with (first
          |(refine aJy (ty:=263) (t:=263) (x:=.tmp 4) rfl rfl kQ rfl (aA HB) (aA H8) ?_)
          |(refine⟨trivial,?_⟩;gi_at_call 201;refine (CallsIn.inRound lb (callsIn_wide.2 (aA e5))).mono ?_;rintro e w9 ⟨rfl,c2⟩;have a9:=hide c2;clear c2)
          |(refine aGe (ty:=263) (t:=263) (x:=.tmp 4) (y:=.tmp 34) rfl rfl kQ rfl rfl ((aA HB).ext (aA a9)) (aA H8) (aA e3) (aBl _) ?_;intro f3 c0 a6 e7))
        refine⟨(aA a9).iw.trans a6,?_,gq.jh a6 (Ext.jh (aA a9) hf) d_⟩;rw[aBc];unfold mQ;rw[aDT];exact c0
      case done=>
        rintro D W hD V ⟨hb,hf⟩ hd
        have a2:Hid (Ext w W):=hide (by
          have a:gq (fun k=>k=d.heap.size) d w4:=(((Ext.refl d).alloc _).alloc _).iw.trans (aA HV).2.1;have I:=(((a.setCell (p:=⟨d.heap.size+1,0,none⟩) (.inr d_) _).alloc _).alloc _).trans V
          exact (aA C).trans' I (fun _ _ h=>h) (fun i hi e=>by have:=(aA C).size';omega))
        have HO:Hid (∃ o,eu W w.heap.size 142 o/\o.size=32):=hide (by
          obtain⟨_,a,_,o8,Z,Q⟩:=aA f;have B:=Z.lt;have k1:=Z.iw (aA L).2.iw (fun e=>by have:=(a.lt _ e).1;omega);have e8:=k1.lt;have a:gq (fun k=>k=d.heap.size) d w4:=(((Ext.refl d).alloc _).alloc _).iw.trans (aA HV).2.1;have I:=(((a.setCell (p:=⟨d.heap.size+1,0,none⟩) (.inr d_) _).alloc _).alloc _).trans V
          exact⟨o8,k1.iw I a_,Q⟩)
        rw[UZ,pK] at hb;have b6:m=(iK l).length / 64:=by rw[aA HL];omega
        rw[b6] at hb;have O:=hide (show (pW ((iK l).length / 64) oW (iK l)).length=8 from by rw[<-pK];exact jO _ _ _ rfl);have d5:=hide (show (pW ((iK l).length / 64) oW (iK l)).flatMap (fun w=>beBytes w.toNat 4)=sha l from rfl);generalize pW ((iK l).length / 64) oW (iK l)=z at *;obtain⟨b2,J⟩:∃ s,(z.map w32).toArray=s:=⟨_,rfl⟩;rw[J] at hb;have HB:=hide hb;have d4:=hide J;have H8:=hide (show b2.size=8 from by rw[<-J];simpa using aA O);have c4:w.heap.size<D:=by have:=(aA C).size';have:=(aA HS).1;simp at hD;omega
        have HD:=hide (az c4 hd);clear c4;clear hb hf hd hD J b6 L HV HS C b0 Y f HN k5 f5 V
        go_wp2_with (refine fO (ty:=263) (t:=263) (x:=.tmp 4) rfl rfl kQ rfl (aA HB) (aA H8) ?_)
        go_loopw [7,36] (fun b i wr=>∃ (k:Nat) (A:Option uB) (c:Nat),k<=8/\i=.int .i64 k/\b=.slice A (4*k) c/\Hid (wr.ownsRow W.heap.size 5 1 (.slice A (4*k) c) (4*k) ((Qr z k).map j_)/\Ext W wr)) (fun _ i _=>8-(intOf i).toNat)
        case atStart=>exact⟨0,none,0,x8 _,rfl,rfl,hide ⟨aEx _ _ _ _,Ext.refl _⟩⟩
        case round=>
          obtain⟨k,A7,c7,hk,rfl,rfl,f⟩:=hrel;by_cases B:k<8
          · have f0:∀ X,(Instr.index 263 (.agg b2) (.int .i64 (k:Int))).run prog X=.ok (.int .u32 ((z.getD k 0).toNat:Int)) X:=fun X=>
              aBu (inf:=_) underlying263 ai rfl ai B (by rw[<-aA d4,<-nP (aA O)];exact lC (by rw[aA O];exact B)) X
            have d6:=hide (aLl z k (by rw[aA O];exact B));have hx:=(z.getD k 0).toNat_lt;generalize z.getD k 0=xk at *
            go_wp2_with fail
            refine (aRd _ (4*k) ((Qr z k).map j_) xk.toNat 4 W.heap.size _ _ _ ?e1 ?e2 (aA f).1 ?hb a_ a_ a_).mono ?_
            case e1=>first|rfl|simp
            case e2=>rfl
            case hb=>exact (aA f).2.size'
            rintro e w5 ⟨A5,c5,rfl,H,hO⟩;have L:=hide (az H hO);clear H hO
            go_wp2
            go_roundw
            case rel=>refine⟨k+1,A5,c5,a_,by go_num,rfl,hide ⟨?_,?_⟩⟩;rw[aA d6,aBc];exact (aA L).1;exact Onto.EN (aA f).2 (aA L).2 (fun q hq=>((aA f).1.lt q hq).1)
            case measure=>simp[intOf];omega
          ·
            obtain rfl:k=8:=a_;clear hk B;obtain⟨g7,rfl⟩:∃ g7,A7=some ⟨g7,0,none⟩:=by obtain⟨g,cap,u,F,_⟩:=aSp (k:=0) (aA f).1 a_;cases F;exact⟨g,rfl⟩
            have HG:=hide (show Qr z 8=sha l from by
              unfold Qr;rw[WF (by rw[aA O];omega)]
              exact aA d5)
            have d8:Hid (wr.rangeAt g7 0 ((sha l).map j_)):=hide (by
              have a:=(aA f).1;rw[aA HG] at a;intro j v hj;have:=a.cells (g:=g7) rfl j v hj
              rwa [add_lit] at this)
            have c9:=hide (show (sha l).length=32 from by rw[<-aA HG];exact aEj z 8 (by rw[aA O];omega));obtain⟨o8,b5,a3⟩:=aA HO;have c8:=hide (az (b5.ext (aA f).2) a3);clear b5 a3;obtain⟨a8,T⟩:∃ r,((sha l).map j_).toArray=r:=⟨_,rfl⟩;have b1:=hide (show a8.size=32/\a8.all (·.oneCell')=true from by rw[<-T];exact⟨by simpa using aA c9,dJ _⟩);have c6:=hide T;clear T;have f2:=fun X=>bAp (P:=prog) underlying142 (ad:=some ⟨g7,0,none⟩) (len:=4*8) (c:=c7) a_ X
            go_wp2_with (first
              |(refine sH (ty:=142) (x:=.tmp 45) rfl rfl fK rfl (arr:=a8) (cs:=(sha l).map j_) (aA d8) ?_ (aA c6) ?_;(focus (simpa using aA c9)))
              |(refine aT (ty:=142) (t:=142) (x:=.tmp 2) (y:=.tmp 46) rfl rfl fK rfl rfl (aA c8).1 (aA c8).2 (aA b1).1 (aA b1).2 ?_;intro w9 d3 b8 f4))
            have d2:=((aA f).2.blk (aA HD).2);have a5:=gq.blk b8 d2 (fun e=>by have:=(aA HD).1;omega);refine aLp rfl a5 (dQ fK rfl (d3.putObj a5 rfl) (aA b1).1 rfl) ⟨by rw[aA c6],?_⟩;refine bEw _ (((aA a2).trans (aA f).2).trans' b8 (fun _ _ h=>h) (fun i hi e=>a_)) (by have:=(aA HD).1;omega)
end
section
section
variable {P:ed} {w:ae}
theorem Jk{t ty e:bu}{bytes:Nat}(T:AZ P t e 1 bytes){b:uB}{n:Nat}{xs:jl}(hs:Reads w 1 (.slice (some b) n n) n xs)(hn:0<n)
  {u:ag} {m:Nat} {a:jl} (hr:Reads w 1 u m a) (h1:dN a) (d:(n+m)*bytes<=140737488355328) :
  ∃ r q o,(Builtin.append_ #[t,t] ty #[.slice (some b) n n,u]).run P w=.ok (.slice r (n+m) q) o/\Reads o 1 (.slice r (n+m) q) (n+m) (xs++a)/\Ext w o:=by
 obtain⟨B,⟨i,z,E,W,f,H,x⟩,_,I⟩:=T;obtain⟨S,A,c,rfl,X,Y,g⟩:=hr;have J:n+m<=uu:=by have:(n+m)*1<=(n+m)*bytes:=Nat.mul_le_mul_left _ I;unfold uu;omega
 rcases aCE m with K|K;subst K;have C:a=[]:=aEn (by simpa using S);subst C
 refine⟨_,n,w,?_,by simpa using hs,Ext.refl _⟩;rcases A with _|ad;simp[Builtin.append_,Ha B,sizeOf,aBt,E,Builtin.lenOf,Builtin.firstCells,storeCells];obtain⟨_,A2,Z,L,_,_,l⟩:=hs;cases L;obtain⟨O,s,N,_⟩:=l hn;cases N;have:=run_append_room_cells (P:=P) w t ty e i B E O s n n ad 0 c [] d_ (fun j u h=>by simp at h) (fun u h=>by cases h) a_ (fun j h=>by simp at h) (fun j h=>by simp at h)
 simpa[World.setCells] using this;obtain⟨y,A2,Z,L,_,_,l⟩:=hs;cases L;obtain⟨O,s,N,F⟩:=l hn;cases N;obtain⟨b1,V,rfl,G⟩:=g K;obtain⟨v',o,p,Q,U⟩:=run_append_arg_grows (P:=P) w t ty e i z 1 bytes B E W f H x a_ ⟨O,s,none⟩ n n xs y (fun j u D=>by rw[Addr.add_lit];exact F j u D) ⟨b1,V,none⟩ m c a S (fun j u D=>by rw[Addr.add_lit];exact G j u D) a_ J d;obtain⟨r,q,rfl⟩:=pX Q;exact⟨r,q,o,p,Reads.ou Q,(Ext.refl w).grown U (fun k h=>by cases h)⟩
theorem bIg{o:ik}{a:Act}{K:Act->jg}{Q:uk->Act->jg}{s x:uA}{t:bu}
  (p:o.op=.call { callee:=.builtin .append,args:=#[s,x],argTypes:=#[t,t] })
  {e:bu} {bytes:Nat} (T:AZ P t e 1 bytes) {b:uB} {n:Nat} {xs:jl} (hs:a.eval s=.slice (some b) n n) (i:Reads w 1 (.slice (some b) n n) n xs) (hn:0<n)
  {u:ag} (l:a.eval x=u) {m:Nat} {c:jl} (hr:Reads w 1 u m c) (h1:dN c) (d:(n+m)*bytes<=140737488355328)
  (h:∀ (k:Option uB) (j:Nat) f,Reads f 1 (.slice k (n+m) j) (n+m) (xs++c)->Ext w f->K (a.put o.dst (.slice k (n+m) j)) f):o.wp P a w K Q:=by
 obtain⟨k,j,f,g,r,q⟩:=Jk (P:=P) (ty:=o.type) T i hn hr h1 d;unfold Oper.wp xe;simp only[p,resolve,invoke,builtin,Sem.run_bind,Sem.run_pure,Result.andThen_ok,aEp,aAJ,aCU,hs,l,g];exact h k j f r q
theorem aRe{ops:Array ik}{o:ik}{a:Act}{K:Act->jg}{Q:uk->Act->jg}{E:Prop}(i:o.guard=none){s x:uA}{t:bu}
  (q:o.op=.call { callee:=.builtin .append,args:=#[s,x],argTypes:=#[t,t] })
  {e:bu} {bytes:Nat} (T:AZ P t e 1 bytes) {b:uB} {n:Nat} {xs:jl} (hs:a.eval s=.slice (some b) n n) (f:Reads w 1 (.slice (some b) n n) n xs) (hn:0<n)
  {u:ag} (l:a.eval x=u) {m:Nat} {c:jl} (hr:Reads w 1 u m c) (h1:dN c) (d:(n+m)*bytes<=140737488355328)
  (h:∀ (k:Option uB) (j:Nat) g,Reads g 1 (.slice k (n+m) j) (n+m) (xs++c)->Ext w g->K (a.put o.dst (.slice k (n+m) j)) g) :
  if Region.wanted o (aAG ops a.tmps)=true then Oper.wp P o a w K Q else E:=by
 have p:Region.wanted o (aAG ops a.tmps)=true:=by simp[Region.wanted,i]
 rw[au p];exact bIg q T hs f hn l hr h1 d h
theorem aGd{ops:Array ik}{rest:List ik}{o:ik}{a:Act}{Q:uk->Act->jg}(k:o.guard=none){s x:uA}{t:bu}
  (p:o.op=.call { callee:=.builtin .append,args:=#[s,x],argTypes:=#[t,t] })
  {e:bu} {bytes:Nat} (T:AZ P t e 1 bytes) {b:uB} {n:Nat} {xs:jl} (hs:a.eval s=.slice (some b) n n) (g:Reads w 1 (.slice (some b) n n) n xs) (hn:0<n)
  {u:ag} (l:a.eval x=u) {m:Nat} {c:jl} (hr:Reads w 1 u m c) (h1:dN c) (d:(n+m)*bytes<=140737488355328)
  (h:∀ (j:Option uB) (i:Nat) f,Reads f 1 (.slice j (n+m) i) (n+m) (xs++c)->Ext w f->aBj P ops Q rest (a.put o.dst (.slice j (n+m) i)) f):aBj P ops Q (o::rest) a w:=
 wpList_plain k fun _ q=>bIg p T hs g hn l hr h1 d fun j i f y r=>q _ _ (h j i f y r)
end
end
section
theorem MG(w:ae):lL prog 169 #[.int .u64 1,.int .u64 64] w fun e a=>e=.returned (.tuple #[.int .u64 0,.int .u64 64])/\w=a:=by
 go_enter func169,ntmps169
 go_wp2
 go_ret2
 exact⟨ai,rfl⟩
theorem aKv{a:Type}(cur:List a)(x:a)(p m:Nat)(h:cur.take p=Pi p x)(_hl:p+m<=cur.length):(splice cur p (Pi m x)).take (p+m)=Pi (p+m) x:=by unfold splice;rw[h,<-GM,List.replicate_append_replicate,List.take_left' d_]
def bDe(x:UInt8)(w:ae)(g n p:Nat)(wr:ae):Prop:=∃ cur:jl,wr.heap[g]?=some (.cells cur.toArray 5 (0,0))/\cur.take p=Pi p (j_ x)/\cur.length=n/\Below w.heap.size w wr
theorem bIr:(prog.info? 5).map (·.size)=some 1:=ai
theorem bEo(x:UInt8)(v:ag)(w:ae)(hr:Reads w 1 v 1 [j_ x]) :
  lL prog 193 #[v,.int .i64 64] w fun e D=>∃ g,e=.returned (.slice (some ⟨g,0,none⟩) 64 64)/\Reads D 1 (.slice (some ⟨g,0,none⟩) 64 64) 64 (Pi 64 (j_ x))/\Ext w D/\w.heap.size<=g/\(∀ i,D.frozen? ⟨g,i,none⟩=false):=by
 have HR:=hide hr;obtain⟨b,o,c,u,rfl,a5,a4,hb,X,t⟩:=hr.Ef (k:=0) a_;cases X;unfold j_ at t;have HU:=hide t;clear hr t;obtain⟨d,a,a2,q⟩:=Lib.run_makeNoZero (P:=prog) w #[3] 74 5 underlying74 64 a_;have J:(aAE 199 #[.int .i64 64]).run prog w=.ok (.value (.slice (some ⟨w.heap.size,0,none⟩) 64 d.size)) ((w.alloc (.cells d 5)).drewN 2):=by have:=run_callFunc_extern (P:=prog) (args:=#[.int .i64 64]) (w:=w) func199 ai ai ai (e:=Extern.BytealgMakeNoZero.makeNoZero #[3] #[74]) ai;rw[this];have h2:(Extern.BytealgMakeNoZero.makeNoZero #[3] #[74] #[.int .i64 64]).run prog w=_:=a;rw[h2];rfl
 clear a;have G:=q (by unfold uu;omega);unfold uu at G;clear q;have i1:(64:Int)<=(d.size:Int):=a_;have HC:=hide (show bDe x w w.heap.size d.size 0 ((w.alloc (.cells d 5)).drewN 2) from⟨d.toList,(eu.new w 5 d).drewN 2,rfl,d_,(((Ext.refl w).alloc _).drewN _).below⟩)
 go_enter func193,ntmps193
 go_upto_region 17 with (go_at_call 169;refine (MG _).mono ?_;rintro e D ⟨rfl,rfl⟩)
 iterate 7 (first|go_values|go_skip|go_guarded|go_step|go_upon)
 obtain⟨s,f,y,z,l⟩:=aA HC;refine wpList_copy_splice rfl (.tmp 58) (.tmp 59) 74 74 rfl 5 underlying74 bIr (some ⟨w.heap.size,0,none⟩) (some ⟨b,o,none⟩) 64 64 1 c rfl rfl w.heap.size 0 s 5 f [j_ x] rfl ?_ ?_ ?_ w.heap.size w l (dE _) ?_;intro _;refine⟨rfl,_,rfl,fun j v r=>?_⟩
 match j,r with
 |0,r=>cases r;exact (l.cell (p:=⟨b,o,none⟩) hb).trans (aA HU)
 simp;omega;intro v E;simp at E;subst E;rfl
 ·intro W V G2;have C:=hide (show bDe x w w.heap.size d.size 1 W from⟨_,aA V,by have:=aKv s (j_ x) 0 1 y a_;simpa using this,by rw[length_splice _ _ _ l7];exact z,G2⟩);clear f y z l V G2
  go_wp2
  go_loopw [10] (fun p wr=>∃ k:Nat,0<k/\k<=64/\p=.int .i64 k/\Hid (bDe x w w.heap.size d.size k wr)) (fun p _=>64-(intOf p).toNat)
  case atStart=>exact⟨1,a_,a_,rfl,C⟩
  case round=>
   clear C;obtain⟨k,a3,hk,rfl,C⟩:=hrel;by_cases a1:k<64
   ·obtain⟨cur,f,y,z,l⟩:=aA C;have K:64<=cur.length:=a_;have N:=hide (az y z);clear y z;have a6:decide ((k:Int)<64)=true:=mi a_;have a7:(k:Int)<64:=a_;have bn:¬k=64:=a_;have b1:(k:Int)<=64:=a_;have b0:(0:Int)<=(k:Int):=a_;obtain⟨m,H⟩:=jc (Nat.min k (64-k));have B:k+m<=64/\m<=k/\0<m:=by have:Nat.min k (64-k)=min k (64-k):=rfl;omega
    have Q:0<(Pi m (j_ x)).length->some (⟨w.heap.size,k,none⟩:uB)=some ⟨w.heap.size,k,none⟩/\∃ L,some (⟨w.heap.size,0,none⟩:uB)=some L/\∀ (j:Nat) (v:ag),(Pi m (j_ x))[j]?=some v->wr.drew.cell? (L.add j)=some v:=by
     intro _;refine⟨rfl,_,rfl,fun j v r=>?_⟩;have I:j<m:=by rcases aAW j m with h|h;exact h;rw[PR (by simpa using h)] at r;cases r
     rw[aCT,au I] at r;cases r;rw[add_lit,mf];have:=eu.cell (show eu wr w.heap.size 5 cur.toArray from f) j;refine Eq.trans this ?_;have e:=(aA N).1;have U:(cur.take k)[j]?=some (j_ x):=by rw[e,aCT,au a_]
     rw[yf,au a_] at U;simpa using U
    have S:(Pi m (j_ x)).length=Nat.min k (64-k):=by rw[H];simp
    have O:∀ v∈Pi m (j_ x),v.oneCell'=true:=by intro v E;rw[(List.mem_replicate.1 E).2];rfl
    obtain⟨F,T,HN⟩:∃ F,(Builtin.copy_ #[74,74] 3 #[.slice (some ⟨w.heap.size,k,none⟩) (64-k) (64-k),.slice (some ⟨w.heap.size,0,none⟩) k 64]).run prog wr.drew=.ok (.int .i64 (m:Int)) F/\Hid (bDe x w w.heap.size d.size (k+m) F):=by obtain⟨_,L,e,A⟩:=Q l7;cases e;have h:=run_copy_row (P:=prog) wr.drew 74 74 3 5 w.heap.size k (64-k) (64-k) ⟨w.heap.size,0,none⟩ k 64 cur.toArray 5 (Pi m (j_ x)) underlying74 bIr f S A l7 O;simp only[List.length_replicate] at h;refine⟨_,h,hide ⟨splice cur k (Pi m (j_ x)),?_,aKv cur (j_ x) k m (aA N).1 a_,?_,?_⟩⟩;have:=setRow_heap wr.drew w.heap.size _ (splice cur k (Pi m (j_ x))).toArray 5 _ f;simpa[splice,GM] using this;rw[length_splice _ _ _ l7];exact (aA N).2;exact below_setRow (l.trans (Ext.below ((Ext.refl wr).drew) |>.mono (by have:=l.size;omega))) (dE _) _
    have HM:=hide (az H B);obtain⟨a0,Z,Y⟩:=B;clear H S Q O f l K
    go_upto_region 20 with fail
    go_region
    all_goals
     go_wp2
     go_roundw
     case rel=>exact⟨k+m,a_,a_,by go_num,HN⟩
     case measure=>simp[intOf];omega
   ·obtain rfl:k=64:=a_
    go_wp2
    go_ret;obtain⟨cur,f,y,z,l⟩:=aA C
    refine⟨_,rfl,?_,Ext.of_below l,dE _,(show eu wr w.heap.size 5 cur.toArray from f).frozen⟩;have:=Reads.zf (show eu wr w.heap.size 5 cur.toArray from f) (i:=0) (n:=64) (c:=64) l7 a_ (by unfold uu;omega);simpa[y] using this
theorem Reads.set{w:ae}{g n c:Nat}{xs:jl}(h:Reads w 1 (.slice (some ⟨g,0,none⟩) n c) n xs){k:Nat}(r:k<n)(u:ag):Reads (w.setCell ⟨g,k,none⟩ u) 1 (.slice (some ⟨g,0,none⟩) n c) n (xs.set k u):=by obtain⟨l,A,s,e,q,p,m⟩:=h;cases e;refine⟨by rw[aAA];exact l,_,_,rfl,q,p,fun i=>⟨g,0,rfl,fun j v d=>?_⟩⟩;obtain⟨b,o,e,f⟩:=m i;cases e;rw[mf];by_cases a:k=j;subst a;rw[List.getElem?_set_self a_] at d;cases d;have:=f k _ (zH a_);rw[mf] at this;exact aFb _ _ _ (by rw[this];rfl);rw[List.getElem?_set_ne a] at d;have:=f j v d;rw[mf] at this;rw[aJo (h:=fun e=>a (by cases e;rfl))];exact this
def CX(n:Nat)(a:di)(x:UInt8)(k:Nat):di:=(yz n).map fun i=>if i<k then x ^^^ a.getD i 0 else x
def TA(n:Nat)(a:di)(x:UInt8):di:=(yz n).map fun i=>a.getD i 0 ^^^ x
theorem bLn(n:Nat)(a:di)(x:UInt8):(CX n a x 0).map j_=Pi n (j_ x):=by unfold CX;apply aBR;simp;intro i c b;simp
theorem vT(n:Nat)(a:di)(x:UInt8)(k:Nat):(CX n a x k).length=n:=by simp[CX]
theorem bBe(n:Nat)(a:di)(x:UInt8)(k i:Nat)(h:i<n):(CX n a x k)[i]?=some (if i<k then x ^^^ a.getD i 0 else x):=by unfold CX;rw[aAg,List.getElem?_range h];rfl
theorem bLo(n:Nat)(a:di)(x:UInt8)(k:Nat):CX n a x (k+1)=(CX n a x k).set k (x ^^^ a.getD k 0):=by apply aAX;intro i;by_cases c:i<n;rw[bBe n a x (k+1) i c,aED,bBe n a x k i c,vT];by_cases b:k=i;subst b;rw[au rfl,au c,au a_];rw[ah b];by_cases h:i<k;rw[au h,au a_];rw[ah h,ah a_];rw[PR (by rw[vT];omega),PR (by rw[aAA,vT];omega)]
theorem L8(n:Nat)(a:di)(x:UInt8):CX n a x a.length=TA n a x:=by unfold CX TA;apply List.map_congr_left;intro i _;by_cases h:i<a.length;rw[au h,UInt8.xor_comm];rw[ah h,zG,PR a_];simp
theorem TB(n:Nat)(a:di)(x:UInt8)(k:Nat)(h:k<n):((CX n a x k).map j_)[k]?=some (j_ x):=by rw[aAg,zH (by rw[vT];exact h)];simp[CX]
def xY(a:di)(x:UInt8)(k:Nat):di:=CX 64 a x k
def qI(a:di)(x:UInt8):di:=TA 64 a x
theorem aSm(a:di)(x:UInt8):(xY a x 0).map j_=Pi 64 (j_ x):=bLn 64 a x
theorem aSn(a:di)(x:UInt8)(k:Nat):xY a x (k+1)=(xY a x k).set k (x ^^^ a.getD k 0):=bLo 64 a x k
theorem aXt(a:di)(x:UInt8):xY a x a.length=qI a x:=L8 64 a x
theorem bFe(a:di)(x:UInt8)(k:Nat)(h:k<64):((xY a x k).map j_)[k]?=some (j_ x):=TB 64 a x k h
theorem iP(a:di)(x:UInt8):(qI a x).length=64:=by unfold qI TA;rw[aAB,List.length_range]
theorem aOh(x:UInt8)(r:Int)(G:r=(x.toNat:Int))(a:di)(l:Nat)(v:ag)(w:ae)(j:w.cell? ⟨l,0,none⟩=some v)(hr:Reads w 1 v a.length (a.map j_))(hl:a.length<=64) :
  lL prog 192 #[.int .u8 r,.pointer (some ⟨l,0,none⟩)] w fun e s=>∃ g,e=.returned (.slice (some ⟨g,0,none⟩) 64 64)/\Reads s 1 (.slice (some ⟨g,0,none⟩) 64 64) 64 ((qI a x).map j_)/\Ext w s:=by
 subst G;have O:=hide hr;obtain⟨A,c,rfl⟩:∃ A c,v=.slice A a.length c:=by obtain⟨_,A,c,h,_⟩:=hr;exact⟨A,c,h⟩
 have P:=hide j;have X:=hide (lt_of_cell j);clear hr j
 go_enter func192,ntmps192
 go_wp2_with fail
 refine (bEo x _ _ ?hr).mono ?_
 case hr=>exact Reads.yj _ _ _
 rintro e F ⟨g,rfl,D,q,B,n⟩;have m:F.cell? ⟨l,0,none⟩=some (.slice A a.length c):=Ext.jh (((Ext.refl w).alloc _).trans q) (aA P);have Q:=hide (show w.heap.size<=g from ry (((Ext.refl w).alloc (.cells #[j_ x] 5)).size') B);have S:=hide (((Ext.refl w).alloc (.cells #[j_ x] 5)).trans q);have E:=hide (az D n);clear D q B n
 go_wp2
 clear m
 go_loopw [12] (fun i wr=>∃ k:Nat,k<=a.length/\i=.int .i64 k/\Hid (Reads wr 1 (.slice (some ⟨g,0,none⟩) 64 64) 64 ((xY a x k).map j_)/\(∀ i,wr.frozen? ⟨g,i,none⟩=false)/\Ext w wr)) (fun i _=>a.length-(intOf i).toNat)
 case atStart=>exact⟨0,x8 _,rfl,hide ⟨by rw[aSm];exact (aA E).1,(aA E).2,aA S⟩⟩
 case round=>
  obtain⟨k,j,rfl,d⟩:=hrel;by_cases f:k<a.length
  ·obtain⟨b,o,V,u,H,_,_,U,t,p⟩:=((aA O).ext (aA d).2.2).Ef f;cases H;rw[aAg,zH f] at t;cases t;have I:wr.cell? ⟨g,k,none⟩=some (j_ x):=by obtain⟨_,_,_,e,_,_,h⟩:=(aA d).1;cases e;obtain⟨W,T,K,J⟩:=h a_;cases K;have:=J k _ (bFe a x k a_);rwa [mf] at this
   have n:=(aA d).2.1 k;unfold j_ at p I;have N:=hide (show xY a x (k+1)=(xY a x k).set k (x ^^^ a[k]) from by rw[aSn a x k,zG,zH f];rfl);have y:(k:Int)<64:=a_;generalize a[k]=z at *;have C:=DT x z;have L:=hide C;clear C
   go_wp2
   go_roundw
   case rel=>refine⟨k+1,a_,by go_num,hide ⟨?_,fun i=>by rw[aJn];exact (aA d).2.1 i,(aA d).2.2.setCell (aA Q) _⟩⟩;rw[aA N,aFc];have:=(aA d).1.set (k:=k) a_ (j_ (x ^^^ z));rw[aA L];exact this
   case measure=>simp[intOf];omega
  ·obtain rfl:k=a.length:=a_
   go_wp2
   go_ret;refine⟨g,rfl,?_,(aA d).2.2⟩
   rw[<-aXt];exact (aA d).1
theorem aYp(a m:di):Bf a m=sha (qI (if a.length > 64 then sha a else a) 92++sha (qI (if a.length > 64 then sha a else a) 54++m)):=rfl
theorem dD(l:di):(sha l).length=32:=by
 have h:(pW ((iK l).length / 64) oW (iK l)).length=8:=by rw[<-pK];exact jO _ _ _ rfl
 have a:=aEj (pW ((iK l).length / 64) oW (iK l)) 8 a_;unfold Qr at a;rw[WF a_] at a;exact a
theorem jS(a m:di):(Bf a m).length=32:=by rw[aYp];exact dD _
theorem aOx (a b:di) (kv bv:ag) (w:ae) (hM:af w) (hk:Reads w 1 kv a.length (a.map j_)) (hb:Reads w 1 bv b.length (b.map j_)) (b6:a.length<=1000000) (b7:b.length<=1000000) :
    lL prog 179 #[kv,bv] w fun e w'=>e=.returned (.agg ((Bf a b).map j_).toArray)/\Ext w w':=by
  have HM:=hide hM;have HB:=hide hb;obtain⟨A,c,rfl⟩:∃ A c,kv=.slice A a.length c:=by obtain⟨_,A,c,h,_⟩:=hk;exact⟨A,c,h⟩
  have b2:=hide hk;clear hM hk hb;rw[aYp];by_cases C:a.length > 64
  ·
    rw [au C];have a9:decide ((64:Int)<(a.length:Int))=true:=mi a_;have o:(sha a).length<=64:=by rw[dD];omega
    obtain⟨d,L⟩:=jc (sha a);rw[L] at o ⊢;have a3:=hide L;clear L C
    go_enter func179,ntmps179
    go_wp2_with fail
    refine (sum_any a _ _ ((aA HM).ext (((Ext.refl w).alloc _).alloc _)) ((aA b2).ext (((Ext.refl w).alloc _).alloc _)) a_).mono ?_;rintro e D ⟨rfl,a7⟩;clear a9;rw[aA a3];have H1:=hide a7;clear a7;have b1:=hide (show ((d.map j_).toArray).size=32 from by rw[<-aA a3];simpa using dD _);have c0:D.cell? ⟨w.heap.size,0,none⟩=some (.slice A a.length c):=Ext.jh (aA H1) (iZ _ _ (iQ _ _ _ rfl rfl));have f0:D.frozen? ⟨w.heap.size,0,none⟩=false:=Ext.uz (aA H1) (((eu.new w 74 #[.slice A a.length c]).alloc _).frozen 0) l7;have B:=hide (az c0 (az f0 (lt_of_cell c0)));clear c0 f0
    go_wp2_with (refine aT (ty:=142) (t:=142) (x:=.tmp 5) (y:=.tmp 12) rfl rfl fK rfl rfl (eu.new D _ _) rfl (aA b1) (dJ _) ?_;intro w2 a6 a0 a5;have c0:=gq.jh (a0) (iZ _ _ (aA B).1) (Nat.ne_of_lt (aA B).2.2);have f0:=gq.uz a0 (Ext.uz ((Ext.refl D).alloc _) (aA B).2.1 (aA B).2.2) (by have:=(aA B).2.2;simp;omega) (Nat.ne_of_lt (aA B).2.2);have b0:=hide (az a6 (az a0 a5));clear a6 a0 a5)
    obtain⟨g,j⟩:∃ v,v=aAP (some ⟨D.heap.size,0,none⟩) 32 32:=⟨_,rfl⟩;have b4:w.heap.size+2<=D.heap.size:=by have:=(aA H1).size';simp at this;omega
    have a8:d.length=32:=by rw[<-aA a3];exact dD _
    have a1:gq (fun k=>k=w.heap.size) D (w2.setCell ⟨w.heap.size,0,none⟩ g):=by have h1:gq (fun k=>k=w.heap.size) D w2:=((Ext.refl D).alloc _).trans' (aA b0).2.1 (fun _ _ h=>h.elim) (fun i hi e=>a_);exact h1.setCell (p:=⟨w.heap.size,0,none⟩) (.inl rfl) _
    have l:Hid ((w2.setCell ⟨w.heap.size,0,none⟩ g).cell? ⟨w.heap.size,0,none⟩=some g/\Reads (w2.setCell ⟨w.heap.size,0,none⟩ g) 1 g d.length (d.map j_)/\Ext w (w2.setCell ⟨w.heap.size,0,none⟩ g) /\
        eu (w2.setCell ⟨w.heap.size,0,none⟩ g) (w.heap.size+1) 142 (DD 32 (.int .u8 0))):=hide (by
      refine⟨aFb _ _ _ (by rw[c0];rfl),?_,?_,?_⟩;have hb:=(aA b0).1.far' (show ¬D.heap.size=w.heap.size by omega) 0 g;have:=Reads.zf hb (i:=0) (n:=32) (c:=32) (by rw[aA b1];omega) a_ (by unfold uu;omega);simp only[aBk] at this;rw[WF (by rw[aAB];omega)] at this;rw[a8,j];rw[j] at this;exact this;exact ((((Ext.refl w).alloc _).alloc _).trans (aA H1)).trans' a1 (fun _ _ h=>h) (fun i hi e=>a_);have h1:eu ((w.alloc (.cells #[.slice A a.length c] 74)).alloc (.cells (DD 32 (.int .u8 0)) 142)) (w.heap.size+1) 142 (DD 32 (.int .u8 0)):=eu.new' _ _ _ d_
      exact (h1.ext (aA H1)).iw a1 a_)
    subst j;clear c0 f0 a1 b4 a8 B;have b5:=hide o
    go_wp2_with fail
    refine (aOh 54 _ rfl d w.heap.size (.slice (some ⟨D.heap.size,0,none⟩) 32 32) _ (aA l).1 (aA l).2.1 o).mono ?_;rintro e w2 ⟨g2,rfl,Q,X⟩;have H2:=hide (az Q X);clear Q X
    go_wp2_with (at_builtin;refine aGd rfl rfl gV rfl (aA H2).1 a_ rfl (((aA HB).ext (aA l).2.2.1).ext (aA H2).2) (dN.u8 b) a_ ?_;intro A3 c3 w3 I W;have H3:=hide (az I W);clear I W)
    refine (sum_any (qI d 54++b) _ _ (((aA HM).ext (aA l).2.2.1).ext ((aA H2).2.trans (aA H3).2)) ?hr (by rw[gz,iP];omega)).mono ?_
    case hr=>have:=(aA H3).1;rw[<-aBc] at this;rw[gz,iP];exact this
    rintro e w4 ⟨rfl,V⟩;obtain⟨E,f⟩:∃ r,((sha (qI d 54++b)).map j_).toArray=r:=⟨_,rfl⟩;have a4:=hide f;have z:=hide (show E.size=32/\E.all (·.oneCell')=true from by rw[<-f];exact⟨by simpa using dD _,dJ _⟩);rw[f];have H4:=hide ((aA H2).2.trans ((aA H3).2.trans V));clear f V
    go_wp2_with (refine aT (ty:=142) (t:=142) (x:=.tmp 7) (y:=.tmp 19) rfl rfl fK rfl rfl (eu.new w4 _ _) rfl (aA z).1 (aA z).2 ?_;intro Z O N F;have H5:=hide (az O (az N F));clear O N F)
    have m:=hide ((aA H4).trans (((Ext.refl w4).alloc (.cells #[gp uC 0,gp uC 0,gp uC 0,gp uC 0,gp uC 0,gp uC 0,gp uC 0,gp uC 0,gp uC 0,gp uC 0,gp uC 0,gp uC 0,gp uC 0,gp uC 0,gp uC 0,gp uC 0,gp uC 0,gp uC 0,gp uC 0,gp uC 0,gp uC 0,gp uC 0,gp uC 0,gp uC 0,gp uC 0,gp uC 0,gp uC 0,gp uC 0,gp uC 0,gp uC 0,gp uC 0,gp uC 0] 142)).trans' (aA H5).2.1 (fun _ _ h=>h) (fun i hi e=>a_)))
    have a2:=hide (show Reads Z 1 (.slice (some ⟨w4.heap.size,0,none⟩) 32 32) 32 ((sha (qI d 54++b)).map j_) from by
      have:=Reads.zf (aA H5).1 (i:=0) (n:=32) (c:=32) (by rw[(aA z).1];omega) a_ (by unfold uu;omega);rw[<-aA a4] at this;simp only[aBk] at this
      rwa [WF (by rw[aAB,dD];omega)] at this)
    go_region_law (first
      |(refine aRe (s:=.tmp 21) (x:=.tmp 22) rfl rfl gV rfl (aA H6).1 a_ rfl ((aA a2).ext (((Ext.refl Z).drew).trans (aA H6).2)) (dN.u8 _) a_ ?_;intro A8 c8 w8 H T;have H8:=hide (az H T);clear H T)
      |(go_simp;go_at_call 192;refine (aOh 92 _ rfl d w.heap.size (.slice (some ⟨D.heap.size,0,none⟩) 32 32) _ (Ext.jh ((aA m).drew) (aA l).1) ((aA l).2.1.ext ((aA m).drew)) o).mono ?_;rintro e w6 ⟨g6,rfl,P,U⟩;have H6:=hide (az P U);clear P U)
      | (
       rename_i K hK;go_simp;go_at_call 191;refine (sum_any (qI d 92++sha (qI d 54++b)) _ _ ((((aA HM).ext (aA l).2.2.1).ext (aA m)).ext (((Ext.refl Z).drew).trans ((aA H6).2.trans (aA H8).2))) ?_ ?_).mono ?_;(focus (have:=(aA H8).1;rw[<-aBc] at this;rw[gz,iP,dD];exact this));(focus (rw[gz,iP,dD];omega));rintro e w9 ⟨rfl,S⟩;have H9:=hide ((aA m).trans (((Ext.refl Z).drew).trans ((aA H6).2.trans ((aA H8).2.trans S))));clear S;dsimp only;refine hK _ _ ?_;clear hK K;refine aAU (rs:=[5]) ai d_ (AllReady.cons rfl (fun J hJ=>?_) AllReady.nil);refine jQ (ty:=142) (t:=142) (x:=.tmp 4) (y:=.tmp 24) rfl rfl fK rfl rfl ((aA l).2.2.2.ext (aA H9)) ?_ ?_ ?_ ?_;rw[aFM];simpa using dD _;exact dJ _;intro b3 u q G;have Y:=hide (az u q);clear u q G;refine hJ _ _ ?_
       clear hJ J))
    go_wp2
    refine aAT (v:=.agg ((sha (qI d 92++sha (qI d 54++b))).map j_).toArray) (dQ fK rfl (aA Y).1 (by simpa using dD _) rfl) rfl ⟨rfl,?_⟩;exact ((aA l).2.2.1.trans (aA H9)).trans' (aA Y).2 (fun _ _ h=>h) (fun i hi e=>a_)
  ·
    rw [ah C];have o:a.length<=64:=a_;have a9:decide ((64:Int)<(a.length:Int))=false:=su a_;obtain⟨d,L⟩:∃ d,d=a:=⟨_,rfl⟩;subst L;obtain⟨g,j⟩:∃ v,v=aAP A d.length c:=⟨_,rfl⟩
    have l:Hid ((((w.alloc (.cells #[.slice A d.length c] 74)).alloc (.cells (DD 32 (.int .u8 0)) 142)).cell? ⟨w.heap.size,0,none⟩=some g) /\
        Reads ((w.alloc (.cells #[.slice A d.length c] 74)).alloc (.cells (DD 32 (.int .u8 0)) 142)) 1 g d.length (d.map j_)/\Ext w ((w.alloc (.cells #[.slice A d.length c] 74)).alloc (.cells (DD 32 (.int .u8 0)) 142)) /\
        eu ((w.alloc (.cells #[.slice A d.length c] 74)).alloc (.cells (DD 32 (.int .u8 0)) 142)) (w.heap.size+1) 142 (DD 32 (.int .u8 0))):=hide ⟨by rw[j];exact iZ _ _ (iQ _ _ _ rfl rfl),by rw[j];exact (aA b2).ext (((Ext.refl w).alloc _).alloc _),((Ext.refl w).alloc _).alloc _,eu.new' _ _ _ d_⟩
    have b8:=hide j;clear j C
    go_enter func179,ntmps179
    have b5:=hide o
    go_wp2_with fail
    refine (aOh 54 _ rfl d w.heap.size g _ (aA l).1 (aA l).2.1 o).mono ?_;rintro e w2 ⟨g2,rfl,Q,X⟩;have H2:=hide (az Q X);clear Q X
    go_wp2_with (at_builtin;refine aGd rfl rfl gV rfl (aA H2).1 a_ rfl (((aA HB).ext (aA l).2.2.1).ext (aA H2).2) (dN.u8 b) a_ ?_;intro A3 c3 w3 I W;have H3:=hide (az I W);clear I W)
    refine (sum_any (qI d 54++b) _ _ (((aA HM).ext (aA l).2.2.1).ext ((aA H2).2.trans (aA H3).2)) ?hr (by rw[gz,iP];omega)).mono ?_
    case hr=>have:=(aA H3).1;rw[<-aBc] at this;rw[gz,iP];exact this
    rintro e w4 ⟨rfl,V⟩;obtain⟨E,f⟩:∃ r,((sha (qI d 54++b)).map j_).toArray=r:=⟨_,rfl⟩;have a4:=hide f;have z:=hide (show E.size=32/\E.all (·.oneCell')=true from by rw[<-f];exact⟨by simpa using dD _,dJ _⟩);rw[f];have H4:=hide ((aA H2).2.trans ((aA H3).2.trans V));clear f V
    go_wp2_with (refine aT (ty:=142) (t:=142) (x:=.tmp 7) (y:=.tmp 19) rfl rfl fK rfl rfl (eu.new w4 _ _) rfl (aA z).1 (aA z).2 ?_;intro Z O N F;have H5:=hide (az O (az N F));clear O N F)
    have m:=hide ((aA H4).trans (((Ext.refl w4).alloc (.cells #[gp uC 0,gp uC 0,gp uC 0,gp uC 0,gp uC 0,gp uC 0,gp uC 0,gp uC 0,gp uC 0,gp uC 0,gp uC 0,gp uC 0,gp uC 0,gp uC 0,gp uC 0,gp uC 0,gp uC 0,gp uC 0,gp uC 0,gp uC 0,gp uC 0,gp uC 0,gp uC 0,gp uC 0,gp uC 0,gp uC 0,gp uC 0,gp uC 0,gp uC 0,gp uC 0,gp uC 0,gp uC 0] 142)).trans' (aA H5).2.1 (fun _ _ h=>h) (fun i hi e=>a_)))
    have a2:=hide (show Reads Z 1 (.slice (some ⟨w4.heap.size,0,none⟩) 32 32) 32 ((sha (qI d 54++b)).map j_) from by
      have:=Reads.zf (aA H5).1 (i:=0) (n:=32) (c:=32) (by rw[(aA z).1];omega) a_ (by unfold uu;omega);rw[<-aA a4] at this;simp only[aBk] at this
      rwa [WF (by rw[aAB,dD];omega)] at this)
    go_region_law (first
      |(refine aRe (s:=.tmp 21) (x:=.tmp 22) rfl rfl gV rfl (aA H6).1 a_ rfl ((aA a2).ext (((Ext.refl Z).drew).trans (aA H6).2)) (dN.u8 _) a_ ?_;intro A8 c8 w8 H T;have H8:=hide (az H T);clear H T)
      |(go_simp;go_at_call 192;refine (aOh 92 _ rfl d w.heap.size g _ (Ext.jh ((aA m).drew) (aA l).1) ((aA l).2.1.ext ((aA m).drew)) o).mono ?_;rintro e w6 ⟨g6,rfl,P,U⟩;have H6:=hide (az P U);clear P U)
      | (
       rename_i K hK;go_simp;go_at_call 191;refine (sum_any (qI d 92++sha (qI d 54++b)) _ _ ((((aA HM).ext (aA l).2.2.1).ext (aA m)).ext (((Ext.refl Z).drew).trans ((aA H6).2.trans (aA H8).2))) ?_ ?_).mono ?_;(focus (have:=(aA H8).1;rw[<-aBc] at this;rw[gz,iP,dD];exact this));(focus (rw[gz,iP,dD];omega));rintro e w9 ⟨rfl,S⟩;have H9:=hide ((aA m).trans (((Ext.refl Z).drew).trans ((aA H6).2.trans ((aA H8).2.trans S))));clear S;dsimp only;refine hK _ _ ?_;clear hK K;refine aAU (rs:=[5]) ai d_ (AllReady.cons rfl (fun J hJ=>?_) AllReady.nil);refine jQ (ty:=142) (t:=142) (x:=.tmp 4) (y:=.tmp 24) rfl rfl fK rfl rfl ((aA l).2.2.2.ext (aA H9)) ?_ ?_ ?_ ?_;rw[aFM];simpa using dD _;exact dJ _;intro b3 u q G;have Y:=hide (az u q);clear u q G;refine hJ _ _ ?_
       clear hJ J))
    go_wp2
    refine aAT (v:=.agg ((sha (qI d 92++sha (qI d 54++b))).map j_).toArray) (dQ fK rfl (aA Y).1 (by simpa using dD _) rfl) rfl ⟨rfl,?_⟩;exact ((aA l).2.2.1.trans (aA H9)).trans' (aA Y).2 (fun _ _ h=>h) (fun i hi e=>a_)
def zig(n:Int):Nat:=if 0<=n then (2*n).toNat else (-2*n-1).toNat
def varint:Nat->Nat->List UInt8
 |0,u=>[xy u]|f+1,u=>if u<128 then[xy u] else xy (128+u % 128)::varint f (u / 128)
def dn(n:Int):List UInt8:=varint 9 (zig n)
def bI(l:List UInt8):List UInt8:=dn l.length++l
theorem kW{f u:Nat}(h:u<128):varint f u=[xy u]:=by cases f with
 |zero=>rfl|succ f=>rw[varint,if_pos h]
theorem oU{f u:Nat}(h:¬u<128):varint (f+1) u=xy (128+u % 128)::varint f (u / 128):=by rw[varint,if_neg h]
theorem aNd(f u:Nat):(varint f u).length<=f+1:=by
 induction f generalizing u with
 |zero=>simp[varint]|succ f a=>rw[varint];split;simp;simp;exact a _
theorem aO(n:Int):(dn n).length<=10:=aNd 9 _
theorem fG(l:List UInt8):(bI l).length<=10+l.length:=by unfold bI;have:=aO l.length;simp;omega
theorem aKm{n:Int}(h1:-9223372036854775808<=n)(h2:n<9223372036854775808):zig n<18446744073709551616:=by unfold zig;split<;>omega
theorem aHL:∀ x,x<256->x ||| 128=128+x % 128:=by decide +kernel
theorem bLr(u:Nat):bits BinOp.or uC ((u:Int) % 256) 128=((xy (128+u % 128)).toNat:Int):=by
 rw[u8_or _ _ (by omega) (by omega) (by omega) (by omega)];have e:((u:Int) % 256).toNat=u % 256:=by omega
 rw[e,show (128:Int).toNat=128 from rfl,aHL _ (by omega)];simp;omega
def VH(x:Nat):Prop:=x<18446744073709551616
def WI(n:Int)(w:ae)(x f m:Nat)(v:ag)(wr:ae):Prop:=∃ a:di,dn n=a++varint f x/\m=a.length/\x<128 ^ (f+1)/\f<=9/\wr.ownsRow w.heap.size 5 1 v m (a.map j_)/\Ext w wr
theorem WI.small{n:Int}{w wr:ae}{x f m:Nat}{v:ag}(h:WI n w x f m v wr):m<=10:=by obtain⟨a,b,rfl,_⟩:=h;have:=aO n;rw[b] at this;simp at this;omega
theorem WI.app{n:Int}{w wr a:ae}{x f m:Nat}{A p:Option uB}{c l:Nat}(h:WI n w x f m (.slice A m c) wr)(q:¬x<128)
  (r:a.ownsRow w.heap.size 5 1 (.slice p (m+1) l) (m+1) ((h.choose).map j_++[j_ (xy (128+x % 128))])) {o:Obj} (hc:gq (fun k=>(aAP A m c).ownBlock=some k) (wr.alloc o) a) :
  ∃ g,WI n w (x / 128) g (m+1) (.slice p (m+1) l) a:=by
 obtain⟨j,u,d,z,t,s⟩:=h.choose_spec;generalize h.choose=b at *;cases f with
 |zero=>simp at d;omega|succ g=>rw[oU q] at j;refine⟨g,b++[xy (128+x % 128)],by rw[j];simp,by simp[u],?_,a_,by simpa using r,(s.alloc o).trans' hc (fun _ _ h=>h) (fun i y e=>by have:=t.lt i e;omega)⟩;rw[Nat.pow_succ] at d;exact Nat.div_lt_of_lt_mul (by rw[Nat.mul_comm];exact d)
theorem WI.last{n:Int}{w wr a:ae}{x f m:Nat}{A g:Option uB}{c d:Nat}(h:WI n w x f m (.slice A m c) wr)(l:x<128)
  (p:a.ownsRow w.heap.size 5 1 (.slice g (m+1) d) (m+1) ((h.choose).map j_++[j_ (xy x)])) {o:Obj} (hc:gq (fun k=>(aAP A m c).ownBlock=some k) (wr.alloc o) a) :
  m+1=(dn n).length/\a.ownsRow w.heap.size 5 1 (.slice g (m+1) d) (m+1) ((dn n).map j_)/\Ext w a:=by
 obtain⟨b,s,y,u,r,q⟩:=h.choose_spec;generalize h.choose=j at *;rw[kW l] at b;refine⟨by rw[b];simp[s],by rw[b];simpa using p,(q.alloc o).trans' hc (fun _ _ h=>h) (fun i t e=>by have:=r.lt i e;omega)⟩
theorem aHR(a:Nat)(h:a<18446744073709551616):bits BinOp.xor IntKind.u64 IntKind.u64.max (a:Int)=((18446744073709551615-a:Nat):Int):=by
 have e:=u64_xor IntKind.u64.max (a:Int) jb jb a_ a_;rw[e];have c:(UInt64.ofNat a).toNat=a:=l7;have b:(-1 ^^^ UInt64.ofNat a).toNat=18446744073709551615-a:=by rw[UInt64.neg_one_xor,UInt64.toNat_not,c];rfl
 rw[UInt64.toNat_xor,c] at b;rw[<-b];rfl
theorem R_(n:Int)(h0:0<=n)(h2:n<9223372036854775808):IntKind.wrap .u64 (IntKind.wrap .u64 n*2)=(zig n:Int):=by rw[aDD,aDD];unfold zig;rw[au h0];omega
theorem RD(n:Int)(h0:n<0)(h1:-9223372036854775808<=n):bits BinOp.xor IntKind.u64 IntKind.u64.max (IntKind.wrap .u64 (IntKind.wrap .u64 n*2))=(zig n:Int):=by
 have e:IntKind.wrap .u64 (IntKind.wrap .u64 n*2)=((2*n+18446744073709551616).toNat:Int):=by rw[aDD,aDD];omega
 rw[e,aHR _ a_];unfold zig;rw[ah a_];omega
theorem WI.start{n:Int}(h1:-9223372036854775808<=n)(h2:n<9223372036854775808)(w:ae):WI n w (zig n) 9 0 (.slice none 0 0) w:=⟨[],rfl,rfl,aAF (aKm h1 h2) jb,a_,aEx _ _ _ _,Ext.refl _⟩
theorem bDf(n:Int)(w:ae)(h1:-9223372036854775808<=n)(h2:n<9223372036854775808) :
  lL prog 41 #[.int .i64 n] w fun e c=>e=.returned (.int .u64 (zig n:Int))/\w=c:=by
 by_cases b:0<=n
 ·have a:=hide (show ((zig n:Nat):Int)=2*n from by unfold zig;rw[au b];omega)
  go_enter func41,ntmps41
  go_wp2
  go_ret;exact⟨vM (by first|exact (aA a).symm|(rw[aA a];omega)|(rw[aA a];simp[aDD];omega)),rfl⟩
 ·have a:=hide (show ((zig n:Nat):Int) = -2*n-1 from by unfold zig;rw[ah b];omega);have f:decide (0<=n)=false:=su b;have d:n<0:=a_;clear b
  go_enter func41,ntmps41
  go_wp2
  go_ret;exact⟨vM (by first|exact (aA a).symm|(rw[aA a];omega)|(rw[aA a];simp[aDD];omega)),rfl⟩
theorem aBy(n:Int)(w:ae)(h1:-9223372036854775808<=n)(h2:n<9223372036854775808) :
  lL prog 24 #[.int .i64 n] w fun e l=>∃ A c,e=.returned (.slice A (dn n).length c)/\l.ownsRow w.heap.size 5 1 (.slice A (dn n).length c) (dn n).length ((dn n).map j_)/\Ext w l:=by
 have a:=hide (WI.start h1 h2 w);have C:=hide (show VH (zig n) from aKm h1 h2);have r:=hide (fun w=>bDf n w h1 h2);clear h1 h2
 go_enter func24,ntmps24
 go_wp2_with (go_at_call 41;refine (aA r _).mono ?_;rintro e l ⟨rfl,rfl⟩)
 generalize zig n=z at *
 go_loopw [3,4] (fun u b wr=>∃ (x f m:Nat) (A:Option uB) (c:Nat),u=.int .u64 (x:Int)/\VH x/\b=.slice A m c/\Hid (WI n w x f m (.slice A m c) wr)) (fun u _ _=>(intOf u).toNat)
 case atStart=>exact⟨z,9,0,none,0,rfl,aA C,rfl,a⟩
 case round=>
  clear a C;obtain⟨x,f,m,A,c,rfl,d,rfl,a⟩:=hrel;have H:=(aA a).small;by_cases j:x<128
  ·have t:=hide (show (x:Int)=((xy x).toNat:Int) from l7)
   go_wp2_with (at_builtin;refine bQ rfl rfl gV rfl (bP (aA a).choose_spec.2.2.2.2.1 ((Ext.refl wr).alloc _)) rfl (Reads.yj _ _ _) (dN.one rfl) a_ (by have:=(aA a).choose_spec.2.2.2.2.2.size';simp;omega) ?_;intro D B E i k q;have s:=hide (az i k);clear i k q)
   go_ret;obtain⟨h,p⟩:=aA s;rw[aA t] at h;obtain⟨o,y,F⟩:=(aA a).last j h p;rw[o] at y ⊢
   exact⟨_,_,rfl,y,F⟩
  ·have G:IntKind.wrap .u64 ((x:Int) / 128)=((x / 128:Nat):Int):=by rw[aDD];unfold VH at d;omega
   have t:=hide (show 128+(x:Int) % 128=((xy (128+x % 128)).toNat:Int) from l7)
   go_wp2_with (at_builtin;refine bQ rfl rfl gV rfl (bP (aA a).choose_spec.2.2.2.2.1 ((Ext.refl wr).alloc _)) rfl (Reads.yj _ _ _) (dN.one rfl) a_ (by have:=(aA a).choose_spec.2.2.2.2.2.size';simp;omega) ?_;intro D B E i k q;have s:=hide (az i k);clear i k q)
   go_roundw
   case rel=>obtain⟨h,p⟩:=aA s;rw[aA t] at h;obtain⟨g,o⟩:=(aA a).app j h p;exact⟨x / 128,g,m+1,D,B,by go_num,by unfold VH at d ⊢;omega,rfl,hide o⟩
   case measure=>simp[intOf];omega
theorem yR(n:Int)(w:ae)(h1:-9223372036854775808<=n)(h2:n<9223372036854775808) :
  lL prog 107 #[.int .i64 n] w fun e I=>∃ A c,e=.returned (.slice A (dn n).length c)/\I.ownsRow w.heap.size 5 1 (.slice A (dn n).length c) (dn n).length ((dn n).map j_)/\Ext w I:=by
 have a:=hide (WI.start h1 h2 w);have C:=hide (show VH (zig n) from aKm h1 h2);rcases Int.lt_or_le n 0 with B|B
 ·have F:=RD n B h1;have H:decide (n<0)=true:=mi B;clear h1 h2
  go_enter func107,ntmps107
  go_wp2
  go_step3
  go_wp2
  go_step3
  go_wp2
  generalize zig n=z at *;clear F H
  go_loopw [3,4] (fun u b wr=>∃ (x f m:Nat) (A:Option uB) (c:Nat),u=.int .u64 (x:Int)/\VH x/\b=.slice A m c/\Hid (WI n w x f m (.slice A m c) wr)) (fun u _ _=>(intOf u).toNat)
  case atStart=>exact⟨z,9,0,none,0,rfl,aA C,rfl,a⟩
  case round=>
   clear a C;obtain⟨x,f,m,A,c,rfl,h,rfl,a⟩:=hrel;have J:=(aA a).small;by_cases j:x<128
   ·have r:=hide (show (x:Int)=((xy x).toNat:Int) from l7)
    go_wp2_with (at_builtin;refine bQ rfl rfl gV rfl (bP (aA a).choose_spec.2.2.2.2.1 ((Ext.refl wr).alloc _)) rfl (Reads.yj _ _ _) (dN.one rfl) a_ (by have:=(aA a).choose_spec.2.2.2.2.2.size';simp;omega) ?_;intro y t D i k p;have q:=hide (az i k);clear i k p)
    try rw[Exit.noGoto_ret]
    go_ret;obtain⟨d,o⟩:=aA q;rw[aA r] at d;obtain⟨l,s,E⟩:=(aA a).last j d o;rw[l] at s ⊢
    exact⟨_,_,rfl,s,E⟩
   ·have G:(x:Int).fdiv (2 ^ min (aBF 7) IntKind.u64.bits)=((x / 128:Nat):Int):=by
     show (x:Int).fdiv 128=_;rw[aJw _ a_];omega
    have r:=hide (bLr x)
    go_wp2_with (at_builtin;refine bQ rfl rfl gV rfl (bP (aA a).choose_spec.2.2.2.2.1 ((Ext.refl wr).alloc _)) rfl (Reads.yj _ _ _) (dN.one rfl) a_ (by have:=(aA a).choose_spec.2.2.2.2.2.size';simp;omega) ?_;intro y t D i k p;have q:=hide (az i k);clear i k p)
    go_roundw
    case rel=>obtain⟨d,o⟩:=aA q;rw[aA r] at d;obtain⟨g,l⟩:=(aA a).app j d o;exact⟨x / 128,g,m+1,y,t,by go_num,by unfold VH at h ⊢;omega,rfl,hide l⟩
    case measure=>simp[intOf];omega
 ·have F:=R_ n B h2;have H:decide (n<0)=false:=su a_;clear h1 h2
  go_enter func107,ntmps107
  go_wp2
  go_step3
  go_wp2
  go_step3
  go_wp2
  generalize zig n=z at *;clear F H
  go_loopw [3,4] (fun u b wr=>∃ (x f m:Nat) (A:Option uB) (c:Nat),u=.int .u64 (x:Int)/\VH x/\b=.slice A m c/\Hid (WI n w x f m (.slice A m c) wr)) (fun u _ _=>(intOf u).toNat)
  case atStart=>exact⟨z,9,0,none,0,rfl,aA C,rfl,a⟩
  case round=>
   clear a C;obtain⟨x,f,m,A,c,rfl,h,rfl,a⟩:=hrel;have J:=(aA a).small;by_cases j:x<128
   ·have r:=hide (show (x:Int)=((xy x).toNat:Int) from l7)
    go_wp2_with (at_builtin;refine bQ rfl rfl gV rfl (bP (aA a).choose_spec.2.2.2.2.1 ((Ext.refl wr).alloc _)) rfl (Reads.yj _ _ _) (dN.one rfl) a_ (by have:=(aA a).choose_spec.2.2.2.2.2.size';simp;omega) ?_;intro y t D i k p;have q:=hide (az i k);clear i k p)
    try rw[Exit.noGoto_ret]
    go_ret;obtain⟨d,o⟩:=aA q;rw[aA r] at d;obtain⟨l,s,E⟩:=(aA a).last j d o;rw[l] at s ⊢
    exact⟨_,_,rfl,s,E⟩
   ·have G:(x:Int).fdiv (2 ^ min (aBF 7) IntKind.u64.bits)=((x / 128:Nat):Int):=by
     show (x:Int).fdiv 128=_;rw[aJw _ a_];omega
    have r:=hide (bLr x)
    go_wp2_with (at_builtin;refine bQ rfl rfl gV rfl (bP (aA a).choose_spec.2.2.2.2.1 ((Ext.refl wr).alloc _)) rfl (Reads.yj _ _ _) (dN.one rfl) a_ (by have:=(aA a).choose_spec.2.2.2.2.2.size';simp;omega) ?_;intro y t D i k p;have q:=hide (az i k);clear i k p)
    go_roundw
    case rel=>obtain⟨d,o⟩:=aA q;rw[aA r] at d;obtain⟨g,l⟩:=(aA a).app j d o;exact⟨x / 128,g,m+1,y,t,by go_num,by unfold VH at h ⊢;omega,rfl,hide l⟩
    case measure=>simp[intOf];omega
def strOf(l:di):jy:=⟨l.toArray⟩
theorem kG(s:jy):strOf s.data.toList=s:=by cases s;simp[strOf]
theorem bY(l:di):(strOf l).data.toList=l:=by simp[strOf]
theorem bC(l:di):(strOf l).size=l.length:=by simp[strOf,ByteArray.size]
def uF(b:UInt8):ag:=.int .u8 (b.toNat:Int)
section
variable {P:ed}
theorem aDh{src dst e:bu}(hs:P.underlying src=some (.slice e))(g:P.underlying e=some (.int .u8))(hd:P.underlying dst=some .string){w:ae}{v:ag}{n:Nat}{l:di}(hr:Reads w 1 v n (l.map uF)) :
  (convert src dst v).run P w=.ok (.string (strOf l)) w:=by
 obtain⟨f,A,c,rfl,_,_,h⟩:=hr;rw[aAB,aBq] at f;subst f;cases A with
 | none=>
  have:l=[]:=by
   cases l with
   |nil=>rfl|cons x l=>obtain⟨b,o,e,_⟩:=h d_;cases e
  subst this;exact run_convert_bytes_nil w src e hs g _ c dst hd
 |some a=>refine run_convert_bytes_back w src dst e a c l hs g hd fun j i=>?_;obtain⟨b,o,k,d⟩:=h a_;cases k;rw[add_lit];exact d j _ (by rw[aAg,zH i];rfl)
theorem aRs{src dst e:bu}(hs:P.underlying src=some .string)(hd:P.underlying dst=some (.slice e))(k:P.underlying e=some (.int .u8))(w:ae)(s:jy)(g:s.size<=uu) :
  ∃ c a,(convert src dst (.string s)).run P w=.ok (.slice (some ⟨w.heap.size,0,none⟩) s.size c) a/\Reads a 1 (.slice (some ⟨w.heap.size,0,none⟩) s.size c) s.size (s.data.toList.map uF)/\Ext w a/\(∀ i,i<s.size->a.frozen? ⟨w.heap.size,i,none⟩=false):=by
 refine⟨_,_,run_bytes_of_string w src dst e s hs hd k,⟨by rw[aAB,nz,aBq];rfl,_,_,rfl,?_,grownCap_le_maxLen w s.size 0 e g,fun _=>⟨_,_,rfl,fun j u b=>?_⟩⟩,((Ext.refl w).drew).alloc _,fun i m=>?_⟩;simpa using grownCap_ge w s.size 0 e;have d:j<s.data.size:=by rcases aAW j s.data.size with h|h;exact h;rw[PR (by simpa using h)] at b;cases b
 have l:=World.cell?_alloc_mark w.drew (aAH s (aAI w s.size 0 e)) e ((aAH s (aAI w s.size 0 e)).size,(aAH s (aAI w s.size 0 e)).size+1) j;rw[mf];refine Eq.trans l ?_;rw[bytesRow_at s _ j d,<-b,aAg,aEE,aCF d];rfl;have f:(aAH s (aAI w s.size 0 e)).size>=s.size:=by unfold aAH;rw[Array.size_append,Array.size_map];exact Nat.le_add_right _ _
 show (w.drew.alloc (.cells (aAH s (aAI w s.size 0 e)) e ((aAH s (aAI w s.size 0 e)).size,(aAH s (aAI w s.size 0 e)).size+1))).frozen? ⟨w.drew.heap.size,i,none⟩=false;have:(w.drew.alloc (.cells (aAH s (aAI w s.size 0 e)) e ((aAH s (aAI w s.size 0 e)).size,(aAH s (aAI w s.size 0 e)).size+1))).heap[w.drew.heap.size]?=some (.cells (aAH s (aAI w s.size 0 e)) e ((aAH s (aAI w s.size 0 e)).size,(aAH s (aAI w s.size 0 e)).size+1)):=aDd _ _;unfold aFa;rw[this];simp;omega
theorem zZ{ops:Array ik}{rest:List ik}{o:ik}{a:Act}{w:ae}{Q:uk->Act->jg}(f:o.guard=none){src dst e:bu}{x:uA}(j:o.op=.convert src dst x)
  (hs:P.underlying src=some .string) (hd:P.underlying dst=some (.slice e)) (l:P.underlying e=some (.int .u8)) {s:jy} (g:a.eval x=.string s) (k:s.size<=uu)
  (h:∀ c b,Reads b 1 (.slice (some ⟨w.heap.size,0,none⟩) s.size c) s.size (s.data.toList.map uF)->Ext w b->(∀ i,i<s.size->b.frozen? ⟨w.heap.size,i,none⟩=false)->aBj P ops Q rest (a.put o.dst (.slice (some ⟨w.heap.size,0,none⟩) s.size c)) b):aBj P ops Q (o::rest) a w:=
 wpList_plain f fun _ m=>by obtain⟨c,b,d,q,p,n⟩:=aRs (P:=P) hs hd l w s k;unfold Oper.wp xe;simp only[j,g,d,Sem.run_bind,Sem.run_pure,Result.andThen_ok];exact m _ _ (h c b q p n)
theorem sG{ops:Array ik}{rest:List ik}{o:ik}{a:Act}{w:ae}{Q:uk->Act->jg}(c:o.guard=none){src dst e:bu}{x:uA}(f:o.op=.convert src dst x)
  (hs:P.underlying src=some (.slice e)) (g:P.underlying e=some (.int .u8)) (hd:P.underlying dst=some .string) {v:ag} (d:a.eval x=v) {n:Nat} {l:di} (hr:Reads w 1 v n (l.map uF))
  (h:aBj P ops Q rest (a.put o.dst (.string (strOf l))) w):aBj P ops Q (o::rest) a w:=
 wpList_plain c fun _ i=>by have b:=aDh (P:=P) hs g hd hr;unfold Oper.wp xe;simp only[f,d,b,Sem.run_bind,Sem.run_pure,Result.andThen_ok];exact i _ _ h
theorem aVq{ops:Array ik}{rest:List ik}{o:ik}{a:Act}{w:ae}{Q:uk->Act->jg}(r:o.guard=none){p x:uA}{t u:bu}
  (J:o.op=.call { callee:=.builtin .append,args:=#[p,x],argTypes:=#[t,u] })
  {B:Nat} {e:bu} (T:AZ P t e 1 1) (A:(P.info? e).map (·.zero)=some (some (.int .u8 0))) (H:P.underlying u=some .string) {v:ag} {n:Nat} {xs:jl} (hs:a.eval p=v) (g:w.ownsRow B e 1 v n xs) {s:jy} (G:a.eval x=.string s)
  (b:n+s.size<=140737488355328) (d:B<=w.heap.size)
  (h:∀ (m:Option uB) (l:Nat) f,f.ownsRow B e 1 (.slice m (n+s.size) l) (n+s.size) (xs++s.data.toList.map uF)->gq (fun k=>v.ownBlock=some k) w f->aBj P ops Q rest (a.put o.dst (.slice m (n+s.size) l)) f):aBj P ops Q (o::rest) a w:=by
 obtain⟨I,⟨i,z,C,F,c,y,E⟩,_,_⟩:=T;have q:i.zero=some (.int .u8 0):=by rw[C] at A;simpa using A
 refine Lib.wpList_append_own_string (P:=P) (w:=w) r p x t u J B e i I H C q c y v n xs hs g s G (by unfold uu;omega) b d fun N f D j _=>?_;obtain⟨m,l,rfl⟩:=pX D;exact h m l f D ⟨j.os,j.tape,j.output,j.size,fun k L K=>j.block k L (fun e=>K e.symm)⟩
end
end
section
theorem bIq:(prog.info? 5).map (·.zero)=some (some (.int .u8 0)):=ai
theorem aKr(s:jy):(bI s.data.toList).length=(dn s.size).length+s.size:=by unfold bI;rw[gz,nz];rfl
theorem aKq(s:jy):(bI s.data.toList).map j_=(dn s.size).map j_++s.data.toList.map uF:=by unfold bI;rw[aBc,nz];rfl
theorem yS(s:jy)(w:ae)(hs:s.size<=1000000000) :
  lL prog 145 #[.string s] w fun e d=>∃ A c,e=.returned (.slice A (bI s.data.toList).length c)/\d.ownsRow w.heap.size 5 1 (.slice A (bI s.data.toList).length c) (bI s.data.toList).length ((bI s.data.toList).map j_)/\Ext w d:=by
 have n:=hide (fun w=>yR (s.size:Int) w a_ a_);have k:=hide (aKr s);have p:=hide (aKq s);have u:=aO (s.size:Int)
 go_enter func145,ntmps145
 go_wp2_with fail
 refine (aA n _).mono ?_;rintro e t ⟨A,c,rfl,a,g⟩;have b:=hide (az a g);clear a g
 go_wp2_with (at_builtin;refine aVq rfl rfl gV bIq underlying9 rfl (aA b).1 rfl a_ (aA b).2.size' ?_;intro q m r a f;have o:=hide (az a f);clear a f)
 go_ret;obtain⟨j,l⟩:=aA o;rw[<-aA k,<-aA p] at j
 exact⟨q,m,by rw[aA k];rfl,j,(aA b).2.trans' l (fun _ _ h=>h) (fun i x e=>by have:=((aA b).1.lt i e).1;omega)⟩
theorem uM(s:jy)(w:ae)(hs:s.size<=1000000000) :
  lL prog 39 #[.string s] w fun e k=>∃ A c,e=.returned (.slice A (bI s.data.toList).length c)/\k.ownsRow w.heap.size 5 1 (.slice A (bI s.data.toList).length c) (bI s.data.toList).length ((bI s.data.toList).map j_)/\Ext w k:=by
 have t:=hide (fun w=>aBy (s.size:Int) w a_ a_);have o:=hide (aKr s);have y:=hide (aKq s);have E:=aO (s.size:Int)
 go_enter func39,ntmps39
 go_wp2_with fail
 refine (aA t _).mono ?_;rintro e D ⟨A,c,rfl,b,m⟩;have g:=hide (az b m);clear b m
 go_wp2_with (first
  |(refine zZ (src:=9) (dst:=74) (x:=.tmp 6) (s:=s) rfl rfl underlying9 underlying74 underlying5 rfl (by unfold uu;omega) ?_;intro G C a d j;have f:=hide (az a d);clear a d j)
  |(at_builtin;refine bQ rfl rfl gV rfl (bP (aA g).1 (aA f).2) rfl (aA f).1 (dN.map (fun _=>rfl) _) a_ (ry (aA g).2.size' (aA f).2.size') ?_;intro z r B b l p;have u:=hide (az b l);clear b l p))
 go_ret;obtain⟨n,q⟩:=aA u;rw[<-aA o,<-aA y] at n
 exact⟨z,r,by rw[aA o];rfl,n,((aA g).2.trans (aA f).2).trans' q (fun _ _ h=>h) (fun i F e=>by have:=((aA g).1.lt i e).1;omega)⟩
theorem bF:zk prog 23 16:=⟨⟨_,underlying23,rfl⟩,ai⟩
theorem short_any(l:di)(w:ae)(hl:l.length=32) :
  lL prog 178 #[.agg (l.map j_).toArray] w fun e s=>e=.returned (.agg ((l.take 16).map j_).toArray)/\Ext w s:=by
 obtain⟨k,b⟩:∃ r,(l.map j_).toArray=r:=⟨_,rfl⟩;obtain⟨d,a⟩:∃ r,((l.take 16).map j_).toArray=r:=⟨_,rfl⟩;have p:=hide (az b hl);have z:=hide a;have o:=hide (show d.size=16/\d.all (·.oneCell')=true from by rw[<-a];exact⟨l7,dJ _⟩);rw[b,a];clear b a hl;have u:=fun X=>bAp (P:=prog) underlying23 (ad:=some ⟨w.heap.size,0,none⟩) (len:=16) (c:=32) a_ X
 go_enter func178,ntmps178
 go_wp2_with (first
  |(refine sH (ty:=23) (x:=.tmp 4) rfl rfl bF rfl (arr:=d) (cs:=(l.take 16).map j_) ?_ ?_ (aA z) ?_;(focus (refine rG (w:=w.alloc (.cells k 142)) (S:=Non) (fun j v m=>?_) ((Ext.refl _).alloc _) (fun h=>h);rw[mf,(eu.new w _ k).cell,<-(aA p).1];rw[aEA,yf] at m;split at m;(simpa using m);(cases m)));(focus (have:=(aA p).2;simp;omega)))
  |(refine aT (ty:=23) (t:=23) (x:=.tmp 2) (y:=.tmp 5) rfl rfl bF rfl rfl (eu.new' _ _ _ ?_) rfl (aA o).1 (aA o).2 ?_;(focus (simp;done));intro A g f n;have q:=hide (az g f);clear g f n))
 refine aAT (v:=.agg d) (dQ bF rfl (aA q).1 (aA o).1 rfl) rfl ⟨rfl,?_⟩;exact (((Ext.refl w).alloc _).alloc _).trans' (aA q).2 (fun _ _ h=>h) (fun i B e=>a_)
theorem bMs(a b:di)(w:ae):lL prog 178 #[.agg ((Bf a b).map j_).toArray] w fun e c=>e=.returned (.agg ((Gz a b).map j_).toArray)/\Ext w c:=short_any _ _ (jS _ _)
theorem nY(a b:di):(Gz a b).length=16:=by unfold Gz;rw[ww,jS];omega
theorem aYb(a b:di)(j n:ag)(w:ae)(p:af w)(o:Reads w 1 j a.length (a.map j_))(hb:Reads w 1 n b.length (b.map j_))(l:a.length<=1000000)(m:b.length<=1000000) :
  lL prog 146 #[j,n] w fun e z=>e=.returned (.agg ((Gz a b).map j_).toArray)/\Ext w z:=by
 have A:=hide (aOx a b j n _ (p.ext ((Ext.refl w).alloc (.cells (DD 16 (.int .u8 0)) 23))) (o.ext ((Ext.refl w).alloc _)) (hb.ext ((Ext.refl w).alloc _)) l m);have r:=hide (nY a b);clear p o hb
 go_enter func146,ntmps146
 go_wp2_with fail
 refine (aA A).mono ?_;rintro e D ⟨rfl,d⟩
 go_wp2_with fail
 refine (bMs a b _).mono ?_;rintro e C ⟨rfl,c⟩;have q:=(eu.new w 23 (DD 16 (.int .u8 0))).ext (d.trans c);have s:=hide (az q (d.trans c));clear q d c
 go_wp2_with (refine aT (ty:=23) (t:=23) (x:=.tmp 4) (y:=.tmp 8) rfl rfl bF rfl rfl (aA s).1 d_ ?_ (dJ _) ?_;(focus (simpa using aA r));intro B g f k;have u:=hide (az g f);clear g f k)
 refine aAT (v:=.agg ((Gz a b).map j_).toArray) (dQ bF rfl (aA u).1 (by simpa using aA r) rfl) rfl ⟨rfl,?_⟩;exact (((Ext.refl w).alloc _).trans (aA s).2).trans' (aA u).2 (fun _ _ h=>h) (fun i E e=>a_)
def Parts(w:ae)(v:ag)(b:List di):Prop:=∃ a:jl,a.length=b.length/\Reads w 1 v b.length a/\∀ (i:Nat) (p:di),b[i]?=some p->∃ u,a[i]?=some u/\Reads w 1 u p.length (p.map j_)
theorem Parts.ext{w w':ae}{v:ag}{a:List di}(h:Parts w v a)(b:Ext w w'):Parts w' v a:=by obtain⟨c,k,j,g⟩:=h;refine⟨c,k,j.ext b,fun i p d=>?_⟩;obtain⟨u,f,e⟩:=g i p d;exact⟨u,f,e.ext b⟩
theorem Parts.nil(w:ae):Parts w (.slice none 0 0) []:=⟨[],rfl,Reads.nil w 1,fun i p h=>by simp at h⟩
def encs(a:List di):di:=a.flatMap bI
theorem aJa(a:List di)(k:Nat)(h:k<a.length):encs (a.take (k+1))=encs (a.take k)++bI a[k]:=by unfold encs;rw[lJ a k h,aFe];simp
theorem aMg(a:List di)(M:Nat)(h:∀ p∈a,p.length<=M):(encs a).length<=a.length*(M+10):=by
 unfold encs
 induction a with
 |nil=>simp|cons p a b=>have f:=b fun q c=>h q (List.mem_cons_of_mem _ c);have e:=h p List.mem_cons_self;have d:=fG p;rw[aDQ,gz,We,aDL];omega
theorem TE(w:ae)(B:Nat)(e:bu)(x:ag)(a:B<=w.heap.size):(w.alloc (.cells #[x] e)).ownsRow B e 1 (.slice (some ⟨w.heap.size,0,none⟩) 1 1) 1 [x]:=⟨d_,.inr ⟨w.heap.size,1,#[x],rfl,a,aDd w _,dE _,by unfold uu;omega,rfl,rfl⟩⟩
theorem bBf(w:ae)(B:Nat)(e:bu)(x:ag){g:Nat}(a:g=w.heap.size)(b:B<=w.heap.size):(w.alloc (.cells #[x] e)).ownsRow B e 1 (.slice (some ⟨g,0,none⟩) 1 1) 1 [x]:=by subst a;exact TE w B e x b
theorem bBt(v:ag)(l:di)(pv:ag)(a:List di)(B:Nat)(w:ae)(h:w.ownsRow B 5 1 v l.length (l.map j_))(hB:B<=w.heap.size)(y:Parts w pv a)
  (hl:l.length<=1000000) (W:a.length<=1000) (g:∀ p∈a,p.length<=1000000) (hS:∀ X,gq (fun k=>v.ownBlock=some k) w X->Parts X pv a) :
  lL prog 149 #[v,pv] w fun e D=>∃ A c,e=.returned (.slice A (l++encs a).length c)/\D.ownsRow B 5 1 (.slice A (l++encs a).length c) (l++encs a).length ((l++encs a).map j_)/\Onto w v D (.slice A (l++encs a).length c):=by
 have H0:=hide h;have HP:=hide y;have HS:=hide hS;have C:=hide g;obtain⟨A1,c1,rfl⟩:∃ A c,pv=.slice A a.length c:=by obtain⟨T,_,⟨_,A,c,h,_⟩,_⟩:=y;exact⟨A,c,h⟩
 obtain⟨S,N,rfl⟩:=pX h;clear h y hS g
 go_enter func149,ntmps149
 go_wp2
 go_loopw [0,9] (fun b i wr=>∃ (k n:Nat) (A:Option uB) (c:Nat),k<=a.length/\i=.int .i64 k/\b=.slice A n c/\n<=1000000+k*1000010/\Hid (n=(l++encs (a.take k)).length/\wr.ownsRow B 5 1 (.slice A n c) n ((l++encs (a.take k)).map j_)/\Onto w (.slice S l.length N) wr (.slice A n c))) (fun _ i _=>a.length-(intOf i).toNat)
 case atStart=>exact⟨0,l.length,S,N,x8 _,rfl,rfl,a_,hide ⟨by simp[encs],by simpa[encs] using aA H0,Onto.refl _ _⟩⟩
 case round=>
  obtain⟨k,n,A,c,hk,rfl,rfl,hn,f⟩:=hrel;by_cases d:k<a.length
  ·have t:Parts wr (.slice A1 a.length c1) a:=aA HS wr (aA f).2.2.iw;obtain⟨T,U,G,F⟩:=t;obtain⟨u,E,s⟩:=F k a[k] (zH d);obtain⟨b,o,c',u',q,_,_,hb,H,Z⟩:=G.Ef d;cases q;rw[E] at H;cases H;obtain⟨Au,cu,rfl⟩:∃ A c,u=.slice A a[k].length c:=by obtain⟨_,A,c,h,_⟩:=s;exact⟨A,c,h⟩
   have Y:=aA C a[k] (aBI d);have z:=hide s;have P:=hide (aJa a k d);clear U G F E s;have V:=fG a[k];generalize a[k]=p at *;have O:=hide (fun w=>yS (strOf p) w (by rw[bC];omega));rw[bY] at O
   go_wp2_with (first
    |(refine sG (src:=74) (dst:=9) (x:=.tmp 14) (l:=p) rfl rfl underlying74 underlying5 underlying9 rfl (aA z) ?_)
    |(go_at_call 145;refine (aA O _).mono ?_;rintro e w3 ⟨A3,c3,rfl,j,m⟩;have r:=hide (az j m);clear j m)
    |(at_builtin;refine bQ rfl rfl gV rfl (bP (aA f).2.1 (aA r).2) rfl (Reads.ou (aA r).1) (dN.u8 _) a_ (ry hB (ry (aA f).2.2.iw.size (aA r).2.size')) ?_;intro A' c4 w4 I J q;have Q:=hide (az I (((aA f).2.2.ext (aA r).2).trans (Onto.app J q)));clear I J q))
   go_roundw
   case rel=>refine⟨k+1,n+(bI p).length,A',c4,a_,by go_num,rfl,by rw[aDL];omega,hide ⟨?_,?_,(aA Q).2⟩⟩;rw[aA P,<-GM,gz,<-(aA f).1];rw[aA P,<-GM,aBc];exact (aA Q).1
   case measure=>simp[intOf];omega
  ·obtain rfl:k=a.length:=a_
   go_wp2
   go_ret;obtain⟨L,K,h3⟩:=aA f;rw[aCR] at L K;subst L
   exact⟨A,c,rfl,K,h3⟩
def aAj(t:Int):UInt8:=xy (t % 256).toNat
theorem bAg(t:Int):t % 256=((aAj t).toNat:Int):=by unfold aAj;simp;omega
def mW(a:Int)(b:List di):di:=(sha ([aAj a]++encs b)).take 16
def mX(b a:di)(c:List di):di:=Gz b (bI a++encs c)
theorem jP(a:Int)(b:List di):(mW a b).length=16:=by unfold mW;rw[ww,dD];omega
theorem fU(b a:di)(c:List di):(mX b a c).length=16:=nY _ _
theorem aUk(a:Int)(b:List di)(w:ae):lL prog 178 #[.agg ((sha ([aAj a]++encs b)).map j_).toArray] w fun e c=>e=.returned (.agg ((mW a b).map j_).toArray)/\Ext w c:=short_any _ _ (dD _)
theorem bGq(a:Int)(b:List di)(pv:ag)(w:ae)(B:af w)(m:Parts w pv b)(j:b.length<=1000)(d:∀ p∈b,p.length<=10000) :
  lL prog 176 #[.int .i64 a,pv] w fun e H=>e=.returned (.agg ((mW a b).map j_).toArray)/\Ext w H:=by
 have K:=hide B;have E:=hide m;have r:=hide d;have J:=hide (bAg a);have L:=hide (aMg b 10000 d);clear B m d
 go_enter func176,ntmps176
 go_wp2_with fail
 rw[aA J];refine (bBt _ [aAj a] _ b (w.heap.size+1) _ ?h1 ?h2 ?h3 d_ j ?h4 ?h5).mono ?_
 case h1=>exact bBf _ _ _ _ d_ d_
 case h2=>simp
 case h3=>exact (aA E).ext (((Ext.refl w).alloc _).alloc _)
 case h4=>intro p m;have:=aA r p m;omega
 case h5=>intro X I;refine (aA E).ext ((((Ext.refl w).alloc _).alloc _).trans' I (fun _ _ h=>h) (fun i z e=>?_));simp[aAC] at e;omega
 rintro e s ⟨A,c,rfl,u,q⟩;have C:Ext w s:=(((Ext.refl w).alloc _).alloc _).trans' q.iw (fun _ _ h=>h) (fun i z e=>by simp[aAC] at e;omega);have D:eu s w.heap.size 23 (DD 16 (.int .u8 0)):=((eu.new w 23 (DD 16 (.int .u8 0))).alloc _).iw q.iw (by intro e;simp[aAC] at e);have n:=hide (az u (az C D));clear u q C D
 go_wp2_with fail
 refine (sum_any ([aAj a]++encs b) _ _ ((aA K).ext (aA n).2.1) ?hr ?hl).mono ?_
 case hr=>have:=Reads.ou (aA n).1;first|exact this|(rw[gz] at this;rw[gz];exact this)|(simp only[gz,We,aBJ] at this ⊢;exact this)
 case hl=>have:=aA L;have Q:b.length*(10000+10)<=1000*(10000+10):=aBB _ j;simp;omega
 rintro e P ⟨rfl,g⟩
 go_wp2_with fail
 refine (aUk a b _).mono ?_;rintro e O ⟨rfl,f⟩;have G:=hide (az ((aA n).2.1.trans (g.trans f)) ((aA n).2.2.ext (g.trans f)));clear g f
 go_wp2_with (refine aT (ty:=23) (t:=23) (x:=.tmp 4) (y:=.tmp 11) rfl rfl bF rfl rfl (aA G).2 d_ ?_ (dJ _) ?_;(focus (simpa using jP a b));intro N l k o;have F:=hide (az l k);clear l k o)
 refine aAT (v:=.agg ((mW a b).map j_).toArray) (dQ bF rfl (aA F).1 (by simpa using jP a b) rfl) rfl ⟨rfl,?_⟩;exact (aA G).1.trans' (aA F).2 (fun _ _ h=>h) (fun i z e=>a_)
theorem aDz(b:di)(G:ag)(a:jy)(d:List di)(pv:ag)(w:ae)(J:af w)(z:Reads w 1 G b.length (b.map j_))(T:b.length<=10000)(S:a.size<=10000)(u:Parts w pv d)(C:d.length<=90)(f:∀ p∈d,p.length<=10000) :
  lL prog 106 #[G,.string a,pv] w fun e Q=>e=.returned (.agg ((mX b a.data.toList d).map j_).toArray)/\Ext w Q:=by
 have Y:=hide J;have Z:=hide z;have N:=hide u;have E:=hide f;have HB:=hide (aMg d 10000 f);have W:=hide (fun w=>yS a w a_);have r:=hide (show (bI a.data.toList).length<=10+a.size from fG a.data.toList);clear J u f z
 go_enter func106,ntmps106
 go_wp2_with fail
 refine (aA W _).mono ?_;rintro e w1 ⟨A1,V,rfl,m,q⟩;have l:=hide (az m q);clear m q;have g:Hid (∀ k,(aAP A1 (bI a.data.toList).length V).ownBlock=some k->w.heap.size+1<=k):=hide (fun k z=>by have:=((aA l).1.lt k z).1;simp at this;omega)
 go_wp2_with fail
 refine (bBt _ (bI a.data.toList) _ d (w.heap.size+1) _ ?h1 ?h2 ?h3 ?h6 a_ ?h4 ?h5).mono ?_
 case h1=>have:=(aA l).1;simp only[aDK] at this;exact this
 case h2=>have:=(aA l).2.size';simp at this;omega
 case h3=>exact (aA N).ext (((Ext.refl w).alloc _).trans (aA l).2)
 case h6=>have:=aA r;omega
 case h4=>intro p u;have:=aA E p u;omega
 case h5=>intro X U;refine (aA N).ext ((((Ext.refl w).alloc _).trans (aA l).2).trans' U (fun _ _ h=>h) (fun i I e=>?_));have:=aA g i e;omega
 rintro e F ⟨A,c,rfl,H,D⟩;have K:Ext w F:=(((Ext.refl w).alloc _).trans (aA l).2).trans' D.iw (fun _ _ h=>h) (fun i I e=>by have:=aA g i e;omega);have L:eu F w.heap.size 23 (DD 16 (.int .u8 0)):=((eu.new w 23 (DD 16 (.int .u8 0))).ext (aA l).2).iw D.iw (by intro e;have:=aA g _ e;omega);have s:=hide (az H (az K L));clear H D K L
 go_wp2_with fail
 refine (aYb b (bI a.data.toList++encs d) _ _ _ ((aA Y).ext (aA s).2.1) ((aA Z).ext (aA s).2.1) ?hr a_ ?hl).mono ?_
 case hr=>have:=Reads.ou (aA s).1;rw[gz] at this;rw[gz];exact this
 case hl=>have:=aA HB;have:=aA r;have h2:d.length*(10000+10)<=90*(10000+10):=aBB _ C;simp;omega
 rintro e w3 ⟨rfl,j⟩;have P:=hide (az ((aA s).2.1.trans j) ((aA s).2.2.ext j));clear j
 go_wp2_with (refine aT (ty:=23) (t:=23) (x:=.tmp 6) (y:=.tmp 12) rfl rfl bF rfl rfl (aA P).2 d_ ?_ (dJ _) ?_;(focus (first|(simpa using fU _ _ _)|(simpa using nY _ _)));intro w4 o n B;have O:=hide (az o n);clear o n B)
 refine aAT (v:=.agg ((mX b a.data.toList d).map j_).toArray) (dQ bF rfl (aA O).1 (by simpa using fU _ _ _) rfl) rfl ⟨rfl,?_⟩;exact (aA P).1.trans' (aA O).2 (fun _ _ h=>h) (fun i I e=>a_)
def jJ(a:di)(k:Nat):di:=(yz k).flatMap fun j:Nat=>Bf a (dn (j:Int))
def vI(a:di)(n:Int):di:=(jJ a ((n.toNat+31) / 32)).take n.toNat
theorem nC(a:di)(k:Nat):jJ a (k+1)=jJ a k++Bf a (dn k):=by unfold jJ;rw[aEF,aFe];simp
theorem lK(a:di)(k:Nat):(jJ a k).length=32*k:=by
 induction k with
 |zero=>rfl|succ k b=>rw[nC,gz,b,jS];omega
theorem aBp(a:di)(k d:Nat):jJ a k <+: jJ a (k+d):=by
 induction d with
 |zero=>exact List.prefix_refl _|succ d b=>exact b.trans (by rw[<-aBH,nC];exact List.prefix_append _ _)
theorem bAf{c:Type}{a b:List c}(h:a <+: b){n:Nat}(hn:n<=a.length):b.take n=a.take n:=by obtain⟨t,rfl⟩:=h;rw[List.take_append_of_le_length hn]
theorem aKu(a:di)(N k:Nat)(h:N<=32*k):(jJ a k).take N=vI a N:=by have e:vI a N=(jJ a ((N+31) / 32)).take N:=rfl;rw[e];rcases Nat.le_total k ((N+31) / 32) with b|b;obtain⟨d,c⟩:=Nat.exists_eq_add_of_le b;rw[c,bAf (aBp a k d) (by rw[lK];exact h)];obtain⟨d,c⟩:=Nat.exists_eq_add_of_le b;rw[c,bAf (aBp a ((N+31) / 32) d) (by rw[lK];omega)]
theorem tK(a:di)(n:Int):(vI a n).length=n.toNat:=by unfold vI;rw[ww,lK];omega
theorem bDm(a:di)(T:ag)(N:Nat)(w:ae)(Y:af w)(U:Reads w 1 T a.length (a.map j_))(B:a.length<=10000)(hN:N<=100000) :
  lL prog 148 #[T,.int .i64 (N:Int)] w fun e S=>∃ A c,e=.returned (.slice A N c)/\S.ownsRow w.heap.size 5 1 (.slice A N c) N ((vI a N).map j_)/\Ext w S:=by
 have HM:=hide Y;have HK:=hide U;clear Y U;have B:a.length<=1000000:=a_
 go_enter func148,ntmps148
 go_wp2
 go_loopw [5,6] (fun b i wr=>∃ (k m:Nat) (A:Option uB) (c:Nat),k<=N/\i=.int .i64 k/\b=.slice A m c/\m<=N/\Hid (m=min (32*k) N/\wr.ownsRow w.heap.size 5 1 (.slice A m c) m (((jJ a k).take N).map j_)/\Ext w wr)) (fun b _ _=>match b with|.slice _ m _=>N-m|_=>0)
 case atStart=>exact⟨0,0,none,0,x8 _,rfl,rfl,a_,hide ⟨a_,by rw[show jJ a 0=[] from rfl,List.take_nil];exact aEx _ _ _ _,Ext.refl _⟩⟩
 case round=>
  obtain⟨k,m,A,c,a4,rfl,rfl,hm,d⟩:=hrel;by_cases a3:m<N
  ·by_cases I:32<=N-m
   ·go_wp2_with (first
     |(go_at_call 107;refine (yR (k:Int) _ a_ a_).mono ?_;rintro e w2 ⟨A2,c2,rfl,j,p⟩;have g:=hide (az j p);clear j p)
     |(go_at_call 179;refine (aOx a (dn k) _ _ _ ((aA HM).ext ((aA d).2.2.trans (aA g).2)) ((aA HK).ext ((aA d).2.2.trans (aA g).2)) (Reads.ou (aA g).1) B (by have:=aO k;omega)).mono ?_;rintro e J ⟨rfl,o⟩;have u:=hide o;clear o)
     |(refine aT (ty:=142) (t:=142) (x:=.tmp 7) (y:=.tmp 17) rfl rfl fK rfl rfl (eu.new _ _ _) rfl ?_ (dJ _) ?_;(focus (simpa using jS _ _));intro E l f z;have D:=hide (gX (bP (aA d).2.1 (((aA g).2.trans (aA u)).alloc _)) f (fun q I e=>by have:=((aA d).2.1.lt q I).2;have s:=((aA g).2.trans (aA u)).size';omega));have r:=hide (show Ext wr E from (((aA g).2.trans (aA u)).alloc _).trans' f (fun _ _ h=>h) (fun i L e=>by have s:=((aA g).2.trans (aA u)).size';omega));have C:=hide (show Reads E 1 (.slice (some ⟨J.heap.size,0,none⟩) (32) 32) (32) (((Bf a (dn k)).take (32)).map j_) from by (have:=Reads.zf l (i:=0) (n:=32) (c:=32) (by rw[aBM,aAB,jS];omega) a_ (by unfold uu;omega));simp only[aBk] at this;rw[aEA];exact this);clear l f z)
     |(at_builtin;refine bQ rfl rfl gV rfl (aA D) rfl (aA C) (dN.u8 _) a_ (ry (aA d).2.2.size' (aA r).size') ?_;intro Q P w5 F G K;have H:=hide (az F G);clear F G K))
    go_roundw
    case rel=>
     refine⟨k+1,m+(32),Q,P,by have:=(aA d).1;omega,by go_num,rfl,a_,hide ⟨by have:=(aA d).1;omega,?_,((aA d).2.2.trans (aA r)).trans' (aA H).2 (fun _ _ h=>h) (fun i L e=>by have:=((aA d).2.1.lt i e).1;omega)⟩⟩;have O:(jJ a (k+1)).take N=(jJ a k).take N++(Bf a (dn k)).take (32):=by have:=(aA d).1;rw[nC,aEN,lK];congr 1;rw[List.take_eq_take_iff,jS];omega
     rw[O,aBc];exact (aA H).1
    case measure=>simp;omega
   ·obtain⟨q,a1,a0⟩:∃ q,m+q<=N/\N<=m+q:=⟨N-m,a_,a_⟩;have a2:((N:Int)-(m:Int))=(q:Int):=a_;have W:q<=32:=a_;have X:q<32:=a_;have V:(q:Int)<=32:=a_
    go_wp2_with (first
     |(go_at_call 107;refine (yR (k:Int) _ a_ a_).mono ?_;rintro e w2 ⟨A2,c2,rfl,j,p⟩;have g:=hide (az j p);clear j p)
     |(go_at_call 179;refine (aOx a (dn k) _ _ _ ((aA HM).ext ((aA d).2.2.trans (aA g).2)) ((aA HK).ext ((aA d).2.2.trans (aA g).2)) (Reads.ou (aA g).1) B (by have:=aO k;omega)).mono ?_;rintro e J ⟨rfl,o⟩;have u:=hide o;clear o)
     |(refine aT (ty:=142) (t:=142) (x:=.tmp 7) (y:=.tmp 17) rfl rfl fK rfl rfl (eu.new _ _ _) rfl ?_ (dJ _) ?_;(focus (simpa using jS _ _));intro E l f z;have D:=hide (gX (bP (aA d).2.1 (((aA g).2.trans (aA u)).alloc _)) f (fun q I e=>by have:=((aA d).2.1.lt q I).2;have s:=((aA g).2.trans (aA u)).size';omega));have r:=hide (show Ext wr E from (((aA g).2.trans (aA u)).alloc _).trans' f (fun _ _ h=>h) (fun i L e=>by have s:=((aA g).2.trans (aA u)).size';omega));have C:=hide (show Reads E 1 (.slice (some ⟨J.heap.size,0,none⟩) (q) 32) (q) (((Bf a (dn k)).take (q)).map j_) from by (have:=Reads.zf l (i:=0) (n:=q) (c:=32) (by rw[aBM,aAB,jS];omega) a_ (by unfold uu;omega));simp only[aBk] at this;rw[aEA];exact this);clear l f z)
     |(at_builtin;refine bQ rfl rfl gV rfl (aA D) rfl (aA C) (dN.u8 _) a_ (ry (aA d).2.2.size' (aA r).size') ?_;intro Q P w5 F G K;have H:=hide (az F G);clear F G K))
    go_roundw
    case rel=>
     refine⟨k+1,m+(q),Q,P,by have:=(aA d).1;omega,by go_num,rfl,a_,hide ⟨by have:=(aA d).1;omega,?_,((aA d).2.2.trans (aA r)).trans' (aA H).2 (fun _ _ h=>h) (fun i L e=>by have:=((aA d).2.1.lt i e).1;omega)⟩⟩;have O:(jJ a (k+1)).take N=(jJ a k).take N++(Bf a (dn k)).take (q):=by have:=(aA d).1;rw[nC,aEN,lK];congr 1;rw[List.take_eq_take_iff,jS];omega
     rw[O,aBc];exact (aA H).1
    case measure=>simp;omega
  ·obtain rfl:m=N:=a_
   go_wp2
   go_ret;obtain⟨h1,Z,h3⟩:=aA d;rw[aKu a m k a_] at Z
   exact⟨A,c,rfl,Z,h3⟩
def aIj:jy:={ data:=#[97,117,116,104,101,110,116,105,99,97,116,101] }
def aTg:jy:={ data:=#[101,110,99,114,121,112,116] }
def tq(b:di)(a:Int)(c:di):di:=Gz (mX b aIj.data.toList []) (dn a++bI c)
theorem gW(b:di)(a:Int)(c:di):(tq b a c).length=16:=nY _ _
theorem bIx(b:di)(a:Int)(c:jy)(w:ae)(hM:af w)(hk:b.length=16)(h1:-9223372036854775808<=a)(h2:a<9223372036854775808)(hc:c.size<=100000) :
    lL prog 104 #[.agg (b.map j_).toArray,.int .i64 a,.string c] w fun e w'=>e=.returned (.agg ((tq b a c.data.toList).map j_).toArray)/\Ext w w':=by
  obtain⟨A,g⟩:∃ r,(b.map j_).toArray=r:=⟨_,rfl⟩;obtain⟨z,l⟩:∃ d,mX b aIj.data.toList []=d:=⟨_,rfl⟩;obtain⟨k,f⟩:∃ d,tq b a c.data.toList=d:=⟨_,rfl⟩;have G:z.length=16:=by rw[<-l];exact fU _ _ _
  have HM:=hide hM;have Z:=hide (fun w=>yR a w h1 h2);have Y:=hide (fun w=>yS c w a_);have HB:=hide (show (dn a).length<=10/\(bI c.data.toList).length<=10+c.size from⟨aO _,fG c.data.toList⟩);have HR:=hide f;have HD:=hide l;have HA:=hide g;rw[g,f];clear g l f hM h1 h2;have a1:A.size=16:=by rw[<-aA HA];simpa using hk
  go_enter func104,ntmps104
  go_wp2_with fail
  refine (aDz b _ aIj [] _ _ ((aA HM).ext (((Ext.refl w).alloc _).alloc _)) ?_ a_ jb (Parts.nil _) d_ (fun p hp=>by cases hp)).mono ?_;have:=Reads.zf ((eu.new w 23 A).alloc (.cells (DD 16 (.int .u8 0)) 23)) (i:=0) (n:=16) (c:=16) a_ a_ (by unfold uu;omega);rw[<-aA HA] at this;simp only[aBk] at this;rw[WF (by rw[aAB];omega),aA HA] at this;rw[hk];exact this;rintro e C ⟨rfl,j⟩;rw[aA HD];have U:=hide (show Ext w C/\eu C (w.heap.size+1) 23 (DD 16 (.int .u8 0))/\w.heap.size+2<=C.heap.size from⟨(((Ext.refl w).alloc _).alloc _).trans j,(eu.new' (w.alloc (.cells A 23)) _ _ d_).ext j,by have:=j.size';simp at this;omega⟩);clear j;have HS:=hide (show ((z.map j_).toArray).size=16 from by simpa using G)
  go_wp2_with (refine aT (ty:=23) (t:=23) (x:=.tmp 7) (y:=.tmp 9) rfl rfl bF rfl rfl (eu.new C _ _) rfl (aA HS) (dJ _) ?_;intro B N m W;have T:=hide (show eu B C.heap.size 23 ((z.map j_).toArray)/\Ext w B/\eu B (w.heap.size+1) 23 (DD 16 (.int .u8 0)) from⟨N,((aA U).1.alloc _).trans' m (fun _ _ h=>h) (fun i hi e=>by have:=(aA U).2.2;omega),((aA U).2.1.alloc _).iw m (by have:=(aA U).2.2;omega)⟩);clear N m W)
  have HK:=hide (show Reads B 1 (.slice (some ⟨C.heap.size,0,none⟩) 16 16) z.length (z.map j_) from by
    have:=Reads.zf (aA T).1 (i:=0) (n:=16) (c:=16) (by rw[aA HS];omega) a_ (by unfold uu;omega);simp only[aBk] at this;rw[WF (by rw[aAB];omega)] at this;rw[G]
    exact this)
  have a0:=hide (show Gz z (dn a++bI c.data.toList)=k from by rw[<-aA HR,<-aA HD];rfl);have O:=hide (show ((k.map j_).toArray).size=16 from by rw[<-aA HR];simpa using gW _ _ _);have hB:=hide (show (dn a).length+(bI c.data.toList).length<=1000000 from by have:=aA HB;omega)
  go_region_law (first
    |(refine aNg (s:=.tmp 12) (x:=.tmp 14) rfl rfl gV rfl (bP (aA S).1 (aA Q).2.1) rfl (Reads.ou (aA Q).1) (dN.u8 _) (by have:=aA hB;omega) (ry (aA S).2.2 (aA Q).2.2) ?_;intro A5 c5 w5 D I X;have P:=hide (show Reads w5 1 (.slice A5 ((dn a).length+(bI c.data.toList).length) c5) ((dn a).length+(bI c.data.toList).length) ((dn a).map j_++(bI c.data.toList).map j_)/\Ext B w5 from⟨Reads.ou D,(((aA S).2.1.trans (aA Q).2.1)).trans' I (fun _ _ h=>h) (fun i hi e=>by have:=((aA S).1.lt i e).1;simp at this;omega)⟩);clear D I X)
    |(go_simp;go_at_call 107;refine (aA Z _).mono ?_;rintro e w3 ⟨A3,c3,rfl,F,u⟩;have S:=hide (az F (az (((Ext.refl B).drew).trans u) u.size'));clear F u)
    |(go_simp;go_at_call 145;refine (aA Y _).mono ?_;rintro e w4 ⟨A4,c4,rfl,E,q⟩;have Q:=hide (az E (az q q.size'));clear E q)
    | (
     rename_i K hK;go_simp;go_at_call 146;refine (aYb z (dn a++bI c.data.toList) _ _ _ ((aA HM).ext ((aA T).2.1.trans (aA P).2)) ((aA HK).ext (aA P).2) ?_ a_ ?_).mono ?_
     (focus (rw[aBc,gz];exact (aA P).1))
     (focus (have:=aA hB;rw[gz];omega))
     rintro e w6 ⟨rfl,o⟩;rw[aA a0];have H6:=hide (show Ext w w6/\eu w6 (w.heap.size+1) 23 (DD 16 (.int .u8 0)) from⟨((aA T).2.1.trans (aA P).2).trans o,(aA T).2.2.ext ((aA P).2.trans o)⟩);clear o;dsimp only;refine hK _ _ ?_;clear hK K;refine aAU (rs:=[7]) ai d_ (AllReady.cons rfl (fun J hJ=>?_) AllReady.nil);refine jQ (ty:=23) (t:=23) (x:=.tmp 6) (y:=.tmp 16) rfl rfl bF rfl rfl (aA H6).2 ?_ ?_ ?_ ?_;rw[aFM];exact aA O;exact dJ _;intro w7 L H V;have H7:=hide (az L H);clear L H V;refine hJ _ _ ?_
     clear hJ J))
  go_wp2
  refine aAT (v:=.agg ((k.map j_).toArray)) (dQ bF rfl (aA H7).1 (aA O) rfl) rfl ⟨rfl,?_⟩;exact (aA H6).1.trans' (aA H7).2 (fun _ _ h=>h) (fun i hi e=>a_)
def keyS(b:di)(a:Int):di:=mX b aTg.data.toList [dn a]
def dM(b:di)(a:Int)(s:di):di:=aCK (· ^^^ ·) s (vI (keyS b a) s.length)
def CY(s x:di)(k:Nat):di:=(aCK (· ^^^ ·) s x).take k++s.drop k
theorem bMn(s x:di):CY s x 0=s:=by unfold CY;simp
theorem MV(s x:di)(h:x.length=s.length):CY s x s.length=aCK (· ^^^ ·) s x:=by unfold CY;rw[List.drop_length,AC,WF (by rw[aEC];omega)]
theorem aXz(s x:di)(k:Nat)(h:x.length=s.length)(a:k<=s.length):(CY s x k).length=s.length:=by unfold CY;rw[gz,ww,aEC,MM];omega
theorem TY(s x:di)(k:Nat)(h:x.length=s.length)(a:k<s.length):(CY s x k)[k]?=some s[k]:=by unfold CY;rw[aBi (by rw[ww];omega),ww,aEC,aAk,show min k (min s.length x.length)=k from a_,aBa,aBK,zH a]
theorem bMo(s x:di)(k:Nat)(h:x.length=s.length)(e:k<s.length):CY s x (k+1)=(CY s x k).set k (s[k] ^^^ x[k]):=by
 apply aAX;intro i;unfold CY;rw[aED];have c:((aCK (· ^^^ ·) s x).take k).length=k:=by rw[ww,aEC];omega
 have a:((aCK (· ^^^ ·) s x).take (k+1)).length=k+1:=by rw[ww,aEC];omega
 rw[aEO,aEO,c,a,gz,c,MM];by_cases b:i<k;rw[au a_,ah a_,au b,yf,yf,au a_,au b];by_cases d:k=i;subst d;rw[au a_,au rfl,au a_,yf,au a_,List.getElem?_zipWith,zH e,zH a_];rw[ah a_,ah d,ah b,aAk,aAk];congr 1;omega
theorem Zb(l:di)(v o:ag)(b a:Nat)(u:FrameMode)(w:ae)(i:w.cell? ⟨b,0,none⟩=some v)(h6:w.cell? ⟨a,0,none⟩=some o)(j:w.frozen? ⟨a,0,none⟩=false)(hr:Reads w 1 v l.length (l.map j_)) :
  CallsD prog 147 #[.pointer (some ⟨b,0,none⟩),.pointer (some ⟨a,0,none⟩)] u w fun e f d=>f=u/\(e=.returned (.tuple #[])/\d=w.setCell ⟨a,0,none⟩ (.string (strOf l))):=by
 have g:=aDh (P:=prog) (w:=w) underlying74 underlying5 underlying9 hr;obtain⟨A,c,rfl⟩:∃ A c,v=.slice A l.length c:=by obtain⟨_,A,c,h,_⟩:=hr;exact⟨A,c,h⟩
 go_enter_d func147,ntmps147
 go_wp2
 go_end0
 exact⟨rfl,rfl⟩
theorem aVe (m:di) (a:Int) (s:jy) (w:ae) (hM:af w) (hk:m.length=16) (h1:-9223372036854775808<=a) (h2:a<9223372036854775808) (hs:s.size<=100000) :
    lL prog 105 #[.agg (m.map j_).toArray,.int .i64 a,.string s] w fun e w'=>e=.returned (.string (strOf (dM m a s.data.toList)))/\Ext w w':=by
  obtain⟨P,F⟩:∃ r,(m.map j_).toArray=r:=⟨_,rfl⟩;have HM:=hide hM;have c4:=hide (fun w=>yR a w h1 h2);have HA:=hide F;rw[F];clear F hM h1 h2;have d1:P.size=16:=by rw[<-aA HA];simpa using hk
  have d4:∀ (fn:Fn) (first cap:mg) (w:ae),(Instr.makeFunc fn first cap).run prog w=.ok (.func fn first cap) w:=fun _ _ _ _=>rfl
  go_enter_defers func105,ntmps105
  go_wp2_with (refine zZ rfl rfl underlying9 underlying74 underlying5 rfl (by unfold uu;omega) ?_;intro C q a6 b3 a8;have H1:=hide (az a6 (az b3 a8));clear a6 b3 a8)
  have a5:w.heap.size+2<=q.heap.size:=by have h2:=(aA H1).2.1.size';simp at h2;omega
  have Q:=hide (show Reads (q.alloc (.cells #[.slice (some ⟨w.heap.size+1+1,0,none⟩) s.size C] 74)) 1 (.slice (some ⟨w.heap.size+1+1,0,none⟩) s.size C) s.size (s.data.toList.map uF)/\∀ i,i<s.size->(q.alloc (.cells #[.slice (some ⟨w.heap.size+1+1,0,none⟩) s.size C] 74)).frozen? ⟨w.heap.size+1+1,i,none⟩=false from by
    have h1:=(aA H1).1;have h3:=(aA H1).2.2;simp only[aDK] at h1 h3;refine⟨h1.ext ((Ext.refl q).alloc _),fun i L=>?_⟩;obtain⟨_,hc⟩:∃ u,q.cell? ⟨w.heap.size+1+1,i,none⟩=some u:=by obtain⟨b,o,c,u,hv,_,_,_,_,N⟩:=h1.Ef L;cases hv;exact⟨u,by simpa using N⟩
    exact Ext.uz ((Ext.refl q).alloc _) (h3 i L) (lt_of_cell hc))
  have b6:=hide (show eu (q.alloc (.cells #[.slice (some ⟨w.heap.size+1+1,0,none⟩) s.size C] 74)) (w.heap.size+1) 9 #[.string { data:=#[] }] from ((eu.new' (w.alloc (.cells P 23)) _ _ d_).ext (aA H1).2.1).alloc _);have a4:=hide (show eu (q.alloc (.cells #[.slice (some ⟨w.heap.size+1+1,0,none⟩) s.size C] 74)) q.heap.size 74 #[.slice (some ⟨w.heap.size+1+1,0,none⟩) s.size C] from eu.new _ _ _);have b5:=hide (show eu (q.alloc (.cells #[.slice (some ⟨w.heap.size+1+1,0,none⟩) s.size C] 74)) w.heap.size 23 P from ((((eu.new w _ P).alloc _).ext (aA H1).2.1).alloc _));have HP:=hide (show Ext w (q.alloc (.cells #[.slice (some ⟨w.heap.size+1+1,0,none⟩) s.size C] 74)) from ((((Ext.refl w).alloc _).alloc _).trans (aA H1).2.1).alloc _);generalize b0:(q.alloc (.cells #[.slice (some ⟨w.heap.size+1+1,0,none⟩) s.size C] 74))=B;rw[b0] at HP Q b6 a4 b5;obtain⟨dk,a9⟩:∃ d,keyS m a=d:=⟨_,rfl⟩;have HD:=hide a9
  have d0:=hide (show Reads B 1 (.slice (some ⟨w.heap.size,0,none⟩) 16 16) m.length (m.map j_) from by
    have:=Reads.zf (aA b5) (i:=0) (n:=16) (c:=16) a_ a_ (by unfold uu;omega);rw[<-aA HA] at this;simp only[aBk] at this;rw[WF (by rw[aAB];omega)] at this;rw[hk]
    exact this)
  clear a9
  have c8:=hide (fun (W4:ae) (pv:ag) (A3:Option uB) (Z:Nat) (hX:Ext B W4) (b8:Reads W4 1 pv 1 [.slice A3 (dn a).length Z]) (hr:Reads W4 1 (.slice A3 (dn a).length Z) (dn a).length ((dn a).map j_))=>aDz m (.slice (some ⟨w.heap.size,0,none⟩) 16 16) aTg [dn a] pv W4 ((aA HM).ext ((aA HP).trans hX)) ((aA d0).ext hX) a_ jb ⟨[.slice A3 (dn a).length Z],rfl,b8,fun i p hp=>by
    cases i with
    |zero=>cases hp;exact⟨_,rfl,hr⟩|succ i=>simp at hp⟩ d_ (fun p hp=>by simp at hp;subst hp;have:=aO a;omega))
  go_cut [8] from 14 to 18 (fun s8 wx=>∃ g,s8=.pointer (some ⟨g,0,none⟩)/\Hid (eu wx g 23 ((dk.map j_).toArray)/\Ext B wx/\B.heap.size<=g))
  case first=>
    have HS:=hide (show ((dk.map j_).toArray).size=16 from by rw[<-aA HD];unfold keyS;simpa using fU _ _ _);refine wp_region_noPanic ?_
    go_region_law (first
      | (
       go_simp;go_at_call 107;refine (aA c4 _).mono ?_;rintro e U ⟨A3,Z,rfl,I,G⟩
       first
       |(have S:=hide (show Reads U 1 (.slice A3 (dn a).length Z) (dn a).length ((dn a).map j_)/\Ext B U/\True from az (Reads.ou I) (az (((Ext.refl B).drew).trans G) trivial));clear I G)
       |(have S:=hide (show Reads U 1 (.slice A3 (dn a).length Z) (dn a).length ((dn a).map j_)/\Ext B U/\eu U B.heap.size 23 (DD 16 (.int .u8 0)) from az (Reads.ou I) (az ((((Ext.refl B).drew).alloc _).trans G) ((eu.new B.drew _ _).ext G)));clear I G))
      | (
       rename_i K hK;go_simp;go_at_call 106;refine (aA c8 _ _ A3 Z ?_ ?_ ?_).mono ?_
       (focus (first|exact (aA S).2.1.alloc _|exact ((aA S).2.1.alloc _).alloc _))
       (focus (first|exact Reads.yj _ _ _|exact (Reads.yj _ _ _).ext ((Ext.refl _).alloc _)|(have h:=Reads.yj (U.alloc (.cells (DD 16 (.int .u8 0)) 23)) (.slice A3 (dn a).length Z) 74;rw[aDK] at h;exact h)))
       (focus (first|exact (aA S).1.ext ((Ext.refl _).alloc _)|exact (aA S).1.ext (((Ext.refl _).alloc _).alloc _)))
       rintro e w5 ⟨rfl,O⟩;rw[show mX m aTg.data.toList [dn a]=dk from aA HD];have H5:=hide (show Ext B w5/\Ext _ w5 from az (by first|exact ((aA S).2.1.alloc _).trans O|exact (((aA S).2.1.alloc _).alloc _).trans O) O);clear O;dsimp only;refine hK _ _ ?_;clear hK K
       first
       | (
        refine aAU (rs:=[5]) ai d_ (AllReady.cons rfl (fun J Y=>?_) AllReady.nil);rw[au ay];go_simp;refine Y _ _ ?_;clear Y J;refine aAU (rs:=[6]) ai d_ (AllReady.cons rfl (fun J Y=>?_) AllReady.nil);refine jQ (ty:=23) (t:=23) (x:=.tmp 8) (y:=.tmp 18) rfl rfl bF rfl rfl (eu.new w5 _ _) ?_ ?_ ?_ ?_;rfl;exact aA HS;exact dJ _;intro w7 E D a0;have H7:=hide (az E (az (((aA H5).1.alloc _).trans' D (fun _ _ h=>h) (fun i L e=>by have:=(aA H5).1.size';omega)) (aA H5).1.size'));clear E D a0;refine Y _ _ ?_
        clear Y J)
       | (
        refine aAU (rs:=[6]) ai d_ (AllReady.cons rfl (fun J Y=>?_) AllReady.nil);have b7:=(aA S).2.1.size';refine jQ (ty:=23) (t:=23) (x:=.tmp 8) (y:=.tmp 18) (old:=DD 16 (.int .u8 0)) rfl rfl bF rfl rfl ?_ ?_ ?_ ?_ ?_
        · first|exact (((aA S).2.2).alloc _).ext (aA H5).2|exact ((eu.new U _ _).alloc _).ext (aA H5).2|exact (eu.new' (U.alloc _) _ _ d_).ext (aA H5).2
        rfl;exact aA HS;exact dJ _;intro w7 E D a0;have H7:=hide (az E (az ((aA H5).1.trans' D (fun _ _ h=>h) (fun i L e=>a_)) (show B.heap.size<=_ by omega)));clear E D a0 b7;refine Y _ _ ?_
        clear Y J)))
    all_goals
      refine NoPanic.normal ?_
      go_wp2_with fail
      go_meet
      exact⟨_,rfl,hide ⟨(aA H7).1,(aA H7).2.1,by have:=(aA H7).2.2;omega⟩⟩
  case rest=>
    obtain⟨g8,rfl,H8⟩:=hcut;have HS:=hide (show ((dk.map j_).toArray).size=16/\dk.length=16 from by rw[<-aA HD];unfold keyS;exact⟨by simpa using fU _ _ _,fU _ _ _⟩);have c7:=((aA a4).ext (aA H8).2.1).cell 0
    have HQ:=hide (fun (W:ae) (hE:Ext wc W)=>bDm dk (.slice (some ⟨g8,0,none⟩) 16 16) s.size W ((aA HM).ext (((aA HP).trans (aA H8).2.1).trans hE)) (by
      have:=Reads.zf ((aA H8).1.ext hE) (i:=0) (n:=16) (c:=16) (by rw[(aA HS).1];omega) a_ (by unfold uu;omega);simp only[aBk] at this;rw[WF (by rw[aAB,(aA HS).2];omega)] at this;rw[(aA HS).2]
      exact this) (by have:=(aA HS).2;omega) a_)
    go_upto_region 4 with fail
    refine wp_region_noPanic ?_
    go_region_law (first
      | (
       go_simp;go_at_call 148;refine (aA HQ _ ((Ext.refl wc).drew)).mono ?_;rintro e w9 ⟨A9,c9,rfl,a7,b2⟩
       have H9:=hide (az a7 (((Ext.refl wc).drew).trans b2))
       clear a7 b2))
    refine NoPanic.normal ?_;obtain⟨x,hx⟩:=jc (vI dk s.size);have HX:=hide hx;rw[hx] at H9;obtain⟨sl,a2⟩:∃ l,s.data.toList=l:=⟨_,rfl⟩;have a1:sl.length=s.size:=by rw[<-a2,nz];rfl
    have d3:B.heap.size=q.heap.size+1:=by rw[<-b0];simp
    have E9:Ext B w9:=(aA H8).2.1.trans (aA H9).2;have H:x.length=sl.length:=by have:=(aA H9).1.1;rw[aAB] at this;omega
    have c5:=hide a2;rw[a2] at Q;clear hx c7
    go_wp2
    go_simp
    go_loopw [24] (fun i wr=>∃ k:Nat,k<=s.size/\i=.int .i64 k/\Hid (Reads wr 1 (.slice (some ⟨w.heap.size+1+1,0,none⟩) s.size C) s.size ((CY sl x k).map j_)/\(∀ i,i<s.size->wr.frozen? ⟨w.heap.size+1+1,i,none⟩=false)/\eu wr q.heap.size 74 #[.slice (some ⟨w.heap.size+1+1,0,none⟩) s.size C]/\eu wr (w.heap.size+1) 9 #[.string { data:=#[] }]/\gq (fun b=>b=w.heap.size+1+1) w9 wr)) (fun i _=>s.size-(intOf i).toNat)
    case atStart=>exact⟨0,x8 _,rfl,hide ⟨by rw[bMn];exact (aA Q).1.ext E9,fun i L=>Ext.uz E9 ((aA Q).2 i L) (by show w.heap.size+1+1<_;omega),(aA a4).ext E9,(aA b6).ext E9,gq.refl _ _⟩⟩
    case round=>
      obtain⟨k,hk,rfl,A⟩:=hrel;by_cases a3:k<s.size
      ·
        obtain⟨b,o,c',u,hv,_,_,hb,hu,N⟩:=(aA A).1.Ef a3;cases hv;rw[aAg,TY sl x k H a_] at hu;cases hu;have b1:=gX (aA H9).1 (aA A).2.2.2.2 (fun j hj e=>by have h1:=((aA H9).1.lt j hj).1;have h2:=(aA H8).2.1.size';simp at h1;omega);obtain⟨b,o,c',u,hv,_,_,d5,hu,b9⟩:=(Reads.ou b1).Ef a3;cases hv;rw[aAg,zH (show k<x.length by omega)] at hu;cases hu;clear b1;have V:¬q.heap.size=w.heap.size+1+1:=by have:=(aA H1).1.DW a_ a_ _ rfl;simp at this;omega
        have c7:=(aA A).2.2.1.cell 0;have hf:=(aA A).2.1 k a3;have c6:=hide (bMo sl x k H a_);rw[mf] at N;unfold j_ at N b9;generalize sl[k]=y at *;generalize x[k]=z at *;have c2:=hide (DT y z)
        go_wp2
        go_roundw
        case rel=>refine⟨k+1,a_,by go_num,hide ⟨?_,fun i L=>by rw[aJn];exact (aA A).2.1 i L,(aA A).2.2.1.far' V k _,(aA A).2.2.2.1.far' a_ k _,(aA A).2.2.2.2.setCell (p:=⟨w.heap.size+1+1,k,none⟩) (.inl rfl) _⟩⟩;rw[aA c6,aFc];have:=(aA A).1.set (k:=k) a_ (j_ (y ^^^ z));rw[aA c2];exact this
        case measure=>simp[intOf];omega
      ·
        obtain rfl:k=s.size:=a_;have hA:dM m a s.data.toList=CY sl x s.size:=by unfold dM;rw[aA HD,aA c5,a1,aA HX,<-a1,MV _ _ H]
        have b4:(dM m a s.data.toList).length=s.size:=by rw[hA,aXz _ _ _ H a_,a1]
        have X:Reads wr 1 (.slice (some ⟨w.heap.size+1+1,0,none⟩) s.size C) (dM m a s.data.toList).length ((dM m a s.data.toList).map j_):=by rw[b4,hA];exact (aA A).1
        have HF:=hide X;have V:=a5;clear hA b4 X
        go_wp2
        refine leaves_cons (f:=147) (args:=#[.pointer (some ⟨q.heap.size,0,none⟩),.pointer (some ⟨w.heap.size+1,0,none⟩)]) d_ (by simp[go_sem]) ?_;refine (Zb (dM m a s.data.toList) _ _ _ _ .returning _ ((aA A).2.2.1.cell 0) ((aA A).2.2.2.1.cell 0) ((aA A).2.2.2.1.frozen 0) (aA HF)).mono ?_;rintro e u' d2 ⟨rfl,rfl,rfl⟩;have c0:(wr.setCell ⟨w.heap.size+1,0,none⟩ (.string (strOf (dM m a s.data.toList)))).cell? ⟨w.heap.size+1,0,none⟩=some (.string (strOf (dM m a s.data.toList))):=aFb _ _ _ (by rw[(aA A).2.2.2.1.cell 0];rfl);have hE:Ext w (wr.setCell ⟨w.heap.size+1,0,none⟩ (.string (strOf (dM m a s.data.toList)))):=((aA HP).trans E9).trans' ((gq.mono (T:=fun b=>b=w.heap.size+1+1\/b=w.heap.size+1) (aA A).2.2.2.2 (fun _ _ h=>.inl h)).setCell (p:=⟨w.heap.size+1,0,none⟩) (.inl (.inr rfl)) _) (fun _ _ h=>h.elim) (fun i L e=>a_);simp[Leaves,settle,results,results105,go_sem,c0];exact hE
theorem aFw:zk prog 27 18:=⟨⟨_,underlying27,rfl⟩,ai⟩
def Cf(n:Int)(c:jy)(t:di):mg:=(gp .i64 n::aCJ c::t.map j_).toArray
theorem cZ(b:di)(a:Int)(s:di):(dM b a s).length=s.length:=by unfold dM;rw[aEC,tK];simp
theorem NY{l:di}(h:l.length=16):∃ r q p o n m k j i g f e d c b a,l=[r,q,p,o,n,m,k,j,i,g,f,e,d,c,b,a]:=by
 match l,h with
 |[r,q,p,o,n,m,k,j,i,g,f,e,d,c,b,a],_=>exact⟨r,q,p,o,n,m,k,j,i,g,f,e,d,c,b,a,rfl⟩
theorem JW (key : di) (qg : Int) (s:jy) (w:ae) (hM:af w) (hk:key.length=16) (h1:-9223372036854775808<=qg) (h2:qg<9223372036854775808) (hs:s.size<=100000) :
    lL prog 103 #[.agg (key.map j_).toArray,.int .i64 qg,.string s] w fun e w'=>e=.returned (.agg (Cf qg (strOf (dM key qg s.data.toList)) (tq key qg (dM key qg s.data.toList))))/\Ext w w':=by
  obtain⟨arr,harr⟩:∃ r,(key.map j_).toArray=r:=⟨_,rfl⟩;have HM:=hide hM;have HAp:=hide (fun W hW=>aVe key qg s W hW hk h1 h2 hs);rw[harr] at HAp ⊢;have Yn:arr.size=16:=by rw[<-harr];simpa using hk
  have h1c:arr.all (·.oneCell')=true:=by rw[<-harr];exact dJ _
  have HA:=hide harr;clear hM harr
  go_enter func103,ntmps103
  obtain⟨cs,hcs⟩:∃ c,strOf (dM key qg s.data.toList)=c:=⟨_,rfl⟩;have hcl:cs.data.toList=dM key qg s.data.toList:=by rw[<-hcs];exact bY _
  have hcz : cs.size <= 100000 := by
   have h:cs.data.toList.length=s.data.toList.length:=by rw[hcl,cZ]
   rw[nz,nz] at h;have h2:cs.size=s.size:=h;omega
  have HTg:=hide (fun W hW=>bIx key qg cs W hW hk h1 h2 hcz);rw[aA HA,hcl] at HTg;rw[hcs] at HAp ⊢;have HTL:=hide (gW key qg (dM key qg s.data.toList));generalize tq key qg (dM key qg s.data.toList)=tg at *;clear hcs hcl;obtain⟨t0,t1,t2,t3,t4,t5,t6,t7,t8,t9,t10,t11,t12,t13,t14,t15,rfl⟩:=NY (aA HTL)
  go_wp2_with (first
    |(refine fO (x:=.tmp 3) rfl rfl bF rfl (cs:=arr) (g:=w.heap.size) (by first|exact (eu.new w _ _).alloc _|assumption) Yn ?_)
    | (
     go_at_call 105;refine (aA HAp _ ((aA HM).ext (((Ext.refl w).alloc _).alloc _))).mono ?_;rintro e w1 ⟨rfl,hE1⟩
     have hba:eu w1 w.heap.size 23 arr:=((eu.new w _ _).alloc _).ext hE1;have hbb:=(eu.new' (g:=w.heap.size+1) (w.alloc (.cells arr 23)) _ _ d_).ext hE1
     have H1:=hide (show Ext w w1/\eu w1 (w.heap.size+1) 27 (#[.int .i64 0,.string { data:=#[] }]++DD 16 (.int .u8 0)) from az ((((Ext.refl w).alloc _).alloc _).trans hE1) hbb);clear hE1 hbb)
    |(go_at_call 104;refine (aA HTg _ ((aA HM).ext (aA H1).1)).mono ?_;rintro e w2 ⟨rfl,hE2⟩;have H2:=hide (az ((aA H1).1.trans hE2) ((aA H1).2.ext hE2));clear hE2)
    |(refine aT (ty:=27) (t:=27) (x:=.tmp 6) (y:=.tmp 18) rfl rfl aFw rfl rfl (aA H2).2 d_ rfl (by rw[<-aCS];rfl) ?_;intro w3 hb3 hc3 hz3;have H3:=hide (az hb3 hc3);clear hb3 hc3 hz3))
  refine aAT (dQ aFw rfl (aA H3).1 rfl rfl) rfl ⟨rfl,?_⟩;exact (aA H2).1.trans' (aA H3).2 (fun _ _ h=>h) (fun i hi e=>a_)
theorem ylm{S:jg}{ops:Array ik}{o:ik}{a:Act}{T:bu}{n:Nat}(b:zk prog T n){x:uA}(h:o.op=.load T x)(e:Region.wanted o (aAG ops a.tmps)=true){g off:Nat}{cs:jl}(c:a.eval x=.pointer (some ⟨g,off,none⟩))(hn:cs.length=n)(j:∀ w,S w->w.rangeAt g off cs):YieldsIf prog ops S o (.agg cs.toArray) a:=by obtain⟨d,f,i⟩:=b.und;exact yieldsIf_load_mid (P:=prog) (S:=S) e T x h g off c cs d j f i (by rw[hn];exact b.info)
theorem ylb{S:jg}{ops:Array ik}{o:ik}{a:Act}{T:bu}{n:Nat}(f:zk prog T n){x:uA}(d:o.op=.load T x)(c:Region.wanted o (aAG ops a.tmps)=true){g:Nat}{t:bu}{cs:mg}(b:a.eval x=.pointer (some ⟨g,0,none⟩))(hn:cs.size=n)(e:∀ w,S w->eu w g t cs):YieldsIf prog ops S o (.agg cs) a:=by have:=ylm (S:=S) (ops:=ops) (o:=o) (a:=a) f d c (cs:=cs.toList) b (by rw[nz,hn]) (fun w h=>(e w h).range);rwa [aEK] at this
theorem aLe{w:ae}{g:Nat}{t:bu}{pre l:jl}(h:eu w g t (pre++l).toArray):w.rangeAt g pre.length l:=fun j v a=>by rw[h.cell,aBU,aBi a_,show pre.length+j-pre.length=j from a_];exact a
theorem aXg{w w':ae}{g o:Nat}{cs:jl}(h:w.rangeAt g o cs)(b:Ext w w'):w'.rangeAt g o cs:=fun j v a=>Ext.jh b (h j v a)
theorem aOn{w a b:ae}{o:Obj}(h:Ext w a)(hc:gq (fun k=>k=a.heap.size) (a.alloc o) b):Ext w b:=(h.alloc _).trans' hc (fun _ _ h=>h) (fun i c e=>by have:=h.size';omega)
theorem aIe{a b:ae}{o:Obj}(hc:gq (fun k=>k=a.heap.size) (a.alloc o) b):Ext a b:=aOn (Ext.refl a) hc
theorem aNa{P:ed}{ops:Array ik}{rest:List ik}{o:ik}{a:Act}{w:ae}{Q:uk->Act->jg}(b:Region.wanted o (aAG ops a.tmps)=true){ty:bu}{x:uA}(f:o.op=.load ty x){n:Nat}(W:zk P ty n)
  {g off:Nat} (c:a.eval x=.pointer (some ⟨g,off,none⟩)) {cs:jl} (k:w.rangeAt g off cs) (hn:cs.length=n) (h:aBj P ops Q rest (a.put o.dst (.agg cs.toArray)) w):aBj P ops Q (o::rest) a w:=by
 obtain⟨d,e,i⟩:=W.und;exact Go.BigFrame.wpList_want b fun _ j=>wp_load_mid ty x f g off c cs d k e i (by rw[hn];exact W.info) (j _ _ h)
section
variable {P:ed}
theorem aAb{e:bu}(k:P.underlying e=some (.int .u8))(g:P.plainKey e=true)(d:Nat)(a b:di)(w:ae):∀ c:List Nat,(∀ i∈c,i<a.length/\i<b.length) ->
  (Op.eqItems (d+1) e 1 (a.map uF).toArray (b.map uF).toArray c).run P w=.ok (c.all fun i=>a.getD i 0==b.getD i 0) w
 |[],_=>by simp[Op.eqItems]| i::c,h=>by
  obtain⟨m,l⟩:=h i d_;have p:(part e (a.map uF).toArray (i*1)).run P w=.ok (uF a[i]) w:=run_part_plain w g (by simp[zH m]);have o:(part e (b.map uF).toArray (i*1)).run P w=.ok (uF b[i]) w:=run_part_plain w g (by simp[zH l]);have n:(Op.equalIn (d+1) e (uF a[i]) (uF b[i])).run P w=.ok (a[i]==b[i]) w:=by simp[Op.equalIn,Ha k,uF];rw[Bool.eq_iff_iff];simp;exact⟨fun h=>UInt8.toNat_inj.1 (Int.ofNat_inj.1 h),fun h=>by rw[h]⟩
  have q:=aAb k g d a b w c fun j r=>h j (by simp[r]);simp only[Op.eqItems,Sem.run_bind,p,o,n,Result.andThen_ok];rw[List.all_cons,zG,zG,zH m,zH l];simp only[Option.getD_some];by_cases f:a[i]=b[i];simpa[f] using q;simp[f]
theorem all_eq(a b:di)(n:Nat)(e:a.length=n)(hb:b.length=n):((yz n).all fun i=>a.getD i 0==b.getD i 0)=decide (a=b):=by rw[Bool.eq_iff_iff];simp only[List.all_eq_true,aGq,beq_iff_eq,decide_eq_true_eq];constructor;intro h;apply aBR a_;intro i d c;have:=h i a_;simpa[zG,zH d,zH c] using this;rintro rfl i _;rfl
theorem aNm{t e:bu}{n:Nat}(d:P.underlying t=some (.array n e))(c:P.underlying e=some (.int .u8))(j:P.plainKey e=true){inf:TypeInfo}(g:P.info? e=some inf)(h1:P.cellsOf e=1){a b:di}(k:a.length=n)(hb:b.length=n)(w:ae) :
  (binOp .neq t (.agg (a.map uF).toArray) (.agg (b.map uF).toArray)).run P w=.ok (.bool (!decide (a=b))) w:=by
 have h:=run_equalIn_array (P:=P) w 9999 (a.map uF).toArray (b.map uF).toArray d g;rw[h1,aAb c j 9998 a b w _ (fun i f=>by rw[aGq] at f;omega),all_eq a b n k hb] at h;simp only[binOp];simp[Op.equal,Op.maxDepth,h]
end
theorem Reads.aRR(w:ae)(cs:mg)(e:bu)(l:Nat×Nat)(n c:Nat)(xs:jl){g:Nat}(k:g=w.heap.size)(b:xs.length=n)(hc:n<=c)(f:c<=uu)(d:cs.toList.take xs.length=xs) :
  Reads (w.alloc (.cells cs e l)) 1 (.slice (some ⟨g,0,none⟩) n c) n xs:=by
 subst k;refine⟨by rw[b,aBq],_,c,rfl,hc,f,fun _=>⟨w.heap.size,0,rfl,fun j u a=>?_⟩⟩;have i:j<xs.length:=by rcases aAW j xs.length with h|h;exact h;rw[PR h] at a;cases a
 rw[mf,World.cell?_alloc_mark];rw[<-d,yf,au i] at a;simpa using a
end
theorem Ik:prog.plainKey 5=true:=ai
theorem X9:prog.cellsOf 5=1:=ai
theorem aHS{a b:di}(c:a.length=16)(hb:b.length=16)(w:ae):(binOp .neq 23 (.agg (a.map j_).toArray) (.agg (b.map j_).toArray)).run prog w=.ok (.bool (!decide (a=b))) w:=aNm (inf:=_) underlying23 underlying5 Ik rfl X9 c hb w
theorem aSq(g:di)(a:Int)(c:jy)(t:di)(w:ae)(U:af w)(O:g.length=16)(Q:t.length=16)(h1:-9223372036854775808<=a)(h2:a<9223372036854775808)(hs:c.size<=100000) :
  lL prog 81 #[.agg (g.map j_).toArray,.agg (Cf a c t)] w fun e B=>e=.returned (bif decide (tq g a c.data.toList=t) then .tuple #[.string (strOf (dM g a c.data.toList)),.int .i64 0] else .tuple #[.string { data:=#[] },.int .i64 8])/\Ext w B:=by
 obtain⟨j,m⟩:∃ r,(g.map j_).toArray=r:=⟨_,rfl⟩;have Y:=hide U;have J:=hide (fun W P=>aVe g a c W P O h1 h2 hs);have z:=hide (fun W P=>bIx g a c W P O h1 h2 hs);rw[m] at J z ⊢;have q:j.size=16:=by rw[<-m];simpa using O
 have I:=hide (show (t.map j_).length=16 from by simpa using Q);have y:=fun W=>aHS (gW g a c.data.toList) Q W;obtain⟨d,T⟩:=jc (decide (tq g a c.data.toList=t));rw[T] at y ⊢;clear T;obtain⟨p,u⟩:∃ l,t.map j_=l:=⟨_,rfl⟩;have D:Cf a c t=(gp .i64 a::aCJ c::p).toArray:=by rw[<-u];rfl
 rw[u] at y I;rw[D];obtain⟨tg,C⟩:∃ l,(tq g a c.data.toList).map j_=l:=⟨_,rfl⟩;rw[C] at y z
 have s:=hide (show eu ((w.alloc (.cells j 23)).alloc (.cells (gp .i64 a::aCJ c::p).toArray 27)) w.heap.size 23 j /\
   ((w.alloc (.cells j 23)).alloc (.cells (gp .i64 a::aCJ c::p).toArray 27)).cell? ⟨w.heap.size+1,0,none⟩=some (.int .i64 a) /\
   ((w.alloc (.cells j 23)).alloc (.cells (gp .i64 a::aCJ c::p).toArray 27)).cell? ⟨w.heap.size+1,1,none⟩=some (.string c) /\
   ((w.alloc (.cells j 23)).alloc (.cells (gp .i64 a::aCJ c::p).toArray 27)).rangeAt (w.heap.size+1) 2 p from
  ⟨(eu.new w _ _).alloc _,iQ _ _ _ d_ rfl,iQ _ _ _ d_ rfl,aLe (pre:=[gp .i64 a,aCJ c]) (eu.new' _ _ _ d_)⟩)
 have A:=hide (fun W (X:Ext ((w.alloc (.cells j 23)).alloc (.cells (gp .i64 a::aCJ c::p).toArray 27)) W)=>az (Ext.jh X (aA s).2.1) (Ext.jh X (aA s).2.2.1));clear U m u D C
 go_enter func81,ntmps81
 go_upto_region 1 with fail
 refine wp_region_held_drew (S:=fun B=>Ext ((w.alloc (.cells j 23)).alloc (.cells (gp .i64 a::aCJ c::p).toArray 27)) B) ai (Ext.refl _).drew (fun b=>?_);refine aBC (i:=0) (v:=_) rfl ai ai ai (fun _ _ _ h=>h) (ylb bF rfl ay rfl q (fun B N=>(aA s).1.ext N)) qm ?_
 try simp only[Act.put,zA,zB,zC,zD,zF]
 refine aBC (i:=1) (v:=?_) rfl ai ai ai (fun _ _ _ h=>h) (Or.inl ⟨ay,fun k f=>?_⟩) qm ?_;rotate_left
 ·(first|(go_simp;done)|(go_simp;with_reducible rfl)|(obtain⟨H,G⟩:=(aA A) k f;clear f;first|(go_simp;done)|(go_simp;with_reducible rfl)))
 try simp only[Act.put,zA,zB,zC,zD,zE,zF]
 refine aBC (i:=2) (v:=?_) rfl ai ai ai (fun _ _ _ h=>h) (Or.inl ⟨ay,fun k f=>?_⟩) qm ?_;rotate_left
 ·(first|(go_simp;done)|(go_simp;with_reducible rfl)|(obtain⟨H,G⟩:=(aA A) k f;clear f;first|(go_simp;done)|(go_simp;with_reducible rfl)))
 try simp only[Act.put,zA,zB,zC,zD,zE,zF]
 refine aBC (i:=3) (v:=?_) rfl ai ai ai (fun _ _ _ h=>h) (Or.inl ⟨ay,fun k f=>?_⟩) qm ?_;rotate_left
 ·(first|(go_simp;done)|(go_simp;with_reducible rfl)|(obtain⟨H,G⟩:=(aA A) k f;clear f;first|(go_simp;done)|(go_simp;with_reducible rfl)))
 try simp only[Act.put,zA,zB,zC,zD,zE,zF]
 refine aBC (i:=4) (v:=?_) rfl ai ai ai (fun _ _ _ h=>h) (Or.inl ⟨ay,fun k f=>?_⟩) qm ?_;rotate_left
 ·(first|(go_simp;done)|(go_simp;with_reducible rfl)|(obtain⟨H,G⟩:=(aA A) k f;clear f;first|(go_simp;done)|(go_simp;with_reducible rfl)))
 try simp only[Act.put,zA,zB,zC,zD,zE,zF]
 refine aBC (i:=6) (v:=?_) rfl ai ai ai (fun _ _ _ h=>h) (Or.inl ⟨ay,fun k f=>?_⟩) qm ?_;rotate_left
 ·(first|(go_simp;done)|(go_simp;with_reducible rfl)|(obtain⟨H,G⟩:=(aA A) k f;clear f;first|(go_simp;done)|(go_simp;with_reducible rfl)))
 try simp only[Act.put,zA,zB,zC,zD,zE,zF]
 refine aBC (i:=7) (v:=_) rfl ai ai ai (fun _ _ _ h=>h) (ylm bF rfl ay rfl (aA I) (fun B N=>aXg (aA s).2.2.2 N)) qm ?_
 try simp only[Act.put,zA,zB,zC,zD,zE,zF]
 refine wpAnyH_ready (rs:=[5]) ai d_ (AllReadyH.cons (o:=_) rfl (fun K V=>?_) AllReadyH.nil);go_simp;refine (aA z _ ((aA Y).ext ((((Ext.refl w).alloc _).alloc _).trans b))).mono ?_;rintro e L ⟨rfl,F⟩;have Z:=Ext.trans b F;clear F b;refine V.out _ _ ?_ (fun b=>?_);exact Z;clear V K
 try simp only[Act.put,zA,zB,zC,zD,zE,zF]
 refine aBC (i:=8) (v:=?_) rfl ai ai ai (fun _ _ _ h=>h) (Or.inl ⟨ay,fun k f=>?_⟩) qm ?_;rotate_left
 ·(first|(go_simp;done)|(go_simp;with_reducible rfl)|(obtain⟨H,G⟩:=(aA A) k f;clear f;first|(go_simp;done)|(go_simp;with_reducible rfl)))
 try simp only[Act.put,zA,zB,zC,zD,zE,zF]
 refine wpAnyH_done ai ?_ _;cases d
 ·go_wp2
  go_ret2
  exact⟨rfl,(((Ext.refl w).alloc _).alloc _).trans b⟩
 ·have n:=hide (show eu L w.heap.size 23 j/\L.cell? ⟨w.heap.size+1,0,none⟩=some (.int .i64 a)/\L.cell? ⟨w.heap.size+1,1,none⟩=some (.string c)/\Ext w L from
   ⟨(aA s).1.ext b,Ext.jh b (aA s).2.1,Ext.jh b (aA s).2.2.1,(((Ext.refl w).alloc _).alloc _).trans b⟩)
  have c1:=(aA n).2.1;have c2:=(aA n).2.2.1;clear b s A
  go_wp2_with (first
   |(refine fO (x:=.tmp 2) rfl rfl bF rfl (cs:=j) (aA n).1 q ?_)
   |(go_at_call 105;refine (aA J _ ((aA Y).ext (aA n).2.2.2)).mono ?_;rintro e w6 ⟨rfl,E⟩;have H6:=hide E;clear E))
  go_ret2
  exact⟨rfl,(aA n).2.2.2.trans (aA H6)⟩
theorem TJ(b:di)(a:Int)(c:jy)(t:di)(w:ae)(i:af w)(h:b.length=16)(g:t.length=16)(h1:-9223372036854775808<=a)(h2:a<9223372036854775808)(hs:c.size<=100000)
  (d:¬tq b a c.data.toList=t) :
  lL prog 81 #[.agg (b.map j_).toArray,.agg (Cf a c t)] w fun e f=>e=.returned (.tuple #[.string { data:=#[] },.int .i64 8])/\Ext w f:=by
 have:=aSq b a c t w i h g h1 h2 hs;rw[su d] at this;exact this
theorem LC(b:di)(a:Int)(c:jy)(t:di)(w:ae)(i:af w)(h:b.length=16)(g:t.length=16)(h1:-9223372036854775808<=a)(h2:a<9223372036854775808)(hs:c.size<=100000)
  (d:tq b a c.data.toList=t) :
  lL prog 81 #[.agg (b.map j_).toArray,.agg (Cf a c t)] w fun e f=>e=.returned (.tuple #[.string (strOf (dM b a c.data.toList)),.int .i64 0])/\Ext w f:=by
 have:=aSq b a c t w i h g h1 h2 hs;rw[mi d] at this;exact this

theorem IQ(a x:UInt8):(a ^^^ x) ^^^ x=a:=by rw[UInt8.xor_assoc,UInt8.xor_self,UInt8.xor_zero]
theorem IM(s x:di)(h:s.length<=x.length):aCK (· ^^^ ·) (aCK (· ^^^ ·) s x) x=s:=by
 induction s generalizing x with
 |nil=>simp| cons a s c=>
  cases x with
  |nil=>simp at h|cons b x=>simp only[List.zipWith_cons_cons];rw[IQ,c x (by simpa using h)]
theorem zQ(b:di)(a:Int)(s:di):dM b a (dM b a s)=s:=by have c:=cZ b a s;unfold dM at c ⊢;rw[c];exact IM _ _ (by rw[tK];simp)
def EW(n:Int)(c:jy)(l:jl):mg:=(gp .i64 n::aCJ c::l).toArray
theorem V8(n:Int)(c:jy)(t:di):Cf n c t=EW n c (t.map j_):=rfl
theorem bHf{w:ae}{g:Nat}{t:bu}{n:Int}{c:jy}{l:jl}(h:eu w g t (EW n c l)):w.rangeAt g 2 l:=aLe (pre:=[gp .i64 n,aCJ c]) h
theorem tN(x:UInt32)(n:Nat)(b:Int)(hI:b=(n:Int))(w:ae)(hn:0<n)(a:n<32) :
  lL prog 164 #[.int .u32 (x.toNat:Int),.int .i64 b] w fun e c=>e=.returned (.int .u32 ((iG x (aBA n)).toNat:Int))/\∃ k,c=w.drewN k:=by
 subst hI
 have d:=hide (show bits BinOp.or yl ((x.toNat:Int) / 2 ^ n) ((x.toNat:Int)*2 ^ (32-n) % 4294967296)=((iG x (aBA n)).toNat:Int) from by
  rw[bDq x (32-n) a_,bJl x n a,Gu];unfold iG;have e:aBA (32-n)=32-aBA n:=by apply UInt32.toNat_inj.1;rw[UInt32.toNat_sub];simp;omega
  rw[e])
 have f:=x.toNat_lt;have g:IntKind.wrap .i64 (32-(n:Int))=((32-n:Nat):Int):=by rw[show (32:Int)-(n:Int)=((32-n:Nat):Int) by omega];exact IntWalk.i64_in _ a_
 go_enter func164,ntmps164
 go_wp2
 go_quiet (fail)
 go_wp2
 go_ret;exact⟨vM (aA d),_,rfl⟩
theorem Rf:AZ prog 200 203 1 4:=AZ.mk' (z:=.int .u32 0) ai ai rfl a_ a_
def hexD(c:UInt8):UInt32:=if 97<=c.toNat then (c-97+10).toUInt32 else (c-48).toUInt32
def WY(l:di)(i k:Nat):UInt32:=((l.drop (8*i)).take k).foldl (fun w c=>16*w+hexD c) 0
def wG(l:di)(i:Nat):UInt32:=WY l i 8
theorem bFz(l:di)(i k:Nat)(h:8*i+k<l.length):WY l i (k+1)=16*WY l i k+hexD l[8*i+k]:=by unfold WY;rw[lJ _ k l7,aDT];simp
theorem Yl(c:UInt8)(h:c.toNat<97):((c.toNat:Int)-48) % 256=((hexD c).toNat:Int):=by unfold hexD;rw[ah a_,UInt8.toNat_toUInt32,UInt8.toNat_sub,show (48:UInt8).toNat=48 from rfl];have:=c.toNat_lt;omega
theorem Ym(c:UInt8)(h:97<=c.toNat):(c.toNat:Int)-97+10=((hexD c).toNat:Int):=by unfold hexD;rw[au h,UInt8.toNat_toUInt32,UInt8.toNat_add,UInt8.toNat_sub,show (97:UInt8).toNat=97 from rfl,show (10:UInt8).toNat=10 from rfl];have:=c.toNat_lt;omega
theorem OG(a d:UInt32):(16*(a.toNat:Int) % 4294967296+(d.toNat:Int)) % 4294967296=((16*a+d).toNat:Int):=by rw[aEw,UInt32.toNat_mul];simp
theorem IZ(s:jy)(i:Nat)(w:ae)(hs:s.size<=100000)(r:8*i+8<=s.size) :
  lL prog 163 #[.string s,.int .i64 (i:Int)] w fun e m=>e=.returned (.int .u32 ((wG s.data.toList i).toNat:Int))/\w=m:=by
 have x:IntKind.wrap .i64 (8*(i:Int))=8*(i:Int):=IntWalk.i64_in _ a_
 go_enter func163,ntmps163
 go_wp2
 go_loop [5,6] (fun a b=>∃ k:Nat,k<=8/\b=.int .i64 ((8*i+k:Nat):Int)/\a=.int .u32 ((WY s.data.toList i k).toNat:Int)) (fun _ b=>8*i+8-(intOf b).toNat)
 case atStart=>exact⟨0,x8 _,d_,rfl⟩
 case round=>
  obtain⟨k,q,rfl,rfl⟩:=hrel;by_cases n:k<8
  ·have g:8*i+k<s.size:=a_;have h:=hide (bFz s.data.toList i k (by rw[nz];exact g));have t:=s[8*i+k].toNat_lt;have l:Hid (s.data.toList[8*i+k]'(by rw[nz];exact g)=s[8*i+k]):=hide (by rw[Array.getElem_toList];rfl);have u:=(WY s.data.toList i k).toNat_lt;have j:=hide (fun d=>OG (WY s.data.toList i k) d);generalize WY s.data.toList i k=p at *;have o:decide (((8*i+k:Nat):Int)<8*(i:Int)+8)=true:=mi a_;by_cases c:97<=s[8*i+k].toNat
   ·have f:=hide (Ym s[8*i+k] c)
    go_wp2
    go_round
    case rel=>exact⟨k+1,a_,by go_num,int_eq (by rw[aA f,aA h,aA l];exact aA j _)⟩
    case measure=>simp[intOf];omega
   ·have f:=hide (Yl s[8*i+k] a_)
    go_wp2
    go_round
    case rel=>exact⟨k+1,a_,by go_num,int_eq (by rw[aA f,aA h,aA l];exact aA j _)⟩
    case measure=>simp[intOf];omega
  ·obtain rfl:k=8:=a_;have o:decide (((8*i+8:Nat):Int)<8*(i:Int)+8)=false:=su a_
   go_wp2
   go_ret;exact⟨rfl,rfl⟩
theorem aQr(s:jy)(n:Nat)(g:Int)(hI:g=(n:Int))(w:ae)(hs:s.size<=100000)(hn:8*n<=s.size) :
  lL prog 132 #[.string s,.int .i64 g] w fun e d=>∃ A c,e=.returned (.slice A n c)/\d.ownsRow w.heap.size 203 1 (.slice A n c) n (((yz n).map (wG s.data.toList)).map w32)/\Ext w d:=by
 subst hI
 go_enter func132,ntmps132
 go_wp2
 go_loopw [5,6] (fun b i wr=>∃ (k:Nat) (A:Option uB) (c:Nat),k<=n/\i=.int .i64 k/\b=.slice A k c/\Hid (wr.ownsRow w.heap.size 203 1 (.slice A k c) k (((yz k).map (wG s.data.toList)).map w32)/\Ext w wr)) (fun _ i _=>n-(intOf i).toNat)
 case atStart=>exact⟨0,none,0,x8 _,rfl,rfl,hide ⟨aEx _ _ _ _,Ext.refl _⟩⟩
 case round=>
  obtain⟨k,A,c,z,rfl,rfl,a⟩:=hrel;by_cases o:k<n
  ·have r:=hide (show ((yz (k+1)).map (wG s.data.toList)).map w32=((yz k).map (wG s.data.toList)).map w32++[w32 (wG s.data.toList k)] from by rw[aEF];simp);have t:=hide (fun W=>IZ s k W hs a_);generalize wG s.data.toList k=x at *
   go_wp2_with (first
    |(go_at_call 163;refine (aA t _).mono ?_;rintro e d ⟨rfl,rfl⟩)
    |(at_builtin;refine bQ rfl rfl Rf rfl (bP (aA a).1 ((Ext.refl _).alloc _)) rfl (Reads.yj _ _ _) (dN.one rfl) a_ (ry (aA a).2.size' d_) ?_;intro u p y j l h;have f:=hide (az j (az l h));clear j l h))
   go_roundw
   case rel=>refine⟨k+1,u,p,a_,by go_num,rfl,hide ⟨by rw[aA r];exact (aA f).1,?_⟩⟩;exact Onto.EN (aA a).2 (((Onto.refl _ _).ext ((Ext.refl wr).alloc _)).trans (Onto.app (aA f).2.1 (aA f).2.2)) (fun q m=>((aA a).1.lt q m).1)
   case measure=>simp[intOf];omega
  ·obtain rfl:k=n:=a_
   go_wp2
   go_ret;exact⟨_,_,rfl,(aA a).1,(aA a).2⟩
theorem Reads.at_{w:ae}{b o n c:Nat}{xs:jl}(h:Reads w 1 (.slice (some ⟨b,o,none⟩) n c) n xs){j:Nat}{u:ag}(a:xs[j]?=some u):w.cell? ⟨b,o+j,none⟩=some u:=by
 obtain⟨l,A,m,e,_,_,g⟩:=h;have f:j<xs.length:=by rcases aAW j xs.length with h|h;exact h;rw[PR h] at a;cases a
 obtain⟨p,k,i,d⟩:=g a_;cases e;cases i;exact d j u a
theorem Reads.byteAt{w:ae}{b o n c:Nat}{l:di}(h:Reads w 1 (.slice (some ⟨b,o,none⟩) n c) n (l.map j_)){j:Nat}(a:j<l.length):w.cell? ⟨b,o+j,none⟩=some (.int .u8 ((l.getD j 0).toNat:Int)):=h.at_ (by rw[aAg,zG,zH a];rfl)
theorem Reads.wordAt{w:ae}{b o n c:Nat}{l:List UInt32}(h:Reads w 1 (.slice (some ⟨b,o,none⟩) n c) n (l.map w32)){j:Nat}(a:j<l.length):w.cell? ⟨b,o+j,none⟩=some (.int .u32 ((l.getD j 0).toNat:Int)):=h.at_ (by rw[aAg,zG,zH a];rfl)
structure GB(w0:ae)(B:Nat)(v:ag)(n:Nat)(l:di)(wr:ae):Prop where
 own:wr.ownsRow B 5 1 v n (l.map j_)
 ext:Ext w0 wr
 base:w0.heap.size<=B
 room:B<=wr.heap.size
theorem GB.nil{w0 wr:ae}{B:Nat}(b:Ext w0 wr)(c:w0.heap.size<=B)(a:B<=wr.heap.size):GB w0 B (.slice none 0 0) 0 [] wr:=⟨aEx _ _ _ _,b,c,a⟩
theorem GB.len{w0 wr:ae}{B n:Nat}{v:ag}{l:di}(h:GB w0 B v n l wr):l.length=n:=by have:=h.own.1;simpa using this
theorem GB.to{w0 wr b:ae}{B n:Nat}{v:ag}{l:di}(h:GB w0 B v n l wr)(a:Ext wr b):GB w0 B v n l b:=⟨bP h.own a,h.ext.trans a,h.base,ry h.room a.size'⟩
theorem GB.step{w0 wr b a:ae}{B n d:Nat}{v c:ag}{l l':di}(h:GB w0 B v n l wr)(f:Ext wr b)(hc:gq (fun k=>v.ownBlock=some k) b a)(g:a.ownsRow B 5 1 c d (l'.map j_)):GB w0 B c d l' a:=⟨g,(h.ext.trans f).trans' hc (fun _ _ h=>h) (fun i j e=>by have:=(h.own.lt i e).1;have:=h.base;omega),h.base,ry h.room (ry f.size' hc.size)⟩
theorem GB.blk{w0 wr b a:ae}{B n:Nat}{v:ag}{l:di}(h:GB w0 B v n l wr)(c:Ext wr b)(hc:gq (fun k=>v.ownBlock=some k) b a){g:Nat}{t:bu}{cs:mg}(hb:eu wr g t cs)(d:g<B):eu a g t cs:=(hb.ext c).iw hc (fun e=>by have:=(h.own.lt g e).1;omega)
theorem GB.reads{w0 wr:ae}{B n:Nat}{v:ag}{l:di}(h:GB w0 B v n l wr):Reads wr 1 v n (l.map j_):=Reads.ou h.own
def eU(n:Nat)(l:di):mg:=(l.map j_++Pi (n-l.length) (gp .u8 0)).toArray
theorem rW{n:Nat}{l:di}{i:Nat}(h:l.length<=i)(a:i<n):(eU n l)[i]?=some (.int .u8 0):=by unfold eU;rw[aBU,aBi (by simpa using h),aCT,au l7]
theorem aBd{n k:Nat}{l:di}(x:UInt8)(hl:l.length=k)(h:k<n):(eU n l).setIfInBounds k (.int .u8 (x.toNat:Int))=eU n (l++[x]):=by subst hl;unfold eU;rw[show n-l.length=(n-(l++[x]).length)+1 from l7,aJv];simp[j_]
theorem aJl(n:Nat):eU n []=DD n (gp .u8 0):=by unfold eU;simp
theorem mJ{n:Nat}{l:di}(h:l.length<=n):(eU n l).size=n:=by unfold eU;simp;omega
theorem aBe{n:Nat}{l:di}(h:l.length=n):eU n l=(l.map j_).toArray:=by unfold eU;rw[h,aBa];simp
def aMG(w:ae)(a:di)(k:Nat)(wr:ae):Prop:=eu wr w.heap.size 203 (iI 64 (dO a k))/\Ext w wr
theorem be4(f:di)(k:Nat)(h:4*k+3<f.length):sV ((f.drop (4*k)).take 4)=((((f.getD (4*k) 0).toUInt32 <<< 24) ||| ((f.getD (4*k+1) 0).toUInt32 <<< 16)) ||| ((f.getD (4*k+2) 0).toUInt32 <<< 8)) ||| (f.getD (4*k+3) 0).toUInt32:=by
 have e:(f.drop (4*k)).take 4=[f.getD (4*k) 0,f.getD (4*k+1) 0,f.getD (4*k+2) 0,f.getD (4*k+3) 0]:=by
  apply aAX;intro i;rw[yf,aAk]
  match i with
  |0=>simp;rw[zH a_];rfl|1=>simp;rw[zH a_];rfl|2=>simp;rw[zH a_];rfl|3=>simp;rw[zH a_];rfl|i+4=>simp;omega
 rw[e];generalize f.getD (4*k) 0=a;generalize f.getD (4*k+1) 0=b;generalize f.getD (4*k+2) 0=c;generalize f.getD (4*k+3) 0=d;unfold sV;simp only[aEB,List.foldl_nil];apply UInt32.eq_of_toBitVec_eq;simp;have j:∀ x:BitVec 32,(x <<< 8) <<< 8=x <<< 16:=fun x=>by rw[<-BitVec.shiftLeft_add]
 have g:∀ x:BitVec 32,(x <<< 16) <<< 8=x <<< 24:=fun x=>by rw[<-BitVec.shiftLeft_add]
 simp only[BitVec.shiftLeft_or_distrib,j,g]
theorem aRS(y:UInt8):(y.toNat:Int) % 4294967296=(y.toNat:Int):=by have:=y.toNat_lt;omega
theorem bDu(a:di)(j:Nat):dO a (j+16+1)=dO a (j+16)++[(dO a (j+16)).getD j 0+((iG ((dO a (j+16)).getD (j+1) 0) 7 ^^^ iG ((dO a (j+16)).getD (j+1) 0) 18) ^^^ ((dO a (j+16)).getD (j+1) 0 >>> 3))+(dO a (j+16)).getD (j+9) 0 +
  ((iG ((dO a (j+16)).getD (j+14) 0) 17 ^^^ iG ((dO a (j+16)).getD (j+14) 0) 19) ^^^ ((dO a (j+16)).getD (j+14) 0 >>> 10))]:=by
 rw[dO,ah a_];unfold xK;simp only[iY,show j+16-15=j+1 from a_,show j+16-2=j+14 from a_,show j+16-16=j from a_,show j+16-7=j+9 from a_]
theorem aGS(x:UInt32)(w:ae):lL prog 164 #[.int .u32 (x.toNat:Int),.int .i64 6] w fun e a=>e=.returned (.int .u32 ((iG x 6).toNat:Int))/\∃ k,a=w.drewN k:=tN x 6 _ rfl w a_ a_
theorem XV(x:UInt32)(w:ae):lL prog 164 #[.int .u32 (x.toNat:Int),.int .i64 11] w fun e a=>e=.returned (.int .u32 ((iG x 11).toNat:Int))/\∃ k,a=w.drewN k:=tN x 11 _ rfl w a_ a_
theorem XO(x:UInt32)(w:ae):lL prog 164 #[.int .u32 (x.toNat:Int),.int .i64 25] w fun e a=>e=.returned (.int .u32 ((iG x 25).toNat:Int))/\∃ k,a=w.drewN k:=tN x 25 _ rfl w a_ a_
theorem aGT(x:UInt32)(w:ae):lL prog 164 #[.int .u32 (x.toNat:Int),.int .i64 2] w fun e a=>e=.returned (.int .u32 ((iG x 2).toNat:Int))/\∃ k,a=w.drewN k:=tN x 2 _ rfl w a_ a_
theorem XU(x:UInt32)(w:ae):lL prog 164 #[.int .u32 (x.toNat:Int),.int .i64 13] w fun e a=>e=.returned (.int .u32 ((iG x 13).toNat:Int))/\∃ k,a=w.drewN k:=tN x 13 _ rfl w a_ a_
theorem XP(x:UInt32)(w:ae):lL prog 164 #[.int .u32 (x.toNat:Int),.int .i64 22] w fun e a=>e=.returned (.int .u32 ((iG x 22).toNat:Int))/\∃ k,a=w.drewN k:=tN x 22 _ rfl w a_ a_
theorem aGR(x:UInt32)(w:ae):lL prog 164 #[.int .u32 (x.toNat:Int),.int .i64 7] w fun e a=>e=.returned (.int .u32 ((iG x 7).toNat:Int))/\∃ k,a=w.drewN k:=tN x 7 _ rfl w a_ a_
theorem XR(x:UInt32)(w:ae):lL prog 164 #[.int .u32 (x.toNat:Int),.int .i64 18] w fun e a=>e=.returned (.int .u32 ((iG x 18).toNat:Int))/\∃ k,a=w.drewN k:=tN x 18 _ rfl w a_ a_
theorem XT(x:UInt32)(w:ae):lL prog 164 #[.int .u32 (x.toNat:Int),.int .i64 17] w fun e a=>e=.returned (.int .u32 ((iG x 17).toNat:Int))/\∃ k,a=w.drewN k:=tN x 17 _ rfl w a_ a_
theorem XQ(x:UInt32)(w:ae):lL prog 164 #[.int .u32 (x.toNat:Int),.int .i64 19] w fun e a=>e=.returned (.int .u32 ((iG x 19).toNat:Int))/\∃ k,a=w.drewN k:=tN x 19 _ rfl w a_ a_
theorem bJk(x r s:UInt32)(n:Nat)(d:Int)(hd:d=2 ^ n)(hn:n<32):bits BinOp.xor yl (bits BinOp.xor yl (r.toNat:Int) (s.toNat:Int)) ((x.toNat:Int) / d)=(((r ^^^ s) ^^^ (x >>> aBA n)).toNat:Int):=by rw[hd,bJl x n hn,zT,zT]
theorem add4(a b c d:UInt32):((a.toNat:Int)+(b.toNat:Int)+(c.toNat:Int)+(d.toNat:Int)) % 4294967296=((a+b+c+d).toNat:Int):=by rw[aEw,aEw,aEw];omega
theorem XK(d a f e c b i h g:UInt32):((d.toNat:Int)+bits BinOp.xor yl (bits BinOp.xor yl (i.toNat:Int) (h.toNat:Int)) (g.toNat:Int)+bits BinOp.xor yl (bits BinOp.and yl (a.toNat:Int) (f.toNat:Int)) (bits BinOp.and yl (bits BinOp.xor yl 4294967295 (a.toNat:Int)) (e.toNat:Int))+(c.toNat:Int)+(b.toNat:Int)) % 4294967296 =
  ((d+(i ^^^ h ^^^ g)+((a &&& f) ^^^ (~~~a &&& e))+c+b).toNat:Int):=by
 rw[show (4294967295:Int)=IntKind.u32.max from rfl,W_,Qo,Qo,zT,zT,zT];simp only[aEw];omega
theorem XJ(T c b a f e d:UInt32):((T.toNat:Int)+(bits BinOp.xor yl (bits BinOp.xor yl (f.toNat:Int) (e.toNat:Int)) (d.toNat:Int)+bits BinOp.xor yl (bits BinOp.xor yl (bits BinOp.and yl (c.toNat:Int) (b.toNat:Int)) (bits BinOp.and yl (c.toNat:Int) (a.toNat:Int))) (bits BinOp.and yl (b.toNat:Int) (a.toNat:Int))) % 4294967296) % 4294967296 =
  ((T+((f ^^^ e ^^^ d)+(((c &&& b) ^^^ (c &&& a)) ^^^ (b &&& a)))).toNat:Int):=by
 rw[Qo,Qo,Qo,zT,zT,zT,zT];simp only[aEw];omega
theorem bOu(R v:List UInt32)(j:R.length=8)(i:v.length=8):aCK (·+·) R v=[v.getD 0 0+R.getD 0 0,v.getD 1 0+R.getD 1 0,v.getD 2 0+R.getD 2 0,v.getD 3 0+R.getD 3 0,v.getD 4 0+R.getD 4 0,v.getD 5 0+R.getD 5 0,v.getD 6 0+R.getD 6 0,v.getD 7 0+R.getD 7 0]:=by
 match R,j,v,i with
 |[a,b,c,d,e,f,g,h],_,[r,q,p,o,n,m,l,k],_=>simp[UInt32.add_comm]
theorem VB(a b c d:UInt8):bits BinOp.or yl (bits BinOp.or yl (bits BinOp.or yl ((a.toNat:Int)*16777216 % 4294967296) ((b.toNat:Int)*65536 % 4294967296)) ((c.toNat:Int)*256 % 4294967296)) (d.toNat:Int) =
  ((((a.toUInt32 <<< 24) ||| (b.toUInt32 <<< 16)) ||| (c.toUInt32 <<< 8)) ||| d.toUInt32).toNat:=by
 have e:=bDq a.toUInt32 24 a_;have f:=bDq b.toUInt32 16 a_;have g:=bDq c.toUInt32 8 a_;rw[show (16777216:Int)=2 ^ 24 from rfl,show (65536:Int)=2 ^ 16 from rfl,show (256:Int)=2 ^ 8 from rfl,aUs,aUs b,aUs c,aUs d,e,f,g,Gu,Gu,Gu];rfl
theorem aNy (v:List UInt32) (l:di) (vv bv kv:ag) (w:ae) (q:v.length=8) (hb:l.length=64) (E:Reads w 1 vv 8 (v.map w32)) (G:Reads w 1 bv 64 (l.map j_)) (F:Reads w 1 kv 64 (Aj.map w32)) :
  lL prog 133 #[vv,bv,kv] w fun e w'=>∃ A,e=.returned (.slice A 8 8)/\Reads w' 1 (.slice A 8 8) 8 ((nM v l).map w32)/\Ext w w':=by
 have u:=hide (az q E);have Y:=hide (az hb G);have HK:=hide F;obtain⟨b0,o0,c0,rfl,_,_,_,_⟩:=E.sub 0 8 a_ a_;obtain⟨b1,o1,c1,rfl,_,_,_,_⟩:=G.sub 0 64 a_ a_;obtain⟨b2,o2,c2,rfl,_,_,_,_⟩:=F.sub 0 64 a_ a_;clear q hb E G F
 go_enter func133,ntmps133
 have a5:∀ W,(Instr.makeSlice 200 (.int .i64 64) (.int .i64 64)).run prog W=.ok (.slice (some ⟨W.heap.size,0,none⟩) 64 64) (W.alloc (.cells (iI 64 (dO l 0)) 203)):=fun _=>ai
 go_wp2
 clear a5
 go_loopw [8] (fun i wr=>∃ k:Nat,k<=16/\i=.int .i64 k/\Hid (aMG w l k wr)) (fun i _=>16-(intOf i).toNat)
 case atStart=>exact⟨0,x8 _,rfl,hide ⟨eu.new _ _ _,(Ext.refl w).alloc _⟩⟩
 case round=>
  obtain⟨k,V,rfl,n⟩:=hrel;by_cases m:k<16
  ·have hL:=iY l k
   have hw:wr.cell? ⟨w.heap.size,k,none⟩=some (.int .u32 0)/\wr.frozen? ⟨w.heap.size,k,none⟩=false:=⟨by
    rw[(aA n).1.cell];unfold iI
    rw[aBU,aBi l7,aCT,au l7],(aA n).1.frozen k⟩
   obtain⟨b9,b8⟩:=hw;have t:=(aA Y).2.ext (aA n).2;have q0:=t.byteAt (j:=4*k) (by rw[(aA Y).1];omega);have q1:=t.byteAt (j:=4*k+1) (by rw[(aA Y).1];omega);have q2:=t.byteAt (j:=4*k+2) (by rw[(aA Y).1];omega);have q3:=t.byteAt (j:=4*k+3) (by rw[(aA Y).1];omega);clear t;have HX:=hide (be4 l k (by rw[(aA Y).1];omega));have o:=hide (fun a b c d=>VB a b c d);generalize l.getD (4*k) 0=y0 at *;generalize l.getD (4*k+1) 0=y1 at *;generalize l.getD (4*k+2) 0=y2 at *;generalize l.getD (4*k+3) 0=y3 at *;have e0:IntKind.wrap .i64 (4*(k:Int))=4*(k:Int):=IntWalk.i64_in _ a_;have e1:IntKind.wrap .i64 (4*(k:Int)+1)=4*(k:Int)+1:=IntWalk.i64_in _ a_;have e2:IntKind.wrap .i64 (4*(k:Int)+2)=4*(k:Int)+2:=IntWalk.i64_in _ a_;have e3:IntKind.wrap .i64 (4*(k:Int)+3)=4*(k:Int)+3:=IntWalk.i64_in _ a_;have t0:(4*(k:Int)).toNat=4*k:=a_;have t1:(4*(k:Int)+1).toNat=4*k+1:=a_;have t2:(4*(k:Int)+2).toNat=4*k+2:=a_;have t3:(4*(k:Int)+3).toNat=4*k+3:=a_;have z:(0:Int)<=4*(k:Int)/\(0:Int)<=4*(k:Int)+1/\(0:Int)<=4*(k:Int)+2/\(0:Int)<=4*(k:Int)+3/\4*(k:Int)<64/\4*(k:Int)+1<64/\4*(k:Int)+2<64/\4*(k:Int)+3<64/\(k:Int)<64:=a_;obtain⟨z1,z2,z3,z4,z5,z6,z7,z8,z9⟩:=z
   go_wp2_with fail
   go_still_tail 36,ai
   clear q0 q1 q2 q3;change aBj _ _ _ _ _ wr.drew
   go_wp2
   go_roundw
   case rel=>
    refine⟨k+1,a_,by go_num,hide ⟨?_,(Ext.setCell (aA n).2.drew d_ _)⟩⟩;have X:=(aA n).1.drew.zq k (.int .u32 ((sV ((l.drop (4*k)).take 4)).toNat:Int));rw[wZ _ (iY l k) a_] at X;simp only[aRS];rw[aA o,<-aA HX];rw[dO,au m]
    first|exact X.drew|exact X
   case measure=>simp[intOf];omega
  ·obtain rfl:k=16:=a_;clear V m;obtain⟨wo,rfl⟩:∃ wo:ae,wo=wr:=⟨_,rfl⟩
   go_wp2
   go_loopw [9] (fun i wr=>∃ k:Nat,16<=k/\k<=64/\i=.int .i64 k/\Hid (aMG w l k wr)) (fun i _=>64-(intOf i).toNat)
   case atStart=>exact⟨16,a_,a_,rfl,n⟩
   case round=>
    clear n;obtain⟨k,B,V,rfl,n⟩:=hrel;by_cases m:k<64
    ·obtain⟨j,rfl⟩:∃ j,k=j+16:=⟨k-16,a_⟩;have hL:=iY l (j+16);have cx:∀ i,i<j+16->wr.cell? ⟨w.heap.size,i,none⟩=some (.int .u32 (((dO l (j+16)).getD i 0).toNat:Int)):=fun i hi=>by rw[(aA n).1.cell];exact lC a_
     have y:wr.cell? ⟨w.heap.size,j+16,none⟩=some (.int .u32 0):=by rw[(aA n).1.cell];unfold iI;rw[aBU,aBi l7,aCT,au l7]
     have HN:=hide (bDu l j);have HC:=hide (az y (az (cx j a_) (cx (j+9) a_)));have c1:=cx (j+1) a_;have a3:=cx (j+14) a_;clear cx y;generalize (dO l (j+16)).getD j 0=Z at *;generalize (dO l (j+16)).getD (j+1) 0=C at *;generalize (dO l (j+16)).getD (j+9) 0=x9 at *;generalize (dO l (j+16)).getD (j+14) 0=p at *;have a0:decide ((j:Int)+16<64)=true:=mi a_;have hj:j<48:=a_;clear B V m
     go_upto_region 9 with fail
     have a4:(((j+16:Nat):Int)-15)=((j+1:Nat):Int):=a_
     go_cut [10] (fun s wx=>∃ T:UInt32,s=.int .u32 (T.toNat:Int)/\Hid (T=(iG C 7 ^^^ iG C 18) ^^^ (C >>> 3)/\Ext wr wx))
     case first=>
      go_quiet ((first|(go_at_call 164;with_reducible exact Calls.quiet_of (aGR C _))|(go_at_call 164;with_reducible exact Calls.quiet_of (XR C _))))
      go_wp2_with fail
      go_meet
      exact⟨_,int_eq (bJk C _ _ 3 8 rfl a_),hide ⟨rfl,(Ext.refl wr).drewN _⟩⟩
     case rest=>
      obtain⟨T,rfl,I⟩:=hcut;obtain⟨J,rfl⟩:∃ J:ae,J=wc:=⟨_,rfl⟩;clear c1 a4;have a1:=Ext.jh (aA I).2 a3;clear a3
      go_upto_region 10 with fail
      have i2:(((j+16:Nat):Int)-2)=((j+14:Nat):Int):=a_
      go_cut [11] (fun s wx=>∃ U:UInt32,s=.int .u32 (U.toNat:Int)/\Hid (U=(iG p 17 ^^^ iG p 19) ^^^ (p >>> 10)/\Ext wr wx))
      case first=>
       go_quiet ((first|(go_at_call 164;with_reducible exact Calls.quiet_of (XT p _))|(go_at_call 164;with_reducible exact Calls.quiet_of (XQ p _))))
       go_wp2_with fail
       go_meet
       exact⟨_,int_eq (bJk p _ _ 10 1024 rfl a_),hide ⟨rfl,(aA I).2.drewN _⟩⟩
      case rest=>
       obtain⟨U,rfl,H⟩:=hcut;obtain⟨r,rfl⟩:∃ r:ae,r=wc:=⟨_,rfl⟩;clear a1 i2;have f0:=Ext.jh (aA H).2 (aA HC).1;have f1:=Ext.jh (aA H).2 (aA HC).2.1;have f2:=Ext.jh (aA H).2 (aA HC).2.2;have ff:=((aA n).1.ext (aA H).2).frozen (j+16);have b7:IntKind.wrap .i64 (((j+16:Nat):Int)-16)=(j:Int):=(IntWalk.i64_in _ a_).trans a_;have i7:IntKind.wrap .i64 (((j+16:Nat):Int)-7)=((j+9:Nat):Int):=(IntWalk.i64_in _ a_).trans a_;have b6:IntKind.wrap .i64 ((j:Int)+16-7)=(j:Int)+9:=(IntWalk.i64_in _ a_).trans a_;have i9:IntKind.wrap .i64 ((j:Int)+9)=(j:Int)+9:=IntWalk.i64_in _ a_;have i0:IntKind.wrap .i64 (j:Int)=(j:Int):=IntWalk.i64_in _ a_;have t9:((j:Int)+9).toNat=j+9:=a_;have a7:((j:Int)+16).toNat=j+16:=a_;have b0:(0:Int)<=(j:Int)+9/\(j:Int)+9<64/\(j:Int)<64/\(j:Int)+16<64/\(0:Int)<=(j:Int)+16:=a_;obtain⟨b1,b2,b3,b4,b5⟩:=b0
       go_upto_region 11 with fail
       go_still_tail 18,ai
       clear f1 f2;change aBj _ _ _ _ _ r.drew
       go_wp2
       go_roundw
       case rel=>
        repeat apply Exists.intro
        refine⟨?_,rfl⟩;refine⟨j+16+1,a_,a_,by go_num,hide ⟨?_,?_⟩⟩;have X:=(((aA n).1.ext (aA H).2).zq (j+16) (.int .u32 ((Z+T+x9+U).toNat:Int))).drew;rw[wZ _ (iY l (j+16)) a_] at X;rw[aA HN,add4,<-(aA I).1,<-(aA H).1];exact X;exact (((aA n).2.trans (aA H).2).setCell d_ _).drew
       case measure=>simp[intOf];omega
    ·obtain rfl:k=64:=a_;clear B V m;obtain⟨J,rfl⟩:∃ J:ae,J=wr:=⟨_,rfl⟩;have q:=(aA u).2.ext (aA n).2;have D:=q.wordAt (j:=0) (by rw[(aA u).1];omega);have S:=q.wordAt (j:=1) (by rw[(aA u).1];omega);have Q:=q.wordAt (j:=2) (by rw[(aA u).1];omega);have P:=q.wordAt (j:=3) (by rw[(aA u).1];omega);have O:=q.wordAt (j:=4) (by rw[(aA u).1];omega);have N:=q.wordAt (j:=5) (by rw[(aA u).1];omega);have L:=q.wordAt (j:=6) (by rw[(aA u).1];omega);have K:=q.wordAt (j:=7) (by rw[(aA u).1];omega);rw[aBK] at D;have a6:=hide (az D (az S (az Q (az P (az O (az N (az L K)))))));clear q
     go_wp2
     clear D S Q P O N L K
     go_loopw [12,13,14,15,16,17,18,19,20] (fun a b c d e f g h i wr=>∃ k:Nat,k<=64/\i=.int .i64 k/\a=.int .u32 (((bM l v k).getD 0 0).toNat:Int)/\b=.int .u32 (((bM l v k).getD 1 0).toNat:Int)/\c=.int .u32 (((bM l v k).getD 2 0).toNat:Int)/\d=.int .u32 (((bM l v k).getD 3 0).toNat:Int)/\e=.int .u32 (((bM l v k).getD 4 0).toNat:Int)/\f=.int .u32 (((bM l v k).getD 5 0).toNat:Int)/\g=.int .u32 (((bM l v k).getD 6 0).toNat:Int)/\h=.int .u32 (((bM l v k).getD 7 0).toNat:Int)/\Hid (Ext J wr)) (fun _ _ _ _ _ _ _ _ i _=>64-(intOf i).toNat)
     case atStart=>exact⟨0,x8 _,rfl,rfl,rfl,rfl,rfl,rfl,rfl,rfl,rfl,hide (Ext.refl _)⟩
     case round=>
      obtain⟨k,V,rfl,rfl,rfl,rfl,rfl,rfl,rfl,rfl,rfl,o⟩:=hrel;by_cases m:k<64
      ·have cw:wr.cell? ⟨w.heap.size,k,none⟩=some (.int .u32 (((sched l).getD k 0).toNat:Int)):=by
        rw[((aA n).1.ext (aA o)).cell];exact lC (by rw[iY];exact m)
       have ck:=((aA HK).ext ((aA n).2.trans (aA o))).wordAt (j:=k) m;have HN:=hide (show bM l v (k+1)=aBs (bM l v k) (Aj.getD k 0) ((sched l).getD k 0) from rfl);unfold aBs at HN;generalize (bM l v k).getD 0 0=Z at *;generalize (bM l v k).getD 1 0=C at *;generalize (bM l v k).getD 2 0=x2 at *;generalize (bM l v k).getD 3 0=x3 at *;generalize (bM l v k).getD 4 0=x at *;generalize (bM l v k).getD 5 0=x5 at *;generalize (bM l v k).getD 6 0=x6 at *;generalize (bM l v k).getD 7 0=x7 at *;generalize (sched l).getD k 0=xw at *;generalize Aj.getD k 0=xk at *;have a0:decide ((k:Int)<64)=true:=mi a_;have c3:(k:Int)<64:=a_;have t1:(0:Int)<=(k:Int):=a_
       go_upto_region 23 with fail
       clear a0
       go_cut [21] (fun s wx=>∃ T:UInt32,s=.int .u32 (T.toNat:Int)/\Hid (T=x7+(iG x 6 ^^^ iG x 11 ^^^ iG x 25)+((x &&& x5) ^^^ (~~~x &&& x6))+xk+xw/\Ext wr wx))
       case first=>
        go_quiet ((first|(go_at_call 164;with_reducible exact Calls.quiet_of (aGS x _))|(go_at_call 164;with_reducible exact Calls.quiet_of (XV x _))|(go_at_call 164;with_reducible exact Calls.quiet_of (XO x _))))
        go_wp2_with fail
        go_meet
        exact⟨_,int_eq (XK x7 x x5 x6 xk xw _ _ _),hide ⟨rfl,(Ext.refl wr).drewN _⟩⟩
       case rest=>
        obtain⟨T,rfl,I⟩:=hcut;obtain⟨r,rfl⟩:∃ r:ae,r=wc:=⟨_,rfl⟩;clear cw ck
        go_wp2_with (first
         |(go_at_call 164;with_reducible refine (aGT Z _).mono ?_;rintro e w' ⟨rfl,n2,rfl⟩)
         |(go_at_call 164;with_reducible refine (XU Z _).mono ?_;rintro e w' ⟨rfl,a9,rfl⟩)
         |(go_at_call 164;with_reducible refine (XP Z _).mono ?_;rintro e w' ⟨rfl,a8,rfl⟩))
        go_roundw
        case rel=>
         repeat apply Exists.intro
         refine⟨?_,rfl⟩;have a2:((x3.toNat:Int)+(T.toNat:Int)) % 4294967296=((x3+T).toNat:Int):=add32 x3 T;refine⟨k+1,a_,by go_num,int_eq ?_,?_,?_,?_,int_eq ?_,?_,?_,?_,hide (((aA o).trans (aA I).2).drewN _)⟩;rw[XJ,aA HN,(aA I).1];rfl
         all_goals rw[aA HN]
         rfl;rfl;rfl;rw[a2,(aA I).1];rfl;rfl;rfl;rfl
        case measure=>simp[intOf];omega
      ·obtain rfl:k=64:=a_;clear V m;obtain⟨r,rfl⟩:∃ r:ae,r=wr:=⟨_,rfl⟩;obtain⟨D,S,Q,P,O,N,L,K⟩:=aA a6;have D:=Ext.jh (aA o) D;have S:=Ext.jh (aA o) S;have Q:=Ext.jh (aA o) Q;have P:=Ext.jh (aA o) P;have O:=Ext.jh (aA o) O;have N:=Ext.jh (aA o) N;have L:=Ext.jh (aA o) L;have K:=Ext.jh (aA o) K;have HR:=hide (bOu (bM l v 64) v (lV _ _ (aA u).1 64) (aA u).1);generalize (bM l v 64).getD 0 0=r0 at *;generalize (bM l v 64).getD 1 0=r1 at *;generalize (bM l v 64).getD 2 0=r2 at *;generalize (bM l v 64).getD 3 0=r3 at *;generalize (bM l v 64).getD 4 0=r4 at *;generalize (bM l v 64).getD 5 0=r5 at *;generalize (bM l v 64).getD 6 0=r6 at *;generalize (bM l v 64).getD 7 0=r7 at *;generalize v.getD 0 0=y0 at *;generalize v.getD 1 0=y1 at *;generalize v.getD 2 0=y2 at *;generalize v.getD 3 0=y3 at *;generalize v.getD 4 0=y4 at *;generalize v.getD 5 0=y5 at *;generalize v.getD 6 0=y6 at *;generalize v.getD 7 0=y7 at *
       go_upto_region 33 with fail
       go_still_tail 40,ai
       clear D S Q P O N L K;change aBj _ _ _ _ _ r.drew
       go_wp2
       go_ret;refine⟨_,rfl,?_,(((((aA n).2.trans (aA o)).drew).alloc _))⟩
       simp only[add32];have hz:(nM v l).map w32=[w32 (y0+r0),w32 (y1+r1),w32 (y2+r2),w32 (y3+r3),w32 (y4+r4),w32 (y5+r5),w32 (y6+r6),w32 (y7+r7)]:=by unfold nM aBr;rw[aA HR];rfl
       rw[hz];exact (Reads.aRR r _ _ _ 8 8 _ rfl rfl (dE _) (by unfold uu;omega) rfl).ext ((Ext.refl _).drew)
theorem L9{w:ae}{B b:Nat}{e:bu}{a n:Nat}{v:ag}{xs:jl}(h:w.ownsRow B e a v n xs)(f:b<=B):w.ownsRow b e a v n xs:=by refine⟨h.1,?_⟩;rcases h.2 with h|⟨g,cap,cur,c,d,h⟩;exact .inl h;exact .inr ⟨g,cap,cur,c,ry f d,h⟩
theorem aFm(l:di)(w:ae)(hl:l.length=32) :
  lL prog 95 #[.agg (l.map j_).toArray] w fun e p=>∃ A c,e=.returned (.slice A 32 c)/\GB w w.heap.size (.slice A 32 c) 32 l p:=by
 obtain⟨m,a⟩:∃ r,(l.map j_).toArray=r:=⟨_,rfl⟩;have j:=hide (az a hl);rw[a];clear a hl
 go_enter func95,ntmps95
 go_wp2
 go_loopw [3,4] (fun b i wr=>∃ (k:Nat) (A:Option uB) (c:Nat),k<=32/\i=.int .i64 k/\b=.slice A k c/\Hid (GB w (w.heap.size+1) (.slice A k c) k (l.take k) wr/\eu wr w.heap.size 142 m)) (fun _ i _=>32-(intOf i).toNat)
 case atStart=>exact⟨0,none,0,x8 _,rfl,rfl,hide ⟨GB.nil ((Ext.refl w).alloc _) a_ d_,eu.new _ _ _⟩⟩
 case round=>
  obtain⟨k,A,c,z,rfl,rfl,f⟩:=hrel;by_cases d:k<32
  ·have B:wr.cell? ⟨w.heap.size,k,none⟩=some (.int .u8 ((l.getD k 0).toNat:Int)):=by
    rw[(aA f).2.cell,<-(aA j).1,aBU,aAg,zG,zH (by rw[(aA j).2];exact d)];rfl
   have t:=hide (show l.take (k+1)=l.take k++[l.getD k 0] from by
    rw[lJ l k (by rw[(aA j).2];exact d),zG,zH (by rw[(aA j).2];exact d)]
    rfl)
   generalize l.getD k 0=x at *;have C:(k:Int)<32:=a_
   go_wp2_with (at_builtin;refine bQ rfl rfl gV rfl (bP (aA f).1.own ((Ext.refl _).alloc _)) rfl (Reads.yj _ _ _) (dN.one rfl) a_ (ry (aA f).1.room d_) ?_;intro u s y o g q;have n:=hide (az o g);clear o g q)
   go_roundw
   case rel=>refine⟨k+1,u,s,a_,by go_num,rfl,hide ⟨(aA f).1.step ((Ext.refl _).alloc _) (aA n).2 (by rw[aA t,aBc];exact (aA n).1),(aA f).1.blk ((Ext.refl _).alloc _) (aA n).2 (aA f).2 a_⟩⟩
   case measure=>simp[intOf];omega
  ·obtain rfl:k=32:=a_
   go_wp2
   go_ret;have h:=(aA f).1;rw[WF (by rw[(aA j).2];omega)] at h
   exact⟨_,_,rfl,L9 h.own a_,h.ext,dE _,h.ext.size'⟩
theorem aKz(l:di)(w:ae)(hl:l.length=32) :
  lL prog 69 #[.agg (l.map j_).toArray] w fun e A=>e=.returned (.agg ((l.take 16).map j_).toArray)/\Ext w A:=by
 obtain⟨q,c⟩:∃ r,(l.map j_).toArray=r:=⟨_,rfl⟩;have o:=hide (az c hl);rw[c];clear c hl
 go_enter func69,ntmps69
 go_wp2
 go_loopw [4] (fun i wr=>∃ k:Nat,k<=16/\i=.int .i64 k/\Hid (eu wr w.heap.size 142 q/\eu wr (w.heap.size+1) 23 (eU 16 [])/\eu wr (w.heap.size+1+1) 23 (eU 16 (l.take k))/\Ext w wr)) (fun i _=>16-(intOf i).toNat)
 case atStart=>exact⟨0,x8 _,rfl,hide ⟨((eu.new w _ _).alloc _).alloc _,(eu.new' _ _ _ d_).alloc _,eu.new' _ _ _ d_,(((Ext.refl w).alloc _).alloc _).alloc _⟩⟩
 case round=>
  obtain⟨k,I,rfl,f⟩:=hrel;have b:(l.take k).length=k:=by rw[ww,(aA o).2];omega
  by_cases m:k<16
  ·have L:wr.cell? ⟨w.heap.size,k,none⟩=some (.int .u8 ((l.getD k 0).toNat:Int)):=by
    rw[(aA f).1.cell,<-(aA o).1,aBU,aAg,zG,zH (by rw[(aA o).2];omega)];rfl
   have j:=hide (show l.take (k+1)=l.take k++[l.getD k 0] from by
    rw[lJ l k (by rw[(aA o).2];omega),zG,zH (by rw[(aA o).2];omega)]
    rfl)
   have g:wr.cell? ⟨w.heap.size+1+1,k,none⟩=some (.int .u8 0):=by rw[(aA f).2.2.1.cell];exact rW a_ m
   have K:=(aA f).2.2.1.frozen k;generalize l.getD k 0=x at *;have O:(k:Int)<32:=a_;have N:(k:Int)<16:=a_;have G:=hide b;clear b
   go_wp2
   go_roundw
   case rel=>obtain⟨E,D,C,B⟩:=aA f;have u:=C.zq k (.int .u8 (x.toNat:Int));rw[aBd _ (aA G) m,<-aA j] at u;exact⟨k+1,a_,by go_num,hide ⟨E.far' a_ _ _,D.far' a_ _ _,u,B.setCell l7 _⟩⟩
   case measure=>simp[intOf];omega
  ·obtain rfl:k=16:=a_;obtain⟨d,a⟩:∃ r,((l.take 16).map j_).toArray=r:=⟨_,rfl⟩;have F:=hide (show eU 16 (l.take 16)=d from by rw[aBe b,a]);have j:=hide (show d.size=16/\d.all (·.oneCell')=true from by rw[<-a];exact⟨by simpa using b,dJ _⟩);have s:=hide a;clear a;rw[aA F] at f;clear b
   go_wp2_with (first
    |(refine fO (ty:=23) (t:=23) (x:=.tmp 3) rfl rfl bF rfl (aA f).2.2.1 (aA j).1 ?_)
    |(refine aT (ty:=23) (t:=23) (x:=.tmp 2) (y:=.tmp 15) rfl rfl bF rfl rfl (aA f).2.1 (mJ d_) (aA j).1 (aA j).2 ?_;intro H n g p;have z:=hide (az n g);clear n g p))
   refine aAT (v:=.agg d) (dQ bF rfl (aA z).1 (aA j).1 rfl) rfl ⟨by rw[aA s],?_⟩;exact (aA f).2.2.2.trans' (aA z).2 (fun _ _ h=>h) (fun i J e=>a_)
def hexOf(w:UInt32):di:=(yz 8).map fun i=>xy (if w.toNat / 16 ^ (7-i) % 16<10 then 48+w.toNat / 16 ^ (7-i) % 16 else 87+w.toNat / 16 ^ (7-i) % 16)
def aOy:jy:={ data:=(oW.flatMap hexOf).toArray }
def aIo:jy:={ data:=(Aj.flatMap hexOf).toArray }
theorem bNz:(yz 8).map (wG aOy.data.toList)=oW:=by decide +kernel
theorem bFy:(yz 64).map (wG aIo.data.toList)=Aj:=by decide +kernel
theorem first_any(w:ae){b:jy}(hb:b=aOy:=by kernel_rfl):lL prog 132 #[.string b,.int .i64 8] w fun e a=>∃ A c,e=.returned (.slice A 8 c)/\Reads a 1 (.slice A 8 c) 8 (oW.map w32)/\Ext w a:=by subst hb;refine (aQr aOy 8 8 rfl w (by decide +kernel) (by decide +kernel)).mono ?_;rintro e a ⟨A,c,rfl,d,f⟩;rw[bNz] at d;exact⟨A,c,rfl,Reads.ou d,f⟩
theorem bGx(w:ae){b:jy}(hb:b=aIo:=by kernel_rfl):lL prog 132 #[.string b,.int .i64 64] w fun e a=>∃ A c,e=.returned (.slice A 64 c)/\Reads a 1 (.slice A 64 c) 64 (Aj.map w32)/\Ext w a:=by subst hb;refine (aQr aIo 64 64 rfl w (by decide +kernel) (by decide +kernel)).mono ?_;rintro e a ⟨A,c,rfl,d,f⟩;rw[bFy] at d;exact⟨A,c,rfl,Reads.ou d,f⟩
theorem aLj(w:ae)(B:Nat)(e:bu)(a:Nat){g:Nat}(b:g=w.heap.size)(hb:B<=w.heap.size):(w.alloc (.cells #[] e)).ownsRow B e a (.slice (some ⟨g,0,none⟩) 0 0) 0 []:=by subst b;exact aCe w B e a hb
theorem OV{w a:ae}{l:di}{f:Option uB}{d:Nat}{b:mg}{T:bu}(c:a.ownsRow (w.heap.size+1) 5 1 (.slice f (0+l.length) d) (0+l.length) ([]++l.map j_))
  (hc:gq (fun k=>(aAP (some ⟨w.heap.size+1,0,none⟩) 0 0).ownBlock=some k) ((w.alloc (.cells b T)).alloc (.cells #[] 5)) a) :
  GB w (w.heap.size+1) (.slice f l.length d) l.length l a/\eu a w.heap.size T b:=by
 rw[mf,IR] at c;refine⟨⟨c,(((Ext.refl w).alloc _).alloc _).trans' hc (fun _ _ h=>h) (fun i g e=>?_),a_,?_⟩,eu.iw ((eu.new w _ _).alloc _) hc ?_⟩;simp[aAC] at e;omega;have:=hc.size;simp at this;omega;simp[aAC]
def jT(n:Nat):Nat:=(119-n % 64) % 64
def EI(l:di)(k:Nat):di:=l++[128]++Pi k 0
theorem Jp{w:ae}{B:Nat}{v:ag}{n:Nat}{l:di}(h:w.ownsRow B 5 1 v n (l.map j_++[.int .u8 128])):w.ownsRow B 5 1 v n ((EI l 0).map j_):=by unfold EI;rw[List.replicate_zero,AC,aBc];exact h
theorem bJz(l:di)(k:Nat):EI l (k+1)=EI l k++[0]:=by unfold EI;rw[List.replicate_succ',GM,GM,GM]
theorem Jq(l:di):EI l (jT l.length)++beBytes (8*l.length) 8=iK l:=rfl
theorem bOr(a:List UInt32):∀ (q r:Nat),q<a.length->r<4->(a.flatMap fun w=>beBytes w.toNat 4)[4*q+r]?=some (xy ((a.getD q 0).toNat / 256 ^ (3-r))):=by
 induction a with
 |nil=>intro q r h;simp at h| cons x l c=>
  intro q r d b;rw[aDQ];cases q with
  |zero=>rw[aFd,mf,aBD (by rw[beBytes_length];exact b),aBh _ _ _ b];rfl|succ q=>rw[aBi (by rw[beBytes_length];omega),beBytes_length,show 4*(q+1)+r-4=4*q+r from a_,c q r (by simpa using d) b];rfl
theorem bGj(a:List UInt32)(q r:Nat)(b:q<a.length)(hr:r<4):(a.flatMap fun w=>beBytes w.toNat 4).take (4*q+r+1)=(a.flatMap fun w=>beBytes w.toNat 4).take (4*q+r)++[xy ((a.getD q 0).toNat / 256 ^ (3-r))]:=by rw[aDR,bOr a q r b hr];rfl
theorem yV (l : di) (v:ag) (w:ae) (hr:Reads w 1 v l.length (l.map j_)) (hl:l.length<=100000000) :
    lL prog 96 #[v] w fun e w'=>e=.returned (.agg ((sha l).map j_).toArray)/\Ext w w':=by
  have HR:=hide hr;obtain⟨A,c,rfl⟩:∃ A c,v=.slice A l.length c:=by obtain⟨_,A,c,h,_⟩:=hr;exact⟨A,c,h⟩
  clear hr
  go_enter func96,ntmps96
  go_wp2_with (first
    | (
     at_builtin;refine bQ (s:=.tmp 11) (x:=.tmp 12) rfl rfl gV rfl (aLj _ (w.heap.size+1) _ _ d_ d_) rfl ((aA HR).ext (((Ext.refl w).alloc _).alloc _)) (dN.u8 l) a_ d_ ?_;intro A1 c1 w1 B D Q;have P:=hide (az B D);clear B D Q
     have Z:=hide (OV (aA P).1 (aA P).2)
     clear P)
    | (
     at_builtin;refine bQ (s:=.tmp 13) (x:=.tmp 14) rfl rfl gV rfl (bP (aA Z).1.own ((Ext.refl _).alloc _)) rfl (Reads.yj _ _ _) (dN.one rfl) a_ (ry (aA Z).1.room d_) ?_;intro A2 c2 w2 B D Q;have P:=hide (az B D);clear B D Q
     have H2:=hide (az (GB.step (l':=EI l 0) (aA Z).1 ((Ext.refl _).alloc _) (aA P).2 (Jp (aA P).1)) ((aA Z).1.blk ((Ext.refl _).alloc _) (aA P).2 (aA Z).2 (aDB _)))
     clear P))
  clear Z
  go_loopw [3] (fun b wr=>∃ (k:Nat) (A:Option uB) (c:Nat),k<=jT l.length/\b=.slice A (l.length+1+k) c/\Hid (GB w (w.heap.size+1) (.slice A (l.length+1+k) c) (l.length+1+k) (EI l k) wr/\eu wr w.heap.size 142 (eU 32 []))) (fun b _=>match b with|.slice _ n _=>l.length+1+jT l.length-n|_=>0)
  case atStart=>exact⟨0,_,_,x8 _,rfl,H2⟩
  case round=>
    clear H2;obtain⟨k,A1,c1,T,rfl,a⟩:=hrel;by_cases d:k<jT l.length
    ·
      have a1:((((l.length+1+k:Nat):Int) % 64)==56)=false:=by unfold jT at d;simp;omega
      have b4:k<64:=by unfold jT at d;omega
      go_wp2_with (at_builtin;refine bQ rfl rfl gV rfl (bP (aA a).1.own ((Ext.refl _).alloc _)) rfl (Reads.yj _ _ _) (dN.one rfl) a_ (ry (aA a).1.room d_) ?_;intro A' c' w3 B D Q;have U:=hide (az B D);clear B D Q)
      go_roundw
      case rel=>refine⟨k+1,A',c',d,rfl,hide ⟨GB.step (aA a).1 ((Ext.refl _).alloc _) (aA U).2 ?_,(aA a).1.blk ((Ext.refl _).alloc _) (aA U).2 (aA a).2 (aDB _)⟩⟩;rw[bJz,aBc];exact (aA U).1
      case measure=>simp;omega
    ·
      obtain rfl:k=jT l.length:=a_;have a1:((((l.length+1+jT l.length:Nat):Int) % 64)==56)=true:=by unfold jT;simp;omega
      have b2:(((l.length:Int)+1+(jT l.length:Int)) % 64 != 56)=false:=by unfold jT;simp;omega
      have b4:jT l.length<64:=by unfold jT;omega
      have HN:=hide (show (l.length+1+jT l.length) % 64=56 from by unfold jT;omega);clear d T
      go_wp2
      clear a1 b2;obtain⟨w4,rfl⟩:∃ w4:ae,w4=wr:=⟨_,rfl⟩;have HP:=hide (Jq l);have d3:l.length+1+jT l.length<=100000100:=a_;generalize EI l (jT l.length)=pl at *;generalize l.length+1+jT l.length=f at *
      go_loopw [3,5] (fun b i wr=>∃ (k:Nat) (A:Option uB) (c:Nat),k<=8/\i=.int .i64 ((k:Int)-1)/\b=.slice A (f+(8-k)) c/\Hid (GB w (w.heap.size+1) (.slice A (f+(8-k)) c) (f+(8-k)) (pl++(beBytes (8*l.length) 8).take (8-k)) wr/\eu wr w.heap.size 142 (eU 32 []))) (fun _ i _=>(intOf i+1).toNat)
      case atStart=>exact⟨8,_,_,dE _,rfl,rfl,by rw[aBa,aEG,AC];exact a⟩
      case round=>
        clear a;obtain⟨k,A2,c2,T,rfl,rfl,a⟩:=hrel;by_cases a5:0<k
        ·
          have e0:(0:Int)<=(k:Int)-1:=a_;have e1:IntKind.wrap .i64 (8*((k:Int)-1))=((8*(k-1):Nat):Int):=by rw[IntWalk.i64_in _ a_];omega
          have hb:=byte_of (8*l.length) (k-1);have C:((8*l.length:Nat):Int)=8*(l.length:Int):=a_;rw[C] at hb;clear C;have HX:=hide (aEv (8*l.length) 8 k a5 T);generalize xy (8*l.length / 256 ^ (k-1))=z at *
          go_wp2_with (at_builtin;refine bQ rfl rfl gV rfl (bP (aA a).1.own ((Ext.refl _).alloc _)) rfl (Reads.yj _ _ _) (dN.one rfl) a_ (ry (aA a).1.room d_) ?_;intro A' c' w3 B D Q;have U:=hide (az B D);clear B D Q)
          go_roundw
          case rel=>refine⟨k-1,A',c',a_,by go_num,by rw[show f+(8-(k-1))=f+(8-k)+1 from a_],hide ⟨?_,(aA a).1.blk ((Ext.refl _).alloc _) (aA U).2 (aA a).2 (aDB _)⟩⟩;rw[show f+(8-(k-1))=f+(8-k)+1 from a_];refine GB.step (aA a).1 ((Ext.refl _).alloc _) (aA U).2 ?_;rw[aA HX,<-GM,aBc];exact (aA U).1
          case measure=>simp[intOf];omega
        ·
          obtain rfl:k=0:=a_;clear a5 T
          have HJ:=hide (show GB w (w.heap.size+1) (.slice A2 (f+8) c2) (f+8) (iK l) wr/\eu wr w.heap.size 142 (eU 32 []) from by
            have:=aA a;rw[aDU,WF (by rw[beBytes_length];exact dE _),aA HP] at this
            exact this)
          obtain⟨w5,rfl⟩:∃ w5:ae,w5=wr:=⟨_,rfl⟩;clear a;have z1:((0:Nat):Int)-1 = -1:=rfl;have z2:f+(8-0)=f+8:=rfl;rw[z1,z2];clear z1 z2
          go_wp2_with fail
          refine (first_any _).mono ?_;rintro e w6 ⟨A6,c6,rfl,a4,a9⟩;have H6:=hide (az a4 a9);clear a4 a9
          go_wp2_with fail
          refine (bGx _).mono ?_;rintro e W ⟨A7,c7,rfl,a3,a8⟩;have Y:=hide (az a3 a8);clear a3 a8
          go_wp2
          obtain⟨m,hm⟩:∃ m,f+8=64*m:=⟨(f+8) / 64,by have:=aA HN;omega⟩;have b0:=hide (aA HJ).1.len
          have g:=hide (show Reads W 1 (.slice A2 (f+8) c2) (f+8) ((iK l).map j_)/\eu W w.heap.size 142 (eU 32 [])/\Ext w W/\Reads W 1 (.slice A6 8 c6) 8 (oW.map w32)/\Reads W 1 (.slice A7 64 c7) 64 (Aj.map w32) from
            ⟨(aA HJ).1.reads.ext ((aA H6).2.trans (aA Y).2),(aA HJ).2.ext ((aA H6).2.trans (aA Y).2),(aA HJ).1.ext.trans ((aA H6).2.trans (aA Y).2),(aA H6).1.ext (aA Y).2,(aA Y).1⟩)
          obtain⟨g2,o2,e6,b7,b5,a6,_,_⟩:=(aA g).1.sub 0 64 a_ a_;cases b7;clear HJ H6 Y;unfold uu at a6;have HM:=hide hm;have d5:f+8<=64*m:=a_;have d4:64*m<=f+8:=a_;clear hm
          go_loopw [6,8] (fun v i wr=>∃ (j:Nat) (A:Option uB) (c:Nat),j<=m/\i=.int .i64 ((64*j:Nat):Int)/\v=.slice A 8 c/\Hid (Reads wr 1 (.slice A 8 c) 8 ((mQ (iK l) (yz j) oW).map w32)/\Ext W wr)) (fun _ i _=>64*m-(intOf i).toNat)
          case atStart=>exact⟨0,A6,c6,x8 _,rfl,rfl,hide ⟨(aA g).2.2.2.1,Ext.refl _⟩⟩
          case round=>
            obtain⟨j,A8,c8,hj,rfl,rfl,a⟩:=hrel;by_cases d:j<m
            ·
              have e4:64*j+64<=f+8:=a_;have d1:decide (64*j<f+8)=true:=mi a_;have HX:=hide (show mQ (iK l) (yz (j+1)) oW=nM (mQ (iK l) (yz j) oW) (((iK l).drop (64*j)).take 64) from by unfold mQ;rw[aEF,aDT];rfl);have I:=hide (jO (iK l) (yz j) oW rfl);have c5:=hide (show (((iK l).drop (64*j)).take 64).length=64 from by have:=aA b0;simp;omega)
              have c4:=hide (show Reads wr 1 (.slice (some ⟨g2,o2+64*j,none⟩) 64 (c2-64*j)) 64 ((((iK l).drop (64*j)).take 64).map j_) from by
                obtain⟨b,o,c,e,_,_,_,h⟩:=((aA g).1.ext (aA a).2).sub (64*j) 64 a_ a_;cases e;rw[aEA,List.map_drop]
                exact h)
              go_wp2_with fail
              refine (aNy _ _ _ _ _ _ (aA I) (aA c5) (aA a).1 (aA c4) ((aA g).2.2.2.2.ext (aA a).2)).mono ?_;rintro e w8 ⟨A9,rfl,a2,a7⟩;have H9:=hide (az a2 a7);clear a2 a7;have d2:IntKind.wrap .i64 (64*(j:Int)+64)=((64*(j+1):Nat):Int):=by rw[IntWalk.i64_in _ a_];omega
              go_wp2
              go_roundw
              case rel=>refine⟨j+1,A9,8,d,by go_num,rfl,hide ⟨?_,(aA a).2.trans (aA H9).2⟩⟩;rw[aA HX];exact (aA H9).1
              case measure=>simp[intOf];omega
            ·
              obtain rfl:j=m:=a_;have d1:decide (64*j<f+8)=false:=su a_;clear d hj
              have b8:=hide (show (mQ (iK l) (yz j) oW).flatMap (fun w=>beBytes w.toNat 4)=sha l from by
                rw[pK];unfold sha
                rw[aA b0,aA HM,Nat.mul_div_cancel_left _ a_])
              have I:=hide (jO (iK l) (yz j) oW rfl);generalize mQ (iK l) (yz j) oW=X at *;obtain⟨G,rfl⟩:∃ G:ae,G=wr:=⟨_,rfl⟩;obtain⟨g8,o8,e5,b6,d8,c9,d7,_⟩:=(aA a).1.sub 0 8 a_ a_;cases b6
              go_wp2_with (refine aT (ty:=142) (t:=142) (x:=.tmp 9) (y:=.tmp 55) rfl rfl fK rfl rfl (eu.new G _ _) rfl rfl (by rw[<-aCS];rfl) ?_;intro u O L J;have V:=hide (az O (az L J));clear O L J)
              clear d1
              have F:=hide (show eu u G.heap.size 142 (eU 32 [])/\eu u w.heap.size 142 (eU 32 [])/\Ext w u/\Reads u 1 (.slice (some ⟨g8,o8,none⟩) 8 c8) 8 (X.map w32)/\w.heap.size<G.heap.size from by
                have d:=((aA g).2.1.ext (aA a).2).lt;have hE:Ext G u:=((Ext.refl G).alloc _).trans' (aA V).2.1 (fun _ _ h=>h) (fun i hi e=>a_)
                exact⟨(aA V).1,((aA g).2.1.ext (aA a).2).ext hE,((aA g).2.2.1.trans (aA a).2).trans hE,(aA a).1.ext hE,d⟩)
              have E:=hide (dD l);clear V a
              go_loopw [10] (fun i wr=>∃ k:Nat,k<=32/\i=.int .i64 k/\Hid (eu wr G.heap.size 142 (eU 32 ((sha l).take k))/\eu wr w.heap.size 142 (eU 32 [])/\Ext w wr/\Reads wr 1 (.slice (some ⟨g8,o8,none⟩) 8 c8) 8 (X.map w32))) (fun i _=>32-(intOf i).toNat)
              case atStart=>exact⟨0,x8 _,rfl,hide ⟨(aA F).1,(aA F).2.1,(aA F).2.2.1,(aA F).2.2.2.1⟩⟩
              case round=>
                obtain⟨k,T,rfl,a⟩:=hrel;by_cases d:k<32
                ·
                  obtain⟨q,r,rfl,b3⟩:∃ q r,k=4*q+r/\r<4:=⟨k / 4,k % 4,a_,a_⟩;have d9:=(aA a).2.2.2.wordAt (j:=q) (by rw[aA I];omega);have b5:wr.cell? ⟨G.heap.size,4*q+r,none⟩=some (.int .u8 0):=by rw[(aA a).1.cell];exact rW (by rw[ww,aA E];omega) d
                  have hf:=(aA a).1.frozen (4*q+r)
                  have HX:=hide (show (sha l).take (4*q+r+1)=(sha l).take (4*q+r)++[xy ((X.getD q 0).toNat / 256 ^ (3-r))] from by
                    rw[<-aA b8]
                    exact bGj X q r (by rw[aA I];omega) b3)
                  have c3:=hide (byte_of (X.getD q 0).toNat (3-r));generalize X.getD q 0=x at *;have hx:=x.toNat_lt;have hq:q<8:=a_;have e1:(4*(q:Int)+(r:Int)) / 4=(q:Int):=a_;have e2:(4*(q:Int)+(r:Int)) % 4=(r:Int):=a_;have e3:24-8*(r:Int)=((8*(3-r):Nat):Int):=a_
                  go_wp2
                  go_roundw
                  case rel=>obtain⟨q1,q2,q3,q4⟩:=aA a;have h1:=q1.zq (4*q+r) (.int .u8 ((xy (x.toNat / 256 ^ (3-r))).toNat:Int));rw[aBd _ (by rw[ww,aA E];omega) d,<-aA HX] at h1;refine⟨4*q+r+1,a_,by go_num,hide ?_⟩;rw[aA c3];have d6:=(aA F).2.2.2.2;refine⟨h1,q2.far' a_ _ _,q3.setCell l7 _,q4.iw (gq.setCell (S:=fun k=>k=G.heap.size) (gq.refl _ _) (.inl rfl) _) (fun k _ T e=>by simp[aAC] at T;omega)⟩
                  case measure=>simp[intOf];omega
                ·
                  obtain rfl:k=32:=a_;obtain⟨H,p⟩:∃ r,((sha l).map j_).toArray=r:=⟨_,rfl⟩;have c0:=hide (show eU 32 ((sha l).take 32)=H from by rw[WF (by rw[aA E];omega),aBe (aA E),p]);have HS:=hide (show H.size=32/\H.all (·.oneCell')=true from by rw[<-p];exact⟨by simpa using aA E,dJ _⟩);have b9:=hide p;clear p;rw[aA c0] at a
                  go_wp2_with (first
                    |(refine fO (ty:=142) (t:=142) (x:=.tmp 9) rfl rfl fK rfl (aA a).1 (aA HS).1 ?_)
                    |(refine aT (ty:=142) (t:=142) (x:=.tmp 2) (y:=.tmp 73) rfl rfl fK rfl rfl (aA a).2.1 (mJ d_) (aA HS).1 (aA HS).2 ?_;intro d0 N K a0;have b1:=hide (az N K);clear N K a0))
                  refine aAT (v:=.agg H) (dQ fK rfl (aA b1).1 (aA HS).1 rfl) rfl ⟨by rw[aA b9],?_⟩;exact (aA a).2.2.1.trans' (aA b1).2 (fun _ _ h=>h) (fun i hi e=>a_)
theorem GB.BX{w0 wr:ae}{B n:Nat}{v:ag}{l:di}(h:GB w0 B v n l wr):Reads wr 1 v l.length (l.map j_):=by rw[h.len];exact h.reads
structure G2(w0:ae)(B:Nat)(v1:ag)(n1:Nat)(l1:di)(v2:ag)(n2:Nat)(l2:di)(wr:ae):Prop where
 one:GB w0 B v1 n1 l1 wr
 two:GB w0 B v2 n2 l2 wr
 far:∀ g,v1.ownBlock=some g->v2.ownBlock≠some g
theorem G2.swap{w0 wr:ae}{B c n2:Nat}{b a:ag}{l1 d:di}(h:G2 w0 B b c l1 a n2 d wr):G2 w0 B a n2 d b c l1 wr:=⟨h.two,h.one,fun g e f=>h.far g f e⟩
theorem G2.to{w0 wr a:ae}{B d n2:Nat}{c b:ag}{l1 e:di}(h:G2 w0 B c d l1 b n2 e wr)(f:Ext wr a):G2 w0 B c d l1 b n2 e a:=⟨h.one.to f,h.two.to f,h.far⟩
theorem G2.step{w0 wr i c:ae}{B r n2 o:Nat}{j n d:ag}{l1 p l':di}(h:G2 w0 B j r l1 n n2 p wr)(m:Ext wr i)(hc:gq (fun k=>j.ownBlock=some k) i c)(q:c.ownsRow B 5 1 d o (l'.map j_))
  (a:d.ownBlock=j.ownBlock\/∃ g,d.ownBlock=some g/\i.heap.size<=g/\g<c.heap.size):G2 w0 B d o l' n n2 p c:=by
 have f:=h.two.to m;refine⟨h.one.step m hc q,⟨gX f.own hc (fun k s e=>h.far k e s),((h.one.step m hc q).ext),f.base,ry f.room hc.size⟩,fun g l b=>?_⟩;rcases a with a|⟨u,a,t,_⟩;exact h.far g (a ▸ l) b;rw[a] at l;cases l;have:=(f.own.lt _ b).2;omega
theorem G2.blk{w0 wr b a:ae}{B e n2:Nat}{c d:ag}{l1 f:di}(h:G2 w0 B c e l1 d n2 f wr)(j:Ext wr b)(hc:gq (fun k=>c.ownBlock=some k) b a){g:Nat}{t:bu}{cs:mg}(hb:eu wr g t cs)(i:g<B):eu a g t cs:=h.one.blk j hc hb i
def qH(a:di)(x:UInt8)(k:Nat):di:=(yz k).map fun i=>a.getD i 0 ^^^ x
theorem sQ(a:di)(x:UInt8)(k:Nat):qH a x (k+1)=qH a x k++[a.getD k 0 ^^^ x]:=by unfold qH;rw[aEF,aBc];rfl
theorem vS(a:di)(x:UInt8):qH a x 64=qI a x:=rfl
theorem aFo{w:ae}{B:Nat}{v:ag}{n:Nat}{l l':di}{b:UInt8}(h:w.ownsRow B 5 1 v n (l.map j_++[.int .u8 (b.toNat:Int)]))(e:l'=l++[b]):w.ownsRow B 5 1 v n (l'.map j_):=by rw[e,aBc];exact h
theorem vU{w:ae}{B:Nat}{v:ag}{n:Nat}{l m:di}(h:w.ownsRow B 5 1 v n (l.map j_++m.map j_)):w.ownsRow B 5 1 v n ((l++m).map j_):=by rw[aBc];exact h
theorem aSc (j b:di) (kv bv:ag) (w:ae) (hk:Reads w 1 kv j.length (j.map j_)) (hb:Reads w 1 bv b.length (b.map j_)) (a4:j.length<=1000000) (b7:b.length<=1000000) :
    lL prog 70 #[kv,bv] w fun e w'=>e=.returned (.agg ((Bf j b).map j_).toArray)/\Ext w w':=by
  have HB:=hide hb;obtain⟨A,c,rfl⟩:∃ A c,kv=.slice A j.length c:=by obtain⟨_,A,c,h,_⟩:=hk;exact⟨A,c,h⟩
  obtain⟨Ab,cb,rfl⟩:∃ A c,bv=.slice A b.length c:=by obtain⟨_,A,c,h,_⟩:=hb;exact⟨A,c,h⟩
  have a9:=hide hk;clear hk hb;rw[aYp];by_cases a2:j.length > 64
  ·
    have b3 : decide ((64:Int)<(j.length:Int))=true:=mi a_;rw[au a2]
    go_enter func70,ntmps70
    go_wp2_with (first
      |(go_at_call 96;refine (yV j _ _ ((aA a9).ext ((Ext.refl w).alloc _)) a_).mono ?_;rintro e w1 ⟨rfl,a8⟩;have H1:=hide a8;clear a8)
      |(go_at_call 95;refine (aFm (sha j) _ (dD j)).mono ?_;rintro e w2 ⟨A0,c0,rfl,h2⟩;have H2:=hide h2;clear h2))
    have z:=hide (show Reads w2 1 (.slice A0 32 c0) 32 ((sha j).map j_)/\Ext w w2/\eu w2 w.heap.size 142 (eU 32 []) from
      ⟨(aA H2).reads,(((Ext.refl w).alloc _).trans (aA H1)).trans (aA H2).ext,(eu.new w _ _).ext ((aA H1).trans (aA H2).ext)⟩)
    clear H1 H2;obtain⟨f,a1⟩:∃ f,f=sha j:=⟨_,rfl⟩;rw[<-a1] at z;have a4:f.length=32:=by rw[a1,dD]
    have b6:=hide a1;have Y:=hide a4;clear a1 a4;obtain⟨L,rfl⟩:∃ L:ae,L=w2:=⟨_,rfl⟩;have T:=hide True.intro
    go_loopw [5,6,7] (fun a b i wr=>∃ (k:Nat) (A1:Option uB) (c1:Nat) (A2:Option uB) (c2:Nat),k<=64/\i=.int .i64 k/\a=.slice A1 k c1/\b=.slice A2 k c2/\Hid (G2 L L.heap.size (.slice A1 k c1) k (qH f 54 k) (.slice A2 k c2) k (qH f 92 k) wr/\eu wr w.heap.size 142 (eU 32 []))) (fun _ _ i _=>64-(intOf i).toNat)
    case atStart=>exact⟨0,none,0,none,0,x8 _,rfl,rfl,rfl,hide ⟨⟨GB.nil (Ext.refl _) (dE _) (dE _),GB.nil (Ext.refl _) (dE _) (dE _),fun g h=>by simp[aAC] at h⟩,(aA z).2.2⟩⟩
    case round =>
      obtain⟨k,A1,c1,A2,c2,hk,rfl,rfl,rfl,l⟩:=hrel;by_cases a3:k<64
      ·
        have W := hide (sQ f 54 k);have V:=hide (sQ f 92 k);have b5:=hide (fun b:UInt8=>DT b 54);have b4:=hide (fun b:UInt8=>DT b 92);have r:k<32->∃ b o,A0=some ⟨b,o,none⟩/\wr.cell? ⟨b,o+k,none⟩=some (.int .u8 ((f.getD k 0).toNat:Int)):=fun h=>by obtain⟨b,o,c,u,e,_,_,_,_,_⟩:=((aA z).1.ext (aA l).1.one.ext).Ef h;cases e;exact⟨b,o,rfl,((aA z).1.ext (aA l).1.one.ext).byteAt (by first|exact h|(rw[aA Y];exact h))⟩
        have a7:=hide r;clear r
        go_upto_if 22 with fail
        go_cut [8] (fun s J=>∃ x:UInt8,s=.int .u8 (x.toNat:Int)/\Hid (x=f.getD k 0/\Ext wr J/\G2 L L.heap.size (.slice A1 k c1) k (qH f 54 k) (.slice A2 k c2) k (qH f 92 k) J/\eu J w.heap.size 142 (eU 32 [])))
        case first=>
          by_cases G:k<32
          ·
            obtain⟨g,o,rfl,m⟩:=aA a7 G;have S:decide (k<32)=true:=mi G;have Q:(k:Int)<32:=a_;have P:decide ((k:Int)<32)=true:=mi Q;generalize hx:f.getD k 0=x at *;have B:=hide hx;clear hx
            go_wp2_with fail
            go_meet
            exact⟨x,rfl,hide ⟨rfl,Ext.refl _,(aA l).1,(aA l).2⟩⟩
          ·
            have S:decide (k<32)=false:=su G;have P:decide ((k:Int)<32)=false:=su a_;have B:=hide (show (0:UInt8)=f.getD k 0 from by rw[zG,PR (by first|omega|(rw[aA Y];omega))];rfl)
            go_wp2_with fail
            go_meet
            exact⟨0,rfl,hide ⟨aA B,Ext.refl _,(aA l).1,(aA l).2⟩⟩
        case rest=>
          obtain⟨x,rfl,B⟩:=hcut;obtain⟨J,rfl⟩:∃ J:ae,J=wc:=⟨_,rfl⟩;have b2:bits BinOp.xor uC (x.toNat:Int) 54=((x ^^^ 54).toNat:Int):=DT x 54;have b1:bits BinOp.xor uC (x.toNat:Int) 92=((x ^^^ 92).toNat:Int):=DT x 92;rw[<-(aA B).1] at W V
          go_wp2_with (first
            | (
             at_builtin;refine bQ (s:=.tmp 27) (x:=.tmp 30) rfl rfl gV rfl (bP (aA B).2.2.1.one.own ((Ext.refl _).alloc _)) rfl (Reads.yj _ _ _) (dN.one rfl) a_ (ry (aA B).2.2.1.one.room d_) ?_;intro A3 c3 w3 q m n;have d:=hide (az q (az m n));clear q m n
             have Z:=hide (az (G2.step (aA B).2.2.1 ((Ext.refl _).alloc _) (aA d).2.1 (aFo (aA d).1 (aA W)) (aA d).2.2) ((aA B).2.2.1.blk ((Ext.refl _).alloc _) (aA d).2.1 (aA B).2.2.2 (aA z).2.2.lt))
             clear d)
            | (
             at_builtin;refine bQ (s:=.tmp 32) (x:=.tmp 35) rfl rfl gV rfl (bP (aA Z).1.two.own ((Ext.refl _).alloc _)) rfl (Reads.yj _ _ _) (dN.one rfl) a_ (ry (aA Z).1.two.room d_) ?_;intro A4 c4 w4 q m n;have d:=hide (az q (az m n));clear q m n
             have H4:=hide (az (G2.step (aA Z).1.swap ((Ext.refl _).alloc _) (aA d).2.1 (aFo (aA d).1 (aA V)) (aA d).2.2) ((aA Z).1.swap.blk ((Ext.refl _).alloc _) (aA d).2.1 (aA Z).2 (aA z).2.2.lt))
             clear d))
          go_roundw
          case rel=>exact⟨k+1,A3,c3,A4,c4,a3,by go_num,rfl,rfl,hide ⟨(aA H4).1.swap,(aA H4).2⟩⟩
          case measure=>simp[intOf];omega
      ·
        obtain rfl:k=64:=a_;rw[vS,vS] at l;have a6:=hide (az (iP f 54) (iP f 92));obtain⟨N,F⟩:∃ p,qI f 54=p:=⟨_,rfl⟩;obtain⟨p2,E⟩:∃ p,qI f 92=p:=⟨_,rfl⟩;rw[F,E] at a6 l;have X:=hide (az F E);clear F E
        go_wp2_with (first
          | (
           at_builtin;refine bQ (s:=.tmp 37) (x:=.tmp 38) rfl rfl gV rfl (aA l).1.one.own rfl ((aA HB).ext ((aA z).2.1.trans (aA l).1.one.ext)) (dN.u8 b) a_ (aA l).1.one.room ?_;intro A5 c5 w5 q m n;have d:=hide (az q (az m n));clear q m n
           have H5:=hide (az (G2.step (aA l).1 (Ext.refl _) (aA d).2.1 (vU (aA d).1) (aA d).2.2) ((aA l).1.blk (Ext.refl _) (aA d).2.1 (aA l).2 (aA z).2.2.lt))
           clear d)
          |(have a5:=aA T;go_at_call 96;clear T a5;refine (yV (N++b) _ _ (aA H5).1.one.BX (by rw[(aA H5).1.one.len];omega)).mono ?_;rintro e w6 ⟨rfl,I⟩;have H6:=hide (az ((aA H5).1.to I) ((aA H5).2.ext I));clear I)
          |(go_at_call 95;refine (aFm (sha (N++b)) _ (dD _)).mono ?_;rintro e w7 ⟨A7,c7,rfl,h7⟩;have K:=hide (az h7 (az ((aA H6).1.to h7.ext) ((aA H6).2.ext h7.ext)));clear h7)
          | (
           at_builtin;refine bQ (s:=.tmp 40) (x:=.tmp 43) rfl rfl gV rfl (aA K).2.1.two.own rfl (aA K).1.reads (dN.u8 _) a_ (aA K).2.1.two.room ?_;intro A8 c8 w8 q m n;have d:=hide (az q (az m n));clear q m n
           have H8:=hide (az (G2.step (aA K).2.1.swap (Ext.refl _) (aA d).2.1 (vU (aA d).1) (aA d).2.2) ((aA K).2.1.swap.blk (Ext.refl _) (aA d).2.1 (aA K).2.2 (aA z).2.2.lt))
           clear d))
        refine (yV (p2++sha (N++b)) _ _ (aA H8).1.one.BX (by rw[(aA H8).1.one.len];omega)).mono ?_;rintro e w9 ⟨rfl,H⟩;have H9:=hide (az ((aA z).2.1.trans ((aA H8).1.one.ext.trans H)) ((aA H8).2.ext H));clear H;have U:=hide (dD (p2++sha (N++b)))
        go_wp2_with (refine aT (ty:=142) (t:=142) (x:=.tmp 4) (y:=.tmp 46) rfl rfl fK rfl rfl (aA H9).2 (mJ d_) (by simpa using aA U) (dJ _) ?_;intro b0 D C O;have a0:=hide (az D C);clear D C O)
        refine aAT (v:=.agg ((sha (p2++sha (N++b))).map j_).toArray) (dQ fK rfl (aA a0).1 (by simpa using aA U) rfl) rfl ⟨(by rw[<-(aA X).1,<-(aA X).2,aA b6]),?_⟩;exact (aA H9).1.trans' (aA a0).2 (fun _ _ h=>h) (fun i hi e=>a_)
  ·
    have b3 : decide ((64:Int)<(j.length:Int))=false:=su a_;rw[ah a2]
    go_enter func70,ntmps70
    obtain⟨f,rfl⟩:∃ f,f=j:=⟨_,rfl⟩;obtain⟨A0,rfl⟩:∃ a,a=A:=⟨_,rfl⟩;have Y:=hide (show f.length=f.length from rfl)
    go_wp2
    have z:=hide (show Reads (w.alloc (.cells (DD 32 (.int .u8 0)) 142)) 1 (.slice A0 f.length c) f.length (f.map j_)/\Ext w (w.alloc (.cells (DD 32 (.int .u8 0)) 142))/\eu (w.alloc (.cells (DD 32 (.int .u8 0)) 142)) w.heap.size 142 (eU 32 []) from
      ⟨(aA a9).ext ((Ext.refl w).alloc _),(Ext.refl w).alloc _,by rw[aJl];exact eu.new w _ _⟩)
    change Code.wp _ _ _ _ (w.alloc (.cells (DD 32 (.int .u8 0)) 142));generalize w.alloc (.cells (DD 32 (.int .u8 0)) 142)=L at *;have T:=hide True.intro
    go_loopw [5,6,7] (fun a b i wr=>∃ (k:Nat) (A1:Option uB) (c1:Nat) (A2:Option uB) (c2:Nat),k<=64/\i=.int .i64 k/\a=.slice A1 k c1/\b=.slice A2 k c2/\Hid (G2 L L.heap.size (.slice A1 k c1) k (qH f 54 k) (.slice A2 k c2) k (qH f 92 k) wr/\eu wr w.heap.size 142 (eU 32 []))) (fun _ _ i _=>64-(intOf i).toNat)
    case atStart=>exact⟨0,none,0,none,0,x8 _,rfl,rfl,rfl,hide ⟨⟨GB.nil (Ext.refl _) (dE _) (dE _),GB.nil (Ext.refl _) (dE _) (dE _),fun g h=>by simp[aAC] at h⟩,(aA z).2.2⟩⟩
    case round =>
      obtain⟨k,A1,c1,A2,c2,hk,rfl,rfl,rfl,l⟩:=hrel;by_cases a3:k<64
      ·
        have W := hide (sQ f 54 k);have V:=hide (sQ f 92 k);have b5:=hide (fun b:UInt8=>DT b 54);have b4:=hide (fun b:UInt8=>DT b 92);have r:k<f.length->∃ b o,A0=some ⟨b,o,none⟩/\wr.cell? ⟨b,o+k,none⟩=some (.int .u8 ((f.getD k 0).toNat:Int)):=fun h=>by obtain⟨b,o,c,u,e,_,_,_,_,_⟩:=((aA z).1.ext (aA l).1.one.ext).Ef h;cases e;exact⟨b,o,rfl,((aA z).1.ext (aA l).1.one.ext).byteAt (by first|exact h|(rw[aA Y];exact h))⟩
        have a7:=hide r;clear r
        go_upto_if 22 with fail
        go_cut [8] (fun s J=>∃ x:UInt8,s=.int .u8 (x.toNat:Int)/\Hid (x=f.getD k 0/\Ext wr J/\G2 L L.heap.size (.slice A1 k c1) k (qH f 54 k) (.slice A2 k c2) k (qH f 92 k) J/\eu J w.heap.size 142 (eU 32 [])))
        case first=>
          by_cases G:k<f.length
          ·
            obtain⟨g,o,rfl,m⟩:=aA a7 G;have S:decide (k<f.length)=true:=mi G;have Q:(k:Int)<(f.length:Int):=a_;have P:decide ((k:Int)<(f.length:Int))=true:=mi Q;generalize hx:f.getD k 0=x at *;have B:=hide hx;clear hx
            go_wp2_with fail
            go_meet
            exact⟨x,rfl,hide ⟨rfl,Ext.refl _,(aA l).1,(aA l).2⟩⟩
          ·
            have S:decide (k<f.length)=false:=su G;have P:decide ((k:Int)<(f.length:Int))=false:=su a_;have B:=hide (show (0:UInt8)=f.getD k 0 from by rw[zG,PR (by first|omega|(rw[aA Y];omega))];rfl)
            go_wp2_with fail
            go_meet
            exact⟨0,rfl,hide ⟨aA B,Ext.refl _,(aA l).1,(aA l).2⟩⟩
        case rest=>
          obtain⟨x,rfl,B⟩:=hcut;obtain⟨J,rfl⟩:∃ J:ae,J=wc:=⟨_,rfl⟩;have b2:bits BinOp.xor uC (x.toNat:Int) 54=((x ^^^ 54).toNat:Int):=DT x 54;have b1:bits BinOp.xor uC (x.toNat:Int) 92=((x ^^^ 92).toNat:Int):=DT x 92;rw[<-(aA B).1] at W V
          go_wp2_with (first
            | (
             at_builtin;refine bQ (s:=.tmp 27) (x:=.tmp 30) rfl rfl gV rfl (bP (aA B).2.2.1.one.own ((Ext.refl _).alloc _)) rfl (Reads.yj _ _ _) (dN.one rfl) a_ (ry (aA B).2.2.1.one.room d_) ?_;intro A3 c3 w3 q m n;have d:=hide (az q (az m n));clear q m n
             have Z:=hide (az (G2.step (aA B).2.2.1 ((Ext.refl _).alloc _) (aA d).2.1 (aFo (aA d).1 (aA W)) (aA d).2.2) ((aA B).2.2.1.blk ((Ext.refl _).alloc _) (aA d).2.1 (aA B).2.2.2 (aA z).2.2.lt))
             clear d)
            | (
             at_builtin;refine bQ (s:=.tmp 32) (x:=.tmp 35) rfl rfl gV rfl (bP (aA Z).1.two.own ((Ext.refl _).alloc _)) rfl (Reads.yj _ _ _) (dN.one rfl) a_ (ry (aA Z).1.two.room d_) ?_;intro A4 c4 w4 q m n;have d:=hide (az q (az m n));clear q m n
             have H4:=hide (az (G2.step (aA Z).1.swap ((Ext.refl _).alloc _) (aA d).2.1 (aFo (aA d).1 (aA V)) (aA d).2.2) ((aA Z).1.swap.blk ((Ext.refl _).alloc _) (aA d).2.1 (aA Z).2 (aA z).2.2.lt))
             clear d))
          go_roundw
          case rel=>exact⟨k+1,A3,c3,A4,c4,a3,by go_num,rfl,rfl,hide ⟨(aA H4).1.swap,(aA H4).2⟩⟩
          case measure=>simp[intOf];omega
      ·
        obtain rfl:k=64:=a_;rw[vS,vS] at l;have a6:=hide (az (iP f 54) (iP f 92));obtain⟨N,F⟩:∃ p,qI f 54=p:=⟨_,rfl⟩;obtain⟨p2,E⟩:∃ p,qI f 92=p:=⟨_,rfl⟩;rw[F,E] at a6 l;have X:=hide (az F E);clear F E
        go_wp2_with (first
          | (
           at_builtin;refine bQ (s:=.tmp 37) (x:=.tmp 38) rfl rfl gV rfl (aA l).1.one.own rfl ((aA HB).ext ((aA z).2.1.trans (aA l).1.one.ext)) (dN.u8 b) a_ (aA l).1.one.room ?_;intro A5 c5 w5 q m n;have d:=hide (az q (az m n));clear q m n
           have H5:=hide (az (G2.step (aA l).1 (Ext.refl _) (aA d).2.1 (vU (aA d).1) (aA d).2.2) ((aA l).1.blk (Ext.refl _) (aA d).2.1 (aA l).2 (aA z).2.2.lt))
           clear d)
          |(have a5:=aA T;go_at_call 96;clear T a5;refine (yV (N++b) _ _ (aA H5).1.one.BX (by rw[(aA H5).1.one.len];omega)).mono ?_;rintro e w6 ⟨rfl,I⟩;have H6:=hide (az ((aA H5).1.to I) ((aA H5).2.ext I));clear I)
          |(go_at_call 95;refine (aFm (sha (N++b)) _ (dD _)).mono ?_;rintro e w7 ⟨A7,c7,rfl,h7⟩;have K:=hide (az h7 (az ((aA H6).1.to h7.ext) ((aA H6).2.ext h7.ext)));clear h7)
          | (
           at_builtin;refine bQ (s:=.tmp 40) (x:=.tmp 43) rfl rfl gV rfl (aA K).2.1.two.own rfl (aA K).1.reads (dN.u8 _) a_ (aA K).2.1.two.room ?_;intro A8 c8 w8 q m n;have d:=hide (az q (az m n));clear q m n
           have H8:=hide (az (G2.step (aA K).2.1.swap (Ext.refl _) (aA d).2.1 (vU (aA d).1) (aA d).2.2) ((aA K).2.1.swap.blk (Ext.refl _) (aA d).2.1 (aA K).2.2 (aA z).2.2.lt))
           clear d))
        refine (yV (p2++sha (N++b)) _ _ (aA H8).1.one.BX (by rw[(aA H8).1.one.len];omega)).mono ?_;rintro e w9 ⟨rfl,H⟩;have H9:=hide (az ((aA z).2.1.trans ((aA H8).1.one.ext.trans H)) ((aA H8).2.ext H));clear H;have U:=hide (dD (p2++sha (N++b)))
        go_wp2_with (refine aT (ty:=142) (t:=142) (x:=.tmp 4) (y:=.tmp 46) rfl rfl fK rfl rfl (aA H9).2 (mJ d_) (by simpa using aA U) (dJ _) ?_;intro b0 D C O;have a0:=hide (az D C);clear D C O)
        refine aAT (v:=.agg ((sha (p2++sha (N++b))).map j_).toArray) (dQ fK rfl (aA a0).1 (by simpa using aA U) rfl) rfl ⟨(by rw[(aA X).1,(aA X).2]),?_⟩;exact (aA H9).1.trans' (aA a0).2 (fun _ _ h=>h) (fun i hi e=>a_)
theorem aNq(a b:di)(j n:ag)(w:ae)(o:Reads w 1 j a.length (a.map j_))(hb:Reads w 1 n b.length (b.map j_))(l:a.length<=1000000)(m:b.length<=1000000) :
  lL prog 40 #[j,n] w fun e u=>e=.returned (.agg ((Gz a b).map j_).toArray)/\Ext w u:=by
 have z:=hide (aSc a b j n _ (o.ext ((Ext.refl w).alloc (.cells (DD 16 (.int .u8 0)) 23))) (hb.ext ((Ext.refl w).alloc _)) l m);have q:=hide (nY a b);clear o hb
 go_enter func40,ntmps40
 go_wp2_with fail
 refine (aA z).mono ?_;rintro e C ⟨rfl,d⟩
 go_wp2_with fail
 refine (aKz (Bf a b) _ (jS _ _)).mono ?_;rintro e B ⟨rfl,c⟩;have p:=(eu.new w 23 (DD 16 (.int .u8 0))).ext (d.trans c);have r:=hide (az p (d.trans c));clear p d c;rw[show (Bf a b).take 16=Gz a b from rfl]
 go_wp2_with (refine aT (ty:=23) (t:=23) (x:=.tmp 4) (y:=.tmp 8) rfl rfl bF rfl rfl (aA r).1 d_ ?_ (dJ _) ?_;(focus (simpa using aA q));intro A g f k;have s:=hide (az g f);clear g f k)
 refine aAT (v:=.agg ((Gz a b).map j_).toArray) (dQ bF rfl (aA s).1 (by simpa using aA q) rfl) rfl ⟨rfl,?_⟩;exact (((Ext.refl w).alloc _).trans (aA r).2).trans' (aA s).2 (fun _ _ h=>h) (fun i D e=>a_)
theorem Yp(w:ae)(o:Obj)(x:UInt8):GB w (w.heap.size+1) (.slice (some ⟨w.heap.size+1,0,none⟩) 1 1) 1 [x] ((w.alloc o).alloc (.cells #[.int .u8 (x.toNat:Int)] 5)):=⟨bBf _ _ _ _ d_ d_,((Ext.refl w).alloc _).alloc _,a_,d_⟩
theorem OW(w:ae)(o:Obj):GB w (w.heap.size+1) (.slice (some ⟨w.heap.size+1,0,none⟩) 0 0) 0 [] ((w.alloc o).alloc (.cells #[] 5)):=⟨aLj _ _ _ _ d_ d_,((Ext.refl w).alloc _).alloc _,a_,d_⟩
theorem aXc(f:Int)(a:List di)(pv:ag)(w:ae)(U:Parts w pv a)(a4:a.length<=1000)(E:∀ p∈a,p.length<=10000) :
  lL prog 156 #[.int .i64 f,pv] w fun e w'=>e=.returned (.agg ((mW f a).map j_).toArray)/\Ext w w':=by
 have HP:=hide U;have Y:=hide E;obtain⟨A1,c1,rfl⟩:∃ A c,pv=.slice A a.length c:=by obtain⟨vs,_,⟨_,A,c,h,_⟩,_⟩:=U;exact⟨A,c,h⟩
 clear U E;obtain⟨P,B⟩:∃ l,l=[aAj f]:=⟨_,rfl⟩;have a0:=hide B
 have J:=hide (show GB w (w.heap.size+1) (.slice (some ⟨w.heap.size+1,0,none⟩) 1 1) 1 (P++encs (a.take 0)) ((w.alloc (.cells (eU 16 []) 23)).alloc (.cells #[.int .u8 (f % 256)] 5))/\eu ((w.alloc (.cells (eU 16 []) 23)).alloc (.cells #[.int .u8 (f % 256)] 5)) w.heap.size 23 (eU 16 []) from by
  rw[B,bAg,aEG,show encs []=[] from rfl,AC]
  exact⟨Yp _ _ _,(eu.new _ _ _).alloc _⟩)
 clear B
 go_enter func156,ntmps156
 go_wp2
 go_loopw [5,6] (fun b i wr=>∃ (k n:Nat) (A:Option uB) (c:Nat),k<=a.length/\i=.int .i64 k/\b=.slice A n c/\n<=90000+k*10010/\Hid (GB w (w.heap.size+1) (.slice A n c) n (P++encs (a.take k)) wr/\eu wr w.heap.size 23 (eU 16 []))) (fun _ i _=>a.length-(intOf i).toNat)
 case atStart=>exact⟨0,_,_,_,x8 _,rfl,rfl,a_,J⟩
 case round=>
  clear J;obtain⟨k,n,A,c,hk,rfl,rfl,hn,d⟩:=hrel;by_cases g:k<a.length
  ·have T:Parts wr (.slice A1 a.length c1) a:=(aA HP).ext (aA d).1.ext;obtain⟨vs,q1,q2,q3⟩:=T;obtain⟨u,q4,N⟩:=q3 k a[k] (zH g);obtain⟨b,o,c',u',Q,_,_,hb,hu,a6⟩:=q2.Ef g;cases Q;rw[q4] at hu;cases hu;obtain⟨Au,cu,rfl⟩:∃ A c,u=.slice A a[k].length c:=by obtain⟨_,A,c,h,_⟩:=N;exact⟨A,c,h⟩
   have a5:=aA Y a[k] (aBI g);have X:=hide N;have HE:=hide (aJa a k g);clear q1 q2 q3 q4 N;have a3:=fG a[k];generalize a[k]=p at *;have HW:=hide (fun w=>uM (strOf p) w (by rw[bC];omega));rw[bY] at HW
   go_wp2_with (first
    |(refine sG (src:=74) (dst:=9) (x:=.tmp 20) (l:=p) rfl rfl underlying74 underlying5 underlying9 rfl (aA X) ?_)
    |(go_at_call 39;refine (aA HW _).mono ?_;rintro e w3 ⟨A3,c3,rfl,F,H⟩;have K:=hide (az F H);clear F H)
    |(at_builtin;refine bQ rfl rfl gV rfl (bP (aA d).1.own (aA K).2) rfl (Reads.ou (aA K).1) (dN.u8 _) a_ (ry (aA d).1.room (aA K).2.size') ?_;intro A' c4 w4 ho hc Q;have H4:=hide (az ho hc);clear ho hc Q))
   go_roundw
   case rel=>refine⟨k+1,n+(bI p).length,A',c4,a_,by go_num,rfl,by rw[aDL];omega,hide ⟨?_,(aA d).1.blk (aA K).2 (aA H4).2 (aA d).2 (aDB _)⟩⟩;rw[aA HE,<-GM];exact (aA d).1.step (aA K).2 (aA H4).2 (vU (aA H4).1)
   case measure=>simp[intOf];omega
  ·obtain rfl:k=a.length:=a_;clear g hk;rw[aCR] at d;obtain⟨O,z⟩:∃ l,P++encs a=l:=⟨_,rfl⟩;rw[z] at d;have Z:=hide z;clear z;have V:n<=100000000:=a_
   go_wp2_with fail
   refine (yV O _ _ (aA d).1.BX (by rw[(aA d).1.len];exact V)).mono ?_;rintro e w8 ⟨rfl,G⟩;have a1:=hide G;clear G
   go_wp2_with fail
   refine (aKz (sha O) _ (dD _)).mono ?_;rintro e w9 ⟨rfl,s⟩;have C:=(aA a1).trans s;clear s;obtain⟨rr,j⟩:∃ r,(sha O).take 16=r:=⟨_,rfl⟩;have S:rr.length=16:=by rw[<-j,ww,dD];rfl
   rw[j];have W:=hide j;clear j;have I:=hide S;have H9:=hide (az ((aA d).1.ext.trans C) ((aA d).2.ext C));clear C
   go_wp2_with (refine aT (ty:=23) (t:=23) (x:=.tmp 4) (y:=.tmp 26) rfl rfl bF rfl rfl (aA H9).2 (mJ d_) (by simpa using aA I) (dJ _) ?_;intro a2 q m D;have L:=hide (az q m);clear q m D)
   refine aAT (dQ bF rfl (aA L).1 (by simpa using aA I) rfl) rfl ⟨(by unfold mW;rw[<-aA a0,aA Z,aA W]),?_⟩;exact (aA H9).1.trans' (aA L).2 (fun _ _ h=>h) (fun i hi e=>a_)
theorem aAo(f:di)(kv:ag)(a:jy)(d:List di)(pv:ag)(w:ae)(U:Reads w 1 kv f.length (f.map j_))(a9:f.length<=10000)(m:a.size<=10000)(Z:Parts w pv d)(a7:d.length<=90)(H:∀ p∈d,p.length<=10000) :
  lL prog 22 #[kv,.string a,pv] w fun e w'=>e=.returned (.agg ((mX f a.data.toList d).map j_).toArray)/\Ext w w':=by
 have HP:=hide Z;have a2:=hide H;have HK:=hide U;obtain⟨A1,c1,rfl⟩:∃ A c,pv=.slice A d.length c:=by obtain⟨vs,_,⟨_,A,c,h,_⟩,_⟩:=Z;exact⟨A,c,h⟩
 clear Z H U;have L:(bI a.data.toList).length<=10+a.size:=fG a.data.toList;have P:=hide (fun w=>uM a w a_);obtain⟨q,z⟩:∃ l,bI a.data.toList=l:=⟨_,rfl⟩;rw[z] at P L;have a4:=hide z;clear z
 go_enter func22,ntmps22
 go_wp2_with fail
 refine (aA P _).mono ?_;rintro e W ⟨A0,c0,rfl,J,C⟩
 have E:=hide (show GB w (w.heap.size+1) (.slice (some ⟨w.heap.size+1,0,none⟩) 0 0) 0 [] W/\eu W w.heap.size 23 (eU 16 [])/\Reads W 1 (.slice A0 q.length c0) q.length (q.map j_) from
  ⟨(OW w _).to C,((eu.new w _ _).alloc _).ext C,Reads.ou J⟩)
 clear J C
 go_wp2_with (at_builtin;refine bQ rfl rfl gV rfl (aA E).1.own rfl (aA E).2.2 (dN.u8 _) a_ (aA E).1.room ?_;intro A2 c2 w2 K N G;have V:=hide (az K N);clear K N G)
 have D:=hide (show GB w (w.heap.size+1) (.slice A2 (0+q.length) c2) (0+q.length) (q++encs (d.take 0)) w2/\eu w2 w.heap.size 23 (eU 16 []) from
  ⟨by rw[aEG,show encs []=[] from rfl,AC];exact (aA E).1.step (Ext.refl _) (aA V).2 (aA V).1,(aA E).1.blk (Ext.refl _) (aA V).2 (aA E).2.1 (aDB _)⟩)
 rw[mf] at D;clear E V
 go_loopw [7,8] (fun b i wr=>∃ (k n:Nat) (A:Option uB) (c:Nat),k<=d.length/\i=.int .i64 k/\b=.slice A n c/\n<=90000+k*10010/\Hid (GB w (w.heap.size+1) (.slice A n c) n (q++encs (d.take k)) wr/\eu wr w.heap.size 23 (eU 16 []))) (fun _ i _=>d.length-(intOf i).toNat)
 case atStart=>exact⟨0,_,_,_,x8 _,rfl,rfl,a_,D⟩
 case round=>
  clear D;obtain⟨k,n,A,c,U,rfl,rfl,hn,g⟩:=hrel;by_cases j:k<d.length
  ·have Y:Parts wr (.slice A1 d.length c1) d:=(aA HP).ext (aA g).1.ext;obtain⟨vs,q1,q2,q3⟩:=Y;obtain⟨u,q4,X⟩:=q3 k d[k] (zH j);obtain⟨b,o,c',u',G,_,_,hb,hu,b0⟩:=q2.Ef j;cases G;rw[q4] at hu;cases hu;obtain⟨Au,cu,rfl⟩:∃ A c,u=.slice A d[k].length c:=by obtain⟨_,A,c,h,_⟩:=X;exact⟨A,c,h⟩
   have a8:=aA a2 d[k] (aBI j);have a1:=hide X;have HE:=hide (aJa d k j);clear q1 q2 q3 q4 X;have a6:=fG d[k];generalize d[k]=p at *;have HW:=hide (fun w=>uM (strOf p) w (by rw[bC];omega));rw[bY] at HW
   go_wp2_with (first
    |(refine sG (src:=74) (dst:=9) (x:=.tmp 23) (l:=p) rfl rfl underlying74 underlying5 underlying9 rfl (aA a1) ?_)
    |(go_at_call 39;refine (aA HW _).mono ?_;rintro e w3 ⟨A3,c3,rfl,I,O⟩;have S:=hide (az I O);clear I O)
    |(at_builtin;refine bQ rfl rfl gV rfl (bP (aA g).1.own (aA S).2) rfl (Reads.ou (aA S).1) (dN.u8 _) a_ (ry (aA g).1.room (aA S).2.size') ?_;intro A' c4 w4 K N G;have H4:=hide (az K N);clear K N G))
   go_roundw
   case rel=>refine⟨k+1,n+(bI p).length,A',c4,a_,by go_num,rfl,by rw[aDL];omega,hide ⟨?_,(aA g).1.blk (aA S).2 (aA H4).2 (aA g).2 (aDB _)⟩⟩;rw[aA HE,<-GM];exact (aA g).1.step (aA S).2 (aA H4).2 (vU (aA H4).1)
   case measure=>simp[intOf];omega
  ·obtain rfl:k=d.length:=a_;clear j U;rw[aCR] at g;obtain⟨ll,m⟩:∃ l,q++encs d=l:=⟨_,rfl⟩;rw[m] at g;have a3:=hide m;clear m;have a0:n<=1000000:=a_
   go_wp2_with fail
   refine (aNq f ll _ _ _ ((aA HK).ext (aA g).1.ext) (aA g).1.BX a_ (by rw[(aA g).1.len];exact a0)).mono ?_;rintro e w9 ⟨rfl,B⟩;have Q:=hide (nY f ll);have H9:=hide (az ((aA g).1.ext.trans B) ((aA g).2.ext B));clear B
   go_wp2_with (refine aT (ty:=23) (t:=23) (x:=.tmp 6) (y:=.tmp 29) rfl rfl bF rfl rfl (aA H9).2 (mJ d_) (by simpa using aA Q) (dJ _) ?_;intro a5 s r F;have T:=hide (az s r);clear s r F)
   refine aAT (dQ bF rfl (aA T).1 (by simpa using aA Q) rfl) rfl ⟨(by unfold mX;rw[aA a4,aA a3]),?_⟩;exact (aA H9).1.trans' (aA T).2 (fun _ _ h=>h) (fun i hi e=>a_)
theorem aCa{w:ae}{g:Nat}{t:bu}{a:di}{arr:mg}(h:eu w g t arr)(d:(a.map j_).toArray=arr)(b:a.length=16):Reads w 1 (.slice (some ⟨g,0,none⟩) 16 16) a.length (a.map j_):=by
 have e:arr.size=16:=by rw[<-d];simpa using b
 have:=Reads.zf h (i:=0) (n:=16) (c:=16) a_ a_ (by unfold uu;omega);rw[<-d] at this;simp only[aBk] at this;rw[WF (by rw[aAB];omega)] at this;rw[b];exact this
theorem bAq(f:di)(a:Int)(c:jy)(w:ae)(hk:f.length=16)(h1:-9223372036854775808<=a)(h2:a<9223372036854775808)(hc:c.size<=100000) :
  lL prog 37 #[.agg (f.map j_).toArray,.int .i64 a,.string c] w fun e w'=>e=.returned (.agg ((tq f a c.data.toList).map j_).toArray)/\Ext w w':=by
 obtain⟨a1,g⟩:∃ r,(f.map j_).toArray=r:=⟨_,rfl⟩;obtain⟨I,j⟩:∃ d,mX f aIj.data.toList []=d:=⟨_,rfl⟩;obtain⟨k,b⟩:∃ d,tq f a c.data.toList=d:=⟨_,rfl⟩;have B:I.length=16:=by rw[<-j];exact fU _ _ _
 have Q:k.length=16:=by rw[<-b];exact gW _ _ _
 have T:=hide (fun w=>aBy a w h1 h2);have S:=hide (fun w=>uM c w a_);have a0:=aO a;have m:(bI c.data.toList).length<=10+c.size:=fG c.data.toList;have HR:=hide b;have HD:=hide j;have HA:=hide g;have U:=hide (show ((I.map j_).toArray).size=16/\((k.map j_).toArray).size=16 from⟨by simpa using B,by simpa using Q⟩);have V:=hide (show Gz I (dn a++bI c.data.toList)=k from by rw[<-b,<-j];rfl);rw[g,b];clear g j b;generalize dn a=q at *;generalize bI c.data.toList=Y at *
 go_enter func37,ntmps37
 go_wp2_with fail
 refine (aAo f _ aIj [] _ _ (aCa ((eu.new w _ _).alloc _) (aA HA) hk) a_ jb (Parts.nil _) d_ (fun p hp=>by cases hp)).mono ?_;rintro e L ⟨rfl,o⟩;rw[aA HD];have H1:=hide (show Ext w L/\eu L (w.heap.size+1) 23 (eU 16 []) from⟨(((Ext.refl w).alloc _).alloc _).trans o,(eu.new' _ _ _ d_).ext o⟩);clear o
 go_wp2_with (first
  |(refine aT (ty:=23) (t:=23) (x:=.tmp 7) (y:=.tmp 10) rfl rfl bF rfl rfl (eu.new L _ _) rfl (aA U).1 (dJ _) ?_;intro H m l O;have W:=hide (az (aOn (aA H1).1 l) (az ((aA H1).2.ext (aIe l)) m));clear m l O)
  |(go_at_call 24;refine (aA T _).mono ?_;rintro e X ⟨A3,c3,rfl,z,F⟩;have K:=hide (show GB H H.heap.size (.slice (some ⟨H.heap.size,0,none⟩) 0 0) 0 [] X/\Reads X 1 (.slice A3 q.length c3) q.length (q.map j_) from az (GB.to ⟨aCe _ _ _ _ (dE _),(Ext.refl H).alloc _,dE _,d_⟩ F) (Reads.ou z));clear z F)
  |(at_builtin;refine bQ (s:=.tmp 11) (x:=.tmp 13) rfl rfl gV rfl (aA K).1.own rfl (aA K).2 (dN.u8 _) a_ (aA K).1.room ?_;intro A4 c4 w4 A hc P;have H4:=hide (GB.step (l':=[]++q) (aA K).1 (Ext.refl _) hc (vU A));rw[mf,IR] at H4;clear A hc P)
  |(go_at_call 39;refine (aA S _).mono ?_;rintro e w5 ⟨A5,c5,rfl,u,E⟩;have J:=hide (az ((aA H4).to E) (Reads.ou u));clear u E)
  |(at_builtin;refine bQ (s:=.tmp 14) (x:=.tmp 16) rfl rfl gV rfl (aA J).1.own rfl (aA J).2 (dN.u8 _) a_ (aA J).1.room ?_;intro A6 c6 w6 A hc P;have G:=hide (GB.step (l':=q++Y) (aA J).1 (Ext.refl _) hc (vU A));clear A hc P))
 refine (aNq I (q++Y) _ _ _ (aCa ((aA W).2.2.ext (aA G).ext) rfl B) (aA G).BX a_ (by rw[(aA G).len];omega)).mono ?_;rintro e w7 ⟨rfl,n⟩;rw[aA V];have H7:=hide (az ((aA W).1.trans ((aA G).ext.trans n)) ((aA W).2.1.ext ((aA G).ext.trans n)));clear n
 go_wp2_with (refine aT (ty:=23) (t:=23) (x:=.tmp 6) (y:=.tmp 20) rfl rfl bF rfl rfl (aA H7).2 (mJ d_) (aA U).2 (dJ _) ?_;intro w8 D C N;have Z:=hide (az D C);clear D C N)
 refine aAT (dQ bF rfl (aA Z).1 (aA U).2 rfl) rfl ⟨rfl,?_⟩;exact (aA H7).1.trans' (aA Z).2 (fun _ _ h=>h) (fun i hi e=>a_)
theorem Reads.Iu{w:ae}{B:Nat}{e:bu}{A:Option uB}{m c N:Nat}{l:di}(h:w.ownsRow B e 1 (.slice A m c) m (l.map j_))(p:N<=m):Reads w 1 (.slice A N c) N ((l.take N).map j_):=by obtain⟨i,t,s,n,q,g,f⟩:=Reads.ou h;cases n;rw[aAB] at i;refine⟨by rw[aAB,ww];omega,A,c,rfl,a_,g,fun r=>?_⟩;obtain⟨b,o,k,d⟩:=f a_;refine⟨b,o,k,fun j u a=>d j u ?_⟩;rw[aEA,yf] at a;split at a;exact a;cases a
theorem aWk(a:di)(r:ag)(N:Nat)(w:ae)(y:Reads w 1 r a.length (a.map j_))(D:a.length<=10000)(W:N<=100000) :
  lL prog 68 #[r,.int .i64 (N:Int)] w fun e q=>∃ A c,e=.returned (.slice A N c)/\Reads q 1 (.slice A N c) N ((vI a N).map j_)/\Ext w q:=by
 have L:=hide y;clear y
 go_enter func68,ntmps68
 go_wp2
 go_loopw [5,6] (fun b i wr=>∃ (k:Nat) (A:Option uB) (c:Nat),32*k<N+32/\i=.int .i64 k/\b=.slice A (32*k) c/\Hid (GB w w.heap.size (.slice A (32*k) c) (32*k) (jJ a k) wr)) (fun b _ _=>match b with|.slice _ m _=>N-m|_=>0)
 case atStart=>exact⟨0,none,0,a_,rfl,rfl,hide (GB.nil (Ext.refl _) (dE _) (dE _))⟩
 case round=>
  obtain⟨k,A,c,E,rfl,rfl,d⟩:=hrel;by_cases h:32*k<N
  ·have G:decide (32*k<N)=true:=mi h;have J:=hide (nC a k);have K:=hide (fun w=>aBy (k:Int) w a_ a_);have B:=aO (k:Int);generalize dn (k:Int)=t at *
   go_wp2_with (first
    |(go_at_call 24;refine (aA K _).mono ?_;rintro e V ⟨A1,Z,rfl,g,l⟩;have p:=hide (az (Reads.ou g) l);clear g l)
    |(go_at_call 70;refine (aSc a t _ _ _ ((aA L).ext ((aA d).ext.trans (aA p).2)) (aA p).1 a_ a_).mono ?_;rintro e U ⟨rfl,j⟩;have O:=hide ((aA p).2.trans j);clear j)
    |(go_at_call 95;refine (aFm (Bf a t) _ (jS _ _)).mono ?_;rintro e T ⟨A3,Y,rfl,f⟩;have n:=hide (az f ((aA O).trans f.ext));clear f)
    |(at_builtin;refine bQ (s:=.tmp 13) (x:=.tmp 18) rfl rfl gV rfl (bP (aA d).own (aA n).2) rfl (aA n).1.reads (dN.u8 _) a_ (ry (aA d).room (aA n).2.size') ?_;intro P H S u o C;have z:=hide (az u o);clear u o C))
   go_roundw
   case rel=>refine⟨k+1,P,H,a_,by go_num,rfl,hide ?_⟩;rw[aA J];exact (aA d).step (aA n).2 (aA z).2 (vU (aA z).1)
   case measure=>simp;omega
  ·have G:decide (32*k<N)=false:=su h;have o:N<=c:=by obtain⟨_,Q,I,e,X,_⟩:=(aA d).reads;cases e;omega
   have F:c<=9223372036854775807:=by obtain⟨_,Q,I,e,_,f,_⟩:=(aA d).reads;cases e;unfold uu at f;exact f
   go_wp2
   go_ret;refine⟨_,_,rfl,?_,(aA d).ext⟩
   have:=Reads.Iu (aA d).own (N:=N) a_;rwa [aKu a N k a_] at this
theorem Tu(n:Nat):aCO (gp .u8 0).cells n=eU n []:=by rw[aJl];show aCO #[gp .u8 0] n=_;unfold aCO;apply Array.ext;simp;intro i b a;simp[Nat.mod_one]
theorem Tn(n:Nat)(hn:n<=1000000000)(w:ae):(Instr.makeSlice 74 (.int .i64 (n:Int)) (.int .i64 (n:Int))).run prog w=.ok (.slice (some ⟨w.heap.size,0,none⟩) n n) (w.alloc (.cells (eU n []) 5)):=by
 obtain⟨e,⟨i,z,d,f,a,c,_⟩,_,_⟩:=gV;have b:i.zero=some (.int .u8 0):=by have:=bIq;rw[d] at this;simpa using this
 have:=run_make (P:=prog) w 74 5 i (.int .u8 0) e d b .i64 .i64 n n a_ (Int.le_refl _) (by rw[c];omega) a_;simp only[VM,a,aBq] at this;rw[this,Tu]
theorem aLd (m:di) (a:Int) (s:jy) (w:ae) (hk:m.length=16) (h1:-9223372036854775808<=a) (h2:a<9223372036854775808) (hs:s.size<=10000) :
    lL prog 38 #[.agg (m.map j_).toArray,.int .i64 a,.string s] w fun e w'=>e=.returned (.string (strOf (dM m a s.data.toList)))/\Ext w w':=by
  obtain⟨N,B⟩:∃ r,(m.map j_).toArray=r:=⟨_,rfl⟩;have a6:=hide (fun w=>aBy a w h1 h2);have HA:=hide B;rw[B];clear B h1 h2;have b3:N.size=16:=by rw[<-aA HA];simpa using hk
  obtain⟨Y,a1⟩:∃ d,keyS m a=d:=⟨_,rfl⟩;have HD:=hide a1;clear a1
  go_enter func38,ntmps38
  go_upto_region 1 with fail
  have b0:=hide (aCa (eu.new w 23 N) (aA HA) hk);have HP:=hide ((Ext.refl w).alloc (.cells N 23));generalize w.alloc (.cells N 23)=E at *
  have a8:=hide (fun (W4:ae) (pv:ag) (V:Option uB) (U:Nat) (hX:Ext E W4) (a4:Reads W4 1 pv 1 [.slice V (dn a).length U]) (hr:Reads W4 1 (.slice V (dn a).length U) (dn a).length ((dn a).map j_))=>aAo m (.slice (some ⟨w.heap.size,0,none⟩) 16 16) aTg [dn a] pv W4 ((aA b0).ext hX) a_ jb ⟨[.slice V (dn a).length U],rfl,a4,fun i p hp=>by
    cases i with
    |zero=>cases hp;exact⟨_,rfl,hr⟩|succ i=>simp at hp⟩ d_ (fun p hp=>by simp at hp;subst hp;have:=aO a;omega))
  go_cut [7] (fun s8 wx=>∃ g,s8=.pointer (some ⟨g,0,none⟩)/\Hid (eu wx g 23 ((Y.map j_).toArray)/\Ext E wx/\E.heap.size<=g))
  case first=>
    have HS:=hide (show ((Y.map j_).toArray).size=16 from by rw[<-aA HD];unfold keyS;simpa using fU _ _ _)
    go_region_law (first
      | (
       go_simp;go_at_call 24;refine (aA a6 _).mono ?_;rintro e P ⟨V,U,rfl,H,C⟩
       first
       |(have O:=hide (show Reads P 1 (.slice V (dn a).length U) (dn a).length ((dn a).map j_)/\Ext E P/\True from az (Reads.ou H) (az (((Ext.refl E).drew).trans C) trivial));clear H C)
       |(have O:=hide (show Reads P 1 (.slice V (dn a).length U) (dn a).length ((dn a).map j_)/\Ext E P/\eu P E.heap.size 23 (DD 16 (.int .u8 0)) from az (Reads.ou H) (az ((((Ext.refl E).drew).alloc _).trans C) ((eu.new E.drew _ _).ext C)));clear H C))
      | (
       rename_i K hK;go_simp;go_at_call 22;refine (aA a8 _ _ V U ?_ ?_ ?_).mono ?_
       (focus (first|exact (aA O).2.1.alloc _|exact ((aA O).2.1.alloc _).alloc _))
       (focus (first|exact Reads.yj _ _ _|exact (Reads.yj _ _ _).ext ((Ext.refl _).alloc _)|(have h:=Reads.yj (P.alloc (.cells (DD 16 (.int .u8 0)) 23)) (.slice V (dn a).length U) 74;rw[aDK] at h;exact h)))
       (focus (first|exact (aA O).1.ext ((Ext.refl _).alloc _)|exact (aA O).1.ext (((Ext.refl _).alloc _).alloc _)))
       rintro e w5 ⟨rfl,L⟩;rw[show mX m aTg.data.toList [dn a]=Y from aA HD];have H5:=hide (show Ext E w5/\Ext _ w5 from az (by first|exact ((aA O).2.1.alloc _).trans L|exact (((aA O).2.1.alloc _).alloc _).trans L) L);clear L;dsimp only;refine hK _ _ ?_;clear hK K
       first
       | (
        refine aAU (rs:=[5]) ai d_ (AllReady.cons rfl (fun J T=>?_) AllReady.nil);rw[au ay];go_simp;refine T _ _ ?_;clear T J;refine aAU (rs:=[6]) ai d_ (AllReady.cons rfl (fun J T=>?_) AllReady.nil);refine jQ (ty:=23) (t:=23) (x:=.tmp 7) (y:=.tmp 15) rfl rfl bF rfl rfl (eu.new w5 _ _) ?_ ?_ ?_ ?_;rfl;exact aA HS;exact dJ _;intro w7 A q X;have H7:=hide (az A (az (((aA H5).1.alloc _).trans' q (fun _ _ h=>h) (fun i hi e=>by have:=(aA H5).1.size';omega)) (aA H5).1.size'));clear A q X;refine T _ _ ?_
        clear T J)
       | (
        refine aAU (rs:=[6]) ai d_ (AllReady.cons rfl (fun J T=>?_) AllReady.nil);have a3:=(aA O).2.1.size';refine jQ (ty:=23) (t:=23) (x:=.tmp 7) (y:=.tmp 15) (old:=DD 16 (.int .u8 0)) rfl rfl bF rfl rfl ?_ ?_ ?_ ?_ ?_
        · first|exact (((aA O).2.2).alloc _).ext (aA H5).2|exact ((eu.new P _ _).alloc _).ext (aA H5).2|exact (eu.new' (P.alloc _) _ _ d_).ext (aA H5).2
        rfl;exact aA HS;exact dJ _;intro w7 A q X;have H7:=hide (az A (az ((aA H5).1.trans' q (fun _ _ h=>h) (fun i hi e=>a_)) (show E.heap.size<=_ by omega)));clear A q X a3;refine T _ _ ?_
        clear T J)))
    all_goals
      go_wp2_with fail
      go_meet
      exact⟨_,rfl,hide ⟨(aA H7).1,(aA H7).2.1,by have:=(aA H7).2.2;omega⟩⟩
  case rest =>
    obtain⟨g8,rfl,H8⟩:=hcut;have HS:=hide (show ((Y.map j_).toArray).size=16/\Y.length=16 from by rw[<-aA HD];unfold keyS;exact⟨by simpa using fU _ _ _,fU _ _ _⟩);obtain⟨b4,rfl⟩:∃ x:ae,x=wc:=⟨_,rfl⟩
    go_wp2_with fail
    refine (aWk Y _ s.size _ (aCa (aA H8).1 rfl (aA HS).2) (by have:=(aA HS).2;omega) a_).mono ?_;rintro e w9 ⟨A9,c9,rfl,a0,a2⟩;have H9:=hide (az a0 (((aA HP).trans (aA H8).2.1).trans a2));clear a0 a2 H8;have a5:=Tn s.size a_
    go_wp2
    clear a5;obtain⟨D,I⟩:∃ l,dM m a s.data.toList=l:=⟨_,rfl⟩;obtain⟨W,G⟩:∃ l,vI Y (s.size:Int)=l:=⟨_,rfl⟩;have Q:W.length=s.size:=by rw[<-G,tK];simp
    have S:D.length=s.size:=by rw[<-I,cZ];exact nz
    have b1:=hide (show D=aCK (· ^^^ ·) s.data.toList W from by rw[<-I,<-G,<-aA HD];unfold dM;rw[nz];rfl);have b2:=hide I;rw[G] at H9;have F:=hide (az Q S);clear I G Q S
    go_loopw [10] (fun i wr=>∃ k:Nat,k<=s.size/\i=.int .i64 k/\Hid (eu wr w9.heap.size 5 (eU s.size (D.take k))/\Ext w9 wr)) (fun i _=>s.size-(intOf i).toNat)
    case atStart=>exact⟨0,x8 _,rfl,hide ⟨eu.new _ _ _,(Ext.refl w9).alloc _⟩⟩
    case round=>
      obtain⟨k,b6,rfl,Z⟩:=hrel;by_cases f:k<s.size
      ·
        have g1:decide (k<s.size)=true:=mi f;have hr:=(aA H9).1.ext (aA Z).2;obtain⟨b,o,c,u,e,-,-,-,-,-⟩:=hr.Ef f;cases e;have c1:=hr.byteAt (j:=k) (by rw[(aA F).1];exact f);have c2:wr.cell? ⟨w9.heap.size,k,none⟩=some (.int .u8 0):=by rw[(aA Z).1.cell];exact rW (by rw[ww];omega) f
        have f2:=(aA Z).1.frozen k;clear hr;obtain⟨z,hz⟩:=jc (s[k] ^^^ W.getD k 0);have b5:bits BinOp.xor uC (s[k].toNat:Int) ((W.getD k 0).toNat:Int)=(z.toNat:Int):=by rw[DT,hz]
        have HT:=hide (show D.take (k+1)=D.take k++[z] from by
          rw[lJ D k (by rw[(aA F).2];exact f)]
          have:D[k]'(by rw[(aA F).2];exact f)=z:=by
            have h1:D[k]?=some z:=by rw[aA b1,List.getElem?_zipWith,zH (show k<W.length by rw[(aA F).1];exact f),aEE,aCF (show k<s.data.size from f),<-hz,zG,zH (show k<W.length by rw[(aA F).1];exact f)];rfl
            rw[zH (by rw[(aA F).2];exact f)] at h1;injection h1
          rw[this])
        have a9:=hide (show (D.take k).length=k from by rw[ww,(aA F).2];omega);clear hz;generalize W.getD k 0=y at *;have p1:(0:Int)<=(k:Int):=a_;have p2:(k:Int)<(s.size:Int):=a_
        go_upto_region 7 with fail
        go_still_tail 11,ai
        clear c1;change aBj _ _ _ _ _ wr.drew
        go_wp2
        go_roundw
        case rel=>have h1:=((aA Z).1.zq k (.int .u8 (z.toNat:Int))).drew;rw[aBd _ (aA a9) f,<-aA HT] at h1;exact⟨k+1,a_,by go_num,hide ⟨h1,((aA Z).2.setCell d_ _).drew⟩⟩
        case measure=>simp[intOf];omega
      ·
        obtain rfl:k=s.size:=a_;have g1:decide (s.size<s.size)=false:=su a_
        have a7:=hide (show Reads wr 1 (.slice (some ⟨w9.heap.size,0,none⟩) s.size s.size) s.size (D.map uF) from by
          have h1:=(aA Z).1;rw[WF (by rw[(aA F).2];omega),aBe (aA F).2] at h1;have:=Reads.zf h1 (i:=0) (n:=s.size) (c:=s.size) (by simp[(aA F).2]) a_ (by unfold uu;omega);simp only[aBk] at this;rw[WF (by rw[aAB,(aA F).2];omega)] at this
          exact this)
        go_wp2_with (refine sG (src:=74) (dst:=9) (x:=.tmp 40) (l:=D) rfl rfl underlying74 underlying5 underlying9 rfl (aA a7) ?_)
        go_ret;exact⟨by rw[aA b2];rfl,(aA H9).2.trans (aA Z).2⟩
theorem bJw(key:di)(qg:Int)(s:jy)(w:ae)(hk:key.length=16)(h1:-9223372036854775808<=qg)(h2:qg<9223372036854775808)(hs:s.size<=10000) :
    lL prog 120 #[.agg (key.map j_).toArray,.int .i64 qg,.string s] w fun e w'=>e=.returned (.agg (Cf qg (strOf (dM key qg s.data.toList)) (tq key qg (dM key qg s.data.toList))))/\Ext w w':=by
  obtain⟨arr,harr⟩:∃ r,(key.map j_).toArray=r:=⟨_,rfl⟩;have HAp:=hide (fun W=>aLd key qg s W hk h1 h2 a_);rw[harr] at HAp ⊢;have Yn:arr.size=16:=by rw[<-harr];simpa using hk
  have h1c:arr.all (·.oneCell')=true:=by rw[<-harr];exact dJ _
  have HA:=hide harr;clear harr
  go_enter func120,ntmps120
  obtain⟨cs,hcs⟩:∃ c,strOf (dM key qg s.data.toList)=c:=⟨_,rfl⟩;have hcl:cs.data.toList=dM key qg s.data.toList:=by rw[<-hcs];exact bY _
  have hcz : cs.size <= 100000 := by
   have h:cs.data.toList.length=s.data.toList.length:=by rw[hcl,cZ]
   rw[nz,nz] at h;have h2:cs.size=s.size:=h;omega
  have HTg:=hide (fun W=>bAq key qg cs W hk h1 h2 hcz);rw[aA HA,hcl] at HTg;rw[hcs] at HAp ⊢;have HTL:=hide (gW key qg (dM key qg s.data.toList));generalize tq key qg (dM key qg s.data.toList)=tg at *;clear hcs hcl;obtain⟨t0,t1,t2,t3,t4,t5,t6,t7,t8,t9,t10,t11,t12,t13,t14,t15,rfl⟩:=NY (aA HTL)
  go_wp2_with (first
    |(refine fO (x:=.tmp 3) rfl rfl bF rfl (cs:=arr) (g:=w.heap.size) (by first|exact (eu.new w _ _).alloc _|assumption) Yn ?_)
    | (
     go_at_call 38;refine (aA HAp _).mono ?_;rintro e w1 ⟨rfl,hE1⟩
     have hba:eu w1 w.heap.size 23 arr:=((eu.new w _ _).alloc _).ext hE1;have hbb:=(eu.new' (g:=w.heap.size+1) (w.alloc (.cells arr 23)) _ _ d_).ext hE1
     have H1:=hide (show Ext w w1/\eu w1 (w.heap.size+1) 27 (#[.int .i64 0,.string { data:=#[] }]++DD 16 (.int .u8 0)) from az ((((Ext.refl w).alloc _).alloc _).trans hE1) hbb);clear hE1 hbb)
    |(go_at_call 37;refine (aA HTg _).mono ?_;rintro e w2 ⟨rfl,hE2⟩;have H2:=hide (az ((aA H1).1.trans hE2) ((aA H1).2.ext hE2));clear hE2)
    |(refine aT (ty:=27) (t:=27) (x:=.tmp 6) (y:=.tmp 18) rfl rfl aFw rfl rfl (aA H2).2 d_ rfl (by rw[<-aCS];rfl) ?_;intro w3 hb3 hc3 hz3;have H3:=hide (az hb3 hc3);clear hb3 hc3 hz3))
  refine aAT (dQ aFw rfl (aA H3).1 rfl rfl) rfl ⟨rfl,?_⟩;exact (aA H2).1.trans' (aA H3).2 (fun _ _ h=>h) (fun i hi e=>a_)
theorem aLa(b:di)(a:Int)(c:jy)(t:di)(w:ae)(E:b.length=16)(I:t.length=16)(h1:-9223372036854775808<=a)(h2:a<9223372036854775808)(hs:c.size<=10000) :
  lL prog 21 #[.agg (b.map j_).toArray,.agg (Cf a c t)] w fun e O=>e=.returned (bif decide (tq b a c.data.toList=t) then .tuple #[.string (strOf (dM b a c.data.toList)),.int .i64 0] else .tuple #[.string { data:=#[] },.int .i64 8])/\Ext w O:=by
 obtain⟨f,g⟩:∃ r,(b.map j_).toArray=r:=⟨_,rfl⟩;have B:=hide (fun W=>aLd b a c W E h1 h2 hs);have o:=hide (fun W=>bAq b a c W E h1 h2 a_);rw[g] at B o ⊢;have n:f.size=16:=by rw[<-g];simpa using E
 have s:=fun W=>aHS (gW b a c.data.toList) I W;obtain⟨d,J⟩:=jc (decide (tq b a c.data.toList=t));rw[J] at s ⊢;clear J;obtain⟨m,h⟩:∃ l,t.map j_=l:=⟨_,rfl⟩;have F:=hide (show m.length=16 from by rw[<-h];simpa using I);rw[V8,h];obtain⟨C,i⟩:∃ l,((tq b a c.data.toList).map j_).toArray=l:=⟨_,rfl⟩;have p:=hide (show C.size=16/\C.all (·.oneCell')=true from by rw[<-i];exact⟨by simpa using gW _ _ _,dJ _⟩);rw[i] at o;rw[i,h] at s
 have A:=hide (show eu ((w.alloc (.cells f 23)).alloc (.cells (EW a c m) 27)) w.heap.size 23 f /\
   eu ((w.alloc (.cells f 23)).alloc (.cells (EW a c m) 27)) (w.heap.size+1) 27 (EW a c m) from⟨(eu.new w _ _).alloc _,eu.new' _ _ _ d_⟩)
 have L:((w.alloc (.cells f 23)).alloc (.cells (EW a c m) 27)).cell? ⟨w.heap.size+1,0,none⟩=some (.int .i64 a):=by rw[(aA A).2.cell];rfl
 have K:((w.alloc (.cells f 23)).alloc (.cells (EW a c m) 27)).cell? ⟨w.heap.size+1,1,none⟩=some (.string c):=by rw[(aA A).2.cell];rfl
 have P:=hide (((Ext.refl w).alloc (.cells f 23)).alloc (.cells (EW a c m) 27));clear g h i
 go_enter func21,ntmps21
 go_upto_region 1 with fail
 generalize (w.alloc (.cells f 23)).alloc (.cells (EW a c m) 27)=T at *
 go_upto_region 2 with (first
  |(refine fO (x:=.tmp 2) rfl rfl bF rfl (cs:=f) (aA A).1 n ?_)
  |(go_at_call 37;refine (aA o _).mono ?_;rintro e N ⟨rfl,k⟩;have G:=hide (az ((aA P).trans k) (az ((aA A).1.ext k) ((aA A).2.ext k)));clear k)
  |(refine aT (ty:=23) (t:=23) (x:=.tmp 6) (y:=.tmp 12) rfl rfl bF rfl rfl (eu.new N _ _) rfl (aA p).1 (aA p).2 ?_;intro H u j D;have q:=hide (az (aOn (aA G).1 j) (az ((aA G).2.1.ext (aIe j)) (az ((aA G).2.2.ext (aIe j)) u)));clear u j D))
 clear L K;have L:H.cell? ⟨w.heap.size+1,0,none⟩=some (.int .i64 a):=by rw[(aA q).2.2.1.cell];rfl
 have K:H.cell? ⟨w.heap.size+1,1,none⟩=some (.string c):=by rw[(aA q).2.2.1.cell];rfl
 cases d<;>go_wp2_with (first
  |(refine fO (x:=.tmp 2) rfl rfl bF rfl (cs:=f) (aA q).2.1 n ?_)
  |(refine fO (x:=.tmp 6) rfl rfl bF rfl (cs:=C) (aA q).2.2.2 (aA p).1 ?_)
  |(refine aNa (x:=.tmp 14) ay rfl bF rfl (bHf (aA q).2.2.1) (aA F) ?_)
  |(go_at_call 38;refine (aA B _).mono ?_;rintro e S ⟨rfl,z⟩;have Q:=hide ((aA q).1.trans z);clear z))
 ·go_ret2
  exact⟨rfl,(aA q).1⟩
 ·go_ret2
  exact⟨rfl,aA Q⟩
theorem Ju(b:di)(a:Int)(c:jy)(t:di)(w:ae)(h:b.length=16)(g:t.length=16)(h1:-9223372036854775808<=a)(h2:a<9223372036854775808)(hs:c.size<=10000)
  (d:¬tq b a c.data.toList=t) :
  lL prog 21 #[.agg (b.map j_).toArray,.agg (Cf a c t)] w fun e f=>e=.returned (.tuple #[.string { data:=#[] },.int .i64 8])/\Ext w f:=by
 have:=aLa b a c t w h g h1 h2 hs;rw[su d] at this;exact this
theorem bKc(b:di)(a:Int)(c:jy)(t:di)(w:ae)(h:b.length=16)(g:t.length=16)(h1:-9223372036854775808<=a)(h2:a<9223372036854775808)(hs:c.size<=10000)
  (d:tq b a c.data.toList=t) :
  lL prog 21 #[.agg (b.map j_).toArray,.agg (Cf a c t)] w fun e f=>e=.returned (.tuple #[.string (strOf (dM b a c.data.toList)),.int .i64 0])/\Ext w f:=by
 have:=aLa b a c t w h g h1 h2 hs;rw[mi d] at this;exact this
namespace Pv
def uh(b:UInt8):ag:=.int .u8 (b.toNat:Int)
inductive PC where
 |lit (v:ag)
 |bs (n:Nat) (l:di)
 |sl (n len:Nat) (f:Nat->List PC)
 |ow (x l9 n off len:Nat)
 |ob (x l9 off len:Nat)
 |pt (x l9 off:Nat)
 |pk (x l9 off k:Nat)
 |pe (x l9 n i j:Nat)
 |pf (n len:Nat) (f:Nat->List PC) (i j:Nat)
 |fn (f:Fn) (first cap:List PC)
 |dv
 |any
 |pa (len:Nat) (f:Nat->List PC)
abbrev g_:=List PC
inductive PW where
 |one (c:PC)
 |agg (l:List PC)
inductive PV where
 |w (x:PW)
 |o7 (l:List PW)
 |none
abbrev ji:=List PV
inductive oh where
 |box (t:bu) (l:List PC)
 |arr (e n len:Nat) (f:Nat->List PC)
 |dead
 |dev (O:ut) (gm:je->Prop) (l:je)
def dx:Nat:=900000
structure Ctx where
 w:ae
 ok:Nat->Prop
 env:Nat->Option (Nat×ag)
def Ctx.cold(C:Ctx):Ctx:={ C with env:=fun _=>none }
def At(C:Ctx)(x l9:Nat)(p:ag->Prop):Prop:=∃ a b,C.env x=some (a,b)/\l9<=a/\(l9=a->p b)
def kJ(g:Nat):ag:=.pointer (some ⟨g,0,none⟩)
def bSh(n off len:Nat)(v:ag)(hd:ag):Prop:=∃ A a b,hd=.slice A a b/\off+len<=a/\v=.slice (A.map (·.add (off*n))) len (b-off)
def bSi(off len:Nat)(v:ag)(hd:ag):Prop:=∃ g c,hd=kJ g/\len<=c/\c<=uu/\v=.slice (some ⟨g,off,none⟩) len c
def aQg(off:Nat)(v:ag)(hd:ag):Prop:=∃ g,hd=kJ g/\v=.pointer (some ⟨g,off,none⟩)
def bSg(n i j:Nat)(v:ag)(hd:ag):Prop:=∃ g a b,hd=.slice (some ⟨g,0,none⟩) a b/\i<a/\v=.pointer (some ⟨g,i*n+j,none⟩)
def aAO(v:ag):Prop:=∃ b o,v=.pointer (some ⟨b,o,none⟩)
def aMK(len:Nat)(v:ag):Prop:=∃ A c,v=.slice A len c
mutual
inductive R:Ctx->PC->jl->Prop where
 |lit {C:Ctx} {v:ag} (h:v.oneCell'=true):R C (.lit v) [v]
 |bs {C:Ctx} {n:Nat} {l:di} (h:l.length=n):R C (.bs n l) (l.map uh)
 |
  sl {C:Ctx} {n len:Nat} {f:Nat->List PC} {v:ag} {vs:jl} (hr:Reads C.w n v len vs)
  (hb:∀ g,v.ownBlock=some g->0<len->C.ok g/\g<C.w.heap.size) (he:∀ i,i<len->RL C.cold (f i) ((vs.drop (i*n)).take n)):R C (.sl n len f) [v]
 |ow {C:Ctx} {x l9 n off len:Nat} {v:ag} (h1:aMK len v) (h:At C x l9 (bSh n off len v)):R C (.ow x l9 n off len) [v]
 |ob {C:Ctx} {x l9 off len:Nat} {v:ag} (h1:aMK len v) (h:At C x l9 (bSi off len v)):R C (.ob x l9 off len) [v]
 |pt {C:Ctx} {x l9 off:Nat} {v:ag} (h1:aAO v) (h:At C x l9 (aQg off v)):R C (.pt x l9 off) [v]
 |pk {C:Ctx} {x l9 off k:Nat} {v:ag} (h1:aAO v) (h:At C x l9 (aQg (off+k) v)):R C (.pk x l9 off k) [v]
 |pe {C:Ctx} {x l9 n i j:Nat} {v:ag} (h1:aAO v) (h:At C x l9 (bSg n i j v)):R C (.pe x l9 n i j) [v]
 |
  pf {C:Ctx} {n len:Nat} {f:Nat->List PC} {i j b o c:Nat} {vs:jl} (hr:Reads C.w n (.slice (some ⟨b,o,none⟩) len c) len vs)
  (hb:C.ok b/\b<C.w.heap.size) (he:∀ i,i<len->RL C.cold (f i) ((vs.drop (i*n)).take n)) (hi:i<len):R C (.pf n len f i j) [.pointer (some ⟨b,o+(i*n+j),none⟩)]
 |fn {C:Ctx} {f:Fn} {first cap:List PC} {fs cs:jl} (h1:RL C first fs) (h2:RL C cap cs):R C (.fn f first cap) [.func f fs.toArray cs.toArray]
 |dv {C:Ctx} {v:ag} (h1:v.oneCell'=true) (h:At C dx 0 (fun hd=>v=hd)):R C .dv [v]
 |any {C:Ctx} {v:ag} (h:v.oneCell'=true):R C .any [v]
 |
  pa {C:Ctx} {len b o c:Nat} {f:Nat->List PC} {vs:jl} (hr:Reads C.w 1 (.slice (some ⟨b,o,none⟩) len c) len vs)
  (hb:C.ok b/\b<C.w.heap.size) (he:∀ i,i<len->RL C.cold (f i) ((vs.drop (i*1)).take 1)) (hn:0<len):R C (.pa len f) [.pointer (some ⟨b,o,none⟩)]
inductive RL:Ctx->List PC->jl->Prop where
 |nil {C:Ctx}:RL C [] []
 |cons {C:Ctx} {c:PC} {l:List PC} {xs ys:jl} (h:R C c xs) (hl:RL C l ys):RL C (c::l) (xs++ys)
end
inductive RW(C:Ctx):PW->ag->Prop where
 |one {c:PC} {v:ag} (h:R C c [v]):RW C (.one c) v
 |agg {l:List PC} {cs:mg} (h:RL C l cs.toList):RW C (.agg l) (.agg cs)
inductive RV(C:Ctx):PV->ag->Prop where
 |w {x:PW} {v:ag} (h:RW C x v):RV C (.w x) v
 |o7 {l:List PW} {vs:mg} (hl:l.length=vs.size) (h:∀ (i:Nat) (x:PW),l[i]?=some x->∃ v:ag,vs[i]?=some v/\RW C x v):RV C (.o7 l) (.tuple vs)
 |none {v:ag}:RV C .none v
structure Ctx.Le(C C':Ctx):Prop where
 size:C.w.heap.size<=C'.w.heap.size
 blk:∀ b,b<C.w.heap.size->C.ok b->C'.ok b/\C'.w.heap[b]?=C.w.heap[b]?
 env:∀ x l9 hd,C.env x=some (l9,hd)->∃ X7 hd',C'.env x=some (X7,hd')/\l9<=X7/\(l9=X7->hd'=hd)
theorem Ctx.Le.cold{C C':Ctx}(h:C.Le C'):C.cold.Le C'.cold:=⟨h.size,h.blk,fun _ _ _ h=>by cases h⟩
theorem Ctx.Le.cell{C C':Ctx}(h:C.Le C'){b:Nat}(hb:b<C.w.heap.size)(a:C.ok b)(o:Nat):C'.w.cell? ⟨b,o,none⟩=C.w.cell? ⟨b,o,none⟩:=aFJ (w:=C.w) (h.blk b hb a).2
theorem At.mono{C:Ctx}{x l9:Nat}{p q:ag->Prop}(h:At C x l9 p)(c:∀ a,p a->q a):At C x l9 q:=by obtain⟨b,a,g,f,d⟩:=h;exact⟨b,a,g,f,fun e=>c a (d e)⟩
theorem At.le{C C':Ctx}(h:C.Le C'){x l9:Nat}{p:ag->Prop}(f:At C x l9 p):At C' x l9 p:=by
 obtain⟨c,d,m,l,k⟩:=f;obtain⟨a,b,j,i,g⟩:=h.env x c d m
 exact⟨a,b,j,ry l i,fun e=>by
  have n:c=a:=a_;rw[g n]
  exact k a_⟩
theorem aNx{C C':Ctx}(h:C.Le C'){n len:Nat}{v:ag}{vs:jl}(hr:Reads C.w n v len vs)(hb:∀ g,v.ownBlock=some g->0<len->C.ok g/\g<C.w.heap.size):Reads C'.w n v len vs:=by obtain⟨m,A,c,rfl,l,k,i⟩:=hr;refine⟨m,A,c,rfl,l,k,fun d=>?_⟩;obtain⟨b,o,rfl,f⟩:=i d;have a:=hb b rfl d;exact⟨b,o,rfl,fun j u e=>by rw[h.cell a.2 a.1];exact f j u e⟩
theorem R.le{C C':Ctx}{c:PC}{xs:jl}(hr:R C c xs)(h:C.Le C'):R C' c xs:=by
 refine R.rec (motive_1:=fun C c xs _=>∀ C',C.Le C'->R C' c xs) (motive_2:=fun C l xs _=>∀ C',C.Le C'->RL C' l xs) ?_ ?_ ?_ ?_ ?_ ?_ ?_ ?_ ?_ ?_ ?_ ?_ ?_ ?_ ?_ hr C' h;intro C v h C' a;exact .lit h;intro C n l h C' a;exact .bs h;intro C n len f v z hr d A u C' a;exact .sl (aNx a hr d) (fun g t y=>⟨(a.blk g (d g t y).2 (d g t y).1).1,aAF (d g t y).2 a.size⟩) (fun i s=>u i s _ a.cold);intro C x m n p len v e h C' a;exact .ow e (h.le a);intro C x m p len v e h C' a;exact .ob e (h.le a);intro C x m p v e h C' a;exact .pt e (h.le a);intro C x m p k v e h C' a;exact .pk e (h.le a);intro C x m n i j v e h C' a;exact .pe e (h.le a);intro C n len f i j b o c z hr d A s u C' a;exact .pf (aNx a hr (fun g t _=>by cases t;exact d)) ⟨(a.blk b d.2 d.1).1,aAF d.2 a.size⟩ (fun i s=>u i s _ a.cold) s
 ·intro C f first cap F G e B r q C' a;exact .fn (r _ a) (q _ a)
 intro C v e B C' a;exact .dv e (B.le a);intro C v h C' a;exact .any h;intro C len b o c f z hr d A D u C' a;exact .pa (aNx a hr (fun g t _=>by cases t;exact d)) ⟨(a.blk b d.2 d.1).1,aAF d.2 a.size⟩ (fun i s=>u i s _ a.cold) D;intro C C' a;exact .nil;intro C c l xs E h a r q C' w;exact .cons (r _ w) (q _ w)
theorem RL.le{C C':Ctx}{l:List PC}{xs:jl}(hr:RL C l xs)(h:C.Le C'):RL C' l xs:=by
 induction l generalizing xs with
 |nil=>cases hr;exact .nil|cons c l a=>cases hr with|cons d b=>exact .cons (d.le h) (a b)
theorem RW.le{C C':Ctx}{x:PW}{v:ag}(hr:RW C x v)(h:C.Le C'):RW C' x v:=by
 cases hr with
 |one a=>exact .one (a.le h)|agg a=>exact .agg (a.le h)
theorem RV.le{C C':Ctx}{x:PV}{v:ag}(hr:RV C x v)(h:C.Le C'):RV C' x v:=by
 cases hr with
 |w c=>exact .w (c.le h)|o7 e c=>exact .o7 e (fun i x d=>let ⟨v,a,b⟩:=c i x d;⟨v,a,b.le h⟩)|none=>exact .none
def PC.width:PC->Nat
 |.bs n _=>n|_=>1
def widths:List PC->Nat
 |[]=>0|c::l=>c.width+widths l
theorem R.width{C:Ctx}{c:PC}{xs:jl}(h:R C c xs):xs.length=c.width:=by cases h<;>simp_all [PC.width]
theorem RL.width{C:Ctx}{l:List PC}{xs:jl}(h:RL C l xs):xs.length=widths l:=by
 induction l generalizing xs with
 |nil=>cases h;rfl|cons c l a=>cases h with|cons d b=>rw[gz,d.width,a b];rfl
theorem R.ones{C:Ctx}{c:PC}{xs:jl}(h:R C c xs):∀ u∈xs,u.oneCell'=true:=by
 cases h with
 |lit h=>intro u a;simp at a;subst a;exact h|bs h=>intro u a;obtain⟨b,_,rfl⟩:=List.mem_map.1 a;rfl
 |sl e g f=>intro u a;simp at a;subst a;obtain⟨_,A,c,rfl,_⟩:=e;rfl
 |ow d _=>intro u a;simp at a;subst a;obtain⟨_,_,rfl⟩:=d;rfl
 |ob d _=>intro u a;simp at a;subst a;obtain⟨_,_,rfl⟩:=d;rfl
 |pt d _=>intro u a;simp at a;subst a;obtain⟨_,_,rfl⟩:=d;rfl
 |pk d _=>intro u a;simp at a;subst a;obtain⟨_,_,rfl⟩:=d;rfl
 |pe d _=>intro u a;simp at a;subst a;obtain⟨_,_,rfl⟩:=d;rfl
 |pf _ _ _ _=>intro u a;simp at a;subst a;rfl|fn _ _=>intro u a;simp at a;subst a;rfl|dv d _=>intro u a;simp at a;subst a;exact d|any d=>intro u a;simp at a;subst a;exact d|pa _ _ _ _=>intro u a;simp at a;subst a;rfl
theorem RL.ones{C:Ctx}{l:List PC}{xs:jl}(h:RL C l xs):∀ u∈xs,u.oneCell'=true:=by
 induction l generalizing xs with
 |nil=>cases h;intro u a;cases a| cons c l b=>
  cases h with
  |cons e d=>intro u a;rcases List.mem_append.1 a with a|a;exact e.ones u a;exact b d u a
theorem RL.append{C:Ctx}{l m:List PC}{xs ys:jl}(h:RL C l xs)(k:RL C m ys):RL C (l++m) (xs++ys):=by
 induction l generalizing xs with
 |nil=>cases h;exact k|cons c l a=>cases h with|cons d b=>rw[GM];exact .cons d (a b)
theorem RL.single{C:Ctx}{c:PC}{ys:jl}(h:RL C [c] ys):R C c ys:=by
 cases h with
 |cons b a=>cases a;simpa using b
def tJ:List PC->Nat->Nat->Option (List PC)
 |[],0,0=>some []|[],_,_=>none|c::l,0,n=>if n=0 then some [] else if c.width<=n then (tJ l 0 (n-c.width)).map (c::·) else none|c::l,off+1,n=>if c.width<=off+1 then tJ l (off+1-c.width) n else none
theorem RL.sub{C:Ctx}:∀ {l:List PC} {b n:Nat} {m:List PC} {d:jl},RL C l d->tJ l b n=some m->RL C m ((d.drop b).take n)/\b+n<=d.length:=by
 intro l
 induction l with
 |nil=>
  intro b n m d h a;cases h
  match b,n with
  |0,0=>simp[tJ] at a;subst a;exact⟨by simpa using RL.nil,d_⟩|0,n+1=>simp[tJ] at a|b+1,n=>simp[tJ] at a
 | cons c l i=>
  intro b n m d h a;cases h with
  | @cons _ _ _ s r p o=>
   have j:=p.width
   match b with
   | 0=>
    unfold tJ at a;by_cases k:n=0;subst k;simp at a;subst a;exact⟨by simpa using RL.nil,d_⟩;rw[ah k] at a;by_cases e:c.width<=n;rw[au e] at a;cases g:tJ l 0 (n-c.width) with
    |none=>rw[g] at a;cases a|some t=>rw[g] at a;simp at a;subst a;obtain⟨f,q⟩:=i o g;refine⟨?_,by rw[gz];omega⟩;rw[aBk,aEN,WF a_,j];exact .cons p (by simpa using f)
    rw[ah e] at a;cases a
   |b+1=>unfold tJ at a;by_cases e:c.width<=b+1;rw[au e] at a;obtain⟨f,q⟩:=i o a;refine⟨?_,by rw[gz];omega⟩;rw[List.drop_append,aCV a_,IR,j];exact f;rw[ah e] at a;cases a
end Pv
end Go.Proofs.YtndpjopifkbgiaaGreatDoor
