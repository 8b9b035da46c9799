/-
  Several texts in one file.
-/
import Derived.Test.YtndpjopifkbgiaaGreatDoorRnA
import Derived.Orders
import Derived.Great.BuildSlice
import Derived.Lib.AppendStr
import Derived.ChangeKeysEq
import Derived.Laws.MakeOwn
import Derived.Laws.Cover3
import Derived.Deep.LoopGhost
namespace Go.Proofs.YtndpjopifkbgiaaGreatDoor
open Go.RowKit Tryz
open _root_.Nat renaming beq->bz,le_refl->dE,mul_le_mul_right->aBB,zero_add->mf,add_mul->aAZ,add_assoc->aBH,one_mul->aBX,add_zero->aBK,le_of_ble_eq_true->aBO,add_comm->aBS,mul_one->aBq,blt->XN,min_eq_left->aCZ,lt_of_lt_of_le->aAF,zero_le->x8,sub_self->aBa,eq_zero_or_pos->aCE,ble->aBT,lt_trichotomy->aFD,le_trans->ry,ble_eq_true_of_le->aET,lt_succ_self->aDB,zero_mul->aDN,mul_comm->aFA,le_of_lt->aFG
open _root_.Go renaming run_underlying->Ha,TypeId->bu,Operand->uA,Program->ed,World->ae,Value->ag,execOp->xe,typeInfo->aBt,grownCap->aAI,bytesRow->aAH,Oper->ik,madeCells->aCO,undef->dC,yielded->aAG,callFunc->aAE,heap_alloc_new->aDd,maxLen->uu,invoke->aCC,Exit->uk,Func->Lt,wp_mono->aCD,Code->Hm,PanicEntry->aBG
open _root_.List renaming getElem?_take->yf,getElem?_drop->aAk,mem_cons_of_mem->aAD,mem_cons_self->aAw,length_cons->We,ext_getElem?->aAX,length_append->gz,getElem?_append_right->aBi,append_assoc->GM,length_take->ww,map_cons->aAJ,getElem?_append_left->aBD,cons_append->C_,all_cons->aBV,length_map->aAB,getElem?_cons_zero->aBN,take_append_of_le_length->aDM,drop_of_length_le->aCV,take_append_drop->aCY,nil_append->IR,take_of_length_le->WF,map_nil->aCU,map_toArray->aEp,mem_of_getElem?->aCH,length_set->aAA,size_toArray->aBM,ext_getElem->aBR,drop_append->aFC,append_nil->AC,drop_drop->aCW,getElem_range->aCA,getElem?_map->aAg,length_drop->MM,getElem_map->aCI,drop_append_of_le_length->aKg,replicate->Pi,extract_eq_take_drop->aKf,drop_take->aGH,singleton_append->aDX,getElem?_eq_none->PR,getElem?_set->aED,take_append->aEN,length_nil->aBJ,foldl_cons->aEB,take_zero->aEG,mem_range->aGq,drop_zero->aBk,range->yz
open _root_.Array renaming length_toList->nz,getD_eq_getD_getElem?->aBL,ext'->TC,getElem?_eq_getElem->aCF,getElem?_toList->aEE,replicate->DD,getElem?_append_left->aES,toList_map->aGI,getElem?_setIfInBounds_ne->aKe,toList_setIfInBounds->aFK,getElem?_replicate->aJZ
open _root_.Bool renaming and_eq_true->zg,or_eq_true->aEQ,eq_iff_iff->aFB
open _root_.UInt8 renaming ofNat->xy,toNat_ofNat_of_lt'->aJx
open _root_.Go.Value renaming ownBlock->aAC,int->gp,slice->aAP
open _root_.Option renaming map_some->aEH
namespace Pv
structure St where
 t:List (Nat×og×PV)
 o:List (Nat×og×Nat×oh)
def find{a:Type}:List (Nat×a)->Nat->Option a
 |[],_=>none|(k,x)::r,t=>match bz k t with
  |true=>some x|false=>find r t
theorem aG{a:Type}(k:Nat)(x:a)(r:List (Nat×a)):find ((k,x)::r) k=some x:=by simp[find]
theorem aF{a:Type}{k t:Nat}(x:a)(r:List (Nat×a))(h:k≠t):find ((k,x)::r) t=find r t:=by
 have:bz k t=false:=by
  cases b:bz k t with
  |false=>rfl|true=>exact absurd (Nat.eq_of_beq_eq_true b) h
 simp only[find,this]
theorem qJ{a:Type}{t:Nat}:∀ (l r:List (Nat×a)),(∀ p∈l,p.1≠t)->find (l++r) t=find r t
 |[],_,_=>rfl|(k,x)::l,r,h=>by rw[C_,aF _ _ (h (k,x) aAw)];exact qJ l r (fun p b=>h p (aAD _ b))
theorem uT{e:Type}{t:Nat}:∀ (l r b:List (Nat×e)),(find r t=find b t\/∃ p∈l,p.1=t)->find (l++r) t=find (l++b) t
 |[],_,_,h=>by
  rcases h with h|⟨p,a,_⟩;exact h
  cases a
 |(k,x)::l,r,b,h=>by
  by_cases c:k=t;subst c;rw[C_,C_,aG,aG];rw[C_,C_,aF _ _ c,aF _ _ c];refine uT l r b (h.imp id fun⟨p,a,d⟩=>?_);rcases List.mem_cons.1 a with rfl|a;exact absurd d c
  exact⟨p,a,d⟩
inductive M where
 |ret (v:PV)
 |fail
 |need (p:Prop) (k:M)
 |tmp (t:Nat) (k:og->PV->M)
 |obj (x:Nat) (k:og->Nat->oh->M)
 |new (x:Nat) (o:oh) (k:Nat->M)
 |upd (x:Nat) (l9:Nat) (o:oh) (k:M)
 |gate (b:Bool) (k:M)
abbrev Wr:=List (Nat×og×Nat×oh)
def fresh(s:St)(x:Nat):Nat:=match find s.o x with
 |some (_,vr,_)=>vr+1|none=>0
structure Out where
 g:og
 val:PV
 conds:List Prop
 rt:List Nat
 ro:List Nat
 wr:Wr
def hP(h:og)(p:Prop):Prop:=match h with
 |none=>p|some b=>b=true->p
def M.run:M->og->St->Option Out
 |.ret v,h,_=>some ⟨h,v,[],[],[],[]⟩|.fail,_,_=>none|.need p k,h,s=>match k.run h s with
  |some o=>some { o with conds:=hP h p::o.conds }
  |none=>none
 | .tmp t k,h,s=>match find s.t t with
  |some (g,v)=>(match (k g v).run h s with
   |some o=>some { o with rt:=t::o.rt }
   |none=>none)
  |none=>none
 | .obj x k,h,s=>match find s.o x with
  |some (g,vr,ob)=>(match (k g vr ob).run h s with
   |some o=>some { o with ro:=x::o.ro }
   |none=>none)
  |none=>none
 |
  .new x ob k,h,s=>match (k (fresh s x)).run h s with
  |some o=>some { o with ro:=x::o.ro,wr:=(x,h,fresh s x,ob)::o.wr }
  |none=>none
 | .upd x vr ob k,h,s=>match h with
  |none=>(match k.run h s with
   |some o=>some { o with wr:=(x,none,vr,ob)::o.wr }
   |none=>none)
  |some _=>none
 |.gate b k,h,s=>match h with
  |none=>k.run (some b) s|some _=>none
theorem M.frame:∀ (m:M) (h:og) (s c:St) (o:Out),m.run h s=some o->(∀ t∈o.rt,find c.t t=find s.t t)->(∀ x∈o.ro,find c.o x=find s.o x)->m.run h c=some o:=by
 intro m
 induction m with
 |ret v=>intro d s c o h _ _;exact h|fail=>intro d s c o h;cases h|need p k i=>
  intro d s c o h f e;unfold M.run at h ⊢;cases a:k.run d s with
  |none=>rw[a] at h;cases h|some q=>rw[a] at h;cases h;rw[i d s c q a f e]
 | tmp t k i=>
  intro d s c o h f e;unfold M.run at h ⊢;cases j:find s.t t with
  |none=>rw[j] at h;cases h| some p=>
   obtain⟨g,v⟩:=p;rw[j] at h;dsimp only at h;cases a:(k g v).run d s with
   |none=>rw[a] at h;cases h|some q=>rw[a] at h;cases h;rw[f t aAw,j];dsimp only;rw[i g v d s c q a (fun t l=>f t (aAD _ l)) e]
 | obj x k i=>
  intro d s c o h f e;unfold M.run at h ⊢;cases j:find s.o x with
  |none=>rw[j] at h;cases h| some p=>
   obtain⟨g,r,n⟩:=p;rw[j] at h;dsimp only at h;cases a:(k g r n).run d s with
   |none=>rw[a] at h;cases h|some q=>rw[a] at h;cases h;rw[e x aAw,j];dsimp only;rw[i g r n d s c q a f (fun t l=>e t (aAD _ l))]
 | new x n k i=>
  intro d s c o h f e;unfold M.run at h ⊢;cases a:(k (fresh s x)).run d s with
  |none=>rw[a] at h;cases h|some q=>
   rw[a] at h;cases h;have u:fresh c x=fresh s x:=by unfold fresh;rw[e x aAw]
   rw[u,i _ d s c q a f (fun t l=>e t (aAD _ l))]
 | upd x r n k i=>
  intro d s c o h f e;unfold M.run at h ⊢;cases d with
  |some b=>cases h|none=>
   dsimp only at h ⊢;cases a:k.run none s with
   |none=>rw[a] at h;cases h|some q=>rw[a] at h;cases h;rw[i none s c q a f e]
 |gate b k i=>
  intro d s c o h f e;unfold M.run at h ⊢;cases d with
  |some b=>cases h|none=>exact i _ s c o h f e
def M.ok:M->og->St->(og->PV->Wr->Prop)->Prop
 |.ret v,h,_,F=>F h v []|.fail,_,_,_=>False|.need p k,h,s,F=>hP h p/\k.ok h s F|.tmp t k,h,s,F=>∃ g v,find s.t t=some (g,v)/\(k g v).ok h s F|.obj x k,h,s,F=>∃ g c a,find s.o x=some (g,c,a)/\(k g c a).ok h s F|.new x a k,h,s,F=>(k (fresh s x)).ok h s (fun d v wr=>F d v ((x,h,fresh s x,a)::wr))|.upd x c a k,h,s,F=>h=none/\k.ok h s (fun d v wr=>F d v ((x,none,c,a)::wr))|.gate b k,h,s,F=>h=none/\k.ok (some b) s F
theorem M.zy:∀ (m:M) (c:og) (s:St) (a:Out) (F:og->PV->Wr->Prop),m.run c s=some a->(∀ p∈a.conds,p)->F a.g a.val a.wr->m.ok c s F:=by
 intro m
 induction m with
 |ret v=>intro c s a F h _ e;cases h;exact e|fail=>intro c s a F h;cases h|need p k i=>
  intro c s a F h f e;unfold M.run at h;cases d:k.run c s with
  |none=>rw[d] at h;cases h|some q=>rw[d] at h;cases h;exact⟨f _ aAw,i c s q F d (fun r u=>f r (aAD _ u)) e⟩
 | tmp t k i=>
  intro c s a F h f e;unfold M.run at h;cases j:find s.t t with
  |none=>rw[j] at h;cases h|some p=>
   obtain⟨g,v⟩:=p;rw[j] at h;dsimp only at h;cases d:(k g v).run c s with
   |none=>rw[d] at h;cases h|some q=>rw[d] at h;cases h;exact⟨g,v,j,i g v c s q F d f e⟩
 | obj x k i=>
  intro c s a F h f e;unfold M.run at h;cases j:find s.o x with
  |none=>rw[j] at h;cases h|some p=>
   obtain⟨g,n,l⟩:=p;rw[j] at h;dsimp only at h;cases d:(k g n l).run c s with
   |none=>rw[d] at h;cases h|some q=>rw[d] at h;cases h;exact⟨g,n,l,j,i g n l c s q F d f e⟩
 |new x l k i=>
  intro c s a F h f e;unfold M.run at h;cases d:(k (fresh s x)).run c s with
  |none=>rw[d] at h;cases h|some q=>rw[d] at h;cases h;exact i _ c s q _ d f e
 | upd x n l k i=>
  intro c s a F h f e;unfold M.run at h;cases c with
  |some b=>cases h|none=>
   dsimp only at h;cases d:k.run none s with
   |none=>rw[d] at h;cases h|some q=>rw[d] at h;cases h;exact⟨rfl,i none s q _ d f e⟩
 |gate b k i=>
  intro c s a F h f e;unfold M.run at h;cases c with
  |some b=>cases h|none=>exact⟨rfl,i _ s a F h f e⟩
def app(d:Option Nat)(o:Out)(s:St):St:=
 {
  t:=(match d with
  |some d=>(d,o.g,o.val)::s.t|none=>s.t),o:=o.wr++s.o }
def uJ(b:Nat->ik->M):Nat->List ik->St->Option (List (Option Nat×Out)×St)
 |_,[],s=>some ([],s)| i,o::l,s=>match (b i o).run none s with
  |some out=>(match uJ b (i+1) l (app o.dst out s) with
   |some (a,c)=>some ((o.dst,out)::a,c)|none=>none)
  |none=>none
def merge(L:Nat->Bool):Nat->List (Option Nat×Out)->St->St
 |_,[],s=>s|i,(d,o)::l,s=>merge L (i+1) l (if L i=true then app d o s else s)
def IV(d:Option Nat)(t:Nat):Prop:=d=some t
def Wy(o:Out)(x:Nat):Prop:=∃ p∈o.wr,p.1=x
theorem aVg{d:Option Nat}{o:Out}{s:St}{t:Nat}(h:¬IV d t):find (app d o s).t t=find s.t t:=by
 cases d with
 |none=>rfl|some d=>unfold app;dsimp only;rw[aF _ _ (fun e=>h (by rw[e];rfl))]
theorem aVf{d:Option Nat}{o:Out}{s s':St}{t:Nat}(h:IV d t):find (app d o s).t t=find (app d o s').t t:=by unfold IV at h;subst h;unfold app;dsimp only;rw[aG,aG]
theorem aVi{d:Option Nat}{o:Out}{s:St}{x:Nat}(h:¬Wy o x):find (app d o s).o x=find s.o x:=qJ _ _ (fun p a e=>h ⟨p,a,e⟩)
theorem aVh{d:Option Nat}{o:Out}{s s':St}{x:Nat}(h:Wy o x):find (app d o s).o x=find (app d o s').o x:=uT _ _ _ (.inr h)
theorem aIa{t:Nat}{L f:Nat->Bool}:∀ (l:List (Option Nat×Out)) (i:Nat) (s e:St),find s.t t=find e.t t->(∀ j p,l[j]?=some p->IV p.1 t->L (i+j)=f (i+j))->find (merge L i l s).t t=find (merge f i l e).t t
 |[],_,_,_,h,_=>h| (d,o)::l,i,s,e,h,ha=>by
  refine aIa l (i+1) _ _ ?_ (fun j p k a=>by rw[aBH,aBS 1];exact ha (j+1) p (by simpa using k) a);by_cases a:IV d t;have:=ha 0 (d,o) rfl a;rw[aBK] at this;rw[this];by_cases c:f i=true;rw[au c,au c];exact aVf a;rw[ah c,ah c];exact h;have g:∀ (b:Bool) (z:St),find (if b=true then app d o z else z).t t=find z.t t:=fun b z=>by cases b;rfl;exact aVg a
  rw[g,g];exact h
theorem aId{x:Nat}{L f:Nat->Bool}:∀ (l:List (Option Nat×Out)) (i:Nat) (s e:St),find s.o x=find e.o x->(∀ j p,l[j]?=some p->Wy p.2 x->L (i+j)=f (i+j))->find (merge L i l s).o x=find (merge f i l e).o x
 |[],_,_,_,h,_=>h| (d,o)::l,i,s,e,h,ha=>by
  refine aId l (i+1) _ _ ?_ (fun j p k a=>by rw[aBH,aBS 1];exact ha (j+1) p (by simpa using k) a);by_cases a:Wy o x;have:=ha 0 (d,o) rfl a;rw[aBK] at this;rw[this];by_cases c:f i=true;rw[au c,au c];exact aVh a;rw[ah c,ah c];exact h;have g:∀ (b:Bool) (z:St),find (if b=true then app d o z else z).o x=find z.o x:=fun b z=>by cases b;rfl;exact aVi a
  rw[g,g];exact h
theorem uO:∀ (l:List (Option Nat×Out)) (i:Nat) (s:St) (L:Nat->Bool),(∀ j,j<l.length->L (i+j)=false)->merge L i l s=s
 |[],_,_,_,_=>rfl|(d,o)::l,i,s,L,h=>by have a:=h 0 d_;rw[aBK] at a;rw[merge,a];exact uO l (i+1) s L (fun j b=>by have:=h (j+1) (by simpa using b);rwa [aBH,aBS 1])
theorem aIb{t:Nat}{L:Nat->Bool}:∀ (l:List (Option Nat×Out)) (i k:Nat) (s:St) (d:Option Nat) (o:Out),l[k]?=some (d,o)->IV d t->(∀ j p,l[j]?=some p->k<j->IV p.1 t->L (i+j)=false) ->
  find (app d o (merge L i l s)).t t=find (merge (fun j=>if j=i+k then true else L j) i l s).t t
 |[],_,_,_,_,_,h,_,_=>by simp at h| (e,c)::l,i,0,s,d,o,h,hw,ha=>by
  obtain⟨rfl,rfl⟩:e=d/\c=o:=by simpa using h
  rw[merge,merge,show (if i=i+0 then true else L i)=true from au rfl,au rfl,aVf (s':=s) hw]
  have m:merge (fun j=>if j=i+0 then true else L j) (i+1) l (app e c s)=merge L (i+1) l (app e c s):=by
   have:∀ (l:List (Option Nat×Out)) (a:Nat) (s:St),i<a->merge (fun j=>if j=i+0 then true else L j) a l s=merge L a l s:=by
    intro l
    induction l with
    |nil=>intro a s _;rfl|cons p l g=>intro a s q;obtain⟨d,o⟩:=p;rw[merge,merge];rw[ah (show ¬a=i+0 by omega)];exact g (a+1) _ a_
   exact this l (i+1) _ a_
  rw[m];refine Eq.trans ?_ (aIa (L:=fun _=>false) l (i+1) (app e c s) _ rfl (fun j p f b=>?_));rw[uO l (i+1) _ _ (fun _ _=>rfl)];have:=ha (j+1) p (by simpa using f) a_ b;rw[aBH,aBS 1,this]
 | (e,c)::l,i,k+1,s,d,o,h,hw,ha=>by
  rw[merge,merge];rw[ah (show ¬i=i+(k+1) by omega)]
  have:=aIb (t:=t) (L:=L) l (i+1) k (if L i=true then app e c s else s) d o (by simpa using h) hw (fun j p f n b=>by
   have:=ha (j+1) p (by simpa using f) a_ b
   rwa [aBH,aBS 1])
  rw[this,show i+1+k=i+(k+1) from a_]
theorem aIc{x:Nat}{L:Nat->Bool}:∀ (l:List (Option Nat×Out)) (i k:Nat) (s:St) (d:Option Nat) (o:Out),l[k]?=some (d,o)->Wy o x->(∀ j p,l[j]?=some p->k<j->Wy p.2 x->L (i+j)=false) ->
  find (app d o (merge L i l s)).o x=find (merge (fun j=>if j=i+k then true else L j) i l s).o x
 |[],_,_,_,_,_,h,_,_=>by simp at h| (e,c)::l,i,0,s,d,o,h,hw,ha=>by
  obtain⟨rfl,rfl⟩:e=d/\c=o:=by simpa using h
  rw[merge,merge,show (if i=i+0 then true else L i)=true from au rfl,au rfl,aVh (s':=s) hw]
  have m:merge (fun j=>if j=i+0 then true else L j) (i+1) l (app e c s)=merge L (i+1) l (app e c s):=by
   have:∀ (l:List (Option Nat×Out)) (a:Nat) (s:St),i<a->merge (fun j=>if j=i+0 then true else L j) a l s=merge L a l s:=by
    intro l
    induction l with
    |nil=>intro a s _;rfl|cons p l g=>intro a s q;obtain⟨d,o⟩:=p;rw[merge,merge];rw[ah (show ¬a=i+0 by omega)];exact g (a+1) _ a_
   exact this l (i+1) _ a_
  rw[m];refine Eq.trans ?_ (aId (L:=fun _=>false) l (i+1) (app e c s) _ rfl (fun j p f b=>?_));rw[uO l (i+1) _ _ (fun _ _=>rfl)];have:=ha (j+1) p (by simpa using f) a_ b;rw[aBH,aBS 1,this]
 | (e,c)::l,i,k+1,s,d,o,h,hw,ha=>by
  rw[merge,merge];rw[ah (show ¬i=i+(k+1) by omega)]
  have:=aIc (x:=x) (L:=L) l (i+1) k (if L i=true then app e c s else s) d o (by simpa using h) hw (fun j p f n b=>by
   have:=ha (j+1) p (by simpa using f) a_ b
   rwa [aBH,aBS 1])
  rw[this,show i+1+k=i+(k+1) from a_]
theorem aRt{c:Nat->ik->M}:∀ (l:List ik) (i:Nat) (s d:St) (a:List (Option Nat×Out)),uJ c i l s=some (a,d) ->
  a.length=l.length/\d=merge (fun _=>true) i a s/\∀ k o,l[k]?=some o->∃ b,a[k]?=some (o.dst,b)/\(c (i+k) o).run none (merge (fun j=>decide (j<i+k)) i a s)=some b
 |[],i,s,d,a,h=>by
  obtain⟨rfl,rfl⟩:[]=a/\s=d:=by simpa[uJ] using h
  exact⟨rfl,rfl,fun k o f=>by simp at f⟩
 | o :: l,i,s,d,a,h=>by
  unfold uJ at h;cases m:(c i o).run none s with
  |none=>rw[m] at h;cases h| some b=>
   rw[m] at h;dsimp only at h;cases n:uJ c (i+1) l (app o.dst b s) with
   |none=>rw[n] at h;cases h| some p=>
    obtain⟨g,y⟩:=p;rw[n] at h;cases h;obtain⟨x,w,u⟩:=aRt l (i+1) _ _ _ n;refine⟨by simp[x],by rw[merge,au rfl];exact w,fun k q f=>?_⟩
    match k with
    |0=>
     obtain rfl:o=q:=by simpa using f
     refine⟨b,rfl,?_⟩;rw[aBK,uO _ i s _ (fun j _=>d_)];exact m
    |k+1=>obtain⟨e,t,r⟩:=u k q (by simpa using f);refine⟨e,by simpa using t,?_⟩;rw[merge,au d_,show i+(k+1)=i+1+k from a_];exact r
def masks(md:Region.Mode):List ik->List Nat->List Nat
 |[],a=>a
 |
  o::l,a=>masks md l (a++[o.after.toList.foldl (fun m e=>match Region.binds md e with
  |true=>Nat.lor m (Nat.lor (Nat.shiftLeft 1 e.on) (a.getD e.on 0))|false=>m) 0])
inductive Qz(md:Region.Mode)(ops:Array ik):Nat->Nat->Prop where
 |edge {i:Nat} {o:ik} {e:Edge} (ho:ops[i]?=some o) (he:e∈o.after) (hb:Region.binds md e=true):Qz md ops i e.on
 |trans {i j k:Nat} (h:Qz md ops i j) (h':Qz md ops j k):Qz md ops i k
def bSj(md:Region.Mode)(ops:Array ik)(a:List Nat):Prop:=∀ i m,a[i]?=some m->∀ k,m.testBit k=true->Qz md ops i k
theorem aLy{md:Region.Mode}{ops:Array ik}{b:List Nat}(d:bSj md ops b){i:Nat}{o:ik}(n:ops[i]?=some o) :
  ∀ (l:List Edge) (m:Nat),(∀ e∈l,e∈o.after)->(∀ k,m.testBit k=true->Qz md ops i k) ->
   ∀ k,(l.foldl (fun m e=>match Region.binds md e with|true=>Nat.lor m (Nat.lor (Nat.shiftLeft 1 e.on) (b.getD e.on 0))|false=>m) m).testBit k=true->Qz md ops i k
 |[],m,_,g,k,h=>g k h| e::l,m,hes,g,k,h=>by
  rw[aEB] at h;refine aLy d n l _ (fun u a=>hes u (aAD _ a)) (fun f a=>?_) k h;have c:=hes e aAw;cases j:Region.binds md e with
  |false=>rw[j] at a;exact g f a| true=>
   rw[j] at a;dsimp only at a;change (m ||| (1 <<< e.on ||| b.getD e.on 0)).testBit f=true at a;rw[Nat.testBit_or,Nat.testBit_or,aEQ,aEQ] at a;rcases a with a|a|a;exact g f a
   have s:f=e.on:=by
    rw[Nat.testBit_shiftLeft,zg] at a;have q:=a.2;have w:e.on<=f:=by simpa using a.1
    rcases aCE (f-e.on) with t|t;omega;rw[Nat.testBit_lt_two_pow (Nat.one_lt_two_pow a_)] at q;cases q
   subst s;exact .edge n c j;cases p:b[e.on]? with
   |none=>rw[zG,p] at a;simp at a|some r=>rw[zG,p] at a;exact .trans (.edge n c j) (d e.on r p f a)
theorem bBj{md:Region.Mode}{ops:Array ik}:∀ (l:List ik) (a:List Nat),bSj md ops a->(∀ k o,l[k]?=some o->ops[a.length+k]?=some o)->bSj md ops (masks md l a)
 |[],_,h,_=>h|o::l,a,h,hl=>by
  refine bBj l _ (fun i m b k c=>?_) (fun k g c=>?_);rcases aFD i a.length with d|f|p;rw[aBD d] at b;exact h i m b k c;subst f;rw[aBi (dE _),aBa] at b;rw[aBN,Option.some.injEq] at b;subst b;exact aLy h (by simpa using hl 0 o rfl) _ 0 (fun e q=>Array.mem_toList_iff.1 q) (fun k c=>by simp at c) k c;rw[aBi a_] at b;have:i-a.length≠0:=a_
  cases j:i-a.length with
  |zero=>omega|succ n=>rw[j] at b;simp at b
  rw[gz];have:=hl (k+1) g (by simpa using c);simpa[aBH,aBS 1] using this
def meet(a b:List Nat):Bool:=a.any fun x=>b.any fun y=>bz x y
theorem aDn{a b:List Nat}{x:Nat}(h:x∈a)(k:x∈b):meet a b=true:=List.any_eq_true.2 ⟨x,h,List.any_eq_true.2 ⟨x,k,d_⟩⟩
def clash(p q:Option Nat×Out):Bool:=
 let a (p:Option Nat×Out):=p.1.toList;let b (p:Option Nat×Out):=p.2.wr.map (·.1)
 meet (a p) (a q)||meet (a p) q.2.rt||meet p.2.rt (a q)||meet (b p) (b q)||meet (b p) q.2.ro||meet p.2.ro (b q)
def aJj:List (Option Nat×Out)->List (Nat×Option Nat×Out)->List Nat->Bool
 |[],_,_=>true|_::_,_,[]=>false|p::l,seen,m::ms=>(seen.all fun q=>!(clash q.2 p)||m.testBit q.1)&&aJj l (seen++[(seen.length,p)]) ms
theorem aEu:∀ (l:List (Option Nat×Out)) (a:List (Nat×Option Nat×Out)) (g:List Nat),aJj l a g=true->(∀ (j:Nat) (q:Nat×Option Nat×Out),a[j]?=some q->q.1=j) ->
  ∀ j k p q,j<k->((a.map (·.2))++l)[j]?=some q->l[k-a.length]?=some p->a.length<=k->clash q p=true->∃ m,g[k-a.length]?=some m/\m.testBit j=true
 |[],_,_,_,_,j,k,p,q,_,_,e,_,_=>by simp at e|p0::l,a,[],h,_,_,_,_,_,_,_,_,_,_=>by cases h| p0::l,a,m::g,h,hs,j,k,p,q,hjk,hq,e,hk,hc=>by
  rw[aJj,zg] at h;rcases Nat.eq_or_lt_of_le hk with i|s;rw[<-i,aBa] at e ⊢
  obtain rfl:p0=p:=by simpa using e
  refine⟨m,rfl,?_⟩;rw[aBD (by rw[aAB];omega),aAg] at hq;cases b:a[j]? with
  |none=>rw[b] at hq;cases hq|some z=>
   rw[b] at hq;obtain rfl:z.2=q:=by simpa using hq
   have c:=List.all_eq_true.1 h.1 z (aCH b);rw[hc,hs j z b] at c;simpa using c
  have f:(a++[(a.length,p0)]).length=a.length+1:=d_
  have:=aEu l (a++[(a.length,p0)]) g h.2 (fun j q d=>by
   rcases aFD j a.length with c|c|c;rw[aBD c] at d;exact hs j q d;subst c;rw[aBi (dE _),aBa] at d
   obtain rfl:_=q:=by simpa using d
   rfl;rw[aBi a_] at d
   cases r:j-a.length with
   |zero=>omega|succ n=>rw[r] at d;simp at d) j k p q hjk (by simpa using hq) (by
    rw[f];rw[show k-a.length=(k-(a.length+1))+1 from a_] at e
    simpa using e) a_ hc
  rw[f] at this;obtain⟨o,c,t⟩:=this;exact⟨o,by rw[show k-a.length=(k-(a.length+1))+1 from a_];simpa using c,t⟩
def bRr(md:Region.Mode):List ik->Nat->Bool
 |[],_=>true|o::l,i=>(o.after.toList.all fun e=>match Region.binds md e with|true=>XN e.on i|false=>true)&&bRr md l (i+1)
theorem aMq{md:Region.Mode}:∀ (l:List ik) (i:Nat),bRr md l i=true->∀ k o,l[k]?=some o->∀ e∈o.after,Region.binds md e=true->e.on<i+k
 |[],_,_,k,o,a=>by simp at a| o0::l,i,h,k,o,a=>by
  rw[bRr,zg] at h;intro e b c
  match k with
  |0=>
   obtain rfl:o0=o:=by simpa using a
   have:=List.all_eq_true.1 h.1 e (Array.mem_toList_iff.2 b);rw[c] at this;have d:XN e.on i=true:=this;have f:e.on+1<=i:=by simpa[XN] using d
   omega
  |k+1=>have:=aMq l (i+1) h.2 k o (by simpa using a) e b c;omega
section
variable {P:ed} {ops:Array ik} {Q:uk->Act->jg}
def Gi(P:ed)(ops:Array ik)(Q:uk->Act->jg)(G:St->Act->jg)(c:Nat->ik->M):Prop:=
 ∀ i o s a w b,ops[i]?=some o->G s a w->(c i o).run none s=some b->(∀ p∈b.conds,p) ->
  ∀ K:Act->ae->Prop,(∀ e d,G (app o.dst b s) e d->K e d)->wpOp P ops Q i K a w
def Finds(G:St->Act->jg):Prop:=∀ s b a w,(∀ t,find s.t t=find b.t t)->(∀ x,find s.o x=find b.o x)->G s a w->G b a w
theorem wY{G:St->Act->jg}{c:Nat->ik->M}(f:Gi P ops Q G c) :
  ∀ (l:List ik) (i:Nat) (s e:St) (b:List (Option Nat×Out)) (a:Act) (w:ae),(∀ k o,l[k]?=some o->ops[i+k]?=some o)->uJ c i l s=some (b,e)->(∀ q∈b,∀ p∈q.2.conds,p)->G s a w ->
   (∀ j g,G e j g->Q .normal j g)->wpOps P ops Q (List.range' i l.length) a w
 |[],i,s,e,b,a,w,_,h,_,u,x=>by
  obtain⟨rfl,rfl⟩:[]=b/\s=e:=by simpa[uJ] using h
  exact x a w u
 | o::l,i,s,e,b,a,w,hl,h,hc,u,x=>by
  unfold uJ at h;cases m:(c i o).run none s with
  |none=>rw[m] at h;cases h| some out=>
   rw[m] at h;dsimp only at h;cases r:uJ c (i+1) l (app o.dst out s) with
   |none=>rw[r] at h;cases h|some p=>obtain⟨d,B⟩:=p;rw[r] at h;cases h;rw[We,List.range'_succ,wpOps_cons];refine f i o s a w out (by simpa using hl 0 o rfl) u m (fun p z=>hc _ aAw p z) _ (fun j g t=>?_);exact wY f l (i+1) _ e d j g (fun k y A=>by rw[aBH,aBS 1];exact hl (k+1) y (by simpa using A)) r (fun q n=>hc q (aAD _ n)) t x
theorem aVr{G:St->Act->jg}{a0:Nat->ik->M}(c0:Gi P ops Q G a0)(N:Finds G){y s':St}{outs:List (Option Nat×Out)}
  (a7:uJ a0 0 ops.toList y=some (outs,s')) (hc:∀ q∈outs,∀ p∈q.2.conds,p) (hb:bRr .any ops.toList 0=true) (c5:aJj outs [] (masks .any ops.toList [])=true)
  (hQ:∀ a' w',G s' a' w'->Q .normal a' w') :
  ∀ (C:Nat) (b:Array Bool) (a:Act) (w:ae),b.size=ops.size->(b.toList.countP (·==false))<=C ->
   (∀ i o,ops[i]?=some o->b.getD i false=true->∀ e∈o.after,Region.binds .any e=true->b.getD e.on false=true) ->
   G (merge (fun i=>b.getD i false) 0 outs y) a w->wpAny P .any ops Q C b a w:=by
 obtain⟨b0,a6,c6⟩:=aRt _ _ _ _ _ a7;have c1:outs.length=ops.size:=by simpa using b0
 have a4:=bBj (md:=.any) (ops:=ops) ops.toList [] (fun i m H=>by simp at H) (fun k o hk=>by simpa using hk)
 have Y:∀ (b:Array Bool),(∀ i o,ops[i]?=some o->b.getD i false=true->∀ e∈o.after,Region.binds .any e=true->b.getD e.on false=true)->∀ i k,Qz .any ops i k->b.getD i false=true->b.getD k false=true:=by
  intro b S i k h
  induction h with
  |edge K X hb=>intro H;exact S _ _ K H _ X hb|trans _ _ a1 b5=>intro H;exact b5 (a1 H)
 have a5:∀ (b:Array Bool) (i:Nat),(∀ i o,ops[i]?=some o->b.getD i false=true->∀ e∈o.after,Region.binds .any e=true->b.getD e.on false=true)->(∀ o,ops[i]?=some o->∀ e∈o.after,Region.binds .any e=true->b.getD e.on false=true)->∀ k,Qz .any ops i k->b.getD k false=true:=by
  intro b i S H k h
  induction h with
  |edge K X hb=>exact H _ K _ X hb|trans U h2 a1 _=>exact Y b S _ _ h2 (a1 H)
 have I:∀ j k q p,j<k->outs[j]?=some q->outs[k]?=some p->clash q p=true->Qz .any ops k j:=by intro j k q p c3 hq hp h;obtain⟨m,U,h2⟩:=aEu outs [] _ c5 (fun j q c=>by simp at c) j k p q c3 (by simpa using hq) (by simpa using hp) d_ h;exact a4 k m (by simpa using U) j h2
 have O:∀ (b:Array Bool) (a:Act) (w:ae),b.size=ops.size->Region.ready .any ops b=[]->G (merge (fun i=>b.getD i false) 0 outs y) a w->Q .normal a w:=by
  intro b a w E hr hg
  have Z:∀ n i,i<n->i<ops.size->b.getD i false=true:=by
   intro n
   induction n with
   |zero=>intro i H;omega| succ n ih=>
    intro i H b1;cases L:b.getD i false with
    |true=>rfl| false=>
     have:i∈Region.ready .any ops b:=mem_ready.2 ⟨by
      rw[aBL] at L ⊢;rw[aCF a_] at L ⊢
      exact L,ops[i],aCF b1,fun e X T=>?_⟩
     rw[hr] at this;cases this;have:=aMq ops.toList 0 hb i ops[i] (by simp[b1]) e X T;exact ih e.on a_ a_
  refine hQ a w (N _ _ a w (fun t=>?_) (fun x=>?_) hg);rw[a6]
  exact aIa outs 0 y y rfl (fun j p c _=>by
   have:j<outs.length:=(List.getElem?_eq_some_iff.1 c).1
   exact Z (0+j+1) (0+j) a_ a_)
  rw[a6]
  exact aId outs 0 y y rfl (fun j p c _=>by
   have:j<outs.length:=(List.getElem?_eq_some_iff.1 c).1
   exact Z (0+j+1) (0+j) a_ a_)
 intro C
 induction C with
 | zero=>
  intro b a w E b4 f hg
  have hr:Region.ready .any ops b=[]:=by
   cases b6:Region.ready .any ops b with
   |nil=>rfl| cons i l=>
    have H:i∈Region.ready .any ops b:=by rw[b6];exact aAw
    obtain⟨U,o,K,_⟩:=mem_ready.1 H;have F:i<b.size:=by rw[E];exact (Array.getElem?_eq_some_iff.1 K).1
    have:false∈b.toList:=by rw[aBL,aCF F] at U;have c7:b[i]=false:=U;rw[<-c7];simp
    have:=(List.countP_pos_iff (p:=(·==false))).2 ⟨false,this,rfl⟩;omega
  exact⟨hr,O b a w E hr hg⟩
 | succ C ih=>
  intro b a w E b4 f hg;refine⟨fun hr=>O b a w E hr hg,fun i H=>?_⟩;obtain⟨U,o,K,V⟩:=mem_ready.1 H;have F:i<b.size:=by rw[E];exact (Array.getElem?_eq_some_iff.1 K).1
  have d:b.getD i false=false:=by rw[aBL] at U ⊢;rw[aCF F] at U ⊢;exact U
  obtain⟨z,r,a8⟩:=c6 i o (by simpa using K);rw[mf] at a8;have a3:=a5 b i f (fun o' a9=>by rw[K] at a9;cases a9;exact V);have B:∀ j q,outs[j]?=some q->clash q (o.dst,z)=true->j<i->b.getD j false=true:=fun j q c hc s=>a3 j (I j i q _ s c r hc)
  have g:∀ j q,outs[j]?=some q->clash (o.dst,z) q=true->i<j->b.getD j false=false:=fun j q c hc u=>by
   cases L:b.getD j false with
   |false=>rfl|true=>have:=Y b f j i (I i j _ q u r c hc) L;rw[d] at this;cases this
  have a2:(a0 i o).run none (merge (fun j=>b.getD j false) 0 outs y)=some z:=by
   refine M.frame _ _ _ _ _ a8 (fun t ht=>?_) (fun x hx=>?_);refine aIa outs 0 y y rfl (fun j q c D=>?_);rw[mf];have J:t∈q.1.toList:=by unfold IV at D;rw[D];simp
   rcases aFD j i with h|h|h;rw[mi h];exact B j q c (by unfold clash;simp[aDn J ht]) h;subst h;rw[d];simp;rw[su a_];exact g j q c (by unfold clash;simp[aDn ht J]) h;refine aId outs 0 y y rfl (fun j q c D=>?_);rw[mf];obtain⟨pw,b7,rfl⟩:=D;have J:pw.1∈q.2.wr.map (·.1):=List.mem_map.2 ⟨pw,b7,rfl⟩;rcases aFD j i with h|h|h;rw[mi h];exact B j q c (by unfold clash;simp[aDn J hx]) h;subst h;rw[d];simp;rw[su a_];exact g j q c (by unfold clash;simp[aDn hx J]) h
  refine c0 i o _ a w z K hg a2 (hc _ (aCH r)) _ (fun a' w' c4=>?_);have W:∀ j,(b.setIfInBounds i true).getD j false=(if j=i then true else b.getD j false):=fun j=>by rw[aBL,aBL,Array.getElem?_setIfInBounds];by_cases u:i=j;subst u;simp[F];rw[ah u,ah (fun e=>u e.symm)]
  refine ih _ a' w' (by simpa using E) ?_ (fun j oj c L e X T=>?_) ?_
  ·have:b.toList.countP (·==false)=(b.setIfInBounds i true).toList.countP (·==false)+1:=by
    have L:b.toList=b.toList.take i++(false::b.toList.drop (i+1)):=by
     have hx:b.toList[i]'(by simpa using F)=false:=by rw[aBL,aCF F] at d;simpa using d
     rw[<-hx,List.getElem_cons_drop,aCY]
    have c2:(b.setIfInBounds i true).toList=b.toList.take i++(true::b.toList.drop (i+1)):=by rw[aFK,List.set_eq_take_append_cons_drop,au (by simpa using F)]
    rw[c2]
    conv=>lhs;rw[L]
    simp only[List.countP_append,List.countP_cons];simp;omega
   omega
  rw[W] at L ⊢;by_cases b3:e.on=i;rw[au b3];rw[ah b3];by_cases s:j=i;subst s;rw[K] at c;cases c;exact V e X T;rw[ah s] at L;exact f j oj c L e X T;have b2:(fun j=>(b.setIfInBounds i true).getD j false)=fun j=>if j=0+i then true else b.getD j false:=funext fun j=>by rw[W,mf]
  rw[b2];refine N _ _ a' w' (fun t=>?_) (fun x=>?_) c4;by_cases D:IV o.dst t;refine aIb outs 0 i y o.dst z r D (fun j q c u A=>?_);rw[mf];have m1:t∈o.dst.toList:=by unfold IV at D;rw[D];simp
  have m2:t∈q.1.toList:=by unfold IV at A;rw[A];simp
  exact g j q c (by unfold clash;simp[aDn m1 m2]) u;rw[aVg D];refine aIa outs 0 y y rfl (fun j q c A=>?_);rw[mf,mf];by_cases s:j=i;subst s;rw[r] at c;cases c;exact absurd A D;rw[ah s];by_cases D:Wy z x;refine aIc outs 0 i y o.dst z r D (fun j q c u A=>?_);rw[mf];obtain⟨p1,b9,e1⟩:=D;obtain⟨p2,b8,e2⟩:=A;have m1:x∈z.wr.map (·.1):=List.mem_map.2 ⟨p1,b9,e1⟩;have m2:x∈q.2.wr.map (·.1):=List.mem_map.2 ⟨p2,b8,e2⟩;exact g j q c (by unfold clash;simp[aDn m1 m2]) u;rw[aVi D];refine aId outs 0 y y rfl (fun j q c A=>?_);rw[mf,mf];by_cases s:j=i;subst s;rw[r] at c;cases c;exact absurd A D;rw[ah s]
def fP(a:Bool)(l:List ik)(outs:List (Option Nat×Out)):Bool:=match a with
 |true=>bRr .any l 0&&aJj outs [] (masks .any l [])|false=>true
theorem aQq{G:St->Act->jg}{g:Nat->ik->M}(h:Gi P ops Q G g)(e:Finds G)(f:∀ s a w,G s a w->G s a w.drew)(m:P.follows .mixedOrders=true)
  {y:Nat} {b:Bool} {l s':St} {outs:List (Option Nat×Out)} (d:uJ g 0 ops.toList l=some (outs,s')) (hc:∀ q∈outs,∀ p∈q.2.conds,p) (c:fP b ops.toList outs=true)
  {a:Act} {w:ae} (t:G l a w) (u:∀ x r,G s' x r->Q .normal x r):(Code.region y ops b).wp P Q a w:=by
 cases b with
 |false=>refine wp_region ?_;have:=wY h ops.toList 0 l s' outs a w (fun k o z=>by simpa using z) d hc t u;rwa [<-List.range_eq_range',nz] at this| true=>
  unfold fP at c;rw[zg] at c;refine wp_region_any m ?_;refine aVr h e d hc c.1 c.2 u ops.size _ a _ d_ (by simp;exact ry List.countP_le_length d_) (fun i o A n=>?_) ?_
  ·rw[aBL,aJZ] at n
   split at n<;>cases n
  ·rw[uO _ _ _ _ (fun j _=>by
    rw[aBL,aJZ]
    split<;>rfl)]
   exact f _ _ _ t
def gT:og->Prop
 |none=>True|some b=>b=true
def hblk:ag->Option Nat
 |.pointer (some a)=>some a.block|.slice (some a) _ _=>some a.block|_=>none
def Gx:Nat:=1000000
def EK(w:ae)(e n:Nat)(v:ag)(len:Nat)(xs:jl):Prop:=
 xs.length=len*n/\((v=.slice none 0 0/\len=0)\/∃ g cap cur t b,v=.slice (some ⟨g,0,none⟩) len cap/\w.heap[g]?=some (.cells cur t b) /\
  ((t=e/\b=(0,0))\/(XN e Gx=false/\cur.size<=b.1))/\len<=cap/\cap<=uu/\cur.size=cap*n/\cur.toList.take (len*n)=xs)
variable {w:ae} {e n len:Nat} {v:ag} {xs:jl}
theorem aAr{B:Nat}(h:w.ownsRow B e n v len xs):EK w e n v len xs:=⟨h.1,h.2.imp id (fun⟨g,cap,cur,d,_,c,b⟩=>⟨g,cap,cur,e,(0,0),d,c,.inl ⟨rfl,rfl⟩,b⟩)⟩
theorem EK.plain(h:EK w e n v len xs)(c:XN e Gx=true):w.ownsRow 0 e n v len xs:=by refine⟨h.1,h.2.imp id ?_⟩;rintro⟨g,cap,cur,t,j,i,f,b|b,d⟩;obtain⟨rfl,rfl⟩:=b;exact⟨g,cap,cur,i,x8 _,f,d⟩;rw[c] at b;cases b.1
theorem EK.range{g n0 k:Nat}(h:EK w e n (.slice (some ⟨g,0,none⟩) n0 k) len xs):w.rangeAt g 0 xs:=fun j u c=>by
 rcases h.2 with⟨d,_⟩|⟨l,cap,cur,t,i,d,f,_,_,_,_,b⟩;cases d;cases d;rw[mf,cell_of_row w g j cur t i f];rw[<-b,yf] at c
 split at c;simpa using c;cases c
theorem Reads.Ac(h:EK w e n v len xs):Reads w n v len xs:=by
 refine⟨h.1,?_⟩;rcases h.2 with⟨rfl,rfl⟩|⟨g,cap,cur,t,l,rfl,k,_,c,d,i,b⟩
 exact⟨none,0,rfl,dE _,x8 _,fun h=>absurd h a_⟩;refine⟨_,cap,rfl,c,d,fun _=>⟨g,0,rfl,fun j u f=>?_⟩⟩;exact h.range j u f
def pJ(C:Ctx)(hd:ag):oh->Prop
 |.box t l=>∃ g c,hd=kJ g/\eu C.w g t c/\RL C l c.toList|.arr e n len f=>∃ b,EK C.w e n hd len b/\∀ i,i<len->RL C (f i) ((b.drop (i*n)).take n)|.dead=>True|.dev _ _ _=>True
structure Dv where
 hd:ag
 O:je->Option u_
 S:Nat->Prop
 inv:je->(uy)->ae->Prop
 pan:je->(uy)->ae->List aBG->Prop
 one:hd.oneCell'=true
 AB:hblk hd=none
 notS:∀ l X w b,inv l X w->X b->¬S b
 grow:∀ l X Y w w',inv l X w->gq X w w'->(∀ b,Y b->X b\/(w.heap.size<=b/\b<w'.heap.size))->inv l Y w'
def Dv.non:Dv:=⟨.bool false,fun _=>none,Non,fun _ _ _=>False,fun _ _ _ _=>False,rfl,rfl,fun _ _ _ _ h=>h.elim,fun _ _ _ _ _ h=>h.elim⟩
structure o_ where
 w0:ae
 S:Nat->Prop
 ok0:Nat->Prop
 nt:Nat
 ext:Nat->Option ag
 dv:Dv
 gm:je->Prop
 X0:Nat->Prop
 ds:List Deferred
def o_.plain(w:ae)(ok0:uy)(b:Nat):o_:=⟨w,Non,ok0,b,fun _=>none,Dv.non,fun _=>False,Non,[]⟩
abbrev Env:=Nat->Option (Nat×ag)
def aP(A:o_)(w:ae)(env:Env):Ctx:={ w,ok:=fun b=>(A.ok0 b\/A.w0.heap.size<=b)/\∀ x c d,env x=some (c,d)->hblk d≠some b,env }
def ownB(A:o_)(env:Env)(b:Nat):Prop:=A.X0 b\/∃ x c d,env x=some (c,d)/\hblk d=some b
structure ig(A:o_)(s:St)(a:Act)(w:ae)(env:Env):Prop where
 iw:gq A.S A.w0 w
 size:a.tmps.size=A.nt
 dom:∀ x,find s.o x=none->env x=none
 lu:∀ x g l9 o,find s.o x=some (g,l9,o)->∃ hd,env x=some (l9,hd)/\(gT g->pJ (aP A w env) hd o)
 live:∀ x l9 hd b,env x=some (l9,hd)->hblk hd=some b->b<w.heap.size/\(A.w0.heap.size<=b\/A.S b/\aBT dx x=true)
 inj:∀ x y v1 h1 v2 h2 b,env x=some (v1,h1)->env y=some (v2,h2)->hblk h1=some b->hblk h2=some b->x=y
 tmps:∀ t g pv,find s.t t=some (g,pv)->gT g->∃ v,a.tmps[t]?=some v/\RV (aP A w env) pv v
 defers:a.defers=A.ds
 und:∀ t pv,find s.t t=some (some false,pv)->a.tmps[t]?=some dC
 pg:∀ x hd,A.ext x=some hd->aBT dx x=true/\At (aP A w env) x 0 (fun hd'=>hd'=hd)
 dev:∀ g l9 O gm l,find s.o dx=some (g,l9,.dev O gm l)->gT g->O=A.dv.O/\gm=A.gm/\A.dv.inv l (ownB A env) w
def qj(A:o_)(s:St)(a:Act)(w:ae):Prop:=∃ env,ig A s a w env
theorem pJ.Az{C C':Ctx}{hd:ag}{o:oh}(h:pJ C hd o)(d:C.Le C')(hb:∀ b,hblk hd=some b->b<C.w.heap.size->C'.w.heap[b]?=C.w.heap[b]?):pJ C' hd o:=by
 cases o with
 |dead=>trivial|dev O gm l=>trivial|box t l=>obtain⟨g,x,rfl,k,m⟩:=h;exact⟨g,x,rfl,(hb g rfl k.lt).trans k,m.le d⟩
 |arr e n len f=>obtain⟨p,k,m⟩:=h;refine⟨p,⟨k.1,?_⟩,fun i r=>(m i r).le d⟩;rcases k.2 with q|⟨g,cap,cur,t,u,rfl,j,c⟩;exact .inl q;exact .inr ⟨g,cap,cur,t,u,rfl,(hb g rfl (lt_of_heap j)).trans j,c⟩
variable {A:o_} {s:St} {a:Act} {w w':ae} {env:Env}
theorem bNf(d:Ext w w'):(aP A w env).Le (aP A w' env):=⟨d.size',fun b i f=>⟨f,d.block b i (fun h=>h)⟩,fun _ c g h=>⟨c,g,h,dE _,fun _=>rfl⟩⟩
theorem ig.ext(h:ig A s a w env)(he:Ext w w'):ig A s a w' env where
 iw:=h.iw.ext he
 size:=h.size
 dom:=h.dom
 lu:=fun x g l9 o hf=>by
  obtain⟨hd,h1,h2⟩:=h.lu x g l9 o hf
  exact⟨hd,h1,fun hg=>(h2 hg).Az (bNf he) (fun b _ hlt=>he.block b hlt (fun h=>h))⟩
 live:=fun x l9 hd b h1 h2=>⟨aAF (h.live x l9 hd b h1 h2).1 he.size',(h.live x l9 hd b h1 h2).2⟩
 inj:=h.inj
 tmps:=fun t g pv hf hg=>let ⟨v,h1,h2⟩:=h.tmps t g pv hf hg;⟨v,h1,h2.le (bNf he)⟩
 defers:=h.defers
 und:=h.und
 pg:=fun x hd hx=>⟨(h.pg x hd hx).1,(h.pg x hd hx).2.le (bNf he)⟩
 dev:=fun g l9 O gm l hf hg=>let ⟨h1,h2,h3⟩:=h.dev g l9 O gm l hf hg;⟨h1,h2,A.dv.grow _ _ _ _ _ h3 (Ext.iw he) (fun _ h=>.inl h)⟩
theorem qj.drew(h:qj A s a w):qj A s a w.drew:=let ⟨env,h⟩:=h;⟨env,h.ext (Ext.refl w).drew⟩
theorem aTw(A:o_):Finds (qj A):=fun _ _ _ _ f d ⟨env,h⟩=>⟨env,{
 iw:=h.iw,size:=h.size,dom:=fun x i=>h.dom x ((d x).trans i),lu:=fun x g b o c=>h.lu x g b o ((d x).trans c),live:=h.live,inj:=h.inj
 tmps:=fun t g pv c=>h.tmps t g pv ((f t).trans c),defers:=h.defers,und:=fun t pv c=>h.und t pv ((f t).trans c),pg:=h.pg,dev:=fun g b O gm l c=>h.dev g b O gm l ((d dx).trans c) }⟩
def Kq(d:Option Nat)(g:og)(pv:PV)(s:St):St:={ t:=(match d with|some d=>(d,g,pv)::s.t|none=>s.t),o:=s.o }
theorem ig.put(h:ig A s a w env)(d:Option Nat)(g:og)(pv:PV)(v:ag)(hd:∀ t,d=some t->t<A.nt)(m:gT g->RV (aP A w env) pv v)(o:g=some false->v=dC) :
  ig A (Kq d g pv s) (a.put d v) w env:=by
 cases d with
 |none=>exact { h with }
 |some d=>refine { iw:=h.iw,size:=by simpa[Act.put] using h.size,dom:=h.dom,lu:=h.lu,live:=h.live,inj:=h.inj,tmps:=fun t k b f j=>?_,defers:=h.defers,und:=fun t b f=>?_,pg:=h.pg,dev:=h.dev };have f:find ((d,g,pv)::s.t) t=some (k,b):=f;by_cases i:d=t;subst i;rw[aG] at f;cases f;refine⟨v,?_,m j⟩;have:=hd d rfl;simp[Act.put,h.size,this];rw[aF _ _ i] at f;obtain⟨l,q,p⟩:=h.tmps t k b f j;exact⟨l,by simp only[Act.put];rw[aKe i];exact q,p⟩;have c:find ((d,g,pv)::s.t) t=some (some false,b):=f;by_cases i:d=t;subst i;rw[aG] at c;cases c;have:=hd d rfl;rw[o rfl];simp[Act.put,h.size,this];rw[aF _ _ i] at c;simp only[Act.put];rw[aKe i];exact h.und t b c
def Ae(env:Env)(x l9:Nat)(hd:ag):Env:=fun y=>if y=x then some (l9,hd) else env y
theorem jA(env:Env)(x l9:Nat)(hd:ag):Ae env x l9 hd x=some (l9,hd):=au rfl
theorem lT{env:Env}{x l9:Nat}{hd:ag}{y:Nat}(h:y≠x):Ae env x l9 hd y=env y:=ah h
theorem ig.upd(h:ig A s a w env)(x:Nat)(g':og)(j:Nat)(q:ag)(V:oh)
  (Q:gq (fun k=>∃ c m,env x=some (c,m)/\hblk m=some k) w w')
  (hv:∀ c m,env x=some (c,m)->c<j\/(c=j/\q=m))
  (hb:∀ b,hblk q=some b->b<w'.heap.size/\(w.heap.size<=b\/∃ c m,env x=some (c,m)/\hblk m=some b))
  (ho:(aP A w env).Le (aP A w' (Ae env x j q))->gT g'->pJ (aP A w' (Ae env x j q)) q V)
  (W:gT g'->∀ O gm l,V=.dev O gm l->O=A.dv.O/\gm=A.gm/\A.dv.inv l (ownB A (Ae env x j q)) w':=by intro _ _ _ _ h;cases h) :
  ig A { s with o:=(x,g',j,V)::s.o } a w' (Ae env x j q)/\(aP A w env).Le (aP A w' (Ae env x j q)):=by
 have F:(aP A w env).Le (aP A w' (Ae env x j q)):=by
  refine⟨Q.size,fun b K J=>⟨⟨J.1,fun y c m f=>?_⟩,?_⟩,fun y c m f=>?_⟩;by_cases d:y=x;subst d;change Ae env y j q y=some (c,m) at f;rw[jA] at f;cases f;intro e;rcases (hb b e).2 with p|⟨c,m,p,r⟩;have:b<w.heap.size:=K;omega;exact J.2 y c m p r;rw[lT d] at f;exact J.2 y c m f;exact Q.block b K (fun⟨c,m,p,r⟩=>J.2 x c m p r)
  ·by_cases d:y=x
   ·subst d;refine⟨j,q,jA _ _ _ _,?_,fun e=>?_⟩
    ·rcases hv c m f with p|⟨p,_⟩<;>omega
    rcases hv c m f with p|⟨_,r⟩;omega;exact r
   exact⟨c,m,(lT d).trans f,dE _,fun _=>rfl⟩
 refine⟨?_,F⟩;refine { iw:=?_,size:=h.size,dom:=fun y f=>?_,lu:=fun y g c o G=>?_,live:=fun y c m b f D=>?_,inj:=fun y z N p U r b f P E H=>?_,tmps:=fun t g pv G S=>?_,defers:=h.defers,und:=h.und,pg:=fun y m f=>⟨(h.pg y m f).1,(h.pg y m f).2.le F⟩,dev:=fun g c O gm l G S=>?_ };refine h.iw.trans' Q (fun _ _ h=>h) (fun i hi ⟨c,m,p,r⟩=>?_);rcases (h.live x c m i p r).2 with L|L;omega;exact L.1
 by_cases d:x=y;subst d;rw[aG] at f;cases f;rw[aF _ _ d] at f;rw[lT (Ne.symm d)];exact h.dom y f;by_cases d:x=y;subst d;rw[aG] at G;cases G;exact⟨q,jA _ _ _ _,ho F⟩;rw[aF _ _ d] at G;obtain⟨m,p,r⟩:=h.lu y g c o G;refine⟨m,(lT (Ne.symm d)).trans p,fun S=>(r S).Az F (fun b D K=>Q.block b K (fun⟨u,B,L,I⟩=>d (h.inj x y u B c m b L p I D)))⟩;by_cases d:y=x;subst d;rw[jA] at f;cases f;refine⟨(hb b D).1,?_⟩;rcases (hb b D).2 with p|⟨u,B,p,r⟩;exact .inl (ry h.iw.size p);exact (h.live y u B b p r).2;rw[lT d] at f
 exact⟨aAF (h.live y c m b f D).1 Q.size,(h.live y c m b f D).2⟩;have T:∀ y N p,y≠x->env y=some (N,p)->hblk p=some b->hblk q=some b->False:=by intro y N p d f E H;rcases (hb b H).2 with L|⟨u,B,L,I⟩;have:=(h.live y N p b f E).1;omega;exact d (h.inj y x N p u B b f L E I)
 by_cases d:y=x;by_cases C:z=x;rw[d,C];subst d;rw[jA] at f;rw[lT C] at P;cases f;exact (T z U r C P H E).elim;by_cases C:z=x;subst C;rw[jA] at P;rw[lT d] at f;cases P;exact (T y N p d f E H).elim;rw[lT d] at f;rw[lT C] at P;exact h.inj y z N p U r b f P E H;obtain⟨v,p,r⟩:=h.tmps t g pv G S;exact⟨v,p,r.le F⟩;by_cases d:x=dx;subst d;rw[aG] at G;cases G;exact W S O gm l rfl;rw[aF _ _ d] at G;obtain⟨p,r,L⟩:=h.dev g c O gm l G S;refine⟨p,r,A.dv.grow _ _ _ _ _ L (Q.mono fun k _ ⟨c,m,e1,e2⟩=>.inr ⟨x,c,m,e1,e2⟩) (fun b Y=>?_)⟩;rcases Y with I|⟨y,U,B,I,h5⟩;exact .inl (.inl I)
 by_cases f:y=x;subst f;rw[jA] at I;cases I;rcases (hb b h5).2 with Z|⟨v3,X,Z,h7⟩;exact .inr ⟨Z,(hb b h5).1⟩;exact .inl (.inr ⟨y,v3,X,Z,h7⟩);rw[lT f] at I;exact .inl (.inr ⟨y,U,B,I,h5⟩)
theorem ig.new(h:ig A s a w env)(x:Nat)(j:og)(c:ag)(f:oh)(u:Ext w w')(hb:∀ b,hblk c=some b->b<w'.heap.size/\w.heap.size<=b)
  (y:(aP A w env).Le (aP A w' (Ae env x (fresh s x) c))->gT j->pJ (aP A w' (Ae env x (fresh s x) c)) c f)
  (k:gT j->∀ O gm l,f=.dev O gm l->O=A.dv.O/\gm=A.gm/\A.dv.inv l (ownB A (Ae env x (fresh s x) c)) w':=by intro _ _ _ _ h;cases h) :
  ig A { s with o:=(x,j,fresh s x,f)::s.o } a w' (Ae env x (fresh s x) c)/\(aP A w env).Le (aP A w' (Ae env x (fresh s x) c)):=by
 refine h.upd x j (fresh s x) c f u.iw (fun r C i=>.inl ?_) (fun b d=>⟨(hb b d).1,.inl (hb b d).2⟩) y k;unfold fresh;cases m:find s.o x with
 |none=>rw[h.dom x m] at i;cases i|some p=>obtain⟨g,q,t⟩:=p;obtain⟨z,B,_⟩:=h.lu x g q t m;rw[B] at i;cases i;exact aDB _
def appW(d:Option Nat)(g:og)(v:PV)(wr:List (Nat×og×Nat×oh))(s:St):St:=app d ⟨g,v,[],[],[],wr⟩ s
theorem M.TR:∀ (m:M) (f:og) (s:St) (F G:og->PV->Wr->Prop),m.ok f s F->(∀ g v wr,F g v wr->G g v wr)->m.ok f s G:=by
 intro m
 induction m with
 |ret v=>intro f s F G h c;exact c _ _ _ h|fail=>intro f s F G h c;exact h|need p k d=>intro f s F G h c;exact⟨h.1,d _ _ _ _ h.2 c⟩|tmp t k d=>intro f s F G h c;obtain⟨g,v,j,h⟩:=h;exact⟨g,v,j,d _ _ _ _ _ _ h c⟩
 |obj x k d=>intro f s F G h c;obtain⟨g,l,i,j,h⟩:=h;exact⟨g,l,i,j,d _ _ _ _ _ _ _ h c⟩
 |new x i k d=>intro f s F G h c;exact d _ _ _ _ _ h (fun _ _ _ h=>c _ _ _ h)|upd x l i k d=>intro f s F G h c;exact⟨h.1,d _ _ _ _ h.2 (fun _ _ _ h=>c _ _ _ h)⟩|gate b k d=>intro f s F G h c;exact⟨h.1,d _ _ _ _ h.2 c⟩
theorem bGb:∀ (m:M) (s:St) (F:og->PV->Wr->Prop),m.ok (some false) s F->∃ v wr,F (some false) v wr/\∀ p∈wr,∃ d,p=(p.1,some false,fresh s p.1,d):=by
 intro m
 induction m with
 |ret v=>intro s F h;exact⟨v,[],h,fun p f=>by cases f⟩|fail=>intro s F h;exact h.elim|need p k c=>intro s F h;exact c s F h.2|tmp t k c=>intro s F h;obtain⟨g,v,_,h⟩:=h;exact c g v s F h
 |obj x k c=>intro s F h;obtain⟨g,i,d,_,h⟩:=h;exact c g i d s F h
 | new x d k c=>
  intro s F h;obtain⟨v,wr,l,j⟩:=c _ s _ h
  exact⟨v,_,l,fun p f=>by
   rcases List.mem_cons.1 f with rfl|f
   exact⟨d,rfl⟩
   exact j p f⟩
 |upd x i d k c=>intro s F h;cases h.1|gate b k c=>intro s F h;cases h.1
def zW(wr:Wr):Wr:=wr.map fun p=>(p.1,some true,p.2.2)
theorem bOf:∀ (m:M) (s:St) (F:og->PV->Wr->Prop),m.ok (some true) s F->m.ok none s (fun g v wr=>g=none/\(∀ p∈wr,p.2.1=none)/\F (some true) v (zW wr)):=by
 intro m
 induction m with
 |ret v=>intro s F h;exact⟨rfl,fun p d=>(by cases d),h⟩|fail=>intro s F h;exact h.elim|need p k c=>intro s F h;exact⟨h.1 rfl,c s F h.2⟩|tmp t k c=>intro s F h;obtain⟨g,v,j,h⟩:=h;exact⟨g,v,j,c g v s F h⟩
 |obj x k c=>intro s F h;obtain⟨g,i,f,j,h⟩:=h;exact⟨g,i,f,j,c g i f s F h⟩
 |new x f k c=>
  intro s F h;show (k (fresh s x)).ok none s _;refine M.TR (k (fresh s x)) none s _ _ (c _ s _ h) (fun g v wr h=>⟨h.1,fun p d=>?_,h.2.2⟩);rcases List.mem_cons.1 d with rfl|d;rfl
  exact h.2.1 p d
 |upd x i f k c=>intro s F h;cases h.1|gate b k c=>intro s F h;cases h.1
theorem ig.aQQ:∀ (wr:List (Nat×og×Nat×oh)) (s:St) (env:Env),ig A s a w env->(∀ p∈wr,∃ t,p=(p.1,some false,fresh s p.1,t))->∃ c,ig A { s with o:=wr++s.o } a w c:=by
 intro wr
 induction wr with
 |nil=>intro s env h _;exact⟨env,h⟩| cons p wr U=>
  intro s env h H;obtain⟨c,D⟩:=U s env h (fun q f=>H q (aAD _ f));obtain⟨t,e⟩:=H p aAw;rw[e]
  have y:∀ d u,c p.1=some (d,u)->d<=fresh s p.1:=by
   intro d u i;cases B:find (wr++s.o) p.1 with
   |none=>rw[D.dom p.1 B] at i;cases i| some z=>
    obtain⟨g,P,T⟩:=z;obtain⟨j,C,_⟩:=D.lu p.1 g P T B;rw[C] at i;cases i;by_cases x:∃ q∈wr,q.1=p.1
    have:∀ (l:List (Nat×og×Nat×oh)),(∀ q∈l,∃ t,q=(q.1,some false,fresh s q.1,t))->(∃ q∈l,q.1=p.1)->∀ z,find (l++s.o) p.1=some z->z.2.1=fresh s p.1:=by
     intro l
     induction l with
     |nil=>intro _ h;obtain⟨q,f,_⟩:=h;cases f
     |cons q l G=>
      intro L I z E;obtain⟨S,O⟩:=L q aAw;by_cases f:q.1=p.1;rw[C_,O,f,aG] at E;cases E;rfl;rw[C_,O,aF _ _ f] at E;refine G (fun q f=>L q (aAD _ f)) ?_ z E;obtain⟨Q,k,N⟩:=I;rcases List.mem_cons.1 k with rfl|k;exact absurd N f
      exact⟨Q,k,N⟩
    have V:=this wr (fun q f=>H q (aAD _ f)) x _ B;exact Nat.le_of_eq V;rw[qJ _ _ (fun q f e=>x ⟨q,f,e⟩)] at B;unfold fresh;rw[B];exact Nat.le_succ _
  have K:=y;by_cases J:∃ u,c p.1=some (fresh s p.1,u);obtain⟨u,m⟩:=J;exact⟨_,(D.upd p.1 (some false) (fresh s p.1) u t (gq.refl _ _) (fun d j i=>by rw[m] at i;cases i;exact .inr ⟨rfl,rfl⟩) (fun b F=>⟨(D.live _ _ _ _ m F).1,.inr ⟨_,_,m,F⟩⟩) (fun _ r=>absurd r (by simp[gT])) (fun r=>absurd r (by simp[gT]))).1⟩
  exact⟨_,(D.upd p.1 (some false) (fresh s p.1) dC t (gq.refl _ _) (fun d j i=>.inl (by
   have:=y d j i;rcases Nat.lt_or_eq_of_le this with C|C;exact C
   exact absurd ⟨j,by rw[i,C]⟩ J)) (fun b F=>by simp[hblk,dC] at F) (fun _ r=>absurd r (by simp[gT])) (fun r=>absurd r (by simp[gT]))).1⟩
theorem bGk(l r:List (Nat×og×Nat×oh))(x:Nat):find (zW l++r) x=find (l++r) x\/∃ g q,find (l++r) x=some (g,q)/\find (zW l++r) x=some (some true,q):=by
 induction l with
 |nil=>exact .inl rfl|cons p l c=>by_cases b:p.1=x;refine .inr ⟨p.2.1,p.2.2,?_,?_⟩;rw[<-b];exact aG _ _ _;rw[<-b];exact aG _ _ _;have f:find (p::l++r) x=find (l++r) x:=aF _ _ b;have d:find (zW (p::l)++r) x=find (zW l++r) x:=aF _ _ b;rw[f,d];exact c
theorem qj.aIZ{d:Option Nat}{v:PV}{wr:Wr}(u:∀ p∈wr,p.2.1=none)(h:qj A (appW d none v wr s) a w):qj A (appW d (some true) v (zW wr) s) a w:=by
 obtain⟨env,h⟩:=h
 have r:∀ (x:Nat) (g:og) (b:Nat) (o:oh) (l:Wr),(∀ p∈l,p.2.1=none)->find (zW l++s.o) x=some (g,b,o)->find (l++s.o) x=some (g,b,o)\/(g=some true/\find (l++s.o) x=some (none,b,o)):=by
  intro x g b o l
  induction l with
  |nil=>intro _ m;exact .inl m|cons p l D=>
   intro B m;by_cases k:p.1=x;have j:find (zW (p::l)++s.o) x=some (some true,p.2.2):=by rw[<-k];exact aG _ _ _
   have i:find (p::l++s.o) x=some p.2:=by rw[<-k];exact aG _ _ _
   rw[j] at m;rw[i];have C:=B p aAw;obtain⟨I,L,J,K⟩:=p;cases m;dsimp only at C;subst C;exact .inr ⟨rfl,rfl⟩;have j:find (zW (p::l)++s.o) x=find (zW l++s.o) x:=aF _ _ k;have i:find (p::l++s.o) x=find (l++s.o) x:=aF _ _ k;rw[j] at m;rw[i];exact D (fun q E=>B q (aAD _ E)) m
 refine⟨env,{ iw:=h.iw,size:=h.size,dom:=fun x k=>?_,lu:=fun x g b o c=>?_,live:=h.live,inj:=h.inj,tmps:=fun t g pv c y=>?_,defers:=h.defers,und:=fun t pv c=>?_,pg:=h.pg,dev:=fun g b O gm l c y=>?_ }⟩;refine h.dom x ?_;rcases bGk wr s.o x with e|⟨g,q,_,i⟩;exact e.symm.trans k;have:find (zW wr++s.o) x=none:=k;rw[i] at this;cases this;have z:find (zW wr++s.o) x=some (g,b,o):=c;rcases r x g b o wr u z with e|⟨rfl,e⟩;exact h.lu x g b o e;obtain⟨F,H,G⟩:=h.lu x none b o e
 exact⟨F,H,fun _=>G trivial⟩;cases d with
 |none=>exact h.tmps t g pv c y|some d=>by_cases f:d=t;subst f;have j:find (appW (some d) (some true) v (zW wr) s).t d=some (some true,v):=aG _ _ _;have i:find (appW (some d) none v wr s).t d=some (none,v):=aG _ _ _;rw[j] at c;cases c;exact h.tmps d none v i trivial;have j:find (appW (some d) (some true) v (zW wr) s).t t=find s.t t:=aF _ _ f;have i:find (appW (some d) none v wr s).t t=find s.t t:=aF _ _ f;rw[j] at c;exact h.tmps t g pv (i.trans c) y
 cases d with
 |none=>exact h.und t pv c|some d=>by_cases f:d=t;subst f;have j:find (appW (some d) (some true) v (zW wr) s).t d=some (some true,v):=aG _ _ _;rw[j] at c;cases c;have j:find (appW (some d) (some true) v (zW wr) s).t t=find s.t t:=aF _ _ f;have i:find (appW (some d) none v wr s).t t=find s.t t:=aF _ _ f;rw[j] at c;exact h.und t pv (i.trans c)
 rcases r dx g b (.dev O gm l) wr u c with e|⟨rfl,e⟩;exact h.dev g b O gm l e y;exact h.dev none b O gm l e trivial
theorem ig.asked(h:ig A s a w env){O:ut}{gm:je->Prop}{l l':je}{g:og}(E:find s.o dx=some (g,0,.dev O gm l))(C:gT g)(sub:∀ b,A.dv.S b->A.S b)(old:∀ b,A.dv.S b->b<A.w0.heap.size/\¬A.ok0 b)
  (r:gq A.dv.S w w') (J:A.dv.inv l' (ownB A env) w'):ig A { s with o:=(dx,none,0,.dev O gm l')::s.o } a w' env/\(aP A w env).Le (aP A w' env):=by
 obtain⟨L,u,B⟩:=h.dev g 0 O gm l E C
 have k:(aP A w env).Le (aP A w' env):=⟨r.size,fun b m z=>⟨z,r.block b m (fun D=>by
  rcases z.1 with i|i;exact (old b D).2 i
  have:=(old b D).1;omega)⟩,fun x c f p=>⟨c,f,p,dE _,fun _=>rfl⟩⟩
 refine⟨{ iw:=h.iw.trans (r.mono fun b _ D=>sub b D),size:=h.size,dom:=fun x p=>?_,lu:=fun x I c o d=>?_,live:=fun x c f b i q=>⟨aAF (h.live x c f b i q).1 r.size,(h.live x c f b i q).2⟩,inj:=h.inj,tmps:=fun t g pv E C=>let ⟨v,i,q⟩:=h.tmps t g pv E C;⟨v,i,q.le k⟩,defers:=h.defers,und:=h.und,pg:=fun y f H=>⟨(h.pg y f H).1,(h.pg y f H).2.le k⟩,dev:=fun I c P G N d K=>?_ },k⟩;by_cases j:dx=x;subst j;rw[aG] at p;cases p;rw[aF _ _ j] at p;exact h.dom x p;by_cases j:dx=x;subst j;rw[aG] at d;cases d;obtain⟨f,i,_⟩:=h.lu dx g 0 _ E;exact⟨f,i,fun _=>trivial⟩;rw[aF _ _ j] at d;obtain⟨f,i,q⟩:=h.lu x I c o d;exact⟨f,i,fun C=>(q C).Az k (fun b F m=>r.block b m (A.dv.notS _ _ _ _ B (.inr ⟨x,c,f,i,F⟩)))⟩;rw[aG] at d;cases d;exact⟨L,u,J⟩
end
abbrev qc(v:ag):PV:=.w (.one (.lit v))
abbrev dw(n:Int):PV:=.w (.one (.lit (.int .i64 n)))
abbrev t_(b:Bool):PV:=.w (.one (.lit (.bool b)))
abbrev dm(c:PC):PV:=.w (.one c)
def PW.cells:PW->g_
 |.one c=>[c]|.agg l=>l
def ru(len:Nat)(f f':Nat->g_):Nat->g_:=fun i=>if i<len then f i else f' (i-len)
def oz(l:di):Nat->g_:=fun i=>[.lit (uh (l.getD i 0))]
def byteAt:g_->UInt8
 |[.lit (.int _ n)]=>xy n.toNat|_=>0
def isByte:g_->Bool
 |[.lit (.int .u8 n)]=>decide (0<=n)&&decide (n<256)|_=>false
def rowB(len:Nat)(f:Nat->g_):di:=(yz len).map fun i=>byteAt (f i)
def Gg(len:Nat)(f:Nat->g_):Prop:=∀ i,i<len->isByte (f i)=true
theorem aTm{l:g_}(h:isByte l=true):l=[.lit (uh (byteAt l))]:=by
 unfold isByte at h;split at h;rename_i n;rw[zg,decide_eq_true_eq,decide_eq_true_eq] at h;have:uh (byteAt [.lit (.int .u8 n)])=.int .u8 n:=by show gp .u8 (((xy n.toNat).toNat:Nat):Int)=.int .u8 n;rw[aJx (show n.toNat<256 by omega)];congr 1;omega
 rw[this];cases h
theorem RZ(b:UInt8):xy ((b.toNat:Int)).toNat=b:=d_
theorem aMl(l:di)(i:Nat):byteAt (oz l i)=l.getD i 0:=RZ _
theorem aLt(l:di)(i:Nat):isByte (oz l i)=true:=by show (decide (0<=(((l.getD i 0).toNat:Nat):Int))&&decide ((((l.getD i 0).toNat:Nat):Int)<256))=true;have:=(l.getD i 0).toNat_lt;rw[zg,decide_eq_true_eq,decide_eq_true_eq];omega
@[simp] theorem aDV(n:Nat)(l:di):Gg n (oz l):=fun i _=>aLt l i
theorem dP(n:Nat)(f:Nat->g_):(rowB n f).length=n:=by simp[rowB]
@[simp] theorem eP(l:di):rowB l.length (oz l)=l:=by apply aBR (dP _ _);intro i b a;simp only[rowB,aCI,aCA,aMl];rw[zG,zH a];rfl
theorem nD{n:Nat}{l:di}(h:l.length=n):rowB n (oz l)=l:=by subst h;exact eP l
@[simp] theorem aDW{a b:Nat}{f g:Nat->g_}:Gg (a+b) (ru a f g)↔Gg a f/\Gg b g:=by
 constructor;intro h
 refine⟨fun i c=>?_,fun i c=>?_⟩;have:=h i a_;unfold ru at this;rwa [au c] at this;have:=h (a+i) a_;unfold ru at this;rwa [ah a_,show a+i-a=i from a_] at this;rintro⟨e,d⟩ i c;unfold ru;split;exact e i qm;exact d _ a_
@[simp] theorem aGQ(a b:Nat)(f g:Nat->g_):rowB (a+b) (ru a f g)=rowB a f++rowB b g:=by
 apply aBR (by simp[dP]);intro i d c;rw[List.getElem_append];simp only[rowB,aCI,aCA,aAB,List.length_range];unfold ru
 split<;>rfl
theorem aGv{C:Ctx}{len:Nat}{f:Nat->g_}{vs:jl}(hl:vs.length=len*1)(h:∀ i,i<len->RL C (f i) ((vs.drop (i*1)).take 1))(hb:Gg len f):vs=(rowB len f).map uh:=by apply aBR (by simp[dP,hl]);intro i g j;have b:i<len:=a_;have d:=h i b;rw[aTm (hb i b)] at d;have c:=d.single;generalize e:(vs.drop (i*1)).take 1=q at c;cases c;have a:=congrArg (·[0]?) e;simp only[yf,aAk,aBq,aBK,aBN] at a;rw[au a_,zH g] at a;simp only[rowB,List.map_map,aCI,aCA,Function.comp];exact Option.some.inj a
section
variable (P:ed)
def ui(t:bu):Option Nat:=(P.info? t).map (·.size)
def jI(t:bu):og:=match P.underlying t with
 |some (.struct _)=>some true|some (.array _ _)=>some true|some _=>some false|none=>none
def D8(t:bu)(l:g_):Option PW:=match jI P t with
 |none=>none|some true=>some (.agg l)| some false=>match l with
  |[c]=>(match bz c.width 1 with
   |true=>some (.one c)|false=>none)
  |_=>none
def shapeOf:Nat->bu->Option (List Nat)
 |0,_=>none| d+1,t=>match P.underlying t with
  |some (.struct b)=>b.toList.foldr (fun f a=>match shapeOf d f.type,a with|some x,some y=>some (x++y)|_,_=>none) (some [])
  | some (.array n e)=>(match P.underlying e with
   |some (.int .u8)=>some [n]|_=>match shapeOf d e with
    |some x=>some (List.flatten (Pi n x))|none=>none)
  |some _=>some [0]|none=>none
def byteOf:ag->Option UInt8
 |.int .u8 n=>if n=((xy n.toNat).toNat:Int) then some (xy n.toNat) else none|_=>none
def kY:Nat->jl->Option di
 |0,_=>some []|n+1,v::l=>match byteOf v,kY n l with
  |some b,some bs=>some (b::bs)|_,_=>none
 |_+1,[]=>none
def pack:List Nat->jl->Option g_
 |[],[]=>some []|[],_::_=>none|0::sh,v::l=>if v.oneCell'=true then (match pack sh l with|some r=>some (.lit v::r)|none=>none) else none
 |0::_,[]=>none|(n+1)::sh,l=>match kY (n+1) l,pack sh (l.drop (n+1)) with
  |some bs,some r=>some (.bs (n+1) bs::r)|_,_=>none
def aGa(t:bu):Option g_:=match (P.info? t).bind (·.zero),shapeOf P 8 t with
 |some z,some a=>pack a z.cells.toList|_,_=>none
def splice:g_->Nat->g_->Option g_
 |l,0,m=>match CB l (widths m) with
  |some r=>some (m++r)|none=>none
 |[],_+1,_=>none|c::l,off+1,m=>if c.width<=off+1 then (match splice l (off+1-c.width) m with|some r=>some (c::r)|none=>none) else none
where
 CB:g_->Nat->Option g_
  |l,0=>some l
  |[],_+1=>none
  |c::l,n+1=>if c.width<=n+1 then CB l (n+1-c.width) else none
def AO:g_->Nat->Option (Nat×di)
 |.bs n l::_,0=>some (n,l)|_,0=>none|[],_+1=>none|c::l,off+1=>if c.width<=off+1 then AO l (off+1-c.width) else none
def bDr:g_->Nat->di->g_
 |.bs n _::l,0,m=>.bs n m::l|l,0,_=>l|[],_+1,_=>[]|c::l,off+1,m=>c::bDr l (off+1-c.width) m
def VR (t:bu):Option (Nat×Nat×Nat):=match P.underlying t with
 | some (.slice e)=>(match P.info? e with
  | some i=>(match i.zero with
   |some z=>(match bz z.cells.size i.size,XN 0 i.size,XN 0 i.bytes with
    |true,true,true=>some (e,i.size,i.bytes)|_,_,_=>none)
   |none=>none)
  |none=>none)
 |_=>none
def Ap(x:uA)(k:PV->M):M:=match x with
 |.tmp t=>.tmp t fun g v=>match g with
  |none=>k v|some b=>.need (b=true) (k v)
 |.const (.agg _)=>.fail|.const (.tuple _)=>.fail|.const v=>k (qc v)|.global g=>k (qc (.pointer (some ⟨g,0,none⟩)))|.func f=>k (qc (.func (.func f) #[] #[]))
def Z8(h:Prop)(x:uA)(k:PV->M):M:=match x with
 |.tmp t=>.tmp t fun g v=>match g with
  |none=>k v|some b=>.need (h->b=true) (k v)
 |.const (.agg _)=>.fail|.const (.tuple _)=>.fail|.const v=>k (qc v)|.global g=>k (qc (.pointer (some ⟨g,0,none⟩)))|.func f=>k (qc (.func (.func f) #[] #[]))
def bPe:List uA->(ji->M)->M
 |[],k=>k []|x::l,k=>Ap x fun v=>bPe l fun a=>k (v::a)
def aDl{a:Type}:Sem a->Option a
 |.pure v=>some v|.program k=>aDl (k P)|_=>none
def isLit:PV->Option ag
 |.w (.one (.lit v))=>some v|_=>none
def kL(g:og)(k:M):M:=match g with
 |none=>k|some b=>.need (b=true) k
abbrev Spec:=Nat->ji->M
abbrev Specs:=Nat->Option Spec
def SC(x:Option PW):M:=match x with
 |some x=>.ret (.w x)|none=>.fail
def Gm(x:Option ag):M:=match x with
 |some v=>(match v.oneCell' with
  |true=>.ret (qc v)|false=>.fail)
 |none=>.fail
def bIj(x:Option PW)(k:PW->M):M:=match x with
 |some x=>k x|none=>.fail
def LV:g_->Option (Nat×di)
 |[.bs n l]=>some (n,l)|_=>none
def G_ (t:bu) (p:PV) (k:PW->M):M:=match p with
 | .w (.one (.pt x a b))=>.obj x fun g c d=>kL g (match bz a c,d,ui P t with
  |true,.box _ l,some n=>(match tJ l b n with
   |some m=>bIj (D8 P t m) k|none=>.fail)
  |_,_,_=>.fail)
 | .w (.one (.pk x a b h))=>.obj x fun g c d=>kL g (match bz a c,d,jI P t with
  |true,.box _ l,some false=>(match AO l b with
   |some (n,bs)=>.need (h<n) (k (.one (.lit (uh (bs.getD h 0)))))|none=>.fail)
  |_,_,_=>.fail)
 | .w (.one (.pe x a n i j))=>.obj x fun g c d=>kL g (match bz a c,d,ui P t with
  |true,.arr _ o len f,some sz=>(match bz n o,tJ (f i) j sz with
   |true,some m=>.need (i<len) (bIj (D8 P t m) k)|_,_=>.fail)
  |_,_,_=>.fail)
 | .w (.one (.pf _ _ f i j))=>(match ui P t with
  | some sz=>(match LV (f i),bz sz 1,jI P t with
   |some (n,bs),true,some false=>.need (j<n) (k (.one (.lit (uh (bs.getD j 0)))))|_,_,_=>(match tJ (f i) j sz with
    |some m=>bIj (D8 P t m) k|none=>.fail))
  |none=>.fail)
 | .w (.one (.pa len f))=>(match P.underlying t with
  | some (.array n e)=>(match ui P t,ui P e with
   |some m,some 1=>(match bz m n with
    |true=>.need (n<=len/\Gg n f) (bIj (D8 P t [.bs n (rowB n f)]) k)|false=>.fail)
   |_,_=>.fail)
  |_=>.fail)
 |_=>.fail
def WJ(t:bu)(p:PV):M:=G_ P t p fun x=>.ret (.w x)
def bJa (t:bu) (p v:PV):M:=match v with
 | .w o=>(match ui P t with
  | some sz=>(match bz sz (widths o.cells) with
   | true=>(match p with
    | .w (.one (.pt x a c))=>.obj x fun g d h=>kL g (match bz a d,h with
     |true,.box bt l=>(match splice l c o.cells with
      |some l'=>.upd x d (.box bt l') (.ret .none)|none=>.fail)
     |_,_=>.fail)
    | .w (.one (.pk x a c k))=>.obj x fun g d h=>kL g (match bz a d,h,o with
     |true,.box bt l,.one (.lit (.int .u8 b))=>(match AO l c with
      |some (n,bs)=>.need (k<n/\0<=b/\b<256) (.upd x d (.box bt (bDr l c (bs.set k (xy b.toNat)))) (.ret .none))|none=>.fail)
     |_,_,_=>.fail)
    | .w (.one (.pe x a n i j))=>.obj x fun g d h=>kL g (match bz a d,h with
     |true,.arr e r len f=>(match bz n r,splice (f i) j o.cells with
      |true,some m=>.need (i<len) (.upd x d (.arr e n len (fun q=>if q=i then m else f q)) (.ret .none))|_,_=>.fail)
     |_,_=>.fail)
    |_=>.fail)
   |false=>.fail)
  |none=>.fail)
 |_=>.fail
def aDv (t:bu) (p:PV) (f:Nat):M:=match P.underlying t with
 | some (.struct d)=>(match d[f]? with
  | some b=>(match ui P b.type with
   |some (_+1)=>(match p with
    |.w (.one (.pt x a c))=>.ret (dm (.pt x a (c+b.offset)))|.w (.one (.pe x a n i j))=>.ret (dm (.pe x a n i (j+b.offset)))|.w (.one (.pf n len f i j))=>.ret (dm (.pf n len f i (j+b.offset)))|_=>.fail)
   |_=>.fail)
  |none=>.fail)
 |_=>.fail
def aDq (t:bu) (p:PV) (i:PV):M:=match isLit i with
 | some (.int _ i)=>(match P.underlying t with
  | some (.slice e)=>(match p with
   | .w (.one (.sl n len f))=>(match ui P e with
    |some c=>(match bz n c with
     |true=>.need (0<=i/\i<len) (.ret (dm (.pf n len f i.toNat 0)))|false=>.fail)
    |none=>.fail)
   | .w (.one (.ow x a n b len))=>(match ui P e with
    | some c=>(match bz n c with
     |true=>.obj x fun g d h=>kL g (match bz a d,h with
      |true,.arr _ _ _ _=>.need (0<=i/\i<len) (.ret (dm (.pe x a n (b+i.toNat) 0)))|_,_=>.fail)
     |false=>.fail)
    |none=>.fail)
   |_=>.fail)
  |some (.array n e)=>(match ui P e,p with
   |some 1,.w (.one (.pt x a b))=>.need (0<=i/\i<n) (.ret (dm (.pk x a b i.toNat)))|some 1,.w (.one (.pf k len f l j))=>.need (0<=i/\i<n) (.ret (dm (.pf k len f l (j+i.toNat))))|some (m+2),.w (.one (.pt x a b))=>.need (0<=i/\i<n) (.ret (dm (.pt x a (b+i.toNat*(m+2)))))|_,_=>.fail)
  |_=>.fail)
 |_=>.fail
def bOw (t:bu) (v:PV) (f:Nat):M:=match P.underlying t with
 | some (.struct b)=>(match b[f]? with
  | some a=>(match ui P a.type,v with
   |some n,.w (.agg l)=>(match tJ l a.offset n with
    |some m=>SC (D8 P a.type m)|none=>.fail)
   |_,_=>.fail)
  |none=>.fail)
 |_=>.fail
def aLz:List (Nat×Nat)->List (Nat×PV)->g_->Option g_
 |_,[],l=>some l| places,(i,v)::ps,l=>match v,places[i]? with
  |.w b,some (a,n)=>(match bz n (widths b.cells),splice l a b.cells with
   |true,some l'=>aLz places ps l'|_,_=>none)
  |_,_=>none
def bRl(t:bu)(vs:List (Nat×PV))(l:g_):M:=match P.underlying t with
 | some (.struct d)=>(match d.toList.mapM (fun f=>(P.info? f.type).map fun i=>(f.offset,i.size)) with
  |some a=>(match aLz a vs l with
   |some l'=>.ret (.w (.agg l'))|none=>.fail)
  |none=>.fail)
 | some (.array _ e)=>(match ui P e,l with
  |some 1,[.bs n bs]=>(match vs with
   |[]=>.ret (.w (.agg [.bs n bs]))|[(i,.w (.one (.lit (.int .u8 b))))]=>.need (i<n/\0<=b/\b<256) (.ret (.w (.agg [.bs n (bs.set i (xy b.toNat))])))|[(i,.w (.one (.lit (.int .u8 b)))),(j,.w (.one (.lit (.int .u8 c))))]=>.need (i<n/\j<n/\0<=b/\b<256/\0<=c/\c<256) (.ret (.w (.agg [.bs n ((bs.set i (xy b.toNat)).set j (xy c.toNat))])))|_=>.fail)
  |_,_=>.fail)
 |_=>.fail
def Zx(n:Nat):Nat->List (Nat×PV)->Option (List g_)
 |_,[]=>some []| k,(i,v)::ps=>match bz i k,v,Zx n (k+1) ps with
  |true,.w a,some r=>(match bz (widths a.cells) n with
   |true=>some (a.cells::r)|false=>none)
  |_,_,_=>none
def aBf(b:Nat)(t:bu)(len:Nat)(a:List (Nat×PV)):M:=match VR P t with
 |
  some (e,n,_)=>(match Zx n 0 a,bz a.length len,aBT (len*n) 16777216 with
  |some l,true,true=>.new b (.arr e n len (fun i=>l.getD i [])) fun v=>.ret (dm (.ow b v n 0 len))|_,_,_=>.fail)
 |none=>.fail
def Ht(d:Int)(x:Option PV)(k:Int->M):M:=match x with
 |none=>k d|some v=>(match isLit v with
  |some (.int _ i)=>k i|_=>.fail)
def bJj (t:bu) (p:PV) (d j:Option PV):M:=
 match P.underlying t with
 |some .string=>(match p with
  |.w (.one (.lit (.string b)))=>Ht 0 d fun l=>Ht (b.size:Int) j fun h=>.need (0<=l/\l<=h/\h<=(b.size:Int)) (.ret (qc (.string (b.extract l.toNat h.toNat))))|_=>.fail)
 | some (.slice e)=>(match p with
  | .w (.one (.sl n len f))=>(match ui P e with
   |some q=>(match bz n q with
    |true=>Ht 0 d fun l=>Ht len j fun h=>.need (0<=l/\l<=h/\h<=len) (.ret (dm (.sl n (h-l).toNat (fun i=>f (l.toNat+i)))))|false=>.fail)
   |none=>.fail)
  |_=>.fail)
 | some (.array n e)=>(match ui P e,p,d,j with
  | some 1,.w (.one (.pt x a c)),none,none=>.obj x fun g k o=>kL g (match bz a k,o with
   | true,.box _ l=>(match AO l c with
    |some (m,_)=>(match bz m n,aBT n 65536 with
     |true,true=>.ret (dm (.ob x a c n))|_,_=>.fail)
    |none=>.fail)
   |_,_=>.fail)
  |_,_,_,_=>.fail)
 |_=>.fail
def YO(t:bu)(v:PV):M:=match P.underlying t,v with
 |some (.slice _),.w (.one (.sl _ len _))=>.ret (dw len)|some (.slice _),.w (.one (.ow _ _ _ _ len))=>.ret (dw len)|some (.slice _),.w (.one (.ob _ _ _ len))=>.ret (dw len)|some (.slice _),.w (.one (.lit (.slice none 0 0)))=>.ret (dw 0)|some .string,.w (.one (.lit (.string s)))=>.ret (dw s.size)|_,_=>.fail
def J_(n:Nat)(v:PV)(k:Nat->(Nat->g_)->M):M:=match v with
 |.w (.one (.sl h len f))=>(match bz n h with
  |true=>k len f|false=>.fail)
 | .w (.one (.ow x b h a len))=>.obj x fun g c e=>kL g (match bz b c,bz n h,e with
  |true,true,.arr _ m d f=>(match bz n m with
   |true=>.need (a+len<=d) (k len (fun i=>f (a+i)))|false=>.fail)
  |_,_,_=>.fail)
 | .w (.one (.ob x b a len))=>.obj x fun g c e=>kL g (match bz b c,bz n 1,e with
  |true,true,.box _ l=>(match AO l a with
   |some (m,bs)=>.need (len<=m) (k len (fun i=>[.lit (uh (bs.getD i 0))]))|none=>.fail)
  |_,_,_=>.fail)
 |.w (.one (.lit (.slice none 0 0)))=>k 0 (fun _=>[])|_=>.fail
def Zt (v:PV) (k:di->M):M:=match v with
 |.w (.one (.sl n len f))=>(match bz n 1 with
  |true=>.need (Gg len f) (k (rowB len f))|false=>.fail)
 | .w (.one (.ow x a n b len))=>.obj x fun g c e=>kL g (match bz a c,bz n 1,bz b 0,e with
  |true,true,true,.arr _ m d f=>(match bz n m with
   |true=>.need (len<=d/\Gg len f) (k (rowB len f))|false=>.fail)
  |_,_,_,_=>.fail)
 | .w (.one (.ob x a b len))=>.obj x fun g c e=>kL g (match bz a c,e with
  | true,.box _ l=>(match AO l b with
   |some (m,bs)=>(match bz len m with
    |true=>k bs|false=>.fail)
   |none=>.fail)
  |_,_=>.fail)
 |.w (.one (.lit (.slice none 0 0)))=>k []|_=>.fail
def aZt (i:Nat) (t:bu) (s x:PV):M:=match VR P t with
 |
  some (e,n,c)=>(match s with
  | .w (.one (.ow y b o d len))=>.obj y fun g j l=>kL g (match bz b j,bz n o,bz d 0,l with
   |true,true,true,.arr p m a f=>(match bz n m,bz e p&&XN e Gx with
    |true,true=>.need (len=a) (J_ n x fun k h=>.need ((a+k)*c<=140737488355328) (.upd y (b+1) (.arr e n (a+k) (ru a f h)) (.ret (dm (.ow y (b+1) n 0 (a+k))))))|_,_=>.fail)
   |_,_,_,_=>.fail)
  |.w (.one (.lit (.slice none 0 0)))=>J_ n x fun k h=>.need (k*c<=140737488355328) (.new i (.arr e n k h) fun v=>.ret (dm (.ow i v n 0 k)))|_=>.fail)
 |none=>.fail
def u8z(e:bu):Bool:=match P.info? e with
 |some i=>(match i.zero with
  |some (.int .u8 0)=>true|_=>false)
 |none=>false
def F9(n:Nat):jy:=⟨(Pi n (0:UInt8)).toArray⟩
def bDc(e:bu)(s:PV)(b:jy):M:=match s with
 | .w (.one (.ow y c j d len))=>.obj y fun g h i=>kL g (match bz c h,bz 1 j,bz d 0,i with
  |true,true,true,.arr k m a f=>(match bz 1 m,bz e k&&XN e Gx,u8z P e with
   |true,true,true=>.need (len=a/\a+b.size<=140737488355328) (.upd y (c+1) (.arr e 1 (a+b.size) (ru a f (oz b.data.toList))) (.ret (dm (.ow y (c+1) 1 0 (a+b.size)))))|_,_,_=>.fail)
  |_,_,_,_=>.fail)
 |_=>.fail
def aZu(_nm:Nat)(t u:bu)(s x:PV):M:=match VR P t,P.underlying u,x with
 |some (e,1,1),some .string,.w (.one (.lit (.string b)))=>bDc P e s b|some (e,1,1),some (.int _),.w (.one (.lit (.int .i64 n)))=>(match P.underlying 9 with
  |some .string=>.need (0<=n) (bDc P e s (F9 n.toNat))|_=>.fail)
 |_,_,_=>.fail
def XX(r:Option u_):PV:=.w (.agg [.lit (.int .i64 (r.getD ⟨0,aC⟩).val),.lit (.string (r.getD ⟨0,aC⟩).bytes)])
def aKL(c:Acc):M:=.obj dx fun g a b=>kL g (match bz a 0,b with
 |true,.dev O gm l=>.need (O (l++[c])=none->gm (l++[c])) (.upd dx 0 (.dev O gm (l++[c])) (.ret (XX (O (l++[c])))))|_,_=>.fail)
def doM(xs:ji):M:=match xs with
 |[.w (.agg [.lit (.int .i64 k),.lit (.int .i64 b),.lit (.int .i64 c),.lit (.string x)])]=>(match decide (k = -1) with
  |true=>.fail|false=>aKL ⟨k,b,c,x⟩)
 |_=>.fail
def Q8(G:Specs)(b:Nat)(e:PV)(xs:ji):M:=match e with
 |.w (.one .dv)=>doM xs| .w (.one (.lit (.func (.func f) first cap)))=>(match first.toList,cap.toList,G f with
  |[],[],some a=>a b xs|[.agg d],[],some a=>(match d.toList.all (·.oneCell') with
   |true=>a b (.w (.agg (d.toList.map .lit))::xs)|false=>.fail)
  |_,_,_=>.fail)
 |.w (.one (.fn (.func f) first cap))=>(match G f,first.all (fun c=>bz c.width 1),cap.all (fun c=>bz c.width 1) with
  |some a,true,true=>a b (first.map dm++xs++cap.map dm)
  |_,_,_=>.fail)
 |_=>.fail
def aTf:g_->Option jl
 |[]=>some []|.lit v::l=>(match aTf l with
  |some r=>some (v::r)|none=>none)
 |_::_=>none
def bNd:ji->Option jl
 |[.w (.agg l)]=>aTf l|_=>none
def SS(x:PV):Option PC:=match x with
 |.w (.one c)=>some c|_=>none
def IC:ji->Option g_
 |[]=>some []|v::l=>match SS v,IC l with
  |some c,some r=>some (c::r)|_,_=>none
def Io:PV->Nat->Option PW
 |.o7 l,i=>l[i]?|_,_=>none
def aPn:List (Nat×uA)->(List (Nat×PV)->M)->M
 |[],k=>k []|(i,x)::l,k=>Ap x fun v=>aPn l fun a=>k ((i,v)::a)
def Oz(x:Option uA)(k:Option PV->M):M:=match x with
 |none=>k none|some x=>Ap x fun v=>k (some v)
def eqT:Nat->bu->g_->g_->og
 |0,_,_,_=>none| d + 1,t,l,m=>match P.underlying t with
  |some (.int _)=>(match l,m with
   |[.lit (.int k a)],[.lit (.int i b)]=>if k=i then some (a==b) else none|_,_=>none)
  |some .string=>(match l,m with
   |[.lit (.string a)],[.lit (.string b)]=>some (a.toList==b.toList)|_,_=>none)
  |some .bool=>(match l,m with
   |[.lit (.bool a)],[.lit (.bool b)]=>some (a==b)|_,_=>none)
  | some (.array n e)=>(match P.underlying e,ui P e,l,m with
   |some (.int .u8),some 1,[.bs h a],[.bs g b]=>(match bz n h,bz n g with
    |true,true=>some (a==b)|_,_=>none)
   |_,_,_,_=>none)
  | some (.struct j)=>(match P.stoodInHeld t with
   | false=>j.toList.foldr (fun f c=>match c,f.name != "_",ui P f.type with
    | some r,true,some n=>(match tJ l f.offset n,tJ m f.offset n with
     |some x,some y=>(match D8 P f.type x,D8 P f.type y,eqT d f.type x y with
      |some _,some _,some q=>some (q&&r)|_,_,_=>none)
     |_,_=>none)
    |_,_,_=>none) (some true)
   |true=>none)
  |_=>none
def bBx(t:bu)(k:M):M:=match P.underlying t with
 |some (.array _ _)=>(match P.eqGuardType P.depth t with|false=>k|true=>.fail)
 |_=>.need (P.eqGuardType P.depth t=false) k
def ZV(op:BinOp)(t:bu)(x y:uA)(a b:PV):M:=match a,b with
 |.w (.one (.lit d)),.w (.one (.lit c))=>(match op,d,c with
  |.quo,.int k m,.int e n=>if k=e then .need (n≠0) (.ret (qc (.int k (k.wrap (m.tdiv n))))) else .fail
  |.rem,.int k m,.int e n=>if k=e then .need (n≠0) (.ret (qc (.int k (m.tmod n)))) else .fail
  |.shl,.int k m,.int _ n=>.need (0<=n) (.ret (qc (.int k (k.wrap (m*2 ^ (min n.toNat k.bits))))))
  |.shr,.int k m,.int _ n=>.need (0<=n) (.ret (qc (.int k (m.fdiv (2 ^ (min n.toNat k.bits))))))
  |.add,.string m,.string n=>.need ((m.size+n.size:Nat)<=9223372036854775807) (.ret (qc (.string (m++n))))
  |op,d,c=>Gm (aDl P (do eqGuard op t x y d c;binOp op t d c)))
 |.w (.agg l),.w (.agg m)=>(match op,eqT P 8 t l m,jI P t with
  |.eql,some r,some true=>bBx P t (.ret (t_ r))
  |.neq,some r,some true=>bBx P t (.ret (t_ (!r)))
  |_,_,_=>.fail)
 |.w (.one (.sl _ len _)),.w (.one (.lit (.slice none 0 0)))=>(match op,P.underlying t with
  |.eql,some (.slice _)=>.need (0<len) (.ret (t_ false))
  |.neq,some (.slice _)=>.need (0<len) (.ret (t_ true))
  |_,_=>.fail)
 |_,_=>.fail
def Vw(c a b:uA):M:=Ap c fun d=>match d with
 |.w (.one (.lit (.bool h)))=>Z8 (h=true) a fun f=>Z8 (h=false) b fun e=>(match f,e with
  |.w (.one (.lit (.bool x))),.w (.one (.lit (.bool y)))=>.ret (t_ (bif h then x else y))|_,_=>.fail)
 |_=>.fail
def TF:Nat:=0
def Px(own:Bool)(a:Nat)(src dst:bu)(v:PV):M:=match P.underlying src,P.underlying dst with
 | some .string,some (.slice e)=>(match P.underlying e,v with
  |some (.int .u8),.w (.one (.lit (.string b)))=>(match own with
   |false=>.need (b.size<=9223372036854775807) (.ret (dm (.sl 1 b.size (oz b.data.toList))))|true=>.need (b.size<=9223372036854775807) (.new a (.arr Gx 1 b.size (oz b.data.toList)) fun v=>.ret (dm (.ow a v 1 0 b.size))))
  |_,_=>.fail)
 |some (.slice e),some .string=>(match P.underlying e with
  |some (.int .u8)=>Zt v fun l=>.ret (qc (.string ⟨l.toArray⟩))|_=>.fail)
 |_,_=>(match isLit v with
  |some u=>Gm (aDl P (convert src dst u))|none=>.fail)
def N_(b:Nat)(t:bu)(l c:PV):M:=match VR P t,isLit l,isLit c with
 |some (e,n,a),some (.int _ l),some (.int _ c)=>(match aGa P e with
  |some z=>.need (0<=l/\l<=c/\(a:Int)*c<=140737488355328) (.new b (.arr e n l.toNat (fun _=>z)) fun v=>.ret (dm (.ow b v n 0 l.toNat)))|none=>.fail)
 |_,_,_=>.fail
def ZL(k:Nat)(f f':Nat->g_):Nat->g_:=fun i=>if i<k then f' i else f i
def Pq(t:bu)(x y:PV):M:=match VR P t,x with
 | some (e,n,_),.w (.one (.ow z b i c len))=>.obj z fun g d h=>kL g (match bz b d,bz n i,bz c 0,h with
  |true,true,true,.arr l m a f=>(match bz n m,bz e l&&XN e Gx with
   |true,true=>.need (len=a) (J_ n y fun k j=>.upd z b (.arr e n a (ZL (min k a) f j)) (.ret (dw (min k a:Nat))))|_,_=>.fail)
  |_,_,_,_=>.fail)
 |_,_=>.fail
def bNx:PV->Bool
 |.w (.one (.pt _ _ _))=>true|.w (.one (.pk _ _ _ _))=>true|.w (.one (.pe _ _ _ _ _))=>true|.w (.one (.pf _ _ _ _ _))=>true|.w (.one (.pa _ _))=>true|_=>false
def aQd(t:bu)(v:PV):M:=match P.underlying t,v with
 |some (.array n e),.w (.one (.sl k len f))=>(match ui P e,bz k 1 with
  |some 1,true=>.need (n<=len/\0<len) (.ret (dm (.pa len f)))|_,_=>.fail)
 |_,_=>.fail
def Y6(a b:PV):M:=match a,b with
 |.w (.one (.lit (.int k m))),.w (.one (.lit (.int c n)))=>if k=c then .ret (qc (.int k (min m n))) else .fail|_,_=>.fail
def YD(a b:PV):M:=match a,b with
 |.w (.one (.lit (.int k m))),.w (.one (.lit (.int c n)))=>if k=c then .ret (qc (.int k (max m n))) else .fail|_,_=>.fail
def body(G:Specs)(nm:Nat)(o:ik):M:=match o.op with
 |.move x=>Ap x fun v=>.ret v|.assign x=>Ap x fun v=>.ret v|.pick c a b=>Vw c a b|.alloc t=>(match aGa P t with
  |some l=>.new nm (.box t l) fun v=>.ret (dm (.pt nm v 0))|none=>.fail)
 | .box t x=>Ap x fun v=>(match v,ui P t with
  |.w pw,some n=>(match bz n (widths pw.cells) with
   |true=>.new nm (.box t pw.cells) fun v=>.ret (dm (.pt nm v 0))|false=>.fail)
  |_,_=>.fail)
 |.load t p=>Ap p fun p=>WJ P t p|.store t p v=>Ap p fun p=>Ap v fun v=>bJa P t p v|.fieldAddr t p f=>Ap p fun p=>aDv P t p f|.indexAddr t p i=>Ap p fun p=>Ap i fun i=>aDq P t p i|.field t v f=>Ap v fun v=>bOw P t v f|.extract v i=>Ap v fun v=>SC (Io v i)|.build t ps=>aPn ps.toList fun vs=>(match aGa P t with
  |some l=>bRl P t vs l|none=>.fail)
 |.buildSlice t n ps=>aPn ps.toList fun vs=>aBf P nm t n vs|.slice t p lo hi none=>Ap p fun p=>Oz lo fun lo=>Oz hi fun hi=>bJj P t p lo hi|.binOp op t x y _=>Ap x fun a=>Ap y fun b=>ZV P op t x y a b|.unOp op _ x=>Ap x fun a=>(match isLit a with
  |some v=>Gm (aDl P (Op.unary op v))|none=>.fail)
 |.convert src dst x=>Ap x fun a=>Px P (G TF).isSome nm src dst a|.makeSlice t l c=>Ap l fun l=>Ap c fun c=>N_ P nm t l c| .call { callee:=.builtin .copy,args,argTypes }=>(match args.toList,argTypes.toList with
  |[x,y],[t,t']=>(match bz t t' with
   |true=>Ap x fun x=>Ap y fun y=>Pq P t x y|false=>.fail)
  |_,_=>.fail)
 |.nilCheck x=>Ap x fun v=>(match bNx v with
  |true=>.ret v|false=>.fail)
 |.sliceToArrayPointer t x=>Ap x fun v=>aQd P t v|.call { callee:=.builtin .min,args,.. }=>(match args.toList with
  |[x,y]=>Ap x fun x=>Ap y fun y=>Y6 x y|_=>.fail)
 |.call { callee:=.builtin .max,args,.. }=>(match args.toList with
  |[x,y]=>Ap x fun x=>Ap y fun y=>YD x y|_=>.fail)
 | .makeFunc fn first cap=>bPe first.toList fun fs=>bPe cap.toList fun cs=>(match IC fs,IC cs with
  |some fs,some cs=>.ret (dm (.fn fn fs cs))|none,some []=>(match bNd fs with
   |some l=>.ret (qc (.func fn #[.agg l.toArray] #[]))|none=>.fail)
  |_,_=>.fail)
 |.call { callee:=.value f,args,.. }=>Ap f fun fv=>bPe args.toList fun xs=>Q8 G nm fv xs|.call { callee:=.builtin .len,args,argTypes }=>(match args.toList,argTypes.toList with
  |[x],[t]=>Ap x fun v=>YO P t v|_,_=>.fail)
 | .call { callee:=.builtin .append,args,argTypes }=>(match args.toList,argTypes.toList with
  |[s,x],[t,t']=>(match bz t t' with
   |true=>Ap s fun s=>Ap x fun x=>aZt P nm t s x|false=>Ap s fun s=>Ap x fun x=>aZu P nm t t' s x)
  |_,_=>.fail)
 |_=>.fail
def SE:List ResultVar->(List PW->M)->M
 |[],k=>k []|.tmp t::l,k=>Ap (.tmp t) fun v=>(match v with
  |.w x=>SE l fun b=>k (x::b)|_=>.fail)
 |.cell a t::l,k=>Ap (.tmp a) fun p=>G_ P t p fun x=>SE l fun b=>k (x::b)
def AQ(rs:Array ResultVar):M:=SE P rs.toList fun a=>(match a with
 |[x]=>.ret (.w x)|a=>.ret (.o7 a))
def Kw(a b:Bool):Bool:=match a with
 |true=>b|false=>!b
def rM(G:Specs)(rid:Nat)(ops:List ik)(i:Nat)(o:ik):M:=match o.guard with
 |none=>body P G (rid*1000+i) o| some (j,pol)=>(match (ops[j]?).bind (·.dst) with
  |some tj=>.tmp tj fun g v=>(match g,v with
   |none,.w (.one (.lit (.bool b)))=>.gate (Kw pol b) (body P G (rid*1000+i) o)|some b0,.w (.one (.lit (.bool b)))=>.gate (b0&&Kw pol b) (body P G (rid*1000+i) o)|_,_=>.fail)
  |none=>.fail)
end
theorem iy{a b:Nat}(h:bz a b=true):a=b:=Nat.eq_of_beq_eq_true h
section
variable {P:ed} {A:o_} {s:St} {a:Act} {w:ae} {env:Env}
def Fin(A:o_)(s:St)(a:Act)(o:ik)(K:Act->jg)(F:og->PV->Wr->Prop):Prop:=∀ v wr c d b,F none v wr->ig A { s with o:=wr++s.o } a d b->RV (aP A d b) v c->K (a.put o.dst c) d
theorem Fin.same{o:ik}{K:Act->jg}{F:og->PV->Wr->Prop}(c:Fin A s a o K F)(h:ig A s a w env){v:PV}{val:ag}(d:F none v [])(b:RV (aP A w env) v val):K (a.put o.dst val) w:=c v [] val w env d h b
theorem iR(h:ig A s a w env){x:uA}{k:PV->M}{F:og->PV->Wr->Prop}(c:(Ap x k).ok none s F):∃ pv,RV (aP A w env) pv (a.eval x)/\(k pv).ok none s F:=by
 cases x with
 | tmp t=>
  obtain⟨g,v,l,c⟩:=c;have d:gT g->∃ pv,RV (aP A w env) pv (a.eval (.tmp t))/\pv=v:=fun j=>by obtain⟨i,e,m⟩:=h.tmps t g v l j;refine⟨v,?_,rfl⟩;simp only[Act.eval];rw[aBL,e];exact m
  cases g with
  |none=>obtain⟨pv,e,rfl⟩:=d trivial;exact⟨pv,e,c⟩
  |some b=>obtain⟨pv,e,rfl⟩:=d c.1;exact⟨pv,e,c.2⟩
 |const v=>cases v<;>first|exact c.elim|exact⟨_,.w (.one (.lit rfl)),c⟩
 |global g=>exact⟨_,.w (.one (.lit rfl)),c⟩|func f=>exact⟨_,.w (.one (.lit rfl)),c⟩
theorem bPd(h:ig A s a w env){p:Prop}{x:uA}{k:PV->M}{F:og->PV->Wr->Prop}(c:(Z8 p x k).ok none s F):∃ pv,(p->RV (aP A w env) pv (a.eval x))/\(k pv).ok none s F:=by
 cases x with
 | tmp t=>
  obtain⟨g,v,m,c⟩:=c;have d:gT g->∃ pv,RV (aP A w env) pv (a.eval (.tmp t))/\pv=v:=fun l=>by obtain⟨i,e,n⟩:=h.tmps t g v m l;refine⟨v,?_,rfl⟩;simp only[Act.eval];rw[aBL,e];exact n
  cases g with
  |none=>obtain⟨pv,e,rfl⟩:=d trivial;exact⟨pv,fun _=>e,c⟩
  |some b=>refine⟨v,fun j=>?_,c.2⟩;obtain⟨pv,e,rfl⟩:=d (c.1 j);exact e
 |const v=>cases v<;>first|exact c.elim|exact⟨_,fun _=>.w (.one (.lit rfl)),c⟩
 |global g=>exact⟨_,fun _=>.w (.one (.lit rfl)),c⟩|func f=>exact⟨_,fun _=>.w (.one (.lit rfl)),c⟩
theorem dZ{g:og}{k:M}{F:og->PV->Wr->Prop}(h:(kL g k).ok none s F):gT g/\k.ok none s F:=by
 cases g with
 |none=>exact⟨trivial,h⟩|some b=>exact h
theorem kX(h:ig A s a w env){x:Nat}{g:og}{c:Nat}{ob:oh}(e:find s.o x=some (g,c,ob))(d:gT g):∃ b,env x=some (c,b)/\pJ (aP A w env) b ob:=by obtain⟨b,i,f⟩:=h.lu x g c ob e;exact⟨b,i,f d⟩
theorem At.now{C:Ctx}{x l9:Nat}{p:ag->Prop}(h:At C x l9 p){hd:ag}(c:C.env x=some (l9,hd)):p hd:=by obtain⟨f,d,b,_,e⟩:=h;rw[c] at b;cases b;exact e rfl
theorem bKn{x:Option PW}{F:og->PV->Wr->Prop}(h:(SC x).ok none s F):∃ b,x=some b/\F none (.w b) []:=by
 cases x with
 |none=>exact h.elim|some b=>exact⟨b,rfl,h⟩
theorem bMm{C:Ctx}{t:bu}{m:g_}{g:PW}{xs:jl}(d:D8 P t m=some g)(hr:RL C m xs) :
  (jI P t=some true/\RW C g (.agg xs.toArray))\/(jI P t=some false/\∃ v,xs=[v]/\v.oneCell'=true/\RW C g v):=by
 unfold D8 at d;cases j:jI P t with
 |none=>rw[j] at d;cases d| some b=>
  rw[j] at d;cases b with
  |true=>cases d;exact .inl ⟨rfl,.agg (by simpa using hr)⟩| false=>
   dsimp only at d;refine .inr ⟨rfl,?_⟩
   match m,d,hr with
   | [c],d,hr=>
    dsimp only at d;cases h:bz c.width 1 with
    |false=>rw[h] at d;cases d| true=>
     rw[h] at d;cases d;cases hr with
     |cons e k=>
      cases k;have i:=e.width;rw[iy h] at i;rename_i f
      match f,i,e with
      |[v],_,e=>exact⟨v,d_,e.ones v d_,.one e⟩
theorem aGw{t:bu}(h:jI P t=some true):∃ d,P.underlying t=some d/\d.isRow=true:=by unfold jI at h;split at h;exact⟨_,by assumption,rfl⟩;exact⟨_,by assumption,rfl⟩;cases h;cases h
theorem aBw{t:bu}(h:jI P t=some false)(w:ae):(isAgg t).run P w=.ok false w:=by
 unfold isAgg;unfold jI at h;cases b:P.underlying t with
 |none=>rw[b] at h;cases h|some d=>
  rw[Sem.run_bind,Ha b];rw[b] at h
  cases d<;>first|(cases h;done)|rfl
theorem aOo{C:Ctx}{t:bu}{n b o:Nat}{m:g_}{i:PW}{xs:jl}(l:ui P t=some n)(j:D8 P t m=some i)(hr:RL C m xs)(f:xs.length=n)(hc:C.w.rangeAt b o xs) :
  ∃ e,(Instr.loadAt t (.pointer (some ⟨b,o,none⟩))).run P C.w=.ok e C.w/\RW C i e:=by
 rcases bMm j hr with⟨g,h⟩|⟨g,v,rfl,q,h⟩;obtain⟨d,k,p⟩:=aGw g
 refine⟨_,run_loadAt_mid C.w b o t xs d hc k p ?_,h⟩;rw[f];exact l;refine⟨v,?_,h⟩;have c:=hc 0 v rfl;rw[aBK] at c;simp only[Instr.loadAt,Instr.sureAddr,Sem.run_bind,Sem.run_pure,Result.andThen_ok,loadVar,aBw g];simp[load,Sem.run,c]
theorem aMy{o:ik}{K:Act->jg}{Q:uk->Act->jg}{t:bu}{x:uA}(b:o.op=.load t x){val:ag}(hr:(Instr.loadAt t (a.eval x)).run P w=.ok val w)(c:K (a.put o.dst val) w):o.wp P a w K Q:=by unfold Oper.wp xe;simp only[b,Sem.run_bind,Sem.run_pure,Result.andThen_ok,hr];exact c
theorem kS{w:ae}{b o:Nat}{cs:jl}(h:w.rangeAt b o cs)(off n:Nat):w.rangeAt b (o+off) ((cs.drop off).take n):=fun j v c=>by rw[yf] at c;by_cases d:j<n;rw[au d,aAk] at c;have:=h (off+j) v c;rwa [<-aBH] at this;rw[ah d] at c;cases c
theorem aSo{w:ae}{e n len:Nat}{g:Nat}{n0 b:Nat}{vs:jl}(h:EK w e n (.slice (some ⟨g,0,none⟩) n0 b) len vs):w.rangeAt g 0 vs:=h.range
theorem qZ{C:Ctx}:∀ {l:g_} {b n:Nat} {e:di} {f:jl},RL C l f->AO l b=some (n,e)->e.length=n/\(f.drop b).take n=e.map uh/\b+n<=f.length:=by
 intro l
 induction l with
 |nil=>intro b n e f h g;cases b<;>simp[AO] at g| cons c l o=>
  intro b n e f h g;cases h with
  | @cons _ _ _ t r j q=>
   have p:=j.width
   match b with
   | 0=>
    cases c<;>first|(simp[AO] at g;done)|skip
    obtain⟨rfl,rfl⟩:_=n/\_=e:=by simpa[AO] using g
    cases j with
    |bs h=>refine⟨h,?_,l7⟩;rw[aBk,aDM l7,WF l7]
   | b+1=>
    have d:(if c.width<=b+1 then AO l (b+1-c.width) else none)=some (n,e):=by cases c<;>exact g
    by_cases i:c.width<=b+1;rw[au i] at d;obtain⟨m,k,u⟩:=o q d;refine⟨m,?_,by rw[gz];omega⟩;rw[aFC,aCV a_,IR,p];exact k;rw[ah i] at d;cases d
theorem sJ(b:di)(k:Nat)(h:k<b.length):(b.map uh)[k]?=some (uh (b.getD k 0)):=by rw[aAg,zH h,zG,zH h];rfl
theorem RV.inv{C:Ctx}{c:PC}{v:ag}(h:RV C (.w (.one c)) v):R C c [v]:=by cases h with|w h=>cases h with|one h=>exact h
theorem RV.Ba{C:Ctx}{x l9 off:Nat}{v:ag}(h:RV C (.w (.one (.pt x l9 off))) v){hd:ag}(b:C.env x=some (l9,hd)):aQg off v hd:=by cases h.inv with|pt _ h=>exact h.now b
theorem RV.Ky{C:Ctx}{x l9 off k:Nat}{v:ag}(h:RV C (.w (.one (.pk x l9 off k))) v){hd:ag}(b:C.env x=some (l9,hd)):aQg (off+k) v hd:=by cases h.inv with|pk _ h=>exact h.now b
theorem RV.Kz{C:Ctx}{x l9 n i j:Nat}{v:ag}(h:RV C (.w (.one (.pe x l9 n i j))) v){hd:ag}(b:C.env x=some (l9,hd)):bSg n i j v hd:=by cases h.inv with|pe _ h=>exact h.now b
theorem RV.Ar{C:Ctx}{x l9 n off len:Nat}{v:ag}(h:RV C (.w (.one (.ow x l9 n off len))) v){hd:ag}(b:C.env x=some (l9,hd)):bSh n off len v hd:=by cases h.inv with|ow _ h=>exact h.now b
theorem RV.LY{C:Ctx}{x l9 off len:Nat}{v:ag}(h:RV C (.w (.one (.ob x l9 off len))) v){hd:ag}(b:C.env x=some (l9,hd)):bSi off len v hd:=by cases h.inv with|ob _ h=>exact h.now b
theorem aIf{t:bu}{b o:Nat}{v:ag}(c:jI P t=some false)(hc:w.cell? ⟨b,o,none⟩=some v):(Instr.loadAt t (.pointer (some ⟨b,o,none⟩))).run P w=.ok v w:=by simp only[Instr.loadAt,Instr.sureAddr,Sem.run_bind,Sem.run_pure,Result.andThen_ok,loadVar,aBw c];simp[load,Sem.run,hc]
theorem bGo{w:ae}{b n i:Nat}{vs:jl}(h:w.rangeAt b 0 vs)(j c:Nat):w.rangeAt b (i*n+j) ((((vs.drop (i*n)).take n).drop j).take c):=by have d:=kS h (i*n) n;rw[mf] at d;exact kS d j c
theorem aFf{x:Option PW}{k:PW->M}{F:og->PV->Wr->Prop}(h:(bIj x k).ok none s F):∃ b,x=some b/\(k b).ok none s F:=by
 cases x with
 |none=>exact h.elim|some b=>exact⟨b,rfl,h⟩
theorem LU{l:g_}{n:Nat}{b:di}(h:LV l=some (n,b)):l=[.bs n b]:=by unfold LV at h;split at h;cases h;rfl;cases h
theorem bBl(h:ig A s a w env){F:og->PV->Wr->Prop}{t:bu}{v:ag}{p:PV}{kk:PW->M}(hp:RV (aP A w env) p v)(d:(G_ P t p kk).ok none s F):∃ b W O y,v=.pointer (some ⟨b,W,none⟩)/\(Instr.loadAt t v).run P w=.ok y w/\RW (aP A w env) O y/\(kk O).ok none s F:=by
 unfold G_ at d;split at d
 ·
  rename_i x1 H I;obtain⟨g,vr,ob,K,d⟩:=d;have J:=dZ d;clear d;obtain⟨hg,d⟩:=J;obtain⟨hd,S,B⟩:=kX h K hg
  cases G:bz H vr<;>cases ob<;>cases z:ui P t<;>simp only[G,z] at d<;>try exact d.elim
  rename_i bt l n;obtain rfl:=iy G;cases D:tJ l I n with
  |none=>rw[D] at d;exact d.elim|some m=>rw[D] at d;obtain⟨O,Y,L⟩:=aFf d;obtain⟨g1,rfl,V⟩:=hp.Ba S;obtain⟨g2,cs,e2,hB,hR⟩:=B;cases e2;obtain⟨X,k2⟩:=hR.sub D;have u:=kS hB.range I n;rw[mf] at u;obtain⟨y,o,x⟩:=aOo (C:=aP A w env) z Y X (by rw[ww,MM];omega) u;rw[<-V] at o;exact⟨_,_,O,y,V,o,x,L⟩
 ·
  rename_i x1 H I k;obtain⟨g,vr,ob,K,d⟩:=d;have J:=dZ d;clear d;obtain⟨hg,d⟩:=J;obtain⟨hd,S,B⟩:=kX h K hg
  cases G:bz H vr<;>cases ob<;>cases Z:jI P t<;>simp only[G,Z] at d<;>try exact d.elim
  rename_i bt l bb
  cases bb<;>try exact d.elim
  obtain rfl:=iy G;dsimp only at d;cases D:AO l I with
  |none=>rw[D] at d;exact d.elim|some q=>obtain⟨n,bs⟩:=q;rw[D] at d;obtain⟨a5,L⟩:=d;obtain⟨g1,rfl,V⟩:=hp.Ky S;obtain⟨g2,cs,e2,hB,hR⟩:=B;cases e2;obtain⟨X,k2,k3⟩:=qZ hR D;have u:=kS hB.range I n;rw[mf,k2] at u;have r:=u k _ (sJ bs k (by rw[X];exact a5));have o:=aIf (P:=P) Z r;rw[<-V] at o;exact⟨_,_,_,_,V,o,.one (.lit rfl),L⟩
 ·
  rename_i x1 H n i j;obtain⟨g,vr,ob,K,d⟩:=d;have J:=dZ d;clear d;obtain⟨hg,d⟩:=J;obtain⟨hd,S,B⟩:=kX h K hg
  cases G:bz H vr<;>cases ob<;>cases z:ui P t<;>simp only[G,z] at d<;>try exact d.elim
  rename_i e n' len f sz;obtain rfl:=iy G
  cases a0:bz n n'<;>cases D:tJ (f i) j sz<;>simp only[a0,D] at d<;>try exact d.elim
  rename_i m;obtain rfl:=iy a0;obtain⟨a6,d⟩:=d;obtain⟨O,Y,L⟩:=aFf d;obtain⟨g1,n0,c0,rfl,b2,V⟩:=hp.Kz S;obtain⟨N,a2,T⟩:=B;obtain⟨X,k2⟩:=(T i a6).sub D;have u:=bGo (i:=i) (n:=n) (aSo a2) j sz;obtain⟨y,o,x⟩:=aOo (C:=aP A w env) z Y X (by rw[ww,MM];omega) u;rw[<-V] at o;exact⟨_,_,O,y,V,o,x,L⟩
 ·
  rename_i n len f i j;cases z:ui P t with
  |none=>simp only[z] at d;exact d.elim| some sz=>
   simp only[z] at d;split at d;rename_i m bs B b0 a7;obtain rfl:=iy b0;obtain⟨Q,L⟩:=d;have a8:=LU B;cases hp.inv with
   | @pf _ _ _ _ _ _ b W c N hr G S Z=>
    obtain⟨h1,A1,c1,e1,h2,h3,h4⟩:=hr;obtain⟨b',o',eA,r⟩:=h4 a_;cases e1;cases eA;have T:=S i Z;rw[a8] at T;have u:w.rangeAt b W N:=fun jj v Q=>r jj v Q;have E:=kS u (i*n) n;have a3:=T.single;generalize (N.drop (i*n)).take n=q at E a3;cases a3 with
    |bs hl=>have U:=E j _ (sJ bs j (by rw[hl];exact Q));have o:=aIf (P:=P) a7 U;rw[aBH] at o;exact⟨_,_,_,_,rfl,o,.one (.lit rfl),L⟩
   cases D:tJ (f i) j sz with
   |none=>rw[D] at d;exact d.elim| some m=>
    rw[D] at d;obtain⟨O,Y,L⟩:=aFf d;cases hp.inv with
    |@pf _ _ _ _ _ _ b W c N hr G S Z=>obtain⟨h1,A1,c1,e1,h2,h3,h4⟩:=hr;obtain⟨b',o',eA,r⟩:=h4 a_;cases e1;cases eA;obtain⟨X,k2⟩:=(S i Z).sub D;have u:w.rangeAt b W N:=fun jj v Q=>r jj v Q;have E:=kS (kS u (i*n) n) j sz;obtain⟨y,o,x⟩:=aOo (C:=(aP A w env).cold) z Y X (by rw[ww,MM];omega) E;rw[aBH] at o;exact⟨_,_,O,y,rfl,o,x.le ⟨dE _,fun b _ h=>⟨h,rfl⟩,fun _ _ _ h=>by cases h⟩,L⟩
 ·
  rename_i len f;split at d;rename_i n e hu;split at d;rename_i m hm S;split at d;rename_i G;obtain rfl:=iy G;obtain⟨⟨b1,a1⟩,d⟩:=d;obtain⟨O,Y,L⟩:=aFf d;cases hp.inv with
  | @pa _ _ b W c _ N hr a0 a9 hn=>
   obtain⟨h1,A1,c1,e1,h2,h3,h4⟩:=hr;obtain⟨b',o',eA,r⟩:=h4 a_;cases e1;cases eA
   have a4:N.take m=(rowB m f).map uh:=by
    refine aGv (C:=(aP A w env).cold) (by rw[ww];omega) (fun i Z=>?_) a1;have h5:=a9 i a_;have e5:((N.take m).drop (i*1)).take 1=(N.drop (i*1)).take 1:=by rw[aGH,List.take_take];congr 1;omega
    rw[e5];exact h5
   have u:w.rangeAt b W (N.take m):=fun jj v Q=>by rw[yf] at Q;split at Q;exact r jj v Q;cases Q
   rw[a4] at u;obtain⟨y,o,x⟩:=aOo (C:=aP A w env) (xs:=(rowB m f).map uh) hm Y (by simpa using RL.cons (R.bs (dP m f)) RL.nil) (by rw[aAB,dP]) u;exact⟨_,_,O,y,rfl,o,x,L⟩
  exact d.elim;exact d.elim;exact d.elim
 exact d.elim
theorem U4(h:ig A s a w env){o:ik}{K:Act->jg}{Q:uk->Act->jg}{F:og->PV->Wr->Prop}{t:bu}{x:uA}(g:o.op=.load t x){p:PV}(f:RV (aP A w env) p (a.eval x))(i:(WJ P t p).ok none s F)(j:Fin A s a o K F):o.wp P a w K Q:=by obtain⟨b,m,l,e,_,d,c,k⟩:=bBl h f i;exact aMy g d (j.same h k (.w c))
theorem aRk(b:Nat)(t:bu):∀ (f c old d:jl) (w:ae),old.length=f.length->eu w b t (c++old++d).toArray->eu (w.setCells b c.length f) b t (c++f++d).toArray:=by
 intro f
 induction f with
 |nil=>intro c old d w g h;cases old with|nil=>exact h|cons=>simp at g
 | cons v f j=>
  intro c old d w g h;cases old with
  |nil=>simp at g|cons x old=>have i:=h.zq c.length v;have e:(c++x::old++d).toArray.setIfInBounds c.length v=((c++[v])++old++d).toArray:=d_;rw[e] at i;have:=j (c++[v]) old d (w.setCell ⟨b,c.length,none⟩ v) (by simpa using g) i;simp only[gz,We,aBJ,mf,GM,aDX] at this;simp only[GM,C_];exact this
def over(xs:jl)(off:Nat)(ys:jl):jl:=xs.take off++ys++xs.drop (off+ys.length)
theorem pG{xs ys:jl}{off:Nat}(h:off+ys.length<=xs.length):(over xs off ys).length=xs.length:=by unfold over;simp;omega
theorem bCw{w:ae}{g:Nat}{t:bu}{cs:mg}(h:eu w g t cs)(off:Nat)(ys:jl)(hl:off+ys.length<=cs.size):eu (w.setCells g off ys) g t (over cs.toList off ys).toArray:=by
 have e:cs=(cs.toList.take off++(cs.toList.drop off).take ys.length++cs.toList.drop (off+ys.length)).toArray:=by rw[GM,<-aCW,aCY,aCY]
 have b:=h;rw[e] at b;have:=aRk g t ys (cs.toList.take off) ((cs.toList.drop off).take ys.length) (cs.toList.drop (off+ys.length)) w l7 b;rw[ww,nz,aCZ a_] at this;exact this
theorem xC{w:ae}{g:Nat}{t:bu}{cs:mg}(h:eu w g t cs)(off n:Nat)(hl:off+n<=cs.size):w.there g off n:=fun j b=>by rw[h.cell,h.frozen];exact⟨by rw[aCF a_];rfl,rfl⟩
def Dn(w:ae)(g:Nat)(t:bu)(b:Nat×Nat)(cs:mg):Prop:=w.heap[g]?=some (.cells cs t b)
theorem Dn.zq{w:ae}{g:Nat}{t:bu}{b:Nat×Nat}{cs:mg}(h:Dn w g t b cs)(i:Nat)(u:ag):Dn (w.setCell ⟨g,i,none⟩ u) g t b (cs.setIfInBounds i u):=by unfold Dn at h ⊢;simp[World.setCell,Array.getElem?_modify,h]
theorem aNj(b:Nat)(t:bu)(j:Nat×Nat):∀ (f c old d:jl) (w:ae),old.length=f.length->Dn w b t j (c++old++d).toArray->Dn (w.setCells b c.length f) b t j (c++f++d).toArray:=by
 intro f
 induction f with
 |nil=>intro c old d w g h;cases old with|nil=>exact h|cons=>simp at g
 | cons v f k=>
  intro c old d w g h;cases old with
  |nil=>simp at g|cons x old=>have i:=h.zq c.length v;have e:(c++x::old++d).toArray.setIfInBounds c.length v=((c++[v])++old++d).toArray:=d_;rw[e] at i;have:=k (c++[v]) old d (w.setCell ⟨b,c.length,none⟩ v) (by simpa using g) i;simp only[gz,We,aBJ,mf,GM,aDX] at this;simp only[GM,C_];exact this
theorem bRn{w:ae}{g:Nat}{t:bu}{b:Nat×Nat}{cs:mg}(h:Dn w g t b cs)(off:Nat)(ys:jl)(hl:off+ys.length<=cs.size):Dn (w.setCells g off ys) g t b (over cs.toList off ys).toArray:=by
 have e:cs=(cs.toList.take off++(cs.toList.drop off).take ys.length++cs.toList.drop (off+ys.length)).toArray:=by rw[GM,<-aCW,aCY,aCY]
 have c:=h;rw[e] at c;have:=aNj g t b ys (cs.toList.take off) ((cs.toList.drop off).take ys.length) (cs.toList.drop (off+ys.length)) w l7 c;rw[ww,nz,aCZ a_] at this;exact this
theorem aNf{w:ae}{g:Nat}{t:bu}{c:Nat×Nat}{cs:mg}(h:Dn w g t c cs)(b:c=(0,0)\/cs.size<=c.1)(off n:Nat)(hl:off+n<=cs.size):w.there g off n:=fun j d=>by unfold Dn at h;refine⟨?_,?_⟩;rw[cell_of_row w g _ cs t c h,aCF a_];rfl;rcases b with rfl|b;simp[World.frozen?,h];simp[World.frozen?,h];omega
theorem iL{xs ys:jl}{off:Nat}(h2:off+ys.length<=xs.length)(k:Nat):(over xs off ys)[k]?=if off<=k/\k<off+ys.length then ys[k-off]? else xs[k]?:=by unfold over;by_cases b:k<off;rw[ah a_,GM,aBD l7,yf,au b];by_cases c:k<off+ys.length;rw[au a_,GM,aBi l7,ww,aCZ a_,aBD a_];rw[ah a_,aBi l7,gz,ww,aCZ a_,aAk];congr 1;omega
theorem aXv{xs ys:jl}{p n j:Nat}(h:p+n<=xs.length)(d:j+ys.length<=n):((over xs (p+j) ys).drop p).take n=over ((xs.drop p).take n) j ys:=by apply aAX;intro k;rw[yf,aAk,iL a_,iL l7,yf,aAk];by_cases b:k<n;rw[au b,au b];by_cases c:j<=k/\k<j+ys.length;rw[au c,au a_];congr 1;omega;rw[ah c,ah a_];rw[ah b,ah b,ah a_]
theorem xZ{xs ys:jl}{p n q:Nat}(h2:q+ys.length<=xs.length)(c:q+ys.length<=p\/p+n<=q):((over xs q ys).drop p).take n=(xs.drop p).take n:=by apply aAX;intro k;rw[yf,aAk,iL h2,yf,aAk];by_cases b:k<n;rw[au b,au b,ah a_];rw[ah b,ah b]
theorem aLk{xs ys:jl}{q k:Nat}(h:q+ys.length<=k)(h2:k<=xs.length):(over xs q ys).take k=over (xs.take k) q ys:=by apply aAX;intro i;rw[yf,iL a_,iL l7,yf];by_cases b:i<k;rw[au b,au b];rw[ah b,ah b,ah a_]
theorem bCl{C:Ctx}:∀ {l:g_} {n:Nat} {r:g_} {d:jl},RL C l d->splice.CB l n=some r->RL C r (d.drop n)/\n<=d.length:=by
 intro l
 induction l with
 |nil=>
  intro n r d h b;cases h;cases n with
  |zero=>simp[splice.CB] at b;subst b;exact⟨.nil,dE _⟩|succ n=>simp[splice.CB] at b
 | cons c l g=>
  intro n r d h b;cases n with
  |zero=>simp[splice.CB] at b;subst b;exact⟨h,x8 _⟩| succ n=>
   cases h with
   |@cons _ _ _ o m k j=>have i:=k.width;unfold splice.CB at b;by_cases e:c.width<=n+1;rw[au e] at b;obtain⟨f,p⟩:=g j b;refine⟨?_,by rw[gz];omega⟩;rw[aFC,aCV a_,IR,i];exact f;rw[ah e] at b;cases b
theorem aGo{C:Ctx}:∀ {l:g_} {b:Nat} {m n:g_} {k f:jl},RL C l k->RL C m f->splice l b m=some n->RL C n (over k b f)/\b+f.length<=k.length:=by
 intro l
 induction l with
 | nil=>
  intro b m n k f h j d;cases b with
  | zero=>
   unfold splice at d;cases i:splice.CB [] (widths m) with
   |none=>rw[i] at d;cases d|some r=>rw[i] at d;cases d;obtain⟨g,o⟩:=bCl h i;rw[<-j.width] at g o;exact⟨by unfold over;simpa using j.append g,a_⟩
  |succ b=>simp[splice] at d
 | cons c l z=>
  intro b m n k f h j d;cases b with
  | zero=>
   unfold splice at d;cases i:splice.CB (c::l) (widths m) with
   |none=>rw[i] at d;cases d|some r=>rw[i] at d;cases d;obtain⟨g,o⟩:=bCl h i;rw[<-j.width] at g o;exact⟨by unfold over;simpa using j.append g,a_⟩
  | succ b=>
   cases h with
   | @cons _ _ _ t q y B=>
    have u:=y.width;unfold splice at d;by_cases x:c.width<=b+1;rw[au x] at d;cases p:splice l (b+1-c.width) m with
    |none=>rw[p] at d;cases d| some r=>
     rw[p] at d;cases d;obtain⟨g,o⟩:=z B j p;refine⟨?_,by rw[gz];omega⟩;have e:over (t++q) (b+1) f=t++over q (b+1-c.width) f:=by unfold over;rw[aEN,WF a_,u,aFC,aCV a_,IR,u];simp only[GM];congr 4;omega
     rw[e];exact .cons y g
    rw[ah x] at d;cases d
theorem bLp(d:di)(k:Nat)(b:UInt8)(e:jl)(f:k<d.length):over (d.map uh++e) (0+k) [uh b]=(d.set k b).map uh++e:=by rw[mf,List.map_set,<-List.set_append_left _ _ (by simpa using f)];apply aAX;intro i;rw[iL l7,aED];by_cases c:k=i;subst c;rw[au d_,au rfl,au l7];simp;rw[ah c,ah l7]
theorem JO{C:Ctx}:∀ {l:g_} {d n k:Nat} {g:di} {b:UInt8} {j:jl},RL C l j->AO l d=some (n,g)->k<n->RL C (bDr l d (g.set k b)) (over j (d+k) [uh b]):=by
 intro l
 induction l with
 |nil=>intro d n k g b j h i;cases d<;>simp[AO] at i| cons c l x=>
  intro d n k g b j h i y;cases h with
  | @cons _ _ _ q p o u=>
   have r:=o.width;cases d with
   | zero=>
    cases c<;>first|(simp[AO] at i;done)|skip
    obtain⟨rfl,rfl⟩:_=n/\_=g:=by simpa[AO] using i
    cases o with
    |bs h=>rw[bLp _ _ _ _ a_];exact .cons (.bs (by rw[aAA];exact h)) u
   | succ d=>
    have f:(if c.width<=d+1 then AO l (d+1-c.width) else none)=some (n,g):=by cases c<;>exact i
    have m:bDr (c::l) (d+1) (g.set k b)=c::bDr l (d+1-c.width) (g.set k b):=by cases c<;>rfl
    by_cases t:c.width<=d+1;rw[au t] at f;rw[m];have e:over (q++p) (d+1+k) [uh b]=q++over p (d+1-c.width+k) [uh b]:=by unfold over;rw[aEN,WF a_,r,aFC,aCV l7,IR,r];simp only[GM];congr 3;congr 1;omega;congr 1;simp;omega
    rw[e];exact .cons o (x u f y);rw[ah t] at f;cases f
theorem aUy{v:ag}(h:v.oneCell'=true):v.cells=#[v]:=by cases v<;>first|rfl|cases h
theorem RW.cells'{C:Ctx}{b:PW}{v:ag}(h:RW C b v):RL C b.cells v.cells.toList:=by
 cases h with
 |one h=>rw[aUy (h.ones v d_)];exact .cons h .nil|agg h=>exact h
theorem xN{t:bu}{b o:Nat}{v:ag}(d:ui P t=some v.cells.size)(h1:∀ u∈v.cells.toList,u.oneCell'=true)(c:w.there b o v.cells.size) :
  (Instr.storeAt t (.pointer (some ⟨b,o,none⟩)) v).run P w=.ok () (w.setCells b o v.cells.toList):=by
 have:=run_storeAt_mid (P:=P) w b o t v.cells c d (by rw[Array.all_eq_true'];intro u f;exact h1 u (Array.mem_toList_iff.2 f));have e:Instr.storeAt t (.pointer (some ⟨b,o,none⟩)) v=Instr.storeAt t (.pointer (some ⟨b,o,none⟩)) (.agg v.cells):=rfl;rw[e];exact this
theorem nO{o:ik}{K:Act->jg}{Q:uk->Act->jg}{t:bu}{x y:uA}(b:o.op=.store t x y){w':ae}(hr:(Instr.storeAt t (a.eval x) (a.eval y)).run P w=.ok () w')(c:K (a.put o.dst dC) w'):o.wp P a w K Q:=by unfold Oper.wp xe;simp only[b,Sem.run_bind,Sem.run_pure,Result.andThen_ok,hr];exact c
theorem ig.EC(h:ig A s a w env){x l9:Nat}{g:og}{d:bu}{l l':g_}{b:Nat}(_:find s.o x=some (g,l9,.box d l))(k:env x=some (l9,kJ b)){cs:mg}(n:eu w b d cs){off:Nat}{ys:jl}(hl:off+ys.length<=cs.size)
  (hr:RL (aP A w env) l' (over cs.toList off ys)):∃ c,ig A { s with o:=[(x,none,l9,.box d l')]++s.o } a (w.setCells b off ys) c:=by
 have p:=(iO b ys off w).1;have f:=(iO b ys off w).2;refine⟨_,(h.upd x none l9 (kJ b) (.box d l') (p.mono fun i _ e=>⟨l9,_,k,by rw[e];rfl⟩) (fun v r e=>by rw[k] at e;cases e;exact .inr ⟨rfl,rfl⟩) (fun t m=>by cases m;exact⟨by rw[f];exact n.lt,.inr ⟨l9,_,k,rfl⟩⟩) (fun j _=>?_)).1⟩;exact⟨b,_,rfl,bCw n off ys hl,by simpa using hr.le j⟩
theorem Iy(h:ig A s a w env){o:ik}{K:Act->jg}{Q:uk->Act->jg}{F:og->PV->Wr->Prop}{t:bu}{x y:uA}(ho:o.op=.store t x y){p v:PV}(hp:RV (aP A w env) p (a.eval x))(W:RV (aP A w env) v (a.eval y))(c:(bJa P t p v).ok none s F)(hf:Fin A s a o K F):o.wp P a w K Q:=by
 unfold bJa at c
 cases v<;>try exact c.elim
 rename_i pw
 cases a6:ui P t<;>simp only[a6] at c<;>try exact c.elim
 rename_i sz
 cases b7:bz sz (widths pw.cells)<;>simp only[b7] at c<;>try exact c.elim
 cases W with
 | w W=>
  have d:=W.cells';obtain⟨z,hy⟩:∃ v,a.eval y=v:=⟨_,rfl⟩;rw[hy] at W d;have b9:=d.width;have e0:=iy b7;have D:ui P t=some z.cells.size:=by rw[a6,e0,<-b9,nz]
  split at c
  ·
   rename_i x1 u r;obtain⟨g,vr,ob,B,c⟩:=c;have I:=dZ c;clear c;obtain⟨hg,c⟩:=I;obtain⟨hd,N,H⟩:=kX h B hg
   cases T:bz u vr<;>cases ob<;>simp only[T] at c<;>try exact c.elim
   rename_i bt l;obtain rfl:=iy T;cases E:splice l r pw.cells with
   |none=>rw[E] at c;exact c.elim|some l'=>
    rw[E] at c;have hF:F none .none [(x1,none,u,.box bt l')]:=c.2;obtain⟨C,rfl,G⟩:=hp.Ba N;obtain⟨g2,cs,e2,U,hR⟩:=H;cases e2;obtain⟨k1,k2⟩:=aGo hR d E;have a3:r+z.cells.toList.length<=cs.size:=by simpa using k2
    obtain⟨J,a1⟩:=h.EC B N U a3 k1;refine nO ho (w':=w.setCells C r z.cells.toList) ?_ (hf .none _ dC _ J hF a1 .none);rw[G,hy];exact xN D d.ones (xC U r _ (by simpa using a3))
  ·
   rename_i x1 u r k;obtain⟨g,vr,ob,B,c⟩:=c;have I:=dZ c;clear c;obtain⟨hg,c⟩:=I;obtain⟨hd,N,H⟩:=kX h B hg
   cases T:bz u vr<;>cases ob<;>simp only[T] at c<;>try exact c.elim
   rename_i bt l;obtain rfl:=iy T
   split at c<;>try exact c.elim
   rename_i d5 l2 b1 d4 c2;cases c2;cases E:AO l r with
   |none=>rw[E] at c;exact c.elim| some q=>
    obtain⟨n,bs⟩:=q;rw[E] at c;obtain⟨⟨c3,d1,d0⟩,c⟩:=c;have hF:F none .none [(x1,none,u,.box bt (bDr l r (bs.set k (xy b1.toNat))))]:=c.2;obtain⟨C,rfl,G⟩:=hp.Ky N;obtain⟨g2,cs,e2,U,hR⟩:=H;cases e2;obtain⟨k1,k2,k3⟩:=qZ hR E
    have b8:z=.int .u8 b1:=by
     cases W with
     |one W=>cases W;rfl
    have hu:[uh (xy b1.toNat)]=z.cells.toList:=by
     rw[b8]
     show[gp .u8 (((xy b1.toNat).toNat:Nat):Int)]=[.int .u8 b1]
     congr 2;rw[aJx (show b1.toNat<256 by omega)];omega
    have hr:=JO (b:=xy b1.toNat) hR E c3;rw[hu] at hr;have V:z.cells.toList.length=1:=by rw[<-hu];rfl
    have d2:r+n<=cs.size:=by rw[<-nz];exact k3
    have a2:r+k+1<=cs.size:=a_;obtain⟨J,a1⟩:=h.EC B N U (off:=r+k) (ys:=z.cells.toList) (by rw[V];exact a2) hr;refine nO ho (w':=w.setCells C (r+k) z.cells.toList) ?_ (hf .none _ dC _ J hF a1 .none);rw[G,hy];exact xN D d.ones (xC U (r+k) _ (by rw[nz] at V;rw[V];exact a2))
  ·
   rename_i x1 u n i j;obtain⟨g,vr,ob,B,c⟩:=c;have I:=dZ c;clear c;obtain⟨hg,c⟩:=I;obtain⟨hd,N,H⟩:=kX h B hg
   cases T:bz u vr<;>cases ob<;>simp only[T] at c<;>try exact c.elim
   rename_i e n' len f;obtain rfl:=iy T
   cases b6:bz n n'<;>cases E:splice (f i) j pw.cells<;>simp only[b6,E] at c<;>try exact c.elim
   rename_i m;obtain rfl:=iy b6;obtain⟨Z,c⟩:=c;have hF:F none .none [(x1,none,u,.arr e n len (fun L=>if L=i then m else f L))]:=c.2;obtain⟨C,n0,c0,rfl,d3,G⟩:=hp.Kz N;obtain⟨vs,S,b5⟩:=H;obtain⟨k1,k2⟩:=aGo (b5 i Z) d E;have c1:=S.1;have a4:((vs.drop (i*n)).take n).length=n:=by have:(i+1)*n<=len*n:=aBB n Z;rw[aAZ,aBX] at this;simp;omega
   rw[a4] at k2;rcases S.2 with⟨e0,_⟩|⟨g',cap,cur,t',fr,e0,b2,b4,a9,c7,c6,X⟩;cases e0;cases e0;have c4:(i+1)*n<=len*n:=aBB n Z;rw[aAZ,aBX] at c4;have b0:i*n+j+z.cells.toList.length<=len*n:=a_;have c9:len*n<=c0*n:=aBB n a9;have U:Dn w C t' fr cur:=b2;have hc:=(iO C z.cells.toList (i*n+j) w).1;have a5:=(iO C z.cells.toList (i*n+j) w).2;have O:i*n+j+z.cells.toList.length<=cur.size:=a_
   have a7:(over cur.toList (i*n+j) z.cells.toList).toArray.size=cur.size:=by rw[aBM,pG (by simpa using O),nz]
   have a8:EK (w.setCells C (i*n+j) z.cells.toList) e n (.slice (some ⟨C,0,none⟩) len c0) len (over vs (i*n+j) z.cells.toList):=by refine⟨by rw[pG a_];exact c1,.inr ⟨C,c0,(over cur.toList (i*n+j) z.cells.toList).toArray,t',fr,rfl,bRn U _ _ O,?_,a9,c7,?_,?_⟩⟩;rw[a7];exact b4;rw[aBM,pG (by simpa using O),nz,c6];rw[<-X];exact aLk b0 (by rw[nz];omega)
   obtain⟨b3,Y⟩:=h.upd x1 none u (.slice (some ⟨C,0,none⟩) len c0) (.arr e n len (fun L=>if L=i then m else f L)) (hc.mono fun b _ e=>⟨u,_,N,by rw[e];rfl⟩) (fun v hd e=>by rw[N] at e;cases e;exact .inr ⟨rfl,rfl⟩) (fun b' c8=>by cases c8;exact⟨by rw[a5];exact lt_of_heap b2,.inr ⟨u,_,N,rfl⟩⟩) (fun Y _=>⟨_,a8,fun L c5=>by
    dsimp only;by_cases a0:L=i;subst a0;rw[au rfl,aXv a_ a_];exact k1.le Y;rw[ah a0,xZ a_ ?_];exact (b5 L c5).le Y;rcases Nat.lt_or_gt_of_ne a0 with h1|h1;have:(L+1)*n<=i*n:=aBB n h1;rw[aAZ,aBX] at this;omega;have:(i+1)*n<=L*n:=aBB n h1;rw[aAZ,aBX] at this
    omega⟩)
   refine nO ho (w':=w.setCells C (i*n+j) z.cells.toList) ?_ (hf .none _ dC _ _ hF b3 .none);rw[G,hy];exact xN D d.ones (aNf U (b4.imp (·.2) (·.2)) _ _ (by rw[nz] at O;omega))
  exact c.elim
theorem bRh{v:ag}{b:UInt8}(h:byteOf v=some b):v=uh b:=by unfold byteOf at h;split at h;split at h;cases h;rename_i c;show gp .u8 _=.int .u8 _;rw[<-c];cases h;cases h
theorem yK:∀ {n:Nat} {l:jl} {c:di},kY n l=some c->c.length=n/\l=c.map uh++l.drop n
 |0,l,c,h=>by simp[kY] at h;subst h;exact⟨rfl,d_⟩|n+1,[],c,h=>by simp[kY] at h| n+1,v::l,c,h=>by
  unfold kY at h;cases d:byteOf v with
  |none=>rw[d] at h;simp at h| some b=>
   cases e:kY n l with
   |none=>rw[d,e] at h;simp at h|some r=>rw[d,e] at h;cases h;obtain⟨g,f⟩:=yK e;exact⟨by simp[g],by rw[bRh d];simp;exact f⟩
theorem aXu{C:Ctx}:∀ {d:List Nat} {c:jl} {l:g_},pack d c=some l->RL C l c
 |[],[],l,h=>by simp[pack] at h;subst h;exact .nil|[],_::_,l,h=>by simp[pack] at h|0::d,[],l,h=>by simp[pack] at h| 0::d,v::c,l,h=>by
  unfold pack at h;by_cases e:v.oneCell'=true;rw[au e] at h;cases b:pack d c with
  |none=>rw[b] at h;cases h|some r=>rw[b] at h;cases h;exact .cons (xs:=[v]) (.lit e) (aXu b)
  rw[ah e] at h;cases h
 | (n+1)::d,c,l,h=>by
  unfold pack at h;cases b:kY (n+1) c with
  |none=>rw[b] at h;simp at h| some bs=>
   cases f:pack d (c.drop (n+1)) with
   |none=>rw[b,f] at h;simp at h|some r=>rw[b,f] at h;cases h;obtain⟨i,g⟩:=yK b;rw[g];exact .cons (.bs i) (aXu f)
variable {o:ik} {K:Act->jg} {Q:uk->Act->jg} {F:og->PV->Wr->Prop}
theorem aX{v:ag}{w':ae}(hr:(xe a.eval o).run P w=.ok (.value v) w')(b:K (a.put o.dst v) w'):o.wp P a w K Q:=by unfold Oper.wp;rw[hr];exact b
theorem bMk(h:ig A s a w env){x:uA}(b:o.op=.move x\/o.op=.assign x)(c:(Ap x fun v=>.ret v).ok none s F)(e:Fin A s a o K F):o.wp P a w K Q:=by
 obtain⟨pv,d,c⟩:=iR h c;refine aX (v:=a.eval x) (w':=w) ?_ (e.same h c d)
 rcases b with b|b<;>simp[xe,b]
theorem RV.BM{C:Ctx}{b:Bool}{v:ag}(h:RV C (.w (.one (.lit (.bool b)))) v):v=.bool b:=by cases h.inv;rfl
theorem RV.gu{C:Ctx}{u v:ag}(h:RV C (.w (.one (.lit u))) v):v=u:=by cases h.inv;rfl
theorem Sv(h:ig A s a w env){c x y:uA}(g:o.op=.pick c x y)(b:(Vw c x y).ok none s F)(l:Fin A s a o K F):o.wp P a w K Q:=by
 obtain⟨p,m,b⟩:=iR h b;split at b;rename_i i;have d:=bPd h b;clear b;obtain⟨r,n,b⟩:=d;have d:=bPd h b;clear b;obtain⟨q,f,b⟩:=d;split at b;rename_i k j;refine aX (v:=.bool (bif i then k else j)) (w':=w) ?_ (l.same h b (.w (.one (.lit rfl))));have e:=m.BM;cases i with
 |true=>simp[xe,g,e,asBool,(n rfl).BM]|false=>simp[xe,g,e,asBool,(f rfl).BM]
 exact b.elim;exact b.elim
theorem aFz{C:Ctx}{t:bu}{l:g_}(h:aGa P t=some l):∃ i z,P.info? t=some i/\i.zero=some z/\RL C l z.cells.toList:=by
 unfold aGa at h;cases d:P.info? t with
 |none=>rw[d] at h;simp at h| some i=>
  rw[d] at h;simp only[Option.bind_some] at h;cases b:i.zero with
  |none=>rw[b] at h;simp at h| some z=>
   cases c:shapeOf P 8 t with
   |none=>rw[b,c] at h;simp at h|some e=>rw[b,c] at h;exact⟨i,z,rfl,b,aXu h⟩
theorem ig.G9(h:ig A s a w env)(d:Nat)(t:bu){l:g_}{cs:mg}(hr:RL (aP A w env) l cs.toList) :
  ∃ c,ig A { s with o:=[(d,none,fresh s d,.box t l)]++s.o } a (w.alloc (.cells cs t)) c/\RV (aP A (w.alloc (.cells cs t)) c) (dm (.pt d (fresh s d) 0)) (.pointer (some ⟨w.heap.size,0,none⟩)):=by
 obtain⟨g,i⟩:=h.new (w':=w.alloc (.cells cs t)) d none (kJ w.heap.size) (.box t l) ((Ext.refl w).alloc _) (fun b f=>by cases f;simp) (fun e _=>⟨_,cs,rfl,eu.new w t cs,hr.le e⟩);exact⟨_,g,.w (.one (.pt ⟨_,_,rfl⟩ ⟨_,_,jA _ _ _ _,dE _,fun _=>⟨_,rfl,rfl⟩⟩))⟩
theorem QL(h:ig A s a w env){b:Nat}{t:bu}(g:o.op=.alloc t){l:g_}(e:aGa P t=some l)(j:(M.new b (.box t l) fun v=>.ret (dm (.pt b v 0))).ok none s F)(m:Fin A s a o K F):o.wp P a w K Q:=by obtain⟨i,z,k,c,f⟩:=aFz (C:=aP A w env) e;obtain⟨d,p,n⟩:=h.G9 b t f;refine aX (v:=.pointer (some ⟨w.heap.size,0,none⟩)) (w':=w.alloc (.cells z.cells t)) ?_ (m _ _ _ _ _ j p n);simp[xe,g,Instr.alloc,zeroValue,aBt,k,c,newVar,newRow]
theorem ZR(h:ig A s a w env){b:Nat}{t:bu}{x:uA}(f:o.op=.box t x){c:PW}(e:RW (aP A w env) c (a.eval x))(g:(M.new b (.box t c.cells) fun v=>.ret (dm (.pt b v 0))).ok none s F)(i:Fin A s a o K F):o.wp P a w K Q:=by obtain⟨d,k,j⟩:=h.G9 b t e.cells';refine aX (v:=.pointer (some ⟨w.heap.size,0,none⟩)) (w':=w.alloc (.cells (a.eval x).cells t)) ?_ (i _ _ _ _ _ g k j);simp[xe,f,Instr.box,newVar,newRow]
theorem bGm(h:ig A s a w env){x:uA}{i:Nat}(f:o.op=.extract x i){v:PV}(b:RV (aP A w env) v (a.eval x))(g:(SC (Io v i)).ok none s F)(j:Fin A s a o K F):o.wp P a w K Q:=by
 obtain⟨d,c,k⟩:=bKn g
 cases v<;>simp only[Io] at c<;>try (cases c;done)
 rename_i l;generalize e:a.eval x=q at b;cases b with
 |o7 p b=>obtain⟨u,n,m⟩:=b i d c;refine aX (v:=u) (w':=w) ?_ (j.same h k (.w m));simp[xe,f,e,Instr.extract,n]
theorem Ol (h:ig A s a w env) {t:bu} {x:uA} {f:Nat} (N:o.op=.field t x f) {v:PV} (r:RV (aP A w env) v (a.eval x)) (b:(bOw P t v f).ok none s F) (O:Fin A s a o K F):o.wp P a w K Q:=by
 unfold bOw at b;cases y:P.underlying t with
 |none=>rw[y] at b;exact b.elim| some d=>
  rw[y] at b
  cases d<;>try exact b.elim
  rename_i X;dsimp only at b;cases g:X[f]? with
  |none=>rw[g] at b;exact b.elim| some j=>
   rw[g] at b;dsimp only at b;split at b
   ·rename_i n l c;cases D:tJ l j.offset n with
    |none=>rw[D] at b;exact b.elim| some m=>
     rw[D] at b;obtain⟨Y,U,S⟩:=bKn b;generalize L:a.eval x=q at r;cases r with
     | w r=>cases r with
      | @agg _ B V=>
       obtain⟨T,Z⟩:=V.sub D
       have k:∃ i,P.info? j.type=some i/\i.size=n:=by
        unfold ui at c;cases z:P.info? j.type with
        |none=>rw[z] at c;cases c|some i=>rw[z] at c;exact⟨i,rfl,by simpa using c⟩
       obtain⟨i,z,E⟩:=k;rcases bMm U T with⟨e,J⟩|⟨e,u,C,_,J⟩
       ·refine aX (v:=.agg ((B.toList.drop j.offset).take n).toArray) (w':=w) ?_ (O.same h S (.w J));obtain⟨d,H,W⟩:=aGw e
        have I:(isAgg j.type).run P w=.ok true w:=by
         unfold isAgg;rw[Sem.run_bind,Ha H w]
         cases d<;>simp_all
        have G:B.extract j.offset (j.offset+n)=((B.toList.drop j.offset).take n).toArray:=by apply TC;simp[aKf]
        simp[xe,N,L,Instr.field,Ha y,g,part,I,sizeOf,aBt,z,E,asAgg,G]
       refine aX (v:=u) (w':=w) ?_ (O.same h S (.w J));have p:B[j.offset]?=some u:=by have:=congrArg (·[0]?) C;simp only[yf,aAk,aBK,aBN] at this;split at this;simpa using this;cases this
       simp[xe,N,L,Instr.field,Ha y,g,part,aBw e,p,asAgg]
   exact b.elim
theorem pV{t:bu}{n:Nat}(h:ui P t=some n):∃ i,P.info? t=some i/\i.size=n:=by
 unfold ui at h;cases b:P.info? t with
 |none=>rw[b] at h;cases h|some i=>rw[b] at h;exact⟨i,rfl,by simpa using h⟩
theorem aWi{t:bu}{g:Array Field}{e:Field}{f b off n:Nat}(h:P.underlying t=some (.struct g))(d:g[f]?=some e)(c:ui P e.type=some (n+1))(w:ae) :
  (Instr.fieldAt t (.pointer (some ⟨b,off,none⟩)) f).run P w=.ok (.pointer (some ⟨b,off+e.offset,none⟩)) w:=by
 obtain⟨i,k,j⟩:=pV c;simp[Instr.fieldAt,Ha h,d,Instr.sureAddr,fieldPlace,sizeOf,aBt,k,j,add_lit]
theorem aUe(h:ig A s a w env){t:bu}{x:uA}{f:Nat}(V:o.op=.fieldAddr t x f){p:PV}(z:RV (aP A w env) p (a.eval x))(e:(aDv P t p f).ok none s F)(I:Fin A s a o K F):o.wp P a w K Q:=by
 unfold aDv at e;cases E:P.underlying t with
 |none=>rw[E] at e;exact e.elim| some d=>
  rw[E] at e
  cases d<;>try exact e.elim
  rename_i Z;dsimp only at e;cases l:Z[f]? with
  |none=>rw[l] at e;exact e.elim| some B=>
   rw[l] at e;dsimp only at e;split at e;rename_i n G;have u:=fun b k=>aWi (b:=b) (off:=k) E l G w;have i:∀ b k,a.eval x=.pointer (some ⟨b,k,none⟩)->(xe a.eval o).run P w=.ok (.value (.pointer (some ⟨b,k+B.offset,none⟩))) w:=fun b k J=>by simp[xe,V,J,u b k]
   generalize H:a.eval x=q at z;split at e;cases z.inv with
   |pt L m=>obtain⟨b,r,rfl⟩:=L;refine aX (i b r H) (I.same h e (.w (.one (.pt ⟨_,_,rfl⟩ (m.mono fun X ⟨g,O,N⟩=>?_)))));cases N;exact⟨b,O,rfl⟩
   cases z.inv with
   |pe L m=>obtain⟨b,r,rfl⟩:=L;refine aX (i b r H) (I.same h e (.w (.one (.pe ⟨_,_,rfl⟩ (m.mono fun X ⟨g,y,c0,O,e3,N⟩=>?_)))));cases N;exact⟨b,y,c0,O,e3,by rw[aBH]⟩
   rename_i y S f0 T D;cases z.inv with
   |@pf _ _ _ _ _ _ b r c vs U Y J W=>refine aX (i b _ H) (I.same h e (.w (.one ?_)));have:=R.pf (C:=aP A w env) (j:=D+B.offset) U Y J W;rw[show r+(T*y+D)+B.offset=r+(T*y+(D+B.offset)) from a_];exact this
   exact e.elim;exact e.elim
theorem zJ{v:PV}{u:ag}(h:isLit v=some u):v=qc u:=by unfold isLit at h;split at h;cases h;rfl;cases h
theorem aAa{t e:bu}{b off n len c:Nat}{k:IntKind}{i:Int}(f:P.underlying t=some (.slice e))(d:ui P e=some n)(h0:0<=i)(h1:i<len)(w:ae) :
  (Instr.indexAt t (.slice (some ⟨b,off,none⟩) len c) (.int k i)).run P w=.ok (.pointer (some ⟨b,off+i.toNat*n,none⟩)) w:=by
 obtain⟨j,h,g⟩:=pV d;simp[Instr.indexAt,Ha f,asIntOf,sizeOf,aBt,h,g,h0,h1,add_lit]
theorem rD{t e:bu}{b off n len:Nat}{k:IntKind}{i:Int}(d:P.underlying t=some (.array len e))(c:ui P e=some n)(h0:0<=i)(h1:i<len)(w:ae) :
  (Instr.indexAt t (.pointer (some ⟨b,off,none⟩)) (.int k i)).run P w=.ok (.pointer (some ⟨b,off+i.toNat*n,none⟩)) w:=by
 obtain⟨h,g,f⟩:=pV c;simp[Instr.indexAt,Ha d,asIntOf,sizeOf,aBt,g,f,h0,h1,add_lit,Instr.sureAddr]
theorem aTn(h:ig A s a w env){t:bu}{x y:uA}(ho:o.op=.indexAddr t x y){p iv:PV}(I:RV (aP A w env) p (a.eval x))(hv:RV (aP A w env) iv (a.eval y))(k:(aDq P t p iv).ok none s F)(U:Fin A s a o K F):o.wp P a w K Q:=by
 unfold aDq at k;split at k
 ·rename_i kk i T;have hy:a.eval y=.int kk i:=by rw[zJ T] at hv;exact hv.gu
  have l:∀ q,(Instr.indexAt t (a.eval x) (.int kk i)).run P w=.ok q w->(xe a.eval o).run P w=.ok (.value q) w:=fun q hq=>by simp[xe,ho,hy,hq]
  generalize hq:a.eval x=q at I l;cases G:P.underlying t with
  |none=>rw[G] at k;exact k.elim| some d=>
   rw[G] at k
   cases d<;>try exact k.elim
   ·rename_i e;dsimp only at k;split at k
    ·rename_i n len f;cases r:ui P e with
     |none=>rw[r] at k;exact k.elim| some Z=>
      rw[r] at k;dsimp only at k
      cases L:bz n Z<;>rw[L] at k
      exact k.elim;obtain⟨⟨E,D⟩,B⟩:=k;obtain rfl:=iy L;cases I.inv with
      |@sl _ _ _ _ _ X hr a4 O=>obtain⟨g1,A1,c,rfl,g2,g3,g4⟩:=hr;obtain⟨b,u,rfl,J⟩:=g4 a_;refine aX (l _ (aAa G r E D w)) (U.same h B (.w (.one ?_)));have:=R.pf (C:=aP A w env) (n:=n) (len:=len) (f:=f) (i:=i.toNat) (j:=0) (b:=b) (o:=u) (c:=c) (vs:=X) ⟨g1,_,c,rfl,g2,g3,fun _=>⟨b,u,rfl,J⟩⟩ (a4 b rfl a_) O a_;exact this
    ·rename_i x1 z n u len;cases r:ui P e with
     |none=>rw[r] at k;exact k.elim|some Z=>
      rw[r] at k;dsimp only at k
      cases L:bz n Z<;>rw[L] at k
      exact k.elim;obtain⟨g,vr,ob,a3,k⟩:=k;have a2:=dZ k;clear k;obtain⟨hg,k⟩:=a2;obtain⟨hd,O,a1⟩:=kX h a3 hg
      cases V:bz z vr<;>cases ob<;>simp only[V] at k<;>try exact k.elim
      rename_i e' n2 a6 f;obtain rfl:=iy V;obtain rfl:=iy L;obtain⟨⟨E,D⟩,B⟩:=k;obtain⟨A0,Y,c0,rfl,a7,a0⟩:=I.Ar O;obtain⟨X,S,a8⟩:=a1;rcases S.2 with⟨e0,_⟩|⟨g1,cap,cur,t',fr,e0,_⟩
      cases e0;omega;cases e0;subst a0;simp only[aEH,add_lit] at l I;refine aX (l _ (aAa G r E D w)) (U.same h B (.w (.one (.pe ⟨_,_,rfl⟩ ⟨z,_,O,dE _,fun _=>⟨g1,_,_,rfl,a_,?_⟩⟩))));rw[aAZ,mf,aBK]
    exact k.elim
   rename_i len e;dsimp only at k;split at k;rename_i x1 z u r;obtain⟨⟨E,D⟩,B⟩:=k;cases I.inv with
   |pt H N=>obtain⟨b,W,rfl⟩:=H;refine aX (l _ (rD G r E D w)) (U.same h B (.w (.one (.pk ⟨_,_,rfl⟩ (N.mono fun hd ⟨g,e1,e2⟩=>?_)))));cases e2;exact⟨b,e1,by rw[aBq]⟩
   rename_i Y a5 f i0 j r;obtain⟨⟨E,D⟩,B⟩:=k;cases I.inv with
   |@pf _ _ _ _ _ _ b W c X hr L O hi=>refine aX (l _ (rD G r E D w)) (U.same h B (.w (.one ?_)));have:=R.pf (C:=aP A w env) (i:=i0) (j:=j+i.toNat) hr L O hi;rw[show W+(i0*Y+j)+i.toNat*1=W+(i0*Y+(j+i.toNat)) from a_];exact this
   rename_i m x1 z u r;obtain⟨⟨E,D⟩,B⟩:=k;cases I.inv with
   |pt H N=>obtain⟨b,W,rfl⟩:=H;refine aX (l _ (rD G r E D w)) (U.same h B (.w (.one (.pt ⟨_,_,rfl⟩ (N.mono fun hd ⟨g,e1,e2⟩=>?_)))));cases e2;exact⟨b,e1,rfl⟩
   exact k.elim
 exact k.elim
theorem RV.EH{C:Ctx}{n len:Nat}{f:Nat->g_}{v:ag}(h:RV C (.w (.one (.sl n len f))) v):∃ A c,v=.slice A len c:=by
 cases h.inv with
 |sl b _ _=>obtain⟨_,A,c,rfl,_⟩:=b;exact⟨_,_,rfl⟩
theorem YN(h:ig A s a w env){x:uA}{t:bu}(p:o.op=.call { callee:=.builtin .len,args:=#[x],argTypes:=#[t] }){v:PV}(i:RV (aP A w env) v (a.eval x))(g:(YO P t v).ok none s F)(j:Fin A s a o K F):o.wp P a w K Q:=by
 have d:∀ n:Int,(Builtin.len_ #[t] o.type #[a.eval x]).run P w=.ok (goInt n) w->(xe a.eval o).run P w=.ok (.value (.int .i64 n)) w:=fun n m=>by simp only[xe,p,resolve,aCC,builtin,Sem.run_bind,Sem.run_pure,Result.andThen_ok,aEp,aAJ,aCU,m];rfl
 unfold YO at g;generalize r:a.eval x=q at i d;split at g;rename_i e _ len _ f;obtain⟨l,c,rfl⟩:=i.EH;exact aX (d len (by simp[Builtin.len_,Ha f])) (j.same h g (.w (.one (.lit rfl))));rename_i e _ _ _ _ len f;cases i.inv with
 |ow k _=>obtain⟨l,c,rfl⟩:=k;exact aX (d len (by simp[Builtin.len_,Ha f])) (j.same h g (.w (.one (.lit rfl))))
 rename_i e _ _ _ len f;cases i.inv with
 |ob k _=>obtain⟨l,c,rfl⟩:=k;exact aX (d len (by simp[Builtin.len_,Ha f])) (j.same h g (.w (.one (.lit rfl))))
 rename_i e f;have:=i.gu;subst this;exact aX (d 0 (by simp[Builtin.len_,Ha f])) (j.same h g (.w (.one (.lit rfl))));rename_i b f;have:=i.gu;subst this;exact aX (d b.size (by simp[Builtin.len_,Ha f])) (j.same h g (.w (.one (.lit rfl))));exact g.elim
theorem aLx(off:Nat):∀ (b:jl) (k:Nat) (cells:mg),off+k+b.length<=cells.size ->
  (b.zipIdx k).foldl (fun l p=>l.setIfInBounds (off+p.2) p.1) cells=(over cells.toList (off+k) b).toArray
 |[],k,cells,h=>by simp[over]| y::b,k,cells,h=>by
  rw[List.zipIdx_cons,aEB,aLx off b (k+1) _ (by simp at h ⊢;omega)];apply TC;apply aAX;intro i;simp only[We] at h;have d:cells.toList.length=cells.size:=nz;have c:off+(k+1)+b.length<=(cells.setIfInBounds (off+k) y).toList.length:=by have:(cells.setIfInBounds (off+k) y).toList.length=cells.size:=d_;omega
  have j:=iL (xs:=(cells.setIfInBounds (off+k) y).toList) (ys:=b) (off:=off+(k+1)) c i;have g:=iL (xs:=cells.toList) (ys:=y::b) (off:=off+k) (by rw[d,We];omega) i;rw[j,g,aFK,aED];simp only[We];by_cases f:off+(k+1)<=i/\i<off+(k+1)+b.length;rw[au f,au a_,show i-(off+k)=(i-(off+(k+1)))+1 from a_,List.getElem?_cons_succ];rw[ah f];by_cases e:off+k=i;subst e;rw[au rfl,au a_,au a_,aBa,aBN];rw[ah e,ah a_]
theorem aIw(cells:mg)(v:ag)(off:Nat)(h:off+v.cells.size<=cells.size):v.cells.zipIdx.foldl (fun b (c,j)=>b.setIfInBounds (off+j) c) cells=(over cells.toList off v.cells.toList).toArray:=by have:=aLx off v.cells.toList 0 cells (by simpa using h);rw[<-Array.foldl_toList,Array.toList_zipIdx];exact this
def aMu(C:Ctx)(a:Act):List (Nat×PV)->List (Nat×uA)->Prop
 |[],[]=>True|(i,v)::vs,(j,x)::l=>i=j/\RV C v (a.eval x)/\aMu C a vs l|_,_=>False
theorem RL.bs1{C:Ctx}{m:Nat}{b:di}{xs:jl}(h:RL C [.bs m b] xs):b.length=m/\xs=b.map uh:=by
 cases h with
 |cons e d=>cases d;cases e with|bs c=>exact⟨c,d_⟩
theorem aDy(h:ig A s a w env):∀ {l:List (Nat×uA)} {k:List (Nat×PV)->M},(aPn l k).ok none s F->∃ b,aMu (aP A w env) a b l/\(k b).ok none s F
 |[],k,e=>⟨[],trivial,e⟩|(i,x)::l,k,e=>by obtain⟨pv,g,d⟩:=iR h e;obtain⟨b,f,c⟩:=aDy h d;exact⟨(i,pv)::b,⟨rfl,g,f⟩,c⟩
def Qn(C:Ctx)(a:Act):ji->List uA->Prop
 |[],[]=>True|v::vs,x::l=>RV C v (a.eval x)/\Qn C a vs l|_,_=>False
theorem aFu(h:ig A s a w env):∀ {l:List uA} {k:ji->M},(bPe l k).ok none s F->∃ b,Qn (aP A w env) a b l/\(k b).ok none s F
 |[],k,e=>⟨[],trivial,e⟩|x::l,k,e=>by obtain⟨pv,g,d⟩:=iR h e;obtain⟨b,f,c⟩:=aFu h d;exact⟨pv::b,⟨g,f⟩,c⟩
theorem aUd{C:Ctx}{b:List (Nat×Nat)}:∀ {k:List (Nat×PV)} {l:List (Nat×uA)} {d h:g_} {cells:mg},aMu C a k l->RL C d cells.toList->aLz b k d=some h ->
  ∃ cells',Instr.fill (b[·]?) cells (l.map fun q=>(q.1,a.eval q.2))=some cells'/\RL C h cells'.toList
 |[],[],d,h,cells,_,t,c=>by simp[aLz] at c;subst c;exact⟨cells,rfl,t⟩|[],_::_,_,_,_,g,_,_=>g.elim|_::_,[],_,_,_,g,_,_=>g.elim| (i,v)::k,(j,x)::l,d,h,cells,g,t,c=>by
  obtain⟨rfl,r,g⟩:=g;unfold aLz at c
  cases v<;>try (simp at c;done)
  rename_i u;cases f:b[i]? with
  |none=>rw[f] at c;simp at c| some q=>
   obtain⟨e,n⟩:=q;rw[f] at c;dsimp only at c
   cases B:bz n (widths u.cells)<;>cases y:splice d e u.cells<;>simp only[B,y] at c<;>try (cases c;done)
   rename_i m;cases r with
   |w r=>
    have z:=r.cells';obtain⟨E,D⟩:=aGo t z y;have I:(a.eval x).cells.size=n:=by rw[iy B,<-z.width,nz]
    have p:e+(a.eval x).cells.size<=cells.size:=by simpa using D
    obtain⟨cells',H,G⟩:=aUd (cells:=(over cells.toList e (a.eval x).cells.toList).toArray) g (by simpa using E) c;refine⟨cells',?_,G⟩;rw[aAJ,Instr.fill];dsimp only;rw[f];dsimp only;rw[ah l7,aIw cells _ e p];exact H
theorem QA(h:ig A s a w env){t:bu}{g:Array (Nat×uA)}(ho:o.op=.build t g){vs:List (Nat×PV)}(U:aMu (aP A w env) a vs g.toList){l:g_}(hz:aGa P t=some l)(k:(bRl P t vs l).ok none s F)(V:Fin A s a o K F):o.wp P a w K Q:=by
 obtain⟨i,z,hi,L,hr⟩:=aFz (C:=aP A w env) hz;unfold bRl at k;have p:∀ cells,P.built t (g.map fun x=>(x.1,a.eval x.2)).toList=some cells->(xe a.eval o).run P w=.ok (.value (.agg cells)) w:=fun cells hb=>by simp[xe,ho,run_build w t _ cells hb]
 cases T:P.underlying t with
 |none=>rw[T] at k;exact k.elim| some d=>
  rw[T] at k
  cases d<;>try exact k.elim
  rename_i n e;dsimp only at k;split at k;rename_i m B a1;obtain⟨S,a3,O⟩:=pV a1;have c:=hr.bs1;have a5:z.cells.size=m:=by rw[<-nz,c.2,aAB,c.1]
  have a4:z.cells=(B.map uh).toArray:=by apply TC;simpa using c.2
  have u:∀ (l:di) (i:Nat) (b:Int),l.length=m->i<m->0<=b->b<256->Instr.fill (fun i=>some (i*S.size,S.size)) (l.map uh).toArray [(i,.int .u8 b)]=some ((l.set i (xy b.toNat)).map uh).toArray:=by
   intro l i b hl hi h0 h1;have a0:uh (xy b.toNat)=.int .u8 b:=by show gp .u8 (((xy b.toNat).toNat:Nat):Int)=.int .u8 b;rw[aJx (show b.toNat<256 by omega)];congr 1;omega
   rw[O,Instr.fill];dsimp only;rw[aBq,ah (by simp[Value.cells];omega),Instr.fill,aIw _ _ _ (by simp[Value.cells];omega)];congr 2;have:=bLp l i (xy b.toNat) [] a_;rw[AC,AC,mf,a0] at this;exact this
  have q:∀ W cells,Instr.fill (fun i=>some (i*S.size,S.size)) (B.map uh).toArray W=some cells->P.built t W=some cells:=by intro W cells r;unfold Program.built;simp only[hi,T,L,a3,a4];exact r
  split at k
  match r:g.toList,U with
  |[],_=>refine aX (p (B.map uh).toArray ?_) (V.same h k (.w (.agg (by simpa using RL.cons (R.bs c.1) RL.nil))));refine q _ _ ?_;rw[aGI,r];rfl
  rename_i E G;obtain⟨⟨c1,c2,c3⟩,hF⟩:=k
  match r:g.toList,U with
  |[(j,x)],⟨H,Z,_⟩=>subst H;refine aX (p ((B.set E (xy G.toNat)).map uh).toArray ?_) (V.same h hF (.w (.agg (by simpa using RL.cons (R.bs (show (B.set E (xy G.toNat)).length=m by rw[aAA];exact c.1)) RL.nil))));refine q _ _ ?_;rw[aGI,r,aAJ,aCU,Z.gu];exact u B E G c.1 c1 c2 c3|(_::_::_),h=>exact h.2.2.elim
  rename_i E G X b2;obtain⟨⟨c1,d1,c2,c3,d2,d3⟩,hF⟩:=k
  match r:g.toList,U with
  |[(j,x),(j2,y)],⟨H,Z,N,Y,_⟩=>subst H N;refine aX (p (((B.set E (xy G.toNat)).set X (xy b2.toNat)).map uh).toArray ?_) (V.same h hF (.w (.agg (by simpa using RL.cons (R.bs (show ((B.set E (xy G.toNat)).set X (xy b2.toNat)).length=m by rw[aAA,aAA];exact c.1)) RL.nil))));refine q _ _ ?_;rw[aGI,r,aAJ,aAJ,aCU,Z.gu,Y.gu];have J:=u B E G c.1 c1 c2 c3;have e2:=u (B.set E (xy G.toNat)) X b2 (by rw[aAA];exact c.1) d1 d2 d3;rw[Instr.fill] at J ⊢;dsimp only at J ⊢;split at J;cases J;rename_i a2;rw[ah a2];rw[Instr.fill] at J;have e3:=Option.some.inj J;rw[e3];exact e2|[_],h=>exact h.2.2.elim|(_::_::_::_),h=>exact h.2.2.2.2.elim
  exact k.elim;exact k.elim;rename_i fs;dsimp only at k;cases hm:fs.toList.mapM (fun f=>(P.info? f.type).map fun i=>(f.offset,i.size)) with
  |none=>rw[hm] at k;exact k.elim| some D=>
   rw[hm] at k;dsimp only at k;cases I:aLz D vs l with
   |none=>rw[I] at k;exact k.elim|some l'=>rw[I] at k;obtain⟨cells',h1,h2⟩:=aUd U hr I;refine aX (p cells' ?_) (V.same h k (.w (.agg h2)));unfold Program.built;simp only[hi,T,L,hm];rw[<-h1];simp
theorem aDf{t e n b:Nat}(h:VR P t=some (e,n,b)):AZ P t e n b:=by
 unfold VR at h;cases f:P.underlying t with
 |none=>rw[f] at h;cases h| some d=>
  rw[f] at h
  cases d<;>try (cases h;done)
  rename_i q;dsimp only at h;cases g:P.info? q with
  |none=>rw[g] at h;cases h| some i=>
   rw[g] at h;dsimp only at h;cases c:i.zero with
   |none=>rw[c] at h;cases h|some z=>
    rw[c] at h;dsimp only at h
    cases p:bz z.cells.size i.size<;>cases m:XN 0 i.size<;>cases l:XN 0 i.bytes<;>simp only[p,m,l] at h<;>try (cases h;done)
    cases h;have k:1<=i.size:=by simpa[XN] using m
    have j:1<=i.bytes:=by simpa[XN] using l
    exact⟨f,⟨i,z,g,c,rfl,rfl,iy p⟩,k,j⟩
theorem ig.Ll(h:ig A s a w env)(d:Nat)(n len cap:Nat){t:bu}{k:Nat×Nat}{f:Nat->g_}{cs:mg}{xs:jl}(m:xs.length=len*n)(hc:len<=cap)(q:cap<=uu)(j:cs.size=cap*n)(p:cs.toList.take (len*n)=xs)
  (hr:∀ i,i<len->RL (aP A w env) (f i) ((xs.drop (i*n)).take n)) {w':ae} (x:Ext w w') (l:w'.heap[w.heap.size]?=some (.cells cs t k)) (g:cs.size<=k.1) :
  ∃ c,ig A { s with o:=[(d,none,fresh s d,.arr Gx n len f)]++s.o } a w' c/\RV (aP A w' c) (dm (.ow d (fresh s d) n 0 len)) (.slice (some ⟨w.heap.size,0,none⟩) len cap):=by
 obtain⟨y,z⟩:=h.new (w':=w') d none (.slice (some ⟨w.heap.size,0,none⟩) len cap) (.arr Gx n len f) x (fun b u=>by cases u;exact⟨lt_of_heap l,dE _⟩)
  (fun e _=>⟨xs,⟨m,.inr ⟨_,cap,cs,t,k,rfl,l,.inr ⟨rfl,g⟩,hc,q,j,p⟩⟩,fun i r=>(hr i r).le e⟩)
 refine⟨_,y,.w (.one (.ow ⟨_,_,rfl⟩ ⟨_,_,jA _ _ _ _,dE _,fun _=>⟨_,_,_,rfl,a_,?_⟩⟩))⟩;simp[add_lit]
theorem ig.G8(h:ig A s a w env)(d:Nat)(e n len cap:Nat){f:Nat->g_}{cs:mg}{xs:jl}(l:xs.length=len*n)(hc:len<=cap)(p:cap<=uu)(j:cs.size=cap*n)(m:cs.toList.take (len*n)=xs)
  (hr:∀ i,i<len->RL (aP A w env) (f i) ((xs.drop (i*n)).take n)) {w':ae} (t:Ext w w') (k:w'.heap[w.heap.size]?=some (.cells cs e (0,0))) :
  ∃ c,ig A { s with o:=[(d,none,fresh s d,.arr e n len f)]++s.o } a w' c/\RV (aP A w' c) (dm (.ow d (fresh s d) n 0 len)) (.slice (some ⟨w.heap.size,0,none⟩) len cap):=by
 obtain⟨u,x⟩:=h.new (w':=w') d none (.slice (some ⟨w.heap.size,0,none⟩) len cap) (.arr e n len f) t (fun b r=>by cases r;exact⟨lt_of_heap k,dE _⟩)
  (fun g _=>⟨xs,⟨l,.inr ⟨_,cap,cs,e,(0,0),rfl,k,.inl ⟨rfl,rfl⟩,hc,p,j,m⟩⟩,fun i q=>(hr i q).le g⟩)
 refine⟨_,u,.w (.one (.ow ⟨_,_,rfl⟩ ⟨_,_,jA _ _ _ _,dE _,fun _=>⟨_,_,_,rfl,a_,?_⟩⟩))⟩;simp[add_lit]
theorem aHr{C:Ctx}{n:Nat}:∀ {c:List (Nat×PV)} {l:List (Nat×uA)} {k:Nat} {b:List g_} {cells:mg},aMu C a c l->Zx n k c=some b->(k+c.length)*n<=cells.size ->
  ∃ h:jl,Instr.fill (fun i=>some (i*n,n)) cells (l.map fun q=>(q.1,a.eval q.2))=some (over cells.toList (k*n) h).toArray/\h.length=c.length*n/\b.length=c.length/\∀ i,i<b.length->RL C (b.getD i []) ((h.drop (i*n)).take n)
 |[],[],k,b,cells,_,e,_=>by simp[Zx] at e;subst e;exact⟨[],by simp[Instr.fill,over],d_,rfl,fun i J=>by simp at J⟩|[],_::_,_,_,_,m,_,_=>m.elim|_::_,[],_,_,_,m,_,_=>m.elim| (i,v)::c,(j,x)::l,k,b,cells,m,e,hsz=>by
  obtain⟨rfl,u,m⟩:=m;unfold Zx at e
  cases B:bz i k<;>cases v<;>cases y:Zx n (k+1) c<;>simp only[B,y] at e<;>try (cases e;done)
  rename_i G r
  cases p:bz (widths G.cells) n<;>rw[p] at e
  cases e;cases e;obtain rfl:=iy B;cases u with
  | w u=>
   have z:=u.cells';have g:(a.eval x).cells.toList.length=n:=by rw[z.width,iy p]
   have I:(a.eval x).cells.size=n:=by rw[<-nz];exact g
   simp only[We] at hsz;have f:cells.toList.length=cells.size:=nz;have V:(i+(c.length+1))*n=i*n+n+c.length*n:=by rw[aAZ,aAZ,aBX];omega
   have U:(i+1)*n=i*n+n:=by rw[aAZ,aBX]
   have T:(i+1+c.length)*n=i*n+n+c.length*n:=by rw[aAZ,aAZ,aBX]
   have d:(over cells.toList (i*n) (a.eval x).cells.toList).length=cells.size:=by rw[pG (by rw[g,f];omega),f]
   obtain⟨h,O,t,N,L⟩:=aHr (cells:=(over cells.toList (i*n) (a.eval x).cells.toList).toArray) m y (by rw[aBM,d];omega);refine⟨(a.eval x).cells.toList++h,?_,by rw[gz,g,t,We,aAZ,aBX,aBS],by simp[N],fun q H=>?_⟩;rw[aAJ,Instr.fill];dsimp only;rw[ah l7,aIw cells _ (i*n) a_,O];congr 2;simp only[] at d ⊢;apply aAX;intro q;rw[iL (by rw[d,t];omega),iL (by rw[g,f];omega),iL (by rw[gz,g,t,f];omega)];rw[gz,g,t];by_cases E:(i+1)*n<=q/\q<(i+1)*n+c.length*n;rw[au E,au a_,aBi a_,g];congr 1;omega;rw[ah E];by_cases D:i*n<=q/\q<i*n+n;rw[au D,au a_,aBD a_];rw[ah D,ah a_];cases q with
   |zero=>rw[aDN,aBk,aDM a_,WF a_];exact z| succ q=>
    have:=L q (by simpa using H);have S:((a.eval x).cells.toList++h).drop ((q+1)*n)=h.drop (q*n):=by rw[show (q+1)*n=n+q*n from by rw[aAZ,aBX];exact aBS _ _,<-aCW,List.drop_left' g]
    rw[List.getD_cons_succ,S];exact this
theorem aPz(h:ig A s a w env){G:Nat}{t len:Nat}{b:Array (Nat×uA)}(J:o.op=.buildSlice t len b){vs:List (Nat×PV)}(V:aMu (aP A w env) a vs b.toList)(f:(aBf P G t len vs).ok none s F)(X:Fin A s a o K F):o.wp P a w K Q:=by
 unfold aBf at f;cases g:VR P t with
 |none=>rw[g] at f;exact f.elim| some q=>
  obtain⟨e,n,a0⟩:=q;rw[g] at f;dsimp only at f
  cases m:Zx n 0 vs<;>cases L:bz vs.length len<;>cases r:aBT (len*n) 16777216<;>simp only[m,L,r] at f<;>try exact f.elim
  rename_i O;obtain⟨H,⟨S,z,B,U,c,Y,T⟩,l,Z⟩:=aDf g;obtain rfl:=iy L;have p:vs.length*n<=16777216:=aBO r;obtain⟨d,y,u,h3,h4⟩:=aHr (a:=a) (k:=0) (cells:=(Array.range (vs.length*n)).map (z.cells[· % z.cells.size]!)) V m d_;rw[aDN] at y;have D:(over ((Array.range (vs.length*n)).map (z.cells[· % z.cells.size]!)).toList 0 d)=d:=by unfold over;rw[aEG,IR,mf,aCV (by simp[u]),AC]
  rw[D] at y;have W:vs.length<=16777216:=ry (Nat.le_mul_of_pos_right _ l) p;obtain⟨N,g1,g2⟩:=h.G8 G e n vs.length vs.length (cs:=d.toArray) (xs:=d) u (dE _) (by unfold uu;omega) (by simpa using u) (by rw[List.toList_toArray,<-u,List.take_length]) (fun i B=>h4 i (by rw[h3];exact B)) (w':=w.alloc (.cells d.toArray e)) ((Ext.refl w).alloc _) (aDd w _);refine aX (v:=.slice (some ⟨w.heap.size,0,none⟩) vs.length vs.length) (w':=w.alloc (.cells d.toArray e)) ?_ (X _ _ _ _ _ f g1 g2);by_cases C:vs.length*n=0;have j:d=[]:=List.eq_nil_of_length_eq_zero (by rw[u];exact C);have I:(b.map fun x=>(x.1,a.eval x.2)).toList=b.toList.map fun x=>(x.1,a.eval x.2):=d_;have E:Instr.fill (fun i=>some (i*n,n)) #[] (b.toList.map fun x=>(x.1,a.eval x.2))=some #[]:=by rw[C,j,show Array.range 0=#[] from rfl] at y;simpa using y
  simp[xe,J,Instr.buildSlice,Ha H,sizeOf,aBt,B,c,C,newRow,j,show Array.range 0=(#[]:Array Nat) from rfl,E];have:=run_buildSlice (P:=P) w t e vs.length (b.map fun x=>(x.1,a.eval x.2)) d.toArray S z H B U (by rw[c];omega) (by rw[c];exact C) (by rw[c];simpa using y);simp[xe,J,this]
def Bnd(d:Int)(x:Option ag)(i:Int):Prop:=(x=none/\i=d)\/∃ k,x=some (.int k i)
theorem xO{len cap:Nat}{c d:Option ag}{l h:Int}(f:Bnd 0 c l)(e:Bnd len d h)(h0:0<=l)(h1:l<=h)(h2:h<=len)(hc:len<=cap)(b:Bool)(w:ae) :
  (Instr.sliceBounds b len cap c d none).run P w=.ok (l.toNat,h.toNat,cap) w:=by
 rcases f with⟨rfl,rfl⟩|⟨k,rfl⟩<;>rcases e with⟨rfl,rfl⟩|⟨g,rfl⟩
 simp[Instr.sliceBounds];simp[Instr.sliceBounds,Instr.sliceBound,asIntOf,show 0<=h by omega,show h<=(cap:Int) by omega];simp[Instr.sliceBounds,Instr.sliceBound,asIntOf,h0,show l<=(len:Int) by omega];simp[Instr.sliceBounds,Instr.sliceBound,asIntOf,show 0<=h by omega,show h<=(cap:Int) by omega,h0,show l<=max h 0 by omega]
def VW(C:Ctx)(a:Act):Option uA->Option PV->Prop
 |none,none=>True|some x,some v=>RV C v (a.eval x)|_,_=>False
theorem bCk(h:ig A s a w env){x:Option uA}{k:Option PV->M}(b:(Oz x k).ok none s F):∃ pv,VW (aP A w env) a x pv/\(k pv).ok none s F:=by
 cases x with
 |none=>exact⟨none,trivial,b⟩|some x=>obtain⟨pv,d,c⟩:=iR h b;exact⟨some pv,d,c⟩
theorem lG(vs:jl){n l m i:Nat}(c:i<m):((((vs.drop (l*n)).take (m*n)).drop (i*n)).take n)=(vs.drop ((l+i)*n)).take n:=by apply aAX;intro q;have d:(i+1)*n<=m*n:=aBB n c;rw[aAZ,aBX] at d;have e:(l+i)*n=l*n+i*n:=aAZ _ _ _;rw[yf,aAk,yf,aAk,yf,aAk];by_cases b:q<n;rw[au b,au b,au a_];congr 1;omega;rw[ah b,ah b]
theorem JL(h:ig A s a w env){t:bu}{x:uA}{T hi:Option uA}(ho:o.op=.slice t x T hi none){p:PV}(hp:RV (aP A w env) p (a.eval x)){lv hv:Option PV}
  (hl:VW (aP A w env) a T lv) (N:VW (aP A w env) a hi hv)
  (r:(bJj P t p lv hv).ok none s F) (hf:Fin A s a o K F):o.wp P a w K Q:=by
 have B:∀ {d:Int} {x:Option uA} {xv:Option PV} {k:Int->M},VW (aP A w env) a x xv ->
   (Ht d xv k).ok none s F->∃ i,Bnd d (x.map a.eval) i/\(k i).ok none s F:=by
  intro d x xv k hx r;unfold Ht at r
  cases x<;>cases xv<;>try exact hx.elim
  exact⟨d,.inl ⟨rfl,rfl⟩,r⟩;rename_i x v;dsimp only at r;split at r;rename_i kk i Y;rw[zJ Y] at hx;have:a.eval x=.int kk i:=RV.gu (show RV _ _ _ from hx);exact⟨i,.inr ⟨kk,by rw[aEH,this]⟩,r⟩;exact r.elim
 unfold bJj at r;cases H:P.underlying t with
 |none=>rw[H] at r;exact r.elim| some d=>
  rw[H] at r
  cases d<;>try exact r.elim
  dsimp only at r;split at r;rename_i b;have z:=B (x:=T) hl r;clear r;obtain⟨l,O,r⟩:=z;have z:=B (x:=hi) N r;clear r;obtain⟨y,S,r⟩:=z;obtain⟨⟨h0,h1,h2⟩,hF⟩:=r;have hq:=hp.gu;have D:=xO (P:=P) (cap:=b.size) O S h0 h1 h2 (dE _) false w;refine aX (v:=.string (b.extract l.toNat y.toNat)) (w':=w) ?_ (hf.same h hF (.w (.one (.lit rfl))));have a4:∀ m e',P.underlying t≠some (.array m e'):=by rw[H];intro m e' N;cases N
  simp[xe,ho,hq,Instr.sliceAt,Ha H,Instr.slice,D];exact r.elim
  ·rename_i e;dsimp only at r;split at r
   ·rename_i n len f;cases C:ui P e with
    |none=>rw[C] at r;exact r.elim| some n'=>
     rw[C] at r;dsimp only at r
     cases hb:bz n n'<;>rw[hb] at r
     exact r.elim;obtain rfl:=iy hb;dsimp only at r;have z:=B (x:=T) hl r;clear r;obtain⟨l,O,r⟩:=z;have z:=B (x:=hi) N r;clear r;obtain⟨y,S,r⟩:=z;obtain⟨⟨h0,h1,h2⟩,hF⟩:=r;generalize hq:a.eval x=q at hp;cases hp.inv with
     |@sl _ _ _ _ _ vs hr b0 he=>
      obtain⟨g1,A1,c,rfl,g2,g3,g4⟩:=hr;obtain⟨ie,G,I⟩:=pV C;have D:=xO (P:=P) (cap:=c) O S h0 h1 h2 g2 true w;refine aX (v:=.slice (if c=l.toNat then A1 else A1.map (·.add (l.toNat*n))) (y.toNat-l.toNat) (c-l.toNat)) (w':=w) ?_ (hf.same h hF (.w (.one ?_)));have a4:∀ m e',P.underlying t≠some (.array m e'):=by rw[H];intro m e' N;cases N
      simp[xe,ho,hq,Instr.sliceAt,Ha H,Instr.slice,D,sizeOf,aBt,G,I];have V:(y-l).toNat=y.toNat-l.toNat:=a_;rw[V];have b1:y.toNat<=len:=a_;have W:(l.toNat+(y.toNat-l.toNat))*n<=len*n:=aBB n a_;rw[aAZ] at W;refine R.sl (vs:=(vs.drop (l.toNat*n)).take ((y.toNat-l.toNat)*n)) ⟨l7,_,_,rfl,a_,a_,fun a6=>?_⟩ (fun g hg a6=>?_) (fun i a8=>?_);obtain⟨b,o1,rfl,E⟩:=g4 a_;rw[ah a_];refine⟨b,o1+l.toNat*n,by simp[add_lit],fun j u Z=>?_⟩;rw[yf] at Z;split at Z;rw[aAk] at Z;have:=E _ u Z;rwa [<-aBH] at this;cases Z;obtain⟨b,o1,rfl,E⟩:=g4 a_;rw[ah a_] at hg;simp only[aEH,add_lit,aAC,Option.some.injEq] at hg;subst hg;exact b0 b rfl a_;rw[lG vs a8];exact he _ a_
   exact r.elim
  ·rename_i n e;dsimp only at r;split at r
   ·rename_i x1 J L C;obtain⟨g,vr,ob,a9,r⟩:=r;have a7:=dZ r;clear r;obtain⟨hg,r⟩:=a7;obtain⟨hd,a0,a3⟩:=kX h a9 hg
    cases hb:bz J vr<;>cases ob<;>simp only[hb] at r<;>try exact r.elim
    rename_i bt l;obtain rfl:=iy hb;cases hs:AO l L with
    |none=>rw[hs] at r;exact r.elim| some q=>
     obtain⟨m,bs⟩:=q;rw[hs] at r;dsimp only at r
     cases a2:bz m n<;>cases a1:aBT n 65536<;>simp only[a2,a1] at r<;>try exact r.elim
     obtain rfl:=iy a2;obtain⟨ie,G,I⟩:=pV C;obtain⟨g1,rfl,U⟩:=hp.Ba a0
     cases T<;>cases hi<;>try (first|exact hl.elim|exact N.elim)
     obtain⟨g2,cs,e2,hB,hR⟩:=a3;cases e2;obtain⟨k1,k2,k3⟩:=qZ hR hs;have hF:F none (dm (.ob x1 J L m)) []:=r;have a5:m<=uu:=by have:=aBO a1;unfold uu;omega
     refine aX (v:=.slice (some ⟨g1,L,none⟩) m m) (w':=w) ?_ (hf.same h hF (.w (.one (.ob ⟨_,_,rfl⟩ ⟨J,_,a0,dE _,fun _=>⟨g1,m,rfl,dE _,a5,rfl⟩⟩))));by_cases X:m=0;subst X;simp[xe,ho,U,Instr.sliceAt,Ha H,Instr.sureAddr,Instr.sliceBounds,sizeOf,aBt,G];simp[xe,ho,U,Instr.sliceAt,Ha H,Instr.sureAddr,Instr.sliceBounds,sizeOf,aBt,G,Addr.add]
   exact r.elim
theorem oZ{w:ae}{n len off m:Nat}{f:Option Addr}{d:Nat}{vs:jl}(hn:off+m<=len)(h:Reads w n (.slice f len d) len vs):Reads w n (.slice (f.map (·.add (off*n))) m (d-off)) m ((vs.drop (off*n)).take (m*n)):=by obtain⟨r,x,t,e,q,p,k⟩:=h;cases e;have g:(off+m)*n<=len*n:=aBB n hn;rw[aAZ] at g;refine⟨l7,_,_,rfl,a_,a_,fun l=>?_⟩;obtain⟨b,o,rfl,i⟩:=k a_;refine⟨b,o+off*n,by simp[add_lit],fun j u c=>?_⟩;rw[yf] at c;split at c;rw[aAk] at c;have:=i _ u c;rwa [<-aBH] at this;cases c
theorem qE(C:Ctx)(l:di)(i:Nat)(b:i<l.length):RL C (oz l i) (((l.map uh).drop (i*1)).take 1):=by
 have:((l.map uh).drop (i*1)).take 1=[uh (l.getD i 0)]:=by
  apply aAX;intro q;rw[yf,aAk,aBq];cases q with
  |zero=>rw[au a_,aBK,sJ l i b];rfl|succ q=>rw[ah a_];simp
 rw[this];exact .cons (.lit rfl) .nil
theorem Uz(C:Ctx):C.cold.Le C:=⟨dE _,fun _ _ h=>⟨h,rfl⟩,fun _ _ _ h=>by cases h⟩
theorem vW{C:Ctx}{n m:Nat}{f:Nat->g_}{b:jl}(hl:b.length=m*n)(h:∀ i,i<m->RL C (f i) ((b.drop (i*n)).take n)):dN b:=by
 intro u e;obtain⟨j,d,rfl⟩:=List.mem_iff_getElem.1 e;have g:0<n:=by rcases aCE n with c|c;rw[c,Nat.mul_zero] at hl;omega;exact c
 have k:j / n<m:=Nat.div_lt_of_lt_mul (by rw[aFA,<-hl];exact d);refine (h (j / n) k).ones _ ?_;have p:j / n*n+j % n=j:=Nat.div_add_mod' j n;have l:j % n<n:=Nat.mod_lt _ g;refine aCH (i:=j % n) ?_;rw[yf,au l,aAk,p,zH d]
theorem src_ok(h:ig A s a w env){n:Nat}{v:PV}{val:ag}(S:RV (aP A w env) v val){k:Nat->(Nat->g_)->M}(b:(J_ n v k).ok none s F) :
  ∃ m f y,Reads w n val m y/\(∀ i,i<m->RL (aP A w env) (f i) ((y.drop (i*n)).take n))/\(k m f).ok none s F:=by
 unfold J_ at b;split at b
 ·rename_i Y len f
  cases z:bz n Y<;>rw[z] at b
  exact b.elim;obtain rfl:=iy z;cases S.inv with
  |sl hr b3 he=>exact⟨len,f,_,hr,fun i N=>(he i N).le (Uz _),b⟩
 ·rename_i x B Y d len;obtain⟨g,W,X,E,b⟩:=b;have D:=dZ b;clear b;obtain⟨hg,b⟩:=D;obtain⟨hd,G,C⟩:=kX h E hg
  cases z:bz B W<;>cases r:bz n Y<;>cases X<;>simp only[z,r] at b<;>try exact b.elim
  rename_i e m J f;obtain rfl:=iy z;obtain rfl:=iy r
  cases O:bz n m<;>rw[O] at b
  exact b.elim;obtain rfl:=iy O;obtain⟨a1,b⟩:=b;have L:d+len<=J:=a1;obtain⟨A0,n0,c0,rfl,a6,rfl⟩:=S.Ar G;obtain⟨vs,p,a2⟩:=C;refine⟨len,_,(vs.drop (d*n)).take (len*n),?_,fun i N=>?_,b⟩;have hm:(d+len)*n<=J*n:=aBB n L;rw[aAZ] at hm;have a7:=p.1;rcases p.2 with⟨U,rfl⟩|⟨T,cap,cur,t',fr,U,a9,b0,a8,b2,b1,Z⟩;cases U;have h0:len=0:=a_;subst h0;have h1:d=0:=a_;subst h1
  exact⟨d_,_,_,rfl,a_,a_,fun h=>a_⟩;have t:=aSo (g:=T) (by rw[<-U];exact p);cases U;refine⟨l7,_,_,rfl,a_,a_,fun hn=>⟨T,d*n,by simp[add_lit],fun j u I=>?_⟩⟩;have:=kS t (d*n) (len*n) j u I;rwa [mf] at this;rw[lG vs N];exact a2 _ a_
 ·rename_i x B d len;obtain⟨g,W,X,E,b⟩:=b;have D:=dZ b;clear b;obtain⟨hg,b⟩:=D;obtain⟨hd,G,C⟩:=kX h E hg
  cases z:bz B W<;>cases r:bz n 1<;>cases X<;>simp only[z,r] at b<;>try exact b.elim
  rename_i bt l;obtain rfl:=iy z;obtain rfl:=iy r;cases hs:AO l d with
  |none=>rw[hs] at b;exact b.elim| some q=>
   obtain⟨m,V⟩:=q;rw[hs] at b;obtain⟨a0,b⟩:=b;have a5:len<=m:=a0;obtain⟨T,c,rfl,a4,a3,rfl⟩:=S.LY G;obtain⟨g2,cs,e2,hB,hR⟩:=C;cases e2;obtain⟨k1,k2,k3⟩:=qZ hR hs;have t:=kS hB.range d m;rw[mf,k2] at t;refine⟨len,_,(V.map uh).take len,⟨l7,_,c,rfl,a4,a3,fun hn=>⟨T,d,rfl,fun j u I=>?_⟩⟩,fun i N=>?_,b⟩;rw[yf] at I;split at I;exact t j u I;cases I;have H:=sJ V i a_
   have e1:(((V.map uh).take len).drop (i*1)).take 1=[uh (V.getD i 0)]:=by
    apply aAX;intro q;rw[yf,aAk,yf,aBq];cases q with
    |zero=>rw[au a_,au a_,aBK,H];rfl|succ q=>rw[ah a_];simp
   rw[e1];exact .cons (.lit rfl) .nil
 have:=S.gu;subst this;exact⟨0,_,[],Reads.nil w n,fun i N=>a_,b⟩;exact b.elim
theorem aMs{C:Ctx}{n b k:Nat}{f f':Nat->g_}{vs c:jl}(hl:vs.length=b*n)(h1:∀ i,i<b->RL C (f i) ((vs.drop (i*n)).take n))(h2:∀ i,i<k->RL C (f' i) ((c.drop (i*n)).take n)) :
  ∀ i,i<b+k->RL C (ru b f f' i) (((vs++c).drop (i*n)).take n):=by
 intro i g;unfold ru;by_cases h:i<b;rw[au h];have d:(i+1)*n<=b*n:=aBB n h;rw[aAZ,aBX] at d;rw[aKg a_,aDM l7];exact h1 i h;rw[ah h];have e:i*n=b*n+(i-b)*n:=by rw[<-aAZ];congr 1;omega
 rw[e,<-aCW,List.drop_left' hl];exact h2 _ a_
theorem bRz(h:ig A s a w env){nm t:Nat}{x y:uA}(ho:o.op=.call { callee:=.builtin .append,args:=#[x,y],argTypes:=#[t,t] }){p v:PV}(hp:RV (aP A w env) p (a.eval x))(hv:RV (aP A w env) v (a.eval y))(d:(aZt P nm t p v).ok none s F)(hf:Fin A s a o K F):o.wp P a w K Q:=by
 unfold aZt at d;cases T:VR P t with
 |none=>rw[T] at d;exact d.elim| some q=>
  obtain⟨e,n,b1⟩:=q;rw[T] at d;dsimp only at d;have hT:=aDf T;split at d
  ·rename_i x1 J n' a2 len;obtain⟨g,vr,ob,a5,d⟩:=d;have H:=dZ d;clear d;obtain⟨hg,d⟩:=H;obtain⟨hd,L,a4⟩:=kX h a5 hg
   cases D:bz J vr<;>cases a1:bz n n'<;>cases a0:bz a2 0<;>cases ob<;>simp only[D,a1,a0] at d<;>try exact d.elim
   rename_i e' m E f;obtain rfl:=iy D;obtain rfl:=iy a1;obtain rfl:=iy a0
   cases Z:bz n m<;>cases I:(bz e e'&&XN e Gx)<;>simp only[Z,I] at d<;>try exact d.elim
   rw[zg] at I;obtain⟨I,a7⟩:=I;obtain rfl:=iy Z;obtain rfl:=iy I;obtain⟨X,d⟩:=d;have S:len=E:=X;have H:=src_ok h hv d;clear d;obtain⟨k,f',G,z,l,d⟩:=H;obtain⟨j,d⟩:=d;have hF:=d.2;obtain⟨A0,n0,c0,rfl,a8,O⟩:=hp.Ar L;obtain⟨vs,c,a6⟩:=a4;have c:=c.plain a7;have a3:a.eval x=.slice A0 n0 c0:=by rw[O];rcases c.2 with⟨W,_⟩|⟨g1,cap,cur,W,_⟩;cases W;have:len=0:=a_;subst this;rfl;cases W;simp[add_lit,S]
   refine bAb ho hT a3 c rfl z (vW z.1 l) j (x8 _) (fun N c' w' V h3 r=>?_);have a9:∀ b,(aAP A0 n0 c0).ownBlock=some b->b<w.heap.size:=fun b D=>(c.lt b D).2
   obtain⟨U,C⟩:=h.upd x1 none (J+1) (.slice N (E+k) c') (.arr e n (E+k) (ru E f f')) (h3.mono fun b _ D=>⟨J,_,L,by cases A0<;>exact D⟩) (fun v b0 W=>by rw[L] at W;cases W;exact .inl (aDB _))
    (
     fun b D=>by
     have u:(aAP N (E+k) c').ownBlock=some b:=by cases N<;>exact D
     refine⟨(V.lt b u).2,?_⟩;rcases r with r|⟨g1,r,h5,_⟩
     ·refine .inr ⟨J,_,L,?_⟩;rw[u] at r
      cases A0<;>exact r.symm
     rw[u] at r;cases r;exact .inl h5)
    (fun C _=>⟨vs++G,aAr (B:=0) ⟨by simp[c.1,z.1,aAZ],V.2⟩,aMs c.1 (fun i Y=>(a6 i Y).le C) (fun i Y=>(l i Y).le C)⟩)
   refine hf _ _ _ _ _ hF U (.w (.one (.ow ⟨_,_,rfl⟩ ⟨_,_,jA _ _ _ _,dE _,fun _=>⟨_,_,_,rfl,a_,?_⟩⟩)));cases N with
   |none=>simp|some ad=>simp[Addr.add]
  ·have O:=hp.gu;have H:=src_ok h hv d;clear d;obtain⟨k,f',G,z,l,d⟩:=H;obtain⟨j,hF⟩:=d;have c:w.ownsRow 0 e n (.slice none 0 0) 0 []:=⟨d_,.inl ⟨rfl,rfl⟩⟩;refine bAb ho hT O c rfl z (vW z.1 l) (by simpa[hP] using j) (x8 _) (fun N c' w' V h3 r=>?_);have hE:Ext w w':=h3.mono (fun b _ D=>by simp[aAC] at D);simp only[mf,IR] at V r ⊢
   obtain⟨U,C⟩:=h.new (w':=w') nm none (.slice N k c') (.arr e n k f') hE
    (
     fun b D=>by
     have u:(aAP N k c').ownBlock=some b:=by cases N<;>exact D
     refine⟨(V.lt b u).2,?_⟩;rcases r with r|⟨g1,r,h5,_⟩;rw[u] at r;cases r
     rw[u] at r;cases r;exact h5)
    (fun C _=>⟨G,aAr V,fun i Y=>(l i Y).le C⟩)
   refine hf _ _ _ _ _ hF U (.w (.one (.ow ⟨_,_,rfl⟩ ⟨_,_,jA _ _ _ _,dE _,fun _=>⟨_,_,_,rfl,a_,?_⟩⟩)));cases N with
   |none=>simp|some ad=>simp[Addr.add]
  exact d.elim
theorem Ii{e:bu}(h:u8z P e=true):∃ i,P.info? e=some i/\i.zero=some (.int .u8 0):=by unfold u8z at h;split at h;rename_i i c;split at h;rename_i b;exact⟨i,c,b⟩;cases h;cases h
theorem aEe(b:jy):Lib.strCells b=b.data.toList.map uh:=by unfold Lib.strCells;rfl
theorem Jj{t u ty e:bu}(T:AZ P t e 1 1)(L:u8z P e=true)(x:P.underlying u=some .string){v:ag}{n:Nat}{xs:jl}{w:ae}(c:w.ownsRow 0 e 1 v n xs)(s:jy)(hb:n+s.size<=140737488355328) :
  ∃ q p,(Builtin.append_ #[t,u] ty #[v,.string s]).run P w=.ok q p/\p.ownsRow 0 e 1 q (n+s.size) (xs++s.data.toList.map uh)/\gq (fun k=>v.ownBlock=some k) w p/\(q.ownBlock=v.ownBlock\/∃ g,q.ownBlock=some g/\w.heap.size<=g/\g<p.heap.size):=by
 obtain⟨y,⟨i,z,r,_,b,m,_⟩,_,_⟩:=T;obtain⟨W,B,f⟩:=Ii L;rw[r] at B;cases B;obtain⟨q,p,d,D,C,_⟩:=Lib.run_append_own_string (P:=P) w 0 t u ty e i y x r f b m v n xs c s (by unfold uu;omega) hb (x8 _);rw[aEe] at D;refine⟨q,p,d,D,⟨C.os,C.tape,C.output,C.size,fun k S O=>C.block k S (fun e=>O e.symm)⟩,?_⟩;have E:xs.length=n:=by simpa using c.1
 rcases c.2 with⟨rfl,rfl⟩|⟨g,cap,cur,rfl,_,I,N,V,U,G⟩
 by_cases H:s.size=0;rcases D.2 with⟨rfl,_⟩|⟨g,cap,cur,rfl,_,I,_⟩;exact .inl rfl;have J:=Lib.run_firstCells_string (P:=P) w 1 s;rw[H] at J
 have:(Builtin.append_ #[t,u] ty #[.slice none 0 0,.string s]).run P w=.ok (.slice none 0 0) w:=by simp[Builtin.append_,Ha y,Ha x,sizeOf,aBt,r,b,Builtin.lenOf,H,J]
 rw[this] at d;cases d;have:=run_append_nil_string (P:=P) w t u ty e i (.int .u8 0) y x r f s a_ a_ (by rw[m];omega);rw[this] at d;cases d;exact .inr ⟨_,rfl,dE _,(D.lt _ rfl).2⟩;by_cases h:n+s.size<=cap;have:=Lib.run_append_room_string (P:=P) w t u ty e i y x r b g n cap cur I s h a_;rw[this] at d;cases d;exact .inl rfl;have l:∀ j u,xs[j]?=some u->w.cell? ((⟨g,0,none⟩:Addr).add j)=some u:=c.cells (g:=g) rfl;have:=Lib.run_append_grow_string (P:=P) w t u ty e i (.int .u8 0) y x r f ⟨g,0,none⟩ n cap xs (by rw[b];simpa using E) l s a_ a_ (by rw[m];exact growslice_fits a_ a_);rw[this] at d;cases d;exact .inr ⟨_,rfl,dE _,(D.lt _ rfl).2⟩
theorem bRj{C:Ctx}(l:di):∀ i,i<l.length->RL C (oz l i) (((l.map uh).drop (i*1)).take 1):=fun i b=>by
 have c:((l.map uh).drop (i*1)).take 1=[uh (l.getD i 0)]:=by
  apply aAX;intro q;rw[yf,aAk,aBq];cases q with
  |zero=>rw[au a_,aBK,sJ l i b];rfl|succ q=>rw[ah a_];simp
 rw[c];exact .cons (.lit rfl) .nil
theorem aGb(n:Nat):(F9 n).size=n:=by unfold F9 ByteArray.size;simp
theorem bDg(n:Nat):(Builtin.zeroCells (gp .u8 0).cells n)=DD n (gp .u8 0):=by show Builtin.zeroCells #[gp .u8 0] n=_;unfold Builtin.zeroCells;apply Array.ext;simp;intro i c b;simp[Nat.mod_one]
theorem aKc(n:Nat)(w:ae):(Builtin.firstCells 1 n (.string (F9 n))).run P w=.ok (Pi n (gp .u8 0)).toArray w:=by have h:=Lib.run_firstCells_string (P:=P) w 1 (F9 n);rw[aGb] at h;rw[h];congr 1;rw[aEe];unfold F9;simp[uh]
theorem aGu(w:ae){t u J ty e:bu}{i:TypeInfo}{O:IntKind}(G:P.underlying t=some (.slice e))(E:P.underlying u=some .string)(g:P.underlying J=some (.int O))(H:P.info? e=some i)(D:i.zero=some (.int .u8 0))(d:i.size=1)(k:i.bytes=1)
  (b:Option Addr) (l c n:Nat) (hn:l+n<=140737488355328) :
  (Builtin.append_ #[t,J] ty #[.slice b l c,.int .i64 (n:Int)]).run P w=(Builtin.append_ #[t,u] ty #[.slice b l c,.string (F9 n)]).run P w:=by
 have x:IntKind.wrap .i64 0=0:=jb;have L:IntKind.wrap .i64 (n:Int)=n:=by rw[IntKind.wrap_i64];omega
 have m:¬((n:Int)<0):=a_;have N:¬(281474976710656<(n:Int)):=a_;have I:=aKc (P:=P) n;have r:=bDg n;have j:=aGb n;have f:¬(l+n<=c)->¬(281474976710656<Builtin.nextslicecap (l+n) c):=fun h=>by have:=growslice_fits (need:=l+n) (old:=c) (bytes:=1) a_ a_;omega
 have B:¬(9223372036854775807<(l:Int)+(n:Int)):=a_;by_cases y:l+n<=c;by_cases C:n=0;subst C;have q:l<=c:=a_;simp[q,Builtin.append_,Ha G,Ha g,Ha E,sizeOf,aBt,zeroValue,H,D,d,k,asInt,asIntOf,x,Builtin.lenOf,j,I];simp[Builtin.append_,Ha G,Ha g,Ha E,sizeOf,aBt,zeroValue,H,D,d,k,asInt,asIntOf,L,m,N,Builtin.lenOf,j,I,r,y,C];have f:=f y;by_cases C:n=0;subst C;have q:¬(l<=c):=a_;have p:¬(281474976710656<Builtin.nextslicecap l c):=f;have z:¬(9223372036854775807<(l:Int)):=a_;simp[q,p,z,Builtin.append_,Ha G,Ha g,Ha E,sizeOf,aBt,zeroValue,H,D,d,k,asInt,asIntOf,x,Builtin.lenOf,j,I];simp[Builtin.append_,Ha G,Ha g,Ha E,sizeOf,aBt,zeroValue,H,D,d,k,asInt,asIntOf,L,m,N,Builtin.lenOf,j,I,r,y,C,f,B]
theorem bDb(h:ig A s a w env){t u u':Nat}{x y:uA}(ho:o.op=.call { callee:=.builtin .append,args:=#[x,y],argTypes:=#[t,u'] }){e:bu}(hT:AZ P t e 1 1)(hu:P.underlying u=some .string){p:PV}{b:jy}(hp:RV (aP A w env) p (a.eval x))
  (a4:u8z P e=true->∀ E l c,l+b.size<=140737488355328->(Builtin.append_ #[t,u'] o.type #[.slice E l c,a.eval y]).run P w=(Builtin.append_ #[t,u] o.type #[.slice E l c,.string b]).run P w)
  (j:(bDc P e p b).ok none s F) (hf:Fin A s a o K F):o.wp P a w K Q:=by
 unfold bDc at j;split at j
 ·rename_i x1 r n' X len;obtain⟨g,vr,ob,a3,j⟩:=j;have a1:=dZ j;clear j;obtain⟨hg,j⟩:=a1;obtain⟨hd,z,a0⟩:=kX h a3 hg
  cases D:bz r vr<;>cases U:bz 1 n'<;>cases T:bz X 0<;>cases ob<;>simp only[D,U,T] at j<;>try exact j.elim
  rename_i e' m k f;obtain rfl:=iy D;obtain rfl:=iy U;obtain rfl:=iy T
  cases S:bz 1 m<;>cases n:(bz e e'&&XN e Gx)<;>cases I:u8z P e<;>simp only[S,n,I] at j<;>try exact j.elim
  rw[zg] at n;obtain⟨n,a6⟩:=n;obtain rfl:=iy S;obtain rfl:=iy n;obtain⟨⟨G,C⟩,j⟩:=j;have hF:=j.2;obtain⟨E,V,c0,rfl,a7,Y⟩:=hp.Ar z;obtain⟨vs,d,a5⟩:=a0;have d:=d.plain a6;have Z:a.eval x=.slice E V c0:=by rw[Y];rcases d.2 with⟨q,_⟩|⟨g1,cap,cur,q,_⟩;cases q;have:len=0:=a_;subst this;rfl;cases q;simp[add_lit,G]
  have a8:V=k:=by
   rcases d.2 with⟨q,e1⟩|⟨g1,cap,cur,q,_⟩;cases q;have:=d.1;rw[e1] at this;simp at this;omega
   cases q;rfl
  obtain⟨v',w',N,h2,h3,L⟩:=Jj (w:=w) (ty:=o.type) hT I hu d b C;have H:(xe a.eval o).run P w=.ok (.value v') w':=by unfold xe;simp only[ho,resolve,aCC,builtin,Sem.run_bind,Sem.run_pure,Result.andThen_ok,aEp,aAJ,aCU,Z];rw[a4 I E V c0 a_,N];rfl
  obtain⟨W,c',rfl⟩:=pX h2;have a9:∀ b,(aAP E V c0).ownBlock=some b->b<w.heap.size:=fun b D=>(d.lt b D).2
  obtain⟨a2,O⟩:=h.upd x1 none (r+1) (.slice W (k+b.size) c') (.arr e 1 (k+b.size) (ru k f (oz b.data.toList))) (h3.mono fun b _ D=>⟨r,_,z,by cases E<;>exact D⟩) (fun v b0 q=>by rw[z] at q;cases q;exact .inl (aDB _))
   (
    fun b1 D=>by
    have J:(aAP W (k+b.size) c').ownBlock=some b1:=by cases W<;>exact D
    refine⟨(h2.lt b1 J).2,?_⟩;rcases L with L|⟨g1,L,h5,_⟩
    ·refine .inr ⟨r,_,z,?_⟩;rw[J] at L
     cases E<;>exact L.symm
    rw[J] at L;cases L;exact .inl h5)
   (fun O _=>⟨vs++b.data.toList.map uh,aAr (B:=0) ⟨by rw[gz,aAB,d.1,nz,aBq,aBq];rfl,h2.2⟩,aMs d.1 (fun i hi=>(a5 i hi).le O) (fun i hi=>bRj _ i (by rw[nz];exact hi))⟩)
  refine aX H (hf _ _ _ _ _ hF a2 (.w (.one (.ow ⟨_,_,rfl⟩ ⟨_,_,jA _ _ _ _,dE _,fun _=>⟨_,_,_,rfl,a_,?_⟩⟩))));cases W with
  |none=>simp|some ad=>simp[Addr.add]
 exact j.elim
theorem bSa(h:ig A s a w env){N t u:Nat}{x y:uA}(G:o.op=.call { callee:=.builtin .append,args:=#[x,y],argTypes:=#[t,u] }){p v:PV}(E:RV (aP A w env) p (a.eval x))(D:RV (aP A w env) v (a.eval y))(d:(aZu P N t u p v).ok none s F)(J:Fin A s a o K F):o.wp P a w K Q:=by unfold aZu at d;split at d;rename_i e b g r;have q:=D.gu;exact bDb h G (aDf g) r E (fun _ _ _ _ _=>by rw[q]) d J;rename_i e V n g r;have q:=D.gu;split at d;rename_i f;obtain⟨T,d⟩:=d;have L:=aDf g;refine bDb h G L f E (fun O U l c H=>?_) d J;obtain⟨S,⟨i,z,I,_,j,B,_⟩,_,_⟩:=L;obtain⟨W,k,m⟩:=Ii O;rw[I] at k;cases k;have C:0<=n:=T;rw[aGb] at H;have:=aGu (ty:=o.type) w S f r I m j B U l c n.toNat H;rw[Int.toNat_of_nonneg C] at this;rw[q,this];exact d.elim;exact d.elim
theorem aWy{x:Option ag}(h:(Gm x).ok none s F):∃ v,x=some v/\v.oneCell'=true/\F none (qc v) []:=by
 cases x with
 |none=>exact h.elim|some v=>
  unfold Gm at h
  cases b:v.oneCell'<;>simp only[b] at h
  exact h.elim;exact⟨v,rfl,b,h⟩
theorem aDk{b:Type}{w:ae}:∀ {m:Sem b} {v:b},aDl P m=some v->m.run P w=.ok v w:=by
 intro m
 induction m with
 |pure a=>intro v h;cases h;rfl|program k c=>intro v h;exact c P h|_=>intro v h;cases h
theorem RU(h:ig A s a w env){op:UnOp}{t:bu}{x:uA}(d:o.op=.unOp op t x){v:PV}(b:RV (aP A w env) v (a.eval x)){u:ag}(hl:isLit v=some u)(e:(Gm (aDl P (Op.unary op u))).ok none s F)(f:Fin A s a o K F):o.wp P a w K Q:=by obtain⟨r,j,i,g⟩:=aWy e;rw[zJ hl] at b;refine aX (v:=r) (w':=w) ?_ (f.same h g (.w (.one (.lit i))));have c:a.eval x=u:=RV.gu (show RV _ _ _ from b);simp[xe,d,c,aDk (w:=w) j]
theorem aOg{C:Ctx}:∀ {d:ji} {l:List uA} {e:g_},Qn C a d l->IC d=some e->RL C e (l.map a.eval)
 |[],[],e,_,h=>by simp[IC] at h;subst h;exact .nil|[],_::_,_,h,_=>h.elim|_::_,[],_,h,_=>h.elim| v::d,x::l,e,⟨hv,hr⟩,h=>by
  unfold IC at h
  cases b:SS v<;>cases f:IC d<;>simp only[b,f] at h<;>try (cases h;done)
  cases h;rename_i c r;have:v=dm c:=by unfold SS at b;split at b;cases b;rfl;cases b
  subst this;exact .cons (xs:=[a.eval x]) (RV.inv (show RV _ _ _ from hv)) (aOg hr f)
theorem aYa(h:ig A s a w env){fn:Fn}{first cap:Array uA}(e:o.op=.makeFunc fn first cap){b cs:ji}{c d:g_}(h1:Qn (aP A w env) a b first.toList)(h2:Qn (aP A w env) a cs cap.toList)(h3:IC b=some c)(h4:IC cs=some d)
  (i:F none (dm (.fn fn c d)) []) (g:Fin A s a o K F):o.wp P a w K Q:=by
 refine aX (v:=.func fn (first.map a.eval) (cap.map a.eval)) (w':=w) ?_ (g.same h i (.w (.one ?_)));simp[xe,e,Instr.makeFunc]
 ·have:=R.fn (f:=fn) (aOg h1 h3) (aOg h2 h4);have k:(first.toList.map a.eval).toArray=first.map a.eval:=by apply TC;simp
  have j:(cap.toList.map a.eval).toArray=cap.map a.eval:=by apply TC;simp
  rw[k,j] at this;exact this
theorem qC(h:ig A s a w env){v:PV}{val:ag}(S:RV (aP A w env) v val){k:di->M}(b:(Zt v k).ok none s F):∃ l,Reads w 1 val l.length (l.map uh)/\(k l).ok none s F:=by
 unfold Zt at b;split at b
 ·rename_i n len f
  cases t:bz n 1<;>rw[t] at b
  exact b.elim;obtain rfl:=iy t;obtain⟨p,b⟩:=b;cases S.inv with
  |sl hr a4 he=>refine⟨_,?_,b⟩;rw[<-aGv hr.1 he p,dP];exact hr
 ·rename_i x y n d len;obtain⟨g,T,V,D,b⟩:=b;have B:=dZ b;clear b;obtain⟨Y,b⟩:=B;obtain⟨hd,E,z⟩:=kX h D Y
  cases t:bz y T<;>cases r:bz n 1<;>cases O:bz d 0<;>cases V<;>simp only[t,r,O] at b<;>try exact b.elim
  rename_i e m U f;obtain rfl:=iy t;obtain rfl:=iy r;obtain rfl:=iy O
  cases N:bz 1 m<;>rw[N] at b
  exact b.elim;obtain rfl:=iy N;obtain⟨⟨a3,p⟩,b⟩:=b;obtain⟨A0,n0,c0,rfl,a2,rfl⟩:=S.Ar E;obtain⟨vs,L,Z⟩:=z;have J:=Reads.Ac L;have X:n0=U:=by obtain⟨_,A1,c1,e1,_⟩:=J;cases e1;rfl
  subst X;have H:=oZ (off:=0) (m:=len) a_ J;refine⟨_,?_,b⟩;have G:=aGv (C:=aP A w env) (len:=len) (f:=f) (vs:=(vs.drop (0*1)).take (len*1)) H.1 (fun i hi=>by rw[lG vs hi,mf];exact Z i a_) p;rw[<-G,dP];exact H
 ·rename_i x y d len;obtain⟨g,T,V,D,b⟩:=b;have B:=dZ b;clear b;obtain⟨Y,b⟩:=B;obtain⟨hd,E,z⟩:=kX h D Y
  cases t:bz y T<;>cases V<;>simp only[t] at b<;>try exact b.elim
  rename_i bt l;obtain rfl:=iy t;cases W:AO l d with
  |none=>rw[W] at b;exact b.elim|some q=>
   obtain⟨m,bs⟩:=q;rw[W] at b;dsimp only at b
   cases r:bz len m<;>rw[r] at b
   exact b.elim;obtain rfl:=iy r;obtain⟨g1,c,rfl,a1,a0,rfl⟩:=S.LY E;obtain⟨g2,cs,e2,hB,hR⟩:=z;cases e2;obtain⟨k1,k2,k3⟩:=qZ hR W;have I:=kS hB.range d len;rw[mf,k2] at I;refine⟨bs,⟨d_,_,c,by rw[k1],by rw[k1];exact a1,a0,fun hn=>⟨g1,d,rfl,fun j u hj=>I j u hj⟩⟩,b⟩
 have:=S.gu;subst this;exact⟨[],Reads.nil w 1,b⟩;exact b.elim
theorem bAo{C:Ctx}{t:bu}{n off:Nat}{m:g_}{o:PW}{cs:mg}(f:ui P t=some n)(p:D8 P t m=some o)(hr:RL C m ((cs.toList.drop off).take n))(_:off+n<=cs.size)(w:ae) :
  ∃ c,(part t cs off).run P w=.ok c w/\RW C o c:=by
 obtain⟨i,q,g⟩:=pV f;rcases bMm p hr with⟨a,l⟩|⟨a,u,e,_,l⟩
 ·obtain⟨d,j,r⟩:=aGw a
  have k:(isAgg t).run P w=.ok true w:=by
   unfold isAgg;rw[Sem.run_bind,Ha j w]
   cases d<;>simp_all
  have h:cs.extract off (off+n)=((cs.toList.drop off).take n).toArray:=by apply TC;simp[aKf]
  exact⟨_,by simp[part,k,sizeOf,aBt,q,g,h],l⟩
 have b:cs[off]?=some u:=by have:=congrArg (·[0]?) e;simp only[yf,aAk,aBK,aBN] at this;split at this;simpa using this;cases this
 exact⟨u,by simp[part,aBw a,b],l⟩
theorem aRr{e:bu}(g:P.underlying e=some (.int .u8))(d:Nat)(a b:di)(w:ae):∀ c:List Nat,(∀ i∈c,i<a.length/\i<b.length) ->
  (Op.eqItems (d+1) e 1 (a.map uh).toArray (b.map uh).toArray c).run P w=.ok (c.all fun i=>a.getD i 0==b.getD i 0) w
 |[],_=>by simp[Op.eqItems]| i::c,h=>by
  obtain⟨k,p⟩:=h i d_;have f:(isAgg e).run P w=.ok false w:=by unfold isAgg;rw[Sem.run_bind,Ha g w];rfl
  have n:(part e (a.map uh).toArray (i*1)).run P w=.ok (uh (a.getD i 0)) w:=by have:=sJ a i k;simp[part,f,zH k]
  have m:(part e (b.map uh).toArray (i*1)).run P w=.ok (uh (b.getD i 0)) w:=by simp[part,f,zH p]
  have l:(Op.equalIn (d+1) e (uh (a.getD i 0)) (uh (b.getD i 0))).run P w=.ok (a.getD i 0==b.getD i 0) w:=by have:=run_equalIn_int (P:=P) w d e .u8 .u8 ((a.getD i 0).toNat:Int) ((b.getD i 0).toNat:Int) g;rw[show uh (a.getD i 0)=.int .u8 ((a.getD i 0).toNat:Int) from rfl,show uh (b.getD i 0)=.int .u8 ((b.getD i 0).toNat:Int) from rfl,this];congr 1;rw[aFB,beq_iff_eq,beq_iff_eq];constructor;intro h;exact UInt8.toNat_inj.1 a_;intro h;rw[h]
  rw[Op.eqItems,Sem.run_bind,n,Result.andThen_ok,Sem.run_bind,m,Result.andThen_ok,Sem.run_bind,l,Result.andThen_ok,aBV];cases q:(a.getD i 0==b.getD i 0) with
  |false=>simp|true=>simpa using aRr g d a b w c (fun j o=>h j (aAD _ o))
theorem bSb(a b:di)(n:Nat)(e:a.length=n)(hb:b.length=n):((yz n).all fun i=>a.getD i 0==b.getD i 0)=(a==b):=by rw[aFB];simp only[List.all_eq_true,aGq,beq_iff_eq];constructor;intro h;apply aBR a_;intro i d c;have:=h i a_;simpa[zG,zH d,zH c] using this;rintro rfl i _;rfl
theorem P7{C:Ctx}:∀ (d:Nat) {t:bu} {l m:g_} {x y:ag} {px K:PW} {r:Bool},eqT P d t l m=some r->D8 P t l=some px->D8 P t m=some K->RW C px x->RW C K y->∀ (k:Nat) (w:ae),(Op.equalIn (d+(k+1)) t x y).run P w=.ok r w
 |0,t,l,m,x,y,px,K,r,h,_,_,_,_,_,_=>by cases h| d + 1,t,l,m,x,y,px,K,r,h,j,g,J,I,k,w=>by
  have a5:px.cells=l:=by unfold D8 at j;split at j;cases j;cases j;rfl;split at j;split at j;cases j;rfl;cases j;cases j
  have a4:K.cells=m:=by unfold D8 at g;split at g;cases g;cases g;rfl;split at g;split at g;cases g;rfl;cases g;cases g
  have one:∀ {c:PC} {v:ag} {q:PW},jI P t=some false->D8 P t [c]=some q->RW C q v->R C c [v]:=by
   intro c v q p H hr;unfold D8 at H;rw[p] at H;dsimp only at H;split at H;cases H;cases hr with|one h=>exact h
   cases H
  rw[show d+1+(k+1)=(d+(k+1))+1 from a_];unfold eqT at h;cases o:P.underlying t with
  |none=>rw[o] at h;cases h| some dd=>
   rw[o] at h
   cases dd<;>try (cases h;done)
   ·
    dsimp only at h;split at h;cases h;have p:jI P t=some false:=by unfold jI;rw[o]
    have G:=one p j J;have F:=one p g I;cases G;cases F;exact run_equalIn_bool' w _ t _ _ o;cases h
   ·
    dsimp only at h;split at h;split at h;rename_i hk;cases h;subst hk;have p:jI P t=some false:=by unfold jI;rw[o]
    have G:=one p j J;have F:=one p g I;cases G;cases F;exact run_equalIn_int w _ t _ _ _ _ o;cases h;cases h
   ·
    dsimp only at h;split at h;cases h;have p:jI P t=some false:=by unfold jI;rw[o]
    have G:=one p j J;have F:=one p g I;cases G;cases F;exact run_equalIn_string w _ t _ _ o;cases h
   ·
    rename_i n e;dsimp only at h;split at h
    ·rename_i n1 a n2 b V W
     cases h1:bz n n1<;>cases h2:bz n n2<;>simp only[h1,h2] at h<;>try (cases h;done)
     cases h;obtain rfl:=iy h1;obtain rfl:=iy h2;have p:jI P t=some true:=by unfold jI;rw[o]
     unfold D8 at j g;rw[p] at j g;cases j;cases g;cases J with
     | @agg _ U A=>
      cases I with
      |@agg _ T z=>
       obtain⟨g1,g2⟩:=A.bs1;obtain⟨g3,g4⟩:=z.bs1;have a1:U=(a.map uh).toArray:=by apply TC;simpa using g2
       have a0:T=(b.map uh).toArray:=by apply TC;simpa using g4
       obtain⟨ie,S,Q⟩:=pV W;have Y:P.cellsOf e=1:=by unfold Program.cellsOf;rw[S];simpa using Q
       rw[run_equalIn_array (P:=P) w (d+(k+1)) U T o S,Y,a1,a0,show d+(k+1)=(d+k)+1 from a_,aRr V (d+k) a b w _ (fun i hm=>by rw[aGq] at hm;omega),bSb a b n g1 g3]
    cases h
   ·
    rename_i fs;dsimp only at h
    have s:P.stoodInHeld t=false:=by
     cases s:P.stoodInHeld t with
     |false=>rfl|true=>rw[s] at h;cases h
    rw[s] at h;dsimp only at h;have p:jI P t=some true:=by unfold jI;rw[o]
    unfold D8 at j g;rw[p] at j g;cases j;cases g;cases J with
    | @agg _ U A=>
     cases I with
     | @agg _ T z=>
      have E:P.fieldsOf t=fs:=by unfold Program.fieldsOf;rw[o]
      rw[run_equalIn_struct w (d+(k+1)) t U T (by rw[E];exact o) s,E];clear E o;generalize fs.toList=Z at h
      induction Z generalizing r with
      |nil=>cases h;rfl|cons f Z ih=>
       rw[List.foldr_cons] at h;generalize a3:List.foldr _ _ Z=a2 at h ih
       cases a2<;>cases O:(f.name != "_")<;>cases u:ui P f.type<;>simp only[O,u] at h<;>try (cases h;done)
       rename_i r0 n
       cases N:tJ l f.offset n<;>cases L:tJ m f.offset n<;>simp only[N,L] at h<;>try (cases h;done)
       rename_i x1 y1
       cases D:D8 P f.type x1<;>cases B:D8 P f.type y1<;>cases hq:eqT P d f.type x1 y1<;>simp only[D,B,hq] at h<;>try (cases h;done)
       rename_i p1 p2 q;cases h;obtain⟨k1,k2⟩:=A.sub N;obtain⟨k3,k4⟩:=z.sub L;obtain⟨v1,G,w1⟩:=bAo u D k1 (by simpa using k2) w;obtain⟨v2,F,w2⟩:=bAo u B k3 (by simpa using k4) w;have e3:=P7 d hq D B w1 w2 k w;have e4:=ih r0 rfl;have X:f.name ≠ "_" := by simpa using O
       rw[Op.eqFields,au X,Sem.run_bind,G,Result.andThen_ok,Sem.run_bind,F,Result.andThen_ok,Sem.run_bind,e3,Result.andThen_ok];cases q with
       |false=>simp|true=>simpa using e4
theorem bytesRow_at(b:jy)(cap j:Nat)(d:j<b.size):(aAH b cap)[j]?=some (uh (b.data.toList.getD j 0)):=by have c:b.data.size=b.size:=rfl;unfold aAH;rw[aES (by simpa using by omega)];rw[Array.getElem?_map,aCF a_,zG,zH (by simpa using by omega)];rfl
theorem bGw(h:ig A s a w env){own:Bool}{X:Nat}{t p:bu}{x:uA}(H:o.op=.convert t p x){v:PV}(D:RV (aP A w env) v (a.eval x))(k:(Px P own X t p v).ok none s F)(I:Fin A s a o K F):o.wp P a w K Q:=by
 unfold Px at k;split at k
 ·rename_i e E y;split at k
  ·rename_i b q;cases own
   case true=>
    obtain⟨U,B⟩:=k;have T:b.size<=9223372036854775807:=U;have C:a.eval x=.string b:=D.gu;have d:=run_bytes_of_string (P:=P) w t p e b E y q;have m:b.data.toList.length=b.size:=by rw[nz];rfl
    have O:=grownCap_ge w b.size 0 e;have V:Ext w (w.drew.alloc (.cells (aAH b (aAI w b.size 0 e)) e ((aAH b (aAI w b.size 0 e)).size,(aAH b (aAI w b.size 0 e)).size+1))):=((Ext.refl w).drew.alloc _);have G:(aAH b (aAI w b.size 0 e)).size=aAI w b.size 0 e:=by have a1:b.data.size=b.size:=rfl;simp only[aAH,Array.size_append,Array.size_map,Array.size_replicate];omega
    obtain⟨a0,g1,g2⟩:=h.Ll X 1 b.size (aAI w b.size 0 e) (f:=oz b.data.toList) (cs:=aAH b (aAI w b.size 0 e)) (xs:=b.data.toList.map uh)
     (by rw[aAB,m,aBq]) O (grownCap_le_maxLen w b.size 0 e (by unfold uu;omega)) (by rw[G,aBq])
     (
      by
      apply aAX;intro j;rw[yf,aBq];by_cases n:j<b.size;rw[au n,aEE,bytesRow_at b _ j n,sJ _ j a_]
      rw[ah n,PR (by rw[aAB,m];omega)])
     (fun i hi=>qE _ _ i a_) V (aDd w.drew _) (dE _)
    exact aX (v:=.slice (some ⟨w.heap.size,0,none⟩) b.size (aAI w b.size 0 e)) (by simp[xe,H,C,d]) (I _ _ _ _ _ B g1 g2)
   obtain⟨U,B⟩:=k;have T:b.size<=9223372036854775807:=U;have C:a.eval x=.string b:=D.gu;have d:=run_bytes_of_string (P:=P) w t p e b E y q;have m:b.data.toList.length=b.size:=by rw[nz];rfl
   have V:Ext w (w.drew.alloc (.cells (aAH b (aAI w b.size 0 e)) e ((aAH b (aAI w b.size 0 e)).size,(aAH b (aAI w b.size 0 e)).size+1))):=((Ext.refl w).drew.alloc _);refine aX (v:=.slice (some ⟨w.heap.size,0,none⟩) b.size (aAI w b.size 0 e)) (by simp[xe,H,C,d]) (I _ _ _ _ env B (h.ext V) (.w (.one (.sl (vs:=b.data.toList.map uh) ⟨by rw[aAB,m,aBq],_,_,rfl,grownCap_ge w b.size 0 e,grownCap_le_maxLen w b.size 0 e (by unfold uu;omega),fun hn=>⟨w.heap.size,0,rfl,fun j u n=>?_⟩⟩ (fun g hg _=>?_) (fun i hi=>qE _ _ i a_)))));have N:j<b.size:=by have:=(List.getElem?_eq_some_iff.1 n).1;simpa[m] using this
   rw[mf];have hc:=cell_of_row (w.drew.alloc (.cells (aAH b (aAI w b.size 0 e)) e ((aAH b (aAI w b.size 0 e)).size,(aAH b (aAI w b.size 0 e)).size+1))) w.heap.size j _ _ _ (aDd w.drew _);refine hc.trans ?_;rw[bytesRow_at b _ j N,<-n,sJ _ j a_];cases hg;refine⟨⟨.inr h.iw.size,fun x J y q S=>?_⟩,by simp[aP]⟩;exact absurd (h.live x J y _ q S).1 (Nat.lt_irrefl _)
  exact k.elim
 rename_i e E y;split at k;rename_i q;obtain⟨l,hr,B⟩:=qC h D k;obtain⟨h1,A1,c,e1,Z,h3,Y⟩:=hr
 have d:(convert t p (a.eval x)).run P w=.ok (.string ⟨l.toArray⟩) w:=by
  rw[e1];cases A1 with
  | none=>
   have L:l=[]:=by
    cases l with
    |nil=>rfl|cons b l=>obtain⟨b',o',W,_⟩:=Y d_;cases W
   subst L;rw[run_convert_bytes_string w t p e _ _ c E q y];simp[Conv.bytesToString];rfl
  |some ad=>refine run_convert_bytes_back w t p e ad c l E q y (fun j n=>?_);obtain⟨b',o',W,z⟩:=Y a_;cases W;rw[add_lit];exact z j _ (by rw[aAg,zH n];rfl)
 exact aX (v:=.string ⟨l.toArray⟩) (by simp[xe,H,d]) (I.same h B (.w (.one (.lit rfl))));exact k.elim;split at k;rename_i u hl;obtain⟨r,h1,Z,B⟩:=aWy k;rw[zJ hl] at D;refine aX (v:=r) (w':=w) ?_ (I.same h B (.w (.one (.lit Z))));have C:a.eval x=u:=RV.gu (show RV _ _ _ from D);simp[xe,H,C,aDk (w:=w) h1];exact k.elim
theorem aSz(z:mg)(m i n:Nat)(c:z.size=n)(h:(i+1)*n<=m):((aCO z m).toList.drop (i*n)).take n=z.toList:=by
 rw[aAZ,aBX] at h;apply aAX;intro q;rw[yf,aAk];by_cases b:q<n;rw[au b];have d:(aCO z m).toList[i*n+q]?=some z[(i*n+q) % z.size]! := by unfold aCO;rw[aEE,Array.getElem?_map,Array.getElem?_range];simp;omega
 rw[d,c,aFA,Nat.mul_add_mod,Nat.mod_eq_of_lt b,aEE,aCF a_,getElem!_pos z q a_];rw[ah b,PR l7]
theorem Tq(h:ig A s a w env){J:Nat}{t:bu}{x y:uA}(ho:o.op=.makeSlice t x y){L W:PV}(hl:RV (aP A w env) L (a.eval x))(hc:RV (aP A w env) W (a.eval y))(g:(N_ P J t L W).ok none s F)(hf:Fin A s a o K F):o.wp P a w K Q:=by
 unfold N_ at g;split at g;rename_i e n p O l N c u D B;split at g;rename_i I r;obtain⟨⟨h0,h1,h2⟩,hF⟩:=g;obtain⟨Z,⟨i,z,U,S,d,H,q⟩,T,a2⟩:=aDf u;obtain⟨i',z',m,b,hr⟩:=aFz (C:=aP A w env) r;rw[U] at m;cases m;rw[S] at b;cases b;rw[zJ D] at hl;rw[zJ B] at hc;have Y:a.eval x=.int O l:=RV.gu (show RV _ _ _ from hl);have X:a.eval y=.int N c:=RV.gu (show RV _ _ _ from hc);have a1:c<=(p:Int)*c:=by have:(1:Int)*c<=(p:Int)*c:=Int.mul_le_mul_of_nonneg_right a_ a_;omega
 have k:=run_make (P:=P) w t e i z Z U S O N l c h0 h1 (by rw[H];omega) a_;have a0:(l.toNat)*n<=c.toNat*n:=aBB n a_
 have G:∀ j,j<l.toNat->RL (aP A w env) ((fun _=>I) j) ((((aCO z.cells (c.toNat*i.size)).toList.take (l.toNat*n)).drop (j*n)).take n):=by
  intro j hj;have E:(j+1)*n<=l.toNat*n:=aBB n hj;have e1:(((aCO z.cells (c.toNat*i.size)).toList.take (l.toNat*n)).drop (j*n)).take n=((aCO z.cells (c.toNat*i.size)).toList.drop (j*n)).take n:=by rw[aAZ,aBX] at E;rw[aGH,List.take_take,aCZ a_]
  rw[e1,aSz z.cells _ j n (by rw[q]) (by rw[d];omega)];exact hr
 obtain⟨V,g1,g2⟩:=h.G8 J e n l.toNat c.toNat (f:=fun _=>I) (cs:=aCO z.cells (c.toNat*i.size)) (xs:=(aCO z.cells (c.toNat*i.size)).toList.take (l.toNat*n))
  (by rw[ww,nz,size_madeCells,d];omega) a_ (by unfold uu;omega) (by rw[size_madeCells,d]) rfl G (w':=w.alloc (.cells (aCO z.cells (c.toNat*i.size)) e)) ((Ext.refl w).alloc _) (aDd w _)
 exact aX (v:=.slice (some ⟨w.heap.size,0,none⟩) l.toNat c.toNat) (by simp[xe,ho,Y,X,k]) (hf _ _ _ _ _ hF g1 g2);exact g.elim;exact g.elim
theorem bQw{C:Ctx}{n c k:Nat}{f f':Nat->g_}{vs b:jl}(e:k<=c)(hl:vs.length=c*n)(hn:b.length=k*n)(h1:∀ i,i<c->RL C (f i) ((vs.drop (i*n)).take n))(h2:∀ i,i<k->RL C (f' i) ((b.drop (i*n)).take n)) :
  ∀ i,i<c->RL C (ZL k f f' i) (((over vs 0 b).drop (i*n)).take n):=by
 intro i g;have l:k*n<=c*n:=aBB n e;unfold ZL;by_cases h:i<k;rw[au h];have d:(i+1)*n<=k*n:=aBB n h;rw[aAZ,aBX] at d;have j:((over vs 0 b).drop (i*n)).take n=(b.drop (i*n)).take n:=by unfold over;rw[aEG,IR,aKg a_,aDM l7]
 rw[j];exact h2 i h
 rw[ah h,xZ a_ (.inl (by
  have:k*n<=i*n:=aBB n a_
  omega))]
 exact h1 i g
theorem Uy(h:ig A s a w env){t:Nat}{x y:uA}(ho:o.op=.call { callee:=.builtin .copy,args:=#[x,y],argTypes:=#[t,t] }){p v:PV}(hp:RV (aP A w env) p (a.eval x))(hv:RV (aP A w env) v (a.eval y))(q:(Pq P t p v).ok none s F)(hf:Fin A s a o K F):o.wp P a w K Q:=by
 unfold Pq at q;split at q
 ·rename_i e n e5 x1 B n' b0 len b3;obtain⟨hu,⟨ie,z,W,hz,b2,e3,d5⟩,d2,e4⟩:=aDf b3;obtain⟨g,vr,ob,c5,q⟩:=q;have V:=dZ q;clear q;obtain⟨hg,q⟩:=V;obtain⟨hd,G,b5⟩:=kX h c5 hg
  cases hb:bz B vr<;>cases a9:bz n n'<;>cases a8:bz b0 0<;>cases ob<;>simp only[hb,a9,a8] at q<;>try exact q.elim
  rename_i e' m c f;obtain rfl:=iy hb;obtain rfl:=iy a9;obtain rfl:=iy a8
  cases a7:bz n m<;>cases H:(bz e e'&&XN e Gx)<;>simp only[a7,H] at q<;>try exact q.elim
  rw[zg] at H;obtain⟨H,d0⟩:=H;obtain rfl:=iy a7;obtain rfl:=iy H;obtain⟨a1,q⟩:=q;have O:len=c:=a1;have V:=src_ok h hv q;clear q;obtain⟨k,f',d,b4,N,q⟩:=V;have hF:=q.2;obtain⟨A0,n0,c0,rfl,d3,a0⟩:=hp.Ar G;obtain⟨vs,l,c6⟩:=b5;have l:=l.plain d0;obtain⟨g1,A1,c1,e1,g2,g3,g4⟩:=b4;have d8:min k c*n<=k*n:=aBB n a_;have d7:min k c*n<=c*n:=aBB n a_;rcases l.2 with⟨Z,d6⟩|⟨r,cap,cur,Z,c9,c3,a4,c8,c7,S⟩
  ·
   cases Z;have b8:len=0:=a_;have ht:c=0:=a_;subst b8;have C:a.eval x=.slice none 0 0:=by rw[a0];rfl
   have D:(Builtin.copy_ #[t,t] o.type #[a.eval x,a.eval y]).run P w=.ok (goInt 0) w:=by
    rw[C,e1];cases A1 with
    |none=>simp[Builtin.copy_,Ha hu,Builtin.lenOf,Builtin.firstCells,sizeOf,aBt,W]|some ad=>simp[Builtin.copy_,Ha hu,Builtin.lenOf,Builtin.firstCells,sizeOf,aBt,W,loadCells,loadCellsFrom]
   have b6:min k c=0:=a_;obtain⟨c4,E⟩:=h.upd x1 none B (.slice none 0 0) (.arr e n c (ZL (min k c) f f')) (gq.refl _ _) (fun v d9 Z=>by rw[G] at Z;cases Z;exact .inr ⟨rfl,rfl⟩) (fun b hb=>by cases hb) (fun E _=>⟨vs,by rw[ht] at l ⊢;exact aAr l,fun i hi=>a_⟩);refine aX (v:=.int .i64 0) (w':=w) ?_ (hf _ _ _ _ _ hF c4 (.w (.one ?_)));simp only[xe,ho,resolve,aCC,builtin,Sem.run_bind,Sem.run_pure,Result.andThen_ok,aEp,aAJ,aCU,D];rfl;rw[b6];exact .lit rfl
  cases Z;have C:a.eval x=.slice (some ⟨r,0,none⟩) c c0:=by rw[a0];simp[add_lit,O]
  have J:(d.take (min k c*n)).length=min k c*n:=by rw[ww];omega
  have hB:eu w r e cur:=c3;have d4:c*n<=c0*n:=aBB n a4
  have U:(Builtin.firstCells n (min k c) (a.eval y)).run P w=.ok (d.take (min k c*n)).toArray w:=by
   rw[e1];cases A1 with
   | none=>
    have b9:k=0:=by rcases aCE k with X|X;exact X;obtain⟨b,o1,e2,_⟩:=g4 X;cases e2
    subst b9;simp[Builtin.firstCells]
   | some ad=>
    have L:∀ j u,(d.take (min k c*n))[j]?=some u->w.cell? (ad.add j)=some u:=by
     intro j u Y;rw[yf] at Y;split at Y;rename_i b7
     obtain⟨b,o1,e2,hc⟩:=g4 (by
      rcases aCE k with X|X;subst X;simp at b7
      exact X)
     cases e2;rw[add_lit];exact hc j u Y;cases Y
    have:=run_loadCells_list (P:=P) w ad (d.take (min k c*n)) L;rw[J] at this;exact this
  have T:=vW g1 N;have I:(storeCells ⟨r,0,none⟩ (d.take (min k c*n))).run P w=.ok () (w.setCells r 0 (d.take (min k c*n))):=by have b1:=xC hB 0 (c*n) a_;have:=run_storeCells_cells (P:=P) r 0 (d.take (min k c*n)) 0 w (fun j Y=>by have:=(b1 (0+j) a_).1;simpa using this) (fun j Y=>by simpa using hB.frozen _) (fun v hv=>T v (List.mem_of_mem_take hv));simpa using this
  have D:(Builtin.copy_ #[t,t] o.type #[a.eval x,a.eval y]).run P w=.ok (goInt (min k c:Nat)) (w.setCells r 0 (d.take (min k c*n))):=by
   have a5:(Builtin.lenOf (a.eval y)).run P w=.ok k w:=by rw[e1];rfl
   rw[C];simp only[Builtin.copy_];simp[Ha hu,a5,sizeOf,aBt,W,b2,show Nat.min k c=min k c from rfl,U,I]
  have hc:=(iO r (d.take (min k c*n)) 0 w).1;have a2:=(iO r (d.take (min k c*n)) 0 w).2;have a3:(w.setCells r 0 (d.take (min k c*n))).ownsRow 0 e n (.slice (some ⟨r,0,none⟩) c c0) c (over vs 0 (d.take (min k c*n))):=by refine⟨by rw[pG (by rw[J,l.1];omega)];exact l.1,.inr ⟨r,c0,(over cur.toList 0 (d.take (min k c*n))).toArray,rfl,c9,bCw hB _ _ a_,a4,c8,?_,?_⟩⟩;rw[aBM,pG (by rw[J,nz];omega),nz,c7];rw[<-S];exact aLk a_ (by rw[nz];omega)
  obtain⟨a6,E⟩:=h.upd x1 none B (.slice (some ⟨r,0,none⟩) c c0) (.arr e n c (ZL (min k c) f f')) (hc.mono fun b _ e=>⟨B,_,G,by rw[e];rfl⟩) (fun v hd e=>by rw[G] at e;cases e;exact .inr ⟨rfl,rfl⟩) (fun b' d1=>by cases d1;exact⟨by rw[a2];exact hB.lt,.inr ⟨B,_,G,rfl⟩⟩)
   (
    fun E _=>⟨_,aAr a3,bQw (Nat.min_le_right _ _) l.1 J (fun i hi=>(c6 i hi).le E) (fun i hi=>by
    have c2:(i+1)*n<=min k c*n:=aBB n hi;rw[aAZ,aBX] at c2;rw[aGH,List.take_take,aCZ (show n<=min k c*n-i*n by omega)]
    exact (N i a_).le E)⟩)
  refine aX (v:=.int .i64 (min k c:Nat)) (w':=w.setCells r 0 (d.take (min k c*n))) ?_ (hf _ _ _ _ _ hF a6 (.w (.one (.lit rfl))));simp only[xe,ho,resolve,aCC,builtin,Sem.run_bind,Sem.run_pure,Result.andThen_ok,aEp,aAJ,aCU,D];rfl
 exact q.elim
def pq(C:Ctx):ji->jl->Prop
 |[],[]=>True|v::vs,x::l=>RV C v x/\pq C vs l|_,_=>False
theorem pq.append{C:Ctx}:∀ {c:ji} {l:jl} {b:ji} {d:jl},pq C c l->pq C b d->pq C (c++b) (l++d)
 |[],[],_,_,_,h=>h|[],_::_,_,_,h,_=>h.elim|_::_,[],_,_,h,_=>h.elim|_::_,_::_,_,_,⟨h1,h2⟩,h=>⟨h1,h2.append h⟩
theorem pq.FM{C:Ctx}:∀ {d:g_} {l:jl},RL C d l->(d.all fun c=>bz c.width 1)=true->pq C (d.map dm) l
 |[],l,h,_=>by cases h;exact trivial| c::d,l,h,hw=>by
  rw[aBV,zg] at hw;cases h with
  |@cons _ _ _ f i b g=>
   have e:=b.width;rw[iy hw.1] at e
   match f,e,b with
   |[v],_,b=>exact⟨.w (.one b),pq.FM g hw.2⟩
theorem Qn.vals{C:Ctx}{a:Act}:∀ {b:ji} {l:List uA},Qn C a b l->pq C b (l.map a.eval)
 |[],[],_=>trivial|[],_::_,h=>h.elim|_::_,[],h=>h.elim|_::_,_::_,⟨h1,h2⟩=>⟨h1,h2.vals⟩
def E5(A:o_)(b:List aBG)(w:ae):Prop:=∃ l,A.gm l/\A.dv.O l=none/\A.dv.pan l A.X0 w b/\gq A.S A.w0 w
def Di(A:o_)(Q:uk->Act->jg):Prop:=∀ b a w,a.defers=A.ds->E5 A b w->Q (.panic b) a w
def wJ(e:Int):Acc:=⟨-1,e,0,aC⟩
def aIx(T:bu)(e:Int):List aBG:=[{ v:=.iface T (.agg #[.int .i64 e]),recovered:=false }]
def bHv(T:bu)(O:ut):Prop:=O []=some ⟨(T:Int)+1,aC⟩/\∀ l e,O (l++[wJ e])=none
structure qw(P:ed)(D:Dv)(gm:je->Prop):Prop where
 step:∀ l X w,D.inv l X w->∃ F caps,D.hd=.func (.func F) #[] caps/\(∀ args w,(aAE F args).run P w=.ok (.enter F args) w) /\
  ∀ c:Acc,c.kind ≠ -1->(D.O (l++[c])=none->gm (l++[c]))->Calls P F (#[c.v]++caps) w fun e w'=>gq D.S w w'/\((∃ r,D.O (l++[c])=some r/\e=.returned r.v/\D.inv (l++[c]) X w')\/(∃ chain,D.O (l++[c])=none/\e=.panicked chain/\D.pan (l++[c]) X w' chain))
 fail:∀ T,bHv T D.O->∀ l X w,D.inv l X w->D.O l≠none/\∀ e,D.pan (l++[wJ e]) X w (aIx T e)
theorem qw.mono{P:ed}{D:Dv}{gm b:je->Prop}(h:qw P D gm)(hs:∀ l,b l->D.O l=none->gm l):qw P D b:=⟨fun l X w f=>by
 obtain⟨F,d,k,j,i⟩:=h.step l X w f
 exact⟨F,d,k,j,fun c m g=>i c m fun e=>hs _ (g e) e⟩,h.fail⟩
structure l_(P:ed)(I:jg)(A:o_):Prop where
 mem:∀ w,gq A.S A.w0 w->I w
 sub:∀ b,A.dv.S b->A.S b
 old:∀ b,A.S b->b<A.w0.heap.size/\¬A.ok0 b
 step:qw P A.dv A.gm
 dvh:∀ l X w,A.dv.inv l X w->A.ext dx=some A.dv.hd
 DV:∀ l X Y w w' chain,A.dv.pan l X w chain->gq X w w'->(∀ b,Y b->X b)->A.dv.pan l Y w' chain
structure b_(P:ed)(I:jg)(f:Nat)(sp:Spec):Prop where
 enters:∀ args w,(aAE f args).run P w=.ok (.enter f args) w
 calls:∀ (A:o_) (s:St) (a:Act) (w:ae) (env:Env) (nm:Nat) (pvs:ji) (vs:jl) (F:og->PV->Wr->Prop),ig A s a w env->l_ P I A->pq (aP A w env) pvs vs->(sp nm pvs).ok none s F ->
  Calls P f vs.toArray w fun e w'=>(∃ v wr val env',e=.returned val/\F none v wr/\ig A { s with o:=wr++s.o } a w' env'/\RV (aP A w' env') v val)\/(∃ chain,e=.panicked chain/\E5 A chain w')
def aJu(P:ed)(I:jg)(G:Specs):Prop:=∀ f b,G f=some b->b_ P I f b
variable {I:jg} {G:Specs}
theorem RV.P_{C:Ctx}{v:ag}(h:RV C (.w (.one .dv)) v):At C dx 0 (fun b=>v=b):=by cases h.inv with|dv _ h=>exact h
theorem bKe{C:Ctx}:∀ {l:jl},(l.all (·.oneCell'))=true->RL C (l.map PC.lit) l
 |[],_=>.nil|v::l,h=>by rw[aBV,zg] at h;exact .cons (xs:=[v]) (.lit h.1) (bKe h.2)
theorem aTe{C:Ctx}:∀ {l:g_} {f e:jl},aTf l=some f->RL C l e->e=f
 |[],_,_,h,b=>by cases h;cases b;rfl| c::l,_,_,h,b=>by
  cases c<;>simp only[aTf] at h<;>try (cases h;done)
  rename_i v;cases d:aTf l with
  |none=>rw[d] at h;cases h|some r=>
   rw[d] at h;cases h;cases b with
   |cons i g=>cases i;rw[aTe d g];rfl
theorem aSy(h:ig A s a w env){fn:Fn}{first cap:Array uA}(g:o.op=.makeFunc fn first cap){e cs:ji}{l:jl}(h1:Qn (aP A w env) a e first.toList)(h2:Qn (aP A w env) a cs cap.toList)(h3:bNd e=some l)(h4:IC cs=some [])
  (k:F none (qc (.func fn #[.agg l.toArray] #[])) []) (i:Fin A s a o K F):o.wp P a w K Q:=by
 have j:cap=#[]:=by
  cases cs with
  |nil=>
   cases d:cap.toList with
   |nil=>apply TC;simpa using d|cons y t=>rw[d] at h2;exact h2.elim
  |cons v l=>
   unfold IC at h4
   cases n:SS v<;>cases m:IC l<;>simp only[n,m] at h4<;>cases h4
 unfold bNd at h3;split at h3
 ·rename_i pl
  match d:first.toList,h1 with
  | [y],h1=>
   obtain⟨b,_⟩:=h1;have r:first=#[y]:=by apply TC;simpa using d
   generalize f:a.eval y=q at b;cases b with
   | w b=>cases b with
    |@agg _ c b=>
     have p:c=l.toArray:=by apply TC;simpa using aTe h3 b
     refine aX (v:=.func fn (first.map a.eval) (cap.map a.eval)) (w':=w) ?_ (i.same h k (.w (.one ?_)));simp[xe,g,Instr.makeFunc];rw[r,j];simp only[aEp,aAJ,aCU,f,p];exact .lit rfl
 cases h3
theorem V7 (hG:aJu P I G) (hI:l_ P I A) (hQ:Di A Q) (h:ig A s a w env) {nm:Nat} {f:uA} {args:Array uA} {a6:Array bu} (ho:o.op=.call { callee:=.value f,args:=args,argTypes:=a6 }) {fv:PV} (C:RV (aP A w env) fv (a.eval f)) {xs:ji} (p:Qn (aP A w env) a xs args.toList)
  (d:(Q8 G nm fv xs).ok none s F) (hf:Fin A s a o K F):o.wp P a w K Q:=by
 have V:∀ (g:Nat) (z:Spec) (B:ji) (vs:jl),G g=some z->pq (aP A w env) B vs->(z nm B).ok none s F->(xe a.eval o).run P w=(aAE g vs.toArray).run P w->o.wp P a w K Q:=by intro g z B vs hg j d u;have hs:=hG g z hg;unfold Oper.wp;rw[u,hs.enters,Oper.upon_enter];refine (hs.calls A s a w env nm B vs F h hI j d).mono ?_;rintro e X (⟨v,wr,a5,a3,rfl,i,U,T⟩|⟨m,rfl,i⟩);exact hf v wr a5 X a3 i U T;exact hQ m a X h.defers i
 unfold Q8 at d;split at d
 ·unfold doM at d;split at d
  ·rename_i k b c x
   cases a0:decide (k = -1)<;>rw[a0] at d
   rotate_left;exact d.elim;unfold aKL at d;obtain⟨g,vr,ob,N,d⟩:=d;have a7:=dZ d;clear d;obtain⟨hg,d⟩:=a7
   cases W:bz vr 0<;>cases ob<;>simp only[W] at d<;>try exact d.elim
   rename_i O gm l;obtain rfl:=iy W;obtain⟨Z,_,hF⟩:=d;obtain⟨hO,Y,E⟩:=h.dev g 0 O gm l N hg;subst hO Y;obtain⟨F0,a4,a8,a2,L⟩:=hI.step.step l _ w E;obtain⟨hd,he,_⟩:=h.lu dx g 0 _ N;have t:a.eval f=hd:=C.P_.now he;have H:=(h.pg dx _ (hI.dvh _ _ _ E)).2.now he;rw[a8] at H;rw[H] at t
   have S : args.map a.eval=#[(⟨k,b,c,x⟩:Acc).v]:=by
    apply TC;rw[aGI]
    match hl:args.toList,p with
    | [y], p=>
     obtain⟨j,_⟩:=p;generalize hq:a.eval y=q at j;cases j with
     | w j => cases j with
      | @agg _ n j=>
       have a9:n.toList=[.int .i64 k,.int .i64 b,.int .i64 c,.string x]:=by
        generalize n.toList=cl at j;cases j with
        | cons i j=>cases i;cases j with
         | cons i j=>cases i;cases j with
          |cons i j=>cases i;cases j with
           |cons i j=>cases i;cases j;rfl
       have:n=#[.int .i64 k,.int .i64 b,.int .i64 c,.string x]:=by apply TC;simpa using a9
       simp[hq,this,Acc.v]
   have u:(xe a.eval o).run P w=(aAE F0 (#[(⟨k,b,c,x⟩:Acc).v]++a4)).run P w:=by simp[xe,ho,resolve,t,Deferred.ofValue,aCC,S]
   unfold Oper.wp;rw[u,a2,Oper.upon_enter];refine (L ⟨k,b,c,x⟩ (of_decide_eq_false a0) Z).mono ?_;rintro e X ⟨hc,⟨r,D,rfl,hi⟩|⟨m,D,rfl,hp⟩⟩;obtain⟨i,b1⟩:=h.asked N hg hI.sub (fun b W=>hI.old b (hI.sub b W)) hc hi;have b0:F none (XX (A.dv.O (l++[(⟨k,b,c,x⟩:Acc)]))) [(dx,none,0,.dev A.dv.O A.gm (l++[(⟨k,b,c,x⟩:Acc)]))]:=hF;refine hf (XX (A.dv.O (l++[(⟨k,b,c,x⟩:Acc)]))) [(dx,none,0,.dev A.dv.O A.gm (l++[(⟨k,b,c,x⟩:Acc)]))] r.v X env b0 i ?_;rw[D];refine .w (.agg ?_);show RL _ [.lit (.int .i64 r.val),.lit (.string r.bytes)] [.int .i64 r.val,.string r.bytes];exact .cons (xs:=[_]) (.lit rfl) (.cons (xs:=[_]) (.lit rfl) .nil);exact hQ m a X h.defers ⟨l++[(⟨k,b,c,x⟩:Acc)],Z D,D,hI.DV _ _ _ _ _ _ hp (gq.refl _ _) (fun b W=>.inl W),h.iw.trans (hc.mono fun b _ hs=>hI.sub b hs)⟩
  exact d.elim
 ·rename_i g first cap
  split at d
  ·rename_i z i U T;have t:=C.gu;have e1:first=#[]:=by apply TC;simpa using i
   have e2:cap=#[]:=by apply TC;simpa using U
   subst e1 e2;refine V g z xs (args.toList.map a.eval) T p.vals d ?_;have e3:(args.toList.map a.eval).toArray=args.map a.eval:=by apply TC;simp
   rw[e3];simp[xe,ho,resolve,t,Deferred.ofValue,aCC]
  ·rename_i n z i U T
   cases J:n.toList.all (·.oneCell')<;>simp only[J] at d<;>try exact d.elim
   have t:=C.gu;have e1:first=#[.agg n]:=by apply TC;simpa using i
   have e2:cap=#[]:=by apply TC;simpa using U
   subst e1 e2;refine V g z (.w (.agg (n.toList.map .lit))::xs) (.agg n::args.toList.map a.eval) T ⟨.w (.agg (bKe J)),p.vals⟩ d ?_;have e3:(Value.agg n::args.toList.map a.eval).toArray=#[.agg n]++args.map a.eval:=by apply TC;simp
   rw[e3];simp[xe,ho,resolve,t,Deferred.ofValue,aCC]
  exact d.elim
 ·rename_i g first cap
  split at d;rename_i z i U T;have a1:=C.inv;generalize hq:a.eval f=q at a1;cases a1 with
  |@fn _ _ _ _ fs n r1 r2=>
   refine V g z _ (fs++args.toList.map a.eval++n) i (((pq.FM r1 U).append p.vals).append (pq.FM r2 T)) d ?_;have e3:(fs++args.toList.map a.eval++n).toArray=fs.toArray++args.map a.eval++n.toArray:=by apply TC;simp
   rw[e3];simp[xe,ho,resolve,hq,Deferred.ofValue,aCC]
  exact d.elim
 exact d.elim
theorem aTr{t:bu}{k:M}(b:(bBx P t k).ok none s F):P.eqGuardType P.depth t=false/\k.ok none s F:=by unfold bBx at b;split at b;split at b;rename_i c;exact⟨c,b⟩;exact b.elim;exact b
theorem aBv{t e:bu}(f:P.underlying t=some (.slice e))(d:Nat)(b:Addr)(l c:Nat)(w:ae):(Op.equalIn (d+1) t (.slice (some b) l c) (.slice none 0 0)).run P w=.ok false w:=by simp[Op.equalIn,Ha f]
theorem aWj{t e:bu}(d:P.underlying t=some (.slice e))(b:Addr)(l c:Nat)(w:ae):(binOp .eql t (.slice (some b) l c) (.slice none 0 0)).run P w=.ok (.bool false) w:=by
 show (do pure (Value.bool (<-Op.equal t (.slice (some b) l c) (.slice none 0 0))):Sem ag).run P w=_;rw[Sem.run_bind,show Op.equal t (.slice (some b) l c) (.slice none 0 0)=Op.equalIn (9999+1) t (.slice (some b) l c) (.slice none 0 0) from rfl,aBv d];rfl
theorem aWh{t e:bu}(d:P.underlying t=some (.slice e))(b:Addr)(l c:Nat)(w:ae):(binOp .neq t (.slice (some b) l c) (.slice none 0 0)).run P w=.ok (.bool true) w:=by
 show (do pure (Value.bool (!(<-Op.equal t (.slice (some b) l c) (.slice none 0 0)))):Sem ag).run P w=_;rw[Sem.run_bind,show Op.equal t (.slice (some b) l c) (.slice none 0 0)=Op.equalIn (9999+1) t (.slice (some b) l c) (.slice none 0 0) from rfl,aBv d];rfl
theorem ZU(h:ig A s a w env){op:BinOp}{t ty:bu}{x y:uA}(Z:o.op=.binOp op t x y ty){p q:PV}(C:RV (aP A w env) p (a.eval x))(L:RV (aP A w env) q (a.eval y))(c:(ZV P op t x y p q).ok none s F)(u:Fin A s a o K F):o.wp P a w K Q:=by
 have b:∀ v,(do eqGuard op t x y (a.eval x) (a.eval y);binOp op t (a.eval x) (a.eval y):Sem ag).run P w=.ok v w->(xe a.eval o).run P w=.ok (.value v) w:=fun v J=>by
  simp only[xe,Z,Sem.run_bind] at J ⊢;rw[J];simp
 unfold ZV at c
 split at c
 rename_i va vb;have H:=C.gu;have z:=L.gu;rw[H,z] at b
 split at c
 split at c
 rename_i D;subst D;obtain⟨i,d⟩:=c;have g:¬_=(0:Int):=i;exact aX (b _ (by simp[eqGuard,binOp,Op.intDiv,g])) (u.same h d (.w (.one (.lit rfl))));exact c.elim
 split at c
 rename_i D;subst D;obtain⟨i,d⟩:=c;have g:¬_=(0:Int):=i;exact aX (b _ (by simp[eqGuard,binOp,Op.intDiv,g])) (u.same h d (.w (.one (.lit rfl))));exact c.elim;obtain⟨i,d⟩:=c;have g:¬_<(0:Int):=Int.not_lt.2 i;exact aX (b _ (by simp[eqGuard,binOp,Op.shift,g])) (u.same h d (.w (.one (.lit rfl))));obtain⟨i,d⟩:=c;have g:¬_<(0:Int):=Int.not_lt.2 i;exact aX (b _ (by simp[eqGuard,binOp,Op.shift,g])) (u.same h d (.w (.one (.lit rfl))));obtain⟨i,d⟩:=c;refine aX (b _ ?_) (u.same h d (.w (.one (.lit rfl))));rename_i m n
 have B:¬(((m.size+n.size:Nat):Int) > IntKind.i64.max):=by
  have:m.size+n.size<=9223372036854775807:=i;have e:IntKind.i64.max=9223372036854775807:=jb;rw[e];omega
 simp only[eqGuard,binOp,Op.stringOp,Sem.run_bind];rw[ah B];rfl;obtain⟨r,B,E,d⟩:=aWy c;exact aX (b r (aDk B)) (u.same h d (.w (.one (.lit E))));rename_i l m
 have N:∀ r,eqT P 8 t l m=some r->jI P t=some true->∃ k j,a.eval x=.agg k/\a.eval y=.agg j/\(Op.equalIn 10000 t (.agg k) (.agg j)).run P w=.ok r w:=by
  intro r J U
  have H:D8 P t l=some (.agg l):=by unfold D8;rw[U]
  have z:D8 P t m=some (.agg m):=by unfold D8;rw[U]
  generalize a.eval x=W at C;generalize a.eval y=vy at L
  cases C with
  | w C=>cases C with
   | @agg _ k B=>cases L with
    |w L=>cases L with
     |@agg _ j E=>exact⟨k,j,rfl,rfl,P7 8 J H z (.agg B) (.agg E) 9991 w⟩
 split at c
 rename_i r B S;obtain⟨E,c⟩:=aTr c;obtain⟨k,j,H,z,T⟩:=N r B S;rw[H,z] at b;refine aX (b (.bool r) ?_) (u.same h c (.w (.one (.lit rfl))));rw[Sem.run_bind,run_eqGuard_agg w _ t x y k j E,Result.andThen_ok,run_eql_struct w t k j,T,Result.andThen_ok];rename_i r B S;obtain⟨E,c⟩:=aTr c;obtain⟨k,j,H,z,T⟩:=N r B S;rw[H,z] at b;refine aX (b (.bool (!r)) ?_) (u.same h c (.w (.one (.lit rfl))));rw[Sem.run_bind,run_eqGuard_agg w _ t x y k j E,Result.andThen_ok,run_neq_struct w t k j,T,Result.andThen_ok];exact c.elim;rename_i n len f;have z:=L.gu;generalize Y:a.eval x=W at C b
 cases C.inv with
 |@sl _ _ _ _ _ vs J a1 a0=>
  obtain⟨_,A1,c1,rfl,_,_,V⟩:=J
  split at c
  rename_i e O;obtain⟨i,d⟩:=c;obtain⟨b',X,rfl,_⟩:=V i;refine aX (b (.bool false) ?_) (u.same h d (.w (.one (.lit rfl))));rw[z,Sem.run_bind,show (eqGuard .eql t x y (.slice (some _) _ _) (.slice none 0 0):Sem Unit).run P w=.ok () w from rfl,Result.andThen_ok,aWj O];rename_i e O;obtain⟨i,d⟩:=c;obtain⟨b',X,rfl,_⟩:=V i;refine aX (b (.bool true) ?_) (u.same h d (.w (.one (.lit rfl))));rw[z,Sem.run_bind,show (eqGuard .neq t x y (.slice (some _) _ _) (.slice none 0 0):Sem Unit).run P w=.ok () w from rfl,Result.andThen_ok,aWh O];exact c.elim
 exact c.elim
theorem aXx(h:ig A s a w env){x:uA}(i:o.op=.nilCheck x){v:PV}(c:RV (aP A w env) v (a.eval x))(g:bNx v=true)(k:F none v [])(j:Fin A s a o K F):o.wp P a w K Q:=by
 have e:∃ b o,a.eval x=.pointer (some ⟨b,o,none⟩):=by
  unfold bNx at g
  split at g<;>first|(cases g;done)|skip
  cases c.inv with|pt d _=>exact d
  cases c.inv with|pk d _=>exact d
  cases c.inv with|pe d _=>exact d
  generalize a.eval x=q at c;cases c.inv with|pf _ _ _ _=>exact⟨_,_,rfl⟩
  generalize a.eval x=q at c;cases c.inv with|pa _ _ _ _=>exact⟨_,_,rfl⟩
 obtain⟨b,f,e⟩:=e;rw[e] at c;exact aX (v:=.pointer (some ⟨b,f,none⟩)) (w':=w) (by simp[xe,i,e]) (j.same h k c)
theorem bHj(h:ig A s a w env){t:bu}{x:uA}(C:o.op=.sliceToArrayPointer t x){v:PV}(m:RV (aP A w env) v (a.eval x))(d:(aQd P t v).ok none s F)(D:Fin A s a o K F):o.wp P a w K Q:=by
 unfold aQd at d;split at d;rename_i n e k len f y;split at d;rename_i T E;obtain rfl:=iy E;obtain⟨⟨g,b⟩,H⟩:=d;generalize B:a.eval x=q at m;cases m.inv with
 |@sl _ _ _ _ _ S z l i=>obtain⟨N,U,r,rfl,L,J,p⟩:=z;obtain⟨O,u,rfl,j⟩:=p b;refine aX (v:=.pointer (some ⟨O,u,none⟩)) (w':=w) (by simp[xe,C,B,run_arrayAt w t e n _ len r y g]) (D.same h H (.w (.one (.pa (c:=r) ⟨N,_,_,rfl,L,J,p⟩ (l _ rfl b) i b))))
 exact d.elim;exact d.elim
theorem Y5(h:ig A s a w env){args:Array uA}{c:Array bu}{x y:uA}(g:o.op=.call { callee:=.builtin .min,args:=args,argTypes:=c })(j:args=#[x,y]){p q:PV}(f:RV (aP A w env) p (a.eval x))(e:RV (aP A w env) q (a.eval y))(b:(Y6 p q).ok none s F)(i:Fin A s a o K F):o.wp P a w K Q:=by
 subst j;unfold Y6 at b;split at b
 ·split at b
  ·rename_i k m u n d;subst d;have t:=f.gu;have r:=e.gu;refine aX (v:=.int k (min m n)) (w':=w) ?_ (i.same h b (.w (.one (.lit rfl))))
   have l:(if n<m then n else m)=min m n:=by split<;>omega
   simp[xe,g,resolve,aCC,t,r,builtin,Builtin.min_,Builtin.min2,l]
  exact b.elim
 exact b.elim
theorem YC(h:ig A s a w env){args:Array uA}{c:Array bu}{x y:uA}(g:o.op=.call { callee:=.builtin .max,args:=args,argTypes:=c })(j:args=#[x,y]){p q:PV}(f:RV (aP A w env) p (a.eval x))(e:RV (aP A w env) q (a.eval y))(b:(YD p q).ok none s F)(i:Fin A s a o K F):o.wp P a w K Q:=by
 subst j;unfold YD at b;split at b
 ·split at b
  ·rename_i k m u n d;subst d;have t:=f.gu;have r:=e.gu;refine aX (v:=.int k (max m n)) (w':=w) ?_ (i.same h b (.w (.one (.lit rfl))))
   have l:(if m<n then n else m)=max m n:=by split<;>omega
   simp[xe,g,resolve,aCC,t,r,builtin,Builtin.max_,Builtin.max2,l]
  exact b.elim
 exact b.elim
theorem bRm(T:aJu P I G)(hI:l_ P I A)(S:Di A Q)(h:ig A s a w env){N:Nat}(b:(body P G N o).ok none s F)(d:Fin A s a o K F):o.wp P a w K Q:=by
 obtain⟨V,Y,X,L,D,C⟩:=o;unfold body at b;dsimp only at b;split at b;exact bMk h (.inl rfl) b d;exact bMk h (.inr rfl) b d;exact Sv h rfl b d;split at b;rename_i l q;exact QL h rfl q b d;exact b.elim;obtain⟨pv,c,b⟩:=iR h b;split at b;split at b;cases c with|w c=>exact ZR h rfl c b d
 exact b.elim;exact b.elim;obtain⟨pv,c,b⟩:=iR h b;exact U4 h rfl c b d;obtain⟨pv,c,b⟩:=iR h b;obtain⟨j,g,b⟩:=iR h b;exact Iy h rfl c g b d;obtain⟨pv,c,b⟩:=iR h b;exact aUe h rfl c b d;obtain⟨pv,c,b⟩:=iR h b;obtain⟨j,g,b⟩:=iR h b;exact aTn h rfl c g b d;obtain⟨pv,c,b⟩:=iR h b;exact Ol h rfl c b d;obtain⟨pv,c,b⟩:=iR h b;exact bGm h rfl c b d;obtain⟨J,c,b⟩:=aDy h b;split at b;rename_i l q;exact QA h rfl c q b d;exact b.elim;obtain⟨J,c,b⟩:=aDy h b;exact aPz h rfl c b d;obtain⟨pv,c,b⟩:=iR h b;obtain⟨Z,u,b⟩:=bCk h b;obtain⟨hv,O,b⟩:=bCk h b;exact JL h rfl c u O b d;obtain⟨pv,c,b⟩:=iR h b;obtain⟨j,g,b⟩:=iR h b;exact ZU h rfl c g b d;obtain⟨pv,c,b⟩:=iR h b;split at b;rename_i v u;exact RU h rfl c u b d;exact b.elim;obtain⟨pv,c,b⟩:=iR h b;exact bGw h rfl c b d;obtain⟨pv,c,b⟩:=iR h b;obtain⟨j,g,b⟩:=iR h b;exact Tq h rfl c g b d;rename_i args e;split at b;rename_i x y t E i k;split at b;rename_i p;obtain rfl:=iy p;obtain⟨pv,c,b⟩:=iR h b;obtain⟨j,g,b⟩:=iR h b;obtain rfl:args=#[x,y]:=by apply TC;simpa using i
 obtain rfl:e=#[t,t]:=by apply TC;simpa using k
 exact Uy h rfl c g b d;exact b.elim;exact b.elim;obtain⟨pv,c,b⟩:=iR h b;split at b;rename_i p;exact aXx h rfl c p b d;exact b.elim;obtain⟨pv,c,b⟩:=iR h b;exact bHj h rfl c b d;rename_i args e;split at b;rename_i x y i;obtain⟨pv,c,b⟩:=iR h b;obtain⟨j,g,b⟩:=iR h b;exact Y5 h rfl (by apply TC;simpa using i) c g b d;exact b.elim;rename_i args e;split at b;rename_i x y i;obtain⟨pv,c,b⟩:=iR h b;obtain⟨j,g,b⟩:=iR h b;exact YC h rfl (by apply TC;simpa using i) c g b d;exact b.elim;obtain⟨fs,m,b⟩:=aFu h b;obtain⟨cs,n,b⟩:=aFu h b;split at b;rename_i fp cp H B;exact aYa h rfl m n H B b d;rename_i H B;split at b;rename_i l U;exact aSy h rfl m n U B b d;exact b.elim;exact b.elim;rename_i f args e;obtain⟨fv,z,b⟩:=iR h b;obtain⟨W,r,b⟩:=aFu h b;exact V7 T hI S h rfl z r b d;rename_i args e;split at b;rename_i x t i k;obtain⟨pv,c,b⟩:=iR h b;obtain rfl:args=#[x]:=by apply TC;simpa using i
 obtain rfl:e=#[t]:=by apply TC;simpa using k
 exact YN h rfl c b d;exact b.elim;rename_i args e;split at b;rename_i x y t E i k;split at b;rename_i p;obtain rfl:=iy p;obtain⟨pv,c,b⟩:=iR h b;obtain⟨j,g,b⟩:=iR h b;obtain rfl:args=#[x,y]:=by apply TC;simpa using i
 obtain rfl:e=#[t,t]:=by apply TC;simpa using k
 exact bRz h rfl c g b d;obtain⟨pv,c,b⟩:=iR h b;obtain⟨j,g,b⟩:=iR h b;obtain rfl:args=#[x,y]:=by apply TC;simpa using i
 obtain rfl:e=#[t,E]:=by apply TC;simpa using k
 exact bSa h rfl c g b d;exact b.elim;exact b.elim
theorem Xn(hG:aJu P I G)(hI:l_ P I A)(hQ:Di A Q)(C:Nat)(ops:Array ik)(hd:∀ (i:Nat) (o:ik) d,ops[i]?=some o->o.dst=some d->d<A.nt):Gi P ops Q (qj A) (rM P G C ops.toList):=by
 intro i o s a w U W Z E hc K hK;have c:=M.zy _ none s U (fun g v wr=>∀ k f,qj A (appW o.dst g v wr s) k f->K k f) E hc (fun k f h=>hK k f ((aTw A) _ _ _ _ (fun _=>rfl) (fun _=>rfl) h));obtain⟨env,N⟩:=Z
 have r:∀ (F:og->PV->Wr->Prop),(∀ v wr,F none v wr->∀ k f,qj A (appW o.dst none v wr s) k f->K k f)->Fin A s a o K F:=by
  intro F hF v wr B f m z O h3;refine hF v wr z _ _ ⟨m,?_⟩;have:=O.put o.dst none v B (fun t V=>hd i o t W V) (fun _=>h3) (fun h=>by cases h)
  have e:appW o.dst none v wr s=Kq o.dst none v { s with o:=wr++s.o }:=by unfold appW app Kq;cases o.dst<;>rfl
  rw[e];exact this
 unfold wpOp;rw[W];dsimp only;unfold rM at c;cases n:o.guard with
 |none=>
  rw[n] at c;have hw:Region.wanted o (aAG ops a.tmps)=true:=by simp[Region.wanted,n]
  rw[au hw];exact .inl (bRm hG hI hQ N c (r _ fun v wr h=>h))
 | some jp=>
  obtain⟨j,x⟩:=jp;rw[n] at c;dsimp only at c;cases X:(ops.toList[j]?).bind (·.dst) with
  |none=>rw[X] at c;exact c.elim| some T=>
   rw[X] at c;obtain⟨g,v,J,c⟩:=c;have L:(ops[j]?).bind (·.dst)=some T:=by simpa using X
   have u:∀ S,Region.wanted o (aAG ops a.tmps)=S->(M.gate S (body P G (C*1000+i) o)).ok none s (fun g v wr=>∀ k f,qj A (appW o.dst g v wr s) k f->K k f) ->
     (if Region.wanted o (aAG ops a.tmps)=true then o.wp P a w K Q\/(o.asks P a w/\LetsOut Q) else K (a.put o.dst dC) w):=by
    intro S l c;obtain⟨_,c⟩:=c;cases S with
    |true=>rw[au l];refine .inl (bRm hG hI hQ N (bOf _ s _ c) (r _ fun v wr h=>?_));intro k f H;exact h.2.2 k f (H.aIZ h.2.1)|false=>
     rw[ah (by rw[l];exact Bool.false_ne_true)];obtain⟨v,wr,z,O⟩:=bGb _ s _ c;obtain⟨m,h3⟩:=ig.aQQ wr s env N O;refine z _ _ ⟨m,?_⟩;have:=h3.put o.dst (some false) v dC (fun t V=>hd i o t W V) (fun Z=>absurd Z (by simp[gT])) (fun _=>rfl)
     have e:appW o.dst (some false) v wr s=Kq o.dst (some false) v { s with o:=wr++s.o }:=by unfold appW app Kq;cases o.dst<;>rfl
     rw[e];exact this
   have q:Region.wanted o (aAG ops a.tmps)=(aAG ops a.tmps j==some x):=by simp[Region.wanted,n]
   have p:∀ b,gT g->v=qc (.bool b)->Region.wanted o (aAG ops a.tmps)=Kw x b:=by
    intro b Y hv;subst hv;obtain⟨B,z,O⟩:=N.tmps T g _ J Y;have D:=O.BM;subst D;have y:aAG ops a.tmps j=some b:=by unfold aAG;rw[L];simp[z]
    rw[q,y]
    cases x<;>cases b<;>rfl
   dsimp only at c;split at c;rename_i b;exact u _ (p b trivial rfl) c;rename_i b0 b;refine u _ ?_ c;cases b0 with
   |true=>rw[Bool.true_and];exact p b rfl rfl| false=>
    have z:=N.und T _ J;have y:aAG ops a.tmps j=none:=by unfold aAG;rw[L];simp[z,dC]
    rw[q,y,Bool.false_and];rfl
   exact c.elim
def kw(P:ed)(A:o_)(s:St)(c:Hm)(Q:uk->Act->jg):Prop:=∀ a w,qj A s a w->Di A Q->c.wp P Q a w
def Wv(A:o_)(s:St)(Q:Act->jg):Prop:=∀ a w,qj A s a w->Q a w
def F8(P:ed)(A:o_)(c:Hm)(Q:uk->Act->jg):Act->ae->Prop:=fun a w=>Di A Q->c.wp P Q a w
structure jq(P:ed)(I:jg)(G:Specs):Prop where
 aFY:aJu P I G
 mixed:P.follows .mixedOrders=true
def uD(a:Nat)(l:List ik):Bool:=l.all fun o=>match o.dst with
 |some d=>XN d a|none=>true
def bOn(s:St)(x:Nat)(k:Nat->Option Out):Option Out:=match find s.o x with
 |some (_,vr,_)=>k (vr+1)|none=>k 0
theorem bOm(s:St)(x:Nat)(k:Nat->Option Out):bOn s x k=k (fresh s x):=by
 unfold bOn fresh;cases find s.o x with
 |none=>rfl|some p=>rfl
def M.exec:M->og->St->List Prop->List Nat->List Nat->Wr->Option Out
 |.ret v,h,_,c,rt,ro,wr=>some ⟨h,v,c,rt,ro,wr⟩|.fail,_,_,_,_,_,_=>none|.need p k,h,s,c,rt,ro,wr=>k.exec h s (c++[hP h p]) rt ro wr|.tmp t k,h,s,c,rt,ro,wr=>match find s.t t with
  |some (g,v)=>(k g v).exec h s c (rt++[t]) ro wr|none=>none
 |.obj x k,h,s,c,rt,ro,wr=>match find s.o x with
  |some (g,vr,ob)=>(k g vr ob).exec h s c rt (ro++[x]) wr|none=>none
 |.new x ob k,h,s,c,rt,ro,wr=>bOn s x fun v=>(k v).exec h s c rt (ro++[x]) (wr++[(x,h,v,ob)])|.upd x vr ob k,h,s,c,rt,ro,wr=>match h with
  |none=>k.exec none s c rt ro (wr++[(x,none,vr,ob)])|some _=>none
 |.gate b k,h,s,c,rt,ro,wr=>match h with
  |none=>k.exec (some b) s c rt ro wr|some _=>none
def WU(c:List Prop)(a b:List Nat)(wr:Wr)(o:Out):Out:=⟨o.g,o.val,c++o.conds,a++o.rt,b++o.ro,wr++o.wr⟩
theorem Uc:∀ (m:M) (h:og) (s:St) (c:List Prop) (d e:List Nat) (wr:Wr),m.exec h s c d e wr=(m.run h s).map (WU c d e wr):=by
 intro m
 induction m with
 |ret v=>intro h s c d e wr;simp[M.exec,M.run,WU]|fail=>intro h s c d e wr;rfl|need p k a=>intro h s c d e wr;rw[M.exec,M.run,a];cases k.run h s<;>simp[WU]|tmp t k a=>
  intro h s c d e wr;rw[M.exec,M.run];cases find s.t t with
  |none=>rfl|some p=>obtain⟨g,v⟩:=p;dsimp only;rw[a];cases (k g v).run h s<;>simp[WU]
 |obj x k a=>
  intro h s c d e wr;rw[M.exec,M.run];cases find s.o x with
  |none=>rfl|some p=>obtain⟨g,i,f⟩:=p;dsimp only;rw[a];cases (k g i f).run h s<;>simp[WU]
 |new x f k a=>intro h s c d e wr;rw[M.exec,M.run,bOm,a];cases (k (fresh s x)).run h s<;>simp[WU]|upd x i f k a=>
  intro h s c d e wr;cases h with
  |some b=>rfl|none=>rw[M.exec,M.run,a];cases k.run none s<;>simp[WU]
 |gate b k a=>
  intro h s c d e wr;cases h with
  |some b=>rfl|none=>rw[M.exec,M.run,a]
theorem zL(m:M)(h:og)(s:St):m.exec h s [] [] [] []=m.run h s:=by
 rw[Uc]
 cases m.run h s<;>simp[WU]
def G7{a:Type}:Wr->Wr->(Wr->a)->a
 |[],o,k=>k o|p::l,o,k=>G7 l o fun r=>k (p::r)
theorem bBb{a:Type}:∀ (l o:Wr) (k:Wr->a),G7 l o k=k (l++o)
 |[],_,_=>rfl|p::l,o,k=>by rw[G7,bBb l];rfl
def Zc{a:Type}(d:Option Nat)(out:Out)(s:St)(k:St->a):a:=match out,s with
 |⟨g,v,_,_,_,wr⟩,⟨t,o⟩=>G7 wr o fun b=>match d with
  |some d=>k ⟨(d,g,v)::t,b⟩|none=>k ⟨t,b⟩
theorem VD{a:Type}(d:Option Nat)(out:Out)(s:St)(k:St->a):Zc d out s k=k (app d out s):=by
 obtain⟨g,v,c,b,e,wr⟩:=out;obtain⟨t,o⟩:=s;unfold Zc;dsimp only;rw[bBb]
 cases d<;>rfl
def jL(b:Nat->ik->M):Nat->List ik->St->Option (List (Option Nat×Out)×St)
 |_,[],s=>some ([],s)| i,o::l,s=>match (b i o).exec none s [] [] [] [] with
  |some out=>Zc o.dst out s fun c=>(match jL b (i+1) l c with
   |some (a,s')=>some ((o.dst,out)::a,s')|none=>none)
  |none=>none
theorem aKy(a:Nat->ik->M):∀ (l:List ik) (i:Nat) (s:St),jL a i l s=uJ a i l s
 |[],_,_=>rfl| o::l,i,s=>by
  rw[jL,uJ,zL];cases (a i o).run none s with
  |none=>rfl|some out=>dsimp only;rw[VD,aKy a l]<;>rfl
def All:List Prop->Prop
 |[]=>True|p::l=>p/\All l
theorem All.mem:∀ {l:List Prop},All l->∀ p∈l,p
 |[],_,p,h=>by cases h|q::l,⟨h1,h2⟩,p,h=>by rcases List.mem_cons.1 h with rfl|h;exact h1;exact h2.mem p h
variable {s s':St}
theorem aS(M:jq P I G)(hI:l_ P I A){k:Nat}(f:A.nt=k){c:Nat}{ops:Array ik}{b:Bool}{outs:List (Option Nat×Out)}(h:jL (rM P G c ops.toList) 0 ops.toList s=some (outs,s'))(e:(fP b ops.toList outs&&uD k ops.toList)=true)(hc:All ((outs.map fun q=>q.2.conds).flatten))(x:Wv A s' (Q .normal)):kw P A s (.region c ops b) Q:=by
 intro a w t j;subst f;rw[aKy] at h;rw[zg] at e;refine aQq (Xn M.aFY hI j c ops (fun i o d l u=>?_)) (aTw A) (fun s a w h=>h.drew) M.mixed h (fun q n p r=>hc.mem p (List.mem_flatten.2 ⟨_,List.mem_map.2 ⟨q,n,rfl⟩,r⟩)) e.1 t (fun C m g=>x C m g);have:=List.all_eq_true.1 e.2 o (by rw[<-aEE] at l;exact aCH l);rw[u] at this;have B:d+1<=A.nt:=by simpa[XN] using this
 exact B
theorem mP{x y:Hm}(h:kw P A s x (Exit.then (F8 P A y Q) Q)):kw P A s (.seq x y) Q:=fun a w d b=>wp_seq (aCD (h a w d b) (fun e g f c=>by cases e<;>first|exact c|exact c b))
theorem sK{x y:Hm}(J:St->Prop)(h1:kw P A s x (Exit.then (fun a w=>∃ s',J s'/\qj A s' a w) Q))(h2:∀ s',J s'->kw P A s' y Q):kw P A s (.seq x y) Q:=fun a w h b=>wp_seq (aCD (h1 a w h b) (fun e i f d=>by cases e<;>first|exact d|(obtain⟨s',g,c⟩:=d;exact h2 s' g i f c b)))
theorem aNe(M:jq P I G)(hI:l_ P I A){f:Nat}(d:A.nt=f){c:Nat}{ops:Array ik}{b:Bool}{outs:List (Option Nat×Out)}{y:Hm}(h:jL (rM P G c ops.toList) 0 ops.toList s=some (outs,s'))(e:(fP b ops.toList outs&&uD f ops.toList)=true)(hc:All ((outs.map fun q=>q.2.conds).flatten))(i:kw P A s' y Q):kw P A s (.seq (.region c ops b) y) Q:=mP (aS M hI d h e hc (fun a w g=>i a w g))
def aMk(s:St)(c:uA):og:=match c with
 |.tmp t=>(match find s.t t with
  |some (none,.w (.one (.lit (.bool b))))=>some b|_=>none)
 |_=>none
theorem fH(h:Wv A s (Q .normal)):kw P A s .skip Q:=fun a w b _=>wp_skip (h a w b)
theorem dK{b:Nat}(h:Wv A s (Q (.exit b))):kw P A s (.exit b) Q:=fun a w c _=>wp_exit (h a w c)
theorem bZ(h:Wv A s (Q .ret)):kw P A s .ret Q:=fun a w b _=>wp_ret (h a w b)
theorem aN{d:Nat}{c:Hm}(h:kw P A s c (Exit.inBlock d Q)):kw P A s (.block d c) Q:=fun a w e b=>wp_block (h a w e b)
theorem aBn{c:uA}{x y:Hm}{b:Bool}(hc:aMk s c=some b)(h1:b=true->kw P A s x Q)(h2:b=false->kw P A s y Q):kw P A s (.cond c x y) Q:=fun a w h d=>by
 obtain⟨e,f⟩:=h
 have g:a.eval c=.bool b:=by
  cases c with
  |tmp t=>unfold aMk at hc;dsimp only at hc;split at hc;rename_i l i;cases hc;obtain⟨v,k,j⟩:=f.tmps t none _ i trivial;have:=j.BM;subst this;simp only[Act.eval];rw[aBL,k];rfl;cases hc
  |_=>cases hc
 refine wp_cond g ?_;cases b with
 |true=>exact h1 rfl a w ⟨e,f⟩ d|false=>exact h2 rfl a w ⟨e,f⟩ d
theorem bK{c:Hm}(h:∀ a w,qj A s a w->qj A s' a w)(e:kw P A s' c Q):kw P A s c Q:=fun a w d b=>e a w (h a w d) b
theorem dX{c:Hm}(n:Nat)(J:Nat->St->Prop)(d:Nat)(h0:J d s)(l:d<=n)
  (round:∀ k s,J k s->k<=n->kw P A s c (Exit.then (fun a w=>∃ b s',k<b/\b<=n/\J b s'/\qj A s' a w) Q)):kw P A s (.loop c) Q:=fun a w g h=>by
 refine wp_loop_ghost (fun m a w=>∃ k s,m=n-k/\k<=n/\J k s/\qj A s a w) (n-d) ⟨d,s,rfl,l,h0,g⟩ (fun m a w j=>?_);obtain⟨k,s,rfl,f,o,g⟩:=j;refine aCD (round k s o f a w g h) (fun e x t i=>?_)
 cases e<;>first|exact i|skip
 obtain⟨b,s',u,r,q,p⟩:=i;exact⟨n-b,a_,b,s',rfl,r,q,p⟩
def Gn(a:mg)(r:ResultVar):Sem ag:=match r with
 |.tmp t=>pure (a.getD t dC)
 |.cell b t=>do loadVar t (<-asAddr (a.getD b dC))
theorem bEj(fn:Lt)(a:mg):results fn a=(do let b <-fn.results.mapM (Gn a);pure (if h:b.size=1 then b[0] else .tuple b)):=by
 unfold results;congr 1
theorem aWz{a:Act}{w:ae}{env:Env}(h:ig A s a w env){F:og->PV->Wr->Prop}:∀ {n:List ResultVar} {k:List PW->M},(SE P n k).ok none s F ->
  ∃ e f,(n.mapM (Gn a.tmps)).run P w=.ok f w/\e.length=f.length/\(∀ (i:Nat) (x:PW),e[i]?=some x->∃ v:ag,f[i]?=some v/\RW (aP A w env) x v)/\(k e).ok none s F
 |[],k,c=>⟨[],[],d_,rfl,fun i x H=>by simp at H,c⟩| .tmp t::n,k,c=>by
  obtain⟨pv,m,c⟩:=iR h c;split at c;rename_i x;obtain⟨e,f,B,u,r,q⟩:=aWz h c;refine⟨x::e,a.tmps.getD t dC::f,?_,by simp[u],fun i y j=>?_,q⟩;rw[List.mapM_cons,show Gn a.tmps (.tmp t)=pure (a.tmps.getD t dC) from rfl];simp only[Sem.run_bind,Sem.run_pure,Result.andThen_ok,B];cases i with
  |zero=>
   obtain rfl:x=y:=by simpa using j
   cases m with|w m=>exact⟨_,rfl,m⟩
  |succ i=>exact r i y (by simpa using j)
  exact c.elim
 | .cell b t::n,k,c=>by
  obtain⟨pv,m,c⟩:=iR h c;obtain⟨E,C,x,g,D,d,l,c⟩:=bBl h m c;obtain⟨e,f,B,u,r,q⟩:=aWz h c;have o:a.tmps.getD b dC=.pointer (some ⟨E,C,none⟩):=D;have p:(loadVar t ⟨E,C,none⟩).run P w=.ok g w:=by rw[D] at d;simpa[Instr.loadAt,Instr.sureAddr] using d
  have J:(Gn a.tmps (.cell b t)).run P w=.ok g w:=by unfold Gn;simp only[o,asAddr,Sem.run_bind,Sem.run_pure,Result.andThen_ok,p]
  refine⟨x::e,g::f,?_,by simp[u],fun i y j=>?_,q⟩;rw[List.mapM_cons];simp only[Sem.run_bind,Sem.run_pure,Result.andThen_ok,J,B];cases i with
  |zero=>
   obtain rfl:x=y:=by simpa using j
   exact⟨_,rfl,l⟩
  |succ i=>exact r i y (by simpa using j)
theorem vN{a:Act}{w:ae}{env:Env}(h:ig A s a w env){F:og->PV->Wr->Prop}{fn:Lt}(d:(AQ P fn.results).ok none s F):∃ v f,(results fn a.tmps).run P w=.ok f w/\RV (aP A w env) v f/\F none v []:=by
 unfold AQ at d;obtain⟨m,k,p,c,j,d⟩:=aWz h d;have o:(fn.results.mapM (Gn a.tmps)).run P w=.ok k.toArray w:=by rw[Array.mapM_eq_mapM_toList,Sem.run_map,p];rfl
 rw[bEj];simp only[Sem.run_bind,o,Result.andThen_ok,Sem.run_pure];split at d;rename_i x
 match k,c,j with
 |[v],_,j=>obtain⟨q,e,l⟩:=j 0 x rfl;cases e;exact⟨_,_,rfl,.w l,d⟩
 rename_i b
 have g:¬k.toArray.size=1:=by
  intro e
  match m,c,b with
  |[x],_,b=>exact b x rfl|[],c,_=>simp at e c;omega|_::_::_,c,_=>simp at e c;omega
 rw[dif_neg g]
 exact⟨_,_,rfl,.o7 (by simpa using c) (fun i x n=>by
  obtain⟨v,e,l⟩:=j i x n
  exact⟨v,by simpa using e,l⟩),d⟩
def slots:Nat->ji->List (Nat×og×PV)
 |_,[]=>[]|i,v::vs=>(i,none,v)::slots (i+1) vs
theorem uQ{i:Nat}:∀ {a:ji} {t:Nat} {g:og} {pv:PV},find (slots i a) t=some (g,pv)->∃ k,t=i+k/\a[k]?=some pv
 |[],t,g,pv,h=>by cases h|v::a,t,g,pv,h=>by by_cases b:i=t;subst b;rw[slots,aG] at h;cases h;exact⟨0,rfl,rfl⟩;rw[slots,aF _ _ b] at h;obtain⟨k,d,c⟩:=uQ (i:=i+1) h;exact⟨k+1,a_,by simpa using c⟩
theorem rU{i:Nat}:∀ {a:ji} {t:Nat} {g:og} {pv:PV},find (slots i a) t=some (g,pv)->∃ k:Nat,t=i+k/\g=none
 |[],t,g,pv,h=>by cases h|v::a,t,g,pv,h=>by by_cases b:i=t;subst b;rw[slots,aG] at h;cases h;exact⟨0,rfl,rfl⟩;rw[slots,aF _ _ b] at h;obtain⟨k,d,c⟩:=rU (i:=i+1) h;exact⟨k+1,a_,c⟩
theorem pq.at{C:Ctx}:∀ {a:ji} {l:jl} {k:Nat} {pv:PV},pq C a l->a[k]?=some pv->∃ v,l[k]?=some v/\RV C pv v
 |[],[],_,_,_,h=>by simp at h|[],_::_,_,_,h,_=>h.elim|_::_,[],_,_,h,_=>h.elim| v::a,x::l,k,pv,⟨h1,h2⟩,h=>by
  cases k with
  |zero=>
   obtain rfl:v=pv:=by simpa using h
   exact⟨x,rfl,h1⟩
  |succ k=>obtain⟨b,d,c⟩:=pq.at h2 (by simpa using h:a[k]?=some pv);exact⟨b,by simpa using d,c⟩
theorem pq.length{C:Ctx}:∀ {a:ji} {l:jl},pq C a l->a.length=l.length
 |[],[],_=>rfl|[],_::_,h=>h.elim|_::_,[],h=>h.elim|_::_,_::_,⟨_,h⟩=>by rw[We,We,h.length]
def fQ(P:ed)(I:jg)(f:Nat)(new:Bool)(args:ji)(d:PV):Prop:=
 ∀ (w:ae) (c:uy) (h:jl),I w->pq { w,ok:=c,env:=fun _=>none } args h ->
  Calls P f h.toArray w fun e g=>∃ a,e=.returned a/\Ext w g/\RV { w:=g,ok:=fun b=>(new=false/\c b)\/w.heap.size<=b,env:=fun _=>none } d a
def bT(new:Bool):PC->Bool
 |.lit _=>true|.bs _ _=>true|.sl _ _ _=>!new|_=>false
theorem aJi{C:Ctx}{c:PC}{xs:jl}(h:R C c xs)(hc:bT false c=true):R C.cold c xs:=by
 cases h<;>first|(cases hc;done)|skip
 exact .lit qm;exact .bs qm;exact .sl qm qm qm
theorem kV{C:Ctx}:∀ {l:g_} {a:jl},RL C l a->l.all (bT false)=true->RL C.cold l a
 |[],_,h,_=>by cases h;exact .nil|c::l,_,h,hc=>by
  rw[aBV,zg] at hc;cases h with
  |cons d b=>exact .cons (aJi d hc.1) (kV b hc.2)
def Row1(s:St)(new:Bool)(l l':g_):Prop:=∃ x b n a len c e g f d,l=[.ow x b n a len]/\l'=[.sl n len d]/\find s.o x=some (g,b,.arr e n c f)/\gT g/\a+len<=c/\∀ i,i<len->f (a+i)=d i/\(d i).all (bT new)=true
inductive IL(s:St)(new:Bool):PC->PC->Prop where
 |rows {x l9 n off len tot e:Nat} {g:og} {f f':Nat->g_} (hf:find s.o x=some (g,l9,.arr e n tot f)) (hg:gT g) (hl:off+len<=tot) (he:∀ i,i<len->(f (off+i)=f' i/\(f' i).all (bT new)=true)\/Row1 s new (f (off+i)) (f' i)):IL s new (.ow x l9 n off len) (.sl n len f')
 |cold {c:PC} (h:bT new c=true):IL s new c c
 |row {x l9 n off len tot e:Nat} {g:og} {f f':Nat->g_} (hf:find s.o x=some (g,l9,.arr e n tot f)) (hg:gT g) (hl:off+len<=tot) (he:∀ i,i<len->f (off+i)=f' i) (hc:∀ i,i<len->(f' i).all (bT new)=true):IL s new (.ow x l9 n off len) (.sl n len f')
 |nil {n:Nat} {f:Nat->g_}:IL s new (.lit (.slice none 0 0)) (.sl n 0 f)
inductive IK(s:St)(new:Bool):g_->g_->Prop where
 |nil:IK s new [] []
 |cons {c c':PC} {l l':g_} (h:IL s new c c') (hl:IK s new l l'):IK s new (c::l) (c'::l')
inductive ExW(s:St)(new:Bool):PW->PW->Prop where
 |one {c c':PC} (h:IL s new c c'):ExW s new (.one c) (.one c')
 |agg {l l':g_} (h:IK s new l l'):ExW s new (.agg l) (.agg l')
inductive Qy(s:St)(new:Bool):List PW->List PW->Prop where
 |nil:Qy s new [] []
 |cons {c c':PW} {l l':List PW} (h:ExW s new c c') (hl:Qy s new l l'):Qy s new (c::l) (c'::l')
inductive ExV(s:St)(new:Bool):PV->PV->Prop where
 |w {x x':PW} (h:ExW s new x x'):ExV s new (.w x) (.w x')
 |o7 {l l':List PW} (h:Qy s new l l'):ExV s new (.o7 l) (.o7 l')
def Dj(A:o_)(s:St)(env:Env):Prop:=∀ x g a e n len f c b,find s.o x=some (g,a,.arr e n len f)->env x=some (a,c)->hblk c=some b->A.S b->False
theorem Dj.Xx{A:o_}{s:St}{env:Env}(h:A.S=Non):Dj A s env:=fun _ _ _ _ _ _ _ _ _ _ _ _ a=>by rw[h] at a;exact a
def rJ(w0:ae)(ok0:uy)(new:Bool):Nat->Prop:=fun b=>(new=false/\ok0 b)\/w0.heap.size<=b
theorem Ou{a:Act}{w:ae}{env:Env}(h:ig A s a w env)(hS:Dj A s env){new:Bool}{c c':PC}{xs:jl}(hx:IL s new c c')(hr:R (aP A w env) c xs):R { w,ok:=rJ A.w0 A.ok0 new,env:=fun _=>none } c' xs:=by
 have d:∀ {l:g_} {xs:jl},RL (aP A w env) l xs->l.all (bT new)=true->RL { w,ok:=rJ A.w0 A.ok0 new,env:=fun _=>none } l xs:=by
  intro l xs H K;cases new with
  |false=>exact (kV H K).le ⟨dE _,fun b _ t=>⟨t.1.elim (fun h=>.inl ⟨rfl,h⟩) .inr,rfl⟩,fun _ _ _ h=>by cases h⟩| true=>
   have U:∀ {l:g_} {xs:jl},RL (aP A w env) l xs->l.all (bT true)=true->RL { w,ok:=rJ A.w0 A.ok0 true,env:=fun _=>none } l xs:=by
    intro l
    induction l with
    |nil=>intro xs h _;cases h;exact .nil| cons c l ih=>
     intro xs h F;rw[aBV,zg] at F;cases h with
     |cons h3 T=>
      refine .cons ?_ (ih T F.2);have a0:=F.1
      cases h3<;>first|exact .lit qm|exact .bs qm|(cases a0;done)
   exact U H K
 have q:∀ {x j n m len p e:Nat} {g:og} {f V:Nat->g_} {xs:jl},find s.o x=some (g,j,.arr e n p f)->gT g->m+len<=p->R (aP A w env) (.ow x j n m len) xs ->
   (∀ i,i<len->∀ u,RL (aP A w env) (f (m+i)) u->RL { w,ok:=rJ A.w0 A.ok0 new,env:=fun _=>none } (V i) u)->R { w,ok:=rJ A.w0 A.ok0 new,env:=fun _=>none } (.sl n len V) xs:=by
  intro x j n m len p e g f V xs J C S hr E;obtain⟨hd,D,W⟩:=kX h J C;cases hr with
  | ow H a1=>
   obtain⟨A0,n0,c0,rfl,a2,rfl⟩:=a1.now D;obtain⟨vs,O,Y⟩:=W;have N:=Reads.Ac O;have X:n0=p:=by obtain⟨_,A1,c1,e1,_⟩:=N;cases e1;rfl
   subst X;refine .sl (vs:=(vs.drop (m*n)).take (len*n)) (oZ S N) (fun b t a3=>?_) (fun i r=>?_);cases A0 with
   |none=>simp[aAC] at t|some ad=>simp only[aEH,aAC,Option.some.injEq,sU] at t;have:=h.live x j _ b D (by simp[hblk,t]);refine⟨.inr (this.2.resolve_right (fun T=>hS x g j e n n0 f _ b J D (by simp[hblk,t]) T.1)),this.1⟩
   rw[lG vs r];exact (E i r _ (Y _ a_)).le ⟨dE _,fun b _ t=>⟨t,rfl⟩,fun _ _ _ h=>by cases h⟩
 cases hx with
 |cold F=>have:=(d (RL.cons hr RL.nil) (by simp[F])).single;simpa using this|nil=>cases hr;exact .sl (Reads.nil w _) (fun g C=>by simp[aAC] at C) (fun i r=>a_)|@row x j n m len p e g f V J C S Z F=>refine q J C S hr (fun i r u B=>?_);rw[Z i r] at B;exact d B (F i r)|@rows x j n m len p e g f V J C S Z=>refine q J C S hr (fun i r u B=>?_);rcases Z i r with⟨H,K⟩|⟨x1,v1,n1,o1,l1,t1,e1,g1,f1,a4,H,K,h3,T,h5,h6⟩;rw[H] at B;exact d B K;rw[H] at B;rw[K];have hz:u=u++[]:=(AC u).symm;rw[hz];refine .cons (q h3 T h5 B.single (fun k hk zs L=>?_)) .nil;rw[(h6 k hk).1] at L;exact d L (h6 k hk).2
theorem aUg{a:Act}{w:ae}{env:Env}(h:ig A s a w env)(hS:Dj A s env){new:Bool}:∀ {l f:g_} {e:jl},IK s new l f->RL (aP A w env) l e->RL { w,ok:=rJ A.w0 A.ok0 new,env:=fun _=>none } f e
 |[],_,_,b,d=>by cases b;cases d;exact .nil| c::l,_,_,b,d=>by
  cases b with
  |cons k j=>cases d with
   |cons i g=>exact .cons (Ou h hS k i) (aUg h hS j g)
theorem Oq{a:Act}{w:ae}{env:Env}(h:ig A s a w env)(hS:Dj A s env){new:Bool}{x d:PW}{v:ag}(e:ExW s new x d)(hr:RW (aP A w env) x v):RW { w,ok:=rJ A.w0 A.ok0 new,env:=fun _=>none } d v:=by
 cases e with
 |one c=>cases hr with|one b=>exact .one (Ou h hS c b)
 |agg c=>cases hr with|agg b=>exact .agg (aUg h hS c b)
theorem Qy.at{s:St}{new:Bool}:∀ {l b:List PW} {i:Nat} {a:PW},Qy s new l b->b[i]?=some a->∃ x,l[i]?=some x/\ExW s new x a
 |[],_,i,a,h,c=>by cases h;simp at c| y::l,_,i,a,h,c=>by
  cases h with
  | @cons _ d _ b j g=>
   cases i with
   |zero=>
    obtain rfl:d=a:=by simpa using c
    exact⟨y,rfl,j⟩
   |succ i=>obtain⟨x,f,e⟩:=Qy.at g (by simpa using c:b[i]?=some a);exact⟨x,by simpa using f,e⟩
theorem Qy.length{s:St}{new:Bool}:∀ {l a:List PW},Qy s new l a->l.length=a.length
 |[],_,h=>by cases h;rfl|_::_,_,h=>by cases h with|cons _ b=>rw[We,We,b.length]
theorem aUf{a:Act}{w:ae}{env:Env}(h:ig A s a w env)(hS:Dj A s env){new:Bool}{x c:PV}{v:ag}(e:ExV s new x c)(hr:RV (aP A w env) x v):RV { w,ok:=rJ A.w0 A.ok0 new,env:=fun _=>none } c v:=by
 cases e with
 |w b=>cases hr with|w d=>exact .w (Oq h hS b d)
 | o7 b=>
  cases hr with
  |o7 f d=>refine .o7 (by rw[<-b.length];exact f) (fun i c g=>?_);obtain⟨x,m,l⟩:=b.at g;obtain⟨v,k,j⟩:=d i x m;exact⟨v,k,Oq h hS l j⟩
def VI(P:ed)(fn:Lt)(new:Bool)(a:PV)(s:St):Prop:=∃ v,(AQ P fn.results).ok none s (fun _ b wr=>b=v/\wr=[])/\ExV s new v a
theorem bAu{fn:Lt}{new:Bool}{a:PV}{out:Out}(h:(AQ P fn.results).run none s=some out)(hc:All out.conds)(c:out.wr=[])(b:ExV s new out.val a):VI P fn new a s:=⟨out.val,M.zy _ none s out _ h (fun p d=>hc.mem p d) ⟨rfl,c⟩,b⟩
def Zn(p:PC->Bool):PW->Bool
 |.one c=>p c|.agg l=>l.all p
def vP(p:PC->Bool):PV->Bool
 |.w x=>Zn p x|.o7 l=>l.all (Zn p)|.none=>false
theorem eQ{s:St}{new:Bool}:∀ {l:g_},l.all (bT new)=true->IK s new l l
 |[],_=>.nil|c::l,h=>by rw[aBV,zg] at h;exact .cons (.cold h.1) (eQ h.2)
theorem bCh{s:St}{new:Bool}{x:PW}(h:Zn (bT new) x=true):ExW s new x x:=by
 cases x with
 |one c=>exact .one (.cold h)|agg l=>exact .agg (eQ h)
theorem bCi{s:St}{new:Bool}:∀ {l:List PW},l.all (Zn (bT new))=true->Qy s new l l
 |[],_=>.nil|c::l,h=>by rw[aBV,zg] at h;exact .cons (bCh h.1) (bCi h.2)
theorem Ot{s:St}{new:Bool}{v:PV}(h:vP (bT new) v=true):ExV s new v v:=by
 cases v with
 |w x=>exact .w (bCh h)|o7 l=>exact .o7 (bCi h)|none=>cases h
theorem aZ{fn:Lt}{new:Bool}{a:PV}{out:Out}(h:(AQ P fn.results).exec none s [] [] [] []=some out)(hc:All out.conds)(c:out.wr=[])(b:vP (bT new) out.val=true)(d:out.val=a):VI P fn new a s:=by rw[zL] at h;subst d;exact bAu h hc c (Ot b)
theorem qL{fn:Lt}{new:Bool}{a:PV}{out:Out}(h:(AQ P fn.results).exec none s [] [] [] []=some out)(hc:All out.conds)(c:out.wr=[])(b:ExV s new out.val a):VI P fn new a s:=by rw[zL] at h;exact bAu h hc c b
def RQ(P:ed)(A:o_)(fn:Lt)(new:Bool)(b:PV):uk->Act->ae->Prop
 |.panic chain,a,w=>a.defers=A.ds/\E5 A chain w|e,a,w=>(e=.normal\/e=.ret)/\∃ s,VI P fn new b s/\qj A s a w
theorem T_(P:ed)(A:o_)(fn:Lt)(new:Bool)(a:PV):Di A (RQ P A fn new a):=fun _ _ _ b h=>⟨b,h⟩
theorem qw.non(P:ed){gm:je->Prop}:qw P Dv.non gm:=⟨fun _ _ _ h=>h.elim,fun _ _ _ _ _ h=>h.elim⟩
theorem l_.plain{P:ed}{I:jg}{w:ae}{ok0:uy}{b:Nat}(h:∀ a,Ext w a->I a):l_ P I (o_.plain w ok0 b):=⟨h,fun _ h=>h,fun _ h=>h.elim,qw.non P,fun _ _ _ h=>h.elim,fun _ _ _ _ _ _ h=>h.elim⟩
theorem aIt{fn:Lt}{args:ji}{vs:jl}{w:ae}{ok0:uy}(d:aBT args.length fn.ntmps=true)(f:pq { w:=w,ok:=ok0,env:=fun _=>none } args vs):qj (o_.plain w ok0 fn.ntmps) ⟨slots 0 args,[]⟩ { tmps:=vs.toArray++DD (fn.ntmps-vs.toArray.size) dC,defers:=[] } w:=by have i:=f.length;have C:=aBO d;refine⟨fun _=>none,{ iw:=gq.refl _ _,size:=?_,dom:=fun x _=>rfl,lu:=fun x g a o h=>(by cases h),live:=fun x a p b h=>(by cases h),inj:=fun x y B e u c b h=>(by cases h),tmps:=fun t g pv h n=>?_,defers:=rfl,und:=fun t pv h=>(by obtain⟨k,_,c⟩:=rU h;cases c),pg:=fun x p h=>(by cases h),dev:=fun g a O gm l h=>(by cases h) }⟩;simp[o_.plain];omega;obtain⟨k,e,c⟩:=uQ h;obtain⟨v,j,r⟩:=f.at c;rw[mf] at e;subst e;have m:t<vs.length:=(List.getElem?_eq_some_iff.1 j).1;refine⟨v,?_,?_⟩;rw[aES (by simpa using m)];simpa using j;refine r.le ⟨dE _,fun b _ q=>⟨⟨.inl q,fun _ _ _ h=>by cases h⟩,rfl⟩,fun _ _ _ h=>by cases h⟩
theorem bH{f:Nat}{fn:Lt}{c:Hm}{new:Bool}{args:ji}{g:PV}(u:P.funcs[f]?=some fn)(hb:fn.body=some c)(j:aBT args.length fn.ntmps=true)(hI:∀ w d,Ext w d->I w->I d)
  (B:∀ A:o_,A.S=Non->A.nt=fn.ntmps->l_ P I A->kw P A ⟨slots 0 args,[]⟩ c (RQ P A fn new g)):fQ P I f new args g:=by
 intro w h N n p;have q:=p.length;have T:=aBO j;refine calls_of_wp u hb (aCD (B (o_.plain w h fn.ntmps) rfl rfl (l_.plain fun d x=>hI w d x n) _ w (aIt j p) (T_ _ _ _ _ _)) (fun e o d r=>?_))
 have m:(e=.normal\/e=.ret)/\∃ s,VI P fn new g s/\qj (o_.plain w h fn.ntmps) s o d:=by
  cases e with
  |panic chain=>obtain⟨_,l,t,_⟩:=r;exact t.elim
  |_=>exact r
 obtain⟨K,s,⟨v,J,H⟩,F⟩:=m;obtain⟨L,k⟩:=F;obtain⟨O,a,E,D,C,_⟩:=vN k J;subst C;have i:=aUf k (.Xx rfl) H D;have:o.defers=[]/\∃ v,(results fn o.tmps).run P d=.ok v d/\∃ a,Ending.returned v=.returned a/\Ext w d/\RV { w:=d,ok:=fun b=>(new=false/\h b)\/w.heap.size<=b,env:=fun _=>none } g a:=⟨k.defers,a,E,a,rfl,k.iw,i⟩
 rcases K with rfl|rfl<;>exact this
variable {Q Q':uk->Act->jg} {y:Hm}
theorem aI{e b:Nat}{ops:Array ik}{a:Bool}{outs:List (Option Nat×Out)}(f:kw P A s' y Q)(M:jq P I G:=by assumption)(hI:l_ P I A:=by assumption)(c:A.nt=e:=by assumption)(h:jL (rM P G b ops.toList) 0 ops.toList s=some (outs,s'):=by rfl)(d:(fP a ops.toList outs&&uD e ops.toList)=true:=by kernel_rfl)(hc:All ((outs.map fun q=>q.2.conds).flatten):=by simp):kw P A s (.seq (.region b ops a) y) Q:=aNe M hI c h d hc f
theorem aH{e b:Nat}{ops:Array ik}{a:Bool}{outs:List (Option Nat×Out)}(hc:All ((outs.map fun q=>q.2.conds).flatten))(f:kw P A s' y Q)(M:jq P I G:=by assumption)(hI:l_ P I A:=by assumption)(c:A.nt=e:=by assumption)(h:jL (rM P G b ops.toList) 0 ops.toList s=some (outs,s'):=by rfl)(d:(fP a ops.toList outs&&uD e ops.toList)=true:=by kernel_rfl):kw P A s (.seq (.region b ops a) y) Q:=aNe M hI c h d hc f
theorem mY{f c:Nat}{ops:Array ik}{b:Bool}{outs:List (Option Nat×Out)}(i:kw P A s' y Q')(M:jq P I G:=by assumption)(hI:l_ P I A:=by assumption)(d:A.nt=f:=by assumption)(h:jL (rM P G c ops.toList) 0 ops.toList s=some (outs,s'):=by rfl)(e:(fP b ops.toList outs&&uD f ops.toList)=true:=by kernel_rfl)(hc:All ((outs.map fun q=>q.2.conds).flatten):=by simp)(j:Q .normal=F8 P A y Q':=by rfl):kw P A s (.region c ops b) Q:=aS M hI d h e hc (fun a w g=>by rw[j];exact i a w g)
theorem fJ{e b:Nat}{ops:Array ik}{a:Bool}{outs:List (Option Nat×Out)}(f:Wv A s' (Q .normal))(M:jq P I G:=by assumption)(hI:l_ P I A:=by assumption)(c:A.nt=e:=by assumption)(h:jL (rM P G b ops.toList) 0 ops.toList s=some (outs,s'):=by rfl)(d:(fP a ops.toList outs&&uD e ops.toList)=true:=by kernel_rfl)(hc:All ((outs.map fun q=>q.2.conds).flatten):=by simp):kw P A s (.region b ops a) Q:=aS M hI c h d hc f
theorem cO{c:uA}{x y:Hm}{b:Bool}(h1:b=true->kw P A s x Q)(h2:b=false->kw P A s y Q)(hc:aMk s c=some b:=by rfl):kw P A s (.cond c x y) Q:=aBn hc h1 h2
theorem fZ(c:kw P A s y Q')(d:Q .normal=F8 P A y Q':=by rfl):kw P A s .skip Q:=fH (fun a w b=>by rw[d];exact c a w b)
theorem jB{fn:Lt}{new:Bool}{b:PV}{out:Out}(f:out.val=b)(g:Q .ret=RQ P A fn new b .ret:=by rfl)(h:(AQ P fn.results).exec none s [] [] [] []=some out:=by rfl)(hc:All out.conds:=by simp)(d:out.wr=[]:=by rfl)(c:vP (bT new) out.val=true:=by rfl):kw P A s .ret Q:=bZ (fun a w e=>by rw[g];exact⟨.inr rfl,_,aZ h hc d c f,e⟩)
theorem kE{fn:Lt}{new:Bool}{a:PV}{out:Out}(e:Q .ret=RQ P A fn new a .ret:=by rfl)(h:(AQ P fn.results).exec none s [] [] [] []=some out:=by rfl)(hc:All out.conds:=by simp)(c:out.wr=[]:=by rfl)(b:vP (bT new) out.val=true:=by rfl)(d:out.val=a:=by rfl):kw P A s .ret Q:=jB d e h hc c b
variable {y z:Hm}
theorem eH{g d:Nat}{ops:Array ik}{a:Bool}{outs:List (Option Nat×Out)}{c:uA}{x:Hm}{b:Bool}(h1:b=true->kw P A s' x Q)(h2:b=false->kw P A s' z Q)(M:jq P I G:=by assumption)(hI:l_ P I A:=by assumption)(e:A.nt=g:=by assumption)(h:jL (rM P G d ops.toList) 0 ops.toList s=some (outs,s'):=by rfl)(f:(fP a ops.toList outs&&uD g ops.toList)=true:=by kernel_rfl)(hc:All ((outs.map fun q=>q.2.conds).flatten):=by simp)(i:aMk s' c=some b:=by rfl):kw P A s (.seq (.region d ops a) (.cond c x z)) Q:=aI (cO h1 h2 i) M hI e h f hc
theorem aJ{g d:Nat}{ops:Array ik}{a:Bool}{outs:List (Option Nat×Out)}{c:uA}{x:Hm}{b:Bool}(h1:b=true->kw P A s' x (Exit.then (F8 P A y Q) Q))(h2:b=false->kw P A s' z (Exit.then (F8 P A y Q) Q))(M:jq P I G:=by assumption)(hI:l_ P I A:=by assumption)(e:A.nt=g:=by assumption)(h:jL (rM P G d ops.toList) 0 ops.toList s=some (outs,s'):=by rfl)(f:(fP a ops.toList outs&&uD g ops.toList)=true:=by kernel_rfl)(hc:All ((outs.map fun q=>q.2.conds).flatten):=by simp)(i:aMk s' c=some b:=by rfl):kw P A s (.seq (.seq (.region d ops a) (.cond c x z)) y) Q:=mP (eH h1 h2 M hI e h f hc i)
theorem jG{e b:Nat}{ops:Array ik}{a:Bool}{outs:List (Option Nat×Out)}(h1:kw P A s' z (Exit.then (F8 P A y Q) Q))(M:jq P I G:=by assumption)(hI:l_ P I A:=by assumption)(c:A.nt=e:=by assumption)(h:jL (rM P G b ops.toList) 0 ops.toList s=some (outs,s'):=by rfl)(d:(fP a ops.toList outs&&uD e ops.toList)=true:=by kernel_rfl)(hc:All ((outs.map fun q=>q.2.conds).flatten):=by simp):kw P A s (.seq (.seq (.region b ops a) z) y) Q:=mP (aI h1 M hI c h d hc)
theorem qK{e b:Nat}{ops:Array ik}{a:Bool}{outs:List (Option Nat×Out)}(h1:kw P A s' z (Exit.then (F8 P A y Q) Q))(M:jq P I G:=by assumption)(hI:l_ P I A:=by assumption)(c:A.nt=e:=by assumption)(h:jL (rM P G b ops.toList) 0 ops.toList s=some (outs,s'):=by rfl)(d:(fP a ops.toList outs&&uD e ops.toList)=true:=by kernel_rfl)(hc:All ((outs.map fun q=>q.2.conds).flatten):=by simp):kw P A s (.seq (.region b ops a) (.seq z y)) Q:=aI (mP h1) M hI c h d hc
theorem jU{g d:Nat}{ops:Array ik}{a:Bool}{outs:List (Option Nat×Out)}{c:uA}{x:Hm}{b:Bool}(h1:b=true->kw P A s' x (Exit.then (F8 P A y Q') Q'))(h2:b=false->kw P A s' z (Exit.then (F8 P A y Q') Q'))(j:Q .normal=F8 P A (.seq (.seq (.region d ops a) (.cond c x z)) y) Q':=by rfl)(M:jq P I G:=by assumption)(hI:l_ P I A:=by assumption)(e:A.nt=g:=by assumption)(h:jL (rM P G d ops.toList) 0 ops.toList s=some (outs,s'):=by rfl)(f:(fP a ops.toList outs&&uD g ops.toList)=true:=by kernel_rfl)(hc:All ((outs.map fun q=>q.2.conds).flatten):=by simp)(i:aMk s' c=some b:=by rfl):kw P A s .skip Q:=fZ (aJ h1 h2 M hI e h f hc i) j
theorem dS{e b:Nat}{ops:Array ik}{a:Bool}{outs:List (Option Nat×Out)}(h1:kw P A s' y Q')(f:Q .normal=F8 P A (.seq (.region b ops a) y) Q':=by rfl)(M:jq P I G:=by assumption)(hI:l_ P I A:=by assumption)(c:A.nt=e:=by assumption)(h:jL (rM P G b ops.toList) 0 ops.toList s=some (outs,s'):=by rfl)(d:(fP a ops.toList outs&&uD e ops.toList)=true:=by kernel_rfl)(hc:All ((outs.map fun q=>q.2.conds).flatten):=by simp):kw P A s .skip Q:=fZ (aI h1 M hI c h d hc) f
theorem jK{e b:Nat}{ops:Array ik}{a:Bool}{outs:List (Option Nat×Out)}(hc:All ((outs.map fun q=>q.2.conds).flatten))(h1:kw P A s' y Q')(f:Q .normal=F8 P A (.seq (.region b ops a) y) Q':=by rfl)(M:jq P I G:=by assumption)(hI:l_ P I A:=by assumption)(c:A.nt=e:=by assumption)(h:jL (rM P G b ops.toList) 0 ops.toList s=some (outs,s'):=by rfl)(d:(fP a ops.toList outs&&uD e ops.toList)=true:=by kernel_rfl):kw P A s .skip Q:=fZ (aH hc h1 M hI c h d) f
theorem gQ(h1:kw P A s z (Exit.then (F8 P A y Q') Q'))(a:Q .normal=F8 P A (.seq z y) Q':=by rfl):kw P A s .skip Q:=fZ (mP h1) a
theorem iC{i f d:Nat}{ops a:Array ik}{e c:Bool}{outs b:List (Option Nat×Out)}{s2:St}(h1:kw P A s2 y Q)(M:jq P I G:=by assumption)(hI:l_ P I A:=by assumption)(g:A.nt=i:=by assumption)(h:jL (rM P G f ops.toList) 0 ops.toList s=some (outs,s'):=by rfl)(j:(fP e ops.toList outs&&uD i ops.toList)=true:=by kernel_rfl)(hc:All ((outs.map fun q=>q.2.conds).flatten):=by simp)(l:jL (rM P G d a.toList) 0 a.toList s'=some (b,s2):=by rfl)(hd:(fP c a.toList b&&uD i a.toList)=true:=by kernel_rfl)(k:All ((b.map fun q=>q.2.conds).flatten):=by simp):kw P A s (.seq (.region f ops e) (.seq (.region d a c) y)) Q:=aI (aI h1 M hI g l hd k) M hI g h j hc
theorem bU{i f d:Nat}{ops a:Array ik}{e c:Bool}{outs b:List (Option Nat×Out)}{s2:St}(k:All ((b.map fun q=>q.2.conds).flatten))(h1:kw P A s2 y Q)(M:jq P I G:=by assumption)(hI:l_ P I A:=by assumption)(g:A.nt=i:=by assumption)(h:jL (rM P G f ops.toList) 0 ops.toList s=some (outs,s'):=by rfl)(j:(fP e ops.toList outs&&uD i ops.toList)=true:=by kernel_rfl)(hc:All ((outs.map fun q=>q.2.conds).flatten):=by simp)(l:jL (rM P G d a.toList) 0 a.toList s'=some (b,s2):=by rfl)(hd:(fP c a.toList b&&uD i a.toList)=true:=by kernel_rfl):kw P A s (.seq (.region f ops e) (.seq (.region d a c) y)) Q:=aI (aH k h1 M hI g l hd) M hI g h j hc
theorem qG{e b:Nat}{ops:Array ik}{a:Bool}{outs:List (Option Nat×Out)}(hc:All ((outs.map fun q=>q.2.conds).flatten))(h1:kw P A s' z (Exit.then (F8 P A y Q) Q))(M:jq P I G:=by assumption)(hI:l_ P I A:=by assumption)(c:A.nt=e:=by assumption)(h:jL (rM P G b ops.toList) 0 ops.toList s=some (outs,s'):=by rfl)(d:(fP a ops.toList outs&&uD e ops.toList)=true:=by kernel_rfl):kw P A s (.seq (.seq (.region b ops a) z) y) Q:=mP (aH hc h1 M hI c h d)
theorem aQz{a:Nat}(h:kw P A s z (Exit.inBlock a (Exit.then (F8 P A y Q) Q))):kw P A s (.seq (.block a z) y) Q:=mP (aN h)
theorem gB{f b:Nat}{ops:Array ik}{a:Bool}{outs:List (Option Nat×Out)}{fn:Lt}{new:Bool}{c:PV}{out:Out}(j:out.val=c)(M:jq P I G:=by assumption)(hI:l_ P I A:=by assumption)(d:A.nt=f:=by assumption)(h:jL (rM P G b ops.toList) 0 ops.toList s=some (outs,s'):=by rfl)(e:(fP a ops.toList outs&&uD f ops.toList)=true:=by kernel_rfl)(hc:All ((outs.map fun q=>q.2.conds).flatten):=by simp)(k:Q .ret=RQ P A fn new c .ret:=by rfl)(hr:(AQ P fn.results).exec none s' [] [] [] []=some out:=by rfl)(hd:All out.conds:=by simp)(i:out.wr=[]:=by rfl)(g:vP (bT new) out.val=true:=by rfl):kw P A s (.seq (.region b ops a) .ret) Q:=aI (jB j k hr hd i g) M hI d h e hc
end
def zU(kO:List Nat)(s:St)(x l9:Nat):Bool:=match kO.any (bz x),find s.o x with
 |true,some (_,vr,_)=>bz l9 vr|_,_=>false
def GI(kF:List Nat)(s:St)(x l9 n:Nat):Option (Nat->g_):=match kF.any (bz x),find s.o x with
 |true,some (none,vr,.arr _ m _ f)=>(match bz l9 vr,bz n m with
  |true,true=>some f|_,_=>none)
 |_,_=>none
mutual
def rv(kF kO:List Nat)(s:St):PC->Option PC
 |.lit v=>some (.lit v)|.bs n l=>some (.bs n l)|.sl n len f=>some (.sl n len f)|.ow x c n d len=>match zU kO s x c with|true=>some (.ow x 0 n d len)|false=>(match GI kF s x c n with|some f=>some (.sl n len (fun i=>f (d+i)))|none=>none)
 |.ob x c d len=>match zU kO s x c with|true=>some (.ob x 0 d len)|false=>none
 |.pt x c d=>match zU kO s x c with|true=>some (.pt x 0 d)|false=>none
 |.pk x c d k=>match zU kO s x c with|true=>some (.pk x 0 d k)|false=>none
 |.pe x c n i j=>match zU kO s x c with|true=>some (.pe x 0 n i j)|false=>none
 |.pf n len f i j=>some (.pf n len f i j)|.fn f first cap=>match G5 kF kO s first,G5 kF kO s cap with
  |some a,some b=>some (.fn f a b)|_,_=>none
 |.dv=>match zU kO s dx 0 with|true=>some .dv|false=>none
 |.any=>some .any|.pa len f=>some (.pa len f)
def G5(kF kO:List Nat)(s:St):g_->Option g_
 |[]=>some []|c::l=>match rv kF kO s c,G5 kF kO s l with
  |some b,some l'=>some (b::l')|_,_=>none
end
def Rt(kF kO:List Nat)(s:St):PW->Option PW
 |.one c=>match rv kF kO s c with|some c=>some (.one c)|none=>none
 |.agg l=>match G5 kF kO s l with|some l=>some (.agg l)|none=>none
def DU(kF kO:List Nat)(s:St):List PW->Option (List PW)
 |[]=>some []|x::l=>match Rt kF kO s x,DU kF kO s l with
  |some x,some l=>some (x::l)|_,_=>none
def XE(kF kO:List Nat)(s:St):PV->Option PV
 |.w x=>match Rt kF kO s x with|some x=>some (.w x)|none=>none
 |.o7 l=>match DU kF kO s l with|some l=>some (.o7 l)|none=>none
 |.none=>some .none
def Fb(kF kO:List Nat)(s:St):List Nat->Option (List (Nat×og×PV))
 |[]=>some []|t::l=>match find s.t t,Fb kF kO s l with
  |some (g,v),some r=>(match XE kF kO s v with|some b=>some ((t,g,b)::r)|none=>none)
  |_,_=>none
def Rw(kF kO:List Nat)(s:St):oh->Option (List Prop×oh)
 |.box t l=>match G5 kF kO s l with|some l=>some ([],.box t l)|none=>none
 |.arr e n len f=>some ([∀ i,i<len->(f i).all (bT false)=true],.arr e n len f)|.dead=>some ([],.dead)|.dev O gm l=>some ([],.dev O gm l)
def bFx(kF kO:List Nat)(s:St):List Nat->Option (List Prop×Wr)
 |[]=>some ([],[])|x::l=>match find s.o x,bFx kF kO s l with
  |some (g,_,ob),some (d,r)=>(match Rw kF kO s ob with|some (c,b)=>some (c++d,(x,g,0,b)::r)|none=>none)
  |_,_=>none
def aIy(kO:List Nat)(s:St):Bool:=s.o.all fun p=>match aBT dx p.1 with
 |true=>kO.any (bz p.1)&&bz p.2.2.1 0|false=>true
def Zj(s:St):List Nat->Option (List Prop)
 |[]=>some []|x::l=>match find s.o x,Zj s l with
  |some (_,_,.arr _ _ len f),some b=>some ((∀ i,i<len->(f i).all (bT false)=true)::b)|_,_=>none
def bAx(kF kT kO:List Nat)(s:St):Option (List Prop×St):=match Fb kF kO s kT,bFx kF kO s kO,aIy kO s,Zj s kF with
 |some t,some (b,o),true,some c=>some (b++c,⟨t,o⟩)|_,_,_,_=>none
def aNu(kT kO:List Nat)(s:St):Option (List Prop×St):=match Fb [] kO s kT,bFx [] kO s kO,aIy kO s with
 |some t,some (b,o),true=>some (b,⟨t,o⟩)|_,_,_=>none
def Bh(A:o_)(kF:List Nat)(s:St):Prop:=∀ x,kF.any (bz x)=true->A.S=Non/\∀ g b e n len f,find s.o x=some (g,b,.arr e n len f)->∀ i,i<len->(f i).all (bT false)=true
theorem Bh.nil{A:o_}{s:St}:Bh A [] s:=fun x h=>by cases h
theorem bBs{A:o_}(hS:A.S=Non){s:St}:∀ {kF:List Nat} {d:List Prop},Zj s kF=some d->All d->Bh A kF s
 |[],_,_,_=>Bh.nil|y::l,d,h,hc=>fun x b=>⟨hS,fun g c e n len f i=>by
  unfold Zj at h;split at h;rename_i j k;cases h;rw[List.any_cons,aEQ] at b;rcases b with b|b
  obtain rfl:x=y:=iy b;rw[i] at j;cases j;exact hc.1;exact ((bBs hS k hc.2) x b).2 g c e n len f i
  cases h⟩
def zi(kO:List Nat)(env:Env):Env:=fun x=>match kO.any (bz x) with
 |true=>(env x).map fun p=>(0,p.2)|false=>none
section
variable {A:o_} {s:St} {a:Act} {w:ae} {env:Env} {kF kO:List Nat}
theorem aHw{b:Nat}(h:(aP A w env).ok b):(aP A w (zi kO env)).ok b:=⟨h.1,fun x d i f=>by
 have c:zi kO env x=some (d,i):=f;unfold zi at c;split at c;cases e:env x with
 |none=>rw[e] at c;cases c|some p=>obtain⟨v,g⟩:=p;rw[e] at c;cases c;exact h.2 x v _ e
 cases c⟩
theorem aUu:(aP A w env).cold.Le (aP A w (zi kO env)):=⟨dE _,fun b _ h=>⟨aHw h,rfl⟩,fun _ _ _ h=>by cases h⟩
theorem zM:(aP A w env).cold.Le (aP A w (zi kO env)).cold:=⟨dE _,fun b _ h=>⟨aHw (w:=w) (env:=env) (kO:=kO) h,rfl⟩,fun _ _ _ h=>by cases h⟩
theorem aEa(h:ig A s a w env){x l9:Nat}{p:ag->Prop}(b:zU kO s x l9=true)(j:At (aP A w env) x l9 p):At (aP A w (zi kO env)) x 0 p:=by unfold zU at b;split at b;rename_i g e f l k;obtain⟨c,d,_⟩:=h.lu x g e f k;have i:=j.now (hd:=c) (by rw[iy b];exact d);refine⟨0,c,?_,dE _,fun _=>i⟩;show zi kO env x=some (0,c);unfold zi;rw[l,d];rfl;cases b
theorem Yt(h:ig A s a w env)(hF:Bh A kF s){x l9 n off len:Nat}{f:Nat->g_}{xs:jl}(l:zU kO s x l9=false)(o:GI kF s x l9 n=some f)(hR:R (aP A w env) (.ow x l9 n off len) xs):R (aP A w (zi kO env)) (.sl n len (fun i=>f (off+i))) xs:=by
 unfold GI at o;split at o;rename_i vr e m D f0 Z j;split at o;rename_i B L;cases o;obtain rfl:=iy B;obtain rfl:=iy L
 have I:kO.any (bz x)=false:=by
  unfold zU at l;rw[j] at l;cases J:kO.any (bz x) with
  |false=>rfl|true=>rw[J] at l;dsimp only at l;rw[B] at l;cases l
 obtain⟨hS,d⟩:=hF x Z;have d:=d _ _ _ _ _ _ j;obtain⟨hd,k,g⟩:=h.lu x none l9 _ j;have g:=g trivial;cases hR with
 | ow h1 O=>
  obtain⟨S,Q,c0,rfl,t,rfl⟩:=O.now k;obtain⟨P,r,K⟩:=g;have q:=Reads.Ac r;have H:Q=D:=by obtain⟨_,A1,c1,e1,_⟩:=q;cases e1;rfl
  subst H;refine .sl (vs:=(P.drop (off*n)).take (len*n)) (oZ t q) (fun b N Y=>?_) (fun i hi=>?_)
  have z:hblk (.slice S Q c0)=some b:=by
   cases S with
   |none=>simp[aAC] at N|some ad=>simp only[aEH,aAC,Option.some.injEq,sU] at N;simp[hblk,N]
  obtain⟨W,V⟩:=h.live x l9 _ b k z;refine⟨⟨.inr (V.resolve_right (fun C=>by have C:=C.1;rw[hS] at C;exact C)),fun y T X he E=>?_⟩,W⟩;have c:zi kO env y=some (T,X):=he;unfold zi at c;split at c;rename_i u;cases G:env y with
  |none=>rw[G] at c;cases c|some p=>obtain⟨U,a0⟩:=p;rw[G] at c;cases c;have F:=h.inj x y l9 _ U _ b k G z E;subst F;rw[I] at u;cases u
  cases c;rw[lG P hi];exact (kV (K _ a_) (d _ a_)).le zM
 cases o;cases o
mutual
theorem Vo(h:ig A s a w env)(C:Bh A kF s):∀ {c r:PC} {q:jl},rv kF kO s c=some r->R (aP A w env) c q->R (aP A w (zi kO env)) r q
 |.lit v,r,q,b,d=>by simp only[rv,Option.some.injEq] at b;subst b;cases d;exact .lit qm|.bs n l,r,q,b,d=>by simp only[rv,Option.some.injEq] at b;subst b;cases d;exact .bs qm|.sl n len f,r,q,b,d=>by
  simp only[rv,Option.some.injEq] at b;subst b;cases d with
  |sl o e u=>exact .sl o (fun g E D=>⟨aHw (e g E D).1,(e g E D).2⟩) (fun i y=>(u i y).le zM)
 | .ow x m n t len,r,q,b,d=>by
  unfold rv at b;cases p:zU kO s x m with
  |true=>rw[p] at b;cases b;cases d with|ow o e=>exact .ow o (aEa h p e)
  | false=>
   rw[p] at b;dsimp only at b;cases B:GI kF s x m n with
   |none=>rw[B] at b;cases b|some f=>rw[B] at b;cases b;exact Yt h C p B d
 |.ob x m t len,r,q,b,d=>by
  unfold rv at b
  cases p:zU kO s x m<;>rw[p] at b<;>cases b
  cases d with|ob o e=>exact .ob o (aEa h p e)
 |.pt x m t,r,q,b,d=>by
  unfold rv at b
  cases p:zU kO s x m<;>rw[p] at b<;>cases b
  cases d with|pt o e=>exact .pt o (aEa h p e)
 |.pk x m t k,r,q,b,d=>by
  unfold rv at b
  cases p:zU kO s x m<;>rw[p] at b<;>cases b
  cases d with|pk o e=>exact .pk o (aEa h p e)
 |.pe x m n i j,r,q,b,d=>by
  unfold rv at b
  cases p:zU kO s x m<;>rw[p] at b<;>cases b
  cases d with|pe o e=>exact .pe o (aEa h p e)
 |.pf n len f i j,r,q,b,d=>by
  simp only[rv,Option.some.injEq] at b;subst b;cases d with
  |pf o e u z=>exact .pf o ⟨aHw e.1,e.2⟩ (fun i y=>(u i y).le zM) z
 |.fn f first cap,r,q,b,d=>by
  unfold rv at b
  cases o:G5 kF kO s first<;>cases e:G5 kF kO s cap<;>simp only[o,e] at b<;>try (cases b;done)
  cases b;cases d with
  |fn u z=>exact .fn (aKx h C o u) (aKx h C e z)
 |.dv,r,q,b,d=>by
  unfold rv at b
  cases p:zU kO s dx 0<;>rw[p] at b<;>cases b
  cases d with|dv o e=>exact .dv o (aEa h p e)
 |.any,r,q,b,d=>by simp only[rv,Option.some.injEq] at b;subst b;cases d;exact .any qm|.pa len f,r,q,b,d=>by
  simp only[rv,Option.some.injEq] at b;subst b;cases d with
  |pa o e u z=>exact .pa o ⟨aHw e.1,e.2⟩ (fun i y=>(u i y).le zM) z
theorem aKx(h:ig A s a w env)(g:Bh A kF s):∀ {l e:g_} {d:jl},G5 kF kO s l=some e->RL (aP A w env) l d->RL (aP A w (zi kO env)) e d
 |[],e,d,b,f=>by simp only[G5,Option.some.injEq] at b;subst b;cases f;exact .nil|c::l,e,d,b,f=>by
  unfold G5 at b
  cases j:rv kF kO s c<;>cases i:G5 kF kO s l<;>simp only[j,i] at b<;>try (cases b;done)
  cases b;cases f with
  |cons m k=>exact .cons (Vo h g j m) (aKx h g i k)
end
theorem Jh(h:ig A s a w env)(f:Bh A kF s){x e:PW}{v:ag}(hr:Rt kF kO s x=some e)(g:RW (aP A w env) x v):RW (aP A w (zi kO env)) e v:=by
 cases g with
 |@one c _ d=>
  unfold Rt at hr
  cases b:rv kF kO s c<;>simp only[b] at hr<;>try (cases hr;done)
  cases hr;exact .one (Vo h f b d)
 |@agg l _ d=>
  unfold Rt at hr
  cases b:G5 kF kO s l<;>simp only[b] at hr<;>try (cases hr;done)
  cases hr;exact .agg (aKx h f b d)
theorem bJr:∀ {l c:List PW} {i:Nat} {b:PW},DU kF kO s l=some c->c[i]?=some b->∃ x,l[i]?=some x/\Rt kF kO s x=some b
 |[],c,i,b,h,d=>by simp only[DU,Option.some.injEq] at h;subst h;simp at d| y::l,c,i,b,h,d=>by
  unfold DU at h
  cases f:Rt kF kO s y<;>cases e:DU kF kO s l<;>simp only[f,e] at h<;>try (cases h;done)
  rename_i g j;cases h;cases i with
  |zero=>
   obtain rfl:g=b:=by simpa using d
   exact⟨y,rfl,f⟩
  |succ i=>obtain⟨x,m,k⟩:=bJr e (by simpa using d:j[i]?=some b);exact⟨x,by simpa using m,k⟩
theorem bAn:∀ {l b:List PW},DU kF kO s l=some b->l.length=b.length
 |[],b,h=>by simp only[DU,Option.some.injEq] at h;subst h;rfl|y::l,b,h=>by
  unfold DU at h
  cases d:Rt kF kO s y<;>cases c:DU kF kO s l<;>simp only[d,c] at h<;>try (cases h;done)
  cases h;rw[We,We,bAn c]
theorem XD(h:ig A s a w env)(e:Bh A kF s){x c:PV}{v:ag}(hr:XE kF kO s x=some c)(j:RV (aP A w env) x v):RV (aP A w (zi kO env)) c v:=by
 cases j with
 |@w x _ d=>
  unfold XE at hr
  cases b:Rt kF kO s x<;>simp only[b] at hr<;>try (cases hr;done)
  cases hr;exact .w (Jh h e b d)
 |@o7 l _ f d=>
  unfold XE at hr
  cases b:DU kF kO s l<;>simp only[b] at hr<;>try (cases hr;done)
  cases hr;refine .o7 (by rw[<-bAn b];exact f) (fun i c g=>?_);obtain⟨x,o,n⟩:=bJr b g;obtain⟨v,m,k⟩:=d i x o;exact⟨v,m,Jh h e n k⟩
 |none=>simp only[XE,Option.some.injEq] at hr;subst hr;exact .none
theorem aOv:∀ {c:List Nat} {l:List (Nat×og×PV)} {t:Nat} {g:og} {pv:PV},Fb kF kO s c=some l->find l t=some (g,pv)->∃ v,find s.t t=some (g,v)/\XE kF kO s v=some pv
 |[],l,t,g,pv,h,b=>by simp only[Fb,Option.some.injEq] at h;subst h;cases b|t0::c,l,t,g,pv,h,b=>by
  unfold Fb at h
  cases j:find s.t t0<;>cases i:Fb kF kO s c<;>simp only[j,i] at h<;>try (cases h;done)
  rename_i p r;obtain⟨k,d⟩:=p;dsimp only at h
  cases f:XE kF kO s d<;>simp only[f] at h<;>try (cases h;done)
  cases h;by_cases e:t0=t;subst e;rw[aG] at b;cases b;exact⟨d,j,f⟩;rw[aF _ _ e] at b;exact aOv i b
theorem bJs(h:ig A s a w env)(q:Bh A kF s){ob b:oh}{c:List Prop}{hd:ag}(hr:Rw kF kO s ob=some (c,b))(hc:All c)(o:pJ (aP A w env) hd ob):pJ (aP A w (zi kO env)) hd b:=by
 cases ob with
 |dead=>simp only[Rw,Option.some.injEq,Prod.mk.injEq] at hr;obtain⟨_,rfl⟩:=hr;trivial
 |dev O gm l=>simp only[Rw,Option.some.injEq,Prod.mk.injEq] at hr;obtain⟨_,rfl⟩:=hr;trivial
 |box t l=>
  unfold Rw at hr
  cases k:G5 kF kO s l<;>simp only[k] at hr<;>try (cases hr;done)
  cases hr;obtain⟨g,r,rfl,j,d⟩:=o;exact⟨g,r,rfl,j,aKx h q k d⟩
 |arr e n len f=>simp only[Rw,Option.some.injEq,Prod.mk.injEq] at hr;obtain⟨rfl,rfl⟩:=hr;obtain⟨p,j,d⟩:=o;exact⟨p,j,fun i m=>(kV (d i m) (hc.1 i m)).le aUu⟩
theorem sS{b:Type}:∀ {l:List (Nat×b)} {x:Nat} {p:b},find l x=some p->(x,p)∈l
 |(k,y)::l,x,p,h=>by by_cases c:k=x;subst c;rw[aG] at h;cases h;exact aAw;rw[aF _ _ c] at h;exact aAD _ (sS h)
theorem bSc:∀ {a b:List Prop},All (a++b)->All a/\All b:=by
 intro a
 induction a with
 |nil=>intro b h;exact⟨trivial,h⟩|cons p a c=>intro b h;exact⟨⟨h.1,(c h.2).1⟩,(c h.2).2⟩
variable {R:List (Nat×(Nat->g_))}
def FC(R:List (Nat×(Nat->g_)))(kF kO:List Nat)(s:St)(x:Nat):oh->Option (List Prop×oh)
 |.arr e n len f=>(match find R x with
  |some b=>some ([∀ i,i<len->G5 kF kO s (f i)=some (b i)],.arr e n len b)|none=>some ([∀ i,i<len->(f i).all (bT false)=true],.arr e n len f))
 |ob=>Rw kF kO s ob
def wU(R:List (Nat×(Nat->g_)))(kF kO:List Nat)(s:St):List Nat->Option (List Prop×Wr)
 |[]=>some ([],[])|x::l=>match find s.o x,wU R kF kO s l with
  |some (g,_,ob),some (d,r)=>(match FC R kF kO s x ob with|some (c,b)=>some (c++d,(x,g,0,b)::r)|none=>none)
  |_,_=>none
def aNt(R:List (Nat×(Nat->g_)))(kF kT kO:List Nat)(s:St):Option (List Prop×St):=match Fb kF kO s kT,wU R kF kO s kO,aIy kO s,Zj s kF with
 |some t,some (b,o),true,some c=>some (b++c,⟨t,o⟩)|_,_,_,_=>none
theorem aCp:∀ {l:List Nat} {t:List Prop} {r:Wr} {x:Nat},wU R kF kO s l=some (t,r)->(find r x=none->¬(l.any (bz x)=true))/\∀ g d k,find r x=some (g,d,k)->d=0/\l.any (bz x)=true/\∃ y i c,find s.o x=some (g,y,i)/\FC R kF kO s x i=some (c,k)/\(All t->All c)
 |[],t,r,x,h=>by simp only[wU,Option.some.injEq,Prod.mk.injEq] at h;obtain⟨rfl,rfl⟩:=h;exact⟨fun _=>d_,fun g d k f=>by cases f⟩
 | x0::l,t,r,x,h=>by
  unfold wU at h
  cases E:find s.o x0<;>cases D:wU R kF kO s l<;>simp only[E,D] at h<;>try (cases h;done)
  rename_i p q;obtain⟨P,u,i⟩:=p;obtain⟨L,O⟩:=q;dsimp only at h
  cases C:FC R kF kO s x0 i<;>simp only[C] at h<;>try (cases h;done)
  rename_i z;obtain⟨c,F⟩:=z;cases h
  have j:∀ {a b:List Prop},All (a++b)->All a/\All b:=by
   intro a
   induction a with
   |nil=>intro b h;exact⟨trivial,h⟩|cons p a m=>intro b h;exact⟨⟨h.1,(m h.2).1⟩,(m h.2).2⟩
  by_cases n:x0=x;subst n;refine⟨fun f=>(by rw[aG] at f;cases f),fun g d k f=>?_⟩;rw[aG] at f;cases f;exact⟨rfl,d_,u,i,c,E,C,fun h=>(j h).1⟩;have m:=aCp (x:=x) D;refine⟨fun f=>?_,fun g d k f=>?_⟩;rw[aF _ _ n] at f;have:=m.1 f;rw[List.any_cons];simp only[aEQ,not_or];exact⟨fun e=>n (iy e).symm,this⟩;rw[aF _ _ n] at f;obtain⟨K,J,y,B,N,I,H,G⟩:=m.2 g d k f;exact⟨K,by rw[List.any_cons,J,Bool.or_true],y,B,N,I,H,fun h=>G (j h).2⟩
theorem Ru(h:ig A s a w env)(j:Bh A kF s){x:Nat}{ob b:oh}{c:List Prop}{hd:ag}(hr:FC R kF kO s x ob=some (c,b))(hc:All c)(g:pJ (aP A w env) hd ob):pJ (aP A w (zi kO env)) hd b:=by
 cases ob with
 |dead=>exact bJs (ob:=.dead) h j hr hc g|dev O gm l=>exact bJs (ob:=.dev O gm l) h j hr hc g|box t l=>exact bJs (ob:=.box t l) h j hr hc g| arr e n len f=>
  unfold FC at hr;cases p:find R x with
  |none=>simp only[p,Option.some.injEq,Prod.mk.injEq] at hr;obtain⟨rfl,rfl⟩:=hr;obtain⟨k,o,m⟩:=g;exact⟨k,o,fun i d=>(kV (m i d) (hc.1 i d)).le aUu⟩
  |some q=>simp only[p,Option.some.injEq,Prod.mk.injEq] at hr;obtain⟨rfl,rfl⟩:=hr;obtain⟨k,o,m⟩:=g;exact⟨k,o,fun i d=>aKx h j (hc.1 i d) (m i d)⟩
theorem qj.KI{kT:List Nat}{J:List Prop}{t:List (Nat×og×PV)}{o:Wr}(h:qj A s a w)(h1:Fb kF kO s kT=some t)(h2:wU R kF kO s kO=some (J,o))(hc:All J)(Z:Bh A kF s)(hX:∀ x E,A.ext x=some E->∃ g G,find s.o x=some (g,0,G)/\kO.any (bz x)=true):qj A ⟨t,o⟩ a w:=by
 obtain⟨env,h⟩:=h;refine⟨zi kO env,{ iw:=h.iw,size:=h.size,dom:=fun x k=>?_,lu:=fun x g m G r=>?_,live:=fun x m E b D u=>?_,inj:=fun x y v1 h1 v2 h2 b e d U T=>?_,tmps:=fun Q g pv r H=>?_,defers:=h.defers,und:=fun Q pv r=>(by obtain⟨v,z,_⟩:=aOv h1 r;exact h.und Q v z),pg:=fun x E k=>?_,dev:=fun g m O gm l r H=>?_ }⟩;have:=(aCp (x:=x) h2).1 k;unfold zi;cases u:kO.any (bz x) with
 |true=>exact absurd u this|false=>rfl
 obtain⟨rfl,K,F,n,c,z,j,L⟩:=(aCp (x:=x) h2).2 g m G r;obtain⟨E,B,V⟩:=h.lu x g F n z;refine⟨E,?_,fun H=>Ru h Z j (L hc) (V H)⟩;unfold zi;rw[K,B];rfl;unfold zi at D;split at D;cases k:env x with
 |none=>rw[k] at D;cases D|some p=>obtain⟨v,i⟩:=p;rw[k] at D;cases D;exact h.live x v _ b k u
 cases D;unfold zi at e d;split at e;split at d;cases k:env x with
 |none=>rw[k] at e;cases e|some p=>
  cases C:env y with
  |none=>rw[C] at d;cases d|some q=>obtain⟨v,i⟩:=p;obtain⟨P,Y⟩:=q;rw[k] at e;rw[C] at d;cases e;cases d;exact h.inj x y v _ P _ b k C U T
 cases d;cases e;obtain⟨v,z,j⟩:=aOv h1 r;obtain⟨N,L,B⟩:=h.tmps Q g v z H;exact⟨N,L,XD h Z j B⟩;obtain⟨u,ha⟩:=h.pg x E k;refine⟨u,?_⟩;obtain⟨F,i,z,_,j⟩:=ha;have I:env x=some (F,i):=z;obtain⟨g,G,r,K⟩:=hX x E k;obtain⟨S,B,_⟩:=h.lu x g 0 G r;rw[I] at B;cases B;refine⟨0,i,?_,dE _,fun _=>j rfl⟩;show zi kO env x=some (0,i);unfold zi;rw[K,I];rfl
 ·obtain⟨rfl,K,F,n,c,z,j,L⟩:=(aCp (x:=dx) h2).2 g m _ r
  have B:n=.dev O gm l:=by
   cases n<;>simp only[FC,Rw] at j
   ·split at j<;>cases j
   ·split at j<;>cases j
   cases j;cases j;rfl
  subst B;obtain⟨V,h9,X⟩:=h.dev g F O gm l z H;refine⟨V,h9,A.dv.grow _ _ _ _ _ X (gq.refl _ _) (fun b u=>.inl ?_)⟩;rcases u with u|⟨y,v2,S,f,W⟩;exact .inl u;unfold zi at f
  split at f;cases C:env y with
  |none=>rw[C] at f;cases f|some p=>obtain⟨v,i⟩:=p;rw[C] at f;cases f;exact .inr ⟨y,v,_,C,W⟩
  cases f
theorem qj.x_{kT:List Nat}{cs:List Prop}{s':St}(h:qj A s a w)(f:kF=[]\/A.S=Non)(hr:aNt R kF kT kO s=some (cs,s'))(b:All cs):qj A s' a w:=by
 unfold aNt at hr
 cases m:Fb kF kO s kT<;>cases l:wU R kF kO s kO<;>cases k:aIy kO s<;>cases j:Zj s kF<;>simp only[m,l,k,j] at hr<;>try (cases hr;done)
 rename_i t q H;obtain⟨G,o⟩:=q;cases hr;have E:Bh A kF s:=by rcases f with rfl|D;exact Bh.nil;exact bBs D j (bSc b).2
 refine h.KI m l (bSc b).1 E (fun x z y=>?_);obtain⟨env,h⟩:=h;obtain⟨B,C⟩:=h.pg x z y;obtain⟨r,e,F,_⟩:=C;have c:env x=some (r,e):=F;cases i:find s.o x with
 |none=>rw[h.dom x i] at c;cases c|some p=>obtain⟨g,n,u⟩:=p;have d:=List.all_eq_true.1 k _ (sS i);dsimp only at d;rw[B,zg] at d;obtain rfl:=iy d.2;exact⟨g,u,rfl,d.1⟩
theorem aLs:∀ l,wU [] kF kO s l=bFx kF kO s l
 |[]=>rfl|x::l=>by
  have h:∀ b,FC [] kF kO s x b=Rw kF kO s b:=fun b=>by cases b<;>rfl
  simp only[wU,bFx,aLs l,h]
theorem qj.KJ{kT:List Nat}{cs:List Prop}{s':St}(h:qj A s a w)(c:kF=[]\/A.S=Non)(hr:bAx kF kT kO s=some (cs,s'))(b:All cs):qj A s' a w:=h.x_ (R:=[]) c (by unfold aNt;rw[aLs];exact hr) b
theorem qj.reset{kT:List Nat}{cs:List Prop}{s':St}(h:qj A s a w)(hr:aNu kT kO s=some (cs,s'))(hc:All cs):qj A s' a w:=by
 refine h.KJ (kF:=[]) (kT:=kT) (kO:=kO) (cs:=cs) (.inl rfl) ?_ hc;unfold aNu at hr;unfold bAx Zj
 cases d:Fb [] kO s kT<;>cases c:bFx [] kO s kO<;>cases b:aIy kO s<;>simp only[d,c,b] at hr<;>try (cases hr;done)
 cases hr;simp
inductive CO:oh->oh->Prop where
 |box {t:bu} {l l':g_} (h:l=l'):CO (.box t l) (.box t l')
 |arr {e n len len':Nat} {f f':Nat->g_} (hl:len=len') (h:∀ i,i<len->f i=f' i):CO (.arr e n len f) (.arr e n len' f')
 |dead {o:oh}:CO o .dead
 |dev {O:ut} {gm:je->Prop} {l l':je} (h:l=l'):CO (.dev O gm l) (.dev O gm l')
inductive Am:List (Nat×og×PV)->List (Nat×og×PV)->Prop where
 |nil:Am [] []
 |cons {t:Nat} {g:og} {v v':PV} {l l':List (Nat×og×PV)} (h:v=v') (hl:Am l l'):Am ((t,g,v)::l) ((t,g,v')::l')
inductive zo:Wr->Wr->Prop where
 |nil:zo [] []
 |cons {x l9:Nat} {g:og} {o o':oh} {l l':Wr} (h:CO o o') (hl:zo l l'):zo ((x,g,l9,o)::l) ((x,g,l9,o')::l')
theorem Am.eq{l l':List (Nat×og×PV)}(h:Am l l'):l=l':=by
 induction h with
 |nil=>rfl|cons h _ b=>rw[h,b]
theorem zo.find{l l':Wr}(h:zo l l')(x:Nat):(find l x=none/\find l' x=none)\/∃ g b o c,find l x=some (g,b,o)/\find l' x=some (g,b,c)/\CO o c:=by
 induction h with
 |nil=>exact .inl ⟨rfl,rfl⟩|@cons y b g o c l l' h _ e=>by_cases d:y=x;subst d;exact .inr ⟨g,b,o,c,aG _ _ _,aG _ _ _,h⟩;rw[aF _ _ d,aF _ _ d];exact e
theorem CO.ok{C:Ctx}{hd:ag}{o b:oh}(h:CO o b)(d:pJ C hd o):pJ C hd b:=by
 cases h with
 |box h=>rw[<-h];exact d|arr f h=>subst f;obtain⟨e,j,g⟩:=d;exact⟨e,j,fun i c=>by rw[<-h i c];exact g i c⟩
 |dead=>trivial|dev _=>trivial
theorem qj.same{s':St}(h:qj A s a w)(q:Am s.t s'.t)(k:zo s.o s'.o):qj A s' a w:=by
 obtain⟨env,h⟩:=h;refine⟨env,{ iw:=h.iw,size:=h.size,dom:=fun x p=>?_,lu:=fun x g d B b=>?_,live:=h.live,inj:=h.inj,tmps:=fun t g pv b=>?_,defers:=h.defers,und:=fun t pv b=>(by rw[<-q.eq] at b;exact h.und t pv b),pg:=h.pg,dev:=fun g d O gm l b j=>?_ }⟩;rcases k.find x with c|⟨g,d,o,n,_,i,_⟩;exact h.dom x c.1;rw[i] at p;cases p;rcases k.find x with c|⟨z,f,o,n,c,i,m⟩;rw[c.2] at b;cases b;rw[i] at b;cases b;obtain⟨r,y,u⟩:=h.lu x _ _ o c
 exact⟨r,y,fun j=>m.ok (u j)⟩;rw[<-q.eq] at b;exact h.tmps t g pv b;rcases k.find dx with c|⟨z,f,o,n,c,i,m⟩;rw[c.2] at b;cases b;rw[i] at b;cases b
 cases m with
 |dev e=>subst e;exact h.dev g d _ _ _ c j
theorem qj.nilRow{x e n t:Nat}(h:qj A s a w)(l:find s.o x=none)(m:find s.t t=some (none,qc (.slice none 0 0))):qj A { t:=(t,none,dm (.ow x 0 n 0 0))::s.t,o:=(x,none,0,.arr e n 0 (fun _=>[]))::s.o } a w:=by
 obtain⟨env,h⟩:=h;have k:fresh s x=0:=by unfold fresh;rw[l]
 obtain⟨j,y⟩:=h.new (w':=w) x none (.slice none 0 0) (.arr e n 0 (fun _=>[])) (Ext.refl w) (fun b q=>by cases q) (fun _ _=>⟨[],⟨d_,.inl ⟨rfl,rfl⟩⟩,fun i z=>a_⟩);rw[k] at j y;refine⟨_,{ j with tmps:=fun f g pv d p=>?_,und:=fun f pv d=>?_ }⟩;rotate_left 1;by_cases c:t=f;subst c;rw[aG] at d;cases d;rw[aF _ _ c] at d;exact j.und f pv d;by_cases c:t=f;subst c;rw[aG] at d;cases d;obtain⟨v,u,r⟩:=h.tmps t none _ m trivial;have:=r.gu;subst this;exact⟨_,u,.w (.one (.ow ⟨_,_,rfl⟩ ⟨0,_,jA _ _ _ _,dE _,fun _=>⟨none,0,0,rfl,a_,rfl⟩⟩))⟩;rw[aF _ _ c] at d;exact j.tmps f g pv d p
end
theorem RL.aGX{C:Ctx}{c c':PC}{l2:g_}(hc:∀ ys,R C c ys->R C c' ys):∀ {l1:g_} {xs:jl},RL C (l1++c::l2) xs->RL C (l1++c'::l2) xs
 |[],_,h=>by cases h with|cons h1 h2=>exact .cons (hc _ h1) h2
 |_::l1,_,h=>by cases h with|cons h1 h2=>exact .cons h1 (RL.aGX hc (l1:=l1) h2)
theorem qj.C9{A:o_}{s:St}{a:Act}{w:ae}{x e n b p ty:Nat}{l1 u:g_}(h:qj A s a w)(y:find s.o x=none)(hb:find s.o b=some (none,p,.box ty (l1++.lit (.slice none 0 0)::u))) :
  qj A { t:=s.t,o:=(b,none,p,.box ty (l1++.ow x 0 n 0 0::u))::(x,none,0,.arr e n 0 (fun _=>[]))::s.o } a w:=by
 obtain⟨env,h⟩:=h;have r:fresh s x=0:=by unfold fresh;rw[y]
 obtain⟨j,H⟩:=h.new (w':=w) x none (.slice none 0 0) (.arr e n 0 (fun _=>[])) (Ext.refl w) (fun b hb=>by cases hb) (fun _ _=>⟨[],⟨d_,.inl ⟨rfl,rfl⟩⟩,fun i K=>a_⟩);rw[r] at j H;have q:x≠b:=fun e=>by subst e;rw[y] at hb;cases hb
 refine⟨_,{ j with dom:=fun k d=>?_,lu:=fun k g f o d=>?_,tmps:=fun z g pv d m=>j.tmps z g pv d m,dev:=fun g f O gm l d m=>?_ }⟩;by_cases c:b=k;subst c;rw[aG] at d;cases d;rw[aF _ _ c] at d;exact j.dom k d;by_cases c:b=k;subst c;rw[aG] at d;cases d;obtain⟨C,G,F⟩:=j.lu b none p _ (show find ((x,none,0,oh.arr e n 0 (fun _=>[]))::s.o) b=_ by rw[aF _ _ q];exact hb);refine⟨C,G,fun m=>?_⟩;obtain⟨g,I,rfl,E,D⟩:=F m;refine⟨g,I,rfl,E,D.aGX (fun J B=>?_)⟩;cases B;exact .ow ⟨_,_,rfl⟩ ⟨0,_,jA _ _ _ _,dE _,fun _=>⟨none,0,0,rfl,a_,rfl⟩⟩;rw[aF _ _ c] at d;exact j.lu k g f o d;by_cases c:b=dx;subst c;rw[aG] at d;cases d;rw[aF _ _ c] at d;exact j.dev g f O gm l d m
theorem bDa{k:Nat}{f g b:Nat->g_}(h1:∀ i,i<k->f i=b i)(h2:g 0=b k):∀ i,i<k+1->ru k f g i=b i:=fun i c=>by unfold ru;by_cases h:i<k;rw[au h];exact h1 i h;obtain rfl:i=k:=a_;rw[ah h,aBa];exact h2
theorem yN{k:Nat}{f g:Nat->g_}(h1:∀ i,i<k->∀ x∈f i,bT false x=true)(h2:∀ x∈g 0,bT false x=true):∀ i,i<k+1->∀ x∈ru k f g i,bT false x=true:=fun i c x b=>by unfold ru at b;by_cases h:i<k;rw[au h] at b;exact h1 i h x b;obtain rfl:i=k:=a_;rw[ah h,aBa] at b;exact h2 x b
theorem yZ{c:PC}(h:bT false c=true):∀ x∈[c],bT false x=true:=fun x b=>by rw[List.mem_singleton.1 b];exact h
theorem mZ{P:ed}{A:o_}{s:St}{Q:uk->Act->jg}{c:Hm}(s':St){cs:List Prop}(d:kw P A s' c Q)(hr:aNu (s'.t.map (·.1)) (s'.o.map (·.1)) s=some (cs,s'):=by rfl)(hc:All cs:=by simp):kw P A s c Q:=bK (fun _ _ b=>b.reset hr hc) d
theorem aW{P:ed}{A:o_}{s s1:St}{Q:uk->Act->jg}{c:Hm}(s':St){cs:List Prop}(h1:Am s1.t s'.t)(h2:zo s1.o s'.o)(d:kw P A s' c Q)(hr:aNu (s'.t.map (·.1)) (s'.o.map (·.1)) s=some (cs,s1):=by rfl)(hc:All cs:=by simp):kw P A s c Q:=bK (fun _ _ b=>(b.reset hr hc).same h1 h2) d
theorem iT:∀ (l:List (Nat×og×PV)),Am l l
 |[]=>.nil|(_,_,_)::l=>.cons rfl (iT l)
theorem iq{l m:List (Nat×og×PV)}(h:l=m:=by rfl):Am l m:=h ▸ iT l
theorem ZM:∀ o:oh,CO o o
 |.box _ _=>.box rfl|.arr _ _ _ _=>.arr rfl fun _ _=>rfl|.dead=>.dead|.dev _ _ _=>.dev rfl
theorem dU:∀ l:Wr,zo l l
 |[]=>.nil|(_,_,_,_)::l=>.cons (ZM _) (dU l)
theorem r_{l m:Wr}(h:l=m:=by rfl):zo l m:=h ▸ dU l
theorem Am.cr{t:Nat}{g:og}{v:PV}{l l':List (Nat×og×PV)}(h:Am l l'):Am ((t,g,v)::l) ((t,g,v)::l'):=.cons rfl h
theorem zo.cb{x l9:Nat}{g:og}{t:bu}{m:g_}{l l':Wr}(h:zo l l'):zo ((x,g,l9,.box t m)::l) ((x,g,l9,.box t m)::l'):=.cons (.box rfl) h
section
variable {P:ed} {I:jg} {A:o_} {s:St} {a:Act} {w:ae} {env:Env} {F:og->PV->Wr->Prop}
theorem ig.BP(h:ig A s a w env)(d:Nat)(e n len:Nat){f:Nat->g_}{v:ag}{xs:jl}{w':ae}(x:Ext w w')(j:w'.ownsRow w.heap.size e n v len xs)(hr:∀ C:Ctx,∀ i,i<len->RL C (f i) ((xs.drop (i*n)).take n)) :
  ∃ c,ig A { s with o:=[(d,none,fresh s d,.arr e n len f)]++s.o } a w' c/\RV (aP A w' c) (dm (.ow d (fresh s d) n 0 len)) v:=by
 have m:w'.ownsRow 0 e n v len xs:=⟨j.1,j.2.imp id (fun⟨g,cap,cur,p,_,y⟩=>⟨g,cap,cur,p,x8 _,y⟩)⟩;obtain⟨l,q,rfl⟩:=pX j
 obtain⟨p,z⟩:=h.new (w':=w') d none (.slice l len q) (.arr e n len f) x (fun b u=>by
   have k:(aAP l len q).ownBlock=some b:=by cases l<;>exact u
   exact⟨(j.lt b k).2,(j.lt b k).1⟩)
  (fun r _=>⟨xs,aAr m,fun i t=>hr _ i t⟩)
 refine⟨_,p,.w (.one (.ow ⟨_,_,rfl⟩ ⟨_,_,jA _ _ _ _,dE _,fun _=>⟨_,_,_,rfl,a_,?_⟩⟩))⟩;cases l with
 |none=>simp|some B=>simp[Addr.add]
def Ub (c:PC) (k:PC->M):M:=match c with
 |.lit v=>k (.lit v)|.bs n l=>k (.bs n l)|.sl n len f=>k (.sl n len f)| .ow x d n b len=>.obj x fun g e j=>kL g (match bz d e,j with
  |true,.arr _ m h f=>(match bz n m with
   |true=>.need (b+len<=h/\∀ i,i<len->(f (b+i)).all (bT false)=true) (k (.sl n len (fun i=>f (b+i))))|false=>.fail)
  |_,_=>.fail)
 | .ob x d b len=>.obj x fun g e j=>kL g (match bz d e,j with
  | true,.box _ l=>(match AO l b with
   |some (m,bs)=>(match bz len m with
    |true=>k (.sl 1 len (oz bs))|false=>.fail)
   |none=>.fail)
  |_,_=>.fail)
 |.any=>k .any|_=>.fail
def Z4:g_->(g_->M)->M
 |[],k=>k []|c::l,k=>Ub c fun c=>Z4 l fun l=>k (c::l)
def Yz(v:PV)(k:PV->M):M:=match v with
 |.w (.one c)=>Ub c fun c=>k (.w (.one c))|.w (.agg l)=>Z4 l fun l=>k (.w (.agg l))|_=>.fail
def GN:ji->(ji->M)->M
 |[],k=>k []|v::l,k=>Yz v fun v=>GN l fun l=>k (v::l)
def aVk(w:ae):Ctx:={ w,ok:=fun _=>True,env:=fun _=>none }
theorem aUv:(aP A w env).cold.Le (aVk w).cold:=⟨dE _,fun b _ _=>⟨trivial,rfl⟩,fun _ _ _ h=>by cases h⟩
theorem bOy(h:ig A s a w env){c:PC}{xs:jl}(hr:R (aP A w env) c xs){k:PC->M}(d:(Ub c k).ok none s F):∃ c',R (aVk w) c' xs/\(k c').ok none s F:=by
 unfold Ub at d;split at d;cases hr;exact⟨_,.lit qm,d⟩;cases hr;exact⟨_,.bs qm,d⟩;cases hr with
 |sl Z h2 h3=>exact⟨_,.sl Z (fun g K hl=>⟨trivial,(h2 g K hl).2⟩) (fun i J=>(h3 i J).le aUv),d⟩
 ·rename_i x r n p len;obtain⟨g,O,S,B,d⟩:=d;have z:=dZ d;clear d;obtain⟨K,d⟩:=z;obtain⟨hd,t,y⟩:=kX h B K
  cases o:bz r O<;>cases S<;>simp only[o] at d<;>try exact d.elim
  rename_i e m Q f;obtain rfl:=iy o
  cases L:bz n m<;>rw[L] at d
  exact d.elim;obtain rfl:=iy L;obtain⟨⟨V,C⟩,d⟩:=d;cases hr with
  | ow Z D=>
   obtain⟨A0,n0,c0,rfl,a0,rfl⟩:=D.now t;obtain⟨vs,H,W⟩:=y;have G:=Reads.Ac H;have U:n0=Q:=by obtain⟨_,A1,c1,e1,_⟩:=G;cases e1;rfl
   subst U;refine⟨_,.sl (vs:=(vs.drop (p*n)).take (len*n)) (oZ V G) (fun b o a1=>⟨trivial,?_⟩) (fun i J=>?_),d⟩;cases A0 with
   |none=>simp[aAC] at o|some ad=>simp only[aEH,aAC,Option.some.injEq,sU] at o;exact (h.live x r _ b t (by simp[hblk,o])).1
   rw[lG vs J];exact (kV (W _ a_) (C i J)).le aUv
 ·rename_i x r p len;obtain⟨g,O,S,B,d⟩:=d;have z:=dZ d;clear d;obtain⟨K,d⟩:=z;obtain⟨hd,t,y⟩:=kX h B K
  cases o:bz r O<;>cases S<;>simp only[o] at d<;>try exact d.elim
  rename_i bt l;obtain rfl:=iy o;cases T:AO l p with
  |none=>rw[T] at d;exact d.elim| some q=>
   obtain⟨m,bs⟩:=q;rw[T] at d;dsimp only at d
   cases N:bz len m<;>rw[N] at d
   exact d.elim;obtain rfl:=iy N;cases hr with
   |ob Z D=>obtain⟨g1,c,rfl,Y,X,rfl⟩:=D.now t;obtain⟨g2,cs,e2,hB,hR⟩:=y;cases e2;obtain⟨k1,k2,k3⟩:=qZ hR T;have E:=kS hB.range p len;rw[mf,k2] at E;refine⟨_,.sl (vs:=bs.map uh) ⟨by simp[k1],_,c,rfl,Y,X,fun hn=>⟨g1,p,rfl,fun j u hj=>E j u hj⟩⟩ (fun b o _=>⟨trivial,?_⟩) (fun i J=>qE _ bs i a_),d⟩;simp only[aAC,Option.some.injEq] at o;subst o;exact hB.lt
 cases hr;exact⟨_,.any qm,d⟩;exact d.elim
theorem bOx(h:ig A s a w env):∀ {l:g_} {i:jl} {k:g_->M},RL (aP A w env) l i->(Z4 l k).ok none s F->∃ b,RL (aVk w) b i/\(k b).ok none s F
 |[],_,k,d,g=>by cases d;exact⟨[],.nil,g⟩| c::l,_,k,d,g=>by
  cases d with
  |cons o n=>obtain⟨p,m,f⟩:=bOy h o g;obtain⟨b,j,e⟩:=bOx h n f;exact⟨p::b,.cons m j,e⟩
theorem Ua(h:ig A s a w env){v:PV}{val:ag}{k:PV->M}(hr:RV (aP A w env) v val)(b:(Yz v k).ok none s F):∃ e,RV (aVk w) e val/\(k e).ok none s F:=by
 unfold Yz at b;split at b;obtain⟨g,d,c⟩:=bOy h hr.inv b;exact⟨_,.w (.one d),c⟩;cases hr with
 | w hr=>cases hr with
  |agg hr=>obtain⟨f,d,c⟩:=bOx h hr b;exact⟨_,.w (.agg d),c⟩
 exact b.elim
theorem aPl(h:ig A s a w env):∀ {c:ji} {l:jl} {k:ji->M},pq (aP A w env) c l->(GN c k).ok none s F->∃ b,pq (aVk w) b l/\(k b).ok none s F
 |[],[],k,_,f=>⟨[],trivial,f⟩|[],_::_,_,h,_=>h.elim|_::_,[],_,h,_=>h.elim|v::c,x::l,k,⟨h1,h2⟩,f=>by obtain⟨g,j,e⟩:=Ua h h1 f;obtain⟨b,i,d⟩:=aPl h h2 e;exact⟨g::b,⟨j,i⟩,d⟩
def wC:PV->Bool
 |.w (.one c)=>bT false c|.w (.agg l)=>l.all (bT false)|_=>false
def aV(new:Bool)(g:ji->Option (Prop×PV)):Spec:=fun _ b=>match new with
 |true=>GN b fun c=>(match g c with
  |some (p,r)=>.need p (.ret r)|none=>.fail)
 |false=>(match b.all wC,g b with
  |true,some (p,r)=>.need p (.ret r)|_,_=>.fail)
theorem bCs{C:Ctx}{v:PV}{x:ag}(h:RV C v x)(hc:wC v=true):RV C.cold v x:=by
 unfold wC at hc;split at hc;exact .w (.one (aJi h.inv hc));cases h with
 |w h=>cases h with
  |agg h=>exact .w (.agg (kV h hc))
 cases hc
theorem aJh{C:Ctx}:∀ {b:ji} {l:jl},pq C b l->b.all wC=true->pq C.cold b l
 |[],[],_,_=>trivial|[],_::_,h,_=>h.elim|_::_,[],h,_=>h.elim|v::b,x::l,⟨h1,h2⟩,hc=>by rw[aBV,zg] at hc;exact⟨bCs h1 hc.1,aJh h2 hc.2⟩
theorem bKp(h:ig A s a w env){w':ae}(_:Ext w w'){new:Bool}:({ w:=w',ok:=fun b=>(new=false/\(aP A w env).ok b)\/w.heap.size<=b,env:=fun _=>none }:Ctx).Le (aP A w' env):=
 ⟨
  dE _,fun b _ c=>⟨(by
  rcases c with⟨_,c⟩|c;exact c
  exact⟨.inr (ry h.iw.size c),fun x d g f e=>by have:=(h.live x d g b f e).1;omega⟩),rfl⟩,fun _ _ _ h=>by cases h⟩
theorem aU{f:Nat}{new:Bool}{g:ji->Option (Prop×PV)}(k:∀ args w,(aAE f args).run P w=.ok (.enter f args) w)(B:∀ x p r,g x=some (p,r)->p->fQ P I f new x r):b_ P I f (aV new g):=by
 refine⟨k,fun A s a w env J i y F h D z c=>?_⟩;unfold aV at c;cases new with
 | true=>
  obtain⟨u,H,c⟩:=aPl h z c;cases j:g u with
  |none=>rw[j] at c;exact c.elim|some q=>obtain⟨p,r⟩:=q;rw[j] at c;obtain⟨n,t⟩:=c;refine (B u p r j n w (fun _=>True) y (D.mem w h.iw) H).mono ?_;rintro e E ⟨d,rfl,l,m⟩;refine .inl ⟨r,[],d,env,rfl,t,h.ext l,m.le ⟨dE _,fun b G o=>?_,fun _ _ _ h=>by cases h⟩⟩;exact (bKp (new:=true) h l).blk b G (o.elim (fun h=>by cases h.1) (fun h=>.inr h))
 |false=>
  dsimp only at c
  cases C:i.all wC<;>cases j:g i<;>simp only[C,j] at c<;>try exact c.elim
  rename_i q;obtain⟨p,r⟩:=q;obtain⟨n,t⟩:=c;refine (B i p r j n w (aP A w env).ok y (D.mem w h.iw) (aJh z C)).mono ?_;rintro e E ⟨d,rfl,l,m⟩;exact .inl ⟨r,[],d,env,rfl,t,h.ext l,m.le (bKp (new:=false) h l)⟩
theorem bOq{C C':Ctx}:∀ {l:g_} {a:jl},RL C l a->l.all (bT true)=true->RL C' l a
 |[],_,h,_=>by cases h;exact .nil| c::l,a,h,hc=>by
  rw[aBV,zg] at hc;cases h with
  |cons e d=>
   refine .cons ?_ (bOq d hc.2);have b:=hc.1
   cases e<;>first|exact .lit qm|exact .bs qm|(cases b;done)
def VP(P:ed)(I:jg)(f:Nat)(args:ji)(e n len:Nat)(f':Nat->g_):Prop:=
 ∀ (w:ae) (b:uy) (g:jl),I w->pq { w,ok:=b,env:=fun _=>none } args g ->
  Calls P f g.toArray w fun r d=>∃ a c,r=.returned a/\Ext w d/\d.ownsRow w.heap.size e n a len c/\∀ (C:Ctx) i,i<len->RL C (f' i) ((c.drop (i*n)).take n)
def QY(P:ed)(fn:Lt)(e n len:Nat)(f':Nat->g_)(s:St):Prop:=∃ x a g f,(AQ P fn.results).ok none s (fun _ b wr=>b=dm (.ow x a n 0 len)/\wr=[])/\find s.o x=some (g,a,.arr e n len f)/\gT g/\∀ i,i<len->f i=f' i/\(f' i).all (bT true)=true
def RQR(P:ed)(A:o_)(fn:Lt)(e n len:Nat)(f':Nat->g_):uk->Act->ae->Prop
 |.panic chain,a,w=>a.defers=[]/\E5 A chain w|x,a,w=>(x=.normal\/x=.ret)/\∃ s,QY P fn e n len f' s/\qj A s a w
theorem aFi{P:ed}{fn:Lt}{e n len x l9:Nat}{g:og}{f f':Nat->g_}{s:St}{out:Out}(h:(AQ P fn.results).exec none s [] [] [] []=some out)(hc:All out.conds)(c:out.wr=[])(b:out.val=dm (.ow x l9 n 0 len))(k:find s.o x=some (g,l9,.arr e n len f))(j:gT g)(a:∀ i,i<len->f i=f' i/\(f' i).all (bT true)=true):QY P fn e n len f' s:=by rw[zL] at h;exact⟨x,l9,g,f,M.zy _ none s out _ h (fun p d=>hc.mem p d) ⟨b,c⟩,k,j,a⟩
theorem aCv{P:ed}{I:jg}{f:Nat}{fn:Lt}{c:Hm}{args:ji}{e n len:Nat}{f':Nat->g_}(hf:P.funcs[f]?=some fn)(hb:fn.body=some c)(q:aBT args.length fn.ntmps=true)(hI:∀ w b,Ext w b->I w->I b)
  (hT:∀ A:o_,A.S=Non->A.nt=fn.ntmps->l_ P I A->kw P A ⟨slots 0 args,[]⟩ c (RQR P A fn e n len f')) (F:XN e Gx=true:=by rfl):VP P I f args e n len f':=by
 intro w m vs N Q;have hn:=aBO q;have T:=Q.length;refine calls_of_wp hf hb (aCD (hT (o_.plain w m fn.ntmps) rfl rfl (l_.plain fun b hc=>hI w b hc N) _ w (aIt q Q) (fun _ _ _ W h=>⟨W,h⟩)) (fun x O b V=>?_))
 have L:(x=.normal\/x=.ret)/\∃ s,QY P fn e n len f' s/\qj (o_.plain w m fn.ntmps) s O b:=by
  cases x with
  |panic chain=>obtain⟨_,l,hl,_⟩:=V;exact hl.elim
  |_=>exact V
 obtain⟨y,s,⟨Z,B,g,f0,h2,J,H,r⟩,h4⟩:=L;obtain⟨a0,u⟩:=h4;obtain⟨v',j,h5,h6,h7,_⟩:=vN u h2;subst h7;obtain⟨W,t,D⟩:=kX u J H;obtain⟨z,o,c0,rfl,U,rfl⟩:=h6.Ar t;obtain⟨k,a,K⟩:=D;have E:o=len:=by obtain⟨_,A1,c1,e1,_⟩:=Reads.Ac a;cases e1;rfl
 have a:=a.plain F;subst E
 have X:z.map (fun p=>p.add (0*n))=z:=by
  cases z with
  |none=>rfl|some ad=>simp[Addr.add]
 have d:b.ownsRow w.heap.size e n (.slice z o c0) o k:=⟨a.1,a.2.imp id (fun⟨g,cap,cur,y,_,h3⟩=>⟨g,cap,cur,y,by
  have:=(u.live Z B _ g t (by rw[y];rfl)).2
  exact this.resolve_right (fun h=>h.1),h3⟩)⟩
 have this:O.defers=[]/\∃ v,(results fn O.tmps).run P b=.ok v b/\∃ j k,Ending.returned v=.returned j/\Ext w b/\b.ownsRow w.heap.size e n j o k/\∀ (C:Ctx) i,i<o->RL C (f' i) ((k.drop (i*n)).take n):=by
  refine⟨u.defers,_,h5,_,k,rfl,u.iw,?_,fun C i G=>?_⟩
  ·first|exact d|(simp only[aDN,Nat.sub_zero] at X ⊢;rw[X];exact d)
  have Y:=K i G;rw[(r i G).1] at Y;exact bOq Y (r i G).2
 rcases y with rfl|rfl<;>exact this
def aGx(g:ji->Option (Prop×Nat×Nat×Nat×(Nat->g_))):Spec:=fun a c=>GN c fun b=>match g b with
 |some (p,e,n,len,f)=>.need p (.new a (.arr e n len f) fun v=>.ret (dm (.ow a v n 0 len)))|none=>.fail
theorem yY{P:ed}{I:jg}{f:Nat}{g:ji->Option (Prop×Nat×Nat×Nat×(Nat->g_))}(c:∀ args w,(aAE f args).run P w=.ok (.enter f args) w)(C:∀ j p e n len d,g j=some (p,e,n,len,d)->p->VP P I f j e n len d):b_ P I f (aGx g):=by
 refine⟨c,fun A s a w K u t m F h D x b=>?_⟩;unfold aGx at b;obtain⟨l,J,b⟩:=aPl h x b;cases k:g l with
 |none=>rw[k] at b;exact b.elim|some q=>obtain⟨p,e,n,len,d⟩:=q;rw[k] at b;obtain⟨z,b⟩:=b;refine (C l p e n len d k z w (fun _=>True) m (D.mem w h.iw) J).mono ?_;rintro r L ⟨o,j,rfl,E,B,y⟩;obtain⟨i,H,G⟩:=h.BP u e n len (f:=d) E B y;exact .inl ⟨_,_,_,i,rfl,b,H,G⟩
@[simp] theorem aDS(b:Bool):Kw true b=b:=rfl
@[simp] theorem Xl(b:Bool):Kw false b=!b:=rfl
@[simp] theorem aKN:All []=True:=rfl
@[simp] theorem aEP(p:Prop)(l:List Prop):All (p::l)=(p/\All l):=rfl
@[simp] theorem aNA(p:Prop):hP none p=p:=rfl
@[simp] theorem aMZ(b:Bool)(p:Prop):hP (some b) p=(b=true->p):=rfl
structure Ob where
 x:Nat
 t:bu
 l:g_
 l':g_
def Qq(os:List Ob)(x:Nat):Bool:=os.any fun o=>bz o.x x
theorem qB{os:List Ob}{x:Nat}(h:Qq os x=true):∃ o∈os,o.x=x:=by obtain⟨o,b,a⟩:=List.any_eq_true.1 h;exact⟨o,b,iy a⟩
theorem aCj{os:List Ob}{o:Ob}(h:o∈os):Qq os o.x=true:=List.any_eq_true.2 ⟨o,h,Nat.beq_refl _⟩
def xx(os:List Ob)(bl:Nat->Nat)(dev:Option (je×je))(hd:ag):Nat->Option ag:=fun x=>match Qq os x,dev,bz x dx with
 |true,_,_=>some (kJ (bl x))|false,some _,true=>some hd|false,_,_=>none
def AX(os:List Ob)(bl:Nat->Nat)(dev:Option (je×je))(hd:ag):Env:=fun x=>(xx os bl dev hd x).map fun h=>(0,h)
def SX(os:List Ob)(bl:Nat->Nat)(D:Dv):Nat->Prop:=fun b=>D.S b\/∃ o∈os,b=bl o.x
def y_(P:ed)(I:jg)(f:Nat)(new:Bool)(os:List Ob)(O:ut)(dev:Option (je×je))(gm:je->Prop)(args:ji)(k:PV):Prop:=
 ∀ (w:ae) (d:uy) (m:jl) (g:Nat->Nat) (D:Dv) (j:uy),
  (∀ c,gq (SX os g D) w c->I c)->(∀ b,SX os g D b->b<w.heap.size/\¬d b)->qw P D gm->(∀ l X Y w c a,D.pan l X w a->gq X w c->(∀ b,Y b->X b)->D.pan l Y c a)->D.O=O ->
  (∀ p,dev=some p->D.inv p.1 j w)->(dev=none->(∀ b,¬D.S b)/\∀ l X w,¬D.inv l X w) ->
  (∀ o∈os,j (g o.x)/\∃ i,eu w (g o.x) o.t i/\RL { w,ok:=d,env:=fun _=>none } o.l i.toList)->(∀ o∈os,∀ n∈os,g o.x=g n.x->o.x=n.x) ->
  pq { w,ok:=d,env:=AX os g dev D.hd } args m ->
  Calls P f m.toArray w fun e c=>gq (SX os g D) w c /\
   ((∃ h,e=.returned h/\RV { w:=c,ok:=rJ w d new,env:=fun _=>none } k h/\(∀ o∈os,∃ i,eu c (g o.x) o.t i/\RL { w:=c,ok:=rJ w d new,env:=fun _=>none } o.l' i.toList)/\(∀ p,dev=some p->D.inv p.2 j c))
   \/ (∃ a l,e=.panicked a/\gm l/\O l=none/\D.pan l j c a))
def bBZ(new:Bool)(os:List Ob)(O:ut)(dev:Option (je×je))(gm:je->Prop)(s:St):Prop:=(∀ o∈os,∃ l,find s.o o.x=some (none,0,.box o.t l)/\IK s new l o.l')/\(∀ p,dev=some p->find s.o dx=some (none,0,.dev O gm p.2))
def RQX(P:ed)(A:o_)(fn:Lt)(new:Bool)(os:List Ob)(O:ut)(dev:Option (je×je))(gm:je->Prop)(b:PV):uk->Act->ae->Prop
 |.panic chain,a,w=>a.defers=[]/\E5 A chain w|e,a,w=>(e=.normal\/e=.ret)/\∃ s,(VI P fn new b s/\bBZ new os O dev gm s)/\qj A s a w
def WX(os:List Ob)(O:ut)(dev:Option (je×je))(gm:je->Prop):Wr:=match dev with
 |some p=>(dx,none,0,.dev O gm p.1)::os.map (fun o=>(o.x,none,0,.box o.t o.l))|none=>os.map (fun o=>(o.x,none,0,.box o.t o.l))
theorem bCe{os:List Ob}{x:Nat}{p:og×Nat×oh}:find (os.map (fun o=>(o.x,none,0,oh.box o.t o.l))) x=some p->∃ o∈os,o.x=x/\p=(none,0,.box o.t o.l):=by intro h;obtain⟨o,b,a⟩:=List.mem_map.1 (sS h);cases a;exact⟨o,b,rfl,rfl⟩
theorem aCx{os:List Ob}{x:Nat}(h:find (os.map (fun o=>(o.x,(none:og),0,oh.box o.t o.l))) x=none):Qq os x=false:=by
 induction os with
 |nil=>rfl| cons o os c=>
  by_cases a:o.x=x;rw[aAJ,<-a,aG] at h;cases h;rw[aAJ,aF _ _ a] at h
  have b:bz o.x x=false:=by
   cases b:bz o.x x with
   |false=>rfl|true=>exact absurd (iy b) a
  have:=c h;unfold Qq at this ⊢;rw[List.any_cons,b,Bool.false_or];exact this
theorem mM{g b:Nat}(h:hblk (kJ g)=some b):b=g:=by cases h;rfl
theorem aCu{P:ed}{I:jg}{fn:Lt}{os:List Ob}{O:ut}{dev:Option (je×je)}{gm:je->Prop}{args:ji}(a5:aBT args.length fn.ntmps=true)
  (a3:(os.all fun o=>XN dx o.x)=true) {w:ae} {ok0:uy} {vs:jl} {bl:Nat->Nat} {D:Dv} {X0:uy}
  (hM:∀ F,gq (SX os bl D) w F->I F) (s:∀ b,SX os bl D b->b<w.heap.size/\¬ok0 b) (a1:qw P D gm) (a2:∀ l X Y w F E,D.pan l X w E->gq X w F->(∀ b,Y b->X b)->D.pan l Y F E) (hO:D.O=O)
  (a7:∀ p,dev=some p->D.inv p.1 X0 w) (a4:dev=none->(∀ b,¬D.S b)/\∀ l X w,¬D.inv l X w)
  (U:∀ o∈os,X0 (bl o.x)/\∃ cs,eu w (bl o.x) o.t cs/\RL { w,ok:=ok0,env:=fun _=>none } o.l cs.toList) (W:∀ o∈os,∀ o'∈os,bl o.x=bl o'.x->o.x=o'.x)
  (hv:pq { w,ok:=ok0,env:=AX os bl dev D.hd } args vs):l_ P I ⟨w,SX os bl D,ok0,fn.ntmps,xx os bl dev D.hd,D,gm,X0,[]⟩/\qj ⟨w,SX os bl D,ok0,fn.ntmps,xx os bl dev D.hd,D,gm,X0,[]⟩ ⟨slots 0 args,WX os O dev gm⟩ { tmps:=vs.toArray++DD (fn.ntmps-vs.toArray.size) dC,defers:=[] } w:=by
 have a9:=hv.length;have hn:=aBO a5
 have B:∀ o∈os,dx<o.x:=fun o K=>by
  have:=List.all_eq_true.1 a3 o K;have i:dx+1<=o.x:=by simpa[XN] using this
  exact i
 have C:Qq os dx=false:=by
  cases h:Qq os dx with
  |false=>rfl|true=>obtain⟨o,e,m⟩:=qB h;have:=B o e;omega
 subst hO;let A:o_:=⟨w,SX os bl D,ok0,fn.ntmps,xx os bl dev D.hd,D,gm,X0,[]⟩;have f:∀ x d,xx os bl dev D.hd x=some d->(Qq os x=true/\d=kJ (bl x))\/(x=dx/\d=D.hd/\dev.isSome=true):=by intro x d h;unfold xx at h;split at h;rename_i e;cases h;exact .inl ⟨e,rfl⟩;rename_i e m i;cases h;exact .inr ⟨iy i,rfl,rfl⟩;cases h
 have hA:l_ P I A:=⟨hM,fun b h=>.inl h,s,a1,fun l X F hi=>by
  cases d:dev with
  |none=>exact ((a4 d).2 l X F hi).elim|some p=>show xx os bl dev D.hd dx=_;unfold xx;rw[C,d];rfl,a2⟩
 have Q:∀ b,ownB A (AX os bl dev D.hd) b->X0 b:=by
  rintro b (h|⟨x,j,d,e,m⟩);exact h;unfold AX at e;cases a:xx os bl dev D.hd x with
  |none=>rw[a] at e;cases e|some h=>rw[a] at e;cases e;rcases f x _ a with⟨i,rfl⟩|⟨_,rfl,_⟩;obtain⟨o,r,rfl⟩:=qB i;rw[mM m];exact (U o r).1;rw[D.AB] at m;cases m
 have z:∀ x p,find (WX os D.O dev gm) x=some p->(∃ o∈os,o.x=x/\p=(none,0,.box o.t o.l))\/(x=dx/\∃ q,dev=some q/\p=(none,0,.dev D.O gm q.1)):=by
  intro x p h;unfold WX at h;cases d:dev with
  |none=>rw[d] at h;exact .inl (bCe h)|some q=>rw[d] at h;by_cases a:dx=x;subst a;rw[aG] at h;cases h;exact .inr ⟨rfl,q,rfl,rfl⟩;rw[aF _ _ a] at h;exact .inl (bCe h)
 have Z:∀ o∈os,AX os bl dev D.hd o.x=some (0,kJ (bl o.x)):=fun o K=>by unfold AX xx;rw[aCj K];rfl
 have V:∀ {pv:PV} {v:ag},RV { w,ok:=ok0,env:=AX os bl dev D.hd } pv v->RV (aP A w (AX os bl dev D.hd)) pv v:=fun h=>h.le ⟨dE _,fun b a6 K=>⟨⟨.inl K,fun x j d a n=>by
   unfold AX at a;cases c:xx os bl dev D.hd x with
   |none=>rw[c] at a;cases a|some h=>
    rw[c] at a;cases a;rcases f x _ c with⟨i,rfl⟩|⟨_,rfl,_⟩;obtain⟨o,r,rfl⟩:=qB i;have:=mM n;subst this;exact (s _ (.inr ⟨o,r,rfl⟩)).2 K
    rw[D.AB] at n;cases n⟩,rfl⟩,fun x j d h=>⟨j,d,h,dE _,fun _=>rfl⟩⟩
 have hg:qj A ⟨slots 0 args,WX os D.O dev gm⟩ { tmps:=vs.toArray++DD (fn.ntmps-vs.toArray.size) dC,defers:=[] } w:=by
  refine⟨AX os bl dev D.hd,{ iw:=gq.refl _ _,size:=?_,dom:=fun x a=>?_,lu:=fun x g j o h=>?_,live:=fun x j d b h n=>?_,inj:=fun x y v1 e v2 m b a N J H=>?_,tmps:=fun t g pv h B=>?_,defers:=rfl,und:=fun t pv h=>(by obtain⟨k,_,m⟩:=rU h;cases m),pg:=fun x d a=>?_,dev:=fun g j O a8 l h _=>?_ }⟩;simp[A];omega;unfold AX xx
  have e:Qq os x=false:=by
   unfold WX at a;cases d:dev with
   |none=>rw[d] at a;exact aCx a|some q=>rw[d] at a;by_cases a0:dx=x;subst a0;exact C;rw[aF _ _ a0] at a;exact aCx a
  rw[e];cases d:dev with
  |none=>rfl| some q=>
   have:bz x dx=false:=by
    cases n:bz x dx with
    |false=>rfl|true=>obtain rfl:=iy n;unfold WX at a;rw[d,aG] at a;cases a
   rw[this];rfl
  rcases z x _ h with⟨L,e,rfl,m⟩|⟨rfl,q,e,m⟩;cases m;obtain⟨_,cs,i,r⟩:=U L e
  refine⟨kJ (bl L.x),Z L e,fun _=>⟨_,cs,rfl,i,?_⟩⟩;refine r.le ⟨dE _,fun b a6 T=>⟨⟨.inl T,fun x j d a n=>?_⟩,rfl⟩,fun _ _ _ h=>by cases h⟩;have u:AX os bl dev D.hd x=some (j,d):=a;unfold AX at u;cases c:xx os bl dev D.hd x with
  |none=>rw[c] at u;cases u|some h=>rw[c] at u;cases u;rcases f x _ c with⟨h5,rfl⟩|⟨_,rfl,_⟩;obtain⟨o,h6,rfl⟩:=qB h5;have:=mM n;subst this;exact (s _ (.inr ⟨o,h6,rfl⟩)).2 T;rw[D.AB] at n;cases n
  cases m;refine⟨D.hd,?_,fun _=>trivial⟩;unfold AX xx;rw[C,e];rfl;unfold AX at h;cases c:xx os bl dev D.hd x with
  |none=>rw[c] at h;cases h|some h'=>
   rw[c] at h;cases h;rcases f x _ c with⟨i,rfl⟩|⟨_,rfl,_⟩;obtain⟨o,r,rfl⟩:=qB i;have:=mM n;subst this
   exact⟨(s _ (.inr ⟨o,r,rfl⟩)).1,.inr ⟨.inr ⟨o,r,rfl⟩,aET (aFG (B o r))⟩⟩;rw[D.AB] at n;cases n
  unfold AX at a N;cases c:xx os bl dev D.hd x with
  |none=>rw[c] at a;cases a| some b1=>
   cases G:xx os bl dev D.hd y with
   |none=>rw[G] at N;cases N|some b0=>rw[c] at a;rw[G] at N;cases a;cases N;rcases f x _ c with⟨i,rfl⟩|⟨_,rfl,_⟩;rcases f y _ G with⟨r,rfl⟩|⟨_,rfl,_⟩;obtain⟨o,h5,rfl⟩:=qB i;obtain⟨o',h6,rfl⟩:=qB r;refine W o h5 o' h6 ?_;rw[<-mM J,<-mM H];rw[D.AB] at H;cases H;rw[D.AB] at J;cases J
  obtain⟨k,e,m⟩:=uQ h;obtain⟨v,i,r⟩:=hv.at m;rw[mf] at e;subst e;have hk:t<vs.length:=(List.getElem?_eq_some_iff.1 i).1;refine⟨v,?_,V r⟩;rw[aES (by simpa using hk)];simpa using i;refine⟨?_,0,d,?_,dE _,fun _=>rfl⟩;rcases f x d a with⟨i,_⟩|⟨rfl,_,_⟩;obtain⟨o,r,rfl⟩:=qB i;exact aET (aFG (B o r));exact aET (dE _);show AX os bl dev D.hd x=some (0,d);unfold AX;have:xx os bl dev D.hd x=some d:=a;rw[this];rfl;rcases z dx _ h with⟨L,e,m,_⟩|⟨_,q,e,m⟩;have:=B L e;omega;cases m
  exact⟨rfl,rfl,D.grow _ _ _ _ _ (a7 q e) (gq.refl _ _) (fun b n=>.inl (Q b n))⟩
 exact⟨hA,hg⟩
theorem dL{P:ed}{I:jg}{f:Nat}{fn:Lt}{c:Hm}{new:Bool}{os:List Ob}{O:ut}{dev:Option (je×je)}{gm:je->Prop}{args:ji}{B:PV}(hf:P.funcs[f]?=some fn)(hb:fn.body=some c)(a3:aBT args.length fn.ntmps=true)
  (a1:(os.all fun o=>XN dx o.x)=true)
  (hT:∀ A:o_,A.nt=fn.ntmps->l_ P I A->kw P A ⟨slots 0 args,WX os O dev gm⟩ c (RQX P A fn new os O dev gm B)):y_ P I f new os O dev gm args B:=by
 intro w C vs z D X0 hM H Z a0 hO a4 J a2 K hv;let A:o_:=⟨w,SX os z D,C,fn.ntmps,xx os z dev D.hd,D,gm,X0,[]⟩;obtain⟨hA,hg⟩:l_ P I A/\qj A ⟨slots 0 args,WX os O dev gm⟩ { tmps:=vs.toArray++DD (fn.ntmps-vs.toArray.size) dC,defers:=[] } w:=aCu a3 a1 hM H Z a0 hO a4 J a2 K hv;subst hO;refine calls_of_wp hf hb (aCD (hT A rfl hA _ w hg (fun _ _ _ u h=>⟨u,h⟩)) (fun e a' m Q=>?_));cases e with
 |panic a=>obtain⟨u,l,k,h2,h3,h4⟩:=Q;exact⟨u,h4,.inr ⟨a,l,rfl,k,h2,h3⟩⟩
 |exit id=>obtain⟨k|k,_⟩:=Q<;>cases k
 |goto _=>obtain⟨k|k,_⟩:=Q<;>cases k
 |outgrown=>obtain⟨k|k,_⟩:=Q<;>cases k
 | normal|ret=>
  obtain⟨_,s,⟨⟨v,h2,h3⟩,E,U⟩,W,j⟩:=Q;obtain⟨v',d,h5,h6,h7,_⟩:=vN j h2;subst h7
  have y:∀ o∈os,W o.x=some (0,kJ (z o.x)):=fun o r=>by
   obtain⟨l,i,_⟩:=E o r;obtain⟨u,V,_⟩:=j.lu o.x none 0 _ i;have h9:xx os z dev D.hd o.x=some (kJ (z o.x)):=by unfold xx;rw[aCj r]
   have:=(j.pg o.x _ h9).2.now V;rw[V,this]
  have hS:Dj A s W:=by
   intro x g F e n len f0 u b L N T X;rcases X with X|⟨o,r,rfl⟩
   cases S:dev with
   |none=>exact (J S).1 b X|some q=>obtain⟨_,_,hi⟩:=j.dev none 0 _ _ _ (U q S) trivial;exact D.notS _ _ _ _ hi (.inr ⟨x,F,u,N,T⟩) X
   obtain⟨l,i,_⟩:=E o r;have:=j.inj x o.x F u 0 _ (z o.x) N (y o r) T rfl;subst this;rw[i] at L;cases L
  have G:=aUf j hS h3 h6
  have this:a'.defers=[]/\∃ v,(results fn a'.tmps).run P m=.ok v m/\(gq (SX os z D) w m /\
   ((∃ d,Ending.returned v=.returned d/\RV { w:=m,ok:=rJ w C new,env:=fun _=>none } B d/\(∀ o∈os,∃ Y,eu m (z o.x) o.t Y/\RL { w:=m,ok:=rJ w C new,env:=fun _=>none } o.l' Y.toList)/\(∀ p,dev=some p->D.inv p.2 X0 m))
   \/ (∃ a l,Ending.returned v=.panicked a/\gm l/\D.O l=none/\D.pan l X0 m a))):=by
   refine⟨j.defers,d,h5,j.iw,.inl ⟨d,rfl,G,fun o r=>?_,fun p hp=>?_⟩⟩;obtain⟨l,i,hx⟩:=E o r;obtain⟨u,V,h9⟩:=j.lu o.x none 0 _ i;obtain⟨g,Y,e1,a6,a5⟩:=h9 trivial;rw[y o r] at V;cases V;cases e1;exact⟨Y,a6,aUg j hS hx a5⟩;obtain⟨_,_,hi⟩:=j.dev none 0 _ _ _ (U p hp) trivial;exact D.grow _ _ _ _ _ hi (gq.refl _ _) (fun b hb=>.inl (.inl hb))
  exact this
theorem gZ{P:ed}{A:o_}{s:St}{Q:uk->Act->jg}{fn:Lt}{new:Bool}{os:List Ob}{O:ut}{dev:Option (je×je)}{gm:je->Prop}{b:PV}{out:Out}(i:out.val=b)(j:Q .ret=RQX P A fn new os O dev gm b .ret:=by rfl)(h:(AQ P fn.results).exec none s [] [] [] []=some out:=by rfl)(hc:All out.conds:=by simp)(e:out.wr=[]:=by rfl)(d:vP (bT new) out.val=true:=by rfl)
  (c:∀ o∈os,∃ l,find s.o o.x=some (none,0,.box o.t l)/\IK s new l o.l':=by intro o c;obtain rfl:=List.mem_singleton.1 c;exact⟨_,rfl,eQ rfl⟩) (hd:∀ p,dev=some p->find s.o dx=some (none,0,.dev O gm p.2):=by intro p f;cases f):kw P A s .ret Q:=bZ (fun a w g=>by rw[j];exact⟨.inr rfl,_,⟨aZ h hc e d i,c,hd⟩,g⟩)
theorem Ir{P:ed}{A:o_}{s:St}{Q:uk->Act->jg}{fn:Lt}{new:Bool}{os:List Ob}{O:ut}{dev:Option (je×je)}{gm:je->Prop}{a:PV}{out:Out}(g:Q .ret=RQX P A fn new os O dev gm a .ret:=by rfl)(h:(AQ P fn.results).exec none s [] [] [] []=some out:=by rfl)(hc:All out.conds:=by simp)(d:out.wr=[]:=by rfl)(c:vP (bT new) out.val=true:=by rfl)
  (b:∀ o∈os,∃ l,find s.o o.x=some (none,0,.box o.t l)/\IK s new l o.l':=by intro o b;obtain rfl:=List.mem_singleton.1 b;exact⟨_,rfl,eQ rfl⟩) (hd:∀ p,dev=some p->find s.o dx=some (none,0,.dev O gm p.2):=by intro p e;cases e) (f:out.val=a:=by rfl):kw P A s .ret Q:=gZ f g h hc d c b hd
theorem iJ{P:ed}{I:jg}{G:Specs}{A:o_}{s s':St}{Q:uk->Act->jg}{i b:Nat}{ops:Array ik}{a:Bool}{outs:List (Option Nat×Out)}{fn:Lt}{new:Bool}{os:List Ob}{O:ut}{dev:Option (je×je)}{gm:je->Prop}{c:PV}{out:Out}(n:out.val=c)(M:jq P I G:=by assumption)(hI:l_ P I A:=by assumption)(e:A.nt=i:=by assumption)(h:jL (rM P G b ops.toList) 0 ops.toList s=some (outs,s'):=by rfl)(f:(fP a ops.toList outs&&uD i ops.toList)=true:=by kernel_rfl)(hc:All ((outs.map fun q=>q.2.conds).flatten):=by simp)(r:Q .ret=RQX P A fn new os O dev gm c .ret:=by rfl)(hr:(AQ P fn.results).exec none s' [] [] [] []=some out:=by rfl)(g:All out.conds:=by simp)(k:out.wr=[]:=by rfl)(j:vP (bT new) out.val=true:=by rfl)
  (d:∀ o∈os,∃ l,find s'.o o.x=some (none,0,.box o.t l)/\IK s' new l o.l':=by intro o d;obtain rfl:=List.mem_singleton.1 d;exact⟨_,rfl,eQ rfl⟩) (hd:∀ p,dev=some p->find s'.o dx=some (none,0,.dev O gm p.2):=by intro p m;cases m):kw P A s (.seq (.region b ops a) .ret) Q:=aI (gZ n r hr g k j d hd) M hI e h f hc
def px:Nat:=900001
def Zd(l:g_):Option g_:=match l.all (fun c=>bz c.width 1) with
 |true=>some (l.map fun _=>.any)|false=>none
def Hw:PC->Option PC
 |.lit v=>some (.lit v)|.bs n l=>some (.bs n l)|.sl n len f=>some (.sl n len f)|.fn f first cap=>match Zd first,Zd cap with
  |some a,some b=>some (.fn f a b)|_,_=>none
 |.pt _ _ _=>some .any|.any=>some .any|_=>none
def FW:g_->Option g_
 |[]=>some []|c::l=>match Hw c,FW l with
  |some c,some l=>some (c::l)|_,_=>none
def FV:PV->Option PV
 |.w (.one c)=>match Hw c with
  |some c=>some (.w (.one c))|none=>none
 |.w (.agg l)=>match FW l with
  |some l=>some (.w (.agg l))|none=>none
 |_=>none
def Hy:ji->Option ji
 |[]=>some []|v::l=>match FV v,Hy l with
  |some v,some l=>some (v::l)|_,_=>none
theorem aZv{C C':Ctx}:∀ {l:g_} {b:jl},RL C l b->(l.all fun c=>bz c.width 1)=true->RL C' (l.map fun _=>.any) b
 |[],_,h,_=>by cases h;exact .nil| c::l,_,h,hc=>by
  rw[aBV,zg] at hc;cases h with
  |@cons _ _ _ b g d f=>
   have e:=d.width;rw[iy hc.1] at e
   match b,e,d with
   |[v],_,d=>exact .cons (xs:=[v]) (.any (d.ones v d_)) (aZv f hc.2)
theorem bRx{C C':Ctx}(e:C.cold.Le C'){c i:PC}{xs:jl}(h:Hw c=some i)(hr:R C c xs):R C' i xs:=by
 unfold Hw at h;split at h;cases h;cases hr;exact .lit qm;cases h;cases hr;exact .bs qm;cases h;exact (aJi hr rfl).le e
 ·rename_i f first cap;unfold Zd at h
  cases d:first.all fun c=>bz c.width 1<;>cases g:cap.all fun c=>bz c.width 1<;>simp only[d,g] at h<;>try (cases h;done)
  cases h;cases hr with
  |fn k j=>exact .fn (aZv k d) (aZv j g)
 cases h;cases hr with
 |pt d _=>obtain⟨b,o,rfl⟩:=d;exact .any rfl
 cases h;cases hr;exact .any qm;cases h
theorem bRw{C C':Ctx}(b:C.cold.Le C'):∀ {l f:g_} {e:jl},FW l=some f->RL C l e->RL C' f e
 |[],_,_,h,d=>by simp only[FW,Option.some.injEq] at h;subst h;cases d;exact .nil|c::l,_,_,h,d=>by
  unfold FW at h
  cases i:Hw c<;>cases g:FW l<;>simp only[i,g] at h<;>try (cases h;done)
  cases h;cases d with
  |cons k j=>exact .cons (bRx b i k) (bRw b g j)
theorem bRv{C C':Ctx}(b:C.cold.Le C'){v e:PV}{x:ag}(h:FV v=some e)(hr:RV C v x):RV C' e x:=by
 unfold FV at h;split at h
 ·rename_i c
  cases d:Hw c<;>simp only[d] at h<;>try (cases h;done)
  cases h;exact .w (.one (bRx b d hr.inv))
 ·rename_i l
  cases d:FW l<;>simp only[d] at h<;>try (cases h;done)
  cases h;cases hr with
  |w hr=>cases hr with
   |agg hr=>exact .w (.agg (bRw b d hr))
 cases h
theorem aDb{C C':Ctx}(c:C.cold.Le C'):∀ {d b:ji} {l:jl},Hy d=some b->pq C d l->pq C' b l
 |[],_,[],h,_=>by simp only[Hy,Option.some.injEq] at h;subst h;exact trivial|[],_,_::_,_,h=>h.elim|_::_,_,[],_,h=>h.elim|v::d,_,x::l,h,⟨h1,h2⟩=>by
  unfold Hy at h
  cases f:FV v<;>cases e:Hy d<;>simp only[f,e] at h<;>try (cases h;done)
  cases h;exact⟨bRv c f h1,aDb c e h2⟩
theorem aJg{e:Env}:(aP A w env).cold.Le { w,ok:=(aP A w env).ok,env:=e }:=⟨dE _,fun b _ c=>⟨c,rfl⟩,fun _ _ _ h=>by cases h⟩
theorem aAn(h:ig A s a w env){w':ae}(_:w.heap.size<=w'.heap.size){new:Bool}:({ w:=w',ok:=rJ w (aP A w env).ok new,env:=fun _=>none }:Ctx).Le (aP A w' env):=
 ⟨
  dE _,fun b _ c=>⟨(by
  rcases c with⟨_,c⟩|c;exact c
  exact⟨.inr (ry h.iw.size c),fun x d i g e=>by have:=(h.live x d i b g e).1;omega⟩),rfl⟩,fun _ _ _ h=>by cases h⟩
def dI (t:bu) (g:g_->ji->Option (Prop×g_×PV)):Spec:=fun _ f=>match f with
 | .w (.one (.pt x b c))::rest=>(match bz c 0,Hy rest with
  | true,some e=>.obj x fun j d i=>kL j (match bz b d,i with
   |true,.box h l=>(match bz t h,l.all (bT false),g l e with
    |true,true,some (p,l',r)=>.need p (.upd x d (.box t l') (.ret r))|_,_,_=>.fail)
   |_,_=>.fail)
  |_,_=>.fail)
 |_=>.fail
theorem xX{f:Nat}{t:bu}{g:g_->ji->Option (Prop×g_×PV)}(Q:∀ args w,(aAE f args).run P w=.ok (.enter f args) w)
  (hg:∀ l J p z r,g l J=some (p,z,r)->p->y_ P I f false [⟨px,t,l,z⟩] (fun _=>none) none (fun _=>False) (.w (.one (.pt px 0 0))::J) r):b_ P I f (dI t g):=by
 refine⟨Q,fun A s a w env nm b2 X F h hI hv n=>?_⟩;unfold dI at n;split at n
 ·rename_i x d Z K
  cases k:bz Z 0<;>cases hr:Hy K<;>simp only[k,hr] at n<;>try exact n.elim
  rename_i J;obtain rfl:=iy k;obtain⟨gd,vr,ob,a5,n⟩:=n;have a3:=dZ n;clear n;obtain⟨a4,n⟩:=a3;obtain⟨hd,D,a1⟩:=kX h a5 a4
  cases U:bz d vr<;>cases ob<;>simp only[U] at n<;>try exact n.elim
  rename_i t' l;obtain rfl:=iy U
  cases T:bz t t'<;>cases hc:l.all (bT false)<;>cases hq:g l J<;>simp only[T,hc,hq] at n<;>try exact n.elim
  rename_i q;obtain⟨p,z,r⟩:=q;obtain rfl:=iy T;obtain⟨hp,_,hF⟩:=n
  match X,hv with
  | v::X,⟨hv1,hv2⟩=>
   obtain⟨m,rfl,rfl⟩:=hv1.Ba D;obtain⟨g1,cs,e1,hB,hR⟩:=a1;cases e1;have O:m<w.heap.size:=hB.lt;have E:∀ b,SX [⟨px,t,l,z⟩] (fun _=>m) Dv.non b->b=m:=by rintro b (h|⟨o,V,rfl⟩);exact h.elim;rfl
   have a7:∀ b,SX [⟨px,t,l,z⟩] (fun _=>m) Dv.non b->b<A.w0.heap.size->A.S b:=fun b k C=>by rw[E b k] at C ⊢;rcases (h.live x d _ m D rfl).2 with H|H;omega;exact H.1
   have b4:SX [⟨px,t,l,z⟩] (fun _=>m) Dv.non m:=.inr ⟨_,aAw,rfl⟩;have N:¬(aP A w env).ok m:=fun a0=>a0.2 x d _ D rfl
   refine (hg l J p z r hq hp w (aP A w env).ok (kJ m::X) (fun _=>m) Dv.non (fun b=>b=m)
    (fun W G=>hI.mem W (h.iw.trans' G (fun _ _ h=>h) (fun b C k=>a7 b k C)))
    (fun b k=>by rw[E b k];exact⟨O,N⟩) (qw.non P) (fun _ _ _ _ _ _ h=>h.elim) rfl (fun p hp=>by cases hp) (fun _=>⟨fun _ h=>h,fun _ _ _ h=>h⟩)
    (
     fun o V=>by
     obtain rfl:o=⟨px,t,l,z⟩:=by simpa using V
     exact⟨rfl,cs,hB,kV hR hc⟩)
    (
     fun o V o' a2 _=>by
     obtain rfl:o=⟨px,t,l,z⟩:=by simpa using V
     obtain rfl:o'=⟨px,t,l,z⟩:=by simpa using a2
     rfl)
    ⟨.w (.one (.pt ⟨m,0,rfl⟩ ⟨0,kJ m,rfl,dE _,fun _=>⟨m,rfl,rfl⟩⟩)),aDb aJg hr hv2⟩).mono ?_
   rintro e W ⟨G,⟨Y,rfl,L,a6,_⟩|⟨b1,l2,rfl,H,_⟩⟩;obtain⟨b0,a9,a8⟩:=a6 _ aAw
   obtain⟨H,h2⟩:=h.upd (w':=W) x none d (kJ m) (.box t z) (G.mono fun b _ k=>⟨d,_,D,by rw[E b k];rfl⟩) (fun v hd e=>by rw[D] at e;cases e;exact .inr ⟨rfl,rfl⟩)
    (fun b k=>by cases k;exact⟨aAF O G.size,.inr ⟨d,_,D,rfl⟩⟩)
    (
     fun b3 _=>⟨m,b0,rfl,a9,(a8.le (aAn h G.size)).le ⟨dE _,fun b _ k=>⟨⟨k.1,fun y u i B=>by
     by_cases j:y=x;subst j;have c:Ae env y d (kJ m) y=some (u,i):=B;rw[jA] at c;cases c;exact k.2 y d _ D;have c:Ae env x d (kJ m) y=some (u,i):=B;rw[lT j] at c
     exact k.2 y u i c⟩,rfl⟩,fun y u i B=>by
     by_cases j:y=x;subst j;have c:env y=some (u,i):=B;rw[D] at c;cases c;exact⟨d,_,jA _ _ _ _,dE _,fun _=>rfl⟩
     exact⟨u,i,(lT j).trans B,dE _,fun _=>rfl⟩⟩⟩)
   exact .inl ⟨r,_,Y,_,rfl,hF,H,(L.le (aAn h G.size)).le ⟨dE _,fun b _ k=>⟨⟨k.1,fun y u i B=>by
     by_cases j:y=x;subst j;have c:Ae env y d (kJ m) y=some (u,i):=B;rw[jA] at c;cases c;exact k.2 y d _ D;have c:Ae env x d (kJ m) y=some (u,i):=B;rw[lT j] at c
     exact k.2 y u i c⟩,rfl⟩,fun y u i B=>by
     by_cases j:y=x;subst j;have c:env y=some (u,i):=B;rw[D] at c;cases c;exact⟨d,_,jA _ _ _ _,dE _,fun _=>rfl⟩
     exact⟨u,i,(lT j).trans B,dE _,fun _=>rfl⟩⟩⟩
   exact H.elim
 exact n.elim
def aPq (hist:(je->Option u_)->je->ji->je) (c:(je->Option u_)->je->ji->Option (Prop×PV)):Spec:=fun _ d=>match d with
 | .w (.one .dv)::rest=>(match Hy rest with
  | some b=>.obj dx fun g e f=>kL g (match bz e 0,f with
   |true,.dev O gm l=>(match c O l b with
    |some (p,r)=>.need p (.need (∀ h,l <+: h->h <+: hist O l b->O h=none->gm h) (.upd dx 0 (.dev O gm (hist O l b)) (.ret r)))|none=>.fail)
   |_,_=>.fail)
  |none=>.fail)
 |_=>.fail
theorem aMi{f:Nat}{hist:(je->Option u_)->je->ji->je}{n:(je->Option u_)->je->ji->Option (Prop×PV)}(K:∀ args w,(aAE f args).run P w=.ok (.enter f args) w)
  (hg:∀ O l m p r,n O l m=some (p,r)->p->y_ P I f false [] O (some (l,hist O l m)) (fun h=>l <+: h/\h <+: hist O l m) (.w (.one .dv)::m) r):b_ P I f (aPq hist n):=by
 refine⟨K,fun A s a w env nm a1 T F h d hv c=>?_⟩;unfold aPq at c;split at c
 ·rename_i y;cases V:Hy y with
  |none=>rw[V] at c;exact c.elim| some m=>
   rw[V] at c;obtain⟨gd,vr,ob,t,c⟩:=c;have Z:=dZ c;clear c;obtain⟨H,c⟩:=Z
   cases L:bz vr 0<;>cases ob<;>simp only[L] at c<;>try exact c.elim
   rename_i O gm l;obtain rfl:=iy L;cases W:n O l m with
   |none=>rw[W] at c;exact c.elim| some q=>
    obtain⟨p,r⟩:=q;rw[W] at c;obtain⟨X,D,_,hF⟩:=c;obtain⟨hO,C,j⟩:=h.dev gd 0 O gm l t H;subst hO C;have J:=d.dvh _ _ _ j;obtain⟨hd,he,_⟩:=h.lu dx gd 0 _ t;obtain rfl:=(h.pg dx _ J).2.now he
    match T,hv with
    | v::T,⟨hv1,hv2⟩=>
     have B:v=A.dv.hd:=hv1.P_.now he;have i:∀ b,SX [] (fun _=>0) A.dv b->A.dv.S b:=by rintro b (h|⟨o,G,rfl⟩);exact h;cases G
     refine (hg A.dv.O l m p r W X w (aP A w env).ok (v::T) (fun _=>0) A.dv (ownB A env)
      (fun Q z=>d.mem Q (h.iw.trans' z (fun _ _ h=>h) (fun b _ g=>d.sub b (i b g))))
      (
       fun b g=>by
       have k:=d.old b (d.sub b (i b g));refine⟨aAF k.1 h.iw.size,fun Y=>?_⟩;rcases Y.1 with u|u;exact k.2 u
       omega)
      (d.step.mono fun N k u=>D N k.1 k.2 u) d.DV rfl (fun p X=>by cases X;exact j) (fun h=>by cases h) (fun o G=>by cases G) (fun o G=>by cases G)
      ⟨.w (.one (.dv (by rw[B];exact A.dv.one) ⟨0,A.dv.hd,rfl,dE _,fun _=>B⟩)),aDb aJg V hv2⟩).mono ?_
     rintro e Q ⟨z,⟨U,rfl,E,_,a0⟩|⟨x,N,rfl,k,u,h3⟩⟩;obtain⟨h4,h5⟩:=h.asked (w':=Q) t H d.sub (fun b g=>d.old b (d.sub b g)) (z.mono fun b _ g=>i b g) (a0 _ rfl);exact .inl ⟨r,_,U,env,rfl,hF,h4,E.le (aAn h z.size)⟩;exact .inr ⟨x,rfl,N,D N k.1 k.2 u,u,d.DV _ _ _ _ _ _ h3 (gq.refl _ _) (fun b g=>.inl g),h.iw.trans (z.mono fun b _ g=>d.sub b (i b g))⟩
 exact c.elim
end
end Pv
end Go.Proofs.YtndpjopifkbgiaaGreatDoor
