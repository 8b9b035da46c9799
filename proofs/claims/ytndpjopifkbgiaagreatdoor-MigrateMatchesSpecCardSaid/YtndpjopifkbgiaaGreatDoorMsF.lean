/-
  Several texts in one file: each has its own heading below.
-/
import Derived.Test.YtndpjopifkbgiaaGreatDoorMsE
namespace Go.Proofs.YtndpjopifkbgiaaGreatDoor
open Go.RowKit Tryz
open _root_.Nat renaming beq->bz,mul_le_mul_right->YH,zero_add->lL,min_eq_left->aBo,add_mul->Y8,add_assoc->YM,add_zero->YP,one_mul->Yc,le_refl->dE,blt->XN,mul_one->Y_
open _root_.Go renaming TypeId->bu,Value->ag,run_underlying->zg,Operand->nz,World->ae,execOp->uu,typeInfo->YF,Program->gp
open _root_.List renaming getElem?_take->xe,append_assoc->yl,getElem?_drop->PR,length_take->uk,length_append->ed,drop_of_length_le->aAh,take_append_drop->aBd,ext_getElem?->YE,drop_append->aER,take_of_length_le->IR,nil_append->WF,getElem_range->Yl,length_drop->AC,getElem_map->Yp,ext_getElem->YX,getElem?_append_right->YC,getElem?_append_left->YO,getElem?_cons_zero->YT,singleton_append->aDj,size_toArray->YS,take_append->aED,length_cons->Lt,cons_append->We,length_nil->YN,length_map->Xt,replicate->DD,drop_drop->aAD
open _root_.Array renaming length_toList->mf,getD_eq_getD_getElem?->YR,getElem?_eq_getElem->Yj
open _root_.UInt8 renaming ofNat->ww,toNat_ofNat_of_lt'->aFZ
namespace Pv
abbrev o9(v:ag):PV:=.w (.one (.lit v))
abbrev di(n:Int):PV:=.w (.one (.lit (.int .i64 n)))
abbrev qy(b:Bool):PV:=.w (.one (.lit (.bool b)))
abbrev d_(c:PC):PV:=.w (.one c)
def PW.cells:PW->List PC
 |.one c=>[c]|.agg l=>l
def o_(len:Nat)(f a:Nat->List PC):Nat->List PC:=fun i=>if i<len then f i else a (i-len)
def m_(l:List UInt8):Nat->List PC:=fun i=>[.lit (qj (l.getD i 0))]
def byteAt:List PC->UInt8
 |[.lit (.int _ n)]=>ww n.toNat|_=>0
def isByte:List PC->Bool
 |[.lit (.int .u8 n)]=>decide (0<=n)&&decide (n<256)|_=>false
def rowB(len:Nat)(f:Nat->List PC):List UInt8:=(List.range len).map fun i=>byteAt (f i)
def Ez(len:Nat)(f:Nat->List PC):Prop:=∀ i,i<len->isByte (f i)=true
theorem aQy{l:List PC}(h:isByte l=true):l=[.lit (qj (byteAt l))]:=by
 unfold isByte at h;split at h;rename_i n;rw[Bool.and_eq_true,decide_eq_true_eq,decide_eq_true_eq] at h;have:qj (byteAt [.lit (.int .u8 n)])=.int .u8 n:=by show Value.int .u8 (((ww n.toNat).toNat:Nat):Int)=.int .u8 n;rw[aFZ (show n.toNat<256 by omega)];congr 1;omega
 rw[this];cases h
theorem Ov(b:UInt8):ww ((b.toNat:Int)).toNat=b:=by simp
theorem aKf(l:List UInt8)(i:Nat):byteAt (m_ l i)=l.getD i 0:=Ov _
theorem aJq(l:List UInt8)(i:Nat):isByte (m_ l i)=true:=by show (decide (0<=(((l.getD i 0).toNat:Nat):Int))&&decide ((((l.getD i 0).toNat:Nat):Int)<256))=true;have:=(l.getD i 0).toNat_lt;rw[Bool.and_eq_true,decide_eq_true_eq,decide_eq_true_eq];omega
@[simp] theorem ZA(n:Nat)(l:List UInt8):Ez n (m_ l):=fun i _=>aJq l i
theorem dQ(n:Nat)(f:Nat->List PC):(rowB n f).length=n:=by simp[rowB]
@[simp] theorem dY(l:List UInt8):rowB l.length (m_ l)=l:=by apply YX (dQ _ _);intro i b a;simp only[rowB,Yp,Yl,aKf];rw[zG,zH a];rfl
theorem lY{n:Nat}{l:List UInt8}(h:l.length=n):rowB n (m_ l)=l:=by subst h;exact dY l
@[simp] theorem ZB{a b:Nat}{f g:Nat->List PC}:Ez (a+b) (o_ a f g)↔Ez a f/\Ez b g:=by
 constructor;intro h
 refine⟨fun i c=>?_,fun i c=>?_⟩;have:=h i a_;unfold o_ at this;rwa [if_pos c] at this;have:=h (a+i) a_;unfold o_ at this;rwa [if_neg a_,show a+i-a=i from by omega] at this;rintro⟨e,d⟩ i c;unfold o_;split;exact e i ou;exact d _ a_
@[simp] theorem aAK(a b:Nat)(f g:Nat->List PC):rowB (a+b) (o_ a f g)=rowB a f++rowB b g:=by
 apply YX (by simp[dQ]);intro i d c;rw[List.getElem_append];simp only[rowB,Yp,Yl,Xt,List.length_range];unfold o_
 split<;>rfl
theorem aEy{C:Ctx}{len:Nat}{f:Nat->List PC}{vs:List ag}(hl:vs.length=len*1)(h:∀ i,i<len->RL C (f i) ((vs.drop (i*1)).take 1))(hb:Ez len f):vs=(rowB len f).map qj:=by
 apply YX (by simp[dQ,hl]);intro i g j;have b:i<len:=by omega
 have d:=h i b;rw[aQy (hb i b)] at d;have c:=d.single;generalize e:(vs.drop (i*1)).take 1=q at c;cases c;have a:=congrArg (·[0]?) e;simp only[xe,PR,Y_,YP,YT] at a;rw[if_pos a_,zH g] at a;simp only[rowB,List.map_map,Yp,Yl,Function.comp];exact Option.some.inj a
section
variable (P:gp)
def ql(t:bu):Option Nat:=(P.info? t).map (·.size)
def iT(t:bu):Option Bool:=match P.underlying t with
 |some (.struct _)=>some true|some (.array _ _)=>some true|some _=>some false|none=>none
def BV(t:bu)(l:List PC):Option PW:=match iT P t with
 |none=>none|some true=>some (.agg l)| some false=>match l with
  |[c]=>(match bz c.width 1 with
   |true=>some (.one c)|false=>none)
  |_=>none
def shapeOf:Nat->bu->Option (List Nat)
 |0,_=>none| d+1,t=>match P.underlying t with
  |some (.struct b)=>b.toList.foldr (fun f a=>match shapeOf d f.type,a with|some x,some y=>some (x++y)|_,_=>none) (some [])
  | some (.array n e)=>(match P.underlying e with
   |some (.int .u8)=>some [n]|_=>match shapeOf d e with
    |some x=>some (List.flatten (DD n x))|none=>none)
  |some _=>some [0]|none=>none
def byteOf:ag->Option UInt8
 |.int .u8 n=>if n=((ww n.toNat).toNat:Int) then some (ww n.toNat) else none|_=>none
def kC:Nat->List ag->Option (List UInt8)
 |0,_=>some []|n+1,v::l=>match byteOf v,kC n l with
  |some b,some bs=>some (b::bs)|_,_=>none
 |_+1,[]=>none
def pack:List Nat->List ag->Option (List PC)
 |[],[]=>some []|[],_::_=>none|0::sh,v::l=>if v.oneCell'=true then (match pack sh l with|some r=>some (.lit v::r)|none=>none) else none
 |0::_,[]=>none|(n+1)::sh,l=>match kC (n+1) l,pack sh (l.drop (n+1)) with
  |some bs,some r=>some (.bs (n+1) bs::r)|_,_=>none
def Xi(t:bu):Option (List PC):=match (P.info? t).bind (·.zero),shapeOf P 8 t with
 |some z,some a=>pack a z.cells.toList|_,_=>none
def splice:List PC->Nat->List PC->Option (List PC)
 |l,0,m=>match Aq l (widths m) with
  |some r=>some (m++r)|none=>none
 |[],_+1,_=>none|c::l,off+1,m=>if c.width<=off+1 then (match splice l (off+1-c.width) m with|some r=>some (c::r)|none=>none) else none
where
 Aq:List PC->Nat->Option (List PC)
  |l,0=>some l
  |[],_+1=>none
  |c::l,n+1=>if c.width<=n+1 then Aq l (n+1-c.width) else none
def xu:List PC->Nat->Option (Nat×List UInt8)
 |.bs n l::_,0=>some (n,l)|_,0=>none|[],_+1=>none|c::l,off+1=>if c.width<=off+1 then xu l (off+1-c.width) else none
def ZP:List PC->Nat->List UInt8->List PC
 |.bs n _::l,0,m=>.bs n m::l|l,0,_=>l|[],_+1,_=>[]|c::l,off+1,m=>c::ZP l (off+1-c.width) m
def TD (t:bu):Option (Nat×Nat×Nat):=match P.underlying t with
 | some (.slice e)=>(match P.info? e with
  | some i=>(match i.zero with
   |some z=>(match bz z.cells.size i.size,XN 0 i.size,XN 0 i.bytes with
    |true,true,true=>some (e,i.size,i.bytes)|_,_,_=>none)
   |none=>none)
  |none=>none)
 |_=>none
def zi(x:nz)(k:PV->M):M:=match x with
 |.tmp t=>.tmp t fun g v=>match g with
  |none=>k v|some b=>.need (b=true) (k v)
 |.const (.agg _)=>.fail|.const (.tuple _)=>.fail|.const v=>k (o9 v)|.global g=>k (o9 (.pointer (some ⟨g,0,none⟩)))|.func f=>k (o9 (.func (.func f) #[] #[]))
def Ws(h:Prop)(x:nz)(k:PV->M):M:=match x with
 |.tmp t=>.tmp t fun g v=>match g with
  |none=>k v|some b=>.need (h->b=true) (k v)
 |.const (.agg _)=>.fail|.const (.tuple _)=>.fail|.const v=>k (o9 v)|.global g=>k (o9 (.pointer (some ⟨g,0,none⟩)))|.func f=>k (o9 (.func (.func f) #[] #[]))
def bLt:List nz->(List PV->M)->M
 |[],k=>k []|x::l,k=>zi x fun v=>bLt l fun a=>k (v::a)
def Zj{a:Type}:Sem a->Option a
 |.pure v=>some v|.program k=>Zj (k P)|_=>none
def isLit:PV->Option ag
 |.w (.one (.lit v))=>some v|_=>none
def jV(g:Option Bool)(k:M):M:=match g with
 |none=>k|some b=>.need (b=true) k
abbrev Spec:=Nat->List PV->M
abbrev Specs:=Nat->Option Spec
def PO(x:Option PW):M:=match x with
 |some x=>.ret (.w x)|none=>.fail
def Eb(x:Option ag):M:=match x with
 |some v=>(match v.oneCell' with
  |true=>.ret (o9 v)|false=>.fail)
 |none=>.fail
def bFa(x:Option PW)(k:PW->M):M:=match x with
 |some x=>k x|none=>.fail
def JE:List PC->Option (Nat×List UInt8)
 |[.bs n l]=>some (n,l)|_=>none
def EO (t:bu) (p:PV) (k:PW->M):M:=match p with
 | .w (.one (.pt x a b))=>.obj x fun g c d=>jV g (match bz a c,d,ql P t with
  |true,.box _ l,some n=>(match rE l b n with
   |some m=>bFa (BV P t m) k|none=>.fail)
  |_,_,_=>.fail)
 | .w (.one (.pk x a b h))=>.obj x fun g c d=>jV g (match bz a c,d,iT P t with
  |true,.box _ l,some false=>(match xu l b with
   |some (n,bs)=>.need (h<n) (k (.one (.lit (qj (bs.getD h 0)))))|none=>.fail)
  |_,_,_=>.fail)
 | .w (.one (.pe x a n i j))=>.obj x fun g c d=>jV g (match bz a c,d,ql P t with
  |true,.arr _ o len f,some sz=>(match bz n o,rE (f i) j sz with
   |true,some m=>.need (i<len) (bFa (BV P t m) k)|_,_=>.fail)
  |_,_,_=>.fail)
 | .w (.one (.pf _ _ f i j))=>(match ql P t with
  | some sz=>(match JE (f i),bz sz 1,iT P t with
   |some (n,bs),true,some false=>.need (j<n) (k (.one (.lit (qj (bs.getD j 0)))))|_,_,_=>(match rE (f i) j sz with
    |some m=>bFa (BV P t m) k|none=>.fail))
  |none=>.fail)
 | .w (.one (.pa len f))=>(match P.underlying t with
  | some (.array n e)=>(match ql P t,ql P e with
   |some m,some 1=>(match bz m n with
    |true=>.need (n<=len/\Ez n f) (bFa (BV P t [.bs n (rowB n f)]) k)|false=>.fail)
   |_,_=>.fail)
  |_=>.fail)
 |_=>.fail
def U2(t:bu)(p:PV):M:=EO P t p fun x=>.ret (.w x)
def bFr (t:bu) (p v:PV):M:=match v with
 | .w o=>(match ql P t with
  | some sz=>(match bz sz (widths o.cells) with
   | true=>(match p with
    | .w (.one (.pt x a c))=>.obj x fun g d h=>jV g (match bz a d,h with
     |true,.box bt l=>(match splice l c o.cells with
      |some l'=>.upd x d (.box bt l') (.ret .none)|none=>.fail)
     |_,_=>.fail)
    | .w (.one (.pk x a c k))=>.obj x fun g d h=>jV g (match bz a d,h,o with
     |true,.box bt l,.one (.lit (.int .u8 b))=>(match xu l c with
      |some (n,bs)=>.need (k<n/\0<=b/\b<256) (.upd x d (.box bt (ZP l c (bs.set k (ww b.toNat)))) (.ret .none))|none=>.fail)
     |_,_,_=>.fail)
    | .w (.one (.pe x a n i j))=>.obj x fun g d h=>jV g (match bz a d,h with
     |true,.arr e r len f=>(match bz n r,splice (f i) j o.cells with
      |true,some m=>.need (i<len) (.upd x d (.arr e n len (fun q=>if q=i then m else f q)) (.ret .none))|_,_=>.fail)
     |_,_=>.fail)
    |_=>.fail)
   |false=>.fail)
  |none=>.fail)
 |_=>.fail
def aCg (t:bu) (p:PV) (f:Nat):M:=match P.underlying t with
 | some (.struct d)=>(match d[f]? with
  | some b=>(match ql P b.type with
   |some (_+1)=>(match p with
    |.w (.one (.pt x a c))=>.ret (d_ (.pt x a (c+b.offset)))|.w (.one (.pe x a n i j))=>.ret (d_ (.pe x a n i (j+b.offset)))|.w (.one (.pf n len f i j))=>.ret (d_ (.pf n len f i (j+b.offset)))|_=>.fail)
   |_=>.fail)
  |none=>.fail)
 |_=>.fail
def aCb (t:bu) (p:PV) (i:PV):M:=match isLit i with
 | some (.int _ i)=>(match P.underlying t with
  | some (.slice e)=>(match p with
   | .w (.one (.sl n len f))=>(match ql P e with
    |some c=>(match bz n c with
     |true=>.need (0<=i/\i<len) (.ret (d_ (.pf n len f i.toNat 0)))|false=>.fail)
    |none=>.fail)
   | .w (.one (.ow x a n b len))=>(match ql P e with
    | some c=>(match bz n c with
     |true=>.obj x fun g d h=>jV g (match bz a d,h with
      |true,.arr _ _ _ _=>.need (0<=i/\i<len) (.ret (d_ (.pe x a n (b+i.toNat) 0)))|_,_=>.fail)
     |false=>.fail)
    |none=>.fail)
   |_=>.fail)
  |some (.array n e)=>(match ql P e,p with
   |some 1,.w (.one (.pt x a b))=>.need (0<=i/\i<n) (.ret (d_ (.pk x a b i.toNat)))|some 1,.w (.one (.pf k len f l j))=>.need (0<=i/\i<n) (.ret (d_ (.pf k len f l (j+i.toNat))))|some (m+2),.w (.one (.pt x a b))=>.need (0<=i/\i<n) (.ret (d_ (.pt x a (b+i.toNat*(m+2)))))|_,_=>.fail)
  |_=>.fail)
 |_=>.fail
def bLo (t:bu) (v:PV) (f:Nat):M:=match P.underlying t with
 | some (.struct b)=>(match b[f]? with
  | some a=>(match ql P a.type,v with
   |some n,.w (.agg l)=>(match rE l a.offset n with
    |some m=>PO (BV P a.type m)|none=>.fail)
   |_,_=>.fail)
  |none=>.fail)
 |_=>.fail
def ZX:List (Nat×Nat)->List (Nat×PV)->List PC->Option (List PC)
 |_,[],l=>some l| places,(i,v)::ps,l=>match v,places[i]? with
  |.w b,some (a,n)=>(match bz n (widths b.cells),splice l a b.cells with
   |true,some l'=>ZX places ps l'|_,_=>none)
  |_,_=>none
def bNx(t:bu)(vs:List (Nat×PV))(l:List PC):M:=match P.underlying t with
 | some (.struct d)=>(match d.toList.mapM (fun f=>(P.info? f.type).map fun i=>(f.offset,i.size)) with
  |some a=>(match ZX a vs l with
   |some l'=>.ret (.w (.agg l'))|none=>.fail)
  |none=>.fail)
 | some (.array _ e)=>(match ql P e,l with
  |some 1,[.bs n bs]=>(match vs with
   |[]=>.ret (.w (.agg [.bs n bs]))|[(i,.w (.one (.lit (.int .u8 b))))]=>.need (i<n/\0<=b/\b<256) (.ret (.w (.agg [.bs n (bs.set i (ww b.toNat))])))|[(i,.w (.one (.lit (.int .u8 b)))),(j,.w (.one (.lit (.int .u8 c))))]=>.need (i<n/\j<n/\0<=b/\b<256/\0<=c/\c<256) (.ret (.w (.agg [.bs n ((bs.set i (ww b.toNat)).set j (ww c.toNat))])))|_=>.fail)
  |_,_=>.fail)
 |_=>.fail
def Xf(n:Nat):Nat->List (Nat×PV)->Option (List (List PC))
 |_,[]=>some []| k,(i,v)::ps=>match bz i k,v,Xf n (k+1) ps with
  |true,.w a,some r=>(match bz (widths a.cells) n with
   |true=>some (a.cells::r)|false=>none)
  |_,_,_=>none
def zT(b:Nat)(t:bu)(len:Nat)(a:List (Nat×PV)):M:=match TD P t with
 |
  some (e,n,_)=>(match Xf n 0 a,bz a.length len,Nat.ble (len*n) 16777216 with
  |some l,true,true=>.new b (.arr e n len (fun i=>l.getD i [])) fun v=>.ret (d_ (.ow b v n 0 len))|_,_,_=>.fail)
 |none=>.fail
def Eu(d:Int)(x:Option PV)(k:Int->M):M:=match x with
 |none=>k d|some v=>(match isLit v with
  |some (.int _ i)=>k i|_=>.fail)
def bFy (t:bu) (p:PV) (d j:Option PV):M:=
 match P.underlying t with
 |some .string=>(match p with
  |.w (.one (.lit (.string b)))=>Eu 0 d fun l=>Eu (b.size:Int) j fun h=>.need (0<=l/\l<=h/\h<=(b.size:Int)) (.ret (o9 (.string (b.extract l.toNat h.toNat))))|_=>.fail)
 | some (.slice e)=>(match p with
  | .w (.one (.sl n len f))=>(match ql P e with
   |some q=>(match bz n q with
    |true=>Eu 0 d fun l=>Eu len j fun h=>.need (0<=l/\l<=h/\h<=len) (.ret (d_ (.sl n (h-l).toNat (fun i=>f (l.toNat+i)))))|false=>.fail)
   |none=>.fail)
  |_=>.fail)
 | some (.array n e)=>(match ql P e,p,d,j with
  | some 1,.w (.one (.pt x a c)),none,none=>.obj x fun g k o=>jV g (match bz a k,o with
   | true,.box _ l=>(match xu l c with
    |some (m,_)=>(match bz m n,Nat.ble n 65536 with
     |true,true=>.ret (d_ (.ob x a c n))|_,_=>.fail)
    |none=>.fail)
   |_,_=>.fail)
  |_,_,_,_=>.fail)
 |_=>.fail
def Vr(t:bu)(v:PV):M:=match P.underlying t,v with
 |some (.slice _),.w (.one (.sl _ len _))=>.ret (di len)|some (.slice _),.w (.one (.ow _ _ _ _ len))=>.ret (di len)|some (.slice _),.w (.one (.ob _ _ _ len))=>.ret (di len)|some (.slice _),.w (.one (.lit (.slice none 0 0)))=>.ret (di 0)|some .string,.w (.one (.lit (.string s)))=>.ret (di s.size)|_,_=>.fail
def GU(n:Nat)(v:PV)(k:Nat->(Nat->List PC)->M):M:=match v with
 |.w (.one (.sl h len f))=>(match bz n h with
  |true=>k len f|false=>.fail)
 | .w (.one (.ow x b h a len))=>.obj x fun g c e=>jV g (match bz b c,bz n h,e with
  |true,true,.arr _ m d f=>(match bz n m with
   |true=>.need (a+len<=d) (k len (fun i=>f (a+i)))|false=>.fail)
  |_,_,_=>.fail)
 | .w (.one (.ob x b a len))=>.obj x fun g c e=>jV g (match bz b c,bz n 1,e with
  |true,true,.box _ l=>(match xu l a with
   |some (m,bs)=>.need (len<=m) (k len (fun i=>[.lit (qj (bs.getD i 0))]))|none=>.fail)
  |_,_,_=>.fail)
 |.w (.one (.lit (.slice none 0 0)))=>k 0 (fun _=>[])|_=>.fail
def Xc (v:PV) (k:List UInt8->M):M:=match v with
 |.w (.one (.sl n len f))=>(match bz n 1 with
  |true=>.need (Ez len f) (k (rowB len f))|false=>.fail)
 | .w (.one (.ow x a n b len))=>.obj x fun g c e=>jV g (match bz a c,bz n 1,bz b 0,e with
  |true,true,true,.arr _ m d f=>(match bz n m with
   |true=>.need (len<=d/\Ez len f) (k (rowB len f))|false=>.fail)
  |_,_,_,_=>.fail)
 | .w (.one (.ob x a b len))=>.obj x fun g c e=>jV g (match bz a c,e with
  | true,.box _ l=>(match xu l b with
   |some (m,bs)=>(match bz len m with
    |true=>k bs|false=>.fail)
   |none=>.fail)
  |_,_=>.fail)
 |.w (.one (.lit (.slice none 0 0)))=>k []|_=>.fail
def aWp (i:Nat) (t:bu) (s x:PV):M:=match TD P t with
 |
  some (e,n,c)=>(match s with
  | .w (.one (.ow y b o d len))=>.obj y fun g j l=>jV g (match bz b j,bz n o,bz d 0,l with
   |true,true,true,.arr p m a f=>(match bz n m,bz e p&&XN e Eg with
    |true,true=>.need (len=a) (GU n x fun k h=>.need ((a+k)*c<=140737488355328) (.upd y (b+1) (.arr e n (a+k) (o_ a f h)) (.ret (d_ (.ow y (b+1) n 0 (a+k))))))|_,_=>.fail)
   |_,_,_,_=>.fail)
  |.w (.one (.lit (.slice none 0 0)))=>GU n x fun k h=>.need (k*c<=140737488355328) (.new i (.arr e n k h) fun v=>.ret (d_ (.ow i v n 0 k)))|_=>.fail)
 |none=>.fail
def Z5(e:bu):Bool:=match P.info? e with
 |some i=>(match i.zero with
  |some (.int .u8 0)=>true|_=>false)
 |none=>false
def Dl(n:Nat):ByteArray:=⟨(DD n (0:UInt8)).toArray⟩
def aZv(e:bu)(s:PV)(b:ByteArray):M:=match s with
 | .w (.one (.ow y c j d len))=>.obj y fun g h i=>jV g (match bz c h,bz 1 j,bz d 0,i with
  |true,true,true,.arr k m a f=>(match bz 1 m,bz e k&&XN e Eg,Z5 P e with
   |true,true,true=>.need (len=a/\a+b.size<=140737488355328) (.upd y (c+1) (.arr e 1 (a+b.size) (o_ a f (m_ b.data.toList))) (.ret (d_ (.ow y (c+1) 1 0 (a+b.size)))))|_,_,_=>.fail)
  |_,_,_,_=>.fail)
 |_=>.fail
def aWq(_nm:Nat)(t u:bu)(s x:PV):M:=match TD P t,P.underlying u,x with
 |some (e,1,1),some .string,.w (.one (.lit (.string b)))=>aZv P e s b|some (e,1,1),some (.int _),.w (.one (.lit (.int .i64 n)))=>(match P.underlying 9 with
  |some .string=>.need (0<=n) (aZv P e s (Dl n.toNat))|_=>.fail)
 |_,_,_=>.fail
def Uw(r:Option jh):PV:=.w (.agg [.lit (.int .i64 (r.getD ⟨0,aH⟩).val),.lit (.string (r.getD ⟨0,aH⟩).bytes)])
def aDV(c:Acc):M:=.obj dx fun g a b=>jV g (match bz a 0,b with
 |true,.dev O dw l=>.need (O (l++[c])=none->dw (l++[c])) (.upd dx 0 (.dev O dw (l++[c])) (.ret (Uw (O (l++[c])))))|_,_=>.fail)
def doM(xs:List PV):M:=match xs with
 |[.w (.agg [.lit (.int .i64 k),.lit (.int .i64 b),.lit (.int .i64 c),.lit (.string x)])]=>(match decide (k = -1) with
  |true=>.fail|false=>aDV ⟨k,b,c,x⟩)
 |_=>.fail
def Nc(G:Specs)(b:Nat)(e:PV)(xs:List PV):M:=match e with
 |.w (.one .dv)=>doM xs| .w (.one (.lit (.func (.func f) first cap)))=>(match first.toList,cap.toList,G f with
  |[],[],some a=>a b xs|[.agg d],[],some a=>(match d.toList.all (·.oneCell') with
   |true=>a b (.w (.agg (d.toList.map .lit))::xs)|false=>.fail)
  |_,_,_=>.fail)
 |.w (.one (.fn (.func f) first cap))=>(match G f,first.all (fun c=>bz c.width 1),cap.all (fun c=>bz c.width 1) with
  |some a,true,true=>a b (first.map d_++xs++cap.map d_)
  |_,_,_=>.fail)
 |_=>.fail
def aQr:List PC->Option (List ag)
 |[]=>some []|.lit v::l=>(match aQr l with
  |some r=>some (v::r)|none=>none)
 |_::_=>none
def bJu:List PV->Option (List ag)
 |[.w (.agg l)]=>aQr l|_=>none
def Ph(x:PV):Option PC:=match x with
 |.w (.one c)=>some c|_=>none
def FK:List PV->Option (List PC)
 |[]=>some []|v::l=>match Ph v,FK l with
  |some c,some r=>some (c::r)|_,_=>none
def Fz:PV->Nat->Option PW
 |.lu l,i=>l[i]?|_,_=>none
def aNf:List (Nat×nz)->(List (Nat×PV)->M)->M
 |[],k=>k []|(i,x)::l,k=>zi x fun v=>aNf l fun a=>k ((i,v)::a)
def MP(x:Option nz)(k:Option PV->M):M:=match x with
 |none=>k none|some x=>zi x fun v=>k (some v)
def ZG:Nat->bu->List PC->List PC->Option Bool
 |0,_,_,_=>none| d + 1,t,l,m=>match P.underlying t with
  |some (.int _)=>(match l,m with
   |[.lit (.int k a)],[.lit (.int i b)]=>if k=i then some (a==b) else none|_,_=>none)
  |some .string=>(match l,m with
   |[.lit (.string a)],[.lit (.string b)]=>some (a.toList==b.toList)|_,_=>none)
  |some .bool=>(match l,m with
   |[.lit (.bool a)],[.lit (.bool b)]=>some (a==b)|_,_=>none)
  | some (.array n e)=>(match P.underlying e,ql P e,l,m with
   |some (.int .u8),some 1,[.bs h a],[.bs g b]=>(match bz n h,bz n g with
    |true,true=>some (a==b)|_,_=>none)
   |_,_,_,_=>none)
  | some (.struct j)=>(match P.stoodInHeld t with
   | false=>j.toList.foldr (fun f c=>match c,f.name != "_",ql P f.type with
    | some r,true,some n=>(match rE l f.offset n,rE m f.offset n with
     |some x,some y=>(match BV P f.type x,BV P f.type y,ZG d f.type x y with
      |some _,some _,some q=>some (q&&r)|_,_,_=>none)
     |_,_=>none)
    |_,_,_=>none) (some true)
   |true=>none)
  |_=>none
def aYt(t:bu)(k:M):M:=match P.underlying t with
 |some (.array _ _)=>(match P.eqGuardType P.depth t with|false=>k|true=>.fail)
 |_=>.need (P.eqGuardType P.depth t=false) k
def XK(op:BinOp)(t:bu)(x y:nz)(a b:PV):M:=match a,b with
 |.w (.one (.lit d)),.w (.one (.lit c))=>(match op,d,c with
  |.quo,.int k m,.int e n=>if k=e then .need (n≠0) (.ret (o9 (.int k (k.wrap (m.tdiv n))))) else .fail
  |.rem,.int k m,.int e n=>if k=e then .need (n≠0) (.ret (o9 (.int k (m.tmod n)))) else .fail
  |.shl,.int k m,.int _ n=>.need (0<=n) (.ret (o9 (.int k (k.wrap (m*2 ^ (min n.toNat k.bits))))))
  |.shr,.int k m,.int _ n=>.need (0<=n) (.ret (o9 (.int k (m.fdiv (2 ^ (min n.toNat k.bits))))))
  |.add,.string m,.string n=>.need ((m.size+n.size:Nat)<=9223372036854775807) (.ret (o9 (.string (m++n))))
  |op,d,c=>Eb (Zj P (do eqGuard op t x y d c;binOp op t d c)))
 |.w (.agg l),.w (.agg m)=>(match op,ZG P 8 t l m,iT P t with
  |.eql,some r,some true=>aYt P t (.ret (qy r))
  |.neq,some r,some true=>aYt P t (.ret (qy (!r)))
  |_,_,_=>.fail)
 |.w (.one (.sl _ len _)),.w (.one (.lit (.slice none 0 0)))=>(match op,P.underlying t with
  |.eql,some (.slice _)=>.need (0<len) (.ret (qy false))
  |.neq,some (.slice _)=>.need (0<len) (.ret (qy true))
  |_,_=>.fail)
 |_,_=>.fail
def Tj(c a b:nz):M:=zi c fun d=>match d with
 |.w (.one (.lit (.bool h)))=>Ws (h=true) a fun f=>Ws (h=false) b fun e=>(match f,e with
  |.w (.one (.lit (.bool x))),.w (.one (.lit (.bool y)))=>.ret (qy (bif h then x else y))|_,_=>.fail)
 |_=>.fail
def Q_:Nat:=0
def NU(own:Bool)(a:Nat)(src dst:bu)(v:PV):M:=match P.underlying src,P.underlying dst with
 | some .string,some (.slice e)=>(match P.underlying e,v with
  |some (.int .u8),.w (.one (.lit (.string b)))=>(match own with
   |false=>.need (b.size<=9223372036854775807) (.ret (d_ (.sl 1 b.size (m_ b.data.toList))))|true=>.need (b.size<=9223372036854775807) (.new a (.arr Eg 1 b.size (m_ b.data.toList)) fun v=>.ret (d_ (.ow a v 1 0 b.size))))
  |_,_=>.fail)
 |some (.slice e),some .string=>(match P.underlying e with
  |some (.int .u8)=>Xc v fun l=>.ret (o9 (.string ⟨l.toArray⟩))|_=>.fail)
 |_,_=>(match isLit v with
  |some u=>Eb (Zj P (convert src dst u))|none=>.fail)
def Ju(b:Nat)(t:bu)(l c:PV):M:=match TD P t,isLit l,isLit c with
 |some (e,n,a),some (.int _ l),some (.int _ c)=>(match Xi P e with
  |some z=>.need (0<=l/\l<=c/\(a:Int)*c<=140737488355328) (.new b (.arr e n l.toNat (fun _=>z)) fun v=>.ret (d_ (.ow b v n 0 l.toNat)))|none=>.fail)
 |_,_,_=>.fail
def XB(k:Nat)(f a:Nat->List PC):Nat->List PC:=fun i=>if i<k then a i else f i
def NT(t:bu)(x y:PV):M:=match TD P t,x with
 | some (e,n,_),.w (.one (.ow z b i c len))=>.obj z fun g d h=>jV g (match bz b d,bz n i,bz c 0,h with
  |true,true,true,.arr l m a f=>(match bz n m,bz e l&&XN e Eg with
   |true,true=>.need (len=a) (GU n y fun k j=>.upd z b (.arr e n a (XB (min k a) f j)) (.ret (di (min k a:Nat))))|_,_=>.fail)
  |_,_,_,_=>.fail)
 |_,_=>.fail
def bKp:PV->Bool
 |.w (.one (.pt _ _ _))=>true|.w (.one (.pk _ _ _ _))=>true|.w (.one (.pe _ _ _ _ _))=>true|.w (.one (.pf _ _ _ _ _))=>true|.w (.one (.pa _ _))=>true|_=>false
def aNq(t:bu)(v:PV):M:=match P.underlying t,v with
 |some (.array n e),.w (.one (.sl k len f))=>(match ql P e,bz k 1 with
  |some 1,true=>.need (n<=len/\0<len) (.ret (d_ (.pa len f)))|_,_=>.fail)
 |_,_=>.fail
def VU(a b:PV):M:=match a,b with
 |.w (.one (.lit (.int k m))),.w (.one (.lit (.int c n)))=>if k=c then .ret (o9 (.int k (min m n))) else .fail|_,_=>.fail
def Vf(a b:PV):M:=match a,b with
 |.w (.one (.lit (.int k m))),.w (.one (.lit (.int c n)))=>if k=c then .ret (o9 (.int k (max m n))) else .fail|_,_=>.fail
def body(G:Specs)(nm:Nat)(o:Oper):M:=match o.op with
 |.move x=>zi x fun v=>.ret v|.assign x=>zi x fun v=>.ret v|.pick c a b=>Tj c a b|.alloc t=>(match Xi P t with
  |some l=>.new nm (.box t l) fun v=>.ret (d_ (.pt nm v 0))|none=>.fail)
 | .box t x=>zi x fun v=>(match v,ql P t with
  |.w pw,some n=>(match bz n (widths pw.cells) with
   |true=>.new nm (.box t pw.cells) fun v=>.ret (d_ (.pt nm v 0))|false=>.fail)
  |_,_=>.fail)
 |.load t p=>zi p fun p=>U2 P t p|.store t p v=>zi p fun p=>zi v fun v=>bFr P t p v|.fieldAddr t p f=>zi p fun p=>aCg P t p f|.indexAddr t p i=>zi p fun p=>zi i fun i=>aCb P t p i|.field t v f=>zi v fun v=>bLo P t v f|.extract v i=>zi v fun v=>PO (Fz v i)|.build t ps=>aNf ps.toList fun vs=>(match Xi P t with
  |some l=>bNx P t vs l|none=>.fail)
 |.buildSlice t n ps=>aNf ps.toList fun vs=>zT P nm t n vs|.slice t p lo hi none=>zi p fun p=>MP lo fun lo=>MP hi fun hi=>bFy P t p lo hi|.binOp op t x y _=>zi x fun a=>zi y fun b=>XK P op t x y a b|.unOp op _ x=>zi x fun a=>(match isLit a with
  |some v=>Eb (Zj P (Op.unary op v))|none=>.fail)
 |.convert src dst x=>zi x fun a=>NU P (G Q_).isSome nm src dst a|.makeSlice t l c=>zi l fun l=>zi c fun c=>Ju P nm t l c| .call { callee:=.builtin .copy,args,argTypes }=>(match args.toList,argTypes.toList with
  |[x,y],[t,t']=>(match bz t t' with
   |true=>zi x fun x=>zi y fun y=>NT P t x y|false=>.fail)
  |_,_=>.fail)
 |.nilCheck x=>zi x fun v=>(match bKp v with
  |true=>.ret v|false=>.fail)
 |.sliceToArrayPointer t x=>zi x fun v=>aNq P t v|.call { callee:=.builtin .min,args,.. }=>(match args.toList with
  |[x,y]=>zi x fun x=>zi y fun y=>VU x y|_=>.fail)
 |.call { callee:=.builtin .max,args,.. }=>(match args.toList with
  |[x,y]=>zi x fun x=>zi y fun y=>Vf x y|_=>.fail)
 | .makeFunc fn first cap=>bLt first.toList fun fs=>bLt cap.toList fun cs=>(match FK fs,FK cs with
  |some fs,some cs=>.ret (d_ (.fn fn fs cs))|none,some []=>(match bJu fs with
   |some l=>.ret (o9 (.func fn #[.agg l.toArray] #[]))|none=>.fail)
  |_,_=>.fail)
 |.call { callee:=.value f,args,.. }=>zi f fun fv=>bLt args.toList fun xs=>Nc G nm fv xs|.call { callee:=.builtin .len,args,argTypes }=>(match args.toList,argTypes.toList with
  |[x],[t]=>zi x fun v=>Vr P t v|_,_=>.fail)
 | .call { callee:=.builtin .append,args,argTypes }=>(match args.toList,argTypes.toList with
  |[s,x],[t,t']=>(match bz t t' with
   |true=>zi s fun s=>zi x fun x=>aWp P nm t s x|false=>zi s fun s=>zi x fun x=>aWq P nm t t' s x)
  |_,_=>.fail)
 |_=>.fail
def PS:List ResultVar->(List PW->M)->M
 |[],k=>k []|.tmp t::l,k=>zi (.tmp t) fun v=>(match v with
  |.w x=>PS l fun b=>k (x::b)|_=>.fail)
 |.cell a t::l,k=>zi (.tmp a) fun p=>EO P t p fun x=>PS l fun b=>k (x::b)
def AA(rs:Array ResultVar):M:=PS P rs.toList fun a=>(match a with
 |[x]=>.ret (.w x)|a=>.ret (.lu a))
def Iu(a b:Bool):Bool:=match a with
 |true=>b|false=>!b
def Sr(G:Specs)(rid:Nat)(ops:List Oper)(i:Nat)(o:Oper):M:=match o.guard with
 |none=>body P G (rid*1000+i) o| some (j,pol)=>(match (ops[j]?).bind (·.dst) with
  |some tj=>.tmp tj fun g v=>(match g,v with
   |none,.w (.one (.lit (.bool b)))=>.gate (Iu pol b) (body P G (rid*1000+i) o)|some b0,.w (.one (.lit (.bool b)))=>.gate (b0&&Iu pol b) (body P G (rid*1000+i) o)|_,_=>.fail)
  |none=>.fail)
end
end Pv
namespace Pv
theorem iq{a b:Nat}(h:bz a b=true):a=b:=Nat.eq_of_beq_eq_true h
section
variable {P:gp} {A:n_} {s:St} {a:Act} {w:ae} {env:Env}
def Fin(A:n_)(s:St)(a:Act)(o:Oper)(K:Act->ae->Prop)(F:Option Bool->PV->Wr->Prop):Prop:=∀ v wr c d b,F none v wr->gu A { s with o:=wr++s.o } a d b->RV (aT A d b) v c->K (a.put o.dst c) d
theorem Fin.same{o:Oper}{K:Act->ae->Prop}{F:Option Bool->PV->Wr->Prop}(c:Fin A s a o K F)(h:gu A s a w env){v:PV}{val:ag}(d:F none v [])(b:RV (aT A w env) v val):K (a.put o.dst val) w:=c v [] val w env d h b
theorem iG(h:gu A s a w env){x:nz}{k:PV->M}{F:Option Bool->PV->Wr->Prop}(c:(zi x k).ok none s F):∃ pv,RV (aT A w env) pv (a.eval x)/\(k pv).ok none s F:=by
 cases x with
 | tmp t=>
  obtain⟨g,v,l,c⟩:=c;have d:gT g->∃ pv,RV (aT A w env) pv (a.eval (.tmp t))/\pv=v:=fun j=>by obtain⟨i,e,m⟩:=h.tmps t g v l j;refine⟨v,?_,rfl⟩;simp only[Act.eval];rw[YR,e];exact m
  cases g with
  |none=>obtain⟨pv,e,rfl⟩:=d trivial;exact⟨pv,e,c⟩
  |some b=>obtain⟨pv,e,rfl⟩:=d c.1;exact⟨pv,e,c.2⟩
 |const v=>cases v<;>first|exact c.elim|exact⟨_,.w (.one (.lit rfl)),c⟩
 |global g=>exact⟨_,.w (.one (.lit rfl)),c⟩|func f=>exact⟨_,.w (.one (.lit rfl)),c⟩
theorem bLs(h:gu A s a w env){p:Prop}{x:nz}{k:PV->M}{F:Option Bool->PV->Wr->Prop}(c:(Ws p x k).ok none s F):∃ pv,(p->RV (aT A w env) pv (a.eval x))/\(k pv).ok none s F:=by
 cases x with
 | tmp t=>
  obtain⟨g,v,m,c⟩:=c;have d:gT g->∃ pv,RV (aT A w env) pv (a.eval (.tmp t))/\pv=v:=fun l=>by obtain⟨i,e,n⟩:=h.tmps t g v m l;refine⟨v,?_,rfl⟩;simp only[Act.eval];rw[YR,e];exact n
  cases g with
  |none=>obtain⟨pv,e,rfl⟩:=d trivial;exact⟨pv,fun _=>e,c⟩
  |some b=>refine⟨v,fun j=>?_,c.2⟩;obtain⟨pv,e,rfl⟩:=d (c.1 j);exact e
 |const v=>cases v<;>first|exact c.elim|exact⟨_,fun _=>.w (.one (.lit rfl)),c⟩
 |global g=>exact⟨_,fun _=>.w (.one (.lit rfl)),c⟩|func f=>exact⟨_,fun _=>.w (.one (.lit rfl)),c⟩
theorem eG{g:Option Bool}{k:M}{F:Option Bool->PV->Wr->Prop}(h:(jV g k).ok none s F):gT g/\k.ok none s F:=by
 cases g with
 |none=>exact⟨trivial,h⟩|some b=>exact h
theorem kL(h:gu A s a w env){x:Nat}{g:Option Bool}{c:Nat}{ob:qm}(e:find s.o x=some (g,c,ob))(d:gT g):∃ b,env x=some (c,b)/\EW (aT A w env) b ob:=by obtain⟨b,i,f⟩:=h.l9 x g c ob e;exact⟨b,i,f d⟩
theorem At.now{C:Ctx}{x jm:Nat}{p:ag->Prop}(h:At C x jm p){hd:ag}(c:C.env x=some (jm,hd)):p hd:=by obtain⟨f,d,b,_,e⟩:=h;rw[c] at b;cases b;exact e rfl
theorem bHd{x:Option PW}{F:Option Bool->PV->Wr->Prop}(h:(PO x).ok none s F):∃ b,x=some b/\F none (.w b) []:=by
 cases x with
 |none=>exact h.elim|some b=>exact⟨b,rfl,h⟩
theorem bJd{C:Ctx}{t:bu}{m:List PC}{g:PW}{xs:List ag}(d:BV P t m=some g)(hr:RL C m xs) :
  (iT P t=some true/\RW C g (.agg xs.toArray))\/(iT P t=some false/\∃ v,xs=[v]/\v.oneCell'=true/\RW C g v):=by
 unfold BV at d;cases j:iT P t with
 |none=>rw[j] at d;cases d| some b=>
  rw[j] at d;cases b with
  |true=>cases d;exact .inl ⟨rfl,.agg (by simpa using hr)⟩| false=>
   dsimp only at d;refine .inr ⟨rfl,?_⟩
   match m,d,hr with
   | [c],d,hr=>
    dsimp only at d;cases h:bz c.width 1 with
    |false=>rw[h] at d;cases d| true=>
     rw[h] at d;cases d;cases hr with
     |cons e k=>
      cases k;have i:=e.width;rw[iq h] at i;rename_i f
      match f,i,e with
      |[v],_,e=>exact⟨v,by simp,e.ones v ay,.one e⟩
theorem aEz{t:bu}(h:iT P t=some true):∃ d,P.underlying t=some d/\d.isRow=true:=by unfold iT at h;split at h;exact⟨_,by assumption,rfl⟩;exact⟨_,by assumption,rfl⟩;cases h;cases h
theorem aAk{t:bu}(h:iT P t=some false)(w:ae):(isAgg t).run P w=.ok false w:=by
 unfold isAgg;unfold iT at h;cases b:P.underlying t with
 |none=>rw[b] at h;cases h|some d=>
  rw[Sem.run_bind,zg b];rw[b] at h
  cases d<;>first|(cases h;done)|rfl
theorem aMg{C:Ctx}{t:bu}{n b o:Nat}{m:List PC}{i:PW}{xs:List ag}(l:ql P t=some n)(j:BV P t m=some i)(hr:RL C m xs)(f:xs.length=n)(hc:C.w.rangeAt b o xs) :
  ∃ e,(Instr.loadAt t (.pointer (some ⟨b,o,none⟩))).run P C.w=.ok e C.w/\RW C i e:=by
 rcases bJd j hr with⟨g,h⟩|⟨g,v,rfl,q,h⟩;obtain⟨d,k,p⟩:=aEz g
 refine⟨_,run_loadAt_mid C.w b o t xs d hc k p ?_,h⟩;rw[f];exact l;refine⟨v,?_,h⟩;have c:=hc 0 v rfl;rw[YP] at c;simp only[Instr.loadAt,Instr.sureAddr,Sem.run_bind,Sem.run_pure,Result.andThen_ok,loadVar,aAk g];simp[load,Sem.run,c]
theorem aKr{o:Oper}{K:Act->ae->Prop}{Q:Exit->Act->ae->Prop}{t:bu}{x:nz}(b:o.op=.load t x){val:ag}(hr:(Instr.loadAt t (a.eval x)).run P w=.ok val w)(c:K (a.put o.dst val) w):o.wp P a w K Q:=by unfold Oper.wp uu;simp only[b,Sem.run_bind,Sem.run_pure,Result.andThen_ok,hr];exact c
theorem jU{w:ae}{b o:Nat}{cs:List ag}(h:w.rangeAt b o cs)(off n:Nat):w.rangeAt b (o+off) ((cs.drop off).take n):=fun j v c=>by rw[xe] at c;by_cases d:j<n;rw[if_pos d,PR] at c;have:=h (off+j) v c;rwa [<-YM] at this;rw[if_neg d] at c;cases c
theorem aPw{w:ae}{e n len:Nat}{g:Nat}{n0 b:Nat}{vs:List ag}(h:D7 w e n (.slice (some ⟨g,0,none⟩) n0 b) len vs):w.rangeAt g 0 vs:=h.range
theorem pW{C:Ctx}:∀ {l:List PC} {b n:Nat} {e:List UInt8} {f:List ag},RL C l f->xu l b=some (n,e)->e.length=n/\(f.drop b).take n=e.map qj/\b+n<=f.length:=by
 intro l
 induction l with
 |nil=>intro b n e f h g;cases b<;>simp[xu] at g| cons c l o=>
  intro b n e f h g;cases h with
  | @cons _ _ _ t r j q=>
   have p:=j.width
   match b with
   | 0=>
    cases c<;>first|(simp[xu] at g;done)|skip
    obtain⟨rfl,rfl⟩:_=n/\_=e:=by simpa[xu] using g
    cases j with
    |bs h=>refine⟨h,?_,by simp;omega⟩;rw[List.drop_zero,List.take_append_of_le_length mg,IR mg]
   | b+1=>
    have d:(if c.width<=b+1 then xu l (b+1-c.width) else none)=some (n,e):=by cases c<;>exact g
    by_cases i:c.width<=b+1;rw[if_pos i] at d;obtain⟨m,k,u⟩:=o q d;refine⟨m,?_,by rw[ed];omega⟩;rw[aER,aAh a_,WF,p];exact k;rw[if_neg i] at d;cases d
theorem qP(b:List UInt8)(k:Nat)(h:k<b.length):(b.map qj)[k]?=some (qj (b.getD k 0)):=by rw[List.getElem?_map,zH h,zG,zH h];rfl
theorem RV.inv{C:Ctx}{c:PC}{v:ag}(h:RV C (.w (.one c)) v):R C c [v]:=by cases h with|w h=>cases h with|one h=>exact h
theorem RV.Ac{C:Ctx}{x jm off:Nat}{v:ag}(h:RV C (.w (.one (.pt x jm off))) v){hd:ag}(b:C.env x=some (jm,hd)):aNt off v hd:=by cases h.inv with|pt _ h=>exact h.now b
theorem RV.Iw{C:Ctx}{x jm off k:Nat}{v:ag}(h:RV C (.w (.one (.pk x jm off k))) v){hd:ag}(b:C.env x=some (jm,hd)):aNt (off+k) v hd:=by cases h.inv with|pk _ h=>exact h.now b
theorem RV.Iy{C:Ctx}{x jm n i j:Nat}{v:ag}(h:RV C (.w (.one (.pe x jm n i j))) v){hd:ag}(b:C.env x=some (jm,hd)):bOr n i j v hd:=by cases h.inv with|pe _ h=>exact h.now b
theorem RV.zl{C:Ctx}{x jm n off len:Nat}{v:ag}(h:RV C (.w (.one (.ow x jm n off len))) v){hd:ag}(b:C.env x=some (jm,hd)):bOs n off len v hd:=by cases h.inv with|ow _ h=>exact h.now b
theorem RV.JH{C:Ctx}{x jm off len:Nat}{v:ag}(h:RV C (.w (.one (.ob x jm off len))) v){hd:ag}(b:C.env x=some (jm,hd)):bOt off len v hd:=by cases h.inv with|ob _ h=>exact h.now b
theorem aGg{t:bu}{b o:Nat}{v:ag}(c:iT P t=some false)(hc:w.cell? ⟨b,o,none⟩=some v):(Instr.loadAt t (.pointer (some ⟨b,o,none⟩))).run P w=.ok v w:=by simp only[Instr.loadAt,Instr.sureAddr,Sem.run_bind,Sem.run_pure,Result.andThen_ok,loadVar,aAk c];simp[load,Sem.run,hc]
theorem bDe{w:ae}{b n i:Nat}{vs:List ag}(h:w.rangeAt b 0 vs)(j c:Nat):w.rangeAt b (i*n+j) ((((vs.drop (i*n)).take n).drop j).take c):=by have d:=jU h (i*n) n;rw[lL] at d;exact jU d j c
theorem aDl{x:Option PW}{k:PW->M}{F:Option Bool->PV->Wr->Prop}(h:(bFa x k).ok none s F):∃ b,x=some b/\(k b).ok none s F:=by
 cases x with
 |none=>exact h.elim|some b=>exact⟨b,rfl,h⟩
theorem JD{l:List PC}{n:Nat}{b:List UInt8}(h:JE l=some (n,b)):l=[.bs n b]:=by unfold JE at h;split at h;cases h;rfl;cases h
theorem aYi(h:gu A s a w env){F:Option Bool->PV->Wr->Prop}{t:bu}{v:ag}{p:PV}{kk:PW->M}(hp:RV (aT A w env) p v)(d:(EO P t p kk).ok none s F):∃ b W O y,v=.pointer (some ⟨b,W,none⟩)/\(Instr.loadAt t v).run P w=.ok y w/\RW (aT A w env) O y/\(kk O).ok none s F:=by
 unfold EO at d;split at d
 ·
  rename_i x1 H I;obtain⟨g,vr,ob,K,d⟩:=d;have J:=eG d;clear d;obtain⟨hg,d⟩:=J;obtain⟨hd,S,B⟩:=kL h K hg
  cases G:bz H vr<;>cases ob<;>cases z:ql P t<;>simp only[G,z] at d<;>try exact d.elim
  rename_i bt l n;obtain rfl:=iq G;cases D:rE l I n with
  |none=>rw[D] at d;exact d.elim|some m=>rw[D] at d;obtain⟨O,Y,L⟩:=aDl d;obtain⟨g1,rfl,V⟩:=hp.Ac S;obtain⟨g2,cs,e2,hB,hR⟩:=B;cases e2;obtain⟨X,k2⟩:=hR.sub D;have u:=jU hB.range I n;rw[lL] at u;obtain⟨y,o,x⟩:=aMg (C:=aT A w env) z Y X (by rw[uk,AC];omega) u;rw[<-V] at o;exact⟨_,_,O,y,V,o,x,L⟩
 ·
  rename_i x1 H I k;obtain⟨g,vr,ob,K,d⟩:=d;have J:=eG d;clear d;obtain⟨hg,d⟩:=J;obtain⟨hd,S,B⟩:=kL h K hg
  cases G:bz H vr<;>cases ob<;>cases Z:iT P t<;>simp only[G,Z] at d<;>try exact d.elim
  rename_i bt l bb
  cases bb<;>try exact d.elim
  obtain rfl:=iq G;dsimp only at d;cases D:xu l I with
  |none=>rw[D] at d;exact d.elim|some q=>obtain⟨n,bs⟩:=q;rw[D] at d;obtain⟨a5,L⟩:=d;obtain⟨g1,rfl,V⟩:=hp.Iw S;obtain⟨g2,cs,e2,hB,hR⟩:=B;cases e2;obtain⟨X,k2,k3⟩:=pW hR D;have u:=jU hB.range I n;rw[lL,k2] at u;have r:=u k _ (qP bs k (by rw[X];exact a5));have o:=aGg (P:=P) Z r;rw[<-V] at o;exact⟨_,_,_,_,V,o,.one (.lit rfl),L⟩
 ·
  rename_i x1 H n i j;obtain⟨g,vr,ob,K,d⟩:=d;have J:=eG d;clear d;obtain⟨hg,d⟩:=J;obtain⟨hd,S,B⟩:=kL h K hg
  cases G:bz H vr<;>cases ob<;>cases z:ql P t<;>simp only[G,z] at d<;>try exact d.elim
  rename_i e n' len f sz;obtain rfl:=iq G
  cases a0:bz n n'<;>cases D:rE (f i) j sz<;>simp only[a0,D] at d<;>try exact d.elim
  rename_i m;obtain rfl:=iq a0;obtain⟨a6,d⟩:=d;obtain⟨O,Y,L⟩:=aDl d;obtain⟨g1,n0,c0,rfl,b2,V⟩:=hp.Iy S;obtain⟨N,a2,T⟩:=B;obtain⟨X,k2⟩:=(T i a6).sub D;have u:=bDe (i:=i) (n:=n) (aPw a2) j sz;obtain⟨y,o,x⟩:=aMg (C:=aT A w env) z Y X (by rw[uk,AC];omega) u;rw[<-V] at o;exact⟨_,_,O,y,V,o,x,L⟩
 ·
  rename_i n len f i j;cases z:ql P t with
  |none=>simp only[z] at d;exact d.elim| some sz=>
   simp only[z] at d;split at d;rename_i m bs B b0 a7;obtain rfl:=iq b0;obtain⟨Q,L⟩:=d;have a8:=JD B;cases hp.inv with
   | @pf _ _ _ _ _ _ b W c N hr G S Z=>
    obtain⟨h1,A1,c1,e1,h2,h3,h4⟩:=hr;obtain⟨b',o',eA,r⟩:=h4 a_;cases e1;cases eA;have T:=S i Z;rw[a8] at T;have u:w.rangeAt b W N:=fun jj v Q=>r jj v Q;have E:=jU u (i*n) n;have a3:=T.single;generalize (N.drop (i*n)).take n=q at E a3;cases a3 with
    |bs hl=>have U:=E j _ (qP bs j (by rw[hl];exact Q));have o:=aGg (P:=P) a7 U;rw[YM] at o;exact⟨_,_,_,_,rfl,o,.one (.lit rfl),L⟩
   cases D:rE (f i) j sz with
   |none=>rw[D] at d;exact d.elim| some m=>
    rw[D] at d;obtain⟨O,Y,L⟩:=aDl d;cases hp.inv with
    |@pf _ _ _ _ _ _ b W c N hr G S Z=>obtain⟨h1,A1,c1,e1,h2,h3,h4⟩:=hr;obtain⟨b',o',eA,r⟩:=h4 a_;cases e1;cases eA;obtain⟨X,k2⟩:=(S i Z).sub D;have u:w.rangeAt b W N:=fun jj v Q=>r jj v Q;have E:=jU (jU u (i*n) n) j sz;obtain⟨y,o,x⟩:=aMg (C:=(aT A w env).cold) z Y X (by rw[uk,AC];omega) E;rw[YM] at o;exact⟨_,_,O,y,rfl,o,x.le ⟨dE _,fun b _ h=>⟨h,rfl⟩,fun _ _ _ h=>by cases h⟩,L⟩
 ·
  rename_i len f;split at d;rename_i n e hu;split at d;rename_i m hm S;split at d;rename_i G;obtain rfl:=iq G;obtain⟨⟨b1,a1⟩,d⟩:=d;obtain⟨O,Y,L⟩:=aDl d;cases hp.inv with
  | @pa _ _ b W c _ N hr a0 a9 hn=>
   obtain⟨h1,A1,c1,e1,h2,h3,h4⟩:=hr;obtain⟨b',o',eA,r⟩:=h4 a_;cases e1;cases eA
   have a4:N.take m=(rowB m f).map qj:=by
    refine aEy (C:=(aT A w env).cold) (by rw[uk];omega) (fun i Z=>?_) a1;have h5:=a9 i a_;have e5:((N.take m).drop (i*1)).take 1=(N.drop (i*1)).take 1:=by rw[List.drop_take,List.take_take];congr 1;omega
    rw[e5];exact h5
   have u:w.rangeAt b W (N.take m):=fun jj v Q=>by rw[xe] at Q;split at Q;exact r jj v Q;cases Q
   rw[a4] at u;obtain⟨y,o,x⟩:=aMg (C:=aT A w env) (xs:=(rowB m f).map qj) hm Y (by simpa using RL.cons (R.bs (dQ m f)) RL.nil) (by rw[Xt,dQ]) u;exact⟨_,_,O,y,rfl,o,x,L⟩
  exact d.elim;exact d.elim;exact d.elim
 exact d.elim
theorem Qi(h:gu A s a w env){o:Oper}{K:Act->ae->Prop}{Q:Exit->Act->ae->Prop}{F:Option Bool->PV->Wr->Prop}{t:bu}{x:nz}(g:o.op=.load t x){p:PV}(f:RV (aT A w env) p (a.eval x))(i:(U2 P t p).ok none s F)(j:Fin A s a o K F):o.wp P a w K Q:=by obtain⟨b,m,l,e,_,d,c,k⟩:=aYi h f i;exact aKr g d (j.same h k (.w c))
end
end Pv
namespace Pv
theorem aOu(b:Nat)(t:bu):∀ (f c old d:List ag) (w:ae),old.length=f.length->dh w b t (c++old++d).toArray->dh (w.setCells b c.length f) b t (c++f++d).toArray:=by
 intro f
 induction f with
 |nil=>intro c old d w g h;cases old with|nil=>exact h|cons=>simp at g
 | cons v f j=>
  intro c old d w g h;cases old with
  |nil=>simp at g|cons x old=>
   have i:=h.vk c.length v;have e:(c++x::old++d).toArray.setIfInBounds c.length v=((c++[v])++old++d).toArray:=by simp
   rw[e] at i;have:=j (c++[v]) old d (w.setCell ⟨b,c.length,none⟩ v) (by simpa using g) i;simp only[ed,Lt,YN,lL,yl,aDj] at this;simp only[yl,We];exact this
def over(xs:List ag)(off:Nat)(ys:List ag):List ag:=xs.take off++ys++xs.drop (off+ys.length)
theorem nV{xs ys:List ag}{off:Nat}(h:off+ys.length<=xs.length):(over xs off ys).length=xs.length:=by unfold over;simp;omega
theorem aZq{w:ae}{g:Nat}{t:bu}{cs:Array ag}(h:dh w g t cs)(off:Nat)(ys:List ag)(hl:off+ys.length<=cs.size):dh (w.setCells g off ys) g t (over cs.toList off ys).toArray:=by
 have e:cs=(cs.toList.take off++(cs.toList.drop off).take ys.length++cs.toList.drop (off+ys.length)).toArray:=by rw[yl,<-aAD,aBd,aBd]
 have b:=h;rw[e] at b;have:=aOu g t ys (cs.toList.take off) ((cs.toList.drop off).take ys.length) (cs.toList.drop (off+ys.length)) w mg b;rw[uk,mf,aBo a_] at this;exact this
theorem vN{w:ae}{g:Nat}{t:bu}{cs:Array ag}(h:dh w g t cs)(off n:Nat)(hl:off+n<=cs.size):w.there g off n:=fun j b=>by rw[h.cell,h.frozen];exact⟨by rw[Yj a_];rfl,rfl⟩
def CP(w:ae)(g:Nat)(t:bu)(b:Nat×Nat)(cs:Array ag):Prop:=w.heap[g]?=some (.cells cs t b)
theorem CP.vk{w:ae}{g:Nat}{t:bu}{b:Nat×Nat}{cs:Array ag}(h:CP w g t b cs)(i:Nat)(u:ag):CP (w.setCell ⟨g,i,none⟩ u) g t b (cs.setIfInBounds i u):=by unfold CP at h ⊢;simp[World.setCell,Array.getElem?_modify,h]
theorem aLd(b:Nat)(t:bu)(j:Nat×Nat):∀ (f c old d:List ag) (w:ae),old.length=f.length->CP w b t j (c++old++d).toArray->CP (w.setCells b c.length f) b t j (c++f++d).toArray:=by
 intro f
 induction f with
 |nil=>intro c old d w g h;cases old with|nil=>exact h|cons=>simp at g
 | cons v f k=>
  intro c old d w g h;cases old with
  |nil=>simp at g|cons x old=>
   have i:=h.vk c.length v;have e:(c++x::old++d).toArray.setIfInBounds c.length v=((c++[v])++old++d).toArray:=by simp
   rw[e] at i;have:=k (c++[v]) old d (w.setCell ⟨b,c.length,none⟩ v) (by simpa using g) i;simp only[ed,Lt,YN,lL,yl,aDj] at this;simp only[yl,We];exact this
theorem bNz{w:ae}{g:Nat}{t:bu}{b:Nat×Nat}{cs:Array ag}(h:CP w g t b cs)(off:Nat)(ys:List ag)(hl:off+ys.length<=cs.size):CP (w.setCells g off ys) g t b (over cs.toList off ys).toArray:=by
 have e:cs=(cs.toList.take off++(cs.toList.drop off).take ys.length++cs.toList.drop (off+ys.length)).toArray:=by rw[yl,<-aAD,aBd,aBd]
 have c:=h;rw[e] at c;have:=aLd g t b ys (cs.toList.take off) ((cs.toList.drop off).take ys.length) (cs.toList.drop (off+ys.length)) w mg c;rw[uk,mf,aBo a_] at this;exact this
theorem aKz{w:ae}{g:Nat}{t:bu}{c:Nat×Nat}{cs:Array ag}(h:CP w g t c cs)(b:c=(0,0)\/cs.size<=c.1)(off n:Nat)(hl:off+n<=cs.size):w.there g off n:=fun j d=>by unfold CP at h;refine⟨?_,?_⟩;rw[cell_of_row w g _ cs t c h,Yj a_];rfl;rcases b with rfl|b;simp[World.frozen?,h];simp[World.frozen?,h];omega
theorem gY{xs ys:List ag}{off:Nat}(h2:off+ys.length<=xs.length)(k:Nat):(over xs off ys)[k]?=if off<=k/\k<off+ys.length then ys[k-off]? else xs[k]?:=by unfold over;by_cases b:k<off;rw[if_neg a_,yl,YO mg,xe,if_pos b];by_cases c:k<off+ys.length;rw[if_pos a_,yl,YC mg,uk,aBo a_,YO a_];rw[if_neg a_,YC mg,ed,uk,aBo a_,PR];congr 1;omega
theorem aUw{xs ys:List ag}{p n j:Nat}(h:p+n<=xs.length)(d:j+ys.length<=n):((over xs (p+j) ys).drop p).take n=over ((xs.drop p).take n) j ys:=by apply YE;intro k;rw[xe,PR,gY a_,gY mg,xe,PR];by_cases b:k<n;rw[if_pos b,if_pos b];by_cases c:j<=k/\k<j+ys.length;rw[if_pos c,if_pos a_];congr 1;omega;rw[if_neg c,if_neg a_];rw[if_neg b,if_neg b,if_neg a_]
theorem wH{xs ys:List ag}{p n q:Nat}(h2:q+ys.length<=xs.length)(c:q+ys.length<=p\/p+n<=q):((over xs q ys).drop p).take n=(xs.drop p).take n:=by apply YE;intro k;rw[xe,PR,gY h2,xe,PR];by_cases b:k<n;rw[if_pos b,if_pos b,if_neg a_];rw[if_neg b,if_neg b]
theorem aJh{xs ys:List ag}{q k:Nat}(h:q+ys.length<=k)(h2:k<=xs.length):(over xs q ys).take k=over (xs.take k) q ys:=by apply YE;intro i;rw[xe,gY a_,gY mg,xe];by_cases b:i<k;rw[if_pos b,if_pos b];rw[if_neg b,if_neg b,if_neg a_]
theorem aZe{C:Ctx}:∀ {l:List PC} {n:Nat} {r:List PC} {d:List ag},RL C l d->splice.Aq l n=some r->RL C r (d.drop n)/\n<=d.length:=by
 intro l
 induction l with
 |nil=>
  intro n r d h b;cases h;cases n with
  |zero=>simp[splice.Aq] at b;subst b;exact⟨.nil,dE _⟩|succ n=>simp[splice.Aq] at b
 | cons c l g=>
  intro n r d h b;cases n with
  |zero=>simp[splice.Aq] at b;subst b;exact⟨h,Nat.zero_le _⟩| succ n=>
   cases h with
   |@cons _ _ _ o m k j=>have i:=k.width;unfold splice.Aq at b;by_cases e:c.width<=n+1;rw[if_pos e] at b;obtain⟨f,p⟩:=g j b;refine⟨?_,by rw[ed];omega⟩;rw[aER,aAh a_,WF,i];exact f;rw[if_neg e] at b;cases b
theorem aEr{C:Ctx}:∀ {l:List PC} {b:Nat} {m n:List PC} {k f:List ag},RL C l k->RL C m f->splice l b m=some n->RL C n (over k b f)/\b+f.length<=k.length:=by
 intro l
 induction l with
 | nil=>
  intro b m n k f h j d;cases b with
  | zero=>
   unfold splice at d;cases i:splice.Aq [] (widths m) with
   |none=>rw[i] at d;cases d|some r=>rw[i] at d;cases d;obtain⟨g,o⟩:=aZe h i;rw[<-j.width] at g o;exact⟨by unfold over;simpa using j.append g,by omega⟩
  |succ b=>simp[splice] at d
 | cons c l z=>
  intro b m n k f h j d;cases b with
  | zero=>
   unfold splice at d;cases i:splice.Aq (c::l) (widths m) with
   |none=>rw[i] at d;cases d|some r=>rw[i] at d;cases d;obtain⟨g,o⟩:=aZe h i;rw[<-j.width] at g o;exact⟨by unfold over;simpa using j.append g,by omega⟩
  | succ b=>
   cases h with
   | @cons _ _ _ t q y B=>
    have u:=y.width;unfold splice at d;by_cases x:c.width<=b+1;rw[if_pos x] at d;cases p:splice l (b+1-c.width) m with
    |none=>rw[p] at d;cases d| some r=>
     rw[p] at d;cases d;obtain⟨g,o⟩:=z B j p;refine⟨?_,by rw[ed];omega⟩;have e:over (t++q) (b+1) f=t++over q (b+1-c.width) f:=by unfold over;rw[aED,IR a_,u,aER,aAh a_,WF,u];simp only[yl];congr 4;omega
     rw[e];exact .cons y g
    rw[if_neg x] at d;cases d
theorem bIe(d:List UInt8)(k:Nat)(b:UInt8)(e:List ag)(f:k<d.length):over (d.map qj++e) (0+k) [qj b]=(d.set k b).map qj++e:=by rw[lL,List.map_set,<-List.set_append_left _ _ (by simpa using f)];apply YE;intro i;rw[gY mg,List.getElem?_set];by_cases c:k=i;subst c;rw[if_pos ay,if_pos rfl,if_pos mg];simp;rw[if_neg c,if_neg mg]
theorem Gq{C:Ctx}:∀ {l:List PC} {d n k:Nat} {g:List UInt8} {b:UInt8} {j:List ag},RL C l j->xu l d=some (n,g)->k<n->RL C (ZP l d (g.set k b)) (over j (d+k) [qj b]):=by
 intro l
 induction l with
 |nil=>intro d n k g b j h i;cases d<;>simp[xu] at i| cons c l x=>
  intro d n k g b j h i y;cases h with
  | @cons _ _ _ q p o u=>
   have r:=o.width;cases d with
   | zero=>
    cases c<;>first|(simp[xu] at i;done)|skip
    obtain⟨rfl,rfl⟩:_=n/\_=g:=by simpa[xu] using i
    cases o with
    |bs h=>rw[bIe _ _ _ _ a_];exact .cons (.bs (by rw[List.length_set];exact h)) u
   | succ d=>
    have f:(if c.width<=d+1 then xu l (d+1-c.width) else none)=some (n,g):=by cases c<;>exact i
    have m:ZP (c::l) (d+1) (g.set k b)=c::ZP l (d+1-c.width) (g.set k b):=by cases c<;>rfl
    by_cases t:c.width<=d+1;rw[if_pos t] at f;rw[m];have e:over (q++p) (d+1+k) [qj b]=q++over p (d+1-c.width+k) [qj b]:=by unfold over;rw[aED,IR a_,r,aER,aAh mg,WF,r];simp only[yl];congr 3;congr 1;omega;congr 1;simp;omega
    rw[e];exact .cons o (x u f y);rw[if_neg t] at f;cases f
section
variable {P:gp} {A:n_} {s:St} {a:Act} {w:ae} {env:Env}
theorem aSh{v:ag}(h:v.oneCell'=true):v.cells=#[v]:=by cases v<;>first|rfl|cases h
theorem RW.cells'{C:Ctx}{b:PW}{v:ag}(h:RW C b v):RL C b.cells v.cells.toList:=by
 cases h with
 |one h=>rw[aSh (h.ones v ay)];exact .cons h .nil|agg h=>exact h
theorem vW{t:bu}{b o:Nat}{v:ag}(d:ql P t=some v.cells.size)(h1:∀ u∈v.cells.toList,u.oneCell'=true)(c:w.there b o v.cells.size) :
  (Instr.storeAt t (.pointer (some ⟨b,o,none⟩)) v).run P w=.ok () (w.setCells b o v.cells.toList):=by
 have:=run_storeAt_mid (P:=P) w b o t v.cells c d (by rw[Array.all_eq_true'];intro u f;exact h1 u (Array.mem_toList_iff.2 f));have e:Instr.storeAt t (.pointer (some ⟨b,o,none⟩)) v=Instr.storeAt t (.pointer (some ⟨b,o,none⟩)) (.agg v.cells):=rfl;rw[e];exact this
theorem mP{o:Oper}{K:Act->ae->Prop}{Q:Exit->Act->ae->Prop}{t:bu}{x y:nz}(b:o.op=.store t x y){w':ae}(hr:(Instr.storeAt t (a.eval x) (a.eval y)).run P w=.ok () w')(c:K (a.put o.dst undef) w'):o.wp P a w K Q:=by unfold Oper.wp uu;simp only[b,Sem.run_bind,Sem.run_pure,Result.andThen_ok,hr];exact c
theorem gu.Cb(h:gu A s a w env){x jm:Nat}{g:Option Bool}{d:bu}{l l':List PC}{b:Nat}(_:find s.o x=some (g,jm,.box d l))(k:env x=some (jm,jM b)){cs:Array ag}(n:dh w b d cs){off:Nat}{ys:List ag}(hl:off+ys.length<=cs.size)
  (hr:RL (aT A w env) l' (over cs.toList off ys)):∃ c,gu A { s with o:=[(x,none,jm,.box d l')]++s.o } a (w.setCells b off ys) c:=by
 have p:=(gZ b ys off w).1;have f:=(gZ b ys off w).2;refine⟨_,(h.upd x none jm (jM b) (.box d l') (p.mono fun i _ e=>⟨jm,_,k,by rw[e];rfl⟩) (fun v r e=>by rw[k] at e;cases e;exact .inr ⟨rfl,rfl⟩) (fun t m=>by cases m;exact⟨by rw[f];exact n.lt,.inr ⟨jm,_,k,rfl⟩⟩) (fun j _=>?_)).1⟩;exact⟨b,_,rfl,aZq n off ys hl,by simpa using hr.le j⟩
theorem GH(h:gu A s a w env){o:Oper}{K:Act->ae->Prop}{Q:Exit->Act->ae->Prop}{F:Option Bool->PV->Wr->Prop}{t:bu}{x y:nz}(ho:o.op=.store t x y){p v:PV}(hp:RV (aT A w env) p (a.eval x))(W:RV (aT A w env) v (a.eval y))(c:(bFr P t p v).ok none s F)(hf:Fin A s a o K F):o.wp P a w K Q:=by
 unfold bFr at c
 cases v<;>try exact c.elim
 rename_i pw
 cases a6:ql P t<;>simp only[a6] at c<;>try exact c.elim
 rename_i sz
 cases b7:bz sz (widths pw.cells)<;>simp only[b7] at c<;>try exact c.elim
 cases W with
 | w W=>
  have d:=W.cells';obtain⟨z,hy⟩:∃ v,a.eval y=v:=⟨_,rfl⟩;rw[hy] at W d;have b9:=d.width;have e0:=iq b7;have D:ql P t=some z.cells.size:=by rw[a6,e0,<-b9,mf]
  split at c
  ·
   rename_i x1 u r;obtain⟨g,vr,ob,B,c⟩:=c;have I:=eG c;clear c;obtain⟨hg,c⟩:=I;obtain⟨hd,N,H⟩:=kL h B hg
   cases T:bz u vr<;>cases ob<;>simp only[T] at c<;>try exact c.elim
   rename_i bt l;obtain rfl:=iq T;cases E:splice l r pw.cells with
   |none=>rw[E] at c;exact c.elim|some l'=>
    rw[E] at c;have hF:F none .none [(x1,none,u,.box bt l')]:=c.2;obtain⟨C,rfl,G⟩:=hp.Ac N;obtain⟨g2,cs,e2,U,hR⟩:=H;cases e2;obtain⟨k1,k2⟩:=aEr hR d E;have a3:r+z.cells.toList.length<=cs.size:=by simpa using k2
    obtain⟨J,a1⟩:=h.Cb B N U a3 k1;refine mP ho (w':=w.setCells C r z.cells.toList) ?_ (hf .none _ undef _ J hF a1 .none);rw[G,hy];exact vW D d.ones (vN U r _ (by simpa using a3))
  ·
   rename_i x1 u r k;obtain⟨g,vr,ob,B,c⟩:=c;have I:=eG c;clear c;obtain⟨hg,c⟩:=I;obtain⟨hd,N,H⟩:=kL h B hg
   cases T:bz u vr<;>cases ob<;>simp only[T] at c<;>try exact c.elim
   rename_i bt l;obtain rfl:=iq T
   split at c<;>try exact c.elim
   rename_i d5 l2 b1 d4 c2;cases c2;cases E:xu l r with
   |none=>rw[E] at c;exact c.elim| some q=>
    obtain⟨n,bs⟩:=q;rw[E] at c;obtain⟨⟨c3,d1,d0⟩,c⟩:=c;have hF:F none .none [(x1,none,u,.box bt (ZP l r (bs.set k (ww b1.toNat))))]:=c.2;obtain⟨C,rfl,G⟩:=hp.Iw N;obtain⟨g2,cs,e2,U,hR⟩:=H;cases e2;obtain⟨k1,k2,k3⟩:=pW hR E
    have b8:z=.int .u8 b1:=by
     cases W with
     |one W=>cases W;rfl
    have hu:[qj (ww b1.toNat)]=z.cells.toList:=by
     rw[b8]
     show[Value.int .u8 (((ww b1.toNat).toNat:Nat):Int)]=[.int .u8 b1]
     congr 2;rw[aFZ (show b1.toNat<256 by omega)];omega
    have hr:=Gq (b:=ww b1.toNat) hR E c3;rw[hu] at hr;have V:z.cells.toList.length=1:=by rw[<-hu];rfl
    have d2:r+n<=cs.size:=by rw[<-mf];exact k3
    have a2:r+k+1<=cs.size:=by omega
    obtain⟨J,a1⟩:=h.Cb B N U (off:=r+k) (ys:=z.cells.toList) (by rw[V];exact a2) hr;refine mP ho (w':=w.setCells C (r+k) z.cells.toList) ?_ (hf .none _ undef _ J hF a1 .none);rw[G,hy];exact vW D d.ones (vN U (r+k) _ (by rw[mf] at V;rw[V];exact a2))
  ·
   rename_i x1 u n i j;obtain⟨g,vr,ob,B,c⟩:=c;have I:=eG c;clear c;obtain⟨hg,c⟩:=I;obtain⟨hd,N,H⟩:=kL h B hg
   cases T:bz u vr<;>cases ob<;>simp only[T] at c<;>try exact c.elim
   rename_i e n' len f;obtain rfl:=iq T
   cases b6:bz n n'<;>cases E:splice (f i) j pw.cells<;>simp only[b6,E] at c<;>try exact c.elim
   rename_i m;obtain rfl:=iq b6;obtain⟨Z,c⟩:=c;have hF:F none .none [(x1,none,u,.arr e n len (fun L=>if L=i then m else f L))]:=c.2;obtain⟨C,n0,c0,rfl,d3,G⟩:=hp.Iy N;obtain⟨vs,S,b5⟩:=H;obtain⟨k1,k2⟩:=aEr (b5 i Z) d E;have c1:=S.1;have a4:((vs.drop (i*n)).take n).length=n:=by have:(i+1)*n<=len*n:=YH n Z;rw[Y8,Yc] at this;simp;omega
   rw[a4] at k2;rcases S.2 with⟨e0,_⟩|⟨g',cap,cur,t',fr,e0,b2,b4,a9,c7,c6,X⟩;cases e0;cases e0;have c4:(i+1)*n<=len*n:=YH n Z;rw[Y8,Yc] at c4
   have b0:i*n+j+z.cells.toList.length<=len*n:=by omega
   have c9:len*n<=c0*n:=YH n a9;have U:CP w C t' fr cur:=b2;have hc:=(gZ C z.cells.toList (i*n+j) w).1;have a5:=(gZ C z.cells.toList (i*n+j) w).2;have O:i*n+j+z.cells.toList.length<=cur.size:=by omega
   have a7:(over cur.toList (i*n+j) z.cells.toList).toArray.size=cur.size:=by rw[YS,nV (by simpa using O),mf]
   have a8:D7 (w.setCells C (i*n+j) z.cells.toList) e n (.slice (some ⟨C,0,none⟩) len c0) len (over vs (i*n+j) z.cells.toList):=by refine⟨by rw[nV a_];exact c1,.inr ⟨C,c0,(over cur.toList (i*n+j) z.cells.toList).toArray,t',fr,rfl,bNz U _ _ O,?_,a9,c7,?_,?_⟩⟩;rw[a7];exact b4;rw[YS,nV (by simpa using O),mf,c6];rw[<-X];exact aJh b0 (by rw[mf];omega)
   obtain⟨b3,Y⟩:=h.upd x1 none u (.slice (some ⟨C,0,none⟩) len c0) (.arr e n len (fun L=>if L=i then m else f L)) (hc.mono fun b _ e=>⟨u,_,N,by rw[e];rfl⟩) (fun v hd e=>by rw[N] at e;cases e;exact .inr ⟨rfl,rfl⟩) (fun b' c8=>by cases c8;exact⟨by rw[a5];exact lt_of_heap b2,.inr ⟨u,_,N,rfl⟩⟩) (fun Y _=>⟨_,a8,fun L c5=>by
    dsimp only;by_cases a0:L=i;subst a0;rw[if_pos rfl,aUw a_ a_];exact k1.le Y;rw[if_neg a0,wH a_ ?_];exact (b5 L c5).le Y;rcases Nat.lt_or_gt_of_ne a0 with h1|h1;have:(L+1)*n<=i*n:=YH n h1;rw[Y8,Yc] at this;omega;have:(i+1)*n<=L*n:=YH n h1;rw[Y8,Yc] at this
    omega⟩)
   refine mP ho (w':=w.setCells C (i*n+j) z.cells.toList) ?_ (hf .none _ undef _ _ hF b3 .none);rw[G,hy];exact vW D d.ones (aKz U (b4.imp (·.2) (·.2)) _ _ (by rw[mf] at O;omega))
  exact c.elim
end
end Pv
namespace Pv
theorem bNu{v:ag}{b:UInt8}(h:byteOf v=some b):v=qj b:=by unfold byteOf at h;split at h;split at h;cases h;rename_i c;show Value.int .u8 _=.int .u8 _;rw[<-c];cases h;cases h
theorem wV:∀ {n:Nat} {l:List ag} {c:List UInt8},kC n l=some c->c.length=n/\l=c.map qj++l.drop n
 |0,l,c,h=>by simp[kC] at h;subst h;exact⟨rfl,by simp⟩|n+1,[],c,h=>by simp[kC] at h| n+1,v::l,c,h=>by
  unfold kC at h;cases d:byteOf v with
  |none=>rw[d] at h;simp at h| some b=>
   cases e:kC n l with
   |none=>rw[d,e] at h;simp at h|some r=>rw[d,e] at h;cases h;obtain⟨g,f⟩:=wV e;exact⟨by simp[g],by rw[bNu d];simp;exact f⟩
theorem aUv{C:Ctx}:∀ {d:List Nat} {c:List ag} {l:List PC},pack d c=some l->RL C l c
 |[],[],l,h=>by simp[pack] at h;subst h;exact .nil|[],_::_,l,h=>by simp[pack] at h|0::d,[],l,h=>by simp[pack] at h| 0::d,v::c,l,h=>by
  unfold pack at h;by_cases e:v.oneCell'=true;rw[if_pos e] at h;cases b:pack d c with
  |none=>rw[b] at h;cases h|some r=>rw[b] at h;cases h;exact .cons (xs:=[v]) (.lit e) (aUv b)
  rw[if_neg e] at h;cases h
 | (n+1)::d,c,l,h=>by
  unfold pack at h;cases b:kC (n+1) c with
  |none=>rw[b] at h;simp at h| some bs=>
   cases f:pack d (c.drop (n+1)) with
   |none=>rw[b,f] at h;simp at h|some r=>rw[b,f] at h;cases h;obtain⟨i,g⟩:=wV b;rw[g];exact .cons (.bs i) (aUv f)
section
variable {P:gp} {A:n_} {s:St} {a:Act} {w:ae} {env:Env} {o:Oper} {K:Act->ae->Prop} {Q:Exit->Act->ae->Prop} {F:Option Bool->PV->Wr->Prop}
theorem aX{v:ag}{w':ae}(hr:(uu a.eval o).run P w=.ok (.value v) w')(b:K (a.put o.dst v) w'):o.wp P a w K Q:=by unfold Oper.wp;rw[hr];exact b
theorem bJb(h:gu A s a w env){x:nz}(b:o.op=.move x\/o.op=.assign x)(c:(zi x fun v=>.ret v).ok none s F)(e:Fin A s a o K F):o.wp P a w K Q:=by
 obtain⟨pv,d,c⟩:=iG h c;refine aX (v:=a.eval x) (w':=w) ?_ (e.same h c d)
 rcases b with b|b<;>simp[uu,b]
theorem RV.AP{C:Ctx}{b:Bool}{v:ag}(h:RV C (.w (.one (.lit (.bool b)))) v):v=.bool b:=by cases h.inv;rfl
theorem RV.eu{C:Ctx}{u v:ag}(h:RV C (.w (.one (.lit u))) v):v=u:=by cases h.inv;rfl
theorem Q3(h:gu A s a w env){c x y:nz}(g:o.op=.pick c x y)(b:(Tj c x y).ok none s F)(l:Fin A s a o K F):o.wp P a w K Q:=by
 obtain⟨p,m,b⟩:=iG h b;split at b;rename_i i;have d:=bLs h b;clear b;obtain⟨r,n,b⟩:=d;have d:=bLs h b;clear b;obtain⟨q,f,b⟩:=d;split at b;rename_i k j;refine aX (v:=.bool (bif i then k else j)) (w':=w) ?_ (l.same h b (.w (.one (.lit rfl))));have e:=m.AP;cases i with
 |true=>simp[uu,g,e,asBool,(n rfl).AP]|false=>simp[uu,g,e,asBool,(f rfl).AP]
 exact b.elim;exact b.elim
theorem aEc{C:Ctx}{t:bu}{l:List PC}(h:Xi P t=some l):∃ i z,P.info? t=some i/\i.zero=some z/\RL C l z.cells.toList:=by
 unfold Xi at h;cases d:P.info? t with
 |none=>rw[d] at h;simp at h| some i=>
  rw[d] at h;simp only[Option.bind_some] at h;cases b:i.zero with
  |none=>rw[b] at h;simp at h| some z=>
   cases c:shapeOf P 8 t with
   |none=>rw[b,c] at h;simp at h|some e=>rw[b,c] at h;exact⟨i,z,rfl,b,aUv h⟩
theorem gu.EM(h:gu A s a w env)(d:Nat)(t:bu){l:List PC}{cs:Array ag}(hr:RL (aT A w env) l cs.toList) :
  ∃ c,gu A { s with o:=[(d,none,fresh s d,.box t l)]++s.o } a (w.alloc (.cells cs t)) c/\RV (aT A (w.alloc (.cells cs t)) c) (d_ (.pt d (fresh s d) 0)) (.pointer (some ⟨w.heap.size,0,none⟩)):=by
 obtain⟨g,i⟩:=h.new (w':=w.alloc (.cells cs t)) d none (jM w.heap.size) (.box t l) ((Ext.refl w).alloc _) (fun b f=>by cases f;simp) (fun e _=>⟨_,cs,rfl,dh.new w t cs,hr.le e⟩);exact⟨_,g,.w (.one (.pt ⟨_,_,rfl⟩ ⟨_,_,iR _ _ _ _,dE _,fun _=>⟨_,rfl,rfl⟩⟩))⟩
theorem Nw(h:gu A s a w env){b:Nat}{t:bu}(g:o.op=.alloc t){l:List PC}(e:Xi P t=some l)(j:(M.new b (.box t l) fun v=>.ret (d_ (.pt b v 0))).ok none s F)(m:Fin A s a o K F):o.wp P a w K Q:=by obtain⟨i,z,k,c,f⟩:=aEc (C:=aT A w env) e;obtain⟨d,p,n⟩:=h.EM b t f;refine aX (v:=.pointer (some ⟨w.heap.size,0,none⟩)) (w':=w.alloc (.cells z.cells t)) ?_ (m _ _ _ _ _ j p n);simp[uu,g,Instr.alloc,zeroValue,YF,k,c,newVar,newRow]
theorem XH(h:gu A s a w env){b:Nat}{t:bu}{x:nz}(f:o.op=.box t x){c:PW}(e:RW (aT A w env) c (a.eval x))(g:(M.new b (.box t c.cells) fun v=>.ret (d_ (.pt b v 0))).ok none s F)(i:Fin A s a o K F):o.wp P a w K Q:=by obtain⟨d,k,j⟩:=h.EM b t e.cells';refine aX (v:=.pointer (some ⟨w.heap.size,0,none⟩)) (w':=w.alloc (.cells (a.eval x).cells t)) ?_ (i _ _ _ _ _ g k j);simp[uu,f,Instr.box,newVar,newRow]
theorem bDc(h:gu A s a w env){x:nz}{i:Nat}(f:o.op=.extract x i){v:PV}(b:RV (aT A w env) v (a.eval x))(g:(PO (Fz v i)).ok none s F)(j:Fin A s a o K F):o.wp P a w K Q:=by
 obtain⟨d,c,k⟩:=bHd g
 cases v<;>simp only[Fz] at c<;>try (cases c;done)
 rename_i l;generalize e:a.eval x=q at b;cases b with
 |lu p b=>obtain⟨u,n,m⟩:=b i d c;refine aX (v:=u) (w':=w) ?_ (j.same h k (.w m));simp[uu,f,e,Instr.extract,n]
theorem MH (h:gu A s a w env) {t:bu} {x:nz} {f:Nat} (N:o.op=.field t x f) {v:PV} (r:RV (aT A w env) v (a.eval x)) (b:(bLo P t v f).ok none s F) (O:Fin A s a o K F):o.wp P a w K Q:=by
 unfold bLo at b;cases y:P.underlying t with
 |none=>rw[y] at b;exact b.elim| some d=>
  rw[y] at b
  cases d<;>try exact b.elim
  rename_i X;dsimp only at b;cases g:X[f]? with
  |none=>rw[g] at b;exact b.elim| some j=>
   rw[g] at b;dsimp only at b;split at b
   ·rename_i n l c;cases D:rE l j.offset n with
    |none=>rw[D] at b;exact b.elim| some m=>
     rw[D] at b;obtain⟨Y,U,S⟩:=bHd b;generalize L:a.eval x=q at r;cases r with
     | w r=>cases r with
      | @agg _ B V=>
       obtain⟨T,Z⟩:=V.sub D
       have k:∃ i,P.info? j.type=some i/\i.size=n:=by
        unfold ql at c;cases z:P.info? j.type with
        |none=>rw[z] at c;cases c|some i=>rw[z] at c;exact⟨i,rfl,by simpa using c⟩
       obtain⟨i,z,E⟩:=k;rcases bJd U T with⟨e,J⟩|⟨e,u,C,_,J⟩
       ·refine aX (v:=.agg ((B.toList.drop j.offset).take n).toArray) (w':=w) ?_ (O.same h S (.w J));obtain⟨d,H,W⟩:=aEz e
        have I:(isAgg j.type).run P w=.ok true w:=by
         unfold isAgg;rw[Sem.run_bind,zg H w]
         cases d<;>simp_all
        have G:B.extract j.offset (j.offset+n)=((B.toList.drop j.offset).take n).toArray:=by apply Array.ext';simp[List.extract_eq_take_drop]
        simp[uu,N,L,Instr.field,zg y,g,part,I,sizeOf,YF,z,E,asAgg,G]
       refine aX (v:=u) (w':=w) ?_ (O.same h S (.w J));have p:B[j.offset]?=some u:=by have:=congrArg (·[0]?) C;simp only[xe,PR,YP,YT] at this;split at this;simpa using this;cases this
       simp[uu,N,L,Instr.field,zg y,g,part,aAk e,p,asAgg]
   exact b.elim
theorem oK{t:bu}{n:Nat}(h:ql P t=some n):∃ i,P.info? t=some i/\i.size=n:=by
 unfold ql at h;cases b:P.info? t with
 |none=>rw[b] at h;cases h|some i=>rw[b] at h;exact⟨i,rfl,by simpa using h⟩
theorem aTo{t:bu}{g:Array Field}{e:Field}{f b off n:Nat}(h:P.underlying t=some (.struct g))(d:g[f]?=some e)(c:ql P e.type=some (n+1))(w:ae) :
  (Instr.fieldAt t (.pointer (some ⟨b,off,none⟩)) f).run P w=.ok (.pointer (some ⟨b,off+e.offset,none⟩)) w:=by
 obtain⟨i,k,j⟩:=oK c;simp[Instr.fieldAt,zg h,d,Instr.sureAddr,fieldPlace,sizeOf,YF,k,j,add_lit]
theorem aRp(h:gu A s a w env){t:bu}{x:nz}{f:Nat}(V:o.op=.fieldAddr t x f){p:PV}(z:RV (aT A w env) p (a.eval x))(e:(aCg P t p f).ok none s F)(I:Fin A s a o K F):o.wp P a w K Q:=by
 unfold aCg at e;cases E:P.underlying t with
 |none=>rw[E] at e;exact e.elim| some d=>
  rw[E] at e
  cases d<;>try exact e.elim
  rename_i Z;dsimp only at e;cases l:Z[f]? with
  |none=>rw[l] at e;exact e.elim| some B=>
   rw[l] at e;dsimp only at e;split at e;rename_i n G;have u:=fun b k=>aTo (b:=b) (off:=k) E l G w;have i:∀ b k,a.eval x=.pointer (some ⟨b,k,none⟩)->(uu a.eval o).run P w=.ok (.value (.pointer (some ⟨b,k+B.offset,none⟩))) w:=fun b k J=>by simp[uu,V,J,u b k]
   generalize H:a.eval x=q at z;split at e;cases z.inv with
   |pt L m=>obtain⟨b,r,rfl⟩:=L;refine aX (i b r H) (I.same h e (.w (.one (.pt ⟨_,_,rfl⟩ (m.mono fun X ⟨g,O,N⟩=>?_)))));cases N;exact⟨b,O,rfl⟩
   cases z.inv with
   |pe L m=>obtain⟨b,r,rfl⟩:=L;refine aX (i b r H) (I.same h e (.w (.one (.pe ⟨_,_,rfl⟩ (m.mono fun X ⟨g,y,c0,O,e3,N⟩=>?_)))));cases N;exact⟨b,y,c0,O,e3,by rw[YM]⟩
   rename_i y S f0 T D;cases z.inv with
   |@pf _ _ _ _ _ _ b r c vs U Y J W=>refine aX (i b _ H) (I.same h e (.w (.one ?_)));have:=R.pf (C:=aT A w env) (j:=D+B.offset) U Y J W;rw[show r+(T*y+D)+B.offset=r+(T*y+(D+B.offset)) from by omega];exact this
   exact e.elim;exact e.elim
theorem xK{v:PV}{u:ag}(h:isLit v=some u):v=o9 u:=by unfold isLit at h;split at h;cases h;rfl;cases h
theorem yD{t e:bu}{b off n len c:Nat}{k:IntKind}{i:Int}(f:P.underlying t=some (.slice e))(d:ql P e=some n)(h0:0<=i)(h1:i<len)(w:ae) :
  (Instr.indexAt t (.slice (some ⟨b,off,none⟩) len c) (.int k i)).run P w=.ok (.pointer (some ⟨b,off+i.toNat*n,none⟩)) w:=by
 obtain⟨j,h,g⟩:=oK d;simp[Instr.indexAt,zg f,asIntOf,sizeOf,YF,h,g,h0,h1,add_lit]
theorem pX{t e:bu}{b off n len:Nat}{k:IntKind}{i:Int}(d:P.underlying t=some (.array len e))(c:ql P e=some n)(h0:0<=i)(h1:i<len)(w:ae) :
  (Instr.indexAt t (.pointer (some ⟨b,off,none⟩)) (.int k i)).run P w=.ok (.pointer (some ⟨b,off+i.toNat*n,none⟩)) w:=by
 obtain⟨h,g,f⟩:=oK c;simp[Instr.indexAt,zg d,asIntOf,sizeOf,YF,g,f,h0,h1,add_lit,Instr.sureAddr]
theorem aQz(h:gu A s a w env){t:bu}{x y:nz}(ho:o.op=.indexAddr t x y){p iv:PV}(I:RV (aT A w env) p (a.eval x))(hv:RV (aT A w env) iv (a.eval y))(k:(aCb P t p iv).ok none s F)(U:Fin A s a o K F):o.wp P a w K Q:=by
 unfold aCb at k;split at k
 ·rename_i kk i T;have hy:a.eval y=.int kk i:=by rw[xK T] at hv;exact hv.eu
  have l:∀ q,(Instr.indexAt t (a.eval x) (.int kk i)).run P w=.ok q w->(uu a.eval o).run P w=.ok (.value q) w:=fun q hq=>by simp[uu,ho,hy,hq]
  generalize hq:a.eval x=q at I l;cases G:P.underlying t with
  |none=>rw[G] at k;exact k.elim| some d=>
   rw[G] at k
   cases d<;>try exact k.elim
   ·rename_i e;dsimp only at k;split at k
    ·rename_i n len f;cases r:ql P e with
     |none=>rw[r] at k;exact k.elim| some Z=>
      rw[r] at k;dsimp only at k
      cases L:bz n Z<;>rw[L] at k
      exact k.elim;obtain⟨⟨E,D⟩,B⟩:=k;obtain rfl:=iq L;cases I.inv with
      |@sl _ _ _ _ _ X hr a4 O=>obtain⟨g1,A1,c,rfl,g2,g3,g4⟩:=hr;obtain⟨b,u,rfl,J⟩:=g4 a_;refine aX (l _ (yD G r E D w)) (U.same h B (.w (.one ?_)));have:=R.pf (C:=aT A w env) (n:=n) (len:=len) (f:=f) (i:=i.toNat) (j:=0) (b:=b) (o:=u) (c:=c) (vs:=X) ⟨g1,_,c,rfl,g2,g3,fun _=>⟨b,u,rfl,J⟩⟩ (a4 b rfl a_) O a_;exact this
    ·rename_i x1 z n u len;cases r:ql P e with
     |none=>rw[r] at k;exact k.elim|some Z=>
      rw[r] at k;dsimp only at k
      cases L:bz n Z<;>rw[L] at k
      exact k.elim;obtain⟨g,vr,ob,a3,k⟩:=k;have a2:=eG k;clear k;obtain⟨hg,k⟩:=a2;obtain⟨hd,O,a1⟩:=kL h a3 hg
      cases V:bz z vr<;>cases ob<;>simp only[V] at k<;>try exact k.elim
      rename_i e' n2 a6 f;obtain rfl:=iq V;obtain rfl:=iq L;obtain⟨⟨E,D⟩,B⟩:=k;obtain⟨A0,Y,c0,rfl,a7,a0⟩:=I.zl O;obtain⟨X,S,a8⟩:=a1;rcases S.2 with⟨e0,_⟩|⟨g1,cap,cur,t',fr,e0,_⟩
      cases e0;omega;cases e0;subst a0;simp only[Option.map_some,add_lit] at l I;refine aX (l _ (yD G r E D w)) (U.same h B (.w (.one (.pe ⟨_,_,rfl⟩ ⟨z,_,O,dE _,fun _=>⟨g1,_,_,rfl,by omega,?_⟩⟩))));rw[Y8,lL,YP]
    exact k.elim
   rename_i len e;dsimp only at k;split at k;rename_i x1 z u r;obtain⟨⟨E,D⟩,B⟩:=k;cases I.inv with
   |pt H N=>obtain⟨b,W,rfl⟩:=H;refine aX (l _ (pX G r E D w)) (U.same h B (.w (.one (.pk ⟨_,_,rfl⟩ (N.mono fun hd ⟨g,e1,e2⟩=>?_)))));cases e2;exact⟨b,e1,by rw[Y_]⟩
   rename_i Y a5 f i0 j r;obtain⟨⟨E,D⟩,B⟩:=k;cases I.inv with
   |@pf _ _ _ _ _ _ b W c X hr L O hi=>refine aX (l _ (pX G r E D w)) (U.same h B (.w (.one ?_)));have:=R.pf (C:=aT A w env) (i:=i0) (j:=j+i.toNat) hr L O hi;rw[show W+(i0*Y+j)+i.toNat*1=W+(i0*Y+(j+i.toNat)) from by omega];exact this
   rename_i m x1 z u r;obtain⟨⟨E,D⟩,B⟩:=k;cases I.inv with
   |pt H N=>obtain⟨b,W,rfl⟩:=H;refine aX (l _ (pX G r E D w)) (U.same h B (.w (.one (.pt ⟨_,_,rfl⟩ (N.mono fun hd ⟨g,e1,e2⟩=>?_)))));cases e2;exact⟨b,e1,rfl⟩
   exact k.elim
 exact k.elim
theorem RV.Cm{C:Ctx}{n len:Nat}{f:Nat->List PC}{v:ag}(h:RV C (.w (.one (.sl n len f))) v):∃ A c,v=.slice A len c:=by
 cases h.inv with
 |sl b _ _=>obtain⟨_,A,c,rfl,_⟩:=b;exact⟨_,_,rfl⟩
theorem Vq(h:gu A s a w env){x:nz}{t:bu}(p:o.op=.call { callee:=.builtin .len,args:=#[x],argTypes:=#[t] }){v:PV}(i:RV (aT A w env) v (a.eval x))(g:(Vr P t v).ok none s F)(j:Fin A s a o K F):o.wp P a w K Q:=by
 have d:∀ n:Int,(Builtin.len_ #[t] o.type #[a.eval x]).run P w=.ok (goInt n) w->(uu a.eval o).run P w=.ok (.value (.int .i64 n)) w:=fun n m=>by simp only[uu,p,resolve,invoke,builtin,Sem.run_bind,Sem.run_pure,Result.andThen_ok,List.map_toArray,List.map_cons,List.map_nil,m];rfl
 unfold Vr at g;generalize r:a.eval x=q at i d;split at g;rename_i e _ len _ f;obtain⟨l,c,rfl⟩:=i.Cm;exact aX (d len (by simp[Builtin.len_,zg f])) (j.same h g (.w (.one (.lit rfl))));rename_i e _ _ _ _ len f;cases i.inv with
 |ow k _=>obtain⟨l,c,rfl⟩:=k;exact aX (d len (by simp[Builtin.len_,zg f])) (j.same h g (.w (.one (.lit rfl))))
 rename_i e _ _ _ len f;cases i.inv with
 |ob k _=>obtain⟨l,c,rfl⟩:=k;exact aX (d len (by simp[Builtin.len_,zg f])) (j.same h g (.w (.one (.lit rfl))))
 rename_i e f;have:=i.eu;subst this;exact aX (d 0 (by simp[Builtin.len_,zg f])) (j.same h g (.w (.one (.lit rfl))));rename_i b f;have:=i.eu;subst this;exact aX (d b.size (by simp[Builtin.len_,zg f])) (j.same h g (.w (.one (.lit rfl))));exact g.elim
end
end Pv
end Go.Proofs.YtndpjopifkbgiaaGreatDoor
