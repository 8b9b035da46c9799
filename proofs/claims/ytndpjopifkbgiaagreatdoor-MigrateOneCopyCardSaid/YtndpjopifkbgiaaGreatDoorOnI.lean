/-
  Several texts in one file.
-/
import Derived.Test.YtndpjopifkbgiaaGreatDoorOnH
import Derived.Test.YtndpjopifkbgiaaGreatDoorCards
import Derived.Test.YtndpjopifkbgiaaGreatDoorTie
import Derived.Test.YtndpjopifkbgiaaGreatDoorOnA
import Derived.WalkKit
import Derived.ProofKit
import Derived.OpenShut
import Derived.ShutString
import Derived.ChangeOld
import Derived.Lib.SmallJoins
import Derived.Deep.Slices
import Derived.Deep.DeepHandedRow
import Derived.Lib.LaidTab
import Derived.Stop.LaidErr
import Derived.Test.YtndpjopifkbgiaaGreatDoorOnD
set_option maxRecDepth 100000
set_option maxHeartbeats 4000000
namespace Go.Proofs.YtndpjopifkbgiaaGreatDoor
open Go.RowKit Go.Proofs.Tryz
open _root_.List renaming append_nil->Lt,nil_append->Ha,cons_append->yz,mem_cons_self->MM,flatMap_cons->ZQ,range->AC,getElem?_cons_zero->Yv,getElem?_cons_succ->Ya,getElem?_eq_none->YQ,flatMap_append->aEX,getElem?_map->XN,range_succ->aFL,drop_drop->aAV
open _root_.Go renaming TypeId->bi,World->ae,Value->ag,Program->dE
namespace Pv
def bCy:jl->Option (Prop×PV)
 |[]=>some (True,rf true)|_=>none
theorem aYr:d_ prog af 9 (aU true bCy):=by refine aT (aB func9 ah rfl) (fun b p r a c=>?_);unfold bCy at a;split at a;cases a;exact aYq;cases a
theorem aLo{P:dE}{I:je}{f:Nat}{args:jl}{b:Bool}(hI:∀ w a,Ext w a->I w->I a)(h:DI P I f [] [] args (rf b)):fF P I f true args (rf b):=by
 intro w c k q r;have l:∀ (i:Nat->ag),Bc [] i=Non:=fun i=>funext fun b=>propext ⟨fun⟨x,o,h,_⟩=>(by cases h),False.elim⟩;have t:o5 ⟨w,c,AB [] fun _=>undef⟩ args k:=by have:AB [] (fun _=>undef)=fun _=>none:=rfl;rw[this];exact r
 refine (h w c k (fun _=>undef) (fun a d=>hI w a (by rw[l] at d;exact d) q) (fun b ⟨x,o,h,_⟩=>by cases h) (fun x y b p=>by cases p) (fun x o h=>by cases h) t).mono ?_;rintro e a ⟨m,j,rfl,n,_,_,_,_,g⟩;rw[l] at n;refine⟨j,rfl,n,?_⟩;cases g with
 | w g=>cases g with
  |one g=>cases g with
   |lit s=>exact .w (.one (.lit s))
def Ug(S:qf)(e:EvS)(os:ug)(ys:jl):Option (Prop×ug×PV):=some (os=Ac S/\ys=[dm (.pt 900010 0 0),.w (.agg (PE e))]/\ET S/\vw e,Ac (stepS S e),.og [])
def aEJ(a:qf)(os:ug)(ys:jl):Option (Prop×ug×PV):=some (os=[]/\ys=[],Ac a,dm (.pt 900010 0 0))
theorem IM(S:qf)(e:EvS):d_ prog af 13 (wSpec false uy (Ug S e)):=aCv (aB func13 ah rfl) fun h g p a r c b=>by cases c;obtain⟨rfl,rfl,f,d⟩:=b;exact IU S e d f _ rfl
theorem OQ{a:qf}(hb:DI prog af 12 [] (Ac a) [] (dm (.pt 900010 0 0))):d_ prog af 12 (wSpec true uy (aEJ a)):=aCv (aB func12 ah rfl) fun f e p b r d c=>by cases d;obtain⟨rfl,rfl⟩:=c;exact hb
def ev0:EvS:=⟨0,0,0,0,0,false⟩
theorem NJ:vw ev0:=⟨g_,g_,g_,g_,g_⟩
def Zo(E:List EvS):Nat->dw:=fun i=>PE (E.getD i ev0)
def DR(a:qf)(E:List EvS)(i:Nat):qf:=(E.take i).foldl stepS a
theorem aNo(a:qf)(E:List EvS){i:Nat}(h:i<E.length):DR a E (i+1)=stepS (DR a E i) (E.getD i ev0):=by unfold DR;rw[lS E i h,List.foldl_append,zG,zH h];rfl
theorem NF{E:List EvS}(h:∀ e∈E,vw e)(i:Nat):vw (E.getD i ev0):=by
 rw[zG];cases a:E[i]? with
 |none=>exact NJ|some e=>exact h e (List.mem_of_getElem? a)
theorem aNp{a:qf}(h0:U1 a)(b:U0 1 a){E:List EvS}(c:∀ e∈E,vw e):∀ i,i<=E.length->i<=1000->U1 (DR a E i)/\U0 (1+i) (DR a E i)
 |0,_,_=>⟨h0,b⟩|i+1,g,h=>by obtain⟨f,d⟩:=aNp h0 b c i a_ a_;rw[aNo a E a_];exact aNl (n:=1+i) (NF c i) f d a_
def aEI(S:qf)(os:ug)(ys:jl):Option (Prop×ug×PV):=some (os=Ac S/\ys=[dm (.pt 900010 0 0)]/\ET S,Ac S,iy (aAi S))
theorem Lu(S:qf):d_ prog af 19 (wSpec false uy (aEI S)):=aCv (aB func19 ah rfl) fun f e p a r c b=>by cases c;obtain⟨rfl,rfl,d⟩:=b;exact aTs S d
theorem bCw:d_ prog af 5 (fun _ _=>.fail):=⟨aB func5 ah rfl,fun _ _ _ _ _ _ _ _ _ _ _ _ h=>h.elim⟩
def ocL(a S:qf)(e:EvS)(b:qf):List (Nat×Spec):=[(9,aU true bCy),(12,wSpec true uy (aEJ a)),(13,wSpec false uy (Ug S e)),(19,wSpec false uy (aEI b)),(5,fun _ _=>.fail)]
theorem ocM{b:qf}(hb:DI prog af 12 [] (Ac b) [] (dm (.pt 900010 0 0)))(S:qf)(e:EvS)(c:qf):jq prog af (find (ocL b S e c)):=⟨bG (fun p a=>by
 simp only[ocL,List.mem_cons,List.not_mem_nil,or_false] at a;rcases a with rfl|rfl|rfl|rfl|rfl;exact aYr;exact OQ hb;exact IM S e;exact Lu c
 exact bCw),dV⟩
def Vx(S:qf)(E:List EvS)(i:Nat):St:=⟨[(5,none,iy i),(4,none,dm (.pt 900010 0 0)),(3,none,rf true),(0,none,dm (.sl 6 E.length (Zo E)))],headW (Ac S)⟩
theorem one_walk{c:qf}(hb:DI prog af 12 [] (Ac c) [] (dm (.pt 900010 0 0)))(h0:U1 c)(V:U0 1 c){O:Ab}(Q:Rel O 1 c)(E:List EvS)(L:∀ e∈E,vw e) :
  DI prog af 5 [] [] [dm (.sl 6 E.length (Zo E))] (rf true):=by
 have M:=ocM hb c ev0 c;refine aFz func5 rfl rfl rfl rfl (fun x t l h=>by cases h) (fun q h=>by cases h) rfl (fun A hn G hS hI=>?_);refine mQ ?_;refine bC (fun g=>?_) (fun g=>?_);refine aN ?_;exact bI (fun a w f=>⟨.inr rfl,_,⟨_,ai,b_,rfl,rfl,rfl,fun q C=>by cases C⟩,f⟩);have h4:E.length<=10:=by have:=of_decide_eq_false g;omega
 refine qM ?_ ?_;simp;exact fun a b h=>iQ c (a,b) h;refine lM ?_
 refine bF (s':=Vx (DR c E 0) E 0) (fun a w f=>(
  (
   f.jh G (R:=[(900012,zi c),(900018,zq c)]) (kT:=[5,4,3,0]) (kO:=uy) ai (by
   exact AU
   ))
  ).same ?_ ?_) ?_
 exact jg
 exact
  (Am _)
 refine aS ?_;refine fJ E.length (fun i t=>t=Vx (DR c E i) E i/\∃ a,Rel a (1+i) (DR c E i)) 0 ⟨rfl,O,by rw[show (1:Int)+((0:Nat):Int)=1 from rfl,show DR c E 0=c from rfl];exact Q⟩ a_ (fun i t Y X=>?_);obtain⟨rfl,a,K⟩:=Y;obtain⟨B,z⟩:=aNp h0 V L i X a_;have H:=ET.of B z a_;have d:=fun h=>aNo c E (i:=i) h;obtain⟨S,I⟩:=lm (DR c E i);rw[I] at B z H d K ⊢;clear M;have M:=ocM hb S (E.getD i ev0) (stepS S (E.getD i ev0));refine bC (fun g=>?_) (fun g=>?_);have r:i<E.length:=by simp at g;omega
 have F:=NF L i;refine jM ?_;refine aS ?_;refine aH ?_ ?_;have s:=iQ S;have N:=F;rw[zG] at N;simp[Ac] at s;simp;exact⟨r,⟨rfl,rfl,H,N⟩,s,fun a b h=>iQ _ (a,b) h⟩;have d:=d r;obtain⟨b,j⟩:=rel_step K F H a_;have y:ET (stepS S (E.getD i ev0)):=by obtain⟨U,T⟩:=aNl F B z a_;exact ET.of U T a_
 have D:=aZz j a_;obtain⟨Z,J⟩:=lm (stepS S (E.getD i ev0));rw[J] at M j y D d ⊢;have u:=j.bad;obtain⟨p,o,n,m,k,P⟩:=Z;obtain rfl:P=false:=u
 refine bF (s':=Vx ⟨p,o,n,m,k,false⟩ E i) (fun a w f=>(
  (
   f.jh G (R:=[(900012,zi ⟨p,o,n,m,k,false⟩),(900018,zq ⟨p,o,n,m,k,false⟩)]) (kT:=[5,4,3,0]) (kO:=uy) ai (by
   exact AU
   ))
  ).same ?_ ?_) ?_
 exact jg
 exact
  (Am _)
 refine aH ?_ ?_;have s:=iQ (⟨p,o,n,m,k,false⟩:qf);simp[Ac] at s;simp;exact⟨⟨rfl,y⟩,s,fun a b h=>iQ _ (a,b) h⟩;refine dU (fun g=>?_) (fun g=>?_);exfalso;change decide ((aAi ⟨p,o,n,m,k,false⟩:Int) > 1)=true at g;have:=of_decide_eq_true g;omega;refine jD ?_;refine fP ?_
 refine fun a w f=>⟨i+1,_,a_,a_,⟨rfl,b,by rw[d,show (1:Int)+((i+1:Nat):Int)=1+(i:Int)+1 from a_];exact j⟩,(
  (
   f.jh G (R:=[(900012,zi ⟨p,o,n,m,k,false⟩),(900018,zq ⟨p,o,n,m,k,false⟩)]) (kT:=[5,4,3,0]) (kO:=uy) ai (by
   exact AU
   ))
  ).same ?_ ?_⟩
 refine .cons ?_ ((iP _));have W:IntKind.wrap .i64 ((i:Int)+1)=((i+1:Nat):Int):=by rw[IntKind.wrap_i64];omega
 show iy _=_;rw[W];rw[d]
 exact
  (Am _)
 refine dY ?_;change jw _ _ _ _ _;refine aN ?_;exact bI (fun a w f=>⟨.inr rfl,_,⟨_,ai,b_,rfl,rfl,rfl,fun q C=>by cases C⟩,f⟩)
theorem Qn(E:List EvS)(i:∀ e∈E,vw e):fF prog af 5 true [dm (.sl 6 E.length (Zo E))] (rf true):=by
 obtain⟨n,a,l,B⟩:=aXq;have g:=TT (some TI,qi (cl 0) (cl 1) a (bT 0),n) _ _ _ rfl rfl rfl B.cr;rw[show Gs (some TI,qi (cl 0) (cl 1) a (bT 0),n)=false from rfl] at g;have j:qc (qi (cl 0) (cl 1) a (bT 0)):=by have:=aJd [] _ (aKu Oj) (D5 (bT 0)) 0 (aQc _ rfl);rw[B.cr] at this;exact this
 have d:∀ k,k<3->qc (E8 (some TI,qi (cl 0) (cl 1) a (bT 0),n) (D5 (bT 1)) (D5 (bT 2)) k):=fun k c=>by rcases ES c with rfl|rfl|rfl;exact j;exact aQc _ rfl;exact aQc _ rfl
 exact aLo bJ (one_walk g ⟨d,fun _ _=>Nat.le_refl 1,(fun k c f h=>by rw[List.mem_singleton.1 h];exact d k c),(fun o b=>by cases b),(fun o b=>by cases b)⟩ ⟨fun _ _=>Nat.le_refl 1,Nat.zero_le 1,Nat.zero_le 1,fun _ _=>Nat.zero_le 1⟩ (bDp B) E i)
end Pv
section
open Go.ChangeShapes Go.WideShapes Go.ChangeAt Go.RowKit Go.Joins Go.Deep
open Go.ChangeMaps (open_string shut_string)
set_option linter.unusedVariables false
theorem own:ownKnob prog.godebug=none:=ah
theorem laidOut:laidOutB prog=true:=ah
theorem gK:prog.globalNamed "bootchain/sha.constants" = some 2:=ah
theorem X6:(prog.globals[2]?).map (·.type)=some 269:=ah
theorem gH:prog.globalNamed "bootchain/sha.start" = some 0:=ah
theorem gHType:(prog.globals[0]?).map (·.type)=some 263:=ah
theorem Xc:prog.cellsOf 269=64:=ah
theorem Xd:prog.cellsOf 263=8:=ah
theorem aXk:prog.cellsOf 203=1:=ah
def aHv(l:List UInt32):List Int:=l.map fun x=>(x.toNat:Int)
theorem aET:(Rows.laid_bootchain_sha_constants:DataW Unit)=Lib.tabData .u32 (aHv yu):=ah
theorem aEU:(Rows.laid_bootchain_sha_start:DataW Unit)=Lib.tabData .u32 (aHv tY):=ah
theorem aEy{W:ae}{a:String}{l:List UInt32}{g:Nat}(h:Lib.TabIs prog W a .u32 (aHv l))(f:prog.globalNamed a=some g):W.rangeAt g 0 (l.map w32):=by
 intro j v d;rw[XN] at d;obtain⟨x,b,rfl⟩:=Option.map_eq_some_iff.1 d;have e:j<l.length:=by rcases Nat.lt_or_ge j l.length with c|c;exact c;rw[YQ c] at b;cases b
 have:=h.cell f j (by unfold aHv;simpa using e);rw[show (aHv l).getD j 0=(x.toNat:Int) from by unfold aHv;simp[List.getD,b]] at this;simpa[w32] using this
theorem aHg{W:ae}(h:laidMetH prog [("bootchain/sha.constants",Rows.laid_bootchain_sha_constants),("bootchain/sha.start",Rows.laid_bootchain_sha_start)] W):af W:=by
 have a:laidMet prog [("bootchain/sha.constants",Rows.laid_bootchain_sha_constants),("bootchain/sha.start",Rows.laid_bootchain_sha_start)] W:=h;have b:=laidMet.tail a;rw[aET] at a;rw[aEU] at b
 exact⟨aEy (Lib.tabIs_of_head gK X6 underlying269 underlying203 aXk Xc a) gK,
  aEy (Lib.tabIs_of_head gH gHType underlying263 underlying203 aXk Xd b) gH⟩
def aWi(cs:ji):Obj->Obj
 |.cells _ t frozen=>.cells cs.toArray t frozen|o=>o
noncomputable def laidWorld (os:Os):ae:=
 { World.holding prog os ⟨#[],#[],[]⟩ with
  heap:=((World.holding prog os ⟨#[],#[],[]⟩).heap.modify 2 (aWi (yu.map w32))).modify 0 (aWi (tY.map w32)) }
section
variable {H:Type} {enc:bi×ag->H} {P:dE} {w:ae} {base:Nat} {spare:Nat->Bool} {held:Bool}
theorem aYg{t e:bi}{k:Nat}{y:Nat}{cs:ji}{x:DataW H×List MemPlace}(V:P.underlying t=some (.slice e))(hk:P.cellsOf e=k)(K:0<k)(h:DataW.trod enc P w base spare held y t cs=some x) :
  ∃ (v:ag) (n:Nat) (E:Nat->ji) (m:Nat) (Y:Nat->DataW H×List MemPlace),cs=[v]/\Reads w k v n ((AC n).flatMap E)/\∀ i,i<n->(E i).length=k/\DataW.trod enc P w base spare held m e (E i)=some (Y i):=by
 rcases open_slice V h with⟨rfl,_⟩|⟨a,len,cap,m,n,D,T,O,hb,Z,X,I,hx,N⟩
 exact⟨_,0,fun _=>[],0,fun _=>(.nil,[]),rfl,by simpa using Reads.nil w k,fun i N=>a_⟩
 ·rw [hk] at N
  have g:len<=m:=by rw[I];split<;>omega
  have d:∀ i,∃ z,i<m->w.cells? base (a.add (i*k)) k=some z/\DataW.trod enc P w base spare held n e z=some (D i,T i):=fun i=>by by_cases h:i<m;obtain⟨c,hc⟩:=N i h;exact⟨c,fun _=>hc⟩;exact⟨[],fun A=>absurd A h⟩
  refine⟨_,len,fun i=>Classical.choose (d i),n,fun i=>(D i,T i),O,?_,fun i a0=>?_⟩;have o:∀ i,i<m->(Classical.choose (d i)).length=k/\∀ j,j<k->w.cell? ((a.add (i*k)).add j)=(Classical.choose (d i))[j]?:=fun i L=>by obtain⟨_,r,h3⟩:=World.cells?_some (Classical.choose_spec (d i) L).1;exact⟨r,h3⟩
  have f:∀ j,j<=m->((AC j).flatMap fun i=>Classical.choose (d i)).length=j*k:=by
   intro j
   induction j with
   |zero=>intro _;simp|succ j F=>intro hj;rw[aFL,aEX,List.length_append,F a_];simp[(o j a_).1,Nat.succ_mul]
  have l:∀ j,j<=m->∀ q u,((AC j).flatMap fun i=>Classical.choose (d i))[q]?=some u->w.cell? (a.add q)=some u:=by
   intro j
   induction j with
   |zero=>intro _ q u h;simp at h| succ j F=>
    intro hj q u h;rw[aFL,aEX,List.getElem?_append] at h;rw[f j a_] at h;by_cases S:q<j*k;rw[au S] at h;exact F a_ q u h;rw[ay S] at h;simp only[ZQ,List.flatMap_nil,List.append_nil] at h
    have r:=(o j a_).2 (q-j*k) (by
     have:=(o j a_).1;rcases Nat.lt_or_ge (q-j*k) k with A|A;exact A
     rw[YQ a_] at h;cases h)
    rw[bBf,show j*k+(q-j*k)=q from a_] at r;rw[r,h]
  refine⟨f len g,_,cap,rfl,Z,X,fun W=>?_⟩;have J:=f len g;obtain⟨B,G⟩:∃ B,((AC len).flatMap fun i=>Classical.choose (d i))[0]?=some B:=⟨_,zH (by rw[J];exact Nat.mul_pos W K)⟩;have Q:=l len g 0 B G;obtain⟨b,C,s⟩:=a;have p:s=none:=by simpa[Addr.add] using World.cell?_spot Q
  subst p;refine⟨b,C,rfl,fun j u U=>?_⟩;have:=l len g j u U;rwa [add_lit] at this;have r:=Classical.choose_spec (d i) a_;exact⟨(World.cells?_some r.1).2.1,r.2⟩
end
end
section
open Go.ChangeShapes Go.WideShapes Go.ChangeAt Go.RowKit Go.Joins Go.Deep
section
variable {H:Type} {enc:bi×ag->H} {P:dE} {w:ae} {base:Nat} {spare:Nat->Bool} {held:Bool}
end
end
section
open Go.ChangeShapes Go.WideShapes Go.ChangeAt Go.RowKit Go.Joins Go.Deep
def splitBy:List Nat->ji->List ji
 |[],_=>[]|n::ns,cs=>cs.take n::splitBy ns (cs.drop n)
def vI:Nat->List Nat->List (Nat×Nat)
 |_,[]=>[]|o,n::ns=>(o,n)::vI (o+n) ns
theorem uO:∀ (b:List Nat) (a:ji),a.length=b.sum->(splitBy b a).flatten=a
 |[],a,h=>by simpa[splitBy] using (List.eq_nil_of_length_eq_zero (by simpa using h)).symm|n::b,a,h=>by rw[List.sum_cons] at h;rw[splitBy,List.flatten_cons,uO b (a.drop n) (by rw[List.length_drop];omega),List.take_append_drop]
theorem aEf:∀ (b:List Nat) (d:ji) (i o n:Nat) (c:Nat),(vI c b)[i]?=some (c+o,n)->(splitBy b d).getD i []=(d.drop o).take n
 |[],d,i,o,n,c,h=>by simp[vI] at h|m::b,d,0,o,n,c,h=>by simp only[vI,Yv,Option.some.injEq,Prod.mk.injEq] at h;obtain⟨j,f⟩:=h;obtain rfl:o=0:=a_;subst f;rfl
 | m :: b,d,i+1,o,n,c,h=>by
  simp only[vI,Ya] at h
  have g:m<=o:=by
   have:∀ (b:List Nat) (a i o n:Nat),(vI a b)[i]?=some (o,n)->a<=o:=by
    intro b
    induction b with
    |nil=>intro a i o n h;simp[vI] at h|cons k b e=>
     intro a i o n h;cases i with
     |zero=>simp only[vI,Yv,Option.some.injEq,Prod.mk.injEq] at h;omega|succ i=>simp only[vI,Ya] at h;have:=e _ _ _ _ h;omega
   have:=this _ _ _ _ _ h;omega
  have:=aEf b (d.drop m) i (o-m) n (c+m) (by rw[show c+m+(o-m)=c+o from a_];exact h);show (splitBy b (d.drop m)).getD i []=_;rw[this,aAV,show m+(o-m)=o from a_]
theorem aYf{H:Type}{enc:bi×ag->H}{P:dE}{w:ae}{b:Nat}{a:Nat->Bool}{held:Bool}{t:bi}{l:Array Field}{ns:List Nat}{d:Nat}{cs:ji}{x:DataW H×List MemPlace}(p:P.underlying t=some (.struct l))
  (k:l.toList.map (fun f=>(f.offset,P.cellsOf f.type))=vI 0 ns) (hc:P.cellsOf t=ns.sum) (h:DataW.trod enc P w b a held d t cs=some x) :
  (splitBy ns cs).flatten=cs/\∀ i f,l[i]?=some f->∃ m y,DataW.trod enc P w b a held m f.type ((splitBy ns cs).getD i [])=some y:=by
 obtain⟨n,o,_,_,c,e,q⟩:=DataW.trod_struct p h;refine⟨uO ns cs (by rw[c,hc]),fun i f j=>?_⟩;have s:=q i f j;have g:i<n.length:=by rw[e];exact (Array.getElem?_eq_some_iff.1 j).1
 have r:(vI 0 ns)[i]?=some (0+f.offset,P.cellsOf f.type):=by rw[<-k,XN,Array.getElem?_toList,j,Nat.zero_add];rfl
 rw[aEf ns cs i f.offset _ 0 r];exact⟨o,n[i],by rw[s,zH g]⟩
end
namespace Pv
open Go.ChangeShapes Go.WideShapes Go.ChangeAt Go.RowKit Go.Joins Go.Deep
theorem aWt{f:Type}(g:f->ji)(n:Nat):∀ (l:List f),(∀ a∈l,(g a).length=n)->∀ (i:Nat) (c:i<l.length),((l.flatMap g).drop (i*n)).take n=g l[i]
 |[],_,i,c=>by simp at c|a::l,h,0,c=>by rw[Nat.zero_mul,List.drop_zero,ZQ,List.take_append_of_le_length (by rw[h a MM];omega),List.take_of_length_le (by rw[h a MM];omega)];rfl|a::l,h,i+1,c=>by
  have e:i<l.length:=by simpa using c
  rw[ZQ,show (i+1)*n=(g a).length+i*n by rw[h a MM,Nat.succ_mul,Nat.add_comm],<-aAV,List.drop_left,aWt g n l (fun b j=>h b (List.mem_cons_of_mem _ j)) i e];rfl
def argX(w:ae):Ctx:={ w:=w,ok:=fun _=>True,env:=fun _=>none }
section
variable {H:Type} {enc:bi×ag->H} {w:ae} {base:Nat} {spare:Nat->Bool} {held:Bool}
variable {v:ag} {d:DataW H} {p:List MemPlace} {W:ae}
theorem fF.law{P:dE}{I:je}{f:Nat}{new:Bool}{args:jl}(h:fF P I f new args (rf true)){vs:ji}(hI:I W)(b:o5 (argX W) args vs):Calls P f vs.toArray W fun e i=>e=.returned (.bool true)/\Ext W i:=by refine (h W (fun _=>True) vs hI b).mono ?_;rintro e j ⟨a,rfl,g,c⟩;exact⟨congrArg Ending.returned c.h_,g⟩
end
end Pv
end Go.Proofs.YtndpjopifkbgiaaGreatDoor
