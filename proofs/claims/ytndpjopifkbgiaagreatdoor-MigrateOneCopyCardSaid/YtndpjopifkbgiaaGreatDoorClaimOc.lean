/-
 The card of MigrateOneCopy: for every input the law returns true.
-/
import Derived.Test.YtndpjopifkbgiaaGreatDoorOnA
import Derived.Test.YtndpjopifkbgiaaGreatDoorOnB
import Derived.Test.YtndpjopifkbgiaaGreatDoorOnI
set_option maxRecDepth 100000
namespace Go.Proofs.YtndpjopifkbgiaaGreatDoor
open Go.ChangeShapes Go.WideShapes Go.ChangeAt Go.RowKit Go.Joins Go.Deep
open Go.ChangeMaps (open_string shut_string)
set_option linter.unusedVariables false
namespace Pv
section
variable {H:Type} {enc:TypeId×Value->H} {w:World} {base:Nat} {spare:Nat->Bool} {held:Bool}
theorem u8_in{z:Int}(a:(Lit.int .u8 z).wf=true):0<=z/\z<256:=by simp[Lit.wf,IntKind.min,IntKind.max,IntKind.signed,IntKind.bits] at a;omega
theorem Px{k:Nat}{cs:ji}{x:DataW H×List MemPlace}(h:DataW.trod enc Tryz.prog w base spare held k 46 cs=some x):∃ e:EvS,vw e/\RL (argX w) (PE e) cs:=by obtain⟨l,i⟩:=aYf (ns:=[1,1,1,1,1,1]) Tryz.underlying46 ah ah h;obtain⟨V,O,s⟩:=i 0 _ rfl;obtain⟨U,N,r⟩:=i 1 _ rfl;obtain⟨T,L,q⟩:=i 2 _ rfl;obtain⟨S,K,o⟩:=i 3 _ rfl;obtain⟨Q,J,n⟩:=i 4 _ rfl;obtain⟨P,I,m⟩:=i 5 _ rfl;have j:cs=(splitBy [1,1,1,1,1,1] cs).getD 0 []++((splitBy [1,1,1,1,1,1] cs).getD 1 []++((splitBy [1,1,1,1,1,1] cs).getD 2 []++((splitBy [1,1,1,1,1,1] cs).getD 3 []++((splitBy [1,1,1,1,1,1] cs).getD 4 []++((splitBy [1,1,1,1,1,1] cs).getD 5 []++[]))))):=l.symm;obtain⟨a,G,_,A⟩:=DataW.trod_int Tryz.underlying5 s;obtain⟨b,F,_,z⟩:=DataW.trod_int Tryz.underlying5 r;obtain⟨c,E,_,y⟩:=DataW.trod_int Tryz.underlying5 q;obtain⟨d,D,_,u⟩:=DataW.trod_int Tryz.underlying5 o;obtain⟨f,C,_,t⟩:=DataW.trod_int Tryz.underlying5 n;obtain⟨g,B,_⟩:=DataW.trod_bool Tryz.underlying4 m;rw[G,F,E,D,C,B] at j;refine⟨⟨a,b,c,d,f,g⟩,⟨u8_in A,u8_in z,u8_in y,u8_in u,u8_in t⟩,?_⟩;rw[j];exact .cons (xs:=[_]) (.lit rfl) (.cons (xs:=[_]) (.lit rfl) (.cons (xs:=[_]) (.lit rfl) (.cons (xs:=[_]) (.lit rfl) (.cons (xs:=[_]) (.lit rfl) (.cons (xs:=[_]) (.lit rfl) .nil)))))
theorem I9{f:Nat}{cs:ji}{x:DataW H×List MemPlace}(h:DataW.trod enc Tryz.prog w base spare held f 44 cs=some x):∃ (v:Value) (l:List EvS),cs=[v]/\(∀ e∈l,vw e)/\R (argX w) (.sl 6 l.length (Zo l)) [v]:=by
 obtain⟨v,n,E,m,Y,rfl,j,q⟩:=aYg (k:=6) Tryz.underlying44 ah a_ h;have y:∀ i,∃ s:EvS,vw s/\(i<n->RL (argX w) (PE s) (E i)):=fun i=>by by_cases c:i<n;obtain⟨s,t,r⟩:=Px (q i c).2;exact⟨s,t,fun _=>r⟩;exact⟨ev0,NJ,fun h=>absurd h c⟩
 obtain⟨S,o⟩:=Classical.axiomOfChoice y;refine⟨v,(List.range n).map S,rfl,fun e u=>?_,?_⟩;obtain⟨i,_,rfl⟩:=List.mem_map.1 u;exact (o i).1;rw[List.length_map,List.length_range];refine .sl j (fun b z g=>⟨trivial,j.Cj a_ g b z⟩) (fun i c=>?_);rw[aWt E 6 (List.range n) (fun a A=>(q a (List.mem_range.1 A)).1) i (by simpa using c)];have:=(o i).2 c;unfold Zo;rw[zG,List.getElem?_map,List.getElem?_range c,List.getElem_range];exact this
variable {v:Value} {d:DataW H} {p:List MemPlace} {W:World}
theorem Jm(f:Value.okWide Tryz.prog W .any base 44 v)(h:DataW.Trod enc Tryz.prog W 0 (fun _=>true) true 44 v d p):∃ l:List EvS,(∀ e∈l,vw e)/\RV (argX W) (dm (.sl 6 l.length (Zo l))) v:=by obtain⟨k,a,c,rfl⟩:=okWide_slice Tryz.underlying44 f;obtain⟨j,h⟩:=h;obtain⟨v,l,b,i,g⟩:=I9 h;simp[Value.cells] at b;subst b;exact⟨l,i,.w (.one g)⟩
end
end Pv
theorem yE{H:Type}{enc:TypeId×Value->H}(a:Value)(i:DataW H)(f:List MemPlace)(W:World)(base:Nat)(g:af W)
  (b:Value.okWide Tryz.prog W .any base 44 a) (h0:DataW.Trod enc Tryz.prog W 0 (fun _=>true) true 44 a i f) :
  Calls Tryz.prog 5 #[a] W fun e j=>e=.returned (.bool true)/\Ext W j:=by
 obtain⟨E,h,c⟩:=Pv.Jm b h0;exact (Pv.Qn E h).law g ⟨c,trivial⟩
theorem aAc(os:Os):laidMet Tryz.prog Rows.migrateOneCopyRow.laid ((laidWorld os).forCall (fun _ _=>0) ⟨#[],#[.slice none 0 0],[]⟩).memory:=laidMet_of_run' 8 ah ah
theorem wW(os:Os){H:Type}(enc:TypeId×Value->H):∃ a,DataW.whole enc Tryz.prog ((laidWorld os).forCall (fun _ _=>0) ⟨#[],#[.slice none 0 0],[]⟩).memory Tryz.f5.params.toList Rows.migrateOneCopySpec.vars false (#[.slice none 0 0]:kw).toList 8=some ([.nil],[],a):=⟨[],ah⟩
theorem vM(os:Os)(a:os.Started)(H:Type)(enc:TypeId×Value->H)(F:Stop.Interp) :
  ReturnsInHanded {} Tryz.checked os 5 .any ((OpenSpec.ofChange Rows.migrateOneCopySpec).preRow enc Tryz.prog Tryz.f5 Rows.migrateOneCopyRow.domain false Rows.migrateOneCopyRow.laid) (((OpenSpec.ofChange Rows.migrateOneCopySpec).at F).post enc Tryz.prog Tryz.f5 false true false false):=by
 obtain⟨i,J⟩:=wW os enc
 refine returnsInHanded_of_row (C:=Tryz.checked) (s:=OpenSpec.ofChange Rows.migrateOneCopySpec) own a ah Tryz.func5
  (
   witness_row_at (enc:=enc) (C:=Tryz.checked) false (laidWorld os) #[.slice none 0 0] rfl ah ah ah
   (OpenSpec.preRow_of_cond 8 J ah (fun k N=>by cases N) ah (aAc os))) ?_
 intro W base args V Z l b B _ _ _ T _ _;have S:=aHg T;have f:∀ (j:Nat) t v,Tryz.f5.params[j]?=some t->args[j]?=some v->Value.okWide Tryz.prog W .any base t v:=b;have y:=B;obtain⟨p,q,g,Q,rfl,O,K⟩:=B;have D:DataW.TrodAll enc Tryz.prog W 0 (fun _=>true) true Tryz.f5.params.toList args.toList V p:=g;rw[Tryz.params5] at D f;obtain⟨n,G,X,U,z,Y,u,rfl,rfl,E,I⟩:=trodAll_cons D;obtain⟨rfl,rfl,rfl⟩:=trodAll_nil I;obtain rfl:args=#[n]:=by cases args;simp_all
 obtain⟨rfl,rfl⟩:=trodVars_none Q;have A:=E;have o:∀ x∈z,x.block<W.heap.size:=by obtain⟨m,L⟩:=A;exact DataW.trod_lt m _ _ _ L
 have r:=f 0 _ n rfl rfl;clear g b;refine (yE n X z W base S r E).mono fun e W' ⟨P,c⟩=>?_;subst P;have c:=Ext.below c;exact⟨_,rfl,_,_,_,[],_,[],y,trodAll_mk1 (shut_bool Tryz.underlying4 _),(trodAll_cons_mk (Below.trod laidOut ah (of_decide_eq_true ah) A c o) trodAll_mk0),rfl,c.frame _,fun h=>by cases h⟩
theorem aAb:Rows.MigrateOneCopySaid:=
 OpenClaim.holds_of_cond 5 Tryz.f5 rfl rfl rfl rfl rfl rfl rfl ⟨rfl,rfl,rfl,rfl,rfl⟩ rfl rfl rfl rfl rfl ah Tryz.func5 ah
  (of_decide_eq_true ah) (by unfold Func.isWrapper;first|(rw[au (by decide +kernel)];kernel_rfl)|(rw[ay (by decide +kernel)];exact⟨rfl,rfl⟩))
  (fun b a H enc _ F=>by rw[OpenClaim.pre_eq_preRow];exact vM b a H enc F)
theorem wX(f:FuncId)(fn:Func)(e:Tryz.pinned.checked.prog.funcNamed "bootchain/bootchainlaw35.MigrateOneCopy" = some f)(b:Tryz.pinned.checked.prog.funcs[f]?=some fn) :
  Rows.migrateOneCopyCard.stood.looks=Tryz.pinned.checked.prog.looks []/\∀ (j:Nat) t,fn.params[j]?=some t->Tryz.pinned.checked.prog.wantsStandIn t=false:=by
 obtain rfl:f=5:=Option.some.inj ((show Tryz.prog.funcNamed "bootchain/bootchainlaw35.MigrateOneCopy" = some 5 by kernel_rfl).symm.trans e) |>.symm;obtain rfl:fn=Tryz.f5:=(Option.some.inj (Tryz.func5.symm.trans b)).symm;refine⟨ah,fun j t c=>?_⟩;rw[Tryz.params5] at c;have a:∀ t∈(#[44]:Array TypeId),Tryz.prog.wantsStandIn t=false:=by decide +kernel
 exact a t (Array.mem_of_getElem? c)
theorem migrateOneCopy_holds:Rows.MigrateOneCopyCardSaid:=Claim7.holds_tied_plain_at .later [] _ _ _ _ aAb (fun _ h=>by cases h) ah (fun _ h=>by cases h) migrateOneCopy_row_tie rfl ⟨rfl,rfl⟩ ah rfl wX ah
end Go.Proofs.YtndpjopifkbgiaaGreatDoor

