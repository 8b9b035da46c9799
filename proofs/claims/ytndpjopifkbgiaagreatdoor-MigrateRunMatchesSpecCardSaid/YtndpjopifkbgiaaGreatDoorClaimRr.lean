/-
 The card of MigrateRunMatchesSpec: for every input the law returns true.
-/
import Derived.Test.YtndpjopifkbgiaaGreatDoorRnA
import Derived.Test.YtndpjopifkbgiaaGreatDoorRnF
set_option maxRecDepth 100000
namespace Go.Proofs.YtndpjopifkbgiaaGreatDoor
open Go.ChangeShapes Go.WideShapes Go.ChangeAt Go.RowKit Go.Joins Go.Deep
open Go.ChangeMaps (open_string shut_string)
set_option linter.unusedVariables false
namespace Pv
section
variable {H:Type} {enc:TypeId×Value->H} {w:World} {base:Nat} {spare:Nat->Bool} {held:Bool}
theorem u8_in{z:Int}(a:(Lit.int .u8 z).wf=true):0<=z/\z<256:=by simp[Lit.wf,IntKind.min,IntKind.max,IntKind.signed,IntKind.bits] at a;omega
theorem Rh{k:Nat}{cs:jl}{x:DataW H×List MemPlace}(h:DataW.trod enc Tryz.prog w base spare held k 46 cs=some x):∃ e:EvS,zn e/\RL (argX w) (F6 e) cs:=by obtain⟨l,i⟩:=aKs (ns:=[1,1,1,1,1,1]) Tryz.underlying46 ai ai h;obtain⟨V,O,s⟩:=i 0 _ rfl;obtain⟨U,N,r⟩:=i 1 _ rfl;obtain⟨T,L,q⟩:=i 2 _ rfl;obtain⟨S,K,o⟩:=i 3 _ rfl;obtain⟨Q,J,n⟩:=i 4 _ rfl;obtain⟨P,I,m⟩:=i 5 _ rfl;have j:cs=(splitBy [1,1,1,1,1,1] cs).getD 0 []++((splitBy [1,1,1,1,1,1] cs).getD 1 []++((splitBy [1,1,1,1,1,1] cs).getD 2 []++((splitBy [1,1,1,1,1,1] cs).getD 3 []++((splitBy [1,1,1,1,1,1] cs).getD 4 []++((splitBy [1,1,1,1,1,1] cs).getD 5 []++[]))))):=l.symm;obtain⟨a,G,_,A⟩:=DataW.trod_int Tryz.underlying5 s;obtain⟨b,F,_,z⟩:=DataW.trod_int Tryz.underlying5 r;obtain⟨c,E,_,y⟩:=DataW.trod_int Tryz.underlying5 q;obtain⟨d,D,_,u⟩:=DataW.trod_int Tryz.underlying5 o;obtain⟨f,C,_,t⟩:=DataW.trod_int Tryz.underlying5 n;obtain⟨g,B,_⟩:=DataW.trod_bool Tryz.underlying4 m;rw[G,F,E,D,C,B] at j;refine⟨⟨a,b,c,d,f,g⟩,⟨u8_in A,u8_in z,u8_in y,u8_in u,u8_in t⟩,?_⟩;rw[j];exact .cons (xs:=[_]) (.lit rfl) (.cons (xs:=[_]) (.lit rfl) (.cons (xs:=[_]) (.lit rfl) (.cons (xs:=[_]) (.lit rfl) (.cons (xs:=[_]) (.lit rfl) (.cons (xs:=[_]) (.lit rfl) .nil)))))
theorem Iq{f:Nat}{cs:jl}{x:DataW H×List MemPlace}(h:DataW.trod enc Tryz.prog w base spare held f 44 cs=some x):∃ (v:Value) (l:List EvS),cs=[v]/\(∀ e∈l,zn e)/\R (argX w) (.sl 6 l.length (evF l)) [v]:=by
 obtain⟨v,n,E,m,Y,rfl,j,q⟩:=bDj (k:=6) Tryz.underlying44 ai a_ h;have y:∀ i,∃ s:EvS,zn s/\(i<n->RL (argX w) (F6 s) (E i)):=fun i=>by by_cases c:i<n;obtain⟨s,t,r⟩:=Rh (q i c).2;exact⟨s,t,fun _=>r⟩;exact⟨ev0,P6,fun h=>absurd h c⟩
 obtain⟨S,o⟩:=Classical.axiomOfChoice y;refine⟨v,(List.range n).map S,rfl,fun e u=>?_,?_⟩;obtain⟨i,_,rfl⟩:=List.mem_map.1 u;exact (o i).1;rw[List.length_map,List.length_range];refine .sl j (fun b z g=>⟨trivial,j.DW a_ g b z⟩) (fun i c=>?_);rw[bCc E 6 (List.range n) (fun a A=>(q a (List.mem_range.1 A)).1) i (by simpa using c)];have:=(o i).2 c;unfold evF;rw[zG,List.getElem?_map,List.getElem?_range c,List.getElem_range];exact this
variable {v:Value} {d:DataW H} {p:List MemPlace} {W:World}
theorem LH(f:Value.okWide Tryz.prog W .any base 44 v)(h:DataW.Trod enc Tryz.prog W 0 (fun _=>true) true 44 v d p):∃ l:List EvS,(∀ e∈l,zn e)/\RV (argX W) (dm (.sl 6 l.length (evF l))) v:=by obtain⟨k,a,c,rfl⟩:=okWide_slice Tryz.underlying44 f;obtain⟨j,h⟩:=h;obtain⟨v,l,b,i,g⟩:=Iq h;simp[Value.cells] at b;subst b;exact⟨l,i,.w (.one g)⟩
theorem TK(t:Value.okWide Tryz.prog W .any base 46 v)(h:DataW.Trod enc Tryz.prog W 0 (fun _=>true) true 46 v d p):∃ e:EvS,zn e/\RV (argX W) (.w (.agg (F6 e))) v:=by obtain⟨i,rfl,l,j⟩:=bFf (ns:=[1,1,1,1,1,1]) Tryz.underlying46 ai ai t h;obtain⟨V,O,s⟩:=j 0 _ rfl;obtain⟨U,N,r⟩:=j 1 _ rfl;obtain⟨T,L,q⟩:=j 2 _ rfl;obtain⟨S,K,o⟩:=j 3 _ rfl;obtain⟨Q,J,n⟩:=j 4 _ rfl;obtain⟨P,I,m⟩:=j 5 _ rfl;have k:i=(splitBy [1,1,1,1,1,1] i).getD 0 []++((splitBy [1,1,1,1,1,1] i).getD 1 []++((splitBy [1,1,1,1,1,1] i).getD 2 []++((splitBy [1,1,1,1,1,1] i).getD 3 []++((splitBy [1,1,1,1,1,1] i).getD 4 []++((splitBy [1,1,1,1,1,1] i).getD 5 []++[]))))):=l.symm;obtain⟨a,G,_,A⟩:=DataW.trod_int Tryz.underlying5 s;obtain⟨b,F,_,z⟩:=DataW.trod_int Tryz.underlying5 r;obtain⟨c,E,_,y⟩:=DataW.trod_int Tryz.underlying5 q;obtain⟨d,D,_,x⟩:=DataW.trod_int Tryz.underlying5 o;obtain⟨f,C,_,u⟩:=DataW.trod_int Tryz.underlying5 n;obtain⟨g,B,_⟩:=DataW.trod_bool Tryz.underlying4 m;rw[G,F,E,D,C,B] at k;refine⟨⟨a,b,c,d,f,g⟩,⟨u8_in A,u8_in z,u8_in y,u8_in x,u8_in u⟩,?_⟩;rw[k];exact .w (.agg (.cons (xs:=[_]) (.lit rfl) (.cons (xs:=[_]) (.lit rfl) (.cons (xs:=[_]) (.lit rfl) (.cons (xs:=[_]) (.lit rfl) (.cons (xs:=[_]) (.lit rfl) (.cons (xs:=[_]) (.lit rfl) .nil)))))))
theorem LD(b:Value.okWide Tryz.prog W .any base 5 v)(h:DataW.Trod enc Tryz.prog W 0 (fun _=>true) true 5 v d p):∃ z:Int,(0<=z/\z<256)/\v=.int .u8 z:=by obtain⟨z,rfl,_,_,a⟩:=open_int Tryz.underlying5 b h;exact⟨z,u8_in a,rfl⟩
end
end Pv
theorem sD{H:Type}{enc:TypeId×Value->H}(c b a:Value)(u t s:DataW H)(m l k:List MemPlace)(W:World)(base:Nat)(q:af W)
  (h:Value.okWide Tryz.prog W .any base 44 c) (g:Value.okWide Tryz.prog W .any base 46 b) (f:Value.okWide Tryz.prog W .any base 5 a)
  (h0:DataW.Trod enc Tryz.prog W 0 (fun _=>true) true 44 c u m) (h1:DataW.Trod enc Tryz.prog W 0 (fun _=>true) true 46 b t l) (h2:DataW.Trod enc Tryz.prog W 0 (fun _=>true) true 5 a s k) :
  Calls Tryz.prog 4 #[c,b,a] W fun e x=>e=.returned (.bool true)/\Ext W x:=by
 obtain⟨E,r,j⟩:=Pv.LH h h0;obtain⟨e,o,i⟩:=Pv.TK g h1;obtain⟨z,n,rfl⟩:=Pv.LD f h2;exact (Pv.bEf E r e o z n).law q ⟨j,i,.w (.one (.lit rfl)),trivial⟩
theorem tX(os:Os):laidMet Tryz.prog Rows.migrateRunMatchesSpecRow.laid ((laidWorld os).forCall (fun _ _=>0) ⟨#[],#[.slice none 0 0,.agg #[.int .u8 0,.int .u8 0,.int .u8 0,.int .u8 0,.int .u8 0,.bool false],.int .u8 0],[]⟩).memory:=laidMet_of_run' 8 ai ai
theorem rO(os:Os){H:Type}(enc:TypeId×Value->H):∃ a,DataW.whole enc Tryz.prog ((laidWorld os).forCall (fun _ _=>0) ⟨#[],#[.slice none 0 0,.agg #[.int .u8 0,.int .u8 0,.int .u8 0,.int .u8 0,.int .u8 0,.bool false],.int .u8 0],[]⟩).memory Tryz.f4.params.toList Rows.migrateRunMatchesSpecSpec.vars false (#[.slice none 0 0,.agg #[.int .u8 0,.int .u8 0,.int .u8 0,.int .u8 0,.int .u8 0,.bool false],.int .u8 0]:mg).toList 8=some ([.nil,.agg [.lit (.int .u8 0),.lit (.int .u8 0),.lit (.int .u8 0),.lit (.int .u8 0),.lit (.int .u8 0),.lit (.bool false)],.lit (.int .u8 0)],[],a):=⟨[],ai⟩
theorem qN(os:Os)(c:os.Started)(H:Type)(enc:TypeId×Value->H)(F:Stop.Interp) :
  ReturnsInHanded {} Tryz.checked os 4 .any ((OpenSpec.ofChange Rows.migrateRunMatchesSpecSpec).preRow enc Tryz.prog Tryz.f4 Rows.migrateRunMatchesSpecRow.domain false Rows.migrateRunMatchesSpecRow.laid) (((OpenSpec.ofChange Rows.migrateRunMatchesSpecSpec).at F).post enc Tryz.prog Tryz.f4 false true false false):=by
 obtain⟨l,hx⟩:=rO os enc
 refine returnsInHanded_of_row (C:=Tryz.checked) (s:=OpenSpec.ofChange Rows.migrateRunMatchesSpecSpec) own c ai Tryz.func4
  (
   witness_row_at (enc:=enc) (C:=Tryz.checked) false (laidWorld os) #[.slice none 0 0,.agg #[.int .u8 0,.int .u8 0,.int .u8 0,.int .u8 0,.int .u8 0,.bool false],.int .u8 0] rfl ai ai ai
   (OpenSpec.preRow_of_cond 8 hx ai (fun k hk=>by cases hk) ai (tX os))) ?_
 intro W base args ds gs n f Q _ _ _ hL _ _;have hM:=aKb hL;have a:∀ (j:Nat) t v,Tryz.f4.params[j]?=some t->args[j]?=some v->Value.okWide Tryz.prog W .any base t v:=f;have I:=Q;obtain⟨p,q,i,hV,rfl,a1,a0⟩:=Q;have S:DataW.TrodAll enc Tryz.prog W 0 (fun _=>true) true Tryz.f4.params.toList args.toList ds p:=i;rw[Tryz.params4] at S a;obtain⟨u,Z,d0,a4,L,q0,G,rfl,rfl,V,r0⟩:=trodAll_cons S;obtain⟨r,Y,d1,a3,K,q1,rfl,rfl,rfl,U,r1⟩:=trodAll_cons r0;obtain⟨o,X,d2,a2,J,q2,rfl,rfl,rfl,T,r2⟩:=trodAll_cons r1;obtain⟨rfl,rfl,rfl⟩:=trodAll_nil r2;obtain rfl:args=#[u,r,o]:=by cases args;simp_all
 obtain⟨rfl,rfl⟩:=trodVars_none hV;have P:=V;have A:∀ x∈L,x.block<W.heap.size:=by obtain⟨m,g⟩:=P;exact DataW.trod_lt m _ _ _ g
 have E:=a 0 _ u rfl rfl;have O:=U;have z:∀ x∈K,x.block<W.heap.size:=by obtain⟨m,g⟩:=O;exact DataW.trod_lt m _ _ _ g
 have D:=a 1 _ r rfl rfl;have N:=T;have y:∀ x∈J,x.block<W.heap.size:=by obtain⟨m,g⟩:=N;exact DataW.trod_lt m _ _ _ g
 have B:=a 2 _ o rfl rfl;clear i f;refine (sD u r o d0 d1 d2 L K J W base hM E D B V U T).mono fun e W' ⟨he,b⟩=>?_;subst he;have b:=Ext.below b;exact⟨_,rfl,_,_,_,[],_,[],I,trodAll_mk1 (shut_bool Tryz.underlying4 _),(trodAll_cons_mk (Below.trod laidOut ai (of_decide_eq_true ai) P b A) (trodAll_cons_mk (Below.trod laidOut ai (of_decide_eq_true ai) O b z) (trodAll_cons_mk (Below.trod laidOut ai (of_decide_eq_true ai) N b y) trodAll_mk0))),rfl,b.frame _,fun h=>by cases h⟩
theorem tV:Rows.MigrateRunMatchesSpecSaid:=
 OpenClaim.holds_of_cond 4 Tryz.f4 rfl rfl rfl rfl rfl rfl rfl ⟨rfl,rfl,rfl,rfl,rfl⟩ rfl rfl rfl rfl rfl ai Tryz.func4 ai
  (of_decide_eq_true ai) (by unfold Func.isWrapper;first|(rw[au (by decide +kernel)];kernel_rfl)|(rw[ah (by decide +kernel)];exact⟨rfl,rfl⟩))
  (fun b a H enc _ F=>by rw[OpenClaim.pre_eq_preRow];exact qN b a H enc F)
theorem rP(f:FuncId)(fn:Func)(e:Tryz.pinned.checked.prog.funcNamed "bootchain/bootchainlaw35.MigrateRunMatchesSpec" = some f)(b:Tryz.pinned.checked.prog.funcs[f]?=some fn) :
  Rows.migrateRunMatchesSpecCard.stood.looks=Tryz.pinned.checked.prog.looks []/\∀ (j:Nat) t,fn.params[j]?=some t->Tryz.pinned.checked.prog.wantsStandIn t=false:=by
 obtain rfl:f=4:=Option.some.inj ((show Tryz.prog.funcNamed "bootchain/bootchainlaw35.MigrateRunMatchesSpec" = some 4 by kernel_rfl).symm.trans e) |>.symm;obtain rfl:fn=Tryz.f4:=(Option.some.inj (Tryz.func4.symm.trans b)).symm;refine⟨ai,fun j t c=>?_⟩;rw[Tryz.params4] at c;have a:∀ t∈(#[44,46,5]:Array TypeId),Tryz.prog.wantsStandIn t=false:=by decide +kernel
 exact a t (Array.mem_of_getElem? c)
theorem migrateRunMatchesSpec_holds:Rows.MigrateRunMatchesSpecCardSaid:=Claim7.holds_tied_plain_at .later [] _ _ _ _ tV (fun _ h=>by cases h) ai (fun _ h=>by cases h) migrateRunMatchesSpec_row_tie rfl ⟨rfl,rfl⟩ ai rfl rP ai
end Go.Proofs.YtndpjopifkbgiaaGreatDoor

