/-
 The card of MigrateMatchesSpec: for every input the law returns true.
-/
import Derived.Test.YtndpjopifkbgiaaGreatDoorMsC
import Derived.Test.YtndpjopifkbgiaaGreatDoorMsE
import Derived.Test.YtndpjopifkbgiaaGreatDoorMsU
namespace Go.Proofs.YtndpjopifkbgiaaGreatDoor
open Go.ChangeShapes Go.WideShapes Go.ChangeAt Go.RowKit Go.Joins Go.Deep
open Go.ChangeMaps (open_string shut_string)
set_option linter.unusedVariables false
namespace Pv
section
variable {H:Type} {enc:TypeId×Value->H} {w:World} {base:Nat} {spare:Nat->Bool} {held:Bool}
theorem bKq{z:Int}(b:(Lit.int .i64 z).wf=true):g_ z:=by have a:=bounds_i64 b;exact⟨a.1,by have:=a.2;omega⟩
set_option maxRecDepth 100000 in
theorem bFk{b:Nat}{cs:List Value}{x:DataW H×List MemPlace}(h:DataW.trod enc Tryz.prog w base spare held b 35 cs=some x):∃ r:jh,RL (argX w) (iW r) cs:=by obtain⟨c,e⟩:=rP (ns:=[1,1]) Tryz.underlying35 aj aj h;obtain⟨n,l,g⟩:=e 0 _ rfl;obtain⟨m,k,f⟩:=e 1 _ rfl;have a:cs=(splitBy [1,1] cs).getD 0 []++((splitBy [1,1] cs).getD 1 []++[]):=c.symm;obtain⟨z,j,_,o⟩:=DataW.trod_int Tryz.underlying3 g;obtain⟨s,i,_,_⟩:=DataW.trod_string Tryz.underlying9 f;rw[j,i] at a;refine⟨⟨z,s⟩,?_⟩;rw[a];exact .cons (xs:=[_]) (.lit rfl) (.cons (xs:=[_]) (.lit rfl) .nil)
set_option maxRecDepth 100000 in
theorem bAc{e:Nat}{cs:List Value}{x:DataW H×List MemPlace}(h:DataW.trod enc Tryz.prog w base spare held e 32 cs=some x):∃ (v:Value) (l:List jh),cs=[v]/\R (argX w) (.sl 2 l.length (AZ l)) [v]:=by
 obtain⟨v,n,E,m,Y,rfl,g,j⟩:=bAd (k:=2) Tryz.underlying32 aj a_ h;have q:∀ i,∃ s:jh,i<n->RL (argX w) (iW s) (E i):=fun i=>by by_cases c:i<n;obtain⟨s,o⟩:=bFk (j i c).2;exact⟨s,fun _=>o⟩;exact⟨⟨0,aH⟩,fun h=>absurd h c⟩
 obtain⟨S,u⟩:=Classical.axiomOfChoice q;refine⟨v,(List.range n).map S,rfl,?_⟩;rw[List.length_map,List.length_range];refine .sl g (fun b r f=>⟨trivial,g.Bq a_ f b r⟩) (fun i c=>?_);rw[aYw E 2 (List.range n) (fun a t=>(j a (List.mem_range.1 t)).1) i (by simpa using c)];have:=u i c;unfold AZ;rw[zG,List.getElem?_map,List.getElem?_range c,List.getElem_range];exact this
theorem aAb{a:Nat}{cs:List Value}{x:DataW H×List MemPlace}(h:DataW.trod enc Tryz.prog w base spare held a 23 cs=some x):∃ l:List UInt8,l.length=16/\cs=l.map gq:=aKx Tryz.underlying23 Tryz.underlying5 aj aj h
set_option maxRecDepth 100000 in
theorem aWz{b:Nat}{cs:List Value}{x:DataW H×List MemPlace}(h:DataW.trod enc Tryz.prog w base spare held b 25 cs=some x):∃ (t:List UInt8) (z:Int),t.length=16/\g_ z/\cs=t.map gq++[.int .i64 z]:=by obtain⟨c,e⟩:=rP (ns:=[16,1]) Tryz.underlying25 aj aj h;obtain⟨q,n,g⟩:=e 0 _ rfl;obtain⟨o,m,f⟩:=e 1 _ rfl;have a:cs=(splitBy [16,1] cs).getD 0 []++((splitBy [16,1] cs).getD 1 []++[]):=c.symm;obtain⟨t,j,l⟩:=aAb g;obtain⟨z,k,_,i⟩:=DataW.trod_int Tryz.underlying3 f;rw[l,k] at a;exact⟨t,z,j,bKq i,a⟩
set_option maxRecDepth 100000 in
theorem G7{b:Nat}{cs:List Value}{x:DataW H×List MemPlace}(h:DataW.trod enc Tryz.prog w base spare held b 27 cs=some x):∃ (n:Int) (c:ByteArray) (t:List UInt8),t.length=16/\g_ n/\cs=Value.int .i64 n::Value.string c::t.map gq:=by obtain⟨e,f⟩:=rP (ns:=[1,1,16]) Tryz.underlying27 aj aj h;obtain⟨B,u,j⟩:=f 0 _ rfl;obtain⟨A,s,i⟩:=f 1 _ rfl;obtain⟨y,r,g⟩:=f 2 _ rfl;have a:cs=(splitBy [1,1,16] cs).getD 0 []++((splitBy [1,1,16] cs).getD 1 []++((splitBy [1,1,16] cs).getD 2 []++[])):=e.symm;obtain⟨z,q,_,k⟩:=DataW.trod_int Tryz.underlying3 j;obtain⟨c,o,_,_⟩:=DataW.trod_string Tryz.underlying9 i;obtain⟨t,l,m⟩:=aAb g;rw[q,o,m] at a;exact⟨z,c,t,l,bKq k,by rw[a];simp⟩
set_option maxRecDepth 100000 in
theorem G6{e:Nat}{cs:List Value}{x:DataW H×List MemPlace}(h:DataW.trod enc Tryz.prog w base spare held e 29 cs=some x):∃ (g:List UInt8) (i l:Int) (B:ByteArray) (k:List UInt8),g.length=16/\k.length=16/\g_ i/\g_ l/\cs=g.map gq++([.int .i64 i]++([.int .i64 l]++([.string B]++(k.map gq++[])))):=by obtain⟨f,j⟩:=rP (ns:=[17,18]) Tryz.underlying29 aj aj h;obtain⟨F,D,o⟩:=j 0 _ rfl;obtain⟨E,C,m⟩:=j 1 _ rfl;have a:cs=(splitBy [17,18] cs).getD 0 []++((splitBy [17,18] cs).getD 1 []++[]):=f.symm;obtain⟨t,z,r,q,A⟩:=aWz o;obtain⟨n,c,b,u,s,y⟩:=G7 m;rw[A,y] at a;exact⟨t,z,n,c,b,r,u,q,s,by rw[a];simp⟩
end
section
variable {H:Type} {enc:TypeId×Value->H} {v:Value} {d:DataW H} {p:List MemPlace} {W:World} {base:Nat}
set_option maxRecDepth 100000 in
theorem bBx(e:Value.okWide Tryz.prog W .any base 32 v)(h:DataW.Trod enc Tryz.prog W 0 (fun _=>true) true 32 v d p):∃ l:List jh,RV (argX W) (d_ (.sl 2 l.length (AZ l))) v:=by obtain⟨i,a,c,rfl⟩:=okWide_slice Tryz.underlying32 e;obtain⟨g,h⟩:=h;obtain⟨v,l,b,f⟩:=bAc h;simp[Value.cells] at b;subst b;exact⟨l,.w (.one f)⟩
set_option maxRecDepth 100000 in
theorem J7(P:Value.okWide Tryz.prog W .any base 31 v)(h:DataW.Trod enc Tryz.prog W 0 (fun _=>true) true 31 v d p) :
  ∃ c:je,(yj c/\g_ c.ol/\g_ c.xl/\g_ c.bn)/\RV (argX W) (.w (.agg (um c))) v:=by
 obtain⟨a,rfl,j,b⟩:=bBy (ns:=[1,16,16,16,1,17,35]) Tryz.underlying31 aj aj P h;obtain⟨m0,y0,N⟩:=b 0 _ rfl;obtain⟨m1,y1,L⟩:=b 1 _ rfl;obtain⟨m2,y2,K⟩:=b 2 _ rfl;obtain⟨m3,y3,J⟩:=b 3 _ rfl;obtain⟨m4,y4,I⟩:=b 4 _ rfl;obtain⟨m5,y5,G⟩:=b 5 _ rfl;obtain⟨m6,Z,F⟩:=b 6 _ rfl;have f:a=(splitBy [1,16,16,16,1,17,35] a).getD 0 []++((splitBy [1,16,16,16,1,17,35] a).getD 1 []++((splitBy [1,16,16,16,1,17,35] a).getD 2 []++((splitBy [1,16,16,16,1,17,35] a).getD 3 []++((splitBy [1,16,16,16,1,17,35] a).getD 4 []++((splitBy [1,16,16,16,1,17,35] a).getD 5 []++((splitBy [1,16,16,16,1,17,35] a).getD 6 []++[])))))):=j.symm;obtain⟨k,Y,_,_⟩:=DataW.trod_int Tryz.underlying3 N;obtain⟨r,x,X⟩:=aAb L;obtain⟨i,A,V⟩:=aAb K;obtain⟨l,y,U⟩:=aAb J;obtain⟨s,T,_,_⟩:=DataW.trod_string Tryz.underlying9 I;obtain⟨t,z,u,O,S⟩:=aWz G;obtain⟨n,o,D,E,C,q,B,g,m,Q⟩:=G6 F;rw[Y,X,V,U,T,S,Q] at f;refine⟨⟨k,r,i,l,s,t,z,n,o,D,E,C⟩,⟨⟨x,A,y,u,q,B⟩,O,g,m⟩,?_⟩;have e:a=[Value.int .i64 k]++(r.map gq++(i.map gq++(l.map gq++([Value.string s]++(t.map gq++([.int .i64 z]++(n.map gq++([.int .i64 o]++([.int .i64 D]++([.string E]++(C.map gq++[]))))))))))):=by rw[f];simp
 rw[e];exact .w (.agg (.cons (xs:=[_]) (.lit rfl) (.cons (.bs x) (.cons (.bs A) (.cons (.bs y) (.cons (xs:=[_]) (.lit rfl) (.cons (.bs u) (.cons (xs:=[_]) (.lit rfl) (.cons (.bs q) (.cons (xs:=[_]) (.lit rfl) (.cons (xs:=[_]) (.lit rfl) (.cons (xs:=[_]) (.lit rfl) (.cons (.bs B) .nil)))))))))))))
end
end Pv
set_option maxRecDepth 100000 in
theorem uG{H:Type}{enc:TypeId×Value->H}(b a:Value)(q o:DataW H)(l k:List MemPlace)(W:World)(base:Nat)(n:af W)
  (g:Value.okWide Tryz.prog W .any base 31 b) (f:Value.okWide Tryz.prog W .any base 32 a)
  (h0:DataW.Trod enc Tryz.prog W 0 (fun _=>true) true 31 b q l) (h1:DataW.Trod enc Tryz.prog W 0 (fun _=>true) true 32 a o k) :
  Calls Tryz.prog 3 #[b,a] W fun e r=>e=.returned (.bool true)/\Ext W r:=by
 obtain⟨m,h,j⟩:=Pv.J7 g h0;obtain⟨c,i⟩:=Pv.bBx f h1;exact (Pv.bIy m h c).law n ⟨j,i,trivial⟩
def iZ:Value:=.agg (([.int .i64 0]:List Value)++([.int .u8 0,.int .u8 0,.int .u8 0,.int .u8 0,.int .u8 0,.int .u8 0,.int .u8 0,.int .u8 0,.int .u8 0,.int .u8 0,.int .u8 0,.int .u8 0,.int .u8 0,.int .u8 0,.int .u8 0,.int .u8 0]:List Value)++([.int .u8 0,.int .u8 0,.int .u8 0,.int .u8 0,.int .u8 0,.int .u8 0,.int .u8 0,.int .u8 0,.int .u8 0,.int .u8 0,.int .u8 0,.int .u8 0,.int .u8 0,.int .u8 0,.int .u8 0,.int .u8 0]:List Value)++([.int .u8 0,.int .u8 0,.int .u8 0,.int .u8 0,.int .u8 0,.int .u8 0,.int .u8 0,.int .u8 0,.int .u8 0,.int .u8 0,.int .u8 0,.int .u8 0,.int .u8 0,.int .u8 0,.int .u8 0,.int .u8 0]:List Value)++([.string { data:=#[] }]:List Value)++([.int .u8 0,.int .u8 0,.int .u8 0,.int .u8 0,.int .u8 0,.int .u8 0,.int .u8 0,.int .u8 0,.int .u8 0,.int .u8 0,.int .u8 0,.int .u8 0,.int .u8 0,.int .u8 0,.int .u8 0,.int .u8 0]:List Value)++([.int .i64 0]:List Value)++([.int .u8 0,.int .u8 0,.int .u8 0,.int .u8 0,.int .u8 0,.int .u8 0,.int .u8 0,.int .u8 0,.int .u8 0,.int .u8 0,.int .u8 0,.int .u8 0,.int .u8 0,.int .u8 0,.int .u8 0,.int .u8 0]:List Value)++([.int .i64 0,.int .i64 0,.string { data:=#[] }]:List Value)++([.int .u8 0,.int .u8 0,.int .u8 0,.int .u8 0,.int .u8 0,.int .u8 0,.int .u8 0,.int .u8 0,.int .u8 0,.int .u8 0,.int .u8 0,.int .u8 0,.int .u8 0,.int .u8 0,.int .u8 0,.int .u8 0]:List Value)).toArray
theorem vG(os:Os):laidMet Tryz.prog Rows.migrateMatchesSpecRow.laid ((laidWorld os).forCall (fun _ _=>0) ⟨#[],#[iZ,.slice none 0 0],[]⟩).memory:=laidMet_of_run' 8 aj aj
theorem sD(os:Os){H:Type}(enc:TypeId×Value->H):∃ a,DataW.whole enc Tryz.prog ((laidWorld os).forCall (fun _ _=>0) ⟨#[],#[iZ,.slice none 0 0],[]⟩).memory Tryz.f3.params.toList Rows.migrateMatchesSpecSpec.vars false (#[iZ,.slice none 0 0]:Array Value).toList 8=some ([.agg [.lit (.int .i64 0),.agg [.lit (.int .u8 0),.lit (.int .u8 0),.lit (.int .u8 0),.lit (.int .u8 0),.lit (.int .u8 0),.lit (.int .u8 0),.lit (.int .u8 0),.lit (.int .u8 0),.lit (.int .u8 0),.lit (.int .u8 0),.lit (.int .u8 0),.lit (.int .u8 0),.lit (.int .u8 0),.lit (.int .u8 0),.lit (.int .u8 0),.lit (.int .u8 0)],.agg [.lit (.int .u8 0),.lit (.int .u8 0),.lit (.int .u8 0),.lit (.int .u8 0),.lit (.int .u8 0),.lit (.int .u8 0),.lit (.int .u8 0),.lit (.int .u8 0),.lit (.int .u8 0),.lit (.int .u8 0),.lit (.int .u8 0),.lit (.int .u8 0),.lit (.int .u8 0),.lit (.int .u8 0),.lit (.int .u8 0),.lit (.int .u8 0)],.agg [.lit (.int .u8 0),.lit (.int .u8 0),.lit (.int .u8 0),.lit (.int .u8 0),.lit (.int .u8 0),.lit (.int .u8 0),.lit (.int .u8 0),.lit (.int .u8 0),.lit (.int .u8 0),.lit (.int .u8 0),.lit (.int .u8 0),.lit (.int .u8 0),.lit (.int .u8 0),.lit (.int .u8 0),.lit (.int .u8 0),.lit (.int .u8 0)],.lit (.string []),.agg [.agg [.lit (.int .u8 0),.lit (.int .u8 0),.lit (.int .u8 0),.lit (.int .u8 0),.lit (.int .u8 0),.lit (.int .u8 0),.lit (.int .u8 0),.lit (.int .u8 0),.lit (.int .u8 0),.lit (.int .u8 0),.lit (.int .u8 0),.lit (.int .u8 0),.lit (.int .u8 0),.lit (.int .u8 0),.lit (.int .u8 0),.lit (.int .u8 0)],.lit (.int .i64 0)],.agg [.agg [.agg [.lit (.int .u8 0),.lit (.int .u8 0),.lit (.int .u8 0),.lit (.int .u8 0),.lit (.int .u8 0),.lit (.int .u8 0),.lit (.int .u8 0),.lit (.int .u8 0),.lit (.int .u8 0),.lit (.int .u8 0),.lit (.int .u8 0),.lit (.int .u8 0),.lit (.int .u8 0),.lit (.int .u8 0),.lit (.int .u8 0),.lit (.int .u8 0)],.lit (.int .i64 0)],.agg [.lit (.int .i64 0),.lit (.string []),.agg [.lit (.int .u8 0),.lit (.int .u8 0),.lit (.int .u8 0),.lit (.int .u8 0),.lit (.int .u8 0),.lit (.int .u8 0),.lit (.int .u8 0),.lit (.int .u8 0),.lit (.int .u8 0),.lit (.int .u8 0),.lit (.int .u8 0),.lit (.int .u8 0),.lit (.int .u8 0),.lit (.int .u8 0),.lit (.int .u8 0),.lit (.int .u8 0)]]]],.nil],[],a):=⟨[],by kernel_rfl⟩
set_option maxRecDepth 100000 in
theorem rJ(os:Os)(a:os.Started)(H:Type)(enc:TypeId×Value->H)(F:Stop.Interp) :
  ReturnsInHanded {} Tryz.checked os 3 .any ((OpenSpec.ofChange Rows.migrateMatchesSpecSpec).preRow enc Tryz.prog Tryz.f3 Rows.migrateMatchesSpecRow.domain false Rows.migrateMatchesSpecRow.laid) (((OpenSpec.ofChange Rows.migrateMatchesSpecSpec).at F).post enc Tryz.prog Tryz.f3 false true false false):=by
 obtain⟨i,U⟩:=sD os enc
 refine returnsInHanded_of_row (C:=Tryz.checked) (s:=OpenSpec.ofChange Rows.migrateMatchesSpecSpec) own a aj Tryz.func3
  (
   witness_row_at (enc:=enc) (C:=Tryz.checked) false (laidWorld os) #[iZ,.slice none 0 0] rfl aj aj aj
   (OpenSpec.preRow_of_cond 8 U aj (fun k X=>by cases X) aj (vG os))) ?_
 intro W base args ds gs l b K _ _ _ hL _ _;have hM:=aHy hL;have c:∀ (j:Nat) t v,Tryz.f3.params[j]?=some t->args[j]?=some v->Value.okWide Tryz.prog W .any base t v:=b;have D:=K;obtain⟨p,q,g,hV,rfl,Y,V⟩:=K;have L:DataW.TrodAll enc Tryz.prog W 0 (fun _=>true) true Tryz.f3.params.toList args.toList ds p:=g;rw[Tryz.params3] at L c;obtain⟨o,Q,d0,a1,G,q0,B,rfl,rfl,O,T⟩:=trodAll_cons L;obtain⟨n,P,d1,a0,E,q1,rfl,rfl,rfl,N,S⟩:=trodAll_cons T;obtain⟨rfl,rfl,rfl⟩:=trodAll_nil S;obtain rfl:args=#[o,n]:=by cases args;simp_all
 obtain⟨rfl,rfl⟩:=trodVars_none hV;have J:=O;have u:∀ x∈G,x.block<W.heap.size:=by obtain⟨m,A⟩:=J;exact DataW.trod_lt m _ _ _ A
 have z:=c 0 _ o rfl rfl;have I:=N;have r:∀ x∈E,x.block<W.heap.size:=by obtain⟨m,A⟩:=I;exact DataW.trod_lt m _ _ _ A
 have y:=c 1 _ n rfl rfl;clear g b;refine (uG o n d0 d1 G E W base hM z y O N).mono fun e W' ⟨Z,f⟩=>?_;subst Z;have f:=Ext.below f;exact⟨_,rfl,_,_,_,[],_,[],D,trodAll_mk1 (shut_bool Tryz.underlying4 _),(trodAll_cons_mk (Below.trod laidOut aj (of_decide_eq_true aj) J f u) (trodAll_cons_mk (Below.trod laidOut aj (of_decide_eq_true aj) I f r) trodAll_mk0)),rfl,f.frame _,fun h=>by cases h⟩
theorem vF:Rows.MigrateMatchesSpecSaid:=
 OpenClaim.holds_of_cond 3 Tryz.f3 rfl rfl rfl rfl rfl rfl rfl ⟨rfl,rfl,rfl,rfl,rfl⟩ rfl rfl rfl rfl rfl aj Tryz.func3 aj
  (of_decide_eq_true aj) (by unfold Func.isWrapper;first|(rw[if_pos (by decide +kernel)];kernel_rfl)|(rw[if_neg (by decide +kernel)];exact⟨rfl,rfl⟩))
  (fun b a H enc _ F=>by rw[OpenClaim.pre_eq_preRow];exact rJ b a H enc F)
theorem sF(f:FuncId)(fn:Func)(e:Tryz.pinned.checked.prog.funcNamed "bootchain/bootchainlaw35.MigrateMatchesSpec" = some f)(b:Tryz.pinned.checked.prog.funcs[f]?=some fn) :
  Rows.migrateMatchesSpecCard.stood.looks=Tryz.pinned.checked.prog.looks []/\∀ (j:Nat) t,fn.params[j]?=some t->Tryz.pinned.checked.prog.wantsStandIn t=false:=by
 obtain rfl:f=3:=Option.some.inj ((show Tryz.prog.funcNamed "bootchain/bootchainlaw35.MigrateMatchesSpec" = some 3 by kernel_rfl).symm.trans e) |>.symm;obtain rfl:fn=Tryz.f3:=(Option.some.inj (Tryz.func3.symm.trans b)).symm;refine⟨by kernel_rfl,fun j t c=>?_⟩;rw[Tryz.params3] at c;have a:∀ t∈(#[31,32]:Array TypeId),Tryz.prog.wantsStandIn t=false:=by decide +kernel
 exact a t (Array.mem_of_getElem? c)
theorem migrateMatchesSpec_holds:Rows.MigrateMatchesSpecCardSaid:=Claim7.holds_tied_plain_at .later [] _ _ _ _ vF (fun _ h=>by cases h) aj (fun _ h=>by cases h) migrateMatchesSpec_row_tie rfl ⟨rfl,rfl⟩ aj rfl sF aj
end Go.Proofs.YtndpjopifkbgiaaGreatDoor

