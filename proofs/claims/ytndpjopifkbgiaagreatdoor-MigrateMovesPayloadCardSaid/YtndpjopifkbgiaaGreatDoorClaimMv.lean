/-
 The card of MigrateMovesPayload: for every input the law returns true.
-/
import Derived.Test.YtndpjopifkbgiaaGreatDoorMmC
import Derived.Test.YtndpjopifkbgiaaGreatDoorMmE
import Derived.Test.YtndpjopifkbgiaaGreatDoorMmU
import Derived.Test.YtndpjopifkbgiaaGreatDoorMmT
namespace Go.Proofs.YtndpjopifkbgiaaGreatDoor
open Go.ChangeShapes Go.WideShapes Go.ChangeAt Go.RowKit Go.Joins Go.Deep
open Go.ChangeMaps (open_string shut_string)
set_option linter.unusedVariables false
namespace Pv
section
variable {H:Type} {enc:TypeId×Value->H} {w:World} {base:Nat} {spare:Nat->Bool} {held:Bool}
theorem GZ{fuel:Nat}{cs:List Value}{x:DataW H×List MemPlace}(h:DataW.trod enc Tryz.prog w base spare held fuel 74 cs=some x):∃ (v:Value) (l:List UInt8),cs=[v]/\R (argX w) (.sl 1 l.length (ou l)) [v]:=by
 obtain⟨v,l,rfl,hr⟩:=aUz Tryz.underlying74 Tryz.underlying5 (by kernel_rfl) h
 refine⟨v,l,rfl,?_⟩
 have e:l.map f_=l.flatMap fun b=>[f_ b]:=by
  clear hr
  induction l with
  |nil=>rfl
  |cons a l ih=>rw[List.map_cons,List.flatMap_cons,ih];rfl
 rw[e] at hr;refine II (g:=fun b:UInt8=>[f_ b]) (by omega) (fun b hb=>rfl) hr (fun C i hi=>?_);unfold ou;rw[zG,zH hi];exact .cons (.lit rfl) .nil
theorem aYx{fuel:Nat}{cs:List Value}{x:DataW H×List MemPlace}(h:DataW.trod enc Tryz.prog w base spare held fuel 61 cs=some x):∃ (v:Value) (l:List ByteArray),cs=[v]/\R (argX w) (.sl 1 l.length (Oa l)) [v]:=by
 obtain⟨v,n,E,m,Y,rfl,hr,hE⟩:=aGb (k:=1) Tryz.underlying61 (by kernel_rfl) (by omega) h
 obtain⟨l,hl,h2,h3⟩:=aGm (R:=fun _=>True) (fun z:ByteArray=>[Value.string z]) fun i hi=>by
  obtain⟨s,e0,_,_⟩:=DataW.trod_string Tryz.underlying9 (hE i hi).2
  exact⟨s,e0,trivial⟩
 refine⟨v,l,rfl,?_⟩
 rw[h2,<-hl] at hr;refine II (g:=fun z:ByteArray=>[Value.string z]) (by omega) (fun b hb=>rfl) hr (fun C i hi=>?_);unfold Oa;rw[zG,zH hi];exact .cons (.lit rfl) .nil
end
section
variable {H:Type} {enc:TypeId×Value->H} {v:Value} {d:DataW H} {p:List MemPlace} {W:World} {base:Nat}
set_option maxRecDepth 100000 in
theorem J8(hv:Value.okWide Tryz.prog W .any base 74 v)(h:DataW.Trod enc Tryz.prog W 0 (fun _=>true) true 74 v d p):∃ l:List UInt8,RV (argX W) (dh (.sl 1 l.length (ou l))) v:=by
 obtain⟨A2,aKI,cap2,rfl⟩:=okWide_slice Tryz.underlying74 hv;obtain⟨m2,h⟩:=h;obtain⟨v,l,hl,hp⟩:=GZ h;simp[Value.cells] at hl;subst hl
 exact⟨l,.w (.one hp)⟩
set_option maxRecDepth 100000 in
theorem bAy(hv:Value.okWide Tryz.prog W .any base 61 v)(h:DataW.Trod enc Tryz.prog W 0 (fun _=>true) true 61 v d p):∃ l:List ByteArray,RV (argX W) (dh (.sl 1 l.length (Oa l))) v:=by
 obtain⟨A2,aKI,cap2,rfl⟩:=okWide_slice Tryz.underlying61 hv;obtain⟨m2,h⟩:=h;obtain⟨v,l,hl,hp⟩:=aYx h;simp[Value.cells] at hl;subst hl
 exact⟨l,.w (.one hp)⟩
end
theorem Jo(rt:List UInt8)(ps:List ByteArray):gU Tryz.prog a_ 6 true [mvR rt,mvP ps] (rq true):=by
 obtain⟨q,e,hb,hM⟩:=JZ;have h:=Rh q _ _ _ rfl rfl rfl e;rw[hb] at h;exact bBq h hM rt ps
end Pv
set_option maxRecDepth 100000 in
theorem qE{H:Type}{enc:TypeId×Value->H}(v0 v1:Value)(d0 d1:DataW H)(p0 p1:List MemPlace)(W:World)(base:Nat)(hM:a_ W)
  (hv0:Value.okWide Tryz.prog W .any base 74 v0) (hv1:Value.okWide Tryz.prog W .any base 61 v1)
  (h0:DataW.Trod enc Tryz.prog W 0 (fun _=>true) true 74 v0 d0 p0) (h1:DataW.Trod enc Tryz.prog W 0 (fun _=>true) true 61 v1 d1 p1) :
  Calls Tryz.prog 6 #[v0,v1] W fun e W'=>e=.returned (.bool true)/\Ext W W':=by
 obtain⟨rt,r0⟩:=Pv.J8 hv0 h0;obtain⟨ps,r1⟩:=Pv.bAy hv1 h1;exact (Pv.Jo rt ps).law hM ⟨r0,r1,trivial⟩
theorem rF(os:Os):laidMet Tryz.prog Rows.migrateMovesPayloadRow.laid ((laidWorld os).forCall (fun _ _=>0) ⟨#[],#[.slice none 0 0,.slice none 0 0],[]⟩).memory:=
 laidMet_of_run' 8 (by kernel_rfl) (by kernel_rfl)
theorem pK(os:Os){H:Type}(enc:TypeId×Value->H):∃ places,DataW.whole enc Tryz.prog ((laidWorld os).forCall (fun _ _=>0) ⟨#[],#[.slice none 0 0,.slice none 0 0],[]⟩).memory Tryz.f6.params.toList Rows.migrateMovesPayloadSpec.vars false (#[.slice none 0 0,.slice none 0 0]:Array Value).toList 8=some ([.nil,.nil],[],places):=
 ⟨[],by kernel_rfl⟩
set_option maxRecDepth 100000 in
theorem oK(os:Os)(started:os.Started)(H:Type)(enc:TypeId×Value->H)(F:Stop.Interp) :
  ReturnsInHanded {} Tryz.checked os 6 .any ((OpenSpec.ofChange Rows.migrateMovesPayloadSpec).preRow enc Tryz.prog Tryz.f6 Rows.migrateMovesPayloadRow.domain false Rows.migrateMovesPayloadRow.laid) (((OpenSpec.ofChange Rows.migrateMovesPayloadSpec).at F).post enc Tryz.prog Tryz.f6 false true false false):=by
 obtain⟨places,hx⟩:=pK os enc
 refine returnsInHanded_of_row (C:=Tryz.checked) (s:=OpenSpec.ofChange Rows.migrateMovesPayloadSpec) own started (by kernel_rfl) Tryz.func6
  (
   witness_row_at (enc:=enc) (C:=Tryz.checked) false (laidWorld os) #[.slice none 0 0,.slice none 0 0] rfl (by kernel_rfl) (by kernel_rfl) (by kernel_rfl)
   (OpenSpec.preRow_of_cond 8 hx (by kernel_rfl) (fun k hk=>by cases hk) (by kernel_rfl) (rF os))) ?_
 intro W base args ds gs before hval0 hW _ _ _ hL _ _;have hM:=aFj hL;have hval:∀ (j:Nat) t v,Tryz.f6.params[j]?=some t->args[j]?=some v->Value.okWide Tryz.prog W .any base t v:=hval0;have hW':=hW;obtain⟨p,q,hA0,hV,rfl,hfz,hnd⟩:=hW;have hA:DataW.TrodAll enc Tryz.prog W 0 (fun _=>true) true Tryz.f6.params.toList args.toList ds p:=hA0;rw[Tryz.params6] at hA hval;obtain⟨v0,vs0,d0,ds0,p0,q0,hargs,rfl,rfl,h0,r0⟩:=trodAll_cons hA;obtain⟨v1,vs1,d1,ds1,p1,q1,rfl,rfl,rfl,h1,r1⟩:=trodAll_cons r0;obtain⟨rfl,rfl,rfl⟩:=trodAll_nil r1
 obtain rfl:args=#[v0,v1]:=by cases args;simp_all
 obtain⟨rfl,rfl⟩:=trodVars_none hV;have k0:=h0
 have lt0:∀ x∈p0,x.block<W.heap.size:=by obtain⟨m,hm⟩:=k0;exact DataW.trod_lt m _ _ _ hm
 have hv0:=hval 0 _ v0 rfl rfl;have k1:=h1
 have lt1:∀ x∈p1,x.block<W.heap.size:=by obtain⟨m,hm⟩:=k1;exact DataW.trod_lt m _ _ _ hm
 have hv1:=hval 1 _ v1 rfl rfl;clear hA0 hval0;refine (qE v0 v1 d0 d1 p0 p1 W base hM hv0 hv1 h0 h1).mono fun e W' ⟨he,bel⟩=>?_;subst he;have bel:=Ext.below bel
 exact⟨_,rfl,_,_,_,[],_,[],hW',trodAll_mk1 (shut_bool Tryz.underlying4 _),(trodAll_cons_mk (Below.trod laidOut (by kernel_rfl) (of_decide_eq_true (by kernel_rfl)) k0 bel lt0) (trodAll_cons_mk (Below.trod laidOut (by kernel_rfl) (of_decide_eq_true (by kernel_rfl)) k1 bel lt1) trodAll_mk0)),rfl,bel.frame _,fun h=>by cases h⟩
theorem rE:Rows.MigrateMovesPayloadSaid:=
 OpenClaim.holds_of_cond 6 Tryz.f6 rfl rfl rfl rfl rfl rfl rfl ⟨rfl,rfl,rfl,rfl,rfl⟩ rfl rfl rfl rfl rfl (by kernel_rfl) Tryz.func6 (by kernel_rfl)
  (of_decide_eq_true (by kernel_rfl)) (by unfold Func.isWrapper;first|(rw[if_pos (by decide +kernel)];kernel_rfl)|(rw[if_neg (by decide +kernel)];exact⟨rfl,rfl⟩))
  (fun os started H enc _ F=>by rw[OpenClaim.pre_eq_preRow];exact oK os started H enc F)
theorem pM(f:FuncId)(fn:Func)(hf:Tryz.pinned.checked.prog.funcNamed "bootchain/bootchainlaw35.MigrateMovesPayload" = some f)(hfn:Tryz.pinned.checked.prog.funcs[f]?=some fn) :
  Rows.migrateMovesPayloadCard.stood.looks=Tryz.pinned.checked.prog.looks []/\∀ (j:Nat) t,fn.params[j]?=some t->Tryz.pinned.checked.prog.wantsStandIn t=false:=by
 obtain rfl:f=6:=Option.some.inj ((show Tryz.prog.funcNamed "bootchain/bootchainlaw35.MigrateMovesPayload" = some 6 by kernel_rfl).symm.trans hf) |>.symm
 obtain rfl:fn=Tryz.f6:=(Option.some.inj (Tryz.func6.symm.trans hfn)).symm
 refine⟨by kernel_rfl,fun j t ht=>?_⟩
 rw[Tryz.params6] at ht
 have hall:∀ t∈(#[74,61]:Array TypeId),Tryz.prog.wantsStandIn t=false:=by decide +kernel
 exact hall t (Array.mem_of_getElem? ht)
theorem migrateMovesPayload_holds:Rows.MigrateMovesPayloadCardSaid:=
 Claim7.holds_tied_plain_at .later [] _ _ _ _ rE (fun _ h=>by cases h) (by kernel_rfl) (fun _ h=>by cases h) migrateMovesPayload_row_tie rfl ⟨rfl,rfl⟩ (by kernel_rfl) rfl pM (by kernel_rfl)
end Go.Proofs.YtndpjopifkbgiaaGreatDoor

