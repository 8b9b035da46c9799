/-.-/
import Derived.Test.YtndpjopifkbgiaaGreatDoorMsL
import Derived.Test.YtndpjopifkbgiaaGreatDoorMsI
import Derived.Test.YtndpjopifkbgiaaGreatDoorMsJ
import Derived.WalkMore
import Derived.Test.YtndpjopifkbgiaaGreatDoorMsA
import Derived.StillTail
import Derived.RegionTactic
import Derived.Test.YtndpjopifkbgiaaGreatDoorMsC
import Derived.Test.YtndpjopifkbgiaaGreatDoorMsE
set_option maxRecDepth 100000
set_option maxHeartbeats 4000000
namespace Go.Proofs.YtndpjopifkbgiaaGreatDoor
open Go.RowKit
section
section
variable {P:Program} {f0:FuncId} {Q:Exit->Act->World->Prop} {a:Act} {w:World}
def DU(P:Program)(f0:FuncId)(c:Code)(Q:Exit->Act->World->Prop)(a:Act)(w:World):Prop:=
 ∀ (b:Frame) (k:List Item) (cs:List Frame),b.roundOf=none->b.fn=f0->∃ e a' w',Q e a' w'/\ArrivesIn (Machine.fenced P Fence.wide) P (lone (b.atR a (.code c::k)) cs w) b k cs e a' w'
theorem aDl{c:Code}(h:c.wp P Q a w):DU P f0 c Q a w:=fun b k cs hro _=>(wpIn_wide (n:=3)).2 h b k cs hro trivial (room_wide _)
theorem Gl{c:Code}{Q':Exit->Act->World->Prop}(h:DU P f0 c Q a w)(hq:∀ e a w,Q e a w->Q' e a w):DU P f0 c Q' a w:=fun b k cs hro hb=>
 let ⟨e,a',w',q,r⟩:=h b k cs hro hb
 ⟨e,a',w',hq _ _ _ q,r⟩
theorem aQz{x y:Code}(h:DU P f0 x (Exit.then (DU P f0 y Q) Q) a w):DU P f0 (.seq x y) Q a w:=by
 intro b k cs hro hb;have h0:=fenced_wide P (lone (b.atR a (.code (.seq x y)::k)) cs w);obtain⟨e,a₁,w₁,hq,harr⟩:=h b (.code y::k) cs hro hb
 cases e with
 |normal=>
  obtain⟨e₂,a₂,w₂,hq₂,harr₂⟩:=hq b k cs hro hb
  exact⟨e₂,a₂,w₂,hq₂,.of_steps (.head h0 stepR_seq harr) harr₂⟩
 |_=>exact⟨_,a₁,w₁,hq,.of_steps (.one h0 stepR_seq) (.pass (x:=.code y) rfl (fun _ _=>.inl (by simp)) harr)⟩
theorem bAt{id:Nat}{c:Code}(h:DU P f0 c (fun e a w=>match e with|.normal=>Q .normal a w|.panic ch=>Q (.panic ch) a w|_=>False) a w):DU P f0 (.block id c) Q a w:=by
 intro b k cs hro hb;have h0:=fenced_wide P (lone (b.atR a (.code (.block id c)::k)) cs w);obtain⟨e,a₁,w₁,hq,harr⟩:=h b (.inBlock id::k) cs hro hb
 cases e with
 |normal=>exact⟨.normal,a₁,w₁,hq,.head h0 stepR_block (StepsIn.trans harr (.one (fenced_wide _ _) stepR_inBlock))⟩
 |panic ch=>exact⟨_,a₁,w₁,hq,.of_steps (.one h0 stepR_block) harr⟩
 |_=>exact hq.elim
def aXt(P:Program)(l:Nat)(R:Ending->World->Prop):Exit->Act->World->Prop
 |.normal,_,w=>∃ v w',(Instr.endRound l none).run P w=.ok v w'/\R (.returned v) w'
 |.panic chain,a,w=>a.defers=[]/\R (.panicked chain) w
 |_,_,_=>False
theorem aKm{n l:Nat}{f:FuncId}{tmps:Array Value}{assign body:Code}{R:Ending->World->Prop}(hf:∃ fn,P.funcs[f]?=some fn)
  (h:assign.wpIn (Fence.wide.inRound l) n P (Exit.then (fun a₁ w₁=>∃ w₂,(Instr.beginRound l).run P w₁=.ok () w₂/\body.wpIn (Fence.wide.inRound l) n P (aXt P l R) a₁ w₂) (fun _ _ _=>False)) { tmps:=tmps,defers:=[] } w) :
  RoundIn Fence.wide n P l f tmps assign body w R:=by
 refine⟨trivial,fun c cs hr=>?_⟩
 let b:Frame:={ (default:Frame) with fn:=f,kind:=.normal,roundOf:=some l }
 have hb0:Frame.round l f tmps assign body .normal=b.atR { tmps:=tmps,defers:=[] } [.code assign,.beginRound,.code body]:=by
  simp[Frame.round,Frame.atR,b]
 have hr':(Fence.wide.inRound l).room ((c::cs).length+1+n):=hr;obtain⟨e,a₁,w₁,hq,harr⟩:=h b [.beginRound,.code body] (c::cs) rfl trivial hr';rw[<-hb0] at harr
 cases e with
 | normal=>
  obtain⟨w₂,hbr,hbody⟩:=hq;have s1:StepsIn (Machine.fenced P Fence.wide) P (lone (b.atR a₁ [.beginRound,.code body]) (c::cs) w₁) (lone (b.atR a₁ [.code body]) (c::cs) w₂):=.one (fenced_wide _ _) (stepR_beginRound rfl hbr);obtain⟨e₂,a₂,w₃,hq₂,harr₂⟩:=hbody b [] (c::cs) rfl trivial hr'
  cases e₂ with
  |normal=>
   obtain⟨v,w₄,hend,hR⟩:=hq₂
   exact⟨.returned v,w₄,hR,(StepsIn.trans harr s1).trans (StepsIn.trans harr₂ (.one (fenced_wide _ _) (stepR_round_end rfl rfl hend)))⟩
  |panic chain=>
   obtain⟨hd,hR⟩:=hq₂;obtain⟨todo,hs⟩:=harr₂
   refine⟨.panicked chain,w₃,hR,(StepsIn.trans harr s1).trans (StepsIn.trans hs (.one (fenced_wide _ _) (step_leave_panicked ⟨rfl,?_,?_⟩)))⟩
   ·exact hd
   ·exact hf
  |_=>exact hq₂.elim
 |_=>exact hq.elim
def aYd(P:Program)(l:Nat)(Q:Exit->Act->World->Prop)(a':Act):Ending->World->Prop
 |.returned _,w₃=>∃ w₄,(Instr.endLoop l).run P w₃=.ok none w₄/\Q .normal a' w₄
 |.panicked chain,w₃=>Q (.panic chain) a' w₃
 |.outgrown,_=>False
theorem aJx{n:Nat}{g:Operand}{ps:Array Tmp}{assign body:Code}
  (
   h:∃ (l:Nat) (mark:List Deferred) (w₁:World) (d:Deferred) (w₁':World) (f:FuncId) (args:Array Value) (w₂:World),
   (Instr.enterLoop f0 a.tmps ps assign body none).run P w=.ok (l,mark) w₁/\(resolve a.eval (rangeCall g l) 0).run P w₁=.ok d w₁' /\
   (invoke d.target d.args).run P w₁'=.ok (.enter f args) w₂/\CallsIn Fence.wide n P f args w₂ (aYd P l Q { a with defers:=mark++a.defers })) :
  DU P f0 (.rangeFunc g ps assign body) Q a w:=by
 intro b k cs hro hb;obtain⟨l,mark,w₁,d,w₁',f,args,w₂,he,hres,hinv,hF,hcall⟩:=h;rw[<-hro,<-hb] at he;have henter:=stepR_rangeFunc (P:=P) (b:=b) (a:=a) (k:=k) (cs:=cs) (w:=w) he hres hinv;obtain⟨e,w₃,fr,hR,hsteps,hfn,hleave⟩:=hcall (b.atR { a with defers:=mark++a.defers } (.inRangeFunc l::k)::cs) (room_wide _)
 cases e with
 |outgrown=>exact hR.elim
 |returned v=>
  obtain⟨w₄,hend,hj⟩:=hR
  refine⟨.normal,_,w₄,hj,.head (fenced_wide _ _) henter (StepsIn.trans hsteps (.head (fenced_wide _ _) ?_ (.one (fenced_wide _ _) (stepR_endRangeFunc (b:=b) (a:={ a with defers:=mark++a.defers }) (k:=k) hend))))⟩
  rw[<-finish_atR_inRangeFunc l v];exact step_leave_returned hleave
 |panicked chain=>
  refine⟨.panic chain,_,w₃,hR,.inRangeFunc l::k,.head (fenced_wide _ _) henter (StepsIn.trans hsteps (.one (fenced_wide _ _) ?_))⟩
  rw[<-Frame.raise_atR];exact step_leave_panicked hleave
theorem aQn{f:FuncId}{fn:Func}{c:Code}{args:Array Value}{R:Ending->World->Prop}(hf:P.funcs[f]?=some fn)(hb:fn.body=some c)
  (h:DU P f c (bodyPostM Fence.wide 3 P fn R) { tmps:=args++Array.replicate (fn.ntmps-args.size) undef,defers:=[] } w):CallsIn Fence.wide 3 P f args w R:=by
 refine⟨trivial,fun cs hr=>?_⟩
 let b:Frame:={ (default:Frame) with fn:=f,kind:=.normal,roundOf:=none }
 have henter:Frame.enter P f args .normal=b.atR { tmps:=args++Array.replicate (fn.ntmps-args.size) undef,defers:=[] } [.code c]:=by
  simp[Frame.enter,Frame.atR,hf,hb,b]
 obtain⟨e,a',w',hq,harr⟩:=h b [] cs rfl rfl;rw[<-henter] at harr
 cases e with
 |normal=>
  obtain⟨e',w'',fr',hR,hs,hfn,hl⟩:=leaves_stepsInM a'.defers .returning w' { b.atR a' [] with mode:=.returning } cs rfl rfl rfl hf rfl trivial hr hq
  exact⟨e',w'',fr',hR,ComesIn.of_steps (StepsIn.trans harr (.one (fenced_wide _ _) (stepR_end rfl))) hs,hfn,hl⟩
 |ret=>
  obtain⟨todo,hs₀⟩:=harr.1 rfl;obtain⟨e',w'',fr',hR,hs,hfn,hl⟩:=leaves_stepsInM a'.defers .returning w' { b.atR a' todo with mode:=.returning } cs rfl rfl rfl hf rfl trivial hr hq
  exact⟨e',w'',fr',hR,ComesIn.of_steps hs₀ hs,hfn,hl⟩
 |panic chain=>
  obtain⟨todo,hs₀⟩:=harr;obtain⟨e',w'',fr',hR,hs,hfn,hl⟩:=leaves_stepsInM a'.defers (.panicking chain) w' { b.atR a' todo with mode:=.panicking chain } cs rfl rfl rfl hf rfl trivial hr hq
  exact⟨e',w'',fr',hR,ComesIn.of_steps hs₀ hs,hfn,hl⟩
 |exit id=>exact hq.elim
 |goto l=>exact hq.elim
 |outgrown=>exact⟨.outgrown,w',b,hq,harr.resolve_left (by simp[b]),rfl,trivial⟩
def KpS(S:Nat->Prop)(n0:Nat)(W W':World):Prop:=∀ b,b<n0->¬S b->W'.heap[b]?=W.heap[b]?
def OI(P:Program)(gf:FuncId)(lb:Array Value)(encs:Nat->Array Value)(S:Nat->Prop)(N:Nat)(w:World):Prop:=
 ∀ (l:Nat) (J:Nat->World->Prop) (Pn:List PanicEntry->World->Prop) (W:World),Below w.heap.size w W->(∀ k A B,J k A->Ext A B->J k B) ->
  (∀ k W1,J k W1->k<N->YieldAt Fence.wide 1 P l (encs k) W1 fun e W'=>(e=.returned (.bool true)/\J (k+1) W'/\KpS S w.heap.size W1 W')\/∃ ch,e=.panicked ch/\Pn ch W') ->
  J 0 W->CallsIn Fence.wide 2 P gf (#[.func (.yield l) #[] #[]]++lb) W fun e W'=>((∃ v,e=.returned v)/\J N W')\/∃ ch,e=.panicked ch/\Pn ch W'
def OO(n0:Nat)(W W':World):Prop:=∀ b o,n0<=b->W.heap[b]?=some o->o.isCells=false->W'.heap[b]?=some o
theorem aFj{W:World}{l:Nat}{o o':Obj}(h:W.heap[l]?=some o)(ho:o.isCells=false):Oe W (W.putObj l o'):=fun k q hk hq=>by
 by_cases e:k=l
 ·subst e;rw[h] at hk;cases hk;rw[ho] at hq;cases hq
 ·exact (World.putObj_heap_other e).trans hk
def Two(n0 b:Nat):Prop:=b=n0\/b=n0+1
theorem aTr{n0:Nat}(W:World){l:Nat}(hl:Two n0 l)(o:Obj):dm (Two n0) W (W.putObj l o):=⟨rfl,rfl,rfl,by simp,fun b _ hn=>World.putObj_heap_other (fun e=>hn (e ▸ hl))⟩
theorem aXf{g:Operand}{ps:Array Tmp}{assign body:Code}{gf:FuncId}{lb:Array Value}{encs:Nat->Array Value}{S:Nat->Prop}{N:Nat}
  (hf:∃ fn,P.funcs[f0]?=some fn) (hg:a.eval g=.func (.func gf) #[] lb) (eg:∀ args w,(callFunc gf args).run P w=.ok (.enter gf args) w) (hseq:OI P gf lb encs S N w) (hps:∀ k,(encs k).size=ps.size)
  (J:Nat->World->Prop) (hJ:∀ k W W',J k W->dm (Two w.heap.size) W W'->Oe W W'->J k W') (h0:∀ W,Ext w W->w.heap.size+2<=W.heap.size->J 0 W) (Pn:List PanicEntry->World->Prop) (Ax:Nat->Act->Prop)
  (hassign:∀ (l k:Nat) (W:World) (K:Act->World->Prop),(∀ a' W',Ext W W'->Ax k a'->K a' W')->assign.wpIn (Fence.wide.inRound l) 1 P (Exit.then K (fun _ _ _=>False)) { tmps:=(ps.zip (encs k)).foldl (fun t (p,v)=>t.setIfInBounds p v) a.tmps,defers:=[] } W)
  (
   hbody:∀ (l k:Nat) (a':Act) (W:World),J k W->Ax k a'->k<N->body.wpIn (Fence.wide.inRound l) 1 P (fun e a2 W'=>match e with
   |.normal=>J (k+1) W'/\KpS S w.heap.size W W'/\OO w.heap.size W W'
   |.panic ch=>a2.defers=[]/\Pn ch W'/\OO w.heap.size W W'
   |_=>False) a' W)
  (hdone:∀ (D:Nat) (W:World),J N W->W.heap[D]?=some (.deferred (some []))->D=w.heap.size->Q .normal { a with defers:={ target:=.collected D,args:=#[] }::a.defers } W)
  (LD:∀ (D:Nat) (ch:List PanicEntry) (W:World),Pn ch W->W.heap[D]?=some (.deferred (some []))->D=w.heap.size->Q (.panic ch) { a with defers:={ target:=.collected D,args:=#[] }::a.defers } W) :
  DU P f0 (.rangeFunc g ps assign body) Q a w:=by
 obtain⟨rec,hrec⟩:∃ rec:LoopState->Loop,rec=fun st=>{ state:=st,pending:=none,fn:=f0,tmps:=a.tmps,params:=ps,assign,body,defers:=w.heap.size }:=⟨_,rfl⟩;obtain⟨W1,hW1⟩:∃ W1,(w.alloc (.deferred (some []))).alloc (.loop (rec .ready))=W1:=⟨_,rfl⟩
 have hL1:W1.heap[w.heap.size+1]?=some (.loop (rec .ready)):=by
  rw[<-hW1];have:=World.alloc_heap_new (w.alloc (.deferred (some []))) (.loop (rec .ready));rwa [World.size_alloc] at this
 have hK1:W1.heap[w.heap.size]?=some (.deferred (some [])):=by
  rw[<-hW1];exact (Below.heap_alloc _ _ _ (by simp)).trans (World.alloc_heap_new w _)
 have hE1:Ext w W1:=by rw[<-hW1];exact ((Ext.refl w).alloc _).alloc _
 have hkb:∀ {A B:World},Ext A B->Oe A B:=fun h k o hk _=>h.blk hk
 refine aJx (n:=2) ⟨w.heap.size+1,[{ target:=.collected w.heap.size,args:=#[] }],W1,{ target:=.fn (.func gf) lb,args:=#[.func (.yield (w.heap.size+1)) #[] #[]] },W1,gf,
  #[.func (.yield (w.heap.size+1)) #[] #[]]++lb,W1,?_,?_,?_,?_⟩
 ·rw[<-hW1,hrec];exact run_enterLoop_outer _ _ _ _ _
 ·simp only[resolve,hg];simp[go_sem]
 ·simp[invoke,go_sem,eg]
 refine (hseq (w.heap.size+1) (fun k W=>J k W/\W.heap[w.heap.size+1]?=some (.loop (rec .ready))/\W.heap[w.heap.size]?=some (.deferred (some [])))
  (fun ch W=>Pn ch W/\W.heap[w.heap.size]?=some (.deferred (some []))) W1 hE1.below (fun k A B h hE=>⟨hJ k A B h.1 hE.gu (hkb hE),hE.blk h.2.1,hE.blk h.2.2⟩) ?_ ⟨h0 W1 hE1 (by have:=lt_of_heap hL1;omega),hL1,hK1⟩).mono ?_
 ·rintro k W ⟨hi,hl,hk⟩ hlen;have hy:=run_yield (P:=P) (args:=encs k) hl (by rw[hrec];exact hps k);rw[hrec] at hy
  refine⟨f0,_,assign,body,hy,aKm hf (hassign _ k W _ ?_)⟩
  clear hy;intro a' Wa hE hax;have hlA:=hE.blk hl;have hkA:=hE.blk hk;have aNR:=lt_of_heap hlA;have hiA:=hJ k W Wa hi hE.gu (hkb hE)
  refine⟨_,run_beginRound hlA (by rw[hrec]),?_⟩
  have hl2:(Wa.putObj (w.heap.size+1) (.loop { rec .ready with state:=.busy })).heap[w.heap.size+1]?=some (.loop { rec .ready with state:=.busy }):=World.putObj_heap_same aNR;have hk2:(Wa.putObj (w.heap.size+1) (.loop { rec .ready with state:=.busy })).heap[w.heap.size]?=some (.deferred (some [])):=(World.putObj_heap_other (by omega)).trans hkA;have hi2:=hJ k _ _ hiA (aTr Wa (n0:=w.heap.size) (l:=w.heap.size+1) (.inr rfl) (.loop { rec .ready with state:=.busy })) (aFj hlA rfl);refine wpIn_mono (hbody _ k a' _ hi2 hax hlen) ?_;rintro e a3 W3 hp
  cases e with
  | normal=>
   obtain⟨hi3,hkp3,hk3⟩:=hp;have hl3:=hk3 _ _ (by omega) hl2 rfl;have hd3:=hk3 _ _ (Nat.le_refl _) hk2 rfl;have hr:=run_endRound (P:=P) none hl3
   refine⟨_,_,hr,.inl ⟨rfl,⟨hJ _ _ _ hi3 (aTr W3 (.inr rfl) _) (aFj hl3 rfl),?_,(World.putObj_heap_other (by omega)).trans hd3⟩,?_⟩⟩
   ·rw[World.putObj_heap_same (lt_of_heap hl3),hrec];rfl
   ·intro b hb hn;rw[World.putObj_heap_other (by omega),hkp3 b hb hn,World.putObj_heap_other (by omega)]
    exact hE.block b (by have:=hE1.size';have:=lt_of_heap hl;omega) (fun h=>h)
  |panic ch=>
   obtain⟨hd,hpn,hk3⟩:=hp
   exact⟨hd,.inr ⟨ch,rfl,hpn,hk3 _ _ (Nat.le_refl _) hk2 rfl⟩⟩
  |_=>exact hp.elim
 ·rintro e W2 (⟨⟨v,rfl⟩,hi,hl,hk⟩|⟨ch,rfl,hpn,hk⟩)
  ·have he:=run_endLoop (P:=P) hl (by rw[hrec];simp)
   refine⟨_,?_,hdone w.heap.size (W2.putObj (w.heap.size+1) (.loop { rec .ready with state:=.exhausted })) (hJ _ _ _ hi (aTr W2 (.inr rfl) _) (aFj hl rfl)) ((World.putObj_heap_other (by omega)).trans hk) rfl⟩
   rw[he,hrec]
  ·exact LD w.heap.size ch W2 hpn hk rfl
end
end
section
theorem QO{b:List UInt8}{k:Nat}(h:k<nsec b):256*k<b.length:=by unfold nsec at h;omega
theorem QP{b:List UInt8}{k:Nat}(h:¬k<nsec b):b.length<=256*k:=by unfold nsec at h;omega
theorem aEj(n:Nat):Lib.repeatL [(0:UInt8)] n=List.replicate n 0:=by
 induction n with
 |zero=>rfl
 |succ n ih=>rw[Lib.repeatL,ih];rfl
theorem II(b:List UInt8)(k n:Nat)(hn:n=256-((b.drop (256*k)).take 256).length):(strOf ((b.drop (256*k)).take 256))++(⟨(Lib.repeatL (ByteArray.mk #[0]).data.toList n).toArray⟩:ByteArray)=strOf (jm b k):=by
 subst hn;unfold jm;rw[show (ByteArray.mk #[0]).data.toList=[0] from rfl,aEj];apply ByteArray.ext;rw[ByteArray.data_append];simp[strOf]
theorem aCw{S:Nat->Prop}{n0 g o:Nat}{W W':World}{v:Value}(h:KpS S n0 W W')(hg:g<n0)(hS:¬S g)(hc:W.cell? ⟨g,o,none⟩=some v):W'.cell? ⟨g,o,none⟩=some v:=by
 have:=h g hg hS;unfold World.cell? at hc ⊢;dsimp only at hc ⊢;rw[this];exact hc
attribute [local go_sem] Oper.semAt_some
theorem aRn(b:List UInt8)(hb:b.length<=3000)(hb0:0<b.length)(B G c:Nat)(S:Nat->Prop)(w:World)(hs1:¬S B)(hs2:¬S G)
  (h1:w.cell? ⟨B,0,none⟩=some (.slice (some ⟨G,0,none⟩) b.length c)) (hc1:b.length<=c) (hc2:c<=maxLen) (hB:B<w.heap.size) (hG:G<w.heap.size) (h2:w.rangeAt G 0 (b.map gq)) :
  OI Tryz.prog 175 #[.pointer (some ⟨B,0,none⟩)] (fun k=>#[.int .i64 (k:Int),.string (strOf (jm b k))]) S (nsec b) w:=by
 intro l J Pn W hW hJ hY h0;have hE:=Ext.of_below hW;have k1:=Ext.jd hE h1;have HG:=hide (show W.rangeAt G 0 (b.map gq) from fun j v hj=>Ext.jd hE (h2 j v hj));have Ap:=hide (And.intro hs1 (And.intro hs2 (And.intro hB hG)));clear h1 h2 hE hW hs1 hs2;refine callsIn_wide.2 ?_
 go_enter Tryz.func175,Tryz.ntmps175
 go_wp2
 go_loopw [3] (fun i wr=>∃ k:Nat,k<=nsec b/\i=.int .i64 k/\Hid (J k wr/\wr.cell? ⟨B,0,none⟩=some (.slice (some ⟨G,0,none⟩) b.length c)/\wr.rangeAt G 0 (b.map gq))) (fun i _=>nsec b-(intOf i).toNat)
 case atStart=>exact⟨0,Nat.zero_le _,rfl,hide ⟨h0,k1,aA HG⟩⟩
 case round=>
  obtain⟨k,hk,rfl,HJ⟩:=hrel
  have hkB:k<=12:=by have:nsec b<=12:=by { unfold nsec;omega };omega
  have hw1:wrap64 ((k:Int)*256)=(k:Int)*256:=by unfold wrap64;omega
  have hw2:wrap64 ((k:Int)+1)=(k:Int)+1:=by unfold wrap64;omega
  have hw3:wrap64 (((k:Int)+1)*256)=((k:Int)+1)*256:=by unfold wrap64;omega
  have k2:=(aA HJ).2.1
  by_cases hlt:k<nsec b
  ·have hI:(k:Int)*256<(b.length:Int):=by have:=QO hlt;omega
   have hm:((b.drop (256*k)).take 256).length=(min (((k:Int)+1)*256) (b.length:Int)).toNat-k*256:=by
    rw[List.length_take,List.length_drop];omega
   have HR:Hid (Reads wr 1 (.slice (some ⟨G,k*256,none⟩) ((min (((k:Int)+1)*256) (b.length:Int)).toNat-k*256) (c-k*256)) ((min (((k:Int)+1)*256) (b.length:Int)).toNat-k*256) (((b.drop (256*k)).take 256).map gq)):=by
    refine hide ⟨by rw[List.length_map,hm,Nat.mul_one],some ⟨G,k*256,none⟩,_,rfl,by omega,by omega,fun _=>⟨G,k*256,rfl,fun j v hj=>?_⟩⟩
    have h5:=(aA HJ).2.2 (k*256+j) v (by
     rw[List.getElem?_map] at hj ⊢;rw[List.getElem?_take] at hj
     split at hj
     ·rw[List.getElem?_drop] at hj;rw[Nat.mul_comm k 256];exact hj
     ·cases hj)
    rw[Nat.zero_add] at h5;exact h5
   generalize hpt:(b.drop (256*k)).take 256=pt at *
   go_upto_region 4 with fail
   generalize hcc:c-k*256=cc at *;generalize hmm:(min (((k:Int)+1)*256) (b.length:Int)).toNat-k*256=m at *
   have hm2:m<=256:=by omega
   have hw4:IntKind.i64.wrap (256-(m:Int))=((256-m:Nat):Int):=(Pv.eP (by omega) (by omega)).trans (by omega);have HSS:Hid (strOf pt++(⟨(Lib.repeatL [0] (256-m)).toArray⟩:ByteArray)=strOf (jm b k)):=hide (by have:=II b k (256-m) (by rw[hpt,hm]);rw[hpt] at this;exact this)
   have hSL:¬(9223372036854775807<(strOf pt).size+(Lib.repeatL [(0:UInt8)] (256-m)).length):=by
    rw[aEj,List.length_replicate,bW,hm];omega
   have aHM:=hide (fun w=>aEi (ByteArray.mk #[0]) (256-m) w (by omega) (by change 1*(256-m)<=_;omega));have HY:=hide (fun W (hE:Ext wr W)=>hY k W (hJ _ _ W (aA HJ).1 hE) hlt);have hcv:∀ w',Ext wr w'->(convert 74 9 (.slice (some ⟨G,k*256,none⟩) m cc)).run Tryz.prog w'=.ok (.string (strOf pt)) w':=fun w' hE=>aAi Tryz.underlying74 Tryz.underlying5 Tryz.underlying9 ((aA HR).ext hE);refine (wpIn_wide (n:=2)).1 ?_;refine wpIn_region_any (by kernel_rfl) ?_;change wpAnyIn _ _ _ _ _ _ _ _ _ (World.drew _)
   (refine wpAnyIn_take (i:=0) (v:=?_) rfl rfl (by kernel_rfl) (by kernel_rfl) (by kernel_rfl) (fun _ _ _ h=>h) ⟨Or.inl ⟨by rfl,?_⟩,fun _=>rfl⟩ ?_;rotate_left;focus ((intro w;go_simp);try with_reducible rfl))
   (refine wpAnyIn_take (i:=1) (v:=?_) rfl rfl (by kernel_rfl) (by kernel_rfl) (by kernel_rfl) (fun _ _ _ h=>h) ⟨Or.inl ⟨by rfl,?_⟩,fun _=>rfl⟩ ?_;rotate_left;focus ((intro w;go_simp);try with_reducible rfl))
   (refine wpAnyIn_take (i:=2) (v:=?_) rfl rfl (by kernel_rfl) (by kernel_rfl) (by kernel_rfl) (fun _ _ _ h=>h) ⟨Or.inl ⟨by rfl,?_⟩,fun _=>rfl⟩ ?_;rotate_left;focus ((intro w;go_simp);try with_reducible rfl))
   (refine wpAnyIn_take (i:=4) (v:=?_) rfl rfl (by kernel_rfl) (by kernel_rfl) (by kernel_rfl) (fun _ _ _ h=>h) ⟨Or.inl ⟨by rfl,?_⟩,fun _=>rfl⟩ ?_;rotate_left;focus ((intro w;go_simp);try with_reducible rfl))
   (refine wpAnyIn_take (i:=5) (v:=?_) rfl rfl (by kernel_rfl) (by kernel_rfl) (by kernel_rfl) (fun _ _ _ h=>h) ⟨Or.inl ⟨by rfl,?_⟩,fun _=>rfl⟩ ?_;rotate_left;focus ((intro w;go_simp);try with_reducible rfl))
   (refine wpAnyIn_take (i:=6) (v:=?_) rfl rfl (by kernel_rfl) (by kernel_rfl) (by kernel_rfl) (fun _ _ _ h=>h) ⟨Or.inl ⟨by rfl,?_⟩,fun _=>rfl⟩ ?_;rotate_left;focus ((intro w;go_simp);try with_reducible rfl))
   refine wpAnyIn_ready (rs:=[3,7]) (by kernel_rfl) (by simp) (AllReadyIn.cons rfl (fun K hK=>?_) (AllReadyIn.cons rfl (fun K hK=>?_) AllReadyIn.nil))
   ·go_simp
    rw[hcv _ ((Ext.refl _).drew)]
    go_simp
    refine hK _ _ ?_;clear hK K;refine wpAnyIn_ready (rs:=[7]) (by kernel_rfl) (by simp) (AllReadyIn.cons rfl (fun K hK=>?_) AllReadyIn.nil)
    go_simp
    refine⟨trivial,(callsIn_wide.2 (aA aHM _)).mono ?_⟩
    rintro e w1 ⟨rfl,hB1⟩;have H1:=hide (((Ext.refl wr).drew).trans (Ext.of_below hB1));clear hB1;refine hK _ _ ?_;clear hK K;refine wpAnyIn_take (i:=8) (v:=.string (strOf pt++(⟨(Lib.repeatL [0] (256-m)).toArray⟩:ByteArray))) rfl rfl (by kernel_rfl) (by kernel_rfl) (by kernel_rfl) (fun _ _ _ h=>h) ⟨Or.inl ⟨by rfl,fun w=>?_⟩,fun _=>rfl⟩ ?_
    ·go_simp
    rw[aA HSS];refine wpAnyIn_ready (rs:=[9]) (by kernel_rfl) (by simp) (AllReadyIn.cons rfl (fun K hK=>?_) AllReadyIn.nil);obtain⟨fn,tmps,assign,body,hy,hR⟩:=aA HY w1 (aA H1)
    go_simp
    clear hy;refine hR.mono ?_;rintro e W3 (⟨rfl,hJ3,hk3⟩|⟨ch,rfl,hpn⟩)
    ·have HJ4:=hide (show J (k+1) W3/\W3.cell? ⟨B,0,none⟩=some (.slice (some ⟨G,0,none⟩) b.length c)/\W3.rangeAt G 0 (b.map gq) from
      ⟨hJ3,aCw hk3 (aA Ap).2.2.1 (aA Ap).1 (Ext.jd (aA H1) (aA HJ).2.1),fun j v hj=>aCw hk3 (aA Ap).2.2.2 (aA Ap).2.1 (Ext.jd (aA H1) ((aA HJ).2.2 j v hj))⟩)
     clear hJ3 hk3;refine hK _ _ ?_;clear hK K
     (refine wpAnyIn_take (i:=10) (v:=?_) rfl rfl (by kernel_rfl) (by kernel_rfl) (by kernel_rfl) (fun _ _ _ h=>h) ⟨Or.inl ⟨by rfl,?_⟩,fun _=>rfl⟩ ?_;rotate_left;focus ((intro w;go_simp);try with_reducible rfl))
     refine wpAnyIn_done (by kernel_rfl) ?_ _
     go_wp2
     go_roundw
     case rel=>exact⟨k+1,by omega,by go_num,HJ4⟩
     case measure=>simp[intOf];omega
    ·exact⟨rfl,.inr ⟨ch,rfl,hpn⟩⟩
   ·go_simp
    refine⟨trivial,(callsIn_wide.2 (aA aHM _)).mono ?_⟩
    rintro e w1 ⟨rfl,hB1⟩;have H1:=hide (((Ext.refl wr).drew).trans (Ext.of_below hB1));clear hB1;refine hK _ _ ?_;clear hK K;refine wpAnyIn_ready (rs:=[3]) (by kernel_rfl) (by simp) (AllReadyIn.cons rfl (fun K hK=>?_) AllReadyIn.nil)
    go_simp
    rw[hcv _ (aA H1)]
    go_simp
    refine hK _ _ ?_;clear hK K;refine wpAnyIn_take (i:=8) (v:=.string (strOf pt++(⟨(Lib.repeatL [0] (256-m)).toArray⟩:ByteArray))) rfl rfl (by kernel_rfl) (by kernel_rfl) (by kernel_rfl) (fun _ _ _ h=>h) ⟨Or.inl ⟨by rfl,fun w=>?_⟩,fun _=>rfl⟩ ?_
    ·go_simp
    rw[aA HSS];refine wpAnyIn_ready (rs:=[9]) (by kernel_rfl) (by simp) (AllReadyIn.cons rfl (fun K hK=>?_) AllReadyIn.nil);obtain⟨fn,tmps,assign,body,hy,hR⟩:=aA HY w1 (aA H1)
    go_simp
    clear hy;refine hR.mono ?_;rintro e W3 (⟨rfl,hJ3,hk3⟩|⟨ch,rfl,hpn⟩)
    ·have HJ4:=hide (show J (k+1) W3/\W3.cell? ⟨B,0,none⟩=some (.slice (some ⟨G,0,none⟩) b.length c)/\W3.rangeAt G 0 (b.map gq) from
      ⟨hJ3,aCw hk3 (aA Ap).2.2.1 (aA Ap).1 (Ext.jd (aA H1) (aA HJ).2.1),fun j v hj=>aCw hk3 (aA Ap).2.2.2 (aA Ap).2.1 (Ext.jd (aA H1) ((aA HJ).2.2 j v hj))⟩)
     clear hJ3 hk3;refine hK _ _ ?_;clear hK K
     (refine wpAnyIn_take (i:=10) (v:=?_) rfl rfl (by kernel_rfl) (by kernel_rfl) (by kernel_rfl) (fun _ _ _ h=>h) ⟨Or.inl ⟨by rfl,?_⟩,fun _=>rfl⟩ ?_;rotate_left;focus ((intro w;go_simp);try with_reducible rfl))
     refine wpAnyIn_done (by kernel_rfl) ?_ _
     go_wp2
     go_roundw
     case rel=>exact⟨k+1,by omega,by go_num,HJ4⟩
     case measure=>simp[intOf];omega
    ·exact⟨rfl,.inr ⟨ch,rfl,hpn⟩⟩
  ·have hI:¬(k:Int)*256<(b.length:Int):=by have:=QP hlt;omega
   obtain rfl:k=nsec b:=by omega
   go_wp2
   go_end0
   exact .inl ⟨⟨_,rfl⟩,(aA HJ).1⟩
end
namespace Pv
theorem aFo{P:Program}{I:World->Prop}{fn:Func}{os:List Ob}{O:List Acc->Option je}{dev:Option (List Acc×List Acc)}{di:List Acc->Prop}{args:List PV}(hnb:Nat.ble args.length fn.ntmps=true)
  (hos:(os.all fun o=>Nat.blt dx o.x)=true) {w:World} {ok0:Nat->Prop} {vs:List Value} {bl:Nat->Nat} {D:Dv} {X0:Nat->Prop}
  (hM:∀ w',dm (SX os bl D) w w'->I w') (hold:∀ b,SX os bl D b->b<w.heap.size/\¬ok0 b) (hst:ng P D di) (Ac:∀ l X Y w w' chain,D.pan l X w chain->dm X w w'->(∀ b,Y b->X b)->D.pan l Y w' chain) (hO:D.O=O)
  (hdv:∀ p,dev=some p->D.inv p.1 X0 w) (hnd:dev=none->(∀ b,¬D.S b)/\∀ l X w,¬D.inv l X w)
  (hob:∀ o∈os,X0 (bl o.x)/\∃ cs,au w (bl o.x) o.t cs/\RL { w,ok:=ok0,env:=fun _=>none } o.l cs.toList) (hinj:∀ o∈os,∀ o'∈os,bl o.x=bl o'.x->o.x=o'.x)
  (hv:mg { w,ok:=ok0,env:=o5 os bl dev D.hd } args vs):mi P I ⟨w,SX os bl D,ok0,fn.ntmps,n_ os bl dev D.hd,D,di,X0,[]⟩/\o7 ⟨w,SX os bl D,ok0,fn.ntmps,n_ os bl dev D.hd,D,di,X0,[]⟩ ⟨slots 0 args,GI os O dev di⟩ { tmps:=vs.toArray++Array.replicate (fn.ntmps-vs.toArray.size) undef,defers:=[] } w:=by
 have hlen:=hv.length;have hn:=Nat.le_of_ble_eq_true hnb
 have hgt:∀ o∈os,dx<o.x:=fun o ho=>by
  have:=List.all_eq_true.1 hos o ho
  have h3:dx+1<=o.x:=by simpa[Nat.blt] using this
  exact h3
 have EM:zV os dx=false:=by
  cases h:zV os dx with
  |false=>rfl
  |true=>
   obtain⟨o,h1,h2⟩:=iG h;have:=hgt o h1;omega
 subst hO
 let A:kz:=⟨w,SX os bl D,ok0,fn.ntmps,n_ os bl dev D.hd,D,di,X0,[]⟩
 have hext:∀ x hd,n_ os bl dev D.hd x=some hd->(zV os x=true/\hd=iK (bl x))\/(x=dx/\hd=D.hd/\dev.isSome=true):=by
  intro x hd h;unfold n_ at h
  split at h
  ·rename_i h1;cases h;exact .inl ⟨h1,rfl⟩
  ·rename_i h1 h2 h3;cases h;exact .inr ⟨gy h3,rfl,rfl⟩
  ·cases h
 have hA:mi P I A:=⟨hM,fun b h=>.inl h,hold,hst,fun l X w' hi=>by
  cases hd:dev with
  |none=>exact ((hnd hd).2 l X w' hi).elim
  |some p=>show n_ os bl dev D.hd dx=_;unfold n_;rw[EM,hd];rfl,Ac⟩
 have hown:∀ b,ownB A (o5 os bl dev D.hd) b->X0 b:=by
  rintro b (h|⟨x,ai,hd,h1,h2⟩)
  ·exact h
  ·unfold o5 at h1
   cases hx:n_ os bl dev D.hd x with
   |none=>rw[hx] at h1;cases h1
   | some h=>
    rw[hx] at h1;cases h1;rcases hext x _ hx with⟨h3,rfl⟩|⟨_,rfl,_⟩
    ·obtain⟨o,h4,rfl⟩:=iG h3;rw[gJ h2];exact (hob o h4).1
    ·rw[D.oz] at h2;cases h2
 have hhead:∀ x p,find (GI os D.O dev di) x=some p->(∃ o∈os,o.x=x/\p=(none,0,.box o.t o.l))\/(x=dx/\∃ q,dev=some q/\p=(none,0,.dev D.O di q.1)):=by
  intro x p h;unfold GI at h
  cases hd:dev with
  |none=>rw[hd] at h;exact .inl (aCz h)
  |some q=>
   rw[hd] at h
   by_cases hx:dx=x
   ·subst hx;rw[aJ] at h;cases h;exact .inr ⟨rfl,q,rfl,rfl⟩
   ·rw[aN _ _ hx] at h;exact .inl (aCz h)
 have henv:∀ o∈os,o5 os bl dev D.hd o.x=some (0,iK (bl o.x)):=fun o ho=>by
  unfold o5 n_;rw[uZ ho];rfl
 have hle0:∀ {pv:PV} {v:Value},RV { w,ok:=ok0,env:=o5 os bl dev D.hd } pv v->RV (aU A w (o5 os bl dev D.hd)) pv v:=fun h=>h.le ⟨Nat.le_refl _,fun b hlt ho=>⟨⟨.inl ho,fun x ai hd hx hb=>by
   unfold o5 at hx
   cases hx2:n_ os bl dev D.hd x with
   |none=>rw[hx2] at hx;cases hx
   | some h=>
    rw[hx2] at hx;cases hx;rcases hext x _ hx2 with⟨h3,rfl⟩|⟨_,rfl,_⟩
    ·obtain⟨o,h4,rfl⟩:=iG h3;have:=gJ hb;subst this;exact (hold _ (.inr ⟨o,h4,rfl⟩)).2 ho
    ·rw[D.oz] at hb;cases hb⟩,rfl⟩,fun x ai hd h=>⟨ai,hd,h,Nat.le_refl _,fun _=>rfl⟩⟩
 have hg:o7 A ⟨slots 0 args,GI os D.O dev di⟩ { tmps:=vs.toArray++Array.replicate (fn.ntmps-vs.toArray.size) undef,defers:=[] } w:=by
  refine⟨o5 os bl dev D.hd,{ gu:=dm.refl _ _,size:=?_,dom:=fun x hx=>?_,ji:=fun x g ai o h=>?_,live:=fun x ai hd b h hb=>?_,inj:=fun x y v1 h1 v2 h2 b hx hy hb1 hb2=>?_,tmps:=fun t g pv h hgt=>?_,defers:=rfl,und:=fun t pv h=>(by obtain⟨k,_,h2⟩:=lG h;cases h2),l_:=fun x hd hx=>?_,dev:=fun g ai O Cf l h _=>?_ }⟩
  ·simp[A];omega
  ·unfold o5 n_
   have h1:zV os x=false:=by
    unfold GI at hx
    cases hd:dev with
    |none=>rw[hd] at hx;exact oM hx
    |some q=>
     rw[hd] at hx
     by_cases hdx:dx=x
     ·subst hdx;exact EM
     ·rw[aN _ _ hdx] at hx;exact oM hx
   rw[h1]
   cases hd:dev with
   |none=>rfl
   | some q=>
    have:Nat.beq x dx=false:=by
     cases hb:Nat.beq x dx with
     |false=>rfl
     |true=>
      obtain rfl:=gy hb
      unfold GI at hx;rw[hd,aJ] at hx;cases hx
    rw[this];rfl
  ·rcases hhead x _ h with⟨ob,h1,rfl,h2⟩|⟨rfl,q,h1,h2⟩
   ·cases h2;obtain⟨_,cs,h3,h4⟩:=hob ob h1
    refine⟨iK (bl ob.x),henv ob h1,fun _=>⟨_,cs,rfl,h3,?_⟩⟩
    refine h4.le ⟨Nat.le_refl _,fun b hlt hok=>⟨⟨.inl hok,fun x ai hd hx hb=>?_⟩,rfl⟩,fun _ _ _ h=>by cases h⟩;have hx':o5 os bl dev D.hd x=some (ai,hd):=hx;unfold o5 at hx'
    cases hx2:n_ os bl dev D.hd x with
    |none=>rw[hx2] at hx';cases hx'
    | some h=>
     rw[hx2] at hx'
     cases hx'
     rcases hext x _ hx2 with⟨h5,rfl⟩|⟨_,rfl,_⟩
     ·obtain⟨o,h6,rfl⟩:=iG h5;have:=gJ hb;subst this;exact (hold _ (.inr ⟨o,h6,rfl⟩)).2 hok
     ·rw[D.oz] at hb;cases hb
   ·cases h2
    refine⟨D.hd,?_,fun _=>trivial⟩
    unfold o5 n_;rw[EM,h1];rfl
  ·unfold o5 at h
   cases hx2:n_ os bl dev D.hd x with
   |none=>rw[hx2] at h;cases h
   | some h'=>
    rw[hx2] at h;cases h;rcases hext x _ hx2 with⟨h3,rfl⟩|⟨_,rfl,_⟩
    ·obtain⟨o,h4,rfl⟩:=iG h3;have:=gJ hb;subst this
     exact⟨(hold _ (.inr ⟨o,h4,rfl⟩)).1,.inr ⟨.inr ⟨o,h4,rfl⟩,Nat.ble_eq_true_of_le (Nat.le_of_lt (hgt o h4))⟩⟩
    ·rw[D.oz] at hb;cases hb
  ·unfold o5 at hx hy
   cases hx2:n_ os bl dev D.hd x with
   |none=>rw[hx2] at hx;cases hx
   | some hx3=>
    cases hy2:n_ os bl dev D.hd y with
    |none=>rw[hy2] at hy;cases hy
    | some hy3=>
     rw[hx2] at hx;rw[hy2] at hy;cases hx;cases hy;rcases hext x _ hx2 with⟨h3,rfl⟩|⟨_,rfl,_⟩
     ·rcases hext y _ hy2 with⟨h4,rfl⟩|⟨_,rfl,_⟩
      ·obtain⟨o,h5,rfl⟩:=iG h3;obtain⟨o',h6,rfl⟩:=iG h4;refine hinj o h5 o' h6 ?_;rw[<-gJ hb1,<-gJ hb2]
      ·rw[D.oz] at hb2;cases hb2
     ·rw[D.oz] at hb1;cases hb1
  ·obtain⟨k,h1,h2⟩:=mY h;obtain⟨v,h3,h4⟩:=hv.at h2;rw[Nat.zero_add] at h1;subst h1;have hk:t<vs.length:=(List.getElem?_eq_some_iff.1 h3).1
   refine⟨v,?_,hle0 h4⟩
   rw[Array.getElem?_append_left (by simpa using hk)]
   simpa using h3
  ·refine⟨?_,0,hd,?_,Nat.le_refl _,fun _=>rfl⟩
   ·rcases hext x hd hx with⟨h3,_⟩|⟨rfl,_,_⟩
    ·obtain⟨o,h4,rfl⟩:=iG h3;exact Nat.ble_eq_true_of_le (Nat.le_of_lt (hgt o h4))
    ·exact Nat.ble_eq_true_of_le (Nat.le_refl _)
   ·show o5 os bl dev D.hd x=some (0,hd);unfold o5;have:n_ os bl dev D.hd x=some hd:=hx;rw[this];rfl
  ·rcases hhead dx _ h with⟨ob,h1,h2,_⟩|⟨_,q,h1,h2⟩
   ·have:=hgt ob h1;omega
   ·cases h2
    exact⟨rfl,rfl,D.grow _ _ _ _ _ (hdv q h1) (dm.refl _ _) (fun b hb=>.inl (hown b hb))⟩
 exact⟨hA,hg⟩
def aHT(P:Program)(I:World->Prop)(f:Nat)(os:List Ob)(args:List PV)(res:Sum PV (List PanicEntry)):Prop:=
 ∀ (w:World) (ok0:Nat->Prop) (vs:List Value) (bl:Nat->Nat),
  (∀ w',dm (SX os bl Dv.non) w w'->I w')->(∀ b,SX os bl Dv.non b->b<w.heap.size/\¬ok0 b) ->
  (∀ o∈os,∃ cs,au w (bl o.x) o.t cs/\RL { w,ok:=ok0,env:=fun _=>none } o.l cs.toList)->(∀ o∈os,∀ o'∈os,bl o.x=bl o'.x->o.x=o'.x) ->
  mg { w,ok:=ok0,env:=o5 os bl none Dv.non.hd } args vs ->
  Calls P f vs.toArray w fun e w'=>dm (SX os bl Dv.non) w w'/\(∀ o∈os,∃ cs,au w' (bl o.x) o.t cs/\RL { w:=w',ok:=pK w ok0 false,env:=fun _=>none } o.l' cs.toList) /\
   match res with
   |.inl r=>∃ val,e=.returned val/\RV { w:=w',ok:=pK w ok0 false,env:=fun _=>none } r val
   |.inr chain=>e=.panicked chain
def Xz(os:List Ob)(s:St):Prop:=∀ o∈os,∃ l,find s.o o.x=some (none,0,.box o.t l)/\TQ s false l o.l'
def RQB(P:Program)(A:kz)(fn:Func)(os:List Ob)(res:Sum PV (List PanicEntry)):Exit->Act->World->Prop
 |.panic chain,a,w=>a.defers=A.ds/\res=.inr chain/\∃ s,Xz os s/\o7 A s a w
 |e,a,w=>(e=.normal\/e=.ret)/\∃ r,res=.inl r/\∃ s,(TF P fn false r s/\Xz os s)/\o7 A s a w
theorem Rh{P:Program}{I:World->Prop}{f:Nat}{fn:Func}{c:Code}{os:List Ob}{args:List PV}{res:Sum PV (List PanicEntry)}(hf:P.funcs[f]?=some fn)(hb:fn.body=some c)(hnb:Nat.ble args.length fn.ntmps=true)
  (hos:(os.all fun o=>Nat.blt dx o.x)=true)
  (hT:∀ A:kz,A.nt=fn.ntmps->mi P I A->ja P A ⟨slots 0 args,os.map (fun o=>(o.x,none,0,.box o.t o.l))⟩ c (RQB P A fn os res)):aHT P I f os args res:=by
 intro w ok0 vs bl hM hold hob hinj hv;obtain⟨hA,hg⟩:=aFo (fn:=fn) (O:=fun _=>none) (dev:=none) (di:=fun _=>False) (X0:=fun _=>True) (D:=Dv.non) hnb hos hM hold (ng.non P) (fun _ _ _ _ _ _ h=>h.elim) rfl (fun p hp=>by cases hp) (fun _=>⟨fun _ h=>h,fun _ _ _ h=>h⟩) (fun o ho=>⟨trivial,hob o ho⟩) hinj hv;generalize ZV:(⟨w,SX os bl Dv.non,ok0,fn.ntmps,n_ os bl none Dv.non.hd,Dv.non,fun _=>False,fun _=>True,[]⟩:kz)=A at hA hg
 have key:∀ (s:St) (a':Act) (w':World) (env:Env),Xz os s->gm A s a' w' env->Bz A s env/\∀ o∈os,∃ cs,au w' (bl o.x) o.t cs/\RL { w:=w',ok:=pK w ok0 false,env:=fun _=>none } o.l' cs.toList:=by
  intro s a' w' env hE1 hE;subst ZV
  have hbox:∀ o∈os,env o.x=some (0,iK (bl o.x)):=fun o ho=>by
   obtain⟨l,hf',_⟩:=hE1 o ho;obtain⟨hd,h8,_⟩:=hE.ji o.x none 0 _ hf'
   have h9:n_ os bl none Dv.non.hd o.x=some (iK (bl o.x)):=by unfold n_;rw[uZ ho]
   have:=(hE.l_ o.x _ h9).2.now h8;rw[h8,this]
  have hS:Bz (⟨w,SX os bl Dv.non,ok0,fn.ntmps,n_ os bl none Dv.non.hd,Dv.non,fun _=>False,fun _=>True,[]⟩:kz) s env:=by
   intro x g ai e n len f0 hd b hfx hex hbx hs;rcases hs with hs|⟨o,ho,rfl⟩
   ·exact hs.elim
   ·obtain⟨l,hf',_⟩:=hE1 o ho;have:=hE.inj x o.x ai hd 0 _ (bl o.x) hex (hbox o ho) hbx rfl;subst this;rw[hf'] at hfx;cases hfx
  refine⟨hS,fun o ho=>?_⟩
  obtain⟨l,hf',hx⟩:=hE1 o ho;obtain⟨hd,h8,h9⟩:=hE.ji o.x none 0 _ hf';obtain⟨g,cs,e1,h10,h11⟩:=h9 trivial;rw[hbox o ho] at h8;cases h8;cases e1
  exact⟨cs,h10,aPy hE hS hx h11⟩
 have aDV:∀ {s:St} {a':Act} {w':World} {env:Env},gm A s a' w' env->dm (SX os bl Dv.non) w w':=by
  intro s a' w' env hE;subst ZV;exact hE.gu
 have hnt:A.nt=fn.ntmps:=by subst ZV;rfl
 have hst:A.di=fun _=>False:=by subst ZV;rfl
 have hds:A.ds=[]:=by subst ZV;rfl
 refine calls_of_wp hf hb (wp_mono (hT A hnt hA _ w hg (fun chain a w hd h=>?_)) (fun e a' w' he=>?_))
 ·obtain⟨l,h1,_⟩:=h;rw[hst] at h1;exact h1.elim
 cases e with
 |panic chain=>
  obtain⟨hd,rfl,s,hE1,env,hE⟩:=he
  exact⟨hd.trans hds,aDV hE,(key s _ _ env hE1 hE).2,rfl⟩
 |exit id=>obtain⟨h1|h1,_⟩:=he<;>cases h1
 |goto _=>obtain⟨h1|h1,_⟩:=he<;>cases h1
 |outgrown=>obtain⟨h1|h1,_⟩:=he<;>cases h1
 | normal|ret=>
  obtain⟨_,r,rfl,s,⟨⟨v,h2,h3⟩,hE1⟩,env,hE⟩:=he;obtain⟨v',val,h5,h6,h7,_⟩:=uP hE h2;subst h7;obtain⟨hS,FT⟩:=key s _ _ env hE1 hE;have hres:=aPx hE hS h3 h6
  have hres2:RV { w:=w',ok:=pK w ok0 false,env:=fun _=>none } r val:=by
   subst ZV;exact hres
  exact⟨hE.defers.trans hds,val,h5,aDV hE,FT,val,rfl,hres2⟩
def RX(A:kz)(new:Bool)(O:List Acc->Option je)(H:List Acc)(di:List Acc->Prop)(res:PV)(e:Ending)(w':World):Prop:=
 dm A.dv.S A.w0 w'/\((∃ val,e=.returned val/\RV { w:=w',ok:=pK A.w0 A.ok0 new,env:=fun _=>none } res val/\A.dv.inv H A.X0 w')\/∃ chain l,e=.panicked chain/\di l/\O l=none/\A.dv.pan l A.X0 w' chain)
theorem Lu{P:Program}{I:World->Prop}{f:Nat}{fn:Func}{c:Code}{new:Bool}{O:List Acc->Option je}{l0 H:List Acc}{di:List Acc->Prop}{args:List PV}{res:PV}(hf:P.funcs[f]?=some fn)(hb:fn.body=some c)(hnb:Nat.ble args.length fn.ntmps=true)
  (hT:∀ A:kz,A.nt=fn.ntmps->mi P I A->A.dv.O=O->A.di=di->((∀ b,A.S b↔A.dv.S b)/\A.ds=[])->∀ a,o7 A ⟨slots 0 args,[(dx,none,0,.dev O di l0)]⟩ a A.w0->DU P f c (bodyPostM Fence.wide 3 P fn (RX A new O H di res)) a A.w0):ve P I f new [] O (some (l0,H)) di args res:=by
 intro w ok0 vs bl D X0 hM hold hst Ac hO hdv hnd hob hinj hv;obtain⟨hA,hg⟩:=aFo (fn:=fn) (di:=di) hnb rfl hM hold hst Ac hO hdv hnd hob hinj hv;have hS:∀ b,SX [] bl D b↔D.S b:=fun b=>⟨fun h=>h.elim id (fun⟨o,ho,_⟩=>by cases ho),.inl⟩;refine (callsIn_wide (n:=3)).1 ((aQn hf hb (hT _ rfl hA hO rfl ⟨hS,rfl⟩ _ hg)).mono ?_);rintro e w' ⟨h1,h2⟩
 refine⟨h1.mono fun b _ h=>.inl h,?_⟩
 rcases h2 with⟨val,h3,h4,h5⟩|h3
 ·exact .inl ⟨val,h3,h4,(fun o ho=>by cases ho),(fun p hp=>by cases hp;exact h5)⟩
 ·exact .inr h3
def DC(P:Program)(f0:FuncId)(A:kz)(s:St)(c:Code)(Q:Exit->Act->World->Prop):Prop:=∀ a w,o7 A s a w->Bv A Q->DU P f0 c Q a w
section
variable {P:Program} {f0:FuncId} {A:kz} {s:St} {Q:Exit->Act->World->Prop}
def aVK(P:Program)(f0:FuncId)(A:kz)(c:Code)(Q:Exit->Act->World->Prop):Act->World->Prop:=fun a w=>Bv A Q->DU P f0 c Q a w
theorem aCn{x y:Code}(h:ja P A s x (Exit.then (aVK P f0 A y Q) Q)):DC P f0 A s (.seq x y) Q:=fun a w hg AX=>
 aQz (Gl (aDl (h a w hg AX)) (fun e a' w' he=>by
  cases e<;>first|exact he|exact he AX))
theorem bBg{c:Code}{a:Act}{w:World}(h:DC P f0 A s c Q)(hg:o7 A s a w)(hp:Bv A Q):DU P f0 c Q a w:=h a w hg hp
theorem aNj{s':St}{c:Code}(h:∀ a w,o7 A s a w->o7 A s' a w)(hT:DC P f0 A s' c Q):DC P f0 A s c Q:=fun a w hg AX=>hT a w (h a w hg) AX
end
theorem vY{P:Program}{I:World->Prop}{G:Specs}{f0:FuncId}{A:kz}{s s':St}{Q:Exit->Act->World->Prop}(M:lm P I G)(hI:mi P I A){nt:Nat}(hnt:A.nt=nt){Dy:Nat}{ops:Array Oper}{draw:Bool}{outs:List (Option Nat×Out)}{y:Code}(h:aAj (bEc P G Dy ops.toList) 0 ops.toList s=some (outs,s'))(hcl:(vM draw ops.toList outs&&N8 nt ops.toList)=true)(hc:All ((outs.map fun q=>q.2.conds).flatten))(hQ:DC P f0 A s' y Q):DC P f0 A s (.seq (.region Dy ops draw) y) Q:=
 aCn (aQ M hI hnt h hcl hc (fun a w hg=>hQ a w hg))
theorem aYk(P:Program)(A:kz)(fn:Func)(O:List Acc->Option je)(H:List Acc)(di:List Acc->Prop)(new:Bool)(res:PV)(hO:A.dv.O=O)(hs:A.di=di)(hS:(∀ b,A.S b↔A.dv.S b)/\A.ds=[]):Bv A (bodyPostM Fence.wide 3 P fn (RX A new O H di res)):=by
 rintro chain a w hd ⟨l,h1,h2,h3,h4⟩;show LeavesInM Fence.wide 3 P fn a.tmps _ a.defers (.panicking chain) w;rw[hd,hS.2]
 exact⟨h4.mono fun b _ h=>(hS.1 b).1 h,.inr ⟨chain,l,rfl,by rw[<-hs];exact h1,by rw[<-hO];exact h2,h3⟩⟩
theorem aEe{P:Program}{A:kz}{fn:Func}{O:List Acc->Option je}{H:List Acc}{di:List Acc->Prop}{new:Bool}{res:PV}{s:St}(hS:(∀ b,A.S b↔A.dv.S b)/\A.ds=[])(h:TF P fn new res s)(hd:find s.o dx=some (none,0,.dev O di H)){a:Act}{w:World}(hg:o7 A s a w):bodyPostM Fence.wide 3 P fn (RX A new O H di res) .ret a w:=by
 obtain⟨v,h2,h3⟩:=h;obtain⟨env,hE⟩:=hg;obtain⟨v',val,h5,h6,h7,_⟩:=uP hE h2;subst h7;obtain⟨_,_,hi⟩:=hE.dev none 0 _ _ _ hd trivial
 have hOS:Bz A s env:=by
  intro x g ai e n len f0 hd b hfx hex hbx hs;exact A.dv.notS _ _ _ _ hi (.inr ⟨x,ai,hd,hex,hbx⟩) ((hS.1 b).1 hs)
 have hres:=aPx hE hOS h3 h6;show LeavesInM Fence.wide 3 P fn a.tmps _ a.defers .returning w;rw[hE.defers,hS.2]
 exact⟨val,h5,hE.gu.mono fun b _ h=>(hS.1 b).1 h,.inl ⟨val,rfl,hres,A.dv.grow _ _ _ _ _ hi (dm.refl _ _) (fun b hb=>.inl (.inl hb))⟩⟩
theorem o7.BD{A:kz}{s:St}{a:Act}{w:World}{env:Env}(h:gm A s a w env){t x:Nat}{ty:TypeId}{l:List PC}(ht:find s.t t=some (none,dn (.pt x 0 0)))(ho:find s.o x=some (none,0,.box ty l)) :
  ∃ g cs,a.tmps[t]?=some (.pointer (some ⟨g,0,none⟩))/\env x=some (0,iK g)/\au w g ty cs/\RL (aU A w env) l cs.toList:=by
 obtain⟨v,h1,h2⟩:=h.tmps t none _ ht trivial;obtain⟨hd,h3,h4⟩:=h.ji x none 0 _ ho;obtain⟨g,cs,rfl,h5,h6⟩:=h4 trivial;obtain⟨g0,e1,rfl⟩:=RV.AQ h2 h3;cases e1
 exact⟨_,cs,h1,h3,h5,h6⟩
def zq(F:Int)(b:List UInt8)(i:Nat):Acc:=⟨4,0,F+(i:Int),strOf (jm b i)⟩
def hist(F:Int)(b:List UInt8)(lz:List Acc)(k:Nat):List Acc:=lz++(List.range (k-1)).map fun j=>zq F b (1+j)
theorem aVu(F:Int)(b:List UInt8)(lz:List Acc):hist F b lz 1=lz:=List.append_nil _
theorem nU(F:Int)(b:List UInt8)(lz:List Acc):hist F b lz 0=lz:=List.append_nil _
theorem zU(F:Int)(b:List UInt8)(lz:List Acc)(k:Nat)(hk:0<k):hist F b lz (k+1)=hist F b lz k++[zq F b k]:=by
 obtain⟨m,rfl⟩:∃ m,k=m+1:=⟨k-1,by omega⟩;unfold hist;rw[show m+1+1-1=m+1 from rfl,show m+1-1=m from rfl,List.range_succ,List.map_append,List.append_assoc,Nat.add_comm m 1];rfl
theorem xY(F:Int)(b:List UInt8)(lz:List Acc){k m:Nat}(h:k<=m):hist F b lz k <+: hist F b lz m:=by
 induction m with
 |zero=>
  obtain rfl:k=0:=by omega
  exact List.prefix_refl _
 | succ m ih=>
  rcases Nat.lt_or_ge m k with h1|h1
  ·obtain rfl:k=m+1:=by omega
   exact List.prefix_refl _
  ·refine (ih h1).trans ?_;rcases Nat.eq_zero_or_pos m with rfl|hm
   ·rw[nU,aVu];exact List.prefix_refl _
   ·rw[zU F b lz m hm];exact List.prefix_append _ _
theorem Lc(O:List Acc->Option je)(F:Int)(b:List UInt8):∀ (n i:Nat) (l:List Acc),(go O (ah.Gf F b n i) l).2=l++(List.range n).map fun j=>zq F b (i+j)
 |0,i,l=>(List.append_nil _).symm
 |n+1,i,l=>by
  rw[ah.Gf,xZ,Lc O F b n (i+1),List.range_succ_eq_map,List.map_cons,List.map_map];show (l++[zq F b i])++_=_;rw[List.append_assoc];congr 1;rw[Nat.add_zero];show zq F b i::_=_;congr 1;refine List.map_congr_left fun j _=>?_;show zq F b (i+1+j)=zq F b (i+(j+1));congr 1;omega
theorem SH(rec:Int):ah.All (fun p:(Int×List UInt8)×Nat=>(0<=p.1.1/\p.1.1<=1099511627776)/\(p.2=0\/p.2=1)) (ah.cur rec):=by
 refine (ah.All.yx _).bind fun a _=>(ah.All.yx _).bind fun b _=>?_;show _/\_;unfold ui
 split
 ·exact⟨oP _ _,.inr rfl⟩
 ·exact⟨oP _ _,.inl rfl⟩
theorem bAr{A:kz}(hI:mi Tryz.prog a_ A){l:List Acc}{X:Nat->Prop}{w:World}(hi:A.dv.inv l X w)(hS:∀ b,A.S b↔A.dv.S b)(hc:dm A.dv.S A.w0 w)(k:Int)(b:ByteArray)(hp:∀ l',l <+: l'->l' <+: l++[⟨4,0,k,b⟩]->A.dv.O l'=none->A.di l') :
  Calls Tryz.prog 140 #[A.dv.hd,.int .i64 k,.string b] w fun e w'=>dm A.dv.S w w' /\
   ((∃ v,e=.returned v/\A.dv.inv (l++[⟨4,0,k,b⟩]) X w')\/∃ chain l',e=.panicked chain/\(l <+: l'/\l' <+: l++[⟨4,0,k,b⟩])/\A.dv.O l'=none/\A.dv.pan l' X w' chain):=by
 have Ah:∀ b,SX [] (fun _=>0) A.dv b->A.dv.S b:=by
  rintro b (h|⟨o,ho,_⟩)
  ·exact h
  ·cases ho
 refine ((Gg (I:=a_) k b A.dv.O l) w (fun _=>False) [A.dv.hd,.int .i64 k,.string b] (fun _=>0) A.dv X
  (fun w' h=>hI.mem w' ((hc.mono fun b _ h=>(hS b).2 h).trans (h.mono fun b _ h=>(hS b).2 (Ah b h))))
  (fun b hb=>⟨Nat.lt_of_lt_of_le (hI.old b ((hS b).2 (Ah b hb))).1 hc.size,fun h=>h⟩) (hI.step.mono fun l2 h1 h2=>hp l2 h1.1 h1.2 h2) hI.Bg rfl (fun p hp=>by cases hp;exact hi) (fun h=>by cases h) (fun o ho=>by cases ho) (fun o ho=>by cases ho)
  ⟨.w (.one (.dv A.dv.one ⟨0,A.dv.hd,rfl,Nat.le_refl _,fun _=>rfl⟩)),.w (.one (.lit rfl)),.w (.one (.lit rfl)),trivial⟩).mono ?_
 rintro e w' ⟨h1,h2⟩
 refine⟨h1.mono fun b _ h=>Ah b h,?_⟩
 rcases h2 with⟨v,rfl,_,_,h3⟩|⟨chain,l',rfl,h3,h4,h5⟩
 ·exact .inl ⟨v,rfl,h3 _ rfl⟩
 ·exact .inr ⟨chain,l',rfl,h3,h4,h5⟩
structure Ot(A:kz)(X:Nat->Prop)(n0 g3 g6 g10 g11:Nat)(F:Int)(b:List UInt8)(lz:List Acc)(k:Nat)(W:World):Prop where
 gu:dm A.dv.S A.w0 W
 inv:A.dv.inv (hist F b lz k) X W
 b3:au W g3 116 #[A.dv.hd]
 b6:au W g6 164 #[.string aS,.int .i64 0,.int .i64 0]
 b10:au W g10 3 #[.int .i64 F]
 b11:au W g11 9 #[.string (if k=0 then aS else strOf (jm b 0))]
 sz:n0<=W.heap.size
section
variable {A:kz} {X:Nat->Prop} {n0 g3 g6 g10 g11:Nat} {F:Int} {b:List UInt8} {lz:List Acc} {k:Nat} {W W':World}
theorem Ot.keep(h:Ot A X n0 g3 g6 g10 g11 F b lz k W){n1:Nat}(h0:A.w0.heap.size<=n1)(h1:∀ i,Two n1 i->X i)(hc:dm (Two n1) W W')(hk:Oe W W'):Ot A X n0 g3 g6 g10 g11 F b lz k W' where
 gu:=h.gu.trans' hc (fun _ _ h=>h) (fun i hi hn=>by rcases hn with h|h<;>omega)
 inv:=A.dv.grow _ _ _ _ _ h.inv (hc.mono fun i _ hn=>h1 i hn) (fun i hi=>.inl hi)
 b3:=hk.blk h.b3
 b6:=hk.blk h.b6
 b10:=hk.blk h.b10
 b11:=hk.blk h.b11
 sz:=Nat.le_trans h.sz hc.size
theorem Ot.notS(h:Ot A X n0 g3 g6 g10 g11 F b lz k W){i:Nat}(hi:X i):¬A.dv.S i:=A.dv.notS _ _ _ _ h.inv hi
theorem Ot.wrote(h:Ot A X n0 g3 g6 g10 g11 F b lz k W)(h3:X g3)(h6:X g6)(h10:X g10)(h11:X g11)(hk:0<k)(hc:dm A.dv.S W W')(hi:A.dv.inv (hist F b lz k++[zq F b k]) X W'):Ot A X n0 g3 g6 g10 g11 F b lz (k+1) W' where
 gu:=h.gu.trans hc
 inv:=by rw[zU _ _ _ _ hk];exact hi
 b3:=h.b3.gu hc (h.notS h3)
 b6:=h.b6.gu hc (h.notS h6)
 b10:=h.b10.gu hc (h.notS h10)
 b11:=by
  have:=h.b11.gu hc (h.notS h11);rw[if_neg (by omega)] at this ⊢;exact this
 sz:=Nat.le_trans h.sz hc.size
end
theorem aGB(a:Act)(h:a.tmps.size=65)(hd:a.defers=[]):∃ u0 u1 u2 u3 u4 u5 u6 u7 u8 u9 u10 u11 u12 u13 u14 u15 u16 ZJ ZI ZH u20 u21 u22 u23 u24 u25 u26 u27 u28 u29 u30 u31 u32 u33 u34 u35 u36 u37 u38 u39 u40 u41 u42 u43 u44 u45 u46 u47 u48 u49 u50 u51 u52 u53 u54 u55 u56 u57 u58 u59 u60 u61 u62 u63 u64,a={ tmps:=#[u0,u1,u2,u3,u4,u5,u6,u7,u8,u9,u10,u11,u12,u13,u14,u15,u16,ZJ,ZI,ZH,u20,u21,u22,u23,u24,u25,u26,u27,u28,u29,u30,u31,u32,u33,u34,u35,u36,u37,u38,u39,u40,u41,u42,u43,u44,u45,u46,u47,u48,u49,u50,u51,u52,u53,u54,u55,u56,u57,u58,u59,u60,u61,u62,u63,u64],defers:=[] }:=by
 obtain⟨⟨L⟩,d⟩:=a
 obtain rfl:d=[]:=hd
 have hL:L=(List.range 65).map fun i=>L.getD i undef:=by
  apply List.ext_getElem
  ·simpa using h
  ·intro i h1 h2;rw[List.getElem_map,List.getElem_range,zG,zH h1];rfl
 exact⟨L.getD 0 undef,L.getD 1 undef,L.getD 2 undef,L.getD 3 undef,L.getD 4 undef,L.getD 5 undef,L.getD 6 undef,L.getD 7 undef,L.getD 8 undef,L.getD 9 undef,L.getD 10 undef,L.getD 11 undef,L.getD 12 undef,L.getD 13 undef,L.getD 14 undef,L.getD 15 undef,L.getD 16 undef,L.getD 17 undef,L.getD 18 undef,L.getD 19 undef,L.getD 20 undef,L.getD 21 undef,L.getD 22 undef,L.getD 23 undef,L.getD 24 undef,L.getD 25 undef,L.getD 26 undef,L.getD 27 undef,L.getD 28 undef,L.getD 29 undef,L.getD 30 undef,L.getD 31 undef,L.getD 32 undef,L.getD 33 undef,L.getD 34 undef,L.getD 35 undef,L.getD 36 undef,L.getD 37 undef,L.getD 38 undef,L.getD 39 undef,L.getD 40 undef,L.getD 41 undef,L.getD 42 undef,L.getD 43 undef,L.getD 44 undef,L.getD 45 undef,L.getD 46 undef,L.getD 47 undef,L.getD 48 undef,L.getD 49 undef,L.getD 50 undef,L.getD 51 undef,L.getD 52 undef,L.getD 53 undef,L.getD 54 undef,L.getD 55 undef,L.getD 56 undef,L.getD 57 undef,L.getD 58 undef,L.getD 59 undef,L.getD 60 undef,L.getD 61 undef,L.getD 62 undef,L.getD 63 undef,L.getD 64 undef,congrArg (fun l=>({ tmps:=l.toArray,defers:=[] }:Act)) hL⟩
theorem aEd{C:Ctx}:∀ {vs xs:List Value},RL C (vs.map PC.lit) xs->xs=vs
 |[],_,h=>by cases h;rfl
 | v::vs,_,h=>by
  cases h with
  |cons h1 h2=>
   rename_i xs ys
   have:xs=[v]:=by cases h1;rfl
   rw[this,aEd h2];rfl
theorem xJ{C:Ctx}{vs:List Value}{cs:Array Value}(h:RL C (vs.map PC.lit) cs.toList):cs=vs.toArray:=by rw[<-aEd h]
theorem aBV{C:Ctx}{cs:Array Value}{v:Value}(h:RL C [.dv] cs.toList)(hv:∀ ai hd,C.env dx=some (ai,hd)->0=ai/\hd=v):cs=#[v]:=by
 have h1:=h.single;generalize hx:cs.toList=xs at h1
 cases h1 with
 |dv h2 h3=>
  rename_i v';obtain⟨ai,hd,he,h4,h5⟩:=h3;obtain⟨rfl,e⟩:=hv ai hd he;have h6:v'=v:=(h5 rfl).trans e;subst h6;rw[<-hx]
theorem bEq{A:kz}{s:St}{a:Act}{w:World}{env:Env}(h:gm A s a w env){t:Nat}{v:Value}(ht:find s.t t=some (none,jo v)):a.tmps[t]?=some v:=by
 obtain⟨v',h1,h2⟩:=h.tmps t none _ ht trivial;have h3:=h2.inv;generalize hx:[v']=xs at h3;cases h3;cases hx;exact h1
theorem MZ(rec seq:Int)(c:ByteArray)(h1:jb rec)(h2:jb seq)(hc:c.size<=3000)(w:World)(hM:a_ w):Calls Tryz.prog 143 #[.int .i64 rec,.int .i64 seq,.string c] w fun e w'=>
  ∃ G cap,e=.returned (.slice (some ⟨G,0,none⟩) (encS rec seq c.data.toList).length cap)/\Ext w w'/\w.heap.size<=G/\G<w'.heap.size/\(encS rec seq c.data.toList).length<=cap/\cap<=maxLen/\w'.rangeAt G 0 ((encS rec seq c.data.toList).map gq):=by
 have hpos:0<(encS rec seq c.data.toList).length:=by rw[nC];omega
 refine (aJe rec seq c h1 h2 hc w (fun _=>False) [.int .i64 rec,.int .i64 seq,.string c] hM ⟨.w (.one (.lit rfl)),.w (.one (.lit rfl)),.w (.one (.lit rfl)),trivial⟩).mono ?_;rintro e w' ⟨val,xs,rfl,hE,ho,hx⟩;generalize encS rec seq c.data.toList=b at *
 have hxs:xs=b.map gq:=by
  apply List.ext_getElem?;intro i;have hlen:=ho.1;rcases Nat.lt_or_ge i b.length with hi|hi
  ·have h3:=hx { w:=w,ok:=fun _=>False,env:=fun _=>none } i hi;rw[Nat.mul_one] at h3
   have hd:(xs.drop i).take 1=[xs[i]'(by omega)]:=by
    rw[List.drop_eq_getElem_cons (by omega)];rfl
   rw[hd] at h3;unfold p_ at h3;have h4:=h3.single;generalize hxi:xs[i]'(by omega)=x at h4
   cases h4 with
   |lit _=>
    rw[zH (by omega),hxi,List.getElem?_map,zH hi,zG,zH hi];rfl
  ·rw[List.getElem?_eq_none (by omega),List.getElem?_eq_none (by simpa using hi)]
 subst hxs;have ho2:=ho;rcases ho.2 with⟨_,h0⟩|⟨g,cap,cur,rfl,hb,hg,hnc,hcm,hcs,htake⟩
 ·omega
 ·refine⟨g,cap,rfl,hE,hb,lt_of_heap hg,hnc,hcm,fun j v hj=>?_⟩
  have:=ho2.cells (g:=g) rfl j v hj;rw[add_lit] at this;exact this
theorem aRo(v:Value)(hv:v.oneCell'=true)(w:World):Calls Tryz.prog 142 #[v] w fun e w'=>e=.returned (.func (.func 175) #[] #[.pointer (some ⟨w.heap.size,0,none⟩)]) /\
  w.alloc (.cells #[v] 74)=w':=by
 have hmf:=aCN
 go_enter Tryz.func142,Tryz.ntmps142
 go_wp2
 go_ret
 exact⟨rfl,rfl⟩
theorem Hq:u_ Tryz.prog 164 3:=⟨⟨_,Tryz.underlying164,rfl⟩,by kernel_rfl⟩
attribute [local go_sem] Oper.semAt_some
theorem IL (rec:Int) (hr:jb rec) (c:ByteArray):bIo Tryz.prog a_ 101 (ah.save rec c) [.w (.one .dv),iy rec,pg c] EX:=by
 intro O l hO;have M:=aBF
 have hp:ah.save rec c=if dP rec 0<0 then .ret ⟨aS,0,1⟩ else if 2000<c.size then .ret ⟨aS,0,19⟩ else
  (ah.cur rec).bind fun p=>if 1099511627776<p.1.1+1 then .ret ⟨aS,0,19⟩ else (ah.write (dP rec (1-(p.2:Int))) (encS rec (p.1.1+1) c.data.toList)).bind fun _=>.ret ⟨c,p.1.1+1,0⟩:=rfl
 generalize ah.save rec c=pr at *;refine Lu Tryz.func101 rfl rfl (fun A hn hI ZW hAs OZ a hga=>?_);generalize hstp:(fun h=>l <+: h/\h <+: (go O pr l).2)=di;rw[hstp] at hAs hga;refine bBg ?_ hga (aYk _ _ _ _ _ _ _ _ ZW hAs OZ);clear hga a;refine vY M hI hn (by rfl) (by kernel_rfl) ?_ ?_
 ·simp
 refine aCn ?_;refine aB M hI hn (by rfl) (by kernel_rfl) ?_ ?_
 ·simp
 refine aH (by rfl) (fun hc=>?_) (fun hc=>?_)
 ·have h:dP rec 0<0:=of_decide_eq_true hc;rw[if_pos h] at hp
  have hE:go O pr l=(⟨aS,0,1⟩,l):=by rw[hp];rfl
  refine aB M hI hn (by rfl) (by kernel_rfl) ?_ ?_
  ·simp
  refine aK (fun a w hg=>aEe OZ ?_ ?_ hg);rotate_left 1
  ·rw[hE];rfl
  refine aC (by rfl) (by simp) (by rfl) (by rfl) ?_;rw[hE];rfl
 ·have h:¬dP rec 0<0:=of_decide_eq_false hc;rw[if_neg h] at hp;refine aO ?_;change DC _ _ _ _ _ _;refine aCn ?_;refine aB M hI hn (by rfl) (by kernel_rfl) ?_ ?_
  ·simp
  refine aH (by rfl) (fun hc=>?_) (fun hc=>?_)
  ·have h2:2000<c.size:=by have:=of_decide_eq_true hc;omega
   rw[if_pos h2] at hp
   have hE:go O pr l=(⟨aS,0,19⟩,l):=by rw[hp];rfl
   refine aB M hI hn (by rfl) (by kernel_rfl) ?_ ?_
   ·simp
   refine aK (fun a w hg=>aEe OZ ?_ ?_ hg);rotate_left 1
   ·rw[hE];rfl
   refine aC (by rfl) (by simp) (by rfl) (by rfl) ?_;rw[hE];rfl
  ·have h2:¬2000<c.size:=by have:=of_decide_eq_false hc;omega
   rw[if_neg h2] at hp;refine aO ?_;change DC _ _ _ _ _ _
   have hL0:yI O pr l ((ah.cur rec).bind fun p=>if 1099511627776<p.1.1+1 then .ret ⟨aS,0,19⟩ else (ah.write (dP rec (1-(p.2:Int))) (encS rec (p.1.1+1) c.data.toList)).bind fun _=>.ret ⟨c,p.1.1+1,0⟩) l:=by rw[hp];exact yI.start _ _ _
   have hL:=hL0.step;refine vY M hI hn (by rfl) (by kernel_rfl) ?_ ?_
   ·simp
    refine⟨⟨hO,hr⟩,fun h h1 h2 h3=>?_⟩
    rw[<-hstp];exact hL0.di h h1 h2 h3
   have hq1:=UU (R:=fun p:(Int×List UInt8)×Nat=>(0<=p.1.1/\p.1.1<=1099511627776)/\(p.2=0\/p.2=1)) O (SH rec) l;obtain⟨q,lq,hq⟩:∃ q lq,go O (ah.cur rec) l=(q,lq):=⟨_,_,rfl⟩;rw[hq] at hL hq1;dsimp only at hL hq1;refine aNj (s':=⟨[(1,none,iy rec),(2,none,pg c),(3,none,dn (.pt 0 0 0)),(6,none,dn (.pt 1 0 0)),(7,none,dn (.pt 5006 0 0)),(8,none,iy (q.2:Int))],[(dx,none,0,.dev O di lq),(0,none,0,.box 116 [.dv]),(1,none,0,.box 164 [.lit (.string aS),.lit (.int .i64 0),.lit (.int .i64 0)]),(5006,none,0,.box 205 [.lit (.int .i64 q.1.1),.lit (.string (strOf q.1.2))])]⟩) (fun a w hg=>(hg.reset (kT:=[1,2,3,6,7,8]) (kO:=[900000,0,1,5006]) (by rfl) (by simp)).same ?_ ?_) ?_
   ·refine .cons rfl (.cons rfl (.cons rfl (.cons rfl (.cons rfl (.cons ?_ .nil)))));rw[hq]
   ·refine .cons (.dev ?_) (.cons (.box rfl) (.cons (.box rfl) (.cons (.box ?_) .nil)))
    ·show (go O (ah.cur rec) l).2=_;rw[hq]
    ·show[PC.lit (.int .i64 (go O (ah.cur rec) l).1.1.1),PC.lit (.string (strOf (go O (ah.cur rec) l).1.1.2))]=_
     rw[hq]
   refine vY M hI hn (by rfl) (by kernel_rfl) ?_ ?_
   ·simp
   have hw6:IntKind.i64.wrap (q.1.1+1)=q.1.1+1:=eP (by omega) (by omega);refine aCn ?_;refine aB M hI hn (by rfl) (by kernel_rfl) ?_ ?_
   ·simp
   refine aH (by rfl) (fun hc=>?_) (fun hc=>?_)
   ·have h7:1099511627776<q.1.1+1:=by have:=of_decide_eq_true hc;rw[hw6] at this;exact this
    have hE:go O pr l=(⟨aS,0,19⟩,lq):=by
     have:=hL.2;rw[if_pos h7] at this;exact this
    refine aB M hI hn (by rfl) (by kernel_rfl) ?_ ?_
    ·simp
    refine aK (fun a w hg=>aEe OZ ?_ ?_ hg);rotate_left 1
    ·rw[hE];rfl
    refine aC (by rfl) (by simp) (by rfl) (by rfl) ?_;rw[hE];rfl
   ·have h7:¬1099511627776<q.1.1+1:=by have:=of_decide_eq_false hc;rw[hw6] at this;exact this
    rw[if_neg h7] at hL;refine aO ?_;change DC _ _ _ _ _ _;have hF1:IntKind.i64.wrap (1-(q.2:Int))=1-(q.2:Int):=eP (by omega) (by omega);refine vY M hI hn (by rfl) (by kernel_rfl) ?_ ?_
    ·simp
    unfold ah.write at hL;rw[ah.bind_assoc] at hL
    have hzs:strOf (Lib.repeatL [0] 256)=strOf iD:=by rw[aEj];rfl
    have hz2:(ByteArray.mk #[0]).size<=1:=Nat.le_refl _;have hFB:=aIw rec (1-(q.2:Int));generalize hF:dP rec (1-(q.2:Int))=F at *;generalize hb:encS rec (q.1.1+1) c.data.toList=b at *;obtain⟨lz,hlz⟩:∃ lz,lq++[(⟨4,0,F,strOf iD⟩:Acc)]=lz:=⟨_,rfl⟩
    have hGO:go O pr l=(⟨c,q.1.1+1,0⟩,hist F b lz (nsec b)++[zq F b 0]):=by
     rw[hL.2,xZ,xZ,xZ];show ((⟨c,q.1.1+1,0⟩:Dw),(go O (ah.Gf F b (nsec b-1) 1) (lq++[(⟨4,0,F,strOf iD⟩:Acc)])).2++[(⟨4,0,F,strOf (jm b 0)⟩:Acc)])=_;rw[hlz,Lc];unfold zq;rw[show F+((0:Nat):Int)=F from Int.add_zero F];rfl
    have hlq:l <+: lq:=hL.1;refine vY M hI hn (by rfl) (by kernel_rfl) ?_ ?_
    ·simp;rw[hF1,hF,hzs]
     refine⟨hz2,hO,fun h h3 h4 _=>?_⟩
     rw[<-hstp]
     refine⟨hlq.trans h3,h4.trans ?_⟩
     rw[hGO];show lq++[(⟨4,0,F,strOf iD⟩:Acc)] <+: _;rw[hlz];show lz <+: hist F b lz (nsec b)++[zq F b 0];have hz:=xY F b lz (Nat.zero_le (nsec b));rw[nU] at hz;exact hz.trans (List.prefix_append _ _)
    refine vY M hI hn (by rfl) (by kernel_rfl) ?_ ?_
    ·simp
    refine aNj (s':=⟨[(1,none,iy rec),(2,none,pg c),(3,none,dn (.pt 0 0 0)),(6,none,dn (.pt 1 0 0)),(9,none,iy (q.1.1+1)),(10,none,dn (.pt 9004 0 0)),(11,none,dn (.pt 11000 0 0))],[(dx,none,0,.dev O di lz),(0,none,0,.box 116 [.dv]),(1,none,0,.box 164 [.lit (.string aS),.lit (.int .i64 0),.lit (.int .i64 0)]),(9004,none,0,.box 3 [.lit (.int .i64 F)]),(11000,none,0,.box 9 [.lit (.string aS)])]⟩) (fun a w hg=>(hg.reset (kT:=[1,2,3,6,9,10,11]) (kO:=[900000,0,1,9004,11000]) (by rfl) (by simp)).same ?_ ?_) ?_
    ·refine .cons rfl (.cons rfl (.cons rfl (.cons rfl (.cons ?_ (.cons rfl (.cons rfl .nil))))));rw[hw6]
    ·refine .cons (.dev ?_) (.cons (.box rfl) (.cons (.box rfl) (.cons (.box ?_) (.cons (.box rfl) .nil))))
     ·show lq++[(⟨4,0,dP rec (IntKind.i64.wrap (1-(q.2:Int))),strOf (Lib.repeatL [0] 256)⟩:Acc)]=lz;rw[hF1,hF,hzs,hlz]
     ·rw[hF1,hF]
    intro a w hg AX;obtain⟨env,hE⟩:=hg;obtain⟨g3,cs3,t3,e3,b3,r3⟩:=o7.BD hE (t:=3) (x:=0) rfl rfl;obtain⟨g6,cs6,t6,e6,b6,r6⟩:=o7.BD hE (t:=6) (x:=1) rfl rfl;obtain⟨g10,aPB,t10,e10,b10,r10⟩:=o7.BD hE (t:=10) (x:=9004) rfl rfl;obtain⟨g11,aPA,t11,e11,b11,r11⟩:=o7.BD hE (t:=11) (x:=11000) rfl rfl;obtain⟨dv1,dv2,hi⟩:=hE.dev none 0 O di lz rfl trivial;clear dv1 dv2;have hcg:dm A.dv.S A.w0 w:=hE.gu.mono fun b _ h=>(OZ.1 b).1 h;have x3:ownB A env g3:=.inr ⟨0,0,_,e3,rfl⟩;have x6:ownB A env g6:=.inr ⟨1,0,_,e6,rfl⟩;have x10:ownB A env g10:=.inr ⟨9004,0,_,e10,rfl⟩;have x11:ownB A env g11:=.inr ⟨11000,0,_,e11,rfl⟩
    have n6:g6≠g11:=fun e=>by
     have:=hE.inj 1 11000 0 _ 0 _ g6 e6 e11 rfl (by rw[e];rfl);cases this
    have n3:g3≠g11:=fun e=>by
     have:=hE.inj 0 11000 0 _ 0 _ g3 e3 e11 rfl (by rw[e];rfl);cases this
    have n10:g10≠g11:=fun e=>by
     have:=hE.inj 9004 11000 0 _ 0 _ g10 e10 e11 rfl (by rw[e];rfl);cases this
    have n36:g3≠g6:=fun e=>by
     have:=hE.inj 0 1 0 _ 0 _ g3 e3 e6 rfl (by rw[e];rfl);cases this
    have n106:g10≠g6:=fun e=>by
     have:=hE.inj 9004 1 0 _ 0 _ g10 e10 e6 rfl (by rw[e];rfl);cases this
    have l6:A.w0.heap.size<=g6:=(hE.live 1 0 _ g6 e6 rfl).2.resolve_right (fun h=>A.dv.notS _ _ _ _ hi x6 ((OZ.1 _).1 h.1));have l11:A.w0.heap.size<=g11:=(hE.live 11000 0 _ g11 e11 rfl).2.resolve_right (fun h=>A.dv.notS _ _ _ _ hi x11 ((OZ.1 _).1 h.1))
    obtain rfl:cs6=#[.string aS,.int .i64 0,.int .i64 0]:=xJ (vs:=[.string aS,.int .i64 0,.int .i64 0]) r6
    obtain rfl:aPB=#[.int .i64 F]:=xJ (vs:=[.int .i64 F]) r10
    obtain rfl:aPA=#[.string aS]:=xJ (vs:=[.string aS]) r11
    obtain rfl:cs3=#[A.dv.hd]:=aBV r3 (fun ai hd h=>by
     obtain⟨hd2,e5,_⟩:=hE.ji dx none 0 _ rfl;have h0:env dx=some (ai,hd):=h;rw[e5] at h0;cases h0
     exact⟨rfl,(hE.l_ dx A.dv.hd (hI.dvh _ _ _ hi)).2.now e5⟩)
    have hsz:a.tmps.size=65:=hE.size.trans (hn.trans rfl);have t1:=bEq hE (t:=1) rfl;have t2:=bEq hE (t:=2) rfl;have t9:=bEq hE (t:=9) rfl;obtain⟨u0,u1,u2,u3,u4,u5,u6,u7,u8,u9,u10,u11,u12,u13,u14,u15,u16,ZJ,ZI,ZH,u20,u21,u22,u23,u24,u25,u26,u27,u28,u29,u30,u31,u32,u33,u34,u35,u36,u37,u38,u39,u40,u41,u42,u43,u44,u45,u46,u47,u48,u49,u50,u51,u52,u53,u54,u55,u56,u57,u58,u59,u60,u61,u62,u63,u64,rfl⟩:=aGB a hsz (hE.defers.trans OZ.2)
    obtain rfl:u1=_:=Option.some.inj t1
    obtain rfl:u2=_:=Option.some.inj t2
    obtain rfl:u3=_:=Option.some.inj t3
    obtain rfl:u6=_:=Option.some.inj t6
    obtain rfl:u9=_:=Option.some.inj t9
    obtain rfl:u10=_:=Option.some.inj t10
    obtain rfl:u11=_:=Option.some.inj t11
    have hM:=hI.mem w hE.gu;have HW:=hide (And.intro hi (And.intro hcg (And.intro b3 (And.intro b6 (And.intro b10 b11)))));have HX:=hide (And.intro x3 (And.intro x6 (And.intro x10 x11)));have HL:=hide (And.intro l6 l11);have HN:=hide (And.intro n6 (And.intro n3 (And.intro n10 (And.intro n36 n106))));have HE:=hide hE.gu.size
    have hbl:b.length<=3000/\0<b.length:=by
     rw[<-hb,nC,pR];have:=aY (q.1.1+1);have:=aY (c.data.toList.length:Int);have hcl:c.data.toList.length=c.size:=Array.length_toList;omega
    have TN:=hide (MZ rec (q.1.1+1) c hr ⟨by omega,by omega⟩ (by omega) w hM);have HSc:=hide (fun v hv W=>aRo v hv W);rw[hb] at TN;have HG:=hide (And.intro hGO (And.intro hL.1 (And.intro hlz (And.intro ZW (And.intro hAs (And.intro OZ (And.intro hI (And.intro hstp AX))))))))
    have hP0:∀ l',lz <+: l'->l' <+: hist F b lz (nsec b)++[zq F b 0]->A.di l':=fun l' h1 h2=>by
     rw[hAs,<-hstp]
     refine⟨hL.1.trans ((?_:lq <+: lz).trans h1),by rw[hGO];exact h2⟩
     have:=List.prefix_append lq [(⟨4,0,F,strOf iD⟩:Acc)];rwa [hlz] at this
    have HP:=hide (show (∀ k,0<k->k<nsec b->∀ l',hist F b lz k <+: l'->l' <+: hist F b lz k++[zq F b k]->A.di l')/\(∀ l',hist F b lz (nsec b) <+: l'->l' <+: hist F b lz (nsec b)++[zq F b 0]->A.di l') from
     ⟨
      fun k hk0 hkn l' h1 h2=>hP0 l' (by have hz:=xY F b lz (Nat.zero_le k);rw[nU] at hz;exact hz.trans h1) (by
      have hz:=xY F b lz (Nat.succ_le_of_lt hkn);rw[zU F b lz k hk0] at hz
      exact (h2.trans hz).trans (List.prefix_append _ _)),
     fun l' h1 h2=>hP0 l' (by have hz:=xY F b lz (Nat.zero_le (nsec b));rw[nU] at hz;exact hz.trans h1) h2⟩)
    clear hP0;have HC:=hide (And.intro hbl hq1);have HFB:=hide hFB;clear hFB;clear l6 l11 AX hM hi hcg b3 b6 b10 b11 x3 x6 x10 x11 n6 n3 n10 n36 n106 hE t1 t2 t3 t6 t9 t10 t11 e3 e6 e10 e11 r3 r6 r10 r11 hsz hGO hL hL0 hlz ZW hAs OZ hI hstp hbl hq1 hlq hzs hz2 hF1 hb hF hq h7 hw6 h2 h hp hO hr M hn;refine aQz (aQz (aDl ?_))
    go_wp2_with (first
     |(go_at_call 143;refine (aA TN).mono ?_;rintro e w1 ⟨G,cap,rfl,k1,k2,k3,k4,k5,k6⟩;have H1:=hide (And.intro k1 (And.intro k2 (And.intro k3 (And.intro k4 (And.intro k5 k6)))));clear k1 k2 k3 k4 k5 k6)
     |(go_at_call 142;refine (aA HSc _ rfl _).mono ?_;rintro e w2 ⟨rfl,rfl⟩))
    change DU _ _ _ _ _ _;refine bAt ?_;obtain⟨W0,hW0⟩:∃ x,w1.alloc (.cells #[.slice (some ⟨G,0,none⟩) b.length cap] 74)=x:=⟨_,rfl⟩
    have hsz0:W0.heap.size=w1.heap.size+1:=by rw[<-hW0];simp
    have hwW:Ext w W0:=by rw[<-hW0];exact (aA H1).1.alloc _
    have hBx:W0.cell? ⟨w1.heap.size,0,none⟩=some (.slice (some ⟨G,0,none⟩) b.length cap):=by rw[<-hW0];exact fH _ _ _ rfl rfl
    have hGr:W0.rangeAt G 0 (b.map gq):=by rw[<-hW0];exact fun j v hj=>Ext.jd ((Ext.refl w1).alloc _) ((aA H1).2.2.2.2.2 j v hj)
    obtain⟨X,RN⟩:∃ X:Nat->Prop,X=fun i=>ownB A env i\/(w.heap.size<=i/\i<W0.heap.size+2):=⟨_,rfl⟩
    have hX3:X g3:=by rw[RN];exact .inl (aA HX).1
    have hX6:X g6:=by rw[RN];exact .inl (aA HX).2.1
    have aOF:X g10:=by rw[RN];exact .inl (aA HX).2.2.1
    have aEC:X g11:=by rw[RN];exact .inl (aA HX).2.2.2
    have RJ:∀ i,w.heap.size<=i->i<W0.heap.size+2->X i:=fun i h1 h2=>by rw[RN];exact .inr ⟨h1,h2⟩
    have hin0:∀ W,Ext W0 W->W0.heap.size+2<=W.heap.size->Ot A X W0.heap.size g3 g6 g10 g11 F b lz 0 W:=fun W hE hs=>by
     have LY:Ext w W:=hwW.trans hE
     refine⟨(aA HW).2.1.ext LY,?_,(aA HW).2.2.1.ext LY,(aA HW).2.2.2.1.ext LY,(aA HW).2.2.2.2.1.ext LY,?_,hE.size'⟩
     ·rw[nU];refine A.dv.grow _ _ _ _ _ (aA HW).1 LY.gu (fun i hi=>?_);rw[RN] at hi;rcases hi with hi|⟨h1,h2⟩
      ·exact .inl hi
      ·exact .inr ⟨h1,by omega⟩
     ·rw[if_pos rfl];exact (aA HW).2.2.2.2.2.ext LY
    have hnS:∀ i,X i->¬A.dv.S i:=fun i hi hs=>by
     rw[RN] at hi;rcases hi with hi|⟨h1,h2⟩
     ·exact A.dv.notS _ _ _ _ (aA HW).1 hi hs
     ·have:=((aA HG).2.2.2.2.2.2.1.old i (((aA HG).2.2.2.2.2.1.1 i).2 hs)).1;have:=aA HE;omega
    have hseq:=aRn b (aA HC).1.1 (aA HC).1.2 w1.heap.size G cap (fun i=>A.dv.S i\/i=g11) W0 (fun h=>?s1) (fun h=>?s2) hBx (aA H1).2.2.2.1 (aA H1).2.2.2.2.1 (by omega) (by have:=(aA H1).2.2.1;omega) hGr
    case s1=>
     rcases h with h|h
     ·exact hnS _ (RJ _ (aA H1).1.size' (by omega)) h
     ·have:=(aA HW).2.2.2.2.2.lt;have:=(aA H1).1.size';omega
    case s2=>
     rcases h with h|h
     ·exact hnS _ (RJ _ (aA H1).2.1 (by have:=(aA H1).2.2.1;omega)) h
     ·have:=(aA HW).2.2.2.2.2.lt;have:=(aA H1).2.1;omega
    have HXD:=hide RN;clear RN;rw[hW0];have hn1:A.w0.heap.size<=W0.heap.size:=Nat.le_trans (aA HE) hwW.size';have hwn:=hwW.size';obtain⟨Sx,hSx⟩:∃ S:Nat->Prop,S=fun i=>A.dv.S i\/i=g11:=⟨_,rfl⟩;rw[<-hSx] at hseq;have HSX:=hide hSx;clear hSx
    refine aXf (gf:=175) (lb:=#[.pointer (some ⟨w1.heap.size,0,none⟩)]) (encs:=fun k=>#[.int .i64 (k:Int),.string (strOf (jm b k))]) (S:=Sx) (N:=nsec b) ⟨_,Tryz.func101⟩ rfl (aF Tryz.func175 (by kernel_rfl) rfl) hseq (fun _=>rfl)
     (Ot A X W0.heap.size g3 g6 g10 g11 F b lz) (fun k W W' h hc hk=>h.keep hn1 (fun i hi=>RJ i (by rcases hi with h|h<;>omega) (by rcases hi with h|h<;>omega)) hc hk) hin0
     (fun ch W=>dm A.dv.S A.w0 W/\∃ l',(lz <+: l'/\l' <+: hist F b lz (nsec b))/\A.dv.O l'=none/\A.dv.pan l' X W ch)
     (fun k a'=>a'={ tmps:=#[u0,.int .i64 rec,.string c,.pointer (some ⟨g3,0,none⟩),u4,u5,.pointer (some ⟨g6,0,none⟩),u7,u8,.int .i64 (q.1.1+1),.pointer (some ⟨g10,0,none⟩),.pointer (some ⟨g11,0,none⟩),.int .i64 (k:Int),.string (strOf (jm b k)),u14,u15,u16,ZJ,ZI,ZH,u20,u21,u22,u23,u24,u25,u26,u27,u28,u29,u30,u31,u32,u33,u34,u35,u36,u37,u38,u39,u40,u41,.int .i64 rec,.int .i64 (q.1.1+1),.string c,.slice (some ⟨G,0,none⟩) b.length cap,.func (.func 175) #[] #[.pointer (some ⟨w1.heap.size,0,none⟩)],.int .i64 (k:Int),.string (strOf (jm b k)),u49,u50,u51,u52,u53,u54,u55,u56,u57,u58,u59,u60,u61,u62,u63,u64],defers:=[] }) ?assign ?body ?done ?pan
    case assign=>
     intro l1 k W K hK;clear hseq hin0 RJ hnS TN HSc
     gi_wp2
     exact hK _ _ (Ext.refl _) rfl
    case body=>
     rintro l1 k a' W hJ rfl hlt
     by_cases hk0:k=0
     ·subst hk0;have c11:=hJ.b11.cell 0;have f11:=hJ.b11.frozen 0;have bIM:=hJ.b11.lt;rw[if_pos rfl] at c11;have c11':W.cell? ⟨g11,0,none⟩=some (.string aS):=c11;clear c11 hseq hin0 TN HSc hW0 hsz0;have HJ:=hide hJ;clear hJ
      gi_wp2
      have c1:dm (fun i=>i=g11) W (W.setCell ⟨g11,0,none⟩ (.string (strOf (jm b 0)))):=(dm.refl (fun i=>i=g11) W).setCell (p:=⟨g11,0,none⟩) (.inl rfl) _
      refine⟨⟨(aA HJ).gu.trans' c1 (fun _ _ h=>h) (fun i hi e=>by have:=(aA HL).2;omega),?_,(aA HJ).b3.far (aA HN).2.1 _,(aA HJ).b6.far (aA HN).1 _,(aA HJ).b10.far (aA HN).2.2.1 _,?_,Nat.le_trans (aA HJ).sz c1.size⟩,fun i hi hn=>?_,fun i o hi ho hno=>?_⟩
      ·have:=A.dv.grow _ _ _ _ _ (aA HJ).inv (c1.mono fun i _ e=>e ▸ aEC) (fun i hi=>.inl hi);rw[nU] at this;rw[aVu];exact this
      ·have:=(aA HJ).b11.y9 0 (.string (strOf (jm b 0)));rw[if_neg (by omega)];exact this
      ·exact Below.heap_setCell W _ _ i (fun e=>hn (by rw[aA HSX];exact .inr e))
      ·rw[Below.heap_setCell W _ _ i (fun e=>by
        have e2:i=g11:=e;have:=(aA HW).2.2.2.2.2.lt
        omega)]
       exact ho
     ·have hkI:¬(k:Int)=0:=by omega
      have c3:W.cell? ⟨g3,0,none⟩=some A.dv.hd:=hJ.b3.cell 0;have c10:W.cell? ⟨g10,0,none⟩=some (.int .i64 F):=hJ.b10.cell 0
      have hkn:k<=12:=by have:=(aA HC).1.1;unfold nsec at hlt;omega
      have hwF:wrap64 (F+(k:Int))=F+(k:Int):=by have:=aA HFB;unfold wrap64;omega
      have HJ:=hide hJ;have HWr:=hide (bAr (aA HG).2.2.2.2.2.2.1 hJ.inv (aA HG).2.2.2.2.2.1.1 hJ.gu (F+(k:Int)) (strOf (jm b k)) (fun l' h1 h2 _=>(aA HP).1 k (by omega) hlt l' h1 h2));clear hJ hseq hin0 TN HSc hW0 hsz0
      gi_wp2_with ((refine⟨trivial,?_⟩;gi_at_call 140;refine (CallsIn.inRound l1 (callsIn_wide.2 (aA HWr))).mono ?_))
      have hkp:∀ W',dm A.dv.S W W'->KpS Sx W0.heap.size W W':=fun W' hc1 i hi hn=>hc1.block i (Nat.lt_of_lt_of_le hi (aA HJ).sz) (fun h=>hn (by rw[aA HSX];exact .inl h))
      have hko:∀ W',dm A.dv.S W W'->OO W0.heap.size W W':=fun W' hc1 i o hi ho hno=>(hc1.block i (lt_of_heap ho) (fun h=>by
       have:=((aA HG).2.2.2.2.2.2.1.old i (((aA HG).2.2.2.2.2.1.1 i).2 h)).1
       omega)).trans ho
      rintro e w' ⟨hc1,⟨v,rfl,hi2⟩|⟨ch,l',rfl,hl',hO2,LD⟩⟩
      ·have HJ2:=hide ((aA HJ).wrote hX3 hX6 aOF aEC (by omega) hc1 hi2);have HK:=hide (And.intro (hkp _ hc1) (hko _ hc1));clear hkp hko hc1 hi2
       gi_wp2
       exact⟨aA HJ2,(aA HK).1,(aA HK).2⟩
      ·refine⟨rfl,⟨(aA HJ).gu.trans hc1,l',⟨?_,?_⟩,hO2,LD⟩,hko _ hc1⟩
       ·have hz:=xY F b lz (Nat.zero_le k);rw[nU] at hz;exact hz.trans hl'.1
       ·refine hl'.2.trans ?_;have hz:=xY F b lz (Nat.succ_le_of_lt hlt);rw[zU F b lz k (by omega)] at hz;exact hz
    case done=>
     intro D W hJ hD hDl
     have hnp:0<nsec b:=by have:=(aA HC).1.2;unfold nsec;omega
     change DU _ _ _ _ _ _;refine aDl ?_;have c3:W.cell? ⟨g3,0,none⟩=some A.dv.hd:=hJ.b3.cell 0;have c10:W.cell? ⟨g10,0,none⟩=some (.int .i64 F):=hJ.b10.cell 0
     have c11:W.cell? ⟨g11,0,none⟩=some (.string (strOf (jm b 0))):=by
      have:=hJ.b11.cell 0;rw[if_neg (by omega)] at this;exact this
     have HJ:=hide hJ;have HD:=hide (And.intro hD hDl);have HWr:=hide (bAr (aA HG).2.2.2.2.2.2.1 hJ.inv (aA HG).2.2.2.2.2.1.1 hJ.gu F (strOf (jm b 0)) (fun l' h1 h2 _=>(aA HP).2 l' h1 (by unfold zq;rw[show F+((0:Nat):Int)=F from Int.add_zero F];exact h2)));clear hJ hseq hin0 TN HSc hW0 hsz0 hD hDl
     go_wp2_with ((go_at_call 140;refine (aA HWr).mono ?_))
     have hAX:∀ i,A.X0 i->X i:=fun i h=>by rw[aA HXD];exact .inl (.inl h)
     have h0f:F+((0:Nat):Int)=F:=Int.add_zero F;rintro e w2 ⟨hc1,⟨v,rfl,hi2⟩|⟨ch,l',rfl,hl',hO2,LD⟩⟩
     ·have H2:=hide (And.intro ((aA HJ).gu.trans hc1) (And.intro hi2 (And.intro ((aA HJ).b6.gu hc1 ((aA HJ).notS hX6)) (show w2.heap[D]?=some (.deferred (some [])) from (hc1.block D (lt_of_heap (aA HD).1) ((aA HJ).notS (RJ D (by have:=(aA HD).2;omega) (by have:=(aA HD).2;omega)))).trans (aA HD).1))));clear hc1 hi2;have c60:w2.cell? ⟨g6,0,none⟩=some (.string aS):=(aA H2).2.2.1.cell 0;have c61:w2.cell? ⟨g6,1,none⟩=some (.int .i64 0):=(aA H2).2.2.1.cell 1;have c62:w2.cell? ⟨g6,2,none⟩=some (.int .i64 0):=(aA H2).2.2.1.cell 2;have f60:=(aA H2).2.2.1.frozen 0;have f61:=(aA H2).2.2.1.frozen 1;have f62:=(aA H2).2.2.1.frozen 2;have lt6:=(aA H2).2.2.1.lt
      go_wp2
      obtain rfl:=(aA HD).2
      have hb6:au (((w2.setCell ⟨g6,0,none⟩ (.string c)).setCell ⟨g6,1,none⟩ (.int .i64 (q.1.1+1))).setCell ⟨g6,2,none⟩ (.int .i64 0)) g6 164 #[.string c,.int .i64 (q.1.1+1),.int .i64 0]:=(((aA H2).2.2.1.y9 0 _).y9 1 _).y9 2 _;have c6:dm (fun i=>i=g6) w2 (((w2.setCell ⟨g6,0,none⟩ (.string c)).setCell ⟨g6,1,none⟩ (.int .i64 (q.1.1+1))).setCell ⟨g6,2,none⟩ (.int .i64 0)):=(((dm.refl (fun i=>i=g6) w2).setCell (p:=⟨g6,0,none⟩) (.inl rfl) _).setCell (p:=⟨g6,1,none⟩) (.inl rfl) _).setCell (p:=⟨g6,2,none⟩) (.inl rfl) _;generalize ((w2.setCell ⟨g6,0,none⟩ (.string c)).setCell ⟨g6,1,none⟩ (.int .i64 (q.1.1+1))).setCell ⟨g6,2,none⟩ (.int .i64 0)=W3 at *
      have g6w:g6<W0.heap.size:=by have:=(aA HW).2.2.2.1.lt;omega
      have hD3:W3.heap[W0.heap.size]?=some (.deferred (some [])):=(c6.block _ (lt_of_heap (aA H2).2.2.2) (fun e=>by omega)).trans (aA H2).2.2.2;have hcp:dm (fun i=>i=W0.heap.size) W3 (W3.putObj W0.heap.size (.deferred none)):=⟨rfl,rfl,rfl,by simp,fun b _ hn=>World.putObj_heap_other hn⟩;refine aIp (v:=.agg #[.string c,.int .i64 (q.1.1+1),.int .i64 0]) rfl hD3 (dJ Hq rfl ((World.putObj_heap_other (by omega)).trans hb6) rfl rfl) ?_;have ct:dm X w2 (W3.putObj W0.heap.size (.deferred none)):=(c6.mono fun i _ e=>e ▸ hX6).trans' hcp (fun _ _ h=>h) (fun i _ e=>RJ i (by omega) (by omega))
      refine⟨((aA H2).1.trans' c6 (fun _ _ h=>h) (fun i hi e=>by have:=(aA HL).1;omega)).trans' hcp (fun _ _ h=>h) (fun i hi e=>by omega),.inl ⟨_,rfl,?_,?_⟩⟩
      ·rw[(aA HG).1];exact .w (.agg (.cons (.lit rfl) (.cons (.lit rfl) (.cons (.lit rfl) .nil))))
      ·rw[(aA HG).1];have:=A.dv.grow _ _ _ _ _ (aA H2).2.1 ct (fun i hi=>.inl (hAX i hi));unfold zq;rw[h0f];exact this
     ·have hcp:dm (fun i=>i=W0.heap.size) w2 (w2.putObj W0.heap.size (.deferred none)):=⟨rfl,rfl,rfl,by simp,fun b _ hn=>World.putObj_heap_other hn⟩
      obtain rfl:=(aA HD).2
      have hD2:w2.heap[W0.heap.size]?=some (.deferred (some [])):=(hc1.block _ (lt_of_heap (aA HD).1) ((aA HJ).notS (RJ _ (by omega) (by omega)))).trans (aA HD).1;show LeavesInM Fence.wide 3 _ _ _ _ [{ target:=.collected W0.heap.size,args:=#[] }] (.panicking ch) w2
      refine⟨by simp,.inl ⟨_,_,rfl,run_takeDeferred hD2,?_⟩⟩
      refine⟨((aA HJ).gu.trans hc1).trans' hcp (fun _ _ h=>h) (fun i hi e=>by omega),.inr ⟨ch,l',rfl,?_,by rw[<-(aA HG).2.2.2.1];exact hO2,(aA HG).2.2.2.2.2.2.1.Bg _ _ _ _ _ _ LD (hcp.mono fun i _ e=>RJ i (by omega) (by omega)) hAX⟩⟩
      rw[<-(aA HG).2.2.2.2.2.2.2.1]
      refine⟨(aA HG).2.1.trans (?_:lq <+: l'),hl'.2.trans ?_⟩
      ·have:=List.prefix_append lq [(⟨4,0,F,strOf iD⟩:Acc)];rw[(aA HG).2.2.1] at this;have hz:=xY F b lz (Nat.zero_le (nsec b));rw[nU] at hz;exact (this.trans hz).trans hl'.1
      ·rw[(aA HG).1];unfold zq;rw[h0f];exact List.prefix_refl _
    case pan=>
     rintro D ch W ⟨hc,l',h1,h2,h3⟩ hD rfl
     have hAX:∀ i,A.X0 i->X i:=fun i h=>by rw[aA HXD];exact .inl (.inl h)
     have hcp:dm (fun i=>i=W0.heap.size) W (W.putObj W0.heap.size (.deferred none)):=⟨rfl,rfl,rfl,by simp,fun b _ hn=>World.putObj_heap_other hn⟩;show LeavesInM Fence.wide 3 _ _ _ _ [{ target:=.collected W0.heap.size,args:=#[] }] (.panicking ch) W
     refine⟨by simp,.inl ⟨_,_,rfl,run_takeDeferred hD,?_⟩⟩
     refine⟨hc.trans' hcp (fun _ _ h=>h) (fun i hi e=>by omega),.inr ⟨ch,l',rfl,?_,by rw[<-(aA HG).2.2.2.1];exact h2,(aA HG).2.2.2.2.2.2.1.Bg _ _ _ _ _ _ h3 (hcp.mono fun i _ e=>RJ i (by omega) (by omega)) hAX⟩⟩
     rw[<-(aA HG).2.2.2.2.2.2.2.1]
     refine⟨(aA HG).2.1.trans (?_:lq <+: l'),h1.2.trans ?_⟩
     ·have:=List.prefix_append lq [(⟨4,0,F,strOf iD⟩:Acc)];rw[(aA HG).2.2.1] at this;exact this.trans h1.1
     ·rw[(aA HG).1];exact List.prefix_append _ _
end Pv
namespace Pv
def ny:TypeId:=118
theorem Jp(b:Bool)(e:Int)(w:World):Calls Tryz.prog 73 #[.bool b,.int .i64 e] w fun en w'=>w'=w/\((b=true/\en=.returned (.tuple #[]))\/(b=false/\en=.panicked (aFr ny e))):=by
 cases b
 ·go_enter Tryz.func73,Tryz.ntmps73
  go_wp2_with fail
  exact⟨rfl,rfl,.inr ⟨trivial,rfl⟩⟩
 ·go_enter Tryz.func73,Tryz.ntmps73
  go_wp2_with fail
  go_returns
  exact⟨rfl,.inl ⟨trivial,rfl⟩⟩
theorem Jo{I:World->Prop}(b:Bool)(e:Int):OT Tryz.prog I ny 73 (gZ b e) [qi b,iy e] (fun _=>.lw []):=by
 intro O l Dz hF w ok0 vs bl D X0 hM hold hst Ac hO hdv hnd hob hinj hv
 match vs,hv with
 |[x,y],⟨h1,h2,_⟩=>
  obtain rfl:x=.bool b:=RV.dw h1
  obtain rfl:y=.int .i64 e:=RV.dw h2
  refine (Jp b e w).mono ?_;rintro en w' ⟨rfl,⟨rfl,rfl⟩|⟨rfl,rfl⟩⟩
  ·exact⟨dm.refl _ _,.inl ⟨_,rfl,.lw rfl (fun i x h=>by cases h),(fun o ho=>by cases ho),(fun p hp=>by cases hp;exact hdv _ rfl)⟩⟩
  ·refine⟨dm.refl _ _,.inr ⟨_,l++[sU e],rfl,⟨Q7 l _,oI _⟩,hF.2 l e,((hst.fail ny (hO ▸ hF) l X0 _ (hdv _ rfl)).2 e)⟩⟩
def aTl:List PV->Option (Prop×ah Unit×(Unit->PV))
 |[.w (.one (.lit (.bool b))),.w (.one (.lit (.int .i64 e)))]=>some (True,gZ b e,fun _=>.lw [])
 |_=>none
theorem bDx{I:World->Prop}:aj Tryz.prog I 73 (aKv ny aTl):=
 aSk (aF Tryz.func73 (by kernel_rfl) rfl) (fun ys c p v h _=>by
  unfold aTl at h
  split at h
  ·cases h;exact Jo _ _
  ·cases h)
end Pv
section
section
variable {P:Program} {ops:Array Oper} {md:Region.Mode} {Q:Exit->Act->World->Prop}
end
end
section
section
variable {P:Nat->Value->Prop} {i1:Nat} {w0:World} {ca ha:Array Value} {i:Nat} {v u:Value} {W W':World} {L:Nat->Bool} {xs:Nat->Value}
end
end
section
section
variable {w0:World} {gd gb:Nat} {af:Int} {c:ByteArray} {l1 l2:List UInt8} {bIJ:Array Value} {i:Nat} {v u:Value} {W W':World}
end
end
namespace Pv
def Zw(lim:Nat):Spec:=fun _ xs=>match xs with
 |[.w (.agg [.bs 16 k]),.w (.one (.lit (.int .i64 n))),.w (.one (.lit (.string b)))]=>.need (jb n/\b.size<=lim) (.ret (.w (.agg [.lit (.int .i64 n),.lit (.string (strOf (dV k n b.data.toList))),.bs 16 (qg k n (dV k n b.data.toList))])))
 |_=>.fail
def opened(k:List UInt8)(n:Int)(c:ByteArray)(t:List UInt8):Bool:=qg k n c.data.toList==t
def Zv(lim:Nat):Spec:=fun _ xs=>match xs with
 |[.w (.agg [.bs 16 k]),.w (.agg [.lit (.int .i64 n),.lit (.string c),.bs 16 t])]=>.need (jb n/\c.size<=lim) (.ret (.lw [.one (.lit (.string (bif opened k n c t then strOf (dV k n c.data.toList) else { data:=#[] }))),.one (.lit (.int .i64 (bif opened k n c t then 0 else 8)))]))
 |_=>.fail
theorem IZ{C:Ctx}{n:Int}{c:ByteArray}{t:List UInt8}{v:Value}(h:RV C (.w (.agg [.lit (.int .i64 n),.lit (.string c),.bs 16 t])) v):t.length=16/\v=.agg (BU n c t):=by
 cases h with
 | w h=>cases h with
  | @agg _ cs h=>
   generalize hq:cs.toList=q at h
   cases h with
   | cons h1 h=>cases h with
    |cons h2 h=>
     cases h1;cases h2
     obtain⟨h3,h4⟩:=h.Zc
     refine⟨h3,?_⟩
     congr 1;apply Array.ext';rw[hq,h4];rfl
theorem aNu{C:Ctx}{n:Int}{c:ByteArray}{t:List UInt8}(h:t.length=16):RV C (.w (.agg [.lit (.int .i64 n),.lit (.string c),.bs 16 t])) (.agg (BU n c t)):=
 .w (.agg (by
  have:=RL.cons (C:=C) (R.lit (v:=.int .i64 n) rfl) (RL.cons (R.lit (v:=.string c) rfl) (RL.cons (R.bs h) RL.nil))
  simpa[BU,Gu] using this))
theorem PO:aj Tryz.prog a_ 103 (Zw 100000):=by
 refine⟨aF Tryz.func103 (by kernel_rfl) rfl,fun A s a w env nm uq vs F h hI hv hk=>?_⟩
 unfold Zw at hk
 split at hk
 rotate_left
 ·exact hk.elim
 rename_i k n b;obtain⟨⟨⟨c0,c1⟩,c2⟩,hk⟩:=hk
 match vs,hv with
 |[kv,nv,v],⟨h0,h1,h2,_⟩=>
  obtain rfl:=RV.dw (show RV _ _ _ from h1)
  obtain rfl:=RV.dw (show RV _ _ _ from h2)
  obtain⟨hkl,rfl⟩:=aUq h0;refine (IJ k n b w (hI.mem w h.gu) hkl c0 c1 c2).mono ?_;rintro e w' ⟨rfl,hE⟩;exact .inl ⟨_,[],_,env,rfl,hk,h.ext hE,aNu (fE _ _ _)⟩
theorem Ij:aj Tryz.prog a_ 120 (Zw 10000):=by
 refine⟨aF Tryz.func120 (by kernel_rfl) rfl,fun A s a w env nm uq vs F h hI hv hk=>?_⟩
 unfold Zw at hk
 split at hk
 rotate_left
 ·exact hk.elim
 rename_i k n b;obtain⟨⟨⟨c0,c1⟩,c2⟩,hk⟩:=hk
 match vs,hv with
 |[kv,nv,v],⟨h0,h1,h2,_⟩=>
  obtain rfl:=RV.dw (show RV _ _ _ from h1)
  obtain rfl:=RV.dw (show RV _ _ _ from h2)
  obtain⟨hkl,rfl⟩:=aUq h0;refine (bCc k n b w  hkl c0 c1 c2).mono ?_;rintro e w' ⟨rfl,hE⟩;exact .inl ⟨_,[],_,env,rfl,hk,h.ext hE,aNu (fE _ _ _)⟩
theorem QF:aj Tryz.prog a_ 81 (Zv 100000):=by
 refine⟨aF Tryz.func81 (by kernel_rfl) rfl,fun A s a w env nm uq vs F h hI hv hk=>?_⟩
 unfold Zv at hk
 split at hk
 rotate_left
 ·exact hk.elim
 rename_i k n c t;obtain⟨⟨⟨c0,c1⟩,c2⟩,hk⟩:=hk
 match vs,hv with
 | [kv,v],⟨h0,h1,_⟩=>
  obtain⟨hkl,rfl⟩:=aUq h0;obtain⟨htl,rfl⟩:=IZ h1
  by_cases ht:qg k n c.data.toList=t
  ·refine (JP k n c t w (hI.mem w h.gu) hkl htl c0 c1 c2 ht).mono ?_;rintro e w' ⟨rfl,hE⟩;refine .inl ⟨_,[],_,env,rfl,hk,h.ext hE,.lw rfl (fun i x hx=>?_)⟩
   have ho:opened k n c t=true:=by unfold opened;rw[ht];simp
   rw[ho] at hx
   match i,hx with
   |0,hx=>cases hx;exact⟨_,rfl,.one (.lit rfl)⟩
   |1,hx=>cases hx;exact⟨_,rfl,.one (.lit rfl)⟩
   |i+2,hx=>cases hx
  ·refine (QG k n c t w (hI.mem w h.gu) hkl htl c0 c1 c2 ht).mono ?_;rintro e w' ⟨rfl,hE⟩;refine .inl ⟨_,[],_,env,rfl,hk,h.ext hE,.lw rfl (fun i x hx=>?_)⟩
   have ho:opened k n c t=false:=by unfold opened;simpa using ht
   rw[ho] at hx
   match i,hx with
   |0,hx=>cases hx;exact⟨_,rfl,.one (.lit rfl)⟩
   |1,hx=>cases hx;exact⟨_,rfl,.one (.lit rfl)⟩
   |i+2,hx=>cases hx
theorem Ir:aj Tryz.prog a_ 21 (Zv 10000):=by
 refine⟨aF Tryz.func21 (by kernel_rfl) rfl,fun A s a w env nm uq vs F h hI hv hk=>?_⟩
 unfold Zv at hk
 split at hk
 rotate_left
 ·exact hk.elim
 rename_i k n c t;obtain⟨⟨⟨c0,c1⟩,c2⟩,hk⟩:=hk
 match vs,hv with
 | [kv,v],⟨h0,h1,_⟩=>
  obtain⟨hkl,rfl⟩:=aUq h0;obtain⟨htl,rfl⟩:=IZ h1
  by_cases ht:qg k n c.data.toList=t
  ·refine (bCi k n c t w  hkl htl c0 c1 c2 ht).mono ?_;rintro e w' ⟨rfl,hE⟩;refine .inl ⟨_,[],_,env,rfl,hk,h.ext hE,.lw rfl (fun i x hx=>?_)⟩
   have ho:opened k n c t=true:=by unfold opened;rw[ht];simp
   rw[ho] at hx
   match i,hx with
   |0,hx=>cases hx;exact⟨_,rfl,.one (.lit rfl)⟩
   |1,hx=>cases hx;exact⟨_,rfl,.one (.lit rfl)⟩
   |i+2,hx=>cases hx
  ·refine (Iu k n c t w  hkl htl c0 c1 c2 ht).mono ?_;rintro e w' ⟨rfl,hE⟩;refine .inl ⟨_,[],_,env,rfl,hk,h.ext hE,.lw rfl (fun i x hx=>?_)⟩
   have ho:opened k n c t=false:=by unfold opened;simpa using ht
   rw[ho] at hx
   match i,hx with
   |0,hx=>cases hx;exact⟨_,rfl,.one (.lit rfl)⟩
   |1,hx=>cases hx;exact⟨_,rfl,.one (.lit rfl)⟩
   |i+2,hx=>cases hx
end Pv
end Go.Proofs.YtndpjopifkbgiaaGreatDoor
