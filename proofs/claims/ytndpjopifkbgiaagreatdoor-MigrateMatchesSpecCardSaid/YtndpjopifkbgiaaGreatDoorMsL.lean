/-
  Several texts in one file: each has its own heading below.
-/
import Derived.Test.YtndpjopifkbgiaaGreatDoorMsK
import Derived.Test.YtndpjopifkbgiaaGreatDoorMsI
import Derived.Test.YtndpjopifkbgiaaGreatDoorMsJ
import Derived.WalkMore
import Derived.Test.YtndpjopifkbgiaaGreatDoorMsA
import Derived.StillTail
import Derived.RegionTactic
import Derived.Test.YtndpjopifkbgiaaGreatDoorMsC
import Derived.Test.YtndpjopifkbgiaaGreatDoorMsE
import Derived.Shelf.Spec.SlicesGrow
set_option maxRecDepth 100000
set_option maxHeartbeats 4000000
namespace Go.Proofs.YtndpjopifkbgiaaGreatDoor
open Go.RowKit Tryz
open _root_.And renaming intro->az
open _root_.Go.World renaming putObj_heap_other->Yn
open _root_.Go renaming undef->dC,World->ae,fenced_wide->Yu,wpAnyIn_take->aBr,Program->gp,Value->ag,PanicEntry->YL,FuncId->Yg,Code->Hm,Exit->uB,Calls->ik
open _root_.List renaming prefix_append->Yb,prefix_refl->aAE,append_nil->Pi,mem_cons->xn,getElem?_eq_none->GM,range->yf,getElem?_map->Xu,append_assoc->yl,replicate->DD
open _root_.Nat renaming zero_le->x8,le_refl->dE,le_trans->mr,lt_of_lt_of_le->Y1,zero_add->lL,lt_or_ge->Y6,mul_one->Y_
open _root_.ByteArray renaming ext->aEW
section
section
variable {P:gp} {f0:Yg} {Q:uB->Act->ae->Prop} {a:Act} {w:ae}
def DX(P:gp)(f0:Yg)(c:Hm)(Q:uB->Act->ae->Prop)(a:Act)(w:ae):Prop:=∀ (b:Frame) (k:List Item) (f:List Frame),b.roundOf=none->b.fn=f0->∃ e g d,Q e g d/\ArrivesIn (Machine.fenced P Fence.wide) P (lone (b.atR a (.code c::k)) f w) b k f e g d
theorem aEf{c:Hm}(h:c.wp P Q a w):DX P f0 c Q a w:=fun b k e d _=>(wpIn_wide (n:=3)).2 h b k e d trivial (room_wide _)
theorem FY{c:Hm}{f:uB->Act->ae->Prop}(h:DX P f0 c Q a w)(i:∀ e a w,Q e a w->f e a w):DX P f0 c f a w:=fun b k l d j=>
 let ⟨e,m,g,q,r⟩:=h b k l d j
 ⟨e,m,g,i _ _ _ q,r⟩
theorem aSw{x y:Hm}(h:DX P f0 x (Exit.then (DX P f0 y Q) Q) a w):DX P f0 (.seq x y) Q a w:=by
 intro b k o j q;have r:=Yu P (lone (b.atR a (.code (.seq x y)::k)) o w);obtain⟨e,n,i,p,d⟩:=h b (.code y::k) o j q;cases e with
 |normal=>obtain⟨l,m,g,f,c⟩:=p b k o j q;exact⟨l,m,g,f,.of_steps (.head r stepR_seq d) c⟩
 |_=>exact⟨_,n,i,p,.of_steps (.one r stepR_seq) (.pass (x:=.code y) rfl (fun _ _=>.inl ay) d)⟩
theorem bEy{i:Nat}{c:Hm}(h:DX P f0 c (fun e a w=>match e with|.normal=>Q .normal a w|.panic o=>Q (.panic o) a w|_=>False) a w):DX P f0 (.block i c) Q a w:=by
 intro b k n j p;have m:=Yu P (lone (b.atR a (.code (.block i c)::k)) n w);obtain⟨e,g,d,l,f⟩:=h b (.inBlock i::k) n j p;cases e with
 |normal=>exact⟨.normal,g,d,l,.head m stepR_block (StepsIn.trans f (.one (Yu _ _) stepR_inBlock))⟩|panic o=>exact⟨_,g,d,l,.of_steps (.one m stepR_block) f⟩|_=>exact l.elim
def bAu(P:gp)(l:Nat)(R:Ending->ae->Prop):uB->Act->ae->Prop
 |.normal,_,w=>∃ v b,(Instr.endRound l none).run P w=.ok v b/\R (.returned v) b|.panic chain,a,w=>a.defers=[]/\R (.panicked chain) w|_,_,_=>False
theorem aLj{n l:Nat}{f:Yg}{j:Array ag}{assign body:Hm}{R:Ending->ae->Prop}(H:∃ J,P.funcs[f]?=some J)
  (h:assign.wpIn (Fence.wide.inRound l) n P (Exit.then (fun k m=>∃ i,(Instr.beginRound l).run P m=.ok () i/\body.wpIn (Fence.wide.inRound l) n P (bAu P l R) k i) (fun _ _ _=>False)) { tmps:=j,defers:=[] } w) :
  RoundIn Fence.wide n P l f j assign body w R:=by
 refine⟨trivial,fun c x G=>?_⟩;let b:Frame:={ (default:Frame) with fn:=f,kind:=.normal,roundOf:=some l };have z:Frame.round l f j assign body .normal=b.atR { tmps:=j,defers:=[] } [.code assign,.beginRound,.code body]:=by simp[Frame.round,Frame.atR,b]
 have s:(Fence.wide.inRound l).room ((c::x).length+1+n):=G;obtain⟨e,k,m,D,o⟩:=h b [.beginRound,.code body] (c::x) rfl trivial s;rw[<-z] at o;cases e with
 | normal=>
  obtain⟨i,y,p⟩:=D;have C:StepsIn (Machine.fenced P Fence.wide) P (lone (b.atR k [.beginRound,.code body]) (c::x) m) (lone (b.atR k [.code body]) (c::x) i):=.one (Yu _ _) (stepR_beginRound rfl y);obtain⟨u,E,r,g,d⟩:=p b [] (c::x) rfl trivial s;cases u with
  |normal=>obtain⟨v,q,t,A⟩:=g;exact⟨.returned v,q,A,(StepsIn.trans o C).trans (StepsIn.trans d (.one (Yu _ _) (stepR_round_end rfl rfl t)))⟩
  |panic chain=>obtain⟨I,A⟩:=g;obtain⟨B,F⟩:=d;refine⟨.panicked chain,r,A,(StepsIn.trans o C).trans (StepsIn.trans F (.one (Yu _ _) (step_leave_panicked ⟨rfl,?_,?_⟩)))⟩;exact I;exact H
  |_=>exact g.elim
 |_=>exact D.elim
def bBm(P:gp)(l:Nat)(Q:uB->Act->ae->Prop)(d:Act):Ending->ae->Prop
 |.returned _,b=>∃ c,(Instr.endLoop l).run P b=.ok none c/\Q .normal d c|.panicked chain,b=>Q (.panic chain) d b|.outgrown,_=>False
theorem aKs{n:Nat}{g:Operand}{B:Array Tmp}{assign body:Hm}
  (
   h:∃ (l:Nat) (c:List Deferred) (q:ae) (d:Deferred) (i:ae) (f:Yg) (args:Array ag) (p:ae),
   (Instr.enterLoop f0 a.tmps B assign body none).run P w=.ok (l,c) q/\(resolve a.eval (rangeCall g l) 0).run P q=.ok d i /\
   (invoke d.target d.args).run P i=.ok (.enter f args) p/\CallsIn Fence.wide n P f args p (bBm P l Q { a with defers:=c++a.defers })) :
  DX P f0 (.rangeFunc g B assign body) Q a w:=by
 intro b k D z G;obtain⟨l,c,q,d,i,f,args,p,C,u,x,H,r⟩:=h;rw[<-z,<-G] at C;have o:=stepR_rangeFunc (P:=P) (b:=b) (a:=a) (k:=k) (cs:=D) (w:=w) C u x;obtain⟨e,t,I,A,j,F,m⟩:=r (b.atR { a with defers:=c++a.defers } (.inRangeFunc l::k)::D) (room_wide _);cases e with
 |outgrown=>exact A.elim|returned v=>obtain⟨s,y,E⟩:=A;refine⟨.normal,_,s,E,.head (Yu _ _) o (StepsIn.trans j (.head (Yu _ _) ?_ (.one (Yu _ _) (stepR_endRangeFunc (b:=b) (a:={ a with defers:=c++a.defers }) (k:=k) y))))⟩;rw[<-finish_atR_inRangeFunc l v];exact step_leave_returned m
 |panicked chain=>refine⟨.panic chain,_,t,A,.inRangeFunc l::k,.head (Yu _ _) o (StepsIn.trans j (.one (Yu _ _) ?_))⟩;rw[<-Frame.raise_atR];exact step_leave_panicked m
theorem aSj{f:Yg}{fn:Func}{c:Hm}{args:Array ag}{R:Ending->ae->Prop}(x:P.funcs[f]?=some fn)(hb:fn.body=some c)
  (h:DX P f c (bodyPostM Fence.wide 3 P fn R) { tmps:=args++Array.replicate (fn.ntmps-args.size) dC,defers:=[] } w):CallsIn Fence.wide 3 P f args w R:=by
 refine⟨trivial,fun y z=>?_⟩;let b:Frame:={ (default:Frame) with fn:=f,kind:=.normal,roundOf:=none };have n:Frame.enter P f args .normal=b.atR { tmps:=args++Array.replicate (fn.ntmps-args.size) dC,defers:=[] } [.code c]:=by simp[Frame.enter,Frame.atR,x,hb,b]
 obtain⟨e,p,u,o,d⟩:=h b [] y rfl rfl;rw[<-n] at d;cases e with
 |normal=>obtain⟨t,i,m,s,q,k,r⟩:=leaves_stepsInM p.defers .returning u { b.atR p [] with mode:=.returning } y rfl rfl rfl x rfl trivial z o;exact⟨t,i,m,s,ComesIn.of_steps (StepsIn.trans d (.one (Yu _ _) (stepR_end rfl))) q,k,r⟩
 |ret=>obtain⟨j,g⟩:=d.1 rfl;obtain⟨t,i,m,s,q,k,r⟩:=leaves_stepsInM p.defers .returning u { b.atR p j with mode:=.returning } y rfl rfl rfl x rfl trivial z o;exact⟨t,i,m,s,ComesIn.of_steps g q,k,r⟩
 |panic chain=>obtain⟨j,g⟩:=d;obtain⟨t,i,m,s,q,k,r⟩:=leaves_stepsInM p.defers (.panicking chain) u { b.atR p j with mode:=.panicking chain } y rfl rfl rfl x rfl trivial z o;exact⟨t,i,m,s,ComesIn.of_steps g q,k,r⟩
 |exit id=>exact o.elim|goto l=>exact o.elim|outgrown=>exact⟨.outgrown,u,b,o,d.resolve_left (by simp[b]),rfl,trivial⟩
def KpS(S:Nat->Prop)(n0:Nat)(W c:ae):Prop:=∀ b,b<n0->¬S b->c.heap[b]?=W.heap[b]?
def O6(P:gp)(gf:Yg)(lb:Array ag)(encs:Nat->Array ag)(S:Nat->Prop)(N:Nat)(w:ae):Prop:=
 ∀ (l:Nat) (J:Nat->ae->Prop) (f:List YL->ae->Prop) (W:ae),Below w.heap.size w W->(∀ k A B,J k A->Ext A B->J k B) ->
  (∀ k d,J k d->k<N->YieldAt Fence.wide 1 P l (encs k) d fun e b=>(e=.returned (.bool true)/\J (k+1) b/\KpS S w.heap.size d b)\/∃ c,e=.panicked c/\f c b) ->
  J 0 W->CallsIn Fence.wide 2 P gf (#[.func (.yield l) #[] #[]]++lb) W fun e b=>((∃ v,e=.returned v)/\J N b)\/∃ c,e=.panicked c/\f c b
def OA(n0:Nat)(W c:ae):Prop:=∀ b o,n0<=b->W.heap[b]?=some o->o.isCells=false->c.heap[b]?=some o
theorem aGn{W:ae}{l:Nat}{o d:Obj}(h:W.heap[l]?=some o)(f:o.isCells=false):OQ W (W.putObj l d):=fun k q b c=>by by_cases e:k=l;subst e;rw[h] at b;cases b;rw[f] at c;cases c;exact (Yn e).trans b
def Two(n0 b:Nat):Prop:=b=n0\/b=n0+1
theorem aWj{n0:Nat}(W:ae){l:Nat}(hl:Two n0 l)(o:Obj):dm (Two n0) W (W.putObj l o):=⟨rfl,rfl,rfl,by simp,fun b _ c=>Yn (fun e=>c (e ▸ hl))⟩
theorem bAb{g:Operand}{Y:Array Tmp}{assign body:Hm}{gf:Yg}{lb:Array ag}{encs:Nat->Array ag}{S:Nat->Prop}{N:Nat}
  (hf:∃ fn,P.funcs[f0]?=some fn) (hg:a.eval g=.func (.func gf) #[] lb) (eg:∀ args w,(callFunc gf args).run P w=.ok (.enter gf args) w) (G:O6 P gf lb encs S N w) (a0:∀ k,(encs k).size=Y.size)
  (J:Nat->ae->Prop) (X:∀ k W f,J k W->dm (Two w.heap.size) W f->OQ W f->J k f) (h0:∀ W,Ext w W->w.heap.size+2<=W.heap.size->J 0 W) (Pn:List YL->ae->Prop) (Ax:Nat->Act->Prop)
  (i:∀ (l k:Nat) (W:ae) (K:Act->ae->Prop),(∀ E f,Ext W f->Ax k E->K E f)->assign.wpIn (Fence.wide.inRound l) 1 P (Exit.then K (fun _ _ _=>False)) { tmps:=(Y.zip (encs k)).foldl (fun t (p,v)=>t.setIfInBounds p v) a.tmps,defers:=[] } W)
  (
   hbody:∀ (l k:Nat) (E:Act) (W:ae),J k W->Ax k E->k<N->body.wpIn (Fence.wide.inRound l) 1 P (fun e a2 f=>match e with
   |.normal=>J (k+1) f/\KpS S w.heap.size W f/\OA w.heap.size W f|.panic m=>a2.defers=[]/\Pn m f/\OA w.heap.size W f|_=>False) E W)
  (hdone:∀ (D:Nat) (W:ae),J N W->W.heap[D]?=some (.deferred (some []))->D=w.heap.size->Q .normal { a with defers:={ target:=.collected D,args:=#[] }::a.defers } W)
  (H:∀ (D:Nat) (m:List YL) (W:ae),Pn m W->W.heap[D]?=some (.deferred (some []))->D=w.heap.size->Q (.panic m) { a with defers:={ target:=.collected D,args:=#[] }::a.defers } W) :
  DX P f0 (.rangeFunc g Y assign body) Q a w:=by
 obtain⟨c,d⟩:∃ c:LoopState->Loop,c=fun st=>{ state:=st,pending:=none,fn:=f0,tmps:=a.tmps,params:=Y,assign,body,defers:=w.heap.size }:=⟨_,rfl⟩;obtain⟨q,s⟩:∃ q,(w.alloc (.deferred (some []))).alloc (.loop (c .ready))=q:=⟨_,rfl⟩;have V:q.heap[w.heap.size+1]?=some (.loop (c .ready)):=by rw[<-s];have:=World.alloc_heap_new (w.alloc (.deferred (some []))) (.loop (c .ready));rwa [World.size_alloc] at this
 have b0:q.heap[w.heap.size]?=some (.deferred (some [])):=by rw[<-s];exact (Below.heap_alloc _ _ _ ay).trans (World.alloc_heap_new w _)
 have C:Ext w q:=by rw[<-s];exact ((Ext.refl w).alloc _).alloc _
 have T:∀ {A B:ae},Ext A B->OQ A B:=fun h k o z _=>h.blk z
 refine aKs (n:=2) ⟨w.heap.size+1,[{ target:=.collected w.heap.size,args:=#[] }],q,{ target:=.fn (.func gf) lb,args:=#[.func (.yield (w.heap.size+1)) #[] #[]] },q,gf,
  #[.func (.yield (w.heap.size+1)) #[] #[]]++lb,q,?_,?_,?_,?_⟩
 rw[<-s,d];exact run_enterLoop_outer _ _ _ _ _
 ·simp only[resolve,hg];simp[go_sem]
 ·simp[invoke,go_sem,eg]
 refine (G (w.heap.size+1) (fun k W=>J k W/\W.heap[w.heap.size+1]?=some (.loop (c .ready))/\W.heap[w.heap.size]?=some (.deferred (some [])))
  (fun m W=>Pn m W/\W.heap[w.heap.size]?=some (.deferred (some []))) q C.below (fun k A B h j=>⟨X k A B h.1 j.gy (T j),j.blk h.2.1,j.blk h.2.2⟩) ?_ ⟨h0 q C (by have:=lt_of_heap V;omega),V,b0⟩).mono ?_
 rintro k W ⟨hi,F,z⟩ L;have hy:=run_yield (P:=P) (args:=encs k) F (by rw[d];exact a0 k);rw[d] at hy;refine⟨f0,_,assign,body,hy,aLj hf (i _ k W _ ?_)⟩;clear hy;intro E Z j a9;have x:=j.blk F;have a4:=j.blk z;have I:=lt_of_heap x;have a5:=X k W Z hi j.gy (T j);refine⟨_,run_beginRound x (by rw[d]),?_⟩;have a1:(Z.putObj (w.heap.size+1) (.loop { c .ready with state:=.busy })).heap[w.heap.size+1]?=some (.loop { c .ready with state:=.busy }):=World.putObj_heap_same I;have U:(Z.putObj (w.heap.size+1) (.loop { c .ready with state:=.busy })).heap[w.heap.size]?=some (.deferred (some [])):=(Yn a_).trans a4;have a7:=X k _ _ a5 (aWj Z (n0:=w.heap.size) (l:=w.heap.size+1) (.inr rfl) (.loop { c .ready with state:=.busy })) (aGn x rfl);refine wpIn_mono (hbody _ k E _ a7 a9 L) ?_;rintro e a3 W3 hp;cases e with
 |normal=>obtain⟨a6,O,r⟩:=hp;have y:=r _ _ a_ a1 rfl;have a8:=r _ _ (dE _) U rfl;have hr:=run_endRound (P:=P) none y;refine⟨_,_,hr,.inl ⟨rfl,⟨X _ _ _ a6 (aWj W3 (.inr rfl) _) (aGn y rfl),?_,(Yn a_).trans a8⟩,?_⟩⟩;rw[World.putObj_heap_same (lt_of_heap y),d];rfl;intro b hb hn;rw[Yn a_,O b hb hn,Yn a_];exact j.block b (by have:=C.size';have:=lt_of_heap F;omega) (fun h=>h)
 |panic m=>obtain⟨hd,u,r⟩:=hp;exact⟨hd,.inr ⟨m,rfl,u,r _ _ (dE _) U rfl⟩⟩
 |_=>exact hp.elim
 rintro e W2 (⟨⟨v,rfl⟩,hi,F,z⟩|⟨m,rfl,u,z⟩);have he:=run_endLoop (P:=P) F (by rw[d];simp);refine⟨_,?_,hdone w.heap.size (W2.putObj (w.heap.size+1) (.loop { c .ready with state:=.exhausted })) (X _ _ _ hi (aWj W2 (.inr rfl) _) (aGn F rfl)) ((Yn a_).trans z) rfl⟩;rw[he,d];exact H w.heap.size m W2 u z rfl
end
end
section
theorem QL{b:List UInt8}{k:Nat}(h:k<nsec b):256*k<b.length:=by unfold nsec at h;omega
theorem QM{b:List UInt8}{k:Nat}(h:¬k<nsec b):b.length<=256*k:=by unfold nsec at h;omega
theorem aFj(n:Nat):Lib.repeatL [(0:UInt8)] n=DD n 0:=by
 induction n with
 |zero=>rfl|succ n a=>rw[Lib.repeatL,a];rfl
theorem Gx(b:List UInt8)(k n:Nat)(hn:n=256-((b.drop (256*k)).take 256).length):(strOf ((b.drop (256*k)).take 256))++(⟨(Lib.repeatL (ByteArray.mk #[0]).data.toList n).toArray⟩:ByteArray)=strOf (jq b k):=by subst hn;unfold jq;rw[show (ByteArray.mk #[0]).data.toList=[0] from rfl,aFj];apply aEW;rw[ByteArray.data_append];simp[strOf]
theorem aDw{S:Nat->Prop}{n0 g o:Nat}{W a:ae}{v:ag}(h:KpS S n0 W a)(b:g<n0)(hS:¬S g)(hc:W.cell? ⟨g,o,none⟩=some v):a.cell? ⟨g,o,none⟩=some v:=by have:=h g b hS;unfold World.cell? at hc ⊢;dsimp only at hc ⊢;rw[this];exact hc
attribute [local go_sem] Oper.semAt_some
theorem aTj(b:List UInt8)(hb:b.length<=3000)(b0:0<b.length)(B G c:Nat)(S:Nat->Prop)(w:ae)(F:¬S B)(E:¬S G)
  (h1:w.cell? ⟨B,0,none⟩=some (.slice (some ⟨G,0,none⟩) b.length c)) (a9:b.length<=c) (a8:c<=maxLen) (hB:B<w.heap.size) (hG:G<w.heap.size) (h2:w.rangeAt G 0 (b.map gq)) :
  O6 prog 175 #[.pointer (some ⟨B,0,none⟩)] (fun k=>#[.int .i64 (k:Int),.string (strOf (jq b k))]) S (nsec b) w:=by
 intro l J Pn W V hJ hY h0;have y:=Ext.of_below V;have Z:=Ext.j_ y h1;have HG:=hide (show W.rangeAt G 0 (b.map gq) from fun j v g=>Ext.j_ y (h2 j v g));have d:=hide (az F (az E (az hB hG)));clear h1 h2 y V F E;refine callsIn_wide.2 ?_
 go_enter func175,ntmps175
 go_wp2
 go_loopw [3] (fun i wr=>∃ k:Nat,k<=nsec b/\i=.int .i64 k/\Hid (J k wr/\wr.cell? ⟨B,0,none⟩=some (.slice (some ⟨G,0,none⟩) b.length c)/\wr.rangeAt G 0 (b.map gq))) (fun i _=>nsec b-(intOf i).toNat)
 case atStart=>exact⟨0,x8 _,rfl,hide ⟨h0,Z,aA HG⟩⟩
 case round=>
  obtain⟨k,hk,rfl,s⟩:=hrel;have a6:k<=12:=by have:nsec b<=12:=by { unfold nsec;omega };omega
  have a3:wrap64 ((k:Int)*256)=(k:Int)*256:=by unfold wrap64;omega
  have a2:wrap64 ((k:Int)+1)=(k:Int)+1:=by unfold wrap64;omega
  have a1:wrap64 (((k:Int)+1)*256)=((k:Int)+1)*256:=by unfold wrap64;omega
  have k2:=(aA s).2.1;by_cases x:k<nsec b
  ·have hI:(k:Int)*256<(b.length:Int):=by have:=QL x;omega
   have Q:((b.drop (256*k)).take 256).length=(min (((k:Int)+1)*256) (b.length:Int)).toNat-k*256:=by rw[List.length_take,List.length_drop];omega
   have HR:Hid (Reads wr 1 (.slice (some ⟨G,k*256,none⟩) ((min (((k:Int)+1)*256) (b.length:Int)).toNat-k*256) (c-k*256)) ((min (((k:Int)+1)*256) (b.length:Int)).toNat-k*256) (((b.drop (256*k)).take 256).map gq)):=by
    refine hide ⟨by rw[List.length_map,Q,Y_],some ⟨G,k*256,none⟩,_,rfl,by omega,by omega,fun _=>⟨G,k*256,rfl,fun j v g=>?_⟩⟩
    have X:=(aA s).2.2 (k*256+j) v (by
     rw[Xu] at g ⊢;rw[List.getElem?_take] at g;split at g;rw[List.getElem?_drop] at g;rw[Nat.mul_comm k 256];exact g
     cases g)
    rw[lL] at X;exact X
   generalize H:(b.drop (256*k)).take 256=D at *
   go_upto_region 4 with fail
   generalize a7:c-k*256=cc at *;generalize a4:(min (((k:Int)+1)*256) (b.length:Int)).toNat-k*256=m at *;have a5:m<=256:=by omega
   have a0:IntKind.i64.wrap (256-(m:Int))=((256-m:Nat):Int):=(Pv.dD a_ a_).trans a_;have L:Hid (strOf D++(⟨(Lib.repeatL [0] (256-m)).toArray⟩:ByteArray)=strOf (jq b k)):=hide (by have:=Gx b k (256-m) (by rw[H,Q]);rw[H] at this;exact this);have b1:¬(9223372036854775807<(strOf D).size+(Lib.repeatL [(0:UInt8)] (256-m)).length):=by rw[aFj,List.length_replicate,bJ,Q];omega
   have r:=hide (fun w=>aFi (ByteArray.mk #[0]) (256-m) w a_ (by change 1*(256-m)<=_;omega));have Y:=hide (fun W (y:Ext wr W)=>hY k W (hJ _ _ W (aA s).1 y) x);have I:∀ N,Ext wr N->(convert 74 9 (.slice (some ⟨G,k*256,none⟩) m cc)).run prog N=.ok (.string (strOf D)) N:=fun N y=>aBt underlying74 underlying5 underlying9 ((aA HR).ext y);refine (wpIn_wide (n:=2)).1 ?_;refine wpIn_region_any aj ?_;change wpAnyIn _ _ _ _ _ _ _ _ _ (World.drew _)
   (refine aBr (i:=0) (v:=?_) rfl rfl aj aj aj (fun _ _ _ h=>h) ⟨Or.inl ⟨by rfl,?_⟩,fun _=>rfl⟩ ?_;rotate_left;focus ((intro w;go_simp);try with_reducible rfl))
   (refine aBr (i:=1) (v:=?_) rfl rfl aj aj aj (fun _ _ _ h=>h) ⟨Or.inl ⟨by rfl,?_⟩,fun _=>rfl⟩ ?_;rotate_left;focus ((intro w;go_simp);try with_reducible rfl))
   (refine aBr (i:=2) (v:=?_) rfl rfl aj aj aj (fun _ _ _ h=>h) ⟨Or.inl ⟨by rfl,?_⟩,fun _=>rfl⟩ ?_;rotate_left;focus ((intro w;go_simp);try with_reducible rfl))
   (refine aBr (i:=4) (v:=?_) rfl rfl aj aj aj (fun _ _ _ h=>h) ⟨Or.inl ⟨by rfl,?_⟩,fun _=>rfl⟩ ?_;rotate_left;focus ((intro w;go_simp);try with_reducible rfl))
   (refine aBr (i:=5) (v:=?_) rfl rfl aj aj aj (fun _ _ _ h=>h) ⟨Or.inl ⟨by rfl,?_⟩,fun _=>rfl⟩ ?_;rotate_left;focus ((intro w;go_simp);try with_reducible rfl))
   (refine aBr (i:=6) (v:=?_) rfl rfl aj aj aj (fun _ _ _ h=>h) ⟨Or.inl ⟨by rfl,?_⟩,fun _=>rfl⟩ ?_;rotate_left;focus ((intro w;go_simp);try with_reducible rfl))
   refine wpAnyIn_ready (rs:=[3,7]) aj ay (AllReadyIn.cons rfl (fun K a=>?_) (AllReadyIn.cons rfl (fun K a=>?_) AllReadyIn.nil))
   ·go_simp;rw[I _ ((Ext.refl _).drew)]
    go_simp;refine a _ _ ?_;clear a K;refine wpAnyIn_ready (rs:=[7]) aj ay (AllReadyIn.cons rfl (fun K a=>?_) AllReadyIn.nil)
    go_simp;refine⟨trivial,(callsIn_wide.2 (aA r _)).mono ?_⟩
    rintro e O ⟨rfl,p⟩;have t:=hide (((Ext.refl wr).drew).trans (Ext.of_below p));clear p;refine a _ _ ?_;clear a K;refine aBr (i:=8) (v:=.string (strOf D++(⟨(Lib.repeatL [0] (256-m)).toArray⟩:ByteArray))) rfl rfl aj aj aj (fun _ _ _ h=>h) ⟨Or.inl ⟨by rfl,fun w=>?_⟩,fun _=>rfl⟩ ?_
    ·go_simp
    rw[aA L];refine wpAnyIn_ready (rs:=[9]) aj ay (AllReadyIn.cons rfl (fun K a=>?_) AllReadyIn.nil);obtain⟨fn,C,q,body,P,T⟩:=aA Y O (aA t);go_simp;clear P;refine T.mono ?_;rintro e z (⟨rfl,o,f⟩|⟨U,rfl,u⟩)
    ·have A:=hide (show J (k+1) z/\z.cell? ⟨B,0,none⟩=some (.slice (some ⟨G,0,none⟩) b.length c)/\z.rangeAt G 0 (b.map gq) from
      ⟨o,aDw f (aA d).2.2.1 (aA d).1 (Ext.j_ (aA t) (aA s).2.1),fun j v g=>aDw f (aA d).2.2.2 (aA d).2.1 (Ext.j_ (aA t) ((aA s).2.2 j v g))⟩)
     clear o f;refine a _ _ ?_;clear a K
     (refine aBr (i:=10) (v:=?_) rfl rfl aj aj aj (fun _ _ _ h=>h) ⟨Or.inl ⟨by rfl,?_⟩,fun _=>rfl⟩ ?_;rotate_left;focus ((intro w;go_simp);try with_reducible rfl))
     refine wpAnyIn_done aj ?_ _
     go_wp2
     go_roundw
     case rel=>exact⟨k+1,by omega,by go_num,A⟩
     case measure=>simp[intOf];omega
    exact⟨rfl,.inr ⟨U,rfl,u⟩⟩
   ·go_simp;refine⟨trivial,(callsIn_wide.2 (aA r _)).mono ?_⟩
    rintro e O ⟨rfl,p⟩;have t:=hide (((Ext.refl wr).drew).trans (Ext.of_below p));clear p;refine a _ _ ?_;clear a K;refine wpAnyIn_ready (rs:=[3]) aj ay (AllReadyIn.cons rfl (fun K a=>?_) AllReadyIn.nil);go_simp;rw[I _ (aA t)];go_simp;refine a _ _ ?_;clear a K;refine aBr (i:=8) (v:=.string (strOf D++(⟨(Lib.repeatL [0] (256-m)).toArray⟩:ByteArray))) rfl rfl aj aj aj (fun _ _ _ h=>h) ⟨Or.inl ⟨by rfl,fun w=>?_⟩,fun _=>rfl⟩ ?_
    ·go_simp
    rw[aA L];refine wpAnyIn_ready (rs:=[9]) aj ay (AllReadyIn.cons rfl (fun K a=>?_) AllReadyIn.nil);obtain⟨fn,C,q,body,P,T⟩:=aA Y O (aA t);go_simp;clear P;refine T.mono ?_;rintro e z (⟨rfl,o,f⟩|⟨U,rfl,u⟩)
    ·have A:=hide (show J (k+1) z/\z.cell? ⟨B,0,none⟩=some (.slice (some ⟨G,0,none⟩) b.length c)/\z.rangeAt G 0 (b.map gq) from
      ⟨o,aDw f (aA d).2.2.1 (aA d).1 (Ext.j_ (aA t) (aA s).2.1),fun j v g=>aDw f (aA d).2.2.2 (aA d).2.1 (Ext.j_ (aA t) ((aA s).2.2 j v g))⟩)
     clear o f;refine a _ _ ?_;clear a K
     (refine aBr (i:=10) (v:=?_) rfl rfl aj aj aj (fun _ _ _ h=>h) ⟨Or.inl ⟨by rfl,?_⟩,fun _=>rfl⟩ ?_;rotate_left;focus ((intro w;go_simp);try with_reducible rfl))
     refine wpAnyIn_done aj ?_ _
     go_wp2
     go_roundw
     case rel=>exact⟨k+1,by omega,by go_num,A⟩
     case measure=>simp[intOf];omega
    exact⟨rfl,.inr ⟨U,rfl,u⟩⟩
  ·have hI:¬(k:Int)*256<(b.length:Int):=by have:=QM x;omega
   obtain rfl:k=nsec b:=by omega
   go_wp2
   go_end0
   exact .inl ⟨⟨_,rfl⟩,(aA s).1⟩
end
namespace Pv
def aFV(P:gp)(I:ae->Prop)(f:Nat)(os:List Ob)(args:List PV)(i:Sum PV (List YL)):Prop:=
 ∀ (w:ae) (a:Nat->Prop) (j:List ag) (c:Nat->Nat),
  (∀ d,dm (SX os c Dv.non) w d->I d)->(∀ b,SX os c Dv.non b->b<w.heap.size/\¬a b) ->
  (∀ o∈os,∃ h,dh w (c o.x) o.t h/\RL { w,ok:=a,env:=fun _=>none } o.l h.toList)->(∀ o∈os,∀ k∈os,c o.x=c k.x->o.x=k.x) ->
  oh { w,ok:=a,env:=y9 os c none Dv.non.hd } args j ->
  ik P f j.toArray w fun e d=>dm (SX os c Dv.non) w d/\(∀ o∈os,∃ h,dh d (c o.x) o.t h/\RL { w:=d,ok:=qC w a false,env:=fun _=>none } o.l' h.toList) /\
   match i with
   |.inl r=>∃ g,e=.returned g/\RV { w:=d,ok:=qC w a false,env:=fun _=>none } r g|.inr chain=>e=.panicked chain
def Xp(os:List Ob)(s:St):Prop:=∀ o∈os,∃ l,find s.o o.x=some (none,0,.box o.t l)/\OD s false l o.l'
def RQB(P:gp)(A:n_)(fn:Func)(os:List Ob)(b:Sum PV (List YL)):uB->Act->ae->Prop
 |.panic chain,a,w=>a.defers=A.ds/\b=.inr chain/\∃ s,Xp os s/\qh A s a w|e,a,w=>(e=.normal\/e=.ret)/\∃ r,b=.inl r/\∃ s,(Sl P fn false r s/\Xp os s)/\qh A s a w
theorem RJ{P:gp}{I:ae->Prop}{f:Nat}{fn:Func}{c:Hm}{os:List Ob}{args:List PV}{L:Sum PV (List YL)}(hf:P.funcs[f]?=some fn)(hb:fn.body=some c)(a5:Nat.ble args.length fn.ntmps=true)
  (a2:(os.all fun o=>Nat.blt dx o.x)=true)
  (hT:∀ A:n_,A.nt=fn.ntmps->o5 P I A->lh P A ⟨slots 0 args,os.map (fun o=>(o.x,none,0,.box o.t o.l))⟩ c (RQB P A fn os L)):aFV P I f os args L:=by
 intro w B vs z hM S a3 U hv;obtain⟨hA,hg⟩:=aBh (fn:=fn) (O:=fun _=>none) (dev:=none) (dw:=fun _=>False) (X0:=fun _=>True) (D:=Dv.non) a5 a2 hM S (pq.non P) (fun _ _ _ _ _ _ h=>h.elim) rfl (fun p hp=>by cases hp) (fun _=>⟨fun _ h=>h,fun _ _ _ h=>h⟩) (fun o y=>⟨trivial,a3 o y⟩) U hv;generalize k:(⟨w,SX os z Dv.non,B,fn.ntmps,ug os z none Dv.non.hd,Dv.non,fun _=>False,fun _=>True,[]⟩:n_)=A at hA hg
 have N:∀ (s:St) (K:Act) (u:ae) (d:Env),Xp os s->gu A s K u d->CG A s d/\∀ o∈os,∃ cs,dh u (z o.x) o.t cs/\RL { w:=u,ok:=qC w B false,env:=fun _=>none } o.l' cs.toList:=by
  intro s K u d j i;subst k
  have E:∀ o∈os,d o.x=some (0,jM (z o.x)):=fun o y=>by
   obtain⟨l,m,_⟩:=j o y;obtain⟨J,Y,_⟩:=i.l9 o.x none 0 _ m;have h9:ug os z none Dv.non.hd o.x=some (jM (z o.x)):=by unfold ug;rw[aAw y]
   have:=(i.oq o.x _ h9).2.now Y;rw[Y,this]
  have Z:CG (⟨w,SX os z Dv.non,B,fn.ntmps,ug os z none Dv.non.hd,Dv.non,fun _=>False,fun _=>True,[]⟩:n_) s d:=by intro x g a0 e n len f0 J b V a6 a7 hs;rcases hs with hs|⟨o,y,rfl⟩;exact hs.elim;obtain⟨l,m,_⟩:=j o y;have:=i.inj x o.x a0 J 0 _ (z o.x) a6 (E o y) a7 rfl;subst this;rw[m] at V;cases V
  refine⟨Z,fun o y=>?_⟩;obtain⟨l,m,hx⟩:=j o y;obtain⟨J,Y,h9⟩:=i.l9 o.x none 0 _ m;obtain⟨g,cs,e1,a9,a8⟩:=h9 trivial;rw[E o y] at Y;cases Y;cases e1;exact⟨cs,a9,aRr i Z hx a8⟩
 have C:∀ {s:St} {K:Act} {u:ae} {d:Env},gu A s K u d->dm (SX os z Dv.non) w u:=by intro s K u d i;subst k;exact i.gy
 have a4:A.nt=fn.ntmps:=by subst k;rfl
 have a1:A.dw=fun _=>False:=by subst k;rfl
 have X:A.ds=[]:=by subst k;rfl
 refine calls_of_wp hf hb (wp_mono (hT A a4 hA _ w hg (fun H a w J h=>?_)) (fun e K u W=>?_));obtain⟨l,q,_⟩:=h;rw[a1] at q;exact q.elim;cases e with
 |panic H=>obtain⟨J,rfl,s,j,d,i⟩:=W;exact⟨J.trans X,C i,(N s _ _ d j i).2,rfl⟩
 |exit id=>obtain⟨q|q,_⟩:=W<;>cases q
 |goto _=>obtain⟨q|q,_⟩:=W<;>cases q
 |outgrown=>obtain⟨q|q,_⟩:=W<;>cases q
 | normal|ret=>
  obtain⟨_,r,rfl,s,⟨⟨v,h2,h3⟩,j⟩,d,i⟩:=W;obtain⟨v',F,h5,h6,h7,_⟩:=wB i h2;subst h7;obtain⟨Z,T⟩:=N s _ _ d j i;have Q:=aRq i Z h3 h6;have G:RV { w:=u,ok:=qC w B false,env:=fun _=>none } r F:=by subst k;exact Q
  exact⟨i.defers.trans X,F,h5,C i,T,F,rfl,G⟩
def RX(A:n_)(new:Bool)(O:List Acc->Option jh)(H:List Acc)(dw:List Acc->Prop)(c:PV)(e:Ending)(w':ae):Prop:=dm A.dv.S A.w0 w'/\((∃ b,e=.returned b/\RV { w:=w',ok:=qC A.w0 A.ok0 new,env:=fun _=>none } c b/\A.dv.inv H A.X0 w')\/∃ a l,e=.panicked a/\dw l/\O l=none/\A.dv.pan l A.X0 w' a)
theorem Lm{P:gp}{I:ae->Prop}{f:Nat}{fn:Func}{c:Hm}{new:Bool}{O:List Acc->Option jh}{y H:List Acc}{dw:List Acc->Prop}{args:List PV}{d:PV}(G:P.funcs[f]?=some fn)(hb:fn.body=some c)(t:Nat.ble args.length fn.ntmps=true)
  (J:∀ A:n_,A.nt=fn.ntmps->o5 P I A->A.dv.O=O->A.dw=dw->((∀ b,A.S b↔A.dv.S b)/\A.ds=[])->∀ a,qh A ⟨slots 0 args,[(dx,none,0,.dev O dw y)]⟩ a A.w0->DX P f c (bodyPostM Fence.wide 3 P fn (RX A new O H dw d)) a A.w0):ui P I f new [] O (some (y,H)) dw args d:=by
 intro w B Z X D X0 L g k l z u r m i C;obtain⟨N,F⟩:=aBh (fn:=fn) (dw:=dw) t rfl L g k l z u r m i C;have K:∀ b,SX [] X D b↔D.S b:=fun b=>⟨fun h=>h.elim id (fun⟨o,q,_⟩=>by cases q),.inl⟩;refine (callsIn_wide (n:=3)).1 ((aSj G hb (J _ rfl N z rfl ⟨K,rfl⟩ _ F)).mono ?_);rintro e Y ⟨W,V⟩;refine⟨W.mono fun b _ h=>.inl h,?_⟩;rcases V with⟨j,x,U,T⟩|x;exact .inl ⟨j,x,U,(fun o q=>by cases q),(fun p E=>by cases E;exact T)⟩;exact .inr x
def DR(P:gp)(f0:Yg)(A:n_)(s:St)(c:Hm)(Q:uB->Act->ae->Prop):Prop:=∀ a w,qh A s a w->CE A Q->DX P f0 c Q a w
section
variable {P:gp} {f0:Yg} {A:n_} {s:St} {Q:uB->Act->ae->Prop}
def aTL(P:gp)(f0:Yg)(A:n_)(c:Hm)(Q:uB->Act->ae->Prop):Act->ae->Prop:=fun a w=>CE A Q->DX P f0 c Q a w
theorem aDn{x y:Hm}(h:lh P A s x (Exit.then (aTL P f0 A y Q) Q)):DR P f0 A s (.seq x y) Q:=fun a w d b=>aSw (FY (aEf (h a w d b)) (fun e g f c=>by cases e<;>first|exact c|exact c b))
theorem bFn{c:Hm}{a:Act}{w:ae}(h:DR P f0 A s c Q)(d:qh A s a w)(b:CE A Q):DX P f0 c Q a w:=h a w d b
theorem aOm{s':St}{c:Hm}(h:∀ a w,qh A s a w->qh A s' a w)(e:DR P f0 A s' c Q):DR P f0 A s c Q:=fun a w d b=>e a w (h a w d) b
end
theorem xC{P:gp}{I:ae->Prop}{G:Specs}{f0:Yg}{A:n_}{s s':St}{Q:uB->Act->ae->Prop}(M:jl P I G)(hI:o5 P I A){f:Nat}(d:A.nt=f){c:Nat}{ops:Array Oper}{b:Bool}{outs:List (Option Nat×Out)}{y:Hm}(h:rG (Sr P G c ops.toList) 0 ops.toList s=some (outs,s'))(e:(nI b ops.toList outs&&XV f ops.toList)=true)(hc:All ((outs.map fun q=>q.2.conds).flatten))(i:DR P f0 A s' y Q):DR P f0 A s (.seq (.region c ops b) y) Q:=aDn (bC M hI d h e hc (fun a w g=>i a w g))
theorem bBu(P:gp)(A:n_)(fn:Func)(O:List Acc->Option jh)(H:List Acc)(dw:List Acc->Prop)(new:Bool)(d:PV)(f:A.dv.O=O)(hs:A.dw=dw)(hS:(∀ b,A.S b↔A.dv.S b)/\A.ds=[]):CE A (bodyPostM Fence.wide 3 P fn (RX A new O H dw d)):=by rintro c a w e ⟨l,k,j,i,g⟩;show LeavesInM Fence.wide 3 P fn a.tmps _ a.defers (.panicking c) w;rw[e,hS.2];exact⟨g.mono fun b _ h=>(hS.1 b).1 h,.inr ⟨c,l,rfl,by rw[<-hs];exact k,by rw[<-f];exact j,i⟩⟩
theorem aFe{P:gp}{A:n_}{fn:Func}{O:List Acc->Option jh}{H:List Acc}{dw:List Acc->Prop}{new:Bool}{d:PV}{s:St}(hS:(∀ b,A.S b↔A.dv.S b)/\A.ds=[])(h:Sl P fn new d s)(hd:find s.o dx=some (none,0,.dev O dw H)){a:Act}{w:ae}(t:qh A s a w):bodyPostM Fence.wide 3 P fn (RX A new O H dw d) .ret a w:=by
 obtain⟨v,E,D⟩:=h;obtain⟨p,i⟩:=t;obtain⟨F,c,C,B,z,_⟩:=wB i E;subst z;obtain⟨_,_,q⟩:=i.dev none 0 _ _ _ hd trivial;have m:CG A s p:=by intro x g j e n len f0 hd b u k l r;exact A.dv.notS _ _ _ _ q (.inr ⟨x,j,hd,k,l⟩) ((hS.1 b).1 r)
 have f:=aRq i m D B;show LeavesInM Fence.wide 3 P fn a.tmps _ a.defers .returning w;rw[i.defers,hS.2];exact⟨c,C,i.gy.mono fun b _ h=>(hS.1 b).1 h,.inl ⟨c,rfl,f,A.dv.grow _ _ _ _ _ q (dm.refl _ _) (fun b y=>.inl (.inl y))⟩⟩
theorem qh.BL{A:n_}{s:St}{a:Act}{w:ae}{env:Env}(h:gu A s a w env){t x:Nat}{ty:TypeId}{l:List PC}(d:find s.t t=some (none,d_ (.pt x 0 0)))(e:find s.o x=some (none,0,.box ty l)) :
  ∃ g b,a.tmps[t]?=some (.pointer (some ⟨g,0,none⟩))/\env x=some (0,jM g)/\dh w g ty b/\RL (aT A w env) l b.toList:=by
 obtain⟨v,m,k⟩:=h.tmps t none _ d trivial;obtain⟨p,c,j⟩:=h.l9 x none 0 _ e;obtain⟨g,b,rfl,i,f⟩:=j trivial;obtain⟨q,n,rfl⟩:=RV.Ac k c;cases n;exact⟨_,b,m,c,i,f⟩
end Pv
namespace Pv
def zy(F:Int)(b:List UInt8)(i:Nat):Acc:=⟨4,0,F+(i:Int),strOf (jq b i)⟩
def hist(F:Int)(b:List UInt8)(lz:List Acc)(k:Nat):List Acc:=lz++(yf (k-1)).map fun j=>zy F b (1+j)
theorem aYs(F:Int)(b:List UInt8)(lz:List Acc):hist F b lz 1=lz:=Pi _
theorem oO(F:Int)(b:List UInt8)(lz:List Acc):hist F b lz 0=lz:=Pi _
theorem aBe(F:Int)(b:List UInt8)(lz:List Acc)(k:Nat)(a:0<k):hist F b lz (k+1)=hist F b lz k++[zy F b k]:=by obtain⟨m,rfl⟩:∃ m,k=m+1:=⟨k-1,by omega⟩;unfold hist;rw[show m+1+1-1=m+1 from rfl,show m+1-1=m from rfl,List.range_succ,List.map_append,yl,Nat.add_comm m 1];rfl
theorem zJ(F:Int)(b:List UInt8)(lz:List Acc){k m:Nat}(h:k<=m):hist F b lz k <+: hist F b lz m:=by
 induction m with
 |zero=>
  obtain rfl:k=0:=by omega
  exact aAE _
 |succ m c=>
  rcases Y6 m k with a|a
  obtain rfl:k=m+1:=by omega
  exact aAE _;refine (c a).trans ?_;rcases Nat.eq_zero_or_pos m with rfl|d;rw[oO,aYs];exact aAE _;rw[aBe F b lz m d];exact Yb _ _
theorem LZ(O:List Acc->Option jh)(F:Int)(b:List UInt8):∀ (n i:Nat) (l:List Acc),(go O (ah.ED F b n i) l).2=l++(yf n).map fun j=>zy F b (i+j)
 |0,i,l=>(Pi _).symm|n+1,i,l=>by rw[ah.ED,zK,LZ O F b n (i+1),List.range_succ_eq_map,List.map_cons,List.map_map];show (l++[zy F b i])++_=_;rw[yl];congr 1;rw[Nat.add_zero];show zy F b i::_=_;congr 1;refine List.map_congr_left fun j _=>?_;show zy F b (i+1+j)=zy F b (i+(j+1));congr 1;omega
theorem bNi(rec:Int):ah.All (fun p:(Int×List UInt8)×Nat=>(0<=p.1.1/\p.1.1<=1099511627776)/\(p.2=0\/p.2=1)) (ah.cur rec):=by refine (ah.All.zo _).bind fun a _=>(ah.All.zo _).bind fun b _=>?_;show _/\_;unfold ut;split;exact⟨sK _ _,.inr rfl⟩;exact⟨sK _ _,.inl rfl⟩
theorem bEw{A:n_}(hI:o5 prog af A){l:List Acc}{X:Nat->Prop}{w:ae}(r:A.dv.inv l X w)(hS:∀ b,A.S b↔A.dv.S b)(hc:dm A.dv.S A.w0 w)(k:Int)(b:ByteArray)(j:∀ c,l <+: c->c <+: l++[⟨4,0,k,b⟩]->A.dv.O c=none->A.dw c) :
  ik prog 140 #[A.dv.hd,.int .i64 k,.string b] w fun e f=>dm A.dv.S w f /\
   ((∃ v,e=.returned v/\A.dv.inv (l++[⟨4,0,k,b⟩]) X f)\/∃ a c,e=.panicked a/\(l <+: c/\c <+: l++[⟨4,0,k,b⟩])/\A.dv.O c=none/\A.dv.pan c X f a):=by
 have d:∀ b,SX [] (fun _=>0) A.dv b->A.dv.S b:=by rintro b (h|⟨o,g,_⟩);exact h;cases g
 refine ((FU (I:=af) k b A.dv.O l) w (fun _=>False) [A.dv.hd,.int .i64 k,.string b] (fun _=>0) A.dv X
  (fun f h=>hI.mem f ((hc.mono fun b _ h=>(hS b).2 h).trans (h.mono fun b _ h=>(hS b).2 (d b h))))
  (fun b s=>⟨Y1 (hI.old b ((hS b).2 (d b s))).1 hc.size,fun h=>h⟩) (hI.step.mono fun q i n=>j q i.1 i.2 n) hI.Bo rfl (fun p j=>by cases j;exact r) (fun h=>by cases h) (fun o g=>by cases g) (fun o g=>by cases g)
  ⟨.w (.one (.dv A.dv.one ⟨0,A.dv.hd,rfl,dE _,fun _=>rfl⟩)),.w (.one (.lit rfl)),.w (.one (.lit rfl)),trivial⟩).mono ?_
 rintro e f ⟨i,n⟩;refine⟨i.mono fun b _ h=>d b h,?_⟩;rcases n with⟨v,rfl,_,_,m⟩|⟨a,c,rfl,m,u,t⟩;exact .inl ⟨v,rfl,m _ rfl⟩;exact .inr ⟨a,c,rfl,m,u,t⟩
structure Oa(A:n_)(X:Nat->Prop)(n0 g3 g6 g10 g11:Nat)(F:Int)(b:List UInt8)(lz:List Acc)(k:Nat)(W:ae):Prop where
 gy:dm A.dv.S A.w0 W
 inv:A.dv.inv (hist F b lz k) X W
 b3:dh W g3 116 #[A.dv.hd]
 b6:dh W g6 164 #[.string aH,.int .i64 0,.int .i64 0]
 b10:dh W g10 3 #[.int .i64 F]
 b11:dh W g11 9 #[.string (if k=0 then aH else strOf (jq b 0))]
 sz:n0<=W.heap.size
section
variable {A:n_} {X:Nat->Prop} {n0 g3 g6 g10 g11:Nat} {F:Int} {b:List UInt8} {lz:List Acc} {k:Nat} {W W':ae}
theorem Oa.keep(h:Oa A X n0 g3 g6 g10 g11 F b lz k W){n1:Nat}(h0:A.w0.heap.size<=n1)(h1:∀ i,Two n1 i->X i)(hc:dm (Two n1) W W')(hk:OQ W W'):Oa A X n0 g3 g6 g10 g11 F b lz k W' where
 gy:=h.gy.trans' hc (fun _ _ h=>h) (fun i hi hn=>by rcases hn with h|h<;>omega)
 inv:=A.dv.grow _ _ _ _ _ h.inv (hc.mono fun i _ hn=>h1 i hn) (fun i hi=>.inl hi)
 b3:=hk.blk h.b3
 b6:=hk.blk h.b6
 b10:=hk.blk h.b10
 b11:=hk.blk h.b11
 sz:=mr h.sz hc.size
theorem Oa.notS(h:Oa A X n0 g3 g6 g10 g11 F b lz k W){i:Nat}(a:X i):¬A.dv.S i:=A.dv.notS _ _ _ _ h.inv a
theorem Oa.wrote(h:Oa A X n0 g3 g6 g10 g11 F b lz k W)(h3:X g3)(h6:X g6)(h10:X g10)(h11:X g11)(hk:0<k)(hc:dm A.dv.S W W')(hi:A.dv.inv (hist F b lz k++[zy F b k]) X W'):Oa A X n0 g3 g6 g10 g11 F b lz (k+1) W' where
 gy:=h.gy.trans hc
 inv:=by rw[aBe _ _ _ _ hk];exact hi
 b3:=h.b3.gy hc (h.notS h3)
 b6:=h.b6.gy hc (h.notS h6)
 b10:=h.b10.gy hc (h.notS h10)
 b11:=by
  have:=h.b11.gy hc (h.notS h11);rw[if_neg a_] at this ⊢;exact this
 sz:=mr h.sz hc.size
end
end Pv
namespace Pv
theorem aDY(a:Act)(h:a.tmps.size=65)(hd:a.defers=[]):∃ u0 u1 u2 u3 u4 u5 u6 u7 u8 u9 b1 b0 a9 a8 a7 a6 a5 a4 a3 a2 a1 a0 Z Y X W V U T S Q P O N K J I H G F E D C B A z y x w u t s r q p o n m k j g f e c b,a={ tmps:=#[u0,u1,u2,u3,u4,u5,u6,u7,u8,u9,b1,b0,a9,a8,a7,a6,a5,a4,a3,a2,a1,a0,Z,Y,X,W,V,U,T,S,Q,P,O,N,K,J,I,H,G,F,E,D,C,B,A,z,y,x,w,u,t,s,r,q,p,o,n,m,k,j,g,f,e,c,b],defers:=[] }:=by
 obtain⟨⟨L⟩,d⟩:=a;obtain rfl:d=[]:=hd;have hL:L=(yf 65).map fun i=>L.getD i dC:=by apply List.ext_getElem;simpa using h;intro i h1 h2;rw[List.getElem_map,List.getElem_range,zG,zH h1];rfl
 exact⟨L.getD 0 dC,L.getD 1 dC,L.getD 2 dC,L.getD 3 dC,L.getD 4 dC,L.getD 5 dC,L.getD 6 dC,L.getD 7 dC,L.getD 8 dC,L.getD 9 dC,L.getD 10 dC,L.getD 11 dC,L.getD 12 dC,L.getD 13 dC,L.getD 14 dC,L.getD 15 dC,L.getD 16 dC,L.getD 17 dC,L.getD 18 dC,L.getD 19 dC,L.getD 20 dC,L.getD 21 dC,L.getD 22 dC,L.getD 23 dC,L.getD 24 dC,L.getD 25 dC,L.getD 26 dC,L.getD 27 dC,L.getD 28 dC,L.getD 29 dC,L.getD 30 dC,L.getD 31 dC,L.getD 32 dC,L.getD 33 dC,L.getD 34 dC,L.getD 35 dC,L.getD 36 dC,L.getD 37 dC,L.getD 38 dC,L.getD 39 dC,L.getD 40 dC,L.getD 41 dC,L.getD 42 dC,L.getD 43 dC,L.getD 44 dC,L.getD 45 dC,L.getD 46 dC,L.getD 47 dC,L.getD 48 dC,L.getD 49 dC,L.getD 50 dC,L.getD 51 dC,L.getD 52 dC,L.getD 53 dC,L.getD 54 dC,L.getD 55 dC,L.getD 56 dC,L.getD 57 dC,L.getD 58 dC,L.getD 59 dC,L.getD 60 dC,L.getD 61 dC,L.getD 62 dC,L.getD 63 dC,L.getD 64 dC,congrArg (fun l=>({ tmps:=l.toArray,defers:=[] }:Act)) hL⟩
theorem aFc{C:Ctx}:∀ {b a:List ag},RL C (b.map PC.lit) a->a=b
 |[],_,h=>by cases h;rfl| v::b,_,h=>by
  cases h with
  |cons d c=>
   rename_i a e;have:a=[v]:=by cases d;rfl
   rw[this,aFc c];rfl
theorem yP{C:Ctx}{vs:List ag}{cs:Array ag}(h:RL C (vs.map PC.lit) cs.toList):cs=vs.toArray:=by rw[<-aFc h]
theorem aAO{C:Ctx}{cs:Array ag}{v:ag}(h:RL C [.dv] cs.toList)(g:∀ a b,C.env dx=some (a,b)->0=a/\b=v):cs=#[v]:=by
 have c:=h.single;generalize f:cs.toList=m at c;cases c with
 |dv o l=>rename_i d;obtain⟨a,b,i,n,k⟩:=l;obtain⟨rfl,e⟩:=g a b i;have j:d=v:=(k rfl).trans e;subst j;rw[<-f]
theorem bJt{A:n_}{s:St}{a:Act}{w:ae}{env:Env}(h:gu A s a w env){t:Nat}{v:ag}(e:find s.t t=some (none,o9 v)):a.tmps[t]?=some v:=by obtain⟨c,g,f⟩:=h.tmps t none _ e trivial;have b:=f.inv;generalize d:[c]=i at b;cases b;cases d;exact g
theorem MR(rec seq:Int)(c:ByteArray)(h1:g_ rec)(h2:g_ seq)(hc:c.size<=3000)(w:ae)(E:af w):ik prog 143 #[.int .i64 rec,.int .i64 seq,.string c] w fun e f=>
  ∃ G cap,e=.returned (.slice (some ⟨G,0,none⟩) (encS rec seq c.data.toList).length cap)/\Ext w f/\w.heap.size<=G/\G<f.heap.size/\(encS rec seq c.data.toList).length<=cap/\cap<=maxLen/\f.rangeAt G 0 ((encS rec seq c.data.toList).map gq):=by
 have r:0<(encS rec seq c.data.toList).length:=by rw[mX];omega
 refine (aKc rec seq c h1 h2 hc w (fun _=>False) [.int .i64 rec,.int .i64 seq,.string c] E ⟨.w (.one (.lit rfl)),.w (.one (.lit rfl)),.w (.one (.lit rfl)),trivial⟩).mono ?_;rintro e f ⟨u,d,rfl,F,o,y⟩;generalize encS rec seq c.data.toList=b at *
 have k:d=b.map gq:=by
  apply List.ext_getElem?;intro i;have s:=o.1;rcases Y6 i b.length with a|a;have h:=y { w:=w,ok:=fun _=>False,env:=fun _=>none } i a;rw[Y_] at h
  have B:(d.drop i).take 1=[d[i]'(by omega)]:=by rw[List.drop_eq_getElem_cons a_];rfl
  rw[B] at h;unfold m_ at h;have t:=h.single;generalize l:d[i]'(by omega)=x at t;cases t with
  |lit _=>rw[zH a_,l,Xu,zH a,zG,zH a];rfl
  rw[GM a_,GM (by simpa using a)]
 subst k;have n:=o;rcases o.2 with⟨_,H⟩|⟨g,cap,cur,rfl,D,A,p,q,C,m⟩;omega
 refine⟨g,cap,rfl,F,D,lt_of_heap A,p,q,fun j v z=>?_⟩;have:=n.cells (g:=g) rfl j v z;rw[add_lit] at this;exact this
theorem aTk(v:ag)(c:v.oneCell'=true)(w:ae):ik prog 142 #[v] w fun e a=>e=.returned (.func (.func 175) #[] #[.pointer (some ⟨w.heap.size,0,none⟩)]) /\
  w.alloc (.cells #[v] 74)=a:=by
 have b:=aBI
 go_enter func142,ntmps142
 go_wp2
 go_ret;exact⟨rfl,rfl⟩
theorem GI:ve prog 164 3:=⟨⟨_,underlying164,rfl⟩,by kernel_rfl⟩
attribute [local go_sem] Oper.semAt_some
theorem Hg (rec:Int) (hr:g_ rec) (c:ByteArray):bOx prog af 101 (ah.save rec c) [.w (.one .dv),di rec,jr c] ZT:=by
 intro O l hO;have M:=Zt
 have hp:ah.save rec c=if bF rec 0<0 then .ret ⟨aH,0,1⟩ else if 2000<c.size then .ret ⟨aH,0,19⟩ else
  (ah.cur rec).bind fun p=>if 1099511627776<p.1.1+1 then .ret ⟨aH,0,19⟩ else (ah.write (bF rec (1-(p.2:Int))) (encS rec (p.1.1+1) c.data.toList)).bind fun _=>.ret ⟨c,p.1.1+1,0⟩:=rfl
 generalize ah.save rec c=pr at *;refine Lm func101 rfl rfl (fun A hn hI hAO hAs OL a hga=>?_);generalize hstp:(fun h=>l <+: h/\h <+: (go O pr l).2)=dw;rw[hstp] at hAs hga;refine bFn ?_ hga (bBu _ _ _ _ _ _ _ _ hAO hAs OL);clear hga a;refine xC M hI hn (by rfl) (by kernel_rfl) ?_ ?_
 ·simp
 refine aDn ?_;refine aB ?_;refine aI (fun hc=>?_) (fun hc=>?_)
 ·have h:bF rec 0<0:=of_decide_eq_true hc;rw[if_pos h] at hp;have hE:go O pr l=(⟨aH,0,1⟩,l):=by rw[hp];rfl
  refine aB ?_;refine cZ (fun a w hg=>aFe OL ?_ ?_ hg);rotate_left 1
  ·rw[hE];rfl
  refine aY (by rfl) (by simp) (by rfl) (by rfl) ?_;rw[hE];rfl
 ·have h:¬bF rec 0<0:=of_decide_eq_false hc;rw[if_neg h] at hp;refine iV ?_;change DR _ _ _ _ _ _;refine aDn ?_;refine aB ?_;refine aI (fun hc=>?_) (fun hc=>?_)
  ·have h2:2000<c.size:=by have:=of_decide_eq_true hc;omega
   rw[if_pos h2] at hp;have hE:go O pr l=(⟨aH,0,19⟩,l):=by rw[hp];rfl
   refine aB ?_;refine cZ (fun a w hg=>aFe OL ?_ ?_ hg);rotate_left 1
   ·rw[hE];rfl
   refine aY (by rfl) (by simp) (by rfl) (by rfl) ?_;rw[hE];rfl
  ·have h2:¬2000<c.size:=by have:=of_decide_eq_false hc;omega
   rw[if_neg h2] at hp;refine iV ?_;change DR _ _ _ _ _ _;have hL0:zW O pr l ((ah.cur rec).bind fun p=>if 1099511627776<p.1.1+1 then .ret ⟨aH,0,19⟩ else (ah.write (bF rec (1-(p.2:Int))) (encS rec (p.1.1+1) c.data.toList)).bind fun _=>.ret ⟨c,p.1.1+1,0⟩) l:=by rw[hp];exact zW.start _ _ _
   have hL:=hL0.step;refine xC M hI hn (by rfl) (by kernel_rfl) ?_ ?_
   ·simp;refine⟨⟨hO,hr⟩,fun h h1 h2 h3=>?_⟩;rw[<-hstp];exact hL0.dw h h1 h2 h3
   have hq1:=UK (R:=fun p:(Int×List UInt8)×Nat=>(0<=p.1.1/\p.1.1<=1099511627776)/\(p.2=0\/p.2=1)) O (bNi rec) l;obtain⟨q,lq,hq⟩:∃ q lq,go O (ah.cur rec) l=(q,lq):=⟨_,_,rfl⟩;rw[hq] at hL hq1;dsimp only at hL hq1;refine aOm (s':=⟨[(1,none,di rec),(2,none,jr c),(3,none,d_ (.pt 0 0 0)),(6,none,d_ (.pt 1 0 0)),(7,none,d_ (.pt 5006 0 0)),(8,none,di (q.2:Int))],[(dx,none,0,.dev O dw lq),(0,none,0,.box 116 [.dv]),(1,none,0,.box 164 [.lit (.string aH),.lit (.int .i64 0),.lit (.int .i64 0)]),(5006,none,0,.box 205 [.lit (.int .i64 q.1.1),.lit (.string (strOf q.1.2))])]⟩) (fun a w hg=>(hg.reset (kT:=[1,2,3,6,7,8]) (kO:=[900000,0,1,5006]) f_ ay).same ?_ ?_) ?_
   ·refine .cons rfl (.cons rfl (.cons rfl (.cons rfl (.cons rfl (.cons ?_ .nil)))));rw[hq]
   ·refine .cons (.dev ?_) (.cons (.box rfl) (.cons (.box rfl) (.cons (.box ?_) .nil)))
    ·show (go O (ah.cur rec) l).2=_;rw[hq]
    ·show[PC.lit (.int .i64 (go O (ah.cur rec) l).1.1.1),PC.lit (.string (strOf (go O (ah.cur rec) l).1.1.2))]=_
     rw[hq]
   refine xC M hI hn (by rfl) (by kernel_rfl) ?_ ?_
   ·simp
   have hw6:IntKind.i64.wrap (q.1.1+1)=q.1.1+1:=dD a_ a_;refine aDn ?_;refine aB ?_;refine aI (fun hc=>?_) (fun hc=>?_)
   ·have h7:1099511627776<q.1.1+1:=by have:=of_decide_eq_true hc;rw[hw6] at this;exact this
    have hE:go O pr l=(⟨aH,0,19⟩,lq):=by have:=hL.2;rw[if_pos h7] at this;exact this
    refine aB ?_;refine cZ (fun a w hg=>aFe OL ?_ ?_ hg);rotate_left 1
    ·rw[hE];rfl
    refine aY (by rfl) (by simp) (by rfl) (by rfl) ?_;rw[hE];rfl
   ·have h7:¬1099511627776<q.1.1+1:=by have:=of_decide_eq_false hc;rw[hw6] at this;exact this
    rw[if_neg h7] at hL;refine iV ?_;change DR _ _ _ _ _ _;have hF1:IntKind.i64.wrap (1-(q.2:Int))=1-(q.2:Int):=dD a_ a_;refine xC M hI hn (by rfl) (by kernel_rfl) ?_ ?_
    ·simp
    unfold ah.write at hL;rw[ah.bind_assoc] at hL;have hzs:strOf (Lib.repeatL [0] 256)=strOf gU:=by rw[aFj];rfl
    have hz2:(ByteArray.mk #[0]).size<=1:=dE _;have hFB:=aCf rec (1-(q.2:Int));generalize hF:bF rec (1-(q.2:Int))=F at *;generalize hb:encS rec (q.1.1+1) c.data.toList=b at *;obtain⟨lz,hlz⟩:∃ lz,lq++[(⟨4,0,F,strOf gU⟩:Acc)]=lz:=⟨_,rfl⟩;have hGO:go O pr l=(⟨c,q.1.1+1,0⟩,hist F b lz (nsec b)++[zy F b 0]):=by rw[hL.2,zK,zK,zK];show ((⟨c,q.1.1+1,0⟩:Ce),(go O (ah.ED F b (nsec b-1) 1) (lq++[(⟨4,0,F,strOf gU⟩:Acc)])).2++[(⟨4,0,F,strOf (jq b 0)⟩:Acc)])=_;rw[hlz,LZ];unfold zy;rw[show F+((0:Nat):Int)=F from Int.add_zero F];rfl
    have hlq:l <+: lq:=hL.1;refine xC M hI hn (by rfl) (by kernel_rfl) ?_ ?_
    ·simp;rw[hF1,hF,hzs];refine⟨hz2,hO,fun h h3 h4 _=>?_⟩;rw[<-hstp];refine⟨hlq.trans h3,h4.trans ?_⟩;rw[hGO];show lq++[(⟨4,0,F,strOf gU⟩:Acc)] <+: _;rw[hlz];show lz <+: hist F b lz (nsec b)++[zy F b 0];have hz:=zJ F b lz (x8 (nsec b));rw[oO] at hz;exact hz.trans (Yb _ _)
    refine xC M hI hn (by rfl) (by kernel_rfl) ?_ ?_
    ·simp
    refine aOm (s':=⟨[(1,none,di rec),(2,none,jr c),(3,none,d_ (.pt 0 0 0)),(6,none,d_ (.pt 1 0 0)),(9,none,di (q.1.1+1)),(10,none,d_ (.pt 9004 0 0)),(11,none,d_ (.pt 11000 0 0))],[(dx,none,0,.dev O dw lz),(0,none,0,.box 116 [.dv]),(1,none,0,.box 164 [.lit (.string aH),.lit (.int .i64 0),.lit (.int .i64 0)]),(9004,none,0,.box 3 [.lit (.int .i64 F)]),(11000,none,0,.box 9 [.lit (.string aH)])]⟩) (fun a w hg=>(hg.reset (kT:=[1,2,3,6,9,10,11]) (kO:=[900000,0,1,9004,11000]) f_ ay).same ?_ ?_) ?_
    ·refine .cons rfl (.cons rfl (.cons rfl (.cons rfl (.cons ?_ (.cons rfl (.cons rfl .nil))))));rw[hw6]
    ·refine .cons (.dev ?_) (.cons (.box rfl) (.cons (.box rfl) (.cons (.box ?_) (.cons (.box rfl) .nil))))
     ·show lq++[(⟨4,0,bF rec (IntKind.i64.wrap (1-(q.2:Int))),strOf (Lib.repeatL [0] 256)⟩:Acc)]=lz;rw[hF1,hF,hzs,hlz]
     ·rw[hF1,hF]
    intro a w hg hPQ;obtain⟨env,hE⟩:=hg;obtain⟨g3,cs3,t3,e3,b3,r3⟩:=qh.BL hE (t:=3) (x:=0) rfl rfl;obtain⟨g6,cs6,t6,e6,b6,r6⟩:=qh.BL hE (t:=6) (x:=1) rfl rfl;obtain⟨g10,aLN,t10,e10,b10,r10⟩:=qh.BL hE (t:=10) (x:=9004) rfl rfl;obtain⟨g11,aLM,t11,e11,b11,r11⟩:=qh.BL hE (t:=11) (x:=11000) rfl rfl;obtain⟨dv1,dv2,hi⟩:=hE.dev none 0 O dw lz rfl trivial;clear dv1 dv2;have hcg:dm A.dv.S A.w0 w:=hE.gy.mono fun b _ h=>(OL.1 b).1 h;have x3:ownB A env g3:=.inr ⟨0,0,_,e3,rfl⟩;have x6:ownB A env g6:=.inr ⟨1,0,_,e6,rfl⟩;have x10:ownB A env g10:=.inr ⟨9004,0,_,e10,rfl⟩;have x11:ownB A env g11:=.inr ⟨11000,0,_,e11,rfl⟩;have n6:g6≠g11:=fun e=>by have:=hE.inj 1 11000 0 _ 0 _ g6 e6 e11 rfl (by rw[e];rfl);cases this
    have n3:g3≠g11:=fun e=>by have:=hE.inj 0 11000 0 _ 0 _ g3 e3 e11 rfl (by rw[e];rfl);cases this
    have n10:g10≠g11:=fun e=>by have:=hE.inj 9004 11000 0 _ 0 _ g10 e10 e11 rfl (by rw[e];rfl);cases this
    have n36:g3≠g6:=fun e=>by have:=hE.inj 0 1 0 _ 0 _ g3 e3 e6 rfl (by rw[e];rfl);cases this
    have n106:g10≠g6:=fun e=>by have:=hE.inj 9004 1 0 _ 0 _ g10 e10 e6 rfl (by rw[e];rfl);cases this
    have l6:A.w0.heap.size<=g6:=(hE.live 1 0 _ g6 e6 rfl).2.resolve_right (fun h=>A.dv.notS _ _ _ _ hi x6 ((OL.1 _).1 h.1));have l11:A.w0.heap.size<=g11:=(hE.live 11000 0 _ g11 e11 rfl).2.resolve_right (fun h=>A.dv.notS _ _ _ _ hi x11 ((OL.1 _).1 h.1));obtain rfl:cs6=#[.string aH,.int .i64 0,.int .i64 0]:=yP (vs:=[.string aH,.int .i64 0,.int .i64 0]) r6;obtain rfl:aLN=#[.int .i64 F]:=yP (vs:=[.int .i64 F]) r10;obtain rfl:aLM=#[.string aH]:=yP (vs:=[.string aH]) r11
    obtain rfl:cs3=#[A.dv.hd]:=aAO r3 (fun jm hd h=>by
     obtain⟨hd2,e5,_⟩:=hE.l9 dx none 0 _ rfl;have h0:env dx=some (jm,hd):=h;rw[e5] at h0;cases h0
     exact⟨rfl,(hE.oq dx A.dv.hd (hI.dvh _ _ _ hi)).2.now e5⟩)
    have hsz:a.tmps.size=65:=hE.size.trans (hn.trans rfl);have t1:=bJt hE (t:=1) rfl;have t2:=bJt hE (t:=2) rfl;have t9:=bJt hE (t:=9) rfl;obtain⟨u0,u1,u2,u3,u4,u5,u6,u7,u8,u9,u10,u11,u12,u13,u14,u15,u16,u17,u18,u19,u20,u21,u22,u23,u24,u25,u26,u27,u28,u29,u30,u31,u32,u33,u34,u35,u36,u37,u38,u39,u40,u41,u42,u43,u44,u45,u46,u47,u48,u49,u50,u51,u52,u53,u54,u55,u56,u57,u58,u59,u60,u61,u62,u63,u64,rfl⟩:=aDY a hsz (hE.defers.trans OL.2);obtain rfl:u1=_:=Option.some.inj t1;obtain rfl:u2=_:=Option.some.inj t2;obtain rfl:u3=_:=Option.some.inj t3;obtain rfl:u6=_:=Option.some.inj t6;obtain rfl:u9=_:=Option.some.inj t9;obtain rfl:u10=_:=Option.some.inj t10;obtain rfl:u11=_:=Option.some.inj t11;have hM:=hI.mem w hE.gy;have HW:=hide (az hi (az hcg (az b3 (az b6 (az b10 b11)))));have HX:=hide (az x3 (az x6 (az x10 x11)));have HL:=hide (az l6 l11);have HN:=hide (az n6 (az n3 (az n10 (az n36 n106))));have HE:=hide hE.gy.size;have hbl:b.length<=3000/\0<b.length:=by rw[<-hb,mX,nX];have:=aP (q.1.1+1);have:=aP (c.data.toList.length:Int);have hcl:c.data.toList.length=c.size:=Array.length_toList;omega
    have Zm:=hide (MR rec (q.1.1+1) c hr ⟨by omega,by omega⟩ a_ w hM);have HSc:=hide (fun v hv W=>aTk v hv W);rw[hb] at Zm;have HG:=hide (az hGO (az hL.1 (az hlz (az hAO (az hAs (az OL (az hI (az hstp hPQ))))))));have hP0:∀ l',lz <+: l'->l' <+: hist F b lz (nsec b)++[zy F b 0]->A.dw l':=fun l' h1 h2=>by rw[hAs,<-hstp];refine⟨hL.1.trans ((?_:lq <+: lz).trans h1),by rw[hGO];exact h2⟩;have:=Yb lq [(⟨4,0,F,strOf gU⟩:Acc)];rwa [hlz] at this
    have HP:=hide (show (∀ k,0<k->k<nsec b->∀ l',hist F b lz k <+: l'->l' <+: hist F b lz k++[zy F b k]->A.dw l')/\(∀ l',hist F b lz (nsec b) <+: l'->l' <+: hist F b lz (nsec b)++[zy F b 0]->A.dw l') from
     ⟨
      fun k hk0 hkn l' h1 h2=>hP0 l' (by have hz:=zJ F b lz (x8 k);rw[oO] at hz;exact hz.trans h1) (by
      have hz:=zJ F b lz (Nat.succ_le_of_lt hkn);rw[aBe F b lz k hk0] at hz
      exact (h2.trans hz).trans (Yb _ _)),
     fun l' h1 h2=>hP0 l' (by have hz:=zJ F b lz (x8 (nsec b));rw[oO] at hz;exact hz.trans h1) h2⟩)
    clear hP0;have HC:=hide (az hbl hq1);have HFB:=hide hFB;clear hFB;clear l6 l11 hPQ hM hi hcg b3 b6 b10 b11 x3 x6 x10 x11 n6 n3 n10 n36 n106 hE t1 t2 t3 t6 t9 t10 t11 e3 e6 e10 e11 r3 r6 r10 r11 hsz hGO hL hL0 hlz hAO hAs OL hI hstp hbl hq1 hlq hzs hz2 hF1 hb hF hq h7 hw6 h2 h hp hO hr M hn;refine aSw (aSw (aEf ?_))
    go_wp2_with (first
     |(go_at_call 143;refine (aA Zm).mono ?_;rintro e w1 ⟨G,cap,rfl,k1,k2,k3,k4,k5,k6⟩;have H1:=hide (az k1 (az k2 (az k3 (az k4 (az k5 k6)))));clear k1 k2 k3 k4 k5 k6)
     |(go_at_call 142;refine (aA HSc _ rfl _).mono ?_;rintro e w2 ⟨rfl,rfl⟩))
    change DX _ _ _ _ _ _;refine bEy ?_;obtain⟨W0,hW0⟩:∃ x,w1.alloc (.cells #[.slice (some ⟨G,0,none⟩) b.length cap] 74)=x:=⟨_,rfl⟩;have hsz0:W0.heap.size=w1.heap.size+1:=by rw[<-hW0];simp
    have hwW:Ext w W0:=by rw[<-hW0];exact (aA H1).1.alloc _
    have hBx:W0.cell? ⟨w1.heap.size,0,none⟩=some (.slice (some ⟨G,0,none⟩) b.length cap):=by rw[<-hW0];exact iE _ _ _ rfl rfl
    have hGr:W0.rangeAt G 0 (b.map gq):=by rw[<-hW0];exact fun j v hj=>Ext.j_ ((Ext.refl w1).alloc _) ((aA H1).2.2.2.2.2 j v hj)
    obtain⟨X,RD⟩:∃ X:Nat->Prop,X=fun i=>ownB A env i\/(w.heap.size<=i/\i<W0.heap.size+2):=⟨_,rfl⟩;have hX3:X g3:=by rw[RD];exact .inl (aA HX).1
    have hX6:X g6:=by rw[RD];exact .inl (aA HX).2.1
    have aKX:X g10:=by rw[RD];exact .inl (aA HX).2.2.1
    have aCL:X g11:=by rw[RD];exact .inl (aA HX).2.2.2
    have R_:∀ i,w.heap.size<=i->i<W0.heap.size+2->X i:=fun i h1 h2=>by rw[RD];exact .inr ⟨h1,h2⟩
    have hin0:∀ W,Ext W0 W->W0.heap.size+2<=W.heap.size->Oa A X W0.heap.size g3 g6 g10 g11 F b lz 0 W:=fun W hE hs=>by
     have ZC:Ext w W:=hwW.trans hE;refine⟨(aA HW).2.1.ext ZC,?_,(aA HW).2.2.1.ext ZC,(aA HW).2.2.2.1.ext ZC,(aA HW).2.2.2.2.1.ext ZC,?_,hE.size'⟩
     ·rw[oO];refine A.dv.grow _ _ _ _ _ (aA HW).1 ZC.gy (fun i hi=>?_);rw[RD] at hi;rcases hi with hi|⟨h1,h2⟩
      ·exact .inl hi
      ·exact .inr ⟨h1,by omega⟩
     ·rw[if_pos rfl];exact (aA HW).2.2.2.2.2.ext ZC
    have hnS:∀ i,X i->¬A.dv.S i:=fun i hi hs=>by
     rw[RD] at hi;rcases hi with hi|⟨h1,h2⟩
     ·exact A.dv.notS _ _ _ _ (aA HW).1 hi hs
     ·have:=((aA HG).2.2.2.2.2.2.1.old i (((aA HG).2.2.2.2.2.1.1 i).2 hs)).1;have:=aA HE;omega
    have hseq:=aTj b (aA HC).1.1 (aA HC).1.2 w1.heap.size G cap (fun i=>A.dv.S i\/i=g11) W0 (fun h=>?s1) (fun h=>?s2) hBx (aA H1).2.2.2.1 (aA H1).2.2.2.2.1 a_ (by have:=(aA H1).2.2.1;omega) hGr
    case s1=>
     rcases h with h|h
     ·exact hnS _ (R_ _ (aA H1).1.size' a_) h
     ·have:=(aA HW).2.2.2.2.2.lt;have:=(aA H1).1.size';omega
    case s2=>
     rcases h with h|h
     ·exact hnS _ (R_ _ (aA H1).2.1 (by have:=(aA H1).2.2.1;omega)) h
     ·have:=(aA HW).2.2.2.2.2.lt;have:=(aA H1).2.1;omega
    have HXD:=hide RD;clear RD;rw[hW0];have hn1:A.w0.heap.size<=W0.heap.size:=mr (aA HE) hwW.size';have hwn:=hwW.size';obtain⟨Sx,hSx⟩:∃ S:Nat->Prop,S=fun i=>A.dv.S i\/i=g11:=⟨_,rfl⟩;rw[<-hSx] at hseq;have HSX:=hide hSx;clear hSx
    refine bAb (gf:=175) (lb:=#[.pointer (some ⟨w1.heap.size,0,none⟩)]) (encs:=fun k=>#[.int .i64 (k:Int),.string (strOf (jq b k))]) (S:=Sx) (N:=nsec b) ⟨_,func101⟩ rfl (aC func175 aj rfl) hseq (fun _=>rfl)
     (Oa A X W0.heap.size g3 g6 g10 g11 F b lz) (fun k W W' h hc hk=>h.keep hn1 (fun i hi=>R_ i (by rcases hi with h|h<;>omega) (by rcases hi with h|h<;>omega)) hc hk) hin0
     (fun ch W=>dm A.dv.S A.w0 W/\∃ l',(lz <+: l'/\l' <+: hist F b lz (nsec b))/\A.dv.O l'=none/\A.dv.pan l' X W ch)
     (fun k a'=>a'={ tmps:=#[u0,.int .i64 rec,.string c,.pointer (some ⟨g3,0,none⟩),u4,u5,.pointer (some ⟨g6,0,none⟩),u7,u8,.int .i64 (q.1.1+1),.pointer (some ⟨g10,0,none⟩),.pointer (some ⟨g11,0,none⟩),.int .i64 (k:Int),.string (strOf (jq b k)),u14,u15,u16,u17,u18,u19,u20,u21,u22,u23,u24,u25,u26,u27,u28,u29,u30,u31,u32,u33,u34,u35,u36,u37,u38,u39,u40,u41,.int .i64 rec,.int .i64 (q.1.1+1),.string c,.slice (some ⟨G,0,none⟩) b.length cap,.func (.func 175) #[] #[.pointer (some ⟨w1.heap.size,0,none⟩)],.int .i64 (k:Int),.string (strOf (jq b k)),u49,u50,u51,u52,u53,u54,u55,u56,u57,u58,u59,u60,u61,u62,u63,u64],defers:=[] }) ?assign ?body ?done ?pan
    case assign=>
     intro l1 k W K hK;clear hseq hin0 R_ hnS Zm HSc
     gi_wp2
     exact hK _ _ (Ext.refl _) rfl
    case body=>
     rintro l1 k a' W hJ rfl hlt;by_cases hk0:k=0
     ·subst hk0;have c11:=hJ.b11.cell 0;have f11:=hJ.b11.frozen 0;have bGN:=hJ.b11.lt;rw[if_pos rfl] at c11;have c11':W.cell? ⟨g11,0,none⟩=some (.string aH):=c11;clear c11 hseq hin0 Zm HSc hW0 hsz0;have HJ:=hide hJ;clear hJ
      gi_wp2
      have c1:dm (fun i=>i=g11) W (W.setCell ⟨g11,0,none⟩ (.string (strOf (jq b 0)))):=(dm.refl (fun i=>i=g11) W).setCell (p:=⟨g11,0,none⟩) (.inl rfl) _;refine⟨⟨(aA HJ).gy.trans' c1 (fun _ _ h=>h) (fun i hi e=>by have:=(aA HL).2;omega),?_,(aA HJ).b3.far (aA HN).2.1 _,(aA HJ).b6.far (aA HN).1 _,(aA HJ).b10.far (aA HN).2.2.1 _,?_,mr (aA HJ).sz c1.size⟩,fun i hi hn=>?_,fun i o hi ho hno=>?_⟩
      ·have:=A.dv.grow _ _ _ _ _ (aA HJ).inv (c1.mono fun i _ e=>e ▸ aCL) (fun i hi=>.inl hi);rw[oO] at this;rw[aYs];exact this
      ·have:=(aA HJ).b11.vk 0 (.string (strOf (jq b 0)));rw[if_neg a_];exact this
      ·exact Below.heap_setCell W _ _ i (fun e=>hn (by rw[aA HSX];exact .inr e))
      ·rw[Below.heap_setCell W _ _ i (fun e=>by
        have e2:i=g11:=e;have:=(aA HW).2.2.2.2.2.lt
        omega)]
       exact ho
     ·have hkI:¬(k:Int)=0:=by omega
      have c3:W.cell? ⟨g3,0,none⟩=some A.dv.hd:=hJ.b3.cell 0;have c10:W.cell? ⟨g10,0,none⟩=some (.int .i64 F):=hJ.b10.cell 0;have hkn:k<=12:=by have:=(aA HC).1.1;unfold nsec at hlt;omega
      have hwF:wrap64 (F+(k:Int))=F+(k:Int):=by have:=aA HFB;unfold wrap64;omega
      have HJ:=hide hJ;have HWr:=hide (bEw (aA HG).2.2.2.2.2.2.1 hJ.inv (aA HG).2.2.2.2.2.1.1 hJ.gy (F+(k:Int)) (strOf (jq b k)) (fun l' h1 h2 _=>(aA HP).1 k a_ hlt l' h1 h2));clear hJ hseq hin0 Zm HSc hW0 hsz0
      gi_wp2_with ((refine⟨trivial,?_⟩;gi_at_call 140;refine (CallsIn.inRound l1 (callsIn_wide.2 (aA HWr))).mono ?_))
      have hkp:∀ W',dm A.dv.S W W'->KpS Sx W0.heap.size W W':=fun W' hc1 i hi hn=>hc1.block i (Y1 hi (aA HJ).sz) (fun h=>hn (by rw[aA HSX];exact .inl h))
      have hko:∀ W',dm A.dv.S W W'->OA W0.heap.size W W':=fun W' hc1 i o hi ho hno=>(hc1.block i (lt_of_heap ho) (fun h=>by
       have:=((aA HG).2.2.2.2.2.2.1.old i (((aA HG).2.2.2.2.2.1.1 i).2 h)).1
       omega)).trans ho
      rintro e w' ⟨hc1,⟨v,rfl,hi2⟩|⟨ch,l',rfl,hl',hO2,WQ⟩⟩
      ·have HJ2:=hide ((aA HJ).wrote hX3 hX6 aKX aCL a_ hc1 hi2);have HK:=hide (az (hkp _ hc1) (hko _ hc1));clear hkp hko hc1 hi2
       gi_wp2
       exact⟨aA HJ2,(aA HK).1,(aA HK).2⟩
      ·refine⟨rfl,⟨(aA HJ).gy.trans hc1,l',⟨?_,?_⟩,hO2,WQ⟩,hko _ hc1⟩
       ·have hz:=zJ F b lz (x8 k);rw[oO] at hz;exact hz.trans hl'.1
       ·refine hl'.2.trans ?_;have hz:=zJ F b lz (Nat.succ_le_of_lt hlt);rw[aBe F b lz k a_] at hz;exact hz
    case done=>
     intro D W hJ hD hDl;have hnp:0<nsec b:=by have:=(aA HC).1.2;unfold nsec;omega
     change DX _ _ _ _ _ _;refine aEf ?_;have c3:W.cell? ⟨g3,0,none⟩=some A.dv.hd:=hJ.b3.cell 0;have c10:W.cell? ⟨g10,0,none⟩=some (.int .i64 F):=hJ.b10.cell 0;have c11:W.cell? ⟨g11,0,none⟩=some (.string (strOf (jq b 0))):=by have:=hJ.b11.cell 0;rw[if_neg a_] at this;exact this
     have HJ:=hide hJ;have HD:=hide (az hD hDl);have HWr:=hide (bEw (aA HG).2.2.2.2.2.2.1 hJ.inv (aA HG).2.2.2.2.2.1.1 hJ.gy F (strOf (jq b 0)) (fun l' h1 h2 _=>(aA HP).2 l' h1 (by unfold zy;rw[show F+((0:Nat):Int)=F from Int.add_zero F];exact h2)));clear hJ hseq hin0 Zm HSc hW0 hsz0 hD hDl
     go_wp2_with ((go_at_call 140;refine (aA HWr).mono ?_))
     have hAX:∀ i,A.X0 i->X i:=fun i h=>by rw[aA HXD];exact .inl (.inl h)
     have h0f:F+((0:Nat):Int)=F:=Int.add_zero F;rintro e w2 ⟨hc1,⟨v,rfl,hi2⟩|⟨ch,l',rfl,hl',hO2,WQ⟩⟩
     ·have H2:=hide (az ((aA HJ).gy.trans hc1) (az hi2 (az ((aA HJ).b6.gy hc1 ((aA HJ).notS hX6)) (show w2.heap[D]?=some (.deferred (some [])) from (hc1.block D (lt_of_heap (aA HD).1) ((aA HJ).notS (R_ D (by have:=(aA HD).2;omega) (by have:=(aA HD).2;omega)))).trans (aA HD).1))));clear hc1 hi2;have c60:w2.cell? ⟨g6,0,none⟩=some (.string aH):=(aA H2).2.2.1.cell 0;have c61:w2.cell? ⟨g6,1,none⟩=some (.int .i64 0):=(aA H2).2.2.1.cell 1;have c62:w2.cell? ⟨g6,2,none⟩=some (.int .i64 0):=(aA H2).2.2.1.cell 2;have f60:=(aA H2).2.2.1.frozen 0;have f61:=(aA H2).2.2.1.frozen 1;have f62:=(aA H2).2.2.1.frozen 2;have lt6:=(aA H2).2.2.1.lt
      go_wp2
      obtain rfl:=(aA HD).2;have hb6:dh (((w2.setCell ⟨g6,0,none⟩ (.string c)).setCell ⟨g6,1,none⟩ (.int .i64 (q.1.1+1))).setCell ⟨g6,2,none⟩ (.int .i64 0)) g6 164 #[.string c,.int .i64 (q.1.1+1),.int .i64 0]:=(((aA H2).2.2.1.vk 0 _).vk 1 _).vk 2 _;have c6:dm (fun i=>i=g6) w2 (((w2.setCell ⟨g6,0,none⟩ (.string c)).setCell ⟨g6,1,none⟩ (.int .i64 (q.1.1+1))).setCell ⟨g6,2,none⟩ (.int .i64 0)):=(((dm.refl (fun i=>i=g6) w2).setCell (p:=⟨g6,0,none⟩) (.inl rfl) _).setCell (p:=⟨g6,1,none⟩) (.inl rfl) _).setCell (p:=⟨g6,2,none⟩) (.inl rfl) _;generalize ((w2.setCell ⟨g6,0,none⟩ (.string c)).setCell ⟨g6,1,none⟩ (.int .i64 (q.1.1+1))).setCell ⟨g6,2,none⟩ (.int .i64 0)=W3 at *;have g6w:g6<W0.heap.size:=by have:=(aA HW).2.2.2.1.lt;omega
      have hD3:W3.heap[W0.heap.size]?=some (.deferred (some [])):=(c6.block _ (lt_of_heap (aA H2).2.2.2) (fun e=>by omega)).trans (aA H2).2.2.2;have hcp:dm (fun i=>i=W0.heap.size) W3 (W3.putObj W0.heap.size (.deferred none)):=⟨rfl,rfl,rfl,by simp,fun b _ hn=>Yn hn⟩;refine aJm (v:=.agg #[.string c,.int .i64 (q.1.1+1),.int .i64 0]) rfl hD3 (dR GI rfl ((Yn a_).trans hb6) rfl rfl) ?_;have ct:dm X w2 (W3.putObj W0.heap.size (.deferred none)):=(c6.mono fun i _ e=>e ▸ hX6).trans' hcp (fun _ _ h=>h) (fun i _ e=>R_ i a_ a_);refine⟨((aA H2).1.trans' c6 (fun _ _ h=>h) (fun i hi e=>by have:=(aA HL).1;omega)).trans' hcp (fun _ _ h=>h) (fun i hi e=>by omega),.inl ⟨_,rfl,?_,?_⟩⟩
      ·rw[(aA HG).1];exact .w (.agg (.cons (.lit rfl) (.cons (.lit rfl) (.cons (.lit rfl) .nil))))
      ·rw[(aA HG).1];have:=A.dv.grow _ _ _ _ _ (aA H2).2.1 ct (fun i hi=>.inl (hAX i hi));unfold zy;rw[h0f];exact this
     ·have hcp:dm (fun i=>i=W0.heap.size) w2 (w2.putObj W0.heap.size (.deferred none)):=⟨rfl,rfl,rfl,by simp,fun b _ hn=>Yn hn⟩;obtain rfl:=(aA HD).2;have hD2:w2.heap[W0.heap.size]?=some (.deferred (some [])):=(hc1.block _ (lt_of_heap (aA HD).1) ((aA HJ).notS (R_ _ a_ a_))).trans (aA HD).1;show LeavesInM Fence.wide 3 _ _ _ _ [{ target:=.collected W0.heap.size,args:=#[] }] (.panicking ch) w2;refine⟨by simp,.inl ⟨_,_,rfl,run_takeDeferred hD2,?_⟩⟩;refine⟨((aA HJ).gy.trans hc1).trans' hcp (fun _ _ h=>h) (fun i hi e=>by omega),.inr ⟨ch,l',rfl,?_,by rw[<-(aA HG).2.2.2.1];exact hO2,(aA HG).2.2.2.2.2.2.1.Bo _ _ _ _ _ _ WQ (hcp.mono fun i _ e=>R_ i a_ a_) hAX⟩⟩;rw[<-(aA HG).2.2.2.2.2.2.2.1];refine⟨(aA HG).2.1.trans (?_:lq <+: l'),hl'.2.trans ?_⟩
      ·have:=Yb lq [(⟨4,0,F,strOf gU⟩:Acc)];rw[(aA HG).2.2.1] at this;have hz:=zJ F b lz (x8 (nsec b));rw[oO] at hz;exact (this.trans hz).trans hl'.1
      ·rw[(aA HG).1];unfold zy;rw[h0f];exact aAE _
    case pan=>
     rintro D ch W ⟨hc,l',h1,h2,h3⟩ hD rfl;have hAX:∀ i,A.X0 i->X i:=fun i h=>by rw[aA HXD];exact .inl (.inl h)
     have hcp:dm (fun i=>i=W0.heap.size) W (W.putObj W0.heap.size (.deferred none)):=⟨rfl,rfl,rfl,by simp,fun b _ hn=>Yn hn⟩;show LeavesInM Fence.wide 3 _ _ _ _ [{ target:=.collected W0.heap.size,args:=#[] }] (.panicking ch) W;refine⟨by simp,.inl ⟨_,_,rfl,run_takeDeferred hD,?_⟩⟩;refine⟨hc.trans' hcp (fun _ _ h=>h) (fun i hi e=>by omega),.inr ⟨ch,l',rfl,?_,by rw[<-(aA HG).2.2.2.1];exact h2,(aA HG).2.2.2.2.2.2.1.Bo _ _ _ _ _ _ h3 (hcp.mono fun i _ e=>R_ i a_ a_) hAX⟩⟩;rw[<-(aA HG).2.2.2.2.2.2.2.1];refine⟨(aA HG).2.1.trans (?_:lq <+: l'),h1.2.trans ?_⟩
     ·have:=Yb lq [(⟨4,0,F,strOf gU⟩:Acc)];rw[(aA HG).2.2.1] at this;exact this.trans h1.1
     ·rw[(aA HG).1];exact Yb _ _
end Pv
namespace Pv
def qg:TypeId:=118
theorem JY(b:Bool)(e:Int)(w:ae):ik prog 73 #[.bool b,.int .i64 e] w fun a c=>c=w/\((b=true/\a=.returned (.tuple #[]))\/(b=false/\a=.panicked (aGx qg e))):=by
 cases b
 ·go_enter func73,ntmps73
  go_wp2_with fail
  exact⟨rfl,rfl,.inr ⟨trivial,rfl⟩⟩
 ·go_enter func73,ntmps73
  go_wp2_with fail
  go_returns
  exact⟨rfl,.inl ⟨trivial,rfl⟩⟩
theorem JX{I:ae->Prop}(b:Bool)(e:Int):OC prog I qg 73 (iH b e) [qy b,di e] (fun _=>.lu []):=by
 intro O l u g w k j H D C F d c n z a t r f m
 match j,m with
 |[x,y],⟨B,A,_⟩=>obtain rfl:x=.bool b:=RV.eu B;obtain rfl:y=.int .i64 e:=RV.eu A;refine (JY b e w).mono ?_;rintro G E ⟨rfl,⟨rfl,rfl⟩|⟨rfl,rfl⟩⟩;exact⟨dm.refl _ _,.inl ⟨_,rfl,.lu rfl (fun i x h=>by cases h),(fun o s=>by cases s),(fun p q=>by cases q;exact a _ rfl)⟩⟩;refine⟨dm.refl _ _,.inr ⟨_,l++[uQ e],rfl,⟨Pz l _,pF _⟩,g.2 l e,((c.fail qg (z ▸ g) l C _ (a _ rfl)).2 e)⟩⟩
def aWb:List PV->Option (Prop×ah Unit×(Unit->PV))
 |[.w (.one (.lit (.bool b))),.w (.one (.lit (.int .i64 e)))]=>some (True,iH b e,fun _=>.lu [])|_=>none
theorem bIx{I:ae->Prop}:ai prog I 73 (aLv qg aWb):=
 aUr (aC func73 aj rfl) (fun a c p v h _=>by
  unfold aWb at h;split at h;cases h;exact JX _ _
  cases h)
end Pv
section
section
variable {P:gp} {ops:Array Oper} {md:Region.Mode} {Q:uB->Act->ae->Prop}
end
end
section
section
variable {P:Nat->ag->Prop} {i1:Nat} {w0:ae} {ca ha:Array ag} {i:Nat} {v u:ag} {W W':ae} {L:Nat->Bool} {xs:Nat->ag}
end
end
section
section
variable {w0:ae} {gd gb:Nat} {ny:Int} {c:ByteArray} {l1 l2:List UInt8} {bGL:Array ag} {i:Nat} {v u:ag} {W W':ae}
end
end
namespace Pv
def Xh(a:Nat):Spec:=fun _ c=>match c with
 |[.w (.agg [.bs 16 k]),.w (.one (.lit (.int .i64 n))),.w (.one (.lit (.string b)))]=>.need (g_ n/\b.size<=a) (.ret (.w (.agg [.lit (.int .i64 n),.lit (.string (strOf (dN k n b.data.toList))),.bs 16 (qc k n (dN k n b.data.toList))])))|_=>.fail
def opened(k:List UInt8)(n:Int)(c:ByteArray)(t:List UInt8):Bool:=qc k n c.data.toList==t
def Xg(a:Nat):Spec:=fun _ b=>match b with
 |[.w (.agg [.bs 16 k]),.w (.agg [.lit (.int .i64 n),.lit (.string c),.bs 16 t])]=>.need (g_ n/\c.size<=a) (.ret (.lu [.one (.lit (.string (bif opened k n c t then strOf (dN k n c.data.toList) else { data:=#[] }))),.one (.lit (.int .i64 (bif opened k n c t then 0 else 8)))]))|_=>.fail
theorem Hq{C:Ctx}{n:Int}{c:ByteArray}{t:List UInt8}{v:ag}(h:RV C (.w (.agg [.lit (.int .i64 n),.lit (.string c),.bs 16 t])) v):t.length=16/\v=.agg (BM n c t):=by
 cases h with
 | w h=>cases h with
  | @agg _ g h=>
   generalize a:g.toList=q at h;cases h with
   | cons f h=>cases h with
    |cons e h=>cases f;cases e;obtain⟨d,b⟩:=h.ZH;refine⟨d,?_⟩;congr 1;apply Array.ext';rw[a,b];rfl
theorem aOy{C:Ctx}{n:Int}{c:ByteArray}{t:List UInt8}(h:t.length=16):RV C (.w (.agg [.lit (.int .i64 n),.lit (.string c),.bs 16 t])) (.agg (BM n c t)):=
 .w (.agg (by
  have:=RL.cons (C:=C) (R.lit (v:=.int .i64 n) rfl) (RL.cons (R.lit (v:=.string c) rfl) (RL.cons (R.bs h) RL.nil))
  simpa[BM,Fp] using this))
theorem bGb:ai prog af 103 (Xh 100000):=by
 refine⟨aC func103 aj rfl,fun A s a w f z i g F h l j c=>?_⟩;unfold Xh at c;split at c;rotate_left;exact c.elim;rename_i k n b;obtain⟨⟨⟨u,t⟩,r⟩,c⟩:=c
 match g,j with
 |[B,y,v],⟨q,p,o,_⟩=>obtain rfl:=RV.eu (show RV _ _ _ from p);obtain rfl:=RV.eu (show RV _ _ _ from o);obtain⟨d,rfl⟩:=aOz q;refine (Gy k n b w (l.mem w h.gy) d u t r).mono ?_;rintro e x ⟨rfl,m⟩;exact .inl ⟨_,[],_,f,rfl,c,h.ext m,aOy (fZ _ _ _)⟩
theorem I4:ai prog af 120 (Xh 10000):=by
 refine⟨aC func120 aj rfl,fun A s a w f y i g F h B j c=>?_⟩;unfold Xh at c;split at c;rotate_left;exact c.elim;rename_i k n b;obtain⟨⟨⟨t,r⟩,q⟩,c⟩:=c
 match g,j with
 |[z,x,v],⟨p,o,m,_⟩=>obtain rfl:=RV.eu (show RV _ _ _ from o);obtain rfl:=RV.eu (show RV _ _ _ from m);obtain⟨d,rfl⟩:=aOz p;refine (bGk k n b w  d t r q).mono ?_;rintro e u ⟨rfl,l⟩;exact .inl ⟨_,[],_,f,rfl,c,h.ext l,aOy (fZ _ _ _)⟩
theorem bIh:ai prog af 81 (Xg 100000):=by
 refine⟨aC func81 aj rfl,fun A s a w j G B z F h p C d=>?_⟩;unfold Xg at d;split at d;rotate_left;exact d.elim;rename_i k n c t;obtain⟨⟨⟨u,r⟩,q⟩,d⟩:=d
 match z,C with
 |[H,v],⟨E,D,_⟩=>
  obtain⟨g,rfl⟩:=aOz E;obtain⟨f,rfl⟩:=Hq D;by_cases l:qc k n c.data.toList=t;refine (J6 k n c t w (p.mem w h.gy) g f u r q l).mono ?_;rintro e y ⟨rfl,o⟩;refine .inl ⟨_,[],_,j,rfl,d,h.ext o,.lu rfl (fun i x b=>?_)⟩;have m:opened k n c t=true:=by unfold opened;rw[l];simp
  rw[m] at b
  match i,b with
  |0,b=>cases b;exact⟨_,rfl,.one (.lit rfl)⟩|1,b=>cases b;exact⟨_,rfl,.one (.lit rfl)⟩|i+2,b=>cases b
  refine (QD k n c t w (p.mem w h.gy) g f u r q l).mono ?_;rintro e y ⟨rfl,o⟩;refine .inl ⟨_,[],_,j,rfl,d,h.ext o,.lu rfl (fun i x b=>?_)⟩;have m:opened k n c t=false:=by unfold opened;simpa using l
  rw[m] at b
  match i,b with
  |0,b=>cases b;exact⟨_,rfl,.one (.lit rfl)⟩|1,b=>cases b;exact⟨_,rfl,.one (.lit rfl)⟩|i+2,b=>cases b
theorem IA:ai prog af 21 (Xg 10000):=by
 refine⟨aC func21 aj rfl,fun A s a w j E z y F h H B d=>?_⟩;unfold Xg at d;split at d;rotate_left;exact d.elim;rename_i k n c t;obtain⟨⟨⟨r,q⟩,p⟩,d⟩:=d
 match y,B with
 |[G,v],⟨D,C,_⟩=>
  obtain⟨g,rfl⟩:=aOz D;obtain⟨f,rfl⟩:=Hq C;by_cases l:qc k n c.data.toList=t;refine (bGq k n c t w  g f r q p l).mono ?_;rintro e u ⟨rfl,o⟩;refine .inl ⟨_,[],_,j,rfl,d,h.ext o,.lu rfl (fun i x b=>?_)⟩;have m:opened k n c t=true:=by unfold opened;rw[l];simp
  rw[m] at b
  match i,b with
  |0,b=>cases b;exact⟨_,rfl,.one (.lit rfl)⟩|1,b=>cases b;exact⟨_,rfl,.one (.lit rfl)⟩|i+2,b=>cases b
  refine (IB k n c t w  g f r q p l).mono ?_;rintro e u ⟨rfl,o⟩;refine .inl ⟨_,[],_,j,rfl,d,h.ext o,.lu rfl (fun i x b=>?_)⟩;have m:opened k n c t=false:=by unfold opened;simpa using l
  rw[m] at b
  match i,b with
  |0,b=>cases b;exact⟨_,rfl,.one (.lit rfl)⟩|1,b=>cases b;exact⟨_,rfl,.one (.lit rfl)⟩|i+2,b=>cases b
@[simp] theorem ZE:prog.eqGuardType prog.depth 27=false:=by kernel_rfl
def KF:List (Nat×Spec):=(103,Xh 100000)::(120,Xh 10000)::(81,Xg 100000)::(21,Xg 10000)::Qe
theorem Qg:∀ p∈KF,ai prog af p.1 p.2:=by intro p a;simp only[KF,xn] at a;rcases a with rfl|rfl|rfl|rfl|a;exact bGb;exact I4;exact bIh;exact IA;exact KE p a
def ZZ:List (Nat×Spec):=(103,Xh 100000)::(81,Xg 100000)::bJm
theorem aDu:∀ p∈ZZ,ai prog af p.1 p.2:=by intro p a;simp only[ZZ,xn] at a;rcases a with rfl|rfl|a;exact bGb;exact bIh;exact aVd p a
theorem Vm:jl prog af (find ZZ):=⟨bD aDu,dG⟩
structure je where
 kind:Int
 root:List UInt8
 id:List UInt8
 link:List UInt8
 payload:ByteArray
 ot:List UInt8
 ol:Int
 xt:List UInt8
 xl:Int
 bn:Int
 bc:ByteArray
 bt:List UInt8
structure jg where
 kind:Int
 level:Int
 ot:List UInt8
 ol:Int
 payload:ByteArray
structure ja where
 session:Int
 payload:ByteArray
 ot:List UInt8
 ol:Int
 xt:List UInt8
 xl:Int
 bn:Int
 bc:ByteArray
 bt:List UInt8
 err:Int
def vz:List UInt8:=DD 16 0
def zq:jg:=⟨0,0,vz,0,aH⟩
def kz:ja:=⟨0,aH,vz,0,vz,0,0,aH,vz,0⟩
def um(m:je):List PC:=[.lit (.int .i64 m.kind),.bs 16 m.root,.bs 16 m.id,.bs 16 m.link,.lit (.string m.payload),.bs 16 m.ot,.lit (.int .i64 m.ol),.bs 16 m.xt,.lit (.int .i64 m.xl),.lit (.int .i64 m.bn),.lit (.string m.bc),.bs 16 m.bt]
def ng(m:je)(f:Int):List PC:=[.lit (.int .i64 m.kind),.bs 16 m.root,.bs 16 m.id,.bs 16 m.link,.lit (.string m.payload),.bs 16 m.ot,.lit (.int .i64 m.ol),.bs 16 m.xt,.lit (.int .i64 m.xl),.lit (.int .i64 m.bn),.lit (.string m.bc),.bs 16 m.bt,.lit (.int .i64 f)]
def oz(r:jg):List PC:=[.lit (.int .i64 r.kind),.lit (.int .i64 r.level),.bs 16 r.ot,.lit (.int .i64 r.ol),.lit (.string r.payload)]
def gm(o:ja):List PC:=[.lit (.int .i64 o.session),.lit (.string o.payload),.bs 16 o.ot,.lit (.int .i64 o.ol),.bs 16 o.xt,.lit (.int .i64 o.xl),.lit (.int .i64 o.bn),.lit (.string o.bc),.bs 16 o.bt,.lit (.int .i64 o.err)]
def wu:TypeId:=122
def keyS(a t:List UInt8)(l:Int):List UInt8:=lS a [116,114,97,110,115,102,101,114] [t,b_ l]
def aAB(k:List UInt8)(n:Int)(b:List UInt8):ByteArray:=strOf (dN k n b)
def aAA(k:List UInt8)(n:Int)(b:List UInt8):List UInt8:=qc k n (dN k n b)
def gW(a:List UInt8)(r:jg):ja:={ kz with xt:=r.ot,xl:=r.ol,bn:=r.ol,bc:=aAB (keyS a r.ot r.ol) r.ol r.payload.data.toList,bt:=aAA (keyS a r.ot r.ol) r.ol r.payload.data.toList }
theorem Qv(m:je)(f:Int)(t:List UInt8)(n:Int)(b:g_ n)(hl:m.link.length=16)(e:t.length=16):wZ prog af qg 82 wu (ng m f) (.ret (keyS m.link t n)) [.w (.agg [.bs 16 t,.lit (.int .i64 n)])] (fun k=>.w (.agg [.bs 16 k])):=by intro O l _ _;have M:=Vm;have d:=aP n;refine mW func82 rfl rfl (fun A g h=>?_);refine aB ?_;refine aF ?_ ?_;simp;exact⟨b,by omega,jc,by omega,by omega⟩;refine cZ (fun a w c=>⟨.inr rfl,_,⟨?_,⟨ng m f,rfl,eQ rfl⟩,?_⟩,c⟩);rotate_left 1;rfl;refine aY (by rfl) (by simp) (by rfl) (by rfl) ?_;simp[keyS,go]
def CW:List PC->Option (je×Int)
 |[.lit (.int .i64 k),.bs 16 r,.bs 16 i,.bs 16 l,.lit (.string p),.bs 16 ot,.lit (.int .i64 ol),.bs 16 xt,.lit (.int .i64 xl),.lit (.int .i64 bn),.lit (.string bc),.bs 16 bt,.lit (.int .i64 f)]=>some (⟨k,r,i,l,p,ot,ol,xt,xl,bn,bc,bt⟩,f)|_=>none
theorem wW{l:List PC}{m:je}{f:Int}(h:CW l=some (m,f)):l=ng m f:=by unfold CW at h;split at h;cases h;rfl;cases h
def aZk(l:List PC)(ys:List PV):Option (Prop×ah (List UInt8)×(List UInt8->PV)):=match CW l,ys with
 |some (m,_),[.w (.agg [.bs 16 t,.lit (.int .i64 n)])]=>some (g_ n/\m.link.length=16/\t.length=16,.ret (keyS m.link t n),fun k=>.w (.agg [.bs 16 k]))|_,_=>none
theorem aYn:ai prog af 82 (jG qg wu aZk):=
 kU (aC func82 aj rfl) (fun l d c p v h a=>by
  unfold aZk at h;split at h;rename_i m f t n b;cases h;rw[wW b];exact Qv m f t n a.1 a.2.1 a.2.2
  cases h)
def VZ:List (Nat×Spec):=(82,jG qg wu aZk)::ZZ
theorem Vd:∀ p∈VZ,ai prog af p.1 p.2:=by intro p a;simp only[VZ,xn] at a;rcases a with rfl|a;exact aYn;exact aDu p a
theorem aKG:jl prog af (find VZ):=⟨bD Vd,dG⟩
theorem aOn(m:je)(f:Int)(r:jg)(b:g_ r.ol)(hl:m.link.length=16)(e:r.ot.length=16)(k:r.payload.size<=10000):wZ prog af qg 80 wu (ng m f) (.ret (gW m.link r)) [.w (.agg (oz r))] (fun o=>.w (.agg (gm o))):=by intro O l c d;have M:=aKG;refine mW func80 rfl rfl (fun A n p=>?_);refine aB ?_;refine aF ?_ ?_;simp;exact⟨⟨c,d,b,hl,e⟩,fun h j i _=>⟨j,i⟩,b,by omega⟩;refine cZ (fun a w g=>⟨.inr rfl,_,⟨?_,⟨ng m f,rfl,eQ rfl⟩,?_⟩,g⟩);rotate_left 1;rfl;refine aY (by rfl) (by simp) (by rfl) (by rfl) ?_;rfl
end Pv
section
open Go.RowKit Go.Shelf
def dU:Ren:=
{
 f:=fun x=>
  match x with
  |4=>177
  |n=>n,
 t:=fun x=>
  match x with
  |22=>74
  |25=>5
  |3=>3
  |4=>4
  |9=>9
  |20=>20
  |0=>0
  |n=>n,
 g:=fun x=>
  have n:=x;
  n }
theorem KU:Lays8.n4 prog dU:=
{mixed := Eq.refl true,
  f4:=
    Exists.intro "slices.Grow[[]byte,byte]"
      ⟨of_decide_eq_true (id (Eq.refl true)),
        Eq.trans func177
          (congrArg some
            (
             Eq.refl
             ({
              name := "slices.Grow[[]byte,byte]",origin:=(Body8.n4 dU).origin,
              targs:=(Body8.n4 dU).targs,params:=(Body8.n4 dU).params,
              resultTypes:=(Body8.n4 dU).resultTypes,nfree:=(Body8.n4 dU).nfree,
              ntmps:=(Body8.n4 dU).ntmps,results:=(Body8.n4 dU).results,
              body:=(Body8.n4 dU).body,norace:=(Body8.n4 dU).norace,
              ours:=(Body8.n4 dU).ours,file:=(Body8.n4 dU).file,
              endLine := (Body8.n4 dU).endLine, litNo := (Body8.n4 dU).litNo,
              met:=(Body8.n4 dU).met,tmpNames:=(Body8.n4 dU).tmpNames }:Go.Func)))⟩,
  t0:=underlying0,a0:=isAgg0,z0:=sizeOf0,v0:=zeroValue0,t3:=underlying3,
  a3:=isAgg3,z3:=sizeOf3,v3:=zeroValue3,t4:=underlying4,a4:=isAgg4,
  z4:=sizeOf4,v4:=zeroValue4,t9:=underlying9,a9:=isAgg9,z9:=sizeOf9,
  v9:=zeroValue9,t20:=underlying20,a20:=isAgg20,z20:=sizeOf20,v20:=zeroValue20,
  t22:=underlying74,a22:=isAgg74,z22:=sizeOf74,v22:=zeroValue74 }
theorem aNx(z:Array ag)(n:Nat):(Builtin.zeroCells z n).size=n*z.size:=by unfold Builtin.zeroCells;simp
theorem LX(n:Nat)(w:ae)(hn:0<n)(hb:n<=1000000000000):ik prog 177 #[.slice none 0 0,.int .i64 n] w fun e b=>∃ c,e=.returned (.slice (some ⟨w.heap.size,0,none⟩) 0 c)/\b.ownsRow w.heap.size 5 1 (.slice (some ⟨w.heap.size,0,none⟩) 0 c) 0 []/\Ext w b:=by obtain⟨_,⟨g,z,k,i,j,f,d⟩,_,_⟩:=fV;refine (Any8.slices_Grow_grow KU g z k i a_ none 0 0 n [] w (dE _) a_ (by rw[f];omega) a_ ay (fun _=>rfl) (fun a h=>by cases h)).mono ?_;rintro e b ⟨rfl,rfl⟩;have m:=grownCap_ge w (0+n) 0 (dU.t 25);have l:=grownCap_le_maxLen w (0+n) 0 (dU.t 25) (by unfold maxLen;omega);refine⟨_,rfl,⟨by simp,.inr ⟨w.heap.size,_,_,rfl,dE _,heap_alloc_new w.drew _,x8 _,l,?_,by simp⟩⟩,(Ext.refl w).drew.alloc _⟩;simp only[Array.size_append,aNx,d];simp;rw[lL] at m;omega
end
end Go.Proofs.YtndpjopifkbgiaaGreatDoor
