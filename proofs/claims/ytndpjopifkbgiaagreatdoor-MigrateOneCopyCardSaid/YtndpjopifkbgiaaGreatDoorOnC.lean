/-
  Several texts in one file.
-/
import Derived.Test.YtndpjopifkbgiaaGreatDoorOnB
import Derived.Lib.AppendStr
import Derived.ChangeKeysEq
import Derived.Laws.MakeOwn
import Derived.Laws.Cover3
import Derived.Deep.LoopGhost
namespace Go.Proofs.YtndpjopifkbgiaaGreatDoor
open Go.RowKit Tryz
open _root_.Go renaming run_underlying->xy,Operand->lL,execOp->uu,Program->dE,TypeId->bi,World->ae,typeInfo->Yj,grownCap->YT,bytesRow->YS,Value->ag,madeCells->aAI,yielded->YV,heap_alloc_new->aAu,Oper->df,invoke->ZL,callFunc->YR,maxLen->uk,Code->yf,wp_mono->ZM,undef->bz,Func->yl,Exit->nz
open _root_.Nat renaming beq->bu,le_refl->dC,mul_le_mul_right->Ym,add_mul->Yd,zero_add->ik,one_mul->ZH,mul_one->Yy,le_of_ble_eq_true->Yp,add_zero->ZA,blt->Hm,eq_zero_or_pos->ZP,zero_le->xn,ble->ZC,add_assoc->Yt,zero_mul->aAH,sub_self->Yf,lt_succ_self->aFC,min_eq_left->aAs,mul_comm->aFc,le_trans->PP,add_comm->ZB
open _root_.List renaming getElem?_take->x8,getElem?_drop->YN,length_cons->zl,ext_getElem?->YZ,map_cons->DD,all_cons->ZF,map_nil->ZY,take_append_of_le_length->aAW,map_toArray->aBc,length_map->YU,length_append->gp,getElem?_cons_zero->Yv,length_set->Yb,append_nil->Lt,drop_append_of_le_length->aGW,nil_append->Ha,extract_eq_take_drop->aGV,any_cons->aFE,getElem?_eq_none->YQ,mem_of_getElem?->ZO,mem_cons_of_mem->VM,size_toArray->Yx,length_take->xe,take_take->aFe,mem_range->aFN,drop_take->aFO,drop_drop->aAV
open _root_.Array renaming ext'->GM,length_toList->uA,getElem?_toList->aBH,toList_map->aFP,getElem?_append_left->aCc,getElem?_eq_getElem->ZR,replicate->IR
open _root_.Bool renaming and_eq_true->ww,or_eq_true->aAR,eq_iff_iff->aFf
open _root_.Go.Value renaming ownBlock->Yz,slice->Yu,int->ed
open _root_.UInt8 renaming ofNat->uB
open _root_.Option renaming map_some->aBy
namespace Pv
theorem bIr{v:ag}{b:UInt8}(h:byteOf v=some b):v=ql b:=by unfold byteOf at h;split at h;split at h;cases h;rename_i c;show ed .u8 _=.int .u8 _;rw[<-c];cases h;cases h
theorem vW:∀ {n:Nat} {l:ji} {c:dh},jR n l=some c->c.length=n/\l=c.map ql++l.drop n
 |0,l,c,h=>by simp[jR] at h;subst h;exact⟨rfl,b_⟩|n+1,[],c,h=>by simp[jR] at h| n+1,v::l,c,h=>by
  unfold jR at h;cases d:byteOf v with
  |none=>rw[d] at h;simp at h| some b=>
   cases e:jR n l with
   |none=>rw[d,e] at h;simp at h|some r=>rw[d,e] at h;cases h;obtain⟨g,f⟩:=vW e;exact⟨by simp[g],by rw[bIr d];simp;exact f⟩
theorem aTb{C:Ctx}:∀ {d:List Nat} {c:ji} {l:dw},pack d c=some l->RL C l c
 |[],[],l,h=>by simp[pack] at h;subst h;exact .nil|[],_::_,l,h=>by simp[pack] at h|0::d,[],l,h=>by simp[pack] at h| 0::d,v::c,l,h=>by
  unfold pack at h;by_cases e:v.oneCell'=true;rw[au e] at h;cases b:pack d c with
  |none=>rw[b] at h;cases h|some r=>rw[b] at h;cases h;exact .cons (xs:=[v]) (.lit e) (aTb b)
  rw[ay e] at h;cases h
 | (n+1)::d,c,l,h=>by
  unfold pack at h;cases b:jR (n+1) c with
  |none=>rw[b] at h;simp at h| some bs=>
   cases f:pack d (c.drop (n+1)) with
   |none=>rw[b,f] at h;simp at h|some r=>rw[b,f] at h;cases h;obtain⟨i,g⟩:=vW b;rw[g];exact .cons (.bs i) (aTb f)
section
variable {P:dE} {A:lh} {s:St} {a:Act} {w:ae} {env:Env} {o:df} {K:Act->je} {Q:nz->Act->je} {F:mi->PV->Wr->Prop}
theorem aK{v:ag}{w':ae}(hr:(uu a.eval o).run P w=.ok (.value v) w')(b:K (a.put o.dst v) w'):o.wp P a w K Q:=by unfold Oper.wp;rw[hr];exact b
theorem bFg(h:gy A s a w env){x:lL}(b:o.op=.move x\/o.op=.assign x)(c:(AV x fun v=>.ret v).ok none s F)(e:Fin A s a o K F):o.wp P a w K Q:=by
 obtain⟨pv,d,c⟩:=fC h c;refine aK (v:=a.eval x) (w':=w) ?_ (e.same h c d)
 rcases b with b|b<;>simp[uu,b]
theorem RV.Az{C:Ctx}{b:Bool}{v:ag}(h:RV C (.w (.one (.lit (.bool b)))) v):v=.bool b:=by cases h.inv;rfl
theorem RV.h_{C:Ctx}{u v:ag}(h:RV C (.w (.one (.lit u))) v):v=u:=by cases h.inv;rfl
theorem QX(h:gy A s a w env){c x y:lL}(g:o.op=.pick c x y)(b:(UT c x y).ok none s F)(l:Fin A s a o K F):o.wp P a w K Q:=by
 obtain⟨p,m,b⟩:=fC h b;split at b;rename_i i;have d:=bHn h b;clear b;obtain⟨r,n,b⟩:=d;have d:=bHn h b;clear b;obtain⟨q,f,b⟩:=d;split at b;rename_i k j;refine aK (v:=.bool (bif i then k else j)) (w':=w) ?_ (l.same h b (.w (.one (.lit rfl))));have e:=m.Az;cases i with
 |true=>simp[uu,g,e,asBool,(n rfl).Az]|false=>simp[uu,g,e,asBool,(f rfl).Az]
 exact b.elim;exact b.elim
theorem aDn{C:Ctx}{t:bi}{l:dw}(h:YB P t=some l):∃ i z,P.info? t=some i/\i.zero=some z/\RL C l z.cells.toList:=by
 unfold YB at h;cases d:P.info? t with
 |none=>rw[d] at h;simp at h| some i=>
  rw[d] at h;simp only[Option.bind_some] at h;cases b:i.zero with
  |none=>rw[b] at h;simp at h| some z=>
   cases c:shapeOf P 8 t with
   |none=>rw[b,c] at h;simp at h|some e=>rw[b,c] at h;exact⟨i,z,rfl,b,aTb h⟩
theorem gy.FC(h:gy A s a w env)(d:Nat)(t:bi){l:dw}{cs:kw}(hr:RL (aI A w env) l cs.toList) :
  ∃ c,gy A { s with o:=[(d,none,fresh s d,.box t l)]++s.o } a (w.alloc (.cells cs t)) c/\RV (aI A (w.alloc (.cells cs t)) c) (dm (.pt d (fresh s d) 0)) (.pointer (some ⟨w.heap.size,0,none⟩)):=by
 obtain⟨g,i⟩:=h.new (w':=w.alloc (.cells cs t)) d none (iY w.heap.size) (.box t l) ((Ext.refl w).alloc _) (fun b f=>by cases f;simp) (fun e _=>⟨_,cs,rfl,f_.new w t cs,hr.le e⟩);exact⟨_,g,.w (.one (.pt ⟨_,_,rfl⟩ ⟨_,_,fO _ _ _ _,dC _,fun _=>⟨_,rfl,rfl⟩⟩))⟩
theorem OX(h:gy A s a w env){b:Nat}{t:bi}(g:o.op=.alloc t){l:dw}(e:YB P t=some l)(j:(M.new b (.box t l) fun v=>.ret (dm (.pt b v 0))).ok none s F)(m:Fin A s a o K F):o.wp P a w K Q:=by obtain⟨i,z,k,c,f⟩:=aDn (C:=aI A w env) e;obtain⟨d,p,n⟩:=h.FC b t f;refine aK (v:=.pointer (some ⟨w.heap.size,0,none⟩)) (w':=w.alloc (.cells z.cells t)) ?_ (m _ _ _ _ _ j p n);simp[uu,g,Instr.alloc,zeroValue,Yj,k,c,newVar,newRow]
theorem Xf(h:gy A s a w env){b:Nat}{t:bi}{x:lL}(f:o.op=.box t x){c:PW}(e:RW (aI A w env) c (a.eval x))(g:(M.new b (.box t c.cells) fun v=>.ret (dm (.pt b v 0))).ok none s F)(i:Fin A s a o K F):o.wp P a w K Q:=by obtain⟨d,k,j⟩:=h.FC b t e.cells';refine aK (v:=.pointer (some ⟨w.heap.size,0,none⟩)) (w':=w.alloc (.cells (a.eval x).cells t)) ?_ (i _ _ _ _ _ g k j);simp[uu,f,Instr.box,newVar,newRow]
theorem bAi(h:gy A s a w env){x:lL}{i:Nat}(f:o.op=.extract x i){v:PV}(b:RV (aI A w env) v (a.eval x))(g:(QI (I8 v i)).ok none s F)(j:Fin A s a o K F):o.wp P a w K Q:=by
 obtain⟨d,c,k⟩:=bDl g
 cases v<;>simp only[I8] at c<;>try (cases c;done)
 rename_i l;generalize e:a.eval x=q at b;cases b with
 |og p b=>obtain⟨u,n,m⟩:=b i d c;refine aK (v:=u) (w':=w) ?_ (j.same h k (.w m));simp[uu,f,e,Instr.extract,n]
theorem N7 (h:gy A s a w env) {t:bi} {x:lL} {f:Nat} (N:o.op=.field t x f) {v:PV} (r:RV (aI A w env) v (a.eval x)) (b:(bHd P t v f).ok none s F) (O:Fin A s a o K F):o.wp P a w K Q:=by
 unfold bHd at b;cases y:P.underlying t with
 |none=>rw[y] at b;exact b.elim| some d=>
  rw[y] at b
  cases d<;>try exact b.elim
  rename_i X;dsimp only at b;cases g:X[f]? with
  |none=>rw[g] at b;exact b.elim| some j=>
   rw[g] at b;dsimp only at b;split at b
   ·rename_i n l c;cases D:qN l j.offset n with
    |none=>rw[D] at b;exact b.elim| some m=>
     rw[D] at b;obtain⟨Y,U,S⟩:=bDl b;generalize L:a.eval x=q at r;cases r with
     | w r=>cases r with
      | @agg _ B V=>
       obtain⟨T,Z⟩:=V.sub D
       have k:∃ i,P.info? j.type=some i/\i.size=n:=by
        unfold qm at c;cases z:P.info? j.type with
        |none=>rw[z] at c;cases c|some i=>rw[z] at c;exact⟨i,rfl,by simpa using c⟩
       obtain⟨i,z,E⟩:=k;rcases bFi U T with⟨e,J⟩|⟨e,u,C,_,J⟩
       ·refine aK (v:=.agg ((B.toList.drop j.offset).take n).toArray) (w':=w) ?_ (O.same h S (.w J));obtain⟨d,H,W⟩:=aEm e
        have I:(isAgg j.type).run P w=.ok true w:=by
         unfold isAgg;rw[Sem.run_bind,xy H w]
         cases d<;>simp_all
        have G:B.extract j.offset (j.offset+n)=((B.toList.drop j.offset).take n).toArray:=by apply GM;simp[aGV]
        simp[uu,N,L,Instr.field,xy y,g,part,I,sizeOf,Yj,z,E,asAgg,G]
       refine aK (v:=u) (w':=w) ?_ (O.same h S (.w J));have p:B[j.offset]?=some u:=by have:=congrArg (·[0]?) C;simp only[x8,YN,ZA,Yv] at this;split at this;simpa using this;cases this
       simp[uu,N,L,Instr.field,xy y,g,part,zQ e,p,asAgg]
   exact b.elim
theorem nP{t:bi}{n:Nat}(h:qm P t=some n):∃ i,P.info? t=some i/\i.size=n:=by
 unfold qm at h;cases b:P.info? t with
 |none=>rw[b] at h;cases h|some i=>rw[b] at h;exact⟨i,rfl,by simpa using h⟩
theorem aSg{t:bi}{g:Array Field}{e:Field}{f b off n:Nat}(h:P.underlying t=some (.struct g))(d:g[f]?=some e)(c:qm P e.type=some (n+1))(w:ae) :
  (Instr.fieldAt t (.pointer (some ⟨b,off,none⟩)) f).run P w=.ok (.pointer (some ⟨b,off+e.offset,none⟩)) w:=by
 obtain⟨i,k,j⟩:=nP c;simp[Instr.fieldAt,xy h,d,Instr.sureAddr,fieldPlace,sizeOf,Yj,k,j,add_lit]
theorem aPx(h:gy A s a w env){t:bi}{x:lL}{f:Nat}(V:o.op=.fieldAddr t x f){p:PV}(z:RV (aI A w env) p (a.eval x))(e:(aBm P t p f).ok none s F)(I:Fin A s a o K F):o.wp P a w K Q:=by
 unfold aBm at e;cases E:P.underlying t with
 |none=>rw[E] at e;exact e.elim| some d=>
  rw[E] at e
  cases d<;>try exact e.elim
  rename_i Z;dsimp only at e;cases l:Z[f]? with
  |none=>rw[l] at e;exact e.elim| some B=>
   rw[l] at e;dsimp only at e;split at e;rename_i n G;have u:=fun b k=>aSg (b:=b) (off:=k) E l G w;have i:∀ b k,a.eval x=.pointer (some ⟨b,k,none⟩)->(uu a.eval o).run P w=.ok (.value (.pointer (some ⟨b,k+B.offset,none⟩))) w:=fun b k J=>by simp[uu,V,J,u b k]
   generalize H:a.eval x=q at z;split at e;cases z.inv with
   |pt L m=>obtain⟨b,r,rfl⟩:=L;refine aK (i b r H) (I.same h e (.w (.one (.pt ⟨_,_,rfl⟩ (m.mono fun X ⟨g,O,N⟩=>?_)))));cases N;exact⟨b,O,rfl⟩
   cases z.inv with
   |pe L m=>obtain⟨b,r,rfl⟩:=L;refine aK (i b r H) (I.same h e (.w (.one (.pe ⟨_,_,rfl⟩ (m.mono fun X ⟨g,y,c0,O,e3,N⟩=>?_)))));cases N;exact⟨b,y,c0,O,e3,by rw[Yt]⟩
   rename_i y S f0 T D;cases z.inv with
   |@pf _ _ _ _ _ _ b r c vs U Y J W=>refine aK (i b _ H) (I.same h e (.w (.one ?_)));have:=R.pf (C:=aI A w env) (j:=D+B.offset) U Y J W;rw[show r+(T*y+D)+B.offset=r+(T*y+(D+B.offset)) from a_];exact this
   exact e.elim;exact e.elim
theorem wL{v:PV}{u:ag}(h:isLit v=some u):v=o7 u:=by unfold isLit at h;split at h;cases h;rfl;cases h
theorem xG{t e:bi}{b off n len c:Nat}{k:IntKind}{i:Int}(f:P.underlying t=some (.slice e))(d:qm P e=some n)(h0:0<=i)(h1:i<len)(w:ae) :
  (Instr.indexAt t (.slice (some ⟨b,off,none⟩) len c) (.int k i)).run P w=.ok (.pointer (some ⟨b,off+i.toNat*n,none⟩)) w:=by
 obtain⟨j,h,g⟩:=nP d;simp[Instr.indexAt,xy f,asIntOf,sizeOf,Yj,h,g,h0,h1,add_lit]
theorem oW{t e:bi}{b off n len:Nat}{k:IntKind}{i:Int}(d:P.underlying t=some (.array len e))(c:qm P e=some n)(h0:0<=i)(h1:i<len)(w:ae) :
  (Instr.indexAt t (.pointer (some ⟨b,off,none⟩)) (.int k i)).run P w=.ok (.pointer (some ⟨b,off+i.toNat*n,none⟩)) w:=by
 obtain⟨h,g,f⟩:=nP c;simp[Instr.indexAt,xy d,asIntOf,sizeOf,Yj,g,f,h0,h1,add_lit,Instr.sureAddr]
theorem aPf(h:gy A s a w env){t:bi}{x y:lL}(ho:o.op=.indexAddr t x y){p iv:PV}(I:RV (aI A w env) p (a.eval x))(hv:RV (aI A w env) iv (a.eval y))(k:(aBj P t p iv).ok none s F)(U:Fin A s a o K F):o.wp P a w K Q:=by
 unfold aBj at k;split at k
 ·rename_i kk i T;have hy:a.eval y=.int kk i:=by rw[wL T] at hv;exact hv.h_
  have l:∀ q,(Instr.indexAt t (a.eval x) (.int kk i)).run P w=.ok q w->(uu a.eval o).run P w=.ok (.value q) w:=fun q hq=>by simp[uu,ho,hy,hq]
  generalize hq:a.eval x=q at I l;cases G:P.underlying t with
  |none=>rw[G] at k;exact k.elim| some d=>
   rw[G] at k
   cases d<;>try exact k.elim
   ·rename_i e;dsimp only at k;split at k
    ·rename_i n len f;cases r:qm P e with
     |none=>rw[r] at k;exact k.elim| some Z=>
      rw[r] at k;dsimp only at k
      cases L:bu n Z<;>rw[L] at k
      exact k.elim;obtain⟨⟨E,D⟩,B⟩:=k;obtain rfl:=ig L;cases I.inv with
      |@sl _ _ _ _ _ X hr a4 O=>obtain⟨g1,A1,c,rfl,g2,g3,g4⟩:=hr;obtain⟨b,u,rfl,J⟩:=g4 a_;refine aK (l _ (xG G r E D w)) (U.same h B (.w (.one ?_)));have:=R.pf (C:=aI A w env) (n:=n) (len:=len) (f:=f) (i:=i.toNat) (j:=0) (b:=b) (o:=u) (c:=c) (vs:=X) ⟨g1,_,c,rfl,g2,g3,fun _=>⟨b,u,rfl,J⟩⟩ (a4 b rfl a_) O a_;exact this
    ·rename_i x1 z n u len;cases r:qm P e with
     |none=>rw[r] at k;exact k.elim|some Z=>
      rw[r] at k;dsimp only at k
      cases L:bu n Z<;>rw[L] at k
      exact k.elim;obtain⟨g,vr,ob,a3,k⟩:=k;have a2:=dD k;clear k;obtain⟨hg,k⟩:=a2;obtain⟨hd,O,a1⟩:=jQ h a3 hg
      cases V:bu z vr<;>cases ob<;>simp only[V] at k<;>try exact k.elim
      rename_i e' n2 a6 f;obtain rfl:=ig V;obtain rfl:=ig L;obtain⟨⟨E,D⟩,B⟩:=k;obtain⟨A0,Y,c0,rfl,a7,a0⟩:=I.AY O;obtain⟨X,S,a8⟩:=a1;rcases S.2 with⟨e0,_⟩|⟨g1,cap,cur,t',fr,e0,_⟩
      cases e0;omega;cases e0;subst a0;simp only[aBy,add_lit] at l I;refine aK (l _ (xG G r E D w)) (U.same h B (.w (.one (.pe ⟨_,_,rfl⟩ ⟨z,_,O,dC _,fun _=>⟨g1,_,_,rfl,a_,?_⟩⟩))));rw[Yd,ik,ZA]
    exact k.elim
   rename_i len e;dsimp only at k;split at k;rename_i x1 z u r;obtain⟨⟨E,D⟩,B⟩:=k;cases I.inv with
   |pt H N=>obtain⟨b,W,rfl⟩:=H;refine aK (l _ (oW G r E D w)) (U.same h B (.w (.one (.pk ⟨_,_,rfl⟩ (N.mono fun hd ⟨g,e1,e2⟩=>?_)))));cases e2;exact⟨b,e1,by rw[Yy]⟩
   rename_i Y a5 f i0 j r;obtain⟨⟨E,D⟩,B⟩:=k;cases I.inv with
   |@pf _ _ _ _ _ _ b W c X hr L O hi=>refine aK (l _ (oW G r E D w)) (U.same h B (.w (.one ?_)));have:=R.pf (C:=aI A w env) (i:=i0) (j:=j+i.toNat) hr L O hi;rw[show W+(i0*Y+j)+i.toNat*1=W+(i0*Y+(j+i.toNat)) from a_];exact this
   rename_i m x1 z u r;obtain⟨⟨E,D⟩,B⟩:=k;cases I.inv with
   |pt H N=>obtain⟨b,W,rfl⟩:=H;refine aK (l _ (oW G r E D w)) (U.same h B (.w (.one (.pt ⟨_,_,rfl⟩ (N.mono fun hd ⟨g,e1,e2⟩=>?_)))));cases e2;exact⟨b,e1,rfl⟩
   exact k.elim
 exact k.elim
theorem RV.Dh{C:Ctx}{n len:Nat}{f:Nat->dw}{v:ag}(h:RV C (.w (.one (.sl n len f))) v):∃ A c,v=.slice A len c:=by
 cases h.inv with
 |sl b _ _=>obtain⟨_,A,c,rfl,_⟩:=b;exact⟨_,_,rfl⟩
theorem Wj(h:gy A s a w env){x:lL}{t:bi}(p:o.op=.call { callee:=.builtin .len,args:=#[x],argTypes:=#[t] }){v:PV}(i:RV (aI A w env) v (a.eval x))(g:(Wl P t v).ok none s F)(j:Fin A s a o K F):o.wp P a w K Q:=by
 have d:∀ n:Int,(Builtin.len_ #[t] o.type #[a.eval x]).run P w=.ok (goInt n) w->(uu a.eval o).run P w=.ok (.value (.int .i64 n)) w:=fun n m=>by simp only[uu,p,resolve,ZL,builtin,Sem.run_bind,Sem.run_pure,Result.andThen_ok,aBc,DD,ZY,m];rfl
 unfold Wl at g;generalize r:a.eval x=q at i d;split at g;rename_i e _ len _ f;obtain⟨l,c,rfl⟩:=i.Dh;exact aK (d len (by simp[Builtin.len_,xy f])) (j.same h g (.w (.one (.lit rfl))));rename_i e _ _ _ _ len f;cases i.inv with
 |ow k _=>obtain⟨l,c,rfl⟩:=k;exact aK (d len (by simp[Builtin.len_,xy f])) (j.same h g (.w (.one (.lit rfl))))
 rename_i e _ _ _ len f;cases i.inv with
 |ob k _=>obtain⟨l,c,rfl⟩:=k;exact aK (d len (by simp[Builtin.len_,xy f])) (j.same h g (.w (.one (.lit rfl))))
 rename_i e f;have:=i.h_;subst this;exact aK (d 0 (by simp[Builtin.len_,xy f])) (j.same h g (.w (.one (.lit rfl))));rename_i b f;have:=i.h_;subst this;exact aK (d b.size (by simp[Builtin.len_,xy f])) (j.same h g (.w (.one (.lit rfl))));exact g.elim
theorem aIx(off:Nat):∀ (b:ji) (k:Nat) (cells:kw),off+k+b.length<=cells.size ->
  (b.zipIdx k).foldl (fun l p=>l.setIfInBounds (off+p.2) p.1) cells=(over cells.toList (off+k) b).toArray
 |[],k,cells,h=>by simp[over]| y::b,k,cells,h=>by
  rw[List.zipIdx_cons,List.foldl_cons,aIx off b (k+1) _ (by simp at h ⊢;omega)];apply GM;apply YZ;intro i;simp only[zl] at h;have d:cells.toList.length=cells.size:=uA;have c:off+(k+1)+b.length<=(cells.setIfInBounds (off+k) y).toList.length:=by have:(cells.setIfInBounds (off+k) y).toList.length=cells.size:=b_;omega
  have j:=eH (xs:=(cells.setIfInBounds (off+k) y).toList) (ys:=b) (off:=off+(k+1)) c i;have g:=eH (xs:=cells.toList) (ys:=y::b) (off:=off+k) (by rw[d,zl];omega) i;rw[j,g,Array.toList_setIfInBounds,List.getElem?_set];simp only[zl];by_cases f:off+(k+1)<=i/\i<off+(k+1)+b.length;rw[au f,au a_,show i-(off+k)=(i-(off+(k+1)))+1 from a_,List.getElem?_cons_succ];rw[ay f];by_cases e:off+k=i;subst e;rw[au rfl,au a_,au a_,Yf,Yv];rw[ay e,ay a_]
theorem aGb(cells:kw)(v:ag)(off:Nat)(h:off+v.cells.size<=cells.size):v.cells.zipIdx.foldl (fun b (c,j)=>b.setIfInBounds (off+j) c) cells=(over cells.toList off v.cells.toList).toArray:=by have:=aIx off v.cells.toList 0 cells (by simpa using h);rw[<-Array.foldl_toList,Array.toList_zipIdx];exact this
def aJu(C:Ctx)(a:Act):List (Nat×PV)->List (Nat×lL)->Prop
 |[],[]=>True|(i,v)::vs,(j,x)::l=>i=j/\RV C v (a.eval x)/\aJu C a vs l|_,_=>False
theorem RL.Zq{C:Ctx}{m:Nat}{b:dh}{xs:ji}(h:RL C [.bs m b] xs):b.length=m/\xs=b.map ql:=by
 cases h with
 |cons e d=>cases d;cases e with|bs c=>exact⟨c,b_⟩
theorem aBo(h:gy A s a w env):∀ {l:List (Nat×lL)} {k:List (Nat×PV)->M},(aLu l k).ok none s F->∃ b,aJu (aI A w env) a b l/\(k b).ok none s F
 |[],k,e=>⟨[],trivial,e⟩|(i,x)::l,k,e=>by obtain⟨pv,g,d⟩:=fC h e;obtain⟨b,f,c⟩:=aBo h d;exact⟨(i,pv)::b,⟨rfl,g,f⟩,c⟩
def PI(C:Ctx)(a:Act):jl->List lL->Prop
 |[],[]=>True|v::vs,x::l=>RV C v (a.eval x)/\PI C a vs l|_,_=>False
theorem aDi(h:gy A s a w env):∀ {l:List lL} {k:jl->M},(bHo l k).ok none s F->∃ b,PI (aI A w env) a b l/\(k b).ok none s F
 |[],k,e=>⟨[],trivial,e⟩|x::l,k,e=>by obtain⟨pv,g,d⟩:=fC h e;obtain⟨b,f,c⟩:=aDi h d;exact⟨pv::b,⟨g,f⟩,c⟩
theorem aPw{C:Ctx}{b:List (Nat×Nat)}:∀ {k:List (Nat×PV)} {l:List (Nat×lL)} {d h:dw} {cells:kw},aJu C a k l->RL C d cells.toList->aJa b k d=some h ->
  ∃ cells',Instr.fill (b[·]?) cells (l.map fun q=>(q.1,a.eval q.2))=some cells'/\RL C h cells'.toList
 |[],[],d,h,cells,_,t,c=>by simp[aJa] at c;subst c;exact⟨cells,rfl,t⟩|[],_::_,_,_,_,g,_,_=>g.elim|_::_,[],_,_,_,g,_,_=>g.elim| (i,v)::k,(j,x)::l,d,h,cells,g,t,c=>by
  obtain⟨rfl,r,g⟩:=g;unfold aJa at c
  cases v<;>try (simp at c;done)
  rename_i u;cases f:b[i]? with
  |none=>rw[f] at c;simp at c| some q=>
   obtain⟨e,n⟩:=q;rw[f] at c;dsimp only at c
   cases B:bu n (widths u.cells)<;>cases y:splice d e u.cells<;>simp only[B,y] at c<;>try (cases c;done)
   rename_i m;cases r with
   |w r=>
    have z:=r.cells';obtain⟨E,D⟩:=aEg t z y;have I:(a.eval x).cells.size=n:=by rw[ig B,<-z.width,uA]
    have p:e+(a.eval x).cells.size<=cells.size:=by simpa using D
    obtain⟨cells',H,G⟩:=aPw (cells:=(over cells.toList e (a.eval x).cells.toList).toArray) g (by simpa using E) c;refine⟨cells',?_,G⟩;rw[DD,Instr.fill];dsimp only;rw[f];dsimp only;rw[ay jr,aGb cells _ e p];exact H
theorem OH(h:gy A s a w env){t:bi}{g:Array (Nat×lL)}(ho:o.op=.build t g){vs:List (Nat×PV)}(U:aJu (aI A w env) a vs g.toList){l:dw}(hz:YB P t=some l)(k:(bIv P t vs l).ok none s F)(V:Fin A s a o K F):o.wp P a w K Q:=by
 obtain⟨i,z,hi,L,hr⟩:=aDn (C:=aI A w env) hz;unfold bIv at k;have p:∀ cells,P.built t (g.map fun x=>(x.1,a.eval x.2)).toList=some cells->(uu a.eval o).run P w=.ok (.value (.agg cells)) w:=fun cells hb=>by simp[uu,ho,run_build w t _ cells hb]
 cases T:P.underlying t with
 |none=>rw[T] at k;exact k.elim| some d=>
  rw[T] at k
  cases d<;>try exact k.elim
  rename_i n e;dsimp only at k;split at k;rename_i m B a1;obtain⟨S,a3,O⟩:=nP a1;have c:=hr.Zq;have a5:z.cells.size=m:=by rw[<-uA,c.2,YU,c.1]
  have a4:z.cells=(B.map ql).toArray:=by apply GM;simpa using c.2
  have u:∀ (l:dh) (i:Nat) (b:Int),l.length=m->i<m->0<=b->b<256->Instr.fill (fun i=>some (i*S.size,S.size)) (l.map ql).toArray [(i,.int .u8 b)]=some ((l.set i (uB b.toNat)).map ql).toArray:=by
   intro l i b hl hi h0 h1;have a0:ql (uB b.toNat)=.int .u8 b:=by show ed .u8 (((uB b.toNat).toNat:Nat):Int)=.int .u8 b;rw[UInt8.toNat_ofNat_of_lt' (show b.toNat<256 by omega)];congr 1;omega
   rw[O,Instr.fill];dsimp only;rw[Yy,ay (by simp[Value.cells];omega),Instr.fill,aGb _ _ _ (by simp[Value.cells];omega)];congr 2;have:=bEl l i (uB b.toNat) [] a_;rw[Lt,Lt,ik,a0] at this;exact this
  have q:∀ W cells,Instr.fill (fun i=>some (i*S.size,S.size)) (B.map ql).toArray W=some cells->P.built t W=some cells:=by intro W cells r;unfold Program.built;simp only[hi,T,L,a3,a4];exact r
  split at k
  match r:g.toList,U with
  |[],_=>refine aK (p (B.map ql).toArray ?_) (V.same h k (.w (.agg (by simpa using RL.cons (R.bs c.1) RL.nil))));refine q _ _ ?_;rw[aFP,r];rfl
  rename_i E G;obtain⟨⟨c1,c2,c3⟩,hF⟩:=k
  match r:g.toList,U with
  |[(j,x)],⟨H,Z,_⟩=>subst H;refine aK (p ((B.set E (uB G.toNat)).map ql).toArray ?_) (V.same h hF (.w (.agg (by simpa using RL.cons (R.bs (show (B.set E (uB G.toNat)).length=m by rw[Yb];exact c.1)) RL.nil))));refine q _ _ ?_;rw[aFP,r,DD,ZY,Z.h_];exact u B E G c.1 c1 c2 c3|(_::_::_),h=>exact h.2.2.elim
  rename_i E G X b2;obtain⟨⟨c1,d1,c2,c3,d2,d3⟩,hF⟩:=k
  match r:g.toList,U with
  |[(j,x),(j2,y)],⟨H,Z,N,Y,_⟩=>subst H N;refine aK (p (((B.set E (uB G.toNat)).set X (uB b2.toNat)).map ql).toArray ?_) (V.same h hF (.w (.agg (by simpa using RL.cons (R.bs (show ((B.set E (uB G.toNat)).set X (uB b2.toNat)).length=m by rw[Yb,Yb];exact c.1)) RL.nil))));refine q _ _ ?_;rw[aFP,r,DD,DD,ZY,Z.h_,Y.h_];have J:=u B E G c.1 c1 c2 c3;have e2:=u (B.set E (uB G.toNat)) X b2 (by rw[Yb];exact c.1) d1 d2 d3;rw[Instr.fill] at J ⊢;dsimp only at J ⊢;split at J;cases J;rename_i a2;rw[ay a2];rw[Instr.fill] at J;have e3:=Option.some.inj J;rw[e3];exact e2|[_],h=>exact h.2.2.elim|(_::_::_::_),h=>exact h.2.2.2.2.elim
  exact k.elim;exact k.elim;rename_i fs;dsimp only at k;cases hm:fs.toList.mapM (fun f=>(P.info? f.type).map fun i=>(f.offset,i.size)) with
  |none=>rw[hm] at k;exact k.elim| some D=>
   rw[hm] at k;dsimp only at k;cases I:aJa D vs l with
   |none=>rw[I] at k;exact k.elim|some l'=>rw[I] at k;obtain⟨cells',h1,h2⟩:=aPw U hr I;refine aK (p cells' ?_) (V.same h k (.w (.agg h2)));unfold Program.built;simp only[hi,T,L,hm];rw[<-h1];simp
theorem aAy{t e n b:Nat}(h:zJ P t=some (e,n,b)):BF P t e n b:=by
 unfold zJ at h;cases f:P.underlying t with
 |none=>rw[f] at h;cases h| some d=>
  rw[f] at h
  cases d<;>try (cases h;done)
  rename_i q;dsimp only at h;cases g:P.info? q with
  |none=>rw[g] at h;cases h| some i=>
   rw[g] at h;dsimp only at h;cases c:i.zero with
   |none=>rw[c] at h;cases h|some z=>
    rw[c] at h;dsimp only at h
    cases p:bu z.cells.size i.size<;>cases m:Hm 0 i.size<;>cases l:Hm 0 i.bytes<;>simp only[p,m,l] at h<;>try (cases h;done)
    cases h;have k:1<=i.size:=by simpa[Hm] using m
    have j:1<=i.bytes:=by simpa[Hm] using l
    exact⟨f,⟨i,z,g,c,rfl,rfl,ig p⟩,k,j⟩
theorem gy.KE(h:gy A s a w env)(d:Nat)(n len cap:Nat){t:bi}{k:Nat×Nat}{f:Nat->dw}{cs:kw}{xs:ji}(m:xs.length=len*n)(hc:len<=cap)(q:cap<=uk)(j:cs.size=cap*n)(p:cs.toList.take (len*n)=xs)
  (hr:∀ i,i<len->RL (aI A w env) (f i) ((xs.drop (i*n)).take n)) {w':ae} (x:Ext w w') (l:w'.heap[w.heap.size]?=some (.cells cs t k)) (g:cs.size<=k.1) :
  ∃ c,gy A { s with o:=[(d,none,fresh s d,.arr G7 n len f)]++s.o } a w' c/\RV (aI A w' c) (dm (.ow d (fresh s d) n 0 len)) (.slice (some ⟨w.heap.size,0,none⟩) len cap):=by
 obtain⟨y,z⟩:=h.new (w':=w') d none (.slice (some ⟨w.heap.size,0,none⟩) len cap) (.arr G7 n len f) x (fun b u=>by cases u;exact⟨lt_of_heap l,dC _⟩)
  (fun e _=>⟨xs,⟨m,.inr ⟨_,cap,cs,t,k,rfl,l,.inr ⟨rfl,g⟩,hc,q,j,p⟩⟩,fun i r=>(hr i r).le e⟩)
 refine⟨_,y,.w (.one (.ow ⟨_,_,rfl⟩ ⟨_,_,fO _ _ _ _,dC _,fun _=>⟨_,_,_,rfl,a_,?_⟩⟩))⟩;simp[add_lit]
theorem gy.F_(h:gy A s a w env)(d:Nat)(e n len cap:Nat){f:Nat->dw}{cs:kw}{xs:ji}(l:xs.length=len*n)(hc:len<=cap)(p:cap<=uk)(j:cs.size=cap*n)(m:cs.toList.take (len*n)=xs)
  (hr:∀ i,i<len->RL (aI A w env) (f i) ((xs.drop (i*n)).take n)) {w':ae} (t:Ext w w') (k:w'.heap[w.heap.size]?=some (.cells cs e (0,0))) :
  ∃ c,gy A { s with o:=[(d,none,fresh s d,.arr e n len f)]++s.o } a w' c/\RV (aI A w' c) (dm (.ow d (fresh s d) n 0 len)) (.slice (some ⟨w.heap.size,0,none⟩) len cap):=by
 obtain⟨u,x⟩:=h.new (w':=w') d none (.slice (some ⟨w.heap.size,0,none⟩) len cap) (.arr e n len f) t (fun b r=>by cases r;exact⟨lt_of_heap k,dC _⟩)
  (fun g _=>⟨xs,⟨l,.inr ⟨_,cap,cs,e,(0,0),rfl,k,.inl ⟨rfl,rfl⟩,hc,p,j,m⟩⟩,fun i q=>(hr i q).le g⟩)
 refine⟨_,u,.w (.one (.ow ⟨_,_,rfl⟩ ⟨_,_,fO _ _ _ _,dC _,fun _=>⟨_,_,_,rfl,a_,?_⟩⟩))⟩;simp[add_lit]
theorem aFb{C:Ctx}{n:Nat}:∀ {c:List (Nat×PV)} {l:List (Nat×lL)} {k:Nat} {b:List dw} {cells:kw},aJu C a c l->Y9 n k c=some b->(k+c.length)*n<=cells.size ->
  ∃ h:ji,Instr.fill (fun i=>some (i*n,n)) cells (l.map fun q=>(q.1,a.eval q.2))=some (over cells.toList (k*n) h).toArray/\h.length=c.length*n/\b.length=c.length/\∀ i,i<b.length->RL C (b.getD i []) ((h.drop (i*n)).take n)
 |[],[],k,b,cells,_,e,_=>by simp[Y9] at e;subst e;exact⟨[],by simp[Instr.fill,over],b_,rfl,fun i J=>by simp at J⟩|[],_::_,_,_,_,m,_,_=>m.elim|_::_,[],_,_,_,m,_,_=>m.elim| (i,v)::c,(j,x)::l,k,b,cells,m,e,hsz=>by
  obtain⟨rfl,u,m⟩:=m;unfold Y9 at e
  cases B:bu i k<;>cases v<;>cases y:Y9 n (k+1) c<;>simp only[B,y] at e<;>try (cases e;done)
  rename_i G r
  cases p:bu (widths G.cells) n<;>rw[p] at e
  cases e;cases e;obtain rfl:=ig B;cases u with
  | w u=>
   have z:=u.cells';have g:(a.eval x).cells.toList.length=n:=by rw[z.width,ig p]
   have I:(a.eval x).cells.size=n:=by rw[<-uA];exact g
   simp only[zl] at hsz;have f:cells.toList.length=cells.size:=uA;have V:(i+(c.length+1))*n=i*n+n+c.length*n:=by rw[Yd,Yd,ZH];omega
   have U:(i+1)*n=i*n+n:=by rw[Yd,ZH]
   have T:(i+1+c.length)*n=i*n+n+c.length*n:=by rw[Yd,Yd,ZH]
   have d:(over cells.toList (i*n) (a.eval x).cells.toList).length=cells.size:=by rw[nC (by rw[g,f];omega),f]
   obtain⟨h,O,t,N,L⟩:=aFb (cells:=(over cells.toList (i*n) (a.eval x).cells.toList).toArray) m y (by rw[Yx,d];omega);refine⟨(a.eval x).cells.toList++h,?_,by rw[gp,g,t,zl,Yd,ZH,ZB],by simp[N],fun q H=>?_⟩;rw[DD,Instr.fill];dsimp only;rw[ay jr,aGb cells _ (i*n) a_,O];congr 2;simp only[] at d ⊢;apply YZ;intro q;rw[eH (by rw[d,t];omega),eH (by rw[g,f];omega),eH (by rw[gp,g,t,f];omega)];rw[gp,g,t];by_cases E:(i+1)*n<=q/\q<(i+1)*n+c.length*n;rw[au E,au a_,List.getElem?_append_right a_,g];congr 1;omega;rw[ay E];by_cases D:i*n<=q/\q<i*n+n;rw[au D,au a_,List.getElem?_append_left a_];rw[ay D,ay a_];cases q with
   |zero=>rw[aAH,List.drop_zero,aAW a_,List.take_of_length_le a_];exact z| succ q=>
    have:=L q (by simpa using H);have S:((a.eval x).cells.toList++h).drop ((q+1)*n)=h.drop (q*n):=by rw[show (q+1)*n=n+q*n from by rw[Yd,ZH];exact ZB _ _,<-aAV,List.drop_left' g]
    rw[List.getD_cons_succ,S];exact this
theorem aMi(h:gy A s a w env){G:Nat}{t len:Nat}{b:Array (Nat×lL)}(J:o.op=.buildSlice t len b){vs:List (Nat×PV)}(V:aJu (aI A w env) a vs b.toList)(f:(yO P G t len vs).ok none s F)(X:Fin A s a o K F):o.wp P a w K Q:=by
 unfold yO at f;cases g:zJ P t with
 |none=>rw[g] at f;exact f.elim| some q=>
  obtain⟨e,n,a0⟩:=q;rw[g] at f;dsimp only at f
  cases m:Y9 n 0 vs<;>cases L:bu vs.length len<;>cases r:ZC (len*n) 16777216<;>simp only[m,L,r] at f<;>try exact f.elim
  rename_i O;obtain⟨H,⟨S,z,B,U,c,Y,T⟩,l,Z⟩:=aAy g;obtain rfl:=ig L;have p:vs.length*n<=16777216:=Yp r;obtain⟨d,y,u,h3,h4⟩:=aFb (a:=a) (k:=0) (cells:=(Array.range (vs.length*n)).map (z.cells[· % z.cells.size]!)) V m b_;rw[aAH] at y;have D:(over ((Array.range (vs.length*n)).map (z.cells[· % z.cells.size]!)).toList 0 d)=d:=by unfold over;rw[List.take_zero,Ha,ik,List.drop_of_length_le (by simp[u]),Lt]
  rw[D] at y;have W:vs.length<=16777216:=PP (Nat.le_mul_of_pos_right _ l) p;obtain⟨N,g1,g2⟩:=h.F_ G e n vs.length vs.length (cs:=d.toArray) (xs:=d) u (dC _) (by unfold uk;omega) (by simpa using u) (by rw[List.toList_toArray,<-u,List.take_length]) (fun i B=>h4 i (by rw[h3];exact B)) (w':=w.alloc (.cells d.toArray e)) ((Ext.refl w).alloc _) (aAu w _);refine aK (v:=.slice (some ⟨w.heap.size,0,none⟩) vs.length vs.length) (w':=w.alloc (.cells d.toArray e)) ?_ (X _ _ _ _ _ f g1 g2);by_cases C:vs.length*n=0;have j:d=[]:=List.eq_nil_of_length_eq_zero (by rw[u];exact C);have I:(b.map fun x=>(x.1,a.eval x.2)).toList=b.toList.map fun x=>(x.1,a.eval x.2):=b_;have E:Instr.fill (fun i=>some (i*n,n)) #[] (b.toList.map fun x=>(x.1,a.eval x.2))=some #[]:=by rw[C,j,show Array.range 0=#[] from rfl] at y;simpa using y
  simp[uu,J,Instr.buildSlice,xy H,sizeOf,Yj,B,c,C,newRow,j,show Array.range 0=(#[]:Array Nat) from rfl,E];have:=run_buildSlice (P:=P) w t e vs.length (b.map fun x=>(x.1,a.eval x.2)) d.toArray S z H B U (by rw[c];omega) (by rw[c];exact C) (by rw[c];simpa using y);simp[uu,J,this]
def Bnd(d:Int)(x:Option ag)(i:Int):Prop:=(x=none/\i=d)\/∃ k,x=some (.int k i)
theorem uU{len cap:Nat}{c d:Option ag}{l h:Int}(f:Bnd 0 c l)(e:Bnd len d h)(h0:0<=l)(h1:l<=h)(h2:h<=len)(hc:len<=cap)(b:Bool)(w:ae) :
  (Instr.sliceBounds b len cap c d none).run P w=.ok (l.toNat,h.toNat,cap) w:=by
 rcases f with⟨rfl,rfl⟩|⟨k,rfl⟩<;>rcases e with⟨rfl,rfl⟩|⟨g,rfl⟩
 simp[Instr.sliceBounds];simp[Instr.sliceBounds,Instr.sliceBound,asIntOf,show 0<=h by omega,show h<=(cap:Int) by omega];simp[Instr.sliceBounds,Instr.sliceBound,asIntOf,h0,show l<=(len:Int) by omega];simp[Instr.sliceBounds,Instr.sliceBound,asIntOf,show 0<=h by omega,show h<=(cap:Int) by omega,h0,show l<=max h 0 by omega]
def U2(C:Ctx)(a:Act):Option lL->Option PV->Prop
 |none,none=>True|some x,some v=>RV C v (a.eval x)|_,_=>False
theorem aXb(h:gy A s a w env){x:Option lL}{k:Option PV->M}(b:(NH x k).ok none s F):∃ pv,U2 (aI A w env) a x pv/\(k pv).ok none s F:=by
 cases x with
 |none=>exact⟨none,trivial,b⟩|some x=>obtain⟨pv,d,c⟩:=fC h b;exact⟨some pv,d,c⟩
theorem jT(vs:ji){n l m i:Nat}(c:i<m):((((vs.drop (l*n)).take (m*n)).drop (i*n)).take n)=(vs.drop ((l+i)*n)).take n:=by apply YZ;intro q;have d:(i+1)*n<=m*n:=Ym n c;rw[Yd,ZH] at d;have e:(l+i)*n=l*n+i*n:=Yd _ _ _;rw[x8,YN,x8,YN,x8,YN];by_cases b:q<n;rw[au b,au b,au a_];congr 1;omega;rw[ay b,ay b]
theorem Il(h:gy A s a w env){t:bi}{x:lL}{T hi:Option lL}(ho:o.op=.slice t x T hi none){p:PV}(hp:RV (aI A w env) p (a.eval x)){lv hv:Option PV}
  (hl:U2 (aI A w env) a T lv) (N:U2 (aI A w env) a hi hv)
  (r:(bCu P t p lv hv).ok none s F) (hf:Fin A s a o K F):o.wp P a w K Q:=by
 have B:∀ {d:Int} {x:Option lL} {xv:Option PV} {k:Int->M},U2 (aI A w env) a x xv ->
   (GN d xv k).ok none s F->∃ i,Bnd d (x.map a.eval) i/\(k i).ok none s F:=by
  intro d x xv k hx r;unfold GN at r
  cases x<;>cases xv<;>try exact hx.elim
  exact⟨d,.inl ⟨rfl,rfl⟩,r⟩;rename_i x v;dsimp only at r;split at r;rename_i kk i Y;rw[wL Y] at hx;have:a.eval x=.int kk i:=RV.h_ (show RV _ _ _ from hx);exact⟨i,.inr ⟨kk,by rw[aBy,this]⟩,r⟩;exact r.elim
 unfold bCu at r;cases H:P.underlying t with
 |none=>rw[H] at r;exact r.elim| some d=>
  rw[H] at r
  cases d<;>try exact r.elim
  dsimp only at r;split at r;rename_i b;have z:=B (x:=T) hl r;clear r;obtain⟨l,O,r⟩:=z;have z:=B (x:=hi) N r;clear r;obtain⟨y,S,r⟩:=z;obtain⟨⟨h0,h1,h2⟩,hF⟩:=r;have hq:=hp.h_;have D:=uU (P:=P) (cap:=b.size) O S h0 h1 h2 (dC _) false w;refine aK (v:=.string (b.extract l.toNat y.toNat)) (w':=w) ?_ (hf.same h hF (.w (.one (.lit rfl))));have a4:∀ m e',P.underlying t≠some (.array m e'):=by rw[H];intro m e' N;cases N
  simp[uu,ho,hq,Instr.sliceAt,xy H,Instr.slice,D];exact r.elim
  ·rename_i e;dsimp only at r;split at r
   ·rename_i n len f;cases C:qm P e with
    |none=>rw[C] at r;exact r.elim| some n'=>
     rw[C] at r;dsimp only at r
     cases hb:bu n n'<;>rw[hb] at r
     exact r.elim;obtain rfl:=ig hb;dsimp only at r;have z:=B (x:=T) hl r;clear r;obtain⟨l,O,r⟩:=z;have z:=B (x:=hi) N r;clear r;obtain⟨y,S,r⟩:=z;obtain⟨⟨h0,h1,h2⟩,hF⟩:=r;generalize hq:a.eval x=q at hp;cases hp.inv with
     |@sl _ _ _ _ _ vs hr b0 he=>
      obtain⟨g1,A1,c,rfl,g2,g3,g4⟩:=hr;obtain⟨ie,G,I⟩:=nP C;have D:=uU (P:=P) (cap:=c) O S h0 h1 h2 g2 true w;refine aK (v:=.slice (if c=l.toNat then A1 else A1.map (·.add (l.toNat*n))) (y.toNat-l.toNat) (c-l.toNat)) (w':=w) ?_ (hf.same h hF (.w (.one ?_)));have a4:∀ m e',P.underlying t≠some (.array m e'):=by rw[H];intro m e' N;cases N
      simp[uu,ho,hq,Instr.sliceAt,xy H,Instr.slice,D,sizeOf,Yj,G,I];have V:(y-l).toNat=y.toNat-l.toNat:=a_;rw[V];have b1:y.toNat<=len:=a_;have W:(l.toNat+(y.toNat-l.toNat))*n<=len*n:=Ym n a_;rw[Yd] at W;refine R.sl (vs:=(vs.drop (l.toNat*n)).take ((y.toNat-l.toNat)*n)) ⟨jr,_,_,rfl,a_,a_,fun a6=>?_⟩ (fun g hg a6=>?_) (fun i a8=>?_);obtain⟨b,o1,rfl,E⟩:=g4 a_;rw[ay a_];refine⟨b,o1+l.toNat*n,by simp[add_lit],fun j u Z=>?_⟩;rw[x8] at Z;split at Z;rw[YN] at Z;have:=E _ u Z;rwa [<-Yt] at this;cases Z;obtain⟨b,o1,rfl,E⟩:=g4 a_;rw[ay a_] at hg;simp only[aBy,add_lit,Yz,Option.some.injEq] at hg;subst hg;exact b0 b rfl a_;rw[jT vs a8];exact he _ a_
   exact r.elim
  ·rename_i n e;dsimp only at r;split at r
   ·rename_i x1 J L C;obtain⟨g,vr,ob,a9,r⟩:=r;have a7:=dD r;clear r;obtain⟨hg,r⟩:=a7;obtain⟨hd,a0,a3⟩:=jQ h a9 hg
    cases hb:bu J vr<;>cases ob<;>simp only[hb] at r<;>try exact r.elim
    rename_i bt l;obtain rfl:=ig hb;cases hs:yh l L with
    |none=>rw[hs] at r;exact r.elim| some q=>
     obtain⟨m,bs⟩:=q;rw[hs] at r;dsimp only at r
     cases a2:bu m n<;>cases a1:ZC n 65536<;>simp only[a2,a1] at r<;>try exact r.elim
     obtain rfl:=ig a2;obtain⟨ie,G,I⟩:=nP C;obtain⟨g1,rfl,U⟩:=hp.BJ a0
     cases T<;>cases hi<;>try (first|exact hl.elim|exact N.elim)
     obtain⟨g2,cs,e2,hB,hR⟩:=a3;cases e2;obtain⟨k1,k2,k3⟩:=oO hR hs;have hF:F none (dm (.ob x1 J L m)) []:=r;have a5:m<=uk:=by have:=Yp a1;unfold uk;omega
     refine aK (v:=.slice (some ⟨g1,L,none⟩) m m) (w':=w) ?_ (hf.same h hF (.w (.one (.ob ⟨_,_,rfl⟩ ⟨J,_,a0,dC _,fun _=>⟨g1,m,rfl,dC _,a5,rfl⟩⟩))));by_cases X:m=0;subst X;simp[uu,ho,U,Instr.sliceAt,xy H,Instr.sureAddr,Instr.sliceBounds,sizeOf,Yj,G];simp[uu,ho,U,Instr.sliceAt,xy H,Instr.sureAddr,Instr.sliceBounds,sizeOf,Yj,G,Addr.add]
   exact r.elim
theorem mY{w:ae}{n len off m:Nat}{f:Option Addr}{d:Nat}{vs:ji}(hn:off+m<=len)(h:Reads w n (.slice f len d) len vs):Reads w n (.slice (f.map (·.add (off*n))) m (d-off)) m ((vs.drop (off*n)).take (m*n)):=by obtain⟨r,x,t,e,q,p,k⟩:=h;cases e;have g:(off+m)*n<=len*n:=Ym n hn;rw[Yd] at g;refine⟨jr,_,_,rfl,a_,a_,fun l=>?_⟩;obtain⟨b,o,rfl,i⟩:=k a_;refine⟨b,o+off*n,by simp[add_lit],fun j u c=>?_⟩;rw[x8] at c;split at c;rw[YN] at c;have:=i _ u c;rwa [<-Yt] at this;cases c
theorem nV(C:Ctx)(l:dh)(i:Nat)(b:i<l.length):RL C (su l i) (((l.map ql).drop (i*1)).take 1):=by
 have:((l.map ql).drop (i*1)).take 1=[ql (l.getD i 0)]:=by
  apply YZ;intro q;rw[x8,YN,Yy];cases q with
  |zero=>rw[au a_,ZA,qE l i b];rfl|succ q=>rw[ay a_];simp
 rw[this];exact .cons (.lit rfl) .nil
theorem TK(C:Ctx):C.cold.Le C:=⟨dC _,fun _ _ h=>⟨h,rfl⟩,fun _ _ _ h=>by cases h⟩
theorem sG{C:Ctx}{n m:Nat}{f:Nat->dw}{b:ji}(hl:b.length=m*n)(h:∀ i,i<m->RL C (f i) ((b.drop (i*n)).take n)):fG b:=by
 intro u e;obtain⟨j,d,rfl⟩:=List.mem_iff_getElem.1 e;have g:0<n:=by rcases ZP n with c|c;rw[c,Nat.mul_zero] at hl;omega;exact c
 have k:j / n<m:=Nat.div_lt_of_lt_mul (by rw[aFc,<-hl];exact d);refine (h (j / n) k).ones _ ?_;have p:j / n*n+j % n=j:=Nat.div_add_mod' j n;have l:j % n<n:=Nat.mod_lt _ g;refine ZO (i:=j % n) ?_;rw[x8,au l,YN,p,zH d]
theorem src_ok(h:gy A s a w env){n:Nat}{v:PV}{val:ag}(S:RV (aI A w env) v val){k:Nat->(Nat->dw)->M}(b:(Ic n v k).ok none s F) :
  ∃ m f y,Reads w n val m y/\(∀ i,i<m->RL (aI A w env) (f i) ((y.drop (i*n)).take n))/\(k m f).ok none s F:=by
 unfold Ic at b;split at b
 ·rename_i Y len f
  cases z:bu n Y<;>rw[z] at b
  exact b.elim;obtain rfl:=ig z;cases S.inv with
  |sl hr b3 he=>exact⟨len,f,_,hr,fun i N=>(he i N).le (TK _),b⟩
 ·rename_i x B Y d len;obtain⟨g,W,X,E,b⟩:=b;have D:=dD b;clear b;obtain⟨hg,b⟩:=D;obtain⟨hd,G,C⟩:=jQ h E hg
  cases z:bu B W<;>cases r:bu n Y<;>cases X<;>simp only[z,r] at b<;>try exact b.elim
  rename_i e m J f;obtain rfl:=ig z;obtain rfl:=ig r
  cases O:bu n m<;>rw[O] at b
  exact b.elim;obtain rfl:=ig O;obtain⟨a1,b⟩:=b;have L:d+len<=J:=a1;obtain⟨A0,n0,c0,rfl,a6,rfl⟩:=S.AY G;obtain⟨vs,p,a2⟩:=C;refine⟨len,_,(vs.drop (d*n)).take (len*n),?_,fun i N=>?_,b⟩;have hm:(d+len)*n<=J*n:=Ym n L;rw[Yd] at hm;have a7:=p.1;rcases p.2 with⟨U,rfl⟩|⟨T,cap,cur,t',fr,U,a9,b0,a8,b2,b1,Z⟩;cases U;have h0:len=0:=a_;subst h0;have h1:d=0:=a_;subst h1
  exact⟨b_,_,_,rfl,a_,a_,fun h=>a_⟩;have t:=aOo (g:=T) (by rw[<-U];exact p);cases U;refine⟨jr,_,_,rfl,a_,a_,fun hn=>⟨T,d*n,by simp[add_lit],fun j u I=>?_⟩⟩;have:=jI t (d*n) (len*n) j u I;rwa [ik] at this;rw[jT vs N];exact a2 _ a_
 ·rename_i x B d len;obtain⟨g,W,X,E,b⟩:=b;have D:=dD b;clear b;obtain⟨hg,b⟩:=D;obtain⟨hd,G,C⟩:=jQ h E hg
  cases z:bu B W<;>cases r:bu n 1<;>cases X<;>simp only[z,r] at b<;>try exact b.elim
  rename_i bt l;obtain rfl:=ig z;obtain rfl:=ig r;cases hs:yh l d with
  |none=>rw[hs] at b;exact b.elim| some q=>
   obtain⟨m,V⟩:=q;rw[hs] at b;obtain⟨a0,b⟩:=b;have a5:len<=m:=a0;obtain⟨T,c,rfl,a4,a3,rfl⟩:=S.Jw G;obtain⟨g2,cs,e2,hB,hR⟩:=C;cases e2;obtain⟨k1,k2,k3⟩:=oO hR hs;have t:=jI hB.range d m;rw[ik,k2] at t;refine⟨len,_,(V.map ql).take len,⟨jr,_,c,rfl,a4,a3,fun hn=>⟨T,d,rfl,fun j u I=>?_⟩⟩,fun i N=>?_,b⟩;rw[x8] at I;split at I;exact t j u I;cases I;have H:=qE V i a_
   have e1:(((V.map ql).take len).drop (i*1)).take 1=[ql (V.getD i 0)]:=by
    apply YZ;intro q;rw[x8,YN,x8,Yy];cases q with
    |zero=>rw[au a_,au a_,ZA,H];rfl|succ q=>rw[ay a_];simp
   rw[e1];exact .cons (.lit rfl) .nil
 have:=S.h_;subst this;exact⟨0,_,[],Reads.nil w n,fun i N=>a_,b⟩;exact b.elim
theorem aJs{C:Ctx}{n b k:Nat}{f f':Nat->dw}{vs c:ji}(hl:vs.length=b*n)(h1:∀ i,i<b->RL C (f i) ((vs.drop (i*n)).take n))(h2:∀ i,i<k->RL C (f' i) ((c.drop (i*n)).take n)) :
  ∀ i,i<b+k->RL C (uh b f f' i) (((vs++c).drop (i*n)).take n):=by
 intro i g;unfold uh;by_cases h:i<b;rw[au h];have d:(i+1)*n<=b*n:=Ym n h;rw[Yd,ZH] at d;rw[aGW a_,aAW jr];exact h1 i h;rw[ay h];have e:i*n=b*n+(i-b)*n:=by rw[<-Yd];congr 1;omega
 rw[e,<-aAV,List.drop_left' hl];exact h2 _ a_
theorem bJh(h:gy A s a w env){nm t:Nat}{x y:lL}(ho:o.op=.call { callee:=.builtin .append,args:=#[x,y],argTypes:=#[t,t] }){p v:PV}(hp:RV (aI A w env) p (a.eval x))(hv:RV (aI A w env) v (a.eval y))(d:(aUt P nm t p v).ok none s F)(hf:Fin A s a o K F):o.wp P a w K Q:=by
 unfold aUt at d;cases T:zJ P t with
 |none=>rw[T] at d;exact d.elim| some q=>
  obtain⟨e,n,b1⟩:=q;rw[T] at d;dsimp only at d;have hT:=aAy T;split at d
  ·rename_i x1 J n' a2 len;obtain⟨g,vr,ob,a5,d⟩:=d;have H:=dD d;clear d;obtain⟨hg,d⟩:=H;obtain⟨hd,L,a4⟩:=jQ h a5 hg
   cases D:bu J vr<;>cases a1:bu n n'<;>cases a0:bu a2 0<;>cases ob<;>simp only[D,a1,a0] at d<;>try exact d.elim
   rename_i e' m E f;obtain rfl:=ig D;obtain rfl:=ig a1;obtain rfl:=ig a0
   cases Z:bu n m<;>cases I:(bu e e'&&Hm e G7)<;>simp only[Z,I] at d<;>try exact d.elim
   rw[ww] at I;obtain⟨I,a7⟩:=I;obtain rfl:=ig Z;obtain rfl:=ig I;obtain⟨X,d⟩:=d;have S:len=E:=X;have H:=src_ok h hv d;clear d;obtain⟨k,f',G,z,l,d⟩:=H;obtain⟨j,d⟩:=d;have hF:=d.2;obtain⟨A0,n0,c0,rfl,a8,O⟩:=hp.AY L;obtain⟨vs,c,a6⟩:=a4;have c:=c.plain a7;have a3:a.eval x=.slice A0 n0 c0:=by rw[O];rcases c.2 with⟨W,_⟩|⟨g1,cap,cur,W,_⟩;cases W;have:len=0:=a_;subst this;rfl;cases W;simp[add_lit,S]
   refine aVb ho hT a3 c rfl z (sG z.1 l) j (xn _) (fun N c' w' V h3 r=>?_);have a9:∀ b,(Yu A0 n0 c0).ownBlock=some b->b<w.heap.size:=fun b D=>(c.lt b D).2
   obtain⟨U,C⟩:=h.upd x1 none (J+1) (.slice N (E+k) c') (.arr e n (E+k) (uh E f f')) (h3.mono fun b _ D=>⟨J,_,L,by cases A0<;>exact D⟩) (fun v b0 W=>by rw[L] at W;cases W;exact .inl (aFC _))
    (
     fun b D=>by
     have u:(Yu N (E+k) c').ownBlock=some b:=by cases N<;>exact D
     refine⟨(V.lt b u).2,?_⟩;rcases r with r|⟨g1,r,h5,_⟩
     ·refine .inr ⟨J,_,L,?_⟩;rw[u] at r
      cases A0<;>exact r.symm
     rw[u] at r;cases r;exact .inl h5)
    (fun C _=>⟨vs++G,yC (B:=0) ⟨by simp[c.1,z.1,Yd],V.2⟩,aJs c.1 (fun i Y=>(a6 i Y).le C) (fun i Y=>(l i Y).le C)⟩)
   refine hf _ _ _ _ _ hF U (.w (.one (.ow ⟨_,_,rfl⟩ ⟨_,_,fO _ _ _ _,dC _,fun _=>⟨_,_,_,rfl,a_,?_⟩⟩)));cases N with
   |none=>simp|some ad=>simp[Addr.add]
  ·have O:=hp.h_;have H:=src_ok h hv d;clear d;obtain⟨k,f',G,z,l,d⟩:=H;obtain⟨j,hF⟩:=d;have c:w.ownsRow 0 e n (.slice none 0 0) 0 []:=⟨b_,.inl ⟨rfl,rfl⟩⟩;refine aVb ho hT O c rfl z (sG z.1 l) (by simpa[hP] using j) (xn _) (fun N c' w' V h3 r=>?_);have hE:Ext w w':=h3.mono (fun b _ D=>by simp[Yz] at D);simp only[ik,Ha] at V r ⊢
   obtain⟨U,C⟩:=h.new (w':=w') nm none (.slice N k c') (.arr e n k f') hE
    (
     fun b D=>by
     have u:(Yu N k c').ownBlock=some b:=by cases N<;>exact D
     refine⟨(V.lt b u).2,?_⟩;rcases r with r|⟨g1,r,h5,_⟩;rw[u] at r;cases r
     rw[u] at r;cases r;exact h5)
    (fun C _=>⟨G,yC V,fun i Y=>(l i Y).le C⟩)
   refine hf _ _ _ _ _ hF U (.w (.one (.ow ⟨_,_,rfl⟩ ⟨_,_,fO _ _ _ _,dC _,fun _=>⟨_,_,_,rfl,a_,?_⟩⟩)));cases N with
   |none=>simp|some ad=>simp[Addr.add]
  exact d.elim
theorem Hz{e:bi}(h:Ze P e=true):∃ i,P.info? e=some i/\i.zero=some (.int .u8 0):=by unfold Ze at h;split at h;rename_i i c;split at h;rename_i b;exact⟨i,c,b⟩;cases h;cases h
theorem aBx(b:l9):Lib.strCells b=b.data.toList.map ql:=by unfold Lib.strCells;rfl
theorem JA{t u ty e:bi}(T:BF P t e 1 1)(L:Ze P e=true)(x:P.underlying u=some .string){v:ag}{n:Nat}{xs:ji}{w:ae}(c:w.ownsRow 0 e 1 v n xs)(s:l9)(hb:n+s.size<=140737488355328) :
  ∃ q p,(Builtin.append_ #[t,u] ty #[v,.string s]).run P w=.ok q p/\p.ownsRow 0 e 1 q (n+s.size) (xs++s.data.toList.map ql)/\gu (fun k=>v.ownBlock=some k) w p/\(q.ownBlock=v.ownBlock\/∃ g,q.ownBlock=some g/\w.heap.size<=g/\g<p.heap.size):=by
 obtain⟨y,⟨i,z,r,_,b,m,_⟩,_,_⟩:=T;obtain⟨W,B,f⟩:=Hz L;rw[r] at B;cases B;obtain⟨q,p,d,D,C,_⟩:=Lib.run_append_own_string (P:=P) w 0 t u ty e i y x r f b m v n xs c s (by unfold uk;omega) hb (xn _);rw[aBx] at D;refine⟨q,p,d,D,⟨C.os,C.tape,C.output,C.size,fun k S O=>C.block k S (fun e=>O e.symm)⟩,?_⟩;have E:xs.length=n:=by simpa using c.1
 rcases c.2 with⟨rfl,rfl⟩|⟨g,cap,cur,rfl,_,I,N,V,U,G⟩
 by_cases H:s.size=0;rcases D.2 with⟨rfl,_⟩|⟨g,cap,cur,rfl,_,I,_⟩;exact .inl rfl;have J:=Lib.run_firstCells_string (P:=P) w 1 s;rw[H] at J
 have:(Builtin.append_ #[t,u] ty #[.slice none 0 0,.string s]).run P w=.ok (.slice none 0 0) w:=by simp[Builtin.append_,xy y,xy x,sizeOf,Yj,r,b,Builtin.lenOf,H,J]
 rw[this] at d;cases d;have:=run_append_nil_string (P:=P) w t u ty e i (.int .u8 0) y x r f s a_ a_ (by rw[m];omega);rw[this] at d;cases d;exact .inr ⟨_,rfl,dC _,(D.lt _ rfl).2⟩;by_cases h:n+s.size<=cap;have:=Lib.run_append_room_string (P:=P) w t u ty e i y x r b g n cap cur I s h a_;rw[this] at d;cases d;exact .inl rfl;have l:∀ j u,xs[j]?=some u->w.cell? ((⟨g,0,none⟩:Addr).add j)=some u:=c.cells (g:=g) rfl;have:=Lib.run_append_grow_string (P:=P) w t u ty e i (.int .u8 0) y x r f ⟨g,0,none⟩ n cap xs (by rw[b];simpa using E) l s a_ a_ (by rw[m];exact growslice_fits a_ a_);rw[this] at d;cases d;exact .inr ⟨_,rfl,dC _,(D.lt _ rfl).2⟩
theorem bIt{C:Ctx}(l:dh):∀ i,i<l.length->RL C (su l i) (((l.map ql).drop (i*1)).take 1):=fun i b=>by
 have c:((l.map ql).drop (i*1)).take 1=[ql (l.getD i 0)]:=by
  apply YZ;intro q;rw[x8,YN,Yy];cases q with
  |zero=>rw[au a_,ZA,qE l i b];rfl|succ q=>rw[ay a_];simp
 rw[c];exact .cons (.lit rfl) .nil
theorem aDp(n:Nat):(EX n).size=n:=by unfold EX ByteArray.size;simp
theorem aYc(n:Nat):(Builtin.zeroCells (ed .u8 0).cells n)=IR n (ed .u8 0):=by show Builtin.zeroCells #[ed .u8 0] n=_;unfold Builtin.zeroCells;apply Array.ext;simp;intro i c b;simp[Nat.mod_one]
theorem aHh(n:Nat)(w:ae):(Builtin.firstCells 1 n (.string (EX n))).run P w=.ok (List.replicate n (ed .u8 0)).toArray w:=by have h:=Lib.run_firstCells_string (P:=P) w 1 (EX n);rw[aDp] at h;rw[h];congr 1;rw[aBx];unfold EX;simp[ql]
theorem aEk(w:ae){t u J ty e:bi}{i:TypeInfo}{O:IntKind}(G:P.underlying t=some (.slice e))(E:P.underlying u=some .string)(g:P.underlying J=some (.int O))(H:P.info? e=some i)(D:i.zero=some (.int .u8 0))(d:i.size=1)(k:i.bytes=1)
  (b:Option Addr) (l c n:Nat) (hn:l+n<=140737488355328) :
  (Builtin.append_ #[t,J] ty #[.slice b l c,.int .i64 (n:Int)]).run P w=(Builtin.append_ #[t,u] ty #[.slice b l c,.string (EX n)]).run P w:=by
 have x:IntKind.wrap .i64 0=0:=g_;have L:IntKind.wrap .i64 (n:Int)=n:=by rw[IntKind.wrap_i64];omega
 have m:¬((n:Int)<0):=a_;have N:¬(281474976710656<(n:Int)):=a_;have I:=aHh (P:=P) n;have r:=aYc n;have j:=aDp n;have f:¬(l+n<=c)->¬(281474976710656<Builtin.nextslicecap (l+n) c):=fun h=>by have:=growslice_fits (need:=l+n) (old:=c) (bytes:=1) a_ a_;omega
 have B:¬(9223372036854775807<(l:Int)+(n:Int)):=a_;by_cases y:l+n<=c;by_cases C:n=0;subst C;have q:l<=c:=a_;simp[q,Builtin.append_,xy G,xy g,xy E,sizeOf,Yj,zeroValue,H,D,d,k,asInt,asIntOf,x,Builtin.lenOf,j,I];simp[Builtin.append_,xy G,xy g,xy E,sizeOf,Yj,zeroValue,H,D,d,k,asInt,asIntOf,L,m,N,Builtin.lenOf,j,I,r,y,C];have f:=f y;by_cases C:n=0;subst C;have q:¬(l<=c):=a_;have p:¬(281474976710656<Builtin.nextslicecap l c):=f;have z:¬(9223372036854775807<(l:Int)):=a_;simp[q,p,z,Builtin.append_,xy G,xy g,xy E,sizeOf,Yj,zeroValue,H,D,d,k,asInt,asIntOf,x,Builtin.lenOf,j,I];simp[Builtin.append_,xy G,xy g,xy E,sizeOf,Yj,zeroValue,H,D,d,k,asInt,asIntOf,L,m,N,Builtin.lenOf,j,I,r,y,C,f,B]
theorem aXv(h:gy A s a w env){t u u':Nat}{x y:lL}(ho:o.op=.call { callee:=.builtin .append,args:=#[x,y],argTypes:=#[t,u'] }){e:bi}(hT:BF P t e 1 1)(hu:P.underlying u=some .string){p:PV}{b:l9}(hp:RV (aI A w env) p (a.eval x))
  (a4:Ze P e=true->∀ E l c,l+b.size<=140737488355328->(Builtin.append_ #[t,u'] o.type #[.slice E l c,a.eval y]).run P w=(Builtin.append_ #[t,u] o.type #[.slice E l c,.string b]).run P w)
  (j:(aXw P e p b).ok none s F) (hf:Fin A s a o K F):o.wp P a w K Q:=by
 unfold aXw at j;split at j
 ·rename_i x1 r n' X len;obtain⟨g,vr,ob,a3,j⟩:=j;have a1:=dD j;clear j;obtain⟨hg,j⟩:=a1;obtain⟨hd,z,a0⟩:=jQ h a3 hg
  cases D:bu r vr<;>cases U:bu 1 n'<;>cases T:bu X 0<;>cases ob<;>simp only[D,U,T] at j<;>try exact j.elim
  rename_i e' m k f;obtain rfl:=ig D;obtain rfl:=ig U;obtain rfl:=ig T
  cases S:bu 1 m<;>cases n:(bu e e'&&Hm e G7)<;>cases I:Ze P e<;>simp only[S,n,I] at j<;>try exact j.elim
  rw[ww] at n;obtain⟨n,a6⟩:=n;obtain rfl:=ig S;obtain rfl:=ig n;obtain⟨⟨G,C⟩,j⟩:=j;have hF:=j.2;obtain⟨E,V,c0,rfl,a7,Y⟩:=hp.AY z;obtain⟨vs,d,a5⟩:=a0;have d:=d.plain a6;have Z:a.eval x=.slice E V c0:=by rw[Y];rcases d.2 with⟨q,_⟩|⟨g1,cap,cur,q,_⟩;cases q;have:len=0:=a_;subst this;rfl;cases q;simp[add_lit,G]
  have a8:V=k:=by
   rcases d.2 with⟨q,e1⟩|⟨g1,cap,cur,q,_⟩;cases q;have:=d.1;rw[e1] at this;simp at this;omega
   cases q;rfl
  obtain⟨v',w',N,h2,h3,L⟩:=JA (w:=w) (ty:=o.type) hT I hu d b C;have H:(uu a.eval o).run P w=.ok (.value v') w':=by unfold uu;simp only[ho,resolve,ZL,builtin,Sem.run_bind,Sem.run_pure,Result.andThen_ok,aBc,DD,ZY,Z];rw[a4 I E V c0 a_,N];rfl
  obtain⟨W,c',rfl⟩:=nS h2;have a9:∀ b,(Yu E V c0).ownBlock=some b->b<w.heap.size:=fun b D=>(d.lt b D).2
  obtain⟨a2,O⟩:=h.upd x1 none (r+1) (.slice W (k+b.size) c') (.arr e 1 (k+b.size) (uh k f (su b.data.toList))) (h3.mono fun b _ D=>⟨r,_,z,by cases E<;>exact D⟩) (fun v b0 q=>by rw[z] at q;cases q;exact .inl (aFC _))
   (
    fun b1 D=>by
    have J:(Yu W (k+b.size) c').ownBlock=some b1:=by cases W<;>exact D
    refine⟨(h2.lt b1 J).2,?_⟩;rcases L with L|⟨g1,L,h5,_⟩
    ·refine .inr ⟨r,_,z,?_⟩;rw[J] at L
     cases E<;>exact L.symm
    rw[J] at L;cases L;exact .inl h5)
   (fun O _=>⟨vs++b.data.toList.map ql,yC (B:=0) ⟨by rw[gp,YU,d.1,uA,Yy,Yy];rfl,h2.2⟩,aJs d.1 (fun i hi=>(a5 i hi).le O) (fun i hi=>bIt _ i (by rw[uA];exact hi))⟩)
  refine aK H (hf _ _ _ _ _ hF a2 (.w (.one (.ow ⟨_,_,rfl⟩ ⟨_,_,fO _ _ _ _,dC _,fun _=>⟨_,_,_,rfl,a_,?_⟩⟩))));cases W with
  |none=>simp|some ad=>simp[Addr.add]
 exact j.elim
theorem bJi(h:gy A s a w env){N t u:Nat}{x y:lL}(G:o.op=.call { callee:=.builtin .append,args:=#[x,y],argTypes:=#[t,u] }){p v:PV}(E:RV (aI A w env) p (a.eval x))(D:RV (aI A w env) v (a.eval y))(d:(aUu P N t u p v).ok none s F)(J:Fin A s a o K F):o.wp P a w K Q:=by unfold aUu at d;split at d;rename_i e b g r;have q:=D.h_;exact aXv h G (aAy g) r E (fun _ _ _ _ _=>by rw[q]) d J;rename_i e V n g r;have q:=D.h_;split at d;rename_i f;obtain⟨T,d⟩:=d;have L:=aAy g;refine aXv h G L f E (fun O U l c H=>?_) d J;obtain⟨S,⟨i,z,I,_,j,B,_⟩,_,_⟩:=L;obtain⟨W,k,m⟩:=Hz O;rw[I] at k;cases k;have C:0<=n:=T;rw[aDp] at H;have:=aEk (ty:=o.type) w S f r I m j B U l c n.toNat H;rw[Int.toNat_of_nonneg C] at this;rw[q,this];exact d.elim;exact d.elim
theorem aSn{x:Option ag}(h:(Fj x).ok none s F):∃ v,x=some v/\v.oneCell'=true/\F none (o7 v) []:=by
 cases x with
 |none=>exact h.elim|some v=>
  unfold Fj at h
  cases b:v.oneCell'<;>simp only[b] at h
  exact h.elim;exact⟨v,rfl,b,h⟩
theorem aBd{b:Type}{w:ae}:∀ {m:Sem b} {v:b},aBe P m=some v->m.run P w=.ok v w:=by
 intro m
 induction m with
 |pure a=>intro v h;cases h;rfl|program k c=>intro v h;exact c P h|_=>intro v h;cases h
theorem Pm(h:gy A s a w env){b:UnOp}{t:bi}{x:lL}(e:o.op=.unOp b t x){v:PV}(c:RV (aI A w env) v (a.eval x)){u:ag}(hl:isLit v=some u)(f:(Fj (aBe P (Op.unary b u))).ok none s F)(g:Fin A s a o K F):o.wp P a w K Q:=by obtain⟨r,k,j,i⟩:=aSn f;rw[wL hl] at c;refine aK (v:=r) (w':=w) ?_ (g.same h i (.w (.one (.lit j))));have d:a.eval x=u:=RV.h_ (show RV _ _ _ from c);simp[uu,e,d,aBd (w:=w) k]
theorem aKx{C:Ctx}:∀ {d:jl} {l:List lL} {e:dw},PI C a d l->Gw d=some e->RL C e (l.map a.eval)
 |[],[],e,_,h=>by simp[Gw] at h;subst h;exact .nil|[],_::_,_,h,_=>h.elim|_::_,[],_,h,_=>h.elim| v::d,x::l,e,⟨hv,hr⟩,h=>by
  unfold Gw at h
  cases b:QO v<;>cases f:Gw d<;>simp only[b,f] at h<;>try (cases h;done)
  cases h;rename_i c r;have:v=dm c:=by unfold QO at b;split at b;cases b;rfl;cases b
  subst this;exact .cons (xs:=[a.eval x]) (RV.inv (show RV _ _ _ from hv)) (aKx hr f)
theorem aTg(h:gy A s a w env){fn:Fn}{first cap:Array lL}(e:o.op=.makeFunc fn first cap){b cs:jl}{c d:dw}(h1:PI (aI A w env) a b first.toList)(h2:PI (aI A w env) a cs cap.toList)(h3:Gw b=some c)(h4:Gw cs=some d)
  (i:F none (dm (.fn fn c d)) []) (g:Fin A s a o K F):o.wp P a w K Q:=by
 refine aK (v:=.func fn (first.map a.eval) (cap.map a.eval)) (w':=w) ?_ (g.same h i (.w (.one ?_)));simp[uu,e,Instr.makeFunc]
 ·have:=R.fn (f:=fn) (aKx h1 h3) (aKx h2 h4);have k:(first.toList.map a.eval).toArray=first.map a.eval:=by apply GM;simp
  have j:(cap.toList.map a.eval).toArray=cap.map a.eval:=by apply GM;simp
  rw[k,j] at this;exact this
theorem vX(h:gy A s a w env){v:PV}{val:ag}(S:RV (aI A w env) v val){k:dh->M}(b:(Y5 v k).ok none s F):∃ l,Reads w 1 val l.length (l.map ql)/\(k l).ok none s F:=by
 unfold Y5 at b;split at b
 ·rename_i n len f
  cases t:bu n 1<;>rw[t] at b
  exact b.elim;obtain rfl:=ig t;obtain⟨p,b⟩:=b;cases S.inv with
  |sl hr a4 he=>refine⟨_,?_,b⟩;rw[<-aEl hr.1 he p,dZ];exact hr
 ·rename_i x y n d len;obtain⟨g,T,V,D,b⟩:=b;have B:=dD b;clear b;obtain⟨Y,b⟩:=B;obtain⟨hd,E,z⟩:=jQ h D Y
  cases t:bu y T<;>cases r:bu n 1<;>cases O:bu d 0<;>cases V<;>simp only[t,r,O] at b<;>try exact b.elim
  rename_i e m U f;obtain rfl:=ig t;obtain rfl:=ig r;obtain rfl:=ig O
  cases N:bu 1 m<;>rw[N] at b
  exact b.elim;obtain rfl:=ig N;obtain⟨⟨a3,p⟩,b⟩:=b;obtain⟨A0,n0,c0,rfl,a2,rfl⟩:=S.AY E;obtain⟨vs,L,Z⟩:=z;have J:=Reads.zk L;have X:n0=U:=by obtain⟨_,A1,c1,e1,_⟩:=J;cases e1;rfl
  subst X;have H:=mY (off:=0) (m:=len) a_ J;refine⟨_,?_,b⟩;have G:=aEl (C:=aI A w env) (len:=len) (f:=f) (vs:=(vs.drop (0*1)).take (len*1)) H.1 (fun i hi=>by rw[jT vs hi,ik];exact Z i a_) p;rw[<-G,dZ];exact H
 ·rename_i x y d len;obtain⟨g,T,V,D,b⟩:=b;have B:=dD b;clear b;obtain⟨Y,b⟩:=B;obtain⟨hd,E,z⟩:=jQ h D Y
  cases t:bu y T<;>cases V<;>simp only[t] at b<;>try exact b.elim
  rename_i bt l;obtain rfl:=ig t;cases W:yh l d with
  |none=>rw[W] at b;exact b.elim|some q=>
   obtain⟨m,bs⟩:=q;rw[W] at b;dsimp only at b
   cases r:bu len m<;>rw[r] at b
   exact b.elim;obtain rfl:=ig r;obtain⟨g1,c,rfl,a1,a0,rfl⟩:=S.Jw E;obtain⟨g2,cs,e2,hB,hR⟩:=z;cases e2;obtain⟨k1,k2,k3⟩:=oO hR W;have I:=jI hB.range d len;rw[ik,k2] at I;refine⟨bs,⟨b_,_,c,by rw[k1],by rw[k1];exact a1,a0,fun hn=>⟨g1,d,rfl,fun j u hj=>I j u hj⟩⟩,b⟩
 have:=S.h_;subst this;exact⟨[],Reads.nil w 1,b⟩;exact b.elim
theorem aVl{C:Ctx}{t:bi}{n off:Nat}{m:dw}{o:PW}{cs:kw}(f:qm P t=some n)(p:CU P t m=some o)(hr:RL C m ((cs.toList.drop off).take n))(_:off+n<=cs.size)(w:ae) :
  ∃ c,(part t cs off).run P w=.ok c w/\RW C o c:=by
 obtain⟨i,q,g⟩:=nP f;rcases bFi p hr with⟨a,l⟩|⟨a,u,e,_,l⟩
 ·obtain⟨d,j,r⟩:=aEm a
  have k:(isAgg t).run P w=.ok true w:=by
   unfold isAgg;rw[Sem.run_bind,xy j w]
   cases d<;>simp_all
  have h:cs.extract off (off+n)=((cs.toList.drop off).take n).toArray:=by apply GM;simp[aGV]
  exact⟨_,by simp[part,k,sizeOf,Yj,q,g,h],l⟩
 have b:cs[off]?=some u:=by have:=congrArg (·[0]?) e;simp only[x8,YN,ZA,Yv] at this;split at this;simpa using this;cases this
 exact⟨u,by simp[part,zQ a,b],l⟩
theorem aNw{e:bi}(g:P.underlying e=some (.int .u8))(d:Nat)(a b:dh)(w:ae):∀ c:List Nat,(∀ i∈c,i<a.length/\i<b.length) ->
  (Op.eqItems (d+1) e 1 (a.map ql).toArray (b.map ql).toArray c).run P w=.ok (c.all fun i=>a.getD i 0==b.getD i 0) w
 |[],_=>by simp[Op.eqItems]| i::c,h=>by
  obtain⟨k,p⟩:=h i b_;have f:(isAgg e).run P w=.ok false w:=by unfold isAgg;rw[Sem.run_bind,xy g w];rfl
  have n:(part e (a.map ql).toArray (i*1)).run P w=.ok (ql (a.getD i 0)) w:=by have:=qE a i k;simp[part,f,zH k]
  have m:(part e (b.map ql).toArray (i*1)).run P w=.ok (ql (b.getD i 0)) w:=by simp[part,f,zH p]
  have l:(Op.equalIn (d+1) e (ql (a.getD i 0)) (ql (b.getD i 0))).run P w=.ok (a.getD i 0==b.getD i 0) w:=by have:=run_equalIn_int (P:=P) w d e .u8 .u8 ((a.getD i 0).toNat:Int) ((b.getD i 0).toNat:Int) g;rw[show ql (a.getD i 0)=.int .u8 ((a.getD i 0).toNat:Int) from rfl,show ql (b.getD i 0)=.int .u8 ((b.getD i 0).toNat:Int) from rfl,this];congr 1;rw[aFf,beq_iff_eq,beq_iff_eq];constructor;intro h;exact UInt8.toNat_inj.1 a_;intro h;rw[h]
  rw[Op.eqItems,Sem.run_bind,n,Result.andThen_ok,Sem.run_bind,m,Result.andThen_ok,Sem.run_bind,l,Result.andThen_ok,ZF];cases q:(a.getD i 0==b.getD i 0) with
  |false=>simp|true=>simpa using aNw g d a b w c (fun j o=>h j (VM _ o))
theorem bJl(a b:dh)(n:Nat)(e:a.length=n)(hb:b.length=n):((List.range n).all fun i=>a.getD i 0==b.getD i 0)=(a==b):=by rw[aFf];simp only[List.all_eq_true,aFN,beq_iff_eq];constructor;intro h;apply List.ext_getElem a_;intro i d c;have:=h i a_;simpa[zG,zH d,zH c] using this;rintro rfl i _;rfl
theorem NK{C:Ctx}:∀ (d:Nat) {t:bi} {l m:dw} {x y:ag} {px K:PW} {r:Bool},Zp P d t l m=some r->CU P t l=some px->CU P t m=some K->RW C px x->RW C K y->∀ (k:Nat) (w:ae),(Op.equalIn (d+(k+1)) t x y).run P w=.ok r w
 |0,t,l,m,x,y,px,K,r,h,_,_,_,_,_,_=>by cases h| d + 1,t,l,m,x,y,px,K,r,h,j,g,J,I,k,w=>by
  have a5:px.cells=l:=by unfold CU at j;split at j;cases j;cases j;rfl;split at j;split at j;cases j;rfl;cases j;cases j
  have a4:K.cells=m:=by unfold CU at g;split at g;cases g;cases g;rfl;split at g;split at g;cases g;rfl;cases g;cases g
  have one:∀ {c:PC} {v:ag} {q:PW},gQ P t=some false->CU P t [c]=some q->RW C q v->R C c [v]:=by
   intro c v q p H hr;unfold CU at H;rw[p] at H;dsimp only at H;split at H;cases H;cases hr with|one h=>exact h
   cases H
  rw[show d+1+(k+1)=(d+(k+1))+1 from a_];unfold Zp at h;cases o:P.underlying t with
  |none=>rw[o] at h;cases h| some dd=>
   rw[o] at h
   cases dd<;>try (cases h;done)
   ·
    dsimp only at h;split at h;cases h;have p:gQ P t=some false:=by unfold gQ;rw[o]
    have G:=one p j J;have F:=one p g I;cases G;cases F;exact run_equalIn_bool' w _ t _ _ o;cases h
   ·
    dsimp only at h;split at h;split at h;rename_i hk;cases h;subst hk;have p:gQ P t=some false:=by unfold gQ;rw[o]
    have G:=one p j J;have F:=one p g I;cases G;cases F;exact run_equalIn_int w _ t _ _ _ _ o;cases h;cases h
   ·
    dsimp only at h;split at h;cases h;have p:gQ P t=some false:=by unfold gQ;rw[o]
    have G:=one p j J;have F:=one p g I;cases G;cases F;exact run_equalIn_string w _ t _ _ o;cases h
   ·
    rename_i n e;dsimp only at h;split at h
    ·rename_i n1 a n2 b V W
     cases h1:bu n n1<;>cases h2:bu n n2<;>simp only[h1,h2] at h<;>try (cases h;done)
     cases h;obtain rfl:=ig h1;obtain rfl:=ig h2;have p:gQ P t=some true:=by unfold gQ;rw[o]
     unfold CU at j g;rw[p] at j g;cases j;cases g;cases J with
     | @agg _ U A=>
      cases I with
      |@agg _ T z=>
       obtain⟨g1,g2⟩:=A.Zq;obtain⟨g3,g4⟩:=z.Zq;have a1:U=(a.map ql).toArray:=by apply GM;simpa using g2
       have a0:T=(b.map ql).toArray:=by apply GM;simpa using g4
       obtain⟨ie,S,Q⟩:=nP W;have Y:P.cellsOf e=1:=by unfold Program.cellsOf;rw[S];simpa using Q
       rw[run_equalIn_array (P:=P) w (d+(k+1)) U T o S,Y,a1,a0,show d+(k+1)=(d+k)+1 from a_,aNw V (d+k) a b w _ (fun i hm=>by rw[aFN] at hm;omega),bJl a b n g1 g3]
    cases h
   ·
    rename_i fs;dsimp only at h
    have s:P.stoodInHeld t=false:=by
     cases s:P.stoodInHeld t with
     |false=>rfl|true=>rw[s] at h;cases h
    rw[s] at h;dsimp only at h;have p:gQ P t=some true:=by unfold gQ;rw[o]
    unfold CU at j g;rw[p] at j g;cases j;cases g;cases J with
    | @agg _ U A=>
     cases I with
     | @agg _ T z=>
      have E:P.fieldsOf t=fs:=by unfold Program.fieldsOf;rw[o]
      rw[run_equalIn_struct w (d+(k+1)) t U T (by rw[E];exact o) s,E];clear E o;generalize fs.toList=Z at h
      induction Z generalizing r with
      |nil=>cases h;rfl|cons f Z ih=>
       rw[List.foldr_cons] at h;generalize a3:List.foldr _ _ Z=a2 at h ih
       cases a2<;>cases O:(f.name != "_")<;>cases u:qm P f.type<;>simp only[O,u] at h<;>try (cases h;done)
       rename_i r0 n
       cases N:qN l f.offset n<;>cases L:qN m f.offset n<;>simp only[N,L] at h<;>try (cases h;done)
       rename_i x1 y1
       cases D:CU P f.type x1<;>cases B:CU P f.type y1<;>cases hq:Zp P d f.type x1 y1<;>simp only[D,B,hq] at h<;>try (cases h;done)
       rename_i p1 p2 q;cases h;obtain⟨k1,k2⟩:=A.sub N;obtain⟨k3,k4⟩:=z.sub L;obtain⟨v1,G,w1⟩:=aVl u D k1 (by simpa using k2) w;obtain⟨v2,F,w2⟩:=aVl u B k3 (by simpa using k4) w;have e3:=NK d hq D B w1 w2 k w;have e4:=ih r0 rfl;have X:f.name ≠ "_" := by simpa using O
       rw[Op.eqFields,au X,Sem.run_bind,G,Result.andThen_ok,Sem.run_bind,F,Result.andThen_ok,Sem.run_bind,e3,Result.andThen_ok];cases q with
       |false=>simp|true=>simpa using e4
theorem bytesRow_at(b:l9)(cap j:Nat)(d:j<b.size):(YS b cap)[j]?=some (ql (b.data.toList.getD j 0)):=by have c:b.data.size=b.size:=rfl;unfold YS;rw[aCc (by simpa using by omega)];rw[Array.getElem?_map,ZR a_,zG,zH (by simpa using by omega)];rfl
theorem bAr(h:gy A s a w env){own:Bool}{X:Nat}{t p:bi}{x:lL}(H:o.op=.convert t p x){v:PV}(D:RV (aI A w env) v (a.eval x))(k:(O6 P own X t p v).ok none s F)(I:Fin A s a o K F):o.wp P a w K Q:=by
 unfold O6 at k;split at k
 ·rename_i e E y;split at k
  ·rename_i b q;cases own
   case true=>
    obtain⟨U,B⟩:=k;have T:b.size<=9223372036854775807:=U;have C:a.eval x=.string b:=D.h_;have d:=run_bytes_of_string (P:=P) w t p e b E y q;have m:b.data.toList.length=b.size:=by rw[uA];rfl
    have O:=grownCap_ge w b.size 0 e;have V:Ext w (w.drew.alloc (.cells (YS b (YT w b.size 0 e)) e ((YS b (YT w b.size 0 e)).size,(YS b (YT w b.size 0 e)).size+1))):=((Ext.refl w).drew.alloc _);have G:(YS b (YT w b.size 0 e)).size=YT w b.size 0 e:=by have a1:b.data.size=b.size:=rfl;simp only[YS,Array.size_append,Array.size_map,Array.size_replicate];omega
    obtain⟨a0,g1,g2⟩:=h.KE X 1 b.size (YT w b.size 0 e) (f:=su b.data.toList) (cs:=YS b (YT w b.size 0 e)) (xs:=b.data.toList.map ql)
     (by rw[YU,m,Yy]) O (grownCap_le_maxLen w b.size 0 e (by unfold uk;omega)) (by rw[G,Yy])
     (
      by
      apply YZ;intro j;rw[x8,Yy];by_cases n:j<b.size;rw[au n,aBH,bytesRow_at b _ j n,qE _ j a_]
      rw[ay n,YQ (by rw[YU,m];omega)])
     (fun i hi=>nV _ _ i a_) V (aAu w.drew _) (dC _)
    exact aK (v:=.slice (some ⟨w.heap.size,0,none⟩) b.size (YT w b.size 0 e)) (by simp[uu,H,C,d]) (I _ _ _ _ _ B g1 g2)
   obtain⟨U,B⟩:=k;have T:b.size<=9223372036854775807:=U;have C:a.eval x=.string b:=D.h_;have d:=run_bytes_of_string (P:=P) w t p e b E y q;have m:b.data.toList.length=b.size:=by rw[uA];rfl
   have V:Ext w (w.drew.alloc (.cells (YS b (YT w b.size 0 e)) e ((YS b (YT w b.size 0 e)).size,(YS b (YT w b.size 0 e)).size+1))):=((Ext.refl w).drew.alloc _);refine aK (v:=.slice (some ⟨w.heap.size,0,none⟩) b.size (YT w b.size 0 e)) (by simp[uu,H,C,d]) (I _ _ _ _ env B (h.ext V) (.w (.one (.sl (vs:=b.data.toList.map ql) ⟨by rw[YU,m,Yy],_,_,rfl,grownCap_ge w b.size 0 e,grownCap_le_maxLen w b.size 0 e (by unfold uk;omega),fun hn=>⟨w.heap.size,0,rfl,fun j u n=>?_⟩⟩ (fun g hg _=>?_) (fun i hi=>nV _ _ i a_)))));have N:j<b.size:=by have:=(List.getElem?_eq_some_iff.1 n).1;simpa[m] using this
   rw[ik];have hc:=cell_of_row (w.drew.alloc (.cells (YS b (YT w b.size 0 e)) e ((YS b (YT w b.size 0 e)).size,(YS b (YT w b.size 0 e)).size+1))) w.heap.size j _ _ _ (aAu w.drew _);refine hc.trans ?_;rw[bytesRow_at b _ j N,<-n,qE _ j a_];cases hg;refine⟨⟨.inr h.iq.size,fun x J y q S=>?_⟩,by simp[aI]⟩;exact absurd (h.live x J y _ q S).1 (Nat.lt_irrefl _)
  exact k.elim
 rename_i e E y;split at k;rename_i q;obtain⟨l,hr,B⟩:=vX h D k;obtain⟨h1,A1,c,e1,Z,h3,Y⟩:=hr
 have d:(convert t p (a.eval x)).run P w=.ok (.string ⟨l.toArray⟩) w:=by
  rw[e1];cases A1 with
  | none=>
   have L:l=[]:=by
    cases l with
    |nil=>rfl|cons b l=>obtain⟨b',o',W,_⟩:=Y b_;cases W
   subst L;rw[run_convert_bytes_string w t p e _ _ c E q y];simp[Conv.bytesToString];rfl
  |some ad=>refine run_convert_bytes_back w t p e ad c l E q y (fun j n=>?_);obtain⟨b',o',W,z⟩:=Y a_;cases W;rw[add_lit];exact z j _ (by rw[List.getElem?_map,zH n];rfl)
 exact aK (v:=.string ⟨l.toArray⟩) (by simp[uu,H,d]) (I.same h B (.w (.one (.lit rfl))));exact k.elim;split at k;rename_i u hl;obtain⟨r,h1,Z,B⟩:=aSn k;rw[wL hl] at D;refine aK (v:=r) (w':=w) ?_ (I.same h B (.w (.one (.lit Z))));have C:a.eval x=u:=RV.h_ (show RV _ _ _ from D);simp[uu,H,C,aBd (w:=w) h1];exact k.elim
theorem aOy(z:kw)(m i n:Nat)(c:z.size=n)(h:(i+1)*n<=m):((aAI z m).toList.drop (i*n)).take n=z.toList:=by
 rw[Yd,ZH] at h;apply YZ;intro q;rw[x8,YN];by_cases b:q<n;rw[au b];have d:(aAI z m).toList[i*n+q]?=some z[(i*n+q) % z.size]! := by unfold aAI;rw[aBH,Array.getElem?_map,Array.getElem?_range];simp;omega
 rw[d,c,aFc,Nat.mul_add_mod,Nat.mod_eq_of_lt b,aBH,ZR a_,getElem!_pos z q a_];rw[ay b,YQ jr]
theorem RG(h:gy A s a w env){J:Nat}{t:bi}{x y:lL}(ho:o.op=.makeSlice t x y){L W:PV}(hl:RV (aI A w env) L (a.eval x))(hc:RV (aI A w env) W (a.eval y))(g:(LC P J t L W).ok none s F)(hf:Fin A s a o K F):o.wp P a w K Q:=by
 unfold LC at g;split at g;rename_i e n p O l N c u D B;split at g;rename_i I r;obtain⟨⟨h0,h1,h2⟩,hF⟩:=g;obtain⟨Z,⟨i,z,U,S,d,H,q⟩,T,a2⟩:=aAy u;obtain⟨i',z',m,b,hr⟩:=aDn (C:=aI A w env) r;rw[U] at m;cases m;rw[S] at b;cases b;rw[wL D] at hl;rw[wL B] at hc;have Y:a.eval x=.int O l:=RV.h_ (show RV _ _ _ from hl);have X:a.eval y=.int N c:=RV.h_ (show RV _ _ _ from hc);have a1:c<=(p:Int)*c:=by have:(1:Int)*c<=(p:Int)*c:=Int.mul_le_mul_of_nonneg_right a_ a_;omega
 have k:=run_make (P:=P) w t e i z Z U S O N l c h0 h1 (by rw[H];omega) a_;have a0:(l.toNat)*n<=c.toNat*n:=Ym n a_
 have G:∀ j,j<l.toNat->RL (aI A w env) ((fun _=>I) j) ((((aAI z.cells (c.toNat*i.size)).toList.take (l.toNat*n)).drop (j*n)).take n):=by
  intro j hj;have E:(j+1)*n<=l.toNat*n:=Ym n hj;have e1:(((aAI z.cells (c.toNat*i.size)).toList.take (l.toNat*n)).drop (j*n)).take n=((aAI z.cells (c.toNat*i.size)).toList.drop (j*n)).take n:=by rw[Yd,ZH] at E;rw[aFO,aFe,aAs a_]
  rw[e1,aOy z.cells _ j n (by rw[q]) (by rw[d];omega)];exact hr
 obtain⟨V,g1,g2⟩:=h.F_ J e n l.toNat c.toNat (f:=fun _=>I) (cs:=aAI z.cells (c.toNat*i.size)) (xs:=(aAI z.cells (c.toNat*i.size)).toList.take (l.toNat*n))
  (by rw[xe,uA,size_madeCells,d];omega) a_ (by unfold uk;omega) (by rw[size_madeCells,d]) rfl G (w':=w.alloc (.cells (aAI z.cells (c.toNat*i.size)) e)) ((Ext.refl w).alloc _) (aAu w _)
 exact aK (v:=.slice (some ⟨w.heap.size,0,none⟩) l.toNat c.toNat) (by simp[uu,ho,Y,X,k]) (hf _ _ _ _ _ hF g1 g2);exact g.elim;exact g.elim
theorem bIg{C:Ctx}{n c k:Nat}{f f':Nat->dw}{vs b:ji}(e:k<=c)(hl:vs.length=c*n)(hn:b.length=k*n)(h1:∀ i,i<c->RL C (f i) ((vs.drop (i*n)).take n))(h2:∀ i,i<k->RL C (f' i) ((b.drop (i*n)).take n)) :
  ∀ i,i<c->RL C (XY k f f' i) (((over vs 0 b).drop (i*n)).take n):=by
 intro i g;have l:k*n<=c*n:=Ym n e;unfold XY;by_cases h:i<k;rw[au h];have d:(i+1)*n<=k*n:=Ym n h;rw[Yd,ZH] at d;have j:((over vs 0 b).drop (i*n)).take n=(b.drop (i*n)).take n:=by unfold over;rw[List.take_zero,Ha,aGW a_,aAW jr]
 rw[j];exact h2 i h
 rw[ay h,vG a_ (.inl (by
  have:k*n<=i*n:=Ym n a_
  omega))]
 exact h1 i g
theorem TJ(h:gy A s a w env){t:Nat}{x y:lL}(ho:o.op=.call { callee:=.builtin .copy,args:=#[x,y],argTypes:=#[t,t] }){p v:PV}(hp:RV (aI A w env) p (a.eval x))(hv:RV (aI A w env) v (a.eval y))(q:(O5 P t p v).ok none s F)(hf:Fin A s a o K F):o.wp P a w K Q:=by
 unfold O5 at q;split at q
 ·rename_i e n e5 x1 B n' b0 len b3;obtain⟨hu,⟨ie,z,W,hz,b2,e3,d5⟩,d2,e4⟩:=aAy b3;obtain⟨g,vr,ob,c5,q⟩:=q;have V:=dD q;clear q;obtain⟨hg,q⟩:=V;obtain⟨hd,G,b5⟩:=jQ h c5 hg
  cases hb:bu B vr<;>cases a9:bu n n'<;>cases a8:bu b0 0<;>cases ob<;>simp only[hb,a9,a8] at q<;>try exact q.elim
  rename_i e' m c f;obtain rfl:=ig hb;obtain rfl:=ig a9;obtain rfl:=ig a8
  cases a7:bu n m<;>cases H:(bu e e'&&Hm e G7)<;>simp only[a7,H] at q<;>try exact q.elim
  rw[ww] at H;obtain⟨H,d0⟩:=H;obtain rfl:=ig a7;obtain rfl:=ig H;obtain⟨a1,q⟩:=q;have O:len=c:=a1;have V:=src_ok h hv q;clear q;obtain⟨k,f',d,b4,N,q⟩:=V;have hF:=q.2;obtain⟨A0,n0,c0,rfl,d3,a0⟩:=hp.AY G;obtain⟨vs,l,c6⟩:=b5;have l:=l.plain d0;obtain⟨g1,A1,c1,e1,g2,g3,g4⟩:=b4;have d8:min k c*n<=k*n:=Ym n a_;have d7:min k c*n<=c*n:=Ym n a_;rcases l.2 with⟨Z,d6⟩|⟨r,cap,cur,Z,c9,c3,a4,c8,c7,S⟩
  ·
   cases Z;have b8:len=0:=a_;have ht:c=0:=a_;subst b8;have C:a.eval x=.slice none 0 0:=by rw[a0];rfl
   have D:(Builtin.copy_ #[t,t] o.type #[a.eval x,a.eval y]).run P w=.ok (goInt 0) w:=by
    rw[C,e1];cases A1 with
    |none=>simp[Builtin.copy_,xy hu,Builtin.lenOf,Builtin.firstCells,sizeOf,Yj,W]|some ad=>simp[Builtin.copy_,xy hu,Builtin.lenOf,Builtin.firstCells,sizeOf,Yj,W,loadCells,loadCellsFrom]
   have b6:min k c=0:=a_;obtain⟨c4,E⟩:=h.upd x1 none B (.slice none 0 0) (.arr e n c (XY (min k c) f f')) (gu.refl _ _) (fun v d9 Z=>by rw[G] at Z;cases Z;exact .inr ⟨rfl,rfl⟩) (fun b hb=>by cases hb) (fun E _=>⟨vs,by rw[ht] at l ⊢;exact yC l,fun i hi=>a_⟩);refine aK (v:=.int .i64 0) (w':=w) ?_ (hf _ _ _ _ _ hF c4 (.w (.one ?_)));simp only[uu,ho,resolve,ZL,builtin,Sem.run_bind,Sem.run_pure,Result.andThen_ok,aBc,DD,ZY,D];rfl;rw[b6];exact .lit rfl
  cases Z;have C:a.eval x=.slice (some ⟨r,0,none⟩) c c0:=by rw[a0];simp[add_lit,O]
  have J:(d.take (min k c*n)).length=min k c*n:=by rw[xe];omega
  have hB:f_ w r e cur:=c3;have d4:c*n<=c0*n:=Ym n a4
  have U:(Builtin.firstCells n (min k c) (a.eval y)).run P w=.ok (d.take (min k c*n)).toArray w:=by
   rw[e1];cases A1 with
   | none=>
    have b9:k=0:=by rcases ZP k with X|X;exact X;obtain⟨b,o1,e2,_⟩:=g4 X;cases e2
    subst b9;simp[Builtin.firstCells]
   | some ad=>
    have L:∀ j u,(d.take (min k c*n))[j]?=some u->w.cell? (ad.add j)=some u:=by
     intro j u Y;rw[x8] at Y;split at Y;rename_i b7
     obtain⟨b,o1,e2,hc⟩:=g4 (by
      rcases ZP k with X|X;subst X;simp at b7
      exact X)
     cases e2;rw[add_lit];exact hc j u Y;cases Y
    have:=run_loadCells_list (P:=P) w ad (d.take (min k c*n)) L;rw[J] at this;exact this
  have T:=sG g1 N;have I:(storeCells ⟨r,0,none⟩ (d.take (min k c*n))).run P w=.ok () (w.setCells r 0 (d.take (min k c*n))):=by have b1:=uI hB 0 (c*n) a_;have:=run_storeCells_cells (P:=P) r 0 (d.take (min k c*n)) 0 w (fun j Y=>by have:=(b1 (0+j) a_).1;simpa using this) (fun j Y=>by simpa using hB.frozen _) (fun v hv=>T v (List.mem_of_mem_take hv));simpa using this
  have D:(Builtin.copy_ #[t,t] o.type #[a.eval x,a.eval y]).run P w=.ok (goInt (min k c:Nat)) (w.setCells r 0 (d.take (min k c*n))):=by
   have a5:(Builtin.lenOf (a.eval y)).run P w=.ok k w:=by rw[e1];rfl
   rw[C];simp only[Builtin.copy_];simp[xy hu,a5,sizeOf,Yj,W,b2,show Nat.min k c=min k c from rfl,U,I]
  have hc:=(eU r (d.take (min k c*n)) 0 w).1;have a2:=(eU r (d.take (min k c*n)) 0 w).2;have a3:(w.setCells r 0 (d.take (min k c*n))).ownsRow 0 e n (.slice (some ⟨r,0,none⟩) c c0) c (over vs 0 (d.take (min k c*n))):=by refine⟨by rw[nC (by rw[J,l.1];omega)];exact l.1,.inr ⟨r,c0,(over cur.toList 0 (d.take (min k c*n))).toArray,rfl,c9,aXo hB _ _ a_,a4,c8,?_,?_⟩⟩;rw[Yx,nC (by rw[J,uA];omega),uA,c7];rw[<-S];exact aIl a_ (by rw[uA];omega)
  obtain⟨a6,E⟩:=h.upd x1 none B (.slice (some ⟨r,0,none⟩) c c0) (.arr e n c (XY (min k c) f f')) (hc.mono fun b _ e=>⟨B,_,G,by rw[e];rfl⟩) (fun v hd e=>by rw[G] at e;cases e;exact .inr ⟨rfl,rfl⟩) (fun b' d1=>by cases d1;exact⟨by rw[a2];exact hB.lt,.inr ⟨B,_,G,rfl⟩⟩)
   (
    fun E _=>⟨_,yC a3,bIg (Nat.min_le_right _ _) l.1 J (fun i hi=>(c6 i hi).le E) (fun i hi=>by
    have c2:(i+1)*n<=min k c*n:=Ym n hi;rw[Yd,ZH] at c2;rw[aFO,aFe,aAs (show n<=min k c*n-i*n by omega)]
    exact (N i a_).le E)⟩)
  refine aK (v:=.int .i64 (min k c:Nat)) (w':=w.setCells r 0 (d.take (min k c*n))) ?_ (hf _ _ _ _ _ hF a6 (.w (.one (.lit rfl))));simp only[uu,ho,resolve,ZL,builtin,Sem.run_bind,Sem.run_pure,Result.andThen_ok,aBc,DD,ZY,D];rfl
 exact q.elim
def o5(C:Ctx):jl->ji->Prop
 |[],[]=>True|v::vs,x::l=>RV C v x/\o5 C vs l|_,_=>False
theorem o5.append{C:Ctx}:∀ {c:jl} {l:ji} {b:jl} {d:ji},o5 C c l->o5 C b d->o5 C (c++b) (l++d)
 |[],[],_,_,_,h=>h|[],_::_,_,_,h,_=>h.elim|_::_,[],_,_,h,_=>h.elim|_::_,_::_,_,_,⟨h1,h2⟩,h=>⟨h1,h2.append h⟩
theorem o5.Ef{C:Ctx}:∀ {d:dw} {l:ji},RL C d l->(d.all fun c=>bu c.width 1)=true->o5 C (d.map dm) l
 |[],l,h,_=>by cases h;exact trivial| c::d,l,h,hw=>by
  rw[ZF,ww] at hw;cases h with
  |@cons _ _ _ f i b g=>
   have e:=b.width;rw[ig hw.1] at e
   match f,e,b with
   |[v],_,b=>exact⟨.w (.one b),o5.Ef g hw.2⟩
theorem PI.vals{C:Ctx}{a:Act}:∀ {b:jl} {l:List lL},PI C a b l->o5 C b (l.map a.eval)
 |[],[],_=>trivial|[],_::_,h=>h.elim|_::_,[],h=>h.elim|_::_,_::_,⟨h1,h2⟩=>⟨h1,h2.vals⟩
def DW(A:lh)(b:List PanicEntry)(w:ae):Prop:=∃ l,A.dn l/\A.dv.O l=none/\A.dv.pan l A.X0 w b/\gu A.S A.w0 w
def D_(A:lh)(Q:nz->Act->je):Prop:=∀ b a w,a.defers=A.ds->DW A b w->Q (.panic b) a w
def sQ(e:Int):Acc:=⟨-1,e,0,aG⟩
def aGc(T:bi)(e:Int):List PanicEntry:=[{ v:=.iface T (.agg #[.int .i64 e]),recovered:=false }]
def Zr(T:bi)(O:qy):Prop:=O []=some ⟨(T:Int)+1,aG⟩/\∀ l e,O (l++[sQ e])=none
structure oz(P:dE)(D:Dv)(dn:jc->Prop):Prop where
 step:∀ l X w,D.inv l X w->∃ F caps,D.hd=.func (.func F) #[] caps/\(∀ args w,(YR F args).run P w=.ok (.enter F args) w) /\
  ∀ c:Acc,c.kind ≠ -1->(D.O (l++[c])=none->dn (l++[c]))->Calls P F (#[c.v]++caps) w fun e w'=>gu D.S w w'/\((∃ r,D.O (l++[c])=some r/\e=.returned r.v/\D.inv (l++[c]) X w')\/(∃ chain,D.O (l++[c])=none/\e=.panicked chain/\D.pan (l++[c]) X w' chain))
 fail:∀ T,Zr T D.O->∀ l X w,D.inv l X w->D.O l≠none/\∀ e,D.pan (l++[sQ e]) X w (aGc T e)
theorem oz.mono{P:dE}{D:Dv}{dn b:jc->Prop}(h:oz P D dn)(hs:∀ l,b l->D.O l=none->dn l):oz P D b:=⟨fun l X w f=>by
 obtain⟨F,d,k,j,i⟩:=h.step l X w f
 exact⟨F,d,k,j,fun c m g=>i c m fun e=>hs _ (g e) e⟩,h.fail⟩
structure jo(P:dE)(I:je)(A:lh):Prop where
 mem:∀ w,gu A.S A.w0 w->I w
 sub:∀ b,A.dv.S b->A.S b
 old:∀ b,A.S b->b<A.w0.heap.size/\¬A.ok0 b
 step:oz P A.dv A.dn
 dvh:∀ l X w,A.dv.inv l X w->A.ext dx=some A.dv.hd
 Ci:∀ l X Y w w' chain,A.dv.pan l X w chain->gu X w w'->(∀ b,Y b->X b)->A.dv.pan l Y w' chain
structure d_(P:dE)(I:je)(f:Nat)(sp:Spec):Prop where
 enters:∀ args w,(YR f args).run P w=.ok (.enter f args) w
 calls:∀ (A:lh) (s:St) (a:Act) (w:ae) (env:Env) (nm:Nat) (pvs:jl) (vs:ji) (F:mi->PV->Wr->Prop),gy A s a w env->jo P I A->o5 (aI A w env) pvs vs->(sp nm pvs).ok none s F ->
  Calls P f vs.toArray w fun e w'=>(∃ v wr val env',e=.returned val/\F none v wr/\gy A { s with o:=wr++s.o } a w' env'/\RV (aI A w' env') v val)\/(∃ chain,e=.panicked chain/\DW A chain w')
def aGz(P:dE)(I:je)(G:Specs):Prop:=∀ f b,G f=some b->d_ P I f b
variable {I:je} {G:Specs}
theorem RV.NR{C:Ctx}{v:ag}(h:RV C (.w (.one .dv)) v):At C dx 0 (fun b=>v=b):=by cases h.inv with|dv _ h=>exact h
theorem bDj{C:Ctx}:∀ {l:ji},(l.all (·.oneCell'))=true->RL C (l.map PC.lit) l
 |[],_=>.nil|v::l,h=>by rw[ZF,ww] at h;exact .cons (xs:=[v]) (.lit h.1) (bDj h.2)
theorem aPa{C:Ctx}:∀ {l:dw} {f e:ji},aPb l=some f->RL C l e->e=f
 |[],_,_,h,b=>by cases h;cases b;rfl| c::l,_,_,h,b=>by
  cases c<;>simp only[aPb] at h<;>try (cases h;done)
  rename_i v;cases d:aPb l with
  |none=>rw[d] at h;cases h|some r=>
   rw[d] at h;cases h;cases b with
   |cons i g=>cases i;rw[aPa d g];rfl
theorem aOx(h:gy A s a w env){fn:Fn}{first cap:Array lL}(g:o.op=.makeFunc fn first cap){e cs:jl}{l:ji}(h1:PI (aI A w env) a e first.toList)(h2:PI (aI A w env) a cs cap.toList)(h3:bFx e=some l)(h4:Gw cs=some [])
  (k:F none (o7 (.func fn #[.agg l.toArray] #[])) []) (i:Fin A s a o K F):o.wp P a w K Q:=by
 have j:cap=#[]:=by
  cases cs with
  |nil=>
   cases d:cap.toList with
   |nil=>apply GM;simpa using d|cons y t=>rw[d] at h2;exact h2.elim
  |cons v l=>
   unfold Gw at h4
   cases n:QO v<;>cases m:Gw l<;>simp only[n,m] at h4<;>cases h4
 unfold bFx at h3;split at h3
 ·rename_i pl
  match d:first.toList,h1 with
  | [y],h1=>
   obtain⟨b,_⟩:=h1;have r:first=#[y]:=by apply GM;simpa using d
   generalize f:a.eval y=q at b;cases b with
   | w b=>cases b with
    |@agg _ c b=>
     have p:c=l.toArray:=by apply GM;simpa using aPa h3 b
     refine aK (v:=.func fn (first.map a.eval) (cap.map a.eval)) (w':=w) ?_ (i.same h k (.w (.one ?_)));simp[uu,g,Instr.makeFunc];rw[r,j];simp only[aBc,DD,ZY,f,p];exact .lit rfl
 cases h3
theorem TR (hG:aGz P I G) (hI:jo P I A) (hQ:D_ A Q) (h:gy A s a w env) {nm:Nat} {f:lL} {args:Array lL} {a6:Array bi} (ho:o.op=.call { callee:=.value f,args:=args,argTypes:=a6 }) {fv:PV} (C:RV (aI A w env) fv (a.eval f)) {xs:jl} (p:PI (aI A w env) a xs args.toList)
  (d:(OC G nm fv xs).ok none s F) (hf:Fin A s a o K F):o.wp P a w K Q:=by
 have V:∀ (g:Nat) (z:Spec) (B:jl) (vs:ji),G g=some z->o5 (aI A w env) B vs->(z nm B).ok none s F->(uu a.eval o).run P w=(YR g vs.toArray).run P w->o.wp P a w K Q:=by intro g z B vs hg j d u;have hs:=hG g z hg;unfold Oper.wp;rw[u,hs.enters,Oper.upon_enter];refine (hs.calls A s a w env nm B vs F h hI j d).mono ?_;rintro e X (⟨v,wr,a5,a3,rfl,i,U,T⟩|⟨m,rfl,i⟩);exact hf v wr a5 X a3 i U T;exact hQ m a X h.defers i
 unfold OC at d;split at d
 ·unfold doM at d;split at d
  ·rename_i k b c x
   cases a0:decide (k = -1)<;>rw[a0] at d
   rotate_left;exact d.elim;unfold aFS at d;obtain⟨g,vr,ob,N,d⟩:=d;have a7:=dD d;clear d;obtain⟨hg,d⟩:=a7
   cases W:bu vr 0<;>cases ob<;>simp only[W] at d<;>try exact d.elim
   rename_i O dn l;obtain rfl:=ig W;obtain⟨Z,_,hF⟩:=d;obtain⟨hO,Y,E⟩:=h.dev g 0 O dn l N hg;subst hO Y;obtain⟨F0,a4,a8,a2,L⟩:=hI.step.step l _ w E;obtain⟨hd,he,_⟩:=h.jv dx g 0 _ N;have t:a.eval f=hd:=C.NR.now he;have H:=(h.n_ dx _ (hI.dvh _ _ _ E)).2.now he;rw[a8] at H;rw[H] at t
   have S : args.map a.eval=#[(⟨k,b,c,x⟩:Acc).v]:=by
    apply GM;rw[aFP]
    match hl:args.toList,p with
    | [y], p=>
     obtain⟨j,_⟩:=p;generalize hq:a.eval y=q at j;cases j with
     | w j => cases j with
      | @agg _ n j=>
       have a9:n.toList=[.int .i64 k,.int .i64 b,.int .i64 c,.string x]:=by
        generalize n.toList=cl at j;cases j with
        | cons i j=>cases i;cases j with
         | cons i j=>cases i;cases j with
          |cons i j=>cases i;cases j with
           |cons i j=>cases i;cases j;rfl
       have:n=#[.int .i64 k,.int .i64 b,.int .i64 c,.string x]:=by apply GM;simpa using a9
       simp[hq,this,Acc.v]
   have u:(uu a.eval o).run P w=(YR F0 (#[(⟨k,b,c,x⟩:Acc).v]++a4)).run P w:=by simp[uu,ho,resolve,t,Deferred.ofValue,ZL,S]
   unfold Oper.wp;rw[u,a2,Oper.upon_enter];refine (L ⟨k,b,c,x⟩ (of_decide_eq_false a0) Z).mono ?_;rintro e X ⟨hc,⟨r,D,rfl,hi⟩|⟨m,D,rfl,hp⟩⟩;obtain⟨i,b1⟩:=h.asked N hg hI.sub (fun b W=>hI.old b (hI.sub b W)) hc hi;have b0:F none (VW (A.dv.O (l++[(⟨k,b,c,x⟩:Acc)]))) [(dx,none,0,.dev A.dv.O A.dn (l++[(⟨k,b,c,x⟩:Acc)]))]:=hF;refine hf (VW (A.dv.O (l++[(⟨k,b,c,x⟩:Acc)]))) [(dx,none,0,.dev A.dv.O A.dn (l++[(⟨k,b,c,x⟩:Acc)]))] r.v X env b0 i ?_;rw[D];refine .w (.agg ?_);show RL _ [.lit (.int .i64 r.val),.lit (.string r.bytes)] [.int .i64 r.val,.string r.bytes];exact .cons (xs:=[_]) (.lit rfl) (.cons (xs:=[_]) (.lit rfl) .nil);exact hQ m a X h.defers ⟨l++[(⟨k,b,c,x⟩:Acc)],Z D,D,hI.Ci _ _ _ _ _ _ hp (gu.refl _ _) (fun b W=>.inl W),h.iq.trans (hc.mono fun b _ hs=>hI.sub b hs)⟩
  exact d.elim
 ·rename_i g first cap
  split at d
  ·rename_i z i U T;have t:=C.h_;have e1:first=#[]:=by apply GM;simpa using i
   have e2:cap=#[]:=by apply GM;simpa using U
   subst e1 e2;refine V g z xs (args.toList.map a.eval) T p.vals d ?_;have e3:(args.toList.map a.eval).toArray=args.map a.eval:=by apply GM;simp
   rw[e3];simp[uu,ho,resolve,t,Deferred.ofValue,ZL]
  ·rename_i n z i U T
   cases J:n.toList.all (·.oneCell')<;>simp only[J] at d<;>try exact d.elim
   have t:=C.h_;have e1:first=#[.agg n]:=by apply GM;simpa using i
   have e2:cap=#[]:=by apply GM;simpa using U
   subst e1 e2;refine V g z (.w (.agg (n.toList.map .lit))::xs) (.agg n::args.toList.map a.eval) T ⟨.w (.agg (bDj J)),p.vals⟩ d ?_;have e3:(Value.agg n::args.toList.map a.eval).toArray=#[.agg n]++args.map a.eval:=by apply GM;simp
   rw[e3];simp[uu,ho,resolve,t,Deferred.ofValue,ZL]
  exact d.elim
 ·rename_i g first cap
  split at d;rename_i z i U T;have a1:=C.inv;generalize hq:a.eval f=q at a1;cases a1 with
  |@fn _ _ _ _ fs n r1 r2=>
   refine V g z _ (fs++args.toList.map a.eval++n) i (((o5.Ef r1 U).append p.vals).append (o5.Ef r2 T)) d ?_;have e3:(fs++args.toList.map a.eval++n).toArray=fs.toArray++args.map a.eval++n.toArray:=by apply GM;simp
   rw[e3];simp[uu,ho,resolve,hq,Deferred.ofValue,ZL]
  exact d.elim
 exact d.elim
theorem aPj{t:bi}{k:M}(b:(aWp P t k).ok none s F):P.eqGuardType P.depth t=false/\k.ok none s F:=by unfold aWp at b;split at b;split at b;rename_i c;exact⟨c,b⟩;exact b.elim;exact b
theorem zN{t e:bi}(f:P.underlying t=some (.slice e))(d:Nat)(b:Addr)(l c:Nat)(w:ae):(Op.equalIn (d+1) t (.slice (some b) l c) (.slice none 0 0)).run P w=.ok false w:=by simp[Op.equalIn,xy f]
theorem aSh{t e:bi}(d:P.underlying t=some (.slice e))(b:Addr)(l c:Nat)(w:ae):(binOp .eql t (.slice (some b) l c) (.slice none 0 0)).run P w=.ok (.bool false) w:=by
 show (do pure (Value.bool (<-Op.equal t (.slice (some b) l c) (.slice none 0 0))):Sem ag).run P w=_;rw[Sem.run_bind,show Op.equal t (.slice (some b) l c) (.slice none 0 0)=Op.equalIn (9999+1) t (.slice (some b) l c) (.slice none 0 0) from rfl,zN d];rfl
theorem aSf{t e:bi}(d:P.underlying t=some (.slice e))(b:Addr)(l c:Nat)(w:ae):(binOp .neq t (.slice (some b) l c) (.slice none 0 0)).run P w=.ok (.bool true) w:=by
 show (do pure (Value.bool (!(<-Op.equal t (.slice (some b) l c) (.slice none 0 0)))):Sem ag).run P w=_;rw[Sem.run_bind,show Op.equal t (.slice (some b) l c) (.slice none 0 0)=Op.equalIn (9999+1) t (.slice (some b) l c) (.slice none 0 0) from rfl,zN d];rfl
theorem Xh(h:gy A s a w env){O:BinOp}{t ty:bi}{x y:lL}(ho:o.op=.binOp O t x y ty){p q:PV}(C:RV (aI A w env) p (a.eval x))(L:RV (aI A w env) q (a.eval y))(c:(Xi P O t x y p q).ok none s F)(u:Fin A s a o K F):o.wp P a w K Q:=by
 have b:∀ v,(do eqGuard O t x y (a.eval x) (a.eval y);binOp O t (a.eval x) (a.eval y):Sem ag).run P w=.ok v w->(uu a.eval o).run P w=.ok (.value v) w:=fun v J=>by
  simp only[uu,ho,Sem.run_bind] at J ⊢;rw[J];simp
 unfold Xi at c
 split at c
 rename_i va vb;have H:=C.h_;have z:=L.h_;rw[H,z] at b
 split at c
 split at c
 rename_i D;subst D;obtain⟨i,d⟩:=c;have g:¬_=(0:Int):=i;exact aK (b _ (by simp[eqGuard,binOp,Op.intDiv,g])) (u.same h d (.w (.one (.lit rfl))));exact c.elim
 split at c
 rename_i D;subst D;obtain⟨i,d⟩:=c;have g:¬_=(0:Int):=i;exact aK (b _ (by simp[eqGuard,binOp,Op.intDiv,g])) (u.same h d (.w (.one (.lit rfl))));exact c.elim;obtain⟨i,d⟩:=c;have g:¬_<(0:Int):=Int.not_lt.2 i;exact aK (b _ (by simp[eqGuard,binOp,Op.shift,g])) (u.same h d (.w (.one (.lit rfl))));obtain⟨i,d⟩:=c;have g:¬_<(0:Int):=Int.not_lt.2 i;exact aK (b _ (by simp[eqGuard,binOp,Op.shift,g])) (u.same h d (.w (.one (.lit rfl))));obtain⟨i,d⟩:=c;refine aK (b _ ?_) (u.same h d (.w (.one (.lit rfl))));rename_i m n
 have B:¬(((m.size+n.size:Nat):Int) > IntKind.i64.max):=by
  have:m.size+n.size<=9223372036854775807:=i;have e:IntKind.i64.max=9223372036854775807:=g_;rw[e];omega
 simp only[eqGuard,binOp,Op.stringOp,Sem.run_bind];rw[ay B];rfl;obtain⟨r,B,E,d⟩:=aSn c;exact aK (b r (aBd B)) (u.same h d (.w (.one (.lit E))));rename_i l m
 have N:∀ r,Zp P 8 t l m=some r->gQ P t=some true->∃ k j,a.eval x=.agg k/\a.eval y=.agg j/\(Op.equalIn 10000 t (.agg k) (.agg j)).run P w=.ok r w:=by
  intro r J V
  have H:CU P t l=some (.agg l):=by unfold CU;rw[V]
  have z:CU P t m=some (.agg m):=by unfold CU;rw[V]
  generalize a.eval x=X at C;generalize a.eval y=vy at L
  cases C with
  | w C=>cases C with
   | @agg _ k B=>cases L with
    |w L=>cases L with
     |@agg _ j E=>exact⟨k,j,rfl,rfl,NK 8 J H z (.agg B) (.agg E) 9991 w⟩
 split at c
 rename_i r B T;obtain⟨E,c⟩:=aPj c;obtain⟨k,j,H,z,U⟩:=N r B T;rw[H,z] at b;refine aK (b (.bool r) ?_) (u.same h c (.w (.one (.lit rfl))));rw[Sem.run_bind,run_eqGuard_agg w _ t x y k j E,Result.andThen_ok,run_eql_struct w t k j,U,Result.andThen_ok];rename_i r B T;obtain⟨E,c⟩:=aPj c;obtain⟨k,j,H,z,U⟩:=N r B T;rw[H,z] at b;refine aK (b (.bool (!r)) ?_) (u.same h c (.w (.one (.lit rfl))));rw[Sem.run_bind,run_eqGuard_agg w _ t x y k j E,Result.andThen_ok,run_neq_struct w t k j,U,Result.andThen_ok];exact c.elim;rename_i n len f;have z:=L.h_;generalize Z:a.eval x=X at C b
 cases C.inv with
 |@sl _ _ _ _ _ vs J a1 a0=>
  obtain⟨_,A1,c1,rfl,_,_,W⟩:=J
  split at c
  rename_i e S;obtain⟨i,d⟩:=c;obtain⟨b',Y,rfl,_⟩:=W i;refine aK (b (.bool false) ?_) (u.same h d (.w (.one (.lit rfl))));rw[z,Sem.run_bind,show (eqGuard .eql t x y (.slice (some _) _ _) (.slice none 0 0):Sem Unit).run P w=.ok () w from rfl,Result.andThen_ok,aSh S];rename_i e S;obtain⟨i,d⟩:=c;obtain⟨b',Y,rfl,_⟩:=W i;refine aK (b (.bool true) ?_) (u.same h d (.w (.one (.lit rfl))));rw[z,Sem.run_bind,show (eqGuard .neq t x y (.slice (some _) _ _) (.slice none 0 0):Sem Unit).run P w=.ok () w from rfl,Result.andThen_ok,aSf S];exact c.elim
 exact c.elim
theorem aTd(h:gy A s a w env){x:lL}(i:o.op=.nilCheck x){v:PV}(c:RV (aI A w env) v (a.eval x))(g:bGf v=true)(k:F none v [])(j:Fin A s a o K F):o.wp P a w K Q:=by
 have e:∃ b o,a.eval x=.pointer (some ⟨b,o,none⟩):=by
  unfold bGf at g
  split at g<;>first|(cases g;done)|skip
  cases c.inv with|pt d _=>exact d
  cases c.inv with|pk d _=>exact d
  cases c.inv with|pe d _=>exact d
  generalize a.eval x=q at c;cases c.inv with|pf _ _ _ _=>exact⟨_,_,rfl⟩
  generalize a.eval x=q at c;cases c.inv with|pa _ _ _ _=>exact⟨_,_,rfl⟩
 obtain⟨b,f,e⟩:=e;rw[e] at c;exact aK (v:=.pointer (some ⟨b,f,none⟩)) (w':=w) (by simp[uu,i,e]) (j.same h k c)
theorem bBb(h:gy A s a w env){t:bi}{x:lL}(C:o.op=.sliceToArrayPointer t x){v:PV}(m:RV (aI A w env) v (a.eval x))(d:(aMn P t v).ok none s F)(D:Fin A s a o K F):o.wp P a w K Q:=by
 unfold aMn at d;split at d;rename_i n e k len f y;split at d;rename_i T E;obtain rfl:=ig E;obtain⟨⟨g,b⟩,H⟩:=d;generalize B:a.eval x=q at m;cases m.inv with
 |@sl _ _ _ _ _ S z l i=>obtain⟨N,U,r,rfl,L,J,p⟩:=z;obtain⟨O,u,rfl,j⟩:=p b;refine aK (v:=.pointer (some ⟨O,u,none⟩)) (w':=w) (by simp[uu,C,B,run_arrayAt w t e n _ len r y g]) (D.same h H (.w (.one (.pa (c:=r) ⟨N,_,_,rfl,L,J,p⟩ (l _ rfl b) i b))))
 exact d.elim;exact d.elim
theorem WB(h:gy A s a w env){args:Array lL}{c:Array bi}{x y:lL}(g:o.op=.call { callee:=.builtin .min,args:=args,argTypes:=c })(j:args=#[x,y]){p q:PV}(f:RV (aI A w env) p (a.eval x))(e:RV (aI A w env) q (a.eval y))(b:(WC p q).ok none s F)(i:Fin A s a o K F):o.wp P a w K Q:=by
 subst j;unfold WC at b;split at b
 ·split at b
  ·rename_i k m u n d;subst d;have t:=f.h_;have r:=e.h_;refine aK (v:=.int k (min m n)) (w':=w) ?_ (i.same h b (.w (.one (.lit rfl))))
   have l:(if n<m then n else m)=min m n:=by split<;>omega
   simp[uu,g,resolve,ZL,t,r,builtin,Builtin.min_,Builtin.min2,l]
  exact b.elim
 exact b.elim
theorem WP(h:gy A s a w env){args:Array lL}{c:Array bi}{x y:lL}(g:o.op=.call { callee:=.builtin .max,args:=args,argTypes:=c })(j:args=#[x,y]){p q:PV}(f:RV (aI A w env) p (a.eval x))(e:RV (aI A w env) q (a.eval y))(b:(WQ p q).ok none s F)(i:Fin A s a o K F):o.wp P a w K Q:=by
 subst j;unfold WQ at b;split at b
 ·split at b
  ·rename_i k m u n d;subst d;have t:=f.h_;have r:=e.h_;refine aK (v:=.int k (max m n)) (w':=w) ?_ (i.same h b (.w (.one (.lit rfl))))
   have l:(if m<n then n else m)=max m n:=by split<;>omega
   simp[uu,g,resolve,ZL,t,r,builtin,Builtin.max_,Builtin.max2,l]
  exact b.elim
 exact b.elim
theorem aUm(T:aGz P I G)(hI:jo P I A)(S:D_ A Q)(h:gy A s a w env){N:Nat}(b:(body P G N o).ok none s F)(d:Fin A s a o K F):o.wp P a w K Q:=by
 obtain⟨V,Y,X,L,D,C⟩:=o;unfold body at b;dsimp only at b;split at b;exact bFg h (.inl rfl) b d;exact bFg h (.inr rfl) b d;exact QX h rfl b d;split at b;rename_i l q;exact OX h rfl q b d;exact b.elim;obtain⟨pv,c,b⟩:=fC h b;split at b;split at b;cases c with|w c=>exact Xf h rfl c b d
 exact b.elim;exact b.elim;obtain⟨pv,c,b⟩:=fC h b;exact RU h rfl c b d;obtain⟨pv,c,b⟩:=fC h b;obtain⟨j,g,b⟩:=fC h b;exact IP h rfl c g b d;obtain⟨pv,c,b⟩:=fC h b;exact aPx h rfl c b d;obtain⟨pv,c,b⟩:=fC h b;obtain⟨j,g,b⟩:=fC h b;exact aPf h rfl c g b d;obtain⟨pv,c,b⟩:=fC h b;exact N7 h rfl c b d;obtain⟨pv,c,b⟩:=fC h b;exact bAi h rfl c b d;obtain⟨J,c,b⟩:=aBo h b;split at b;rename_i l q;exact OH h rfl c q b d;exact b.elim;obtain⟨J,c,b⟩:=aBo h b;exact aMi h rfl c b d;obtain⟨pv,c,b⟩:=fC h b;obtain⟨Z,u,b⟩:=aXb h b;obtain⟨hv,O,b⟩:=aXb h b;exact Il h rfl c u O b d;obtain⟨pv,c,b⟩:=fC h b;obtain⟨j,g,b⟩:=fC h b;exact Xh h rfl c g b d;obtain⟨pv,c,b⟩:=fC h b;split at b;rename_i v u;exact Pm h rfl c u b d;exact b.elim;obtain⟨pv,c,b⟩:=fC h b;exact bAr h rfl c b d;obtain⟨pv,c,b⟩:=fC h b;obtain⟨j,g,b⟩:=fC h b;exact RG h rfl c g b d;rename_i args e;split at b;rename_i x y t E i k;split at b;rename_i p;obtain rfl:=ig p;obtain⟨pv,c,b⟩:=fC h b;obtain⟨j,g,b⟩:=fC h b;obtain rfl:args=#[x,y]:=by apply GM;simpa using i
 obtain rfl:e=#[t,t]:=by apply GM;simpa using k
 exact TJ h rfl c g b d;exact b.elim;exact b.elim;obtain⟨pv,c,b⟩:=fC h b;split at b;rename_i p;exact aTd h rfl c p b d;exact b.elim;obtain⟨pv,c,b⟩:=fC h b;exact bBb h rfl c b d;rename_i args e;split at b;rename_i x y i;obtain⟨pv,c,b⟩:=fC h b;obtain⟨j,g,b⟩:=fC h b;exact WB h rfl (by apply GM;simpa using i) c g b d;exact b.elim;rename_i args e;split at b;rename_i x y i;obtain⟨pv,c,b⟩:=fC h b;obtain⟨j,g,b⟩:=fC h b;exact WP h rfl (by apply GM;simpa using i) c g b d;exact b.elim;obtain⟨fs,m,b⟩:=aDi h b;obtain⟨cs,n,b⟩:=aDi h b;split at b;rename_i fp cp H B;exact aTg h rfl m n H B b d;rename_i H B;split at b;rename_i l U;exact aOx h rfl m n U B b d;exact b.elim;exact b.elim;rename_i f args e;obtain⟨fv,z,b⟩:=fC h b;obtain⟨W,r,b⟩:=aDi h b;exact TR T hI S h rfl z r b d;rename_i args e;split at b;rename_i x t i k;obtain⟨pv,c,b⟩:=fC h b;obtain rfl:args=#[x]:=by apply GM;simpa using i
 obtain rfl:e=#[t]:=by apply GM;simpa using k
 exact Wj h rfl c b d;exact b.elim;rename_i args e;split at b;rename_i x y t E i k;split at b;rename_i p;obtain rfl:=ig p;obtain⟨pv,c,b⟩:=fC h b;obtain⟨j,g,b⟩:=fC h b;obtain rfl:args=#[x,y]:=by apply GM;simpa using i
 obtain rfl:e=#[t,t]:=by apply GM;simpa using k
 exact bJh h rfl c g b d;obtain⟨pv,c,b⟩:=fC h b;obtain⟨j,g,b⟩:=fC h b;obtain rfl:args=#[x,y]:=by apply GM;simpa using i
 obtain rfl:e=#[t,E]:=by apply GM;simpa using k
 exact bJi h rfl c g b d;exact b.elim;exact b.elim
theorem Vj(hG:aGz P I G)(hI:jo P I A)(hQ:D_ A Q)(E:Nat)(ops:Array df)(hd:∀ (i:Nat) (o:df) d,ops[i]?=some o->o.dst=some d->d<A.nt):Fb P ops Q (oq A) (pJ P G E ops.toList):=by
 intro i o s a w V X hg J hc K hK;have c:=M.y8 _ none s V (fun g v wr=>∀ l k,oq A (appW o.dst g v wr s) l k->K l k) J hc (fun l k h=>hK l k ((aPo A) _ _ _ _ (fun _=>rfl) (fun _=>rfl) h));obtain⟨env,C⟩:=hg
 have n:∀ (F:mi->PV->Wr->Prop),(∀ v wr,F none v wr->∀ l k,oq A (appW o.dst none v wr s) l k->K l k)->Fin A s a o K F:=by
  intro F hF v wr D k p B S h3;refine hF v wr B _ _ ⟨p,?_⟩;have:=S.put o.dst none v D (fun t W=>hd i o t X W) (fun _=>h3) (fun h=>by cases h)
  have e:appW o.dst none v wr s=JW o.dst none v { s with o:=wr++s.o }:=by unfold appW app JW;cases o.dst<;>rfl
  rw[e];exact this
 unfold wpOp;rw[X];dsimp only;unfold pJ at c;cases r:o.guard with
 |none=>
  rw[r] at c;have z:Region.wanted o (YV ops a.tmps)=true:=by simp[Region.wanted,r]
  rw[au z];exact .inl (aUm hG hI hQ C c (n _ fun v wr h=>h))
 | some jp=>
  obtain⟨j,q⟩:=jp;rw[r] at c;dsimp only at c;cases Y:(ops.toList[j]?).bind (·.dst) with
  |none=>rw[Y] at c;exact c.elim| some U=>
   rw[Y] at c;obtain⟨g,v,N,c⟩:=c;have O:(ops[j]?).bind (·.dst)=some U:=by simpa using Y
   have f:∀ T,Region.wanted o (YV ops a.tmps)=T->(M.gate T (body P G (E*1000+i) o)).ok none s (fun g v wr=>∀ l k,oq A (appW o.dst g v wr s) l k->K l k) ->
     (if Region.wanted o (YV ops a.tmps)=true then o.wp P a w K Q\/(o.asks P a w/\LetsOut Q) else K (a.put o.dst bz) w):=by
    intro T m c;obtain⟨_,c⟩:=c;cases T with
    |true=>rw[au m];refine .inl (aUm hG hI hQ C (bGp _ s _ c) (n _ fun v wr h=>?_));intro l k L;exact h.2.2 l k (L.aEF h.2.1)|false=>
     rw[ay (by rw[m];exact Bool.false_ne_true)];obtain⟨v,wr,B,S⟩:=bAb _ s _ c;obtain⟨p,h3⟩:=gy.aKR wr s env C S;refine B _ _ ⟨p,?_⟩;have:=h3.put o.dst (some false) v bz (fun t W=>hd i o t X W) (fun hg=>absurd hg (by simp[gT])) (fun _=>rfl)
     have e:appW o.dst (some false) v wr s=JW o.dst (some false) v { s with o:=wr++s.o }:=by unfold appW app JW;cases o.dst<;>rfl
     rw[e];exact this
   have x:Region.wanted o (YV ops a.tmps)=(YV ops a.tmps j==some q):=by simp[Region.wanted,r]
   have u:∀ b,gT g->v=o7 (.bool b)->Region.wanted o (YV ops a.tmps)=Ed q b:=by
    intro b Z hv;subst hv;obtain⟨D,B,S⟩:=C.tmps U g _ N Z;have H:=S.Az;subst H;have y:YV ops a.tmps j=some b:=by unfold YV;rw[O];simp[B]
    rw[x,y]
    cases q<;>cases b<;>rfl
   dsimp only at c;split at c
   ·rename_i b;have z:=u b trivial rfl
    cases hk:G 5<;>cases hp:Ed q b<;>simp only[hk,hp] at c z
    exact f _ z c;exact f _ z c;exact f _ z c;rw[au z];exact .inl (aUm hG hI hQ C c (n _ fun v wr h=>h))
   rename_i b0 b;refine f _ ?_ c;cases b0 with
   |true=>rw[Bool.true_and];exact u b rfl rfl| false=>
    have B:=C.und U _ N;have y:YV ops a.tmps j=none:=by unfold YV;rw[O];simp[B,bz]
    rw[x,y,Bool.false_and];rfl
   exact c.elim
def jw(P:dE)(A:lh)(s:St)(c:yf)(Q:nz->Act->je):Prop:=∀ a w,oq A s a w->D_ A Q->c.wp P Q a w
def YM(A:lh)(s:St)(Q:Act->je):Prop:=∀ a w,oq A s a w->Q a w
def EW(P:dE)(A:lh)(c:yf)(Q:nz->Act->je):Act->ae->Prop:=fun a w=>D_ A Q->c.wp P Q a w
structure jq(P:dE)(I:je)(G:Specs):Prop where
 aBZ:aGz P I G
 mixed:P.follows .mixedOrders=true
def qR(a:Nat)(l:List df):Bool:=l.all fun o=>match o.dst with
 |some d=>Hm d a|none=>true
def bGv(s:St)(x:Nat)(k:Nat->Option Out):Option Out:=match find s.o x with
 |some (_,vr,_)=>k (vr+1)|none=>k 0
theorem bGu(s:St)(x:Nat)(k:Nat->Option Out):bGv s x k=k (fresh s x):=by
 unfold bGv fresh;cases find s.o x with
 |none=>rfl|some p=>rfl
def M.exec:M->mi->St->List Prop->List Nat->List Nat->Wr->Option Out
 |.ret v,h,_,c,rt,ro,wr=>some ⟨h,v,c,rt,ro,wr⟩|.fail,_,_,_,_,_,_=>none|.need p k,h,s,c,rt,ro,wr=>k.exec h s (c++[hP h p]) rt ro wr|.tmp t k,h,s,c,rt,ro,wr=>match find s.t t with
  |some (g,v)=>(k g v).exec h s c (rt++[t]) ro wr|none=>none
 |.obj x k,h,s,c,rt,ro,wr=>match find s.o x with
  |some (g,vr,ob)=>(k g vr ob).exec h s c rt (ro++[x]) wr|none=>none
 |.new x ob k,h,s,c,rt,ro,wr=>bGv s x fun v=>(k v).exec h s c rt (ro++[x]) (wr++[(x,h,v,ob)])|.upd x vr ob k,h,s,c,rt,ro,wr=>match h with
  |none=>k.exec none s c rt ro (wr++[(x,none,vr,ob)])|some _=>none
 |.gate b k,h,s,c,rt,ro,wr=>match h with
  |none=>k.exec (some b) s c rt ro wr|some _=>none
def Um(c:List Prop)(a b:List Nat)(wr:Wr)(o:Out):Out:=⟨o.g,o.val,c++o.conds,a++o.rt,b++o.ro,wr++o.wr⟩
theorem SQ:∀ (m:M) (h:mi) (s:St) (c:List Prop) (d e:List Nat) (wr:Wr),m.exec h s c d e wr=(m.run h s).map (Um c d e wr):=by
 intro m
 induction m with
 |ret v=>intro h s c d e wr;simp[M.exec,M.run,Um]|fail=>intro h s c d e wr;rfl|need p k a=>intro h s c d e wr;rw[M.exec,M.run,a];cases k.run h s<;>simp[Um]|tmp t k a=>
  intro h s c d e wr;rw[M.exec,M.run];cases find s.t t with
  |none=>rfl|some p=>obtain⟨g,v⟩:=p;dsimp only;rw[a];cases (k g v).run h s<;>simp[Um]
 |obj x k a=>
  intro h s c d e wr;rw[M.exec,M.run];cases find s.o x with
  |none=>rfl|some p=>obtain⟨g,i,f⟩:=p;dsimp only;rw[a];cases (k g i f).run h s<;>simp[Um]
 |new x f k a=>intro h s c d e wr;rw[M.exec,M.run,bGu,a];cases (k (fresh s x)).run h s<;>simp[Um]|upd x i f k a=>
  intro h s c d e wr;cases h with
  |some b=>rfl|none=>rw[M.exec,M.run,a];cases k.run none s<;>simp[Um]
 |gate b k a=>
  intro h s c d e wr;cases h with
  |some b=>rfl|none=>rw[M.exec,M.run,a]
theorem wO(m:M)(h:mi)(s:St):m.exec h s [] [] [] []=m.run h s:=by
 rw[SQ]
 cases m.run h s<;>simp[Um]
def F6{a:Type}:Wr->Wr->(Wr->a)->a
 |[],o,k=>k o|p::l,o,k=>F6 l o fun r=>k (p::r)
theorem aVy{a:Type}:∀ (l o:Wr) (k:Wr->a),F6 l o k=k (l++o)
 |[],_,_=>rfl|p::l,o,k=>by rw[F6,aVy l];rfl
def Xq{a:Type}(d:Option Nat)(out:Out)(s:St)(k:St->a):a:=match out,s with
 |⟨g,v,_,_,_,wr⟩,⟨t,o⟩=>F6 wr o fun b=>match d with
  |some d=>k ⟨(d,g,v)::t,b⟩|none=>k ⟨t,b⟩
theorem TY{a:Type}(d:Option Nat)(out:Out)(s:St)(k:St->a):Xq d out s k=k (app d out s):=by
 obtain⟨g,v,c,b,e,wr⟩:=out;obtain⟨t,o⟩:=s;unfold Xq;dsimp only;rw[aVy]
 cases d<;>rfl
def gZ(b:Nat->df->M):Nat->List df->St->Option (List (Option Nat×Out)×St)
 |_,[],s=>some ([],s)| i,o::l,s=>match (b i o).exec none s [] [] [] [] with
  |some out=>Xq o.dst out s fun c=>(match gZ b (i+1) l c with
   |some (a,s')=>some ((o.dst,out)::a,s')|none=>none)
  |none=>none
theorem aIf(a:Nat->df->M):∀ (l:List df) (i:Nat) (s:St),gZ a i l s=qX a i l s
 |[],_,_=>rfl| o::l,i,s=>by
  rw[gZ,qX,wO];cases (a i o).run none s with
  |none=>rfl|some out=>
   dsimp only
   rw[TY,aIf a l]<;>rfl
def All:List Prop->Prop
 |[]=>True|p::l=>p/\All l
theorem All.mem:∀ {l:List Prop},All l->∀ p∈l,p
 |[],_,p,h=>by cases h|q::l,⟨h1,h2⟩,p,h=>by rcases List.mem_cons.1 h with rfl|h;exact h1;exact h2.mem p h
variable {s s':St}
theorem aX(M:jq P I G)(hI:jo P I A){k:Nat}(f:A.nt=k){c:Nat}{ops:Array df}{b:Bool}{outs:List (Option Nat×Out)}(h:gZ (pJ P G c ops.toList) 0 ops.toList s=some (outs,s'))(e:(dO b ops.toList outs&&qR k ops.toList)=true)(hc:All ((outs.map fun q=>q.2.conds).flatten))(x:YM A s' (Q .normal)):jw P A s (.region c ops b) Q:=by
 intro a w t j;subst f;rw[aIf] at h;rw[ww] at e;refine aMy (Vj M.aBZ hI j c ops (fun i o d l u=>?_)) (aPo A) (fun s a w h=>h.drew) M.mixed h (fun q n p r=>hc.mem p (List.mem_flatten.2 ⟨_,List.mem_map.2 ⟨q,n,rfl⟩,r⟩)) e.1 t (fun C m g=>x C m g);have:=List.all_eq_true.1 e.2 o (by rw[<-aBH] at l;exact ZO l);rw[u] at this;have B:d+1<=A.nt:=by simpa[Hm] using this
 exact B
theorem rQ{x y:yf}(h:jw P A s x (Exit.then (EW P A y Q) Q)):jw P A s (.seq x y) Q:=fun a w d b=>wp_seq (ZM (h a w d b) (fun e g f c=>by cases e<;>first|exact c|exact c b))
theorem yX{x y:yf}(J:St->Prop)(h1:jw P A s x (Exit.then (fun a w=>∃ s',J s'/\oq A s' a w) Q))(h2:∀ s',J s'->jw P A s' y Q):jw P A s (.seq x y) Q:=fun a w h b=>wp_seq (ZM (h1 a w h b) (fun e i f d=>by cases e<;>first|exact d|(obtain⟨s',g,c⟩:=d;exact h2 s' g i f c b)))
theorem aRt(M:jq P I G)(hI:jo P I A){f:Nat}(d:A.nt=f){c:Nat}{ops:Array df}{b:Bool}{outs:List (Option Nat×Out)}{y:yf}(h:gZ (pJ P G c ops.toList) 0 ops.toList s=some (outs,s'))(e:(dO b ops.toList outs&&qR f ops.toList)=true)(hc:All ((outs.map fun q=>q.2.conds).flatten))(i:jw P A s' y Q):jw P A s (.seq (.region c ops b) y) Q:=rQ (aX M hI d h e hc (fun a w g=>i a w g))
def aJl(s:St)(c:lL):mi:=match c with
 |.tmp t=>(match find s.t t with
  |some (none,.w (.one (.lit (.bool b))))=>some b|_=>none)
 |_=>none
theorem iH(h:YM A s (Q .normal)):jw P A s .skip Q:=fun a w b _=>wp_skip (h a w b)
theorem dY{b:Nat}(h:YM A s (Q (.exit b))):jw P A s (.exit b) Q:=fun a w c _=>wp_exit (h a w c)
theorem bI(h:YM A s (Q .ret)):jw P A s .ret Q:=fun a w b _=>wp_ret (h a w b)
theorem aS{d:Nat}{c:yf}(h:jw P A s c (Exit.inBlock d Q)):jw P A s (.block d c) Q:=fun a w e b=>wp_block (h a w e b)
theorem yY{c:lL}{x y:yf}{b:Bool}(hc:aJl s c=some b)(h1:b=true->jw P A s x Q)(h2:b=false->jw P A s y Q):jw P A s (.cond c x y) Q:=fun a w h d=>by
 obtain⟨e,f⟩:=h
 have g:a.eval c=.bool b:=by
  cases c with
  |tmp t=>unfold aJl at hc;dsimp only at hc;split at hc;rename_i l i;cases hc;obtain⟨v,k,j⟩:=f.tmps t none _ i trivial;have:=j.Az;subst this;simp only[Act.eval];rw[Array.getD_eq_getD_getElem?,k];rfl;cases hc
  |_=>cases hc
 refine wp_cond g ?_;cases b with
 |true=>exact h1 rfl a w ⟨e,f⟩ d|false=>exact h2 rfl a w ⟨e,f⟩ d
theorem bF{c:yf}(h:∀ a w,oq A s a w->oq A s' a w)(e:jw P A s' c Q):jw P A s c Q:=fun a w d b=>e a w (h a w d) b
theorem fJ{c:yf}(n:Nat)(J:Nat->St->Prop)(d:Nat)(h0:J d s)(l:d<=n)
  (round:∀ k s,J k s->k<=n->jw P A s c (Exit.then (fun a w=>∃ b s',k<b/\b<=n/\J b s'/\oq A s' a w) Q)):jw P A s (.loop c) Q:=fun a w g h=>by
 refine wp_loop_ghost (fun m a w=>∃ k s,m=n-k/\k<=n/\J k s/\oq A s a w) (n-d) ⟨d,s,rfl,l,h0,g⟩ (fun m a w j=>?_);obtain⟨k,s,rfl,f,o,g⟩:=j;refine ZM (round k s o f a w g h) (fun e x t i=>?_)
 cases e<;>first|exact i|skip
 obtain⟨b,s',u,r,q,p⟩:=i;exact⟨n-b,a_,b,s',rfl,r,q,p⟩
def Fp(a:kw)(r:ResultVar):Sem ag:=match r with
 |.tmp t=>pure (a.getD t bz)
 |.cell b t=>do loadVar t (<-asAddr (a.getD b bz))
theorem aYv(fn:yl)(a:kw):results fn a=(do let b <-fn.results.mapM (Fp a);pure (if h:b.size=1 then b[0] else .tuple b)):=by
 unfold results;congr 1
theorem aSo{a:Act}{w:ae}{env:Env}(h:gy A s a w env){F:mi->PV->Wr->Prop}:∀ {n:List ResultVar} {k:List PW->M},(QJ P n k).ok none s F ->
  ∃ e f,(n.mapM (Fp a.tmps)).run P w=.ok f w/\e.length=f.length/\(∀ (i:Nat) (x:PW),e[i]?=some x->∃ v:ag,f[i]?=some v/\RW (aI A w env) x v)/\(k e).ok none s F
 |[],k,c=>⟨[],[],b_,rfl,fun i x H=>by simp at H,c⟩| .tmp t::n,k,c=>by
  obtain⟨pv,m,c⟩:=fC h c;split at c;rename_i x;obtain⟨e,f,B,u,r,q⟩:=aSo h c;refine⟨x::e,a.tmps.getD t bz::f,?_,by simp[u],fun i y j=>?_,q⟩;rw[List.mapM_cons,show Fp a.tmps (.tmp t)=pure (a.tmps.getD t bz) from rfl];simp only[Sem.run_bind,Sem.run_pure,Result.andThen_ok,B];cases i with
  |zero=>
   obtain rfl:x=y:=by simpa using j
   cases m with|w m=>exact⟨_,rfl,m⟩
  |succ i=>exact r i y (by simpa using j)
  exact c.elim
 | .cell b t::n,k,c=>by
  obtain⟨pv,m,c⟩:=fC h c;obtain⟨E,C,x,g,D,d,l,c⟩:=aWh h m c;obtain⟨e,f,B,u,r,q⟩:=aSo h c;have o:a.tmps.getD b bz=.pointer (some ⟨E,C,none⟩):=D;have p:(loadVar t ⟨E,C,none⟩).run P w=.ok g w:=by rw[D] at d;simpa[Instr.loadAt,Instr.sureAddr] using d
  have J:(Fp a.tmps (.cell b t)).run P w=.ok g w:=by unfold Fp;simp only[o,asAddr,Sem.run_bind,Sem.run_pure,Result.andThen_ok,p]
  refine⟨x::e,g::f,?_,by simp[u],fun i y j=>?_,q⟩;rw[List.mapM_cons];simp only[Sem.run_bind,Sem.run_pure,Result.andThen_ok,J,B];cases i with
  |zero=>
   obtain rfl:x=y:=by simpa using j
   exact⟨_,rfl,l⟩
  |succ i=>exact r i y (by simpa using j)
theorem rY{a:Act}{w:ae}{env:Env}(h:gy A s a w env){F:mi->PV->Wr->Prop}{fn:yl}(d:(yx P fn.results).ok none s F):∃ v f,(results fn a.tmps).run P w=.ok f w/\RV (aI A w env) v f/\F none v []:=by
 unfold yx at d;obtain⟨m,k,p,c,j,d⟩:=aSo h d;have o:(fn.results.mapM (Fp a.tmps)).run P w=.ok k.toArray w:=by rw[Array.mapM_eq_mapM_toList,Sem.run_map,p];rfl
 rw[aYv];simp only[Sem.run_bind,o,Result.andThen_ok,Sem.run_pure];split at d;rename_i x
 match k,c,j with
 |[v],_,j=>obtain⟨q,e,l⟩:=j 0 x rfl;cases e;exact⟨_,_,rfl,.w l,d⟩
 rename_i b
 have g:¬k.toArray.size=1:=by
  intro e
  match m,c,b with
  |[x],_,b=>exact b x rfl|[],c,_=>simp at e c;omega|_::_::_,c,_=>simp at e c;omega
 rw[dif_neg g]
 exact⟨_,_,rfl,.og (by simpa using c) (fun i x n=>by
  obtain⟨v,e,l⟩:=j i x n
  exact⟨v,by simpa using e,l⟩),d⟩
def slots:Nat->jl->List (Nat×mi×PV)
 |_,[]=>[]|i,v::vs=>(i,none,v)::slots (i+1) vs
theorem rD{i:Nat}:∀ {a:jl} {t:Nat} {g:mi} {pv:PV},find (slots i a) t=some (g,pv)->∃ k,t=i+k/\a[k]?=some pv
 |[],t,g,pv,h=>by cases h|v::a,t,g,pv,h=>by by_cases b:i=t;subst b;rw[slots,aF] at h;cases h;exact⟨0,rfl,rfl⟩;rw[slots,aC _ _ b] at h;obtain⟨k,d,c⟩:=rD (i:=i+1) h;exact⟨k+1,a_,by simpa using c⟩
theorem pU{i:Nat}:∀ {a:jl} {t:Nat} {g:mi} {pv:PV},find (slots i a) t=some (g,pv)->∃ k:Nat,t=i+k/\g=none
 |[],t,g,pv,h=>by cases h|v::a,t,g,pv,h=>by by_cases b:i=t;subst b;rw[slots,aF] at h;cases h;exact⟨0,rfl,rfl⟩;rw[slots,aC _ _ b] at h;obtain⟨k,d,c⟩:=pU (i:=i+1) h;exact⟨k+1,a_,c⟩
theorem o5.at{C:Ctx}:∀ {a:jl} {l:ji} {k:Nat} {pv:PV},o5 C a l->a[k]?=some pv->∃ v,l[k]?=some v/\RV C pv v
 |[],[],_,_,_,h=>by simp at h|[],_::_,_,_,h,_=>h.elim|_::_,[],_,_,h,_=>h.elim| v::a,x::l,k,pv,⟨h1,h2⟩,h=>by
  cases k with
  |zero=>
   obtain rfl:v=pv:=by simpa using h
   exact⟨x,rfl,h1⟩
  |succ k=>obtain⟨b,d,c⟩:=o5.at h2 (by simpa using h:a[k]?=some pv);exact⟨b,by simpa using d,c⟩
theorem o5.length{C:Ctx}:∀ {a:jl} {l:ji},o5 C a l->a.length=l.length
 |[],[],_=>rfl|[],_::_,h=>h.elim|_::_,[],h=>h.elim|_::_,_::_,⟨_,h⟩=>by rw[zl,zl,h.length]
def fF(P:dE)(I:je)(f:Nat)(new:Bool)(args:jl)(d:PV):Prop:=
 ∀ (w:ae) (c:qo) (h:ji),I w->o5 { w,ok:=c,env:=fun _=>none } args h ->
  Calls P f h.toArray w fun e g=>∃ a,e=.returned a/\Ext w g/\RV { w:=g,ok:=fun b=>(new=false/\c b)\/w.heap.size<=b,env:=fun _=>none } d a
def aY(new:Bool):PC->Bool
 |.lit _=>true|.bs _ _=>true|.sl _ _ _=>!new|_=>false
theorem aGp{C:Ctx}{c:PC}{xs:ji}(h:R C c xs)(hc:aY false c=true):R C.cold c xs:=by
 cases h<;>first|(cases hc;done)|skip
 exact .lit o_;exact .bs o_;exact .sl o_ o_ o_
theorem jK{C:Ctx}:∀ {l:dw} {a:ji},RL C l a->l.all (aY false)=true->RL C.cold l a
 |[],_,h,_=>by cases h;exact .nil|c::l,_,h,hc=>by
  rw[ZF,ww] at hc;cases h with
  |cons d b=>exact .cons (aGp d hc.1) (jK b hc.2)
def Row1(s:St)(new:Bool)(l h:dw):Prop:=∃ x b n a len c e g f d,l=[.ow x b n a len]/\h=[.sl n len d]/\find s.o x=some (g,b,.arr e n c f)/\gT g/\a+len<=c/\∀ i,i<len->f (a+i)=d i/\(d i).all (aY new)=true
inductive Gz(s:St)(new:Bool):PC->PC->Prop where
 |rows {x jm n off len tot e:Nat} {g:mi} {f f':Nat->dw} (hf:find s.o x=some (g,jm,.arr e n tot f)) (hg:gT g) (hl:off+len<=tot) (he:∀ i,i<len->(f (off+i)=f' i/\(f' i).all (aY new)=true)\/Row1 s new (f (off+i)) (f' i)):Gz s new (.ow x jm n off len) (.sl n len f')
 |cold {c:PC} (h:aY new c=true):Gz s new c c
 |row {x jm n off len tot e:Nat} {g:mi} {f f':Nat->dw} (hf:find s.o x=some (g,jm,.arr e n tot f)) (hg:gT g) (hl:off+len<=tot) (he:∀ i,i<len->f (off+i)=f' i) (hc:∀ i,i<len->(f' i).all (aY new)=true):Gz s new (.ow x jm n off len) (.sl n len f')
 |nil {n:Nat} {f:Nat->dw}:Gz s new (.lit (.slice none 0 0)) (.sl n 0 f)
inductive Gy(s:St)(new:Bool):dw->dw->Prop where
 |nil:Gy s new [] []
 |cons {c c':PC} {l l':dw} (h:Gz s new c c') (hl:Gy s new l l'):Gy s new (c::l) (c'::l')
inductive YJ(s:St)(new:Bool):PW->PW->Prop where
 |one {c c':PC} (h:Gz s new c c'):YJ s new (.one c) (.one c')
 |agg {l l':dw} (h:Gy s new l l'):YJ s new (.agg l) (.agg l')
inductive PT(s:St)(new:Bool):List PW->List PW->Prop where
 |nil:PT s new [] []
 |cons {c c':PW} {l l':List PW} (h:YJ s new c c') (hl:PT s new l l'):PT s new (c::l) (c'::l')
inductive YK(s:St)(new:Bool):PV->PV->Prop where
 |w {x x':PW} (h:YJ s new x x'):YK s new (.w x) (.w x')
 |og {l l':List PW} (h:PT s new l l'):YK s new (.og l) (.og l')
def DC(A:lh)(s:St)(env:Env):Prop:=∀ x g a e n len f c b,find s.o x=some (g,a,.arr e n len f)->env x=some (a,c)->hblk c=some b->A.S b->False
theorem DC.Vt{A:lh}{s:St}{env:Env}(h:A.S=Non):DC A s env:=fun _ _ _ _ _ _ _ _ _ _ _ _ a=>by rw[h] at a;exact a
def pI(w0:ae)(ok0:qo)(new:Bool):Nat->Prop:=fun b=>(new=false/\ok0 b)\/w0.heap.size<=b
theorem ND{a:Act}{w:ae}{env:Env}(h:gy A s a w env)(hS:DC A s env){new:Bool}{c c':PC}{xs:ji}(hx:Gz s new c c')(hr:R (aI A w env) c xs):R { w,ok:=pI A.w0 A.ok0 new,env:=fun _=>none } c' xs:=by
 have d:∀ {l:dw} {xs:ji},RL (aI A w env) l xs->l.all (aY new)=true->RL { w,ok:=pI A.w0 A.ok0 new,env:=fun _=>none } l xs:=by
  intro l xs H K;cases new with
  |false=>exact (jK H K).le ⟨dC _,fun b _ t=>⟨t.1.elim (fun h=>.inl ⟨rfl,h⟩) .inr,rfl⟩,fun _ _ _ h=>by cases h⟩| true=>
   have U:∀ {l:dw} {xs:ji},RL (aI A w env) l xs->l.all (aY true)=true->RL { w,ok:=pI A.w0 A.ok0 true,env:=fun _=>none } l xs:=by
    intro l
    induction l with
    |nil=>intro xs h _;cases h;exact .nil| cons c l ih=>
     intro xs h F;rw[ZF,ww] at F;cases h with
     |cons h3 T=>
      refine .cons ?_ (ih T F.2);have a0:=F.1
      cases h3<;>first|exact .lit o_|exact .bs o_|(cases a0;done)
   exact U H K
 have q:∀ {x j n m len p e:Nat} {g:mi} {f V:Nat->dw} {xs:ji},find s.o x=some (g,j,.arr e n p f)->gT g->m+len<=p->R (aI A w env) (.ow x j n m len) xs ->
   (∀ i,i<len->∀ u,RL (aI A w env) (f (m+i)) u->RL { w,ok:=pI A.w0 A.ok0 new,env:=fun _=>none } (V i) u)->R { w,ok:=pI A.w0 A.ok0 new,env:=fun _=>none } (.sl n len V) xs:=by
  intro x j n m len p e g f V xs J C S hr E;obtain⟨hd,D,W⟩:=jQ h J C;cases hr with
  | ow H a1=>
   obtain⟨A0,n0,c0,rfl,a2,rfl⟩:=a1.now D;obtain⟨vs,O,Y⟩:=W;have N:=Reads.zk O;have X:n0=p:=by obtain⟨_,A1,c1,e1,_⟩:=N;cases e1;rfl
   subst X;refine .sl (vs:=(vs.drop (m*n)).take (len*n)) (mY S N) (fun b t a3=>?_) (fun i r=>?_);cases A0 with
   |none=>simp[Yz] at t|some ad=>simp only[aBy,Yz,Option.some.injEq,qI] at t;have:=h.live x j _ b D (by simp[hblk,t]);refine⟨.inr (this.2.resolve_right (fun T=>hS x g j e n n0 f _ b J D (by simp[hblk,t]) T.1)),this.1⟩
   rw[jT vs r];exact (E i r _ (Y _ a_)).le ⟨dC _,fun b _ t=>⟨t,rfl⟩,fun _ _ _ h=>by cases h⟩
 cases hx with
 |cold F=>have:=(d (RL.cons hr RL.nil) (by simp[F])).single;simpa using this|nil=>cases hr;exact .sl (Reads.nil w _) (fun g C=>by simp[Yz] at C) (fun i r=>a_)|@row x j n m len p e g f V J C S Z F=>refine q J C S hr (fun i r u B=>?_);rw[Z i r] at B;exact d B (F i r)|@rows x j n m len p e g f V J C S Z=>refine q J C S hr (fun i r u B=>?_);rcases Z i r with⟨H,K⟩|⟨x1,v1,n1,o1,l1,t1,e1,g1,f1,a4,H,K,h3,T,h5,h6⟩;rw[H] at B;exact d B K;rw[H] at B;rw[K];have hz:u=u++[]:=(Lt u).symm;rw[hz];refine .cons (q h3 T h5 B.single (fun k hk zs L=>?_)) .nil;rw[(h6 k hk).1] at L;exact d L (h6 k hk).2
theorem aPz{a:Act}{w:ae}{env:Env}(h:gy A s a w env)(hS:DC A s env){new:Bool}:∀ {l f:dw} {e:ji},Gy s new l f->RL (aI A w env) l e->RL { w,ok:=pI A.w0 A.ok0 new,env:=fun _=>none } f e
 |[],_,_,b,d=>by cases b;cases d;exact .nil| c::l,_,_,b,d=>by
  cases b with
  |cons k j=>cases d with
   |cons i g=>exact .cons (ND h hS k i) (aPz h hS j g)
theorem N_{a:Act}{w:ae}{env:Env}(h:gy A s a w env)(hS:DC A s env){new:Bool}{x d:PW}{v:ag}(e:YJ s new x d)(hr:RW (aI A w env) x v):RW { w,ok:=pI A.w0 A.ok0 new,env:=fun _=>none } d v:=by
 cases e with
 |one c=>cases hr with|one b=>exact .one (ND h hS c b)
 |agg c=>cases hr with|agg b=>exact .agg (aPz h hS c b)
theorem PT.at{s:St}{new:Bool}:∀ {l b:List PW} {i:Nat} {a:PW},PT s new l b->b[i]?=some a->∃ x,l[i]?=some x/\YJ s new x a
 |[],_,i,a,h,c=>by cases h;simp at c| y::l,_,i,a,h,c=>by
  cases h with
  | @cons _ d _ b j g=>
   cases i with
   |zero=>
    obtain rfl:d=a:=by simpa using c
    exact⟨y,rfl,j⟩
   |succ i=>obtain⟨x,f,e⟩:=PT.at g (by simpa using c:b[i]?=some a);exact⟨x,by simpa using f,e⟩
theorem PT.length{s:St}{new:Bool}:∀ {l a:List PW},PT s new l a->l.length=a.length
 |[],_,h=>by cases h;rfl|_::_,_,h=>by cases h with|cons _ b=>rw[zl,zl,b.length]
theorem aPy{a:Act}{w:ae}{env:Env}(h:gy A s a w env)(hS:DC A s env){new:Bool}{x c:PV}{v:ag}(e:YK s new x c)(hr:RV (aI A w env) x v):RV { w,ok:=pI A.w0 A.ok0 new,env:=fun _=>none } c v:=by
 cases e with
 |w b=>cases hr with|w d=>exact .w (N_ h hS b d)
 | og b=>
  cases hr with
  |og f d=>refine .og (by rw[<-b.length];exact f) (fun i c g=>?_);obtain⟨x,m,l⟩:=b.at g;obtain⟨v,k,j⟩:=d i x m;exact⟨v,k,N_ h hS l j⟩
def Tj(P:dE)(fn:yl)(new:Bool)(a:PV)(s:St):Prop:=∃ v,(yx P fn.results).ok none s (fun _ b wr=>b=v/\wr=[])/\YK s new v a
theorem aVs{fn:yl}{new:Bool}{a:PV}{out:Out}(h:(yx P fn.results).run none s=some out)(hc:All out.conds)(c:out.wr=[])(b:YK s new out.val a):Tj P fn new a s:=⟨out.val,M.y8 _ none s out _ h (fun p d=>hc.mem p d) ⟨rfl,c⟩,b⟩
def Xz(p:PC->Bool):PW->Bool
 |.one c=>p c|.agg l=>l.all p
def rZ(p:PC->Bool):PV->Bool
 |.w x=>Xz p x|.og l=>l.all (Xz p)|.none=>false
theorem dN{s:St}{new:Bool}:∀ {l:dw},l.all (aY new)=true->Gy s new l l
 |[],_=>.nil|c::l,h=>by rw[ZF,ww] at h;exact .cons (.cold h.1) (dN h.2)
theorem aWx{s:St}{new:Bool}{x:PW}(h:Xz (aY new) x=true):YJ s new x x:=by
 cases x with
 |one c=>exact .one (.cold h)|agg l=>exact .agg (dN h)
theorem aWy{s:St}{new:Bool}:∀ {l:List PW},l.all (Xz (aY new))=true->PT s new l l
 |[],_=>.nil|c::l,h=>by rw[ZF,ww] at h;exact .cons (aWx h.1) (aWy h.2)
theorem NC{s:St}{new:Bool}{v:PV}(h:rZ (aY new) v=true):YK s new v v:=by
 cases v with
 |w x=>exact .w (aWx h)|og l=>exact .og (aWy h)|none=>cases h
theorem aO{fn:yl}{new:Bool}{a:PV}{out:Out}(h:(yx P fn.results).exec none s [] [] [] []=some out)(hc:All out.conds)(c:out.wr=[])(b:rZ (aY new) out.val=true)(d:out.val=a):Tj P fn new a s:=by rw[wO] at h;subst d;exact aVs h hc c (NC b)
theorem rX{fn:yl}{new:Bool}{a:PV}{out:Out}(h:(yx P fn.results).exec none s [] [] [] []=some out)(hc:All out.conds)(c:out.wr=[])(b:YK s new out.val a):Tj P fn new a s:=by rw[wO] at h;exact aVs h hc c b
def RQ(P:dE)(A:lh)(fn:yl)(new:Bool)(b:PV):nz->Act->ae->Prop
 |.panic chain,a,w=>a.defers=A.ds/\DW A chain w|e,a,w=>(e=.normal\/e=.ret)/\∃ s,Tj P fn new b s/\oq A s a w
theorem QY(P:dE)(A:lh)(fn:yl)(new:Bool)(a:PV):D_ A (RQ P A fn new a):=fun _ _ _ b h=>⟨b,h⟩
theorem oz.non(P:dE){dn:jc->Prop}:oz P Dv.non dn:=⟨fun _ _ _ h=>h.elim,fun _ _ _ _ _ h=>h.elim⟩
theorem jo.plain{P:dE}{I:je}{w:ae}{ok0:qo}{b:Nat}(h:∀ a,Ext w a->I a):jo P I (lh.plain w ok0 b):=⟨h,fun _ h=>h,fun _ h=>h.elim,oz.non P,fun _ _ _ h=>h.elim,fun _ _ _ _ _ _ h=>h.elim⟩
theorem aFw{fn:yl}{args:jl}{vs:ji}{w:ae}{ok0:qo}(d:ZC args.length fn.ntmps=true)(f:o5 { w:=w,ok:=ok0,env:=fun _=>none } args vs):oq (lh.plain w ok0 fn.ntmps) ⟨slots 0 args,[]⟩ { tmps:=vs.toArray++IR (fn.ntmps-vs.toArray.size) bz,defers:=[] } w:=by have i:=f.length;have C:=Yp d;refine⟨fun _=>none,{ iq:=gu.refl _ _,size:=?_,dom:=fun x _=>rfl,jv:=fun x g a o h=>(by cases h),live:=fun x a p b h=>(by cases h),inj:=fun x y B e u c b h=>(by cases h),tmps:=fun t g pv h n=>?_,defers:=rfl,und:=fun t pv h=>(by obtain⟨k,_,c⟩:=pU h;cases c),n_:=fun x p h=>(by cases h),dev:=fun g a O dn l h=>(by cases h) }⟩;simp[lh.plain];omega;obtain⟨k,e,c⟩:=rD h;obtain⟨v,j,r⟩:=f.at c;rw[ik] at e;subst e;have m:t<vs.length:=(List.getElem?_eq_some_iff.1 j).1;refine⟨v,?_,?_⟩;rw[aCc (by simpa using m)];simpa using j;refine r.le ⟨dC _,fun b _ q=>⟨⟨.inl q,fun _ _ _ h=>by cases h⟩,rfl⟩,fun _ _ _ h=>by cases h⟩
theorem bD{f:Nat}{fn:yl}{c:yf}{new:Bool}{args:jl}{g:PV}(u:P.funcs[f]?=some fn)(hb:fn.body=some c)(j:ZC args.length fn.ntmps=true)(hI:∀ w d,Ext w d->I w->I d)
  (B:∀ A:lh,A.S=Non->A.nt=fn.ntmps->jo P I A->jw P A ⟨slots 0 args,[]⟩ c (RQ P A fn new g)):fF P I f new args g:=by
 intro w h N n p;have q:=p.length;have T:=Yp j;refine calls_of_wp u hb (ZM (B (lh.plain w h fn.ntmps) rfl rfl (jo.plain fun d x=>hI w d x n) _ w (aFw j p) (QY _ _ _ _ _)) (fun e o d r=>?_))
 have m:(e=.normal\/e=.ret)/\∃ s,Tj P fn new g s/\oq (lh.plain w h fn.ntmps) s o d:=by
  cases e with
  |panic chain=>obtain⟨_,l,t,_⟩:=r;exact t.elim
  |_=>exact r
 obtain⟨K,s,⟨v,J,H⟩,F⟩:=m;obtain⟨L,k⟩:=F;obtain⟨O,a,E,D,C,_⟩:=rY k J;subst C;have i:=aPy k (.Vt rfl) H D;have:o.defers=[]/\∃ v,(results fn o.tmps).run P d=.ok v d/\∃ a,Ending.returned v=.returned a/\Ext w d/\RV { w:=d,ok:=fun b=>(new=false/\h b)\/w.heap.size<=b,env:=fun _=>none } g a:=⟨k.defers,a,E,a,rfl,k.iq,i⟩
 rcases K with rfl|rfl<;>exact this
variable {Q Q':nz->Act->je} {y:yf}
theorem aN{e b:Nat}{ops:Array df}{a:Bool}{outs:List (Option Nat×Out)}(f:jw P A s' y Q)(M:jq P I G:=by assumption)(hI:jo P I A:=by assumption)(c:A.nt=e:=by assumption)(h:gZ (pJ P G b ops.toList) 0 ops.toList s=some (outs,s'):=by rfl)(d:(dO a ops.toList outs&&qR e ops.toList)=true:=by kernel_rfl)(hc:All ((outs.map fun q=>q.2.conds).flatten):=by simp):jw P A s (.seq (.region b ops a) y) Q:=aRt M hI c h d hc f
theorem aH{e b:Nat}{ops:Array df}{a:Bool}{outs:List (Option Nat×Out)}(hc:All ((outs.map fun q=>q.2.conds).flatten))(f:jw P A s' y Q)(M:jq P I G:=by assumption)(hI:jo P I A:=by assumption)(c:A.nt=e:=by assumption)(h:gZ (pJ P G b ops.toList) 0 ops.toList s=some (outs,s'):=by rfl)(d:(dO a ops.toList outs&&qR e ops.toList)=true:=by kernel_rfl):jw P A s (.seq (.region b ops a) y) Q:=aRt M hI c h d hc f
theorem oQ{f c:Nat}{ops:Array df}{b:Bool}{outs:List (Option Nat×Out)}(i:jw P A s' y Q')(M:jq P I G:=by assumption)(hI:jo P I A:=by assumption)(d:A.nt=f:=by assumption)(h:gZ (pJ P G c ops.toList) 0 ops.toList s=some (outs,s'):=by rfl)(e:(dO b ops.toList outs&&qR f ops.toList)=true:=by kernel_rfl)(hc:All ((outs.map fun q=>q.2.conds).flatten):=by simp)(j:Q .normal=EW P A y Q':=by rfl):jw P A s (.region c ops b) Q:=aX M hI d h e hc (fun a w g=>by rw[j];exact i a w g)
theorem fP{e b:Nat}{ops:Array df}{a:Bool}{outs:List (Option Nat×Out)}(f:YM A s' (Q .normal))(M:jq P I G:=by assumption)(hI:jo P I A:=by assumption)(c:A.nt=e:=by assumption)(h:gZ (pJ P G b ops.toList) 0 ops.toList s=some (outs,s'):=by rfl)(d:(dO a ops.toList outs&&qR e ops.toList)=true:=by kernel_rfl)(hc:All ((outs.map fun q=>q.2.conds).flatten):=by simp):jw P A s (.region b ops a) Q:=aX M hI c h d hc f
theorem dU{c:lL}{x y:yf}{b:Bool}(h1:b=true->jw P A s x Q)(h2:b=false->jw P A s y Q)(hc:aJl s c=some b:=by rfl):jw P A s (.cond c x y) Q:=yY hc h1 h2
theorem jD(c:jw P A s y Q')(d:Q .normal=EW P A y Q':=by rfl):jw P A s .skip Q:=iH (fun a w b=>by rw[d];exact c a w b)
theorem kJ{fn:yl}{new:Bool}{b:PV}{out:Out}(f:out.val=b)(g:Q .ret=RQ P A fn new b .ret:=by rfl)(h:(yx P fn.results).exec none s [] [] [] []=some out:=by rfl)(hc:All out.conds:=by simp)(d:out.wr=[]:=by rfl)(c:rZ (aY new) out.val=true:=by rfl):jw P A s .ret Q:=bI (fun a w e=>by rw[g];exact⟨.inr rfl,_,aO h hc d c f,e⟩)
theorem mP{fn:yl}{new:Bool}{a:PV}{out:Out}(e:Q .ret=RQ P A fn new a .ret:=by rfl)(h:(yx P fn.results).exec none s [] [] [] []=some out:=by rfl)(hc:All out.conds:=by simp)(c:out.wr=[]:=by rfl)(b:rZ (aY new) out.val=true:=by rfl)(d:out.val=a:=by rfl):jw P A s .ret Q:=kJ d e h hc c b
variable {y z:yf}
theorem lQ{g d:Nat}{ops:Array df}{a:Bool}{outs:List (Option Nat×Out)}{c:lL}{x:yf}{b:Bool}(h1:b=true->jw P A s' x Q)(h2:b=false->jw P A s' z Q)(M:jq P I G:=by assumption)(hI:jo P I A:=by assumption)(e:A.nt=g:=by assumption)(h:gZ (pJ P G d ops.toList) 0 ops.toList s=some (outs,s'):=by rfl)(f:(dO a ops.toList outs&&qR g ops.toList)=true:=by kernel_rfl)(hc:All ((outs.map fun q=>q.2.conds).flatten):=by simp)(i:aJl s' c=some b:=by rfl):jw P A s (.seq (.region d ops a) (.cond c x z)) Q:=aN (dU h1 h2 i) M hI e h f hc
theorem bC{g d:Nat}{ops:Array df}{a:Bool}{outs:List (Option Nat×Out)}{c:lL}{x:yf}{b:Bool}(h1:b=true->jw P A s' x (Exit.then (EW P A y Q) Q))(h2:b=false->jw P A s' z (Exit.then (EW P A y Q) Q))(M:jq P I G:=by assumption)(hI:jo P I A:=by assumption)(e:A.nt=g:=by assumption)(h:gZ (pJ P G d ops.toList) 0 ops.toList s=some (outs,s'):=by rfl)(f:(dO a ops.toList outs&&qR g ops.toList)=true:=by kernel_rfl)(hc:All ((outs.map fun q=>q.2.conds).flatten):=by simp)(i:aJl s' c=some b:=by rfl):jw P A s (.seq (.seq (.region d ops a) (.cond c x z)) y) Q:=rQ (lQ h1 h2 M hI e h f hc i)
theorem lM{e b:Nat}{ops:Array df}{a:Bool}{outs:List (Option Nat×Out)}(h1:jw P A s' z (Exit.then (EW P A y Q) Q))(M:jq P I G:=by assumption)(hI:jo P I A:=by assumption)(c:A.nt=e:=by assumption)(h:gZ (pJ P G b ops.toList) 0 ops.toList s=some (outs,s'):=by rfl)(d:(dO a ops.toList outs&&qR e ops.toList)=true:=by kernel_rfl)(hc:All ((outs.map fun q=>q.2.conds).flatten):=by simp):jw P A s (.seq (.seq (.region b ops a) z) y) Q:=rQ (aN h1 M hI c h d hc)
theorem nZ{e b:Nat}{ops:Array df}{a:Bool}{outs:List (Option Nat×Out)}(h1:jw P A s' z (Exit.then (EW P A y Q) Q))(M:jq P I G:=by assumption)(hI:jo P I A:=by assumption)(c:A.nt=e:=by assumption)(h:gZ (pJ P G b ops.toList) 0 ops.toList s=some (outs,s'):=by rfl)(d:(dO a ops.toList outs&&qR e ops.toList)=true:=by kernel_rfl)(hc:All ((outs.map fun q=>q.2.conds).flatten):=by simp):jw P A s (.seq (.region b ops a) (.seq z y)) Q:=aN (rQ h1) M hI c h d hc
theorem rU{g d:Nat}{ops:Array df}{a:Bool}{outs:List (Option Nat×Out)}{c:lL}{x:yf}{b:Bool}(h1:b=true->jw P A s' x (Exit.then (EW P A y Q') Q'))(h2:b=false->jw P A s' z (Exit.then (EW P A y Q') Q'))(j:Q .normal=EW P A (.seq (.seq (.region d ops a) (.cond c x z)) y) Q':=by rfl)(M:jq P I G:=by assumption)(hI:jo P I A:=by assumption)(e:A.nt=g:=by assumption)(h:gZ (pJ P G d ops.toList) 0 ops.toList s=some (outs,s'):=by rfl)(f:(dO a ops.toList outs&&qR g ops.toList)=true:=by kernel_rfl)(hc:All ((outs.map fun q=>q.2.conds).flatten):=by simp)(i:aJl s' c=some b:=by rfl):jw P A s .skip Q:=jD (bC h1 h2 M hI e h f hc i) j
theorem iK{e b:Nat}{ops:Array df}{a:Bool}{outs:List (Option Nat×Out)}(h1:jw P A s' y Q')(f:Q .normal=EW P A (.seq (.region b ops a) y) Q':=by rfl)(M:jq P I G:=by assumption)(hI:jo P I A:=by assumption)(c:A.nt=e:=by assumption)(h:gZ (pJ P G b ops.toList) 0 ops.toList s=some (outs,s'):=by rfl)(d:(dO a ops.toList outs&&qR e ops.toList)=true:=by kernel_rfl)(hc:All ((outs.map fun q=>q.2.conds).flatten):=by simp):jw P A s .skip Q:=jD (aN h1 M hI c h d hc) f
theorem qM{e b:Nat}{ops:Array df}{a:Bool}{outs:List (Option Nat×Out)}(hc:All ((outs.map fun q=>q.2.conds).flatten))(h1:jw P A s' y Q')(f:Q .normal=EW P A (.seq (.region b ops a) y) Q':=by rfl)(M:jq P I G:=by assumption)(hI:jo P I A:=by assumption)(c:A.nt=e:=by assumption)(h:gZ (pJ P G b ops.toList) 0 ops.toList s=some (outs,s'):=by rfl)(d:(dO a ops.toList outs&&qR e ops.toList)=true:=by kernel_rfl):jw P A s .skip Q:=jD (aH hc h1 M hI c h d) f
theorem jM(h1:jw P A s z (Exit.then (EW P A y Q') Q'))(a:Q .normal=EW P A (.seq z y) Q':=by rfl):jw P A s .skip Q:=jD (rQ h1) a
theorem mQ{i f d:Nat}{ops a:Array df}{e c:Bool}{outs b:List (Option Nat×Out)}{s2:St}(h1:jw P A s2 y Q)(M:jq P I G:=by assumption)(hI:jo P I A:=by assumption)(g:A.nt=i:=by assumption)(h:gZ (pJ P G f ops.toList) 0 ops.toList s=some (outs,s'):=by rfl)(j:(dO e ops.toList outs&&qR i ops.toList)=true:=by kernel_rfl)(hc:All ((outs.map fun q=>q.2.conds).flatten):=by simp)(l:gZ (pJ P G d a.toList) 0 a.toList s'=some (b,s2):=by rfl)(hd:(dO c a.toList b&&qR i a.toList)=true:=by kernel_rfl)(k:All ((b.map fun q=>q.2.conds).flatten):=by simp):jw P A s (.seq (.region f ops e) (.seq (.region d a c) y)) Q:=aN (aN h1 M hI g l hd k) M hI g h j hc
theorem bY{i f d:Nat}{ops a:Array df}{e c:Bool}{outs b:List (Option Nat×Out)}{s2:St}(k:All ((b.map fun q=>q.2.conds).flatten))(h1:jw P A s2 y Q)(M:jq P I G:=by assumption)(hI:jo P I A:=by assumption)(g:A.nt=i:=by assumption)(h:gZ (pJ P G f ops.toList) 0 ops.toList s=some (outs,s'):=by rfl)(j:(dO e ops.toList outs&&qR i ops.toList)=true:=by kernel_rfl)(hc:All ((outs.map fun q=>q.2.conds).flatten):=by simp)(l:gZ (pJ P G d a.toList) 0 a.toList s'=some (b,s2):=by rfl)(hd:(dO c a.toList b&&qR i a.toList)=true:=by kernel_rfl):jw P A s (.seq (.region f ops e) (.seq (.region d a c) y)) Q:=aN (aH k h1 M hI g l hd) M hI g h j hc
theorem xU{e b:Nat}{ops:Array df}{a:Bool}{outs:List (Option Nat×Out)}(hc:All ((outs.map fun q=>q.2.conds).flatten))(h1:jw P A s' z (Exit.then (EW P A y Q) Q))(M:jq P I G:=by assumption)(hI:jo P I A:=by assumption)(c:A.nt=e:=by assumption)(h:gZ (pJ P G b ops.toList) 0 ops.toList s=some (outs,s'):=by rfl)(d:(dO a ops.toList outs&&qR e ops.toList)=true:=by kernel_rfl):jw P A s (.seq (.seq (.region b ops a) z) y) Q:=rQ (aH hc h1 M hI c h d)
theorem bCe{a:Nat}(h:jw P A s z (Exit.inBlock a (Exit.then (EW P A y Q) Q))):jw P A s (.seq (.block a z) y) Q:=rQ (aS h)
theorem eQ{f b:Nat}{ops:Array df}{a:Bool}{outs:List (Option Nat×Out)}{fn:yl}{new:Bool}{c:PV}{out:Out}(j:out.val=c)(M:jq P I G:=by assumption)(hI:jo P I A:=by assumption)(d:A.nt=f:=by assumption)(h:gZ (pJ P G b ops.toList) 0 ops.toList s=some (outs,s'):=by rfl)(e:(dO a ops.toList outs&&qR f ops.toList)=true:=by kernel_rfl)(hc:All ((outs.map fun q=>q.2.conds).flatten):=by simp)(k:Q .ret=RQ P A fn new c .ret:=by rfl)(hr:(yx P fn.results).exec none s' [] [] [] []=some out:=by rfl)(hd:All out.conds:=by simp)(i:out.wr=[]:=by rfl)(g:rZ (aY new) out.val=true:=by rfl):jw P A s (.seq (.region b ops a) .ret) Q:=aN (kJ j k hr hd i g) M hI d h e hc
end
def wU(kO:List Nat)(s:St)(x jm:Nat):Bool:=match kO.any (bu x),find s.o x with
 |true,some (_,vr,_)=>bu jm vr|_,_=>false
def FN(kF:List Nat)(s:St)(x jm n:Nat):Option (Nat->dw):=match kF.any (bu x),find s.o x with
 |true,some (none,vr,.arr _ m _ f)=>(match bu jm vr,bu n m with
  |true,true=>some f|_,_=>none)
 |_,_=>none
mutual
def rv(kF kO:List Nat)(s:St):PC->Option PC
 |.lit v=>some (.lit v)|.bs n l=>some (.bs n l)|.sl n len f=>some (.sl n len f)|.ow x c n d len=>match wU kO s x c with|true=>some (.ow x 0 n d len)|false=>(match FN kF s x c n with|some f=>some (.sl n len (fun i=>f (d+i)))|none=>none)
 |.ob x c d len=>match wU kO s x c with|true=>some (.ob x 0 d len)|false=>none
 |.pt x c d=>match wU kO s x c with|true=>some (.pt x 0 d)|false=>none
 |.pk x c d k=>match wU kO s x c with|true=>some (.pk x 0 d k)|false=>none
 |.pe x c n i j=>match wU kO s x c with|true=>some (.pe x 0 n i j)|false=>none
 |.pf n len f i j=>some (.pf n len f i j)|.fn f first cap=>match F5 kF kO s first,F5 kF kO s cap with
  |some a,some b=>some (.fn f a b)|_,_=>none
 |.dv=>match wU kO s dx 0 with|true=>some .dv|false=>none
 |.any=>some .any|.pa len f=>some (.pa len f)
def F5(kF kO:List Nat)(s:St):dw->Option dw
 |[]=>some []|c::l=>match rv kF kO s c,F5 kF kO s l with
  |some b,some l'=>some (b::l')|_,_=>none
end
def QB(kF kO:List Nat)(s:St):PW->Option PW
 |.one c=>match rv kF kO s c with|some c=>some (.one c)|none=>none
 |.agg l=>match F5 kF kO s l with|some l=>some (.agg l)|none=>none
def Cf(kF kO:List Nat)(s:St):List PW->Option (List PW)
 |[]=>some []|x::l=>match QB kF kO s x,Cf kF kO s l with
  |some x,some l=>some (x::l)|_,_=>none
def VP(kF kO:List Nat)(s:St):PV->Option PV
 |.w x=>match QB kF kO s x with|some x=>some (.w x)|none=>none
 |.og l=>match Cf kF kO s l with|some l=>some (.og l)|none=>none
 |.none=>some .none
def yH(kF kO:List Nat)(s:St):List Nat->Option (List (Nat×mi×PV))
 |[]=>some []|t::l=>match find s.t t,yH kF kO s l with
  |some (g,v),some r=>(match VP kF kO s v with|some b=>some ((t,g,b)::r)|none=>none)
  |_,_=>none
def QD(kF kO:List Nat)(s:St):lu->Option (List Prop×lu)
 |.box t l=>match F5 kF kO s l with|some l=>some ([],.box t l)|none=>none
 |.arr e n len f=>some ([∀ i,i<len->(f i).all (aY false)=true],.arr e n len f)|.dead=>some ([],.dead)|.dev O dn l=>some ([],.dev O dn l)
def Zv(kF kO:List Nat)(s:St):List Nat->Option (List Prop×Wr)
 |[]=>some ([],[])|x::l=>match find s.o x,Zv kF kO s l with
  |some (g,_,ob),some (d,r)=>(match QD kF kO s ob with|some (c,b)=>some (c++d,(x,g,0,b)::r)|none=>none)
  |_,_=>none
def aGe(kO:List Nat)(s:St):Bool:=s.o.all fun p=>match ZC dx p.1 with
 |true=>kO.any (bu p.1)&&bu p.2.2.1 0|false=>true
def Xw(s:St):List Nat->Option (List Prop)
 |[]=>some []|x::l=>match find s.o x,Xw s l with
  |some (_,_,.arr _ _ len f),some b=>some ((∀ i,i<len->(f i).all (aY false)=true)::b)|_,_=>none
def aVv(kF kT kO:List Nat)(s:St):Option (List Prop×St):=match yH kF kO s kT,Zv kF kO s kO,aGe kO s,Xw s kF with
 |some t,some (b,o),true,some c=>some (b++c,⟨t,o⟩)|_,_,_,_=>none
def aKp(kT kO:List Nat)(s:St):Option (List Prop×St):=match yH [] kO s kT,Zv [] kO s kO,aGe kO s with
 |some t,some (b,o),true=>some (b,⟨t,o⟩)|_,_,_=>none
def BN(A:lh)(kF:List Nat)(s:St):Prop:=∀ x,kF.any (bu x)=true->A.S=Non/\∀ g b e n len f,find s.o x=some (g,b,.arr e n len f)->∀ i,i<len->(f i).all (aY false)=true
theorem BN.nil{A:lh}{s:St}:BN A [] s:=fun x h=>by cases h
theorem aWk{A:lh}(hS:A.S=Non){s:St}:∀ {kF:List Nat} {d:List Prop},Xw s kF=some d->All d->BN A kF s
 |[],_,_,_=>BN.nil|y::l,d,h,hc=>fun x b=>⟨hS,fun g c e n len f i=>by
  unfold Xw at h;split at h;rename_i j k;cases h;rw[aFE,aAR] at b;rcases b with b|b
  obtain rfl:x=y:=ig b;rw[i] at j;cases j;exact hc.1;exact ((aWk hS k hc.2) x b).2 g c e n len f i
  cases h⟩
def vg(kO:List Nat)(env:Env):Env:=fun x=>match kO.any (bu x) with
 |true=>(env x).map fun p=>(0,p.2)|false=>none
section
variable {A:lh} {s:St} {a:Act} {w:ae} {env:Env} {kF kO:List Nat}
theorem aFg{b:Nat}(h:(aI A w env).ok b):(aI A w (vg kO env)).ok b:=⟨h.1,fun x d i f=>by
 have c:vg kO env x=some (d,i):=f;unfold vg at c;split at c;cases e:env x with
 |none=>rw[e] at c;cases c|some p=>obtain⟨v,g⟩:=p;rw[e] at c;cases c;exact h.2 x v _ e
 cases c⟩
theorem aQo:(aI A w env).cold.Le (aI A w (vg kO env)):=⟨dC _,fun b _ h=>⟨aFg h,rfl⟩,fun _ _ _ h=>by cases h⟩
theorem wQ:(aI A w env).cold.Le (aI A w (vg kO env)).cold:=⟨dC _,fun b _ h=>⟨aFg (w:=w) (env:=env) (kO:=kO) h,rfl⟩,fun _ _ _ h=>by cases h⟩
theorem aBt(h:gy A s a w env){x jm:Nat}{p:ag->Prop}(b:wU kO s x jm=true)(j:At (aI A w env) x jm p):At (aI A w (vg kO env)) x 0 p:=by unfold wU at b;split at b;rename_i g e f l k;obtain⟨c,d,_⟩:=h.jv x g e f k;have i:=j.now (hd:=c) (by rw[ig b];exact d);refine⟨0,c,?_,dC _,fun _=>i⟩;show vg kO env x=some (0,c);unfold vg;rw[l,d];rfl;cases b
theorem X8(h:gy A s a w env)(hF:BN A kF s){x jm n off len:Nat}{f:Nat->dw}{xs:ji}(l:wU kO s x jm=false)(o:FN kF s x jm n=some f)(hR:R (aI A w env) (.ow x jm n off len) xs):R (aI A w (vg kO env)) (.sl n len (fun i=>f (off+i))) xs:=by
 unfold FN at o;split at o;rename_i vr e m D f0 Z j;split at o;rename_i B L;cases o;obtain rfl:=ig B;obtain rfl:=ig L
 have I:kO.any (bu x)=false:=by
  unfold wU at l;rw[j] at l;cases J:kO.any (bu x) with
  |false=>rfl|true=>rw[J] at l;dsimp only at l;rw[B] at l;cases l
 obtain⟨hS,d⟩:=hF x Z;have d:=d _ _ _ _ _ _ j;obtain⟨hd,k,g⟩:=h.jv x none jm _ j;have g:=g trivial;cases hR with
 | ow h1 O=>
  obtain⟨S,Q,c0,rfl,t,rfl⟩:=O.now k;obtain⟨P,r,K⟩:=g;have q:=Reads.zk r;have H:Q=D:=by obtain⟨_,A1,c1,e1,_⟩:=q;cases e1;rfl
  subst H;refine .sl (vs:=(P.drop (off*n)).take (len*n)) (mY t q) (fun b N Y=>?_) (fun i hi=>?_)
  have z:hblk (.slice S Q c0)=some b:=by
   cases S with
   |none=>simp[Yz] at N|some ad=>simp only[aBy,Yz,Option.some.injEq,qI] at N;simp[hblk,N]
  obtain⟨W,V⟩:=h.live x jm _ b k z;refine⟨⟨.inr (V.resolve_right (fun C=>by have C:=C.1;rw[hS] at C;exact C)),fun y T X he E=>?_⟩,W⟩;have c:vg kO env y=some (T,X):=he;unfold vg at c;split at c;rename_i u;cases G:env y with
  |none=>rw[G] at c;cases c|some p=>obtain⟨U,a0⟩:=p;rw[G] at c;cases c;have F:=h.inj x y jm _ U _ b k G z E;subst F;rw[I] at u;cases u
  cases c;rw[jT P hi];exact (jK (K _ a_) (d _ a_)).le wQ
 cases o;cases o
mutual
theorem UL(h:gy A s a w env)(C:BN A kF s):∀ {c r:PC} {q:ji},rv kF kO s c=some r->R (aI A w env) c q->R (aI A w (vg kO env)) r q
 |.lit v,r,q,b,d=>by simp only[rv,Option.some.injEq] at b;subst b;cases d;exact .lit o_|.bs n l,r,q,b,d=>by simp only[rv,Option.some.injEq] at b;subst b;cases d;exact .bs o_|.sl n len f,r,q,b,d=>by
  simp only[rv,Option.some.injEq] at b;subst b;cases d with
  |sl o e u=>exact .sl o (fun g E D=>⟨aFg (e g E D).1,(e g E D).2⟩) (fun i y=>(u i y).le wQ)
 | .ow x m n t len,r,q,b,d=>by
  unfold rv at b;cases p:wU kO s x m with
  |true=>rw[p] at b;cases b;cases d with|ow o e=>exact .ow o (aBt h p e)
  | false=>
   rw[p] at b;dsimp only at b;cases B:FN kF s x m n with
   |none=>rw[B] at b;cases b|some f=>rw[B] at b;cases b;exact X8 h C p B d
 |.ob x m t len,r,q,b,d=>by
  unfold rv at b
  cases p:wU kO s x m<;>rw[p] at b<;>cases b
  cases d with|ob o e=>exact .ob o (aBt h p e)
 |.pt x m t,r,q,b,d=>by
  unfold rv at b
  cases p:wU kO s x m<;>rw[p] at b<;>cases b
  cases d with|pt o e=>exact .pt o (aBt h p e)
 |.pk x m t k,r,q,b,d=>by
  unfold rv at b
  cases p:wU kO s x m<;>rw[p] at b<;>cases b
  cases d with|pk o e=>exact .pk o (aBt h p e)
 |.pe x m n i j,r,q,b,d=>by
  unfold rv at b
  cases p:wU kO s x m<;>rw[p] at b<;>cases b
  cases d with|pe o e=>exact .pe o (aBt h p e)
 |.pf n len f i j,r,q,b,d=>by
  simp only[rv,Option.some.injEq] at b;subst b;cases d with
  |pf o e u z=>exact .pf o ⟨aFg e.1,e.2⟩ (fun i y=>(u i y).le wQ) z
 |.fn f first cap,r,q,b,d=>by
  unfold rv at b
  cases o:F5 kF kO s first<;>cases e:F5 kF kO s cap<;>simp only[o,e] at b<;>try (cases b;done)
  cases b;cases d with
  |fn u z=>exact .fn (aIe h C o u) (aIe h C e z)
 |.dv,r,q,b,d=>by
  unfold rv at b
  cases p:wU kO s dx 0<;>rw[p] at b<;>cases b
  cases d with|dv o e=>exact .dv o (aBt h p e)
 |.any,r,q,b,d=>by simp only[rv,Option.some.injEq] at b;subst b;cases d;exact .any o_|.pa len f,r,q,b,d=>by
  simp only[rv,Option.some.injEq] at b;subst b;cases d with
  |pa o e u z=>exact .pa o ⟨aFg e.1,e.2⟩ (fun i y=>(u i y).le wQ) z
theorem aIe(h:gy A s a w env)(g:BN A kF s):∀ {l e:dw} {d:ji},F5 kF kO s l=some e->RL (aI A w env) l d->RL (aI A w (vg kO env)) e d
 |[],e,d,b,f=>by simp only[F5,Option.some.injEq] at b;subst b;cases f;exact .nil|c::l,e,d,b,f=>by
  unfold F5 at b
  cases j:rv kF kO s c<;>cases i:F5 kF kO s l<;>simp only[j,i] at b<;>try (cases b;done)
  cases b;cases f with
  |cons m k=>exact .cons (UL h g j m) (aIe h g i k)
end
theorem J9(h:gy A s a w env)(f:BN A kF s){x e:PW}{v:ag}(hr:QB kF kO s x=some e)(g:RW (aI A w env) x v):RW (aI A w (vg kO env)) e v:=by
 cases g with
 |@one c _ d=>
  unfold QB at hr
  cases b:rv kF kO s c<;>simp only[b] at hr<;>try (cases hr;done)
  cases hr;exact .one (UL h f b d)
 |@agg l _ d=>
  unfold QB at hr
  cases b:F5 kF kO s l<;>simp only[b] at hr<;>try (cases hr;done)
  cases hr;exact .agg (aIe h f b d)
theorem bDa:∀ {l c:List PW} {i:Nat} {b:PW},Cf kF kO s l=some c->c[i]?=some b->∃ x,l[i]?=some x/\QB kF kO s x=some b
 |[],c,i,b,h,d=>by simp only[Cf,Option.some.injEq] at h;subst h;simp at d| y::l,c,i,b,h,d=>by
  unfold Cf at h
  cases f:QB kF kO s y<;>cases e:Cf kF kO s l<;>simp only[f,e] at h<;>try (cases h;done)
  rename_i g j;cases h;cases i with
  |zero=>
   obtain rfl:g=b:=by simpa using d
   exact⟨y,rfl,f⟩
  |succ i=>obtain⟨x,m,k⟩:=bDa e (by simpa using d:j[i]?=some b);exact⟨x,by simpa using m,k⟩
theorem aVk:∀ {l b:List PW},Cf kF kO s l=some b->l.length=b.length
 |[],b,h=>by simp only[Cf,Option.some.injEq] at h;subst h;rfl|y::l,b,h=>by
  unfold Cf at h
  cases d:QB kF kO s y<;>cases c:Cf kF kO s l<;>simp only[d,c] at h<;>try (cases h;done)
  cases h;rw[zl,zl,aVk c]
theorem VO(h:gy A s a w env)(e:BN A kF s){x c:PV}{v:ag}(hr:VP kF kO s x=some c)(j:RV (aI A w env) x v):RV (aI A w (vg kO env)) c v:=by
 cases j with
 |@w x _ d=>
  unfold VP at hr
  cases b:QB kF kO s x<;>simp only[b] at hr<;>try (cases hr;done)
  cases hr;exact .w (J9 h e b d)
 |@og l _ f d=>
  unfold VP at hr
  cases b:Cf kF kO s l<;>simp only[b] at hr<;>try (cases hr;done)
  cases hr;refine .og (by rw[<-aVk b];exact f) (fun i c g=>?_);obtain⟨x,o,n⟩:=bDa b g;obtain⟨v,m,k⟩:=d i x o;exact⟨v,m,J9 h e n k⟩
 |none=>simp only[VP,Option.some.injEq] at hr;subst hr;exact .none
theorem aLg:∀ {c:List Nat} {l:List (Nat×mi×PV)} {t:Nat} {g:mi} {pv:PV},yH kF kO s c=some l->find l t=some (g,pv)->∃ v,find s.t t=some (g,v)/\VP kF kO s v=some pv
 |[],l,t,g,pv,h,b=>by simp only[yH,Option.some.injEq] at h;subst h;cases b|t0::c,l,t,g,pv,h,b=>by
  unfold yH at h
  cases j:find s.t t0<;>cases i:yH kF kO s c<;>simp only[j,i] at h<;>try (cases h;done)
  rename_i p r;obtain⟨k,d⟩:=p;dsimp only at h
  cases f:VP kF kO s d<;>simp only[f] at h<;>try (cases h;done)
  cases h;by_cases e:t0=t;subst e;rw[aF] at b;cases b;exact⟨d,j,f⟩;rw[aC _ _ e] at b;exact aLg i b
theorem bDb(h:gy A s a w env)(q:BN A kF s){ob b:lu}{c:List Prop}{hd:ag}(hr:QD kF kO s ob=some (c,b))(hc:All c)(o:nI (aI A w env) hd ob):nI (aI A w (vg kO env)) hd b:=by
 cases ob with
 |dead=>simp only[QD,Option.some.injEq,Prod.mk.injEq] at hr;obtain⟨_,rfl⟩:=hr;trivial
 |dev O dn l=>simp only[QD,Option.some.injEq,Prod.mk.injEq] at hr;obtain⟨_,rfl⟩:=hr;trivial
 |box t l=>
  unfold QD at hr
  cases k:F5 kF kO s l<;>simp only[k] at hr<;>try (cases hr;done)
  cases hr;obtain⟨g,r,rfl,j,d⟩:=o;exact⟨g,r,rfl,j,aIe h q k d⟩
 |arr e n len f=>simp only[QD,Option.some.injEq,Prod.mk.injEq] at hr;obtain⟨rfl,rfl⟩:=hr;obtain⟨p,j,d⟩:=o;exact⟨p,j,fun i m=>(jK (d i m) (hc.1 i m)).le aQo⟩
theorem qH{b:Type}:∀ {l:List (Nat×b)} {x:Nat} {p:b},find l x=some p->(x,p)∈l
 |(k,y)::l,x,p,h=>by by_cases c:k=x;subst c;rw[aF] at h;cases h;exact List.mem_cons_self;rw[aC _ _ c] at h;exact VM _ (qH h)
theorem bJm:∀ {a b:List Prop},All (a++b)->All a/\All b:=by
 intro a
 induction a with
 |nil=>intro b h;exact⟨trivial,h⟩|cons p a c=>intro b h;exact⟨⟨h.1,(c h.2).1⟩,(c h.2).2⟩
variable {R:List (Nat×(Nat->dw))}
def Eb(R:List (Nat×(Nat->dw)))(kF kO:List Nat)(s:St)(x:Nat):lu->Option (List Prop×lu)
 |.arr e n len f=>(match find R x with
  |some b=>some ([∀ i,i<len->F5 kF kO s (f i)=some (b i)],.arr e n len b)|none=>some ([∀ i,i<len->(f i).all (aY false)=true],.arr e n len f))
 |ob=>QD kF kO s ob
def tN(R:List (Nat×(Nat->dw)))(kF kO:List Nat)(s:St):List Nat->Option (List Prop×Wr)
 |[]=>some ([],[])|x::l=>match find s.o x,tN R kF kO s l with
  |some (g,_,ob),some (d,r)=>(match Eb R kF kO s x ob with|some (c,b)=>some (c++d,(x,g,0,b)::r)|none=>none)
  |_,_=>none
def aKo(R:List (Nat×(Nat->dw)))(kF kT kO:List Nat)(s:St):Option (List Prop×St):=match yH kF kO s kT,tN R kF kO s kO,aGe kO s,Xw s kF with
 |some t,some (b,o),true,some c=>some (b++c,⟨t,o⟩)|_,_,_,_=>none
theorem aAg:∀ {l:List Nat} {t:List Prop} {r:Wr} {x:Nat},tN R kF kO s l=some (t,r)->(find r x=none->¬(l.any (bu x)=true))/\∀ g d k,find r x=some (g,d,k)->d=0/\l.any (bu x)=true/\∃ y i c,find s.o x=some (g,y,i)/\Eb R kF kO s x i=some (c,k)/\(All t->All c)
 |[],t,r,x,h=>by simp only[tN,Option.some.injEq,Prod.mk.injEq] at h;obtain⟨rfl,rfl⟩:=h;exact⟨fun _=>b_,fun g d k f=>by cases f⟩
 | x0::l,t,r,x,h=>by
  unfold tN at h
  cases E:find s.o x0<;>cases D:tN R kF kO s l<;>simp only[E,D] at h<;>try (cases h;done)
  rename_i p q;obtain⟨P,u,i⟩:=p;obtain⟨L,O⟩:=q;dsimp only at h
  cases C:Eb R kF kO s x0 i<;>simp only[C] at h<;>try (cases h;done)
  rename_i z;obtain⟨c,F⟩:=z;cases h
  have j:∀ {a b:List Prop},All (a++b)->All a/\All b:=by
   intro a
   induction a with
   |nil=>intro b h;exact⟨trivial,h⟩|cons p a m=>intro b h;exact⟨⟨h.1,(m h.2).1⟩,(m h.2).2⟩
  by_cases n:x0=x;subst n;refine⟨fun f=>(by rw[aF] at f;cases f),fun g d k f=>?_⟩;rw[aF] at f;cases f;exact⟨rfl,b_,u,i,c,E,C,fun h=>(j h).1⟩;have m:=aAg (x:=x) D;refine⟨fun f=>?_,fun g d k f=>?_⟩;rw[aC _ _ n] at f;have:=m.1 f;rw[aFE];simp only[aAR,not_or];exact⟨fun e=>n (ig e).symm,this⟩;rw[aC _ _ n] at f;obtain⟨K,J,y,B,N,I,H,G⟩:=m.2 g d k f;exact⟨K,by rw[aFE,J,Bool.or_true],y,B,N,I,H,fun h=>G (j h).2⟩
theorem QC(h:gy A s a w env)(j:BN A kF s){x:Nat}{ob b:lu}{c:List Prop}{hd:ag}(hr:Eb R kF kO s x ob=some (c,b))(hc:All c)(g:nI (aI A w env) hd ob):nI (aI A w (vg kO env)) hd b:=by
 cases ob with
 |dead=>exact bDb (ob:=.dead) h j hr hc g|dev O dn l=>exact bDb (ob:=.dev O dn l) h j hr hc g|box t l=>exact bDb (ob:=.box t l) h j hr hc g| arr e n len f=>
  unfold Eb at hr;cases p:find R x with
  |none=>simp only[p,Option.some.injEq,Prod.mk.injEq] at hr;obtain⟨rfl,rfl⟩:=hr;obtain⟨k,o,m⟩:=g;exact⟨k,o,fun i d=>(jK (m i d) (hc.1 i d)).le aQo⟩
  |some q=>simp only[p,Option.some.injEq,Prod.mk.injEq] at hr;obtain⟨rfl,rfl⟩:=hr;obtain⟨k,o,m⟩:=g;exact⟨k,o,fun i d=>aIe h j (hc.1 i d) (m i d)⟩
theorem oq.JH{kT:List Nat}{J:List Prop}{t:List (Nat×mi×PV)}{o:Wr}(h:oq A s a w)(h1:yH kF kO s kT=some t)(h2:tN R kF kO s kO=some (J,o))(hc:All J)(Z:BN A kF s)(hX:∀ x E,A.ext x=some E->∃ g G,find s.o x=some (g,0,G)/\kO.any (bu x)=true):oq A ⟨t,o⟩ a w:=by
 obtain⟨env,h⟩:=h;refine⟨vg kO env,{ iq:=h.iq,size:=h.size,dom:=fun x k=>?_,jv:=fun x g m G r=>?_,live:=fun x m E b D u=>?_,inj:=fun x y v1 h1 v2 h2 b e d U T=>?_,tmps:=fun Q g pv r H=>?_,defers:=h.defers,und:=fun Q pv r=>(by obtain⟨v,z,_⟩:=aLg h1 r;exact h.und Q v z),n_:=fun x E k=>?_,dev:=fun g m O dn l r H=>?_ }⟩;have:=(aAg (x:=x) h2).1 k;unfold vg;cases u:kO.any (bu x) with
 |true=>exact absurd u this|false=>rfl
 obtain⟨rfl,K,F,n,c,z,j,L⟩:=(aAg (x:=x) h2).2 g m G r;obtain⟨E,B,V⟩:=h.jv x g F n z;refine⟨E,?_,fun H=>QC h Z j (L hc) (V H)⟩;unfold vg;rw[K,B];rfl;unfold vg at D;split at D;cases k:env x with
 |none=>rw[k] at D;cases D|some p=>obtain⟨v,i⟩:=p;rw[k] at D;cases D;exact h.live x v _ b k u
 cases D;unfold vg at e d;split at e;split at d;cases k:env x with
 |none=>rw[k] at e;cases e|some p=>
  cases C:env y with
  |none=>rw[C] at d;cases d|some q=>obtain⟨v,i⟩:=p;obtain⟨P,Y⟩:=q;rw[k] at e;rw[C] at d;cases e;cases d;exact h.inj x y v _ P _ b k C U T
 cases d;cases e;obtain⟨v,z,j⟩:=aLg h1 r;obtain⟨N,L,B⟩:=h.tmps Q g v z H;exact⟨N,L,VO h Z j B⟩;obtain⟨u,ha⟩:=h.n_ x E k;refine⟨u,?_⟩;obtain⟨F,i,z,_,j⟩:=ha;have I:env x=some (F,i):=z;obtain⟨g,G,r,K⟩:=hX x E k;obtain⟨S,B,_⟩:=h.jv x g 0 G r;rw[I] at B;cases B;refine⟨0,i,?_,dC _,fun _=>j rfl⟩;show vg kO env x=some (0,i);unfold vg;rw[K,I];rfl
 ·obtain⟨rfl,K,F,n,c,z,j,L⟩:=(aAg (x:=dx) h2).2 g m _ r
  have B:n=.dev O dn l:=by
   cases n<;>simp only[Eb,QD] at j
   ·split at j<;>cases j
   ·split at j<;>cases j
   cases j;cases j;rfl
  subst B;obtain⟨V,h9,X⟩:=h.dev g F O dn l z H;refine⟨V,h9,A.dv.grow _ _ _ _ _ X (gu.refl _ _) (fun b u=>.inl ?_)⟩;rcases u with u|⟨y,v2,S,f,W⟩;exact .inl u;unfold vg at f
  split at f;cases C:env y with
  |none=>rw[C] at f;cases f|some p=>obtain⟨v,i⟩:=p;rw[C] at f;cases f;exact .inr ⟨y,v,_,C,W⟩
  cases f
theorem oq.ul{kT:List Nat}{cs:List Prop}{s':St}(h:oq A s a w)(f:kF=[]\/A.S=Non)(hr:aKo R kF kT kO s=some (cs,s'))(b:All cs):oq A s' a w:=by
 unfold aKo at hr
 cases m:yH kF kO s kT<;>cases l:tN R kF kO s kO<;>cases k:aGe kO s<;>cases j:Xw s kF<;>simp only[m,l,k,j] at hr<;>try (cases hr;done)
 rename_i t q H;obtain⟨G,o⟩:=q;cases hr;have E:BN A kF s:=by rcases f with rfl|D;exact BN.nil;exact aWk D j (bJm b).2
 refine h.JH m l (bJm b).1 E (fun x z y=>?_);obtain⟨env,h⟩:=h;obtain⟨B,C⟩:=h.n_ x z y;obtain⟨r,e,F,_⟩:=C;have c:env x=some (r,e):=F;cases i:find s.o x with
 |none=>rw[h.dom x i] at c;cases c|some p=>obtain⟨g,n,u⟩:=p;have d:=List.all_eq_true.1 k _ (qH i);dsimp only at d;rw[B,ww] at d;obtain rfl:=ig d.2;exact⟨g,u,rfl,d.1⟩
theorem aIr:∀ l,tN [] kF kO s l=Zv kF kO s l
 |[]=>rfl|x::l=>by
  have h:∀ b,Eb [] kF kO s x b=QD kF kO s b:=fun b=>by cases b<;>rfl
  simp only[tN,Zv,aIr l,h]
theorem oq.JI{kT:List Nat}{cs:List Prop}{s':St}(h:oq A s a w)(c:kF=[]\/A.S=Non)(hr:aVv kF kT kO s=some (cs,s'))(b:All cs):oq A s' a w:=h.ul (R:=[]) c (by unfold aKo;rw[aIr];exact hr) b
theorem oq.reset{kT:List Nat}{cs:List Prop}{s':St}(h:oq A s a w)(hr:aKp kT kO s=some (cs,s'))(hc:All cs):oq A s' a w:=by
 refine h.JI (kF:=[]) (kT:=kT) (kO:=kO) (cs:=cs) (.inl rfl) ?_ hc;unfold aKp at hr;unfold aVv Xw
 cases d:yH [] kO s kT<;>cases c:Zv [] kO s kO<;>cases b:aGe kO s<;>simp only[d,c,b] at hr<;>try (cases hr;done)
 cases hr;simp
inductive Bf:lu->lu->Prop where
 |box {t:bi} {l l':dw} (h:l=l'):Bf (.box t l) (.box t l')
 |arr {e n len len':Nat} {f f':Nat->dw} (hl:len=len') (h:∀ i,i<len->f i=f' i):Bf (.arr e n len f) (.arr e n len' f')
 |dead {o:lu}:Bf o .dead
 |dev {O:qy} {dn:jc->Prop} {l l':jc} (h:l=l'):Bf (.dev O dn l) (.dev O dn l')
inductive Ae:List (Nat×mi×PV)->List (Nat×mi×PV)->Prop where
 |nil:Ae [] []
 |cons {t:Nat} {g:mi} {v v':PV} {l l':List (Nat×mi×PV)} (h:v=v') (hl:Ae l l'):Ae ((t,g,v)::l) ((t,g,v')::l')
inductive yj:Wr->Wr->Prop where
 |nil:yj [] []
 |cons {x jm:Nat} {g:mi} {o o':lu} {l l':Wr} (h:Bf o o') (hl:yj l l'):yj ((x,g,jm,o)::l) ((x,g,jm,o')::l')
theorem Ae.eq{l b:List (Nat×mi×PV)}(h:Ae l b):l=b:=by
 induction h with
 |nil=>rfl|cons h _ c=>rw[h,c]
theorem yj.find{l d:Wr}(h:yj l d)(x:Nat):(find l x=none/\find d x=none)\/∃ g b o c,find l x=some (g,b,o)/\find d x=some (g,b,c)/\Bf o c:=by
 induction h with
 |nil=>exact .inl ⟨rfl,rfl⟩|@cons y b g o c l d h _ f=>by_cases e:y=x;subst e;exact .inr ⟨g,b,o,c,aF _ _ _,aF _ _ _,h⟩;rw[aC _ _ e,aC _ _ e];exact f
theorem Bf.ok{C:Ctx}{hd:ag}{o b:lu}(h:Bf o b)(d:nI C hd o):nI C hd b:=by
 cases h with
 |box h=>rw[<-h];exact d|arr f h=>subst f;obtain⟨e,j,g⟩:=d;exact⟨e,j,fun i c=>by rw[<-h i c];exact g i c⟩
 |dead=>trivial|dev _=>trivial
theorem oq.same{s':St}(h:oq A s a w)(q:Ae s.t s'.t)(k:yj s.o s'.o):oq A s' a w:=by
 obtain⟨env,h⟩:=h;refine⟨env,{ iq:=h.iq,size:=h.size,dom:=fun x p=>?_,jv:=fun x g d B b=>?_,live:=h.live,inj:=h.inj,tmps:=fun t g pv b=>?_,defers:=h.defers,und:=fun t pv b=>(by rw[<-q.eq] at b;exact h.und t pv b),n_:=h.n_,dev:=fun g d O dn l b j=>?_ }⟩;rcases k.find x with c|⟨g,d,o,n,_,i,_⟩;exact h.dom x c.1;rw[i] at p;cases p;rcases k.find x with c|⟨z,f,o,n,c,i,m⟩;rw[c.2] at b;cases b;rw[i] at b;cases b;obtain⟨r,y,u⟩:=h.jv x _ _ o c
 exact⟨r,y,fun j=>m.ok (u j)⟩;rw[<-q.eq] at b;exact h.tmps t g pv b;rcases k.find dx with c|⟨z,f,o,n,c,i,m⟩;rw[c.2] at b;cases b;rw[i] at b;cases b
 cases m with
 |dev e=>subst e;exact h.dev g d _ _ _ c j
theorem oq.nilRow{x e n t:Nat}(h:oq A s a w)(l:find s.o x=none)(m:find s.t t=some (none,o7 (.slice none 0 0))):oq A { t:=(t,none,dm (.ow x 0 n 0 0))::s.t,o:=(x,none,0,.arr e n 0 (fun _=>[]))::s.o } a w:=by
 obtain⟨env,h⟩:=h;have k:fresh s x=0:=by unfold fresh;rw[l]
 obtain⟨j,y⟩:=h.new (w':=w) x none (.slice none 0 0) (.arr e n 0 (fun _=>[])) (Ext.refl w) (fun b q=>by cases q) (fun _ _=>⟨[],⟨b_,.inl ⟨rfl,rfl⟩⟩,fun i z=>a_⟩);rw[k] at j y;refine⟨_,{ j with tmps:=fun f g pv d p=>?_,und:=fun f pv d=>?_ }⟩;rotate_left 1;by_cases c:t=f;subst c;rw[aF] at d;cases d;rw[aC _ _ c] at d;exact j.und f pv d;by_cases c:t=f;subst c;rw[aF] at d;cases d;obtain⟨v,u,r⟩:=h.tmps t none _ m trivial;have:=r.h_;subst this;exact⟨_,u,.w (.one (.ow ⟨_,_,rfl⟩ ⟨0,_,fO _ _ _ _,dC _,fun _=>⟨none,0,0,rfl,a_,rfl⟩⟩))⟩;rw[aC _ _ c] at d;exact j.tmps f g pv d p
end
theorem RL.aCO{C:Ctx}{c c':PC}{l2:dw}(hc:∀ ys,R C c ys->R C c' ys):∀ {l1:dw} {xs:ji},RL C (l1++c::l2) xs->RL C (l1++c'::l2) xs
 |[],_,h=>by cases h with|cons h1 h2=>exact .cons (hc _ h1) h2
 |_::l1,_,h=>by cases h with|cons h1 h2=>exact .cons h1 (RL.aCO hc (l1:=l1) h2)
theorem oq.BV{A:lh}{s:St}{a:Act}{w:ae}{x e n b p ty:Nat}{l1 u:dw}(h:oq A s a w)(y:find s.o x=none)(hb:find s.o b=some (none,p,.box ty (l1++.lit (.slice none 0 0)::u))) :
  oq A { t:=s.t,o:=(b,none,p,.box ty (l1++.ow x 0 n 0 0::u))::(x,none,0,.arr e n 0 (fun _=>[]))::s.o } a w:=by
 obtain⟨env,h⟩:=h;have r:fresh s x=0:=by unfold fresh;rw[y]
 obtain⟨j,H⟩:=h.new (w':=w) x none (.slice none 0 0) (.arr e n 0 (fun _=>[])) (Ext.refl w) (fun b hb=>by cases hb) (fun _ _=>⟨[],⟨b_,.inl ⟨rfl,rfl⟩⟩,fun i K=>a_⟩);rw[r] at j H;have q:x≠b:=fun e=>by subst e;rw[y] at hb;cases hb
 refine⟨_,{ j with dom:=fun k d=>?_,jv:=fun k g f o d=>?_,tmps:=fun z g pv d m=>j.tmps z g pv d m,dev:=fun g f O dn l d m=>?_ }⟩;by_cases c:b=k;subst c;rw[aF] at d;cases d;rw[aC _ _ c] at d;exact j.dom k d;by_cases c:b=k;subst c;rw[aF] at d;cases d;obtain⟨C,G,F⟩:=j.jv b none p _ (show find ((x,none,0,lu.arr e n 0 (fun _=>[]))::s.o) b=_ by rw[aC _ _ q];exact hb);refine⟨C,G,fun m=>?_⟩;obtain⟨g,I,rfl,E,D⟩:=F m;refine⟨g,I,rfl,E,D.aCO (fun J B=>?_)⟩;cases B;exact .ow ⟨_,_,rfl⟩ ⟨0,_,fO _ _ _ _,dC _,fun _=>⟨none,0,0,rfl,a_,rfl⟩⟩;rw[aC _ _ c] at d;exact j.jv k g f o d;by_cases c:b=dx;subst c;rw[aF] at d;cases d;rw[aC _ _ c] at d;exact j.dev g f O dn l d m
theorem aXu{k:Nat}{f g b:Nat->dw}(h1:∀ i,i<k->f i=b i)(h2:g 0=b k):∀ i,i<k+1->uh k f g i=b i:=fun i c=>by unfold uh;by_cases h:i<k;rw[au h];exact h1 i h;obtain rfl:i=k:=a_;rw[ay h,Yf];exact h2
theorem wC{k:Nat}{f g:Nat->dw}(h1:∀ i,i<k->∀ x∈f i,aY false x=true)(h2:∀ x∈g 0,aY false x=true):∀ i,i<k+1->∀ x∈uh k f g i,aY false x=true:=fun i c x b=>by unfold uh at b;by_cases h:i<k;rw[au h] at b;exact h1 i h x b;obtain rfl:i=k:=a_;rw[ay h,Yf] at b;exact h2 x b
theorem wK{c:PC}(h:aY false c=true):∀ x∈[c],aY false x=true:=fun x b=>by rw[List.mem_singleton.1 b];exact h
theorem aHz{P:dE}{A:lh}{s:St}{Q:nz->Act->je}{c:yf}(s':St){cs:List Prop}(d:jw P A s' c Q)(hr:aKp (s'.t.map (·.1)) (s'.o.map (·.1)) s=some (cs,s'):=by rfl)(hc:All cs:=by simp):jw P A s c Q:=bF (fun _ _ b=>b.reset hr hc) d
theorem bM{P:dE}{A:lh}{s s1:St}{Q:nz->Act->je}{c:yf}(s':St){cs:List Prop}(h1:Ae s1.t s'.t)(h2:yj s1.o s'.o)(d:jw P A s' c Q)(hr:aKp (s'.t.map (·.1)) (s'.o.map (·.1)) s=some (cs,s1):=by rfl)(hc:All cs:=by simp):jw P A s c Q:=bF (fun _ _ b=>(b.reset hr hc).same h1 h2) d
theorem iP:∀ (l:List (Nat×mi×PV)),Ae l l
 |[]=>.nil|(_,_,_)::l=>.cons rfl (iP l)
theorem jg{l m:List (Nat×mi×PV)}(h:l=m:=by rfl):Ae l m:=h ▸ iP l
theorem Xa:∀ o:lu,Bf o o
 |.box _ _=>.box rfl|.arr _ _ _ _=>.arr rfl fun _ _=>rfl|.dead=>.dead|.dev _ _ _=>.dev rfl
theorem fD:∀ l:Wr,yj l l
 |[]=>.nil|(_,_,_,_)::l=>.cons (Xa _) (fD l)
theorem BR{l m:Wr}(h:l=m:=by rfl):yj l m:=h ▸ fD l
theorem Ae.cr{t:Nat}{g:mi}{v:PV}{l b:List (Nat×mi×PV)}(h:Ae l b):Ae ((t,g,v)::l) ((t,g,v)::b):=.cons rfl h
theorem yj.cb{x jm:Nat}{g:mi}{t:bi}{m:dw}{l b:Wr}(h:yj l b):yj ((x,g,jm,.box t m)::l) ((x,g,jm,.box t m)::b):=.cons (.box rfl) h
section
variable {P:dE} {I:je} {A:lh} {s:St} {a:Act} {w:ae} {env:Env} {F:mi->PV->Wr->Prop}
theorem gy.B_(h:gy A s a w env)(d:Nat)(e n len:Nat){f:Nat->dw}{v:ag}{xs:ji}{w':ae}(x:Ext w w')(j:w'.ownsRow w.heap.size e n v len xs)(hr:∀ C:Ctx,∀ i,i<len->RL C (f i) ((xs.drop (i*n)).take n)) :
  ∃ c,gy A { s with o:=[(d,none,fresh s d,.arr e n len f)]++s.o } a w' c/\RV (aI A w' c) (dm (.ow d (fresh s d) n 0 len)) v:=by
 have m:w'.ownsRow 0 e n v len xs:=⟨j.1,j.2.imp id (fun⟨g,cap,cur,p,_,y⟩=>⟨g,cap,cur,p,xn _,y⟩)⟩;obtain⟨l,q,rfl⟩:=nS j
 obtain⟨p,z⟩:=h.new (w':=w') d none (.slice l len q) (.arr e n len f) x (fun b u=>by
   have k:(Yu l len q).ownBlock=some b:=by cases l<;>exact u
   exact⟨(j.lt b k).2,(j.lt b k).1⟩)
  (fun r _=>⟨xs,yC m,fun i t=>hr _ i t⟩)
 refine⟨_,p,.w (.one (.ow ⟨_,_,rfl⟩ ⟨_,_,fO _ _ _ _,dC _,fun _=>⟨_,_,_,rfl,a_,?_⟩⟩))⟩;cases l with
 |none=>simp|some B=>simp[Addr.add]
def SN (c:PC) (k:PC->M):M:=match c with
 |.lit v=>k (.lit v)|.bs n l=>k (.bs n l)|.sl n len f=>k (.sl n len f)| .ow x d n b len=>.obj x fun g e j=>jE g (match bu d e,j with
  |true,.arr _ m h f=>(match bu n m with
   |true=>.need (b+len<=h/\∀ i,i<len->(f (b+i)).all (aY false)=true) (k (.sl n len (fun i=>f (b+i))))|false=>.fail)
  |_,_=>.fail)
 | .ob x d b len=>.obj x fun g e j=>jE g (match bu d e,j with
  | true,.box _ l=>(match yh l b with
   |some (m,bs)=>(match bu len m with
    |true=>k (.sl 1 len (su bs))|false=>.fail)
   |none=>.fail)
  |_,_=>.fail)
 |.any=>k .any|_=>.fail
def XG:dw->(dw->M)->M
 |[],k=>k []|c::l,k=>SN c fun c=>XG l fun l=>k (c::l)
def XF(v:PV)(k:PV->M):M:=match v with
 |.w (.one c)=>SN c fun c=>k (.w (.one c))|.w (.agg l)=>XG l fun l=>k (.w (.agg l))|_=>.fail
def FP:jl->(jl->M)->M
 |[],k=>k []|v::l,k=>XF v fun v=>FP l fun l=>k (v::l)
def aRf(w:ae):Ctx:={ w,ok:=fun _=>True,env:=fun _=>none }
theorem aQp:(aI A w env).cold.Le (aRf w).cold:=⟨dC _,fun b _ _=>⟨trivial,rfl⟩,fun _ _ _ h=>by cases h⟩
theorem bHh(h:gy A s a w env){c:PC}{xs:ji}(hr:R (aI A w env) c xs){k:PC->M}(d:(SN c k).ok none s F):∃ c',R (aRf w) c' xs/\(k c').ok none s F:=by
 unfold SN at d;split at d;cases hr;exact⟨_,.lit o_,d⟩;cases hr;exact⟨_,.bs o_,d⟩;cases hr with
 |sl Z h2 h3=>exact⟨_,.sl Z (fun g K hl=>⟨trivial,(h2 g K hl).2⟩) (fun i J=>(h3 i J).le aQp),d⟩
 ·rename_i x r n p len;obtain⟨g,O,S,B,d⟩:=d;have z:=dD d;clear d;obtain⟨K,d⟩:=z;obtain⟨hd,t,y⟩:=jQ h B K
  cases o:bu r O<;>cases S<;>simp only[o] at d<;>try exact d.elim
  rename_i e m Q f;obtain rfl:=ig o
  cases L:bu n m<;>rw[L] at d
  exact d.elim;obtain rfl:=ig L;obtain⟨⟨V,C⟩,d⟩:=d;cases hr with
  | ow Z D=>
   obtain⟨A0,n0,c0,rfl,a0,rfl⟩:=D.now t;obtain⟨vs,H,W⟩:=y;have G:=Reads.zk H;have U:n0=Q:=by obtain⟨_,A1,c1,e1,_⟩:=G;cases e1;rfl
   subst U;refine⟨_,.sl (vs:=(vs.drop (p*n)).take (len*n)) (mY V G) (fun b o a1=>⟨trivial,?_⟩) (fun i J=>?_),d⟩;cases A0 with
   |none=>simp[Yz] at o|some ad=>simp only[aBy,Yz,Option.some.injEq,qI] at o;exact (h.live x r _ b t (by simp[hblk,o])).1
   rw[jT vs J];exact (jK (W _ a_) (C i J)).le aQp
 ·rename_i x r p len;obtain⟨g,O,S,B,d⟩:=d;have z:=dD d;clear d;obtain⟨K,d⟩:=z;obtain⟨hd,t,y⟩:=jQ h B K
  cases o:bu r O<;>cases S<;>simp only[o] at d<;>try exact d.elim
  rename_i bt l;obtain rfl:=ig o;cases T:yh l p with
  |none=>rw[T] at d;exact d.elim| some q=>
   obtain⟨m,bs⟩:=q;rw[T] at d;dsimp only at d
   cases N:bu len m<;>rw[N] at d
   exact d.elim;obtain rfl:=ig N;cases hr with
   |ob Z D=>obtain⟨g1,c,rfl,Y,X,rfl⟩:=D.now t;obtain⟨g2,cs,e2,hB,hR⟩:=y;cases e2;obtain⟨k1,k2,k3⟩:=oO hR T;have E:=jI hB.range p len;rw[ik,k2] at E;refine⟨_,.sl (vs:=bs.map ql) ⟨by simp[k1],_,c,rfl,Y,X,fun hn=>⟨g1,p,rfl,fun j u hj=>E j u hj⟩⟩ (fun b o _=>⟨trivial,?_⟩) (fun i J=>nV _ bs i a_),d⟩;simp only[Yz,Option.some.injEq] at o;subst o;exact hB.lt
 cases hr;exact⟨_,.any o_,d⟩;exact d.elim
theorem bHg(h:gy A s a w env):∀ {l:dw} {i:ji} {k:dw->M},RL (aI A w env) l i->(XG l k).ok none s F->∃ b,RL (aRf w) b i/\(k b).ok none s F
 |[],_,k,d,g=>by cases d;exact⟨[],.nil,g⟩| c::l,_,k,d,g=>by
  cases d with
  |cons o n=>obtain⟨p,m,f⟩:=bHh h o g;obtain⟨b,j,e⟩:=bHg h n f;exact⟨p::b,.cons m j,e⟩
theorem SL(h:gy A s a w env){v:PV}{val:ag}{k:PV->M}(hr:RV (aI A w env) v val)(b:(XF v k).ok none s F):∃ e,RV (aRf w) e val/\(k e).ok none s F:=by
 unfold XF at b;split at b;obtain⟨g,d,c⟩:=bHh h hr.inv b;exact⟨_,.w (.one d),c⟩;cases hr with
 | w hr=>cases hr with
  |agg hr=>obtain⟨f,d,c⟩:=bHg h hr b;exact⟨_,.w (.agg d),c⟩
 exact b.elim
theorem aLt(h:gy A s a w env):∀ {c:jl} {l:ji} {k:jl->M},o5 (aI A w env) c l->(FP c k).ok none s F->∃ b,o5 (aRf w) b l/\(k b).ok none s F
 |[],[],k,_,f=>⟨[],trivial,f⟩|[],_::_,_,h,_=>h.elim|_::_,[],_,h,_=>h.elim|v::c,x::l,k,⟨h1,h2⟩,f=>by obtain⟨g,j,e⟩:=SL h h1 f;obtain⟨b,i,d⟩:=aLt h h2 e;exact⟨g::b,⟨j,i⟩,d⟩
def sJ:PV->Bool
 |.w (.one c)=>aY false c|.w (.agg l)=>l.all (aY false)|_=>false
def aU(new:Bool)(g:jl->Option (Prop×PV)):Spec:=fun _ b=>match new with
 |true=>FP b fun c=>(match g c with
  |some (p,r)=>.need p (.ret r)|none=>.fail)
 |false=>(match b.all sJ,g b with
  |true,some (p,r)=>.need p (.ret r)|_,_=>.fail)
theorem aXj{C:Ctx}{v:PV}{x:ag}(h:RV C v x)(hc:sJ v=true):RV C.cold v x:=by
 unfold sJ at hc;split at hc;exact .w (.one (aGp h.inv hc));cases h with
 |w h=>cases h with
  |agg h=>exact .w (.agg (jK h hc))
 cases hc
theorem aGo{C:Ctx}:∀ {b:jl} {l:ji},o5 C b l->b.all sJ=true->o5 C.cold b l
 |[],[],_,_=>trivial|[],_::_,h,_=>h.elim|_::_,[],h,_=>h.elim|v::b,x::l,⟨h1,h2⟩,hc=>by rw[ZF,ww] at hc;exact⟨aXj h1 hc.1,aGo h2 hc.2⟩
theorem bDn(h:gy A s a w env){w':ae}(_:Ext w w'){new:Bool}:({ w:=w',ok:=fun b=>(new=false/\(aI A w env).ok b)\/w.heap.size<=b,env:=fun _=>none }:Ctx).Le (aI A w' env):=
 ⟨
  dC _,fun b _ c=>⟨(by
  rcases c with⟨_,c⟩|c;exact c
  exact⟨.inr (PP h.iq.size c),fun x d g f e=>by have:=(h.live x d g b f e).1;omega⟩),rfl⟩,fun _ _ _ h=>by cases h⟩
theorem aT{f:Nat}{new:Bool}{g:jl->Option (Prop×PV)}(k:∀ args w,(YR f args).run P w=.ok (.enter f args) w)(B:∀ x p r,g x=some (p,r)->p->fF P I f new x r):d_ P I f (aU new g):=by
 refine⟨k,fun A s a w env J i y F h D z c=>?_⟩;unfold aU at c;cases new with
 | true=>
  obtain⟨u,H,c⟩:=aLt h z c;cases j:g u with
  |none=>rw[j] at c;exact c.elim|some q=>obtain⟨p,r⟩:=q;rw[j] at c;obtain⟨n,t⟩:=c;refine (B u p r j n w (fun _=>True) y (D.mem w h.iq) H).mono ?_;rintro e E ⟨d,rfl,l,m⟩;refine .inl ⟨r,[],d,env,rfl,t,h.ext l,m.le ⟨dC _,fun b G o=>?_,fun _ _ _ h=>by cases h⟩⟩;exact (bDn (new:=true) h l).blk b G (o.elim (fun h=>by cases h.1) (fun h=>.inr h))
 |false=>
  dsimp only at c
  cases C:i.all sJ<;>cases j:g i<;>simp only[C,j] at c<;>try exact c.elim
  rename_i q;obtain⟨p,r⟩:=q;obtain⟨n,t⟩:=c;refine (B i p r j n w (aI A w env).ok y (D.mem w h.iq) (aGo z C)).mono ?_;rintro e E ⟨d,rfl,l,m⟩;exact .inl ⟨r,[],d,env,rfl,t,h.ext l,m.le (bDn (new:=false) h l)⟩
end
theorem bGz{C C':Ctx}:∀ {l:dw} {a:ji},RL C l a->l.all (aY true)=true->RL C' l a
 |[],_,h,_=>by cases h;exact .nil| c::l,a,h,hc=>by
  rw[ZF,ww] at hc;cases h with
  |cons e d=>
   refine .cons ?_ (bGz d hc.2);have b:=hc.1
   cases e<;>first|exact .lit o_|exact .bs o_|(cases b;done)
def Y3(P:dE)(I:je)(f:Nat)(args:jl)(e n len:Nat)(f':Nat->dw):Prop:=
 ∀ (w:ae) (b:qo) (g:ji),I w->o5 { w,ok:=b,env:=fun _=>none } args g ->
  Calls P f g.toArray w fun r d=>∃ a c,r=.returned a/\Ext w d/\d.ownsRow w.heap.size e n a len c/\∀ (C:Ctx) i,i<len->RL C (f' i) ((c.drop (i*n)).take n)
def Ot(P:dE)(fn:yl)(e n len:Nat)(f':Nat->dw)(s:St):Prop:=∃ x a g f,(yx P fn.results).ok none s (fun _ b wr=>b=dm (.ow x a n 0 len)/\wr=[])/\find s.o x=some (g,a,.arr e n len f)/\gT g/\∀ i,i<len->f i=f' i/\(f' i).all (aY true)=true
def RQR(P:dE)(A:lh)(fn:yl)(e n len:Nat)(f':Nat->dw):nz->Act->ae->Prop
 |.panic chain,a,w=>a.defers=[]/\DW A chain w|x,a,w=>(x=.normal\/x=.ret)/\∃ s,Ot P fn e n len f' s/\oq A s a w
theorem aVn{P:dE}{fn:yl}{e n len x jm:Nat}{g:mi}{f f':Nat->dw}{s:St}{out:Out}(h:(yx P fn.results).exec none s [] [] [] []=some out)(hc:All out.conds)(c:out.wr=[])(b:out.val=dm (.ow x jm n 0 len))(k:find s.o x=some (g,jm,.arr e n len f))(j:gT g)(a:∀ i,i<len->f i=f' i/\(f' i).all (aY true)=true):Ot P fn e n len f' s:=by rw[wO] at h;exact⟨x,jm,g,f,M.y8 _ none s out _ h (fun p d=>hc.mem p d) ⟨b,c⟩,k,j,a⟩
theorem aPp{P:dE}{I:je}{f:Nat}{fn:yl}{c:yf}{args:jl}{e n len:Nat}{f':Nat->dw}(hf:P.funcs[f]?=some fn)(hb:fn.body=some c)(q:ZC args.length fn.ntmps=true)(hI:∀ w b,Ext w b->I w->I b)
  (hT:∀ A:lh,A.S=Non->A.nt=fn.ntmps->jo P I A->jw P A ⟨slots 0 args,[]⟩ c (RQR P A fn e n len f')) (F:Hm e G7=true:=by rfl):Y3 P I f args e n len f':=by
 intro w m vs N Q;have hn:=Yp q;have T:=Q.length;refine calls_of_wp hf hb (ZM (hT (lh.plain w m fn.ntmps) rfl rfl (jo.plain fun b hc=>hI w b hc N) _ w (aFw q Q) (fun _ _ _ W h=>⟨W,h⟩)) (fun x O b V=>?_))
 have L:(x=.normal\/x=.ret)/\∃ s,Ot P fn e n len f' s/\oq (lh.plain w m fn.ntmps) s O b:=by
  cases x with
  |panic chain=>obtain⟨_,l,hl,_⟩:=V;exact hl.elim
  |_=>exact V
 obtain⟨y,s,⟨Z,B,g,f0,h2,J,H,r⟩,h4⟩:=L;obtain⟨a0,u⟩:=h4;obtain⟨v',j,h5,h6,h7,_⟩:=rY u h2;subst h7;obtain⟨W,t,D⟩:=jQ u J H;obtain⟨z,o,c0,rfl,U,rfl⟩:=h6.AY t;obtain⟨k,a,K⟩:=D;have E:o=len:=by obtain⟨_,A1,c1,e1,_⟩:=Reads.zk a;cases e1;rfl
 have a:=a.plain F;subst E
 have X:z.map (fun p=>p.add (0*n))=z:=by
  cases z with
  |none=>rfl|some ad=>simp[Addr.add]
 have d:b.ownsRow w.heap.size e n (.slice z o c0) o k:=⟨a.1,a.2.imp id (fun⟨g,cap,cur,y,_,h3⟩=>⟨g,cap,cur,y,by
  have:=(u.live Z B _ g t (by rw[y];rfl)).2
  exact this.resolve_right (fun h=>h.1),h3⟩)⟩
 have this:O.defers=[]/\∃ v,(results fn O.tmps).run P b=.ok v b/\∃ j k,Ending.returned v=.returned j/\Ext w b/\b.ownsRow w.heap.size e n j o k/\∀ (C:Ctx) i,i<o->RL C (f' i) ((k.drop (i*n)).take n):=by
  refine⟨u.defers,_,h5,_,k,rfl,u.iq,?_,fun C i G=>?_⟩
  ·first|exact d|(simp only[aAH,Nat.sub_zero] at X ⊢;rw[X];exact d)
  have Y:=K i G;rw[(r i G).1] at Y;exact bGz Y (r i G).2
 rcases y with rfl|rfl<;>exact this
def aKl(g:jl->Option (Prop×Nat×Nat×Nat×(Nat->dw))):Spec:=fun a c=>FP c fun b=>match g b with
 |some (p,e,n,len,f)=>.need p (.new a (.arr e n len f) fun v=>.ret (dm (.ow a v n 0 len)))|none=>.fail
theorem aIg{P:dE}{I:je}{f:Nat}{g:jl->Option (Prop×Nat×Nat×Nat×(Nat->dw))}(c:∀ args w,(YR f args).run P w=.ok (.enter f args) w)(C:∀ j p e n len d,g j=some (p,e,n,len,d)->p->Y3 P I f j e n len d):d_ P I f (aKl g):=by
 refine⟨c,fun A s a w K u t m F h D x b=>?_⟩;unfold aKl at b;obtain⟨l,J,b⟩:=aLt h x b;cases k:g l with
 |none=>rw[k] at b;exact b.elim|some q=>obtain⟨p,e,n,len,d⟩:=q;rw[k] at b;obtain⟨z,b⟩:=b;refine (C l p e n len d k z w (fun _=>True) m (D.mem w h.iq) J).mono ?_;rintro r L ⟨o,j,rfl,E,B,y⟩;obtain⟨i,H,G⟩:=h.B_ u e n len (f:=d) E B y;exact .inl ⟨_,_,_,i,rfl,b,H,G⟩
@[simp] theorem Zg(b:Bool):Ed true b=b:=rfl
@[simp] theorem Vf(b:Bool):Ed false b=!b:=rfl
@[simp] theorem aFU:All []=True:=rfl
@[simp] theorem Zu(p:Prop)(l:List Prop):All (p::l)=(p/\All l):=rfl
@[simp] theorem aHQ(p:Prop):hP none p=p:=rfl
@[simp] theorem aHP(b:Bool)(p:Prop):hP (some b) p=(b=true->p):=rfl
end Pv
end Go.Proofs.YtndpjopifkbgiaaGreatDoor
