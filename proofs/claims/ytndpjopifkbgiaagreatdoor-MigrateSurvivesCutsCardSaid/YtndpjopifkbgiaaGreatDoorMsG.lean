/-.-/
import Derived.Test.YtndpjopifkbgiaaGreatDoorMsF
namespace Go.Proofs.YtndpjopifkbgiaaGreatDoor
open Go.RowKit
namespace Pv
theorem aNp(b:Nat)(t:TypeId):∀ (vs pre old post:List Value) (w:World),old.length=vs.length->au w b t (pre++old++post).toArray->au (w.setCells b pre.length vs) b t (pre++vs++post).toArray:=by
 intro vs
 induction vs with
 |nil=>intro pre old post w hl h;cases old with|nil=>exact h|cons=>simp at hl
 | cons v vs ih=>
  intro pre old post w hl h
  cases old with
  |nil=>simp at hl
  |cons x old=>
   have h1:=h.y9 pre.length v
   have e:(pre++x::old++post).toArray.setIfInBounds pre.length v=((pre++[v])++old++post).toArray:=by simp
   rw[e] at h1;have:=ih (pre++[v]) old post (w.setCell ⟨b,pre.length,none⟩ v) (by simpa using hl) h1;simp only[List.length_append,List.length_cons,List.length_nil,Nat.zero_add,List.append_assoc,List.singleton_append] at this;simp only[List.append_assoc,List.cons_append];exact this
def over(xs:List Value)(off:Nat)(ys:List Value):List Value:=xs.take off++ys++xs.drop (off+ys.length)
theorem mX{xs ys:List Value}{off:Nat}(h:off+ys.length<=xs.length):(over xs off ys).length=xs.length:=by
 unfold over;simp;omega
theorem aWs{w:World}{g:Nat}{t:TypeId}{cs:Array Value}(h:au w g t cs)(off:Nat)(ys:List Value)(hl:off+ys.length<=cs.size):au (w.setCells g off ys) g t (over cs.toList off ys).toArray:=by
 have e:cs=(cs.toList.take off++(cs.toList.drop off).take ys.length++cs.toList.drop (off+ys.length)).toArray:=by
  rw[List.append_assoc,<-List.drop_drop,List.take_append_drop,List.take_append_drop]
 have h2:=h;rw[e] at h2;have:=aNp g t ys (cs.toList.take off) ((cs.toList.drop off).take ys.length) (cs.toList.drop (off+ys.length)) w (by simp;omega) h2;rw[List.length_take,Array.length_toList,Nat.min_eq_left (by omega)] at this;exact this
theorem uF{w:World}{g:Nat}{t:TypeId}{cs:Array Value}(h:au w g t cs)(off n:Nat)(hl:off+n<=cs.size):w.there g off n:=fun j hj=>by
 rw[h.cell,h.frozen]
 exact⟨by rw[Array.getElem?_eq_getElem (by omega)];rfl,rfl⟩
def CB(w:World)(g:Nat)(t:TypeId)(fr:Nat×Nat)(cs:Array Value):Prop:=w.heap[g]?=some (.cells cs t fr)
theorem CB.y9{w:World}{g:Nat}{t:TypeId}{fr:Nat×Nat}{cs:Array Value}(h:CB w g t fr cs)(i:Nat)(u:Value):CB (w.setCell ⟨g,i,none⟩ u) g t fr (cs.setIfInBounds i u):=by
 unfold CB at h ⊢;simp[World.setCell,Array.getElem?_modify,h]
theorem aKg(b:Nat)(t:TypeId)(fr:Nat×Nat):∀ (vs pre old post:List Value) (w:World),old.length=vs.length->CB w b t fr (pre++old++post).toArray->CB (w.setCells b pre.length vs) b t fr (pre++vs++post).toArray:=by
 intro vs
 induction vs with
 |nil=>intro pre old post w hl h;cases old with|nil=>exact h|cons=>simp at hl
 | cons v vs ih=>
  intro pre old post w hl h
  cases old with
  |nil=>simp at hl
  |cons x old=>
   have h1:=h.y9 pre.length v
   have e:(pre++x::old++post).toArray.setIfInBounds pre.length v=((pre++[v])++old++post).toArray:=by simp
   rw[e] at h1;have:=ih (pre++[v]) old post (w.setCell ⟨b,pre.length,none⟩ v) (by simpa using hl) h1;simp only[List.length_append,List.length_cons,List.length_nil,Nat.zero_add,List.append_assoc,List.singleton_append] at this;simp only[List.append_assoc,List.cons_append];exact this
theorem bHp{w:World}{g:Nat}{t:TypeId}{fr:Nat×Nat}{cs:Array Value}(h:CB w g t fr cs)(off:Nat)(ys:List Value)(hl:off+ys.length<=cs.size):CB (w.setCells g off ys) g t fr (over cs.toList off ys).toArray:=by
 have e:cs=(cs.toList.take off++(cs.toList.drop off).take ys.length++cs.toList.drop (off+ys.length)).toArray:=by
  rw[List.append_assoc,<-List.drop_drop,List.take_append_drop,List.take_append_drop]
 have h2:=h;rw[e] at h2;have:=aKg g t fr ys (cs.toList.take off) ((cs.toList.drop off).take ys.length) (cs.toList.drop (off+ys.length)) w (by simp;omega) h2;rw[List.length_take,Array.length_toList,Nat.min_eq_left (by omega)] at this;exact this
theorem aKc{w:World}{g:Nat}{t:TypeId}{fr:Nat×Nat}{cs:Array Value}(h:CB w g t fr cs)(hfr:fr=(0,0)\/cs.size<=fr.1)(off n:Nat)(hl:off+n<=cs.size):w.there g off n:=fun j hj=>by
 unfold CB at h
 refine⟨?_,?_⟩
 ·rw[cell_of_row w g _ cs t fr h,Array.getElem?_eq_getElem (by omega)];rfl
 ·rcases hfr with rfl|hfr
  ·simp[World.frozen?,h]
  ·simp[World.frozen?,h];omega
theorem fU{xs ys:List Value}{off:Nat}(h2:off+ys.length<=xs.length)(k:Nat):(over xs off ys)[k]?=if off<=k/\k<off+ys.length then ys[k-off]? else xs[k]?:=by
 unfold over
 by_cases h1:k<off
 ·rw[if_neg (by omega),List.append_assoc,List.getElem?_append_left (by simp;omega),List.getElem?_take,if_pos h1]
 ·by_cases h3:k<off+ys.length
  ·rw[if_pos (by omega),List.append_assoc,List.getElem?_append_right (by simp;omega),List.length_take,Nat.min_eq_left (by omega),List.getElem?_append_left (by omega)]
  ·rw[if_neg (by omega),List.getElem?_append_right (by simp;omega),List.length_append,List.length_take,Nat.min_eq_left (by omega),List.getElem?_drop];congr 1;omega
theorem aSo{xs ys:List Value}{p n j:Nat}(h:p+n<=xs.length)(hj:j+ys.length<=n):((over xs (p+j) ys).drop p).take n=over ((xs.drop p).take n) j ys:=by
 apply List.ext_getElem?;intro k;rw[List.getElem?_take,List.getElem?_drop,fU (by omega),fU (by simp;omega),List.getElem?_take,List.getElem?_drop]
 by_cases hk:k<n
 ·rw[if_pos hk,if_pos hk]
  by_cases h1:j<=k/\k<j+ys.length
  ·rw[if_pos h1,if_pos (by omega)];congr 1;omega
  ·rw[if_neg h1,if_neg (by omega)]
 ·rw[if_neg hk,if_neg hk,if_neg (by omega)]
theorem uU{xs ys:List Value}{p n q:Nat}(h2:q+ys.length<=xs.length)(ho:q+ys.length<=p\/p+n<=q):((over xs q ys).drop p).take n=(xs.drop p).take n:=by
 apply List.ext_getElem?;intro k;rw[List.getElem?_take,List.getElem?_drop,fU h2,List.getElem?_take,List.getElem?_drop]
 by_cases hk:k<n
 ·rw[if_pos hk,if_pos hk,if_neg (by omega)]
 ·rw[if_neg hk,if_neg hk]
theorem aIj{xs ys:List Value}{q k:Nat}(h:q+ys.length<=k)(h2:k<=xs.length):(over xs q ys).take k=over (xs.take k) q ys:=by
 apply List.ext_getElem?;intro i;rw[List.getElem?_take,fU (by omega),fU (by simp;omega),List.getElem?_take]
 by_cases hi:i<k
 ·rw[if_pos hi,if_pos hi]
 ·rw[if_neg hi,if_neg hi,if_neg (by omega)]
theorem aWf{C:Ctx}:∀ {l:List PC} {n:Nat} {r:List PC} {xs:List Value},RL C l xs->splice.Aj l n=some r->RL C r (xs.drop n)/\n<=xs.length:=by
 intro l
 induction l with
 |nil=>
  intro n r xs h hd;cases h
  cases n with
  |zero=>simp[splice.Aj] at hd;subst hd;exact⟨.nil,Nat.le_refl _⟩
  |succ n=>simp[splice.Aj] at hd
 | cons c l ih=>
  intro n r xs h hd
  cases n with
  |zero=>simp[splice.Aj] at hd;subst hd;exact⟨h,Nat.zero_le _⟩
  | succ n=>
   cases h with
   | @cons _ _ _ xa xb h1 h2=>
    have hw:=h1.width;unfold splice.Aj at hd
    by_cases hc:c.width<=n+1
    ·rw[if_pos hc] at hd;obtain⟨k1,k2⟩:=ih h2 hd
     refine⟨?_,by rw[List.length_append];omega⟩
     rw[List.drop_append,List.drop_of_length_le (by omega),List.nil_append,hw];exact k1
    ·rw[if_neg hc] at hd;cases hd
theorem aDx{C:Ctx}:∀ {l:List PC} {off:Nat} {m l':List PC} {xs ys:List Value},RL C l xs->RL C m ys->splice l off m=some l'->RL C l' (over xs off ys)/\off+ys.length<=xs.length:=by
 intro l
 induction l with
 | nil=>
  intro off m l' xs ys h hm hs
  cases off with
  | zero=>
   unfold splice at hs
   cases hd:splice.Aj [] (widths m) with
   |none=>rw[hd] at hs;cases hs
   |some r=>
    rw[hd] at hs;cases hs;obtain⟨k1,k2⟩:=aWf h hd;rw[<-hm.width] at k1 k2
    exact⟨by unfold over;simpa using hm.append k1,by omega⟩
  |succ off=>simp[splice] at hs
 | cons c l ih=>
  intro off m l' xs ys h hm hs
  cases off with
  | zero=>
   unfold splice at hs
   cases hd:splice.Aj (c::l) (widths m) with
   |none=>rw[hd] at hs;cases hs
   |some r=>
    rw[hd] at hs;cases hs;obtain⟨k1,k2⟩:=aWf h hd;rw[<-hm.width] at k1 k2
    exact⟨by unfold over;simpa using hm.append k1,by omega⟩
  | succ off=>
   cases h with
   | @cons _ _ _ xa xb h1 h2=>
    have hw:=h1.width;unfold splice at hs
    by_cases hc:c.width<=off+1
    ·rw[if_pos hc] at hs
     cases hq:splice l (off+1-c.width) m with
     |none=>rw[hq] at hs;cases hs
     | some r=>
      rw[hq] at hs;cases hs;obtain⟨k1,k2⟩:=ih h2 hm hq
      refine⟨?_,by rw[List.length_append];omega⟩
      have e:over (xa++xb) (off+1) ys=xa++over xb (off+1-c.width) ys:=by
       unfold over;rw[List.take_append,List.take_of_length_le (by omega),hw,List.drop_append,List.drop_of_length_le (by omega),List.nil_append,hw];simp only[List.append_assoc];congr 4;omega
      rw[e];exact .cons h1 k1
    ·rw[if_neg hc] at hs;cases hs
theorem bDg(l0:List UInt8)(k:Nat)(b:UInt8)(xb:List Value)(hk:k<l0.length):over (l0.map o9++xb) (0+k) [o9 b]=(l0.set k b).map o9++xb:=by
 rw[Nat.zero_add,List.map_set,<-List.set_append_left _ _ (by simpa using hk)];apply List.ext_getElem?;intro i;rw[fU (by simp;omega),List.getElem?_set]
 by_cases hik:k=i
 ·subst hik;rw[if_pos (by simp),if_pos rfl,if_pos (by simp;omega)];simp
 ·rw[if_neg hik,if_neg (by simp;omega)]
theorem IB{C:Ctx}:∀ {l:List PC} {off n k:Nat} {bs:List UInt8} {b:UInt8} {xs:List Value},RL C l xs->uo l off=some (n,bs)->k<n->RL C (Zh l off (bs.set k b)) (over xs (off+k) [o9 b]):=by
 intro l
 induction l with
 |nil=>intro off n k bs b xs h hb;cases off<;>simp[uo] at hb
 | cons c l ih=>
  intro off n k bs b xs h hb hk
  cases h with
  | @cons _ _ _ xa xb h1 h2=>
   have hw:=h1.width
   cases off with
   | zero=>
    cases c<;>first|(simp[uo] at hb;done)|skip
    obtain⟨rfl,rfl⟩:_=n/\_=bs:=by simpa[uo] using hb
    cases h1 with
    |bs h=>
     rw[bDg _ _ _ _ (by omega)]
     exact .cons (.bs (by rw[List.length_set];exact h)) h2
   | succ off=>
    have hb':(if c.width<=off+1 then uo l (off+1-c.width) else none)=some (n,bs):=by cases c<;>exact hb
    have hs':Zh (c::l) (off+1) (bs.set k b)=c::Zh l (off+1-c.width) (bs.set k b):=by cases c<;>rfl
    by_cases hc:c.width<=off+1
    ·rw[if_pos hc] at hb';rw[hs']
     have e:over (xa++xb) (off+1+k) [o9 b]=xa++over xb (off+1-c.width+k) [o9 b]:=by
      unfold over;rw[List.take_append,List.take_of_length_le (by omega),hw,List.drop_append,List.drop_of_length_le (by simp;omega),List.nil_append,hw];simp only[List.append_assoc];congr 3
      ·congr 1;omega
      ·congr 1;simp;omega
     rw[e];exact .cons h1 (ih h2 hb' hk)
    ·rw[if_neg hc] at hb';cases hb'
section
variable {P:Program} {A:kz} {s:St} {a:Act} {w:World} {env:Env}
theorem aQl{v:Value}(h:v.oneCell'=true):v.cells=#[v]:=by cases v<;>first|rfl|cases h
theorem RW.cells'{C:Ctx}{pw:PW}{v:Value}(h:RW C pw v):RL C pw.cells v.cells.toList:=by
 cases h with
 |one h=>
  rw[aQl (h.ones v (by simp))]
  exact .cons h .nil
 |agg h=>exact h
theorem uM{t:TypeId}{b o:Nat}{v:Value}(hsz:o_ P t=some v.cells.size)(h1:∀ u∈v.cells.toList,u.oneCell'=true)(hth:w.there b o v.cells.size) :
  (Instr.storeAt t (.pointer (some ⟨b,o,none⟩)) v).run P w=.ok () (w.setCells b o v.cells.toList):=by
 have:=run_storeAt_mid (P:=P) w b o t v.cells hth hsz (by rw[Array.all_eq_true'];intro u hu;exact h1 u (Array.mem_toList_iff.2 hu));have e:Instr.storeAt t (.pointer (some ⟨b,o,none⟩)) v=Instr.storeAt t (.pointer (some ⟨b,o,none⟩)) (.agg v.cells):=rfl;rw[e];exact this
theorem kY{o:Oper}{K:Act->World->Prop}{Q:Exit->Act->World->Prop}{t:TypeId}{x y:Operand}(ho:o.op=.store t x y){w':World}(hr:(Instr.storeAt t (a.eval x) (a.eval y)).run P w=.ok () w')(hK:K (a.put o.dst undef) w'):o.wp P a w K Q:=by
 unfold Oper.wp execOp;simp only[ho,Sem.run_bind,Sem.run_pure,Result.andThen_ok,hr];exact hK
theorem gm.CZ(h:gm A s a w env){x ai:Nat}{g:Option Bool}{bt:TypeId}{l l':List PC}{b:Nat}(_:find s.o x=some (g,ai,.box bt l))(he:env x=some (ai,iK b)){cs:Array Value}(hB:au w b bt cs){off:Nat}{ys:List Value}(hl:off+ys.length<=cs.size)
  (hr:RL (aU A w env) l' (over cs.toList off ys)):∃ env',gm A { s with o:=[(x,none,ai,.box bt l')]++s.o } a (w.setCells b off ys) env':=by
 have hc:=(fZ b ys off w).1;have hsz:=(fZ b ys off w).2
 refine⟨_,(h.upd x none ai (iK b) (.box bt l') (hc.mono fun i _ e=>⟨ai,_,he,by rw[e];rfl⟩) (fun v hd e=>by rw[he] at e;cases e;exact .inr ⟨rfl,rfl⟩) (fun b' hb'=>by cases hb';exact⟨by rw[hsz];exact hB.lt,.inr ⟨ai,_,he,rfl⟩⟩) (fun hle _=>?_)).1⟩
 exact⟨b,_,rfl,aWs hB off ys hl,by simpa using hr.le hle⟩
theorem Ho (h:gm A s a w env) {o:Oper} {K:Act->World->Prop} {Q:Exit->Act->World->Prop} {F:Option Bool->PV->Wr->Prop} {t:TypeId} {x y:Operand} (ho:o.op=.store t x y) {p v:PV} (hp:RV (aU A w env) p (a.eval x)) (hv:RV (aU A w env) v (a.eval y)) (hk:(bBn P t p v).ok none s F) (hf:Fin A s a o K F):o.wp P a w K Q:=by
 unfold bBn at hk
 cases v<;>try exact hk.elim
 rename_i pw
 cases hsz:o_ P t<;>simp only[hsz] at hk<;>try exact hk.elim
 rename_i sz
 cases hb0:Nat.beq sz (widths pw.cells)<;>simp only[hb0] at hk<;>try exact hk.elim
 cases hv with
 | w hv =>
  have hcells:=hv.cells';obtain⟨yv,hy⟩:∃ v,a.eval y=v:=⟨_,rfl⟩;rw[hy] at hv hcells;have hwd:=hcells.width;have e0:=gy hb0
  have WE:o_ P t=some yv.cells.size:=by rw[hsz,e0,<-hwd,Array.length_toList]
  split at hk
  ·
   rename_i x1 ai off;obtain⟨g,vr,ob,hfo,hk⟩:=hk;have hk2:=dU hk;clear hk;obtain⟨hg,hk⟩:=hk2;obtain⟨hd,he,hob⟩:=jQ h hfo hg
   cases hb:Nat.beq ai vr<;>cases ob<;>simp only[hb] at hk<;>try exact hk.elim
   rename_i bt l
   obtain rfl:=gy hb
   cases hs:splice l off pw.cells with
   |none=>rw[hs] at hk;exact hk.elim
   |some l'=>
    rw[hs] at hk;have hF:F none .none [(x1,none,ai,.box bt l')]:=hk.2;obtain⟨g1,rfl,hpv⟩:=hp.AQ he;obtain⟨g2,cs,e2,hB,hR⟩:=hob;cases e2;obtain⟨k1,k2⟩:=aDx hR hcells hs
    have k2':off+yv.cells.toList.length<=cs.size:=by simpa using k2
    obtain⟨env',hg'⟩:=h.CZ hfo he hB k2' k1;refine kY ho (w':=w.setCells g1 off yv.cells.toList) ?_ (hf .none _ undef _ env' hF hg' .none);rw[hpv,hy];exact uM WE hcells.ones (uF hB off _ (by simpa using k2'))
  ·
   rename_i x1 ai off k;obtain⟨g,vr,ob,hfo,hk⟩:=hk;have hk2:=dU hk;clear hk;obtain⟨hg,hk⟩:=hk2;obtain⟨hd,he,hob⟩:=jQ h hfo hg
   cases hb:Nat.beq ai vr<;>cases ob<;>simp only[hb] at hk<;>try exact hk.elim
   rename_i bt l
   obtain rfl:=gy hb
   split at hk<;>try exact hk.elim
   rename_i bt2 l2 b1 hbe hoe;cases hoe
   cases hs:uo l off with
   |none=>rw[hs] at hk;exact hk.elim
   | some q=>
    obtain⟨n,bs⟩:=q;rw[hs] at hk;obtain⟨⟨hkn,bJn,hb1'⟩,hk⟩:=hk;have hF:F none .none [(x1,none,ai,.box bt (Zh l off (bs.set k (UInt8.ofNat b1.toNat))))]:=hk.2;obtain⟨g1,rfl,hpv⟩:=hp.JF he;obtain⟨g2,cs,e2,hB,hR⟩:=hob;cases e2;obtain⟨k1,k2,k3⟩:=oQ hR hs
    have hyv:yv=.int .u8 b1:=by
     cases hv with
     |one hv=>cases hv;rfl
    have hu:[o9 (UInt8.ofNat b1.toNat)]=yv.cells.toList:=by
     rw[hyv]
     show[Value.int .u8 (((UInt8.ofNat b1.toNat).toNat:Nat):Int)]=[.int .u8 b1]
     congr 2;rw[UInt8.toNat_ofNat_of_lt' (show b1.toNat<256 by omega)];omega
    have hr:=IB (b:=UInt8.ofNat b1.toNat) hR hs hkn;rw[hu] at hr
    have hyl:yv.cells.toList.length=1:=by rw[<-hu];rfl
    have k3':off+n<=cs.size:=by rw[<-Array.length_toList];exact k3
    have k4':off+k+1<=cs.size:=by omega
    obtain⟨env',hg'⟩:=h.CZ hfo he hB (off:=off+k) (ys:=yv.cells.toList) (by rw[hyl];exact k4') hr;refine kY ho (w':=w.setCells g1 (off+k) yv.cells.toList) ?_ (hf .none _ undef _ env' hF hg' .none);rw[hpv,hy];exact uM WE hcells.ones (uF hB (off+k) _ (by rw[Array.length_toList] at hyl;rw[hyl];exact k4'))
  ·
   rename_i x1 ai n i j;obtain⟨g,vr,ob,hfo,hk⟩:=hk;have hk2:=dU hk;clear hk;obtain⟨hg,hk⟩:=hk2;obtain⟨hd,he,hob⟩:=jQ h hfo hg
   cases hb:Nat.beq ai vr<;>cases ob<;>simp only[hb] at hk<;>try exact hk.elim
   rename_i e n' len f
   obtain rfl:=gy hb
   cases hb2:Nat.beq n n'<;>cases hs:splice (f i) j pw.cells<;>simp only[hb2,hs] at hk<;>try exact hk.elim
   rename_i m
   obtain rfl:=gy hb2
   obtain⟨hil,hk⟩:=hk;have hF:F none .none [(x1,none,ai,.arr e n len (fun i'=>if i'=i then m else f i'))]:=hk.2;obtain⟨g1,n0,c0,rfl,hi0,hpv⟩:=hp.JG he;obtain⟨vs,hown,hel⟩:=hob;obtain⟨k1,k2⟩:=aDx (hel i hil) hcells hs;have hvl:=hown.1
   have hwin:((vs.drop (i*n)).take n).length=n:=by
    have:(i+1)*n<=len*n:=Nat.mul_le_mul_right n hil;rw[Nat.add_mul,Nat.one_mul] at this;simp;omega
   rw[hwin] at k2;rcases hown.2 with⟨e0,_⟩|⟨g',cap,cur,t',fr,e0,hgg,hfr,hnc,hcm,hcs,htake⟩
   ·cases e0
   ·cases e0;have hin:(i+1)*n<=len*n:=Nat.mul_le_mul_right n hil;rw[Nat.add_mul,Nat.one_mul] at hin
    have hlen:i*n+j+yv.cells.toList.length<=len*n:=by omega
    have hcap:len*n<=c0*n:=Nat.mul_le_mul_right n hnc;have hB:CB w g1 t' fr cur:=hgg;have hc:=(fZ g1 yv.cells.toList (i*n+j) w).1;have hsz2:=(fZ g1 yv.cells.toList (i*n+j) w).2
    have hcl:i*n+j+yv.cells.toList.length<=cur.size:=by omega
    have aNO:(over cur.toList (i*n+j) yv.cells.toList).toArray.size=cur.size:=by
     rw[List.size_toArray,mX (by simpa using hcl),Array.length_toList]
    have hnew:D5 (w.setCells g1 (i*n+j) yv.cells.toList) e n (.slice (some ⟨g1,0,none⟩) len c0) len (over vs (i*n+j) yv.cells.toList):=by
     refine⟨by rw[mX (by omega)];exact hvl,.inr ⟨g1,c0,(over cur.toList (i*n+j) yv.cells.toList).toArray,t',fr,rfl,bHp hB _ _ hcl,?_,hnc,hcm,?_,?_⟩⟩
     ·rw[aNO];exact hfr
     ·rw[List.size_toArray,mX (by simpa using hcl),Array.length_toList,hcs]
     ·rw[<-htake];exact aIj hlen (by rw[Array.length_toList];omega)
    obtain⟨LK,hle⟩:=h.upd x1 none ai (.slice (some ⟨g1,0,none⟩) len c0) (.arr e n len (fun i'=>if i'=i then m else f i')) (hc.mono fun b _ e=>⟨ai,_,he,by rw[e];rfl⟩) (fun v hd e=>by rw[he] at e;cases e;exact .inr ⟨rfl,rfl⟩) (fun b' hb'=>by cases hb';exact⟨by rw[hsz2];exact lt_of_heap hgg,.inr ⟨ai,_,he,rfl⟩⟩) (fun hle _=>⟨_,hnew,fun i' hi'=>by
     dsimp only
     by_cases hii:i'=i
     ·subst hii;rw[if_pos rfl,aSo (by omega) (by omega)];exact k1.le hle
     ·rw[if_neg hii,uU (by omega) ?_]
      ·exact (hel i' hi').le hle
      ·rcases Nat.lt_or_gt_of_ne hii with h1|h1
       ·have:(i'+1)*n<=i*n:=Nat.mul_le_mul_right n h1;rw[Nat.add_mul,Nat.one_mul] at this;omega
       ·have:(i+1)*n<=i'*n:=Nat.mul_le_mul_right n h1;rw[Nat.add_mul,Nat.one_mul] at this
        omega⟩)
    refine kY ho (w':=w.setCells g1 (i*n+j) yv.cells.toList) ?_ (hf .none _ undef _ _ hF LK .none);rw[hpv,hy];exact uM WE hcells.ones (aKc hB (hfr.imp (·.2) (·.2)) _ _ (by rw[Array.length_toList] at hcl;omega))
  ·exact hk.elim
end
theorem bHj{v:Value}{b:UInt8}(h:byteOf v=some b):v=o9 b:=by
 unfold byteOf at h
 split at h
 ·split at h
  ·cases h;rename_i hn;show Value.int .u8 _=.int .u8 _;rw[<-hn]
  ·cases h
 ·cases h
theorem vP:∀ {n:Nat} {l:List Value} {bs:List UInt8},jI n l=some bs->bs.length=n/\l=bs.map o9++l.drop n
 |0,l,bs,h=>by simp[jI] at h;subst h;exact⟨rfl,by simp⟩
 |n+1,[],bs,h=>by simp[jI] at h
 | n+1,v::l,bs,h=>by
  unfold jI at h
  cases h1:byteOf v with
  |none=>rw[h1] at h;simp at h
  | some b=>
   cases h2:jI n l with
   |none=>rw[h1,h2] at h;simp at h
   |some r=>
    rw[h1,h2] at h;cases h;obtain⟨k1,k2⟩:=vP h2
    exact⟨by simp[k1],by rw[bHj h1];simp;exact k2⟩
theorem aSn{C:Ctx}:∀ {sh:List Nat} {xs:List Value} {l:List PC},pack sh xs=some l->RL C l xs
 |[],[],l,h=>by simp[pack] at h;subst h;exact .nil
 |[],_::_,l,h=>by simp[pack] at h
 |0::sh,[],l,h=>by simp[pack] at h
 | 0::sh,v::xs,l,h=>by
  unfold pack at h
  by_cases hv:v.oneCell'=true
  ·rw[if_pos hv] at h
   cases h1:pack sh xs with
   |none=>rw[h1] at h;cases h
   |some r=>
    rw[h1] at h;cases h;exact .cons (xs:=[v]) (.lit hv) (aSn h1)
  ·rw[if_neg hv] at h;cases h
 | (n+1)::sh,xs,l,h=>by
  unfold pack at h
  cases h1:jI (n+1) xs with
  |none=>rw[h1] at h;simp at h
  | some bs=>
   cases h2:pack sh (xs.drop (n+1)) with
   |none=>rw[h1,h2] at h;simp at h
   |some r=>
    rw[h1,h2] at h;cases h;obtain⟨k1,k2⟩:=vP h1;rw[k2];exact .cons (.bs k1) (aSn h2)
section
variable {P:Program} {A:kz} {s:St} {a:Act} {w:World} {env:Env} {o:Oper} {K:Act->World->Prop} {Q:Exit->Act->World->Prop} {F:Option Bool->PV->Wr->Prop}
theorem aW{v:Value}{w':World}(hr:(execOp a.eval o).run P w=.ok (.value v) w')(hK:K (a.put o.dst v) w'):o.wp P a w K Q:=by
 unfold Oper.wp;rw[hr];exact hK
theorem bEb(h:gm A s a w env){x:Operand}(ho:o.op=.move x\/o.op=.assign x)(hk:(yj x fun v=>.ret v).ok none s F)(hf:Fin A s a o K F):o.wp P a w K Q:=by
 obtain⟨pv,hp,hk⟩:=gG h hk;refine aW (v:=a.eval x) (w':=w) ?_ (hf.same h hk hp)
 rcases ho with ho|ho<;>simp[execOp,ho]
theorem RV.zy{C:Ctx}{b:Bool}{v:Value}(h:RV C (.w (.one (.lit (.bool b)))) v):v=.bool b:=by cases h.inv;rfl
theorem RV.dw{C:Ctx}{u v:Value}(h:RV C (.w (.one (.lit u))) v):v=u:=by cases h.inv;rfl
theorem Q8(h:gm A s a w env){c x y:Operand}(ho:o.op=.pick c x y)(hk:(U4 c x y).ok none s F)(hf:Fin A s a o K F):o.wp P a w K Q:=by
 obtain⟨cv,hc,hk⟩:=gG h hk
 split at hk
 ·rename_i hb;have hk1:=bGg h hk;clear hk;obtain⟨av,ha,hk⟩:=hk1;have hk1:=bGg h hk;clear hk;obtain⟨bv,hbv,hk⟩:=hk1
  split at hk
  ·rename_i x1 y1;refine aW (v:=.bool (bif hb then x1 else y1)) (w':=w) ?_ (hf.same h hk (.w (.one (.lit rfl))));have hcv:=hc.zy
   cases hb with
   |true=>simp[execOp,ho,hcv,asBool,(ha rfl).zy]
   |false=>simp[execOp,ho,hcv,asBool,(hbv rfl).zy]
  ·exact hk.elim
 ·exact hk.elim
theorem aDg{C:Ctx}{t:TypeId}{l:List PC}(h:Xm P t=some l):∃ i z,P.info? t=some i/\i.zero=some z/\RL C l z.cells.toList:=by
 unfold Xm at h
 cases hi:P.info? t with
 |none=>rw[hi] at h;simp at h
 | some i=>
  rw[hi] at h;simp only[Option.bind_some] at h
  cases hz:i.zero with
  |none=>rw[hz] at h;simp at h
  | some z=>
   cases hs:shapeOf P 8 t with
   |none=>rw[hz,hs] at h;simp at h
   |some sh=>
    rw[hz,hs] at h
    exact⟨i,z,rfl,hz,aSn h⟩
theorem gm.Eg(h:gm A s a w env)(nm:Nat)(t:TypeId){l:List PC}{cs:Array Value}(hr:RL (aU A w env) l cs.toList) :
  ∃ env',gm A { s with o:=[(nm,none,fresh s nm,.box t l)]++s.o } a (w.alloc (.cells cs t)) env'/\RV (aU A (w.alloc (.cells cs t)) env') (dn (.pt nm (fresh s nm) 0)) (.pointer (some ⟨w.heap.size,0,none⟩)):=by
 obtain⟨h1,h2⟩:=h.new (w':=w.alloc (.cells cs t)) nm none (iK w.heap.size) (.box t l) ((Ext.refl w).alloc _) (fun b hb=>by cases hb;simp) (fun hle _=>⟨_,cs,rfl,au.new w t cs,hr.le hle⟩)
 exact⟨_,h1,.w (.one (.pt ⟨_,_,rfl⟩ ⟨_,_,iE _ _ _ _,Nat.le_refl _,fun _=>⟨_,rfl,rfl⟩⟩))⟩
theorem O7(h:gm A s a w env){nm:Nat}{t:TypeId}(ho:o.op=.alloc t){l:List PC}(hz:Xm P t=some l)(hk:(M.new nm (.box t l) fun v=>.ret (dn (.pt nm v 0))).ok none s F)(hf:Fin A s a o K F):o.wp P a w K Q:=by
 obtain⟨i,z,hi,hzz,hr⟩:=aDg (C:=aU A w env) hz;obtain⟨env',h1,h2⟩:=h.Eg nm t hr;refine aW (v:=.pointer (some ⟨w.heap.size,0,none⟩)) (w':=w.alloc (.cells z.cells t)) ?_ (hf _ _ _ _ _ hk h1 h2);simp[execOp,ho,Instr.alloc,zeroValue,typeInfo,hi,hzz,newVar,newRow]
theorem XL(h:gm A s a w env){nm:Nat}{t:TypeId}{x:Operand}(ho:o.op=.box t x){pw:PW}(hv:RW (aU A w env) pw (a.eval x))(hk:(M.new nm (.box t pw.cells) fun v=>.ret (dn (.pt nm v 0))).ok none s F)(hf:Fin A s a o K F):o.wp P a w K Q:=by
 obtain⟨env',h1,h2⟩:=h.Eg nm t hv.cells';refine aW (v:=.pointer (some ⟨w.heap.size,0,none⟩)) (w':=w.alloc (.cells (a.eval x).cells t)) ?_ (hf _ _ _ _ _ hk h1 h2);simp[execOp,ho,Instr.box,newVar,newRow]
theorem aZh(h:gm A s a w env){x:Operand}{i:Nat}(ho:o.op=.extract x i){v:PV}(hv:RV (aU A w env) v (a.eval x))(hk:(Pj (Gy v i)).ok none s F)(hf:Fin A s a o K F):o.wp P a w K Q:=by
 obtain⟨pw,hp,hF⟩:=bCl hk
 cases v<;>simp only[Gy] at hp<;>try (cases hp;done)
 rename_i l;generalize hq:a.eval x=q at hv
 cases hv with
 |lw hl hv=>
  obtain⟨u,h1,h2⟩:=hv i pw hp;refine aW (v:=u) (w':=w) ?_ (hf.same h hF (.w h2));simp[execOp,ho,hq,Instr.extract,h1]
theorem ML (h:gm A s a w env) {t:TypeId} {x:Operand} {f:Nat} (ho:o.op=.field t x f) {v:PV} (hv:RV (aU A w env) v (a.eval x)) (hk:(bFy P t v f).ok none s F) (hf:Fin A s a o K F):o.wp P a w K Q:=by
 unfold bFy at hk
 cases hu:P.underlying t with
 |none=>rw[hu] at hk;exact hk.elim
 | some d=>
  rw[hu] at hk
  cases d<;>try exact hk.elim
  rename_i fs;dsimp only at hk
  cases hfd:fs[f]? with
  |none=>rw[hfd] at hk;exact hk.elim
  | some fd=>
   rw[hfd] at hk;dsimp only at hk
   split at hk
   ·rename_i n l hsz
    cases hs:qL l fd.offset n with
    |none=>rw[hs] at hk;exact hk.elim
    | some m=>
     rw[hs] at hk;obtain⟨pw,hw,hF⟩:=bCl hk;generalize hq:a.eval x=q at hv
     cases hv with
     | w hv=>cases hv with
      | @agg _ cs hr=>
       obtain⟨k1,k2⟩:=hr.sub hs
       have hsize:∃ i,P.info? fd.type=some i/\i.size=n:=by
        unfold o_ at hsz
        cases hi:P.info? fd.type with
        |none=>rw[hi] at hsz;cases hsz
        |some i=>rw[hi] at hsz;exact⟨i,rfl,by simpa using hsz⟩
       obtain⟨i,hi,hin⟩:=hsize;rcases bEe hw k1 with⟨hrow,h1⟩|⟨hrow,u,hxs,_,h1⟩
       ·refine aW (v:=.agg ((cs.toList.drop fd.offset).take n).toArray) (w':=w) ?_ (hf.same h hF (.w h1));obtain⟨d,hd1,hd2⟩:=aEc hrow
        have hag:(isAgg fd.type).run P w=.ok true w:=by
         unfold isAgg;rw[Sem.run_bind,run_underlying hd1 w]
         cases d<;>simp_all
        have hex:cs.extract fd.offset (fd.offset+n)=((cs.toList.drop fd.offset).take n).toArray:=by
         apply Array.ext';simp[List.extract_eq_take_drop]
        simp[execOp,ho,hq,Instr.field,run_underlying hu,hfd,part,hag,sizeOf,typeInfo,hi,hin,asAgg,hex]
       ·refine aW (v:=u) (w':=w) ?_ (hf.same h hF (.w h1))
        have hcell:cs[fd.offset]?=some u:=by
         have:=congrArg (·[0]?) hxs;simp only[List.getElem?_take,List.getElem?_drop,Nat.add_zero,List.getElem?_cons_zero] at this
         split at this
         ·simpa using this
         ·cases this
        simp[execOp,ho,hq,Instr.field,run_underlying hu,hfd,part,yT hrow,hcell,asAgg]
   ·exact hk.elim
theorem nN{t:TypeId}{n:Nat}(h:o_ P t=some n):∃ i,P.info? t=some i/\i.size=n:=by
 unfold o_ at h
 cases hi:P.info? t with
 |none=>rw[hi] at h;cases h
 |some i=>rw[hi] at h;exact⟨i,rfl,by simpa using h⟩
theorem aRu{t:TypeId}{fs:Array Field}{fd:Field}{f b off n:Nat}(hu:P.underlying t=some (.struct fs))(hfd:fs[f]?=some fd)(hsz:o_ P fd.type=some (n+1))(w:World) :
  (Instr.fieldAt t (.pointer (some ⟨b,off,none⟩)) f).run P w=.ok (.pointer (some ⟨b,off+fd.offset,none⟩)) w:=by
 obtain⟨i,hi,hs⟩:=nN hsz;simp[Instr.fieldAt,run_underlying hu,hfd,Instr.sureAddr,fieldPlace,sizeOf,typeInfo,hi,hs,add_lit]
theorem aPw(h:gm A s a w env){t:TypeId}{x:Operand}{f:Nat}(ho:o.op=.fieldAddr t x f){p:PV}(hp:RV (aU A w env) p (a.eval x))(hk:(aAy P t p f).ok none s F)(hf:Fin A s a o K F):o.wp P a w K Q:=by
 unfold aAy at hk
 cases hu:P.underlying t with
 |none=>rw[hu] at hk;exact hk.elim
 | some d=>
  rw[hu] at hk
  cases d<;>try exact hk.elim
  rename_i fs;dsimp only at hk
  cases hfd:fs[f]? with
  |none=>rw[hfd] at hk;exact hk.elim
  | some fd=>
   rw[hfd] at hk;dsimp only at hk
   split at hk
   ·rename_i n hsz;have hrun:=fun b off=>aRu (b:=b) (off:=off) hu hfd hsz w
    have hstep:∀ b off,a.eval x=.pointer (some ⟨b,off,none⟩)->(execOp a.eval o).run P w=.ok (.value (.pointer (some ⟨b,off+fd.offset,none⟩))) w:=fun b off he=>by
     simp[execOp,ho,he,hrun b off]
    generalize hq:a.eval x=q at hp
    split at hk
    ·cases hp.inv with
     |pt h1 hat=>
      obtain⟨b,o1,rfl⟩:=h1;refine aW (hstep b o1 hq) (hf.same h hk (.w (.one (.pt ⟨_,_,rfl⟩ (hat.mono fun hd ⟨g,e1,e2⟩=>?_)))));cases e2
      exact⟨b,e1,rfl⟩
    ·cases hp.inv with
     |pe h1 hat=>
      obtain⟨b,o1,rfl⟩:=h1;refine aW (hstep b o1 hq) (hf.same h hk (.w (.one (.pe ⟨_,_,rfl⟩ (hat.mono fun hd ⟨g,n0,c0,e1,e3,e2⟩=>?_)))));cases e2
      exact⟨b,n0,c0,e1,e3,by rw[Nat.add_assoc]⟩
    ·rename_i n0 len0 f0 i0 j0
     cases hp.inv with
     |@pf _ _ _ _ _ _ b o1 c vs hr hb he hi=>
      refine aW (hstep b _ hq) (hf.same h hk (.w (.one ?_)));have:=R.pf (C:=aU A w env) (j:=j0+fd.offset) hr hb he hi;rw[show o1+(i0*n0+j0)+fd.offset=o1+(i0*n0+(j0+fd.offset)) from by omega];exact this
    ·exact hk.elim
   ·exact hk.elim
theorem wF{v:PV}{u:Value}(h:isLit v=some u):v=jo u:=by
 unfold isLit at h
 split at h
 ·cases h;rfl
 ·cases h
theorem wS{t e:TypeId}{b off n len c:Nat}{k:IntKind}{i:Int}(hu:P.underlying t=some (.slice e))(hsz:o_ P e=some n)(h0:0<=i)(h1:i<len)(w:World) :
  (Instr.indexAt t (.slice (some ⟨b,off,none⟩) len c) (.int k i)).run P w=.ok (.pointer (some ⟨b,off+i.toNat*n,none⟩)) w:=by
 obtain⟨ii,hi,hs⟩:=nN hsz;simp[Instr.indexAt,run_underlying hu,asIntOf,sizeOf,typeInfo,hi,hs,h0,h1,add_lit]
theorem oZ{t e:TypeId}{b off n len:Nat}{k:IntKind}{i:Int}(hu:P.underlying t=some (.array len e))(hsz:o_ P e=some n)(h0:0<=i)(h1:i<len)(w:World) :
  (Instr.indexAt t (.pointer (some ⟨b,off,none⟩)) (.int k i)).run P w=.ok (.pointer (some ⟨b,off+i.toNat*n,none⟩)) w:=by
 obtain⟨ii,hi,hs⟩:=nN hsz;simp[Instr.indexAt,run_underlying hu,asIntOf,sizeOf,typeInfo,hi,hs,h0,h1,add_lit,Instr.sureAddr]
theorem aPh(h:gm A s a w env){t:TypeId}{x y:Operand}(ho:o.op=.indexAddr t x y){p iv:PV}(hp:RV (aU A w env) p (a.eval x))(hv:RV (aU A w env) iv (a.eval y))(hk:(aAt P t p iv).ok none s F)(hf:Fin A s a o K F):o.wp P a w K Q:=by
 unfold aAt at hk
 split at hk
 ·rename_i kk i WM
  have hy:a.eval y=.int kk i:=by
   rw[wF WM] at hv;exact hv.dw
  have Bj:∀ q,(Instr.indexAt t (a.eval x) (.int kk i)).run P w=.ok q w->(execOp a.eval o).run P w=.ok (.value q) w:=fun q hq=>by
   simp[execOp,ho,hy,hq]
  generalize hq:a.eval x=q at hp Bj
  cases hu:P.underlying t with
  |none=>rw[hu] at hk;exact hk.elim
  | some d=>
   rw[hu] at hk
   cases d<;>try exact hk.elim
   ·rename_i e;dsimp only at hk
    split at hk
    ·rename_i n len f
     cases hsz:o_ P e with
     |none=>rw[hsz] at hk;exact hk.elim
     | some n'=>
      rw[hsz] at hk;dsimp only at hk
      cases hb:Nat.beq n n'<;>rw[hb] at hk
      ·exact hk.elim
      obtain⟨⟨h0,h1⟩,hF⟩:=hk
      obtain rfl:=gy hb
      cases hp.inv with
      |@sl _ _ _ _ _ vs hr hbb he=>
       obtain⟨g1,A1,c,rfl,g2,g3,g4⟩:=hr;obtain⟨b,off,rfl,hcell⟩:=g4 (by omega);refine aW (Bj _ (wS hu hsz h0 h1 w)) (hf.same h hF (.w (.one ?_)));have:=R.pf (C:=aU A w env) (n:=n) (len:=len) (f:=f) (i:=i.toNat) (j:=0) (b:=b) (o:=off) (c:=c) (vs:=vs) ⟨g1,_,c,rfl,g2,g3,fun _=>⟨b,off,rfl,hcell⟩⟩ (hbb b rfl (by omega)) he (by omega);exact this
    ·rename_i x1 ai n off len
     cases hsz:o_ P e with
     |none=>rw[hsz] at hk;exact hk.elim
     | some n'=>
      rw[hsz] at hk;dsimp only at hk
      cases hb:Nat.beq n n'<;>rw[hb] at hk
      ·exact hk.elim
      obtain⟨g,vr,ob,hfo,hk⟩:=hk;have hk2:=dU hk;clear hk;obtain⟨hg,hk⟩:=hk2;obtain⟨hd,he,hob⟩:=jQ h hfo hg
      cases hb2:Nat.beq ai vr<;>cases ob<;>simp only[hb2] at hk<;>try exact hk.elim
      rename_i e' n2 tot f
      obtain rfl:=gy hb2
      obtain rfl:=gy hb
      obtain⟨⟨h0,h1⟩,hF⟩:=hk;obtain⟨A0,n0,c0,rfl,hle,hv'⟩:=hp.yt he;obtain⟨vs,hown,hel⟩:=hob;rcases hown.2 with⟨e0,_⟩|⟨g1,cap,cur,t',fr,e0,_⟩
      ·cases e0;omega
      ·cases e0;subst hv';simp only[Option.map_some,add_lit] at Bj hp;refine aW (Bj _ (wS hu hsz h0 h1 w)) (hf.same h hF (.w (.one (.pe ⟨_,_,rfl⟩ ⟨ai,_,he,Nat.le_refl _,fun _=>⟨g1,_,_,rfl,by omega,?_⟩⟩))));rw[Nat.add_mul,Nat.zero_add,Nat.add_zero]
    ·exact hk.elim
   ·rename_i len e;dsimp only at hk
    split at hk
    ·rename_i x1 ai off hsz;obtain⟨⟨h0,h1⟩,hF⟩:=hk
     cases hp.inv with
     |pt hpt hat=>
      obtain⟨b,o1,rfl⟩:=hpt;refine aW (Bj _ (oZ hu hsz h0 h1 w)) (hf.same h hF (.w (.one (.pk ⟨_,_,rfl⟩ (hat.mono fun hd ⟨g,e1,e2⟩=>?_)))));cases e2
      exact⟨b,e1,by rw[Nat.mul_one]⟩
    ·rename_i n0 len0 f i0 j hsz;obtain⟨⟨h0,h1⟩,hF⟩:=hk
     cases hp.inv with
     |@pf _ _ _ _ _ _ b o1 c vs hr hb he hi=>
      refine aW (Bj _ (oZ hu hsz h0 h1 w)) (hf.same h hF (.w (.one ?_)));have:=R.pf (C:=aU A w env) (i:=i0) (j:=j+i.toNat) hr hb he hi;rw[show o1+(i0*n0+j)+i.toNat*1=o1+(i0*n0+(j+i.toNat)) from by omega];exact this
    ·rename_i m x1 ai off hsz;obtain⟨⟨h0,h1⟩,hF⟩:=hk
     cases hp.inv with
     |pt hpt hat=>
      obtain⟨b,o1,rfl⟩:=hpt;refine aW (Bj _ (oZ hu hsz h0 h1 w)) (hf.same h hF (.w (.one (.pt ⟨_,_,rfl⟩ (hat.mono fun hd ⟨g,e1,e2⟩=>?_)))));cases e2
      exact⟨b,e1,rfl⟩
    ·exact hk.elim
 ·exact hk.elim
theorem RV.w_{C:Ctx}{n len:Nat}{f:Nat->List PC}{v:Value}(h:RV C (.w (.one (.sl n len f))) v):∃ A c,v=.slice A len c:=by
 cases h.inv with
 |sl hr _ _=>obtain⟨_,A,c,rfl,_⟩:=hr;exact⟨_,_,rfl⟩
theorem Vw(h:gm A s a w env){x:Operand}{t:TypeId}(ho:o.op=.call { callee:=.builtin .len,args:=#[x],argTypes:=#[t] }){v:PV}(hv:RV (aU A w env) v (a.eval x))(hk:(Vx P t v).ok none s F)(hf:Fin A s a o K F):o.wp P a w K Q:=by
 have hstep:∀ n:Int,(Builtin.len_ #[t] o.type #[a.eval x]).run P w=.ok (goInt n) w->(execOp a.eval o).run P w=.ok (.value (.int .i64 n)) w:=fun n hr=>by
  simp only[execOp,ho,resolve,invoke,builtin,Sem.run_bind,Sem.run_pure,Result.andThen_ok,List.map_toArray,List.map_cons,List.map_nil,hr];rfl
 unfold Vx at hk;generalize hq:a.eval x=q at hv hstep
 split at hk
 ·rename_i e _ len _ hu;obtain⟨A1,c,rfl⟩:=hv.w_;exact aW (hstep len (by simp[Builtin.len_,run_underlying hu])) (hf.same h hk (.w (.one (.lit rfl))))
 ·rename_i e _ _ _ _ len hu
  cases hv.inv with
  |ow h1 _=>
   obtain⟨A1,c,rfl⟩:=h1;exact aW (hstep len (by simp[Builtin.len_,run_underlying hu])) (hf.same h hk (.w (.one (.lit rfl))))
 ·rename_i e _ _ _ len hu
  cases hv.inv with
  |ob h1 _=>
   obtain⟨A1,c,rfl⟩:=h1;exact aW (hstep len (by simp[Builtin.len_,run_underlying hu])) (hf.same h hk (.w (.one (.lit rfl))))
 ·rename_i e hu;have:=hv.dw;subst this;exact aW (hstep 0 (by simp[Builtin.len_,run_underlying hu])) (hf.same h hk (.w (.one (.lit rfl))))
 ·rename_i b hu;have:=hv.dw;subst this;exact aW (hstep b.size (by simp[Builtin.len_,run_underlying hu])) (hf.same h hk (.w (.one (.lit rfl))))
 ·exact hk.elim
end
theorem aIu(off:Nat):∀ (ys:List Value) (k:Nat) (cells:Array Value),off+k+ys.length<=cells.size ->
  (ys.zipIdx k).foldl (fun cs p=>cs.setIfInBounds (off+p.2) p.1) cells=(over cells.toList (off+k) ys).toArray
 |[],k,cells,h=>by simp[over]
 | y::ys,k,cells,h=>by
  rw[List.zipIdx_cons,List.foldl_cons,aIu off ys (k+1) _ (by simp at h ⊢;omega)];apply Array.ext';apply List.ext_getElem?;intro i;simp only[List.length_cons] at h;have hsz:cells.toList.length=cells.size:=Array.length_toList
  have hsz2:off+(k+1)+ys.length<=(cells.setIfInBounds (off+k) y).toList.length:=by
   have:(cells.setIfInBounds (off+k) y).toList.length=cells.size:=by simp
   omega
  have e1:=fU (xs:=(cells.setIfInBounds (off+k) y).toList) (ys:=ys) (off:=off+(k+1)) hsz2 i;have e2:=fU (xs:=cells.toList) (ys:=y::ys) (off:=off+k) (by rw[hsz,List.length_cons];omega) i;rw[e1,e2,Array.toList_setIfInBounds,List.getElem?_set];simp only[List.length_cons]
  by_cases h1:off+(k+1)<=i/\i<off+(k+1)+ys.length
  ·rw[if_pos h1,if_pos (by omega),show i-(off+k)=(i-(off+(k+1)))+1 from by omega,List.getElem?_cons_succ]
  ·rw[if_neg h1]
   by_cases h2:off+k=i
   ·subst h2;rw[if_pos rfl,if_pos (by omega),if_pos (by omega),Nat.sub_self,List.getElem?_cons_zero]
   ·rw[if_neg h2,if_neg (by omega)]
theorem aFq(cells:Array Value)(v:Value)(off:Nat)(h:off+v.cells.size<=cells.size):v.cells.zipIdx.foldl (fun cs (c,j)=>cs.setIfInBounds (off+j) c) cells=(over cells.toList off v.cells.toList).toArray:=by
 have:=aIu off v.cells.toList 0 cells (by simpa using h);rw[<-Array.foldl_toList,Array.toList_zipIdx];exact this
def Zn(C:Ctx)(a:Act):List (Nat×PV)->List (Nat×Operand)->Prop
 |[],[]=>True
 |(i,v)::vs,(j,x)::l=>i=j/\RV C v (a.eval x)/\Zn C a vs l
 |_,_=>False
theorem RL.Zc{C:Ctx}{m:Nat}{bs:List UInt8}{xs:List Value}(h:RL C [.bs m bs] xs):bs.length=m/\xs=bs.map o9:=by
 cases h with
 |cons h1 h2=>cases h2;cases h1 with|bs hb=>exact⟨hb,by simp⟩
section
variable {P:Program} {A:kz} {s:St} {a:Act} {w:World} {env:Env} {o:Oper} {K:Act->World->Prop} {Q:Exit->Act->World->Prop} {F:Option Bool->PV->Wr->Prop}
theorem aBb(h:gm A s a w env):∀ {l:List (Nat×Operand)} {k:List (Nat×PV)->M},(aLz l k).ok none s F->∃ vs,Zn (aU A w env) a vs l/\(k vs).ok none s F
 |[],k,hk=>⟨[],trivial,hk⟩
 |(i,x)::l,k,hk=>by
  obtain⟨pv,h1,hk1⟩:=gG h hk;obtain⟨vs,h2,hk2⟩:=aBb h hk1
  exact⟨(i,pv)::vs,⟨rfl,h1,h2⟩,hk2⟩
def Og(C:Ctx)(a:Act):List PV->List Operand->Prop
 |[],[]=>True
 |v::vs,x::l=>RV C v (a.eval x)/\Og C a vs l
 |_,_=>False
theorem aDc(h:gm A s a w env):∀ {l:List Operand} {k:List PV->M},(bGh l k).ok none s F->∃ vs,Og (aU A w env) a vs l/\(k vs).ok none s F
 |[],k,hk=>⟨[],trivial,hk⟩
 |x::l,k,hk=>by
  obtain⟨pv,h1,hk1⟩:=gG h hk;obtain⟨vs,h2,hk2⟩:=aDc h hk1
  exact⟨pv::vs,⟨h1,h2⟩,hk2⟩
theorem aPv{C:Ctx}{places:List (Nat×Nat)}:∀ {vs:List (Nat×PV)} {l:List (Nat×Operand)} {FI l':List PC} {cells:Array Value},Zn C a vs l->RL C FI cells.toList->Zp places vs FI=some l' ->
  ∃ cells',Instr.fill (places[·]?) cells (l.map fun q=>(q.1,a.eval q.2))=some cells'/\RL C l' cells'.toList
 |[],[],FI,l',cells,_,hr,hf=>by
  simp[Zp] at hf;subst hf
  exact⟨cells,rfl,hr⟩
 |[],_::_,_,_,_,hp,_,_=>hp.elim
 |_::_,[],_,_,_,hp,_,_=>hp.elim
 | (i,v)::vs,(j,x)::l,FI,l',cells,hp,hr,hf=>by
  obtain⟨rfl,hv,hp⟩:=hp;unfold Zp at hf
  cases v<;>try (simp at hf;done)
  rename_i pw
  cases hpl:places[i]? with
  |none=>rw[hpl] at hf;simp at hf
  | some q=>
   obtain⟨off,n⟩:=q;rw[hpl] at hf;dsimp only at hf
   cases hb:Nat.beq n (widths pw.cells)<;>cases hs:splice FI off pw.cells<;>simp only[hb,hs] at hf<;>try (cases hf;done)
   rename_i m
   cases hv with
   |w hv=>
    have hc:=hv.cells';obtain⟨k1,k2⟩:=aDx hr hc hs
    have hn:(a.eval x).cells.size=n:=by rw[gy hb,<-hc.width,Array.length_toList]
    have k2':off+(a.eval x).cells.size<=cells.size:=by simpa using k2
    obtain⟨cells',h1,h2⟩:=aPv (cells:=(over cells.toList off (a.eval x).cells.toList).toArray) hp (by simpa using k1) hf
    refine⟨cells',?_,h2⟩
    rw[List.map_cons,Instr.fill];dsimp only;rw[hpl];dsimp only;rw[if_neg (by simp;omega),aFq cells _ off k2'];exact h1
theorem Ny(h:gm A s a w env){t:TypeId}{parts:Array (Nat×Operand)}(ho:o.op=.build t parts){vs:List (Nat×PV)}(hp:Zn (aU A w env) a vs parts.toList){l:List PC}(hz:Xm P t=some l)(hk:(bHm P t vs l).ok none s F)(hf:Fin A s a o K F):o.wp P a w K Q:=by
 obtain⟨i,z,hi,hzz,hr⟩:=aDg (C:=aU A w env) hz;unfold bHm at hk
 have hstep:∀ cells,P.built t (parts.map fun x=>(x.1,a.eval x.2)).toList=some cells->(execOp a.eval o).run P w=.ok (.value (.agg cells)) w:=fun cells hb=>by
  simp[execOp,ho,run_build w t _ cells hb]
 cases hu:P.underlying t with
 |none=>rw[hu] at hk;exact hk.elim
 | some d=>
  rw[hu] at hk
  cases d<;>try exact hk.elim
  ·rename_i n e;dsimp only at hk
   split at hk
   ·rename_i m bs hsz;obtain⟨ie,hie,FV⟩:=nN hsz;have hlen:=hr.Zc
    have bIR:z.cells.size=m:=by rw[<-Array.length_toList,hlen.2,List.length_map,hlen.1]
    have hcz:z.cells=(bs.map o9).toArray:=by apply Array.ext';simpa using hlen.2
    have hset:∀ (l:List UInt8) (i:Nat) (b:Int),l.length=m->i<m->0<=b->b<256->Instr.fill (fun i=>some (i*ie.size,ie.size)) (l.map o9).toArray [(i,.int .u8 b)]=some ((l.set i (UInt8.ofNat b.toNat)).map o9).toArray:=by
     intro l i b hl hi h0 h1
     have hu8:o9 (UInt8.ofNat b.toNat)=.int .u8 b:=by
      show Value.int .u8 (((UInt8.ofNat b.toNat).toNat:Nat):Int)=.int .u8 b;rw[UInt8.toNat_ofNat_of_lt' (show b.toNat<256 by omega)];congr 1;omega
     rw[FV,Instr.fill];dsimp only;rw[Nat.mul_one,if_neg (by simp[Value.cells];omega),Instr.fill,aFq _ _ _ (by simp[Value.cells];omega)];congr 2;have:=bDg l i (UInt8.ofNat b.toNat) [] (by omega);rw[List.append_nil,List.append_nil,Nat.zero_add,hu8] at this;exact this
    have EN:∀ ps cells,Instr.fill (fun i=>some (i*ie.size,ie.size)) (bs.map o9).toArray ps=some cells->P.built t ps=some cells:=by
     intro ps cells hps;unfold Program.built;simp only[hi,hu,hzz,hie,hcz];exact hps
    split at hk
    ·match hps:parts.toList,hp with
     |[],_=>
      refine aW (hstep (bs.map o9).toArray ?_) (hf.same h hk (.w (.agg (by simpa using RL.cons (R.bs hlen.1) RL.nil))));refine EN _ _ ?_;rw[Array.toList_map,hps];rfl
    ·rename_i i1 b1;obtain⟨⟨c1,c2,c3⟩,hF⟩:=hk
     match hps:parts.toList,hp with
     |[(j,x)],⟨hij,hv,_⟩=>
      subst hij;refine aW (hstep ((bs.set i1 (UInt8.ofNat b1.toNat)).map o9).toArray ?_) (hf.same h hF (.w (.agg (by simpa using RL.cons (R.bs (show (bs.set i1 (UInt8.ofNat b1.toNat)).length=m by rw[List.length_set];exact hlen.1)) RL.nil))));refine EN _ _ ?_;rw[Array.toList_map,hps,List.map_cons,List.map_nil,hv.dw]
      exact hset bs i1 b1 hlen.1 c1 c2 c3
     |(_::_::_),h=>exact h.2.2.elim
    ·rename_i i1 b1 i2 b2;obtain⟨⟨c1,d1,c2,c3,d2,d3⟩,hF⟩:=hk
     match hps:parts.toList,hp with
     | [(j,x),(j2,y)],⟨hij,hv,hij2,hv2,_⟩=>
      subst hij hij2;refine aW (hstep (((bs.set i1 (UInt8.ofNat b1.toNat)).set i2 (UInt8.ofNat b2.toNat)).map o9).toArray ?_) (hf.same h hF (.w (.agg (by simpa using RL.cons (R.bs (show ((bs.set i1 (UInt8.ofNat b1.toNat)).set i2 (UInt8.ofNat b2.toNat)).length=m by rw[List.length_set,List.length_set];exact hlen.1)) RL.nil))));refine EN _ _ ?_;rw[Array.toList_map,hps,List.map_cons,List.map_cons,List.map_nil,hv.dw,hv2.dw];have e1:=hset bs i1 b1 hlen.1 c1 c2 c3;have e2:=hset (bs.set i1 (UInt8.ofNat b1.toNat)) i2 b2 (by rw[List.length_set];exact hlen.1) d1 d2 d3;rw[Instr.fill] at e1 ⊢;dsimp only at e1 ⊢
      split at e1
      ·cases e1
      ·rename_i hno;rw[if_neg hno];rw[Instr.fill] at e1;have e3:=Option.some.inj e1;rw[e3]
       exact e2
     |[_],h=>exact h.2.2.elim
     |(_::_::_::_),h=>exact h.2.2.2.2.elim
    ·exact hk.elim
   ·exact hk.elim
  ·rename_i fs;dsimp only at hk
   cases hm:fs.toList.mapM (fun f=>(P.info? f.type).map fun i=>(f.offset,i.size)) with
   |none=>rw[hm] at hk;exact hk.elim
   | some places=>
    rw[hm] at hk;dsimp only at hk
    cases hfl:Zp places vs l with
    |none=>rw[hfl] at hk;exact hk.elim
    |some l'=>
     rw[hfl] at hk;obtain⟨cells',h1,h2⟩:=aPv hp hr hfl;refine aW (hstep cells' ?_) (hf.same h hk (.w (.agg h2)));unfold Program.built;simp only[hi,hu,hzz,hm];rw[<-h1];simp
end
section
variable {P:Program} {A:kz} {s:St} {a:Act} {w:World} {env:Env} {o:Oper} {K:Act->World->Prop} {Q:Exit->Act->World->Prop} {F:Option Bool->PV->Wr->Prop}
theorem aAg{t e n b:Nat}(h:yQ P t=some (e,n,b)):zn P t e n b:=by
 unfold yQ at h
 cases hu:P.underlying t with
 |none=>rw[hu] at h;cases h
 | some d=>
  rw[hu] at h
  cases d<;>try (cases h;done)
  rename_i e0;dsimp only at h
  cases hi:P.info? e0 with
  |none=>rw[hi] at h;cases h
  | some i=>
   rw[hi] at h;dsimp only at h
   cases hz:i.zero with
   |none=>rw[hz] at h;cases h
   |some z=>
    rw[hz] at h;dsimp only at h
    cases h1:Nat.beq z.cells.size i.size<;>cases h2:Nat.blt 0 i.size<;>cases h3:Nat.blt 0 i.bytes<;>simp only[h1,h2,h3] at h<;>try (cases h;done)
    cases h
    have h2':1<=i.size:=by simpa[Nat.blt] using h2
    have h3':1<=i.bytes:=by simpa[Nat.blt] using h3
    exact⟨hu,⟨i,z,hi,hz,rfl,rfl,gy h1⟩,h2',h3'⟩
theorem gm.Jg(h:gm A s a w env)(nm:Nat)(n len cap:Nat){t:TypeId}{fr:Nat×Nat}{f:Nat->List PC}{cs:Array Value}{xs:List Value}(hx:xs.length=len*n)(hc:len<=cap)(hm:cap<=maxLen)(hcs:cs.size=cap*n)(ht:cs.toList.take (len*n)=xs)
  (hr:∀ i,i<len->RL (aU A w env) (f i) ((xs.drop (i*n)).take n)) {w':World} (hE:Ext w w') (hw:w'.heap[w.heap.size]?=some (.cells cs t fr)) (hfr:cs.size<=fr.1) :
  ∃ env',gm A { s with o:=[(nm,none,fresh s nm,.arr FM n len f)]++s.o } a w' env'/\RV (aU A w' env') (dn (.ow nm (fresh s nm) n 0 len)) (.slice (some ⟨w.heap.size,0,none⟩) len cap):=by
 obtain⟨h1,h2⟩:=h.new (w':=w') nm none (.slice (some ⟨w.heap.size,0,none⟩) len cap) (.arr FM n len f) hE (fun b hb=>by cases hb;exact⟨lt_of_heap hw,Nat.le_refl _⟩)
  (fun hle _=>⟨xs,⟨hx,.inr ⟨_,cap,cs,t,fr,rfl,hw,.inr ⟨rfl,hfr⟩,hc,hm,hcs,ht⟩⟩,fun i hi=>(hr i hi).le hle⟩)
 refine⟨_,h1,.w (.one (.ow ⟨_,_,rfl⟩ ⟨_,_,iE _ _ _ _,Nat.le_refl _,fun _=>⟨_,_,_,rfl,by omega,?_⟩⟩))⟩
 simp[add_lit]
theorem gm.Ef(h:gm A s a w env)(nm:Nat)(e n len cap:Nat){f:Nat->List PC}{cs:Array Value}{xs:List Value}(hx:xs.length=len*n)(hc:len<=cap)(hm:cap<=maxLen)(hcs:cs.size=cap*n)(ht:cs.toList.take (len*n)=xs)
  (hr:∀ i,i<len->RL (aU A w env) (f i) ((xs.drop (i*n)).take n)) {w':World} (hE:Ext w w') (hw:w'.heap[w.heap.size]?=some (.cells cs e (0,0))) :
  ∃ env',gm A { s with o:=[(nm,none,fresh s nm,.arr e n len f)]++s.o } a w' env'/\RV (aU A w' env') (dn (.ow nm (fresh s nm) n 0 len)) (.slice (some ⟨w.heap.size,0,none⟩) len cap):=by
 obtain⟨h1,h2⟩:=h.new (w':=w') nm none (.slice (some ⟨w.heap.size,0,none⟩) len cap) (.arr e n len f) hE (fun b hb=>by cases hb;exact⟨lt_of_heap hw,Nat.le_refl _⟩)
  (fun hle _=>⟨xs,⟨hx,.inr ⟨_,cap,cs,e,(0,0),rfl,hw,.inl ⟨rfl,rfl⟩,hc,hm,hcs,ht⟩⟩,fun i hi=>(hr i hi).le hle⟩)
 refine⟨_,h1,.w (.one (.ow ⟨_,_,rfl⟩ ⟨_,_,iE _ _ _ _,Nat.le_refl _,fun _=>⟨_,_,_,rfl,by omega,?_⟩⟩))⟩
 simp[add_lit]
theorem aEq{C:Ctx}{n:Nat}:∀ {vs:List (Nat×PV)} {l:List (Nat×Operand)} {k:Nat} {FI:List (List PC)} {cells:Array Value},Zn C a vs l->Xl n k vs=some FI->(k+vs.length)*n<=cells.size ->
  ∃ xs:List Value,Instr.fill (fun i=>some (i*n,n)) cells (l.map fun q=>(q.1,a.eval q.2))=some (over cells.toList (k*n) xs).toArray/\xs.length=vs.length*n/\FI.length=vs.length/\∀ i,i<FI.length->RL C (FI.getD i []) ((xs.drop (i*n)).take n)
 |[],[],k,FI,cells,_,hf,_=>by
  simp[Xl] at hf;subst hf
  exact⟨[],by simp[Instr.fill,over],by simp,rfl,fun i hi=>by simp at hi⟩
 |[],_::_,_,_,_,hp,_,_=>hp.elim
 |_::_,[],_,_,_,hp,_,_=>hp.elim
 | (i,v)::vs,(j,x)::l,k,FI,cells,hp,hf,hsz=>by
  obtain⟨rfl,hv,hp⟩:=hp;unfold Xl at hf
  cases hb:Nat.beq i k<;>cases v<;>cases hr:Xl n (k+1) vs<;>simp only[hb,hr] at hf<;>try (cases hf;done)
  rename_i pw r
  cases hb2:Nat.beq (widths pw.cells) n<;>rw[hb2] at hf
  ·cases hf
  cases hf
  obtain rfl:=gy hb
  cases hv with
  | w hv=>
   have hc:=hv.cells'
   have hn:(a.eval x).cells.toList.length=n:=by rw[hc.width,gy hb2]
   have hn':(a.eval x).cells.size=n:=by rw[<-Array.length_toList];exact hn
   simp only[List.length_cons] at hsz;have hcl:cells.toList.length=cells.size:=Array.length_toList
   have e1:(i+(vs.length+1))*n=i*n+n+vs.length*n:=by rw[Nat.add_mul,Nat.add_mul,Nat.one_mul];omega
   have e2:(i+1)*n=i*n+n:=by rw[Nat.add_mul,Nat.one_mul]
   have e3:(i+1+vs.length)*n=i*n+n+vs.length*n:=by rw[Nat.add_mul,Nat.add_mul,Nat.one_mul]
   have hsz2:(over cells.toList (i*n) (a.eval x).cells.toList).length=cells.size:=by rw[mX (by rw[hn,hcl];omega),hcl]
   obtain⟨xs,h1,h2,h3,h4⟩:=aEq (cells:=(over cells.toList (i*n) (a.eval x).cells.toList).toArray) hp hr (by rw[List.size_toArray,hsz2];omega)
   refine⟨(a.eval x).cells.toList++xs,?_,by rw[List.length_append,hn,h2,List.length_cons,Nat.add_mul,Nat.one_mul,Nat.add_comm],by simp[h3],fun q hq=>?_⟩
   ·rw[List.map_cons,Instr.fill];dsimp only;rw[if_neg (by simp;omega),aFq cells _ (i*n) (by omega),h1];congr 2;simp only[] at hsz2 ⊢;apply List.ext_getElem?;intro q;rw[fU (by rw[hsz2,h2];omega),fU (by rw[hn,hcl];omega),fU (by rw[List.length_append,hn,h2,hcl];omega)];rw[List.length_append,hn,h2]
    by_cases c1:(i+1)*n<=q/\q<(i+1)*n+vs.length*n
    ·rw[if_pos c1,if_pos (by omega),List.getElem?_append_right (by omega),hn];congr 1;omega
    ·rw[if_neg c1]
     by_cases c2:i*n<=q/\q<i*n+n
     ·rw[if_pos c2,if_pos (by omega),List.getElem?_append_left (by omega)]
     ·rw[if_neg c2,if_neg (by omega)]
   ·cases q with
    |zero=>
     rw[Nat.zero_mul,List.drop_zero,List.take_append_of_le_length (by omega),List.take_of_length_le (by omega)]
     exact hc
    | succ q=>
     have:=h4 q (by simpa using hq)
     have e5:((a.eval x).cells.toList++xs).drop ((q+1)*n)=xs.drop (q*n):=by
      rw[show (q+1)*n=n+q*n from by rw[Nat.add_mul,Nat.one_mul];exact Nat.add_comm _ _,<-List.drop_drop,List.drop_left' hn]
     rw[List.getD_cons_succ,e5];exact this
theorem aMj(h:gm A s a w env){nm:Nat}{t len:Nat}{parts:Array (Nat×Operand)}(ho:o.op=.buildSlice t len parts){vs:List (Nat×PV)}(hp:Zn (aU A w env) a vs parts.toList)(hk:(yF P nm t len vs).ok none s F)(hf:Fin A s a o K F):o.wp P a w K Q:=by
 unfold yF at hk
 cases hsl:yQ P t with
 |none=>rw[hsl] at hk;exact hk.elim
 | some q=>
  obtain⟨e,n,by'⟩:=q;rw[hsl] at hk;dsimp only at hk
  cases hpm:Xl n 0 vs<;>cases hb:Nat.beq vs.length len<;>cases hb2:Nat.ble (len*n) 16777216<;>simp only[hpm,hb,hb2] at hk<;>try exact hk.elim
  rename_i FI;obtain⟨hu,⟨ie,z,hi,hz,hsz,hby,hzs⟩,hpos,hbp⟩:=aAg hsl
  obtain rfl:=gy hb
  have hlim:vs.length*n<=16777216:=Nat.le_of_ble_eq_true hb2;obtain⟨xs,h1,h2,h3,h4⟩:=aEq (a:=a) (k:=0) (cells:=(Array.range (vs.length*n)).map (z.cells[· % z.cells.size]!)) hp hpm (by simp);rw[Nat.zero_mul] at h1
  have hov:(over ((Array.range (vs.length*n)).map (z.cells[· % z.cells.size]!)).toList 0 xs)=xs:=by
   unfold over;rw[List.take_zero,List.nil_append,Nat.zero_add,List.drop_of_length_le (by simp[h2]),List.append_nil]
  rw[hov] at h1;have hml:vs.length<=16777216:=Nat.le_trans (Nat.le_mul_of_pos_right _ hpos) hlim;obtain⟨env',g1,g2⟩:=h.Ef nm e n vs.length vs.length (cs:=xs.toArray) (xs:=xs) h2 (Nat.le_refl _) (by unfold maxLen;omega) (by simpa using h2) (by rw[List.toList_toArray,<-h2,List.take_length]) (fun i hi=>h4 i (by rw[h3];exact hi)) (w':=w.alloc (.cells xs.toArray e)) ((Ext.refl w).alloc _) (heap_alloc_new w _);refine aW (v:=.slice (some ⟨w.heap.size,0,none⟩) vs.length vs.length) (w':=w.alloc (.cells xs.toArray e)) ?_ (hf _ _ _ _ _ hk g1 g2)
  by_cases h0:vs.length*n=0
  ·have hxs:xs=[]:=List.eq_nil_of_length_eq_zero (by rw[h2];exact h0)
   have bIV:(parts.map fun x=>(x.1,a.eval x.2)).toList=parts.toList.map fun x=>(x.1,a.eval x.2):=by simp
   have h1':Instr.fill (fun i=>some (i*n,n)) #[] (parts.toList.map fun x=>(x.1,a.eval x.2))=some #[]:=by
    rw[h0,hxs,show Array.range 0=#[] from rfl] at h1
    simpa using h1
   simp[execOp,ho,Instr.buildSlice,run_underlying hu,sizeOf,typeInfo,hi,hsz,h0,newRow,hxs,show Array.range 0=(#[]:Array Nat) from rfl,h1']
  ·have:=run_buildSlice (P:=P) w t e vs.length (parts.map fun x=>(x.1,a.eval x.2)) xs.toArray ie z hu hi hz (by rw[hsz];omega) (by rw[hsz];exact h0) (by rw[hsz];simpa using h1);simp[execOp,ho,this]
def Bnd(d:Int)(x:Option Value)(i:Int):Prop:=(x=none/\i=d)\/∃ k,x=some (.int k i)
theorem uN{len cap:Nat}{lo hi:Option Value}{l h:Int}(b1:Bnd 0 lo l)(b2:Bnd len hi h)(h0:0<=l)(h1:l<=h)(h2:h<=len)(hc:len<=cap)(isS:Bool)(w:World) :
  (Instr.sliceBounds isS len cap lo hi none).run P w=.ok (l.toNat,h.toNat,cap) w:=by
 rcases b1 with⟨rfl,rfl⟩|⟨k,rfl⟩<;>rcases b2 with⟨rfl,rfl⟩|⟨k',rfl⟩
 ·simp[Instr.sliceBounds]
 ·simp[Instr.sliceBounds,Instr.sliceBound,asIntOf,show 0<=h by omega,show h<=(cap:Int) by omega]
 ·simp[Instr.sliceBounds,Instr.sliceBound,asIntOf,h0,show l<=(len:Int) by omega]
 ·simp[Instr.sliceBounds,Instr.sliceBound,asIntOf,show 0<=h by omega,show h<=(cap:Int) by omega,h0,show l<=max h 0 by omega]
def TM(C:Ctx)(a:Act):Option Operand->Option PV->Prop
 |none,none=>True
 |some x,some v=>RV C v (a.eval x)
 |_,_=>False
theorem aWe(h:gm A s a w env){x:Option Operand}{k:Option PV->M}(hk:(MS x k).ok none s F):∃ pv,TM (aU A w env) a x pv/\(k pv).ok none s F:=by
 cases x with
 |none=>exact⟨none,trivial,hk⟩
 |some x=>
  obtain⟨pv,h1,h2⟩:=gG h hk
  exact⟨some pv,h1,h2⟩
theorem jL(vs:List Value){n l m i:Nat}(hi:i<m):((((vs.drop (l*n)).take (m*n)).drop (i*n)).take n)=(vs.drop ((l+i)*n)).take n:=by
 apply List.ext_getElem?;intro q;have h1:(i+1)*n<=m*n:=Nat.mul_le_mul_right n hi;rw[Nat.add_mul,Nat.one_mul] at h1;have h2:(l+i)*n=l*n+i*n:=Nat.add_mul _ _ _;rw[List.getElem?_take,List.getElem?_drop,List.getElem?_take,List.getElem?_drop,List.getElem?_take,List.getElem?_drop]
 by_cases hq:q<n
 ·rw[if_pos hq,if_pos hq,if_pos (by omega)];congr 1;omega
 ·rw[if_neg hq,if_neg hq]
theorem I_ (h:gm A s a w env) {t:TypeId} {x:Operand} {lo hi:Option Operand} (ho:o.op=.slice t x lo hi none) {p:PV} (hp:RV (aU A w env) p (a.eval x)) {lv hv:Option PV}
  (hl:TM (aU A w env) a lo lv) (hh:TM (aU A w env) a hi hv)
  (hk:(bBt P t p lv hv).ok none s F) (hf:Fin A s a o K F):o.wp P a w K Q:=by
 have RH:∀ {d:Int} {x:Option Operand} {xv:Option PV} {k:Int->M},TM (aU A w env) a x xv ->
   (Fe d xv k).ok none s F->∃ i,Bnd d (x.map a.eval) i/\(k i).ok none s F:=by
  intro d x xv k hx hk;unfold Fe at hk
  cases x<;>cases xv<;>try exact hx.elim
  ·exact⟨d,.inl ⟨rfl,rfl⟩,hk⟩
  ·rename_i x v;dsimp only at hk
   split at hk
   ·rename_i kk i WM;rw[wF WM] at hx;have:a.eval x=.int kk i:=RV.dw (show RV _ _ _ from hx)
    exact⟨i,.inr ⟨kk,by rw[Option.map_some,this]⟩,hk⟩
   ·exact hk.elim
 unfold bBt at hk
 cases hu:P.underlying t with
 |none=>rw[hu] at hk;exact hk.elim
 | some d=>
  rw[hu] at hk
  cases d<;>try exact hk.elim
  ·dsimp only at hk
   split at hk
   ·rename_i b;have hk1:=RH (x:=lo) hl hk;clear hk;obtain⟨l,hbl,hk⟩:=hk1;have hk1:=RH (x:=hi) hh hk;clear hk;obtain⟨hi',hbh,hk⟩:=hk1;obtain⟨⟨h0,h1,h2⟩,hF⟩:=hk;have hq:=hp.dw;have hrun:=uN (P:=P) (cap:=b.size) hbl hbh h0 h1 h2 (Nat.le_refl _) false w;refine aW (v:=.string (b.extract l.toNat hi'.toNat)) (w':=w) ?_ (hf.same h hF (.w (.one (.lit rfl))))
    have hnp:∀ m e',P.underlying t≠some (.array m e'):=by rw[hu];intro m e' hh;cases hh
    simp[execOp,ho,hq,Instr.sliceAt,run_underlying hu,Instr.slice,hrun]
   ·exact hk.elim
  ·rename_i e;dsimp only at hk
   split at hk
   ·rename_i n len f
    cases hsz:o_ P e with
    |none=>rw[hsz] at hk;exact hk.elim
    | some n'=>
     rw[hsz] at hk;dsimp only at hk
     cases hb:Nat.beq n n'<;>rw[hb] at hk
     ·exact hk.elim
     obtain rfl:=gy hb
     dsimp only at hk;have hk1:=RH (x:=lo) hl hk;clear hk;obtain⟨l,hbl,hk⟩:=hk1;have hk1:=RH (x:=hi) hh hk;clear hk;obtain⟨hi',hbh,hk⟩:=hk1;obtain⟨⟨h0,h1,h2⟩,hF⟩:=hk;generalize hq:a.eval x=q at hp
     cases hp.inv with
     | @sl _ _ _ _ _ vs hr hbb he=>
      obtain⟨g1,A1,c,rfl,g2,g3,g4⟩:=hr;obtain⟨ie,hie,FV⟩:=nN hsz;have hrun:=uN (P:=P) (cap:=c) hbl hbh h0 h1 h2 g2 true w;refine aW (v:=.slice (if c=l.toNat then A1 else A1.map (·.add (l.toNat*n))) (hi'.toNat-l.toNat) (c-l.toNat)) (w':=w) ?_ (hf.same h hF (.w (.one ?_)))
      ·have hnp:∀ m e',P.underlying t≠some (.array m e'):=by rw[hu];intro m e' hh;cases hh
       simp[execOp,ho,hq,Instr.sliceAt,run_underlying hu,Instr.slice,hrun,sizeOf,typeInfo,hie,FV]
      ·have hnum:(hi'-l).toNat=hi'.toNat-l.toNat:=by omega
       rw[hnum]
       have hle:hi'.toNat<=len:=by omega
       have hmul:(l.toNat+(hi'.toNat-l.toNat))*n<=len*n:=Nat.mul_le_mul_right n (by omega);rw[Nat.add_mul] at hmul;refine R.sl (vs:=(vs.drop (l.toNat*n)).take ((hi'.toNat-l.toNat)*n)) ⟨by simp;omega,_,_,rfl,by omega,by omega,fun hlt=>?_⟩ (fun g hg hlt=>?_) (fun i hi2=>?_)
       ·obtain⟨b,o1,rfl,hcell⟩:=g4 (by omega);rw[if_neg (by omega)]
        refine⟨b,o1+l.toNat*n,by simp[add_lit],fun j u hj=>?_⟩
        rw[List.getElem?_take] at hj
        split at hj
        ·rw[List.getElem?_drop] at hj;have:=hcell _ u hj;rwa [<-Nat.add_assoc] at this
        ·cases hj
       ·obtain⟨b,o1,rfl,hcell⟩:=g4 (by omega);rw[if_neg (by omega)] at hg;simp only[Option.map_some,add_lit,Value.ownBlock,Option.some.injEq] at hg;subst hg;exact hbb b rfl (by omega)
       ·rw[jL vs hi2];exact he _ (by omega)
   ·exact hk.elim
  ·rename_i n e;dsimp only at hk
   split at hk
   ·rename_i x1 ai off hsz;obtain⟨g,vr,ob,hfo,hk⟩:=hk;have hk2:=dU hk;clear hk;obtain⟨hg,hk⟩:=hk2;obtain⟨hd,hev,hob⟩:=jQ h hfo hg
    cases hb:Nat.beq ai vr<;>cases ob<;>simp only[hb] at hk<;>try exact hk.elim
    rename_i bt l
    obtain rfl:=gy hb
    cases hs:uo l off with
    |none=>rw[hs] at hk;exact hk.elim
    | some q=>
     obtain⟨m,bs⟩:=q;rw[hs] at hk;dsimp only at hk
     cases hb2:Nat.beq m n<;>cases hb3:Nat.ble n 65536<;>simp only[hb2,hb3] at hk<;>try exact hk.elim
     obtain rfl:=gy hb2
     obtain⟨ie,hie,FV⟩:=nN hsz;obtain⟨g1,rfl,hpv⟩:=hp.AQ hev
     cases lo<;>cases hi<;>try (first|exact hl.elim|exact hh.elim)
     obtain⟨g2,cs,e2,hB,hR⟩:=hob;cases e2;obtain⟨k1,k2,k3⟩:=oQ hR hs;have hF:F none (dn (.ob x1 ai off m)) []:=hk
     have hmx:m<=maxLen:=by
      have:=Nat.le_of_ble_eq_true hb3;unfold maxLen;omega
     refine aW (v:=.slice (some ⟨g1,off,none⟩) m m) (w':=w) ?_ (hf.same h hF (.w (.one (.ob ⟨_,_,rfl⟩ ⟨ai,_,hev,Nat.le_refl _,fun _=>⟨g1,m,rfl,Nat.le_refl _,hmx,rfl⟩⟩))))
     by_cases hm0:m=0
     ·subst hm0;simp[execOp,ho,hpv,Instr.sliceAt,run_underlying hu,Instr.sureAddr,Instr.sliceBounds,sizeOf,typeInfo,hie]
     ·simp[execOp,ho,hpv,Instr.sliceAt,run_underlying hu,Instr.sureAddr,Instr.sliceBounds,sizeOf,typeInfo,hie,Addr.add]
   ·exact hk.elim
end
end Pv
end Go.Proofs.YtndpjopifkbgiaaGreatDoor
