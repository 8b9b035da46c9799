/-
  Several texts in one file: each has its own heading below.
-/
import Derived.Test.YtndpjopifkbgiaaGreatDoorMfG
import Derived.Lib.AppendStr
import Derived.ChangeKeysEq
import Derived.Laws.MakeOwn
import Derived.Laws.Cover3
namespace Go.Proofs.YtndpjopifkbgiaaGreatDoor
open Go.RowKit
namespace Pv
theorem lM{w:World}{n len off m:Nat}{A0:Option Addr}{c0:Nat}{vs:List Value}(hn:off+m<=len)(h:Reads w n (.slice A0 len c0) len vs):Reads w n (.slice (A0.map (·.add (off*n))) m (c0-off)) m ((vs.drop (off*n)).take (m*n)):=by
 obtain⟨h1,A1,c1,e,h2,h3,h4⟩:=h;cases e;have hm:(off+m)*n<=len*n:=Nat.mul_le_mul_right n hn;rw[Nat.add_mul] at hm
 refine⟨by simp;omega,_,_,rfl,by omega,by omega,fun hp=>?_⟩
 obtain⟨b,o,rfl,hc⟩:=h4 (by omega)
 refine⟨b,o+off*n,by simp[add_lit],fun j u hj=>?_⟩
 rw[List.getElem?_take] at hj
 split at hj
 ·rw[List.getElem?_drop] at hj;have:=hc _ u hj;rwa [<-Nat.add_assoc] at this
 ·cases hj
theorem mQ(C:Ctx)(l:List UInt8)(i:Nat)(hi:i<l.length):RL C (o5 l i) (((l.map ng).drop (i*1)).take 1):=by
 have:((l.map ng).drop (i*1)).take 1=[ng (l.getD i 0)]:=by
  apply List.ext_getElem?;intro q;rw[List.getElem?_take,List.getElem?_drop,Nat.mul_one]
  cases q with
  |zero=>rw[if_pos (by omega),Nat.add_zero,oM l i hi];rfl
  |succ q=>rw[if_neg (by omega)];simp
 rw[this];exact .cons (.lit rfl) .nil
section
variable {P:Program} {A:jq} {s:St} {a:Act} {w:World} {env:Env} {o:Oper} {K:Act->World->Prop} {Q:Exit->Act->World->Prop} {F:Option Bool->PV->Wr->Prop}
theorem Qw(C:Ctx):C.cold.Le C:=⟨Nat.le_refl _,fun _ _ h=>⟨h,rfl⟩,fun _ _ _ h=>by cases h⟩
theorem qY{C:Ctx}{n m:Nat}{f:Nat->List PC}{news:List Value}(hl:news.length=m*n)(h:∀ i,i<m->RL C (f i) ((news.drop (i*n)).take n)):dI news:=by
 intro u hu;obtain⟨j,hj,rfl⟩:=List.mem_iff_getElem.1 hu
 have hn:0<n:=by
  rcases Nat.eq_zero_or_pos n with h0|h0
  ·rw[h0,Nat.mul_zero] at hl;omega
  ·exact h0
 have hi:j / n<m:=Nat.div_lt_of_lt_mul (by rw[Nat.mul_comm,<-hl];exact hj);refine (h (j / n) hi).ones _ ?_;have h1:j / n*n+j % n=j:=Nat.div_add_mod' j n;have h2:j % n<n:=Nat.mod_lt _ hn;refine List.mem_of_getElem? (i:=j % n) ?_;rw[List.getElem?_take,if_pos h2,List.getElem?_drop,h1,zH hj]
theorem src_ok(h:eu A s a w env){n:Nat}{v:PV}{val:Value}(hv:RV (aU A w env) v val){k:Nat->(Nat->List PC)->M}(hk:(Gn n v k).ok none s F) :
  ∃ m f news,Reads w n val m news/\(∀ i,i<m->RL (aU A w env) (f i) ((news.drop (i*n)).take n))/\(k m f).ok none s F:=by
 unfold Gn at hk
 split at hk
 ·rename_i n' len f
  cases hb:Nat.beq n n'<;>rw[hb] at hk
  ·exact hk.elim
  obtain rfl:=gm hb
  cases hv.inv with
  |sl hr hbb he=>exact⟨len,f,_,hr,fun i hi=>(he i hi).le (Qw _),hk⟩
 ·rename_i x ai n' off len;obtain⟨g,vr,ob,hfo,hk⟩:=hk;have hk2:=dM hk;clear hk;obtain⟨hg,hk⟩:=hk2;obtain⟨hd,hev,hob⟩:=jI h hfo hg
  cases hb:Nat.beq ai vr<;>cases hb2:Nat.beq n n'<;>cases ob<;>simp only[hb,hb2] at hk<;>try exact hk.elim
  rename_i e m tot f
  obtain rfl:=gm hb
  obtain rfl:=gm hb2
  cases hb3:Nat.beq n m<;>rw[hb3] at hk
  ·exact hk.elim
  obtain rfl:=gm hb3
  obtain⟨hle,hk⟩:=hk;have hle':off+len<=tot:=hle;obtain⟨A0,n0,c0,rfl,hle0,rfl⟩:=hv.x_ hev;obtain⟨vs,hown,hel⟩:=hob
  refine⟨len,_,(vs.drop (off*n)).take (len*n),?_,fun i hi=>?_,hk⟩
  ·have hm:(off+len)*n<=tot*n:=Nat.mul_le_mul_right n hle';rw[Nat.add_mul] at hm;have hvl:=hown.1;rcases hown.2 with⟨e0,rfl⟩|⟨g1,cap,cur,t',fr,e0,hgg,hfr,hnc,hcm,hcs,htake⟩
   ·cases e0
    have h0:len=0:=by omega
    subst h0
    have h1:off=0:=by omega
    subst h1
    exact⟨by simp,_,_,rfl,by omega,by omega,fun h=>by omega⟩
   ·have hrg:=aMe (g:=g1) (by rw[<-e0];exact hown);cases e0
    refine⟨by simp;omega,_,_,rfl,by omega,by omega,fun hn=>⟨g1,off*n,by simp[add_lit],fun j u hj=>?_⟩⟩
    have:=iU hrg (off*n) (len*n) j u hj;rwa [Nat.zero_add] at this
  ·rw[jG vs hi];exact hel _ (by omega)
 ·rename_i x ai off len;obtain⟨g,vr,ob,hfo,hk⟩:=hk;have hk2:=dM hk;clear hk;obtain⟨hg,hk⟩:=hk2;obtain⟨hd,hev,hob⟩:=jI h hfo hg
  cases hb:Nat.beq ai vr<;>cases hb2:Nat.beq n 1<;>cases ob<;>simp only[hb,hb2] at hk<;>try exact hk.elim
  rename_i bt l
  obtain rfl:=gm hb
  obtain rfl:=gm hb2
  cases hs:uj l off with
  |none=>rw[hs] at hk;exact hk.elim
  | some q=>
   obtain⟨m,bs⟩:=q;rw[hs] at hk;obtain⟨hlm,hk⟩:=hk;have bDG:len<=m:=hlm;obtain⟨g1,c,rfl,hc1,hc2,rfl⟩:=hv.JG hev;obtain⟨g2,cs,e2,hB,hR⟩:=hob;cases e2;obtain⟨k1,k2,k3⟩:=nP hR hs;have hrg:=iU hB.range off m;rw[Nat.zero_add,k2] at hrg
   refine⟨len,_,(bs.map ng).take len,⟨by simp;omega,_,c,rfl,hc1,hc2,fun hn=>⟨g1,off,rfl,fun j u hj=>?_⟩⟩,fun i hi=>?_,hk⟩
   ·rw[List.getElem?_take] at hj
    split at hj
    ·exact hrg j u hj
    ·cases hj
   ·have hcell:=oM bs i (by omega)
    have e1:(((bs.map ng).take len).drop (i*1)).take 1=[ng (bs.getD i 0)]:=by
     apply List.ext_getElem?;intro q;rw[List.getElem?_take,List.getElem?_drop,List.getElem?_take,Nat.mul_one]
     cases q with
     |zero=>rw[if_pos (by omega),if_pos (by omega),Nat.add_zero,hcell];rfl
     |succ q=>rw[if_neg (by omega)];simp
    rw[e1];exact .cons (.lit rfl) .nil
 ·have:=hv.dn;subst this
  exact⟨0,_,[],Reads.nil w n,fun i hi=>by omega,hk⟩
 ·exact hk.elim
theorem aHo{C:Ctx}{n tot k:Nat}{f f':Nat->List PC}{vs news:List Value}(hl:vs.length=tot*n)(h1:∀ i,i<tot->RL C (f i) ((vs.drop (i*n)).take n))(h2:∀ i,i<k->RL C (f' i) ((news.drop (i*n)).take n)) :
  ∀ i,i<tot+k->RL C (ou tot f f' i) (((vs++news).drop (i*n)).take n):=by
 intro i hi;unfold ou
 by_cases h:i<tot
 ·rw[if_pos h];have hm:(i+1)*n<=tot*n:=Nat.mul_le_mul_right n h;rw[Nat.add_mul,Nat.one_mul] at hm;rw[List.drop_append_of_le_length (by omega),List.take_append_of_le_length (by simp;omega)];exact h1 i h
 ·rw[if_neg h]
  have e1:i*n=tot*n+(i-tot)*n:=by rw[<-Nat.add_mul];congr 1;omega
  rw[e1,<-List.drop_drop,List.drop_left' hl];exact h2 _ (by omega)
theorem bEj(h:eu A s a w env){nm t:Nat}{x y:Operand}(ho:o.op=.call { callee:=.builtin .append,args:=#[x,y],argTypes:=#[t,t] }){p v:PV}(hp:RV (aU A w env) p (a.eval x))(hv:RV (aU A w env) v (a.eval y))(hk:(aRj P nm t p v).ok none s F)(hf:Fin A s a o K F):o.wp P a w K Q:=by
 unfold aRj at hk
 cases hsl:xM P t with
 |none=>rw[hsl] at hk;exact hk.elim
 | some q=>
  obtain⟨e,n,by'⟩:=q;rw[hsl] at hk;dsimp only at hk;have hT:=yX hsl
  split at hk
  ·rename_i x1 ai n' off len;obtain⟨g,vr,ob,hfo,hk⟩:=hk;have hk2:=dM hk;clear hk;obtain⟨hg,hk⟩:=hk2;obtain⟨hd,hev,hob⟩:=jI h hfo hg
   cases hb:Nat.beq ai vr<;>cases hb2:Nat.beq n n'<;>cases hb3:Nat.beq off 0<;>cases ob<;>simp only[hb,hb2,hb3] at hk<;>try exact hk.elim
   rename_i e' m tot f
   obtain rfl:=gm hb
   obtain rfl:=gm hb2
   obtain rfl:=gm hb3
   cases hb4:Nat.beq n m<;>cases hb5:(Nat.beq e e'&&Nat.blt e F6)<;>simp only[hb4,hb5] at hk<;>try exact hk.elim
   rw[Bool.and_eq_true] at hb5;obtain⟨hb5,hb6⟩:=hb5
   obtain rfl:=gm hb4
   obtain rfl:=gm hb5
   obtain⟨htot,hk⟩:=hk;have DZ:len=tot:=htot;have hk2:=src_ok h hv hk;clear hk;obtain⟨k,f',news,hrd,Df,hk⟩:=hk2;obtain⟨hbytes,hk⟩:=hk;have hF:=hk.2;obtain⟨A0,n0,c0,rfl,hle0,hxv⟩:=hp.x_ hev;obtain⟨vs,hown,hel⟩:=hob;have hown:=hown.plain hb6
   have hvx:a.eval x=.slice A0 n0 c0:=by
    rw[hxv];rcases hown.2 with⟨e0,_⟩|⟨g1,cap,cur,e0,_⟩
    ·cases e0
     have:len=0:=by omega
     subst this;rfl
    ·cases e0;simp[add_lit,DZ]
   refine aRr ho hT hvx hown rfl hrd (qY hrd.1 Df) hbytes (Nat.zero_le _) (fun A' c' w' h2 h3 h4=>?_);have hlt:∀ b,(Value.slice A0 n0 c0).ownBlock=some b->b<w.heap.size:=fun b hb=>(hown.lt b hb).2
   obtain⟨hg1,hle⟩:=h.upd x1 none (ai+1) (.slice A' (tot+k) c') (.arr e n (tot+k) (ou tot f f')) (h3.mono fun b _ hb=>⟨ai,_,hev,by cases A0<;>exact hb⟩) (fun v hd' e0=>by rw[hev] at e0;cases e0;exact .inl (Nat.lt_succ_self _))
    (
     fun b hb=>by
     have hb':(Value.slice A' (tot+k) c').ownBlock=some b:=by cases A'<;>exact hb
     refine⟨(h2.lt b hb').2,?_⟩
     rcases h4 with h4|⟨g1,h4,h5,_⟩
     ·refine .inr ⟨ai,_,hev,?_⟩;rw[hb'] at h4
      cases A0<;>exact h4.symm
     ·rw[hb'] at h4;cases h4;exact .inl h5)
    (fun hle _=>⟨vs++news,wM (B:=0) ⟨by simp[hown.1,hrd.1,Nat.add_mul],h2.2⟩,aHo hown.1 (fun i hi=>(hel i hi).le hle) (fun i hi=>(Df i hi).le hle)⟩)
   refine hf _ _ _ _ _ hF hg1 (.w (.one (.ow ⟨_,_,rfl⟩ ⟨_,_,gU _ _ _ _,Nat.le_refl _,fun _=>⟨_,_,_,rfl,by omega,?_⟩⟩)))
   cases A' with
   |none=>simp
   |some ad=>simp[Addr.add]
  ·have hxv:=hp.dn;have hk2:=src_ok h hv hk;clear hk;obtain⟨k,f',news,hrd,Df,hk⟩:=hk2;obtain⟨hbytes,hF⟩:=hk;have hown:w.ownsRow 0 e n (.slice none 0 0) 0 []:=⟨by simp,.inl ⟨rfl,rfl⟩⟩;refine aRr ho hT hxv hown rfl hrd (qY hrd.1 Df) (by simpa[hP] using hbytes) (Nat.zero_le _) (fun A' c' w' h2 h3 h4=>?_);have hE:Ext w w':=h3.mono (fun b _ hb=>by simp[Value.ownBlock] at hb);simp only[Nat.zero_add,List.nil_append] at h2 h4 ⊢
   obtain⟨hg1,hle⟩:=h.new (w':=w') nm none (.slice A' k c') (.arr e n k f') hE
    (
     fun b hb=>by
     have hb':(Value.slice A' k c').ownBlock=some b:=by cases A'<;>exact hb
     refine⟨(h2.lt b hb').2,?_⟩
     rcases h4 with h4|⟨g1,h4,h5,_⟩
     ·rw[hb'] at h4;cases h4
     ·rw[hb'] at h4;cases h4;exact h5)
    (fun hle _=>⟨news,wM h2,fun i hi=>(Df i hi).le hle⟩)
   refine hf _ _ _ _ _ hF hg1 (.w (.one (.ow ⟨_,_,rfl⟩ ⟨_,_,gU _ _ _ _,Nat.le_refl _,fun _=>⟨_,_,_,rfl,by omega,?_⟩⟩)))
   cases A' with
   |none=>simp
   |some ad=>simp[Addr.add]
  ·exact hk.elim
theorem GR{e:TypeId}(h:YK P e=true):∃ i,P.info? e=some i/\i.zero=some (.int .u8 0):=by
 unfold YK at h
 split at h
 ·rename_i i hi
  split at h
  ·rename_i hz;exact⟨i,hi,hz⟩
  ·cases h
 ·cases h
theorem aAl(b:ByteArray):Lib.strCells b=b.data.toList.map ng:=by
 unfold Lib.strCells;rfl
theorem IE{t u ty e:TypeId}(T:yu P t e 1 1)(hz:YK P e=true)(hu:P.underlying u=some .string){v:Value}{n:Nat}{xs:List Value}{w:World}(hown:w.ownsRow 0 e 1 v n xs)(s:ByteArray)(hb:n+s.size<=140737488355328) :
  ∃ v' w',(Builtin.append_ #[t,u] ty #[v,.string s]).run P w=.ok v' w'/\w'.ownsRow 0 e 1 v' (n+s.size) (xs++s.data.toList.map ng)/\di (fun k=>v.ownBlock=some k) w w'/\(v'.ownBlock=v.ownBlock\/∃ g,v'.ownBlock=some g/\w.heap.size<=g/\g<w'.heap.size):=by
 obtain⟨ht,⟨i,z,hi,_,hsize,hby,_⟩,_,_⟩:=T;obtain⟨i2,hi2,hz2⟩:=GR hz;rw[hi] at hi2;cases hi2;obtain⟨v',w',hr,h2,h3,_⟩:=Lib.run_append_own_string (P:=P) w 0 t u ty e i ht hu hi hz2 hsize hby v n xs hown s (by unfold maxLen;omega) hb (Nat.zero_le _);rw[aAl] at h2
 refine⟨v',w',hr,h2,⟨h3.os,h3.tape,h3.output,h3.size,fun k hk hn=>h3.block k hk (fun e=>hn e.symm)⟩,?_⟩
 have hxl:xs.length=n:=by simpa using hown.1
 rcases hown.2 with⟨rfl,rfl⟩|⟨g,cap,cur,rfl,_,hg,hnc,hcm,hcs,htake⟩
 ·by_cases hm:s.size=0
  ·rcases h2.2 with⟨rfl,_⟩|⟨g,cap,cur,rfl,_,hg,_⟩
   ·exact .inl rfl
   ·have hf:=Lib.run_firstCells_string (P:=P) w 1 s;rw[hm] at hf
    have:(Builtin.append_ #[t,u] ty #[.slice none 0 0,.string s]).run P w=.ok (.slice none 0 0) w:=by
     simp[Builtin.append_,run_underlying ht,run_underlying hu,sizeOf,typeInfo,hi,hsize,Builtin.lenOf,hm,hf]
    rw[this] at hr;cases hr
  ·have:=run_append_nil_string (P:=P) w t u ty e i (.int .u8 0) ht hu hi hz2 s (by omega) (by omega) (by rw[hby];omega);rw[this] at hr;cases hr;exact .inr ⟨_,rfl,Nat.le_refl _,(h2.lt _ rfl).2⟩
 ·by_cases hroom:n+s.size<=cap
  ·have:=Lib.run_append_room_string (P:=P) w t u ty e i ht hu hi hsize g n cap cur hg s hroom (by omega);rw[this] at hr;cases hr;exact .inl rfl
  ·have holds:∀ j u,xs[j]?=some u->w.cell? ((⟨g,0,none⟩:Addr).add j)=some u:=hown.cells (g:=g) rfl;have:=Lib.run_append_grow_string (P:=P) w t u ty e i (.int .u8 0) ht hu hi hz2 ⟨g,0,none⟩ n cap xs (by rw[hsize];simpa using hxl) holds s (by omega) (by omega) (by rw[hby];exact growslice_fits (by omega) (by omega));rw[this] at hr;cases hr;exact .inr ⟨_,rfl,Nat.le_refl _,(h2.lt _ rfl).2⟩
theorem bDw{C:Ctx}(l:List UInt8):∀ i,i<l.length->RL C (o5 l i) (((l.map ng).drop (i*1)).take 1):=fun i hi=>by
 have e1:((l.map ng).drop (i*1)).take 1=[ng (l.getD i 0)]:=by
  apply List.ext_getElem?;intro q;rw[List.getElem?_take,List.getElem?_drop,Nat.mul_one]
  cases q with
  |zero=>rw[if_pos (by omega),Nat.add_zero,oM l i hi];rfl
  |succ q=>rw[if_neg (by omega)];simp
 rw[e1];exact .cons (.lit rfl) .nil
theorem aBz(n:Nat):(Du n).size=n:=by unfold Du ByteArray.size;simp
theorem aUg(n:Nat):(Builtin.zeroCells (Value.int .u8 0).cells n)=Array.replicate n (Value.int .u8 0):=by
 show Builtin.zeroCells #[Value.int .u8 0] n=_;unfold Builtin.zeroCells;apply Array.ext
 ·simp
 ·intro i h1 h2;simp[Nat.mod_one]
theorem aFh(n:Nat)(w:World):(Builtin.firstCells 1 n (.string (Du n))).run P w=.ok (List.replicate n (Value.int .u8 0)).toArray w:=by
 have h:=Lib.run_firstCells_string (P:=P) w 1 (Du n);rw[aBz] at h;rw[h];congr 1;rw[aAl];unfold Du;simp[ng]
theorem aCo(w:World){t u tn ty e:TypeId}{i:TypeInfo}{kn:IntKind}(ht:P.underlying t=some (.slice e))(hu:P.underlying u=some .string)(htn:P.underlying tn=some (.int kn))(hi:P.info? e=some i)(hz:i.zero=some (.int .u8 0))(hsize:i.size=1)(hby:i.bytes=1)
  (b:Option Addr) (l c n:Nat) (hn:l+n<=140737488355328) :
  (Builtin.append_ #[t,tn] ty #[.slice b l c,.int .i64 (n:Int)]).run P w=(Builtin.append_ #[t,u] ty #[.slice b l c,.string (Du n)]).run P w:=by
 have hw0:IntKind.i64.wrap 0=0:=by decide
 have hw:IntKind.i64.wrap (n:Int)=n:=by rw[IntKind.wrap_i64];omega
 have hneg:¬((n:Int)<0):=by omega
 have hb:¬(281474976710656<(n:Int)):=by omega
 have hf:=aFh (P:=P) n;have hzc:=aUg n;have hsz:=aBz n
 have hcap:¬(l+n<=c)->¬(281474976710656<Builtin.nextslicecap (l+n) c):=fun h=>by
  have:=growslice_fits (need:=l+n) (old:=c) (bytes:=1) (by omega) (by omega);omega
 have h63:¬(9223372036854775807<(l:Int)+(n:Int)):=by omega
 by_cases hc:l+n<=c
 ·by_cases h0:n=0
  ·subst h0
   have hc':l<=c:=by omega
   simp[hc',Builtin.append_,run_underlying ht,run_underlying htn,run_underlying hu,sizeOf,typeInfo,zeroValue,hi,hz,hsize,hby,asInt,asIntOf,hw0,Builtin.lenOf,hsz,hf]
  ·simp[Builtin.append_,run_underlying ht,run_underlying htn,run_underlying hu,sizeOf,typeInfo,zeroValue,hi,hz,hsize,hby,asInt,asIntOf,hw,hneg,hb,Builtin.lenOf,hsz,hf,hzc,hc,h0]
 ·have hcap:=hcap hc
  by_cases h0:n=0
  ·subst h0
   have hc':¬(l<=c):=by omega
   have hcap':¬(281474976710656<Builtin.nextslicecap l c):=hcap
   have h63':¬(9223372036854775807<(l:Int)):=by omega
   simp[hc',hcap',h63',Builtin.append_,run_underlying ht,run_underlying htn,run_underlying hu,sizeOf,typeInfo,zeroValue,hi,hz,hsize,hby,asInt,asIntOf,hw0,Builtin.lenOf,hsz,hf]
  ·simp[Builtin.append_,run_underlying ht,run_underlying htn,run_underlying hu,sizeOf,typeInfo,zeroValue,hi,hz,hsize,hby,asInt,asIntOf,hw,hneg,hb,Builtin.lenOf,hsz,hf,hzc,hc,h0,hcap,h63]
theorem aUb(h:eu A s a w env){t u u':Nat}{x y:Operand}(ho:o.op=.call { callee:=.builtin .append,args:=#[x,y],argTypes:=#[t,u'] }){e:TypeId}(hT:yu P t e 1 1)(hu:P.underlying u=some .string){p:PV}{b:ByteArray}(hp:RV (aU A w env) p (a.eval x))
  (heq:YK P e=true->∀ A0 l c,l+b.size<=140737488355328->(Builtin.append_ #[t,u'] o.type #[.slice A0 l c,a.eval y]).run P w=(Builtin.append_ #[t,u] o.type #[.slice A0 l c,.string b]).run P w)
  (hk:(aUc P e p b).ok none s F) (hf:Fin A s a o K F):o.wp P a w K Q:=by
 unfold aUc at hk
 split at hk
 ·rename_i x1 ai n' off len;obtain⟨g,vr,ob,hfo,hk⟩:=hk;have hk2:=dM hk;clear hk;obtain⟨hg,hk⟩:=hk2;obtain⟨hd,hev,hob⟩:=jI h hfo hg
  cases hb:Nat.beq ai vr<;>cases hb2:Nat.beq 1 n'<;>cases hb3:Nat.beq off 0<;>cases ob<;>simp only[hb,hb2,hb3] at hk<;>try exact hk.elim
  rename_i e' m tot f
  obtain rfl:=gm hb
  obtain rfl:=gm hb2
  obtain rfl:=gm hb3
  cases hb4:Nat.beq 1 m<;>cases hb5:(Nat.beq e e'&&Nat.blt e F6)<;>cases hb7:YK P e<;>simp only[hb4,hb5,hb7] at hk<;>try exact hk.elim
  rw[Bool.and_eq_true] at hb5;obtain⟨hb5,hb6⟩:=hb5
  obtain rfl:=gm hb4
  obtain rfl:=gm hb5
  obtain⟨⟨DZ,hbytes⟩,hk⟩:=hk;have hF:=hk.2;obtain⟨A0,n0,c0,rfl,hle0,hxv⟩:=hp.x_ hev;obtain⟨vs,hown,hel⟩:=hob;have hown:=hown.plain hb6
  have hvx:a.eval x=.slice A0 n0 c0:=by
   rw[hxv];rcases hown.2 with⟨e0,_⟩|⟨g1,cap,cur,e0,_⟩
   ·cases e0
    have:len=0:=by omega
    subst this;rfl
   ·cases e0;simp[add_lit,DZ]
  have hn0:n0=tot:=by
   rcases hown.2 with⟨e0,e1⟩|⟨g1,cap,cur,e0,_⟩
   ·cases e0;have:=hown.1;rw[e1] at this;simp at this;omega
   ·cases e0;rfl
  obtain⟨v',w',hrun,h2,h3,h4⟩:=IE (w:=w) (ty:=o.type) hT hb7 hu hown b hbytes
  have hrun2:(execOp a.eval o).run P w=.ok (.value v') w':=by
   unfold execOp;simp only[ho,resolve,invoke,builtin,Sem.run_bind,Sem.run_pure,Result.andThen_ok,List.map_toArray,List.map_cons,List.map_nil,hvx];rw[heq hb7 A0 n0 c0 (by omega),hrun];rfl
  obtain⟨A',c',rfl⟩:=mM h2;have hlt:∀ b,(Value.slice A0 n0 c0).ownBlock=some b->b<w.heap.size:=fun b hb=>(hown.lt b hb).2
  obtain⟨hg1,hle⟩:=h.upd x1 none (ai+1) (.slice A' (tot+b.size) c') (.arr e 1 (tot+b.size) (ou tot f (o5 b.data.toList))) (h3.mono fun b _ hb=>⟨ai,_,hev,by cases A0<;>exact hb⟩) (fun v hd' e0=>by rw[hev] at e0;cases e0;exact .inl (Nat.lt_succ_self _))
   (
    fun b1 hb=>by
    have hb':(Value.slice A' (tot+b.size) c').ownBlock=some b1:=by cases A'<;>exact hb
    refine⟨(h2.lt b1 hb').2,?_⟩
    rcases h4 with h4|⟨g1,h4,h5,_⟩
    ·refine .inr ⟨ai,_,hev,?_⟩;rw[hb'] at h4
     cases A0<;>exact h4.symm
    ·rw[hb'] at h4;cases h4;exact .inl h5)
   (fun hle _=>⟨vs++b.data.toList.map ng,wM (B:=0) ⟨by rw[List.length_append,List.length_map,hown.1,Array.length_toList,Nat.mul_one,Nat.mul_one];rfl,h2.2⟩,aHo hown.1 (fun i hi=>(hel i hi).le hle) (fun i hi=>bDw _ i (by rw[Array.length_toList];exact hi))⟩)
  refine aW hrun2 (hf _ _ _ _ _ hF hg1 (.w (.one (.ow ⟨_,_,rfl⟩ ⟨_,_,gU _ _ _ _,Nat.le_refl _,fun _=>⟨_,_,_,rfl,by omega,?_⟩⟩))))
  cases A' with
  |none=>simp
  |some ad=>simp[Addr.add]
 ·exact hk.elim
theorem bEk(h:eu A s a w env){nm t u:Nat}{x y:Operand}(ho:o.op=.call { callee:=.builtin .append,args:=#[x,y],argTypes:=#[t,u] }){p v:PV}(hp:RV (aU A w env) p (a.eval x))(hv:RV (aU A w env) v (a.eval y))(hk:(aRk P nm t u p v).ok none s F)(hf:Fin A s a o K F):o.wp P a w K Q:=by
 unfold aRk at hk
 split at hk
 ·rename_i e b hsl hu;have hy:=hv.dn;exact aUb h ho (yX hsl) hu hp (fun _ _ _ _ _=>by rw[hy]) hk hf
 ·rename_i e kn n hsl hu;have hy:=hv.dn
  split at hk
  ·rename_i hstr;obtain⟨h0,hk⟩:=hk;have hT:=yX hsl;refine aUb h ho hT hstr hp (fun hz A0 l c hl=>?_) hk hf;obtain⟨ht,⟨i,z,hi,_,hsize,hby,_⟩,_,_⟩:=hT;obtain⟨i2,hi2,hz2⟩:=GR hz;rw[hi] at hi2;cases hi2;have h0':0<=n:=h0;rw[aBz] at hl;have:=aCo (ty:=o.type) w ht hstr hu hi hz2 hsize hby A0 l c n.toNat hl;rw[Int.toNat_of_nonneg h0'] at this;rw[hy,this]
  ·exact hk.elim
 ·exact hk.elim
theorem aPn{x:Option Value}(h:(Et x).ok none s F):∃ v,x=some v/\v.oneCell'=true/\F none (ji v) []:=by
 cases x with
 |none=>exact h.elim
 |some v=>
  unfold Et at h
  cases hv:v.oneCell'<;>simp only[hv] at h
  ·exact h.elim
  ·exact⟨v,rfl,hv,h⟩
theorem zN{α:Type}{w:World}:∀ {m:Sem α} {v:α},zQ P m=some v->m.run P w=.ok v w:=by
 intro m
 induction m with
 |pure a=>intro v h;cases h;rfl
 |program k ih=>intro v h;exact ih P h
 |_=>intro v h;cases h
theorem OG(h:eu A s a w env){op:UnOp}{t:TypeId}{x:Operand}(ho:o.op=.unOp op t x){v:PV}(hv:RV (aU A w env) v (a.eval x)){u:Value}(hl:isLit v=some u)(hk:(Et (zQ P (Op.unary op u))).ok none s F)(hf:Fin A s a o K F):o.wp P a w K Q:=by
 obtain⟨r,h1,h2,hF⟩:=aPn hk;rw[uZ hl] at hv;refine aW (v:=r) (w':=w) ?_ (hf.same h hF (.w (.one (.lit h2))));have hx:a.eval x=u:=RV.dn (show RV _ _ _ from hv);simp[execOp,ho,hx,zN (w:=w) h1]
theorem aIs{C:Ctx}:∀ {vs:List PV} {l:List Operand} {cs:List PC},Nz C a vs l->Fj vs=some cs->RL C cs (l.map a.eval)
 |[],[],cs,_,h=>by simp[Fj] at h;subst h;exact .nil
 |[],_::_,_,h,_=>h.elim
 |_::_,[],_,h,_=>h.elim
 | v::vs,x::l,cs,⟨hv,hr⟩,h=>by
  unfold Fj at h
  cases h1:Ot v<;>cases h2:Fj vs<;>simp only[h1,h2] at h<;>try (cases h;done)
  cases h;rename_i c r
  have:v=dm c:=by
   unfold Ot at h1
   split at h1
   ·cases h1;rfl
   ·cases h1
  subst this;exact .cons (xs:=[a.eval x]) (RV.inv (show RV _ _ _ from hv)) (aIs hr h2)
theorem aQe(h:eu A s a w env){fn:Fn}{first cap:Array Operand}(ho:o.op=.makeFunc fn first cap){fs cs:List PV}{fp cp:List PC}(h1:Nz (aU A w env) a fs first.toList)(h2:Nz (aU A w env) a cs cap.toList)(h3:Fj fs=some fp)(h4:Fj cs=some cp)
  (hF:F none (dm (.fn fn fp cp)) []) (hf:Fin A s a o K F):o.wp P a w K Q:=by
 refine aW (v:=.func fn (first.map a.eval) (cap.map a.eval)) (w':=w) ?_ (hf.same h hF (.w (.one ?_)))
 ·simp[execOp,ho,Instr.makeFunc]
 ·have:=R.fn (f:=fn) (aIs h1 h3) (aIs h2 h4)
  have e1:(first.toList.map a.eval).toArray=first.map a.eval:=by apply Array.ext';simp
  have e2:(cap.toList.map a.eval).toArray=cap.map a.eval:=by apply Array.ext';simp
  rw[e1,e2] at this;exact this
theorem mP(h:eu A s a w env){v:PV}{val:Value}(hv:RV (aU A w env) v val){k:List UInt8->M}(hk:(Wi v k).ok none s F):∃ l,Reads w 1 val l.length (l.map ng)/\(k l).ok none s F:=by
 unfold Wi at hk
 split at hk
 ·rename_i n len f
  cases hb:Nat.beq n 1<;>rw[hb] at hk
  ·exact hk.elim
  obtain rfl:=gm hb
  obtain⟨hrow,hk⟩:=hk
  cases hv.inv with
  |sl hr hbb he=>
   refine⟨_,?_,hk⟩
   rw[<-aCp hr.1 he hrow,dZ];exact hr
 ·rename_i x ai n off len;obtain⟨g,vr,ob,hfo,hk⟩:=hk;have hk2:=dM hk;clear hk;obtain⟨hg,hk⟩:=hk2;obtain⟨hd,hev,hob⟩:=jI h hfo hg
  cases hb:Nat.beq ai vr<;>cases hb2:Nat.beq n 1<;>cases hb3:Nat.beq off 0<;>cases ob<;>simp only[hb,hb2,hb3] at hk<;>try exact hk.elim
  rename_i e m tot f
  obtain rfl:=gm hb
  obtain rfl:=gm hb2
  obtain rfl:=gm hb3
  cases hb4:Nat.beq 1 m<;>rw[hb4] at hk
  ·exact hk.elim
  obtain rfl:=gm hb4
  obtain⟨⟨hle,hrow⟩,hk⟩:=hk;obtain⟨A0,n0,c0,rfl,hle0,rfl⟩:=hv.x_ hev;obtain⟨vs,hown,hel⟩:=hob;have hrd:=Reads.ut hown
  have hn0:n0=tot:=by
   obtain⟨_,A1,c1,e1,_⟩:=hrd
   cases e1;rfl
  subst hn0;have hsl:=lM (off:=0) (m:=len) (by omega) hrd
  refine⟨_,?_,hk⟩
  have hcell:=aCp (C:=aU A w env) (len:=len) (f:=f) (vs:=(vs.drop (0*1)).take (len*1)) hsl.1 (fun i hi=>by rw[jG vs hi,Nat.zero_add];exact hel i (by omega)) hrow;rw[<-hcell,dZ];exact hsl
 ·rename_i x ai off len;obtain⟨g,vr,ob,hfo,hk⟩:=hk;have hk2:=dM hk;clear hk;obtain⟨hg,hk⟩:=hk2;obtain⟨hd,hev,hob⟩:=jI h hfo hg
  cases hb:Nat.beq ai vr<;>cases ob<;>simp only[hb] at hk<;>try exact hk.elim
  rename_i bt l
  obtain rfl:=gm hb
  cases hs:uj l off with
  |none=>rw[hs] at hk;exact hk.elim
  |some q=>
   obtain⟨m,bs⟩:=q;rw[hs] at hk;dsimp only at hk
   cases hb2:Nat.beq len m<;>rw[hb2] at hk
   ·exact hk.elim
   obtain rfl:=gm hb2
   obtain⟨g1,c,rfl,hc1,hc2,rfl⟩:=hv.JG hev;obtain⟨g2,cs,e2,hB,hR⟩:=hob;cases e2;obtain⟨k1,k2,k3⟩:=nP hR hs;have hrg:=iU hB.range off len;rw[Nat.zero_add,k2] at hrg
   refine⟨bs,⟨by simp,_,c,by rw[k1],by rw[k1];exact hc1,hc2,fun hn=>⟨g1,off,rfl,fun j u hj=>hrg j u hj⟩⟩,hk⟩
 ·have:=hv.dn;subst this
  exact⟨[],Reads.nil w 1,hk⟩
 ·exact hk.elim
end
end Pv
namespace Pv
section
variable {P:Program}
theorem aSe{C:Ctx}{t:TypeId}{n off:Nat}{m:List PC}{pw:PW}{cs:Array Value}(hsz:ny P t=some n)(hw:BH P t m=some pw)(hr:RL C m ((cs.toList.drop off).take n))(_:off+n<=cs.size)(w:World) :
  ∃ val,(part t cs off).run P w=.ok val w/\RW C pw val:=by
 obtain⟨i,hi,hin⟩:=mF hsz;rcases bAz hw hr with⟨hrow,h1⟩|⟨hrow,u,hxs,_,h1⟩
 ·obtain⟨d,hd1,hd2⟩:=aCq hrow
  have hag:(isAgg t).run P w=.ok true w:=by
   unfold isAgg;rw[Sem.run_bind,run_underlying hd1 w]
   cases d<;>simp_all
  have hex:cs.extract off (off+n)=((cs.toList.drop off).take n).toArray:=by
   apply Array.ext';simp[List.extract_eq_take_drop]
  exact⟨_,by simp[part,hag,sizeOf,typeInfo,hi,hin,hex],h1⟩
 ·have hcell:cs[off]?=some u:=by
   have:=congrArg (·[0]?) hxs;simp only[List.getElem?_take,List.getElem?_drop,Nat.add_zero,List.getElem?_cons_zero] at this
   split at this
   ·simpa using this
   ·cases this
  exact⟨u,by simp[part,xR hrow,hcell],h1⟩
theorem aLn{e:TypeId}(hu:P.underlying e=some (.int .u8))(d:Nat)(a b:List UInt8)(w:World):∀ is:List Nat,(∀ i∈is,i<a.length/\i<b.length) ->
  (Op.eqItems (d+1) e 1 (a.map ng).toArray (b.map ng).toArray is).run P w=.ok (is.all fun i=>a.getD i 0==b.getD i 0) w
 |[],_=>by simp[Op.eqItems]
 | i::is,h=>by
  obtain⟨h1,h2⟩:=h i (by simp)
  have hag:(isAgg e).run P w=.ok false w:=by
   unfold isAgg;rw[Sem.run_bind,run_underlying hu w];rfl
  have p1:(part e (a.map ng).toArray (i*1)).run P w=.ok (ng (a.getD i 0)) w:=by
   have:=oM a i h1;simp[part,hag,zH h1]
  have p2:(part e (b.map ng).toArray (i*1)).run P w=.ok (ng (b.getD i 0)) w:=by
   simp[part,hag,zH h2]
  have p3:(Op.equalIn (d+1) e (ng (a.getD i 0)) (ng (b.getD i 0))).run P w=.ok (a.getD i 0==b.getD i 0) w:=by
   have:=run_equalIn_int (P:=P) w d e .u8 .u8 ((a.getD i 0).toNat:Int) ((b.getD i 0).toNat:Int) hu;rw[show ng (a.getD i 0)=.int .u8 ((a.getD i 0).toNat:Int) from rfl,show ng (b.getD i 0)=.int .u8 ((b.getD i 0).toNat:Int) from rfl,this];congr 1;rw[Bool.eq_iff_iff,beq_iff_eq,beq_iff_eq]
   constructor
   ·intro h;exact UInt8.toNat_inj.1 (by omega)
   ·intro h;rw[h]
  rw[Op.eqItems,Sem.run_bind,p1,Result.andThen_ok,Sem.run_bind,p2,Result.andThen_ok,Sem.run_bind,p3,Result.andThen_ok,List.all_cons]
  cases hb:(a.getD i 0==b.getD i 0) with
  |false=>simp
  |true=>simpa using aLn hu d a b w is (fun j hj=>h j (List.mem_cons_of_mem _ hj))
theorem bEm(a b:List UInt8)(n:Nat)(ha:a.length=n)(hb:b.length=n):((List.range n).all fun i=>a.getD i 0==b.getD i 0)=(a==b):=by
 rw[Bool.eq_iff_iff];simp only[List.all_eq_true,List.mem_range,beq_iff_eq]
 constructor
 ·intro h;apply List.ext_getElem (by omega);intro i h1 h2;have:=h i (by omega)
  simpa[zG,zH h1,zH h2] using this
 ·rintro rfl i _;rfl
theorem Ll{C:Ctx}:∀ (d:Nat) {t:TypeId} {l m:List PC} {x y:Value} {px py:PW} {r:Bool},Yd P d t l m=some r->BH P t l=some px->BH P t m=some py->RW C px x->RW C py y->∀ (k:Nat) (w:World),(Op.equalIn (d+(k+1)) t x y).run P w=.ok r w
 |0,t,l,m,x,y,px,py,r,h,_,_,_,_,_,_=>by cases h
 | d + 1,t,l,m,x,y,px,py,r,h,hx,hy,rx,ry,k,w=>by
  have hlx:px.cells=l:=by
   unfold BH at hx
   split at hx
   ·cases hx
   ·cases hx;rfl
   ·split at hx
    ·split at hx
     ·cases hx;rfl
     ·cases hx
    ·cases hx
  have hly:py.cells=m:=by
   unfold BH at hy
   split at hy
   ·cases hy
   ·cases hy;rfl
   ·split at hy
    ·split at hy
     ·cases hy;rfl
     ·cases hy
    ·cases hy
  have one:∀ {c:PC} {v:Value} {q:PW},gV P t=some false->BH P t [c]=some q->RW C q v->R C c [v]:=by
   intro c v q hi hw hr;unfold BH at hw;rw[hi] at hw;dsimp only at hw
   split at hw
   ·cases hw;cases hr with|one h=>exact h
   ·cases hw
  rw[show d+1+(k+1)=(d+(k+1))+1 from by omega];unfold Yd at h
  cases hu:P.underlying t with
  |none=>rw[hu] at h;cases h
  | some dd=>
   rw[hu] at h
   cases dd<;>try (cases h;done)
   ·
    dsimp only at h
    split at h
    ·cases h
     have hi:gV P t=some false:=by unfold gV;rw[hu]
     have e1:=one hi hx rx;have e2:=one hi hy ry
     cases e1;cases e2
     exact run_equalIn_bool' w _ t _ _ hu
    ·cases h
   ·
    dsimp only at h
    split at h
    ·split at h
     ·rename_i hk;cases h;subst hk
      have hi:gV P t=some false:=by unfold gV;rw[hu]
      have e1:=one hi hx rx;have e2:=one hi hy ry
      cases e1;cases e2
      exact run_equalIn_int w _ t _ _ _ _ hu
     ·cases h
    ·cases h
   ·
    dsimp only at h
    split at h
    ·cases h
     have hi:gV P t=some false:=by unfold gV;rw[hu]
     have e1:=one hi hx rx;have e2:=one hi hy ry
     cases e1;cases e2
     exact run_equalIn_string w _ t _ _ hu
    ·cases h
   ·
    rename_i n e;dsimp only at h
    split at h
    ·rename_i n1 a n2 b hue hse
     cases h1:Nat.beq n n1<;>cases h2:Nat.beq n n2<;>simp only[h1,h2] at h<;>try (cases h;done)
     cases h
     obtain rfl:=gm h1
     obtain rfl:=gm h2
     have hi:gV P t=some true:=by unfold gV;rw[hu]
     unfold BH at hx hy;rw[hi] at hx hy
     cases hx;cases hy
     cases rx with
     | @agg _ xs hrx=>
      cases ry with
      |@agg _ ys hry=>
       obtain⟨g1,g2⟩:=hrx.Yg;obtain⟨g3,g4⟩:=hry.Yg
       have exs:xs=(a.map ng).toArray:=by apply Array.ext';simpa using g2
       have eys:ys=(b.map ng).toArray:=by apply Array.ext';simpa using g4
       obtain⟨ie,hie,FH⟩:=mF hse
       have hce:P.cellsOf e=1:=by unfold Program.cellsOf;rw[hie];simpa using FH
       rw[run_equalIn_array (P:=P) w (d+(k+1)) xs ys hu hie,hce,exs,eys,show d+(k+1)=(d+k)+1 from by omega,aLn hue (d+k) a b w _ (fun i hm=>by rw[List.mem_range] at hm;omega),bEm a b n g1 g3]
    ·cases h
   ·
    rename_i fs;dsimp only at h
    have hst:P.stoodInHeld t=false:=by
     cases hst:P.stoodInHeld t with
     |false=>rfl
     |true=>rw[hst] at h;cases h
    rw[hst] at h;dsimp only at h
    have hi:gV P t=some true:=by unfold gV;rw[hu]
    unfold BH at hx hy;rw[hi] at hx hy
    cases hx;cases hy
    cases rx with
    | @agg _ xs hrx=>
     cases ry with
     | @agg _ ys hry=>
      have hfo:P.fieldsOf t=fs:=by unfold Program.fieldsOf;rw[hu]
      rw[run_equalIn_struct w (d+(k+1)) t xs ys (by rw[hfo];exact hu) hst,hfo];clear hfo hu;generalize fs.toList=fl at h
      induction fl generalizing r with
      |nil=>cases h;rfl
      |cons f fl ih=>
       rw[List.foldr_cons] at h;generalize hacc:List.foldr _ _ fl=acc at h ih
       cases acc<;>cases hnm:(f.name != "_")<;>cases hsz:ny P f.type<;>simp only[hnm,hsz] at h<;>try (cases h;done)
       rename_i r0 n
       cases hs1:pF l f.offset n<;>cases hs2:pF m f.offset n<;>simp only[hs1,hs2] at h<;>try (cases h;done)
       rename_i x1 y1
       cases hm1:BH P f.type x1<;>cases hm2:BH P f.type y1<;>cases hq:Yd P d f.type x1 y1<;>simp only[hm1,hm2,hq] at h<;>try (cases h;done)
       rename_i p1 p2 q;cases h;obtain⟨k1,k2⟩:=hrx.sub hs1;obtain⟨k3,k4⟩:=hry.sub hs2;obtain⟨v1,e1,w1⟩:=aSe hsz hm1 k1 (by simpa using k2) w;obtain⟨v2,e2,w2⟩:=aSe hsz hm2 k3 (by simpa using k4) w;have e3:=Ll d hq hm1 hm2 w1 w2 k w;have e4:=ih r0 rfl
       have hne:f.name ≠ "_" := by simpa using hnm
       rw[Op.eqFields,if_pos hne,Sem.run_bind,e1,Result.andThen_ok,Sem.run_bind,e2,Result.andThen_ok,Sem.run_bind,e3,Result.andThen_ok]
       cases q with
       |false=>simp
       |true=>simpa using e4
end
end Pv
namespace Pv
section
variable {P:Program} {A:jq} {s:St} {a:Act} {w:World} {env:Env} {o:Oper} {K:Act->World->Prop} {Q:Exit->Act->World->Prop} {F:Option Bool->PV->Wr->Prop}
theorem bytesRow_at(b:ByteArray)(cap j:Nat)(hj:j<b.size):(bytesRow b cap)[j]?=some (ng (b.data.toList.getD j 0)):=by
 have hsz:b.data.size=b.size:=rfl;unfold bytesRow;rw[Array.getElem?_append_left (by simpa using by omega)];rw[Array.getElem?_map,Array.getElem?_eq_getElem (by omega),zG,zH (by simpa using by omega)];rfl
theorem aWu(h:eu A s a w env){own:Bool}{nm:Nat}{t t':TypeId}{x:Operand}(ho:o.op=.convert t t' x){v:PV}(hv:RV (aU A w env) v (a.eval x))(hk:(Mc P own nm t t' v).ok none s F)(hf:Fin A s a o K F):o.wp P a w K Q:=by
 unfold Mc at hk
 split at hk
 ·rename_i e hs hd
  split at hk
  ·rename_i b he;cases own
   case true=>
    obtain⟨hb,hF⟩:=hk;have hb':b.size<=9223372036854775807:=hb;have hx:a.eval x=.string b:=hv.dn;have hrun:=run_bytes_of_string (P:=P) w t t' e b hs hd he
    have hsz:b.data.toList.length=b.size:=by rw[Array.length_toList];rfl
    have hge:=grownCap_ge w b.size 0 e;have hE:Ext w (w.drew.alloc (.cells (bytesRow b (grownCap w b.size 0 e)) e ((bytesRow b (grownCap w b.size 0 e)).size,(bytesRow b (grownCap w b.size 0 e)).size+1))):=((Ext.refl w).drew.alloc _)
    have hrow:(bytesRow b (grownCap w b.size 0 e)).size=grownCap w b.size 0 e:=by
     have hds:b.data.size=b.size:=rfl;simp only[bytesRow,Array.size_append,Array.size_map,Array.size_replicate];omega
    obtain⟨env',g1,g2⟩:=h.JO nm 1 b.size (grownCap w b.size 0 e) (f:=o5 b.data.toList) (cs:=bytesRow b (grownCap w b.size 0 e)) (xs:=b.data.toList.map ng)
     (by rw[List.length_map,hsz,Nat.mul_one]) hge (grownCap_le_maxLen w b.size 0 e (by unfold maxLen;omega)) (by rw[hrow,Nat.mul_one])
     (
      by
      apply List.ext_getElem?;intro j;rw[List.getElem?_take,Nat.mul_one]
      by_cases hj:j<b.size
      ·rw[if_pos hj,Array.getElem?_toList,bytesRow_at b _ j hj,oM _ j (by omega)]
      ·rw[if_neg hj,List.getElem?_eq_none (by rw[List.length_map,hsz];omega)])
     (fun i hi=>mQ _ _ i (by omega)) hE (heap_alloc_new w.drew _) (Nat.le_refl _)
    exact aW (v:=.slice (some ⟨w.heap.size,0,none⟩) b.size (grownCap w b.size 0 e)) (by simp[execOp,ho,hx,hrun]) (hf _ _ _ _ _ hF g1 g2)
   obtain⟨hb,hF⟩:=hk;have hb':b.size<=9223372036854775807:=hb;have hx:a.eval x=.string b:=hv.dn;have hrun:=run_bytes_of_string (P:=P) w t t' e b hs hd he
   have hsz:b.data.toList.length=b.size:=by rw[Array.length_toList];rfl
   have hE:Ext w (w.drew.alloc (.cells (bytesRow b (grownCap w b.size 0 e)) e ((bytesRow b (grownCap w b.size 0 e)).size,(bytesRow b (grownCap w b.size 0 e)).size+1))):=((Ext.refl w).drew.alloc _);refine aW (v:=.slice (some ⟨w.heap.size,0,none⟩) b.size (grownCap w b.size 0 e)) (by simp[execOp,ho,hx,hrun]) (hf _ _ _ _ env hF (h.ext hE) (.w (.one (.sl (vs:=b.data.toList.map ng) ⟨by rw[List.length_map,hsz,Nat.mul_one],_,_,rfl,grownCap_ge w b.size 0 e,grownCap_le_maxLen w b.size 0 e (by unfold maxLen;omega),fun hn=>⟨w.heap.size,0,rfl,fun j u hj=>?_⟩⟩ (fun g hg _=>?_) (fun i hi=>mQ _ _ i (by omega))))))
   ·have hjl:j<b.size:=by
     have:=(List.getElem?_eq_some_iff.1 hj).1
     simpa[hsz] using this
    rw[Nat.zero_add];have hc:=cell_of_row (w.drew.alloc (.cells (bytesRow b (grownCap w b.size 0 e)) e ((bytesRow b (grownCap w b.size 0 e)).size,(bytesRow b (grownCap w b.size 0 e)).size+1))) w.heap.size j _ _ _ (heap_alloc_new w.drew _);refine hc.trans ?_;rw[bytesRow_at b _ j hjl,<-hj,oM _ j (by omega)]
   ·cases hg
    refine⟨⟨.inr h.g_.size,fun x ai hd he hbl=>?_⟩,by simp[aU]⟩
    exact absurd (h.live x ai hd _ he hbl).1 (Nat.lt_irrefl _)
  ·exact hk.elim
 ·rename_i e hs hd
  split at hk
  ·rename_i he;obtain⟨l,hr,hF⟩:=mP h hv hk;obtain⟨h1,A1,c,e1,h2,h3,h4⟩:=hr
   have hrun:(convert t t' (a.eval x)).run P w=.ok (.string ⟨l.toArray⟩) w:=by
    rw[e1]
    cases A1 with
    | none=>
     have hl0:l=[]:=by
      cases l with
      |nil=>rfl
      |cons b l=>
       obtain⟨b',o',e2,_⟩:=h4 (by simp);cases e2
     subst hl0;rw[run_convert_bytes_string w t t' e _ _ c hs he hd];simp[Conv.bytesToString]
     rfl
    |some ad=>
     refine run_convert_bytes_back w t t' e ad c l hs he hd (fun j hj=>?_);obtain⟨b',o',e2,hcell⟩:=h4 (by omega);cases e2;rw[add_lit];exact hcell j _ (by rw[List.getElem?_map,zH hj];rfl)
   exact aW (v:=.string ⟨l.toArray⟩) (by simp[execOp,ho,hrun]) (hf.same h hF (.w (.one (.lit rfl))))
  ·exact hk.elim
 ·split at hk
  ·rename_i u hl;obtain⟨r,h1,h2,hF⟩:=aPn hk;rw[uZ hl] at hv;refine aW (v:=r) (w':=w) ?_ (hf.same h hF (.w (.one (.lit h2))));have hx:a.eval x=u:=RV.dn (show RV _ _ _ from hv);simp[execOp,ho,hx,zN (w:=w) h1]
  ·exact hk.elim
theorem aMp(z:Array Value)(m i n:Nat)(hz:z.size=n)(h:(i+1)*n<=m):((madeCells z m).toList.drop (i*n)).take n=z.toList:=by
 rw[Nat.add_mul,Nat.one_mul] at h;apply List.ext_getElem?;intro q;rw[List.getElem?_take,List.getElem?_drop]
 by_cases hq:q<n
 ·rw[if_pos hq]
  have e1:(madeCells z m).toList[i*n+q]?=some z[(i*n+q) % z.size]!:=by
   unfold madeCells;rw[Array.getElem?_toList,Array.getElem?_map,Array.getElem?_range];simp;omega
  rw[e1,hz,Nat.mul_comm,Nat.mul_add_mod,Nat.mod_eq_of_lt hq,Array.getElem?_toList,Array.getElem?_eq_getElem (by omega),getElem!_pos z q (by omega)]
 ·rw[if_neg hq,List.getElem?_eq_none (by simp;omega)]
theorem Py(h:eu A s a w env){nm:Nat}{t:TypeId}{x y:Operand}(ho:o.op=.makeSlice t x y){lv cv:PV}(hl:RV (aU A w env) lv (a.eval x))(hc:RV (aU A w env) cv (a.eval y))(hk:(Ju P nm t lv cv).ok none s F)(hf:Fin A s a o K F):o.wp P a w K Q:=by
 unfold Ju at hk
 split at hk
 ·rename_i e n by' k1 l k2 c hsl hlx hly
  split at hk
  ·rename_i z0 hz0;obtain⟨⟨h0,h1,h2⟩,hF⟩:=hk;obtain⟨hu,⟨i,z,hi,hz,hsz,hby,hzs⟩,hpos,hbp⟩:=yX hsl;obtain⟨i',z',hi',aAI,hr⟩:=aBx (C:=aU A w env) hz0;rw[hi] at hi'
   cases hi'
   rw[hz] at aAI;cases aAI;rw[uZ hlx] at hl;rw[uZ hly] at hc;have hx:a.eval x=.int k1 l:=RV.dn (show RV _ _ _ from hl);have hy:a.eval y=.int k2 c:=RV.dn (show RV _ _ _ from hc)
   have hcb:c<=(by':Int)*c:=by
    have:(1:Int)*c<=(by':Int)*c:=Int.mul_le_mul_of_nonneg_right (by omega) (by omega);omega
   have hrun:=run_make (P:=P) w t e i z hu hi hz k1 k2 l c h0 h1 (by rw[hby];omega) (by omega);have hlc:(l.toNat)*n<=c.toNat*n:=Nat.mul_le_mul_right n (by omega)
   have hel:∀ j,j<l.toNat->RL (aU A w env) ((fun _=>z0) j) ((((madeCells z.cells (c.toNat*i.size)).toList.take (l.toNat*n)).drop (j*n)).take n):=by
    intro j hj;have hj1:(j+1)*n<=l.toNat*n:=Nat.mul_le_mul_right n hj
    have e1:(((madeCells z.cells (c.toNat*i.size)).toList.take (l.toNat*n)).drop (j*n)).take n=((madeCells z.cells (c.toNat*i.size)).toList.drop (j*n)).take n:=by
     rw[Nat.add_mul,Nat.one_mul] at hj1;rw[List.drop_take,List.take_take,Nat.min_eq_left (by omega)]
    rw[e1,aMp z.cells _ j n (by rw[hzs]) (by rw[hsz];omega)];exact hr
   obtain⟨env',g1,g2⟩:=h.EW nm e n l.toNat c.toNat (f:=fun _=>z0) (cs:=madeCells z.cells (c.toNat*i.size)) (xs:=(madeCells z.cells (c.toNat*i.size)).toList.take (l.toNat*n))
    (by rw[List.length_take,Array.length_toList,size_madeCells,hsz];omega) (by omega) (by unfold maxLen;omega) (by rw[size_madeCells,hsz]) rfl hel (w':=w.alloc (.cells (madeCells z.cells (c.toNat*i.size)) e)) ((Ext.refl w).alloc _) (heap_alloc_new w _)
   exact aW (v:=.slice (some ⟨w.heap.size,0,none⟩) l.toNat c.toNat) (by simp[execOp,ho,hx,hy,hrun]) (hf _ _ _ _ _ hF g1 g2)
  ·exact hk.elim
 ·exact hk.elim
theorem bDl{C:Ctx}{n tot k:Nat}{f f':Nat->List PC}{vs news:List Value}(hk:k<=tot)(hl:vs.length=tot*n)(hn:news.length=k*n)(h1:∀ i,i<tot->RL C (f i) ((vs.drop (i*n)).take n))(h2:∀ i,i<k->RL C (f' i) ((news.drop (i*n)).take n)) :
  ∀ i,i<tot->RL C (W9 k f f' i) (((over vs 0 news).drop (i*n)).take n):=by
 intro i hi;have hm:k*n<=tot*n:=Nat.mul_le_mul_right n hk;unfold W9
 by_cases h:i<k
 ·rw[if_pos h];have hm2:(i+1)*n<=k*n:=Nat.mul_le_mul_right n h;rw[Nat.add_mul,Nat.one_mul] at hm2
  have e1:((over vs 0 news).drop (i*n)).take n=(news.drop (i*n)).take n:=by
   unfold over;rw[List.take_zero,List.nil_append,List.drop_append_of_le_length (by omega),List.take_append_of_le_length (by simp;omega)]
  rw[e1];exact h2 i h
 ·rw[if_neg h,tJ (by omega) (.inl (by
   have:k*n<=i*n:=Nat.mul_le_mul_right n (by omega)
   omega))]
  exact h1 i hi
theorem Qv (h:eu A s a w env) {t:Nat} {x y:Operand} (ho:o.op=.call { callee:=.builtin .copy,args:=#[x,y],argTypes:=#[t,t] }) {p v:PV} (hp:RV (aU A w env) p (a.eval x)) (hv:RV (aU A w env) v (a.eval y)) (hk:(MZ P t p v).ok none s F) (hf:Fin A s a o K F):o.wp P a w K Q:=by
 unfold MZ at hk
 split at hk
 ·rename_i e n by' x1 ai n' off len hsl
  obtain⟨hu,⟨ie,z,hie,hz,hsz,hby,hzs⟩,hpos,hbp⟩:=yX hsl;obtain⟨g,vr,ob,hfo,hk⟩:=hk;have hk2:=dM hk;clear hk;obtain⟨hg,hk⟩:=hk2;obtain⟨hd,hev,hob⟩:=jI h hfo hg
  cases hb:Nat.beq ai vr<;>cases hb2:Nat.beq n n'<;>cases hb3:Nat.beq off 0<;>cases ob<;>simp only[hb,hb2,hb3] at hk<;>try exact hk.elim
  rename_i e' m tot f
  obtain rfl:=gm hb
  obtain rfl:=gm hb2
  obtain rfl:=gm hb3
  cases hb4:Nat.beq n m<;>cases hb5:(Nat.beq e e'&&Nat.blt e F6)<;>simp only[hb4,hb5] at hk<;>try exact hk.elim
  rw[Bool.and_eq_true] at hb5;obtain⟨hb5,hb6⟩:=hb5
  obtain rfl:=gm hb4
  obtain rfl:=gm hb5
  obtain⟨htot,hk⟩:=hk;have DZ:len=tot:=htot;have hk2:=src_ok h hv hk;clear hk;obtain⟨k,f',news,hrd,Df,hk⟩:=hk2;have hF:=hk.2;obtain⟨A0,n0,c0,rfl,hle0,hxv⟩:=hp.x_ hev;obtain⟨vs,hown,hel⟩:=hob;have hown:=hown.plain hb6;obtain⟨g1,A1,c1,e1,g2,g3,g4⟩:=hrd;have hkm:min k tot*n<=k*n:=Nat.mul_le_mul_right n (by omega);have hkt:min k tot*n<=tot*n:=Nat.mul_le_mul_right n (by omega);rcases hown.2 with⟨e0,ht0⟩|⟨g',cap,cur,e0,hbs,hgg,hnc,hcm,hcs,htake⟩
  ·
   cases e0
   have hl0:len=0:=by omega
   have ht:tot=0:=by omega
   subst hl0
   have VD:a.eval x=.slice none 0 0:=by rw[hxv];rfl
   have hrun:(Builtin.copy_ #[t,t] o.type #[a.eval x,a.eval y]).run P w=.ok (goInt 0) w:=by
    rw[VD,e1]
    cases A1 with
    |none=>simp[Builtin.copy_,run_underlying hu,Builtin.lenOf,Builtin.firstCells,sizeOf,typeInfo,hie]
    |some ad=>simp[Builtin.copy_,run_underlying hu,Builtin.lenOf,Builtin.firstCells,sizeOf,typeInfo,hie,loadCells,loadCellsFrom]
   have hm0:min k tot=0:=by omega
   obtain⟨hg1,hle⟩:=h.upd x1 none ai (.slice none 0 0) (.arr e n tot (W9 (min k tot) f f')) (di.refl _ _) (fun v hd' e0=>by rw[hev] at e0;cases e0;exact .inr ⟨rfl,rfl⟩) (fun b hb=>by cases hb) (fun hle _=>⟨vs,by rw[ht] at hown ⊢;exact wM hown,fun i hi=>by omega⟩);refine aW (v:=.int .i64 0) (w':=w) ?_ (hf _ _ _ _ _ hF hg1 (.w (.one ?_)))
   ·simp only[execOp,ho,resolve,invoke,builtin,Sem.run_bind,Sem.run_pure,Result.andThen_ok,List.map_toArray,List.map_cons,List.map_nil,hrun];rfl
   ·rw[hm0];exact .lit rfl
  ·cases e0
   have VD:a.eval x=.slice (some ⟨g',0,none⟩) tot c0:=by
    rw[hxv];simp[add_lit,DZ]
   have hnl:(news.take (min k tot*n)).length=min k tot*n:=by rw[List.length_take];omega
   have hB:au w g' e cur:=hgg;have hcap:tot*n<=c0*n:=Nat.mul_le_mul_right n hnc
   have hload:(Builtin.firstCells n (min k tot) (a.eval y)).run P w=.ok (news.take (min k tot*n)).toArray w:=by
    rw[e1]
    cases A1 with
    | none=>
     have hk0:k=0:=by
      rcases Nat.eq_zero_or_pos k with h0|h0
      ·exact h0
      ·obtain⟨b,o1,e2,_⟩:=g4 h0;cases e2
     subst hk0
     simp[Builtin.firstCells]
    | some ad=>
     have hcells:∀ j u,(news.take (min k tot*n))[j]?=some u->w.cell? (ad.add j)=some u:=by
      intro j u hj;rw[List.getElem?_take] at hj
      split at hj
      ·rename_i hlt
       obtain⟨b,o1,e2,hc⟩:=g4 (by
        rcases Nat.eq_zero_or_pos k with h0|h0
        ·subst h0;simp at hlt
        ·exact h0)
       cases e2;rw[add_lit];exact hc j u hj
      ·cases hj
     have:=run_loadCells_list (P:=P) w ad (news.take (min k tot*n)) hcells;rw[hnl] at this;exact this
   have KY:=qY g1 Df
   have VF:(storeCells ⟨g',0,none⟩ (news.take (min k tot*n))).run P w=.ok () (w.setCells g' 0 (news.take (min k tot*n))):=by
    have hth:=sG hB 0 (tot*n) (by omega);have:=run_storeCells_cells (P:=P) g' 0 (news.take (min k tot*n)) 0 w (fun j hj=>by have:=(hth (0+j) (by omega)).1;simpa using this) (fun j hj=>by simpa using hB.frozen _) (fun v hv=>KY v (List.mem_of_mem_take hv))
    simpa using this
   have hrun:(Builtin.copy_ #[t,t] o.type #[a.eval x,a.eval y]).run P w=.ok (goInt (min k tot:Nat)) (w.setCells g' 0 (news.take (min k tot*n))):=by
    have hlen:(Builtin.lenOf (a.eval y)).run P w=.ok k w:=by rw[e1];rfl
    rw[VD];simp only[Builtin.copy_];simp[run_underlying hu,hlen,sizeOf,typeInfo,hie,hsz,show Nat.min k tot=min k tot from rfl,hload,VF]
   have hc:=(fM g' (news.take (min k tot*n)) 0 w).1;have hsz2:=(fM g' (news.take (min k tot*n)) 0 w).2
   have hnew:(w.setCells g' 0 (news.take (min k tot*n))).ownsRow 0 e n (.slice (some ⟨g',0,none⟩) tot c0) tot (over vs 0 (news.take (min k tot*n))):=by
    refine⟨by rw[lT (by rw[hnl,hown.1];omega)];exact hown.1,.inr ⟨g',c0,(over cur.toList 0 (news.take (min k tot*n))).toArray,rfl,hbs,aTw hB _ _ (by omega),hnc,hcm,?_,?_⟩⟩
    ·rw[List.size_toArray,lT (by rw[hnl,Array.length_toList];omega),Array.length_toList,hcs]
    ·rw[<-htake];exact aGk (by omega) (by rw[Array.length_toList];omega)
   obtain⟨Ko,hle⟩:=h.upd x1 none ai (.slice (some ⟨g',0,none⟩) tot c0) (.arr e n tot (W9 (min k tot) f f')) (hc.mono fun b _ e=>⟨ai,_,hev,by rw[e];rfl⟩) (fun v hd e=>by rw[hev] at e;cases e;exact .inr ⟨rfl,rfl⟩) (fun b' hb'=>by cases hb';exact⟨by rw[hsz2];exact hB.lt,.inr ⟨ai,_,hev,rfl⟩⟩)
    (
     fun hle _=>⟨_,wM hnew,bDl (Nat.min_le_right _ _) hown.1 hnl (fun i hi=>(hel i hi).le hle) (fun i hi=>by
     have hi1:(i+1)*n<=min k tot*n:=Nat.mul_le_mul_right n hi;rw[Nat.add_mul,Nat.one_mul] at hi1;rw[List.drop_take,List.take_take,Nat.min_eq_left (show n<=min k tot*n-i*n by omega)]
     exact (Df i (by omega)).le hle)⟩)
   refine aW (v:=.int .i64 (min k tot:Nat)) (w':=w.setCells g' 0 (news.take (min k tot*n))) ?_ (hf _ _ _ _ _ hF Ko (.w (.one (.lit rfl))));simp only[execOp,ho,resolve,invoke,builtin,Sem.run_bind,Sem.run_pure,Result.andThen_ok,List.map_toArray,List.map_cons,List.map_nil,hrun];rfl
 ·exact hk.elim
end
end Pv
namespace Pv
def lm(C:Ctx):List PV->List Value->Prop
 |[],[]=>True
 |v::vs,x::l=>RV C v x/\lm C vs l
 |_,_=>False
theorem lm.append{C:Ctx}:∀ {vs:List PV} {l:List Value} {vs':List PV} {l':List Value},lm C vs l->lm C vs' l'->lm C (vs++vs') (l++l')
 |[],[],_,_,_,h=>h
 |[],_::_,_,_,h,_=>h.elim
 |_::_,[],_,_,h,_=>h.elim
 |_::_,_::_,_,_,⟨h1,h2⟩,h=>⟨h1,h2.append h⟩
theorem lm.E5{C:Ctx}:∀ {cs:List PC} {l:List Value},RL C cs l->(cs.all fun c=>Nat.beq c.width 1)=true->lm C (cs.map dm) l
 |[],l,h,_=>by cases h;exact trivial
 | c::cs,l,h,hw=>by
  rw[List.all_cons,Bool.and_eq_true] at hw
  cases h with
  |@cons _ _ _ xs ys h1 h2=>
   have hl:=h1.width;rw[gm hw.1] at hl
   match xs,hl,h1 with
   |[v],_,h1=>exact⟨.w (.one h1),lm.E5 h2 hw.2⟩
theorem Nz.vals{C:Ctx}{a:Act}:∀ {vs:List PV} {l:List Operand},Nz C a vs l->lm C vs (l.map a.eval)
 |[],[],_=>trivial
 |[],_::_,h=>h.elim
 |_::_,[],h=>h.elim
 |_::_,_::_,⟨h1,h2⟩=>⟨h1,h2.vals⟩
def D6(A:jq)(chain:List PanicEntry)(w:World):Prop:=∃ l,A.dh l/\A.dv.O l=none/\A.dv.uf l A.X0 w chain/\di A.S A.w0 w
def Bh(A:jq)(Q:Exit->Act->World->Prop):Prop:=∀ chain a w,a.defers=A.ds->D6 A chain w->Q (.panic chain) a w
def rG(e:Int):Acc:=⟨-1,e,0,aS⟩
def aEg(T:TypeId)(e:Int):List PanicEntry:=[{ v:=.iface T (.agg #[.int .i64 e]),recovered:=false }]
def Yi(T:TypeId)(O:List Acc->Option jc):Prop:=O []=some ⟨(T:Int)+1,aS⟩/\∀ l e,O (l++[rG e])=none
structure mg(P:Program)(D:Dv)(dh:List Acc->Prop):Prop where
 step:∀ l X w,D.inv l X w->∃ F caps,D.hd=.func (.func F) #[] caps/\(∀ args w,(callFunc F args).run P w=.ok (.enter F args) w) /\
  ∀ c:Acc,c.kind ≠ -1->(D.O (l++[c])=none->dh (l++[c]))->Calls P F (#[c.v]++caps) w fun e w'=>di D.S w w'/\((∃ r,D.O (l++[c])=some r/\e=.returned r.v/\D.inv (l++[c]) X w')\/(∃ chain,D.O (l++[c])=none/\e=.panicked chain/\D.uf (l++[c]) X w' chain))
 fail:∀ T,Yi T D.O->∀ l X w,D.inv l X w->D.O l≠none/\∀ e,D.uf (l++[rG e]) X w (aEg T e)
theorem mg.mono{P:Program}{D:Dv}{dh CU:List Acc->Prop}(h:mg P D dh)(hs:∀ l,CU l->D.O l=none->dh l):mg P D CU:=⟨fun l X w hi=>by
 obtain⟨F,caps,h1,h2,h3⟩:=h.step l X w hi
 exact⟨F,caps,h1,h2,fun c h0 hc=>h3 c h0 fun hO=>hs _ (hc hO) hO⟩,h.fail⟩
structure lu(P:Program)(I:World->Prop)(A:jq):Prop where
 mem:∀ w,di A.S A.w0 w->I w
 sub:∀ b,A.dv.S b->A.S b
 old:∀ b,A.S b->b<A.w0.heap.size/\¬A.ok0 b
 step:mg P A.dv A.dh
 dvh:∀ l X w,A.dv.inv l X w->A.ext dx=some A.dv.hd
 BX:∀ l X Y w w' chain,A.dv.uf l X w chain->di X w w'->(∀ b,Y b->X b)->A.dv.uf l Y w' chain
structure aj(P:Program)(I:World->Prop)(f:Nat)(sp:Spec):Prop where
 enters:∀ args w,(callFunc f args).run P w=.ok (.enter f args) w
 calls:∀ (A:jq) (s:St) (a:Act) (w:World) (env:Env) (nm:Nat) (ul:List PV) (vs:List Value) (F:Option Bool->PV->Wr->Prop),eu A s a w env->lu P I A->lm (aU A w env) ul vs->(sp nm ul).ok none s F ->
  Calls P f vs.toArray w fun e w'=>(∃ v wr val env',e=.returned val/\F none v wr/\eu A { s with o:=wr++s.o } a w' env'/\RV (aU A w' env') v val)\/(∃ chain,e=.panicked chain/\D6 A chain w')
def aFa(P:Program)(I:World->Prop)(G:Specs):Prop:=∀ f sp,G f=some sp->aj P I f sp
section
variable {P:Program} {I:World->Prop} {G:Specs} {A:jq} {s:St} {a:Act} {w:World} {env:Env} {o:Oper} {K:Act->World->Prop} {Q:Exit->Act->World->Prop} {F:Option Bool->PV->Wr->Prop}
theorem RV.Lr{C:Ctx}{v:Value}(h:RV C (.w (.one .dv)) v):At C dx 0 (fun hd=>v=hd):=by cases h.inv with|dv _ h=>exact h
theorem aZe{C:Ctx}:∀ {l:List Value},(l.all (·.oneCell'))=true->RL C (l.map PC.lit) l
 |[],_=>.nil
 |v::l,h=>by
  rw[List.all_cons,Bool.and_eq_true] at h;exact .cons (xs:=[v]) (.lit h.1) (aZe h.2)
theorem aMu{C:Ctx}:∀ {l:List PC} {vs xs:List Value},aMv l=some vs->RL C l xs->xs=vs
 |[],_,_,h,hr=>by cases h;cases hr;rfl
 | c::l,_,_,h,hr=>by
  cases c<;>simp only[aMv] at h<;>try (cases h;done)
  rename_i v
  cases hq:aMv l with
  |none=>rw[hq] at h;cases h
  |some r=>
   rw[hq] at h;cases h
   cases hr with
   |cons h1 h2=>cases h1;rw[aMu hq h2];rfl
theorem aMo(h:eu A s a w env){fn:Fn}{first cap:Array Operand}(ho:o.op=.makeFunc fn first cap){fs cs:List PV}{l:List Value}(h1:Nz (aU A w env) a fs first.toList)(h2:Nz (aU A w env) a cs cap.toList)(h3:bBl fs=some l)(h4:Fj cs=some [])
  (hF:F none (ji (.func fn #[.agg l.toArray] #[])) []) (hf:Fin A s a o K F):o.wp P a w K Q:=by
 have hc:cap=#[]:=by
  cases cs with
  |nil=>
   cases hl:cap.toList with
   |nil=>apply Array.ext';simpa using hl
   |cons y ys=>rw[hl] at h2;exact h2.elim
  |cons v l=>
   unfold Fj at h4
   cases h5:Ot v<;>cases h6:Fj l<;>simp only[h5,h6] at h4<;>cases h4
 unfold bBl at h3
 split at h3
 ·rename_i pl
  match hl:first.toList,h1 with
  | [y],h1=>
   obtain⟨hv,_⟩:=h1
   have e1:first=#[y]:=by apply Array.ext';simpa using hl
   generalize hq:a.eval y=q at hv
   cases hv with
   | w hv=>cases hv with
    | @agg _ c hv=>
     have e2:c=l.toArray:=by apply Array.ext';simpa using aMu h3 hv
     refine aW (v:=.func fn (first.map a.eval) (cap.map a.eval)) (w':=w) ?_ (hf.same h hF (.w (.one ?_)))
     ·simp[execOp,ho,Instr.makeFunc]
     ·rw[e1,hc];simp only[List.map_toArray,List.map_cons,List.map_nil,hq,e2];exact .lit rfl
 ·cases h3
theorem RD (hG:aFa P I G) (hI:lu P I A) (hQ:Bh A Q) (h:eu A s a w env) {nm:Nat} {f:Operand} {args:Array Operand} {Dx:Array TypeId} (ho:o.op=.call { callee:=.value f,args:=args,argTypes:=Dx }) {fv:PV} (hfv:RV (aU A w env) fv (a.eval f)) {xs:List PV} (hxs:Nz (aU A w env) a xs args.toList)
  (hk:(NC G nm fv xs).ok none s F) (hf:Fin A s a o K F):o.wp P a w K Q:=by
 have fin:∀ (g:Nat) (sp:Spec) (ul:List PV) (vs:List Value),G g=some sp->lm (aU A w env) ul vs->(sp nm ul).ok none s F->(execOp a.eval o).run P w=(callFunc g vs.toArray).run P w->o.wp P a w K Q:=by
  intro g sp ul vs hg hv hk hrun;have hs:=hG g sp hg;unfold Oper.wp;rw[hrun,hs.enters,Oper.upon_enter];refine (hs.calls A s a w env nm ul vs F h hI hv hk).mono ?_;rintro e w' (⟨v,wr,val,env',rfl,h1,h2,h3⟩|⟨chain,rfl,h1⟩)
  ·exact hf v wr val w' env' h1 h2 h3
  ·exact hQ chain a w' h.defers h1
 unfold NC at hk
 split at hk
 ·unfold doM at hk
  split at hk
  ·rename_i k b c x
   cases hk1:decide (k = -1)<;>rw[hk1] at hk
   rotate_left
   ·exact hk.elim
   unfold aCV at hk;obtain⟨g,vr,ob,hfo,hk⟩:=hk;have hk2:=dM hk;clear hk;obtain⟨hg,hk⟩:=hk2
   cases hb:Nat.beq vr 0<;>cases ob<;>simp only[hb] at hk<;>try exact hk.elim
   rename_i O dh l
   obtain rfl:=gm hb
   obtain⟨hst,_,hF⟩:=hk;obtain⟨hO,hstp,hinv⟩:=h.dev g 0 O dh l hfo hg;subst hO hstp;obtain⟨F0,caps,hhd,hent,hstep⟩:=hI.step.step l _ w hinv;obtain⟨hd,he,_⟩:=h.jf dx g 0 _ hfo;have hfe:a.eval f=hd:=hfv.Lr.now he;have aAW:=(h.jy dx _ (hI.dvh _ _ _ hinv)).2.now he;rw[hhd] at aAW;rw[aAW] at hfe
   have hargs:args.map a.eval=#[(⟨k,b,c,x⟩:Acc).v]:=by
    apply Array.ext';rw[Array.toList_map]
    match hl:args.toList,hxs with
    | [y], hxs=>
     obtain⟨hv,_⟩:=hxs;generalize hq:a.eval y=q at hv
     cases hv with
     | w hv=>cases hv with
      | @agg _ cs hv=>
       have hcs:cs.toList=[.int .i64 k,.int .i64 b,.int .i64 c,.string x]:=by
        generalize cs.toList=cl at hv
        cases hv with
        | cons h1 hv=>cases h1;cases hv with
         | cons h1 hv=>cases h1;cases hv with
          |cons h1 hv=>cases h1;cases hv with
           |cons h1 hv=>cases h1;cases hv;rfl
       have:cs=#[.int .i64 k,.int .i64 b,.int .i64 c,.string x]:=by apply Array.ext';simpa using hcs
       simp[hq,this,Acc.v]
   have hrun:(execOp a.eval o).run P w=(callFunc F0 (#[(⟨k,b,c,x⟩:Acc).v]++caps)).run P w:=by
    simp[execOp,ho,resolve,hfe,Deferred.ofValue,invoke,hargs]
   unfold Oper.wp;rw[hrun,hent,Oper.upon_enter];refine (hstep ⟨k,b,c,x⟩ (of_decide_eq_false hk1) hst).mono ?_;rintro e w' ⟨hc,⟨r,FK,rfl,hi⟩|⟨chain,FK,rfl,hp⟩⟩
   ·obtain⟨h1,hle⟩:=h.asked hfo hg hI.sub (fun b hb=>hI.old b (hI.sub b hb)) hc hi;have hF':F none (UG (A.dv.O (l++[(⟨k,b,c,x⟩:Acc)]))) [(dx,none,0,.dev A.dv.O A.dh (l++[(⟨k,b,c,x⟩:Acc)]))]:=hF;refine hf (UG (A.dv.O (l++[(⟨k,b,c,x⟩:Acc)]))) [(dx,none,0,.dev A.dv.O A.dh (l++[(⟨k,b,c,x⟩:Acc)]))] r.v w' env hF' h1 ?_;rw[FK];refine .w (.agg ?_);show RL _ [.lit (.int .i64 r.val),.lit (.string r.bytes)] [.int .i64 r.val,.string r.bytes];exact .cons (xs:=[_]) (.lit rfl) (.cons (xs:=[_]) (.lit rfl) .nil)
   ·exact hQ chain a w' h.defers ⟨l++[(⟨k,b,c,x⟩:Acc)],hst FK,FK,hI.BX _ _ _ _ _ _ hp (di.refl _ _) (fun b hb=>.inl hb),h.g_.trans (hc.mono fun b _ hs=>hI.sub b hs)⟩
  ·exact hk.elim
 ·rename_i g first cap
  split at hk
  ·rename_i sp h1 h2 h3;have hfe:=hfv.dn
   have e1:first=#[]:=by apply Array.ext';simpa using h1
   have e2:cap=#[]:=by apply Array.ext';simpa using h2
   subst e1 e2;refine fin g sp xs (args.toList.map a.eval) h3 hxs.vals hk ?_
   have e3:(args.toList.map a.eval).toArray=args.map a.eval:=by apply Array.ext';simp
   rw[e3];simp[execOp,ho,resolve,hfe,Deferred.ofValue,invoke]
  ·rename_i cs sp h1 h2 h3
   cases hall:cs.toList.all (·.oneCell')<;>simp only[hall] at hk<;>try exact hk.elim
   have hfe:=hfv.dn
   have e1:first=#[.agg cs]:=by apply Array.ext';simpa using h1
   have e2:cap=#[]:=by apply Array.ext';simpa using h2
   subst e1 e2;refine fin g sp (.w (.agg (cs.toList.map .lit))::xs) (.agg cs::args.toList.map a.eval) h3 ⟨.w (.agg (aZe hall)),hxs.vals⟩ hk ?_
   have e3:(Value.agg cs::args.toList.map a.eval).toArray=#[.agg cs]++args.map a.eval:=by apply Array.ext';simp
   rw[e3];simp[execOp,ho,resolve,hfe,Deferred.ofValue,invoke]
  ·exact hk.elim
 ·rename_i g first cap
  split at hk
  ·rename_i sp h1 h2 h3;have hin:=hfv.inv;generalize hq:a.eval f=q at hin
   cases hin with
   |@fn _ _ _ _ fs cs r1 r2=>
    refine fin g sp _ (fs++args.toList.map a.eval++cs) h1 (((lm.E5 r1 h2).append hxs.vals).append (lm.E5 r2 h3)) hk ?_
    have e3:(fs++args.toList.map a.eval++cs).toArray=fs.toArray++args.map a.eval++cs.toArray:=by apply Array.ext';simp
    rw[e3];simp[execOp,ho,resolve,hq,Deferred.ofValue,invoke]
  ·exact hk.elim
 ·exact hk.elim
theorem aNd{t:TypeId}{k:M}(hk:(aTd P t k).ok none s F):P.eqGuardType P.depth t=false/\k.ok none s F:=by
 unfold aTd at hk
 split at hk
 ·split at hk
  ·rename_i h2
   exact⟨h2,hk⟩
  ·exact hk.elim
 ·exact hk
theorem xQ{t e:TypeId}(hu:P.underlying t=some (.slice e))(d:Nat)(b:Addr)(l c:Nat)(w:World):(Op.equalIn (d+1) t (.slice (some b) l c) (.slice none 0 0)).run P w=.ok false w:=by
 simp[Op.equalIn,run_underlying hu]
theorem aPg{t e:TypeId}(hu:P.underlying t=some (.slice e))(b:Addr)(l c:Nat)(w:World):(binOp .eql t (.slice (some b) l c) (.slice none 0 0)).run P w=.ok (.bool false) w:=by
 show (do pure (Value.bool (<-Op.equal t (.slice (some b) l c) (.slice none 0 0))):Sem Value).run P w=_;rw[Sem.run_bind,show Op.equal t (.slice (some b) l c) (.slice none 0 0)=Op.equalIn (9999+1) t (.slice (some b) l c) (.slice none 0 0) from rfl,xQ hu];rfl
theorem aPe{t e:TypeId}(hu:P.underlying t=some (.slice e))(b:Addr)(l c:Nat)(w:World):(binOp .neq t (.slice (some b) l c) (.slice none 0 0)).run P w=.ok (.bool true) w:=by
 show (do pure (Value.bool (!(<-Op.equal t (.slice (some b) l c) (.slice none 0 0)))):Sem Value).run P w=_;rw[Sem.run_bind,show Op.equal t (.slice (some b) l c) (.slice none 0 0)=Op.equalIn (9999+1) t (.slice (some b) l c) (.slice none 0 0) from rfl,xQ hu];rfl
theorem WL(h:eu A s a w env){op:BinOp}{t ty:TypeId}{x y:Operand}(ho:o.op=.binOp op t x y ty){p q:PV}(hp:RV (aU A w env) p (a.eval x))(hq:RV (aU A w env) q (a.eval y))(hk:(WM P op t x y p q).ok none s F)(hf:Fin A s a o K F):o.wp P a w K Q:=by
 have hstep:∀ v,(do eqGuard op t x y (a.eval x) (a.eval y);binOp op t (a.eval x) (a.eval y):Sem Value).run P w=.ok v w->(execOp a.eval o).run P w=.ok (.value v) w:=fun v hr=>by
  simp only[execOp,ho,Sem.run_bind] at hr ⊢;rw[hr];simp
 unfold WM at hk
 split at hk
 ·rename_i va vb;have e1:=hp.dn;have e2:=hq.dn;rw[e1,e2] at hstep
  split at hk
  ·split at hk
   ·rename_i hkk;subst hkk;obtain⟨h0,hF⟩:=hk;have h0':¬_=(0:Int):=h0;exact aW (hstep _ (by simp[eqGuard,binOp,Op.intDiv,h0'])) (hf.same h hF (.w (.one (.lit rfl))))
   ·exact hk.elim
  ·split at hk
   ·rename_i hkk;subst hkk;obtain⟨h0,hF⟩:=hk;have h0':¬_=(0:Int):=h0;exact aW (hstep _ (by simp[eqGuard,binOp,Op.intDiv,h0'])) (hf.same h hF (.w (.one (.lit rfl))))
   ·exact hk.elim
  ·obtain⟨h0,hF⟩:=hk;have h0':¬_<(0:Int):=Int.not_lt.2 h0;exact aW (hstep _ (by simp[eqGuard,binOp,Op.shift,h0'])) (hf.same h hF (.w (.one (.lit rfl))))
  ·obtain⟨h0,hF⟩:=hk;have h0':¬_<(0:Int):=Int.not_lt.2 h0;exact aW (hstep _ (by simp[eqGuard,binOp,Op.shift,h0'])) (hf.same h hF (.w (.one (.lit rfl))))
  ·obtain⟨h0,hF⟩:=hk;refine aW (hstep _ ?_) (hf.same h hF (.w (.one (.lit rfl))));rename_i m n
   have h1:¬(((m.size+n.size:Nat):Int) > IntKind.i64.max):=by
    have:m.size+n.size<=9223372036854775807:=h0
    have e:IntKind.i64.max=9223372036854775807:=by decide
    rw[e];omega
   simp only[eqGuard,binOp,Op.stringOp,Sem.run_bind];rw[if_neg h1];rfl
  ·obtain⟨r,h1,h2,hF⟩:=aPn hk;exact aW (hstep r (zN h1)) (hf.same h hF (.w (.one (.lit h2))))
 ·rename_i l m
  have key:∀ r,Yd P 8 t l m=some r->gV P t=some true->∃ xs ys,a.eval x=.agg xs/\a.eval y=.agg ys/\(Op.equalIn 10000 t (.agg xs) (.agg ys)).run P w=.ok r w:=by
   intro r hr hi
   have e1:BH P t l=some (.agg l):=by unfold BH;rw[hi]
   have e2:BH P t m=some (.agg m):=by unfold BH;rw[hi]
   generalize a.eval x=vx at hp;generalize a.eval y=vy at hq
   cases hp with
   | w hp=>cases hp with
    | @agg _ xs h1=>cases hq with
     |w hq=>cases hq with
      |@agg _ ys h2=>exact⟨xs,ys,rfl,rfl,Ll 8 hr e1 e2 (.agg h1) (.agg h2) 9991 w⟩
  split at hk
  ·rename_i r h1 h3;obtain⟨h2,hk⟩:=aNd hk;obtain⟨xs,ys,e1,e2,e3⟩:=key r h1 h3;rw[e1,e2] at hstep;refine aW (hstep (.bool r) ?_) (hf.same h hk (.w (.one (.lit rfl))));rw[Sem.run_bind,run_eqGuard_agg w _ t x y xs ys h2,Result.andThen_ok,run_eql_struct w t xs ys,e3,Result.andThen_ok]
  ·rename_i r h1 h3;obtain⟨h2,hk⟩:=aNd hk;obtain⟨xs,ys,e1,e2,e3⟩:=key r h1 h3;rw[e1,e2] at hstep;refine aW (hstep (.bool (!r)) ?_) (hf.same h hk (.w (.one (.lit rfl))));rw[Sem.run_bind,run_eqGuard_agg w _ t x y xs ys h2,Result.andThen_ok,run_neq_struct w t xs ys,e3,Result.andThen_ok]
  ·exact hk.elim
 ·rename_i n len f;have e2:=hq.dn;generalize hvx:a.eval x=vx at hp hstep
  cases hp.inv with
  | @sl _ _ _ _ _ vs hr hb2 hel=>
   obtain⟨_,A1,c1,rfl,_,_,h4⟩:=hr
   split at hk
   ·rename_i e hu;obtain⟨h0,hF⟩:=hk;obtain⟨b',o',rfl,_⟩:=h4 h0;refine aW (hstep (.bool false) ?_) (hf.same h hF (.w (.one (.lit rfl))));rw[e2,Sem.run_bind,show (eqGuard .eql t x y (.slice (some _) _ _) (.slice none 0 0):Sem Unit).run P w=.ok () w from rfl,Result.andThen_ok,aPg hu]
   ·rename_i e hu;obtain⟨h0,hF⟩:=hk;obtain⟨b',o',rfl,_⟩:=h4 h0;refine aW (hstep (.bool true) ?_) (hf.same h hF (.w (.one (.lit rfl))));rw[e2,Sem.run_bind,show (eqGuard .neq t x y (.slice (some _) _ _) (.slice none 0 0):Sem Unit).run P w=.ok () w from rfl,Result.andThen_ok,aPe hu]
   ·exact hk.elim
 ·exact hk.elim
theorem aQb(h:eu A s a w env){x:Operand}(ho:o.op=.nilCheck x){v:PV}(hv:RV (aU A w env) v (a.eval x))(hp:bBq v=true)(hF:F none v [])(hf:Fin A s a o K F):o.wp P a w K Q:=by
 have hx:∃ b o,a.eval x=.pointer (some ⟨b,o,none⟩):=by
  unfold bBq at hp
  split at hp<;>first|(cases hp;done)|skip
  ·cases hv.inv with|pt h1 _=>exact h1
  ·cases hv.inv with|pk h1 _=>exact h1
  ·cases hv.inv with|pe h1 _=>exact h1
  ·generalize a.eval x=q at hv
   cases hv.inv with|pf _ _ _ _=>exact⟨_,_,rfl⟩
  ·generalize a.eval x=q at hv
   cases hv.inv with|pa _ _ _ _=>exact⟨_,_,rfl⟩
 obtain⟨b,off,hx⟩:=hx;rw[hx] at hv;exact aW (v:=.pointer (some ⟨b,off,none⟩)) (w':=w) (by simp[execOp,ho,hx]) (hf.same h hF hv)
theorem aXe(h:eu A s a w env){t:TypeId}{x:Operand}(ho:o.op=.sliceToArrayPointer t x){v:PV}(hv:RV (aU A w env) v (a.eval x))(hk:(aKe P t v).ok none s F)(hf:Fin A s a o K F):o.wp P a w K Q:=by
 unfold aKe at hk
 split at hk
 ·rename_i n e k len f hu
  split at hk
  ·rename_i he hb
   obtain rfl:=gm hb
   obtain⟨⟨hle,hpos⟩,hF⟩:=hk;generalize hq:a.eval x=q at hv
   cases hv.inv with
   |@sl _ _ _ _ _ vs hr hb2 hel=>
    obtain⟨h1,A1,c1,rfl,h2,h3,h4⟩:=hr;obtain⟨b',o',rfl,hcell⟩:=h4 hpos;refine aW (v:=.pointer (some ⟨b',o',none⟩)) (w':=w) (by simp[execOp,ho,hq,run_arrayAt w t e n _ len c1 hu hle]) (hf.same h hF (.w (.one (.pa (c:=c1) ⟨h1,_,_,rfl,h2,h3,h4⟩ (hb2 _ rfl hpos) hel hpos))))
  ·exact hk.elim
 ·exact hk.elim
theorem Uj(h:eu A s a w env){args:Array Operand}{Dx:Array TypeId}{x y:Operand}(ho:o.op=.call { callee:=.builtin .min,args:=args,argTypes:=Dx })(ha:args=#[x,y]){p q:PV}(hp:RV (aU A w env) p (a.eval x))(hq:RV (aU A w env) q (a.eval y))(hk:(Uk p q).ok none s F)(hf:Fin A s a o K F):o.wp P a w K Q:=by
 subst ha;unfold Uk at hk
 split at hk
 ·split at hk
  ·rename_i k m k' n hkk;subst hkk;have e1:=hp.dn;have e2:=hq.dn;refine aW (v:=.int k (min m n)) (w':=w) ?_ (hf.same h hk (.w (.one (.lit rfl))))
   have e3:(if n<m then n else m)=min m n:=by
    split<;>omega
   simp[execOp,ho,resolve,invoke,e1,e2,builtin,Builtin.min_,Builtin.min2,e3]
  ·exact hk.elim
 ·exact hk.elim
theorem Ut(h:eu A s a w env){args:Array Operand}{Dx:Array TypeId}{x y:Operand}(ho:o.op=.call { callee:=.builtin .max,args:=args,argTypes:=Dx })(ha:args=#[x,y]){p q:PV}(hp:RV (aU A w env) p (a.eval x))(hq:RV (aU A w env) q (a.eval y))(hk:(Uu p q).ok none s F)(hf:Fin A s a o K F):o.wp P a w K Q:=by
 subst ha;unfold Uu at hk
 split at hk
 ·split at hk
  ·rename_i k m k' n hkk;subst hkk;have e1:=hp.dn;have e2:=hq.dn;refine aW (v:=.int k (max m n)) (w':=w) ?_ (hf.same h hk (.w (.one (.lit rfl))))
   have e3:(if m<n then n else m)=max m n:=by
    split<;>omega
   simp[execOp,ho,resolve,invoke,e1,e2,builtin,Builtin.max_,Builtin.max2,e3]
  ·exact hk.elim
 ·exact hk.elim
theorem bDz(hG:aFa P I G)(hI:lu P I A)(hQ:Bh A Q)(h:eu A s a w env){nm:Nat}(hk:(body P G nm o).ok none s F)(hf:Fin A s a o K F):o.wp P a w K Q:=by
 obtain⟨dst,op,ty,pos,after,guard⟩:=o;unfold body at hk;dsimp only at hk
 split at hk
 ·exact bAw h (.inl rfl) hk hf
 ·exact bAw h (.inr rfl) hk hf
 ·exact P5 h rfl hk hf
 ·split at hk
  ·rename_i l hz;exact NP h rfl hz hk hf
  ·exact hk.elim
 ·obtain⟨pv,hp,hk⟩:=fU h hk
  split at hk
  ·split at hk
   ·cases hp with|w hp=>exact WH h rfl hp hk hf
   ·exact hk.elim
  ·exact hk.elim
 ·obtain⟨pv,hp,hk⟩:=fU h hk;exact Q9 h rfl hp hk hf
 ·obtain⟨pv,hp,hk⟩:=fU h hk;obtain⟨qv,hq,hk⟩:=fU h hk;exact Gf h rfl hp hq hk hf
 ·obtain⟨pv,hp,hk⟩:=fU h hk;exact aNp h rfl hp hk hf
 ·obtain⟨pv,hp,hk⟩:=fU h hk;obtain⟨qv,hq,hk⟩:=fU h hk;exact aNb h rfl hp hq hk hf
 ·obtain⟨pv,hp,hk⟩:=fU h hk;exact LY h rfl hp hk hf
 ·obtain⟨pv,hp,hk⟩:=fU h hk;exact aWl h rfl hp hk hf
 ·obtain⟨vs,hp,hk⟩:=aAd h hk
  split at hk
  ·rename_i l hz;exact NG h rfl hp hz hk hf
  ·exact hk.elim
 ·obtain⟨vs,hp,hk⟩:=aAd h hk;exact aKa h rfl hp hk hf
 ·obtain⟨pv,hp,hk⟩:=fU h hk;obtain⟨lv,hl,hk⟩:=aTl h hk;obtain⟨hv,hh,hk⟩:=aTl h hk;exact Gw h rfl hp hl hh hk hf
 ·obtain⟨pv,hp,hk⟩:=fU h hk;obtain⟨qv,hq,hk⟩:=fU h hk;exact WL h rfl hp hq hk hf
 ·obtain⟨pv,hp,hk⟩:=fU h hk
  split at hk
  ·rename_i v hl;exact OG h rfl hp hl hk hf
  ·exact hk.elim
 ·obtain⟨pv,hp,hk⟩:=fU h hk;exact aWu h rfl hp hk hf
 ·obtain⟨pv,hp,hk⟩:=fU h hk;obtain⟨qv,hq,hk⟩:=fU h hk;exact Py h rfl hp hq hk hf
 ·rename_i args Dx
  split at hk
  ·rename_i x y t t' e1 e2
   split at hk
   ·rename_i hb
    obtain rfl:=gm hb
    obtain⟨pv,hp,hk⟩:=fU h hk;obtain⟨qv,hq,hk⟩:=fU h hk
    obtain rfl:args=#[x,y]:=by apply Array.ext';simpa using e1
    obtain rfl:Dx=#[t,t]:=by apply Array.ext';simpa using e2
    exact Qv h rfl hp hq hk hf
   ·exact hk.elim
  ·exact hk.elim
 ·obtain⟨pv,hp,hk⟩:=fU h hk
  split at hk
  ·rename_i hb;exact aQb h rfl hp hb hk hf
  ·exact hk.elim
 ·obtain⟨pv,hp,hk⟩:=fU h hk;exact aXe h rfl hp hk hf
 ·rename_i args Dx
  split at hk
  ·rename_i x y e1;obtain⟨pv,hp,hk⟩:=fU h hk;obtain⟨qv,hq,hk⟩:=fU h hk;exact Uj h rfl (by apply Array.ext';simpa using e1) hp hq hk hf
  ·exact hk.elim
 ·rename_i args Dx
  split at hk
  ·rename_i x y e1;obtain⟨pv,hp,hk⟩:=fU h hk;obtain⟨qv,hq,hk⟩:=fU h hk;exact Ut h rfl (by apply Array.ext';simpa using e1) hp hq hk hf
  ·exact hk.elim
 ·obtain⟨fs,hfs,hk⟩:=aBt h hk;obtain⟨cs,hcs,hk⟩:=aBt h hk
  split at hk
  ·rename_i fp cp h1 h2;exact aQe h rfl hfs hcs h1 h2 hk hf
  ·rename_i h1 h2
   split at hk
   ·rename_i l h3;exact aMo h rfl hfs hcs h3 h2 hk hf
   ·exact hk.elim
  ·exact hk.elim
 ·rename_i f args Dx;obtain⟨fv,hfv,hk⟩:=fU h hk;obtain⟨xs,hxs,hk⟩:=aBt h hk;exact RD hG hI hQ h rfl hfv hxs hk hf
 ·rename_i args Dx
  split at hk
  ·rename_i x t e1 e2;obtain⟨pv,hp,hk⟩:=fU h hk
   obtain rfl:args=#[x]:=by apply Array.ext';simpa using e1
   obtain rfl:Dx=#[t]:=by apply Array.ext';simpa using e2
   exact V7 h rfl hp hk hf
  ·exact hk.elim
 ·rename_i args Dx
  split at hk
  ·rename_i x y t t' e1 e2
   split at hk
   ·rename_i hb
    obtain rfl:=gm hb
    obtain⟨pv,hp,hk⟩:=fU h hk;obtain⟨qv,hq,hk⟩:=fU h hk
    obtain rfl:args=#[x,y]:=by apply Array.ext';simpa using e1
    obtain rfl:Dx=#[t,t]:=by apply Array.ext';simpa using e2
    exact bEj h rfl hp hq hk hf
   ·obtain⟨pv,hp,hk⟩:=fU h hk;obtain⟨qv,hq,hk⟩:=fU h hk
    obtain rfl:args=#[x,y]:=by apply Array.ext';simpa using e1
    obtain rfl:Dx=#[t,t']:=by apply Array.ext';simpa using e2
    exact bEk h rfl hp hq hk hf
  ·exact hk.elim
 ·exact hk.elim
theorem UU(hG:aFa P I G)(hI:lu P I A)(hQ:Bh A Q)(Dp:Nat)(ops:Array Oper)(hd:∀ (i:Nat) (o:Oper) d,ops[i]?=some o->o.dst=some d->d<A.nt):Em P ops Q (n_ A) (bAx P G Dp ops.toList):=by
 intro i o s a w out ho hg hrun hc K hK;have hmo:=M.vk _ none s out (fun g v wr=>∀ a' w',n_ A (appW o.dst g v wr s) a' w'->K a' w') hrun hc (fun a' w' h=>hK a' w' ((aNh A) _ _ _ _ (fun _=>rfl) (fun _=>rfl) h));obtain⟨env,hE⟩:=hg
 have hfin:∀ (F:Option Bool->PV->Wr->Prop),(∀ v wr,F none v wr->∀ a' w',n_ A (appW o.dst none v wr s) a' w'->K a' w')->Fin A s a o K F:=by
  intro F hF v wr val w' env' h1 h2 h3;refine hF v wr h1 _ _ ⟨env',?_⟩;have:=h2.put o.dst none v val (fun t ht=>hd i o t ho ht) (fun _=>h3) (fun h=>by cases h)
  have e:appW o.dst none v wr s=Il o.dst none v { s with o:=wr++s.o }:=by unfold appW app Il;cases o.dst<;>rfl
  rw[e];exact this
 unfold wpOp;rw[ho];dsimp only;unfold bAx at hmo
 cases hgd:o.guard with
 |none=>
  rw[hgd] at hmo
  have hw:Region.wanted o (yielded ops a.tmps)=true:=by simp[Region.wanted,hgd]
  rw[if_pos hw]
  exact .inl (bDz hG hI hQ hE hmo (hfin _ fun v wr h=>h))
 | some jp=>
  obtain⟨j,Sj⟩:=jp;rw[hgd] at hmo;dsimp only at hmo
  cases hj:(ops.toList[j]?).bind (·.dst) with
  |none=>rw[hj] at hmo;exact hmo.elim
  | some tj=>
   rw[hj] at hmo;obtain⟨g,v,hfv,hmo⟩:=hmo
   have hdj:(ops[j]?).bind (·.dst)=some tj:=by simpa using hj
   have fin2:∀ gb,Region.wanted o (yielded ops a.tmps)=gb->(M.gate gb (body P G (Dp*1000+i) o)).ok none s (fun g v wr=>∀ a' w',n_ A (appW o.dst g v wr s) a' w'->K a' w') ->
     (if Region.wanted o (yielded ops a.tmps)=true then o.wp P a w K Q\/(o.asks P a w/\LetsOut Q) else K (a.put o.dst undef) w):=by
    intro gb hwant hmo;obtain⟨_,hmo⟩:=hmo
    cases gb with
    |true=>
     rw[if_pos hwant];refine .inl (bDz hG hI hQ hE (bBy _ s _ hmo) (hfin _ fun v wr h=>?_));intro a' w' Ko
     exact h.2.2 a' w' (Ko.aBQ h.2.1)
    |false=>
     rw[if_neg (by rw[hwant];exact Bool.false_ne_true)];obtain⟨v,wr,h1,h2⟩:=aWc _ s _ hmo;obtain⟨env',h3⟩:=eu.aHP wr s env hE h2;refine h1 _ _ ⟨env',?_⟩;have:=h3.put o.dst (some false) v undef (fun t ht=>hd i o t ho ht) (fun hg=>absurd hg (by simp[gT])) (fun _=>rfl)
     have e:appW o.dst (some false) v wr s=Il o.dst (some false) v { s with o:=wr++s.o }:=by unfold appW app Il;cases o.dst<;>rfl
     rw[e];exact this
   have hgd2:Region.wanted o (yielded ops a.tmps)=(yielded ops a.tmps j==some Sj):=by simp[Region.wanted,hgd]
   have hyes:∀ b,gT g->v=ji (.bool b)->Region.wanted o (yielded ops a.tmps)=Iw Sj b:=by
    intro b hgT hv;subst hv;obtain⟨val,h1,h2⟩:=hE.tmps tj g _ hfv hgT;have hval:=h2.zn;subst hval
    have hyd:yielded ops a.tmps j=some b:=by
     unfold yielded;rw[hdj];simp[h1]
    rw[hgd2,hyd]
    cases Sj<;>cases b<;>rfl
   dsimp only at hmo
   split at hmo
   ·rename_i b;exact fin2 _ (hyes b trivial rfl) hmo
   ·rename_i b0 b;refine fin2 _ ?_ hmo
    cases b0 with
    |true=>rw[Bool.true_and];exact hyes b rfl rfl
    | false=>
     have h1:=hE.und tj _ hfv
     have hyd:yielded ops a.tmps j=none:=by
      unfold yielded;rw[hdj];simp[h1,undef]
     rw[hgd2,hyd,Bool.false_and];rfl
   ·exact hmo.elim
end
end Pv
end Go.Proofs.YtndpjopifkbgiaaGreatDoor
