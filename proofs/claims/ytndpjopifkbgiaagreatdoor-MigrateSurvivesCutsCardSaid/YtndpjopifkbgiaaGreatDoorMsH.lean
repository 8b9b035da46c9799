/-.-/
import Derived.Test.YtndpjopifkbgiaaGreatDoorMsG
import Derived.Lib.AppendStr
import Derived.ChangeKeysEq
import Derived.Laws.MakeOwn
import Derived.Laws.Cover3
namespace Go.Proofs.YtndpjopifkbgiaaGreatDoor
open Go.RowKit
namespace Pv
theorem mP{w:World}{n len off m:Nat}{A0:Option Addr}{c0:Nat}{vs:List Value}(hn:off+m<=len)(h:Reads w n (.slice A0 len c0) len vs):Reads w n (.slice (A0.map (·.add (off*n))) m (c0-off)) m ((vs.drop (off*n)).take (m*n)):=by
 obtain⟨h1,A1,c1,e,h2,h3,h4⟩:=h;cases e;have hm:(off+m)*n<=len*n:=Nat.mul_le_mul_right n hn;rw[Nat.add_mul] at hm
 refine⟨by simp;omega,_,_,rfl,by omega,by omega,fun hp=>?_⟩
 obtain⟨b,o,rfl,hc⟩:=h4 (by omega)
 refine⟨b,o+off*n,by simp[add_lit],fun j u hj=>?_⟩
 rw[List.getElem?_take] at hj
 split at hj
 ·rw[List.getElem?_drop] at hj;have:=hc _ u hj;rwa [<-Nat.add_assoc] at this
 ·cases hj
theorem nZ(C:Ctx)(l:List UInt8)(i:Nat)(hi:i<l.length):RL C (p_ l i) (((l.map o9).drop (i*1)).take 1):=by
 have:((l.map o9).drop (i*1)).take 1=[o9 (l.getD i 0)]:=by
  apply List.ext_getElem?;intro q;rw[List.getElem?_take,List.getElem?_drop,Nat.mul_one]
  cases q with
  |zero=>rw[if_pos (by omega),Nat.add_zero,qB l i hi];rfl
  |succ q=>rw[if_neg (by omega)];simp
 rw[this];exact .cons (.lit rfl) .nil
section
variable {P:Program} {A:kz} {s:St} {a:Act} {w:World} {env:Env} {o:Oper} {K:Act->World->Prop} {Q:Exit->Act->World->Prop} {F:Option Bool->PV->Wr->Prop}
theorem SL(C:Ctx):C.cold.Le C:=⟨Nat.le_refl _,fun _ _ h=>⟨h,rfl⟩,fun _ _ _ h=>by cases h⟩
theorem sG{C:Ctx}{n m:Nat}{f:Nat->List PC}{news:List Value}(hl:news.length=m*n)(h:∀ i,i<m->RL C (f i) ((news.drop (i*n)).take n)):dN news:=by
 intro u hu;obtain⟨j,hj,rfl⟩:=List.mem_iff_getElem.1 hu
 have hn:0<n:=by
  rcases Nat.eq_zero_or_pos n with h0|h0
  ·rw[h0,Nat.mul_zero] at hl;omega
  ·exact h0
 have hi:j / n<m:=Nat.div_lt_of_lt_mul (by rw[Nat.mul_comm,<-hl];exact hj);refine (h (j / n) hi).ones _ ?_;have h1:j / n*n+j % n=j:=Nat.div_add_mod' j n;have h2:j % n<n:=Nat.mod_lt _ hn;refine List.mem_of_getElem? (i:=j % n) ?_;rw[List.getElem?_take,if_pos h2,List.getElem?_drop,h1,zH hj]
theorem src_ok(h:gm A s a w env){n:Nat}{v:PV}{val:Value}(hv:RV (aU A w env) v val){k:Nat->(Nat->List PC)->M}(hk:(Hz n v k).ok none s F) :
  ∃ m f news,Reads w n val m news/\(∀ i,i<m->RL (aU A w env) (f i) ((news.drop (i*n)).take n))/\(k m f).ok none s F:=by
 unfold Hz at hk
 split at hk
 ·rename_i n' len f
  cases hb:Nat.beq n n'<;>rw[hb] at hk
  ·exact hk.elim
  obtain rfl:=gy hb
  cases hv.inv with
  |sl hr hbb he=>exact⟨len,f,_,hr,fun i hi=>(he i hi).le (SL _),hk⟩
 ·rename_i x ai n' off len;obtain⟨g,vr,ob,hfo,hk⟩:=hk;have hk2:=dU hk;clear hk;obtain⟨hg,hk⟩:=hk2;obtain⟨hd,hev,hob⟩:=jQ h hfo hg
  cases hb:Nat.beq ai vr<;>cases hb2:Nat.beq n n'<;>cases ob<;>simp only[hb,hb2] at hk<;>try exact hk.elim
  rename_i e m tot f
  obtain rfl:=gy hb
  obtain rfl:=gy hb2
  cases hb3:Nat.beq n m<;>rw[hb3] at hk
  ·exact hk.elim
  obtain rfl:=gy hb3
  obtain⟨hle,hk⟩:=hk;have hle':off+len<=tot:=hle;obtain⟨A0,n0,c0,rfl,hle0,rfl⟩:=hv.yt hev;obtain⟨vs,hown,hel⟩:=hob
  refine⟨len,_,(vs.drop (off*n)).take (len*n),?_,fun i hi=>?_,hk⟩
  ·have hm:(off+len)*n<=tot*n:=Nat.mul_le_mul_right n hle';rw[Nat.add_mul] at hm;have hvl:=hown.1;rcases hown.2 with⟨e0,rfl⟩|⟨g1,cap,cur,t',fr,e0,hgg,hfr,hnc,hcm,hcs,htake⟩
   ·cases e0
    have h0:len=0:=by omega
    subst h0
    have h1:off=0:=by omega
    subst h1
    exact⟨by simp,_,_,rfl,by omega,by omega,fun h=>by omega⟩
   ·have hrg:=aOn (g:=g1) (by rw[<-e0];exact hown);cases e0
    refine⟨by simp;omega,_,_,rfl,by omega,by omega,fun hn=>⟨g1,off*n,by simp[add_lit],fun j u hj=>?_⟩⟩
    have:=jC hrg (off*n) (len*n) j u hj;rwa [Nat.zero_add] at this
  ·rw[jL vs hi];exact hel _ (by omega)
 ·rename_i x ai off len;obtain⟨g,vr,ob,hfo,hk⟩:=hk;have hk2:=dU hk;clear hk;obtain⟨hg,hk⟩:=hk2;obtain⟨hd,hev,hob⟩:=jQ h hfo hg
  cases hb:Nat.beq ai vr<;>cases hb2:Nat.beq n 1<;>cases ob<;>simp only[hb,hb2] at hk<;>try exact hk.elim
  rename_i bt l
  obtain rfl:=gy hb
  obtain rfl:=gy hb2
  cases hs:uo l off with
  |none=>rw[hs] at hk;exact hk.elim
  | some q=>
   obtain⟨m,bs⟩:=q;rw[hs] at hk;obtain⟨hlm,hk⟩:=hk;have bIX:len<=m:=hlm;obtain⟨g1,c,rfl,hc1,hc2,rfl⟩:=hv.JZ hev;obtain⟨g2,cs,e2,hB,hR⟩:=hob;cases e2;obtain⟨k1,k2,k3⟩:=oQ hR hs;have hrg:=jC hB.range off m;rw[Nat.zero_add,k2] at hrg
   refine⟨len,_,(bs.map o9).take len,⟨by simp;omega,_,c,rfl,hc1,hc2,fun hn=>⟨g1,off,rfl,fun j u hj=>?_⟩⟩,fun i hi=>?_,hk⟩
   ·rw[List.getElem?_take] at hj
    split at hj
    ·exact hrg j u hj
    ·cases hj
   ·have hcell:=qB bs i (by omega)
    have e1:(((bs.map o9).take len).drop (i*1)).take 1=[o9 (bs.getD i 0)]:=by
     apply List.ext_getElem?;intro q;rw[List.getElem?_take,List.getElem?_drop,List.getElem?_take,Nat.mul_one]
     cases q with
     |zero=>rw[if_pos (by omega),if_pos (by omega),Nat.add_zero,hcell];rfl
     |succ q=>rw[if_neg (by omega)];simp
    rw[e1];exact .cons (.lit rfl) .nil
 ·have:=hv.dw;subst this
  exact⟨0,_,[],Reads.nil w n,fun i hi=>by omega,hk⟩
 ·exact hk.elim
theorem aJp{C:Ctx}{n tot k:Nat}{f f':Nat->List PC}{vs news:List Value}(hl:vs.length=tot*n)(h1:∀ i,i<tot->RL C (f i) ((vs.drop (i*n)).take n))(h2:∀ i,i<k->RL C (f' i) ((news.drop (i*n)).take n)) :
  ∀ i,i<tot+k->RL C (qm tot f f' i) (((vs++news).drop (i*n)).take n):=by
 intro i hi;unfold qm
 by_cases h:i<tot
 ·rw[if_pos h];have hm:(i+1)*n<=tot*n:=Nat.mul_le_mul_right n h;rw[Nat.add_mul,Nat.one_mul] at hm;rw[List.drop_append_of_le_length (by omega),List.take_append_of_le_length (by simp;omega)];exact h1 i h
 ·rw[if_neg h]
  have e1:i*n=tot*n+(i-tot)*n:=by rw[<-Nat.add_mul];congr 1;omega
  rw[e1,<-List.drop_drop,List.drop_left' hl];exact h2 _ (by omega)
theorem bHy(h:gm A s a w env){nm t:Nat}{x y:Operand}(ho:o.op=.call { callee:=.builtin .append,args:=#[x,y],argTypes:=#[t,t] }){p v:PV}(hp:RV (aU A w env) p (a.eval x))(hv:RV (aU A w env) v (a.eval y))(hk:(aTx P nm t p v).ok none s F)(hf:Fin A s a o K F):o.wp P a w K Q:=by
 unfold aTx at hk
 cases hsl:yQ P t with
 |none=>rw[hsl] at hk;exact hk.elim
 | some q=>
  obtain⟨e,n,by'⟩:=q;rw[hsl] at hk;dsimp only at hk;have hT:=aAg hsl
  split at hk
  ·rename_i x1 ai n' off len;obtain⟨g,vr,ob,hfo,hk⟩:=hk;have hk2:=dU hk;clear hk;obtain⟨hg,hk⟩:=hk2;obtain⟨hd,hev,hob⟩:=jQ h hfo hg
   cases hb:Nat.beq ai vr<;>cases hb2:Nat.beq n n'<;>cases hb3:Nat.beq off 0<;>cases ob<;>simp only[hb,hb2,hb3] at hk<;>try exact hk.elim
   rename_i e' m tot f
   obtain rfl:=gy hb
   obtain rfl:=gy hb2
   obtain rfl:=gy hb3
   cases hb4:Nat.beq n m<;>cases hb5:(Nat.beq e e'&&Nat.blt e FM)<;>simp only[hb4,hb5] at hk<;>try exact hk.elim
   rw[Bool.and_eq_true] at hb5;obtain⟨hb5,hb6⟩:=hb5
   obtain rfl:=gy hb4
   obtain rfl:=gy hb5
   obtain⟨htot,hk⟩:=hk;have Dj:len=tot:=htot;have hk2:=src_ok h hv hk;clear hk;obtain⟨k,f',news,hrd,Dn,hk⟩:=hk2;obtain⟨hbytes,hk⟩:=hk;have hF:=hk.2;obtain⟨A0,n0,c0,rfl,hle0,hxv⟩:=hp.yt hev;obtain⟨vs,hown,hel⟩:=hob;have hown:=hown.plain hb6
   have hvx:a.eval x=.slice A0 n0 c0:=by
    rw[hxv];rcases hown.2 with⟨e0,_⟩|⟨g1,cap,cur,e0,_⟩
    ·cases e0
     have:len=0:=by omega
     subst this;rfl
    ·cases e0;simp[add_lit,Dj]
   refine aUh ho hT hvx hown rfl hrd (sG hrd.1 Dn) hbytes (Nat.zero_le _) (fun A' c' w' h2 h3 h4=>?_);have hlt:∀ b,(Value.slice A0 n0 c0).ownBlock=some b->b<w.heap.size:=fun b hb=>(hown.lt b hb).2
   obtain⟨hg1,hle⟩:=h.upd x1 none (ai+1) (.slice A' (tot+k) c') (.arr e n (tot+k) (qm tot f f')) (h3.mono fun b _ hb=>⟨ai,_,hev,by cases A0<;>exact hb⟩) (fun v hd' e0=>by rw[hev] at e0;cases e0;exact .inl (Nat.lt_succ_self _))
    (
     fun b hb=>by
     have hb':(Value.slice A' (tot+k) c').ownBlock=some b:=by cases A'<;>exact hb
     refine⟨(h2.lt b hb').2,?_⟩
     rcases h4 with h4|⟨g1,h4,h5,_⟩
     ·refine .inr ⟨ai,_,hev,?_⟩;rw[hb'] at h4
      cases A0<;>exact h4.symm
     ·rw[hb'] at h4;cases h4;exact .inl h5)
    (fun hle _=>⟨vs++news,xQ (B:=0) ⟨by simp[hown.1,hrd.1,Nat.add_mul],h2.2⟩,aJp hown.1 (fun i hi=>(hel i hi).le hle) (fun i hi=>(Dn i hi).le hle)⟩)
   refine hf _ _ _ _ _ hF hg1 (.w (.one (.ow ⟨_,_,rfl⟩ ⟨_,_,iE _ _ _ _,Nat.le_refl _,fun _=>⟨_,_,_,rfl,by omega,?_⟩⟩)))
   cases A' with
   |none=>simp
   |some ad=>simp[Addr.add]
  ·have hxv:=hp.dw;have hk2:=src_ok h hv hk;clear hk;obtain⟨k,f',news,hrd,Dn,hk⟩:=hk2;obtain⟨hbytes,hF⟩:=hk;have hown:w.ownsRow 0 e n (.slice none 0 0) 0 []:=⟨by simp,.inl ⟨rfl,rfl⟩⟩;refine aUh ho hT hxv hown rfl hrd (sG hrd.1 Dn) (by simpa[hP] using hbytes) (Nat.zero_le _) (fun A' c' w' h2 h3 h4=>?_);have hE:Ext w w':=h3.mono (fun b _ hb=>by simp[Value.ownBlock] at hb);simp only[Nat.zero_add,List.nil_append] at h2 h4 ⊢
   obtain⟨hg1,hle⟩:=h.new (w':=w') nm none (.slice A' k c') (.arr e n k f') hE
    (
     fun b hb=>by
     have hb':(Value.slice A' k c').ownBlock=some b:=by cases A'<;>exact hb
     refine⟨(h2.lt b hb').2,?_⟩
     rcases h4 with h4|⟨g1,h4,h5,_⟩
     ·rw[hb'] at h4;cases h4
     ·rw[hb'] at h4;cases h4;exact h5)
    (fun hle _=>⟨news,xQ h2,fun i hi=>(Dn i hi).le hle⟩)
   refine hf _ _ _ _ _ hF hg1 (.w (.one (.ow ⟨_,_,rfl⟩ ⟨_,_,iE _ _ _ _,Nat.le_refl _,fun _=>⟨_,_,_,rfl,by omega,?_⟩⟩)))
   cases A' with
   |none=>simp
   |some ad=>simp[Addr.add]
  ·exact hk.elim
theorem Gt{e:TypeId}(h:ZG P e=true):∃ i,P.info? e=some i/\i.zero=some (.int .u8 0):=by
 unfold ZG at h
 split at h
 ·rename_i i hi
  split at h
  ·rename_i hz;exact⟨i,hi,hz⟩
  ·cases h
 ·cases h
theorem aBo(b:ByteArray):Lib.strCells b=b.data.toList.map o9:=by
 unfold Lib.strCells;rfl
theorem Ig{t u ty e:TypeId}(T:zn P t e 1 1)(hz:ZG P e=true)(hu:P.underlying u=some .string){v:Value}{n:Nat}{xs:List Value}{w:World}(hown:w.ownsRow 0 e 1 v n xs)(s:ByteArray)(hb:n+s.size<=140737488355328) :
  ∃ v' w',(Builtin.append_ #[t,u] ty #[v,.string s]).run P w=.ok v' w'/\w'.ownsRow 0 e 1 v' (n+s.size) (xs++s.data.toList.map o9)/\dm (fun k=>v.ownBlock=some k) w w'/\(v'.ownBlock=v.ownBlock\/∃ g,v'.ownBlock=some g/\w.heap.size<=g/\g<w'.heap.size):=by
 obtain⟨ht,⟨i,z,hi,_,hsize,hby,_⟩,_,_⟩:=T;obtain⟨i2,hi2,hz2⟩:=Gt hz;rw[hi] at hi2;cases hi2;obtain⟨v',w',hr,h2,h3,_⟩:=Lib.run_append_own_string (P:=P) w 0 t u ty e i ht hu hi hz2 hsize hby v n xs hown s (by unfold maxLen;omega) hb (Nat.zero_le _);rw[aBo] at h2
 refine⟨v',w',hr,h2,⟨h3.os,h3.tape,h3.output,h3.size,fun k hk hn=>h3.block k hk (fun e=>hn e.symm)⟩,?_⟩
 have hxl:xs.length=n:=by simpa using hown.1
 rcases hown.2 with⟨rfl,rfl⟩|⟨g,cap,cur,rfl,_,hg,hnc,hcm,hcs,htake⟩
 ·by_cases hm:s.size=0
  ·rcases h2.2 with⟨rfl,_⟩|⟨g,cap,cur,rfl,_,hg,_⟩
   ·exact .inl rfl
   ·have hf:=Lib.run_firstCells_string (P:=P) w 1 s;rw[hm] at hf
    have:(Builtin.append_ #[t,u] ty #[.slice none 0 0,.string s]).run P w=.ok (.slice none 0 0) w:=by
     simp[Builtin.append_,run_underlying ht,run_underlying hu,sizeOf,typeInfo,hi,hsize,Builtin.lenOf,hm,hf]
    rw[this] at hr;cases hr
  ·have:=run_append_nil_string (P:=P) w t u ty e i (.int .u8 0) ht hu hi hz2 s (by omega) (by omega) (by rw[hby];omega);rw[this] at hr;cases hr;exact .inr ⟨_,rfl,Nat.le_refl _,(h2.lt _ rfl).2⟩
 ·by_cases hroom:n+s.size<=cap
  ·have:=Lib.run_append_room_string (P:=P) w t u ty e i ht hu hi hsize g n cap cur hg s hroom (by omega);rw[this] at hr;cases hr;exact .inl rfl
  ·have holds:∀ j u,xs[j]?=some u->w.cell? ((⟨g,0,none⟩:Addr).add j)=some u:=hown.cells (g:=g) rfl;have:=Lib.run_append_grow_string (P:=P) w t u ty e i (.int .u8 0) ht hu hi hz2 ⟨g,0,none⟩ n cap xs (by rw[hsize];simpa using hxl) holds s (by omega) (by omega) (by rw[hby];exact growslice_fits (by omega) (by omega));rw[this] at hr;cases hr;exact .inr ⟨_,rfl,Nat.le_refl _,(h2.lt _ rfl).2⟩
theorem bHl{C:Ctx}(l:List UInt8):∀ i,i<l.length->RL C (p_ l i) (((l.map o9).drop (i*1)).take 1):=fun i hi=>by
 have e1:((l.map o9).drop (i*1)).take 1=[o9 (l.getD i 0)]:=by
  apply List.ext_getElem?;intro q;rw[List.getElem?_take,List.getElem?_drop,Nat.mul_one]
  cases q with
  |zero=>rw[if_pos (by omega),Nat.add_zero,qB l i hi];rfl
  |succ q=>rw[if_neg (by omega)];simp
 rw[e1];exact .cons (.lit rfl) .nil
theorem aDi(n:Nat):(E5 n).size=n:=by unfold E5 ByteArray.size;simp
theorem aXd(n:Nat):(Builtin.zeroCells (Value.int .u8 0).cells n)=Array.replicate n (Value.int .u8 0):=by
 show Builtin.zeroCells #[Value.int .u8 0] n=_;unfold Builtin.zeroCells;apply Array.ext
 ·simp
 ·intro i h1 h2;simp[Nat.mod_one]
theorem aGz(n:Nat)(w:World):(Builtin.firstCells 1 n (.string (E5 n))).run P w=.ok (List.replicate n (Value.int .u8 0)).toArray w:=by
 have h:=Lib.run_firstCells_string (P:=P) w 1 (E5 n);rw[aDi] at h;rw[h];congr 1;rw[aBo];unfold E5;simp[o9]
theorem aEa(w:World){t u tn ty e:TypeId}{i:TypeInfo}{kn:IntKind}(ht:P.underlying t=some (.slice e))(hu:P.underlying u=some .string)(htn:P.underlying tn=some (.int kn))(hi:P.info? e=some i)(hz:i.zero=some (.int .u8 0))(hsize:i.size=1)(hby:i.bytes=1)
  (b:Option Addr) (l c n:Nat) (hn:l+n<=140737488355328) :
  (Builtin.append_ #[t,tn] ty #[.slice b l c,.int .i64 (n:Int)]).run P w=(Builtin.append_ #[t,u] ty #[.slice b l c,.string (E5 n)]).run P w:=by
 have hw0:IntKind.i64.wrap 0=0:=by decide
 have hw:IntKind.i64.wrap (n:Int)=n:=by rw[IntKind.wrap_i64];omega
 have hneg:¬((n:Int)<0):=by omega
 have hb:¬(281474976710656<(n:Int)):=by omega
 have hf:=aGz (P:=P) n;have hzc:=aXd n;have hsz:=aDi n
 have hcap:¬(l+n<=c)->¬(281474976710656<Builtin.nextslicecap (l+n) c):=fun h=>by
  have:=growslice_fits (need:=l+n) (old:=c) (bytes:=1) (by omega) (by omega);omega
 have h63:¬(9223372036854775807<(l:Int)+(n:Int)):=by omega
 by_cases hc:l+n<=c
 ·by_cases h0:n=0
  ·subst h0
   have hc':l<=c:=by omega
   simp[hc',Builtin.append_,run_underlying ht,run_underlying htn,run_underlying hu,sizeOf,typeInfo,zeroValue,hi,hz,hsize,hby,asInt,asIntOf,hw0,Builtin.lenOf,hsz,hf]
  ·simp[Builtin.append_,run_underlying ht,run_underlying htn,run_underlying hu,sizeOf,typeInfo,zeroValue,hi,hz,hsize,hby,asInt,asIntOf,hw,hneg,hb,Builtin.lenOf,hsz,hf,hzc,hc,h0]
 ·have hcap:=hcap hc
  by_cases h0:n=0
  ·subst h0
   have hc':¬(l<=c):=by omega
   have hcap':¬(281474976710656<Builtin.nextslicecap l c):=hcap
   have h63':¬(9223372036854775807<(l:Int)):=by omega
   simp[hc',hcap',h63',Builtin.append_,run_underlying ht,run_underlying htn,run_underlying hu,sizeOf,typeInfo,zeroValue,hi,hz,hsize,hby,asInt,asIntOf,hw0,Builtin.lenOf,hsz,hf]
  ·simp[Builtin.append_,run_underlying ht,run_underlying htn,run_underlying hu,sizeOf,typeInfo,zeroValue,hi,hz,hsize,hby,asInt,asIntOf,hw,hneg,hb,Builtin.lenOf,hsz,hf,hzc,hc,h0,hcap,h63]
theorem aWy(h:gm A s a w env){t u u':Nat}{x y:Operand}(ho:o.op=.call { callee:=.builtin .append,args:=#[x,y],argTypes:=#[t,u'] }){e:TypeId}(hT:zn P t e 1 1)(hu:P.underlying u=some .string){p:PV}{b:ByteArray}(hp:RV (aU A w env) p (a.eval x))
  (heq:ZG P e=true->∀ A0 l c,l+b.size<=140737488355328->(Builtin.append_ #[t,u'] o.type #[.slice A0 l c,a.eval y]).run P w=(Builtin.append_ #[t,u] o.type #[.slice A0 l c,.string b]).run P w)
  (hk:(aWz P e p b).ok none s F) (hf:Fin A s a o K F):o.wp P a w K Q:=by
 unfold aWz at hk
 split at hk
 ·rename_i x1 ai n' off len;obtain⟨g,vr,ob,hfo,hk⟩:=hk;have hk2:=dU hk;clear hk;obtain⟨hg,hk⟩:=hk2;obtain⟨hd,hev,hob⟩:=jQ h hfo hg
  cases hb:Nat.beq ai vr<;>cases hb2:Nat.beq 1 n'<;>cases hb3:Nat.beq off 0<;>cases ob<;>simp only[hb,hb2,hb3] at hk<;>try exact hk.elim
  rename_i e' m tot f
  obtain rfl:=gy hb
  obtain rfl:=gy hb2
  obtain rfl:=gy hb3
  cases hb4:Nat.beq 1 m<;>cases hb5:(Nat.beq e e'&&Nat.blt e FM)<;>cases hb7:ZG P e<;>simp only[hb4,hb5,hb7] at hk<;>try exact hk.elim
  rw[Bool.and_eq_true] at hb5;obtain⟨hb5,hb6⟩:=hb5
  obtain rfl:=gy hb4
  obtain rfl:=gy hb5
  obtain⟨⟨Dj,hbytes⟩,hk⟩:=hk;have hF:=hk.2;obtain⟨A0,n0,c0,rfl,hle0,hxv⟩:=hp.yt hev;obtain⟨vs,hown,hel⟩:=hob;have hown:=hown.plain hb6
  have hvx:a.eval x=.slice A0 n0 c0:=by
   rw[hxv];rcases hown.2 with⟨e0,_⟩|⟨g1,cap,cur,e0,_⟩
   ·cases e0
    have:len=0:=by omega
    subst this;rfl
   ·cases e0;simp[add_lit,Dj]
  have hn0:n0=tot:=by
   rcases hown.2 with⟨e0,e1⟩|⟨g1,cap,cur,e0,_⟩
   ·cases e0;have:=hown.1;rw[e1] at this;simp at this;omega
   ·cases e0;rfl
  obtain⟨v',w',hrun,h2,h3,h4⟩:=Ig (w:=w) (ty:=o.type) hT hb7 hu hown b hbytes
  have hrun2:(execOp a.eval o).run P w=.ok (.value v') w':=by
   unfold execOp;simp only[ho,resolve,invoke,builtin,Sem.run_bind,Sem.run_pure,Result.andThen_ok,List.map_toArray,List.map_cons,List.map_nil,hvx];rw[heq hb7 A0 n0 c0 (by omega),hrun];rfl
  obtain⟨A',c',rfl⟩:=nS h2;have hlt:∀ b,(Value.slice A0 n0 c0).ownBlock=some b->b<w.heap.size:=fun b hb=>(hown.lt b hb).2
  obtain⟨hg1,hle⟩:=h.upd x1 none (ai+1) (.slice A' (tot+b.size) c') (.arr e 1 (tot+b.size) (qm tot f (p_ b.data.toList))) (h3.mono fun b _ hb=>⟨ai,_,hev,by cases A0<;>exact hb⟩) (fun v hd' e0=>by rw[hev] at e0;cases e0;exact .inl (Nat.lt_succ_self _))
   (
    fun b1 hb=>by
    have hb':(Value.slice A' (tot+b.size) c').ownBlock=some b1:=by cases A'<;>exact hb
    refine⟨(h2.lt b1 hb').2,?_⟩
    rcases h4 with h4|⟨g1,h4,h5,_⟩
    ·refine .inr ⟨ai,_,hev,?_⟩;rw[hb'] at h4
     cases A0<;>exact h4.symm
    ·rw[hb'] at h4;cases h4;exact .inl h5)
   (fun hle _=>⟨vs++b.data.toList.map o9,xQ (B:=0) ⟨by rw[List.length_append,List.length_map,hown.1,Array.length_toList,Nat.mul_one,Nat.mul_one];rfl,h2.2⟩,aJp hown.1 (fun i hi=>(hel i hi).le hle) (fun i hi=>bHl _ i (by rw[Array.length_toList];exact hi))⟩)
  refine aW hrun2 (hf _ _ _ _ _ hF hg1 (.w (.one (.ow ⟨_,_,rfl⟩ ⟨_,_,iE _ _ _ _,Nat.le_refl _,fun _=>⟨_,_,_,rfl,by omega,?_⟩⟩))))
  cases A' with
  |none=>simp
  |some ad=>simp[Addr.add]
 ·exact hk.elim
theorem bHz(h:gm A s a w env){nm t u:Nat}{x y:Operand}(ho:o.op=.call { callee:=.builtin .append,args:=#[x,y],argTypes:=#[t,u] }){p v:PV}(hp:RV (aU A w env) p (a.eval x))(hv:RV (aU A w env) v (a.eval y))(hk:(aTy P nm t u p v).ok none s F)(hf:Fin A s a o K F):o.wp P a w K Q:=by
 unfold aTy at hk
 split at hk
 ·rename_i e b hsl hu;have hy:=hv.dw;exact aWy h ho (aAg hsl) hu hp (fun _ _ _ _ _=>by rw[hy]) hk hf
 ·rename_i e kn n hsl hu;have hy:=hv.dw
  split at hk
  ·rename_i hstr;obtain⟨h0,hk⟩:=hk;have hT:=aAg hsl;refine aWy h ho hT hstr hp (fun hz A0 l c hl=>?_) hk hf;obtain⟨ht,⟨i,z,hi,_,hsize,hby,_⟩,_,_⟩:=hT;obtain⟨i2,hi2,hz2⟩:=Gt hz;rw[hi] at hi2;cases hi2;have h0':0<=n:=h0;rw[aDi] at hl;have:=aEa (ty:=o.type) w ht hstr hu hi hz2 hsize hby A0 l c n.toNat hl;rw[Int.toNat_of_nonneg h0'] at this;rw[hy,this]
  ·exact hk.elim
 ·exact hk.elim
theorem aSc{x:Option Value}(h:(FB x).ok none s F):∃ v,x=some v/\v.oneCell'=true/\F none (jo v) []:=by
 cases x with
 |none=>exact h.elim
 |some v=>
  unfold FB at h
  cases hv:v.oneCell'<;>simp only[hv] at h
  ·exact h.elim
  ·exact⟨v,rfl,hv,h⟩
theorem aAo{α:Type}{w:World}:∀ {m:Sem α} {v:α},aAp P m=some v->m.run P w=.ok v w:=by
 intro m
 induction m with
 |pure a=>intro v h;cases h;rfl
 |program k ih=>intro v h;exact ih P h
 |_=>intro v h;cases h
theorem P7(h:gm A s a w env){op:UnOp}{t:TypeId}{x:Operand}(ho:o.op=.unOp op t x){v:PV}(hv:RV (aU A w env) v (a.eval x)){u:Value}(hl:isLit v=some u)(hk:(FB (aAp P (Op.unary op u))).ok none s F)(hf:Fin A s a o K F):o.wp P a w K Q:=by
 obtain⟨r,h1,h2,hF⟩:=aSc hk;rw[wF hl] at hv;refine aW (v:=r) (w':=w) ?_ (hf.same h hF (.w (.one (.lit h2))));have hx:a.eval x=u:=RV.dw (show RV _ _ _ from hv);simp[execOp,ho,hx,aAo (w:=w) h1]
theorem aKx{C:Ctx}:∀ {vs:List PV} {l:List Operand} {cs:List PC},Og C a vs l->GN vs=some cs->RL C cs (l.map a.eval)
 |[],[],cs,_,h=>by simp[GN] at h;subst h;exact .nil
 |[],_::_,_,h,_=>h.elim
 |_::_,[],_,h,_=>h.elim
 | v::vs,x::l,cs,⟨hv,hr⟩,h=>by
  unfold GN at h
  cases h1:Py v<;>cases h2:GN vs<;>simp only[h1,h2] at h<;>try (cases h;done)
  cases h;rename_i c r
  have:v=dn c:=by
   unfold Py at h1
   split at h1
   ·cases h1;rfl
   ·cases h1
  subst this;exact .cons (xs:=[a.eval x]) (RV.inv (show RV _ _ _ from hv)) (aKx hr h2)
theorem aSs(h:gm A s a w env){fn:Fn}{first cap:Array Operand}(ho:o.op=.makeFunc fn first cap){fs cs:List PV}{fp cp:List PC}(h1:Og (aU A w env) a fs first.toList)(h2:Og (aU A w env) a cs cap.toList)(h3:GN fs=some fp)(h4:GN cs=some cp)
  (hF:F none (dn (.fn fn fp cp)) []) (hf:Fin A s a o K F):o.wp P a w K Q:=by
 refine aW (v:=.func fn (first.map a.eval) (cap.map a.eval)) (w':=w) ?_ (hf.same h hF (.w (.one ?_)))
 ·simp[execOp,ho,Instr.makeFunc]
 ·have:=R.fn (f:=fn) (aKx h1 h3) (aKx h2 h4)
  have e1:(first.toList.map a.eval).toArray=first.map a.eval:=by apply Array.ext';simp
  have e2:(cap.toList.map a.eval).toArray=cap.map a.eval:=by apply Array.ext';simp
  rw[e1,e2] at this;exact this
theorem nY(h:gm A s a w env){v:PV}{val:Value}(hv:RV (aU A w env) v val){k:List UInt8->M}(hk:(Xh v k).ok none s F):∃ l,Reads w 1 val l.length (l.map o9)/\(k l).ok none s F:=by
 unfold Xh at hk
 split at hk
 ·rename_i n len f
  cases hb:Nat.beq n 1<;>rw[hb] at hk
  ·exact hk.elim
  obtain rfl:=gy hb
  obtain⟨hrow,hk⟩:=hk
  cases hv.inv with
  |sl hr hbb he=>
   refine⟨_,?_,hk⟩
   rw[<-aEb hr.1 he hrow,fP];exact hr
 ·rename_i x ai n off len;obtain⟨g,vr,ob,hfo,hk⟩:=hk;have hk2:=dU hk;clear hk;obtain⟨hg,hk⟩:=hk2;obtain⟨hd,hev,hob⟩:=jQ h hfo hg
  cases hb:Nat.beq ai vr<;>cases hb2:Nat.beq n 1<;>cases hb3:Nat.beq off 0<;>cases ob<;>simp only[hb,hb2,hb3] at hk<;>try exact hk.elim
  rename_i e m tot f
  obtain rfl:=gy hb
  obtain rfl:=gy hb2
  obtain rfl:=gy hb3
  cases hb4:Nat.beq 1 m<;>rw[hb4] at hk
  ·exact hk.elim
  obtain rfl:=gy hb4
  obtain⟨⟨hle,hrow⟩,hk⟩:=hk;obtain⟨A0,n0,c0,rfl,hle0,rfl⟩:=hv.yt hev;obtain⟨vs,hown,hel⟩:=hob;have hrd:=Reads.vg hown
  have hn0:n0=tot:=by
   obtain⟨_,A1,c1,e1,_⟩:=hrd
   cases e1;rfl
  subst hn0;have hsl:=mP (off:=0) (m:=len) (by omega) hrd
  refine⟨_,?_,hk⟩
  have hcell:=aEb (C:=aU A w env) (len:=len) (f:=f) (vs:=(vs.drop (0*1)).take (len*1)) hsl.1 (fun i hi=>by rw[jL vs hi,Nat.zero_add];exact hel i (by omega)) hrow;rw[<-hcell,fP];exact hsl
 ·rename_i x ai off len;obtain⟨g,vr,ob,hfo,hk⟩:=hk;have hk2:=dU hk;clear hk;obtain⟨hg,hk⟩:=hk2;obtain⟨hd,hev,hob⟩:=jQ h hfo hg
  cases hb:Nat.beq ai vr<;>cases ob<;>simp only[hb] at hk<;>try exact hk.elim
  rename_i bt l
  obtain rfl:=gy hb
  cases hs:uo l off with
  |none=>rw[hs] at hk;exact hk.elim
  |some q=>
   obtain⟨m,bs⟩:=q;rw[hs] at hk;dsimp only at hk
   cases hb2:Nat.beq len m<;>rw[hb2] at hk
   ·exact hk.elim
   obtain rfl:=gy hb2
   obtain⟨g1,c,rfl,hc1,hc2,rfl⟩:=hv.JZ hev;obtain⟨g2,cs,e2,hB,hR⟩:=hob;cases e2;obtain⟨k1,k2,k3⟩:=oQ hR hs;have hrg:=jC hB.range off len;rw[Nat.zero_add,k2] at hrg
   refine⟨bs,⟨by simp,_,c,by rw[k1],by rw[k1];exact hc1,hc2,fun hn=>⟨g1,off,rfl,fun j u hj=>hrg j u hj⟩⟩,hk⟩
 ·have:=hv.dw;subst this
  exact⟨[],Reads.nil w 1,hk⟩
 ·exact hk.elim
end
section
variable {P:Program}
theorem aUt{C:Ctx}{t:TypeId}{n off:Nat}{m:List PC}{pw:PW}{cs:Array Value}(hsz:o_ P t=some n)(hw:BO P t m=some pw)(hr:RL C m ((cs.toList.drop off).take n))(_:off+n<=cs.size)(w:World) :
  ∃ val,(part t cs off).run P w=.ok val w/\RW C pw val:=by
 obtain⟨i,hi,hin⟩:=nN hsz;rcases bEe hw hr with⟨hrow,h1⟩|⟨hrow,u,hxs,_,h1⟩
 ·obtain⟨d,hd1,hd2⟩:=aEc hrow
  have hag:(isAgg t).run P w=.ok true w:=by
   unfold isAgg;rw[Sem.run_bind,run_underlying hd1 w]
   cases d<;>simp_all
  have hex:cs.extract off (off+n)=((cs.toList.drop off).take n).toArray:=by
   apply Array.ext';simp[List.extract_eq_take_drop]
  exact⟨_,by simp[part,hag,sizeOf,typeInfo,hi,hin,hex],h1⟩
 ·have hcell:cs[off]?=some u:=by
   have:=congrArg (·[0]?) hxs;simp only[List.getElem?_take,List.getElem?_drop,Nat.add_zero,List.getElem?_cons_zero] at this
   split at this
   ·simpa using this
   ·cases this
  exact⟨u,by simp[part,yT hrow,hcell],h1⟩
theorem aNw{e:TypeId}(hu:P.underlying e=some (.int .u8))(d:Nat)(a b:List UInt8)(w:World):∀ is:List Nat,(∀ i∈is,i<a.length/\i<b.length) ->
  (Op.eqItems (d+1) e 1 (a.map o9).toArray (b.map o9).toArray is).run P w=.ok (is.all fun i=>a.getD i 0==b.getD i 0) w
 |[],_=>by simp[Op.eqItems]
 | i::is,h=>by
  obtain⟨h1,h2⟩:=h i (by simp)
  have hag:(isAgg e).run P w=.ok false w:=by
   unfold isAgg;rw[Sem.run_bind,run_underlying hu w];rfl
  have p1:(part e (a.map o9).toArray (i*1)).run P w=.ok (o9 (a.getD i 0)) w:=by
   have:=qB a i h1;simp[part,hag,zH h1]
  have p2:(part e (b.map o9).toArray (i*1)).run P w=.ok (o9 (b.getD i 0)) w:=by
   simp[part,hag,zH h2]
  have p3:(Op.equalIn (d+1) e (o9 (a.getD i 0)) (o9 (b.getD i 0))).run P w=.ok (a.getD i 0==b.getD i 0) w:=by
   have:=run_equalIn_int (P:=P) w d e .u8 .u8 ((a.getD i 0).toNat:Int) ((b.getD i 0).toNat:Int) hu;rw[show o9 (a.getD i 0)=.int .u8 ((a.getD i 0).toNat:Int) from rfl,show o9 (b.getD i 0)=.int .u8 ((b.getD i 0).toNat:Int) from rfl,this];congr 1;rw[Bool.eq_iff_iff,beq_iff_eq,beq_iff_eq]
   constructor
   ·intro h;exact UInt8.toNat_inj.1 (by omega)
   ·intro h;rw[h]
  rw[Op.eqItems,Sem.run_bind,p1,Result.andThen_ok,Sem.run_bind,p2,Result.andThen_ok,Sem.run_bind,p3,Result.andThen_ok,List.all_cons]
  cases hb:(a.getD i 0==b.getD i 0) with
  |false=>simp
  |true=>simpa using aNw hu d a b w is (fun j hj=>h j (List.mem_cons_of_mem _ hj))
theorem bIc(a b:List UInt8)(n:Nat)(ha:a.length=n)(hb:b.length=n):((List.range n).all fun i=>a.getD i 0==b.getD i 0)=(a==b):=by
 rw[Bool.eq_iff_iff];simp only[List.all_eq_true,List.mem_range,beq_iff_eq]
 constructor
 ·intro h;apply List.ext_getElem (by omega);intro i h1 h2;have:=h i (by omega)
  simpa[zG,zH h1,zH h2] using this
 ·rintro rfl i _;rfl
theorem MV{C:Ctx}:∀ (d:Nat) {t:TypeId} {l m:List PC} {x y:Value} {px py:PW} {r:Bool},ZZ P d t l m=some r->BO P t l=some px->BO P t m=some py->RW C px x->RW C py y->∀ (k:Nat) (w:World),(Op.equalIn (d+(k+1)) t x y).run P w=.ok r w
 |0,t,l,m,x,y,px,py,r,h,_,_,_,_,_,_=>by cases h
 | d + 1,t,l,m,x,y,px,py,r,h,hx,hy,rx,ry,k,w=>by
  have hlx:px.cells=l:=by
   unfold BO at hx
   split at hx
   ·cases hx
   ·cases hx;rfl
   ·split at hx
    ·split at hx
     ·cases hx;rfl
     ·cases hx
    ·cases hx
  have hly:py.cells=m:=by
   unfold BO at hy
   split at hy
   ·cases hy
   ·cases hy;rfl
   ·split at hy
    ·split at hy
     ·cases hy;rfl
     ·cases hy
    ·cases hy
  have one:∀ {c:PC} {v:Value} {q:PW},iF P t=some false->BO P t [c]=some q->RW C q v->R C c [v]:=by
   intro c v q hi hw hr;unfold BO at hw;rw[hi] at hw;dsimp only at hw
   split at hw
   ·cases hw;cases hr with|one h=>exact h
   ·cases hw
  rw[show d+1+(k+1)=(d+(k+1))+1 from by omega];unfold ZZ at h
  cases hu:P.underlying t with
  |none=>rw[hu] at h;cases h
  | some dd=>
   rw[hu] at h
   cases dd<;>try (cases h;done)
   ·
    dsimp only at h
    split at h
    ·cases h
     have hi:iF P t=some false:=by unfold iF;rw[hu]
     have e1:=one hi hx rx;have e2:=one hi hy ry
     cases e1;cases e2
     exact run_equalIn_bool' w _ t _ _ hu
    ·cases h
   ·
    dsimp only at h
    split at h
    ·split at h
     ·rename_i hk;cases h;subst hk
      have hi:iF P t=some false:=by unfold iF;rw[hu]
      have e1:=one hi hx rx;have e2:=one hi hy ry
      cases e1;cases e2
      exact run_equalIn_int w _ t _ _ _ _ hu
     ·cases h
    ·cases h
   ·
    dsimp only at h
    split at h
    ·cases h
     have hi:iF P t=some false:=by unfold iF;rw[hu]
     have e1:=one hi hx rx;have e2:=one hi hy ry
     cases e1;cases e2
     exact run_equalIn_string w _ t _ _ hu
    ·cases h
   ·
    rename_i n e;dsimp only at h
    split at h
    ·rename_i n1 a n2 b hue hse
     cases h1:Nat.beq n n1<;>cases h2:Nat.beq n n2<;>simp only[h1,h2] at h<;>try (cases h;done)
     cases h
     obtain rfl:=gy h1
     obtain rfl:=gy h2
     have hi:iF P t=some true:=by unfold iF;rw[hu]
     unfold BO at hx hy;rw[hi] at hx hy
     cases hx;cases hy
     cases rx with
     | @agg _ xs hrx=>
      cases ry with
      |@agg _ ys hry=>
       obtain⟨g1,g2⟩:=hrx.Zc;obtain⟨g3,g4⟩:=hry.Zc
       have exs:xs=(a.map o9).toArray:=by apply Array.ext';simpa using g2
       have eys:ys=(b.map o9).toArray:=by apply Array.ext';simpa using g4
       obtain⟨ie,hie,FV⟩:=nN hse
       have hce:P.cellsOf e=1:=by unfold Program.cellsOf;rw[hie];simpa using FV
       rw[run_equalIn_array (P:=P) w (d+(k+1)) xs ys hu hie,hce,exs,eys,show d+(k+1)=(d+k)+1 from by omega,aNw hue (d+k) a b w _ (fun i hm=>by rw[List.mem_range] at hm;omega),bIc a b n g1 g3]
    ·cases h
   ·
    rename_i fs;dsimp only at h
    have hst:P.stoodInHeld t=false:=by
     cases hst:P.stoodInHeld t with
     |false=>rfl
     |true=>rw[hst] at h;cases h
    rw[hst] at h;dsimp only at h
    have hi:iF P t=some true:=by unfold iF;rw[hu]
    unfold BO at hx hy;rw[hi] at hx hy
    cases hx;cases hy
    cases rx with
    | @agg _ xs hrx=>
     cases ry with
     | @agg _ ys hry=>
      have hfo:P.fieldsOf t=fs:=by unfold Program.fieldsOf;rw[hu]
      rw[run_equalIn_struct w (d+(k+1)) t xs ys (by rw[hfo];exact hu) hst,hfo];clear hfo hu;generalize fs.toList=fl at h
      induction fl generalizing r with
      |nil=>cases h;rfl
      |cons f fl ih=>
       rw[List.foldr_cons] at h;generalize hacc:List.foldr _ _ fl=acc at h ih
       cases acc<;>cases hnm:(f.name != "_")<;>cases hsz:o_ P f.type<;>simp only[hnm,hsz] at h<;>try (cases h;done)
       rename_i r0 n
       cases hs1:qL l f.offset n<;>cases hs2:qL m f.offset n<;>simp only[hs1,hs2] at h<;>try (cases h;done)
       rename_i x1 y1
       cases hm1:BO P f.type x1<;>cases hm2:BO P f.type y1<;>cases hq:ZZ P d f.type x1 y1<;>simp only[hm1,hm2,hq] at h<;>try (cases h;done)
       rename_i p1 p2 q;cases h;obtain⟨k1,k2⟩:=hrx.sub hs1;obtain⟨k3,k4⟩:=hry.sub hs2;obtain⟨v1,e1,w1⟩:=aUt hsz hm1 k1 (by simpa using k2) w;obtain⟨v2,e2,w2⟩:=aUt hsz hm2 k3 (by simpa using k4) w;have e3:=MV d hq hm1 hm2 w1 w2 k w;have e4:=ih r0 rfl
       have hne:f.name ≠ "_" := by simpa using hnm
       rw[Op.eqFields,if_pos hne,Sem.run_bind,e1,Result.andThen_ok,Sem.run_bind,e2,Result.andThen_ok,Sem.run_bind,e3,Result.andThen_ok]
       cases q with
       |false=>simp
       |true=>simpa using e4
end
section
variable {P:Program} {A:kz} {s:St} {a:Act} {w:World} {env:Env} {o:Oper} {K:Act->World->Prop} {Q:Exit->Act->World->Prop} {F:Option Bool->PV->Wr->Prop}
theorem bytesRow_at(b:ByteArray)(cap j:Nat)(hj:j<b.size):(bytesRow b cap)[j]?=some (o9 (b.data.toList.getD j 0)):=by
 have hsz:b.data.size=b.size:=rfl;unfold bytesRow;rw[Array.getElem?_append_left (by simpa using by omega)];rw[Array.getElem?_map,Array.getElem?_eq_getElem (by omega),zG,zH (by simpa using by omega)];rfl
theorem aZv(h:gm A s a w env){own:Bool}{nm:Nat}{t t':TypeId}{x:Operand}(ho:o.op=.convert t t' x){v:PV}(hv:RV (aU A w env) v (a.eval x))(hk:(Nc P own nm t t' v).ok none s F)(hf:Fin A s a o K F):o.wp P a w K Q:=by
 unfold Nc at hk
 split at hk
 ·rename_i e hs hd
  split at hk
  ·rename_i b he;cases own
   case true=>
    obtain⟨hb,hF⟩:=hk;have hb':b.size<=9223372036854775807:=hb;have hx:a.eval x=.string b:=hv.dw;have hrun:=run_bytes_of_string (P:=P) w t t' e b hs hd he
    have hsz:b.data.toList.length=b.size:=by rw[Array.length_toList];rfl
    have hge:=grownCap_ge w b.size 0 e;have hE:Ext w (w.drew.alloc (.cells (bytesRow b (grownCap w b.size 0 e)) e ((bytesRow b (grownCap w b.size 0 e)).size,(bytesRow b (grownCap w b.size 0 e)).size+1))):=((Ext.refl w).drew.alloc _)
    have hrow:(bytesRow b (grownCap w b.size 0 e)).size=grownCap w b.size 0 e:=by
     have hds:b.data.size=b.size:=rfl;simp only[bytesRow,Array.size_append,Array.size_map,Array.size_replicate];omega
    obtain⟨env',g1,g2⟩:=h.Jg nm 1 b.size (grownCap w b.size 0 e) (f:=p_ b.data.toList) (cs:=bytesRow b (grownCap w b.size 0 e)) (xs:=b.data.toList.map o9)
     (by rw[List.length_map,hsz,Nat.mul_one]) hge (grownCap_le_maxLen w b.size 0 e (by unfold maxLen;omega)) (by rw[hrow,Nat.mul_one])
     (
      by
      apply List.ext_getElem?;intro j;rw[List.getElem?_take,Nat.mul_one]
      by_cases hj:j<b.size
      ·rw[if_pos hj,Array.getElem?_toList,bytesRow_at b _ j hj,qB _ j (by omega)]
      ·rw[if_neg hj,List.getElem?_eq_none (by rw[List.length_map,hsz];omega)])
     (fun i hi=>nZ _ _ i (by omega)) hE (heap_alloc_new w.drew _) (Nat.le_refl _)
    exact aW (v:=.slice (some ⟨w.heap.size,0,none⟩) b.size (grownCap w b.size 0 e)) (by simp[execOp,ho,hx,hrun]) (hf _ _ _ _ _ hF g1 g2)
   obtain⟨hb,hF⟩:=hk;have hb':b.size<=9223372036854775807:=hb;have hx:a.eval x=.string b:=hv.dw;have hrun:=run_bytes_of_string (P:=P) w t t' e b hs hd he
   have hsz:b.data.toList.length=b.size:=by rw[Array.length_toList];rfl
   have hE:Ext w (w.drew.alloc (.cells (bytesRow b (grownCap w b.size 0 e)) e ((bytesRow b (grownCap w b.size 0 e)).size,(bytesRow b (grownCap w b.size 0 e)).size+1))):=((Ext.refl w).drew.alloc _);refine aW (v:=.slice (some ⟨w.heap.size,0,none⟩) b.size (grownCap w b.size 0 e)) (by simp[execOp,ho,hx,hrun]) (hf _ _ _ _ env hF (h.ext hE) (.w (.one (.sl (vs:=b.data.toList.map o9) ⟨by rw[List.length_map,hsz,Nat.mul_one],_,_,rfl,grownCap_ge w b.size 0 e,grownCap_le_maxLen w b.size 0 e (by unfold maxLen;omega),fun hn=>⟨w.heap.size,0,rfl,fun j u hj=>?_⟩⟩ (fun g hg _=>?_) (fun i hi=>nZ _ _ i (by omega))))))
   ·have hjl:j<b.size:=by
     have:=(List.getElem?_eq_some_iff.1 hj).1
     simpa[hsz] using this
    rw[Nat.zero_add];have hc:=cell_of_row (w.drew.alloc (.cells (bytesRow b (grownCap w b.size 0 e)) e ((bytesRow b (grownCap w b.size 0 e)).size,(bytesRow b (grownCap w b.size 0 e)).size+1))) w.heap.size j _ _ _ (heap_alloc_new w.drew _);refine hc.trans ?_;rw[bytesRow_at b _ j hjl,<-hj,qB _ j (by omega)]
   ·cases hg
    refine⟨⟨.inr h.gu.size,fun x ai hd he hbl=>?_⟩,by simp[aU]⟩
    exact absurd (h.live x ai hd _ he hbl).1 (Nat.lt_irrefl _)
  ·exact hk.elim
 ·rename_i e hs hd
  split at hk
  ·rename_i he;obtain⟨l,hr,hF⟩:=nY h hv hk;obtain⟨h1,A1,c,e1,h2,h3,h4⟩:=hr
   have hrun:(convert t t' (a.eval x)).run P w=.ok (.string ⟨l.toArray⟩) w:=by
    rw[e1]
    cases A1 with
    | none=>
     have hl0:l=[]:=by
      cases l with
      |nil=>rfl
      |cons b l=>
       obtain⟨b',o',e2,_⟩:=h4 (by simp);cases e2
     subst hl0;rw[run_convert_bytes_string w t t' e _ _ c hs he hd];simp[Conv.bytesToString]
     rfl
    |some ad=>
     refine run_convert_bytes_back w t t' e ad c l hs he hd (fun j hj=>?_);obtain⟨b',o',e2,hcell⟩:=h4 (by omega);cases e2;rw[add_lit];exact hcell j _ (by rw[List.getElem?_map,zH hj];rfl)
   exact aW (v:=.string ⟨l.toArray⟩) (by simp[execOp,ho,hrun]) (hf.same h hF (.w (.one (.lit rfl))))
  ·exact hk.elim
 ·split at hk
  ·rename_i u hl;obtain⟨r,h1,h2,hF⟩:=aSc hk;rw[wF hl] at hv;refine aW (v:=r) (w':=w) ?_ (hf.same h hF (.w (.one (.lit h2))));have hx:a.eval x=u:=RV.dw (show RV _ _ _ from hv);simp[execOp,ho,hx,aAo (w:=w) h1]
  ·exact hk.elim
theorem aOx(z:Array Value)(m i n:Nat)(hz:z.size=n)(h:(i+1)*n<=m):((madeCells z m).toList.drop (i*n)).take n=z.toList:=by
 rw[Nat.add_mul,Nat.one_mul] at h;apply List.ext_getElem?;intro q;rw[List.getElem?_take,List.getElem?_drop]
 by_cases hq:q<n
 ·rw[if_pos hq]
  have e1:(madeCells z m).toList[i*n+q]?=some z[(i*n+q) % z.size]! := by
   unfold madeCells;rw[Array.getElem?_toList,Array.getElem?_map,Array.getElem?_range];simp;omega
  rw[e1,hz,Nat.mul_comm,Nat.mul_add_mod,Nat.mod_eq_of_lt hq,Array.getElem?_toList,Array.getElem?_eq_getElem (by omega),getElem!_pos z q (by omega)]
 ·rw[if_neg hq,List.getElem?_eq_none (by simp;omega)]
theorem Qc(h:gm A s a w env){nm:Nat}{t:TypeId}{x y:Operand}(ho:o.op=.makeSlice t x y){lv cv:PV}(hl:RV (aU A w env) lv (a.eval x))(hc:RV (aU A w env) cv (a.eval y))(hk:(KP P nm t lv cv).ok none s F)(hf:Fin A s a o K F):o.wp P a w K Q:=by
 unfold KP at hk
 split at hk
 ·rename_i e n by' k1 l k2 c hsl hlx hly
  split at hk
  ·rename_i z0 hz0;obtain⟨⟨h0,h1,h2⟩,hF⟩:=hk;obtain⟨hu,⟨i,z,hi,hz,hsz,hby,hzs⟩,hpos,hbp⟩:=aAg hsl;obtain⟨i',z',hi',aDE,hr⟩:=aDg (C:=aU A w env) hz0;rw[hi] at hi'
   cases hi'
   rw[hz] at aDE;cases aDE;rw[wF hlx] at hl;rw[wF hly] at hc;have hx:a.eval x=.int k1 l:=RV.dw (show RV _ _ _ from hl);have hy:a.eval y=.int k2 c:=RV.dw (show RV _ _ _ from hc)
   have hcb:c<=(by':Int)*c:=by
    have:(1:Int)*c<=(by':Int)*c:=Int.mul_le_mul_of_nonneg_right (by omega) (by omega);omega
   have hrun:=run_make (P:=P) w t e i z hu hi hz k1 k2 l c h0 h1 (by rw[hby];omega) (by omega);have hlc:(l.toNat)*n<=c.toNat*n:=Nat.mul_le_mul_right n (by omega)
   have hel:∀ j,j<l.toNat->RL (aU A w env) ((fun _=>z0) j) ((((madeCells z.cells (c.toNat*i.size)).toList.take (l.toNat*n)).drop (j*n)).take n):=by
    intro j hj;have hj1:(j+1)*n<=l.toNat*n:=Nat.mul_le_mul_right n hj
    have e1:(((madeCells z.cells (c.toNat*i.size)).toList.take (l.toNat*n)).drop (j*n)).take n=((madeCells z.cells (c.toNat*i.size)).toList.drop (j*n)).take n:=by
     rw[Nat.add_mul,Nat.one_mul] at hj1;rw[List.drop_take,List.take_take,Nat.min_eq_left (by omega)]
    rw[e1,aOx z.cells _ j n (by rw[hzs]) (by rw[hsz];omega)];exact hr
   obtain⟨env',g1,g2⟩:=h.Ef nm e n l.toNat c.toNat (f:=fun _=>z0) (cs:=madeCells z.cells (c.toNat*i.size)) (xs:=(madeCells z.cells (c.toNat*i.size)).toList.take (l.toNat*n))
    (by rw[List.length_take,Array.length_toList,size_madeCells,hsz];omega) (by omega) (by unfold maxLen;omega) (by rw[size_madeCells,hsz]) rfl hel (w':=w.alloc (.cells (madeCells z.cells (c.toNat*i.size)) e)) ((Ext.refl w).alloc _) (heap_alloc_new w _)
   exact aW (v:=.slice (some ⟨w.heap.size,0,none⟩) l.toNat c.toNat) (by simp[execOp,ho,hx,hy,hrun]) (hf _ _ _ _ _ hF g1 g2)
  ·exact hk.elim
 ·exact hk.elim
theorem bHb{C:Ctx}{n tot k:Nat}{f f':Nat->List PC}{vs news:List Value}(hk:k<=tot)(hl:vs.length=tot*n)(hn:news.length=k*n)(h1:∀ i,i<tot->RL C (f i) ((vs.drop (i*n)).take n))(h2:∀ i,i<k->RL C (f' i) ((news.drop (i*n)).take n)) :
  ∀ i,i<tot->RL C (XF k f f' i) (((over vs 0 news).drop (i*n)).take n):=by
 intro i hi;have hm:k*n<=tot*n:=Nat.mul_le_mul_right n hk;unfold XF
 by_cases h:i<k
 ·rw[if_pos h];have hm2:(i+1)*n<=k*n:=Nat.mul_le_mul_right n h;rw[Nat.add_mul,Nat.one_mul] at hm2
  have e1:((over vs 0 news).drop (i*n)).take n=(news.drop (i*n)).take n:=by
   unfold over;rw[List.take_zero,List.nil_append,List.drop_append_of_le_length (by omega),List.take_append_of_le_length (by simp;omega)]
  rw[e1];exact h2 i h
 ·rw[if_neg h,uU (by omega) (.inl (by
   have:k*n<=i*n:=Nat.mul_le_mul_right n (by omega)
   omega))]
  exact h1 i hi
theorem SK (h:gm A s a w env) {t:Nat} {x y:Operand} (ho:o.op=.call { callee:=.builtin .copy,args:=#[x,y],argTypes:=#[t,t] }) {p v:PV} (hp:RV (aU A w env) p (a.eval x)) (hv:RV (aU A w env) v (a.eval y)) (hk:(Na P t p v).ok none s F) (hf:Fin A s a o K F):o.wp P a w K Q:=by
 unfold Na at hk
 split at hk
 ·rename_i e n by' x1 ai n' off len hsl
  obtain⟨hu,⟨ie,z,hie,hz,hsz,hby,hzs⟩,hpos,hbp⟩:=aAg hsl;obtain⟨g,vr,ob,hfo,hk⟩:=hk;have hk2:=dU hk;clear hk;obtain⟨hg,hk⟩:=hk2;obtain⟨hd,hev,hob⟩:=jQ h hfo hg
  cases hb:Nat.beq ai vr<;>cases hb2:Nat.beq n n'<;>cases hb3:Nat.beq off 0<;>cases ob<;>simp only[hb,hb2,hb3] at hk<;>try exact hk.elim
  rename_i e' m tot f
  obtain rfl:=gy hb
  obtain rfl:=gy hb2
  obtain rfl:=gy hb3
  cases hb4:Nat.beq n m<;>cases hb5:(Nat.beq e e'&&Nat.blt e FM)<;>simp only[hb4,hb5] at hk<;>try exact hk.elim
  rw[Bool.and_eq_true] at hb5;obtain⟨hb5,hb6⟩:=hb5
  obtain rfl:=gy hb4
  obtain rfl:=gy hb5
  obtain⟨htot,hk⟩:=hk;have Dj:len=tot:=htot;have hk2:=src_ok h hv hk;clear hk;obtain⟨k,f',news,hrd,Dn,hk⟩:=hk2;have hF:=hk.2;obtain⟨A0,n0,c0,rfl,hle0,hxv⟩:=hp.yt hev;obtain⟨vs,hown,hel⟩:=hob;have hown:=hown.plain hb6;obtain⟨g1,A1,c1,e1,g2,g3,g4⟩:=hrd;have hkm:min k tot*n<=k*n:=Nat.mul_le_mul_right n (by omega);have hkt:min k tot*n<=tot*n:=Nat.mul_le_mul_right n (by omega);rcases hown.2 with⟨e0,ht0⟩|⟨g',cap,cur,e0,hbs,hgg,hnc,hcm,hcs,htake⟩
  ·
   cases e0
   have hl0:len=0:=by omega
   have ht:tot=0:=by omega
   subst hl0
   have WC:a.eval x=.slice none 0 0:=by rw[hxv];rfl
   have hrun:(Builtin.copy_ #[t,t] o.type #[a.eval x,a.eval y]).run P w=.ok (goInt 0) w:=by
    rw[WC,e1]
    cases A1 with
    |none=>simp[Builtin.copy_,run_underlying hu,Builtin.lenOf,Builtin.firstCells,sizeOf,typeInfo,hie]
    |some ad=>simp[Builtin.copy_,run_underlying hu,Builtin.lenOf,Builtin.firstCells,sizeOf,typeInfo,hie,loadCells,loadCellsFrom]
   have hm0:min k tot=0:=by omega
   obtain⟨hg1,hle⟩:=h.upd x1 none ai (.slice none 0 0) (.arr e n tot (XF (min k tot) f f')) (dm.refl _ _) (fun v hd' e0=>by rw[hev] at e0;cases e0;exact .inr ⟨rfl,rfl⟩) (fun b hb=>by cases hb) (fun hle _=>⟨vs,by rw[ht] at hown ⊢;exact xQ hown,fun i hi=>by omega⟩);refine aW (v:=.int .i64 0) (w':=w) ?_ (hf _ _ _ _ _ hF hg1 (.w (.one ?_)))
   ·simp only[execOp,ho,resolve,invoke,builtin,Sem.run_bind,Sem.run_pure,Result.andThen_ok,List.map_toArray,List.map_cons,List.map_nil,hrun];rfl
   ·rw[hm0];exact .lit rfl
  ·cases e0
   have WC:a.eval x=.slice (some ⟨g',0,none⟩) tot c0:=by
    rw[hxv];simp[add_lit,Dj]
   have hnl:(news.take (min k tot*n)).length=min k tot*n:=by rw[List.length_take];omega
   have hB:au w g' e cur:=hgg;have hcap:tot*n<=c0*n:=Nat.mul_le_mul_right n hnc
   have hload:(Builtin.firstCells n (min k tot) (a.eval y)).run P w=.ok (news.take (min k tot*n)).toArray w:=by
    rw[e1]
    cases A1 with
    | none=>
     have hk0:k=0:=by
      rcases Nat.eq_zero_or_pos k with h0|h0
      ·exact h0
      ·obtain⟨b,o1,e2,_⟩:=g4 h0;cases e2
     subst hk0
     simp[Builtin.firstCells]
    | some ad=>
     have hcells:∀ j u,(news.take (min k tot*n))[j]?=some u->w.cell? (ad.add j)=some u:=by
      intro j u hj;rw[List.getElem?_take] at hj
      split at hj
      ·rename_i hlt
       obtain⟨b,o1,e2,hc⟩:=g4 (by
        rcases Nat.eq_zero_or_pos k with h0|h0
        ·subst h0;simp at hlt
        ·exact h0)
       cases e2;rw[add_lit];exact hc j u hj
      ·cases hj
     have:=run_loadCells_list (P:=P) w ad (news.take (min k tot*n)) hcells;rw[hnl] at this;exact this
   have LG:=sG g1 Dn
   have WG:(storeCells ⟨g',0,none⟩ (news.take (min k tot*n))).run P w=.ok () (w.setCells g' 0 (news.take (min k tot*n))):=by
    have hth:=uF hB 0 (tot*n) (by omega);have:=run_storeCells_cells (P:=P) g' 0 (news.take (min k tot*n)) 0 w (fun j hj=>by have:=(hth (0+j) (by omega)).1;simpa using this) (fun j hj=>by simpa using hB.frozen _) (fun v hv=>LG v (List.mem_of_mem_take hv))
    simpa using this
   have hrun:(Builtin.copy_ #[t,t] o.type #[a.eval x,a.eval y]).run P w=.ok (goInt (min k tot:Nat)) (w.setCells g' 0 (news.take (min k tot*n))):=by
    have hlen:(Builtin.lenOf (a.eval y)).run P w=.ok k w:=by rw[e1];rfl
    rw[WC];simp only[Builtin.copy_];simp[run_underlying hu,hlen,sizeOf,typeInfo,hie,hsz,show Nat.min k tot=min k tot from rfl,hload,WG]
   have hc:=(fZ g' (news.take (min k tot*n)) 0 w).1;have hsz2:=(fZ g' (news.take (min k tot*n)) 0 w).2
   have hnew:(w.setCells g' 0 (news.take (min k tot*n))).ownsRow 0 e n (.slice (some ⟨g',0,none⟩) tot c0) tot (over vs 0 (news.take (min k tot*n))):=by
    refine⟨by rw[mX (by rw[hnl,hown.1];omega)];exact hown.1,.inr ⟨g',c0,(over cur.toList 0 (news.take (min k tot*n))).toArray,rfl,hbs,aWs hB _ _ (by omega),hnc,hcm,?_,?_⟩⟩
    ·rw[List.size_toArray,mX (by rw[hnl,Array.length_toList];omega),Array.length_toList,hcs]
    ·rw[<-htake];exact aIj (by omega) (by rw[Array.length_toList];omega)
   obtain⟨LK,hle⟩:=h.upd x1 none ai (.slice (some ⟨g',0,none⟩) tot c0) (.arr e n tot (XF (min k tot) f f')) (hc.mono fun b _ e=>⟨ai,_,hev,by rw[e];rfl⟩) (fun v hd e=>by rw[hev] at e;cases e;exact .inr ⟨rfl,rfl⟩) (fun b' hb'=>by cases hb';exact⟨by rw[hsz2];exact hB.lt,.inr ⟨ai,_,hev,rfl⟩⟩)
    (
     fun hle _=>⟨_,xQ hnew,bHb (Nat.min_le_right _ _) hown.1 hnl (fun i hi=>(hel i hi).le hle) (fun i hi=>by
     have hi1:(i+1)*n<=min k tot*n:=Nat.mul_le_mul_right n hi;rw[Nat.add_mul,Nat.one_mul] at hi1;rw[List.drop_take,List.take_take,Nat.min_eq_left (show n<=min k tot*n-i*n by omega)]
     exact (Dn i (by omega)).le hle)⟩)
   refine aW (v:=.int .i64 (min k tot:Nat)) (w':=w.setCells g' 0 (news.take (min k tot*n))) ?_ (hf _ _ _ _ _ hF LK (.w (.one (.lit rfl))));simp only[execOp,ho,resolve,invoke,builtin,Sem.run_bind,Sem.run_pure,Result.andThen_ok,List.map_toArray,List.map_cons,List.map_nil,hrun];rfl
 ·exact hk.elim
end
def mg(C:Ctx):List PV->List Value->Prop
 |[],[]=>True
 |v::vs,x::l=>RV C v x/\mg C vs l
 |_,_=>False
theorem mg.append{C:Ctx}:∀ {vs:List PV} {l:List Value} {vs':List PV} {l':List Value},mg C vs l->mg C vs' l'->mg C (vs++vs') (l++l')
 |[],[],_,_,_,h=>h
 |[],_::_,_,_,h,_=>h.elim
 |_::_,[],_,_,h,_=>h.elim
 |_::_,_::_,_,_,⟨h1,h2⟩,h=>⟨h1,h2.append h⟩
theorem mg.EG{C:Ctx}:∀ {cs:List PC} {l:List Value},RL C cs l->(cs.all fun c=>Nat.beq c.width 1)=true->mg C (cs.map dn) l
 |[],l,h,_=>by cases h;exact trivial
 | c::cs,l,h,hw=>by
  rw[List.all_cons,Bool.and_eq_true] at hw
  cases h with
  |@cons _ _ _ xs ys h1 h2=>
   have hl:=h1.width;rw[gy hw.1] at hl
   match xs,hl,h1 with
   |[v],_,h1=>exact⟨.w (.one h1),mg.EG h2 hw.2⟩
theorem Og.vals{C:Ctx}{a:Act}:∀ {vs:List PV} {l:List Operand},Og C a vs l->mg C vs (l.map a.eval)
 |[],[],_=>trivial
 |[],_::_,h=>h.elim
 |_::_,[],h=>h.elim
 |_::_,_::_,⟨h1,h2⟩=>⟨h1,h2.vals⟩
def DF(A:kz)(chain:List PanicEntry)(w:World):Prop:=∃ l,A.di l/\A.dv.O l=none/\A.dv.pan l A.X0 w chain/\dm A.S A.w0 w
def Bv(A:kz)(Q:Exit->Act->World->Prop):Prop:=∀ chain a w,a.defers=A.ds->DF A chain w->Q (.panic chain) a w
def sU(e:Int):Acc:=⟨-1,e,0,aS⟩
def aFr(T:TypeId)(e:Int):List PanicEntry:=[{ v:=.iface T (.agg #[.int .i64 e]),recovered:=false }]
def Zd(T:TypeId)(O:List Acc->Option je):Prop:=O []=some ⟨(T:Int)+1,aS⟩/\∀ l e,O (l++[sU e])=none
structure ng(P:Program)(D:Dv)(di:List Acc->Prop):Prop where
 step:∀ l X w,D.inv l X w->∃ F caps,D.hd=.func (.func F) #[] caps/\(∀ args w,(callFunc F args).run P w=.ok (.enter F args) w) /\
  ∀ c:Acc,c.kind ≠ -1->(D.O (l++[c])=none->di (l++[c]))->Calls P F (#[c.v]++caps) w fun e w'=>dm D.S w w'/\((∃ r,D.O (l++[c])=some r/\e=.returned r.v/\D.inv (l++[c]) X w')\/(∃ chain,D.O (l++[c])=none/\e=.panicked chain/\D.pan (l++[c]) X w' chain))
 fail:∀ T,Zd T D.O->∀ l X w,D.inv l X w->D.O l≠none/\∀ e,D.pan (l++[sU e]) X w (aFr T e)
theorem ng.mono{P:Program}{D:Dv}{di Cf:List Acc->Prop}(h:ng P D di)(hs:∀ l,Cf l->D.O l=none->di l):ng P D Cf:=⟨fun l X w hi=>by
 obtain⟨F,caps,h1,h2,h3⟩:=h.step l X w hi
 exact⟨F,caps,h1,h2,fun c h0 hc=>h3 c h0 fun hO=>hs _ (hc hO) hO⟩,h.fail⟩
structure mi(P:Program)(I:World->Prop)(A:kz):Prop where
 mem:∀ w,dm A.S A.w0 w->I w
 sub:∀ b,A.dv.S b->A.S b
 old:∀ b,A.S b->b<A.w0.heap.size/\¬A.ok0 b
 step:ng P A.dv A.di
 dvh:∀ l X w,A.dv.inv l X w->A.ext dx=some A.dv.hd
 Bg:∀ l X Y w w' chain,A.dv.pan l X w chain->dm X w w'->(∀ b,Y b->X b)->A.dv.pan l Y w' chain
structure aj(P:Program)(I:World->Prop)(f:Nat)(sp:Spec):Prop where
 enters:∀ args w,(callFunc f args).run P w=.ok (.enter f args) w
 calls:∀ (A:kz) (s:St) (a:Act) (w:World) (env:Env) (nm:Nat) (uq:List PV) (vs:List Value) (F:Option Bool->PV->Wr->Prop),gm A s a w env->mi P I A->mg (aU A w env) uq vs->(sp nm uq).ok none s F ->
  Calls P f vs.toArray w fun e w'=>(∃ v wr val env',e=.returned val/\F none v wr/\gm A { s with o:=wr++s.o } a w' env'/\RV (aU A w' env') v val)\/(∃ chain,e=.panicked chain/\DF A chain w')
def aGr(P:Program)(I:World->Prop)(G:Specs):Prop:=∀ f sp,G f=some sp->aj P I f sp
section
variable {P:Program} {I:World->Prop} {G:Specs} {A:kz} {s:St} {a:Act} {w:World} {env:Env} {o:Oper} {K:Act->World->Prop} {Q:Exit->Act->World->Prop} {F:Option Bool->PV->Wr->Prop}
theorem RV.N7{C:Ctx}{v:Value}(h:RV C (.w (.one .dv)) v):At C dx 0 (fun hd=>v=hd):=by cases h.inv with|dv _ h=>exact h
theorem bCj{C:Ctx}:∀ {l:List Value},(l.all (·.oneCell'))=true->RL C (l.map PC.lit) l
 |[],_=>.nil
 |v::l,h=>by
  rw[List.all_cons,Bool.and_eq_true] at h;exact .cons (xs:=[v]) (.lit h.1) (bCj h.2)
theorem aPa{C:Ctx}:∀ {l:List PC} {vs xs:List Value},aPb l=some vs->RL C l xs->xs=vs
 |[],_,_,h,hr=>by cases h;cases hr;rfl
 | c::l,_,_,h,hr=>by
  cases c<;>simp only[aPb] at h<;>try (cases h;done)
  rename_i v
  cases hq:aPb l with
  |none=>rw[hq] at h;cases h
  |some r=>
   rw[hq] at h;cases h
   cases hr with
   |cons h1 h2=>cases h1;rw[aPa hq h2];rfl
theorem aOw(h:gm A s a w env){fn:Fn}{first cap:Array Operand}(ho:o.op=.makeFunc fn first cap){fs cs:List PV}{l:List Value}(h1:Og (aU A w env) a fs first.toList)(h2:Og (aU A w env) a cs cap.toList)(h3:bEr fs=some l)(h4:GN cs=some [])
  (hF:F none (jo (.func fn #[.agg l.toArray] #[])) []) (hf:Fin A s a o K F):o.wp P a w K Q:=by
 have hc:cap=#[]:=by
  cases cs with
  |nil=>
   cases hl:cap.toList with
   |nil=>apply Array.ext';simpa using hl
   |cons y ys=>rw[hl] at h2;exact h2.elim
  |cons v l=>
   unfold GN at h4
   cases h5:Py v<;>cases h6:GN l<;>simp only[h5,h6] at h4<;>cases h4
 unfold bEr at h3
 split at h3
 ·rename_i pl
  match hl:first.toList,h1 with
  | [y],h1=>
   obtain⟨hv,_⟩:=h1
   have e1:first=#[y]:=by apply Array.ext';simpa using hl
   generalize hq:a.eval y=q at hv
   cases hv with
   | w hv=>cases hv with
    | @agg _ c hv=>
     have e2:c=l.toArray:=by apply Array.ext';simpa using aPa h3 hv
     refine aW (v:=.func fn (first.map a.eval) (cap.map a.eval)) (w':=w) ?_ (hf.same h hF (.w (.one ?_)))
     ·simp[execOp,ho,Instr.makeFunc]
     ·rw[e1,hc];simp only[List.map_toArray,List.map_cons,List.map_nil,hq,e2];exact .lit rfl
 ·cases h3
theorem SY (hG:aGr P I G) (hI:mi P I A) (hQ:Bv A Q) (h:gm A s a w env) {nm:Nat} {f:Operand} {args:Array Operand} {E_:Array TypeId} (ho:o.op=.call { callee:=.value f,args:=args,argTypes:=E_ }) {fv:PV} (hfv:RV (aU A w env) fv (a.eval f)) {xs:List PV} (hxs:Og (aU A w env) a xs args.toList)
  (hk:(Ns G nm fv xs).ok none s F) (hf:Fin A s a o K F):o.wp P a w K Q:=by
 have fin:∀ (g:Nat) (sp:Spec) (uq:List PV) (vs:List Value),G g=some sp->mg (aU A w env) uq vs->(sp nm uq).ok none s F->(execOp a.eval o).run P w=(callFunc g vs.toArray).run P w->o.wp P a w K Q:=by
  intro g sp uq vs hg hv hk hrun;have hs:=hG g sp hg;unfold Oper.wp;rw[hrun,hs.enters,Oper.upon_enter];refine (hs.calls A s a w env nm uq vs F h hI hv hk).mono ?_;rintro e w' (⟨v,wr,val,env',rfl,h1,h2,h3⟩|⟨chain,rfl,h1⟩)
  ·exact hf v wr val w' env' h1 h2 h3
  ·exact hQ chain a w' h.defers h1
 unfold Ns at hk
 split at hk
 ·unfold doM at hk
  split at hk
  ·rename_i k b c x
   cases hk1:decide (k = -1)<;>rw[hk1] at hk
   rotate_left
   ·exact hk.elim
   unfold aFY at hk;obtain⟨g,vr,ob,hfo,hk⟩:=hk;have hk2:=dU hk;clear hk;obtain⟨hg,hk⟩:=hk2
   cases hb:Nat.beq vr 0<;>cases ob<;>simp only[hb] at hk<;>try exact hk.elim
   rename_i O di l
   obtain rfl:=gy hb
   obtain⟨hst,_,hF⟩:=hk;obtain⟨hO,hstp,hinv⟩:=h.dev g 0 O di l hfo hg;subst hO hstp;obtain⟨F0,caps,hhd,hent,hstep⟩:=hI.step.step l _ w hinv;obtain⟨hd,he,_⟩:=h.ji dx g 0 _ hfo;have hfe:a.eval f=hd:=hfv.N7.now he;have aDS:=(h.l_ dx _ (hI.dvh _ _ _ hinv)).2.now he;rw[hhd] at aDS;rw[aDS] at hfe
   have hargs:args.map a.eval=#[(⟨k,b,c,x⟩:Acc).v]:=by
    apply Array.ext';rw[Array.toList_map]
    match hl:args.toList,hxs with
    | [y], hxs=>
     obtain⟨hv,_⟩:=hxs;generalize hq:a.eval y=q at hv
     cases hv with
     | w hv=>cases hv with
      | @agg _ cs hv=>
       have hcs:cs.toList=[.int .i64 k,.int .i64 b,.int .i64 c,.string x]:=by
        generalize cs.toList=cl at hv
        cases hv with
        | cons h1 hv=>cases h1;cases hv with
         | cons h1 hv=>cases h1;cases hv with
          |cons h1 hv=>cases h1;cases hv with
           |cons h1 hv=>cases h1;cases hv;rfl
       have:cs=#[.int .i64 k,.int .i64 b,.int .i64 c,.string x]:=by apply Array.ext';simpa using hcs
       simp[hq,this,Acc.v]
   have hrun:(execOp a.eval o).run P w=(callFunc F0 (#[(⟨k,b,c,x⟩:Acc).v]++caps)).run P w:=by
    simp[execOp,ho,resolve,hfe,Deferred.ofValue,invoke,hargs]
   unfold Oper.wp;rw[hrun,hent,Oper.upon_enter];refine (hstep ⟨k,b,c,x⟩ (of_decide_eq_false hk1) hst).mono ?_;rintro e w' ⟨hc,⟨r,FX,rfl,hi⟩|⟨chain,FX,rfl,hp⟩⟩
   ·obtain⟨h1,hle⟩:=h.asked hfo hg hI.sub (fun b hb=>hI.old b (hI.sub b hb)) hc hi;have hF':F none (V8 (A.dv.O (l++[(⟨k,b,c,x⟩:Acc)]))) [(dx,none,0,.dev A.dv.O A.di (l++[(⟨k,b,c,x⟩:Acc)]))]:=hF;refine hf (V8 (A.dv.O (l++[(⟨k,b,c,x⟩:Acc)]))) [(dx,none,0,.dev A.dv.O A.di (l++[(⟨k,b,c,x⟩:Acc)]))] r.v w' env hF' h1 ?_;rw[FX];refine .w (.agg ?_);show RL _ [.lit (.int .i64 r.val),.lit (.string r.bytes)] [.int .i64 r.val,.string r.bytes];exact .cons (xs:=[_]) (.lit rfl) (.cons (xs:=[_]) (.lit rfl) .nil)
   ·exact hQ chain a w' h.defers ⟨l++[(⟨k,b,c,x⟩:Acc)],hst FX,FX,hI.Bg _ _ _ _ _ _ hp (dm.refl _ _) (fun b hb=>.inl hb),h.gu.trans (hc.mono fun b _ hs=>hI.sub b hs)⟩
  ·exact hk.elim
 ·rename_i g first cap
  split at hk
  ·rename_i sp h1 h2 h3;have hfe:=hfv.dw
   have e1:first=#[]:=by apply Array.ext';simpa using h1
   have e2:cap=#[]:=by apply Array.ext';simpa using h2
   subst e1 e2;refine fin g sp xs (args.toList.map a.eval) h3 hxs.vals hk ?_
   have e3:(args.toList.map a.eval).toArray=args.map a.eval:=by apply Array.ext';simp
   rw[e3];simp[execOp,ho,resolve,hfe,Deferred.ofValue,invoke]
  ·rename_i cs sp h1 h2 h3
   cases hall:cs.toList.all (·.oneCell')<;>simp only[hall] at hk<;>try exact hk.elim
   have hfe:=hfv.dw
   have e1:first=#[.agg cs]:=by apply Array.ext';simpa using h1
   have e2:cap=#[]:=by apply Array.ext';simpa using h2
   subst e1 e2;refine fin g sp (.w (.agg (cs.toList.map .lit))::xs) (.agg cs::args.toList.map a.eval) h3 ⟨.w (.agg (bCj hall)),hxs.vals⟩ hk ?_
   have e3:(Value.agg cs::args.toList.map a.eval).toArray=#[.agg cs]++args.map a.eval:=by apply Array.ext';simp
   rw[e3];simp[execOp,ho,resolve,hfe,Deferred.ofValue,invoke]
  ·exact hk.elim
 ·rename_i g first cap
  split at hk
  ·rename_i sp h1 h2 h3;have hin:=hfv.inv;generalize hq:a.eval f=q at hin
   cases hin with
   |@fn _ _ _ _ fs cs r1 r2=>
    refine fin g sp _ (fs++args.toList.map a.eval++cs) h1 (((mg.EG r1 h2).append hxs.vals).append (mg.EG r2 h3)) hk ?_
    have e3:(fs++args.toList.map a.eval++cs).toArray=fs.toArray++args.map a.eval++cs.toArray:=by apply Array.ext';simp
    rw[e3];simp[execOp,ho,resolve,hq,Deferred.ofValue,invoke]
  ·exact hk.elim
 ·exact hk.elim
theorem aPj{t:TypeId}{k:M}(hk:(aVv P t k).ok none s F):P.eqGuardType P.depth t=false/\k.ok none s F:=by
 unfold aVv at hk
 split at hk
 ·split at hk
  ·rename_i h2
   exact⟨h2,hk⟩
  ·exact hk.elim
 ·exact hk
theorem yS{t e:TypeId}(hu:P.underlying t=some (.slice e))(d:Nat)(b:Addr)(l c:Nat)(w:World):(Op.equalIn (d+1) t (.slice (some b) l c) (.slice none 0 0)).run P w=.ok false w:=by
 simp[Op.equalIn,run_underlying hu]
theorem aRv{t e:TypeId}(hu:P.underlying t=some (.slice e))(b:Addr)(l c:Nat)(w:World):(binOp .eql t (.slice (some b) l c) (.slice none 0 0)).run P w=.ok (.bool false) w:=by
 show (do pure (Value.bool (<-Op.equal t (.slice (some b) l c) (.slice none 0 0))):Sem Value).run P w=_;rw[Sem.run_bind,show Op.equal t (.slice (some b) l c) (.slice none 0 0)=Op.equalIn (9999+1) t (.slice (some b) l c) (.slice none 0 0) from rfl,yS hu];rfl
theorem aRt{t e:TypeId}(hu:P.underlying t=some (.slice e))(b:Addr)(l c:Nat)(w:World):(binOp .neq t (.slice (some b) l c) (.slice none 0 0)).run P w=.ok (.bool true) w:=by
 show (do pure (Value.bool (!(<-Op.equal t (.slice (some b) l c) (.slice none 0 0)))):Sem Value).run P w=_;rw[Sem.run_bind,show Op.equal t (.slice (some b) l c) (.slice none 0 0)=Op.equalIn (9999+1) t (.slice (some b) l c) (.slice none 0 0) from rfl,yS hu];rfl
theorem XO(h:gm A s a w env){op:BinOp}{t ty:TypeId}{x y:Operand}(ho:o.op=.binOp op t x y ty){p q:PV}(hp:RV (aU A w env) p (a.eval x))(hq:RV (aU A w env) q (a.eval y))(hk:(XP P op t x y p q).ok none s F)(hf:Fin A s a o K F):o.wp P a w K Q:=by
 have hstep:∀ v,(do eqGuard op t x y (a.eval x) (a.eval y);binOp op t (a.eval x) (a.eval y):Sem Value).run P w=.ok v w->(execOp a.eval o).run P w=.ok (.value v) w:=fun v hr=>by
  simp only[execOp,ho,Sem.run_bind] at hr ⊢;rw[hr];simp
 unfold XP at hk
 split at hk
 ·rename_i va vb;have e1:=hp.dw;have e2:=hq.dw;rw[e1,e2] at hstep
  split at hk
  ·split at hk
   ·rename_i hkk;subst hkk;obtain⟨h0,hF⟩:=hk;have h0':¬_=(0:Int):=h0;exact aW (hstep _ (by simp[eqGuard,binOp,Op.intDiv,h0'])) (hf.same h hF (.w (.one (.lit rfl))))
   ·exact hk.elim
  ·split at hk
   ·rename_i hkk;subst hkk;obtain⟨h0,hF⟩:=hk;have h0':¬_=(0:Int):=h0;exact aW (hstep _ (by simp[eqGuard,binOp,Op.intDiv,h0'])) (hf.same h hF (.w (.one (.lit rfl))))
   ·exact hk.elim
  ·obtain⟨h0,hF⟩:=hk;have h0':¬_<(0:Int):=Int.not_lt.2 h0;exact aW (hstep _ (by simp[eqGuard,binOp,Op.shift,h0'])) (hf.same h hF (.w (.one (.lit rfl))))
  ·obtain⟨h0,hF⟩:=hk;have h0':¬_<(0:Int):=Int.not_lt.2 h0;exact aW (hstep _ (by simp[eqGuard,binOp,Op.shift,h0'])) (hf.same h hF (.w (.one (.lit rfl))))
  ·obtain⟨h0,hF⟩:=hk;refine aW (hstep _ ?_) (hf.same h hF (.w (.one (.lit rfl))));rename_i m n
   have h1:¬(((m.size+n.size:Nat):Int) > IntKind.i64.max):=by
    have:m.size+n.size<=9223372036854775807:=h0
    have e:IntKind.i64.max=9223372036854775807:=by decide
    rw[e];omega
   simp only[eqGuard,binOp,Op.stringOp,Sem.run_bind];rw[if_neg h1];rfl
  ·obtain⟨r,h1,h2,hF⟩:=aSc hk;exact aW (hstep r (aAo h1)) (hf.same h hF (.w (.one (.lit h2))))
 ·rename_i l m
  have key:∀ r,ZZ P 8 t l m=some r->iF P t=some true->∃ xs ys,a.eval x=.agg xs/\a.eval y=.agg ys/\(Op.equalIn 10000 t (.agg xs) (.agg ys)).run P w=.ok r w:=by
   intro r hr hi
   have e1:BO P t l=some (.agg l):=by unfold BO;rw[hi]
   have e2:BO P t m=some (.agg m):=by unfold BO;rw[hi]
   generalize a.eval x=vx at hp;generalize a.eval y=vy at hq
   cases hp with
   | w hp=>cases hp with
    | @agg _ xs h1=>cases hq with
     |w hq=>cases hq with
      |@agg _ ys h2=>exact⟨xs,ys,rfl,rfl,MV 8 hr e1 e2 (.agg h1) (.agg h2) 9991 w⟩
  split at hk
  ·rename_i r h1 h3;obtain⟨h2,hk⟩:=aPj hk;obtain⟨xs,ys,e1,e2,e3⟩:=key r h1 h3;rw[e1,e2] at hstep;refine aW (hstep (.bool r) ?_) (hf.same h hk (.w (.one (.lit rfl))));rw[Sem.run_bind,run_eqGuard_agg w _ t x y xs ys h2,Result.andThen_ok,run_eql_struct w t xs ys,e3,Result.andThen_ok]
  ·rename_i r h1 h3;obtain⟨h2,hk⟩:=aPj hk;obtain⟨xs,ys,e1,e2,e3⟩:=key r h1 h3;rw[e1,e2] at hstep;refine aW (hstep (.bool (!r)) ?_) (hf.same h hk (.w (.one (.lit rfl))));rw[Sem.run_bind,run_eqGuard_agg w _ t x y xs ys h2,Result.andThen_ok,run_neq_struct w t xs ys,e3,Result.andThen_ok]
  ·exact hk.elim
 ·rename_i n len f;have e2:=hq.dw;generalize hvx:a.eval x=vx at hp hstep
  cases hp.inv with
  | @sl _ _ _ _ _ vs hr hb2 hel=>
   obtain⟨_,A1,c1,rfl,_,_,h4⟩:=hr
   split at hk
   ·rename_i e hu;obtain⟨h0,hF⟩:=hk;obtain⟨b',o',rfl,_⟩:=h4 h0;refine aW (hstep (.bool false) ?_) (hf.same h hF (.w (.one (.lit rfl))));rw[e2,Sem.run_bind,show (eqGuard .eql t x y (.slice (some _) _ _) (.slice none 0 0):Sem Unit).run P w=.ok () w from rfl,Result.andThen_ok,aRv hu]
   ·rename_i e hu;obtain⟨h0,hF⟩:=hk;obtain⟨b',o',rfl,_⟩:=h4 h0;refine aW (hstep (.bool true) ?_) (hf.same h hF (.w (.one (.lit rfl))));rw[e2,Sem.run_bind,show (eqGuard .neq t x y (.slice (some _) _ _) (.slice none 0 0):Sem Unit).run P w=.ok () w from rfl,Result.andThen_ok,aRt hu]
   ·exact hk.elim
 ·exact hk.elim
theorem aSp(h:gm A s a w env){x:Operand}(ho:o.op=.nilCheck x){v:PV}(hv:RV (aU A w env) v (a.eval x))(hp:bEw v=true)(hF:F none v [])(hf:Fin A s a o K F):o.wp P a w K Q:=by
 have hx:∃ b o,a.eval x=.pointer (some ⟨b,o,none⟩):=by
  unfold bEw at hp
  split at hp<;>first|(cases hp;done)|skip
  ·cases hv.inv with|pt h1 _=>exact h1
  ·cases hv.inv with|pk h1 _=>exact h1
  ·cases hv.inv with|pe h1 _=>exact h1
  ·generalize a.eval x=q at hv
   cases hv.inv with|pf _ _ _ _=>exact⟨_,_,rfl⟩
  ·generalize a.eval x=q at hv
   cases hv.inv with|pa _ _ _ _=>exact⟨_,_,rfl⟩
 obtain⟨b,off,hx⟩:=hx;rw[hx] at hv;exact aW (v:=.pointer (some ⟨b,off,none⟩)) (w':=w) (by simp[execOp,ho,hx]) (hf.same h hF hv)
theorem bAf(h:gm A s a w env){t:TypeId}{x:Operand}(ho:o.op=.sliceToArrayPointer t x){v:PV}(hv:RV (aU A w env) v (a.eval x))(hk:(aMo P t v).ok none s F)(hf:Fin A s a o K F):o.wp P a w K Q:=by
 unfold aMo at hk
 split at hk
 ·rename_i n e k len f hu
  split at hk
  ·rename_i he hb
   obtain rfl:=gy hb
   obtain⟨⟨hle,hpos⟩,hF⟩:=hk;generalize hq:a.eval x=q at hv
   cases hv.inv with
   |@sl _ _ _ _ _ vs hr hb2 hel=>
    obtain⟨h1,A1,c1,rfl,h2,h3,h4⟩:=hr;obtain⟨b',o',rfl,hcell⟩:=h4 hpos;refine aW (v:=.pointer (some ⟨b',o',none⟩)) (w':=w) (by simp[execOp,ho,hq,run_arrayAt w t e n _ len c1 hu hle]) (hf.same h hF (.w (.one (.pa (c:=c1) ⟨h1,_,_,rfl,h2,h3,h4⟩ (hb2 _ rfl hpos) hel hpos))))
  ·exact hk.elim
 ·exact hk.elim
theorem VZ(h:gm A s a w env){args:Array Operand}{E_:Array TypeId}{x y:Operand}(ho:o.op=.call { callee:=.builtin .min,args:=args,argTypes:=E_ })(ha:args=#[x,y]){p q:PV}(hp:RV (aU A w env) p (a.eval x))(hq:RV (aU A w env) q (a.eval y))(hk:(Va p q).ok none s F)(hf:Fin A s a o K F):o.wp P a w K Q:=by
 subst ha;unfold Va at hk
 split at hk
 ·split at hk
  ·rename_i k m k' n hkk;subst hkk;have e1:=hp.dw;have e2:=hq.dw;refine aW (v:=.int k (min m n)) (w':=w) ?_ (hf.same h hk (.w (.one (.lit rfl))))
   have e3:(if n<m then n else m)=min m n:=by
    split<;>omega
   simp[execOp,ho,resolve,invoke,e1,e2,builtin,Builtin.min_,Builtin.min2,e3]
  ·exact hk.elim
 ·exact hk.elim
theorem Vj(h:gm A s a w env){args:Array Operand}{E_:Array TypeId}{x y:Operand}(ho:o.op=.call { callee:=.builtin .max,args:=args,argTypes:=E_ })(ha:args=#[x,y]){p q:PV}(hp:RV (aU A w env) p (a.eval x))(hq:RV (aU A w env) q (a.eval y))(hk:(Vk p q).ok none s F)(hf:Fin A s a o K F):o.wp P a w K Q:=by
 subst ha;unfold Vk at hk
 split at hk
 ·split at hk
  ·rename_i k m k' n hkk;subst hkk;have e1:=hp.dw;have e2:=hq.dw;refine aW (v:=.int k (max m n)) (w':=w) ?_ (hf.same h hk (.w (.one (.lit rfl))))
   have e3:(if m<n then n else m)=max m n:=by
    split<;>omega
   simp[execOp,ho,resolve,invoke,e1,e2,builtin,Builtin.max_,Builtin.max2,e3]
  ·exact hk.elim
 ·exact hk.elim
theorem bHo(hG:aGr P I G)(hI:mi P I A)(hQ:Bv A Q)(h:gm A s a w env){nm:Nat}(hk:(body P G nm o).ok none s F)(hf:Fin A s a o K F):o.wp P a w K Q:=by
 obtain⟨dst,op,ty,pos,after,guard⟩:=o;unfold body at hk;dsimp only at hk
 split at hk
 ·exact bEb h (.inl rfl) hk hf
 ·exact bEb h (.inr rfl) hk hf
 ·exact Q8 h rfl hk hf
 ·split at hk
  ·rename_i l hz;exact O7 h rfl hz hk hf
  ·exact hk.elim
 ·obtain⟨pv,hp,hk⟩:=gG h hk
  split at hk
  ·split at hk
   ·cases hp with|w hp=>exact XL h rfl hp hk hf
   ·exact hk.elim
  ·exact hk.elim
 ·obtain⟨pv,hp,hk⟩:=gG h hk;exact Ql h rfl hp hk hf
 ·obtain⟨pv,hp,hk⟩:=gG h hk;obtain⟨qv,hq,hk⟩:=gG h hk;exact Ho h rfl hp hq hk hf
 ·obtain⟨pv,hp,hk⟩:=gG h hk;exact aPw h rfl hp hk hf
 ·obtain⟨pv,hp,hk⟩:=gG h hk;obtain⟨qv,hq,hk⟩:=gG h hk;exact aPh h rfl hp hq hk hf
 ·obtain⟨pv,hp,hk⟩:=gG h hk;exact ML h rfl hp hk hf
 ·obtain⟨pv,hp,hk⟩:=gG h hk;exact aZh h rfl hp hk hf
 ·obtain⟨vs,hp,hk⟩:=aBb h hk
  split at hk
  ·rename_i l hz;exact Ny h rfl hp hz hk hf
  ·exact hk.elim
 ·obtain⟨vs,hp,hk⟩:=aBb h hk;exact aMj h rfl hp hk hf
 ·obtain⟨pv,hp,hk⟩:=gG h hk;obtain⟨lv,hl,hk⟩:=aWe h hk;obtain⟨hv,hh,hk⟩:=aWe h hk;exact I_ h rfl hp hl hh hk hf
 ·obtain⟨pv,hp,hk⟩:=gG h hk;obtain⟨qv,hq,hk⟩:=gG h hk;exact XO h rfl hp hq hk hf
 ·obtain⟨pv,hp,hk⟩:=gG h hk
  split at hk
  ·rename_i v hl;exact P7 h rfl hp hl hk hf
  ·exact hk.elim
 ·obtain⟨pv,hp,hk⟩:=gG h hk;exact aZv h rfl hp hk hf
 ·obtain⟨pv,hp,hk⟩:=gG h hk;obtain⟨qv,hq,hk⟩:=gG h hk;exact Qc h rfl hp hq hk hf
 ·rename_i args E_
  split at hk
  ·rename_i x y t t' e1 e2
   split at hk
   ·rename_i hb
    obtain rfl:=gy hb
    obtain⟨pv,hp,hk⟩:=gG h hk;obtain⟨qv,hq,hk⟩:=gG h hk
    obtain rfl:args=#[x,y]:=by apply Array.ext';simpa using e1
    obtain rfl:E_=#[t,t]:=by apply Array.ext';simpa using e2
    exact SK h rfl hp hq hk hf
   ·exact hk.elim
  ·exact hk.elim
 ·obtain⟨pv,hp,hk⟩:=gG h hk
  split at hk
  ·rename_i hb;exact aSp h rfl hp hb hk hf
  ·exact hk.elim
 ·obtain⟨pv,hp,hk⟩:=gG h hk;exact bAf h rfl hp hk hf
 ·rename_i args E_
  split at hk
  ·rename_i x y e1;obtain⟨pv,hp,hk⟩:=gG h hk;obtain⟨qv,hq,hk⟩:=gG h hk;exact VZ h rfl (by apply Array.ext';simpa using e1) hp hq hk hf
  ·exact hk.elim
 ·rename_i args E_
  split at hk
  ·rename_i x y e1;obtain⟨pv,hp,hk⟩:=gG h hk;obtain⟨qv,hq,hk⟩:=gG h hk;exact Vj h rfl (by apply Array.ext';simpa using e1) hp hq hk hf
  ·exact hk.elim
 ·obtain⟨fs,hfs,hk⟩:=aDc h hk;obtain⟨cs,hcs,hk⟩:=aDc h hk
  split at hk
  ·rename_i fp cp h1 h2;exact aSs h rfl hfs hcs h1 h2 hk hf
  ·rename_i h1 h2
   split at hk
   ·rename_i l h3;exact aOw h rfl hfs hcs h3 h2 hk hf
   ·exact hk.elim
  ·exact hk.elim
 ·rename_i f args E_;obtain⟨fv,hfv,hk⟩:=gG h hk;obtain⟨xs,hxs,hk⟩:=aDc h hk;exact SY hG hI hQ h rfl hfv hxs hk hf
 ·rename_i args E_
  split at hk
  ·rename_i x t e1 e2;obtain⟨pv,hp,hk⟩:=gG h hk
   obtain rfl:args=#[x]:=by apply Array.ext';simpa using e1
   obtain rfl:E_=#[t]:=by apply Array.ext';simpa using e2
   exact Vw h rfl hp hk hf
  ·exact hk.elim
 ·rename_i args E_
  split at hk
  ·rename_i x y t t' e1 e2
   split at hk
   ·rename_i hb
    obtain rfl:=gy hb
    obtain⟨pv,hp,hk⟩:=gG h hk;obtain⟨qv,hq,hk⟩:=gG h hk
    obtain rfl:args=#[x,y]:=by apply Array.ext';simpa using e1
    obtain rfl:E_=#[t,t]:=by apply Array.ext';simpa using e2
    exact bHy h rfl hp hq hk hf
   ·obtain⟨pv,hp,hk⟩:=gG h hk;obtain⟨qv,hq,hk⟩:=gG h hk
    obtain rfl:args=#[x,y]:=by apply Array.ext';simpa using e1
    obtain rfl:E_=#[t,t']:=by apply Array.ext';simpa using e2
    exact bHz h rfl hp hq hk hf
  ·exact hk.elim
 ·exact hk.elim
theorem VI(hG:aGr P I G)(hI:mi P I A)(hQ:Bv A Q)(Dy:Nat)(ops:Array Oper)(hd:∀ (i:Nat) (o:Oper) d,ops[i]?=some o->o.dst=some d->d<A.nt):F6 P ops Q (o7 A) (bEc P G Dy ops.toList):=by
 intro i o s a w out ho hg hrun hc K hK;have hmo:=M.yc _ none s out (fun g v wr=>∀ a' w',o7 A (appW o.dst g v wr s) a' w'->K a' w') hrun hc (fun a' w' h=>hK a' w' ((aPn A) _ _ _ _ (fun _=>rfl) (fun _=>rfl) h));obtain⟨env,hE⟩:=hg
 have hfin:∀ (F:Option Bool->PV->Wr->Prop),(∀ v wr,F none v wr->∀ a' w',o7 A (appW o.dst none v wr s) a' w'->K a' w')->Fin A s a o K F:=by
  intro F hF v wr val w' env' h1 h2 h3;refine hF v wr h1 _ _ ⟨env',?_⟩;have:=h2.put o.dst none v val (fun t ht=>hd i o t ho ht) (fun _=>h3) (fun h=>by cases h)
  have e:appW o.dst none v wr s=J_ o.dst none v { s with o:=wr++s.o }:=by unfold appW app J_;cases o.dst<;>rfl
  rw[e];exact this
 unfold wpOp;rw[ho];dsimp only;unfold bEc at hmo
 cases hgd:o.guard with
 |none=>
  rw[hgd] at hmo
  have hw:Region.wanted o (yielded ops a.tmps)=true:=by simp[Region.wanted,hgd]
  rw[if_pos hw]
  exact .inl (bHo hG hI hQ hE hmo (hfin _ fun v wr h=>h))
 | some jp=>
  obtain⟨j,U3⟩:=jp;rw[hgd] at hmo;dsimp only at hmo
  cases hj:(ops.toList[j]?).bind (·.dst) with
  |none=>rw[hj] at hmo;exact hmo.elim
  | some tj=>
   rw[hj] at hmo;obtain⟨g,v,hfv,hmo⟩:=hmo
   have hdj:(ops[j]?).bind (·.dst)=some tj:=by simpa using hj
   have fin2:∀ gb,Region.wanted o (yielded ops a.tmps)=gb->(M.gate gb (body P G (Dy*1000+i) o)).ok none s (fun g v wr=>∀ a' w',o7 A (appW o.dst g v wr s) a' w'->K a' w') ->
     (if Region.wanted o (yielded ops a.tmps)=true then o.wp P a w K Q\/(o.asks P a w/\LetsOut Q) else K (a.put o.dst undef) w):=by
    intro gb hwant hmo;obtain⟨_,hmo⟩:=hmo
    cases gb with
    |true=>
     rw[if_pos hwant];refine .inl (bHo hG hI hQ hE (bFj _ s _ hmo) (hfin _ fun v wr h=>?_));intro a' w' LK
     exact h.2.2 a' w' (LK.aEM h.2.1)
    |false=>
     rw[if_neg (by rw[hwant];exact Bool.false_ne_true)];obtain⟨v,wr,h1,h2⟩:=aYz _ s _ hmo;obtain⟨env',h3⟩:=gm.aLJ wr s env hE h2;refine h1 _ _ ⟨env',?_⟩;have:=h3.put o.dst (some false) v undef (fun t ht=>hd i o t ho ht) (fun hg=>absurd hg (by simp[gT])) (fun _=>rfl)
     have e:appW o.dst (some false) v wr s=J_ o.dst (some false) v { s with o:=wr++s.o }:=by unfold appW app J_;cases o.dst<;>rfl
     rw[e];exact this
   have hgd2:Region.wanted o (yielded ops a.tmps)=(yielded ops a.tmps j==some U3):=by simp[Region.wanted,hgd]
   have hyes:∀ b,gT g->v=jo (.bool b)->Region.wanted o (yielded ops a.tmps)=JE U3 b:=by
    intro b hgT hv;subst hv;obtain⟨val,h1,h2⟩:=hE.tmps tj g _ hfv hgT;have hval:=h2.zy;subst hval
    have hyd:yielded ops a.tmps j=some b:=by
     unfold yielded;rw[hdj];simp[h1]
    rw[hgd2,hyd]
    cases U3<;>cases b<;>rfl
   dsimp only at hmo
   split at hmo
   ·rename_i b;exact fin2 _ (hyes b trivial rfl) hmo
   ·rename_i b0 b;refine fin2 _ ?_ hmo
    cases b0 with
    |true=>rw[Bool.true_and];exact hyes b rfl rfl
    | false=>
     have h1:=hE.und tj _ hfv
     have hyd:yielded ops a.tmps j=none:=by
      unfold yielded;rw[hdj];simp[h1,undef]
     rw[hgd2,hyd,Bool.false_and];rfl
   ·exact hmo.elim
end
end Pv
end Go.Proofs.YtndpjopifkbgiaaGreatDoor
