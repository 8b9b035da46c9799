/-.-/
import Derived.Test.YtndpjopifkbgiaaGreatDoorMsA
import Derived.Laws.IdiomStrings
import Derived.Laws.BytesArg
import Derived.Lib.AppendStr
import Derived.Test.YtndpjopifkbgiaaGreatDoorMsB
import Derived.Defers
import Derived.Deep.CutRange
import Derived.Deep.RegionHeld3
import Derived.ChangeKeysEq
import Derived.Lib.SlBytesConst
import Derived.Outline
set_option maxRecDepth 100000
set_option maxHeartbeats 4000000
namespace Go.Proofs.YtndpjopifkbgiaaGreatDoor
open Go.RowKit
section
def strOf(l:List UInt8):ByteArray:=⟨l.toArray⟩
theorem qC(s:ByteArray):strOf s.data.toList=s:=by cases s;simp[strOf]
theorem dD(l:List UInt8):(strOf l).data.toList=l:=by simp[strOf]
theorem bW(l:List UInt8):(strOf l).size=l.length:=by simp[strOf,ByteArray.size]
def qR(b:UInt8):Value:=.int .u8 (b.toNat:Int)
section
variable {P:Program}
theorem aAi{src dst e:TypeId}(hs:P.underlying src=some (.slice e))(he:P.underlying e=some (.int .u8))(hd:P.underlying dst=some .string){w:World}{v:Value}{n:Nat}{l:List UInt8}(hr:Reads w 1 v n (l.map qR)) :
  (convert src dst v).run P w=.ok (.string (strOf l)) w:=by
 obtain⟨hl,A,c,rfl,_,_,hc⟩:=hr;rw[List.length_map,Nat.mul_one] at hl;subst hl
 cases A with
 | none=>
  have:l=[]:=by
   cases l with
   |nil=>rfl
   |cons x l=>obtain⟨b,o,e,_⟩:=hc (by simp);cases e
  subst this
  exact run_convert_bytes_nil w src e hs he _ c dst hd
 |some a=>
  refine run_convert_bytes_back w src dst e a c l hs he hd fun j hj=>?_;obtain⟨b,o,e2,hcc⟩:=hc (by omega);cases e2;rw[add_lit];exact hcc j _ (by rw[List.getElem?_map,zH hj];rfl)
theorem aNx{src dst e:TypeId}(hs:P.underlying src=some .string)(hd:P.underlying dst=some (.slice e))(he:P.underlying e=some (.int .u8))(w:World)(s:ByteArray)(hm:s.size<=maxLen) :
  ∃ c w',(convert src dst (.string s)).run P w=.ok (.slice (some ⟨w.heap.size,0,none⟩) s.size c) w'/\Reads w' 1 (.slice (some ⟨w.heap.size,0,none⟩) s.size c) s.size (s.data.toList.map qR)/\Ext w w'/\(∀ i,i<s.size->w'.frozen? ⟨w.heap.size,i,none⟩=false):=by
 refine⟨_,_,run_bytes_of_string w src dst e s hs hd he,⟨by rw[List.length_map,Array.length_toList,Nat.mul_one];rfl,_,_,rfl,?_,grownCap_le_maxLen w s.size 0 e hm,fun _=>⟨_,_,rfl,fun j u hu=>?_⟩⟩,((Ext.refl w).drew).alloc _,fun i hi=>?_⟩
 ·simpa using grownCap_ge w s.size 0 e
 ·have hj:j<s.data.size:=by
   rcases Nat.lt_or_ge j s.data.size with h|h
   ·exact h
   ·rw[List.getElem?_eq_none (by simpa using h)] at hu;cases hu
  have h1:=World.cell?_alloc_mark w.drew (bytesRow s (grownCap w s.size 0 e)) e ((bytesRow s (grownCap w s.size 0 e)).size,(bytesRow s (grownCap w s.size 0 e)).size+1) j;rw[Nat.zero_add];refine Eq.trans h1 ?_;rw[bytesRow_at s _ j hj,<-hu,List.getElem?_map,Array.getElem?_toList,Array.getElem?_eq_getElem hj];rfl
 ·have hsz:(bytesRow s (grownCap w s.size 0 e)).size>=s.size:=by unfold bytesRow;rw[Array.size_append,Array.size_map];exact Nat.le_add_right _ _
  show (w.drew.alloc (.cells (bytesRow s (grownCap w s.size 0 e)) e ((bytesRow s (grownCap w s.size 0 e)).size,(bytesRow s (grownCap w s.size 0 e)).size+1))).frozen? ⟨w.drew.heap.size,i,none⟩=false;have:(w.drew.alloc (.cells (bytesRow s (grownCap w s.size 0 e)) e ((bytesRow s (grownCap w s.size 0 e)).size,(bytesRow s (grownCap w s.size 0 e)).size+1))).heap[w.drew.heap.size]?=some (.cells (bytesRow s (grownCap w s.size 0 e)) e ((bytesRow s (grownCap w s.size 0 e)).size,(bytesRow s (grownCap w s.size 0 e)).size+1)):=heap_alloc_new _ _;unfold World.frozen?;rw[this];simp;omega
theorem wR{ops:Array Oper}{rest:List Oper}{o:Oper}{a:Act}{w:World}{Q:Exit->Act->World->Prop}(hgd:o.guard=none){src dst e:TypeId}{x:Operand}(ho:o.op=.convert src dst x)
  (hs:P.underlying src=some .string) (hd:P.underlying dst=some (.slice e)) (he:P.underlying e=some (.int .u8)) {s:ByteArray} (hx:a.eval x=.string s) (hm:s.size<=maxLen)
  (h:∀ c w',Reads w' 1 (.slice (some ⟨w.heap.size,0,none⟩) s.size c) s.size (s.data.toList.map qR)->Ext w w'->(∀ i,i<s.size->w'.frozen? ⟨w.heap.size,i,none⟩=false)->wpList P ops Q rest (a.put o.dst (.slice (some ⟨w.heap.size,0,none⟩) s.size c)) w'):wpList P ops Q (o::rest) a w:=
 wpList_plain hgd fun _ hK=>by
  obtain⟨c,w',hrun,h1,h2,h3⟩:=aNx (P:=P) hs hd he w s hm;unfold Oper.wp execOp;simp only[ho,hx,hrun,Sem.run_bind,Sem.run_pure,Result.andThen_ok];exact hK _ _ (h c w' h1 h2 h3)
theorem pY{ops:Array Oper}{rest:List Oper}{o:Oper}{a:Act}{w:World}{Q:Exit->Act->World->Prop}(hgd:o.guard=none){src dst e:TypeId}{x:Operand}(ho:o.op=.convert src dst x)
  (hs:P.underlying src=some (.slice e)) (he:P.underlying e=some (.int .u8)) (hd:P.underlying dst=some .string) {v:Value} (hx:a.eval x=v) {n:Nat} {l:List UInt8} (hr:Reads w 1 v n (l.map qR))
  (h:wpList P ops Q rest (a.put o.dst (.string (strOf l))) w):wpList P ops Q (o::rest) a w:=
 wpList_plain hgd fun _ hK=>by
  have hrun:=aAi (P:=P) hs he hd hr;unfold Oper.wp execOp;simp only[ho,hx,hrun,Sem.run_bind,Sem.run_pure,Result.andThen_ok];exact hK _ _ h
theorem aRa{ops:Array Oper}{rest:List Oper}{o:Oper}{a:Act}{w:World}{Q:Exit->Act->World->Prop}(hgd:o.guard=none){sl x:Operand}{t u:TypeId}
  (ho:o.op=.call { callee:=.builtin .append,args:=#[sl,x],argTypes:=#[t,u] })
  {B:Nat} {e:TypeId} (T:zn P t e 1 1) (hz:(P.info? e).map (·.zero)=some (some (.int .u8 0))) (hu:P.underlying u=some .string) {v:Value} {n:Nat} {xs:List Value} (hs:a.eval sl=v) (hown:w.ownsRow B e 1 v n xs) {s:ByteArray} (hx:a.eval x=.string s)
  (hbytes:n+s.size<=140737488355328) (hbase:B<=w.heap.size)
  (h:∀ (A':Option Addr) (c':Nat) w',w'.ownsRow B e 1 (.slice A' (n+s.size) c') (n+s.size) (xs++s.data.toList.map qR)->dm (fun k=>v.ownBlock=some k) w w'->wpList P ops Q rest (a.put o.dst (.slice A' (n+s.size) c')) w'):wpList P ops Q (o::rest) a w:=by
 obtain⟨ht,⟨i,z,hi,hz2,hsize,hby,hzs⟩,_,_⟩:=T
 have hz':i.zero=some (.int .u8 0):=by rw[hi] at hz;simpa using hz
 refine Lib.wpList_append_own_string (P:=P) (w:=w) hgd sl x t u ho B e i ht hu hi hz' hsize hby v n xs hs hown s hx (by unfold maxLen;omega) hbytes hbase fun v' w' h1 h2 _=>?_;obtain⟨A',c',rfl⟩:=nS h1;exact h A' c' w' h1 ⟨h2.os,h2.tape,h2.output,h2.size,fun k hk hn=>h2.block k hk (fun e=>hn e.symm)⟩
end
end
section
theorem bBc:(Tryz.prog.info? 5).map (·.zero)=some (some (.int .u8 0)):=by kernel_rfl
theorem aHs(s:ByteArray):(bT s.data.toList).length=(b_ s.size).length+s.size:=by
 unfold bT;rw[List.length_append,Array.length_toList];rfl
theorem aHr(s:ByteArray):(bT s.data.toList).map gq=(b_ s.size).map gq++s.data.toList.map qR:=by
 unfold bT;rw[List.map_append,Array.length_toList];rfl
theorem vX(s:ByteArray)(w:World)(hs:s.size<=1000000000) :
  Calls Tryz.prog 145 #[.string s] w fun e w'=>∃ A c,e=.returned (.slice A (bT s.data.toList).length c)/\w'.ownsRow w.heap.size 5 1 (.slice A (bT s.data.toList).length c) (bT s.data.toList).length ((bT s.data.toList).map gq)/\Ext w w':=by
 have HW:=hide (fun w=>vW (s.size:Int) w (by omega) (by omega));have HL:=hide (aHs s);have HM:=hide (aHr s);have hl:=aY (s.size:Int)
 go_enter Tryz.func145,Tryz.ntmps145
 go_wp2_with fail
 refine (aA HW _).mono ?_;rintro e w1 ⟨A,c,rfl,ho,hE⟩;have HO:=hide (And.intro ho hE);clear ho hE
 go_wp2_with (at_builtin;refine aRa rfl rfl fC bBc Tryz.underlying9 rfl (aA HO).1 rfl (by omega) (aA HO).2.size' ?_;intro A' c' w2 ho hc;have HQ:=hide (And.intro ho hc);clear ho hc)
 go_ret
 obtain⟨h1,h2⟩:=aA HQ;rw[<-aA HL,<-aA HM] at h1
 exact⟨A',c',by rw[aA HL];rfl,h1,(aA HO).2.trans' h2 (fun _ _ h=>h) (fun i hi e=>by have:=((aA HO).1.lt i e).1;omega)⟩
theorem rC(s:ByteArray)(w:World)(hs:s.size<=1000000000) :
  Calls Tryz.prog 39 #[.string s] w fun e w'=>∃ A c,e=.returned (.slice A (bT s.data.toList).length c)/\w'.ownsRow w.heap.size 5 1 (.slice A (bT s.data.toList).length c) (bT s.data.toList).length ((bT s.data.toList).map gq)/\Ext w w':=by
 have HW:=hide (fun w=>yV (s.size:Int) w (by omega) (by omega));have HL:=hide (aHs s);have HM:=hide (aHr s);have hl:=aY (s.size:Int)
 go_enter Tryz.func39,Tryz.ntmps39
 go_wp2_with fail
 refine (aA HW _).mono ?_;rintro e w1 ⟨A,c,rfl,ho,hE⟩;have HO:=hide (And.intro ho hE);clear ho hE
 go_wp2_with (first
  |(refine wR (src:=9) (dst:=74) (x:=.tmp 6) (s:=s) rfl rfl Tryz.underlying9 Tryz.underlying74 Tryz.underlying5 rfl (by unfold maxLen;omega) ?_;intro c2 w2 hr2 hE2 hf2;have HR:=hide (And.intro hr2 hE2);clear hr2 hE2 hf2)
  |(at_builtin;refine bH rfl rfl fC rfl (bQ (aA HO).1 (aA HR).2) rfl (aA HR).1 (dN.map (fun _=>rfl) _) (by omega) (Nat.le_trans (aA HO).2.size' (aA HR).2.size') ?_;intro A' c' w3 ho hc hv;have HQ:=hide (And.intro ho hc);clear ho hc hv))
 go_ret
 obtain⟨h1,h2⟩:=aA HQ;rw[<-aA HL,<-aA HM] at h1
 exact⟨A',c',by rw[aA HL];rfl,h1,((aA HO).2.trans (aA HR).2).trans' h2 (fun _ _ h=>h) (fun i hi e=>by have:=((aA HO).1.lt i e).1;omega)⟩
theorem aV:u_ Tryz.prog 23 16:=⟨⟨_,Tryz.underlying23,rfl⟩,by kernel_rfl⟩
theorem short_any(l:List UInt8)(w:World)(hl:l.length=32) :
  Calls Tryz.prog 178 #[.agg (l.map gq).toArray] w fun e w'=>e=.returned (.agg ((l.take 16).map gq).toArray)/\Ext w w':=by
 obtain⟨arr,harr⟩:∃ r,(l.map gq).toArray=r:=⟨_,rfl⟩;obtain⟨res,hres⟩:∃ r,((l.take 16).map gq).toArray=r:=⟨_,rfl⟩;have HA:=hide (And.intro harr hl);have HR:=hide hres;have HS:=hide (show res.size=16/\res.all (·.oneCell')=true from by rw[<-hres];exact⟨by simp;omega,dB _⟩);rw[harr,hres];clear harr hres hl;have hat:=fun X=>aUu (P:=Tryz.prog) Tryz.underlying23 (ad:=some ⟨w.heap.size,0,none⟩) (len:=16) (c:=32) (by omega) X
 go_enter Tryz.func178,Tryz.ntmps178
 go_wp2_with (first
  |(refine qA (ty:=23) (x:=.tmp 4) rfl rfl aV rfl (arr:=res) (cs:=(l.take 16).map gq) ?_ ?_ (aA HR) ?_;(focus (refine pI (w:=w.alloc (.cells arr 142)) (S:=Non) (fun j v hj=>?_) ((Ext.refl _).alloc _) (fun h=>h);rw[Nat.zero_add,(au.new w _ arr).cell,<-(aA HA).1];rw[List.map_take,List.getElem?_take] at hj;split at hj;(simpa using hj);(cases hj)));(focus (have:=(aA HA).2;simp;omega)))
  |(refine aT (ty:=23) (t:=23) (x:=.tmp 2) (y:=.tmp 5) rfl rfl aV rfl rfl (au.new' _ _ _ ?_) rfl (aA HS).1 (aA HS).2 ?_;(focus (simp;done));intro w2 hb2 hc2 hz2;have H2:=hide (And.intro hb2 hc2);clear hb2 hc2 hz2))
 refine bodyPost_ret (v:=.agg res) (dJ aV rfl (aA H2).1 (aA HS).1 rfl) rfl ⟨rfl,?_⟩;exact (((Ext.refl w).alloc _).alloc _).trans' (aA H2).2 (fun _ _ h=>h) (fun i hi e=>by omega)
theorem bEk(key b:List UInt8)(w:World):Calls Tryz.prog 178 #[.agg ((AA key b).map gq).toArray] w fun e w'=>e=.returned (.agg ((EI key b).map gq).toArray)/\Ext w w':=short_any _ _ (iJ _ _)
theorem lJ(key b:List UInt8):(EI key b).length=16:=by unfold EI;rw[List.length_take,iJ];omega
theorem aSt(key b:List UInt8)(kv bv:Value)(w:World)(hM:a_ w)(hk:Reads w 1 kv key.length (key.map gq))(hb:Reads w 1 bv b.length (b.map gq))(hkl:key.length<=1000000)(hbl:b.length<=1000000) :
  Calls Tryz.prog 146 #[kv,bv] w fun e w'=>e=.returned (.agg ((EI key b).map gq).toArray)/\Ext w w':=by
 have HH:=hide (aLo key b kv bv _ (hM.ext ((Ext.refl w).alloc (.cells (Array.replicate 16 (.int .u8 0)) 23))) (hk.ext ((Ext.refl w).alloc _)) (hb.ext ((Ext.refl w).alloc _)) hkl hbl);have HL:=hide (lJ key b);clear hM hk hb
 go_enter Tryz.func146,Tryz.ntmps146
 go_wp2_with fail
 refine (aA HH).mono ?_;rintro e w1 ⟨rfl,hE1⟩
 go_wp2_with fail
 refine (bEk key b _).mono ?_;rintro e w2 ⟨rfl,hE2⟩;have hB:=(au.new w 23 (Array.replicate 16 (.int .u8 0))).ext (hE1.trans hE2);have HB:=hide (And.intro hB (hE1.trans hE2));clear hB hE1 hE2
 go_wp2_with (refine aT (ty:=23) (t:=23) (x:=.tmp 4) (y:=.tmp 8) rfl rfl aV rfl rfl (aA HB).1 (by simp) ?_ (dB _) ?_;(focus (simpa using aA HL));intro w3 hb3 hc3 hz3;have H3:=hide (And.intro hb3 hc3);clear hb3 hc3 hz3)
 refine bodyPost_ret (v:=.agg ((EI key b).map gq).toArray) (dJ aV rfl (aA H3).1 (by simpa using aA HL) rfl) rfl ⟨rfl,?_⟩;exact (((Ext.refl w).alloc _).trans (aA HB).2).trans' (aA H3).2 (fun _ _ h=>h) (fun i hi e=>by omega)
def Parts(w:World)(v:Value)(ps:List (List UInt8)):Prop:=∃ vs:List Value,vs.length=ps.length/\Reads w 1 v ps.length vs/\∀ (i:Nat) (p:List UInt8),ps[i]?=some p->∃ u,vs[i]?=some u/\Reads w 1 u p.length (p.map gq)
theorem Parts.ext{w w':World}{v:Value}{ps:List (List UInt8)}(h:Parts w v ps)(hE:Ext w w'):Parts w' v ps:=by
 obtain⟨vs,h1,h2,h3⟩:=h
 refine⟨vs,h1,h2.ext hE,fun i p hp=>?_⟩
 obtain⟨u,h4,h5⟩:=h3 i p hp
 exact⟨u,h4,h5.ext hE⟩
theorem Parts.nil(w:World):Parts w (.slice none 0 0) []:=⟨[],rfl,Reads.nil w 1,fun i p h=>by simp at h⟩
def encs(ps:List (List UInt8)):List UInt8:=ps.flatMap bT
theorem aFu(ps:List (List UInt8))(k:Nat)(h:k<ps.length):encs (ps.take (k+1))=encs (ps.take k)++bT ps[k]:=by
 unfold encs;rw[kQ ps k h,List.flatMap_append];simp
theorem aJd(ps:List (List UInt8))(M:Nat)(h:∀ p∈ps,p.length<=M):(encs ps).length<=ps.length*(M+10):=by
 unfold encs
 induction ps with
 |nil=>simp
 |cons p ps ih=>
  have h1:=ih fun q hq=>h q (List.mem_cons_of_mem _ hq);have h2:=h p List.mem_cons_self;have h3:=fO p;rw[List.flatMap_cons,List.length_append,List.length_cons,Nat.succ_mul];omega
theorem QB(w:World)(B:Nat)(e:TypeId)(x:Value)(hB:B<=w.heap.size):(w.alloc (.cells #[x] e)).ownsRow B e 1 (.slice (some ⟨w.heap.size,0,none⟩) 1 1) 1 [x]:=
 ⟨by simp,.inr ⟨w.heap.size,1,#[x],rfl,hB,heap_alloc_new w _,Nat.le_refl _,by unfold maxLen;omega,rfl,rfl⟩⟩
theorem aVi(w:World)(B:Nat)(e:TypeId)(x:Value){g:Nat}(hg:g=w.heap.size)(hB:B<=w.heap.size):(w.alloc (.cells #[x] e)).ownsRow B e 1 (.slice (some ⟨g,0,none⟩) 1 1) 1 [x]:=by subst hg;exact QB w B e x hB
theorem aVr(v:Value)(l:List UInt8)(pv:Value)(ps:List (List UInt8))(B:Nat)(w:World)(h:w.ownsRow B 5 1 v l.length (l.map gq))(hB:B<=w.heap.size)(hp:Parts w pv ps)
  (hl:l.length<=1000000) (hps:ps.length<=1000) (hpl:∀ p∈ps,p.length<=1000000) (hS:∀ X,dm (fun k=>v.ownBlock=some k) w X->Parts X pv ps) :
  Calls Tryz.prog 149 #[v,pv] w fun e w'=>∃ A c,e=.returned (.slice A (l++encs ps).length c)/\w'.ownsRow B 5 1 (.slice A (l++encs ps).length c) (l++encs ps).length ((l++encs ps).map gq)/\Onto w v w' (.slice A (l++encs ps).length c):=by
 have H0:=hide h;have HP:=hide hp;have HS:=hide hS;have EU:=hide hpl
 obtain⟨A1,c1,rfl⟩:∃ A c,pv=.slice A ps.length c:=by obtain⟨vs,_,⟨_,A,c,h,_⟩,_⟩:=hp;exact⟨A,c,h⟩
 obtain⟨A0,c0,rfl⟩:=nS h;clear h hp hS hpl
 go_enter Tryz.func149,Tryz.ntmps149
 go_wp2
 go_loopw [0,9] (fun b i wr=>∃ (k n:Nat) (A:Option Addr) (c:Nat),k<=ps.length/\i=.int .i64 k/\b=.slice A n c/\n<=1000000+k*1000010/\Hid (n=(l++encs (ps.take k)).length/\wr.ownsRow B 5 1 (.slice A n c) n ((l++encs (ps.take k)).map gq)/\Onto w (.slice A0 l.length c0) wr (.slice A n c))) (fun _ i _=>ps.length-(intOf i).toNat)
 case atStart=>exact⟨0,l.length,A0,c0,Nat.zero_le _,rfl,rfl,by omega,hide ⟨by simp[encs],by simpa[encs] using aA H0,Onto.refl _ _⟩⟩
 case round=>
  obtain⟨k,n,A,c,hk,rfl,rfl,hn,HI⟩:=hrel
  by_cases hlt:k<ps.length
  ·have hpw:Parts wr (.slice A1 ps.length c1) ps:=aA HS wr (aA HI).2.2.gu;obtain⟨vs,q1,q2,q3⟩:=hpw;obtain⟨u,q4,q5⟩:=q3 k ps[k] (zH hlt);obtain⟨b,o,c',u',hv,_,_,hb,hu,hcc⟩:=q2.DN hlt;cases hv;rw[q4] at hu;cases hu
   obtain⟨Au,cu,rfl⟩:∃ A c,u=.slice A ps[k].length c:=by obtain⟨_,A,c,h,_⟩:=q5;exact⟨A,c,h⟩
   have hpk:=aA EU ps[k] (List.getElem_mem hlt);have Xu:=hide q5;have HE:=hide (aFu ps k hlt);clear q1 q2 q3 q4 q5;have hwl:=fO ps[k];generalize ps[k]=p at *;have HW:=hide (fun w=>vX (strOf p) w (by rw[bW];omega));rw[dD] at HW
   go_wp2_with (first
    |(refine pY (src:=74) (dst:=9) (x:=.tmp 14) (l:=p) rfl rfl Tryz.underlying74 Tryz.underlying5 Tryz.underlying9 rfl (aA Xu) ?_)
    |(go_at_call 145;refine (aA HW _).mono ?_;rintro e w3 ⟨A3,c3,rfl,ho3,ug⟩;have H3:=hide (And.intro ho3 ug);clear ho3 ug)
    |(at_builtin;refine bH rfl rfl fC rfl (bQ (aA HI).2.1 (aA H3).2) rfl (Reads.l9 (aA H3).1) (dN.u8 _) (by omega) (Nat.le_trans hB (Nat.le_trans (aA HI).2.2.gu.size (aA H3).2.size')) ?_;intro A' c4 w4 ho hc hv;have H4:=hide (And.intro ho (((aA HI).2.2.ext (aA H3).2).trans (Onto.app hc hv)));clear ho hc hv))
   go_roundw
   case rel=>
    refine⟨k+1,n+(bT p).length,A',c4,by omega,by go_num,rfl,by rw[Nat.succ_mul];omega,hide ⟨?_,?_,(aA H4).2⟩⟩
    ·rw[aA HE,<-List.append_assoc,List.length_append,<-(aA HI).1]
    ·rw[aA HE,<-List.append_assoc,List.map_append];exact (aA H4).1
   case measure=>simp[intOf];omega
  ·obtain rfl:k=ps.length:=by omega
   go_wp2
   go_ret
   obtain⟨h1,h2,h3⟩:=aA HI;rw[List.take_length] at h1 h2;subst h1
   exact⟨A,c,rfl,h2,h3⟩
def qK(t:Int):UInt8:=UInt8.ofNat (t % 256).toNat
theorem aUk(t:Int):t % 256=((qK t).toNat:Int):=by
 unfold qK;simp;omega
def jS(tag:Int)(ps:List (List UInt8)):List UInt8:=(sha ([qK tag]++encs ps)).take 16
def kH(key label:List UInt8)(ps:List (List UInt8)):List UInt8:=EI key (bT label++encs ps)
theorem iW(tag:Int)(ps:List (List UInt8)):(jS tag ps).length=16:=by unfold jS;rw[List.length_take,cZ];omega
theorem eF(key label:List UInt8)(ps:List (List UInt8)):(kH key label ps).length=16:=lJ _ _
theorem aQa(tag:Int)(ps:List (List UInt8))(w:World):Calls Tryz.prog 178 #[.agg ((sha ([qK tag]++encs ps)).map gq).toArray] w fun e w'=>e=.returned (.agg ((jS tag ps).map gq).toArray)/\Ext w w':=short_any _ _ (cZ _)
theorem aZn(tag:Int)(ps:List (List UInt8))(pv:Value)(w:World)(hM:a_ w)(hp:Parts w pv ps)(hps:ps.length<=1000)(hpl:∀ p∈ps,p.length<=10000) :
  Calls Tryz.prog 176 #[.int .i64 tag,pv] w fun e w'=>e=.returned (.agg ((jS tag ps).map gq).toArray)/\Ext w w':=by
 have HM:=hide hM;have HP:=hide hp;have EU:=hide hpl;have HT:=hide (aUk tag);have HB:=hide (aJd ps 10000 hpl);clear hM hp hpl
 go_enter Tryz.func176,Tryz.ntmps176
 go_wp2_with fail
 rw[aA HT];refine (aVr _ [qK tag] _ ps (w.heap.size+1) _ ?h1 ?h2 ?h3 (by simp) hps ?h4 ?h5).mono ?_
 case h1=>exact aVi _ _ _ _ (by simp) (by simp)
 case h2=>simp
 case h3=>exact (aA HP).ext (((Ext.refl w).alloc _).alloc _)
 case h4=>intro p hp;have:=aA EU p hp;omega
 case h5=>
  intro X hX;refine (aA HP).ext ((((Ext.refl w).alloc _).alloc _).trans' hX (fun _ _ h=>h) (fun i hi e=>?_));simp[Value.ownBlock] at e;omega
 rintro e w1 ⟨A,c,rfl,ho,hO⟩;have hE:Ext w w1:=(((Ext.refl w).alloc _).alloc _).trans' hO.gu (fun _ _ h=>h) (fun i hi e=>by simp[Value.ownBlock] at e;omega);have hB:au w1 w.heap.size 23 (Array.replicate 16 (.int .u8 0)):=((au.new w 23 (Array.replicate 16 (.int .u8 0))).alloc _).gu hO.gu (by intro e;simp[Value.ownBlock] at e);have H1:=hide (And.intro ho (And.intro hE hB));clear ho hO hE hB
 go_wp2_with fail
 refine (sum_any ([qK tag]++encs ps) _ _ ((aA HM).ext (aA H1).2.1) ?hr ?hl).mono ?_
 case hr=>have:=Reads.l9 (aA H1).1;first|exact this|(rw[List.length_append] at this;rw[List.length_append];exact this)|(simp only[List.length_append,List.length_cons,List.length_nil] at this ⊢;exact this)
 case hl=>
  have:=aA HB;have h2:ps.length*(10000+10)<=1000*(10000+10):=Nat.mul_le_mul_right _ hps;simp;omega
 rintro e w2 ⟨rfl,hE2⟩
 go_wp2_with fail
 refine (aQa tag ps _).mono ?_;rintro e w3 ⟨rfl,ug⟩;have H3:=hide (And.intro ((aA H1).2.1.trans (hE2.trans ug)) ((aA H1).2.2.ext (hE2.trans ug)));clear hE2 ug
 go_wp2_with (refine aT (ty:=23) (t:=23) (x:=.tmp 4) (y:=.tmp 11) rfl rfl aV rfl rfl (aA H3).2 (by simp) ?_ (dB _) ?_;(focus (simpa using iW tag ps));intro w4 hb4 hc4 CP;have H4:=hide (And.intro hb4 hc4);clear hb4 hc4 CP)
 refine bodyPost_ret (v:=.agg ((jS tag ps).map gq).toArray) (dJ aV rfl (aA H4).1 (by simpa using iW tag ps) rfl) rfl ⟨rfl,?_⟩;exact (aA H3).1.trans' (aA H4).2 (fun _ _ h=>h) (fun i hi e=>by omega)
theorem aBd(key:List UInt8)(kv:Value)(label:ByteArray)(ps:List (List UInt8))(pv:Value)(w:World)(hM:a_ w)(hk:Reads w 1 kv key.length (key.map gq))(hkl:key.length<=10000)(hll:label.size<=10000)(hp:Parts w pv ps)(hps:ps.length<=90)(hpl:∀ p∈ps,p.length<=10000) :
  Calls Tryz.prog 106 #[kv,.string label,pv] w fun e w'=>e=.returned (.agg ((kH key label.data.toList ps).map gq).toArray)/\Ext w w':=by
 have HM:=hide hM;have HK:=hide hk;have HP:=hide hp;have EU:=hide hpl;have HB:=hide (aJd ps 10000 hpl);have HW:=hide (fun w=>vX label w (by omega));have HWL:=hide (show (bT label.data.toList).length<=10+label.size from fO label.data.toList);clear hM hp hpl hk
 go_enter Tryz.func106,Tryz.ntmps106
 go_wp2_with fail
 refine (aA HW _).mono ?_;rintro e w1 ⟨A1,c1,rfl,ho1,hE1⟩;have H1:=hide (And.intro ho1 hE1);clear ho1 hE1;have hge:Hid (∀ k,(Value.slice A1 (bT label.data.toList).length c1).ownBlock=some k->w.heap.size+1<=k):=hide (fun k hk=>by have:=((aA H1).1.lt k hk).1;simp at this;omega)
 go_wp2_with fail
 refine (aVr _ (bT label.data.toList) _ ps (w.heap.size+1) _ ?h1 ?h2 ?h3 ?h6 (by omega) ?h4 ?h5).mono ?_
 case h1=>have:=(aA H1).1;simp only[World.size_alloc] at this;exact this
 case h2=>have:=(aA H1).2.size';simp at this;omega
 case h3=>exact (aA HP).ext (((Ext.refl w).alloc _).trans (aA H1).2)
 case h6=>have:=aA HWL;omega
 case h4=>intro p hp;have:=aA EU p hp;omega
 case h5=>
  intro X hX;refine (aA HP).ext ((((Ext.refl w).alloc _).trans (aA H1).2).trans' hX (fun _ _ h=>h) (fun i hi e=>?_));have:=aA hge i e;omega
 rintro e w2 ⟨A,c,rfl,ho,hO⟩;have hE:Ext w w2:=(((Ext.refl w).alloc _).trans (aA H1).2).trans' hO.gu (fun _ _ h=>h) (fun i hi e=>by have:=aA hge i e;omega);have hB:au w2 w.heap.size 23 (Array.replicate 16 (.int .u8 0)):=((au.new w 23 (Array.replicate 16 (.int .u8 0))).ext (aA H1).2).gu hO.gu (by intro e;have:=aA hge _ e;omega);have H2:=hide (And.intro ho (And.intro hE hB));clear ho hO hE hB
 go_wp2_with fail
 refine (aSt key (bT label.data.toList++encs ps) _ _ _ ((aA HM).ext (aA H2).2.1) ((aA HK).ext (aA H2).2.1) ?hr (by omega) ?hl).mono ?_
 case hr=>have:=Reads.l9 (aA H2).1;rw[List.length_append] at this;rw[List.length_append];exact this
 case hl=>
  have:=aA HB;have:=aA HWL;have h2:ps.length*(10000+10)<=90*(10000+10):=Nat.mul_le_mul_right _ hps;simp;omega
 rintro e w3 ⟨rfl,ug⟩;have H3:=hide (And.intro ((aA H2).2.1.trans ug) ((aA H2).2.2.ext ug));clear ug
 go_wp2_with (refine aT (ty:=23) (t:=23) (x:=.tmp 6) (y:=.tmp 12) rfl rfl aV rfl rfl (aA H3).2 (by simp) ?_ (dB _) ?_;(focus (first|(simpa using eF _ _ _)|(simpa using lJ _ _)));intro w4 hb4 hc4 CP;have H4:=hide (And.intro hb4 hc4);clear hb4 hc4 CP)
 refine bodyPost_ret (v:=.agg ((kH key label.data.toList ps).map gq).toArray) (dJ aV rfl (aA H4).1 (by simpa using eF _ _ _) rfl) rfl ⟨rfl,?_⟩;exact (aA H3).1.trans' (aA H4).2 (fun _ _ h=>h) (fun i hi e=>by omega)
def gX(key:List UInt8)(k:Nat):List UInt8:=(List.range k).flatMap fun j:Nat=>AA key (b_ (j:Int))
def oV(key:List UInt8)(n:Int):List UInt8:=(gX key ((n.toNat+31) / 32)).take n.toNat
theorem kR(key:List UInt8)(k:Nat):gX key (k+1)=gX key k++AA key (b_ k):=by
 unfold gX;rw[List.range_succ,List.flatMap_append];simp
theorem jO(key:List UInt8)(k:Nat):(gX key k).length=32*k:=by
 induction k with
 |zero=>rfl
 |succ k ih=>rw[kR,List.length_append,ih,iJ];omega
theorem yP(key:List UInt8)(k d:Nat):gX key k <+: gX key (k+d):=by
 induction d with
 |zero=>exact List.prefix_refl _
 |succ d ih=>exact ih.trans (by rw[<-Nat.add_assoc,kR];exact List.prefix_append _ _)
theorem aUj{α:Type}{a b:List α}(h:a <+: b){n:Nat}(hn:n<=a.length):b.take n=a.take n:=by
 obtain⟨t,rfl⟩:=h;rw[List.take_append_of_le_length hn]
theorem aHu(key:List UInt8)(N k:Nat)(h:N<=32*k):(gX key k).take N=oV key N:=by
 have h1:oV key N=(gX key ((N+31) / 32)).take N:=rfl;rw[h1];rcases Nat.le_total k ((N+31) / 32) with hk|hk
 ·obtain⟨d,hd⟩:=Nat.exists_eq_add_of_le hk;rw[hd,aUj (yP key k d) (by rw[jO];exact h)]
 ·obtain⟨d,hd⟩:=Nat.exists_eq_add_of_le hk;rw[hd,aUj (yP key ((N+31) / 32) d) (by rw[jO];omega)]
theorem qM(key:List UInt8)(n:Int):(oV key n).length=n.toNat:=by
 unfold oV;rw[List.length_take,jO];omega
theorem aXi(key:List UInt8)(kv:Value)(N:Nat)(w:World)(hM:a_ w)(hk:Reads w 1 kv key.length (key.map gq))(hkl:key.length<=10000)(hN:N<=100000) :
  Calls Tryz.prog 148 #[kv,.int .i64 (N:Int)] w fun e w'=>∃ A c,e=.returned (.slice A N c)/\w'.ownsRow w.heap.size 5 1 (.slice A N c) N ((oV key N).map gq)/\Ext w w':=by
 have HM:=hide hM;have HK:=hide hk;clear hM hk
 have hkl:key.length<=1000000:=by omega
 go_enter Tryz.func148,Tryz.ntmps148
 go_wp2
 go_loopw [5,6] (fun b i wr=>∃ (k m:Nat) (A:Option Addr) (c:Nat),k<=N/\i=.int .i64 k/\b=.slice A m c/\m<=N/\Hid (m=min (32*k) N/\wr.ownsRow w.heap.size 5 1 (.slice A m c) m (((gX key k).take N).map gq)/\Ext w wr)) (fun b _ _=>match b with|.slice _ m _=>N-m|_=>0)
 case atStart=>exact⟨0,0,none,0,Nat.zero_le _,rfl,rfl,by omega,hide ⟨by omega,by rw[show gX key 0=[] from rfl,List.take_nil];exact World.ownsRow_nil _ _ _ _,Ext.refl _⟩⟩
 case round=>
  obtain⟨k,m,A,c,hkN,rfl,rfl,hm,HI⟩:=hrel
  by_cases hlt:m<N
  ·by_cases hq:32<=N-m
   ·go_wp2_with (first
     |(go_at_call 107;refine (vW (k:Int) _ (by omega) (by omega)).mono ?_;rintro e w2 ⟨A2,c2,rfl,ho2,hE2⟩;have H2:=hide (And.intro ho2 hE2);clear ho2 hE2)
     |(go_at_call 179;refine (aLo key (b_ k) _ _ _ ((aA HM).ext ((aA HI).2.2.trans (aA H2).2)) ((aA HK).ext ((aA HI).2.2.trans (aA H2).2)) (Reads.l9 (aA H2).1) hkl (by have:=aY k;omega)).mono ?_;rintro e w3 ⟨rfl,ug⟩;have H3:=hide ug;clear ug)
     |(refine aT (ty:=142) (t:=142) (x:=.tmp 7) (y:=.tmp 17) rfl rfl dY rfl rfl (au.new _ _ _) rfl ?_ (dB _) ?_;(focus (simpa using iJ _ _));intro w4 hb4 hc4 CP;have HOW:=hide (mW (bQ (aA HI).2.1 (((aA H2).2.trans (aA H3)).alloc _)) hc4 (fun q hq e=>by have:=((aA HI).2.1.lt q hq).2;have s:=((aA H2).2.trans (aA H3)).size';omega));have Ou:=hide (show Ext wr w4 from (((aA H2).2.trans (aA H3)).alloc _).trans' hc4 (fun _ _ h=>h) (fun i hi e=>by have s:=((aA H2).2.trans (aA H3)).size';omega));have HRW:=hide (show Reads w4 1 (.slice (some ⟨w3.heap.size,0,none⟩) (32) 32) (32) (((AA key (b_ k)).take (32)).map gq) from by (have:=Reads.su hb4 (i:=0) (n:=32) (c:=32) (by rw[List.size_toArray,List.length_map,iJ];omega) (by omega) (by unfold maxLen;omega));simp only[List.drop_zero] at this;rw[List.map_take];exact this);clear hb4 hc4 CP)
     |(at_builtin;refine bH rfl rfl fC rfl (aA HOW) rfl (aA HRW) (dN.u8 _) (by omega) (Nat.le_trans (aA HI).2.2.size' (aA Ou).size') ?_;intro A' c' w5 ho hc hv;have H5:=hide (And.intro ho hc);clear ho hc hv))
    go_roundw
    case rel=>
     refine⟨k+1,m+(32),A',c',by have:=(aA HI).1;omega,by go_num,rfl,by omega,hide ⟨by have:=(aA HI).1;omega,?_,((aA HI).2.2.trans (aA Ou)).trans' (aA H5).2 (fun _ _ h=>h) (fun i hi e=>by have:=((aA HI).2.1.lt i e).1;omega)⟩⟩
     have e1:(gX key (k+1)).take N=(gX key k).take N++(AA key (b_ k)).take (32):=by
      have:=(aA HI).1;rw[kR,List.take_append,jO];congr 1;rw[List.take_eq_take_iff,iJ];omega
     rw[e1,List.map_append];exact (aA H5).1
    case measure=>simp;omega
   ·obtain⟨q,hqa,hqb⟩:∃ q,m+q<=N/\N<=m+q:=⟨N-m,by omega,by omega⟩
    have hnm:((N:Int)-(m:Int))=(q:Int):=by omega
    have bJl:q<=32:=by omega
    have bJm:q<32:=by omega
    have bJk:(q:Int)<=32:=by omega
    go_wp2_with (first
     |(go_at_call 107;refine (vW (k:Int) _ (by omega) (by omega)).mono ?_;rintro e w2 ⟨A2,c2,rfl,ho2,hE2⟩;have H2:=hide (And.intro ho2 hE2);clear ho2 hE2)
     |(go_at_call 179;refine (aLo key (b_ k) _ _ _ ((aA HM).ext ((aA HI).2.2.trans (aA H2).2)) ((aA HK).ext ((aA HI).2.2.trans (aA H2).2)) (Reads.l9 (aA H2).1) hkl (by have:=aY k;omega)).mono ?_;rintro e w3 ⟨rfl,ug⟩;have H3:=hide ug;clear ug)
     |(refine aT (ty:=142) (t:=142) (x:=.tmp 7) (y:=.tmp 17) rfl rfl dY rfl rfl (au.new _ _ _) rfl ?_ (dB _) ?_;(focus (simpa using iJ _ _));intro w4 hb4 hc4 CP;have HOW:=hide (mW (bQ (aA HI).2.1 (((aA H2).2.trans (aA H3)).alloc _)) hc4 (fun q hq e=>by have:=((aA HI).2.1.lt q hq).2;have s:=((aA H2).2.trans (aA H3)).size';omega));have Ou:=hide (show Ext wr w4 from (((aA H2).2.trans (aA H3)).alloc _).trans' hc4 (fun _ _ h=>h) (fun i hi e=>by have s:=((aA H2).2.trans (aA H3)).size';omega));have HRW:=hide (show Reads w4 1 (.slice (some ⟨w3.heap.size,0,none⟩) (q) 32) (q) (((AA key (b_ k)).take (q)).map gq) from by (have:=Reads.su hb4 (i:=0) (n:=q) (c:=32) (by rw[List.size_toArray,List.length_map,iJ];omega) (by omega) (by unfold maxLen;omega));simp only[List.drop_zero] at this;rw[List.map_take];exact this);clear hb4 hc4 CP)
     |(at_builtin;refine bH rfl rfl fC rfl (aA HOW) rfl (aA HRW) (dN.u8 _) (by omega) (Nat.le_trans (aA HI).2.2.size' (aA Ou).size') ?_;intro A' c' w5 ho hc hv;have H5:=hide (And.intro ho hc);clear ho hc hv))
    go_roundw
    case rel=>
     refine⟨k+1,m+(q),A',c',by have:=(aA HI).1;omega,by go_num,rfl,by omega,hide ⟨by have:=(aA HI).1;omega,?_,((aA HI).2.2.trans (aA Ou)).trans' (aA H5).2 (fun _ _ h=>h) (fun i hi e=>by have:=((aA HI).2.1.lt i e).1;omega)⟩⟩
     have e1:(gX key (k+1)).take N=(gX key k).take N++(AA key (b_ k)).take (q):=by
      have:=(aA HI).1;rw[kR,List.take_append,jO];congr 1;rw[List.take_eq_take_iff,iJ];omega
     rw[e1,List.map_append];exact (aA H5).1
    case measure=>simp;omega
  ·obtain rfl:m=N:=by omega
   go_wp2
   go_ret
   obtain⟨h1,h2,h3⟩:=aA HI;rw[aHu key m k (by omega)] at h2
   exact⟨A,c,rfl,h2,h3⟩
def aFh:ByteArray:={ data:=#[97,117,116,104,101,110,116,105,99,97,116,101] }
def aPc:ByteArray:={ data:=#[101,110,99,114,121,112,116] }
def qg(key:List UInt8)(af:Int)(c:List UInt8):List UInt8:=EI (kH key aFh.data.toList []) (b_ af++bT c)
theorem fE(key:List UInt8)(af:Int)(c:List UInt8):(qg key af c).length=16:=lJ _ _
theorem aRh(key:List UInt8)(af:Int)(c:ByteArray)(w:World)(hM:a_ w)(hk:key.length=16)(h1:-9223372036854775808<=af)(h2:af<9223372036854775808)(hc:c.size<=100000) :
    Calls Tryz.prog 104 #[.agg (key.map gq).toArray,.int .i64 af,.string c] w fun e w'=>e=.returned (.agg ((qg key af c.data.toList).map gq).toArray)/\Ext w w':=by
  obtain⟨arr,harr⟩:∃ r,(key.map gq).toArray=r:=⟨_,rfl⟩;obtain⟨dk,hdk⟩:∃ d,kH key aFh.data.toList []=d:=⟨_,rfl⟩;obtain⟨res,hres⟩:∃ d,qg key af c.data.toList=d:=⟨_,rfl⟩
  have hdl:dk.length=16:=by rw[<-hdk];exact eF _ _ _
  have HM:=hide hM;have HW1:=hide (fun w=>vW af w h1 h2);have HW2:=hide (fun w=>vX c w (by omega));have HB:=hide (show (b_ af).length<=10/\(bT c.data.toList).length<=10+c.size from⟨aY _,fO c.data.toList⟩);have HR:=hide hres;have HD:=hide hdk;have HA:=hide harr;rw[harr,hres];clear harr hdk hres hM h1 h2
  have zu:arr.size=16:=by rw[<-aA HA];simpa using hk
  go_enter Tryz.func104,Tryz.ntmps104
  go_wp2_with fail
  refine (aBd key _ aFh [] _ _ ((aA HM).ext (((Ext.refl w).alloc _).alloc _)) ?_ (by omega) (by decide) (Parts.nil _) (by simp) (fun p hp=>by cases hp)).mono ?_
  ·
    have:=Reads.su ((au.new w 23 arr).alloc (.cells (Array.replicate 16 (.int .u8 0)) 23)) (i:=0) (n:=16) (c:=16) (by omega) (by omega) (by unfold maxLen;omega);rw[<-aA HA] at this;simp only[List.drop_zero] at this;rw[List.take_of_length_le (by rw[List.length_map];omega),aA HA] at this;rw[hk];exact this
  rintro e w1 ⟨rfl,hE1⟩;rw[aA HD];have H1:=hide (show Ext w w1/\au w1 (w.heap.size+1) 23 (Array.replicate 16 (.int .u8 0))/\w.heap.size+2<=w1.heap.size from⟨(((Ext.refl w).alloc _).alloc _).trans hE1,(au.new' (w.alloc (.cells arr 23)) _ _ (by simp)).ext hE1,by have:=hE1.size';simp at this;omega⟩);clear hE1;have HS:=hide (show ((dk.map gq).toArray).size=16 from by simpa using hdl)
  go_wp2_with (refine aT (ty:=23) (t:=23) (x:=.tmp 7) (y:=.tmp 9) rfl rfl aV rfl rfl (au.new w1 _ _) rfl (aA HS) (dB _) ?_;intro w2 hb2 hc2 hz2;have H2:=hide (show au w2 w1.heap.size 23 ((dk.map gq).toArray)/\Ext w w2/\au w2 (w.heap.size+1) 23 (Array.replicate 16 (.int .u8 0)) from⟨hb2,((aA H1).1.alloc _).trans' hc2 (fun _ _ h=>h) (fun i hi e=>by have:=(aA H1).2.2;omega),((aA H1).2.1.alloc _).gu hc2 (by have:=(aA H1).2.2;omega)⟩);clear hb2 hc2 hz2)
  have HK:=hide (show Reads w2 1 (.slice (some ⟨w1.heap.size,0,none⟩) 16 16) dk.length (dk.map gq) from by
    have:=Reads.su (aA H2).1 (i:=0) (n:=16) (c:=16) (by rw[aA HS];omega) (by omega) (by unfold maxLen;omega);simp only[List.drop_zero] at this;rw[List.take_of_length_le (by rw[List.length_map];omega)] at this;rw[hdl]
    exact this)
  have HMR:=hide (show EI dk (b_ af++bT c.data.toList)=res from by rw[<-aA HR,<-aA HD];rfl);have HRS:=hide (show ((res.map gq).toArray).size=16 from by rw[<-aA HR];simpa using fE _ _ _);have hB:=hide (show (b_ af).length+(bT c.data.toList).length<=1000000 from by have:=aA HB;omega)
  go_region_law (first
    |(refine Hr (s:=.tmp 12) (x:=.tmp 14) rfl rfl fC rfl (bQ (aA H3).1 (aA H4).2.1) rfl (Reads.l9 (aA H4).1) (dN.u8 _) (by have:=aA hB;omega) (Nat.le_trans (aA H3).2.2 (aA H4).2.2) ?_;intro A5 c5 w5 FU hc5 hv5;have H5:=hide (show Reads w5 1 (.slice A5 ((b_ af).length+(bT c.data.toList).length) c5) ((b_ af).length+(bT c.data.toList).length) ((b_ af).map gq++(bT c.data.toList).map gq)/\Ext w2 w5 from⟨Reads.l9 FU,(((aA H3).2.1.trans (aA H4).2.1)).trans' hc5 (fun _ _ h=>h) (fun i hi e=>by have:=((aA H3).1.lt i e).1;simp at this;omega)⟩);clear FU hc5 hv5)
    |(go_simp;go_at_call 107;refine (aA HW1 _).mono ?_;rintro e w3 ⟨A3,c3,rfl,ho3,ug⟩;have H3:=hide (And.intro ho3 (And.intro (((Ext.refl w2).drew).trans ug) ug.size'));clear ho3 ug)
    |(go_simp;go_at_call 145;refine (aA HW2 _).mono ?_;rintro e w4 ⟨A4,c4,rfl,ho4,RS⟩;have H4:=hide (And.intro ho4 (And.intro RS RS.size'));clear ho4 RS)
    | (
     rename_i K hK;go_simp;go_at_call 146;refine (aSt dk (b_ af++bT c.data.toList) _ _ _ ((aA HM).ext ((aA H2).2.1.trans (aA H5).2)) ((aA HK).ext (aA H5).2) ?_ (by omega) ?_).mono ?_
     (focus (rw[List.map_append,List.length_append];exact (aA H5).1))
     (focus (have:=aA hB;rw[List.length_append];omega))
     rintro e w6 ⟨rfl,Ai⟩;rw[aA HMR];have H6:=hide (show Ext w w6/\au w6 (w.heap.size+1) 23 (Array.replicate 16 (.int .u8 0)) from⟨((aA H2).2.1.trans (aA H5).2).trans Ai,(aA H2).2.2.ext ((aA H5).2.trans Ai)⟩);clear Ai;dsimp only;refine hK _ _ ?_;clear hK K;refine wpAny_ready (rs:=[7]) (by kernel_rfl) (by simp) (AllReady.cons rfl (fun J hJ=>?_) AllReady.nil);refine iI (ty:=23) (t:=23) (x:=.tmp 6) (y:=.tmp 16) rfl rfl aV rfl rfl (aA H6).2 ?_ ?_ ?_ ?_
     · rw[Array.size_replicate]
     · exact aA HRS
     · exact dB _
     intro w7 hb7 DK Qu;have H7:=hide (And.intro hb7 DK);clear hb7 DK Qu;refine hJ _ _ ?_
     clear hJ J))
  go_wp2
  refine bodyPost_ret (v:=.agg ((res.map gq).toArray)) (dJ aV rfl (aA H7).1 (aA HRS) rfl) rfl ⟨rfl,?_⟩;exact (aA H6).1.trans' (aA H7).2 (fun _ _ h=>h) (fun i hi e=>by omega)
def keyS(key:List UInt8)(af:Int):List UInt8:=kH key aPc.data.toList [b_ af]
def dV(key:List UInt8)(af:Int)(s:List UInt8):List UInt8:=List.zipWith (· ^^^ ·) s (oV (keyS key af) s.length)
def BA(s x:List UInt8)(k:Nat):List UInt8:=(List.zipWith (· ^^^ ·) s x).take k++s.drop k
theorem bEf(s x:List UInt8):BA s x 0=s:=by unfold BA;simp
theorem KE(s x:List UInt8)(h:x.length=s.length):BA s x s.length=List.zipWith (· ^^^ ·) s x:=by
 unfold BA;rw[List.drop_length,List.append_nil,List.take_of_length_le (by rw[List.length_zipWith];omega)]
theorem aSr(s x:List UInt8)(k:Nat)(h:x.length=s.length)(hk:k<=s.length):(BA s x k).length=s.length:=by
 unfold BA;rw[List.length_append,List.length_take,List.length_zipWith,List.length_drop];omega
theorem QT(s x:List UInt8)(k:Nat)(h:x.length=s.length)(hk:k<s.length):(BA s x k)[k]?=some s[k]:=by
 unfold BA;rw[List.getElem?_append_right (by rw[List.length_take];omega),List.length_take,List.length_zipWith,List.getElem?_drop,show min k (min s.length x.length)=k from by omega,Nat.sub_self,Nat.add_zero,zH hk]
theorem bEg(s x:List UInt8)(k:Nat)(h:x.length=s.length)(hk:k<s.length):BA s x (k+1)=(BA s x k).set k (s[k] ^^^ x[k]):=by
 apply List.ext_getElem?;intro i;unfold BA;rw[List.getElem?_set]
 have hl:((List.zipWith (· ^^^ ·) s x).take k).length=k:=by rw[List.length_take,List.length_zipWith];omega
 have hl':((List.zipWith (· ^^^ ·) s x).take (k+1)).length=k+1:=by rw[List.length_take,List.length_zipWith];omega
 rw[List.getElem?_append,List.getElem?_append,hl,hl',List.length_append,hl,List.length_drop]
 by_cases h1:i<k
 ·rw[if_pos (by omega),if_neg (by omega),if_pos h1,List.getElem?_take,List.getElem?_take,if_pos (by omega),if_pos h1]
 ·by_cases h2:k=i
  ·subst h2;rw[if_pos (by omega),if_pos rfl,if_pos (by omega),List.getElem?_take,if_pos (by omega),List.getElem?_zipWith,zH hk,zH (by omega)]
  ·rw[if_neg (by omega),if_neg h2,if_neg h1,List.getElem?_drop,List.getElem?_drop];congr 1;omega
theorem XT(l:List UInt8)(v o:Value)(g7 g6:Nat)(u:FrameMode)(w:World)(h7:w.cell? ⟨g7,0,none⟩=some v)(h6:w.cell? ⟨g6,0,none⟩=some o)(f6:w.frozen? ⟨g6,0,none⟩=false)(hr:Reads w 1 v l.length (l.map gq)) :
  CallsD Tryz.prog 147 #[.pointer (some ⟨g7,0,none⟩),.pointer (some ⟨g6,0,none⟩)] u w fun e u' w'=>u'=u/\(e=.returned (.tuple #[])/\w'=w.setCell ⟨g6,0,none⟩ (.string (strOf l))):=by
 have hc:=aAi (P:=Tryz.prog) (w:=w) Tryz.underlying74 Tryz.underlying5 Tryz.underlying9 hr
 obtain⟨A,c,rfl⟩:∃ A c,v=.slice A l.length c:=by obtain⟨_,A,c,h,_⟩:=hr;exact⟨A,c,h⟩
 go_enter_d Tryz.func147,Tryz.ntmps147
 go_wp2
 go_end0
 exact⟨rfl,rfl⟩
theorem aGo (key:List UInt8) (af:Int) (s:ByteArray) (w:World) (hM:a_ w) (hk:key.length=16) (h1:-9223372036854775808<=af) (h2:af<9223372036854775808) (hs:s.size<=100000) :
    Calls Tryz.prog 105 #[.agg (key.map gq).toArray,.int .i64 af,.string s] w fun e w'=>e=.returned (.string (strOf (dV key af s.data.toList)))/\Ext w w':=by
  obtain⟨arr,harr⟩:∃ r,(key.map gq).toArray=r:=⟨_,rfl⟩;have HM:=hide hM;have HW1:=hide (fun w=>vW af w h1 h2);have HA:=hide harr;rw[harr];clear harr hM h1 h2
  have zu:arr.size=16:=by rw[<-aA HA];simpa using hk
  have hmf:∀ (fn:Fn) (first cap:Array Value) (w:World),(Instr.makeFunc fn first cap).run Tryz.prog w=.ok (.func fn first cap) w:=fun _ _ _ _=>rfl
  go_enter_defers Tryz.func105,Tryz.ntmps105
  go_wp2_with (refine wR rfl rfl Tryz.underlying9 Tryz.underlying74 Tryz.underlying5 rfl (by unfold maxLen;omega) ?_;intro c1 w1 hr1 hE1 hf1;have H1:=hide (And.intro hr1 (And.intro hE1 hf1));clear hr1 hE1 hf1)
  have hsz1:w.heap.size+2<=w1.heap.size:=by have h2:=(aA H1).2.1.size';simp at h2;omega
  have HRB:=hide (show Reads (w1.alloc (.cells #[.slice (some ⟨w.heap.size+1+1,0,none⟩) s.size c1] 74)) 1 (.slice (some ⟨w.heap.size+1+1,0,none⟩) s.size c1) s.size (s.data.toList.map qR)/\∀ i,i<s.size->(w1.alloc (.cells #[.slice (some ⟨w.heap.size+1+1,0,none⟩) s.size c1] 74)).frozen? ⟨w.heap.size+1+1,i,none⟩=false from by
    have h1:=(aA H1).1;have h3:=(aA H1).2.2;simp only[World.size_alloc] at h1 h3
    refine⟨h1.ext ((Ext.refl w1).alloc _),fun i hi=>?_⟩
    obtain⟨_,hc⟩:∃ u,w1.cell? ⟨w.heap.size+1+1,i,none⟩=some u:=by
      obtain⟨b,o,c,u,hv,_,_,_,_,hcc⟩:=h1.DN hi;cases hv
      exact⟨u,by simpa using hcc⟩
    exact Ext.vw ((Ext.refl w1).alloc _) (h3 i hi) (lt_of_cell hc))
  have HB6:=hide (show au (w1.alloc (.cells #[.slice (some ⟨w.heap.size+1+1,0,none⟩) s.size c1] 74)) (w.heap.size+1) 9 #[.string { data:=#[] }] from ((au.new' (w.alloc (.cells arr 23)) _ _ (by simp)).ext (aA H1).2.1).alloc _);have OQ:=hide (show au (w1.alloc (.cells #[.slice (some ⟨w.heap.size+1+1,0,none⟩) s.size c1] 74)) w1.heap.size 74 #[.slice (some ⟨w.heap.size+1+1,0,none⟩) s.size c1] from au.new _ _ _);have HBA:=hide (show au (w1.alloc (.cells #[.slice (some ⟨w.heap.size+1+1,0,none⟩) s.size c1] 74)) w.heap.size 23 arr from ((((au.new w _ arr).alloc _).ext (aA H1).2.1).alloc _));have HP:=hide (show Ext w (w1.alloc (.cells #[.slice (some ⟨w.heap.size+1+1,0,none⟩) s.size c1] 74)) from ((((Ext.refl w).alloc _).alloc _).trans (aA H1).2.1).alloc _);generalize hW0:(w1.alloc (.cells #[.slice (some ⟨w.heap.size+1+1,0,none⟩) s.size c1] 74))=W0
  rw[hW0] at HP HRB HB6 OQ HBA;obtain⟨dk,hdk⟩:∃ d,keyS key af=d:=⟨_,rfl⟩;have HD:=hide hdk
  have HKA:=hide (show Reads W0 1 (.slice (some ⟨w.heap.size,0,none⟩) 16 16) key.length (key.map gq) from by
    have:=Reads.su (aA HBA) (i:=0) (n:=16) (c:=16) (by omega) (by omega) (by unfold maxLen;omega);rw[<-aA HA] at this;simp only[List.drop_zero] at this;rw[List.take_of_length_le (by rw[List.length_map];omega)] at this;rw[hk]
    exact this)
  clear hdk
  have HPC:=hide (fun (W4:World) (pv:Value) (A3:Option Addr) (c3:Nat) (hX:Ext W0 W4) (hpv:Reads W4 1 pv 1 [.slice A3 (b_ af).length c3]) (hr:Reads W4 1 (.slice A3 (b_ af).length c3) (b_ af).length ((b_ af).map gq))=>aBd key (.slice (some ⟨w.heap.size,0,none⟩) 16 16) aPc [b_ af] pv W4 ((aA HM).ext ((aA HP).trans hX)) ((aA HKA).ext hX) (by omega) (by decide) ⟨[.slice A3 (b_ af).length c3],rfl,hpv,fun i p hp=>by
    cases i with
    |zero=>cases hp;exact⟨_,rfl,hr⟩
    |succ i=>simp at hp⟩ (by simp) (fun p hp=>by simp at hp;subst hp;have:=aY af;omega))
  go_cut [8] from 14 to 18 (fun s8 wx=>∃ g,s8=.pointer (some ⟨g,0,none⟩)/\Hid (au wx g 23 ((dk.map gq).toArray)/\Ext W0 wx/\W0.heap.size<=g))
  case first=>
    have HS:=hide (show ((dk.map gq).toArray).size=16 from by rw[<-aA HD];unfold keyS;simpa using eF _ _ _);refine wp_region_noPanic ?_
    go_region_law (first
      | (
       go_simp;go_at_call 107;refine (aA HW1 _).mono ?_;rintro e w3 ⟨A3,c3,rfl,ho3,ug⟩
       first
       |(have H3:=hide (show Reads w3 1 (.slice A3 (b_ af).length c3) (b_ af).length ((b_ af).map gq)/\Ext W0 w3/\True from And.intro (Reads.l9 ho3) (And.intro (((Ext.refl W0).drew).trans ug) trivial));clear ho3 ug)
       |(have H3:=hide (show Reads w3 1 (.slice A3 (b_ af).length c3) (b_ af).length ((b_ af).map gq)/\Ext W0 w3/\au w3 W0.heap.size 23 (Array.replicate 16 (.int .u8 0)) from And.intro (Reads.l9 ho3) (And.intro ((((Ext.refl W0).drew).alloc _).trans ug) ((au.new W0.drew _ _).ext ug)));clear ho3 ug))
      | (
       rename_i K hK;go_simp;go_at_call 106;refine (aA HPC _ _ A3 c3 ?_ ?_ ?_).mono ?_
       (focus (first|exact (aA H3).2.1.alloc _|exact ((aA H3).2.1.alloc _).alloc _))
       (focus (first|exact Reads.t_ _ _ _|exact (Reads.t_ _ _ _).ext ((Ext.refl _).alloc _)|(have h:=Reads.t_ (w3.alloc (.cells (Array.replicate 16 (.int .u8 0)) 23)) (.slice A3 (b_ af).length c3) 74;rw[World.size_alloc] at h;exact h)))
       (focus (first|exact (aA H3).1.ext ((Ext.refl _).alloc _)|exact (aA H3).1.ext (((Ext.refl _).alloc _).alloc _)))
       rintro e w5 ⟨rfl,DL⟩;rw[show kH key aPc.data.toList [b_ af]=dk from aA HD];have H5:=hide (show Ext W0 w5/\Ext _ w5 from And.intro (by first|exact ((aA H3).2.1.alloc _).trans DL|exact (((aA H3).2.1.alloc _).alloc _).trans DL) DL);clear DL;dsimp only;refine hK _ _ ?_;clear hK K
       first
       | (
        refine wpAny_ready (rs:=[5]) (by kernel_rfl) (by simp) (AllReady.cons rfl (fun J hJ=>?_) AllReady.nil);rw[if_pos (by rfl)]
        go_simp
        refine hJ _ _ ?_;clear hJ J;refine wpAny_ready (rs:=[6]) (by kernel_rfl) (by simp) (AllReady.cons rfl (fun J hJ=>?_) AllReady.nil);refine iI (ty:=23) (t:=23) (x:=.tmp 8) (y:=.tmp 18) rfl rfl aV rfl rfl (au.new w5 _ _) ?_ ?_ ?_ ?_
        · rfl
        · exact aA HS
        · exact dB _
        intro w7 hb7 DK Qu;have H7:=hide (And.intro hb7 (And.intro (((aA H5).1.alloc _).trans' DK (fun _ _ h=>h) (fun i hi e=>by have:=(aA H5).1.size';omega)) (aA H5).1.size'));clear hb7 DK Qu;refine hJ _ _ ?_
        clear hJ J)
       | (
        refine wpAny_ready (rs:=[6]) (by kernel_rfl) (by simp) (AllReady.cons rfl (fun J hJ=>?_) AllReady.nil);have hz3:=(aA H3).2.1.size';refine iI (ty:=23) (t:=23) (x:=.tmp 8) (y:=.tmp 18) (old:=Array.replicate 16 (.int .u8 0)) rfl rfl aV rfl rfl ?_ ?_ ?_ ?_ ?_
        · first|exact (((aA H3).2.2).alloc _).ext (aA H5).2|exact ((au.new w3 _ _).alloc _).ext (aA H5).2|exact (au.new' (w3.alloc _) _ _ (by simp)).ext (aA H5).2
        · rfl
        · exact aA HS
        · exact dB _
        intro w7 hb7 DK Qu;have H7:=hide (And.intro hb7 (And.intro ((aA H5).1.trans' DK (fun _ _ h=>h) (fun i hi e=>by omega)) (show W0.heap.size<=_ by omega)));clear hb7 DK Qu hz3;refine hJ _ _ ?_
        clear hJ J)))
    all_goals
      refine NoPanic.normal ?_
      go_wp2_with fail
      go_meet
      exact⟨_,rfl,hide ⟨(aA H7).1,(aA H7).2.1,by have:=(aA H7).2.2;omega⟩⟩
  case rest=>
    obtain⟨g8,rfl,H8⟩:=hcut;have HS:=hide (show ((dk.map gq).toArray).size=16/\dk.length=16 from by rw[<-aA HD];unfold keyS;exact⟨by simpa using eF _ _ _,eF _ _ _⟩);have c7:=((aA OQ).ext (aA H8).2.1).cell 0
    have HQ:=hide (fun (W:World) (hE:Ext wc W)=>aXi dk (.slice (some ⟨g8,0,none⟩) 16 16) s.size W ((aA HM).ext (((aA HP).trans (aA H8).2.1).trans hE)) (by
      have:=Reads.su ((aA H8).1.ext hE) (i:=0) (n:=16) (c:=16) (by rw[(aA HS).1];omega) (by omega) (by unfold maxLen;omega);simp only[List.drop_zero] at this;rw[List.take_of_length_le (by rw[List.length_map,(aA HS).2];omega)] at this;rw[(aA HS).2]
      exact this) (by have:=(aA HS).2;omega) (by omega))
    go_upto_region 4 with fail
    refine wp_region_noPanic ?_
    go_region_law (first
      | (
       go_simp;go_at_call 148;refine (aA HQ _ ((Ext.refl wc).drew)).mono ?_;rintro e w9 ⟨A9,c9,rfl,ho9,AB⟩
       have H9:=hide (And.intro ho9 (((Ext.refl wc).drew).trans AB))
       clear ho9 AB))
    refine NoPanic.normal ?_;obtain⟨x,hx⟩:∃ x,oV dk s.size=x:=⟨_,rfl⟩;have HX:=hide hx;rw[hx] at H9;obtain⟨sl,hsl⟩:∃ l,s.data.toList=l:=⟨_,rfl⟩
    have hsz:sl.length=s.size:=by rw[<-hsl,Array.length_toList];rfl
    have hsW:W0.heap.size=w1.heap.size+1:=by rw[<-hW0];simp
    have E9:Ext W0 w9:=(aA H8).2.1.trans (aA H9).2
    have hxl:x.length=sl.length:=by have:=(aA H9).1.1;rw[List.length_map] at this;omega
    have F9:=hide hsl;rw[hsl] at HRB;clear hx c7
    go_wp2
    go_simp
    go_loopw [24] (fun i wr=>∃ k:Nat,k<=s.size/\i=.int .i64 k/\Hid (Reads wr 1 (.slice (some ⟨w.heap.size+1+1,0,none⟩) s.size c1) s.size ((BA sl x k).map gq)/\(∀ i,i<s.size->wr.frozen? ⟨w.heap.size+1+1,i,none⟩=false)/\au wr w1.heap.size 74 #[.slice (some ⟨w.heap.size+1+1,0,none⟩) s.size c1]/\au wr (w.heap.size+1) 9 #[.string { data:=#[] }]/\dm (fun b=>b=w.heap.size+1+1) w9 wr)) (fun i _=>s.size-(intOf i).toNat)
    case atStart=>exact⟨0,Nat.zero_le _,rfl,hide ⟨by rw[bEf];exact (aA HRB).1.ext E9,fun i hi=>Ext.vw E9 ((aA HRB).2 i hi) (by show w.heap.size+1+1<_;omega),(aA OQ).ext E9,(aA HB6).ext E9,dm.refl _ _⟩⟩
    case round=>
      obtain⟨k,hk,rfl,HI⟩:=hrel
      by_cases hlt:k<s.size
      ·
        obtain⟨b,o,c',u,hv,_,_,hb,hu,hcc⟩:=(aA HI).1.DN hlt;cases hv;rw[List.getElem?_map,QT sl x k hxl (by omega)] at hu;cases hu;have hOX:=mW (aA H9).1 (aA HI).2.2.2.2 (fun j hj e=>by have h1:=((aA H9).1.lt j hj).1;have h2:=(aA H8).2.1.size';simp at h1;omega);obtain⟨b,o,c',u,hv,_,_,hb',hu,hcx⟩:=(Reads.l9 hOX).DN hlt;cases hv;rw[List.getElem?_map,zH (show k<x.length by omega)] at hu;cases hu;clear hOX
        have aDF:¬w1.heap.size=w.heap.size+1+1:=by have:=(aA H1).1.Cm (by omega) (by omega) _ rfl;simp at this;omega
        have c7:=(aA HI).2.2.1.cell 0;have hf:=(aA HI).2.1 k hlt;have HS2:=hide (bEg sl x k hxl (by omega));rw[Nat.zero_add] at hcc;unfold gq at hcc hcx;generalize sl[k]=y at *;generalize x[k]=z at *;have HX2:=hide (Ba y z)
        go_wp2
        go_roundw
        case rel=>
          refine⟨k+1,by omega,by go_num,hide ⟨?_,fun i hi=>by rw[World.frozen?_setCell];exact (aA HI).2.1 i hi,(aA HI).2.2.1.far' aDF k _,(aA HI).2.2.2.1.far' (by omega) k _,(aA HI).2.2.2.2.setCell (p:=⟨w.heap.size+1+1,k,none⟩) (.inl rfl) _⟩⟩
          rw[aA HS2,List.map_set];have:=(aA HI).1.set (k:=k) (by omega) (gq (y ^^^ z));rw[aA HX2];exact this
        case measure=>simp[intOf];omega
      ·
        obtain rfl:k=s.size:=by omega
        have hA:dV key af s.data.toList=BA sl x s.size:=by
          unfold dV;rw[aA HD,aA F9,hsz,aA HX,<-hsz,KE _ _ hxl]
        have hAl:(dV key af s.data.toList).length=s.size:=by rw[hA,aSr _ _ _ hxl (by omega),hsz]
        have hfin:Reads wr 1 (.slice (some ⟨w.heap.size+1+1,0,none⟩) s.size c1) (dV key af s.data.toList).length ((dV key af s.data.toList).map gq):=by rw[hAl,hA];exact (aA HI).1
        have HF:=hide hfin;have aDF:=hsz1;clear hA hAl hfin
        go_wp2
        refine leaves_cons (f:=147) (args:=#[.pointer (some ⟨w1.heap.size,0,none⟩),.pointer (some ⟨w.heap.size+1,0,none⟩)]) (by simp) (by simp[go_sem]) ?_;refine (XT (dV key af s.data.toList) _ _ _ _ .returning _ ((aA HI).2.2.1.cell 0) ((aA HI).2.2.2.1.cell 0) ((aA HI).2.2.2.1.frozen 0) (aA HF)).mono ?_;rintro e u' w'' ⟨rfl,rfl,rfl⟩;have hc6:(wr.setCell ⟨w.heap.size+1,0,none⟩ (.string (strOf (dV key af s.data.toList)))).cell? ⟨w.heap.size+1,0,none⟩=some (.string (strOf (dV key af s.data.toList))):=World.cell?_setCell_same' _ _ _ (by rw[(aA HI).2.2.2.1.cell 0];rfl)
        have hE:Ext w (wr.setCell ⟨w.heap.size+1,0,none⟩ (.string (strOf (dV key af s.data.toList)))):=((aA HP).trans E9).trans' ((dm.mono (T:=fun b=>b=w.heap.size+1+1\/b=w.heap.size+1) (aA HI).2.2.2.2 (fun _ _ h=>.inl h)).setCell (p:=⟨w.heap.size+1,0,none⟩) (.inl (.inr rfl)) _) (fun _ _ h=>h.elim) (fun i hi e=>by omega);simp[Leaves,settle,results,Tryz.results105,go_sem,hc6];exact hE
theorem aDd:u_ Tryz.prog 27 18:=⟨⟨_,Tryz.underlying27,rfl⟩,by kernel_rfl⟩
def BU(n:Int)(c:ByteArray)(t:List UInt8):Array Value:=(Value.int .i64 n::Value.string c::t.map gq).toArray
theorem eY(key:List UInt8)(af:Int)(s:List UInt8):(dV key af s).length=s.length:=by
 unfold dV;rw[List.length_zipWith,qM];simp
theorem Ky{l:List UInt8}(h:l.length=16):∃ t0 t1 t2 t3 t4 t5 t6 t7 t8 t9 t10 t11 t12 t13 t14 t15,l=[t0,t1,t2,t3,t4,t5,t6,t7,t8,t9,t10,t11,t12,t13,t14,t15]:=by
 match l,h with
 |[t0,t1,t2,t3,t4,t5,t6,t7,t8,t9,t10,t11,t12,t13,t14,t15],_=>exact⟨t0,t1,t2,t3,t4,t5,t6,t7,t8,t9,t10,t11,t12,t13,t14,t15,rfl⟩
theorem IJ (key : List UInt8) (af:Int) (s:ByteArray) (w:World) (hM:a_ w) (hk:key.length=16) (h1:-9223372036854775808<=af) (h2:af<9223372036854775808) (hs:s.size<=100000) :
    Calls Tryz.prog 103 #[.agg (key.map gq).toArray,.int .i64 af,.string s] w fun e w'=>e=.returned (.agg (BU af (strOf (dV key af s.data.toList)) (qg key af (dV key af s.data.toList))))/\Ext w w':=by
  obtain⟨arr,harr⟩:∃ r,(key.map gq).toArray=r:=⟨_,rfl⟩;have HM:=hide hM;have DR:=hide (fun W hW=>aGo key af s W hW hk h1 h2 hs);rw[harr] at DR ⊢
  have zu:arr.size=16:=by rw[<-harr];simpa using hk
  have h1c:arr.all (·.oneCell')=true:=by rw[<-harr];exact dB _
  have HA:=hide harr;clear hM harr
  go_enter Tryz.func103,Tryz.ntmps103
  obtain⟨cs,hcs⟩:∃ c,strOf (dV key af s.data.toList)=c:=⟨_,rfl⟩
  have hcl:cs.data.toList=dV key af s.data.toList:=by rw[<-hcs];exact dD _
  have hcz : cs.size <= 100000 := by
   have h:cs.data.toList.length=s.data.toList.length:=by rw[hcl,eY]
   rw[Array.length_toList,Array.length_toList] at h;have h2:cs.size=s.size:=h;omega
  have CW:=hide (fun W hW=>aRh key af cs W hW hk h1 h2 hcz);rw[aA HA,hcl] at CW;rw[hcs] at DR ⊢;have G5:=hide (fE key af (dV key af s.data.toList));generalize qg key af (dV key af s.data.toList)=tg at *;clear hcs hcl;obtain⟨t0,t1,t2,t3,t4,t5,t6,t7,t8,t9,t10,t11,t12,t13,t14,t15,rfl⟩:=Ky (aA G5)
  go_wp2_with (first
    |(refine dL (x:=.tmp 3) rfl rfl aV rfl (cs:=arr) (g:=w.heap.size) (by first|exact (au.new w _ _).alloc _|assumption) zu ?_)
    | (
     go_at_call 105;refine (aA DR _ ((aA HM).ext (((Ext.refl w).alloc _).alloc _))).mono ?_;rintro e w1 ⟨rfl,hE1⟩
     have hba:au w1 w.heap.size 23 arr:=((au.new w _ _).alloc _).ext hE1;have hbb:=(au.new' (g:=w.heap.size+1) (w.alloc (.cells arr 23)) _ _ (by simp)).ext hE1
     have H1:=hide (show Ext w w1/\au w1 (w.heap.size+1) 27 (#[.int .i64 0,.string { data:=#[] }]++Array.replicate 16 (.int .u8 0)) from And.intro ((((Ext.refl w).alloc _).alloc _).trans hE1) hbb);clear hE1 hbb)
    |(go_at_call 104;refine (aA CW _ ((aA HM).ext (aA H1).1)).mono ?_;rintro e w2 ⟨rfl,hE2⟩;have H2:=hide (And.intro ((aA H1).1.trans hE2) ((aA H1).2.ext hE2));clear hE2)
    |(refine aT (ty:=27) (t:=27) (x:=.tmp 6) (y:=.tmp 18) rfl rfl aDd rfl rfl (aA H2).2 (by simp) rfl (by rw[<-Array.all_toList];rfl) ?_;intro w3 hb3 hc3 hz3;have H3:=hide (And.intro hb3 hc3);clear hb3 hc3 hz3))
  refine bodyPost_ret (dJ aDd rfl (aA H3).1 rfl rfl) rfl ⟨rfl,?_⟩;exact (aA H2).1.trans' (aA H3).2 (fun _ _ h=>h) (fun i hi e=>by omega)
theorem ylm{S:World->Prop}{ops:Array Oper}{o:Oper}{a:Act}{T:TypeId}{n:Nat}(Wd:u_ Tryz.prog T n){x:Operand}(ho:o.op=.load T x)(hw:Region.wanted o (yielded ops a.tmps)=true){g off:Nat}{cs:List Value}(hx:a.eval x=.pointer (some ⟨g,off,none⟩))(hn:cs.length=n)(hB:∀ w,S w->w.rangeAt g off cs):YieldsIf Tryz.prog ops S o (.agg cs.toArray) a:=by
 obtain⟨d,hu,hd⟩:=Wd.und;exact yieldsIf_load_mid (P:=Tryz.prog) (S:=S) hw T x ho g off hx cs d hB hu hd (by rw[hn];exact Wd.info)
theorem Y0{S:World->Prop}{ops:Array Oper}{o:Oper}{a:Act}{T:TypeId}{n:Nat}(Wd:u_ Tryz.prog T n){x:Operand}(ho:o.op=.load T x)(hw:Region.wanted o (yielded ops a.tmps)=true){g:Nat}{t:TypeId}{cs:Array Value}(hx:a.eval x=.pointer (some ⟨g,0,none⟩))(hn:cs.size=n)(hB:∀ w,S w->au w g t cs):YieldsIf Tryz.prog ops S o (.agg cs) a:=by
 have:=ylm (S:=S) (ops:=ops) (o:=o) (a:=a) Wd ho hw (cs:=cs.toList) hx (by rw[Array.length_toList,hn]) (fun w h=>(hB w h).range);rwa [Array.toArray_toList] at this
theorem aAm{w:World}{g:Nat}{t:TypeId}{pre l:List Value}(h:au w g t (pre++l).toArray):w.rangeAt g pre.length l:=fun j v hj=>by
 rw[h.cell,List.getElem?_toArray,List.getElem?_append_right (by omega),show pre.length+j-pre.length=j from by omega];exact hj
theorem aEn{w w':World}{g o:Nat}{cs:List Value}(h:w.rangeAt g o cs)(hE:Ext w w'):w'.rangeAt g o cs:=fun j v hj=>Ext.jd hE (h j v hj)
theorem aCu{w w1 w2:World}{o:Obj}(h:Ext w w1)(hc:dm (fun k=>k=w1.heap.size) (w1.alloc o) w2):Ext w w2:=(h.alloc _).trans' hc (fun _ _ h=>h) (fun i hi e=>by have:=h.size';omega)
theorem vC{w1 w2:World}{o:Obj}(hc:dm (fun k=>k=w1.heap.size) (w1.alloc o) w2):Ext w1 w2:=aCu (Ext.refl w1) hc
theorem yL{P:Program}{ops:Array Oper}{rest:List Oper}{o:Oper}{a:Act}{w:World}{Q:Exit->Act->World->Prop}(hgd:Region.wanted o (yielded ops a.tmps)=true){ty:TypeId}{x:Operand}(ho:o.op=.load ty x){n:Nat}(W:u_ P ty n)
  {g off:Nat} (hx:a.eval x=.pointer (some ⟨g,off,none⟩)) {cs:List Value} (hB:w.rangeAt g off cs) (hn:cs.length=n) (h:wpList P ops Q rest (a.put o.dst (.agg cs.toArray)) w):wpList P ops Q (o::rest) a w:=by
 obtain⟨d,hu,hd⟩:=W.und;exact Go.BigFrame.wpList_want hgd fun _ hK=>wp_load_mid ty x ho g off hx cs d hB hu hd (by rw[hn];exact W.info) (hK _ _ h)
section
variable {P:Program}
theorem wU{e:TypeId}(hu:P.underlying e=some (.int .u8))(he:P.plainKey e=true)(d:Nat)(a b:List UInt8)(w:World):∀ is:List Nat,(∀ i∈is,i<a.length/\i<b.length) ->
  (Op.eqItems (d+1) e 1 (a.map qR).toArray (b.map qR).toArray is).run P w=.ok (is.all fun i=>a.getD i 0==b.getD i 0) w
 |[],_=>by simp[Op.eqItems]
 | i::is,h=>by
  obtain⟨h1,h2⟩:=h i (by simp);have p1:(part e (a.map qR).toArray (i*1)).run P w=.ok (qR a[i]) w:=run_part_plain w he (by simp[zH h1]);have p2:(part e (b.map qR).toArray (i*1)).run P w=.ok (qR b[i]) w:=run_part_plain w he (by simp[zH h2])
  have p3:(Op.equalIn (d+1) e (qR a[i]) (qR b[i])).run P w=.ok (a[i]==b[i]) w:=by
   simp[Op.equalIn,run_underlying hu,qR];rw[Bool.eq_iff_iff];simp
   exact⟨fun h=>UInt8.toNat_inj.1 (Int.ofNat_inj.1 h),fun h=>by rw[h]⟩
  have ih:=wU hu he d a b w is fun j hj=>h j (by simp[hj]);simp only[Op.eqItems,Sem.run_bind,p1,p2,p3,Result.andThen_ok];rw[List.all_cons,zG,zG,zH h1,zH h2];simp only[Option.getD_some]
  by_cases hab:a[i]=b[i]
  ·simpa[hab] using ih
  ·simp[hab]
theorem all_eq(a b:List UInt8)(n:Nat)(ha:a.length=n)(hb:b.length=n):((List.range n).all fun i=>a.getD i 0==b.getD i 0)=decide (a=b):=by
 rw[Bool.eq_iff_iff];simp only[List.all_eq_true,List.mem_range,beq_iff_eq,decide_eq_true_eq]
 constructor
 ·intro h;apply List.ext_getElem (by omega);intro i h1 h2;have:=h i (by omega)
  simpa[zG,zH h1,zH h2] using this
 ·rintro rfl i _;rfl
theorem aKi{t e:TypeId}{n:Nat}(hu:P.underlying t=some (.array n e))(hue:P.underlying e=some (.int .u8))(he:P.plainKey e=true){inf:TypeInfo}(hi:P.info? e=some inf)(h1:P.cellsOf e=1){a b:List UInt8}(ha:a.length=n)(hb:b.length=n)(w:World) :
  (binOp .neq t (.agg (a.map qR).toArray) (.agg (b.map qR).toArray)).run P w=.ok (.bool (!decide (a=b))) w:=by
 have h:=run_equalIn_array (P:=P) w 9999 (a.map qR).toArray (b.map qR).toArray hu hi;rw[h1,wU hue he 9998 a b w _ (fun i hm=>by rw[List.mem_range] at hm;omega),all_eq a b n ha hb] at h;simp only[binOp];simp[Op.equal,Op.maxDepth,h]
end
theorem Reads.aMV(w:World)(cs:Array Value)(e:TypeId)(fr:Nat×Nat)(n c:Nat)(xs:List Value){g:Nat}(hg:g=w.heap.size)(hx:xs.length=n)(hc:n<=c)(hm:c<=maxLen)(ht:cs.toList.take xs.length=xs) :
  Reads (w.alloc (.cells cs e fr)) 1 (.slice (some ⟨g,0,none⟩) n c) n xs:=by
 subst hg
 refine⟨by rw[hx,Nat.mul_one],_,c,rfl,hc,hm,fun _=>⟨w.heap.size,0,rfl,fun j u hu=>?_⟩⟩
 have hj:j<xs.length:=by
  rcases Nat.lt_or_ge j xs.length with h|h
  ·exact h
  ·rw[List.getElem?_eq_none h] at hu;cases hu
 rw[Nat.zero_add,World.cell?_alloc_mark];rw[<-ht,List.getElem?_take,if_pos hj] at hu
 simpa using hu
end
theorem Gw:Tryz.prog.plainKey 5=true:=by kernel_rfl
theorem Ug:Tryz.prog.cellsOf 5=1:=by kernel_rfl
theorem QQ{a b:List UInt8}(ha:a.length=16)(hb:b.length=16)(w:World):(binOp .neq 23 (.agg (a.map gq).toArray) (.agg (b.map gq).toArray)).run Tryz.prog w=.ok (.bool (!decide (a=b))) w:=
 aKi (inf:=_) Tryz.underlying23 Tryz.underlying5 Gw rfl Ug ha hb w
theorem QG(key:List UInt8)(af:Int)(c:ByteArray)(t:List UInt8)(w:World)(hM:a_ w)(hk:key.length=16)(ht:t.length=16)(h1:-9223372036854775808<=af)(h2:af<9223372036854775808)(hs:c.size<=100000)
  (hno:¬qg key af c.data.toList=t) :
  Calls Tryz.prog 81 #[.agg (key.map gq).toArray,.agg (BU af c t)] w fun e w'=>e=.returned (.tuple #[.string { data:=#[] },.int .i64 8])/\Ext w w':=by
 obtain⟨arr,harr⟩:∃ r,(key.map gq).toArray=r:=⟨_,rfl⟩;have HM:=hide hM;have DR:=hide (fun W hW=>aGo key af c W hW hk h1 h2 hs);have CW:=hide (fun W hW=>aRh key af c W hW hk h1 h2 hs);rw[harr] at DR CW ⊢
 have zu:arr.size=16:=by rw[<-harr];simpa using hk
 have G5:=hide (show (t.map gq).length=16 from by simpa using ht);have hne:=fun W=>QQ (fE key af c.data.toList) ht W;rw[decide_eq_false hno] at hne;obtain⟨tv,Di⟩:∃ l,t.map gq=l:=⟨_,rfl⟩
 have hbx:BU af c t=(Value.int .i64 af::Value.string c::tv).toArray:=by rw[<-Di];rfl
 rw[Di] at hne G5;rw[hbx];obtain⟨tg,EL⟩:∃ l,(qg key af c.data.toList).map gq=l:=⟨_,rfl⟩;rw[EL] at hne CW
 have HQ:=hide (show au ((w.alloc (.cells arr 23)).alloc (.cells (Value.int .i64 af::Value.string c::tv).toArray 27)) w.heap.size 23 arr /\
   ((w.alloc (.cells arr 23)).alloc (.cells (Value.int .i64 af::Value.string c::tv).toArray 27)).cell? ⟨w.heap.size+1,0,none⟩=some (.int .i64 af) /\
   ((w.alloc (.cells arr 23)).alloc (.cells (Value.int .i64 af::Value.string c::tv).toArray 27)).cell? ⟨w.heap.size+1,1,none⟩=some (.string c) /\
   ((w.alloc (.cells arr 23)).alloc (.cells (Value.int .i64 af::Value.string c::tv).toArray 27)).rangeAt (w.heap.size+1) 2 tv from
  ⟨(au.new w _ _).alloc _,fH _ _ _ (by simp) rfl,fH _ _ _ (by simp) rfl,aAm (pre:=[Value.int .i64 af,Value.string c]) (au.new' _ _ _ (by simp))⟩)
 have HF:=hide (fun W (hE:Ext ((w.alloc (.cells arr 23)).alloc (.cells (Value.int .i64 af::Value.string c::tv).toArray 27)) W)=>And.intro (Ext.jd hE (aA HQ).2.1) (Ext.jd hE (aA HQ).2.2.1));clear hM harr Di hbx EL
 go_enter Tryz.func81,Tryz.ntmps81
 go_upto_region 1 with fail
 refine wp_region_held_drew (S:=fun w'=>Ext ((w.alloc (.cells arr 23)).alloc (.cells (Value.int .i64 af::Value.string c::tv).toArray 27)) w') (by kernel_rfl) (Ext.refl _).drew (fun hHeld=>?_);refine wpAnyH_take (i:=0) (v:=_) rfl (by kernel_rfl) (by kernel_rfl) (by kernel_rfl) (fun _ _ _ h=>h) (Y0 aV rfl (by rfl) rfl zu (fun w' hw=>(aA HQ).1.ext hw)) (by assumption) ?_
 try simp only[Act.put,zA,zB,zC,zD,zF]
 refine wpAnyH_take (i:=1) (v:=?_) rfl (by kernel_rfl) (by kernel_rfl) (by kernel_rfl) (fun _ _ _ h=>h) (Or.inl ⟨by rfl,fun wz hSz=>?_⟩) (by assumption) ?_;rotate_left
 ·(first|(go_simp;done)|(go_simp;with_reducible rfl)|(obtain⟨f1,f2⟩:=(aA HF) wz hSz;clear hSz;first|(go_simp;done)|(go_simp;with_reducible rfl)))
 try simp only[Act.put,zA,zB,zC,zD,zE,zF]
 refine wpAnyH_take (i:=2) (v:=?_) rfl (by kernel_rfl) (by kernel_rfl) (by kernel_rfl) (fun _ _ _ h=>h) (Or.inl ⟨by rfl,fun wz hSz=>?_⟩) (by assumption) ?_;rotate_left
 ·(first|(go_simp;done)|(go_simp;with_reducible rfl)|(obtain⟨f1,f2⟩:=(aA HF) wz hSz;clear hSz;first|(go_simp;done)|(go_simp;with_reducible rfl)))
 try simp only[Act.put,zA,zB,zC,zD,zE,zF]
 refine wpAnyH_take (i:=3) (v:=?_) rfl (by kernel_rfl) (by kernel_rfl) (by kernel_rfl) (fun _ _ _ h=>h) (Or.inl ⟨by rfl,fun wz hSz=>?_⟩) (by assumption) ?_;rotate_left
 ·(first|(go_simp;done)|(go_simp;with_reducible rfl)|(obtain⟨f1,f2⟩:=(aA HF) wz hSz;clear hSz;first|(go_simp;done)|(go_simp;with_reducible rfl)))
 try simp only[Act.put,zA,zB,zC,zD,zE,zF]
 refine wpAnyH_take (i:=4) (v:=?_) rfl (by kernel_rfl) (by kernel_rfl) (by kernel_rfl) (fun _ _ _ h=>h) (Or.inl ⟨by rfl,fun wz hSz=>?_⟩) (by assumption) ?_;rotate_left
 ·(first|(go_simp;done)|(go_simp;with_reducible rfl)|(obtain⟨f1,f2⟩:=(aA HF) wz hSz;clear hSz;first|(go_simp;done)|(go_simp;with_reducible rfl)))
 try simp only[Act.put,zA,zB,zC,zD,zE,zF]
 refine wpAnyH_take (i:=6) (v:=?_) rfl (by kernel_rfl) (by kernel_rfl) (by kernel_rfl) (fun _ _ _ h=>h) (Or.inl ⟨by rfl,fun wz hSz=>?_⟩) (by assumption) ?_;rotate_left
 ·(first|(go_simp;done)|(go_simp;with_reducible rfl)|(obtain⟨f1,f2⟩:=(aA HF) wz hSz;clear hSz;first|(go_simp;done)|(go_simp;with_reducible rfl)))
 try simp only[Act.put,zA,zB,zC,zD,zE,zF]
 refine wpAnyH_take (i:=7) (v:=_) rfl (by kernel_rfl) (by kernel_rfl) (by kernel_rfl) (fun _ _ _ h=>h) (ylm aV rfl (by rfl) rfl (aA G5) (fun w' hw=>aEn (aA HQ).2.2.2 hw)) (by assumption) ?_
 try simp only[Act.put,zA,zB,zC,zD,zE,zF]
 refine wpAnyH_ready (rs:=[5]) (by kernel_rfl) (by simp) (AllReadyH.cons (o:=_) rfl (fun K hK=>?_) AllReadyH.nil)
 go_simp
 refine (aA CW _ ((aA HM).ext ((((Ext.refl w).alloc _).alloc _).trans hHeld))).mono ?_;rintro e w5 ⟨rfl,DL⟩;have hS:=Ext.trans hHeld DL;clear DL hHeld;refine hK.out _ _ ?_ (fun hHeld=>?_)
 ·exact hS
 clear hK K
 try simp only[Act.put,zA,zB,zC,zD,zE,zF]
 refine wpAnyH_take (i:=8) (v:=?_) rfl (by kernel_rfl) (by kernel_rfl) (by kernel_rfl) (fun _ _ _ h=>h) (Or.inl ⟨by rfl,fun wz hSz=>?_⟩) (by assumption) ?_;rotate_left
 ·(first|(go_simp;done)|(go_simp;with_reducible rfl)|(obtain⟨f1,f2⟩:=(aA HF) wz hSz;clear hSz;first|(go_simp;done)|(go_simp;with_reducible rfl)))
 try simp only[Act.put,zA,zB,zC,zD,zE,zF]
 refine wpAnyH_done (by kernel_rfl) ?_ _
 go_wp2
 go_ret2
 exact⟨rfl,(((Ext.refl w).alloc _).alloc _).trans hHeld⟩
theorem JP(key:List UInt8)(af:Int)(c:ByteArray)(t:List UInt8)(w:World)(hM:a_ w)(hk:key.length=16)(ht:t.length=16)(h1:-9223372036854775808<=af)(h2:af<9223372036854775808)(hs:c.size<=100000)
  (hyes:qg key af c.data.toList=t) :
  Calls Tryz.prog 81 #[.agg (key.map gq).toArray,.agg (BU af c t)] w fun e w'=>e=.returned (.tuple #[.string (strOf (dV key af c.data.toList)),.int .i64 0])/\Ext w w':=by
 obtain⟨arr,harr⟩:∃ r,(key.map gq).toArray=r:=⟨_,rfl⟩;have HM:=hide hM;have DR:=hide (fun W hW=>aGo key af c W hW hk h1 h2 hs);have CW:=hide (fun W hW=>aRh key af c W hW hk h1 h2 hs);rw[harr] at DR CW ⊢
 have zu:arr.size=16:=by rw[<-harr];simpa using hk
 have G5:=hide (show (t.map gq).length=16 from by simpa using ht);have hne:=fun W=>QQ (fE key af c.data.toList) ht W;rw[decide_eq_true hyes] at hne;obtain⟨tv,Di⟩:∃ l,t.map gq=l:=⟨_,rfl⟩
 have hbx:BU af c t=(Value.int .i64 af::Value.string c::tv).toArray:=by rw[<-Di];rfl
 rw[Di] at hne G5;rw[hbx];obtain⟨tg,EL⟩:∃ l,(qg key af c.data.toList).map gq=l:=⟨_,rfl⟩;rw[EL] at hne CW
 have HQ:=hide (show au ((w.alloc (.cells arr 23)).alloc (.cells (Value.int .i64 af::Value.string c::tv).toArray 27)) w.heap.size 23 arr /\
   ((w.alloc (.cells arr 23)).alloc (.cells (Value.int .i64 af::Value.string c::tv).toArray 27)).cell? ⟨w.heap.size+1,0,none⟩=some (.int .i64 af) /\
   ((w.alloc (.cells arr 23)).alloc (.cells (Value.int .i64 af::Value.string c::tv).toArray 27)).cell? ⟨w.heap.size+1,1,none⟩=some (.string c) /\
   ((w.alloc (.cells arr 23)).alloc (.cells (Value.int .i64 af::Value.string c::tv).toArray 27)).rangeAt (w.heap.size+1) 2 tv from
  ⟨(au.new w _ _).alloc _,fH _ _ _ (by simp) rfl,fH _ _ _ (by simp) rfl,aAm (pre:=[Value.int .i64 af,Value.string c]) (au.new' _ _ _ (by simp))⟩)
 have HF:=hide (fun W (hE:Ext ((w.alloc (.cells arr 23)).alloc (.cells (Value.int .i64 af::Value.string c::tv).toArray 27)) W)=>And.intro (Ext.jd hE (aA HQ).2.1) (Ext.jd hE (aA HQ).2.2.1));clear hM harr Di hbx EL
 go_enter Tryz.func81,Tryz.ntmps81
 go_upto_region 1 with fail
 refine wp_region_held_drew (S:=fun w'=>Ext ((w.alloc (.cells arr 23)).alloc (.cells (Value.int .i64 af::Value.string c::tv).toArray 27)) w') (by kernel_rfl) (Ext.refl _).drew (fun hHeld=>?_);refine wpAnyH_take (i:=0) (v:=_) rfl (by kernel_rfl) (by kernel_rfl) (by kernel_rfl) (fun _ _ _ h=>h) (Y0 aV rfl (by rfl) rfl zu (fun w' hw=>(aA HQ).1.ext hw)) (by assumption) ?_
 try simp only[Act.put,zA,zB,zC,zD,zF]
 refine wpAnyH_take (i:=1) (v:=?_) rfl (by kernel_rfl) (by kernel_rfl) (by kernel_rfl) (fun _ _ _ h=>h) (Or.inl ⟨by rfl,fun wz hSz=>?_⟩) (by assumption) ?_;rotate_left
 ·(first|(go_simp;done)|(go_simp;with_reducible rfl)|(obtain⟨f1,f2⟩:=(aA HF) wz hSz;clear hSz;first|(go_simp;done)|(go_simp;with_reducible rfl)))
 try simp only[Act.put,zA,zB,zC,zD,zE,zF]
 refine wpAnyH_take (i:=2) (v:=?_) rfl (by kernel_rfl) (by kernel_rfl) (by kernel_rfl) (fun _ _ _ h=>h) (Or.inl ⟨by rfl,fun wz hSz=>?_⟩) (by assumption) ?_;rotate_left
 ·(first|(go_simp;done)|(go_simp;with_reducible rfl)|(obtain⟨f1,f2⟩:=(aA HF) wz hSz;clear hSz;first|(go_simp;done)|(go_simp;with_reducible rfl)))
 try simp only[Act.put,zA,zB,zC,zD,zE,zF]
 refine wpAnyH_take (i:=3) (v:=?_) rfl (by kernel_rfl) (by kernel_rfl) (by kernel_rfl) (fun _ _ _ h=>h) (Or.inl ⟨by rfl,fun wz hSz=>?_⟩) (by assumption) ?_;rotate_left
 ·(first|(go_simp;done)|(go_simp;with_reducible rfl)|(obtain⟨f1,f2⟩:=(aA HF) wz hSz;clear hSz;first|(go_simp;done)|(go_simp;with_reducible rfl)))
 try simp only[Act.put,zA,zB,zC,zD,zE,zF]
 refine wpAnyH_take (i:=4) (v:=?_) rfl (by kernel_rfl) (by kernel_rfl) (by kernel_rfl) (fun _ _ _ h=>h) (Or.inl ⟨by rfl,fun wz hSz=>?_⟩) (by assumption) ?_;rotate_left
 ·(first|(go_simp;done)|(go_simp;with_reducible rfl)|(obtain⟨f1,f2⟩:=(aA HF) wz hSz;clear hSz;first|(go_simp;done)|(go_simp;with_reducible rfl)))
 try simp only[Act.put,zA,zB,zC,zD,zE,zF]
 refine wpAnyH_take (i:=6) (v:=?_) rfl (by kernel_rfl) (by kernel_rfl) (by kernel_rfl) (fun _ _ _ h=>h) (Or.inl ⟨by rfl,fun wz hSz=>?_⟩) (by assumption) ?_;rotate_left
 ·(first|(go_simp;done)|(go_simp;with_reducible rfl)|(obtain⟨f1,f2⟩:=(aA HF) wz hSz;clear hSz;first|(go_simp;done)|(go_simp;with_reducible rfl)))
 try simp only[Act.put,zA,zB,zC,zD,zE,zF]
 refine wpAnyH_take (i:=7) (v:=_) rfl (by kernel_rfl) (by kernel_rfl) (by kernel_rfl) (fun _ _ _ h=>h) (ylm aV rfl (by rfl) rfl (aA G5) (fun w' hw=>aEn (aA HQ).2.2.2 hw)) (by assumption) ?_
 try simp only[Act.put,zA,zB,zC,zD,zE,zF]
 refine wpAnyH_ready (rs:=[5]) (by kernel_rfl) (by simp) (AllReadyH.cons (o:=_) rfl (fun K hK=>?_) AllReadyH.nil)
 go_simp
 refine (aA CW _ ((aA HM).ext ((((Ext.refl w).alloc _).alloc _).trans hHeld))).mono ?_;rintro e w5 ⟨rfl,DL⟩;have hS:=Ext.trans hHeld DL;clear DL hHeld;refine hK.out _ _ ?_ (fun hHeld=>?_)
 ·exact hS
 clear hK K
 try simp only[Act.put,zA,zB,zC,zD,zE,zF]
 refine wpAnyH_take (i:=8) (v:=?_) rfl (by kernel_rfl) (by kernel_rfl) (by kernel_rfl) (fun _ _ _ h=>h) (Or.inl ⟨by rfl,fun wz hSz=>?_⟩) (by assumption) ?_;rotate_left
 ·(first|(go_simp;done)|(go_simp;with_reducible rfl)|(obtain⟨f1,f2⟩:=(aA HF) wz hSz;clear hSz;first|(go_simp;done)|(go_simp;with_reducible rfl)))
 try simp only[Act.put,zA,zB,zC,zD,zE,zF]
 refine wpAnyH_done (by kernel_rfl) ?_ _
 have HQ2:=hide (show au w5 w.heap.size 23 arr/\w5.cell? ⟨w.heap.size+1,0,none⟩=some (.int .i64 af)/\w5.cell? ⟨w.heap.size+1,1,none⟩=some (.string c)/\Ext w w5 from
  ⟨(aA HQ).1.ext hHeld,Ext.jd hHeld (aA HQ).2.1,Ext.jd hHeld (aA HQ).2.2.1,(((Ext.refl w).alloc _).alloc _).trans hHeld⟩)
 have c1:=(aA HQ2).2.1;have c2:=(aA HQ2).2.2.1;clear hHeld HQ HF
 go_wp2_with (first
  |(refine dL (x:=.tmp 2) rfl rfl aV rfl (cs:=arr) (aA HQ2).1 zu ?_)
  |(go_at_call 105;refine (aA DR _ ((aA HM).ext (aA HQ2).2.2.2)).mono ?_;rintro e w6 ⟨rfl,Ai⟩;have H6:=hide Ai;clear Ai))
 go_ret2
 exact⟨rfl,(aA HQ2).2.2.2.trans (aA H6)⟩

theorem GY(a x:UInt8):(a ^^^ x) ^^^ x=a:=by rw[UInt8.xor_assoc,UInt8.xor_self,UInt8.xor_zero]
theorem GV(s x:List UInt8)(h:s.length<=x.length):List.zipWith (· ^^^ ·) (List.zipWith (· ^^^ ·) s x) x=s:=by
 induction s generalizing x with
 |nil=>simp
 | cons a s ih=>
  cases x with
  |nil=>simp at h
  |cons b x=>
   simp only[List.zipWith_cons_cons];rw[GY,ih x (by simpa using h)]
theorem aJo(key:List UInt8)(af:Int)(s:List UInt8):dV key af (dV key af s)=s:=by
 have hl:=eY key af s;unfold dV at hl ⊢;rw[hl];exact GV _ _ (by rw[qM];simp)
def AL(n:Int)(c:ByteArray)(l:List Value):Array Value:=(Value.int .i64 n::Value.string c::l).toArray
theorem bHn(n:Int)(c:ByteArray)(t:List UInt8):BU n c t=AL n c (t.map gq):=rfl
theorem aJl{w:World}{g:Nat}{t:TypeId}{n:Int}{c:ByteArray}{l:List Value}(h:au w g t (AL n c l)):w.rangeAt g 2 l:=aAm (pre:=[Value.int .i64 n,Value.string c]) h
theorem qN(x:UInt32)(n:Nat)(nI:Int)(hI:nI=(n:Int))(w:World)(hn:0<n)(hn2:n<32) :
  Calls Tryz.prog 164 #[.int .u32 (x.toNat:Int),.int .i64 nI] w fun e w'=>e=.returned (.int .u32 ((dZ x (UInt32.ofNat n)).toNat:Int))/\∃ k,w'=w.drewN k:=by
 subst hI
 have h0:=hide (show bits BinOp.or IntKind.u32 ((x.toNat:Int) / 2 ^ n) ((x.toNat:Int)*2 ^ (32-n) % 4294967296)=((dZ x (UInt32.ofNat n)).toNat:Int) from by
  rw[Zi x (32-n) (by omega),bBv x n hn2,FK];unfold dZ
  have e:UInt32.ofNat (32-n)=32-UInt32.ofNat n:=by
   apply UInt32.toNat_inj.1;rw[UInt32.toNat_sub];simp;omega
  rw[e])
 have hx:=x.toNat_lt
 have h2:IntKind.i64.wrap (32-(n:Int))=((32-n:Nat):Int):=by
  rw[show (32:Int)-(n:Int)=((32-n:Nat):Int) by omega];exact IntWalk.i64_in _ (by omega)
 go_enter Tryz.func164,Tryz.ntmps164
 go_wp2
 go_quiet (fail)
 go_wp2
 go_ret
 exact⟨rW (aA h0),_,rfl⟩
theorem P9:zn Tryz.prog 200 203 1 4:=zn.mk' (z:=.int .u32 0) (by kernel_rfl) (by kernel_rfl) rfl (by omega) (by omega)
def hexD(c:UInt8):UInt32:=if 97<=c.toNat then (c-97+10).toUInt32 else (c-48).toUInt32
def UN(l:List UInt8)(i k:Nat):UInt32:=((l.drop (8*i)).take k).foldl (fun w c=>16*w+hexD c) 0
def sQ(l:List UInt8)(i:Nat):UInt32:=UN l i 8
theorem aYx(l:List UInt8)(i k:Nat)(h:8*i+k<l.length):UN l i (k+1)=16*UN l i k+hexD l[8*i+k]:=by
 unfold UN;rw[kQ _ k (by simp;omega),List.foldl_append];simp
theorem WU(c:UInt8)(h:c.toNat<97):((c.toNat:Int)-48) % 256=((hexD c).toNat:Int):=by
 unfold hexD;rw[if_neg (by omega),UInt8.toNat_toUInt32,UInt8.toNat_sub,show (48:UInt8).toNat=48 from rfl];have:=c.toNat_lt;omega
theorem WV(c:UInt8)(h:97<=c.toNat):(c.toNat:Int)-97+10=((hexD c).toNat:Int):=by
 unfold hexD;rw[if_pos h,UInt8.toNat_toUInt32,UInt8.toNat_add,UInt8.toNat_sub,show (97:UInt8).toNat=97 from rfl,show (10:UInt8).toNat=10 from rfl];have:=c.toNat_lt;omega
theorem LQ(a d:UInt32):(16*(a.toNat:Int) % 4294967296+(d.toNat:Int)) % 4294967296=((16*a+d).toNat:Int):=by
 rw[UInt32.toNat_add,UInt32.toNat_mul];simp
theorem Gm(s:ByteArray)(i:Nat)(w:World)(hs:s.size<=100000)(hi:8*i+8<=s.size) :
  Calls Tryz.prog 163 #[.string s,.int .i64 (i:Int)] w fun e w'=>e=.returned (.int .u32 ((sQ s.data.toList i).toNat:Int))/\w=w':=by
 have e8:IntKind.i64.wrap (8*(i:Int))=8*(i:Int):=IntWalk.i64_in _ (by omega)
 go_enter Tryz.func163,Tryz.ntmps163
 go_wp2
 go_loop [5,6] (fun a b=>∃ k:Nat,k<=8/\b=.int .i64 ((8*i+k:Nat):Int)/\a=.int .u32 ((UN s.data.toList i k).toNat:Int)) (fun _ b=>8*i+8-(intOf b).toNat)
 case atStart=>exact⟨0,Nat.zero_le _,by simp,rfl⟩
 case round=>
  obtain⟨k,hk,rfl,rfl⟩:=hrel
  by_cases hlt:k<8
  ·have hj:8*i+k<s.size:=by omega
   have HS:=hide (aYx s.data.toList i k (by rw[Array.length_toList];exact hj));have hc:=s[8*i+k].toNat_lt;have HC:Hid (s.data.toList[8*i+k]'(by rw[Array.length_toList];exact hj)=s[8*i+k]):=hide (by rw[Array.getElem_toList];rfl);have ha:=(UN s.data.toList i k).toNat_lt;have HN:=hide (fun d=>LQ (UN s.data.toList i k) d);generalize UN s.data.toList i k=acc at *;have e1:decide (((8*i+k:Nat):Int)<8*(i:Int)+8)=true:=decide_eq_true (by omega)
   by_cases h97:97<=s[8*i+k].toNat
   ·have HX:=hide (WV s[8*i+k] h97)
    go_wp2
    go_round
    case rel=>exact⟨k+1,by omega,by go_num,int_eq (by rw[aA HX,aA HS,aA HC];exact aA HN _)⟩
    case measure=>simp[intOf];omega
   ·have HX:=hide (WU s[8*i+k] (by omega))
    go_wp2
    go_round
    case rel=>exact⟨k+1,by omega,by go_num,int_eq (by rw[aA HX,aA HS,aA HC];exact aA HN _)⟩
    case measure=>simp[intOf];omega
  ·obtain rfl:k=8:=by omega
   have e1:decide (((8*i+8:Nat):Int)<8*(i:Int)+8)=false:=decide_eq_false (by omega)
   go_wp2
   go_ret
   exact⟨rfl,rfl⟩
theorem aNc(s:ByteArray)(n:Nat)(nI:Int)(hI:nI=(n:Int))(w:World)(hs:s.size<=100000)(hn:8*n<=s.size) :
  Calls Tryz.prog 132 #[.string s,.int .i64 nI] w fun e w'=>∃ A c,e=.returned (.slice A n c)/\w'.ownsRow w.heap.size 203 1 (.slice A n c) n (((List.range n).map (sQ s.data.toList)).map w32)/\Ext w w':=by
 subst hI
 go_enter Tryz.func132,Tryz.ntmps132
 go_wp2
 go_loopw [5,6] (fun b i wr=>∃ (k:Nat) (A:Option Addr) (c:Nat),k<=n/\i=.int .i64 k/\b=.slice A k c/\Hid (wr.ownsRow w.heap.size 203 1 (.slice A k c) k (((List.range k).map (sQ s.data.toList)).map w32)/\Ext w wr)) (fun _ i _=>n-(intOf i).toNat)
 case atStart=>exact⟨0,none,0,Nat.zero_le _,rfl,rfl,hide ⟨World.ownsRow_nil _ _ _ _,Ext.refl _⟩⟩
 case round=>
  obtain⟨k,A,c,hk,rfl,rfl,HI⟩:=hrel
  by_cases hlt:k<n
  ·have HX:=hide (show ((List.range (k+1)).map (sQ s.data.toList)).map w32=((List.range k).map (sQ s.data.toList)).map w32++[w32 (sQ s.data.toList k)] from by rw[List.range_succ];simp);have HW:=hide (fun W=>Gm s k W hs (by omega));generalize sQ s.data.toList k=x at *
   go_wp2_with (first
    |(go_at_call 163;refine (aA HW _).mono ?_;rintro e w' ⟨rfl,rfl⟩)
    |(at_builtin;refine bH rfl rfl P9 rfl (bQ (aA HI).1 ((Ext.refl _).alloc _)) rfl (Reads.t_ _ _ _) (dN.one rfl) (by omega) (Nat.le_trans (aA HI).2.size' (by simp)) ?_;intro A' c' w2 ho hc hv;have HQ:=hide (And.intro ho (And.intro hc hv));clear ho hc hv))
   go_roundw
   case rel=>
    refine⟨k+1,A',c',by omega,by go_num,rfl,hide ⟨by rw[aA HX];exact (aA HQ).1,?_⟩⟩
    exact Onto.D7 (aA HI).2 (((Onto.refl _ _).ext ((Ext.refl wr).alloc _)).trans (Onto.app (aA HQ).2.1 (aA HQ).2.2)) (fun q hq=>((aA HI).1.lt q hq).1)
   case measure=>simp[intOf];omega
  ·obtain rfl:k=n:=by omega
   go_wp2
   go_ret
   exact⟨_,_,rfl,(aA HI).1,(aA HI).2⟩
end Go.Proofs.YtndpjopifkbgiaaGreatDoor
