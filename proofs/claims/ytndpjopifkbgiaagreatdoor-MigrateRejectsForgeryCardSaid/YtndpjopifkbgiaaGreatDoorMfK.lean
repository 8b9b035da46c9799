/-
  Several texts in one file: each has its own heading below.
-/
import Derived.Test.YtndpjopifkbgiaaGreatDoorMfB
import Derived.Test.YtndpjopifkbgiaaGreatDoorMfJ
import Derived.Shelf.Strings.Repeat
import Derived.Shelf.Strings.Prefix
import Derived.Test.YtndpjopifkbgiaaGreatDoorMfC
import Derived.Test.YtndpjopifkbgiaaGreatDoorProg
import Derived.Test.YtndpjopifkbgiaaGreatDoorMfA
set_option maxRecDepth 100000
set_option maxHeartbeats 4000000
namespace Go.Proofs.YtndpjopifkbgiaaGreatDoor
open Go.RowKit
def term:Nat->List UInt8->Option Nat
 |0,_=>none
 |_+1,[]=>none
 |n+1,b::l=>if b.toNat<128 then some 0 else (term n l).map (·+1)
def jk:List UInt8->Nat
 |[]=>0
 |b::l=>b.toNat % 128+128*jk l
def lK(u:Nat):Int:=if u % 2=0 then ((u / 2:Nat):Int) else -((u / 2:Nat):Int)-1
def b_(b:List UInt8):Int×Nat×Int:=match term 10 b with
 |none=>(0,0,if b.length<10 then 6 else 7)
 |some k=>if jk (b.take (k+1))<18446744073709551616/\(k=0\/b.getD k 0≠0) then (lK (jk (b.take (k+1))),k+1,0) else (0,0,7)
def NY:List UInt8->Prop
 |[]=>False
 |[b]=>b.toNat<128
 |b::l=>128<=b.toNat/\NY l
def wB:List UInt8->Prop
 |[]=>False
 |[b]=>b≠0
 |_::b::l=>wB (b::l)
theorem aXl{u:Nat}:zig (lK u)=u:=by
 unfold zig lK
 split<;>split<;>omega
theorem aKz(n:Int):lK (zig n)=n:=by
 unfold zig lK
 split<;>split<;>omega
theorem wE{u:Nat}(h:u<18446744073709551616):-9223372036854775808<=lK u/\lK u<9223372036854775808:=by
 unfold lK
 split<;>omega
theorem jR{u:Nat}(h:u<256):(UInt8.ofNat u).toNat=u:=by simp;omega
theorem aKx:∀ (f u:Nat),u<128 ^ (f+1)->NY (varint f u):=by
 intro f
 induction f with
 |zero=>intro u h;simp only[varint,NY];rw[jR (by omega)];omega
 | succ f ih=>
  intro u h
  by_cases hu:u<128
  ·rw[jA hu];simp only[NY];rw[jR (by omega)];exact hu
  ·rw[lJ hu];have h1:=ih (u / 128) (by rw[Nat.div_lt_iff_lt_mul (by omega)];rw[Nat.pow_succ] at h;exact h)
   cases hv:varint f (u / 128) with
   |nil=>rw[hv] at h1;exact h1.elim
   |cons b l=>
    rw[hv] at h1
    refine⟨?_,h1⟩
    rw[jR (by omega)];omega
theorem aCj:∀ (f u:Nat),u<128 ^ (f+1)->jk (varint f u)=u:=by
 intro f
 induction f with
 |zero=>intro u h;simp only[varint,jk];rw[jR (by omega)];omega
 | succ f ih=>
  intro u h
  by_cases hu:u<128
  ·rw[jA hu];simp only[jk];rw[jR (by omega)];omega
  ·rw[lJ hu];have h1:=ih (u / 128) (by rw[Nat.div_lt_iff_lt_mul (by omega)];rw[Nat.pow_succ] at h;exact h);simp only[jk];rw[h1,jR (by omega)];omega
theorem aMh:∀ (f u:Nat),u<128 ^ (f+1)->u≠0->wB (varint f u):=by
 intro f
 induction f with
 |zero=>
  intro u h h0;simp only[varint,wB];intro e;have:=congrArg UInt8.toNat e;rw[jR (by omega)] at this
  exact h0 this
 | succ f ih=>
  intro u h h0
  by_cases hu:u<128
  ·rw[jA hu];simp only[wB];intro e;have:=congrArg UInt8.toNat e;rw[jR (by omega)] at this;exact h0 this
  ·rw[lJ hu]
   have hlt:u / 128<128 ^ (f+1):=by rw[Nat.div_lt_iff_lt_mul (by omega)];rw[Nat.pow_succ] at h;exact h
   have h1:=ih (u / 128) hlt (by omega)
   cases hv:varint f (u / 128) with
   |nil=>rw[hv] at h1;exact h1.elim
   |cons b l=>rw[hv] at h1;exact h1
theorem aRs:∀ (l:List UInt8),NY l->wB l->jk l≠0
 |[],h,_=>h.elim
 |[b],h,k=>by
  simp only[jk];have h':b.toNat<128:=h;intro e
  have h0:b.toNat=0:=by omega
  exact k (UInt8.toNat_inj.1 (by rw[h0];rfl))
 |b::c::l,h,k=>by
  have:=aRs (c::l) h.2 k;rw[jk];omega
theorem aCg:∀ (f:Nat) (l:List UInt8),NY l->(l.length=1\/wB l)->l.length<=f+1->varint f (jk l)=l
 |_,[],h,_,_=>h.elim
 |f,[b],h,_,_=>by
  have h':b.toNat<128:=h
  have e:jk [b]=b.toNat:=by simp only[jk];omega
  rw[e,jA h']
  simp
 |0,b::c::l,_,_,hl=>by simp at hl
 | f+1,b::c::l,h,k,hl=>by
  have k':wB (c::l):=by
   rcases k with k|k
   ·simp at k
   ·exact k
  have hp:=aRs (c::l) h.2 k';have ih:=aCg f (c::l) h.2 (.inr k') (by simpa using hl);have hb:128<=b.toNat:=h.1;have hb2:=b.toNat_lt;have e:jk (b::c::l)=b.toNat % 128+128*jk (c::l):=rfl;rw[e,lJ (by omega)]
  have e1:(b.toNat % 128+128*jk (c::l)) % 128=b.toNat % 128:=by omega
  have e2:(b.toNat % 128+128*jk (c::l)) / 128=jk (c::l):=by omega
  rw[e1,e2,ih];congr 1;rw[show 128+b.toNat % 128=b.toNat from by omega];simp
theorem pU:∀ (n:Nat) (b:List UInt8) (k:Nat),term n b=some k->NY (b.take (k+1))/\k<n/\k<b.length
 |0,_,_,h=>by cases h
 |_+1,[],_,h=>by cases h
 | n+1,b::l,k,h=>by
  rw[term] at h
  by_cases hb:b.toNat<128
  ·rw[if_pos hb] at h;cases h
   exact⟨by simpa[NY] using hb,by omega,by simp⟩
  ·rw[if_neg hb] at h
   cases hk:term n l with
   |none=>rw[hk] at h;cases h
   |some j=>
    rw[hk] at h;cases h;obtain⟨h1,h2,h3⟩:=pU n l j hk
    refine⟨?_,(by show j+1<n+1;omega),(by show j+1<(b::l).length;simp;omega)⟩
    rw[List.take_succ_cons]
    cases hq:l.take (j+1) with
    |nil=>rw[hq] at h1;exact h1.elim
    |cons c r=>rw[hq] at h1;exact⟨by omega,h1⟩
theorem xJ:∀ (l r:List UInt8) (n:Nat),NY l->l.length<=n->term n (l++r)=some (l.length-1)
 |[],_,_,h,_=>h.elim
 | [b],r,n,h,hl=>by
  cases n with
  |zero=>simp at hl
  |succ n=>
   have h':b.toNat<128:=h
   simp[term,h']
 | b::c::l,r,n,h,hl=>by
  cases n with
  |zero=>simp at hl
  |succ n=>
   have hb:128<=b.toNat:=h.1;have ih:=xJ (c::l) r n h.2 (by simpa using hl);rw[List.cons_append,term,if_neg (by omega),ih];simp
theorem qZ:∀ (l:List UInt8) (k:Nat),l.length=k+1->(wB l↔l.getD k 0≠0)
 |[],k,h=>by simp at h
 |[b],k,h=>by
  obtain rfl:k=0:=by simpa using h.symm
  simp[wB]
 |b::c::l,0,h=>by simp at h
 |b::c::l,k+1,h=>by
  have:=qZ (c::l) k (by simpa using h);rw[List.getD_cons_succ];exact this
theorem getD_take{l:List UInt8}{k n:Nat}(h:k<n):(l.take n).getD k 0=l.getD k 0:=by
 rw[zG,zG,List.getElem?_take,if_pos h]
theorem aOr{l:List UInt8}{k:Nat}(h:NY l)(hk:l.length=k+1)(h10:k<10):d_ (lK (jk l % 18446744073709551616))=l↔(jk l<18446744073709551616/\(k=0\/l.getD k 0≠0)):=by
 have h64:jk l % 18446744073709551616<128 ^ (9+1):=by
  have:jk l % 18446744073709551616<18446744073709551616:=Nat.mod_lt _ (by omega);omega
 unfold d_;rw[aXl]
 constructor
 ·intro e;have h1:=aCj 9 _ h64;rw[e] at h1
  refine⟨by omega,?_⟩
  rcases Nat.eq_zero_or_pos k with hk0|hk0
  ·exact .inl hk0
  ·refine .inr ((qZ l k hk).1 ?_);rw[<-e];refine aMh 9 _ h64 (fun e0=>?_);rw[e0] at e;rw[<-e] at hk;simp[varint] at hk;omega
 ·rintro⟨h1,h2⟩
  rw[Nat.mod_eq_of_lt h1];refine aCg 9 l h ?_ (by omega);rcases h2 with h2|h2
  ·exact .inl (by omega)
  ·exact .inr ((qZ l k hk).2 h2)
theorem aNf{b:List UInt8}{k:Nat}(h:term 10 b=some k):b_ b=if jk (b.take (k+1))<18446744073709551616/\(k=0\/b.getD k 0≠0) then (lK (jk (b.take (k+1))),k+1,0) else (0,0,7):=by
 unfold b_;rw[h]
theorem aFu{n:Int}(h1:-9223372036854775808<=n)(h2:n<9223372036854775808):NY (d_ n):=aKx 9 _ (by have:=Z7 h1 h2;omega)
theorem aHz(n:Int)(h1:-9223372036854775808<=n)(h2:n<9223372036854775808):0<(d_ n).length:=by
 have:=aFu h1 h2
 cases h:d_ n with
 |nil=>rw[h] at this;exact this.elim
 |cons b l=>simp
theorem kZ{n:Int}(r:List UInt8)(h1:-9223372036854775808<=n)(h2:n<9223372036854775808):b_ (d_ n++r)=(n,(d_ n).length,0):=by
 have hv:=aFu h1 h2;have hl:=aX n;have hp:=aHz n h1 h2;have ht:=xJ (d_ n) r 10 hv hl;rw[aNf ht]
 have e:(d_ n++r).take ((d_ n).length-1+1)=d_ n:=by
  rw[show (d_ n).length-1+1=(d_ n).length from by omega,List.take_left]
 have hz:=Z7 h1 h2;have hu:jk (d_ n)=zig n:=aCj 9 _ (by omega)
 have hiff:=(aOr hv (k:=(d_ n).length-1) (by omega) (by omega)).1 (by
  rw[hu,Nat.mod_eq_of_lt hz,aKz])
 have eg:(d_ n++r).getD ((d_ n).length-1) 0=(d_ n).getD ((d_ n).length-1) 0:=by
  rw[zG,zG,List.getElem?_append_left (by omega)]
 rw[e,eg,if_pos hiff,hu,aKz];congr 2;omega
theorem bBv{b:List UInt8}{n:Int}{k:Nat}(h:b_ b=(n,k,0)):b.take k=d_ n/\0<k/\k<=10/\k<=b.length /\ -9223372036854775808<=n/\n<9223372036854775808:=by
 unfold b_ at h
 split at h
 ·split at h<;>simp at h
 ·rename_i j ht
  split at h
  ·rename_i hc;simp only[Prod.mk.injEq,and_true] at h;obtain⟨rfl,rfl⟩:=h;obtain⟨h1,h2,h3⟩:=pU _ _ _ ht
   have hl:(b.take (j+1)).length=j+1:=by rw[List.length_take];omega
   have hc2:=hc;rw[<-getD_take (l:=b) (show j<j+1 by omega)] at hc2;have:=(aOr h1 hl (by omega)).2 hc2;rw[Nat.mod_eq_of_lt hc.1] at this;have hr:=wE hc.1
   exact⟨this.symm,by omega,by omega,by omega,hr.1,hr.2⟩
  ·simp at h
theorem bBw(b:List UInt8):(b_ b).2.2=0\/((b_ b).1=0/\(b_ b).2.1=0/\((b_ b).2.2=6\/(b_ b).2.2=7)):=by
 unfold b_
 split
 ·split<;>simp
 ·split<;>simp
theorem pO(b:List UInt8):(b_ b).2.1<=b.length/\(b_ b).2.1<=10:=by
 unfold b_
 split
 ·split<;>simp
 ·rename_i j ht;obtain⟨_,h2,h3⟩:=pU _ _ _ ht
  split<;>simp<;>omega
theorem iJ(b:List UInt8):-9223372036854775808<=(b_ b).1/\(b_ b).1<9223372036854775808:=by
 unfold b_
 split
 ·split<;>simp
 ·split
  ·rename_i h;exact wE h.1
  ·simp
def iZ(b:List UInt8):List UInt8×Nat×Int:=
 if (b_ b).2.2≠0 then ([],0,(b_ b).2.2) else if (b_ b).1<0 then ([],0,7) else if (b_ b).1 > (b.length:Int)-(b_ b).2.1 then ([],0,6)
 else ((b.drop (b_ b).2.1).take (b_ b).1.toNat,(b_ b).2.1+(b_ b).1.toNat,0)
theorem uF(l r:List UInt8)(h:l.length<4611686018427387904):iZ (bU l++r)=(l,(bU l).length,0):=by
 unfold iZ bU;rw[List.append_assoc,kZ (n:=(l.length:Int)) (l++r) (by omega) (by omega)]
 have h1:¬((l.length:Int) > ((d_ (l.length:Int)++(l++r)).length:Int)-((d_ (l.length:Int)).length:Nat)):=by
  simp only[List.length_append];omega
 dsimp only;rw[if_neg (by simp),if_neg (by omega),if_neg h1,List.drop_left];simp
theorem L9{b c:List UInt8}{k:Nat}(h:iZ b=(c,k,0)):b.take k=bU c/\k<=b.length:=by
 unfold iZ at h
 split at h
 ·rename_i h0;simp only[Prod.mk.injEq] at h;exact absurd h.2.2 h0
 ·rename_i h0
  split at h
  ·simp at h
  ·split at h
   ·simp at h
   ·rename_i h1 h2;simp only[Prod.mk.injEq,and_true] at h;obtain⟨rfl,rfl⟩:=h
    have he:b_ b=((b_ b).1,(b_ b).2.1,0):=by
     have:(b_ b).2.2=0:=by simpa using h0
     rw[<-this]
    obtain⟨h3,h4,h5,h6,_⟩:=bBv he
    have hn:(b_ b).1.toNat<=b.length-(b_ b).2.1:=by omega
    refine⟨?_,by omega⟩
    unfold bU
    have hlen:(((b.drop (b_ b).2.1).take (b_ b).1.toNat).length:Int)=(b_ b).1:=by
     rw[List.length_take,List.length_drop];omega
    rw[hlen,<-h3,List.take_add]
theorem aWb(b:List UInt8):(iZ b).2.2=0\/((iZ b).1=[]/\(iZ b).2.1=0/\((iZ b).2.2=6\/(iZ b).2.2=7)):=by
 unfold iZ
 split
 ·rename_i h;rcases bBw b with h1|⟨_,_,h1⟩
  ·exact absurd h1 h
  ·exact .inr ⟨rfl,rfl,h1⟩
 ·split
  ·simp
  ·split<;>simp
theorem L_(b:List UInt8):(iZ b).2.1<=b.length:=by
 unfold iZ;have:=(pO b).1
 split
 ·simp
 ·split
  ·simp
  ·split
   ·simp
   ·simp only;omega
theorem nN(b:List UInt8):(iZ b).1.length<=b.length:=by
 unfold iZ
 split
 ·simp
 ·split
  ·simp
  ·split
   ·simp
   ·simp only[List.length_take,List.length_drop];omega
theorem aOs(l m:List UInt8):jk (l++m)=jk l+128 ^ l.length*jk m:=by
 induction l with
 |nil=>simp[jk]
 |cons b l ih=>simp only[List.cons_append,jk,ih,List.length_cons,Nat.pow_succ];rw[Nat.mul_add,<-Nat.mul_assoc,Nat.mul_comm 128 (128 ^ l.length)];omega
theorem aXz(l:List UInt8):jk l<128 ^ l.length:=by
 induction l with
 |nil=>simp[jk]
 |cons b l ih=>simp only[jk,List.length_cons,Nat.pow_succ];omega
theorem aKy{L:List UInt8}{k:Nat}(h:k<L.length):jk (L.take (k+1))=jk (L.take k)+128 ^ k*((L.getD k 0).toNat % 128):=by
 rw[List.take_add_one,zH h,Option.toList_some,aOs,List.length_take,Nat.min_eq_left (by omega),zG,zH h];simp[jk]
theorem mD(n:Nat):IntKind.u64.wrap (n:Int)=((n % 18446744073709551616:Nat):Int):=by
 rw[IntKind.wrap_u64];omega
theorem yE(n:Nat):(BitVec.ofInt 64 (n:Int)).toNat=n % 18446744073709551616:=by
 simp
theorem J6{u a i:Nat}(h:u<2 ^ i):u ||| a*2 ^ i=u+a*2 ^ i:=by
 rw[Nat.or_comm,Nat.add_comm,<-Nat.shiftLeft_eq,Nat.shiftLeft_add_eq_or_of_lt h]
theorem WR(c:UInt8):IntKind.u8.wrap ↑(BitVec.ofInt IntKind.u8.bits (c.toNat:Int) &&& BitVec.ofInt IntKind.u8.bits 127).toNat=((c.toNat % 128:Nat):Int):=by
 have hc:=c.toNat_lt;have:=u8_and (c.toNat:Int) 127 (by omega) (by omega) (by omega) (by omega);refine (show _=bits .and .u8 (c.toNat:Int) 127 from rfl).trans (this.trans ?_);rw[Int.toNat_natCast,show (127:Int).toNat=2 ^ 7-1 from rfl,Nat.and_two_pow_sub_one_eq_mod]
theorem OO{k u:Nat}(c:UInt8)(hk:k<=9)(hu:u<128 ^ k) :
  IntKind.u64.wrap ↑(BitVec.ofInt IntKind.u64.bits (u:Int) ||| BitVec.ofInt IntKind.u64.bits (IntKind.u64.wrap (IntKind.u64.wrap (IntKind.u8.wrap ↑(BitVec.ofInt IntKind.u8.bits (c.toNat:Int) &&& BitVec.ofInt IntKind.u8.bits 127).toNat)*2 ^ min (IntKind.i64.wrap (7*(k:Int))).toNat IntKind.u64.bits))).toNat =
   (((u+128 ^ k*(c.toNat % 128)) % 18446744073709551616:Nat):Int):=by
 have e7:(IntKind.i64.wrap (7*(k:Int))).toNat=7*k:=by clear hu;rw[IntKind.wrap_i64,Int.emod_eq_of_lt (by omega) (by omega)];omega
 have e64:IntKind.u64.bits=64:=rfl;rw[WR,e7,e64,mD (c.toNat % 128),Nat.mod_eq_of_lt (show c.toNat % 128<18446744073709551616 by omega),Nat.min_eq_left (show 7*k<=64 by omega)]
 have ep:((c.toNat % 128:Nat):Int)*2 ^ (7*k)=((c.toNat % 128*2 ^ (7*k):Nat):Int):=by simp
 rw[ep,mD,mD,BitVec.toNat_or,yE,yE]
 have hx:c.toNat % 128<128:=by omega
 generalize c.toNat % 128=x at *
 have hk2:k=0\/k=1\/k=2\/k=3\/k=4\/k=5\/k=6\/k=7\/k=8\/k=9:=by omega
 congr 1
 have key:∀ i a,u<2 ^ i->a*2 ^ i<18446744073709551616-u->x*2 ^ (7*k) % 18446744073709551616=a*2 ^ i->(u+128 ^ k*x) % 18446744073709551616=u+a*2 ^ i ->
   (u % 18446744073709551616 ||| x*2 ^ (7*k) % 18446744073709551616 % 18446744073709551616) % 18446744073709551616=(u+128 ^ k*x) % 18446744073709551616:=by
  intro i a h1 h2 h3 h4;rw[h4,Nat.mod_mod,h3,Nat.mod_eq_of_lt (show u<18446744073709551616 by omega),J6 h1,Nat.mod_eq_of_lt (by omega)]
 rcases hk2 with rfl|rfl|rfl|rfl|rfl|rfl|rfl|rfl|rfl|rfl
 ·exact key 0 x (by omega) (by omega) (by omega) (by omega)
 ·exact key 7 x (by omega) (by omega) (by omega) (by omega)
 ·exact key 14 x (by omega) (by omega) (by omega) (by omega)
 ·exact key 21 x (by omega) (by omega) (by omega) (by omega)
 ·exact key 28 x (by omega) (by omega) (by omega) (by omega)
 ·exact key 35 x (by omega) (by omega) (by omega) (by omega)
 ·exact key 42 x (by omega) (by omega) (by omega) (by omega)
 ·exact key 49 x (by omega) (by omega) (by omega) (by omega)
 ·exact key 56 x (by omega) (by omega) (by omega) (by omega)
 ·exact key 63 (x % 2) (by omega) (by omega) (by omega) (by omega)
theorem OU{u:Nat}(hu:u<18446744073709551616):IntKind.i64.wrap ((u:Int).fdiv (2 ^ min (1:Int).toNat IntKind.u64.bits))=((u / 2:Nat):Int):=by
 rw[show (2:Int) ^ min (1:Int).toNat IntKind.u64.bits=2 from rfl,IntKind.wrap_i64]
 have:(u:Int).fdiv 2=((u / 2:Nat):Int):=by rw[Int.fdiv_eq_ediv_of_nonneg _ (by omega)];omega
 rw[this];omega
theorem RS(u:Nat)(hu:u<18446744073709551616):IntKind.u64.wrap ↑(BitVec.ofInt IntKind.u64.bits (u:Int) &&& BitVec.ofInt IntKind.u64.bits 1).toNat=((u % 2:Nat):Int):=by
 have e64:IntKind.u64.bits=64:=rfl;rw[e64,BitVec.toNat_and,yE,show (1:Int)=((1:Nat):Int) from rfl,yE,mD,Nat.mod_eq_of_lt hu,show 1 % 18446744073709551616=2 ^ 1-1 from rfl,Nat.and_two_pow_sub_one_eq_mod];congr 1;omega
theorem ZG{n:Nat}(hn:n<9223372036854775808):IntKind.i64.wrap ↑(BitVec.ofInt IntKind.i64.bits (if IntKind.i64.signed=true then -1 else IntKind.i64.max) ^^^ BitVec.ofInt IntKind.i64.bits (n:Int)).toNat = -(n:Int)-1:=by
 have e64:IntKind.i64.bits=64:=rfl;have es:(if IntKind.i64.signed=true then -1 else IntKind.i64.max:Int) = -1:=rfl;rw[es,e64,show BitVec.ofInt 64 (-1)=BitVec.allOnes 64 from by decide,BitVec.allOnes_xor,BitVec.toNat_not,yE,IntKind.wrap_i64];omega
namespace Pv
abbrev o7(l:List UInt8):PV:=dm (.sl 1 l.length (o5 l))
def wQ(r:Int×Nat×Int):PV:=.kz [.one (.lit (.int .i64 r.1)),.one (.lit (.int .i64 (r.2.1:Int))),.one (.lit (.int .i64 r.2.2))]
def aBP(L:List UInt8)(k:Nat):St:=⟨[(0,none,o7 L),(5,none,ji (.int .u64 ((jk (L.take k) % 18446744073709551616:Nat):Int))),(13,none,dm (.sl 1 (min L.length 10) (o5 L))),(14,none,gy ((min L.length 10:Nat):Int)),(15,none,gy k)],[]⟩
def aBO(L:List UInt8)(k:Nat):St:=⟨[(0,none,o7 L),(5,none,ji (.int .u64 ((jk (L.take (k+1)) % 18446744073709551616:Nat):Int))),(6,none,gy k),(7,none,ji (ng (L.getD k 0))),(13,none,dm (.sl 1 (min L.length 10) (o5 L))),(14,none,gy ((min L.length 10:Nat):Int)),(15,none,gy k)],[]⟩
theorem dY{n:Int}(h1:-9223372036854775808<=n)(h2:n<9223372036854775808):IntKind.i64.wrap n=n:=by
 rw[IntKind.wrap_i64,Int.emod_eq_of_lt (by omega) (by omega)];omega
theorem sJ:∀ (n:Nat) (L:List UInt8),(∀ i,i<min L.length n->128<=(L.getD i 0).toNat)->term n L=none
 |0,_,_=>rfl
 |_+1,[],_=>rfl
 | n+1,b::l,h=>by
  have h0:=h 0 (by simp);rw[List.getD_cons_zero] at h0
  rw[term,if_neg (by omega),sJ n l (fun i hi=>by
   have:=h (i+1) (by simp;omega)
   rwa [List.getD_cons_succ] at this)]
  rfl
theorem sH:∀ (n:Nat) (L:List UInt8) (k:Nat),(∀ i,i<k->128<=(L.getD i 0).toNat)->k<L.length->k<n->(L.getD k 0).toNat<128->term n L=some k
 |0,_,_,_,_,h,_=>by omega
 |_+1,[],_,_,h,_,_=>by simp at h
 |n+1,b::l,0,_,_,_,h=>by rw[List.getD_cons_zero] at h;rw[term,if_pos h]
 | n+1,b::l,k+1,h,h1,h2,h3=>by
  have h0:=h 0 (by omega);rw[List.getD_cons_zero] at h0;rw[List.getD_cons_succ] at h3
  rw[term,if_neg (by omega),sH n l k (fun i hi=>by
   have:=h (i+1) (by omega)
   rwa [List.getD_cons_succ] at this) (by simpa using h1) (by omega) h3]
  rfl
theorem aGt(L:List UInt8)(hL:L.length<4611686018427387904):gB Tryz.prog a_ 138 true [o7 L] (wQ (b_ L)):=by
 have M:=aAD;refine bI Tryz.func138 rfl rfl bQ (fun A hS hn hI=>?_);refine aB M hI hn (by rfl) (by kernel_rfl) ?_ ?_
 ·simp
 refine aB M hI hn (by rfl) (by kernel_rfl) ?_ ?_
 ·simp
 refine aJ ?_;refine aB M hI hn (by rfl) (by kernel_rfl) ?_ ?_
 ·simp;omega
 refine bF ?_;refine aI (s':=aBP L 0) (fun a w hg=>(hg.reset (kT:=[0,5,13,14,15]) (kO:=[]) (by rfl) (by simp)).same ?_ ?_) ?_
 ·refine .cons rfl (.cons rfl (.cons ?_ (.cons ?_ (.cons rfl .nil))))
  ·have e:(min (L.length:Int) 10-0).toNat=min L.length 10:=by omega
   exact congrArg dm (by rw[e];congr 1;funext i;simp)
  ·exact congrArg gy (by omega)
 ·exact .nil
 refine iH (min L.length 10) (fun k s=>s=aBP L k/\∀ i,i<k->128<=(L.getD i 0).toNat) 0 ⟨rfl,fun i hi=>by omega⟩ (by omega) (fun k s hJ hk=>?_);obtain⟨rfl,hbig⟩:=hJ;refine aB M hI hn (by rfl) (by kernel_rfl) ?_ ?_
 ·simp
 refine aJ ?_;refine aG (by rfl) (fun hc=>?_) (fun hc=>?_)
 ·have hk2:k<L.length/\k<10:=by
   have:(k:Int)<((min L.length 10:Nat):Int):=by simpa using hc
   omega
  refine aO ?_;change h_ _ _ _ _ _;refine aJ ?_;refine bF ?_;refine aB M hI hn (by rfl) (by kernel_rfl) ?_ ?_
  ·simp;omega
  refine aB M hI hn (by rfl) (by kernel_rfl) ?_ ?_
  ·simp;rw[dY (by omega) (by omega)];omega
  refine aI (s':=aBO L k) (fun a w hg=>(hg.reset (kT:=[0,5,6,7,13,14,15]) (kO:=[]) (by rfl) (by simp)).same ?_ ?_) ?_
  ·refine .cons rfl (.cons ?_ (.cons rfl (.cons rfl (.cons rfl (.cons rfl (.cons rfl .nil))))));refine congrArg (fun n=>ji (.int .u64 n)) ?_;have hu:=aXz (L.take k);rw[List.length_take,Nat.min_eq_left (by omega)] at hu;have h9:(128:Nat) ^ k<=128 ^ 9:=Nat.pow_le_pow_right (by omega) (by omega);rw[Nat.mod_eq_of_lt (show jk (L.take k)<18446744073709551616 by omega),Int.toNat_natCast];refine (OO _ (by omega) hu).trans ?_;rw[aKy hk2.1]
  ·exact .nil
  refine aJ ?_;refine aB M hI hn (by rfl) (by kernel_rfl) ?_ ?_
  ·simp
  refine aG (by rfl) (fun hc=>?_) (fun hc=>?_)
  ·refine gQ ?_;change h_ _ _ _ _ _;refine aP M hI hn (by rfl) (by kernel_rfl) ?_ ?_
   ·simp
   intro a w hg
   refine⟨k+1,_,by omega,by omega,⟨rfl,?_⟩,(hg.reset (kT:=[0,5,13,14,15]) (kO:=[]) (by rfl) (by simp)).same ?_ ?_⟩
   ·intro i hi;rcases Nat.lt_or_eq_of_le (Nat.le_of_lt_succ hi) with h|rfl
    ·exact hbig i h
    ·have:((L.getD i 0).toNat:Int)>=128:=by simpa using hc
     omega
   ·exact .cons rfl (.cons rfl (.cons rfl (.cons rfl (.cons (by rw[fP k (by omega)]) .nil))))
   ·exact .nil
  ·have hlt:(L.getD k 0).toNat<128:=by
    have:¬((L.getD k 0).toNat:Int)>=128:=by simpa using hc
    omega
   have ht:=sH 10 L k hbig hk2.1 hk2.2 hlt;have hgs:=aNf ht
   have hlast:jk (L.take (k+1))<18446744073709551616↔(k=9->(L.getD k 0).toNat<=1):=by
    have hu:=aXz (L.take k);rw[List.length_take,Nat.min_eq_left (by omega)] at hu;rw[aKy hk2.1,Nat.mod_eq_of_lt hlt];rcases Nat.lt_or_ge k 9 with h9|h9
    ·have h8:(128:Nat) ^ k<=128 ^ 8:=Nat.pow_le_pow_right (by omega) (by omega);have:128 ^ k*(L.getD k 0).toNat<=128 ^ 8*127:=Nat.mul_le_mul h8 (by omega)
     constructor<;>intro<;>omega
    ·obtain rfl:k=9:=by omega
     constructor<;>intro<;>omega
   have hz:(L.getD k 0=0)↔(L.getD k 0).toNat=0:=by rw[<-UInt8.toNat_inj];rfl
   refine aO ?_;change h_ _ _ _ _ _;refine aJ ?_;refine aB M hI hn (by rfl) (by kernel_rfl) ?_ ?_
   ·simp;generalize (L[k]?.getD 0).toNat=c;omega
   refine aG (by rfl) (fun hc=>?_) (fun hc=>?_)
   ·have hneg:¬(jk (L.take (k+1))<18446744073709551616/\(k=0\/L.getD k 0≠0)):=by
     rw[hlast,ne_eq,hz];simp only[Bool.cond_eq_ite,Bool.if_true_left,Bool.and_eq_true,Bool.or_eq_true,decide_eq_true_eq,beq_iff_eq,Bool.if_false_right] at hc;omega
    refine aB M hI hn (by rfl) (by kernel_rfl) ?_ ?_
    ·simp
    refine aK (fun a w hg=>⟨.inr rfl,_,?_,hg⟩);refine aC (by rfl) (by simp) (by rfl) (by rfl) ?_;rw[hgs,if_neg hneg];rfl
   ·have hpos:jk (L.take (k+1))<18446744073709551616/\(k=0\/L.getD k 0≠0):=by
     rw[hlast,ne_eq,hz];simp only[Bool.cond_eq_ite,Bool.if_true_left,Bool.and_eq_false_iff,Bool.or_eq_false_iff,decide_eq_false_iff_not,Bool.if_false_right] at hc;simp only[Bool.and_eq_true,decide_eq_true_eq,beq_iff_eq] at hc;omega
    have hm:=Nat.mod_eq_of_lt hpos.1;have hs1:=OU hpos.1;have ha1:=RS _ hpos.1;refine aO ?_;change h_ _ _ _ _ _;refine aB M hI hn (by rfl) (by kernel_rfl) ?_ ?_
    ·simp
    refine aJ ?_;refine aB M hI hn (by rfl) (by kernel_rfl) ?_ ?_
    ·simp
    refine aG (by rfl) (fun hc=>?_) (fun hc=>?_)
    ·refine aP M hI hn (by rfl) (by kernel_rfl) ?_ ?_
     ·simp
     change h_ _ _ _ _ _;refine aB M hI hn (by rfl) (by kernel_rfl) ?_ ?_
     ·simp
     refine aK (fun a w hg=>⟨.inr rfl,_,?_,hg⟩);refine aC (by rfl) (by simp) (by rfl) (by rfl) ?_;rw[hm,ha1] at hc;have hx:=ZG (n:=jk (L.take (k+1)) / 2) (by omega)
     have hodd:jk (L.take (k+1)) % 2=1:=by
      have:((jk (L.take (k+1)) % 2:Nat):Int)=1:=by simpa using hc
      omega
     rw[hgs,if_pos hpos,hm,hs1,hx,fP k (by omega)];unfold lK wQ;rw[if_neg (by omega)]
    ·refine aO ?_;change h_ _ _ _ _ _;refine aB M hI hn (by rfl) (by kernel_rfl) ?_ ?_
     ·simp
     refine aK (fun a w hg=>⟨.inr rfl,_,?_,hg⟩);refine aC (by rfl) (by simp) (by rfl) (by rfl) ?_;rw[hm,ha1] at hc
     have hev:jk (L.take (k+1)) % 2=0:=by
      have:¬((jk (L.take (k+1)) % 2:Nat):Int)=1:=by simpa using hc
      omega
     rw[hgs,if_pos hpos,hm,hs1,fP k (by omega)];unfold lK wQ;rw[if_pos hev]
 ·have hkk:k=min L.length 10:=by
   have:¬(k:Int)<((min L.length 10:Nat):Int):=by simpa using hc
   omega
  have ht:=sJ 10 L (fun i hi=>hbig i (by omega));refine gQ ?_;change h_ _ _ _ _ _;refine aJ ?_;refine aB M hI hn (by rfl) (by kernel_rfl) ?_ ?_
  ·simp
  refine aG (by rfl) (fun hc=>?_) (fun hc=>?_)
  ·refine aB M hI hn (by rfl) (by kernel_rfl) ?_ ?_
   ·simp
   refine aK (fun a w hg=>⟨.inr rfl,_,?_,hg⟩);refine aC (by rfl) (by simp) (by rfl) (by rfl) ?_
   have:(L.length:Int)<10:=by simpa using hc
   unfold b_;rw[ht];dsimp only;rw[if_pos (by omega)];rfl
  ·refine aO ?_;change h_ _ _ _ _ _;refine aB M hI hn (by rfl) (by kernel_rfl) ?_ ?_
   ·simp
   refine aK (fun a w hg=>⟨.inr rfl,_,?_,hg⟩);refine aC (by rfl) (by simp) (by rfl) (by rfl) ?_
   have:¬(L.length:Int)<10:=by simpa using hc
   unfold b_;rw[ht];dsimp only;rw[if_neg (by omega)];rfl
theorem bDv{len:Nat}{f:Nat->List PC}(h:FV len f):∀ i,i<len->f i=o5 (rowB len f) i:=fun i hi=>by
 unfold o5 rowB;rw[kE len i _ hi];exact aNa (h i hi)
theorem Oe{C:Ctx}{len:Nat}{f:Nat->List PC}{x:Value}(h:FV len f)(hv:RV C (dm (.sl 1 len f)) x):RV C (o7 (rowB len f)) x:=by
 refine .w (.one ?_);rw[dZ];exact (hv.inv).zf (bDv h)
theorem IP{C:Ctx}{x:Value}(hv:RV C (dm (.lit (.slice none 0 0))) x):RV C (o7 []) x:=by
 have:=hv.dn;subst this;exact .w (.one (.sl (Reads.nil _ _) (fun g hg=>by simp[Value.ownBlock] at hg) (fun i hi=>by simp at hi)))
def yR:PV->Option (Prop×List UInt8)
 |.w (.one (.sl n len f))=>(match Nat.beq n 1 with
  |true=>some (FV len f,rowB len f)
  |false=>none)
 |.w (.one (.lit (.slice none 0 0)))=>some (True,[])
 |_=>none
theorem vH{C:Ctx}{v:PV}{p:Prop}{l:List UInt8}{x:Value}(h:yR v=some (p,l))(hp:p)(hv:RV C v x):RV C (o7 l) x:=by
 unfold yR at h
 split at h
 ·rename_i n len f
  cases hb:Nat.beq n 1<;>rw[hb] at h<;>cases h
  obtain rfl:=gm hb
  exact Oe hp hv
 ·cases h;exact IP hv
 ·cases h
def TU(pre:List UInt8->Prop)(res:List UInt8->PV):Spec:=aZ true fun xs=>match xs with
 |[v]=>(match yR v with
  |some (p,l)=>some (p/\pre l,res l)
  |none=>none)
 |_=>none
theorem qQ{f:Nat}{pre:List UInt8->Prop}{res:List UInt8->PV}(hent:∀ args w,(callFunc f args).run Tryz.prog w=.ok (.enter f args) w)(h:∀ l,pre l->gB Tryz.prog a_ f true [o7 l] (res l)):aj Tryz.prog a_ f (TU pre res):=by
 refine aY hent (fun xs p r hg hp=>?_)
 split at hg
 ·rename_i v
  cases hq:yR v with
  |none=>rw[hq] at hg;cases hg
  | some q=>
   obtain⟨p0,l⟩:=q;rw[hq] at hg;cases hg
   exact (h l hp.2).args fun C vs hv=>by
    match vs,hv with
    |[x],⟨h1,_⟩=>exact⟨vH hq hp.1 h1,trivial⟩
 ·cases hg
def jB(l:List UInt8):Prop:=l.length<4611686018427387904
def Ag(l:List UInt8):Int×Nat×Int:=((b_ l).1,(b_ l).2.1,if (b_ l).2.2≠0 then (b_ l).2.2 else if (b_ l).1<0 then 7 else if (b_ l).1 > (l.length:Int)-(b_ l).2.1 then 6 else 0)
def EI(r:List UInt8×Nat×Int):PV:=.kz [.one (.lit (.string (strOf r.1))),.one (.lit (.int .i64 (r.2.1:Int))),.one (.lit (.int .i64 r.2.2))]
theorem kV{L:List UInt8}{k m:Nat}(h:k+m<=L.length):rowB m (fun i=>o5 L (k+i))=(L.drop k).take m:=by
 apply List.ext_getElem
 ·rw[dZ,List.length_take,List.length_drop];omega
 ·intro i h1 h2;rw[dZ] at h1;simp only[rowB,List.getElem_map,List.getElem_range,aHh,List.getElem_take,List.getElem_drop];rw[zG,zH (by omega)];rfl
theorem NE(L:List UInt8)(k:Nat):(fun i=>o5 L (k+i))=o5 (L.drop k):=by
 funext i;unfold o5;rw[zG,zG,List.getElem?_drop]
@[simp] theorem TI(n k:Nat)(L:List UInt8):FV n (fun i=>o5 L (k+i)):=fun _ _=>aGs L _
def Vx:List (Nat×Spec):=(138,TU jB fun l=>wQ (b_ l))::KD
theorem MS:∀ p∈Vx,aj Tryz.prog a_ p.1 p.2:=by
 intro p hp;rcases List.mem_cons.1 hp with rfl|hp
 ·exact qQ (aF Tryz.func138 (by kernel_rfl) rfl) aGt
 ·exact bBh p hp
theorem aKY:kw Tryz.prog a_ (find Vx):=⟨bV MS,fC⟩
theorem bDm(L:List UInt8)(hL:jB L):gB Tryz.prog a_ 168 true [o7 L,gy 1] (wQ (Ag L)):=by
 have M:=aKY;have hle:=pO L;have hrg:=iJ L;have hL':L.length<4611686018427387904:=hL;refine bI Tryz.func168 rfl rfl bQ (fun A hS hn hI=>?_);refine aB M hI hn (by rfl) (by kernel_rfl) ?_ ?_
 ·simp
 refine aB M hI hn (by rfl) (by kernel_rfl) ?_ ?_
 ·simp[hL]
 refine aI (s':=⟨[(0,none,o7 L),(1,none,gy 1),(4,none,gy (b_ L).1),(5,none,gy ((b_ L).2.1:Int)),(6,none,gy (b_ L).2.2)],[]⟩) (fun a w hg=>(hg.reset (kT:=[0,1,4,5,6]) (kO:=[]) (by rfl) (by simp)).same ?_ ?_) ?_
 ·rw[eF];exact .cons rfl (.cons rfl (.cons rfl (.cons rfl (.cons rfl .nil))))
 ·exact .nil
 unfold Ag;generalize b_ L=g at *;obtain⟨n,k,e⟩:=g;dsimp only at *;refine aJ ?_;refine bF ?_;refine aB M hI hn (by rfl) (by kernel_rfl) ?_ ?_
 ·simp
 refine aG (by rfl) (fun hc=>?_) (fun hc=>?_)
 ·have he:e≠0:=by simpa using hc
  refine aO ?_;change h_ _ _ _ _ _;refine aB M hI hn (by rfl) (by kernel_rfl) ?_ ?_
  ·simp
  refine aK (fun a w hg=>⟨.inr rfl,_,?_,hg⟩);refine aC (by rfl) (by simp) (by rfl) (by rfl) ?_;unfold wQ;rw[if_pos he]
 ·have he:e=0:=by simpa using hc
  subst he;refine aB M hI hn (by rfl) (by kernel_rfl) ?_ ?_
  ·simp
  refine aG (by rfl) (fun hc=>?_) (fun hc=>?_)
  ·have hn0:n<0:=by simpa using hc
   refine aP M hI hn (by rfl) (by kernel_rfl) ?_ ?_
   ·simp
   change h_ _ _ _ _ _;refine aB M hI hn (by rfl) (by kernel_rfl) ?_ ?_
   ·simp
   refine aK (fun a w hg=>⟨.inr rfl,_,?_,hg⟩);refine aC (by rfl) (by simp) (by rfl) (by rfl) ?_;unfold wQ;rw[if_neg (by simp),if_pos hn0]
  ·have hn0:¬n<0:=by simpa using hc
   refine aB M hI hn (by rfl) (by kernel_rfl) ?_ ?_
   ·simp
   refine aG (by rfl) (fun hc=>?_) (fun hc=>?_)
   ·have hn1:n > (L.length:Int)-k:=by
     have e1:IntKind.i64.wrap ((L.length:Int)-k)=(L.length:Int)-k:=dY (by omega) (by omega);rw[e1,Int.tdiv_one,e1] at hc
     simpa using hc
    refine aP M hI hn (by rfl) (by kernel_rfl) ?_ ?_
    ·simp
    change h_ _ _ _ _ _;refine aB M hI hn (by rfl) (by kernel_rfl) ?_ ?_
    ·simp
    refine aK (fun a w hg=>⟨.inr rfl,_,?_,hg⟩);refine aC (by rfl) (by simp) (by rfl) (by rfl) ?_;unfold wQ;rw[if_neg (by simp),if_neg hn0,if_pos hn1]
   ·have hn1:¬n > (L.length:Int)-k:=by
     have e1:IntKind.i64.wrap ((L.length:Int)-k)=(L.length:Int)-k:=dY (by omega) (by omega);rw[e1,Int.tdiv_one,e1] at hc
     simpa using hc
    refine aO ?_;change h_ _ _ _ _ _;refine aB M hI hn (by rfl) (by kernel_rfl) ?_ ?_
    ·simp
    refine aK (fun a w hg=>⟨.inr rfl,_,?_,hg⟩);refine aC (by rfl) (by simp) (by rfl) (by rfl) ?_;unfold wQ;rw[if_neg (by simp),if_neg hn0,if_neg hn1]
def aYl:Spec:=aZ true fun xs=>match xs with
 |[v,.w (.one (.lit (.int .i64 1)))]=>(match yR v with
  |some (p,l)=>some (p/\jB l,wQ (Ag l))
  |none=>none)
 |_=>none
theorem MX:aj Tryz.prog a_ 168 aYl:=by
 refine aY (aF Tryz.func168 (by kernel_rfl) rfl) (fun xs p r hg hp=>?_)
 split at hg
 ·rename_i v
  cases hq:yR v with
  |none=>rw[hq] at hg;cases hg
  | some q=>
   obtain⟨p0,l⟩:=q;rw[hq] at hg;cases hg
   exact (bDm l hp.2).args fun C vs hv=>by
    match vs,hv with
    |[x,y],⟨h1,h2,_⟩=>exact⟨vH hq hp.1 h1,h2,trivial⟩
 ·cases hg
def Vw:List (Nat×Spec):=(168,aYl)::Vx
theorem MR:∀ p∈Vw,aj Tryz.prog a_ p.1 p.2:=by
 intro p hp;rcases List.mem_cons.1 hp with rfl|hp
 ·exact MX
 ·exact MS p hp
theorem Vz:kw Tryz.prog a_ (find Vw):=⟨bV MR,fC⟩
theorem aNz(L:List UInt8):(Ag L).2.2=0->(b_ L).2.2=0/\0<=(b_ L).1/\(b_ L).1<=(L.length:Int)-(b_ L).2.1:=by
 unfold Ag;dsimp only
 split
 ·rename_i h;intro h2;exact absurd h2 h
 ·rename_i h
  split
  ·intro h2;cases h2
  ·split
   ·intro h2;cases h2
   ·intro _;exact⟨by simpa using h,by omega,by omega⟩
theorem aNg(L:List UInt8):iZ L=if (Ag L).2.2≠0 then ([],0,(Ag L).2.2) else ((L.drop (b_ L).2.1).take (b_ L).1.toNat,(b_ L).2.1+(b_ L).1.toNat,0):=by
 unfold iZ Ag;dsimp only
 by_cases h:(b_ L).2.2=0
 ·by_cases h1:(b_ L).1<0
  ·simp[h,h1]
  ·by_cases h2:(b_ L).1 > (L.length:Int)-(b_ L).2.1
   ·have e:(if (b_ L).2.2≠0 then (b_ L).2.2 else if (b_ L).1<0 then (7:Int) else if (b_ L).1 > (L.length:Int)-(b_ L).2.1 then 6 else 0)=6:=by rw[if_neg (by simp[h]),if_neg h1,if_pos h2]
    rw[e,if_neg (by simp[h]),if_neg h1,if_pos h2,if_pos (by decide)]
   ·have e:(if (b_ L).2.2≠0 then (b_ L).2.2 else if (b_ L).1<0 then (7:Int) else if (b_ L).1 > (L.length:Int)-(b_ L).2.1 then 6 else 0)=0:=by rw[if_neg (by simp[h]),if_neg h1,if_neg h2]
    rw[e,if_neg (by simp[h]),if_neg h1,if_neg h2,if_neg (by decide)]
 ·rw[if_pos h,if_pos h,if_pos h]
theorem aAu(L:List UInt8)(hL:jB L):gB Tryz.prog a_ 139 true [o7 L] (EI (iZ L)):=by
 have M:=Vz;have hle:=pO L;have hrg:=iJ L;have hL':L.length<4611686018427387904:=hL;refine bI Tryz.func139 rfl rfl bQ (fun A hS hn hI=>?_);refine aB M hI hn (by rfl) (by kernel_rfl) ?_ ?_
 ·simp
 refine aB M hI hn (by rfl) (by kernel_rfl) ?_ ?_
 ·simp[hL]
 refine aI (s':=⟨[(0,none,o7 L),(5,none,gy (b_ L).1),(6,none,gy ((b_ L).2.1:Int)),(7,none,gy (Ag L).2.2)],[]⟩) (fun a w hg=>(hg.reset (kT:=[0,5,6,7]) (kO:=[]) (by rfl) (by simp)).same ?_ ?_) ?_
 ·rw[eF];exact .cons rfl (.cons rfl (.cons rfl (.cons rfl .nil)))
 ·exact .nil
 have hcc:=aNz L;rw[aNg L];generalize (Ag L).2.2=e at *;generalize b_ L=g at *;obtain⟨n,k,e'⟩:=g;dsimp only at *;refine aJ ?_;refine aB M hI hn (by rfl) (by kernel_rfl) ?_ ?_
 ·simp
 refine aG (by rfl) (fun hc=>?_) (fun hc=>?_)
 ·have he:e≠0:=by simpa using hc
  refine aB M hI hn (by rfl) (by kernel_rfl) ?_ ?_
  ·simp
  refine aK (fun a w hg=>⟨.inr rfl,_,?_,hg⟩);refine aC (by rfl) (by simp) (by rfl) (by rfl) ?_;rw[if_pos he];rfl
 ·have he:e=0:=by simpa using hc
  subst he;obtain⟨_,hn0,hn1⟩:=hcc rfl
  have e1:IntKind.i64.wrap ((k:Int)+n)=((k+n.toNat:Nat):Int):=by rw[dY (by omega) (by omega)];omega
  refine aO ?_;change h_ _ _ _ _ _;refine aB M hI hn (by rfl) (by kernel_rfl) ?_ ?_
  ·simp;rw[e1];omega
  refine aK (fun a w hg=>⟨.inr rfl,_,?_,hg⟩);refine aC (by rfl) (by simp) (by rfl) (by rfl) ?_;rw[if_neg (by simp),e1]
  have e2:(((k+n.toNat:Nat):Int)-(k:Int)).toNat=n.toNat:=by omega
  unfold EI;rw[e2,Int.toNat_natCast,kV (by omega)];rfl
def je(L:List UInt8):Nat:=match term 10 L with
 |none=>0
 |some k=>k+1
def aAF(L:List UInt8)(k:Nat):St:=⟨[(0,none,o7 L),(3,none,gy k)],[]⟩
theorem aPl(L:List UInt8)(_:jB L):gB Tryz.prog a_ 181 true [o7 L] (gy (je L)):=by
 have M:=Vz;refine bI Tryz.func181 rfl rfl bQ (fun A hS hn hI=>?_);refine aB M hI hn (by rfl) (by kernel_rfl) ?_ ?_
 ·simp
 refine aJ ?_;refine aB M hI hn (by rfl) (by kernel_rfl) ?_ ?_
 ·simp
 refine aI (s':=aAF L 0) (fun a w hg=>(hg.reset (kT:=[0,3]) (kO:=[]) (by rfl) (by simp)).same ?_ ?_) ?_
 ·exact .cons rfl (.cons rfl .nil)
 ·exact .nil
 refine bF ?_;refine iH (min L.length 10) (fun k s=>s=aAF L k/\∀ i,i<k->128<=(L.getD i 0).toNat) 0 ⟨rfl,fun i hi=>by omega⟩ (by omega) (fun k s hJ hk=>?_);obtain⟨rfl,hbig⟩:=hJ;refine aJ ?_;refine aB M hI hn (by rfl) (by kernel_rfl) ?_ ?_
 ·simp
 refine aG (by rfl) (fun hc=>?_) (fun hc=>?_)
 ·have hk2:k<L.length/\k<10:=by
   have h1:(k:Int)<(L.length:Int)/\(k:Int)<10:=by simpa using hc
   omega
  refine aO ?_;change h_ _ _ _ _ _;refine aJ ?_;refine bF ?_;refine aB M hI hn (by rfl) (by kernel_rfl) ?_ ?_
  ·simp;omega
  refine aG (by rfl) (fun hc=>?_) (fun hc=>?_)
  ·have hlt:(L.getD k 0).toNat<128:=by
    have:((L.getD k 0).toNat:Int)<128:=by simpa using hc
    omega
   have ht:=sH 10 L k hbig hk2.1 hk2.2 hlt;refine aB M hI hn (by rfl) (by kernel_rfl) ?_ ?_
   ·simp
   refine aK (fun a w hg=>⟨.inr rfl,_,?_,hg⟩);refine aC (by rfl) (by simp) (by rfl) (by rfl) ?_;unfold je;rw[ht,fP k (by omega)]
  ·have hge:128<=(L.getD k 0).toNat:=by
    have:¬((L.getD k 0).toNat:Int)<128:=by simpa using hc
    omega
   refine aO ?_;change h_ _ _ _ _ _;refine aP M hI hn (by rfl) (by kernel_rfl) ?_ ?_
   ·simp
   intro a w hg
   refine⟨k+1,_,by omega,by omega,⟨rfl,fun i hi=>?_⟩,(hg.reset (kT:=[0,3]) (kO:=[]) (by rfl) (by simp)).same ?_ ?_⟩
   ·rcases Nat.lt_or_eq_of_le (Nat.le_of_lt_succ hi) with h|rfl
    ·exact hbig i h
    ·exact hge
   ·exact .cons rfl (.cons (by rw[fP k (by omega)]) .nil)
   ·exact .nil
 ·have hkk:k=min L.length 10:=by
   have h1:¬((k:Int)<(L.length:Int)/\(k:Int)<10):=by simpa using hc
   omega
  have ht:=sJ 10 L (fun i hi=>hbig i (by omega));refine gQ ?_;change h_ _ _ _ _ _;refine aB M hI hn (by rfl) (by kernel_rfl) ?_ ?_
  ·simp
  refine aK (fun a w hg=>⟨.inr rfl,_,?_,hg⟩);refine aC (by rfl) (by simp) (by rfl) (by rfl) ?_;unfold je;rw[ht];rfl
def ZP(X Y:List UInt8)(k:Nat):St:=⟨[(0,none,o7 X),(1,none,o7 Y),(5,none,gy k)],[]⟩
theorem aWn{X Y:List UInt8}(hl:X.length=Y.length)(h:∀ i,i<X.length->X.getD i 0=Y.getD i 0):X=Y:=by
 apply List.ext_getElem hl;intro i h1 h2;have:=h i h1;rw[zG,zG,zH h1,zH h2] at this;exact this
theorem aYz(X Y:List UInt8)(hX:jB X):gB Tryz.prog a_ 182 true [o7 X,o7 Y] (qc (X==Y)):=by
 have M:=Vz;have hX':X.length<4611686018427387904:=hX;refine bI Tryz.func182 rfl rfl bQ (fun A hS hn hI=>?_);refine aB M hI hn (by rfl) (by kernel_rfl) ?_ ?_
 ·simp
 refine aJ ?_;refine aB M hI hn (by rfl) (by kernel_rfl) ?_ ?_
 ·simp
 refine aG (by rfl) (fun hc=>?_) (fun hc=>?_)
 ·have hne:X≠Y:=by
   have:¬(X.length:Int)=Y.length:=by simpa using hc
   intro e;subst e;exact this rfl
  refine aB M hI hn (by rfl) (by kernel_rfl) ?_ ?_
  ·simp
  refine aK (fun a w hg=>⟨.inr rfl,_,?_,hg⟩);refine aC (by rfl) (by simp) (by rfl) (by rfl) ?_;rw[beq_eq_false_iff_ne.2 hne]
 ·have hl:X.length=Y.length:=by
   have:(X.length:Int)=Y.length:=by simpa using hc
   omega
  refine aO ?_;change h_ _ _ _ _ _;refine aJ ?_;refine aB M hI hn (by rfl) (by kernel_rfl) ?_ ?_
  ·simp
  refine aI (s':=ZP X Y 0) (fun a w hg=>(hg.reset (kT:=[0,1,5]) (kO:=[]) (by rfl) (by simp)).same ?_ ?_) ?_
  ·exact .cons rfl (.cons rfl (.cons rfl .nil))
  ·exact .nil
  refine bF ?_;refine iH X.length (fun k s=>s=ZP X Y k/\∀ i,i<k->X.getD i 0=Y.getD i 0) 0 ⟨rfl,fun i hi=>by omega⟩ (by omega) (fun k s hJ hk=>?_);obtain⟨rfl,heq⟩:=hJ;refine aJ ?_;refine aB M hI hn (by rfl) (by kernel_rfl) ?_ ?_
  ·simp
  refine aG (by rfl) (fun hc=>?_) (fun hc=>?_)
  ·have hk2:k<X.length:=by simpa using hc
   refine aO ?_;change h_ _ _ _ _ _;refine aJ ?_;refine bF ?_;refine aB M hI hn (by rfl) (by kernel_rfl) ?_ ?_
   ·simp;omega
   refine aG (by rfl) (fun hc=>?_) (fun hc=>?_)
   ·have hne:X≠Y:=by
     intro e;subst e;simp at hc
    refine aB M hI hn (by rfl) (by kernel_rfl) ?_ ?_
    ·simp
    refine aK (fun a w hg=>⟨.inr rfl,_,?_,hg⟩);refine aC (by rfl) (by simp) (by rfl) (by rfl) ?_;rw[beq_eq_false_iff_ne.2 hne]
   ·have he:X.getD k 0=Y.getD k 0:=by
     have:((X.getD k 0).toNat:Int)=(Y.getD k 0).toNat:=by simpa using hc
     exact UInt8.toNat_inj.1 (by omega)
    refine aO ?_;change h_ _ _ _ _ _;refine aP M hI hn (by rfl) (by kernel_rfl) ?_ ?_
    ·simp
    intro a w hg
    refine⟨k+1,_,by omega,by omega,⟨rfl,fun i hi=>?_⟩,(hg.reset (kT:=[0,1,5]) (kO:=[]) (by rfl) (by simp)).same ?_ ?_⟩
    ·rcases Nat.lt_or_eq_of_le (Nat.le_of_lt_succ hi) with h|rfl
     ·exact heq i h
     ·exact he
    ·exact .cons rfl (.cons rfl (.cons (by rw[fP k (by omega)]) .nil))
    ·exact .nil
  ·have hkk:k=X.length:=by
    have:¬k<X.length:=by simpa using hc
    omega
   have he:=aWn hl (fun i hi=>heq i (by omega));refine gQ ?_;change h_ _ _ _ _ _;refine aB M hI hn (by rfl) (by kernel_rfl) ?_ ?_
   ·simp
   refine aK (fun a w hg=>⟨.inr rfl,_,?_,hg⟩);refine aC (by rfl) (by simp) (by rfl) (by rfl) ?_;subst he;simp
def Gp:Spec:=aZ true fun xs=>match xs with
 |[v,u]=>(match yR v,yR u with
  |some (p,l),some (q,m)=>some (p/\q/\jB l,qc (l==m))
  |_,_=>none)
 |_=>none
theorem IK:aj Tryz.prog a_ 182 Gp:=by
 refine aY (aF Tryz.func182 (by kernel_rfl) rfl) (fun xs p r hg hp=>?_)
 split at hg
 ·rename_i v u
  cases hq:yR v<;>cases hq2:yR u<;>simp only[hq,hq2] at hg<;>try (cases hg;done)
  cases hg
  exact (aYz _ _ hp.2.2).args fun C vs hv=>by
   match vs,hv with
   |[x,y],⟨h1,h2,_⟩=>exact⟨vH hq hp.1 h1,vH hq2 hp.2.1 h2,trivial⟩
 ·cases hg
def Qr:List (Nat×Spec):=(181,TU jB fun l=>gy (je l))::(182,Gp)::Vw
theorem MQ:∀ p∈Qr,aj Tryz.prog a_ p.1 p.2:=by
 intro p hp;simp only[Qr,List.mem_cons] at hp;rcases hp with rfl|rfl|hp
 ·exact qQ (aF Tryz.func181 (by kernel_rfl) rfl) aPl
 ·exact IK
 ·exact MR p hp
theorem aKX:kw Tryz.prog a_ (find Qr):=⟨bV MQ,fC⟩
theorem QB(L:List UInt8):je L<=L.length/\je L<=10:=by
 unfold je
 cases h:term 10 L with
 |none=>simp
 |some k=>obtain⟨_,h1,h2⟩:=pU _ _ _ h;dsimp only;omega
theorem aTe(L:List UInt8):b_ L=if je L=0 then (0,0,if L.length<10 then 6 else 7) else if d_ (lK (jk (L.take (je L)) % 18446744073709551616))=L.take (je L) then (lK (jk (L.take (je L)) % 18446744073709551616),je L,0) else (0,0,7):=by
 unfold b_ je
 cases h:term 10 L with
 |none=>rfl
 |some k=>
  obtain⟨h1,h2,h3⟩:=pU _ _ _ h;dsimp only;rw[if_neg (show ¬k+1=0 by omega)]
  have hl:(L.take (k+1)).length=k+1:=by rw[List.length_take];omega
  have hiff:=aOr h1 hl h2;rw[getD_take (by omega)] at hiff
  by_cases hc:jk (L.take (k+1))<18446744073709551616/\(k=0\/L.getD k 0≠0)
  ·rw[if_pos hc,if_pos (hiff.2 hc),Nat.mod_eq_of_lt hc.1]
  ·rw[if_neg hc,if_neg (fun e=>hc (hiff.1 e))]
theorem GX(u c:Nat):IntKind.u64.wrap (IntKind.u64.wrap (128*(u:Int))+IntKind.u64.wrap ((c:Int).tmod 128))=(((c % 128+128*u) % 18446744073709551616:Nat):Int):=by
 have e:(c:Int).tmod 128=((c % 128:Nat):Int):=by rw[Int.tmod_eq_emod_of_nonneg (by omega)];omega
 rw[e,show (128:Int)*(u:Int)=((128*u:Nat):Int) from by omega,mD,mD,<-Int.natCast_add,mD];congr 1;omega
theorem aYa{l:List UInt8}{k:Nat}(h:k<l.length):jk (l.drop k)=(l.getD k 0).toNat % 128+128*jk (l.drop (k+1)):=by
 rw[List.drop_eq_getElem_cons h,zG,zH h];rfl
def Dw(L:List UInt8)(r:Nat):Nat:=jk ((L.take (je L)).drop (je L-r)) % 18446744073709551616
def Zd(L:List UInt8)(r:Nat):St:=⟨[(0,none,o7 L),(5,none,gy (je L)),(6,none,ji (.int .u64 (Dw L r:Int))),(7,none,gy ((je L:Int)-1-r))],[]⟩
theorem aPm(L:List UInt8)(hL:jB L):gB Tryz.prog a_ 151 true [o7 L] (wQ (b_ L)):=by
 have M:=aKX;have hL':L.length<4611686018427387904:=hL;have hle:=QB L;refine bI Tryz.func151 rfl rfl bQ (fun A hS hn hI=>?_);refine aB M hI hn (by rfl) (by kernel_rfl) ?_ ?_
 ·simp
 refine aB M hI hn (by rfl) (by kernel_rfl) ?_ ?_
 ·simp[hL]
 refine aI (s':=⟨[(0,none,o7 L),(5,none,gy (je L))],[]⟩) (fun a w hg=>(hg.reset (kT:=[0,5]) (kO:=[]) (by rfl) (by simp)).same ?_ ?_) ?_
 ·rw[eF];exact .cons rfl (.cons rfl .nil)
 ·exact .nil
 refine aJ ?_;refine aB M hI hn (by rfl) (by kernel_rfl) ?_ ?_
 ·simp
 refine aG (by rfl) (fun hc=>?_) (fun hc=>?_)
 ·have h0:je L=0/\L.length<10:=by
   have:((je L:Nat):Int)=0/\(L.length:Int)<10:=by simpa using hc
   omega
  refine aB M hI hn (by rfl) (by kernel_rfl) ?_ ?_
  ·simp
  refine aK (fun a w hg=>⟨.inr rfl,_,?_,hg⟩);refine aC (by rfl) (by simp) (by rfl) (by rfl) ?_;rw[aTe,if_pos h0.1,if_pos h0.2];rfl
 ·have h0:¬(je L=0/\L.length<10):=by
   intro h;simp[h.1] at hc;omega
  refine aO ?_;change h_ _ _ _ _ _;refine aB M hI hn (by rfl) (by kernel_rfl) ?_ ?_
  ·simp
  refine aJ ?_;refine aB M hI hn (by rfl) (by kernel_rfl) ?_ ?_
  ·simp
  refine aI (s':=Zd L 0) (fun a w hg=>(hg.reset (kT:=[0,5,6,7]) (kO:=[]) (by rfl) (by simp)).same ?_ ?_) ?_
  ·refine .cons rfl (.cons rfl (.cons ?_ (.cons ?_ .nil)))
   ·unfold Dw;rw[Nat.sub_zero,List.drop_of_length_le (by rw[List.length_take];omega)];rfl
   ·exact congrArg gy (by rw[dY (by omega) (by omega)];omega)
  ·exact .nil
  refine bF ?_;refine iH (je L) (fun k s=>s=Zd L k) 0 rfl (by omega) (fun k s hJ hk=>?_);subst hJ;refine aJ ?_;refine aB M hI hn (by rfl) (by kernel_rfl) ?_ ?_
  ·simp
  refine aG (by rfl) (fun hc=>?_) (fun hc=>?_)
  ·have hk2:k<je L:=by
    have:((je L:Nat):Int)-1-k>=0:=by simpa using hc
    omega
   refine aO ?_;change h_ _ _ _ _ _;refine aJ ?_;refine bF ?_;refine aP M hI hn (by rfl) (by kernel_rfl) ?_ ?_
   ·simp;omega
   change h_ _ _ _ _ _;refine aP M hI hn (by rfl) (by kernel_rfl) ?_ ?_
   ·simp
   intro a w hg
   refine⟨k+1,_,by omega,by omega,rfl,(hg.reset (kT:=[0,5,6,7]) (kO:=[]) (by rfl) (by simp)).same ?_ ?_⟩
   ·refine .cons rfl (.cons rfl (.cons ?_ (.cons ?_ .nil)))
    ·refine congrArg (fun n=>ji (.int .u64 n)) ?_;rw[show ((je L:Nat):Int)-1-k=((je L-1-k:Nat):Int) from by omega,Int.toNat_natCast,GX];unfold Dw;have h1:=aYa (l:=L.take (je L)) (k:=je L-1-k) (by rw[List.length_take];omega);rw[getD_take (by omega),show je L-1-k+1=je L-k from by omega] at h1;rw[show je L-(k+1)=je L-1-k from by omega,h1];congr 1;omega
    ·exact congrArg gy (by rw[dY (by omega) (by omega)];omega)
   ·exact .nil
  ·have hkk:k=je L:=by
    have:¬((je L:Nat):Int)-1-k>=0:=by simpa using hc
    omega
   subst hkk
   have hu:Dw L (je L)=jk (L.take (je L)) % 18446744073709551616:=by unfold Dw;rw[Nat.sub_self,List.drop_zero]
   have hu2:Dw L (je L)<18446744073709551616:=Nat.mod_lt _ (by omega);have aJN:=wE hu2;refine gQ ?_;change h_ _ _ _ _ _;refine aB M hI hn (by rfl) (by kernel_rfl) ?_ ?_
   ·simp
   have hh:IntKind.i64.wrap (IntKind.u64.wrap (((Dw L (je L):Nat):Int).tdiv 2))=((Dw L (je L) / 2:Nat):Int):=by
    have e:((Dw L (je L):Nat):Int).tdiv 2=((Dw L (je L) / 2:Nat):Int):=by rw[Int.tdiv_eq_ediv_of_nonneg (by omega)];omega
    rw[e,mD,Nat.mod_eq_of_lt (by omega),dY (by omega) (by omega)]
   refine aI (s':=⟨[(0,none,o7 L),(5,none,gy (je L)),(6,none,ji (.int .u64 (Dw L (je L):Int))),(8,none,gy ((Dw L (je L) / 2:Nat):Int))],[]⟩) (fun a w hg=>(hg.reset (kT:=[0,5,6,8]) (kO:=[]) (by rfl) (by simp)).same ?_ ?_) ?_
   ·exact .cons rfl (.cons rfl (.cons rfl (.cons (congrArg gy hh) .nil)))
   ·exact .nil
   have hm2:((Dw L (je L):Nat):Int).tmod 2=((Dw L (je L) % 2:Nat):Int):=by rw[Int.tmod_eq_emod_of_nonneg (by omega)];omega
   have hgs:=aTe L;rw[<-hu] at hgs;generalize hU:Dw L (je L)=U at *;have hbI:iq (lK U):=aJN;have hbl:=aX (lK U)
   have hr1:(rowB (d_ (lK U)).length fun i=>o5 (d_ (lK U)) (0+i))=d_ (lK U):=by
    rw[kV (by omega),List.drop_zero,List.take_length]
   have hr2:(rowB (((je L:Nat):Int)-0).toNat fun i=>o5 L (Int.toNat 0+i))=L.take (je L):=by
    rw[show (((je L:Nat):Int)-0).toNat=je L from by omega];exact (kV (L:=L) (k:=0) (m:=je L) (by omega)).trans (by rw[List.drop_zero])
   refine aJ ?_;refine aB M hI hn (by rfl) (by kernel_rfl) ?_ ?_
   ·simp
   refine aG (by rfl) (fun hc=>?_) (fun hc=>?_)
   ·have huz:IntKind.i64.wrap (IntKind.i64.wrap (0-((U / 2:Nat):Int))-1)=lK U:=by
     rw[hm2] at hc
     have hodd:((U % 2:Nat):Int)=1:=by simpa using hc
     have e:IntKind.i64.wrap (0-((U / 2:Nat):Int))=0-((U / 2:Nat):Int):=dY (by omega) (by omega);rw[e,dY (by omega) (by omega)];unfold lK;rw[if_neg (by omega)];omega
    refine aP M hI hn (by rfl) (by kernel_rfl) ?_ ?_
    ·simp
    change h_ _ _ _ _ _;refine aI (s':=⟨[(0,none,o7 L),(5,none,gy (je L)),(8,none,gy (lK U))],[]⟩) (fun a w hg=>(hg.reset (kT:=[0,5,8]) (kO:=[]) (by rfl) (by simp)).same ?_ ?_) ?_
    ·exact .cons rfl (.cons rfl (.cons (congrArg gy huz) .nil))
    ·exact .nil
    refine aJ ?_;refine aB M hI hn (by rfl) (by kernel_rfl) ?_ ?_
    ·simp[hbI]
     exact⟨fun _=>by omega,fun _ i hi x hx=>aBv (show (o5 _ i).all (dH false)=true from rfl) x hx,fun _=>by unfold jB;omega⟩
    refine aG (by rfl) (fun hc=>?_) (fun hc=>?_)
    ·rw[hr1,hr2] at hc
     have h7:b_ L=(0,0,7):=by
      rw[hgs]
      by_cases h1:je L=0
      ·rw[if_pos h1,if_neg (fun h=>h0 ⟨h1,h⟩)]
      ·rw[if_neg h1,if_neg];intro e;rw[e] at hc;simp[h1] at hc
     refine aB M hI hn (by rfl) (by kernel_rfl) ?_ ?_
     ·simp
     refine aK (fun a w hg=>⟨.inr rfl,_,?_,hg⟩);refine aC (by rfl) (by simp) (by rfl) (by rfl) ?_;rw[h7];rfl
    ·rw[hr1,hr2] at hc
     have h7:je L≠0/\d_ (lK U)=L.take (je L):=by
      by_cases h1:je L=0
      ·simp[h1] at hc
      ·refine⟨h1,?_⟩
       simp[h1] at hc;exact hc
     refine aO ?_;change h_ _ _ _ _ _;refine aB M hI hn (by rfl) (by kernel_rfl) ?_ ?_
     ·simp
     refine aK (fun a w hg=>⟨.inr rfl,_,?_,hg⟩);refine aC (by rfl) (by simp) (by rfl) (by rfl) ?_;rw[hgs,if_neg h7.1,if_pos h7.2];rfl
   ·have huz:((U / 2:Nat):Int)=lK U:=by
     rw[hm2] at hc
     have hev:¬((U % 2:Nat):Int)=1:=by simpa using hc
     unfold lK;rw[if_pos (by omega)]
    refine aO ?_;change h_ _ _ _ _ _;refine aI (s':=⟨[(0,none,o7 L),(5,none,gy (je L)),(8,none,gy (lK U))],[]⟩) (fun a w hg=>(hg.reset (kT:=[0,5,8]) (kO:=[]) (by rfl) (by simp)).same ?_ ?_) ?_
    ·exact .cons rfl (.cons rfl (.cons (congrArg gy huz) .nil))
    ·exact .nil
    refine aJ ?_;refine aB M hI hn (by rfl) (by kernel_rfl) ?_ ?_
    ·simp[hbI]
     exact⟨fun _=>by omega,fun _ i hi x hx=>aBv (show (o5 _ i).all (dH false)=true from rfl) x hx,fun _=>by unfold jB;omega⟩
    refine aG (by rfl) (fun hc=>?_) (fun hc=>?_)
    ·rw[hr1,hr2] at hc
     have h7:b_ L=(0,0,7):=by
      rw[hgs]
      by_cases h1:je L=0
      ·rw[if_pos h1,if_neg (fun h=>h0 ⟨h1,h⟩)]
      ·rw[if_neg h1,if_neg];intro e;rw[e] at hc;simp[h1] at hc
     refine aB M hI hn (by rfl) (by kernel_rfl) ?_ ?_
     ·simp
     refine aK (fun a w hg=>⟨.inr rfl,_,?_,hg⟩);refine aC (by rfl) (by simp) (by rfl) (by rfl) ?_;rw[h7];rfl
    ·rw[hr1,hr2] at hc
     have h7:je L≠0/\d_ (lK U)=L.take (je L):=by
      by_cases h1:je L=0
      ·simp[h1] at hc
      ·refine⟨h1,?_⟩
       simp[h1] at hc;exact hc
     refine aO ?_;change h_ _ _ _ _ _;refine aB M hI hn (by rfl) (by kernel_rfl) ?_ ?_
     ·simp
     refine aK (fun a w hg=>⟨.inr rfl,_,?_,hg⟩);refine aC (by rfl) (by simp) (by rfl) (by rfl) ?_;rw[hgs,if_neg h7.1,if_pos h7.2];rfl
def Qq:List (Nat×Spec):=(151,TU jB fun l=>wQ (b_ l))::(139,TU jB fun l=>EI (iZ l))::Qr
theorem MP:∀ p∈Qq,aj Tryz.prog a_ p.1 p.2:=by
 intro p hp;simp only[Qq,List.mem_cons] at hp;rcases hp with rfl|rfl|hp
 ·exact qQ (aF Tryz.func151 (by kernel_rfl) rfl) aPm
 ·exact qQ (aF Tryz.func139 (by kernel_rfl) rfl) aAu
 ·exact MQ p hp
theorem aKW:kw Tryz.prog a_ (find Qq):=⟨bV MP,fC⟩
def WX(L:List UInt8):Int×Nat×Int:=if (Ag L).2.2=0 then ((b_ L).1,(b_ L).2.1,0) else (0,0,(Ag L).2.2)
theorem aVg(L:List UInt8)(hL:jB L):gB Tryz.prog a_ 183 true [o7 L,gy 1] (wQ (WX L)):=by
 have M:=aKW;have hle:=pO L;have hrg:=iJ L;have hL':L.length<4611686018427387904:=hL;refine bI Tryz.func183 rfl rfl bQ (fun A hS hn hI=>?_);refine aB M hI hn (by rfl) (by kernel_rfl) ?_ ?_
 ·simp
 refine aB M hI hn (by rfl) (by kernel_rfl) ?_ ?_
 ·simp[hL]
 refine aI (s':=⟨[(0,none,o7 L),(1,none,gy 1),(7,none,gy (b_ L).1),(8,none,gy ((b_ L).2.1:Int)),(9,none,gy (b_ L).2.2)],[]⟩) (fun a w hg=>(hg.reset (kT:=[0,1,7,8,9]) (kO:=[]) (by rfl) (by simp)).same ?_ ?_) ?_
 ·rw[eF];exact .cons rfl (.cons rfl (.cons rfl (.cons rfl (.cons rfl .nil))))
 ·exact .nil
 unfold WX Ag;generalize b_ L=g at *;obtain⟨n,k,e⟩:=g;dsimp only at *;refine aJ ?_;refine aB M hI hn (by rfl) (by kernel_rfl) ?_ ?_
 ·simp
 refine aG (by rfl) (fun hc=>?_) (fun hc=>?_)
 ·have he:e≠0:=by simpa using hc
  refine aB M hI hn (by rfl) (by kernel_rfl) ?_ ?_
  ·simp
  refine aK (fun a w hg=>⟨.inr rfl,_,?_,hg⟩);refine aC (by rfl) (by simp) (by rfl) (by rfl) ?_;rw[if_pos he,if_neg he];rfl
 ·have he:e=0:=by simpa using hc
  subst he;refine aO ?_;change h_ _ _ _ _ _;refine aJ ?_;refine aB M hI hn (by rfl) (by kernel_rfl) ?_ ?_
  ·simp
  refine aG (by rfl) (fun hc=>?_) (fun hc=>?_)
  ·have hn0:n<0:=by simpa using hc
   refine aB M hI hn (by rfl) (by kernel_rfl) ?_ ?_
   ·simp
   refine aK (fun a w hg=>⟨.inr rfl,_,?_,hg⟩);refine aC (by rfl) (by simp) (by rfl) (by rfl) ?_
   have ec:(if (0:Int)≠0 then (0:Int) else if n<0 then (7:Int) else if n > (L.length:Int)-k then 6 else 0)=7:=by rw[if_neg (by simp),if_pos hn0]
   rw[ec];rfl
  ·have hn0:¬n<0:=by simpa using hc
   refine aO ?_;change h_ _ _ _ _ _;refine aJ ?_;refine aB M hI hn (by rfl) (by kernel_rfl) ?_ ?_
   ·simp
   have e1:IntKind.i64.wrap ((L.length:Int)-k)=(L.length:Int)-k:=dY (by omega) (by omega)
   have e2:IntKind.i64.wrap (n*1)=n:=by rw[Int.mul_one];exact dY (by omega) (by omega)
   refine aG (by rfl) (fun hc=>?_) (fun hc=>?_)
   ·rw[e1,e2] at hc
    have hn1:n > (L.length:Int)-k:=by
     by_cases h1:(L.length:Int)<n
     ·omega
     ·simp[h1] at hc;exact hc
    refine aB M hI hn (by rfl) (by kernel_rfl) ?_ ?_
    ·simp
    refine aK (fun a w hg=>⟨.inr rfl,_,?_,hg⟩);refine aC (by rfl) (by simp) (by rfl) (by rfl) ?_
    have ec:(if (0:Int)≠0 then (0:Int) else if n<0 then (7:Int) else if n > (L.length:Int)-k then 6 else 0)=6:=by rw[if_neg (by simp),if_neg hn0,if_pos hn1]
    rw[ec];rfl
   ·rw[e1,e2] at hc
    have hn1:¬n > (L.length:Int)-k:=by
     by_cases h1:(L.length:Int)<n
     ·simp[h1] at hc
     ·simp[h1] at hc;omega
    refine aO ?_;change h_ _ _ _ _ _;refine aB M hI hn (by rfl) (by kernel_rfl) ?_ ?_
    ·simp
    refine aK (fun a w hg=>⟨.inr rfl,_,?_,hg⟩);refine aC (by rfl) (by simp) (by rfl) (by rfl) ?_
    have ec:(if (0:Int)≠0 then (0:Int) else if n<0 then (7:Int) else if n > (L.length:Int)-k then 6 else 0)=0:=by rw[if_neg (by simp),if_neg hn0,if_neg hn1]
    rw[ec];rfl
def aRy:Spec:=aZ true fun xs=>match xs with
 |[v,.w (.one (.lit (.int .i64 1)))]=>(match yR v with
  |some (p,l)=>some (p/\jB l,wQ (WX l))
  |none=>none)
 |_=>none
theorem aZp:aj Tryz.prog a_ 183 aRy:=by
 refine aY (aF Tryz.func183 (by kernel_rfl) rfl) (fun xs p r hg hp=>?_)
 split at hg
 ·rename_i v
  cases hq:yR v with
  |none=>rw[hq] at hg;cases hg
  | some q=>
   obtain⟨p0,l⟩:=q;rw[hq] at hg;cases hg
   exact (aVg l hp.2).args fun C vs hv=>by
    match vs,hv with
    |[x,y],⟨h1,h2,_⟩=>exact⟨vH hq hp.1 h1,h2,trivial⟩
 ·cases hg
def Vu:List (Nat×Spec):=(183,aRy)::Qq
theorem MO:∀ p∈Vu,aj Tryz.prog a_ p.1 p.2:=by
 intro p hp;rcases List.mem_cons.1 hp with rfl|hp
 ·exact aZp
 ·exact MP p hp
theorem aCB:kw Tryz.prog a_ (find Vu):=⟨bV MO,fC⟩
theorem aIl(L:List UInt8)(hL:jB L):gB Tryz.prog a_ 152 true [o7 L] (EI (iZ L)):=by
 have M:=aCB;have hle:=pO L;have hrg:=iJ L;have hL':L.length<4611686018427387904:=hL;refine bI Tryz.func152 rfl rfl bQ (fun A hS hn hI=>?_);refine aB M hI hn (by rfl) (by kernel_rfl) ?_ ?_
 ·simp
 refine aB M hI hn (by rfl) (by kernel_rfl) ?_ ?_
 ·simp[hL]
 refine aI (s':=⟨[(0,none,o7 L),(5,none,gy (WX L).1),(6,none,gy ((WX L).2.1:Int)),(7,none,gy (WX L).2.2)],[]⟩) (fun a w hg=>(hg.reset (kT:=[0,5,6,7]) (kO:=[]) (by rfl) (by simp)).same ?_ ?_) ?_
 ·rw[eF];exact .cons rfl (.cons rfl (.cons rfl (.cons rfl .nil)))
 ·exact .nil
 have hcc:=aNz L;rw[aNg L];unfold WX;generalize (Ag L).2.2=e at *;generalize b_ L=g at *;obtain⟨n,k,e'⟩:=g;dsimp only at *;refine aJ ?_;refine aB M hI hn (by rfl) (by kernel_rfl) ?_ ?_
 ·simp
 refine aG (by rfl) (fun hc=>?_) (fun hc=>?_)
 ·have he:e≠0:=by
   intro h;rw[if_pos h] at hc;simp at hc
  refine aB M hI hn (by rfl) (by kernel_rfl) ?_ ?_
  ·simp
  refine aK (fun a w hg=>⟨.inr rfl,_,?_,hg⟩);refine aC (by rfl) (by simp) (by rfl) (by rfl) ?_;rw[if_pos he,if_neg he];rfl
 ·have he:e=0:=by
   rcases Decidable.em (e=0) with h|h
   ·exact h
   ·rw[if_neg h] at hc;exact absurd (by simpa using hc) h
  subst he;obtain⟨_,hn0,hn1⟩:=hcc rfl
  have e1:IntKind.i64.wrap ((k:Int)+n)=((k+n.toNat:Nat):Int):=by rw[dY (by omega) (by omega)];omega
  refine aO ?_;change h_ _ _ _ _ _;simp only[if_pos];refine aB M hI hn (by rfl) (by kernel_rfl) ?_ ?_
  ·simp;rw[e1];omega
  refine aK (fun a w hg=>⟨.inr rfl,_,?_,hg⟩);refine aC (by rfl) (by simp) (by rfl) (by rfl) ?_;rw[if_neg (by simp),e1]
  have e2:(((k+n.toNat:Nat):Int)-(k:Int)).toNat=n.toNat:=by omega
  unfold EI;rw[e2,Int.toNat_natCast,kV (by omega)];rfl
def aCA:List (Nat×Spec):=(152,TU jB fun l=>EI (iZ l))::Vu
theorem Vy:∀ p∈aCA,aj Tryz.prog a_ p.1 p.2:=by
 intro p hp;rcases List.mem_cons.1 hp with rfl|hp
 ·exact qQ (aF Tryz.func152 (by kernel_rfl) rfl) aIl
 ·exact MO p hp
end Pv
section
open Go.RowKit Go.Shelf
def laysRepeat_ren:Ren:=
{
 f:=fun x=>
  match x with
  |105=>141
  |212=>169
  |99=>170
  |165=>171
  |166=>172
  |170=>173
  |169=>174
  |263=>186
  |264=>187
  |206=>188
  |240=>189
  |241=>190
  |276=>198
  |277=>199
  |n=>n,
 t:=fun x=>
  match x with
  |9=>9
  |3=>3
  |4=>4
  |20=>20
  |0=>0
  |46=>220
  |109=>238
  |5=>5
  |72=>243
  |76=>247
  |51=>203
  |146=>253
  |53=>110
  |148=>255
  |70=>241
  |37=>74
  |75=>246
  |127=>257
  |164=>259
  |80=>249
  |n=>n,
 g:=fun x=>
  have n:=x;
  n }
theorem laysRepeat:Lays.n105 Tryz.prog laysRepeat_ren:=
{mixed:=Eq.refl true,f99:=Eq.trans Tryz.func170 (congrArg some (Eq.refl (Body.n99 laysRepeat_ren))),
 f105:=Eq.trans Tryz.func141 (congrArg some (Eq.refl (Body.n105 laysRepeat_ren))),
 f165:=Eq.trans Tryz.func171 (congrArg some (Eq.refl (Body.n165 laysRepeat_ren))),
 f166:=Eq.trans Tryz.func172 (congrArg some (Eq.refl (Body.n166 laysRepeat_ren))),
 f169:=Eq.trans Tryz.func174 (congrArg some (Eq.refl (Body.n169 laysRepeat_ren))),
 f170:=Eq.trans Tryz.func173 (congrArg some (Eq.refl (Body.n170 laysRepeat_ren))),
 f206:=Eq.trans Tryz.func188 (congrArg some (Eq.refl (Body.n206 laysRepeat_ren))),
 f212:=Eq.trans Tryz.func169 (congrArg some (Eq.refl (Body.n212 laysRepeat_ren))),
 f240:=Eq.trans Tryz.func189 (congrArg some (Eq.refl (Body.n240 laysRepeat_ren))),
 f241:=Eq.trans Tryz.func190 (congrArg some (Eq.refl (Body.n241 laysRepeat_ren))),
 f263:=Eq.trans Tryz.func186 (congrArg some (Eq.refl (Body.n263 laysRepeat_ren))),
 f264:=Eq.trans Tryz.func187 (congrArg some (Eq.refl (Body.n264 laysRepeat_ren))),
 f276:=Eq.trans Tryz.func198 (congrArg some (Eq.refl (Body.n276 laysRepeat_ren))),
 f277:=Eq.trans Tryz.func199 (congrArg some (Eq.refl (Body.n277 laysRepeat_ren))),t0:=Tryz.underlying0,
 a0:=Tryz.isAgg0,z0:=Tryz.sizeOf0,v0:=Tryz.zeroValue0,t3:=Tryz.underlying3,a3:=Tryz.isAgg3,
 z3:=Tryz.sizeOf3,v3:=Tryz.zeroValue3,t4:=Tryz.underlying4,a4:=Tryz.isAgg4,z4:=Tryz.sizeOf4,
 v4:=Tryz.zeroValue4,t5:=Tryz.underlying5,a5:=Tryz.isAgg5,z5:=Tryz.sizeOf5,v5:=Tryz.zeroValue5,
 t9:=Tryz.underlying9,a9:=Tryz.isAgg9,z9:=Tryz.sizeOf9,v9:=Tryz.zeroValue9,t20:=Tryz.underlying20,
 a20:=Tryz.isAgg20,z20:=Tryz.sizeOf20,v20:=Tryz.zeroValue20,t37:=Tryz.underlying74,a37:=Tryz.isAgg74,
 z37:=Tryz.sizeOf74,v37:=Tryz.zeroValue74,t46:=Tryz.underlying220,a46:=Tryz.isAgg220,z46:=Tryz.sizeOf220,
 v46:=Tryz.zeroValue220,t51:=Tryz.underlying203,a51:=Tryz.isAgg203,z51:=Tryz.sizeOf203,
 v51:=Tryz.zeroValue203,t53:=Tryz.underlying110,a53:=Tryz.isAgg110,z53:=Tryz.sizeOf110,
 v53:=Tryz.zeroValue110,t70:=Tryz.underlying241,a70:=Tryz.isAgg241,z70:=Tryz.sizeOf241,
 v70:=Tryz.zeroValue241,t72:=Tryz.underlying243,a72:=Tryz.isAgg243,z72:=Tryz.sizeOf243,
 v72:=Tryz.zeroValue243,t75:=Tryz.underlying246,a75:=Tryz.isAgg246,z75:=Tryz.sizeOf246,
 v75:=Tryz.zeroValue246,t76:=Tryz.underlying247,a76:=Tryz.isAgg247,z76:=Tryz.sizeOf247,
 v76:=Tryz.zeroValue247,t109:=Tryz.underlying238,a109:=Tryz.isAgg238,z109:=Tryz.sizeOf238,
 v109:=Tryz.zeroValue238,t127:=Tryz.underlying257,a127:=Tryz.isAgg257,z127:=Tryz.sizeOf257,
 v127:=Tryz.zeroValue257,t146:=Tryz.underlying253,a146:=Tryz.isAgg253,z146:=Tryz.sizeOf253,
 v146:=Tryz.zeroValue253,t148:=Tryz.underlying255,a148:=Tryz.isAgg255,z148:=Tryz.sizeOf255,
 v148:=Tryz.zeroValue255,t164:=Tryz.underlying259,a164:=Tryz.isAgg259,z164:=Tryz.sizeOf259,
 v164:=Tryz.zeroValue259 }
theorem aQq:Builder.Extra Tryz.prog laysRepeat_ren where
 sizeBuilder:=by kernel_rfl
 liesBuilder:=by kernel_rfl
 t5:=laysRepeat.t5
 a5:=laysRepeat.a5
 z5:=laysRepeat.z5
 v5:=laysRepeat.v5
 infoByte:=by kernel_rfl
 cellsByte:=by kernel_rfl
 sizeByte:=by kernel_rfl
 neB5:=by decide
theorem aCx(s:ByteArray)(c:Nat)(w:World)(hc:c<=9223372036854775807)(hlen:s.size*c<=140737488355328) :
  Calls Tryz.prog 141 #[.string s,.int .i64 c] w fun e w'=>e=.returned (.string ⟨(Lib.repeatL s.data.toList c).toArray⟩)/\Below w.heap.size w w':=
 Any.strings_Repeat laysRepeat aQq s c w hc hlen
theorem aJj(s p:ByteArray)(w:World):Calls Tryz.prog 170 #[.string s,.string p] w fun e w'=>e=.returned (.bool (Lib.hasPrefix s.data.toList p.data.toList))/\w'=w:=
 Any.strings_HasPrefix { laysRepeat with } s p w
end
abbrev Fl:=List ByteArray
def sec(f:Fl)(s:Int):List UInt8:=if 0<=s/\s<f.length then (f.getD s.toNat aS).data.toList else[]
def zq(cut:Int)(b old:List UInt8):List UInt8:=if cut<0\/(b.length:Int)<=cut then b else b.take cut.toNat++old.drop cut.toNat
def iO(f:Fl)(s:Int)(b:ByteArray)(cut:Int):Fl:=if 0<=s/\s<f.length/\b.size=256 then f.set s.toNat (strOf (zq cut b.data.toList (sec f s))) else f
namespace Pv
abbrev oq(s:ByteArray):PV:=ji (.string s)
theorem zZ{I:World->Prop}:kw Tryz.prog I (find ([]:List (Nat×Spec))):=⟨fun f sp h=>(by cases h),(by kernel_rfl)⟩
def tu(l:List ByteArray):Nat->List PC:=fun i=>[.lit (.string (l.getD i aS))]
def VZ:List PC->ByteArray
 |[.lit (.string s)]=>s
 |_=>aS
def VA:List PC->Bool
 |[.lit (.string _)]=>true
 |_=>false
theorem QD{l:List PC}(h:VA l=true):l=[.lit (.string (VZ l))]:=by
 unfold VA at h
 split at h
 ·rfl
 ·cases h
def iP(n:Nat)(f:Nat->List PC):List ByteArray:=(List.range n).map fun i=>VZ (f i)
def aKk(n:Nat)(f:Nat->List PC):Prop:=∀ i,i<n->VA (f i)=true
@[simp] theorem aAv(n:Nat)(f:Nat->List PC):(iP n f).length=n:=by simp[iP]
theorem bCc{n:Nat}{f:Nat->List PC}(h:aKk n f):∀ i,i<n->f i=tu (iP n f) i:=fun i hi=>by
 unfold tu iP;rw[zG,List.getElem?_map,List.getElem?_range hi];exact QD (h i hi)
@[simp] theorem TJ(n:Nat)(l:List ByteArray):aKk n (tu l):=fun _ _=>rfl
@[simp] theorem bK(l:List ByteArray):iP l.length (tu l)=l:=by
 apply List.ext_getElem (by simp);intro i h1 h2;simp only[iP,List.getElem_map,List.getElem_range,tu,VZ];rw[zG,zH h2];rfl
theorem Gx{C:Ctx}{n len:Nat}{f g:Nat->List PC}(h:∀ i,i<len->f i=g i){xs:List Value}(hr:R C (.sl n len f) xs):R C (.sl n len g) xs:=by
 cases hr with
 |sl h1 h2 h3=>exact .sl h1 h2 (fun i hi=>by rw[<-h i hi];exact h3 i hi)
theorem RL.head{C:Ctx}{c c':PC}{l:List PC}(h:∀ ys,R C c ys->R C c' ys){xs:List Value}(hr:RL C (c::l) xs):RL C (c'::l) xs:=by
 cases hr with
 |cons h1 h2=>exact .cons (h _ h1) h2
def flV(f:Fl):PV:=.w (.agg [.sl 1 f.length (tu f)])
def zk(f:Fl)(s:Int):Bool:=decide (0<=s)&&decide (s<f.length)
theorem bBt{f:Fl}{s:Int}(h:zk f s=true):0<=s/\s<f.length:=by
 unfold zk at h;rw[Bool.and_eq_true] at h
 exact⟨of_decide_eq_true h.1,of_decide_eq_true h.2⟩
theorem Ku{f:Fl}{s:Int}(h:zk f s=false):¬(0<=s/\s<f.length):=fun h2=>by
 unfold zk at h;rw[decide_eq_true h2.1,decide_eq_true h2.2] at h;cases h
def aTb(i:Nat):PV->Bool
 |.w (.one (.pt x v o))=>Nat.beq x (px+i)&&(Nat.beq v 0&&Nat.beq o 0)
 |_=>false
theorem aMz{i:Nat}{v:PV}(h:aTb i v=true):v=dm (.pt (px+i) 0 0):=by
 unfold aTb at h
 split at h
 ·rw[Bool.and_eq_true,Bool.and_eq_true] at h;rw[gm h.1,gm h.2.1,gm h.2.2]
 ·cases h
theorem QP(f:Fl)(s:Int):gB Tryz.prog a_ 161 true [flV f,gy s] (qc (zk f s)):=by
 have M:=zZ (I:=a_);refine bI Tryz.func161 rfl rfl bQ (fun A hS hn hI=>?_);refine aB M hI hn (by rfl) (by kernel_rfl) ?_ ?_
 ·simp
 refine aB M hI hn (by rfl) (by kernel_rfl) ?_ ?_
 ·simp
 refine aK (fun a w hg=>⟨.inr rfl,_,?_,hg⟩);refine aC (by rfl) (by simp) (by rfl) (by rfl) ?_;change qc (bif decide (s>=0) then decide (s<(f.length:Int)) else false)=_;unfold zk
 by_cases h:0<=s
 ·rw[decide_eq_true h];rfl
 ·rw[decide_eq_false h];rfl
theorem ext_list(b:ByteArray)(l h:Nat):b.extract l h=strOf ((b.data.toList.take h).drop l):=by
 apply ByteArray.ext;rw[ByteArray.data_extract];apply Array.toList_inj.1;unfold strOf;simp[Array.toList_extract,List.drop_take]
theorem OL(a b:List UInt8):strOf a++strOf b=strOf (a++b):=by
 apply ByteArray.ext;rw[ByteArray.data_append];simp[strOf]
theorem bBe(cut:Int)(b old:ByteArray)(hb1:b.size<=1000000)(ho1:old.size<=1000000):uq Tryz.prog a_ 162 false [⟨900001,3,[.lit (.int .i64 cut)],[.lit (.int .i64 cut)]⟩,⟨900002,9,[.lit (.string b)],[.lit (.string b)]⟩] (fun _=>none) none (fun _=>False)
  [oq old,dm (.pt 900001 0 0),dm (.pt 900002 0 0)] (oq (strOf (zq cut b.data.toList old.data.toList))):=by
 have M:=zZ (I:=a_);have hbs:b.data.toList.length=b.size:=Array.length_toList;refine jT Tryz.func162 rfl rfl rfl (fun A hn hI=>?_);refine aB M hI hn (by rfl) (by kernel_rfl) ?_ ?_
 ·simp
 refine aJ ?_;refine aB M hI hn (by rfl) (by kernel_rfl) ?_ ?_
 ·simp
 refine aG (by rfl) (fun hc=>?_) (fun hc=>?_)
 ·refine aB M hI hn (by rfl) (by kernel_rfl) ?_ ?_
  ·simp
  have h:cut<0\/(b.data.toList.length:Int)<=cut:=by simp at hc;omega
  unfold zq;rw[if_pos h,oN]
  refine aK (fun a w hg=>⟨.inr rfl,_,⟨?_,(fun o ho=>by
   simp only[List.mem_cons,List.not_mem_nil,or_false] at ho
   rcases ho with rfl|rfl<;>exact⟨_,rfl,dS rfl⟩),fun p hp=>(by cases hp)⟩,hg⟩)
  refine aC (by rfl) (by simp) (by rfl) (by rfl) ?_;rfl
 ·refine aO ?_;change h_ _ _ _ _ _
  have h:¬(cut<0\/(b.data.toList.length:Int)<=cut):=by simp at hc;omega
  unfold zq;rw[if_neg h];refine aB M hI hn (by rfl) (by kernel_rfl) ?_ ?_
  ·simp;omega
  refine aK (fun a w hg=>⟨.inr rfl,_,⟨?_,(fun o ho=>by
   simp only[List.mem_cons,List.not_mem_nil,or_false] at ho
   rcases ho with rfl|rfl<;>exact⟨_,rfl,dS rfl⟩),fun p hp=>(by cases hp)⟩,hg⟩)
  refine aC (by rfl) (by simp) (by rfl) (by rfl) ?_;change oq (b.extract (Int.toNat 0) cut.toNat++old.extract (min cut (old.size:Int)).toNat ((old.size:Int)).toNat)=_;rw[ext_list,ext_list,OL];have hos:old.data.toList.length=old.size:=Array.length_toList
  have e1:(old.data.toList.take ((old.size:Int)).toNat).drop (min cut (old.size:Int)).toNat=old.data.toList.drop cut.toNat:=by
   rw[Int.toNat_natCast,List.take_of_length_le (by omega)]
   by_cases h5:cut<=(old.size:Int)
   ·rw[show (min cut (old.size:Int))=cut from by omega]
   ·rw[List.drop_of_length_le (by omega),List.drop_of_length_le (by omega)]
  rw[e1];rfl
def Di:PV->Option (Prop×Fl)
 |.w (.agg [.sl 1 n f])=>some (aKk n f,iP n f)
 |_=>none
theorem aQo{C:Ctx}{v:PV}{p:Prop}{f:Fl}{x:Value}(h:Di v=some (p,f))(hp:p)(hr:RV C v x):RV C (flV f) x:=by
 unfold Di at h
 split at h
 ·rename_i n fr;cases h
  cases hr with
  | w h1=>cases h1 with
   |agg h2=>
    refine .w (.agg (h2.head fun ys h3=>?_));rw[aAv];exact Gx (bCc hp) h3
 ·cases h
def SE:Spec:=aZ true fun xs=>match xs with
 |[v,.w (.one (.lit (.int .i64 s)))]=>(match Di v with
  |some (p,f)=>some (p,qc (zk f s))
  |none=>none)
 |_=>none
theorem Kt:aj Tryz.prog a_ 161 SE:=by
 refine aY (aF Tryz.func161 (by kernel_rfl) rfl) (fun xs p r hg hp=>?_)
 split at hg
 ·rename_i v s
  cases hq:Di v with
  |none=>rw[hq] at hg;cases hg
  | some q=>
   obtain⟨p0,f⟩:=q;rw[hq] at hg;cases hg
   exact (QP f s).args fun C vs hv=>by
    match vs,hv with
    |[x0,x],⟨h0,h1,_⟩=>exact⟨aQo hq hp h0,h1,trivial⟩
 ·cases hg
def Vj:List (Nat×Spec):=[(161,SE)]
theorem aKO:kw Tryz.prog a_ (find Vj):=⟨bV (fun p hp=>by
 obtain rfl:=List.mem_singleton.1 hp
 exact Kt),fC⟩
theorem bCg(f:Fl)(s:Int):gB Tryz.prog a_ 128 true [flV f,gy s] (.kz [.one (.lit (.string (strOf (sec f s)))),.one (.lit (.int .i64 (if zk f s then 0 else 13)))]):=by
 have M:=aKO;refine bI Tryz.func128 rfl rfl bQ (fun A hS hn hI=>?_);refine aB M hI hn (by rfl) (by kernel_rfl) ?_ ?_
 ·simp
 refine aJ ?_;refine aB M hI hn (by rfl) (by kernel_rfl) ?_ ?_
 ·simp
 rw[bK];refine aG (by rfl) (fun hc=>?_) (fun hc=>?_)
 ·refine aB M hI hn (by rfl) (by kernel_rfl) ?_ ?_
  ·simp
  have h:zk f s=false:=by simpa using hc
  have e:sec f s=[]:=by unfold sec;rw[if_neg (Ku h)]
  rw[h,e];refine aK (fun a w hg=>⟨.inr rfl,_,?_,hg⟩);refine aC (by rfl) (by simp) (by rfl) (by rfl) ?_;rfl
 ·have h:zk f s=true:=by simpa using hc
  have h2:=bBt h;refine aO ?_;change h_ _ _ _ _ _;refine aB M hI hn (by rfl) (by kernel_rfl) ?_ ?_
  ·simp;exact h2
  have e:strOf (sec f s)=f.getD s.toNat aS:=by unfold sec;rw[if_pos h2,oN]
  rw[h,e];refine aK (fun a w hg=>⟨.inr rfl,_,?_,hg⟩);refine aC (by rfl) (by simp) (by rfl) (by rfl) ?_;rfl
def ZO:Spec:=aZ true fun xs=>match xs with
 |[v,.w (.one (.lit (.int .i64 s)))]=>(match Di v with
  |some (p,f)=>some (p,.kz [.one (.lit (.string (strOf (sec f s)))),.one (.lit (.int .i64 (if zk f s then 0 else 13)))])
  |none=>none)
 |_=>none
theorem LK:aj Tryz.prog a_ 128 ZO:=by
 refine aY (aF Tryz.func128 (by kernel_rfl) rfl) (fun xs p r hg hp=>?_)
 split at hg
 ·rename_i v s
  cases hq:Di v with
  |none=>rw[hq] at hg;cases hg
  | some q=>
   obtain⟨p0,f⟩:=q;rw[hq] at hg;cases hg
   exact (bCg f s).args fun C vs hv=>by
    match vs,hv with
    |[x0,x],⟨h0,h1,_⟩=>exact⟨aQo hq hp h0,h1,trivial⟩
 ·cases hg
def aYj:Spec:=aSs fun os ys=>match os,ys with
 |[(t0,[.lit (.int .i64 cut)]),(t1,[.lit (.string b)])],[.w (.one (.lit (.string old))),p0,p1]=>
  (match Nat.beq t0 3&&(Nat.beq t1 9&&(aTb 0 p0&&aTb 1 p1)) with
  |true=>some (b.size<=1000000/\old.size<=1000000,[[.lit (.int .i64 cut)],[.lit (.string b)]],oq (strOf (zq cut b.data.toList old.data.toList)))
  |false=>none)
 |_,_=>none
theorem Jt:aj Tryz.prog a_ 162 aYj:=by
 refine aMg (aF Tryz.func162 (by kernel_rfl) rfl) (fun os ys p cs r hg hlen hp=>?_)
 split at hg
 ·rename_i t0 cut t1 b old p0 p1 hos
  split at hg
  ·rename_i hb;simp only[Bool.and_eq_true] at hb;obtain⟨b0,b1,q0,q1⟩:=hb;cases hg
   match os,hos with
   |[o0,o1],hos=>
    simp only[List.map_cons,List.map_nil,List.cons.injEq,Prod.mk.injEq,and_true] at hos;obtain⟨⟨h0,k0⟩,⟨h1,k1⟩⟩:=hos;have e0:=gm b0;have e1:=gm b1;have:=bBe cut b old hp.1 hp.2;unfold zS zS zS;rw[h0,k0,h1,k1,e0,e1,aMz q0,aMz q1];exact this
  ·cases hg
 ·cases hg
def Vh:List (Nat×Spec):=(162,aYj)::Vj
theorem Vk:∀ p∈Vh,aj Tryz.prog a_ p.1 p.2:=by
 intro p hp;simp only[Vh,Vj,List.mem_cons,List.not_mem_nil,or_false] at hp;rcases hp with rfl|rfl
 ·exact Jt
 ·exact Kt
theorem aKN:kw Tryz.prog a_ (find Vh):=⟨bV Vk,fC⟩
def vP(f:Fl)(s:Int)(b:ByteArray):Int:=if zk f s then (if b.size=256 then 0 else 1) else 13
theorem aWd(f:Fl)(s:Int)(b:ByteArray)(cut:Int)(hf:∀ x∈f,x.size<=1000000)(hlen:f.length<=1000000):gB Tryz.prog a_ 131 false [flV f,gy s,oq b,gy cut] (.kz [.agg [.sl 1 (iO f s b cut).length (tu (iO f s b cut))],.one (.lit (.int .i64 (vP f s b)))]):=by
 have M:=aKN
 have hb1:Tryz.prog.types[9].bytes=16:=by kernel_rfl
 have hs1:Tryz.prog.types[9].size=1:=by kernel_rfl
 refine bI Tryz.func131 rfl rfl bQ (fun A hS hn hI=>?_);refine aB M hI hn (by rfl) (by kernel_rfl) ?_ ?_
 ·simp
 refine aJ ?_;refine bF ?_;refine aB M hI hn (by rfl) (by kernel_rfl) ?_ ?_
 ·simp
 rw[bK];refine aG (by rfl) (fun hc=>?_) (fun hc=>?_)
 ·refine aB M hI hn (by rfl) (by kernel_rfl) ?_ ?_
  ·simp
  have h:zk f s=false:=by simpa using hc
  have e1:iO f s b cut=f:=if_neg (fun h5=>Ku h ⟨h5.1,h5.2.1⟩)
  have e2:vP f s b=13:=by unfold vP;rw[h];rfl
  rw[e1,e2];refine aK (fun a w hg=>⟨.inr rfl,_,?_,hg⟩);refine aC (by rfl) (by simp) (by rfl) (by rfl) ?_;rfl
 ·have h:zk f s=true:=by simpa using hc
  have h2:=bBt h;refine aB M hI hn (by rfl) (by kernel_rfl) ?_ ?_
  ·simp
  refine aG (by rfl) (fun hc=>?_) (fun hc=>?_)
  ·refine aB M hI hn (by rfl) (by kernel_rfl) ?_ ?_
   ·simp
   have hb:¬b.size=256:=by simp at hc;omega
   have e1:iO f s b cut=f:=if_neg (fun h5=>hb h5.2.2)
   have e2:vP f s b=1:=by unfold vP;rw[h,if_neg hb];rfl
   rw[e1,e2];refine aK (fun a w hg=>⟨.inr rfl,_,?_,hg⟩);refine aC (by rfl) (by simp) (by rfl) (by rfl) ?_;rfl
  ·refine aO ?_;change h_ _ _ _ _ _;refine aB M hI hn (by rfl) (by kernel_rfl) ?_ ?_
   ·simp
   have hb:b.size=256:=by simp at hc;omega
   have e1:iO f s b cut=f.set s.toNat (strOf (zq cut b.data.toList (sec f s))):=if_pos ⟨h2.1,h2.2,hb⟩
   have e2:vP f s b=0:=by unfold vP;rw[h,if_pos hb];rfl
   have e3:sec f s=(f.getD s.toNat aS).data.toList:=if_pos h2;rw[e1,e2,e3];refine aB M hI hn (by rfl) (by kernel_rfl) ?_ ?_
   ·simp;rw[hb1];omega
   refine aB M hI hn (by rfl) (by kernel_rfl) ?_ ?_
   ·simp
   refine aI (s':=⟨[(1,none,gy s),(8,none,dm (.pt 3 0 0)),(10,none,dm (.fn (.func 162) [] [.pt 2 0 0,.pt 1 0 0])),(11,none,dm (.ow 6003 0 1 0 f.length))],[(6003,none,0,.arr 9 1 f.length (tu f)),(1,none,0,.box 9 [.lit (.string b)]),(2,none,0,.box 3 [.lit (.int .i64 cut)]),(3,none,0,.box 63 [.lit (.slice none 0 0)])]⟩) (fun a w hg=>(hg.reset (kT:=[1,8,10,11]) (kO:=[6003,1,2,3]) (by rfl) ?_).same ?_ ?_) ?_
   ·refine⟨fun i _=>?_,trivial⟩
    unfold W9
    split<;>rfl
   ·refine .cons rfl (.cons rfl (.cons rfl (.cons ?_ .nil)));change dm (.ow 6003 0 Tryz.prog.types[9].size 0 ((f.length:Int)).toNat)=_;rw[hs1,Int.toNat_natCast]
   ·refine .cons (.arr ?_ (fun i hi=>?_)) (.cons (.box rfl) (.cons (.box rfl) (.cons (.box rfl) .nil)))
    ·exact Int.toNat_natCast _
    ·unfold W9;rw[Int.toNat_natCast] at hi ⊢;rw[if_pos (by omega)]
   have hgl:(f.getD s.toNat aS).size<=1000000:=by
    rw[zG,zH (by omega)];exact hf _ (List.getElem_mem _)
   refine aB M hI hn (by rfl) (by kernel_rfl) ?_ ?_
   ·simp;rw[<-zG];omega
   refine aB M hI hn (by rfl) (by kernel_rfl) ?_ ?_
   ·simp
   rw[List.length_set];refine aK (fun a w hg=>⟨.inr rfl,_,?_,hg⟩);refine kH (by rfl) (by simp) (by rfl) ?_;refine .kz (.cons (.agg (.cons (.row rfl trivial (by omega) (fun i hi=>?_) (fun i hi=>rfl)) .nil)) (.cons (.one (.cold rfl)) .nil));rw[Nat.zero_add]
   split
   ·rename_i e
    obtain rfl:i=s.toNat:=by omega
    unfold tu;rw[zG (l:=f.set _ _),List.getElem?_set_self (by omega),Nat.zero_add];rfl
   ·rename_i e;unfold tu;rw[zG (l:=f.set _ _),List.getElem?_set_ne (by omega),zG]
def Vg(f:Fl):List PC:=[.sl 1 f.length (tu f)]
def ZN:Spec:=aZ false fun xs=>match xs with
 |[v,.w (.one (.lit (.int .i64 s))),.w (.one (.lit (.string b))),.w (.one (.lit (.int .i64 cut)))]=>(match Di v with
  |some (p,f)=>some (p/\(∀ x∈f,x.size<=1000000)/\f.length<=1000000,.kz [.agg (Vg (iO f s b cut)),.one (.lit (.int .i64 (vP f s b)))])
  |none=>none)
 |_=>none
theorem bBz:aj Tryz.prog a_ 131 ZN:=by
 refine aY (aF Tryz.func131 (by kernel_rfl) rfl) (fun xs p r hg hp=>?_)
 split at hg
 ·rename_i v s b cut
  cases hq:Di v with
  |none=>rw[hq] at hg;cases hg
  | some q=>
   obtain⟨p0,f⟩:=q;rw[hq] at hg;cases hg
   exact (aWd f s b cut hp.2.1 hp.2.2).args fun C vs hv=>by
    match vs,hv with
    |[x0,x,y,z],⟨h0,h1,h2,h3,_⟩=>exact⟨aQo hq hp.1 h0,h1,h2,h3,trivial⟩
 ·cases hg
end Pv
end Go.Proofs.YtndpjopifkbgiaaGreatDoor
