/-
  Several texts in one file: each has its own heading below.
-/
import Derived.Test.YtndpjopifkbgiaaGreatDoorMmB
import Derived.Test.YtndpjopifkbgiaaGreatDoorMmJ
import Derived.Shelf.Strings.Repeat
import Derived.Shelf.Strings.Prefix
import Derived.Test.YtndpjopifkbgiaaGreatDoorMmC
import Derived.Test.YtndpjopifkbgiaaGreatDoorProg
import Derived.Test.YtndpjopifkbgiaaGreatDoorMmA
set_option maxRecDepth 100000
set_option maxHeartbeats 4000000
namespace Go.Proofs.YtndpjopifkbgiaaGreatDoor
open Go.RowKit
def term:Nat->List UInt8->Option Nat
 |0,_=>none
 |_+1,[]=>none
 |n+1,b::l=>if b.toNat<128 then some 0 else (term n l).map (·+1)
def jl:List UInt8->Nat
 |[]=>0
 |b::l=>b.toNat % 128+128*jl l
def lK(u:Nat):Int:=if u % 2=0 then ((u / 2:Nat):Int) else -((u / 2:Nat):Int)-1
def b_(b:List UInt8):Int×Nat×Int:=match term 10 b with
 |none=>(0,0,if b.length<10 then 6 else 7)
 |some k=>if jl (b.take (k+1))<18446744073709551616/\(k=0\/b.getD k 0≠0) then (lK (jl (b.take (k+1))),k+1,0) else (0,0,7)
def Nl:List UInt8->Prop
 |[]=>False
 |[b]=>b.toNat<128
 |b::l=>128<=b.toNat/\Nl l
def vZ:List UInt8->Prop
 |[]=>False
 |[b]=>b≠0
 |_::b::l=>vZ (b::l)
theorem aYe{u:Nat}:zig (lK u)=u:=by
 unfold zig lK
 split<;>split<;>omega
theorem aLg(n:Int):lK (zig n)=n:=by
 unfold zig lK
 split<;>split<;>omega
theorem wC{u:Nat}(h:u<18446744073709551616):-9223372036854775808<=lK u/\lK u<9223372036854775808:=by
 unfold lK
 split<;>omega
theorem jS{u:Nat}(h:u<256):(UInt8.ofNat u).toNat=u:=by simp;omega
theorem aLe:∀ (f u:Nat),u<128 ^ (f+1)->Nl (varint f u):=by
 intro f
 induction f with
 |zero=>intro u h;simp only[varint,Nl];rw[jS (by omega)];omega
 | succ f ih=>
  intro u h
  by_cases hu:u<128
  ·rw[jC hu];simp only[Nl];rw[jS (by omega)];exact hu
  ·rw[lJ hu];have h1:=ih (u / 128) (by rw[Nat.div_lt_iff_lt_mul (by omega)];rw[Nat.pow_succ] at h;exact h)
   cases hv:varint f (u / 128) with
   |nil=>rw[hv] at h1;exact h1.elim
   |cons b l=>
    rw[hv] at h1
    refine⟨?_,h1⟩
    rw[jS (by omega)];omega
theorem aCl:∀ (f u:Nat),u<128 ^ (f+1)->jl (varint f u)=u:=by
 intro f
 induction f with
 |zero=>intro u h;simp only[varint,jl];rw[jS (by omega)];omega
 | succ f ih=>
  intro u h
  by_cases hu:u<128
  ·rw[jC hu];simp only[jl];rw[jS (by omega)];omega
  ·rw[lJ hu];have h1:=ih (u / 128) (by rw[Nat.div_lt_iff_lt_mul (by omega)];rw[Nat.pow_succ] at h;exact h);simp only[jl];rw[h1,jS (by omega)];omega
theorem aMm:∀ (f u:Nat),u<128 ^ (f+1)->u≠0->vZ (varint f u):=by
 intro f
 induction f with
 |zero=>
  intro u h h0;simp only[varint,vZ];intro e;have:=congrArg UInt8.toNat e;rw[jS (by omega)] at this
  exact h0 this
 | succ f ih=>
  intro u h h0
  by_cases hu:u<128
  ·rw[jC hu];simp only[vZ];intro e;have:=congrArg UInt8.toNat e;rw[jS (by omega)] at this;exact h0 this
  ·rw[lJ hu]
   have hlt:u / 128<128 ^ (f+1):=by rw[Nat.div_lt_iff_lt_mul (by omega)];rw[Nat.pow_succ] at h;exact h
   have h1:=ih (u / 128) hlt (by omega)
   cases hv:varint f (u / 128) with
   |nil=>rw[hv] at h1;exact h1.elim
   |cons b l=>rw[hv] at h1;exact h1
theorem aSc:∀ (l:List UInt8),Nl l->vZ l->jl l≠0
 |[],h,_=>h.elim
 |[b],h,k=>by
  simp only[jl];have h':b.toNat<128:=h;intro e
  have h0:b.toNat=0:=by omega
  exact k (UInt8.toNat_inj.1 (by rw[h0];rfl))
 |b::c::l,h,k=>by
  have:=aSc (c::l) h.2 k;rw[jl];omega
theorem aCi:∀ (f:Nat) (l:List UInt8),Nl l->(l.length=1\/vZ l)->l.length<=f+1->varint f (jl l)=l
 |_,[],h,_,_=>h.elim
 |f,[b],h,_,_=>by
  have h':b.toNat<128:=h
  have e:jl [b]=b.toNat:=by simp only[jl];omega
  rw[e,jC h']
  simp
 |0,b::c::l,_,_,hl=>by simp at hl
 | f+1,b::c::l,h,k,hl=>by
  have k':vZ (c::l):=by
   rcases k with k|k
   ·simp at k
   ·exact k
  have hp:=aSc (c::l) h.2 k';have ih:=aCi f (c::l) h.2 (.inr k') (by simpa using hl);have hb:128<=b.toNat:=h.1;have hb2:=b.toNat_lt;have e:jl (b::c::l)=b.toNat % 128+128*jl (c::l):=rfl;rw[e,lJ (by omega)]
  have e1:(b.toNat % 128+128*jl (c::l)) % 128=b.toNat % 128:=by omega
  have e2:(b.toNat % 128+128*jl (c::l)) / 128=jl (c::l):=by omega
  rw[e1,e2,ih];congr 1;rw[show 128+b.toNat % 128=b.toNat from by omega];simp
theorem pW:∀ (n:Nat) (b:List UInt8) (k:Nat),term n b=some k->Nl (b.take (k+1))/\k<n/\k<b.length
 |0,_,_,h=>by cases h
 |_+1,[],_,h=>by cases h
 | n+1,b::l,k,h=>by
  rw[term] at h
  by_cases hb:b.toNat<128
  ·rw[if_pos hb] at h;cases h
   exact⟨by simpa[Nl] using hb,by omega,by simp⟩
  ·rw[if_neg hb] at h
   cases hk:term n l with
   |none=>rw[hk] at h;cases h
   |some j=>
    rw[hk] at h;cases h;obtain⟨h1,h2,h3⟩:=pW n l j hk
    refine⟨?_,(by show j+1<n+1;omega),(by show j+1<(b::l).length;simp;omega)⟩
    rw[List.take_succ_cons]
    cases hq:l.take (j+1) with
    |nil=>rw[hq] at h1;exact h1.elim
    |cons c r=>rw[hq] at h1;exact⟨by omega,h1⟩
theorem xK:∀ (l r:List UInt8) (n:Nat),Nl l->l.length<=n->term n (l++r)=some (l.length-1)
 |[],_,_,h,_=>h.elim
 | [b],r,n,h,hl=>by
  cases n with
  |zero=>simp at hl
  |succ n=>
   have h':b.toNat<128:=h
   simp[term,h']
 | b::c::l,r,n,h,hl=>by
  cases n with
  |zero=>simp at hl
  |succ n=>
   have hb:128<=b.toNat:=h.1;have ih:=xK (c::l) r n h.2 (by simpa using hl);rw[List.cons_append,term,if_neg (by omega),ih];simp
theorem rD:∀ (l:List UInt8) (k:Nat),l.length=k+1->(vZ l↔l.getD k 0≠0)
 |[],k,h=>by simp at h
 |[b],k,h=>by
  obtain rfl:k=0:=by simpa using h.symm
  simp[vZ]
 |b::c::l,0,h=>by simp at h
 |b::c::l,k+1,h=>by
  have:=rD (c::l) k (by simpa using h);rw[List.getD_cons_succ];exact this
theorem getD_take{l:List UInt8}{k n:Nat}(h:k<n):(l.take n).getD k 0=l.getD k 0:=by
 rw[zG,zG,List.getElem?_take,if_pos h]
theorem aPa{l:List UInt8}{k:Nat}(h:Nl l)(hk:l.length=k+1)(h10:k<10):di (lK (jl l % 18446744073709551616))=l↔(jl l<18446744073709551616/\(k=0\/l.getD k 0≠0)):=by
 have h64:jl l % 18446744073709551616<128 ^ (9+1):=by
  have:jl l % 18446744073709551616<18446744073709551616:=Nat.mod_lt _ (by omega);omega
 unfold di;rw[aYe]
 constructor
 ·intro e;have h1:=aCl 9 _ h64;rw[e] at h1
  refine⟨by omega,?_⟩
  rcases Nat.eq_zero_or_pos k with hk0|hk0
  ·exact .inl hk0
  ·refine .inr ((rD l k hk).1 ?_);rw[<-e];refine aMm 9 _ h64 (fun e0=>?_);rw[e0] at e;rw[<-e] at hk;simp[varint] at hk;omega
 ·rintro⟨h1,h2⟩
  rw[Nat.mod_eq_of_lt h1];refine aCi 9 l h ?_ (by omega);rcases h2 with h2|h2
  ·exact .inl (by omega)
  ·exact .inr ((rD l k hk).2 h2)
theorem aNj{b:List UInt8}{k:Nat}(h:term 10 b=some k):b_ b=if jl (b.take (k+1))<18446744073709551616/\(k=0\/b.getD k 0≠0) then (lK (jl (b.take (k+1))),k+1,0) else (0,0,7):=by
 unfold b_;rw[h]
theorem aFy{n:Int}(h1:-9223372036854775808<=n)(h2:n<9223372036854775808):Nl (di n):=aLe 9 _ (by have:=Z_ h1 h2;omega)
theorem aIc(n:Int)(h1:-9223372036854775808<=n)(h2:n<9223372036854775808):0<(di n).length:=by
 have:=aFy h1 h2
 cases h:di n with
 |nil=>rw[h] at this;exact this.elim
 |cons b l=>simp
theorem kY{n:Int}(r:List UInt8)(h1:-9223372036854775808<=n)(h2:n<9223372036854775808):b_ (di n++r)=(n,(di n).length,0):=by
 have hv:=aFy h1 h2;have hl:=aX n;have hp:=aIc n h1 h2;have ht:=xK (di n) r 10 hv hl;rw[aNj ht]
 have e:(di n++r).take ((di n).length-1+1)=di n:=by
  rw[show (di n).length-1+1=(di n).length from by omega,List.take_left]
 have hz:=Z_ h1 h2;have hu:jl (di n)=zig n:=aCl 9 _ (by omega)
 have hiff:=(aPa hv (k:=(di n).length-1) (by omega) (by omega)).1 (by
  rw[hu,Nat.mod_eq_of_lt hz,aLg])
 have eg:(di n++r).getD ((di n).length-1) 0=(di n).getD ((di n).length-1) 0:=by
  rw[zG,zG,List.getElem?_append_left (by omega)]
 rw[e,eg,if_pos hiff,hu,aLg];congr 2;omega
theorem bCr{b:List UInt8}{n:Int}{k:Nat}(h:b_ b=(n,k,0)):b.take k=di n/\0<k/\k<=10/\k<=b.length /\ -9223372036854775808<=n/\n<9223372036854775808:=by
 unfold b_ at h
 split at h
 ·split at h<;>simp at h
 ·rename_i j ht
  split at h
  ·rename_i hc;simp only[Prod.mk.injEq,and_true] at h;obtain⟨rfl,rfl⟩:=h;obtain⟨h1,h2,h3⟩:=pW _ _ _ ht
   have hl:(b.take (j+1)).length=j+1:=by rw[List.length_take];omega
   have hc2:=hc;rw[<-getD_take (l:=b) (show j<j+1 by omega)] at hc2;have:=(aPa h1 hl (by omega)).2 hc2;rw[Nat.mod_eq_of_lt hc.1] at this;have hr:=wC hc.1
   exact⟨this.symm,by omega,by omega,by omega,hr.1,hr.2⟩
  ·simp at h
theorem bCs(b:List UInt8):(b_ b).2.2=0\/((b_ b).1=0/\(b_ b).2.1=0/\((b_ b).2.2=6\/(b_ b).2.2=7)):=by
 unfold b_
 split
 ·split<;>simp
 ·split<;>simp
theorem pR(b:List UInt8):(b_ b).2.1<=b.length/\(b_ b).2.1<=10:=by
 unfold b_
 split
 ·split<;>simp
 ·rename_i j ht;obtain⟨_,h2,h3⟩:=pW _ _ _ ht
  split<;>simp<;>omega
theorem iO(b:List UInt8):-9223372036854775808<=(b_ b).1/\(b_ b).1<9223372036854775808:=by
 unfold b_
 split
 ·split<;>simp
 ·split
  ·rename_i h;exact wC h.1
  ·simp
def jB(b:List UInt8):List UInt8×Nat×Int:=
 if (b_ b).2.2≠0 then ([],0,(b_ b).2.2) else if (b_ b).1<0 then ([],0,7) else if (b_ b).1 > (b.length:Int)-(b_ b).2.1 then ([],0,6)
 else ((b.drop (b_ b).2.1).take (b_ b).1.toNat,(b_ b).2.1+(b_ b).1.toNat,0)
theorem uF(l r:List UInt8)(h:l.length<4611686018427387904):jB (bU l++r)=(l,(bU l).length,0):=by
 unfold jB bU;rw[List.append_assoc,kY (n:=(l.length:Int)) (l++r) (by omega) (by omega)]
 have h1:¬((l.length:Int) > ((di (l.length:Int)++(l++r)).length:Int)-((di (l.length:Int)).length:Nat)):=by
  simp only[List.length_append];omega
 dsimp only;rw[if_neg (by simp),if_neg (by omega),if_neg h1,List.drop_left];simp
theorem LK{b c:List UInt8}{k:Nat}(h:jB b=(c,k,0)):b.take k=bU c/\k<=b.length:=by
 unfold jB at h
 split at h
 ·rename_i h0;simp only[Prod.mk.injEq] at h;exact absurd h.2.2 h0
 ·rename_i h0
  split at h
  ·simp at h
  ·split at h
   ·simp at h
   ·rename_i h1 h2;simp only[Prod.mk.injEq,and_true] at h;obtain⟨rfl,rfl⟩:=h
    have he:b_ b=((b_ b).1,(b_ b).2.1,0):=by
     have:(b_ b).2.2=0:=by simpa using h0
     rw[<-this]
    obtain⟨h3,h4,h5,h6,_⟩:=bCr he
    have hn:(b_ b).1.toNat<=b.length-(b_ b).2.1:=by omega
    refine⟨?_,by omega⟩
    unfold bU
    have hlen:(((b.drop (b_ b).2.1).take (b_ b).1.toNat).length:Int)=(b_ b).1:=by
     rw[List.length_take,List.length_drop];omega
    rw[hlen,<-h3,List.take_add]
theorem aWt(b:List UInt8):(jB b).2.2=0\/((jB b).1=[]/\(jB b).2.1=0/\((jB b).2.2=6\/(jB b).2.2=7)):=by
 unfold jB
 split
 ·rename_i h;rcases bCs b with h1|⟨_,_,h1⟩
  ·exact absurd h1 h
  ·exact .inr ⟨rfl,rfl,h1⟩
 ·split
  ·simp
  ·split<;>simp
theorem LM(b:List UInt8):(jB b).2.1<=b.length:=by
 unfold jB;have:=(pR b).1
 split
 ·simp
 ·split
  ·simp
  ·split
   ·simp
   ·simp only;omega
theorem nP(b:List UInt8):(jB b).1.length<=b.length:=by
 unfold jB
 split
 ·simp
 ·split
  ·simp
  ·split
   ·simp
   ·simp only[List.length_take,List.length_drop];omega
theorem aPb(l m:List UInt8):jl (l++m)=jl l+128 ^ l.length*jl m:=by
 induction l with
 |nil=>simp[jl]
 |cons b l ih=>simp only[List.cons_append,jl,ih,List.length_cons,Nat.pow_succ];rw[Nat.mul_add,<-Nat.mul_assoc,Nat.mul_comm 128 (128 ^ l.length)];omega
theorem aYs(l:List UInt8):jl l<128 ^ l.length:=by
 induction l with
 |nil=>simp[jl]
 |cons b l ih=>simp only[jl,List.length_cons,Nat.pow_succ];omega
theorem aLf{L:List UInt8}{k:Nat}(h:k<L.length):jl (L.take (k+1))=jl (L.take k)+128 ^ k*((L.getD k 0).toNat % 128):=by
 rw[List.take_add_one,zH h,Option.toList_some,aPb,List.length_take,Nat.min_eq_left (by omega),zG,zH h];simp[jl]
theorem lZ(n:Nat):IntKind.u64.wrap (n:Int)=((n % 18446744073709551616:Nat):Int):=by
 rw[IntKind.wrap_u64];omega
theorem yD(n:Nat):(BitVec.ofInt 64 (n:Int)).toNat=n % 18446744073709551616:=by
 simp
theorem J4{u a i:Nat}(h:u<2 ^ i):u ||| a*2 ^ i=u+a*2 ^ i:=by
 rw[Nat.or_comm,Nat.add_comm,<-Nat.shiftLeft_eq,Nat.shiftLeft_add_eq_or_of_lt h]
theorem Wh(c:UInt8):IntKind.u8.wrap ↑(BitVec.ofInt IntKind.u8.bits (c.toNat:Int) &&& BitVec.ofInt IntKind.u8.bits 127).toNat=((c.toNat % 128:Nat):Int):=by
 have hc:=c.toNat_lt;have:=u8_and (c.toNat:Int) 127 (by omega) (by omega) (by omega) (by omega);refine (show _=bits .and .u8 (c.toNat:Int) 127 from rfl).trans (this.trans ?_);rw[Int.toNat_natCast,show (127:Int).toNat=2 ^ 7-1 from rfl,Nat.and_two_pow_sub_one_eq_mod]
theorem Oe{k u:Nat}(c:UInt8)(hk:k<=9)(hu:u<128 ^ k) :
  IntKind.u64.wrap ↑(BitVec.ofInt IntKind.u64.bits (u:Int) ||| BitVec.ofInt IntKind.u64.bits (IntKind.u64.wrap (IntKind.u64.wrap (IntKind.u8.wrap ↑(BitVec.ofInt IntKind.u8.bits (c.toNat:Int) &&& BitVec.ofInt IntKind.u8.bits 127).toNat)*2 ^ min (IntKind.i64.wrap (7*(k:Int))).toNat IntKind.u64.bits))).toNat =
   (((u+128 ^ k*(c.toNat % 128)) % 18446744073709551616:Nat):Int):=by
 have e7:(IntKind.i64.wrap (7*(k:Int))).toNat=7*k:=by clear hu;rw[IntKind.wrap_i64,Int.emod_eq_of_lt (by omega) (by omega)];omega
 have e64:IntKind.u64.bits=64:=rfl;rw[Wh,e7,e64,lZ (c.toNat % 128),Nat.mod_eq_of_lt (show c.toNat % 128<18446744073709551616 by omega),Nat.min_eq_left (show 7*k<=64 by omega)]
 have ep:((c.toNat % 128:Nat):Int)*2 ^ (7*k)=((c.toNat % 128*2 ^ (7*k):Nat):Int):=by simp
 rw[ep,lZ,lZ,BitVec.toNat_or,yD,yD]
 have hx:c.toNat % 128<128:=by omega
 generalize c.toNat % 128=x at *
 have hk2:k=0\/k=1\/k=2\/k=3\/k=4\/k=5\/k=6\/k=7\/k=8\/k=9:=by omega
 congr 1
 have key:∀ i a,u<2 ^ i->a*2 ^ i<18446744073709551616-u->x*2 ^ (7*k) % 18446744073709551616=a*2 ^ i->(u+128 ^ k*x) % 18446744073709551616=u+a*2 ^ i ->
   (u % 18446744073709551616 ||| x*2 ^ (7*k) % 18446744073709551616 % 18446744073709551616) % 18446744073709551616=(u+128 ^ k*x) % 18446744073709551616:=by
  intro i a h1 h2 h3 h4;rw[h4,Nat.mod_mod,h3,Nat.mod_eq_of_lt (show u<18446744073709551616 by omega),J4 h1,Nat.mod_eq_of_lt (by omega)]
 rcases hk2 with rfl|rfl|rfl|rfl|rfl|rfl|rfl|rfl|rfl|rfl
 ·exact key 0 x (by omega) (by omega) (by omega) (by omega)
 ·exact key 7 x (by omega) (by omega) (by omega) (by omega)
 ·exact key 14 x (by omega) (by omega) (by omega) (by omega)
 ·exact key 21 x (by omega) (by omega) (by omega) (by omega)
 ·exact key 28 x (by omega) (by omega) (by omega) (by omega)
 ·exact key 35 x (by omega) (by omega) (by omega) (by omega)
 ·exact key 42 x (by omega) (by omega) (by omega) (by omega)
 ·exact key 49 x (by omega) (by omega) (by omega) (by omega)
 ·exact key 56 x (by omega) (by omega) (by omega) (by omega)
 ·exact key 63 (x % 2) (by omega) (by omega) (by omega) (by omega)
theorem Ol{u:Nat}(hu:u<18446744073709551616):IntKind.i64.wrap ((u:Int).fdiv (2 ^ min (1:Int).toNat IntKind.u64.bits))=((u / 2:Nat):Int):=by
 rw[show (2:Int) ^ min (1:Int).toNat IntKind.u64.bits=2 from rfl,IntKind.wrap_i64]
 have:(u:Int).fdiv 2=((u / 2:Nat):Int):=by rw[Int.fdiv_eq_ediv_of_nonneg _ (by omega)];omega
 rw[this];omega
theorem Rn(u:Nat)(hu:u<18446744073709551616):IntKind.u64.wrap ↑(BitVec.ofInt IntKind.u64.bits (u:Int) &&& BitVec.ofInt IntKind.u64.bits 1).toNat=((u % 2:Nat):Int):=by
 have e64:IntKind.u64.bits=64:=rfl;rw[e64,BitVec.toNat_and,yD,show (1:Int)=((1:Nat):Int) from rfl,yD,lZ,Nat.mod_eq_of_lt hu,show 1 % 18446744073709551616=2 ^ 1-1 from rfl,Nat.and_two_pow_sub_one_eq_mod];congr 1;omega
theorem ZK{n:Nat}(hn:n<9223372036854775808):IntKind.i64.wrap ↑(BitVec.ofInt IntKind.i64.bits (if IntKind.i64.signed=true then -1 else IntKind.i64.max) ^^^ BitVec.ofInt IntKind.i64.bits (n:Int)).toNat = -(n:Int)-1:=by
 have e64:IntKind.i64.bits=64:=rfl;have es:(if IntKind.i64.signed=true then -1 else IntKind.i64.max:Int) = -1:=rfl;rw[es,e64,show BitVec.ofInt 64 (-1)=BitVec.allOnes 64 from by decide,BitVec.allOnes_xor,BitVec.toNat_not,yD,IntKind.wrap_i64];omega
namespace Pv
abbrev og(l:List UInt8):PV:=dh (.sl 1 l.length (ou l))
def wP(r:Int×Nat×Int):PV:=.lh [.one (.lit (.int .i64 r.1)),.one (.lit (.int .i64 (r.2.1:Int))),.one (.lit (.int .i64 r.2.2))]
def aCG(L:List UInt8)(k:Nat):St:=⟨[(0,none,og L),(5,none,l9 (.int .u64 ((jl (L.take k) % 18446744073709551616:Nat):Int))),(13,none,dh (.sl 1 (min L.length 10) (ou L))),(14,none,h_ ((min L.length 10:Nat):Int)),(15,none,h_ k)],[]⟩
def aCF(L:List UInt8)(k:Nat):St:=⟨[(0,none,og L),(5,none,l9 (.int .u64 ((jl (L.take (k+1)) % 18446744073709551616:Nat):Int))),(6,none,h_ k),(7,none,l9 (o7 (L.getD k 0))),(13,none,dh (.sl 1 (min L.length 10) (ou L))),(14,none,h_ ((min L.length 10:Nat):Int)),(15,none,h_ k)],[]⟩
theorem dX{n:Int}(h1:-9223372036854775808<=n)(h2:n<9223372036854775808):IntKind.i64.wrap n=n:=by
 rw[IntKind.wrap_i64,Int.emod_eq_of_lt (by omega) (by omega)];omega
theorem sK:∀ (n:Nat) (L:List UInt8),(∀ i,i<min L.length n->128<=(L.getD i 0).toNat)->term n L=none
 |0,_,_=>rfl
 |_+1,[],_=>rfl
 | n+1,b::l,h=>by
  have h0:=h 0 (by simp);rw[List.getD_cons_zero] at h0
  rw[term,if_neg (by omega),sK n l (fun i hi=>by
   have:=h (i+1) (by simp;omega)
   rwa [List.getD_cons_succ] at this)]
  rfl
theorem sJ:∀ (n:Nat) (L:List UInt8) (k:Nat),(∀ i,i<k->128<=(L.getD i 0).toNat)->k<L.length->k<n->(L.getD k 0).toNat<128->term n L=some k
 |0,_,_,_,_,h,_=>by omega
 |_+1,[],_,_,h,_,_=>by simp at h
 |n+1,b::l,0,_,_,_,h=>by rw[List.getD_cons_zero] at h;rw[term,if_pos h]
 | n+1,b::l,k+1,h,h1,h2,h3=>by
  have h0:=h 0 (by omega);rw[List.getD_cons_zero] at h0;rw[List.getD_cons_succ] at h3
  rw[term,if_neg (by omega),sJ n l k (fun i hi=>by
   have:=h (i+1) (by omega)
   rwa [List.getD_cons_succ] at this) (by simpa using h1) (by omega) h3]
  rfl
theorem aGz(L:List UInt8)(hL:L.length<4611686018427387904):gU Tryz.prog a_ 138 true [og L] (wP (b_ L)):=by
 have M:=aAU;refine bJ Tryz.func138 rfl rfl bP (fun A hS hn hI=>?_);refine aB M hI hn (by rfl) (by kernel_rfl) ?_ ?_
 ·simp
 refine aB M hI hn (by rfl) (by kernel_rfl) ?_ ?_
 ·simp
 refine aN ?_;refine aB M hI hn (by rfl) (by kernel_rfl) ?_ ?_
 ·simp;omega
 refine bG ?_;refine aG (s':=aCG L 0) (fun a w hg=>(hg.reset (kT:=[0,5,13,14,15]) (kO:=[]) (by rfl) (by simp)).same ?_ ?_) ?_
 ·refine .cons rfl (.cons rfl (.cons ?_ (.cons ?_ (.cons rfl .nil))))
  ·have e:(min (L.length:Int) 10-0).toNat=min L.length 10:=by omega
   exact congrArg dh (by rw[e];congr 1;funext i;simp)
  ·exact congrArg h_ (by omega)
 ·exact .nil
 refine iL (min L.length 10) (fun k s=>s=aCG L k/\∀ i,i<k->128<=(L.getD i 0).toNat) 0 ⟨rfl,fun i hi=>by omega⟩ (by omega) (fun k s hJ hk=>?_);obtain⟨rfl,hbig⟩:=hJ;refine aB M hI hn (by rfl) (by kernel_rfl) ?_ ?_
 ·simp
 refine aN ?_;refine aH (by rfl) (fun hc=>?_) (fun hc=>?_)
 ·have hk2:k<L.length/\k<10:=by
   have:(k:Int)<((min L.length 10:Nat):Int):=by simpa using hc
   omega
  refine aP ?_;change iw _ _ _ _ _;refine aN ?_;refine bG ?_;refine aB M hI hn (by rfl) (by kernel_rfl) ?_ ?_
  ·simp;omega
  refine aB M hI hn (by rfl) (by kernel_rfl) ?_ ?_
  ·simp;rw[dX (by omega) (by omega)];omega
  refine aG (s':=aCF L k) (fun a w hg=>(hg.reset (kT:=[0,5,6,7,13,14,15]) (kO:=[]) (by rfl) (by simp)).same ?_ ?_) ?_
  ·refine .cons rfl (.cons ?_ (.cons rfl (.cons rfl (.cons rfl (.cons rfl (.cons rfl .nil))))));refine congrArg (fun n=>l9 (.int .u64 n)) ?_;have hu:=aYs (L.take k);rw[List.length_take,Nat.min_eq_left (by omega)] at hu;have h9:(128:Nat) ^ k<=128 ^ 9:=Nat.pow_le_pow_right (by omega) (by omega);rw[Nat.mod_eq_of_lt (show jl (L.take k)<18446744073709551616 by omega),Int.toNat_natCast];refine (Oe _ (by omega) hu).trans ?_;rw[aLf hk2.1]
  ·exact .nil
  refine aN ?_;refine aB M hI hn (by rfl) (by kernel_rfl) ?_ ?_
  ·simp
  refine aH (by rfl) (fun hc=>?_) (fun hc=>?_)
  ·refine gW ?_;change iw _ _ _ _ _;refine aQ M hI hn (by rfl) (by kernel_rfl) ?_ ?_
   ·simp
   intro a w hg
   refine⟨k+1,_,by omega,by omega,⟨rfl,?_⟩,(hg.reset (kT:=[0,5,13,14,15]) (kO:=[]) (by rfl) (by simp)).same ?_ ?_⟩
   ·intro i hi;rcases Nat.lt_or_eq_of_le (Nat.le_of_lt_succ hi) with h|rfl
    ·exact hbig i h
    ·have:((L.getD i 0).toNat:Int)>=128:=by simpa using hc
     omega
   ·exact .cons rfl (.cons rfl (.cons rfl (.cons rfl (.cons (by rw[fG k (by omega)]) .nil))))
   ·exact .nil
  ·have hlt:(L.getD k 0).toNat<128:=by
    have:¬((L.getD k 0).toNat:Int)>=128:=by simpa using hc
    omega
   have ht:=sJ 10 L k hbig hk2.1 hk2.2 hlt;have hgs:=aNj ht
   have hlast:jl (L.take (k+1))<18446744073709551616↔(k=9->(L.getD k 0).toNat<=1):=by
    have hu:=aYs (L.take k);rw[List.length_take,Nat.min_eq_left (by omega)] at hu;rw[aLf hk2.1,Nat.mod_eq_of_lt hlt];rcases Nat.lt_or_ge k 9 with h9|h9
    ·have h8:(128:Nat) ^ k<=128 ^ 8:=Nat.pow_le_pow_right (by omega) (by omega);have:128 ^ k*(L.getD k 0).toNat<=128 ^ 8*127:=Nat.mul_le_mul h8 (by omega)
     constructor<;>intro<;>omega
    ·obtain rfl:k=9:=by omega
     constructor<;>intro<;>omega
   have hz:(L.getD k 0=0)↔(L.getD k 0).toNat=0:=by rw[<-UInt8.toNat_inj];rfl
   refine aP ?_;change iw _ _ _ _ _;refine aN ?_;refine aB M hI hn (by rfl) (by kernel_rfl) ?_ ?_
   ·simp;generalize (L[k]?.getD 0).toNat=c;omega
   refine aH (by rfl) (fun hc=>?_) (fun hc=>?_)
   ·have hneg:¬(jl (L.take (k+1))<18446744073709551616/\(k=0\/L.getD k 0≠0)):=by
     rw[hlast,ne_eq,hz];simp only[Bool.cond_eq_ite,Bool.if_true_left,Bool.and_eq_true,Bool.or_eq_true,decide_eq_true_eq,beq_iff_eq,Bool.if_false_right] at hc;omega
    refine aB M hI hn (by rfl) (by kernel_rfl) ?_ ?_
    ·simp
    refine aO (fun a w hg=>⟨.inr rfl,_,?_,hg⟩);refine aC (by rfl) (by simp) (by rfl) (by rfl) ?_;rw[hgs,if_neg hneg];rfl
   ·have hpos:jl (L.take (k+1))<18446744073709551616/\(k=0\/L.getD k 0≠0):=by
     rw[hlast,ne_eq,hz];simp only[Bool.cond_eq_ite,Bool.if_true_left,Bool.and_eq_false_iff,Bool.or_eq_false_iff,decide_eq_false_iff_not,Bool.if_false_right] at hc;simp only[Bool.and_eq_true,decide_eq_true_eq,beq_iff_eq] at hc;omega
    have hm:=Nat.mod_eq_of_lt hpos.1;have hs1:=Ol hpos.1;have ha1:=Rn _ hpos.1;refine aP ?_;change iw _ _ _ _ _;refine aB M hI hn (by rfl) (by kernel_rfl) ?_ ?_
    ·simp
    refine aN ?_;refine aB M hI hn (by rfl) (by kernel_rfl) ?_ ?_
    ·simp
    refine aH (by rfl) (fun hc=>?_) (fun hc=>?_)
    ·refine aQ M hI hn (by rfl) (by kernel_rfl) ?_ ?_
     ·simp
     change iw _ _ _ _ _;refine aB M hI hn (by rfl) (by kernel_rfl) ?_ ?_
     ·simp
     refine aO (fun a w hg=>⟨.inr rfl,_,?_,hg⟩);refine aC (by rfl) (by simp) (by rfl) (by rfl) ?_;rw[hm,ha1] at hc;have hx:=ZK (n:=jl (L.take (k+1)) / 2) (by omega)
     have hodd:jl (L.take (k+1)) % 2=1:=by
      have:((jl (L.take (k+1)) % 2:Nat):Int)=1:=by simpa using hc
      omega
     rw[hgs,if_pos hpos,hm,hs1,hx,fG k (by omega)];unfold lK wP;rw[if_neg (by omega)]
    ·refine aP ?_;change iw _ _ _ _ _;refine aB M hI hn (by rfl) (by kernel_rfl) ?_ ?_
     ·simp
     refine aO (fun a w hg=>⟨.inr rfl,_,?_,hg⟩);refine aC (by rfl) (by simp) (by rfl) (by rfl) ?_;rw[hm,ha1] at hc
     have hev:jl (L.take (k+1)) % 2=0:=by
      have:¬((jl (L.take (k+1)) % 2:Nat):Int)=1:=by simpa using hc
      omega
     rw[hgs,if_pos hpos,hm,hs1,fG k (by omega)];unfold lK wP;rw[if_pos hev]
 ·have hkk:k=min L.length 10:=by
   have:¬(k:Int)<((min L.length 10:Nat):Int):=by simpa using hc
   omega
  have ht:=sK 10 L (fun i hi=>hbig i (by omega));refine gW ?_;change iw _ _ _ _ _;refine aN ?_;refine aB M hI hn (by rfl) (by kernel_rfl) ?_ ?_
  ·simp
  refine aH (by rfl) (fun hc=>?_) (fun hc=>?_)
  ·refine aB M hI hn (by rfl) (by kernel_rfl) ?_ ?_
   ·simp
   refine aO (fun a w hg=>⟨.inr rfl,_,?_,hg⟩);refine aC (by rfl) (by simp) (by rfl) (by rfl) ?_
   have:(L.length:Int)<10:=by simpa using hc
   unfold b_;rw[ht];dsimp only;rw[if_pos (by omega)];rfl
  ·refine aP ?_;change iw _ _ _ _ _;refine aB M hI hn (by rfl) (by kernel_rfl) ?_ ?_
   ·simp
   refine aO (fun a w hg=>⟨.inr rfl,_,?_,hg⟩);refine aC (by rfl) (by simp) (by rfl) (by rfl) ?_
   have:¬(L.length:Int)<10:=by simpa using hc
   unfold b_;rw[ht];dsimp only;rw[if_neg (by omega)];rfl
theorem bEn{len:Nat}{f:Nat->List PC}(h:FX len f):∀ i,i<len->f i=ou (rowB len f) i:=fun i hi=>by
 unfold ou rowB;rw[kE len i _ hi];exact aNd (h i hi)
theorem Oy{C:Ctx}{len:Nat}{f:Nat->List PC}{x:Value}(h:FX len f)(hv:RV C (dh (.sl 1 len f)) x):RV C (og (rowB len f)) x:=by
 refine .w (.one ?_);rw[fM];exact (hv.inv).yx (bEn h)
theorem IP{C:Ctx}{x:Value}(hv:RV C (dh (.lit (.slice none 0 0))) x):RV C (og []) x:=by
 have:=hv.dn;subst this;exact .w (.one (.sl (Reads.nil _ _) (fun g hg=>by simp[Value.ownBlock] at hg) (fun i hi=>by simp at hi)))
def yR:PV->Option (Prop×List UInt8)
 |.w (.one (.sl n len f))=>(match Nat.beq n 1 with
  |true=>some (FX len f,rowB len f)
  |false=>none)
 |.w (.one (.lit (.slice none 0 0)))=>some (True,[])
 |_=>none
theorem vC{C:Ctx}{v:PV}{p:Prop}{l:List UInt8}{x:Value}(h:yR v=some (p,l))(hp:p)(hv:RV C v x):RV C (og l) x:=by
 unfold yR at h
 split at h
 ·rename_i n len f
  cases hb:Nat.beq n 1<;>rw[hb] at h<;>cases h
  obtain rfl:=gq hb
  exact Oy hp hv
 ·cases h;exact IP hv
 ·cases h
def Tj(pre:List UInt8->Prop)(res:List UInt8->PV):Spec:=bD true fun xs=>match xs with
 |[v]=>(match yR v with
  |some (p,l)=>some (p/\pre l,res l)
  |none=>none)
 |_=>none
theorem qR{f:Nat}{pre:List UInt8->Prop}{res:List UInt8->PV}(hent:∀ args w,(callFunc f args).run Tryz.prog w=.ok (.enter f args) w)(h:∀ l,pre l->gU Tryz.prog a_ f true [og l] (res l)):aj Tryz.prog a_ f (Tj pre res):=by
 refine aZ hent (fun xs p r hg hp=>?_)
 split at hg
 ·rename_i v
  cases hq:yR v with
  |none=>rw[hq] at hg;cases hg
  | some q=>
   obtain⟨p0,l⟩:=q;rw[hq] at hg;cases hg
   exact (h l hp.2).args fun C vs hv=>by
    match vs,hv with
    |[x],⟨h1,_⟩=>exact⟨vC hq hp.1 h1,trivial⟩
 ·cases hg
def jD(l:List UInt8):Prop:=l.length<4611686018427387904
def Ae(l:List UInt8):Int×Nat×Int:=((b_ l).1,(b_ l).2.1,if (b_ l).2.2≠0 then (b_ l).2.2 else if (b_ l).1<0 then 7 else if (b_ l).1 > (l.length:Int)-(b_ l).2.1 then 6 else 0)
def EI(r:List UInt8×Nat×Int):PV:=.lh [.one (.lit (.string (strOf r.1))),.one (.lit (.int .i64 (r.2.1:Int))),.one (.lit (.int .i64 r.2.2))]
theorem mO{L:List UInt8}{k m:Nat}(h:k+m<=L.length):rowB m (fun i=>ou L (k+i))=(L.drop k).take m:=by
 apply List.ext_getElem
 ·rw[fM,List.length_take,List.length_drop];omega
 ·intro i h1 h2;rw[fM] at h1;simp only[rowB,List.getElem_map,List.getElem_range,aHm,List.getElem_take,List.getElem_drop];rw[zG,zH (by omega)];rfl
theorem NQ(L:List UInt8)(k:Nat):(fun i=>ou L (k+i))=ou (L.drop k):=by
 funext i;unfold ou;rw[zG,zG,List.getElem?_drop]
@[simp] theorem TR(n k:Nat)(L:List UInt8):FX n (fun i=>ou L (k+i)):=fun _ _=>aGy L _
def WG:List (Nat×Spec):=(138,Tj jD fun l=>wP (b_ l))::KJ
theorem N9:∀ p∈WG,aj Tryz.prog a_ p.1 p.2:=by
 intro p hp;rcases List.mem_cons.1 hp with rfl|hp
 ·exact qR (aF Tryz.func138 (by kernel_rfl) rfl) aGz
 ·exact bCd p hp
theorem aMC:l_ Tryz.prog a_ (find WG):=⟨bV N9,fC⟩
theorem bEf(L:List UInt8)(hL:jD L):gU Tryz.prog a_ 168 true [og L,h_ 1] (wP (Ae L)):=by
 have M:=aMC;have hle:=pR L;have hrg:=iO L;have hL':L.length<4611686018427387904:=hL;refine bJ Tryz.func168 rfl rfl bP (fun A hS hn hI=>?_);refine aB M hI hn (by rfl) (by kernel_rfl) ?_ ?_
 ·simp
 refine aB M hI hn (by rfl) (by kernel_rfl) ?_ ?_
 ·simp[hL]
 refine aG (s':=⟨[(0,none,og L),(1,none,h_ 1),(4,none,h_ (b_ L).1),(5,none,h_ ((b_ L).2.1:Int)),(6,none,h_ (b_ L).2.2)],[]⟩) (fun a w hg=>(hg.reset (kT:=[0,1,4,5,6]) (kO:=[]) (by rfl) (by simp)).same ?_ ?_) ?_
 ·rw[fO];exact .cons rfl (.cons rfl (.cons rfl (.cons rfl (.cons rfl .nil))))
 ·exact .nil
 unfold Ae;generalize b_ L=g at *;obtain⟨n,k,e⟩:=g;dsimp only at *;refine aN ?_;refine bG ?_;refine aB M hI hn (by rfl) (by kernel_rfl) ?_ ?_
 ·simp
 refine aH (by rfl) (fun hc=>?_) (fun hc=>?_)
 ·have he:e≠0:=by simpa using hc
  refine aP ?_;change iw _ _ _ _ _;refine aB M hI hn (by rfl) (by kernel_rfl) ?_ ?_
  ·simp
  refine aO (fun a w hg=>⟨.inr rfl,_,?_,hg⟩);refine aC (by rfl) (by simp) (by rfl) (by rfl) ?_;unfold wP;rw[if_pos he]
 ·have he:e=0:=by simpa using hc
  subst he;refine aB M hI hn (by rfl) (by kernel_rfl) ?_ ?_
  ·simp
  refine aH (by rfl) (fun hc=>?_) (fun hc=>?_)
  ·have hn0:n<0:=by simpa using hc
   refine aQ M hI hn (by rfl) (by kernel_rfl) ?_ ?_
   ·simp
   change iw _ _ _ _ _;refine aB M hI hn (by rfl) (by kernel_rfl) ?_ ?_
   ·simp
   refine aO (fun a w hg=>⟨.inr rfl,_,?_,hg⟩);refine aC (by rfl) (by simp) (by rfl) (by rfl) ?_;unfold wP;rw[if_neg (by simp),if_pos hn0]
  ·have hn0:¬n<0:=by simpa using hc
   refine aB M hI hn (by rfl) (by kernel_rfl) ?_ ?_
   ·simp
   refine aH (by rfl) (fun hc=>?_) (fun hc=>?_)
   ·have hn1:n > (L.length:Int)-k:=by
     have e1:IntKind.i64.wrap ((L.length:Int)-k)=(L.length:Int)-k:=dX (by omega) (by omega);rw[e1,Int.tdiv_one,e1] at hc
     simpa using hc
    refine aQ M hI hn (by rfl) (by kernel_rfl) ?_ ?_
    ·simp
    change iw _ _ _ _ _;refine aB M hI hn (by rfl) (by kernel_rfl) ?_ ?_
    ·simp
    refine aO (fun a w hg=>⟨.inr rfl,_,?_,hg⟩);refine aC (by rfl) (by simp) (by rfl) (by rfl) ?_;unfold wP;rw[if_neg (by simp),if_neg hn0,if_pos hn1]
   ·have hn1:¬n > (L.length:Int)-k:=by
     have e1:IntKind.i64.wrap ((L.length:Int)-k)=(L.length:Int)-k:=dX (by omega) (by omega);rw[e1,Int.tdiv_one,e1] at hc
     simpa using hc
    refine aP ?_;change iw _ _ _ _ _;refine aB M hI hn (by rfl) (by kernel_rfl) ?_ ?_
    ·simp
    refine aO (fun a w hg=>⟨.inr rfl,_,?_,hg⟩);refine aC (by rfl) (by simp) (by rfl) (by rfl) ?_;unfold wP;rw[if_neg (by simp),if_neg hn0,if_neg hn1]
def aZi:Spec:=bD true fun xs=>match xs with
 |[v,.w (.one (.lit (.int .i64 1)))]=>(match yR v with
  |some (p,l)=>some (p/\jD l,wP (Ae l))
  |none=>none)
 |_=>none
theorem ND:aj Tryz.prog a_ 168 aZi:=by
 refine aZ (aF Tryz.func168 (by kernel_rfl) rfl) (fun xs p r hg hp=>?_)
 split at hg
 ·rename_i v
  cases hq:yR v with
  |none=>rw[hq] at hg;cases hg
  | some q=>
   obtain⟨p0,l⟩:=q;rw[hq] at hg;cases hg
   exact (bEf l hp.2).args fun C vs hv=>by
    match vs,hv with
    |[x,y],⟨h1,h2,_⟩=>exact⟨vC hq hp.1 h1,h2,trivial⟩
 ·cases hg
def WE:List (Nat×Spec):=(168,aZi)::WG
theorem N8:∀ p∈WE,aj Tryz.prog a_ p.1 p.2:=by
 intro p hp;rcases List.mem_cons.1 hp with rfl|hp
 ·exact ND
 ·exact N9 p hp
theorem WJ:l_ Tryz.prog a_ (find WE):=⟨bV N8,fC⟩
theorem aOe(L:List UInt8):(Ae L).2.2=0->(b_ L).2.2=0/\0<=(b_ L).1/\(b_ L).1<=(L.length:Int)-(b_ L).2.1:=by
 unfold Ae;dsimp only
 split
 ·rename_i h;intro h2;exact absurd h2 h
 ·rename_i h
  split
  ·intro h2;cases h2
  ·split
   ·intro h2;cases h2
   ·intro _;exact⟨by simpa using h,by omega,by omega⟩
theorem aNk(L:List UInt8):jB L=if (Ae L).2.2≠0 then ([],0,(Ae L).2.2) else ((L.drop (b_ L).2.1).take (b_ L).1.toNat,(b_ L).2.1+(b_ L).1.toNat,0):=by
 unfold jB Ae;dsimp only
 by_cases h:(b_ L).2.2=0
 ·by_cases h1:(b_ L).1<0
  ·simp[h,h1]
  ·by_cases h2:(b_ L).1 > (L.length:Int)-(b_ L).2.1
   ·have e:(if (b_ L).2.2≠0 then (b_ L).2.2 else if (b_ L).1<0 then (7:Int) else if (b_ L).1 > (L.length:Int)-(b_ L).2.1 then 6 else 0)=6:=by rw[if_neg (by simp[h]),if_neg h1,if_pos h2]
    rw[e,if_neg (by simp[h]),if_neg h1,if_pos h2,if_pos (by decide)]
   ·have e:(if (b_ L).2.2≠0 then (b_ L).2.2 else if (b_ L).1<0 then (7:Int) else if (b_ L).1 > (L.length:Int)-(b_ L).2.1 then 6 else 0)=0:=by rw[if_neg (by simp[h]),if_neg h1,if_neg h2]
    rw[e,if_neg (by simp[h]),if_neg h1,if_neg h2,if_neg (by decide)]
 ·rw[if_pos h,if_pos h,if_pos h]
theorem aAw(L:List UInt8)(hL:jD L):gU Tryz.prog a_ 139 true [og L] (EI (jB L)):=by
 have M:=WJ;have hle:=pR L;have hrg:=iO L;have hL':L.length<4611686018427387904:=hL;refine bJ Tryz.func139 rfl rfl bP (fun A hS hn hI=>?_);refine aB M hI hn (by rfl) (by kernel_rfl) ?_ ?_
 ·simp
 refine aB M hI hn (by rfl) (by kernel_rfl) ?_ ?_
 ·simp[hL]
 refine aG (s':=⟨[(0,none,og L),(5,none,h_ (b_ L).1),(6,none,h_ ((b_ L).2.1:Int)),(7,none,h_ (Ae L).2.2)],[]⟩) (fun a w hg=>(hg.reset (kT:=[0,5,6,7]) (kO:=[]) (by rfl) (by simp)).same ?_ ?_) ?_
 ·rw[fO];exact .cons rfl (.cons rfl (.cons rfl (.cons rfl .nil)))
 ·exact .nil
 have hcc:=aOe L;rw[aNk L];generalize (Ae L).2.2=e at *;generalize b_ L=g at *;obtain⟨n,k,e'⟩:=g;dsimp only at *;refine aN ?_;refine aB M hI hn (by rfl) (by kernel_rfl) ?_ ?_
 ·simp
 refine aH (by rfl) (fun hc=>?_) (fun hc=>?_)
 ·have he:e≠0:=by simpa using hc
  refine aB M hI hn (by rfl) (by kernel_rfl) ?_ ?_
  ·simp
  refine aO (fun a w hg=>⟨.inr rfl,_,?_,hg⟩);refine aC (by rfl) (by simp) (by rfl) (by rfl) ?_;rw[if_pos he];rfl
 ·have he:e=0:=by simpa using hc
  subst he;obtain⟨_,hn0,hn1⟩:=hcc rfl
  have e1:IntKind.i64.wrap ((k:Int)+n)=((k+n.toNat:Nat):Int):=by rw[dX (by omega) (by omega)];omega
  refine aP ?_;change iw _ _ _ _ _;refine aB M hI hn (by rfl) (by kernel_rfl) ?_ ?_
  ·simp;rw[e1];omega
  refine aO (fun a w hg=>⟨.inr rfl,_,?_,hg⟩);refine aC (by rfl) (by simp) (by rfl) (by rfl) ?_;rw[if_neg (by simp),e1]
  have e2:(((k+n.toNat:Nat):Int)-(k:Int)).toNat=n.toNat:=by omega
  unfold EI;rw[e2,Int.toNat_natCast,mO (by omega)];rfl
def jh(L:List UInt8):Nat:=match term 10 L with
 |none=>0
 |some k=>k+1
def aAW(L:List UInt8)(k:Nat):St:=⟨[(0,none,og L),(3,none,h_ k)],[]⟩
theorem aPv(L:List UInt8)(_:jD L):gU Tryz.prog a_ 181 true [og L] (h_ (jh L)):=by
 have M:=WJ;refine bJ Tryz.func181 rfl rfl bP (fun A hS hn hI=>?_);refine aB M hI hn (by rfl) (by kernel_rfl) ?_ ?_
 ·simp
 refine aN ?_;refine aB M hI hn (by rfl) (by kernel_rfl) ?_ ?_
 ·simp
 refine aG (s':=aAW L 0) (fun a w hg=>(hg.reset (kT:=[0,3]) (kO:=[]) (by rfl) (by simp)).same ?_ ?_) ?_
 ·exact .cons rfl (.cons rfl .nil)
 ·exact .nil
 refine bG ?_;refine iL (min L.length 10) (fun k s=>s=aAW L k/\∀ i,i<k->128<=(L.getD i 0).toNat) 0 ⟨rfl,fun i hi=>by omega⟩ (by omega) (fun k s hJ hk=>?_);obtain⟨rfl,hbig⟩:=hJ;refine aN ?_;refine aB M hI hn (by rfl) (by kernel_rfl) ?_ ?_
 ·simp
 refine aH (by rfl) (fun hc=>?_) (fun hc=>?_)
 ·have hk2:k<L.length/\k<10:=by
   have h1:(k:Int)<(L.length:Int)/\(k:Int)<10:=by simpa using hc
   omega
  refine aP ?_;change iw _ _ _ _ _;refine aN ?_;refine bG ?_;refine aB M hI hn (by rfl) (by kernel_rfl) ?_ ?_
  ·simp;omega
  refine aH (by rfl) (fun hc=>?_) (fun hc=>?_)
  ·have hlt:(L.getD k 0).toNat<128:=by
    have:((L.getD k 0).toNat:Int)<128:=by simpa using hc
    omega
   have ht:=sJ 10 L k hbig hk2.1 hk2.2 hlt;refine aB M hI hn (by rfl) (by kernel_rfl) ?_ ?_
   ·simp
   refine aO (fun a w hg=>⟨.inr rfl,_,?_,hg⟩);refine aC (by rfl) (by simp) (by rfl) (by rfl) ?_;unfold jh;rw[ht,fG k (by omega)]
  ·have hge:128<=(L.getD k 0).toNat:=by
    have:¬((L.getD k 0).toNat:Int)<128:=by simpa using hc
    omega
   refine aP ?_;change iw _ _ _ _ _;refine aQ M hI hn (by rfl) (by kernel_rfl) ?_ ?_
   ·simp
   intro a w hg
   refine⟨k+1,_,by omega,by omega,⟨rfl,fun i hi=>?_⟩,(hg.reset (kT:=[0,3]) (kO:=[]) (by rfl) (by simp)).same ?_ ?_⟩
   ·rcases Nat.lt_or_eq_of_le (Nat.le_of_lt_succ hi) with h|rfl
    ·exact hbig i h
    ·exact hge
   ·exact .cons rfl (.cons (by rw[fG k (by omega)]) .nil)
   ·exact .nil
 ·have hkk:k=min L.length 10:=by
   have h1:¬((k:Int)<(L.length:Int)/\(k:Int)<10):=by simpa using hc
   omega
  have ht:=sK 10 L (fun i hi=>hbig i (by omega));refine gW ?_;change iw _ _ _ _ _;refine aB M hI hn (by rfl) (by kernel_rfl) ?_ ?_
  ·simp
  refine aO (fun a w hg=>⟨.inr rfl,_,?_,hg⟩);refine aC (by rfl) (by simp) (by rfl) (by rfl) ?_;unfold jh;rw[ht];rfl
def ZW(X Y:List UInt8)(k:Nat):St:=⟨[(0,none,og X),(1,none,og Y),(5,none,h_ k)],[]⟩
theorem aXf{X Y:List UInt8}(hl:X.length=Y.length)(h:∀ i,i<X.length->X.getD i 0=Y.getD i 0):X=Y:=by
 apply List.ext_getElem hl;intro i h1 h2;have:=h i h1;rw[zG,zG,zH h1,zH h2] at this;exact this
theorem aZt(X Y:List UInt8)(hX:jD X):gU Tryz.prog a_ 182 true [og X,og Y] (rq (X==Y)):=by
 have M:=WJ;have hX':X.length<4611686018427387904:=hX;refine bJ Tryz.func182 rfl rfl bP (fun A hS hn hI=>?_);refine aB M hI hn (by rfl) (by kernel_rfl) ?_ ?_
 ·simp
 refine aN ?_;refine aB M hI hn (by rfl) (by kernel_rfl) ?_ ?_
 ·simp
 refine aH (by rfl) (fun hc=>?_) (fun hc=>?_)
 ·have hne:X≠Y:=by
   have:¬(X.length:Int)=Y.length:=by simpa using hc
   intro e;subst e;exact this rfl
  refine aB M hI hn (by rfl) (by kernel_rfl) ?_ ?_
  ·simp
  refine aO (fun a w hg=>⟨.inr rfl,_,?_,hg⟩);refine aC (by rfl) (by simp) (by rfl) (by rfl) ?_;rw[beq_eq_false_iff_ne.2 hne]
 ·have hl:X.length=Y.length:=by
   have:(X.length:Int)=Y.length:=by simpa using hc
   omega
  refine aP ?_;change iw _ _ _ _ _;refine aN ?_;refine aB M hI hn (by rfl) (by kernel_rfl) ?_ ?_
  ·simp
  refine aG (s':=ZW X Y 0) (fun a w hg=>(hg.reset (kT:=[0,1,5]) (kO:=[]) (by rfl) (by simp)).same ?_ ?_) ?_
  ·exact .cons rfl (.cons rfl (.cons rfl .nil))
  ·exact .nil
  refine bG ?_;refine iL X.length (fun k s=>s=ZW X Y k/\∀ i,i<k->X.getD i 0=Y.getD i 0) 0 ⟨rfl,fun i hi=>by omega⟩ (by omega) (fun k s hJ hk=>?_);obtain⟨rfl,heq⟩:=hJ;refine aN ?_;refine aB M hI hn (by rfl) (by kernel_rfl) ?_ ?_
  ·simp
  refine aH (by rfl) (fun hc=>?_) (fun hc=>?_)
  ·have hk2:k<X.length:=by simpa using hc
   refine aP ?_;change iw _ _ _ _ _;refine aN ?_;refine bG ?_;refine aB M hI hn (by rfl) (by kernel_rfl) ?_ ?_
   ·simp;omega
   refine aH (by rfl) (fun hc=>?_) (fun hc=>?_)
   ·have hne:X≠Y:=by
     intro e;subst e;simp at hc
    refine aB M hI hn (by rfl) (by kernel_rfl) ?_ ?_
    ·simp
    refine aO (fun a w hg=>⟨.inr rfl,_,?_,hg⟩);refine aC (by rfl) (by simp) (by rfl) (by rfl) ?_;rw[beq_eq_false_iff_ne.2 hne]
   ·have he:X.getD k 0=Y.getD k 0:=by
     have:((X.getD k 0).toNat:Int)=(Y.getD k 0).toNat:=by simpa using hc
     exact UInt8.toNat_inj.1 (by omega)
    refine aP ?_;change iw _ _ _ _ _;refine aQ M hI hn (by rfl) (by kernel_rfl) ?_ ?_
    ·simp
    intro a w hg
    refine⟨k+1,_,by omega,by omega,⟨rfl,fun i hi=>?_⟩,(hg.reset (kT:=[0,1,5]) (kO:=[]) (by rfl) (by simp)).same ?_ ?_⟩
    ·rcases Nat.lt_or_eq_of_le (Nat.le_of_lt_succ hi) with h|rfl
     ·exact heq i h
     ·exact he
    ·exact .cons rfl (.cons rfl (.cons (by rw[fG k (by omega)]) .nil))
    ·exact .nil
  ·have hkk:k=X.length:=by
    have:¬k<X.length:=by simpa using hc
    omega
   have he:=aXf hl (fun i hi=>heq i (by omega));refine gW ?_;change iw _ _ _ _ _;refine aB M hI hn (by rfl) (by kernel_rfl) ?_ ?_
   ·simp
   refine aO (fun a w hg=>⟨.inr rfl,_,?_,hg⟩);refine aC (by rfl) (by simp) (by rfl) (by rfl) ?_;subst he;simp
def Gs:Spec:=bD true fun xs=>match xs with
 |[v,u]=>(match yR v,yR u with
  |some (p,l),some (q,m)=>some (p/\q/\jD l,rq (l==m))
  |_,_=>none)
 |_=>none
theorem IK:aj Tryz.prog a_ 182 Gs:=by
 refine aZ (aF Tryz.func182 (by kernel_rfl) rfl) (fun xs p r hg hp=>?_)
 split at hg
 ·rename_i v u
  cases hq:yR v<;>cases hq2:yR u<;>simp only[hq,hq2] at hg<;>try (cases hg;done)
  cases hg
  exact (aZt _ _ hp.2.2).args fun C vs hv=>by
   match vs,hv with
   |[x,y],⟨h1,h2,_⟩=>exact⟨vC hq hp.1 h1,vC hq2 hp.2.1 h2,trivial⟩
 ·cases hg
def RG:List (Nat×Spec):=(181,Tj jD fun l=>h_ (jh l))::(182,Gs)::WE
theorem N7:∀ p∈RG,aj Tryz.prog a_ p.1 p.2:=by
 intro p hp;simp only[RG,List.mem_cons] at hp;rcases hp with rfl|rfl|hp
 ·exact qR (aF Tryz.func181 (by kernel_rfl) rfl) aPv
 ·exact IK
 ·exact N8 p hp
theorem aMB:l_ Tryz.prog a_ (find RG):=⟨bV N7,fC⟩
theorem QN(L:List UInt8):jh L<=L.length/\jh L<=10:=by
 unfold jh
 cases h:term 10 L with
 |none=>simp
 |some k=>obtain⟨_,h1,h2⟩:=pW _ _ _ h;dsimp only;omega
theorem aTr(L:List UInt8):b_ L=if jh L=0 then (0,0,if L.length<10 then 6 else 7) else if di (lK (jl (L.take (jh L)) % 18446744073709551616))=L.take (jh L) then (lK (jl (L.take (jh L)) % 18446744073709551616),jh L,0) else (0,0,7):=by
 unfold b_ jh
 cases h:term 10 L with
 |none=>rfl
 |some k=>
  obtain⟨h1,h2,h3⟩:=pW _ _ _ h;dsimp only;rw[if_neg (show ¬k+1=0 by omega)]
  have hl:(L.take (k+1)).length=k+1:=by rw[List.length_take];omega
  have hiff:=aPa h1 hl h2;rw[getD_take (by omega)] at hiff
  by_cases hc:jl (L.take (k+1))<18446744073709551616/\(k=0\/L.getD k 0≠0)
  ·rw[if_pos hc,if_pos (hiff.2 hc),Nat.mod_eq_of_lt hc.1]
  ·rw[if_neg hc,if_neg (fun e=>hc (hiff.1 e))]
theorem GX(u c:Nat):IntKind.u64.wrap (IntKind.u64.wrap (128*(u:Int))+IntKind.u64.wrap ((c:Int).tmod 128))=(((c % 128+128*u) % 18446744073709551616:Nat):Int):=by
 have e:(c:Int).tmod 128=((c % 128:Nat):Int):=by rw[Int.tmod_eq_emod_of_nonneg (by omega)];omega
 rw[e,show (128:Int)*(u:Int)=((128*u:Nat):Int) from by omega,lZ,lZ,<-Int.natCast_add,lZ];congr 1;omega
theorem aYt{l:List UInt8}{k:Nat}(h:k<l.length):jl (l.drop k)=(l.getD k 0).toNat % 128+128*jl (l.drop (k+1)):=by
 rw[List.drop_eq_getElem_cons h,zG,zH h];rfl
def Dw(L:List UInt8)(r:Nat):Nat:=jl ((L.take (jh L)).drop (jh L-r)) % 18446744073709551616
def Zj(L:List UInt8)(r:Nat):St:=⟨[(0,none,og L),(5,none,h_ (jh L)),(6,none,l9 (.int .u64 (Dw L r:Int))),(7,none,h_ ((jh L:Int)-1-r))],[]⟩
theorem aPw(L:List UInt8)(hL:jD L):gU Tryz.prog a_ 151 true [og L] (wP (b_ L)):=by
 have M:=aMB;have hL':L.length<4611686018427387904:=hL;have hle:=QN L;refine bJ Tryz.func151 rfl rfl bP (fun A hS hn hI=>?_);refine aB M hI hn (by rfl) (by kernel_rfl) ?_ ?_
 ·simp
 refine aB M hI hn (by rfl) (by kernel_rfl) ?_ ?_
 ·simp[hL]
 refine aG (s':=⟨[(0,none,og L),(5,none,h_ (jh L))],[]⟩) (fun a w hg=>(hg.reset (kT:=[0,5]) (kO:=[]) (by rfl) (by simp)).same ?_ ?_) ?_
 ·rw[fO];exact .cons rfl (.cons rfl .nil)
 ·exact .nil
 refine aN ?_;refine aB M hI hn (by rfl) (by kernel_rfl) ?_ ?_
 ·simp
 refine aH (by rfl) (fun hc=>?_) (fun hc=>?_)
 ·have h0:jh L=0/\L.length<10:=by
   have:((jh L:Nat):Int)=0/\(L.length:Int)<10:=by simpa using hc
   omega
  refine aB M hI hn (by rfl) (by kernel_rfl) ?_ ?_
  ·simp
  refine aO (fun a w hg=>⟨.inr rfl,_,?_,hg⟩);refine aC (by rfl) (by simp) (by rfl) (by rfl) ?_;rw[aTr,if_pos h0.1,if_pos h0.2];rfl
 ·have h0:¬(jh L=0/\L.length<10):=by
   intro h;simp[h.1] at hc;omega
  refine aP ?_;change iw _ _ _ _ _;refine aB M hI hn (by rfl) (by kernel_rfl) ?_ ?_
  ·simp
  refine aN ?_;refine aB M hI hn (by rfl) (by kernel_rfl) ?_ ?_
  ·simp
  refine aG (s':=Zj L 0) (fun a w hg=>(hg.reset (kT:=[0,5,6,7]) (kO:=[]) (by rfl) (by simp)).same ?_ ?_) ?_
  ·refine .cons rfl (.cons rfl (.cons ?_ (.cons ?_ .nil)))
   ·unfold Dw;rw[Nat.sub_zero,List.drop_of_length_le (by rw[List.length_take];omega)];rfl
   ·exact congrArg h_ (by rw[dX (by omega) (by omega)];omega)
  ·exact .nil
  refine bG ?_;refine iL (jh L) (fun k s=>s=Zj L k) 0 rfl (by omega) (fun k s hJ hk=>?_);subst hJ;refine aN ?_;refine aB M hI hn (by rfl) (by kernel_rfl) ?_ ?_
  ·simp
  refine aH (by rfl) (fun hc=>?_) (fun hc=>?_)
  ·have hk2:k<jh L:=by
    have:((jh L:Nat):Int)-1-k>=0:=by simpa using hc
    omega
   refine aP ?_;change iw _ _ _ _ _;refine aN ?_;refine bG ?_;refine aQ M hI hn (by rfl) (by kernel_rfl) ?_ ?_
   ·simp;omega
   change iw _ _ _ _ _;refine aQ M hI hn (by rfl) (by kernel_rfl) ?_ ?_
   ·simp
   intro a w hg
   refine⟨k+1,_,by omega,by omega,rfl,(hg.reset (kT:=[0,5,6,7]) (kO:=[]) (by rfl) (by simp)).same ?_ ?_⟩
   ·refine .cons rfl (.cons rfl (.cons ?_ (.cons ?_ .nil)))
    ·refine congrArg (fun n=>l9 (.int .u64 n)) ?_;rw[show ((jh L:Nat):Int)-1-k=((jh L-1-k:Nat):Int) from by omega,Int.toNat_natCast,GX];unfold Dw;have h1:=aYt (l:=L.take (jh L)) (k:=jh L-1-k) (by rw[List.length_take];omega);rw[getD_take (by omega),show jh L-1-k+1=jh L-k from by omega] at h1;rw[show jh L-(k+1)=jh L-1-k from by omega,h1];congr 1;omega
    ·exact congrArg h_ (by rw[dX (by omega) (by omega)];omega)
   ·exact .nil
  ·have hkk:k=jh L:=by
    have:¬((jh L:Nat):Int)-1-k>=0:=by simpa using hc
    omega
   subst hkk
   have hu:Dw L (jh L)=jl (L.take (jh L)) % 18446744073709551616:=by unfold Dw;rw[Nat.sub_self,List.drop_zero]
   have hu2:Dw L (jh L)<18446744073709551616:=Nat.mod_lt _ (by omega);have aKP:=wC hu2;refine gW ?_;change iw _ _ _ _ _;refine aB M hI hn (by rfl) (by kernel_rfl) ?_ ?_
   ·simp
   have hh:IntKind.i64.wrap (IntKind.u64.wrap (((Dw L (jh L):Nat):Int).tdiv 2))=((Dw L (jh L) / 2:Nat):Int):=by
    have e:((Dw L (jh L):Nat):Int).tdiv 2=((Dw L (jh L) / 2:Nat):Int):=by rw[Int.tdiv_eq_ediv_of_nonneg (by omega)];omega
    rw[e,lZ,Nat.mod_eq_of_lt (by omega),dX (by omega) (by omega)]
   refine aG (s':=⟨[(0,none,og L),(5,none,h_ (jh L)),(6,none,l9 (.int .u64 (Dw L (jh L):Int))),(8,none,h_ ((Dw L (jh L) / 2:Nat):Int))],[]⟩) (fun a w hg=>(hg.reset (kT:=[0,5,6,8]) (kO:=[]) (by rfl) (by simp)).same ?_ ?_) ?_
   ·exact .cons rfl (.cons rfl (.cons rfl (.cons (congrArg h_ hh) .nil)))
   ·exact .nil
   have hm2:((Dw L (jh L):Nat):Int).tmod 2=((Dw L (jh L) % 2:Nat):Int):=by rw[Int.tmod_eq_emod_of_nonneg (by omega)];omega
   have hgs:=aTr L;rw[<-hu] at hgs;generalize hU:Dw L (jh L)=U at *;have hbI:iq (lK U):=aKP;have hbl:=aX (lK U)
   have hr1:(rowB (di (lK U)).length fun i=>ou (di (lK U)) (0+i))=di (lK U):=by
    rw[mO (by omega),List.drop_zero,List.take_length]
   have hr2:(rowB (((jh L:Nat):Int)-0).toNat fun i=>ou L (Int.toNat 0+i))=L.take (jh L):=by
    rw[show (((jh L:Nat):Int)-0).toNat=jh L from by omega];exact (mO (L:=L) (k:=0) (m:=jh L) (by omega)).trans (by rw[List.drop_zero])
   refine aN ?_;refine aB M hI hn (by rfl) (by kernel_rfl) ?_ ?_
   ·simp
   refine aH (by rfl) (fun hc=>?_) (fun hc=>?_)
   ·have huz:IntKind.i64.wrap (IntKind.i64.wrap (0-((U / 2:Nat):Int))-1)=lK U:=by
     rw[hm2] at hc
     have hodd:((U % 2:Nat):Int)=1:=by simpa using hc
     have e:IntKind.i64.wrap (0-((U / 2:Nat):Int))=0-((U / 2:Nat):Int):=dX (by omega) (by omega);rw[e,dX (by omega) (by omega)];unfold lK;rw[if_neg (by omega)];omega
    refine aQ M hI hn (by rfl) (by kernel_rfl) ?_ ?_
    ·simp
    change iw _ _ _ _ _;refine aG (s':=⟨[(0,none,og L),(5,none,h_ (jh L)),(8,none,h_ (lK U))],[]⟩) (fun a w hg=>(hg.reset (kT:=[0,5,8]) (kO:=[]) (by rfl) (by simp)).same ?_ ?_) ?_
    ·exact .cons rfl (.cons rfl (.cons (congrArg h_ huz) .nil))
    ·exact .nil
    refine aN ?_;refine aB M hI hn (by rfl) (by kernel_rfl) ?_ ?_
    ·simp[hbI]
     exact⟨fun _=>by omega,fun _ i hi x hx=>aBx (show (ou _ i).all (cZ false)=true from rfl) x hx,fun _=>by unfold jD;omega⟩
    refine aH (by rfl) (fun hc=>?_) (fun hc=>?_)
    ·rw[hr1,hr2] at hc
     have h7:b_ L=(0,0,7):=by
      rw[hgs]
      by_cases h1:jh L=0
      ·rw[if_pos h1,if_neg (fun h=>h0 ⟨h1,h⟩)]
      ·rw[if_neg h1,if_neg];intro e;rw[e] at hc;simp[h1] at hc
     refine aB M hI hn (by rfl) (by kernel_rfl) ?_ ?_
     ·simp
     refine aO (fun a w hg=>⟨.inr rfl,_,?_,hg⟩);refine aC (by rfl) (by simp) (by rfl) (by rfl) ?_;rw[h7];rfl
    ·rw[hr1,hr2] at hc
     have h7:jh L≠0/\di (lK U)=L.take (jh L):=by
      by_cases h1:jh L=0
      ·simp[h1] at hc
      ·refine⟨h1,?_⟩
       simp[h1] at hc;exact hc
     refine aP ?_;change iw _ _ _ _ _;refine aB M hI hn (by rfl) (by kernel_rfl) ?_ ?_
     ·simp
     refine aO (fun a w hg=>⟨.inr rfl,_,?_,hg⟩);refine aC (by rfl) (by simp) (by rfl) (by rfl) ?_;rw[hgs,if_neg h7.1,if_pos h7.2];rfl
   ·have huz:((U / 2:Nat):Int)=lK U:=by
     rw[hm2] at hc
     have hev:¬((U % 2:Nat):Int)=1:=by simpa using hc
     unfold lK;rw[if_pos (by omega)]
    refine aP ?_;change iw _ _ _ _ _;refine aG (s':=⟨[(0,none,og L),(5,none,h_ (jh L)),(8,none,h_ (lK U))],[]⟩) (fun a w hg=>(hg.reset (kT:=[0,5,8]) (kO:=[]) (by rfl) (by simp)).same ?_ ?_) ?_
    ·exact .cons rfl (.cons rfl (.cons (congrArg h_ huz) .nil))
    ·exact .nil
    refine aN ?_;refine aB M hI hn (by rfl) (by kernel_rfl) ?_ ?_
    ·simp[hbI]
     exact⟨fun _=>by omega,fun _ i hi x hx=>aBx (show (ou _ i).all (cZ false)=true from rfl) x hx,fun _=>by unfold jD;omega⟩
    refine aH (by rfl) (fun hc=>?_) (fun hc=>?_)
    ·rw[hr1,hr2] at hc
     have h7:b_ L=(0,0,7):=by
      rw[hgs]
      by_cases h1:jh L=0
      ·rw[if_pos h1,if_neg (fun h=>h0 ⟨h1,h⟩)]
      ·rw[if_neg h1,if_neg];intro e;rw[e] at hc;simp[h1] at hc
     refine aB M hI hn (by rfl) (by kernel_rfl) ?_ ?_
     ·simp
     refine aO (fun a w hg=>⟨.inr rfl,_,?_,hg⟩);refine aC (by rfl) (by simp) (by rfl) (by rfl) ?_;rw[h7];rfl
    ·rw[hr1,hr2] at hc
     have h7:jh L≠0/\di (lK U)=L.take (jh L):=by
      by_cases h1:jh L=0
      ·simp[h1] at hc
      ·refine⟨h1,?_⟩
       simp[h1] at hc;exact hc
     refine aP ?_;change iw _ _ _ _ _;refine aB M hI hn (by rfl) (by kernel_rfl) ?_ ?_
     ·simp
     refine aO (fun a w hg=>⟨.inr rfl,_,?_,hg⟩);refine aC (by rfl) (by simp) (by rfl) (by rfl) ?_;rw[hgs,if_neg h7.1,if_pos h7.2];rfl
def RF:List (Nat×Spec):=(151,Tj jD fun l=>wP (b_ l))::(139,Tj jD fun l=>EI (jB l))::RG
theorem Me:∀ p∈RF,aj Tryz.prog a_ p.1 p.2:=by
 intro p hp;simp only[RF,List.mem_cons] at hp;rcases hp with rfl|rfl|hp
 ·exact qR (aF Tryz.func151 (by kernel_rfl) rfl) aPw
 ·exact qR (aF Tryz.func139 (by kernel_rfl) rfl) aAw
 ·exact N7 p hp
theorem aMA:l_ Tryz.prog a_ (find RF):=⟨bV Me,fC⟩
def Wn(L:List UInt8):Int×Nat×Int:=if (Ae L).2.2=0 then ((b_ L).1,(b_ L).2.1,0) else (0,0,(Ae L).2.2)
theorem aVx(L:List UInt8)(hL:jD L):gU Tryz.prog a_ 183 true [og L,h_ 1] (wP (Wn L)):=by
 have M:=aMA;have hle:=pR L;have hrg:=iO L;have hL':L.length<4611686018427387904:=hL;refine bJ Tryz.func183 rfl rfl bP (fun A hS hn hI=>?_);refine aB M hI hn (by rfl) (by kernel_rfl) ?_ ?_
 ·simp
 refine aB M hI hn (by rfl) (by kernel_rfl) ?_ ?_
 ·simp[hL]
 refine aG (s':=⟨[(0,none,og L),(1,none,h_ 1),(7,none,h_ (b_ L).1),(8,none,h_ ((b_ L).2.1:Int)),(9,none,h_ (b_ L).2.2)],[]⟩) (fun a w hg=>(hg.reset (kT:=[0,1,7,8,9]) (kO:=[]) (by rfl) (by simp)).same ?_ ?_) ?_
 ·rw[fO];exact .cons rfl (.cons rfl (.cons rfl (.cons rfl (.cons rfl .nil))))
 ·exact .nil
 unfold Wn Ae;generalize b_ L=g at *;obtain⟨n,k,e⟩:=g;dsimp only at *;refine aN ?_;refine aB M hI hn (by rfl) (by kernel_rfl) ?_ ?_
 ·simp
 refine aH (by rfl) (fun hc=>?_) (fun hc=>?_)
 ·have he:e≠0:=by simpa using hc
  refine aB M hI hn (by rfl) (by kernel_rfl) ?_ ?_
  ·simp
  refine aO (fun a w hg=>⟨.inr rfl,_,?_,hg⟩);refine aC (by rfl) (by simp) (by rfl) (by rfl) ?_;rw[if_pos he,if_neg he];rfl
 ·have he:e=0:=by simpa using hc
  subst he;refine aP ?_;change iw _ _ _ _ _;refine aN ?_;refine aB M hI hn (by rfl) (by kernel_rfl) ?_ ?_
  ·simp
  refine aH (by rfl) (fun hc=>?_) (fun hc=>?_)
  ·have hn0:n<0:=by simpa using hc
   refine aB M hI hn (by rfl) (by kernel_rfl) ?_ ?_
   ·simp
   refine aO (fun a w hg=>⟨.inr rfl,_,?_,hg⟩);refine aC (by rfl) (by simp) (by rfl) (by rfl) ?_
   have ec:(if (0:Int)≠0 then (0:Int) else if n<0 then (7:Int) else if n > (L.length:Int)-k then 6 else 0)=7:=by rw[if_neg (by simp),if_pos hn0]
   rw[ec];rfl
  ·have hn0:¬n<0:=by simpa using hc
   refine aP ?_;change iw _ _ _ _ _;refine aN ?_;refine aB M hI hn (by rfl) (by kernel_rfl) ?_ ?_
   ·simp
   have e1:IntKind.i64.wrap ((L.length:Int)-k)=(L.length:Int)-k:=dX (by omega) (by omega)
   have e2:IntKind.i64.wrap (n*1)=n:=by rw[Int.mul_one];exact dX (by omega) (by omega)
   refine aH (by rfl) (fun hc=>?_) (fun hc=>?_)
   ·rw[e1,e2] at hc
    have hn1:n > (L.length:Int)-k:=by
     by_cases h1:(L.length:Int)<n
     ·omega
     ·simp[h1] at hc;exact hc
    refine aB M hI hn (by rfl) (by kernel_rfl) ?_ ?_
    ·simp
    refine aO (fun a w hg=>⟨.inr rfl,_,?_,hg⟩);refine aC (by rfl) (by simp) (by rfl) (by rfl) ?_
    have ec:(if (0:Int)≠0 then (0:Int) else if n<0 then (7:Int) else if n > (L.length:Int)-k then 6 else 0)=6:=by rw[if_neg (by simp),if_neg hn0,if_pos hn1]
    rw[ec];rfl
   ·rw[e1,e2] at hc
    have hn1:¬n > (L.length:Int)-k:=by
     by_cases h1:(L.length:Int)<n
     ·simp[h1] at hc
     ·simp[h1] at hc;omega
    refine aP ?_;change iw _ _ _ _ _;refine aB M hI hn (by rfl) (by kernel_rfl) ?_ ?_
    ·simp
    refine aO (fun a w hg=>⟨.inr rfl,_,?_,hg⟩);refine aC (by rfl) (by simp) (by rfl) (by rfl) ?_
    have ec:(if (0:Int)≠0 then (0:Int) else if n<0 then (7:Int) else if n > (L.length:Int)-k then 6 else 0)=0:=by rw[if_neg (by simp),if_neg hn0,if_neg hn1]
    rw[ec];rfl
def aSj:Spec:=bD true fun xs=>match xs with
 |[v,.w (.one (.lit (.int .i64 1)))]=>(match yR v with
  |some (p,l)=>some (p/\jD l,wP (Wn l))
  |none=>none)
 |_=>none
theorem bAj:aj Tryz.prog a_ 183 aSj:=by
 refine aZ (aF Tryz.func183 (by kernel_rfl) rfl) (fun xs p r hg hp=>?_)
 split at hg
 ·rename_i v
  cases hq:yR v with
  |none=>rw[hq] at hg;cases hg
  | some q=>
   obtain⟨p0,l⟩:=q;rw[hq] at hg;cases hg
   exact (aVx l hp.2).args fun C vs hv=>by
    match vs,hv with
    |[x,y],⟨h1,h2,_⟩=>exact⟨vC hq hp.1 h1,h2,trivial⟩
 ·cases hg
def WC:List (Nat×Spec):=(183,aSj)::RF
theorem Md:∀ p∈WC,aj Tryz.prog a_ p.1 p.2:=by
 intro p hp;rcases List.mem_cons.1 hp with rfl|hp
 ·exact bAj
 ·exact Me p hp
theorem aLZ:l_ Tryz.prog a_ (find WC):=⟨bV Md,fC⟩
theorem aIq(L:List UInt8)(hL:jD L):gU Tryz.prog a_ 152 true [og L] (EI (jB L)):=by
 have M:=aLZ;have hle:=pR L;have hrg:=iO L;have hL':L.length<4611686018427387904:=hL;refine bJ Tryz.func152 rfl rfl bP (fun A hS hn hI=>?_);refine aB M hI hn (by rfl) (by kernel_rfl) ?_ ?_
 ·simp
 refine aB M hI hn (by rfl) (by kernel_rfl) ?_ ?_
 ·simp[hL]
 refine aG (s':=⟨[(0,none,og L),(5,none,h_ (Wn L).1),(6,none,h_ ((Wn L).2.1:Int)),(7,none,h_ (Wn L).2.2)],[]⟩) (fun a w hg=>(hg.reset (kT:=[0,5,6,7]) (kO:=[]) (by rfl) (by simp)).same ?_ ?_) ?_
 ·rw[fO];exact .cons rfl (.cons rfl (.cons rfl (.cons rfl .nil)))
 ·exact .nil
 have hcc:=aOe L;rw[aNk L];unfold Wn;generalize (Ae L).2.2=e at *;generalize b_ L=g at *;obtain⟨n,k,e'⟩:=g;dsimp only at *;refine aN ?_;refine aB M hI hn (by rfl) (by kernel_rfl) ?_ ?_
 ·simp
 refine aH (by rfl) (fun hc=>?_) (fun hc=>?_)
 ·have he:e≠0:=by
   intro h;rw[if_pos h] at hc;simp at hc
  refine aB M hI hn (by rfl) (by kernel_rfl) ?_ ?_
  ·simp
  refine aO (fun a w hg=>⟨.inr rfl,_,?_,hg⟩);refine aC (by rfl) (by simp) (by rfl) (by rfl) ?_;rw[if_pos he,if_neg he];rfl
 ·have he:e=0:=by
   rcases Decidable.em (e=0) with h|h
   ·exact h
   ·rw[if_neg h] at hc;exact absurd (by simpa using hc) h
  subst he;obtain⟨_,hn0,hn1⟩:=hcc rfl
  have e1:IntKind.i64.wrap ((k:Int)+n)=((k+n.toNat:Nat):Int):=by rw[dX (by omega) (by omega)];omega
  refine aP ?_;change iw _ _ _ _ _;simp only[if_pos];refine aB M hI hn (by rfl) (by kernel_rfl) ?_ ?_
  ·simp;rw[e1];omega
  refine aO (fun a w hg=>⟨.inr rfl,_,?_,hg⟩);refine aC (by rfl) (by simp) (by rfl) (by rfl) ?_;rw[if_neg (by simp),e1]
  have e2:(((k+n.toNat:Nat):Int)-(k:Int)).toNat=n.toNat:=by omega
  unfold EI;rw[e2,Int.toNat_natCast,mO (by omega)];rfl
def aCO:List (Nat×Spec):=(152,Tj jD fun l=>EI (jB l))::WC
theorem WH:∀ p∈aCO,aj Tryz.prog a_ p.1 p.2:=by
 intro p hp;rcases List.mem_cons.1 hp with rfl|hp
 ·exact qR (aF Tryz.func152 (by kernel_rfl) rfl) aIq
 ·exact Md p hp
end Pv
section
open Go.RowKit Go.Shelf
def laysRepeat_ren:Ren:=
{
 f:=fun x=>
  match x with
  |105=>141
  |212=>169
  |99=>170
  |165=>171
  |166=>172
  |170=>173
  |169=>174
  |263=>186
  |264=>187
  |206=>188
  |240=>189
  |241=>190
  |276=>198
  |277=>199
  |n=>n,
 t:=fun x=>
  match x with
  |9=>9
  |3=>3
  |4=>4
  |20=>20
  |0=>0
  |46=>220
  |109=>238
  |5=>5
  |72=>243
  |76=>247
  |51=>203
  |146=>253
  |53=>110
  |148=>255
  |70=>241
  |37=>74
  |75=>246
  |127=>257
  |164=>259
  |80=>249
  |n=>n,
 g:=fun x=>
  have n:=x;
  n }
theorem laysRepeat:Lays.n105 Tryz.prog laysRepeat_ren:=
{mixed:=Eq.refl true,f99:=Eq.trans Tryz.func170 (congrArg some (Eq.refl (Body.n99 laysRepeat_ren))),
 f105:=Eq.trans Tryz.func141 (congrArg some (Eq.refl (Body.n105 laysRepeat_ren))),
 f165:=Eq.trans Tryz.func171 (congrArg some (Eq.refl (Body.n165 laysRepeat_ren))),
 f166:=Eq.trans Tryz.func172 (congrArg some (Eq.refl (Body.n166 laysRepeat_ren))),
 f169:=Eq.trans Tryz.func174 (congrArg some (Eq.refl (Body.n169 laysRepeat_ren))),
 f170:=Eq.trans Tryz.func173 (congrArg some (Eq.refl (Body.n170 laysRepeat_ren))),
 f206:=Eq.trans Tryz.func188 (congrArg some (Eq.refl (Body.n206 laysRepeat_ren))),
 f212:=Eq.trans Tryz.func169 (congrArg some (Eq.refl (Body.n212 laysRepeat_ren))),
 f240:=Eq.trans Tryz.func189 (congrArg some (Eq.refl (Body.n240 laysRepeat_ren))),
 f241:=Eq.trans Tryz.func190 (congrArg some (Eq.refl (Body.n241 laysRepeat_ren))),
 f263:=Eq.trans Tryz.func186 (congrArg some (Eq.refl (Body.n263 laysRepeat_ren))),
 f264:=Eq.trans Tryz.func187 (congrArg some (Eq.refl (Body.n264 laysRepeat_ren))),
 f276:=Eq.trans Tryz.func198 (congrArg some (Eq.refl (Body.n276 laysRepeat_ren))),
 f277:=Eq.trans Tryz.func199 (congrArg some (Eq.refl (Body.n277 laysRepeat_ren))),t0:=Tryz.underlying0,
 a0:=Tryz.isAgg0,z0:=Tryz.sizeOf0,v0:=Tryz.zeroValue0,t3:=Tryz.underlying3,a3:=Tryz.isAgg3,
 z3:=Tryz.sizeOf3,v3:=Tryz.zeroValue3,t4:=Tryz.underlying4,a4:=Tryz.isAgg4,z4:=Tryz.sizeOf4,
 v4:=Tryz.zeroValue4,t5:=Tryz.underlying5,a5:=Tryz.isAgg5,z5:=Tryz.sizeOf5,v5:=Tryz.zeroValue5,
 t9:=Tryz.underlying9,a9:=Tryz.isAgg9,z9:=Tryz.sizeOf9,v9:=Tryz.zeroValue9,t20:=Tryz.underlying20,
 a20:=Tryz.isAgg20,z20:=Tryz.sizeOf20,v20:=Tryz.zeroValue20,t37:=Tryz.underlying74,a37:=Tryz.isAgg74,
 z37:=Tryz.sizeOf74,v37:=Tryz.zeroValue74,t46:=Tryz.underlying220,a46:=Tryz.isAgg220,z46:=Tryz.sizeOf220,
 v46:=Tryz.zeroValue220,t51:=Tryz.underlying203,a51:=Tryz.isAgg203,z51:=Tryz.sizeOf203,
 v51:=Tryz.zeroValue203,t53:=Tryz.underlying110,a53:=Tryz.isAgg110,z53:=Tryz.sizeOf110,
 v53:=Tryz.zeroValue110,t70:=Tryz.underlying241,a70:=Tryz.isAgg241,z70:=Tryz.sizeOf241,
 v70:=Tryz.zeroValue241,t72:=Tryz.underlying243,a72:=Tryz.isAgg243,z72:=Tryz.sizeOf243,
 v72:=Tryz.zeroValue243,t75:=Tryz.underlying246,a75:=Tryz.isAgg246,z75:=Tryz.sizeOf246,
 v75:=Tryz.zeroValue246,t76:=Tryz.underlying247,a76:=Tryz.isAgg247,z76:=Tryz.sizeOf247,
 v76:=Tryz.zeroValue247,t109:=Tryz.underlying238,a109:=Tryz.isAgg238,z109:=Tryz.sizeOf238,
 v109:=Tryz.zeroValue238,t127:=Tryz.underlying257,a127:=Tryz.isAgg257,z127:=Tryz.sizeOf257,
 v127:=Tryz.zeroValue257,t146:=Tryz.underlying253,a146:=Tryz.isAgg253,z146:=Tryz.sizeOf253,
 v146:=Tryz.zeroValue253,t148:=Tryz.underlying255,a148:=Tryz.isAgg255,z148:=Tryz.sizeOf255,
 v148:=Tryz.zeroValue255,t164:=Tryz.underlying259,a164:=Tryz.isAgg259,z164:=Tryz.sizeOf259,
 v164:=Tryz.zeroValue259 }
theorem aRa:Builder.Extra Tryz.prog laysRepeat_ren where
 sizeBuilder:=by kernel_rfl
 liesBuilder:=by kernel_rfl
 t5:=laysRepeat.t5
 a5:=laysRepeat.a5
 z5:=laysRepeat.z5
 v5:=laysRepeat.v5
 infoByte:=by kernel_rfl
 cellsByte:=by kernel_rfl
 sizeByte:=by kernel_rfl
 neB5:=by decide
theorem aCz(s:ByteArray)(c:Nat)(w:World)(hc:c<=9223372036854775807)(hlen:s.size*c<=140737488355328) :
  Calls Tryz.prog 141 #[.string s,.int .i64 c] w fun e w'=>e=.returned (.string ⟨(Lib.repeatL s.data.toList c).toArray⟩)/\Below w.heap.size w w':=
 Any.strings_Repeat laysRepeat aRa s c w hc hlen
theorem aJp(s p:ByteArray)(w:World):Calls Tryz.prog 170 #[.string s,.string p] w fun e w'=>e=.returned (.bool (Lib.hasPrefix s.data.toList p.data.toList))/\w'=w:=
 Any.strings_HasPrefix { laysRepeat with } s p w
end
abbrev Fl:=List ByteArray
def sec(f:Fl)(s:Int):List UInt8:=if 0<=s/\s<f.length then (f.getD s.toNat aS).data.toList else[]
def zo(cut:Int)(b old:List UInt8):List UInt8:=if cut<0\/(b.length:Int)<=cut then b else b.take cut.toNat++old.drop cut.toNat
def iT(f:Fl)(s:Int)(b:ByteArray)(cut:Int):Fl:=if 0<=s/\s<f.length/\b.size=256 then f.set s.toNat (strOf (zo cut b.data.toList (sec f s))) else f
namespace Pv
abbrev pq(s:ByteArray):PV:=l9 (.string s)
theorem zZ{I:World->Prop}:l_ Tryz.prog I (find ([]:List (Nat×Spec))):=⟨fun f sp h=>(by cases h),(by kernel_rfl)⟩
def qi(l:List ByteArray):Nat->List PC:=fun i=>[.lit (.string (l.getD i aS))]
def Vm:List PC->ByteArray
 |[.lit (.string s)]=>s
 |_=>aS
def VI:List PC->Bool
 |[.lit (.string _)]=>true
 |_=>false
theorem QP{l:List PC}(h:VI l=true):l=[.lit (.string (Vm l))]:=by
 unfold VI at h
 split at h
 ·rfl
 ·cases h
def iF(n:Nat)(f:Nat->List PC):List ByteArray:=(List.range n).map fun i=>Vm (f i)
def aKr(n:Nat)(f:Nat->List PC):Prop:=∀ i,i<n->VI (f i)=true
@[simp] theorem aAx(n:Nat)(f:Nat->List PC):(iF n f).length=n:=by simp[iF]
theorem bCy{n:Nat}{f:Nat->List PC}(h:aKr n f):∀ i,i<n->f i=qi (iF n f) i:=fun i hi=>by
 unfold qi iF;rw[zG,List.getElem?_map,List.getElem?_range hi];exact QP (h i hi)
@[simp] theorem TS(n:Nat)(l:List ByteArray):aKr n (qi l):=fun _ _=>rfl
@[simp] theorem bM(l:List ByteArray):iF l.length (qi l)=l:=by
 apply List.ext_getElem (by simp);intro i h1 h2;simp only[iF,List.getElem_map,List.getElem_range,qi,Vm];rw[zG,zH h2];rfl
theorem Gz{C:Ctx}{n len:Nat}{f g:Nat->List PC}(h:∀ i,i<len->f i=g i){xs:List Value}(hr:R C (.sl n len f) xs):R C (.sl n len g) xs:=by
 cases hr with
 |sl h1 h2 h3=>exact .sl h1 h2 (fun i hi=>by rw[<-h i hi];exact h3 i hi)
theorem RL.head{C:Ctx}{c c':PC}{l:List PC}(h:∀ ys,R C c ys->R C c' ys){xs:List Value}(hr:RL C (c::l) xs):RL C (c'::l) xs:=by
 cases hr with
 |cons h1 h2=>exact .cons (h _ h1) h2
def flV(f:Fl):PV:=.w (.agg [.sl 1 f.length (qi f)])
def zh(f:Fl)(s:Int):Bool:=decide (0<=s)&&decide (s<f.length)
theorem bCp{f:Fl}{s:Int}(h:zh f s=true):0<=s/\s<f.length:=by
 unfold zh at h;rw[Bool.and_eq_true] at h
 exact⟨of_decide_eq_true h.1,of_decide_eq_true h.2⟩
theorem L9{f:Fl}{s:Int}(h:zh f s=false):¬(0<=s/\s<f.length):=fun h2=>by
 unfold zh at h;rw[decide_eq_true h2.1,decide_eq_true h2.2] at h;cases h
def aTo(i:Nat):PV->Bool
 |.w (.one (.pt x v o))=>Nat.beq x (px+i)&&(Nat.beq v 0&&Nat.beq o 0)
 |_=>false
theorem aNc{i:Nat}{v:PV}(h:aTo i v=true):v=dh (.pt (px+i) 0 0):=by
 unfold aTo at h
 split at h
 ·rw[Bool.and_eq_true,Bool.and_eq_true] at h;rw[gq h.1,gq h.2.1,gq h.2.2]
 ·cases h
theorem Qc(f:Fl)(s:Int):gU Tryz.prog a_ 161 true [flV f,h_ s] (rq (zh f s)):=by
 have M:=zZ (I:=a_);refine bJ Tryz.func161 rfl rfl bP (fun A hS hn hI=>?_);refine aB M hI hn (by rfl) (by kernel_rfl) ?_ ?_
 ·simp
 refine aB M hI hn (by rfl) (by kernel_rfl) ?_ ?_
 ·simp
 refine aO (fun a w hg=>⟨.inr rfl,_,?_,hg⟩);refine aC (by rfl) (by simp) (by rfl) (by rfl) ?_;change rq (bif decide (s>=0) then decide (s<(f.length:Int)) else false)=_;unfold zh
 by_cases h:0<=s
 ·rw[decide_eq_true h];rfl
 ·rw[decide_eq_false h];rfl
theorem ext_list(b:ByteArray)(l h:Nat):b.extract l h=strOf ((b.data.toList.take h).drop l):=by
 apply ByteArray.ext;rw[ByteArray.data_extract];apply Array.toList_inj.1;unfold strOf;simp[Array.toList_extract,List.drop_take]
theorem OZ(a b:List UInt8):strOf a++strOf b=strOf (a++b):=by
 apply ByteArray.ext;rw[ByteArray.data_append];simp[strOf]
theorem bCa(cut:Int)(b old:ByteArray)(hb1:b.size<=1000000)(ho1:old.size<=1000000):v_ Tryz.prog a_ 162 false [⟨900001,3,[.lit (.int .i64 cut)],[.lit (.int .i64 cut)]⟩,⟨900002,9,[.lit (.string b)],[.lit (.string b)]⟩] (fun _=>none) none (fun _=>False)
  [pq old,dh (.pt 900001 0 0),dh (.pt 900002 0 0)] (pq (strOf (zo cut b.data.toList old.data.toList))):=by
 have M:=zZ (I:=a_);have hbs:b.data.toList.length=b.size:=Array.length_toList;refine jU Tryz.func162 rfl rfl rfl (fun A hn hI=>?_);refine aB M hI hn (by rfl) (by kernel_rfl) ?_ ?_
 ·simp
 refine aN ?_;refine aB M hI hn (by rfl) (by kernel_rfl) ?_ ?_
 ·simp
 refine aH (by rfl) (fun hc=>?_) (fun hc=>?_)
 ·refine aB M hI hn (by rfl) (by kernel_rfl) ?_ ?_
  ·simp
  have h:cut<0\/(b.data.toList.length:Int)<=cut:=by simp at hc;omega
  unfold zo;rw[if_pos h,mF]
  refine aO (fun a w hg=>⟨.inr rfl,_,⟨?_,(fun o ho=>by
   simp only[List.mem_cons,List.not_mem_nil,or_false] at ho
   rcases ho with rfl|rfl<;>exact⟨_,rfl,dV rfl⟩),fun p hp=>(by cases hp)⟩,hg⟩)
  refine aC (by rfl) (by simp) (by rfl) (by rfl) ?_;rfl
 ·refine aP ?_;change iw _ _ _ _ _
  have h:¬(cut<0\/(b.data.toList.length:Int)<=cut):=by simp at hc;omega
  unfold zo;rw[if_neg h];refine aB M hI hn (by rfl) (by kernel_rfl) ?_ ?_
  ·simp;omega
  refine aO (fun a w hg=>⟨.inr rfl,_,⟨?_,(fun o ho=>by
   simp only[List.mem_cons,List.not_mem_nil,or_false] at ho
   rcases ho with rfl|rfl<;>exact⟨_,rfl,dV rfl⟩),fun p hp=>(by cases hp)⟩,hg⟩)
  refine aC (by rfl) (by simp) (by rfl) (by rfl) ?_;change pq (b.extract (Int.toNat 0) cut.toNat++old.extract (min cut (old.size:Int)).toNat ((old.size:Int)).toNat)=_;rw[ext_list,ext_list,OZ];have hos:old.data.toList.length=old.size:=Array.length_toList
  have e1:(old.data.toList.take ((old.size:Int)).toNat).drop (min cut (old.size:Int)).toNat=old.data.toList.drop cut.toNat:=by
   rw[Int.toNat_natCast,List.take_of_length_le (by omega)]
   by_cases h5:cut<=(old.size:Int)
   ·rw[show (min cut (old.size:Int))=cut from by omega]
   ·rw[List.drop_of_length_le (by omega),List.drop_of_length_le (by omega)]
  rw[e1];rfl
def Dc:PV->Option (Prop×Fl)
 |.w (.agg [.sl 1 n f])=>some (aKr n f,iF n f)
 |_=>none
theorem aQy{C:Ctx}{v:PV}{p:Prop}{f:Fl}{x:Value}(h:Dc v=some (p,f))(hp:p)(hr:RV C v x):RV C (flV f) x:=by
 unfold Dc at h
 split at h
 ·rename_i n fr;cases h
  cases hr with
  | w h1=>cases h1 with
   |agg h2=>
    refine .w (.agg (h2.head fun ys h3=>?_));rw[aAx];exact Gz (bCy hp) h3
 ·cases h
def SV:Spec:=bD true fun xs=>match xs with
 |[v,.w (.one (.lit (.int .i64 s)))]=>(match Dc v with
  |some (p,f)=>some (p,rq (zh f s))
  |none=>none)
 |_=>none
theorem L8:aj Tryz.prog a_ 161 SV:=by
 refine aZ (aF Tryz.func161 (by kernel_rfl) rfl) (fun xs p r hg hp=>?_)
 split at hg
 ·rename_i v s
  cases hq:Dc v with
  |none=>rw[hq] at hg;cases hg
  | some q=>
   obtain⟨p0,f⟩:=q;rw[hq] at hg;cases hg
   exact (Qc f s).args fun C vs hv=>by
    match vs,hv with
    |[x0,x],⟨h0,h1,_⟩=>exact⟨aQy hq hp h0,h1,trivial⟩
 ·cases hg
def Vt:List (Nat×Spec):=[(161,SV)]
theorem aLU:l_ Tryz.prog a_ (find Vt):=⟨bV (fun p hp=>by
 obtain rfl:=List.mem_singleton.1 hp
 exact L8),fC⟩
theorem bDb(f:Fl)(s:Int):gU Tryz.prog a_ 128 true [flV f,h_ s] (.lh [.one (.lit (.string (strOf (sec f s)))),.one (.lit (.int .i64 (if zh f s then 0 else 13)))]):=by
 have M:=aLU;refine bJ Tryz.func128 rfl rfl bP (fun A hS hn hI=>?_);refine aB M hI hn (by rfl) (by kernel_rfl) ?_ ?_
 ·simp
 refine aN ?_;refine aB M hI hn (by rfl) (by kernel_rfl) ?_ ?_
 ·simp
 rw[bM];refine aH (by rfl) (fun hc=>?_) (fun hc=>?_)
 ·refine aB M hI hn (by rfl) (by kernel_rfl) ?_ ?_
  ·simp
  have h:zh f s=false:=by simpa using hc
  have e:sec f s=[]:=by unfold sec;rw[if_neg (L9 h)]
  rw[h,e];refine aO (fun a w hg=>⟨.inr rfl,_,?_,hg⟩);refine aC (by rfl) (by simp) (by rfl) (by rfl) ?_;rfl
 ·have h:zh f s=true:=by simpa using hc
  have h2:=bCp h;refine aP ?_;change iw _ _ _ _ _;refine aB M hI hn (by rfl) (by kernel_rfl) ?_ ?_
  ·simp;exact h2
  have e:strOf (sec f s)=f.getD s.toNat aS:=by unfold sec;rw[if_pos h2,mF]
  rw[h,e];refine aO (fun a w hg=>⟨.inr rfl,_,?_,hg⟩);refine aC (by rfl) (by simp) (by rfl) (by rfl) ?_;rfl
def ZV:Spec:=bD true fun xs=>match xs with
 |[v,.w (.one (.lit (.int .i64 s)))]=>(match Dc v with
  |some (p,f)=>some (p,.lh [.one (.lit (.string (strOf (sec f s)))),.one (.lit (.int .i64 (if zh f s then 0 else 13)))])
  |none=>none)
 |_=>none
theorem LX:aj Tryz.prog a_ 128 ZV:=by
 refine aZ (aF Tryz.func128 (by kernel_rfl) rfl) (fun xs p r hg hp=>?_)
 split at hg
 ·rename_i v s
  cases hq:Dc v with
  |none=>rw[hq] at hg;cases hg
  | some q=>
   obtain⟨p0,f⟩:=q;rw[hq] at hg;cases hg
   exact (bDb f s).args fun C vs hv=>by
    match vs,hv with
    |[x0,x],⟨h0,h1,_⟩=>exact⟨aQy hq hp h0,h1,trivial⟩
 ·cases hg
def aZg:Spec:=aTe fun os ys=>match os,ys with
 |[(t0,[.lit (.int .i64 cut)]),(t1,[.lit (.string b)])],[.w (.one (.lit (.string old))),p0,p1]=>
  (match Nat.beq t0 3&&(Nat.beq t1 9&&(aTo 0 p0&&aTo 1 p1)) with
  |true=>some (b.size<=1000000/\old.size<=1000000,[[.lit (.int .i64 cut)],[.lit (.string b)]],pq (strOf (zo cut b.data.toList old.data.toList)))
  |false=>none)
 |_,_=>none
theorem Jz:aj Tryz.prog a_ 162 aZg:=by
 refine aMl (aF Tryz.func162 (by kernel_rfl) rfl) (fun os ys p cs r hg hlen hp=>?_)
 split at hg
 ·rename_i t0 cut t1 b old p0 p1 hos
  split at hg
  ·rename_i hb;simp only[Bool.and_eq_true] at hb;obtain⟨b0,b1,q0,q1⟩:=hb;cases hg
   match os,hos with
   |[o0,o1],hos=>
    simp only[List.map_cons,List.map_nil,List.cons.injEq,Prod.mk.injEq,and_true] at hos;obtain⟨⟨h0,k0⟩,⟨h1,k1⟩⟩:=hos;have e0:=gq b0;have e1:=gq b1;have:=bCa cut b old hp.1 hp.2;unfold zN zN zN;rw[h0,k0,h1,k1,e0,e1,aNc q0,aNc q1];exact this
  ·cases hg
 ·cases hg
def Vs:List (Nat×Spec):=(162,aZg)::Vt
theorem Vu:∀ p∈Vs,aj Tryz.prog a_ p.1 p.2:=by
 intro p hp;simp only[Vs,Vt,List.mem_cons,List.not_mem_nil,or_false] at hp;rcases hp with rfl|rfl
 ·exact Jz
 ·exact L8
theorem aLT:l_ Tryz.prog a_ (find Vs):=⟨bV Vu,fC⟩
def vN(f:Fl)(s:Int)(b:ByteArray):Int:=if zh f s then (if b.size=256 then 0 else 1) else 13
theorem aWv(f:Fl)(s:Int)(b:ByteArray)(cut:Int)(hf:∀ x∈f,x.size<=1000000)(hlen:f.length<=1000000):gU Tryz.prog a_ 131 false [flV f,h_ s,pq b,h_ cut] (.lh [.agg [.sl 1 (iT f s b cut).length (qi (iT f s b cut))],.one (.lit (.int .i64 (vN f s b)))]):=by
 have M:=aLT
 have hb1:Tryz.prog.types[9].bytes=16:=by kernel_rfl
 have hs1:Tryz.prog.types[9].size=1:=by kernel_rfl
 refine bJ Tryz.func131 rfl rfl bP (fun A hS hn hI=>?_);refine aB M hI hn (by rfl) (by kernel_rfl) ?_ ?_
 ·simp
 refine aN ?_;refine bG ?_;refine aB M hI hn (by rfl) (by kernel_rfl) ?_ ?_
 ·simp
 rw[bM];refine aH (by rfl) (fun hc=>?_) (fun hc=>?_)
 ·refine aB M hI hn (by rfl) (by kernel_rfl) ?_ ?_
  ·simp
  have h:zh f s=false:=by simpa using hc
  have e1:iT f s b cut=f:=if_neg (fun h5=>L9 h ⟨h5.1,h5.2.1⟩)
  have e2:vN f s b=13:=by unfold vN;rw[h];rfl
  rw[e1,e2];refine aO (fun a w hg=>⟨.inr rfl,_,?_,hg⟩);refine aC (by rfl) (by simp) (by rfl) (by rfl) ?_;rfl
 ·have h:zh f s=true:=by simpa using hc
  have h2:=bCp h;refine aB M hI hn (by rfl) (by kernel_rfl) ?_ ?_
  ·simp
  refine aH (by rfl) (fun hc=>?_) (fun hc=>?_)
  ·refine aB M hI hn (by rfl) (by kernel_rfl) ?_ ?_
   ·simp
   have hb:¬b.size=256:=by simp at hc;omega
   have e1:iT f s b cut=f:=if_neg (fun h5=>hb h5.2.2)
   have e2:vN f s b=1:=by unfold vN;rw[h,if_neg hb];rfl
   rw[e1,e2];refine aO (fun a w hg=>⟨.inr rfl,_,?_,hg⟩);refine aC (by rfl) (by simp) (by rfl) (by rfl) ?_;rfl
  ·refine aP ?_;change iw _ _ _ _ _;refine aB M hI hn (by rfl) (by kernel_rfl) ?_ ?_
   ·simp
   have hb:b.size=256:=by simp at hc;omega
   have e1:iT f s b cut=f.set s.toNat (strOf (zo cut b.data.toList (sec f s))):=if_pos ⟨h2.1,h2.2,hb⟩
   have e2:vN f s b=0:=by unfold vN;rw[h,if_pos hb];rfl
   have e3:sec f s=(f.getD s.toNat aS).data.toList:=if_pos h2;rw[e1,e2,e3];refine aB M hI hn (by rfl) (by kernel_rfl) ?_ ?_
   ·simp;rw[hb1];omega
   refine aB M hI hn (by rfl) (by kernel_rfl) ?_ ?_
   ·simp
   refine aG (s':=⟨[(1,none,h_ s),(8,none,dh (.pt 3 0 0)),(10,none,dh (.fn (.func 162) [] [.pt 2 0 0,.pt 1 0 0])),(11,none,dh (.ow 6003 0 1 0 f.length))],[(6003,none,0,.arr 9 1 f.length (qi f)),(1,none,0,.box 9 [.lit (.string b)]),(2,none,0,.box 3 [.lit (.int .i64 cut)]),(3,none,0,.box 63 [.lit (.slice none 0 0)])]⟩) (fun a w hg=>(hg.reset (kT:=[1,8,10,11]) (kO:=[6003,1,2,3]) (by rfl) ?_).same ?_ ?_) ?_
   ·refine⟨fun i _=>?_,trivial⟩
    unfold WL
    split<;>rfl
   ·refine .cons rfl (.cons rfl (.cons rfl (.cons ?_ .nil)));change dh (.ow 6003 0 Tryz.prog.types[9].size 0 ((f.length:Int)).toNat)=_;rw[hs1,Int.toNat_natCast]
   ·refine .cons (.arr ?_ (fun i hi=>?_)) (.cons (.box rfl) (.cons (.box rfl) (.cons (.box rfl) .nil)))
    ·exact Int.toNat_natCast _
    ·unfold WL;rw[Int.toNat_natCast] at hi ⊢;rw[if_pos (by omega)]
   have hgl:(f.getD s.toNat aS).size<=1000000:=by
    rw[zG,zH (by omega)];exact hf _ (List.getElem_mem _)
   refine aB M hI hn (by rfl) (by kernel_rfl) ?_ ?_
   ·simp;rw[<-zG];omega
   refine aB M hI hn (by rfl) (by kernel_rfl) ?_ ?_
   ·simp
   rw[List.length_set];refine aO (fun a w hg=>⟨.inr rfl,_,?_,hg⟩);refine kH (by rfl) (by simp) (by rfl) ?_;refine .lh (.cons (.agg (.cons (.row rfl trivial (by omega) (fun i hi=>?_) (fun i hi=>rfl)) .nil)) (.cons (.one (.cold rfl)) .nil));rw[Nat.zero_add]
   split
   ·rename_i e
    obtain rfl:i=s.toNat:=by omega
    unfold qi;rw[zG (l:=f.set _ _),List.getElem?_set_self (by omega),Nat.zero_add];rfl
   ·rename_i e;unfold qi;rw[zG (l:=f.set _ _),List.getElem?_set_ne (by omega),zG]
def Vr(f:Fl):List PC:=[.sl 1 f.length (qi f)]
def ZU:Spec:=bD false fun xs=>match xs with
 |[v,.w (.one (.lit (.int .i64 s))),.w (.one (.lit (.string b))),.w (.one (.lit (.int .i64 cut)))]=>(match Dc v with
  |some (p,f)=>some (p/\(∀ x∈f,x.size<=1000000)/\f.length<=1000000,.lh [.agg (Vr (iT f s b cut)),.one (.lit (.int .i64 (vN f s b)))])
  |none=>none)
 |_=>none
theorem bCv:aj Tryz.prog a_ 131 ZU:=by
 refine aZ (aF Tryz.func131 (by kernel_rfl) rfl) (fun xs p r hg hp=>?_)
 split at hg
 ·rename_i v s b cut
  cases hq:Dc v with
  |none=>rw[hq] at hg;cases hg
  | some q=>
   obtain⟨p0,f⟩:=q;rw[hq] at hg;cases hg
   exact (aWv f s b cut hp.2.1 hp.2.2).args fun C vs hv=>by
    match vs,hv with
    |[x0,x,y,z],⟨h0,h1,h2,h3,_⟩=>exact⟨aQy hq hp.1 h0,h1,h2,h3,trivial⟩
 ·cases hg
end Pv
end Go.Proofs.YtndpjopifkbgiaaGreatDoor
