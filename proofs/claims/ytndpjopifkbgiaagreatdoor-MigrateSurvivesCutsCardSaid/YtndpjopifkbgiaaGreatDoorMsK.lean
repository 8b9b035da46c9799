/-.-/
import Derived.Test.YtndpjopifkbgiaaGreatDoorMsB
import Derived.Test.YtndpjopifkbgiaaGreatDoorMsJ
import Derived.Shelf.Strings.Repeat
import Derived.Shelf.Strings.Prefix
import Derived.Test.YtndpjopifkbgiaaGreatDoorMsC
import Derived.Test.YtndpjopifkbgiaaGreatDoorProg
import Derived.Test.YtndpjopifkbgiaaGreatDoorMsA
set_option maxRecDepth 100000
set_option maxHeartbeats 4000000
namespace Go.Proofs.YtndpjopifkbgiaaGreatDoor
open Go.RowKit
def term:Nat->List UInt8->Option Nat
 |0,_=>none
 |_+1,[]=>none
 |n+1,b::l=>if b.toNat<128 then some 0 else (term n l).map (·+1)
def jq:List UInt8->Nat
 |[]=>0
 |b::l=>b.toNat % 128+128*jq l
def mM(u:Nat):Int:=if u % 2=0 then ((u / 2:Nat):Int) else -((u / 2:Nat):Int)-1
def d_(b:List UInt8):Int×Nat×Int:=match term 10 b with
 |none=>(0,0,if b.length<10 then 6 else 7)
 |some k=>if jq (b.take (k+1))<18446744073709551616/\(k=0\/b.getD k 0≠0) then (mM (jq (b.take (k+1))),k+1,0) else (0,0,7)
def OD:List UInt8->Prop
 |[]=>False
 |[b]=>b.toNat<128
 |b::l=>128<=b.toNat/\OD l
def xB:List UInt8->Prop
 |[]=>False
 |[b]=>b≠0
 |_::b::l=>xB (b::l)
theorem bAl{u:Nat}:zig (mM u)=u:=by
 unfold zig mM
 split<;>split<;>omega
theorem aNi(n:Int):mM (zig n)=n:=by
 unfold zig mM
 split<;>split<;>omega
theorem xG{u:Nat}(h:u<18446744073709551616):-9223372036854775808<=mM u/\mM u<9223372036854775808:=by
 unfold mM
 split<;>omega
theorem jZ{u:Nat}(h:u<256):(UInt8.ofNat u).toNat=u:=by simp;omega
theorem aNg:∀ (f u:Nat),u<128 ^ (f+1)->OD (varint f u):=by
 intro f
 induction f with
 |zero=>intro u h;simp only[varint,OD];rw[jZ (by omega)];omega
 | succ f ih=>
  intro u h
  by_cases hu:u<128
  ·rw[iU hu];simp only[OD];rw[jZ (by omega)];exact hu
  ·rw[mJ hu];have h1:=ih (u / 128) (by rw[Nat.div_lt_iff_lt_mul (by omega)];rw[Nat.pow_succ] at h;exact h)
   cases hv:varint f (u / 128) with
   |nil=>rw[hv] at h1;exact h1.elim
   |cons b l=>
    rw[hv] at h1
    refine⟨?_,h1⟩
    rw[jZ (by omega)];omega
theorem aDv:∀ (f u:Nat),u<128 ^ (f+1)->jq (varint f u)=u:=by
 intro f
 induction f with
 |zero=>intro u h;simp only[varint,jq];rw[jZ (by omega)];omega
 | succ f ih=>
  intro u h
  by_cases hu:u<128
  ·rw[iU hu];simp only[jq];rw[jZ (by omega)];omega
  ·rw[mJ hu];have h1:=ih (u / 128) (by rw[Nat.div_lt_iff_lt_mul (by omega)];rw[Nat.pow_succ] at h;exact h);simp only[jq];rw[h1,jZ (by omega)];omega
theorem aOq:∀ (f u:Nat),u<128 ^ (f+1)->u≠0->xB (varint f u):=by
 intro f
 induction f with
 |zero=>
  intro u h h0;simp only[varint,xB];intro e;have:=congrArg UInt8.toNat e;rw[jZ (by omega)] at this
  exact h0 this
 | succ f ih=>
  intro u h h0
  by_cases hu:u<128
  ·rw[iU hu];simp only[xB];intro e;have:=congrArg UInt8.toNat e;rw[jZ (by omega)] at this;exact h0 this
  ·rw[mJ hu]
   have hlt:u / 128<128 ^ (f+1):=by rw[Nat.div_lt_iff_lt_mul (by omega)];rw[Nat.pow_succ] at h;exact h
   have h1:=ih (u / 128) hlt (by omega)
   cases hv:varint f (u / 128) with
   |nil=>rw[hv] at h1;exact h1.elim
   |cons b l=>rw[hv] at h1;exact h1
theorem aUi:∀ (l:List UInt8),OD l->xB l->jq l≠0
 |[],h,_=>h.elim
 |[b],h,k=>by
  simp only[jq];have h':b.toNat<128:=h;intro e
  have h0:b.toNat=0:=by omega
  exact k (UInt8.toNat_inj.1 (by rw[h0];rfl))
 |b::c::l,h,k=>by
  have:=aUi (c::l) h.2 k;rw[jq];omega
theorem aDs:∀ (f:Nat) (l:List UInt8),OD l->(l.length=1\/xB l)->l.length<=f+1->varint f (jq l)=l
 |_,[],h,_,_=>h.elim
 |f,[b],h,_,_=>by
  have h':b.toNat<128:=h
  have e:jq [b]=b.toNat:=by simp only[jq];omega
  rw[e,iU h']
  simp
 |0,b::c::l,_,_,hl=>by simp at hl
 | f+1,b::c::l,h,k,hl=>by
  have k':xB (c::l):=by
   rcases k with k|k
   ·simp at k
   ·exact k
  have hp:=aUi (c::l) h.2 k';have ih:=aDs f (c::l) h.2 (.inr k') (by simpa using hl);have hb:128<=b.toNat:=h.1;have hb2:=b.toNat_lt;have e:jq (b::c::l)=b.toNat % 128+128*jq (c::l):=rfl;rw[e,mJ (by omega)]
  have e1:(b.toNat % 128+128*jq (c::l)) % 128=b.toNat % 128:=by omega
  have e2:(b.toNat % 128+128*jq (c::l)) / 128=jq (c::l):=by omega
  rw[e1,e2,ih];congr 1;rw[show 128+b.toNat % 128=b.toNat from by omega];simp
theorem qV:∀ (n:Nat) (b:List UInt8) (k:Nat),term n b=some k->OD (b.take (k+1))/\k<n/\k<b.length
 |0,_,_,h=>by cases h
 |_+1,[],_,h=>by cases h
 | n+1,b::l,k,h=>by
  rw[term] at h
  by_cases hb:b.toNat<128
  ·rw[if_pos hb] at h;cases h
   exact⟨by simpa[OD] using hb,by omega,by simp⟩
  ·rw[if_neg hb] at h
   cases hk:term n l with
   |none=>rw[hk] at h;cases h
   |some j=>
    rw[hk] at h;cases h;obtain⟨h1,h2,h3⟩:=qV n l j hk
    refine⟨?_,(by show j+1<n+1;omega),(by show j+1<(b::l).length;simp;omega)⟩
    rw[List.take_succ_cons]
    cases hq:l.take (j+1) with
    |nil=>rw[hq] at h1;exact h1.elim
    |cons c r=>rw[hq] at h1;exact⟨by omega,h1⟩
theorem yO:∀ (l r:List UInt8) (n:Nat),OD l->l.length<=n->term n (l++r)=some (l.length-1)
 |[],_,_,h,_=>h.elim
 | [b],r,n,h,hl=>by
  cases n with
  |zero=>simp at hl
  |succ n=>
   have h':b.toNat<128:=h
   simp[term,h']
 | b::c::l,r,n,h,hl=>by
  cases n with
  |zero=>simp at hl
  |succ n=>
   have hb:128<=b.toNat:=h.1;have ih:=yO (c::l) r n h.2 (by simpa using hl);rw[List.cons_append,term,if_neg (by omega),ih];simp
theorem sH:∀ (l:List UInt8) (k:Nat),l.length=k+1->(xB l↔l.getD k 0≠0)
 |[],k,h=>by simp at h
 |[b],k,h=>by
  obtain rfl:k=0:=by simpa using h.symm
  simp[xB]
 |b::c::l,0,h=>by simp at h
 |b::c::l,k+1,h=>by
  have:=sH (c::l) k (by simpa using h);rw[List.getD_cons_succ];exact this
theorem getD_take{l:List UInt8}{k n:Nat}(h:k<n):(l.take n).getD k 0=l.getD k 0:=by
 rw[zG,zG,List.getElem?_take,if_pos h]
theorem aRd{l:List UInt8}{k:Nat}(h:OD l)(hk:l.length=k+1)(h10:k<10):b_ (mM (jq l % 18446744073709551616))=l↔(jq l<18446744073709551616/\(k=0\/l.getD k 0≠0)):=by
 have h64:jq l % 18446744073709551616<128 ^ (9+1):=by
  have:jq l % 18446744073709551616<18446744073709551616:=Nat.mod_lt _ (by omega);omega
 unfold b_;rw[bAl]
 constructor
 ·intro e;have h1:=aDv 9 _ h64;rw[e] at h1
  refine⟨by omega,?_⟩
  rcases Nat.eq_zero_or_pos k with hk0|hk0
  ·exact .inl hk0
  ·refine .inr ((sH l k hk).1 ?_);rw[<-e];refine aOq 9 _ h64 (fun e0=>?_);rw[e0] at e;rw[<-e] at hk;simp[varint] at hk;omega
 ·rintro⟨h1,h2⟩
  rw[Nat.mod_eq_of_lt h1];refine aDs 9 l h ?_ (by omega);rcases h2 with h2|h2
  ·exact .inl (by omega)
  ·exact .inr ((sH l k hk).2 h2)
theorem aPl{b:List UInt8}{k:Nat}(h:term 10 b=some k):d_ b=if jq (b.take (k+1))<18446744073709551616/\(k=0\/b.getD k 0≠0) then (mM (jq (b.take (k+1))),k+1,0) else (0,0,7):=by
 unfold d_;rw[h]
theorem aHq{n:Int}(h1:-9223372036854775808<=n)(h2:n<9223372036854775808):OD (b_ n):=aNg 9 _ (by have:=Zz h1 h2;omega)
theorem aJz(n:Int)(h1:-9223372036854775808<=n)(h2:n<9223372036854775808):0<(b_ n).length:=by
 have:=aHq h1 h2
 cases h:b_ n with
 |nil=>rw[h] at this;exact this.elim
 |cons b l=>simp
theorem lW{n:Int}(r:List UInt8)(h1:-9223372036854775808<=n)(h2:n<9223372036854775808):d_ (b_ n++r)=(n,(b_ n).length,0):=by
 have hv:=aHq h1 h2;have hl:=aY n;have hp:=aJz n h1 h2;have ht:=yO (b_ n) r 10 hv hl;rw[aPl ht]
 have e:(b_ n++r).take ((b_ n).length-1+1)=b_ n:=by
  rw[show (b_ n).length-1+1=(b_ n).length from by omega,List.take_left]
 have hz:=Zz h1 h2;have hu:jq (b_ n)=zig n:=aDv 9 _ (by omega)
 have hiff:=(aRd hv (k:=(b_ n).length-1) (by omega) (by omega)).1 (by
  rw[hu,Nat.mod_eq_of_lt hz,aNi])
 have eg:(b_ n++r).getD ((b_ n).length-1) 0=(b_ n).getD ((b_ n).length-1) 0:=by
  rw[zG,zG,List.getElem?_append_left (by omega)]
 rw[e,eg,if_pos hiff,hu,aNi];congr 2;omega
theorem bFg{b:List UInt8}{n:Int}{k:Nat}(h:d_ b=(n,k,0)):b.take k=b_ n/\0<k/\k<=10/\k<=b.length /\ -9223372036854775808<=n/\n<9223372036854775808:=by
 unfold d_ at h
 split at h
 ·split at h<;>simp at h
 ·rename_i j ht
  split at h
  ·rename_i hc;simp only[Prod.mk.injEq,and_true] at h;obtain⟨rfl,rfl⟩:=h;obtain⟨h1,h2,h3⟩:=qV _ _ _ ht
   have hl:(b.take (j+1)).length=j+1:=by rw[List.length_take];omega
   have hc2:=hc;rw[<-getD_take (l:=b) (show j<j+1 by omega)] at hc2;have:=(aRd h1 hl (by omega)).2 hc2;rw[Nat.mod_eq_of_lt hc.1] at this;have hr:=xG hc.1
   exact⟨this.symm,by omega,by omega,by omega,hr.1,hr.2⟩
  ·simp at h
theorem bFh(b:List UInt8):(d_ b).2.2=0\/((d_ b).1=0/\(d_ b).2.1=0/\((d_ b).2.2=6\/(d_ b).2.2=7)):=by
 unfold d_
 split
 ·split<;>simp
 ·split<;>simp
theorem qQ(b:List UInt8):(d_ b).2.1<=b.length/\(d_ b).2.1<=10:=by
 unfold d_
 split
 ·split<;>simp
 ·rename_i j ht;obtain⟨_,h2,h3⟩:=qV _ _ _ ht
  split<;>simp<;>omega
theorem iR(b:List UInt8):-9223372036854775808<=(d_ b).1/\(d_ b).1<9223372036854775808:=by
 unfold d_
 split
 ·split<;>simp
 ·split
  ·rename_i h;exact xG h.1
  ·simp
def jG(b:List UInt8):List UInt8×Nat×Int:=
 if (d_ b).2.2≠0 then ([],0,(d_ b).2.2) else if (d_ b).1<0 then ([],0,7) else if (d_ b).1 > (b.length:Int)-(d_ b).2.1 then ([],0,6)
 else ((b.drop (d_ b).2.1).take (d_ b).1.toNat,(d_ b).2.1+(d_ b).1.toNat,0)
theorem vH(l r:List UInt8)(h:l.length<4611686018427387904):jG (bT l++r)=(l,(bT l).length,0):=by
 unfold jG bT;rw[List.append_assoc,lW (n:=(l.length:Int)) (l++r) (by omega) (by omega)]
 have h1:¬((l.length:Int) > ((b_ (l.length:Int)++(l++r)).length:Int)-((b_ (l.length:Int)).length:Nat)):=by
  simp only[List.length_append];omega
 dsimp only;rw[if_neg (by simp),if_neg (by omega),if_neg h1,List.drop_left];simp
theorem Lj{b c:List UInt8}{k:Nat}(h:jG b=(c,k,0)):b.take k=bT c/\k<=b.length:=by
 unfold jG at h
 split at h
 ·rename_i h0;simp only[Prod.mk.injEq] at h;exact absurd h.2.2 h0
 ·rename_i h0
  split at h
  ·simp at h
  ·split at h
   ·simp at h
   ·rename_i h1 h2;simp only[Prod.mk.injEq,and_true] at h;obtain⟨rfl,rfl⟩:=h
    have he:d_ b=((d_ b).1,(d_ b).2.1,0):=by
     have:(d_ b).2.2=0:=by simpa using h0
     rw[<-this]
    obtain⟨h3,h4,h5,h6,_⟩:=bFg he
    have hn:(d_ b).1.toNat<=b.length-(d_ b).2.1:=by omega
    refine⟨?_,by omega⟩
    unfold bT
    have hlen:(((b.drop (d_ b).2.1).take (d_ b).1.toNat).length:Int)=(d_ b).1:=by
     rw[List.length_take,List.length_drop];omega
    rw[hlen,<-h3,List.take_add]
theorem aYy(b:List UInt8):(jG b).2.2=0\/((jG b).1=[]/\(jG b).2.1=0/\((jG b).2.2=6\/(jG b).2.2=7)):=by
 unfold jG
 split
 ·rename_i h;rcases bFh b with h1|⟨_,_,h1⟩
  ·exact absurd h1 h
  ·exact .inr ⟨rfl,rfl,h1⟩
 ·split
  ·simp
  ·split<;>simp
theorem Ll(b:List UInt8):(jG b).2.1<=b.length:=by
 unfold jG;have:=(qQ b).1
 split
 ·simp
 ·split
  ·simp
  ·split
   ·simp
   ·simp only;omega
theorem oO(b:List UInt8):(jG b).1.length<=b.length:=by
 unfold jG
 split
 ·simp
 ·split
  ·simp
  ·split
   ·simp
   ·simp only[List.length_take,List.length_drop];omega
theorem aRe(l m:List UInt8):jq (l++m)=jq l+128 ^ l.length*jq m:=by
 induction l with
 |nil=>simp[jq]
 |cons b l ih=>simp only[List.cons_append,jq,ih,List.length_cons,Nat.pow_succ];rw[Nat.mul_add,<-Nat.mul_assoc,Nat.mul_comm 128 (128 ^ l.length)];omega
theorem bBa(l:List UInt8):jq l<128 ^ l.length:=by
 induction l with
 |nil=>simp[jq]
 |cons b l ih=>simp only[jq,List.length_cons,Nat.pow_succ];omega
theorem aNh{L:List UInt8}{k:Nat}(h:k<L.length):jq (L.take (k+1))=jq (L.take k)+128 ^ k*((L.getD k 0).toNat % 128):=by
 rw[List.take_add_one,zH h,Option.toList_some,aRe,List.length_take,Nat.min_eq_left (by omega),zG,zH h];simp[jq]
theorem nM(n:Nat):IntKind.u64.wrap (n:Int)=((n % 18446744073709551616:Nat):Int):=by
 rw[IntKind.wrap_u64];omega
theorem zL(n:Nat):(BitVec.ofInt 64 (n:Int)).toNat=n % 18446744073709551616:=by
 simp
theorem JM{u a i:Nat}(h:u<2 ^ i):u ||| a*2 ^ i=u+a*2 ^ i:=by
 rw[Nat.or_comm,Nat.add_comm,<-Nat.shiftLeft_eq,Nat.shiftLeft_add_eq_or_of_lt h]
theorem XW(c:UInt8):IntKind.u8.wrap ↑(BitVec.ofInt IntKind.u8.bits (c.toNat:Int) &&& BitVec.ofInt IntKind.u8.bits 127).toNat=((c.toNat % 128:Nat):Int):=by
 have hc:=c.toNat_lt;have:=u8_and (c.toNat:Int) 127 (by omega) (by omega) (by omega) (by omega);refine (show _=bits .and .u8 (c.toNat:Int) 127 from rfl).trans (this.trans ?_);rw[Int.toNat_natCast,show (127:Int).toNat=2 ^ 7-1 from rfl,Nat.and_two_pow_sub_one_eq_mod]
theorem PK{k u:Nat}(c:UInt8)(hk:k<=9)(hu:u<128 ^ k) :
  IntKind.u64.wrap ↑(BitVec.ofInt IntKind.u64.bits (u:Int) ||| BitVec.ofInt IntKind.u64.bits (IntKind.u64.wrap (IntKind.u64.wrap (IntKind.u8.wrap ↑(BitVec.ofInt IntKind.u8.bits (c.toNat:Int) &&& BitVec.ofInt IntKind.u8.bits 127).toNat)*2 ^ min (IntKind.i64.wrap (7*(k:Int))).toNat IntKind.u64.bits))).toNat =
   (((u+128 ^ k*(c.toNat % 128)) % 18446744073709551616:Nat):Int):=by
 have e7:(IntKind.i64.wrap (7*(k:Int))).toNat=7*k:=by clear hu;rw[IntKind.wrap_i64,Int.emod_eq_of_lt (by omega) (by omega)];omega
 have e64:IntKind.u64.bits=64:=rfl;rw[XW,e7,e64,nM (c.toNat % 128),Nat.mod_eq_of_lt (show c.toNat % 128<18446744073709551616 by omega),Nat.min_eq_left (show 7*k<=64 by omega)]
 have ep:((c.toNat % 128:Nat):Int)*2 ^ (7*k)=((c.toNat % 128*2 ^ (7*k):Nat):Int):=by simp
 rw[ep,nM,nM,BitVec.toNat_or,zL,zL]
 have hx:c.toNat % 128<128:=by omega
 generalize c.toNat % 128=x at *
 have hk2:k=0\/k=1\/k=2\/k=3\/k=4\/k=5\/k=6\/k=7\/k=8\/k=9:=by omega
 congr 1
 have key:∀ i a,u<2 ^ i->a*2 ^ i<18446744073709551616-u->x*2 ^ (7*k) % 18446744073709551616=a*2 ^ i->(u+128 ^ k*x) % 18446744073709551616=u+a*2 ^ i ->
   (u % 18446744073709551616 ||| x*2 ^ (7*k) % 18446744073709551616 % 18446744073709551616) % 18446744073709551616=(u+128 ^ k*x) % 18446744073709551616:=by
  intro i a h1 h2 h3 h4;rw[h4,Nat.mod_mod,h3,Nat.mod_eq_of_lt (show u<18446744073709551616 by omega),JM h1,Nat.mod_eq_of_lt (by omega)]
 rcases hk2 with rfl|rfl|rfl|rfl|rfl|rfl|rfl|rfl|rfl|rfl
 ·exact key 0 x (by omega) (by omega) (by omega) (by omega)
 ·exact key 7 x (by omega) (by omega) (by omega) (by omega)
 ·exact key 14 x (by omega) (by omega) (by omega) (by omega)
 ·exact key 21 x (by omega) (by omega) (by omega) (by omega)
 ·exact key 28 x (by omega) (by omega) (by omega) (by omega)
 ·exact key 35 x (by omega) (by omega) (by omega) (by omega)
 ·exact key 42 x (by omega) (by omega) (by omega) (by omega)
 ·exact key 49 x (by omega) (by omega) (by omega) (by omega)
 ·exact key 56 x (by omega) (by omega) (by omega) (by omega)
 ·exact key 63 (x % 2) (by omega) (by omega) (by omega) (by omega)
theorem PN{u:Nat}(hu:u<18446744073709551616):IntKind.i64.wrap ((u:Int).fdiv (2 ^ min (1:Int).toNat IntKind.u64.bits))=((u / 2:Nat):Int):=by
 rw[show (2:Int) ^ min (1:Int).toNat IntKind.u64.bits=2 from rfl,IntKind.wrap_i64]
 have:(u:Int).fdiv 2=((u / 2:Nat):Int):=by rw[Int.fdiv_eq_ediv_of_nonneg _ (by omega)];omega
 rw[this];omega
theorem TB(u:Nat)(hu:u<18446744073709551616):IntKind.u64.wrap ↑(BitVec.ofInt IntKind.u64.bits (u:Int) &&& BitVec.ofInt IntKind.u64.bits 1).toNat=((u % 2:Nat):Int):=by
 have e64:IntKind.u64.bits=64:=rfl;rw[e64,BitVec.toNat_and,zL,show (1:Int)=((1:Nat):Int) from rfl,zL,nM,Nat.mod_eq_of_lt hu,show 1 % 18446744073709551616=2 ^ 1-1 from rfl,Nat.and_two_pow_sub_one_eq_mod];congr 1;omega
theorem aAQ{n:Nat}(hn:n<9223372036854775808):IntKind.i64.wrap ↑(BitVec.ofInt IntKind.i64.bits (if IntKind.i64.signed=true then -1 else IntKind.i64.max) ^^^ BitVec.ofInt IntKind.i64.bits (n:Int)).toNat = -(n:Int)-1:=by
 have e64:IntKind.i64.bits=64:=rfl;have es:(if IntKind.i64.signed=true then -1 else IntKind.i64.max:Int) = -1:=rfl;rw[es,e64,show BitVec.ofInt 64 (-1)=BitVec.allOnes 64 from by decide,BitVec.allOnes_xor,BitVec.toNat_not,zL,IntKind.wrap_i64];omega
namespace Pv
abbrev oq(l:List UInt8):PV:=dn (.sl 1 l.length (p_ l))
def xW(r:Int×Nat×Int):PV:=.lw [.one (.lit (.int .i64 r.1)),.one (.lit (.int .i64 (r.2.1:Int))),.one (.lit (.int .i64 r.2.2))]
def aEL(L:List UInt8)(k:Nat):St:=⟨[(0,none,oq L),(5,none,jo (.int .u64 ((jq (L.take k) % 18446744073709551616:Nat):Int))),(13,none,dn (.sl 1 (min L.length 10) (p_ L))),(14,none,iy ((min L.length 10:Nat):Int)),(15,none,iy k)],[]⟩
def aEK(L:List UInt8)(k:Nat):St:=⟨[(0,none,oq L),(5,none,jo (.int .u64 ((jq (L.take (k+1)) % 18446744073709551616:Nat):Int))),(6,none,iy k),(7,none,jo (o9 (L.getD k 0))),(13,none,dn (.sl 1 (min L.length 10) (p_ L))),(14,none,iy ((min L.length 10:Nat):Int)),(15,none,iy k)],[]⟩
theorem eP{n:Int}(h1:-9223372036854775808<=n)(h2:n<9223372036854775808):IntKind.i64.wrap n=n:=by
 rw[IntKind.wrap_i64,Int.emod_eq_of_lt (by omega) (by omega)];omega
theorem uH:∀ (n:Nat) (L:List UInt8),(∀ i,i<min L.length n->128<=(L.getD i 0).toNat)->term n L=none
 |0,_,_=>rfl
 |_+1,[],_=>rfl
 | n+1,b::l,h=>by
  have h0:=h 0 (by simp);rw[List.getD_cons_zero] at h0
  rw[term,if_neg (by omega),uH n l (fun i hi=>by
   have:=h (i+1) (by simp;omega)
   rwa [List.getD_cons_succ] at this)]
  rfl
theorem uG:∀ (n:Nat) (L:List UInt8) (k:Nat),(∀ i,i<k->128<=(L.getD i 0).toNat)->k<L.length->k<n->(L.getD k 0).toNat<128->term n L=some k
 |0,_,_,_,_,h,_=>by omega
 |_+1,[],_,_,h,_,_=>by simp at h
 |n+1,b::l,0,_,_,_,h=>by rw[List.getD_cons_zero] at h;rw[term,if_pos h]
 | n+1,b::l,k+1,h,h1,h2,h3=>by
  have h0:=h 0 (by omega);rw[List.getD_cons_zero] at h0;rw[List.getD_cons_succ] at h3
  rw[term,if_neg (by omega),uG n l k (fun i hi=>by
   have:=h (i+1) (by omega)
   rwa [List.getD_cons_succ] at this) (by simpa using h1) (by omega) h3]
  rfl
theorem aIr(L:List UInt8)(hL:L.length<4611686018427387904):gQ Tryz.prog a_ 138 true [oq L] (xW (d_ L)):=by
 have M:=aCY;refine bM Tryz.func138 rfl rfl bU (fun A hS hn hI=>?_);refine aB M hI hn (by rfl) (by kernel_rfl) ?_ ?_
 ·simp
 refine aB M hI hn (by rfl) (by kernel_rfl) ?_ ?_
 ·simp
 refine aP ?_;refine aB M hI hn (by rfl) (by kernel_rfl) ?_ ?_
 ·simp;omega
 refine bP ?_;refine aI (s':=aEL L 0) (fun a w hg=>(hg.reset (kT:=[0,5,13,14,15]) (kO:=[]) (by rfl) (by simp)).same ?_ ?_) ?_
 ·refine .cons rfl (.cons rfl (.cons ?_ (.cons ?_ (.cons rfl .nil))))
  ·have e:(min (L.length:Int) 10-0).toNat=min L.length 10:=by omega
   exact congrArg dn (by rw[e];congr 1;funext i;simp)
  ·exact congrArg iy (by omega)
 ·exact .nil
 refine iY (min L.length 10) (fun k s=>s=aEL L k/\∀ i,i<k->128<=(L.getD i 0).toNat) 0 ⟨rfl,fun i hi=>by omega⟩ (by omega) (fun k s hJ hk=>?_);obtain⟨rfl,hbig⟩:=hJ;refine aB M hI hn (by rfl) (by kernel_rfl) ?_ ?_
 ·simp
 refine aP ?_;refine aH (by rfl) (fun hc=>?_) (fun hc=>?_)
 ·have hk2:k<L.length/\k<10:=by
   have:(k:Int)<((min L.length 10:Nat):Int):=by simpa using hc
   omega
  refine aO ?_;change ja _ _ _ _ _;refine aP ?_;refine bP ?_;refine aB M hI hn (by rfl) (by kernel_rfl) ?_ ?_
  ·simp;omega
  refine aB M hI hn (by rfl) (by kernel_rfl) ?_ ?_
  ·simp;rw[eP (by omega) (by omega)];omega
  refine aI (s':=aEK L k) (fun a w hg=>(hg.reset (kT:=[0,5,6,7,13,14,15]) (kO:=[]) (by rfl) (by simp)).same ?_ ?_) ?_
  ·refine .cons rfl (.cons ?_ (.cons rfl (.cons rfl (.cons rfl (.cons rfl (.cons rfl .nil))))));refine congrArg (fun n=>jo (.int .u64 n)) ?_;have hu:=bBa (L.take k);rw[List.length_take,Nat.min_eq_left (by omega)] at hu;have h9:(128:Nat) ^ k<=128 ^ 9:=Nat.pow_le_pow_right (by omega) (by omega);rw[Nat.mod_eq_of_lt (show jq (L.take k)<18446744073709551616 by omega),Int.toNat_natCast];refine (PK _ (by omega) hu).trans ?_;rw[aNh hk2.1]
  ·exact .nil
  refine aP ?_;refine aB M hI hn (by rfl) (by kernel_rfl) ?_ ?_
  ·simp
  refine aH (by rfl) (fun hc=>?_) (fun hc=>?_)
  ·refine iM ?_;change ja _ _ _ _ _;refine aQ M hI hn (by rfl) (by kernel_rfl) ?_ ?_
   ·simp
   intro a w hg
   refine⟨k+1,_,by omega,by omega,⟨rfl,?_⟩,(hg.reset (kT:=[0,5,13,14,15]) (kO:=[]) (by rfl) (by simp)).same ?_ ?_⟩
   ·intro i hi;rcases Nat.lt_or_eq_of_le (Nat.le_of_lt_succ hi) with h|rfl
    ·exact hbig i h
    ·have:((L.getD i 0).toNat:Int)>=128:=by simpa using hc
     omega
   ·exact .cons rfl (.cons rfl (.cons rfl (.cons rfl (.cons (by rw[gU k (by omega)]) .nil))))
   ·exact .nil
  ·have hlt:(L.getD k 0).toNat<128:=by
    have:¬((L.getD k 0).toNat:Int)>=128:=by simpa using hc
    omega
   have ht:=uG 10 L k hbig hk2.1 hk2.2 hlt;have hgs:=aPl ht
   have hlast:jq (L.take (k+1))<18446744073709551616↔(k=9->(L.getD k 0).toNat<=1):=by
    have hu:=bBa (L.take k);rw[List.length_take,Nat.min_eq_left (by omega)] at hu;rw[aNh hk2.1,Nat.mod_eq_of_lt hlt];rcases Nat.lt_or_ge k 9 with h9|h9
    ·have h8:(128:Nat) ^ k<=128 ^ 8:=Nat.pow_le_pow_right (by omega) (by omega);have:128 ^ k*(L.getD k 0).toNat<=128 ^ 8*127:=Nat.mul_le_mul h8 (by omega)
     constructor<;>intro<;>omega
    ·obtain rfl:k=9:=by omega
     constructor<;>intro<;>omega
   have hz:(L.getD k 0=0)↔(L.getD k 0).toNat=0:=by rw[<-UInt8.toNat_inj];rfl
   refine aO ?_;change ja _ _ _ _ _;refine aP ?_;refine aB M hI hn (by rfl) (by kernel_rfl) ?_ ?_
   ·simp;generalize (L[k]?.getD 0).toNat=c;omega
   refine aH (by rfl) (fun hc=>?_) (fun hc=>?_)
   ·have hneg:¬(jq (L.take (k+1))<18446744073709551616/\(k=0\/L.getD k 0≠0)):=by
     rw[hlast,ne_eq,hz];simp only[Bool.cond_eq_ite,Bool.if_true_left,Bool.and_eq_true,Bool.or_eq_true,decide_eq_true_eq,beq_iff_eq,Bool.if_false_right] at hc;omega
    refine aB M hI hn (by rfl) (by kernel_rfl) ?_ ?_
    ·simp
    refine aK (fun a w hg=>⟨.inr rfl,_,?_,hg⟩);refine aC (by rfl) (by simp) (by rfl) (by rfl) ?_;rw[hgs,if_neg hneg];rfl
   ·have hpos:jq (L.take (k+1))<18446744073709551616/\(k=0\/L.getD k 0≠0):=by
     rw[hlast,ne_eq,hz];simp only[Bool.cond_eq_ite,Bool.if_true_left,Bool.and_eq_false_iff,Bool.or_eq_false_iff,decide_eq_false_iff_not,Bool.if_false_right] at hc;simp only[Bool.and_eq_true,decide_eq_true_eq,beq_iff_eq] at hc;omega
    have hm:=Nat.mod_eq_of_lt hpos.1;have hs1:=PN hpos.1;have ha1:=TB _ hpos.1;refine aO ?_;change ja _ _ _ _ _;refine aB M hI hn (by rfl) (by kernel_rfl) ?_ ?_
    ·simp
    refine aP ?_;refine aB M hI hn (by rfl) (by kernel_rfl) ?_ ?_
    ·simp
    refine aH (by rfl) (fun hc=>?_) (fun hc=>?_)
    ·refine aQ M hI hn (by rfl) (by kernel_rfl) ?_ ?_
     ·simp
     change ja _ _ _ _ _;refine aB M hI hn (by rfl) (by kernel_rfl) ?_ ?_
     ·simp
     refine aK (fun a w hg=>⟨.inr rfl,_,?_,hg⟩);refine aC (by rfl) (by simp) (by rfl) (by rfl) ?_;rw[hm,ha1] at hc;have hx:=aAQ (n:=jq (L.take (k+1)) / 2) (by omega)
     have hodd:jq (L.take (k+1)) % 2=1:=by
      have:((jq (L.take (k+1)) % 2:Nat):Int)=1:=by simpa using hc
      omega
     rw[hgs,if_pos hpos,hm,hs1,hx,gU k (by omega)];unfold mM xW;rw[if_neg (by omega)]
    ·refine aO ?_;change ja _ _ _ _ _;refine aB M hI hn (by rfl) (by kernel_rfl) ?_ ?_
     ·simp
     refine aK (fun a w hg=>⟨.inr rfl,_,?_,hg⟩);refine aC (by rfl) (by simp) (by rfl) (by rfl) ?_;rw[hm,ha1] at hc
     have hev:jq (L.take (k+1)) % 2=0:=by
      have:¬((jq (L.take (k+1)) % 2:Nat):Int)=1:=by simpa using hc
      omega
     rw[hgs,if_pos hpos,hm,hs1,gU k (by omega)];unfold mM xW;rw[if_pos hev]
 ·have hkk:k=min L.length 10:=by
   have:¬(k:Int)<((min L.length 10:Nat):Int):=by simpa using hc
   omega
  have ht:=uH 10 L (fun i hi=>hbig i (by omega));refine iM ?_;change ja _ _ _ _ _;refine aP ?_;refine aB M hI hn (by rfl) (by kernel_rfl) ?_ ?_
  ·simp
  refine aH (by rfl) (fun hc=>?_) (fun hc=>?_)
  ·refine aB M hI hn (by rfl) (by kernel_rfl) ?_ ?_
   ·simp
   refine aK (fun a w hg=>⟨.inr rfl,_,?_,hg⟩);refine aC (by rfl) (by simp) (by rfl) (by rfl) ?_
   have:(L.length:Int)<10:=by simpa using hc
   unfold d_;rw[ht];dsimp only;rw[if_pos (by omega)];rfl
  ·refine aO ?_;change ja _ _ _ _ _;refine aB M hI hn (by rfl) (by kernel_rfl) ?_ ?_
   ·simp
   refine aK (fun a w hg=>⟨.inr rfl,_,?_,hg⟩);refine aC (by rfl) (by simp) (by rfl) (by rfl) ?_
   have:¬(L.length:Int)<10:=by simpa using hc
   unfold d_;rw[ht];dsimp only;rw[if_neg (by omega)];rfl
theorem bHk{len:Nat}{f:Nat->List PC}(h:Fj len f):∀ i,i<len->f i=p_ (rowB len f) i:=fun i hi=>by
 unfold p_ rowB;rw[kS len i _ hi];exact aPg (h i hi)
theorem PY{C:Ctx}{len:Nat}{f:Nat->List PC}{x:Value}(h:Fj len f)(hv:RV C (dn (.sl 1 len f)) x):RV C (oq (rowB len f)) x:=by
 refine .w (.one ?_);rw[fP];exact (hv.inv).zt (bHk h)
theorem Ip{C:Ctx}{x:Value}(hv:RV C (dn (.lit (.slice none 0 0))) x):RV C (oq []) x:=by
 have:=hv.dw;subst this;exact .w (.one (.sl (Reads.nil _ _) (fun g hg=>by simp[Value.ownBlock] at hg) (fun i hi=>by simp at hi)))
def Ez:PV->Option (Prop×List UInt8)
 |.w (.one (.sl n len f))=>(match Nat.beq n 1 with
  |true=>some (Fj len f,rowB len f)
  |false=>none)
 |.w (.one (.lit (.slice none 0 0)))=>some (True,[])
 |_=>none
theorem wJ{C:Ctx}{v:PV}{p:Prop}{l:List UInt8}{x:Value}(h:Ez v=some (p,l))(hp:p)(hv:RV C v x):RV C (oq l) x:=by
 unfold Ez at h
 split at h
 ·rename_i n len f
  cases hb:Nat.beq n 1<;>rw[hb] at h<;>cases h
  obtain rfl:=gy hb
  exact PY hp hv
 ·cases h;exact Ip hv
 ·cases h
def UR(pre:List UInt8->Prop)(res:List UInt8->PV):Spec:=bD true fun xs=>match xs with
 |[v]=>(match Ez v with
  |some (p,l)=>some (p/\pre l,res l)
  |none=>none)
 |_=>none
theorem rV{f:Nat}{pre:List UInt8->Prop}{res:List UInt8->PV}(hent:∀ args w,(callFunc f args).run Tryz.prog w=.ok (.enter f args) w)(h:∀ l,pre l->gQ Tryz.prog a_ f true [oq l] (res l)):aj Tryz.prog a_ f (UR pre res):=by
 refine bC hent (fun xs p r hg hp=>?_)
 split at hg
 ·rename_i v
  cases hq:Ez v with
  |none=>rw[hq] at hg;cases hg
  | some q=>
   obtain⟨p0,l⟩:=q;rw[hq] at hg;cases hg
   exact (h l hp.2).args fun C vs hv=>by
    match vs,hv with
    |[x],⟨h1,_⟩=>exact⟨wJ hq hp.1 h1,trivial⟩
 ·cases hg
def jH(l:List UInt8):Prop:=l.length<4611686018427387904
def Ak(l:List UInt8):Int×Nat×Int:=((d_ l).1,(d_ l).2.1,if (d_ l).2.2≠0 then (d_ l).2.2 else if (d_ l).1<0 then 7 else if (d_ l).1 > (l.length:Int)-(d_ l).2.1 then 6 else 0)
def EQ(r:List UInt8×Nat×Int):PV:=.lw [.one (.lit (.string (strOf r.1))),.one (.lit (.int .i64 (r.2.1:Int))),.one (.lit (.int .i64 r.2.2))]
theorem nR{L:List UInt8}{k m:Nat}(h:k+m<=L.length):rowB m (fun i=>p_ L (k+i))=(L.drop k).take m:=by
 apply List.ext_getElem
 ·rw[fP,List.length_take,List.length_drop];omega
 ·intro i h1 h2;rw[fP] at h1;simp only[rowB,List.getElem_map,List.getElem_range,aJj,List.getElem_take,List.getElem_drop];rw[zG,zH (by omega)];rfl
theorem Nv(L:List UInt8)(k:Nat):(fun i=>p_ L (k+i))=p_ (L.drop k):=by
 funext i;unfold p_;rw[zG,zG,List.getElem?_drop]
@[simp] theorem UG(n k:Nat)(L:List UInt8):Fj n (fun i=>p_ L (k+i)):=fun _ _=>aIq L _
def XC:List (Nat×Spec):=(138,UR jH fun l=>xW (d_ l))::KZ
theorem NR:∀ p∈XC,aj Tryz.prog a_ p.1 p.2:=by
 intro p hp;rcases List.mem_cons.1 hp with rfl|hp
 ·exact rV (aF Tryz.func138 (by kernel_rfl) rfl) aIr
 ·exact bEm p hp
theorem aOY:lm Tryz.prog a_ (find XC):=⟨bV NR,fK⟩
theorem bHc(L:List UInt8)(hL:jH L):gQ Tryz.prog a_ 168 true [oq L,iy 1] (xW (Ak L)):=by
 have M:=aOY;have hle:=qQ L;have hrg:=iR L;have hL':L.length<4611686018427387904:=hL;refine bM Tryz.func168 rfl rfl bU (fun A hS hn hI=>?_);refine aB M hI hn (by rfl) (by kernel_rfl) ?_ ?_
 ·simp
 refine aB M hI hn (by rfl) (by kernel_rfl) ?_ ?_
 ·simp[hL]
 refine aI (s':=⟨[(0,none,oq L),(1,none,iy 1),(4,none,iy (d_ L).1),(5,none,iy ((d_ L).2.1:Int)),(6,none,iy (d_ L).2.2)],[]⟩) (fun a w hg=>(hg.reset (kT:=[0,1,4,5,6]) (kO:=[]) (by rfl) (by simp)).same ?_ ?_) ?_
 ·rw[fQ];exact .cons rfl (.cons rfl (.cons rfl (.cons rfl (.cons rfl .nil))))
 ·exact .nil
 unfold Ak;generalize d_ L=g at *;obtain⟨n,k,e⟩:=g;dsimp only at *;refine aP ?_;refine bP ?_;refine aB M hI hn (by rfl) (by kernel_rfl) ?_ ?_
 ·simp
 refine aH (by rfl) (fun hc=>?_) (fun hc=>?_)
 ·have he:e≠0:=by simpa using hc
  refine aO ?_;change ja _ _ _ _ _;refine aB M hI hn (by rfl) (by kernel_rfl) ?_ ?_
  ·simp
  refine aK (fun a w hg=>⟨.inr rfl,_,?_,hg⟩);refine aC (by rfl) (by simp) (by rfl) (by rfl) ?_;unfold xW;rw[if_pos he]
 ·have he:e=0:=by simpa using hc
  subst he;refine aB M hI hn (by rfl) (by kernel_rfl) ?_ ?_
  ·simp
  refine aH (by rfl) (fun hc=>?_) (fun hc=>?_)
  ·have hn0:n<0:=by simpa using hc
   refine aQ M hI hn (by rfl) (by kernel_rfl) ?_ ?_
   ·simp
   change ja _ _ _ _ _;refine aB M hI hn (by rfl) (by kernel_rfl) ?_ ?_
   ·simp
   refine aK (fun a w hg=>⟨.inr rfl,_,?_,hg⟩);refine aC (by rfl) (by simp) (by rfl) (by rfl) ?_;unfold xW;rw[if_neg (by simp),if_pos hn0]
  ·have hn0:¬n<0:=by simpa using hc
   refine aB M hI hn (by rfl) (by kernel_rfl) ?_ ?_
   ·simp
   refine aH (by rfl) (fun hc=>?_) (fun hc=>?_)
   ·have hn1:n > (L.length:Int)-k:=by
     have e1:IntKind.i64.wrap ((L.length:Int)-k)=(L.length:Int)-k:=eP (by omega) (by omega);rw[e1,Int.tdiv_one,e1] at hc
     simpa using hc
    refine aQ M hI hn (by rfl) (by kernel_rfl) ?_ ?_
    ·simp
    change ja _ _ _ _ _;refine aB M hI hn (by rfl) (by kernel_rfl) ?_ ?_
    ·simp
    refine aK (fun a w hg=>⟨.inr rfl,_,?_,hg⟩);refine aC (by rfl) (by simp) (by rfl) (by rfl) ?_;unfold xW;rw[if_neg (by simp),if_neg hn0,if_pos hn1]
   ·have hn1:¬n > (L.length:Int)-k:=by
     have e1:IntKind.i64.wrap ((L.length:Int)-k)=(L.length:Int)-k:=eP (by omega) (by omega);rw[e1,Int.tdiv_one,e1] at hc
     simpa using hc
    refine aO ?_;change ja _ _ _ _ _;refine aB M hI hn (by rfl) (by kernel_rfl) ?_ ?_
    ·simp
    refine aK (fun a w hg=>⟨.inr rfl,_,?_,hg⟩);refine aC (by rfl) (by simp) (by rfl) (by rfl) ?_;unfold xW;rw[if_neg (by simp),if_neg hn0,if_neg hn1]
def bBr:Spec:=bD true fun xs=>match xs with
 |[v,.w (.one (.lit (.int .i64 1)))]=>(match Ez v with
  |some (p,l)=>some (p/\jH l,xW (Ak l))
  |none=>none)
 |_=>none
theorem NZ:aj Tryz.prog a_ 168 bBr:=by
 refine bC (aF Tryz.func168 (by kernel_rfl) rfl) (fun xs p r hg hp=>?_)
 split at hg
 ·rename_i v
  cases hq:Ez v with
  |none=>rw[hq] at hg;cases hg
  | some q=>
   obtain⟨p0,l⟩:=q;rw[hq] at hg;cases hg
   exact (bHc l hp.2).args fun C vs hv=>by
    match vs,hv with
    |[x,y],⟨h1,h2,_⟩=>exact⟨wJ hq hp.1 h1,h2,trivial⟩
 ·cases hg
def XB:List (Nat×Spec):=(168,bBr)::XC
theorem NQ:∀ p∈XB,aj Tryz.prog a_ p.1 p.2:=by
 intro p hp;rcases List.mem_cons.1 hp with rfl|hp
 ·exact NZ
 ·exact NR p hp
theorem XE:lm Tryz.prog a_ (find XB):=⟨bV NQ,fK⟩
theorem aQk(L:List UInt8):(Ak L).2.2=0->(d_ L).2.2=0/\0<=(d_ L).1/\(d_ L).1<=(L.length:Int)-(d_ L).2.1:=by
 unfold Ak;dsimp only
 split
 ·rename_i h;intro h2;exact absurd h2 h
 ·rename_i h
  split
  ·intro h2;cases h2
  ·split
   ·intro h2;cases h2
   ·intro _;exact⟨by simpa using h,by omega,by omega⟩
theorem aPm(L:List UInt8):jG L=if (Ak L).2.2≠0 then ([],0,(Ak L).2.2) else ((L.drop (d_ L).2.1).take (d_ L).1.toNat,(d_ L).2.1+(d_ L).1.toNat,0):=by
 unfold jG Ak;dsimp only
 by_cases h:(d_ L).2.2=0
 ·by_cases h1:(d_ L).1<0
  ·simp[h,h1]
  ·by_cases h2:(d_ L).1 > (L.length:Int)-(d_ L).2.1
   ·have e:(if (d_ L).2.2≠0 then (d_ L).2.2 else if (d_ L).1<0 then (7:Int) else if (d_ L).1 > (L.length:Int)-(d_ L).2.1 then 6 else 0)=6:=by rw[if_neg (by simp[h]),if_neg h1,if_pos h2]
    rw[e,if_neg (by simp[h]),if_neg h1,if_pos h2,if_pos (by decide)]
   ·have e:(if (d_ L).2.2≠0 then (d_ L).2.2 else if (d_ L).1<0 then (7:Int) else if (d_ L).1 > (L.length:Int)-(d_ L).2.1 then 6 else 0)=0:=by rw[if_neg (by simp[h]),if_neg h1,if_neg h2]
    rw[e,if_neg (by simp[h]),if_neg h1,if_neg h2,if_neg (by decide)]
 ·rw[if_pos h,if_pos h,if_pos h]
theorem aBz(L:List UInt8)(hL:jH L):gQ Tryz.prog a_ 139 true [oq L] (EQ (jG L)):=by
 have M:=XE;have hle:=qQ L;have hrg:=iR L;have hL':L.length<4611686018427387904:=hL;refine bM Tryz.func139 rfl rfl bU (fun A hS hn hI=>?_);refine aB M hI hn (by rfl) (by kernel_rfl) ?_ ?_
 ·simp
 refine aB M hI hn (by rfl) (by kernel_rfl) ?_ ?_
 ·simp[hL]
 refine aI (s':=⟨[(0,none,oq L),(5,none,iy (d_ L).1),(6,none,iy ((d_ L).2.1:Int)),(7,none,iy (Ak L).2.2)],[]⟩) (fun a w hg=>(hg.reset (kT:=[0,5,6,7]) (kO:=[]) (by rfl) (by simp)).same ?_ ?_) ?_
 ·rw[fQ];exact .cons rfl (.cons rfl (.cons rfl (.cons rfl .nil)))
 ·exact .nil
 have hcc:=aQk L;rw[aPm L];generalize (Ak L).2.2=e at *;generalize d_ L=g at *;obtain⟨n,k,e'⟩:=g;dsimp only at *;refine aP ?_;refine aB M hI hn (by rfl) (by kernel_rfl) ?_ ?_
 ·simp
 refine aH (by rfl) (fun hc=>?_) (fun hc=>?_)
 ·have he:e≠0:=by simpa using hc
  refine aB M hI hn (by rfl) (by kernel_rfl) ?_ ?_
  ·simp
  refine aK (fun a w hg=>⟨.inr rfl,_,?_,hg⟩);refine aC (by rfl) (by simp) (by rfl) (by rfl) ?_;rw[if_pos he];rfl
 ·have he:e=0:=by simpa using hc
  subst he;obtain⟨_,hn0,hn1⟩:=hcc rfl
  have e1:IntKind.i64.wrap ((k:Int)+n)=((k+n.toNat:Nat):Int):=by rw[eP (by omega) (by omega)];omega
  refine aO ?_;change ja _ _ _ _ _;refine aB M hI hn (by rfl) (by kernel_rfl) ?_ ?_
  ·simp;rw[e1];omega
  refine aK (fun a w hg=>⟨.inr rfl,_,?_,hg⟩);refine aC (by rfl) (by simp) (by rfl) (by rfl) ?_;rw[if_neg (by simp),e1]
  have e2:(((k+n.toNat:Nat):Int)-(k:Int)).toNat=n.toNat:=by omega
  unfold EQ;rw[e2,Int.toNat_natCast,nR (by omega)];rfl
def jg(L:List UInt8):Nat:=match term 10 L with
 |none=>0
 |some k=>k+1
def aDA(L:List UInt8)(k:Nat):St:=⟨[(0,none,oq L),(3,none,iy k)],[]⟩
theorem aSa(L:List UInt8)(_:jH L):gQ Tryz.prog a_ 181 true [oq L] (iy (jg L)):=by
 have M:=XE;refine bM Tryz.func181 rfl rfl bU (fun A hS hn hI=>?_);refine aB M hI hn (by rfl) (by kernel_rfl) ?_ ?_
 ·simp
 refine aP ?_;refine aB M hI hn (by rfl) (by kernel_rfl) ?_ ?_
 ·simp
 refine aI (s':=aDA L 0) (fun a w hg=>(hg.reset (kT:=[0,3]) (kO:=[]) (by rfl) (by simp)).same ?_ ?_) ?_
 ·exact .cons rfl (.cons rfl .nil)
 ·exact .nil
 refine bP ?_;refine iY (min L.length 10) (fun k s=>s=aDA L k/\∀ i,i<k->128<=(L.getD i 0).toNat) 0 ⟨rfl,fun i hi=>by omega⟩ (by omega) (fun k s hJ hk=>?_);obtain⟨rfl,hbig⟩:=hJ;refine aP ?_;refine aB M hI hn (by rfl) (by kernel_rfl) ?_ ?_
 ·simp
 refine aH (by rfl) (fun hc=>?_) (fun hc=>?_)
 ·have hk2:k<L.length/\k<10:=by
   have h1:(k:Int)<(L.length:Int)/\(k:Int)<10:=by simpa using hc
   omega
  refine aO ?_;change ja _ _ _ _ _;refine aP ?_;refine bP ?_;refine aB M hI hn (by rfl) (by kernel_rfl) ?_ ?_
  ·simp;omega
  refine aH (by rfl) (fun hc=>?_) (fun hc=>?_)
  ·have hlt:(L.getD k 0).toNat<128:=by
    have:((L.getD k 0).toNat:Int)<128:=by simpa using hc
    omega
   have ht:=uG 10 L k hbig hk2.1 hk2.2 hlt;refine aB M hI hn (by rfl) (by kernel_rfl) ?_ ?_
   ·simp
   refine aK (fun a w hg=>⟨.inr rfl,_,?_,hg⟩);refine aC (by rfl) (by simp) (by rfl) (by rfl) ?_;unfold jg;rw[ht,gU k (by omega)]
  ·have hge:128<=(L.getD k 0).toNat:=by
    have:¬((L.getD k 0).toNat:Int)<128:=by simpa using hc
    omega
   refine aO ?_;change ja _ _ _ _ _;refine aQ M hI hn (by rfl) (by kernel_rfl) ?_ ?_
   ·simp
   intro a w hg
   refine⟨k+1,_,by omega,by omega,⟨rfl,fun i hi=>?_⟩,(hg.reset (kT:=[0,3]) (kO:=[]) (by rfl) (by simp)).same ?_ ?_⟩
   ·rcases Nat.lt_or_eq_of_le (Nat.le_of_lt_succ hi) with h|rfl
    ·exact hbig i h
    ·exact hge
   ·exact .cons rfl (.cons (by rw[gU k (by omega)]) .nil)
   ·exact .nil
 ·have hkk:k=min L.length 10:=by
   have h1:¬((k:Int)<(L.length:Int)/\(k:Int)<10):=by simpa using hc
   omega
  have ht:=uH 10 L (fun i hi=>hbig i (by omega));refine iM ?_;change ja _ _ _ _ _;refine aB M hI hn (by rfl) (by kernel_rfl) ?_ ?_
  ·simp
  refine aK (fun a w hg=>⟨.inr rfl,_,?_,hg⟩);refine aC (by rfl) (by simp) (by rfl) (by rfl) ?_;unfold jg;rw[ht];rfl
def aBJ(X Y:List UInt8)(k:Nat):St:=⟨[(0,none,oq X),(1,none,oq Y),(5,none,iy k)],[]⟩
theorem aZk{X Y:List UInt8}(hl:X.length=Y.length)(h:∀ i,i<X.length->X.getD i 0=Y.getD i 0):X=Y:=by
 apply List.ext_getElem hl;intro i h1 h2;have:=h i h1;rw[zG,zG,zH h1,zH h2] at this;exact this
theorem bCd(X Y:List UInt8)(hX:jH X):gQ Tryz.prog a_ 182 true [oq X,oq Y] (qi (X==Y)):=by
 have M:=XE;have hX':X.length<4611686018427387904:=hX;refine bM Tryz.func182 rfl rfl bU (fun A hS hn hI=>?_);refine aB M hI hn (by rfl) (by kernel_rfl) ?_ ?_
 ·simp
 refine aP ?_;refine aB M hI hn (by rfl) (by kernel_rfl) ?_ ?_
 ·simp
 refine aH (by rfl) (fun hc=>?_) (fun hc=>?_)
 ·have hne:X≠Y:=by
   have:¬(X.length:Int)=Y.length:=by simpa using hc
   intro e;subst e;exact this rfl
  refine aB M hI hn (by rfl) (by kernel_rfl) ?_ ?_
  ·simp
  refine aK (fun a w hg=>⟨.inr rfl,_,?_,hg⟩);refine aC (by rfl) (by simp) (by rfl) (by rfl) ?_;rw[beq_eq_false_iff_ne.2 hne]
 ·have hl:X.length=Y.length:=by
   have:(X.length:Int)=Y.length:=by simpa using hc
   omega
  refine aO ?_;change ja _ _ _ _ _;refine aP ?_;refine aB M hI hn (by rfl) (by kernel_rfl) ?_ ?_
  ·simp
  refine aI (s':=aBJ X Y 0) (fun a w hg=>(hg.reset (kT:=[0,1,5]) (kO:=[]) (by rfl) (by simp)).same ?_ ?_) ?_
  ·exact .cons rfl (.cons rfl (.cons rfl .nil))
  ·exact .nil
  refine bP ?_;refine iY X.length (fun k s=>s=aBJ X Y k/\∀ i,i<k->X.getD i 0=Y.getD i 0) 0 ⟨rfl,fun i hi=>by omega⟩ (by omega) (fun k s hJ hk=>?_);obtain⟨rfl,heq⟩:=hJ;refine aP ?_;refine aB M hI hn (by rfl) (by kernel_rfl) ?_ ?_
  ·simp
  refine aH (by rfl) (fun hc=>?_) (fun hc=>?_)
  ·have hk2:k<X.length:=by simpa using hc
   refine aO ?_;change ja _ _ _ _ _;refine aP ?_;refine bP ?_;refine aB M hI hn (by rfl) (by kernel_rfl) ?_ ?_
   ·simp;omega
   refine aH (by rfl) (fun hc=>?_) (fun hc=>?_)
   ·have hne:X≠Y:=by
     intro e;subst e;simp at hc
    refine aB M hI hn (by rfl) (by kernel_rfl) ?_ ?_
    ·simp
    refine aK (fun a w hg=>⟨.inr rfl,_,?_,hg⟩);refine aC (by rfl) (by simp) (by rfl) (by rfl) ?_;rw[beq_eq_false_iff_ne.2 hne]
   ·have he:X.getD k 0=Y.getD k 0:=by
     have:((X.getD k 0).toNat:Int)=(Y.getD k 0).toNat:=by simpa using hc
     exact UInt8.toNat_inj.1 (by omega)
    refine aO ?_;change ja _ _ _ _ _;refine aQ M hI hn (by rfl) (by kernel_rfl) ?_ ?_
    ·simp
    intro a w hg
    refine⟨k+1,_,by omega,by omega,⟨rfl,fun i hi=>?_⟩,(hg.reset (kT:=[0,1,5]) (kO:=[]) (by rfl) (by simp)).same ?_ ?_⟩
    ·rcases Nat.lt_or_eq_of_le (Nat.le_of_lt_succ hi) with h|rfl
     ·exact heq i h
     ·exact he
    ·exact .cons rfl (.cons rfl (.cons (by rw[gU k (by omega)]) .nil))
    ·exact .nil
  ·have hkk:k=X.length:=by
    have:¬k<X.length:=by simpa using hc
    omega
   have he:=aZk hl (fun i hi=>heq i (by omega));refine iM ?_;change ja _ _ _ _ _;refine aB M hI hn (by rfl) (by kernel_rfl) ?_ ?_
   ·simp
   refine aK (fun a w hg=>⟨.inr rfl,_,?_,hg⟩);refine aC (by rfl) (by simp) (by rfl) (by rfl) ?_;subst he;simp
def I4:Spec:=bD true fun xs=>match xs with
 |[v,u]=>(match Ez v,Ez u with
  |some (p,l),some (q,m)=>some (p/\q/\jH l,qi (l==m))
  |_,_=>none)
 |_=>none
theorem Ik:aj Tryz.prog a_ 182 I4:=by
 refine bC (aF Tryz.func182 (by kernel_rfl) rfl) (fun xs p r hg hp=>?_)
 split at hg
 ·rename_i v u
  cases hq:Ez v<;>cases hq2:Ez u<;>simp only[hq,hq2] at hg<;>try (cases hg;done)
  cases hg
  exact (bCd _ _ hp.2.2).args fun C vs hv=>by
   match vs,hv with
   |[x,y],⟨h1,h2,_⟩=>exact⟨wJ hq hp.1 h1,wJ hq2 hp.2.1 h2,trivial⟩
 ·cases hg
def SC:List (Nat×Spec):=(181,UR jH fun l=>iy (jg l))::(182,I4)::XB
theorem NP:∀ p∈SC,aj Tryz.prog a_ p.1 p.2:=by
 intro p hp;simp only[SC,List.mem_cons] at hp;rcases hp with rfl|rfl|hp
 ·exact rV (aF Tryz.func181 (by kernel_rfl) rfl) aSa
 ·exact Ik
 ·exact NQ p hp
theorem aOX:lm Tryz.prog a_ (find SC):=⟨bV NP,fK⟩
theorem Qp(L:List UInt8):jg L<=L.length/\jg L<=10:=by
 unfold jg
 cases h:term 10 L with
 |none=>simp
 |some k=>obtain⟨_,h1,h2⟩:=qV _ _ _ h;dsimp only;omega
theorem aVw(L:List UInt8):d_ L=if jg L=0 then (0,0,if L.length<10 then 6 else 7) else if b_ (mM (jq (L.take (jg L)) % 18446744073709551616))=L.take (jg L) then (mM (jq (L.take (jg L)) % 18446744073709551616),jg L,0) else (0,0,7):=by
 unfold d_ jg
 cases h:term 10 L with
 |none=>rfl
 |some k=>
  obtain⟨h1,h2,h3⟩:=qV _ _ _ h;dsimp only;rw[if_neg (show ¬k+1=0 by omega)]
  have hl:(L.take (k+1)).length=k+1:=by rw[List.length_take];omega
  have hiff:=aRd h1 hl h2;rw[getD_take (by omega)] at hiff
  by_cases hc:jq (L.take (k+1))<18446744073709551616/\(k=0\/L.getD k 0≠0)
  ·rw[if_pos hc,if_pos (hiff.2 hc),Nat.mod_eq_of_lt hc.1]
  ·rw[if_neg hc,if_neg (fun e=>hc (hiff.1 e))]
theorem Gx(u c:Nat):IntKind.u64.wrap (IntKind.u64.wrap (128*(u:Int))+IntKind.u64.wrap ((c:Int).tmod 128))=(((c % 128+128*u) % 18446744073709551616:Nat):Int):=by
 have e:(c:Int).tmod 128=((c % 128:Nat):Int):=by rw[Int.tmod_eq_emod_of_nonneg (by omega)];omega
 rw[e,show (128:Int)*(u:Int)=((128*u:Nat):Int) from by omega,nM,nM,<-Int.natCast_add,nM];congr 1;omega
theorem bBb{l:List UInt8}{k:Nat}(h:k<l.length):jq (l.drop k)=(l.getD k 0).toNat % 128+128*jq (l.drop (k+1)):=by
 rw[List.drop_eq_getElem_cons h,zG,zH h];rfl
def E8(L:List UInt8)(r:Nat):Nat:=jq ((L.take (jg L)).drop (jg L-r)) % 18446744073709551616
def aBW(L:List UInt8)(r:Nat):St:=⟨[(0,none,oq L),(5,none,iy (jg L)),(6,none,jo (.int .u64 (E8 L r:Int))),(7,none,iy ((jg L:Int)-1-r))],[]⟩
theorem aSb(L:List UInt8)(hL:jH L):gQ Tryz.prog a_ 151 true [oq L] (xW (d_ L)):=by
 have M:=aOX;have hL':L.length<4611686018427387904:=hL;have hle:=Qp L;refine bM Tryz.func151 rfl rfl bU (fun A hS hn hI=>?_);refine aB M hI hn (by rfl) (by kernel_rfl) ?_ ?_
 ·simp
 refine aB M hI hn (by rfl) (by kernel_rfl) ?_ ?_
 ·simp[hL]
 refine aI (s':=⟨[(0,none,oq L),(5,none,iy (jg L))],[]⟩) (fun a w hg=>(hg.reset (kT:=[0,5]) (kO:=[]) (by rfl) (by simp)).same ?_ ?_) ?_
 ·rw[fQ];exact .cons rfl (.cons rfl .nil)
 ·exact .nil
 refine aP ?_;refine aB M hI hn (by rfl) (by kernel_rfl) ?_ ?_
 ·simp
 refine aH (by rfl) (fun hc=>?_) (fun hc=>?_)
 ·have h0:jg L=0/\L.length<10:=by
   have:((jg L:Nat):Int)=0/\(L.length:Int)<10:=by simpa using hc
   omega
  refine aB M hI hn (by rfl) (by kernel_rfl) ?_ ?_
  ·simp
  refine aK (fun a w hg=>⟨.inr rfl,_,?_,hg⟩);refine aC (by rfl) (by simp) (by rfl) (by rfl) ?_;rw[aVw,if_pos h0.1,if_pos h0.2];rfl
 ·have h0:¬(jg L=0/\L.length<10):=by
   intro h;simp[h.1] at hc;omega
  refine aO ?_;change ja _ _ _ _ _;refine aB M hI hn (by rfl) (by kernel_rfl) ?_ ?_
  ·simp
  refine aP ?_;refine aB M hI hn (by rfl) (by kernel_rfl) ?_ ?_
  ·simp
  refine aI (s':=aBW L 0) (fun a w hg=>(hg.reset (kT:=[0,5,6,7]) (kO:=[]) (by rfl) (by simp)).same ?_ ?_) ?_
  ·refine .cons rfl (.cons rfl (.cons ?_ (.cons ?_ .nil)))
   ·unfold E8;rw[Nat.sub_zero,List.drop_of_length_le (by rw[List.length_take];omega)];rfl
   ·exact congrArg iy (by rw[eP (by omega) (by omega)];omega)
  ·exact .nil
  refine bP ?_;refine iY (jg L) (fun k s=>s=aBW L k) 0 rfl (by omega) (fun k s hJ hk=>?_);subst hJ;refine aP ?_;refine aB M hI hn (by rfl) (by kernel_rfl) ?_ ?_
  ·simp
  refine aH (by rfl) (fun hc=>?_) (fun hc=>?_)
  ·have hk2:k<jg L:=by
    have:((jg L:Nat):Int)-1-k>=0:=by simpa using hc
    omega
   refine aO ?_;change ja _ _ _ _ _;refine aP ?_;refine bP ?_;refine aQ M hI hn (by rfl) (by kernel_rfl) ?_ ?_
   ·simp;omega
   change ja _ _ _ _ _;refine aQ M hI hn (by rfl) (by kernel_rfl) ?_ ?_
   ·simp
   intro a w hg
   refine⟨k+1,_,by omega,by omega,rfl,(hg.reset (kT:=[0,5,6,7]) (kO:=[]) (by rfl) (by simp)).same ?_ ?_⟩
   ·refine .cons rfl (.cons rfl (.cons ?_ (.cons ?_ .nil)))
    ·refine congrArg (fun n=>jo (.int .u64 n)) ?_;rw[show ((jg L:Nat):Int)-1-k=((jg L-1-k:Nat):Int) from by omega,Int.toNat_natCast,Gx];unfold E8;have h1:=bBb (l:=L.take (jg L)) (k:=jg L-1-k) (by rw[List.length_take];omega);rw[getD_take (by omega),show jg L-1-k+1=jg L-k from by omega] at h1;rw[show jg L-(k+1)=jg L-1-k from by omega,h1];congr 1;omega
    ·exact congrArg iy (by rw[eP (by omega) (by omega)];omega)
   ·exact .nil
  ·have hkk:k=jg L:=by
    have:¬((jg L:Nat):Int)-1-k>=0:=by simpa using hc
    omega
   subst hkk
   have hu:E8 L (jg L)=jq (L.take (jg L)) % 18446744073709551616:=by unfold E8;rw[Nat.sub_self,List.drop_zero]
   have hu2:E8 L (jg L)<18446744073709551616:=Nat.mod_lt _ (by omega);have aNL:=xG hu2;refine iM ?_;change ja _ _ _ _ _;refine aB M hI hn (by rfl) (by kernel_rfl) ?_ ?_
   ·simp
   have hh:IntKind.i64.wrap (IntKind.u64.wrap (((E8 L (jg L):Nat):Int).tdiv 2))=((E8 L (jg L) / 2:Nat):Int):=by
    have e:((E8 L (jg L):Nat):Int).tdiv 2=((E8 L (jg L) / 2:Nat):Int):=by rw[Int.tdiv_eq_ediv_of_nonneg (by omega)];omega
    rw[e,nM,Nat.mod_eq_of_lt (by omega),eP (by omega) (by omega)]
   refine aI (s':=⟨[(0,none,oq L),(5,none,iy (jg L)),(6,none,jo (.int .u64 (E8 L (jg L):Int))),(8,none,iy ((E8 L (jg L) / 2:Nat):Int))],[]⟩) (fun a w hg=>(hg.reset (kT:=[0,5,6,8]) (kO:=[]) (by rfl) (by simp)).same ?_ ?_) ?_
   ·exact .cons rfl (.cons rfl (.cons rfl (.cons (congrArg iy hh) .nil)))
   ·exact .nil
   have hm2:((E8 L (jg L):Nat):Int).tmod 2=((E8 L (jg L) % 2:Nat):Int):=by rw[Int.tmod_eq_emod_of_nonneg (by omega)];omega
   have hgs:=aVw L;rw[<-hu] at hgs;generalize hU:E8 L (jg L)=U at *;have hbI:jb (mM U):=aNL;have hbl:=aY (mM U)
   have hr1:(rowB (b_ (mM U)).length fun i=>p_ (b_ (mM U)) (0+i))=b_ (mM U):=by
    rw[nR (by omega),List.drop_zero,List.take_length]
   have hr2:(rowB (((jg L:Nat):Int)-0).toNat fun i=>p_ L (Int.toNat 0+i))=L.take (jg L):=by
    rw[show (((jg L:Nat):Int)-0).toNat=jg L from by omega];exact (nR (L:=L) (k:=0) (m:=jg L) (by omega)).trans (by rw[List.drop_zero])
   refine aP ?_;refine aB M hI hn (by rfl) (by kernel_rfl) ?_ ?_
   ·simp
   refine aH (by rfl) (fun hc=>?_) (fun hc=>?_)
   ·have huz:IntKind.i64.wrap (IntKind.i64.wrap (0-((U / 2:Nat):Int))-1)=mM U:=by
     rw[hm2] at hc
     have hodd:((U % 2:Nat):Int)=1:=by simpa using hc
     have e:IntKind.i64.wrap (0-((U / 2:Nat):Int))=0-((U / 2:Nat):Int):=eP (by omega) (by omega);rw[e,eP (by omega) (by omega)];unfold mM;rw[if_neg (by omega)];omega
    refine aQ M hI hn (by rfl) (by kernel_rfl) ?_ ?_
    ·simp
    change ja _ _ _ _ _;refine aI (s':=⟨[(0,none,oq L),(5,none,iy (jg L)),(8,none,iy (mM U))],[]⟩) (fun a w hg=>(hg.reset (kT:=[0,5,8]) (kO:=[]) (by rfl) (by simp)).same ?_ ?_) ?_
    ·exact .cons rfl (.cons rfl (.cons (congrArg iy huz) .nil))
    ·exact .nil
    refine aP ?_;refine aB M hI hn (by rfl) (by kernel_rfl) ?_ ?_
    ·simp[hbI]
     exact⟨fun _=>by omega,fun _ i hi x hx=>aDe (show (p_ _ i).all (dG false)=true from rfl) x hx,fun _=>by unfold jH;omega⟩
    refine aH (by rfl) (fun hc=>?_) (fun hc=>?_)
    ·rw[hr1,hr2] at hc
     have h7:d_ L=(0,0,7):=by
      rw[hgs]
      by_cases h1:jg L=0
      ·rw[if_pos h1,if_neg (fun h=>h0 ⟨h1,h⟩)]
      ·rw[if_neg h1,if_neg];intro e;rw[e] at hc;simp[h1] at hc
     refine aB M hI hn (by rfl) (by kernel_rfl) ?_ ?_
     ·simp
     refine aK (fun a w hg=>⟨.inr rfl,_,?_,hg⟩);refine aC (by rfl) (by simp) (by rfl) (by rfl) ?_;rw[h7];rfl
    ·rw[hr1,hr2] at hc
     have h7:jg L≠0/\b_ (mM U)=L.take (jg L):=by
      by_cases h1:jg L=0
      ·simp[h1] at hc
      ·refine⟨h1,?_⟩
       simp[h1] at hc;exact hc
     refine aO ?_;change ja _ _ _ _ _;refine aB M hI hn (by rfl) (by kernel_rfl) ?_ ?_
     ·simp
     refine aK (fun a w hg=>⟨.inr rfl,_,?_,hg⟩);refine aC (by rfl) (by simp) (by rfl) (by rfl) ?_;rw[hgs,if_neg h7.1,if_pos h7.2];rfl
   ·have huz:((U / 2:Nat):Int)=mM U:=by
     rw[hm2] at hc
     have hev:¬((U % 2:Nat):Int)=1:=by simpa using hc
     unfold mM;rw[if_pos (by omega)]
    refine aO ?_;change ja _ _ _ _ _;refine aI (s':=⟨[(0,none,oq L),(5,none,iy (jg L)),(8,none,iy (mM U))],[]⟩) (fun a w hg=>(hg.reset (kT:=[0,5,8]) (kO:=[]) (by rfl) (by simp)).same ?_ ?_) ?_
    ·exact .cons rfl (.cons rfl (.cons (congrArg iy huz) .nil))
    ·exact .nil
    refine aP ?_;refine aB M hI hn (by rfl) (by kernel_rfl) ?_ ?_
    ·simp[hbI]
     exact⟨fun _=>by omega,fun _ i hi x hx=>aDe (show (p_ _ i).all (dG false)=true from rfl) x hx,fun _=>by unfold jH;omega⟩
    refine aH (by rfl) (fun hc=>?_) (fun hc=>?_)
    ·rw[hr1,hr2] at hc
     have h7:d_ L=(0,0,7):=by
      rw[hgs]
      by_cases h1:jg L=0
      ·rw[if_pos h1,if_neg (fun h=>h0 ⟨h1,h⟩)]
      ·rw[if_neg h1,if_neg];intro e;rw[e] at hc;simp[h1] at hc
     refine aB M hI hn (by rfl) (by kernel_rfl) ?_ ?_
     ·simp
     refine aK (fun a w hg=>⟨.inr rfl,_,?_,hg⟩);refine aC (by rfl) (by simp) (by rfl) (by rfl) ?_;rw[h7];rfl
    ·rw[hr1,hr2] at hc
     have h7:jg L≠0/\b_ (mM U)=L.take (jg L):=by
      by_cases h1:jg L=0
      ·simp[h1] at hc
      ·refine⟨h1,?_⟩
       simp[h1] at hc;exact hc
     refine aO ?_;change ja _ _ _ _ _;refine aB M hI hn (by rfl) (by kernel_rfl) ?_ ?_
     ·simp
     refine aK (fun a w hg=>⟨.inr rfl,_,?_,hg⟩);refine aC (by rfl) (by simp) (by rfl) (by rfl) ?_;rw[hgs,if_neg h7.1,if_pos h7.2];rfl
def SB:List (Nat×Spec):=(151,UR jH fun l=>xW (d_ l))::(139,UR jH fun l=>EQ (jG l))::SC
theorem NM:∀ p∈SB,aj Tryz.prog a_ p.1 p.2:=by
 intro p hp;simp only[SB,List.mem_cons] at hp;rcases hp with rfl|rfl|hp
 ·exact rV (aF Tryz.func151 (by kernel_rfl) rfl) aSb
 ·exact rV (aF Tryz.func139 (by kernel_rfl) rfl) aBz
 ·exact NP p hp
theorem aOW:lm Tryz.prog a_ (find SB):=⟨bV NM,fK⟩
def Xb(L:List UInt8):Int×Nat×Int:=if (Ak L).2.2=0 then ((d_ L).1,(d_ L).2.1,0) else (0,0,(Ak L).2.2)
theorem aYc(L:List UInt8)(hL:jH L):gQ Tryz.prog a_ 183 true [oq L,iy 1] (xW (Xb L)):=by
 have M:=aOW;have hle:=qQ L;have hrg:=iR L;have hL':L.length<4611686018427387904:=hL;refine bM Tryz.func183 rfl rfl bU (fun A hS hn hI=>?_);refine aB M hI hn (by rfl) (by kernel_rfl) ?_ ?_
 ·simp
 refine aB M hI hn (by rfl) (by kernel_rfl) ?_ ?_
 ·simp[hL]
 refine aI (s':=⟨[(0,none,oq L),(1,none,iy 1),(7,none,iy (d_ L).1),(8,none,iy ((d_ L).2.1:Int)),(9,none,iy (d_ L).2.2)],[]⟩) (fun a w hg=>(hg.reset (kT:=[0,1,7,8,9]) (kO:=[]) (by rfl) (by simp)).same ?_ ?_) ?_
 ·rw[fQ];exact .cons rfl (.cons rfl (.cons rfl (.cons rfl (.cons rfl .nil))))
 ·exact .nil
 unfold Xb Ak;generalize d_ L=g at *;obtain⟨n,k,e⟩:=g;dsimp only at *;refine aP ?_;refine aB M hI hn (by rfl) (by kernel_rfl) ?_ ?_
 ·simp
 refine aH (by rfl) (fun hc=>?_) (fun hc=>?_)
 ·have he:e≠0:=by simpa using hc
  refine aB M hI hn (by rfl) (by kernel_rfl) ?_ ?_
  ·simp
  refine aK (fun a w hg=>⟨.inr rfl,_,?_,hg⟩);refine aC (by rfl) (by simp) (by rfl) (by rfl) ?_;rw[if_pos he,if_neg he];rfl
 ·have he:e=0:=by simpa using hc
  subst he;refine aO ?_;change ja _ _ _ _ _;refine aP ?_;refine aB M hI hn (by rfl) (by kernel_rfl) ?_ ?_
  ·simp
  refine aH (by rfl) (fun hc=>?_) (fun hc=>?_)
  ·have hn0:n<0:=by simpa using hc
   refine aB M hI hn (by rfl) (by kernel_rfl) ?_ ?_
   ·simp
   refine aK (fun a w hg=>⟨.inr rfl,_,?_,hg⟩);refine aC (by rfl) (by simp) (by rfl) (by rfl) ?_
   have ec:(if (0:Int)≠0 then (0:Int) else if n<0 then (7:Int) else if n > (L.length:Int)-k then 6 else 0)=7:=by rw[if_neg (by simp),if_pos hn0]
   rw[ec];rfl
  ·have hn0:¬n<0:=by simpa using hc
   refine aO ?_;change ja _ _ _ _ _;refine aP ?_;refine aB M hI hn (by rfl) (by kernel_rfl) ?_ ?_
   ·simp
   have e1:IntKind.i64.wrap ((L.length:Int)-k)=(L.length:Int)-k:=eP (by omega) (by omega)
   have e2:IntKind.i64.wrap (n*1)=n:=by rw[Int.mul_one];exact eP (by omega) (by omega)
   refine aH (by rfl) (fun hc=>?_) (fun hc=>?_)
   ·rw[e1,e2] at hc
    have hn1:n > (L.length:Int)-k:=by
     by_cases h1:(L.length:Int)<n
     ·omega
     ·simp[h1] at hc;exact hc
    refine aB M hI hn (by rfl) (by kernel_rfl) ?_ ?_
    ·simp
    refine aK (fun a w hg=>⟨.inr rfl,_,?_,hg⟩);refine aC (by rfl) (by simp) (by rfl) (by rfl) ?_
    have ec:(if (0:Int)≠0 then (0:Int) else if n<0 then (7:Int) else if n > (L.length:Int)-k then 6 else 0)=6:=by rw[if_neg (by simp),if_neg hn0,if_pos hn1]
    rw[ec];rfl
   ·rw[e1,e2] at hc
    have hn1:¬n > (L.length:Int)-k:=by
     by_cases h1:(L.length:Int)<n
     ·simp[h1] at hc
     ·simp[h1] at hc;omega
    refine aO ?_;change ja _ _ _ _ _;refine aB M hI hn (by rfl) (by kernel_rfl) ?_ ?_
    ·simp
    refine aK (fun a w hg=>⟨.inr rfl,_,?_,hg⟩);refine aC (by rfl) (by simp) (by rfl) (by rfl) ?_
    have ec:(if (0:Int)≠0 then (0:Int) else if n<0 then (7:Int) else if n > (L.length:Int)-k then 6 else 0)=0:=by rw[if_neg (by simp),if_neg hn0,if_neg hn1]
    rw[ec];rfl
def aUn:Spec:=bD true fun xs=>match xs with
 |[v,.w (.one (.lit (.int .i64 1)))]=>(match Ez v with
  |some (p,l)=>some (p/\jH l,xW (Xb l))
  |none=>none)
 |_=>none
theorem bCt:aj Tryz.prog a_ 183 aUn:=by
 refine bC (aF Tryz.func183 (by kernel_rfl) rfl) (fun xs p r hg hp=>?_)
 split at hg
 ·rename_i v
  cases hq:Ez v with
  |none=>rw[hq] at hg;cases hg
  | some q=>
   obtain⟨p0,l⟩:=q;rw[hq] at hg;cases hg
   exact (aYc l hp.2).args fun C vs hv=>by
    match vs,hv with
    |[x,y],⟨h1,h2,_⟩=>exact⟨wJ hq hp.1 h1,h2,trivial⟩
 ·cases hg
def XA:List (Nat×Spec):=(183,aUn)::SB
theorem NL:∀ p∈XA,aj Tryz.prog a_ p.1 p.2:=by
 intro p hp;rcases List.mem_cons.1 hp with rfl|hp
 ·exact bCt
 ·exact NM p hp
theorem aOV:lm Tryz.prog a_ (find XA):=⟨bV NL,fK⟩
theorem aKo(L:List UInt8)(hL:jH L):gQ Tryz.prog a_ 152 true [oq L] (EQ (jG L)):=by
 have M:=aOV;have hle:=qQ L;have hrg:=iR L;have hL':L.length<4611686018427387904:=hL;refine bM Tryz.func152 rfl rfl bU (fun A hS hn hI=>?_);refine aB M hI hn (by rfl) (by kernel_rfl) ?_ ?_
 ·simp
 refine aB M hI hn (by rfl) (by kernel_rfl) ?_ ?_
 ·simp[hL]
 refine aI (s':=⟨[(0,none,oq L),(5,none,iy (Xb L).1),(6,none,iy ((Xb L).2.1:Int)),(7,none,iy (Xb L).2.2)],[]⟩) (fun a w hg=>(hg.reset (kT:=[0,5,6,7]) (kO:=[]) (by rfl) (by simp)).same ?_ ?_) ?_
 ·rw[fQ];exact .cons rfl (.cons rfl (.cons rfl (.cons rfl .nil)))
 ·exact .nil
 have hcc:=aQk L;rw[aPm L];unfold Xb;generalize (Ak L).2.2=e at *;generalize d_ L=g at *;obtain⟨n,k,e'⟩:=g;dsimp only at *;refine aP ?_;refine aB M hI hn (by rfl) (by kernel_rfl) ?_ ?_
 ·simp
 refine aH (by rfl) (fun hc=>?_) (fun hc=>?_)
 ·have he:e≠0:=by
   intro h;rw[if_pos h] at hc;simp at hc
  refine aB M hI hn (by rfl) (by kernel_rfl) ?_ ?_
  ·simp
  refine aK (fun a w hg=>⟨.inr rfl,_,?_,hg⟩);refine aC (by rfl) (by simp) (by rfl) (by rfl) ?_;rw[if_pos he,if_neg he];rfl
 ·have he:e=0:=by
   rcases Decidable.em (e=0) with h|h
   ·exact h
   ·rw[if_neg h] at hc;exact absurd (by simpa using hc) h
  subst he;obtain⟨_,hn0,hn1⟩:=hcc rfl
  have e1:IntKind.i64.wrap ((k:Int)+n)=((k+n.toNat:Nat):Int):=by rw[eP (by omega) (by omega)];omega
  refine aO ?_;change ja _ _ _ _ _;simp only[if_pos];refine aB M hI hn (by rfl) (by kernel_rfl) ?_ ?_
  ·simp;rw[e1];omega
  refine aK (fun a w hg=>⟨.inr rfl,_,?_,hg⟩);refine aC (by rfl) (by simp) (by rfl) (by rfl) ?_;rw[if_neg (by simp),e1]
  have e2:(((k+n.toNat:Nat):Int)-(k:Int)).toNat=n.toNat:=by omega
  unfold EQ;rw[e2,Int.toNat_natCast,nR (by omega)];rfl
def aEW:List (Nat×Spec):=(152,UR jH fun l=>EQ (jG l))::XA
theorem XD:∀ p∈aEW,aj Tryz.prog a_ p.1 p.2:=by
 intro p hp;rcases List.mem_cons.1 hp with rfl|hp
 ·exact rV (aF Tryz.func152 (by kernel_rfl) rfl) aKo
 ·exact NL p hp
end Pv
section
open Go.RowKit Go.Shelf
def laysRepeat_ren:Ren:=
{
 f:=fun x=>
  match x with
  |105=>141
  |212=>169
  |99=>170
  |165=>171
  |166=>172
  |170=>173
  |169=>174
  |263=>186
  |264=>187
  |206=>188
  |240=>189
  |241=>190
  |276=>198
  |277=>199
  |n=>n,
 t:=fun x=>
  match x with
  |9=>9
  |3=>3
  |4=>4
  |20=>20
  |0=>0
  |46=>220
  |109=>238
  |5=>5
  |72=>243
  |76=>247
  |51=>203
  |146=>253
  |53=>110
  |148=>255
  |70=>241
  |37=>74
  |75=>246
  |127=>257
  |164=>259
  |80=>249
  |n=>n,
 g:=fun x=>
  have n:=x;
  n }
theorem laysRepeat:Lays.n105 Tryz.prog laysRepeat_ren:=
{mixed:=Eq.refl true,f99:=Eq.trans Tryz.func170 (congrArg some (Eq.refl (Body.n99 laysRepeat_ren))),
 f105:=Eq.trans Tryz.func141 (congrArg some (Eq.refl (Body.n105 laysRepeat_ren))),
 f165:=Eq.trans Tryz.func171 (congrArg some (Eq.refl (Body.n165 laysRepeat_ren))),
 f166:=Eq.trans Tryz.func172 (congrArg some (Eq.refl (Body.n166 laysRepeat_ren))),
 f169:=Eq.trans Tryz.func174 (congrArg some (Eq.refl (Body.n169 laysRepeat_ren))),
 f170:=Eq.trans Tryz.func173 (congrArg some (Eq.refl (Body.n170 laysRepeat_ren))),
 f206:=Eq.trans Tryz.func188 (congrArg some (Eq.refl (Body.n206 laysRepeat_ren))),
 f212:=Eq.trans Tryz.func169 (congrArg some (Eq.refl (Body.n212 laysRepeat_ren))),
 f240:=Eq.trans Tryz.func189 (congrArg some (Eq.refl (Body.n240 laysRepeat_ren))),
 f241:=Eq.trans Tryz.func190 (congrArg some (Eq.refl (Body.n241 laysRepeat_ren))),
 f263:=Eq.trans Tryz.func186 (congrArg some (Eq.refl (Body.n263 laysRepeat_ren))),
 f264:=Eq.trans Tryz.func187 (congrArg some (Eq.refl (Body.n264 laysRepeat_ren))),
 f276:=Eq.trans Tryz.func198 (congrArg some (Eq.refl (Body.n276 laysRepeat_ren))),
 f277:=Eq.trans Tryz.func199 (congrArg some (Eq.refl (Body.n277 laysRepeat_ren))),t0:=Tryz.underlying0,
 a0:=Tryz.isAgg0,z0:=Tryz.sizeOf0,v0:=Tryz.zeroValue0,t3:=Tryz.underlying3,a3:=Tryz.isAgg3,
 z3:=Tryz.sizeOf3,v3:=Tryz.zeroValue3,t4:=Tryz.underlying4,a4:=Tryz.isAgg4,z4:=Tryz.sizeOf4,
 v4:=Tryz.zeroValue4,t5:=Tryz.underlying5,a5:=Tryz.isAgg5,z5:=Tryz.sizeOf5,v5:=Tryz.zeroValue5,
 t9:=Tryz.underlying9,a9:=Tryz.isAgg9,z9:=Tryz.sizeOf9,v9:=Tryz.zeroValue9,t20:=Tryz.underlying20,
 a20:=Tryz.isAgg20,z20:=Tryz.sizeOf20,v20:=Tryz.zeroValue20,t37:=Tryz.underlying74,a37:=Tryz.isAgg74,
 z37:=Tryz.sizeOf74,v37:=Tryz.zeroValue74,t46:=Tryz.underlying220,a46:=Tryz.isAgg220,z46:=Tryz.sizeOf220,
 v46:=Tryz.zeroValue220,t51:=Tryz.underlying203,a51:=Tryz.isAgg203,z51:=Tryz.sizeOf203,
 v51:=Tryz.zeroValue203,t53:=Tryz.underlying110,a53:=Tryz.isAgg110,z53:=Tryz.sizeOf110,
 v53:=Tryz.zeroValue110,t70:=Tryz.underlying241,a70:=Tryz.isAgg241,z70:=Tryz.sizeOf241,
 v70:=Tryz.zeroValue241,t72:=Tryz.underlying243,a72:=Tryz.isAgg243,z72:=Tryz.sizeOf243,
 v72:=Tryz.zeroValue243,t75:=Tryz.underlying246,a75:=Tryz.isAgg246,z75:=Tryz.sizeOf246,
 v75:=Tryz.zeroValue246,t76:=Tryz.underlying247,a76:=Tryz.isAgg247,z76:=Tryz.sizeOf247,
 v76:=Tryz.zeroValue247,t109:=Tryz.underlying238,a109:=Tryz.isAgg238,z109:=Tryz.sizeOf238,
 v109:=Tryz.zeroValue238,t127:=Tryz.underlying257,a127:=Tryz.isAgg257,z127:=Tryz.sizeOf257,
 v127:=Tryz.zeroValue257,t146:=Tryz.underlying253,a146:=Tryz.isAgg253,z146:=Tryz.sizeOf253,
 v146:=Tryz.zeroValue253,t148:=Tryz.underlying255,a148:=Tryz.isAgg255,z148:=Tryz.sizeOf255,
 v148:=Tryz.zeroValue255,t164:=Tryz.underlying259,a164:=Tryz.isAgg259,z164:=Tryz.sizeOf259,
 v164:=Tryz.zeroValue259 }
theorem aTc:Builder.Extra Tryz.prog laysRepeat_ren where
 sizeBuilder:=by kernel_rfl
 liesBuilder:=by kernel_rfl
 t5:=laysRepeat.t5
 a5:=laysRepeat.a5
 z5:=laysRepeat.z5
 v5:=laysRepeat.v5
 infoByte:=by kernel_rfl
 cellsByte:=by kernel_rfl
 sizeByte:=by kernel_rfl
 neB5:=by decide
theorem aEi(s:ByteArray)(c:Nat)(w:World)(hc:c<=9223372036854775807)(hlen:s.size*c<=140737488355328) :
  Calls Tryz.prog 141 #[.string s,.int .i64 c] w fun e w'=>e=.returned (.string ⟨(Lib.repeatL s.data.toList c).toArray⟩)/\Below w.heap.size w w':=
 Any.strings_Repeat laysRepeat aTc s c w hc hlen
theorem aLq(s p:ByteArray)(w:World):Calls Tryz.prog 170 #[.string s,.string p] w fun e w'=>e=.returned (.bool (Lib.hasPrefix s.data.toList p.data.toList))/\w'=w:=
 Any.strings_HasPrefix { laysRepeat with } s p w
end
abbrev Fl:=List ByteArray
def sec(f:Fl)(s:Int):List UInt8:=if 0<=s/\s<f.length then (f.getD s.toNat aS).data.toList else[]
def y8(cut:Int)(b old:List UInt8):List UInt8:=if cut<0\/(b.length:Int)<=cut then b else b.take cut.toNat++old.drop cut.toNat
def iQ(f:Fl)(s:Int)(b:ByteArray)(cut:Int):Fl:=if 0<=s/\s<f.length/\b.size=256 then f.set s.toNat (strOf (y8 cut b.data.toList (sec f s))) else f
namespace Pv
abbrev pg(s:ByteArray):PV:=jo (.string s)
theorem Fq{I:World->Prop}:lm Tryz.prog I (find ([]:List (Nat×Spec))):=⟨fun f sp h=>(by cases h),(by kernel_rfl)⟩
def r_(l:List ByteArray):Nat->List PC:=fun i=>[.lit (.string (l.getD i aS))]
def Wj:List PC->ByteArray
 |[.lit (.string s)]=>s
 |_=>aS
def W_:List PC->Bool
 |[.lit (.string _)]=>true
 |_=>false
theorem Qr{l:List PC}(h:W_ l=true):l=[.lit (.string (Wj l))]:=by
 unfold W_ at h
 split at h
 ·rfl
 ·cases h
def iP(n:Nat)(f:Nat->List PC):List ByteArray:=(List.range n).map fun i=>Wj (f i)
def aMu(n:Nat)(f:Nat->List PC):Prop:=∀ i,i<n->W_ (f i)=true
@[simp] theorem aCa(n:Nat)(f:Nat->List PC):(iP n f).length=n:=by simp[iP]
theorem bFn{n:Nat}{f:Nat->List PC}(h:aMu n f):∀ i,i<n->f i=r_ (iP n f) i:=fun i hi=>by
 unfold r_ iP;rw[zG,List.getElem?_map,List.getElem?_range hi];exact Qr (h i hi)
@[simp] theorem UH(n:Nat)(l:List ByteArray):aMu n (r_ l):=fun _ _=>rfl
@[simp] theorem bK(l:List ByteArray):iP l.length (r_ l)=l:=by
 apply List.ext_getElem (by simp);intro i h1 h2;simp only[iP,List.getElem_map,List.getElem_range,r_,Wj];rw[zG,zH h2];rfl
theorem IA{C:Ctx}{n len:Nat}{f g:Nat->List PC}(h:∀ i,i<len->f i=g i){xs:List Value}(hr:R C (.sl n len f) xs):R C (.sl n len g) xs:=by
 cases hr with
 |sl h1 h2 h3=>exact .sl h1 h2 (fun i hi=>by rw[<-h i hi];exact h3 i hi)
theorem RL.head{C:Ctx}{c c':PC}{l:List PC}(h:∀ ys,R C c ys->R C c' ys){xs:List Value}(hr:RL C (c::l) xs):RL C (c'::l) xs:=by
 cases hr with
 |cons h1 h2=>exact .cons (h _ h1) h2
def flV(f:Fl):PV:=.w (.agg [.sl 1 f.length (r_ f)])
def zx(f:Fl)(s:Int):Bool:=decide (0<=s)&&decide (s<f.length)
theorem bFe{f:Fl}{s:Int}(h:zx f s=true):0<=s/\s<f.length:=by
 unfold zx at h;rw[Bool.and_eq_true] at h
 exact⟨of_decide_eq_true h.1,of_decide_eq_true h.2⟩
theorem LX{f:Fl}{s:Int}(h:zx f s=false):¬(0<=s/\s<f.length):=fun h2=>by
 unfold zx at h;rw[decide_eq_true h2.1,decide_eq_true h2.2] at h;cases h
def aVt(i:Nat):PV->Bool
 |.w (.one (.pt x v o))=>Nat.beq x (px+i)&&(Nat.beq v 0&&Nat.beq o 0)
 |_=>false
theorem aPf{i:Nat}{v:PV}(h:aVt i v=true):v=dn (.pt (px+i) 0 0):=by
 unfold aVt at h
 split at h
 ·rw[Bool.and_eq_true,Bool.and_eq_true] at h;rw[gy h.1,gy h.2.1,gy h.2.2]
 ·cases h
theorem RI(f:Fl)(s:Int):gQ Tryz.prog a_ 161 true [flV f,iy s] (qi (zx f s)):=by
 have M:=Fq (I:=a_);refine bM Tryz.func161 rfl rfl bU (fun A hS hn hI=>?_);refine aB M hI hn (by rfl) (by kernel_rfl) ?_ ?_
 ·simp
 refine aB M hI hn (by rfl) (by kernel_rfl) ?_ ?_
 ·simp
 refine aK (fun a w hg=>⟨.inr rfl,_,?_,hg⟩);refine aC (by rfl) (by simp) (by rfl) (by rfl) ?_;change qi (bif decide (s>=0) then decide (s<(f.length:Int)) else false)=_;unfold zx
 by_cases h:0<=s
 ·rw[decide_eq_true h];rfl
 ·rw[decide_eq_false h];rfl
theorem ext_list(b:ByteArray)(l h:Nat):b.extract l h=strOf ((b.data.toList.take h).drop l):=by
 apply ByteArray.ext;rw[ByteArray.data_extract];apply Array.toList_inj.1;unfold strOf;simp[Array.toList_extract,List.drop_take]
theorem PH(a b:List UInt8):strOf a++strOf b=strOf (a++b):=by
 apply ByteArray.ext;rw[ByteArray.data_append];simp[strOf]
theorem bEj(cut:Int)(b old:ByteArray)(hb1:b.size<=1000000)(ho1:old.size<=1000000):ve Tryz.prog a_ 162 false [⟨900001,3,[.lit (.int .i64 cut)],[.lit (.int .i64 cut)]⟩,⟨900002,9,[.lit (.string b)],[.lit (.string b)]⟩] (fun _=>none) none (fun _=>False)
  [pg old,dn (.pt 900001 0 0),dn (.pt 900002 0 0)] (pg (strOf (y8 cut b.data.toList old.data.toList))):=by
 have M:=Fq (I:=a_);have hbs:b.data.toList.length=b.size:=Array.length_toList;refine kD Tryz.func162 rfl rfl rfl (fun A hn hI=>?_);refine aB M hI hn (by rfl) (by kernel_rfl) ?_ ?_
 ·simp
 refine aP ?_;refine aB M hI hn (by rfl) (by kernel_rfl) ?_ ?_
 ·simp
 refine aH (by rfl) (fun hc=>?_) (fun hc=>?_)
 ·refine aB M hI hn (by rfl) (by kernel_rfl) ?_ ?_
  ·simp
  have h:cut<0\/(b.data.toList.length:Int)<=cut:=by simp at hc;omega
  unfold y8;rw[if_pos h,qC]
  refine aK (fun a w hg=>⟨.inr rfl,_,⟨?_,(fun o ho=>by
   simp only[List.mem_cons,List.not_mem_nil,or_false] at ho
   rcases ho with rfl|rfl<;>exact⟨_,rfl,dX rfl⟩),fun p hp=>(by cases hp)⟩,hg⟩)
  refine aC (by rfl) (by simp) (by rfl) (by rfl) ?_;rfl
 ·refine aO ?_;change ja _ _ _ _ _
  have h:¬(cut<0\/(b.data.toList.length:Int)<=cut):=by simp at hc;omega
  unfold y8;rw[if_neg h];refine aB M hI hn (by rfl) (by kernel_rfl) ?_ ?_
  ·simp;omega
  refine aK (fun a w hg=>⟨.inr rfl,_,⟨?_,(fun o ho=>by
   simp only[List.mem_cons,List.not_mem_nil,or_false] at ho
   rcases ho with rfl|rfl<;>exact⟨_,rfl,dX rfl⟩),fun p hp=>(by cases hp)⟩,hg⟩)
  refine aC (by rfl) (by simp) (by rfl) (by rfl) ?_;change pg (b.extract (Int.toNat 0) cut.toNat++old.extract (min cut (old.size:Int)).toNat ((old.size:Int)).toNat)=_;rw[ext_list,ext_list,PH];have hos:old.data.toList.length=old.size:=Array.length_toList
  have e1:(old.data.toList.take ((old.size:Int)).toNat).drop (min cut (old.size:Int)).toNat=old.data.toList.drop cut.toNat:=by
   rw[Int.toNat_natCast,List.take_of_length_le (by omega)]
   by_cases h5:cut<=(old.size:Int)
   ·rw[show (min cut (old.size:Int))=cut from by omega]
   ·rw[List.drop_of_length_le (by omega),List.drop_of_length_le (by omega)]
  rw[e1];rfl
def Dq:PV->Option (Prop×Fl)
 |.w (.agg [.sl 1 n f])=>some (aMu n f,iP n f)
 |_=>none
theorem aTa{C:Ctx}{v:PV}{p:Prop}{f:Fl}{x:Value}(h:Dq v=some (p,f))(hp:p)(hr:RV C v x):RV C (flV f) x:=by
 unfold Dq at h
 split at h
 ·rename_i n fr;cases h
  cases hr with
  | w h1=>cases h1 with
   |agg h2=>
    refine .w (.agg (h2.head fun ys h3=>?_));rw[aCa];exact IA (bFn hp) h3
 ·cases h
def Td:Spec:=bD true fun xs=>match xs with
 |[v,.w (.one (.lit (.int .i64 s)))]=>(match Dq v with
  |some (p,f)=>some (p,qi (zx f s))
  |none=>none)
 |_=>none
theorem LW:aj Tryz.prog a_ 161 Td:=by
 refine bC (aF Tryz.func161 (by kernel_rfl) rfl) (fun xs p r hg hp=>?_)
 split at hg
 ·rename_i v s
  cases hq:Dq v with
  |none=>rw[hq] at hg;cases hg
  | some q=>
   obtain⟨p0,f⟩:=q;rw[hq] at hg;cases hg
   exact (RI f s).args fun C vs hv=>by
    match vs,hv with
    |[x0,x],⟨h0,h1,_⟩=>exact⟨aTa hq hp h0,h1,trivial⟩
 ·cases hg
def Wv:List (Nat×Spec):=[(161,Td)]
theorem aOP:lm Tryz.prog a_ (find Wv):=⟨bV (fun p hp=>by
 obtain rfl:=List.mem_singleton.1 hp
 exact LW),fK⟩
theorem bFq(f:Fl)(s:Int):gQ Tryz.prog a_ 128 true [flV f,iy s] (.lw [.one (.lit (.string (strOf (sec f s)))),.one (.lit (.int .i64 (if zx f s then 0 else 13)))]):=by
 have M:=aOP;refine bM Tryz.func128 rfl rfl bU (fun A hS hn hI=>?_);refine aB M hI hn (by rfl) (by kernel_rfl) ?_ ?_
 ·simp
 refine aP ?_;refine aB M hI hn (by rfl) (by kernel_rfl) ?_ ?_
 ·simp
 rw[bK];refine aH (by rfl) (fun hc=>?_) (fun hc=>?_)
 ·refine aB M hI hn (by rfl) (by kernel_rfl) ?_ ?_
  ·simp
  have h:zx f s=false:=by simpa using hc
  have e:sec f s=[]:=by unfold sec;rw[if_neg (LX h)]
  rw[h,e];refine aK (fun a w hg=>⟨.inr rfl,_,?_,hg⟩);refine aC (by rfl) (by simp) (by rfl) (by rfl) ?_;rfl
 ·have h:zx f s=true:=by simpa using hc
  have h2:=bFe h;refine aO ?_;change ja _ _ _ _ _;refine aB M hI hn (by rfl) (by kernel_rfl) ?_ ?_
  ·simp;exact h2
  have e:strOf (sec f s)=f.getD s.toNat aS:=by unfold sec;rw[if_pos h2,qC]
  rw[h,e];refine aK (fun a w hg=>⟨.inr rfl,_,?_,hg⟩);refine aC (by rfl) (by simp) (by rfl) (by rfl) ?_;rfl
def aBI:Spec:=bD true fun xs=>match xs with
 |[v,.w (.one (.lit (.int .i64 s)))]=>(match Dq v with
  |some (p,f)=>some (p,.lw [.one (.lit (.string (strOf (sec f s)))),.one (.lit (.int .i64 (if zx f s then 0 else 13)))])
  |none=>none)
 |_=>none
theorem M_:aj Tryz.prog a_ 128 aBI:=by
 refine bC (aF Tryz.func128 (by kernel_rfl) rfl) (fun xs p r hg hp=>?_)
 split at hg
 ·rename_i v s
  cases hq:Dq v with
  |none=>rw[hq] at hg;cases hg
  | some q=>
   obtain⟨p0,f⟩:=q;rw[hq] at hg;cases hg
   exact (bFq f s).args fun C vs hv=>by
    match vs,hv with
    |[x0,x],⟨h0,h1,_⟩=>exact⟨aTa hq hp h0,h1,trivial⟩
 ·cases hg
def bBp:Spec:=aVk fun os ys=>match os,ys with
 |[(t0,[.lit (.int .i64 cut)]),(t1,[.lit (.string b)])],[.w (.one (.lit (.string old))),p0,p1]=>
  (match Nat.beq t0 3&&(Nat.beq t1 9&&(aVt 0 p0&&aVt 1 p1)) with
  |true=>some (b.size<=1000000/\old.size<=1000000,[[.lit (.int .i64 cut)],[.lit (.string b)]],pg (strOf (y8 cut b.data.toList old.data.toList)))
  |false=>none)
 |_,_=>none
theorem KO:aj Tryz.prog a_ 162 bBp:=by
 refine aOp (aF Tryz.func162 (by kernel_rfl) rfl) (fun os ys p cs r hg hlen hp=>?_)
 split at hg
 ·rename_i t0 cut t1 b old p0 p1 hos
  split at hg
  ·rename_i hb;simp only[Bool.and_eq_true] at hb;obtain⟨b0,b1,q0,q1⟩:=hb;cases hg
   match os,hos with
   |[o0,o1],hos=>
    simp only[List.map_cons,List.map_nil,List.cons.injEq,Prod.mk.injEq,and_true] at hos;obtain⟨⟨h0,k0⟩,⟨h1,k1⟩⟩:=hos;have e0:=gy b0;have e1:=gy b1;have:=bEj cut b old hp.1 hp.2;unfold Fz Fz Fz;rw[h0,k0,h1,k1,e0,e1,aPf q0,aPf q1];exact this
  ·cases hg
 ·cases hg
def Wu:List (Nat×Spec):=(162,bBp)::Wv
theorem Wx:∀ p∈Wu,aj Tryz.prog a_ p.1 p.2:=by
 intro p hp;simp only[Wu,Wv,List.mem_cons,List.not_mem_nil,or_false] at hp;rcases hp with rfl|rfl
 ·exact KO
 ·exact LW
theorem aOO:lm Tryz.prog a_ (find Wu):=⟨bV Wx,fK⟩
def wQ(f:Fl)(s:Int)(b:ByteArray):Int:=if zx f s then (if b.size=256 then 0 else 1) else 13
theorem aZa(f:Fl)(s:Int)(b:ByteArray)(cut:Int)(hf:∀ x∈f,x.size<=1000000)(hlen:f.length<=1000000):gQ Tryz.prog a_ 131 false [flV f,iy s,pg b,iy cut] (.lw [.agg [.sl 1 (iQ f s b cut).length (r_ (iQ f s b cut))],.one (.lit (.int .i64 (wQ f s b)))]):=by
 have M:=aOO
 have hb1:Tryz.prog.types[9].bytes=16:=by kernel_rfl
 have hs1:Tryz.prog.types[9].size=1:=by kernel_rfl
 refine bM Tryz.func131 rfl rfl bU (fun A hS hn hI=>?_);refine aB M hI hn (by rfl) (by kernel_rfl) ?_ ?_
 ·simp
 refine aP ?_;refine bP ?_;refine aB M hI hn (by rfl) (by kernel_rfl) ?_ ?_
 ·simp
 rw[bK];refine aH (by rfl) (fun hc=>?_) (fun hc=>?_)
 ·refine aB M hI hn (by rfl) (by kernel_rfl) ?_ ?_
  ·simp
  have h:zx f s=false:=by simpa using hc
  have e1:iQ f s b cut=f:=if_neg (fun h5=>LX h ⟨h5.1,h5.2.1⟩)
  have e2:wQ f s b=13:=by unfold wQ;rw[h];rfl
  rw[e1,e2];refine aK (fun a w hg=>⟨.inr rfl,_,?_,hg⟩);refine aC (by rfl) (by simp) (by rfl) (by rfl) ?_;rfl
 ·have h:zx f s=true:=by simpa using hc
  have h2:=bFe h;refine aB M hI hn (by rfl) (by kernel_rfl) ?_ ?_
  ·simp
  refine aH (by rfl) (fun hc=>?_) (fun hc=>?_)
  ·refine aB M hI hn (by rfl) (by kernel_rfl) ?_ ?_
   ·simp
   have hb:¬b.size=256:=by simp at hc;omega
   have e1:iQ f s b cut=f:=if_neg (fun h5=>hb h5.2.2)
   have e2:wQ f s b=1:=by unfold wQ;rw[h,if_neg hb];rfl
   rw[e1,e2];refine aK (fun a w hg=>⟨.inr rfl,_,?_,hg⟩);refine aC (by rfl) (by simp) (by rfl) (by rfl) ?_;rfl
  ·refine aO ?_;change ja _ _ _ _ _;refine aB M hI hn (by rfl) (by kernel_rfl) ?_ ?_
   ·simp
   have hb:b.size=256:=by simp at hc;omega
   have e1:iQ f s b cut=f.set s.toNat (strOf (y8 cut b.data.toList (sec f s))):=if_pos ⟨h2.1,h2.2,hb⟩
   have e2:wQ f s b=0:=by unfold wQ;rw[h,if_pos hb];rfl
   have e3:sec f s=(f.getD s.toNat aS).data.toList:=if_pos h2;rw[e1,e2,e3];refine aB M hI hn (by rfl) (by kernel_rfl) ?_ ?_
   ·simp;rw[hb1];omega
   refine aB M hI hn (by rfl) (by kernel_rfl) ?_ ?_
   ·simp
   refine aI (s':=⟨[(1,none,iy s),(8,none,dn (.pt 3 0 0)),(10,none,dn (.fn (.func 162) [] [.pt 2 0 0,.pt 1 0 0])),(11,none,dn (.ow 6003 0 1 0 f.length))],[(6003,none,0,.arr 9 1 f.length (r_ f)),(1,none,0,.box 9 [.lit (.string b)]),(2,none,0,.box 3 [.lit (.int .i64 cut)]),(3,none,0,.box 63 [.lit (.slice none 0 0)])]⟩) (fun a w hg=>(hg.reset (kT:=[1,8,10,11]) (kO:=[6003,1,2,3]) (by rfl) ?_).same ?_ ?_) ?_
   ·refine⟨fun i _=>?_,trivial⟩
    unfold XF
    split<;>rfl
   ·refine .cons rfl (.cons rfl (.cons rfl (.cons ?_ .nil)));change dn (.ow 6003 0 Tryz.prog.types[9].size 0 ((f.length:Int)).toNat)=_;rw[hs1,Int.toNat_natCast]
   ·refine .cons (.arr ?_ (fun i hi=>?_)) (.cons (.box rfl) (.cons (.box rfl) (.cons (.box rfl) .nil)))
    ·exact Int.toNat_natCast _
    ·unfold XF;rw[Int.toNat_natCast] at hi ⊢;rw[if_pos (by omega)]
   have hgl:(f.getD s.toNat aS).size<=1000000:=by
    rw[zG,zH (by omega)];exact hf _ (List.getElem_mem _)
   refine aB M hI hn (by rfl) (by kernel_rfl) ?_ ?_
   ·simp;rw[<-zG];omega
   refine aB M hI hn (by rfl) (by kernel_rfl) ?_ ?_
   ·simp
   rw[List.length_set];refine aK (fun a w hg=>⟨.inr rfl,_,?_,hg⟩);refine kK (by rfl) (by simp) (by rfl) ?_;refine .lw (.cons (.agg (.cons (.row rfl trivial (by omega) (fun i hi=>?_) (fun i hi=>rfl)) .nil)) (.cons (.one (.cold rfl)) .nil));rw[Nat.zero_add]
   split
   ·rename_i e
    obtain rfl:i=s.toNat:=by omega
    unfold r_;rw[zG (l:=f.set _ _),List.getElem?_set_self (by omega),Nat.zero_add];rfl
   ·rename_i e;unfold r_;rw[zG (l:=f.set _ _),List.getElem?_set_ne (by omega),zG]
def Ws(f:Fl):List PC:=[.sl 1 f.length (r_ f)]
def aBH:Spec:=bD false fun xs=>match xs with
 |[v,.w (.one (.lit (.int .i64 s))),.w (.one (.lit (.string b))),.w (.one (.lit (.int .i64 cut)))]=>(match Dq v with
  |some (p,f)=>some (p/\(∀ x∈f,x.size<=1000000)/\f.length<=1000000,.lw [.agg (Ws (iQ f s b cut)),.one (.lit (.int .i64 (wQ f s b)))])
  |none=>none)
 |_=>none
theorem bFk:aj Tryz.prog a_ 131 aBH:=by
 refine bC (aF Tryz.func131 (by kernel_rfl) rfl) (fun xs p r hg hp=>?_)
 split at hg
 ·rename_i v s b cut
  cases hq:Dq v with
  |none=>rw[hq] at hg;cases hg
  | some q=>
   obtain⟨p0,f⟩:=q;rw[hq] at hg;cases hg
   exact (aZa f s b cut hp.2.1 hp.2.2).args fun C vs hv=>by
    match vs,hv with
    |[x0,x,y,z],⟨h0,h1,h2,h3,_⟩=>exact⟨aTa hq hp.1 h0,h1,h2,h3,trivial⟩
 ·cases hg
end Pv
end Go.Proofs.YtndpjopifkbgiaaGreatDoor
