/-
  Several texts in one file.
-/
import Derived.Test.YtndpjopifkbgiaaGreatDoorRnE
import Derived.Test.YtndpjopifkbgiaaGreatDoorCards
import Derived.Test.YtndpjopifkbgiaaGreatDoorTie
import Derived.Test.YtndpjopifkbgiaaGreatDoorRnA
import Derived.WalkKit
import Derived.ProofKit
import Derived.OpenShut
import Derived.ShutString
import Derived.ChangeOld
import Derived.Lib.SmallJoins
import Derived.Deep.Slices
import Derived.Deep.DeepHandedRow
import Derived.Lib.LaidTab
import Derived.Stop.LaidErr
import Derived.Test.YtndpjopifkbgiaaGreatDoorRnC
set_option maxRecDepth 100000
set_option maxHeartbeats 4000000
namespace Go.Proofs.YtndpjopifkbgiaaGreatDoor
open Go.RowKit Go.Proofs.Tryz
open _root_.Go.IntKind renaming wrap_i64->PP,u8->uC
open _root_.Int renaming tmod_eq_emod_of_nonneg->aEI,toNat_natCast->VM
open _root_.Nat renaming zero_add->mf,le_of_ble_eq_true->aBO,le_trans->ry,zero_le->x8,beq->bz,le_refl->dE,succ_mul->aDL,sub_self->aBa,lt_or_ge->aAW
open _root_.List renaming drop->aBQ,mem_cons_self->aAw,length_append->gz,flatMap_cons->aDQ,not_mem_nil->aAe,range->yz,mem_cons->xn,getElem?_cons_zero->aBN,getElem?_cons_succ->aCQ,getElem?_eq_none->PR,flatMap_append->aFe,getElem?_map->aAg,foldl_append->aDT,length_drop->MM,range_succ->aEF,append_nil->AC,drop_drop->aCW
open _root_.Go renaming TypeId->bu,World->ae,Value->ag,Program->ed,MemPlace->aDC
namespace Pv
def Du(e:EvS):Nat:=(e.dev % 3).toNat
def jH(e:EvS):Int:=2+e.kind % 6
def GR(e:EvS):jm:={ Bv (Du e) (jH e) with payload:=strOf [112,UInt8.ofNat e.msg.toNat] }
def Ee{a:Type}(l:List a)(d:a)(n:Int):a:=l.getD (n % l.length).toNat d
def VK(S:vw)(e:EvS)(m:jm):jm:=bif jH e==5 then { m with ot:=(Ee S.Bz FK e.msg).t,ol:=(Ee S.Bz FK e.msg).l } else m
def WW(S:vw)(e:EvS)(m:jm):jm:=bif jH e==7 then { m with xt:=(Ee S.BO CV e.msg).t,xl:=(Ee S.BO CV e.msg).l,bn:=(Ee S.BO CV e.msg).n,bc:=(Ee S.BO CV e.msg).c,bt:=(Ee S.BO CV e.msg).g } else m
def Hg(S:vw)(e:EvS):jm:=WW S e (VK S e (GR e))
def DN(S:vw)(e:EvS):jr:=bif e.replay % 2==1 then { S.h (Du e) with f:=Ee (S.p (Du e)) [] (e.replay / 2) } else S.h (Du e)
def BZ{b:Type}(f:Nat->b)(k:Nat)(a:b)(i:Nat):b:=match bz i k with
 |true=>a|false=>f i
def Ue(S:vw)(e:EvS):QS:=fE (nZ e) (dA (Hg S e)) (DN S e) 0
def II(S:vw)(k:Nat)(q:QS):vw:={ S with h:=BZ S.h k q.2.1,p:=BZ S.p k (S.p k++[q.2.1.f]) }
def Fp(q:QS):Bool:=bif !q.1.isSome then true else (bG q.1).err != 0
def VZ(b:Bool)(q:QS):Bool:=bif b then true else bif q.1.isSome then (bG q.1).err==12 else false
def Ej(o:Int)(b:Bool)(l:List Int):Bool:=l.foldl (fun b x=>bif b then true else decide (o<=x)) b
def stepT(S:vw)(k:Nat)(a:Int)(q:QS):vw:=bif Fp q then { II S k q with bad:=VZ S.bad q }
 else bif a==2 then { II S k q with bad:=Ej (bG q.1).session S.bad (S.se k),se:=BZ S.se k (S.se k++[(bG q.1).session]) }
 else bif a==4 then { II S k q with Bz:=S.Bz++[⟨(bG q.1).ot,(bG q.1).ol⟩] }
 else bif a==5||a==6 then { II S k q with BO:=S.BO++[⟨(bG q.1).xt,(bG q.1).xl,(bG q.1).bn,(bG q.1).bc,(bG q.1).bt⟩] } else II S k q
def bJc(S:vw)(e:EvS):Bool:=(jH e==5&&S.Bz.isEmpty)||(jH e==7&&S.BO.isEmpty)
def stepS(S:vw)(e:EvS):vw:=bif bJc S e then S else stepT S (Du e) (jH e) (Ue S e)
structure VS(S:vw):Prop where
 Qk:∀ k,k<3->qx (S.h k)
 p1:∀ k,k<3->1<=(S.p k).length/\(S.p k).length<=100000
 pf:∀ k,k<3->∀ f∈S.p k,qx { S.h k with f:=f }
 on:S.Bz.length<=100000
 ok:∀ o∈S.Bz,o.t.length=16/\gy o.l
 tn:S.BO.length<=100000
 tk:∀ o∈S.BO,o.t.length=16/\gy o.l/\gy o.n/\o.c.size<=2000
 sn:∀ k,k<3->(S.se k).length<=100000
def BF:List (Nat×Spec):=[(14,aV true Gw),(16,aV true UW),(15,aV false bFj)]
theorem aFR:∀ p∈BF,b_ prog af p.1 p.2:=by intro p a;simp only[BF,xn,aAe,or_false] at a;rcases a with rfl|rfl|rfl;exact aFp;exact bCb;exact aCh
theorem stM:jq prog af (find BF):=⟨aY aFR,dB⟩
def st3(S:vw)(e:EvS)(k:Nat)(m:jm):St:=⟨[(5,none,dm (.pt 2007 0 0)),(4,none,dw k),(3,none,dm (.pt 0 0 0)),(0,none,dm (.pt 900010 0 0))],
 (2007,none,0,.box 31 (w_ m))::(0,none,0,.box 46 (F6 e))::headW (D6 S)⟩
def aFX(S:vw)(e:EvS)(k:Nat)(m:jm)(h:jr):St:=⟨[(6,none,dm (.pt 10007 0 0)),(5,none,dm (.pt 2007 0 0)),(4,none,dw k),(3,none,dm (.pt 0 0 0)),(0,none,dm (.pt 900010 0 0))],
 (10007,none,0,.box 65 (qi h))::(2007,none,0,.box 31 (w_ m))::(0,none,0,.box 46 (F6 e))::headW (D6 S)⟩
def aQU(S:vw)(k:Nat)(m:jm)(q:QS):St:=⟨[(10,none,t_ q.1.isSome),(8,none,dm (.pt 13011 0 0)),(7,none,dm (.pt 13010 0 0)),(5,none,dm (.pt 2007 0 0)),(4,none,dw k),(0,none,dm (.pt 900010 0 0))],
 (13010,none,0,.box 65 (qi q.2.1))::(13011,none,0,.box 40 (h_ (bG q.1)))::(2007,none,0,.box 31 (w_ m))::headW (D6 S)⟩
def aFW(U:vw)(k:Nat)(m:jm)(q:QS):St:=⟨[(10,none,t_ q.1.isSome),(8,none,dm (.pt 13011 0 0)),(5,none,dm (.pt 2007 0 0)),(4,none,dw k),(0,none,dm (.pt 900010 0 0))],
 (13011,none,0,.box 40 (h_ (bG q.1)))::(2007,none,0,.box 31 (w_ m))::headW (D6 U)⟩
theorem Jf{b:Type}{g:b->g_}(c:∀ a,(g a).all (bT false)=true){d:b}{l:List b}{n:Nat}:∀ i,i<n->(Fz g d l i).all (bT false)=true:=fun _ _=>c _
theorem Oy{e:EvS}(a:zn e):(IntKind.wrap .i64 e.dev).tmod 3=((Du e:Nat):Int):=by obtain⟨b,c⟩:=a.dev;unfold Du;rw[PP,show (e.dev+9223372036854775808) % 18446744073709551616-9223372036854775808=e.dev by omega,aEI b];omega
theorem Ud{e:EvS}(a:zn e):IntKind.wrap .i64 (2+(IntKind.wrap .i64 e.kind).tmod 6)=jH e:=by obtain⟨b,c⟩:=a.kind;unfold jH;rw[PP,PP,show (e.kind+9223372036854775808) % 18446744073709551616-9223372036854775808=e.kind by omega,aEI b];omega
theorem Z7{e:EvS}(b:zn e):e.replay.tmod 2=e.replay % 2/\IntKind.wrap .i64 (IntKind.wrap .u8 (e.replay.tdiv 2))=e.replay / 2/\0<=e.replay / 2:=by
 obtain⟨a,d⟩:=b.replay;have c:IntKind.wrap .u8 (e.replay.tdiv 2)=e.replay / 2:=by rw[Int.tdiv_eq_ediv_of_nonneg a];show (e.replay / 2) % 256=e.replay / 2;omega
 refine⟨aEI a,?_,a_⟩;rw[c,PP];omega
theorem aMe(e:EvS):Du e<3:=by unfold Du;omega
theorem aMr{n:Int}(hn:0<=n){a:Type}{l:List a}(hl:¬l=[]):n.tmod l.length=n % l.length/\0<=n % (l.length:Int)/\n % (l.length:Int)<l.length/\(n % (l.length:Int)).toNat<l.length:=by
 have e:0<l.length:=by
  cases l with
  |nil=>exact absurd rfl hl|cons x l=>simp
 have d:=Int.emod_nonneg n (b:=(l.length:Int)) a_;have c:=Int.emod_lt_of_pos n (b:=(l.length:Int)) a_;exact⟨aEI hn,d,c,a_⟩
theorem aOr{a:Type}{l:List a}:((l.length:Int)==0)=l.isEmpty:=by
 cases l with
 |nil=>rfl|cons x l=>simp;omega
theorem Z5{e:EvS}(a:zn e):Gg 2 fun i=>[[PC.lit (Value.int uC 112)],[PC.lit (Value.int uC e.msg)]][i]?.getD []:=by intro i f;obtain⟨d,c⟩:=a.msg;have b:i=0\/i=1:=a_;rcases b with rfl|rfl;rfl;simp[isByte,d,c]
theorem QK{a:Type}{g:a->g_}{d x:a}{l:List a}{c:Nat->g_}(h:c 0=g x):∀ i,i<l.length+1->ru l.length (Fz g d l) c i=Fz g d (l++[x]) i:=by intro i e;unfold ru Fz;rw[zG,zG];by_cases b:i<l.length;rw[au b,List.getElem?_append_left b];obtain rfl:i=l.length:=a_;rw[ah b,aBa,h,List.getElem?_append_right (dE _),aBa];rfl
theorem yM{a:Type}{l:List a}{x:a}:l.length+1=(l++[x]).length:=by rw[gz];rfl
def wPX(S:vw)(k i:Nat):g_:=[.ow (wPn i) 0 1 0 (match bz i k with
 |true=>(S.p i).length+1|false=>(S.p i).length)]
theorem X6(S:vw)(k:Nat)(q:QS)(i:Nat):wPX S k i=BN (II S k q) i:=by
 unfold wPX BN II BZ;dsimp only;cases h:bz i k with
 |false=>rfl|true=>rw[iy h];dsimp only;rw[yM]
def wSX(S:vw)(k i:Nat):g_:=[.ow (wSn i) 0 1 0 (match bz i k with
 |true=>(S.se i).length+1|false=>(S.se i).length)]
theorem X5(S:vw)(k:Nat)(b:Bool)(x:Int)(i:Nat):wSX S k i=BQ { S with bad:=b,se:=BZ S.se k (S.se k++[x]) } i:=by
 unfold wSX BQ BZ;dsimp only;cases h:bz i k with
 |false=>rfl|true=>rw[iy h];dsimp only;rw[yM]
theorem aGP{b:Type}{g:b->g_}(c:∀ a,(g a).all (bT false)=true){d:b}{l:List b}:∀ i,i<l.length->∀ x∈Fz g d l i,bT false x=true:=fun _ _=>List.all_eq_true.1 (c _)
theorem TW{a b:Nat}(h1:a<=100000)(h2:b<=1000):(a+1)*b<=140737488355328:=ry (Nat.mul_le_mul (Nat.succ_le_succ h1) h2) a_
theorem Cj:∀ l:Wr,zo l l
 |[]=>.nil|(_,_,_,.box _ _)::l=>.cb (Cj l)|(_,_,_,.arr _ _ _ _)::l=>.cons (.arr rfl fun _ _=>rfl) (Cj l)|(_,_,_,.dead)::l=>.cons .dead (Cj l)|(_,_,_,.dev _ _ _)::l=>.cons (.dev rfl) (Cj l)
theorem s25:prog.types[25].size=17:=ai
theorem s29:prog.types[29].size=35:=ai
theorem Bi{cs:List Prop} (h:All cs:=by
  simp only[AC,List.nil_append,List.cons_append,All,and_true];refine⟨?_,?_,?_,?_,?_,?_,?_,?_,?_,?_,?_⟩
  all_goals
   first
    |exact Jf (fun _=>rfl)
    |exact ca (iM _ _)
    |exact ca (yN (aGP (fun _=>rfl)) (List.all_eq_true.1 rfl))
    |(intro i a;rcases Gf a with rfl|rfl|rfl<;>rfl)
    |exact fun i a=>rfl):All cs:=h
theorem wsm{o a:Wr} (h:zo o a:=by
  refine .cons ?_ (.cons ?_ (.cons ?_ (.cons ?_ (.cons ?_ (.cons ?_ (.cons ?_ (.cons ?_ (.cons ?_ (.cons ?_ (.cons ?_ (.cons ?_ .nil)))))))))))
  all_goals
   first
    |exact .box rfl
    |exact .arr rfl fun _ _=>rfl
    |exact .arr yM (QK rfl)
    |exact .arr rfl fun i _=>X6 _ _ _ i|exact .arr rfl fun i _=>X5 _ _ _ _ i
    |(refine .arr rfl ?_;intro i b;rcases Gf b with rfl|rfl|rfl<;>rfl)
    |(refine .box ?_;unfold aFN;dsimp only;rw[<-yM];first|rw[s25]|rw[s29])):zo o a:=h
theorem Xw:prog.types[25].bytes<=1000:=aBO ai
theorem Xv:prog.types[29].bytes<=1000:=aBO ai
theorem aHM:prog.types[3].bytes<=1000:=aBO ai
def aQT(U:vw)(k:Nat)(m:jm)(q:QS)(b:Bool):St:=⟨[(236,none,t_ b),(8,none,dm (.pt 13011 0 0)),(5,none,dm (.pt 2007 0 0)),(4,none,dw k),(0,none,dm (.pt 900010 0 0))],
 (13011,none,0,.box 40 (h_ (bG q.1)))::(2007,none,0,.box 31 (w_ m))::headW (D6 U)⟩
theorem bJm(o:Int)(b:Bool)(l:List Int){i:Nat}(h:i<l.length):Ej o b (l.take (i+1))=(bif Ej o b (l.take i) then true else decide (o<=l.getD i 0)):=by unfold Ej;rw[lJ l i h,aDT,zG,zH h];rfl
def aFS(U:vw)(k:Nat)(m:jm)(q:QS)(i:Nat)(b:Bool):St:=⟨[(11,none,dw i),(8,none,dm (.pt 13011 0 0)),(5,none,dm (.pt 2007 0 0)),(4,none,dw k),(0,none,dm (.pt 900010 0 0))],
 (13011,none,0,.box 40 (h_ (bG q.1)))::(2007,none,0,.box 31 (w_ m))::headW (D6 { U with bad:=b })⟩
theorem OJ(S:vw){x:Nat}(h:x∈Aq):uo (D6 S) x=true:=by
 simp only[Aq,xn,aAe,or_false] at h
 rcases h with rfl|rfl|rfl|rfl|rfl|rfl|rfl|rfl|rfl|rfl|rfl|rfl<;>rfl
theorem bRt{a:Type}{l:List a}{d:a}{n:Int}(hn:0<=n)(hl:¬l=[]):Ee l d n∈l:=by obtain⟨_,_,_,h⟩:=aMr hn hl;unfold Ee;rw[zG,zH h];exact List.getElem_mem h
theorem aQb{a:Type}{p:a->Prop}{l:List a}{d:a}{n:Int}(hn:0<=n)(h:∀ x∈l,p x)(hd:p d):p (Ee l d n):=by by_cases b:l=[];subst b;exact hd;exact h _ (bRt hn b)
theorem bPc{S:vw}{e:EvS}(h:zn e)(hS:VS S):zl (Hg S e):=by
 have b:zl (GR e):=by have a:=Zw (Du e) (jH e);exact⟨a.root,a.link,a.ot,a.xt,a.ol,a.xl,a.bn,by show (strOf _).size<=10000;rw[bC];simp,a.bc⟩
 have g:gy 0:=by unfold gy;omega
 have i:=aQb (n:=e.msg) h.msg.1 hS.ok (d:=FK) ⟨rfl,g⟩;have f:=aQb (n:=e.msg) h.msg.1 hS.tk (d:=CV) ⟨rfl,g,g,by show aC.size<=2000;decide⟩;have c:zl (VK S e (GR e)):=by unfold VK;cases (jH e==5);exact b;exact⟨b.root,b.link,i.1,b.xt,i.2,b.xl,b.bn,b.payload,b.bc⟩
 unfold Hg WW;cases (jH e==7);exact c;exact⟨c.root,c.link,c.ot,f.1,c.ol,f.2.1,f.2.2.1,c.payload,f.2.2.2⟩
theorem P5{S:vw}{e:EvS}(a:zn e)(hS:VS S):qx (DN S e):=by unfold DN;cases (e.replay % 2==1);exact hS.Qk _ (aMe e);refine hS.pf _ (aMe e) _ (bRt (by have:=a.replay.1;omega) (fun h=>?_));have:=(hS.p1 _ (aMe e)).1;rw[h] at this;cases this
theorem J3(S:vw)(e:EvS)(E:zn e)(hS:VS S)(B:vw)(O:stepS S e=B):Eb prog af 13 (D6 S) (D6 B) [dm (.pt 900010 0 0),.w (.agg (F6 e))] (.o7 []):=by
 have M:=stM;have V:=aMe e;have ek:=Oy E;have e8:IntKind.wrap .i64 e.msg=e.msg:=by rw[PP];obtain⟨h1,h2⟩:=E.msg;omega
 refine aYq func13 rfl rfl (by rw[IJ];exact oC) (by rw[IJ];exact oC) (fun x t l h=>?_) (qF S) rfl (fun A Q n _ W=>?_);exact OJ B (by rw[<-IJ S];exact zK (mV h));refine aI ?_;refine bU ?_ ?_;simp;rw[ek];omega;refine aH ?_ ?_;simp;exact Z5 E;obtain⟨m0,H⟩:∃ m,GR e=m:=⟨_,rfl⟩;have I:m0.kind=jH e:=by rw[<-H];rfl
 refine bK (s':=st3 S e (Du e) m0) (fun a w g=>(
  (
   g.m_ n (R:=[(900012,BN S),(900018,BQ S)]) (kT:=[5,4,3,0]) (kO:=2007::0::Aq) ay (by
   exact Bi
   ))
  ).same ?_ ?_) ?_
 refine .cr (.cons ?_ ((iT _)));show dw _=dw _;rw[ek];refine .cons (.box ?_) (.cons (.box rfl) ?_);rw[<-H,ek,Ud E];rfl
 exact
  (Cj _)
 refine sK (fun u=>u=st3 S e (Du e) (VK S e m0)/\(jH e==5&&S.Bz.isEmpty)=false) ?_ (fun u o=>?_)
 ·refine eH (fun d=>?_) (fun d=>?_)
  ·rw[I] at d;refine jG ?_;refine aBn (b:=?_) ?_ (fun c=>?_) (fun c=>?_);rotate_left 1;rfl;rw[aOr] at c;have z:B=S:=by rw[<-O];unfold stepS bJc;rw[d,c];rfl
   rw[z]
   refine bZ (fun a w g=>⟨.inr rfl,_,xR (t:=[]) ay d_ rfl rfl rfl (qF _) (by rw[IJ];exact oC),
    (
     g.m_ n (R:=[(900012,BN S),(900018,BQ S)]) (kT:=[]) (kO:=Aq) ay (by
     exact Bi
     ))
    ⟩)
   refine fZ ?_;rw[aOr] at c;have s:¬S.Bz=[]:=fun h=>by rw[h] at c;cases c
   obtain⟨P,Z,Y,X⟩:=aMr E.msg.1 s;refine aS M W Q (ay) ai ?_ ?_;simp;rw[e8,P];exact⟨s,⟨Z,Y⟩,X⟩
   refine fun a w g=>⟨_,⟨rfl,by rw[d,c];rfl⟩,(
    (
     g.m_ n (R:=[(900012,BN S),(900018,BQ S)]) (kT:=[5,4,3,0]) (kO:=2007::0::Aq) ay (by
     exact Bi
     ))
    ).same ?_ ?_⟩
   exact iq;refine .cons (.box ?_) (.cons (.box rfl) ?_);rw[e8,P];simp only[mf];unfold VK;rw[d];rfl
   exact
    (Cj _)
  rw[I] at d;refine fH ?_
  refine fun a w g=>⟨_,⟨rfl,by rw[d];rfl⟩,(
   (
    g.m_ n (R:=[(900012,BN S),(900018,BQ S)]) (kT:=[5,4,3,0]) (kO:=2007::0::Aq) ay (by
    exact Bi
    ))
   ).same ?_ ?_⟩
  exact iq;refine .cons (.box ?_) (.cons (.box rfl) ?_);unfold VK;rw[d];rfl
  exact
   (Cj _)
 obtain⟨rfl,a3⟩:=o;obtain⟨m1,G⟩:∃ m,VK S e m0=m:=⟨_,rfl⟩
 have y:m1.kind=jH e:=by
  rw[<-G];unfold VK
  cases (jH e==5)<;>exact I
 rw[G];refine sK (fun u=>u=st3 S e (Du e) (WW S e m1)/\(jH e==7&&S.BO.isEmpty)=false) ?_ (fun u o=>?_)
 ·refine eH (fun d=>?_) (fun d=>?_)
  ·rw [y] at d;refine jG ?_;refine aBn (b:=?_) ?_ (fun c=>?_) (fun c=>?_);rotate_left 1;rfl
   ·rw[aOr] at c
    have z:B=S:=by
     rw[<-O];unfold stepS bJc;rw[d,c]
     cases (jH e==5&&S.Bz.isEmpty)<;>rfl
    rw[z]
    refine bZ (fun a w g=>⟨.inr rfl,_,xR (t:=[]) ay d_ rfl rfl rfl (qF _) (by rw[IJ];exact oC),
     (
      g.m_ n (R:=[(900012,BN S),(900018,BQ S)]) (kT:=[]) (kO:=Aq) ay (by
      exact Bi
      ))
     ⟩)
   refine fZ ?_;rw[aOr] at c;have s:¬S.BO=[]:=fun h=>by rw[h] at c;cases c
   obtain⟨P,Z,Y,X⟩:=aMr E.msg.1 s;refine aS M W Q (ay) ai ?_ ?_;simp;rw[e8,P];exact⟨s,⟨Z,Y⟩,X⟩
   refine fun a w g=>⟨_,⟨rfl,by rw[d,c];rfl⟩,(
    (
     g.m_ n (R:=[(900012,BN S),(900018,BQ S)]) (kT:=[5,4,3,0]) (kO:=2007::0::Aq) ay (by
     exact Bi
     ))
    ).same ?_ ?_⟩
   exact iq;refine .cons (.box ?_) (.cons (.box rfl) ?_);rw[e8,P];simp only[mf];unfold WW;rw[d];rfl
   exact
    (Cj _)
  rw[y] at d;refine fH ?_
  refine fun a w g=>⟨_,⟨rfl,by rw[d];rfl⟩,(
   (
    g.m_ n (R:=[(900012,BN S),(900018,BQ S)]) (kT:=[5,4,3,0]) (kO:=2007::0::Aq) ay (by
    exact Bi
    ))
   ).same ?_ ?_⟩
  exact iq;refine .cons (.box ?_) (.cons (.box rfl) ?_);unfold WW;rw[d];rfl
  exact
   (Cj _)
 obtain⟨rfl,a2⟩:=o;obtain⟨m,hm⟩:=jc (Hg S e);have T:WW S e m1=m:=by rw[<-hm,<-G,<-H];rfl
 have j:m.kind=jH e:=by
  rw[<-T];unfold WW
  cases (jH e==7)<;>exact y
 have D:stepT S (Du e) (jH e) (fE (nZ e) (dA m) (DN S e) 0)=B:=by rw[<-O];unfold stepS bJc Ue;rw[a3,a2,hm];rfl
 rw[T];clear T G H I y;have a8:prog.types[63].bytes<=1000:=aBO ai;have a4:zl m:=hm ▸ bPc E hS;have a7:qx (DN S e):=P5 E hS;obtain⟨r1,r2,r3⟩:=Z7 E;have hF:rE 250 (yu (nZ e))=nZ e:=by have:=aRy (nZ e);rw[aCy] at this;exact this
 obtain⟨k,C⟩:=jc (Du e);rw[C] at V D;refine aH ?_ ?_;simp;rw[C];exact⟨a_,V⟩;rw[C]
 refine bK (s':=aFX S e k m (S.h k)) (fun a w g=>(
  (
   g.m_ n (R:=[(900012,BN S),(900018,BQ S)]) (kT:=[6,5,4,3,0]) (kO:=10007::2007::0::Aq) ay (by
   exact Bi
   ))
  ).same ?_ ?_) ?_
 exact iq;refine .cons (.box ?_) (.cb (.cons (.box rfl) ?_));simp only[mf,VM];rfl
 exact
  (Cj _)
 have a5:=Gf V;rcases a5 with rfl|rfl|rfl
 let K:=0;rotate_left;let K:=1;rotate_left;let K:=2;rotate_left
 all_goals
  refine sK (fun u=>u=aFX S e K m (DN S e)) ?_ (fun u o=>?_);refine eH (fun d=>?_) (fun d=>?_);rw[r1] at d;have s:¬S.p K=[]:=fun h=>by have:=(hS.p1 K V).1;rw[h] at this;cases this
  obtain⟨P,Z,Y,X⟩:=aMr r3 s;refine aS M W Q (ay) ai ?_ ?_;simp;rw[r2,P];exact⟨s,⟨Z,Y⟩,X⟩
  refine fun a w g=>⟨_,rfl,(
   (
    g.m_ n (R:=[(900012,BN S),(900018,BQ S)]) (kT:=[6,5,4,3,0]) (kO:=10007::2007::0::Aq) ay (by
    exact Bi
    ))
   ).same ?_ ?_⟩
  exact iq;refine .cons (.box ?_) (.cb (.cons (.box rfl) ?_));change [_,PC.sl 1 (List.length ((S.p K).getD (0+((IntKind.wrap .i64 (IntKind.wrap .u8 (e.replay.tdiv 2))).tmod ↑(S.p K).length).toNat) [])) (vz ((S.p K).getD (0+((IntKind.wrap .i64 (IntKind.wrap .u8 (e.replay.tdiv 2))).tmod ↑(S.p K).length).toNat) [])),_]=_;rw[r2,P];simp only[mf];unfold DN;rw[C,d];rfl
  exact
   (Cj _)
  rw[r1] at d;refine fH ?_
  refine fun a w g=>⟨_,rfl,(
   (
    g.m_ n (R:=[(900012,BN S),(900018,BQ S)]) (kT:=[6,5,4,3,0]) (kO:=10007::2007::0::Aq) ay (by
    exact Bi
    ))
   ).same ?_ ?_⟩
  exact iq;refine .cons (.box ?_) (.cb (.cons (.box rfl) ?_));unfold DN;rw[C,d];rfl
  exact
   (Cj _)
  obtain rfl:=o;refine aH ?_ ?_;simp;refine⟨E,fun _ _=>rfl,a7,by simp[rE],a4⟩;obtain⟨q,hq⟩:=jc (fE (nZ e) (dA m) (DN S e) 0);rw[hq] at D
  refine bK (s':=aQU S K m q) (fun a w g=>(
   (
    g.m_ n (R:=[(900012,BN S),(900018,BQ S)]) (kT:=[10,8,7,5,4,0]) (kO:=13010::13011::2007::Aq) ay (by
    exact Bi
    ))
   ).same ?_ ?_) ?_
  refine .cons ?_ ((iT _));rw[<-hq];change t_ (fE (rE 250 (yu (nZ e))) (dA m) (⟨dF (DN S e).b.length (eY (DN S e).b),kC (DN S e).f.length (vz (DN S e).f),(DN S e).r⟩:jr) 0).1.isSome=_;rw[aQ,bV,hF];refine .cons (.box ?_) (.cons (.box ?_) (.cons (.box rfl) ?_));rw[<-hq];change qi (fE (rE 250 (yu (nZ e))) (dA m) (⟨dF (DN S e).b.length (eY (DN S e).b),kC (DN S e).f.length (vz (DN S e).f),(DN S e).r⟩:jr) 0).2.1=_;rw[aQ,bV,hF];rw[<-hq];change h_ (bG (fE (rE 250 (yu (nZ e))) (dA m) (⟨dF (DN S e).b.length (eY (DN S e).b),kC (DN S e).f.length (vz (DN S e).f),(DN S e).r⟩:jr) 0).1)=_;rw[aQ,bV,hF]
  exact
   (Cj _)
  refine aH ?_ ?_;simp[K];refine aH ?_ ?_;simp[K];exact TW (hS.p1 _ V).2 a8;obtain⟨U,hU⟩:=jc (II S K q);have L:U.Bz=S.Bz/\U.BO=S.BO/\U.se=S.se/\U.bad=S.bad:=by rw[<-hU];exact⟨rfl,rfl,rfl,rfl⟩
  refine bK (s':=aFW U K m q) (fun a w g=>(g.m_ n (R:=[(900012,wPX S K),(900018,BQ S)]) (kT:=[10,8,5,4,0]) (kO:=13011::2007::Aq) ay Bi).same ?_ ?_) ?_;exact iq;rw[<-hU];exact .cb (.cons (.box rfl) wsm);refine sK (fun u=>u=aFW U K m q/\Fp q=false) ?_ (fun u o=>?_);refine eH (fun d=>?_) (fun d=>?_);refine aH ?_ ?_;simp;exact fun a b=>⟨a,b⟩;have z:{ U with bad:=VZ U.bad q }=B:=by rw[<-D,<-hU];unfold stepT;rw[show Fp q=true from d];rfl
  rw[<-z]
  refine bZ (fun a w g=>⟨.inr rfl,_,xR (t:=[]) ay d_ rfl rfl rfl (qF _) (by rw[IJ];exact oC),
   (
    g.m_ n (R:=[(900012,BN U),(900018,BQ U)]) (kT:=[]) (kO:=Aq) ay (by
    exact Bi
    )).same .nil ?_⟩)
  exact
   (Cj _)
  refine fH ?_
  exact fun a w g=>⟨_,⟨rfl,d⟩,g.m_ n (R:=[(900012,BN U),(900018,BQ U)]) (kT:=[10,8,5,4,0]) (kO:=13011::2007::Aq) ay (by
   exact Bi
   )⟩
  obtain⟨rfl,a1⟩:=o
  have N:(bif jH e==2 then { U with bad:=Ej (bG q.1).session U.bad (U.se K),se:=BZ U.se K (U.se K++[(bG q.1).session]) }
    else bif jH e==4 then { U with Bz:=U.Bz++[⟨(bG q.1).ot,(bG q.1).ol⟩] }
    else bif jH e==5||jH e==6 then { U with BO:=U.BO++[⟨(bG q.1).xt,(bG q.1).xl,(bG q.1).bn,(bG q.1).bc,(bG q.1).bt⟩] } else U)=B:=by
   rw[<-D,<-hU];unfold stepT;rw[a1];rfl
  clear D O;refine aI ?_;refine aN ?_;refine aI ?_;refine aBn (b:=?_) ?_ (fun c=>?_) (fun c=>?_);rotate_left 1;rfl
  ·rw [j] at c;refine jG ?_
   refine bK (s':=aFS U K m q 0 (Ej (bG q.1).session U.bad ((U.se K).take 0))) (fun a w g=>(g.m_ n (R:=[(900012,BN U),(900018,BQ U)]) (kT:=[11,8,5,4,0]) (kO:=13011::2007::Aq) ay (by
    exact Bi
    )).same ?_ ?_) ?_
   exact iq;refine .cb (.cons (.box rfl) ?_)
   exact
    (Cj _)
   refine aN ?_;refine dX (U.se K).length (fun i t=>t=aFS U K m q i (Ej (bG q.1).session U.bad ((U.se K).take i))) 0 rfl a_ (fun i t hJ hi=>?_);subst hJ;obtain⟨b,hb⟩:=jc (Ej (bG q.1).session U.bad ((U.se K).take i));rw[hb];refine qG ?_ ?_;simp[K];refine cO (fun d=>?_) (fun d=>?_)
   ·refine gQ ?_;refine aN ?_;have a0:i<(U.se K).length:=by simp at d;omega
    have F:=hS.sn K V;rw[<-L.2.2.1] at F;refine aS M W Q (ay) ai ?_ ?_;simp[K];exact fun _=>a0;change kw _ _ _ _ _;refine fJ ?_
    refine fun a w g=>⟨i+1,_,a_,a_,rfl,(g.m_ n (R:=[(900012,BN U),(900018,BQ U)]) (kT:=[11,8,5,4,0]) (kO:=13011::2007::Aq) ay (by
     exact Bi
     )).same ?_ ?_⟩
    refine .cons ?_ ((iT _));have hw:IntKind.wrap .i64 ((i:Int)+1)=((i+1:Nat):Int):=by rw[PP];omega
    show dw _=_;rw[hw]
    ·refine .cb (.cons (.box rfl) ?_);rw[bJm _ _ _ a0,hb]
     exact
      (.cons (.box (by first|rfl|(simp only[mf,VM];rfl))) (Cj _))
   refine dK ?_;change kw _ _ _ _ _;refine aS M W Q (ay) ai ?_ ?_;simp[K];have F:=hS.sn K V;rw[<-L.2.2.1] at F;exact TW F aHM;have a6:i=(U.se K).length:=by simp at d;omega
   rw[a6,List.take_length] at hb;have z:{ U with bad:=b,se:=BZ U.se K (U.se K++[(bG q.1).session]) }=B:=by rw[<-N,c,<-hb];rfl
   rw[<-z];exact fun a w g=>⟨.inl rfl,_,xR (t:=[]) ay d_ rfl rfl rfl (qF _) (by rw[IJ];exact oC),(g.m_ n (R:=[(900012,BN U),(900018,wSX U K)]) (kT:=[]) (kO:=Aq) ay Bi).same .nil wsm⟩
  refine aI ?_;refine aBn (b:=?_) ?_ (fun d=>?_) (fun J=>?_);rotate_left 1;rfl;refine aS M W Q (ay) ai ?_ ?_;simp;rw[L.1];exact TW hS.on Xw;rw[j] at d c;have z:{ U with Bz:=U.Bz++[⟨(bG q.1).ot,(bG q.1).ol⟩] }=B:=by rw[<-N,c,d];rfl
  rw[<-z];exact fun a w g=>⟨.inl rfl,_,xR (t:=[]) ay d_ rfl rfl rfl (qF _) (by rw[IJ];exact oC),(g.m_ n (R:=[(900012,BN U),(900018,BQ U)]) (kT:=[]) (kO:=Aq) ay Bi).same .nil wsm⟩;refine sK (fun u=>u=aQT U K m q (jH e==5||jH e==6)) ?_ (fun u o=>?_);refine eH (fun d=>?_) (fun d=>?_);rw[j] at d;refine fH ?_
  refine fun a w g=>⟨_,rfl,(g.m_ n (R:=[(900012,BN U),(900018,BQ U)]) (kT:=[236,8,5,4,0]) (kO:=13011::2007::Aq) ay (by
   exact Bi
   )).same ?_ ?_⟩
  refine .cons ?_ ((iT _));show qc (.bool _)=qc (.bool _);rw[j,d];rfl;refine .cb (.cons (.box rfl) ?_)
  exact
   (Cj _)
  rw[j] at d;refine fJ ?_
  refine fun a w g=>⟨_,rfl,(g.m_ n (R:=[(900012,BN U),(900018,BQ U)]) (kT:=[236,8,5,4,0]) (kO:=13011::2007::Aq) ay (by
   exact Bi
   )).same ?_ ?_⟩
  refine .cons ?_ ((iT _));show qc (.bool _)=qc (.bool _);rw[j,d];rfl;refine .cb (.cons (.box rfl) ?_)
  exact
   (Cj _)
  obtain rfl:=o;refine cO (fun d=>?_) (fun d=>?_);refine aS M W Q (ay) ai ?_ ?_;simp;rw[L.2.1];exact TW hS.tn Xv;rw[j] at c J;have z:{ U with BO:=U.BO++[⟨(bG q.1).xt,(bG q.1).xl,(bG q.1).bn,(bG q.1).bc,(bG q.1).bt⟩] }=B:=by rw[<-N,c,J,d];rfl
  rw[<-z];exact fun a w g=>⟨.inl rfl,_,xR (t:=[]) ay d_ rfl rfl rfl (qF _) (by rw[IJ];exact oC),(g.m_ n (R:=[(900012,BN U),(900018,BQ U)]) (kT:=[]) (kO:=Aq) ay Bi).same .nil wsm⟩;refine fH ?_;rw[j] at c J;have z:U=B:=by rw[<-N,c,J,d];rfl
  rw[<-z];exact fun a w g=>⟨.inl rfl,_,xR (t:=[]) ay d_ rfl rfl rfl (qF _) (by rw[IJ];exact oC),(g.m_ n (R:=[(900012,BN U),(900018,BQ U)]) (kT:=[]) (kO:=Aq) ay Bi).same .nil wsm⟩
structure DK(o:jk):Prop where
 ot:o.ot.length=16
 ol:gy o.ol
 xt:o.xt.length=16
 xl:gy o.xl
 bn:gy o.bn
 bc:o.bc.size<=2000
theorem aLu:gy 0:=by unfold gy;omega
theorem DK.pl(s:Int)(p:jy)(e:Int):DK { ni with session:=s,payload:=p,err:=e }:=⟨rfl,aLu,rfl,aLu,aLu,by show aC.size<=2000;decide⟩
theorem bQa(root:di)(s:jy):(qR root s).1.payload.size<=s.size:=by
 unfold qR;cases b:wV root s.data.toList with
 |EM=>exact x8 _|Es=>exact x8 _|okR p=>have a:=aHt b;rw[show s.data.toList.length=s.size from Array.length_toList] at a;unfold MX;dsimp only;unfold WC;split;exact x8 _;unfold WB;dsimp only;have c:=kD (aBQ (dh (aBQ 16 (aBQ (dh (aBQ (dh p).2.1 p)).2.1 (aBQ (dh p).2.1 p)))).2.1 (aBQ 16 (aBQ (dh (aBQ (dh p).2.1 p)).2.1 (aBQ (dh p).2.1 p))));simp only[MM] at c;show (strOf _).size<=_;rw[bC];omega
theorem aTu(m:jm):aj.All (fun r:jv=>Dh r/\r.payload.size<=2000) (uw m):=by refine aj.All.bind (aCk 3) (fun s a=>?_);refine aj.All.bind (R:=fun _=>True) (aj.All.AP _) (fun _ _=>?_);refine aj.All.bind (R:=fun _=>True) (aj.All.AP _) (fun _ _=>?_);exact⟨aPv m.root s.content a_,ry (bQa _ _) a⟩
theorem aKt{a:di}{r:jv}(h1:r.ot.length=16)(h2:gy r.ol)(h3:r.payload.size<=2000):DK (iD a r):=by refine⟨rfl,aLu,h1,h2,h2,?_⟩;show (strOf _).size<=2000;rw[bC,cZ,show r.payload.data.toList.length=r.payload.size from Array.length_toList];exact h3
theorem UF(m:jm)(e:zl m)(b:m.id.length=16){f:Nat}(j:f<=16):aj.All DK (pY m f):=by have t:∀ {d c:Type} {R:c->Prop} {p:aj d} {g:d->aj c},(∀ a,aj.All R (g a))->aj.All R (p.bind g):=fun h=>aj.All.bind (R:=fun _=>True) (aj.All.AP _) fun a _=>h a;have i:∀ p,aj.All DK (nV m f p):=fun p=>t fun _=>t fun _=>DK.pl 0 p 0;unfold pY;split;exact t fun _=>aj.All.bind (i _) fun o h=>h;split;exact t fun _=>t fun _=>t fun _=>t fun _=>t fun _=>t fun _=>DK.pl _ _ 0;split;exact t fun _=>t fun _=>DK.pl 0 _ 0;split;exact t fun _=>⟨b,by show gy (f:Int);unfold gy;omega,rfl,aLu,aLu,by show aC.size<=2000;decide⟩;split;exact t fun _=>aj.All.bind (aTu m) fun r h=>t fun _=>t fun _=>t fun _=>aKt e.ot e.ol h.2;split;exact t fun _=>aj.All.bind (aTu m) fun r h=>t fun _=>aKt h.1.ot h.1.ol h.2;exact t fun _=>t fun _=>t fun _=>t fun _=>aj.All.bind (i _) fun o h=>h
theorem bRg{b:Type}{R:b->Prop}{k:Int->b}(f:∀ e,R (k e)){p:aj b}(h:aj.All R p):aj.All R (aj.catch k p):=by
 induction p with
 |ret a=>exact h|ask c g d=>unfold aj.catch;split;exact f _;exact fun r=>d r (h r)
theorem Sr(m:jm)(c:zl m)(a:m.id.length=16):aj.All DK (dA m):=by refine bRg (fun e=>DK.pl 0 aC e) ?_;refine aj.All.bind (R:=fun _=>True) (aj.All.AP _) fun _ _=>?_;exact aj.All.bind (aDo 3 16) fun n b=>UF m c a b
theorem bPa{b:Type}{R:b->Prop}(F:List qy){p:aj b}:aj.All R p->∀ h i o,(fE F p h i).1=some o->R o:=by
 induction p with
 |ret a=>intro h _ _ o e;cases e;exact h|ask c k d=>intro f h i o e;rw[fE] at e;split at e;cases e;exact d _ (f _) _ _ _ e
theorem aDx{e:Type}(F:List qy)(p:aj e):aj.InW p->∀ h i,qx h->qx (fE F p h i).2.1:=by
 induction p with
 |ret a=>intro _ h i d;exact d|ask c k f=>intro b h i d;rw[fE];split;exact d.step b.1 _;exact f _ (b.2 _) _ _ (d.step b.1 _)
theorem PL{h g:jr}(d:qx h)(e:qx g):qx { h with f:=g.f }:=⟨⟨d.ok.nb,d.ok.nc,d.ok.val,e.ok.nf,e.ok.sz,d.ok.rt⟩,d.n,d.l2,d.l3,e.f⟩
structure VU(S:vw):Prop where
 Qk:∀ k,k<3->qx (S.h k)
 p1:∀ k,k<3->1<=(S.p k).length
 pf:∀ k,k<3->∀ f∈S.p k,qx { S.h k with f:=f }
 ok:∀ o∈S.Bz,o.t.length=16/\gy o.l
 tk:∀ o∈S.BO,o.t.length=16/\gy o.l/\gy o.n/\o.c.size<=2000
structure VT(n:Nat)(S:vw):Prop where
 p:∀ k,k<3->(S.p k).length<=n
 o:S.Bz.length<=n
 t:S.BO.length<=n
 s:∀ k,k<3->(S.se k).length<=n
theorem VS.of{n:Nat}{S:vw}(h:VU S)(l:VT n S)(hn:n<=100000):VS S:=⟨h.Qk,fun k a=>⟨h.p1 k a,ry (l.p k a) hn⟩,h.pf,ry l.o hn,h.ok,ry l.t hn,h.tk,fun k a=>ry (l.s k a) hn⟩
theorem aOd{b:Type}(f:Nat->b)(k:Nat)(a:b):BZ f k a k=a:=by unfold BZ;rw[Nat.beq_refl]
theorem aOc{b:Type}(f:Nat->b){k i:Nat}(a:b)(h:i≠k):BZ f k a i=f i:=by
 unfold BZ;cases c:bz i k with
 |true=>exact absurd (iy c) h|false=>rfl
theorem Uf(S:vw)(e:EvS):(Hg S e).id.length=16:=by
 unfold Hg WW VK
 cases (jH e==7)<;>cases (jH e==5)<;>rfl
theorem J5{S:vw}{k:Nat}(j:k<3){q:QS}(h:VU S)(d:qx q.2.1):VU (II S k q):=by
 have c:∀ i,(II S k q).p i=if i=k then S.p k++[q.2.1.f] else S.p i:=fun i=>by by_cases e:i=k;subst e;rw[au rfl];exact aOd _ _ _;rw[ah e];exact aOc _ _ e
 have g:∀ i,(II S k q).h i=if i=k then q.2.1 else S.h i:=fun i=>by by_cases e:i=k;subst e;rw[au rfl];exact aOd _ _ _;rw[ah e];exact aOc _ _ e
 refine⟨fun i b=>?_,fun i b=>?_,fun i b f a=>?_,h.ok,h.tk⟩;rw[g];split;exact d;exact h.Qk i b;rw[c];split;rw[gz];simp;exact h.p1 i b;rw[c] at a;rw[g];by_cases e:i=k;rw[au e] at a ⊢;rcases List.mem_append.1 a with a|a;exact PL d (h.pf k j f a);rw[List.mem_singleton.1 a];exact d;rw[ah e] at a ⊢;exact h.pf i b f a
theorem J4{S:vw}{k n:Nat}(b:k<3){q:QS}(h:VT n S):VT (n+1) (II S k q):=by refine⟨fun i a=>?_,Nat.le_succ_of_le h.o,Nat.le_succ_of_le h.t,fun i a=>Nat.le_succ_of_le (h.s i a)⟩;by_cases e:i=k;subst e;show (BZ S.p i (S.p i++[q.2.1.f]) i).length<=_;rw[aOd,<-yM];exact Nat.succ_le_succ (h.p i a);show (BZ S.p k (S.p k++[q.2.1.f]) i).length<=_;rw[aOc _ _ e];exact Nat.le_succ_of_le (h.p i a)
theorem bJb{S:vw}{e:EvS}{n:Nat}(j:zn e)(h:VU S)(l:VT n S)(hn:n<=100000):VU (stepS S e)/\VT (n+1) (stepS S e):=by
 have m:=VS.of h l hn;have f:=aMe e;unfold stepS;cases bJc S e with
 |true=>exact⟨h,fun k f=>Nat.le_succ_of_le (l.p k f),Nat.le_succ_of_le l.o,Nat.le_succ_of_le l.t,fun k f=>Nat.le_succ_of_le (l.s k f)⟩| false=>
  have w:=bPc j m;have d:qx (Ue S e).2.1:=aDx _ _ (aFn _) _ _ (P5 j m)
  have g:DK (bG (Ue S e).1):=by
   cases u:(Ue S e).1 with
   |none=>exact DK.pl 0 aC 0|some o=>exact bPa _ (Sr _ w (Uf S e)) _ _ o u
  have a:=J5 f h d;have b:=J4 (q:=Ue S e) f l;show VU (stepT S (Du e) (jH e) (Ue S e))/\VT (n+1) (stepT S (Du e) (jH e) (Ue S e));unfold stepT;cases Fp (Ue S e);cases (jH e==2);cases (jH e==4);cases (jH e==5||jH e==6);exact⟨a,b⟩;refine⟨⟨a.Qk,a.p1,a.pf,a.ok,fun o c=>?_⟩,b.p,b.o,?_,b.s⟩;rcases List.mem_append.1 c with c|c;exact h.tk o c;rw[List.mem_singleton.1 c];exact⟨g.xt,g.xl,g.bn,g.bc⟩;show (S.BO++[_]).length<=_;rw[<-yM];exact Nat.succ_le_succ l.t
  refine⟨⟨a.Qk,a.p1,a.pf,fun o c=>?_,a.tk⟩,b.p,?_,b.t,b.s⟩;rcases List.mem_append.1 c with c|c;exact h.ok o c;rw[List.mem_singleton.1 c];exact⟨g.ot,g.ol⟩;show (S.Bz++[_]).length<=_;rw[<-yM];exact Nat.succ_le_succ l.o
  refine⟨⟨a.Qk,a.p1,a.pf,a.ok,a.tk⟩,b.p,b.o,b.t,fun i x=>?_⟩;show (BZ S.se (Du e) (S.se (Du e)++[_]) i).length<=_;by_cases r:i=Du e;rw[r,aOd,<-yM];exact Nat.succ_le_succ (l.s _ f);rw[aOc _ _ r];exact Nat.le_succ_of_le (l.s i x);exact⟨⟨a.Qk,a.p1,a.pf,a.ok,a.tk⟩,b.p,b.o,b.t,b.s⟩
def bJp:ji->Option (Prop×PV)
 |[]=>some (True,t_ true)|_=>none
theorem bDw:b_ prog af 9 (aV true bJp):=by refine aU (aB func9 ai rfl) (fun b p r a c=>?_);unfold bJp at a;split at a;cases a;exact bDv;cases a
theorem aPh{P:ed}{I:jg}{f:Nat}{args:ji}{b:Bool}(hI:∀ w a,Ext w a->I w->I a)(h:Eb P I f [] [] args (t_ b)):fQ P I f true args (t_ b):=by
 intro w c k q r;have l:∀ (i:Nat->ag),CG [] i=Non:=fun i=>funext fun b=>propext ⟨fun⟨x,o,h,_⟩=>(by cases h),False.elim⟩;have t:pq ⟨w,c,Af [] fun _=>undef⟩ args k:=by have:Af [] (fun _=>undef)=fun _=>none:=rfl;rw[this];exact r
 refine (h w c k (fun _=>undef) (fun a d=>hI w a (by rw[l] at d;exact d) q) (fun b ⟨x,o,h,_⟩=>by cases h) (fun x y b p=>by cases p) (fun x o h=>by cases h) t).mono ?_;rintro e a ⟨m,j,rfl,n,_,_,_,_,g⟩;rw[l] at n;refine⟨j,rfl,n,?_⟩;cases g with
 | w g=>cases g with
  |one g=>cases g with
   |lit s=>exact .w (.one (.lit s))
def WS(S:vw)(e:EvS)(os:yg)(ys:ji):Option (Prop×yg×PV):=some (os=D6 S/\ys=[dm (.pt 900010 0 0),.w (.agg (F6 e))]/\VS S/\zn e,D6 (stepS S e),.o7 [])
def aJA(a:vw)(os:yg)(ys:ji):Option (Prop×yg×PV):=some (os=[]/\ys=[],D6 a,dm (.pt 900010 0 0))
theorem Iw(S:vw)(e:EvS):b_ prog af 13 (wSpec false Aq (WS S e)):=bAc (aB func13 ai rfl) fun h g p a r c b=>by cases c;obtain⟨rfl,rfl,f,d⟩:=b;exact J3 S e d f _ rfl
theorem QH{a:vw}(hb:Eb prog af 12 [] (D6 a) [] (dm (.pt 900010 0 0))):b_ prog af 12 (wSpec true Aq (aJA a)):=bAc (aB func12 ai rfl) fun f e p b r d c=>by cases d;obtain⟨rfl,rfl⟩:=c;exact hb
def aWn:ji->Option (Prop×PV)
 |[.w (.agg c),.w (.agg ol),.w (.one d)]=>match BI c,rX ol,GK d with
  |some (p,a),some m,some (b,F)=>some (p/\b/\qx a/\F.length<=1000000/\Ff m,aSx (fE F (dA m) a 0))|_,_,_=>none
 |_=>none
theorem aWo:b_ prog af 17 (aV false aWn):=by
 refine aU (aB func17 ai rfl) (fun o p r a i=>?_);unfold aWn at a;split at a;rename_i u t x;split at a;rename_i s j m q F n k l;cases a;obtain⟨g,f,e,d,c⟩:=i
 exact (bEa m c j F e d).args fun C b h=>by
  match b,h with
  | [v1,v2,v3],⟨k1,k2,k3,_⟩=>
   rw[lQ k] at k2;refine⟨?_,k2,?_,trivial⟩;cases k1 with
   |w k1=>cases k1 with
    |agg k1=>exact .w (.agg (tZ n g k1))
   cases k3 with
   |w k3=>cases k3 with
    |one k3=>exact .w (.one (bCa l f k3).2)
 cases a;cases a
def Je:ji->Option (Prop×PV)
 |[.w (.agg a),.w (.agg b)]=>match BI a,BI b with
  |some (p,x),some (q,y)=>some (p/\q/\x=y/\CP x,t_ true)|_,_=>none
 |_=>none
theorem aWg:b_ prog af 18 (aV true Je):=by
 refine aU (aB func18 ai rfl) (fun j p r a e=>?_);unfold Je at a;split at a;split at a;rename_i i h;cases a;obtain⟨g,f,rfl,b⟩:=e
 exact (bDx _ b.nb b.nc b.nf).args fun C c d=>by
  match c,d with
  | [v1,v2],⟨k1,k2,_⟩=>
   refine⟨?_,?_,trivial⟩;cases k1 with
   |w k1=>cases k1 with
    |agg k1=>exact .w (.agg (tZ i g k1))
   cases k2 with
   |w k2=>cases k2 with
    |agg k2=>exact .w (.agg (tZ h f k2))
 cases a;cases a
def rnL(a S:vw)(e:EvS):List (Nat×Spec):=[(9,aV true bJp),(12,wSpec true Aq (aJA a)),(13,wSpec false Aq (WS S e)),(14,aV true Gw),(16,aV true UW),(15,aV false bFj),(17,aV false aWn),(18,aV true Je)]
theorem rnM{b:vw}(hb:Eb prog af 12 [] (D6 b) [] (dm (.pt 900010 0 0)))(S:vw)(e:EvS):jq prog af (find (rnL b S e)):=⟨aY (fun p a=>by
 simp only[rnL,xn,aAe,or_false] at a;rcases a with rfl|rfl|rfl|rfl|rfl|rfl|rfl|rfl;exact bDw;exact QH hb;exact Iw S e;exact aFp;exact bCb;exact aCh;exact aWo
 exact aWg),dB⟩
def ev0:EvS:=⟨0,0,0,0,0,false⟩
theorem P6:zn ev0:=⟨jb,jb,jb,jb,jb⟩
def evF(E:List EvS):Nat->g_:=fun i=>F6 (E.getD i ev0)
def Ei(a:vw)(E:List EvS)(i:Nat):vw:=(E.take i).foldl stepS a
theorem aRg(a:vw)(E:List EvS){i:Nat}(h:i<E.length):Ei a E (i+1)=stepS (Ei a E i) (E.getD i ev0):=by unfold Ei;rw[lJ E i h,aDT,zG,zH h];rfl
theorem Ox{E:List EvS}(h:∀ e∈E,zn e)(i:Nat):zn (E.getD i ev0):=by
 rw[zG];cases a:E[i]? with
 |none=>exact P6|some e=>exact h e (List.mem_of_getElem? a)
theorem aRh{a:vw}(h0:VU a)(b:VT 1 a){E:List EvS}(c:∀ e∈E,zn e):∀ i,i<=E.length->i<=1000->VU (Ei a E i)/\VT (1+i) (Ei a E i)
 |0,_,_=>⟨h0,b⟩|i+1,g,h=>by obtain⟨f,d⟩:=aRh h0 b c i a_ a_;rw[aRg a E a_];exact bJb (n:=1+i) (Ox c i) f d a_
def aGU(S:vw)(E:List EvS)(e:EvS)(a:Int)(i:Nat):St:=⟨[(9,none,dw i),(8,none,dm (.pt 900010 0 0)),(7,none,t_ true),(4,none,dm (.pt 0 0 0)),(2,none,dm (.lit (.int .u8 a))),(0,none,dm (.sl 6 E.length (evF E)))],
 (0,none,0,.box 46 (F6 e))::headW (D6 S)⟩
def FI(S:vw)(e:EvS)(m:jm):jm:=bif S.Bz.isEmpty then m else { m with ot:=(Ee S.Bz FK e.msg).t,ol:=(Ee S.Bz FK e.msg).l }
def Gs(S:vw)(e:EvS)(m:jm):jm:=bif S.BO.isEmpty then m else { m with xt:=(Ee S.BO CV e.msg).t,xl:=(Ee S.BO CV e.msg).l,bn:=(Ee S.BO CV e.msg).n,bc:=(Ee S.BO CV e.msg).c,bt:=(Ee S.BO CV e.msg).g }
theorem bBm{a:Type}{l:List a}:decide ((l.length:Int) > 0)=!l.isEmpty:=by
 cases l with
 |nil=>rfl|cons x l=>simp
theorem Xh{S:vw}{e:EvS}(h:zn e)(hS:VS S)(k:Nat)(f:Int):Ff (Gs S e (FI S e { Bv k f with payload:=strOf [110,101,120,116] })):=by
 have a:Ff { Bv k f with payload:=strOf [110,101,120,116] }:=by have c:=Zw k f;exact⟨⟨c.root,c.link,c.ot,c.xt,c.ol,c.xl,c.bn,by show (strOf _).size<=10000;rw[bC];simp,c.bc⟩,rfl,by show (strOf _).size<=5000;rw[bC];simp⟩
 have i:=aQb (n:=e.msg) h.msg.1 hS.ok (d:=FK) ⟨rfl,QU⟩;have g:=aQb (n:=e.msg) h.msg.1 hS.tk (d:=CV) ⟨rfl,QU,QU,by show aC.size<=2000;decide⟩;have b:Ff (FI S e { Bv k f with payload:=strOf [110,101,120,116] }):=by unfold FI;cases S.Bz.isEmpty;exact⟨⟨a.ok.root,a.ok.link,i.1,a.ok.xt,i.2,a.ok.xl,a.ok.bn,a.ok.payload,a.ok.bc⟩,a.id,a.pay⟩;exact a
 unfold Gs;cases S.BO.isEmpty;exact⟨⟨b.ok.root,b.ok.link,b.ok.ot,g.1,b.ok.ol,g.2.1,g.2.2.1,b.ok.payload,g.2.2.2⟩,b.id,b.pay⟩;exact b
def rnA(S:vw)(e:EvS)(k:Nat)(m:jm):St:=⟨[(11,none,dm (.pt 10005 0 0)),(10,none,dw k),(8,none,dm (.pt 900010 0 0)),(7,none,t_ true),(4,none,dm (.pt 0 0 0))],
 (10005,none,0,.box 31 (w_ m))::(0,none,0,.box 46 (F6 e))::headW (D6 S)⟩
def rnB(S:vw)(e:EvS)(k:Nat)(m:jm)(q:QS):St:=⟨[(15,none,t_ q.1.isSome),(14,none,dw q.2.2),(13,none,dm (.pt 16017 0 0)),(12,none,dm (.pt 16016 0 0)),(11,none,dm (.pt 10005 0 0)),(10,none,dw k),(8,none,dm (.pt 900010 0 0)),(7,none,t_ true),(4,none,dm (.pt 0 0 0))],
 (16016,none,0,.box 65 (qi q.2.1))::(16017,none,0,.box 40 (h_ (bG q.1)))::(10005,none,0,.box 31 (w_ m))::(0,none,0,.box 46 (F6 e))::headW (D6 S)⟩
def rnC(q:QS):St:=⟨[(19,none,t_ q.1.isSome),(18,none,dw q.2.2),(17,none,dm (.pt 17017 0 0)),(16,none,dm (.pt 17016 0 0)),(15,none,t_ q.1.isSome),(14,none,dw q.2.2),(13,none,dm (.pt 16017 0 0)),(12,none,dm (.pt 16016 0 0)),(7,none,t_ true)],
 [(16016,none,0,.box 65 (qi q.2.1)),(16017,none,0,.box 40 (h_ (bG q.1))),(17016,none,0,.box 65 (qi q.2.1)),(17017,none,0,.box 40 (h_ (bG q.1)))]⟩
theorem aWv{s:vw}(hb:Eb prog af 12 [] (D6 s) [] (dm (.pt 900010 0 0)))(h0:VU s)(l0:VT 1 s)(E:List EvS)(hE:∀ e∈E,zn e)(e:EvS)(z:zn e)(j:Int)(V:0<=j/\j<256) :
  Eb prog af 4 [] [] [dm (.sl 6 E.length (evF E)),.w (.agg (F6 e)),dm (.lit (.int .u8 j))] (t_ true):=by
 have M:=rnM hb s e;refine aYq func4 rfl rfl rfl rfl (fun x t l h=>by cases h) (fun q h=>by cases h) rfl (fun A H u hS J=>?_);refine iC ?_;refine aJ (fun c=>?_) (fun c=>?_);refine aI ?_;exact bZ (fun a w d=>⟨.inr rfl,_,⟨_,ay,d_,rfl,rfl,rfl,fun q B=>by cases B⟩,d⟩);have h4:E.length<=4:=by have:=of_decide_eq_false c;omega
 refine jK ?_ ?_;simp;exact fun a b h=>qF s (a,b) h;refine jG ?_
 refine bK (s':=aGU (Ei s E 0) E e j 0) (fun a w d=>(d.m_ u (R:=[(900012,BN s),(900018,BQ s)]) (kT:=[9,8,7,4,2,0]) (kO:=0::Aq) ay (by
  exact Bi
  )).same ?_ ?_) ?_
 exact iq;refine .cons (.box rfl) ?_
 exact
  (Cj _)
 refine aN ?_;refine dX E.length (fun i t=>t=aGU (Ei s E i) E e j i) 0 rfl a_ (fun i t hJ hi=>?_);subst hJ;obtain⟨Q,k2⟩:=aRh h0 l0 hE i hi a_;have X:=VS.of Q k2 a_;have o:=fun h=>aRg s E (i:=i) h;obtain⟨S,Y⟩:=jc (Ei s E i);rw[Y] at Q k2 X o ⊢;have M:=rnM hb S (E.getD i ev0);refine aJ (fun c=>?_) (fun c=>?_);have F:i<E.length:=by simp at c;omega
 refine gQ ?_;refine aN ?_;refine aS M J H (ay) ai ?_ ?_;have hh:=qF S;have Z:=Ox hE i;rw[zG] at Z;simp[D6] at hh;simp;exact⟨F,⟨rfl,rfl,X,Z⟩,hh,fun a b h=>qF _ (a,b) h⟩;change kw _ _ _ _ _;refine fJ ?_;have hw:IntKind.wrap .i64 ((i:Int)+1)=((i+1:Nat):Int):=by rw[PP];omega
 obtain⟨S2,G⟩:=jc (stepS S (E.getD i ev0));have o:=o F;rw[G] at o;rw[G]
 refine fun a w d=>⟨i+1,_,a_,a_,rfl,(d.m_ u (R:=[(900012,BN S2),(900018,BQ S2)]) (kT:=[9,8,7,4,2,0]) (kO:=0::Aq) ay (by
  exact Bi
  )).same ?_ ?_⟩
 refine .cons ?_ ((iT _));show dw _=_;rw[hw];rw[o];refine .cons (.box rfl) ?_
 exact
  (Cj _)
 have a0:i=E.length:=by simp at c;omega
 refine dK ?_;change kw _ _ _ _ _;have K:=Oy z;have I:=aMe e;have e9:(IntKind.wrap .i64 j).tmod 9=j % 9:=by rw[PP,show (j+9223372036854775808) % 18446744073709551616-9223372036854775808=j by omega,aEI V.1]
 have L:IntKind.wrap .i64 e.msg=e.msg:=by rw[PP];obtain⟨h1,Z⟩:=z.msg;omega
 refine bU ?_ ?_;simp;rw[K];omega;refine aI ?_;obtain⟨k,U⟩:=jc (Du e);rw[U] at K I
 refine bK (s':=rnA S e k { Bv k (j % 9) with payload:=strOf [110,101,120,116] }) (fun a w d=>(d.m_ u (R:=[(900012,BN S),(900018,BQ S)]) (kT:=[11,10,8,7,4]) (kO:=10005::0::Aq) ay (by
  exact Bi
  )).same ?_ ?_) ?_
 refine .cr (.cons ?_ ((iT _)));show dw _=dw _;rw[K];refine .cons (.box ?_) (.cons (.box rfl) ?_);rw[K,e9];rfl
 exact
  (Cj _)
 have n:=Xh z X k (j % 9);generalize ({ Bv k (j % 9) with payload:=strOf [110,101,120,116] }:jm)=m0 at n ⊢;refine sK (fun D=>D=rnA S e k (FI S e m0)) ?_ (fun D y=>?_);refine eH (fun c=>?_) (fun c=>?_);rw[bBm] at c;have c:S.Bz.isEmpty=false:=by simpa using c
 have p:¬S.Bz=[]:=fun h=>by rw[h] at c;cases c
 obtain⟨C,P,O,N⟩:=aMr z.msg.1 p;refine aS M J H (ay) ai ?_ ?_;simp;rw[L,C];exact⟨p,⟨P,O⟩,N⟩
 refine fun a w d=>⟨_,rfl,(d.m_ u (R:=[(900012,BN S),(900018,BQ S)]) (kT:=[11,10,8,7,4]) (kO:=10005::0::Aq) ay (by
  exact Bi
  )).same ?_ ?_⟩
 exact iq;refine .cons (.box ?_) (.cons (.box rfl) ?_);rw[L,C];simp only[mf];unfold FI;rw[c];rfl
 exact
  (Cj _)
 rw[bBm] at c;have c:S.Bz.isEmpty=true:=by simpa using c
 refine fH ?_
 refine fun a w d=>⟨_,rfl,(d.m_ u (R:=[(900012,BN S),(900018,BQ S)]) (kT:=[11,10,8,7,4]) (kO:=10005::0::Aq) ay (by
  exact Bi
  )).same ?_ ?_⟩
 exact iq;refine .cons (.box ?_) (.cons (.box rfl) ?_);unfold FI;rw[c];rfl
 exact
  (Cj _)
 obtain rfl:=y;generalize FI S e m0=m1 at n ⊢;refine sK (fun D=>D=rnA S e k (Gs S e m1)) ?_ (fun D y=>?_);refine eH (fun c=>?_) (fun c=>?_);rw[bBm] at c;have c:S.BO.isEmpty=false:=by simpa using c
 have p:¬S.BO=[]:=fun h=>by rw[h] at c;cases c
 obtain⟨C,P,O,N⟩:=aMr z.msg.1 p;refine aS M J H (ay) ai ?_ ?_;simp;rw[L,C];exact⟨p,⟨P,O⟩,N⟩
 refine fun a w d=>⟨_,rfl,(d.m_ u (R:=[(900012,BN S),(900018,BQ S)]) (kT:=[11,10,8,7,4]) (kO:=10005::0::Aq) ay (by
  exact Bi
  )).same ?_ ?_⟩
 exact iq;refine .cons (.box ?_) (.cons (.box rfl) ?_);rw[L,C];simp only[mf];unfold Gs;rw[c];rfl
 exact
  (Cj _)
 rw[bBm] at c;have c:S.BO.isEmpty=true:=by simpa using c
 refine fH ?_
 refine fun a w d=>⟨_,rfl,(d.m_ u (R:=[(900012,BN S),(900018,BQ S)]) (kT:=[11,10,8,7,4]) (kO:=10005::0::Aq) ay (by
  exact Bi
  )).same ?_ ?_⟩
 exact iq;refine .cons (.box ?_) (.cons (.box rfl) ?_);unfold Gs;rw[c];rfl
 exact
  (Cj _)
 obtain rfl:=y;generalize Gs S e m1=m at n ⊢;have hF:rE 250 (yu (nZ e))=nZ e:=by have:=aRy (nZ e);rw[aCy] at this;exact this
 have W:=Q.Qk k I;have ez:0+(k:Int).toNat=k:=by rw[VM];omega
 obtain⟨q,B⟩:=jc (fE (nZ e) (dA m) (S.h k) 0);have g:fE (rE 250 (yu (nZ e))) (dA m) (⟨dF (S.h (0+(k:Int).toNat)).b.length (eY (S.h (0+(k:Int).toNat)).b),kC (S.h (0+(k:Int).toNat)).f.length (vz (S.h (0+(k:Int).toNat)).f),(S.h (0+(k:Int).toNat)).r⟩:jr) 0=q:=by rw[aQ,bV,hF,ez];exact B
 have T:qx q.2.1:=by rw[<-B];exact aDx _ _ (aFn _) _ _ W
 refine aH ?_ ?_;simp;exact⟨a_,I,z,fun _ _=>rfl,W,by simp[rE],n.ok⟩
 refine bK (s':=rnB S e k m q) (fun a w d=>(d.m_ u (R:=[(900012,BN S),(900018,BQ S)]) (kT:=[15,14,13,12,11,10,8,7,4]) (kO:=16016::16017::10005::0::Aq) ay (by
  exact Bi
  )).same ?_ ?_) ?_
 refine .cons ?_ (.cons ?_ ((iT _)));exact congrArg (fun q:QS=>t_ q.1.isSome) g;exact congrArg (fun q:QS=>dw (q.2.2:Int)) g;refine .cons (.box ?_) (.cons (.box ?_) (.cb (.cons (.box rfl) ?_)));exact congrArg (fun q:QS=>qi q.2.1) g;exact congrArg (fun q:QS=>h_ (bG q.1)) g
 exact
  (Cj _)
 refine aH ?_ ?_;simp;exact⟨a_,I,z,fun _ _=>rfl,W,by simp[rE],n⟩;refine bK (s':=rnC q) (fun a w d=>(d.m_ u (R:=[]) (kT:=[19,18,17,16,15,14,13,12,7]) (kO:=[16016,16017,17016,17017]) ay d_).same ?_ ?_) ?_;refine .cons ?_ (.cons ?_ ((iT _)));exact congrArg (fun q:QS=>t_ q.1.isSome) g;exact congrArg (fun q:QS=>dw (q.2.2:Int)) g;refine .cb (.cb (.cons (.box ?_) (.cons (.box ?_) .nil)));exact congrArg (fun q:QS=>qi q.2.1) g;exact congrArg (fun q:QS=>h_ (bG q.1)) g;refine aNe M J H (outs:=?_) (s':=?_) ?_ ?_ ?_ ?_;rotate_left 2
 with_unfolding_all rfl
 kernel_rfl;simp;exact T.ok;refine bZ (fun a w d=>⟨.inr rfl,_,⟨_,ay,d_,rfl,?_,rfl,fun q B=>by cases B⟩,d⟩);refine congrArg t_ ?_;simp
theorem bEf(E:List EvS)(m:∀ e∈E,zn e)(e:EvS)(j:zn e)(a:Int)(c:0<=a/\a<256) :
  fQ prog af 4 true [dm (.sl 6 E.length (evF E)),.w (.agg (F6 e)),dm (.lit (.int .u8 a))] (t_ true):=by
 obtain⟨q,g⟩:=jc (fE [] (dA QW) (ET (lI 0)) 0);have n:qx q.2.1:=by rw[<-g];exact aDx _ _ (aFn _) _ _ (aUj _ rfl)
 have l:=V9 q _ _ _ rfl rfl rfl g;have h:∀ k,k<3->qx (F7 q (ET (lI 1)) (ET (lI 2)) k):=fun k d=>by rcases Gf d with rfl|rfl|rfl;exact n;exact aUj _ rfl;exact aUj _ rfl
 exact aPh bJ (aWv l ⟨h,fun _ _=>dE 1,(fun k d f i=>by rw[List.mem_singleton.1 i];exact h k d),(fun o b=>by cases b),(fun o b=>by cases b)⟩ ⟨fun _ _=>dE 1,x8 1,x8 1,fun _ _=>x8 1⟩ E m e j a c)
end Pv
section
open Go.ChangeShapes Go.WideShapes Go.ChangeAt Go.RowKit Go.Joins Go.Deep
open Go.ChangeMaps (open_string shut_string)
set_option linter.unusedVariables false
theorem own:ownKnob prog.godebug=none:=ai
theorem laidOut:laidOutB prog=true:=ai
theorem gK:prog.globalNamed "bootchain/sha.constants" = some 2:=ai
theorem Yq:(prog.globals[2]?).map (·.type)=some 269:=ai
theorem gH:prog.globalNamed "bootchain/sha.start" = some 0:=ai
theorem gHType:(prog.globals[0]?).map (·.type)=some 263:=ai
theorem ZP:prog.cellsOf 269=64:=ai
theorem ZQ:prog.cellsOf 263=8:=ai
theorem bCt:prog.cellsOf 203=1:=ai
def aKo(l:List UInt32):List Int:=l.map fun x=>(x.toNat:Int)
theorem aJM:(Rows.laid_bootchain_sha_constants:DataW Unit)=Lib.tabData .u32 (aKo Aj):=ai
theorem aJN:(Rows.laid_bootchain_sha_start:DataW Unit)=Lib.tabData .u32 (aKo oW):=ai
theorem aHk{W:ae}{a:String}{l:List UInt32}{g:Nat}(h:Lib.TabIs prog W a .u32 (aKo l))(f:prog.globalNamed a=some g):W.rangeAt g 0 (l.map w32):=by
 intro j v d;rw[aAg] at d;obtain⟨x,b,rfl⟩:=Option.map_eq_some_iff.1 d;have e:j<l.length:=by rcases aAW j l.length with c|c;exact c;rw[PR c] at b;cases b
 have:=h.cell f j (by unfold aKo;simpa using e);rw[show (aKo l).getD j 0=(x.toNat:Int) from by unfold aKo;simp[List.getD,b]] at this;simpa[w32] using this
theorem aKb{W:ae}(h:laidMetH prog [("bootchain/sha.constants",Rows.laid_bootchain_sha_constants),("bootchain/sha.start",Rows.laid_bootchain_sha_start)] W):af W:=by
 have a:laidMet prog [("bootchain/sha.constants",Rows.laid_bootchain_sha_constants),("bootchain/sha.start",Rows.laid_bootchain_sha_start)] W:=h;have b:=laidMet.tail a;rw[aJM] at a;rw[aJN] at b
 exact⟨aHk (Lib.tabIs_of_head gK Yq underlying269 underlying203 bCt ZP a) gK,
  aHk (Lib.tabIs_of_head gH gHType underlying263 underlying203 bCt ZQ b) gH⟩
def bBn(cs:jl):Obj->Obj
 |.cells _ t frozen=>.cells cs.toArray t frozen|o=>o
noncomputable def laidWorld (os:Os):ae:=
 { World.holding prog os ⟨#[],#[],[]⟩ with
  heap:=((World.holding prog os ⟨#[],#[],[]⟩).heap.modify 2 (bBn (Aj.map w32))).modify 0 (bBn (oW.map w32)) }
section
variable {H:Type} {enc:bu×ag->H} {P:ed} {w:ae} {base:Nat} {spare:Nat->Bool} {held:Bool}
theorem bDj{t e:bu}{k:Nat}{y:Nat}{cs:jl}{x:DataW H×List aDC}(V:P.underlying t=some (.slice e))(hk:P.cellsOf e=k)(K:0<k)(h:DataW.trod enc P w base spare held y t cs=some x) :
  ∃ (v:ag) (n:Nat) (E:Nat->jl) (m:Nat) (Y:Nat->DataW H×List aDC),cs=[v]/\Reads w k v n ((yz n).flatMap E)/\∀ i,i<n->(E i).length=k/\DataW.trod enc P w base spare held m e (E i)=some (Y i):=by
 rcases open_slice V h with⟨rfl,_⟩|⟨a,len,cap,m,n,D,T,O,hb,Z,X,I,hx,N⟩
 exact⟨_,0,fun _=>[],0,fun _=>(.nil,[]),rfl,by simpa using Reads.nil w k,fun i N=>a_⟩
 ·rw [hk] at N
  have g:len<=m:=by rw[I];split<;>omega
  have d:∀ i,∃ z,i<m->w.cells? base (a.add (i*k)) k=some z/\DataW.trod enc P w base spare held n e z=some (D i,T i):=fun i=>by by_cases h:i<m;obtain⟨c,hc⟩:=N i h;exact⟨c,fun _=>hc⟩;exact⟨[],fun A=>absurd A h⟩
  refine⟨_,len,fun i=>Classical.choose (d i),n,fun i=>(D i,T i),O,?_,fun i a0=>?_⟩;have o:∀ i,i<m->(Classical.choose (d i)).length=k/\∀ j,j<k->w.cell? ((a.add (i*k)).add j)=(Classical.choose (d i))[j]?:=fun i L=>by obtain⟨_,r,h3⟩:=World.cells?_some (Classical.choose_spec (d i) L).1;exact⟨r,h3⟩
  have f:∀ j,j<=m->((yz j).flatMap fun i=>Classical.choose (d i)).length=j*k:=by
   intro j
   induction j with
   |zero=>intro _;simp|succ j F=>intro hj;rw[aEF,aFe,gz,F a_];simp[(o j a_).1,aDL]
  have l:∀ j,j<=m->∀ q u,((yz j).flatMap fun i=>Classical.choose (d i))[q]?=some u->w.cell? (a.add q)=some u:=by
   intro j
   induction j with
   |zero=>intro _ q u h;simp at h| succ j F=>
    intro hj q u h;rw[aEF,aFe,List.getElem?_append] at h;rw[f j a_] at h;by_cases S:q<j*k;rw[au S] at h;exact F a_ q u h;rw[ah S] at h;simp only[aDQ,List.flatMap_nil,AC] at h
    have r:=(o j a_).2 (q-j*k) (by
     have:=(o j a_).1;rcases aAW (q-j*k) k with A|A;exact A
     rw[PR a_] at h;cases h)
    rw[bHo,show j*k+(q-j*k)=q from a_] at r;rw[r,h]
  refine⟨f len g,_,cap,rfl,Z,X,fun W=>?_⟩;have J:=f len g;obtain⟨B,G⟩:∃ B,((yz len).flatMap fun i=>Classical.choose (d i))[0]?=some B:=⟨_,zH (by rw[J];exact Nat.mul_pos W K)⟩;have Q:=l len g 0 B G;obtain⟨b,C,s⟩:=a;have p:s=none:=by simpa[Addr.add] using World.cell?_spot Q
  subst p;refine⟨b,C,rfl,fun j u U=>?_⟩;have:=l len g j u U;rwa [add_lit] at this;have r:=Classical.choose_spec (d i) a_;exact⟨(World.cells?_some r.1).2.1,r.2⟩
end
end
section
open Go.ChangeShapes Go.WideShapes Go.ChangeAt Go.RowKit Go.Joins Go.Deep
section
variable {H:Type} {enc:bu×ag->H} {P:ed} {w:ae} {base:Nat} {spare:Nat->Bool} {held:Bool}
end
end
section
open Go.ChangeShapes Go.WideShapes Go.ChangeAt Go.RowKit Go.Joins Go.Deep
def splitBy:List Nat->jl->List jl
 |[],_=>[]|n::ns,cs=>cs.take n::splitBy ns (cs.drop n)
def wS:Nat->List Nat->List (Nat×Nat)
 |_,[]=>[]|o,n::ns=>(o,n)::wS (o+n) ns
theorem xH:∀ (b:List Nat) (a:jl),a.length=b.sum->(splitBy b a).flatten=a
 |[],a,h=>by simpa[splitBy] using (List.eq_nil_of_length_eq_zero (by simpa using h)).symm|n::b,a,h=>by rw[List.sum_cons] at h;rw[splitBy,List.flatten_cons,xH b (a.drop n) (by rw[MM];omega),List.take_append_drop]
theorem aGn:∀ (b:List Nat) (d:jl) (i o n:Nat) (c:Nat),(wS c b)[i]?=some (c+o,n)->(splitBy b d).getD i []=(d.drop o).take n
 |[],d,i,o,n,c,h=>by simp[wS] at h|m::b,d,0,o,n,c,h=>by simp only[wS,aBN,Option.some.injEq,Prod.mk.injEq] at h;obtain⟨j,f⟩:=h;obtain rfl:o=0:=a_;subst f;rfl
 | m :: b,d,i+1,o,n,c,h=>by
  simp only[wS,aCQ] at h
  have g:m<=o:=by
   have:∀ (b:List Nat) (a i o n:Nat),(wS a b)[i]?=some (o,n)->a<=o:=by
    intro b
    induction b with
    |nil=>intro a i o n h;simp[wS] at h|cons k b e=>
     intro a i o n h;cases i with
     |zero=>simp only[wS,aBN,Option.some.injEq,Prod.mk.injEq] at h;omega|succ i=>simp only[wS,aCQ] at h;have:=e _ _ _ _ h;omega
   have:=this _ _ _ _ _ h;omega
  have:=aGn b (d.drop m) i (o-m) n (c+m) (by rw[show c+m+(o-m)=c+o from a_];exact h);show (splitBy b (d.drop m)).getD i []=_;rw[this,aCW,show m+(o-m)=o from a_]
theorem aKs{H:Type}{enc:bu×ag->H}{P:ed}{w:ae}{b:Nat}{a:Nat->Bool}{held:Bool}{t:bu}{l:Array Field}{ns:List Nat}{d:Nat}{cs:jl}{x:DataW H×List aDC}(p:P.underlying t=some (.struct l))
  (k:l.toList.map (fun f=>(f.offset,P.cellsOf f.type))=wS 0 ns) (hc:P.cellsOf t=ns.sum) (h:DataW.trod enc P w b a held d t cs=some x) :
  (splitBy ns cs).flatten=cs/\∀ i f,l[i]?=some f->∃ m y,DataW.trod enc P w b a held m f.type ((splitBy ns cs).getD i [])=some y:=by
 obtain⟨n,o,_,_,c,e,q⟩:=DataW.trod_struct p h;refine⟨xH ns cs (by rw[c,hc]),fun i f j=>?_⟩;have s:=q i f j;have g:i<n.length:=by rw[e];exact (Array.getElem?_eq_some_iff.1 j).1
 have r:(wS 0 ns)[i]?=some (0+f.offset,P.cellsOf f.type):=by rw[<-k,aAg,Array.getElem?_toList,j,mf];rfl
 rw[aGn ns cs i f.offset _ 0 r];exact⟨o,n[i],by rw[s,zH g]⟩
theorem bFf{H:Type}{enc:bu×ag->H}{P:ed}{v:ag}{d:DataW H}{p:List aDC}{W:ae}{b:Nat}{t:bu}{e:Array Field}{ns:List Nat}(g:P.underlying t=some (.struct e))
  (c:e.toList.map (fun f=>(f.offset,P.cellsOf f.type))=wS 0 ns) (hc:P.cellsOf t=ns.sum) (j:Value.okWide P W .any b t v) (h:DataW.Trod enc P W 0 (fun _=>true) true t v d p) :
  ∃ a:jl,v=.agg a.toArray/\(splitBy ns a).flatten=a/\∀ i f,e[i]?=some f->∃ m y,DataW.trod enc P W 0 (fun _=>true) true m f.type ((splitBy ns a).getD i [])=some y:=by
 obtain⟨a,rfl,_⟩:=okWide_struct g j;obtain⟨m,h⟩:=h;have k:DataW.trod enc P W 0 (fun _=>true) true m t a.toList=some (d,p):=h;have:=aKs g c hc k;exact⟨a.toList,by rw[Array.toArray_toList],this.1,this.2⟩
end
namespace Pv
open Go.ChangeShapes Go.WideShapes Go.ChangeAt Go.RowKit Go.Joins Go.Deep
theorem bCc{f:Type}(g:f->jl)(n:Nat):∀ (l:List f),(∀ a∈l,(g a).length=n)->∀ (i:Nat) (c:i<l.length),((l.flatMap g).drop (i*n)).take n=g l[i]
 |[],_,i,c=>by simp at c|a::l,h,0,c=>by rw[Nat.zero_mul,List.drop_zero,aDQ,List.take_append_of_le_length (by rw[h a aAw];omega),List.take_of_length_le (by rw[h a aAw];omega)];rfl|a::l,h,i+1,c=>by
  have e:i<l.length:=by simpa using c
  rw[aDQ,show (i+1)*n=(g a).length+i*n by rw[h a aAw,aDL,Nat.add_comm],<-aCW,List.drop_left,bCc g n l (fun b j=>h b (List.mem_cons_of_mem _ j)) i e];rfl
def argX(w:ae):Ctx:={ w:=w,ok:=fun _=>True,env:=fun _=>none }
section
variable {H:Type} {enc:bu×ag->H} {w:ae} {base:Nat} {spare:Nat->Bool} {held:Bool}
variable {v:ag} {d:DataW H} {p:List aDC} {W:ae}
theorem fQ.law{P:ed}{I:jg}{f:Nat}{new:Bool}{args:ji}(h:fQ P I f new args (t_ true)){vs:jl}(hI:I W)(b:pq (argX W) args vs):Calls P f vs.toArray W fun e i=>e=.returned (.bool true)/\Ext W i:=by refine (h W (fun _=>True) vs hI b).mono ?_;rintro e j ⟨a,rfl,g,c⟩;exact⟨congrArg Ending.returned c.gu,g⟩
end
end Pv
end Go.Proofs.YtndpjopifkbgiaaGreatDoor
