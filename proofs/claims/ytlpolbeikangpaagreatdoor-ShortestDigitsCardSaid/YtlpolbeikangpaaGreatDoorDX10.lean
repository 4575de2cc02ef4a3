/-
  Zo Zp Zq Lzq Fa Fb
-/
import Derived.Test.YtlpolbeikangpaaGreatDoorDX4
import Derived.Test.YtlpolbeikangpaaGreatDoorDX9
import Derived.Test.YtlpolbeikangpaaGreatDoorDX3
import Derived.Test.YtlpolbeikangpaaGreatDoorRows
import Derived.Test.YtlpolbeikangpaaGreatDoorDX1
import Derived.ProofKit
import Derived.OpenShut
import Derived.LaidMore
import Derived.Lay
import Derived.SevenTiedAt
import Derived.Stop.Joined
set_option linter.unusedSimpArgs false
set_option linter.unusedVariables false
set_option maxRecDepth 100000
namespace Go.Proofs.YtlpolbeikangpaaGreatDoor.L
open Go Go.RowKit Go.Proofs
attribute [local go_sem] evalOps_nil evalOps_cons runW_t runW_f runE_s runP_s wantA evalOp effOp letters okDst coreA St.opv St.get St.at look constA St.put St.upd St.set decide_true List.all_nil List.all_cons Bool.and_true Bool.true_and and_self and_true true_and if_true if_false true_or Int.sub_zero List.nil_append List.cons_append List.append_nil Option.isSome_some List.getElem?_toArray List.getElem?_cons_succ List.getElem?_cons_zero Option.bind_some Option.map_some Option.map_none beq_self_eq_true Bool.false_beq Bool.true_beq Bool.not_true Bool.not_false Bool.false_eq_true cond_true cond_false binA binI List.map_cons List.map_nil boundA List.length_nil List.length_cons Nat.zero_mul Nat.one_mul Nat.mul_one Nat.zero_add Nat.add_zero Nat.zero_le Option.toList St.freshB AV.ment AV.ments Blk.ment V.sizes Nat.lt_add_one Bool.or_true Bool.true_or Bool.or_false Bool.false_or Bool.or_self if_pos if_neg decide_false decide_eq_true decide_eq_false wrap_i64 Int.toNat_natCast minA maxA Int.natCast_add Int.cast_ofNat_Int Option.isSome_none false_implies true_implies forall_const List.drop_zero Int.toNat_zero Int.add_sub_cancel lenA sliceA loadA indexAddrA partA fitsT V.atP V.offP V.size List.length_map List.getElem?_map Int.toNat_natCast_add_one Int.ofNat_eq_natCast TY calleeA capArg knotA capArgs toArgs toArg callA R.res R.mems R.blks R.av R.names R.nw invokeA storeA storeV fieldAddrA liveB V.off V.offs V.setP List.set_cons_zero List.set_cons_succ buildA buildP partsA appendA srcA copyA boxOk makeA AV.pure List.take_succ_cons List.take_zero nilA words unA entry List.zipIdx_cons List.zipIdx_nil Arg.av Arg.avs
theorem decG_first {n:Nat} (h:0<n) : ∃h0:0<(decG n).length,(decG n)[0]≠48:=by
 obtain ⟨l,c,e,h1,h2⟩:=tdL_top n n (by omega) (lt_ten_pow n)
 have e2:decG n=UInt8.ofNat c::l.reverse.map UInt8.ofNat:=by
  unfold decG
  rw [if_neg (by omega),e,List.reverse_append,List.reverse_singleton,List.singleton_append,List.map_cons]
 refine ⟨decG_pos n,?_⟩
 simp only [e2,List.getElem_cons_zero]
 intro hh
 have:=congrArg UInt8.toNat hh
 simp at this
 omega
theorem trim_dec {n C:Nat} (h:0<n) (hC:n<2^C) (hC2:1≤C∧C≤100000):FnOk Tryz.prog 93 [.v (.str (bs (decG n)))] [.v true (.str (bs (trR (decG n))))]:=by
 obtain ⟨h1,h2⟩:=decG_first h
 have:=dec_len hC hC2.1
 exact rTrim25_ok (decG n) (by omega) h1 h2
def rsS (ex:List (Nat×AV)) (mx:List (Nat×Blk)) (d:Nat) (a:Int) (N1 D1 M:List V) (kf p e:Int) (neg:Bool):St :=
 {nt:=97,env:=ex++[(8,.v true (.int .i64 d)),(7,.v true (.int .i64 a)),(6,.ptr 6 0 [] 0),(2,.ptr 2 0 [] 0),(3,.ptr 3 0 [] 0)],mem:=mx++[(6,.box 125 (.v false (.agg [.bool false,.sl 1 N1,.sl 1 D1,.int .i64 0,.int .i64 1]))),(2,.box 35 (.v false (.agg [.int .i64 kf,.int .i64 p]))),(3,.box 38 (.v false (.agg [.int .i64 1,.bool neg,.int .i64 e,.sl 1 M])))]}
def rsQ (kk:Option Nat) (s:Int) (M:St→Prop):Exit→St→Prop
 | .normal,σ=>kk=none∧M σ
 | .ret,σ => ∃k,kk=some k∧RetOk Tryz.prog Tryz.f29 σ [.v true (.str (bs (trR (decG k)))),.v true (.int .i64 (s+(decG k).length-1))]
 | _,_=>False
set_option maxHeartbeats 1000000 in
theorem rs_fin {cx:Cx} {w0:World} (k:Nat) (s:Int) (kk:Option Nat) (M:St→Prop) (hkk:kk=some k) (hk:0<k) (C:Nat) (hC:k<2^C) (hC2:1≤C∧C≤400) (hs : -10000≤s∧s≤10000) :
 Holds Tryz.prog none cx w0 (codeAt Tryz.f29 [1,1,1,1,0,0,0,0,1,1,1,1,1,1,0,1,1]) {nt:=97,env:=[(16,.v true (words (digs k))),(9,.v true (.int .i64 s))],mem:=[]} (rsQ kk s M):=by
 have hT:=nTextG_ok k (by have:=digs_lenB hC (n:=7) (by omega);omega)
 have hR:=trim_dec hk hC (by omega)
 have hl:=dec_len hC hC2.1
 have hz:=bs_size (decG k)
 obtain ⟨W,hW⟩ : ∃x,x=digs k:=⟨_,rfl⟩
 obtain ⟨t,ht⟩ : ∃x,x=bs (decG k):=⟨_,rfl⟩
 rw [←hW] at hT ⊢
 rw [←ht] at hT hR hz
 have w1:IntKind.i64.wrap (s+(t.size:Int))=s+(decG k).length:=by rw [hz,wrap_i64] <;> omega
 have w2:IntKind.i64.wrap (s+((decG k).length:Int)-1)=s+(decG k).length-1:=by rw [wrap_i64] <;> omega
 suffices hh:Holds Tryz.prog none cx w0 (codeAt Tryz.f29 [1,1,1,1,0,0,0,0,1,1,1,1,1,1,0,1,1]) {nt:=97,env:=[(16,.v true (words W)),(9,.v true (.int .i64 s))],mem:=[]} (NR (fun _=>False) (fun σ=>RetOk Tryz.prog Tryz.f29 σ [.v true (.str (bs (trR (decG k)))),.v true (.int .i64 (s+(decG k).length-1))])) by
  refine hh.mono fun x σ hx=>?_
  cases x <;> first | exact hx.elim | exact ⟨k,hkk,hx⟩
 obtain ⟨r,hr⟩ : ∃x,x=bs (trR (decG k)):=⟨_,rfl⟩
 rw [←hr] at hR ⊢
 obtain ⟨n,hn⟩ : ∃x,x=(decG k).length:=⟨_,rfl⟩
 rw [←hn] at w1 w2 ⊢
 clear hn hr ht hW hC hkk hz hl
 refine zs2 (ρ:=fun _=>[.v true (.str t)]) (o:=by repeat' first|exact hT|trivial|constructor) (k:=?_)
 refine zs3 (ρ:=fun _=>[.v true (.str r)]) (an w1 <| w2) (o:=by repeat' first|exact hR|trivial|constructor) (k:=?_)
 exact Holds.ret (RetOk.vs rfl (by exact ⟨⟨rfl,id⟩,⟨rfl,id⟩,trivial⟩) rfl)
set_option maxHeartbeats 1000000 in
theorem rs_out {cx:Cx} {w0:World} (lo:Nat) (s:Int) (o two:Bool) (kk:Option Nat) (hkk:kk=if o=true then some lo else if two=true then some (lo+1) else none) (h0:o=true→0<lo) (C:Nat) (hC:lo+1<2^C) (hC2:1≤C∧C≤400) (hs : -10000≤s∧s≤10000)
 (mx:List (Nat×Blk)) (hmx:mx=[] ∨ ∃b,mx=[(10,b)]) (d:Nat) (a:Int) (N1 D1 M:List V) (kf p e:Int) (neg:Bool) :
 Holds Tryz.prog none cx w0 (codeAt Tryz.f29 [1,1,1,1,0,0,0,0,1,1,1,1,1])
  (rsS [(13,.v true (.bool o)),(14,.v true (.bool two)),(11,.v true (words (digs lo))),(12,.v true (words (digs (lo+1)))),(9,.v true (.int .i64 s))] [] d a N1 D1 M kf p e neg)
  (rsQ kk s (fun σ => ∀x w,Rel cx w0 σ x w→Rel cx w0 (rsS [] [] d a N1 D1 M kf p e neg) x w)):=by
 unfold rsS
 cases o with
 | false =>
   cases two with
   | false =>
     refine zs0 ?_
     refine Holds.condF rfl (Holds.skip ?_)
     exact ⟨by rw [hkk];rfl,fun x w h=>Rel.keep [8,7,6,2,3] [6,2,3] h⟩
   | true =>
     refine zs0 ?_
     refine Holds.condT rfl ?_
     refine zs0 ?_
     refine Holds.from (σ' := {nt:=97,env:=[(13,.v true (.bool false)),(12,.v true (words (digs (lo+1)))),(9,.v true (.int .i64 s))],mem:=[]}) (fun x w h=>Rel.keep [13,12,9] [] h) ?_
     refine Holds.next (fun σ => ∀x w,Rel cx w0 σ x w→Rel cx w0 {nt:=97,env:=[(16,.v true (words (digs (lo+1)))),(9,.v true (.int .i64 s))],mem:=[]} x w) ?_ ?_
     ·refine zs0 ?_
      refine Holds.condT rfl ?_
      refine zr0 ?_
      exact fun x w h=>Rel.keep [16,9] [] h
     ·intro σ hσ
      exact Holds.from hσ (rs_fin (lo+1) s kk _ (by rw [hkk];rfl) (by omega) C hC hC2 hs)
 | true =>
   refine zs0 ?_
   refine Holds.condT rfl ?_
   refine zs0 ?_
   refine Holds.from (σ' := {nt:=97,env:=[(13,.v true (.bool true)),(16,.v true (words (digs lo))),(9,.v true (.int .i64 s))],mem:=[]}) (fun x w h=>Rel.keep [13,16,9] [] h) ?_
   refine Holds.next (fun σ => ∀x w,Rel cx w0 σ x w→Rel cx w0 {nt:=97,env:=[(16,.v true (words (digs lo))),(9,.v true (.int .i64 s))],mem:=[]} x w) ?_ ?_
   ·refine zs0 ?_
    exact Holds.condF rfl (Holds.skip fun x w h=>Rel.keep [16,9] [] h)
   ·intro σ hσ
    exact Holds.from hσ (rs_fin lo s kk _ (by rw [hkk];rfl) (h0 rfl) C (by omega) hC2 hs)
set_option maxHeartbeats 1000000 in
theorem rs_both {cx:Cx} {w0:World} (lo:Nat) (s:Int) (one two half rest:Bool) (hlo:one=true→lo%10≠0) (C:Nat) (hC:lo+1<2^C) (hC2:1≤C∧C≤400) (NL:List V)
 (d:Nat) (a:Int) (N1 D1 M:List V) (kf p e:Int) (neg:Bool) {N':St→Prop} :
 Holds Tryz.prog none cx w0 (codeAt Tryz.f29 [1,1,1,1,0,0,0,0,1,1,1,1,0])
  (rsS [(13,.v true (.bool one)),(14,.v true (.bool two)),(11,.v true (words (digs lo))),(12,.v true (words (digs (lo+1)))),(9,.v true (.int .i64 s)),(10,.ptr 10 0 [] 0)] [(10,.box 129 (.v true (.agg [.sl 1 NL,.bool half,.bool rest])))] d a N1 D1 M kf p e neg)
  (NR (fun σ => ∀x w,Rel cx w0 σ x w→Rel cx w0 (rsS [(13,.v true (.bool (one && !(two&&(half&&(rest||decide (lo%2=1))))))),(14,.v true (.bool two)),(11,.v true (words (digs lo))),(12,.v true (words (digs (lo+1)))),(9,.v true (.int .i64 s))] [] d a N1 D1 M kf p e neg) x w) N'):=by
 unfold rsS
 cases one with
 | false =>
   refine zs0 ?_
   exact Holds.condF rfl (Holds.skip fun x w h=>Rel.keep [13,14,11,12,9,8,7,6,2,3] [6,2,3] h)
 | true =>
   cases two with
   | false =>
     refine zs0 ?_
     exact Holds.condF rfl (Holds.skip fun x w h=>Rel.keep [13,14,11,12,9,8,7,6,2,3] [6,2,3] h)
   | true =>
     cases half with
     | false =>
       refine zs0 ?_
       refine Holds.condT rfl (Holds.blockN ?_)
       refine zs0 ?_
       refine Holds.condF rfl ?_
       refine zs0 ?_
       exact Holds.condF rfl (Holds.skip fun x w h=>Rel.keep [13,14,11,12,9,8,7,6,2,3] [6,2,3] h)
     | true =>
       cases rest with
       | true =>
         refine zs0 ?_
         refine Holds.condT rfl (Holds.blockN ?_)
         refine zs0 ?_
         refine Holds.condT rfl ?_
         refine zr0 ?_
         exact fun x w h=>Rel.keep [13,14,11,12,9,8,7,6,2,3] [6,2,3] h
       | false =>
         have h10:=hlo rfl
         have hT:=nTextG_ok lo (by have:=digs_lenB (Nat.lt_of_succ_lt hC) (n:=7) (by omega);omega)
         have hR:=trim_dec (n:=lo) (by omega) (Nat.lt_of_succ_lt hC) (by omega)
         have hl:=dec_len (Nat.lt_of_succ_lt hC) hC2.1
         obtain ⟨l,hL⟩:=decG_last h10
         have htr:trR (decG lo)=decG lo:=by
          rw [hL,trR_snoc,if_neg]
          intro hh
          have:=congrArg UInt8.toNat hh
          simp at this
          omega
         rw [htr] at hR
         have hz:=bs_size (decG lo)
         have hlen:(decG lo).length=l.length+1:=by rw [hL];simp
         have hgb:(bs (decG lo))[(decG lo).length-1]?=some (UInt8.ofNat (48+lo%10)):=by
          rw [getElem?_pos (bs (decG lo)) _ (by rw [bs_size];omega)]
          show some ((decG lo).toArray[(decG lo).length-1]'_)=_
          simp only [List.getElem_toArray,hL]
          simp
         obtain ⟨t,ht⟩ : ∃x,x=bs (decG lo):=⟨_,rfl⟩
         rw [←ht] at hT hR hz hgb
         rw [←hz] at hgb
         have hc:((UInt8.ofNat (48+lo%10)).toNat:Int)=((48+lo%10:Nat):Int):=by
          simp;omega
         obtain ⟨c,hce⟩ : ∃c,c=UInt8.ofNat (48+lo%10):=⟨_,rfl⟩
         rw [←hce] at hgb hc
         have g0:(0:Int)≤(t.size:Int)-1:=by omega
         have gs:(t.size:Int)-1=((t.size-1:Nat):Int):=by omega
         have gi:((t.size-1:Nat):Int)<t.size:=by omega
         have w1:IntKind.u8.wrap (((48+lo%10:Nat):Int)-48)=((lo%10:Nat):Int):=by rw [wrap_u8];omega
         have r1:((lo%10:Nat):Int).tmod 2=((lo%10%2:Nat):Int):=remN _ 2
         have w2:IntKind.u8.wrap ((lo%10%2:Nat):Int)=((lo%10%2:Nat):Int):=by rw [wrap_u8];omega
         have w3:IntKind.i64.wrap ((t.size:Int)-1)=((t.size-1:Nat):Int):=by rw [wrap_i64] <;> omega
         have hfin:(true && !(true&&(true&&(false||decide (lo%2=1)))))=decide (((lo%10%2:Nat):Int)=0):=by
          by_cases hm:lo%2=1
          ·rw [decide_eq_true hm,decide_eq_false (by omega)];rfl
          ·rw [decide_eq_false hm,decide_eq_true (by omega)];rfl
         rw [hfin]
         obtain ⟨W,hW⟩ : ∃x,x=digs lo:=⟨_,rfl⟩
         rw [←hW] at hT ⊢
         obtain ⟨c10,hc10⟩ : ∃x,x=lo%10:=⟨_,rfl⟩
         rw [←hc10] at hc w1 r1 w2 hfin ⊢
         have hc48:((48+c10:Nat):Int)=48+(c10:Int):=by omega
         obtain ⟨c2,hc2⟩ : ∃x,x=c10%2:=⟨_,rfl⟩
         rw [←hc2] at r1 w2 hfin ⊢
         obtain ⟨cv,hcv⟩ : ∃x,x=((48+c10:Nat):Int):=⟨_,rfl⟩
         rw [←hcv] at hc w1
         clear hce hL htr hl hlen hC h10 hlo
         refine zs0 ?_
         refine Holds.condT rfl (Holds.blockN ?_)
         refine zs0 ?_
         refine Holds.condF rfl ?_
         refine zs0 ?_
         refine Holds.condT rfl ?_
         refine zs2 (ρ:=fun x=>if x=70 then [.v true (.str t)] else [.v true (.str t)]) (o:=by repeat' first|exact hT|exact hR|trivial|constructor) (k:=?_)
         refine Holds.region (Px:=px) (T:=TT) (ρ:=fun _=>[]) TTe (by simp (maxSteps:=100000) (disch:=omega) only [go_sem,V.isAgg,V.flat,↓reduceIte,Nat.reduceAdd,Nat.reduceSub,Nat.reduceLT,Nat.reduceEqDiff,reduceCtorEq,Nat.reduceLeDiff,Nat.reduceBEq,Nat.reduceMul,Int.reduceToNat,w3,indexA,hgb,gi,hc,w1,r1,w2];rfl) (by repeat' first | exact trivial | constructor) ?_
         exact fun x w h=>Rel.keep [13,14,11,12,9,8,7,6,2,3] [6,2,3] h
theorem st_flags {num den:Nat} {s:Int} (hd:0<den):(decide (2*stM num s/stD den s%2=1)||decide (2*stM num s%stD den s≠0))=decide (cxA num den s≠0) ∧
 (∀q:Nat,(decide (2*stM num s/stD den s%2=1)&&(decide (2*stM num s%stD den s≠0)||decide (q%2=1)))=shUp q (cxA num den s))∧2*stM num s/stD den s/2=ctA num den s:=by
 have hD:0<stD den s:=Nat.mul_pos hd (Nat.pow_pos (by decide))
 obtain ⟨h1,h2,h3,h4,h5⟩:=half_split (stM num s) (stD den s) hD
 have hb:=rstN_bd (stM num s%stD den s) (stD den s)
 have hx:rstN (stM num s%stD den s) (stD den s)=cxA num den s:=rfl
 rw [hx] at h2 h3 h4 h5 hb
 obtain ⟨x,hxx⟩ : ∃x,x=cxA num den s:=⟨_,rfl⟩
 rw [←hxx] at h2 h3 h4 h5 hb ⊢
 obtain ⟨p,hp⟩ : ∃p,p=2*stM num s/stD den s%2:=⟨_,rfl⟩
 obtain ⟨r,hr⟩ : ∃p,p=2*stM num s%stD den s:=⟨_,rfl⟩
 rw [←hp,←hr] at h2 h3 h4 h5 ⊢
 refine ⟨?_,fun q=>?_,h1⟩
 ·have hc:x=0∨x=1∨x=2∨x=3:=by omega
  rcases hc with e | e | e | e
  ·obtain ⟨a,b⟩:=h2.1 e;rw [a,b,e];rfl
  ·obtain ⟨a,b⟩:=h3.1 e;rw [a,e];simp [b]
  ·obtain ⟨a,b⟩:=h4.1 e;rw [a,b,e];rfl
  ·obtain ⟨a,b⟩:=h5.1 e;rw [a,e];simp
 ·unfold shUp
  have hc:x=0∨x=1∨x=2∨x=3:=by omega
  rcases hc with e | e | e | e
  ·obtain ⟨a,b⟩:=h2.1 e;rw [a,b,e];simp
  ·obtain ⟨a,b⟩:=h3.1 e;rw [a,e];simp
  ·obtain ⟨a,b⟩:=h4.1 e;rw [a,b,e];simp
  ·obtain ⟨a,b⟩:=h5.1 e;rw [a,e];simp [b]
set_option maxHeartbeats 2000000 in
theorem rs_round {cx:Cx} {w0:World} (lo:Nat) (s a:Int) (d:Nat) (one th half rest:Bool) (NL N1 D1 M:List V) (kf p e:Int) (neg:Bool) (C:Nat) (hC:lo+1<2^C) (hC2:1≤C∧C≤400) (hs:s=a-d+1) (hsb : -7000≤s∧s≤7000) (hd:d≤1000)
 (hNL:NL=(digs lo).map fun n=>V.int .u64 n)
 (hS:FnOk Tryz.prog 90 [.v (.agg [.bool false,.sl 1 N1,.sl 1 D1,.int .i64 0,.int .i64 1]),.v (.int .i64 s)] [.v true (.agg [.sl 1 NL,.bool half,.bool rest])])
 (hI1:FnOk Tryz.prog 92 [.v (.agg [.int .i64 kf,.int .i64 p]),.v (.agg [.int .i64 1,.bool neg,.int .i64 e,.sl 1 M]),.v (words (digs lo)),.v (.int .i64 s)] [.v true (.bool one)])
 (hI2:FnOk Tryz.prog 92 [.v (.agg [.int .i64 kf,.int .i64 p]),.v (.agg [.int .i64 1,.bool neg,.int .i64 e,.sl 1 M]),.v (words (digs (lo+1))),.v (.int .i64 s)] [.v true (.bool th)])
 (hlo:one=true→lo%10≠0) (kk:Option Nat) (hkk:kk=if (one && !(((half||rest)&&th)&&(half&&(rest||decide (lo%2=1)))))=true then some lo else if ((half||rest)&&th)=true then some (lo+1) else none) :
 Holds Tryz.prog none cx w0 (codeAt Tryz.f29 [1,1,1,1,0,0,0,0]) (rsS [] [] d a N1 D1 M kf p e neg) (rsQ kk s (fun σ => ∀x w,Rel cx w0 σ x w→Rel cx w0 (rsS [] [] d a N1 D1 M kf p e neg) x w)):=by
 have hW:=FromWord_ok 1 (by decide)
 have d1:digs 1=[1]:=by decide
 rw [d1] at hW
 have hW:FnOk Tryz.prog 78 [.v (.int .u64 1)] [.v true (words [1])]:=hW
 have o1:okW [(1:Int)]:=by intro n hn;simp at hn;omega
 have hll:(digs lo).length≤7:=digs_lenB (Nat.lt_of_succ_lt hC) (by omega)
 have hA:=rAdd_ok (digs lo) [1] (by omega) (by simp) (digs_ok _).1 o1
 rw [(digs_ok _).2.2,show val [(1:Int)]=1 from by decide] at hA
 have hwl:words (digs lo) = .sl 1 NL:=by rw [hNL];rfl
 have hout:=fun cx w0=>rs_out (cx:=cx) (w0:=w0) lo s (one && !(((half||rest)&&th)&&(half&&(rest||decide (lo%2=1))))) ((half||rest)&&th) kk hkk (fun h=>by
  rw [Bool.and_eq_true] at h
  have:=hlo h.1
  omega) C hC hC2 (by omega) [] (.inl rfl) d a N1 D1 M kf p e neg
 have hboth:=fun cx w0=>rs_both (cx:=cx) (w0:=w0) lo s one ((half||rest)&&th) half rest hlo C hC hC2 NL d a N1 D1 M kf p e neg (N':=rsQ kk s (fun σ => ∀x w,Rel cx w0 σ x w→Rel cx w0 (rsS [] [] d a N1 D1 M kf p e neg) x w) .ret)
 rw [hwl] at hA hI1 hboth
 have w1:IntKind.i64.wrap (a-(d:Int))=a-d:=by rw [wrap_i64] <;> omega
 have w2:IntKind.i64.wrap (a-(d:Int)+1)=s:=by rw [wrap_i64] <;> omega
 have hs2:a-(d:Int)+1=s:=hs.symm
 clear hkk hlo hNL hC
 unfold rsS at hboth
 unfold rsS at hout
 unfold rsS
 obtain ⟨H,hH⟩ : ∃x,x=digs (lo+1):=⟨_,rfl⟩
 rw [←hH] at hA hI2 hboth hout
 rw [hwl] at hout
 obtain ⟨O,hO⟩ : ∃O,O=[(1:Int)]:=⟨_,rfl⟩
 rw [←hO] at hW hA
 clear hO hH
 refine zs1 (an w1 <| an w2 <| hs2) ?_
 refine zs2 (ρ:=fun _=>[.v true (.agg [.sl 1 NL,.bool half,.bool rest])]) (o:=by repeat' first|exact hS|trivial|constructor) (k:=?_)
 refine zd2 [] (ρ:=fun y=>if y=35 then [.v true (words O)] else [.v true (words H)]) (o:=by repeat' first|exact hW|exact hA|trivial|constructor) (k:=?_)
 refine Holds.from (σ' := {nt:=97,env:=[(11,.v true (.sl 1 NL)),(12,.v true (words H)),(9,.v true (.int .i64 s)),(10,.ptr 10 0 [] 0),(8,.v true (.int .i64 d)),(7,.v true (.int .i64 a)),(6,.ptr 6 0 [] 0),(2,.ptr 2 0 [] 0),(3,.ptr 3 0 [] 0)],mem:=[(10,.box 129 (.v true (.agg [.sl 1 NL,.bool half,.bool rest]))),(6,.box 125 (.v false (.agg [.bool false,.sl 1 N1,.sl 1 D1,.int .i64 0,.int .i64 1]))),(2,.box 35 (.v false (.agg [.int .i64 kf,.int .i64 p]))),(3,.box 38 (.v false (.agg [.int .i64 1,.bool neg,.int .i64 e,.sl 1 M])))]}) (fun x w h=>Rel.keep [11,12,9,10,8,7,6,2,3] [10,6,2,3] h) ?_
 have go:=Holds.next _ (hboth cx w0) (fun σ hσ=>Holds.from hσ (hout cx w0))
 clear hboth hout
 cases half with
 | true =>
   refine zd2 [] (ρ:=fun y=>if y=41 then [.v true (.bool one)] else [.v true (.bool th)]) (o:=by repeat' first|exact hI1|exact hI2|trivial|constructor) (k:=?_)
   exact Holds.from (fun x w h=>Rel.keep [13,14,11,12,9,10,8,7,6,2,3] [10,6,2,3] h) go
 | false =>
   cases rest with
   | true =>
     refine zd2 [] (ρ:=fun y=>if y=41 then [.v true (.bool one)] else [.v true (.bool th)]) (o:=by repeat' first|exact hI1|exact hI2|trivial|constructor) (k:=?_)
     exact Holds.from (fun x w h=>Rel.keep [13,14,11,12,9,10,8,7,6,2,3] [10,6,2,3] h) go
   | false =>
     refine zd2 [] (ρ:=fun y=>[.v true (.bool one)]) (o:=by repeat' first|exact hI1|trivial|constructor) (k:=?_)
     exact Holds.from (fun x w h=>Rel.keep [13,14,11,12,9,10,8,7,6,2,3] [10,6,2,3] h) go
set_option maxHeartbeats 2000000 in
theorem rShortest_ok (K p m n d k:Nat) (neg:Bool) (e:Int) (l:List Int) (ex u a:Int) (h:ShH K p m ex u n a) (ho:hoI K p ex m=true) (ht:trN m=0) (hr:Raw e l m ex) (hd:ShD K m ex u n a d k) :
 FnOk Tryz.prog 29 [.v (fmtV ((K+1:Nat):Int) p),.v (fltW 1 neg e l)] [.v true (.str (bs (trR (decG k)))),.v true (.int .i64 (a-d+1+(decG k).length-1))]:=by
 have hdl:=hd.le h
 have hd1:=hd.h1
 have hab:=h.fl.isA_bd h.hA
 obtain ⟨B,b1,b2,b3,b4,b5⟩:=h.fl.real
 have hR:=real_ok neg e l m ex hr h.fl
 have hL:=rLogG_ok false (fNum m ex) (fDen ex) B a b1 b2 b3 b4 b5 h.hA
 unfold realQ words at hR hL
 obtain ⟨F,hF⟩ : ∃F,F=shF K m ex u n a:=⟨_,rfl⟩
 obtain ⟨kf,hkf⟩ : ∃k:Int,k=((K+1:Nat):Int):=⟨_,rfl⟩
 have hround : ∀(cx:Cx) (w0:World) (d':Nat),1≤d'→d'≤d→Holds Tryz.prog none cx w0 (codeAt Tryz.f29 [1,1,1,1,0,0,0,0]) (rsS [] [] d' a ((digs (fNum m ex)).map fun n=>V.int .u64 n) ((digs (fDen ex)).map fun n=>V.int .u64 n) (l.map fun n=>V.int .u64 n) kf p e neg)
  (rsQ (F d') (a-d'+1) (fun σ => ∀x w,Rel cx w0 σ x w→Rel cx w0 (rsS [] [] d' a ((digs (fNum m ex)).map fun n=>V.int .u64 n) ((digs (fDen ex)).map fun n=>V.int .u64 n) (l.map fun n=>V.int .u64 n) kf p e neg) x w)):=fun cx w0 d' k1 k2=>by
  obtain ⟨s,hs⟩ : ∃s,s=a-d'+1:=⟨_,rfl⟩
  have hS:=rStepsG_ok false (fNum m ex) (fDen ex) B s b1 b2 b3 b4 b5 (by omega)
  obtain ⟨f1,f2,f3⟩:=st_flags (num:=fNum m ex) (s:=s) b3
  have hdg:=ctA_digs (d:=d'-1) b3 h.hA
  rw [show a-((d'-1:Nat):Int)=s from by omega,Nat.sub_add_cancel k1] at hdg
  obtain ⟨C,hC⟩ : ∃C,C=400:=⟨_,rfl⟩
  have hlo1:ctA (fNum m ex) (fDen ex) s+1<2^C:=lt80 (Nat.lt_of_lt_of_le hdg.2.2 (Nat.pow_le_pow_right (by decide) (by omega))) (by omega)
  have hI1:=rIn_ok K p m n neg e l ex u a h ho ht hr (ctA (fNum m ex) (fDen ex) s) s C (by omega) (by omega) (by omega)
  have hI2:=rIn_ok K p m n neg e l ex u a h ho ht hr (ctA (fNum m ex) (fDen ex) s+1) s C (by omega) hlo1 (by omega)
  have hone:rinB K m ex u n s (ctA (fNum m ex) (fDen ex) s)=shOne n (fB (gK K) m (ex+blN m-1)) u s (ctA (fNum m ex) (fDen ex) s):=rfl
  have hlo:rinB K m ex u n s (ctA (fNum m ex) (fDen ex) s)=true→ctA (fNum m ex) (fDen ex) s%10≠0:=fun h1=>by
   by_cases hd2:d'=1
   ·have hsa:s=a:=by omega
    have:=ctA_one b3 h.hA
    rw [hsa]
    omega
   ·have hno:=hd.none (d'-1) (by omega) (by omega)
    unfold shF at hno
    rw [show a-((d'-1:Nat):Int)+1=s+1 from by omega] at hno
    exact sh_ten hno (hone ▸ h1)
  have htwo:(decide (cxA (fNum m ex) (fDen ex) s≠0)&&rinB K m ex u n s (ctA (fNum m ex) (fDen ex) s+1))=shTwo n (fB (gK K) m (ex+blN m-1)) u s (ctA (fNum m ex) (fDen ex) s) (cxA (fNum m ex) (fDen ex) s):=by
   unfold rinB shTwo
   rw [←Bool.decide_and]
   exact decide_eq_decide.2 ⟨fun h=>⟨h.1,h.2.2⟩,fun h=>⟨h.1,by omega,h.2⟩⟩
  have hkk:F d'=if (rinB K m ex u n s (ctA (fNum m ex) (fDen ex) s) && !(((decide (2*stM (fNum m ex) s/stD (fDen ex) s%2=1)||decide (2*stM (fNum m ex) s%stD (fDen ex) s≠0))&&rinB K m ex u n s (ctA (fNum m ex) (fDen ex) s+1))&&(decide (2*stM (fNum m ex) s/stD (fDen ex) s%2=1)&&(decide (2*stM (fNum m ex) s%stD (fDen ex) s≠0)||decide (ctA (fNum m ex) (fDen ex) s%2=1)))))=true then some (ctA (fNum m ex) (fDen ex) s) else if ((decide (2*stM (fNum m ex) s/stD (fDen ex) s%2=1)||decide (2*stM (fNum m ex) s%stD (fDen ex) s≠0))&&rinB K m ex u n s (ctA (fNum m ex) (fDen ex) s+1))=true then some (ctA (fNum m ex) (fDen ex) s+1) else none:=by
   rw [f1,f2,htwo,hone,hF]
   unfold shF shC
   rw [←hs]
  unfold stV partV realQ words at hS
  rw [f3] at hS
  unfold fmtV fltW at hI1 hI2
  rw [←hkf] at hI1 hI2
  have:=rs_round (cx:=cx) (w0:=w0) (ctA (fNum m ex) (fDen ex) s) s a d' _ _ _ _ _ _ _ _ kf p e neg C hlo1 (by omega) hs (by omega) (by omega) rfl hS hI1 hI2 hlo (F d') hkk
  rw [hs] at this
  exact this
 have hnone:=hd.none
 have hsome:=hd.some
 rw [←hF] at hnone hsome
 obtain ⟨rs,hrs⟩ : ∃rs,rs=fun (k d:Nat)=>[R.v true (.str (bs (trR (decG k)))),R.v true (.int .i64 (a-d+1+(decG k).length-1))]:=⟨_,rfl⟩
 have hret : ∀σ (k' d':Nat),RetOk Tryz.prog Tryz.f29 σ [.v true (.str (bs (trR (decG k')))),.v true (.int .i64 (a-d'+1+(decG k').length-1))]→RetOk Tryz.prog Tryz.f29 σ (rs k' d'):=fun σ k' d' h=>by rw [hrs];exact h
 have hgoal:rs k d=[.v true (.str (bs (trR (decG k)))),.v true (.int .i64 (a-d+1+(decG k).length-1))]:=by rw [hrs]
 rw [←hgoal]
 obtain ⟨N1,hN1⟩ : ∃x,x=(digs (fNum m ex)).map fun n=>V.int .u64 n:=⟨_,rfl⟩
 obtain ⟨D1,hD1⟩ : ∃x,x=(digs (fDen ex)).map fun n=>V.int .u64 n:=⟨_,rfl⟩
 rw [←hN1,←hD1] at hR hL hround
 unfold fltW words at hR ⊢
 unfold fmtV
 rw [←hkf]
 obtain ⟨M,hM⟩ : ∃M,M=l.map fun n=>V.int .u64 n:=⟨_,rfl⟩
 rw [←hM] at hR hround ⊢
 clear hM hD1 hN1 hgoal hrs hF hd h hr ho ht hkf b1 b2 b3 b4 b5
 refine FnOk.of Tryz.func29 rfl rfl fun cx w0=>?_
 rw [show Tryz.f29.ntmps=97 from rfl]
 refine zs0 ?_
 refine zs2 (ρ:=fun _=>[.v false (.agg [.bool false,.sl 1 N1,.sl 1 D1,.int .i64 0,.int .i64 1])]) (o:=by repeat' first|exact hR|trivial|constructor) (k:=?_)
 refine zs2 (ρ:=fun _=>[.v true (.int .i64 a)]) (o:=by repeat' first|exact hL|trivial|constructor) (k:=?_)
 refine zs0 ?_
 refine Holds.mono (Q:=NR (fun _=>False) (fun σ=>RetOk Tryz.prog Tryz.f29 σ (rs k d))) ?_ (fun x σ hx=>by cases x <;> first | exact hx.elim | exact hx)
 refine Holds.loopB (fun d':Nat=>rsS [] [] d' a N1 D1 M kf p e neg) (fun d'=>1≤d'∧d'≤d) (fun d'=>d-d') 1 ⟨by decide,hd1⟩ (fun x w h=>Rel.keep [8,7,6,2,3] [6,2,3] h) ?_
 rintro d' ⟨k1,k2⟩
 refine Holds.seq (Holds.block ?_)
 refine Holds.mono (hround cx w0 d' k1 k2) fun x σ hx=>?_
 cases x with
 | exit id=>exact hx.elim
 | goto l=>exact hx.elim
 | panic=>exact hx.elim
 | outgrown=>exact hx.elim
 | ret =>
   obtain ⟨k',hk',hr⟩:=hx
   have hdd:d'=d:=by
    rcases Nat.lt_or_ge d' d with h1 | h1
    ·rw [hnone d' k1 h1] at hk';cases hk'
    ·omega
   subst hdd
   rw [hsome] at hk'
   cases hk'
   exact hret σ _ _ hr
 | normal =>
   obtain ⟨hno,hM⟩:=hx
   have hlt:d'<d:=by
    rcases Nat.lt_or_ge d' d with h1 | h1
    ·exact h1
    ·rw [show d'=d from by omega,hsome] at hno;cases hno
   have wk:IntKind.i64.wrap ((d':Int)+1)=((d'+1:Nat):Int):=by rw [wrap_i64] <;> omega
   show Holds _ _ _ _ _ _ _
   refine Holds.from hM ?_
   unfold rsS
   refine zr1 wk ?_
   exact ⟨d'+1,⟨by omega,by omega⟩,(show d-(d'+1)<d-d' by omega),fun x w h=>Rel.keep [8,7,6,2,3] [6,2,3] h⟩
theorem pShortest_err (k P kd e:Int) (neg:Bool) (l:List Int) (hl:l.length<5000) (ol:okW l) (he : -9223372036854775808≤e∧e<9223372036854775808) (hE:fiE k P true kd neg e l≠0) :
 FnOk Tryz.prog 28 [.v (fmtV k P),.v (fltW kd neg e l)] [.v true (.str ⟨#[]⟩),.v true (.int .i64 0),.v true (.int .i64 (fiE k P true kd neg e l))]:=by
 have hN:=finite_ok k P 0 false kd neg e l hl ol he
 have hb:(decide ((0:Int)≤0∧(0:Int)≤4) && !false)=true:=by decide
 rw [hb] at hN
 unfold fiV at hN
 rw [if_neg hE] at hN
 exact Shortest_gen k P kd e 0 0 _ 0 neg false _ [] _ hN (fun _=>⟨rfl,rfl⟩) (fun h=>absurd h hE)
theorem pShortest_ok (k P e:Int) (neg:Bool) (l:List Int) (hl:l.length<5000) (ol:okW l) (he : -9223372036854775808≤e∧e<9223372036854775808) {K p m n d kk:Nat} {ex u a:Int}
 (hE:fiE k P true 1 neg e l=0) (h1:FlOne k P neg e l K p m ex u n a) (hd:ShD K m ex u n a d kk) :
 FnOk Tryz.prog 28 [.v (fmtV k P),.v (fltW 1 neg e l)] [.v true (.str (bs (trR (decG kk)))),.v true (.int .i64 (a-d+1+(decG kk).length-1)),.v true (.int .i64 0)]:=by
 have hN:=finite_ok k P 0 false 1 neg e l hl ol he
 have hb:(decide ((0:Int)≤0∧(0:Int)≤4) && !false)=true:=by decide
 rw [hb] at hN
 unfold fiV at hN
 rw [if_pos hE,hE,h1.cn] at hN
 have hS:=shortest_ok K p neg m n d kk ex u a h1.sh hd
 rw [←h1.hk,←h1.hp] at hS
 exact Shortest_gen k P 1 e 1 ex 0 _ neg neg _ _ _ hN (fun h=>absurd rfl h) (fun _=>hS)
set_option maxHeartbeats 4000000 in
theorem SD_walk (k P kd e:Int) (neg:Bool) (l:List Int) (ol:okW l) (he : -9223372036854775808≤e∧e<9223372036854775808) :
 FnOk Tryz.prog 5 [.v (fmtV k P),.v (fltW kd neg e l)] [.v true (.bool true)]:=by
 have hA:=awake_ok
 have hS:=fShort_ok kd neg e (l.map fun n => .int .u64 n)
 rw [List.length_map] at hS
 by_cases h:l.length≤40
 ·rw [decide_eq_true h] at hS
  have hC:=fCheck1_ok k P kd neg e l (by omega) ol
  have hF:=Fmt_ok k P
  have hTh:=fTheirL_ok kd neg e l
  by_cases hE:fiE k P true kd neg e l=0
  ·obtain ⟨hnu,hk1⟩:=fi_one hE
   subst hk1
   obtain ⟨K,p,m,ex,u,n,a,hf⟩:=flOne hnu
   have hraw:=hf.raw hnu (by omega) ol he
   obtain ⟨d,kk,hd⟩:=hf.sh.ex
   have hD:=pShortest_ok k P e neg l (by omega) ol he hE hf hd
   have hT:=rShortest_ok K p m n d kk neg e l ex u a hf.sh hf.ho hf.tr hraw hd
   rw [←hf.hk,←hf.hp] at hT
   rw [hnu] at hC
   obtain ⟨s,hs⟩ : ∃d,d=bs (trR (decG kk)):=⟨_,rfl⟩
   obtain ⟨x,hx⟩ : ∃x,x=a-d+1+((decG kk).length:Int)-1:=⟨_,rfl⟩
   rw [←hs,←hx] at hD hT
   unfold fltW words at hD hT hTh hC ⊢
   unfold fmtV at hD hC hF hT ⊢
   obtain ⟨M,hM⟩ : ∃L,L=l.map fun n=>V.int .u64 n:=⟨_,rfl⟩
   rw [←hM] at hS hD hT hTh hC ⊢
   clear hM hs hx hraw hf hnu hE he ol h hd
   refine FnOk.of Tryz.func5 rfl rfl fun cx w0=>?_
   rw [show Tryz.f5.ntmps=75 from rfl]
   refine zs0 ?_
   refine Holds.seq ?_
   refine zs2 (ρ:=fun _=>[.v true (.bool true)]) (o:=by repeat' first|exact hS|trivial|constructor) (k:=?_)
   refine Holds.condF rfl (Holds.skip ?_)
   show Holds _ _ _ _ _ _ _
   refine zs2 (ρ:=fun _=>[.v true (.str s),.v true (.int .i64 x),.v true (.int .i64 0)]) (o:=by repeat' first|exact hD|trivial|constructor) (k:=?_)
   refine Holds.from (σ' := {nt:=75,env:=[(5,.v true (.str s)),(6,.v true (.int .i64 x)),(7,.v true (.int .i64 0)),(2,.ptr 2 0 [] 0),(3,.ptr 3 0 [] 0)],mem:=[(2,.box 23 (.v false (.agg [.int .i64 k,.int .i64 P]))),(3,.box 28 (.v false (.agg [.int .i64 1,.bool neg,.int .i64 e,.sl 1 M])))]}) (fun a w h=>Rel.keep [5,6,7,2,3] [2,3] h) ?_
   clear hS hD
   refine zd2 [] (ρ:=fun y=>if y=24 then [.v true (.agg [.int .i64 k,.int .i64 P])] else if y=26 then [.v false (.agg [.int .i64 1,.bool neg,.int .i64 e,.sl 1 M])] else [.v true (.int .i64 0)]) (o:=by repeat' first|exact hF|exact hTh|exact hC|trivial|constructor) (k:=?_)
   refine Holds.seq ?_
   refine zs0 ?_
   refine Holds.condF rfl (Holds.skip ?_)
   show Holds _ _ _ _ _ _ _
   refine Holds.seq ?_
   refine zs0 ?_
   refine Holds.condF rfl (Holds.skip ?_)
   show Holds _ _ _ _ _ _ _
   refine zd2 [] (ρ:=fun y=>if y=54 then [.v true (.agg [.int .i64 k,.int .i64 P])] else if y=56 then [.v false (.agg [.int .i64 1,.bool neg,.int .i64 e,.sl 1 M])] else [.v true (.str s),.v true (.int .i64 x)]) (o:=by repeat' first|exact hF|exact hTh|exact hT|trivial|constructor) (k:=?_)
   refine Holds.step (Px:=px) (T:=TT) (ρ:=fun _=>[.v true (.bool true)]) TTe (by simp (maxSteps:=100000) (disch:=omega) only [go_sem,V.isAgg,V.flat,↓reduceIte,Nat.reduceAdd,Nat.reduceSub,Nat.reduceLT,Nat.reduceEqDiff,reduceCtorEq,Nat.reduceLeDiff,Nat.reduceBEq,Nat.reduceMul,Int.reduceToNat,eq_self];rfl) (by first | exact hA | (repeat' first | exact trivial | exact hA | constructor)) ?_
   exact Holds.ret (RetOk.vs rfl (by exact ⟨⟨rfl,id⟩,trivial⟩) rfl)
  ·have hD:=pShortest_err k P kd e neg l (by omega) ol he hE
   have hw : ∀nu,nu=nuE k P true kd neg e l→(nu=0→kd≠1∧fiE k P true kd neg e l=4)∧(nu≠0→fiE k P true kd neg e l=nu):=fun nu hnu=>by
    unfold fiE at hE ⊢
    rw [←hnu] at hE ⊢
    constructor
    ·intro h0
     rw [if_neg (not_not_intro h0)] at hE ⊢
     by_cases hk:kd=1
     ·rw [if_neg (not_not_intro hk)] at hE
      exact absurd rfl hE
     ·exact ⟨hk,if_pos hk⟩
    ·intro h0
     rw [if_pos h0]
   obtain ⟨nu,hnu⟩ : ∃nu,nu=nuE k P true kd neg e l:=⟨_,rfl⟩
   have hw:=hw nu hnu
   rw [←hnu] at hC
   obtain ⟨E,hEe⟩ : ∃E,E=fiE k P true kd neg e l:=⟨_,rfl⟩
   rw [←hEe] at hD hE hw
   unfold fltW words at hD hTh hC ⊢
   unfold fmtV at hD hC hF ⊢
   obtain ⟨M,hM⟩ : ∃L,L=l.map fun n=>V.int .u64 n:=⟨_,rfl⟩
   rw [←hM] at hS hD hTh hC ⊢
   clear hM hEe hnu he ol h
   refine FnOk.of Tryz.func5 rfl rfl fun cx w0=>?_
   rw [show Tryz.f5.ntmps=75 from rfl]
   refine zs0 ?_
   refine Holds.seq ?_
   refine zs2 (ρ:=fun _=>[.v true (.bool true)]) (o:=by repeat' first|exact hS|trivial|constructor) (k:=?_)
   refine Holds.condF rfl (Holds.skip ?_)
   show Holds _ _ _ _ _ _ _
   refine zs2 (ρ:=fun _=>[.v true (.str ⟨#[]⟩),.v true (.int .i64 0),.v true (.int .i64 E)]) (o:=by repeat' first|exact hD|trivial|constructor) (k:=?_)
   refine Holds.from (σ' := {nt:=75,env:=[(5,.v true (.str ⟨#[]⟩)),(6,.v true (.int .i64 0)),(7,.v true (.int .i64 E)),(2,.ptr 2 0 [] 0),(3,.ptr 3 0 [] 0)],mem:=[(2,.box 23 (.v false (.agg [.int .i64 k,.int .i64 P]))),(3,.box 28 (.v false (.agg [.int .i64 kd,.bool neg,.int .i64 e,.sl 1 M])))]}) (fun a w h=>Rel.keep [5,6,7,2,3] [2,3] h) ?_
   clear hS hD
   refine zd2 [] (ρ:=fun y=>if y=24 then [.v true (.agg [.int .i64 k,.int .i64 P])] else if y=26 then [.v false (.agg [.int .i64 kd,.bool neg,.int .i64 e,.sl 1 M])] else [.v true (.int .i64 nu)]) (o:=by repeat' first|exact hF|exact hTh|exact hC|trivial|constructor) (k:=?_)
   refine Holds.next (fun σ => ∀a w,Rel cx w0 σ a w→Rel cx w0 {nt:=75,env:=[(8,.v true (.int .i64 E)),(5,.v true (.str ⟨#[]⟩)),(6,.v true (.int .i64 0)),(7,.v true (.int .i64 E))],mem:=[]} a w) ?_ ?_
   ·by_cases h0:nu=0
    ·obtain ⟨hk,h4⟩:=hw.1 h0
     subst h0
     subst h4
     refine zs1 hk ?_
     refine Holds.condT rfl ?_
     refine zr0 ?_
     exact fun a w h=>Rel.keep [8,5,6,7] [] h
    ·have:=hw.2 h0
     subst this
     refine zs1 h0 ?_
     exact Holds.condF rfl (Holds.skip fun a w h=>Rel.keep [8,5,6,7] [] h)
   ·intro σ hσ
    refine Holds.from hσ ?_
    refine Holds.seq ?_
    refine zs1 hE ?_
    refine Holds.condT rfl ?_
    refine Holds.step (Px:=px) (T:=TT) (ρ:=fun _=>[.v true (.bool true)]) TTe (by simp (maxSteps:=100000) (disch:=omega) only [go_sem,V.isAgg,V.flat,↓reduceIte,Nat.reduceAdd,Nat.reduceSub,Nat.reduceLT,Nat.reduceEqDiff,reduceCtorEq,Nat.reduceLeDiff,Nat.reduceBEq,Nat.reduceMul,Int.reduceToNat,eq_self];rfl) (by first | exact hA | (repeat' first | exact trivial | exact hA | constructor)) ?_
    exact Holds.ret (RetOk.vs rfl (by exact ⟨⟨rfl,id⟩,trivial⟩) rfl)
 ·rw [decide_eq_false h] at hS
  unfold fltW words fmtV
  obtain ⟨M,hM⟩ : ∃L,L=l.map fun n=>V.int .u64 n:=⟨_,rfl⟩
  rw [←hM] at hS ⊢
  clear hM he ol h
  refine FnOk.of Tryz.func5 rfl rfl fun cx w0=>?_
  rw [show Tryz.f5.ntmps=75 from rfl]
  refine zs0 ?_
  refine Holds.seq ?_
  refine zs2 (ρ:=fun _=>[.v true (.bool false)]) (o:=by repeat' first|exact hS|trivial|constructor) (k:=?_)
  refine Holds.condT rfl ?_
  refine zs2 (ρ:=fun _=>[.v true (.bool true)]) (o:=by repeat' first|exact hA|trivial|constructor) (k:=?_)
  exact Holds.ret (RetOk.vs rfl (by exact ⟨⟨rfl,id⟩,trivial⟩) rfl)
end Go.Proofs.YtlpolbeikangpaaGreatDoor.L
namespace Go.Proofs.YtlpolbeikangpaaGreatDoor.L
open Go Go.RowKit Go.ChangeShapes Go.WideShapes Go.ChangeAt
variable {H:Type} {enc:TypeId×Value→H} {P:Program}
theorem openIc {t e:TypeId} {k:IntKind} {W:World} {cs:List Value} {x:DataW H×List MemPlace} {fuel:Nat} (ht:P.underlying t=some (.slice e)) (he:P.underlying e=some (.int k)) (hc:P.cellsOf e=1)
 (hf:DataW.trod enc P W 0 (fun _=>true) true fuel t cs=some x) : ∃(l:List Int),(∀n∈l,(Lit.int k n).wf=true)∧Rep W (fun b=>b<W.heap.size∧True) (.sl 1 (l.map fun n => .int k n)) cs:=by
 rcases open_ints ht he hc hf with ⟨rfl,_⟩ | ⟨a,len,cap,zs,rfl,_,hl,hm,hz,_,hcell,hwz⟩
 ·exact ⟨[],(fun n hn=>by cases hn),by rw [Rep];exact .inl ⟨rfl,_,_,rfl⟩⟩
 ·simp only [if_true] at hz
  refine ⟨zs.take len,fun n hn=>hwz n (List.mem_of_mem_take hn),?_⟩
  rw [Rep]
  by_cases hl0:len=0
  ·subst hl0
   exact .inl ⟨by simp,_,_,rfl⟩
  ·obtain ⟨b,off,spot⟩:=a
   have hspot:spot=none:=by simpa [Addr.add] using World.cell?_spot (hcell 0 (by omega))
   subst hspot
   have hb:b<W.heap.size:=by
    have:=hcell 0 (by omega)
    refine Nat.lt_of_not_le fun hle=>?_
    simp [World.cell?,Addr.add,Array.getElem?_eq_none hle] at this
   have hlen:((zs.take len).map fun n=>V.int k n).length=len:=by rw [List.length_map,List.length_take];omega
   refine .inr ⟨b,off,cap,by rw [hlen];exact hl,⟨hb,trivial⟩,by rw [hlen],?_⟩
   refine RepF.row (repF_ints _) fun j hj=>?_
   rw [List.length_map,List.length_take] at hj
   have h1:=hcell j (by omega)
   rw [add_plain] at h1
   rw [h1,List.getElem?_map,List.getElem?_take_of_lt (by omega),List.getElem?_eq_getElem (by omega),List.getD_eq_getElem?_getD,List.getElem?_eq_getElem (by omega)]
   rfl
theorem openFlt {r:Reach} {b0:Nat} {t e:TypeId} {f0 f1 f2 f3:Field} {k0 k2 k3:IntKind} {W:World} {v:Value} {d:DataW H} {ps:List MemPlace} (ht:P.underlying t=some (.struct #[f0,f1,f2,f3])) (hc:P.cellsOf t=4) (o0:f0.offset=0) (o1:f1.offset=1) (o2:f2.offset=2) (o3:f3.offset=3)
 (c0:P.cellsOf f0.type=1) (c1:P.cellsOf f1.type=1) (c2:P.cellsOf f2.type=1) (c3:P.cellsOf f3.type=1) (u0:P.underlying f0.type=some (.int k0)) (u1:P.underlying f1.type=some .bool) (u2:P.underlying f2.type=some (.int k2)) (u3:P.underlying f3.type=some (.slice e))
 (ue:P.underlying e=some (.int k3)) (ce:P.cellsOf e=1) (hval:Value.okWide P W r b0 t v) (hd:DataW.Trod enc P W 0 (fun _=>true) true t v d ps) :
 ∃(a:Int) (b:Bool) (c:Int) (l:List Int),(Lit.int k0 a).wf=true∧(Lit.int k2 c).wf=true∧(∀n∈l,(Lit.int k3 n).wf=true)∧ArgRep W (fun _=>True) (.v (.agg [.int k0 a,.bool b,.int k2 c,.sl 1 (l.map fun n => .int k3 n)])) v:=by
 obtain ⟨cs,rfl,hsz⟩:=okWide_struct ht hval
 obtain ⟨fuel,hf⟩:=hd
 obtain ⟨xs,n,_,hx,hl,hlen,hg⟩:=DataW.trod_struct ht hf
 rw [Value.cells] at hg
 obtain ⟨cs⟩:=cs
 match cs,hsz.trans hc with
 | [x0,x1,x2,x3],_ =>
   match xs,hlen with
   | [y0,y1,y2,y3],_ =>
     have g0:=hg 0 f0 rfl
     have g1:=hg 1 f1 rfl
     have g2:=hg 2 f2 rfl
     have g3:=hg 3 f3 rfl
     rw [o0,c0,cells1 (c:=x0) rfl] at g0
     rw [o1,c1,cells1 (c:=x1) rfl] at g1
     rw [o2,c2,cells1 (c:=x2) rfl] at g2
     rw [o3,c3,cells1 (c:=x3) rfl] at g3
     obtain ⟨a,ha,_,wa⟩:=DataW.trod_int u0 (x:=y0) g0
     obtain ⟨b,hb,_⟩:=DataW.trod_bool u1 (x:=y1) g1
     obtain ⟨c,hc2,_,wc⟩:=DataW.trod_int u2 (x:=y2) g2
     obtain ⟨l,wl,hrep⟩:=openIc u3 ue ce g3
     cases ha;cases hb;cases hc2
     refine ⟨a,b,c,l,wa,wc,wl,?_⟩
     rw [ArgRep]
     refine ⟨[.int k0 a,.bool b,.int k2 c,x3],?_,rfl⟩
     rw [Rep,RepL]
     refine ⟨[.int k0 a],_,rfl,by rw [Rep],?_⟩
     rw [RepL]
     refine ⟨[.bool b],_,rfl,by rw [Rep],?_⟩
     rw [RepL]
     refine ⟨[.int k2 c],_,rfl,by rw [Rep],?_⟩
     rw [RepL]
     exact ⟨[x3],[],rfl,hrep,by rw [RepL]⟩
end Go.Proofs.YtlpolbeikangpaaGreatDoor.L
namespace Go.Proofs.YtlpolbeikangpaaGreatDoor.L
open Go Go.RowKit Go.Proofs Go.ChangeShapes Go.WideShapes Go.ChangeAt
theorem laidVars_mem {P:Program} {w:World} {n:String} {d:DataW Unit} : ∀ {l:List (String×DataW Unit)} {ps:List MemPlace},DataW.LaidVars P w l ps→(n,d)∈l →
 ∃g t cs fuel p,P.globalNamed n=some g∧(P.globals[g]?).map (·.type)=some t∧w.var? P n=some cs∧DataW.trod (fun _=>()) P w 0 (fun _=>true) false fuel t cs.toList=some (d,p)
 | [],_,_,hm=>by cases hm
 | x::r,ps,h,hm=>by
   obtain ⟨g,t,cs,fuel,p,q,h1,h2,h3,h4,h5,_⟩:=h
   rcases List.mem_cons.1 hm with rfl | hm
   ·exact ⟨g,t,cs,fuel,p,h1,h2,h3,h4⟩
   ·exact laidVars_mem h5 hm
theorem repL_ints {w:World} {ok:Nat→Prop} {k:IntKind} : ∀zs:List Int,RepL w ok (zs.map fun n=>V.int k n) (zs.map fun n=>Value.int k n)
 | []=>by rw [List.map_nil,List.map_nil,RepL]
 | z::r=>by
   rw [List.map_cons,List.map_cons,RepL]
   exact ⟨[.int k z],_,rfl,by rw [Rep],repL_ints r⟩
theorem ints_cells {P:Program} {w:World} {t e:TypeId} {n:Nat} {k:IntKind} {zs:List Int} {fuel:Nat} {cs:List Value} {p:List MemPlace} (hu:P.underlying t=some (.array n e)) (he:P.underlying e=some (.int k)) (c1:P.cellsOf e=1) (ct:P.cellsOf t=n) (hn:zs.length=n)
 (h:DataW.trod (fun _=>()) P w 0 (fun _=>true) false fuel t cs=some (.agg (zs.map fun z => .lit (.int k z)),p)):cs=zs.map fun n=>Value.int k n:=by
 obtain ⟨xs,m,_,ex,hl0,hl,hel⟩:=DataW.trod_array hu h
 have e3:(xs.map (·.1))=zs.map fun n => .lit (.int k n):=(DataW.agg.inj (Prod.mk.inj ex).1).symm
 apply List.ext_getElem
 ·rw [hl0,ct,List.length_map,hn]
 ·intro r h1 h2
  rw [List.length_map] at h2
  have hE:=hel r (by omega)
  rw [c1,Nat.mul_one,List.getElem?_eq_getElem (by omega)] at hE
  obtain ⟨z,e1,e2,_⟩:=DataW.trod_int he hE
  have e4:(xs.map (·.1))[r]?=(zs.map fun n=>(DataW.lit (.int k n):DataW Unit))[r]?:=by rw [e3]
  rw [List.getElem?_map,List.getElem?_map,List.getElem?_eq_getElem (by omega:r<xs.length),List.getElem?_eq_getElem h2,e2] at e4
  have hz:z=zs[r]:=by simpa using e4
  have h0:((cs.drop r).take 1)[0]?=some (.int k z):=by rw [e1];rfl
  have h3:cs[r]?=some (.int k z):=by simpa using h0
  rw [List.getElem?_eq_getElem h1] at h3
  rw [Option.some.inj h3,List.getElem_map,hz]
theorem gl_one {W:World} {nm:String} {g:Nat} {cs:Array Value} {x:V} {ok:Nat→Prop} (hg:Tryz.prog.globalNamed nm=some g) (hv:W.var? Tryz.prog nm=some cs) (hr:Rep W ok x cs.toList) :
 g<W.heap.size ∧ ∃cs,Rep W ok x cs ∧ ∃t f,W.heap[g]?=some (.cells cs.toArray t f):=by
 unfold World.var? at hv
 rw [hg,Option.bind_some] at hv
 split at hv
 ·next cs' t f h =>
  cases hv
  exact ⟨(Array.getElem?_eq_some_iff.1 h).1,cs.toList,hr,t,f,by rw [h]⟩
 ·cases hv
def intOf':V→Int
 | .int _ n=>n
 | _=>0
def intsOf':V→List Int
 | .agg fs=>fs.map intOf'
 | _=>[]
def pow10Z:List Int:=intsOf' pow10V
def bruijnZ:List Int:=intsOf' bruijnV
theorem pow10V_eq:pow10V = .agg (pow10Z.map fun n => .int .u64 n):=by kernel_rfl
theorem bruijnV_eq:bruijnV = .agg (bruijnZ.map fun n => .int .u8 n):=by kernel_rfl
theorem pow10D_eq:Rows.laid_internal_strconv_uint64pow10=(.agg (pow10Z.map fun n => .lit (.int .u64 n)):DataW Unit):=by kernel_rfl
theorem bruijnD_eq:Rows.laid_math_bits_deBruijn64tab=(.agg (bruijnZ.map fun n => .lit (.int .u8 n)):DataW Unit):=by kernel_rfl
def LAID:List (String×DataW Unit):=Rows.shortestLargeRow.laid
theorem laid_GL {W:World} (h:laidMetH Tryz.prog LAID W):GL W:=by
 have hF:=h.funcs (n := "reckoner/fin.more") (d := .agg [.iface "func" (.lit (.string [114,101,99,107,111,110,101,114,47,102,105,110,46,109,111,114,101,36,49])),.iface "func" (.lit (.string [114,101,99,107,111,110,101,114,47,102,105,110,46,109,111,114,101,36,50])),.iface "func" (.lit (.string [114,101,99,107,111,110,101,114,47,102,105,110,46,109,111,114,101,36,51])),.iface "func" (.lit (.string [114,101,99,107,111,110,101,114,47,102,105,110,46,109,111,114,101,36,52])),.iface "func" (.lit (.string [114,101,99,107,111,110,101,114,47,102,105,110,46,109,111,114,101,36,53]))]) (by
  show _∈Rows.shortestLargeRow.laid
  simp only [Rows.shortestLargeRow,Rows.laid_reckoner_fin_more,List.mem_cons,true_or,or_true])
 have hP:laidMet Tryz.prog (LAID.filter fun x=>x.2.handleName?.isNone) W:=by
  unfold laidMetH at h
  have e:(LAID.filter fun x=>x.2.handleName?.isSome)=[("reckoner/fin.more",Rows.laid_reckoner_fin_more)]:=by rfl
  rw [e] at h
  exact h.1
 obtain ⟨ps,hL,_,_⟩:=hP
 have hm1:("internal/strconv.uint64pow10",(Rows.laid_internal_strconv_uint64pow10:DataW Unit))∈LAID.filter fun x=>x.2.handleName?.isNone:=by
  rw [List.mem_filter]
  exact ⟨by show _∈Rows.shortestLargeRow.laid;simp only [Rows.shortestLargeRow,List.mem_cons,true_or,or_true],rfl⟩
 have hm2:("math/bits.deBruijn64tab",(Rows.laid_math_bits_deBruijn64tab:DataW Unit))∈LAID.filter fun x=>x.2.handleName?.isNone:=by
  rw [List.mem_filter]
  exact ⟨by show _∈Rows.shortestLargeRow.laid;simp only [Rows.shortestLargeRow,List.mem_cons,true_or,or_true],rfl⟩
 intro q hq
 simp only [GLOB,List.mem_cons,List.not_mem_nil,or_false] at hq
 rcases hq with rfl | rfl | rfl
 ·obtain ⟨g,t,cs,fuel,p,hg,ht,hv,hd⟩:=hF
  obtain rfl:=Option.some.inj ((show Tryz.prog.globalNamed "reckoner/fin.more" = some 0 by kernel_rfl).symm.trans hg)
  obtain rfl:=Option.some.inj ((show (Tryz.prog.globals[0]?).map (·.type)=some 244 by kernel_rfl).symm.trans ht)
  obtain ⟨xs,m,_,ex,hl0,hl,hel⟩:=DataW.trod_array Tryz.underlying244 hd
  have c1:Tryz.prog.cellsOf 243=1:=by kernel_rfl
  have ct:Tryz.prog.cellsOf 244=5:=by kernel_rfl
  have e3:=(DataW.agg.inj (Prod.mk.inj ex).1).symm
  have one : ∀(i:Nat) (f:FuncId) (s:UInt8),i<5→(xs.map (·.1))[i]?=some (.held [114,101,99,107,111,110,101,114,47,102,105,110,46,109,111,114,101,36,s]) →
   ((List.range Tryz.prog.funcs.size).filter fun f=>(Tryz.prog.funcs[f]?).any (·.name.toUTF8.data.toList == [114,101,99,107,111,110,101,114,47,102,105,110,46,109,111,114,101,36,s]))=[f]→cs.toList[i]?=some (.func (.func f) #[] #[]):=by
   intro i f s hi hx hone
   have hE:=hel i hi
   rw [c1,Nat.mul_one] at hE
   rw [List.getElem?_map] at hx
   cases hxi:xs[i]? with
   | none=>rw [hxi] at hx;cases hx
   | some y =>
     rw [hxi] at hx hE
     obtain ⟨y1,y2⟩:=y
     simp only [Option.map_some,Option.some.injEq] at hx
     subst hx
     have hlt:i<cs.toList.length:=by rw [hl0,ct];exact hi
     have h1:((cs.toList.drop i).take 1)=[cs.toList[i]]:=by rw [List.drop_eq_getElem_cons hlt];rfl
     rw [h1] at hE
     have:=func_of_trod (f0:=f) Tryz.underlying243 hone hE
     rw [List.getElem?_eq_getElem hlt,this]
  have k0:=one 0 311 49 (by decide) (by rw [e3];rfl) (by kernel_rfl)
  have k1:=one 1 312 50 (by decide) (by rw [e3];rfl) (by kernel_rfl)
  have k2:=one 2 313 51 (by decide) (by rw [e3];rfl) (by kernel_rfl)
  have k3:=one 3 314 52 (by decide) (by rw [e3];rfl) (by kernel_rfl)
  have k4:=one 4 315 53 (by decide) (by rw [e3];rfl) (by kernel_rfl)
  rw [ct] at hl0
  have hc:cs.toList=[.func (.func 311) #[] #[],.func (.func 312) #[] #[],.func (.func 313) #[] #[],.func (.func 314) #[] #[],.func (.func 315) #[] #[]]:=by
   match hcs:cs.toList,hl0 with
   | [a,b,c,d,e],_ =>
     rw [hcs] at k0 k1 k2 k3 k4
     simp only [List.getElem?_cons_zero,List.getElem?_cons_succ,Option.some.injEq] at k0 k1 k2 k3 k4
     rw [k0,k1,k2,k3,k4]
  refine gl_one hg hv ?_
  rw [hc]
  unfold moreV
  rw [Rep,RepL];refine ⟨[_],_,rfl,by rw [Rep],?_⟩
  rw [RepL];refine ⟨[_],_,rfl,by rw [Rep],?_⟩
  rw [RepL];refine ⟨[_],_,rfl,by rw [Rep],?_⟩
  rw [RepL];refine ⟨[_],_,rfl,by rw [Rep],?_⟩
  rw [RepL];refine ⟨[_],_,rfl,by rw [Rep],?_⟩
  rw [RepL]
 ·obtain ⟨g,t,cs,fuel,p,hg,ht,hv,hd⟩:=laidVars_mem hL hm2
  obtain rfl:=Option.some.inj ((show Tryz.prog.globalNamed "math/bits.deBruijn64tab" = some 3 by kernel_rfl).symm.trans hg)
  obtain rfl:=Option.some.inj ((show (Tryz.prog.globals[3]?).map (·.type)=some 280 by kernel_rfl).symm.trans ht)
  rw [bruijnD_eq] at hd
  have hc:=ints_cells Tryz.underlying280 Tryz.underlying5 (by kernel_rfl) (by kernel_rfl) (by kernel_rfl) hd
  refine gl_one hg hv ?_
  rw [bruijnV_eq,hc,Rep]
  exact repL_ints _
 ·obtain ⟨g,t,cs,fuel,p,hg,ht,hv,hd⟩:=laidVars_mem hL hm1
  obtain rfl:=Option.some.inj ((show Tryz.prog.globalNamed "internal/strconv.uint64pow10" = some 7 by kernel_rfl).symm.trans hg)
  obtain rfl:=Option.some.inj ((show (Tryz.prog.globals[7]?).map (·.type)=some 296 by kernel_rfl).symm.trans ht)
  rw [pow10D_eq] at hd
  have hc:=ints_cells Tryz.underlying296 Tryz.underlying91 (by kernel_rfl) (by kernel_rfl) (by kernel_rfl) hd
  refine gl_one hg hv ?_
  rw [pow10V_eq,hc,Rep]
  exact repL_ints _
def PLAIN:List (String×DataW Unit):=LAID.filter fun x=>x.2.handleName?.isNone
noncomputable def witBase (os:Os):World :=
 {World.holding Tryz.prog os ⟨#[],#[],[]⟩ with heap:=⟨Lay.setRows (World.holding Tryz.prog os ⟨#[],#[],[]⟩).heap.toList [(0,[.func (.func 311) #[] #[],.func (.func 312) #[] #[],.func (.func 313) #[] #[],.func (.func 314) #[] #[],.func (.func 315) #[] #[]])]⟩}
noncomputable def wit (os:Os):World:=(witBase os).layVars Tryz.prog PLAIN
theorem wit_os (os:Os):(wit os).os=os:=(World.layVars_os _ _ _).trans rfl
theorem wit_plain (os:Os) (args:Array Value):laidMet Tryz.prog PLAIN ((wit os).forCall (fun _ _=>0) ⟨#[],args,[]⟩).memory:=by
 have e1:(PLAIN.filter fun x=>(PLAIN.map (·.1)).contains x.1)=PLAIN:=List.filter_eq_self.2 fun x hx=>List.contains_iff_mem.2 (List.mem_map.2 ⟨x,hx,rfl⟩)
 have e2:(PLAIN.filter fun x => !(PLAIN.map (·.1)).contains x.1)=[]:=List.filter_eq_nil_iff.2 fun x hx=>by rw [List.contains_iff_mem.2 (List.mem_map.2 ⟨x,hx,rfl⟩)];simp
 have hf:(witBase os).layFits Tryz.prog PLAIN []=true:=by kernel_rfl
 have hi:(witBase os).layIfaces Tryz.prog PLAIN (wit os)=true:=by kernel_rfl
 have h:laidMet Tryz.prog PLAIN (wit os):=laidMet_layVars (w0:=witBase os) (PLAIN.map (·.1)) [] (by rw [e1];rfl) (by rw [e1];exact hf) (by rw [e1];exact hi) (by rw [e2];exact LaidIn.none)
 exact h.of_heap (by simp [World.memory,World.forCall,Input.heap])
theorem wit_met (os:Os) (args:Array Value):laidMetH Tryz.prog LAID ((wit os).forCall (fun _ _=>0) ⟨#[],args,[]⟩).memory :=
 laidMetH_of_parts3 (fuel:=8) (wit_plain os args) (by kernel_rfl) (by kernel_rfl)
end Go.Proofs.YtlpolbeikangpaaGreatDoor.L
