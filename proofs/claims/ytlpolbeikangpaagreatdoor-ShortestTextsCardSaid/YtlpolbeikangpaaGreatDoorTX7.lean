/-
  Gi Gj Gk Ha Hb Hc Hd He Hf Hg Hh Hj Hn Ho Ia Ib Ic Id Ie Ii Ij Ik Il Ja Jb Jc Jd Jg Jh Ji Jj Jk
-/
import Derived.Test.YtlpolbeikangpaaGreatDoorTX4
import Derived.Test.YtlpolbeikangpaaGreatDoorTX6
import Derived.Test.YtlpolbeikangpaaGreatDoorTX5
import Derived.Test.YtlpolbeikangpaaGreatDoorTX3
import Derived.Laws.RangeString
set_option linter.unusedSimpArgs false
set_option linter.unusedVariables false
set_option maxRecDepth 100000
namespace Go.Proofs.YtlpolbeikangpaaGreatDoor.L
open Go Go.RowKit Go.Proofs
attribute [local go_sem] Yq YQ JY JX JU JV XF Q4 ZB QH Jx Y4 St.opv St.get St.at Qu Xu St.put St.upd St.set decide_true List.all_nil List.all_cons Bool.and_true Bool.true_and and_self and_true true_and if_true if_false true_or Int.sub_zero List.nil_append List.cons_append List.append_nil Option.isSome_some List.getElem?_toArray List.getElem?_cons_succ List.getElem?_cons_zero Option.bind_some Option.map_some Option.map_none beq_self_eq_true Bool.false_beq Bool.true_beq Bool.not_true Bool.not_false Bool.false_eq_true cond_true cond_false DJ D3 List.map_cons List.map_nil YZ List.length_nil List.length_cons Nat.zero_mul Nat.one_mul Nat.mul_one Nat.zero_add Nat.add_zero Nat.zero_le Option.toList St.freshB AV.ment AV.ments Blk.ment V.sizes Nat.lt_add_one Bool.or_true Bool.true_or Bool.or_false Bool.false_or Bool.or_self if_pos if_neg decide_false decide_eq_true decide_eq_false QV Int.toNat_natCast FQ E7 Int.natCast_add Int.cast_ofNat_Int Option.isSome_none false_implies true_implies forall_const List.drop_zero Int.toNat_zero Int.add_sub_cancel Gy XK XE ZX Ug KH V.atP V.offP V.size List.length_map List.getElem?_map Int.toNat_natCast_add_one Int.ofNat_eq_natCast TY Y8 Qd U8 Z6 ZC Uu UH R.res R.mems R.blks R.av R.names R.nw XC XU Vz ZZ Ku V.off V.offs V.setP List.set_cons_zero List.set_cons_succ VH Yz YF YH KQ VC VG Kv AV.pure List.take_succ_cons List.take_zero Gz QZ unA U4 List.zipIdx_cons List.zipIdx_nil Arg.av Arg.avs
def dmS (s N M n:Nat) (v A Qs:List Int) (e:List (Nat×AV)):St :=
 {nt:=127,env:=e++[(12,.own 64 0 M),(11,.v true (.int .i64 n)),(9,.v true (QZ v)),(10,.own 53 0 N),(8,.v true (.int .i64 s))],
  mem:=[(64,.buf 91 1 true (Qs.map fun n=>.int .u64 n)),(53,.buf 91 1 true (A.map fun n=>.int .u64 n))]}
set_option maxHeartbeats 4000000 in
theorem wplaces_ok {cx:Cx} {w0:World} {s N M n n2 L Z:Nat} {v A Qs:List Int} {N':St→Prop} (hn:n=n2+2) (hN:M+n=N) (hNL:N≤L) (hL:L<5000) (hv:v.length=n) (ov:okW v) (hv0:0<val v) (hv1:0<(v.getD (n2+1) 0).toNat)
 (h0:DvJ v L M Z M A Qs) :
 QQ Tryz.prog none cx w0 (ZH Tryz.f130 [1,1,1,1,1,1,1,1,1,0]) (dmS s N M n v A Qs [])
  (NR (fun σ=>∃A Qs,DvJ v L M Z 0 A Qs ∧ ∀a w,Rel cx w0 σ a w→Rel cx w0 (dmS s N M n v A Qs []) a w) N'):=by
 have eN:((N:Int)-(n:Int)-1)=(M:Int)-1:=by omega
 unfold dmS
 refine zs1 eN ?_
 refine QQ.loopB (fun q:Nat×List Int×List Int=>dmS s N M n v q.2.1 q.2.2 [(13,.v true (.int .i64 ((q.1:Int)-1)))]) (fun q=>DvJ v L M Z q.1 q.2.1 q.2.2) (fun q=>q.1) (M,A,Qs) h0 (fun a w h=>Rel.keep [13,12,11,9,10,8] [64,53] h) ?_
 rintro ⟨j,A,Qs⟩ hI
 simp only at hI ⊢
 rcases j with _|j
 ·unfold dmS
  refine QQ.seq ?_
  refine zs0 ?_
  exact QQ.condF rfl (QQ.exit ⟨rfl,A,Qs,hI,fun a w h=>Rel.keep [12,11,9,10,8] [64,53] h⟩)
 ·have hj:=hI.le
  have e9:(((j+1:Nat):Int)-1)=(j:Int):=by omega
  have g9:(0:Int)≤(j:Int):=by omega
  rw [e9]
  obtain ⟨a,b,c,v1,v2,g,R,⟨hav,hb64,hc64,hv64,hvp,hw64⟩,gA,gB,gC,gV,gW,oR,lR,hg64,hcase,hnext⟩:=hI.step (by rw [hv,hn]) (by omega) ov hv1
  have lA:=hI.lA
  have lQ:=hI.lQ
  have fG:=guess_ok a b c v1 v2 hav hb64 hc64 hv64 hvp hw64
  obtain ⟨q,hq⟩ : ∃q,q=gsN a b c v1 v2:=⟨_,rfl⟩
  rw [←hq] at fG hcase
  have hq64:q<18446744073709551616:=by
   rw [hq];exact Nat.lt_of_le_of_lt (Nat.min_le_left _ _) (by decide)
  rw [show n2+2+1=n+1 from by omega] at hcase
  have hless : ∃bl:Bool,(if bl=true then q=g+1 else q=g)∧Ay Tryz.prog 207 (fun s=>.own s j (n+1)) (.buf 91 1 true (A.map fun n=>.int .u64 n)) (.buf 91 1 true ((cpW A R j).map fun n=>.int .u64 n)) [QZ v,.int .u64 q] [.bool bl]:=by
   rcases hcase with ⟨h1,h2⟩|⟨h1,h2,h3⟩
   ·exact ⟨false,by rw [if_neg (by simp)];exact h1,less_ok hI.oA ov hv (by omega) (by omega) (by omega) hq64 oR (by omega) false (.inl ⟨rfl,h2⟩)⟩
   ·exact ⟨true,by rw [if_pos rfl];exact h1,less_ok hI.oA ov hv (by omega) (by omega) (by omega) hq64 oR (by omega) true (.inr ⟨rfl,h2,h3⟩)⟩
  obtain ⟨bl,hbl,hL2⟩:=hless
  have i1:((j:Int)+(n:Int)).toNat=j+(n2+2):=by omega
  have i2:((j:Int)+(n:Int)-1).toNat=j+(n2+1):=by omega
  have i3:((j:Int)+(n:Int)-2).toNat=j+n2:=by omega
  have i4:((n:Int)-1).toNat=n2+1:=by omega
  have i5:((n:Int)-2).toNat=n2:=by omega
  have i6:((j:Int)+(n:Int)+1-(j:Int)).toNat=n+1:=by omega
  have hjn:j+n+1≤N:=by omega
  obtain ⟨A',hA'⟩ : ∃A',A'=cpW A R j:=⟨_,rfl⟩
  rw [←hA'] at hL2 hnext
  clear hI hcase hq hav hA' oR lR h0 eN
  unfold dmS
  refine QQ.seq ?_
  refine zs1 g9 ?_
  refine QQ.condT rfl (QQ.skip ?_)
  refine QQ.next (fun σ=>∀a w,Rel cx w0 σ a w→Rel cx w0 (dmS s N M n v A' (Qs.set j (g:Int)) [(13,.v true (.int .i64 j))]) a w) ?_ ?_
  ·refine QQ.blockN ?_
   refine zd3 [] (ρ:=fun _=>[.v true (.int .u64 (q:Nat))]) (an i1 <| an i2 <| an i3 <| an i4 <| an i5 <| an gA <| an gB <| an gC <| an gV <| gW) (o:=by repeat' first|exact fG|trivial|constructor) (k:=?_)
   refine QQ.from (σ':=dmS s N M n v A Qs [(14,.v true (.int .u64 (q:Nat))),(13,.v true (.int .i64 j))]) (fun a w h=>Rel.keep [14,13,12,11,9,10,8] [64,53] h) ?_
   refine QQ.next (fun σ=>∀a w,Rel cx w0 σ a w→Rel cx w0 (dmS s N M n v A' Qs [(14,.v true (.int .u64 (g:Nat))),(13,.v true (.int .i64 j))]) a w) ?_ ?_
   ·unfold dmS
    refine QQ.seq (QQ.regionR (Px:=px) (T:=TT) (ρ:=fun _=>[]) (k:=9) (s:=53) TTe (by simp (maxSteps:=100000) (disch:=omega) only [List.take_succ_cons,List.take_zero,go_sem,V.isAgg,V.flat,↓reduceIte,Nat.reduceAdd,Nat.reduceSub,Nat.reduceLT,Nat.reduceEqDiff,reduceCtorEq,Nat.reduceLeDiff,Nat.reduceBEq,Nat.reduceMul,Int.reduceToNat,i6];rfl) (by repeat' first|exact trivial|constructor) rfl (by rfl) rfl rfl (Nat.le_of_ble_eq_true rfl) (by rfl) (by first|rfl|exact if_pos rfl) (by rfl) (by rfl) (hL2) ⟨_,_,by simp (maxSteps:=100000) (disch:=omega) only [List.drop_succ_cons,List.drop_zero,mres,go_sem,V.isAgg,V.flat,↓reduceIte,Nat.reduceAdd,Nat.reduceSub,Nat.reduceLT,Nat.reduceEqDiff,reduceCtorEq,Nat.reduceLeDiff,Nat.reduceBEq,Nat.reduceMul,Int.reduceToNat,i6];rfl,by repeat' first|exact trivial|constructor,?_⟩);show QQ _ _ _ _ _ _ _
    cases bl with
    | true =>
      rw [if_pos rfl] at hbl
      have wq:IntKind.u64.wrap ((q:Int)-1)=(g:Int):=by rw [QE];omega
      refine QQ.condT rfl ?_
      refine zr1 wq ?_
      exact fun a w h=>Rel.keep [14,13,12,11,9,10,8] [64,53] h
    | false =>
      rw [if_neg (by simp)] at hbl
      subst hbl
      exact QQ.condF rfl (QQ.skip fun a w h=>Rel.keep [14,13,12,11,9,10,8] [64,53] h)
   ·intro σ hσ
    refine QQ.from hσ ?_
    have gQ:=QD (l:=Qs) (i:=j) (by omega)
    unfold dmS
    refine zr1 (an gQ <| lQ) ?_
    intro a w h
    have:=Rel.keep [13,12,11,9,10,8] [64,53] h
    rw [List.map_set]
    exact this
  ·intro σ hσ
   refine QQ.from hσ ?_
   unfold dmS
   refine zr0 ?_
   exact ⟨(j,A',Qs.set j (g:Int)),hnext,(show j<j+1 by omega),fun a w h=>Rel.keep [13,12,11,9,10,8] [64,53] h⟩
theorem Ex {l:List Int} (o:okW l):Qg (Qg l)=Qg l:=by
 rw [Yk (Z3 o),ZD,←Yk o]
set_option maxHeartbeats 4000000 in
theorem dm_small {cx:Cx} {w0:World} {X Y:List Int} {Rs:List R} (hx:X.length<2000) (ox:okW X) (hlt:val X<val Y) (oy:okW Y) (hy:Y.length<2000) (hRs:Rs=[.v true (QZ (QX (val X/val Y))),.v true (QZ (QX (val X%val Y)))]) :
 QQ Tryz.prog none cx w0 (ZH Tryz.f130 [1,1]) {nt:=127,env:=[(0,.v false (QZ X)),(1,.v false (QZ Y)),(4,.nil),(5,.nil)],mem:=[]} (fnQ Tryz.prog Tryz.f130 Rs):=by
 have hC:=K6 X Y (by omega) (by omega) ox oy
 rw [Q7,if_pos hlt] at hC
 have hT:=XZ X (by omega) ox
 rw [hRs,Nat.div_eq_of_lt hlt,Nat.mod_eq_of_lt hlt]
 refine QQ.seq ?_
 refine zs2 (ρ:=fun _=>[.v true (.int .i64 (-1))]) (o:=by repeat' first|exact hC|trivial|constructor) (k:=?_)
 refine QQ.condT rfl ?_
 refine zs2 (ρ:=fun _=>[.v true (QZ (QX (val X)))]) (o:=by repeat' first|exact hT|trivial|constructor) (k:=?_)
 exact QQ.ret ⟨_,[],rfl,⟨rfl,⟨rfl,id⟩,trivial⟩,by simp [R.names,R.mems,R.blks],by simp,rfl⟩
theorem zj {m n:Nat} (h:(QX m).length=n+1):0<((QX m).getD n 0).toNat:=by
 have ho:=(QY m).1
 have ht:Qg (QX m)=QX m:=by rw [Yk ho,(QY m).2.2]
 rcases XY (QX m) with hn|⟨t,z,hn,hz⟩
 ·rw [ht] at hn;rw [hn] at h;cases h
 ·rw [ht] at hn
  have hz':=ho z (by rw [hn];simp)
  have hl:t.length=n:=by rw [hn,List.length_append] at h;simpa using h
  have:(QX m).getD n 0=z:=by rw [hn,←hl];simp [List.getD_eq_getElem?_getD]
  rw [this];omega
theorem q9 {m n:Nat} (h:18446744073709551616^n≤m):n<(QX m).length:=by
 have h1:=ZY (QY m).1
 rw [(QY m).2.2] at h1
 rcases Nat.lt_or_ge n (QX m).length with h2|h2
 ·exact h2
 ·have:=Nat.pow_le_pow_right (n:=18446744073709551616) (by decide) h2
  omega
theorem scaled {Y:List Int} {n top s:Nat} (oY:okW Y) (hY:Qg Y=Y) (hn:Y.length=n+1) (ht:Y.getD n 0=(top:Int)) (h1:top*2^s<18446744073709551616) (hs:s<64) :
 (QX (val Y*2^s)).length=n+1∧18446744073709551616^n*2^s≤val Y*2^s:=by
 have hge:=CX oY (by rw [hY];omega)
 rw [hY,hn,Nat.add_sub_cancel] at hge
 have hp:0<2^s:=Nat.pow_pos (by decide)
 have h64:2^(64-s)*2^s=18446744073709551616:=by rw [←Nat.pow_add,show 64-s+s=64 from by omega]
 have htop:top<2^(64-s):=by
  rcases Nat.lt_or_ge top (2^(64-s)) with h|h
  ·exact h
  ·have:=Nat.mul_le_mul_right (2^s) h
   omega
 have htop2:(top+1)*2^s≤18446744073709551616:=by
  have:=Nat.mul_le_mul_right (2^s) (Nat.succ_le_of_lt htop)
  rw [h64] at this
  exact this
 have hv:=ZF (l:=Y) n
 rw [←hn,List.take_length,ht,Int.toNat_natCast] at hv
 have h0:=ZY (Y5 oY n)
 rw [List.length_take,Nat.min_eq_left (by omega)] at h0
 have hlt:val Y*2^s<18446744073709551616^(n+1):=by
  rw [Nat.pow_succ]
  have a1:val Y<18446744073709551616^n*(top+1):=by rw [Nat.mul_add,Nat.mul_one];omega
  have a2:=(Nat.mul_lt_mul_right hp).2 a1
  have a3:=Nat.mul_le_mul_left (18446744073709551616^n) htop2
  rw [←Nat.mul_assoc] at a3
  omega
 have hmul:18446744073709551616^n*2^s≤val Y*2^s:=Nat.mul_le_mul_right _ hge
 have hone:18446744073709551616^n*1≤18446744073709551616^n*2^s:=Nat.mul_le_mul_left _ hp
 have l1:=ZU hlt
 have l2:=q9 (m:=val Y*2^s) (n:=n) (by omega)
 exact ⟨by omega,hmul⟩
theorem dm_init {X U Qs:List Int} {n M s vd:Nat} (oU:okW U) (hU:val U=val X*2^s) (oX:okW X) (hX:X.length=M+n) (hvd:18446744073709551616^n*2^s≤vd) (hMU:M≤U.length) {d:List Int} (hd:val d=vd) :
 DvJ d (U.length+2) M (val X*2^s) M (U++[0,0]) (List.replicate M 0):=by
 have oA:okW (U++[0,0]):=fun q hq=>by
  rcases List.mem_append.1 hq with hq|hq
  ·exact oU q hq
  ·simp at hq;omega
 have vA:val (U++[0,0])=val X*2^s:=by rw [ZK,hU];simp [val]
 refine ⟨Nat.le_refl _,oA,by rw [List.length_append];rfl,(fun q hq=>by rw [List.mem_replicate] at hq;omega),List.length_replicate,by rw [List.drop_of_length_le (by simp),val,Nat.mul_zero,Nat.mul_zero,Nat.add_zero,vA],?_⟩
 have hc:=UG (U++[0,0]) M (by rw [List.length_append];omega)
 rw [vA] at hc
 have hx:=ZY oX
 rw [hX,Nat.pow_add] at hx
 have h1:=(Nat.mul_lt_mul_right (Nat.pow_pos (show 0<2 by decide):0<2^s)).2 hx
 rw [hd]
 rw [Nat.mul_assoc] at h1
 have h2:18446744073709551616^M*val ((U++[0,0]).drop M)<18446744073709551616^M*(18446744073709551616^n*2^s):=by omega
 have:=Nat.lt_of_mul_lt_mul_left h2
 omega
set_option maxHeartbeats 4000000 in
theorem Cv (x y:List Int) (hx:x.length<1000) (hy:y.length<1000) (ox:okW x) (oy:okW y) (h0:0<val y) :
 QU Tryz.prog 130 [.v (QZ x),.v (QZ y)] [.v true (QZ (QX (val x/val y))),.v true (QZ (QX (val x%val y)))]:=by
 have h1:=Yv x (by omega)
 have h2:=Yv y (by omega)
 have lx:=ZE x
 have ly:=ZE y
 have o1:=Z3 ox
 have o2:=Z3 oy
 have t1:=Ex ox
 have t2:=Ex oy
 rw [←ZD x,←ZD y]
 rw [←ZD y] at h0
 obtain ⟨X,hX⟩ : ∃X,X=Qg x:=⟨_,rfl⟩
 obtain ⟨Y,hY⟩ : ∃Y,Y=Qg y:=⟨_,rfl⟩
 rw [←hX] at h1 lx o1 t1 ⊢
 rw [←hY] at h2 ly o2 t2 h0 ⊢
 clear hX hY ox oy
 refine QU.of Tryz.func130 rfl rfl fun cx w0=>?_
 rw [show Tryz.f130.ntmps=127 from rfl]
 refine zs0 ?_
 refine zs2 (ρ:=fun d=>if d=16 then [.v false (QZ X)] else [.v false (QZ Y)]) (o:=by repeat' first|exact h1|exact h2|trivial|constructor) (k:=?_)
 refine QQ.from (σ' := {nt:=127,env:=[(0,.v false (QZ X)),(1,.v false (QZ Y)),(4,.nil),(5,.nil)],mem:=[]}) (fun a w h=>Rel.keep [0,1,4,5] [] h) ?_
 clear h1 h2
 by_cases hlt:val X<val Y
 ·exact dm_small (by omega) o1 hlt o2 (by omega) rfl
 have hC:=K6 X Y (by omega) (by omega) o1 o2
 obtain ⟨cc,hcc⟩ : ∃cc,cc=Q7 (val X) (val Y):=⟨_,rfl⟩
 have hc0 : ¬cc<0:=by rw [hcc,Q7,if_neg hlt];split <;> omega
 rw [←hcc] at hC
 clear hcc
 refine QQ.seq ?_
 refine zs3 (ρ:=fun _=>[.v true (.int .i64 cc)]) hc0 (o:=by repeat' first|exact hC|trivial|constructor) (k:=?_)
 refine QQ.condF rfl (QQ.skip ?_)
 refine QQ.from (σ' := {nt:=127,env:=[(0,.v false (QZ X)),(1,.v false (QZ Y)),(4,.nil),(5,.nil)],mem:=[]}) (fun a w h=>Rel.keep [0,1,4,5] [] h) ?_
 clear hC hc0
 have hYp:0<Y.length:=by
  rcases Nat.eq_zero_or_pos Y.length with h|h
  ·rw [List.length_eq_zero_iff.1 h] at h0;simp [val] at h0
  ·exact h
 obtain ⟨n,hn⟩ : ∃n,Y.length=n+1:=⟨Y.length-1,by omega⟩
 obtain ⟨top,ht,ht64⟩:=Xz (Qy o2 n)
 have gt:=QD (l:=Y) (i:=n) (by omega)
 rw [ht] at gt
 by_cases hY1:Y.length=1
 ·have hYe:Y=[(top:Int)]:=by
   match Y,hY1,ht with
   | [z],_,ht=>rw [show n=0 from by simp at hn;omega] at ht;simpa using ht
  have hvY:val Y=top:=by rw [hYe];simp [val]
  rw [hvY] at h0 ⊢
  have hD:=B4 X top (by omega) o1 h0 ht64
  have hW:=wWord_ok (val X%top) (Nat.lt_trans (Nat.mod_lt _ h0) ht64)
  obtain ⟨Q,hQ⟩ : ∃Q,Q=QX (val X/top):=⟨_,rfl⟩
  obtain ⟨r,hr⟩ : ∃r,r=val X%top:=⟨_,rfl⟩
  rw [←hQ,←hr] at hD ⊢
  rw [←hr] at hW
  have g1:(Y.length:Int)=1:=by omega
  have gt0:Y[0]?=some (top:Int):=by rw [hYe];rfl
  refine QQ.seq ?_
  refine zs1 g1 ?_
  refine QQ.condT rfl ?_
  refine zs3 (ρ:=fun _=>[.v true (QZ Q),.v true (.int .u64 r)]) (an gt0 <| hY1) (o:=by repeat' first|exact hD|trivial|constructor) (k:=?_)
  refine zs2 (ρ:=fun _=>[.v true (QZ (QX r))]) (o:=by repeat' first|exact hW|trivial|constructor) (k:=?_)
  exact QQ.ret (QK.vs rfl (by exact ⟨⟨rfl,id⟩,⟨rfl,id⟩,trivial⟩) rfl)
 have g1 : ¬(Y.length:Int)=1:=by omega
 have hbig:=CX o2 (by rw [t2];omega)
 have htp:0<top:=by
  have:=zj (m:=val Y) (n:=n) (by rw [←Yk o2,t2];exact hn)
  rw [←Yk o2,t2,ht] at this
  omega
 obtain ⟨s,hs64,hsE,hs1,hs2⟩:=norm64 ht64 htp
 have hlz:=lz64_ok top ht64
 rw [hsE] at hlz
 obtain ⟨hvl,hvge⟩:=scaled o2 t2 hn ht hs2 hs64
 have hShY:=zY Y s (by omega) (by omega) o2
 have hXn:n+1≤X.length:=by
  rcases Nat.lt_or_ge X.length (n+1) with h|h
  ·exact absurd (H3 o1 o2 (by rw [t1,t2];omega)) hlt
  ·exact h
 have hX0:val X≠0:=by omega
 have hShX:=wShlO_ok X s (by omega) (by omega) o1 hX0 500
 have oU:=(QY (val X*2^s)).1
 have vU:=(QY (val X*2^s)).2.2
 have oV:=(QY (val Y*2^s)).1
 have vV:=(QY (val Y*2^s)).2.2
 have hpos:0<2^s:=Nat.pow_pos (by decide)
 have hUge:X.length≤(QX (val X*2^s)).length:=by
  have h3:=CX o1 (by rw [t1];omega)
  rw [t1] at h3
  have h4:=Nat.mul_le_mul_left (val X) hpos
  have:=q9 (m:=val X*2^s) (n:=X.length-1) (by omega)
  omega
 have hUle:(QX (val X*2^s)).length≤X.length+1:=by
  refine ZU ?_
  have h3:=ZY o1
  have h4:2^s≤18446744073709551616:=by
   have:=Nat.pow_le_pow_right (n:=2) (by decide) (show s≤64 by omega)
   exact this
  rw [Nat.pow_succ]
  exact Nat.lt_of_lt_of_le ((Nat.mul_lt_mul_right hpos).2 h3) (Nat.mul_le_mul_left _ h4)
 obtain ⟨n2,hn2⟩ : ∃n2,n=n2+1:=⟨n-1,by omega⟩
 have hvtop:=zj (m:=val Y*2^s) (n:=n) hvl
 have hdiv:val X*2^s/(val Y*2^s)=val X/val Y:=Nat.mul_div_mul_right _ _ hpos
 have hmod:val X*2^s%(val Y*2^s)=val X%val Y*2^s:=Nat.mul_mod_mul_right _ _ _
 obtain ⟨M,hM⟩ : ∃M,X.length=M+n:=⟨X.length-n,by omega⟩
 have hI0:=dm_init (Qs:=[]) oU vU o1 hM hvge (by omega) vV
 obtain ⟨U,hU⟩ : ∃U,U=QX (val X*2^s):=⟨_,rfl⟩
 obtain ⟨v,hv⟩ : ∃v,v=QX (val Y*2^s):=⟨_,rfl⟩
 rw [←hU] at hShX hI0 hUge hUle
 rw [←hv] at hShY hvl oV vV hvtop hI0
 obtain ⟨N,hN⟩ : ∃N,N=X.length+1:=⟨_,rfl⟩
 have hv0:0<val v:=by rw [vV];exact Nat.mul_pos h0 hpos
 have hP:=fun {N'}=>wplaces_ok (cx:=cx) (w0:=w0) (s:=s) (N:=N) (M:=M) (n:=n+1) (n2:=n2) (N':=N') (by omega) (by omega) (by omega) (by omega) hvl oV hv0 (by rw [←hn2];exact hvtop) hI0
 clear hI0 hvtop hvge hs1 hs2 hbig hX0 hpos t1 t2 hlt h0 ht hsE
 obtain ⟨m,hm⟩ : ∃m,m=n+1:=⟨_,rfl⟩
 rw [←hm] at hvl hP
 refine QQ.seq ?_
 refine zs1 g1 ?_
 refine QQ.condF rfl (QQ.skip ?_)
 refine QQ.from (σ' := {nt:=127,env:=[(0,.v false (QZ X)),(1,.v false (QZ Y)),(4,.nil),(5,.nil)],mem:=[]}) (fun a w h=>Rel.keep [0,1,4,5] [] h) ?_
 have i1:(((n+1:Nat):Int)-1).toNat=n:=by omega
 have e1:(((n+1:Nat):Int)-1)=(n:Int):=by omega
 refine zs3 (ρ:=fun _=>[.v true (.int .i64 s)]) (an hn <| an e1 <| gt) (o:=by repeat' first|exact hlz|trivial|constructor) (k:=?_)
 refine zs2 (ρ:=fun _=>[.v true (QZ v)]) (o:=by repeat' first|exact hShY|trivial|constructor) (k:=?_)
 have iN:((X.length:Int)+1).toNat=N:=by omega
 refine zs3 (ρ:=fun _=>[.own 500 91 1 true (U.map fun n=>.int .u64 n)]) iN (o:=by repeat' first|exact hShX|trivial|constructor) (k:=?_)
 have hL:(U++[0,0]).length=U.length+2:=by rw [List.length_append];rfl
 refine QQ.from (σ' := {nt:=127,env:=[(9,.v true (QZ v)),(10,.own 53 0 N),(8,.v true (.int .i64 s)),(4,.nil),(5,.nil)],mem:=[(53,.buf 91 1 true ((U++[0,0]).map fun n=>.int .u64 n))]}) (fun a w h=>by
  have:=Rel.keep [9,10,8,4,5] [53] h
  rw [List.map_append]
  exact this) ?_
 refine zs0 ?_
 have hMi:((N:Int)-(m:Int)).toNat=M:=by omega
 have hMi0:(0:Int)≤(N:Int)-(m:Int):=by omega
 refine zs1 (an hvl <| an hMi <| an hMi0 <| J7) ?_
 refine QQ.next _ (QQ.from (σ':=dmS s N M m v (U++[0,0]) (List.replicate M 0) []) (fun a w h=>by
  have:=Rel.keep [12,11,9,10,8] [64,53] h
  unfold dmS
  rw [List.map_replicate]
  exact this) hP) ?_
 rintro σ ⟨A,Qs,hJ,hσ⟩
 refine QQ.from hσ ?_
 obtain ⟨rA,rQ⟩:=hJ.last hv0
 rw [vV] at rA rQ
 rw [hdiv] at rQ
 rw [hmod] at rA
 have lA:=hJ.lA
 have lQ:=hJ.lQ
 have hTQ:=XZ Qs (by omega) hJ.oQ
 rw [rQ] at hTQ
 have hup:=hJ.up
 rw [List.drop_zero] at hup
 have hAN:val (A.take N)=val A:=by
  have hc:=UG A N (by omega)
  have h3:=ZY oV
  rw [hvl] at h3
  have h4:18446744073709551616^m≤18446744073709551616^N:=Nat.pow_le_pow_right (by decide) (by omega)
  rcases Nat.eq_zero_or_pos (val (A.drop N)) with h|h
  ·rw [h,Nat.mul_zero,Nat.add_zero] at hc;exact hc.symm
  ·have:=Nat.mul_le_mul_left (18446744073709551616^N) h
   omega
 have hTA:=XZ (A.take N) (by rw [List.length_take];omega) (Y5 hJ.oA N)
 rw [hAN,rA] at hTA
 have hdl:(QX (val X%val Y*2^s)).length<10000:=by
  have h3:=ZY oV
  rw [hvl] at h3
  have:=ZU (v:=val X%val Y*2^s) (m:=m) (by rw [←rA];omega)
  omega
 have hSr:=wShr_ok (QX (val X%val Y*2^s)) s hdl (by omega) (QY _).1
 rw [(QY (val X%val Y*2^s)).2.2,Nat.mul_div_cancel _ (Nat.pow_pos (by decide))] at hSr
 obtain ⟨Dq,hDq⟩ : ∃Dq,Dq=QX (val X/val Y):=⟨_,rfl⟩
 obtain ⟨Dr,hDr⟩ : ∃Dr,Dr=QX (val X%val Y):=⟨_,rfl⟩
 obtain ⟨Ds,hDs⟩ : ∃Ds,Ds=QX (val X%val Y*2^s):=⟨_,rfl⟩
 rw [←hDq] at hTQ ⊢
 rw [←hDr] at hSr ⊢
 rw [←hDs] at hTA hSr
 have k1:List.take M (List.map (fun n=>V.int .u64 n) Qs)=List.map (fun n=>V.int .u64 n) Qs:=List.take_of_length_le (by rw [List.length_map];omega)
 have k2:List.take N (List.map (fun n=>V.int .u64 n) A)=List.map (fun n=>V.int .u64 n) (A.take N):=List.map_take.symm
 clear hJ rA rQ hdl hAN hup hP hσ
 unfold dmS
 refine zs3 (ρ:=fun d=>if d=122 then [.v true (QZ Dq)] else if d=124 then [.v true (QZ Ds)] else [.v true (QZ Dr)]) (an k1 <| k2) (o:=by repeat' first|exact hTQ|exact hTA|exact hSr|trivial|constructor) (k:=?_)
 exact QQ.ret (QK.vs rfl (by exact ⟨⟨rfl,id⟩,⟨rfl,id⟩,trivial⟩) rfl)
theorem and_one (k:Nat) (hk:k<9223372036854775808):Jy .and .i64 (k:Int) 1=((k%2:Nat):Int):=by
 show IntKind.i64.wrap ((BitVec.ofInt IntKind.i64.bits (k:Int) &&& BitVec.ofInt IntKind.i64.bits 1).toNat:Int)=_
 have h1:(BitVec.ofInt IntKind.i64.bits (k:Int) &&& BitVec.ofInt IntKind.i64.bits 1).toNat=k%2:=by
  rw [BitVec.toNat_and,BitVec.toNat_ofInt,BitVec.toNat_ofInt]
  have e1:((k:Int)%((2^IntKind.i64.bits:Nat):Int)).toNat=k:=by
   show ((k:Int)%18446744073709551616).toNat=_
   omega
  have e2:((1:Int)%((2^IntKind.i64.bits:Nat):Int)).toNat=1:=by
   show ((1:Int)%18446744073709551616).toNat=_
   decide
  rw [e1,e2,Nat.and_one_is_mod]
 rw [h1]
 exact QV (by omega) (by omega)
theorem pow_half {b k:Nat}:b^k=b^(k%2)*(b*b)^(k/2):=by
 rw [←Nat.pow_two,←Nat.pow_mul,←Nat.pow_add]
 congr 1
 omega
theorem pow_inv {B e k o o' b:Nat} {b':List Int} (hbe:b<2^e) (hke:k*e≤B) (hoe:o<2^(B-k*e+1)) (he1:1≤e) (h0:0<k) (ho':o'=o*b^(k%2)) (ob':okW b') (hb':k/2=0∨val b'=b*b) :
 ∃e',1≤e'∧val b'<2^e'∧k/2*e'≤B∧o'<2^(B-k/2*e'+1)∧(k/2=0∨e'≤B):=by
 have hkk:k*e=k/2*(e+e)+k%2*e:=by
  have:=Nat.div_add_mod k 2
  rw [←Nat.two_mul e,←Nat.mul_assoc,Nat.mul_comm (k/2) 2,←Nat.add_mul,this]
 have hob:o'<2^(B-k*e+1+k%2*e):=by
  rw [ho',Nat.pow_add]
  rcases Nat.mod_two_eq_zero_or_one k with h|h
  ·rw [h,Nat.pow_zero,Nat.zero_mul,Nat.pow_zero,Nat.mul_one,Nat.mul_one];exact hoe
  ·rw [h,Nat.pow_one,Nat.one_mul];exact Nat.mul_lt_mul'' hoe hbe
 rcases Nat.eq_zero_or_pos (k/2) with h|h
 ·refine ⟨64*b'.length+1,by omega,?_,by rw [h,Nat.zero_mul];exact Nat.zero_le _,?_,.inl h⟩
  ·have:=ZY ob'
   rw [show (18446744073709551616:Nat)=2^64 from rfl,←Nat.pow_mul] at this
   exact Nat.lt_of_lt_of_le this (Nat.pow_le_pow_right (by decide) (by omega))
  ·rw [h,Nat.zero_mul,Nat.zero_add] at hkk
   rw [h,Nat.zero_mul]
   exact Nat.lt_of_lt_of_le hob (Nat.pow_le_pow_right (by decide) (by omega))
 ·rcases hb' with hb'|hb'
  ·omega
  ·have h2:1*(e+e)≤k/2*(e+e):=Nat.mul_le_mul_right _ h
   refine ⟨e+e,by omega,by rw [hb',Nat.pow_add];exact Nat.mul_lt_mul'' hbe hbe,by omega,?_,.inr (by omega)⟩
   exact Nat.lt_of_lt_of_le hob (Nat.pow_le_pow_right (by decide) (by omega))
set_option maxHeartbeats 2000000 in
theorem wPow_ok (x:List Int) (K c:Nat) (ox:okW x) (hx:x.length<1000) (hc:val x<2^c) (hK:K*c<1000000) (hc1:1≤c):QU Tryz.prog 58 [.v (QZ x),.v (.int .i64 K)] [.v true (QZ (QX (val x^K)))]:=by
 have hKl:K<1000000:=Nat.lt_of_le_of_lt (Nat.le_mul_of_pos_right K hc1) hK
 have len : ∀ {m e:Nat},m<2^e→e≤2000000→(QX m).length<100000:=fun {m e} h1 h2=>by
  have:m<18446744073709551616^(e/64+1):=by
   rw [show (18446744073709551616:Nat)=2^64 from rfl,←Nat.pow_mul]
   exact Nat.lt_of_lt_of_le h1 (Nat.pow_le_pow_right (by decide) (by omega))
  have:=ZU this
  omega
 obtain ⟨T,hT⟩ : ∃T,T=val x^K:=⟨_,rfl⟩
 rw [←hT]
 refine QU.of Tryz.func58 rfl rfl fun cx w0=>?_
 rw [show Tryz.f58.ntmps=25 from rfl]
 refine zs0 ?_
 refine zs0 ?_
 refine QQ.next (fun σ=>∀a w,Rel cx w0 σ a w→Rel cx w0 {nt:=25,env:=[(5,.v true (QZ (QX T)))],mem:=[]} a w) ?_ ?_
 ·refine zs0 ?_
  refine QQ.loopB (fun s:Nat×Nat×List Int×Bool => {nt:=25,env:=[(1,.v true (.int .i64 (s.1:Nat))),(5,.v true (QZ (QX s.2.1))),(6,.v s.2.2.2 (QZ s.2.2.1))],mem:=[]})
   (fun s=>s.1≤K∧okW s.2.2.1∧s.2.2.1.length<100000∧s.2.1*val s.2.2.1^s.1=T ∧ ∃e,1≤e∧val s.2.2.1<2^e∧s.1*e≤K*c∧s.2.1<2^(K*c-s.1*e+1)∧(s.1=0∨e≤K*c)) (fun s=>s.1) (K,1,x,false)
   ⟨Nat.le_refl _,ox,by show x.length<100000;omega,by show 1*val x^K=T;rw [Nat.one_mul,hT],c,hc1,hc,Nat.le_refl _,by show 1<2^(K*c-K*c+1);rw [Nat.sub_self];decide,by
     rcases Nat.eq_zero_or_pos K with h|h
     ·exact .inl h
     ·exact .inr (Nat.le_mul_of_pos_left c h)⟩ (fun a w h=>?_) ?_
  ·have:=Rel.keep [1,5,6] [] (Rel.freeze (s:=7) (e:=91) (z:=1) (nw:=true) (xs:=[V.int .u64 1]) h rfl)
   show Rel cx w0 {nt:=25,env:=[(1,.v true (.int .i64 (K:Nat))),(5,.v true (QZ (QX 1))),(6,.v false (QZ x))],mem:=[]} a w
   rw [show QX 1=[1] from by decide]
   exact this
  rintro ⟨k,o,b,nb⟩ ⟨hk,ob,lb,hv,e,he1,hbe,hke,hoe,hle⟩
  simp only at hk ob lb hv hbe hke hoe hle ⊢
  rcases Nat.eq_zero_or_pos k with h0|h0
  ·subst h0
   rw [Nat.pow_zero,Nat.mul_one] at hv
   rw [hv]
   refine QQ.seq ?_
   refine zs0 ?_
   exact QQ.condF rfl (QQ.exit ⟨rfl,fun a w h=>Rel.keep [5] [] h⟩)
  ·have g:(0:Int)<k:=by omega
   have heK:e≤K*c:=by omega
   have hol:(QX o).length<100000:=len hoe (by omega)
   have ha1:=and_one k (by omega)
   have hM:=FE (QX o) b (by omega) (by omega) (QY o).1 ob
   rw [(QY o).2.2] at hM
   have hS:=FE b b (by omega) (by omega) ob ob
   have hlen2:(QX (val b*val b)).length<100000:=len (e:=e+e) (by rw [Nat.pow_add];exact Nat.mul_lt_mul'' hbe hbe) (by omega)
   have hh:=pow_half (b:=val b) (k:=k)
   have hfd:Int.fdiv (k:Int) (2^min 1 64)=((k/2:Nat):Int):=by
    have:=D5 k 1 (by omega)
    exact this
   have wk:IntKind.i64.wrap ((k/2:Nat):Int)=((k/2:Nat):Int):=QV (by omega) (by omega)
   obtain ⟨o',ho'⟩ : ∃o',o'=o*val b^(k%2):=⟨_,rfl⟩
   refine QQ.seq ?_
   refine zs1 g ?_
   refine QQ.condT rfl (QQ.skip ?_)
   refine QQ.next (fun σ=>∃b' nb',okW b'∧b'.length<100000∧(k/2=0∨val b'=val b*val b) ∧ ∀a w,Rel cx w0 σ a w→Rel cx w0 {nt:=25,env:=[(1,.v true (.int .i64 (k:Nat))),(5,.v true (QZ (QX o'))),(6,.v nb' (QZ b'))],mem:=[]} a w) ?_ ?_
   ·refine QQ.blockN ?_
    refine QQ.next (fun σ=>∀a w,Rel cx w0 σ a w→Rel cx w0 {nt:=25,env:=[(1,.v true (.int .i64 (k:Nat))),(5,.v true (QZ (QX o'))),(6,.v nb (QZ b))],mem:=[]} a w) ?_ ?_
    ·rcases Nat.mod_two_eq_zero_or_one k with h2|h2
     ·rw [h2,Nat.pow_zero,Nat.mul_one] at ho'
      rw [h2] at ha1
      rw [ho']
      refine zs1 ha1 ?_
      exact QQ.condF rfl (QQ.skip fun a w h=>Rel.keep [1,5,6] [] h)
     ·rw [h2,Nat.pow_one] at ho'
      rw [h2] at ha1
      rw [←ho'] at hM
      refine zs1 ha1 ?_
      refine QQ.condT rfl ?_
      refine zr2 (ρ:=fun _=>[.v true (QZ (QX o'))]) (o:=by repeat' first|exact hM|trivial|constructor) (k:=?_)
      exact fun a w h=>Rel.keep [1,5,6] [] h
    ·intro σ hσ
     refine QQ.from hσ ?_
     clear hσ
     by_cases hk1:1<k
     ·have g2:(1:Int)<k:=by omega
      obtain ⟨D,hD⟩ : ∃D,D=QX (val b*val b):=⟨_,rfl⟩
      rw [←hD] at hS hlen2
      refine zs1 g2 ?_
      refine QQ.condT rfl ?_
      refine zr2 (ρ:=fun _=>[.v true (QZ D)]) (o:=by repeat' first|exact hS|trivial|constructor) (k:=?_)
      exact ⟨D,true,by rw [hD];exact (QY _).1,hlen2,.inr (by rw [hD,(QY _).2.2]),fun a w h=>Rel.keep [1,5,6] [] h⟩
     ·have g2 : ¬(1:Int)<k:=by omega
      refine zs1 g2 ?_
      exact QQ.condF rfl (QQ.skip ⟨b,nb,ob,lb,.inl (by omega),fun a w h=>Rel.keep [1,5,6] [] h⟩)
   ·rintro σ ⟨b',nb',ob',lb',hb',hσ⟩
    refine QQ.from hσ ?_
    refine zr1 (an hfd <| wk) ?_
    refine ⟨(k/2,o',b',nb'),⟨by show k/2≤K;omega,ob',lb',?_,?_⟩,(show k/2<k by omega),fun a w h=>Rel.keep [1,5,6] [] h⟩
    ·show o'*val b'^(k/2)=T
     rw [ho',Nat.mul_assoc,←hv]
     rcases hb' with h|h
     ·rw [h,Nat.pow_zero,Nat.mul_one]
      have:k=1:=by omega
      rw [this]
     ·rw [h,←hh]
    ·exact pow_inv (show val b<2^e from hbe) hke hoe he1 h0 ho' ob' hb'
 ·intro σ hσ
  refine QQ.from hσ ?_
  refine zs0 ?_
  exact QQ.ret (QK.vs rfl (by exact ⟨⟨rfl,id⟩,trivial⟩) rfl)
theorem H5 (k:Nat) (hk:k<100000):QU Tryz.prog 112 [.v (.int .i64 k)] [.v true (QZ (QX (10^k)))]:=by
 have o5:okW [(5:Int)]:=by intro n hn;simp at hn;omega
 have v5:val [(5:Int)]=5:=by decide
 have h1:=wPow_ok [5] k 3 o5 (by simp) (by rw [v5];decide) (by omega) (by omega)
 rw [v5] at h1
 have hl:(QX (5^k)).length<10000:=by
  have h5:(5:Nat)^k≤8^k:=Nat.pow_le_pow_left (by decide) k
  rw [show (8:Nat)=2^3 from rfl,←Nat.pow_mul] at h5
  have h6:(2:Nat)^(3*k)<18446744073709551616^(3*k/64+1):=by
   rw [show (18446744073709551616:Nat)=2^64 from rfl,←Nat.pow_mul]
   exact Nat.pow_lt_pow_right (by decide) (by omega)
  have:=ZU (Nat.lt_of_le_of_lt h5 h6)
  omega
 have h2:=zY (QX (5^k)) k hl (by omega) (QY _).1
 rw [(QY (5^k)).2.2,←Nat.mul_pow] at h2
 have h2:QU Tryz.prog 55 [.v (QZ (QX (5^k))),.v (.int .i64 k)] [.v true (QZ (QX (10^k)))]:=h2
 have h1:QU Tryz.prog 58 [.v (.sl 1 [.int .u64 5]),.v (.int .i64 k)] [.v true (QZ (QX (5^k)))]:=h1
 obtain ⟨P,hP⟩ : ∃P,P=QX (5^k):=⟨_,rfl⟩
 obtain ⟨T,hT⟩ : ∃T,T=QX (10^k):=⟨_,rfl⟩
 rw [←hP] at h1 h2
 rw [←hT] at h2 ⊢
 refine QU.of Tryz.func112 rfl rfl fun cx w0=>?_
 rw [show Tryz.f112.ntmps=8 from rfl]
 refine zs0 ?_
 refine zs2 (ρ:=fun d=>if d=5 then [.v true (QZ P)] else [.v true (QZ T)]) (o:=by repeat' first|exact h1|exact h2|trivial|constructor) (k:=?_)
 exact QQ.ret (QK.vs rfl (by exact ⟨⟨rfl,id⟩,trivial⟩) rfl)
def blN (v:Nat):Nat:=if v=0 then 0 else v.log2+1
theorem bl_of {v k:Nat} (h1:2^k≤v) (h2:v<2^(k+1)):blN v=k+1:=by
 have hp:0<2^k:=Nat.pow_pos (by decide)
 have h0:v≠0:=by omega
 rw [blN,if_neg h0]
 have a1:v.log2<k+1:=(Nat.log2_lt h0).2 h2
 have a2:k≤v.log2:=(Nat.le_log2 h0).2 h1
 omega
theorem bl_words {Y:List Int} {n top l:Nat} (oY:okW Y) (hn:Y.length=n+1) (ht:Y.getD n 0=(top:Int)) (hl0:0<l) (hl1:2^(l-1)≤top) (hl2:top<2^l):blN (val Y)=64*n+l:=by
 have hv:=ZF (l:=Y) n
 rw [←hn,List.take_length,ht,Int.toNat_natCast] at hv
 have h0:=ZY (Y5 oY n)
 rw [List.length_take,Nat.min_eq_left (by omega)] at h0
 have hP:(18446744073709551616:Nat)^n=2^(64*n):=by rw [Nat.pow_mul]
 rw [hP] at hv h0
 have e:64*n+l=(64*n+(l-1))+1:=by omega
 rw [e]
 refine bl_of ?_ ?_
 ·have:=Nat.mul_le_mul_left (2^(64*n)) hl1
  rw [←Nat.pow_add] at this
  omega
 ·have:=Nat.mul_le_mul_left (2^(64*n)) (Nat.succ_le_of_lt hl2)
  rw [←Nat.pow_add,Nat.succ_eq_add_one,Nat.mul_add,Nat.mul_one,e] at this
  omega
theorem H4 (x:List Int) (hx:x.length<100000) (ox:okW x):QU Tryz.prog 59 [.v (QZ x)] [.v true (.int .i64 (blN (val x):Nat))]:=by
 have h1:=Yv x (by omega)
 have lx:=ZE x
 have o1:=Z3 ox
 have t1:=Ex ox
 rw [←ZD x]
 obtain ⟨X,hX⟩ : ∃X,X=Qg x:=⟨_,rfl⟩
 rw [←hX] at h1 lx o1 t1 ⊢
 clear hX ox
 refine QU.of Tryz.func59 rfl rfl fun cx w0=>?_
 rw [show Tryz.f59.ntmps=20 from rfl]
 refine zs0 ?_
 refine zs2 (ρ:=fun _=>[.v false (QZ X)]) (o:=by repeat' first|exact h1|trivial|constructor) (k:=?_)
 refine QQ.from (σ' := {nt:=20,env:=[(0,.v false (QZ X))],mem:=[]}) (fun a w h=>Rel.keep [0] [] h) ?_
 refine QQ.seq ?_
 by_cases h0:X.length=0
 ·have:X=[]:=List.length_eq_zero_iff.1 h0
  subst this
  refine zs0 ?_
  refine QQ.condT rfl ?_
  refine zs0 ?_
  exact QQ.ret (QK.vs rfl (by exact ⟨⟨rfl,id⟩,trivial⟩) rfl)
 ·obtain ⟨n,hn⟩ : ∃n,X.length=n+1:=⟨X.length-1,by omega⟩
  obtain ⟨top,ht,ht64⟩:=Xz (Qy o1 n)
  have gt:=QD (l:=X) (i:=n) (by omega)
  rw [ht] at gt
  have htp:0<top:=by
   have:=zj (m:=val X) (n:=n) (by rw [←Yk o1,t1];exact hn)
   rw [←Yk o1,t1,ht] at this
   omega
  obtain ⟨l1,l2,l3⟩:=Bq ht64 htp
  have hb:=bl_words o1 hn ht l1 l2 l3
  have hL:=len64_ok top ht64
  have hl64:UJ top≤64:=by
   rcases Nat.lt_or_ge 64 (UJ top) with h|h
   ·have:=Nat.pow_le_pow_right (n:=2) (by decide) (show 64≤UJ top-1 by omega)
    rw [show (2:Nat)^64=18446744073709551616 from rfl] at this
    omega
   ·exact h
  obtain ⟨l,hl⟩ : ∃l,l=UJ top:=⟨_,rfl⟩
  rw [←hl] at hb hL hl64
  rw [hb]
  have g0 : ¬(X.length:Int)=0:=by omega
  have e1:(((n+1:Nat):Int)-1)=(n:Int):=by omega
  have w1:IntKind.i64.wrap (64*(n:Int))=((64*n:Nat):Int):=by rw [QV] <;> omega
  have w2:IntKind.i64.wrap (((64*n:Nat):Int)+(l:Int))=((64*n+l:Nat):Int):=by rw [QV] <;> omega
  refine zs1 g0 ?_
  refine QQ.condF rfl (QQ.skip ?_)
  refine zs3 (ρ:=fun _=>[.v true (.int .i64 (l:Nat))]) (an hn <| an e1 <| an gt <| an w1 <| w2) (o:=by repeat' first|exact hL|trivial|constructor) (k:=?_)
  exact QQ.ret (QK.vs rfl (by exact ⟨⟨rfl,id⟩,trivial⟩) rfl)
def EB (v D:Nat):Prop:=1≤D∧10^(D-1)≤v∧v<10^D
theorem KK : ∀(v:Nat),0<v → ∃D,EB v D:=fun v hv=>by
 have key : ∀n,v<10^n → ∃D,EB v D:=fun n=>by
  induction n with
  | zero=>intro h;simp at h;omega
  | succ n ih =>
    intro h
    rcases Nat.lt_or_ge v (10^n) with h1|h1
    ·exact ih h1
    ·exact ⟨n+1,by omega,h1,h⟩
 exact key v (Nat.lt_pow_self (by decide))
theorem yQ {v D n:Nat} (h:EB v D) (hn:10^n≤v):n<D:=by
 rcases Nat.lt_or_ge n D with h1|h1
 ·exact h1
 ·have:=Nat.pow_le_pow_right (n:=10) (by decide) h1
  have:=h.2.2
  omega
theorem yZ {v D n:Nat} (h:EB v D) (hn:v<10^n):D≤n:=by
 rcases Nat.lt_or_ge n D with h1|h1
 ·have:=Nat.pow_le_pow_right (n:=10) (by decide) (show n≤D-1 by omega)
  have:=h.2.1
  omega
 ·exact h1
theorem U3 {v:Nat} (h:0<v):2^(blN v-1)≤v∧1≤blN v:=by
 rw [blN,if_neg (by omega),Nat.add_sub_cancel]
 exact ⟨Nat.log2_self_le (by omega),by omega⟩
theorem X6 {v k:Nat} (h:v<2^k):blN v≤k:=by
 unfold blN
 split
 ·exact Nat.zero_le _
 ·next h0=>exact (Nat.log2_lt h0).2 h
def VE (v i:Nat):Bool:=decide (v/2^i%2=1)
theorem bit_word {x:List Int} (ox:okW x) (i:Nat):val x/2^i%2=(x.getD (i/64) 0).toNat/2^(i%64)%2:=by
 obtain ⟨m,hm⟩ : ∃m,m=i/64:=⟨_,rfl⟩
 obtain ⟨r,hr⟩ : ∃r,r=i%64:=⟨_,rfl⟩
 rw [←hm,←hr]
 have hi:i=64*m+r:=by omega
 have hP:(2:Nat)^i=18446744073709551616^m*2^r:=by rw [hi,Nat.pow_add,Nat.pow_mul,show (2:Nat)^64=18446744073709551616 from rfl]
 rw [hP,←Nat.div_div_eq_div_mul]
 rcases Nat.lt_or_ge m x.length with h|h
 ·have hc:=UG x m (by omega)
  have hl:=ZY (Y5 ox m)
  rw [List.length_take,Nat.min_eq_left (by omega)] at hl
  have hd:val x/18446744073709551616^m=val (x.drop m):=by
   rw [hc,Nat.add_comm,Nat.mul_add_div (Nat.pow_pos (by decide)),Nat.div_eq_of_lt hl,Nat.add_zero]
  rw [hd,List.drop_eq_getElem_cons h,val,List.getD_eq_getElem?_getD,List.getElem?_eq_getElem h]
  show (x[m].toNat+18446744073709551616*val (x.drop (m+1)))/2^r%2=x[m].toNat/2^r%2
  obtain ⟨k,hk⟩ : ∃k,64-r=k+1:=⟨63-r,by omega⟩
  have hB:18446744073709551616=2^r*(2*2^k):=by rw [←Nat.pow_succ',←Nat.pow_add,show r+(k+1)=64 from by omega]
  rw [hB,Nat.mul_assoc,Nat.add_comm,Nat.mul_add_div (Nat.pow_pos (by decide)),Nat.mul_assoc]
  omega
 ·have h0:val x/18446744073709551616^m=0:=by
   refine Nat.div_eq_of_lt (Nat.lt_of_lt_of_le (ZY ox) (Nat.pow_le_pow_right (by decide) h))
  rw [h0,List.getD_eq_getElem?_getD,List.getElem?_eq_none h]
  simp
theorem and_one64 (k:Nat) (hk:k<18446744073709551616):Jy .and .u64 (k:Int) 1=((k%2:Nat):Int):=by
 show IntKind.u64.wrap ((BitVec.ofInt IntKind.u64.bits (k:Int) &&& BitVec.ofInt IntKind.u64.bits 1).toNat:Int)=_
 have h1:(BitVec.ofInt IntKind.u64.bits (k:Int) &&& BitVec.ofInt IntKind.u64.bits 1).toNat=k%2:=by
  rw [BitVec.toNat_and,BitVec.toNat_ofInt,BitVec.toNat_ofInt]
  have e1:((k:Int)%((2^IntKind.u64.bits:Nat):Int)).toNat=k:=by
   show ((k:Int)%18446744073709551616).toNat=_
   omega
  have e2:((1:Int)%((2^IntKind.u64.bits:Nat):Int)).toNat=1:=by
   show ((1:Int)%18446744073709551616).toNat=_
   decide
  rw [e1,e2,Nat.and_one_is_mod]
 rw [h1]
 exact YY _ (by omega)
theorem CZ (x:List Int) (i:Nat) (hx:x.length<100000) (hi:i<10000000) (ox:okW x):QU Tryz.prog 60 [.v (QZ x),.v (.int .i64 i)] [.v true (.bool (VE (val x) i))]:=by
 have hb:=bit_word ox i
 have hq:(i:Int).tdiv 64=((i/64:Nat):Int):=KF i 64
 have hr:(i:Int).tmod 64=((i%64:Nat):Int):=Gq i 64
 obtain ⟨w,hw,hw64⟩:=Xz (Qy ox (i/64))
 rw [hw,Int.toNat_natCast] at hb
 unfold VE
 rw [hb]
 have hs:=D5 w (i%64) (by omega)
 have hle:w/2^(i%64)≤w:=Nat.div_le_self _ _
 have hwr:=YY (w/2^(i%64)) (by omega)
 have ha:=and_one64 (w/2^(i%64)) (by omega)
 obtain ⟨m,hm⟩ : ∃m,m=i/64:=⟨_,rfl⟩
 obtain ⟨r,hr'⟩ : ∃r,r=i%64:=⟨_,rfl⟩
 obtain ⟨u,hu⟩ : ∃u,u=w/2^r:=⟨_,rfl⟩
 have hml:m<10000000:=by omega
 rw [←hm] at hq hw
 rw [←hr'] at hr hs hwr ha ⊢
 rw [←hu] at hs hwr ha ⊢
 have g0:(0:Int)≤(i:Int):=by omega
 refine QU.of Tryz.func60 rfl rfl fun cx w0=>?_
 rw [show Tryz.f60.ntmps=26 from rfl]
 refine zs0 ?_
 by_cases hlt:m<x.length
 ·have g1:(m:Int)<x.length:=by omega
  have gx:x[m]?=some (w:Int):=by rw [QD hlt,hw]
  rcases Nat.mod_two_eq_zero_or_one u with h|h
  ·rw [h] at ha ⊢
   rw [decide_eq_false (by decide)]
   refine zs1 (an g0 <| an hq <| an hr <| an g1 <| an gx <| an hs <| an hwr <| ha) ?_
   exact QQ.ret (QK.vs rfl (by exact ⟨⟨rfl,id⟩,trivial⟩) rfl)
  ·rw [h] at ha ⊢
   rw [decide_eq_true rfl]
   refine zs1 (an g0 <| an hq <| an hr <| an g1 <| an gx <| an hs <| an hwr <| ha) ?_
   exact QQ.ret (QK.vs rfl (by exact ⟨⟨rfl,id⟩,trivial⟩) rfl)
 ·have g1 : ¬(m:Int)<x.length:=by omega
  have hw0:w=0:=by
   have:x.getD m 0=0:=by rw [List.getD_eq_getElem?_getD,List.getElem?_eq_none (by omega)];rfl
   omega
  rw [show u=0 from by rw [hu,hw0,Nat.zero_div]]
  rw [decide_eq_false (by decide)]
  refine zs1 (an g0 <| an hq <| an hr <| g1) ?_
  exact QQ.ret (QK.vs rfl (by exact ⟨⟨rfl,id⟩,trivial⟩) rfl)
theorem F7 (x:List Int) (i:Nat) (hx:x.length<100000) (hi:i<10000000) (ox:okW x):QU Tryz.prog 173 [.v (QZ x),.v (.int .i64 i)] [.v true (.bool (VE (val x) i))]:=by
 have hb:=bit_word ox i
 have hq:(i:Int).tdiv 64=((i/64:Nat):Int):=KF i 64
 have hr:(i:Int).tmod 64=((i%64:Nat):Int):=Gq i 64
 obtain ⟨w,hw,hw64⟩:=Xz (Qy ox (i/64))
 rw [hw,Int.toNat_natCast] at hb
 unfold VE
 rw [hb]
 have hs:=D5 w (i%64) (by omega)
 have hle:w/2^(i%64)≤w:=Nat.div_le_self _ _
 have hwr:=YY (w/2^(i%64)) (by omega)
 have ha:((w/2^(i%64):Nat):Int).tmod 2=((w/2^(i%64)%2:Nat):Int):=Gq _ 2
 obtain ⟨m,hm⟩ : ∃m,m=i/64:=⟨_,rfl⟩
 obtain ⟨r,hr'⟩ : ∃r,r=i%64:=⟨_,rfl⟩
 obtain ⟨u,hu⟩ : ∃u,u=w/2^r:=⟨_,rfl⟩
 have hml:m<10000000:=by omega
 rw [←hm] at hq hw
 rw [←hr'] at hr hs hwr ha ⊢
 rw [←hu] at hs hwr ha ⊢
 have g0:(0:Int)≤(i:Int):=by omega
 refine QU.of Tryz.func173 rfl rfl fun cx w0=>?_
 rw [show Tryz.f173.ntmps=26 from rfl]
 refine zs0 ?_
 by_cases hlt:m<x.length
 ·have g1:(m:Int)<x.length:=by omega
  have gx:x[m]?=some (w:Int):=by rw [QD hlt,hw]
  rcases Nat.mod_two_eq_zero_or_one u with h|h
  ·rw [h] at ha ⊢
   rw [decide_eq_false (by decide)]
   refine zs1 (an g0 <| an hq <| an hr <| an g1 <| an gx <| an hs <| an hwr <| ha) ?_
   exact QQ.ret (QK.vs rfl (by exact ⟨⟨rfl,id⟩,trivial⟩) rfl)
  ·rw [h] at ha ⊢
   rw [decide_eq_true rfl]
   refine zs1 (an g0 <| an hq <| an hr <| an g1 <| an gx <| an hs <| an hwr <| ha) ?_
   exact QQ.ret (QK.vs rfl (by exact ⟨⟨rfl,id⟩,trivial⟩) rfl)
 ·have g1 : ¬(m:Int)<x.length:=by omega
  have hw0:w=0:=by
   have:x.getD m 0=0:=by rw [List.getD_eq_getElem?_getD,List.getElem?_eq_none (by omega)];rfl
   omega
  rw [show u=0 from by rw [hu,hw0,Nat.zero_div]]
  rw [decide_eq_false (by decide)]
  refine zs1 (an g0 <| an hq <| an hr <| g1) ?_
  exact QQ.ret (QK.vs rfl (by exact ⟨⟨rfl,id⟩,trivial⟩) rfl)
theorem Kf (v:Nat):VE v 0=decide (v%2=1):=by unfold VE;rw [Nat.pow_zero,Nat.div_one]
def Y6 (x d:Nat):Int:=if x=0 then 0 else 2+Q7 (x*2) d
theorem rstN_bd (x d:Nat):0≤Y6 x d∧Y6 x d≤3:=by
 unfold Y6 Q7
 split
 ·omega
 ·split
  ·omega
  ·split <;> omega
def mrN (r:Nat) (neg odd:Bool) (x:Int):Bool:=match r with
 | 0=>decide (x=3)||(decide (x=2)&&odd)
 | 1=>decide (2≤x)
 | 2=>false
 | 3=>decide (0<x) && !neg
 | _=>decide (0<x)&&neg
theorem Right_ok (r:Int):QU Tryz.prog 105 [.v (.int .i64 r)] [.v true (.bool (decide (0≤r∧r≤4)))]:=by
 refine QU.of Tryz.func105 rfl rfl fun cx w0=>?_
 rw [show Tryz.f105.ntmps=9 from rfl]
 refine zs0 ?_
 by_cases h1:0≤r
 ·by_cases h2:r≤4
  ·rw [decide_eq_true ⟨h1,h2⟩]
   refine zs1 (an h1 <| h2) ?_
   exact QQ.ret (QK.vs rfl (by exact ⟨⟨rfl,id⟩,trivial⟩) rfl)
  ·rw [decide_eq_false (fun h=>h2 h.2)]
   refine zs1 (an h1 <| h2) ?_
   exact QQ.ret (QK.vs rfl (by exact ⟨⟨rfl,id⟩,trivial⟩) rfl)
 ·rw [decide_eq_false (fun h=>h1 h.1)]
  refine zs1 h1 ?_
  exact QQ.ret (QK.vs rfl (by exact ⟨⟨rfl,id⟩,trivial⟩) rfl)
def upN (r:Nat) (neg:Bool) (q:Nat) (x:Int):Nat:=if mrN r neg (VE q 0) x=true then q+1 else q
def grB (r:Nat) (neg:Bool):Bool:=match r with
 | 2=>true
 | 3=>neg
 | 4 => !neg
 | _=>false
structure SbI (X Y W:List Int) (bo:Nat):Prop where
 le:W.length≤X.length
 ok:okW W
 b1:bo≤1
 all:val W+val (Y.take W.length)=val (X.take W.length)+18446744073709551616^W.length*bo
theorem SbI.step {X Y W:List Int} {bo k a b s d:Nat} (h:SbI X Y W bo) (hk:W.length=k) (hkX:k<X.length) (ha:X.getD k 0=(a:Int)) (hb:Y.getD k 0=(b:Int)) (hs:s+b+bo=a+18446744073709551616*d) (hs64:s<18446744073709551616) (hd:d≤1):SbI X Y (W++[(s:Int)]) d:=by
 have hl:(W++[(s:Int)]).length=k+1:=by rw [List.length_append,hk];rfl
 have hall:=h.all
 rw [hk] at hall
 refine ⟨by rw [hl];exact hkX,J3 h.ok hs64,hd,?_⟩
 rw [hl,ZF,ZF,ha,hb,Int.toNat_natCast,Int.toNat_natCast,Jf,hk,Nat.pow_succ]
 obtain ⟨P,hP⟩ : ∃P,P=18446744073709551616^k:=⟨_,rfl⟩
 rw [←hP] at hall ⊢
 have e:=congrArg (P * ·) hs
 simp only [Nat.mul_add] at e
 rw [Nat.mul_assoc]
 omega
set_option maxHeartbeats 4000000 in
theorem wSub_ok (x y:List Int) (hx:x.length<10000) (hy:y.length<10000) (ox:okW x) (oy:okW y) (h:val y≤val x):QU Tryz.prog 203 [.v (QZ x),.v (QZ y)] [.v true (QZ (QX (val x-val y)))]:=by
 have h1:=Yv x (by omega)
 have h2:=Yv y (by omega)
 have lx:=ZE x
 have ly:=ZE y
 have o1:=Z3 ox
 have o2:=Z3 oy
 have hlen:(Qg y).length≤(Qg x).length:=by
  rcases Nat.lt_or_ge (Qg x).length (Qg y).length with h3|h3
  ·have:=H3 ox oy h3;omega
  ·exact h3
 rw [←ZD x,←ZD y] at h ⊢
 obtain ⟨X,hX⟩ : ∃X,X=Qg x:=⟨_,rfl⟩
 obtain ⟨Y,hY⟩ : ∃Y,Y=Qg y:=⟨_,rfl⟩
 rw [←hX] at h1 lx o1 hlen h ⊢
 rw [←hY] at h2 ly o2 hlen h ⊢
 clear hX hY ox oy
 obtain ⟨D,hD⟩ : ∃D,D=QX (val X-val Y):=⟨_,rfl⟩
 rw [←hD]
 refine QU.of Tryz.func203 rfl rfl fun cx w0=>?_
 rw [show Tryz.f203.ntmps=45 from rfl]
 refine zs0 ?_
 refine zs2 (ρ:=fun d=>if d=10 then [.v false (QZ X)] else [.v false (QZ Y)]) (o:=by repeat' first|exact h1|exact h2|trivial|constructor) (k:=?_)
 refine QQ.from (σ' := {nt:=45,env:=[(0,.v false (QZ X)),(1,.v false (QZ Y))],mem:=[]}) (fun a w h=>Rel.keep [0,1] [] h) ?_
 refine zs1 J7 ?_
 refine zs0 ?_
 refine QQ.next (fun σ=>∃W,SbI X Y W 0∧W.length=X.length ∧ ∀a w,Rel cx w0 σ a w→Rel cx w0 {nt:=45,env:=[(5,.own 15 0 X.length)],mem:=[(15,.buf 91 1 true (W.map fun n=>.int .u64 n))]} a w) ?_ ?_
 ·refine zs0 ?_
  refine QQ.loopB (fun q:List Int×Nat => {nt:=45,env:=[(18,.v true (.int .i64 (q.1.length:Nat))),(17,.v true (.int .i64 (X.length:Nat))),(6,.v true (.int .u64 (q.2:Nat))),(5,.own 15 0 X.length),(0,.v false (QZ X)),(1,.v false (QZ Y))],mem:=[(15,.buf 91 1 true ((q.1++List.replicate (X.length-q.1.length) 0).map fun n=>.int .u64 n))]})
   (fun q=>SbI X Y q.1 q.2) (fun q=>X.length-q.1.length) ([],0) ⟨Nat.zero_le _,(fun n hn=>by cases hn),by show 0≤1;omega,by simp [val]⟩ (fun a w h=>by
     have:=Rel.keep [18,17,6,5,0,1] [15] h
     simp only [List.nil_append,List.length_nil,Nat.sub_zero,List.map_replicate]
     exact this) ?_
  rintro ⟨W,bo⟩ hI
  simp only at hI ⊢
  obtain ⟨k,hk⟩ : ∃k,k=W.length:=⟨_,rfl⟩
  have hle:=hI.le
  rw [←hk]
  by_cases hend:k=X.length
  ·have g : ¬(k:Int)<X.length:=by omega
   have hbo:bo=0:=by
    have hall:=hI.all
    rw [←hk,hend,List.take_length,List.take_of_length_le hlen] at hall
    have hb:=ZY hI.ok
    rw [←hk,hend] at hb
    rcases Nat.eq_zero_or_pos bo with h0|h0
    ·exact h0
    ·have:=Nat.mul_le_mul_left (18446744073709551616^X.length) h0
     omega
   subst hbo
   refine zs1 g ?_
   refine QQ.seq (QQ.condF rfl (QQ.exit ⟨rfl,W,hI,by omega,fun a w h=>?_⟩))
   have:=Rel.keep [5] [15] h
   rw [hend,Nat.sub_self,List.replicate_zero,List.append_nil] at this
   exact this
  ·have g:(k:Int)<X.length:=by omega
   obtain ⟨a,ha,ha64⟩:=Xz (Qy o1 k)
   obtain ⟨b,hb,hb64⟩:=Xz (Qy o2 k)
   have gX:X[k]?=some (a:Int):=by rw [QD (by omega),ha]
   obtain ⟨s,d,hs,hs64,hd1,fS⟩:=sub64N a b bo ha64 hb64 hI.b1
   have hnext:=hI.step hk.symm (by omega) ha hb hs hs64 hd1
   obtain ⟨C,hC⟩ : ∃C,C=W++List.replicate (X.length-k) (0:Int):=⟨_,rfl⟩
   have lC:C.length=X.length:=by rw [hC,List.length_append,List.length_replicate];omega
   have gC:=QD (l:=C) (i:=k) (by omega)
   have hset:C.set k (s:Int)=(W++[(s:Int)])++List.replicate (X.length-(k+1)) (0:Int):=by
    rw [hC,List.set_append_right _ _ (by omega),←hk,Nat.sub_self,show X.length-k=(X.length-(k+1))+1 from by omega,List.replicate_succ,List.set_cons_zero,List.append_assoc];rfl
   have lN:(W++[(s:Int)]).length=k+1:=by rw [List.length_append,←hk];rfl
   have wk:IntKind.i64.wrap ((k:Int)+1)=((k+1:Nat):Int):=by rw [QV] <;> omega
   rw [←hC]
   clear hI hs
   refine zs1 g ?_
   refine QQ.seq (QQ.condT rfl (QQ.skip ?_))
   show QQ _ _ _ _ _ _ _
   refine QQ.next (fun σ=>∀x w,Rel cx w0 σ x w→Rel cx w0 {nt:=45,env:=[(18,.v true (.int .i64 (k:Nat))),(17,.v true (.int .i64 (X.length:Nat))),(6,.v true (.int .u64 (d:Nat))),(5,.own 15 0 X.length),(0,.v false (QZ X)),(1,.v false (QZ Y))],mem:=[(15,.buf 91 1 true ((C.set k (s:Int)).map fun n=>.int .u64 n))]} x w) ?_ ?_
   ·refine QQ.blockN ?_
    refine zs0 ?_
    refine zs0 ?_
    refine QQ.next (fun σ=>∀x w,Rel cx w0 σ x w→Rel cx w0 {nt:=45,env:=[(7,.v true (.int .i64 (k:Nat))),(8,.v true (.int .u64 (b:Nat))),(18,.v true (.int .i64 (k:Nat))),(17,.v true (.int .i64 (X.length:Nat))),(6,.v true (.int .u64 (bo:Nat))),(5,.own 15 0 X.length),(0,.v false (QZ X)),(1,.v false (QZ Y))],mem:=[(15,.buf 91 1 true (C.map fun n=>.int .u64 n))]} x w) ?_ ?_
    ·by_cases hkY:k<Y.length
     ·have g2:(k:Int)<Y.length:=by omega
      have gY:Y[k]?=some (b:Int):=by rw [QD hkY,hb]
      refine zs1 g2 ?_
      refine QQ.condT rfl ?_
      refine zr1 (an gY <| g2) ?_
      exact fun x w h=>Rel.keep [7,8,18,17,6,5,0,1] [15] h
     ·have g2 : ¬(k:Int)<Y.length:=by omega
      have hb0:b=0:=by
       have:Y.getD k 0=0:=by rw [List.getD_eq_getElem?_getD,List.getElem?_eq_none (by omega)];rfl
       omega
      subst hb0
      refine zs1 g2 ?_
      exact QQ.condF rfl (QQ.skip fun x w h=>Rel.keep [7,8,18,17,6,5,0,1] [15] h)
    ·intro σ hσ
     refine QQ.from hσ ?_
     refine zr3 (ρ:=fun _=>[.v true (.int .u64 s),.v true (.int .u64 d)]) (an gX <| an gC <| lC) (o:=by repeat' first|exact fS|trivial|constructor) (k:=?_)
     intro x w h
     have:=Rel.keep [18,17,6,5,0,1] [15] h
     rw [List.map_set]
     exact this
   ·intro σ hσ
    refine QQ.from hσ ?_
    rw [hset]
    refine zr1 wk ?_
    refine ⟨(W++[(s:Int)],d),hnext,(show X.length-(W++[(s:Int)]).length<X.length-W.length by rw [lN];omega),fun x w h=>?_⟩
    have:=Rel.keep [18,17,6,5,0,1] [15] h
    simp only [lN]
    exact this
 ·rintro σ ⟨W,hI,hW,hσ⟩
  refine QQ.from hσ ?_
  have hall:=hI.all
  rw [hW,List.take_length,List.take_of_length_le hlen,Nat.mul_zero,Nat.add_zero] at hall
  have hT:=XZ W (by omega) hI.ok
  rw [show val W=val X-val Y from by omega,←hD] at hT
  have htk:List.take X.length (List.map (fun n=>V.int .u64 n) W)=List.map (fun n=>V.int .u64 n) W:=List.take_of_length_le (by rw [List.length_map];omega)
  refine zs3 (ρ:=fun _=>[.v true (QZ D)]) htk (o:=by repeat' first|exact hT|trivial|constructor) (k:=?_)
  exact QQ.ret (QK.vs rfl (by exact ⟨⟨rfl,id⟩,trivial⟩) rfl)
set_option maxHeartbeats 2000000 in
theorem rPow_ok (x:List Int) (K c:Nat) (ox:okW x) (hx:x.length<1000) (hc:val x<2^c) (hK:K*c<300000) (hc1:1≤c):QU Tryz.prog 77 [.v (QZ x),.v (.int .i64 K)] [.v true (QZ (QX (val x^K)))]:=by
 have hKl:K<300000:=Nat.lt_of_le_of_lt (Nat.le_mul_of_pos_right K hc1) hK
 have len : ∀ {m e:Nat},m<2^e→e≤1000000→(QX m).length<30000:=fun {m e} h1 h2=>by
  have:m<18446744073709551616^(e/64+1):=by
   rw [show (18446744073709551616:Nat)=2^64 from rfl,←Nat.pow_mul]
   exact Nat.lt_of_lt_of_le h1 (Nat.pow_le_pow_right (by decide) (by omega))
  have:=ZU this
  omega
 have hTr:=J4 x (by omega) ox
 have h1w:QU Tryz.prog 78 [.v (.int .u64 1)] [.v true (QZ [1])]:=by
  have:=YX 1 (by decide)
  rw [show QX 1=[1] from by decide] at this
  exact this
 obtain ⟨T,hT⟩ : ∃T,T=val x^K:=⟨_,rfl⟩
 rw [←hT]
 refine QU.of Tryz.func77 rfl rfl fun cx w0=>?_
 rw [show Tryz.f77.ntmps=25 from rfl]
 refine zs0 ?_
 refine zs2 (ρ:=fun _=>[.v true (QZ [1])]) (o:=by repeat' first|exact h1w|trivial|constructor) (k:=?_)
 refine QQ.next (fun σ=>∀a w,Rel cx w0 σ a w→Rel cx w0 {nt:=25,env:=[(5,.v true (QZ (QX T)))],mem:=[]} a w) ?_ ?_
 ·refine zs2 (ρ:=fun _=>[.v true (QZ (QX (val x)))]) (o:=by repeat' first|exact hTr|trivial|constructor) (k:=?_)
  refine QQ.loopB (fun s:Nat×Nat×List Int×Bool => {nt:=25,env:=[(1,.v true (.int .i64 (s.1:Nat))),(5,.v true (QZ (QX s.2.1))),(0,.v s.2.2.2 (QZ s.2.2.1))],mem:=[]})
   (fun s=>s.1≤K∧okW s.2.2.1∧s.2.2.1.length<30000∧s.2.1*val s.2.2.1^s.1=T ∧ ∃e,1≤e∧val s.2.2.1<2^e∧s.1*e≤K*c∧s.2.1<2^(K*c-s.1*e+1)∧(s.1=0∨e≤K*c)) (fun s=>s.1) (K,1,QX (val x),true)
   ⟨Nat.le_refl _,(QY _).1,(by have:=ZU (ZY ox);show (QX (val x)).length<30000;omega),by show 1*val (QX (val x))^K=T;rw [(QY _).2.2,Nat.one_mul,hT],c,hc1,by show val (QX (val x))<2^c;rw [(QY _).2.2];exact hc,Nat.le_refl _,by show 1<2^(K*c-K*c+1);rw [Nat.sub_self];decide,by
     rcases Nat.eq_zero_or_pos K with h|h
     ·exact .inl h
     ·exact .inr (Nat.le_mul_of_pos_left c h)⟩ (fun a w h=>?_) ?_
  ·have:=Rel.keep [1,5,0] [] h
   show Rel cx w0 {nt:=25,env:=[(1,.v true (.int .i64 (K:Nat))),(5,.v true (QZ (QX 1))),(0,.v true (QZ (QX (val x))))],mem:=[]} a w
   rw [show QX 1=[1] from by decide]
   exact this
  rintro ⟨k,o,b,nb⟩ ⟨hk,ob,lb,hv,e,he1,hbe,hke,hoe,hle⟩
  simp only at hk ob lb hv hbe hke hoe hle ⊢
  rcases Nat.eq_zero_or_pos k with h0|h0
  ·subst h0
   rw [Nat.pow_zero,Nat.mul_one] at hv
   rw [hv]
   refine QQ.seq ?_
   refine zs0 ?_
   exact QQ.condF rfl (QQ.exit ⟨rfl,fun a w h=>Rel.keep [5] [] h⟩)
  ·have g:(0:Int)<k:=by omega
   have heK:e≤K*c:=by omega
   have hol:(QX o).length<30000:=len hoe (by omega)
   have ha1:(k:Int).tmod 2=((k%2:Nat):Int):=Gq k 2
   have hM:=KV (QX o) b (by omega) (by omega) (QY o).1 ob
   rw [(QY o).2.2] at hM
   have hS:=KV b b (by omega) (by omega) ob ob
   have hlen2:(QX (val b*val b)).length<30000:=len (e:=e+e) (by rw [Nat.pow_add];exact Nat.mul_lt_mul'' hbe hbe) (by omega)
   have hh:=pow_half (b:=val b) (k:=k)
   have hfd:(k:Int).tdiv 2=((k/2:Nat):Int):=KF k 2
   have wk:IntKind.i64.wrap ((k/2:Nat):Int)=((k/2:Nat):Int):=QV (by omega) (by omega)
   obtain ⟨o',ho'⟩ : ∃o',o'=o*val b^(k%2):=⟨_,rfl⟩
   refine QQ.seq ?_
   refine zs1 g ?_
   refine QQ.condT rfl (QQ.skip ?_)
   refine QQ.next (fun σ=>∃b' nb',okW b'∧b'.length<30000∧(k/2=0∨val b'=val b*val b) ∧ ∀a w,Rel cx w0 σ a w→Rel cx w0 {nt:=25,env:=[(1,.v true (.int .i64 (k:Nat))),(5,.v true (QZ (QX o'))),(0,.v nb' (QZ b'))],mem:=[]} a w) ?_ ?_
   ·refine QQ.blockN ?_
    refine QQ.next (fun σ=>∀a w,Rel cx w0 σ a w→Rel cx w0 {nt:=25,env:=[(1,.v true (.int .i64 (k:Nat))),(5,.v true (QZ (QX o'))),(0,.v nb (QZ b))],mem:=[]} a w) ?_ ?_
    ·rcases Nat.mod_two_eq_zero_or_one k with h2|h2
     ·rw [h2,Nat.pow_zero,Nat.mul_one] at ho'
      rw [h2] at ha1
      rw [ho']
      refine zs1 ha1 ?_
      exact QQ.condF rfl (QQ.skip fun a w h=>Rel.keep [1,5,0] [] h)
     ·rw [h2,Nat.pow_one] at ho'
      rw [h2] at ha1
      rw [←ho'] at hM
      refine zs1 ha1 ?_
      refine QQ.condT rfl ?_
      refine zr2 (ρ:=fun _=>[.v true (QZ (QX o'))]) (o:=by repeat' first|exact hM|trivial|constructor) (k:=?_)
      exact fun a w h=>Rel.keep [1,5,0] [] h
    ·intro σ hσ
     refine QQ.from hσ ?_
     clear hσ
     by_cases hk1:1<k
     ·have g2:(1:Int)<k:=by omega
      obtain ⟨D,hD⟩ : ∃D,D=QX (val b*val b):=⟨_,rfl⟩
      rw [←hD] at hS hlen2
      refine zs1 g2 ?_
      refine QQ.condT rfl ?_
      refine zr2 (ρ:=fun _=>[.v true (QZ D)]) (o:=by repeat' first|exact hS|trivial|constructor) (k:=?_)
      exact ⟨D,true,by rw [hD];exact (QY _).1,hlen2,.inr (by rw [hD,(QY _).2.2]),fun a w h=>Rel.keep [1,5,0] [] h⟩
     ·have g2 : ¬(1:Int)<k:=by omega
      refine zs1 g2 ?_
      exact QQ.condF rfl (QQ.skip ⟨b,nb,ob,lb,.inl (by omega),fun a w h=>Rel.keep [1,5,0] [] h⟩)
   ·rintro σ ⟨b',nb',ob',lb',hb',hσ⟩
    refine QQ.from hσ ?_
    refine zr1 (an hfd <| wk) ?_
    refine ⟨(k/2,o',b',nb'),⟨by show k/2≤K;omega,ob',lb',?_,?_⟩,(show k/2<k by omega),fun a w h=>Rel.keep [1,5,0] [] h⟩
    ·show o'*val b'^(k/2)=T
     rw [ho',Nat.mul_assoc,←hv]
     rcases hb' with h|h
     ·rw [h,Nat.pow_zero,Nat.mul_one]
      have:k=1:=by omega
      rw [this]
     ·rw [h,←hh]
    ·exact pow_inv (show val b<2^e from hbe) hke hoe he1 h0 ho' ob' hb'
 ·intro σ hσ
  refine QQ.from hσ ?_
  refine zs0 ?_
  exact QQ.ret (QK.vs rfl (by exact ⟨⟨rfl,id⟩,trivial⟩) rfl)
theorem UD (k:Nat) (hk:k<50000):QU Tryz.prog 169 [.v (.int .i64 k)] [.v true (QZ (QX (10^k)))]:=by
 have e10:QX 10=[10]:=by decide
 have h0:QU Tryz.prog 78 [.v (.int .u64 10)] [.v true (QZ [10])]:=by
  have:=YX 10 (by decide)
  rw [e10] at this
  exact this
 have h1:=rPow_ok [10] k 4 (by intro n hn;simp at hn;omega) (by simp) (by decide) (by omega) (by omega)
 rw [show val [(10:Int)]=10 from by decide] at h1
 obtain ⟨W,hW⟩ : ∃W,W=[(10:Int)]:=⟨_,rfl⟩
 obtain ⟨T,hT⟩ : ∃T,T=QX (10^k):=⟨_,rfl⟩
 rw [←hW] at h0 h1
 rw [←hT] at h1 ⊢
 refine QU.of Tryz.func169 rfl rfl fun cx w0=>?_
 rw [show Tryz.f169.ntmps=6 from rfl]
 refine zs0 ?_
 refine zs2 (ρ:=fun d=>if d=3 then [.v true (QZ W)] else [.v true (QZ T)]) (o:=by repeat' first|exact h0|exact h1|trivial|constructor) (k:=?_)
 exact QQ.ret (QK.vs rfl (by exact ⟨⟨rfl,id⟩,trivial⟩) rfl)
def dTiny (p g:Int):Int:=1-g-(p-1)
def dU (p g:Int) (D:Nat) (e:Int):Int:=max (e+D-1-p+1) (dTiny p g)
theorem upN_le (r:Nat) (neg:Bool) (q:Nat) (x:Int):q≤upN r neg q x∧upN r neg q x≤q+1:=by
 unfold upN;split <;> omega
theorem FZ (m d:Nat) (hd:0<d):2*m/d/2=m/d∧(Y6 (m%d) d=0↔(2*m/d%2=0∧2*m%d=0))∧(Y6 (m%d) d=1↔(2*m/d%2=0∧2*m%d≠0))∧(Y6 (m%d) d=2↔(2*m/d%2=1∧2*m%d=0))∧(Y6 (m%d) d=3↔(2*m/d%2=1∧2*m%d≠0)):=by
 have e1:=Nat.div_add_mod m d
 obtain ⟨q,hq⟩ : ∃q,q=m/d:=⟨_,rfl⟩
 obtain ⟨l,hl⟩ : ∃l,l=m%d:=⟨_,rfl⟩
 have hl2:l<d:=by rw [hl];exact Nat.mod_lt _ hd
 rw [←hq,←hl] at e1 ⊢
 have e2:2*m=2*l+d*(2*q):=by rw [←e1,Nat.mul_add,Nat.mul_left_comm];omega
 rw [e2,Nat.add_mul_div_left _ _ hd,Nat.add_mul_mod_self_left (2*l) d (2*q)]
 rcases Nat.lt_or_ge (2*l) d with h|h
 ·rw [Nat.div_eq_of_lt h,Nat.mod_eq_of_lt h]
  unfold Y6 Q7
  rcases Nat.eq_zero_or_pos l with h0|h0
  ·rw [if_pos h0];omega
  ·rw [if_neg (by omega),if_pos (by omega)];omega
 ·have h3:2*l/d=1:=by rw [Nat.div_eq_iff hd];omega
  have h4:2*l%d=2*l-d:=by rw [Nat.mod_eq_sub_mod h,Nat.mod_eq_of_lt (by omega)]
  rw [h3,h4]
  unfold Y6 Q7
  rw [if_neg (by omega),if_neg (by omega)]
  split <;> omega
def rrU (r:Nat) (neg:Bool) (N:Nat) (h s:Bool):Bool:=match r with
 | 0=>h&&(s||VE N 0)
 | 1=>h
 | 2=>false
 | 3 => !neg
 | _=>neg
def rrN (r:Nat) (neg:Bool) (N:Nat) (h s:Bool):Nat:=if h=false∧s=false then N else if rrU r neg N h s=true then N+1 else N
theorem rr_eq {r:Nat} {neg:Bool} {m d:Nat} (hd:0<d):rrN r neg (2*m/d/2) (decide (2*m/d%2=1)) (decide (2*m%d≠0))=upN r neg (m/d) (Y6 (m%d) d) ∧
 (decide (2*m/d%2=1)=false∧decide (2*m%d≠0)=false↔m%d=0):=by
 obtain ⟨h1,h2,h3,h4,h5⟩:=FZ m d hd
 rw [h1]
 have hb:=rstN_bd (m%d) d
 have hz:Y6 (m%d) d=0↔m%d=0:=by
  unfold Y6 Q7
  split
  ·next h=>simp [h]
  ·next h =>
   constructor
   ·intro h';split at h' <;> first|omega|(split at h' <;> omega)
   ·intro h';exact absurd h' h
 obtain ⟨x,hx⟩ : ∃x,x=Y6 (m%d) d:=⟨_,rfl⟩
 obtain ⟨N,hN⟩ : ∃N,N=m/d:=⟨_,rfl⟩
 obtain ⟨b,hb'⟩ : ∃b,b=VE N 0:=⟨_,rfl⟩
 rw [←hx] at h2 h3 h4 h5 hb hz ⊢
 rw [←hN]
 obtain ⟨u,hu⟩ : ∃u,u=2*m/d%2:=⟨_,rfl⟩
 obtain ⟨v,hv⟩ : ∃v,v=2*m%d:=⟨_,rfl⟩
 rw [←hu,←hv] at h2 h3 h4 h5 ⊢
 unfold rrN upN rrU
 rw [←hb']
 have hc:x=0∨x=1∨x=2∨x=3:=by omega
 refine ⟨?_,?_⟩
 ·rcases hc with e|e|e|e
  ·obtain ⟨e1,e2⟩:=h2.1 e
   rw [e1,e2,e]
   match r with
   | 0=>simp [mrN]
   | 1=>simp [mrN]
   | 2=>simp [mrN]
   | 3=>simp [mrN]
   | _+4=>simp [mrN]
  ·obtain ⟨e1,e2⟩:=h3.1 e
   rw [e1,decide_eq_true e2,e]
   match r with
   | 0=>simp [mrN]
   | 1=>simp [mrN]
   | 2=>simp [mrN]
   | 3=>simp [mrN]
   | _+4=>simp [mrN]
  ·obtain ⟨e1,e2⟩:=h4.1 e
   rw [e1,e2,e]
   match r with
   | 0=>simp [mrN]
   | 1=>simp [mrN]
   | 2=>simp [mrN]
   | 3=>simp [mrN]
   | _+4=>simp [mrN]
  ·obtain ⟨e1,e2⟩:=h5.1 e
   rw [e1,decide_eq_true e2,e]
   match r with
   | 0=>simp [mrN]
   | 1=>simp [mrN]
   | 2=>simp [mrN]
   | 3=>simp [mrN]
   | _+4=>simp [mrN]
 ·rw [←hz,h2,decide_eq_false_iff_not,decide_eq_false_iff_not]
  omega
def trF:Nat→Nat→Nat
 | 0,_=>0
 | f+1,v=>if v%2=0 then trF f (v/2)+1 else 0
def trN (v:Nat):Nat:=trF v v
theorem trF_ok : ∀(f v:Nat),0<v→v≤f → ∃c,v=(2*c+1)*2^trF f v
 | 0,v,h,hf=>by omega
 | f+1,v,h,hf=>by
   rw [trF]
   by_cases h0:v%2=0
   ·obtain ⟨c,hc⟩:=trF_ok f (v/2) (by omega) (by omega)
    refine ⟨c,?_⟩
    rw [if_pos h0,Nat.pow_succ,←Nat.mul_assoc,←hc]
    omega
   ·rw [if_neg h0]
    exact ⟨v/2,by rw [Nat.pow_zero];omega⟩
theorem Uv {v:Nat} (h:0<v) : ∃c,v=(2*c+1)*2^trN v:=trF_ok v v h (Nat.le_refl _)
theorem odd_uniq {c d:Nat} : ∀ {s t:Nat},(2*c+1)*2^s=(2*d+1)*2^t→s=t
 | 0,0,_=>rfl
 | 0,t+1,h=>by rw [Nat.pow_zero,Nat.pow_succ,←Nat.mul_assoc] at h;omega
 | s+1,0,h=>by rw [Nat.pow_zero,Nat.pow_succ,←Nat.mul_assoc] at h;omega
 | s+1,t+1,h=>by
   rw [Nat.pow_succ,Nat.pow_succ,←Nat.mul_assoc,←Nat.mul_assoc] at h
   rw [odd_uniq (Nat.eq_of_mul_eq_mul_right (by decide) h)]
theorem J8 {v c t:Nat} (h:v=(2*c+1)*2^t):trN v=t:=by
 have hp:0<v:=by rw [h];exact Nat.mul_pos (by omega) (Nat.pow_pos (by decide))
 obtain ⟨d,hd⟩:=Uv hp
 exact odd_uniq (hd.symm.trans h)
theorem JZ {v k:Nat} (h:0<v) (hk:v<2^k):trN v<k:=by
 obtain ⟨c,hc⟩:=Uv h
 rcases Nat.lt_or_ge (trN v) k with h1|h1
 ·exact h1
 ·have h2:=Nat.pow_le_pow_right (n:=2) (by decide) h1
  have h3:2^trN v≤(2*c+1)*2^trN v:=Nat.le_mul_of_pos_left _ (by omega)
  omega
theorem land_rec (a b:Nat):a &&& b=2*(a/2 &&& b/2)+a%2*(b%2):=by
 have h1:=Nat.div_add_mod (a &&& b) 2
 have h2:(a &&& b)%2=a%2*(b%2):=by
  have:=Nat.and_mod_two_pow (a:=a) (b:=b) (n:=1)
  rw [Nat.pow_one] at this
  rw [this]
  rcases Nat.mod_two_eq_zero_or_one a with h|h <;> rcases Nat.mod_two_eq_zero_or_one b with h'|h' <;> rw [h,h'] <;> rfl
 rw [Nat.and_div_two,h2] at h1
 exact h1.symm
theorem By : ∀(n c d:Nat),c+d+1=2^n→c &&& d=0
 | 0,c,d,h=>by
   rw [Nat.pow_zero] at h
   rw [show c=0 from by omega,show d=0 from by omega]
   rfl
 | n+1,c,d,h=>by
   rw [Nat.pow_succ] at h
   rw [land_rec,By n (c/2) (d/2) (by omega)]
   rcases Nat.mod_two_eq_zero_or_one c with e|e
   ·rw [e,Nat.zero_mul]
   ·simp [show d%2=0 from by omega]
theorem land_neg : ∀(n x y:Nat),0<x→x+y=2^n→x<2^n→x &&& y=2^trN x
 | 0,x,y,h0,h,h1=>by rw [Nat.pow_zero] at h1;omega
 | n+1,x,y,h0,h,h1=>by
   rw [Nat.pow_succ] at h h1
   rw [land_rec]
   rcases Nat.mod_two_eq_zero_or_one x with e|e
   ·obtain ⟨c,hc⟩:=Uv (v:=x/2) (by omega)
    have ht:trN x=trN (x/2)+1:=J8 (c:=c) (by rw [Nat.pow_succ,←Nat.mul_assoc,←hc];omega)
    rw [land_neg n (x/2) (y/2) (by omega) (by omega) (by omega),e,Nat.zero_mul,ht,Nat.pow_succ]
    omega
   ·have ht:trN x=0:=J8 (c:=x/2) (by rw [Nat.pow_zero];omega)
    rw [By n (x/2) (y/2) (by omega),e,show y%2=1 from by omega,ht]
theorem and_neg64 {x:Nat} (h0:0<x) (hx:x<18446744073709551616):Jy .and .u64 (x:Int) ((18446744073709551616-x:Nat):Int)=((2^trN x:Nat):Int):=by
 show IntKind.u64.wrap ((BitVec.ofInt IntKind.u64.bits (x:Int) &&& BitVec.ofInt IntKind.u64.bits ((18446744073709551616-x:Nat):Int)).toNat:Int)=_
 have h1:(BitVec.ofInt IntKind.u64.bits (x:Int) &&& BitVec.ofInt IntKind.u64.bits ((18446744073709551616-x:Nat):Int)).toNat=2^trN x:=by
  rw [BitVec.toNat_and,BitVec.toNat_ofInt,BitVec.toNat_ofInt]
  have e1:((x:Int)%((2^IntKind.u64.bits:Nat):Int)).toNat=x:=by
   show ((x:Int)%18446744073709551616).toNat=_
   omega
  have e2:(((18446744073709551616-x:Nat):Int)%((2^IntKind.u64.bits:Nat):Int)).toNat=18446744073709551616-x:=by
   show (((18446744073709551616-x:Nat):Int)%18446744073709551616).toNat=_
   omega
  rw [e1,e2]
  exact land_neg 64 x _ h0 (show _=18446744073709551616 by omega) hx
 rw [h1]
 have:=JZ (k:=64) h0 hx
 exact YY _ (Nat.pow_lt_pow_right (a:=2) (by decide) this)
def bruijnL:List V:=match Cq with | .agg l=>l|_=>[]
def u8N:V→Nat
 | .int .u8 (.ofNat n)=>n
 | _=>999
def brN:List Nat:=bruijnL.map u8N
def brI (t:Nat):Nat:=2^t*285870213051353865%18446744073709551616/288230376151711744
theorem br_map:brN.map (fun n=>V.int .u8 (n:Nat))=bruijnL:=by kernel_rfl
theorem br_all:((List.range 64).map fun t=>brN.getD (brI t) 99)=List.range 64:=by kernel_rfl
theorem br_get {t:Nat} (h:t<64):bruijnL[2^t*285870213051353865%18446744073709551616/2^58]?=some (.int .u8 t):=by
 have h1:((List.range 64).map fun t=>brN.getD (brI t) 99)[t]?=some t:=by rw [br_all,List.getElem?_range h]
 rw [List.getElem?_map,List.getElem?_range h,Option.map_some,List.getD_eq_getElem?_getD] at h1
 have h2:brN[brI t]?.getD 99=t:=Option.some.inj h1
 rw [←br_map,List.getElem?_map,show 2^t*285870213051353865%18446744073709551616/2^58=brI t from rfl]
 cases hg:brN[brI t]? with
 | none=>rw [hg] at h2;simp at h2;omega
 | some n=>rw [hg] at h2;simp at h2;rw [h2];rfl
def isU8:V→Bool
 | .int .u8 _=>true
 | _=>false
theorem br_u8:bruijnL.all isU8=true:=by kernel_rfl
theorem br_off {k:Nat} (h:k≤bruijnL.length):V.off bruijnL k=k:=by
 rw [off_all (z:=1) (fun x hx=>by
  have:=List.all_eq_true.1 br_u8 x hx
  match x,this with
  | .int .u8 _,_=>rfl) h,Nat.mul_one]
theorem tz64_ok (x:Nat) (h0:0<x) (hx:x<18446744073709551616):QU Tryz.prog 242 [.v (.int .u64 x)] [.v true (.int .i64 (trN x))]:=by
 have ht:=JZ (k:=64) h0 hx
 have ha:=and_neg64 h0 hx
 have wn:IntKind.u64.wrap (0-(x:Int))=((18446744073709551616-x:Nat):Int):=by rw [QE];omega
 obtain ⟨t,ht'⟩ : ∃t,t=trN x:=⟨_,rfl⟩
 rw [←ht'] at ht ha ⊢
 have hg:=br_get ht
 obtain ⟨a,ha'⟩ : ∃a,a=2^t:=⟨_,rfl⟩
 rw [←ha'] at ha hg
 have wm:IntKind.u64.wrap ((a:Int)*285870213051353865)=((a*285870213051353865%18446744073709551616:Nat):Int):=by
  rw [show ((a:Int)*285870213051353865)=((a*285870213051353865:Nat):Int) from by omega]
  exact A4 _
 obtain ⟨m,hm⟩ : ∃m,m=a*285870213051353865%18446744073709551616:=⟨_,rfl⟩
 have hml:m<18446744073709551616:=by rw [hm];exact Nat.mod_lt _ (by decide)
 rw [←hm] at wm hg
 have hs:=D5 m 58 (by decide)
 obtain ⟨i,hi⟩ : ∃i,i=m/2^58:=⟨_,rfl⟩
 have hil:i<64:=by rw [hi,Nat.div_lt_iff_lt_mul (by decide)];exact hml
 rw [←hi] at hs hg
 have hoff:V.off bruijnL i=i:=br_off (by rw [show bruijnL.length=64 from rfl];omega)
 have hG:BB GLOB 3=some (.agg bruijnL):=rfl
 have hl:bruijnL.length=64:=rfl
 obtain ⟨fs,hfs⟩ : ∃fs,fs=bruijnL:=⟨_,rfl⟩
 rw [←hfs] at hg hoff hG hl
 have g0 : ¬(x:Int)=0:=by omega
 have wi:IntKind.u64.wrap (i:Int)=(i:Int):=YY i (by omega)
 have g1:(0:Int)≤(i:Int):=by omega
 have g2:(i:Int)<64:=by omega
 refine QU.of Tryz.func242 rfl rfl fun cx w0=>?_
 rw [show Tryz.f242.ntmps=14 from rfl]
 refine zs0 ?_
 refine QQ.seq ?_
 refine zs1 g0 ?_
 refine QQ.condF rfl (QQ.skip ?_)
 obtain ⟨sA,hA⟩ : ∃s,DH Tryz.prog 280=some (64,1,s):=⟨_,rfl⟩
 have wt:IntKind.i64.wrap (t:Int)=(t:Int):=by rw [QV] <;> omega
 refine zs1 (an wn <| an ha <| an wm <| an hs <| an wi <| an hG <| an hg <| an hoff <| an hl <| an g1 <| an g2 <| an hA <| wt) ?_
 exact QQ.ret (QK.vs rfl (by exact ⟨⟨rfl,id⟩,trivial⟩) rfl)
theorem tr_words {X:List Int} {i w:Nat} (hz:val (X.take i)=0) (hi:i<X.length) (hw:X.getD i 0=(w:Int)) (h0:0<w) (h64:w<18446744073709551616):trN (val X)=64*i+trN w:=by
 have h1:=UG X i (by omega)
 have h2:=UG X (i+1) (by omega)
 rw [ZF,hz,hw,Int.toNat_natCast,Nat.zero_add] at h2
 obtain ⟨R,hR⟩ : ∃R,R=val (X.drop (i+1)):=⟨_,rfl⟩
 rw [←hR] at h2
 obtain ⟨c,hc⟩:=Uv h0
 have ht:=JZ (k:=64) h0 h64
 obtain ⟨t,ht'⟩ : ∃t,t=trN w:=⟨_,rfl⟩
 rw [←ht'] at hc ht ⊢
 have hP:(18446744073709551616:Nat)^i=2^(64*i):=by rw [Nat.pow_mul]
 have hB:(18446744073709551616:Nat)=2*2^(63-t)*2^t:=by
  rw [Nat.mul_comm 2,←Nat.pow_succ,←Nat.pow_add,show (63-t).succ+t=64 from by omega]
 refine J8 (c:=c+2^(63-t)*R) ?_
 rw [h2,Nat.pow_succ,Nat.pow_add,hP]
 obtain ⟨P,hP'⟩ : ∃P,P=2^(64*i):=⟨_,rfl⟩
 rw [←hP',hc]
 obtain ⟨T,hT⟩ : ∃T,T=2^t:=⟨_,rfl⟩
 obtain ⟨S,hS⟩ : ∃S,S=2^(63-t):=⟨_,rfl⟩
 rw [←hT,←hS] at hB
 rw [←hT,←hS]
 obtain ⟨B,hB'⟩ : ∃B,B=(18446744073709551616:Nat):=⟨_,rfl⟩
 rw [←hB'] at hB ⊢
 rw [hB]
 grind
theorem zZ (x:List Int) (hx:x.length<100000) (ox:okW x):QU Tryz.prog 186 [.v (QZ x)] [.v true (.int .i64 (trN (val x)))]:=by
 obtain ⟨T,hT⟩ : ∃T,T=trN (val x):=⟨_,rfl⟩
 rw [←hT]
 refine QU.of Tryz.func186 rfl rfl fun cx w0=>?_
 rw [show Tryz.f186.ntmps=20 from rfl]
 refine zs0 ?_
 refine QQ.next (fun σ=>T=0 ∧ ∀a w,Rel cx w0 σ a w→Rel cx w0 {nt:=20,env:=[],mem:=[]} a w) ?_ ?_
 ·refine zs0 ?_
  refine QQ.loopB (fun i:Nat => {nt:=20,env:=[(7,.v true (.int .i64 (i:Nat))),(6,.v true (.int .i64 (x.length:Nat))),(5,.v false (QZ x))],mem:=[]})
   (fun i=>i≤x.length∧val (x.take i)=0) (fun i=>x.length-i) 0 ⟨Nat.zero_le _,rfl⟩ (fun a w h=>Rel.keep [7,6,5] [] h) ?_
  rintro i ⟨hi,hz⟩
  by_cases hend:i=x.length
  ·have g : ¬(i:Int)<x.length:=by omega
   refine zs1 g ?_
   refine QQ.seq (QQ.condF rfl (QQ.exit ⟨rfl,by rw [hend,List.take_length] at hz;rw [hT,hz];rfl,fun a w h=>Rel.keep [] [] h⟩))
  ·have g:(i:Int)<x.length:=by omega
   obtain ⟨u,hu,hu64⟩:=Xz (Qy ox i)
   have gX:x[i]?=some (u:Int):=by rw [QD (by omega),hu]
   have wk:IntKind.i64.wrap ((i:Int)+1)=((i+1:Nat):Int):=by rw [QV] <;> omega
   refine zs1 g ?_
   refine QQ.seq (QQ.condT rfl (QQ.skip ?_))
   show QQ _ _ _ _ _ _ _
   refine QQ.next (fun σ=>u=0 ∧ ∀a w,Rel cx w0 σ a w→Rel cx w0 {nt:=20,env:=[(7,.v true (.int .i64 (i:Nat))),(6,.v true (.int .i64 (x.length:Nat))),(5,.v false (QZ x))],mem:=[]} a w) ?_ ?_
   ·refine QQ.blockN ?_
    refine zs1 gX ?_
    rcases Nat.eq_zero_or_pos u with h0|h0
    ·subst h0
     refine zs0 ?_
     exact QQ.condF rfl (QQ.skip ⟨rfl,fun a w h=>Rel.keep [7,6,5] [] h⟩)
    ·have g0 : ¬(u:Int)=0:=by omega
     have hZ:=tz64_ok u h0 hu64
     have hw:=tr_words hz (by omega) hu h0 hu64
     have htl:=JZ (k:=64) h0 hu64
     rw [←hT] at hw
     have w1:IntKind.i64.wrap (64*(i:Int)+(trN u:Nat))=(T:Int):=by rw [QV] <;> omega
     obtain ⟨z,hz'⟩ : ∃z,z=trN u:=⟨_,rfl⟩
     rw [←hz'] at hZ w1
     refine zs1 g0 ?_
     refine QQ.condT rfl ?_
     refine zs3 (ρ:=fun _=>[.v true (.int .i64 z)]) w1 (o:=by repeat' first|exact hZ|trivial|constructor) (k:=?_)
     exact QQ.ret (QK.vs rfl (by exact ⟨⟨rfl,id⟩,trivial⟩) rfl)
   ·rintro σ ⟨h0,hσ⟩
    refine QQ.from hσ ?_
    refine zr1 wk ?_
    refine ⟨i+1,⟨by show i+1≤x.length;omega,?_⟩,(show x.length-(i+1)<x.length-i by omega),fun a w h=>Rel.keep [7,6,5] [] h⟩
    rw [ZF,hz,hu,h0]
    simp
 ·rintro σ ⟨h0,hσ⟩
  refine QQ.from hσ ?_
  rw [h0]
  refine zs0 ?_
  exact QQ.ret (QK.vs rfl (by exact ⟨⟨rfl,id⟩,trivial⟩) rfl)
theorem blockQ_same {id:Nat} {Q:Exit→St→Prop} {σ:St} (h:Q .normal σ):DK id Q (.exit id) σ:=by
 unfold DK
 simp only [if_true]
 exact h
theorem GQ {k:Nat}:(QX (10^k)).length≤k/16+1:=by
 have h5:(10:Nat)^k≤16^k:=Nat.pow_le_pow_left (by decide) k
 exact ZU (v:=10^k) (m:=k/16+1) (Nat.lt_of_le_of_lt h5 (by
  rw [show (18446744073709551616:Nat)=16^16 from rfl,←Nat.pow_mul]
  exact Nat.pow_lt_pow_right (by decide) (by omega)))
theorem Zk {a b:Nat} (h:a≤b):(QX a).length≤(QX b).length:=by
 have h1:=ZY (QY b).1
 rw [(QY b).2.2] at h1
 exact ZU (Nat.lt_of_le_of_lt h h1)
theorem max2_eq (a b:Int):(if a<b then b else a)=max a b:=by omega
def rfN (s:Nat) (h:Nat):Nat:=if s=0 then 0 else h*2^(64-s)%18446744073709551616
theorem shr_rf (s a h:Nat):J6 s a h=a/2^s+rfN s h:=by
 unfold J6 rfN
 by_cases h0:s=0
 ·rw [if_pos h0,h0,Nat.sub_zero,show (2:Nat)^64=18446744073709551616 from rfl,Nat.mul_mod_left]
 ·rw [if_neg h0]
set_option maxHeartbeats 2000000 in
theorem WRight_ok (x:List Int) (s:Nat) (hs:s<64) (hx:x.length<100000) (ox:okW x):QU Tryz.prog 223 [.v (QZ x),.v (.int .i64 s)] [.v true (QZ (Jv s x)),.v true (.int .u64 (rfN s (x.getD 0 0).toNat:Nat))]:=by
 obtain ⟨oR,lR,_⟩:=Fx hs ox
 have hget:=fun i h=>C5 (r:=s) x i h
 obtain ⟨S,hS⟩ : ∃S,S=Jv s x:=⟨_,rfl⟩
 rw [←hS] at oR lR hget ⊢
 obtain ⟨F,hF⟩ : ∃F,F=rfN s (x.getD 0 0).toNat:=⟨_,rfl⟩
 rw [←hF]
 clear hS
 refine QU.of Tryz.func223 rfl rfl fun cx w0=>?_
 rw [show Tryz.f223.ntmps=41 from rfl]
 refine zs0 ?_
 refine zs1 J7 ?_
 refine zs0 ?_
 refine QQ.next (fun σ=>∀a w,Rel cx w0 σ a w→Rel cx w0 {nt:=41,env:=[(6,.own 11 0 x.length),(7,.v true (.int .u64 F))],mem:=[(11,.buf 91 1 true (S.map fun n=>.int .u64 n))]} a w) ?_ ?_
 ·refine zs0 ?_
  refine QQ.loopB (fun q:Nat×List Int => {nt:=41,env:=[(8,.v true (.int .i64 ((q.1:Int)-1))),(7,.v true (.int .u64 (rfN s (x.getD q.1 0).toNat:Nat))),(6,.own 11 0 x.length),(0,.v false (QZ x)),(1,.v true (.int .i64 s))],mem:=[(11,.buf 91 1 true (q.2.map fun n=>.int .u64 n))]})
   (fun q=>q.1≤x.length∧q.2.length=x.length ∧ ∀k,q.1≤k→q.2.getD k 0=S.getD k 0) (fun q=>q.1) (x.length,List.replicate x.length 0) ⟨Nat.le_refl _,List.length_replicate,fun k hk=>by rw [F3 (by rw [List.length_replicate];exact hk),F3 (by rw [lR];exact hk)]⟩ (fun a w h=>by
     have:=Rel.keep [8,7,6,0,1] [11] h
     have e0:rfN s (0:Int).toNat=0:=by unfold rfN;rw [Int.toNat_zero,Nat.zero_mul,Nat.zero_mod];split <;> rfl
     have e1:(List.replicate x.length (0:Int)).map (fun n=>V.int .u64 n)=List.replicate x.length (V.int .u64 0):=List.map_replicate
     show Rel cx w0 {nt:=41,env:=[(8,.v true (.int .i64 ((x.length:Int)-1))),(7,.v true (.int .u64 (rfN s (x.getD x.length 0).toNat:Nat))),(6,.own 11 0 x.length),(0,.v false (QZ x)),(1,.v true (.int .i64 s))],mem:=[(11,.buf 91 1 true ((List.replicate x.length (0:Int)).map fun n=>.int .u64 n))]} a w
     rw [F3 (Nat.le_refl _),e0,e1]
     exact this) ?_
  rintro ⟨j,L⟩ ⟨hj,hL,hk⟩
  simp only at hj hL hk ⊢
  rcases j with _|i
  ·refine QQ.seq ?_
   refine zs0 ?_
   refine QQ.condF rfl (QQ.exit ⟨rfl,fun a w h=>?_⟩)
   have hLS:L=S:=List.ext_getElem (by rw [hL,lR]) fun k h1 h2=>by
    have:=hk k (Nat.zero_le _)
    rw [List.getD_eq_getElem?_getD,List.getD_eq_getElem?_getD,List.getElem?_eq_getElem h1,List.getElem?_eq_getElem h2] at this
    exact this
   have:=Rel.keep [6,7] [11] h
   rw [hLS] at this
   rw [hF]
   exact this
  ·obtain ⟨u,hu,hu64⟩:=Xz (Qy ox i)
   obtain ⟨v,hv,hv64⟩:=Xz (Qy ox (i+1))
   have gX:x[i]?=some (u:Int):=by rw [QD (by omega),hu]
   have gL:=QD (l:=L) (i:=i) (by omega)
   have gS:=hget i (by omega)
   rw [hu,hv,Int.toNat_natCast,Int.toNat_natCast,shr_rf] at gS
   have hlt:=(zE (r:=s) (h:=v) hs hu64).1
   rw [shr_rf] at hlt
   rw [hv,Int.toNat_natCast]
   have ws:=D5 u s (by omega)
   have whi:u/2^s≤u:=Nat.div_le_self _ _
   have ws2:IntKind.u64.wrap ((u/2^s:Nat):Int)=((u/2^s:Nat):Int):=YY _ (by omega)
   have w0':rfN s u=if s=0 then 0 else u*2^(64-s)%18446744073709551616:=rfl
   obtain ⟨f,hf⟩ : ∃f,f=rfN s v:=⟨_,rfl⟩
   obtain ⟨a,ha⟩ : ∃a,a=u/2^s:=⟨_,rfl⟩
   rw [←hf,←ha] at gS hlt
   rw [←ha] at ws ws2
   rw [←hf]
   have wa:IntKind.u64.wrap ((f:Int)+(a:Int))=((a+f:Nat):Int):=by rw [QE];omega
   have e1:(((i+1:Nat):Int)-1)=(i:Int):=by omega
   rw [e1]
   have wk:IntKind.i64.wrap ((i:Int)-1)=(i:Int)-1:=by rw [QV] <;> omega
   have gi:(i:Int)<x.length:=by omega
   have g0:(0:Int)≤(i:Int):=by omega
   obtain ⟨y,hy⟩ : ∃y,y=a+f:=⟨_,rfl⟩
   rw [←hy] at wa gS
   refine QQ.seq ?_
   refine zs0 ?_
   refine QQ.condT rfl (QQ.skip ?_)
   refine QQ.next (fun σ=>∀a w,Rel cx w0 σ a w→Rel cx w0 {nt:=41,env:=[(8,.v true (.int .i64 (i:Int))),(7,.v true (.int .u64 (rfN s u:Nat))),(6,.own 11 0 x.length),(0,.v false (QZ x)),(1,.v true (.int .i64 s))],mem:=[(11,.buf 91 1 true ((L.set i (y:Int)).map fun n=>.int .u64 n))]} a w) ?_ ?_
   ·refine QQ.blockN ?_
    refine zs1 (an gX <| an gi <| an g0 <| an ws <| an ws2 <| an wa <| an hL <| gL) ?_
    refine zs0 ?_
    by_cases h0:s=0
    ·have g1 : ¬(0:Int)<(s:Int):=by omega
     rw [if_pos h0] at w0'
     refine zs1 g1 ?_
     exact QQ.condF rfl (QQ.skip fun a w h=>by
      have:=Rel.keep [8,7,6,0,1] [11] h
      rw [List.map_set,w0']
      exact this)
    ·have g1:(0:Int)<(s:Int):=by omega
     rw [if_neg h0] at w0'
     have w64:(64:Int)-(s:Int)=((64-s:Nat):Int):=by omega
     have wl:=zD u (64-s) (by omega)
     obtain ⟨z,hz⟩ : ∃z,z=u*2^(64-s)%18446744073709551616:=⟨_,rfl⟩
     rw [←hz] at wl w0'
     refine zs1 g1 ?_
     refine QQ.condT rfl ?_
     refine zr1 (an gX <| an gi <| an g0 <| an w64 <| wl) ?_
     intro a w h
     have:=Rel.keep [8,7,6,0,1] [11] h
     rw [List.map_set,w0']
     exact this
   ·intro σ hσ
    refine QQ.from hσ ?_
    refine zr1 wk ?_
    refine ⟨(i,L.set i (y:Int)),⟨by show i≤x.length;omega,by show (L.set i (y:Int)).length=x.length;rw [List.length_set,hL],fun k hk'=>?_⟩,(show i<i+1 by omega),fun a w h=>?_⟩
    ·show (L.set i (y:Int)).getD k 0=S.getD k 0
     rw [U7 (by omega)]
     by_cases hki:i=k
     ·rw [if_pos hki,←hki,gS]
     ·rw [if_neg hki]
      exact hk k (by omega)
    ·have:=Rel.keep [8,7,6,0,1] [11] h
     simp only
     rw [hu,Int.toNat_natCast]
     exact this
 ·intro σ hσ
  refine QQ.from hσ ?_
  have htk:List.take x.length (List.map (fun n=>V.int .u64 n) S)=List.map (fun n=>V.int .u64 n) S:=List.take_of_length_le (by rw [List.length_map,lR];exact Nat.le_refl _)
  refine zs1 htk ?_
  exact QQ.ret (QK.vs rfl (by exact ⟨⟨rfl,by rw [List.drop_zero,htk],id,rfl⟩,⟨rfl,id⟩,trivial⟩) rfl)
theorem XB (x:List Int) (s:Nat) (hx:x.length<40000) (hs:s<1000000) (ox:okW x):QU Tryz.prog 158 [.v (QZ x),.v (.int .i64 s)] [.v true (QZ (QX (val x/2^s)))]:=by
 obtain ⟨m,hm⟩ : ∃m,m=s/64:=⟨_,rfl⟩
 obtain ⟨r,hr⟩ : ∃r,r=s%64:=⟨_,rfl⟩
 have hqm:(s:Int).tdiv 64=m:=by rw [hm];exact KF s 64
 have hrm:(s:Int).tmod 64=r:=by rw [hr];exact Gq s 64
 have hpow:(2:Nat)^s=18446744073709551616^m*2^r:=by
  have hs':s=64*m+r:=by omega
  rw [hs',Nat.pow_add,Nat.pow_mul,show (2:Nat)^64=18446744073709551616 from rfl]
 have hrl:r<64:=by omega
 have hml:m<20000:=by omega
 rw [hpow]
 clear hpow hm hr
 refine QU.of Tryz.func158 rfl rfl fun cx w0=>?_
 rw [show Tryz.f158.ntmps=24 from rfl]
 refine zs0 ?_
 refine QQ.seq ?_
 by_cases hmX:x.length≤m
 ·have:val x/(18446744073709551616^m*2^r)=0:=by
   refine Nat.div_eq_of_lt ?_
   have h2:=ZY ox
   have h3:18446744073709551616^x.length≤18446744073709551616^m:=Nat.pow_le_pow_right (by decide) hmX
   have h4:18446744073709551616^m*1≤18446744073709551616^m*2^r:=Nat.mul_le_mul_left _ (Nat.pow_pos (by decide))
   omega
  rw [this]
  have g:(x.length:Int)≤m:=by omega
  refine zs1 (an hqm <| g) ?_
  refine QQ.condT rfl ?_
  refine zs0 ?_
  exact QQ.ret ⟨_,[],rfl,⟨rfl,trivial⟩,by simp [R.names,R.mems,R.blks],by simp,rfl⟩
 have g : ¬(x.length:Int)≤m:=by omega
 have hcut:val x/(18446744073709551616^m*2^r)=val (Jv r (x.drop m)):=by
  rw [shrL_val hrl (X8 ox m),←Nat.div_div_eq_div_mul]
  congr 1
  have e:val x=val (x.take m)+18446744073709551616^m*val (x.drop m):=by
   have:=ZK (x.take m) (x.drop m)
   rw [List.take_append_drop,List.length_take,Nat.min_eq_left (by omega)] at this
   exact this
  have h2:=ZY (Y5 ox m)
  rw [List.length_take,Nat.min_eq_left (by omega)] at h2
  rw [e,Nat.add_comm,Nat.mul_add_div (Nat.pow_pos (by decide)),Nat.div_eq_of_lt h2,Nat.add_zero]
 rw [hcut]
 have oY:=X8 ox m
 have lY:(x.drop m).length=x.length-m:=List.length_drop
 have hW:=WRight_ok (x.drop m) r hrl (by omega) oY
 obtain ⟨oR,lR,_⟩:=Fx hrl oY
 have hT:=J4 (Jv r (x.drop m)) (by omega) oR
 have hdr:List.drop m (List.map (fun n=>V.int .u64 n) x)=List.map (fun n=>V.int .u64 n) (x.drop m):=List.map_drop.symm
 have htk0:List.take x.length (List.map (fun n=>V.int .u64 n) x)=List.map (fun n=>V.int .u64 n) x:=List.take_of_length_le (by rw [List.length_map];exact Nat.le_refl _)
 have gm:(0:Int)≤m:=by omega
 have gm2:(m:Int)≤x.length:=by omega
 obtain ⟨Y,hY⟩ : ∃Y,Y=x.drop m:=⟨_,rfl⟩
 rw [←hY] at hW hdr hT ⊢
 obtain ⟨S,hS⟩ : ∃S,S=Jv r Y:=⟨_,rfl⟩
 rw [←hS] at hW hT ⊢
 obtain ⟨D,hD⟩ : ∃D,D=QX (val S):=⟨_,rfl⟩
 rw [←hD] at hT ⊢
 obtain ⟨F,hF⟩ : ∃F,F=rfN r (Y.getD 0 0).toNat:=⟨_,rfl⟩
 rw [←hF] at hW
 clear hcut oY lY lR oR hF hY hS hD
 refine zs1 (an hqm <| g) ?_
 refine QQ.condF rfl (QQ.skip ?_)
 refine zs3 (ρ:=fun _=>[.v true (QZ S),.v true (.int .u64 F)]) (an hqm <| an hrm <| an gm <| an gm2 <| an hdr <| htk0) (o:=by repeat' first|exact hW|trivial|constructor) (k:=?_)
 refine zs2 (ρ:=fun _=>[.v true (QZ D)]) (o:=by repeat' first|exact hT|trivial|constructor) (k:=?_)
 exact QQ.ret (QK.vs rfl (by exact ⟨⟨rfl,id⟩,trivial⟩) rfl)
theorem cntS_top (u:Nat) : ∀j,u%2^j≠0→(Yx u j).1=64-(blN (u%2^j):Int)
 | 0,h=>absurd (Nat.mod_one u) h
 | j+1,h=>by
   have hm:u%2^(j+1)=u%2^j+2^j*(u/2^j%2):=by rw [Nat.pow_succ,Nat.mod_mul]
   rw [Yx]
   by_cases hb:u/2^j%2=1
   ·rw [if_pos hb]
    have hlt:=Nat.mod_lt u (Nat.pow_pos (a:=2) (n:=j) (by decide))
    have:blN (u%2^(j+1))=j+1:=by
     refine bl_of ?_ (Nat.mod_lt _ (Nat.pow_pos (by decide)))
     rw [hm,hb];omega
    rw [this]
    show 63-(j:Int)=_
    omega
   ·rw [if_neg hb]
    have e:u%2^(j+1)=u%2^j:=by rw [hm,show u/2^j%2=0 from by omega,Nat.mul_zero,Nat.add_zero]
    rw [e] at h ⊢
    exact cntS_top u j h
theorem JF {x:List Int} (ox:okW x):D4 x=(blN (val x):Nat):=by
 rw [D4]
 cases h:Z4 x x.length with
 | zero =>
   have:val x=0:=by rw [←ZD x,Qg,h];simp [val]
   rw [this]
   rfl
 | succ m =>
   obtain ⟨h1,h2⟩:=JQ x _ _ h
   obtain ⟨u,hu,hu64⟩:=Xz (Qy ox m)
   have hu0:0<u:=by rw [hu] at h1;omega
   have hc:=cntS_top u 64 (by rw [Nat.mod_eq_of_lt (show u<2^64 from hu64)];omega)
   rw [Nat.mod_eq_of_lt (show u<2^64 from hu64)] at hc
   obtain ⟨b1,b2⟩:=U3 hu0
   have hb:=bl_words (Y:=x.take (m+1)) (n:=m) (top:=u) (l:=blN u) (Y5 ox _) (by rw [List.length_take];omega) (by
    rw [←hu,List.getD_eq_getElem?_getD,List.getD_eq_getElem?_getD,List.getElem?_take,if_pos (by omega)]) b2 b1 (by
    unfold blN;rw [if_neg (by omega)];exact Nat.lt_log2_self)
   have hv:val (x.take (m+1))=val x:=by rw [←ZD x,Qg,h]
   rw [hv] at hb
   show 64*(m:Int)+64-(Yx (x.getD m 0).toNat 64).1=_
   rw [hu,Int.toNat_natCast,hc,hb]
   omega
theorem floor1_ok (a:Int) (ha : -4611686018427387904<a∧a<4611686018427387904):QU Tryz.prog 171 [.v (.int .i64 a),.v (.int .i64 1)] [.v true (.int .i64 a)]:=by
 have h1:a.tdiv 1=a:=Int.tdiv_one a
 have h2:a.tmod 1=0:=Int.tmod_one a
 have w1:IntKind.i64.wrap a=a:=by rw [QV] <;> omega
 refine QU.of Tryz.func171 rfl rfl fun cx w0=>?_
 rw [show Tryz.f171.ntmps=16 from rfl]
 refine zs0 ?_
 refine zs1 (an h1 <| w1) ?_
 refine QQ.seq ?_
 refine zs1 h2 ?_
 refine QQ.condF rfl (QQ.skip ?_)
 refine zs0 ?_
 exact QQ.ret (QK.vs rfl (by exact ⟨⟨rfl,id⟩,trivial⟩) rfl)
def G9 (N:Nat) (h s:Bool):V:=.agg [QZ (QX N),.bool h,.bool s]
set_option maxHeartbeats 4000000 in
theorem rRounded_ok (r:Nat) (hr:r≤4) (neg:Bool) (N:Nat) (h s:Bool) (hN:(QX N).length<30000):QU Tryz.prog 94 [.v (.int .i64 r),.v (.bool neg),.v (G9 N h s)] [.v false (QZ (QX (rrN r neg N h s))),.v true (.bool (decide (h=false∧s=false)))]:=by
 have hB:=F7 (QX N) 0 (by omega) (by omega) (QY _).1
 rw [(QY _).2.2] at hB
 have hB:QU Tryz.prog 173 [.v (QZ (QX N)),.v (.int .i64 0)] [.v true (.bool (VE N 0))]:=hB
 have o1:okW [(1:Int)]:=by intro n hn;simp at hn;omega
 have h1w:QU Tryz.prog 78 [.v (.int .u64 1)] [.v true (QZ [1])]:=by
  have:=YX 1 (by decide)
  rw [show QX 1=[1] from by decide] at this
  exact this
 have hA:=rAdd_ok (QX N) [1] (by omega) (by simp) (QY _).1 o1
 rw [(QY _).2.2,show val [(1:Int)]=1 from by decide] at hA
 have hu:rrN r neg N h s=if h=false∧s=false then N else if rrU r neg N h s=true then N+1 else N:=rfl
 have hu2:r=0→rrU r neg N h s=(h&&(s||VE N 0)):=fun e=>by rw [e];rfl
 have hu3:r=1→rrU r neg N h s=h:=fun e=>by rw [e];rfl
 have hu4:r=2→rrU r neg N h s=false:=fun e=>by rw [e];rfl
 have hu5:r=3→rrU r neg N h s = !neg:=fun e=>by rw [e];rfl
 have hu6:r=4→rrU r neg N h s=neg:=fun e=>by rw [e];rfl
 rw [hu]
 obtain ⟨u,hu'⟩ : ∃u,u=rrU r neg N h s:=⟨_,rfl⟩
 rw [←hu'] at hu2 hu3 hu4 hu5 hu6 ⊢
 obtain ⟨O,hO⟩ : ∃O,O=[(1:Int)]:=⟨_,rfl⟩
 rw [←hO] at h1w hA
 obtain ⟨L,hL⟩ : ∃L,L=QX N:=⟨_,rfl⟩
 obtain ⟨L1,hL1⟩ : ∃L,L=QX (N+1):=⟨_,rfl⟩
 obtain ⟨b,hb⟩ : ∃b,b=VE N 0:=⟨_,rfl⟩
 rw [←hb] at hu2
 rw [←hL,←hb] at hB
 rw [←hL,←hL1] at hA
 clear hu hu' hb hO o1 hN
 unfold G9
 rw [←hL]
 refine QU.of Tryz.func94 rfl rfl fun cx w0=>?_
 rw [show Tryz.f94.ntmps=51 from rfl]
 refine zs0 ?_
 refine zs0 ?_
 refine QQ.next (fun σ=>∀a w,Rel cx w0 σ a w→Rel cx w0 {nt:=51,env:=[(8,.v true (.bool u)),(5,.ptr 5 0 [] 0)],mem:=[(5,.box 129 (.v false (.agg [QZ L,.bool h,.bool s])))]} a w) ?_ ?_
 ·refine zs0 ?_
  refine QQ.blockN ?_
  match r,hr with
  | 0,_ =>
    have hu2:=hu2 rfl
    refine zs0 ?_
    refine QQ.condT rfl ?_
    cases h with
    | false =>
      rw [Bool.false_and] at hu2
      subst hu2
      refine zr0 ?_
      exact fun a w h=>Rel.keep [8,5] [5] h
    | true =>
      cases s with
      | true =>
        rw [Bool.true_and,Bool.true_or] at hu2
        subst hu2
        refine zr0 ?_
        exact fun a w h=>Rel.keep [8,5] [5] h
      | false =>
        rw [Bool.true_and,Bool.false_or] at hu2
        subst hu2
        refine zr2 (ρ:=fun _=>[.v true (.bool u)]) (o:=by repeat' first|exact hB|trivial|constructor) (k:=?_)
        exact fun a w h=>Rel.keep [8,5] [5] h
  | 1,_ =>
    have hu3:=hu3 rfl
    subst hu3
    refine zs0 ?_
    refine QQ.condF rfl ?_
    refine zs0 ?_
    refine QQ.condT rfl ?_
    refine zr0 ?_
    exact fun a w h=>Rel.keep [8,5] [5] h
  | 2,_ =>
    have hu4:=hu4 rfl
    subst hu4
    refine zs0 ?_
    refine QQ.condF rfl ?_
    refine zs0 ?_
    refine QQ.condF rfl ?_
    refine zs0 ?_
    refine QQ.condF rfl ?_
    refine zs0 ?_
    exact QQ.condF rfl (QQ.skip fun a w h=>Rel.keep [8,5] [5] h)
  | 3,_ =>
    have hu5:=hu5 rfl
    subst hu5
    refine zs0 ?_
    refine QQ.condF rfl ?_
    refine zs0 ?_
    refine QQ.condF rfl ?_
    refine zs0 ?_
    refine QQ.condT rfl ?_
    refine zr0 ?_
    exact fun a w h=>Rel.keep [8,5] [5] h
  | 4,_ =>
    have hu6:=hu6 rfl
    subst hu6
    refine zs0 ?_
    refine QQ.condF rfl ?_
    refine zs0 ?_
    refine QQ.condF rfl ?_
    refine zs0 ?_
    refine QQ.condF rfl ?_
    refine zs0 ?_
    refine QQ.condT rfl ?_
    refine zr0 ?_
    exact fun a w h=>Rel.keep [8,5] [5] h
 ·intro σ hσ
  refine QQ.from hσ ?_
  have tail:(h=true∨s=true)→QQ Tryz.prog none cx w0 (ZH Tryz.f94 [1,1,1]) {nt:=51,env:=[(8,.v true (.bool u)),(5,.ptr 5 0 [] 0)],mem:=[(5,.box 129 (.v false (.agg [QZ L,.bool h,.bool s])))]} (fnQ Tryz.prog Tryz.f94 [.v false (QZ (QX (if u=true then N+1 else N))),.v true (.bool false)]):=fun hhs=>by
   cases h with
   | true =>
     refine QQ.seq ?_
     refine zs0 ?_
     refine QQ.condF rfl (QQ.skip ?_)
     cases u with
     | true =>
       rw [if_pos rfl,←hL1]
       refine QQ.seq ?_
       refine zs0 ?_
       refine QQ.condT rfl ?_
       refine zd2 [] (ρ:=fun d=>if d=47 then [.v true (QZ O)] else [.v true (QZ L1)]) (o:=by repeat' first|exact h1w|exact hA|trivial|constructor) (k:=?_)
       exact QQ.ret (QK.vs rfl (by exact ⟨⟨rfl,by simp⟩,⟨rfl,id⟩,trivial⟩) rfl)
     | false =>
       rw [if_neg (by simp),←hL]
       refine QQ.seq ?_
       refine zs0 ?_
       refine QQ.condF rfl (QQ.skip ?_)
       refine zs0 ?_
       exact QQ.ret (QK.vs rfl (by exact ⟨⟨rfl,by simp⟩,⟨rfl,id⟩,trivial⟩) rfl)
   | false =>
     have hs:s=true:=by rcases hhs with h|h;· cases h
                        ·exact h
     subst hs
     refine QQ.seq ?_
     refine zs0 ?_
     refine QQ.condF rfl (QQ.skip ?_)
     cases u with
     | true =>
       rw [if_pos rfl,←hL1]
       refine QQ.seq ?_
       refine zs0 ?_
       refine QQ.condT rfl ?_
       refine zd2 [] (ρ:=fun d=>if d=47 then [.v true (QZ O)] else [.v true (QZ L1)]) (o:=by repeat' first|exact h1w|exact hA|trivial|constructor) (k:=?_)
       exact QQ.ret (QK.vs rfl (by exact ⟨⟨rfl,by simp⟩,⟨rfl,id⟩,trivial⟩) rfl)
     | false =>
       rw [if_neg (by simp),←hL]
       refine QQ.seq ?_
       refine zs0 ?_
       refine QQ.condF rfl (QQ.skip ?_)
       refine zs0 ?_
       exact QQ.ret (QK.vs rfl (by exact ⟨⟨rfl,by simp⟩,⟨rfl,id⟩,trivial⟩) rfl)
  by_cases hhs:h=false∧s=false
  ·obtain ⟨e1,e2⟩:=hhs
   subst e1;subst e2
   rw [if_pos ⟨rfl,rfl⟩,decide_eq_true ⟨rfl,rfl⟩,←hL]
   refine QQ.seq ?_
   refine zs0 ?_
   refine QQ.condT rfl ?_
   refine zs0 ?_
   exact QQ.ret (QK.vs rfl (by exact ⟨⟨rfl,by simp⟩,⟨rfl,id⟩,trivial⟩) rfl)
  ·rw [if_neg hhs,decide_eq_false hhs]
   refine tail ?_
   cases h
   ·cases s
    ·exact absurd ⟨rfl,rfl⟩ hhs
    ·exact .inr rfl
   ·exact .inl rfl
def cutN (num den:Nat) (d:Int):Nat:=num*2^d.toNat/(den*2^(-d).toNat)
def A7 (num den:Nat) (d:Int):Int:=Y6 (num*2^d.toNat%(den*2^(-d).toNat)) (den*2^(-d).toNat)
theorem cmpN_mul {a b c:Nat} (hc:0<c):Q7 (a*c) (b*c)=Q7 a b:=by
 unfold Q7
 simp only [Nat.mul_lt_mul_right hc]
theorem rstN_mul {x d c:Nat} (hc:0<c):Y6 (x*c) (d*c)=Y6 x d:=by
 unfold Y6
 have e:x*c=0↔x=0:=⟨fun h=>by rcases Nat.mul_eq_zero.1 h with h|h <;> omega,fun h=>by rw [h,Nat.zero_mul]⟩
 rw [show x*c*2=x*2*c from by rw [Nat.mul_right_comm],cmpN_mul hc]
 by_cases h:x=0
 ·rw [if_pos h,if_pos (e.2 h)]
 ·rw [if_neg h,if_neg (fun h'=>h (e.1 h'))]
theorem yB {num den i j:Nat} {d:Int} (h:(i:Int)-j=d):num*2^i/(den*2^j)=cutN num den d∧Y6 (num*2^i%(den*2^j)) (den*2^j)=A7 num den d:=by
 obtain ⟨c,hi,hj⟩ : ∃c,i=d.toNat+c∧j=(-d).toNat+c:=⟨i-d.toNat,by omega,by omega⟩
 have hp:0<2^c:=Nat.pow_pos (by decide)
 unfold cutN A7
 rw [hi,hj,Nat.pow_add,Nat.pow_add,←Nat.mul_assoc,←Nat.mul_assoc]
 exact ⟨Nat.mul_div_mul_right _ _ hp,by rw [Nat.mul_mod_mul_right,rstN_mul hp]⟩
def IsE (num den:Nat) (e:Int):Prop:=∀i j:Nat,(i:Int)-j=e→den*2^i≤num*2^j∧num*2^j<den*2^(i+1)
theorem isE_of {num den i j:Nat} {e:Int} (he:(i:Int)-j=e) (h1:den*2^i≤num*2^j) (h2:num*2^j<den*2^(i+1)):IsE num den e:=by
 intro i' j' h'
 obtain ⟨c,d,hi,hj⟩ : ∃c d,i'+d=i+c∧j'+d=j+c:=⟨i',i,by omega,by omega⟩
 have hc:0<2^c:=Nat.pow_pos (by decide)
 have hd:0<2^d:=Nat.pow_pos (by decide)
 constructor
 ·refine Nat.le_of_mul_le_mul_right ?_ hd
  rw [Nat.mul_assoc,Nat.mul_assoc,←Nat.pow_add,←Nat.pow_add,hi,hj,Nat.pow_add,Nat.pow_add,←Nat.mul_assoc,←Nat.mul_assoc]
  exact Nat.mul_le_mul_right _ h1
 ·refine Nat.lt_of_mul_lt_mul_right (a:=2^d) ?_
  rw [Nat.mul_assoc,Nat.mul_assoc,←Nat.pow_add,←Nat.pow_add,show i'+1+d=i+1+c from by omega,hj,Nat.pow_add,Nat.pow_add,←Nat.mul_assoc,←Nat.mul_assoc]
  exact (Nat.mul_lt_mul_right hc).2 h2
abbrev FRes:=Nat×Bool×Int×Nat×Int
def B9 (P g:Int) (r:Nat) (neg:Bool):FRes:=if grB r neg=true then (1,neg,g-P+1,2^P.toNat-1,5) else (2,neg,0,0,5)
theorem isE_uniq {num den:Nat} {e e':Int} (h:IsE num den e) (h':IsE num den e'):e=e':=by
 have key : ∀ {a b:Int},IsE num den a→IsE num den b → ¬a<b:=fun {a b} ha hb hlt=>by
  obtain ⟨j,i,hij,i',hij'⟩ : ∃j i:Nat,(i:Int)-j=a ∧ ∃i':Nat,(i':Int)-j=b:=⟨(-a).toNat,(a+(-a).toNat).toNat,by omega,(b+(-a).toNat).toNat,by omega⟩
  have h1:=(ha i j hij).2
  have h2:=(hb i' j hij').1
  have h3:den*2^(i+1)≤den*2^i':=Nat.mul_le_mul_left _ (Nat.pow_le_pow_right (by decide) (by omega))
  omega
 rcases Int.lt_trichotomy e e' with h1|h1|h1
 ·exact absurd h1 (key h h')
 ·exact h1
 ·exact absurd h1 (key h' h)
theorem isE_bl {X D v r:Nat} (hX:X=v*D+r) (hr:r<D) (hv:0<v):IsE X D (blN v-1):=by
 obtain ⟨b1,b2⟩:=U3 hv
 have b3:v<2^blN v:=by unfold blN;rw [if_neg (by omega)];exact Nat.lt_log2_self
 refine isE_of (i:=blN v-1) (j:=0) (by omega) ?_ ?_
 ·rw [Nat.pow_zero,Nat.mul_one,hX,Nat.mul_comm v D]
  have:=Nat.mul_le_mul_left D b1
  omega
 ·rw [Nat.pow_zero,Nat.mul_one,show blN v-1+1=blN v from by omega,hX]
  have h1:v*D+D≤2^blN v*D:=by rw [←Nat.succ_mul];exact Nat.mul_le_mul_right D b3
  rw [Nat.mul_comm D]
  omega
theorem isE_ex {num den:Nat} (hn:0<num) (hd:0<den) : ∃e,IsE num den e:=by
 have hq:0<num*2^den/den:=Nat.div_pos (Nat.le_trans (Nat.le_of_lt Nat.lt_two_pow_self) (Nat.le_mul_of_pos_left _ hn)) hd
 have h1:=isE_bl (X:=num*2^den) (D:=den) (v:=num*2^den/den) (r:=num*2^den%den) (by have h2:=Nat.div_add_mod (num*2^den) den;rw [Nat.mul_comm den] at h2;exact h2.symm) (Nat.mod_lt _ hd) hq
 obtain ⟨L,hL⟩ : ∃L:Int,L=(blN (num*2^den/den):Int)-1:=⟨_,rfl⟩
 rw [←hL] at h1
 refine ⟨L-den,fun i j hij=>?_⟩
 obtain ⟨i',j',e1,e2,e3⟩ : ∃i' j':Nat,(i':Int)-j'=L∧i'=i+den∧j'=j:=⟨i+den,j,by omega,rfl,rfl⟩
 obtain ⟨a,b⟩:=h1 i' j' e1
 have hp:0<2^den:=Nat.pow_pos (by decide)
 rw [e2,e3] at a b
 rw [Nat.mul_right_comm] at a b
 rw [show i+den+1=i+1+den from by omega,Nat.pow_add,←Nat.mul_assoc] at b
 rw [Nat.pow_add,←Nat.mul_assoc] at a
 exact ⟨Nat.le_of_mul_le_mul_right a hp,Nat.lt_of_mul_lt_mul_right b⟩
def fU (P g e:Int):Int:=max e (1-g)-P+1
def fN (r:Nat) (neg:Bool) (num den:Nat) (d:Int):Nat:=upN r neg (cutN num den d) (A7 num den d)
def Vu (P g:Int) (r:Nat) (neg:Bool) (num den:Nat) (d e:Int):FRes :=
 if g<e∨2^(g+1-fU P g e).toNat≤fN r neg num den (d-fU P g e) then B9 P g r neg
 else if fN r neg num den (d-fU P g e)=0 then (0,neg,0,0,3)
 else (1,neg,fU P g e+trN (fN r neg num den (d-fU P g e)),fN r neg num den (d-fU P g e)/2^trN (fN r neg num den (d-fU P g e)),if A7 num den (d-fU P g e)=0 then 0 else if e<1-g then 3 else 1)
theorem fRnd_high {P g:Int} {r:Nat} {neg:Bool} {num den:Nat} {d e:Int} (h:g<e):Vu P g r neg num den d e=B9 P g r neg:=by
 unfold Vu
 rw [if_pos (.inl h)]
def Q3 (k P:Int):V:=.agg [.int .i64 k,.int .i64 P]
def YG (k:Nat) (neg:Bool) (e:Int) (m:Nat):V:=.agg [.int .i64 (k:Nat),.bool neg,.int .i64 e,QZ (QX m)]
theorem KJ (k:Nat) (neg:Bool) (e:Int) (m:Nat):YG k neg e m = .agg [.int .i64 (k:Nat),.bool neg,.int .i64 e,.sl 1 ((QX m).map fun n=>.int .u64 n)]:=rfl
theorem X7 (k:Nat) (neg:Bool) (e:Int):YG k neg e 0 = .agg [.int .i64 (k:Nat),.bool neg,.int .i64 e,.sl 1 []]:=rfl
def G6 (k P:Int):Prop:=(2≤k∧k≤15)∧2≤P∧P≤256
def gK (K:Nat):Int:=((2^K:Nat):Int)-1
theorem U6 {K:Nat} (h:1≤K∧K≤14):1≤gK K∧gK K≤16383:=by
 unfold gK
 have h1:=Nat.pow_le_pow_right (n:=2) (by decide) h.1
 have h2:=Nat.pow_le_pow_right (n:=2) (by decide) h.2
 omega
theorem wrap_pow {K:Nat} (h:K≤14):IntKind.i64.wrap (1*2^min K 64)=((2^K:Nat):Int):=by
 have h2:2^K≤16384:=Nat.pow_le_pow_right (n:=2) (by decide) h
 have e:(1:Int)*2^min K 64=((2^K:Nat):Int):=by rw [Nat.min_eq_left (by omega),Int.one_mul];exact (Int.natCast_pow 2 K).symm
 rw [e]
 obtain ⟨B,hB⟩ : ∃B,B=2^K:=⟨_,rfl⟩
 rw [←hB] at h2 ⊢
 exact QV (by omega) (by omega)
theorem qf (k P:Int):QU Tryz.prog 106 [.v (Q3 k P)] [.v true (.int .i64 (if (2≤k∧k≤15)∧2≤P∧P≤256 then 0 else 150))]:=by
 unfold Q3
 refine QU.of Tryz.func106 rfl rfl fun cx w0=>?_
 rw [show Tryz.f106.ntmps=21 from rfl]
 refine zs0 ?_
 refine QQ.seq ?_
 by_cases h1:k<2
 ·rw [if_neg (by omega)]
  refine zs1 h1 ?_
  refine QQ.condT rfl ?_
  refine zs0 ?_
  exact QQ.ret (QK.vs rfl (by exact ⟨⟨rfl,id⟩,trivial⟩) rfl)
 by_cases h2:15<k
 ·rw [if_neg (by omega)]
  refine zs1 (an h1 <| h2) ?_
  refine QQ.condT rfl ?_
  refine zs0 ?_
  exact QQ.ret (QK.vs rfl (by exact ⟨⟨rfl,id⟩,trivial⟩) rfl)
 by_cases h3:P<2
 ·rw [if_neg (by omega)]
  refine zs1 (an h1 <| an h2 <| h3) ?_
  refine QQ.condT rfl ?_
  refine zs0 ?_
  exact QQ.ret (QK.vs rfl (by exact ⟨⟨rfl,id⟩,trivial⟩) rfl)
 by_cases h4:256<P
 ·rw [if_neg (by omega)]
  refine zs1 (an h1 <| an h2 <| an h3 <| h4) ?_
  refine QQ.condT rfl ?_
  refine zs0 ?_
  exact QQ.ret (QK.vs rfl (by exact ⟨⟨rfl,id⟩,trivial⟩) rfl)
 rw [if_pos (by omega)]
 refine zs1 (an h1 <| an h2 <| an h3 <| h4) ?_
 refine QQ.condF rfl (QQ.skip ?_)
 refine zs0 ?_
 exact QQ.ret (QK.vs rfl (by exact ⟨⟨rfl,id⟩,trivial⟩) rfl)
theorem E3 (K:Nat) (P:Int) (hK:1≤K∧K≤14) (hP:2≤P∧P≤256):QU Tryz.prog 180 [.v (Q3 ((K+1:Nat):Int) P)] [.v true (.int .i64 (1-gK K)),.v true (.int .i64 (gK K)),.v true (.int .i64 (1-gK K-(P-1))),.v true (.int .i64 0)]:=by
 have hC:=qf ((K+1:Nat):Int) P
 rw [if_pos (by omega)] at hC
 have hG:=U6 hK
 have hw:=wrap_pow hK.2
 have hg:((2^K:Nat):Int)-1=gK K:=rfl
 have wg:IntKind.i64.wrap (gK K)=gK K:=by rw [QV] <;> omega
 obtain ⟨G,hG'⟩ : ∃G,G=gK K:=⟨_,rfl⟩
 obtain ⟨B,hB⟩ : ∃B:Int,B=((2^K:Nat):Int):=⟨_,rfl⟩
 rw [←hB] at hw hg
 rw [←hG'] at hG hg wg ⊢
 have wB:IntKind.i64.wrap (B-1)=G:=by rw [hg];exact wg
 have w1:IntKind.i64.wrap (1-G)=1-G:=by rw [QV] <;> omega
 have w2:IntKind.i64.wrap (P-1)=P-1:=by rw [QV] <;> omega
 have w3:IntKind.i64.wrap (1-G-(P-1))=1-G-(P-1):=by rw [QV] <;> omega
 have g0:(0:Int)≤(K:Int):=by omega
 have wk:IntKind.i64.wrap (((K:Nat):Int)+1-1)=(K:Int):=by rw [QV] <;> omega
 clear hG' hB hg
 unfold Q3 at hC ⊢
 refine QU.of Tryz.func180 rfl rfl fun cx w0=>?_
 rw [show Tryz.f180.ntmps=25 from rfl]
 refine zs0 ?_
 refine QQ.seq ?_
 refine zs2 (ρ:=fun _=>[.v true (.int .i64 0)]) (o:=by repeat' first|exact hC|trivial|constructor) (k:=?_)
 refine zs0 ?_
 refine QQ.condF rfl (QQ.skip ?_)
 refine zs1 (an wk <| an g0 <| an hw <| wB) ?_
 refine zs1 w1 ?_
 refine zd1 [] (an w2 <| w3) ?_
 exact QQ.ret (QK.vs rfl (by exact ⟨⟨rfl,id⟩,⟨rfl,id⟩,⟨rfl,id⟩,⟨rfl,id⟩,trivial⟩) rfl)
theorem fStep_ok (K:Nat) (P e:Int) (hK:1≤K∧K≤14) (hP:2≤P∧P≤256) (he : -4611686018427387000<e∧e<4611686018427387000):QU Tryz.prog 181 [.v (Q3 ((K+1:Nat):Int) P),.v (.int .i64 e)] [.v true (.int .i64 (fU P (gK K) e))]:=by
 have hR:=E3 K P hK hP
 have hG:=U6 hK
 obtain ⟨u,hu⟩ : ∃u,u=fU P (gK K) e:=⟨_,rfl⟩
 rw [←hu]
 unfold fU at hu
 obtain ⟨G,hG'⟩ : ∃G,G=gK K:=⟨_,rfl⟩
 rw [←hG'] at hR hG hu
 obtain ⟨k,hk⟩ : ∃k:Int,k=((K+1:Nat):Int):=⟨_,rfl⟩
 rw [←hk] at hR ⊢
 clear hG' hk
 unfold Q3 at hR ⊢
 refine QU.of Tryz.func181 rfl rfl fun cx w0=>?_
 rw [show Tryz.f181.ntmps=25 from rfl]
 refine zs0 ?_
 refine zs2 (ρ:=fun _=>[.v true (.int .i64 (1-G)),.v true (.int .i64 G),.v true (.int .i64 (1-G-(P-1))),.v true (.int .i64 0)]) (o:=by repeat' first|exact hR|trivial|constructor) (k:=?_)
 refine QQ.seq ?_
 by_cases h:e<1-G
 ·have:u=1-G-(P-1):=by omega
  rw [this]
  refine zs1 h ?_
  refine QQ.condT rfl ?_
  refine zs0 ?_
  exact QQ.ret (QK.vs rfl (by exact ⟨⟨rfl,id⟩,trivial⟩) rfl)
 ·have hue:u=e-P+1:=by omega
  rw [hue]
  have w1:IntKind.i64.wrap (e-P)=e-P:=by rw [QV] <;> omega
  have w2:IntKind.i64.wrap (e-P+1)=e-P+1:=by rw [QV] <;> omega
  refine zs1 h ?_
  refine QQ.condF rfl (QQ.skip ?_)
  refine zs1 (an w1 <| w2) ?_
  exact QQ.ret (QK.vs rfl (by exact ⟨⟨rfl,id⟩,trivial⟩) rfl)
theorem UY {x:List Int} (ox:okW x):val x<2^(64*x.length):=by
 rw [Nat.pow_mul];exact ZY ox
theorem wBit_far (x:List Int) (i:Nat) (hx:x.length<100000) (hi:64*x.length≤i) (hi2:i<4611686018427387904):QU Tryz.prog 60 [.v (QZ x),.v (.int .i64 i)] [.v true (.bool false)]:=by
 have hq:(i:Int).tdiv 64=((i/64:Nat):Int):=KF i 64
 have g0:(0:Int)≤(i:Int):=by omega
 have g1 : ¬((i/64:Nat):Int)<x.length:=by omega
 have wq:IntKind.i64.wrap ((i/64:Nat):Int)=((i/64:Nat):Int):=by rw [QV] <;> omega
 obtain ⟨m,hm⟩ : ∃m,m=i/64:=⟨_,rfl⟩
 rw [←hm] at hq g1 wq
 refine QU.of Tryz.func60 rfl rfl fun cx w0=>?_
 rw [show Tryz.f60.ntmps=26 from rfl]
 refine zs0 ?_
 refine zs1 (an g0 <| an hq <| an g1 <| wq) ?_
 exact QQ.ret (QK.vs rfl (by exact ⟨⟨rfl,id⟩,trivial⟩) rfl)
theorem wBitG_ok (x:List Int) (i:Nat) (hx:x.length<100000) (ox:okW x) (hi2:i<4611686018427387904):QU Tryz.prog 60 [.v (QZ x),.v (.int .i64 i)] [.v true (.bool (VE (val x) i))]:=by
 by_cases h:64*x.length≤i
 ·have:VE (val x) i=false:=by
   unfold VE
   have h1:=UY ox
   have h2:2^(64*x.length)≤2^i:=Nat.pow_le_pow_right (by decide) h
   rw [Nat.div_eq_of_lt (by omega)]
   rfl
  rw [this]
  exact wBit_far x i hx h hi2
 ·exact CZ x i hx (by omega) ox
theorem wShr_far (x:List Int) (s:Nat) (hx:x.length<10000) (ox:okW x) (hs:64*x.length≤s) (hs2:s<4611686018427387904):QU Tryz.prog 187 [.v (QZ x),.v (.int .i64 s)] [.v true (QZ (QX 0))]:=by
 have h1:=Yv x (by omega)
 have lx:=ZE x
 have hq:(s:Int).tdiv 64=((s/64:Nat):Int):=KF s 64
 obtain ⟨X,hX⟩ : ∃X,X=Qg x:=⟨_,rfl⟩
 rw [←hX] at h1 lx
 have g:(X.length:Int)≤((s/64:Nat):Int):=by omega
 have wq:IntKind.i64.wrap ((s/64:Nat):Int)=((s/64:Nat):Int):=by rw [QV] <;> omega
 obtain ⟨m,hm⟩ : ∃m,m=s/64:=⟨_,rfl⟩
 rw [←hm] at hq g wq
 refine QU.of Tryz.func187 rfl rfl fun cx w0=>?_
 rw [show Tryz.f187.ntmps=64 from rfl]
 refine zs0 ?_
 refine zs2 (ρ:=fun _=>[.v false (QZ X)]) (o:=by repeat' first|exact h1|trivial|constructor) (k:=?_)
 refine QQ.seq ?_
 refine zs1 (an hq <| an g <| wq) ?_
 refine QQ.condT rfl ?_
 refine zs0 ?_
 exact QQ.ret ⟨_,[],rfl,⟨rfl,trivial⟩,by simp [R.names,R.mems,R.blks],by simp,rfl⟩
theorem wShrG_ok (x:List Int) (s:Nat) (hx:x.length<10000) (ox:okW x) (hs2:s<4611686018427387904):QU Tryz.prog 187 [.v (QZ x),.v (.int .i64 s)] [.v true (QZ (QX (val x/2^s)))]:=by
 by_cases h:64*x.length≤s
 ·have h1:=UY ox
  have h2:2^(64*x.length)≤2^s:=Nat.pow_le_pow_right (by decide) h
  rw [Nat.div_eq_of_lt (by omega)]
  exact wShr_far x s hx ox h hs2
 ·exact wShr_ok x s hx (by omega) ox
def Dx (f:FRes):List R:=[.v true (YG f.1 f.2.1 f.2.2.1 f.2.2.2.1),.v true (.int .i64 f.2.2.2.2)]
theorem bl_pow {n k:Nat}:k<blN n↔2^k≤n:=by
 constructor
 ·intro h
  rcases Nat.lt_or_ge n (2^k) with h1|h1
  ·have:=X6 h1;omega
  ·exact h1
 ·intro h
  rcases Nat.lt_or_ge k (blN n) with h1|h1
  ·exact h1
  ·exfalso
   have hp:0<2^k:=Nat.pow_pos (by decide)
   have hn:0<n:=by omega
   have h2:n<2^blN n:=by unfold blN;rw [if_neg (by omega)];exact Nat.lt_log2_self
   have h3:=Nat.pow_le_pow_right (n:=2) (by decide) h1
   omega
theorem UZ (K:Nat) (P:Int) (hK:1≤K∧K≤14):QU Tryz.prog 145 [.v (Q3 ((K+1:Nat):Int) P)] [.v true (.int .i64 (gK K))]:=by
 have hG:=U6 hK
 have hw:=wrap_pow hK.2
 have hg:((2^K:Nat):Int)-1=gK K:=rfl
 have wg:IntKind.i64.wrap (gK K)=gK K:=by rw [QV] <;> omega
 obtain ⟨G,hG'⟩ : ∃G,G=gK K:=⟨_,rfl⟩
 obtain ⟨B,hB⟩ : ∃B:Int,B=((2^K:Nat):Int):=⟨_,rfl⟩
 rw [←hB] at hw hg
 rw [←hG'] at hG hg wg ⊢
 have wB:IntKind.i64.wrap (B-1)=G:=by rw [hg];exact wg
 have g0:(0:Int)≤(K:Int):=by omega
 have wk:IntKind.i64.wrap (((K:Nat):Int)+1-1)=(K:Int):=by rw [QV] <;> omega
 clear hG' hB hg
 unfold Q3
 refine QU.of Tryz.func145 rfl rfl fun cx w0=>?_
 rw [show Tryz.f145.ntmps=8 from rfl]
 refine zs0 ?_
 refine zs1 (an wk <| an g0 <| an hw <| wB) ?_
 exact QQ.ret (QK.vs rfl (by exact ⟨⟨rfl,id⟩,trivial⟩) rfl)
theorem DQ (K:Nat) (P:Int) (hK:1≤K∧K≤14):QU Tryz.prog 219 [.v (Q3 ((K+1:Nat):Int) P)] [.v true (.int .i64 (1-gK K))]:=by
 have hG:=U6 hK
 have h1:=UZ K P hK
 obtain ⟨G,hG'⟩ : ∃G,G=gK K:=⟨_,rfl⟩
 obtain ⟨k,hk⟩ : ∃k:Int,k=((K+1:Nat):Int):=⟨_,rfl⟩
 rw [←hG'] at hG h1 ⊢
 rw [←hk] at h1 ⊢
 have w1:IntKind.i64.wrap (1-G)=1-G:=by rw [QV] <;> omega
 unfold Q3 at h1 ⊢
 refine QU.of Tryz.func219 rfl rfl fun cx w0=>?_
 rw [show Tryz.f219.ntmps=6 from rfl]
 refine zs0 ?_
 refine zs3 (ρ:=fun _=>[.v true (.int .i64 G)]) w1 (o:=by repeat' first|exact h1|trivial|constructor) (k:=?_)
 exact QQ.ret (QK.vs rfl (by exact ⟨⟨rfl,id⟩,trivial⟩) rfl)
theorem fRight_ok (k P:Int):QU Tryz.prog 66 [.v (Q3 k P)] [.v true (.bool (decide ((2≤k∧k≤15)∧2≤P∧P≤256)))]:=by
 unfold Q3
 refine QU.of Tryz.func66 rfl rfl fun cx w0=>?_
 rw [show Tryz.f66.ntmps=21 from rfl]
 refine zs0 ?_
 by_cases h1:2≤k
 ·by_cases h2:k≤15
  ·by_cases h3:2≤P
   ·by_cases h4:P≤256
    ·rw [decide_eq_true ⟨⟨h1,h2⟩,h3,h4⟩]
     refine zs1 (an h1 <| an h2 <| an h3 <| h4) ?_
     exact QQ.ret (QK.vs rfl (by exact ⟨⟨rfl,id⟩,trivial⟩) rfl)
    ·rw [decide_eq_false (fun h=>h4 h.2.2)]
     refine zs1 (an h1 <| an h2 <| an h3 <| h4) ?_
     exact QQ.ret (QK.vs rfl (by exact ⟨⟨rfl,id⟩,trivial⟩) rfl)
   ·rw [decide_eq_false (fun h=>h3 h.2.1)]
    refine zs1 (an h1 <| an h2 <| h3) ?_
    exact QQ.ret (QK.vs rfl (by exact ⟨⟨rfl,id⟩,trivial⟩) rfl)
  ·rw [decide_eq_false (fun h=>h2 h.1.2)]
   refine zs1 (an h1 <| h2) ?_
   exact QQ.ret (QK.vs rfl (by exact ⟨⟨rfl,id⟩,trivial⟩) rfl)
 ·rw [decide_eq_false (fun h=>h1 h.1.1)]
  refine zs1 h1 ?_
  exact QQ.ret (QK.vs rfl (by exact ⟨⟨rfl,id⟩,trivial⟩) rfl)
theorem Fmt_ok (k P:Int):QU Tryz.prog 18 [.v (Q3 k P)] [.v true (Q3 k P)]:=by
 unfold Q3
 refine QU.of Tryz.func18 rfl rfl fun cx w0=>?_
 rw [show Tryz.f18.ntmps=8 from rfl]
 refine zs0 ?_
 refine zs0 ?_
 exact QQ.ret (QK.vs rfl (by exact ⟨⟨rfl,id⟩,trivial⟩) rfl)
theorem tr_down {v i:Nat} (h:v/2^i%2=1):trN (v/2^i)=0:=J8 (c:=v/2^i/2) (by rw [Nat.pow_zero];omega)
theorem tr_up {v i:Nat} (h:v/2^i%2=0) (h0:v/2^(i+1)≠0):trN (v/2^i)=trN (v/2^(i+1))+1:=by
 rw [Nat.pow_succ,←Nat.div_div_eq_div_mul] at h0 ⊢
 obtain ⟨w,hw⟩ : ∃w,w=v/2^i:=⟨_,rfl⟩
 rw [←hw] at h h0 ⊢
 obtain ⟨c,hc⟩:=Uv (v:=w/2) (by omega)
 exact J8 (c:=c) (by rw [Nat.pow_succ,←Nat.mul_assoc,←hc];omega)
set_option maxHeartbeats 2000000 in
theorem Bits_ok (x:List Int) (hx:x.length<10000) (ox:okW x) : ∃o:Int,QU Tryz.prog 190 [.v (QZ x)] [.v true (.int .i64 (trN (val x))),.v true (.int .i64 o)]:=by
 have hL:=UC x (by omega) ox
 rw [JF ox] at hL
 have hbl:blN (val x)≤64*x.length:=X6 (UY ox)
 have hvb:val x<2^blN (val x):=by
  unfold blN
  split
  ·next h=>rw [h];decide
  ·exact Nat.lt_log2_self
 have hB:=fun i (hi:i<10000000)=>F7 x i (by omega) hi ox
 obtain ⟨v,hv⟩ : ∃v,v=val x:=⟨_,rfl⟩
 rw [←hv] at hL hbl hvb ⊢
 have hB : ∀i,i<10000000→QU Tryz.prog 173 [.v (QZ x),.v (.int .i64 (i:Nat))] [.v true (.bool (VE v i))]:=fun i hi=>by rw [hv];exact hB i hi
 obtain ⟨b,hb⟩ : ∃b,b=blN v:=⟨_,rfl⟩
 rw [←hb] at hL hbl hvb
 obtain ⟨cnt,hcnt⟩ : ∃cnt:Nat→Nat,(∀i,cnt i=(if VE v i=true then 1 else 0)+cnt (i+1)∨b≤i)∧cnt b=0:=by
  refine ⟨fun i=>((List.range b).filter fun j=>decide (i≤j)&&VE v j).length,?_,?_⟩
  ·intro i
   by_cases h:b≤i
   ·exact .inr h
   ·left
    have key : ∀n,i<n→((List.range n).filter fun j=>decide (i≤j)&&VE v j).length=(if VE v i=true then 1 else 0)+((List.range n).filter fun j=>decide (i+1≤j)&&VE v j).length:=fun n=>by
     induction n with
     | zero=>intro h;omega
     | succ n ih =>
       intro hn
       rw [List.range_succ,List.filter_append,List.filter_append,List.length_append,List.length_append]
       by_cases hin:i=n
       ·subst hin
        have z1 : ∀k,((List.range i).filter fun j=>decide (i+k≤j)&&VE v j)=[]:=fun k=>List.filter_eq_nil_iff.2 fun j hj=>by
         have:=List.mem_range.1 hj
         simp;omega
        have z0:=z1 0
        rw [Nat.add_zero] at z0
        rw [z0,z1 1]
        by_cases hbt:VE v i=true
        ·simp [hbt]
        ·simp [hbt]
       ·rw [ih (by omega)]
        have e1:decide (i≤n)=true:=decide_eq_true (by omega)
        have e2:decide (i+1≤n)=true:=decide_eq_true (by omega)
        simp [List.filter_cons,e1,e2]
        omega
    exact key b (by omega)
  ·simp only
   rw [List.length_eq_zero_iff]
   exact List.filter_eq_nil_iff.2 fun j hj=>by
    have:=List.mem_range.1 hj
    simp;omega
 refine ⟨(cnt 0:Nat),?_⟩
 have hcb : ∀i,i≤b→cnt i≤b-i:=fun i=>by
  have key : ∀n,n≤b→cnt (b-n)≤n:=fun n=>by
   induction n with
   | zero=>intro _;rw [Nat.sub_zero,hcnt.2];exact Nat.le_refl _
   | succ n ih =>
     intro hn
     have h1:=ih (by omega)
     rcases hcnt.1 (b-(n+1)) with h2|h2
     ·rw [h2,show b-(n+1)+1=b-n from by omega]
      split <;> omega
     ·omega
  intro hi
  have:=key (b-i) (by omega)
  rw [show b-(b-i)=i from by omega] at this
  exact this
 refine QU.of Tryz.func190 rfl rfl fun cx w0=>?_
 rw [show Tryz.f190.ntmps=22 from rfl]
 refine zs0 ?_
 refine zs0 ?_
 refine QQ.next (fun σ=>∀a w,Rel cx w0 σ a w→Rel cx w0 {nt:=22,env:=[(4,.v true (.int .i64 (trN v:Nat))),(5,.v true (.int .i64 (cnt 0:Nat)))],mem:=[]} a w) ?_ ?_
 ·have w1:IntKind.i64.wrap ((b:Int)-1)=(b:Int)-1:=by rw [QV] <;> omega
  refine zs3 (ρ:=fun _=>[.v true (.int .i64 b)]) w1 (o:=by repeat' first|exact hL|trivial|constructor) (k:=?_)
  refine QQ.loopB (fun i:Nat => {nt:=22,env:=[(0,.v false (QZ x)),(6,.v true (.int .i64 ((i:Int)-1))),(4,.v true (.int .i64 ((if v/2^i=0 then 0 else i+trN (v/2^i):Nat):Int))),(5,.v true (.int .i64 (cnt i:Nat)))],mem:=[]}) (fun i=>i≤b) (fun i=>i) b (Nat.le_refl _) (fun a w h=>by
   have:=Rel.keep [0,6,4,5] [] h
   rw [Nat.div_eq_of_lt hvb,if_pos rfl,hcnt.2]
   exact this) ?_
  intro i hi
  refine QQ.seq ?_
  rcases i with _|i
  ·rw [Nat.pow_zero,Nat.div_one,Nat.zero_add]
   refine zs0 ?_
   refine QQ.condF rfl (QQ.exit ⟨rfl,fun a w h=>?_⟩)
   have:=Rel.keep [4,5] [] h
   have e:(if v=0 then 0 else trN v)=trN v:=by
    split
    ·next h=>rw [h];rfl
    ·rfl
   rw [←e]
   exact this
  ·have e1:(((i+1:Nat):Int)-1)=(i:Int):=by omega
   rw [e1]
   have hBi:=hB i (by omega)
   have hci:=hcb (i+1) (by omega)
   have hc1:cnt i=(if VE v i=true then 1 else 0)+cnt (i+1):=by rcases hcnt.1 i with h|h;exact h;omega
   have wk:IntKind.i64.wrap ((i:Int)-1)=(i:Int)-1:=by rw [QV] <;> omega
   have wc:IntKind.i64.wrap ((cnt (i+1):Int)+1)=((cnt (i+1)+1:Nat):Int):=by rw [QV] <;> omega
   refine zs0 ?_
   refine QQ.condT rfl (QQ.skip ?_)
   refine QQ.next (fun σ=>∀a w,Rel cx w0 σ a w→Rel cx w0 {nt:=22,env:=[(0,.v false (QZ x)),(6,.v true (.int .i64 (i:Int))),(4,.v true (.int .i64 ((if v/2^i=0 then 0 else i+trN (v/2^i):Nat):Int))),(5,.v true (.int .i64 (cnt i:Nat)))],mem:=[]} a w) ?_ ?_
   ·refine QQ.blockN ?_
    cases hbt:VE v i with
    | true =>
      rw [hbt] at hBi
      rw [hbt,if_pos rfl] at hc1
      have hbit:v/2^i%2=1:=of_decide_eq_true hbt
      have e2:(if v/2^i=0 then 0 else i+trN (v/2^i))=i:=by rw [if_neg (by omega),tr_down hbit,Nat.add_zero]
      rw [e2,hc1,Nat.add_comm 1]
      refine zs2 (ρ:=fun _=>[.v true (.bool true)]) (o:=by repeat' first|exact hBi|trivial|constructor) (k:=?_)
      refine QQ.condT rfl ?_
      refine zs0 ?_
      refine zr1 wc ?_
      exact fun a w h=>Rel.keep [0,6,4,5] [] h
    | false =>
      rw [hbt] at hBi
      rw [hbt,if_neg (by simp),Nat.zero_add] at hc1
      have hbit:v/2^i%2=0:=by have:=of_decide_eq_false hbt;omega
      have e2:(if v/2^i=0 then 0 else i+trN (v/2^i))=(if v/2^(i+1)=0 then 0 else i+1+trN (v/2^(i+1))):=by
       have hs:v/2^(i+1)=v/2^i/2:=by rw [Nat.pow_succ,Nat.div_div_eq_div_mul]
       by_cases h0:v/2^(i+1)=0
       ·rw [if_pos h0,if_pos (by omega)]
       ·rw [if_neg h0,if_neg (by omega),tr_up hbit h0];omega
      rw [e2,hc1]
      refine zs2 (ρ:=fun _=>[.v true (.bool false)]) (o:=by repeat' first|exact hBi|trivial|constructor) (k:=?_)
      exact QQ.condF rfl (QQ.skip fun a w h=>Rel.keep [0,6,4,5] [] h)
   ·intro σ hσ
    refine QQ.from hσ ?_
    refine zr1 wk ?_
    exact ⟨i,(by show i≤b;omega),(show i<i+1 by omega),fun a w h=>Rel.keep [0,6,4,5] [] h⟩
 ·intro σ hσ
  refine QQ.from hσ ?_
  refine zs0 ?_
  exact QQ.ret (QK.vs rfl (by exact ⟨⟨rfl,id⟩,⟨rfl,id⟩,trivial⟩) rfl)
theorem odd_ok (neg:Bool) (e:Int) (m:Nat) (hm:(QX m).length<9000) (he : -4611686018427380000<e∧e<4611686018427380000):QU Tryz.prog 115 [.v (YG 1 neg e m)] [.v true (QZ (QX (m/2^trN m))),.v true (.int .i64 (e+trN m))]:=by
 obtain ⟨o,hB⟩:=Bits_ok (QX m) (by omega) (QY _).1
 rw [(QY _).2.2] at hB
 have htl:trN m≤64*(QX m).length:=by
  rcases Nat.eq_zero_or_pos m with h0|h0
  ·rw [h0];exact Nat.zero_le _
  ·have:=JZ (v:=m) (k:=64*(QX m).length) h0 (by have:=UY (QY m).1;rw [(QY m).2.2] at this;exact this)
   omega
 have hR:=XB (QX m) (trN m) (by omega) (by omega) (QY _).1
 rw [(QY _).2.2] at hR
 unfold YG
 obtain ⟨t,ht⟩ : ∃t,t=trN m:=⟨_,rfl⟩
 obtain ⟨L,hL⟩ : ∃L,L=QX m:=⟨_,rfl⟩
 rw [←ht] at hB hR htl ⊢
 obtain ⟨Q,hQ⟩ : ∃Q,Q=QX (m/2^t):=⟨_,rfl⟩
 rw [←hL] at hB hR hm htl ⊢
 rw [←hQ] at hR ⊢
 have w1:IntKind.i64.wrap (e+(t:Int))=e+t:=by rw [QV] <;> omega
 refine QU.of Tryz.func115 rfl rfl fun cx w0=>?_
 rw [show Tryz.f115.ntmps=20 from rfl]
 refine zs0 ?_
 refine zs2 (ρ:=fun _=>[.v true (.int .i64 t),.v true (.int .i64 o)]) (o:=by repeat' first|exact hB|trivial|constructor) (k:=?_)
 refine zd3 [] (ρ:=fun _=>[.v true (QZ Q)]) w1 (o:=by repeat' first|exact hR|trivial|constructor) (k:=?_)
 exact QQ.ret (QK.vs rfl (by exact ⟨⟨rfl,id⟩,⟨rfl,id⟩,trivial⟩) rfl)
theorem B8 (neg:Bool) (e:Int) (m:Nat) (hm:(QX m).length<9000) (he : -4611686018427380000<e∧e<4611686018427380000):QU Tryz.prog 72 [.v (YG 1 neg e m)] [.v true (YG 1 neg (e+trN m) (m/2^trN m))]:=by
 have hO:=odd_ok neg e m hm he
 unfold YG at hO ⊢
 obtain ⟨t,ht⟩ : ∃t,t=e+(trN m:Int):=⟨_,rfl⟩
 obtain ⟨L,hL⟩ : ∃L,L=QX m:=⟨_,rfl⟩
 obtain ⟨Q,hQ⟩ : ∃Q,Q=QX (m/2^trN m):=⟨_,rfl⟩
 rw [←ht,←hL,←hQ] at hO
 rw [←ht,←hL,←hQ]
 refine QU.of Tryz.func72 rfl rfl fun cx w0=>?_
 rw [show Tryz.f72.ntmps=23 from rfl]
 refine zs0 ?_
 refine QQ.seq ?_
 refine zs0 ?_
 refine QQ.condF rfl (QQ.skip ?_)
 refine zs2 (ρ:=fun _=>[.v true (QZ Q),.v true (.int .i64 t)]) (o:=by repeat' first|exact hO|trivial|constructor) (k:=?_)
 refine zs0 ?_
 exact QQ.ret (QK.vs rfl (by exact ⟨⟨rfl,id⟩,trivial⟩) rfl)
theorem fCanon0_ok (k:Nat) (neg:Bool) (hk:k≠1):QU Tryz.prog 72 [.v (YG k neg 0 0)] [.v true (YG k neg 0 0)]:=by
 rw [X7]
 have g : ¬(k:Int)=1:=by omega
 refine QU.of Tryz.func72 rfl rfl fun cx w0=>?_
 rw [show Tryz.f72.ntmps=23 from rfl]
 refine zs0 ?_
 refine QQ.seq ?_
 refine zs1 g ?_
 refine QQ.condT rfl ?_
 refine zs0 ?_
 exact QQ.ret (QK.vs rfl (by exact ⟨⟨rfl,id⟩,trivial⟩) rfl)
def FltC (k:Nat) (e:Int) (m:Nat):Prop:=(k=1∧trN m=0∧0<m∧(QX m).length<9000 ∧ -4611686018427380000<e∧e<4611686018427380000)∨(k≠1∧e=0∧m=0)
theorem FltC.canon {k:Nat} {neg:Bool} {e:Int} {m:Nat} (h:FltC k e m):QU Tryz.prog 72 [.v (YG k neg e m)] [.v true (YG k neg e m)]:=by
 rcases h with ⟨rfl,h1,h2,h3,h4⟩|⟨h1,rfl,rfl⟩
 ·have:=B8 neg e m h3 h4
  rw [h1,Nat.pow_zero,Nat.div_one] at this
  rw [show e+((0:Nat):Int)=e from by omega] at this
  exact this
 ·exact fCanon0_ok k neg h1
theorem FltC.len {k:Nat} {e:Int} {m:Nat} (h:FltC k e m):(QX m).length<100000:=by
 rcases h with ⟨_,_,_,h,_⟩|⟨_,_,rfl⟩
 ·omega
 ·decide
def lwD (x:List Int) (s j:Nat):Int:=if s<64*j+64 then (((x.getD j 0).toNat%2^(s-64*j):Nat):Int) else x.getD j 0
def lwW (x:List Int) (s k:Nat):List Int:=(List.range k).map (lwD x s)
theorem lwW_succ (x:List Int) (s k:Nat):lwW x s (k+1)=lwW x s k++[lwD x s k]:=by rw [lwW,List.range_succ,List.map_append];rfl
theorem lwW_len (x:List Int) (s k:Nat):(lwW x s k).length=k:=by rw [lwW,List.length_map,List.length_range]
theorem lwD_ok {x:List Int} (ox:okW x) (s j:Nat):0≤lwD x s j∧lwD x s j<18446744073709551616:=by
 have h:=Qy ox j
 unfold lwD
 split
 ·have:=Nat.mod_le (x.getD j 0).toNat (2^(s-64*j))
  omega
 ·exact h
theorem lwW_ok {x:List Int} (ox:okW x) (s k:Nat):okW (lwW x s k):=fun n hn=>by
 obtain ⟨j,_,rfl⟩:=List.mem_map.1 hn
 exact lwD_ok ox s j
theorem Eq (k:Nat):(18446744073709551616:Nat)^k=2^(64*k):=by rw [Nat.pow_mul]
theorem lwW_val {x:List Int} (ox:okW x) (s:Nat) : ∀k,k≤x.length→64*k<s+64→val (lwW x s k)=val (x.take k)%2^s
 | 0,_,_=>by simp [lwW,val]
 | k+1,hk,hs=>by
   have ih:=lwW_val ox s k (by omega) (by omega)
   have hlt:=ZY (Y5 ox k)
   rw [List.length_take,Nat.min_eq_left (by omega),Eq] at hlt
   have hks:2^(64*k)≤2^s:=Nat.pow_le_pow_right (by decide) (by omega)
   rw [Nat.mod_eq_of_lt (by omega)] at ih
   rw [lwW_succ,ZK,ih,lwW_len,ZF,Eq]
   obtain ⟨u,hu,hu64⟩:=Xz (Qy ox k)
   have hs2:(2:Nat)^s=2^(64*k)*2^(s-64*k):=by rw [←Nat.pow_add,show 64*k+(s-64*k)=s from by omega]
   have hP:0<2^(64*k):=Nat.pow_pos (by decide)
   have e1:val [lwD x s k]=u%2^(s-64*k):=by
    unfold lwD
    rw [hu,Int.toNat_natCast]
    split
    ·rw [val,val,Int.toNat_natCast,Nat.mul_zero,Nat.add_zero]
    ·have:u<2^(s-64*k):=Nat.lt_of_lt_of_le hu64 (by
      have h6:(2:Nat)^64≤2^(s-64*k):=Nat.pow_le_pow_right (by decide) (by omega)
      exact h6)
     rw [Nat.mod_eq_of_lt this]
     simp [val]
   rw [e1,hu,Int.toNat_natCast,hs2,Nat.mod_mul,Nat.add_mul_mod_self_left,Nat.mod_eq_of_lt hlt,Nat.add_mul_div_left _ _ hP,Nat.div_eq_of_lt hlt,Nat.zero_add]
set_option maxHeartbeats 4000000 in
theorem zB (x:List Int) (s:Nat) (hx:x.length<40000) (hs:s<1000000) (ox:okW x):QU Tryz.prog 157 [.v (QZ x),.v (.int .i64 s)] [.v true (QZ (QX (val x%2^s)))]:=by
 obtain ⟨W,hW⟩ : ∃W,W=lwW x s:=⟨_,rfl⟩
 have Ws : ∀k,W (k+1)=W k++[lwD x s k]:=fun k=>by rw [hW,lwW_succ]
 have Wl : ∀k,(W k).length=k:=fun k=>by rw [hW,lwW_len]
 have W0:W 0=[]:=List.eq_nil_of_length_eq_zero (Wl 0)
 have Wo : ∀k,okW (W k):=fun k=>by rw [hW];exact lwW_ok ox s k
 have Wv : ∀k,k≤x.length→64*k<s+64→val (W k)=val (x.take k)%2^s:=fun k h1 h2=>by rw [hW];exact lwW_val ox s k h1 h2
 have Dd : ∀k,lwD x s k=if s<64*k+64 then (((x.getD k 0).toNat%2^(s-64*k):Nat):Int) else x.getD k 0:=fun k=>rfl
 obtain ⟨Dk,hDk⟩ : ∃D,D=lwD x s:=⟨_,rfl⟩
 have Ws : ∀k,W (k+1)=W k++[Dk k]:=fun k=>by rw [Ws,hDk]
 have Dd : ∀k,Dk k=if s<64*k+64 then (((x.getD k 0).toNat%2^(s-64*k):Nat):Int) else x.getD k 0:=fun k=>by rw [hDk];exact Dd k
 clear hW hDk
 refine QU.of Tryz.func157 rfl rfl fun cx w0=>?_
 rw [show Tryz.f157.ntmps=42 from rfl]
 refine zs0 ?_
 refine zs0 ?_
 refine QQ.next (fun σ=>∃k,k≤x.length∧val (W k)=val x%2^s ∧ ∀a w,Rel cx w0 σ a w→Rel cx w0 {nt:=42,env:=[(5,mnA k)],mem:=mnB W k} a w) ?_ ?_
 ·refine zs0 ?_
  refine QQ.loopB (fun k:Nat => {nt:=42,env:=[(6,.v true (.int .i64 k)),(5,mnA k),(0,.v false (QZ x)),(1,.v true (.int .i64 s))],mem:=mnB W k}) (fun k=>k≤x.length∧64*k<s+64) (fun k=>x.length-k) 0 ⟨Nat.zero_le _,by omega⟩ (fun a w h=>Rel.keep [6,5,0,1] [] h) ?_
  rintro k ⟨hk,hks⟩
  have w64:IntKind.i64.wrap (64*(k:Int))=64*(k:Int):=by rw [QV] <;> omega
  refine QQ.seq ?_
  by_cases hend:k=x.length
  ·have g : ¬(k:Int)<x.length:=by omega
   refine zs1 g ?_
   refine QQ.condF rfl (QQ.exit ⟨rfl,k,hk,?_,fun a w h=>Rel.less [5] (fun _=>rfl) h⟩)
   rw [Wv k hk hks,hend,List.take_length]
  have g:(k:Int)<x.length:=by omega
  by_cases hstop:s≤64*k
  ·have g2 : ¬(64*(k:Int)<(s:Int)):=by omega
   refine zs1 (an g <| an g2 <| w64) ?_
   refine QQ.condF rfl (QQ.exit ⟨rfl,k,hk,?_,fun a w h=>Rel.less [5] (fun _=>rfl) h⟩)
   rw [Wv k hk hks]
   have hc:=UG x k hk
   have:(18446744073709551616:Nat)^k=2^s*2^(64*k-s):=by rw [Eq,←Nat.pow_add,show s+(64*k-s)=64*k from by omega]
   rw [hc,this,Nat.mul_assoc,Nat.add_mul_mod_self_left]
  have g2:64*(k:Int)<(s:Int):=by omega
  obtain ⟨u,hu,hu64⟩:=Xz (Qy ox k)
  have gX:x[k]?=some (u:Int):=by rw [QD (by omega),hu]
  have hWs:=Ws k
  have hWl:=Wl k
  have hDd:=Dd k
  rw [hu,Int.toNat_natCast] at hDd
  obtain ⟨d,hd⟩ : ∃d,d=Dk k:=⟨_,rfl⟩
  rw [←hd] at hWs hDd
  have wk:IntKind.i64.wrap ((k:Int)+1)=((k+1:Nat):Int):=by rw [QV] <;> omega
  have wr:IntKind.i64.wrap ((s:Int)-64*(k:Int))=((s-64*k:Nat):Int):=by rw [QV] <;> omega
  refine zs1 (an g <| an g2 <| w64) ?_
  refine QQ.condT rfl (QQ.skip ?_)
  refine QQ.next (fun σ=>∀a w,Rel cx w0 σ a w→Rel cx w0 {nt:=42,env:=[(6,.v true (.int .i64 k)),(5,mnA (k+1)),(0,.v false (QZ x)),(1,.v true (.int .i64 s))],mem:=mnB W (k+1)} a w) ?_ ?_
  ·refine QQ.blockN ?_
   refine zs1 gX ?_
   refine QQ.next (fun σ=>∀a w,Rel cx w0 σ a w→Rel cx w0 {nt:=42,env:=[(7,.v true (.int .u64 d)),(6,.v true (.int .i64 k)),(5,mnA k),(0,.v false (QZ x)),(1,.v true (.int .i64 s))],mem:=mnB W k} a w) ?_ ?_
   ·by_cases h64:s<64*k+64
    ·rw [if_pos h64] at hDd
     have g3:((s-64*k:Nat):Int)<64:=by omega
     obtain ⟨r,hr⟩ : ∃r,r=s-64*k:=⟨_,rfl⟩
     rw [←hr] at g3 wr hDd
     have hsh:=zD 1 r (by omega)
     have hP:1*2^r%18446744073709551616=2^r:=by rw [Nat.one_mul];exact Nat.mod_eq_of_lt (Nat.lt_of_lt_of_le (Nat.pow_lt_pow_right (a:=2) (by decide) (show r<64 by omega)) (by decide))
     rw [hP] at hsh
     have hsh:IntKind.u64.wrap (1*2^min r 64)=((2^r:Nat):Int):=hsh
     have hm:=Gq u (2^r)
     have hp0 : ¬((2^r:Nat):Int)=0:=by have:=Nat.pow_pos (a:=2) (n:=r) (by decide);omega
     rw [←hDd] at hm
     obtain ⟨PP,hPP⟩ : ∃P:Int,P=((2^r:Nat):Int):=⟨_,rfl⟩
     rw [←hPP] at hsh hm hp0
     have wd:IntKind.u64.wrap d=d:=by
      have:=Nat.mod_le u (2^r)
      rw [QE];omega
     refine zs1 (an w64 <| an wr <| g3) ?_
     refine QQ.condT rfl ?_
     refine zr1 (an w64 <| an wr <| an hsh <| an hm <| an hp0 <| wd) ?_
     exact fun a w h=>Rel.less [7,6,5,0,1] (fun _=>rfl) h
    ·rw [if_neg h64] at hDd
     have g3 : ¬((s-64*k:Nat):Int)<64:=by omega
     rw [hDd]
     refine zs1 (an w64 <| an wr <| g3) ?_
     exact QQ.condF rfl (QQ.skip fun a w h=>Rel.less [7,6,5,0,1] (fun _=>rfl) h)
   ·intro σ hσ
    refine QQ.from hσ ?_
    rcases k with _|k
    ·refine QQ.region (Px:=px) (T:=TT) (ρ:=fun _=>[]) TTe (by simp (maxSteps:=100000) (disch:=omega) only [go_sem,V.isAgg,V.flat,↓reduceIte,Nat.reduceAdd,Nat.reduceSub,Nat.reduceLT,Nat.reduceEqDiff,reduceCtorEq,Nat.reduceLeDiff,Nat.reduceBEq,Nat.reduceMul,Int.reduceToNat,mnA,mnB];rfl) (by repeat' first|exact trivial|constructor) ?_
     intro a w h
     have:=Rel.ren (s:=39) (s':=300) (Rel.keep [6,5,0,1] [39] h) (by decide) rfl rfl
     rw [mnB,if_neg (by omega),hWs,W0,mnA,if_neg (by omega)]
     exact this
    ·rw [mnA_s,mnB_s]
     refine zr1 hWl ?_
     intro a w h
     have:=Rel.ren (s:=39) (s':=300) (Rel.keep [6,5,0,1] [39] h) (by decide) rfl rfl
     rw [mnB,if_neg (by omega),hWs,mnA,if_neg (by omega),List.map_append]
     exact this
  ·intro σ hσ
   refine QQ.from hσ ?_
   refine zr1 wk ?_
   exact ⟨k+1,⟨(by show k+1≤x.length;omega),(by show 64*(k+1)<s+64;omega)⟩,(show x.length-(k+1)<x.length-k by omega),fun a w h=>Rel.less [6,5,0,1] (fun _=>rfl) h⟩
 ·rintro σ ⟨k,hk,hv,hσ⟩
  refine QQ.from hσ ?_
  have hT:=J4 (W k) (by rw [Wl];omega) (Wo k)
  rw [hv] at hT
  obtain ⟨D,hD⟩ : ∃D,D=QX (val x%2^s):=⟨_,rfl⟩
  rw [←hD] at hT ⊢
  have hWl:=Wl k
  rcases k with _|k
  ·rw [W0] at hT
   have hT:QU Tryz.prog 150 [.v (.sl 1 [])] [.v true (QZ D)]:=hT
   refine QQ.step (Px:=px) (T:=TT) (ρ:=fun _=>[.v true (QZ D)]) TTe (by simp (maxSteps:=100000) (disch:=omega) only [go_sem,V.isAgg,V.flat,↓reduceIte,Nat.reduceAdd,Nat.reduceSub,Nat.reduceLT,Nat.reduceEqDiff,reduceCtorEq,Nat.reduceLeDiff,Nat.reduceBEq,Nat.reduceMul,Int.reduceToNat,mnA,mnB];rfl) (by first|exact hT|(repeat' first|exact trivial|exact hT|constructor)) ?_
   exact QQ.ret (QK.vs rfl (by exact ⟨⟨rfl,id⟩,trivial⟩) rfl)
  ·rw [mnA_s,mnB_s]
   have htk:List.take (k+1) (List.map (fun n=>V.int .u64 n) (W (k+1)))=List.map (fun n=>V.int .u64 n) (W (k+1)):=List.take_of_length_le (by rw [List.length_map,hWl];exact Nat.le_refl _)
   refine zs3 (ρ:=fun _=>[.v true (QZ D)]) htk (o:=by repeat' first|exact hT|trivial|constructor) (k:=?_)
   exact QQ.ret (QK.vs rfl (by exact ⟨⟨rfl,id⟩,trivial⟩) rfl)
def DB (neg:Bool) (num den:Nat) (e:Int):V:=.agg [.bool neg,QZ (QX num),QZ (QX den),.int .i64 e,.int .i64 1]
theorem bl_ub {v:Nat} (h:0<v):v<2^blN v:=by unfold blN;rw [if_neg (by omega)];exact Nat.lt_log2_self
set_option maxHeartbeats 2000000 in
theorem rLog2_ok (num den:Nat) (e x:Int) (hn:0<num) (hd:0<den) (hnl:(QX num).length<5000) (hdl:(QX den).length<5000) (hE:IsE num den e) (hx : -4611686018400000000<x∧x<4611686018400000000) :
 QU Tryz.prog 264 [.v (QZ (QX num)),.v (QZ (QX den)),.v (.int .i64 x)] [.v true (.int .i64 (e+x))]:=by
 have hLn:=UC (QX num) (by omega) (QY _).1
 have hLd:=UC (QX den) (by omega) (QY _).1
 rw [JF (QY _).1,(QY _).2.2] at hLn hLd
 have vb : ∀v,v<2^(64*(QX v).length):=fun v=>by have:=UY (QY v).1;rw [(QY v).2.2] at this;exact this
 have hbn:blN num≤64*(QX num).length:=X6 (vb num)
 have hbd:blN den≤64*(QX den).length:=X6 (vb den)
 obtain ⟨n1,n2⟩:=U3 hn
 obtain ⟨d1,d2⟩:=U3 hd
 have n3:=bl_ub hn
 have d3:=bl_ub hd
 obtain ⟨a,ha⟩ : ∃a,a=blN num:=⟨_,rfl⟩
 obtain ⟨b,hb⟩ : ∃b,b=blN den:=⟨_,rfl⟩
 rw [←ha] at hLn hbn n1 n2 n3
 rw [←hb] at hLd hbd d1 d2 d3
 have w1:IntKind.i64.wrap ((a:Int)-(b:Int))=(a:Int)-b:=by rw [QV] <;> omega
 obtain ⟨I,J,hIJ,hI,hJ⟩ : ∃I J:Nat,(I:Int)-J=(a:Int)-b∧I=((a:Int)-b).toNat∧J=(-((a:Int)-b)).toNat:=⟨_,_,by omega,rfl,rfl⟩
 have hup:num*2^J<den*2^(I+1):=by
  have h1:num*2^J<2^a*2^J:=(Nat.mul_lt_mul_right (Nat.pow_pos (by decide))).2 n3
  have h2:2^(b-1)*2^(I+1)≤den*2^(I+1):=Nat.mul_le_mul_right _ d1
  rw [←Nat.pow_add] at h1 h2
  have h3:(2:Nat)^(a+J)≤2^(b-1+(I+1)):=Nat.pow_le_pow_right (by decide) (by omega)
  omega
 have hlo:den*2^I≤num*2^(J+1):=by
  have h1:den*2^I≤2^b*2^I:=Nat.mul_le_mul_right _ (Nat.le_of_lt d3)
  have h2:2^(a-1)*2^(J+1)≤num*2^(J+1):=Nat.mul_le_mul_right _ n1
  rw [←Nat.pow_add] at h1 h2
  have h3:(2:Nat)^(b+I)≤2^(a-1+(J+1)):=Nat.pow_le_pow_right (by decide) (by omega)
  omega
 have hcase:(num*2^J<den*2^I∧e=(a:Int)-b-1)∨(¬num*2^J<den*2^I∧e=(a:Int)-b):=by
  by_cases h:num*2^J<den*2^I
  ·refine .inl ⟨h,isE_uniq hE (isE_of (i:=I) (j:=J+1) (by omega) hlo ?_)⟩
   rw [Nat.pow_succ,Nat.pow_succ,←Nat.mul_assoc,←Nat.mul_assoc]
   omega
  ·exact .inr ⟨h,isE_uniq hE (isE_of (i:=I) (j:=J) (by omega) (by omega) hup)⟩
 have wx:IntKind.i64.wrap (e+x)=e+x:=by rw [QV] <;> omega
 have lb : ∀(v k:Nat),v<2^k→k≤700000→(QX v).length<30000:=fun v k hv hk=>by
  have:=ZU (v:=v) (m:=k/64+1) (by
   rw [show (18446744073709551616:Nat)=2^64 from rfl,←Nat.pow_mul]
   exact Nat.lt_of_lt_of_le hv (Nat.pow_le_pow_right (by decide) (by omega)))
  omega
 refine QU.of Tryz.func264 rfl rfl fun cx w0=>?_
 rw [show Tryz.f264.ntmps=35 from rfl]
 refine zs0 ?_
 refine zs3 (ρ:=fun d=>if d=11 then [.v true (.int .i64 a)] else [.v true (.int .i64 b)]) w1 (o:=by repeat' first|exact hLn|exact hLd|trivial|constructor) (k:=?_)
 refine zs0 ?_
 have tail : ∀(A B:List Int) (na nb:Bool),QU Tryz.prog 170 [.v (QZ A),.v (QZ B)] [.v true (.int .i64 (Q7 (num*2^J) (den*2^I)))]→QQ Tryz.prog none cx w0 (ZH Tryz.f264 [1,1,1,1]) {nt:=35,env:=[(2,.v true (.int .i64 x)),(7,.v true (.int .i64 ((a:Int)-b))),(8,.v na (QZ A)),(9,.v nb (QZ B))],mem:=[]} (fnQ Tryz.prog Tryz.f264 [.v true (.int .i64 (e+x))]):=fun A B na nb hC=>by
  refine QQ.seq ?_
  rcases hcase with ⟨h1,h2⟩|⟨h1,h2⟩
  ·have hc:Q7 (num*2^J) (den*2^I) = -1:=by rw [Q7,if_pos h1]
   rw [hc] at hC
   have w2:IntKind.i64.wrap ((a:Int)-(b:Int)-1)=e:=by rw [h2,QV] <;> omega
   refine zs2 (ρ:=fun _=>[.v true (.int .i64 (-1))]) (o:=by repeat' first|exact hC|trivial|constructor) (k:=?_)
   refine QQ.condT rfl ?_
   refine zr1 w2 ?_
   refine zs1 wx ?_
   exact QQ.ret (QK.vs rfl (by exact ⟨⟨rfl,id⟩,trivial⟩) rfl)
  ·have hc : ¬Q7 (num*2^J) (den*2^I)<0:=by rw [Q7,if_neg h1];split <;> omega
   obtain ⟨c,hcc⟩ : ∃c,c=Q7 (num*2^J) (den*2^I):=⟨_,rfl⟩
   rw [←hcc] at hC hc
   rw [←h2]
   refine zs3 (ρ:=fun _=>[.v true (.int .i64 c)]) hc (o:=by repeat' first|exact hC|trivial|constructor) (k:=?_)
   refine QQ.condF rfl (QQ.skip ?_)
   refine zs1 wx ?_
   exact QQ.ret (QK.vs rfl (by exact ⟨⟨rfl,id⟩,trivial⟩) rfl)
 by_cases hpos:0<(a:Int)-(b:Int)
 ·have hJ0:J=0:=by omega
  have hS:=Uq (QX den) I (by omega) (by omega) (QY _).1
  rw [(QY _).2.2] at hS
  have hl2:=lb (den*2^I) (b+I) (by rw [Nat.pow_add];exact (Nat.mul_lt_mul_right (Nat.pow_pos (by decide))).2 d3) (by omega)
  have hC:=F8 (QX num) (QX (den*2^I)) (by omega) (by omega) (QY _).1 (QY _).1
  rw [(QY _).2.2,(QY (den*2^I)).2.2] at hC
  have hnJ:num*2^J=num:=by rw [hJ0,Nat.pow_zero,Nat.mul_one]
  have hT:=tail (QX num) (QX (den*2^I)) false true (by rw [hnJ];exact hC)
  obtain ⟨B,hB⟩ : ∃B,B=QX (den*2^I):=⟨_,rfl⟩
  rw [←hB] at hS hT
  have eI:(a:Int)-(b:Int)=(I:Int):=by omega
  rw [eI] at hpos hT
  rw [eI]
  clear tail hC hB hE hup hlo hcase
  refine QQ.next (fun σ=>∀aa w,Rel cx w0 σ aa w→Rel cx w0 {nt:=35,env:=[(2,.v true (.int .i64 x)),(7,.v true (.int .i64 (I:Int))),(8,.v false (QZ (QX num))),(9,.v true (QZ B))],mem:=[]} aa w) ?_ fun σ hσ=>QQ.from hσ hT
  refine zs1 hpos ?_
  refine QQ.condT rfl ?_
  refine zr2 (ρ:=fun _=>[.v true (QZ B)]) (o:=by repeat' first|exact hS|trivial|constructor) (k:=?_)
  exact fun a w h=>Rel.keep [2,7,8,9] [] h
 ·have hI0:I=0:=by omega
  have hS:=Uq (QX num) J (by omega) (by omega) (QY _).1
  rw [(QY _).2.2] at hS
  have hl2:=lb (num*2^J) (a+J) (by rw [Nat.pow_add];exact (Nat.mul_lt_mul_right (Nat.pow_pos (by decide))).2 n3) (by omega)
  have hC:=F8 (QX (num*2^J)) (QX den) (by omega) (by omega) (QY _).1 (QY _).1
  rw [(QY _).2.2,(QY den).2.2] at hC
  have hdI:den*2^I=den:=by rw [hI0,Nat.pow_zero,Nat.mul_one]
  have hT:=tail (QX (num*2^J)) (QX den) true false (by rw [hdI];exact hC)
  obtain ⟨B,hB⟩ : ∃B,B=QX (num*2^J):=⟨_,rfl⟩
  rw [←hB] at hS hT
  have eJ:(a:Int)-(b:Int) = -(J:Int):=by omega
  rw [eJ] at hpos hT
  rw [eJ]
  have wn:IntKind.i64.wrap (0 - -(J:Int))=(J:Int):=by rw [QV] <;> omega
  clear tail hC hB hE hup hlo hcase
  refine QQ.next (fun σ=>∀aa w,Rel cx w0 σ aa w→Rel cx w0 {nt:=35,env:=[(2,.v true (.int .i64 x)),(7,.v true (.int .i64 (-(J:Int)))),(8,.v true (QZ B)),(9,.v false (QZ (QX den)))],mem:=[]} aa w) ?_ fun σ hσ=>QQ.from hσ hT
  refine zs1 hpos ?_
  refine QQ.condF rfl ?_
  refine zr3 (ρ:=fun _=>[.v true (QZ B)]) wn (o:=by repeat' first|exact hS|trivial|constructor) (k:=?_)
  exact fun a w h=>Rel.keep [2,7,8,9] [] h
theorem floor2_ok (a:Int) (ha : -4611686018427387904<a∧a<4611686018427387904):QU Tryz.prog 263 [.v (.int .i64 a),.v (.int .i64 1)] [.v true (.int .i64 a)]:=by
 have h1:a.tdiv 1=a:=Int.tdiv_one a
 have h2:a.tmod 1=0:=Int.tmod_one a
 have w1:IntKind.i64.wrap a=a:=by rw [QV] <;> omega
 refine QU.of Tryz.func263 rfl rfl fun cx w0=>?_
 rw [show Tryz.f263.ntmps=16 from rfl]
 refine zs0 ?_
 refine zs1 (an h1 <| w1) ?_
 refine QQ.seq ?_
 refine zs1 h2 ?_
 refine QQ.condF rfl (QQ.skip ?_)
 refine zs0 ?_
 exact QQ.ret (QK.vs rfl (by exact ⟨⟨rfl,id⟩,trivial⟩) rfl)
theorem Exponent_ok (neg:Bool) (num den:Nat) (e x:Int) (hn:0<num) (hd:0<den) (hnl:(QX num).length<5000) (hdl:(QX den).length<5000) (hE:IsE num den e) (hx : -4611686018400000000<x∧x<4611686018400000000) (he : -1000000<e∧e<1000000) :
 QU Tryz.prog 231 [.v (DB neg num den x)] [.v true (.int .i64 (e+x))]:=by
 have h1:=rLog2_ok num den e x hn hd hnl hdl hE hx
 have h2:=floor2_ok (e+x) (by omega)
 obtain ⟨y,hy⟩ : ∃y,y=e+x:=⟨_,rfl⟩
 rw [←hy] at h1 h2 ⊢
 unfold DB
 obtain ⟨N,hN⟩ : ∃N,N=QX num:=⟨_,rfl⟩
 obtain ⟨D,hD⟩ : ∃D,D=QX den:=⟨_,rfl⟩
 rw [←hN,←hD] at h1 ⊢
 refine QU.of Tryz.func231 rfl rfl fun cx w0=>?_
 rw [show Tryz.f231.ntmps=13 from rfl]
 refine zs0 ?_
 refine zd2 [] (ρ:=fun d=>if d=9 then [.v true (.int .i64 y)] else [.v true (.int .i64 y)]) (o:=by repeat' first|exact h1|exact h2|trivial|constructor) (k:=?_)
 exact QQ.ret (QK.vs rfl (by exact ⟨⟨rfl,id⟩,trivial⟩) rfl)
def StepsOk (num den:Nat) (d:Int) (N:Nat) (h b:Bool):Prop :=
 (∀r neg,rrN r neg N h b=fN r neg num den d)∧(h=false∧b=false↔A7 num den d=0)∧N=cutN num den d
theorem C6 {num den M DD:Nat} {d:Int} (hD:0<DD) (h1:M/DD=cutN num den d) (h2:Y6 (M%DD) DD=A7 num den d):StepsOk num den d (2*M/DD/2) (decide (2*M/DD%2=1)) (decide (2*M%DD≠0)):=by
 refine ⟨fun r neg=>?_,?_,?_⟩
 ·rw [(rr_eq (r:=r) (neg:=neg) (m:=M) hD).1,h1,h2];rfl
 ·rw [(rr_eq (r:=0) (neg:=false) (m:=M) hD).2,←h2]
  unfold Y6
  constructor
  ·intro h;rw [if_pos h]
  ·intro h
   split at h
   ·assumption
   ·unfold Q7 at h
    split at h <;> first|omega|(split at h <;> omega)
 ·rw [(FZ M DD hD).1,h1]
theorem E6 {v k:Nat} (h:(QX v).length≤600) (hk:k≤20001):(QX (v*2^k)).length≤1000:=by
 have h1:=ZY (QY v).1
 rw [(QY v).2.2] at h1
 have h2:v*2^k<18446744073709551616^((QX v).length+(k/64+1)):=by
  rw [Nat.pow_add]
  have h3:(2:Nat)^k≤18446744073709551616^(k/64+1):=by rw [Eq];exact Nat.pow_le_pow_right (by decide) (by omega)
  exact Nat.lt_of_le_of_lt (Nat.mul_le_mul_left _ h3) ((Nat.mul_lt_mul_right (Nat.pow_pos (by decide))).2 h1)
 have:=ZU h2
 omega
set_option maxHeartbeats 4000000 in
theorem rSteps2_ok (neg:Bool) (num den:Nat) (e s:Int) (hd:0<den) (hnl:(QX num).length≤600) (hdl:(QX den).length≤600) (hes:e-s≤20000∧s-e<900000) (he : -100000<e∧e<100000) :
 ∃N h b,StepsOk num den (e-s) N h b∧QU Tryz.prog 233 [.v (DB neg num den e),.v (.int .i64 s)] [.v true (G9 N h b)]:=by
 have w1:IntKind.i64.wrap (s-1)=s-1:=by rw [QV] <;> omega
 by_cases ha:0≤e-s+1
 ·-- a is not less than 0
  obtain ⟨a,haa⟩ : ∃a:Nat,e-s+1=a:=⟨(e-s+1).toNat,by omega⟩
  obtain ⟨X,hX⟩ : ∃X,X=num*2^a:=⟨_,rfl⟩
  obtain ⟨M,DD,hDD,hc1,hc2,hq,hx⟩ : ∃M DD,0<DD∧M/DD=cutN num den (e-s)∧Y6 (M%DD) DD=A7 num den (e-s)∧2*M/DD=X/den∧(2*M%DD≠0↔X%den≠0):=by
   rw [hX]
   rcases Nat.eq_zero_or_pos a with h0|h0
   ·have hc:=yB (num:=num) (den:=den) (i:=0) (j:=1) (d:=e-s) (by omega)
    rw [Nat.pow_zero,Nat.mul_one,Nat.pow_one] at hc
    refine ⟨num,den*2,by omega,hc.1,hc.2,?_,?_⟩
    ·rw [h0,Nat.pow_zero,Nat.mul_one,Nat.mul_comm 2,Nat.mul_div_mul_right _ _ (by decide)]
    ·rw [h0,Nat.pow_zero,Nat.mul_one,Nat.mul_comm 2,Nat.mul_mod_mul_right];omega
   ·have hc:=yB (num:=num) (den:=den) (i:=a-1) (j:=0) (d:=e-s) (by omega)
    rw [Nat.pow_zero,Nat.mul_one] at hc
    have e2:2*(num*2^(a-1))=num*2^a:=by rw [Nat.mul_left_comm,←Nat.pow_succ',show (a-1).succ=a from by omega]
    exact ⟨num*2^(a-1),den,hd,hc.1,hc.2,by rw [e2],by rw [e2]⟩
  refine ⟨_,_,_,C6 hDD hc1 hc2,?_⟩
  have hxd:decide (2*M%DD≠0)=decide (X%den≠0):=decide_eq_decide.2 hx
  rw [hq,hxd]
  clear hxd
  have hXl:=E6 (v:=num) (k:=a) hnl (by omega)
  have hL:=Uq (QX num) a (by omega) (by omega) (QY _).1
  rw [(QY _).2.2] at hL
  have hDM:=JH (QX (num*2^a)) (QX den) hXl (by omega) (QY _).1 (QY _).1 (by rw [(QY _).2.2];exact hd)
  rw [(QY (num*2^a)).2.2,(QY den).2.2] at hDM
  rw [←hX] at hXl hL hDM
  have hql:=Zk (Nat.div_le_self X den)
  have hrl:=Zk (Nat.mod_le X den)
  have hZ:=Vg (QX (X%den)) (by omega) (QY _).1
  rw [(QY _).2.2] at hZ
  have hR:=XB (QX (X/den)) 1 (by omega) (by omega) (QY _).1
  rw [(QY _).2.2,Nat.pow_one] at hR
  have hB:=F7 (QX (X/den)) 0 (by omega) (by omega) (QY _).1
  rw [(QY _).2.2,Kf] at hB
  have hR:QU Tryz.prog 158 [.v (QZ (QX (X/den))),.v (.int .i64 1)] [.v true (QZ (QX (X/den/2)))]:=hR
  have hB:QU Tryz.prog 173 [.v (QZ (QX (X/den))),.v (.int .i64 0)] [.v true (.bool (decide (X/den%2=1)))]:=hB
  have hzr:(!decide (X%den=0))=decide (X%den≠0):=by by_cases h:X%den=0 <;> simp [h]
  unfold G9 DB
  rw [←hzr]
  have w3:IntKind.i64.wrap (e-(s-1))=(a:Int):=by rw [QV] <;> omega
  have w2:IntKind.i64.wrap (1*(s-1))=s-1:=by rw [QV] <;> omega
  obtain ⟨NL,hNL⟩ : ∃L,L=QX num:=⟨_,rfl⟩
  obtain ⟨DL,hDL⟩ : ∃L,L=QX den:=⟨_,rfl⟩
  obtain ⟨XL,hXL⟩ : ∃L,L=QX X:=⟨_,rfl⟩
  obtain ⟨QL,hQL⟩ : ∃L,L=QX (X/den):=⟨_,rfl⟩
  obtain ⟨RL,hRL⟩ : ∃L,L=QX (X%den):=⟨_,rfl⟩
  obtain ⟨HL,hHL⟩ : ∃L,L=QX (X/den/2):=⟨_,rfl⟩
  obtain ⟨bb,hbb⟩ : ∃b,b=decide (X/den%2=1):=⟨_,rfl⟩
  obtain ⟨zz,hzz⟩ : ∃b,b=decide (X%den=0):=⟨_,rfl⟩
  rw [←hNL,←hXL] at hL
  rw [←hXL,←hDL,←hQL,←hRL] at hDM
  rw [←hRL,←hzz] at hZ
  rw [←hQL,←hHL] at hR
  rw [←hQL,←hbb] at hB
  rw [←hNL,←hDL,←hHL,←hbb,←hzz]
  have ga:(0:Int)≤(a:Int):=by omega
  clear hNL hDL hXL hQL hRL hHL hbb hzz hzr hql hrl hXl hX hc1 hc2 hq hx hDD hnl hdl
  refine QU.of Tryz.func233 rfl rfl fun cx w0=>?_
  rw [show Tryz.f233.ntmps=82 from rfl]
  refine zs0 ?_
  refine zs1 (an w1 <| an w2 <| w3) ?_
  refine zs0 ?_
  refine zs0 ?_
  refine QQ.next (fun σ=>∀a w,Rel cx w0 σ a w→Rel cx w0 {nt:=82,env:=[(2,.ptr 2 0 [] 0),(4,.ptr 4 0 [] 0),(6,.v true (QZ QL)),(7,.v true (.bool zz))],mem:=[(2,.box 205 (.v false (.agg [.bool neg,QZ NL,QZ DL,.int .i64 e,.int .i64 1]))),(4,.box 129 (.v true (.agg [.sl 1 [],.bool false,.bool false])))]} a w) ?_ ?_
  ·refine zs1 ga ?_
   refine QQ.condT rfl ?_
   refine zd2 [] (ρ:=fun d=>if d=27 then [.v true (QZ XL)] else [.v true (QZ QL),.v true (QZ RL)]) (o:=by repeat' first|exact hL|exact hDM|trivial|constructor) (k:=?_)
   refine zr2 (ρ:=fun _=>[.v true (.bool zz)]) (o:=by repeat' first|exact hZ|trivial|constructor) (k:=?_)
   exact fun a w h=>Rel.keep [2,4,6,7] [2,4] h
  ·intro σ hσ
   refine QQ.from hσ ?_
   refine QQ.seq ?_
   refine zs0 ?_
   refine QQ.condF rfl (QQ.skip ?_)
   refine zs2 (ρ:=fun d=>if d=76 then [.v true (QZ HL)] else [.v true (.bool bb)]) (o:=by repeat' first|exact hR|exact hB|trivial|constructor) (k:=?_)
   exact QQ.ret (QK.vs rfl (by exact ⟨⟨rfl,id⟩,trivial⟩) rfl)
 ·obtain ⟨j,hj⟩ : ∃j:Nat,e-s+1 = -(j:Int):=⟨(-(e-s+1)).toNat,by omega⟩
  have hc:=yB (num:=num) (den:=den) (i:=0) (j:=j+1) (d:=e-s) (by omega)
  rw [Nat.pow_zero,Nat.mul_one] at hc
  have hp1:0<2^(j+1):=Nat.pow_pos (by decide)
  have hp0:0<2^j:=Nat.pow_pos (by decide)
  have hDD:0<den*2^(j+1):=Nat.mul_pos hd hp1
  have hq:2*num/(den*2^(j+1))=num/den/2^j:=by
   rw [Nat.pow_succ,←Nat.mul_assoc,Nat.mul_comm 2,Nat.mul_div_mul_right _ _ (by decide),Nat.div_div_eq_div_mul]
  have hx:2*num%(den*2^(j+1))≠0 ↔ ¬(num%den=0∧num/den%2^j=0):=by
   rw [Nat.pow_succ,←Nat.mul_assoc,Nat.mul_comm 2,Nat.mul_mod_mul_right,Nat.mod_mul]
   constructor
   ·rintro h1 ⟨h2,h3⟩;rw [h2,h3] at h1;simp at h1
   ·intro h1 h2
    refine h1 ⟨by omega,?_⟩
    have h3:den*(num/den%2^j)=0:=by omega
    rcases Nat.mul_eq_zero.1 h3 with h|h <;> omega
  refine ⟨_,_,_,C6 hDD hc.1 hc.2,?_⟩
  have hxd:decide (2*num%(den*2^(j+1))≠0)=decide (¬(num%den=0∧num/den%2^j=0)):=decide_eq_decide.2 hx
  rw [hq,hxd]
  clear hxd
  have hDM:=JH (QX num) (QX den) (by omega) (by omega) (QY _).1 (QY _).1 (by rw [(QY _).2.2];exact hd)
  rw [(QY num).2.2,(QY den).2.2] at hDM
  have hdl1:=Zk (Nat.div_le_self num den)
  have hrl:=Zk (Nat.mod_le num den)
  have hSh:=XB (QX (num/den)) j (by omega) (by omega) (QY _).1
  rw [(QY _).2.2] at hSh
  have hLo:=zB (QX (num/den)) j (by omega) (by omega) (QY _).1
  rw [(QY _).2.2] at hLo
  have hql:=Zk (Nat.div_le_self (num/den) (2^j))
  have hll:=Zk (Nat.mod_le (num/den) (2^j))
  have hZ:=Vg (QX (num%den)) (by omega) (QY _).1
  rw [(QY _).2.2] at hZ
  have hZ2:=Vg (QX (num/den%2^j)) (by omega) (QY _).1
  rw [(QY _).2.2] at hZ2
  have hR:=XB (QX (num/den/2^j)) 1 (by omega) (by omega) (QY _).1
  rw [(QY _).2.2,Nat.pow_one] at hR
  have hB:=F7 (QX (num/den/2^j)) 0 (by omega) (by omega) (QY _).1
  rw [(QY _).2.2,Kf] at hB
  have hR:QU Tryz.prog 158 [.v (QZ (QX (num/den/2^j))),.v (.int .i64 1)] [.v true (QZ (QX (num/den/2^j/2)))]:=hR
  have hB:QU Tryz.prog 173 [.v (QZ (QX (num/den/2^j))),.v (.int .i64 0)] [.v true (.bool (decide (num/den/2^j%2=1)))]:=hB
  unfold G9 DB
  have w3:IntKind.i64.wrap (e-(s-1)) = -(j:Int):=by rw [QV] <;> omega
  have w2:IntKind.i64.wrap (1*(s-1))=s-1:=by rw [QV] <;> omega
  have w4:IntKind.i64.wrap (0 - -(j:Int))=(j:Int):=by rw [QV] <;> omega
  have ga : ¬(0:Int) ≤ -(j:Int):=by omega
  obtain ⟨NL,hNL⟩ : ∃L,L=QX num:=⟨_,rfl⟩
  obtain ⟨DL,hDL⟩ : ∃L,L=QX den:=⟨_,rfl⟩
  obtain ⟨XL,hXL⟩ : ∃L,L=QX (num/den):=⟨_,rfl⟩
  obtain ⟨QL,hQL⟩ : ∃L,L=QX (num/den/2^j):=⟨_,rfl⟩
  obtain ⟨RL,hRL⟩ : ∃L,L=QX (num%den):=⟨_,rfl⟩
  obtain ⟨OL,hOL⟩ : ∃L,L=QX (num/den%2^j):=⟨_,rfl⟩
  obtain ⟨HL,hHL⟩ : ∃L,L=QX (num/den/2^j/2):=⟨_,rfl⟩
  obtain ⟨bb,hbb⟩ : ∃b,b=decide (num/den/2^j%2=1):=⟨_,rfl⟩
  obtain ⟨z1,hz1⟩ : ∃b,b=decide (num%den=0):=⟨_,rfl⟩
  obtain ⟨z2,hz2⟩ : ∃b,b=decide (num/den%2^j=0):=⟨_,rfl⟩
  have hzz:decide (¬(num%den=0∧num/den%2^j=0)) = !(z1&&z2):=by rw [hz1,hz2];by_cases h1:num%den=0 <;> by_cases h2:num/den%2^j=0 <;> simp [h1,h2]
  rw [hzz]
  rw [←hNL,←hDL,←hXL,←hRL] at hDM
  rw [←hXL,←hQL] at hSh
  rw [←hXL,←hOL] at hLo
  rw [←hRL,←hz1] at hZ
  rw [←hOL,←hz2] at hZ2
  rw [←hQL,←hHL] at hR
  rw [←hQL,←hbb] at hB
  rw [←hNL,←hDL,←hHL,←hbb]
  clear hNL hDL hXL hQL hRL hHL hOL hbb hz1 hz2 hzz hql hrl hll hdl1 hc hq hx hDD hnl hdl hp0 hp1 hd
  refine QU.of Tryz.func233 rfl rfl fun cx w0=>?_
  rw [show Tryz.f233.ntmps=82 from rfl]
  refine zs0 ?_
  refine zs1 (an w1 <| an w2 <| w3) ?_
  refine zs0 ?_
  refine zs0 ?_
  refine QQ.next (fun σ=>∀a w,Rel cx w0 σ a w→Rel cx w0 {nt:=82,env:=[(2,.ptr 2 0 [] 0),(4,.ptr 4 0 [] 0),(6,.v true (QZ QL)),(7,.v true (.bool (z1&&z2)))],mem:=[(2,.box 205 (.v false (.agg [.bool neg,QZ NL,QZ DL,.int .i64 e,.int .i64 1]))),(4,.box 129 (.v true (.agg [.sl 1 [],.bool false,.bool false])))]} a w) ?_ ?_
  ·refine zs1 ga ?_
   refine QQ.condF rfl ?_
   refine zs2 (ρ:=fun _=>[.v true (QZ XL),.v true (QZ RL)]) (o:=by repeat' first|exact hDM|trivial|constructor) (k:=?_)
   refine zs3 (ρ:=fun _=>[.v true (QZ QL)]) w4 (o:=by repeat' first|exact hSh|trivial|constructor) (k:=?_)
   cases z1 with
   | true =>
     rw [Bool.true_and]
     refine zr3 (ρ:=fun d=>if d=49 then [.v true (.bool true)] else if d=54 then [.v true (QZ OL)] else [.v true (.bool z2)]) w4 (o:=by repeat' first|exact hZ|exact hLo|exact hZ2|trivial|constructor) (k:=?_)
     exact fun a w h=>Rel.keep [2,4,6,7] [2,4] h
   | false =>
     rw [Bool.false_and]
     refine zr2 (ρ:=fun _=>[.v true (.bool false)]) (o:=by repeat' first|exact hZ|trivial|constructor) (k:=?_)
     exact fun a w h=>Rel.keep [2,4,6,7] [2,4] h
  ·intro σ hσ
   refine QQ.from hσ ?_
   obtain ⟨zz,hzz⟩ : ∃z,z=(z1&&z2):=⟨_,rfl⟩
   rw [←hzz]
   refine QQ.seq ?_
   refine zs0 ?_
   refine QQ.condF rfl (QQ.skip ?_)
   refine zs2 (ρ:=fun d=>if d=76 then [.v true (QZ HL)] else [.v true (.bool bb)]) (o:=by repeat' first|exact hR|exact hB|trivial|constructor) (k:=?_)
   exact QQ.ret (QK.vs rfl (by exact ⟨⟨rfl,id⟩,trivial⟩) rfl)
def fbyV (P g:Int) (r:Nat) (neg:Bool):V:=if grB r neg=true then YG 1 neg (g-P+1) (2^P.toNat-1) else YG 2 neg 0 0
theorem Top_ok (K p:Nat) (hK:1≤K∧K≤14) (hP:2≤p∧p≤256):QU Tryz.prog 265 [.v (Q3 ((K+1:Nat):Int) p)] [.v true (YG 1 false (gK K-p+1) (2^p-1))]:=by
 have hGr:=UZ K p hK
 have hG:=U6 hK
 have o1:okW [(1:Int)]:=by intro n hn;simp at hn;omega
 have h1w:QU Tryz.prog 78 [.v (.int .u64 1)] [.v true (QZ [1])]:=by
  have:=YX 1 (by decide)
  rw [show QX 1=[1] from by decide] at this
  exact this
 have hS:=Uq [1] p (by simp) (by omega) o1
 rw [show val [(1:Int)]=1 from by decide,Nat.one_mul] at hS
 obtain ⟨q5,hq5⟩ : ∃q,q=5:=⟨_,rfl⟩
 have h2l:(QX (2^p)).length≤q5:=ZU (by
  rw [show (18446744073709551616:Nat)=2^64 from rfl,←Nat.pow_mul]
  exact Nat.pow_lt_pow_right (by decide) (by omega))
 have hU:=rSub_ok (QX (2^p)) [1] (by omega) (by simp) (QY _).1 o1 (by rw [(QY _).2.2,show val [(1:Int)]=1 from by decide];exact Nat.pow_pos (by decide))
 rw [(QY _).2.2,show val [(1:Int)]=1 from by decide] at hU
 obtain ⟨G,hG'⟩ : ∃G,G=gK K:=⟨_,rfl⟩
 rw [←hG'] at hGr hG ⊢
 unfold YG
 obtain ⟨S,hS'⟩ : ∃S,S=QX (2^p):=⟨_,rfl⟩
 obtain ⟨U,hU'⟩ : ∃U,U=QX (2^p-1):=⟨_,rfl⟩
 obtain ⟨O,hO⟩ : ∃O,O=[(1:Int)]:=⟨_,rfl⟩
 rw [←hS',←hO] at hS
 rw [←hS',←hU',←hO] at hU
 rw [←hO] at h1w
 rw [←hU']
 obtain ⟨k,hk⟩ : ∃k:Int,k=((K+1:Nat):Int):=⟨_,rfl⟩
 rw [←hk] at hGr ⊢
 have w1:IntKind.i64.wrap (G-(p:Int))=G-p:=by rw [QV] <;> omega
 have w2:IntKind.i64.wrap (G-(p:Int)+1)=G-p+1:=by rw [QV] <;> omega
 clear hG' hk hS' hU' h2l hO o1
 unfold Q3 at hGr ⊢
 refine QU.of Tryz.func265 rfl rfl fun cx w0=>?_
 rw [show Tryz.f265.ntmps=18 from rfl]
 refine zs0 ?_
 refine zs2 (ρ:=fun _=>[.v true (QZ O)]) (o:=by repeat' first|exact h1w|trivial|constructor) (k:=?_)
 refine zd3 [] (ρ:=fun d=>if d=6 then [.v true (.int .i64 G)] else if d=14 then [.v true (QZ S)] else [.v true (QZ U)]) (an w1 <| w2) (o:=by repeat' first|exact hGr|exact hS|exact hU|trivial|constructor) (k:=?_)
 exact QQ.ret (QK.vs rfl (by exact ⟨⟨rfl,id⟩,trivial⟩) rfl)
set_option maxHeartbeats 2000000 in
theorem Bf (K p:Nat) (r:Nat) (neg:Bool) (hK:1≤K∧K≤14) (hP:2≤p∧p≤256) (hr:r≤4):QU Tryz.prog 232 [.v (Q3 ((K+1:Nat):Int) p),.v (.int .i64 r),.v (.bool neg)] [.v true (fbyV p (gK K) r neg)]:=by
 have hT:=Top_ok K p hK hP
 unfold fbyV
 rw [Int.toNat_natCast]
 rw [X7,KJ]
 rw [KJ] at hT
 obtain ⟨U,hU⟩ : ∃U,U=(QX (2^p-1)).map fun n=>V.int .u64 n:=⟨_,rfl⟩
 obtain ⟨x,hx⟩ : ∃x,x=gK K-(p:Int)+1:=⟨_,rfl⟩
 obtain ⟨k,hk⟩ : ∃k:Int,k=((K+1:Nat):Int):=⟨_,rfl⟩
 rw [←hU,←hx,←hk] at hT
 rw [←hU,←hx,←hk]
 unfold Q3 at hT ⊢
 refine QU.of Tryz.func232 rfl rfl fun cx w0=>?_
 rw [show Tryz.f232.ntmps=32 from rfl]
 refine zs0 ?_
 refine QQ.seq ?_
 match r,hr,neg with
 | 0,_,neg =>
   rw [show grB 0 neg=false from rfl,if_neg (by simp)]
   refine zs0 ?_
   refine QQ.condF rfl (QQ.skip ?_)
   refine zs0 ?_
   exact QQ.ret (QK.vs rfl (by exact ⟨⟨rfl,id⟩,trivial⟩) rfl)
 | 1,_,neg =>
   rw [show grB 1 neg=false from rfl,if_neg (by simp)]
   refine zs0 ?_
   refine QQ.condF rfl (QQ.skip ?_)
   refine zs0 ?_
   exact QQ.ret (QK.vs rfl (by exact ⟨⟨rfl,id⟩,trivial⟩) rfl)
 | 2,_,neg =>
   rw [show grB 2 neg=true from rfl,if_pos rfl]
   refine zs0 ?_
   refine QQ.condT rfl ?_
   refine zs2 (ρ:=fun _=>[.v true (.agg [.int .i64 (1:Nat),.bool false,.int .i64 x,.sl 1 U])]) (o:=by repeat' first|exact hT|trivial|constructor) (k:=?_)
   refine zs0 ?_
   refine zs0 ?_
   exact QQ.ret (QK.vs rfl (by exact ⟨⟨rfl,id⟩,trivial⟩) rfl)
 | 3,_,true =>
   rw [show grB 3 true=true from rfl,if_pos rfl]
   refine zs0 ?_
   refine QQ.condT rfl ?_
   refine zs2 (ρ:=fun _=>[.v true (.agg [.int .i64 (1:Nat),.bool false,.int .i64 x,.sl 1 U])]) (o:=by repeat' first|exact hT|trivial|constructor) (k:=?_)
   refine zs0 ?_
   refine zs0 ?_
   exact QQ.ret (QK.vs rfl (by exact ⟨⟨rfl,id⟩,trivial⟩) rfl)
 | 3,_,false =>
   rw [show grB 3 false=false from rfl,if_neg (by simp)]
   refine zs0 ?_
   refine QQ.condF rfl (QQ.skip ?_)
   refine zs0 ?_
   exact QQ.ret (QK.vs rfl (by exact ⟨⟨rfl,id⟩,trivial⟩) rfl)
 | 4,_,true =>
   rw [show grB 4 true=false from rfl,if_neg (by simp)]
   refine zs0 ?_
   refine QQ.condF rfl (QQ.skip ?_)
   refine zs0 ?_
   exact QQ.ret (QK.vs rfl (by exact ⟨⟨rfl,id⟩,trivial⟩) rfl)
 | 4,_,false =>
   rw [show grB 4 false=true from rfl,if_pos rfl]
   refine zs0 ?_
   refine QQ.condT rfl ?_
   refine zs2 (ρ:=fun _=>[.v true (.agg [.int .i64 (1:Nat),.bool false,.int .i64 x,.sl 1 U])]) (o:=by repeat' first|exact hT|trivial|constructor) (k:=?_)
   refine zs0 ?_
   refine zs0 ?_
   exact QQ.ret (QK.vs rfl (by exact ⟨⟨rfl,id⟩,trivial⟩) rfl)
end Go.Proofs.YtlpolbeikangpaaGreatDoor.L
