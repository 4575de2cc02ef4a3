/-
  Xr Xs Xt Xv Xw Xx Ya Yb Yc Yd Za Zb Zc Zd Zf Ze Zg Zh Zi Zj
-/
import Derived.Test.YtlpolbeikangpaaGreatDoorTX4
import Derived.Test.YtlpolbeikangpaaGreatDoorTX8
import Derived.Deep.RegionWith
import Derived.Test.YtlpolbeikangpaaGreatDoorTX7
set_option linter.unusedSimpArgs false
set_option linter.unusedVariables false
set_option maxRecDepth 100000
namespace Go.Proofs.YtlpolbeikangpaaGreatDoor.L
open Go Go.RowKit Go.Proofs
attribute [local go_sem] Yq YQ JY JX JU JV XF Q4 ZB QH Jx Y4 St.opv St.get St.at Qu Xu St.put St.upd St.set decide_true List.all_nil List.all_cons Bool.and_true Bool.true_and and_self and_true true_and if_true if_false true_or Int.sub_zero List.nil_append List.cons_append List.append_nil Option.isSome_some List.getElem?_toArray List.getElem?_cons_succ List.getElem?_cons_zero Option.bind_some Option.map_some Option.map_none beq_self_eq_true Bool.false_beq Bool.true_beq Bool.not_true Bool.not_false Bool.false_eq_true cond_true cond_false DJ D3 List.map_cons List.map_nil YZ List.length_nil List.length_cons Nat.zero_mul Nat.one_mul Nat.mul_one Nat.zero_add Nat.add_zero Nat.zero_le Option.toList St.freshB AV.ment AV.ments Blk.ment V.sizes Nat.lt_add_one Bool.or_true Bool.true_or Bool.or_false Bool.false_or Bool.or_self if_pos if_neg decide_false decide_eq_true decide_eq_false QV Int.toNat_natCast FQ E7 Int.natCast_add Int.cast_ofNat_Int Option.isSome_none false_implies true_implies forall_const List.drop_zero Int.toNat_zero Int.add_sub_cancel Gy XK XE ZX Ug KH V.atP V.offP V.size List.length_map List.getElem?_map Int.toNat_natCast_add_one Int.ofNat_eq_natCast TY Y8 Qd U8 Z6 ZC Uu UH R.res R.mems R.blks R.av R.names R.nw XC XU Vz ZZ Ku V.off V.offs V.setP List.set_cons_zero List.set_cons_succ VH Yz YF YH KQ VC VG Kv AV.pure List.take_succ_cons List.take_zero Gz QZ unA U4 List.zipIdx_cons List.zipIdx_nil Arg.av Arg.avs
def shS (d:Nat) (a e':Int) (at_ lo hi:List Int) (wth:Bool):St := {nt:=132,env:=[(13,.v true (.int .i64 d)),(12,.v true (.int .i64 a)),(6,.ptr 6 0 [] 0),(7,.v true (QZ at_)),(8,.v true (.int .i64 e')),(9,.ptr 9 0 [] 0)],mem:=[(6,.box 168 (.v true (.agg [QZ lo,QZ hi]))),(9,.box 4 (.v true (.bool wth)))]}
set_option maxHeartbeats 2000000 in
theorem sh_tail {cx:Cx} {w0:World} (q rest U:Nat) (s a e':Int) (d:Nat) (at_ lo hi:List Int) (wth one two:Bool) (kk:Option Nat) (hq:(QX q).length<1000) (hr:(QX rest).length<1000) (hU:(QX U).length<10000) (hql:q<10^80) (hs : -10000≤s∧s≤10000)
 (hkk:kk=if (one && !(two&&decide (0<Q7 (rest*2) U∨Q7 (rest*2) U=0∧q%2=1)))=true then some q else if two=true then some (q+1) else none) :
 QQ Tryz.prog none cx w0 (ZH Tryz.f53 [1,1,1,1,1,0,0,0,0,1,1,1,1,1,1,1,1])
  {nt:=132,env:=[(22,.v true (.bool one)),(23,.v true (.bool two)),(19,.v true (QZ (QX q))),(21,.v true (QZ (QX (q+1)))),(20,.v true (QZ (QX rest))),(15,.ptr 15 0 [] 0),(14,.v true (.int .i64 s)),(13,.v true (.int .i64 d)),(12,.v true (.int .i64 a)),(6,.ptr 6 0 [] 0),(7,.v true (QZ at_)),(8,.v true (.int .i64 e')),(9,.ptr 9 0 [] 0)],mem:=[(15,.box 26 (.v true (QZ (QX U)))),(6,.box 168 (.v true (.agg [QZ lo,QZ hi]))),(9,.box 4 (.v true (.bool wth)))]}
  (shQ kk s (fun σ=>∀x w,Rel cx w0 σ x w→Rel cx w0 (shS d a e' at_ lo hi wth) x w)):=by
 refine QQ.next _ (sh_both q rest U s a e' d at_ lo hi wth one two hq hr hU) ?_
 intro σ hσ
 refine QQ.from hσ ?_
 clear hσ
 obtain ⟨o,ho⟩ : ∃o,o=(one && !(two&&decide (0<Q7 (rest*2) U∨Q7 (rest*2) U=0∧q%2=1))):=⟨_,rfl⟩
 rw [←ho] at hkk ⊢
 unfold shS
 refine QQ.seq ?_
 cases o with
 | false =>
   cases two with
   | false =>
     refine zs0 ?_
     refine QQ.condT rfl (QQ.exit ?_)
     refine ⟨rfl,by rw [hkk];rfl,fun x w h=>Rel.keep [13,12,6,7,8,9] [6,9] h⟩
   | true =>
     refine zs0 ?_
     refine QQ.condF rfl (QQ.skip ?_)
     show QQ _ _ _ _ _ _ _
     refine QQ.next (fun σ=>∀x w,Rel cx w0 σ x w→Rel cx w0 {nt:=132,env:=[(19,.v true (QZ (QX (q+1)))),(14,.v true (.int .i64 s))],mem:=[]} x w) ?_ ?_
     ·refine zs0 ?_
      refine QQ.condT rfl ?_
      refine zr0 ?_
      exact fun x w h=>Rel.keep [19,14] [] h
     ·intro σ hσ
      refine QQ.from hσ ?_
      exact sh_out (q+1) s _ kk (by rw [hkk];rfl) hql hs
 | true =>
   refine zs0 ?_
   refine QQ.condF rfl (QQ.skip ?_)
   show QQ _ _ _ _ _ _ _
   refine QQ.next (fun σ=>∀x w,Rel cx w0 σ x w→Rel cx w0 {nt:=132,env:=[(19,.v true (QZ (QX q))),(14,.v true (.int .i64 s))],mem:=[]} x w) ?_ ?_
   ·refine zs0 ?_
    exact QQ.condF rfl (QQ.skip fun x w h=>Rel.keep [19,14] [] h)
   ·intro σ hσ
    refine QQ.from hσ ?_
    exact sh_out q s _ kk (by rw [hkk];rfl) (Nat.le_of_lt hql) hs
theorem cmp_rst {x U:Nat} {q:Nat} (h:x≠0):decide (0<Q7 (x*2) U∨Q7 (x*2) U=0∧q%2=1)=shUp q (Y6 x U):=by
 unfold shUp Y6
 rw [if_neg h]
 have : -1≤Q7 (x*2) U∧Q7 (x*2) U≤1:=by
  unfold Q7;split
  ·decide
  ·split <;> decide
 congr 1
 apply propext
 constructor
 ·rintro (h|⟨h,h2⟩)
  ·left;omega
  ·right;exact ⟨by omega,h2⟩
 ·rintro (h|⟨h,h2⟩)
  ·left;omega
  ·right;exact ⟨by omega,h2⟩
theorem lt80 {v B:Nat} (h:v<10^80) (hB:400≤B):v+1<2^B:=by
 obtain ⟨k,hk⟩ : ∃k,k=80:=⟨_,rfl⟩
 rw [←hk] at h
 exact Nat.lt_of_le_of_lt h (Nat.lt_of_lt_of_le (X3 k) (Nat.pow_le_pow_right (by decide) (by omega)))
set_option maxHeartbeats 4000000 in
theorem sh_round {cx:Cx} {w0:World} (n b B:Nat) (u a:Int) (d:Nat) (hB:400≤B∧B≤50000) (hd:1≤d∧d≤80) (ha : -5600≤a∧a≤5600) (hu : -17000≤u∧u≤17000) (hUB:shU u (a-d+1)<2^B) (hVB:4*n*shW u (a-d+1)<2^B) (hWB:shW u (a-d+1)<2^B) (hnB:4*n+2<2^B)
 (hql:4*n*shW u (a-d+1)/shU u (a-d+1)<10^80) :
 QQ Tryz.prog none cx w0 (ZH Tryz.f53 [1,1,1,1,1,0,0,0,0]) (shS d a (u-2) (QX (4*n)) (QX (4*n-b)) (QX (4*n+2)) (decide (n%2=0)))
  (shQ (shC n b u (a-d+1) (4*n*shW u (a-d+1)/shU u (a-d+1)) (Y6 (4*n*shW u (a-d+1)%shU u (a-d+1)) (shU u (a-d+1)))) (a-d+1) (fun σ=>∀x w,Rel cx w0 σ x w→Rel cx w0 (shS d a (u-2) (QX (4*n)) (QX (4*n-b)) (QX (4*n+2)) (decide (n%2=0))) x w)):=by
 obtain ⟨s,hs⟩ : ∃s,s=a-d+1:=⟨_,rfl⟩
 obtain ⟨U,hU⟩ : ∃x,x=shU u s:=⟨_,rfl⟩
 obtain ⟨W,hW⟩ : ∃x,x=shW u s:=⟨_,rfl⟩
 have hU0:0<U:=by rw [hU];exact shU_pos u s
 rw [←hs,←hU] at hUB
 rw [←hs,←hW] at hVB hWB
 rw [←hs,←hU,←hW] at hql
 rw [←hs,←hU,←hW]
 obtain ⟨vv,hV⟩ : ∃x,x=4*n*W:=⟨_,rfl⟩
 rw [←hV] at hVB hql ⊢
 have l4n:(QX (4*n)).length≤800:=QC (Nat.lt_of_le_of_lt (Nat.le_add_right _ 2) hnB) (by omega)
 have lU:(QX U).length≤800:=QC hUB (by omega)
 have lW:(QX W).length≤800:=QC hWB (by omega)
 have lV:(QX vv).length≤800:=QC hVB (by omega)
 have lr:(QX (vv%U)).length≤800:=QC (Nat.lt_of_le_of_lt (Nat.mod_le _ _) hVB) (by omega)
 have lq1:vv/U+1<2^B:=lt80 hql hB.1
 have lq:(QX (vv/U)).length≤800:=QC (Nat.lt_of_succ_lt lq1) (by omega)
 have t1:=H5 s.toNat (by omega)
 have t2:=H5 (-s).toNat (by omega)
 have d1:QX 1=[1]:=by decide
 have p1:=V5 1 (2-u).toNat (by rw [d1];decide) (by omega)
 have p2:=V5 1 (u-2).toNat (by rw [d1];decide) (by omega)
 rw [d1,Nat.one_mul] at p1 p2
 have m1:=VV (10^s.toNat) (2^(2-u).toNat) (by have:=QC (n:=1000) (X3 s.toNat) (by omega);omega) (by have:=QC (v:=2^(2-u).toNat) (B:=(2-u).toNat+1) (n:=1000) (Nat.pow_lt_pow_right (by decide) (by omega)) (by omega);omega)
 have m2:=VV (10^(-s).toNat) (2^(u-2).toNat) (by have:=QC (n:=1000) (X3 (-s).toNat) (by omega);omega) (by have:=QC (v:=2^(u-2).toNat) (B:=(u-2).toNat+1) (n:=1000) (Nat.pow_lt_pow_right (by decide) (by omega)) (by omega);omega)
 have eU:10^s.toNat*2^(2-u).toNat=U:=hU.symm
 have eW:10^(-s).toNat*2^(u-2).toNat=W:=hW.symm
 rw [eU] at m1
 rw [eW] at m2
 have m3:=VV (4*n) W (by omega) (by omega)
 rw [←hV] at m3
 have hM:=Cv (QX vv) (QX U) (by omega) (by omega) (QY _).1 (QY _).1 (by rw [(QY U).2.2];exact hU0)
 rw [(QY vv).2.2,(QY U).2.2] at hM
 have hA:=wAdd_ok (QX (vv/U)) [1] (by omega) (by simp) (QY _).1 (by intro n hn;simp at hn;omega)
 rw [(QY (vv/U)).2.2,show val [(1:Int)]=1 from by decide] at hA
 have hA:QU Tryz.prog 131 [.v (QZ (QX (vv/U))),.v (.sl 1 [.int .u64 1])] [.v true (QZ (QX (vv/U+1)))]:=hA
 have p1:QU Tryz.prog 55 [.v (.sl 1 [.int .u64 1]),.v (.int .i64 ((2-u).toNat:Nat))] [.v true (QZ (QX (2^(2-u).toNat)))]:=p1
 have p2:QU Tryz.prog 55 [.v (.sl 1 [.int .u64 1]),.v (.int .i64 ((u-2).toNat:Nat))] [.v true (QZ (QX (2^(u-2).toNat)))]:=p2
 have z1:=FG (QX (vv/U)) (by omega) (QY _).1
 have z2:=FG (QX (vv%U)) (by omega) (QY _).1
 rw [(QY (vv/U)).2.2] at z1
 rw [(QY (vv%U)).2.2] at z2
 have i1:=in_ok n b U W (vv/U) B (by omega) (by omega) hUB hWB hnB
 have i2:=in_ok n b U W (vv/U+1) B (by omega) lq1 hUB hWB hnB
 obtain ⟨b1,hb1⟩ : ∃x,x=decide (inI n b (vv/U*U) W):=⟨_,rfl⟩
 obtain ⟨b2,hb2⟩ : ∃x,x=decide (inI n b ((vv/U+1)*U) W):=⟨_,rfl⟩
 obtain ⟨c1,hc1⟩ : ∃x,x=decide (vv/U=0):=⟨_,rfl⟩
 obtain ⟨c2,hc2⟩ : ∃x,x=decide (vv%U=0):=⟨_,rfl⟩
 have hkk:shC n b u s (vv/U) (Y6 (vv%U) U)=if ((b1 && !c1) && !((!c2&&b2)&&decide (0<Q7 (vv%U*2) U∨Q7 (vv%U*2) U=0∧vv/U%2=1)))=true then some (vv/U) else if (!c2&&b2)=true then some (vv/U+1) else none:=by
  have e1:DC n b u s (vv/U)=(b1 && !c1):=by
   unfold DC
   rw [hb1,hc1,hU,hW]
   by_cases h1:vv/shU u s=0
   ·rw [decide_eq_false (fun x=>x.1 h1),decide_eq_true h1,Bool.not_true,Bool.and_false]
   ·rw [decide_eq_false h1,Bool.not_false,Bool.and_true]
    by_cases h2:inI n b (vv/shU u s*shU u s) (shW u s)
    ·rw [decide_eq_true h2];exact decide_eq_true ⟨h1,h2⟩
    ·rw [decide_eq_false h2];exact decide_eq_false fun x=>h2 x.2
  have e2:C4 n b u s (vv/U) (Y6 (vv%U) U)=(!c2&&b2):=by
   unfold C4
   rw [hb2,hc2,hU,hW]
   by_cases h1:vv%shU u s=0
   ·rw [decide_eq_false (fun x=>x.1 (qU.2 h1)),decide_eq_true h1,Bool.not_true,Bool.false_and]
   ·rw [decide_eq_false h1,Bool.not_false,Bool.true_and]
    by_cases h2:inI n b ((vv/shU u s+1)*shU u s) (shW u s)
    ·rw [decide_eq_true h2];exact decide_eq_true ⟨fun x=>h1 (qU.1 x),h2⟩
    ·rw [decide_eq_false h2];exact decide_eq_false fun x=>h2 x.2
  unfold shC
  rw [e1,e2]
  cases hc:c2 with
  | true=>rfl
  | false =>
    have h0:vv%U≠0:=by rw [hc] at hc2;exact of_decide_eq_false hc2.symm
    rw [cmp_rst h0]
 rw [hkk]
 have hT:=sh_tail (cx:=cx) (w0:=w0) (vv/U) (vv%U) U s a (u-2) d (QX (4*n)) (QX (4*n-b)) (QX (4*n+2)) (decide (n%2=0)) (b1 && !c1) (!c2&&b2) _ (by omega) (by omega) (by omega) hql (by omega) rfl
 obtain ⟨Q,hQ⟩ : ∃Q,Q=shQ (if ((b1 && !c1) && !((!c2&&b2)&&decide (0<Q7 (vv%U*2) U∨Q7 (vv%U*2) U=0∧vv/U%2=1)))=true then some (vv/U) else if (!c2&&b2)=true then some (vv/U+1) else none) s (fun σ=>∀x w,Rel cx w0 σ x w→Rel cx w0 (shS d a (u-2) (QX (4*n)) (QX (4*n-b)) (QX (4*n+2)) (decide (n%2=0))) x w):=⟨_,rfl⟩
 rw [←hQ] at hT ⊢
 rw [←hb1] at i1
 rw [←hb2] at i2
 rw [←hc1] at z1
 rw [←hc2] at z2
 have x1:IntKind.i64.wrap (a-d)=a-d:=by rw [QV] <;> omega
 have x2:IntKind.i64.wrap (a-d+1)=s:=by rw [QV] <;> omega
 have x3:(if s<0 then (0:Int) else s)=(s.toNat:Int):=by split <;> omega
 have x4:IntKind.i64.wrap (0-s) = -s:=by rw [QV] <;> omega
 have x5:(if -s<0 then (0:Int) else -s)=((-s).toNat:Int):=by split <;> omega
 obtain ⟨e',he'⟩ : ∃e',e'=u-2:=⟨_,rfl⟩
 have x6:IntKind.i64.wrap (0-e') = -e':=by rw [QV] <;> omega
 have x7:(if -e'<0 then (0:Int) else -e')=((2-u).toNat:Int):=by split <;> omega
 have x8:(if e'<0 then (0:Int) else e')=((u-2).toNat:Int):=by split <;> omega
 rw [←he'] at x8 hT p2 m2 ⊢
 obtain ⟨wth,hwth⟩ : ∃x,x=decide (n%2=0):=⟨_,rfl⟩
 rw [←hwth] at i1 i2 hT ⊢
 obtain ⟨n1,hn1⟩ : ∃x,x=s.toNat:=⟨_,rfl⟩
 obtain ⟨n2,hn2⟩ : ∃x,x=(-s).toNat:=⟨_,rfl⟩
 obtain ⟨n3,hn3⟩ : ∃x,x=(2-u).toNat:=⟨_,rfl⟩
 obtain ⟨n4,hn4⟩ : ∃x,x=e'.toNat:=⟨_,rfl⟩
 rw [←hn1] at t1 x3 m1
 rw [←hn2] at t2 x5 m2
 rw [←hn3] at p1 m1 x7
 rw [←hn4] at p2 m2 x8
 obtain ⟨T1,hT1⟩ : ∃x,x=QX (10^n1):=⟨_,rfl⟩
 obtain ⟨T2,hT2⟩ : ∃x,x=QX (10^n2):=⟨_,rfl⟩
 obtain ⟨P1,hP1⟩ : ∃x,x=QX (2^n3):=⟨_,rfl⟩
 obtain ⟨P2,hP2⟩ : ∃x,x=QX (2^n4):=⟨_,rfl⟩
 rw [←hT1] at t1 m1
 rw [←hT2] at t2 m2
 rw [←hP1] at p1 m1
 rw [←hP2] at p2 m2
 obtain ⟨dU,hdU⟩ : ∃x,x=QX U:=⟨_,rfl⟩
 obtain ⟨dW,hdW⟩ : ∃x,x=QX W:=⟨_,rfl⟩
 obtain ⟨dV,hdV⟩ : ∃x,x=QX vv:=⟨_,rfl⟩
 obtain ⟨dq,hdq⟩ : ∃x,x=QX (vv/U):=⟨_,rfl⟩
 obtain ⟨dq1,hdq1⟩ : ∃x,x=QX (vv/U+1):=⟨_,rfl⟩
 obtain ⟨dr,hdr⟩ : ∃x,x=QX (vv%U):=⟨_,rfl⟩
 obtain ⟨dn,hdn⟩ : ∃x,x=QX (4*n):=⟨_,rfl⟩
 obtain ⟨dl,hdl⟩ : ∃x,x=QX (4*n-b):=⟨_,rfl⟩
 obtain ⟨dh,hdh⟩ : ∃x,x=QX (4*n+2):=⟨_,rfl⟩
 rw [←hdU] at m1 hM i1 i2 hT
 rw [←hdW] at m2 m3 i1 i2
 rw [←hdV] at m3 hM
 rw [←hdq] at hM hA z1 i1 hT
 rw [←hdq1] at hA i2 hT
 rw [←hdr] at hM z2 hT
 rw [←hdn] at m3 hT ⊢
 rw [←hdl] at i1 i2 hT ⊢
 rw [←hdh] at i1 i2 hT ⊢
 clear hdh hdl hdn hdr hdq1 hdq hdV hdW hdU hP2 hP1 hT2 hT1 hn4 hn3 hn2 hn1 hwth he' hQ hkk hc1 hc2 hb1 hb2 eU eW lq1 lq lr lV lW lU l4n hV hql hVB hWB hUB hU0 hU hW hnB hB d1
 unfold shS
 refine zs1 (an x1 <| x2) ?_
 refine zs3 (ρ:=fun x=>if x=50 then [.v true (QZ T1)] else if x=55 then [.v true (QZ P1)] else [.v true (QZ dU)]) (an x3 <| an x6 <| x7) (o:=by repeat' first|exact t1|exact p1|exact m1|trivial|constructor) (k:=?_)
 refine zs3 (ρ:=fun x=>if x=60 then [.v true (QZ T2)] else if x=64 then [.v true (QZ P2)] else [.v true (QZ dW)]) (an x4 <| an x5 <| x8) (o:=by repeat' first|exact t2|exact p2|exact m2|trivial|constructor) (k:=?_)
 refine zs2 (ρ:=fun _=>[.v true (QZ dV)]) (o:=by repeat' first|exact m3|trivial|constructor) (k:=?_)
 refine zs0 ?_
 refine zs2 (ρ:=fun _=>[.v true (QZ dq),.v true (QZ dr)]) (o:=by repeat' first|exact hM|trivial|constructor) (k:=?_)
 refine zs2 (ρ:=fun _=>[.v true (QZ dq1)]) (o:=by repeat' first|exact hA|trivial|constructor) (k:=?_)
 refine QQ.from (σ' := {nt:=132,env:=[(18,.fn 129 [.ptr 15 0 [] 0,.ptr 6 0 [] 0,.ptr 16 0 [] 0,.ptr 9 0 [] 0]),(19,.v true (QZ dq)),(21,.v true (QZ dq1)),(20,.v true (QZ dr)),(15,.ptr 15 0 [] 0),(14,.v true (.int .i64 s)),(13,.v true (.int .i64 d)),(12,.v true (.int .i64 a)),(6,.ptr 6 0 [] 0),(7,.v true (QZ dn)),(8,.v true (.int .i64 e')),(9,.ptr 9 0 [] 0)],mem:=[(15,.box 26 (.v true (QZ dU))),(16,.box 26 (.v true (QZ dW))),(6,.box 168 (.v true (.agg [QZ dl,QZ dh]))),(9,.box 4 (.v true (.bool wth)))]}) (fun x w h=>Rel.keep [18,19,21,20,15,14,13,12,6,7,8,9] [15,16,6,9] h) ?_
 clear t1 t2 p1 p2 m1 m2 m3 hM hA x1 x2 x3 x4 x5 x6 x7 x8
 refine QQ.next (fun σ=>∀x w,Rel cx w0 σ x w→Rel cx w0 {nt:=132,env:=[(22,.v true (.bool (b1 && !c1))),(23,.v true (.bool (!c2&&b2))),(19,.v true (QZ dq)),(21,.v true (QZ dq1)),(20,.v true (QZ dr)),(15,.ptr 15 0 [] 0),(14,.v true (.int .i64 s)),(13,.v true (.int .i64 d)),(12,.v true (.int .i64 a)),(6,.ptr 6 0 [] 0),(7,.v true (QZ dn)),(8,.v true (.int .i64 e')),(9,.ptr 9 0 [] 0)],mem:=[(15,.box 26 (.v true (QZ dU))),(6,.box 168 (.v true (.agg [QZ dl,QZ dh]))),(9,.box 4 (.v true (.bool wth)))]} x w) ?_ ?_
 ·clear hT
  cases b1 with
  | false =>
    rw [Bool.false_and]
    cases c2 with
    | true =>
      rw [Bool.not_true,Bool.false_and]
      refine zr2 (ρ:=fun x=>if x=81 then [.v true (.bool false)] else [.v true (.bool true)]) (o:=by repeat' first|exact i1|exact z2|trivial|constructor) (k:=?_)
      exact fun x w h=>Rel.keep [22,23,19,21,20,15,14,13,12,6,7,8,9] [15,6,9] h
    | false =>
      rw [Bool.not_false,Bool.true_and]
      refine zr2 (ρ:=fun x=>if x=81 then [.v true (.bool false)] else if x=88 then [.v true (.bool false)] else [.v true (.bool b2)]) (o:=by repeat' first|exact i1|exact z2|exact i2|trivial|constructor) (k:=?_)
      exact fun x w h=>Rel.keep [22,23,19,21,20,15,14,13,12,6,7,8,9] [15,6,9] h
  | true =>
    rw [Bool.true_and]
    cases c2 with
    | true =>
      rw [Bool.not_true,Bool.false_and]
      refine zr2 (ρ:=fun x=>if x=81 then [.v true (.bool true)] else if x=84 then [.v true (.bool c1)] else [.v true (.bool true)]) (o:=by repeat' first|exact i1|exact z1|exact z2|trivial|constructor) (k:=?_)
      exact fun x w h=>Rel.keep [22,23,19,21,20,15,14,13,12,6,7,8,9] [15,6,9] h
    | false =>
      rw [Bool.not_false,Bool.true_and]
      refine zr2 (ρ:=fun x=>if x=81 then [.v true (.bool true)] else if x=84 then [.v true (.bool c1)] else if x=88 then [.v true (.bool false)] else [.v true (.bool b2)]) (o:=by repeat' first|exact i1|exact z1|exact z2|exact i2|trivial|constructor) (k:=?_)
      exact fun x w h=>Rel.keep [22,23,19,21,20,15,14,13,12,6,7,8,9] [15,6,9] h
 ·intro σ hσ
  exact QQ.from hσ hT
structure ShH (K p:Nat) (m:Nat) (e u:Int) (n:Nat) (a:Int):Prop where
 hK:1≤K∧K≤14
 hP:2≤p∧p≤256
 fl:FlB m e
 hu:u=fU p (gK K) (e+blN m-1)
 hue:u≤e
 hs:e-u≤300
 hn:n=m*2^(e-u).toNat
 hnB:n<2^256
 hA:IsA (Zq m e) (Zy e) a
def shF (K:Nat) (m:Nat) (e u:Int) (n:Nat) (a:Int) (d:Nat):Option Nat:=shC n (fB (gK K) m (e+blN m-1)) u (a-d+1) (ctA (Zq m e) (Zy e) (a-d+1)) (cxA (Zq m e) (Zy e) (a-d+1))
structure ShD (K:Nat) (m:Nat) (e u:Int) (n:Nat) (a:Int) (d k:Nat):Prop where
 h1:1≤d
 none : ∀d',1≤d'→d'<d→shF K m e u n a d'=none
 some:shF K m e u n a d=some k
theorem ShH.d80 {K p m n:Nat} {e u a:Int} (h:ShH K p m e u n a):shF K m e u n a 80≠none:=by
 have hb:1≤fB (gK K) m (e+blN m-1):=by unfold fB;split <;> decide
 have h0:0<n:=by rw [h.hn];exact Nat.mul_pos h.fl.m0 (Nat.pow_pos (by decide))
 have:=sh_end h.hue h.hn h.hnB hb h0 h.hA
 unfold shF shC
 rw [show a-((80:Nat):Int)+1=a-79 from by omega,this,Bool.true_and]
 split
 ·simp
 ·next h2 =>
  split
  ·simp
  ·next h3 =>
   rw [Bool.not_eq_true] at h3
   rw [h3] at h2
   exact absurd rfl h2
theorem ShD.le {K p m n d k:Nat} {e u a:Int} (h:ShH K p m e u n a) (hd:ShD K m e u n a d k):d≤80:=by
 rcases Nat.lt_or_ge 80 d with h1|h1
 ·exact absurd (hd.none 80 (by decide) h1) h.d80
 ·exact h1
theorem ShH.ex {K p m n:Nat} {e u a:Int} (h:ShH K p m e u n a) : ∃d k,ShD K m e u n a d k:=by
 have key : ∀D,shF K m e u n a (D+1)≠none → ∃d k,ShD K m e u n a d k:=fun D=>by
  induction D using Nat.strongRecOn with
  | ind D ih =>
    intro hD
    by_cases hx : ∃D',D'<D∧shF K m e u n a (D'+1)≠none
    ·obtain ⟨D',h1,h2⟩:=hx
     exact ih D' h1 h2
    ·obtain ⟨k,hk⟩:=Option.ne_none_iff_exists'.1 hD
     refine ⟨D+1,k,by omega,fun d' h1 h2=>?_,hk⟩
     obtain ⟨c,rfl⟩ : ∃c,d'=c+1:=⟨d'-1,by omega⟩
     exact Classical.byContradiction fun h3=>hx ⟨c,by omega,h3⟩
 exact key 79 h.d80
theorem shU_lt {u s:Int} {B:Nat} (hs:s≤5700) (hu : -17000≤u) (hB:40000≤B):shU u s<2^B:=by
 unfold shU
 have h1:10^s.toNat*2^(2-u).toNat<2^(4*s.toNat+1)*2^(2-u).toNat:=Nat.mul_lt_mul_of_pos_right (X3 _) (Nat.pow_pos (by decide))
 rw [←Nat.pow_add] at h1
 exact Nat.lt_of_lt_of_le h1 (Nat.pow_le_pow_right (by decide) (by omega))
theorem shW_lt {u s:Int} {B:Nat} (hs : -5700≤s) (hu:u≤17000) (hB:40000≤B):shW u s<2^B:=by
 unfold shW
 have h1:10^(-s).toNat*2^(u-2).toNat<2^(4*(-s).toNat+1)*2^(u-2).toNat:=Nat.mul_lt_mul_of_pos_right (X3 _) (Nat.pow_pos (by decide))
 rw [←Nat.pow_add] at h1
 exact Nat.lt_of_lt_of_le h1 (Nat.pow_le_pow_right (by decide) (by omega))
theorem four_lt {n c:Nat} (h:n<2^c):4*n+2<2^(c+2):=by
 rw [Nat.pow_add]
 omega
set_option maxHeartbeats 2000000 in
theorem shortest_ok (K p:Nat) (neg:Bool) (m n d k:Nat) (e u a:Int) (h:ShH K p m e u n a) (hd:ShD K m e u n a d k) :
 QU Tryz.prog 53 [.v (Q3 ((K+1:Nat):Int) p),.v (YG 1 neg e m)] [.v true (.str (bs (trR (Qv k)))),.v true (.int .i64 (a-d+1+(Qv k).length-1))]:=by
 have hdl:=hd.le h
 have hd1:=hd.h1
 have lo:=h.fl.lo
 have hi:=h.fl.hi
 have hue:=h.hue
 have hs:=h.hs
 have hab:=h.fl.isA_bd h.hA
 obtain ⟨B,hBe⟩ : ∃B,B=45000:=⟨_,rfl⟩
 obtain ⟨B2,hB2⟩ : ∃B,B=16641:=⟨_,rfl⟩
 have hI:=interval_ok K p neg e u m n h.hK h.hP h.fl h.hu h.hue h.hn h.hs
 have hR:=ratio_ok 1 neg e m 0 h.fl.mB (by omega) (by omega)
 rw [show (0:Int).toNat=0 from rfl,show (-0:Int).toNat=0 from rfl,Nat.pow_zero,Nat.mul_one,Nat.mul_one] at hR
 have hL:=wLog_ok (Zq m e) (Zy e) B2 a (by omega) (EY h.fl.m0) (V3 e) (yJ h.fl.mB hi (by omega)) (yH lo (by omega)) h.hA
 have hround : ∀(cx:Cx) (w0:World) (d':Nat),1≤d'→d'≤d→QQ Tryz.prog none cx w0 (ZH Tryz.f53 [1,1,1,1,1,0,0,0,0]) (shS d' a (u-2) (QX (4*n)) (QX (4*n-fB (gK K) m (e+blN m-1))) (QX (4*n+2)) (decide (n%2=0)))
  (shQ (shF K m e u n a d') (a-d'+1) (fun σ=>∀x w,Rel cx w0 σ x w→Rel cx w0 (shS d' a (u-2) (QX (4*n)) (QX (4*n-fB (gK K) m (e+blN m-1))) (QX (4*n+2)) (decide (n%2=0))) x w)):=fun cx w0 d' k1 k2=>by
  have q1:=q_eq (m:=m) (e:=e) (u:=u) (s:=a-d'+1) hue
  rw [←h.hn] at q1
  have h3:=EJ (d:=d'-1) (V3 e) h.hA
  rw [show a-((d'-1:Nat):Int)=a-d'+1 from by omega,Nat.sub_add_cancel k1] at h3
  obtain ⟨c,hc⟩ : ∃c,c=256:=⟨_,rfl⟩
  have h4:=four_lt (n:=n) (c:=c) (by rw [hc];exact h.hnB)
  have h5:=shU_lt (u:=u) (s:=a-d'+1) (B:=B) (by omega) (by omega) (by omega)
  have h6:=shW_lt (u:=u) (s:=a-d'+1) (B:=40000) (by omega) (by omega) (Nat.le_refl _)
  have h7:4*n*shW u (a-d'+1)<2^B:=by
   obtain ⟨c2,hc2⟩ : ∃c,c=40000:=⟨_,rfl⟩
   rw [←hc2] at h6
   refine Nat.lt_of_lt_of_le (Nat.mul_lt_mul_of_lt_of_lt (Nat.lt_of_le_of_lt (Nat.le_add_right _ 2) h4) h6) ?_
   rw [←Nat.pow_add]
   exact Nat.pow_le_pow_right (by decide) (by omega)
  have h8:shW u (a-d'+1)<2^B:=shW_lt (by omega) (by omega) (by omega)
  have h9:4*n+2<2^B:=Nat.lt_of_lt_of_le h4 (Nat.pow_le_pow_right (by decide) (by omega))
  have:=sh_round (cx:=cx) (w0:=w0) n (fB (gK K) m (e+blN m-1)) B u a d' (by omega) (by omega) hab (by omega) h5 h7 h8 h9 (by rw [q1.1];exact Nat.lt_of_lt_of_le h3.2.2 (Nat.pow_le_pow_right (by decide) (by omega)))
  rw [q1.1,q1.2] at this
  exact this
 have hnone:=hd.none
 have hsome:=hd.some
 have hl:(Qv k).length=(Qv k).length:=rfl
 obtain ⟨F,hF⟩ : ∃F,F=shF K m e u n a:=⟨_,rfl⟩
 rw [←hF] at hround hnone hsome
 obtain ⟨rs,hrs⟩ : ∃rs,rs=fun (k d:Nat)=>[R.v true (.str (bs (trR (Qv k)))),R.v true (.int .i64 (a-d+1+(Qv k).length-1))]:=⟨_,rfl⟩
 have hret : ∀σ (k' d':Nat),QK Tryz.prog Tryz.f53 σ [.v true (.str (bs (trR (Qv k')))),.v true (.int .i64 (a-d'+1+(Qv k').length-1))]→QK Tryz.prog Tryz.f53 σ (rs k' d'):=fun σ k' d' h=>by rw [hrs];exact h
 have hgoal:rs k d=[.v true (.str (bs (trR (Qv k)))),.v true (.int .i64 (a-d+1+(Qv k).length-1))]:=by rw [hrs]
 rw [←hgoal]
 obtain ⟨A,hA⟩ : ∃x,x=QX (4*n):=⟨_,rfl⟩
 obtain ⟨Lo,hLo⟩ : ∃x,x=QX (4*n-fB (gK K) m (e+blN m-1)):=⟨_,rfl⟩
 obtain ⟨Hi,hHi⟩ : ∃x,x=QX (4*n+2):=⟨_,rfl⟩
 obtain ⟨wth,hw⟩ : ∃x,x=decide (n%2=0):=⟨_,rfl⟩
 rw [←hA,←hLo,←hHi,←hw] at hI
 rw [←hA,←hLo,←hHi,←hw] at hround
 obtain ⟨e',he'⟩ : ∃x,x=u-2:=⟨_,rfl⟩
 rw [←he'] at hI hround
 obtain ⟨N1,hN1⟩ : ∃x,x=QX (Zq m e):=⟨_,rfl⟩
 obtain ⟨D1,hD1⟩ : ∃x,x=QX (Zy e):=⟨_,rfl⟩
 rw [←hN1,←hD1] at hR hL
 have hmv:QZ (QX m) = .sl 1 ((QX m).map fun n=>.int .u64 n):=rfl
 have hR:QU Tryz.prog 80 [.v (Q9 1 neg e (QX m)),.v (.int .i64 0)] [.v true (QZ N1),.v true (QZ D1)]:=hR
 unfold YG at hI ⊢
 unfold Q9 at hR
 have e1:((1:Nat):Int)=1:=rfl
 rw [e1] at hI ⊢
 rw [hmv] at hR hI ⊢
 obtain ⟨M,hM⟩ : ∃M,M=(QX m).map fun n=>V.int .u64 n:=⟨_,rfl⟩
 rw [←hM] at hR hI ⊢
 obtain ⟨kf,hkf⟩ : ∃k:Int,k=((K+1:Nat):Int):=⟨_,rfl⟩
 rw [←hkf] at hI ⊢
 unfold Q3 at hI ⊢
 clear hkf hM e1 hmv hD1 hN1 he' hw hHi hLo hA hgoal hrs hF hd h hBe hl lo hi hue hs
 refine QU.of Tryz.func53 rfl rfl fun cx w0=>?_
 rw [show Tryz.f53.ntmps=132 from rfl]
 refine zs0 ?_
 refine zs2 (ρ:=fun _=>[.v true (.agg [QZ Lo,QZ Hi]),.v true (QZ A),.v true (.int .i64 e'),.v true (.bool wth)]) (o:=by repeat' first|exact hI|trivial|constructor) (k:=?_)
 refine zs2 (ρ:=fun _=>[.v true (QZ N1),.v true (QZ D1)]) (o:=by repeat' first|exact hR|trivial|constructor) (k:=?_)
 refine zs2 (ρ:=fun _=>[.v true (.int .i64 a)]) (o:=by repeat' first|exact hL|trivial|constructor) (k:=?_)
 refine zs0 ?_
 refine QQ.mono (Q:=NR (fun _=>False) (fun σ=>QK Tryz.prog Tryz.f53 σ (rs k d))) ?_ (fun x σ hx=>by cases x <;> first|exact hx.elim|exact hx)
 refine QQ.loopB (fun d':Nat=>shS d' a e' A Lo Hi wth) (fun d'=>1≤d'∧d'≤d) (fun d'=>d-d') 1 ⟨by decide,hd1⟩ (fun x w h=>Rel.keep [13,12,6,7,8,9] [6,9] h) ?_
 rintro d' ⟨k1,k2⟩
 refine QQ.seq (QQ.block ?_)
 refine QQ.mono (hround cx w0 d' k1 k2) fun x σ hx=>?_
 cases x with
 | normal=>exact hx.elim
 | goto l=>exact hx.elim
 | panic=>exact hx.elim
 | outgrown=>exact hx.elim
 | ret =>
   obtain ⟨k',hk',hr⟩:=hx
   have hdd:d'=d:=by
    rcases Nat.lt_or_ge d' d with h1|h1
    ·rw [hnone d' k1 h1] at hk';cases hk'
    ·omega
   subst hdd
   rw [hsome] at hk'
   cases hk'
   exact hret σ _ _ hr
 | exit id =>
   obtain ⟨rfl,hno,hM⟩:=hx
   refine blockQ_same ?_
   have hlt:d'<d:=by
    rcases Nat.lt_or_ge d' d with h1|h1
    ·exact h1
    ·rw [show d'=d from by omega,hsome] at hno;cases hno
   have wk:IntKind.i64.wrap ((d':Int)+1)=((d'+1:Nat):Int):=by rw [QV] <;> omega
   show QQ _ _ _ _ _ _ _
   refine QQ.from hM ?_
   unfold shS
   refine zr1 wk ?_
   exact ⟨d'+1,⟨by omega,by omega⟩,(show d-(d'+1)<d-d' by omega),fun x w h=>Rel.keep [13,12,6,7,8,9] [6,9] h⟩
theorem hoI_sh {K p m:Nat} {e:Int} (hK:1≤K∧K≤14) (hP:2≤p∧p≤256) (h:hoI K p e m=true) (hm:0<m) : ∃u n a,ShH K p m e u n a:=by
 have h:=of_decide_eq_true h
 have hg:=U6 hK
 obtain ⟨b1,b2⟩:=U3 hm
 have b3:m<2^blN m:=by rw [blN,if_neg (by omega)];exact Nat.lt_log2_self
 obtain ⟨u,hu⟩ : ∃u,u=fU p (gK K) (e+blN m-1):=⟨_,rfl⟩
 have hu':=hu
 unfold fU at hu'
 obtain ⟨a,hA⟩:=isA_ex (num:=Zq m e) (den:=Zy e) (EY hm) (V3 e)
 obtain ⟨b,hb⟩ : ∃b,b=blN m:=⟨_,rfl⟩
 rw [←hb] at hu' h b2 b3
 have mB:m<2^256:=Nat.lt_of_lt_of_le b3 (Nat.pow_le_pow_right (by decide) (by omega))
 refine ⟨u,_,a,hK,hP,⟨hm,mB,by omega,by omega⟩,hu,by omega,by omega,rfl,?_,hA⟩
 have h1:m*2^(e-u).toNat<2^b*2^(e-u).toNat:=Nat.mul_lt_mul_of_pos_right b3 (Nat.pow_pos (by decide))
 rw [←Nat.pow_add] at h1
 exact Nat.lt_of_lt_of_le h1 (Nat.pow_le_pow_right (by decide) (by omega))
set_option maxHeartbeats 2000000 in
theorem Az (k P kd0 e0 kd ex E:Int) (n0 ng:Bool) (L ms:List V) (res:List UInt8)
 (hN:QU Tryz.prog 49 [.v (.agg [.int .i64 k,.int .i64 P]),.v (.int .i64 0),.v (.bool false),.v (.agg [.int .i64 kd0,.bool n0,.int .i64 e0,.sl 1 L])] [.v true (.agg [.int .i64 kd,.bool ng,.int .i64 ex,.sl 1 ms]),.v true (.int .i64 E)])
 (hE:E≠0→res=[]) (h3:E=0→kd=3∨kd=2→res=spL kd ng) (h0:E=0→kd=0→res=smL ng [48])
 (h1:E=0 → ¬(kd=3∨kd=2)→kd≠0 → ∃d x,QU Tryz.prog 53 [.v (.agg [.int .i64 k,.int .i64 P]),.v (.agg [.int .i64 kd,.bool ng,.int .i64 ex,.sl 1 ms])] [.v true (.str (bs d)),.v true (.int .i64 x)]∧d.length<900000∧(-1000000<x∧x<1000000)∧(UV d x).length<10000000∧res=smL ng (UV d x)) :
 QU Tryz.prog 14 [.v (.agg [.int .i64 k,.int .i64 P]),.v (.agg [.int .i64 kd0,.bool n0,.int .i64 e0,.sl 1 L])] [.v true (.str (bs res)),.v true (.int .i64 E)]:=by
 refine QU.of Tryz.func14 rfl rfl fun cx w0=>?_
 rw [show Tryz.f14.ntmps=40 from rfl]
 refine zs0 ?_
 refine zs2 (ρ:=fun _=>[.v true (.agg [.int .i64 kd,.bool ng,.int .i64 ex,.sl 1 ms]),.v true (.int .i64 E)]) (o:=by repeat' first|exact hN|trivial|constructor) (k:=?_)
 refine QQ.seq ?_
 by_cases hE0:E=0
 ·subst hE0
  have h3:=h3 rfl
  have h0:=h0 rfl
  have h1:=h1 rfl
  clear hE hN
  refine zs0 ?_
  refine QQ.condF rfl (QQ.skip ?_)
  show QQ _ _ _ _ _ _ _
  have hS:=J5 kd ng ex 0 ms
  refine QQ.seq ?_
  by_cases hk:kd=3∨kd=2
  ·rw [h3 hk]
   rw [decide_eq_true hk] at hS
   obtain ⟨s,hs⟩ : ∃s,s=bs (spL kd ng):=⟨_,rfl⟩
   rw [←hs] at hS ⊢
   clear h3 h0 h1 hs
   refine zs2 (ρ:=fun _=>[.v true (.str s),.v true (.bool true)]) (o:=by repeat' first|exact hS|trivial|constructor) (k:=?_)
   refine zs0 ?_
   refine QQ.condT rfl ?_
   refine zs0 ?_
   exact QQ.ret (QK.vs rfl (by exact ⟨⟨rfl,id⟩,⟨rfl,id⟩,trivial⟩) rfl)
  ·rw [decide_eq_false hk] at hS
   have h1:=h1 hk
   obtain ⟨s,hs⟩ : ∃s,s=bs (spL kd ng):=⟨_,rfl⟩
   rw [←hs] at hS
   clear h3 hs
   refine zs2 (ρ:=fun _=>[.v true (.str s),.v true (.bool false)]) (o:=by repeat' first|exact hS|trivial|constructor) (k:=?_)
   refine zs0 ?_
   refine QQ.condF rfl (QQ.skip ?_)
   show QQ _ _ _ _ _ _ _
   refine QQ.seq ?_
   by_cases hz:kd=0
   ·rw [h0 hz]
    subst hz
    have hM:=Uy ng [48] (by decide)
    obtain ⟨t,ht⟩ : ∃s,s=bs (smL ng [48]):=⟨_,rfl⟩
    rw [←ht] at hM ⊢
    have hM:QU Tryz.prog 51 [.v (.bool ng),.v (.str ⟨#[48]⟩)] [.v true (.str t)]:=hM
    clear h0 h1 ht
    refine zs0 ?_
    refine QQ.condT rfl ?_
    refine zs2 (ρ:=fun _=>[.v true (.str t)]) (o:=by repeat' first|exact hM|trivial|constructor) (k:=?_)
    exact QQ.ret (QK.vs rfl (by exact ⟨⟨rfl,id⟩,⟨rfl,id⟩,trivial⟩) rfl)
   ·obtain ⟨d,x,c1,c2,c3,c4,c5⟩:=h1 hz
    rw [c5]
    have hY:=layout_ok d x c2 (by omega)
    have hM:=Uy ng (UV d x) c4
    obtain ⟨t1,ht1⟩ : ∃s,s=bs d:=⟨_,rfl⟩
    obtain ⟨t2,ht2⟩ : ∃s,s=bs (UV d x):=⟨_,rfl⟩
    obtain ⟨t3,ht3⟩ : ∃s,s=bs (smL ng (UV d x)):=⟨_,rfl⟩
    rw [←ht1] at c1 hY
    rw [←ht2] at hY hM
    rw [←ht3] at hM ⊢
    clear h0 h1 ht1 ht2 ht3 c2 c3 c4 c5
    refine zs1 hz ?_
    refine QQ.condF rfl (QQ.skip ?_)
    show QQ _ _ _ _ _ _ _
    refine zd2 [] (ρ:=fun y=>if y=35 then [.v true (.str t1),.v true (.int .i64 x)] else if y=38 then [.v true (.str t2)] else [.v true (.str t3)]) (o:=by repeat' first|exact c1|exact hY|exact hM|trivial|constructor) (k:=?_)
    exact QQ.ret (QK.vs rfl (by exact ⟨⟨rfl,id⟩,⟨rfl,id⟩,trivial⟩) rfl)
 ·rw [hE hE0]
  refine zs1 hE0 ?_
  refine QQ.condT rfl ?_
  refine zs0 ?_
  exact QQ.ret (QK.vs rfl (by exact ⟨⟨rfl,id⟩,⟨rfl,id⟩,trivial⟩) rfl)
set_option maxHeartbeats 2000000 in
theorem q8 (k P kd0 e0 kd ex E:Int) (n0 ng:Bool) (L ms:List V) (s:ByteArray) (hx : -1000000<ex∧ex<1000000)
 (hN:QU Tryz.prog 49 [.v (.agg [.int .i64 k,.int .i64 P]),.v (.int .i64 0),.v (.bool false),.v (.agg [.int .i64 kd0,.bool n0,.int .i64 e0,.sl 1 L])] [.v true (.agg [.int .i64 kd,.bool ng,.int .i64 ex,.sl 1 ms]),.v true (.int .i64 E)])
 (hE:E≠0→s=⟨#[]⟩) (h3:E=0→kd=3∨kd=2→s=bs (spL kd ng))
 (h1:E=0 → ¬(kd=3∨kd=2)→0≤ex → ∃(u:List Int) (t:ByteArray),QU Tryz.prog 55 [.v (.sl 1 ms),.v (.int .i64 ex)] [.v true (QZ u)]∧QU Tryz.prog 54 [.v (QZ u)] [.v true (.str t)]∧QU Tryz.prog 51 [.v (.bool ng),.v (.str t)] [.v true (.str s)])
 (h2:E=0 → ¬(kd=3∨kd=2)→ex<0 → ∃(u v:List Int) (t t2:ByteArray),QU Tryz.prog 58 [.v (.sl 1 [.int .u64 5]),.v (.int .i64 (-ex))] [.v true (QZ u)]∧QU Tryz.prog 57 [.v (.sl 1 ms),.v (QZ u)] [.v true (QZ v)]∧QU Tryz.prog 54 [.v (QZ v)] [.v true (.str t)]∧QU Tryz.prog 56 [.v (.str t),.v (.int .i64 (-ex))] [.v true (.str t2)]∧QU Tryz.prog 51 [.v (.bool ng),.v (.str t2)] [.v true (.str s)]) :
 QU Tryz.prog 15 [.v (.agg [.int .i64 k,.int .i64 P]),.v (.agg [.int .i64 kd0,.bool n0,.int .i64 e0,.sl 1 L])] [.v true (.str s),.v true (.int .i64 E)]:=by
 refine QU.of Tryz.func15 rfl rfl fun cx w0=>?_
 rw [show Tryz.f15.ntmps=54 from rfl]
 refine zs0 ?_
 refine zs2 (ρ:=fun _=>[.v true (.agg [.int .i64 kd,.bool ng,.int .i64 ex,.sl 1 ms]),.v true (.int .i64 E)]) (o:=by repeat' first|exact hN|trivial|constructor) (k:=?_)
 clear hN
 refine QQ.seq ?_
 by_cases hE0:E=0
 ·subst hE0
  have h1:=h1 rfl
  have h2:=h2 rfl
  have h3:=h3 rfl
  clear hE
  refine zs0 ?_
  refine QQ.condF rfl (QQ.skip ?_)
  show QQ _ _ _ _ _ _ _
  have hS:=J5 kd ng ex 0 ms
  refine QQ.seq ?_
  by_cases hk:kd=3∨kd=2
  ·have hs:=h3 hk
   rw [decide_eq_true hk,←hs] at hS
   clear h3 h1 h2 hs
   refine zs2 (ρ:=fun _=>[.v true (.str s),.v true (.bool true)]) (o:=by repeat' first|exact hS|trivial|constructor) (k:=?_)
   refine zs0 ?_
   refine QQ.condT rfl ?_
   refine zs0 ?_
   exact QQ.ret (QK.vs rfl (by exact ⟨⟨rfl,id⟩,⟨rfl,id⟩,trivial⟩) rfl)
  ·have h1:=h1 hk
   have h2:=h2 hk
   rw [decide_eq_false hk] at hS
   obtain ⟨t0,ht⟩ : ∃s,s=bs (spL kd ng):=⟨_,rfl⟩
   rw [←ht] at hS
   clear h3 ht
   refine zs2 (ρ:=fun _=>[.v true (.str t0),.v true (.bool false)]) (o:=by repeat' first|exact hS|trivial|constructor) (k:=?_)
   refine zs0 ?_
   refine QQ.condF rfl (QQ.skip ?_)
   show QQ _ _ _ _ _ _ _
   have wn:IntKind.i64.wrap (0-ex) = -ex:=by rw [QV] <;> omega
   have w2:(if -ex<0 then (0:Int) else -ex)=((-ex).toNat:Int):=by split <;> omega
   refine zs1 (an wn <| w2) ?_
   refine QQ.from (σ' := {nt:=54,env:=[(9,.v true (.int .i64 ((-ex).toNat:Nat))),(3,.ptr 3 0 [] 0)],mem:=[(3,.box 28 (.v false (.agg [.int .i64 kd,.bool ng,.int .i64 ex,.sl 1 ms])))]}) (fun a w h=>Rel.keep [9,3] [3] h) ?_
   refine QQ.seq ?_
   by_cases g:0≤ex
   ·obtain ⟨u,t,c1,c2,c3⟩:=h1 g
    clear h1 h2
    refine zs1 g ?_
    refine QQ.condT rfl ?_
    refine zd2 [] (ρ:=fun y=>if y=39 then [.v true (QZ u)] else if y=40 then [.v true (.str t)] else [.v true (.str s)]) (o:=by repeat' first|exact c1|exact c2|exact c3|trivial|constructor) (k:=?_)
    exact QQ.ret (QK.vs rfl (by exact ⟨⟨rfl,id⟩,⟨rfl,id⟩,trivial⟩) rfl)
   ·obtain ⟨u,v,t,t2,c1,c2,c3,c4,c5⟩:=h2 (by omega)
    clear h1 h2
    have en : -ex=((-ex).toNat:Int):=by omega
    rw [en] at c1 c4
    obtain ⟨m,hm⟩ : ∃m,m=(-ex).toNat:=⟨_,rfl⟩
    rw [←hm] at c1 c4 ⊢
    refine zs1 g ?_
    refine QQ.condF rfl (QQ.skip ?_)
    show QQ _ _ _ _ _ _ _
    refine zd2 [] (ρ:=fun y=>if y=48 then [.v true (QZ u)] else if y=49 then [.v true (QZ v)] else if y=50 then [.v true (.str t)] else if y=52 then [.v true (.str t2)] else [.v true (.str s)]) (o:=by repeat' first|exact c1|exact c2|exact c3|exact c4|exact c5|trivial|constructor) (k:=?_)
    exact QQ.ret (QK.vs rfl (by exact ⟨⟨rfl,id⟩,⟨rfl,id⟩,trivial⟩) rfl)
 ·obtain rfl:=hE hE0
  refine zs1 hE0 ?_
  refine QQ.condT rfl ?_
  refine zs0 ?_
  exact QQ.ret (QK.vs rfl (by exact ⟨⟨rfl,id⟩,⟨rfl,id⟩,trivial⟩) rfl)
theorem rep_flt {w:World} {ok:Nat→Prop} {k:Int} {neg:Bool} {e:Int} {l:List Int} {cs:List Value} (h:Rep w ok (Q9 k neg e l) cs) : ∃sv,cs=[.int .i64 k,.bool neg,.int .i64 e,sv] ∧ ∃ds,Rep w ok (QZ l) ds∧sv=(QZ l).toVal ds:=by
 unfold Q9 at h
 rw [Rep,Qf] at h
 obtain ⟨a1,r1,rfl,h1,h⟩:=h
 rw [Qf] at h
 obtain ⟨a2,r2,rfl,h2,h⟩:=h
 rw [Qf] at h
 obtain ⟨a3,r3,rfl,h3,h⟩:=h
 rw [Qf] at h
 obtain ⟨a4,r4,rfl,h4,h⟩:=h
 rw [Qf] at h
 subst h
 rw [Rep] at h1
 rw [Rep] at h2
 rw [Rep] at h3
 subst h1
 subst h2
 subst h3
 have hl:=Rep.length h4
 have : ∃x,a4=[x]:=by
  rw [show (QZ l).size=1 from rfl] at hl
  exact List.length_eq_one_iff.1 hl
 obtain ⟨x,rfl⟩:=this
 exact ⟨x,rfl,[x],h4,rfl⟩
theorem rep_flt_of {w:World} {ok:Nat→Prop} {k:Int} {neg:Bool} {e:Int} {l:List Int} {ds:List Value} (h:Rep w ok (QZ l) ds):Rep w ok (Q9 k neg e l) [.int .i64 k,.bool neg,.int .i64 e,(QZ l).toVal ds]:=by
 have hl:=Rep.length h
 rw [show (QZ l).size=1 from rfl] at hl
 obtain ⟨x,rfl⟩:=List.length_eq_one_iff.1 hl
 unfold Q9
 rw [Rep,Qf]
 refine ⟨[.int .i64 k],_,rfl,by rw [Rep],?_⟩
 rw [Qf]
 refine ⟨[.bool neg],_,rfl,by rw [Rep],?_⟩
 rw [Qf]
 refine ⟨[.int .i64 e],_,rfl,by rw [Rep],?_⟩
 rw [Qf]
 exact ⟨[x],[],rfl,h,by rw [Qf]⟩
theorem args_flt {w:World} {k:Int} {neg:Bool} {e:Int} {l:List Int} {sv:Value} {al:List Arg} {vs:List Value} (h:WV w l sv) (hr:QF w (fun _=>True) al vs):QF w (fun _=>True) (.v (Q9 k neg e l)::al) (.agg #[.int .i64 k,.bool neg,.int .i64 e,sv]::vs):=by
 rw [QF]
 obtain ⟨ds,h1,rfl⟩:=h
 exact ⟨_,_,rfl,by rw [Q6];exact ⟨_,rep_flt_of h1,rfl⟩,hr⟩
theorem args_b {w:World} {b:Bool} {al:List Arg} {vs:List Value} (hr:QF w (fun _=>True) al vs):QF w (fun _=>True) (.v (.bool b)::al) (.bool b::vs):=by
 rw [QF]
 exact ⟨_,_,rfl,by rw [Q6];exact ⟨[.bool b],by rw [Rep],rfl⟩,hr⟩
theorem args_s {w:World} {b:ByteArray} {al:List Arg} {vs:List Value} (hr:QF w (fun _=>True) al vs):QF w (fun _=>True) (.v (.str b)::al) (.string b::vs):=by
 rw [QF]
 exact ⟨_,_,rfl,by rw [Q6];exact ⟨[.string b],by rw [Rep],rfl⟩,hr⟩
theorem args_fmt {w:World} {k P:Int} {al:List Arg} {vs:List Value} (hr:QF w (fun _=>True) al vs):QF w (fun _=>True) (.v (Q3 k P)::al) (.agg #[.int .i64 k,.int .i64 P]::vs):=by
 rw [QF]
 refine ⟨_,_,rfl,?_,hr⟩
 rw [Q6]
 refine ⟨[.int .i64 k,.int .i64 P],?_,rfl⟩
 unfold Q3
 rw [Rep,Qf]
 refine ⟨[.int .i64 k],_,rfl,by rw [Rep],?_⟩
 rw [Qf]
 exact ⟨[.int .i64 P],[],rfl,by rw [Rep],by rw [Qf]⟩
theorem WVB.kept {B:Nat} {w w':World} {l:List Int} {v:Value} (h:WVB B w l v) (hb:Below w.heap.size w w'):WVB B w' l v:=by
 obtain ⟨cs,h1,h2⟩:=h
 refine ⟨cs,Rep.mono (fun b o v hb' hv=>?_) (fun b hb'=>⟨hb'.1,Nat.lt_of_lt_of_le hb'.2 hb.size⟩) h1,h2⟩
 rw [←hv]
 exact World.cell?_of_block (w:=w) (a:=⟨b,o,none⟩) (hb.block b hb'.2)
theorem WVB.wv {B:Nat} {w:World} {l:List Int} {v:Value} (h:WVB B w l v):WV w l v:=h.to (Nat.le_refl _) fun _ _ _=>rfl
structure HxW (w wx:World) (cs:List Value) (l:List Int) (sv:Value):Prop where
 below:Below w.heap.size w wx
 blk:wx.heap[w.heap.size+1]?=some (.cells cs.toArray 28 (0,0))
 wv:WVB (w.heap.size+2) wx l sv
theorem HxW.kept {w wx wy:World} {cs:List Value} {l:List Int} {sv:Value} (h:HxW w wx cs l sv) (hb:Below wx.heap.size wx wy):HxW w wy cs l sv where
 below:=h.below.trans ⟨hb.os,hb.tape,hb.output,hb.size,fun k hk=>hb.block k (Nat.lt_of_lt_of_le hk h.below.size)⟩
 blk:=by
  rw [←h.blk]
  refine hb.block _ ?_
  rcases Nat.lt_or_ge (w.heap.size+1) wx.heap.size with h1|h1
  ·exact h1
  ·have:=h.blk;rw [Array.getElem?_eq_none h1] at this;cases this
 wv:=h.wv.kept hb
def Gx (m:Nat) (z:Int):Bool:=if 0≤z then VE m z.toNat else false
def hxP (m:Nat) (at_:Int):Nat→Nat
 | 0=>0
 | i+1=>2*hxP m at_ i+if Gx m (at_-i) then 1 else 0
theorem hxP_lt (m:Nat) (at_:Int) : ∀i,hxP m at_ i<2^i
 | 0=>by simp [hxP]
 | i+1=>by rw [hxP,Nat.pow_succ];have:=hxP_lt m at_ i;split <;> omega
def HE (d:Nat):UInt8:=if d<10 then UInt8.ofNat (48+d) else UInt8.ofNat (87+d)
def hxL (m:Nat):Nat→Int→List UInt8
 | 0,_=>[]
 | g+1,at_=>HE (hxP m at_ 4)::hxL m g (at_-4)
theorem HxW.cells {w wx:World} {a b c d:Value} {l:List Int} {sv:Value} (h:HxW w wx [a,b,c,d] l sv):wx.cell? ⟨w.heap.size+1,0,none⟩=some a∧wx.cell? ⟨w.heap.size+1,1,none⟩=some b∧wx.cell? ⟨w.heap.size+1,2,none⟩=some c∧wx.cell? ⟨w.heap.size+1,3,none⟩=some d:=by
 have:=h.blk
 exact ⟨by rw [Lib.cell_of_heap this];rfl,by rw [Lib.cell_of_heap this];rfl,by rw [Lib.cell_of_heap this];rfl,by rw [Lib.cell_of_heap this];rfl⟩
def hxD (m:Nat):List UInt8:=hxL m ((blN m-1+3)/4) (((blN m-1:Nat):Int)-1)
def hxS (kd:Int) (ng:Bool) (ex:Int) (m:Nat):List UInt8:=if kd=3∨kd=2 then spL kd ng else if kd=0 then smL ng [48,120,48,112,43,48] else smL ng (48::120::49::(if hxD m=[] then [] else 46::hxD m)++112::sgL (ex+(blN m-1:Nat)) 1)
def hxR (E kd:Int) (ng:Bool) (ex:Int) (m:Nat):List UInt8:=if E=0 then hxS kd ng ex m else []
theorem QU.calls2 {P:Program} {f:FuncId} {args:List Arg} {n1 n2:Bool} {y1 y2:V} {v1 v2:Value} {w:World} (h:QU P f args [.v n1 y1,.v n2 y2]) (hent : ∀vs w,(callFunc f vs).run P w = .ok (.enter f vs) w)
 (hy1 : ∀w ok cs,Rep w ok y1 cs→y1.toVal cs=v1) (hy2 : ∀w ok cs,Rep w ok y2 cs→y2.toVal cs=v2) {vs:List Value} (hG:GL w) (ha:QF w (fun _=>True) args vs):Calls P f vs.toArray w fun e w'=>e = .returned (.tuple #[v1,v2])∧Below w.heap.size w w':=by
 refine (h.callsV hent hG ha).mono ?_
 rintro e w' ⟨val,μ',rfl,h1,h2⟩
 rw [show R.res [R.v n1 y1,R.v n2 y2] = .tup [.v n1 y1,.v n2 y2] from rfl,QJ] at h2
 obtain ⟨vs,rfl,h2⟩:=h2
 rw [Qz] at h2
 obtain ⟨v1,vr,rfl,h3,h4⟩:=h2
 rw [Qz] at h4
 obtain ⟨v2,vr,rfl,h5,h6⟩:=h4
 rw [Qz] at h6
 subst h6
 rw [QJ] at h3 h5
 obtain ⟨cs,h7,rfl⟩:=h3
 obtain ⟨ds,h8,rfl⟩:=h5
 rw [hy1 _ _ _ h7,hy2 _ _ _ h8]
 exact ⟨rfl,h1⟩
theorem rep_s {s:ByteArray} : ∀(w:World) ok cs,Rep w ok (.str s) cs→(V.str s).toVal cs = .string s:=fun w ok cs h=>by rw [Rep] at h;subst h;rfl
theorem rep_b {b:Bool} : ∀(w:World) ok cs,Rep w ok (.bool b) cs→(V.bool b).toVal cs = .bool b:=fun w ok cs h=>by rw [Rep] at h;subst h;rfl
theorem rep_i {k:IntKind} {n:Int} : ∀(w:World) ok cs,Rep w ok (.int k n) cs→(V.int k n).toVal cs = .int k n:=fun w ok cs h=>by rw [Rep] at h;subst h;rfl
theorem Av (kd ex:Int) (ng:Bool) (m:Nat) (v:Value) (w:World) (hG:GL w) (hv:WV w (QX m) v):Calls Tryz.prog 50 #[.agg #[.int .i64 kd,.bool ng,.int .i64 ex,v]] w fun e w'=>e = .returned (.tuple #[.string (bs (spL kd ng)),.bool (decide (kd=3∨kd=2))])∧Below w.heap.size w w' :=
 (J5 kd ng ex 0 ((QX m).map fun n=>.int .u64 n)).calls2 (enters_of Tryz.func50 (by kernel_rfl) rfl) rep_s rep_b hG (vs:=[.agg #[.int .i64 kd,.bool ng,.int .i64 ex,v]]) (args_flt (l:=QX m) hv Hu)
theorem HU (ng:Bool) (l:List UInt8) (hl:l.length<10000000) (w:World) (hG:GL w):Calls Tryz.prog 51 #[.bool ng,.string (bs l)] w fun e w'=>e = .returned (.string (bs (smL ng l)))∧Below w.heap.size w w' :=
 (Uy ng l hl).calls1 (enters_of Tryz.func51 (by kernel_rfl) rfl) rep_s hG (vs:=[.bool ng,.string (bs l)]) (args_b (args_s Hu))
theorem len_calls (m:Nat) (hm:(QX m).length<100000) (v:Value) (w:World) (hG:GL w) (hv:WV w (QX m) v):Calls Tryz.prog 59 #[v] w fun e w'=>e = .returned (.int .i64 (blN m:Nat))∧Below w.heap.size w w':=by
 have:=H4 (QX m) hm (QY m).1
 rw [(QY m).2.2] at this
 exact this.calls1 (enters_of Tryz.func59 (by kernel_rfl) rfl) rep_i hG (vs:=[v]) (Cz hv Hu)
theorem Fy (n:Int) (hn : -4611686018427387904<n∧n<4611686018427387904) (w:World) (hG:GL w):Calls Tryz.prog 64 #[.int .i64 n,.int .i64 1] w fun e w'=>e = .returned (.string (bs (sgL n 1)))∧Below w.heap.size w w' :=
 (qX n 1 hn (by decide)).calls1 (enters_of Tryz.func64 (by kernel_rfl) rfl) rep_s hG (vs:=[.int .i64 n,.int .i64 1]) (AC (AC Hu))
theorem hex_get : ∀(d:Nat) (h:d<(ByteArray.mk #[48,49,50,51,52,53,54,55,56,57,97,98,99,100,101,102]).size),(ByteArray.mk #[48,49,50,51,52,53,54,55,56,57,97,98,99,100,101,102])[d]=HE d
 | 0,_=>rfl|1,_=>rfl|2,_=>rfl|3,_=>rfl|4,_=>rfl|5,_=>rfl|6,_=>rfl|7,_=>rfl
 | 8,_=>rfl|9,_=>rfl|10,_=>rfl|11,_=>rfl|12,_=>rfl|13,_=>rfl|14,_=>rfl|15,_=>rfl
 | n+16,h=>absurd h (by show ¬n+16<16;omega)
theorem bit_calls (m:Nat) (z:Int) (hm:(QX m).length<100000) (hz:z<1000000) (v:Value) (w:World) (hG:GL w) (hv:WV w (QX m) v):Calls Tryz.prog 60 #[v,.int .i64 z] w fun e w'=>e = .returned (.bool (Gx m z))∧Below w.heap.size w w':=by
 have h:QU Tryz.prog 60 [.v (QZ (QX m)),.v (.int .i64 z)] [.v true (.bool (Gx m z))]:=by
  unfold Gx
  split
  ·have:=CZ (QX m) z.toNat hm (by omega) (QY m).1
   rw [(QY m).2.2,show ((z.toNat:Nat):Int)=z from by omega] at this
   exact this
  ·exact wBitN_ok _ z (by omega)
 exact h.calls1 (enters_of Tryz.func60 (by kernel_rfl) rfl) (fun w ok cs h=>by rw [Rep] at h;subst h;rfl) hG (vs:=[v,.int .i64 z]) (Cz hv (AC Hu))
set_option maxHeartbeats 4000000 in
set_option maxRecDepth 1000000 in
theorem hex_calls (k P kd0 e0 kd ex E:Int) (n0 ng:Bool) (l:List Int) (m:Nat) (sv:Value) (w:World) (RS:List UInt8) (hRS:RS=hxR E kd ng ex m) (hG:GL w) (hv:WV w l sv)     (hm:m<2^256) (hx : -1000000<ex∧ex<1000000) (hmk:kd≠0 → ¬(kd=3∨kd=2)→0<m)
 (hN:QU Tryz.prog 49 [.v (Q3 k P),.v (.int .i64 0),.v (.bool false),.v (Q9 kd0 n0 e0 l)] [.v true (Q9 kd ng ex (QX m)),.v true (.int .i64 E)]) :
 Calls Tryz.prog 16 #[.agg #[.int .i64 k,.int .i64 P],.agg #[.int .i64 kd0,.bool n0,.int .i64 e0,sv]] w fun e w'=>e = .returned (.tuple #[.string (bs RS),.int .i64 E])∧Below w.heap.size w w':=by
 have cN : ∀wx,GL wx→WV wx l sv→Calls Tryz.prog 49 #[.agg #[.int .i64 k,.int .i64 P],.int .i64 0,.bool false,.agg #[.int .i64 kd0,.bool n0,.int .i64 e0,sv]] wx fun e w'=>∃sv',e = .returned (.tuple #[.agg #[.int .i64 kd,.bool ng,.int .i64 ex,sv'],.int .i64 E])∧WVB wx.heap.size w' (QX m) sv'∧Below wx.heap.size wx w':=fun wx hg hv=>by
  refine (hN.callsV (enters_of Tryz.func49 (by kernel_rfl) rfl) (vs:=[_,_,_,_]) hg (args_fmt (AC (args_b (args_flt hv Hu))))).mono ?_
  rintro e w' ⟨val,μ',rfl,h1,h2⟩
  rw [show R.res [R.v true (Q9 kd ng ex (QX m)),R.v true (.int .i64 E)] = .tup [.v true (Q9 kd ng ex (QX m)),.v true (.int .i64 E)] from rfl,QJ] at h2
  obtain ⟨vs,rfl,h2⟩:=h2
  rw [Qz] at h2
  obtain ⟨v1,vr,rfl,h3,h4⟩:=h2
  rw [Qz] at h4
  obtain ⟨v2,vr,rfl,h5,h6⟩:=h4
  rw [Qz] at h6
  subst h6
  rw [Qj.1 h5]
  rw [QJ] at h3
  obtain ⟨cs,h7,rfl⟩:=h3
  obtain ⟨x,rfl,ds,h8,rfl⟩:=rep_flt h7
  refine ⟨_,rfl,⟨ds,Rep.mono (fun _ _ _ _ hv=>hv) (fun b hb=>⟨?_,hb.1⟩) h8,rfl⟩,h1⟩
  rcases hb.2.2 with h|h
  ·exact h
  ·cases h.1
 have HRS:Hid (RS=hxR E kd ng ex m):=hRS
 clear hN hRS
 have hb0:Below w.heap.size w ((w.alloc (Obj.cells #[Value.int IntKind.i64 k,Value.int IntKind.i64 P] 23)).alloc (Obj.cells #[Value.int IntKind.i64 kd0,Value.bool n0,Value.int IntKind.i64 e0,sv] 28)):=((Below.refl _ _).alloc (Nat.le_refl _) _).alloc (by simp) _
 have cN1:=cN _ (hG.below hb0 (Nat.le_refl _)) (hv.below hb0)
 clear cN
 obtain ⟨w0,hw0⟩ : ∃W,W=((w.alloc (Obj.cells #[Value.int IntKind.i64 k,Value.int IntKind.i64 P] 23)).alloc (Obj.cells #[Value.int IntKind.i64 kd0,Value.bool n0,Value.int IntKind.i64 e0,sv] 28)):=⟨_,rfl⟩
 have hblk:w0.heap[w.heap.size+1]?=some (.cells #[.int .i64 kd0,.bool n0,.int .i64 e0,sv] 28 (0,0)):=by
  rw [hw0]
  have:=(MapKept.heap_alloc (w.alloc (Obj.cells #[Value.int IntKind.i64 k,Value.int IntKind.i64 P] 23)) (Obj.cells #[Value.int IntKind.i64 kd0,Value.bool n0,Value.int IntKind.i64 e0,sv] 28)).1
  simpa using this
 rw [←hw0] at hb0 cN1
 have hsz0:w0.heap.size=w.heap.size+2:=by rw [hw0];simp
 obtain ⟨A0,cap0,rfl⟩:=hv.shape
 go_enter Tryz.func16,Tryz.ntmps16
 go_wp2_with fail
 rw [←hw0]
 clear hw0
 refine cN1.mono ?_
 rintro e w1 ⟨sv',rfl,hv',hb1⟩
 have hblk1:w1.heap[w.heap.size+1]?=some (.cells #[.int .i64 kd0,.bool n0,.int .i64 e0,.slice A0 l.length cap0] 28 (0,0)):=(hb1.block _ (by omega)).trans hblk
 have c0:w1.cell? ⟨w.heap.size+1,0,none⟩=some (.int .i64 kd0):=by rw [Lib.cell_of_heap hblk1];rfl
 have c1:w1.cell? ⟨w.heap.size+1,1,none⟩=some (.bool n0):=by rw [Lib.cell_of_heap hblk1];rfl
 have c2:w1.cell? ⟨w.heap.size+1,2,none⟩=some (.int .i64 e0):=by rw [Lib.cell_of_heap hblk1];rfl
 have c3:w1.cell? ⟨w.heap.size+1,3,none⟩=some (.slice A0 l.length cap0):=by rw [Lib.cell_of_heap hblk1];rfl
 have f0:=Lib.frozen_of_heap hblk1 0
 have f1:=Lib.frozen_of_heap hblk1 1
 have f2:=Lib.frozen_of_heap hblk1 2
 have f3:=Lib.frozen_of_heap hblk1 3
 obtain ⟨A,c,rfl⟩:=hv'.wv.shape
 have HS:Hid (HxW w ((((w1.setCell ⟨w.heap.size+1,0,none⟩ (Value.int IntKind.i64 kd)).setCell ⟨w.heap.size+1,1,none⟩ (Value.bool ng)).setCell ⟨w.heap.size+1,2,none⟩ (Value.int IntKind.i64 ex)).setCell ⟨w.heap.size+1,3,none⟩ (Value.slice A (QX m).length c)) [.int .i64 kd,.bool ng,.int .i64 ex,.slice A (QX m).length c] (QX m) (.slice A (QX m).length c)):=by
  refine ⟨?_,?_,?_⟩
  ·have h1:Below w.heap.size w w1:=hb0.trans ⟨hb1.os,hb1.tape,hb1.output,hb1.size,fun k hk=>hb1.block k (by omega)⟩
   exact (((h1.setCell (p:=⟨w.heap.size+1,0,none⟩) (by simp) _).setCell (p:=⟨w.heap.size+1,1,none⟩) (by simp) _).setCell (p:=⟨w.heap.size+1,2,none⟩) (by simp) _).setCell (p:=⟨w.heap.size+1,3,none⟩) (by simp) _
  ·exact KC (cs:=[.int .i64 kd,.bool ng,.int .i64 ex,.slice A0 l.length cap0]) (KC (cs:=[.int .i64 kd,.bool ng,.int .i64 e0,.slice A0 l.length cap0]) (KC (cs:=[.int .i64 kd,.bool n0,.int .i64 e0,.slice A0 l.length cap0]) (KC (cs:=[.int .i64 kd0,.bool n0,.int .i64 e0,.slice A0 l.length cap0]) hblk1)))
  ·obtain ⟨cs,h1,h2⟩:=hv'
   rw [hsz0] at h1
   refine ⟨cs,Rep.mono (fun b o v hb' hv=>?_) (fun b hb'=>⟨hb'.1,by simpa using hb'.2⟩) h1,h2⟩
   rw [World.cell?_setCell_other _ _ _ _ (by simp),World.cell?_setCell_other _ _ _ _ (by simp),World.cell?_setCell_other _ _ _ _ (by simp),World.cell?_setCell_other _ _ _ _ (by simp)]
   exact hv
 clear hv' hb1 hb0 cN1 hv hblk hblk1
 by_cases hE:E=0
 ·subst hE
  go_wp2_with fail
  generalize hw2:((((w1.setCell ⟨w.heap.size+1,0,none⟩ (Value.int IntKind.i64 kd)).setCell ⟨w.heap.size+1,1,none⟩ (Value.bool ng)).setCell ⟨w.heap.size+1,2,none⟩ (Value.int IntKind.i64 ex)).setCell ⟨w.heap.size+1,3,none⟩ (Value.slice A (QX m).length c))=w2 at HS ⊢
  clear hw2 c0 c1 c2 c3 f0 f1 f2 f3
  have HG0:Hid (GL w):=hG
  have HG : ∀wx,Hid (HxW w wx [.int .i64 kd,.bool ng,.int .i64 ex,.slice A (QX m).length c] (QX m) (.slice A (QX m).length c))→GL wx:=fun wx h=>HG0.out.below h.out.below (Nat.le_refl _)
  clear hG
  refine (Av kd ex ng m _ _ (HG _ HS) HS.out.wv.wv).mono ?_
  rintro e w3 ⟨rfl,hb3⟩
  have HS3:=Z8 (HS.out.kept hb3)
  have HB3:=HS3.out.below
  clear HS hb3
  obtain ⟨k0,k1,k2,k3⟩:=HS3.out.cells
  by_cases hsp:kd=3∨kd=2
  ·have e1:RS=spL kd ng:=by rw [HRS.out];unfold hxR hxS;rw [if_pos rfl,if_pos hsp]
   go_wp2
   go_ret2
   exact ⟨by rw [e1];rfl,HB3⟩
  ·by_cases hz:kd=0
   ·have e1:RS=smL ng [48,120,48,112,43,48]:=by rw [HRS.out];unfold hxR hxS;rw [if_pos rfl];rw [if_neg hsp,if_pos hz]
    subst hz
    go_wp2_with fail
    refine (HU ng [48,120,48,112,43,48] (by decide) _ (HG _ HS3)).mono ?_
    rintro e w4 ⟨rfl,hb4⟩
    go_wp2
    go_ret2
    exact ⟨by rw [e1];rfl,(HS3.out.kept hb4).below⟩
   ·have HR:Hid (RS=smL ng (48::120::49::(if hxD m=[] then [] else 46::hxD m)++112::sgL (ex+(blN m-1:Nat)) 1)):=by have:=HRS.out;unfold hxR hxS at this;rw [if_pos rfl,if_neg hsp,if_neg hz] at this;exact this
    obtain ⟨n1,hn1⟩ : ∃n1,blN m=n1+1:=⟨blN m-1,by have:=(U3 (hmk hz hsp)).2;omega⟩
    have HR:Hid (RS=smL ng (48::120::49::(if hxD m=[] then [] else 46::hxD m)++112::sgL (ex+n1) 1)):=by have:=HR.out;rw [hn1] at this;exact this
    have HD:Hid (hxL m ((n1+3)/4) ((n1:Int)-1)=hxD m):=by unfold hxD;rw [hn1];exact rfl
    obtain ⟨DD,hDD⟩ : ∃D,D=hxD m:=⟨_,rfl⟩
    rw [←hDD] at HR HD
    have hL:=len_calls m (by have:=QC (n:=4) hm (by decide);omega) _ _ (HG _ HS3) HS3.out.wv.wv
    have HBl:Hid ((QX m).length<100):=by have:=QC (n:=4) hm (by decide);exact (by omega:(QX m).length<100)
    have hn1b:n1≤255:=by have:=X6 hm;omega
    rw [hn1,Int.natCast_add] at hL
    clear hDD hn1 hm hmk
    go_wp2_with fail
    refine hL.mono ?_
    rintro e w4 ⟨rfl,hb4⟩
    have HS4:=Z8 (HS3.out.kept hb4)
    clear HS3 HB3 hb4 k0 k1 k2 k3 hL
    go_wp2_with fail
    go_loopg [11] ((n1+3)/4) (fun g v11 wx=>∃(at_:Int) (dl:List UInt8),v11 = .int .i64 at_∧(4*(g:Int)≤at_+4∧at_+4≤4*(g:Int)+3∧at_≤255)∧dl.length+g≤100∧Hid (dl++hxL m g at_=DD)∧Hid (Below w4.heap.size w4 wx)∧Hid (Lib.IsBuilder 104 5 w4.heap.size w4.heap.size (Lib.byteCells dl) wx))
    case atStart =>
     refine ⟨(n1:Int)-1,[],?_,by omega,by simp;omega,HD,(Below.refl _ _).alloc (Nat.le_refl _) _,Lib.fresh_isBuilder 104 5 w4⟩
     simp
    case round =>
     obtain ⟨at_,dl,rfl,hat,hdl,HL,HBb,HBu⟩:=hrel
     have HSx:=Z8 (HS4.out.kept HBb.out)
     rcases Nat.eq_zero_or_pos gk with h0|h0
     ·subst h0
      have g0 : ¬(0:Int)≤at_:=by omega
      have HL:Hid (dl=DD):=by have:=HL.out;rw [hxL,List.append_nil] at this;exact this
      have hbl:=Tryz.Builder_Len w4.heap.size w4.heap.size (Lib.byteCells dl) wr HBu.out
      rw [Lib.byteCells_length] at hbl
      have HR:Hid (RS=smL ng (48::120::49::(if dl=[] then [] else 46::dl)++112::sgL (ex+n1) 1)):=by have:=HR.out;rw [←HL.out] at this;exact this
      have hsl:=CU (ex+n1) 1 (by omega) (by decide)
      obtain ⟨k0,k1,k2,k3⟩:=HSx.out.cells
      go_wp2_with fail
      refine hbl.mono ?_
      rintro e w7 ⟨rfl,rfl⟩
      rcases Nat.eq_zero_or_pos dl.length with hd0|hd0
      ·rw [hd0]
       go_wp2
       have hM:=fun wx hg=>HU ng (48::120::49::[]++112::sgL (ex+n1) 1) (by simp;omega) wx hg
       have eM:bs (48::120::49::[]++112::sgL (ex+n1) 1)=ByteArray.mk #[48,120,49]++ByteArray.mk #[112]++bs (sgL (ex+n1) 1):=by
        rw [show ByteArray.mk #[112]=bs [112] from rfl,show ByteArray.mk #[48,120,49]=bs [48,120,49] from rfl,ZQ,ZQ];rfl
       rw [eM] at hM
       have hfin:RS=smL ng (48::120::49::[]++112::sgL (ex+n1) 1):=by
        rw [HR.out,if_pos (List.length_eq_zero_iff.1 hd0)]
       have HF:=Z8 hfin
       have HSd:=Z8 (HSx.out.kept ((Below.refl _ _).drew))
       have hw:IntKind.i64.wrap (ex+(n1:Int))=ex+n1:=by rw [QV] <;> omega
       clear hfin eM
       go_region_with (first
        | (go_at_call 64;refine (Fy (ex+n1) (by omega) _ (HG _ HSd)).mono ?_;rintro e w9 ⟨rfl,hb9⟩;have HS9:=Z8 (HSd.out.kept hb9);obtain ⟨l0,l1,l2,l3⟩:=HS9.out.cells)
        | (go_at_call 51;refine (hM _ (HG _ HS9)).mono ?_;rintro e w10 ⟨rfl,hb10⟩;have HB10:=Z8 (HS9.out.kept hb10).below))
       all_goals (
        go_wp2
        go_ret2
        exact ⟨by rw [HF.out];rfl,HB10⟩)
      ·have hdl0:(0:Int)<(dl.length:Nat):=by omega
       go_wp2_with fail
       refine (Tryz.Builder_String w4.heap.size w4.heap.size dl _ HBu.out HBb.out.size).mono ?_
       rintro e w8 ⟨rfl,hb8⟩
       have HB8:Hid (Below w4.heap.size w4 w8):=HBb.out.trans hb8
       have HS8:=Z8 (HS4.out.kept HB8.out)
       clear hb8
       obtain ⟨k0,k1,k2,k3⟩:=HS8.out.cells
       go_wp2
       generalize hS:(ByteArray.mk #[48,120,49]++(ByteArray.mk #[46]++ByteArray.mk dl.toArray))=S
       have hSe:S=bs (48::120::49::46::dl):=by rw [←hS];exact (by rw [show ByteArray.mk #[46]=bs [46] from rfl,show ByteArray.mk #[48,120,49]=bs [48,120,49] from rfl,ZQ,ZQ];rfl)
       have hSz:S.size≤1000:=by rw [hSe,Qx];simp;omega
       have HSe:=Z8 hSe
       have hSz1:S.size+(ByteArray.mk #[112]).size≤9223372036854775807:=by show S.size+1≤_;omega
       have hSz2:S.size+1≤9223372036854775807:=by omega
       clear hS hSe
       have hM:=fun wx hg=>HU ng (48::120::49::46::dl++112::sgL (ex+n1) 1) (by simp;omega) wx hg
       have eM:bs (48::120::49::46::dl++112::sgL (ex+n1) 1)=S++ByteArray.mk #[112]++bs (sgL (ex+n1) 1):=by
        rw [HSe.out,show ByteArray.mk #[112]=bs [112] from rfl,ZQ,ZQ,List.append_assoc];rfl
       rw [eM] at hM
       have hfin:RS=smL ng (48::120::49::46::dl++112::sgL (ex+n1) 1):=by
        rw [HR.out,if_neg (fun h=>by rw [h] at hd0;exact absurd hd0 (by decide))]
       have HF:=Z8 hfin
       have HSd:=Z8 (HS8.out.kept ((Below.refl _ _).drew))
       have hw:IntKind.i64.wrap (ex+(n1:Int))=ex+n1:=by rw [QV] <;> omega
       clear hfin eM
       go_region_with (first
        | (go_at_call 64;refine (Fy (ex+n1) (by omega) _ (HG _ HSd)).mono ?_;rintro e w9 ⟨rfl,hb9⟩;have HS9:=Z8 (HSd.out.kept hb9);obtain ⟨l0,l1,l2,l3⟩:=HS9.out.cells)
        | (go_at_call 51;refine (hM _ (HG _ HS9)).mono ?_;rintro e w10 ⟨rfl,hb10⟩;have HB10:=Z8 (HS9.out.kept hb10).below))
       all_goals (
        go_wp2
        go_ret2
        exact ⟨by rw [HF.out];rfl,HB10⟩)
     ·obtain ⟨g,rfl⟩ : ∃g,gk=g+1:=⟨gk-1,by omega⟩
      have g0:(0:Int)≤at_:=by omega
      go_wp2
      obtain ⟨wo,hwo⟩ : ∃W,W=wr:=⟨_,rfl⟩
      subst hwo
      go_loopg [12,47] 4 (fun h v12 v47 wy=>∃i:Nat,h+i=4∧v47 = .int .i64 i∧v12 = .int .i64 (hxP m at_ i:Nat)∧Hid (Below wo.heap.size wo wy))
      case atStart=>exact ⟨0,rfl,rfl,rfl,Below.refl _ _⟩
      case round =>
       obtain ⟨i,hi,rfl,rfl,HY⟩:=hrel
       have HSy:=Z8 (HSx.out.kept HY.out)
       rcases Nat.eq_zero_or_pos gk with h0|h0
       ·subst h0
        obtain rfl:i=4:=by omega
        have hp16:=hxP_lt m at_ 4
        have hp:((hxP m at_ 4:Nat):Int)<16:=by omega
        have hLs:(dl++[HE (hxP m at_ 4)])++hxL m g (at_-4)=DD:=by rw [List.append_assoc];exact HL.out
        have HLs:=Z8 hLs
        obtain ⟨d,hd⟩ : ∃d,d=hxP m at_ 4:=⟨_,rfl⟩
        rw [←hd] at hp HLs ⊢
        clear hp16 hLs hd
        go_wp2_with fail
        simp only [hex_get]
        refine (Tryz.Builder_WriteByte w4.heap.size w4.heap.size (Lib.byteCells dl) ((HE d).toNat:Nat) _ (EG HBu.out fun k hk=>HY.out.block k hk) (by rw [Lib.byteCells_length];omega) (by have:=HBb.out.size;have:=HY.out.size;omega)).mono ?_
        rintro e w8 ⟨rfl,h8,hb8⟩
        have h8:Lib.BuilderAt 104 5 w4.heap.size w4.heap.size (.pointer (some ⟨w4.heap.size,0,none⟩)) (Lib.byteCells (dl++[HE d])) w8:=by rw [Lib.byteCells_append];exact h8
        have HB8:Hid (Below w4.heap.size w4 w8):=(HBb.out.trans ⟨HY.out.os,HY.out.tape,HY.out.output,HY.out.size,fun k hk=>HY.out.block k (by have:=HBb.out.size;omega)⟩).trans hb8
        have H8:Hid (Lib.IsBuilder 104 5 w4.heap.size w4.heap.size (Lib.byteCells (dl++[HE d])) w8):=.inr h8
        clear h8 hb8
        go_wp2
        go_roundg g
        case measure=>omega
        case rel=>exact ⟨at_-4,dl++[HE d],by first|rfl|simp,by omega,by simp;omega,HLs,HB8,H8⟩
       ·obtain ⟨h,rfl⟩ : ∃h,gk=h+1:=⟨gk-1,by omega⟩
        have hi4:(i:Int)<4:=by omega
        obtain ⟨k0,k1,k2,k3⟩:=HSy.out.cells
        have hB:=bit_calls m (at_-i) (by have:=HBl.out;omega) (by omega) _ _ (HG _ HSy) HSy.out.wv.wv
        have hp16:=hxP_lt m at_ i
        have hp:hxP m at_ i<16:=Nat.lt_of_lt_of_le hp16 (Nat.pow_le_pow_right (n:=2) (by decide) (show i≤4 by omega))
        have hst:hxP m at_ (i+1)=2*hxP m at_ i+if Gx m (at_-i) then 1 else 0:=rfl
        obtain ⟨q,hq⟩ : ∃q,q=hxP m at_ i:=⟨_,rfl⟩
        rw [←hq] at hp hst ⊢
        cases hbz:Gx m (at_-i) with
        | true =>
          rw [hbz] at hB hst
          have HST:Hid (hxP m at_ (i+1)=2*q+1):=hst
          clear hp16 hq hbz hst
          go_wp2_with fail
          refine hB.mono ?_
          rintro e w6 ⟨rfl,hb6⟩
          have HB6:Hid (Below wo.heap.size wo w6):=HY.out.trans ⟨hb6.os,hb6.tape,hb6.output,hb6.size,fun k hk=>hb6.block k (by have:=HY.out.size;omega)⟩
          clear hb6
          go_wp2
          go_roundg h
          case measure=>omega
          case rel=>exact ⟨i+1,by omega,by first|rfl|simp,by rw [HST.out];simp;omega,HB6⟩
        | false =>
          rw [hbz] at hB hst
          have HST:Hid (hxP m at_ (i+1)=2*q):=hst
          clear hp16 hq hbz hst
          go_wp2_with fail
          refine hB.mono ?_
          rintro e w6 ⟨rfl,hb6⟩
          have HB6:Hid (Below wo.heap.size wo w6):=HY.out.trans ⟨hb6.os,hb6.tape,hb6.output,hb6.size,fun k hk=>hb6.block k (by have:=HY.out.size;omega)⟩
          clear hb6
          go_wp2
          go_roundg h
          case measure=>omega
          case rel=>exact ⟨i+1,by omega,by first|rfl|simp,by rw [HST.out];simp;omega,HB6⟩
 ·have e1:RS=[]:=by rw [HRS.out];exact if_neg hE
  go_wp2
  go_ret2
  exact ⟨by rw [e1];rfl,HS.out.below⟩
theorem yk (k P kd0 e0 kd ex E:Int) (n0 ng:Bool) (l:List Int) (m:Nat) (hm:m<2^256) (hx : -1000000<ex∧ex<1000000) (hmk:kd≠0 → ¬(kd=3∨kd=2)→0<m)
 (hN:QU Tryz.prog 49 [.v (Q3 k P),.v (.int .i64 0),.v (.bool false),.v (Q9 kd0 n0 e0 l)] [.v true (Q9 kd ng ex (QX m)),.v true (.int .i64 E)]) :
 QU Tryz.prog 16 [.v (Q3 k P),.v (Q9 kd0 n0 e0 l)] [.v true (.str (bs (hxR E kd ng ex m))),.v true (.int .i64 E)]:=by
 refine QU.plain (val:=.tuple #[.string (bs (hxR E kd ng ex m)),.int .i64 E]) (enters_of Tryz.func16 (by kernel_rfl) rfl) rfl (fun cx w μ mem=>?_) fun w O vs hG ha=>?_
 ·show QJ cx w μ mem (.tup [.v true (.str _),.v true (.int .i64 _)]) _
  rw [QJ]
  refine ⟨_,rfl,?_⟩
  rw [Qz];refine ⟨_,_,rfl,Yj.2 rfl,?_⟩
  rw [Qz];refine ⟨_,_,rfl,Qj.2 rfl,?_⟩
  rw [Qz]
 ·rw [QF] at ha
  obtain ⟨v1,vr,rfl,h1,h2⟩:=ha
  rw [QF] at h2
  obtain ⟨v2,vr,rfl,h3,h4⟩:=h2
  rw [QF] at h4
  subst h4
  rw [Q6] at h1
  rw [Q6] at h3
  obtain ⟨cs,h5,rfl⟩:=h1
  obtain ⟨ds,h6,rfl⟩:=h3
  obtain ⟨sv,rfl,xs,h7,rfl⟩:=rep_flt h6
  unfold Q3 at h5
  rw [Rep,Qf] at h5
  obtain ⟨a,b,rfl,h8,h9⟩:=h5
  rw [Qf] at h9
  obtain ⟨a2,b2,rfl,h10,h11⟩:=h9
  rw [Qf] at h11
  rw [Rep] at h8
  rw [Rep] at h10
  subst h8
  subst h10
  subst h11
  exact hex_calls k P kd0 e0 kd ex E n0 ng l m _ w _ rfl hG ⟨xs,Rep.mono (fun _ _ _ _ hv=>hv) (fun b hb=>⟨hb.1,trivial⟩) h7,rfl⟩ hm hx hmk hN
def unW:List V→Option (List Int)
 | []=>some []
 | .int .u64 n::r=>(unW r).map (n :: ·)
 | _=>none
theorem unW_eq : ∀ {l:List V} {x:List Int},unW l=some x→l=x.map fun n=>.int .u64 n
 | [],x,h=>by cases h;rfl
 | .int .u64 n::r,x,h=>by
   rw [unW] at h
   obtain ⟨y,hy,rfl⟩:=Option.map_eq_some_iff.1 h
   rw [unW_eq hy];rfl
def okB (x:List Int):Bool:=x.all fun n=>decide (0≤n∧n<18446744073709551616)
theorem okB_eq {x:List Int} (h:okB x=true):okW x:=fun n hn=>of_decide_eq_true (List.all_eq_true.1 h n hn)
theorem hex_half:QU Tryz.prog 16 [.v (Q3 5 11),.v (Q9 1 false (-13) [819])] [.v true (.str (bs [48,120,49,46,57,57,56,112,45,52])),.v true (.int .i64 0)]:=by
 have hN:=qD 5 11 0 false 1 false (-13) [819] (by decide) (by intro n hn;simp at hn;omega) (by decide)
 rw [show (decide ((0:Int)≤0∧(0:Int)≤4) && !false)=true from rfl] at hN
 have e1:nuE 5 11 true 1 false (-13) [819]=0:=by kernel_rfl
 have e2:nuV 5 11 true 1 false (-13) [819]=Q9 1 false (-13) (QX 819):=by
  unfold nuV
  rw [if_pos e1]
  kernel_rfl
 rw [e1,e2] at hN
 exact yk 5 11 1 (-13) 1 (-13) 0 false false [819] 819 (by decide) (by decide) (fun _ _=>by decide) hN
def extE (f:FuncId) (l:List Arg):Option (List R) :=
 match f,l with
 | 16,[.v (.agg [.int .i64 5,.int .i64 11]),.v (.agg [.int .i64 1,.bool false,.int .i64 (-13),.sl 1 [.int .u64 819]])]=>some [.v true (.str (bs [48,120,49,46,57,57,56,112,45,52])),.v true (.int .i64 0)]
 | 54,[.v (.sl 1 l)]=>match unW l with
   | some x=>if x.length<900∧okB x=true then some [.v true (.str ⟨(Qv (val x)).toArray⟩)] else none
   | none=>none
 | 82,[.v (.str s),.v (.int .i64 (.ofNat n))]=>if s.data.toList=[48]∧n≤1000000 then some [.v true (.str (bs (z48 n)))] else none
 | 132,[.v (.str s),.v (.str t)]=>if t.data.toList=[48]∧s.data.toList.length<1000000 then some [.v true (.str (bs (trR s.data.toList)))] else none
 | 142,[.v (.int .i64 (.ofNat n))]=>if n<4611686018427387904 then some [.v true (.str (bs (Qv n)))] else none
 | 139,[.v (.int .u64 x),.v (.int .u64 y),.v (.int .u64 c)]=>if 0≤x∧0≤y∧0≤c∧c≤1 then some [.v true (.int .u64 ((x+y+c)%18446744073709551616)),.v true (.int .u64 ((x+y+c)/18446744073709551616))] else none
 | 252,[.v (.int .u64 x),.v (.int .u64 y),.v (.int .u64 c)]=>if 0≤x∧x<18446744073709551616∧0≤y∧y<18446744073709551616∧0≤c∧c≤1 then some [.v true (.int .u64 ((x-y-c)%18446744073709551616)),.v true (.int .u64 (if x<y+c then 1 else 0))] else none
 | _,_=>none
theorem str_of {s:ByteArray} {l:List UInt8} (h:s.data.toList=l):s=bs l:=by rw [bs_of s,h]
theorem CH (f:FuncId) (l:List Arg) (rs:List R) (h:extE f l=some rs):QU Tryz.prog f l rs:=by
 unfold extE at h
 split at h
 ·cases h;exact hex_half
 ·split at h
  ·next x hx =>
   split at h
   ·next hs=>cases h;rw [unW_eq hx];exact KZ x hs.1 (okB_eq hs.2)
   ·cases h
  ·cases h
 ·split at h
  ·next hs=>cases h;rw [str_of hs.1];exact GJ _ hs.2
  ·cases h
 ·split at h
  ·next hs=>cases h;rw [str_of hs.1];have:=Fq _ hs.2;rw [←bs_of] at this;exact this
  ·cases h
 ·split at h
  ·next hs=>cases h;exact itoa_ok _ hs
  ·cases h
 ·split at h
  ·next hs=>cases h;exact ED _ _ _ hs.1 hs.2.1 hs.2.2.1 hs.2.2.2
  ·cases h
 ·split at h
  ·next hs=>cases h;exact sub64_ok _ _ _ hs.1 hs.2.1 hs.2.2.1 hs.2.2.2.1 hs.2.2.2.2.1 hs.2.2.2.2.2
  ·cases h
 ·cases h
theorem aw_text:QU Tryz.prog 14 [.v (Q3 5 11),.v (Q9 1 false (-13) [819])] [.v true (.str ⟨#[48,46,49]⟩),.v true (.int .i64 0)] :=
 Fk (Px:=px) (T:=TT) rfl mixed CH (fuel:=100000) 1000 _ _ _ (by kernel_rfl)
theorem aw_exact:QU Tryz.prog 15 [.v (Q3 5 11),.v (Q9 1 false (-13) [819])] [.v true (.str ⟨#[48,46,48,57,57,57,55,53,53,56,53,57,51,55,53]⟩),.v true (.int .i64 0)] :=
 Fk (Px:=px) (T:=TT) rfl mixed CH (fuel:=100000) 1000 _ _ _ (by kernel_rfl)
theorem aw_sci:QU Tryz.prog 24 [.v (Q3 5 11),.v (.int .i64 0),.v (Q9 1 false 10 [1]),.v (.int .i64 2)] [.v true (.str ⟨#[49,46,48,50,101,43,48,51]⟩),.v true (.bool false),.v true (.int .i64 0)] :=
 Fk (Px:=px) (T:=TT) rfl mixed CH (fuel:=100000) 1000 _ _ _ (by kernel_rfl)
theorem aw_dec:QU Tryz.prog 33 [.v (.agg [.int .i64 0,.bool false,QZ [120],.int .i64 (-2)])] [.v true (.str ⟨#[49,46,50,48]⟩),.v true (.int .i64 0)] :=
 Fk (Px:=px) (T:=TT) rfl mixed CH (fuel:=100000) 1000 _ _ _ (by kernel_rfl)
set_option maxHeartbeats 2000000 in
theorem awake_ok:QU Tryz.prog 13 [] [.v true (.bool true)]:=by
 have h1:=aw_text
 have h2:=aw_exact
 have h4:=aw_sci
 have h5:=aw_dec
 have h3:=hex_half
 unfold Q3 Q9 QZ at h1 h2 h3 h4
 unfold QZ at h5
 rw [List.map_cons,List.map_nil] at h1 h2 h3 h4 h5
 have h3:QU Tryz.prog 16 [.v (.agg [.int .i64 5,.int .i64 11]),.v (.agg [.int .i64 1,.bool false,.int .i64 (-13),.sl 1 [.int .u64 819]])] [.v true (.str ⟨#[48,120,49,46,57,57,56,112,45,52]⟩),.v true (.int .i64 0)]:=h3
 refine QU.of Tryz.func13 rfl rfl fun cx w0=>?_
 rw [show Tryz.f13.ntmps=91 from rfl]
 refine zs0 ?_
 refine zs0 ?_
 refine QQ.seq (QQ.regionZ (Px:=px) (T:=TT) (ρ:=fun _=>[]) (k:=1) (σ2 := {nt:=91,env:=[(15,.v true (.sl 1 [.int .u64 819])),(1,.ptr 1 0 [] 0)],mem:=[(1,.box 23 (.v true (.agg [.int .i64 5,.int .i64 11])))]}) TTe (by simp (maxSteps:=100000) (disch:=omega) only [List.take_succ_cons,List.take_zero,go_sem,V.isAgg,V.flat,↓reduceIte,Nat.reduceAdd,Nat.reduceSub,Nat.reduceLT,Nat.reduceEqDiff,reduceCtorEq,Nat.reduceLeDiff,Nat.reduceBEq,Nat.reduceMul,Int.reduceToNat];rfl) (by repeat' first|exact trivial|constructor) (Nat.le_of_ble_eq_true rfl) (by exact fun a w h=>Rel.keep [15,1] [1] (Rel.freeze (s:=15) h rfl)) ⟨_,_,by simp (maxSteps:=100000) (disch:=omega) only [List.drop_succ_cons,List.drop_zero,go_sem,V.isAgg,V.flat,↓reduceIte,Nat.reduceAdd,Nat.reduceSub,Nat.reduceLT,Nat.reduceEqDiff,reduceCtorEq,Nat.reduceLeDiff,Nat.reduceBEq,Nat.reduceMul,Int.reduceToNat];rfl,by repeat' first|exact trivial|assumption|constructor,?_⟩);show QQ _ _ _ _ _ _ _
 refine zs2 (ρ:=fun _=>[.v true (.str ⟨#[48,46,49]⟩),.v true (.int .i64 0)]) (o:=by repeat' first|exact h1|trivial|constructor) (k:=?_)
 refine zs2 (ρ:=fun _=>[.v true (.str ⟨#[48,46,48,57,57,57,55,53,53,56,53,57,51,55,53]⟩),.v true (.int .i64 0)]) (o:=by repeat' first|exact h2|trivial|constructor) (k:=?_)
 refine zs2 (ρ:=fun _=>[.v true (.str ⟨#[48,120,49,46,57,57,56,112,45,52]⟩),.v true (.int .i64 0)]) (o:=by repeat' first|exact h3|trivial|constructor) (k:=?_)
 refine QQ.from (σ' := {nt:=91,env:=[(3,(.v true (.str ⟨#[48,46,49]⟩))),(4,(.v true (.int .i64 0))),(5,(.v true (.str ⟨#[48,46,48,57,57,57,55,53,53,56,53,57,51,55,53]⟩))),(6,(.v true (.int .i64 0))),(7,(.v true (.str ⟨#[48,120,49,46,57,57,56,112,45,52]⟩))),(8,(.v true (.int .i64 0))),(1,.ptr 1 0 [] 0)],mem:=[(1,.box 23 (.v true (.agg [.int .i64 5,.int .i64 11])))]}) (fun a w h=>Rel.keep [3,4,5,6,7,8,1] [1] h) ?_
 refine QQ.seq (QQ.regionZ (Px:=px) (T:=TT) (ρ:=fun _=>[.v true (.str ⟨#[49,46,48,50,101,43,48,51]⟩),.v true (.bool false),.v true (.int .i64 0)]) (k:=2) (σ2 := {nt:=91,env:=[(36,.v true (.agg [.int .i64 5,.int .i64 11])),(37,.v true (.sl 1 [.int .u64 1])),(3,(.v true (.str ⟨#[48,46,49]⟩))),(4,(.v true (.int .i64 0))),(5,(.v true (.str ⟨#[48,46,48,57,57,57,55,53,53,56,53,57,51,55,53]⟩))),(6,(.v true (.int .i64 0))),(7,(.v true (.str ⟨#[48,120,49,46,57,57,56,112,45,52]⟩))),(8,(.v true (.int .i64 0)))],mem:=[]}) TTe (by simp (maxSteps:=100000) (disch:=omega) only [List.take_succ_cons,List.take_zero,go_sem,V.isAgg,V.flat,↓reduceIte,Nat.reduceAdd,Nat.reduceSub,Nat.reduceLT,Nat.reduceEqDiff,reduceCtorEq,Nat.reduceLeDiff,Nat.reduceBEq,Nat.reduceMul,Int.reduceToNat];rfl) (by first|exact h4|(repeat' first|exact trivial|exact h4|constructor)) (Nat.le_of_ble_eq_true rfl) (by exact fun a w h=>Rel.keep [36,37,3,4,5,6,7,8] [] (Rel.freeze (s:=37) h rfl)) ⟨_,_,by simp (maxSteps:=100000) (disch:=omega) only [List.drop_succ_cons,List.drop_zero,go_sem,V.isAgg,V.flat,↓reduceIte,Nat.reduceAdd,Nat.reduceSub,Nat.reduceLT,Nat.reduceEqDiff,reduceCtorEq,Nat.reduceLeDiff,Nat.reduceBEq,Nat.reduceMul,Int.reduceToNat];rfl,by repeat' first|exact trivial|assumption|constructor,?_⟩);show QQ _ _ _ _ _ _ _
 refine QQ.from (σ' := {nt:=91,env:=[(3,(.v true (.str ⟨#[48,46,49]⟩))),(4,(.v true (.int .i64 0))),(5,(.v true (.str ⟨#[48,46,48,57,57,57,55,53,53,56,53,57,51,55,53]⟩))),(6,(.v true (.int .i64 0))),(7,(.v true (.str ⟨#[48,120,49,46,57,57,56,112,45,52]⟩))),(8,(.v true (.int .i64 0))),(9,(.v true (.str ⟨#[49,46,48,50,101,43,48,51]⟩))),(10,.v true (.bool false)),(11,(.v true (.int .i64 0)))],mem:=[]}) (fun a w h=>Rel.keep [3,4,5,6,7,8,9,10,11] [] h) ?_
 refine QQ.seq (QQ.regionZ (Px:=px) (T:=TT) (ρ:=fun _=>[.v true (.str ⟨#[49,46,50,48]⟩),.v true (.int .i64 0)]) (k:=1) (σ2 := {nt:=91,env:=[(44,.v true (.sl 1 [.int .u64 120])),(3,(.v true (.str ⟨#[48,46,49]⟩))),(4,(.v true (.int .i64 0))),(5,(.v true (.str ⟨#[48,46,48,57,57,57,55,53,53,56,53,57,51,55,53]⟩))),(6,(.v true (.int .i64 0))),(7,(.v true (.str ⟨#[48,120,49,46,57,57,56,112,45,52]⟩))),(8,(.v true (.int .i64 0))),(9,(.v true (.str ⟨#[49,46,48,50,101,43,48,51]⟩))),(10,.v true (.bool false)),(11,(.v true (.int .i64 0)))],mem:=[]}) TTe (by simp (maxSteps:=100000) (disch:=omega) only [List.take_succ_cons,List.take_zero,go_sem,V.isAgg,V.flat,↓reduceIte,Nat.reduceAdd,Nat.reduceSub,Nat.reduceLT,Nat.reduceEqDiff,reduceCtorEq,Nat.reduceLeDiff,Nat.reduceBEq,Nat.reduceMul,Int.reduceToNat];rfl) (by first|exact h5|(repeat' first|exact trivial|exact h5|constructor)) (Nat.le_of_ble_eq_true rfl) (by exact fun a w h=>Rel.keep [44,3,4,5,6,7,8,9,10,11] [] (Rel.freeze (s:=44) h rfl)) ⟨_,_,by simp (maxSteps:=100000) (disch:=omega) only [List.drop_succ_cons,List.drop_zero,go_sem,V.isAgg,V.flat,↓reduceIte,Nat.reduceAdd,Nat.reduceSub,Nat.reduceLT,Nat.reduceEqDiff,reduceCtorEq,Nat.reduceLeDiff,Nat.reduceBEq,Nat.reduceMul,Int.reduceToNat];rfl,by repeat' first|exact trivial|assumption|constructor,?_⟩);show QQ _ _ _ _ _ _ _
 refine QQ.step (Px:=px) (T:=TT) (ρ:=fun _=>[]) TTe (by simp (maxSteps:=100000) (disch:=omega) only [go_sem,V.isAgg,V.flat,↓reduceIte,Nat.reduceAdd,Nat.reduceSub,Nat.reduceLT,Nat.reduceEqDiff,reduceCtorEq,Nat.reduceLeDiff,Nat.reduceBEq,Nat.reduceMul,Int.reduceToNat,unA,eq_self];rfl) (by repeat' first|exact trivial|constructor) ?_
 exact QQ.ret (QK.vs rfl (by exact ⟨⟨rfl,id⟩,trivial⟩) rfl)
set_option maxHeartbeats 1000000 in
theorem fShort_ok (kd:Int) (neg:Bool) (e:Int) (L:List V):QU Tryz.prog 12 [.v (.sl 4 [.agg [.int .i64 kd,.bool neg,.int .i64 e,.sl 1 L]])] [.v true (.bool (decide (L.length≤40)))]:=by
 obtain ⟨n,hn⟩ : ∃n,n=L.length:=⟨_,rfl⟩
 rw [←hn]
 have hn':=hn.symm
 refine QU.of Tryz.func12 rfl rfl fun cx w0=>?_
 rw [show Tryz.f12.ntmps=17 from rfl]
 refine zs0 ?_
 refine QQ.next (fun σ=>n≤40 ∧ ∀a w,Rel cx w0 σ a w→Rel cx w0 {nt:=17,env:=[],mem:=[]} a w) ?_ ?_
 ·refine zs0 ?_
  refine QQ.loopB (fun i:Nat => {nt:=17,env:=[(3,.v true (.int .i64 i)),(0,.v false (.sl 4 [.agg [.int .i64 kd,.bool neg,.int .i64 e,.sl 1 L]]))],mem:=[]}) (fun i=>i=0∨i=1∧n≤40) (fun i=>1-i) 0 (.inl rfl) (fun a w h=>Rel.keep [3,0] [] h) ?_
  rintro i hi
  by_cases hi0:i=0
  ·subst hi0
   refine QQ.seq ?_
   refine zs0 ?_
   refine QQ.condT rfl (QQ.skip ?_)
   show QQ _ _ _ _ _ _ _
   refine QQ.next (fun σ=>n≤40 ∧ ∀a w,Rel cx w0 σ a w→Rel cx w0 {nt:=17,env:=[(3,.v true (.int .i64 0)),(0,.v false (.sl 4 [.agg [.int .i64 kd,.bool neg,.int .i64 e,.sl 1 L]]))],mem:=[]} a w) ?_ ?_
   ·refine QQ.blockN ?_
    by_cases hs:n≤40
    ·have g : ¬(40:Int)<(L.length:Int):=by omega
     refine zs1 g ?_
     exact QQ.condF rfl (QQ.skip ⟨hs,fun a w h=>Rel.keep [3,0] [] h⟩)
    ·have g:(40:Int)<(L.length:Int):=by omega
     refine zs1 g ?_
     refine QQ.condT rfl ?_
     refine zs0 ?_
     rw [decide_eq_false hs]
     exact QQ.ret (QK.vs rfl (by exact ⟨⟨rfl,id⟩,trivial⟩) rfl)
   ·rintro σ ⟨hs,hσ⟩
    refine QQ.from hσ ?_
    refine zr0 ?_
    exact ⟨1,.inr ⟨rfl,hs⟩,(show 1-1<1-0 by decide),fun a w h=>Rel.keep [3,0] [] h⟩
  ·have hi1:i=1∧n≤40:=by omega
   obtain ⟨rfl,hs⟩:=hi1
   refine QQ.seq ?_
   refine zs0 ?_
   exact QQ.condF rfl (QQ.exit ⟨rfl,hs,fun a w h=>Rel.keep [] [] h⟩)
 ·rintro σ ⟨hs,hσ⟩
  refine QQ.from hσ ?_
  rw [decide_eq_true hs]
  refine zs0 ?_
  exact QQ.ret (QK.vs rfl (by exact ⟨⟨rfl,id⟩,trivial⟩) rfl)
theorem Uj (neg:Bool) (l:List UInt8) (hl:l.length<10000000):QU Tryz.prog 69 [.v (.bool neg),.v (.str (bs l))] [.v true (.str (bs (smL neg l)))]:=by
 have hz:=Qx l
 have e:bs (45::l)=ByteArray.mk #[45]++bs l:=by rw [show ByteArray.mk #[45]=bs [45] from rfl,ZQ];rfl
 unfold smL
 obtain ⟨s,hs⟩ : ∃s,s=bs l:=⟨_,rfl⟩
 rw [←hs] at hz e ⊢
 have a1:(#[(45:UInt8)]).size+s.size≤9223372036854775807:=by show 1+s.size≤_;omega
 cases neg with
 | true =>
   rw [if_pos rfl,e]
   clear hs e hz
   refine QU.of Tryz.func69 rfl rfl fun cx w0=>?_
   rw [show Tryz.f69.ntmps=9 from rfl]
   refine zs0 ?_
   refine QQ.seq ?_
   refine zs0 ?_
   refine QQ.condT rfl ?_
   refine zs1 a1 ?_
   exact QQ.ret (QK.vs rfl (by exact ⟨⟨rfl,id⟩,trivial⟩) rfl)
 | false =>
   rw [if_neg (show ¬false=true by decide),←hs]
   clear hs e hz
   refine QU.of Tryz.func69 rfl rfl fun cx w0=>?_
   rw [show Tryz.f69.ntmps=9 from rfl]
   refine zs0 ?_
   refine QQ.seq ?_
   refine zs0 ?_
   refine QQ.condF rfl (QQ.skip ?_)
   show QQ _ _ _ _ _ _ _
   refine zs0 ?_
   exact QQ.ret (QK.vs rfl (by exact ⟨⟨rfl,id⟩,trivial⟩) rfl)
def GB (k:Int):List UInt8:=if k=3 then [110,97,110] else if k=2 then [105,110,102] else if k=0 then [48] else []
theorem Dy (k:Int) (neg:Bool) (e:Int) (l:List V):QU Tryz.prog 71 [.v (.agg [.int .i64 k,.bool neg,.int .i64 e,.sl 1 l])] [.v true (.str (bs (GB k))),.v true (.bool (decide (k=3∨k=2∨k=0)))]:=by
 unfold GB
 refine QU.of Tryz.func71 rfl rfl fun cx w0=>?_
 rw [show Tryz.f71.ntmps=12 from rfl]
 refine zs0 ?_
 refine QQ.seq ?_
 refine zs0 ?_
 refine QQ.block ?_
 by_cases h3:k=3
 ·subst h3
  refine zs0 ?_
  refine QQ.condT rfl ?_
  refine zs0 ?_
  exact QQ.ret (QK.vs rfl (by exact ⟨⟨rfl,id⟩,⟨rfl,id⟩,trivial⟩) rfl)
 ·by_cases h2:k=2
  ·subst h2
   refine zs0 ?_
   refine QQ.condF rfl ?_
   refine zs0 ?_
   refine QQ.condT rfl ?_
   refine zs0 ?_
   exact QQ.ret (QK.vs rfl (by exact ⟨⟨rfl,id⟩,⟨rfl,id⟩,trivial⟩) rfl)
  ·by_cases h0:k=0
   ·subst h0
    refine zs0 ?_
    refine QQ.condF rfl ?_
    refine zs0 ?_
    refine QQ.condF rfl ?_
    refine zs0 ?_
    refine QQ.condT rfl ?_
    refine zs0 ?_
    exact QQ.ret (QK.vs rfl (by exact ⟨⟨rfl,id⟩,⟨rfl,id⟩,trivial⟩) rfl)
   ·rw [if_neg h3,if_neg h2,if_neg h0,decide_eq_false (by omega)]
    refine zs1 h3 ?_
    refine QQ.condF rfl ?_
    refine zs1 h2 ?_
    refine QQ.condF rfl ?_
    refine zs1 h0 ?_
    refine QQ.condF rfl (QQ.skip ?_)
    show QQ _ _ _ _ _ _ _
    refine zs0 ?_
    exact QQ.ret (QK.vs rfl (by exact ⟨⟨rfl,id⟩,⟨rfl,id⟩,trivial⟩) rfl)
theorem z48_snoc (n:Nat):bs (z48 n)++ByteArray.mk #[48]=bs (z48 (n+1)):=by
 rw [show ByteArray.mk #[48]=bs [48] from rfl,ZQ]
 unfold z48
 rw [←List.replicate_succ']
theorem FJ (n:Int) (hn:n<10000000):QU Tryz.prog 151 [.v (.int .i64 n)] [.v true (.str (bs (z48 n.toNat)))]:=by
 refine QU.of Tryz.func151 rfl rfl fun cx w0=>?_
 rw [show Tryz.f151.ntmps=13 from rfl]
 refine zs0 ?_
 refine zs0 ?_
 refine QQ.next (fun σ=>∀a w,Rel cx w0 σ a w→Rel cx w0 {nt:=13,env:=[(3,.v true (.str (bs (z48 n.toNat))))],mem:=[]} a w) ?_ ?_
 ·refine zs0 ?_
  refine QQ.loopB (fun i:Nat => {nt:=13,env:=[(4,.v true (.int .i64 i)),(3,.v true (.str (bs (z48 i)))),(0,.v true (.int .i64 n))],mem:=[]}) (fun i=>i≤n.toNat) (fun i=>n.toNat-i) 0 (Nat.zero_le _) (fun a w h=>Rel.keep [4,3,0] [] h) ?_
  intro i hi
  refine QQ.seq ?_
  by_cases h:i=n.toNat
  ·have g : ¬(i:Int)<n:=by omega
   refine zs1 g ?_
   refine QQ.condF rfl (QQ.exit ⟨rfl,fun a w hr=>?_⟩)
   have:=Rel.keep [3] [] hr
   rw [h] at this
   exact this
  ·have g:(i:Int)<n:=by omega
   have hz:=Qx (z48 i)
   rw [YC] at hz
   have e:=z48_snoc i
   obtain ⟨s,hs⟩ : ∃s,s=bs (z48 i):=⟨_,rfl⟩
   rw [←hs] at hz e ⊢
   have a1:s.size+(#[(48:UInt8)]).size≤9223372036854775807:=by show s.size+1≤_;omega
   have wk:IntKind.i64.wrap ((i:Int)+1)=((i+1:Nat):Int):=by rw [QV] <;> omega
   refine zs1 g ?_
   refine QQ.condT rfl (QQ.skip ?_)
   show QQ _ _ _ _ _ _ _
   refine QQ.next (fun σ=>∀a w,Rel cx w0 σ a w→Rel cx w0 {nt:=13,env:=[(4,.v true (.int .i64 i)),(3,.v true (.str (bs (z48 (i+1))))),(0,.v true (.int .i64 n))],mem:=[]} a w) ?_ ?_
   ·refine QQ.blockN ?_
    refine zr1 a1 ?_
    intro a w h
    rw [←e]
    exact Rel.keep [4,3,0] [] h
   ·intro σ hσ
    refine QQ.from hσ ?_
    refine zr1 wk ?_
    exact ⟨i+1,(by show i+1≤n.toNat;omega),(show n.toNat-(i+1)<n.toNat-i by omega),fun a w h=>Rel.keep [4,3,0] [] h⟩
 ·intro σ hσ
  refine QQ.from hσ ?_
  obtain ⟨s,hs⟩ : ∃s,s=bs (z48 n.toNat):=⟨_,rfl⟩
  rw [←hs]
  refine zs0 ?_
  exact QQ.ret (QK.vs rfl (by exact ⟨⟨rfl,id⟩,trivial⟩) rfl)
theorem pointed_ok (d:List UInt8) (k:Nat) (hd:1≤d.length) (hdl:d.length<1000000) (hk:k<1000000):QU Tryz.prog 75 [.v (.str (bs d)),.v (.int .i64 k)] [.v true (.str (bs (ptL d k)))]:=by
 have hZ:=FJ ((k:Int)+1-d.length) (by omega)
 obtain ⟨c,hc⟩ : ∃c,c=((k:Int)+1-d.length).toNat:=⟨_,rfl⟩
 rw [←hc] at hZ
 have hz:=Qx d
 have hz2:=Qx (z48 c)
 rw [YC] at hz2
 have e1:bs (z48 c)++bs d=bs (z48 c++d):=ZQ _ _
 have hzd:=Qx (z48 c++d)
 rw [List.length_append,YC] at hzd
 obtain ⟨D,hD⟩ : ∃D,D=z48 c++d:=⟨_,rfl⟩
 rw [←hD] at e1 hzd
 have hpt:ptL d k=if k=0 then D else ptN D k:=by
  unfold ptL
  by_cases h:k=0
  ·subst h
   have:c=0:=by omega
   rw [if_pos (by omega),if_pos rfl,hD,this]
   rfl
  ·rw [if_neg (by omega),if_neg h,hD,hc]
   first|rfl|(congr 2;congr 1;omega)
 rw [hpt]
 obtain ⟨s,hs⟩ : ∃s,s=bs d:=⟨_,rfl⟩
 obtain ⟨z,hzz⟩ : ∃s,s=bs (z48 c):=⟨_,rfl⟩
 obtain ⟨t,ht⟩ : ∃s,s=bs D:=⟨_,rfl⟩
 rw [←hs,←hzz,←ht] at e1
 rw [←hs] at hz ⊢
 rw [←hzz] at hZ hz2
 rw [←ht] at hzd
 have w1:IntKind.i64.wrap ((k:Int)+1)=(k:Int)+1:=by rw [QV] <;> omega
 have w2:IntKind.i64.wrap ((k:Int)+1-(s.size:Int))=(k:Int)+1-d.length:=by rw [QV] <;> omega
 have a1:z.size+s.size≤9223372036854775807:=by omega
 clear hpt hs hzz
 refine QU.of Tryz.func75 rfl rfl fun cx w0=>?_
 rw [show Tryz.f75.ntmps=29 from rfl]
 refine zs0 ?_
 refine zs3 (ρ:=fun _=>[.v true (.str z)]) (an w1 <| an w2 <| an a1 <| e1) (o:=by repeat' first|exact hZ|trivial|constructor) (k:=?_)
 refine QQ.from (σ' := {nt:=29,env:=[(0,.v true (.str t)),(1,.v true (.int .i64 k))],mem:=[]}) (fun a w h=>Rel.keep [0,1] [] h) ?_
 refine QQ.seq ?_
 by_cases h:k=0
 ·subst h
  rw [if_pos rfl,←ht]
  refine zs0 ?_
  refine QQ.condT rfl ?_
  refine zs0 ?_
  exact QQ.ret (QK.vs rfl (by exact ⟨⟨rfl,id⟩,trivial⟩) rfl)
 ·rw [if_neg h]
  have g : ¬(k:Int)=0:=by omega
  obtain ⟨m,hm⟩ : ∃m,m=D.length-k:=⟨_,rfl⟩
  have hDl:D.length=c+d.length:=by rw [hD,List.length_append,YC]
  have e:bs (ptN D k)=(t.extract 0 m++ByteArray.mk #[46])++t.extract m t.size:=by
   unfold ptN
   rw [←hm,ht,Yy,Yy,Qx,show ByteArray.mk #[46]=bs [46] from rfl,ZQ,ZQ,List.drop_zero,List.take_of_length_le (l:=D.drop m) (by rw [List.length_drop];omega),List.append_assoc,Nat.sub_zero]
   rfl
  rw [e]
  have z1:(t.extract 0 m).size=m:=by rw [ht,Yy,Qx];simp;omega
  have z2:(t.extract m t.size).size=k:=by rw [ht,Yy,Qx,Qx];simp;omega
  have w3:IntKind.i64.wrap ((t.size:Int)-(k:Int))=(m:Int):=by rw [QV] <;> omega
  have g0:(0:Int)≤(m:Int):=by omega
  have g0':(m:Int)≤(t.size:Int):=by omega
  have g1:(t.extract 0 m).size+(#[(46:UInt8)]).size≤9223372036854775807:=by rw [z1];show m+1≤_;omega
  have g2:(t.extract 0 m).size+(#[(46:UInt8)]).size+(t.extract m t.size).size≤9223372036854775807:=by rw [z1,z2];show m+1+k≤_;omega
  clear e z1 z2 hm hDl hD e1 hZ hc
  refine zs1 g ?_
  refine QQ.condF rfl (QQ.skip ?_)
  show QQ _ _ _ _ _ _ _
  refine zs1 w3 ?_
  refine QQ.seq ?_
  refine zq1 [] (an g0 <| an g0' <| an g1 <| g2) ?_
  show QQ _ _ _ _ _ _ _
  exact QQ.ret (QK.vs rfl (by exact ⟨⟨rfl,id⟩,trivial⟩) rfl)
set_option maxHeartbeats 2000000 in
theorem KU (x:List Int) (D:Nat) (hx:x.length<10000) (ox:okW x) (hD:EB (val x) D) (hb:blN (val x)≤18000) (hDl:D<20000):QU Tryz.prog 168 [.v (QZ x)] [.v true (.int .i64 D)]:=by
 have hpos:0<val x:=by
  have:=Nat.pow_pos (a:=10) (n:=D-1) (by decide)
  have:=hD.2.1
  omega
 have hL:=UC x (by omega) ox
 rw [JF ox] at hL
 obtain ⟨b1,b2⟩:=U3 hpos
 obtain ⟨B,hB⟩ : ∃B,B=blN (val x):=⟨_,rfl⟩
 rw [←hB] at hL b1 b2 hb
 have hs:=AQ (m:=B-1) (by omega)
 have hn0:(B-1)*30103/100000≤D:=digG_le hD (Nat.le_trans hs (Nat.mul_le_mul_left 10 b1))
 have hcmp : ∀n:Nat,n≤D+1→QU Tryz.prog 170 [.v (QZ x),.v (QZ (QX (10^n)))] [.v true (.int .i64 (Q7 (val x) (10^n)))]:=fun n hn=>by
  have hTl:=GQ (k:=n)
  have hC:=F8 x (QX (10^n)) (by omega) (by omega) ox (QY _).1
  rw [(QY (10^n)).2.2] at hC
  exact hC
 have hD1:=hD.1
 refine QU.of Tryz.func168 rfl rfl fun cx w0=>?_
 rw [show Tryz.f168.ntmps=30 from rfl]
 obtain ⟨n0,hn0'⟩ : ∃n0,n0=(B-1)*30103/100000:=⟨_,rfl⟩
 rw [←hn0'] at hn0
 have w1:(B:Int)-1=((B-1:Nat):Int):=by omega
 have w2:IntKind.i64.wrap (((B-1:Nat):Int)*30103)=(((B-1)*30103:Nat):Int):=by rw [QV] <;> omega
 have w3:(((B-1)*30103:Nat):Int).tdiv 100000=(n0:Int):=by rw [hn0'];exact KF _ 100000
 have w4:IntKind.i64.wrap (n0:Int)=(n0:Int):=by rw [QV] <;> omega
 have w5:IntKind.i64.wrap ((n0:Int)+1)=((n0+1:Nat):Int):=by rw [QV] <;> omega
 obtain ⟨B1,hB1⟩ : ∃B1,B1=B-1:=⟨_,rfl⟩
 rw [←hB1] at w1 w2 w3
 obtain ⟨p,hp⟩ : ∃p,p=B1*30103:=⟨_,rfl⟩
 rw [←hp] at w2 w3
 clear hs b1 hn0' hp hB1 hB
 obtain ⟨E,hE1,hE2⟩ : ∃E,n0+1≤E∧(E=D∨E=D+1∧n0=D):=by
  rcases Nat.lt_or_ge n0 D with h|h
  ·exact ⟨D,h,.inl rfl⟩
  ·exact ⟨D+1,by omega,.inr ⟨rfl,by omega⟩⟩
 refine zs0 ?_
 refine zs3 (ρ:=fun _=>[.v true (.int .i64 (B:Nat))]) (an w1 <| an w2 <| an w3 <| an w4 <| w5) (o:=by repeat' first|exact hL|trivial|constructor) (k:=?_)
 refine QQ.next (fun σ=>∀a w,Rel cx w0 σ a w→Rel cx w0 {nt:=30,env:=[(3,.v true (.int .i64 E)),(0,.v false (QZ x))],mem:=[]} a w) ?_ ?_
 ·refine QQ.loopB (fun n:Nat => {nt:=30,env:=[(3,.v true (.int .i64 (n:Nat))),(0,.v false (QZ x))],mem:=[]}) (fun n=>n0+1≤n∧n≤E) (fun n=>E-n) (n0+1) ⟨Nat.le_refl _,hE1⟩ (fun a w h=>Rel.keep [3,0] [] h) ?_
  rintro n ⟨hn0,hn⟩
  have hT:=UD n (by omega)
  have hC:=hcmp n (by omega)
  obtain ⟨T,hT'⟩ : ∃T,T=QX (10^n):=⟨_,rfl⟩
  obtain ⟨c,hc⟩ : ∃c,c=Q7 (val x) (10^n):=⟨_,rfl⟩
  rw [←hT'] at hT hC
  rw [←hc] at hC
  refine QQ.seq ?_
  rcases Nat.lt_or_ge (val x) (10^n) with h|h
  ·have hDn:n=E:=by have:=yZ hD h;omega
   have g : ¬0≤c:=by rw [hc,Q7,if_pos h];omega
   refine zs3 (ρ:=fun d=>if d=12 then [.v true (QZ T)] else [.v true (.int .i64 c)]) g (o:=by repeat' first|exact hT|exact hC|trivial|constructor) (k:=?_)
   refine QQ.condF rfl (QQ.exit ⟨rfl,fun a w h=>?_⟩)
   have:=Rel.keep [3,0] [] h
   rw [hDn] at this
   exact this
  ·have hlt:=yQ hD h
   have g:0≤c:=by rw [hc,Q7,if_neg (by omega)];split <;> omega
   have wk:IntKind.i64.wrap ((n:Int)+1)=((n+1:Nat):Int):=by rw [QV] <;> omega
   refine zs3 (ρ:=fun d=>if d=12 then [.v true (QZ T)] else [.v true (.int .i64 c)]) g (o:=by repeat' first|exact hT|exact hC|trivial|constructor) (k:=?_)
   refine QQ.condT rfl (QQ.skip ?_)
   refine QQ.block ?_
   refine zr1 wk ?_
   exact ⟨n+1,⟨by omega,by omega⟩,(show E-(n+1)<E-n by omega),fun a w h=>Rel.keep [3,0] [] h⟩
 ·intro σ hσ
  refine QQ.from hσ ?_
  refine QQ.next (fun σ=>∀a w,Rel cx w0 σ a w→Rel cx w0 {nt:=30,env:=[(3,.v true (.int .i64 D))],mem:=[]} a w) ?_ ?_
  ·refine QQ.loopB (fun n:Nat => {nt:=30,env:=[(3,.v true (.int .i64 (n:Nat))),(0,.v false (QZ x))],mem:=[]}) (fun n=>n=D∨n=D+1) (fun n=>n) E (by omega) (fun a w h=>Rel.keep [3,0] [] h) ?_
   intro n hn
   refine QQ.seq ?_
   by_cases hd:n=D
   ·subst hd
    by_cases h1:1<n
    ·have g1:(1:Int)<(n:Int):=by omega
     have hT:=UD (n-1) (by omega)
     have hC:=hcmp (n-1) (by omega)
     have w6:(n:Int)-1=((n-1:Nat):Int):=by omega
     have g2 : ¬Q7 (val x) (10^(n-1))<0:=by
      rw [Q7,if_neg (by have:=hD.2.1;omega)];split <;> omega
     obtain ⟨T,hT'⟩ : ∃T,T=QX (10^(n-1)):=⟨_,rfl⟩
     obtain ⟨c,hc⟩ : ∃c,c=Q7 (val x) (10^(n-1)):=⟨_,rfl⟩
     rw [←hT'] at hT hC
     rw [←hc] at hC g2
     refine zs3 (ρ:=fun d=>if d=23 then [.v true (QZ T)] else [.v true (.int .i64 c)]) (an g1 <| an g2 <| w6) (o:=by repeat' first|exact hT|exact hC|trivial|constructor) (k:=?_)
     exact QQ.condF rfl (QQ.exit ⟨rfl,fun a w h=>Rel.keep [3] [] h⟩)
    ·have g1 : ¬(1:Int)<(n:Int):=by omega
     refine zs1 g1 ?_
     exact QQ.condF rfl (QQ.exit ⟨rfl,fun a w h=>Rel.keep [3] [] h⟩)
   ·have hd1:n=D+1:=by omega
    subst hd1
    have g1:(1:Int)<((D+1:Nat):Int):=by omega
    have hT:=UD D (by omega)
    have hC:=hcmp D (by omega)
    have w6:((D+1:Nat):Int)-1=(D:Int):=by omega
    have g2:Q7 (val x) (10^D)<0:=by
     rw [Q7,if_pos hD.2.2];omega
    obtain ⟨T,hT'⟩ : ∃T,T=QX (10^D):=⟨_,rfl⟩
    obtain ⟨c,hc⟩ : ∃c,c=Q7 (val x) (10^D):=⟨_,rfl⟩
    rw [←hT'] at hT hC
    rw [←hc] at hC g2
    obtain ⟨F,hF⟩ : ∃F:Int,F=((D+1:Nat):Int):=⟨_,rfl⟩
    show QQ _ _ _ _ _ {nt:=30,env:=[(3,.v true (.int .i64 ((D+1:Nat):Int))),(0,.v false (QZ x))],mem:=[]} _
    rw [←hF] at g1 w6 ⊢
    have w7:IntKind.i64.wrap (D:Int)=(D:Int):=by rw [QV] <;> omega
    refine zs3 (ρ:=fun d=>if d=23 then [.v true (QZ T)] else [.v true (.int .i64 c)]) (an g1 <| an g2 <| w6) (o:=by repeat' first|exact hT|exact hC|trivial|constructor) (k:=?_)
    refine QQ.condT rfl (QQ.skip ?_)
    refine QQ.block ?_
    refine zr1 (an w6 <| w7) ?_
    exact ⟨D,.inl rfl,Nat.lt_succ_self D,fun a w h=>Rel.keep [3,0] [] h⟩
  ·intro σ hσ
   refine QQ.from hσ ?_
   refine zs0 ?_
   exact QQ.ret (QK.vs rfl (by exact ⟨⟨rfl,id⟩,trivial⟩) rfl)
def Gv (neg:Bool) (num den:Nat):V:=.agg [.bool neg,QZ (QX num),QZ (QX den),.int .i64 0,.int .i64 1]
theorem hasD_quo {num den E D:Nat} (hE:EB num E) (hD:EB den D):(den*10^(E-D)≤num*10^(D-E)→IsA num den ((E:Int)-D))∧(num*10^(D-E)<den*10^(E-D)→IsA num den ((E:Int)-D-1)):=by
 have e0:(((E-D:Nat):Int))-((D-E:Nat):Int)=(E:Int)-D:=by omega
 obtain ⟨e1,e2,e3⟩:=hE
 obtain ⟨d1,d2,d3⟩:=hD
 constructor
 ·intro h
  refine isA_of (i:=E-D) (j:=D-E) e0 h ?_
  have h1:num*10^(D-E)<10^(E+(D-E)):=by rw [Nat.pow_add];exact Nat.mul_lt_mul_of_pos_right e3 (Nat.pow_pos (by decide))
  have h2:10^(D-1+(E-D+1))≤den*10^(E-D+1):=by rw [Nat.pow_add];exact Nat.mul_le_mul_right _ d2
  rw [show D-1+(E-D+1)=E+(D-E) from by omega] at h2
  omega
 ·intro h
  refine isA_of (i:=E-D) (j:=D-E+1) (by omega) ?_ ?_
  ·have h1:den*10^(E-D)≤10^(D+(E-D)):=by rw [Nat.pow_add];exact Nat.mul_le_mul_right _ (Nat.le_of_lt d3)
   have h2:10^(E-1+(D-E+1))≤num*10^(D-E+1):=by rw [Nat.pow_add];exact Nat.mul_le_mul_right _ e2
   rw [show E-1+(D-E+1)=D+(E-D) from by omega] at h2
   omega
  ·rw [Nat.pow_succ,Nat.pow_succ,←Nat.mul_assoc,←Nat.mul_assoc]
   exact Nat.mul_lt_mul_of_pos_right h (by decide)
set_option maxHeartbeats 2000000 in
theorem rLogG_ok (neg:Bool) (num den B:Nat) (a:Int) (hB:B≤17000) (hn:0<num) (hd:0<den) (hnl:num<2^B) (hdl:den<2^B) (hA:IsA num den a):QU Tryz.prog 89 [.v (Gv neg num den)] [.v true (.int .i64 a)]:=by
 have l1:=QC (n:=300) hnl (by omega)
 have l2:=QC (n:=300) hdl (by omega)
 obtain ⟨E,hE⟩:=KK num hn
 obtain ⟨D,hD⟩:=KK den hd
 have hEB:=Kk hE hnl
 have hDB:=Kk hD hdl
 have hD1:=KU (QX num) E (by omega) (QY _).1 (by rw [(QY _).2.2];exact hE) (by rw [(QY _).2.2];have:=X6 hnl;omega) (by omega)
 have hD2:=KU (QX den) D (by omega) (QY _).1 (by rw [(QY _).2.2];exact hD) (by rw [(QY _).2.2];have:=X6 hdl;omega) (by omega)
 obtain ⟨q1,q2⟩:=hasD_quo hE hD
 have w6:IntKind.i64.wrap ((E:Int)-D)=(E:Int)-D:=by rw [QV] <;> omega
 have w7:IntKind.i64.wrap ((E:Int)-D-1)=(E:Int)-D-1:=by rw [QV] <;> omega
 have hF:=floor1_ok a
 unfold Gv
 by_cases h1:D<E
 ·have hTl:=GQ (k:=E-D)
  have hT:=UD (E-D) (by omega)
  have hM:=KV (QX den) (QX (10^(E-D))) (by omega) (by omega) (QY _).1 (QY _).1
  rw [(QY den).2.2,(QY (10^(E-D))).2.2] at hM
  have l3:(QX (den*10^(E-D))).length<40000:=by
   have h3:den*10^(E-D)<2^(B+(4*(E-D)+1)):=by rw [Nat.pow_add];exact Nat.mul_lt_mul_of_lt_of_lt hdl (X3 _)
   exact Nat.lt_of_le_of_lt (QC h3 (n:=2000) (by omega)) (by decide)
  have hC:=F8 (QX num) (QX (den*10^(E-D))) (by omega) l3 (QY _).1 (QY _).1
  rw [(QY _).2.2,(QY (den*10^(E-D))).2.2] at hC
  rw [show D-E=0 from by omega,Nat.pow_zero,Nat.mul_one] at q1 q2
  have g1:(0:Int)<(E:Int)-D:=by omega
  have wT:(E:Int)-D=((E-D:Nat):Int):=by omega
  rw [←wT] at hT
  obtain ⟨T,hT'⟩ : ∃T,T=QX (10^(E-D)):=⟨_,rfl⟩
  obtain ⟨M,hM'⟩ : ∃T,T=QX (den*10^(E-D)):=⟨_,rfl⟩
  obtain ⟨c,hc⟩ : ∃c,c=Q7 num (den*10^(E-D)):=⟨_,rfl⟩
  obtain ⟨N,hN⟩ : ∃L,L=QX num:=⟨_,rfl⟩
  obtain ⟨O,hO⟩ : ∃O,O=QX den:=⟨_,rfl⟩
  rw [←hT'] at hT hM
  rw [←hM'] at hM hC
  rw [←hc] at hC
  rw [←hN] at hD1 hC ⊢
  rw [←hO] at hD2 hM ⊢
  obtain ⟨dd,hdd⟩ : ∃dd:Int,dd=(E:Int)-D:=⟨_,rfl⟩
  rw [←hdd] at w6 w7 g1 hT q1 q2
  refine QU.of Tryz.func89 rfl rfl fun cx w0=>?_
  rw [show Tryz.f89.ntmps=41 from rfl]
  refine zs0 ?_
  refine zd3 [] (ρ:=fun d=>if d=8 then [.v true (.int .i64 (E:Nat))] else [.v true (.int .i64 (D:Nat))]) (an w6 <| hdd.symm) (o:=by repeat' first|exact hD1|exact hD2|trivial|constructor) (k:=?_)
  refine zd0 [] ?_
  refine QQ.seq ?_
  refine zs1 g1 ?_
  refine QQ.condT rfl ?_
  refine zr2 (ρ:=fun d=>if d=21 then [.v true (QZ T)] else [.v true (QZ M)]) (o:=by repeat' first|exact hT|exact hM|trivial|constructor) (k:=?_)
  refine QQ.seq ?_
  rcases Nat.lt_or_ge num (den*10^(E-D)) with h|h
  ·have ha:=HH hA (q2 h)
   subst ha
   have g2:c<0:=by rw [hc,Q7,if_pos h];omega
   have hF:=hF (by omega)
   obtain ⟨ev,hev⟩ : ∃ev,ev=dd-1:=⟨_,rfl⟩
   rw [←hev] at hF ⊢
   have w8:dd-1+0=ev:=by omega
   refine zs3 (ρ:=fun _=>[.v true (.int .i64 c)]) g2 (o:=by repeat' first|exact hC|trivial|constructor) (k:=?_)
   refine QQ.condT rfl ?_
   refine zr1 w7 ?_
   show QQ _ _ _ _ _ _ _
   refine zs3 (ρ:=fun _=>[.v true (.int .i64 ev)]) w8 (o:=by repeat' first|exact hF|trivial|constructor) (k:=?_)
   exact QQ.ret (QK.vs rfl (by exact ⟨⟨rfl,id⟩,trivial⟩) rfl)
  ·have ha:=HH hA (q1 h)
   subst ha
   have g2 : ¬c<0:=by rw [hc,Q7,if_neg (by omega)];split <;> omega
   have hF:=hF (by omega)
   have w8:IntKind.i64.wrap (a+0)=a:=by rw [QV] <;> omega
   refine zs3 (ρ:=fun _=>[.v true (.int .i64 c)]) g2 (o:=by repeat' first|exact hC|trivial|constructor) (k:=?_)
   refine QQ.condF rfl (QQ.skip ?_)
   show QQ _ _ _ _ _ _ _
   refine zs3 (ρ:=fun _=>[.v true (.int .i64 a)]) w8 (o:=by repeat' first|exact hF|trivial|constructor) (k:=?_)
   exact QQ.ret (QK.vs rfl (by exact ⟨⟨rfl,id⟩,trivial⟩) rfl)
 ·have hTl:=GQ (k:=D-E)
  have hT:=UD (D-E) (by omega)
  have hM:=KV (QX num) (QX (10^(D-E))) (by omega) (by omega) (QY _).1 (QY _).1
  rw [(QY num).2.2,(QY (10^(D-E))).2.2] at hM
  have l3:(QX (num*10^(D-E))).length<40000:=by
   have h3:num*10^(D-E)<2^(B+(4*(D-E)+1)):=by rw [Nat.pow_add];exact Nat.mul_lt_mul_of_lt_of_lt hnl (X3 _)
   exact Nat.lt_of_le_of_lt (QC h3 (n:=2000) (by omega)) (by decide)
  have hC:=F8 (QX (num*10^(D-E))) (QX den) l3 (by omega) (QY _).1 (QY _).1
  rw [(QY den).2.2,(QY (num*10^(D-E))).2.2] at hC
  rw [show E-D=0 from by omega,Nat.pow_zero,Nat.mul_one] at q1 q2
  have g1 : ¬(0:Int)<(E:Int)-D:=by omega
  have wT:IntKind.i64.wrap (0-((E:Int)-D))=((D-E:Nat):Int):=by rw [QV] <;> omega
  obtain ⟨T,hT'⟩ : ∃T,T=QX (10^(D-E)):=⟨_,rfl⟩
  obtain ⟨M,hM'⟩ : ∃T,T=QX (num*10^(D-E)):=⟨_,rfl⟩
  obtain ⟨c,hc⟩ : ∃c,c=Q7 (num*10^(D-E)) den:=⟨_,rfl⟩
  obtain ⟨N,hN⟩ : ∃L,L=QX num:=⟨_,rfl⟩
  obtain ⟨O,hO⟩ : ∃O,O=QX den:=⟨_,rfl⟩
  rw [←hT'] at hT hM
  rw [←hM'] at hM hC
  rw [←hc] at hC
  rw [←hN] at hD1 hM ⊢
  rw [←hO] at hD2 hC ⊢
  obtain ⟨tt,htt⟩ : ∃tt:Int,tt=((D-E:Nat):Int):=⟨_,rfl⟩
  rw [←htt] at wT hT
  obtain ⟨dd,hdd⟩ : ∃dd:Int,dd=(E:Int)-D:=⟨_,rfl⟩
  rw [←hdd] at w6 w7 g1 wT q1 q2
  refine QU.of Tryz.func89 rfl rfl fun cx w0=>?_
  rw [show Tryz.f89.ntmps=41 from rfl]
  refine zs0 ?_
  refine zd3 [] (ρ:=fun d=>if d=8 then [.v true (.int .i64 (E:Nat))] else [.v true (.int .i64 (D:Nat))]) (an w6 <| hdd.symm) (o:=by repeat' first|exact hD1|exact hD2|trivial|constructor) (k:=?_)
  refine zd0 [] ?_
  refine QQ.seq ?_
  refine zs1 g1 ?_
  refine QQ.condF rfl ?_
  refine zr3 (ρ:=fun d=>if d=26 then [.v true (QZ T)] else [.v true (QZ M)]) wT (o:=by repeat' first|exact hT|exact hM|trivial|constructor) (k:=?_)
  refine QQ.seq ?_
  rcases Nat.lt_or_ge (num*10^(D-E)) den with h|h
  ·have ha:=HH hA (q2 h)
   subst ha
   have g2:c<0:=by rw [hc,Q7,if_pos h];omega
   have hF:=hF (by omega)
   obtain ⟨ev,hev⟩ : ∃ev,ev=dd-1:=⟨_,rfl⟩
   rw [←hev] at hF ⊢
   have w8:dd-1+0=ev:=by omega
   refine zs3 (ρ:=fun _=>[.v true (.int .i64 c)]) g2 (o:=by repeat' first|exact hC|trivial|constructor) (k:=?_)
   refine QQ.condT rfl ?_
   refine zr1 w7 ?_
   show QQ _ _ _ _ _ _ _
   refine zs3 (ρ:=fun _=>[.v true (.int .i64 ev)]) w8 (o:=by repeat' first|exact hF|trivial|constructor) (k:=?_)
   exact QQ.ret (QK.vs rfl (by exact ⟨⟨rfl,id⟩,trivial⟩) rfl)
  ·have ha:=HH hA (q1 h)
   subst ha
   have g2 : ¬c<0:=by rw [hc,Q7,if_neg (by omega)];split <;> omega
   have hF:=hF (by omega)
   have w8:IntKind.i64.wrap (a+0)=a:=by rw [QV] <;> omega
   refine zs3 (ρ:=fun _=>[.v true (.int .i64 c)]) g2 (o:=by repeat' first|exact hC|trivial|constructor) (k:=?_)
   refine QQ.condF rfl (QQ.skip ?_)
   show QQ _ _ _ _ _ _ _
   refine zs3 (ρ:=fun _=>[.v true (.int .i64 a)]) w8 (o:=by repeat' first|exact hF|trivial|constructor) (k:=?_)
   exact QQ.ret (QK.vs rfl (by exact ⟨⟨rfl,id⟩,trivial⟩) rfl)
def stM (num:Nat) (s:Int):Nat:=num*10^(-s).toNat
def stD (den:Nat) (s:Int):Nat:=den*10^s.toNat
def stV (num den:Nat) (s:Int):V:=G9 (2*stM num s/stD den s/2) (decide (2*stM num s/stD den s%2=1)) (decide (2*stM num s%stD den s≠0))
set_option maxHeartbeats 2000000 in
theorem rStepsG_ok (neg:Bool) (num den B:Nat) (s:Int) (hB:B≤17000) (hn:0<num) (hd:0<den) (hnl:num<2^B) (hdl:den<2^B) (hs : -8000<s∧s<8000) :
 QU Tryz.prog 90 [.v (Gv neg num den),.v (.int .i64 s)] [.v true (stV num den s)]:=by
 have l1:=QC (n:=300) hnl (by omega)
 have l2:=QC (n:=300) hdl (by omega)
 have hL:=Uq (QX num) 1 (by omega) (by omega) (QY _).1
 rw [(QY _).2.2,Nat.pow_one,Nat.mul_comm num 2] at hL
 have h2m:2*num<2^(B+1):=by rw [Nat.pow_succ];omega
 have l3:=QC (n:=300) h2m (by omega)
 have hL:QU Tryz.prog 74 [.v (QZ (QX num)),.v (.int .i64 1)] [.v true (QZ (QX (2*num)))]:=hL
 have w1:IntKind.i64.wrap (1*s)=s:=by rw [QV] <;> omega
 have w1':IntKind.i64.wrap s=s:=by rw [QV] <;> omega
 have w2:IntKind.i64.wrap (0-s) = -s:=by rw [QV] <;> omega
 have tail : ∀(M D C:Nat),C≤33000→0<D→M<2^(B+C)→(QX D).length≤900 → ∃(P Z N:List Int) (b z:Bool),QU Tryz.prog 147 [.v (QZ (QX M)),.v (QZ (QX D))] [.v true (QZ P),.v true (QZ Z)]∧QU Tryz.prog 95 [.v (QZ Z)] [.v true (.bool z)] ∧
  QU Tryz.prog 158 [.v (QZ P),.v (.int .i64 1)] [.v true (QZ N)]∧QU Tryz.prog 173 [.v (QZ P),.v (.int .i64 0)] [.v true (.bool b)]∧N=QX (M/D/2)∧b=decide (M/D%2=1)∧(!z)=decide (M%D≠0):=fun M D C hC hD hM hDl=>by
  have lM:=QC (n:=900) hM (by omega)
  have hDM:=JH (QX M) (QX D) (by omega) (by omega) (QY _).1 (QY _).1 (by rw [(QY _).2.2];exact hD)
  rw [(QY M).2.2,(QY D).2.2] at hDM
  have hql:=Zk (Nat.div_le_self M D)
  have hrl:=Zk (Nat.mod_le M D)
  have hZ:=Vg (QX (M%D)) (by omega) (QY _).1
  rw [(QY _).2.2] at hZ
  have hR:=XB (QX (M/D)) 1 (by omega) (by omega) (QY _).1
  rw [(QY _).2.2,Nat.pow_one] at hR
  have hBt:=F7 (QX (M/D)) 0 (by omega) (by omega) (QY _).1
  rw [(QY _).2.2,Kf] at hBt
  exact ⟨_,_,_,_,_,hDM,hZ,hR,hBt,rfl,rfl,by by_cases h:M%D=0 <;> simp [h]⟩
 unfold stV
 by_cases h0:s≤0
 ·-- a power of 10 to the numerator
  have eD:stD den s=den:=by unfold stD;rw [show s.toNat=0 from by omega,Nat.pow_zero,Nat.mul_one]
  have hT:=UD (-s).toNat (by omega)
  have hTl:=GQ (k:=(-s).toNat)
  have hM:=KV (QX (2*num)) (QX (10^(-s).toNat)) (by omega) (by omega) (QY _).1 (QY _).1
  rw [(QY _).2.2,(QY (10^(-s).toNat)).2.2,show 2*num*10^(-s).toNat=2*stM num s from Nat.mul_assoc _ _ _] at hM
  have hMl:2*stM num s<2^(B+(1+(4*(-s).toNat+1))):=by
   have h1:2*num*10^(-s).toNat<2^(B+1+(4*(-s).toNat+1)):=by rw [Nat.pow_add _ (B+1)];exact Nat.mul_lt_mul_of_lt_of_lt h2m (X3 _)
   rw [show 2*num*10^(-s).toNat=2*stM num s from Nat.mul_assoc _ _ _] at h1
   rw [Nat.add_assoc] at h1
   exact h1
  rw [eD]
  obtain ⟨P,Z,N,b,z,c1,c2,c3,c4,c5,c6,c7⟩:=tail (2*stM num s) den _ (by omega) hd hMl (by omega)
  rw [←c6,←c7]
  unfold G9 Gv
  rw [←c5]
  rw [show (((-s).toNat:Nat):Int) = -s from by omega] at hT
  obtain ⟨A,hA⟩ : ∃M,M=QX num:=⟨_,rfl⟩
  obtain ⟨A2,hA2⟩ : ∃M,M=QX (2*num):=⟨_,rfl⟩
  obtain ⟨T,hT'⟩ : ∃T,T=QX (10^(-s).toNat):=⟨_,rfl⟩
  obtain ⟨M,hM'⟩ : ∃T,T=QX (2*stM num s):=⟨_,rfl⟩
  obtain ⟨O,hO⟩ : ∃O,O=QX den:=⟨_,rfl⟩
  rw [←hA,←hA2] at hL
  rw [←hA2,←hT',←hM'] at hM
  rw [←hT'] at hT
  rw [←hM',←hO] at c1
  rw [←hA,←hO]
  obtain ⟨k,hk⟩ : ∃k:Int,k = -s:=⟨_,rfl⟩
  rw [←hk] at w2 hT
  have g0:(0:Int)≤k:=by omega
  clear hA hA2 hT' hM' hO tail c5 c6 c7
  refine QU.of Tryz.func90 rfl rfl fun cx w0=>?_
  rw [show Tryz.f90.ntmps=81 from rfl]
  refine zs0 ?_
  refine zs1 (an Int.one_mul <| an w1' <| w2) ?_
  refine zd2 [] (ρ:=fun _=>[.v true (QZ A2)]) (o:=by repeat' first|exact hL|trivial|constructor) (k:=?_)
  refine QQ.seq ?_
  refine QQ.block ?_
  refine zs1 g0 ?_
  refine QQ.condT rfl ?_
  refine zr2 (ρ:=fun d=>if d=36 then [.v true (QZ T)] else [.v true (QZ M)]) (o:=by repeat' first|exact hT|exact hM|trivial|constructor) (k:=?_)
  show QQ _ _ _ _ _ _ _
  refine zs2 (ρ:=fun _=>[.v true (QZ P),.v true (QZ Z)]) (o:=by repeat' first|exact c1|trivial|constructor) (k:=?_)
  refine zs2 (ρ:=fun _=>[.v true (.bool z)]) (o:=by repeat' first|exact c2|trivial|constructor) (k:=?_)
  refine QQ.seq ?_
  refine zs0 ?_
  refine QQ.condF rfl (QQ.skip ?_)
  refine zs2 (ρ:=fun d=>if d=75 then [.v true (QZ N)] else [.v true (.bool b)]) (o:=by repeat' first|exact c3|exact c4|trivial|constructor) (k:=?_)
  exact QQ.ret (QK.vs rfl (by exact ⟨⟨rfl,id⟩,trivial⟩) rfl)
 ·have eM:stM num s=num:=by unfold stM;rw [show (-s).toNat=0 from by omega,Nat.pow_zero,Nat.mul_one]
  obtain ⟨k,hk⟩ : ∃k:Nat,s=k:=⟨s.toNat,by omega⟩
  have eD:stD den s=den*10^k:=by unfold stD;rw [show s.toNat=k from by omega]
  rw [eM,eD]
  obtain ⟨E,hE⟩:=KK (2*num) (by omega)
  obtain ⟨D,hD⟩:=KK den hd
  have hEB:=Kk hE h2m
  have hDB:=Kk hD hdl
  have hD1:=KU (QX (2*num)) E (by omega) (QY _).1 (by rw [(QY _).2.2];exact hE) (by rw [(QY _).2.2];have:=X6 h2m;omega) (by omega)
  have hD2:=KU (QX den) D (by omega) (QY _).1 (by rw [(QY _).2.2];exact hD) (by rw [(QY _).2.2];have:=X6 hdl;omega) (by omega)
  have g0 : ¬(0:Int) ≤ -s:=by omega
  have w3:IntKind.i64.wrap ((D:Int) - -s)=(D:Int)+k:=by rw [QV] <;> omega
  have w4:IntKind.i64.wrap ((D:Int)+k-1)=(D:Int)+k-1:=by rw [QV] <;> omega
  have w5:IntKind.i64.wrap (0 - -s)=(k:Int):=by rw [QV] <;> omega
  have hp:0<10^k:=Nat.pow_pos (by decide)
  by_cases hsm:(E:Int)<(D:Int)+k-1
  ·have hz:2*num<den*10^k:=by
    have h1:10^(D-1+k)≤den*10^k:=by rw [Nat.pow_add];exact Nat.mul_le_mul_right _ hD.2.1
    have h2:10^E≤10^(D-1+k):=Nat.pow_le_pow_right (by decide) (by have:=hD.1;omega)
    have:=hE.2.2
    omega
   rw [Nat.div_eq_of_lt hz,Nat.mod_eq_of_lt hz,decide_eq_true (show 2*num≠0 by omega)]
   rw [show G9 (0/2) (decide (0%2=1)) true = .agg [.sl 1 [],.bool false,.bool true] from rfl]
   unfold Gv
   obtain ⟨A,hA⟩ : ∃M,M=QX num:=⟨_,rfl⟩
   obtain ⟨A2,hA2⟩ : ∃M,M=QX (2*num):=⟨_,rfl⟩
   obtain ⟨O,hO⟩ : ∃O,O=QX den:=⟨_,rfl⟩
   rw [←hA,←hA2] at hL
   rw [←hA2] at hD1
   rw [←hO] at hD2
   rw [←hA,←hO]
   obtain ⟨q,hq⟩ : ∃q:Int,q = -s:=⟨_,rfl⟩
   rw [←hq] at w2 w3 w5 g0
   clear hA hA2 hO tail hz hp w5 eM eD
   refine QU.of Tryz.func90 rfl rfl fun cx w0=>?_
   rw [show Tryz.f90.ntmps=81 from rfl]
   refine zs0 ?_
   refine zs1 (an Int.one_mul <| an w1' <| w2) ?_
   refine zd2 [] (ρ:=fun _=>[.v true (QZ A2)]) (o:=by repeat' first|exact hL|trivial|constructor) (k:=?_)
   refine QQ.seq ?_
   refine QQ.block ?_
   refine zs1 g0 ?_
   refine QQ.condF rfl ?_
   refine zs3 (ρ:=fun d=>if d=40 then [.v true (.int .i64 E)] else [.v true (.int .i64 D)]) (an w3 <| an w4 <| hsm) (o:=by repeat' first|exact hD1|exact hD2|trivial|constructor) (k:=?_)
   refine QQ.condT rfl ?_
   refine zs0 ?_
   exact QQ.ret (QK.vs rfl (by exact ⟨⟨rfl,id⟩,trivial⟩) rfl)
  ·have hT:=UD k (by omega)
   have hTl:=GQ (k:=k)
   have hM:=KV (QX den) (QX (10^k)) (by omega) (by omega) (QY _).1 (QY _).1
   rw [(QY den).2.2,(QY (10^k)).2.2] at hM
   have hDl:(QX (den*10^k)).length≤900:=by
    have h3:den*10^k<2^(B+(4*k+1)):=by rw [Nat.pow_add];exact Nat.mul_lt_mul_of_lt_of_lt hdl (X3 _)
    exact QC h3 (by omega)
   obtain ⟨P,Z,N,b,z,c1,c2,c3,c4,c5,c6,c7⟩:=tail (2*num) (den*10^k) 1 (by omega) (Nat.mul_pos hd hp) h2m hDl
   rw [←c6,←c7]
   unfold G9 Gv
   rw [←c5]
   obtain ⟨A,hA⟩ : ∃M,M=QX num:=⟨_,rfl⟩
   obtain ⟨A2,hA2⟩ : ∃M,M=QX (2*num):=⟨_,rfl⟩
   obtain ⟨T,hT'⟩ : ∃T,T=QX (10^k):=⟨_,rfl⟩
   obtain ⟨M,hM'⟩ : ∃T,T=QX (den*10^k):=⟨_,rfl⟩
   obtain ⟨O,hO⟩ : ∃O,O=QX den:=⟨_,rfl⟩
   rw [←hA,←hA2] at hL
   rw [←hO,←hT',←hM'] at hM
   rw [←hT'] at hT
   rw [←hA2] at hD1
   rw [←hO] at hD2
   rw [←hA2,←hM'] at c1
   rw [←hA,←hO]
   obtain ⟨q,hq⟩ : ∃q:Int,q = -s:=⟨_,rfl⟩
   rw [←hq] at w2 w3 w5 g0
   clear hA hA2 hT' hM' hO tail c5 c6 c7 eM eD
   refine QU.of Tryz.func90 rfl rfl fun cx w0=>?_
   rw [show Tryz.f90.ntmps=81 from rfl]
   refine zs0 ?_
   refine zs1 (an Int.one_mul <| an w1' <| w2) ?_
   refine zd2 [] (ρ:=fun _=>[.v true (QZ A2)]) (o:=by repeat' first|exact hL|trivial|constructor) (k:=?_)
   refine QQ.seq ?_
   refine QQ.block ?_
   refine zs1 g0 ?_
   refine QQ.condF rfl ?_
   refine zs3 (ρ:=fun d=>if d=40 then [.v true (.int .i64 E)] else [.v true (.int .i64 D)]) (an w3 <| an w4 <| hsm) (o:=by repeat' first|exact hD1|exact hD2|trivial|constructor) (k:=?_)
   refine QQ.condF rfl ?_
   refine zr3 (ρ:=fun d=>if d=29 then [.v true (QZ T)] else [.v true (QZ M)]) w5 (o:=by repeat' first|exact hT|exact hM|trivial|constructor) (k:=?_)
   show QQ _ _ _ _ _ _ _
   refine zs2 (ρ:=fun _=>[.v true (QZ P),.v true (QZ Z)]) (o:=by repeat' first|exact c1|trivial|constructor) (k:=?_)
   refine zs2 (ρ:=fun _=>[.v true (.bool z)]) (o:=by repeat' first|exact c2|trivial|constructor) (k:=?_)
   refine QQ.seq ?_
   refine zs0 ?_
   refine QQ.condF rfl (QQ.skip ?_)
   refine zs2 (ρ:=fun d=>if d=75 then [.v true (QZ N)] else [.v true (.bool b)]) (o:=by repeat' first|exact c3|exact c4|trivial|constructor) (k:=?_)
   exact QQ.ret (QK.vs rfl (by exact ⟨⟨rfl,id⟩,trivial⟩) rfl)
structure FlOne (k P:Int) (neg:Bool) (e:Int) (l:List Int) (K p:Nat) (m:Nat) (ex u:Int) (n:Nat) (a:Int):Prop where
 hk:k=((K+1:Nat):Int)
 hp:P=(p:Int)
 cn:cnV 1 neg e (val l)=YG 1 neg ex m
 sh:ShH K p m ex u n a
 tr:trN m=0
 ho:hoI K p ex m=true
theorem flOne {k P:Int} {okr neg:Bool} {e:Int} {l:List Int} (h:nuE k P okr 1 neg e l=0) : ∃K p m ex u n a,FlOne k P neg e l K p m ex u n a:=by
 obtain ⟨hf,_,_,hc,hh⟩:=nu_one h
 have hh:=hh rfl
 obtain ⟨h1,_,h3⟩:=yz hc
 obtain ⟨v0,e1,e2,e3⟩:=h3 rfl
 obtain ⟨⟨f1,f2⟩,f3,f4⟩:=hf
 have hm:0<cnM 1 e (val l):=by
  rw [e2]
  obtain ⟨c,hc⟩:=Uv v0
  exact Nat.div_pos (by
   have:2^trN (val l)*1≤val l:=by
    conv=>rhs;rw [hc]
    rw [Nat.mul_comm]
    exact Nat.mul_le_mul_right _ (by omega)
   omega) (Nat.pow_pos (by decide))
 obtain ⟨u,n,a,hs⟩:=hoI_sh (K:=(k-1).toNat) (p:=P.toNat) (by omega) (by omega) hh hm
 refine ⟨(k-1).toNat,P.toNat,cnM 1 e (val l),cnE 1 e (val l),u,n,a,by omega,by omega,?_,hs,?_,hh⟩
 ·unfold cnV
  rw [←h1.1 rfl,e3]
 ·rw [e2]
  obtain ⟨c,hc⟩:=Uv v0
  have hp:0<2^trN (val l):=Nat.pow_pos (by decide)
  exact J8 (c:=c) (by rw [Nat.div_eq_of_eq_mul_left hp hc,Nat.pow_zero,Nat.mul_one])
structure FlAny (k P:Int) (kd:Int) (neg:Bool) (e:Int) (l:List Int) (m:Nat) (ex:Int):Prop where
 kd3:0≤kd∧kd≤3
 nan:kd=3→neg=false
 cn:cnV kd neg e (val l)=Q9 kd neg ex (QX m)
 mB:m<2^256
 ex' : -16640≤ex∧ex≤16384
 z:kd≠1→ex=0∧m=0
theorem flAny {k P:Int} {okr neg:Bool} {kd e:Int} {l:List Int} (h:nuE k P okr kd neg e l=0) : ∃m ex,FlAny k P kd neg e l m ex∧(kd=1 → ∃K p u n a,FlOne k P neg e l K p m ex u n a):=by
 by_cases h1:kd=1
 ·subst h1
  obtain ⟨K,p,m,ex,u,n,a,hf⟩:=flOne h
  exact ⟨m,ex,⟨by omega,fun h=>by omega,hf.cn,hf.sh.fl.mB,⟨hf.sh.fl.lo,hf.sh.fl.hi⟩,fun h=>absurd rfl h⟩,fun _=>⟨K,p,u,n,a,hf⟩⟩
 ·refine ⟨0,0,?_,fun h=>absurd h h1⟩
  obtain ⟨_,_,_,hc,_⟩:=nu_one h
  have hc':=hc
  unfold cnB at hc'
  have hkd:0≤kd∧kd≤3:=by
   by_cases a1:kd=0∨kd=2
   ·omega
   ·rw [if_neg a1] at hc'
    by_cases a2:kd=3
    ·omega
    ·rw [if_neg a2,if_neg h1] at hc'
     cases hc'
  have hnan:kd=3→neg=false:=fun h3=>by
   rw [if_neg (by omega),if_pos h3] at hc'
   cases neg
   ·rfl
   ·cases hc'
  refine ⟨hkd,hnan,?_,by decide,by omega,fun _=>⟨rfl,rfl⟩⟩
  have k1:cnE kd e (val l)=0:=if_neg (fun h=>h1 h.1)
  have k2:cnM kd e (val l)=0:=if_neg (fun h=>h1 h.1)
  unfold cnV
  rw [k1,k2,yX]
  unfold cnK cnN
  by_cases a1:kd=0∨kd=2
  ·rw [if_pos a1,if_pos a1,show ((kd.toNat:Nat):Int)=kd from by omega]
  ·rw [if_neg a1,if_neg a1]
   have a2:kd=3:=by omega
   rw [if_pos a2,if_pos a2,hnan a2,a2]
   rfl
theorem UB {k B:Nat} (h:k<2^B) (hB:1≤B):(Qv k).length≤B:=by
 rcases Nat.eq_zero_or_pos k with h0|h0
 ·rw [h0];exact hB
 ·obtain ⟨D,hD⟩:=KK k h0
  rw [decG_len hD]
  exact Kk hD h
def txR (z:Bool) (k w:Nat):List Nat:=if z=true then tdL k w else fxL k w
theorem txR_0 (z:Bool) (w:Nat):txR z 0 w=[]:=by unfold txR;split <;> rfl
theorem txR_s {z:Bool} {k w:Nat} (hk:0<k) (h:z=true→w≠0):txR z k w=(48+w%10)::txR z (k-1) (w/10):=by
 unfold txR
 cases z with
 | true=>rw [if_pos rfl,if_pos rfl,tdL_s hk (h rfl)]
 | false =>
   obtain ⟨j,rfl⟩ : ∃j,k=j+1:=⟨k-1,by omega⟩
   rw [if_neg (by simp),if_neg (by simp),fxL]
   rfl
theorem txR_z (k:Nat):txR true k 0=[]:=by unfold txR;rw [if_pos rfl,tdL_0]
set_option maxHeartbeats 1000000 in
theorem txt_body {cx:Cx} {w0:World} {i w:Nat} {Q T:List Int} {l:List Nat} (hi:i<19) (hw:w<10000000000000000000) (hll:l.length<900000) {Q':Exit→St→Prop}
 (hq : ∀σ,(∀a w',Rel cx w0 σ a w'→Rel cx w0 {nt:=73,env:=[(8,.v true (.int .i64 (i+1:Nat))),(7,.v true (.int .u64 (w/10:Nat))),(5,.v true (QZ Q)),(4,.v true (QZ T)),(3,dsA (l++[48+w%10]))],mem:=dsB (l++[48+w%10])} a w')→Q' .normal σ) :
 QQ Tryz.prog none cx w0 (ZH Tryz.f73 [1,1,1,1,0,0,0,0,1,1,0,1,0,0,1]) {nt:=73,env:=[(8,.v true (.int .i64 i)),(7,.v true (.int .u64 w)),(5,.v true (QZ Q)),(4,.v true (QZ T)),(3,dsA l)],mem:=dsB l} Q':=by
 have r1:(w:Int).tmod 10=((w%10:Nat):Int):=Gq w 10
 have q1:(w:Int).tdiv 10=((w/10:Nat):Int):=KF w 10
 have q2:IntKind.u64.wrap ((w/10:Nat):Int)=((w/10:Nat):Int):=by rw [QE];omega
 have r2:IntKind.u8.wrap ((w%10:Nat):Int)=((w%10:Nat):Int):=by rw [FH];omega
 have r3:IntKind.u8.wrap (48+((w%10:Nat):Int))=((48+w%10:Nat):Int):=by rw [FH];omega
 have wk:IntKind.i64.wrap ((i:Int)+1)=((i+1:Nat):Int):=by rw [QV] <;> omega
 have hXs:=dsV_s l (48+w%10)
 obtain ⟨m1,hm1⟩ : ∃m1,m1=w/10:=⟨_,rfl⟩
 rw [←hm1] at q1 q2 hq
 obtain ⟨d,hd⟩ : ∃d,d=48+w%10:=⟨_,rfl⟩
 rw [←hd] at r3 hXs hq
 obtain ⟨c,hc⟩ : ∃c,c=w%10:=⟨_,rfl⟩
 rw [←hc] at r1 r2 r3
 have hXl:=CG l
 clear hm1 hd hc
 refine QQ.next (fun σ=>∀a w',Rel cx w0 σ a w'→Rel cx w0 {nt:=73,env:=[(8,.v true (.int .i64 i)),(7,.v true (.int .u64 m1)),(5,.v true (QZ Q)),(4,.v true (QZ T)),(3,dsA (l++[d]))],mem:=dsB (l++[d])} a w') ?_ ?_
 ·refine QQ.blockN ?_
  have hA:dsA (l++[d]) = .own 300 0 (l.length+1):=by rw [dsA_c (by simp)];simp
  have hBb:dsB (l++[d])=[(300,.buf 5 1 true (dsV l++[.int .u8 d]))]:=by rw [dsB_c (by simp),hXs]
  rw [hA,hBb]
  clear hq
  by_cases hne:l=[]
  ·subst hne
   rw [dsA_n,dsB_n]
   refine zs1 (an r1 <| an r2 <| r3) ?_
   refine zr1 (an q1 <| q2) ?_
   intro a w h
   exact Rel.ren (s:=41) (s':=300) (Rel.keep [8,7,5,4,3] [41] h) (by decide) rfl rfl
  ·rw [dsA_c hne,dsB_c hne]
   refine zs1 (an r1 <| an r2 <| an r3 <| hXl) ?_
   refine zr1 (an q1 <| q2) ?_
   intro a w h
   exact Rel.ren (s:=41) (s':=300) (Rel.keep [8,7,5,4,3] [41] h) (by decide) rfl rfl
 ·intro σ hσ
  refine QQ.from hσ ?_
  clear hXs hXl r1 r2 r3 q1 q2 hσ
  refine zr1 wk ?_
  exact hq _ (fun a w h=>Rel.less [8,7,5,4,3] (fun _=>rfl) h)
set_option maxHeartbeats 1000000 in
theorem txt_inner {cx:Cx} {w0:World} {z:Bool} {Q T:List Int} {l:List Nat} {w:Nat} (hw:w<10^19) (hll:l.length<800000) (hZ:QU Tryz.prog 95 [.v (QZ Q)] [.v true (.bool z)]) {N':St→Prop} :
 QQ Tryz.prog none cx w0 (ZH Tryz.f73 [1,1,1,1,0,0,0,0,1,1,0,1]) {nt:=73,env:=[(8,.v true (.int .i64 0)),(7,.v true (.int .u64 w)),(5,.v true (QZ Q)),(4,.v true (QZ T)),(3,dsA l)],mem:=dsB l}
  (NR (fun σ=>∀a w',Rel cx w0 σ a w'→Rel cx w0 {nt:=73,env:=[(5,.v true (QZ Q)),(4,.v true (QZ T)),(3,dsA (l++txR z 19 w))],mem:=dsB (l++txR z 19 w)} a w') N'):=by
 obtain ⟨L,hL⟩ : ∃L,L=l++txR z 19 w:=⟨_,rfl⟩
 rw [←hL]
 refine QQ.loopB (fun q:Nat×Nat×List Nat => {nt:=73,env:=[(8,.v true (.int .i64 q.1)),(7,.v true (.int .u64 q.2.1)),(5,.v true (QZ Q)),(4,.v true (QZ T)),(3,dsA q.2.2)],mem:=dsB q.2.2}) (fun q=>q.1≤19∧q.2.1<10^(19-q.1)∧q.2.2++txR z (19-q.1) q.2.1=L∧q.2.2.length=l.length+q.1) (fun q=>19-q.1) (0,w,l) ⟨Nat.zero_le _,hw,hL.symm,rfl⟩ (fun a w h=>Rel.less [8,7,5,4,3] (fun _=>rfl) h) ?_
 rintro ⟨i,v,k⟩ ⟨hi,hv,hk,hlen⟩
 simp only at hi hv hk hlen
 show QQ _ _ _ _ _ {nt:=73,env:=[(8,.v true (.int .i64 i)),(7,.v true (.int .u64 v)),(5,.v true (QZ Q)),(4,.v true (QZ T)),(3,dsA k)],mem:=dsB k} _
 by_cases h19:i=19
 ·subst h19
  rw [Nat.sub_self,txR_0,List.append_nil] at hk
  have g : ¬((19:Nat):Int)<19:=by omega
  refine QQ.seq ?_
  refine zs0 ?_
  refine QQ.condF rfl (QQ.exit ⟨rfl,fun a w h=>?_⟩)
  rw [←hk]
  exact Rel.less [5,4,3] (fun _=>rfl) h
 have g:(i:Int)<19:=by omega
 have hvb:v<10000000000000000000:=Nat.lt_of_lt_of_le hv (Nat.pow_le_pow_right (by decide) (Nat.sub_le 19 i))
 have next:(z=true→v≠0) → ∀σ,(∀a w',Rel cx w0 σ a w'→Rel cx w0 {nt:=73,env:=[(8,.v true (.int .i64 (i+1:Nat))),(7,.v true (.int .u64 (v/10:Nat))),(5,.v true (QZ Q)),(4,.v true (QZ T)),(3,dsA (k++[48+v%10]))],mem:=dsB (k++[48+v%10])} a w') →
  roundQ (fun q:Nat×Nat×List Nat => {nt:=73,env:=[(8,.v true (.int .i64 q.1)),(7,.v true (.int .u64 q.2.1)),(5,.v true (QZ Q)),(4,.v true (QZ T)),(3,dsA q.2.2)],mem:=dsB q.2.2}) (fun q=>q.1≤19∧q.2.1<10^(19-q.1)∧q.2.2++txR z (19-q.1) q.2.1=L∧q.2.2.length=l.length+q.1) (fun q=>19-q.1) (i,v,k) cx w0 2 (fun σ=>∀a w',Rel cx w0 σ a w'→Rel cx w0 {nt:=73,env:=[(5,.v true (QZ Q)),(4,.v true (QZ T)),(3,dsA L)],mem:=dsB L} a w') N' .normal σ:=fun h0 σ hσ=>by
  refine ⟨(i+1,v/10,k++[48+v%10]),⟨by show i+1≤19;omega,?_,?_,?_⟩,(show 19-(i+1)<19-i by omega),hσ⟩
  ·show v/10<10^(19-(i+1))
   rw [show 19-i=(19-(i+1))+1 from by omega,Nat.pow_succ] at hv
   exact Nat.div_lt_of_lt_mul (by omega)
  ·show (k++[48+v%10])++txR z (19-(i+1)) (v/10)=L
   rw [←hk,txR_s (by omega) h0,List.append_assoc]
   rfl
  ·show (k++[48+v%10]).length=l.length+(i+1)
   simp only [List.length_append,List.length_cons,List.length_nil]
   omega
 rcases Nat.eq_zero_or_pos v with h0|h0
 ·cases z with
  | true =>
    subst h0
    rw [txR_z,List.append_nil] at hk
    clear next
    refine QQ.seq ?_
    refine zs3 (ρ:=fun _=>[.v true (.bool true)]) g (o:=by repeat' first|exact hZ|trivial|constructor) (k:=?_)
    refine QQ.condF rfl (QQ.exit ⟨rfl,fun a w h=>?_⟩)
    rw [←hk]
    exact Rel.less [5,4,3] (fun _=>rfl) h
  | false =>
    have g2 : ¬(0:Int)<v:=by omega
    have hb:=txt_body (cx:=cx) (w0:=w0) (Q:=Q) (T:=T) (show i<19 by omega) hvb (show k.length<900000 by omega) (next (fun h=>by cases h))
    clear next hk hv
    refine QQ.seq ?_
    refine zs3 (ρ:=fun _=>[.v true (.bool false)]) (an g <| g2) (o:=by repeat' first|exact hZ|trivial|constructor) (k:=?_)
    refine QQ.condT rfl (QQ.skip ?_)
    exact QQ.from (fun a w h=>Rel.less [8,7,5,4,3] (fun _=>rfl) h) hb
 ·have g2:(0:Int)<v:=by omega
  have hb:=txt_body (cx:=cx) (w0:=w0) (Q:=Q) (T:=T) (show i<19 by omega) hvb (show k.length<900000 by omega) (next (fun _=>by omega))
  clear next hk hv
  refine QQ.seq ?_
  refine zs1 (an g <| g2) ?_
  refine QQ.condT rfl (QQ.skip ?_)
  exact QQ.from (fun a w h=>Rel.less [8,7,5,4,3] (fun _=>rfl) h) hb
theorem H7 (n:Nat) (h:(QX n).length<100000):QU Tryz.prog 95 [.v (QZ (QX n))] [.v true (.bool (decide (n=0)))]:=by
 have:=Vg (QX n) (by omega) (QY n).1
 rw [(QY n).2.2] at this
 exact this
set_option maxHeartbeats 2000000 in
theorem Kx (n:Nat) (hn:(QX n).length≤1000):QU Tryz.prog 73 [.v (QZ (QX n))] [.v true (.str (bs (Qv n)))]:=by
 have hu:u8T Tryz.prog 102=true:=by kernel_rfl
 have hZ:=H7 n (by omega)
 by_cases hn0:n=0
 ·rw [decide_eq_true hn0] at hZ
  have e:bs (Qv n)=⟨#[48]⟩:=by rw [hn0];rfl
  rw [e]
  obtain ⟨X,hX⟩ : ∃X,X=QX n:=⟨_,rfl⟩
  rw [←hX] at hZ ⊢
  refine QU.of Tryz.func73 rfl rfl fun cx w0=>?_
  rw [show Tryz.f73.ntmps=73 from rfl]
  refine zs0 ?_
  refine QQ.seq ?_
  refine zs2 (ρ:=fun _=>[.v true (.bool true)]) (o:=by repeat' first|exact hZ|trivial|constructor) (k:=?_)
  refine QQ.condT rfl ?_
  refine zs0 ?_
  exact QQ.ret (QK.vs rfl (by exact ⟨⟨rfl,id⟩,trivial⟩) rfl)
 rw [decide_eq_false hn0] at hZ
 have hLen:(Qv n).length≤64000:=by
  have h1:=ZY (QY n).1
  rw [(QY n).2.2,Eq] at h1
  obtain ⟨c,hc⟩ : ∃c,c=64000:=⟨_,rfl⟩
  rw [←hc]
  exact UB (Nat.lt_of_lt_of_le h1 (Nat.pow_le_pow_right (by decide) (by omega))) (by omega)
 have e:Qv n=(tdL n n).reverse.map UInt8.ofNat:=if_neg hn0
 have hLl:(tdL n n).length≤64000:=by rw [e] at hLen;simpa using hLen
 have hdg:=tdL_dg n n
 have hLne:tdL n n≠[]:=by rw [tdL_s (by omega) hn0];simp
 rw [show bs (Qv n)=⟨((tdL n n).reverse.map UInt8.ofNat).toArray⟩ from by rw [e]]
 obtain ⟨L,hL⟩ : ∃L,L=tdL n n:=⟨_,rfl⟩
 rw [←hL] at hdg hLne hLl ⊢
 have hW:=YX 10000000000000000000 (by decide)
 have hlen2:=ZU (v:=10000000000000000000) (m:=1) (by decide)
 have hT1:(10000000000000000000:Nat)=10^19:=by decide
 have hDM : ∀x,x≤n→QU Tryz.prog 147 [.v (QZ (QX x)),.v (QZ (QX 10000000000000000000))] [.v true (QZ (QX (x/10^19))),.v true (QZ (QX (x%10^19)))]:=fun x hx=>by
  have:=Zk hx
  have:=JH (QX x) (QX 10000000000000000000) (by omega) (by omega) (QY _).1 (QY _).1 (by rw [(QY _).2.2];decide)
  rw [(QY _).2.2,(QY _).2.2,hT1] at this
  rw [hT1]
  exact this
 obtain ⟨T,hT⟩ : ∃T,T=QX 10000000000000000000:=⟨_,rfl⟩
 rw [←hT] at hW hDM
 clear hT hlen2 e hLen
 have hsmall : ∀x,x≤n→(QX x).length≤1000:=fun x hx=>Nat.le_trans (Zk hx) hn
 have hstart:[]++tdL n n=L:=hL.symm
 have hnx:n<10^n:=Vv n
 refine QU.of Tryz.func73 rfl rfl fun cx w0=>?_
 rw [show Tryz.f73.ntmps=73 from rfl]
 obtain ⟨X,hX⟩ : ∃X,X=QX n:=⟨_,rfl⟩
 have hXe:QZ X=QZ (QX n):=by rw [hX]
 rw [←hX] at hZ ⊢
 refine zs0 ?_
 refine QQ.seq ?_
 refine zs2 (ρ:=fun _=>[.v true (.bool false)]) (o:=by repeat' first|exact hZ|trivial|constructor) (k:=?_)
 refine QQ.condF rfl (QQ.skip ?_)
 refine zs0 ?_
 refine zs2 (ρ:=fun _=>[.v true (QZ T)]) (o:=by repeat' first|exact hW|trivial|constructor) (k:=?_)
 refine QQ.next (fun σ=>∀a w,Rel cx w0 σ a w→Rel cx w0 {nt:=73,env:=[(3,dsA L)],mem:=dsB L} a w) ?_ ?_
 ·refine QQ.loopB (fun q:Bool×Nat×List Nat => {nt:=73,env:=[(4,.v true (QZ T)),(3,dsA q.2.2),(0,.v q.1 (QZ (QX q.2.1)))],mem:=dsB q.2.2}) (fun q=>q.2.1≠0∧q.2.1≤n∧q.2.2++tdL n q.2.1=L) (fun q=>q.2.1) (false,n,[]) ⟨hn0,Nat.le_refl _,hstart⟩ (fun a w h=>by rw [←hXe];exact Rel.keep [4,3,0] [] h) ?_
  rintro ⟨b,x,l⟩ ⟨hx0,hxn,hl⟩
  simp only at hx0 hxn hl
  show QQ _ _ _ _ _ {nt:=73,env:=[(4,.v true (QZ T)),(3,dsA l),(0,.v b (QZ (QX x)))],mem:=dsB l} _
  have hD:=hDM x hxn
  have hr:x%10^19<10^19:=Nat.mod_lt _ (by decide)
  have hWd:=word0_ok (x%10^19) (by omega)
  have hql:x/10^19≤n:=Nat.le_trans (Nat.div_le_self _ _) hxn
  have hZq:=H7 (x/10^19) (by have:=hsmall _ hql;omega)
  have hll:l.length≤64000:=by
   have:=congrArg List.length hl
   rw [List.length_append] at this
   omega
  have hlt:x/10^19<x:=Nat.div_lt_self (by omega) (by decide)
  have hin:=txt_inner (cx:=cx) (w0:=w0) (z:=decide (x/10^19=0)) (Q:=QX (x/10^19)) (T:=T) (l:=l) hr (by omega) hZq (N':=fun _=>False)
  have hfin:(x/10^19=0→l++txR (decide (x/10^19=0)) 19 (x%10^19)=L)∧(x/10^19≠0→(l++txR (decide (x/10^19=0)) 19 (x%10^19))++tdL n (x/10^19)=L):=by
   constructor
   ·intro h
    have hx19:x<10^19:=by
     rcases Nat.lt_or_ge x (10^19) with h1|h1
     ·exact h1
     ·have:=Nat.div_pos h1 (by decide);omega
    rw [decide_eq_true h,txR,if_pos rfl,Nat.mod_eq_of_lt hx19,zJ hx19 (Nat.lt_of_le_of_lt hxn hnx)]
    exact hl
   ·intro h
    have hx19:10^19≤x:=by
     rcases Nat.lt_or_ge x (10^19) with h1|h1
     ·exact absurd (Nat.div_eq_of_lt h1) h
     ·exact h1
    rw [decide_eq_false h,txR,if_neg (by simp),List.append_assoc]
    have h2:=qZ 19 n x hx19
    rw [EQ] at h2 ⊢
    rw [←h2,←hl]
    congr 1
    exact zJ (Nat.lt_of_lt_of_le (Nat.lt_of_le_of_lt hxn hnx) (Nat.pow_le_pow_right (by decide) (by omega))) (Nat.lt_of_le_of_lt hxn hnx)
  obtain ⟨l',hl'⟩ : ∃l',l'=l++txR (decide (x/10^19=0)) 19 (x%10^19):=⟨_,rfl⟩
  rw [←hl'] at hin hfin
  obtain ⟨q,hq⟩ : ∃q,q=x/10^19:=⟨_,rfl⟩
  rw [←hq] at hD hZq hin hfin hlt hql
  obtain ⟨r,hrr⟩ : ∃q,q=x%10^19:=⟨_,rfl⟩
  rw [←hrr] at hD hWd hin
  obtain ⟨A,hA⟩ : ∃A,A=QX x:=⟨_,rfl⟩
  obtain ⟨R,hR⟩ : ∃A,A=QX r:=⟨_,rfl⟩
  rw [←hA,←hR] at hD
  rw [←hR] at hWd
  rw [←hA]
  have hback : ∀(a:Act) (w:World) (σ:St),Rel cx w0 σ a w→Rel cx w0 σ a w:=fun _ _ _ h=>h
  obtain ⟨Q,hQ⟩ : ∃A,A=QX q:=⟨_,rfl⟩
  rw [←hQ] at hD hZq hin
  clear hl' hl hrr hr hA hR hback
  refine QQ.block ?_
  refine zs2 (ρ:=fun _=>[.v true (QZ Q),.v true (QZ R)]) (o:=by repeat' first|exact hD|trivial|constructor) (k:=?_)
  refine zs2 (ρ:=fun _=>[.v true (.int .u64 r)]) (o:=by repeat' first|exact hWd|trivial|constructor) (k:=?_)
  refine QQ.next (fun σ=>∀a w,Rel cx w0 σ a w→Rel cx w0 {nt:=73,env:=[(5,.v true (QZ Q)),(4,.v true (QZ T)),(3,dsA l')],mem:=dsB l'} a w) ?_ ?_
  ·refine zs0 ?_
   refine QQ.from (σ' := {nt:=73,env:=[(8,.v true (.int .i64 0)),(7,.v true (.int .u64 r)),(5,.v true (QZ Q)),(4,.v true (QZ T)),(3,dsA l)],mem:=dsB l}) (fun a w h=>Rel.less [8,7,5,4,3] (fun _=>rfl) h) (hin.mono fun x σ hx=>?_)
   cases x <;> first|exact hx|exact hx.elim
  ·intro σ hσ
   refine QQ.from hσ ?_
   clear hin hσ
   by_cases hq0:q=0
   ·rw [decide_eq_true hq0] at hZq
    refine zs0 ?_
    refine zs2 (ρ:=fun _=>[.v true (.bool true)]) (o:=by repeat' first|exact hZq|trivial|constructor) (k:=?_)
    refine QQ.condT rfl (QQ.exit (Jz (by decide) ⟨rfl,fun a w h=>?_⟩))
    rw [←hfin.1 hq0]
    exact Rel.less [3] (fun _=>rfl) h
   ·rw [decide_eq_false hq0] at hZq
    refine zs0 ?_
    refine zs2 (ρ:=fun _=>[.v true (.bool false)]) (o:=by repeat' first|exact hZq|trivial|constructor) (k:=?_)
    refine QQ.condF rfl (QQ.skip ⟨(true,q,l'),⟨hq0,hql,hfin.2 hq0⟩,hlt,fun a w h=>?_⟩)
    show Rel cx w0 {nt:=73,env:=[(4,.v true (QZ T)),(3,dsA l'),(0,.v true (QZ (QX q)))],mem:=dsB l'} a w
    rw [←hQ]
    exact Rel.less [4,3,0] (fun _=>rfl) h
 ·intro σ hσ
  refine QQ.from hσ ?_
  clear hDM hsmall hW hZ hXe hX
  rw [dsA_c hLne,dsB_c hLne]
  have hLp:0<L.length:=List.length_pos_iff.2 hLne
  clear hL hstart hnx
  obtain ⟨N,hN⟩ : ∃N,N=L.length:=⟨_,rfl⟩
  rw [←hN] at hLl hLp ⊢
  refine QQ.next (fun σ=>∀a w,Rel cx w0 σ a w→Rel cx w0 {nt:=73,env:=[(3,.own 300 0 N)],mem:=[(300,.buf 5 1 true (dsV L.reverse))]} a w) ?_ ?_
  ·have wN:IntKind.i64.wrap ((N:Int)-1)=((N-1:Nat):Int):=by rw [QV] <;> omega
   refine zs1 wN ?_
   refine QQ.loopB (fun i:Nat => {nt:=73,env:=[(10,.v true (.int .i64 (N-1-i:Nat))),(9,.v true (.int .i64 i)),(3,.own 300 0 N)],mem:=[(300,.buf 5 1 true (dsV (rvI L i)))]}) (fun i=>2*i≤N) (fun i=>N-i) 0 (Nat.zero_le _) (fun a w h=>?_) ?_
   ·rw [rvI_0]
    exact Rel.keep [10,9,3] [300] h
   intro i hi
   by_cases hend:N≤2*i+1
   ·have g : ¬(i:Int)<((N-1-i:Nat):Int):=by omega
    rw [←rvI_end L i (by omega)]
    obtain ⟨j,hj⟩ : ∃j,j=N-1-i:=⟨_,rfl⟩
    show QQ _ _ _ _ _ {nt:=73,env:=[(10,.v true (.int .i64 (N-1-i:Nat))),(9,.v true (.int .i64 i)),(3,.own 300 0 N)],mem:=[(300,.buf 5 1 true (dsV (rvI L i)))]} _
    rw [←hj] at g ⊢
    refine QQ.seq ?_
    refine zs1 g ?_
    exact QQ.condF rfl (QQ.exit ⟨rfl,fun a w h=>Rel.keep [3] [300] h⟩)
   obtain ⟨j,hj⟩ : ∃j,j=N-1-i:=⟨_,rfl⟩
   have hij:i<j:=by omega
   have hNj:L.length=i+j+1:=by omega
   show QQ _ _ _ _ _ {nt:=73,env:=[(10,.v true (.int .i64 (N-1-i:Nat))),(9,.v true (.int .i64 i)),(3,.own 300 0 N)],mem:=[(300,.buf 5 1 true (dsV (rvI L i)))]} _
   have hsw:=rvI_s L i j hNj hij
   have h1:(rvI L i)[i]?=some (L.getD i 0):=by rw [GV L i i (by omega),if_neg (by omega)]
   have h2:(rvI L i)[j]?=some (L.getD j 0):=by rw [GV L i j (by omega),if_neg (by omega)]
   have h1:=dsV_get h1
   have h2:=dsV_get h2
   have hXl:=CG (rvI L i)
   rw [GX] at hXl
   have hY:((dsV (rvI L i)).set i (.int .u8 (L.getD j 0))).set j (.int .u8 (L.getD i 0))=dsV (rvI L (i+1)):=by rw [dsV_set,dsV_set,hsw]
   obtain ⟨x,hx⟩ : ∃x,x=L.getD i 0:=⟨_,rfl⟩
   obtain ⟨y,hy⟩ : ∃y,y=L.getD j 0:=⟨_,rfl⟩
   rw [←hx] at h1 hY
   rw [←hy] at h2 hY
   obtain ⟨Z,hZ⟩ : ∃Z,Z=dsV (rvI L i):=⟨_,rfl⟩
   rw [←hZ] at h1 h2 hXl hY ⊢
   have h3:(Z.set i (.int .u8 y))[j]?=some (V.int .u8 y):=by rw [List.getElem?_set_ne (by omega)];exact h2
   have hj':N-1-(i+1)=j-1:=by omega
   rw [←hj]
   have g:(i:Int)<(j:Int):=by omega
   have gi:(i:Int)<(N:Int):=by omega
   have gj:(j:Int)<(N:Int):=by omega
   have wj:IntKind.i64.wrap ((j:Int)-1)=((j-1:Nat):Int):=by rw [QV] <;> omega
   refine QQ.seq ?_
   refine zs1 g ?_
   refine QQ.condT rfl (QQ.skip ?_)
   refine QQ.next (fun σ=>∀a w,Rel cx w0 σ a w→Rel cx w0 {nt:=73,env:=[(10,.v true (.int .i64 j)),(9,.v true (.int .i64 i)),(3,.own 300 0 N)],mem:=[(300,.buf 5 1 true (dsV (rvI L (i+1))))]} a w) ?_ ?_
   ·refine QQ.blockN ?_
    rw [←hY]
    refine QQ.dregionM (Px:=px) (T:=TT) (ρ:=fun _=>[]) [] mixed (by kernel_rfl) TTe (by simp (maxSteps:=100000) (disch:=omega) only [go_sem,V.isAgg,V.flat,↓reduceIte,Nat.reduceAdd,Nat.reduceSub,Nat.reduceLT,Nat.reduceEqDiff,reduceCtorEq,Nat.reduceLeDiff,Nat.reduceBEq,Nat.reduceMul,Int.reduceToNat,h1,h2,h3,gi,gj,hXl,List.length_set,Nat.zero_add];rfl) (by repeat' first|exact trivial|constructor) (by rfl) (by rfl) (by rfl) ?_
    exact fun a w h=>Rel.keep [10,9,3] [300] h
   ·intro σ hσ
    refine QQ.from hσ ?_
    refine zr1 wj ?_
    refine ⟨i+1,(by show 2*(i+1)≤N;omega),(show N-(i+1)<N-i by omega),fun a w h=>?_⟩
    show Rel cx w0 {nt:=73,env:=[(10,.v true (.int .i64 (N-1-(i+1):Nat))),(9,.v true (.int .i64 (i+1:Nat))),(3,.own 300 0 N)],mem:=[(300,.buf 5 1 true (dsV (rvI L (i+1))))]} a w
    rw [hj']
    exact Rel.keep [10,9,3] [300] h
  ·intro σ hσ
   refine QQ.from hσ ?_
   have hXr:=CG L.reverse
   rw [List.length_reverse] at hXr
   have hbv:Vj (List.take N (dsV L.reverse))=some (L.reverse.map UInt8.ofNat):=by
    rw [List.take_of_length_le (by rw [CG,List.length_reverse];omega)]
    exact AE (fun n hn=>by have:=hdg n (List.mem_reverse.1 hn);omega)
   refine QQ.step (Px:=px) (T:=TT) (ρ:=fun _=>[]) TTe (by simp (maxSteps:=100000) (disch:=omega) only [go_sem,V.isAgg,V.flat,↓reduceIte,Nat.reduceAdd,Nat.reduceSub,Nat.reduceLT,Nat.reduceEqDiff,reduceCtorEq,Nat.reduceLeDiff,Nat.reduceBEq,Nat.reduceMul,Int.reduceToNat,strA,hu,hbv];rfl) (by repeat' first|exact trivial|constructor) ?_
   exact QQ.ret (QK.vs rfl (by exact ⟨⟨rfl,id⟩,trivial⟩) rfl)
theorem zk (neg:Bool) (e:Int) (l:List Int) (hl:l.length<9000) (ol:okW l) (he : -4611686018427380000<e∧e<4611686018427380000):QU Tryz.prog 115 [.v (Q9 1 neg e l)] [.v true (QZ (QX (val l/2^trN (val l)))),.v true (.int .i64 (e+trN (val l)))]:=by
 obtain ⟨o,hB⟩:=Bits_ok l (by omega) ol
 have htl:trN (val l)≤64*l.length:=by
  rcases Nat.eq_zero_or_pos (val l) with h0|h0
  ·rw [h0];exact Nat.zero_le _
  ·have:=JZ (v:=val l) (k:=64*l.length) h0 (UY ol)
   omega
 have hR:=XB l (trN (val l)) (by omega) (by omega) ol
 unfold Q9
 obtain ⟨t,ht⟩ : ∃t,t=trN (val l):=⟨_,rfl⟩
 rw [←ht] at hB hR htl ⊢
 obtain ⟨Q,hQ⟩ : ∃Q,Q=QX (val l/2^t):=⟨_,rfl⟩
 rw [←hQ] at hR ⊢
 have w1:IntKind.i64.wrap (e+(t:Int))=e+t:=by rw [QV] <;> omega
 clear hQ ht
 refine QU.of Tryz.func115 rfl rfl fun cx w0=>?_
 rw [show Tryz.f115.ntmps=20 from rfl]
 refine zs0 ?_
 refine zs2 (ρ:=fun _=>[.v true (.int .i64 t),.v true (.int .i64 o)]) (o:=by repeat' first|exact hB|trivial|constructor) (k:=?_)
 refine zd3 [] (ρ:=fun _=>[.v true (QZ Q)]) w1 (o:=by repeat' first|exact hR|trivial|constructor) (k:=?_)
 exact QQ.ret (QK.vs rfl (by exact ⟨⟨rfl,id⟩,⟨rfl,id⟩,trivial⟩) rfl)
theorem JC (neg:Bool) (e:Int) (l:List Int) (hl:l.length<9000) (ol:okW l) (he : -4611686018427380000<e∧e<4611686018427380000):QU Tryz.prog 72 [.v (Q9 1 neg e l)] [.v true (YG 1 neg (e+trN (val l)) (val l/2^trN (val l)))]:=by
 have hO:=zk neg e l hl ol he
 unfold YG
 unfold Q9 at hO ⊢
 obtain ⟨t,ht⟩ : ∃t,t=e+(trN (val l):Int):=⟨_,rfl⟩
 obtain ⟨Q,hQ⟩ : ∃Q,Q=QX (val l/2^trN (val l)):=⟨_,rfl⟩
 rw [←ht,←hQ] at hO
 rw [←ht,←hQ]
 clear ht hQ
 refine QU.of Tryz.func72 rfl rfl fun cx w0=>?_
 rw [show Tryz.f72.ntmps=23 from rfl]
 refine zs0 ?_
 refine QQ.seq ?_
 refine zs0 ?_
 refine QQ.condF rfl (QQ.skip ?_)
 refine zs2 (ρ:=fun _=>[.v true (QZ Q),.v true (.int .i64 t)]) (o:=by repeat' first|exact hO|trivial|constructor) (k:=?_)
 refine zs0 ?_
 exact QQ.ret (QK.vs rfl (by exact ⟨⟨rfl,id⟩,trivial⟩) rfl)
structure Raw (e:Int) (l:List Int) (m:Nat) (ex:Int):Prop where
 ll:l.length<5000
 ol:okW l
 he : -9223372036854775808≤e∧e<9223372036854775808
 em:m=val l/2^trN (val l)
 ee:ex=e+trN (val l)
theorem Raw.bd {e:Int} {l:List Int} {m:Nat} {ex:Int} (h:Raw e l m ex) (hx : -20000≤ex∧ex≤20000) : -4611686018427380000<e∧e<4611686018427380000:=by
 have h1:=h.ee
 have h2:trN (val l)≤64*l.length:=by
  rcases Nat.eq_zero_or_pos (val l) with h0|h0
  ·rw [h0];exact Nat.zero_le _
  ·have:=JZ (v:=val l) (k:=64*l.length) h0 (UY h.ol)
   omega
 have:=h.ll
 omega
theorem FlOne.raw {k P:Int} {neg:Bool} {e:Int} {l:List Int} {K p m n:Nat} {ex u a:Int} {okr:Bool} (hE:nuE k P okr 1 neg e l=0) (h:FlOne k P neg e l K p m ex u n a) (hl:l.length<5000) (ol:okW l) (he : -9223372036854775808≤e∧e<9223372036854775808):Raw e l m ex:=by
 obtain ⟨_,_,_,hc,_⟩:=nu_one hE
 obtain ⟨_,_,h3⟩:=yz hc
 obtain ⟨v0,e1,e2,e3⟩:=h3 rfl
 have hcn:=h.cn
 unfold cnV YG at hcn
 have hinj:=V.agg.inj hcn
 simp only [List.cons.injEq] at hinj
 obtain ⟨_,_,h5,h6,_⟩:=hinj
 have hex:cnE 1 e (val l)=ex:=by injection h5
 have hmm:cnM 1 e (val l)=m:=by
  unfold QZ at h6
  have h7:=(V.sl.inj h6).2
  have h8:QX (cnM 1 e (val l))=QX m:=(List.map_inj_right (fun a b hab=>by injection hab)).1 h7
  have h9:=congrArg val h8
  rw [(QY _).2.2,(QY _).2.2] at h9
  exact h9
 exact ⟨hl,ol,he,by rw [←hmm,e2],by rw [←hex,e1]⟩
set_option maxHeartbeats 1000000 in
theorem real_ok (neg:Bool) (e:Int) (l:List Int) (m:Nat) (ex:Int) (h:Raw e l m ex) (hB:FlB m ex):QU Tryz.prog 88 [.v (Q9 1 neg e l)] [.v false (Gv false (Zq m ex) (Zy ex))]:=by
 have lo:=hB.lo
 have hi:=hB.hi
 have hC:=JC neg e l (by have:=h.ll;omega) h.ol (h.bd (by omega))
 rw [←h.em,←h.ee] at hC
 have lm:(QX m).length≤5:=QC hB.mB (by omega)
 have d1:QX 1=[1]:=by decide
 have hW:=YX 1 (by decide)
 rw [d1] at hW
 have hL1:=Uq (QX m) ex.toNat (by omega) (by omega) (QY _).1
 rw [(QY _).2.2] at hL1
 have hL2:=Uq (QX 1) (-ex).toNat (by rw [d1];decide) (by omega) (QY _).1
 rw [(QY _).2.2,Nat.one_mul,d1] at hL2
 have hW:QU Tryz.prog 78 [.v (.int .u64 1)] [.v true (QZ [1])]:=hW
 unfold Gv Zq Zy
 unfold YG Q9 QZ at hC
 unfold Q9
 by_cases h0:ex<0
 ·rw [show ex.toNat=0 from by omega,Nat.pow_zero,Nat.mul_one]
  rw [show (((-ex).toNat:Nat):Int) = -ex from by omega] at hL2
  obtain ⟨M,hM⟩ : ∃M,M=QX m:=⟨_,rfl⟩
  obtain ⟨D,hD⟩ : ∃M,M=QX (2^(-ex).toNat):=⟨_,rfl⟩
  obtain ⟨O,hO⟩ : ∃O,O=[(1:Int)]:=⟨_,rfl⟩
  rw [←hM] at hC
  rw [←hD,←hO] at hL2
  rw [←hO] at hW
  rw [←hM,←hD]
  have wn:IntKind.i64.wrap (0-ex) = -ex:=by rw [QV] <;> omega
  clear hM hD hO h hB
  refine QU.of Tryz.func88 rfl rfl fun cx w0=>?_
  rw [show Tryz.f88.ntmps=25 from rfl]
  refine zs0 ?_
  refine zs2 (ρ:=fun _=>[.v true (.agg [.int .i64 1,.bool neg,.int .i64 ex,.sl 1 (M.map fun n=>.int .u64 n)])]) (o:=by repeat' first|exact hC|trivial|constructor) (k:=?_)
  refine zs2 (ρ:=fun _=>[.v true (QZ O)]) (o:=by repeat' first|exact hW|trivial|constructor) (k:=?_)
  refine QQ.seq ?_
  refine zs1 h0 ?_
  refine QQ.condT rfl ?_
  refine zd3 [] (ρ:=fun _=>[.v true (QZ D)]) wn (o:=by repeat' first|exact hL2|trivial|constructor) (k:=?_)
  exact QQ.ret (QK.vs rfl (by exact ⟨⟨rfl,by simp⟩,trivial⟩) rfl)
 ·rw [show (-ex).toNat=0 from by omega,Nat.pow_zero,d1]
  rw [show ((ex.toNat:Nat):Int)=ex from by omega] at hL1
  obtain ⟨M,hM⟩ : ∃M,M=QX m:=⟨_,rfl⟩
  obtain ⟨D,hD⟩ : ∃M,M=QX (m*2^ex.toNat):=⟨_,rfl⟩
  obtain ⟨O,hO⟩ : ∃O,O=[(1:Int)]:=⟨_,rfl⟩
  rw [←hM] at hC
  rw [←hM,←hD] at hL1
  rw [←hO] at hW
  rw [←hD,←hO]
  clear hM hD hO h hB
  refine QU.of Tryz.func88 rfl rfl fun cx w0=>?_
  rw [show Tryz.f88.ntmps=25 from rfl]
  refine zs0 ?_
  refine zs2 (ρ:=fun _=>[.v true (.agg [.int .i64 1,.bool neg,.int .i64 ex,.sl 1 (M.map fun n=>.int .u64 n)])]) (o:=by repeat' first|exact hC|trivial|constructor) (k:=?_)
  refine zs2 (ρ:=fun _=>[.v true (QZ O)]) (o:=by repeat' first|exact hW|trivial|constructor) (k:=?_)
  refine QQ.seq ?_
  refine zs1 h0 ?_
  refine QQ.condF rfl (QQ.skip ?_)
  show QQ _ _ _ _ _ _ _
  refine zs2 (ρ:=fun _=>[.v true (QZ D)]) (o:=by repeat' first|exact hL1|trivial|constructor) (k:=?_)
  exact QQ.ret (QK.vs rfl (by exact ⟨⟨rfl,by simp⟩,trivial⟩) rfl)
theorem FlB.real {m:Nat} {ex:Int} (h:FlB m ex) : ∃B,B≤17000∧0<Zq m ex∧0<Zy ex∧Zq m ex<2^B∧Zy ex<2^B:=by
 obtain ⟨B,hB⟩ : ∃B,B=16641:=⟨_,rfl⟩
 exact ⟨B,by omega,EY h.m0,V3 ex,yJ h.mB h.hi (by omega),yH h.lo (by omega)⟩
theorem EK (n:Nat):1≤(Qv n).length:=List.length_pos_iff.2 (decG_ne n)
theorem BZ (n:Nat) (hn:n<18446744073709551616):QU Tryz.prog 159 [.v (.int .i64 n)] [.v true (.str (bs (Qv n)))]:=by
 have h1:=YX n hn
 have h2:=Kx n (by have:=ZU (v:=n) (m:=1) (by omega);omega)
 obtain ⟨X,hX⟩ : ∃X,X=QX n:=⟨_,rfl⟩
 obtain ⟨s,hs⟩ : ∃s,s=bs (Qv n):=⟨_,rfl⟩
 rw [←hX] at h1 h2
 rw [←hs] at h2 ⊢
 have w1:IntKind.u64.wrap (n:Int)=(n:Int):=by rw [QE];omega
 clear hX hs
 refine QU.of Tryz.func159 rfl rfl fun cx w0=>?_
 rw [show Tryz.f159.ntmps=7 from rfl]
 refine zs0 ?_
 refine zs3 (ρ:=fun d=>if d=5 then [.v true (QZ X)] else [.v true (.str s)]) w1 (o:=by repeat' first|exact h1|exact h2|trivial|constructor) (k:=?_)
 exact QQ.ret (QK.vs rfl (by exact ⟨⟨rfl,id⟩,trivial⟩) rfl)
set_option maxHeartbeats 1000000 in
theorem rRaised_ok (d:List UInt8) (e:Int) (c:Nat) (hd:1≤d.length) (hdl:d.length<1000000) (he : -1000000000000<e∧e<1000000000000) (hc:c≤100):QU Tryz.prog 167 [.v (.str (bs d)),.v (.int .i64 e),.v (.int .i64 c)] [.v true (.str (bs (Uf d++101::sgL e c)))]:=by
 have hz:=Qx d
 obtain ⟨m,hm⟩ : ∃m,m=e.natAbs:=⟨_,rfl⟩
 have hN:=BZ m (by omega)
 have hlen:(Qv m).length≤13:=UQ (by rw [show (10:Nat)^13=10000000000000 from rfl];omega) (by decide)
 obtain ⟨z,hzz⟩ : ∃z,z=((c:Int)-(Qv m).length).toNat:=⟨_,rfl⟩
 have hZ:=FJ ((c:Int)-(Qv m).length) (by omega)
 rw [←hzz] at hZ
 obtain ⟨sg,hsg⟩ : ∃sg:UInt8,sg=if e<0 then 45 else 43:=⟨_,rfl⟩
 have hfin:bs (Uf d++101::sgL e c)=(((bs (Uf d)++ByteArray.mk #[101])++bs [sg])++bs (z48 z))++bs (Qv m):=by
  unfold sgL
  rw [←hm,←hsg,show c-(Qv m).length=z from by omega,show ByteArray.mk #[101]=bs [101] from rfl,ZQ,ZQ,ZQ,ZQ]
  simp only [List.append_assoc,List.cons_append,List.nil_append]
 rw [hfin]
 have hone:Uf d=if 1<d.length then d.take 1++46::d.drop 1 else d:=rfl
 have ho1:=BJ d
 have z1:=Qx (Uf d)
 have z2:=Qx [sg]
 have z3:=Qx (z48 z)
 have z4:=Qx (Qv m)
 rw [YC] at z3
 have e1:(bs d).extract 0 1=bs (d.take 1):=by rw [Yy,List.drop_zero]
 have e2:1<d.length→(bs d).extract 0 1++(ByteArray.mk #[46]++(bs d).extract 1 (bs d).size)=bs (Uf d):=fun h=>by
  rw [hone,if_pos h,Yy,Yy,Qx,show ByteArray.mk #[46]=bs [46] from rfl,ZQ,ZQ,List.drop_zero,List.take_of_length_le (l:=d.drop 1) (by rw [List.length_drop];omega)]
  rfl
 have e3 : ¬1<d.length→(bs d).extract 0 1=bs (Uf d):=fun h=>by
  rw [e1,hone,if_neg h,List.take_of_length_le (by omega)]
 have z5:((bs d).extract 0 1).size=1:=by rw [e1,Qx];simp;omega
 have z6:((bs d).extract 1 (bs d).size).size=d.length-1:=by rw [Yy,Qx,Qx];simp
 obtain ⟨s,hs⟩ : ∃s,s=bs d:=⟨_,rfl⟩
 obtain ⟨O,hO⟩ : ∃s,s=bs (Uf d):=⟨_,rfl⟩
 obtain ⟨G,hG⟩ : ∃s,s=bs [sg]:=⟨_,rfl⟩
 obtain ⟨Z,hZe⟩ : ∃s,s=bs (z48 z):=⟨_,rfl⟩
 obtain ⟨T,hT⟩ : ∃s,s=bs (Qv m):=⟨_,rfl⟩
 rw [←hs] at hz e2 e3 z5 z6 ⊢
 rw [←hO] at z1 e2 e3 ⊢
 rw [←hG] at z2 ⊢
 rw [←hZe] at hZ z3 ⊢
 rw [←hT] at hN z4 ⊢
 have z2':G.size=1:=z2
 have a1:O.size+(#[(101:UInt8)]).size≤9223372036854775807:=by show O.size+1≤_;omega
 have a2:O.size+(#[(101:UInt8)]).size+G.size≤9223372036854775807:=by show O.size+1+G.size≤_;omega
 have a3:O.size+(#[(101:UInt8)]).size+G.size+Z.size≤9223372036854775807:=by show O.size+1+G.size+Z.size≤_;omega
 have a4:O.size+(#[(101:UInt8)]).size+G.size+Z.size+T.size≤9223372036854775807:=by show O.size+1+G.size+Z.size+T.size≤_;omega
 have g1:(1:Int)≤(s.size:Int):=by omega
 have w1:IntKind.i64.wrap ((c:Int)-(T.size:Int))=(c:Int)-(Qv m).length:=by rw [z4,QV] <;> omega
 obtain ⟨cz,hcz⟩ : ∃cz:Int,cz=(c:Int)-(Qv m).length:=⟨_,rfl⟩
 rw [←hcz] at w1 hZ
 refine QU.of Tryz.func167 rfl rfl fun cx w0=>?_
 rw [show Tryz.f167.ntmps=38 from rfl]
 clear hfin hone e1 hs hO hZe hT hcz hzz
 refine zs0 ?_
 refine zs1 g1 ?_
 refine QQ.next (fun σ=>∀a w,Rel cx w0 σ a w→Rel cx w0 {nt:=38,env:=[(7,.v true (.str O)),(1,.v true (.int .i64 e)),(2,.v true (.int .i64 c))],mem:=[]} a w) ?_ ?_
 ·by_cases h1:1<d.length
  ·have e2:=e2 h1
   have g2:(1:Int)<(s.size:Int):=by omega
   have b1:(#[(46:UInt8)]).size+(s.extract 1 s.size).size≤9223372036854775807:=by rw [z6];show 1+(d.length-1)≤_;omega
   have b2:(s.extract 0 1).size+((#[(46:UInt8)]).size+(s.extract 1 s.size).size)≤9223372036854775807:=by rw [z5,z6];show 1+(1+(d.length-1))≤_;omega
   clear e3 z6 z5
   refine zs1 g2 ?_
   refine QQ.condT rfl ?_
   refine zr1 (an g1 <| an b1 <| an b2 <| e2) ?_
   exact fun a w h=>Rel.keep [7,1,2] [] h
  ·have e3:=e3 h1
   have g2 : ¬(1:Int)<(s.size:Int):=by omega
   rw [←e3]
   refine zs1 g2 ?_
   exact QQ.condF rfl (QQ.skip fun a w h=>Rel.keep [7,1,2] [] h)
 ·intro σ hσ
  refine QQ.from hσ ?_
  clear hσ e2 e3
  refine zs0 ?_
  refine QQ.next (fun σ=>∀a w,Rel cx w0 σ a w→Rel cx w0 {nt:=38,env:=[(7,.v true (.str O)),(8,.v true (.str G)),(1,.v true (.int .i64 m)),(2,.v true (.int .i64 c))],mem:=[]} a w) ?_ ?_
  ·by_cases h1:e<0
   ·rw [if_pos h1] at hsg
    rw [hG,hsg]
    have wn:IntKind.i64.wrap (0-e)=(m:Int):=by rw [QV] <;> omega
    refine zs1 h1 ?_
    refine QQ.condT rfl ?_
    refine zr1 wn ?_
    exact fun a w h=>Rel.keep [7,8,1,2] [] h
   ·rw [if_neg h1] at hsg
    rw [hG,hsg]
    have en:e=(m:Int):=by omega
    rw [←en]
    refine zs1 h1 ?_
    exact QQ.condF rfl (QQ.skip fun a w h=>Rel.keep [7,8,1,2] [] h)
  ·intro σ hσ
   refine QQ.from hσ ?_
   clear hσ hsg
   refine zs2 (ρ:=fun _=>[.v true (.str T)]) (o:=by repeat' first|exact hN|trivial|constructor) (k:=?_)
   refine zs3 (ρ:=fun _=>[.v true (.str Z)]) (an w1 <| an a1 <| an a2 <| an a3 <| a4) (o:=by repeat' first|exact hZ|trivial|constructor) (k:=?_)
   exact QQ.ret (QK.vs rfl (by exact ⟨⟨rfl,id⟩,trivial⟩) rfl)
theorem Eu {kd:Int} {neg:Bool} (h:kd=3∨kd=2) (hn:kd=3→neg=false):spL kd neg=smL neg (if kd=3 then [110,97,110] else [105,110,102]):=by
 unfold spL
 rcases h with h|h
 ·rw [if_pos h,if_pos h,hn h];rfl
 ·rw [if_neg (by omega),if_pos h,if_neg (by omega)]
theorem nLarge_ok (l:List Int):QU Tryz.prog 102 [.v (QZ l)] [.v true (.bool (decide (4096<l.length)))]:=by
 unfold QZ
 have hd:decide ((4096:Int)<(l.length:Int))=decide (4096<l.length):=decide_eq_decide.2 (by omega)
 refine QU.of Tryz.func102 rfl rfl fun cx w0=>?_
 rw [show Tryz.f102.ntmps=6 from rfl]
 refine zs0 ?_
 refine zs1 hd ?_
 exact QQ.ret (QK.vs rfl (by exact ⟨⟨rfl,id⟩,trivial⟩) rfl)
theorem fLarge_ok (kd:Int) (neg:Bool) (e:Int) (l:List Int):QU Tryz.prog 65 [.v (Q9 kd neg e l)] [.v true (.bool (decide (4096<l.length)))]:=by
 have h:=nLarge_ok l
 obtain ⟨b,hb⟩ : ∃b,b=decide (4096<l.length):=⟨_,rfl⟩
 rw [←hb] at h ⊢
 unfold Q9
 clear hb
 refine QU.of Tryz.func65 rfl rfl fun cx w0=>?_
 rw [show Tryz.f65.ntmps=6 from rfl]
 refine zs0 ?_
 refine zs2 (ρ:=fun _=>[.v true (.bool b)]) (o:=by repeat' first|exact h|trivial|constructor) (k:=?_)
 exact QQ.ret (QK.vs rfl (by exact ⟨⟨rfl,id⟩,trivial⟩) rfl)
set_option maxHeartbeats 1000000 in
theorem fGood_ok (kd:Int) (neg:Bool) (e:Int) (l:List Int) (hl:l.length<5000) (ol:okW l):QU Tryz.prog 67 [.v (Q9 kd neg e l)] [.v true (.bool (cnB kd neg e (val l)))]:=by
 have hZ:=Vg l (by omega) ol
 have hO:=zk neg e l (by omega) ol
 unfold cnB
 obtain ⟨v,hv⟩ : ∃v,v=val l:=⟨_,rfl⟩
 rw [←hv] at hZ hO ⊢
 obtain ⟨t,ht⟩ : ∃t,t=e+(trN v:Int):=⟨_,rfl⟩
 obtain ⟨Q,hQ⟩ : ∃Q,Q=QX (v/2^trN v):=⟨_,rfl⟩
 rw [←ht,←hQ] at hO
 rw [←ht]
 unfold Q9 QZ at hO ⊢
 unfold QZ at hZ
 obtain ⟨L,hL⟩ : ∃L,L=l.map fun n=>V.int .u64 n:=⟨_,rfl⟩
 rw [←hL] at hZ hO ⊢
 clear hL hQ ht hv ol hl
 by_cases h02:kd=0∨kd=2
 ·rw [if_pos h02]
  clear hO
  obtain ⟨z,hz⟩ : ∃z,z=decide (v=0):=⟨_,rfl⟩
  have hd:decide (e=0∧v=0)=(decide (e=0)&&z):=by rw [hz];simp
  rw [←hz] at hZ
  rw [hd]
  clear hz hd
  by_cases he0:e=0
  ·subst he0
   rw [decide_eq_true rfl,Bool.true_and]
   rcases h02 with rfl|rfl
   ·refine QU.of Tryz.func67 rfl rfl fun cx w0=>?_
    rw [show Tryz.f67.ntmps=55 from rfl]
    refine zs0 ?_
    refine QQ.seq ?_
    refine zs0 ?_
    refine QQ.block ?_
    refine QQ.seq ?_
    refine zs0 ?_
    refine QQ.condT rfl (QQ.skip ?_)
    refine QQ.condT rfl ?_
    refine zs2 (ρ:=fun _=>[.v true (.bool z)]) (o:=by repeat' first|exact hZ|trivial|constructor) (k:=?_)
    exact QQ.ret (QK.vs rfl (by exact ⟨⟨rfl,id⟩,trivial⟩) rfl)
   ·refine QU.of Tryz.func67 rfl rfl fun cx w0=>?_
    rw [show Tryz.f67.ntmps=55 from rfl]
    refine zs0 ?_
    refine QQ.seq ?_
    refine zs0 ?_
    refine QQ.block ?_
    refine QQ.seq ?_
    refine zs0 ?_
    refine QQ.condF rfl ?_
    refine zr0 ?_
    show QQ _ _ _ _ _ _ _
    refine QQ.condT rfl ?_
    refine zs2 (ρ:=fun _=>[.v true (.bool z)]) (o:=by repeat' first|exact hZ|trivial|constructor) (k:=?_)
    exact QQ.ret (QK.vs rfl (by exact ⟨⟨rfl,id⟩,trivial⟩) rfl)
  ·rw [decide_eq_false he0,Bool.false_and]
   rcases h02 with rfl|rfl
   ·refine QU.of Tryz.func67 rfl rfl fun cx w0=>?_
    rw [show Tryz.f67.ntmps=55 from rfl]
    refine zs0 ?_
    refine QQ.seq ?_
    refine zs0 ?_
    refine QQ.block ?_
    refine QQ.seq ?_
    refine zs0 ?_
    refine QQ.condT rfl (QQ.skip ?_)
    refine QQ.condT rfl ?_
    refine zs1 he0 ?_
    exact QQ.ret (QK.vs rfl (by exact ⟨⟨rfl,id⟩,trivial⟩) rfl)
   ·refine QU.of Tryz.func67 rfl rfl fun cx w0=>?_
    rw [show Tryz.f67.ntmps=55 from rfl]
    refine zs0 ?_
    refine QQ.seq ?_
    refine zs0 ?_
    refine QQ.block ?_
    refine QQ.seq ?_
    refine zs0 ?_
    refine QQ.condF rfl ?_
    refine zr0 ?_
    show QQ _ _ _ _ _ _ _
    refine QQ.condT rfl ?_
    refine zs1 he0 ?_
    exact QQ.ret (QK.vs rfl (by exact ⟨⟨rfl,id⟩,trivial⟩) rfl)
 ·rw [if_neg h02]
  have h0 : ¬kd=0:=fun h=>h02 (.inl h)
  have h2 : ¬kd=2:=fun h=>h02 (.inr h)
  have head : ∀ {rs:List R},(∀cx w0,QQ Tryz.prog none cx w0 (ZH Tryz.f67 [1,0,1,0,1,1]) {nt:=55,env:=[(1,.ptr 1 0 [] 0),(6,.v true (.int .i64 kd))],mem:=[(1,.box 38 (.v false (.agg [.int .i64 kd,.bool neg,.int .i64 e,.sl 1 L])))]} (NR (fun σ=>False) (fnQ Tryz.prog Tryz.f67 rs .ret))∨QQ Tryz.prog none cx w0 (ZH Tryz.f67 [1,0,1,0,1,1]) {nt:=55,env:=[(1,.ptr 1 0 [] 0),(6,.v true (.int .i64 kd))],mem:=[(1,.box 38 (.v false (.agg [.int .i64 kd,.bool neg,.int .i64 e,.sl 1 L])))]} (NR (fun σ=>∀a w,Rel cx w0 σ a w→Rel cx w0 {nt:=55,env:=[],mem:=[]} a w) (fnQ Tryz.prog Tryz.f67 rs .ret))∧rs=[.v true (.bool false)])→QU Tryz.prog 67 [.v (.agg [.int .i64 kd,.bool neg,.int .i64 e,.sl 1 L])] rs:=fun {rs} hh=>by
   refine QU.of Tryz.func67 rfl rfl fun cx w0=>?_
   rw [show Tryz.f67.ntmps=55 from rfl]
   refine zs0 ?_
   refine QQ.next (fun σ=>rs=[.v true (.bool false)] ∧ ∀a w,Rel cx w0 σ a w→Rel cx w0 {nt:=55,env:=[],mem:=[]} a w) ?_ ?_
   ·refine zs0 ?_
    refine QQ.blockN ?_
    refine QQ.seq ?_
    refine zs1 h0 ?_
    refine QQ.condF rfl ?_
    refine zr1 h2 ?_
    show QQ _ _ _ _ _ _ _
    refine QQ.condF rfl ?_
    rcases hh cx w0 with h|⟨h,hr⟩
    ·refine QQ.from (fun a w h=>Rel.keep [1,6] [1] h) (h.mono fun x σ hx=>?_)
     cases x <;> first|exact hx.elim|exact hx
    ·refine QQ.from (fun a w h=>Rel.keep [1,6] [1] h) (h.mono fun x σ hx=>?_)
     cases x <;> first|exact hx.elim|exact ⟨hr,hx⟩|exact hx
   ·rintro σ ⟨hr,hσ⟩
    refine QQ.from hσ ?_
    rw [hr]
    refine zs0 ?_
    exact QQ.ret (QK.vs rfl (by exact ⟨⟨rfl,id⟩,trivial⟩) rfl)
  by_cases h3:kd=3
  ·rw [if_pos h3]
   subst h3
   clear hO
   obtain ⟨z,hz⟩ : ∃z,z=decide (v=0):=⟨_,rfl⟩
   have hd:decide (e=0∧v=0)=(decide (e=0)&&z):=by rw [hz];simp
   rw [←hz] at hZ
   rw [hd]
   clear hz hd
   refine head fun cx w0=>.inl ?_
   refine zs0 ?_
   refine QQ.condT rfl ?_
   cases neg with
   | true =>
     rw [Bool.not_true,Bool.false_and]
     refine zs0 ?_
     exact QQ.ret (QK.vs rfl (by exact ⟨⟨rfl,id⟩,trivial⟩) rfl)
   | false =>
     rw [Bool.not_false,Bool.true_and]
     by_cases he0:e=0
     ·subst he0
      rw [decide_eq_true rfl,Bool.true_and]
      refine zs2 (ρ:=fun _=>[.v true (.bool z)]) (o:=by repeat' first|exact hZ|trivial|constructor) (k:=?_)
      exact QQ.ret (QK.vs rfl (by exact ⟨⟨rfl,id⟩,trivial⟩) rfl)
     ·rw [decide_eq_false he0,Bool.false_and]
      refine zs1 he0 ?_
      exact QQ.ret (QK.vs rfl (by exact ⟨⟨rfl,id⟩,trivial⟩) rfl)
  ·rw [if_neg h3]
   by_cases h1:kd=1
   ·rw [if_pos h1]
    subst h1
    refine head fun cx w0=>.inl ?_
    refine zs0 ?_
    refine QQ.condF rfl ?_
    refine zs0 ?_
    refine QQ.condT rfl ?_
    by_cases hin:v≠0 ∧ -1048576≤e∧e≤1048576
    ·obtain ⟨hv0,hi1,hi2⟩:=hin
     rw [decide_eq_false hv0] at hZ
     have hO:=hO (by omega)
     have hd:decide (v≠0 ∧ -1048576≤e∧e≤1048576∧t≤1048576)=decide (t≤1048576):=decide_eq_decide.2 (by constructor;exact fun h=>h.2.2.2;exact fun h=>⟨hv0,hi1,hi2,h⟩)
     rw [hd]
     have g1 : ¬e < -1048576:=by omega
     have g2 : ¬(1048576:Int)<e:=by omega
     refine QQ.seq ?_
     refine zs3 (ρ:=fun _=>[.v true (.bool false)]) (an g1 <| g2) (o:=by repeat' first|exact hZ|trivial|constructor) (k:=?_)
     refine QQ.condF rfl (QQ.skip ?_)
     show QQ _ _ _ _ _ _ _
     refine zs2 (ρ:=fun _=>[.v true (QZ Q),.v true (.int .i64 t)]) (o:=by repeat' first|exact hO|trivial|constructor) (k:=?_)
     refine zs0 ?_
     exact QQ.ret (QK.vs rfl (by exact ⟨⟨rfl,id⟩,trivial⟩) rfl)
    ·rw [decide_eq_false (fun h=>hin ⟨h.1,h.2.1,h.2.2.1⟩)]
     refine QQ.seq ?_
     by_cases hv0:v=0
     ·rw [decide_eq_true hv0] at hZ
      refine zs2 (ρ:=fun _=>[.v true (.bool true)]) (o:=by repeat' first|exact hZ|trivial|constructor) (k:=?_)
      refine QQ.condT rfl ?_
      refine zs0 ?_
      exact QQ.ret (QK.vs rfl (by exact ⟨⟨rfl,id⟩,trivial⟩) rfl)
     ·rw [decide_eq_false hv0] at hZ
      by_cases g1:e < -1048576
      ·refine zs3 (ρ:=fun _=>[.v true (.bool false)]) g1 (o:=by repeat' first|exact hZ|trivial|constructor) (k:=?_)
       refine QQ.condT rfl ?_
       refine zs0 ?_
       exact QQ.ret (QK.vs rfl (by exact ⟨⟨rfl,id⟩,trivial⟩) rfl)
      ·have g2:(1048576:Int)<e:=by omega
       refine zs3 (ρ:=fun _=>[.v true (.bool false)]) (an g1 <| g2) (o:=by repeat' first|exact hZ|trivial|constructor) (k:=?_)
       refine QQ.condT rfl ?_
       refine zs0 ?_
       exact QQ.ret (QK.vs rfl (by exact ⟨⟨rfl,id⟩,trivial⟩) rfl)
   ·rw [if_neg h1]
    refine head fun cx w0=>.inr ⟨?_,rfl⟩
    refine zs1 h3 ?_
    refine QQ.condF rfl ?_
    refine zs1 h1 ?_
    exact QQ.condF rfl (QQ.skip fun a w h=>Rel.keep [] [] h)
theorem fTiny_ok (K p:Nat) (hK:1≤K∧K≤14) (hP:2≤p∧p≤256):QU Tryz.prog 144 [.v (Q3 ((K+1:Nat):Int) p)] [.v true (.int .i64 (1-gK K-(p-1)))]:=by
 have h1:=DQ K p hK
 have hG:=U6 hK
 obtain ⟨G,hG'⟩ : ∃G,G=1-gK K:=⟨_,rfl⟩
 rw [←hG'] at h1 ⊢
 unfold Q3 at h1 ⊢
 have w1:IntKind.i64.wrap ((p:Int)-1)=(p:Int)-1:=by rw [QV] <;> omega
 have w2:IntKind.i64.wrap (G-((p:Int)-1))=G-((p:Int)-1):=by rw [QV] <;> omega
 obtain ⟨F,hF⟩ : ∃F:Int,F=((K+1:Nat):Int):=⟨_,rfl⟩
 rw [←hF] at h1 ⊢
 refine QU.of Tryz.func144 rfl rfl fun cx w0=>?_
 rw [show Tryz.f144.ntmps=9 from rfl]
 refine zs0 ?_
 refine zd3 [] (ρ:=fun _=>[.v true (.int .i64 G)]) (an w1 <| w2) (o:=by repeat' first|exact h1|trivial|constructor) (k:=?_)
 exact QQ.ret (QK.vs rfl (by exact ⟨⟨rfl,id⟩,trivial⟩) rfl)
set_option maxHeartbeats 1000000 in
theorem fIn_ok (K p:Nat) (hK:1≤K∧K≤14) (hP:2≤p∧p≤256) (kd:Int) (neg:Bool) (e:Int) (l:List Int) (hl:l.length<5000) (ol:okW l) (he:kd=1 → -1048576≤e∧e≤1048576) :
 QU Tryz.prog 68 [.v (Q3 ((K+1:Nat):Int) p),.v (Q9 kd neg e l)] [.v true (.bool (decide (kd≠1)||hoI K p (e+trN (val l)) (val l/2^trN (val l))))]:=by
 by_cases h1:kd=1
 ·subst h1
  have he:=he rfl
  rw [decide_eq_false (by simp),Bool.false_or]
  have hO:=zk neg e l (by omega) ol (by omega)
  have hT:=fTiny_ok K p hK hP
  have hGr:=UZ K p hK
  have hG:=U6 hK
  have hml:(QX (val l/2^trN (val l))).length<6000:=by
   have h2:=Zk (Nat.div_le_self (val l) (2^trN (val l)))
   have h3:=ZU (ZY ol)
   omega
  have hL:=UC (QX (val l/2^trN (val l))) (by omega) (QY _).1
  rw [JF (QY _).1,(QY _).2.2] at hL
  have hbl:blN (val l/2^trN (val l))≤64*6000:=by
   have:=X6 (UY (QY (val l/2^trN (val l))).1)
   rw [(QY _).2.2] at this
   omega
  have htl:trN (val l)≤64*l.length:=by
   rcases Nat.eq_zero_or_pos (val l) with h0|h0
   ·rw [h0];exact Nat.zero_le _
   ·have:=JZ (v:=val l) (k:=64*l.length) h0 (UY ol)
    omega
  unfold hoI
  obtain ⟨n,hn⟩ : ∃n,n=blN (val l/2^trN (val l)):=⟨_,rfl⟩
  rw [←hn] at hL hbl ⊢
  obtain ⟨x,hx⟩ : ∃x,x=e+(trN (val l):Int):=⟨_,rfl⟩
  rw [←hx] at hO ⊢
  obtain ⟨Q,hQ⟩ : ∃Q,Q=QX (val l/2^trN (val l)):=⟨_,rfl⟩
  rw [←hQ] at hO hL
  obtain ⟨G,hG'⟩ : ∃G,G=gK K:=⟨_,rfl⟩
  rw [←hG'] at hGr hT hG ⊢
  obtain ⟨F,hF⟩ : ∃F:Int,F=((K+1:Nat):Int):=⟨_,rfl⟩
  rw [←hF] at hGr hT ⊢
  unfold Q3 at hGr hT ⊢
  unfold Q9 at hO ⊢
  obtain ⟨Ty,hTy⟩ : ∃T,T=1-G-((p:Int)-1):=⟨_,rfl⟩
  rw [←hTy] at hT ⊢
  have hxb : -1048576≤x∧x≤1400000:=by omega
  have w1:IntKind.i64.wrap ((n:Int)+x)=(n:Int)+x:=by rw [QV] <;> omega
  have w2:IntKind.i64.wrap (G+1)=G+1:=by rw [QV] <;> omega
  clear hF hG' hQ hx hn hml ol
  refine QU.of Tryz.func68 rfl rfl fun cx w0=>?_
  rw [show Tryz.f68.ntmps=36 from rfl]
  refine zs0 ?_
  refine QQ.seq ?_
  refine zs0 ?_
  refine QQ.condF rfl (QQ.skip ?_)
  show QQ _ _ _ _ _ _ _
  refine zs2 (ρ:=fun _=>[.v true (QZ Q),.v true (.int .i64 x)]) (o:=by repeat' first|exact hO|trivial|constructor) (k:=?_)
  by_cases a1:(n:Int)≤(p:Int)
  ·by_cases a2:Ty≤x
   ·have hd:decide (n≤p∧Ty≤x∧x+(n:Int)-1≤G)=decide ((n:Int)+x≤G+1):=decide_eq_decide.2 (by omega)
    rw [hd]
    refine zd3 [] (ρ:=fun d=>if d=16 then [.v true (.int .i64 n)] else if d=28 then [.v true (.int .i64 n)] else if d=23 then [.v true (.int .i64 Ty)] else [.v true (.int .i64 G)]) (an a1 <| an a2 <| an w1 <| w2) (o:=by repeat' first|exact hL|exact hT|exact hGr|trivial|constructor) (k:=?_)
    exact QQ.ret (QK.vs rfl (by exact ⟨⟨rfl,id⟩,trivial⟩) rfl)
   ·rw [decide_eq_false (fun h=>a2 h.2.1)]
    refine zd3 [] (ρ:=fun d=>if d=16 then [.v true (.int .i64 n)] else [.v true (.int .i64 Ty)]) (an a1 <| a2) (o:=by repeat' first|exact hL|exact hT|trivial|constructor) (k:=?_)
    exact QQ.ret (QK.vs rfl (by exact ⟨⟨rfl,id⟩,trivial⟩) rfl)
  ·rw [decide_eq_false (fun h=>a1 (by omega))]
   refine zd3 [] (ρ:=fun d=>[.v true (.int .i64 n)]) a1 (o:=by repeat' first|exact hL|trivial|constructor) (k:=?_)
   exact QQ.ret (QK.vs rfl (by exact ⟨⟨rfl,id⟩,trivial⟩) rfl)
 ·rw [decide_eq_true h1,Bool.true_or]
  unfold Q3 Q9
  refine QU.of Tryz.func68 rfl rfl fun cx w0=>?_
  rw [show Tryz.f68.ntmps=36 from rfl]
  refine zs0 ?_
  refine QQ.seq ?_
  refine zs1 h1 ?_
  refine QQ.condT rfl ?_
  refine zs0 ?_
  exact QQ.ret (QK.vs rfl (by exact ⟨⟨rfl,id⟩,trivial⟩) rfl)
theorem Bd (k:Int) (neg:Bool) (e:Int) (l:List Int):QU Tryz.prog 19 [.v (Q9 k neg e l)] [.v false (Q9 k neg e l)]:=by
 unfold Q9
 refine QU.of Tryz.func19 rfl rfl fun cx w0=>?_
 rw [show Tryz.f19.ntmps=12 from rfl]
 refine zs0 ?_
 refine zs0 ?_
 exact QQ.ret (QK.vs rfl (by exact ⟨⟨rfl,by simp⟩,trivial⟩) rfl)
set_option maxHeartbeats 1000000 in
theorem Theirs1_ok (k:Int) (neg:Bool) (e:Int) (l:List Int):QU Tryz.prog 104 [.v (.sl 4 [Q9 k neg e l])] [.v false (.sl 4 [Q9 k neg e l])]:=by
 have hT:=Bd k neg e l
 unfold Q9 QZ at hT ⊢
 obtain ⟨L,hL⟩ : ∃L,L=l.map fun n=>V.int .u64 n:=⟨_,rfl⟩
 rw [←hL] at hT ⊢
 clear hL
 refine QU.of Tryz.func104 rfl rfl fun cx w0=>?_
 rw [show Tryz.f104.ntmps=20 from rfl]
 refine zs0 ?_
 refine zs0 ?_
 refine QQ.next (fun σ=>∀a w,Rel cx w0 σ a w→Rel cx w0 {nt:=20,env:=[(3,.own 18 0 1)],mem:=[(18,.buf 38 4 false [.agg [.int .i64 k,.bool neg,.int .i64 e,.sl 1 L]])]} a w) ?_ ?_
 ·refine zs0 ?_
  refine QQ.loopB (fun i:Nat=>match i with|0 => {nt:=20,env:=[(4,.v true (.int .i64 0)),(0,.v false (.sl 4 [.agg [.int .i64 k,.bool neg,.int .i64 e,.sl 1 L]])),(3,.nil)],mem:=[]}|_ => {nt:=20,env:=[(4,.v true (.int .i64 1)),(0,.v false (.sl 4 [.agg [.int .i64 k,.bool neg,.int .i64 e,.sl 1 L]])),(3,.own 18 0 1)],mem:=[(18,.buf 38 4 false [.agg [.int .i64 k,.bool neg,.int .i64 e,.sl 1 L]])]}) (fun i=>i≤1) (fun i=>1-i) 0 (by decide) (fun a w h=>Rel.keep [4,0,3] [] h) ?_
  intro i hi
  rcases Nat.eq_zero_or_pos i with h0|h0
  ·subst h0
   show QQ _ _ _ _ _ {nt:=20,env:=[(4,.v true (.int .i64 0)),(0,.v false (.sl 4 [.agg [.int .i64 k,.bool neg,.int .i64 e,.sl 1 L]])),(3,.nil)],mem:=[]} _
   refine QQ.seq ?_
   refine zs0 ?_
   refine QQ.condT rfl (QQ.skip ?_)
   show QQ _ _ _ _ _ _ _
   refine QQ.next (fun σ=>∀a w,Rel cx w0 σ a w→Rel cx w0 {nt:=20,env:=[(4,.v true (.int .i64 0)),(0,.v false (.sl 4 [.agg [.int .i64 k,.bool neg,.int .i64 e,.sl 1 L]])),(3,.own 18 0 1)],mem:=[(18,.buf 38 4 false [.agg [.int .i64 k,.bool neg,.int .i64 e,.sl 1 L]])]} a w) ?_ ?_
   ·refine QQ.blockN ?_
    refine zr2 (ρ:=fun _=>[.v false (.agg [.int .i64 k,.bool neg,.int .i64 e,.sl 1 L])]) (o:=by repeat' first|exact hT|trivial|constructor) (k:=?_)
    exact fun a w h=>Rel.keep [4,0,3] [18] h
   ·intro σ hσ
    refine QQ.from hσ ?_
    refine zr0 ?_
    exact ⟨1,Nat.le_refl _,(show 1-1<1-0 by decide),fun a w h=>Rel.keep [4,0,3] [18] h⟩
  ·have h1:i=1:=by omega
   subst h1
   show QQ _ _ _ _ _ {nt:=20,env:=[(4,.v true (.int .i64 1)),(0,.v false (.sl 4 [.agg [.int .i64 k,.bool neg,.int .i64 e,.sl 1 L]])),(3,.own 18 0 1)],mem:=[(18,.buf 38 4 false [.agg [.int .i64 k,.bool neg,.int .i64 e,.sl 1 L]])]} _
   refine QQ.seq ?_
   refine zs0 ?_
   exact QQ.condF rfl (QQ.exit ⟨rfl,fun a w h=>Rel.keep [3] [18] h⟩)
 ·intro σ hσ
  refine QQ.from (σ' := {nt:=20,env:=[(3,.v false (.sl 4 [.agg [.int .i64 k,.bool neg,.int .i64 e,.sl 1 L]]))],mem:=[]}) (fun a w h=>by
   have:=Rel.keep [3] [] (Rel.freeze (s:=18) (e:=38) (z:=4) (nw:=false) (xs:=[.agg [.int .i64 k,.bool neg,.int .i64 e,.sl 1 L]]) (hσ a w h) rfl)
   exact this) ?_
  clear hσ
  refine zs0 ?_
  exact QQ.ret (QK.vs rfl (by exact ⟨⟨rfl,by simp⟩,trivial⟩) rfl)
set_option maxHeartbeats 2000000 in
theorem fCheck1_ok (k P:Int) (kd:Int) (neg:Bool) (e:Int) (l:List Int) (hl:l.length<5000) (ol:okW l) :
 QU Tryz.prog 17 [.v (Q3 k P),.v (.sl 4 [Q9 kd neg e l])] [.v true (.int .i64 (nuE k P true kd neg e l))]:=by
 have hLg:=fLarge_ok kd neg e l
 have hR:=fRight_ok k P
 have hGd:=fGood_ok kd neg e l hl ol
 have hIn:G6 k P→cnB kd neg e (val l)=true→QU Tryz.prog 68 [.v (Q3 k P),.v (Q9 kd neg e l)] [.v true (.bool (decide (kd≠1)||hoI (k-1).toNat P.toNat (cnE kd e (val l)) (cnM kd e (val l))))]:=fun h hc=>by
  obtain ⟨⟨h1,h2⟩,h3,h4⟩:=h
  obtain ⟨c1,c2,c3⟩:=yz hc
  have:=fIn_ok (k-1).toNat P.toNat (by omega) (by omega) kd neg e l hl ol (fun hk=>by
   subst hk
   unfold cnB at hc
   rw [if_neg (by decide),if_neg (by decide),if_pos rfl] at hc
   have:=of_decide_eq_true hc
   omega)
  rw [show (((k-1).toNat+1:Nat):Int)=k from by omega,show ((P.toNat:Nat):Int)=P from by omega] at this
  by_cases hk:kd=1
  ·obtain ⟨_,c4,c5,_⟩:=c3 hk
   rw [c4,c5]
   exact this
  ·rw [decide_eq_true hk,Bool.true_or] at this ⊢
   exact this
 have hfm:decide ((2≤k∧k≤15)∧2≤P∧P≤256)=decide (G6 k P):=rfl
 unfold nuE hoB
 obtain ⟨n,hn⟩ : ∃n,n=l.length:=⟨_,rfl⟩
 rw [←hn] at hLg ⊢
 obtain ⟨c,hc⟩ : ∃h,h=cnB kd neg e (val l):=⟨_,rfl⟩
 rw [←hc] at hGd hIn ⊢
 obtain ⟨i,hi⟩ : ∃h,h=(decide (kd≠1)||hoI (k-1).toNat P.toNat (cnE kd e (val l)) (cnM kd e (val l))):=⟨_,rfl⟩
 rw [←hi] at hIn ⊢
 unfold Q9 QZ at hLg hGd hIn ⊢
 obtain ⟨L,hL'⟩ : ∃L,L=l.map fun n=>V.int .u64 n:=⟨_,rfl⟩
 rw [←hL'] at hLg hGd hIn ⊢
 unfold Q3 at hR hIn ⊢
 clear hL' hn hc hi ol hl
 refine QU.of Tryz.func17 rfl rfl fun cx w0=>?_
 rw [show Tryz.f17.ntmps=42 from rfl]
 refine zs0 ?_
 refine QQ.next (fun σ=>¬4096<n ∧ ∀a w,Rel cx w0 σ a w→Rel cx w0 {nt:=42,env:=[(1,.v false (.sl 4 [.agg [.int .i64 kd,.bool neg,.int .i64 e,.sl 1 L]])),(2,.ptr 2 0 [] 0)],mem:=[(2,.box 35 (.v false (.agg [.int .i64 k,.int .i64 P])))]} a w) ?_ ?_
 ·refine zs0 ?_
  refine QQ.loopB (fun i:Nat => {nt:=42,env:=[(5,.v true (.int .i64 i)),(1,.v false (.sl 4 [.agg [.int .i64 kd,.bool neg,.int .i64 e,.sl 1 L]])),(2,.ptr 2 0 [] 0)],mem:=[(2,.box 35 (.v false (.agg [.int .i64 k,.int .i64 P])))]}) (fun i=>i=0∨i=1 ∧ ¬4096<n) (fun i=>1-i) 0 (.inl rfl) (fun a w h=>Rel.keep [5,1,2] [2] h) ?_
  rintro i hi
  by_cases hi0:i=0
  ·subst hi0
   refine QQ.seq ?_
   refine zs0 ?_
   refine QQ.condT rfl (QQ.skip ?_)
   show QQ _ _ _ _ _ _ _
   refine QQ.next (fun σ=>¬4096<n ∧ ∀a w,Rel cx w0 σ a w→Rel cx w0 {nt:=42,env:=[(5,.v true (.int .i64 0)),(1,.v false (.sl 4 [.agg [.int .i64 kd,.bool neg,.int .i64 e,.sl 1 L]])),(2,.ptr 2 0 [] 0)],mem:=[(2,.box 35 (.v false (.agg [.int .i64 k,.int .i64 P])))]} a w) ?_ ?_
   ·refine QQ.blockN ?_
    by_cases hn:4096<n
    ·rw [decide_eq_true hn] at hLg
     rw [if_pos hn]
     refine zs2 (ρ:=fun _=>[.v true (.bool true)]) (o:=by repeat' first|exact hLg|trivial|constructor) (k:=?_)
     refine QQ.condT rfl ?_
     refine zs0 ?_
     exact QQ.ret (QK.vs rfl (by exact ⟨⟨rfl,id⟩,trivial⟩) rfl)
    ·rw [decide_eq_false hn] at hLg
     refine zs2 (ρ:=fun _=>[.v true (.bool false)]) (o:=by repeat' first|exact hLg|trivial|constructor) (k:=?_)
     exact QQ.condF rfl (QQ.skip ⟨hn,fun a w h=>Rel.keep [5,1,2] [2] h⟩)
   ·rintro σ ⟨hn,hσ⟩
    refine QQ.from hσ ?_
    refine zr0 ?_
    exact ⟨1,.inr ⟨rfl,hn⟩,(show 1-1<1-0 by decide),fun a w h=>Rel.keep [5,1,2] [2] h⟩
  ·have hi1:i=1 ∧ ¬4096<n:=by omega
   obtain ⟨rfl,hn⟩:=hi1
   refine QQ.seq ?_
   refine zs0 ?_
   exact QQ.condF rfl (QQ.exit ⟨rfl,hn,fun a w h=>Rel.keep [1,2] [2] h⟩)
 ·rintro σ ⟨hn,hσ⟩
  refine QQ.from hσ ?_
  rw [if_neg hn,if_neg (show ¬true=false by decide)]
  clear hLg hσ
  refine QQ.seq ?_
  by_cases hf:G6 k P
  ·rw [hfm,decide_eq_true hf] at hR
   rw [if_neg (not_not_intro hf)]
   have hIn:=hIn hf
   refine zs2 (ρ:=fun _=>[.v true (.bool true)]) (o:=by repeat' first|exact hR|trivial|constructor) (k:=?_)
   refine QQ.condF rfl (QQ.skip ?_)
   show QQ _ _ _ _ _ _ _
   refine QQ.next (fun σ=>(c&&i)=true ∧ ∀a w,Rel cx w0 σ a w→Rel cx w0 {nt:=42,env:=[],mem:=[]} a w) ?_ ?_
   ·refine zs0 ?_
    refine QQ.loopB (fun j:Nat => {nt:=42,env:=[(6,.v true (.int .i64 j)),(1,.v false (.sl 4 [.agg [.int .i64 kd,.bool neg,.int .i64 e,.sl 1 L]])),(2,.ptr 2 0 [] 0)],mem:=[(2,.box 35 (.v false (.agg [.int .i64 k,.int .i64 P])))]}) (fun j=>j=0∨j=1∧(c&&i)=true) (fun j=>1-j) 0 (.inl rfl) (fun a w h=>Rel.keep [6,1,2] [2] h) ?_
    rintro j hj
    by_cases hj0:j=0
    ·subst hj0
     refine QQ.seq ?_
     refine zs0 ?_
     refine QQ.condT rfl (QQ.skip ?_)
     show QQ _ _ _ _ _ _ _
     refine QQ.next (fun σ=>(c&&i)=true ∧ ∀a w,Rel cx w0 σ a w→Rel cx w0 {nt:=42,env:=[(6,.v true (.int .i64 0)),(1,.v false (.sl 4 [.agg [.int .i64 kd,.bool neg,.int .i64 e,.sl 1 L]])),(2,.ptr 2 0 [] 0)],mem:=[(2,.box 35 (.v false (.agg [.int .i64 k,.int .i64 P])))]} a w) ?_ ?_
     ·refine QQ.blockN ?_
      cases c with
      | false =>
        rw [Bool.false_and,if_pos rfl]
        refine zd2 [] (ρ:=fun _=>[.v true (.bool false)]) (o:=by repeat' first|exact hGd|trivial|constructor) (k:=?_)
        refine QQ.condT rfl ?_
        refine zs0 ?_
        exact QQ.ret (QK.vs rfl (by exact ⟨⟨rfl,id⟩,trivial⟩) rfl)
      | true =>
        have hIn:=hIn rfl
        rw [Bool.true_and]
        cases i with
        | false =>
          rw [if_pos rfl]
          refine zd2 [] (ρ:=fun d=>if d=31 then [.v true (.bool true)] else [.v true (.bool false)]) (o:=by repeat' first|exact hGd|exact hIn|trivial|constructor) (k:=?_)
          refine QQ.condT rfl ?_
          refine zs0 ?_
          exact QQ.ret (QK.vs rfl (by exact ⟨⟨rfl,id⟩,trivial⟩) rfl)
        | true =>
          rw [if_neg (show ¬true=false by decide)]
          refine zd2 [] (ρ:=fun d=>if d=31 then [.v true (.bool true)] else [.v true (.bool true)]) (o:=by repeat' first|exact hGd|exact hIn|trivial|constructor) (k:=?_)
          exact QQ.condF rfl (QQ.skip ⟨rfl,fun a w h=>Rel.keep [6,1,2] [2] h⟩)
     ·rintro σ ⟨hi,hσ⟩
      refine QQ.from hσ ?_
      refine zr0 ?_
      exact ⟨1,.inr ⟨rfl,hi⟩,(show 1-1<1-0 by decide),fun a w h=>Rel.keep [6,1,2] [2] h⟩
    ·have hj1:j=1∧(c&&i)=true:=hj.resolve_left hj0
     obtain ⟨rfl,hi⟩:=hj1
     refine QQ.seq ?_
     refine zs0 ?_
     exact QQ.condF rfl (QQ.exit ⟨rfl,hi,fun a w h=>Rel.keep [] [] h⟩)
   ·rintro σ ⟨hi,hσ⟩
    refine QQ.from hσ ?_
    rw [hi,if_neg (show ¬true=false by decide)]
    refine zs0 ?_
    exact QQ.ret (QK.vs rfl (by exact ⟨⟨rfl,id⟩,trivial⟩) rfl)
  ·rw [hfm,decide_eq_false hf] at hR
   rw [if_pos hf]
   refine zs2 (ρ:=fun _=>[.v true (.bool false)]) (o:=by repeat' first|exact hR|trivial|constructor) (k:=?_)
   refine QQ.condT rfl ?_
   refine zs0 ?_
   exact QQ.ret (QK.vs rfl (by exact ⟨⟨rfl,id⟩,trivial⟩) rfl)
end Go.Proofs.YtlpolbeikangpaaGreatDoor.L
