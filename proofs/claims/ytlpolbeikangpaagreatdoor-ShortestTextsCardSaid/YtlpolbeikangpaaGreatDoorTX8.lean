/-
  Jl Ka Kd Xa Xb Xc Xd Xe Xf Xg Xh Xi Xj Xk Xl Xm Xn Xo Xp Xq
-/
import Derived.Test.YtlpolbeikangpaaGreatDoorTX4
import Derived.Test.YtlpolbeikangpaaGreatDoorTX7
import Derived.Test.YtlpolbeikangpaaGreatDoorTX5
import Derived.Test.YtlpolbeikangpaaGreatDoorTX3
import Derived.Laws.RangeString
import Derived.Deep.LoopGhost
import Derived.Test.YtlpolbeikangpaaGreatDoorTX6
import Derived.OwnWalk
import Derived.Laws.AppendOwn
import Derived.Deep.OwnRows
set_option linter.unusedSimpArgs false
set_option linter.unusedVariables false
set_option maxRecDepth 100000
namespace Go.Proofs.YtlpolbeikangpaaGreatDoor.L
open Go Go.RowKit Go.Proofs
attribute [local go_sem] Yq YQ JY JX JU JV XF Q4 ZB QH Jx Y4 St.opv St.get St.at Qu Xu St.put St.upd St.set decide_true List.all_nil List.all_cons Bool.and_true Bool.true_and and_self and_true true_and if_true if_false true_or Int.sub_zero List.nil_append List.cons_append List.append_nil Option.isSome_some List.getElem?_toArray List.getElem?_cons_succ List.getElem?_cons_zero Option.bind_some Option.map_some Option.map_none beq_self_eq_true Bool.false_beq Bool.true_beq Bool.not_true Bool.not_false Bool.false_eq_true cond_true cond_false DJ D3 List.map_cons List.map_nil YZ List.length_nil List.length_cons Nat.zero_mul Nat.one_mul Nat.mul_one Nat.zero_add Nat.add_zero Nat.zero_le Option.toList St.freshB AV.ment AV.ments Blk.ment V.sizes Nat.lt_add_one Bool.or_true Bool.true_or Bool.or_false Bool.false_or Bool.or_self if_pos if_neg decide_false decide_eq_true decide_eq_false QV Int.toNat_natCast FQ E7 Int.natCast_add Int.cast_ofNat_Int Option.isSome_none false_implies true_implies forall_const List.drop_zero Int.toNat_zero Int.add_sub_cancel Gy XK XE ZX Ug KH V.atP V.offP V.size List.length_map List.getElem?_map Int.toNat_natCast_add_one Int.ofNat_eq_natCast TY Y8 Qd U8 Z6 ZC Uu UH R.res R.mems R.blks R.av R.names R.nw XC XU Vz ZZ Ku V.off V.offs V.setP List.set_cons_zero List.set_cons_succ VH Yz YF YH KQ VC VG Kv AV.pure List.take_succ_cons List.take_zero Gz QZ unA U4 List.zipIdx_cons List.zipIdx_nil Arg.av Arg.avs
def frS (k P r:Int) (neg:Bool) (N D:List V) (x E s:Int) (n:List Int) (ex:Bool):St := {nt:=78,env:=[(1,.v true (.int .i64 r)),(3,.ptr 3 0 [] 0),(5,.ptr 5 0 [] 0),(6,.ptr 6 0 [] 0),(8,.v true (.int .i64 E)),(9,.v true (.int .i64 s)),(10,.v false (QZ n)),(11,.v true (.bool ex))],mem:=[(3,.box 35 (.v false (.agg [.int .i64 k,.int .i64 P]))),(5,.box 205 (.v false (.agg [.bool neg,.sl 1 N,.sl 1 D,.int .i64 x,.int .i64 1]))),(6,.box 38 (.v true (.agg [.int .i64 0,.bool false,.int .i64 0,.sl 1 []])))]}
theorem qg (P g:Int) (r:Nat) (neg:Bool) : ∃k e m,Dx (B9 P g r neg)=[.v true (YG k neg e m),.v true (.int .i64 5)]∧fbyV P g r neg=YG k neg e m:=by
 unfold Dx B9 fbyV
 cases grB r neg with
 | true=>exact ⟨1,_,_,rfl,rfl⟩
 | false=>exact ⟨2,0,0,rfl,rfl⟩
set_option maxHeartbeats 4000000 in
theorem fr_tail {cx:Cx} {w0:World} (K p:Nat) (r:Nat) (neg:Bool) (N D:List V) (x E s:Int) (n:Nat) (ex:Bool) (z:Int) (hK:1≤K∧K≤14) (hP:2≤p∧p≤256) (hr:r≤4) (hE:E≤gK K) (hs : -100000<s∧s≤gK K) (hn:(QX n).length≤1000) (hex:ex=true↔z=0) :
 QQ Tryz.prog none cx w0 (ZH Tryz.f175 [1,1,1,1,1]) (frS ((K+1:Nat):Int) p r neg N D x E s (QX n) ex) (fnQ Tryz.prog Tryz.f175 (Dx (if gK K<E∨2^(gK K+1-s).toNat≤n then B9 p (gK K) r neg
  else if n=0 then (0,neg,0,0,3) else (1,neg,s+trN n,n/2^trN n,if z=0 then 0 else if E<1-gK K then 3 else 1)))):=by
 have hGr:=UZ K p hK
 have hLe:=DQ K p hK
 have hB:=Bf K p r neg hK hP hr
 have hG:=U6 hK
 obtain ⟨kb,eb,mb,e1,e2⟩:=qg p (gK K) r neg
 rw [e2,KJ] at hB
 rw [KJ] at e1
 have hL:=UC (QX n) (by omega) (QY _).1
 rw [JF (QY _).1,(QY _).2.2] at hL
 have hZ:=Vg (QX n) (by omega) (QY _).1
 rw [(QY _).2.2] at hZ
 have hbn:blN n≤64*(QX n).length:=X6 (by have:=UY (QY n).1;rw [(QY n).2.2] at this;exact this)
 have hCn:=B8 neg s n (by omega) (by omega)
 obtain ⟨G,hG'⟩ : ∃G,G=gK K:=⟨_,rfl⟩
 rw [←hG'] at hGr hLe e1 hG hE hs ⊢
 obtain ⟨k,hk⟩ : ∃k:Nat,G+1-s=k:=⟨(G+1-s).toNat,by omega⟩
 have hC:(G<E∨2^(G+1-s).toNat≤n)↔G+1<(blN n:Nat)+s:=by
  rw [hk,Int.toNat_natCast,←bl_pow]
  omega
 obtain ⟨b,hb⟩ : ∃b,b=blN n:=⟨_,rfl⟩
 rw [←hb] at hL hbn hC
 obtain ⟨kk,hkk⟩ : ∃k:Int,k=((K+1:Nat):Int):=⟨_,rfl⟩
 rw [←hkk] at hGr hLe hB ⊢
 have w1:IntKind.i64.wrap ((b:Int)+s)=(b:Int)+s:=by rw [QV] <;> omega
 have w2:IntKind.i64.wrap (G+1)=G+1:=by rw [QV] <;> omega
 obtain ⟨nl,hnl⟩ : ∃L,L=QX n:=⟨_,rfl⟩
 rw [←hnl] at hL hZ ⊢
 unfold Q3 at hGr hLe hB
 unfold frS
 by_cases hc:G+1<(b:Int)+s
 ·rw [if_pos (hC.2 hc),e1]
  refine QQ.seq ?_
  refine QQ.block ?_
  refine zd3 [] (ρ:=fun d=>if d=44 then [.v true (.int .i64 b)] else [.v true (.int .i64 G)]) (an w1 <| an w2 <| hc) (o:=by repeat' first|exact hL|exact hGr|trivial|constructor) (k:=?_)
  refine QQ.condT rfl ?_
  refine zs2 (ρ:=fun _=>[.v true (.agg [.int .i64 (kb:Nat),.bool neg,.int .i64 eb,.sl 1 ((QX mb).map fun n=>.int .u64 n)])]) (o:=by repeat' first|exact hB|trivial|constructor) (k:=?_)
  exact QQ.ret (QK.vs rfl (by exact ⟨⟨rfl,id⟩,⟨rfl,id⟩,trivial⟩) rfl)
 rw [if_neg (fun h=>hc (hC.1 h))]
 by_cases h0:n=0
 ·rw [if_pos h0]
  rw [decide_eq_true h0] at hZ
  unfold Dx
  simp only
  rw [X7]
  refine QQ.seq ?_
  refine QQ.block ?_
  refine zd3 [] (ρ:=fun d=>if d=44 then [.v true (.int .i64 b)] else [.v true (.int .i64 G)]) (an w1 <| an w2 <| hc) (o:=by repeat' first|exact hL|exact hGr|trivial|constructor) (k:=?_)
  refine QQ.condF rfl ?_
  refine zs2 (ρ:=fun _=>[.v true (.bool true)]) (o:=by repeat' first|exact hZ|trivial|constructor) (k:=?_)
  refine QQ.condT rfl ?_
  refine zs0 ?_
  exact QQ.ret (QK.vs rfl (by exact ⟨⟨rfl,id⟩,⟨rfl,id⟩,trivial⟩) rfl)
 rw [if_neg h0]
 rw [decide_eq_false h0] at hZ
 unfold Dx
 simp only
 rw [KJ] at hCn ⊢
 rw [KJ] at hCn
 rw [←hnl] at hCn
 obtain ⟨U,hU⟩ : ∃U,U=(QX (n/2^trN n)).map fun n=>V.int .u64 n:=⟨_,rfl⟩
 obtain ⟨ez,hez⟩ : ∃ez,ez=s+(trN n:Int):=⟨_,rfl⟩
 rw [←hU,←hez] at hCn ⊢
 obtain ⟨fl,hfl⟩ : ∃fl:Int,fl=if z=0 then 0 else if E<1-G then 3 else 1:=⟨_,rfl⟩
 rw [←hfl]
 refine QQ.seq ?_
 refine QQ.block ?_
 refine zd3 [] (ρ:=fun d=>if d=44 then [.v true (.int .i64 b)] else [.v true (.int .i64 G)]) (an w1 <| an w2 <| hc) (o:=by repeat' first|exact hL|exact hGr|trivial|constructor) (k:=?_)
 refine QQ.condF rfl ?_
 refine zs2 (ρ:=fun _=>[.v true (.bool false)]) (o:=by repeat' first|exact hZ|trivial|constructor) (k:=?_)
 refine QQ.condF rfl (QQ.skip ?_)
 refine zs2 (ρ:=fun _=>[.v true (.agg [.int .i64 (1:Nat),.bool neg,.int .i64 ez,.sl 1 U])]) (o:=by repeat' first|exact hCn|trivial|constructor) (k:=?_)
 refine QQ.seq ?_
 refine QQ.block ?_
 cases ex with
 | true =>
   rw [if_pos (hex.1 rfl)] at hfl
   subst hfl
   refine zs0 ?_
   refine QQ.condT rfl ?_
   refine zs0 ?_
   exact QQ.ret (QK.vs rfl (by exact ⟨⟨rfl,id⟩,⟨rfl,id⟩,trivial⟩) rfl)
 | false =>
   rw [if_neg (fun h=>by have:=hex.2 h;cases this)] at hfl
   by_cases hel:E<1-G
   ·rw [if_pos hel] at hfl
    subst hfl
    refine zs0 ?_
    refine QQ.condF rfl ?_
    refine zs3 (ρ:=fun _=>[.v true (.int .i64 (1-G))]) hel (o:=by repeat' first|exact hLe|trivial|constructor) (k:=?_)
    refine QQ.condT rfl ?_
    refine zs0 ?_
    exact QQ.ret (QK.vs rfl (by exact ⟨⟨rfl,id⟩,⟨rfl,id⟩,trivial⟩) rfl)
   ·rw [if_neg hel] at hfl
    subst hfl
    refine zs0 ?_
    refine QQ.condF rfl ?_
    refine zs3 (ρ:=fun _=>[.v true (.int .i64 (1-G))]) hel (o:=by repeat' first|exact hLe|trivial|constructor) (k:=?_)
    refine QQ.condF rfl (QQ.skip ?_)
    refine zs0 ?_
    exact QQ.ret (QK.vs rfl (by exact ⟨⟨rfl,id⟩,⟨rfl,id⟩,trivial⟩) rfl)
set_option maxHeartbeats 4000000 in
theorem rRound_ok (K p:Nat) (r:Nat) (neg:Bool) (num den:Nat) (x e:Int) (hK:1≤K∧K≤14) (hP:2≤p∧p≤256) (hr:r≤4) (hn:0<num) (hd:0<den) (hnl:(QX num).length≤600) (hdl:(QX den).length≤600) (hE:IsE num den e) (he : -1000000<e∧e<1000000) (hx : -100000<x∧x<100000)
 (hxs:x-fU p (gK K) (e+x)≤20000) :
 QU Tryz.prog 175 [.v (Q3 ((K+1:Nat):Int) p),.v (.int .i64 r),.v (DB neg num den x)] (Dx (Vu p (gK K) r neg num den x (e+x))):=by
 have hGr:=UZ K p hK
 have hLe:=DQ K p hK
 have hB:=Bf K p r neg hK hP hr
 have hG:=U6 hK
 have hX:=Exponent_ok neg num den e x hn hd (by omega) (by omega) hE (by omega) he
 obtain ⟨kb,eb,mb,e1,e2⟩:=qg p (gK K) r neg
 rw [e2,KJ] at hB
 rw [KJ] at e1
 have hrf:DB neg num den x = .agg [.bool neg,.sl 1 ((QX num).map fun n=>.int .u64 n),.sl 1 ((QX den).map fun n=>.int .u64 n),.int .i64 x,.int .i64 1]:=rfl
 obtain ⟨E,hEE⟩ : ∃E,E=e+x:=⟨_,rfl⟩
 rw [←hEE] at hX hxs ⊢
 have hu:fU p (gK K) E=max E (1-gK K)-p+1:=rfl
 by_cases hge:gK K<E
 ·rw [fRnd_high hge,e1]
  obtain ⟨G,hG'⟩ : ∃G,G=gK K:=⟨_,rfl⟩
  rw [←hG'] at hGr hge
  rw [hrf] at hX ⊢
  obtain ⟨NL,hNL⟩ : ∃L,L=(QX num).map fun n=>V.int .u64 n:=⟨_,rfl⟩
  obtain ⟨DL,hDL⟩ : ∃L,L=(QX den).map fun n=>V.int .u64 n:=⟨_,rfl⟩
  rw [←hNL,←hDL] at hX ⊢
  obtain ⟨kk,hkk⟩ : ∃k:Int,k=((K+1:Nat):Int):=⟨_,rfl⟩
  rw [←hkk] at hGr hB ⊢
  clear hNL hDL hG' hkk e1 e2 hE hu
  unfold Q3 at hGr hB ⊢
  refine QU.of Tryz.func175 rfl rfl fun cx w0=>?_
  rw [show Tryz.f175.ntmps=78 from rfl]
  refine zs0 ?_
  refine zs2 (ρ:=fun _=>[.v true (.int .i64 E)]) (o:=by repeat' first|exact hX|trivial|constructor) (k:=?_)
  refine QQ.seq ?_
  refine zs3 (ρ:=fun _=>[.v true (.int .i64 G)]) hge (o:=by repeat' first|exact hGr|trivial|constructor) (k:=?_)
  refine QQ.condT rfl ?_
  refine zs2 (ρ:=fun _=>[.v true (.agg [.int .i64 (kb:Nat),.bool neg,.int .i64 eb,.sl 1 ((QX mb).map fun n=>.int .u64 n)])]) (o:=by repeat' first|exact hB|trivial|constructor) (k:=?_)
  exact QQ.ret (QK.vs rfl (by exact ⟨⟨rfl,id⟩,⟨rfl,id⟩,trivial⟩) rfl)
 obtain ⟨s,hs⟩ : ∃s,s=fU p (gK K) E:=⟨_,rfl⟩
 rw [←hs] at hxs hu
 obtain ⟨N,h,b,⟨s1,s2,s3⟩,hSt⟩:=rSteps2_ok neg num den x s hd hnl hdl (by omega) hx
 obtain ⟨c,hc⟩ : ∃c,c=20000:=⟨_,rfl⟩
 have hNle:N≤num*2^c:=by
  rw [s3]
  unfold cutN
  exact Nat.le_trans (Nat.div_le_self _ _) (Nat.mul_le_mul_left _ (Nat.pow_le_pow_right (by decide) (by omega)))
 have hNl:(QX N).length≤1000:=Nat.le_trans (Zk hNle) (E6 hnl (by omega))
 have hRo:=rRounded_ok r hr neg N h b (by omega)
 rw [s1 r neg] at hRo
 have hfl:(QX (fN r neg num den (x-s))).length≤1000:=by
  have h1:fN r neg num den (x-s)≤num*2^(c+1):=by
   have h2:=(upN_le r neg (cutN num den (x-s)) (A7 num den (x-s))).2
   have h3:0<num*2^c:=Nat.mul_pos hn (Nat.pow_pos (by decide))
   unfold fN
   rw [Nat.pow_succ,←Nat.mul_assoc]
   omega
  exact Nat.le_trans (Zk h1) (E6 hnl (by omega))
 have hT:=fun {cx w0} N D=>fr_tail (cx:=cx) (w0:=w0) K p r neg N D x E s (fN r neg num den (x-s)) (decide (h=false∧b=false)) (A7 num den (x-s)) hK hP hr (by omega) (by omega) hfl (by rw [decide_eq_true_iff];exact s2)
 have hmain:Vu p (gK K) r neg num den x E=(if gK K<E∨2^(gK K+1-s).toNat≤fN r neg num den (x-s) then B9 p (gK K) r neg
  else if fN r neg num den (x-s)=0 then (0,neg,0,0,3) else (1,neg,s+trN (fN r neg num den (x-s)),fN r neg num den (x-s)/2^trN (fN r neg num den (x-s)),if A7 num den (x-s)=0 then 0 else if E<1-gK K then 3 else 1)):=by
  rw [hs];rfl
 rw [←hmain] at hT
 obtain ⟨res,hres⟩ : ∃res,res=Dx (Vu p (gK K) r neg num den x E):=⟨_,rfl⟩
 rw [←hres] at hT ⊢
 rw [hrf] at hX hSt ⊢
 obtain ⟨NL,hNL⟩ : ∃L,L=(QX num).map fun n=>V.int .u64 n:=⟨_,rfl⟩
 obtain ⟨DL,hDL⟩ : ∃L,L=(QX den).map fun n=>V.int .u64 n:=⟨_,rfl⟩
 rw [←hNL,←hDL] at hX hSt ⊢
 have hT:=fun {cx w0}=>hT (cx:=cx) (w0:=w0) NL DL
 obtain ⟨PV,hPV⟩ : ∃L:List Int,L=QX N:=⟨_,rfl⟩
 obtain ⟨FL,hFL⟩ : ∃L:List Int,L=QX (fN r neg num den (x-s)):=⟨_,rfl⟩
 obtain ⟨ex,hex⟩ : ∃z,z=decide (h=false∧b=false):=⟨_,rfl⟩
 have hSt:QU Tryz.prog 233 [.v (.agg [.bool neg,.sl 1 NL,.sl 1 DL,.int .i64 x,.int .i64 1]),.v (.int .i64 s)] [.v true (.agg [QZ PV,.bool h,.bool b])]:=by rw [hPV];exact hSt
 have hRo:QU Tryz.prog 94 [.v (.int .i64 r),.v (.bool neg),.v (.agg [QZ PV,.bool h,.bool b])] [.v false (QZ FL),.v true (.bool ex)]:=by rw [hPV,hFL,hex];exact hRo
 rw [←hFL,←hex] at hT
 obtain ⟨G,hG'⟩ : ∃G,G=gK K:=⟨_,rfl⟩
 rw [←hG'] at hGr hLe hge hu hG
 obtain ⟨kk,hkk⟩ : ∃k:Int,k=((K+1:Nat):Int):=⟨_,rfl⟩
 rw [←hkk] at hGr hLe hT ⊢
 have w1:IntKind.i64.wrap (max E (1-G)-(p:Int))=max E (1-G)-p:=by rw [QV] <;> omega
 have w2:IntKind.i64.wrap (max E (1-G)-(p:Int)+1)=s:=by rw [←hu];rw [QV] <;> omega
 clear hNL hDL hG' hkk e1 e2 hE hrf hmain hres hs hB hPV hFL hex s1 s2 s3 hNle hNl hfl hnl hdl
 unfold Q3 at hGr hLe ⊢
 refine QU.of Tryz.func175 rfl rfl fun cx w0=>?_
 rw [show Tryz.f175.ntmps=78 from rfl]
 refine zs0 ?_
 refine zs2 (ρ:=fun _=>[.v true (.int .i64 E)]) (o:=by repeat' first|exact hX|trivial|constructor) (k:=?_)
 refine QQ.seq ?_
 refine zs3 (ρ:=fun _=>[.v true (.int .i64 G)]) hge (o:=by repeat' first|exact hGr|trivial|constructor) (k:=?_)
 refine QQ.condF rfl (QQ.skip ?_)
 refine zd3 [] (ρ:=fun _=>[.v true (.int .i64 (1-G))]) (an max2_eq <| an w1 <| w2) (o:=by repeat' first|exact hLe|trivial|constructor) (k:=?_)
 refine zd2 [] (ρ:=fun d=>if d=38 then [.v true (.agg [QZ PV,.bool h,.bool b])] else [.v false (QZ FL),.v true (.bool ex)]) (o:=by repeat' first|exact hSt|exact hRo|trivial|constructor) (k:=?_)
 exact QQ.from (σ':=frS kk p r neg NL DL x E s FL ex) (fun a w h=>Rel.keep [1,3,5,6,8,9,10,11] [3,5,6] h) hT
def dsV (l:List Nat):List V:=l.map fun n=>.int .u8 (n:Nat)
def dsA (l:List Nat):AV:=if l=[] then .nil else .own 300 0 l.length
def dsB (l:List Nat):List (Nat×Blk):=if l=[] then [] else [(300,.buf 5 1 true (dsV l))]
theorem dsA_n:dsA [] = .nil:=rfl
theorem dsB_n:dsB []=[]:=rfl
theorem dsA_c {l:List Nat} (h:l≠[]):dsA l = .own 300 0 l.length:=if_neg h
theorem dsB_c {l:List Nat} (h:l≠[]):dsB l=[(300,.buf 5 1 true (dsV l))]:=if_neg h
theorem CG (l:List Nat):(dsV l).length=l.length:=by simp [dsV]
theorem dsV_s (l:List Nat) (c:Nat):dsV (l++[c])=dsV l++[.int .u8 c]:=by simp [dsV]
theorem word0_ok (r:Nat) (hr:r<18446744073709551616):QU Tryz.prog 148 [.v (QZ (QX r)),.v (.int .i64 0)] [.v true (.int .u64 r)]:=by
 have hlen:=ZU (v:=r) (m:=1) (by rw [Nat.pow_one];exact hr)
 obtain ⟨ok,_,hv⟩:=QY r
 obtain ⟨l,hl⟩ : ∃l,l=QX r:=⟨_,rfl⟩
 rw [←hl] at hlen ok hv ⊢
 clear hl
 rcases l with _|⟨x,l⟩
 ·have e:r=0:=by rw [←hv];rfl
  subst e
  refine QU.of Tryz.func148 rfl rfl fun cx w0=>?_
  rw [show Tryz.f148.ntmps=13 from rfl]
  refine zs0 ?_
  refine QQ.seq ?_
  refine zs0 ?_
  refine QQ.condF rfl (QQ.skip ?_)
  refine zs0 ?_
  exact QQ.ret (QK.vs rfl (by exact ⟨⟨rfl,id⟩,trivial⟩) rfl)
 ·rcases l with _|⟨y,l⟩
  ·have hx:=ok x (by simp)
   have e:x=(r:Int):=by
    rw [←hv]
    show x=((x.toNat+18446744073709551616*val []:Nat):Int)
    rw [show val []=0 from rfl]
    omega
   subst e
   refine QU.of Tryz.func148 rfl rfl fun cx w0=>?_
   rw [show Tryz.f148.ntmps=13 from rfl]
   refine zs0 ?_
   refine QQ.seq ?_
   refine zs0 ?_
   refine QQ.condT rfl ?_
   refine zs0 ?_
   exact QQ.ret (QK.vs rfl (by exact ⟨⟨rfl,id⟩,trivial⟩) rfl)
  ·simp only [List.length_cons] at hlen
   omega
def tdL:Nat→Nat→List Nat
 | 0,_=>[]
 | f+1,n=>if n=0 then [] else (48+n%10)::tdL f (n/10)
theorem tdL_0 (f:Nat):tdL f 0=[]:=by cases f <;> simp [tdL]
theorem tdL_s {f n:Nat} (hf:0<f) (h:n≠0):tdL f n=(48+n%10)::tdL (f-1) (n/10):=by
 obtain ⟨k,rfl⟩ : ∃k,f=k+1:=⟨f-1,by omega⟩
 rw [tdL,if_neg h];rfl
theorem tdL_dg : ∀(f n:Nat),∀c∈tdL f n,48≤c∧c≤57
 | 0,_=>by simp [tdL]
 | f+1,n=>by
   rw [tdL]
   split
   ·simp
   ·intro c hc
    rcases List.mem_cons.1 hc with rfl|hc
    ·omega
    ·exact tdL_dg f _ c hc
def rvI (l:List Nat) (i:Nat):List Nat:=(List.range l.length).map fun k=>if k<i∨l.length-1-i<k then l.getD (l.length-1-k) 0 else l.getD k 0
theorem GX (l:List Nat) (i:Nat):(rvI l i).length=l.length:=by simp [rvI]
theorem GV (l:List Nat) (i k:Nat) (h:k<l.length):(rvI l i)[k]?=some (if k<i∨l.length-1-i<k then l.getD (l.length-1-k) 0 else l.getD k 0):=by
 unfold rvI
 rw [List.getElem?_map,List.getElem?_range h];rfl
theorem rvI_0 (l:List Nat):rvI l 0=l:=by
 refine List.ext_getElem? fun k=>?_
 by_cases h:k<l.length
 ·rw [GV l 0 k h,if_neg (by omega),List.getElem?_eq_getElem h,List.getD_eq_getElem?_getD,List.getElem?_eq_getElem h];rfl
 ·rw [List.getElem?_eq_none (by rw [GX];omega),List.getElem?_eq_none (by omega)]
theorem rvI_end (l:List Nat) (i:Nat) (h:l.length≤2*i+1):rvI l i=l.reverse:=by
 refine List.ext_getElem? fun k=>?_
 by_cases hk:k<l.length
 ·rw [GV l i k hk,List.getElem?_reverse hk,List.getElem?_eq_getElem (by omega)]
  split
  ·rw [List.getD_eq_getElem?_getD,List.getElem?_eq_getElem (by omega)];rfl
  ·next h1 =>
   have e:k=l.length-1-k:=by omega
   rw [List.getD_eq_getElem?_getD,List.getElem?_eq_getElem hk]
   simp only [Option.getD_some]
   congr 1
   congr 1
 ·rw [List.getElem?_eq_none (by rw [GX];omega),List.getElem?_eq_none (by rw [List.length_reverse];omega)]
theorem rvI_s (l:List Nat) (i j:Nat) (h:l.length=i+j+1) (hij:i<j):((rvI l i).set i (l.getD j 0)).set j (l.getD i 0)=rvI l (i+1):=by
 refine List.ext_getElem? fun k=>?_
 by_cases hk:k<l.length
 ·rw [GV l (i+1) k hk,List.getElem?_set,List.getElem?_set,List.length_set,GX,GV l i k hk]
  by_cases h1:j=k
  ·rw [if_pos h1,if_pos (by omega),if_pos (by omega),show l.length-1-k=i from by omega]
  ·rw [if_neg h1]
   by_cases h2:i=k
   ·rw [if_pos h2,if_pos (by omega),if_pos (by omega),show l.length-1-k=j from by omega]
   ·rw [if_neg h2]
    congr 1
    by_cases h3:k<i∨l.length-1-i<k
    ·rw [if_pos h3,if_pos (by omega)]
    ·rw [if_neg h3,if_neg (by omega)]
 ·rw [List.getElem?_eq_none (by rw [List.length_set,List.length_set,GX];omega),List.getElem?_eq_none (by rw [GX];omega)]
theorem dsV_set (l:List Nat) (i c:Nat):(dsV l).set i (.int .u8 c)=dsV (l.set i c):=by
 unfold dsV
 rw [List.map_set]
theorem dsV_get {l:List Nat} {i c:Nat} (h:l[i]?=some c):(dsV l)[i]?=some (.int .u8 c):=by
 unfold dsV
 rw [List.getElem?_map,h];rfl
def fxL:Nat→Nat→List Nat
 | 0,_=>[]
 | k+1,n=>(48+n%10)::fxL k (n/10)
theorem EZ : ∀(k n:Nat),(fxL k n).length=k
 | 0,_=>rfl
 | k+1,n=>by rw [fxL,List.length_cons,EZ k]
theorem fxL_0 : ∀k,fxL k 0=List.replicate k 48
 | 0=>rfl
 | k+1=>by rw [fxL,Nat.zero_div,fxL_0 k,Nat.zero_mod,List.replicate_succ]
theorem fxL_add : ∀(k j n:Nat),fxL (k+j) n=fxL k n++fxL j (n/10^k)
 | 0,j,n=>by rw [Nat.zero_add,Nat.pow_zero,Nat.div_one];rfl
 | k+1,j,n=>by
   rw [show k+1+j=(k+j)+1 from by omega,fxL,fxL_add k j (n/10),fxL,List.cons_append,Nat.div_div_eq_div_mul,Nat.pow_succ,Nat.mul_comm (10^k)]
theorem EQ : ∀(k n:Nat),fxL k (n%10^k)=fxL k n
 | 0,_=>rfl
 | k+1,n=>by
   have h1:n%10^(k+1)%10=n%10:=Nat.mod_mod_of_dvd n ⟨10^k,by rw [Nat.pow_succ,Nat.mul_comm]⟩
   have h2:n%10^(k+1)/10=n/10%10^k:=by
    rw [Nat.pow_succ,Nat.mul_comm,Nat.mod_mul_right_div_self]
   rw [fxL,fxL,h1,h2,EQ k]
theorem fxL_td : ∀(k n:Nat),n<10^k→fxL k n=tdL k n++List.replicate (k-(tdL k n).length) 48
 | 0,n,_=>by simp [fxL,tdL]
 | k+1,n,h=>by
   rw [fxL,tdL]
   split
   ·next h0 =>
    subst h0
    rw [Nat.zero_div,fxL_0,Nat.zero_mod]
    simp [List.replicate_succ]
   ·rw [fxL_td k (n/10) (Nat.div_lt_of_lt_mul (by rw [Nat.pow_succ] at h;omega))]
    simp
theorem C8 : ∀(k j n:Nat),n<10^k→tdL (k+j) n=tdL k n
 | 0,j,n,h=>by
   have:n=0:=by simpa using h
   rw [this,tdL_0,tdL_0]
 | k+1,j,n,h=>by
   rw [show k+1+j=(k+j)+1 from by omega,tdL,tdL]
   split
   ·rfl
   ·rw [C8 k j (n/10) (Nat.div_lt_of_lt_mul (by rw [Nat.pow_succ] at h;omega))]
theorem zJ {k j n:Nat} (hk:n<10^k) (hj:n<10^j):tdL k n=tdL j n:=by
 rcases Nat.le_total k j with h|h
 ·obtain ⟨d,rfl⟩:=Nat.exists_eq_add_of_le h
  exact (C8 k d n hk).symm
 ·obtain ⟨d,rfl⟩:=Nat.exists_eq_add_of_le h
  exact C8 j d n hj
theorem qZ : ∀(k f n:Nat),10^k≤n→tdL (k+f) n=fxL k (n%10^k)++tdL f (n/10^k)
 | 0,f,n,_=>by rw [Nat.zero_add,Nat.pow_zero,Nat.div_one];rfl
 | k+1,f,n,h=>by
   have h0:n≠0:=by have:=Nat.pow_pos (a:=10) (n:=k+1) (by decide);omega
   have h1:10^k≤n/10:=by rw [Nat.le_div_iff_mul_le (by decide),←Nat.pow_succ];exact h
   rw [EQ,show k+1+f=(k+f)+1 from by omega,tdL,if_neg h0,qZ k f (n/10) h1,EQ,fxL,List.cons_append,Nat.div_div_eq_div_mul,Nat.pow_succ,Nat.mul_comm (10^k)]
theorem zK : ∀(f n:Nat),n≠0→n<10^f → ∃l c,tdL f n=l++[c]∧49≤c∧c≤57
 | 0,n,h0,h=>by rw [Nat.pow_zero] at h;omega
 | f+1,n,h0,h=>by
   rw [tdL,if_neg h0]
   by_cases h1:n/10=0
   ·rw [h1,tdL_0]
    exact ⟨[],48+n%10,rfl,by omega,by omega⟩
   ·obtain ⟨l,c,e,hc⟩:=zK f (n/10) h1 (Nat.div_lt_of_lt_mul (by rw [Nat.pow_succ] at h;omega))
    exact ⟨(48+n%10)::l,c,by rw [e];rfl,hc⟩
def Qv (n:Nat):List UInt8:=if n=0 then [48] else (tdL n n).reverse.map UInt8.ofNat
theorem Vv (n:Nat):n<10^n:=Nat.lt_pow_self (by decide)
theorem CF {n f:Nat} (h0:n≠0) (h:n<10^f):Qv n=(tdL f n).reverse.map UInt8.ofNat:=by
 unfold Qv
 rw [if_neg h0,zJ (Vv n) h]
theorem decG_zeros {n f:Nat} (h0:n≠0) (h:n<10^f):(((fxL f n).reverse.map UInt8.ofNat).dropWhile fun c=>c == 48)=Qv n:=by
 rw [CF h0 h,fxL_td f n h,List.reverse_append,List.map_append,List.reverse_replicate,List.map_replicate]
 obtain ⟨l,c,e,hc1,hc2⟩:=zK f n h0 h
 rw [e,List.reverse_append,List.map_append,List.reverse_singleton,List.map_singleton]
 have hne:(UInt8.ofNat c == 48)=false:=by
  rw [beq_eq_false_iff_ne]
  intro hh
  have:=congrArg UInt8.toNat hh
  simp at this
  omega
 have : ∀k (r:List UInt8),(List.replicate k (UInt8.ofNat 48)++([UInt8.ofNat c]++r)).dropWhile (fun c=>c == 48)=[UInt8.ofNat c]++r:=fun k r=>by
  induction k with
  | zero=>simp [hne]
  | succ k ih =>
    rw [List.replicate_succ,List.cons_append,List.dropWhile_cons,if_pos (by rfl)]
    exact ih
 exact this _ _
theorem decG_ne (n:Nat):Qv n≠[]:=by
 unfold Qv
 split
 ·simp
 ·next h=>rw [tdL_s (by omega) h];simp
theorem tdL_len : ∀(f n D:Nat),EB n D→n<10^f→(tdL f n).length=D
 | 0,n,D,h,hf=>by
   obtain ⟨h1,h2,_⟩:=h
   have:=Nat.pow_pos (a:=10) (n:=D-1) (by decide)
   rw [Nat.pow_zero] at hf
   omega
 | f+1,n,D,h,hf=>by
   obtain ⟨h1,h2,h3⟩:=h
   have hp:=Nat.pow_pos (a:=10) (n:=D-1) (by decide)
   rw [tdL,if_neg (by omega),List.length_cons]
   obtain ⟨E,rfl⟩ : ∃E,D=E+1:=⟨D-1,by omega⟩
   rw [Nat.add_sub_cancel] at h2
   by_cases h4:n<10
   ·have hE:E=0:=by
     rcases Nat.eq_zero_or_pos E with h|h
     ·exact h
     ·obtain ⟨G,rfl⟩ : ∃G,E=G+1:=⟨E-1,by omega⟩
      have:=Nat.pow_pos (a:=10) (n:=G) (by decide)
      rw [Nat.pow_succ] at h2
      omega
    rw [show n/10=0 from by omega,tdL_0,hE]
    rfl
   ·have hE:0<E:=by
     rcases Nat.eq_zero_or_pos E with h|h
     ·rw [h] at h3;omega
     ·exact h
    obtain ⟨G,rfl⟩ : ∃G,E=G+1:=⟨E-1,by omega⟩
    rw [tdL_len f (n/10) (G+1) ⟨by omega,by
     rw [Nat.add_sub_cancel,Nat.le_div_iff_mul_le (by decide),←Nat.pow_succ];exact h2,Nat.div_lt_of_lt_mul (by rw [Nat.pow_succ] at h3;omega)⟩ (Nat.div_lt_of_lt_mul (by rw [Nat.pow_succ] at hf;omega))]
theorem decG_len {n D:Nat} (h:EB n D):(Qv n).length=D:=by
 have h0:n≠0:=by
  have:=Nat.pow_pos (a:=10) (n:=D-1) (by decide)
  have:=h.2.1
  omega
 unfold Qv
 rw [if_neg h0,List.length_map,List.length_reverse,tdL_len n n D h (Vv n)]
theorem decG_last {c:Nat} (h:c%10≠0) : ∃l,Qv c=l++[UInt8.ofNat (48+c%10)]:=by
 have h0:c≠0:=fun e=>by rw [e] at h;simp at h
 unfold Qv
 rw [if_neg h0,tdL_s (by omega) h0,List.reverse_cons,List.map_append]
 exact ⟨_,rfl⟩
theorem near_iff {A D n:Nat} (hD:0<D) (neg:Bool):upN 0 neg (A/D) (Y6 (A%D) D)=n↔(2*(n*D)<2*A+D∧2*A<2*(n*D)+D)∨(n%2=0∧(2*A+D=2*(n*D)∨2*A=2*(n*D)+D)):=by
 have e1:=Nat.div_add_mod A D
 have h2:=Nat.mod_lt A hD
 obtain ⟨q,hq⟩ : ∃q,q=A/D:=⟨_,rfl⟩
 obtain ⟨l,hl⟩ : ∃l,l=A%D:=⟨_,rfl⟩
 rw [←hq,←hl] at e1
 rw [←hl] at h2
 rw [←hq,←hl]
 have hup:upN 0 neg q (Y6 l D)=if D<2*l∨(2*l=D∧q%2=1) then q+1 else q:=by
  unfold upN mrN Y6 Q7
  rw [Kf]
  by_cases h0:l=0
  ·rw [if_pos h0,if_neg (by simp),if_neg (by omega)]
  ·rw [if_neg h0]
   by_cases h3:l*2<D
   ·rw [if_pos h3,if_neg (by simp),if_neg (by omega)]
   ·rw [if_neg h3]
    by_cases h4:D<l*2
    ·rw [if_pos h4,if_pos (by simp),if_pos (by omega)]
    ·rw [if_neg h4]
     by_cases h5:q%2=1
     ·rw [if_pos (by simp [h5]),if_pos (by omega)]
     ·rw [if_neg (by simp [h5]),if_neg (by omega)]
 rw [hup]
 obtain ⟨Q,hQ⟩ : ∃Q,Q=D*q:=⟨_,rfl⟩
 rw [←hQ] at e1
 have hn:(n=q∧n*D=Q)∨(n=q+1∧n*D=Q+D)∨(n<q∧n*D+D≤Q)∨(q+1<n∧Q+2*D≤n*D):=by
  rcases Nat.lt_trichotomy n q with h|h|h
  ·exact .inr (.inr (.inl ⟨h,by rw [hQ,←Nat.succ_mul,Nat.mul_comm D];exact Nat.mul_le_mul_right D h⟩))
  ·exact .inl ⟨h,by rw [hQ,h,Nat.mul_comm]⟩
  ·by_cases h':n=q+1
   ·exact .inr (.inl ⟨h',by rw [hQ,h',Nat.succ_mul,Nat.mul_comm]⟩)
   ·have:(q+2)*D≤n*D:=Nat.mul_le_mul_right D (by omega)
    rw [Nat.add_mul,Nat.mul_comm q] at this
    exact .inr (.inr (.inr ⟨by omega,by rw [hQ];exact this⟩))
 obtain ⟨R,hR⟩ : ∃R,R=n*D:=⟨_,rfl⟩
 rw [←hR] at hn ⊢
 split <;> omega
def inI (n b Z W:Nat):Prop:=((4*n-b)*W<Z∧Z<(4*n+2)*W)∨(n%2=0∧(Z=(4*n-b)*W∨Z=(4*n+2)*W))
instance (n b Z W:Nat):Decidable (inI n b Z W):=inferInstanceAs (Decidable (_∨_))
theorem E4 {n b Z W c:Nat} (hc:0<c):inI n b (Z*c) (W*c)↔inI n b Z W:=by
 unfold inI
 have e : ∀ {x y:Nat},x*c=y*c↔x=y:=fun {x y}=>⟨fun h=>Nat.eq_of_mul_eq_mul_right hc h,fun h=>by rw [h]⟩
 simp only [←Nat.mul_assoc,Nat.mul_lt_mul_right hc,e]
theorem inI_iff {n b Z W:Nat} (hb:b≤4*n):inI n b Z W↔(4*(n*W)<Z+b*W∧Z<4*(n*W)+2*W)∨(n%2=0∧(Z+b*W=4*(n*W)∨Z=4*(n*W)+2*W)):=by
 unfold inI
 have h1:=Nat.mul_le_mul_right W hb
 rw [Nat.sub_mul,Nat.add_mul,Nat.mul_assoc 4 n]
 rw [Nat.mul_assoc 4 n] at h1
 omega
def fB (g:Int) (m:Nat) (lead:Int):Nat:=if m=1∧1-g<lead then 1 else 2
theorem trN_form {N m:Nat} {u e:Int} (hN:0<N) (hm:trN m=0) (hm0:0<m):(u+trN N=e∧N/2^trN N=m) ↔ ∃k:Nat,e=u+k∧N=m*2^k:=by
 constructor
 ·rintro ⟨h1,h2⟩
  refine ⟨trN N,h1.symm,?_⟩
  obtain ⟨c,hc⟩:=Uv hN
  have hp:0<2^trN N:=Nat.pow_pos (by decide)
  have:N/2^trN N=2*c+1:=Nat.div_eq_of_eq_mul_left hp hc
  rw [←h2,this]
  exact hc
 ·rintro ⟨k,h1,h2⟩
  obtain ⟨c,hc⟩:=Uv hm0
  rw [hm,Nat.pow_zero,Nat.mul_one] at hc
  have ht:trN N=k:=J8 (c:=c) (by rw [h2,hc])
  rw [ht]
  exact ⟨h1.symm,by rw [h2,Nat.mul_div_cancel _ (Nat.pow_pos (by decide))]⟩
theorem fU_q {P g e lead u:Int} {b q:Nat} (hl:lead=e+b-1) (hu:u=max lead (1-g)-P+1) (hue:u≤e) (hq:P=q+1) (hb:1≤b) (h:1-g≤lead):(e-u).toNat+(b-1)=q:=by omega
theorem pow4 {d a B:Nat} (h:2≤a) (hB:B=d*2^(a-2)):d*2^a=4*B:=by
 obtain ⟨c,rfl⟩ : ∃c,a=c+2:=⟨a-2,by omega⟩
 rw [hB,Nat.add_sub_cancel,Nat.pow_add,←Nat.mul_assoc]
 omega
set_option maxHeartbeats 2000000 in
theorem in_iff {P g e lead u e':Int} {m n num den i j:Nat} (hP:2≤P) (hg:1≤g) (hm:trN m=0) (hm0:0<m) (hl:lead=e+blN m-1) (hlg:lead≤g) (hu:u=fU P g lead) (hue:u≤e) (hn:n=m*2^(e-u).toNat) (hnP:n<2^P.toNat)
 (hden:0<den) (hE:IsE num den e') (hij:(i:Int)-j=2-u) :
 ((Vu P g 0 false num den 0 e').1=1∧(Vu P g 0 false num den 0 e').2.2.1=e∧(Vu P g 0 false num den 0 e').2.2.2.1=m)↔inI n (fB g m lead) (num*2^i) (den*2^j):=by
 obtain ⟨u',hu'⟩ : ∃u',u'=fU P g e':=⟨_,rfl⟩
 obtain ⟨K,al,al',ep,lm,k1,k2,k3,k4,k5,k6⟩ : ∃K al al' ep lm:Nat,(al:Int)=u+K∧(al':Int)=u'+K∧(ep:Int)=e'+K∧(lm:Int)=lead+K∧2≤al∧i≤K :=
  ⟨u.natAbs+u'.natAbs+e'.natAbs+lead.natAbs+i+2,(u+(u.natAbs+u'.natAbs+e'.natAbs+lead.natAbs+i+2:Nat)).toNat,(u'+(u.natAbs+u'.natAbs+e'.natAbs+lead.natAbs+i+2:Nat)).toNat,(e'+(u.natAbs+u'.natAbs+e'.natAbs+lead.natAbs+i+2:Nat)).toNat,(lead+(u.natAbs+u'.natAbs+e'.natAbs+lead.natAbs+i+2:Nat)).toNat,by omega,by omega,by omega,by omega,by omega,by omega⟩
 obtain ⟨X,hX⟩ : ∃X,X=num*2^K:=⟨_,rfl⟩
 obtain ⟨B,hB⟩ : ∃B,B=den*2^(al-2):=⟨_,rfl⟩
 have hB0:0<B:=by rw [hB];exact Nat.mul_pos hden (Nat.pow_pos (by decide))
 have hsc:inI n (fB g m lead) (num*2^i) (den*2^j)↔inI n (fB g m lead) X B:=by
  rw [←E4 (c:=2^(K-i)) (Nat.pow_pos (by decide)),Nat.mul_assoc,←Nat.pow_add,Nat.mul_assoc,←Nat.pow_add,hX,hB,show i+(K-i)=K from by omega,show j+(K-i)=al-2 from by omega]
 rw [hsc]
 obtain ⟨x1,x2⟩:=hE ep K (by omega)
 rw [←hX] at x1 x2
 obtain ⟨c1,c2⟩:=yB (num:=num) (den:=den) (i:=K) (j:=al') (d:=0-u') (by omega)
 rw [←hX] at c1 c2
 obtain ⟨N,hN⟩ : ∃N,N=upN 0 false (X/(den*2^al')) (Y6 (X%(den*2^al')) (den*2^al')):=⟨_,rfl⟩
 have hNf:fN 0 false num den (0-fU P g e')=N:=by rw [hN,c1,c2,←hu'];rfl
 have hD0:0<den*2^al':=Nat.mul_pos hden (Nat.pow_pos (by decide))
 have hni:=fun n'=>near_iff (A:=X) (n:=n') hD0 false
 rw [←hN] at hni
 have hNge:X/(den*2^al')≤N:=by rw [hN];exact (upN_le 0 false _ _).1
 have hres:((Vu P g 0 false num den 0 e').1=1∧(Vu P g 0 false num den 0 e').2.2.1=e∧(Vu P g 0 false num den 0 e').2.2.2.1=m)↔(e'≤g ∧ ∃k:Nat,e=u'+k∧N=m*2^k):=by
  unfold Vu
  rw [hNf,←hu']
  have hov:(B9 P g 0 false).1=2:=rfl
  constructor
  ·intro h
   split at h
   ·rw [hov] at h;omega
   ·next h1 =>
    split at h
    ·exact absurd h.1 (by decide)
    ·next h2 =>
     refine ⟨by omega,(trN_form (by omega) hm hm0).1 h.2⟩
  ·rintro ⟨h1,k,h2,h3⟩
   have hmb:=bl_ub hm0
   have hN0:0<N:=by rw [h3];exact Nat.mul_pos hm0 (Nat.pow_pos (by decide))
   have hlt:N<2^(g+1-u').toNat:=by
    have h4:N<2^(blN m+k):=by rw [h3,Nat.pow_add];exact (Nat.mul_lt_mul_right (Nat.pow_pos (by decide))).2 hmb
    exact Nat.lt_of_lt_of_le h4 (Nat.pow_le_pow_right (by decide) (by omega))
   rw [if_neg (by omega),if_neg (by omega)]
   exact ⟨rfl,(trN_form hN0 hm hm0).2 ⟨k,h2,h3⟩⟩
 rw [hres]
 have hn0:0<n:=by rw [hn];exact Nat.mul_pos hm0 (Nat.pow_pos (by decide))
 have hb:fB g m lead≤4*n:=by unfold fB;split <;> omega
 have h4B:den*2^al=4*B:=pow4 k5 hB
 rw [inI_iff hb]
 have hmb1:2^(blN m-1)≤m∧1≤blN m:=U3 hm0
 unfold fU at hu hu'
 obtain ⟨q,hq⟩ : ∃q:Nat,P=q+1:=⟨(P-1).toNat,by omega⟩
 have hPq:P.toNat=q+1:=by omega
 have hfull:1-g≤lead→2^q≤n∧(m=1→n=2^q):=fun h=>by
  have h1:=fU_q hl hu hue hq hmb1.2 h
  refine ⟨?_,fun h2=>?_⟩
  ·rw [hn,←h1,Nat.pow_add,Nat.mul_comm]
   exact Nat.mul_le_mul_right _ hmb1.1
  ·have:blN m=1:=by rw [h2];decide
   rw [this] at h1
   rw [hn,h2,Nat.one_mul,show (e-u).toNat=q from h1]
 have hone:n=2^q→m≠1→1-g≤lead→False:=fun h1 h2 h3=>by
  have h4:=fU_q hl hu hue hq hmb1.2 h3
  rw [hn,←h4,Nat.pow_add,Nat.mul_comm] at h1
  have h5:=Nat.eq_of_mul_eq_mul_left (Nat.pow_pos (by decide)) h1
  obtain ⟨c,hc⟩:=Uv hm0
  rw [hm,Nat.pow_zero,Nat.mul_one] at hc
  rcases Nat.eq_zero_or_pos (blN m-1) with h6|h6
  ·rw [h6,Nat.pow_zero] at h5;exact h2 h5
  ·obtain ⟨w,hw⟩ : ∃w,blN m-1=w+1:=⟨blN m-1-1,by omega⟩
   rw [hw,Nat.pow_succ] at h5
   omega
 have hp : ∀a b:Nat,a≤b→den*2^a≤den*2^b:=fun a b h=>Nat.mul_le_mul_left _ (Nat.pow_le_pow_right (by decide) h)
 have hqq:den*2^(al+q)=4*(2^q*B):=by
  rw [Nat.pow_add,←Nat.mul_assoc,h4B,Nat.mul_assoc,Nat.mul_comm B]
 have hqq1:den*2^(al+q+1)=8*(2^q*B):=by
  rw [Nat.pow_succ,←Nat.mul_assoc,hqq];omega
 have hnB1:n*B+B≤2*(2^q*B):=by
  rw [←Nat.succ_mul,←Nat.mul_assoc]
  refine Nat.mul_le_mul_right B ?_
  rw [hPq,Nat.pow_succ] at hnP
  omega
 obtain ⟨R,hR⟩ : ∃R,R=n*B:=⟨_,rfl⟩
 obtain ⟨Y,hY⟩ : ∃Y,Y=2^q*B:=⟨_,rfl⟩
 rw [←hY] at hqq hqq1 hnB1
 rw [←hR] at hnB1 ⊢
 have hnP2:n<2*2^q:=by rw [hPq,Nat.pow_succ] at hnP;omega
 have hlast:al'=al-1→den*2^al'=2*B:=fun h=>by
  have h2:den*2^(al-1)*2=4*B:=by rw [Nat.mul_assoc,←Nat.pow_succ,show (al-1).succ=al from by omega,h4B]
  rw [h];omega
 clear hsc hN c1 c2 hNf hres hX hPq hnP hij hE hB k6 hmb1
 rcases Int.lt_trichotomy u' u with hlt|heq|hgt
 ·-- the number lies in a BE binade
  have hlead:1-g<lead:=by omega
  have hel:e'<lead:=by omega
  obtain ⟨f1,f2⟩:=hfull (by omega)
  have hYR:Y≤R:=by rw [hY,hR];exact Nat.mul_le_mul_right B f1
  obtain ⟨k,hk⟩ : ∃k:Nat,e=u'+k:=⟨(e-u').toNat,by omega⟩
  have hn':m*2^k=n*2^(al-al'):=by
   rw [hn,Nat.mul_assoc,←Nat.pow_add]
   congr 2
   omega
  have hD':m*2^k*(den*2^al')=4*R:=by
   rw [hn',hR,Nat.mul_left_comm,Nat.mul_assoc n,←Nat.pow_add,show al-al'+al'=al from by omega,Nat.mul_left_comm,h4B,Nat.mul_left_comm]
  have hev:m*2^k%2=0:=by
   rw [hn',show al-al'=(al-al'-1)+1 from by omega,Nat.pow_succ,←Nat.mul_assoc,Nat.mul_mod_left]
  have hX1:X<4*Y:=by
   have:=hp (ep+1) (al+q) (by omega)
   omega
  have hN':(e'≤g ∧ ∃k:Nat,e=u'+k∧N=m*2^k)↔N=m*2^k:=by
   constructor
   ·rintro ⟨_,k',h1,h2⟩
    rw [h2,show k'=k from by omega]
   ·intro h
    exact ⟨by omega,k,hk,h⟩
  rw [hN',hni,hD',hev]
  have hDD:den*2^al'≤2*B:=by
   have h1:=hp al' (al-1) (by omega)
   have h2:den*2^(al-1)*2=4*B:=by rw [Nat.mul_assoc,←Nat.pow_succ,show (al-1).succ=al from by omega,h4B]
   omega
  obtain ⟨D,hD⟩ : ∃D,D=den*2^al':=⟨_,rfl⟩
  rw [←hD] at hDD hD0 ⊢
  by_cases hm1:m=1
  ·have hb1:fB g m lead=1:=by unfold fB;rw [if_pos ⟨hm1,hlead⟩]
   have hnq:=f2 hm1
   have hRY:R=Y:=by rw [hR,hY,hnq]
   have hne:n%2=0:=by
    rw [hnq,show q=(q-1)+1 from by omega,Nat.pow_succ,Nat.mul_mod_left]
   rw [hb1,hne]
   by_cases he:e'=lead-1
   ·have hD2:D=2*B:=by rw [hD];exact hlast (by omega)
    clear hp hni hlast hn' hD' hk hn hl hu hu' hqq hqq1 h4B x1 x2 hD
    omega
   ·have hX2:X<2*Y:=by
     have h1:=hp (ep+2) (al+q) (by omega)
     rw [show ep+2=(ep+1)+1 from by omega,Nat.pow_succ,←Nat.mul_assoc] at h1
     omega
    clear hp hni hlast hn' hD' hk hn hl hu hu' hqq hqq1 h4B x1 x2 hD
    have hBY:B≤Y:=by rw [hY];exact Nat.le_mul_of_pos_left _ (Nat.pow_pos (by decide))
    omega
  ·have hb2:fB g m lead=2:=by unfold fB;rw [if_neg (fun h=>hm1 h.1)]
   have hnq:2^q+1≤n:=by
    rcases Nat.lt_or_ge (2^q) n with h|h
    ·exact h
    ·exact (hone (by omega) hm1 (by omega)).elim
   have hYB:Y+B≤R:=by
    rw [hY,hR,←Nat.succ_mul]
    exact Nat.mul_le_mul_right B hnq
   rw [hb2]
   omega
 ·-- the same step
  have hal:al'=al:=by omega
  have heg:e'≤g:=by omega
  have hN':(e'≤g ∧ ∃k:Nat,e=u'+k∧N=m*2^k)↔N=n:=by
   constructor
   ·rintro ⟨_,k,h1,h2⟩
    rw [h2,hn,show (e-u).toNat=k from by omega]
   ·intro h
    exact ⟨heg,(e-u).toNat,by omega,by rw [h,hn]⟩
  rw [hal,h4B] at hni
  have hn4:n*(4*B)=4*R:=by rw [hR,Nat.mul_left_comm]
  rw [hN',hni,hn4]
  by_cases hm1:m=1∧1-g<lead
  ·have hb1:fB g m lead=1:=by unfold fB;rw [if_pos hm1]
   have hnq:=(hfull (by omega)).2 hm1.1
   have hRY:R=Y:=by rw [hR,hY,hnq]
   have hX1:4*Y≤X:=by
    have:=hp (al+q) ep (by omega)
    omega
   rw [hb1]
   omega
  ·have hb2:fB g m lead=2:=by unfold fB;rw [if_neg hm1]
   rw [hb2]
   omega
 ·-- the number lies in a higher binade
  have h1:1-g<e':=by omega
  have hX1:8*Y≤X:=by
   have:=hp (al+q+1) ep (by omega)
   omega
  have hb3:fB g m lead*B≤2*B:=Nat.mul_le_mul_right B (by unfold fB;split <;> omega)
  constructor
  ·rintro ⟨_,k,h2,h3⟩
   exfalso
   have h4:n=N*2^(al'-al):=by
    rw [hn,h3,Nat.mul_assoc,←Nat.pow_add]
    congr 2
    omega
   have h5:2^q≤N:=by
    have h6:2^q≤X/(den*2^al'):=by
     rw [Nat.le_div_iff_mul_le hD0,Nat.mul_left_comm,←Nat.pow_add]
     have:=hp (q+al') ep (by omega)
     omega
    omega
   have h7:N*2^1≤n:=by
    rw [h4]
    exact Nat.mul_le_mul_left _ (Nat.pow_le_pow_right (by decide) (by omega))
   omega
  ·intro h
   exfalso
   omega
def IsA (num den:Nat) (a:Int):Prop:=∀i j:Nat,(i:Int)-j=a→den*10^i≤num*10^j∧num*10^j<den*10^(i+1)
theorem isA_of {num den i j:Nat} {a:Int} (he:(i:Int)-j=a) (h1:den*10^i≤num*10^j) (h2:num*10^j<den*10^(i+1)):IsA num den a:=by
 intro i' j' h'
 obtain ⟨c,d,hi,hj⟩ : ∃c d,i'+d=i+c∧j'+d=j+c:=⟨i',i,by omega,by omega⟩
 have hc:0<10^c:=Nat.pow_pos (by decide)
 have hd:0<10^d:=Nat.pow_pos (by decide)
 constructor
 ·refine Nat.le_of_mul_le_mul_right ?_ hd
  rw [Nat.mul_assoc,Nat.mul_assoc,←Nat.pow_add,←Nat.pow_add,hi,hj,Nat.pow_add,Nat.pow_add,←Nat.mul_assoc,←Nat.mul_assoc]
  exact Nat.mul_le_mul_right _ h1
 ·refine Nat.lt_of_mul_lt_mul_right (a:=10^d) ?_
  rw [Nat.mul_assoc,Nat.mul_assoc,←Nat.pow_add,←Nat.pow_add,show i'+1+d=i+1+c from by omega,hj,Nat.pow_add,Nat.pow_add,←Nat.mul_assoc,←Nat.mul_assoc]
  exact (Nat.mul_lt_mul_right hc).2 h2
theorem HH {num den:Nat} {e e':Int} (h:IsA num den e) (h':IsA num den e'):e=e':=by
 have key : ∀ {a b:Int},IsA num den a→IsA num den b → ¬a<b:=fun {a b} ha hb hlt=>by
  obtain ⟨j,i,hij,i',hij'⟩ : ∃j i:Nat,(i:Int)-j=a ∧ ∃i':Nat,(i':Int)-j=b:=⟨(-a).toNat,(a+(-a).toNat).toNat,by omega,(b+(-a).toNat).toNat,by omega⟩
  have h1:=(ha i j hij).2
  have h2:=(hb i' j hij').1
  have h3:den*10^(i+1)≤den*10^i':=Nat.mul_le_mul_left _ (Nat.pow_le_pow_right (by decide) (by omega))
  omega
 rcases Int.lt_trichotomy e e' with h1|h1|h1
 ·exact absurd h1 (key h h')
 ·exact h1
 ·exact absurd h1 (key h' h)
theorem isA_hasD {num den D:Nat} (hd:0<den) (h:EB (num/den) D):IsA num den (D-1):=by
 obtain ⟨h1,h2,h3⟩:=h
 refine isA_of (i:=D-1) (j:=0) (by omega) ?_ ?_
 ·rw [Nat.pow_zero,Nat.mul_one,Nat.mul_comm,←Nat.le_div_iff_mul_le hd];exact h2
 ·rw [Nat.pow_zero,Nat.mul_one,show D-1+1=D from by omega,Nat.mul_comm,←Nat.div_lt_iff_lt_mul hd];exact h3
theorem isA_shift {num den k:Nat} {a:Int} (h:IsA (num*10^k) den a):IsA num den (a-k):=fun i j hij=>by
 have:=h (i+k) j (by omega)
 rw [Nat.mul_right_comm,Nat.pow_add,←Nat.mul_assoc,show i+k+1=i+1+k from by omega,Nat.pow_add,←Nat.mul_assoc] at this
 have hp:0<10^k:=Nat.pow_pos (by decide)
 exact ⟨Nat.le_of_mul_le_mul_right this.1 hp,Nat.lt_of_mul_lt_mul_right this.2⟩
theorem isA_ex {num den:Nat} (hn:0<num) (hd:0<den) : ∃a,IsA num den a:=by
 have hq:0<num*10^den/den:=Nat.div_pos (Nat.le_trans (Nat.le_of_lt (Vv den)) (Nat.le_mul_of_pos_left _ hn)) hd
 obtain ⟨D,hD⟩:=KK _ hq
 exact ⟨_,isA_shift (isA_hasD hd hD)⟩
def ctA (num den:Nat) (s:Int):Nat:=num*10^(-s).toNat/(den*10^s.toNat)
def cxA (num den:Nat) (s:Int):Int:=Y6 (num*10^(-s).toNat%(den*10^s.toNat)) (den*10^s.toNat)
theorem yC {A D c:Nat} (hc:0<c):A*c/(D*c)=A/D∧Y6 (A*c%(D*c)) (D*c)=Y6 (A%D) D :=
 ⟨Nat.mul_div_mul_right _ _ hc,by rw [Nat.mul_mod_mul_right,rstN_mul hc]⟩
theorem cutA_eq {num den i j:Nat} {s:Int} (h:(j:Int)-i=s):num*10^i/(den*10^j)=ctA num den s∧Y6 (num*10^i%(den*10^j)) (den*10^j)=cxA num den s:=by
 obtain ⟨c,hi,hj⟩ : ∃c,i=(-s).toNat+c∧j=s.toNat+c:=⟨i-(-s).toNat,by omega,by omega⟩
 unfold ctA cxA
 rw [hi,hj,Nat.pow_add,Nat.pow_add,←Nat.mul_assoc,←Nat.mul_assoc]
 exact yC (Nat.pow_pos (by decide))
def shU (u s:Int):Nat:=10^s.toNat*2^(2-u).toNat
def shW (u s:Int):Nat:=10^(-s).toNat*2^(u-2).toNat
theorem shU_pos (u s:Int):0<shU u s:=Nat.mul_pos (Nat.pow_pos (by decide)) (Nat.pow_pos (by decide))
theorem shW_pos (u s:Int):0<shW u s:=Nat.mul_pos (Nat.pow_pos (by decide)) (Nat.pow_pos (by decide))
def Zq (m:Nat) (e:Int):Nat:=m*2^e.toNat
def Zy (e:Int):Nat:=2^(-e).toNat
theorem V3 (e:Int):0<Zy e:=Nat.pow_pos (by decide)
theorem num_unit {m:Nat} {e u:Int} (hue:u≤e):Zq m e*2^(2-u).toNat=4*(m*2^(e-u).toNat)*2^(u-2).toNat*Zy e:=by
 unfold Zq Zy
 rw [show 4*(m*2^(e-u).toNat)=m*2^(e-u).toNat*2^2 from by omega]
 simp only [Nat.mul_assoc,←Nat.pow_add]
 congr 2
 omega
theorem q_eq {m:Nat} {e u s:Int} (hue:u≤e):4*(m*2^(e-u).toNat)*shW u s/shU u s=ctA (Zq m e) (Zy e) s∧Y6 (4*(m*2^(e-u).toNat)*shW u s%shU u s) (shU u s)=cxA (Zq m e) (Zy e) s:=by
 have h:=num_unit (m:=m) hue
 unfold ctA cxA
 obtain ⟨n,hn⟩ : ∃n,n=4*(m*2^(e-u).toNat):=⟨_,rfl⟩
 obtain ⟨D,hD⟩ : ∃D,D=Zy e:=⟨_,rfl⟩
 obtain ⟨N,hN⟩ : ∃N,N=Zq m e:=⟨_,rfl⟩
 have hD0:0<D:=by rw [hD];exact V3 e
 rw [←hn,←hD,←hN] at h
 rw [←hn,←hD,←hN]
 obtain ⟨a1,a2⟩:=yC (A:=n*shW u s) (D:=shU u s) hD0
 obtain ⟨b1,b2⟩:=yC (A:=N*10^(-s).toNat) (D:=D*10^s.toNat) (c:=2^(2-u).toNat) (Nat.pow_pos (by decide))
 have e1:N*10^(-s).toNat*2^(2-u).toNat=n*shW u s*D:=by
  rw [Nat.mul_right_comm,h]
  unfold shW
  simp only [Nat.mul_assoc,Nat.mul_comm,Nat.mul_left_comm]
 have e2:D*10^s.toNat*2^(2-u).toNat=shU u s*D:=by
  unfold shU
  simp only [Nat.mul_assoc,Nat.mul_comm,Nat.mul_left_comm]
 rw [e1,e2] at b1 b2
 exact ⟨a1.symm.trans b1,a2.symm.trans b2⟩
def inK (n b:Nat) (u s:Int) (k:Nat):Prop:=inI n b (k*shU u s) (shW u s)
instance (n b:Nat) (u s:Int) (k:Nat):Decidable (inK n b u s k):=inferInstanceAs (Decidable (inI _ _ _ _))
def DC (n b:Nat) (u s:Int) (q:Nat):Bool:=decide (q≠0∧inK n b u s q)
def C4 (n b:Nat) (u s:Int) (q:Nat) (x:Int):Bool:=decide (x≠0∧inK n b u s (q+1))
def shUp (q:Nat) (x:Int):Bool:=decide (x=3∨x=2∧q%2=1)
def shC (n b:Nat) (u s:Int) (q:Nat) (x:Int):Option Nat :=
 if (DC n b u s q && !(C4 n b u s q x&&shUp q x))=true then some q else if C4 n b u s q x=true then some (q+1) else none
theorem ctA_ten {num den:Nat} {s:Int}:ctA num den (s+1)=ctA num den s/10:=by
 obtain ⟨i,j,h⟩ : ∃i j:Nat,(j:Int)-i=s:=⟨(-s).toNat,s.toNat,by omega⟩
 rw [←(cutA_eq (num:=num) (den:=den) h).1,←(cutA_eq (num:=num) (den:=den) (i:=i) (j:=j+1) (s:=s+1) (by omega)).1,Nat.div_div_eq_div_mul,Nat.pow_succ,Nat.mul_assoc]
theorem inK_ten {n b k:Nat} {u s:Int}:inK n b u (s+1) k↔inK n b u s (10*k):=by
 unfold inK
 obtain ⟨c,d,h1,h2,h3,h4⟩ : ∃c d:Nat,0<c∧0<d∧k*shU u (s+1)*c=10*k*shU u s*d∧shW u (s+1)*c=shW u s*d:=by
  by_cases h:0≤s
  ·refine ⟨1,1,by decide,by decide,?_,?_⟩
   ·unfold shU
    rw [show (s+1).toNat=s.toNat+1 from by omega,Nat.pow_succ]
    simp only [Nat.mul_one,Nat.mul_assoc,Nat.mul_comm,Nat.mul_left_comm]
   ·unfold shW
    rw [show (-(s+1)).toNat=0 from by omega,show (-s).toNat=0 from by omega]
  ·refine ⟨10,1,by decide,by decide,?_,?_⟩
   ·unfold shU
    rw [show (s+1).toNat=0 from by omega,show s.toNat=0 from by omega,Nat.mul_one,Nat.mul_comm 10,Nat.mul_right_comm]
   ·unfold shW
    rw [show (-s).toNat=(-(s+1)).toNat+1 from by omega,Nat.pow_succ,Nat.mul_one,Nat.mul_right_comm]
 rw [←E4 h1,h3,h4,E4 h2]
theorem sh_ten {n b num den:Nat} {u s:Int} (h:shC n b u (s+1) (ctA num den (s+1)) (cxA num den (s+1))=none) (h1:DC n b u s (ctA num den s)=true):ctA num den s%10≠0:=by
 intro h0
 unfold DC at h1
 obtain ⟨h2,h3⟩:=of_decide_eq_true h1
 have e:ctA num den s=10*ctA num den (s+1):=by rw [ctA_ten];omega
 rw [e] at h3
 have h4:=inK_ten.2 h3
 have h5:DC n b u (s+1) (ctA num den (s+1))=true:=decide_eq_true ⟨by omega,h4⟩
 unfold shC at h
 rw [h5,Bool.true_and] at h
 cases h6:C4 n b u (s+1) (ctA num den (s+1)) (cxA num den (s+1)) with
 | true =>
   rw [h6] at h
   split at h
   ·cases h
   ·rw [if_pos rfl] at h;cases h
 | false =>
   rw [h6,Bool.false_and,if_pos (by rfl)] at h
   cases h
theorem ctA_one {num den:Nat} {a:Int} (hd:0<den) (h:IsA num den a):1≤ctA num den a∧ctA num den a≤9:=by
 obtain ⟨h1,h2⟩:=h a.toNat (-a).toNat (by omega)
 have hp:0<den*10^a.toNat:=Nat.mul_pos hd (Nat.pow_pos (by decide))
 unfold ctA
 constructor
 ·rw [Nat.le_div_iff_mul_le hp,Nat.one_mul];exact h1
 ·rw [Nat.pow_succ,←Nat.mul_assoc] at h2
  have h3:num*10^(-a).toNat/(den*10^a.toNat)<10:=by rw [Nat.div_lt_iff_lt_mul hp,Nat.mul_comm 10];exact h2
  omega
theorem EJ {num den d:Nat} {a:Int} (hd:0<den) (h:IsA num den a):EB (ctA num den (a-d)) (d+1):=by
 obtain ⟨h1,h2⟩:=h ((a-d).toNat+d) (-(a-d)).toNat (by omega)
 have hp:0<den*10^(a-d).toNat:=Nat.mul_pos hd (Nat.pow_pos (by decide))
 unfold ctA
 refine ⟨by omega,?_,?_⟩
 ·rw [Nat.le_div_iff_mul_le hp,Nat.add_sub_cancel]
  refine Nat.le_trans (Nat.le_of_eq ?_) h1
  rw [Nat.pow_add]
  simp only [Nat.mul_assoc,Nat.mul_comm,Nat.mul_left_comm]
 ·rw [Nat.div_lt_iff_lt_mul hp]
  refine Nat.lt_of_lt_of_eq h2 ?_
  rw [show (a-d).toNat+d+1=(a-d).toNat+(d+1) from by omega,Nat.pow_add]
  simp only [Nat.mul_assoc,Nat.mul_comm,Nat.mul_left_comm]
theorem sh_end {m n b:Nat} {e u a:Int} (hue:u≤e) (hn:n=m*2^(e-u).toNat) (hnP:n<2^256) (hb:1≤b) (hn0:0<n) (hA:IsA (Zq m e) (Zy e) a):DC n b u (a-79) (ctA (Zq m e) (Zy e) (a-79))=true:=by
 have hdp:=V3 e
 have hk:10^79≤ctA (Zq m e) (Zy e) (a-79):=(EJ (d:=79) hdp hA).2.1
 obtain ⟨s,hs⟩ : ∃s,s=a-79:=⟨_,rfl⟩
 rw [←hs] at hk ⊢
 refine decide_eq_true ⟨Nat.ne_of_gt (Nat.lt_of_lt_of_le (by decide) hk),?_⟩
 have h1:=(hA (s.toNat+79) (-s).toNat (by omega)).1
 have h2:=num_unit (m:=m) hue
 rw [←hn] at h2
 have h3:shU u s*10^79*Zy e≤4*n*shW u s*Zy e:=by
  have h4:=Nat.mul_le_mul_right (2^(2-u).toNat) h1
  rw [Nat.mul_right_comm (Zq m e),h2] at h4
  unfold shU shW
  rw [Nat.pow_add] at h4
  simp only [Nat.mul_assoc,Nat.mul_comm,Nat.mul_left_comm] at h4 ⊢
  exact h4
 have h5:=Nat.le_of_mul_le_mul_right h3 hdp
 have h6:shU u s≤shW u s:=by
  have h7:4*n*shW u s≤10^79*shW u s:=Nat.mul_le_mul_right _ (Nat.le_trans (Nat.mul_le_mul_left 4 (Nat.le_of_lt hnP)) (by decide))
  rw [Nat.mul_comm (shU u s)] at h5
  exact Nat.le_of_mul_le_mul_left (Nat.le_trans h5 h7) (by decide)
 obtain ⟨q1,q2⟩:=q_eq (m:=m) (s:=s) hue
 rw [←hn] at q1
 rw [←q1]
 have hU:=shU_pos u s
 have hS:=shW_pos u s
 have h8:=Nat.div_add_mod (4*n*shW u s) (shU u s)
 have h9:=Nat.mod_lt (4*n*shW u s) hU
 unfold inK inI
 left
 rw [Nat.mul_comm (shU u s)] at h8
 obtain ⟨k,hk'⟩ : ∃k,k=4*n*shW u s/shU u s*shU u s:=⟨_,rfl⟩
 rw [←hk'] at h8 ⊢
 rw [Nat.sub_mul,Nat.add_mul]
 have h10:=Nat.mul_le_mul_right (shW u s) hb
 rw [Nat.one_mul] at h10
 have h11:1*shW u s≤4*n*shW u s:=Nat.mul_le_mul_right _ (by omega)
 omega
set_option maxHeartbeats 1000000 in
theorem A6 (B b g m c:Nat) (bs news:List Value) (w:World) (h:Lib.IsBuilder 104 5 B b bs w) (hl:news.length=m) (hnews : ∀j u,news[j]?=some u→w.cell? ⟨g,j,none⟩=some u) (hg:g≠b) (h1 : ∀u∈news,u.oneCell'=true)
 (hlen:bs.length+m≤140737488355328) (hBw:B≤w.heap.size) :
 Calls Tryz.prog 135 #[.pointer (some ⟨b,0,none⟩),.slice (some ⟨g,0,none⟩) m c] w fun e w'=>e = .returned (.tuple #[.int .i64 m,.nilIface])∧Lib.BuilderAt 104 5 B b (.pointer (some ⟨b,0,none⟩)) (bs++news) w'∧Below B w w':=by
 have cC:Calls Tryz.prog 141 #[.pointer (some ⟨b,0,none⟩)] w fun e w'=>e = .returned (.tuple #[])∧Lib.BuilderAt 104 5 B b (.pointer (some ⟨b,0,none⟩)) bs w'∧Below B w w' ∧ ∀j u,news[j]?=some u→w'.cell? ⟨g,j,none⟩=some u:=by
  rcases h with h|h
  ·refine Calls.mono (Any.Builder_copyCheck_fresh (P:=Tryz.prog) (ρ:=Tryz.lays167_ren) {Tryz.lays167 with} Tryz.Builder_Extra_167.toX72 b w h.cell0 h.shape h.frozen0) ?_
   rintro e w' ⟨rfl,rfl⟩
   refine ⟨rfl,h.used _,(Below.refl B w).setCell (p:=⟨b,0,none⟩) h.1 _,fun j u hj=>?_⟩
   rw [World.cell?_setCell_other _ _ _ _ (by simp [hg])]
   exact hnews j u hj
  ·refine Calls.mono (Any.Builder_copyCheck_used (P:=Tryz.prog) (ρ:=Tryz.lays167_ren) {Tryz.lays167 with} Tryz.Builder_Extra_167.toX72 b w h.cell0) ?_
   rintro e w' ⟨rfl,rfl⟩
   exact ⟨rfl,h,Below.refl B _,hnews⟩
 obtain ⟨i0,hi,hz0,hz1,hz2⟩:=info_parts Tryz.Builder_Extra_167.infoByte
 have hne5:=Tryz.Builder_Extra_167.neB5
 clear h hnews
 go_enter Tryz.func135,Tryz.ntmps135
 go_wp2_with fail
 refine cC.mono ?_
 rintro e w1 ⟨rfl,h1',hb1,hnews1⟩
 obtain ⟨hB,v,hbk,hown,hne⟩:=h1'
 have c0:w1.cell? ⟨b,0,none⟩=some (.pointer (some ⟨b,0,none⟩)):=by rw [Lib.cell_of_heap hbk];rfl
 have c1:w1.cell? ⟨b,1,none⟩=some v:=by rw [Lib.cell_of_heap hbk];rfl
 go_wp2_with (at_builtin;refine wpList_append_own _ rfl _ _ 102 rfl B 5 i0 (.int .u8 0) 1 1 Tryz.underlying102 hi hz0 hz1 hz2 rfl (by decide) _ _ _ rfl hown ⟨g,0,none⟩ m c news rfl (by omega) ?c0 h1 ?c3 ?c4 ?c5 ?_)
 case c0=>intro j u hj;rw [YK,Nat.zero_add];exact hnews1 j u hj
 case c3=>unfold maxLen;omega
 case c4=>omega
 case c5=>have:=hb1.size;omega
 intro v' w2 hown' hgrow _
 have hlt:b<w1.heap.size:=by
  rcases Nat.lt_or_ge b w1.heap.size with h'|h'
  ·exact h'
  ·simp [Array.getElem?_eq_none h'] at hbk
 have hb2:w2.heap[b]?=some (.cells #[.pointer (some ⟨b,0,none⟩),v] 104 (0,0)):=by
  rw [hgrow.block b hlt (fun e=>hne e.symm)]
  exact hbk
 have d0:w2.cell? ⟨b,0,none⟩=some (.pointer (some ⟨b,0,none⟩)):=by rw [Lib.cell_of_heap hb2];rfl
 have d1:w2.cell? ⟨b,1,none⟩=some v:=by rw [Lib.cell_of_heap hb2];rfl
 have f1:w2.frozen? ⟨b,1,none⟩=false:=Lib.frozen_of_heap hb2 1
 obtain ⟨ao,n',cap,rfl⟩ : ∃ao n' cap,v' = .slice ao n' cap:=by
  rcases hown'.2 with ⟨hv,_⟩|⟨g,cap,cur,hv,_⟩
  ·exact ⟨_,_,_,hv⟩
  ·exact ⟨_,_,_,hv⟩
 go_wp2
 go_ret2
 refine ⟨rfl,?_,?_⟩
 ·exact Lib.BuilderAt.put (T:=104) (e:=5) hB hb2 (bs':=bs++news) (by simpa [hl] using hown') hne5
 ·exact (hb1.grown hgrow (by have:=hb1.size;omega) (fun k hk=>(hown.lt k hk).1)).setCell (p:=⟨b,1,none⟩) hB _
def WV (w:World) (l:List Int) (v:Value):Prop:=∃cs,Rep w (fun b=>b<w.heap.size∧True) (QZ l) cs∧v=(QZ l).toVal cs
theorem WV.shape {w:World} {l:List Int} {v:Value} (h:WV w l v) : ∃A c,v = .slice A l.length c:=by
 obtain ⟨cs,h1,rfl⟩:=h
 unfold QZ at h1 ⊢
 rw [Rep] at h1
 rcases h1 with ⟨h2,A,c,rfl⟩|⟨b,o,c,_,_,rfl,_⟩
 ·have:l=[]:=by simpa using h2
  subst this
  exact ⟨A,c,rfl⟩
 ·exact ⟨_,c,by rw [List.length_map];rfl⟩
theorem WV.below {w w':World} {l:List Int} {v:Value} (h:WV w l v) (hb:Below w.heap.size w w'):WV w' l v:=by
 obtain ⟨cs,h1,rfl⟩:=h
 refine ⟨cs,Rep.mono (fun b o v hb' hv=>?_) (fun b hb'=>⟨Nat.lt_of_lt_of_le hb'.1 hb.size,trivial⟩) h1,rfl⟩
 rw [←hv]
 exact World.cell?_of_block (w:=w) (a:=⟨b,o,none⟩) (hb.block b hb'.1)
theorem WV.of {w:World} {μ:Sites} {cx:Cx} {nw:Bool} {mem:Nat→Blk} {l:List Int} {v:Value} (h:QJ cx w μ mem (.v nw (QZ l)) v):WV w l v:=by
 rw [QJ] at h
 obtain ⟨cs,h1,h2⟩:=h
 exact ⟨cs,Rep.any h1,h2⟩
def WVB (B:Nat) (w:World) (l:List Int) (v:Value):Prop:=∃cs,Rep w (fun b=>B≤b∧b<w.heap.size) (QZ l) cs∧v=(QZ l).toVal cs
theorem WVB.of {w:World} {μ:Sites} {cx:Cx} {mem:Nat→Blk} {l:List Int} {v:Value} (h:QJ cx w μ mem (.v true (QZ l)) v):WVB cx.B w l v:=by
 rw [QJ] at h
 obtain ⟨cs,h1,h2⟩:=h
 refine ⟨cs,Rep.mono (fun _ _ _ _ hv=>hv) (fun b hb=>⟨?_,hb.1⟩) h1,h2⟩
 rcases hb.2.2 with h|h
 ·exact h
 ·cases h.1
theorem WVB.to {B:Nat} {w w':World} {l:List Int} {v:Value} (h:WVB B w l v) (hs:w.heap.size≤w'.heap.size) (hc : ∀b,B≤b→b<w.heap.size→w'.heap[b]?=w.heap[b]?):WV w' l v:=by
 obtain ⟨cs,h1,h2⟩:=h
 refine ⟨cs,Rep.mono (fun b o v hb hv=>?_) (fun b hb=>⟨Nat.lt_of_lt_of_le hb.2 hs,trivial⟩) h1,h2⟩
 rw [←hv]
 exact World.cell?_of_block (w:=w) (a:=⟨b,o,none⟩) (hc b hb.1 hb.2)
theorem grown_of {w w':World} (h:Below w.heap.size w w'):w.grownBy w' none:=⟨h.os,h.tape,h.output,h.size,fun k hk _=>h.block k hk⟩
theorem row_kept {w w':World} {B e:Nat} {v:Value} {n:Nat} {xs:List Value} (h:w.ownsRow B e 1 v n xs) (hb:Below w.heap.size w w'):w'.ownsRow B e 1 v n xs:=by
 refine h.kept (grown_of hb) ?_
 obtain ⟨_,h2⟩:=h
 rcases h2 with ⟨rfl,_⟩|⟨g,cap,cur,rfl,_⟩
 ·exact .inl rfl
 ·exact .inr (by simp [Value.ownBlock])
theorem row_shape {w:World} {B e:Nat} {v:Value} {n:Nat} {xs:List Value} (h:w.ownsRow B e 1 v n xs) : ∃A c,v = .slice A n c∧(n≠0 → ∃g,A=some ⟨g,0,none⟩∧g<w.heap.size ∧ ∀(j:Nat) (u:Value),xs[j]?=some u→w.cell? ⟨g,j,none⟩=some u):=by
 have h0:=h
 obtain ⟨_,h2⟩:=h
 rcases h2 with ⟨rfl,rfl⟩|⟨g,cap,cur,rfl,h3,h4,h5⟩
 ·exact ⟨_,_,rfl,fun h=>absurd rfl h⟩
 ·refine ⟨_,_,rfl,fun _=>⟨g,rfl,(h0.lt g rfl).2,fun j u hj=>?_⟩⟩
  have:=h0.cells rfl j u hj
  rw [YK,Nat.zero_add] at this
  exact this
theorem QU.callsV {P:Program} {f:FuncId} {args:List Arg} {rs:List R} {w:World} (h:QU P f args rs) (hent : ∀vs w,(callFunc f vs).run P w = .ok (.enter f vs) w) {vs:List Value} (hG:GL w) (ha:QF w (fun _=>True) args vs) :
 Calls P f vs.toArray w fun e w'=>∃val μ',e = .returned val∧Below w.heap.size w w'∧QJ {B:=w.heap.size,O:=fun _=>True} w' μ' (Qu (R.mems rs)) (R.res rs) val:=by
 rcases h w _ vs hG ha with ⟨_,h2⟩|⟨v,w',h1,_⟩
 ·refine h2.mono ?_
  rintro e w' ⟨v,μ',rfl,h3,h4,h5,h6⟩
  exact ⟨v,μ',rfl,h3,h6⟩
 ·rw [hent] at h1
  cases h1
theorem Cz {w:World} {l:List Int} {v:Value} {al:List Arg} {vs:List Value} (h:WV w l v) (hr:QF w (fun _=>True) al vs):QF w (fun _=>True) (.v (QZ l)  :: al) (v::vs):=by
 rw [QF]
 exact ⟨_,_,rfl,by rw [Q6];exact h,hr⟩
theorem AC {w:World} {k:IntKind} {n:Int} {al:List Arg} {vs:List Value} (hr:QF w (fun _=>True) al vs):QF w (fun _=>True) (.v (.int k n)  :: al) (.int k n::vs):=by
 rw [QF]
 exact ⟨_,_,rfl,by rw [Q6];exact ⟨[.int k n],by rw [Rep],rfl⟩,hr⟩
theorem Hu {w:World}:QF w (fun _=>True) [] []:=by rw [QF]
theorem trim_calls (l:List Int) (hl:l.length<1000000) (ol:okW l) (v:Value) (w:World) (hG:GL w) (hv:WV w l v) :
 Calls Tryz.prog 133 #[v] w fun e w'=>∃v',e = .returned v'∧WV w' (QX (val l)) v'∧Below w.heap.size w w':=by
 refine ((XZ l hl ol).callsV (enters_of Tryz.func133 (by kernel_rfl) rfl) (vs:=[v]) hG (Cz hv Hu)).mono ?_
 rintro e w' ⟨val,μ',rfl,h1,h2⟩
 exact ⟨_,rfl,WV.of h2,h1⟩
theorem A9 (n:Nat) (hn:(QX n).length<900) (v:Value) (w:World) (hG:GL w) (hv:WV w (QX n) v) :
 Calls Tryz.prog 134 #[v,.int .u64 10000000000000000000] w fun e w'=>∃v',e = .returned (.tuple #[v',.int .u64 ((n%10000000000000000000:Nat):Int)])∧WVB w.heap.size w' (QX (n/10000000000000000000)) v'∧Below w.heap.size w w':=by
 have h:=B4 (QX n) 10000000000000000000 (by omega) (QY _).1 (by decide) (by decide)
 rw [(QY n).2.2] at h
 refine (h.callsV (enters_of Tryz.func134 (by kernel_rfl) rfl) (vs:=[v,.int .u64 10000000000000000000]) hG (Cz hv (AC Hu))).mono ?_
 rintro e w' ⟨val,μ',rfl,h1,h2⟩
 rw [show R.res [R.v true (QZ (QX (n/10000000000000000000))),R.v true (.int .u64 ((n%10000000000000000000:Nat):Int))] = .tup [.v true (QZ (QX (n/10000000000000000000))),.v true (.int .u64 ((n%10000000000000000000:Nat):Int))] from rfl,QJ] at h2
 obtain ⟨vs,rfl,h2⟩:=h2
 rw [Qz] at h2
 obtain ⟨v1,vr,rfl,h3,h4⟩:=h2
 rw [Qz] at h4
 obtain ⟨v2,vr,rfl,h5,h6⟩:=h4
 rw [Qz] at h6
 subst h6
 rw [Qj.1 h5]
 exact ⟨_,rfl,WVB.of h3,h1⟩
def grL (gs:List Nat):List Nat:=gs.flatMap (fxL 19)
theorem grL_snoc (gs:List Nat) (N:Nat) (h:grL gs=fxL (19*gs.length) N):grL (gs++[N/10^(19*gs.length)%10000000000000000000])=fxL (19*(gs.length+1)) N:=by
 unfold grL at h ⊢
 rw [List.flatMap_append,h,Nat.mul_succ,fxL_add,List.flatMap_cons,List.flatMap_nil,List.append_nil,show (10000000000000000000:Nat)=10^19 from rfl,EQ]
def gpB (gs:List Nat) (i:Nat):List UInt8:=(grL (gs.drop i)).reverse.map UInt8.ofNat
theorem gpB_end (gs:List Nat):gpB gs gs.length=[]:=by simp [gpB,grL]
theorem gpB_step (gs:List Nat) (i:Nat) (h:i<gs.length):gpB gs i=gpB gs (i+1)++(fxL 19 (gs.getD i 0)).reverse.map UInt8.ofNat:=by
 unfold gpB grL
 rw [List.drop_eq_getElem_cons h,List.flatMap_cons,List.reverse_append,List.map_append,List.getD_eq_getElem?_getD,List.getElem?_eq_getElem h]
 rfl
theorem gpB_len (gs:List Nat) (i:Nat) (h:i≤gs.length):(gpB gs i).length=19*(gs.length-i):=by
 have key : ∀l:List Nat,(grL l).length=19*l.length:=fun l=>by
  induction l with
  | nil=>rfl
  | cons a l ih=>unfold grL at ih ⊢;rw [List.flatMap_cons,List.length_append,ih,EZ,List.length_cons];omega
 unfold gpB
 rw [List.length_map,List.length_reverse,key,List.length_drop]
theorem fxL_get : ∀(k n i:Nat),i<k→(fxL k n)[i]?=some (48+n/10^i%10)
 | 0,_,_,h=>by omega
 | k+1,n,0,_=>by rw [fxL,List.getElem?_cons_zero,Nat.pow_zero,Nat.div_one]
 | k+1,n,i+1,h=>by rw [fxL,List.getElem?_cons_succ,fxL_get k (n/10) i (by omega),Nat.div_div_eq_div_mul,Nat.pow_succ,Nat.mul_comm 10]
def dgW (z h:Nat):List Value:=List.replicate h (.int .u8 0)++((fxL 19 z).take (19-h)).reverse.map fun c=>Value.int .u8 (c:Nat)
theorem dgW_len (z h:Nat) (hh:h≤19):(dgW z h).length=19:=by
 unfold dgW
 rw [List.length_append,List.length_replicate,List.length_map,List.length_reverse,List.length_take,EZ]
 omega
theorem dgW_step (z h:Nat) (hh:h<19):(dgW z (h+1)).set h (.int .u8 ((48+z/10^(18-h)%10:Nat):Int))=dgW z h:=by
 unfold dgW
 rw [show 19-h=(19-(h+1))+1 from by omega,List.take_add_one,fxL_get 19 z (19-(h+1)) (by omega),show 19-(h+1)=18-h from by omega]
 rw [List.reverse_append,List.map_append,Option.toList,List.reverse_singleton,List.map_singleton,List.replicate_succ',List.append_assoc,List.set_append_right _ _ (by simp),List.length_replicate,Nat.sub_self]
 rfl
theorem dgW_0 (z:Nat):dgW z 0=Lib.byteCells ((fxL 19 z).reverse.map UInt8.ofNat):=by
 unfold dgW Lib.byteCells
 rw [List.replicate_zero,List.nil_append,Nat.sub_zero,List.take_of_length_le (by rw [EZ];exact Nat.le_refl _),List.map_map]
 refine List.map_congr_left fun c hc=>?_
 have key : ∀(k n:Nat),∀c∈fxL k n,c<256:=fun k=>by
  induction k with
  | zero=>intro n c hc;simp [fxL] at hc
  | succ k ih =>
    intro n c hc
    rw [fxL] at hc
    rcases List.mem_cons.1 hc with rfl|hc
    ·omega
    ·exact ih _ c hc
 have h:=key 19 z c (List.mem_reverse.1 hc)
 show Value.int .u8 _=Value.int .u8 _
 simp only [Function.comp,UInt8.toNat_ofNat',Nat.mod_eq_of_lt h]
theorem KC {w:World} {b i:Nat} {cs:List Value} {e:TypeId} {v:Value} (h:w.heap[b]?=some (.cells cs.toArray e (0,0))):(w.setCell ⟨b,i,none⟩ v).heap[b]?=some (.cells (cs.set i v).toArray e (0,0)):=by
 simp [World.setCell,Array.getElem?_modify,h]
theorem World.lt_of_builder {T e B b:Nat} {bs:List Value} {w:World} (h:Lib.IsBuilder T e B b bs w):b<w.heap.size:=by
 have one : ∀p,Lib.BuilderAt T e B b p bs w→b<w.heap.size:=fun p h=>by
  obtain ⟨_,v,hb,_⟩:=h
  exact (Array.getElem?_eq_some_iff.1 hb).1
 rcases h with h|h
 ·exact one _ h
 ·exact one _ h
theorem B5 : ∀k,Lib.trimLeftB (List.replicate k (UInt8.ofNat 48)) 48=[]
 | 0=>rfl
 | k+1=>by
   unfold Lib.trimLeftB
   rw [List.replicate_succ,List.dropWhile_cons,if_pos (by rfl)]
   exact B5 k
theorem Z8 {p:Prop} (h:p):Hid p:=h
theorem grp_bounds {g N X k:Nat} (h0:0<g) (hg:g=N/10^(19*k)) (hN:N<2^(64*X)) (hX:X<900):(QX g).length<900∧0<(QX g).length∧k<1000:=by
 have hle:g≤N:=by rw [hg];exact Nat.div_le_self _ _
 refine ⟨?_,?_,?_⟩
 ·have:=ZU (v:=g) (m:=X) (by rw [Eq];omega)
  omega
 ·rcases Nat.eq_zero_or_pos (QX g).length with h|h
  ·have:=(QY g).2.2
   rw [List.length_eq_zero_iff.1 h] at this
   have e:val []=0:=rfl
   omega
  ·exact h
 ·rcases Nat.lt_or_ge k 1000 with h|h
  ·exact h
  ·exfalso
   have h1:10^(19*k)≤N:=by
    rcases Nat.lt_or_ge N (10^(19*k)) with h2|h2
    ·rw [Nat.div_eq_of_lt h2] at hg;omega
    ·exact h2
   have h2:2^(64*X)≤10^(19*k):=by
    have h3:(2:Nat)^(63*k)≤10^(19*k):=by
     rw [Nat.pow_mul,Nat.pow_mul]
     exact Nat.pow_le_pow_left (by decide) k
    exact Nat.le_trans (Nat.pow_le_pow_right (by decide) (by omega)) h3
   omega
set_option maxHeartbeats 4000000 in
set_option maxRecDepth 1000000 in
theorem A8 (x:List Int) (hx:x.length<900) (ox:okW x) (v:Value) (w:World) (hG:GL w) (hv:WV w x v):Calls Tryz.prog 54 #[v] w fun e w'=>e = .returned (.string ⟨(Qv (val x)).toArray⟩)∧Below w.heap.size w w':=by
 obtain ⟨i0,hi,hz0,hz1,hz2⟩:=info_parts (P:=Tryz.prog) (e:=91) (z:=.int .u64 0) (size:=1) (bytes:=8) (by kernel_rfl)
 have hT:=trim_calls x (by omega) ox v w hG hv
 obtain ⟨N,hN⟩ : ∃N,N=val x:=⟨_,rfl⟩
 have hNl:Hid (N<2^(64*x.length)∧x.length<900):=by
  have:=ZY ox
  rw [Eq] at this
  exact ⟨by rw [hN];exact this,hx⟩
 obtain ⟨X,hX⟩ : ∃X,X=x.length:=⟨_,rfl⟩
 rw [←hX] at hNl
 rw [←hN] at hT ⊢
 clear hX hN hv ox hx
 go_enter Tryz.func54,Tryz.ntmps54
 go_wp2_with fail
 refine hT.mono ?_
 rintro e w1 ⟨v1,rfl,hv1,hb1⟩
 have HB1:Hid (Below w.heap.size w w1):=hb1
 have HG1:Hid (GL w1):=hG.below hb1 (Nat.le_refl _)
 have HV1:Hid (WV w1 (QX N) v1):=hv1
 have hG0:=hG
 clear hT hb1 hv1 hG HG1
 have HG0:Hid (GL w):=hG0
 go_wp2
 go_loopg [0,3] N (fun g x0 x3 wx=>∃gs:List Nat,Hid (g=N/10^(19*gs.length))∧Hid (WV wx (QX g) x0)∧Hid (grL gs=fxL (19*gs.length) N)∧Hid ((∀z∈gs,z<10000000000000000000)∧gs.length≤1000)∧Hid (Below w.heap.size w wx) ∧
  Hid (wx.ownsRow w.heap.size 91 1 x3 gs.length (gs.map fun n=>Value.int .u64 (n:Nat))))
 case atStart=>exact ⟨[],by show N=N/10^0;rw [Nat.pow_zero,Nat.div_one],HV1,rfl,⟨fun _ h=>by simp at h,Nat.zero_le _⟩,HB1,World.ownsRow_nil _ _ _ _⟩
 case round =>
  obtain ⟨gs,Hg,HV,HL,HZ,HB,HO⟩:=hrel
  obtain ⟨A,c,rfl⟩:=HV.out.shape
  have HG:Hid (GL wr):=HG0.out.below HB.out (Nat.le_refl _)
  rcases Nat.eq_zero_or_pos gk with h0|h0
  ·subst h0
   have hd0:(QX 0).length=0:=rfl
   obtain ⟨A3,c3,rfl,hA3⟩:=row_shape HO.out
   have HA3:=Z8 hA3
   obtain ⟨wr',hwr⟩ : ∃W,W=wr:=⟨_,rfl⟩
   subst hwr
   have hkb:gs.length≤1000:=HZ.out.2
   clear hA3
   go_wp2
   go_loopg [6] gs.length (fun g v6 wx=>g≤gs.length∧v6 = .int .i64 ((g:Int)-1)∧Hid (Lib.IsBuilder 104 5 wr'.heap.size wr'.heap.size (Lib.byteCells (gpB gs g)) wx)∧Hid (Below wr'.heap.size wr' wx))
   case atStart =>
    refine ⟨Nat.le_refl _,?_,?_,(Below.refl _ _).alloc (Nat.le_refl _) _⟩
    ·rfl
    ·rw [gpB_end]
     exact Lib.fresh_isBuilder 104 5 wr'
   case round =>
    obtain ⟨hgk,rfl,HBl,HBb⟩:=hrel
    rcases Nat.eq_zero_or_pos gk with h0|h0
    ·subst h0
     have g0 : ¬(0:Int)≤((0:Nat):Int)-1:=by decide
     go_wp2_with fail
     refine (Tryz.Builder_String wr'.heap.size wr'.heap.size (gpB gs 0) _ HBl.out HBb.out.size).mono ?_
     rintro e w5 ⟨rfl,hb5⟩
     have hTL:=Tryz.strings_TrimLeft ⟨(gpB gs 0).toArray⟩ 48 (by decide) w5
     obtain ⟨D,hD⟩ : ∃D,D=Lib.trimLeftB (gpB gs 0) 48:=⟨_,rfl⟩
     have hTL:Calls Tryz.prog 136 #[.string ⟨(gpB gs 0).toArray⟩,.string ⟨#[48]⟩] w5 fun e w'=>e = .returned (.string ⟨D.toArray⟩)∧w'=w5:=by rw [hD];exact hTL
     have hDn:(N=0→D=[])∧(N≠0→D=Qv N∧D≠[]):=by
      have hN0:N<10^(19*gs.length):=by
       have:=Hg.out
       rcases Nat.lt_or_ge N (10^(19*gs.length)) with h|h
       ·exact h
       ·have:=Nat.div_pos h (Nat.pow_pos (by decide));omega
      have e1:gpB gs 0=(fxL (19*gs.length) N).reverse.map UInt8.ofNat:=by unfold gpB;rw [List.drop_zero,HL.out]
      rw [hD,e1]
      refine ⟨fun h=>?_,fun h=>?_⟩
      ·rw [h,fxL_0,List.reverse_replicate,List.map_replicate]
       exact B5 _
      ·have:=decG_zeros h hN0
       refine ⟨this,?_⟩
       unfold Lib.trimLeftB
       rw [this]
       exact decG_ne N
     have HB5:Hid (Below w.heap.size w w5):=by
      have h1:Below w.heap.size w wr:=HB.out.trans ⟨HBb.out.os,HBb.out.tape,HBb.out.output,HBb.out.size,fun k hk=>HBb.out.block k (by have:=HB.out.size;omega)⟩
      exact h1.trans ⟨hb5.os,hb5.tape,hb5.output,hb5.size,fun k hk=>hb5.block k (by have:=HB.out.size;omega)⟩
     have HD:=Z8 hDn
     clear hDn hD hb5
     go_wp2_with fail
     refine hTL.mono ?_
     rintro e w6 ⟨rfl,rfl⟩
     by_cases hN0:N=0
     ·obtain rfl:=HD.out.1 hN0
      have e2:Qv N=[48]:=by rw [hN0];rfl
      go_wp2
      go_ret
      exact ⟨by rw [e2];rfl,HB5⟩
     ·obtain ⟨hD1,hD2⟩:=HD.out.2 hN0
      have hDs : ¬(⟨D.toArray⟩:ByteArray)=⟨#[]⟩:=fun e=>hD2 (by simpa using e)
      go_wp2
      ·go_ret
       exact ⟨rfl,HB5⟩
      ·exfalso
       have h1:(!(Qv N).isEmpty)=false:=by assumption
       rw [←hD1] at h1
       exact hD2 (by simpa using h1)
    ·obtain ⟨q,rfl⟩ : ∃q,gk=q+1:=⟨gk-1,by omega⟩
     have g0:(0:Int)≤((q+1:Nat):Int)-1:=by omega
     have e0:((q+1:Nat):Int)-1=(q:Nat):=by omega
     rw [e0] at g0 ⊢
     obtain ⟨g,rfl,hg1,hg2⟩:=HA3.out (by omega)
     have hql:q<gs.length:=by omega
     obtain ⟨z,hz⟩ : ∃z,z=gs.getD q 0:=⟨_,rfl⟩
     have hzc:wr.cell? ⟨g,q,none⟩=some (.int .u64 (z:Nat)):=by
      rw [HBb.out.cell (p:=⟨g,q,none⟩) hg1]
      refine hg2 q _ ?_
      rw [List.getElem?_map,List.getElem?_eq_getElem hql,hz,List.getD_eq_getElem?_getD,List.getElem?_eq_getElem hql]
      rfl
     have h19:madeCells #[Value.int .u8 0] 19=(dgW z 19).toArray:=by
      unfold dgW
      rw [Nat.sub_self,List.take_zero,List.reverse_nil,List.map_nil]
      kernel_rfl
     have hmk : ∀w,(Instr.makeSlice 102 (.int .i64 19) (.int .i64 19)).run Tryz.prog w = .ok (.slice (some ⟨w.heap.size,0,none⟩) 19 19) (w.alloc (.cells (dgW z 19).toArray 5)):=fun w=>by
      rw [←h19]
      exact run_make_row' 102 5 (.int .u8 0) 1 Tryz.underlying102 (by kernel_rfl) rfl .i64 .i64 19 (by decide) (by decide) w
     have hzc2:(wr.alloc (.cells (dgW z 19).toArray 5)).cell? ⟨g,q,none⟩=some (.int .u64 (z:Nat)):=by
      rw [World.cell?_alloc_past _ _ _ (by have:=HBb.out.size;show g<_;omega)]
      exact hzc
     have hzl:z<10000000000000000000:=HZ.out.1 z (by rw [hz,List.getD_eq_getElem?_getD,List.getElem?_eq_getElem hql];exact List.getElem_mem hql)
     have Hz:=Z8 hz
     clear hg2 h19 hz hzc
     have H0:Hid (Below wr.heap.size wr (wr.alloc (.cells (dgW z 19).toArray 5)).drew∧(wr.alloc (.cells (dgW z 19).toArray 5)).drew.heap[wr.heap.size]?=some (.cells (dgW z 19).toArray 5 (0,0))):=⟨((Below.refl _ _).alloc (Nat.le_refl _) _).drew,MapKept.heap_alloc wr _ |>.1⟩
     go_wp2_with fail
     go_region
     go_wp2
     obtain ⟨wo,hwo⟩ : ∃W,W=wr:=⟨_,rfl⟩
     subst hwo
     go_loopg [8,9] 19 (fun h v8 v9 wy=>h≤19∧v8 = .int .i64 ((h:Int)-1)∧v9 = .int .u64 ((z/10^(19-h):Nat):Int)∧Hid (Below wo.heap.size wo wy∧wy.heap[wo.heap.size]?=some (.cells (dgW z h).toArray 5 (0,0))))
     case atStart=>exact ⟨Nat.le_refl _,rfl,by rw [Nat.sub_self,Nat.pow_zero,Nat.div_one],H0⟩
     case round =>
      obtain ⟨hh,rfl,rfl,HY⟩:=hrel
      rcases Nat.eq_zero_or_pos gk with h0|h0
      ·subst h0
       have g3 : ¬(0:Int)≤((0:Nat):Int)-1:=by decide
       have hbl:Lib.IsBuilder 104 5 wr'.heap.size wr'.heap.size (Lib.byteCells (gpB gs (q+1))) wr:=EG HBl.out fun k hk=>HY.out.1.block k hk
       have hg:=HY.out.2
       rw [dgW_0] at hg
       have hcl : ∀j u,(Lib.byteCells ((fxL 19 z).reverse.map UInt8.ofNat))[j]?=some u→wr.cell? ⟨wo.heap.size,j,none⟩=some u:=fun j u hj=>by
        rw [Lib.cell_of_heap hg,←hj,List.getElem?_toArray]
       have hW:=A6 wr'.heap.size wr'.heap.size wo.heap.size 19 19 _ _ wr hbl (by rw [Lib.byteCells_length,List.length_map,List.length_reverse,EZ]) hcl (by have:=HBb.out.size;have:=(World.lt_of_builder HBl.out);omega) (fun u hu=>by obtain ⟨c,_,rfl⟩:=List.mem_map.1 hu;rfl) (by rw [Lib.byteCells_length,gpB_len gs (q+1) hgk];omega) (by have:=HBb.out.size;have:=HY.out.1.size;omega)
       rw [←Lib.byteCells_append] at hW
       have HW:=Z8 hW
       have HB9:Hid (Below wr'.heap.size wr' wr):=HBb.out.trans ⟨HY.out.1.os,HY.out.1.tape,HY.out.1.output,HY.out.1.size,fun k hk=>HY.out.1.block k (by have:=HBb.out.size;omega)⟩
       clear hW hcl hg hbl
       go_wp2_with fail
       refine HW.out.mono ?_
       rintro e w8 ⟨rfl,h8,hb8⟩
       have H8:Hid (Lib.IsBuilder 104 5 wr'.heap.size wr'.heap.size (Lib.byteCells (gpB gs q)) w8):=by
        rw [gpB_step gs q hql,←Hz.out]
        exact .inr h8
       have HB8:Hid (Below wr'.heap.size wr' w8):=HB9.out.trans hb8
       clear h8 hb8 HW
       go_wp2
       go_roundg q
       case measure=>omega
       case rel=>exact ⟨by omega,rfl,H8,HB8⟩
      ·obtain ⟨h,rfl⟩ : ∃h,gk=h+1:=⟨gk-1,by omega⟩
       have e3:((h+1:Nat):Int)-1=(h:Nat):=by omega
       have g3:(0:Int)≤(h:Nat):=by omega
       have g4:(h:Int)<19:=by omega
       rw [e3]
       have hul:z/10^(19-(h+1))<10000000000000000000:=Nat.lt_of_le_of_lt (Nat.div_le_self _ _) hzl
       have hst:=dgW_step z h (by omega)
       have hnx:z/10^(19-(h+1))/10=z/10^(19-h):=by
        rw [Nat.div_div_eq_div_mul,←Nat.pow_succ,show (19-(h+1)).succ=19-h from by omega]
       rw [show 18-h=19-(h+1) from by omega] at hst
       obtain ⟨u,hu⟩ : ∃u,u=z/10^(19-(h+1)):=⟨_,rfl⟩
       rw [←hu] at hul hst hnx ⊢
       have wd:=KF u 10
       have wm:(u:Int).tmod 10=((u%10:Nat):Int):=Gq u 10
       have hd10:u%10<10:=Nat.mod_lt _ (by decide)
       have hud:u/10≤u:=Nat.div_le_self _ _
       obtain ⟨d,hd⟩ : ∃d,d=u%10:=⟨_,rfl⟩
       obtain ⟨p,hp⟩ : ∃p,p=u/10:=⟨_,rfl⟩
       rw [←hd] at wm hst hd10
       rw [←hp] at wd hud hnx
       have w1:IntKind.u64.wrap (p:Int)=(p:Int):=by rw [QE];omega
       have w2:IntKind.u64.wrap (48+(d:Int))=48+(d:Int):=by rw [QE];omega
       have w3:IntKind.u8.wrap (48+(d:Int))=48+(d:Int):=by rw [FH];omega
       have hlen:=dgW_len z (h+1) hh
       obtain ⟨x1,hx1⟩ : ∃x1,(dgW z (h+1))[h]?=some x1:=⟨_,List.getElem?_eq_getElem (by omega)⟩
       have c1:wr.cell? ⟨wo.heap.size,h,none⟩=some x1:=by rw [Lib.cell_of_heap HY.out.2,List.getElem?_toArray];exact hx1
       have f1:wr.frozen? ⟨wo.heap.size,h,none⟩=false:=Lib.frozen_of_heap HY.out.2 h
       have HN:Hid (Below wo.heap.size wo (wr.setCell ⟨wo.heap.size,h,none⟩ (.int .u8 (48+(d:Int))))∧(wr.setCell ⟨wo.heap.size,h,none⟩ (.int .u8 (48+(d:Int)))).heap[wo.heap.size]?=some (.cells (dgW z h).toArray 5 (0,0))):=by
        refine ⟨HY.out.1.setCell (p:=⟨wo.heap.size,h,none⟩) (Nat.le_refl _) _,?_⟩
        rw [KC HY.out.2,show (48+(d:Int))=((48+d:Nat):Int) from by omega,hst]
       have HP:=Z8 (And.intro hnx hp)
       clear hst hnx hu hd hp hx1 hlen
       go_wp2
       go_roundg h
       case measure=>omega
       case rel=>exact ⟨by omega,rfl,congrArg (Value.int .u64) (by rw [←HP.out.1,HP.out.2];omega),HN⟩
  ·obtain ⟨hl1,hl2,hl3⟩:=grp_bounds h0 Hg.out hNl.out.1 hNl.out.2
   have hd:=A9 gk hl1 _ wr HG.out HV.out
   have hd0:0<(QX gk).length:=hl2
   have HLn:=HL.out
   have hLs:=grL_snoc gs N HL.out
   rw [←Hg.out] at hLs
   have hqn:gk/10000000000000000000=N/10^(19*(gs.length+1)):=by
    rw [Hg.out,Nat.div_div_eq_div_mul,show (10000000000000000000:Nat)=10^19 from rfl,←Nat.pow_add,Nat.mul_succ]
   have hqlt:gk/10000000000000000000<gk:=Nat.div_lt_self h0 (by decide)
   have hrl:gk%10000000000000000000<10000000000000000000:=Nat.mod_lt _ (by decide)
   obtain ⟨r,hr⟩ : ∃r,r=gk%10000000000000000000:=⟨_,rfl⟩
   obtain ⟨q,hq⟩ : ∃q,q=gk/10000000000000000000:=⟨_,rfl⟩
   rw [←hr] at hLs hrl hd
   rw [←hq] at hqn hqlt hd
   have HX:=Z8 (And.intro hLs (And.intro hrl (And.intro hqn hqlt)))
   clear hr hq hLs hrl hqn hqlt HLn hl2
   go_wp2_with fail
   refine hd.mono ?_
   rintro e w2 ⟨v2,rfl,hv2,hb2⟩
   have HV2:=Z8 hv2
   have HB2:=Z8 hb2
   have HO2:=Z8 (row_kept HO.out hb2)
   have HOl:=Z8 HO.out.lt
   clear hd hv2 hb2
   go_wp2_with (first
    | (at_builtin;refine wpList_append_own _ rfl _ _ 25 rfl w.heap.size 91 i0 (.int .u64 0) 1 8 Tryz.underlying25 hi hz0 hz1 hz2 rfl (by decide) _ _ _ rfl (HO2.out.alloc _) ⟨w2.heap.size,0,none⟩ 1 1 [.int .u64 (r:Nat)] rfl rfl ?c1 ?c2 ?c3 ?c4 ?c5 ?_)
    | go_in)
   case c1 =>
    intro j u hj
    match j,hj with
    | 0,hj=>simp at hj;subst hj;simp [Addr.add]
   case c2=>intro u hu;simp at hu;subst hu;rfl
   case c3=>unfold maxLen;omega
   case c4=>omega
   case c5=>have:=HB.out.size;have:=HB2.out.size;simp;omega
   intro v3 w3 hown' hgrow _
   have HO3:=Z8 hown'
   have hsz:=HB2.out.size
   have hs3:=hgrow.size
   have hgr : ∀b,w.heap.size≤b→b<w2.heap.size→u3.ownBlock≠some b→w3.heap[b]?=w2.heap[b]?:=fun b _ hb hne=>by
    rw [hgrow.block b (by simp;omega) (fun e=>hne e.symm)]
    exact Below.heap_alloc _ _ _ hb
   have HV3:Hid (WV w3 (QX q) v2):=HV2.out.to (by simp at hs3;omega) fun b h1 h2=>hgr b (by have:=HB.out.size;omega) h2 (fun e=>by have:=(HOl.out b e).2;omega)
   have HB3:Hid (Below w.heap.size w w3):=by
    have h1:Below w.heap.size w w2:=HB.out.trans ⟨HB2.out.os,HB2.out.tape,HB2.out.output,HB2.out.size,fun k hk=>HB2.out.block k (by have:=HB.out.size;omega)⟩
    exact (h1.alloc h1.size _).grown hgrow (by have:=h1.size;simp;omega) (fun k hk=>(HOl.out k hk).1)
   clear hown' hgrow hgr
   go_wp2
   go_roundg q
   case measure=>exact HX.out.2.2.2
   case rel =>
    refine ⟨gs++[r],?_,HV3,?_,?_,HB3,?_⟩
    ·rw [List.length_append];exact HX.out.2.2.1
    ·rw [List.length_append];exact HX.out.1
    ·refine ⟨fun z hz=>?_,by rw [List.length_append];show gs.length+1≤1000;omega⟩
     rcases List.mem_append.1 hz with h|h
     ·exact HZ.out.1 z h
     ·rw [List.mem_singleton.1 h];exact HX.out.2.1
    ·rw [List.length_append,List.map_append]
     exact HO3
theorem KZ (x:List Int) (hx:x.length<900) (ox:okW x):QU Tryz.prog 54 [.v (QZ x)] [.v true (.str ⟨(Qv (val x)).toArray⟩)]:=by
 refine QU.plain (val:=.string ⟨(Qv (val x)).toArray⟩) (enters_of Tryz.func54 (by kernel_rfl) rfl) rfl (fun cx w μ mem=>Yj.2 rfl) fun w O vs hG ha=>?_
 rw [QF] at ha
 obtain ⟨v,vr,rfl,h1,h2⟩:=ha
 rw [QF] at h2
 subst h2
 rw [Q6] at h1
 obtain ⟨cs,h3,h4⟩:=h1
 exact A8 x hx ox v w hG ⟨cs,Rep.mono (fun _ _ _ _ hv=>hv) (fun b hb=>⟨hb.1,trivial⟩) h3,h4⟩
abbrev bs (l:List UInt8):ByteArray:=⟨l.toArray⟩
theorem ZQ (x y:List UInt8):bs x++bs y=bs (x++y):=ByteArray.mk_append_mk x y
theorem Qx (l:List UInt8):(bs l).size=l.length:=by show l.toArray.size=_;simp
theorem Yy (l:List UInt8) (i j:Nat):(bs l).extract i j=bs ((l.drop i).take (j-i)):=by
 apply ByteArray.ext
 simp [ByteArray.data_extract]
theorem bs_of (s:ByteArray):s=bs s.data.toList:=by cases s;rfl
def z48 (n:Nat):List UInt8:=List.replicate n 48
theorem YC (n:Nat):(z48 n).length=n:=List.length_replicate
theorem yD : ∀(n:Nat),Lib.decDigits n=Qv n:=fun n=>by
 induction n using Nat.strongRecOn with
 | ind n ih =>
   rw [Lib.decDigits]
   split
   ·next h =>
    rcases Nat.eq_zero_or_pos n with h0|h0
    ·subst h0;rfl
    ·rw [CF (f:=1) (by omega) (by omega),tdL,if_neg (by omega),Nat.mod_eq_of_lt h]
     rfl
   ·next h =>
    have hq:n/10<10^(n/10):=Vv _
    rw [ih (n/10) (by omega),CF (f:=n/10) (by omega) hq,CF (f:=n/10+1) (by omega) (by rw [Nat.pow_succ];omega),tdL,if_neg (by omega),List.reverse_cons,List.map_append]
    rfl
theorem GJ (n:Nat) (hn:n≤1000000):QU Tryz.prog 82 [.v (.str ⟨#[48]⟩),.v (.int .i64 n)] [.v true (.str (bs (z48 n)))]:=by
 refine QU.plain (val:=.string (bs (z48 n))) (enters_of Tryz.func82 (by kernel_rfl) rfl) rfl (fun cx w μ mem=>Yj.2 rfl) fun w O vs hG ha=>?_
 rw [QF] at ha
 obtain ⟨v,vr,rfl,h1,h2⟩:=ha
 rw [QF] at h2
 obtain ⟨v2,vr,rfl,h3,h4⟩:=h2
 rw [QF] at h4
 subst h4
 rw [Q6] at h1 h3
 obtain ⟨cs,h5,rfl⟩:=h1
 obtain ⟨ds,h6,rfl⟩:=h3
 rw [Rep] at h5
 rw [Rep] at h6
 subst h5
 subst h6
 have e:Lib.repeatL [48] n=z48 n:=by
  clear hn
  induction n with
  | zero=>rfl
  | succ n ih=>rw [Lib.repeatL,ih];rfl
 have:=Tryz.strings_Repeat ⟨#[48]⟩ n w (by omega) (by show 1*n≤_;omega)
 rw [show (ByteArray.mk #[48]).data.toList=[48] from rfl,e] at this
 exact this
def trR (l:List UInt8):List UInt8:=Lib.trimRightB l 48
theorem Fq (l:List UInt8) (hl:l.length<1000000):QU Tryz.prog 132 [.v (.str (bs l)),.v (.str ⟨#[48]⟩)] [.v true (.str (bs (trR l)))]:=by
 refine QU.plain (val:=.string (bs (trR l))) (enters_of Tryz.func132 (by kernel_rfl) rfl) rfl (fun cx w μ mem=>Yj.2 rfl) fun w O vs hG ha=>?_
 rw [QF] at ha
 obtain ⟨v,vr,rfl,h1,h2⟩:=ha
 rw [QF] at h2
 obtain ⟨v2,vr,rfl,h3,h4⟩:=h2
 rw [QF] at h4
 subst h4
 rw [Q6] at h1 h3
 obtain ⟨cs,h5,rfl⟩:=h1
 obtain ⟨ds,h6,rfl⟩:=h3
 rw [Rep] at h5
 rw [Rep] at h6
 subst h5
 subst h6
 refine (Tryz.strings_TrimRight (bs l) 48 (by decide) w (by rw [Qx];omega)).mono ?_
 rintro e w' ⟨h,rfl⟩
 exact ⟨h,Below.refl _ _⟩
theorem itoa_ok (n:Nat) (hn:n<4611686018427387904):QU Tryz.prog 142 [.v (.int .i64 n)] [.v true (.str (bs (Qv n)))]:=by
 refine QU.plain (val:=.string (bs (Qv n))) (enters_of Tryz.func142 (by kernel_rfl) rfl) rfl (fun cx w μ mem=>Yj.2 rfl) fun w O vs hG ha=>?_
 rw [QF] at ha
 obtain ⟨v,vr,rfl,h1,h2⟩:=ha
 rw [QF] at h2
 subst h2
 rw [Q6] at h1
 obtain ⟨cs,h5,rfl⟩:=h1
 rw [Rep] at h5
 subst h5
 have htab:Lib.TabIs Tryz.prog w "internal/strconv.uint64pow10" .u64 Lib.pow10Tab:=by
  obtain ⟨_,cs,h2,t,f,h3⟩:=hG (7,BX) (by simp [GLOB])
  have hc:cs=Lib.pow10Tab.map fun z=>Value.int .u64 z:=by
   unfold BX at h2
   rw [Rep] at h2
   have key : ∀(zs:List Int) (cs:List Value) {ok:Nat→Prop},Qf w ok (zs.map fun z=>V.int .u64 z) cs→cs=zs.map fun z=>Value.int .u64 z:=fun zs=>by
    induction zs with
    | nil=>intro cs ok h;rw [List.map_nil,Qf] at h;exact h
    | cons z zs ih =>
      intro cs ok h
      rw [List.map_cons,Qf] at h
      obtain ⟨a,b,rfl,h1,h2⟩:=h
      rw [Rep] at h1
      rw [h1,ih _ h2]
      rfl
   exact key Lib.pow10Tab cs h2
  unfold Lib.TabIs World.var?
  rw [show Tryz.prog.globalNamed "internal/strconv.uint64pow10" = some 7 from by kernel_rfl]
  show (match w.heap[7]? with|some (.cells cs _ _)=>some cs|_=>none)=_
  rw [show w.heap[7]?=_ from h3,hc]
 refine (Tryz.strconv_Itoa n (by omega) (by omega) w htab).mono ?_
 rintro e w' ⟨h,hb⟩
 refine ⟨?_,hb⟩
 rw [h]
 unfold Lib.itoa
 rw [if_neg (by omega),Int.toNat_natCast,yD]
def smL (neg:Bool) (l:List UInt8):List UInt8:=if neg=true then 45::l else l
theorem Uy (neg:Bool) (l:List UInt8) (hl:l.length<10000000):QU Tryz.prog 51 [.v (.bool neg),.v (.str (bs l))] [.v true (.str (bs (smL neg l)))]:=by
 have e:bs (smL neg l)=if neg=true then ByteArray.mk #[45]++bs l else bs l:=by
  unfold smL
  split
  ·exact (ZQ [45] l).symm
  ·rfl
 have hz:=Qx l
 rw [e]
 obtain ⟨s,hs⟩ : ∃s,s=bs l:=⟨_,rfl⟩
 rw [←hs] at hz ⊢
 have g:(#[(45:UInt8)]).size+s.size≤9223372036854775807:=by rw [hz];show 1+l.length≤_;omega
 clear e hs hz
 cases neg with
 | true =>
   rw [if_pos rfl]
   refine QU.of Tryz.func51 rfl rfl fun cx w0=>?_
   rw [show Tryz.f51.ntmps=9 from rfl]
   refine zs0 ?_
   refine QQ.seq ?_
   refine zs0 ?_
   refine QQ.condT rfl ?_
   refine zs1 g ?_
   exact QQ.ret (QK.vs rfl (by exact ⟨⟨rfl,id⟩,trivial⟩) rfl)
 | false =>
   rw [if_neg (by simp)]
   refine QU.of Tryz.func51 rfl rfl fun cx w0=>?_
   rw [show Tryz.f51.ntmps=9 from rfl]
   refine zs0 ?_
   refine QQ.seq ?_
   refine zs0 ?_
   refine QQ.condF rfl (QQ.skip ?_)
   refine zs0 ?_
   exact QQ.ret (QK.vs rfl (by exact ⟨⟨rfl,id⟩,trivial⟩) rfl)
def Uf (d:List UInt8):List UInt8:=if 1<d.length then d.take 1++46::d.drop 1 else d
theorem BJ (d:List UInt8):(Uf d).length≤d.length+1:=by unfold Uf;split <;> simp <;> omega
theorem sOne_ok (d:List UInt8) (hd:d.length<10000000):QU Tryz.prog 84 [.v (.str (bs d))] [.v true (.str (bs (Uf d)))]:=by
 have hz:=Qx d
 by_cases h1:1<d.length
 ·have e:bs (Uf d)=((bs d).extract 0 1++ByteArray.mk #[46])++(bs d).extract 1 (bs d).size:=by
   unfold Uf
   rw [if_pos h1,Yy,Yy,Qx,show ByteArray.mk #[46]=bs [46] from rfl,ZQ,ZQ,List.drop_zero,List.take_of_length_le (l:=d.drop 1) (by rw [List.length_drop];omega),List.append_assoc]
   rfl
  rw [e]
  have z1:((bs d).extract 0 1).size=1:=by rw [Yy,Qx];simp;omega
  have z2:((bs d).extract 1 (bs d).size).size=d.length-1:=by rw [Yy,Qx,Qx];simp
  obtain ⟨s,hs⟩ : ∃s,s=bs d:=⟨_,rfl⟩
  rw [←hs] at hz z1 z2 ⊢
  have g0:(1:Int)<s.size:=by omega
  have g0':(1:Int)≤s.size:=by omega
  have g1:(s.extract 0 1).size+(#[(46:UInt8)]).size≤9223372036854775807:=by rw [z1];decide
  have g2:(s.extract 0 1).size+(#[(46:UInt8)]).size+(s.extract 1 s.size).size≤9223372036854775807:=by rw [z1,z2];show 1+1+(d.length-1)≤_;omega
  clear e hs z1 z2
  refine QU.of Tryz.func84 rfl rfl fun cx w0=>?_
  rw [show Tryz.f84.ntmps=13 from rfl]
  refine zs0 ?_
  refine QQ.seq ?_
  refine zs1 g0 ?_
  refine QQ.condT rfl ?_
  refine zd1 [] (an g0' <| an g1 <| g2) ?_
  exact QQ.ret (QK.vs rfl (by exact ⟨⟨rfl,id⟩,trivial⟩) rfl)
 ·have e:bs (Uf d)=bs d:=by unfold Uf;rw [if_neg h1]
  rw [e]
  obtain ⟨s,hs⟩ : ∃s,s=bs d:=⟨_,rfl⟩
  rw [←hs] at hz ⊢
  have g0 : ¬(1:Int)<s.size:=by omega
  clear e hs
  refine QU.of Tryz.func84 rfl rfl fun cx w0=>?_
  rw [show Tryz.f84.ntmps=13 from rfl]
  refine zs0 ?_
  refine QQ.seq ?_
  refine zs1 g0 ?_
  refine QQ.condF rfl (QQ.skip ?_)
  refine zs0 ?_
  exact QQ.ret (QK.vs rfl (by exact ⟨⟨rfl,id⟩,trivial⟩) rfl)
def ptN (d:List UInt8) (k:Nat):List UInt8:=d.take (d.length-k)++46::d.drop (d.length-k)
def ptL (d:List UInt8) (k:Int):List UInt8:=if k≤0 then d else ptN (z48 (k.toNat+1-d.length)++d) k.toNat
theorem ptN_len (d:List UInt8) (k:Nat):(ptN d k).length=d.length+1:=by unfold ptN;simp;omega
theorem zq (d:List UInt8) (k:Int):(ptL d k).length≤d.length+k.toNat+2:=by
 unfold ptL
 split
 ·omega
 ·rw [ptN_len,List.length_append,YC];omega
theorem pt_tail {cx:Cx} {w0:World} (d:List UInt8) (k:Nat) (hd:d.length<10000000) (hk:0<k) (h:k<d.length):QQ Tryz.prog none cx w0 (ZH Tryz.f56 [1,1,1]) {nt:=34,env:=[(0,.v true (.str (bs d))),(1,.v true (.int .i64 (k:Nat)))],mem:=[]} (fnQ Tryz.prog Tryz.f56 [.v true (.str (bs (ptN d k)))]):=by
 have hz:=Qx d
 obtain ⟨m,hm⟩ : ∃m,m=d.length-k:=⟨_,rfl⟩
 have e:bs (ptN d k)=((bs d).extract 0 m++ByteArray.mk #[46])++(bs d).extract m (bs d).size:=by
  unfold ptN
  rw [←hm,Yy,Yy,Qx,show ByteArray.mk #[46]=bs [46] from rfl,ZQ,ZQ,List.drop_zero,List.take_of_length_le (l:=d.drop m) (by rw [List.length_drop];omega),List.append_assoc,Nat.sub_zero]
  rfl
 rw [e]
 have z1:((bs d).extract 0 m).size=m:=by rw [Yy,Qx];simp;omega
 have z2:((bs d).extract m (bs d).size).size=k:=by rw [Yy,Qx,Qx];simp;omega
 obtain ⟨s,hs⟩ : ∃s,s=bs d:=⟨_,rfl⟩
 rw [←hs] at hz z1 z2 ⊢
 have w1:IntKind.i64.wrap ((s.size:Int)-(k:Int))=(m:Int):=by rw [QV] <;> omega
 have g0:(0:Int)≤(m:Int):=by omega
 have g0':(m:Int)≤(s.size:Int):=by omega
 have g1:(s.extract 0 m).size+(#[(46:UInt8)]).size≤9223372036854775807:=by rw [z1];show m+1≤_;omega
 have g2:(s.extract 0 m).size+(#[(46:UInt8)]).size+(s.extract m s.size).size≤9223372036854775807:=by rw [z1,z2];show m+1+k≤_;omega
 clear e hs z1 z2 hm
 refine QQ.seq ?_
 refine zq1 [] (an w1 <| an g0 <| an g0' <| an g1 <| g2) ?_
 show QQ _ _ _ _ _ _ _
 exact QQ.ret (QK.vs rfl (by exact ⟨⟨rfl,id⟩,trivial⟩) rfl)
theorem qV (d:List UInt8) (k:Int) (hd:d.length<1000000) (hk : -4611686018427387904<k∧k<1000000):QU Tryz.prog 56 [.v (.str (bs d)),.v (.int .i64 k)] [.v true (.str (bs (ptL d k)))]:=by
 have hz:=Qx d
 by_cases h0:k≤0
 ·have e:bs (ptL d k)=bs d:=by unfold ptL;rw [if_pos h0]
  rw [e]
  obtain ⟨s,hs⟩ : ∃s,s=bs d:=⟨_,rfl⟩
  rw [←hs] at hz ⊢
  refine QU.of Tryz.func56 rfl rfl fun cx w0=>?_
  rw [show Tryz.f56.ntmps=34 from rfl]
  refine zs0 ?_
  refine QQ.seq ?_
  refine zs1 h0 ?_
  refine QQ.condT rfl ?_
  refine zs0 ?_
  exact QQ.ret (QK.vs rfl (by exact ⟨⟨rfl,id⟩,trivial⟩) rfl)
 ·obtain ⟨n,rfl⟩ : ∃n:Nat,k=n:=⟨k.toNat,by omega⟩
  have e:bs (ptL d n)=bs (ptN (z48 (n+1-d.length)++d) n):=by unfold ptL;rw [if_neg h0,Int.toNat_natCast]
  rw [e]
  have ht:=fun {cx w0}=>pt_tail (cx:=cx) (w0:=w0) (z48 (n+1-d.length)++d) n (by rw [List.length_append,YC];omega) (by omega) (by rw [List.length_append,YC];omega)
  have w1:IntKind.i64.wrap ((n:Int)+1)=(n:Int)+1:=by rw [QV] <;> omega
  by_cases h1:d.length<n+1
  ·have hR:=GJ (n+1-d.length) (by omega)
   have hcat:=ZQ (z48 (n+1-d.length)) d
   have hzr:=Qx (z48 (n+1-d.length))
   rw [YC] at hzr
   obtain ⟨c,hc⟩ : ∃c,c=n+1-d.length:=⟨_,rfl⟩
   rw [←hc] at ht hR hcat hzr ⊢
   have w2:IntKind.i64.wrap ((n:Int)+1-(bs d).size)=(c:Int):=by rw [hz,QV] <;> omega
   have g0:(0:Int)<(c:Int):=by omega
   have g1:(bs (z48 c)).size+(bs d).size≤9223372036854775807:=by rw [hz,hzr];omega
   obtain ⟨s,hs⟩ : ∃s,s=bs d:=⟨_,rfl⟩
   obtain ⟨r,hr⟩ : ∃r,r=bs (z48 c):=⟨_,rfl⟩
   obtain ⟨t,ht'⟩ : ∃t,t=bs (z48 c++d):=⟨_,rfl⟩
   rw [←hs,←hr,←ht'] at hcat
   rw [←hs] at w2
   rw [←hs,←hr] at g1
   rw [←hr] at hR
   rw [←ht'] at ht
   rw [←hs]
   clear hz hzr hs hr ht' hc
   refine QU.of Tryz.func56 rfl rfl fun cx w0=>?_
   rw [show Tryz.f56.ntmps=34 from rfl]
   refine zs0 ?_
   refine QQ.seq ?_
   refine zs1 h0 ?_
   refine QQ.condF rfl (QQ.skip ?_)
   refine QQ.next (fun σ=>∀a w,Rel cx w0 σ a w→Rel cx w0 {nt:=34,env:=[(0,.v true (.str t)),(1,.v true (.int .i64 n))],mem:=[]} a w) ?_ ?_
   ·refine zs1 (an w1 <| w2) ?_
    refine zs1 g0 ?_
    refine QQ.condT rfl ?_
    rw [←hcat]
    refine zr3 (ρ:=fun _=>[.v true (.str r)]) g1 (o:=by repeat' first|exact hR|trivial|constructor) (k:=?_)
    exact fun a w h=>Rel.keep [0,1] [] h
   ·intro σ hσ
    exact QQ.from hσ ht
  ·have e2:z48 (n+1-d.length)++d=d:=by rw [show n+1-d.length=0 from by omega];rfl
   rw [e2] at ht ⊢
   obtain ⟨c,hc⟩ : ∃c:Int,c=(n:Int)+1-(bs d).size:=⟨_,rfl⟩
   have w2:IntKind.i64.wrap ((n:Int)+1-(bs d).size)=c:=by rw [hc,QV] <;> omega
   have g0 : ¬(0:Int)<c:=by omega
   obtain ⟨s,hs⟩ : ∃s,s=bs d:=⟨_,rfl⟩
   rw [←hs] at w2 ht ⊢
   clear hz hs hc
   refine QU.of Tryz.func56 rfl rfl fun cx w0=>?_
   rw [show Tryz.f56.ntmps=34 from rfl]
   refine zs0 ?_
   refine QQ.seq ?_
   refine zs1 h0 ?_
   refine QQ.condF rfl (QQ.skip ?_)
   refine QQ.next (fun σ=>∀a w,Rel cx w0 σ a w→Rel cx w0 {nt:=34,env:=[(0,.v true (.str s)),(1,.v true (.int .i64 n))],mem:=[]} a w) ?_ ?_
   ·refine zs1 (an w1 <| w2) ?_
    refine zs1 g0 ?_
    exact QQ.condF rfl (QQ.skip fun a w h=>Rel.keep [0,1] [] h)
   ·intro σ hσ
    exact QQ.from hσ ht
def sgL (n:Int) (least:Nat):List UInt8:=(if n<0 then 45 else 43)::(z48 (least-(Qv n.natAbs).length)++Qv n.natAbs)
theorem UQ {n D:Nat} (h:n<10^D) (hD:1≤D):(Qv n).length≤D:=by
 rcases Nat.eq_zero_or_pos n with h0|h0
 ·rw [h0];exact hD
 ·obtain ⟨E,hE⟩:=KK n h0
  rw [decG_len hE]
  exact yZ hE h
set_option maxHeartbeats 1000000 in
theorem qX (n:Int) (least:Nat) (hn : -4611686018427387904<n∧n<4611686018427387904) (hl:least≤1000):QU Tryz.prog 64 [.v (.int .i64 n),.v (.int .i64 least)] [.v true (.str (bs (sgL n least)))]:=by
 obtain ⟨m,hm⟩ : ∃m,m=n.natAbs:=⟨_,rfl⟩
 have hI:=itoa_ok m (by omega)
 have hlen:(Qv m).length≤19:=UQ (by rw [show (10:Nat)^19=10000000000000000000 from rfl];omega) (by decide)
 have hR:=GJ (least-(Qv m).length) (by omega)
 have hz:=Qx (Qv m)
 have hzr:=Qx (z48 (least-(Qv m).length))
 rw [YC] at hzr
 have e : ∀c:UInt8,bs (c::(z48 (least-(Qv m).length)++Qv m))=(ByteArray.mk #[c]++bs (z48 (least-(Qv m).length)))++bs (Qv m):=fun c=>by
  rw [show ByteArray.mk #[c]=bs [c] from rfl,ZQ,ZQ];rfl
 unfold sgL
 rw [←hm]
 obtain ⟨c,hc⟩ : ∃c,c=least-(Qv m).length:=⟨_,rfl⟩
 have hmx:max (0:Int) ((least:Int)-((Qv m).length:Int))=(c:Int):=by omega
 rw [←hc] at hR hzr e ⊢
 obtain ⟨s,hs⟩ : ∃s,s=bs (Qv m):=⟨_,rfl⟩
 obtain ⟨r,hr⟩ : ∃r,r=bs (z48 c):=⟨_,rfl⟩
 have hsl:s.size≤19:=by rw [hs,hz];exact hlen
 have w1:IntKind.i64.wrap ((least:Int)-(s.size:Int))=(least:Int)-(s.size:Int):=by rw [QV] <;> omega
 have w2:(if (0:Int)<(least:Int)-(s.size:Int) then (least:Int)-(s.size:Int) else 0)=(c:Int):=by rw [hs,hz,←hmx];split <;> omega
 have hrl:r.size≤1000:=by rw [hr,hzr,hc];omega
 rw [←hs] at hI e
 rw [←hr] at hR e
 have g1 : ∀c:UInt8,(#[(c:UInt8)]).size+r.size≤9223372036854775807:=fun c=>by show 1+r.size≤_;omega
 have g2 : ∀c:UInt8,(#[(c:UInt8)]).size+r.size+s.size≤9223372036854775807:=fun c=>by show 1+r.size+s.size≤_;omega
 have e1:=e 45
 have e2:=e 43
 have a1:=g1 45
 have a2:=g2 45
 have b1:=g1 43
 have b2:=g2 43
 clear e g1 g2 hz hzr hc hs hr hmx hsl hrl hlen
 by_cases h0:n<0
 ·rw [if_pos h0,e1]
  have wn:IntKind.i64.wrap (0-n)=(m:Int):=by rw [QV] <;> omega
  refine QU.of Tryz.func64 rfl rfl fun cx w0=>?_
  rw [show Tryz.f64.ntmps=23 from rfl]
  refine zs0 ?_
  refine zs0 ?_
  refine QQ.next (fun σ=>∀a w,Rel cx w0 σ a w→Rel cx w0 {nt:=23,env:=[(0,.v true (.int .i64 m)),(1,.v true (.int .i64 least)),(5,.v true (.str (ByteArray.mk #[45])))],mem:=[]} a w) ?_ ?_
  ·refine zs1 h0 ?_
   refine QQ.condT rfl ?_
   refine zr1 wn ?_
   exact fun a w h=>Rel.keep [0,1,5] [] h
  ·intro σ hσ
   refine QQ.from hσ ?_
   refine zs2 (ρ:=fun _=>[.v true (.str s)]) (o:=by repeat' first|exact hI|trivial|constructor) (k:=?_)
   refine zs3 (ρ:=fun _=>[.v true (.str r)]) (an w1 <| an w2 <| an a1 <| a2) (o:=by repeat' first|exact hR|trivial|constructor) (k:=?_)
   exact QQ.ret (QK.vs rfl (by exact ⟨⟨rfl,id⟩,trivial⟩) rfl)
 ·rw [if_neg h0,e2]
  have en:n=(m:Int):=by omega
  subst en
  refine QU.of Tryz.func64 rfl rfl fun cx w0=>?_
  rw [show Tryz.f64.ntmps=23 from rfl]
  refine zs0 ?_
  refine zs0 ?_
  refine QQ.next (fun σ=>∀a w,Rel cx w0 σ a w→Rel cx w0 {nt:=23,env:=[(0,.v true (.int .i64 m)),(1,.v true (.int .i64 least)),(5,.v true (.str (ByteArray.mk #[43])))],mem:=[]} a w) ?_ ?_
  ·refine zs1 h0 ?_
   exact QQ.condF rfl (QQ.skip fun a w h=>Rel.keep [0,1,5] [] h)
  ·intro σ hσ
   refine QQ.from hσ ?_
   refine zs2 (ρ:=fun _=>[.v true (.str s)]) (o:=by repeat' first|exact hI|trivial|constructor) (k:=?_)
   refine zs3 (ρ:=fun _=>[.v true (.str r)]) (an w1 <| an w2 <| an b1 <| b2) (o:=by repeat' first|exact hR|trivial|constructor) (k:=?_)
   exact QQ.ret (QK.vs rfl (by exact ⟨⟨rfl,id⟩,trivial⟩) rfl)
theorem CU (n:Int) (least:Nat) (hn : -4611686018427387904<n∧n<4611686018427387904) (hl:least≤1000):(sgL n least).length≤1100:=by
 have:(Qv n.natAbs).length≤19:=UQ (by rw [show (10:Nat)^19=10000000000000000000 from rfl];omega) (by decide)
 unfold sgL
 rw [List.length_cons,List.length_append,YC]
 omega
def UV (d:List UInt8) (e:Int):List UInt8:=if e < -5∨20<e then Uf d++101::sgL e 1 else if (d.length:Int)≤e+1 then d++z48 (e+1-d.length).toNat else ptL d (d.length-1-e)
set_option maxHeartbeats 1000000 in
theorem layout_ok (d:List UInt8) (e:Int) (hd:d.length<900000) (he : -4611686018427387000<e∧e<4611686018427387000):QU Tryz.prog 52 [.v (.str (bs d)),.v (.int .i64 e)] [.v true (.str (bs (UV d e)))]:=by
 have hz:=Qx d
 by_cases h1:e < -5∨20<e
 ·have hO:=sOne_ok d (by omega)
  have hS:=qX e 1 (by omega) (by omega)
  have l1:=BJ d
  have l2:=CU e 1 (by omega) (by omega)
  have z1:=Qx (Uf d)
  have z2:=Qx (sgL e 1)
  have eq:bs (UV d e)=(bs (Uf d)++ByteArray.mk #[101])++bs (sgL e 1):=by
   unfold UV
   rw [if_pos h1,show ByteArray.mk #[101]=bs [101] from rfl,ZQ,ZQ,List.append_assoc]
   rfl
  rw [eq]
  obtain ⟨s,hs⟩ : ∃s,s=bs d:=⟨_,rfl⟩
  obtain ⟨o,ho⟩ : ∃o,o=bs (Uf d):=⟨_,rfl⟩
  obtain ⟨g,hg⟩ : ∃g,g=bs (sgL e 1):=⟨_,rfl⟩
  rw [←hs,←ho] at hO
  rw [←hg] at hS
  rw [←ho] at z1
  rw [←hg] at z2
  rw [←hs,←ho,←hg]
  have a1:o.size+(#[(101:UInt8)]).size≤9223372036854775807:=by rw [z1];show (Uf d).length+1≤_;omega
  have a2:o.size+(#[(101:UInt8)]).size+g.size≤9223372036854775807:=by rw [z1,z2];show (Uf d).length+1+(sgL e 1).length≤_;omega
  have hS:QU Tryz.prog 64 [.v (.int .i64 e),.v (.int .i64 1)] [.v true (.str g)]:=hS
  clear hs ho hg z1 z2 l1 l2 hz eq
  refine QU.of Tryz.func52 rfl rfl fun cx w0=>?_
  rw [show Tryz.f52.ntmps=39 from rfl]
  refine zs0 ?_
  refine zs0 ?_
  refine QQ.block ?_
  by_cases h2:e < -5
  ·refine zs1 h2 ?_
   refine QQ.condT rfl ?_
   refine zs3 (ρ:=fun d=>if d=22 then [.v true (.str o)] else [.v true (.str g)]) (an a1 <| a2) (o:=by repeat' first|exact hO|exact hS|trivial|constructor) (k:=?_)
   exact QQ.ret (QK.vs rfl (by exact ⟨⟨rfl,id⟩,trivial⟩) rfl)
  ·have h3:20<e:=by omega
   refine zs1 (an h2 <| h3) ?_
   refine QQ.condT rfl ?_
   refine zs3 (ρ:=fun d=>if d=22 then [.v true (.str o)] else [.v true (.str g)]) (an a1 <| a2) (o:=by repeat' first|exact hO|exact hS|trivial|constructor) (k:=?_)
   exact QQ.ret (QK.vs rfl (by exact ⟨⟨rfl,id⟩,trivial⟩) rfl)
 ·have h2 : ¬e < -5:=by omega
  have h3 : ¬20<e:=by omega
  have w1:IntKind.i64.wrap (e+1)=e+1:=by rw [QV] <;> omega
  by_cases h4:(d.length:Int)≤e+1
  ·obtain ⟨c,hc⟩ : ∃c:Nat,c=(e+1-d.length).toNat:=⟨_,rfl⟩
   have hR:=GJ c (by omega)
   have hzr:=Qx (z48 c)
   rw [YC] at hzr
   have eq:bs (UV d e)=bs d++bs (z48 c):=by unfold UV;rw [if_neg h1,if_pos h4,←hc,ZQ]
   rw [eq]
   have w2:IntKind.i64.wrap (e+1-(bs d).size)=(c:Int):=by rw [hz,QV] <;> omega
   have h4:((bs d).size:Int)≤e+1:=by rw [hz];exact h4
   have a1:(bs d).size+(bs (z48 c)).size≤9223372036854775807:=by rw [hz,hzr];omega
   obtain ⟨s,hs⟩ : ∃s,s=bs d:=⟨_,rfl⟩
   obtain ⟨r,hr⟩ : ∃r,r=bs (z48 c):=⟨_,rfl⟩
   rw [←hr] at hR a1 ⊢
   rw [←hs] at w2 h4 a1 ⊢
   clear hz hzr hs hr hc eq
   refine QU.of Tryz.func52 rfl rfl fun cx w0=>?_
   rw [show Tryz.f52.ntmps=39 from rfl]
   refine zs0 ?_
   refine zs0 ?_
   refine QQ.block ?_
   refine zs1 (an h2 <| h3) ?_
   refine QQ.condF rfl ?_
   refine zs1 (an w1 <| h4) ?_
   refine QQ.condT rfl ?_
   refine zs3 (ρ:=fun _=>[.v true (.str r)]) (an w1 <| an w2 <| a1) (o:=by repeat' first|exact hR|trivial|constructor) (k:=?_)
   exact QQ.ret (QK.vs rfl (by exact ⟨⟨rfl,id⟩,trivial⟩) rfl)
  ·have hP:=qV d ((d.length:Int)-1-e) (by omega) (by omega)
   have eq:bs (UV d e)=bs (ptL d ((d.length:Int)-1-e)):=by unfold UV;rw [if_neg h1,if_neg h4]
   rw [eq]
   have w2:IntKind.i64.wrap (((bs d).size:Int)-1)=((bs d).size:Int)-1:=by rw [hz,QV] <;> omega
   have w3:IntKind.i64.wrap (((bs d).size:Int)-1-e)=((bs d).size:Int)-1-e:=by rw [hz,QV] <;> omega
   have h4 : ¬((bs d).size:Int)≤e+1:=by rw [hz];exact h4
   rw [←hz] at hP
   rw [←hz]
   obtain ⟨s,hs⟩ : ∃s,s=bs d:=⟨_,rfl⟩
   rw [←hs] at w2 w3 h4 hP ⊢
   obtain ⟨r,hr⟩ : ∃r,r=bs (ptL d ((s.size:Int)-1-e)):=⟨_,rfl⟩
   rw [←hr] at hP ⊢
   clear hz hs hr eq
   refine QU.of Tryz.func52 rfl rfl fun cx w0=>?_
   rw [show Tryz.f52.ntmps=39 from rfl]
   refine zs0 ?_
   refine zs0 ?_
   refine QQ.block ?_
   refine zs1 (an h2 <| h3) ?_
   refine QQ.condF rfl ?_
   refine zs1 (an w1 <| h4) ?_
   refine QQ.condF rfl ?_
   refine zs3 (ρ:=fun _=>[.v true (.str r)]) (an w2 <| w3) (o:=by repeat' first|exact hP|trivial|constructor) (k:=?_)
   exact QQ.ret (QK.vs rfl (by exact ⟨⟨rfl,id⟩,trivial⟩) rfl)
def Q9 (k:Int) (neg:Bool) (e:Int) (l:List Int):V:=.agg [.int .i64 k,.bool neg,.int .i64 e,QZ l]
theorem yX (k:Nat) (neg:Bool) (e:Int) (m:Nat):YG k neg e m=Q9 k neg e (QX m):=rfl
def cnB (k:Int) (neg:Bool) (e:Int) (v:Nat):Bool :=
 if k=0∨k=2 then decide (e=0∧v=0) else if k=3 then !neg&&decide (e=0∧v=0) else if k=1 then decide (v≠0 ∧ -1048576≤e∧e≤1048576∧e+trN v≤1048576) else false
def cnK (k:Int) (e:Int) (v:Nat):Nat:=if k=0∨k=2 then k.toNat else if k=3 then 3 else if k=1∧v≠0 ∧ -1048576≤e∧e≤1048576 then 1 else 0
def cnN (k:Int) (neg:Bool) (e:Int) (v:Nat):Bool:=if k=0∨k=2 then neg else if k=3 then false else if k=1∧v≠0 ∧ -1048576≤e∧e≤1048576 then neg else false
def cnE (k:Int) (e:Int) (v:Nat):Int:=if k=1∧v≠0 ∧ -1048576≤e∧e≤1048576 then e+trN v else 0
def cnM (k:Int) (e:Int) (v:Nat):Nat:=if k=1∧v≠0 ∧ -1048576≤e∧e≤1048576 then v/2^trN v else 0
def cnV (k:Int) (neg:Bool) (e:Int) (v:Nat):V:=YG (cnK k e v) (cnN k neg e v) (cnE k e v) (cnM k e v)
theorem flarge_ok (k:Int) (neg:Bool) (e:Int) (l:List Int):QU Tryz.prog 250 [.v (Q9 k neg e l)] [.v true (.bool (decide (4096<l.length)))]:=by
 unfold Q9 QZ
 have hd:decide ((4096:Int)<(l.length:Int))=decide (4096<l.length):=decide_eq_decide.2 (by omega)
 refine QU.of Tryz.func250 rfl rfl fun cx w0=>?_
 rw [show Tryz.f250.ntmps=7 from rfl]
 refine zs0 ?_
 refine zs1 hd ?_
 exact QQ.ret (QK.vs rfl (by exact ⟨⟨rfl,id⟩,trivial⟩) rfl)
def cnS (k:Int) (neg:Bool) (e:Int) (L:List V) (b:Bool):St := {nt:=75,env:=[(1,.ptr 1 0 [] 0),(2,.ptr 2 0 [] 0),(6,.v true (.int .i64 k)),(7,.v true (.bool b))],mem:=[(1,.box 28 (.v false (.agg [.int .i64 k,.bool neg,.int .i64 e,.sl 1 L]))),(2,.box 28 (.v true (.agg [.int .i64 0,.bool false,.int .i64 0,.sl 1 []])))]}
theorem CC (k:Int) (neg:Bool) (e:Int) (L:List V) {rs:List R} (h : ∀cx w0,QQ Tryz.prog none cx w0 (ZH Tryz.f113 [1,0,1,0,1]) (cnS k neg e L (decide (k=0∨k=2))) (NR (fun _=>False) (fnQ Tryz.prog Tryz.f113 rs .ret))):QU Tryz.prog 113 [.v (.agg [.int .i64 k,.bool neg,.int .i64 e,.sl 1 L])] rs:=by
 refine QU.of Tryz.func113 rfl rfl fun cx w0=>?_
 rw [show Tryz.f113.ntmps=75 from rfl]
 refine zs0 ?_
 refine QQ.seq ?_
 refine zs0 ?_
 refine QQ.block ?_
 refine QQ.next (fun σ=>∀a w,Rel cx w0 σ a w→Rel cx w0 (cnS k neg e L (decide (k=0∨k=2))) a w) ?_ ?_
 ·by_cases h0:k=0
  ·subst h0
   refine zs0 ?_
   exact QQ.condT rfl (QQ.skip fun a w h=>Rel.keep [1,2,6,7] [1,2] h)
  ·have g0:decide (k=0∨k=2)=decide (k=2):=decide_eq_decide.2 (by omega)
   rw [g0]
   refine zs1 h0 ?_
   refine QQ.condF rfl ?_
   refine zr0 ?_
   exact fun a w h=>Rel.keep [1,2,6,7] [1,2] h
 ·intro σ hσ
  refine QQ.from hσ ((h cx w0).mono fun e σ hq=>?_)
  cases e <;> first|exact hq|exact hq.elim
set_option maxHeartbeats 2000000 in
theorem yy (k:Int) (neg:Bool) (e:Int) (l:List Int) (hl:l.length<5000) (ol:okW l) (he : -9223372036854775808≤e∧e<9223372036854775808):QU Tryz.prog 113 [.v (Q9 k neg e l)] [.v true (cnV k neg e (val l)),.v true (.bool (cnB k neg e (val l)))]:=by
 have hZ:=FG l (by omega) ol
 have hT:=zZ l (by omega) ol
 have htl:trN (val l)≤64*l.length:=by
  rcases Nat.eq_zero_or_pos (val l) with h0|h0
  ·rw [h0];exact Nat.zero_le _
  ·exact Nat.le_of_lt (JZ h0 (UY ol))
 have hS:=wShrG_ok l (trN (val l)) (by omega) ol (by omega)
 unfold cnV cnB cnK cnN cnE cnM
 obtain ⟨v,hv⟩ : ∃v,v=val l:=⟨_,rfl⟩
 rw [←hv] at hZ hT htl hS ⊢
 clear hv ol
 unfold Q9 QZ
 obtain ⟨L,hL⟩ : ∃L,L=l.map fun n=>V.int .u64 n:=⟨_,rfl⟩
 unfold QZ at hZ hT hS
 rw [←hL] at hZ hT hS ⊢
 clear hL
 by_cases h02:k=0∨k=2
 ·rw [if_pos h02,if_pos h02,if_pos h02,if_neg (by omega),if_neg (by omega)]
  have hkn:((k.toNat:Nat):Int)=k:=by omega
  rw [X7,hkn]
  clear hT hS htl
  refine CC k neg e L fun cx w0=>?_
  rw [decide_eq_true h02]
  unfold cnS
  refine QQ.condT rfl ?_
  by_cases he0:e=0
  ·subst he0
   have hd:decide ((0:Int)=0∧v=0)=decide (v=0):=decide_eq_decide.2 (by simp)
   rw [hd]
   obtain ⟨z,hz⟩ : ∃z,z=decide (v=0):=⟨_,rfl⟩
   rw [←hz] at hZ ⊢
   refine QQ.seq ?_
   refine zq2 [(5,13),(6,13),(9,13),(10,13)] (ρ:=fun _=>[.v true (.bool z)]) (o:=by repeat' first|exact hZ|trivial|constructor) (k:=?_)
   exact QQ.ret (QK.vs rfl (by exact ⟨⟨rfl,id⟩,⟨rfl,id⟩,trivial⟩) rfl)
  ·have hd:decide (e=0∧v=0)=false:=decide_eq_false (fun h=>he0 h.1)
   rw [hd]
   refine QQ.seq ?_
   refine QQ.dregionT (Px:=px) (T:=TT) (ρ:=fun _=>[]) [(5,13),(6,13),(9,13),(10,13)] mixed (by kernel_rfl) TTe (by simp (maxSteps:=100000) (disch:=omega) only [go_sem,V.isAgg,V.flat,↓reduceIte,Nat.reduceAdd,Nat.reduceSub,Nat.reduceLT,Nat.reduceEqDiff,reduceCtorEq,Nat.reduceLeDiff,Nat.reduceBEq,Nat.reduceMul,Int.reduceToNat,he0];rfl) (by repeat' first|exact trivial|constructor) (by rfl) (by rfl) (by simp (maxSteps:=100000) (disch:=omega) only [KY,V6,HC,Hq,J9,XJ,VZ,AV.sites,AV.sitesL,Op.operands,Call.operands,List.append_toArray,List.toList_toArray,List.filter_nil,List.filter_cons,List.contains_cons,List.contains_nil,go_sem,V.isAgg,V.flat,↓reduceIte,Nat.reduceAdd,Nat.reduceSub,Nat.reduceLT,Nat.reduceEqDiff,reduceCtorEq,Nat.reduceLeDiff,Nat.reduceBEq,Nat.reduceMul,Int.reduceToNat,he0];rfl) (by rfl) ?_
   exact QQ.ret (QK.vs rfl (by exact ⟨⟨rfl,id⟩,⟨rfl,id⟩,trivial⟩) rfl)
 ·rw [if_neg h02,if_neg h02,if_neg h02]
  have h0 : ¬k=0:=fun h=>h02 (.inl h)
  have h2 : ¬k=2:=fun h=>h02 (.inr h)
  by_cases h3:k=3
  ·subst h3
   rw [if_pos rfl,if_pos rfl,if_pos rfl,if_neg (by omega),if_neg (by omega)]
   rw [X7,show (((3:Nat):Nat):Int)=3 from rfl]
   clear hT hS htl
   refine CC 3 neg e L fun cx w0=>?_
   rw [decide_eq_false h02]
   unfold cnS
   refine QQ.condF rfl ?_
   refine zs0 ?_
   refine QQ.condT rfl ?_
   cases neg with
   | true =>
     rw [Bool.not_true,Bool.false_and]
     refine zs0 ?_
     exact QQ.ret (QK.vs rfl (by exact ⟨⟨rfl,id⟩,⟨rfl,id⟩,trivial⟩) rfl)
   | false =>
     rw [Bool.not_false,Bool.true_and]
     by_cases he0:e=0
     ·subst he0
      have hd:decide ((0:Int)=0∧v=0)=decide (v=0):=decide_eq_decide.2 (by simp)
      rw [hd]
      obtain ⟨z,hz⟩ : ∃z,z=decide (v=0):=⟨_,rfl⟩
      rw [←hz] at hZ ⊢
      refine zs2 (ρ:=fun _=>[.v true (.bool z)]) (o:=by repeat' first|exact hZ|trivial|constructor) (k:=?_)
      exact QQ.ret (QK.vs rfl (by exact ⟨⟨rfl,id⟩,⟨rfl,id⟩,trivial⟩) rfl)
     ·have hd:decide (e=0∧v=0)=false:=decide_eq_false (fun h=>he0 h.1)
      rw [hd]
      refine zs1 he0 ?_
      exact QQ.ret (QK.vs rfl (by exact ⟨⟨rfl,id⟩,⟨rfl,id⟩,trivial⟩) rfl)
  rw [if_neg h3,if_neg h3,if_neg h3]
  by_cases h1:k=1
  ·subst h1
   rw [if_pos rfl]
   by_cases hin:v≠0 ∧ -1048576≤e∧e≤1048576
   ·rw [if_pos ⟨rfl,hin⟩,if_pos ⟨rfl,hin⟩,if_pos ⟨rfl,hin⟩,if_pos ⟨rfl,hin⟩]
    obtain ⟨hv0,hi1,hi2⟩:=hin
    rw [decide_eq_false hv0] at hZ
    have hd:decide (v≠0 ∧ -1048576≤e∧e≤1048576∧e+(trN v:Int)≤1048576)=decide (e+(trN v:Int)≤1048576):=decide_eq_decide.2 (by constructor;exact fun h=>h.2.2.2;exact fun h=>⟨hv0,hi1,hi2,h⟩)
    rw [hd]
    obtain ⟨t,ht⟩ : ∃t,t=trN v:=⟨_,rfl⟩
    rw [←ht] at hT hS htl ⊢
    unfold YG QZ
    obtain ⟨Q,hQ⟩ : ∃Q,Q=(QX (v/2^t)).map fun n=>V.int .u64 n:=⟨_,rfl⟩
    rw [←hQ] at hS ⊢
    have w1:IntKind.i64.wrap (e+(t:Int))=e+t:=by rw [QV] <;> omega
    have g1 : ¬e < -1048576:=by omega
    have g2 : ¬(1048576:Int)<e:=by omega
    clear hd ht hQ hv0
    refine CC 1 neg e L fun cx w0=>?_
    rw [decide_eq_false h02]
    unfold cnS
    refine QQ.condF rfl ?_
    refine zs0 ?_
    refine QQ.condF rfl ?_
    refine zs0 ?_
    refine QQ.condT rfl ?_
    refine QQ.seq ?_
    refine zs3 (ρ:=fun _=>[.v true (.bool false)]) (an g1 <| g2) (o:=by repeat' first|exact hZ|trivial|constructor) (k:=?_)
    refine QQ.condF rfl (QQ.skip ?_)
    show QQ _ _ _ _ _ _ _
    refine zs2 (ρ:=fun _=>[.v true (.int .i64 t)]) (o:=by repeat' first|exact hT|trivial|constructor) (k:=?_)
    refine zd3 [(11,16),(12,16)] (ρ:=fun _=>[.v true (.sl 1 Q)]) w1 (o:=by repeat' first|exact hS|trivial|constructor) (k:=?_)
    exact QQ.ret (QK.vs rfl (by exact ⟨⟨rfl,id⟩,⟨rfl,id⟩,trivial⟩) rfl)
   ·rw [if_neg (fun h=>hin h.2),if_neg (fun h=>hin h.2),if_neg (fun h=>hin h.2),if_neg (fun h=>hin h.2)]
    rw [decide_eq_false (fun h=>hin ⟨h.1,h.2.1,h.2.2.1⟩),X7,show (((0:Nat):Nat):Int)=0 from rfl]
    refine CC 1 neg e L fun cx w0=>?_
    rw [decide_eq_false h02]
    unfold cnS
    refine QQ.condF rfl ?_
    refine zs0 ?_
    refine QQ.condF rfl ?_
    refine zs0 ?_
    refine QQ.condT rfl ?_
    refine QQ.seq ?_
    by_cases hv0:v=0
    ·rw [decide_eq_true hv0] at hZ
     refine zs2 (ρ:=fun _=>[.v true (.bool true)]) (o:=by repeat' first|exact hZ|trivial|constructor) (k:=?_)
     refine QQ.condT rfl ?_
     refine zs0 ?_
     exact QQ.ret (QK.vs rfl (by exact ⟨⟨rfl,id⟩,⟨rfl,id⟩,trivial⟩) rfl)
    ·rw [decide_eq_false hv0] at hZ
     by_cases g1:e < -1048576
     ·refine zs3 (ρ:=fun _=>[.v true (.bool false)]) g1 (o:=by repeat' first|exact hZ|trivial|constructor) (k:=?_)
      refine QQ.condT rfl ?_
      refine zs0 ?_
      exact QQ.ret (QK.vs rfl (by exact ⟨⟨rfl,id⟩,⟨rfl,id⟩,trivial⟩) rfl)
     ·have g2:(1048576:Int)<e:=by omega
      refine zs3 (ρ:=fun _=>[.v true (.bool false)]) (an g1 <| g2) (o:=by repeat' first|exact hZ|trivial|constructor) (k:=?_)
      refine QQ.condT rfl ?_
      refine zs0 ?_
      exact QQ.ret (QK.vs rfl (by exact ⟨⟨rfl,id⟩,⟨rfl,id⟩,trivial⟩) rfl)
  ·rw [if_neg h1,if_neg (fun h=>h1 h.1),if_neg (fun h=>h1 h.1),if_neg (fun h=>h1 h.1),if_neg (fun h=>h1 h.1)]
   rw [X7,show (((0:Nat):Nat):Int)=0 from rfl]
   clear hZ hT hS htl
   refine QU.of Tryz.func113 rfl rfl fun cx w0=>?_
   rw [show Tryz.f113.ntmps=75 from rfl]
   refine zs0 ?_
   refine QQ.seq ?_
   refine zs0 ?_
   refine QQ.block ?_
   refine QQ.seq ?_
   refine zs1 h0 ?_
   refine QQ.condF rfl ?_
   refine zr1 h2 ?_
   show QQ _ _ _ _ _ _ _
   refine QQ.condF rfl ?_
   refine zs1 h3 ?_
   refine QQ.condF rfl ?_
   refine zs1 h1 ?_
   refine QQ.condF rfl (QQ.skip ?_)
   show QQ _ _ _ _ _ _ _
   refine zs0 ?_
   exact QQ.ret (QK.vs rfl (by exact ⟨⟨rfl,id⟩,⟨rfl,id⟩,trivial⟩) rfl)
def hoI (K p:Nat) (e:Int) (m:Nat):Bool:=decide (blN m≤p∧1-gK K-((p:Int)-1)≤e∧e+blN m-1≤gK K)
instance (k P:Int):Decidable (G6 k P):=inferInstanceAs (Decidable (_∧_))
def hoB (K p:Nat) (k:Int) (neg:Bool) (e:Int) (v:Nat):Bool:=cnB k neg e v&&(decide (k≠1)||hoI K p (cnE k e v) (cnM k e v))
theorem yz {k:Int} {neg:Bool} {e:Int} {v:Nat} (h:cnB k neg e v=true):(k=1↔cnK k e v=1)∧(-1048576≤cnE k e v∧cnE k e v≤1048576)∧(k=1→0<v∧cnE k e v=e+trN v∧cnM k e v=v/2^trN v∧cnN k neg e v=neg):=by
 unfold cnB at h
 unfold cnK cnE cnM cnN
 split at h
 ·next h1 =>
  rw [if_pos h1,if_neg (by omega),if_neg (by omega),if_pos h1]
  exact ⟨by omega,by omega,by omega⟩
 ·next h1 =>
  split at h
  ·next h2 =>
   rw [if_neg h1,if_pos h2,if_neg (by omega),if_neg (by omega),if_neg h1,if_pos h2]
   exact ⟨by omega,by omega,by omega⟩
  ·next h2 =>
   split at h
   ·next h3 =>
    obtain ⟨a,b,c,d⟩:=of_decide_eq_true h
    rw [if_neg h1,if_neg h2,if_pos ⟨h3,a,b,c⟩,if_pos ⟨h3,a,b,c⟩,if_pos ⟨h3,a,b,c⟩,if_neg h1,if_neg h2,if_pos ⟨h3,a,b,c⟩]
    exact ⟨by omega,by omega,fun _=>⟨by omega,rfl,rfl,rfl⟩⟩
   ·cases h
set_option maxHeartbeats 2000000 in
theorem holds_ok (K p:Nat) (hK:1≤K∧K≤14) (hp:2≤p∧p≤256) (k:Int) (neg:Bool) (e:Int) (l:List Int) (hl:l.length<5000) (ol:okW l) (he : -9223372036854775808≤e∧e<9223372036854775808) :
 QU Tryz.prog 251 [.v (Q3 ((K+1:Nat):Int) p),.v (Q9 k neg e l)] [.v true (cnV k neg e (val l)),.v true (.bool (hoB K p k neg e (val l)))]:=by
 have hC:=yy k neg e l hl ol he
 have hR:=E3 K p hK (by omega)
 have hG:=U6 hK
 have hcn:=fun h=>yz (k:=k) (neg:=neg) (e:=e) (v:=val l) h
 have hml:(QX (cnM k e (val l))).length<6000:=by
  have h1:cnM k e (val l)≤val l:=by unfold cnM;split;exact Nat.div_le_self _ _;exact Nat.zero_le _
  have h2:=Zk h1
  have h3:=ZU (ZY ol)
  omega
 have hL:=H4 (QX (cnM k e (val l))) (by omega) (QY _).1
 rw [(QY _).2.2] at hL
 have hbl:blN (cnM k e (val l))≤64*6000:=by
  have:=X6 (UY (QY (cnM k e (val l))).1)
  rw [(QY _).2.2] at this
  omega
 unfold hoB
 unfold cnV hoI
 obtain ⟨b,hb⟩ : ∃b,b=cnB k neg e (val l):=⟨_,rfl⟩
 obtain ⟨ky,hky⟩ : ∃x,x=cnK k e (val l):=⟨_,rfl⟩
 obtain ⟨ny,hny⟩ : ∃x,x=cnN k neg e (val l):=⟨_,rfl⟩
 obtain ⟨ey,hey⟩ : ∃x,x=cnE k e (val l):=⟨_,rfl⟩
 obtain ⟨my,hmy⟩ : ∃x,x=cnM k e (val l):=⟨_,rfl⟩
 unfold cnV at hC
 rw [←hb,←hky,←hny,←hey,←hmy] at hC
 rw [←hb,←hky,←hny,←hey,←hmy] at hcn
 rw [←hmy] at hL hbl
 rw [←hb,←hky,←hny,←hey,←hmy]
 obtain ⟨n,hn⟩ : ∃n,n=blN my:=⟨_,rfl⟩
 rw [←hn] at hL hbl ⊢
 obtain ⟨G,hG'⟩ : ∃G,G=gK K:=⟨_,rfl⟩
 rw [←hG'] at hR hG ⊢
 obtain ⟨F,hF⟩ : ∃F:Int,F=((K+1:Nat):Int):=⟨_,rfl⟩
 rw [←hF] at hR ⊢
 unfold YG QZ at hC ⊢
 unfold QZ at hL
 obtain ⟨Q,hQ⟩ : ∃Q,Q=(QX my).map fun n=>V.int .u64 n:=⟨_,rfl⟩
 rw [←hQ] at hC hL ⊢
 unfold Q9 QZ at hC ⊢
 obtain ⟨L,hL'⟩ : ∃L,L=l.map fun n=>V.int .u64 n:=⟨_,rfl⟩
 rw [←hL'] at hC ⊢
 unfold Q3 at hR ⊢
 obtain ⟨ki,hki⟩ : ∃x:Int,x=(ky:Int):=⟨_,rfl⟩
 rw [←hki] at hC ⊢
 have hko:b=true→(k=1↔ki=1)∧(-1048576≤ey∧ey≤1048576):=fun h=>by
  obtain ⟨h1,h2,_⟩:=hcn h
  exact ⟨by omega,h2⟩
 clear hL' hQ hF hG' hn hb hky hny hey hmy hcn ol hml hki
 cases b with
 | false =>
   rw [Bool.false_and]
   refine QU.of Tryz.func251 rfl rfl fun cx w0=>?_
   rw [show Tryz.f251.ntmps=57 from rfl]
   refine zs0 ?_
   refine zs2 (ρ:=fun _=>[.v true (.agg [.int .i64 ki,.bool ny,.int .i64 ey,.sl 1 Q]),.v true (.bool false)]) (o:=by repeat' first|exact hC|trivial|constructor) (k:=?_)
   refine QQ.seq ?_
   refine zs0 ?_
   refine QQ.condT rfl ?_
   refine zs0 ?_
   exact QQ.ret (QK.vs rfl (by exact ⟨⟨rfl,id⟩,⟨rfl,id⟩,trivial⟩) rfl)
 | true =>
   obtain ⟨hk1,he1,he2⟩:=hko rfl
   rw [Bool.true_and]
   by_cases h1:k=1
   ·have h1':ki=1:=hk1.1 h1
    subst h1'
    rw [decide_eq_false (not_not_intro h1),Bool.false_or]
    have w1:IntKind.i64.wrap (ey+(n:Int))=ey+n:=by rw [QV] <;> omega
    have w2:IntKind.i64.wrap (ey+(n:Int)-1)=ey+n-1:=by rw [QV] <;> omega
    refine QU.of Tryz.func251 rfl rfl fun cx w0=>?_
    rw [show Tryz.f251.ntmps=57 from rfl]
    refine zs0 ?_
    refine zs2 (ρ:=fun _=>[.v true (.agg [.int .i64 1,.bool ny,.int .i64 ey,.sl 1 Q]),.v true (.bool true)]) (o:=by repeat' first|exact hC|trivial|constructor) (k:=?_)
    refine QQ.seq ?_
    refine zs0 ?_
    refine QQ.condF rfl (QQ.skip ?_)
    refine zs2 (ρ:=fun _=>[.v true (.int .i64 (1-G)),.v true (.int .i64 G),.v true (.int .i64 (1-G-(p-1))),.v true (.int .i64 0)]) (o:=by repeat' first|exact hR|trivial|constructor) (k:=?_)
    refine zs2 (ρ:=fun _=>[.v true (.int .i64 n)]) (o:=by repeat' first|exact hL|trivial|constructor) (k:=?_)
    by_cases a1:(n:Int)≤(p:Int)
    ·by_cases a2:1-G-((p:Int)-1)≤ey
     ·have hd:decide (n≤p∧1-G-((p:Int)-1)≤ey∧ey+(n:Int)-1≤G)=decide (ey+(n:Int)-1≤G):=decide_eq_decide.2 (by omega)
      rw [hd]
      refine QQ.dstepT (Px:=px) (T:=TT) (ρ:=fun _=>[]) [(2,20),(3,20),(6,20),(7,20),(12,20),(13,20)] mixed (by kernel_rfl) TTe (by simp (maxSteps:=100000) (disch:=omega) only [go_sem,V.isAgg,V.flat,↓reduceIte,Nat.reduceAdd,Nat.reduceSub,Nat.reduceLT,Nat.reduceEqDiff,reduceCtorEq,Nat.reduceLeDiff,Nat.reduceBEq,Nat.reduceMul,Int.reduceToNat,a1,a2,w1,w2];rfl) (by repeat' first|exact trivial|constructor) (by rfl) (by rfl) (by simp (maxSteps:=100000) (disch:=omega) only [KY,V6,HC,Hq,J9,XJ,VZ,AV.sites,AV.sitesL,Op.operands,Call.operands,List.append_toArray,List.toList_toArray,List.filter_nil,List.filter_cons,List.contains_cons,List.contains_nil,go_sem,V.isAgg,V.flat,↓reduceIte,Nat.reduceAdd,Nat.reduceSub,Nat.reduceLT,Nat.reduceEqDiff,reduceCtorEq,Nat.reduceLeDiff,Nat.reduceBEq,Nat.reduceMul,Int.reduceToNat,a1,a2,w1,w2];rfl) (by rfl) ?_
      exact QQ.ret (QK.vs rfl (by exact ⟨⟨rfl,id⟩,⟨rfl,id⟩,trivial⟩) rfl)
     ·rw [decide_eq_false (fun h=>a2 h.2.1)]
      refine QQ.dstepT (Px:=px) (T:=TT) (ρ:=fun _=>[]) [(2,20),(3,20),(6,20),(7,20),(12,20),(13,20)] mixed (by kernel_rfl) TTe (by simp (maxSteps:=100000) (disch:=omega) only [go_sem,V.isAgg,V.flat,↓reduceIte,Nat.reduceAdd,Nat.reduceSub,Nat.reduceLT,Nat.reduceEqDiff,reduceCtorEq,Nat.reduceLeDiff,Nat.reduceBEq,Nat.reduceMul,Int.reduceToNat,a1,a2];rfl) (by repeat' first|exact trivial|constructor) (by rfl) (by rfl) (by simp (maxSteps:=100000) (disch:=omega) only [KY,V6,HC,Hq,J9,XJ,VZ,AV.sites,AV.sitesL,Op.operands,Call.operands,List.append_toArray,List.toList_toArray,List.filter_nil,List.filter_cons,List.contains_cons,List.contains_nil,go_sem,V.isAgg,V.flat,↓reduceIte,Nat.reduceAdd,Nat.reduceSub,Nat.reduceLT,Nat.reduceEqDiff,reduceCtorEq,Nat.reduceLeDiff,Nat.reduceBEq,Nat.reduceMul,Int.reduceToNat,a1,a2];rfl) (by rfl) ?_
      exact QQ.ret (QK.vs rfl (by exact ⟨⟨rfl,id⟩,⟨rfl,id⟩,trivial⟩) rfl)
    ·rw [decide_eq_false (fun h=>a1 (by omega))]
     refine QQ.dstepT (Px:=px) (T:=TT) (ρ:=fun _=>[]) [(2,20),(3,20),(6,20),(7,20),(12,20),(13,20)] mixed (by kernel_rfl) TTe (by simp (maxSteps:=100000) (disch:=omega) only [go_sem,V.isAgg,V.flat,↓reduceIte,Nat.reduceAdd,Nat.reduceSub,Nat.reduceLT,Nat.reduceEqDiff,reduceCtorEq,Nat.reduceLeDiff,Nat.reduceBEq,Nat.reduceMul,Int.reduceToNat,a1];rfl) (by repeat' first|exact trivial|constructor) (by rfl) (by rfl) (by simp (maxSteps:=100000) (disch:=omega) only [KY,V6,HC,Hq,J9,XJ,VZ,AV.sites,AV.sitesL,Op.operands,Call.operands,List.append_toArray,List.toList_toArray,List.filter_nil,List.filter_cons,List.contains_cons,List.contains_nil,go_sem,V.isAgg,V.flat,↓reduceIte,Nat.reduceAdd,Nat.reduceSub,Nat.reduceLT,Nat.reduceEqDiff,reduceCtorEq,Nat.reduceLeDiff,Nat.reduceBEq,Nat.reduceMul,Int.reduceToNat,a1];rfl) (by rfl) ?_
     exact QQ.ret (QK.vs rfl (by exact ⟨⟨rfl,id⟩,⟨rfl,id⟩,trivial⟩) rfl)
   ·have h1' : ¬ki=1:=fun h=>h1 (hk1.2 h)
    rw [decide_eq_true h1,Bool.true_or]
    refine QU.of Tryz.func251 rfl rfl fun cx w0=>?_
    rw [show Tryz.f251.ntmps=57 from rfl]
    refine zs0 ?_
    refine zs2 (ρ:=fun _=>[.v true (.agg [.int .i64 ki,.bool ny,.int .i64 ey,.sl 1 Q]),.v true (.bool true)]) (o:=by repeat' first|exact hC|trivial|constructor) (k:=?_)
    refine QQ.seq ?_
    refine zs1 h1' ?_
    refine QQ.condT rfl ?_
    refine zs0 ?_
    exact QQ.ret (QK.vs rfl (by exact ⟨⟨rfl,id⟩,⟨rfl,id⟩,trivial⟩) rfl)
def nuE (k P:Int) (okr:Bool) (kd:Int) (neg:Bool) (e:Int) (l:List Int):Int :=
 if 4096<l.length then 2 else if okr=false then 1 else if ¬G6 k P then 150 else if hoB (k-1).toNat P.toNat kd neg e (val l)=false then 151 else 0
def nuL (k P:Int) (okr:Bool) (kd:Int) (neg:Bool) (e:Int) (l:List Int):List V:=if nuE k P okr kd neg e l=0 then [cnV kd neg e (val l)] else []
set_option maxHeartbeats 2000000 in
theorem Floats_ok (k P:Int) (kd:Int) (neg:Bool) (e:Int) (l:List Int) (hl:l.length<5000) (ol:okW l) (he : -9223372036854775808≤e∧e<9223372036854775808) :
 QU Tryz.prog 202 [.v (Q3 k P),.v (.sl 4 [Q9 kd neg e l])] [.v true (.sl 4 (nuL k P true kd neg e l)),.v true (.int .i64 (nuE k P true kd neg e l))]:=by
 have hLg:=flarge_ok kd neg e l
 have hC:=qf k P
 have hH:G6 k P→QU Tryz.prog 251 [.v (Q3 k P),.v (Q9 kd neg e l)] [.v true (cnV kd neg e (val l)),.v true (.bool (hoB (k-1).toNat P.toNat kd neg e (val l)))]:=fun h=>by
  obtain ⟨⟨h1,h2⟩,h3,h4⟩:=h
  have:=holds_ok (k-1).toNat P.toNat (by omega) (by omega) kd neg e l hl ol he
  rw [show (((k-1).toNat+1:Nat):Int)=k from by omega,show ((P.toNat:Nat):Int)=P from by omega] at this
  exact this
 have hcv : ∃ka na ea da,cnV kd neg e (val l) = .agg [.int .i64 ka,.bool na,.int .i64 ea,.sl 1 da]:=⟨_,_,_,_,rfl⟩
 unfold nuL
 unfold nuE
 obtain ⟨h,hh⟩ : ∃h,h=hoB (k-1).toNat P.toNat kd neg e (val l):=⟨_,rfl⟩
 rw [←hh] at hH ⊢
 obtain ⟨ka,na,ea,da,hcv⟩:=hcv
 rw [hcv] at hH ⊢
 obtain ⟨n,hn⟩ : ∃n,n=l.length:=⟨_,rfl⟩
 rw [←hn] at hLg ⊢
 unfold Q9 QZ at hLg hH ⊢
 obtain ⟨L,hL'⟩ : ∃L,L=l.map fun n=>V.int .u64 n:=⟨_,rfl⟩
 rw [←hL'] at hLg hH ⊢
 unfold Q3 at hC hH ⊢
 clear hL' hn hh hcv ol hl
 refine QU.of Tryz.func202 rfl rfl fun cx w0=>?_
 rw [show Tryz.f202.ntmps=48 from rfl]
 refine zs0 ?_
 refine QQ.next (fun σ=>¬4096<n ∧ ∀a w,Rel cx w0 σ a w→Rel cx w0 {nt:=48,env:=[(1,.v false (.sl 4 [.agg [.int .i64 kd,.bool neg,.int .i64 e,.sl 1 L]])),(2,.ptr 2 0 [] 0)],mem:=[(2,.box 23 (.v false (.agg [.int .i64 k,.int .i64 P])))]} a w) ?_ ?_
 ·refine zs0 ?_
  refine QQ.loopB (fun i:Nat => {nt:=48,env:=[(16,.v true (.int .i64 i)),(15,.v true (.int .i64 1)),(14,.v false (.sl 4 [.agg [.int .i64 kd,.bool neg,.int .i64 e,.sl 1 L]])),(1,.v false (.sl 4 [.agg [.int .i64 kd,.bool neg,.int .i64 e,.sl 1 L]])),(2,.ptr 2 0 [] 0)],mem:=[(2,.box 23 (.v false (.agg [.int .i64 k,.int .i64 P])))]}) (fun i=>i=0∨i=1 ∧ ¬4096<n) (fun i=>1-i) 0 (.inl rfl) (fun a w h=>Rel.keep [16,15,14,1,2] [2] h) ?_
  rintro i hi
  by_cases hi0:i=0
  ·subst hi0
   refine zs0 ?_
   refine QQ.seq ?_
   refine QQ.condT rfl (QQ.skip ?_)
   show QQ _ _ _ _ _ _ _
   refine QQ.next (fun σ=>¬4096<n ∧ ∀a w,Rel cx w0 σ a w→Rel cx w0 {nt:=48,env:=[(16,.v true (.int .i64 0)),(15,.v true (.int .i64 1)),(14,.v false (.sl 4 [.agg [.int .i64 kd,.bool neg,.int .i64 e,.sl 1 L]])),(1,.v false (.sl 4 [.agg [.int .i64 kd,.bool neg,.int .i64 e,.sl 1 L]])),(2,.ptr 2 0 [] 0)],mem:=[(2,.box 23 (.v false (.agg [.int .i64 k,.int .i64 P])))]} a w) ?_ ?_
   ·refine QQ.blockN ?_
    refine zs0 ?_
    by_cases hn:4096<n
    ·rw [decide_eq_true hn] at hLg
     rw [if_pos hn,if_neg (by decide)]
     refine zs2 (ρ:=fun _=>[.v true (.bool true)]) (o:=by repeat' first|exact hLg|trivial|constructor) (k:=?_)
     refine QQ.condT rfl ?_
     refine zs0 ?_
     exact QQ.ret (QK.vs rfl (by exact ⟨rfl,⟨rfl,id⟩,trivial⟩) rfl)
    ·rw [decide_eq_false hn] at hLg
     refine zs2 (ρ:=fun _=>[.v true (.bool false)]) (o:=by repeat' first|exact hLg|trivial|constructor) (k:=?_)
     exact QQ.condF rfl (QQ.skip ⟨hn,fun a w h=>Rel.keep [16,15,14,1,2] [2] h⟩)
   ·rintro σ ⟨hn,hσ⟩
    refine QQ.from hσ ?_
    refine zr0 ?_
    exact ⟨1,.inr ⟨rfl,hn⟩,(show 1-1<1-0 by decide),fun a w h=>Rel.keep [16,15,14,1,2] [2] h⟩
  ·have hi1:i=1 ∧ ¬4096<n:=by omega
   obtain ⟨rfl,hn⟩:=hi1
   refine zs0 ?_
   refine QQ.seq ?_
   exact QQ.condF rfl (QQ.exit ⟨rfl,hn,fun a w h=>Rel.keep [1,2] [2] h⟩)
 ·rintro σ ⟨hn,hσ⟩
  refine QQ.from hσ ?_
  rw [if_neg hn,if_neg (show ¬true=false by decide)]
  refine QQ.seq ?_
  by_cases hf:G6 k P
  ·have hH:=hH hf
   have hf':=hf
   unfold G6 at hf'
   rw [if_pos hf'] at hC
   rw [if_neg (not_not_intro hf)]
   refine zs2 (ρ:=fun _=>[.v true (.int .i64 0)]) (o:=by repeat' first|exact hC|trivial|constructor) (k:=?_)
   refine zs0 ?_
   refine QQ.condF rfl (QQ.skip ?_)
   show QQ _ _ _ _ _ _ _
   refine zs0 ?_
   refine QQ.next (fun σ=>h=true ∧ ∀a w,Rel cx w0 σ a w→Rel cx w0 {nt:=48,env:=[(9,.own 45 0 1)],mem:=[(45,.buf 28 4 true [.agg [.int .i64 ka,.bool na,.int .i64 ea,.sl 1 da]])]} a w) ?_ ?_
   ·refine zs0 ?_
    refine QQ.loopB (fun i:Nat=>if i=0 then {nt:=48,env:=[(30,.v true (.int .i64 0)),(29,.v true (.int .i64 1)),(28,.v false (.sl 4 [.agg [.int .i64 kd,.bool neg,.int .i64 e,.sl 1 L]])),(9,.nil),(1,.v false (.sl 4 [.agg [.int .i64 kd,.bool neg,.int .i64 e,.sl 1 L]])),(2,.ptr 2 0 [] 0)],mem:=[(2,.box 23 (.v false (.agg [.int .i64 k,.int .i64 P])))]}
     else {nt:=48,env:=[(30,.v true (.int .i64 1)),(29,.v true (.int .i64 1)),(9,.own 45 0 1)],mem:=[(45,.buf 28 4 true [.agg [.int .i64 ka,.bool na,.int .i64 ea,.sl 1 da]])]}) (fun i=>i=0∨i=1∧h=true) (fun i=>1-i) 0 (.inl rfl) (fun a w h=>by rw [if_pos rfl];exact Rel.keep [30,29,28,9,1,2] [2] h) ?_
    rintro i hi
    by_cases hi0:i=0
    ·subst hi0
     rw [if_pos rfl]
     refine zs0 ?_
     refine QQ.seq ?_
     refine QQ.condT rfl (QQ.skip ?_)
     show QQ _ _ _ _ _ _ _
     refine QQ.next (fun σ=>h=true ∧ ∀a w,Rel cx w0 σ a w→Rel cx w0 {nt:=48,env:=[(30,.v true (.int .i64 0)),(29,.v true (.int .i64 1)),(9,.own 45 0 1)],mem:=[(45,.buf 28 4 true [.agg [.int .i64 ka,.bool na,.int .i64 ea,.sl 1 da]])]} a w) ?_ ?_
     ·refine QQ.blockN ?_
      refine zs0 ?_
      refine zs2 (ρ:=fun _=>[.v true (.agg [.int .i64 ka,.bool na,.int .i64 ea,.sl 1 da]),.v true (.bool h)]) (o:=by repeat' first|exact hH|trivial|constructor) (k:=?_)
      refine QQ.seq ?_
      cases h with
      | false =>
        rw [if_pos rfl,if_neg (by decide)]
        refine zs0 ?_
        refine QQ.condT rfl ?_
        refine zs0 ?_
        exact QQ.ret (QK.vs rfl (by exact ⟨rfl,⟨rfl,id⟩,trivial⟩) rfl)
      | true =>
        refine zs0 ?_
        refine QQ.condF rfl (QQ.skip ?_)
        show QQ _ _ _ _ _ _ _
        refine zr0 ?_
        exact ⟨rfl,fun a w h=>Rel.keep [30,29,9] [45] h⟩
     ·rintro σ ⟨hn,hσ⟩
      refine QQ.from hσ ?_
      refine zr0 ?_
      exact ⟨1,.inr ⟨rfl,hn⟩,(show 1-1<1-0 by decide),fun a w h=>by show Rel cx w0 (if (1:Nat)=0 then _ else _) a w;rw [if_neg (by decide)];exact Rel.keep [30,29,9] [45] h⟩
    ·have hi1:i=1∧h=true:=by rcases hi with h|h;exact absurd h hi0;exact h
     obtain ⟨rfl,hn⟩:=hi1
     rw [if_neg (by decide)]
     refine zs0 ?_
     refine QQ.seq ?_
     exact QQ.condF rfl (QQ.exit ⟨rfl,hn,fun a w h=>Rel.keep [9] [45] h⟩)
   ·rintro σ ⟨hn,hσ⟩
    refine QQ.from hσ ?_
    subst hn
    rw [if_neg (show ¬true=false by decide),if_pos rfl]
    refine zs0 ?_
    exact QQ.ret (QK.vs rfl (by exact ⟨⟨rfl,rfl,id,rfl⟩,⟨rfl,id⟩,trivial⟩) rfl)
  ·have hf':=hf
   unfold G6 at hf'
   rw [if_neg hf'] at hC
   rw [if_pos hf,if_neg (by decide)]
   refine zs2 (ρ:=fun _=>[.v true (.int .i64 150)]) (o:=by repeat' first|exact hC|trivial|constructor) (k:=?_)
   refine zs0 ?_
   refine QQ.condT rfl ?_
   refine zs0 ?_
   exact QQ.ret (QK.vs rfl (by exact ⟨rfl,⟨rfl,id⟩,trivial⟩) rfl)
def nuV (k P:Int) (okr:Bool) (kd:Int) (neg:Bool) (e:Int) (l:List Int):V:=if nuE k P okr kd neg e l=0 then cnV kd neg e (val l) else YG 0 false 0 0
set_option maxHeartbeats 2000000 in
theorem fArgs_ok (k P r:Int) (out:Bool) (kd:Int) (neg:Bool) (e:Int) (l:List Int) (hl:l.length<5000) (ol:okW l) (he : -9223372036854775808≤e∧e<9223372036854775808) :
 QU Tryz.prog 126 [.v (Q3 k P),.v (.int .i64 r),.v (.bool out),.v (.sl 4 [Q9 kd neg e l])] [.v true (.sl 4 (nuL k P (decide (0≤r∧r≤4) && !out) kd neg e l)),.v true (.int .i64 (nuE k P (decide (0≤r∧r≤4) && !out) kd neg e l))]:=by
 have hR:=Right_ok r
 have hF:=Floats_ok k P kd neg e l hl ol he
 obtain ⟨rr,hrr⟩ : ∃b,b=decide (0≤r∧r≤4):=⟨_,rfl⟩
 rw [←hrr] at hR ⊢
 have e1 : ∀b,nuE k P b kd neg e l=if 4096<l.length then 2 else if b=false then 1 else nuE k P true kd neg e l:=fun b=>by
  unfold nuE
  by_cases h:4096<l.length
  ·rw [if_pos h,if_pos h]
  ·rw [if_neg h,if_neg h,if_neg h]
   cases b <;> simp
 have e2 : ∀b,nuL k P b kd neg e l=if 4096<l.length then [] else if b=false then [] else nuL k P true kd neg e l:=fun b=>by
  unfold nuL
  rw [e1 b]
  by_cases h:4096<l.length
  ·rw [if_pos h,if_pos h,if_neg (by decide)]
  ·rw [if_neg h,if_neg h]
   cases b
   ·rw [if_pos rfl,if_pos rfl,if_neg (by decide)]
   ·rw [if_neg (show ¬true=false by decide),if_neg (show ¬true=false by decide)]
 rw [e1,e2]
 obtain ⟨E,hE⟩ : ∃E,E=nuE k P true kd neg e l:=⟨_,rfl⟩
 obtain ⟨ls,hls⟩ : ∃E,E=nuL k P true kd neg e l:=⟨_,rfl⟩
 rw [←hE,←hls] at hF ⊢
 obtain ⟨n,hn⟩ : ∃n,n=l.length:=⟨_,rfl⟩
 rw [←hn]
 unfold Q9 QZ at hF ⊢
 obtain ⟨L,hL'⟩ : ∃L,L=l.map fun n=>V.int .u64 n:=⟨_,rfl⟩
 have hLn:L.length=n:=by rw [hL',List.length_map,hn]
 rw [←hL'] at hF ⊢
 unfold Q3 at hF ⊢
 clear hL' hn hrr ol hl e1 e2 hE hls
 refine QU.of Tryz.func126 rfl rfl fun cx w0=>?_
 rw [show Tryz.f126.ntmps=34 from rfl]
 refine zs0 ?_
 refine QQ.next (fun σ=>¬4096<n ∧ ∀a w,Rel cx w0 σ a w→Rel cx w0 {nt:=34,env:=[(1,.v true (.int .i64 r)),(2,.v true (.bool out)),(3,.v false (.sl 4 [.agg [.int .i64 kd,.bool neg,.int .i64 e,.sl 1 L]])),(4,.ptr 4 0 [] 0)],mem:=[(4,.box 23 (.v false (.agg [.int .i64 k,.int .i64 P])))]} a w) ?_ ?_
 ·refine zs0 ?_
  refine QQ.loopB (fun i:Nat => {nt:=34,env:=[(14,.v true (.int .i64 i)),(13,.v true (.int .i64 1)),(12,.v false (.sl 4 [.agg [.int .i64 kd,.bool neg,.int .i64 e,.sl 1 L]])),(1,.v true (.int .i64 r)),(2,.v true (.bool out)),(3,.v false (.sl 4 [.agg [.int .i64 kd,.bool neg,.int .i64 e,.sl 1 L]])),(4,.ptr 4 0 [] 0)],mem:=[(4,.box 23 (.v false (.agg [.int .i64 k,.int .i64 P])))]}) (fun i=>i=0∨i=1 ∧ ¬4096<n) (fun i=>1-i) 0 (.inl rfl) (fun a w h=>Rel.keep [14,13,12,1,2,3,4] [4] h) ?_
  rintro i hi
  by_cases hi0:i=0
  ·subst hi0
   refine zs0 ?_
   refine QQ.seq ?_
   refine QQ.condT rfl (QQ.skip ?_)
   show QQ _ _ _ _ _ _ _
   refine QQ.next (fun σ=>¬4096<n ∧ ∀a w,Rel cx w0 σ a w→Rel cx w0 {nt:=34,env:=[(14,.v true (.int .i64 0)),(13,.v true (.int .i64 1)),(12,.v false (.sl 4 [.agg [.int .i64 kd,.bool neg,.int .i64 e,.sl 1 L]])),(1,.v true (.int .i64 r)),(2,.v true (.bool out)),(3,.v false (.sl 4 [.agg [.int .i64 kd,.bool neg,.int .i64 e,.sl 1 L]])),(4,.ptr 4 0 [] 0)],mem:=[(4,.box 23 (.v false (.agg [.int .i64 k,.int .i64 P])))]} a w) ?_ ?_
   ·refine QQ.blockN ?_
    refine zs0 ?_
    by_cases hn:4096<n
    ·rw [if_pos hn,if_pos hn]
     have g:(4096:Int)<(L.length:Int):=by omega
     refine zs1 g ?_
     refine QQ.condT rfl ?_
     refine zs0 ?_
     exact QQ.ret (QK.vs rfl (by exact ⟨rfl,⟨rfl,id⟩,trivial⟩) rfl)
    ·have g : ¬(4096:Int)<(L.length:Int):=by omega
     refine zs1 g ?_
     exact QQ.condF rfl (QQ.skip ⟨hn,fun a w h=>Rel.keep [14,13,12,1,2,3,4] [4] h⟩)
   ·rintro σ ⟨hn,hσ⟩
    refine QQ.from hσ ?_
    refine zr0 ?_
    exact ⟨1,.inr ⟨rfl,hn⟩,(show 1-1<1-0 by decide),fun a w h=>Rel.keep [14,13,12,1,2,3,4] [4] h⟩
  ·have hi1:i=1 ∧ ¬4096<n:=by omega
   obtain ⟨rfl,hn⟩:=hi1
   refine zs0 ?_
   refine QQ.seq ?_
   exact QQ.condF rfl (QQ.exit ⟨rfl,hn,fun a w h=>Rel.keep [1,2,3,4] [4] h⟩)
 ·rintro σ ⟨hn,hσ⟩
  refine QQ.from hσ ?_
  rw [if_neg hn,if_neg hn]
  refine QQ.seq ?_
  cases rr with
  | false =>
    rw [Bool.false_and,if_pos rfl,if_pos rfl]
    refine zs2 (ρ:=fun _=>[.v true (.bool false)]) (o:=by repeat' first|exact hR|trivial|constructor) (k:=?_)
    refine QQ.condT rfl ?_
    refine zs0 ?_
    exact QQ.ret (QK.vs rfl (by exact ⟨rfl,⟨rfl,id⟩,trivial⟩) rfl)
  | true =>
    cases out with
    | true =>
      rw [Bool.true_and,Bool.not_true,if_pos rfl,if_pos rfl]
      refine zs2 (ρ:=fun _=>[.v true (.bool true)]) (o:=by repeat' first|exact hR|trivial|constructor) (k:=?_)
      refine QQ.condT rfl ?_
      refine zs0 ?_
      exact QQ.ret (QK.vs rfl (by exact ⟨rfl,⟨rfl,id⟩,trivial⟩) rfl)
    | false =>
      rw [Bool.true_and,Bool.not_false,if_neg (show ¬true=false by decide),if_neg (show ¬true=false by decide)]
      refine zs2 (ρ:=fun _=>[.v true (.bool true)]) (o:=by repeat' first|exact hR|trivial|constructor) (k:=?_)
      refine QQ.condF rfl (QQ.skip ?_)
      show QQ _ _ _ _ _ _ _
      refine zs2 (ρ:=fun _=>[.v true (.sl 4 ls),.v true (.int .i64 E)]) (o:=by repeat' first|exact hF|trivial|constructor) (k:=?_)
      exact QQ.ret (QK.vs rfl (by exact ⟨⟨rfl,id⟩,⟨rfl,id⟩,trivial⟩) rfl)
theorem nuL_0 {k P:Int} {okr:Bool} {kd:Int} {neg:Bool} {e:Int} {l:List Int} (h:nuE k P okr kd neg e l=0):nuL k P okr kd neg e l=[cnV kd neg e (val l)]:=by unfold nuL;rw [if_pos h]
set_option maxHeartbeats 2000000 in
theorem qD (k P r:Int) (out:Bool) (kd:Int) (neg:Bool) (e:Int) (l:List Int) (hl:l.length<5000) (ol:okW l) (he : -9223372036854775808≤e∧e<9223372036854775808) :
 QU Tryz.prog 49 [.v (Q3 k P),.v (.int .i64 r),.v (.bool out),.v (Q9 kd neg e l)] [.v true (nuV k P (decide (0≤r∧r≤4) && !out) kd neg e l),.v true (.int .i64 (nuE k P (decide (0≤r∧r≤4) && !out) kd neg e l))]:=by
 have hA:=fArgs_ok k P r out kd neg e l hl ol he
 obtain ⟨b,hb⟩ : ∃b,b=(decide (0≤r∧r≤4) && !out):=⟨_,rfl⟩
 rw [←hb] at hA ⊢
 unfold nuV
 have h0:=fun h=>nuL_0 (k:=k) (P:=P) (okr:=b) (kd:=kd) (neg:=neg) (e:=e) (l:=l) h
 obtain ⟨ls,hls⟩ : ∃E,E=nuL k P b kd neg e l:=⟨_,rfl⟩
 rw [←hls] at hA h0
 obtain ⟨E,hE⟩ : ∃E,E=nuE k P b kd neg e l:=⟨_,rfl⟩
 rw [←hE] at hA h0 ⊢
 obtain ⟨ka,na,ea,da,hcv⟩ : ∃ka na ea da,cnV kd neg e (val l) = .agg [.int .i64 ka,.bool na,.int .i64 ea,.sl 1 da]:=⟨_,_,_,_,rfl⟩
 rw [hcv] at h0 ⊢
 rw [X7]
 unfold Q9 QZ at hA ⊢
 obtain ⟨L,hL'⟩ : ∃L,L=l.map fun n=>V.int .u64 n:=⟨_,rfl⟩
 rw [←hL'] at hA ⊢
 unfold Q3 at hA ⊢
 clear hL' hcv ol hl hb hls hE
 refine QU.of Tryz.func49 rfl rfl fun cx w0=>?_
 rw [show Tryz.f49.ntmps=28 from rfl]
 refine zs0 ?_
 refine zs2 (ρ:=fun _=>[.v true (.sl 4 ls),.v true (.int .i64 E)]) (o:=by repeat' first|exact hA|trivial|constructor) (k:=?_)
 refine QQ.seq ?_
 by_cases h:E=0
 ·have hls:=h0 h
  subst hls
  subst h
  rw [if_pos rfl]
  refine zs0 ?_
  refine QQ.condF rfl (QQ.skip ?_)
  show QQ _ _ _ _ _ _ _
  refine zs0 ?_
  exact QQ.ret (QK.vs rfl (by exact ⟨⟨rfl,id⟩,⟨rfl,id⟩,trivial⟩) rfl)
 ·rw [if_neg h]
  refine zs1 h ?_
  refine QQ.condT rfl ?_
  refine zs0 ?_
  exact QQ.ret (QK.vs rfl (by exact ⟨⟨rfl,id⟩,⟨rfl,id⟩,trivial⟩) rfl)
theorem nu_one {k P:Int} {okr:Bool} {kd:Int} {neg:Bool} {e:Int} {l:List Int} (h:nuE k P okr kd neg e l=0):G6 k P∧okr=true∧l.length≤4096∧cnB kd neg e (val l)=true∧(kd=1→hoI (k-1).toNat P.toNat (cnE kd e (val l)) (cnM kd e (val l))=true):=by
 unfold nuE at h
 split at h
 ·cases h
 ·next h1 =>
  split at h
  ·cases h
  ·next h2 =>
   split at h
   ·cases h
   ·next h3 =>
    split at h
    ·cases h
    ·next h4 =>
     have h5:hoB (k-1).toNat P.toNat kd neg e (val l)=true:=by simpa using h4
     unfold hoB at h5
     rw [Bool.and_eq_true,Bool.or_eq_true] at h5
     refine ⟨Classical.not_not.1 h3,by simpa using h2,by omega,h5.1,fun h6=>?_⟩
     rcases h5.2 with h7|h7
     ·exact absurd h6 (of_decide_eq_true h7)
     ·exact h7
theorem digG_tab:((List.range 180).all fun i=>(List.range 100).all fun j=>decide (10^((100*i+j)*30103/100000)≤10*2^(100*i+j)))=true:=by kernel_rfl
theorem AQ {m:Nat} (h:m<18000):10^(m*30103/100000)≤10*2^m:=by
 have:=of_decide_eq_true (List.all_eq_true.1 (List.all_eq_true.1 digG_tab (m/100) (List.mem_range.2 (by omega))) (m%100) (List.mem_range.2 (Nat.mod_lt _ (by decide))))
 rw [Nat.div_add_mod] at this
 exact this
theorem digG_le {v D n:Nat} (h:EB v D) (hn:10^n≤10*v):n≤D:=by
 cases n with
 | zero=>exact Nat.zero_le _
 | succ n =>
   rw [Nat.pow_succ,Nat.mul_comm] at hn
   exact yQ h (Nat.le_of_mul_le_mul_left hn (by decide))
theorem log_start {t L:Nat} (h:t*100000≤30102*L):10^t≤2^L:=by
 have h1:196*t≤59*L:=by omega
 have h2:(10^t)^196≤(2^L)^196:=by
  rw [←Nat.pow_mul,←Nat.pow_mul,Nat.mul_comm t]
  refine Nat.le_trans (Nat.pow_le_pow_right (by decide) h1) ?_
  rw [Nat.pow_mul,Nat.mul_comm L,Nat.pow_mul]
  exact Nat.pow_le_pow_left (by decide) L
 rcases Nat.lt_or_ge (2^L) (10^t) with h3|h3
 ·have:=Nat.pow_lt_pow_left h3 (show (196:Nat)≠0 by decide)
  omega
 ·exact h3
theorem wDigitsG_ok (x:List Int) (D:Nat) (hx:x.length<10000) (ox:okW x) (hD:EB (val x) D) (hb:blN (val x)≤18000) (hDl:D<20000):QU Tryz.prog 110 [.v (QZ x)] [.v true (.int .i64 D)]:=by
 have hpos:0<val x:=by
  have:=Nat.pow_pos (a:=10) (n:=D-1) (by decide)
  have:=hD.2.1
  omega
 have hZ:=FG x (by omega) ox
 rw [decide_eq_false (by omega)] at hZ
 have hL:=H4 x (by omega) ox
 obtain ⟨b1,b2⟩:=U3 hpos
 obtain ⟨B,hB⟩ : ∃B,B=blN (val x):=⟨_,rfl⟩
 rw [←hB] at hL b1 b2 hb
 have hs:=AQ (m:=B-1) (by omega)
 have hn0:(B-1)*30103/100000≤D:=digG_le hD (Nat.le_trans hs (Nat.mul_le_mul_left 10 b1))
 refine QU.of Tryz.func110 rfl rfl fun cx w0=>?_
 rw [show Tryz.f110.ntmps=19 from rfl]
 obtain ⟨n0,hn0'⟩ : ∃n0,n0=(B-1)*30103/100000:=⟨_,rfl⟩
 rw [←hn0'] at hn0
 have w1:(B:Int)-1=((B-1:Nat):Int):=by omega
 have w2:IntKind.i64.wrap (((B-1:Nat):Int)*30103)=(((B-1)*30103:Nat):Int):=by rw [QV] <;> omega
 have w3:(((B-1)*30103:Nat):Int).tdiv 100000=(n0:Int):=by rw [hn0'];exact KF _ 100000
 have w4:IntKind.i64.wrap (n0:Int)=(n0:Int):=by rw [QV] <;> omega
 obtain ⟨B1,hB1⟩ : ∃B1,B1=B-1:=⟨_,rfl⟩
 rw [←hB1] at w1 w2 w3
 obtain ⟨p,hp⟩ : ∃p,p=B1*30103:=⟨_,rfl⟩
 rw [←hp] at w2 w3
 clear hs b1 hn0' hp hB1 hB
 refine zs0 ?_
 refine QQ.seq ?_
 refine zs2 (ρ:=fun _=>[.v true (.bool false)]) (o:=by repeat' first|exact hZ|trivial|constructor) (k:=?_)
 refine QQ.condF rfl (QQ.skip ?_)
 refine zs3 (ρ:=fun _=>[.v true (.int .i64 (B:Nat))]) (an w1 <| an w2 <| an w3 <| w4) (o:=by repeat' first|exact hL|trivial|constructor) (k:=?_)
 refine QQ.next (fun σ=>∀a w,Rel cx w0 σ a w→Rel cx w0 {nt:=19,env:=[(3,.v true (.int .i64 D))],mem:=[]} a w) ?_ ?_
 ·refine QQ.loopB (fun n:Nat => {nt:=19,env:=[(3,.v true (.int .i64 (n:Nat))),(0,.v false (QZ x))],mem:=[]}) (fun n=>n≤D) (fun n=>D-n) n0 hn0 (fun a w h=>Rel.keep [3,0] [] h) ?_
  intro n hn
  have hT:=H5 n (by omega)
  have hl:(QX (10^n)).length<100000:=by
   have h5:(10:Nat)^n≤16^n:=Nat.pow_le_pow_left (by decide) n
   have:=ZU (v:=10^n) (m:=n/16+1) (Nat.lt_of_le_of_lt h5 (by
    rw [show (18446744073709551616:Nat)=16^16 from rfl,←Nat.pow_mul]
    exact Nat.pow_lt_pow_right (by decide) (by omega)))
   omega
  have hC:=K6 x (QX (10^n)) (by omega) hl ox (QY _).1
  rw [(QY (10^n)).2.2] at hC
  obtain ⟨T,hT'⟩ : ∃T,T=QX (10^n):=⟨_,rfl⟩
  obtain ⟨c,hc⟩ : ∃c,c=Q7 (val x) (10^n):=⟨_,rfl⟩
  rw [←hT'] at hT hC
  rw [←hc] at hC
  refine QQ.seq ?_
  rcases Nat.lt_or_ge (val x) (10^n) with h|h
  ·have hDn:n=D:=Nat.le_antisymm hn (yZ hD h)
   have g : ¬0≤c:=by rw [hc,Q7,if_pos h];omega
   refine zs3 (ρ:=fun d=>if d=13 then [.v true (QZ T)] else [.v true (.int .i64 c)]) g (o:=by repeat' first|exact hT|exact hC|trivial|constructor) (k:=?_)
   refine QQ.condF rfl (QQ.exit ⟨rfl,fun a w h=>?_⟩)
   have:=Rel.keep [3] [] h
   rw [hDn] at this
   exact this
  ·have hlt:=yQ hD h
   have g:0≤c:=by rw [hc,Q7,if_neg (by omega)];split <;> omega
   have wk:IntKind.i64.wrap ((n:Int)+1)=((n+1:Nat):Int):=by rw [QV] <;> omega
   refine zs3 (ρ:=fun d=>if d=13 then [.v true (QZ T)] else [.v true (.int .i64 c)]) g (o:=by repeat' first|exact hT|exact hC|trivial|constructor) (k:=?_)
   refine QQ.condT rfl (QQ.skip ?_)
   refine QQ.block ?_
   refine zr1 wk ?_
   exact ⟨n+1,(by show n+1≤D;omega),(show D-(n+1)<D-n by omega),fun a w h=>Rel.keep [3,0] [] h⟩
 ·intro σ hσ
  refine QQ.from hσ ?_
  refine zs0 ?_
  exact QQ.ret (QK.vs rfl (by exact ⟨⟨rfl,id⟩,trivial⟩) rfl)
theorem log_k0 {num den:Nat} (hn:0<num) (h:num<den) {t:Nat} (ht:t*100000≤30102*(blN den-blN num-1)):num*10^t≤den:=by
 have h1:=log_start ht
 have h2:=(U3 (show 0<den by omega)).1
 have h3:num<2^blN num:=by
  rw [blN,if_neg (by omega)]
  exact Nat.lt_log2_self
 refine Nat.le_trans (Nat.mul_le_mul_left num h1) ?_
 rcases Nat.lt_or_ge (blN num) (blN den) with h4|h4
 ·refine Nat.le_trans ?_ h2
  rw [show blN den-1=blN num+(blN den-blN num-1) from by omega,Nat.pow_add]
  exact Nat.mul_le_mul_right _ (Nat.le_of_lt h3)
 ·rw [show blN den-blN num-1=0 from by omega,Nat.pow_zero,Nat.mul_one]
  omega
theorem isA_neg {num den K:Nat} {a:Int} (hd:num<den) (hn:0<num) (h:IsA num den a) (ha:a = -(K:Int)):1≤K∧den≤num*10^K ∧ ∀k,k<K→num*10^k<den:=by
 have h1:=h 0 K (by omega)
 rw [Nat.pow_zero,Nat.mul_one,Nat.zero_add,Nat.pow_one] at h1
 have hK:1≤K:=by
  rcases Nat.eq_zero_or_pos K with h0|h0
  ·subst h0;rw [Nat.pow_zero,Nat.mul_one] at h1;omega
  ·exact h0
 refine ⟨hK,h1.1,fun k hk=>?_⟩
 have h2:num*10^k*10≤num*10^K:=by
  rw [Nat.mul_assoc,←Nat.pow_succ]
  exact Nat.mul_le_mul_left _ (Nat.pow_le_pow_right (by decide) hk)
 omega
theorem bl_mono {a b:Nat} (h:a≤b):blN a≤blN b:=by
 refine X6 ?_
 rcases Nat.eq_zero_or_pos b with h0|h0
 ·subst h0;rw [show a=0 from by omega];exact Nat.pow_pos (by decide)
 ·rw [show blN b=b.log2+1 from by rw [blN,if_neg (by omega)]]
  exact Nat.lt_of_le_of_lt h Nat.lt_log2_self
theorem QC {v B n:Nat} (h:v<2^B) (hB:B≤64*n):(QX v).length≤n:=ZU (m:=n) (by rw [Eq];exact Nat.lt_of_lt_of_le h (Nat.pow_le_pow_right (by decide) hB))
theorem Kk {v B D:Nat} (h:EB v D) (hv:v<2^B):D≤B:=by
 rcases Nat.lt_or_ge B D with h1|h1
 ·have h2:(2:Nat)^(D-1)≤10^(D-1):=Nat.pow_le_pow_left (by decide) _
  have h3:(2:Nat)^B≤2^(D-1):=Nat.pow_le_pow_right (by decide) (by omega)
  have:=h.2.1
  omega
 ·exact h1
theorem log_big (num den B:Nat) (a:Int) (hB:B≤17000) (hd:0<den) (hle:den≤num) (hnl:num<2^B) (hA:IsA num den a):QU Tryz.prog 128 [.v (QZ (QX num)),.v (QZ (QX den))] [.v true (.int .i64 a)]:=by
 have l1:=QC (n:=300) hnl (by omega)
 have l2:=QC (n:=300) (Nat.lt_of_le_of_lt hle hnl) (by omega)
 have hC:=K6 (QX num) (QX den) (by omega) (by omega) (QY _).1 (QY _).1
 have hM:=Cv (QX num) (QX den) (by omega) (by omega) (QY _).1 (QY _).1 (by rw [(QY den).2.2];exact hd)
 rw [(QY num).2.2,(QY den).2.2] at hC hM
 have hq0:0<num/den:=Nat.div_pos hle hd
 have hqB:num/den<2^B:=Nat.lt_of_le_of_lt (Nat.div_le_self _ _) hnl
 obtain ⟨D,hD⟩:=KK (num/den) hq0
 have hDB:=Kk hD hqB
 have hG:=wDigitsG_ok (QX (num/den)) D (by have:=QC (n:=300) hqB (by omega);omega) (QY _).1 (by rw [(QY _).2.2];exact hD) (by rw [(QY _).2.2];have:=X6 hqB;omega) (by omega)
 have ha:a=((D-1:Nat):Int):=by
  have:=HH hA (isA_hasD hd hD)
  have:=hD.1
  omega
 subst ha
 have w1:(D:Int)-1=((D-1:Nat):Int):=by have:=hD.1;omega
 obtain ⟨c,hc⟩ : ∃c,c=Q7 num den:=⟨_,rfl⟩
 have g:0≤c:=by rw [hc,Q7,if_neg (by omega)];split <;> omega
 rw [←hc] at hC
 obtain ⟨X,hX⟩ : ∃X,X=QX num:=⟨_,rfl⟩
 obtain ⟨Y,hY⟩ : ∃Y,Y=QX den:=⟨_,rfl⟩
 obtain ⟨Q,hQ⟩ : ∃Y,Y=QX (num/den):=⟨_,rfl⟩
 obtain ⟨R,hR⟩ : ∃Y,Y=QX (num%den):=⟨_,rfl⟩
 rw [←hX] at hC hM ⊢
 rw [←hY] at hC hM ⊢
 rw [←hQ,←hR] at hM
 rw [←hQ] at hG
 obtain ⟨D1,hD1⟩ : ∃x,x=D-1:=⟨_,rfl⟩
 rw [←hD1] at w1 ⊢
 clear hD1 hc hX hY hQ hR hD hqB hq0 hA hnl hle l1 l2 hd
 refine QU.of Tryz.func128 rfl rfl fun cx w0=>?_
 rw [show Tryz.f128.ntmps=46 from rfl]
 refine zs0 ?_
 refine QQ.seq ?_
 refine zs3 (ρ:=fun _=>[.v true (.int .i64 c)]) g (o:=by repeat' first|exact hC|trivial|constructor) (k:=?_)
 refine QQ.condT rfl ?_
 refine zs2 (ρ:=fun _=>[.v true (QZ Q),.v true (QZ R)]) (o:=by repeat' first|exact hM|trivial|constructor) (k:=?_)
 refine zs3 (ρ:=fun _=>[.v true (.int .i64 D)]) w1 (o:=by repeat' first|exact hG|trivial|constructor) (k:=?_)
 exact QQ.ret (QK.vs rfl (by exact ⟨⟨rfl,id⟩,trivial⟩) rfl)
set_option maxHeartbeats 1000000 in
theorem log_small (num den B:Nat) (K:Nat) (hB:B≤17000) (hn:0<num) (hlt:num<den) (hdl:den<2^B) (hK1:1≤K) (hK2:den≤num*10^K) (hK3 : ∀k,k<K→num*10^k<den):QU Tryz.prog 128 [.v (QZ (QX num)),.v (QZ (QX den))] [.v true (.int .i64 (-(K:Int)))]:=by
 have hnl:num<2^B:=Nat.lt_trans hlt hdl
 have l1:=QC (n:=300) hnl (by omega)
 have l2:=QC (n:=300) hdl (by omega)
 have hC:=K6 (QX num) (QX den) (by omega) (by omega) (QY _).1 (QY _).1
 have hL1:=H4 (QX den) (by omega) (QY _).1
 have hL2:=H4 (QX num) (by omega) (QY _).1
 rw [(QY num).2.2,(QY den).2.2] at hC
 rw [(QY den).2.2] at hL1
 rw [(QY num).2.2] at hL2
 have hKB:K≤B+1:=by
  have h1:=hK3 (K-1) (by omega)
  have h2:(2:Nat)^(K-1)≤10^(K-1):=Nat.pow_le_pow_left (by decide) _
  have h3:10^(K-1)≤num*10^(K-1):=Nat.le_mul_of_pos_left _ hn
  rcases Nat.lt_or_ge (B+1) K with h4|h4
  ·have h5:(2:Nat)^B≤2^(K-1):=Nat.pow_le_pow_right (by decide) (by omega)
   omega
  ·exact h4
 have hbl:=bl_mono (Nat.le_of_lt hlt)
 have hb1:=X6 hdl
 obtain ⟨t,ht⟩ : ∃t,t=(blN den-blN num-1)*30102/100000:=⟨_,rfl⟩
 have hk0:max 1 t≤K:=by
  have h1:=log_k0 hn hlt (t:=t) (by omega)
  have h2:t≤K:=by
   rcases Nat.lt_or_ge K t with h3|h3
   ·have h4:num*10^K*10≤num*10^t:=by rw [Nat.mul_assoc,←Nat.pow_succ];exact Nat.mul_le_mul_left _ (Nat.pow_le_pow_right (by decide) h3)
    omega
   ·exact h3
  omega
 obtain ⟨b,hb⟩ : ∃x,x=blN num:=⟨_,rfl⟩
 obtain ⟨d,hd⟩ : ∃x,x=blN den:=⟨_,rfl⟩
 rw [←hb] at hL2 hbl ht
 rw [←hd] at hL1 hbl ht hb1
 obtain ⟨z,hz⟩ : ∃z:Int,z=(d:Int)-b-1:=⟨_,rfl⟩
 obtain ⟨k0,hk0'⟩ : ∃k,k=max 1 t:=⟨_,rfl⟩
 rw [←hk0'] at hk0
 have w1:IntKind.i64.wrap ((d:Int)-b)=(d:Int)-b:=by rw [QV] <;> omega
 have w2:IntKind.i64.wrap ((d:Int)-b-1)=z:=by rw [QV] <;> omega
 have w3:IntKind.i64.wrap (z*30102)=z*30102:=by rw [QV] <;> omega
 have w4:(z*30102).tdiv 100000=if z = -1 then 0 else (t:Int):=by
  by_cases h:z = -1
  ·rw [h];rfl
  ·rw [if_neg h,show z*30102=(((d-b-1)*30102:Nat):Int) from by omega,ht]
   exact KF _ 100000
 have w5:IntKind.i64.wrap (if z = -1 then (0:Int) else (t:Int))=if z = -1 then (0:Int) else (t:Int):=by rw [QV] <;> split <;> omega
 have w6:(if (1:Int)<(if z = -1 then (0:Int) else (t:Int)) then (if z = -1 then (0:Int) else (t:Int)) else 1)=(k0:Int):=by
  by_cases h:z = -1
  ·rw [if_pos h,if_neg (by decide)];omega
  ·rw [if_neg h];split <;> omega
 obtain ⟨u,hu⟩ : ∃u,u=if z = -1 then (0:Int) else (t:Int):=⟨_,rfl⟩
 rw [←hu] at w4 w5 w6
 have hT:=H5 k0 (by omega)
 have lT:(QX (10^k0)).length≤1100:=by
  have h5:(10:Nat)^k0≤16^k0:=Nat.pow_le_pow_left (by decide) k0
  rw [show (16:Nat)=2^4 from rfl,←Nat.pow_mul] at h5
  exact QC (B:=4*k0+1) (Nat.lt_of_le_of_lt h5 (Nat.pow_lt_pow_right (by decide) (by omega))) (by omega)
 have hMl:=FE (QX num) (QX (10^k0)) (by omega) (by omega) (QY _).1 (QY _).1
 rw [(QY num).2.2,(QY (10^k0)).2.2] at hMl
 obtain ⟨c,hc⟩ : ∃c,c=Q7 num den:=⟨_,rfl⟩
 have g : ¬0≤c:=by rw [hc,Q7,if_pos hlt];omega
 rw [←hc] at hC
 have hat : ∀k,k≤K→(QX (num*10^k)).length≤301:=fun k hk=>by
  refine QC (B:=B+4) ?_ (by omega)
  rcases Nat.eq_zero_or_pos k with h0|h0
  ·subst h0;rw [Nat.pow_zero,Nat.mul_one,Nat.pow_add];omega
  ·have h1:=hK3 (k-1) (by omega)
   have h2:num*10^k=num*10^(k-1)*10:=by rw [Nat.mul_assoc,←Nat.pow_succ,show (k-1).succ=k from by omega]
   rw [h2,Nat.pow_add]
   omega
 have hloop : ∀k,k≤K→QU Tryz.prog 101 [.v (QZ (QX (num*10^k))),.v (QZ (QX den))] [.v true (.int .i64 (if k=K then (if den=num*10^k then 0 else 1) else -1))]:=fun k hk=>by
  have h1:=K6 (QX (num*10^k)) (QX den) (by have:=hat k hk;omega) (by omega) (QY _).1 (QY _).1
  rw [(QY den).2.2,(QY _).2.2] at h1
  have e:Q7 (num*10^k) den=if k=K then (if den=num*10^k then 0 else 1) else -1:=by
   unfold Q7
   by_cases h:k=K
   ·subst h
    rw [if_pos rfl,if_neg (by omega)]
    by_cases h2:den=num*10^k
    ·rw [if_pos h2,if_neg (by omega)]
    ·rw [if_neg h2,if_pos (by omega)]
   ·rw [if_neg h,if_pos (hK3 k (by omega))]
  rw [e] at h1
  exact h1
 have htimes : ∀k,k<K→QU Tryz.prog 57 [.v (QZ (QX (num*10^k))),.v (.sl 1 [.int .u64 10])] [.v true (QZ (QX (num*10^(k+1))))]:=fun k hk=>by
  have h1:=FE (QX (num*10^k)) [10] (by have:=hat k (by omega);omega) (by simp) (QY _).1 (by intro n hn;simp at hn;omega)
  rw [(QY _).2.2,show val [(10:Int)]=10 from by decide,Nat.mul_assoc,←Nat.pow_succ] at h1
  exact h1
 obtain ⟨Y,hY⟩ : ∃Y,Y=QX den:=⟨_,rfl⟩
 obtain ⟨X,hX⟩ : ∃Y,Y=QX num:=⟨_,rfl⟩
 obtain ⟨T,hT'⟩ : ∃Y,Y=QX (10^k0):=⟨_,rfl⟩
 rw [←hY] at hC hL1 ⊢
 rw [←hX] at hC hL2 hMl ⊢
 rw [←hT'] at hT hMl
 have hloop' : ∀k,k≤K→QU Tryz.prog 101 [.v (QZ (QX (num*10^k))),.v (QZ Y)] [.v true (.int .i64 (if k=K then (if den=num*10^k then 0 else 1) else -1))]:=by rw [hY];exact hloop
 clear hloop hat hX hY hT' hc hu hz ht hbl hb1 hK3 hK2 lT hdl hnl hlt l1 l2 hd hb hk0'
 refine QU.of Tryz.func128 rfl rfl fun cx w0=>?_
 rw [show Tryz.f128.ntmps=46 from rfl]
 refine zs0 ?_
 refine QQ.seq ?_
 refine zs3 (ρ:=fun _=>[.v true (.int .i64 c)]) g (o:=by repeat' first|exact hC|trivial|constructor) (k:=?_)
 refine QQ.condF rfl (QQ.skip ?_)
 show QQ _ _ _ _ _ _ _
 refine zs3 (ρ:=fun e=>if e=23 then [.v true (.int .i64 d)] else [.v true (.int .i64 b)]) (an w1 <| an w2 <| an w3 <| an w4 <| an w5 <| w6) (o:=by repeat' first|exact hL1|exact hL2|trivial|constructor) (k:=?_)
 refine QQ.next (fun σ=>∀a w,Rel cx w0 σ a w→Rel cx w0 {nt:=46,env:=[(7,.v true (.int .i64 (K:Nat)))],mem:=[]} a w) ?_ ?_
 ·refine zs2 (ρ:=fun e=>if e=33 then [.v true (QZ T)] else [.v true (QZ (QX (num*10^k0)))]) (o:=by repeat' first|exact hT|exact hMl|trivial|constructor) (k:=?_)
  refine QQ.loopB (fun k:Nat => {nt:=46,env:=[(7,.v true (.int .i64 (k:Nat))),(8,.v true (QZ (QX (num*10^k)))),(1,.v false (QZ Y))],mem:=[]}) (fun k=>k≤K) (fun k=>K-k) k0 hk0 (fun a w h=>Rel.keep [7,8,1] [] h) ?_
  intro k hk
  have hCk:=hloop' k hk
  refine QQ.seq ?_
  by_cases h:k=K
  ·subst h
   rw [if_pos rfl] at hCk
   obtain ⟨x,hx⟩ : ∃x:Int,x=if den=num*10^k then 0 else 1:=⟨_,rfl⟩
   rw [←hx] at hCk
   have g1 : ¬x<0:=by rw [hx];split <;> decide
   obtain ⟨A,hA⟩ : ∃A,A=QX (num*10^k):=⟨_,rfl⟩
   rw [←hA] at hCk ⊢
   clear hx hA htimes hloop'
   refine zs3 (ρ:=fun _=>[.v true (.int .i64 x)]) g1 (o:=by repeat' first|exact hCk|trivial|constructor) (k:=?_)
   exact QQ.condF rfl (QQ.exit ⟨rfl,fun a w h=>Rel.keep [7] [] h⟩)
  ·rw [if_neg h] at hCk
   have hMk:=htimes k (by omega)
   obtain ⟨A,hA⟩ : ∃A,A=QX (num*10^k):=⟨_,rfl⟩
   obtain ⟨A',hA'⟩ : ∃A,A=QX (num*10^(k+1)):=⟨_,rfl⟩
   rw [←hA] at hCk hMk ⊢
   rw [←hA'] at hMk
   have wk:IntKind.i64.wrap ((k:Int)+1)=((k+1:Nat):Int):=by rw [QV] <;> omega
   clear htimes hloop'
   refine zs2 (ρ:=fun _=>[.v true (.int .i64 (-1))]) (o:=by repeat' first|exact hCk|trivial|constructor) (k:=?_)
   refine QQ.condT rfl (QQ.skip ?_)
   show QQ _ _ _ _ _ _ _
   refine QQ.next (fun σ=>∀a w,Rel cx w0 σ a w→Rel cx w0 {nt:=46,env:=[(7,.v true (.int .i64 k)),(8,.v true (QZ A')),(1,.v false (QZ Y))],mem:=[]} a w) ?_ ?_
   ·refine QQ.blockN ?_
    refine zr2 (ρ:=fun _=>[.v true (QZ A')]) (o:=by repeat' first|exact hMk|trivial|constructor) (k:=?_)
    exact fun a w h=>Rel.keep [7,8,1] [] h
   ·intro σ hσ
    refine QQ.from hσ ?_
    refine zr1 wk ?_
    exact ⟨k+1,(by show k+1≤K;omega),(show K-(k+1)<K-k by omega),fun a w h=>by
     show Rel _ _ {nt:=46,env:=[(7,.v true (.int .i64 ((k+1:Nat):Int))),(8,.v true (QZ (QX (num*10^(k+1))))),(1,.v false (QZ Y))],mem:=[]} a w
     rw [←hA']
     exact Rel.keep [7,8,1] [] h⟩
 ·intro σ hσ
  refine QQ.from hσ ?_
  have wn:IntKind.i64.wrap (0-(K:Int)) = -(K:Int):=by rw [QV] <;> omega
  refine zs1 wn ?_
  exact QQ.ret (QK.vs rfl (by exact ⟨⟨rfl,id⟩,trivial⟩) rfl)
theorem wLog_ok (num den B:Nat) (a:Int) (hB:B≤17000) (hn:0<num) (hd:0<den) (hnl:num<2^B) (hdl:den<2^B) (hA:IsA num den a):QU Tryz.prog 128 [.v (QZ (QX num)),.v (QZ (QX den))] [.v true (.int .i64 a)]:=by
 rcases Nat.lt_or_ge num den with h|h
 ·have ha:a<0:=by
   rcases Int.lt_or_le a 0 with h1|h1
   ·exact h1
   ·have h2:=(hA a.toNat 0 (by omega)).1
    rw [Nat.pow_zero,Nat.mul_one] at h2
    have:den≤den*10^a.toNat:=Nat.le_mul_of_pos_right _ (Nat.pow_pos (by decide))
    omega
  obtain ⟨K,hK⟩ : ∃K:Nat,a = -(K:Int):=⟨(-a).toNat,by omega⟩
  obtain ⟨k1,k2,k3⟩:=isA_neg h hn hA hK
  rw [hK]
  exact log_small num den B K hB hn h hdl k1 k2 k3
 ·exact log_big num den B a hB hd h hnl hA
theorem wBitN_ok (x:List Int) (i:Int) (hi:i<0):QU Tryz.prog 60 [.v (QZ x),.v (.int .i64 i)] [.v true (.bool false)]:=by
 refine QU.of Tryz.func60 rfl rfl fun cx w0=>?_
 rw [show Tryz.f60.ntmps=26 from rfl]
 have g : ¬0≤i:=by omega
 refine zs0 ?_
 refine zs1 g ?_
 exact QQ.ret (QK.vs rfl (by exact ⟨⟨rfl,id⟩,trivial⟩) rfl)
def spL (k:Int) (neg:Bool):List UInt8:=if k=3 then [110,97,110] else if k=2 then smL neg [105,110,102] else []
theorem J5 (k:Int) (neg:Bool) (e:Int) (m:Nat) (l:List V):QU Tryz.prog 50 [.v (.agg [.int .i64 k,.bool neg,.int .i64 e,.sl 1 l])] [.v true (.str (bs (spL k neg))),.v true (.bool (decide (k=3∨k=2)))]:=by
 have hM:=Uy neg [105,110,102] (by decide)
 have e1:bs [105,110,102]=ByteArray.mk #[105,110,102]:=rfl
 rw [e1] at hM
 unfold spL
 refine QU.of Tryz.func50 rfl rfl fun cx w0=>?_
 rw [show Tryz.f50.ntmps=13 from rfl]
 refine zs0 ?_
 refine QQ.seq ?_
 refine zs0 ?_
 refine QQ.block ?_
 by_cases h3:k=3
 ·subst h3
  refine zs0 ?_
  refine QQ.condT rfl ?_
  refine zs0 ?_
  exact QQ.ret (QK.vs rfl (by exact ⟨⟨rfl,id⟩,⟨rfl,id⟩,trivial⟩) rfl)
 ·by_cases h2:k=2
  ·subst h2
   obtain ⟨s,hs⟩ : ∃s,s=bs (smL neg [105,110,102]):=⟨_,rfl⟩
   rw [if_neg (by decide),if_pos rfl,←hs]
   rw [←hs] at hM
   refine zs0 ?_
   refine QQ.condF rfl ?_
   refine zs0 ?_
   refine QQ.condT rfl ?_
   refine zs2 (ρ:=fun _=>[.v true (.str s)]) (o:=by repeat' first|exact hM|trivial|constructor) (k:=?_)
   exact QQ.ret (QK.vs rfl (by exact ⟨⟨rfl,id⟩,⟨rfl,id⟩,trivial⟩) rfl)
  ·rw [if_neg h3,if_neg h2,decide_eq_false (by omega)]
   refine zs1 h3 ?_
   refine QQ.condF rfl ?_
   refine zs1 h2 ?_
   refine QQ.condF rfl (QQ.skip ?_)
   show QQ _ _ _ _ _ _ _
   refine zs0 ?_
   exact QQ.ret (QK.vs rfl (by exact ⟨⟨rfl,id⟩,⟨rfl,id⟩,trivial⟩) rfl)
theorem V5 (v s:Nat) (hv:(QX v).length<10000) (hs:s<1000000):QU Tryz.prog 55 [.v (QZ (QX v)),.v (.int .i64 s)] [.v true (QZ (QX (v*2^s)))]:=by
 have:=zY (QX v) s hv hs (QY v).1
 rw [(QY v).2.2] at this
 exact this
theorem VV (x y:Nat) (hx:(QX x).length<400000) (hy:(QX y).length<400000):QU Tryz.prog 57 [.v (QZ (QX x)),.v (QZ (QX y))] [.v true (QZ (QX (x*y)))]:=by
 have:=FE (QX x) (QX y) hx hy (QY x).1 (QY y).1
 rw [(QY x).2.2,(QY y).2.2] at this
 exact this
theorem EV (v s L n:Nat) (hv:v<2^L) (hn:L+s≤64*n):(QX (v*2^s)).length≤n :=
 QC (B:=L+s) (by rw [Nat.pow_add];exact Nat.mul_lt_mul_of_pos_right hv (Nat.pow_pos (by decide))) hn
theorem X3 (k:Nat):10^k<2^(4*k+1):=by
 rw [Nat.pow_add,Nat.pow_mul]
 have:(10:Nat)^k≤(2^4)^k:=Nat.pow_le_pow_left (by decide) k
 have h0:0<(2^4)^k:=Nat.pow_pos (by decide)
 omega
set_option maxHeartbeats 1000000 in
theorem ratio_ok (k:Int) (neg:Bool) (e:Int) (m:Nat) (t:Int) (hm:m<2^256) (he : -20000≤e∧e≤20000) (ht : -10000≤t∧t≤10000) :
 QU Tryz.prog 80 [.v (Q9 k neg e (QX m)),.v (.int .i64 t)] [.v true (QZ (QX (Zq m e*10^t.toNat))),.v true (QZ (QX (Zy e*10^(-t).toNat)))]:=by
 have lm:(QX m).length≤5:=QC hm (by omega)
 have h1:=V5 m e.toNat (by omega) (by omega)
 have l1:(QX (m*2^e.toNat)).length≤400:=EV m _ _ _ hm (by omega)
 have d1:QX 1=[1]:=by decide
 have h2:=V5 1 (-e).toNat (by rw [d1];decide) (by omega)
 have l2:(QX (1*2^(-e).toNat)).length≤400:=EV 1 _ 1 _ (by decide) (by omega)
 rw [d1] at h2
 have t1:=H5 t.toNat (by omega)
 have t2:=H5 (-t).toNat (by omega)
 have l3:(QX (10^t.toNat)).length≤1000:=QC (X3 _) (by omega)
 have l4:(QX (10^(-t).toNat)).length≤1000:=QC (X3 _) (by omega)
 have m1:=VV (m*2^e.toNat) (10^t.toNat) (by omega) (by omega)
 have m2:=VV (1*2^(-e).toNat) (10^(-t).toNat) (by omega) (by omega)
 rw [Nat.one_mul] at h2 m2
 unfold Zq Zy Q9
 obtain ⟨A,hA⟩ : ∃A,A=QX (m*2^e.toNat):=⟨_,rfl⟩
 obtain ⟨B,hB⟩ : ∃A,A=QX (2^(-e).toNat):=⟨_,rfl⟩
 obtain ⟨C,hC⟩ : ∃A,A=QX (10^t.toNat):=⟨_,rfl⟩
 obtain ⟨D,hD⟩ : ∃A,A=QX (10^(-t).toNat):=⟨_,rfl⟩
 obtain ⟨E,hE⟩ : ∃A,A=QX (m*2^e.toNat*10^t.toNat):=⟨_,rfl⟩
 obtain ⟨F,hF⟩ : ∃A,A=QX (2^(-e).toNat*10^(-t).toNat):=⟨_,rfl⟩
 obtain ⟨M,hM⟩ : ∃A,A=QX m:=⟨_,rfl⟩
 rw [←hE,←hF,←hM]
 rw [←hA] at h1 m1
 rw [←hM] at h1
 rw [←hB] at h2 m2
 rw [←hC] at t1 m1
 rw [←hD] at t2 m2
 rw [←hE] at m1
 rw [←hF] at m2
 have w1:(if e<0 then (0:Int) else e)=(e.toNat:Int):=by split <;> omega
 have wn:IntKind.i64.wrap (0-e) = -e:=by rw [QV] <;> omega
 have w2:(if -e<0 then (0:Int) else -e)=((-e).toNat:Int):=by split <;> omega
 have w3:(if t<0 then (0:Int) else t)=(t.toNat:Int):=by split <;> omega
 have wt:IntKind.i64.wrap (0-t) = -t:=by rw [QV] <;> omega
 have w4:(if -t<0 then (0:Int) else -t)=((-t).toNat:Int):=by split <;> omega
 have h2:QU Tryz.prog 55 [.v (.sl 1 [.int .u64 1]),.v (.int .i64 ((-e).toNat:Nat))] [.v true (QZ B)]:=h2
 obtain ⟨a,ha⟩ : ∃a,a=e.toNat:=⟨_,rfl⟩
 obtain ⟨b,hb⟩ : ∃a,a=(-e).toNat:=⟨_,rfl⟩
 obtain ⟨c,hc⟩ : ∃a,a=t.toNat:=⟨_,rfl⟩
 obtain ⟨d,hd⟩ : ∃a,a=(-t).toNat:=⟨_,rfl⟩
 rw [←ha] at h1 w1
 rw [←hb] at h2 w2
 rw [←hc] at t1 w3
 rw [←hd] at t2 w4
 clear ha hb hc hd hA hB hC hD hE hF hM l1 l2 l3 l4 lm hm d1
 refine QU.of Tryz.func80 rfl rfl fun cx w0=>?_
 rw [show Tryz.f80.ntmps=29 from rfl]
 refine zs0 ?_
 refine zs3 (ρ:=fun _=>[.v true (QZ A)]) w1 (o:=by repeat' first|exact h1|trivial|constructor) (k:=?_)
 refine zs3 (ρ:=fun _=>[.v true (QZ B)]) (an wn <| w2) (o:=by repeat' first|exact h2|trivial|constructor) (k:=?_)
 refine zs3 (ρ:=fun x=>if x=21 then [.v true (QZ C)] else if x=22 then [.v true (QZ E)] else if x=27 then [.v true (QZ D)] else [.v true (QZ F)]) (an w3 <| an wt <| w4) (o:=by repeat' first|exact t1|exact m1|exact t2|exact m2|trivial|constructor) (k:=?_)
 exact QQ.ret (QK.vs rfl (by exact ⟨⟨rfl,id⟩,⟨rfl,id⟩,trivial⟩) rfl)
theorem qU {x d:Nat}:Y6 x d=0↔x=0:=by
 unfold Y6 Q7
 split
 ·next h=>exact ⟨fun _=>h,fun _=>rfl⟩
 ·next h =>
  refine ⟨fun h2=>?_,fun h2=>absurd h2 h⟩
  exfalso
  split at h2
  ·omega
  ·split at h2 <;> omega
theorem yJ {m B:Nat} {e:Int} (hm:m<2^256) (he:e≤16384) (hB:16640≤B):Zq m e<2^B:=by
 unfold Zq
 refine Nat.lt_of_lt_of_le (Nat.mul_lt_mul_of_pos_right hm (Nat.pow_pos (by decide))) ?_
 rw [←Nat.pow_add]
 exact Nat.pow_le_pow_right (by decide) (by omega)
theorem EY {m:Nat} {e:Int} (hm:0<m):0<Zq m e:=Nat.mul_pos hm (Nat.pow_pos (by decide))
theorem yH {B:Nat} {e:Int} (he : -16640≤e) (hB:16641≤B):Zy e<2^B:=Nat.pow_lt_pow_right (by decide) (by omega)
structure FlB (m:Nat) (e:Int):Prop where
 m0:0<m
 mB:m<2^256
 lo : -16640≤e
 hi:e≤16384
theorem two_ten (k:Nat):2^(3*k)≤10^k:=by
 rw [Nat.pow_mul]
 exact Nat.pow_le_pow_left (by decide) k
theorem Kz {a b:Nat} (h:2^a<2^b):a<b:=(Nat.pow_lt_pow_iff_right (by decide)).1 h
theorem FlB.isA_bd {m:Nat} {e a:Int} (h:FlB m e) (hA:IsA (Zq m e) (Zy e) a) : -5600≤a∧a≤5600:=by
 have hn:=EY (e:=e) h.m0
 have hd:=V3 e
 obtain ⟨B,hB⟩ : ∃B,B=16641:=⟨_,rfl⟩
 have hnl:=yJ (B:=B) h.mB h.hi (by omega)
 have hdl:=yH (B:=B) h.lo (by omega)
 constructor
 ·rcases Int.lt_or_le a (-5600) with h1|h1
  ·exfalso
   obtain ⟨K,hK⟩ : ∃K:Nat,a = -(K:Int):=⟨(-a).toNat,by omega⟩
   have h2:=(hA 0 K (by omega)).2
   rw [Nat.zero_add,Nat.pow_one] at h2
   have h3:10^K≤Zq m e*10^K:=Nat.le_mul_of_pos_left _ hn
   have h4:=two_ten K
   have h5:(2:Nat)^(3*K)<2^(B+4):=by rw [Nat.pow_add];omega
   have:=Kz h5
   omega
  ·exact h1
 ·rcases Int.lt_or_le 5600 a with h1|h1
  ·exfalso
   obtain ⟨K,hK⟩ : ∃K:Nat,a=(K:Int):=⟨a.toNat,by omega⟩
   have h2:=(hA K 0 (by omega)).1
   rw [Nat.pow_zero,Nat.mul_one] at h2
   have h3:10^K≤Zy e*10^K:=Nat.le_mul_of_pos_left _ hd
   have h4:=two_ten K
   have h5:(2:Nat)^(3*K)<2^B:=by omega
   have:=Kz h5
   omega
  ·exact h1
theorem bl_one {m:Nat}:blN m=1↔m=1:=by
 constructor
 ·intro h
  rcases Nat.eq_zero_or_pos m with h0|h0
  ·subst h0;cases h
  ·have h1:=U3 h0
   have h2:m<2^blN m:=by rw [blN,if_neg (by omega)];exact Nat.lt_log2_self
   rw [h] at h2
   omega
 ·rintro rfl;decide
set_option maxHeartbeats 2000000 in
theorem interval_ok (K p:Nat) (neg:Bool) (e u:Int) (m n:Nat) (hK:1≤K∧K≤14) (hP:2≤p∧p≤256) (hB:FlB m e) (hu:u=fU p (gK K) (e+blN m-1)) (hue:u≤e) (hn:n=m*2^(e-u).toNat) (hs:e-u≤300) :
 QU Tryz.prog 127 [.v (Q3 ((K+1:Nat):Int) p),.v (YG 1 neg e m)]
  [.v true (.agg [QZ (QX (4*n-fB (gK K) m (e+blN m-1))),QZ (QX (4*n+2))]),.v true (QZ (QX (4*n))),.v true (.int .i64 (u-2)),.v true (.bool (decide (n%2=0)))]:=by
 have lo:=hB.lo
 have hi:=hB.hi
 have hR:=E3 K p hK (by omega)
 have lm:(QX m).length≤4:=QC hB.mB (by omega)
 have hL:=H4 (QX m) (by omega) (QY _).1
 rw [(QY m).2.2] at hL
 have hb:=X6 hB.mB
 have hb1:=(U3 hB.m0).2
 have hS:=fStep_ok K p (e+blN m-1) hK (by omega) (by omega)
 rw [←hu] at hS
 have h1:=V5 m (e-u).toNat (by omega) (by omega)
 rw [←hn] at h1
 have ln:(QX n).length≤10:=by rw [hn];exact EV m _ _ _ hB.mB (by omega)
 have h2:=V5 n 2 (by omega) (by omega)
 rw [show n*2^2=4*n from by omega] at h2
 have l4:(QX (4*n)).length≤20:=by
  have:=EV m ((e-u).toNat+2) _ 20 hB.mB (by omega)
  rw [Nat.pow_add,←Nat.mul_assoc,←hn] at this
  rw [Nat.mul_comm 4 n];exact this
 have n0:0<n:=by rw [hn];exact Nat.mul_pos hB.m0 (Nat.pow_pos (by decide))
 obtain ⟨b,hb'⟩ : ∃b,b=fB (gK K) m (e+blN m-1):=⟨_,rfl⟩
 rw [←hb']
 have hb2:b=1∨b=2:=by rw [hb'];unfold fB;split <;> simp
 have o1:okW [(b:Int)]:=by intro n hn;simp at hn;omega
 have v1:val [(b:Int)]=b:=by rcases hb2 with h|h <;> subst h <;> decide
 have h3:=wSub_ok (QX (4*n)) [(b:Int)] (by omega) (by simp) (QY _).1 o1 (by rw [(QY _).2.2,v1];omega)
 rw [(QY _).2.2,v1] at h3
 have h4:=wAdd_ok (QX (4*n)) [2] (by omega) (by simp) (QY _).1 (by intro n hn;simp at hn;omega)
 rw [(QY _).2.2,show val [(2:Int)]=2 from by decide] at h4
 have h5:=CZ (QX n) 0 (by omega) (by omega) (QY _).1
 rw [(QY n).2.2,Kf] at h5
 have e5:(!decide (n%2=1))=decide (n%2=0):=by
  rcases Nat.mod_two_eq_zero_or_one n with h|h <;> simp [h]
 have hfb:b=if blN m=1∧1-gK K<e+blN m-1 then 1 else 2:=by
  rw [hb'];unfold fB
  by_cases h:m=1
  ·rw [bl_one.2 h];simp [h]
  ·have : ¬blN m=1:=fun x=>h (bl_one.1 x)
   rw [if_neg (fun x=>h x.1),if_neg (fun x=>this x.1)]
 have hG:=U6 hK
 obtain ⟨G,hG'⟩ : ∃G,G=gK K:=⟨_,rfl⟩
 rw [←hG'] at hR hfb hG
 obtain ⟨bl,hbl⟩ : ∃b,b=blN m:=⟨_,rfl⟩
 rw [←hbl] at hL hS hfb hb hb1
 obtain ⟨k,hk⟩ : ∃k:Int,k=((K+1:Nat):Int):=⟨_,rfl⟩
 rw [←hk] at hR hS ⊢
 obtain ⟨od,hod⟩ : ∃b,b=decide (n%2=1):=⟨_,rfl⟩
 rw [←hod] at h5 e5
 rw [←e5]
 have hmv:QZ (QX m) = .sl 1 ((QX m).map fun n=>.int .u64 n):=rfl
 unfold YG
 rw [hmv] at hL h1 ⊢
 obtain ⟨M,hM⟩ : ∃M,M=(QX m).map fun n=>V.int .u64 n:=⟨_,rfl⟩
 rw [←hM] at hL h1 ⊢
 obtain ⟨N,hN⟩ : ∃N,N=QX n:=⟨_,rfl⟩
 obtain ⟨A,hA⟩ : ∃N,N=QX (4*n):=⟨_,rfl⟩
 obtain ⟨Lo,hLo⟩ : ∃N,N=QX (4*n-b):=⟨_,rfl⟩
 obtain ⟨Hi,hHi⟩ : ∃N,N=QX (4*n+2):=⟨_,rfl⟩
 rw [←hN] at h1 h2 h5
 rw [←hA] at h2 h3 h4 ⊢
 rw [←hLo] at h3 ⊢
 rw [←hHi] at h4 ⊢
 have h3':QU Tryz.prog 203 [.v (QZ A),.v (.sl 1 [.int .u64 b])] [.v true (QZ Lo)]:=h3
 have h4':QU Tryz.prog 131 [.v (QZ A),.v (.sl 1 [.int .u64 2])] [.v true (QZ Hi)]:=h4
 have h5':QU Tryz.prog 60 [.v (QZ N),.v (.int .i64 0)] [.v true (.bool od)]:=h5
 have e0:((1:Nat):Int)=1:=rfl
 rw [e0]
 have w1:IntKind.i64.wrap (e+bl)=e+bl:=by rw [QV] <;> omega
 have w2:IntKind.i64.wrap (e+bl-1)=e+bl-1:=by rw [QV] <;> omega
 have w3:e-u=((e-u).toNat:Int):=by omega
 have w4:IntKind.i64.wrap (u-2)=u-2:=by rw [QV] <;> omega
 have ub : -20000≤u∧u≤20000:=by omega
 obtain ⟨sh,hsh⟩ : ∃s,s=(e-u).toNat:=⟨_,rfl⟩
 rw [←hsh] at h1 w3
 obtain ⟨ld,hld⟩ : ∃s,s=e+(bl:Int)-1:=⟨_,rfl⟩
 rw [←hld] at hS hfb w2
 have w5:=hld.symm
 have hsh':QU Tryz.prog 55 [.v (.sl 1 M),.v (.int .i64 sh)] [.v true (QZ N)]:=h1
 unfold Q3 at hR hS ⊢
 clear h1 h3 h4 h5 e5 hod hHi hLo hA hN hM hmv hk hbl hG' v1 o1 n0 l4 ln lm hB hu hn hb' hsh hK hP
 refine QU.of Tryz.func127 rfl rfl fun cx w0=>?_
 rw [show Tryz.f127.ntmps=66 from rfl]
 refine zs0 ?_
 refine zs2 (ρ:=fun _=>[.v true (.int .i64 (1-G)),.v true (.int .i64 G),.v true (.int .i64 (1-G-((p:Int)-1))),.v true (.int .i64 0)]) (o:=by repeat' first|exact hR|trivial|constructor) (k:=?_)
 refine zd3 [] (ρ:=fun _=>[.v true (.int .i64 bl)]) (an w1 <| an w2 <| w5) (o:=by repeat' first|exact hL|trivial|constructor) (k:=?_)
 refine zs2 (ρ:=fun _=>[.v true (.int .i64 u)]) (o:=by repeat' first|exact hS|trivial|constructor) (k:=?_)
 refine zs3 (ρ:=fun _=>[.v true (QZ N)]) w3 (o:=by repeat' first|exact hsh'|trivial|constructor) (k:=?_)
 refine zs2 (ρ:=fun _=>[.v true (QZ A)]) (o:=by repeat' first|exact h2|trivial|constructor) (k:=?_)
 refine zs0 ?_
 refine QQ.next (fun σ=>∀a w,Rel cx w0 σ a w→Rel cx w0 {nt:=66,env:=[(15,.v true (.sl 1 [.int .u64 b])),(5,.v true (QZ A)),(13,.v true (.int .i64 u)),(14,.v true (QZ N)),(4,.ptr 4 0 [] 0)],mem:=[(4,.box 168 (.v true (.agg [.sl 1 [],.sl 1 []])))]} a w) ?_ ?_
 ·by_cases h1:bl=1
  ·subst h1
   by_cases h2:1-G<ld
   ·rw [if_pos ⟨rfl,h2⟩] at hfb
    subst hfb
    refine zs3 (ρ:=fun _=>[.v true (.int .i64 1)]) h2 (o:=by repeat' first|exact hL|trivial|constructor) (k:=?_)
    refine QQ.condT rfl ?_
    refine zr0 ?_
    exact fun a w h=>Rel.keep [15,5,13,14,4] [4] (Rel.freeze (s:=52) h rfl)
   ·rw [if_neg (fun x=>h2 x.2)] at hfb
    subst hfb
    refine zs3 (ρ:=fun _=>[.v true (.int .i64 1)]) h2 (o:=by repeat' first|exact hL|trivial|constructor) (k:=?_)
    exact QQ.condF rfl (QQ.skip fun a w h=>Rel.keep [15,5,13,14,4] [4] (Rel.freeze (s:=42) h rfl))
  ·rw [if_neg (fun x=>h1 x.1)] at hfb
   subst hfb
   have g : ¬(bl:Int)=1:=by omega
   refine zs3 (ρ:=fun _=>[.v true (.int .i64 bl)]) g (o:=by repeat' first|exact hL|trivial|constructor) (k:=?_)
   exact QQ.condF rfl (QQ.skip fun a w h=>Rel.keep [15,5,13,14,4] [4] (Rel.freeze (s:=42) h rfl))
 ·intro σ hσ
  refine QQ.from hσ ?_
  refine zs2 (ρ:=fun x=>if x=55 then [.v true (QZ Lo)] else if x=58 then [.v true (QZ Hi)] else [.v true (.bool od)]) (o:=by repeat' first|exact h3'|exact h4'|exact h5'|trivial|constructor) (k:=?_)
  exact QQ.ret (QK.vs rfl (by exact ⟨⟨rfl,id⟩,⟨rfl,id⟩,⟨congrArg (V.int .i64) w4,id⟩,⟨rfl,id⟩,trivial⟩) rfl)
theorem cmp_neg {a b:Nat}:Q7 a b<0↔a<b:=by
 unfold Q7
 split
 ·simp [*]
 ·split <;> simp <;> omega
theorem cmp_pos {a b:Nat}:0<Q7 a b↔b<a:=by
 unfold Q7
 split
 ·simp;omega
 ·split <;> simp <;> omega
theorem EH {a b:Nat}:Q7 a b=0↔a=b:=by
 unfold Q7
 split
 ·simp;omega
 ·split <;> simp <;> omega
theorem inI_cmp (n b Z W:Nat):decide (inI n b Z W)=if 0<Q7 Z ((4*n-b)*W)∧Q7 Z ((4*n+2)*W)<0 then true else if decide (n%2=0)=true then (if Q7 Z ((4*n-b)*W)=0 then true else decide (Q7 Z ((4*n+2)*W)=0)) else false:=by
 by_cases h1:0<Q7 Z ((4*n-b)*W)∧Q7 Z ((4*n+2)*W)<0
 ·rw [if_pos h1];exact decide_eq_true (.inl ⟨cmp_pos.1 h1.1,cmp_neg.1 h1.2⟩)
 ·rw [if_neg h1]
  have h1' : ¬((4*n-b)*W<Z∧Z<(4*n+2)*W):=fun x=>h1 ⟨cmp_pos.2 x.1,cmp_neg.2 x.2⟩
  by_cases h2:n%2=0
  ·rw [if_pos (decide_eq_true h2)]
   by_cases h3:Q7 Z ((4*n-b)*W)=0
   ·rw [if_pos h3];exact decide_eq_true (.inr ⟨h2,.inl (EH.1 h3)⟩)
   ·rw [if_neg h3]
    by_cases h4:Q7 Z ((4*n+2)*W)=0
    ·rw [decide_eq_true h4];exact decide_eq_true (.inr ⟨h2,.inr (EH.1 h4)⟩)
    ·rw [decide_eq_false h4]
     refine decide_eq_false fun x=>?_
     rcases x with x|⟨_,x|x⟩
     ·exact h1' x
     ·exact h3 (EH.2 x)
     ·exact h4 (EH.2 x)
  ·rw [if_neg (by simpa using h2)]
   refine decide_eq_false fun x=>?_
   rcases x with x|⟨x,_⟩
   ·exact h1' x
   ·exact h2 x
theorem AX (x y:Nat) (hx:(QX x).length<100000) (hy:(QX y).length<100000):QU Tryz.prog 101 [.v (QZ (QX x)),.v (QZ (QX y))] [.v true (.int .i64 (Q7 x y))]:=by
 have:=K6 (QX x) (QX y) hx hy (QY x).1 (QY y).1
 rw [(QY x).2.2,(QY y).2.2] at this
 exact this
theorem BY {x y a b n:Nat} (hx:x<2^a) (hy:y<2^b) (h:a+b≤64*n):(QX (x*y)).length≤n:=QC (B:=a+b) (by rw [Nat.pow_add];exact Nat.mul_lt_mul_of_lt_of_lt hx hy) h
set_option maxHeartbeats 2000000 in
theorem in_ok (n b U W k B:Nat) (hB:B≤100000) (hk:k<2^B) (hU:U<2^B) (hW:W<2^B) (hn:4*n+2<2^B) :
 QU Tryz.prog 129 [.v (QZ (QX k)),.el (QZ (QX U)),.el (.agg [QZ (QX (4*n-b)),QZ (QX (4*n+2))]),.el (QZ (QX W)),.el (.bool (decide (n%2=0)))] [.v true (.bool (decide (inI n b (k*U) W)))]:=by
 have hlo:4*n-b<2^B:=by omega
 have l1:=QC (n:=2000) hk (by omega)
 have l2:=QC (n:=2000) hU (by omega)
 have l3:=QC (n:=2000) hW (by omega)
 have l4:=QC (n:=2000) hn (by omega)
 have l5:=QC (n:=2000) hlo (by omega)
 have l6:=BY (n:=4000) hk hU (by omega)
 have l7:=BY (n:=4000) hlo hW (by omega)
 have l8:=BY (n:=4000) hn hW (by omega)
 have h1:=VV k U (by omega) (by omega)
 have h2:=VV (4*n-b) W (by omega) (by omega)
 have h3:=VV (4*n+2) W (by omega) (by omega)
 have h4:=AX (k*U) ((4*n-b)*W) (by omega) (by omega)
 have h5:=AX (k*U) ((4*n+2)*W) (by omega) (by omega)
 rw [inI_cmp]
 obtain ⟨c1,hc1⟩ : ∃c,c=Q7 (k*U) ((4*n-b)*W):=⟨_,rfl⟩
 obtain ⟨c2,hc2⟩ : ∃c,c=Q7 (k*U) ((4*n+2)*W):=⟨_,rfl⟩
 rw [←hc1] at h4 ⊢
 rw [←hc2] at h5 ⊢
 obtain ⟨w,hw⟩ : ∃w,w=decide (n%2=0):=⟨_,rfl⟩
 rw [←hw]
 obtain ⟨kU,hkU⟩ : ∃x,x=QX (k*U):=⟨_,rfl⟩
 obtain ⟨lW,hlW⟩ : ∃x,x=QX ((4*n-b)*W):=⟨_,rfl⟩
 obtain ⟨hW',hhW⟩ : ∃x,x=QX ((4*n+2)*W):=⟨_,rfl⟩
 rw [←hkU] at h1 h4 h5
 rw [←hlW] at h2 h4
 rw [←hhW] at h3 h5
 obtain ⟨kd,hkd⟩ : ∃x,x=QX k:=⟨_,rfl⟩
 obtain ⟨ud,hud⟩ : ∃x,x=QX U:=⟨_,rfl⟩
 obtain ⟨wd,hwd⟩ : ∃x,x=QX W:=⟨_,rfl⟩
 obtain ⟨ld,hld⟩ : ∃x,x=QX (4*n-b):=⟨_,rfl⟩
 obtain ⟨hd,hhd⟩ : ∃x,x=QX (4*n+2):=⟨_,rfl⟩
 rw [←hkd,←hud] at h1
 rw [←hld,←hwd] at h2
 rw [←hhd,←hwd] at h3
 rw [←hkd,←hud,←hld,←hhd,←hwd]
 unfold QZ at h1 h2 h3 h4 h5 ⊢
 clear hkd hud hwd hld hhd hkU hlW hhW hw hc1 hc2 l1 l2 l3 l4 l5 l6 l7 l8 hlo hn hW hU hk hB
 refine QU.of Tryz.func129 rfl rfl fun cx w0=>?_
 rw [show Tryz.f129.ntmps=42 from rfl]
 refine zs0 ?_
 refine zs2 (ρ:=fun _=>[.v true (.sl 1 (kU.map fun n=>.int .u64 n))]) (o:=by repeat' first|exact h1|trivial|constructor) (k:=?_)
 refine zd2 [] (ρ:=fun x=>if x=17 then [.v true (.sl 1 (lW.map fun n=>.int .u64 n))] else if x=18 then [.v true (.int .i64 c1)] else if x=23 then [.v true (.sl 1 (hW'.map fun n=>.int .u64 n))] else [.v true (.int .i64 c2)]) (o:=by repeat' first|exact h2|exact h4|exact h3|exact h5|trivial|constructor) (k:=?_)
 refine QQ.from (σ' := {nt:=42,env:=[(8,.v true (.int .i64 c1)),(9,.v true (.int .i64 c2)),(4,.el false (.bool w))],mem:=[]}) (fun a w h=>Rel.keep [8,9,4] [] h) ?_
 clear h1 h2 h3 h4 h5
 by_cases g1:0<c1
 ·have g3 : ¬c1=0:=by omega
  by_cases g2:c2<0
  ·rw [if_pos ⟨g1,g2⟩]
   refine zs1 (an g1 <| g2) ?_
   exact QQ.ret (QK.vs rfl (by exact ⟨⟨rfl,id⟩,trivial⟩) rfl)
  ·rw [if_neg (fun x=>g2 x.2)]
   cases w with
   | false =>
     rw [if_neg (show ¬false=true by decide)]
     refine zs1 (an g1 <| g2) ?_
     exact QQ.ret (QK.vs rfl (by exact ⟨⟨rfl,id⟩,trivial⟩) rfl)
   | true =>
     rw [if_pos rfl,if_neg g3]
     refine zs1 (an g1 <| an g2 <| g3) ?_
     exact QQ.ret (QK.vs rfl (by exact ⟨⟨rfl,id⟩,trivial⟩) rfl)
 ·rw [if_neg (fun x=>g1 x.1)]
  cases w with
  | false =>
    rw [if_neg (show ¬false=true by decide)]
    refine zs1 g1 ?_
    exact QQ.ret (QK.vs rfl (by exact ⟨⟨rfl,id⟩,trivial⟩) rfl)
  | true =>
    rw [if_pos rfl]
    by_cases g3:c1=0
    ·rw [if_pos g3]
     refine zs1 (an g1 <| g3) ?_
     exact QQ.ret (QK.vs rfl (by exact ⟨⟨rfl,id⟩,trivial⟩) rfl)
    ·rw [if_neg g3]
     refine zs1 (an g1 <| g3) ?_
     exact QQ.ret (QK.vs rfl (by exact ⟨⟨rfl,id⟩,trivial⟩) rfl)
def shQ (kk:Option Nat) (s:Int) (M:St→Prop):Exit→St→Prop
 | .exit id,σ=>id=1∧kk=none∧M σ
 | .ret,σ=>∃k,kk=some k∧QK Tryz.prog Tryz.f53 σ [.v true (.str (bs (trR (Qv k)))),.v true (.int .i64 (s+(Qv k).length-1))]
 | _,_=>False
set_option maxHeartbeats 2000000 in
theorem sh_out {cx:Cx} {w0:World} (k:Nat) (s:Int) (M:St→Prop) (kk:Option Nat) (hk:kk=some k) (hkl:k≤10^80) (hs : -10000≤s∧s≤10000) :
 QQ Tryz.prog none cx w0 (ZH Tryz.f53 [1,1,1,1,1,0,0,0,0,1,1,1,1,1,1,1,1,1,1,1]) {nt:=132,env:=[(19,.v true (QZ (QX k))),(14,.v true (.int .i64 s))],mem:=[]} (shQ kk s M):=by
 have lk:(QX k).length≤100:=QC (Nat.lt_of_le_of_lt hkl (X3 80)) (by decide)
 have hD:=KZ (QX k) (by omega) (QY k).1
 rw [(QY k).2.2] at hD
 have hl:(Qv k).length≤81:=UQ (Nat.lt_of_le_of_lt hkl (by decide)) (by decide)
 have hT:=Fq (Qv k) (by omega)
 have hD:QU Tryz.prog 54 [.v (QZ (QX k))] [.v true (.str (bs (Qv k)))]:=hD
 have hz:=Qx (Qv k)
 have hpost : ∀σ,QK Tryz.prog Tryz.f53 σ [.v true (.str (bs (trR (Qv k)))),.v true (.int .i64 (s+(Qv k).length-1))]→shQ kk s M .ret σ:=fun σ h=>⟨k,hk,h⟩
 obtain ⟨Q,hQ⟩ : ∃Q,Q=shQ kk s M:=⟨_,rfl⟩
 rw [←hQ] at hpost ⊢
 obtain ⟨x,hx⟩ : ∃x,x=bs (Qv k):=⟨_,rfl⟩
 obtain ⟨y,hy⟩ : ∃x,x=bs (trR (Qv k)):=⟨_,rfl⟩
 obtain ⟨n,hn⟩ : ∃n,n=(Qv k).length:=⟨_,rfl⟩
 obtain ⟨N,hN⟩ : ∃n,n=QX k:=⟨_,rfl⟩
 rw [←hx] at hD hT hz
 rw [←hy] at hT hpost
 rw [←hn] at hz hl hpost
 rw [←hN] at hD ⊢
 have w1:IntKind.i64.wrap (s+(x.size:Int))=s+n:=by rw [hz,QV] <;> omega
 have w2:IntKind.i64.wrap (s+(n:Int)-1)=s+n-1:=by rw [QV] <;> omega
 clear hx hy hn hN hQ lk hkl hk
 refine zs2 (ρ:=fun _=>[.v true (.str x)]) (o:=by repeat' first|exact hD|trivial|constructor) (k:=?_)
 refine zs3 (ρ:=fun _=>[.v true (.str y)]) (an w1 <| w2) (o:=by repeat' first|exact hT|trivial|constructor) (k:=?_)
 exact QQ.ret (hpost _ (QK.vs rfl (by exact ⟨⟨rfl,id⟩,⟨rfl,id⟩,trivial⟩) rfl))
set_option maxHeartbeats 2000000 in
theorem sh_both {cx:Cx} {w0:World} {N':St→Prop} (q rest U:Nat) (s a e':Int) (d:Nat) (at_:List Int) (lo hi:List Int) (wth one two:Bool) (hq:(QX q).length<1000) (hr:(QX rest).length<1000) (hU:(QX U).length<10000) :
 QQ Tryz.prog none cx w0 (ZH Tryz.f53 [1,1,1,1,1,0,0,0,0,1,1,1,1,1,1,1,1,0])
  {nt:=132,env:=[(22,.v true (.bool one)),(23,.v true (.bool two)),(19,.v true (QZ (QX q))),(21,.v true (QZ (QX (q+1)))),(20,.v true (QZ (QX rest))),(15,.ptr 15 0 [] 0),(14,.v true (.int .i64 s)),(13,.v true (.int .i64 d)),(12,.v true (.int .i64 a)),(6,.ptr 6 0 [] 0),(7,.v true (QZ at_)),(8,.v true (.int .i64 e')),(9,.ptr 9 0 [] 0)],mem:=[(15,.box 26 (.v true (QZ (QX U)))),(6,.box 168 (.v true (.agg [QZ lo,QZ hi]))),(9,.box 4 (.v true (.bool wth)))]}
  (NR (fun σ=>∀x w,Rel cx w0 σ x w→Rel cx w0 {nt:=132,env:=[(22,.v true (.bool (one && !(two&&decide (0<Q7 (rest*2) U∨Q7 (rest*2) U=0∧q%2=1))))),(23,.v true (.bool two)),(19,.v true (QZ (QX q))),(21,.v true (QZ (QX (q+1)))),(14,.v true (.int .i64 s)),(13,.v true (.int .i64 d)),(12,.v true (.int .i64 a)),(6,.ptr 6 0 [] 0),(7,.v true (QZ at_)),(8,.v true (.int .i64 e')),(9,.ptr 9 0 [] 0)],mem:=[(6,.box 168 (.v true (.agg [QZ lo,QZ hi]))),(9,.box 4 (.v true (.bool wth)))]} x w) N'):=by
 have h1:=V5 rest 1 (by omega) (by omega)
 rw [Nat.pow_one] at h1
 have l1:(QX (rest*2)).length<2000:=by
  have h1:=ZY (QY rest).1
  rw [(QY rest).2.2] at h1
  have h2:rest*2<18446744073709551616^((QX rest).length+1):=by rw [Nat.pow_succ];omega
  have:=ZU h2
  omega
 have h2:=AX (rest*2) U (by omega) (by omega)
 have h3:=CZ (QX q) 0 (by omega) (by omega) (QY q).1
 rw [(QY q).2.2,Kf] at h3
 have h3:QU Tryz.prog 60 [.v (QZ (QX q)),.v (.int .i64 0)] [.v true (.bool (decide (q%2=1)))]:=h3
 obtain ⟨c,hc⟩ : ∃c,c=Q7 (rest*2) U:=⟨_,rfl⟩
 rw [←hc] at h2 ⊢
 obtain ⟨od,hod⟩ : ∃b,b=decide (q%2=1):=⟨_,rfl⟩
 have eup:decide (0<c∨c=0∧q%2=1)=if 0<c then true else if c=0 then od else false:=by
  by_cases g1:0<c
  ·rw [if_pos g1];exact decide_eq_true (.inl g1)
  ·rw [if_neg g1]
   by_cases g2:c=0
   ·rw [if_pos g2,hod];simp [g1,g2]
   ·rw [if_neg g2];exact decide_eq_false (fun x=>by rcases x with x|x;exact g1 x;exact g2 x.1)
 rw [eup]
 rw [←hod] at h3
 obtain ⟨R2,hR2⟩ : ∃x,x=QX (rest*2):=⟨_,rfl⟩
 obtain ⟨R1,hR1⟩ : ∃x,x=QX rest:=⟨_,rfl⟩
 obtain ⟨Q0,hQ0⟩ : ∃x,x=QX q:=⟨_,rfl⟩
 obtain ⟨Q1,hQ1⟩ : ∃x,x=QX (q+1):=⟨_,rfl⟩
 obtain ⟨UU,hUU⟩ : ∃x,x=QX U:=⟨_,rfl⟩
 rw [←hR2] at h1 h2
 rw [←hR1] at h1 ⊢
 rw [←hQ0] at h3 ⊢
 rw [←hUU] at h2 ⊢
 rw [←hQ1]
 unfold QZ at h1 h2 h3 ⊢
 clear hR2 hR1 hQ0 hQ1 hUU hc hod eup hq hr hU l1
 cases one with
 | false =>
   rw [Bool.false_and]
   refine zs0 ?_
   exact QQ.condF rfl (QQ.skip fun x w h=>Rel.keep [22,23,19,21,14,13,12,6,7,8,9] [6,9] h)
 | true =>
   cases two with
   | false =>
     rw [Bool.false_and,Bool.not_false,Bool.and_true]
     refine zs0 ?_
     exact QQ.condF rfl (QQ.skip fun x w h=>Rel.keep [22,23,19,21,14,13,12,6,7,8,9] [6,9] h)
   | true =>
     rw [Bool.true_and,Bool.true_and]
     refine zs0 ?_
     refine QQ.condT rfl ?_
     refine zd2 [] (ρ:=fun x=>if x=100 then [.v true (.sl 1 (R2.map fun n=>.int .u64 n))] else [.v true (.int .i64 c)]) (o:=by repeat' first|exact h1|exact h2|trivial|constructor) (k:=?_)
     refine QQ.blockN ?_
     refine QQ.from (σ' := {nt:=132,env:=[(24,.v true (.int .i64 c)),(22,.v true (.bool true)),(23,.v true (.bool true)),(19,.v true (.sl 1 (Q0.map fun n=>.int .u64 n))),(21,.v true (.sl 1 (Q1.map fun n=>.int .u64 n))),(14,.v true (.int .i64 s)),(13,.v true (.int .i64 d)),(12,.v true (.int .i64 a)),(6,.ptr 6 0 [] 0),(7,.v true (.sl 1 (at_.map fun n=>.int .u64 n))),(8,.v true (.int .i64 e')),(9,.ptr 9 0 [] 0)],mem:=[(6,.box 168 (.v true (.agg [.sl 1 (lo.map fun n=>.int .u64 n),.sl 1 (hi.map fun n=>.int .u64 n)]))),(9,.box 4 (.v true (.bool wth)))]}) (fun x w h=>Rel.keep [24,22,23,19,21,14,13,12,6,7,8,9] [6,9] h) ?_
     by_cases g1:0<c
     ·rw [if_pos g1]
      refine zs1 g1 ?_
      refine QQ.condT rfl ?_
      refine zr0 ?_
      exact fun x w h=>Rel.keep [22,23,19,21,14,13,12,6,7,8,9] [6,9] h
     ·rw [if_neg g1]
      by_cases g2:c=0
      ·rw [if_pos g2]
       cases od with
       | true =>
         refine zs3 (ρ:=fun _=>[.v true (.bool true)]) (an g1 <| g2) (o:=by repeat' first|exact h3|trivial|constructor) (k:=?_)
         refine QQ.condT rfl ?_
         refine zr0 ?_
         exact fun x w h=>Rel.keep [22,23,19,21,14,13,12,6,7,8,9] [6,9] h
       | false =>
         refine zs3 (ρ:=fun _=>[.v true (.bool false)]) (an g1 <| g2) (o:=by repeat' first|exact h3|trivial|constructor) (k:=?_)
         exact QQ.condF rfl (QQ.skip fun x w h=>Rel.keep [22,23,19,21,14,13,12,6,7,8,9] [6,9] h)
      ·rw [if_neg g2]
       refine zs1 (an g1 <| g2) ?_
       exact QQ.condF rfl (QQ.skip fun x w h=>Rel.keep [22,23,19,21,14,13,12,6,7,8,9] [6,9] h)
end Go.Proofs.YtlpolbeikangpaaGreatDoor.L
