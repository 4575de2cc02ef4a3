/-
  Ta Tb Da Db Dd De Df Dg Ga Gb Gc Gd Ge Gf Gg Gh
-/
import Derived.Test.YtlpolbeikangpaaGreatDoorTX4
import Derived.Test.YtlpolbeikangpaaGreatDoorTX5
import Derived.Test.YtlpolbeikangpaaGreatDoorTX3
set_option linter.unusedSimpArgs false
set_option linter.unusedVariables false
set_option maxRecDepth 100000
namespace Go.Proofs.YtlpolbeikangpaaGreatDoor.L
open Go Go.RowKit Go.Proofs
attribute [local go_sem] Yq YQ JY JX JU JV XF Q4 ZB QH Jx Y4 St.opv St.get St.at Qu Xu St.put St.upd St.set decide_true List.all_nil List.all_cons Bool.and_true Bool.true_and and_self and_true true_and if_true if_false true_or Int.sub_zero List.nil_append List.cons_append List.append_nil Option.isSome_some List.getElem?_toArray List.getElem?_cons_succ List.getElem?_cons_zero Option.bind_some Option.map_some Option.map_none beq_self_eq_true Bool.false_beq Bool.true_beq Bool.not_true Bool.not_false Bool.false_eq_true cond_true cond_false DJ D3 List.map_cons List.map_nil YZ List.length_nil List.length_cons Nat.zero_mul Nat.one_mul Nat.mul_one Nat.zero_add Nat.add_zero Nat.zero_le Option.toList St.freshB AV.ment AV.ments Blk.ment V.sizes Nat.lt_add_one Bool.or_true Bool.true_or Bool.or_false Bool.false_or Bool.or_self if_pos if_neg decide_false decide_eq_true decide_eq_false QV Int.toNat_natCast FQ E7 Int.natCast_add Int.cast_ofNat_Int Option.isSome_none false_implies true_implies forall_const List.drop_zero Int.toNat_zero Int.add_sub_cancel Gy XK XE ZX Ug KH V.atP V.offP V.size List.length_map List.getElem?_map Int.toNat_natCast_add_one Int.ofNat_eq_natCast TY Y8 Qd U8 Z6 ZC Uu UH R.res R.mems R.blks R.av R.names R.nw XC XU Vz ZZ Ku V.off V.offs V.setP List.set_cons_zero List.set_cons_succ VH Yz YF YH KQ VC VG Kv AV.pure List.take_succ_cons List.take_zero Gz QZ unA U4 List.zipIdx_cons List.zipIdx_nil Arg.av Arg.avs
def Q7 (a b:Nat):Int:=if a<b then -1 else if b<a then 1 else 0
def AK (f g:Nat→Int):Nat→Int
 | 0=>0
 | j+1=>if f j<g j then -1 else if g j<f j then 1 else AK f g j
theorem AU {B:Nat} {f g:Nat→Int} {F G:Nat→Nat} (hF0:F 0=0) (hG0:G 0=0) (hF : ∀j,F (j+1)=F j+B^j*(f j).toNat) (hG : ∀j,G (j+1)=G j+B^j*(g j).toNat)
 (bf : ∀j,0≤f j∧f j<B) (bg : ∀j,0≤g j∧g j<B) : ∀j,F j<B^j∧G j<B^j∧AK f g j=Q7 (F j) (G j)
 | 0=>by rw [hF0,hG0];exact ⟨by simp,by simp,rfl⟩
 | j+1=>by
   obtain ⟨h1,h2,h3⟩:=AU hF0 hG0 hF hG bf bg j
   obtain ⟨f0,f1⟩:=bf j
   obtain ⟨g0,g1⟩:=bg j
   have step : ∀ {P Q:Nat} {u v:Nat},P<B^j→u<v→P+B^j*u<Q+B^j*v:=fun {P Q u v} hP huv=>by
    have:B^j*(u+1)≤B^j*v:=Nat.mul_le_mul_left _ huv
    rw [Nat.mul_add,Nat.mul_one] at this
    omega
   have bnd : ∀ {P:Nat} {x:Int},P<B^j→0≤x→x<B→P+B^j*x.toNat<B^(j+1):=fun {P x} hP hx0 hx=>by
    have:=step (Q:=0) (v:=B) hP (show x.toNat<B by omega)
    rw [Nat.zero_add] at this
    rw [Nat.pow_succ]
    exact this
   rw [hF,hG]
   refine ⟨bnd h1 f0 f1,bnd h2 g0 g1,?_⟩
   rw [AK]
   rcases Int.lt_trichotomy (f j) (g j) with h|h|h
   ·have:=step (Q:=G j) h1 (show (f j).toNat<(g j).toNat by omega)
    rw [if_pos h,Q7,if_pos this]
   ·rw [h,if_neg (by omega),if_neg (by omega),h3,Q7,Q7]
    rcases Nat.lt_trichotomy (F j) (G j) with h4|h4|h4
    ·rw [if_pos h4,if_pos (by omega)]
    ·rw [h4,if_neg (by omega),if_neg (by omega),if_neg (by omega),if_neg (by omega)]
    ·rw [if_neg (by omega),if_pos h4,if_neg (by omega),if_pos (by omega)]
   ·have:=step (Q:=F j) h2 (show (g j).toNat<(f j).toNat by omega)
    rw [if_neg (by omega),if_pos h,Q7,if_neg (by omega),if_pos this]
theorem Ey {l:List Int} (j:Nat):val (l.take (j+1))=val (l.take j)+18446744073709551616^j*(l.getD j 0).toNat:=by
 rcases Nat.lt_or_ge j l.length with h|h
 ·rw [Y3 h,ZK,List.length_take,Nat.min_eq_left (by omega),val,val];simp
 ·rw [List.take_of_length_le (by omega),List.take_of_length_le h,List.getD_eq_getElem?_getD,List.getElem?_eq_none h];rfl
theorem Z5 {l:List Int} (j:Nat):QG (l.take (j+1))=QG (l.take j)+4294967296^j*(l.getD j 0).toNat:=by
 rcases Nat.lt_or_ge j l.length with h|h
 ·rw [Y3 h,ZG,List.length_take,Nat.min_eq_left (by omega),QG,QG];simp
 ·rw [List.take_of_length_le (by omega),List.take_of_length_le h,List.getD_eq_getElem?_getD,List.getElem?_eq_none h];rfl
theorem cmpD_W {x y:List Int} (ox:okW x) (oy:okW y) {M:Nat} (hx:x.length≤M) (hy:y.length≤M):AK (fun i=>x.getD i 0) (fun i=>y.getD i 0) M=Q7 (val x) (val y):=by
 have h:=(AU (B:=18446744073709551616) (F:=fun j=>val (x.take j)) (G:=fun j=>val (y.take j)) (f:=fun i=>x.getD i 0) (g:=fun i=>y.getD i 0) rfl rfl (fun j=>Ey j) (fun j=>Ey j) (Qy ox) (Qy oy) M).2.2
 simp only [List.take_of_length_le hx,List.take_of_length_le hy] at h
 exact h
theorem cmpD_H {x y:List Int} (ox:okH x) (oy:okH y) {M:Nat} (hx:x.length≤M) (hy:y.length≤M):AK (fun i=>x.getD i 0) (fun i=>y.getD i 0) M=Q7 (QG x) (QG y):=by
 have h:=(AU (B:=4294967296) (F:=fun j=>QG (x.take j)) (G:=fun j=>QG (y.take j)) (f:=fun i=>x.getD i 0) (g:=fun i=>y.getD i 0) rfl rfl (fun j=>Z5 j) (fun j=>Z5 j) (Q8 ox) (Q8 oy) M).2.2
 simp only [List.take_of_length_le hx,List.take_of_length_le hy] at h
 exact h
theorem Compare_ok (a b:List Int) (hal:a.length<100000) (hbl:b.length<100000) (oa:okH a) (ob:okH b):QU Tryz.prog 227 [.v (QZ a),.v (QZ b)] [.v true (.int .i64 (Q7 (QG a) (QG b)))]:=by
 obtain ⟨M,hM⟩ : ∃M,M=max a.length b.length:=⟨_,rfl⟩
 have hmax:(if (a.length:Int)<(b.length:Int) then (b.length:Int) else a.length)=M:=by rw [hM];split <;> omega
 rw [←cmpD_H oa ob (M:=M) (by omega) (by omega)]
 obtain ⟨C,hC⟩ : ∃C,C=AK (fun i=>a.getD i 0) (fun i=>b.getD i 0):=⟨_,rfl⟩
 have hs : ∀j,C (j+1)=if a.getD j 0<b.getD j 0 then -1 else if b.getD j 0<a.getD j 0 then 1 else C j:=fun j=>by rw [hC,AK]
 have h0:C 0=0:=by rw [hC,AK]
 rw [←hC]
 refine QU.of Tryz.func227 rfl rfl fun cx w0=>?_
 rw [show Tryz.f227.ntmps=32 from rfl]
 refine zs0 ?_
 refine QQ.next (fun σ=>C M=0 ∧ ∀x w,Rel cx w0 σ x w→Rel cx w0 {nt:=32,env:=[],mem:=[]} x w) ?_ ?_
 ·refine zs1 hmax ?_
  refine QQ.loopB (fun j:Nat => {nt:=32,env:=[(5,.v true (.int .i64 ((j:Int)-1))),(0,.v false (QZ a)),(1,.v false (QZ b))],mem:=[]}) (fun j=>j≤M∧C M=C j) id M ⟨Nat.le_refl _,rfl⟩ (fun x w hr=>Rel.keep [5,0,1] [] hr) ?_
  rintro j ⟨hj,hCj⟩
  rcases j with _|j
  ·refine QQ.seq ?_
   refine zs0 ?_
   exact QQ.condF rfl (QQ.exit ⟨rfl,by rw [hCj,h0],fun x w hr=>Rel.keep [] [] hr⟩)
  ·have dA:=Hx a j (by omega)
   have dB:=Hx b j (by omega)
   have hsj:=hs j
   rw [←hCj] at hsj
   obtain ⟨p,hp⟩ : ∃p,p=a.getD j 0:=⟨_,rfl⟩
   obtain ⟨q,hq⟩ : ∃q,q=b.getD j 0:=⟨_,rfl⟩
   rw [←hp] at dA hsj
   rw [←hq] at dB hsj
   refine QQ.seq ?_
   refine zs0 ?_
   refine QQ.condT rfl (QQ.skip ?_)
   refine QQ.next (fun σ=>C M=C j ∧ ∀x w,Rel cx w0 σ x w→Rel cx w0 {nt:=32,env:=[(5,.v true (.int .i64 (j:Int))),(0,.v false (QZ a)),(1,.v false (QZ b))],mem:=[]} x w) ?_ ?_
   ·refine QQ.blockN ?_
    refine zs2 (ρ:=fun d=>if d=20 then [.v true (.int .u64 p)] else [.v true (.int .u64 q)]) (o:=by repeat' first|exact dA|exact dB|trivial|constructor) (k:=?_)
    refine QQ.blockN ?_
    rcases Int.lt_trichotomy p q with h|h|h
    ·rw [if_pos h] at hsj
     refine zs1 h ?_
     refine QQ.condT rfl ?_
     rw [hsj]
     refine zs0 ?_
     exact QQ.ret (QK.vs rfl (by exact ⟨⟨rfl,id⟩,trivial⟩) rfl)
    ·have n1 : ¬p<q:=by omega
     have n2 : ¬q<p:=by omega
     rw [if_neg n1,if_neg n2] at hsj
     refine zs1 (an n1 <| n2) ?_
     refine QQ.condF rfl ?_
     refine zs1 (an n1 <| n2) ?_
     exact QQ.condF rfl (QQ.skip ⟨hsj,fun x w hr=>Rel.keep [5,0,1] [] hr⟩)
    ·have n1 : ¬p<q:=by omega
     rw [if_neg n1,if_pos h] at hsj
     refine zs1 (an n1 <| h) ?_
     refine QQ.condF rfl ?_
     refine zs1 (an n1 <| h) ?_
     refine QQ.condT rfl ?_
     rw [hsj]
     refine zs0 ?_
     exact QQ.ret (QK.vs rfl (by exact ⟨⟨rfl,id⟩,trivial⟩) rfl)
   ·rintro σ ⟨hC2,hσ⟩
    refine QQ.from hσ ?_
    refine zr0 ?_
    exact ⟨j,⟨by omega,hC2⟩,(show j<j+1 by omega),fun x w hr=>Rel.keep [5,0,1] [] hr⟩
 ·rintro σ ⟨hC0,hσ⟩
  rw [hC0]
  refine QQ.from hσ ?_
  refine zs0 ?_
  exact QQ.ret (QK.vs rfl (by exact ⟨⟨rfl,id⟩,trivial⟩) rfl)
theorem F8 (x y:List Int) (hx:x.length<40000) (hy:y.length<40000) (ox:okW x) (oy:okW y):QU Tryz.prog 170 [.v (QZ x),.v (QZ y)] [.v true (.int .i64 (Q7 (val x) (val y)))]:=by
 have h1:=YD x (by omega) ox
 have h2:=YD y (by omega) oy
 have lx:=YU x
 have ly:=YU y
 have h3:=Compare_ok (Zx x) (Zx y) (by omega) (by omega) (Z7 ox) (Z7 oy)
 rw [YJ ox,YJ oy] at h3
 refine QU.of Tryz.func170 rfl rfl fun cx w0=>?_
 rw [show Tryz.f170.ntmps=10 from rfl]
 refine zs0 ?_
 refine zs2 (ρ:=fun d=>if d=6 then [.v true (QZ (Zx x))] else if d=8 then [.v true (QZ (Zx y))] else [.v true (.int .i64 (Q7 (val x) (val y)))]) (o:=by repeat' first|exact h1|exact h2|exact h3|trivial|constructor) (k:=?_)
 exact QQ.ret (QK.vs rfl (by exact ⟨⟨rfl,id⟩,trivial⟩) rfl)
def mnC (f g:Nat→Int):Nat→Int
 | 0=>0
 | k+1=>if f k<g k+mnC f g k then 1 else 0
def mnD (B:Int) (f g:Nat→Int) (k:Nat):Int:=(f k-g k-mnC f g k)%B
def mnW (B:Int) (f g:Nat→Int) (k:Nat):List Int:=(List.range k).map (mnD B f g)
theorem F5 (B:Int) (f g:Nat→Int) (k:Nat):(mnW B f g k).length=k:=by rw [mnW,List.length_map,List.length_range]
theorem BF (B:Int) (f g:Nat→Int) (k:Nat):mnW B f g (k+1)=mnW B f g k++[mnD B f g k]:=by rw [mnW,List.range_succ,List.map_append];rfl
theorem zf (f g:Nat→Int) : ∀k,mnC f g k=0∨mnC f g k=1
 | 0=>.inl rfl
 | k+1=>by rw [mnC];split <;> simp
theorem mn_val {B:Nat} (hB:0<B) {f g:Nat→Int} {F G W:Nat→Nat} (hF0:F 0=0) (hG0:G 0=0) (hW0:W 0=0) (hF : ∀j,F (j+1)=F j+B^j*(f j).toNat) (hG : ∀j,G (j+1)=G j+B^j*(g j).toNat)
 (hW : ∀j,W (j+1)=W j+B^j*(mnD B f g j).toNat) (bf : ∀j,0≤f j∧f j<B) (bg : ∀j,0≤g j∧g j<B) : ∀k,W k<B^k∧F k+B^k*(mnC f g k).toNat=G k+W k
 | 0=>by rw [hF0,hG0,hW0];exact ⟨by simp,rfl⟩
 | k+1=>by
   obtain ⟨h1,h2⟩:=mn_val hB hF0 hG0 hW0 hF hG hW bf bg k
   obtain ⟨f0,f1⟩:=bf k
   obtain ⟨g0,g1⟩:=bg k
   have hc:=zf f g k
   have d0:0≤mnD B f g k:=Int.emod_nonneg _ (by omega)
   have d1:mnD B f g k<B:=Int.emod_lt_of_pos _ (by omega)
   have e:(f k).toNat+B*(mnC f g (k+1)).toNat=(g k).toNat+(mnD B f g k).toNat+(mnC f g k).toNat:=by
    rw [mnC]
    by_cases h:f k<g k+mnC f g k
    ·have hd:mnD B f g k=f k-g k-mnC f g k+B:=by
      rw [mnD,←Int.add_emod_right,Int.emod_eq_of_lt (by omega) (by omega)]
     rw [if_pos h]
     show _+B*1=_
     omega
    ·have hd:mnD B f g k=f k-g k-mnC f g k:=by
      rw [mnD,Int.emod_eq_of_lt (by omega) (by omega)]
     rw [if_neg h]
     show _+B*0=_
     omega
   have e2:B^k*((f k).toNat+B*(mnC f g (k+1)).toNat)=B^k*((g k).toNat+(mnD B f g k).toNat+(mnC f g k).toNat):=by rw [e]
   have hp:B^(k+1)=B^k*B:=Nat.pow_succ ..
   rw [Nat.mul_add,Nat.mul_add,Nat.mul_add,←Nat.mul_assoc,←hp] at e2
   refine ⟨?_,by rw [hF,hG,hW];omega⟩
   have h3:B^k*((mnD B f g k).toNat+1)≤B^k*B:=Nat.mul_le_mul_left _ (by omega)
   rw [Nat.mul_add,Nat.mul_one,←hp] at h3
   rw [hW]
   omega
theorem mnW_32 {x y:List Int} (ox:okH x) (oy:okH y) (hl:y.length≤x.length) (h:QG y≤QG x):okH (mnW 4294967296 (fun i=>x.getD i 0) (fun i=>y.getD i 0) x.length)∧QG (mnW 4294967296 (fun i=>x.getD i 0) (fun i=>y.getD i 0) x.length)=QG x-QG y:=by
 have key:=mn_val (B:=4294967296) (by decide) (F:=fun j=>QG (x.take j)) (G:=fun j=>QG (y.take j)) (W:=fun j=>QG (mnW 4294967296 (fun i=>x.getD i 0) (fun i=>y.getD i 0) j)) (f:=fun i=>x.getD i 0) (g:=fun i=>y.getD i 0) rfl rfl rfl (fun j=>Z5 j) (fun j=>Z5 j)
  (fun j=>by simp only [BF];rw [ZG,F5];simp [QG]) (Q8 ox) (Q8 oy) x.length
 simp only [List.take_length,List.take_of_length_le hl] at key
 obtain ⟨k1,k2⟩:=key
 refine ⟨fun n hn=>?_,?_⟩
 ·rw [mnW] at hn
  obtain ⟨j,_,rfl⟩:=List.mem_map.1 hn
  exact ⟨Int.emod_nonneg _ (by decide),Int.emod_lt_of_pos _ (by decide)⟩
 ·rcases zf (fun i=>x.getD i 0) (fun i=>y.getD i 0) x.length with hc|hc
  ·rw [hc,show (0:Int).toNat=0 from rfl,Nat.mul_zero,Nat.add_zero] at k2
   omega
  ·rw [hc,show (1:Int).toNat=1 from rfl,Nat.mul_one] at k2
   omega
def mnA (k:Nat):AV:=if k=0 then .nil else .own 300 0 k
def mnB (W:Nat→List Int) (k:Nat):List (Nat×Blk):=if k=0 then [] else [(300,.buf 91 1 true ((W k).map fun n=>.int .u64 n))]
theorem mnA_s (k:Nat):mnA (k+1) = .own 300 0 (k+1):=if_neg (by omega)
theorem mnB_s (W:Nat→List Int) (k:Nat):mnB W (k+1)=[(300,.buf 91 1 true ((W (k+1)).map fun n=>.int .u64 n))]:=if_neg (by omega)
theorem Minus_ok (a b:List Int) (hal:a.length<100000) (hbl:b.length<100000) (oa:okH a) (ob:okH b) :
 QU Tryz.prog 259 [.v (QZ a),.v (QZ b)] [.v true (QZ (mnW 4294967296 (fun i=>a.getD i 0) (fun i=>b.getD i 0) a.length)),.v true (.bool (decide (mnC (fun i=>a.getD i 0) (fun i=>b.getD i 0) a.length=1)))]:=by
 obtain ⟨W,hW⟩ : ∃W,W=mnW 4294967296 (fun i=>a.getD i 0) (fun i=>b.getD i 0):=⟨_,rfl⟩
 obtain ⟨C,hC⟩ : ∃C,C=mnC (fun i=>a.getD i 0) (fun i=>b.getD i 0):=⟨_,rfl⟩
 have C01 : ∀k,C k=0∨C k=1:=fun k=>by rw [hC];exact zf _ _ k
 have C0:C 0=0:=by rw [hC,mnC]
 have Cs : ∀k,C (k+1)=if a.getD k 0<b.getD k 0+C k then 1 else 0:=fun k=>by rw [hC,mnC]
 have Ws : ∀k,W (k+1)=W k++[(a.getD k 0-b.getD k 0-C k)%4294967296]:=fun k=>by rw [hW,BF,hC];rfl
 have Wl : ∀k,(W k).length=k:=fun k=>by rw [hW,F5]
 have W0:W 0=[]:=List.eq_nil_of_length_eq_zero (Wl 0)
 rw [←hW,←hC]
 refine QU.of Tryz.func259 rfl rfl fun cx w0=>?_
 rw [show Tryz.f259.ntmps=38 from rfl]
 refine QQ.step (Px:=px) (T:=TT) (ρ:=fun _=>[]) TTe (by simp (maxSteps:=100000) (disch:=omega) only [go_sem,V.isAgg,V.flat,↓reduceIte,Nat.reduceAdd,Nat.reduceSub,Nat.reduceLT,Nat.reduceEqDiff,reduceCtorEq,Nat.reduceLeDiff,Nat.reduceBEq,Nat.reduceMul,Int.reduceToNat,List.length_cons,List.length_nil];rfl) (by repeat' first|exact trivial|constructor) ?_
 refine QQ.step (Px:=px) (T:=TT) (ρ:=fun _=>[]) TTe (by simp (maxSteps:=100000) (disch:=omega) only [go_sem,V.isAgg,V.flat,↓reduceIte,Nat.reduceAdd,Nat.reduceSub,Nat.reduceLT,Nat.reduceEqDiff,reduceCtorEq,Nat.reduceLeDiff,Nat.reduceBEq,Nat.reduceMul,Int.reduceToNat];rfl) (by repeat' first|exact trivial|constructor) ?_
 refine QQ.step (Px:=px) (T:=TT) (ρ:=fun _=>[]) TTe (by simp (maxSteps:=100000) (disch:=omega) only [go_sem,V.isAgg,V.flat,↓reduceIte,Nat.reduceAdd,Nat.reduceSub,Nat.reduceLT,Nat.reduceEqDiff,reduceCtorEq,Nat.reduceLeDiff,Nat.reduceBEq,Nat.reduceMul,Int.reduceToNat];rfl) (by repeat' first|exact trivial|constructor) ?_
 refine QQ.next (fun σ=>∀x w,Rel cx w0 σ x w→Rel cx w0 {nt:=38,env:=[(7,.v true (.int .u64 (C a.length))),(6,mnA a.length)],mem:=mnB W a.length} x w) ?_ ?_
 ·refine QQ.step (Px:=px) (T:=TT) (ρ:=fun _=>[]) TTe (by simp (maxSteps:=100000) (disch:=omega) only [go_sem,V.isAgg,V.flat,↓reduceIte,Nat.reduceAdd,Nat.reduceSub,Nat.reduceLT,Nat.reduceEqDiff,reduceCtorEq,Nat.reduceLeDiff,Nat.reduceBEq,Nat.reduceMul,Int.reduceToNat];rfl) (by repeat' first|exact trivial|constructor) ?_
  refine QQ.loopB (fun k:Nat => {nt:=38,env:=[(8,.v true (.int .i64 k)),(7,.v true (.int .u64 (C k))),(6,mnA k),(0,.v false (QZ a)),(1,.v false (QZ b))],mem:=mnB W k}) (fun k=>k≤a.length) (fun k=>a.length-k) 0 (Nat.zero_le _) (fun x w hr=>by
   rw [C0]
   exact Rel.keep [8,7,6,0,1] [] hr) ?_
  intro k hk
  by_cases hend:k=a.length
  ·refine QQ.seq ?_
   refine QQ.step (Px:=px) (T:=TT) (ρ:=fun _=>[]) TTe (by simp (maxSteps:=100000) (disch:=omega) only [go_sem,V.isAgg,V.flat,↓reduceIte,Nat.reduceAdd,Nat.reduceSub,Nat.reduceLT,Nat.reduceEqDiff,reduceCtorEq,Nat.reduceLeDiff,Nat.reduceBEq,Nat.reduceMul,Int.reduceToNat];rfl) (by repeat' first|exact trivial|constructor) ?_
   refine QQ.condF rfl (QQ.exit ⟨rfl,fun x w hr=>?_⟩)
   rw [←hend]
   exact Rel.less [7,6] (fun _=>rfl) hr
  ·have hka:k<a.length:=by omega
   have ga:=QD hka
   have ha:=Q8 oa k
   have hb:=Q8 ob k
   have hc:=C01 k
   have dB:=Hx b k (by omega)
   have hCs:=Cs k
   have hWs:=Ws k
   have hWl:=Wl k
   obtain ⟨p,hp⟩ : ∃p,p=a.getD k 0:=⟨_,rfl⟩
   obtain ⟨q,hq⟩ : ∃q,q=b.getD k 0:=⟨_,rfl⟩
   obtain ⟨c,hcc⟩ : ∃c,c=C k:=⟨_,rfl⟩
   rw [←hp] at ga ha hCs hWs
   rw [←hq] at hb dB hCs hWs
   rw [←hcc] at hc hCs hWs ⊢
   have e1:IntKind.u64.wrap (p+4294967296)=p+4294967296:=by rw [QE];omega
   have e2:IntKind.u64.wrap (p+4294967296-q)=p+4294967296-q:=by rw [QE];omega
   obtain ⟨X,hX⟩ : ∃X,X=p+4294967296-q-c:=⟨_,rfl⟩
   have e3:IntKind.u64.wrap (p+4294967296-q-c)=X:=by rw [QE,hX];omega
   have e4:X.tmod 4294967296=(p-q-c)%4294967296:=by rw [Int.tmod_eq_emod_of_nonneg (by omega)];omega
   have e4':IntKind.u64.wrap ((p-q-c)%4294967296)=(p-q-c)%4294967296:=by rw [QE];omega
   have e5:X.tdiv 4294967296=X/4294967296:=Int.tdiv_eq_ediv_of_nonneg (by omega)
   have e5':IntKind.u64.wrap (X/4294967296)=X/4294967296:=by rw [QE];omega
   have e6:IntKind.u64.wrap (1-X/4294967296)=C (k+1):=by
    rw [QE,hCs]
    split <;> omega
   refine QQ.seq ?_
   refine QQ.step (Px:=px) (T:=TT) (ρ:=fun _=>[]) TTe (by simp (maxSteps:=100000) (disch:=omega) only [go_sem,V.isAgg,V.flat,↓reduceIte,Nat.reduceAdd,Nat.reduceSub,Nat.reduceLT,Nat.reduceEqDiff,reduceCtorEq,Nat.reduceLeDiff,Nat.reduceBEq,Nat.reduceMul,Int.reduceToNat];rfl) (by repeat' first|exact trivial|constructor) ?_
   refine QQ.condT rfl (QQ.skip ?_)
   refine QQ.next (fun σ=>∀x w,Rel cx w0 σ x w→Rel cx w0 {nt:=38,env:=[(8,.v true (.int .i64 k)),(7,.v true (.int .u64 (C (k+1)))),(6,mnA (k+1)),(0,.v false (QZ a)),(1,.v false (QZ b))],mem:=mnB W (k+1)} x w) ?_ ?_
   ·refine QQ.blockN ?_
    refine QQ.dstep (Px:=px) (T:=TT) (ρ:=fun _=>[.v true (.int .u64 q)]) [] mixed (by kernel_rfl) TTe (by simp (maxSteps:=100000) (disch:=omega) only [go_sem,V.isAgg,V.flat,↓reduceIte,Nat.reduceAdd,Nat.reduceSub,Nat.reduceLT,Nat.reduceEqDiff,reduceCtorEq,Nat.reduceLeDiff,Nat.reduceBEq,Nat.reduceMul,Int.reduceToNat,ga,e1,e2,e3];rfl) (by first|exact dB|(repeat' first|exact trivial|exact dB|constructor)) (by rfl) (by rfl) (by rfl) ?_
    rcases k with _|k
    ·refine QQ.step (Px:=px) (T:=TT) (ρ:=fun _=>[]) TTe (by simp (maxSteps:=100000) (disch:=omega) only [go_sem,V.isAgg,V.flat,↓reduceIte,Nat.reduceAdd,Nat.reduceSub,Nat.reduceLT,Nat.reduceEqDiff,reduceCtorEq,Nat.reduceLeDiff,Nat.reduceBEq,Nat.reduceMul,Int.reduceToNat,e4,e4',mnA,mnB];rfl) (by repeat' first|exact trivial|constructor) ?_
     refine QQ.region (Px:=px) (T:=TT) (ρ:=fun _=>[]) TTe (by simp (maxSteps:=100000) (disch:=omega) only [go_sem,V.isAgg,V.flat,↓reduceIte,Nat.reduceAdd,Nat.reduceSub,Nat.reduceLT,Nat.reduceEqDiff,reduceCtorEq,Nat.reduceLeDiff,Nat.reduceBEq,Nat.reduceMul,Int.reduceToNat,e5,e5',e6];rfl) (by repeat' first|exact trivial|constructor) ?_
     intro x w h
     have:=Rel.ren (s:=31) (s':=300) (Rel.keep [8,7,6,0,1] [31] h) (by decide) rfl rfl
     rw [mnB,if_neg (by omega),hWs,W0,mnA,if_neg (by omega)]
     exact this
    ·rw [mnA_s,mnB_s]
     refine QQ.step (Px:=px) (T:=TT) (ρ:=fun _=>[]) TTe (by simp (maxSteps:=100000) (disch:=omega) only [go_sem,V.isAgg,V.flat,↓reduceIte,Nat.reduceAdd,Nat.reduceSub,Nat.reduceLT,Nat.reduceEqDiff,reduceCtorEq,Nat.reduceLeDiff,Nat.reduceBEq,Nat.reduceMul,Int.reduceToNat,e4,e4',hWl];rfl) (by repeat' first|exact trivial|constructor) ?_
     refine QQ.region (Px:=px) (T:=TT) (ρ:=fun _=>[]) TTe (by simp (maxSteps:=100000) (disch:=omega) only [go_sem,V.isAgg,V.flat,↓reduceIte,Nat.reduceAdd,Nat.reduceSub,Nat.reduceLT,Nat.reduceEqDiff,reduceCtorEq,Nat.reduceLeDiff,Nat.reduceBEq,Nat.reduceMul,Int.reduceToNat,e5,e5',e6];rfl) (by repeat' first|exact trivial|constructor) ?_
     intro x w h
     have:=Rel.ren (s:=31) (s':=300) (Rel.keep [8,7,6,0,1] [31] h) (by decide) rfl rfl
     rw [mnB,if_neg (by omega),hWs,mnA,if_neg (by omega),List.map_append]
     exact this
   ·intro σ hσ
    refine QQ.from hσ ?_
    refine QQ.region (Px:=px) (T:=TT) (ρ:=fun _=>[]) TTe (by simp (maxSteps:=100000) (disch:=omega) only [go_sem,V.isAgg,V.flat,↓reduceIte,Nat.reduceAdd,Nat.reduceSub,Nat.reduceLT,Nat.reduceEqDiff,reduceCtorEq,Nat.reduceLeDiff,Nat.reduceBEq,Nat.reduceMul,Int.reduceToNat];rfl) (by repeat' first|exact trivial|constructor) ?_
    exact ⟨k+1,(by show k+1≤a.length;omega),(show a.length-(k+1)<a.length-k by omega),fun x w hr=>Rel.less [8,7,6,0,1] (fun _=>rfl) hr⟩
 ·intro σ hσ
  refine QQ.from hσ ?_
  have hWl:=Wl a.length
  obtain ⟨b1,hb1⟩ : ∃b1,b1=decide (C a.length=1):=⟨_,rfl⟩
  rw [mnA,mnB,←hb1]
  by_cases h0:a.length=0
  ·rw [if_pos h0,if_pos h0,h0,W0]
   have hbf:b1=false:=by rw [hb1,h0,C0];rfl
   rw [hbf,C0]
   refine QQ.step (Px:=px) (T:=TT) (ρ:=fun _=>[]) TTe (by simp (maxSteps:=100000) (disch:=omega) only [go_sem,V.isAgg,V.flat,↓reduceIte,Nat.reduceAdd,Nat.reduceSub,Nat.reduceLT,Nat.reduceEqDiff,reduceCtorEq,Nat.reduceLeDiff,Nat.reduceBEq,Nat.reduceMul,Int.reduceToNat];rfl) (by repeat' first|exact trivial|constructor) ?_
   exact QQ.ret ⟨_,[],rfl,⟨rfl,⟨rfl,id⟩,trivial⟩,by simp [R.names,R.mems,R.blks],by simp,rfl⟩
  ·rw [if_neg h0,if_neg h0]
   refine QQ.step (Px:=px) (T:=TT) (ρ:=fun _=>[]) TTe (by simp (maxSteps:=100000) (disch:=omega) only [go_sem,V.isAgg,V.flat,↓reduceIte,Nat.reduceAdd,Nat.reduceSub,Nat.reduceLT,Nat.reduceEqDiff,reduceCtorEq,Nat.reduceLeDiff,Nat.reduceBEq,Nat.reduceMul,Int.reduceToNat,←hb1];rfl) (by repeat' first|exact trivial|constructor) ?_
   exact QQ.ret ⟨_,[],rfl,⟨⟨rfl,by rw [List.drop_zero,List.take_of_length_le (by rw [List.length_map,hWl];exact Nat.le_refl _)],id,rfl⟩,⟨rfl,id⟩,trivial⟩,by simp [R.names,R.mems,R.blks],by simp,rfl⟩
theorem rSub_ok (x y:List Int) (hx:x.length<40000) (hy:y.length<40000) (ox:okW x) (oy:okW y) (h:val y≤val x):QU Tryz.prog 262 [.v (QZ x),.v (QZ y)] [.v true (QZ (QX (val x-val y)))]:=by
 have h1:=YD x (by omega) ox
 have h2:=J4 y (by omega) oy
 obtain ⟨o2,_,v2⟩:=QY (val y)
 have l2:(QX (val y)).length≤x.length:=ZU (Nat.lt_of_le_of_lt h (ZY ox))
 have h3:=YD (QX (val y)) (by omega) o2
 have lx:=YU x
 have ly:=YU (QX (val y))
 have h4:=Minus_ok (Zx x) (Zx (QX (val y))) (by omega) (by omega) (Z7 ox) (Z7 o2)
 obtain ⟨m1,m2⟩:=mnW_32 (Z7 ox) (Z7 o2) (by omega) (by rw [YJ ox,YJ o2,v2];exact h)
 rw [YJ ox,YJ o2,v2] at m2
 have m3:=F5 4294967296 (fun i=>(Zx x).getD i 0) (fun i=>(Zx (QX (val y))).getD i 0) (Zx x).length
 obtain ⟨W,hW⟩ : ∃W,W=mnW 4294967296 (fun i=>(Zx x).getD i 0) (fun i=>(Zx (QX (val y))).getD i 0) (Zx x).length:=⟨_,rfl⟩
 obtain ⟨b,hb⟩ : ∃b,b=decide (mnC (fun i=>(Zx x).getD i 0) (fun i=>(Zx (QX (val y))).getD i 0) (Zx x).length=1):=⟨_,rfl⟩
 rw [←hW] at m1 m2 m3 h4
 rw [←hb] at h4
 have h5:=G4 W (by omega) m1
 rw [m2] at h5
 obtain ⟨D,hD⟩ : ∃D,D=QX (val y):=⟨_,rfl⟩
 rw [←hD] at h2 h3 h4
 refine QU.of Tryz.func262 rfl rfl fun cx w0=>?_
 rw [show Tryz.f262.ntmps=18 from rfl]
 refine QQ.step (Px:=px) (T:=TT) (ρ:=fun _=>[]) TTe (by simp (maxSteps:=100000) (disch:=omega) only [go_sem,V.isAgg,V.flat,↓reduceIte,Nat.reduceAdd,Nat.reduceSub,Nat.reduceLT,Nat.reduceEqDiff,reduceCtorEq,Nat.reduceLeDiff,Nat.reduceBEq,Nat.reduceMul,Int.reduceToNat,List.length_cons,List.length_nil];rfl) (by repeat' first|exact trivial|constructor) ?_
 refine QQ.step (Px:=px) (T:=TT) (ρ:=fun d=>if d=9 then [.v true (QZ (Zx x))] else if d=11 then [.v true (QZ D)] else if d=12 then [.v true (QZ (Zx D))] else [.v true (QZ W),.v true (.bool b)]) TTe (by simp (maxSteps:=100000) (disch:=omega) only [go_sem,V.isAgg,V.flat,↓reduceIte,Nat.reduceAdd,Nat.reduceSub,Nat.reduceLT,Nat.reduceEqDiff,reduceCtorEq,Nat.reduceLeDiff,Nat.reduceBEq,Nat.reduceMul,Int.reduceToNat];rfl) (by first|exact ⟨h1,h2,h3,h4⟩|(repeat' first|exact trivial|exact h1|exact h2|exact h3|exact h4|constructor)) ?_
 refine QQ.step (Px:=px) (T:=TT) (ρ:=fun _=>[.v true (QZ (QX (val x-val y)))]) TTe (by simp (maxSteps:=100000) (disch:=omega) only [go_sem,V.isAgg,V.flat,↓reduceIte,Nat.reduceAdd,Nat.reduceSub,Nat.reduceLT,Nat.reduceEqDiff,reduceCtorEq,Nat.reduceLeDiff,Nat.reduceBEq,Nat.reduceMul,Int.reduceToNat];rfl) (by first|exact h5|(repeat' first|exact trivial|exact h5|constructor)) ?_
 exact QQ.ret (QK.vs rfl (by exact ⟨⟨rfl,id⟩,trivial⟩) rfl)
def dvH (k:Nat):List Int→List Int×Nat
 | []=>([],0)
 | a::r=>((((dvH k r).2*4294967296+a.toNat)/k:Nat)::(dvH k r).1,((dvH k r).2*4294967296+a.toNat)%k)
theorem FU {k:Nat} (hk:0<k) : ∀ {x:List Int},okH x→(dvH k x).2<k∧okH (dvH k x).1∧(dvH k x).1.length=x.length∧QG (dvH k x).1*k+(dvH k x).2=QG x
 | [],_=>⟨hk,(fun n hn=>by cases hn),rfl,by simp [dvH,QG]⟩
 | a::r,o=>by
   obtain ⟨h1,h2,h3,h4⟩:=FU hk (x:=r) fun n hn=>o n (by simp [hn])
   have ha:=o a (by simp)
   obtain ⟨s,hs⟩ : ∃s,s=(dvH k r).2:=⟨_,rfl⟩
   obtain ⟨W,hW⟩ : ∃W,W=(dvH k r).1:=⟨_,rfl⟩
   have e:dvH k (a::r)=((((s*4294967296+a.toNat)/k:Nat):Int)::W,(s*4294967296+a.toNat)%k):=by rw [dvH,hs,hW]
   rw [←hs] at h1 h4
   rw [←hW] at h2 h3 h4
   rw [e]
   have hq:(s*4294967296+a.toNat)/k<4294967296:=by
    refine (Nat.div_lt_iff_lt_mul hk).2 ?_
    have:(s+1)*4294967296≤k*4294967296:=Nat.mul_le_mul_right _ h1
    omega
   refine ⟨Nat.mod_lt _ hk,fun n hn=>?_,by simp [h3],?_⟩
   ·rcases List.mem_cons.1 hn with rfl|hn
    ·obtain ⟨q,hq'⟩ : ∃q,q=(s*4294967296+a.toNat)/k:=⟨_,rfl⟩
     rw [←hq'] at hq ⊢
     omega
    ·exact h2 n hn
   ·have hd:=Nat.div_add_mod (s*4294967296+a.toNat) k
    simp only [QG,Int.toNat_natCast]
    rw [←h4,Nat.add_mul,Nat.mul_comm _ k,Nat.mul_add,Nat.mul_assoc]
    omega
theorem dvH_drop {k j:Nat} {x:List Int} (h:j<x.length):dvH k (x.drop j)=(((((dvH k (x.drop (j+1))).2*4294967296+(x.getD j 0).toNat)/k:Nat):Int)::(dvH k (x.drop (j+1))).1,((dvH k (x.drop (j+1))).2*4294967296+(x.getD j 0).toNat)%k):=by
 rw [List.drop_eq_getElem_cons h,dvH,List.getD_eq_getElem?_getD,List.getElem?_eq_getElem h];rfl
theorem dvH_val {k:Nat} (hk:0<k) {x:List Int} (o:okH x):QG (dvH k x).1=QG x/k∧(dvH k x).2=QG x%k:=by
 obtain ⟨h1,_,_,h4⟩:=FU hk o
 obtain ⟨v,hv⟩ : ∃v,v=QG (dvH k x).1:=⟨_,rfl⟩
 obtain ⟨s,hs⟩ : ∃s,s=(dvH k x).2:=⟨_,rfl⟩
 rw [←hv,←hs] at h4
 rw [←hs] at h1
 rw [←hv,←hs,←h4,Nat.mul_comm v k]
 exact ⟨by rw [Nat.mul_add_div hk,Nat.div_eq_of_lt h1,Nat.add_zero],by rw [Nat.mul_add_mod,Nat.mod_eq_of_lt h1]⟩
theorem one_ok (x:List Int) (k:Nat) (hx:x.length<1000000) (ox:okH x) (hk:0<k) (hk2:k<4294967296):QU Tryz.prog 258 [.v (QZ x),.v (.int .u64 k)] [.v true (QZ (dvH k x).1),.v true (QZ [((dvH k x).2:Int)])]:=by
 obtain ⟨_,ow,lw,_⟩:=FU hk ox
 have hk0 : ¬(k:Int)=0:=by omega
 refine QU.of Tryz.func258 rfl rfl fun cx w0=>?_
 rw [show Tryz.f258.ntmps=38 from rfl]
 refine zs0 ?_
 refine zs0 ?_
 refine zs0 ?_
 refine QQ.next (fun σ=>∀a w,Rel cx w0 σ a w→Rel cx w0 {nt:=38,env:=[(7,.v true (.int .u64 (dvH k x).2)),(6,.own 11 0 x.length)],mem:=[(11,.buf 91 1 true ((dvH k x).1.map fun n=>.int .u64 n))]} a w) ?_ ?_
 ·refine zs0 ?_
  refine QQ.loopB (fun j:Nat => {nt:=38,env:=[(8,.v true (.int .i64 ((j:Int)-1))),(7,.v true (.int .u64 (dvH k (x.drop j)).2)),(6,.own 11 0 x.length),(0,.v false (QZ x)),(1,.v true (.int .u64 k))],mem:=[(11,.buf 91 1 true ((List.replicate j 0++(dvH k (x.drop j)).1).map fun n=>.int .u64 n))]}) (fun j=>j≤x.length) id x.length (Nat.le_refl _) (fun a w h=>by
   have:=Rel.keep [8,7,6,0,1] [11] h
   rw [List.drop_length]
   show Rel _ _ {nt:=38,env:=_,mem:=[(11,.buf 91 1 true ((List.replicate x.length (0:Int)++[]).map fun n=>.int .u64 n))]} _ _
   rw [List.append_nil,List.map_replicate]
   exact this) ?_
  intro j hj
  rcases j with _|j
  ·refine QQ.seq ?_
   refine zs0 ?_
   refine QQ.condF rfl (QQ.exit ⟨rfl,fun a w h=>?_⟩)
   exact Rel.keep [7,6] [11] h
  ·have hjx:j<x.length:=by omega
   have gx:=QD hjx
   have hx0:=Q8 ox j
   have ho:okH (x.drop (j+1)):=fun n hn=>ox n (List.mem_of_mem_drop hn)
   obtain ⟨r1,r2,r3,_⟩:=FU hk ho
   have hd:=dvH_drop (k:=k) hjx
   obtain ⟨s,hs⟩ : ∃s,s=(dvH k (x.drop (j+1))).2:=⟨_,rfl⟩
   obtain ⟨W,hW⟩ : ∃W,W=(dvH k (x.drop (j+1))).1:=⟨_,rfl⟩
   rw [←hs] at r1 hd
   rw [←hW] at r3 hd
   rw [←hs,←hW]
   obtain ⟨d,hdd⟩ : ∃d:Nat,d=(x.getD j 0).toNat:=⟨_,rfl⟩
   rw [←hdd] at hd
   rw [show x.getD j 0=(d:Int) from by omega] at gx
   obtain ⟨t,ht⟩ : ∃t,t=s*4294967296+d:=⟨_,rfl⟩
   rw [←ht] at hd
   have ht64:t<18446744073709551616:=by omega
   have w1:IntKind.u64.wrap ((s:Int)*4294967296)=((s*4294967296:Nat):Int):=by rw [QE];omega
   have w2:IntKind.u64.wrap (((s*4294967296:Nat):Int)+(d:Int))=(t:Int):=by rw [QE];omega
   have w3:=KF t k
   have w4:IntKind.u64.wrap ((t/k:Nat):Int)=((t/k:Nat):Int):=YY _ (Nat.lt_of_le_of_lt (Nat.div_le_self _ _) ht64)
   have w5:=Gq t k
   obtain ⟨q,hq⟩ : ∃q,q=t/k:=⟨_,rfl⟩
   obtain ⟨r,hr⟩ : ∃r,r=t%k:=⟨_,rfl⟩
   rw [←hq,←hr] at hd
   rw [←hq] at w3 w4
   rw [←hr] at w5
   rw [List.length_drop] at r3
   have hLl:(List.replicate (j+1) (0:Int)++W).length=x.length:=by rw [List.length_append,List.length_replicate,r3];omega
   have eset:(List.replicate (j+1) (0:Int)++W).set j (q:Int)=List.replicate j 0++(q:Int)::W:=by
    rw [show List.replicate (j+1) (0:Int)=List.replicate j 0++[0] from by rw [List.replicate_succ'],List.append_assoc,List.set_append_right _ _ (by rw [List.length_replicate];exact Nat.le_refl _),List.length_replicate,Nat.sub_self]
    rfl
   obtain ⟨Lw,hL⟩ : ∃Lw,Lw=List.replicate (j+1) (0:Int)++W:=⟨_,rfl⟩
   rw [←hL] at hLl eset ⊢
   have gL:=QD (l:=Lw) (i:=j) (by omega)
   refine QQ.seq ?_
   refine zs0 ?_
   refine QQ.condT rfl (QQ.skip ?_)
   refine QQ.next (fun σ=>∀a w,Rel cx w0 σ a w→Rel cx w0 {nt:=38,env:=[(8,.v true (.int .i64 (j:Int))),(7,.v true (.int .u64 r)),(6,.own 11 0 x.length),(0,.v false (QZ x)),(1,.v true (.int .u64 k))],mem:=[(11,.buf 91 1 true ((Lw.set j (q:Int)).map fun n=>.int .u64 n))]} a w) ?_ ?_
   ·refine QQ.blockN ?_
    refine zs1 (an gx <| an w1 <| w2) ?_
    refine zs1 (an hk0 <| an w3 <| an w4 <| an gL <| hLl) ?_
    refine zr1 (an hk0 <| w5) ?_
    intro a w h
    have:=Rel.keep [8,7,6,0,1] [11] h
    rw [List.map_set]
    exact this
   ·intro σ hσ
    refine QQ.from hσ ?_
    refine zr0 ?_
    refine ⟨j,(by show j≤x.length;omega),(show j<j+1 by omega),fun a w h=>?_⟩
    have:=Rel.keep [8,7,6,0,1] [11] h
    rw [eset] at this
    simp only [hd]
    exact this
 ·intro σ hσ
  refine QQ.from hσ ?_
  have htk:List.take x.length (List.map (fun n=>V.int .u64 n) (dvH k x).1)=List.map (fun n=>V.int .u64 n) (dvH k x).1:=List.take_of_length_le (by rw [List.length_map];omega)
  refine zs0 ?_
  exact QQ.ret ⟨_,[],rfl,⟨⟨rfl,by rw [List.drop_zero,htk],id,rfl⟩,⟨rfl,rfl,id,rfl⟩,trivial⟩,by simp [R.names,R.mems,R.blks],by simp,rfl⟩
theorem Divide1_ok (x y:List Int) (k:Nat) (hx:x.length<1000000) (ox:okH x) (hk:0<k) (hk2:k<4294967296) (hy:y.length<10000) (ht:Qg y=[(k:Int)]) :
 QU Tryz.prog 220 [.v (QZ x),.v (QZ y)] [.v true (QZ (dvH k x).1),.v true (QZ [((dvH k x).2:Int)])]:=by
 have h1:=H9 y (by omega)
 rw [ht] at h1
 have h2:=one_ok x k hx ox hk hk2
 rw [show QZ [(k:Int)] = .sl 1 [.int .u64 k] from rfl] at h1
 obtain ⟨Q,hQ⟩ : ∃Q,Q=(dvH k x).1:=⟨_,rfl⟩
 obtain ⟨r,hr⟩ : ∃r,r=[((dvH k x).2:Int)]:=⟨_,rfl⟩
 rw [←hQ,←hr] at h2 ⊢
 refine QU.of Tryz.func220 rfl rfl fun cx w0=>?_
 rw [show Tryz.f220.ntmps=163 from rfl]
 refine zs0 ?_
 refine zs2 (ρ:=fun _=>[.v false (.sl 1 [.int .u64 k])]) (o:=by repeat' first|exact h1|trivial|constructor) (k:=?_)
 refine QQ.seq ?_
 refine zs0 ?_
 refine QQ.condT rfl ?_
 refine zs2 (ρ:=fun _=>[.v true (QZ Q),.v true (QZ r)]) (o:=by repeat' first|exact h2|trivial|constructor) (k:=?_)
 exact QQ.ret (QK.vs rfl (by exact ⟨⟨rfl,id⟩,⟨rfl,id⟩,trivial⟩) rfl)
theorem TimesO_ok (a b:List Int) (hal:a.length<100000) (hbl:b.length<100000) (oa:okH a) (ob:okH b) (nm:Nat):QU Tryz.prog 153 [.v (QZ a),.v (QZ b)] [.own nm 91 1 true ((XX a b).map fun n=>.int .u64 n)]:=by
 refine QU.of Tryz.func153 rfl rfl fun cx w0=>?_
 rw [show Tryz.f153.ntmps=62 from rfl]
 refine zs0 ?_
 refine zs0 ?_
 obtain ⟨N,hN⟩ : ∃N,N=a.length+b.length:=⟨_,rfl⟩
 refine QQ.next (fun σ=>∀x w,Rel cx w0 σ x w→Rel cx w0 {nt:=62,env:=[(5,.own 300 0 N)],mem:=[(300,.buf 91 1 true ((XX a b).map fun n=>.int .u64 n))]} x w) ?_ ?_
 ·refine zs0 ?_
  refine QQ.loopB (fun i:Nat => {nt:=62,env:=[(6,.v true (.int .i64 i)),(5,.own 300 0 N),(0,.v false (QZ a)),(1,.v false (QZ b))],mem:=[(300,.buf 91 1 true ((tmO a b i).map fun n=>.int .u64 n))]}) (fun i=>i≤a.length) (fun i=>a.length-i) 0 (Nat.zero_le _) (fun x w h=>by
   have:=Rel.ren (s:=14) (s':=300) (Rel.keep [6,5,0,1] [14] h) (by decide) rfl rfl
   rw [tmO,List.map_replicate,hN]
   exact this) ?_
  intro i hi
  obtain ⟨h1,h2,h3,h4⟩:=zU oa ob i hi
  by_cases hend:i=a.length
  ·refine QQ.seq ?_
   refine zs0 ?_
   refine QQ.condF rfl (QQ.exit ⟨rfl,fun x w h=>?_⟩)
   rw [XX,←hend]
   exact Rel.keep [5] [300] h
  ·have hia:i<a.length:=by omega
   have hA:=Q8 oa i
   obtain ⟨A,hAe⟩ : ∃A,A=a.getD i 0:=⟨_,rfl⟩
   obtain ⟨s,hs⟩ : ∃s:List Int×Int,s=(tmO a b i,0):=⟨_,rfl⟩
   have gA:=QD hia
   rw [←hAe] at hA gA
   have hs1:s.1=tmO a b i:=by rw [hs]
   have hs2:s.2=0:=by rw [hs]
   have os:okH s.1:=by rw [hs1];exact h1
   have hsl:s.1.length=N:=by rw [hs1,h2,hN]
   have hI:=C9 (i:=i) hA ob os (by rw [hs2];omega)
   refine QQ.seq ?_
   refine zs0 ?_
   refine QQ.condT rfl (QQ.skip ?_)
   refine QQ.next (fun σ=>∀x w,Rel cx w0 σ x w→Rel cx w0 {nt:=62,env:=[(6,.v true (.int .i64 i)),(5,.own 300 0 N),(0,.v false (QZ a)),(1,.v false (QZ b))],mem:=[(300,.buf 91 1 true ((tmO a b (i+1)).map fun n=>.int .u64 n))]} x w) ?_ ?_
   ·refine QQ.blockN ?_
    refine zs0 ?_
    refine QQ.next (fun σ=>∀x w,Rel cx w0 σ x w→Rel cx w0 {nt:=62,env:=[(7,.v true (.int .u64 (tmI A b i s b.length).2)),(6,.v true (.int .i64 i)),(5,.own 300 0 N),(0,.v false (QZ a)),(1,.v false (QZ b))],mem:=[(300,.buf 91 1 true ((tmI A b i s b.length).1.map fun n=>.int .u64 n))]} x w) ?_ ?_
    ·refine zs0 ?_
     refine QQ.loopB (fun k:Nat => {nt:=62,env:=[(8,.v true (.int .i64 k)),(7,.v true (.int .u64 (tmI A b i s k).2)),(6,.v true (.int .i64 i)),(5,.own 300 0 N),(0,.v false (QZ a)),(1,.v false (QZ b))],mem:=[(300,.buf 91 1 true ((tmI A b i s k).1.map fun n=>.int .u64 n))]}) (fun k=>k≤b.length) (fun k=>b.length-k) 0 (Nat.zero_le _) (fun x w h=>by
      have:=Rel.keep [8,7,6,5,0,1] [300] h
      rw [tmI,hs]
      exact this) ?_
     intro k hk
     obtain ⟨k1,k2,k3⟩:=hI k
     by_cases hend2:k=b.length
     ·refine QQ.seq ?_
      refine zs0 ?_
      refine QQ.condF rfl (QQ.exit ⟨rfl,fun x w h=>?_⟩)
      rw [←hend2]
      have:=Rel.keep [7,6,5,0,1] [300] h
      exact this
     ·have hkb:k<b.length:=by omega
      have gB:=QD hkb
      have hU:=Q8 ob k
      have hik:i+k<(tmI A b i s k).1.length:=by omega
      have gZ:=QD hik
      have hZ:=Q8 k1 (i+k)
      have esucc:tmI A b i s (k+1)=((tmI A b i s k).1.set (i+k) (((tmI A b i s k).2+(tmI A b i s k).1.getD (i+k) 0+A*b.getD k 0)%4294967296),((tmI A b i s k).2+(tmI A b i s k).1.getD (i+k) 0+A*b.getD k 0)/4294967296):=rfl
      obtain ⟨U,hUe⟩ : ∃U,U=b.getD k 0:=⟨_,rfl⟩
      rw [←hUe] at gB hU esucc
      obtain ⟨T,hT⟩ : ∃T,T=tmI A b i s k:=⟨_,rfl⟩
      rw [←hT] at k1 k2 k3 hik gZ hZ esucc ⊢
      obtain ⟨z,hz⟩ : ∃z,z=T.1.getD (i+k) 0:=⟨_,rfl⟩
      rw [←hz] at gZ hZ esucc
      have hp:=Fz hA hU
      obtain ⟨p,hpe⟩ : ∃p,p=A*U:=⟨_,rfl⟩
      have e2:IntKind.u64.wrap (A*U)=p:=by rw [QE,←hpe];rw [←hpe] at hp;omega
      rw [←hpe] at hp esucc
      have e1:IntKind.u64.wrap (T.2+z)=T.2+z:=by rw [QE];omega
      obtain ⟨q,hq⟩ : ∃q,q=T.2+z+p:=⟨_,rfl⟩
      have e3:IntKind.u64.wrap (T.2+z+p)=q:=by rw [QE,hq];omega
      rw [←hq] at esucc
      have hq0:0≤q∧q<18446744073709551616:=by omega
      have e4:q.tmod 4294967296=q%4294967296:=Int.tmod_eq_emod_of_nonneg hq0.1
      have e5:q.tdiv 4294967296=q/4294967296:=Int.tdiv_eq_ediv_of_nonneg hq0.1
      have e6:IntKind.u64.wrap (q/4294967296)=q/4294967296:=by rw [QE];omega
      have hadd:((i:Int)+k).toNat=i+k:=by omega
      refine QQ.seq ?_
      refine zs0 ?_
      refine QQ.condT rfl (QQ.skip ?_)
      refine QQ.next (fun σ=>∀x w,Rel cx w0 σ x w→Rel cx w0 {nt:=62,env:=[(8,.v true (.int .i64 k)),(7,.v true (.int .u64 (q/4294967296))),(6,.v true (.int .i64 i)),(5,.own 300 0 N),(0,.v false (QZ a)),(1,.v false (QZ b))],mem:=[(300,.buf 91 1 true ((T.1.set (i+k) (q%4294967296)).map fun n=>.int .u64 n))]} x w) ?_ ?_
      ·refine QQ.blockN ?_
       refine zd1 [] (an gA <| an gB <| an gZ <| an hadd <| an e1 <| an e2 <| e3) ?_
       refine zs1 (an hadd <| an e4 <| gZ) ?_
       refine zr1 (an e5 <| e6) ?_
       intro x w h
       have:=Rel.keep [8,7,6,5,0,1] [300] h
       rw [List.map_set]
       exact this
      ·intro σ hσ
       refine QQ.from hσ ?_
       refine zr0 ?_
       refine ⟨k+1,(by show k+1≤b.length;omega),(show b.length-(k+1)<b.length-k by omega),fun x w h=>?_⟩
       simp only [esucc]
       exact Rel.keep [8,7,6,5,0,1] [300] h
    ·intro σ hσ
     refine QQ.from hσ ?_
     obtain ⟨k1,k2,k3⟩:=hI b.length
     have hib:i+b.length<(tmI A b i s b.length).1.length:=by omega
     have gZ:=QD hib
     have hadd:((i:Int)+b.length).toNat=i+b.length:=by omega
     have e:tmO a b (i+1)=(tmI A b i s b.length).1.set (i+b.length) (tmI A b i s b.length).2:=by rw [tmO,hAe,hs]
     refine zr1 (an gZ <| hadd) ?_
     intro x w h
     rw [e,List.map_set]
     exact Rel.keep [6,5,0,1] [300] h
   ·intro σ hσ
    refine QQ.from hσ ?_
    refine zr0 ?_
    exact ⟨i+1,(by show i+1≤a.length;omega),(show a.length-(i+1)<a.length-i by omega),fun x w h=>Rel.keep [6,5,0,1] [300] h⟩
 ·intro σ hσ
  refine QQ.from hσ ?_
  have hl:=(Vq oa ob).2.1
  refine zs0 ?_
  exact QQ.ret ⟨_,[(nm,300)],rfl,⟨⟨by simp [UK],rfl,by rw [List.length_map,hl,hN],by simp [St.at,Qu]⟩,trivial⟩,by simp [R.names,R.mems,R.blks],by simp,by simp [R.names,R.mems,R.blks]⟩
theorem UF : ∀ {l:List Int},okH l→QG l<4294967296^l.length
 | [],_=>by simp [QG]
 | a::r,o=>by
   have ha:=o a (by simp)
   have hr:=UF (l:=r) fun n hn=>o n (by simp [hn])
   rw [QG,List.length_cons,Nat.pow_succ]
   omega
theorem BH {l:List Int} (h:okH l) (k:Nat):okH (l.drop k):=fun n hn=>h n (List.mem_of_mem_drop hn)
theorem HQ {l:List Int} (h:okH l) (k:Nat):okH (l.take k):=fun n hn=>h n (List.mem_of_mem_take hn)
theorem Kj (l:List Int) (j k:Nat):(l.drop j).getD k 0=l.getD (j+k) 0:=by
 rw [List.getD_eq_getElem?_getD,List.getElem?_drop,←List.getD_eq_getElem?_getD]
theorem Cg (l:List Int) (k:Nat) (hk:k≤l.length):QG l=QG (l.take k)+4294967296^k*QG (l.drop k):=by
 have:=ZG (l.take k) (l.drop k)
 rw [List.take_append_drop,List.length_take,Nat.min_eq_left hk] at this
 exact this
theorem digit_le {w P top bt vb g:Nat} (h1:w<P*(top+1)) (h2:P*bt≤vb) (hb:0<bt) (hP:0<P) (hg:g*vb≤w):g≤top/bt:=by
 refine (Nat.le_div_iff_mul_le hb).2 ?_
 have h3:g*(P*bt)≤g*vb:=Nat.mul_le_mul_left _ h2
 have h4:P*(g*bt)<P*(top+1):=by
  rw [Nat.mul_left_comm];omega
 have:=Nat.lt_of_mul_lt_mul_left h4
 omega
structure Win (A b:List Int) (j:Nat) (W:List Int) (w:Nat):Prop where
 len:W.length=b.length+1
 ok:okH W
 val:QG W=w
 lt:w<QG b*4294967296
 all:QG A=QG (A.take j)+4294967296^j*w
 up:QG (A.drop (j+b.length+1))=0
 top:w/QG b≤((A.getD (j+b.length) 0).toNat*4294967296+(A.getD (j+b.length-1) 0).toNat)/(b.getD (b.length-1) 0).toNat
theorem win_ok {A b:List Int} {j:Nat} (oA:okH A) (ob:okH b) (hj:j+b.length+1≤A.length) (hn:1≤b.length) (hb:0<(b.getD (b.length-1) 0).toNat) (hu:QG (A.drop (j+1))<QG b) :
 Win A b j ((A.drop j).take (b.length+1)) (QG ((A.drop j).take (b.length+1))):=by
 obtain ⟨D,hD⟩ : ∃D,D=A.drop j:=⟨_,rfl⟩
 have oD:okH D:=by rw [hD];exact BH oA j
 have lD:b.length+1≤D.length:=by rw [hD,List.length_drop];omega
 have hDt:A.drop (j+1)=D.drop 1:=by rw [hD,List.drop_drop]
 have hDu:A.drop (j+b.length+1)=(D.drop 1).drop b.length:=by rw [hD,List.drop_drop,List.drop_drop];congr 1;omega
 have hD0:D=D.getD 0 0::D.drop 1:=by
  cases D with
  | nil=>simp at lD
  | cons x r=>rfl
 have d0:=Q8 oD 0
 have gj : ∀k,A.getD (j+k) 0=D.getD k 0:=fun k=>by rw [hD,Kj]
 rw [←hD]
 rw [hDt] at hu
 obtain ⟨n,hn'⟩ : ∃n,b.length=n+1:=⟨b.length-1,by omega⟩
 have hbl:=UF ob
 have hup:QG ((D.drop 1).drop b.length)=0:=by
  have h1:=Cg (D.drop 1) b.length (by rw [List.length_drop];omega)
  rcases Nat.eq_zero_or_pos (QG ((D.drop 1).drop b.length)) with h0|h0
  ·exact h0
  ·have:=Nat.mul_le_mul_left (4294967296^b.length) h0
   omega
 have hDv:QG D=QG (D.take (b.length+1)):=by
  have h1:=Cg D (b.length+1) lD
  rw [show D.drop (b.length+1)=(D.drop 1).drop b.length from by rw [List.drop_drop];congr 1;omega,hup,Nat.mul_zero,Nat.add_zero] at h1
  exact h1
 have hlt:QG D<QG b*4294967296:=by
  rw [hD0,QG]
  omega
 have ht:QG (D.take (b.length+1))=QG (D.take n)+4294967296^n*((D.getD (n+1) 0).toNat*4294967296+(D.getD n 0).toNat):=by
  rw [hn',Z5,Z5,Nat.pow_succ,Nat.mul_add,Nat.mul_assoc,Nat.mul_comm 4294967296 (D.getD (n+1) 0).toNat]
  omega
 have htn:=UF (HQ oD n)
 rw [List.length_take,Nat.min_eq_left (by omega)] at htn
 have hvb:4294967296^n*(b.getD n 0).toNat≤QG b:=by
  have h1:=Z5 (l:=b) n
  rw [←hn',List.take_length] at h1
  omega
 refine ⟨by rw [List.length_take];omega,HQ oD _,rfl,by omega,?_,by rw [hDu];exact hup,?_⟩
 ·rw [←hDv,hD]
  exact Cg A j (by omega)
 ·rw [show j+b.length=j+(n+1) from by omega,show j+(n+1)-1=j+n from by omega,gj,gj,show b.length-1=n from by omega]
  rw [show b.length-1=n from by omega] at hb
  obtain ⟨T,hT⟩ : ∃T,T=(D.getD (n+1) 0).toNat*4294967296+(D.getD n 0).toNat:=⟨_,rfl⟩
  rw [←hT] at ht ⊢
  refine digit_le (P:=4294967296^n) ?_ hvb hb (Nat.pow_pos (by decide)) (Nat.div_mul_le_self _ _)
  rw [ht,Nat.mul_add,Nat.mul_one]
  omega
theorem win_next {A b:List Int} {j:Nat} {W:List Int} {w g:Nat} (h:Win A b j W w) (hg:g=w/QG b) (oA:okH A) (hj:j+b.length+1≤A.length) {R:List Int} (oR:okH R) (lR:R.length=b.length+1) (vR:QG R=w-g*QG b) (hb:0<QG b) :
 okH (A.take j++(R++A.drop (j+b.length+1)))∧(A.take j++(R++A.drop (j+b.length+1))).length=A.length∧QG ((A.take j++(R++A.drop (j+b.length+1))).drop j)<QG b ∧
 QG (A.take j++(R++A.drop (j+b.length+1)))+QG b*(4294967296^j*g)=QG A:=by
 have lt:(A.take j).length=j:=by rw [List.length_take];omega
 have hm:w-g*QG b<QG b∧g*QG b≤w:=by
  have h1:=Nat.div_add_mod w (QG b)
  have h2:=Nat.mod_lt w hb
  rw [←hg,Nat.mul_comm] at h1
  omega
 refine ⟨?_,?_,?_,?_⟩
 ·intro n hn
  rcases List.mem_append.1 hn with hn|hn
  ·exact HQ oA j n hn
  ·rcases List.mem_append.1 hn with hn|hn
   ·exact oR n hn
   ·exact BH oA _ n hn
 ·rw [List.length_append,List.length_append,lt,lR,List.length_drop];omega
 ·rw [List.drop_left' lt,ZG,h.up,Nat.mul_zero,Nat.add_zero,vR]
  exact hm.1
 ·rw [ZG,ZG,h.up,Nat.mul_zero,Nat.add_zero,vR,lt,h.all]
  obtain ⟨P,hP⟩ : ∃P,P=4294967296^j:=⟨_,rfl⟩
  rw [←hP,Nat.mul_sub]
  have h3:P*(g*QG b)≤P*w:=Nat.mul_le_mul_left _ hm.2
  have e:QG b*(P*g)=P*(g*QG b):=by rw [Nat.mul_left_comm,Nat.mul_comm (QG b)]
  rw [e]
  omega
theorem borrow_iff {x y:List Int} (ox:okH x) (oy:okH y) (hl:y.length≤x.length):mnC (fun i=>x.getD i 0) (fun i=>y.getD i 0) x.length=1↔QG x<QG y:=by
 have key:=mn_val (B:=4294967296) (by decide) (F:=fun j=>QG (x.take j)) (G:=fun j=>QG (y.take j)) (W:=fun j=>QG (mnW 4294967296 (fun i=>x.getD i 0) (fun i=>y.getD i 0) j)) (f:=fun i=>x.getD i 0) (g:=fun i=>y.getD i 0) rfl rfl rfl (fun j=>Z5 j) (fun j=>Z5 j)
  (fun j=>by simp only [BF];rw [ZG,F5];simp [QG]) (Q8 ox) (Q8 oy) x.length
 simp only [List.take_length,List.take_of_length_le hl] at key
 obtain ⟨k1,k2⟩:=key
 rcases zf (fun i=>x.getD i 0) (fun i=>y.getD i 0) x.length with hc|hc
 ·rw [hc] at k2 ⊢
  rw [show (0:Int).toNat=0 from rfl,Nat.mul_zero,Nat.add_zero] at k2
  constructor
  ·intro h;cases h
  ·intro h;omega
 ·rw [hc] at k2 ⊢
  rw [show (1:Int).toNat=1 from rfl,Nat.mul_one] at k2
  constructor
  ·intro h;omega
  ·intro h;rfl
def XQ (v:Nat):Nat→List Int
 | 0=>[]
 | n+1=>((v%4294967296:Nat):Int)::XQ (v/4294967296) n
theorem V4 : ∀(n v:Nat),okH (XQ v n)∧(XQ v n).length=n
 | 0,v=>⟨(fun n hn=>by cases hn),rfl⟩
 | n+1,v=>by
   obtain ⟨h1,h2⟩:=V4 n (v/4294967296)
   refine ⟨fun m hm=>?_,by rw [XQ,List.length_cons,h2]⟩
   rcases List.mem_cons.1 hm with rfl|hm
   ·omega
   ·exact h1 m hm
theorem qk : ∀ {l:List Int},okH l→XQ (QG l) l.length=l
 | [],_=>rfl
 | a::r,o=>by
   have ha:=o a (by simp)
   have hr:=qk (l:=r) fun n hn=>o n (by simp [hn])
   rw [List.length_cons,XQ,QG]
   rw [show (a.toNat+4294967296*QG r)/4294967296=QG r from by omega,hr,show (((a.toNat+4294967296*QG r)%4294967296:Nat):Int)=a from by omega]
theorem Bu {l:List Int} {v n:Nat} (o:okH l) (hl:l.length=n) (hv:QG l=v):l=XQ v n:=by
 rw [←hl,←hv,qk o]
theorem F4 : ∀ {n v:Nat},v<4294967296^n→QG (XQ v n)=v
 | 0,v,h=>by
   have:v=0:=by simpa using h
   rw [this];rfl
 | n+1,v,h=>by
   rw [Nat.pow_succ] at h
   rw [XQ,QG,F4 (n:=n) (v:=v/4294967296) (by omega)]
   omega
theorem norm32 {b:Nat} (hb:b<4294967296) (h0:0<b) : ∃k,k<32∧2147483648≤b*2^k∧b*2^k<4294967296:=by
 have h1:=Nat.log2_self_le (n:=b) (by omega)
 have h2:=Nat.lt_log2_self (n:=b)
 have h3:b.log2<32:=(Nat.log2_lt (by omega)).2 hb
 obtain ⟨L,hL⟩ : ∃L,L=b.log2:=⟨_,rfl⟩
 rw [←hL] at h1 h2 h3
 refine ⟨31-L,by omega,?_,?_⟩
 ·have:2^L*2^(31-L)≤b*2^(31-L):=Nat.mul_le_mul_right _ h1
  rw [←Nat.pow_add,show L+(31-L)=31 from by omega] at this
  exact this
 ·have:b*2^(31-L)<2^(L+1)*2^(31-L):=(Nat.mul_lt_mul_right (Nat.pow_pos (by decide))).2 h2
  rw [←Nat.pow_add,show L+1+(31-L)=32 from by omega] at this
  exact this
theorem norm_more {b k k0:Nat} (hk:k<k0) (h:b*2^k0<4294967296):b*2^k<2147483648:=by
 have h1:2^(k+1)≤2^k0:=Nat.pow_le_pow_right (by decide) hk
 have h2:=Nat.mul_le_mul_left b h1
 rw [Nat.pow_succ,←Nat.mul_assoc] at h2
 omega
theorem shape_ok {l:List Int} {n:Nat} (o:okH l) (h1:4294967296^n*2147483648≤QG l) (h2:QG l<4294967296^(n+1)):(Qg l).length=n+1∧2147483648≤((Qg l).getD n 0).toNat:=by
 have hv:=Uz l
 have ot:=VB o
 have hlt:=UF ot
 rw [hv] at hlt
 have hp:0<4294967296^n:=Nat.pow_pos (by decide)
 have hge:n+1≤(Qg l).length:=by
  rcases Nat.lt_or_ge (Qg l).length (n+1) with h|h
  ·have:=Nat.pow_le_pow_right (n:=4294967296) (by decide) (Nat.le_of_lt_succ h)
   omega
  ·exact h
 have hle:(Qg l).length≤n+1:=by
  rcases XY l with h|⟨t,z,h,hz⟩
  ·rw [h];exact Nat.zero_le _
  ·have hz':=ot z (by rw [h];simp)
   have:QG (Qg l)=QG t+4294967296^t.length*QG [z]:=by rw [h,ZG]
   rw [hv] at this
   have hz1:1≤QG [z]:=by simp only [QG];omega
   have h3:=Nat.mul_le_mul_left (4294967296^t.length) hz1
   rw [h,List.length_append,List.length_cons,List.length_nil]
   rcases Nat.lt_or_ge n t.length with h4|h4
   ·have:=Nat.pow_le_pow_right (n:=4294967296) (by decide) h4
    rw [Nat.succ_eq_add_one] at this
    omega
   ·omega
 have hlen:(Qg l).length=n+1:=by omega
 refine ⟨hlen,?_⟩
 have h3:=Z5 (l:=Qg l) n
 rw [←hlen,List.take_length,hv] at h3
 have h4:=UF (HQ ot n)
 rw [List.length_take,Nat.min_eq_left (by omega)] at h4
 have h5:4294967296^n*2147483648<4294967296^n*(((Qg l).getD n 0).toNat+1):=by
  rw [Nat.mul_add,Nat.mul_one];omega
 have:=Nat.lt_of_mul_lt_mul_left h5
 omega
def cpL (A R:List Int) (j k:Nat):List Int:=A.take j++(R.take k++A.drop (j+k))
theorem cpL_len {A R:List Int} {j k:Nat} (hk:k≤R.length) (hj:j+R.length≤A.length):(cpL A R j k).length=A.length:=by
 rw [cpL,List.length_append,List.length_append,List.length_take,List.length_take,List.length_drop];omega
theorem cpL_succ {A R:List Int} {j k:Nat} (hk:k<R.length) (hj:j+R.length≤A.length):(cpL A R j k).set (j+k) (R.getD k 0)=cpL A R j (k+1):=by
 have l1:(A.take j).length=j:=by rw [List.length_take];omega
 have l2:(R.take k).length=k:=by rw [List.length_take];omega
 rw [cpL,List.set_append_right _ _ (by omega),l1,show j+k-j=k from by omega,List.set_append_right _ _ (by omega),l2,Nat.sub_self,List.drop_eq_getElem_cons (by omega:j+k<A.length),cpL,Y3 hk,List.append_assoc]
 rfl
theorem cpL_zero (A R:List Int) (j:Nat):cpL A R j 0=A:=by
 rw [cpL,List.take_zero,List.nil_append,Nat.add_zero,List.take_append_drop]
def srS (S N M m j:Nat) (d A Qs:List Int) (e:List (Nat×AV)):St :=
 {nt:=163,env:=e++[(9,.v true (.int .i64 j)),(8,.own 62 0 M),(7,.v true (.int .i64 m)),(1,.v false (QZ d)),(0,.own 49 0 N),(6,.v true (.int .u64 S))],
  mem:=[(62,.buf 91 1 true (Qs.map fun n=>.int .u64 n)),(49,.buf 91 1 true (A.map fun n=>.int .u64 n))]}
theorem sub_wrap (γ:Nat) (h:γ<4294967296) (h0:0<γ):IntKind.u64.wrap ((γ:Int)-1)=((γ-1:Nat):Int):=by rw [QE];omega
theorem win_map (A:List Int) (j m:Nat):List.take ((j:Int)+(m:Int)+1-(j:Int)).toNat (List.drop j (A.map fun n=>V.int .u64 n))=((A.drop j).take (m+1)).map fun n=>V.int .u64 n:=by
 rw [show ((j:Int)+(m:Int)+1-(j:Int)).toNat=m+1 from by omega,List.map_take,List.map_drop]
def pB4:List Nat:=[1,1,1,1,1,1,1,1,1,1,0,1,0,0,1,0,0,1,1,0]
def pB6:List Nat:=[1,1,1,1,1,1,1,1,1,1,0,1,0,0,1,0,0,1,1,0,0,0,0,1,0,1,1,0,0]
set_option maxHeartbeats 4000000 in
theorem copy_ok {cx:Cx} {w0:World} {S N M m j:Nat} {d A Qs R:List Int} {γ:Nat} {N':St→Prop} (lA:A.length=N) (lR:R.length=m+1) (hj:j+m+1≤N) (hN:N<10000) :
 QQ Tryz.prog none cx w0 (ZH Tryz.f220 pB6) (srS S N M m j d A Qs [(13,.v true (QZ R)),(11,.v true (.int .u64 γ))])
  (NR (fun σ=>∀a w,Rel cx w0 σ a w→Rel cx w0 (srS S N M m j d (cpL A R j (m+1)) Qs [(11,.v true (.int .u64 γ))]) a w) N'):=by
 unfold srS
 refine zs0 ?_
 refine QQ.loopB (fun k:Nat => {nt:=163,env:=[(15,.v true (.int .i64 k)),(13,.v true (QZ R)),(11,.v true (.int .u64 γ)),(9,.v true (.int .i64 j)),(8,.own 62 0 M),(7,.v true (.int .i64 m)),(1,.v false (QZ d)),(0,.own 49 0 N),(6,.v true (.int .u64 S))],mem:=[(62,.buf 91 1 true (Qs.map fun n=>.int .u64 n)),(49,.buf 91 1 true ((cpL A R j k).map fun n=>.int .u64 n))]}) (fun k=>k≤m+1) (fun k=>m+1-k) 0 (Nat.zero_le _) (fun a w h=>by
  have:=Rel.keep [15,13,11,9,8,7,1,0,6] [62,49] h
  rw [cpL_zero]
  exact this) ?_
 intro k hk
 by_cases hend:k=m+1
 ·have g : ¬(k:Int)≤m:=by omega
  refine QQ.seq ?_
  refine zs1 g ?_
  refine QQ.condF rfl (QQ.exit ⟨rfl,fun a w h=>?_⟩)
  have:=Rel.keep [11,9,8,7,1,0,6] [62,49] h
  rw [hend] at this
  exact this
 ·have g:(k:Int)≤m:=by omega
  have i1:((j:Int)+(k:Int)).toNat=j+k:=by omega
  have gR:=QD (l:=R) (i:=k) (by omega)
  have lc:(cpL A R j k).length=N:=by rw [cpL_len (by omega) (by omega),lA]
  have gC:=QD (l:=cpL A R j k) (i:=j+k) (by omega)
  have hs:=cpL_succ (A:=A) (R:=R) (j:=j) (k:=k) (by omega) (by omega)
  obtain ⟨C,hC⟩ : ∃C,C=cpL A R j k:=⟨_,rfl⟩
  rw [←hC] at lc gC hs ⊢
  refine QQ.seq ?_
  refine zs1 g ?_
  refine QQ.condT rfl (QQ.skip ?_)
  refine QQ.next (fun σ=>∀a w,Rel cx w0 σ a w→Rel cx w0 {nt:=163,env:=[(15,.v true (.int .i64 k)),(13,.v true (QZ R)),(11,.v true (.int .u64 γ)),(9,.v true (.int .i64 j)),(8,.own 62 0 M),(7,.v true (.int .i64 m)),(1,.v false (QZ d)),(0,.own 49 0 N),(6,.v true (.int .u64 S))],mem:=[(62,.buf 91 1 true (Qs.map fun n=>.int .u64 n)),(49,.buf 91 1 true ((cpL A R j (k+1)).map fun n=>.int .u64 n))]} a w) ?_ ?_
  ·refine QQ.blockN ?_
   refine zr1 (an i1 <| an gR <| an gC <| lc) ?_
   intro a w h
   have:=Rel.keep [15,13,11,9,8,7,1,0,6] [62,49] h
   rw [←hs,List.map_set]
   exact this
  ·intro σ hσ
   refine QQ.from hσ ?_
   refine zr0 ?_
   exact ⟨k+1,(by show k+1≤m+1;omega),(show m+1-(k+1)<m+1-k by omega),fun a w h=>Rel.keep [15,13,11,9,8,7,1,0,6] [62,49] h⟩
set_option maxHeartbeats 4000000 in
theorem search_ok {cx:Cx} {w0:World} {S N M m j:Nat} {d A Qs W:List Int} {wv γ0:Nat} {N':St→Prop} (lA:A.length=N) (hj:j+m+1≤N) (hN:N<10000) (od:okH d) (hd:d.length=m) (hd0:0<QG d)
 (hW:W=(A.drop j).take (m+1)) (oW:okH W) (lW:W.length=m+1) (hwv:QG W=wv) (hγ0:wv/QG d≤γ0∧γ0<4294967296) :
 QQ Tryz.prog none cx w0 (ZH Tryz.f220 pB4) (srS S N M m j d A Qs [(11,.v true (.int .u64 γ0))])
  (NR (fun σ=>∀a w,Rel cx w0 σ a w→Rel cx w0 (srS S N M m j d (cpL A (XQ (wv%QG d) (m+1)) j (m+1)) Qs [(11,.v true (.int .u64 (wv/QG d:Nat)))]) a w) N'):=by
 refine QQ.loopB (fun γ:Nat=>srS S N M m j d A Qs [(11,.v true (.int .u64 γ))]) (fun γ=>wv/QG d≤γ∧γ<4294967296) (fun γ=>γ-wv/QG d) γ0 hγ0 (fun a w h=>h) ?_
 rintro γ ⟨hgγ,hγl⟩
 have oγ:okH [(γ:Int)]:=by intro q hq;simp at hq;omega
 have hTp:=EC d [(γ:Int)] (by omega) (by simp) od oγ
 obtain ⟨p1,p2,p3⟩:=Vq od oγ
 rw [show QG [(γ:Int)]=γ from by simp [QG]] at p3
 obtain ⟨P,hP⟩ : ∃P,P=XX d [(γ:Int)]:=⟨_,rfl⟩
 rw [←hP] at hTp p1 p2 p3
 have p2:P.length=m+1:=by rw [p2,hd];rfl
 have hMn:=Minus_ok W P (by omega) (by omega) oW p1
 have hbo:=borrow_iff oW p1 (by omega)
 rw [hwv,p3] at hbo
 have hsub:QG d*γ≤wv→mnW 4294967296 (fun i=>W.getD i 0) (fun i=>P.getD i 0) W.length=XQ (wv-QG d*γ) (m+1):=fun hle=>by
  obtain ⟨k1,k2⟩:=mnW_32 oW p1 (by omega) (by rw [p3,hwv];exact hle)
  rw [p3,hwv] at k2
  exact Bu k1 (by rw [F5,lW]) k2
 obtain ⟨B,hB⟩ : ∃B,B=mnC (fun i=>W.getD i 0) (fun i=>P.getD i 0) W.length:=⟨_,rfl⟩
 obtain ⟨X,hX⟩ : ∃X,X=mnW 4294967296 (fun i=>W.getD i 0) (fun i=>P.getD i 0) W.length:=⟨_,rfl⟩
 rw [←hB] at hbo hMn
 rw [←hX] at hMn hsub
 have hwin:=win_map A j m
 rw [←hW] at hwin
 have i4:((j:Int)+(m:Int)+1).toNat=j+m+1:=by omega
 have g0:(0:Int)≤(j:Int):=by omega
 have g1:(j:Int)≤(j:Int)+(m:Int)+1:=by omega
 have g2:(j:Int)+(m:Int)+1≤(N:Int):=by omega
 clear hB hX hP oγ
 refine QQ.block ?_
 by_cases hbr:wv<QG d*γ
 ·rw [decide_eq_true (hbo.2 hbr)] at hMn
  have hγ1:wv/QG d<γ:=(Nat.div_lt_iff_lt_mul hd0).2 (by rw [Nat.mul_comm];exact hbr)
  have wg:=sub_wrap γ hγl (Nat.lt_of_le_of_lt (Nat.zero_le _) hγ1)
  clear hbo hsub p3
  unfold srS
  refine zs2 (ρ:=fun _=>[.v true (QZ P)]) (o:=by repeat' first|exact hTp|trivial|constructor) (k:=?_)
  refine QQ.seq ?_
  refine zs3 (ρ:=fun _=>[.v true (QZ X),.v true (.bool true)]) (an i4 <| hwin) (o:=by repeat' first|exact hMn|trivial|constructor) (k:=?_)
  refine zs0 ?_
  refine QQ.condF rfl (QQ.skip ?_)
  refine zr1 wg ?_
  exact ⟨γ-1,⟨by omega,by omega⟩,(show γ-1-wv/QG d<γ-wv/QG d by omega),fun a w h=>Rel.keep [11,9,8,7,1,0,6] [62,49] h⟩
 ·have hγ1:γ=wv/QG d:=by
   have:=(Nat.le_div_iff_mul_le hd0).2 (show γ*QG d≤wv by rw [Nat.mul_comm];omega)
   omega
  rw [decide_eq_false (fun h=>hbr (hbo.1 h))] at hMn
  have hX:=hsub (by omega)
  have hmod:wv-QG d*γ=wv%QG d:=by
   rw [hγ1]
   have:=Nat.div_add_mod wv (QG d)
   omega
  rw [hmod] at hX
  have lX:X.length=m+1:=by rw [hX];exact (V4 _ _).2
  clear hbo hsub p3 hmod
  unfold srS
  refine zs2 (ρ:=fun _=>[.v true (QZ P)]) (o:=by repeat' first|exact hTp|trivial|constructor) (k:=?_)
  refine QQ.seq ?_
  refine zs3 (ρ:=fun _=>[.v true (QZ X),.v true (.bool false)]) (an i4 <| hwin) (o:=by repeat' first|exact hMn|trivial|constructor) (k:=?_)
  refine zs0 ?_
  refine QQ.condT rfl ?_
  refine QQ.next (fun σ=>∀a w,Rel cx w0 σ a w→Rel cx w0 (srS S N M m j d (cpL A X j (m+1)) Qs [(11,.v true (.int .u64 γ))]) a w) ?_ ?_
  ·exact QQ.from (σ':=srS S N M m j d A Qs [(13,.v true (QZ X)),(11,.v true (.int .u64 γ))]) (fun a w h=>Rel.keep [13,11,9,8,7,1,0,6] [62,49] h) (copy_ok lA lX hj hN)
  ·intro σ hσ
   refine QQ.exit ⟨rfl,fun a w h=>?_⟩
   have:=hσ a w h
   rw [hX,hγ1] at this
   exact this
theorem valH_sdrop {l:List Int} {j:Nat} {g:Nat} (hj:j<l.length):QG ((l.set j (g:Int)).drop j)=g+4294967296*QG (l.drop (j+1)):=by
 rw [List.drop_set,if_neg (Nat.lt_irrefl _),Nat.sub_self,List.drop_eq_getElem_cons hj,List.set_cons_zero,QG,Int.toNat_natCast]
theorem okH_setN {l:List Int} (h:okH l) {i:Nat} {n:Int} (hn:0≤n∧n<4294967296):okH (l.set i n):=fun m hm=>by
 rcases List.mem_or_eq_of_mem_set hm with h1|rfl
 ·exact h m h1
 ·exact hn
structure DivI (d:List Int) (N M Z:Nat) (j:Nat) (A Qs:List Int):Prop where
 le:j≤M
 oA:okH A
 lA:A.length=N
 oQ:okH Qs
 lQ:Qs.length=M
 all:QG A+QG d*(4294967296^j*QG (Qs.drop j))=Z
 up:QG (A.drop j)<QG d
theorem DivI.last {d:List Int} {N M Z:Nat} {A Qs:List Int} (h:DivI d N M Z 0 A Qs) (hd0:0<QG d):A=XQ (Z%QG d) N∧Qs=XQ (Z/QG d) M:=by
 have h1:=h.all
 have h2:=h.up
 rw [List.drop_zero,Nat.pow_zero,Nat.one_mul] at h1
 rw [List.drop_zero] at h2
 exact ⟨Bu h.oA h.lA (by rw [←h1,Nat.add_mul_mod_self_left,Nat.mod_eq_of_lt h2]),Bu h.oQ h.lQ (by rw [←h1,Nat.add_mul_div_left _ _ hd0,Nat.div_eq_of_lt h2,Nat.zero_add])⟩
theorem zg {x:Int} (h:0≤x∧x<4294967296) : ∃a:Nat,x=a∧a<4294967296:=⟨x.toNat,by omega,by omega⟩
theorem DivI.step {d:List Int} {N M Z m n j:Nat} {A Qs:List Int} (h:DivI d N M Z (j+1) A Qs) (hm:m=n+1) (hn:1≤n) (hd:d.length=m) (hM:M=N-m) (od:okH d) (hd0:0<QG d) (hdt:2147483648≤(d.getD n 0).toNat) :
 ∃(a1 a2 dt γ0 q0 wv:Nat) (W:List Int),(a1<4294967296∧a2<4294967296∧0<dt)∧A[j+m]?=some (a1:Int)∧A[j+n]?=some (a2:Int)∧d[n]?=some (dt:Int)∧q0=(a1*4294967296+a2)/dt∧γ0=min q0 4294967295 ∧
  W=(A.drop j).take (m+1)∧okH W∧W.length=m+1∧QG W=wv∧wv/QG d≤γ0∧wv/QG d<4294967296∧DivI d N M Z j (cpL A (XQ (wv%QG d) (m+1)) j (m+1)) (Qs.set j ((wv/QG d:Nat):Int)):=by
 have hj:=h.le
 have lA:=h.lA
 have lQ:=h.lQ
 have hjm:j+d.length+1≤A.length:=by omega
 have wn:=win_ok h.oA od hjm (by omega) (by rw [show d.length-1=n from by omega];exact Nat.lt_of_lt_of_le (by decide) hdt) h.up
 obtain ⟨W,hW⟩ : ∃W,W=(A.drop j).take (d.length+1):=⟨_,rfl⟩
 rw [←hW] at wn
 obtain ⟨wv,hwv⟩ : ∃wv,wv=QG W:=⟨_,rfl⟩
 rw [←hwv] at wn
 have wtop:=wn.top
 rw [show d.length-1=n from by omega,show j+d.length-1=j+n from by omega,hd] at wtop
 have g1:=QD (l:=A) (i:=j+m) (by omega)
 have g2:=QD (l:=A) (i:=j+n) (by omega)
 have g3:=QD (l:=d) (i:=n) (by omega)
 obtain ⟨a1,e1,b1⟩:=zg (Q8 h.oA (j+m))
 obtain ⟨a2,e2,b2⟩:=zg (Q8 h.oA (j+n))
 obtain ⟨dt,e3,b3⟩:=zg (Q8 od n)
 rw [e1] at g1
 rw [e2] at g2
 rw [e3] at g3 hdt
 rw [e1,e2,e3] at wtop
 rw [Int.toNat_natCast] at hdt
 rw [Int.toNat_natCast,Int.toNat_natCast,Int.toNat_natCast] at wtop
 clear e1 e2 e3
 have hg32:wv/QG d<4294967296:=(Nat.div_lt_iff_lt_mul hd0).2 (by have:=wn.lt;rw [Nat.mul_comm] at this;exact this)
 have hR:=V4 (m+1) (wv%QG d)
 have hmod:wv%QG d=wv-wv/QG d*QG d:=by
  have h1:=Nat.div_add_mod wv (QG d)
  rw [Nat.mul_comm] at h1
  exact (Nat.sub_eq_of_eq_add (by rw [Nat.add_comm];exact h1.symm)).symm
 have hvR:QG (XQ (wv%QG d) (m+1))=wv%QG d:=by
  refine F4 ?_
  have h1:=UF od
  rw [hd] at h1
  have h2:4294967296^m≤4294967296^(m+1):=Nat.pow_le_pow_right (by decide) (by omega)
  have h3:=Nat.mod_lt wv hd0
  omega
 obtain ⟨k1,k2,k3,k4⟩:=win_next wn rfl h.oA hjm hR.1 (by rw [hR.2,hd]) (by rw [hvR,hmod]) hd0
 have hcp:cpL A (XQ (wv%QG d) (m+1)) j (m+1)=A.take j++(XQ (wv%QG d) (m+1)++A.drop (j+d.length+1)):=by
  have ht:(XQ (wv%QG d) (m+1)).take (m+1)=XQ (wv%QG d) (m+1):=List.take_of_length_le (by rw [hR.2];exact Nat.le_refl _)
  rw [cpL,ht,hd,Nat.add_assoc]
 obtain ⟨q0,hq0⟩ : ∃q0,q0=(a1*4294967296+a2)/dt:=⟨_,rfl⟩
 rw [←hq0] at wtop
 have hle:wv/QG d≤min q0 4294967295:=Nat.le_min.2 ⟨wtop,Nat.le_of_lt_succ hg32⟩
 refine ⟨a1,a2,dt,min q0 4294967295,q0,wv,W,⟨b1,b2,Nat.lt_of_lt_of_le (by decide) hdt⟩,g1,g2,g3,hq0,rfl,by rw [hW,hd],wn.ok,by rw [wn.len,hd],hwv.symm,hle,hg32,?_⟩
 clear hle wtop hq0 g1 g2 g3 b1 b2 b3 hdt wn hW hwv
 rw [hcp]
 refine ⟨Nat.le_of_succ_le hj,k1,by rw [k2,lA],okH_setN h.oQ ⟨Int.natCast_nonneg _,Int.ofNat_lt.2 hg32⟩,by rw [List.length_set,lQ],?_,k3⟩
 rw [valH_sdrop (by rw [lQ];exact hj)]
 have h1:=h.all
 obtain ⟨X,hX⟩ : ∃X,X=QG (Qs.drop (j+1)):=⟨_,rfl⟩
 obtain ⟨g,hg⟩ : ∃g,g=wv/QG d:=⟨_,rfl⟩
 rw [←hX] at h1 ⊢
 rw [←hg] at k4 ⊢
 rw [Nat.pow_succ] at h1
 rw [Nat.mul_add,Nat.mul_add,←Nat.add_assoc,k4,←h1,Nat.mul_assoc]
def pB2:List Nat:=[1,1,1,1,1,1,1,1,1,1,0]
def dvS (S N M m:Nat) (d A Qs:List Int) (e:List (Nat×AV)):St :=
 {nt:=163,env:=e++[(8,.own 62 0 M),(7,.v true (.int .i64 m)),(1,.v false (QZ d)),(0,.own 49 0 N),(6,.v true (.int .u64 S))],
  mem:=[(62,.buf 91 1 true (Qs.map fun n=>.int .u64 n)),(49,.buf 91 1 true (A.map fun n=>.int .u64 n))]}
set_option maxHeartbeats 4000000 in
theorem places_ok {cx:Cx} {w0:World} {S N M m n Z:Nat} {d A Qs:List Int} {N':St→Prop} (hm:m=n+1) (hn:1≤n) (hN:N<10000) (hd:d.length=m) (hM:M=N-m) (hml:m<10000) (od:okH d) (hd0:0<QG d) (hdt:2147483648≤(d.getD n 0).toNat)
 (h0:DivI d N M Z M A Qs) :
 QQ Tryz.prog none cx w0 (ZH Tryz.f220 pB2) (dvS S N M m d A Qs [])
  (NR (fun σ=>∀a w,Rel cx w0 σ a w→Rel cx w0 (dvS S N M m d (XQ (Z%QG d) N) (XQ (Z/QG d) M) []) a w) N'):=by
 obtain ⟨δ,hδ⟩ : ∃δ,δ=m-N:=⟨_,rfl⟩
 have eN:((N:Int)-(m:Int)-1)=(M:Int)-1-(δ:Int):=by omega
 unfold dvS
 refine zs1 eN ?_
 refine QQ.loopB (fun s:Nat×List Int×List Int=>dvS S N M m d s.2.1 s.2.2 [(9,.v true (.int .i64 ((s.1:Int)-1-(δ:Int))))]) (fun s=>DivI d N M Z s.1 s.2.1 s.2.2) (fun s=>s.1) (M,A,Qs) h0 (fun a w h=>Rel.keep [9,8,7,1,0,6] [62,49] h) ?_
 rintro ⟨j,A,Qs⟩ hI
 simp only at hI ⊢
 rcases j with _|j
 ·have e9:(((0:Nat):Int)-1-(δ:Int)) = -1-(δ:Int):=by omega
  have g9 : ¬(0:Int) ≤ -1-(δ:Int):=by omega
  obtain ⟨e1,e2⟩:=hI.last hd0
  rw [e9]
  unfold dvS
  refine QQ.seq ?_
  refine zs1 g9 ?_
  refine QQ.condF rfl (QQ.exit ⟨rfl,fun a w h=>?_⟩)
  have:=Rel.keep [8,7,1,0,6] [62,49] h
  rw [e1,e2] at this
  exact this
 ·have hj:=hI.le
  have hδ0:δ=0:=by omega
  subst hδ0
  have e9:(((j+1:Nat):Int)-1-((0:Nat):Int))=(j:Int):=by omega
  have g9:(0:Int)≤(j:Int):=by omega
  rw [e9]
  obtain ⟨a1,a2,dt,γ0,q0,wv,W,⟨a1l,a2l,dt0⟩,gA1,gA2,gd,hq0,hγ0,hW,oW,lW,hwv,hle,hg32,hnext⟩:=hI.step hm hn hd hM od hd0 hdt
  have lA:=hI.lA
  have lQ:=hI.lQ
  obtain ⟨T0,hT0⟩ : ∃T0,T0=a1*4294967296+a2:=⟨_,rfl⟩
  rw [←hT0] at hq0
  have w1:IntKind.u64.wrap ((a1:Int)*4294967296)=((a1*4294967296:Nat):Int):=by rw [QE];omega
  have w2:IntKind.u64.wrap (((a1*4294967296:Nat):Int)+(a2:Int))=(T0:Int):=by rw [QE];omega
  have i1:((j:Int)+(m:Int)).toNat=j+m:=by omega
  have i2:((j:Int)+(m:Int)-1).toNat=j+n:=by omega
  have i3:((m:Int)-1).toNat=n:=by omega
  have hTd:=KF T0 dt
  have w3:IntKind.u64.wrap ((T0/dt:Nat):Int)=((T0/dt:Nat):Int):=YY _ (Nat.lt_of_le_of_lt (Nat.div_le_self _ _) (by omega))
  have hdt0 : ¬(dt:Int)=0:=by omega
  rw [←hq0] at hTd w3
  have hmin:(if (4294967295:Int)<(q0:Int) then (4294967295:Int) else (q0:Int))=(γ0:Int):=by split <;> omega
  have hjN:j+m+1≤N:=by omega
  have hjM:j<M:=by omega
  have hγl:γ0<4294967296:=by omega
  obtain ⟨g,hg⟩ : ∃g,g=wv/QG d:=⟨_,rfl⟩
  obtain ⟨A',hA'⟩ : ∃A',A'=cpL A (XQ (wv%QG d) (m+1)) j (m+1):=⟨_,rfl⟩
  have hSr:=fun {N'}=>search_ok (cx:=cx) (w0:=w0) (S:=S) (M:=M) (Qs:=Qs) (N':=N') lA hjN hN od hd hd0 hW oW lW hwv ⟨hle,hγl⟩
  rw [←hA',←hg] at hnext hSr
  rw [←hg] at hg32
  clear hI hW oW lW hwv hle hA' hg hq0 hT0 hδ hγ0 hdt h0
  unfold dvS
  refine QQ.seq ?_
  refine zs1 g9 ?_
  refine QQ.condT rfl (QQ.skip ?_)
  refine QQ.next (fun σ=>∀a w,Rel cx w0 σ a w→Rel cx w0 (dvS S N M m d A' (Qs.set j (g:Int)) [(9,.v true (.int .i64 j))]) a w) ?_ ?_
  ·refine QQ.blockN ?_
   refine zd1 [] (an i1 <| an i2 <| an gA1 <| an gA2 <| an w1 <| w2) ?_
   refine zs1 (an i3 <| an gd <| an hdt0 <| an hTd <| an w3 <| hmin) ?_
   refine QQ.next (fun σ=>∀a w,Rel cx w0 σ a w→Rel cx w0 (srS S N M m j d A' Qs [(11,.v true (.int .u64 (g:Nat)))]) a w) ?_ ?_
   ·exact QQ.from (σ':=srS S N M m j d A Qs [(11,.v true (.int .u64 γ0))]) (fun a w h=>Rel.keep [11,9,8,7,1,0,6] [62,49] h) hSr
   ·intro σ hσ
    refine QQ.from hσ ?_
    have gQ:=QD (l:=Qs) (i:=j) (by omega)
    unfold srS
    refine zr1 (an gQ <| lQ) ?_
    intro a w h
    have:=Rel.keep [9,8,7,1,0,6] [62,49] h
    unfold dvS
    rw [List.map_set]
    exact this
  ·intro σ hσ
   refine QQ.from hσ ?_
   unfold dvS
   refine zr0 ?_
   refine ⟨(j,A',Qs.set j (g:Int)),hnext,(show j<j+1 by omega),fun a w h=>?_⟩
   have:=Rel.keep [9,8,7,1,0,6] [62,49] h
   rw [show ((j:Int)-1)=(j:Int)-1-((0:Nat):Int) from by omega] at this
   exact this
theorem two_wrap (s:Nat) (h:s<4294967296):IntKind.u64.wrap (2*(s:Int))=((2*s:Nat):Int):=by rw [QE];omega
set_option maxHeartbeats 2000000 in
theorem scale_ok {cx:Cx} {w0:World} {x b:List Int} {n bt k0 S:Nat} {N':St→Prop} (hn:b.length=n+1) (hnl:n<10000) (gb:b[n]?=some (bt:Int)) (hbt1:bt<4294967296) (hk0:k0<32) (hn1:2147483648≤bt*2^k0) (hn2:bt*2^k0<4294967296) (hSe:S=2^k0) :
 QQ Tryz.prog none cx w0 (ZH Tryz.f220 [1,1,1,1,0]) {nt:=163,env:=[(6,.v true (.int .u64 (1:Nat))),(0,.v false (QZ x)),(1,.v false (QZ b))],mem:=[]}
  (NR (fun σ=>∀a w,Rel cx w0 σ a w→Rel cx w0 {nt:=163,env:=[(6,.v true (.int .u64 S)),(0,.v false (QZ x)),(1,.v false (QZ b))],mem:=[]} a w) N'):=by
 refine QQ.loopB (fun k:Nat => {nt:=163,env:=[(6,.v true (.int .u64 (2^k:Nat))),(0,.v false (QZ x)),(1,.v false (QZ b))],mem:=[]}) (fun k=>k≤k0) (fun k=>k0-k) 0 (Nat.zero_le _) (fun a w h=>Rel.keep [6,0,1] [] h) ?_
 intro k hk
 obtain ⟨s,hs⟩ : ∃s,s=2^k:=⟨_,rfl⟩
 have hs32:s<4294967296:=by rw [hs];exact Nat.lt_of_lt_of_le (Nat.pow_lt_pow_right (by decide) (show k<32 by omega)) (by decide)
 have hm64:bt*s<18446744073709551616:=by
  have:=Nat.mul_le_mul (show bt≤4294967295 by omega) (show s≤4294967295 by omega);omega
 obtain ⟨p,hp⟩ : ∃p,p=bt*s:=⟨_,rfl⟩
 have w1:IntKind.u64.wrap ((bt:Int)*(s:Int))=(p:Int):=by
  rw [←Int.natCast_mul,hp];exact YY _ hm64
 have w2:=two_wrap s hs32
 have e1:(((n+1:Nat):Int)-1)=(n:Int):=by omega
 rw [←hs]
 by_cases hend:k=k0
 ·have g2 : ¬(p:Int)<2147483648:=by
   have:2147483648≤p:=by rw [hp,hs,hend];exact hn1
   omega
  refine QQ.seq ?_
  refine zs1 (an hn <| an e1 <| an gb <| an w1 <| g2) ?_
  refine QQ.condF rfl (QQ.exit ⟨rfl,fun a w h=>?_⟩)
  have:=Rel.keep [6,0,1] [] h
  rw [hSe,←hend,←hs]
  exact this
 ·have hlt:=norm_more (show k<k0 by omega) hn2
  rw [←hs,←hp] at hlt
  have g2:(p:Int)<2147483648:=by omega
  refine QQ.seq ?_
  refine zs1 (an hn <| an e1 <| an gb <| an w1 <| g2) ?_
  refine QQ.condT rfl (QQ.skip ?_)
  refine QQ.block ?_
  refine zr1 w2 ?_
  refine ⟨k+1,(by show k+1≤k0;omega),(show k0-(k+1)<k0-k by omega),fun a w h=>?_⟩
  have:=Rel.keep [6,0,1] [] h
  show Rel cx w0 {nt:=163,env:=[(6,.v true (.int .u64 ((2^(k+1):Nat):Int))),(0,.v false (QZ x)),(1,.v false (QZ b))],mem:=[]} a w
  rw [Nat.pow_succ,←hs,Nat.mul_comm]
  exact this
set_option maxHeartbeats 2000000 in
theorem down_ok {cx:Cx} {w0:World} {x Q:List Int} {k M:Nat} {N':St→Prop} (hx:x.length<1000000) (ox:okH x) (hk:0<k) (hk2:k<4294967296) (hl:Q.length=M) :
 QQ Tryz.prog none cx w0 (ZH Tryz.f220 [1,1,1,1,1,1,1,1,1,1,1,1,1,1,0]) {nt:=163,env:=[(18,.v true (.int .u64 (0:Nat))),(17,.own 137 0 x.length),(16,.v false (QZ x)),(6,.v true (.int .u64 k)),(8,.own 62 0 M)],mem:=[(62,.buf 91 1 true (Q.map fun n=>.int .u64 n)),(137,.buf 91 1 true (List.replicate x.length (.int .u64 0)))]}
  (NR (fun σ=>∀a w,Rel cx w0 σ a w→Rel cx w0 {nt:=163,env:=[(18,.v true (.int .u64 (dvH k x).2)),(17,.own 137 0 x.length),(8,.own 62 0 M)],mem:=[(62,.buf 91 1 true (Q.map fun n=>.int .u64 n)),(137,.buf 91 1 true ((dvH k x).1.map fun n=>.int .u64 n))]} a w) N'):=by
 have hk0 : ¬(k:Int)=0:=by omega
 refine zs0 ?_
 refine QQ.loopB (fun j:Nat => {nt:=163,env:=[(19,.v true (.int .i64 ((j:Int)-1))),(18,.v true (.int .u64 (dvH k (x.drop j)).2)),(17,.own 137 0 x.length),(16,.v false (QZ x)),(6,.v true (.int .u64 k)),(8,.own 62 0 M)],mem:=[(62,.buf 91 1 true (Q.map fun n=>.int .u64 n)),(137,.buf 91 1 true ((List.replicate j 0++(dvH k (x.drop j)).1).map fun n=>.int .u64 n))]}) (fun j=>j≤x.length) id x.length (Nat.le_refl _) (fun a w h=>by
  have:=Rel.keep [19,18,17,16,6,8] [62,137] h
  rw [List.drop_length]
  show Rel _ _ {nt:=163,env:=_,mem:=[(62,.buf 91 1 true (Q.map fun n=>.int .u64 n)),(137,.buf 91 1 true ((List.replicate x.length (0:Int)++[]).map fun n=>.int .u64 n))]} _ _
  rw [List.append_nil,List.map_replicate]
  exact this) ?_
 intro j hj
 rcases j with _|j
 ·refine QQ.seq ?_
  refine zs0 ?_
  refine QQ.condF rfl (QQ.exit ⟨rfl,fun a w h=>?_⟩)
  exact Rel.keep [18,17,8] [62,137] h
 ·have hjx:j<x.length:=by omega
  have gx:=QD hjx
  have hx0:=Q8 ox j
  have ho:okH (x.drop (j+1)):=fun n hn=>ox n (List.mem_of_mem_drop hn)
  obtain ⟨r1,r2,r3,_⟩:=FU hk ho
  have hd:=dvH_drop (k:=k) hjx
  obtain ⟨s,hs⟩ : ∃s,s=(dvH k (x.drop (j+1))).2:=⟨_,rfl⟩
  obtain ⟨W,hW⟩ : ∃W,W=(dvH k (x.drop (j+1))).1:=⟨_,rfl⟩
  rw [←hs] at r1 hd
  rw [←hW] at r3 hd
  rw [←hs,←hW]
  obtain ⟨d,hdd⟩ : ∃d:Nat,d=(x.getD j 0).toNat:=⟨_,rfl⟩
  rw [←hdd] at hd
  rw [show x.getD j 0=(d:Int) from by omega] at gx
  obtain ⟨t,ht⟩ : ∃t,t=s*4294967296+d:=⟨_,rfl⟩
  rw [←ht] at hd
  have ht64:t<18446744073709551616:=by omega
  have w1:IntKind.u64.wrap ((s:Int)*4294967296)=((s*4294967296:Nat):Int):=by rw [QE];omega
  have w2:IntKind.u64.wrap (((s*4294967296:Nat):Int)+(d:Int))=(t:Int):=by rw [QE];omega
  have w3:=KF t k
  have w4:IntKind.u64.wrap ((t/k:Nat):Int)=((t/k:Nat):Int):=YY _ (Nat.lt_of_le_of_lt (Nat.div_le_self _ _) ht64)
  have w5:=Gq t k
  obtain ⟨q,hq⟩ : ∃q,q=t/k:=⟨_,rfl⟩
  obtain ⟨r,hr⟩ : ∃r,r=t%k:=⟨_,rfl⟩
  rw [←hq,←hr] at hd
  rw [←hq] at w3 w4
  rw [←hr] at w5
  rw [List.length_drop] at r3
  have hLl:(List.replicate (j+1) (0:Int)++W).length=x.length:=by rw [List.length_append,List.length_replicate,r3];omega
  have eset:(List.replicate (j+1) (0:Int)++W).set j (q:Int)=List.replicate j 0++(q:Int)::W:=by
   rw [show List.replicate (j+1) (0:Int)=List.replicate j 0++[0] from by rw [List.replicate_succ'],List.append_assoc,List.set_append_right _ _ (by rw [List.length_replicate];exact Nat.le_refl _),List.length_replicate,Nat.sub_self]
   rfl
  obtain ⟨Lw,hL⟩ : ∃Lw,Lw=List.replicate (j+1) (0:Int)++W:=⟨_,rfl⟩
  rw [←hL] at hLl eset ⊢
  have gL:=QD (l:=Lw) (i:=j) (by omega)
  refine QQ.seq ?_
  refine zs0 ?_
  refine QQ.condT rfl (QQ.skip ?_)
  refine QQ.next (fun σ=>∀a w,Rel cx w0 σ a w→Rel cx w0 {nt:=163,env:=[(19,.v true (.int .i64 (j:Int))),(18,.v true (.int .u64 r)),(17,.own 137 0 x.length),(16,.v false (QZ x)),(6,.v true (.int .u64 k)),(8,.own 62 0 M)],mem:=[(62,.buf 91 1 true (Q.map fun n=>.int .u64 n)),(137,.buf 91 1 true ((Lw.set j (q:Int)).map fun n=>.int .u64 n))]} a w) ?_ ?_
  ·refine QQ.blockN ?_
   refine zs1 (an gx <| an w1 <| w2) ?_
   refine zs1 (an hk0 <| an w3 <| an w4 <| an gL <| hLl) ?_
   refine zr1 (an hk0 <| w5) ?_
   intro a w h
   have:=Rel.keep [19,18,17,16,6,8] [62,137] h
   rw [List.map_set]
   exact this
  ·intro σ hσ
   refine QQ.from hσ ?_
   refine zr0 ?_
   refine ⟨j,(by show j≤x.length;omega),(show j<j+1 by omega),fun a w h=>?_⟩
   have:=Rel.keep [19,18,17,16,6,8] [62,137] h
   rw [eset] at this
   simp only [hd]
   exact this
set_option maxHeartbeats 8000000 in
theorem DivideN_ok (x y:List Int) (hx:x.length≤2000) (hy:y.length≤2000) (ox:okH x) (oy:okH y) (h2:2≤(Qg y).length) :
 ∃Q R,okH Q∧okH R∧Q.length≤2002∧R.length≤2002∧QG Q=QG x/QG y∧QG R=QG x%QG y∧QU Tryz.prog 220 [.v (QZ x),.v (QZ y)] [.v true (QZ Q),.v true (QZ R)]:=by
 have hS:=H9 y (by omega)
 have hyl:=ZE y
 have hvy:=Uz y
 have hnz:=XY y
 have ot:=VB oy
 obtain ⟨b,hb⟩ : ∃b,b=Qg y:=⟨_,rfl⟩
 rw [←hb] at hS hyl hvy hnz ot h2
 clear hb
 obtain ⟨n,hn⟩ : ∃n,b.length=n+1:=⟨b.length-1,by omega⟩
 obtain ⟨bt,hbt⟩ : ∃bt:Nat,(bt:Int)=b.getD n 0:=⟨(b.getD n 0).toNat,by have:=Q8 ot n;omega⟩
 have hbt1:bt<4294967296:=by have:=Q8 ot n;omega
 have hbt0:0<bt:=by
  rcases hnz with h|⟨t,z,h,hz⟩
  ·rw [h] at h2;simp at h2
  ·have hl:t.length=n:=by rw [h,List.length_append] at hn;simpa using hn
   have:b.getD n 0=z:=by rw [h,←hl];simp [List.getD_eq_getElem?_getD]
   omega
 obtain ⟨k0,hk0,hn1,hn2⟩:=norm32 hbt1 hbt0
 obtain ⟨S,hSe⟩ : ∃S,S=2^k0:=⟨_,rfl⟩
 have hS0:0<S:=by rw [hSe];exact Nat.pow_pos (by decide)
 have hS1:S<4294967296:=by rw [hSe];exact Nat.lt_of_lt_of_le (Nat.pow_lt_pow_right (by decide) hk0) (by decide)
 have oS:okH [(S:Int)]:=by intro m hm;simp at hm;omega
 have vS:QG [(S:Int)]=S:=by simp [QG]
 have hTb:=EC b [(S:Int)] (by omega) (by simp) ot oS
 obtain ⟨tb1,tb2,tb3⟩:=Vq ot oS
 have vb:QG b=QG (b.take n)+4294967296^n*bt:=by
  have:=Z5 (l:=b) n
  rw [←hn,List.take_length,←hbt] at this
  exact this
 have vbl:=UF (HQ ot n)
 rw [List.length_take,Nat.min_eq_left (by omega)] at vbl
 rw [vS] at tb3
 obtain ⟨hs1,hs2⟩:=shape_ok (n:=n) tb1 (by
  rw [tb3,vb]
  have:=Nat.mul_le_mul_left (4294967296^n) hn1
  rw [←hSe,←Nat.mul_assoc] at this
  rw [Nat.add_mul];omega) (by
  rw [tb3,vb,Nat.pow_succ]
  have h3:(bt+1)*S≤4294967296:=by
   rw [hSe]
   have h4:2^(32-k0)*2^k0=4294967296:=by rw [←Nat.pow_add,show 32-k0+k0=32 from by omega]
   have h5:bt<2^(32-k0):=by
    rcases Nat.lt_or_ge bt (2^(32-k0)) with h|h
    ·exact h
    ·have:=Nat.mul_le_mul_right (2^k0) h
     omega
   have:=Nat.mul_le_mul_right (2^k0) (Nat.succ_le_of_lt h5)
   rw [h4] at this
   exact this
  have h6:(QG (b.take n)+4294967296^n*bt)<4294967296^n*(bt+1):=by rw [Nat.mul_add,Nat.mul_one];omega
  have h7:=(Nat.mul_lt_mul_right hS0).2 h6
  have h8:=Nat.mul_le_mul_left (4294967296^n) h3
  rw [←Nat.mul_assoc] at h8
  omega)
 have hSb:=H9 (XX b [(S:Int)]) (by rw [tb2];simp;omega)
 have od:=VB tb1
 have vd:=Uz (XX b [(S:Int)])
 rw [tb3] at vd
 obtain ⟨tb,htb⟩ : ∃tb,tb=XX b [(S:Int)]:=⟨_,rfl⟩
 rw [←htb] at hTb hSb hs1 hs2 od vd
 obtain ⟨d,hd⟩ : ∃d,d=Qg tb:=⟨_,rfl⟩
 rw [←hd] at hSb hs1 hs2 od vd
 have hTa:=TimesO_ok x [(S:Int)] (by omega) (by simp) ox oS 500
 obtain ⟨ta1,ta2,ta3⟩:=Vq ox oS
 rw [vS] at ta3
 obtain ⟨ta,hta⟩ : ∃ta,ta=XX x [(S:Int)]:=⟨_,rfl⟩
 rw [←hta] at hTa ta1 ta2 ta3
 have ta2:ta.length=x.length+1:=ta2
 have hd0:0<QG d:=by
  have:0<QG b:=by
   rw [vb]
   have:=Nat.mul_le_mul_left (4294967296^n) hbt0
   have hp:0<4294967296^n:=Nat.pow_pos (by decide)
   omega
  rw [vd];exact Nat.mul_pos this hS0
 obtain ⟨N,hN⟩ : ∃N,N=x.length+2:=⟨_,rfl⟩
 obtain ⟨M,hM⟩ : ∃M,M=N-(n+1):=⟨_,rfl⟩
 obtain ⟨Z,hV⟩ : ∃Z,Z=QG x*S:=⟨_,rfl⟩
 have hr:QG x%QG y*S=Z%QG d:=by rw [vd,hV,hvy,Nat.mul_mod_mul_right]
 have hq:QG x/QG y=Z/QG d:=by rw [vd,hV,hvy,Nat.mul_div_mul_right _ _ hS0]
 have hyp:0<QG y:=by
  rcases Nat.eq_zero_or_pos (QG y) with h|h
  ·rw [←hvy] at h;rw [h,Nat.zero_mul] at vd;omega
  ·exact h
 have hVlt:Z<4294967296^(x.length+1):=by rw [hV,←ta3,←ta2];exact UF ta1
 have hdge:4294967296^n≤QG d:=by
  have h3:=Z5 (l:=d) n
  rw [←hs1,List.take_length] at h3
  have h4:=Nat.mul_le_mul_left (4294967296^n) (show 1≤(d.getD n 0).toNat by omega)
  omega
 have hQlt:Z/QG d<4294967296^M:=by
  refine (Nat.div_lt_iff_lt_mul hd0).2 (Nat.lt_of_lt_of_le hVlt ?_)
  have h3:4294967296^(x.length+1)≤4294967296^(M+n):=Nat.pow_le_pow_right (by decide) (by omega)
  rw [Nat.pow_add _ M n] at h3
  exact Nat.le_trans h3 (Nat.mul_le_mul_left _ hdge)
 have hAlt:Z%QG d<4294967296^N:=Nat.lt_of_le_of_lt (Nat.mod_le _ _) (Nat.lt_of_lt_of_le hVlt (Nat.pow_le_pow_right (by decide) (by omega)))
 obtain ⟨A1,hA1⟩ : ∃A1,A1=XQ (Z%QG d) N:=⟨_,rfl⟩
 obtain ⟨Q,hQ⟩ : ∃Q,Q=XQ (Z/QG d) M:=⟨_,rfl⟩
 have oA1:okH A1:=by rw [hA1];exact (V4 _ _).1
 have lA1:A1.length=N:=by rw [hA1];exact (V4 _ _).2
 have vA1:QG A1=Z%QG d:=by rw [hA1];exact F4 hAlt
 have hSA:=H9 A1 (by omega)
 have oT:=VB oA1
 have lT:=ZE A1
 have vT:=Uz A1
 obtain ⟨T,hT⟩ : ∃T,T=Qg A1:=⟨_,rfl⟩
 rw [←hT] at hSA oT lT vT
 obtain ⟨r1,r2,r3,_⟩:=FU hS0 oT
 obtain ⟨rv1,rv2⟩:=dvH_val hS0 oT
 refine ⟨Q,(dvH S T).1,by rw [hQ];exact (V4 _ _).1,r2,by rw [hQ,(V4 _ _).2];omega,by omega,by rw [hQ,F4 hQlt,hq],by rw [rv1,vT,vA1,←hr,Nat.mul_div_cancel _ hS0],?_⟩
 have lQ:Q.length=M:=by rw [hQ];exact (V4 _ _).2
 refine QU.of Tryz.func220 rfl rfl fun cx w0=>?_
 rw [show Tryz.f220.ntmps=163 from rfl]
 have g1 : ¬(b.length:Int)=1:=by omega
 refine zs0 ?_
 refine zs2 (ρ:=fun _=>[.v false (QZ b)]) (o:=by repeat' first|exact hS|trivial|constructor) (k:=?_)
 refine QQ.seq ?_
 refine zs1 g1 ?_
 refine QQ.condF rfl (QQ.skip ?_)
 refine QQ.from (σ' := {nt:=163,env:=[(0,.v false (QZ x)),(1,.v false (QZ b))],mem:=[]}) (fun a w h=>Rel.keep [0,1] [] h) ?_
 refine zs0 ?_
 have gb:b[n]?=some (bt:Int):=by rw [QD (by omega),←hbt]
 refine QQ.next (fun σ=>∀a w,Rel cx w0 σ a w→Rel cx w0 {nt:=163,env:=[(6,.v true (.int .u64 S)),(0,.v false (QZ x)),(1,.v false (QZ b))],mem:=[]} a w) (QQ.from (fun a w h=>Rel.keep [6,0,1] [] h) (scale_ok hn (by omega) gb hbt1 hk0 hn1 hn2 hSe)) ?_
 intro σ hσ
 refine QQ.from hσ ?_
 clear hσ
 refine zs2 (ρ:=fun _=>[.own 500 91 1 true (ta.map fun n=>.int .u64 n)]) (o:=by repeat' first|exact hTa|trivial|constructor) (k:=?_)
 refine zs1 ta2 ?_
 refine zs2 (ρ:=fun q=>if q=53 then [.v true (QZ tb)] else [.v false (QZ d)]) (o:=by repeat' first|exact hTb|exact hSb|trivial|constructor) (k:=?_)
 refine zs0 ?_
 obtain ⟨m,hm⟩ : ∃m,m=n+1:=⟨_,rfl⟩
 rw [←hm] at hs1 hM
 refine QQ.from (σ' := {nt:=163,env:=[(7,.v true (.int .i64 m)),(1,.v false (QZ d)),(0,.own 49 0 N),(6,.v true (.int .u64 S))],mem:=[(49,.buf 91 1 true ((ta++[0]).map fun n=>.int .u64 n))]}) (fun a w h=>by
  have:=Rel.keep [7,1,0,6] [49] h
  rw [hs1] at this
  rw [List.map_append,hN]
  exact this) ?_
 have hMi:(if (0:Int)<(N:Int)-(m:Int) then (N:Int)-(m:Int) else 0)=(M:Int):=by split <;> omega
 have hoA:okH (ta++[0]):=fun q hq=>by
  rcases List.mem_append.1 hq with hq|hq
  ·exact ta1 q hq
  ·simp at hq;omega
 have hvA:QG (ta++[0])=Z:=by rw [ZG,ta3,hV];simp [QG]
 have hlA:(ta++[0]).length=N:=by rw [List.length_append,ta2,hN];rfl
 have hI0:DivI d N M Z M (ta++[0]) (List.replicate M 0):=by
  refine ⟨Nat.le_refl _,hoA,hlA,(fun q hq=>by rw [List.mem_replicate] at hq;omega),List.length_replicate,by rw [List.drop_of_length_le (by simp),QG,Nat.mul_zero,Nat.mul_zero,Nat.add_zero];exact hvA,?_⟩
  have e:(ta++[(0:Int)]).drop M=ta.drop M++[0]:=List.drop_append_of_le_length (by omega)
  rw [e,ZG,show QG [(0:Int)]=0 from rfl,Nat.mul_zero,Nat.add_zero]
  have h3:=UF (BH ta1 M)
  rw [List.length_drop] at h3
  have h4:4294967296^(ta.length-M)≤4294967296^n:=Nat.pow_le_pow_right (by decide) (by omega)
  omega
 have hP:=fun {N'}=>places_ok (cx:=cx) (w0:=w0) (S:=S) (N':=N') hm (by omega) (by omega) hs1 hM (by omega) od hd0 hs2 hI0
 rw [←hA1,←hQ] at hP
 clear hI0 hvA hoA hQlt hAlt hVlt hdge hr hq hyp hd0 vd hs2 od vb vbl tb1 tb2 tb3 hn1 hn2 hbt ot hnz hvy rv1 rv2 ta1 ta3
 refine zs1 hMi ?_
 refine QQ.next (fun σ=>∀a w,Rel cx w0 σ a w→Rel cx w0 (dvS S N M m d A1 Q []) a w) (QQ.from (σ':=dvS S N M m d (ta++[0]) (List.replicate M 0) []) (fun a w h=>by
  have:=Rel.keep [8,7,1,0,6] [62,49] h
  unfold dvS
  rw [List.map_replicate]
  exact this) hP) ?_
 intro σ hσ
 refine QQ.from hσ ?_
 clear hσ hP
 unfold dvS
 refine QQ.from (σ' := {nt:=163,env:=[(8,.own 62 0 M),(0,.v true (QZ A1)),(6,.v true (.int .u64 S))],mem:=[(62,.buf 91 1 true (Q.map fun n=>.int .u64 n))]}) (fun a w h=>by
  have:=Rel.keep [8,0,6] [62] (Rel.freeze (s:=49) (e:=91) (z:=1) (nw:=true) (xs:=A1.map fun n=>.int .u64 n) h rfl)
  have e:List.take N (List.drop 0 (List.map (fun n=>V.int .u64 n) A1))=List.map (fun n=>V.int .u64 n) A1:=by rw [List.drop_zero,List.take_of_length_le (by rw [List.length_map,lA1];exact Nat.le_refl _)]
  rw [show QZ A1 = .sl 1 (A1.map fun n=>.int .u64 n) from rfl,←e]
  exact this) ?_
 refine zs2 (ρ:=fun _=>[.v false (QZ T)]) (o:=by repeat' first|exact hSA|trivial|constructor) (k:=?_)
 refine zs0 ?_
 refine zs0 ?_
 refine QQ.next (fun σ=>∀a w,Rel cx w0 σ a w→Rel cx w0 {nt:=163,env:=[(18,.v true (.int .u64 (dvH S T).2)),(17,.own 137 0 T.length),(8,.own 62 0 M)],mem:=[(62,.buf 91 1 true (Q.map fun n=>.int .u64 n)),(137,.buf 91 1 true ((dvH S T).1.map fun n=>.int .u64 n))]} a w) (QQ.from (fun a w h=>Rel.keep [18,17,16,6,8] [62,137] h) (down_ok (by omega) oT hS0 hS1 lQ)) ?_
 intro σ hσ
 refine QQ.from hσ ?_
 clear hσ
 refine zs0 ?_
 have e1:List.take M (List.map (fun n=>V.int .u64 n) Q)=List.map (fun n=>V.int .u64 n) Q:=List.take_of_length_le (by rw [List.length_map];omega)
 have e2:List.take T.length (List.map (fun n=>V.int .u64 n) (dvH S T).1)=List.map (fun n=>V.int .u64 n) (dvH S T).1:=List.take_of_length_le (by rw [List.length_map];omega)
 exact QQ.ret ⟨_,[],rfl,⟨⟨rfl,by rw [List.drop_zero,e1],id,rfl⟩,⟨rfl,by rw [List.drop_zero,e2],id,rfl⟩,trivial⟩,by simp [R.names,R.mems,R.blks],by simp,rfl⟩
theorem Divide_ok (x y:List Int) (hx:x.length≤2000) (hy:y.length≤2000) (ox:okH x) (oy:okH y) (h0:0<QG y) :
 ∃Q R,okH Q∧okH R∧Q.length≤2002∧R.length≤2002∧QG Q=QG x/QG y∧QG R=QG x%QG y∧QU Tryz.prog 220 [.v (QZ x),.v (QZ y)] [.v true (QZ Q),.v true (QZ R)]:=by
 rcases Nat.lt_or_ge (Qg y).length 2 with h|h
 ·have hv:=Uz y
  have ot:=VB oy
  rcases XY y with hn|⟨t,z,hn,hz⟩
  ·rw [hn] at hv;simp only [QG] at hv;omega
  ·have ht:t=[]:=by
    rw [hn,List.length_append,List.length_cons,List.length_nil] at h
    exact List.length_eq_zero_iff.1 (by omega)
   rw [ht,List.nil_append] at hn
   have hz':=ot z (by rw [hn];simp)
   obtain ⟨k,hk,hk2⟩:=zg hz'
   subst hk
   have hk0:0<k:=by omega
   rw [hn] at hv
   have hvk:QG y=k:=by rw [←hv];simp [QG]
   obtain ⟨r1,r2,r3,_⟩:=FU hk0 ox
   obtain ⟨v1,v2⟩:=dvH_val hk0 ox
   rw [hvk]
   refine ⟨(dvH k x).1,[((dvH k x).2:Int)],r2,fun n hn=>?_,by omega,by simp,v1,by rw [←v2];simp [QG],?_⟩
   ·simp at hn;omega
   ·exact Divide1_ok x y k (by omega) ox hk0 hk2 (by omega) hn
 ·exact DivideN_ok x y hx hy ox oy h
theorem JH (x y:List Int) (hx:x.length≤1000) (hy:y.length≤1000) (ox:okW x) (oy:okW y) (h0:0<val y) :
 QU Tryz.prog 147 [.v (QZ x),.v (QZ y)] [.v true (QZ (QX (val x/val y))),.v true (QZ (QX (val x%val y)))]:=by
 have h1:=YD x (by omega) ox
 have h2:=YD y (by omega) oy
 have lx:=YU x
 have ly:=YU y
 obtain ⟨Q,R,oQ,oR,lQ,lR,vQ,vR,h3⟩:=Divide_ok (Zx x) (Zx y) (by omega) (by omega) (Z7 ox) (Z7 oy) (by rw [YJ oy];exact h0)
 have h4:=G4 Q (by omega) oQ
 have h5:=G4 R (by omega) oR
 rw [vQ,YJ ox,YJ oy] at h4
 rw [vR,YJ ox,YJ oy] at h5
 refine QU.of Tryz.func147 rfl rfl fun cx w0=>?_
 rw [show Tryz.f147.ntmps=20 from rfl]
 refine zs0 ?_
 refine zs2 (ρ:=fun d=>if d=10 then [.v true (QZ (Zx x))] else if d=12 then [.v true (QZ (Zx y))] else [.v true (QZ Q),.v true (QZ R)]) (o:=by repeat' first|exact h1|exact h2|exact h3|trivial|constructor) (k:=?_)
 refine zs2 (ρ:=fun d=>if d=17 then [.v true (QZ (QX (val x/val y)))] else [.v true (QZ (QX (val x%val y)))]) (o:=by repeat' first|exact h4|exact h5|trivial|constructor) (k:=?_)
 exact QQ.ret (QK.vs rfl (by exact ⟨⟨rfl,id⟩,⟨rfl,id⟩,trivial⟩) rfl)
theorem Xz {x:Int} (h:0≤x∧x<18446744073709551616) : ∃a:Nat,x=a∧a<18446744073709551616:=⟨x.toNat,by omega,by omega⟩
theorem yv (x y c:Nat) (hx:x<18446744073709551616) (hy:y<18446744073709551616) (hc:c≤1) : ∃s d:Nat,s+18446744073709551616*d=x+y+c∧s<18446744073709551616∧d≤1∧QU Tryz.prog 139 [.v (.int .u64 x),.v (.int .u64 y),.v (.int .u64 c)] [.v true (.int .u64 s),.v true (.int .u64 d)]:=by
 have h:=ED x y c (by omega) (by omega) (by omega) (by omega)
 refine ⟨(x+y+c)%18446744073709551616,(x+y+c)/18446744073709551616,by omega,by omega,by omega,?_⟩
 rw [show (((x+y+c)%18446744073709551616:Nat):Int)=((x:Int)+y+c)%18446744073709551616 from by omega,show (((x+y+c)/18446744073709551616:Nat):Int)=((x:Int)+y+c)/18446744073709551616 from by omega]
 exact h
theorem sub64N (x y c:Nat) (hx:x<18446744073709551616) (hy:y<18446744073709551616) (hc:c≤1) : ∃s d:Nat,s+y+c=x+18446744073709551616*d∧s<18446744073709551616∧d≤1∧QU Tryz.prog 252 [.v (.int .u64 x),.v (.int .u64 y),.v (.int .u64 c)] [.v true (.int .u64 s),.v true (.int .u64 d)]:=by
 have h:=sub64_ok x y c (by omega) (by omega) (by omega) (by omega) (by omega) (by omega)
 by_cases hlt:x<y+c
 ·refine ⟨x+18446744073709551616-y-c,1,by omega,by omega,by omega,?_⟩
  rw [show ((x+18446744073709551616-y-c:Nat):Int)=((x:Int)-y-c)%18446744073709551616 from by omega,show ((1:Nat):Int)=if (x:Int)<(y:Int)+c then 1 else 0 from by rw [if_pos (by omega)];rfl]
  exact h
 ·refine ⟨x-y-c,0,by omega,by omega,by omega,?_⟩
  rw [show ((x-y-c:Nat):Int)=((x:Int)-y-c)%18446744073709551616 from by omega,show ((0:Nat):Int)=if (x:Int)<(y:Int)+c then 1 else 0 from by rw [if_neg (by omega)];rfl]
  exact h
theorem mul64N (x y:Nat) (hx:x<18446744073709551616) (hy:y<18446744073709551616) : ∃h l:Nat,l+18446744073709551616*h=x*y∧l<18446744073709551616∧h≤18446744073709551614∧QU Tryz.prog 138 [.v (.int .u64 x),.v (.int .u64 y)] [.v true (.int .u64 h),.v true (.int .u64 l)]:=by
 have h:=mul64_ok x y hx hy
 have hle:x*y≤18446744073709551615*18446744073709551615:=Nat.mul_le_mul (by omega) (by omega)
 exact ⟨x*y/18446744073709551616,x*y%18446744073709551616,by omega,by omega,by omega,h⟩
theorem ZF {l:List Int} (j:Nat):val (l.take (j+1))=val (l.take j)+18446744073709551616^j*(l.getD j 0).toNat:=Ey j
theorem X8 {l:List Int} (h:okW l) (k:Nat):okW (l.drop k):=fun n hn=>h n (List.mem_of_mem_drop hn)
theorem J3 {l:List Int} {x:Nat} (h:okW l) (hx:x<18446744073709551616):okW (l++[(x:Int)]):=fun n hn=>by
 rcases List.mem_append.1 hn with hn|hn
 ·exact h n hn
 ·simp at hn;omega
theorem Jf (l:List Int) (x:Nat):val (l++[(x:Int)])=val l+18446744073709551616^l.length*x:=by
 rw [ZK];simp [val]
def cpW (A W:List Int) (j:Nat):List Int:=A.take j++(W++A.drop (j+W.length))
theorem cpW_nil (A:List Int) (j:Nat):cpW A [] j=A:=by
 rw [cpW,List.nil_append,List.length_nil,Nat.add_zero,List.take_append_drop]
theorem GD {A W:List Int} {j:Nat} (h:j+W.length≤A.length):(cpW A W j).length=A.length:=by
 rw [cpW,List.length_append,List.length_append,List.length_take,List.length_drop];omega
theorem CD {A W:List Int} {j i:Nat} (h:j+W.length≤A.length) (hi:W.length≤i):(cpW A W j)[j+i]?=A[j+i]?:=by
 have l1:(A.take j).length=j:=by rw [List.length_take];omega
 rw [cpW,List.getElem?_append_right (by omega),l1,List.getElem?_append_right (by omega),List.getElem?_drop]
 congr 1
 omega
theorem CE {A W:List Int} {j:Nat} (x:Int) (h:j+W.length<A.length):(cpW A W j).set (j+W.length) x=cpW A (W++[x]) j:=by
 have l1:(A.take j).length=j:=by rw [List.length_take];omega
 rw [cpW,List.set_append_right _ _ (by omega),l1,show j+W.length-j=W.length from by omega,List.set_append_right _ _ (Nat.le_refl _),Nat.sub_self,List.drop_eq_getElem_cons h,List.set_cons_zero,cpW,List.length_append,List.append_assoc]
 rfl
theorem cpW_cpW {A W Y:List Int} {j:Nat} (h:j+W.length≤A.length) (hl:Y.length=W.length):cpW (cpW A W j) Y j=cpW A Y j:=by
 have l1:(A.take j).length=j:=by rw [List.length_take];omega
 have e1:(cpW A W j).take j=A.take j:=by rw [cpW,List.take_left' l1]
 have e2:(cpW A W j).drop (j+Y.length)=A.drop (j+Y.length):=by
  rw [cpW,←List.append_assoc,List.drop_left' (by rw [List.length_append,l1,hl]),hl]
 rw [cpW,e1,e2,cpW]
theorem less_step {P a b q c bo h l l2 c2 s bo' u w z:Nat} (hi:u+P*(bo+c)=w+q*z) (hm:l+18446744073709551616*h=q*b) (ha:l2+18446744073709551616*c2=l+c+0) (hs:s+l2+bo=a+18446744073709551616*bo') :
 (u+P*a)+P*18446744073709551616*(bo'+(h+c2))=(w+P*s)+q*(z+P*b):=by
 have e:a+18446744073709551616*(bo'+(h+c2))=s+(bo+c)+q*b:=by rw [←hm];omega
 have e2:=congrArg (P * ·) e
 simp only [Nat.mul_add] at e2 hi ⊢
 have e3:q*(P*b)=P*(q*b):=Nat.mul_left_comm _ _ _
 have e4:P*18446744073709551616*bo'=P*(18446744073709551616*bo'):=Nat.mul_assoc _ _ _
 have e5:P*18446744073709551616*h=P*(18446744073709551616*h):=Nat.mul_assoc _ _ _
 have e6:P*18446744073709551616*c2=P*(18446744073709551616*c2):=Nat.mul_assoc _ _ _
 rw [e3,e4,e5,e6]
 omega
theorem back_step {P a b c s d u w z:Nat} (hi:w+P*c=u+z) (hs:s+18446744073709551616*d=a+b+c):(w+P*s)+P*18446744073709551616*d=(u+P*a)+(z+P*b):=by
 have e2:=congrArg (P * ·) hs
 simp only [Nat.mul_add] at e2
 rw [Nat.mul_assoc]
 omega
def VU (s':Nat) (A:List Int) (M:List (Nat×Blk)):List (Nat×Blk):=(s',.buf 91 1 true (A.map fun n=>.int .u64 n))::M
def lsE (s' j n q:Nat) (v:List Int):List (Nat×AV):=[(0,.own s' j (n+1)),(1,.v true (QZ v)),(2,.v true (.int .u64 q))]
def lsS (s' j n q:Nat) (v A:List Int) (M:List (Nat×Blk)) (Rt:List (AV×Value)) (F:List (Nat×Obj)) (e:List (Nat×AV)):St := {nt:=99,env:=e++lsE s' j n q v,mem:=VU s' A M,root:=Rt,fix:=F}
structure LsI (A v:List Int) (j q:Nat) (W:List Int) (c bo:Nat):Prop where
 le:W.length≤v.length
 ok:okW W
 c64:c<18446744073709551616
 bo1:bo≤1
 all:val ((A.drop j).take W.length)+18446744073709551616^W.length*(bo+c)=val W+q*val (v.take W.length)
theorem LsI.nil (A v:List Int) (j q:Nat):LsI A v j q [] 0 0:=⟨Nat.zero_le _,(fun n hn=>by cases hn),by omega,by omega,by simp [val]⟩
theorem LsI.step {A v W:List Int} {j q c bo k a b h l l2 c2 s bo':Nat} (hI:LsI A v j q W c bo) (hk:W.length=k) (hkv:k<v.length) (ga:A.getD (j+k) 0=(a:Int)) (gb:v.getD k 0=(b:Int))
 (hm:l+18446744073709551616*h=q*b) (h64:h≤18446744073709551614) (ha:l2+18446744073709551616*c2=l+c+0) (hc2:c2≤1) (hs:s+l2+bo=a+18446744073709551616*bo') (hs64:s<18446744073709551616) (hb1:bo'≤1) :
 LsI A v j q (W++[(s:Int)]) (h+c2) bo':=by
 have hl:(W++[(s:Int)]).length=k+1:=by rw [List.length_append,hk];rfl
 have hall:=hI.all
 rw [hk] at hall
 refine ⟨by rw [hl];exact hkv,J3 hI.ok hs64,by omega,hb1,?_⟩
 rw [hl,ZF,ZF,Kj,ga,gb,Int.toNat_natCast,Int.toNat_natCast,Jf,hk,Nat.pow_succ]
 exact less_step hall hm ha hs
set_option maxHeartbeats 4000000 in
theorem less_take {cx:Cx} {w0:World} {s' j n q:Nat} {v A:List Int} {M:List (Nat×Blk)} {Rt:List (AV×Value)} {F:List (Nat×Obj)} {N':St→Prop} (oA:okW A) (ov:okW v) (hv:v.length=n) (hn:n<10000) (hj:j+n+1≤A.length) (hA:A.length<10000) (hq:q<18446744073709551616) :
 QQ Tryz.prog none cx w0 (ZH Tryz.f207 [1,1,0]) (lsS s' j n q v A M Rt F [(6,.v true (.bool false)),(7,.v true (.int .u64 (0:Nat))),(8,.v true (.int .u64 (0:Nat)))])
  (NR (fun σ=>∃W c bo,LsI A v j q W c bo∧W.length=n ∧ ∀a w,Rel cx w0 σ a w→Rel cx w0 (lsS s' j n q v (cpW A W j) M Rt F [(7,.v true (.int .u64 (c:Nat))),(8,.v true (.int .u64 (bo:Nat)))]) a w) N'):=by
 unfold lsS lsE VU
 refine zs0 ?_
 refine QQ.loopB (fun x:List Int×Nat×Nat=>lsS s' j n q v (cpW A x.1 j) M Rt F [(19,.v true (.int .i64 (x.1.length:Nat))),(18,.v true (.int .i64 (n:Nat))),(17,.v true (QZ v)),(7,.v true (.int .u64 (x.2.1:Nat))),(8,.v true (.int .u64 (x.2.2:Nat)))])
  (fun x=>LsI A v j q x.1 x.2.1 x.2.2) (fun x=>n-x.1.length) ([],0,0) (LsI.nil A v j q) (fun a w h=>by
    have:=Rel.keepE [19,18,17,7,8,0,1,2] h
    rw [hv] at this
    simp only [cpW_nil]
    exact this) ?_
 rintro ⟨W,c,bo⟩ hI
 simp only at hI ⊢
 obtain ⟨k,hk⟩ : ∃k,k=W.length:=⟨_,rfl⟩
 have hle:=hI.le
 rw [←hk]
 by_cases hend:k=n
 ·have g : ¬(k:Int)<n:=by omega
  unfold lsS lsE VU
  refine zs1 g ?_
  refine QQ.seq (QQ.condF rfl (QQ.exit ⟨rfl,W,c,bo,hI,by omega,fun a w h=>?_⟩))
  exact Rel.keepE [7,8,0,1,2] h
 ·have g:(k:Int)<n:=by omega
  have g0:(0:Int)≤(k:Int):=by omega
  have gn:(k:Int)<(n:Int)+1:=by omega
  obtain ⟨a,ha,ha64⟩:=Xz (Qy oA (j+k))
  obtain ⟨b,hb,hb64⟩:=Xz (Qy ov k)
  have gv:v[k]?=some (b:Int):=by rw [QD (by omega),hb]
  have gA:(cpW A W j)[j+k]?=some (a:Int):=by rw [CD (by omega) (by omega),QD (by omega),ha]
  have lC:=GD (A:=A) (W:=W) (j:=j) (by omega)
  have c64:=hI.c64
  have bo1:=hI.bo1
  obtain ⟨h,l,hm,hl64,hh64,fM⟩:=mul64N q b hq hb64
  obtain ⟨l2,c2,ha2,hl2,hc2,fA⟩:=yv l c 0 hl64 c64 (by omega)
  obtain ⟨s,bo',hs,hs64,hb1,fS⟩:=sub64N a l2 bo ha64 hl2 bo1
  have hnext:=hI.step hk.symm (by omega) ha hb hm hh64 ha2 hc2 hs hs64 hb1
  have hset:=CE (A:=A) (W:=W) (j:=j) (s:Int) (by omega)
  rw [←hk] at hset
  have lN:(W++[(s:Int)]).length=k+1:=by rw [List.length_append,←hk];rfl
  have wc:IntKind.u64.wrap ((h:Int)+(c2:Int))=((h+c2:Nat):Int):=by rw [QE];omega
  have wk:IntKind.i64.wrap ((k:Int)+1)=((k+1:Nat):Int):=by rw [QV] <;> omega
  obtain ⟨C,hC⟩ : ∃C,C=cpW A W j:=⟨_,rfl⟩
  obtain ⟨C',hC'⟩ : ∃C',C'=cpW A (W++[(s:Int)]) j:=⟨_,rfl⟩
  rw [←hC] at gA lC hset ⊢
  rw [←hC'] at hset
  have ik:((j:Int)+(k:Int)).toNat=j+k:=by omega
  clear hI hm ha2 hs ha hb oA ov
  unfold lsS lsE VU
  refine zs1 g ?_
  refine QQ.seq (QQ.condT rfl (QQ.skip ?_))
  show QQ _ _ _ _ _ _ _
  refine QQ.next (fun σ=>∀x w,Rel cx w0 σ x w→Rel cx w0 (lsS s' j n q v C' M Rt F [(19,.v true (.int .i64 (k:Nat))),(18,.v true (.int .i64 (n:Nat))),(17,.v true (QZ v)),(7,.v true (.int .u64 (h+c2:Nat))),(8,.v true (.int .u64 (bo':Nat)))]) x w) ?_ ?_
  ·refine QQ.blockN ?_
   refine zs1 gv ?_
   refine zs2 (ρ:=fun _=>[.v true (.int .u64 h),.v true (.int .u64 l)]) (o:=by repeat' first|exact fM|trivial|constructor) (k:=?_)
   refine zs0 ?_
   refine zs2 (ρ:=fun _=>[.v true (.int .u64 l2),.v true (.int .u64 c2)]) (o:=by repeat' first|exact fA|trivial|constructor) (k:=?_)
   refine zs1 wc ?_
   refine zr3 (ρ:=fun _=>[.v true (.int .u64 s),.v true (.int .u64 bo')]) (an gA <| an gn <| an g0 <| an ik <| lC) (o:=by repeat' first|exact fS|trivial|constructor) (k:=?_)
   intro x w hr
   exact Rel.memEq (mem':=VU s' C' M) (Rel.keepE [19,18,17,7,8,0,1,2] hr) (fun p=>by unfold VU;rw [←hset,List.map_set];simp only [Qu];split <;> rfl)
  ·intro σ hσ
   refine QQ.from hσ ?_
   unfold lsS lsE VU
   refine zr1 wk ?_
   refine ⟨(W++[(s:Int)],h+c2,bo'),hnext,(show n-(W++[(s:Int)]).length<n-W.length by rw [lN];omega),fun x w h=>?_⟩
   have:=Rel.keepE [19,18,17,7,8,0,1,2] h
   simp only [lN,←hC']
   exact this
structure BkI (A v:List Int) (j:Nat) (Y:List Int) (c:Nat):Prop where
 le:Y.length≤v.length
 ok:okW Y
 c1:c≤1
 all:val Y+18446744073709551616^Y.length*c=val ((A.drop j).take Y.length)+val (v.take Y.length)
theorem BkI.nil (A v:List Int) (j:Nat):BkI A v j [] 0:=⟨Nat.zero_le _,(fun n hn=>by cases hn),by omega,by simp [val]⟩
theorem BkI.step {A v Y:List Int} {j c k a b s d:Nat} (hI:BkI A v j Y c) (hk:Y.length=k) (hkv:k<v.length) (ga:A.getD (j+k) 0=(a:Int)) (gb:v.getD k 0=(b:Int))
 (hs:s+18446744073709551616*d=a+b+c) (hs64:s<18446744073709551616) (hd1:d≤1):BkI A v j (Y++[(s:Int)]) d:=by
 have hl:(Y++[(s:Int)]).length=k+1:=by rw [List.length_append,hk];rfl
 have hall:=hI.all
 rw [hk] at hall
 refine ⟨by rw [hl];exact hkv,J3 hI.ok hs64,hd1,?_⟩
 rw [hl,ZF,ZF,Kj,ga,gb,Int.toNat_natCast,Int.toNat_natCast,Jf,hk,Nat.pow_succ]
 exact back_step hall hs
set_option maxHeartbeats 4000000 in
theorem less_back {cx:Cx} {w0:World} {s' j n q:Nat} {v A:List Int} {M:List (Nat×Blk)} {Rt:List (AV×Value)} {F:List (Nat×Obj)} {N':St→Prop} (oA:okW A) (ov:okW v) (hv:v.length=n) (hn:n<10000) (hj:j+n+1≤A.length) (hA:A.length<10000) :
 QQ Tryz.prog none cx w0 (ZH Tryz.f207 [1,1,1,1,1,1,0]) (lsS s' j n q v A M Rt F [(14,.v true (.int .u64 (0:Nat)))])
  (NR (fun σ=>∃Y c,BkI A v j Y c∧Y.length=n ∧ ∀a w,Rel cx w0 σ a w→Rel cx w0 (lsS s' j n q v (cpW A Y j) M Rt F [(14,.v true (.int .u64 (c:Nat)))]) a w) N'):=by
 unfold lsS lsE VU
 refine zs0 ?_
 refine QQ.loopB (fun x:List Int×Nat=>lsS s' j n q v (cpW A x.1 j) M Rt F [(72,.v true (.int .i64 (x.1.length:Nat))),(71,.v true (.int .i64 (n:Nat))),(70,.v true (QZ v)),(14,.v true (.int .u64 (x.2:Nat)))])
  (fun x=>BkI A v j x.1 x.2) (fun x=>n-x.1.length) ([],0) (BkI.nil A v j) (fun a w h=>by
    have:=Rel.keepE [72,71,70,14,0,1,2] h
    rw [hv] at this
    simp only [cpW_nil]
    exact this) ?_
 rintro ⟨W,c⟩ hI
 simp only at hI ⊢
 obtain ⟨k,hk⟩ : ∃k,k=W.length:=⟨_,rfl⟩
 have hle:=hI.le
 rw [←hk]
 by_cases hend:k=n
 ·have g : ¬(k:Int)<n:=by omega
  unfold lsS lsE VU
  refine zs1 g ?_
  refine QQ.seq (QQ.condF rfl (QQ.exit ⟨rfl,W,c,hI,by omega,fun a w h=>?_⟩))
  exact Rel.keepE [14,0,1,2] h
 ·have g:(k:Int)<n:=by omega
  have g0:(0:Int)≤(k:Int):=by omega
  have gn:(k:Int)<(n:Int)+1:=by omega
  obtain ⟨a,ha,ha64⟩:=Xz (Qy oA (j+k))
  obtain ⟨b,hb,hb64⟩:=Xz (Qy ov k)
  have gv:v[k]?=some (b:Int):=by rw [QD (by omega),hb]
  have gA:(cpW A W j)[j+k]?=some (a:Int):=by rw [CD (by omega) (by omega),QD (by omega),ha]
  have lC:=GD (A:=A) (W:=W) (j:=j) (by omega)
  have c1:=hI.c1
  obtain ⟨s,d,hs,hs64,hd1,fA⟩:=yv a b c ha64 hb64 c1
  have hnext:=hI.step hk.symm (by omega) ha hb hs hs64 hd1
  have hset:=CE (A:=A) (W:=W) (j:=j) (s:Int) (by omega)
  rw [←hk] at hset
  have lN:(W++[(s:Int)]).length=k+1:=by rw [List.length_append,←hk];rfl
  have wk:IntKind.i64.wrap ((k:Int)+1)=((k+1:Nat):Int):=by rw [QV] <;> omega
  obtain ⟨C,hC⟩ : ∃C,C=cpW A W j:=⟨_,rfl⟩
  obtain ⟨C',hC'⟩ : ∃C',C'=cpW A (W++[(s:Int)]) j:=⟨_,rfl⟩
  rw [←hC] at gA lC hset ⊢
  rw [←hC'] at hset
  have ik:((j:Int)+(k:Int)).toNat=j+k:=by omega
  clear hI hs ha hb oA ov
  unfold lsS lsE VU
  refine zs1 g ?_
  refine QQ.seq (QQ.condT rfl (QQ.skip ?_))
  show QQ _ _ _ _ _ _ _
  refine QQ.next (fun σ=>∀x w,Rel cx w0 σ x w→Rel cx w0 (lsS s' j n q v C' M Rt F [(72,.v true (.int .i64 (k:Nat))),(71,.v true (.int .i64 (n:Nat))),(70,.v true (QZ v)),(14,.v true (.int .u64 (d:Nat)))]) x w) ?_ ?_
  ·refine QQ.blockN ?_
   refine zs1 gv ?_
   refine zr3 (ρ:=fun _=>[.v true (.int .u64 s),.v true (.int .u64 d)]) (an gA <| an gn <| an g0 <| an ik <| lC) (o:=by repeat' first|exact fA|trivial|constructor) (k:=?_)
   intro x w hr
   exact Rel.memEq (mem':=VU s' C' M) (Rel.keepE [72,71,70,14,0,1,2] hr) (fun p=>by unfold VU;rw [←hset,List.map_set];simp only [Qu];split <;> rfl)
  ·intro σ hσ
   refine QQ.from hσ ?_
   unfold lsS lsE VU
   refine zr1 wk ?_
   refine ⟨(W++[(s:Int)],d),hnext,(show n-(W++[(s:Int)]).length<n-W.length by rw [lN];omega),fun x w h=>?_⟩
   have:=Rel.keepE [72,71,70,14,0,1,2] h
   simp only [lN,←hC']
   exact this
theorem win_val {A:List Int} {j n a:Nat} (ha:A.getD (j+n) 0=(a:Int)):val ((A.drop j).take (n+1))=val ((A.drop j).take n)+18446744073709551616^n*a:=by
 rw [ZF,Kj,ha,Int.toNat_natCast]
set_option maxHeartbeats 4000000 in
theorem less_ok {j n q:Nat} {v A R:List Int} (oA:okW A) (ov:okW v) (hv:v.length=n) (hn:n<5000) (hj:j+n+1≤A.length) (hA:A.length<10000) (hq:q<18446744073709551616) (oR:okW R) (lR:R.length=n+1)
 (bl:Bool) (hcase:(bl=false∧val R+q*val v=val ((A.drop j).take (n+1)))∨(bl=true∧val ((A.drop j).take (n+1))<q*val v∧val R+q*val v=val ((A.drop j).take (n+1))+val v)) :
 Ay Tryz.prog 207 (fun s=>.own s j (n+1)) (.buf 91 1 true (A.map fun n=>.int .u64 n)) (.buf 91 1 true ((cpW A R j).map fun n=>.int .u64 n)) [QZ v,.int .u64 q] [.bool bl]:=by
 refine Ay.of Tryz.func207 rfl rfl fun cx w0 s' M Rt F=>?_
 show QQ Tryz.prog none cx w0 _ {nt:=99,env:=[(0,.own s' j (n+1)),(1,.v true (QZ v)),(2,.v true (.int .u64 q))],mem:=(s',.buf 91 1 true (A.map fun n=>.int .u64 n))::M,root:=Rt,fix:=F} _
 refine zs0 ?_
 refine zs0 ?_
 refine QQ.next _ (QQ.from (σ':=lsS s' j n q v A M Rt F [(6,.v true (.bool false)),(7,.v true (.int .u64 (0:Nat))),(8,.v true (.int .u64 (0:Nat)))]) (fun a w h=>Rel.keepE [6,7,8,0,1,2] h) (less_take oA ov hv (by omega) hj hA hq)) ?_
 rintro σ ⟨W,c,bo,hI,lW,hσ⟩
 refine QQ.from hσ ?_
 clear hσ
 obtain ⟨a,ha,ha64⟩:=Xz (Qy oA (j+n))
 have gA:(cpW A W j)[j+n]?=some (a:Int):=by rw [CD (by omega) (by omega),QD (by omega),ha]
 have lC:=GD (A:=A) (W:=W) (j:=j) (by omega)
 obtain ⟨s,bo',hs,hs64,hb1,fS⟩:=sub64N a c bo ha64 hI.c64 hI.bo1
 have hset:=CE (A:=A) (W:=W) (j:=j) (s:Int) (by omega)
 rw [lW] at hset
 have hwv:=win_val ha
 have hall:=hI.all
 rw [lW] at hall
 have hvv:v.take n=v:=List.take_of_length_le (by omega)
 rw [hvv] at hall
 have oW':=J3 hI.ok hs64
 have vW':=Jf W s
 rw [lW] at vW'
 have lW':(W++[(s:Int)]).length=n+1:=by rw [List.length_append,lW];rfl
 have key:val ((A.drop j).take (n+1))+18446744073709551616^n*(18446744073709551616*bo')=val (W++[(s:Int)])+q*val v:=by
  rw [hwv,vW']
  have e:=congrArg (18446744073709551616^n * ·) hs
  simp only [Nat.mul_add] at e hall ⊢
  omega
 have bW':=ZY oW'
 rw [lW',Nat.pow_succ] at bW'
 obtain ⟨C,hC⟩ : ∃C,C=cpW A W j:=⟨_,rfl⟩
 obtain ⟨A',hA'⟩ : ∃A',A'=cpW A (W++[(s:Int)]) j:=⟨_,rfl⟩
 rw [←hC] at gA lC hset ⊢
 rw [←hA'] at hset
 have ik:((j:Int)+(n:Int)).toNat=j+n:=by omega
 have g0:(0:Int)≤(n:Int):=by omega
 have gn:(n:Int)<(n:Int)+1:=by omega
 unfold lsS lsE VU
 refine zs3 (ρ:=fun _=>[.v true (.int .u64 s),.v true (.int .u64 bo')]) (an hv <| an gA <| an gn <| an g0 <| an ik <| lC) (o:=by repeat' first|exact fS|trivial|constructor) (k:=?_)
 refine QQ.from (σ':=lsS s' j n q v A' M Rt F [(8,.v true (.int .u64 (bo':Nat)))]) (fun x w hr=>Rel.memEq (mem':=VU s' A' M) (Rel.keepE [8,0,1,2] hr) (fun p=>by unfold VU;rw [←hset,List.map_set];simp only [Qu];split <;> rfl)) ?_
 rcases hcase with ⟨rfl,hc⟩|⟨rfl,hc1,hc2⟩
 ·have hb0:bo'=0:=by
   rcases Nat.eq_zero_or_pos bo' with h|h
   ·exact h
   ·exfalso
    have:bo'=1:=by omega
    rw [this,Nat.mul_one] at key
    omega
  subst hb0
  simp only [Nat.mul_zero,Nat.add_zero] at key
  have hR:W++[(s:Int)]=R:=Ck oW' oR (by rw [lW',lR]) (by omega)
  rw [hR] at hA'
  unfold lsS lsE VU
  refine QQ.seq ?_
  refine zs0 ?_
  refine QQ.condT rfl ?_
  refine zs0 ?_
  exact QQ.ret ⟨.inl rfl,rfl,rfl,rfl,fun p=>by rw [hA'],rfl⟩
 ·have hb1':bo'=1:=by
   rcases Nat.eq_zero_or_pos bo' with h|h
   ·exfalso
    simp only [h,Nat.mul_zero,Nat.add_zero] at key
    omega
   ·omega
  subst hb1'
  rw [Nat.mul_one] at key
  have oA':okW A':=by
   rw [hA',cpW]
   intro x hx
   rcases List.mem_append.1 hx with hx|hx
   ·exact Y5 oA j x hx
   ·rcases List.mem_append.1 hx with hx|hx
    ·exact oW' x hx
    ·exact X8 oA _ x hx
  have lA':A'.length=A.length:=by rw [hA',GD (by omega)]
  have dA':(A'.drop j).take (n+1)=W++[(s:Int)]:=by
   have l1:(A.take j).length=j:=by rw [List.length_take];omega
   rw [hA',cpW,List.drop_left' l1,List.take_left' lW']
  unfold lsS lsE VU
  refine QQ.seq ?_
  refine zs0 ?_
  refine QQ.condF rfl (QQ.skip ?_)
  refine zs0 ?_
  refine QQ.next _ (QQ.from (σ':=lsS s' j n q v A' M Rt F [(14,.v true (.int .u64 (0:Nat)))]) (fun a w h=>Rel.keepE [14,0,1,2] h) (less_back oA' ov hv (by omega) (by omega) (by omega))) ?_
  rintro σ ⟨Y,d,hB,lY,hσ⟩
  refine QQ.from hσ ?_
  clear hσ
  obtain ⟨z,hz,hz64⟩:=Xz (Qy oA' (j+n))
  have gZ:(cpW A' Y j)[j+n]?=some (z:Int):=by rw [CD (by omega) (by omega),QD (by omega),hz]
  have lC2:=GD (A:=A') (W:=Y) (j:=j) (by omega)
  have hset2:=CE (A:=A') (W:=Y) (j:=j) (((z+d)%18446744073709551616:Nat):Int) (by omega)
  rw [lY] at hset2
  have hbal:=hB.all
  rw [lY,hvv] at hbal
  have hwz:=win_val hz
  rw [dA'] at hwz
  have d1:=hB.c1
  have bY:=ZY hB.ok
  rw [lY] at bY
  have bv:=ZY ov
  rw [hv] at bv
  have top:z+d=18446744073709551616:=by
   obtain ⟨P,hP⟩ : ∃P,P=18446744073709551616^n:=⟨_,rfl⟩
   rw [←hP] at hbal hwz bY bv key bW'
   have e:val Y+P*(z+d)=val R+P*18446744073709551616:=by
    rw [Nat.mul_add];omega
   rcases Nat.lt_or_ge (z+d) 18446744073709551616 with h|h
   ·exfalso
    have:=Nat.mul_le_mul_left P (show z+d+1≤18446744073709551616 by omega)
    rw [Nat.mul_add P (z+d) 1,Nat.mul_one] at this
    omega
   ·omega
  have hR:Y++[(((z+d)%18446744073709551616:Nat):Int)]=R:=by
   rw [top]
   refine Ck (J3 hB.ok (by decide)) oR (by rw [List.length_append,lY,lR];rfl) ?_
   rw [Jf,lY,Nat.mod_self,Nat.mul_zero,Nat.add_zero]
   obtain ⟨P,hP⟩ : ∃P,P=18446744073709551616^n:=⟨_,rfl⟩
   rw [←hP] at hbal hwz key
   have e:val Y+P*(z+d)=val R+P*18446744073709551616:=by
    rw [Nat.mul_add];omega
   rw [top] at e
   omega
  have hcp:cpW A' R j=cpW A R j:=by rw [hA'];exact cpW_cpW (by omega) (by rw [lR,lW'])
  rw [hR,hcp] at hset2
  have wz:IntKind.u64.wrap ((z:Int)+(d:Int))=(((z+d)%18446744073709551616:Nat):Int):=by rw [addN,A4]
  obtain ⟨C2,hC2⟩ : ∃C2,C2=cpW A' Y j:=⟨_,rfl⟩
  rw [←hC2] at hset2
  rw [←hC2] at gZ lC2 ⊢
  unfold lsS lsE VU
  refine zs1 (an hv <| an gZ <| an gn <| an g0 <| an ik <| an lC2 <| wz) ?_
  refine zs0 ?_
  exact QQ.ret ⟨.inl rfl,rfl,rfl,rfl,fun p=>by rw [←hset2,List.map_set];simp only [Qu];split <;> rfl,rfl⟩
def gsN (a b c v w:Nat):Nat:=min 18446744073709551615 ((a*18446744073709551616*18446744073709551616+b*18446744073709551616+c)/(v*18446744073709551616+w))
structure GsI (a b c v w q r:Nat) (over:Bool):Prop where
 q64:q≤18446744073709551615
 r64:r<18446744073709551616
 ge:gsN a b c v w≤q
 rest:if over=true then a*18446744073709551616+b≥q*v+18446744073709551616 else a*18446744073709551616+b=q*v+r
theorem Bj {a b c v w q r:Nat} (h:a*18446744073709551616+b=q*v+r):q*(v*18446744073709551616+w)≤a*18446744073709551616*18446744073709551616+b*18446744073709551616+c↔q*w≤r*18446744073709551616+c:=by
 have e:=congrArg (· * 18446744073709551616) h
 simp only [Nat.add_mul] at e
 rw [Nat.mul_add,←Nat.mul_assoc]
 omega
theorem GsI.fin {a b c v w q r:Nat} {over:Bool} (h:GsI a b c v w q r over) (hw:w<18446744073709551616) (hv:0<v) (hf:over=true∨q*w≤r*18446744073709551616+c):q=gsN a b c v w:=by
 have hle:q*(v*18446744073709551616+w)≤a*18446744073709551616*18446744073709551616+b*18446744073709551616+c:=by
  have hr:=h.rest
  cases over with
  | true =>
    rw [if_pos rfl] at hr
    obtain ⟨r',hr'⟩ : ∃r',a*18446744073709551616+b=q*v+r':=⟨a*18446744073709551616+b-q*v,by omega⟩
    refine (Bj hr').2 ?_
    have h1:q*w≤18446744073709551615*18446744073709551615:=Nat.mul_le_mul h.q64 (by omega)
    have h2:18446744073709551616≤r':=by omega
    omega
  | false =>
    rw [if_neg (by simp)] at hr
    refine (Bj hr).2 ?_
    rcases hf with hf|hf
    ·cases hf
    ·exact hf
 have h2:=(Nat.le_div_iff_mul_le (by omega:0<v*18446744073709551616+w)).2 hle
 refine Nat.le_antisymm (Nat.le_min.2 ⟨h.q64,h2⟩) h.ge
theorem GsI.next {a b c v w q r r' d:Nat} (h:GsI a b c v w q r false) (hv:0<v) (hf : ¬q*w≤r*18446744073709551616+c) (hs:r'+18446744073709551616*d=r+v+0) (hr':r'<18446744073709551616) (hd:d≤1):0<q∧GsI a b c v w (q-1) r' (decide (d=1)):=by
 have hr:=h.rest
 rw [if_neg (by simp)] at hr
 have hq0:0<q:=by
  rcases Nat.eq_zero_or_pos q with h0|h0
  ·rw [h0,Nat.zero_mul] at hf;omega
  ·exact h0
 have q64:=h.q64
 have hge:gsN a b c v w≤q-1:=by
  have h1 : ¬q*(v*18446744073709551616+w)≤a*18446744073709551616*18446744073709551616+b*18446744073709551616+c:=fun hc=>hf ((Bj hr).1 hc)
  have h2:(a*18446744073709551616*18446744073709551616+b*18446744073709551616+c)/(v*18446744073709551616+w)<q:=(Nat.div_lt_iff_lt_mul (by omega)).2 (by omega)
  exact Nat.le_trans (Nat.min_le_right _ _) (by omega)
 obtain ⟨p,hp⟩ : ∃p,q=p+1:=⟨q-1,by omega⟩
 subst hp
 rw [Nat.add_mul,Nat.one_mul] at hr
 refine ⟨hq0,by omega,hr',hge,?_⟩
 rw [Nat.add_sub_cancel]
 by_cases h1:d=1
 ·rw [decide_eq_true h1,if_pos rfl]
  omega
 ·rw [decide_eq_false h1,if_neg (by simp)]
  omega
theorem gs_start {a b c v w q:Nat} (hv:0<v) (hq:q=18446744073709551615∨q=(a*18446744073709551616+b)/v) (hc:c<18446744073709551616):gsN a b c v w≤q:=by
 rcases hq with rfl|rfl
 ·exact Nat.min_le_left _ _
 ·refine Nat.le_trans (Nat.min_le_right _ _) ((Nat.le_div_iff_mul_le hv).2 ?_)
  obtain ⟨t,ht⟩ : ∃t,t=(a*18446744073709551616*18446744073709551616+b*18446744073709551616+c)/(v*18446744073709551616+w):=⟨_,rfl⟩
  have h1:=Nat.div_mul_le_self (a*18446744073709551616*18446744073709551616+b*18446744073709551616+c) (v*18446744073709551616+w)
  rw [←ht] at h1 ⊢
  rw [Nat.mul_add,←Nat.mul_assoc] at h1
  have h2:t*v*18446744073709551616<(a*18446744073709551616+b+1)*18446744073709551616:=by
   rw [Nat.add_mul,Nat.add_mul];omega
  have:=Nat.lt_of_mul_lt_mul_right h2
  omega
set_option maxHeartbeats 4000000 in
theorem guess_ok (a b c v w:Nat) (ha:a≤v) (hb:b<18446744073709551616) (hc:c<18446744073709551616) (hv:v<18446744073709551616) (hv0:0<v) (hw:w<18446744073709551616) :
 QU Tryz.prog 206 [.v (.int .u64 a),.v (.int .u64 b),.v (.int .u64 c),.v (.int .u64 v),.v (.int .u64 w)] [.v true (.int .u64 (gsN a b c v w:Nat))]:=by
 refine QU.of Tryz.func206 rfl rfl fun cx w0=>?_
 rw [show Tryz.f206.ntmps=71 from rfl]
 have g1 : ¬(v:Int)<a:=by omega
 refine zs0 ?_
 refine QQ.seq ?_
 refine zs1 g1 ?_
 refine QQ.condF rfl (QQ.skip ?_)
 refine zs0 ?_
 refine zs0 ?_
 refine QQ.next (fun σ=>∃q r over,GsI a b c v w q r over ∧ ∀x w',Rel cx w0 σ x w'→Rel cx w0 {nt:=71,env:=[(11,.v true (.int .u64 (q:Nat))),(12,.v true (.int .u64 (r:Nat))),(13,.v true (.bool over)),(2,.v true (.int .u64 (c:Nat))),(3,.v true (.int .u64 (v:Nat))),(4,.v true (.int .u64 (w:Nat)))],mem:=[]} x w') ?_ ?_
 ·by_cases he:a=v
  ·subst he
   obtain ⟨r,d,hs,hr,hd,fA⟩:=yv b a 0 hb hv (by omega)
   refine QQ.step (Px:=px) (T:=TT) (ρ:=fun _=>[]) TTe (by simp (maxSteps:=100000) (disch:=omega) only [go_sem,V.isAgg,V.flat,↓reduceIte,Nat.reduceAdd,Nat.reduceSub,Nat.reduceLT,Nat.reduceEqDiff,reduceCtorEq,Nat.reduceLeDiff,Nat.reduceBEq,Nat.reduceMul,Int.reduceToNat,eq_self];rfl) (by repeat' first|exact trivial|constructor) ?_
   refine QQ.condT rfl ?_
   refine zs0 ?_
   refine zs0 ?_
   refine zs2 (ρ:=fun _=>[.v true (.int .u64 r),.v true (.int .u64 d)]) (o:=by repeat' first|exact fA|trivial|constructor) (k:=?_)
   have hI:GsI a b c a w 18446744073709551615 r (decide (d=1)):=by
    refine ⟨Nat.le_refl _,hr,gs_start hv0 (.inl rfl) hc,?_⟩
    by_cases h1:d=1
    ·rw [decide_eq_true h1,if_pos rfl];omega
    ·rw [decide_eq_false h1,if_neg (by simp)];omega
   by_cases h1:d=1
   ·rw [decide_eq_true h1] at hI
    subst h1
    refine zr0 ?_
    exact ⟨_,_,_,hI,fun x w' h=>Rel.keep [11,12,13,2,3,4] [] h⟩
   ·rw [decide_eq_false h1] at hI
    have g2 : ¬(d:Int)=1:=by omega
    refine zr1 g2 ?_
    exact ⟨_,_,_,hI,fun x w' h=>Rel.keep [11,12,13,2,3,4] [] h⟩
  ·have g2 : ¬(a:Int)=v:=by omega
   have fD:=div64_ok a b v hb hv (by omega)
   obtain ⟨q,hq⟩ : ∃q,q=(a*18446744073709551616+b)/v:=⟨_,rfl⟩
   obtain ⟨r,hr⟩ : ∃r,r=(a*18446744073709551616+b)%v:=⟨_,rfl⟩
   rw [←hq,←hr] at fD
   have hI:GsI a b c v w q r false:=by
    have h1:=Nat.div_add_mod (a*18446744073709551616+b) v
    rw [←hq,←hr,Nat.mul_comm] at h1
    have h2:=Nat.mod_lt (a*18446744073709551616+b) hv0
    rw [←hr] at h2
    refine ⟨?_,by omega,gs_start hv0 (.inr hq) hc,by rw [if_neg (by simp)];exact h1.symm⟩
    have:q<18446744073709551616:=by
     rw [hq]
     refine (Nat.div_lt_iff_lt_mul hv0).2 ?_
     have:(a+1)*18446744073709551616≤v*18446744073709551616:=Nat.mul_le_mul_right _ (by omega)
     rw [Nat.mul_comm 18446744073709551616 v]
     omega
    omega
   refine zs1 g2 ?_
   refine QQ.condF rfl ?_
   refine zr2 (ρ:=fun _=>[.v true (.int .u64 q),.v true (.int .u64 r)]) (o:=by repeat' first|exact fD|trivial|constructor) (k:=?_)
   exact ⟨_,_,_,hI,fun x w' h=>Rel.keep [11,12,13,2,3,4] [] h⟩
 rintro σ ⟨q,r,over,hI,hσ⟩
 refine QQ.from hσ ?_
 clear hσ g1 ha hb
 refine QQ.next (fun σ=>∀x w',Rel cx w0 σ x w'→Rel cx w0 {nt:=71,env:=[(11,.v true (.int .u64 (gsN a b c v w:Nat)))],mem:=[]} x w') ?_ ?_
 ·refine QQ.loopB (fun s:Nat×Nat×Bool => {nt:=71,env:=[(11,.v true (.int .u64 (s.1:Nat))),(12,.v true (.int .u64 (s.2.1:Nat))),(13,.v true (.bool s.2.2)),(2,.v true (.int .u64 (c:Nat))),(3,.v true (.int .u64 (v:Nat))),(4,.v true (.int .u64 (w:Nat)))],mem:=[]})
   (fun s=>GsI a b c v w s.1 s.2.1 s.2.2) (fun s=>s.1) (q,r,over) hI (fun x w' h=>h) ?_
  clear hI q r over
  rintro ⟨q,r,over⟩ hI
  simp only at hI ⊢
  cases over with
  | true =>
    refine QQ.seq ?_
    refine zs0 ?_
    refine QQ.condF rfl (QQ.exit ⟨rfl,fun x w' h=>?_⟩)
    rw [←hI.fin hw hv0 (.inl rfl)]
    exact Rel.keep [11] [] h
  | false =>
    have q64:=hI.q64
    have r64:=hI.r64
    obtain ⟨h,l,hm,hl,hh,fM⟩:=mul64N q w (by omega) hw
    refine QQ.seq ?_
    refine zs0 ?_
    refine QQ.condT rfl (QQ.skip ?_)
    refine QQ.block ?_
    refine zs2 (ρ:=fun _=>[.v true (.int .u64 h),.v true (.int .u64 l)]) (o:=by repeat' first|exact fM|trivial|constructor) (k:=?_)
    by_cases hf:q*w≤r*18446744073709551616+c
    ·have hend:=hI.fin hw hv0 (.inr hf)
     refine QQ.seq ?_
     rcases Nat.lt_or_ge h r with h1|h1
     ·have g1:(h:Int)<r:=by omega
      refine zs1 g1 ?_
      refine QQ.condT rfl (QQ.exit ⟨rfl,fun x w' h=>?_⟩)
      rw [←hend]
      exact Rel.keep [11] [] h
     ·have g1 : ¬(h:Int)<r:=by omega
      have g2:(h:Int)=r:=by omega
      have g3:(l:Int)≤c:=by omega
      refine zs1 (an g1 <| an g2 <| g3) ?_
      refine QQ.condT rfl (QQ.exit ⟨rfl,fun x w' h=>?_⟩)
      rw [←hend]
      exact Rel.keep [11] [] h
    ·obtain ⟨r',d,hs,hr',hd,fA⟩:=yv r v 0 r64 hv (by omega)
     obtain ⟨hq0,hnext⟩:=hI.next hv0 hf hs hr' hd
     have wq:IntKind.u64.wrap ((q:Int)-1)=((q-1:Nat):Int):=by rw [QE];omega
     have g1 : ¬(h:Int)<r:=by omega
     refine QQ.next (fun σ=>∀x w',Rel cx w0 σ x w'→Rel cx w0 {nt:=71,env:=[(11,.v true (.int .u64 (q:Nat))),(12,.v true (.int .u64 (r:Nat))),(2,.v true (.int .u64 (c:Nat))),(3,.v true (.int .u64 (v:Nat))),(4,.v true (.int .u64 (w:Nat)))],mem:=[]} x w') ?_ ?_
     ·by_cases h2:h=r
      ·have g2:(h:Int)=r:=by omega
       have g3 : ¬(l:Int)≤c:=by omega
       refine zs1 (an g1 <| an g2 <| g3) ?_
       exact QQ.condF rfl (QQ.skip fun x w' h=>Rel.keep [11,12,2,3,4] [] h)
      ·have g2 : ¬(h:Int)=r:=by omega
       refine zs1 (an g1 <| g2) ?_
       exact QQ.condF rfl (QQ.skip fun x w' h=>Rel.keep [11,12,2,3,4] [] h)
     ·intro σ hσ
      refine QQ.from hσ ?_
      clear hσ
      refine zs1 wq ?_
      refine zs0 ?_
      refine zs2 (ρ:=fun _=>[.v true (.int .u64 r'),.v true (.int .u64 d)]) (o:=by repeat' first|exact fA|trivial|constructor) (k:=?_)
      by_cases h1:d=1
      ·rw [decide_eq_true h1] at hnext
       subst h1
       refine zr0 ?_
       exact ⟨(q-1,r',true),hnext,(show q-1<q by omega),fun x w' h=>Rel.keep [11,12,13,2,3,4] [] h⟩
      ·rw [decide_eq_false h1] at hnext
       have g4 : ¬(d:Int)=1:=by omega
       refine zr1 g4 ?_
       exact ⟨(q-1,r',false),hnext,(show q-1<q by omega),fun x w' h=>Rel.keep [11,12,13,2,3,4] [] h⟩
 ·intro σ hσ
  refine QQ.from hσ ?_
  refine zs0 ?_
  exact QQ.ret (QK.vs rfl (by exact ⟨⟨rfl,id⟩,trivial⟩) rfl)
theorem CX {l:List Int} (o:okW l) (h:0<(Qg l).length):18446744073709551616^((Qg l).length-1)≤val l:=by
 have hv:=ZD l
 rcases XY l with hn|⟨t,z,hn,hz⟩
 ·rw [hn] at h;cases h
 ·have hz':=Z3 o z (by rw [hn];simp)
  rw [hn,ZK] at hv
  have h1:1≤val [z]:=by simp only [val];omega
  have:=Nat.mul_le_mul_left (18446744073709551616^t.length) h1
  rw [hn,List.length_append,List.length_cons,List.length_nil,Nat.zero_add,Nat.add_sub_cancel]
  omega
theorem H3 {x y:List Int} (ox:okW x) (oy:okW y) (h:(Qg x).length<(Qg y).length):val x<val y:=by
 have h1:=ZY (Z3 ox)
 rw [ZD] at h1
 have h2:=CX oy (by omega)
 have h3:18446744073709551616^(Qg x).length≤18446744073709551616^((Qg y).length-1):=Nat.pow_le_pow_right (by decide) (by omega)
 omega
set_option maxHeartbeats 2000000 in
theorem K6 (x y:List Int) (hx:x.length<100000) (hy:y.length<100000) (ox:okW x) (oy:okW y):QU Tryz.prog 101 [.v (QZ x),.v (QZ y)] [.v true (.int .i64 (Q7 (val x) (val y)))]:=by
 have h1:=Yv x (by omega)
 have h2:=Yv y (by omega)
 have lx:=ZE x
 have ly:=ZE y
 have l1:=H3 ox oy
 have l2:=H3 oy ox
 have o1:=Z3 ox
 have o2:=Z3 oy
 have hD:=cmpD_W (x:=Qg x) (y:=Qg y) o1 o2 (M:=(Qg x).length) (Nat.le_refl _)
 rw [ZD,ZD] at hD
 obtain ⟨X,hX⟩ : ∃X,X=Qg x:=⟨_,rfl⟩
 obtain ⟨Y,hY⟩ : ∃Y,Y=Qg y:=⟨_,rfl⟩
 rw [←hX] at h1 lx l1 l2 hD o1
 rw [←hY] at h2 ly l1 l2 hD o2
 clear hX hY ox oy
 obtain ⟨R,hR⟩ : ∃R,R=Q7 (val x) (val y):=⟨_,rfl⟩
 refine QU.of Tryz.func101 rfl rfl fun cx w0=>?_
 rw [show Tryz.f101.ntmps=45 from rfl]
 refine zs0 ?_
 refine zs2 (ρ:=fun d=>if d=7 then [.v false (QZ X)] else [.v false (QZ Y)]) (o:=by repeat' first|exact h1|exact h2|trivial|constructor) (k:=?_)
 refine QQ.from (σ' := {nt:=45,env:=[(0,.v false (QZ X)),(1,.v false (QZ Y)),(4,.v true (.int .i64 0))],mem:=[]}) (fun a w h=>Rel.keep [0,1,4] [] h) ?_
 refine QQ.seq ?_
 by_cases he:X.length=Y.length
 ·have g:(X.length:Int)=Y.length:=by omega
  refine zs1 g ?_
  refine QQ.condF rfl (QQ.skip ?_)
  refine QQ.from (σ' := {nt:=45,env:=[(0,.v false (QZ X)),(1,.v false (QZ Y)),(4,.v true (.int .i64 0))],mem:=[]}) (fun a w h=>Rel.keep [0,1,4] [] h) ?_
  have hD:=hD (by omega)
  rw [←hR] at hD ⊢
  obtain ⟨C,hC⟩ : ∃C,C=AK (fun i=>X.getD i 0) (fun i=>Y.getD i 0):=⟨_,rfl⟩
  have hs : ∀j,C (j+1)=if X.getD j 0<Y.getD j 0 then -1 else if Y.getD j 0<X.getD j 0 then 1 else C j:=fun j=>by rw [hC,AK]
  have h0:C 0=0:=by rw [hC,AK]
  rw [←hC] at hD
  clear hC l1 l2 h1 h2 o1 o2
  refine QQ.next (fun σ=>R=0 ∧ ∀a w,Rel cx w0 σ a w→Rel cx w0 {nt:=45,env:=[],mem:=[]} a w) ?_ ?_
  ·refine zs0 ?_
   refine QQ.loopB (fun j:Nat => {nt:=45,env:=[(5,.v true (.int .i64 ((j:Int)-1))),(0,.v false (QZ X)),(1,.v false (QZ Y))],mem:=[]}) (fun j=>j≤X.length∧R=C j) id X.length ⟨Nat.le_refl _,hD.symm⟩ (fun a w h=>Rel.keep [5,0,1] [] h) ?_
   rintro j ⟨hj,hCj⟩
   rcases j with _|j
   ·refine QQ.seq ?_
    refine zs0 ?_
    exact QQ.condF rfl (QQ.exit ⟨rfl,by rw [hCj,h0],fun x w hr=>Rel.keep [] [] hr⟩)
   ·have hsj:=hs j
    rw [←hCj] at hsj
    have gX:=QD (l:=X) (i:=j) (by omega)
    have gY:=QD (l:=Y) (i:=j) (by omega)
    have e9:(((j+1:Nat):Int)-1)=(j:Int):=by omega
    have g9:(0:Int)≤(j:Int):=by omega
    have gl:(j:Int)<Y.length:=by omega
    have gl2:(j:Int)<X.length:=by omega
    obtain ⟨p,hp⟩ : ∃p,p=X.getD j 0:=⟨_,rfl⟩
    obtain ⟨q,hq⟩ : ∃q,q=Y.getD j 0:=⟨_,rfl⟩
    rw [←hp] at gX hsj
    rw [←hq] at gY hsj
    rw [e9]
    refine QQ.seq ?_
    refine zs1 g9 ?_
    refine QQ.condT rfl (QQ.skip ?_)
    refine QQ.next (fun σ=>R=C j ∧ ∀a w,Rel cx w0 σ a w→Rel cx w0 {nt:=45,env:=[(5,.v true (.int .i64 (j:Int))),(0,.v false (QZ X)),(1,.v false (QZ Y))],mem:=[]} a w) ?_ ?_
    ·refine QQ.blockN ?_
     by_cases hpq:p=q
     ·rw [if_neg (by omega),if_neg (by omega)] at hsj
      refine zd1 [] (an gX <| an gY <| an gl <| an gl2 <| hpq) ?_
      exact QQ.condF rfl (QQ.skip ⟨hsj,fun a w h=>Rel.keep [5,0,1] [] h⟩)
     ·refine zd1 [] (an gX <| an gY <| an gl <| an gl2 <| hpq) ?_
      refine QQ.condT rfl ?_
      refine QQ.seq ?_
      by_cases hlt:p<q
      ·rw [if_pos hlt] at hsj
       rw [hsj]
       refine zd1 [] (an gX <| an gY <| an gl <| an gl2 <| hlt) ?_
       refine QQ.condT rfl ?_
       refine zs0 ?_
       exact QQ.ret (QK.vs rfl (by exact ⟨⟨rfl,id⟩,trivial⟩) rfl)
      ·rw [if_neg hlt,if_pos (by omega)] at hsj
       rw [hsj]
       refine zd1 [] (an gX <| an gY <| an gl <| an gl2 <| hlt) ?_
       refine QQ.condF rfl (QQ.skip ?_)
       refine zs0 ?_
       exact QQ.ret (QK.vs rfl (by exact ⟨⟨rfl,id⟩,trivial⟩) rfl)
    ·rintro σ ⟨hC2,hσ⟩
     refine QQ.from hσ ?_
     refine zr0 ?_
     exact ⟨j,⟨by show j≤X.length;omega,hC2⟩,(show j<j+1 by omega),fun a w h=>Rel.keep [5,0,1] [] h⟩
  ·rintro σ ⟨hC0,hσ⟩
   rw [hC0]
   refine QQ.from hσ ?_
   refine zs0 ?_
   exact QQ.ret (QK.vs rfl (by exact ⟨⟨rfl,id⟩,trivial⟩) rfl)
 ·have g : ¬(X.length:Int)=Y.length:=by omega
  refine zs1 g ?_
  refine QQ.condT rfl ?_
  refine QQ.seq ?_
  by_cases hlt:X.length<Y.length
  ·have g2:(X.length:Int)<Y.length:=by omega
   have:=l1 hlt
   rw [Q7,if_pos this]
   refine zs1 g2 ?_
   refine QQ.condT rfl ?_
   refine zs0 ?_
   exact QQ.ret (QK.vs rfl (by exact ⟨⟨rfl,id⟩,trivial⟩) rfl)
  ·have g2 : ¬(X.length:Int)<Y.length:=by omega
   have:=l2 (by omega)
   rw [Q7,if_neg (by omega),if_pos this]
   refine zs1 g2 ?_
   refine QQ.condF rfl (QQ.skip ?_)
   refine zs0 ?_
   exact QQ.ret (QK.vs rfl (by exact ⟨⟨rfl,id⟩,trivial⟩) rfl)
def dvW (k:Nat):List Int→List Int×Nat
 | []=>([],0)
 | a::r=>((((dvW k r).2*18446744073709551616+a.toNat)/k:Nat)::(dvW k r).1,((dvW k r).2*18446744073709551616+a.toNat)%k)
theorem yF {k:Nat} (hk:0<k) : ∀ {x:List Int},okW x→(dvW k x).2<k∧okW (dvW k x).1∧(dvW k x).1.length=x.length∧val (dvW k x).1*k+(dvW k x).2=val x
 | [],_=>⟨hk,(fun n hn=>by cases hn),rfl,by simp [dvW,val]⟩
 | a::r,o=>by
   obtain ⟨h1,h2,h3,h4⟩:=yF hk (x:=r) fun n hn=>o n (by simp [hn])
   have ha:=o a (by simp)
   obtain ⟨s,hs⟩ : ∃s,s=(dvW k r).2:=⟨_,rfl⟩
   obtain ⟨W,hW⟩ : ∃W,W=(dvW k r).1:=⟨_,rfl⟩
   have e:dvW k (a::r)=((((s*18446744073709551616+a.toNat)/k:Nat):Int)::W,(s*18446744073709551616+a.toNat)%k):=by rw [dvW,hs,hW]
   rw [←hs] at h1 h4
   rw [←hW] at h2 h3 h4
   rw [e]
   have hq:(s*18446744073709551616+a.toNat)/k<18446744073709551616:=by
    refine (Nat.div_lt_iff_lt_mul hk).2 ?_
    have:(s+1)*18446744073709551616≤k*18446744073709551616:=Nat.mul_le_mul_right _ h1
    omega
   refine ⟨Nat.mod_lt _ hk,fun n hn=>?_,by simp [h3],?_⟩
   ·rcases List.mem_cons.1 hn with rfl|hn
    ·obtain ⟨q,hq'⟩ : ∃q,q=(s*18446744073709551616+a.toNat)/k:=⟨_,rfl⟩
     rw [←hq'] at hq ⊢
     omega
    ·exact h2 n hn
   ·have hd:=Nat.div_add_mod (s*18446744073709551616+a.toNat) k
    simp only [val]
    rw [←h4,Nat.add_mul,Nat.mul_comm _ k,Nat.mul_add,Nat.mul_assoc]
    simp only [Int.toNat_natCast]
    omega
theorem dvW_drop {k j:Nat} {x:List Int} (h:j<x.length):dvW k (x.drop j)=(((((dvW k (x.drop (j+1))).2*18446744073709551616+(x.getD j 0).toNat)/k:Nat):Int)::(dvW k (x.drop (j+1))).1,((dvW k (x.drop (j+1))).2*18446744073709551616+(x.getD j 0).toNat)%k):=by
 rw [List.drop_eq_getElem_cons h,dvW,List.getD_eq_getElem?_getD,List.getElem?_eq_getElem h];rfl
theorem dvW_val {k:Nat} (hk:0<k) {x:List Int} (o:okW x):val (dvW k x).1=val x/k∧(dvW k x).2=val x%k:=by
 obtain ⟨h1,_,_,h4⟩:=yF hk o
 obtain ⟨v,hv⟩ : ∃v,v=val (dvW k x).1:=⟨_,rfl⟩
 obtain ⟨s,hs⟩ : ∃s,s=(dvW k x).2:=⟨_,rfl⟩
 rw [←hv,←hs] at h4
 rw [←hs] at h1
 rw [←hv,←hs,←h4,Nat.mul_comm v k]
 exact ⟨by rw [Nat.mul_add_div hk,Nat.div_eq_of_lt h1,Nat.add_zero],by rw [Nat.mul_add_mod,Nat.mod_eq_of_lt h1]⟩
set_option maxHeartbeats 2000000 in
theorem B4 (x:List Int) (k:Nat) (hx:x.length<100000) (ox:okW x) (hk:0<k) (hk2:k<18446744073709551616):QU Tryz.prog 134 [.v (QZ x),.v (.int .u64 k)] [.v true (QZ (QX (val x/k))),.v true (.int .u64 (val x%k:Nat))]:=by
 obtain ⟨_,ow,lw,_⟩:=yF hk ox
 obtain ⟨v1,v2⟩:=dvW_val hk ox
 have hT:=XZ (dvW k x).1 (by omega) ow
 rw [v1] at hT
 rw [←v2]
 obtain ⟨D,hD⟩ : ∃D,D=QX (val x/k):=⟨_,rfl⟩
 rw [←hD] at hT ⊢
 clear v1 v2 hD
 refine QU.of Tryz.func134 rfl rfl fun cx w0=>?_
 rw [show Tryz.f134.ntmps=35 from rfl]
 refine zs0 ?_
 refine zs1 J7 ?_
 refine zs0 ?_
 refine QQ.next (fun σ=>∀a w,Rel cx w0 σ a w→Rel cx w0 {nt:=35,env:=[(7,.v true (.int .u64 (dvW k x).2)),(6,.own 11 0 x.length)],mem:=[(11,.buf 91 1 true ((dvW k x).1.map fun n=>.int .u64 n))]} a w) ?_ ?_
 ·refine zs0 ?_
  refine QQ.loopB (fun j:Nat => {nt:=35,env:=[(8,.v true (.int .i64 ((j:Int)-1))),(7,.v true (.int .u64 (dvW k (x.drop j)).2)),(6,.own 11 0 x.length),(0,.v false (QZ x)),(1,.v true (.int .u64 k))],mem:=[(11,.buf 91 1 true ((List.replicate j 0++(dvW k (x.drop j)).1).map fun n=>.int .u64 n))]}) (fun j=>j≤x.length) id x.length (Nat.le_refl _) (fun a w h=>by
   have:=Rel.keep [8,7,6,0,1] [11] h
   rw [List.drop_length]
   show Rel _ _ {nt:=35,env:=_,mem:=[(11,.buf 91 1 true ((List.replicate x.length (0:Int)++[]).map fun n=>.int .u64 n))]} _ _
   rw [List.append_nil,List.map_replicate]
   exact this) ?_
  intro j hj
  rcases j with _|j
  ·refine QQ.seq ?_
   refine zs0 ?_
   refine QQ.condF rfl (QQ.exit ⟨rfl,fun a w h=>?_⟩)
   exact Rel.keep [7,6] [11] h
  ·have hjx:j<x.length:=by omega
   obtain ⟨d,hd0,hd64⟩:=Xz (Qy ox j)
   have gx:=QD hjx
   rw [hd0] at gx
   have ho:okW (x.drop (j+1)):=X8 ox _
   obtain ⟨r1,r2,r3,_⟩:=yF hk ho
   have hd:=dvW_drop (k:=k) hjx
   rw [hd0,Int.toNat_natCast] at hd
   obtain ⟨s,hs⟩ : ∃s,s=(dvW k (x.drop (j+1))).2:=⟨_,rfl⟩
   obtain ⟨W,hW⟩ : ∃W,W=(dvW k (x.drop (j+1))).1:=⟨_,rfl⟩
   rw [←hs] at r1 hd
   rw [←hW] at r3 hd
   rw [←hs,←hW]
   have fD:=div64_ok s d k hd64 hk2 r1
   obtain ⟨q,hq⟩ : ∃q,q=(s*18446744073709551616+d)/k:=⟨_,rfl⟩
   obtain ⟨r,hr⟩ : ∃r,r=(s*18446744073709551616+d)%k:=⟨_,rfl⟩
   rw [←hq,←hr] at hd fD
   rw [List.length_drop] at r3
   have hLl:(List.replicate (j+1) (0:Int)++W).length=x.length:=by rw [List.length_append,List.length_replicate,r3];omega
   have eset:(List.replicate (j+1) (0:Int)++W).set j (q:Int)=List.replicate j 0++(q:Int)::W:=by
    rw [show List.replicate (j+1) (0:Int)=List.replicate j 0++[0] from by rw [List.replicate_succ'],List.append_assoc,List.set_append_right _ _ (by rw [List.length_replicate];exact Nat.le_refl _),List.length_replicate,Nat.sub_self]
    rfl
   obtain ⟨Lw,hL⟩ : ∃Lw,Lw=List.replicate (j+1) (0:Int)++W:=⟨_,rfl⟩
   rw [←hL] at hLl eset ⊢
   have gL:=QD (l:=Lw) (i:=j) (by omega)
   refine QQ.seq ?_
   refine zs0 ?_
   refine QQ.condT rfl (QQ.skip ?_)
   refine QQ.next (fun σ=>∀a w,Rel cx w0 σ a w→Rel cx w0 {nt:=35,env:=[(8,.v true (.int .i64 (j:Int))),(7,.v true (.int .u64 r)),(6,.own 11 0 x.length),(0,.v false (QZ x)),(1,.v true (.int .u64 k))],mem:=[(11,.buf 91 1 true ((Lw.set j (q:Int)).map fun n=>.int .u64 n))]} a w) ?_ ?_
   ·refine QQ.blockN ?_
    refine zr3 (ρ:=fun _=>[.v true (.int .u64 q),.v true (.int .u64 r)]) (an gx <| an gL <| hLl) (o:=by repeat' first|exact fD|trivial|constructor) (k:=?_)
    intro a w h
    have:=Rel.keep [8,7,6,0,1] [11] h
    rw [List.map_set]
    exact this
   ·intro σ hσ
    refine QQ.from hσ ?_
    refine zr0 ?_
    refine ⟨j,(by show j≤x.length;omega),(show j<j+1 by omega),fun a w h=>?_⟩
    have:=Rel.keep [8,7,6,0,1] [11] h
    rw [eset] at this
    simp only [hd]
    exact this
 ·intro σ hσ
  refine QQ.from hσ ?_
  have htk:List.take x.length (List.map (fun n=>V.int .u64 n) (dvW k x).1)=List.map (fun n=>V.int .u64 n) (dvW k x).1:=List.take_of_length_le (by rw [List.length_map];omega)
  refine zs3 (ρ:=fun _=>[.v true (QZ D)]) htk (o:=by repeat' first|exact hT|trivial|constructor) (k:=?_)
  exact QQ.ret (QK.vs rfl (by exact ⟨⟨rfl,id⟩,⟨rfl,id⟩,trivial⟩) rfl)
theorem AD (k:IntKind) (x y:Int):Jy .or k x y=Jy .or k y x:=by
 show k.wrap ((BitVec.ofInt k.bits x ||| BitVec.ofInt k.bits y).toNat:Int)=k.wrap ((BitVec.ofInt k.bits y ||| BitVec.ofInt k.bits x).toNat:Int)
 rw [BitVec.or_comm]
theorem Fu {w D E B:Nat} (hB:D*E=B) (hE:0<E) (hD:0<D):w*E=w/D*B+w%D*E∧w%D*E+E≤B∧w*E%B=w%D*E:=by
 have h1:=Nat.div_add_mod w D
 have h2:=Nat.mod_lt w hD
 have h3:w*E=w/D*B+w%D*E:=by
  have:=congrArg (· * E) h1
  simp only [Nat.add_mul] at this
  rw [←hB,←Nat.mul_assoc,Nat.mul_comm (w/D) D]
  exact this.symm
 have h4:w%D*E+E≤B:=by
  have:=Nat.mul_le_mul_right E (show w%D+1≤D by omega)
  rw [Nat.add_mul,Nat.one_mul,hB] at this
  exact this
 refine ⟨h3,h4,?_⟩
 rw [h3,Nat.mul_comm,Nat.mul_add_mod]
 exact Nat.mod_eq_of_lt (by omega)
structure ShI (X:List Int) (N m r i:Nat) (Z:List Int):Prop where
 ok:okW Z
 len:Z.length=N
 all:val Z=val (X.take i)*(18446744073709551616^m*2^r)
 zero : ∀j,i+m+1≤j→Z.getD j 0=0
 low:(Z.getD (i+m) 0).toNat<2^r
theorem set_same {l:List Int} {i:Nat} {x:Int} (h:l[i]?=some x):l.set i x=l:=by
 have hi:i<l.length:=(List.getElem?_eq_some_iff.1 h).1
 refine List.ext_getElem? fun j=>?_
 rw [List.getElem?_set]
 split
 ·next e=>subst e;first|exact h.symm|(rw [if_pos hi];exact h.symm)
 ·rfl
theorem U7 {l:List Int} {i j:Nat} {x:Int} (h:i<l.length):(l.set i x).getD j 0=if i=j then x else l.getD j 0:=by
 rw [List.getD_eq_getElem?_getD,List.getElem?_set]
 split
 ·rfl
 ·rw [←List.getD_eq_getElem?_getD]
theorem ShI.step {X Z:List Int} {N m r i w z:Nat} (h:ShI X N m r i Z) (hr:r<64) (hN:i+m+1<N) (hw:X.getD i 0=(w:Int)) (hw64:w<18446744073709551616) (hz:Z.getD (i+m) 0=(z:Int)) :
 z<2^r∧z+w*2^r%18446744073709551616<18446744073709551616∧ShI X N m r (i+1) ((Z.set (i+m) ((z+w*2^r%18446744073709551616:Nat):Int)).set (i+m+1) ((w/2^(64-r):Nat):Int)):=by
 have hlow:=h.low
 rw [hz,Int.toNat_natCast] at hlow
 have hB:2^(64-r)*2^r=18446744073709551616:=by rw [←Nat.pow_add,show 64-r+r=64 from by omega]
 obtain ⟨s1,s2,s3⟩:=Fu (w:=w) hB (Nat.pow_pos (by decide)) (Nat.pow_pos (by decide))
 have hhi:w/2^(64-r)<2^r:=(Nat.div_lt_iff_lt_mul (Nat.pow_pos (by decide))).2 (by rw [Nat.mul_comm,hB];exact hw64)
 have hE:2^r<18446744073709551616:=Nat.lt_of_lt_of_le (Nat.pow_lt_pow_right (by decide) hr) (by decide)
 rw [s3]
 obtain ⟨hi,hhi'⟩ : ∃hi,hi=w/2^(64-r):=⟨_,rfl⟩
 obtain ⟨lo,hlo⟩ : ∃lo,lo=w%2^(64-r)*2^r:=⟨_,rfl⟩
 have hall:=h.all
 obtain ⟨E,hEe⟩ : ∃E,E=2^r:=⟨_,rfl⟩
 rw [←hhi'] at s1 hhi ⊢
 rw [←hlo] at s1 s2 ⊢
 rw [←hEe] at s1 s2 hhi hlow hE hall ⊢
 have l1:i+m<Z.length:=by rw [h.len];omega
 have l2:i+m+1<(Z.set (i+m) ((z+lo:Nat):Int)).length:=by rw [List.length_set,h.len];exact hN
 have e0:(Z.set (i+m) ((z+lo:Nat):Int)).getD (i+m+1) 0=0:=by rw [U7 l1,if_neg (by omega)];exact h.zero _ (Nat.le_refl _)
 have v1:=K4 (n:=((z+lo:Nat):Int)) l1
 have v2:=K4 (n:=(hi:Int)) l2
 rw [e0,Int.toNat_zero,Nat.mul_zero,Nat.add_zero,Int.toNat_natCast] at v2
 rw [hz,Int.toNat_natCast,Int.toNat_natCast] at v1
 refine ⟨hlow,by omega,⟨JG (JG h.ok ⟨by omega,by omega⟩) ⟨by omega,by omega⟩,by rw [List.length_set,List.length_set,h.len],?_,?_,?_⟩⟩
 ·rw [v2,ZF,hw,Int.toNat_natCast,←hEe,Nat.add_mul,←hall]
  have e3:18446744073709551616^i*w*(18446744073709551616^m*E)=18446744073709551616^(i+m)*(w*E):=by
   rw [Nat.pow_add]
   simp only [Nat.mul_assoc,Nat.mul_comm,Nat.mul_left_comm]
  rw [e3,s1,Nat.pow_succ]
  obtain ⟨P,hP⟩ : ∃P,P=18446744073709551616^(i+m):=⟨_,rfl⟩
  rw [←hP] at v1 ⊢
  rw [Nat.mul_add] at v1 ⊢
  rw [Nat.mul_comm hi,←Nat.mul_assoc]
  omega
 ·intro j hj
  rw [U7 l2,if_neg (by omega),U7 l1,if_neg (by omega)]
  exact h.zero j (by omega)
 ·rw [show i+1+m=i+m+1 from by omega,U7 l2,if_pos rfl,Int.toNat_natCast,←hEe]
  exact hhi
set_option maxHeartbeats 4000000 in
theorem zY (x:List Int) (s:Nat) (hx:x.length<10000) (hs:s<1000000) (ox:okW x):QU Tryz.prog 55 [.v (QZ x),.v (.int .i64 s)] [.v true (QZ (QX (val x*2^s)))]:=by
 have h1:=Yv x (by omega)
 have lx:=ZE x
 have o1:=Z3 ox
 have hv:=ZD x
 have hz:=FD ox
 obtain ⟨X,hX⟩ : ∃X,X=Qg x:=⟨_,rfl⟩
 rw [←hX] at h1 lx o1 hv hz
 clear hX
 obtain ⟨m,hm⟩ : ∃m,m=s/64:=⟨_,rfl⟩
 obtain ⟨r,hr⟩ : ∃r,r=s%64:=⟨_,rfl⟩
 have hqm:(s:Int).tdiv 64=m:=by rw [hm];exact KF s 64
 have hrm:(s:Int).tmod 64=r:=by rw [hr];exact Gq s 64
 have hpow:(2:Nat)^s=18446744073709551616^m*2^r:=by
  have hs':s=64*m+r:=by omega
  rw [hs',Nat.pow_add,Nat.pow_mul,show (2:Nat)^64=18446744073709551616 from rfl]
 have hrl:r<64:=by omega
 have hml:m<20000:=by omega
 rw [hpow,←hv]
 rw [←hv] at hz
 clear hpow hm hr ox hv
 obtain ⟨D,hD⟩ : ∃D,D=QX (val X*(18446744073709551616^m*2^r)):=⟨_,rfl⟩
 rw [←hD]
 refine QU.of Tryz.func55 rfl rfl fun cx w0=>?_
 rw [show Tryz.f55.ntmps=58 from rfl]
 refine zs0 ?_
 refine zs2 (ρ:=fun _=>[.v false (QZ X)]) (o:=by repeat' first|exact h1|trivial|constructor) (k:=?_)
 refine QQ.from (σ' := {nt:=58,env:=[(0,.v false (QZ X)),(1,.v true (.int .i64 s))],mem:=[]}) (fun a w h=>Rel.keep [0,1] [] h) ?_
 refine QQ.seq ?_
 by_cases hX0:X=[]
 ·subst hX0
  have:D=[]:=by rw [hD];simp [val,QX,EU]
  subst this
  refine zs0 ?_
  refine QQ.condT rfl ?_
  refine zs0 ?_
  exact QQ.ret ⟨_,[],rfl,⟨rfl,trivial⟩,by simp [R.names,R.mems,R.blks],by simp,rfl⟩
 have hXp:0<X.length:=List.length_pos_iff.2 hX0
 have gX0 : ¬(X.length:Int)=0:=by omega
 obtain ⟨N,hN⟩ : ∃N,N=X.length+m+1:=⟨_,rfl⟩
 have wN:IntKind.i64.wrap ((X.length:Int)+(m:Int))=((X.length+m:Nat):Int):=by rw [QV] <;> omega
 have wN1:IntKind.i64.wrap (((X.length+m:Nat):Int)+1)=(N:Int):=by rw [QV] <;> omega
 refine zs1 gX0 ?_
 refine QQ.condF rfl (QQ.skip ?_)
 refine QQ.from (σ' := {nt:=58,env:=[(0,.v false (QZ X)),(1,.v true (.int .i64 s))],mem:=[]}) (fun a w h=>Rel.keep [0,1] [] h) ?_
 refine zs1 (an hqm <| an wN <| an wN1 <| J7) ?_
 refine QQ.next (fun σ=>∃Z,ShI X N m r X.length Z ∧ ∀a w,Rel cx w0 σ a w→Rel cx w0 {nt:=58,env:=[(5,.own 19 0 N)],mem:=[(19,.buf 91 1 true (Z.map fun n=>.int .u64 n))]} a w) ?_ ?_
 ·refine zs0 ?_
  refine QQ.loopB (fun q:Nat×List Int => {nt:=58,env:=[(22,.v true (.int .i64 (q.1:Nat))),(21,.v true (.int .i64 (X.length:Nat))),(20,.v false (QZ X)),(5,.own 19 0 N),(1,.v true (.int .i64 s))],mem:=[(19,.buf 91 1 true (q.2.map fun n=>.int .u64 n))]})
   (fun q=>q.1≤X.length∧ShI X N m r q.1 q.2) (fun q=>X.length-q.1) (0,List.replicate N 0)
   ⟨Nat.zero_le _,⟨(fun q hq=>by rw [List.mem_replicate] at hq;omega),List.length_replicate,by rw [FC];simp [val],fun j _=>by rw [List.getD_eq_getElem?_getD,List.getElem?_replicate];split <;> rfl,by
     rw [List.getD_eq_getElem?_getD,List.getElem?_replicate];split <;> exact Nat.pow_pos (by decide)⟩⟩ (fun a w h=>by
     have:=Rel.keep [22,21,20,5,1] [19] h
     have iN:((X.length:Int)+(m:Int)+1).toNat=N:=by omega
     rw [iN] at this
     simp only [List.map_replicate]
     exact this) ?_
  rintro ⟨i,Z⟩ ⟨hi,hI⟩
  simp only at hi hI ⊢
  by_cases hend:i=X.length
  ·have g : ¬(i:Int)<X.length:=by omega
   refine zs1 g ?_
   refine QQ.seq (QQ.condF rfl (QQ.exit ⟨rfl,Z,by rw [←hend];exact hI,fun a w h=>Rel.keep [5] [19] h⟩))
  ·have g:(i:Int)<X.length:=by omega
   obtain ⟨w,hw,hw64⟩:=Xz (Qy o1 i)
   obtain ⟨z,hz1,hz64⟩:=Xz (Qy hI.ok (i+m))
   obtain ⟨hz2,hsum,hnext⟩:=hI.step hrl (by omega) hw hw64 hz1
   have lZ:=hI.len
   have gX:X[i]?=some (w:Int):=by rw [QD (by omega),hw]
   have gZ:Z[i+m]?=some (z:Int):=by rw [QD (by omega),hz1]
   have iz:((i:Int)+(m:Int)).toNat=i+m:=by omega
   have iz1:((i:Int)+(m:Int)+1).toNat=i+m+1:=by omega
   have g1:(0:Int)≤(i:Int)+(m:Int):=by omega
   have g2:(i:Int)+(m:Int)<N:=by omega
   have g3:(0:Int)≤(i:Int)+(m:Int)+1:=by omega
   have g4:(i:Int)+(m:Int)+1<N:=by omega
   have wi:IntKind.i64.wrap ((i:Int)+(m:Int))=(i:Int)+(m:Int):=by rw [QV] <;> omega
   have wi1:IntKind.i64.wrap ((i:Int)+(m:Int)+1)=(i:Int)+(m:Int)+1:=by rw [QV] <;> omega
   have wk:IntKind.i64.wrap ((i:Int)+1)=((i+1:Nat):Int):=by rw [QV] <;> omega
   have hB:2^(64-r)*2^r=18446744073709551616:=by rw [←Nat.pow_add,show 64-r+r=64 from by omega]
   obtain ⟨_,_,s3⟩:=Fu (w:=w) hB (Nat.pow_pos (by decide)) (Nat.pow_pos (by decide))
   have wl:=zD w r hrl
   have wo:Jy .or .u64 (z:Int) ((w*2^r%18446744073709551616:Nat):Int)=((z+w*2^r%18446744073709551616:Nat):Int):=by
    rw [AD,s3,orN _ z r hz2 (by rw [←s3,Nat.add_comm];exact hsum),Nat.add_comm]
   have w64:(64:Int)-(r:Int)=((64-r:Nat):Int):=by omega
   have whi:=D5 w (64-r) (by omega)
   have whi2:IntKind.u64.wrap ((w/2^(64-r):Nat):Int)=((w/2^(64-r):Nat):Int):=YY _ (Nat.lt_of_le_of_lt (Nat.div_le_self _ _) hw64)
   obtain ⟨y,hy⟩ : ∃y,y=z+w*2^r%18446744073709551616:=⟨_,rfl⟩
   obtain ⟨u,hu⟩ : ∃u,u=w/2^(64-r):=⟨_,rfl⟩
   obtain ⟨lo,hlo⟩ : ∃lo,lo=w*2^r%18446744073709551616:=⟨_,rfl⟩
   rw [←hlo] at wl wo hy
   rw [←hy] at wo
   rw [←hlo,←hy,←hu] at hnext
   rw [←hu] at whi whi2
   have hu0:r=0→(Z.set (i+m) (y:Int)).set (i+m+1) (u:Int)=Z.set (i+m) (y:Int):=fun h=>by
    have:u=0:=by rw [hu,h];exact Nat.div_eq_of_lt hw64
    rw [this]
    have e0:(Z.set (i+m) (y:Int))[i+m+1]?=some 0:=by
     rw [QD (by rw [List.length_set];omega),U7 (by omega),if_neg (by omega),hI.zero _ (Nat.le_refl _)]
    exact set_same e0
   refine zs1 g ?_
   refine QQ.seq (QQ.condT rfl (QQ.skip ?_))
   show QQ _ _ _ _ _ _ _
   refine QQ.next (fun σ=>∀a w,Rel cx w0 σ a w→Rel cx w0 {nt:=58,env:=[(22,.v true (.int .i64 (i:Nat))),(21,.v true (.int .i64 (X.length:Nat))),(20,.v false (QZ X)),(5,.own 19 0 N),(1,.v true (.int .i64 s))],mem:=[(19,.buf 91 1 true (((Z.set (i+m) (y:Int)).set (i+m+1) (u:Int)).map fun n=>.int .u64 n))]} a w) ?_ ?_
   ·refine QQ.blockN ?_
    refine zs1 gX ?_
    refine zd1 [] (an hqm <| an hrm <| an wi <| an iz <| an g1 <| an g2 <| an gZ <| an wl <| an wo <| lZ) ?_
    by_cases hr0:r=0
    ·rw [hu0 hr0]
     have g5 : ¬(0:Int)<(r:Int):=by omega
     refine zs1 (an hrm <| g5) ?_
     exact QQ.condF rfl (QQ.skip fun a w h=>by
      have:=Rel.keep [22,21,20,5,1] [19] h
      rw [List.map_set]
      exact this)
    ·have g5:(0:Int)<(r:Int):=by omega
     obtain ⟨Z',hZ'⟩ : ∃Z',Z'=Z.set (i+m) (y:Int):=⟨_,rfl⟩
     have lZ':Z'.length=N:=by rw [hZ',List.length_set,lZ]
     have gZ':=QD (l:=Z') (i:=i+m+1) (by omega)
     refine QQ.from (σ' := {nt:=58,env:=[(6,.v true (.int .i64 (i:Nat))),(7,.v true (.int .u64 w)),(22,.v true (.int .i64 (i:Nat))),(21,.v true (.int .i64 (X.length:Nat))),(20,.v false (QZ X)),(5,.own 19 0 N),(1,.v true (.int .i64 s))],mem:=[(19,.buf 91 1 true (Z'.map fun n=>.int .u64 n))]}) (fun a w h=>by
      have:=Rel.keep [6,7,22,21,20,5,1] [19] h
      rw [hZ',List.map_set]
      exact this) ?_
     rw [←hZ']
     refine zs1 (an hrm <| g5) ?_
     refine QQ.condT rfl ?_
     refine zr1 (an hqm <| an hrm <| an wi <| an wi1 <| an iz1 <| an g3 <| an g4 <| an w64 <| an whi <| an whi2 <| an lZ' <| gZ') ?_
     intro a w h
     have:=Rel.keep [22,21,20,5,1] [19] h
     rw [List.map_set]
     exact this
   ·intro σ hσ
    refine QQ.from hσ ?_
    refine zr1 wk ?_
    exact ⟨(i+1,_),⟨by show i+1≤X.length;omega,hnext⟩,(show X.length-(i+1)<X.length-i by omega),fun a w h=>Rel.keep [22,21,20,5,1] [19] h⟩
 ·rintro σ ⟨Z,hI,hσ⟩
  refine QQ.from hσ ?_
  have hT:=XZ Z (by rw [hI.len];omega) hI.ok
  rw [hI.all,List.take_length,←hD] at hT
  have lZ:=hI.len
  have htk:List.take N (List.map (fun n=>V.int .u64 n) Z)=List.map (fun n=>V.int .u64 n) Z:=List.take_of_length_le (by rw [List.length_map];omega)
  refine zs3 (ρ:=fun _=>[.v true (QZ D)]) htk (o:=by repeat' first|exact hT|trivial|constructor) (k:=?_)
  exact QQ.ret (QK.vs rfl (by exact ⟨⟨rfl,id⟩,trivial⟩) rfl)
def J6 (r a h:Nat):Nat:=a/2^r+h*2^(64-r)%18446744073709551616
def Jv (r:Nat):List Int→List Int
 | []=>[]
 | a::t=>((J6 r a.toNat (t.getD 0 0).toNat:Nat):Int)::Jv r t
theorem zE {r a h:Nat} (hr:r<64) (ha:a<18446744073709551616):J6 r a h<18446744073709551616∧J6 r a h*2^r+a%2^r=a+18446744073709551616*(h%2^r)∧a/2^r<2^(64-r)∧h*2^(64-r)%18446744073709551616=h%2^r*2^(64-r):=by
 have hB:2^(64-r)*2^r=18446744073709551616:=by rw [←Nat.pow_add,show 64-r+r=64 from by omega]
 have hB2:2^r*2^(64-r)=18446744073709551616:=by rw [Nat.mul_comm];exact hB
 obtain ⟨s1,s2,s3⟩:=Fu (w:=h) hB2 (Nat.pow_pos (by decide)) (Nat.pow_pos (by decide))
 have hlt:a/2^r<2^(64-r):=(Nat.div_lt_iff_lt_mul (Nat.pow_pos (by decide))).2 (by rw [hB];exact ha)
 have hd:=Nat.div_add_mod a (2^r)
 unfold J6
 rw [s3]
 refine ⟨by omega,?_,hlt,rfl⟩
 rw [Nat.add_mul,Nat.mul_assoc,hB,Nat.mul_comm (a/2^r),Nat.mul_comm (h%2^r)]
 omega
theorem Fx {r:Nat} (hr:r<64) : ∀ {X:List Int},okW X→okW (Jv r X)∧(Jv r X).length=X.length∧val (Jv r X)*2^r+(X.getD 0 0).toNat%2^r=val X
 | [],_=>⟨(fun n hn=>by cases hn),rfl,by simp [Jv,val]⟩
 | a::t,o=>by
   obtain ⟨h1,h2,h3⟩:=Fx hr (X:=t) fun n hn=>o n (by simp [hn])
   obtain ⟨b,hb,hb64⟩:=Xz (o a (by simp))
   subst hb
   obtain ⟨k1,k2,_,_⟩:=zE (h:=(t.getD 0 0).toNat) hr hb64
   rw [Jv,Int.toNat_natCast]
   refine ⟨fun n hn=>?_,by rw [List.length_cons,List.length_cons,h2],?_⟩
   ·rcases List.mem_cons.1 hn with rfl|hn
    ·omega
    ·exact h1 n hn
   ·rw [val,val,Int.toNat_natCast,Int.toNat_natCast,show ((b:Int)::t).getD 0 0=(b:Int) from rfl,Int.toNat_natCast]
    rw [Nat.add_mul,Nat.mul_assoc]
    obtain ⟨p,hp⟩ : ∃p,p=J6 r b (t.getD 0 0).toNat*2^r:=⟨_,rfl⟩
    obtain ⟨q,hq⟩ : ∃q,q=val (Jv r t)*2^r:=⟨_,rfl⟩
    rw [←hp] at k2 ⊢
    rw [←hq] at h3 ⊢
    omega
theorem shrL_val {r:Nat} (hr:r<64) {X:List Int} (o:okW X):val (Jv r X)=val X/2^r:=by
 obtain ⟨_,_,h⟩:=Fx hr o
 have hp:0<2^r:=Nat.pow_pos (by decide)
 rw [←h,Nat.mul_comm,Nat.mul_add_div hp,Nat.div_eq_of_lt (Nat.mod_lt _ hp),Nat.add_zero]
theorem C5 {r:Nat} : ∀(X:List Int) (i:Nat),i<X.length→(Jv r X).getD i 0=(J6 r (X.getD i 0).toNat (X.getD (i+1) 0).toNat:Nat)
 | a::t,0,_=>by
   show (((J6 r a.toNat (t.getD 0 0).toNat:Nat):Int)::Jv r t).getD 0 0=_
   rfl
 | a::t,i+1,h=>C5 t i (by simpa using h)
set_option maxHeartbeats 4000000 in
theorem wShr_ok (x:List Int) (s:Nat) (hx:x.length<10000) (hs:s<1000000) (ox:okW x):QU Tryz.prog 187 [.v (QZ x),.v (.int .i64 s)] [.v true (QZ (QX (val x/2^s)))]:=by
 have h1:=Yv x (by omega)
 have lx:=ZE x
 have o1:=Z3 ox
 have hv:=ZD x
 obtain ⟨X,hX⟩ : ∃X,X=Qg x:=⟨_,rfl⟩
 rw [←hX] at h1 lx o1 hv
 clear hX
 obtain ⟨m,hm⟩ : ∃m,m=s/64:=⟨_,rfl⟩
 obtain ⟨r,hr⟩ : ∃r,r=s%64:=⟨_,rfl⟩
 have hqm:(s:Int).tdiv 64=m:=by rw [hm];exact KF s 64
 have hrm:(s:Int).tmod 64=r:=by rw [hr];exact Gq s 64
 have hpow:(2:Nat)^s=18446744073709551616^m*2^r:=by
  have hs':s=64*m+r:=by omega
  rw [hs',Nat.pow_add,Nat.pow_mul,show (2:Nat)^64=18446744073709551616 from rfl]
 have hrl:r<64:=by omega
 have hml:m<20000:=by omega
 rw [hpow,←hv]
 clear hpow hm hr ox hv
 refine QU.of Tryz.func187 rfl rfl fun cx w0=>?_
 rw [show Tryz.f187.ntmps=64 from rfl]
 refine zs0 ?_
 refine zs2 (ρ:=fun _=>[.v false (QZ X)]) (o:=by repeat' first|exact h1|trivial|constructor) (k:=?_)
 refine QQ.from (σ' := {nt:=64,env:=[(0,.v false (QZ X)),(1,.v true (.int .i64 s))],mem:=[]}) (fun a w h=>Rel.keep [0,1] [] h) ?_
 refine QQ.seq ?_
 by_cases hmX:X.length≤m
 ·have:val X/(18446744073709551616^m*2^r)=0:=by
   refine Nat.div_eq_of_lt ?_
   have h2:=ZY o1
   have h3:18446744073709551616^X.length≤18446744073709551616^m:=Nat.pow_le_pow_right (by decide) hmX
   have h4:18446744073709551616^m*1≤18446744073709551616^m*2^r:=Nat.mul_le_mul_left _ (Nat.pow_pos (by decide))
   omega
  rw [this]
  have g:(X.length:Int)≤m:=by omega
  refine zs1 (an hqm <| g) ?_
  refine QQ.condT rfl ?_
  refine zs0 ?_
  exact QQ.ret ⟨_,[],rfl,⟨rfl,trivial⟩,by simp [R.names,R.mems,R.blks],by simp,rfl⟩
 have g : ¬(X.length:Int)≤m:=by omega
 have hcut:val X/(18446744073709551616^m*2^r)=val (Jv r (X.drop m)):=by
  rw [shrL_val hrl (X8 o1 m),←Nat.div_div_eq_div_mul]
  congr 1
  have e:val X=val (X.take m)+18446744073709551616^m*val (X.drop m):=by
   have:=ZK (X.take m) (X.drop m)
   rw [List.take_append_drop,List.length_take,Nat.min_eq_left (by omega)] at this
   exact this
  have h2:=ZY (Y5 o1 m)
  rw [List.length_take,Nat.min_eq_left (by omega)] at h2
  rw [e,Nat.add_comm,Nat.mul_add_div (Nat.pow_pos (by decide)),Nat.div_eq_of_lt h2,Nat.add_zero]
 rw [hcut]
 have oY:=X8 o1 m
 have lY:(X.drop m).length=X.length-m:=List.length_drop
 have hdr:List.drop m (List.map (fun n=>V.int .u64 n) X)=List.map (fun n=>V.int .u64 n) (X.drop m):=List.map_drop.symm
 refine zs1 (an hqm <| g) ?_
 refine QQ.condF rfl (QQ.skip ?_)
 refine QQ.from (σ' := {nt:=64,env:=[(0,.v false (QZ X)),(1,.v true (.int .i64 s))],mem:=[]}) (fun a w h=>Rel.keep [0,1] [] h) ?_
 have gm:(0:Int)≤m:=by omega
 have gm2:(m:Int)≤X.length:=by omega
 have htk0:List.take X.length (List.map (fun n=>V.int .u64 n) X)=List.map (fun n=>V.int .u64 n) X:=List.take_of_length_le (by rw [List.length_map];exact Nat.le_refl _)
 refine zs1 (an hqm <| an gm <| an gm2 <| an hdr <| htk0) ?_
 obtain ⟨oR,lR,_⟩:=Fx hrl oY
 have hget:=fun i h=>C5 (r:=r) (X.drop m) i h
 have hT:=XZ (Jv r (X.drop m)) (by omega) oR
 obtain ⟨Y,hY⟩ : ∃Y,Y=X.drop m:=⟨_,rfl⟩
 rw [←hY] at hT lY oY lR hget ⊢
 obtain ⟨S,hS⟩ : ∃S,S=Jv r Y:=⟨_,rfl⟩
 rw [←hS] at hT lR hget ⊢
 obtain ⟨D,hD⟩ : ∃D,D=QX (val S):=⟨_,rfl⟩
 rw [←hD] at hT ⊢
 clear hcut hdr htk0 gm gm2 g hY hS hD o1 oR h1 hmX
 refine QQ.from (σ' := {nt:=64,env:=[(0,.v false (QZ Y)),(1,.v true (.int .i64 s))],mem:=[]}) (fun a w h=>Rel.keep [0,1] [] h) ?_
 have hYl:Y.length<100000:=by omega
 clear lY lx hx
 refine zs1 J7 ?_
 refine QQ.next (fun σ=>∀a w,Rel cx w0 σ a w→Rel cx w0 {nt:=64,env:=[(5,.own 20 0 Y.length)],mem:=[(20,.buf 91 1 true (S.map fun n=>.int .u64 n))]} a w) ?_ ?_
 ·refine zs0 ?_
  refine QQ.loopB (fun i:Nat => {nt:=64,env:=[(23,.v true (.int .i64 (i:Nat))),(22,.v true (.int .i64 (Y.length:Nat))),(5,.own 20 0 Y.length),(0,.v false (QZ Y)),(1,.v true (.int .i64 s))],mem:=[(20,.buf 91 1 true ((S.take i++List.replicate (Y.length-i) 0).map fun n=>.int .u64 n))]})
   (fun i=>i≤Y.length) (fun i=>Y.length-i) 0 (Nat.zero_le _) (fun a w h=>by
     have:=Rel.keep [23,22,5,0,1] [20] h
     rw [List.take_zero,List.nil_append,Nat.sub_zero,List.map_replicate]
     exact this) ?_
  intro i hi
  by_cases hend:i=Y.length
  ·have g : ¬(i:Int)<Y.length:=by omega
   refine zs1 g ?_
   refine QQ.seq (QQ.condF rfl (QQ.exit ⟨rfl,fun a w h=>?_⟩))
   have:=Rel.keep [5] [20] h
   rw [hend,Nat.sub_self,List.replicate_zero,List.append_nil,List.take_of_length_le (by omega)] at this
   exact this
  ·have g:(i:Int)<Y.length:=by omega
   have hil:i<Y.length:=by omega
   obtain ⟨a,ha,ha64⟩:=Xz (Qy oY i)
   obtain ⟨b,hb,hb64⟩:=Xz (Qy oY (i+1))
   have hgi:=hget i hil
   rw [ha,hb,Int.toNat_natCast,Int.toNat_natCast] at hgi
   obtain ⟨k1,_,k3,k4⟩:=zE (h:=b) hrl ha64
   have gA:Y[i]?=some (a:Int):=by rw [QD hil,ha]
   have sr:=D5 a r (by omega)
   have wa:IntKind.u64.wrap ((a/2^r:Nat):Int)=((a/2^r:Nat):Int):=YY _ (Nat.lt_of_le_of_lt (Nat.div_le_self _ _) ha64)
   have wk:IntKind.i64.wrap ((i:Int)+1)=((i+1:Nat):Int):=by rw [QV] <;> omega
   obtain ⟨C,hC⟩ : ∃C,C=S.take i++List.replicate (Y.length-i) (0:Int):=⟨_,rfl⟩
   have lC:C.length=Y.length:=by rw [hC,List.length_append,List.length_take,List.length_replicate];omega
   have hset : ∀v:Int,C.set i v=S.take i++v::List.replicate (Y.length-(i+1)) (0:Int):=fun v=>by
    have l1:(S.take i).length=i:=by rw [List.length_take];omega
    rw [hC,List.set_append_right _ _ (by omega),l1,Nat.sub_self,show Y.length-i=(Y.length-(i+1))+1 from by omega,List.replicate_succ,List.set_cons_zero]
   have hnew:C.set i (J6 r a b:Nat)=S.take (i+1)++List.replicate (Y.length-(i+1)) (0:Int):=by
    rw [hset,Y3 (x:=S) (k:=i) (by omega),hgi,List.append_assoc];rfl
   obtain ⟨q,hq⟩ : ∃q,q=a/2^r:=⟨_,rfl⟩
   rw [←hq] at k3 sr wa
   have gC:=QD (l:=C) (i:=i) (by omega)
   rw [←hC]
   refine zs1 g ?_
   refine QQ.seq (QQ.condT rfl (QQ.skip ?_))
   show QQ _ _ _ _ _ _ _
   refine QQ.next (fun σ=>∀x w,Rel cx w0 σ x w→Rel cx w0 {nt:=64,env:=[(23,.v true (.int .i64 (i:Nat))),(22,.v true (.int .i64 (Y.length:Nat))),(5,.own 20 0 Y.length),(0,.v false (QZ Y)),(1,.v true (.int .i64 s))],mem:=[(20,.buf 91 1 true ((C.set i (J6 r a b:Nat)).map fun n=>.int .u64 n))]} x w) ?_ ?_
   ·refine QQ.blockN ?_
    refine zs0 ?_
    refine zs1 (an gA <| an hrm <| an sr <| an wa <| an gC <| lC) ?_
    by_cases hr0:0<r∧i+1<Y.length
    ·have g5:(0:Int)<(r:Int):=by omega
     have g6:((i+1:Nat):Int)<Y.length:=by omega
     have hil1:i+1<Y.length:=hr0.2
     have gB:Y[i+1]?=some (b:Int):=by rw [QD hil1,hb]
     obtain ⟨C1,hC1⟩ : ∃C1,C1=C.set i (q:Int):=⟨_,rfl⟩
     have lC1:C1.length=Y.length:=by rw [hC1,List.length_set,lC]
     have gC1:C1[i]?=some (q:Int):=by rw [hC1,List.getElem?_set_self (by omega)]
     have w64:(64:Int)-(r:Int)=((64-r:Nat):Int):=by omega
     have sl:=zD b (64-r) (by omega)
     have wo:Jy .or .u64 (q:Int) ((b*2^(64-r)%18446744073709551616:Nat):Int)=((J6 r a b:Nat):Int):=by
      unfold J6 at k1 ⊢
      rw [←hq] at k1 ⊢
      rw [k4] at k1 ⊢
      rw [AD,orN _ q (64-r) k3 (by rw [Nat.add_comm];exact k1),Nat.add_comm]
     obtain ⟨lo,hlo⟩ : ∃lo,lo=b*2^(64-r)%18446744073709551616:=⟨_,rfl⟩
     rw [←hlo] at sl wo
     have hss:C.set i (J6 r a b:Nat)=C1.set i (J6 r a b:Nat):=by rw [hC1,List.set_set]
     rw [hss]
     have ii:((i+1:Nat):Int).toNat=i+1:=by omega
     have gi0:(0:Int)≤((i+1:Nat):Int):=by omega
     obtain ⟨i1,hi1⟩ : ∃i1,i1=i+1:=⟨_,rfl⟩
     rw [←hi1] at wk g6 gB ii gi0 hil1
     refine QQ.from (σ' := {nt:=64,env:=[(6,.v true (.int .i64 (i:Nat))),(23,.v true (.int .i64 (i:Nat))),(22,.v true (.int .i64 (Y.length:Nat))),(5,.own 20 0 Y.length),(0,.v false (QZ Y)),(1,.v true (.int .i64 s))],mem:=[(20,.buf 91 1 true (C1.map fun n=>.int .u64 n))]}) (fun x w h=>by
      have:=Rel.keep [6,23,22,5,0,1] [20] h
      rw [hC1,List.map_set]
      exact this) ?_
     refine zs1 (an hrm <| an g5 <| an g6 <| wk) ?_
     refine QQ.condT rfl ?_
     refine zq1 [] (an hrm <| an wk <| an gi0 <| an g6 <| an ii <| an gB <| an gC1 <| an lC1 <| an w64 <| an sl <| wo) ?_
     intro x w h
     have:=Rel.keep [23,22,5,0,1] [20] h
     rw [List.map_set]
     exact this
    ·have hsame:J6 r a b=q:=by
      unfold J6
      rw [←hq]
      rcases Nat.eq_zero_or_pos r with h0|h0
      ·rw [h0];simp
      ·have:b=0:=by
        have h1:Y.length≤i+1:=by omega
        have e:Y.getD (i+1) 0=0:=by rw [List.getD_eq_getElem?_getD,List.getElem?_eq_none h1];rfl
        omega
       rw [this];simp
     rw [hsame]
     by_cases h0:0<r
     ·have g5:(0:Int)<(r:Int):=by omega
      have g6 : ¬((i+1:Nat):Int)<Y.length:=by omega
      obtain ⟨i1,hi1⟩ : ∃i1,i1=i+1:=⟨_,rfl⟩
      rw [←hi1] at wk g6
      refine zs1 (an hrm <| an g5 <| an g6 <| wk) ?_
      exact QQ.condF rfl (QQ.skip fun x w h=>by
       have:=Rel.keep [23,22,5,0,1] [20] h
       rw [List.map_set]
       exact this)
     ·have g5 : ¬(0:Int)<(r:Int):=by omega
      refine zs1 (an hrm <| g5) ?_
      exact QQ.condF rfl (QQ.skip fun x w h=>by
       have:=Rel.keep [23,22,5,0,1] [20] h
       rw [List.map_set]
       exact this)
   ·intro σ hσ
    refine QQ.from hσ ?_
    rw [hnew]
    refine zr1 wk ?_
    exact ⟨i+1,(by show i+1≤Y.length;omega),(show Y.length-(i+1)<Y.length-i by omega),fun a w h=>Rel.keep [23,22,5,0,1] [20] h⟩
 ·intro σ hσ
  refine QQ.from hσ ?_
  have htk:List.take Y.length (List.map (fun n=>V.int .u64 n) S)=List.map (fun n=>V.int .u64 n) S:=List.take_of_length_le (by rw [List.length_map];omega)
  refine zs3 (ρ:=fun _=>[.v true (QZ D)]) htk (o:=by repeat' first|exact hT|trivial|constructor) (k:=?_)
  exact QQ.ret (QK.vs rfl (by exact ⟨⟨rfl,id⟩,trivial⟩) rfl)
structure DvJ (d:List Int) (L M Z:Nat) (j:Nat) (A Qs:List Int):Prop where
 le:j≤M
 oA:okW A
 lA:A.length=L
 oQ:okW Qs
 lQ:Qs.length=M
 all:val A+val d*(18446744073709551616^j*val (Qs.drop j))=Z
 up:val (A.drop j)<val d
theorem DvJ.last {d:List Int} {L M Z:Nat} {A Qs:List Int} (h:DvJ d L M Z 0 A Qs) (hd0:0<val d):val A=Z%val d∧val Qs=Z/val d:=by
 have h1:=h.all
 have h2:=h.up
 rw [List.drop_zero,Nat.pow_zero,Nat.one_mul] at h1
 rw [List.drop_zero] at h2
 exact ⟨by rw [←h1,Nat.add_mul_mod_self_left,Nat.mod_eq_of_lt h2],by rw [←h1,Nat.add_mul_div_left _ _ hd0,Nat.div_eq_of_lt h2,Nat.zero_add]⟩
theorem UG (l:List Int) (k:Nat) (hk:k≤l.length):val l=val (l.take k)+18446744073709551616^k*val (l.drop k):=by
 have:=ZK (l.take k) (l.drop k)
 rw [List.take_append_drop,List.length_take,Nat.min_eq_left hk] at this
 exact this
theorem val_sdrop {l:List Int} {j:Nat} {g:Nat} (hj:j<l.length):val ((l.set j (g:Int)).drop j)=g+18446744073709551616*val (l.drop (j+1)):=by
 rw [List.drop_set,if_neg (Nat.lt_irrefl _),Nat.sub_self,List.drop_eq_getElem_cons hj,List.set_cons_zero,val,Int.toNat_natCast]
theorem gs_near {P t3 t2 w0 v0 w vd v1 v2 q g:Nat} (hw:w=w0+P*t3) (hw0:w0<P) (hvd:vd=v0+P*t2) (hv0:v0<P) (ht2:t2=v1*18446744073709551616+v2) (hv1:0<v1) (hlt:w<vd*18446744073709551616)
 (hg:g=w/vd) (hq:q=min 18446744073709551615 (t3/t2)):q=g∨q=g+1:=by
 have ht0:18446744073709551616≤t2:=by omega
 have hvd0:0<vd:=by
  have:=Nat.mul_le_mul_left P ht0
  omega
 have h1:g≤18446744073709551615:=by
  have:g<18446744073709551616:=by rw [hg];exact (Nat.div_lt_iff_lt_mul hvd0).2 (by rw [Nat.mul_comm];exact hlt)
  omega
 have hgw:g*vd≤w:=by rw [hg];exact Nat.div_mul_le_self _ _
 have h2:g≤t3/t2:=digit_le (P:=P) (w:=w) (by rw [hw,Nat.mul_add,Nat.mul_one];omega) (by rw [hvd];omega) (by omega) (by omega) hgw
 have hge:g≤q:=by rw [hq];exact Nat.le_min.2 ⟨h1,h2⟩
 have hq1:q≤18446744073709551615:=by rw [hq];exact Nat.min_le_left _ _
 have hq2:q*t2≤t3:=by
  have:q≤t3/t2:=by rw [hq];exact Nat.min_le_right _ _
  exact (Nat.le_div_iff_mul_le (by omega)).1 this
 have hle:q≤g+1:=by
  rcases Nat.eq_zero_or_pos q with h0|h0
  ·omega
  ·obtain ⟨p,hp⟩ : ∃p,q=p+1:=⟨q-1,by omega⟩
   have h3:p*vd≤w:=by
    have e1:q*vd=q*v0+P*(q*t2):=by rw [hvd,Nat.mul_add,Nat.mul_left_comm]
    have e2:=Nat.mul_le_mul_left P hq2
    have e3:q*v0≤18446744073709551616*P:=Nat.mul_le_mul (by omega) (Nat.le_of_lt hv0)
    have e4:=Nat.mul_le_mul_left P ht0
    rw [hp,Nat.add_mul,Nat.one_mul,←hp] at e1
    omega
   have:p≤g:=by rw [hg];exact (Nat.le_div_iff_mul_le hvd0).2 h3
   omega
 omega
theorem val_top {l:List Int} {n2 a b c:Nat} (ha:l.getD (n2+2) 0=(a:Int)) (hb:l.getD (n2+1) 0=(b:Int)) (hc:l.getD n2 0=(c:Int)) :
 val (l.take (n2+3))=val (l.take n2)+18446744073709551616^n2*(a*18446744073709551616*18446744073709551616+b*18446744073709551616+c):=by
 rw [ZF,ZF,ZF,ha,hb,hc,Int.toNat_natCast,Int.toNat_natCast,Int.toNat_natCast,Nat.pow_succ,Nat.pow_succ,Nat.mul_add,Nat.mul_add]
 have e1:18446744073709551616^n2*18446744073709551616*b=18446744073709551616^n2*(b*18446744073709551616):=by rw [Nat.mul_assoc,Nat.mul_comm b]
 have e2:18446744073709551616^(n2+1)*18446744073709551616*a=18446744073709551616^n2*(a*18446744073709551616*18446744073709551616):=by
  rw [Nat.pow_succ]
  simp only [Nat.mul_assoc,Nat.mul_comm,Nat.mul_left_comm]
 rw [e1,e2]
 omega
theorem val_top2 {l:List Int} {n2 a b:Nat} (ha:l.getD (n2+1) 0=(a:Int)) (hb:l.getD n2 0=(b:Int)) (hl:l.length=n2+2) :
 val l=val (l.take n2)+18446744073709551616^n2*(a*18446744073709551616+b):=by
 have h:l.take (n2+2)=l:=List.take_of_length_le (by omega)
 rw [←h,ZF,ZF,h,ha,hb,Int.toNat_natCast,Int.toNat_natCast,Nat.pow_succ,Nat.mul_add]
 have e1:18446744073709551616^n2*18446744073709551616*a=18446744073709551616^n2*(a*18446744073709551616):=by rw [Nat.mul_assoc,Nat.mul_comm a]
 rw [e1]
 omega
def wdN (v:Nat):Nat→List Int
 | 0=>[]
 | n+1=>((v%18446744073709551616:Nat):Int)::wdN (v/18446744073709551616) n
theorem wdN_ok : ∀(n v:Nat),okW (wdN v n)∧(wdN v n).length=n
 | 0,v=>⟨(fun n hn=>by cases hn),rfl⟩
 | n+1,v=>by
   obtain ⟨h1,h2⟩:=wdN_ok n (v/18446744073709551616)
   refine ⟨fun m hm=>?_,by rw [wdN,List.length_cons,h2]⟩
   rcases List.mem_cons.1 hm with rfl|hm
   ·omega
   ·exact h1 m hm
theorem wdN_eq : ∀ {n v:Nat},v<18446744073709551616^n→val (wdN v n)=v
 | 0,v,h=>by
   have:v=0:=by simpa using h
   rw [this];rfl
 | n+1,v,h=>by
   rw [Nat.pow_succ] at h
   rw [wdN,val,wdN_eq (n:=n) (v:=v/18446744073709551616) (by omega)]
   omega
theorem DvJ.step {d:List Int} {L M Z n2 j:Nat} {A Qs:List Int} (h:DvJ d L M Z (j+1) A Qs) (hd:d.length=n2+2) (hL:M+(n2+2)≤L) (od:okW d) (hd1:0<(d.getD (n2+1) 0).toNat) :
 ∃(a b c v1 v2 g:Nat) (R:List Int),(a≤v1∧b<18446744073709551616∧c<18446744073709551616∧v1<18446744073709551616∧0<v1∧v2<18446744073709551616)∧A[j+(n2+2)]?=some (a:Int)∧A[j+(n2+1)]?=some (b:Int)∧A[j+n2]?=some (c:Int) ∧
  d[n2+1]?=some (v1:Int)∧d[n2]?=some (v2:Int)∧okW R∧R.length=n2+3∧g<18446744073709551616 ∧
  ((gsN a b c v1 v2=g∧val R+gsN a b c v1 v2*val d=val ((A.drop j).take (n2+2+1)))∨(gsN a b c v1 v2=g+1∧val ((A.drop j).take (n2+2+1))<gsN a b c v1 v2*val d∧val R+gsN a b c v1 v2*val d=val ((A.drop j).take (n2+2+1))+val d)) ∧
  DvJ d L M Z j (cpW A R j) (Qs.set j (g:Int)):=by
 have hj:=h.le
 have lA:=h.lA
 have lQ:=h.lQ
 have oD:=X8 h.oA j
 have lD:(A.drop j).length=L-j:=by rw [List.length_drop,lA]
 have hDt:A.drop (j+1)=(A.drop j).drop 1:=by rw [List.drop_drop]
 have gj : ∀k,(A.drop j).getD k 0=A.getD (j+k) 0:=fun k=>Kj A j k
 obtain ⟨a,ea,ba⟩:=Xz (Qy h.oA (j+(n2+2)))
 obtain ⟨b,eb,bb⟩:=Xz (Qy h.oA (j+(n2+1)))
 obtain ⟨c,ec,bc⟩:=Xz (Qy h.oA (j+n2))
 obtain ⟨v1,e1,b1⟩:=Xz (Qy od (n2+1))
 obtain ⟨v2,e2,b2⟩:=Xz (Qy od n2)
 have ga:=QD (l:=A) (i:=j+(n2+2)) (by omega)
 have gb:=QD (l:=A) (i:=j+(n2+1)) (by omega)
 have gc:=QD (l:=A) (i:=j+n2) (by omega)
 have g1:=QD (l:=d) (i:=n2+1) (by omega)
 have g2:=QD (l:=d) (i:=n2) (by omega)
 rw [ea] at ga
 rw [eb] at gb
 rw [ec] at gc
 rw [e1] at g1 hd1
 rw [e2] at g2
 rw [Int.toNat_natCast] at hd1
 have hup:=h.up
 rw [hDt] at hup
 obtain ⟨D,hD⟩ : ∃D,D=A.drop j:=⟨_,rfl⟩
 rw [←hD] at oD lD gj hup ⊢
 have hdl:=ZY od
 rw [hd] at hdl
 have hup0:val ((D.drop 1).drop (n2+2))=0:=by
  have k1:=UG (D.drop 1) (n2+2) (by rw [List.length_drop];omega)
  rcases Nat.eq_zero_or_pos (val ((D.drop 1).drop (n2+2))) with h0|h0
  ·exact h0
  ·have:=Nat.mul_le_mul_left (18446744073709551616^(n2+2)) h0
   omega
 have hDu:val (D.drop (n2+3))=0:=by rw [show D.drop (n2+3)=(D.drop 1).drop (n2+2) from by rw [List.drop_drop];congr 1;omega];exact hup0
 have hDw:=UG D (n2+3) (by omega)
 rw [hDu,Nat.mul_zero,Nat.add_zero] at hDw
 have hD0:D=D.getD 0 0::D.drop 1:=by
  cases D with
  | nil=>simp at lD;omega
  | cons x r=>rfl
 have d0:=Qy oD 0
 have hlt:val D<val d*18446744073709551616:=by rw [hD0,val];omega
 rw [hDw] at hlt
 have ht:=val_top (l:=D) (n2:=n2) (by rw [gj];exact ea) (by rw [gj];exact eb) (by rw [gj];exact ec)
 have ht0:=ZY (Y5 oD n2)
 rw [List.length_take,Nat.min_eq_left (by omega)] at ht0
 have hv:=val_top2 e1 e2 hd
 have hv0:=ZY (Y5 od n2)
 rw [List.length_take,Nat.min_eq_left (by omega)] at hv0
 have hav:a≤v1:=by
  obtain ⟨P,hP⟩ : ∃P,P=18446744073709551616^n2:=⟨_,rfl⟩
  rw [←hP] at ht hv ht0 hv0
  rcases Nat.lt_or_ge v1 a with hc|hc
  ·exfalso
   have k1:=Nat.mul_le_mul_left P (show (v1*18446744073709551616+v2+1)*18446744073709551616≤a*18446744073709551616*18446744073709551616 by
    refine Nat.mul_le_mul_right _ ?_
    have:=Nat.mul_le_mul_right 18446744073709551616 hc
    rw [Nat.succ_mul] at this
    omega)
   have k2:val d*18446744073709551616<P*((v1*18446744073709551616+v2+1)*18446744073709551616):=by
    rw [←Nat.mul_assoc]
    refine (Nat.mul_lt_mul_right (by decide)).2 ?_
    rw [Nat.mul_add,Nat.mul_one];omega
   have k3:=Nat.mul_le_mul_left P (show a*18446744073709551616*18446744073709551616≤a*18446744073709551616*18446744073709551616+b*18446744073709551616+c by omega)
   omega
  ·exact hc
 obtain ⟨w,hw⟩ : ∃w,w=val (D.take (n2+3)):=⟨_,rfl⟩
 rw [←hw] at ht hlt hDw
 have hnear:=gs_near (q:=gsN a b c v1 v2) ht ht0 hv hv0 rfl hd1 hlt rfl rfl
 have hd0:0<val d:=by
  have:=Nat.mul_le_mul_left (18446744073709551616^n2) (show 1≤v1*18446744073709551616+v2 by omega)
  have hp:0<18446744073709551616^n2:=Nat.pow_pos (by decide)
  omega
 have hg64:w/val d<18446744073709551616:=(Nat.div_lt_iff_lt_mul hd0).2 (by rw [Nat.mul_comm];exact hlt)
 have hdm:=Nat.div_add_mod w (val d)
 have hml:=Nat.mod_lt w hd0
 obtain ⟨g,hg⟩ : ∃g,g=w/val d:=⟨_,rfl⟩
 obtain ⟨r,hr⟩ : ∃r,r=w%val d:=⟨_,rfl⟩
 rw [←hg] at hnear hg64 hdm
 rw [←hr] at hdm hml
 have hrl:r<18446744073709551616^(n2+3):=by
  have:18446744073709551616^(n2+2)≤18446744073709551616^(n2+3):=Nat.pow_le_pow_right (by decide) (by omega)
  omega
 have hR:=wdN_ok (n2+3) r
 have vR:=wdN_eq hrl
 obtain ⟨R,hRe⟩ : ∃R,R=wdN r (n2+3):=⟨_,rfl⟩
 rw [←hRe] at hR vR
 have hval:g*val d+r=w:=by rw [Nat.mul_comm];exact hdm
 have l1:(A.take j).length=j:=by rw [List.length_take];omega
 refine ⟨a,b,c,v1,v2,g,R,⟨hav,bb,bc,b1,hd1,b2⟩,ga,gb,gc,g1,g2,hR.1,hR.2,hg64,?_,?_⟩
 ·rw [show n2+2+1=n2+3 from rfl,←hw,vR]
  rcases hnear with hq|hq
  ·exact .inl ⟨hq,by rw [hq];omega⟩
  ·refine .inr ⟨hq,?_,?_⟩
   ·rw [hq,Nat.add_mul,Nat.one_mul];omega
   ·rw [hq,Nat.add_mul,Nat.one_mul];omega
 ·have hAu:A.drop (j+R.length)=D.drop (n2+3):=by rw [hD,List.drop_drop,hR.2]
  refine ⟨Nat.le_of_succ_le hj,?_,by rw [GD (by rw [hR.2];omega),lA],JG h.oQ ⟨Int.natCast_nonneg _,Int.ofNat_lt.2 hg64⟩,by rw [List.length_set,lQ],?_,?_⟩
  ·intro x hx
   rw [cpW] at hx
   rcases List.mem_append.1 hx with hx|hx
   ·exact Y5 h.oA j x hx
   ·rcases List.mem_append.1 hx with hx|hx
    ·exact hR.1 x hx
    ·exact X8 h.oA _ x hx
  ·have hall:=h.all
   have hAj:=UG A j (by omega)
   rw [←hD,hDw] at hAj
   rw [cpW,ZK,ZK,l1,hAu,hDu,Nat.mul_zero,Nat.add_zero,vR,val_sdrop (by rw [lQ];exact hj)]
   obtain ⟨X,hX⟩ : ∃X,X=val (Qs.drop (j+1)):=⟨_,rfl⟩
   rw [←hX] at hall ⊢
   rw [Nat.pow_succ] at hall
   obtain ⟨P,hP⟩ : ∃P,P=18446744073709551616^j:=⟨_,rfl⟩
   rw [←hP] at hall hAj ⊢
   have k1:P*w=P*r+val d*(P*g):=by
    rw [←hval,Nat.mul_add,Nat.mul_left_comm P g,Nat.mul_left_comm (val d) P,Nat.mul_comm (val d) g,Nat.mul_left_comm g P];omega
   rw [Nat.mul_add,Nat.mul_add,←hall,hAj,k1,Nat.mul_assoc]
   omega
  ·rw [cpW,List.drop_left' l1,ZK,hAu,hDu,Nat.mul_zero,Nat.add_zero,vR]
   exact hml
theorem wTrimO_ok (l:List Int) (hl:l.length<1000000) (ol:okW l) (h0':val l≠0) (nm:Nat):QU Tryz.prog 133 [.v (QZ l)] [.own nm 91 1 true ((QX (val l)).map fun n=>.int .u64 n)]:=by
 have h1:=Yv l (by omega)
 have hlen:=ZE l
 have hne:Qg l≠[]:=fun h=>h0' ((FD ol).1 h)
 rw [←Yk ol]
 obtain ⟨m,hm⟩ : ∃m,m=Qg l:=⟨_,rfl⟩
 rw [←hm] at h1 hlen hne ⊢
 refine QU.of Tryz.func133 rfl rfl fun cx w0=>?_
 rw [show Tryz.f133.ntmps=12 from rfl]
 refine zs0 ?_
 refine QQ.seq ?_
 refine zs2 (ρ:=fun _=>[.v false (QZ m)]) (o:=by repeat' first|exact h1|trivial|constructor) (k:=?_)
 have hpos:0<m.length:=List.length_pos_iff.2 hne
 have g:(0:Int)<m.length:=by omega
 have hall:=flatW m
 refine zs1 g ?_
 refine QQ.condT rfl ?_
 refine zs1 (an J7 <| hall) ?_
 exact QQ.ret ⟨_,[(nm,11)],rfl,⟨⟨by simp [UK],rfl,by rw [List.length_map],by simp [St.at,Qu]⟩,trivial⟩,by simp [R.names,R.mems,R.blks],by simp,by simp [R.names,R.mems,R.blks]⟩
set_option maxHeartbeats 4000000 in
theorem wShlO_ok (x:List Int) (s:Nat) (hx:x.length<10000) (hs:s<1000000) (ox:okW x) (h0':val x≠0) (nm:Nat):QU Tryz.prog 55 [.v (QZ x),.v (.int .i64 s)] [.own nm 91 1 true ((QX (val x*2^s)).map fun n=>.int .u64 n)]:=by
 have h1:=Yv x (by omega)
 have lx:=ZE x
 have o1:=Z3 ox
 have hv:=ZD x
 have hz:=FD ox
 obtain ⟨X,hX⟩ : ∃X,X=Qg x:=⟨_,rfl⟩
 rw [←hX] at h1 lx o1 hv hz
 clear hX
 obtain ⟨m,hm⟩ : ∃m,m=s/64:=⟨_,rfl⟩
 obtain ⟨r,hr⟩ : ∃r,r=s%64:=⟨_,rfl⟩
 have hqm:(s:Int).tdiv 64=m:=by rw [hm];exact KF s 64
 have hrm:(s:Int).tmod 64=r:=by rw [hr];exact Gq s 64
 have hpow:(2:Nat)^s=18446744073709551616^m*2^r:=by
  have hs':s=64*m+r:=by omega
  rw [hs',Nat.pow_add,Nat.pow_mul,show (2:Nat)^64=18446744073709551616 from rfl]
 have hrl:r<64:=by omega
 have hml:m<20000:=by omega
 rw [hpow,←hv]
 rw [←hv] at hz
 rw [←hv] at h0'
 clear hpow hm hr ox hv
 obtain ⟨D,hD⟩ : ∃D,D=QX (val X*(18446744073709551616^m*2^r)):=⟨_,rfl⟩
 rw [←hD]
 refine QU.of Tryz.func55 rfl rfl fun cx w0=>?_
 rw [show Tryz.f55.ntmps=58 from rfl]
 refine zs0 ?_
 refine zs2 (ρ:=fun _=>[.v false (QZ X)]) (o:=by repeat' first|exact h1|trivial|constructor) (k:=?_)
 refine QQ.from (σ' := {nt:=58,env:=[(0,.v false (QZ X)),(1,.v true (.int .i64 s))],mem:=[]}) (fun a w h=>Rel.keep [0,1] [] h) ?_
 refine QQ.seq ?_
 have hX0:X≠[]:=fun h=>h0' (by rw [h];rfl)
 have hXp:0<X.length:=List.length_pos_iff.2 hX0
 have gX0 : ¬(X.length:Int)=0:=by omega
 obtain ⟨N,hN⟩ : ∃N,N=X.length+m+1:=⟨_,rfl⟩
 have wN:IntKind.i64.wrap ((X.length:Int)+(m:Int))=((X.length+m:Nat):Int):=by rw [QV] <;> omega
 have wN1:IntKind.i64.wrap (((X.length+m:Nat):Int)+1)=(N:Int):=by rw [QV] <;> omega
 refine zs1 gX0 ?_
 refine QQ.condF rfl (QQ.skip ?_)
 refine QQ.from (σ' := {nt:=58,env:=[(0,.v false (QZ X)),(1,.v true (.int .i64 s))],mem:=[]}) (fun a w h=>Rel.keep [0,1] [] h) ?_
 refine zs1 (an hqm <| an wN <| an wN1 <| J7) ?_
 refine QQ.next (fun σ=>∃Z,ShI X N m r X.length Z ∧ ∀a w,Rel cx w0 σ a w→Rel cx w0 {nt:=58,env:=[(5,.own 19 0 N)],mem:=[(19,.buf 91 1 true (Z.map fun n=>.int .u64 n))]} a w) ?_ ?_
 ·refine zs0 ?_
  refine QQ.loopB (fun q:Nat×List Int => {nt:=58,env:=[(22,.v true (.int .i64 (q.1:Nat))),(21,.v true (.int .i64 (X.length:Nat))),(20,.v false (QZ X)),(5,.own 19 0 N),(1,.v true (.int .i64 s))],mem:=[(19,.buf 91 1 true (q.2.map fun n=>.int .u64 n))]})
   (fun q=>q.1≤X.length∧ShI X N m r q.1 q.2) (fun q=>X.length-q.1) (0,List.replicate N 0)
   ⟨Nat.zero_le _,⟨(fun q hq=>by rw [List.mem_replicate] at hq;omega),List.length_replicate,by rw [FC];simp [val],fun j _=>by rw [List.getD_eq_getElem?_getD,List.getElem?_replicate];split <;> rfl,by
     rw [List.getD_eq_getElem?_getD,List.getElem?_replicate];split <;> exact Nat.pow_pos (by decide)⟩⟩ (fun a w h=>by
     have:=Rel.keep [22,21,20,5,1] [19] h
     have iN:((X.length:Int)+(m:Int)+1).toNat=N:=by omega
     rw [iN] at this
     simp only [List.map_replicate]
     exact this) ?_
  rintro ⟨i,Z⟩ ⟨hi,hI⟩
  simp only at hi hI ⊢
  by_cases hend:i=X.length
  ·have g : ¬(i:Int)<X.length:=by omega
   refine zs1 g ?_
   refine QQ.seq (QQ.condF rfl (QQ.exit ⟨rfl,Z,by rw [←hend];exact hI,fun a w h=>Rel.keep [5] [19] h⟩))
  ·have g:(i:Int)<X.length:=by omega
   obtain ⟨w,hw,hw64⟩:=Xz (Qy o1 i)
   obtain ⟨z,hz1,hz64⟩:=Xz (Qy hI.ok (i+m))
   obtain ⟨hz2,hsum,hnext⟩:=hI.step hrl (by omega) hw hw64 hz1
   have lZ:=hI.len
   have gX:X[i]?=some (w:Int):=by rw [QD (by omega),hw]
   have gZ:Z[i+m]?=some (z:Int):=by rw [QD (by omega),hz1]
   have iz:((i:Int)+(m:Int)).toNat=i+m:=by omega
   have iz1:((i:Int)+(m:Int)+1).toNat=i+m+1:=by omega
   have g1:(0:Int)≤(i:Int)+(m:Int):=by omega
   have g2:(i:Int)+(m:Int)<N:=by omega
   have g3:(0:Int)≤(i:Int)+(m:Int)+1:=by omega
   have g4:(i:Int)+(m:Int)+1<N:=by omega
   have wi:IntKind.i64.wrap ((i:Int)+(m:Int))=(i:Int)+(m:Int):=by rw [QV] <;> omega
   have wi1:IntKind.i64.wrap ((i:Int)+(m:Int)+1)=(i:Int)+(m:Int)+1:=by rw [QV] <;> omega
   have wk:IntKind.i64.wrap ((i:Int)+1)=((i+1:Nat):Int):=by rw [QV] <;> omega
   have hB:2^(64-r)*2^r=18446744073709551616:=by rw [←Nat.pow_add,show 64-r+r=64 from by omega]
   obtain ⟨_,_,s3⟩:=Fu (w:=w) hB (Nat.pow_pos (by decide)) (Nat.pow_pos (by decide))
   have wl:=zD w r hrl
   have wo:Jy .or .u64 (z:Int) ((w*2^r%18446744073709551616:Nat):Int)=((z+w*2^r%18446744073709551616:Nat):Int):=by
    rw [AD,s3,orN _ z r hz2 (by rw [←s3,Nat.add_comm];exact hsum),Nat.add_comm]
   have w64:(64:Int)-(r:Int)=((64-r:Nat):Int):=by omega
   have whi:=D5 w (64-r) (by omega)
   have whi2:IntKind.u64.wrap ((w/2^(64-r):Nat):Int)=((w/2^(64-r):Nat):Int):=YY _ (Nat.lt_of_le_of_lt (Nat.div_le_self _ _) hw64)
   obtain ⟨y,hy⟩ : ∃y,y=z+w*2^r%18446744073709551616:=⟨_,rfl⟩
   obtain ⟨u,hu⟩ : ∃u,u=w/2^(64-r):=⟨_,rfl⟩
   obtain ⟨lo,hlo⟩ : ∃lo,lo=w*2^r%18446744073709551616:=⟨_,rfl⟩
   rw [←hlo] at wl wo hy
   rw [←hy] at wo
   rw [←hlo,←hy,←hu] at hnext
   rw [←hu] at whi whi2
   have hu0:r=0→(Z.set (i+m) (y:Int)).set (i+m+1) (u:Int)=Z.set (i+m) (y:Int):=fun h=>by
    have:u=0:=by rw [hu,h];exact Nat.div_eq_of_lt hw64
    rw [this]
    have e0:(Z.set (i+m) (y:Int))[i+m+1]?=some 0:=by
     rw [QD (by rw [List.length_set];omega),U7 (by omega),if_neg (by omega),hI.zero _ (Nat.le_refl _)]
    exact set_same e0
   refine zs1 g ?_
   refine QQ.seq (QQ.condT rfl (QQ.skip ?_))
   show QQ _ _ _ _ _ _ _
   refine QQ.next (fun σ=>∀a w,Rel cx w0 σ a w→Rel cx w0 {nt:=58,env:=[(22,.v true (.int .i64 (i:Nat))),(21,.v true (.int .i64 (X.length:Nat))),(20,.v false (QZ X)),(5,.own 19 0 N),(1,.v true (.int .i64 s))],mem:=[(19,.buf 91 1 true (((Z.set (i+m) (y:Int)).set (i+m+1) (u:Int)).map fun n=>.int .u64 n))]} a w) ?_ ?_
   ·refine QQ.blockN ?_
    refine zs1 gX ?_
    refine zd1 [] (an hqm <| an hrm <| an wi <| an iz <| an g1 <| an g2 <| an gZ <| an wl <| an wo <| lZ) ?_
    by_cases hr0:r=0
    ·rw [hu0 hr0]
     have g5 : ¬(0:Int)<(r:Int):=by omega
     refine zs1 (an hrm <| g5) ?_
     exact QQ.condF rfl (QQ.skip fun a w h=>by
      have:=Rel.keep [22,21,20,5,1] [19] h
      rw [List.map_set]
      exact this)
    ·have g5:(0:Int)<(r:Int):=by omega
     obtain ⟨Z',hZ'⟩ : ∃Z',Z'=Z.set (i+m) (y:Int):=⟨_,rfl⟩
     have lZ':Z'.length=N:=by rw [hZ',List.length_set,lZ]
     have gZ':=QD (l:=Z') (i:=i+m+1) (by omega)
     refine QQ.from (σ' := {nt:=58,env:=[(6,.v true (.int .i64 (i:Nat))),(7,.v true (.int .u64 w)),(22,.v true (.int .i64 (i:Nat))),(21,.v true (.int .i64 (X.length:Nat))),(20,.v false (QZ X)),(5,.own 19 0 N),(1,.v true (.int .i64 s))],mem:=[(19,.buf 91 1 true (Z'.map fun n=>.int .u64 n))]}) (fun a w h=>by
      have:=Rel.keep [6,7,22,21,20,5,1] [19] h
      rw [hZ',List.map_set]
      exact this) ?_
     rw [←hZ']
     refine zs1 (an hrm <| g5) ?_
     refine QQ.condT rfl ?_
     refine zr1 (an hqm <| an hrm <| an wi <| an wi1 <| an iz1 <| an g3 <| an g4 <| an w64 <| an whi <| an whi2 <| an lZ' <| gZ') ?_
     intro a w h
     have:=Rel.keep [22,21,20,5,1] [19] h
     rw [List.map_set]
     exact this
   ·intro σ hσ
    refine QQ.from hσ ?_
    refine zr1 wk ?_
    exact ⟨(i+1,_),⟨by show i+1≤X.length;omega,hnext⟩,(show X.length-(i+1)<X.length-i by omega),fun a w h=>Rel.keep [22,21,20,5,1] [19] h⟩
 ·rintro σ ⟨Z,hI,hσ⟩
  refine QQ.from hσ ?_
  have hT:=wTrimO_ok Z (by rw [hI.len];omega) hI.ok (by rw [hI.all,List.take_length];exact Nat.mul_ne_zero h0' (Nat.ne_of_gt (Nat.mul_pos (Nat.pow_pos (by decide)) (Nat.pow_pos (by decide))))) 500
  rw [hI.all,List.take_length,←hD] at hT
  have lZ:=hI.len
  have htk:List.take N (List.map (fun n=>V.int .u64 n) Z)=List.map (fun n=>V.int .u64 n) Z:=List.take_of_length_le (by rw [List.length_map];omega)
  refine zs3 (ρ:=fun _=>[.own 500 91 1 true (D.map fun n=>.int .u64 n)]) htk (o:=by repeat' first|exact hT|trivial|constructor) (k:=?_)
  exact QQ.ret ⟨_,[(nm,500)],rfl,⟨⟨by simp [UK],rfl,by rw [List.length_map],by simp [St.at,Qu]⟩,trivial⟩,by simp [R.names,R.mems,R.blks],by simp,by simp [R.names,R.mems,R.blks]⟩
end Go.Proofs.YtlpolbeikangpaaGreatDoor.L
