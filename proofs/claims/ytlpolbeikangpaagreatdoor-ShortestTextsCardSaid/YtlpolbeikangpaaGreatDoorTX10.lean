/-
  Zm Zn Zo Zp Zr Zs Zt Zu Lzq Fa Fb
-/
import Derived.Test.YtlpolbeikangpaaGreatDoorTX4
import Derived.Test.YtlpolbeikangpaaGreatDoorTX9
import Derived.Test.YtlpolbeikangpaaGreatDoorTX8
import Derived.Test.YtlpolbeikangpaaGreatDoorTX5
import Derived.Test.YtlpolbeikangpaaGreatDoorTX3
import Derived.Laws.RangeString
import Derived.Test.YtlpolbeikangpaaGreatDoorTX7
import Derived.Test.YtlpolbeikangpaaGreatDoorRows
import Derived.Test.YtlpolbeikangpaaGreatDoorTX1
import Derived.ProofKit
import Derived.OpenShut
import Derived.LaidMore
import Derived.Lay
import Derived.SevenTiedAt
import Derived.Stop.Joined
set_option linter.unusedSimpArgs false
set_option linter.unusedVariables false
set_option maxRecDepth 100000
namespace Go.Proofs.YtlpolbeikangpaaGreatDoor.L
open Go Go.RowKit Go.Proofs
attribute [local go_sem] Yq YQ JY JX JU JV XF Q4 ZB QH Jx Y4 St.opv St.get St.at Qu Xu St.put St.upd St.set decide_true List.all_nil List.all_cons Bool.and_true Bool.true_and and_self and_true true_and if_true if_false true_or Int.sub_zero List.nil_append List.cons_append List.append_nil Option.isSome_some List.getElem?_toArray List.getElem?_cons_succ List.getElem?_cons_zero Option.bind_some Option.map_some Option.map_none beq_self_eq_true Bool.false_beq Bool.true_beq Bool.not_true Bool.not_false Bool.false_eq_true cond_true cond_false DJ D3 List.map_cons List.map_nil YZ List.length_nil List.length_cons Nat.zero_mul Nat.one_mul Nat.mul_one Nat.zero_add Nat.add_zero Nat.zero_le Option.toList St.freshB AV.ment AV.ments Blk.ment V.sizes Nat.lt_add_one Bool.or_true Bool.true_or Bool.or_false Bool.false_or Bool.or_self if_pos if_neg decide_false decide_eq_true decide_eq_false QV Int.toNat_natCast FQ E7 Int.natCast_add Int.cast_ofNat_Int Option.isSome_none false_implies true_implies forall_const List.drop_zero Int.toNat_zero Int.add_sub_cancel Gy XK XE ZX Ug KH V.atP V.offP V.size List.length_map List.getElem?_map Int.toNat_natCast_add_one Int.ofNat_eq_natCast TY Y8 Qd U8 Z6 ZC Uu UH R.res R.mems R.blks R.av R.names R.nw XC XU Vz ZZ Ku V.off V.offs V.setP List.set_cons_zero List.set_cons_succ VH Yz YF YH KQ VC VG Kv AV.pure List.take_succ_cons List.take_zero Gz QZ unA U4 List.zipIdx_cons List.zipIdx_nil Arg.av Arg.avs
theorem trR_snoc (l:List UInt8) (c:UInt8):trR (l++[c])=if c=48 then trR l else l++[c]:=by
 unfold trR Lib.trimRightB
 rw [List.reverse_append,List.reverse_singleton,List.singleton_append,List.dropWhile_cons]
 by_cases h:c=48
 ·rw [if_pos h,if_pos (by simp [h])]
 ·rw [if_neg h,if_neg (by simp [h]),List.reverse_cons,List.reverse_reverse]
theorem trR_len (l:List UInt8):(trR l).length≤l.length:=by
 unfold trR Lib.trimRightB
 rw [List.length_reverse]
 have:=(List.dropWhile_sublist (fun x=>x == (48:UInt8)) (l:=l.reverse)).length_le
 rw [List.length_reverse] at this
 exact this
theorem CV {l:List UInt8} {n:Nat} (h:n<l.length):trR (l.take (n+1))=if l[n]=48 then trR (l.take n) else l.take (n+1):=by
 rw [List.take_succ_eq_append_getElem h,trR_snoc]
set_option maxHeartbeats 1000000 in
theorem rTrim25_ok (l:List UInt8) (hl:l.length<1000000) (h0:0<l.length) (h1:l[0]≠48):QU Tryz.prog 93 [.v (.str (bs l))] [.v true (.str (bs (trR l)))]:=by
 have hsz:=Qx l
 have hget : ∀k (h:k<l.length),(bs l)[k]?=some (l[k]'h):=fun k h=>by
  rw [getElem?_pos (bs l) k (by rw [Qx];exact h)]
  show some (l.toArray[k]'_)=_
  simp
 have hext : ∀n,(bs l).extract 0 n=bs (l.take n):=fun n=>by rw [Yy,List.drop_zero,Nat.sub_zero]
 have htr:trR l=trR (l.take l.length):=by rw [List.take_length]
 obtain ⟨t,ht⟩ : ∃t,t=bs (trR l):=⟨_,rfl⟩
 rw [←ht]
 obtain ⟨s,hs⟩ : ∃s,s=bs l:=⟨_,rfl⟩
 rw [←hs] at hsz hget hext ⊢
 refine QU.of Tryz.func93 rfl rfl fun cx w0=>?_
 rw [show Tryz.f93.ntmps=20 from rfl]
 refine zs0 ?_
 refine zs0 ?_
 refine QQ.next (fun σ=>∃n:Nat,n≤l.length∧s.extract 0 n=t ∧ ∀a w,Rel cx w0 σ a w→Rel cx w0 {nt:=20,env:=[(3,.v true (.int .i64 n)),(0,.v true (.str s))],mem:=[]} a w) ?_ ?_
 ·have e0:((s.size:Nat):Int)=((l.length:Nat):Int):=by rw [hsz]
  refine QQ.loopB (fun n:Nat => {nt:=20,env:=[(3,.v true (.int .i64 n)),(0,.v true (.str s))],mem:=[]}) (fun n=>1≤n∧n≤l.length∧trR (l.take n)=trR l) (fun n=>n) l.length ⟨h0,Nat.le_refl _,htr.symm⟩ (fun a w h=>by rw [←e0];exact Rel.keep [3,0] [] h) ?_
  rintro n ⟨hn1,hn2,hn3⟩
  refine QQ.seq ?_
  by_cases hone:n=1
  ·subst hone
   have hfin:s.extract 0 1=t:=by
    rw [hext,ht,←hn3,show (1:Nat)=0+1 from rfl,CV h0,if_neg h1]
   refine zs0 ?_
   exact QQ.condF rfl (QQ.exit ⟨rfl,1,hn2,hfin,fun a w h=>Rel.keep [3,0] [] h⟩)
  ·have g1:(1:Int)<n:=by omega
   have w1:(n:Int)-1=((n-1:Nat):Int):=by omega
   have gb:s[n-1]?=some (l[n-1]'(by omega)):=hget (n-1) (by omega)
   have gi:((n-1:Nat):Int)<s.size:=by omega
   have htg:=CV (l:=l) (n:=n-1) (by omega)
   rw [show n-1+1=n from by omega] at htg
   obtain ⟨c,hc⟩ : ∃c,c=l[n-1]'(by omega):=⟨_,rfl⟩
   rw [←hc] at gb htg
   by_cases hz:c=48
   ·rw [if_pos hz,hn3] at htg
    subst hz
    have gc:((48:UInt8).toNat:Int)=48:=rfl
    refine QQ.step (Px:=px) (T:=TT) (ρ:=fun _=>[]) TTe (by simp (maxSteps:=100000) (disch:=omega) only [go_sem,V.isAgg,V.flat,↓reduceIte,Nat.reduceAdd,Nat.reduceSub,Nat.reduceLT,Nat.reduceEqDiff,reduceCtorEq,Nat.reduceLeDiff,Nat.reduceBEq,Nat.reduceMul,Int.reduceToNat,g1,w1,JD,gb,gi,gc];rfl) (by repeat' first|exact trivial|constructor) ?_
    refine QQ.condT rfl (QQ.skip ?_)
    refine QQ.block ?_
    refine zr1 w1 ?_
    exact ⟨n-1,⟨by omega,by omega,htg.symm⟩,(show n-1<n by omega),fun a w h=>Rel.keep [3,0] [] h⟩
   ·rw [if_neg hz,hn3] at htg
    have hfin:s.extract 0 n=t:=by rw [hext,ht,htg]
    have gc : ¬(c.toNat:Int)=48:=fun h=>hz (by
     have:c.toNat=48:=by omega
     exact UInt8.toNat_inj.1 (by rw [this];rfl))
    refine QQ.step (Px:=px) (T:=TT) (ρ:=fun _=>[]) TTe (by simp (maxSteps:=100000) (disch:=omega) only [go_sem,V.isAgg,V.flat,↓reduceIte,Nat.reduceAdd,Nat.reduceSub,Nat.reduceLT,Nat.reduceEqDiff,reduceCtorEq,Nat.reduceLeDiff,Nat.reduceBEq,Nat.reduceMul,Int.reduceToNat,g1,w1,JD,gb,gi,gc];rfl) (by repeat' first|exact trivial|constructor) ?_
    exact QQ.condF rfl (QQ.exit ⟨rfl,n,hn2,hfin,fun a w h=>Rel.keep [3,0] [] h⟩)
 ·rintro σ ⟨n,hn,hfin,hσ⟩
  refine QQ.from hσ ?_
  have hle:(n:Int)≤s.size:=by omega
  refine zs1 (an hle <| hfin) ?_
  exact QQ.ret (QK.vs rfl (by exact ⟨⟨rfl,id⟩,trivial⟩) rfl)
set_option maxHeartbeats 2000000 in
theorem fEqualG_ok (k1 k2:Int) (n1 n2:Bool) (e1 e2:Int) (l1 l2:List Int) (hl:l1.length<100000):QU Tryz.prog 234 [.v (Q9 k1 n1 e1 l1),.v (Q9 k2 n2 e2 l2)] [.v true (.bool (decide (k1=k2∧n1=n2∧e1=e2∧l1=l2)))]:=by
 unfold Q9
 by_cases hk:k1=k2
 ·by_cases hn:n1=n2
  ·by_cases he:e1=e2
   ·by_cases hll:l1.length=l2.length
    ·subst hk;subst hn;subst he
     have hd:decide (k1=k1∧n1=n1∧e1=e1∧l1=l2)=decide (l1=l2):=decide_eq_decide.2 (by simp)
     rw [hd]
     clear hd
     refine QU.of Tryz.func234 rfl rfl fun cx w0=>?_
     rw [show Tryz.f234.ntmps=52 from rfl]
     refine zs0 ?_
     refine QQ.seq ?_
     refine QQ.step (Px:=px) (T:=TT) (ρ:=fun _=>[]) TTe (by simp (maxSteps:=100000) (disch:=omega) only [go_sem,V.isAgg,V.flat,↓reduceIte,Nat.reduceAdd,Nat.reduceSub,Nat.reduceLT,Nat.reduceEqDiff,reduceCtorEq,Nat.reduceLeDiff,Nat.reduceBEq,Nat.reduceMul,Int.reduceToNat,eq_self,hll];rfl) (by repeat' first|exact trivial|constructor) ?_
     refine QQ.condF rfl (QQ.skip ?_)
     show QQ _ _ _ _ _ _ _
     refine QQ.next (fun σ=>l1=l2 ∧ ∀a w,Rel cx w0 σ a w→Rel cx w0 {nt:=52,env:=[],mem:=[]} a w) ?_ ?_
     ·refine zs0 ?_
      refine QQ.loopB (fun i:Nat => {nt:=52,env:=[(5,.v true (.int .i64 (i:Nat))),(2,.ptr 2 0 [] 0),(3,.ptr 3 0 [] 0)],mem:=[(2,.box 38 (.v false (.agg [.int .i64 k1,.bool n1,.int .i64 e1,QZ l1]))),(3,.box 38 (.v false (.agg [.int .i64 k1,.bool n1,.int .i64 e1,QZ l2])))]}) (fun i=>i≤l1.length∧l1.take i=l2.take i) (fun i=>l1.length-i) 0 ⟨Nat.zero_le _,by simp⟩ (fun a w h=>Rel.keep [5,2,3] [2,3] h) ?_
      rintro i ⟨hi,hpre⟩
      refine QQ.seq ?_
      by_cases hend:i=l1.length
      ·have g : ¬(i:Int)<l1.length:=by omega
       have heq:l1=l2:=by rw [hend,List.take_length,hll,List.take_length] at hpre;exact hpre
       refine zs1 g ?_
       exact QQ.condF rfl (QQ.exit ⟨rfl,heq,fun a w h=>Rel.keep [] [] h⟩)
      ·have g:(i:Int)<l1.length:=by omega
       have g2':(i:Int)<l2.length:=by omega
       have gL:=QD (l:=l1) (i:=i) (by omega)
       have gM:=QD (l:=l2) (i:=i) (by omega)
       have hs1:l1.take (i+1)=l1.take i++[l1.getD i 0]:=by rw [List.take_succ_eq_append_getElem (by omega),List.getD_eq_getElem?_getD,List.getElem?_eq_getElem (by omega)];rfl
       have hs2:l2.take (i+1)=l2.take i++[l2.getD i 0]:=by rw [List.take_succ_eq_append_getElem (by omega),List.getD_eq_getElem?_getD,List.getElem?_eq_getElem (by omega)];rfl
       obtain ⟨x,hx⟩ : ∃z,z=l1.getD i 0:=⟨_,rfl⟩
       obtain ⟨y,hy⟩ : ∃z,z=l2.getD i 0:=⟨_,rfl⟩
       rw [←hx] at gL hs1
       rw [←hy] at gM hs2
       have wk:IntKind.i64.wrap ((i:Int)+1)=((i+1:Nat):Int):=by rw [QV] <;> omega
       refine zs1 g ?_
       refine QQ.condT rfl (QQ.skip ?_)
       show QQ _ _ _ _ _ _ _
       refine QQ.next (fun σ=>l1.take (i+1)=l2.take (i+1) ∧ ∀a w,Rel cx w0 σ a w→Rel cx w0 {nt:=52,env:=[(5,.v true (.int .i64 (i:Nat))),(2,.ptr 2 0 [] 0),(3,.ptr 3 0 [] 0)],mem:=[(2,.box 38 (.v false (.agg [.int .i64 k1,.bool n1,.int .i64 e1,QZ l1]))),(3,.box 38 (.v false (.agg [.int .i64 k1,.bool n1,.int .i64 e1,QZ l2])))]} a w) ?_ ?_
       ·refine QQ.blockN ?_
        by_cases hxy:x=y
        ·rw [←hxy] at gM
         have:l1.take (i+1)=l2.take (i+1):=by rw [hs1,hs2,hpre,hxy]
         refine QQ.dstep (Px:=px) (T:=TT) (ρ:=fun _=>[]) [] mixed (by kernel_rfl) TTe (by simp (maxSteps:=100000) (disch:=omega) only [go_sem,V.isAgg,V.flat,↓reduceIte,Nat.reduceAdd,Nat.reduceSub,Nat.reduceLT,Nat.reduceEqDiff,reduceCtorEq,Nat.reduceLeDiff,Nat.reduceBEq,Nat.reduceMul,Int.reduceToNat,gL,gM,g2',eq_self];rfl) (by repeat' first|exact trivial|constructor) (by rfl) (by rfl) (by rfl) ?_
         exact QQ.condF rfl (QQ.skip ⟨this,fun a w h=>Rel.keep [5,2,3] [2,3] h⟩)
        ·have hne:decide (l1=l2)=false:=decide_eq_false fun h=>hxy (by rw [hx,hy,h])
         rw [hne]
         refine zd1 [] (an gL <| an gM <| an g2' <| hxy) ?_
         refine QQ.condT rfl ?_
         refine zs0 ?_
         exact QQ.ret (QK.vs rfl (by exact ⟨⟨rfl,id⟩,trivial⟩) rfl)
       ·rintro σ ⟨hp,hσ⟩
        refine QQ.from hσ ?_
        refine zr1 wk ?_
        exact ⟨i+1,⟨(by show i+1≤l1.length;omega),hp⟩,(show l1.length-(i+1)<l1.length-i by omega),fun a w h=>Rel.keep [5,2,3] [2,3] h⟩
     ·rintro σ ⟨heq,hσ⟩
      refine QQ.from hσ ?_
      rw [decide_eq_true heq]
      refine zs0 ?_
      exact QQ.ret (QK.vs rfl (by exact ⟨⟨rfl,id⟩,trivial⟩) rfl)
    ·rw [decide_eq_false (fun h=>hll (by rw [h.2.2.2]))]
     have g : ¬(l1.length:Int)=(l2.length:Int):=by omega
     subst hk;subst hn;subst he
     refine QU.of Tryz.func234 rfl rfl fun cx w0=>?_
     rw [show Tryz.f234.ntmps=52 from rfl]
     refine zs0 ?_
     refine QQ.seq ?_
     refine QQ.step (Px:=px) (T:=TT) (ρ:=fun _=>[]) TTe (by simp (maxSteps:=100000) (disch:=omega) only [go_sem,V.isAgg,V.flat,↓reduceIte,Nat.reduceAdd,Nat.reduceSub,Nat.reduceLT,Nat.reduceEqDiff,reduceCtorEq,Nat.reduceLeDiff,Nat.reduceBEq,Nat.reduceMul,Int.reduceToNat,eq_self,g];rfl) (by repeat' first|exact trivial|constructor) ?_
     refine QQ.condT rfl ?_
     refine zs0 ?_
     exact QQ.ret (QK.vs rfl (by exact ⟨⟨rfl,id⟩,trivial⟩) rfl)
   ·rw [decide_eq_false (fun h=>he h.2.2.1)]
    subst hk;subst hn
    refine QU.of Tryz.func234 rfl rfl fun cx w0=>?_
    rw [show Tryz.f234.ntmps=52 from rfl]
    refine zs0 ?_
    refine QQ.seq ?_
    refine QQ.step (Px:=px) (T:=TT) (ρ:=fun _=>[]) TTe (by simp (maxSteps:=100000) (disch:=omega) only [go_sem,V.isAgg,V.flat,↓reduceIte,Nat.reduceAdd,Nat.reduceSub,Nat.reduceLT,Nat.reduceEqDiff,reduceCtorEq,Nat.reduceLeDiff,Nat.reduceBEq,Nat.reduceMul,Int.reduceToNat,eq_self,he];rfl) (by repeat' first|exact trivial|constructor) ?_
    refine QQ.condT rfl ?_
    refine zs0 ?_
    exact QQ.ret (QK.vs rfl (by exact ⟨⟨rfl,id⟩,trivial⟩) rfl)
  ·rw [decide_eq_false (fun h=>hn h.2.1)]
   subst hk
   refine QU.of Tryz.func234 rfl rfl fun cx w0=>?_
   rw [show Tryz.f234.ntmps=52 from rfl]
   refine zs0 ?_
   refine QQ.seq ?_
   cases n1 with
   | true =>
     cases n2 with
     | true=>exact absurd rfl hn
     | false =>
       refine QQ.step (Px:=px) (T:=TT) (ρ:=fun _=>[]) TTe (by simp (maxSteps:=100000) (disch:=omega) only [go_sem,V.isAgg,V.flat,↓reduceIte,Nat.reduceAdd,Nat.reduceSub,Nat.reduceLT,Nat.reduceEqDiff,reduceCtorEq,Nat.reduceLeDiff,Nat.reduceBEq,Nat.reduceMul,Int.reduceToNat,eq_self];rfl) (by repeat' first|exact trivial|constructor) ?_
       refine QQ.condT rfl ?_
       refine zs0 ?_
       exact QQ.ret (QK.vs rfl (by exact ⟨⟨rfl,id⟩,trivial⟩) rfl)
   | false =>
     cases n2 with
     | false=>exact absurd rfl hn
     | true =>
       refine QQ.step (Px:=px) (T:=TT) (ρ:=fun _=>[]) TTe (by simp (maxSteps:=100000) (disch:=omega) only [go_sem,V.isAgg,V.flat,↓reduceIte,Nat.reduceAdd,Nat.reduceSub,Nat.reduceLT,Nat.reduceEqDiff,reduceCtorEq,Nat.reduceLeDiff,Nat.reduceBEq,Nat.reduceMul,Int.reduceToNat,eq_self];rfl) (by repeat' first|exact trivial|constructor) ?_
       refine QQ.condT rfl ?_
       refine zs0 ?_
       exact QQ.ret (QK.vs rfl (by exact ⟨⟨rfl,id⟩,trivial⟩) rfl)
 ·rw [decide_eq_false (fun h=>hk h.1)]
  refine QU.of Tryz.func234 rfl rfl fun cx w0=>?_
  rw [show Tryz.f234.ntmps=52 from rfl]
  refine zs0 ?_
  refine QQ.seq ?_
  refine zs1 hk ?_
  refine QQ.condT rfl ?_
  refine zs0 ?_
  exact QQ.ret (QK.vs rfl (by exact ⟨⟨rfl,id⟩,trivial⟩) rfl)
def FltG (k:Nat) (e:Int) (m:Nat):Prop:=(k=1∧trN m=0∧0<m∧(QX m).length<4000 ∧ -1000000<e∧e<1000000)∨((k=0∨k=2)∧e=0∧m=0)
theorem FltG.c {k:Nat} {e:Int} {m:Nat} (h:FltG k e m):FltC k e m:=by
 rcases h with ⟨a,b,c,d,e,f⟩|⟨a,b,c⟩
 ·exact .inl ⟨a,b,c,by omega,by omega,by omega⟩
 ·exact .inr ⟨by omega,b,c⟩
theorem FltG.good {k:Nat} {e:Int} {m:Nat} (h:FltG k e m) (neg:Bool):QU Tryz.prog 67 [.v (YG k neg e m)] [.v true (.bool true)]:=by
 have hl:(QX m).length<5000:=by
  rcases h with ⟨_,_,_,h,_⟩|⟨_,_,rfl⟩
  ·omega
  ·decide
 have:=fGood_ok k neg e (QX m) hl (QY m).1
 rw [(QY m).2.2] at this
 have hc:cnB k neg e m=true:=by
  unfold cnB
  rcases h with ⟨rfl,ht,h0,_,h1,h2⟩|⟨hk,rfl,rfl⟩
  ·rw [if_neg (by omega),if_neg (by omega),if_pos (by omega),ht]
   exact decide_eq_true ⟨by omega,by omega,by omega,by omega⟩
  ·rw [if_pos (by omega)]
   exact decide_eq_true ⟨rfl,rfl⟩
 rw [hc] at this
 exact this
set_option maxHeartbeats 1000000 in
theorem fSameG_ok {k1 k2:Nat} (n1 n2:Bool) {e1 e2:Int} {m1 m2:Nat} (h1:FltG k1 e1 m1) (h2:FltG k2 e2 m2):QU Tryz.prog 176 [.v (YG k1 n1 e1 m1),.v (YG k2 n2 e2 m2)] [.v true (.bool (decide (k1=k2∧n1=n2∧e1=e2∧m1=m2)))]:=by
 have g1:=h1.good n1
 have g2:=h2.good n2
 have c1:=h1.c.canon (neg:=n1)
 have c2:=h2.c.canon (neg:=n2)
 have hE:=fEqualG_ok k1 k2 n1 n2 e1 e2 (QX m1) (QX m2) h1.c.len
 have hd:decide ((k1:Int)=k2∧n1=n2∧e1=e2∧QX m1=QX m2)=decide (k1=k2∧n1=n2∧e1=e2∧m1=m2):=decide_eq_decide.2 ⟨fun h=>⟨by omega,h.2.1,h.2.2.1,by
  have:=congrArg val h.2.2.2
  rw [(QY _).2.2,(QY _).2.2] at this
  exact this⟩,fun h=>⟨by omega,h.2.1,h.2.2.1,by rw [h.2.2.2]⟩⟩
 rw [hd,←yX,←yX] at hE
 obtain ⟨b,hb⟩ : ∃b,b=decide (k1=k2∧n1=n2∧e1=e2∧m1=m2):=⟨_,rfl⟩
 rw [←hb] at hE ⊢
 unfold YG QZ at g1 g2 c1 c2 hE ⊢
 obtain ⟨L1,hL1⟩ : ∃L,L=(QX m1).map fun n=>V.int .u64 n:=⟨_,rfl⟩
 obtain ⟨L2,hL2⟩ : ∃L,L=(QX m2).map fun n=>V.int .u64 n:=⟨_,rfl⟩
 rw [←hL1] at g1 c1 hE ⊢
 rw [←hL2] at g2 c2 hE ⊢
 clear hL1 hL2 hb hd h1 h2
 refine QU.of Tryz.func176 rfl rfl fun cx w0=>?_
 rw [show Tryz.f176.ntmps=18 from rfl]
 refine zs0 ?_
 refine zd2 [] (ρ:=fun d=>if d=6 then [.v true (.bool true)] else if d=9 then [.v true (.bool true)] else if d=13 then [.v true (.agg [.int .i64 (k1:Nat),.bool n1,.int .i64 e1,.sl 1 L1])] else if d=15 then [.v true (.agg [.int .i64 (k2:Nat),.bool n2,.int .i64 e2,.sl 1 L2])] else [.v true (.bool b)]) (o:=by repeat' first|exact g1|exact g2|exact c1|exact c2|exact hE|trivial|constructor) (k:=?_)
 exact QQ.ret (QK.vs rfl (by exact ⟨⟨rfl,id⟩,trivial⟩) rfl)
theorem fPlus_ok (neg:Bool) (e:Int) (l:List Int) (m:Nat) (ex:Int) (h:Raw e l m ex) (hx : -20000≤ex∧ex≤20000):QU Tryz.prog 177 [.v (Q9 1 neg e l)] [.v false (YG 1 false ex m)]:=by
 have hC:=JC neg e l (by have:=h.ll;omega) h.ol (h.bd (by omega))
 rw [←h.em,←h.ee] at hC
 unfold YG Q9 QZ at hC
 unfold YG Q9 QZ
 obtain ⟨M,hM⟩ : ∃M,M=(QX m).map fun n=>V.int .u64 n:=⟨_,rfl⟩
 obtain ⟨L,hL⟩ : ∃L,L=l.map fun n=>V.int .u64 n:=⟨_,rfl⟩
 rw [←hM,←hL] at hC
 rw [←hM,←hL]
 clear hM hL h
 refine QU.of Tryz.func177 rfl rfl fun cx w0=>?_
 rw [show Tryz.f177.ntmps=7 from rfl]
 refine zs0 ?_
 refine zs2 (ρ:=fun _=>[.v true (.agg [.int .i64 1,.bool neg,.int .i64 ex,.sl 1 M])]) (o:=by repeat' first|exact hC|trivial|constructor) (k:=?_)
 refine zs0 ?_
 refine zs0 ?_
 exact QQ.ret (QK.vs rfl (by exact ⟨⟨rfl,by simp⟩,trivial⟩) rfl)
theorem isE_bd {num den B:Nat} {e:Int} (hn:0<num) (hd:0<den) (hnl:num<2^B) (hdl:den<2^B) (hE:IsE num den e) : -(B:Int)-2≤e∧e≤B:=by
 constructor
 ·rcases Int.lt_or_le e (-(B:Int)-2) with h1|h1
  ·exfalso
   obtain ⟨k,hk⟩ : ∃k:Nat,e = -(k:Int):=⟨(-e).toNat,by omega⟩
   have h2:=(hE 0 k (by omega)).2
   rw [Nat.zero_add,Nat.pow_one] at h2
   have h3:2^k≤num*2^k:=Nat.le_mul_of_pos_left _ hn
   have h4:(2:Nat)^k<2^(B+1):=by rw [Nat.pow_succ];omega
   have:=Kz h4
   omega
  ·exact h1
 ·rcases Int.lt_or_le (B:Int) e with h1|h1
  ·exfalso
   obtain ⟨k,hk⟩ : ∃k:Nat,e=(k:Int):=⟨e.toNat,by omega⟩
   have h2:=(hE k 0 (by omega)).1
   rw [Nat.pow_zero,Nat.mul_one] at h2
   have h3:2^k≤den*2^k:=Nat.le_mul_of_pos_left _ hd
   have h4:(2:Nat)^k<2^B:=by omega
   have:=Kz h4
   omega
  ·exact h1
theorem fRnd_G {K p:Nat} (hK:1≤K∧K≤14) (hP:2≤p∧p≤256) (num den:Nat) (e:Int) :
 FltG (Vu p (gK K) 0 false num den 0 e).1 (Vu p (gK K) 0 false num den 0 e).2.2.1 (Vu p (gK K) 0 false num den 0 e).2.2.2.1∧(Vu p (gK K) 0 false num den 0 e).2.1=false:=by
 have hG:=U6 hK
 unfold Vu
 split
 ·exact ⟨.inr ⟨.inr rfl,rfl,rfl⟩,rfl⟩
 ·next h1 =>
  split
  ·exact ⟨.inr ⟨.inl rfl,rfl,rfl⟩,rfl⟩
  ·next h2 =>
   obtain ⟨N,hN⟩ : ∃N,N=fN 0 false num den (0-fU p (gK K) e):=⟨_,rfl⟩
   rw [←hN] at h1 h2 ⊢
   have hu:fU p (gK K) e=max e (1-gK K)-p+1:=rfl
   obtain ⟨u,hu'⟩ : ∃u,u=fU p (gK K) e:=⟨_,rfl⟩
   rw [←hu'] at h1 hu ⊢
   have hN0:0<N:=by omega
   obtain ⟨c,hc⟩:=Uv hN0
   have hp:0<2^trN N:=Nat.pow_pos (by decide)
   have hm:N/2^trN N=2*c+1:=Nat.div_eq_of_eq_mul_left hp hc
   have hNl:N<2^(gK K+1-u).toNat:=by omega
   have ht:trN N<(gK K+1-u).toNat:=by
    refine Kz (Nat.lt_of_le_of_lt ?_ hNl)
    conv=>rhs;rw [hc]
    exact Nat.le_mul_of_pos_left _ (by omega)
   have hmN:N/2^trN N<2^(gK K+1-u).toNat:=Nat.lt_of_le_of_lt (Nat.div_le_self _ _) hNl
   refine ⟨.inl ⟨rfl,?_,?_,?_,?_,?_⟩,rfl⟩
   ·show trN (N/2^trN N)=0
    exact J8 (c:=c) (by rw [hm,Nat.pow_zero,Nat.mul_one])
   ·show 0<N/2^trN N
    omega
   ·show (QX (N/2^trN N)).length<4000
    have:=QC hmN (n:=600) (by omega)
    omega
   ·show -1000000<u+(trN N:Int)
    omega
   ·show u+(trN N:Int)<1000000
    omega
def Ek (K:Nat) (m:Nat) (ex u:Int) (n:Nat) (s:Int) (k:Nat):Bool:=decide (k≠0∧inK n (fB (gK K) m (ex+blN m-1)) u s k)
theorem ho_n {K p m n:Nat} {ex u a:Int} (h:ShH K p m ex u n a) (ho:hoI K p ex m=true):n<2^p∧ex+blN m-1≤gK K:=by
 have ho:=of_decide_eq_true ho
 have hu:=h.hu
 unfold fU at hu
 have b3:m<2^blN m:=by rw [blN,if_neg (Nat.ne_of_gt h.fl.m0)];exact Nat.lt_log2_self
 obtain ⟨b1,b2⟩:=U3 h.fl.m0
 refine ⟨?_,ho.2.2⟩
 rw [h.hn]
 have h1:m*2^(ex-u).toNat<2^blN m*2^(ex-u).toNat:=Nat.mul_lt_mul_of_pos_right b3 (Nat.pow_pos (by decide))
 rw [←Nat.pow_add] at h1
 exact Nat.lt_of_lt_of_le h1 (Nat.pow_le_pow_right (by decide) (by have:=h.hue;omega))
theorem rin_val {K p m n kk:Nat} {ex u a s e':Int} (h:ShH K p m ex u n a) (ho:hoI K p ex m=true) (ht:trN m=0) (hk:0<kk) (hE:IsE (kk*10^s.toNat) (10^(-s).toNat) e') :
 decide ((Vu p (gK K) 0 false (kk*10^s.toNat) (10^(-s).toNat) 0 e').1=1∧(Vu p (gK K) 0 false (kk*10^s.toNat) (10^(-s).toNat) 0 e').2.1=false∧(Vu p (gK K) 0 false (kk*10^s.toNat) (10^(-s).toNat) 0 e').2.2.1=ex∧(Vu p (gK K) 0 false (kk*10^s.toNat) (10^(-s).toNat) 0 e').2.2.2.1=m)=Ek K m ex u n s kk:=by
 obtain ⟨h1,h2⟩:=ho_n h ho
 have hG:=U6 h.hK
 have hP:=h.hP
 have hi:=in_iff (P:=p) (g:=gK K) (e:=ex) (lead:=ex+blN m-1) (u:=u) (e':=e') (m:=m) (n:=n) (num:=kk*10^s.toNat) (den:=10^(-s).toNat) (i:=(2-u).toNat) (j:=(u-2).toNat) (by omega) (by omega) ht h.fl.m0 rfl h2 h.hu h.hue h.hn (by rw [Int.toNat_natCast];exact h1) (Nat.pow_pos (by decide)) hE (by omega)
 have hneg:=(fRnd_G h.hK h.hP (kk*10^s.toNat) (10^(-s).toNat) e').2
 unfold Ek
 refine decide_eq_decide.2 ?_
 have e1:kk*10^s.toNat*2^(2-u).toNat=kk*shU u s:=by unfold shU;rw [Nat.mul_assoc]
 have e2:10^(-s).toNat*2^(u-2).toNat=shW u s:=rfl
 rw [e1,e2] at hi
 constructor
 ·rintro ⟨a1,_,a3,a4⟩
  exact ⟨by omega,hi.1 ⟨a1,a3,a4⟩⟩
 ·rintro ⟨_,a2⟩
  obtain ⟨a1,a3,a4⟩:=hi.2 a2
  exact ⟨a1,hneg,a3,a4⟩
set_option maxHeartbeats 2000000 in
theorem rIn_ok (K p m n:Nat) (neg:Bool) (e:Int) (l:List Int) (ex u a:Int) (h:ShH K p m ex u n a) (ho:hoI K p ex m=true) (ht:trN m=0) (hr:Raw e l m ex) (kk:Nat) (s:Int) (C:Nat) (hC:C≤400) (hk:kk<2^C) (hs : -6000≤s∧s≤6000) :
 QU Tryz.prog 92 [.v (Q3 ((K+1:Nat):Int) p),.v (Q9 1 neg e l),.v (QZ (QX kk)),.v (.int .i64 s)] [.v true (.bool (Ek K m ex u n s kk))]:=by
 have hlk:(QX kk).length≤7:=QC hk (by omega)
 have hZ:=H7 kk (by omega)
 by_cases h0:kk=0
 ·subst h0
  have hb:Ek K m ex u n s 0=false:=decide_eq_false (fun h=>h.1 rfl)
  rw [hb]
  rw [decide_eq_true rfl] at hZ
  obtain ⟨X,hX⟩ : ∃X,X=QX 0:=⟨_,rfl⟩
  rw [←hX] at hZ ⊢
  unfold Q3 Q9
  clear hX
  refine QU.of Tryz.func92 rfl rfl fun cx w0=>?_
  rw [show Tryz.f92.ntmps=38 from rfl]
  refine zs0 ?_
  refine QQ.seq ?_
  refine zs2 (ρ:=fun _=>[.v true (.bool true)]) (o:=by repeat' first|exact hZ|trivial|constructor) (k:=?_)
  refine QQ.condT rfl ?_
  refine zs0 ?_
  exact QQ.ret (QK.vs rfl (by exact ⟨⟨rfl,id⟩,trivial⟩) rfl)
 rw [decide_eq_false h0] at hZ
 obtain ⟨B,hB⟩ : ∃B,B=24401:=⟨_,rfl⟩
 have hnB:kk*10^s.toNat<2^B:=by
  have h1:kk*10^s.toNat<2^(C+(4*s.toNat+1)):=by rw [Nat.pow_add];exact Nat.mul_lt_mul_of_lt_of_lt hk (X3 _)
  exact Nat.lt_of_lt_of_le h1 (Nat.pow_le_pow_right (by decide) (by omega))
 have hdB:10^(-s).toNat<2^B:=Nat.lt_of_lt_of_le (X3 _) (Nat.pow_le_pow_right (by decide) (by omega))
 have hn0:0<kk*10^s.toNat:=Nat.mul_pos (by omega) (Nat.pow_pos (by decide))
 have hd0:0<10^(-s).toNat:=Nat.pow_pos (by decide)
 obtain ⟨e',hE⟩:=isE_ex hn0 hd0
 have heb:=isE_bd hn0 hd0 hnB hdB hE
 have hG:=U6 h.hK
 have hRn:=rRound_ok K p 0 false (kk*10^s.toNat) (10^(-s).toNat) 0 e' h.hK h.hP (by decide) hn0 hd0 (QC hnB (by omega)) (QC hdB (by omega)) hE (by omega) (by decide) (by
  have hP:=h.hP
  unfold fU
  omega)
 rw [Int.add_zero] at hRn
 obtain ⟨hGf,hneg⟩:=fRnd_G h.hK h.hP (kk*10^s.toNat) (10^(-s).toNat) e'
 have hv:=rin_val h ho ht (by omega) hE
 have hx : -20000≤ex∧ex≤20000:=⟨by have:=h.fl.lo;omega,by have:=h.fl.hi;omega⟩
 have hPl:=fPlus_ok neg e l m ex hr hx
 have hxG:FltG 1 ex m:=.inl ⟨rfl,ht,h.fl.m0,by have:=QC h.fl.mB (n:=4) (by omega);omega,by omega,by omega⟩
 have hSm:=fSameG_ok (Vu p (gK K) 0 false (kk*10^s.toNat) (10^(-s).toNat) 0 e').2.1 false hGf hxG
 have hSv:decide ((Vu p (gK K) 0 false (kk*10^s.toNat) (10^(-s).toNat) 0 e').1=1∧(Vu p (gK K) 0 false (kk*10^s.toNat) (10^(-s).toNat) 0 e').2.1=false∧(Vu p (gK K) 0 false (kk*10^s.toNat) (10^(-s).toNat) 0 e').2.2.1=ex∧(Vu p (gK K) 0 false (kk*10^s.toNat) (10^(-s).toNat) 0 e').2.2.2.1=m)=Ek K m ex u n s kk:=hv
 rw [hSv] at hSm
 clear hSv hv
 unfold Dx at hRn
 obtain ⟨F,hF⟩ : ∃F,F=Vu p (gK K) 0 false (kk*10^s.toNat) (10^(-s).toNat) 0 e':=⟨_,rfl⟩
 rw [←hF] at hRn hSm
 obtain ⟨b,hb⟩ : ∃b,b=Ek K m ex u n s kk:=⟨_,rfl⟩
 rw [←hb] at hSm ⊢
 have d1:QX 1=[1]:=by decide
 have hW:=YX 1 (by decide)
 rw [d1] at hW
 have hW:QU Tryz.prog 78 [.v (.int .u64 1)] [.v true (QZ [1])]:=hW
 obtain ⟨YV,hYV⟩ : ∃Y a b c d,YG F.1 F.2.1 F.2.2.1 F.2.2.2.1=Y∧Y = .agg [.int .i64 a,.bool b,.int .i64 c,.sl 1 d]:=⟨_,_,_,_,_,rfl,rfl⟩
 obtain ⟨ya,yb,yc,yd,hY1,hY2⟩:=hYV
 obtain ⟨XV,hXV⟩ : ∃Y a b c d,YG 1 false ex m=Y∧Y = .agg [.int .i64 a,.bool b,.int .i64 c,.sl 1 d]:=⟨_,_,_,_,_,rfl,rfl⟩
 obtain ⟨xa,xb,xc,xd,hX1,hX2⟩:=hXV
 rw [hY1,hY2] at hRn hSm
 rw [hX1,hX2] at hPl hSm
 obtain ⟨fl,hfl⟩ : ∃fl,fl=F.2.2.2.2:=⟨_,rfl⟩
 rw [←hfl] at hRn
 unfold DB at hRn
 unfold Q3 at hRn ⊢
 unfold Q9 QZ at hPl ⊢
 obtain ⟨M,hM⟩ : ∃M,M=l.map fun n=>V.int .u64 n:=⟨_,rfl⟩
 rw [←hM] at hPl ⊢
 obtain ⟨kf,hkf⟩ : ∃k:Int,k=((K+1:Nat):Int):=⟨_,rfl⟩
 rw [←hkf] at hRn ⊢
 have hRn:QU Tryz.prog 175 [.v (.agg [.int .i64 kf,.int .i64 p]),.v (.int .i64 0),.v (.agg [.bool false,QZ (QX (kk*10^s.toNat)),QZ (QX (10^(-s).toNat)),.int .i64 0,.int .i64 1])] [.v true (.agg [.int .i64 ya,.bool yb,.int .i64 yc,.sl 1 yd]),.v true (.int .i64 fl)]:=hRn
 have tail : ∀(cx:Cx) (w0:World) (NN DD:List Int),NN=QX (kk*10^s.toNat)→DD=QX (10^(-s).toNat)→QQ Tryz.prog none cx w0 (ZH Tryz.f92 [1,1,1,1]) {nt:=38,env:=[(4,.ptr 4 0 [] 0),(5,.ptr 5 0 [] 0),(9,.ptr 9 0 [] 0)],mem:=[(4,.box 35 (.v false (.agg [.int .i64 kf,.int .i64 p]))),(5,.box 38 (.v false (.agg [.int .i64 1,.bool neg,.int .i64 e,.sl 1 M]))),(9,.box 205 (.v false (.agg [.bool false,QZ NN,QZ DD,.int .i64 0,.int .i64 1])))]} (fnQ Tryz.prog Tryz.f92 [.v true (.bool b)]):=fun cx w0 NN DD hN hD=>by
  rw [←hN,←hD] at hRn
  clear hN hD hW hZ hG heb hE hn0 hd0 hnB hdB hx hGf hneg hxG
  refine zs2 (ρ:=fun _=>[.v true (.agg [.int .i64 ya,.bool yb,.int .i64 yc,.sl 1 yd]),.v true (.int .i64 fl)]) (o:=by repeat' first|exact hRn|trivial|constructor) (k:=?_)
  refine zd2 [] (ρ:=fun d=>if d=36 then [.v false (.agg [.int .i64 xa,.bool xb,.int .i64 xc,.sl 1 xd])] else [.v true (.bool b)]) (o:=by repeat' first|exact hPl|exact hSm|trivial|constructor) (k:=?_)
  exact QQ.ret (QK.vs rfl (by exact ⟨⟨rfl,id⟩,trivial⟩) rfl)
 clear hRn hSm hPl hkf hM hfl hX1 hX2 hY1 hY2 hb hF hxG hGf hneg hE heb hG h ho ht hr
 by_cases hneg:s<0
 ·have hT:=UD (-s).toNat (by omega)
  rw [show (((-s).toNat:Nat):Int) = -s from by omega] at hT
  have hNe:QX kk=QX (kk*10^s.toNat):=by rw [show s.toNat=0 from by omega,Nat.pow_zero,Nat.mul_one]
  have tail:=fun cx w0=>tail cx w0 (QX kk) (QX (10^(-s).toNat)) hNe rfl
  obtain ⟨X,hX⟩ : ∃X,X=QX kk:=⟨_,rfl⟩
  obtain ⟨T,hT'⟩ : ∃X,X=QX (10^(-s).toNat):=⟨_,rfl⟩
  obtain ⟨O,hO⟩ : ∃O,O=[(1:Int)]:=⟨_,rfl⟩
  rw [←hX] at hZ tail ⊢
  rw [←hT'] at hT tail
  rw [←hO] at hW
  have wn:IntKind.i64.wrap (0-s) = -s:=by rw [QV] <;> omega
  clear hX hT' hO hNe hnB hdB hn0 hd0
  refine QU.of Tryz.func92 rfl rfl fun cx w0=>?_
  rw [show Tryz.f92.ntmps=38 from rfl]
  refine zs0 ?_
  refine QQ.seq ?_
  refine zs2 (ρ:=fun _=>[.v true (.bool false)]) (o:=by repeat' first|exact hZ|trivial|constructor) (k:=?_)
  refine QQ.condF rfl (QQ.skip ?_)
  show QQ _ _ _ _ _ _ _
  refine zs2 (ρ:=fun _=>[.v true (QZ O)]) (o:=by repeat' first|exact hW|trivial|constructor) (k:=?_)
  refine QQ.next (fun σ=>∀a w,Rel cx w0 σ a w→Rel cx w0 {nt:=38,env:=[(4,.ptr 4 0 [] 0),(5,.ptr 5 0 [] 0),(9,.ptr 9 0 [] 0)],mem:=[(4,.box 35 (.v false (.agg [.int .i64 kf,.int .i64 p]))),(5,.box 38 (.v false (.agg [.int .i64 1,.bool neg,.int .i64 e,.sl 1 M]))),(9,.box 205 (.v false (.agg [.bool false,QZ X,QZ T,.int .i64 0,.int .i64 1])))]} a w) ?_ ?_
  ·refine zs1 hneg ?_
   refine QQ.condT rfl ?_
   refine zr3 (ρ:=fun _=>[.v true (QZ T)]) wn (o:=by repeat' first|exact hT|trivial|constructor) (k:=?_)
   exact fun a w h=>Rel.keep [4,5,9] [4,5,9] h
  ·intro σ hσ
   exact QQ.from hσ (tail cx w0)
 ·have hT:=UD s.toNat (by omega)
  have hTl:=GQ (k:=s.toNat)
  have hM:=KV (QX kk) (QX (10^s.toNat)) (by omega) (by omega) (QY _).1 (QY _).1
  rw [(QY kk).2.2,(QY (10^s.toNat)).2.2] at hM
  rw [show ((s.toNat:Nat):Int)=s from by omega] at hT
  have hDe:[1]=QX (10^(-s).toNat):=by rw [show (-s).toNat=0 from by omega,Nat.pow_zero,d1]
  have tail:=fun cx w0=>tail cx w0 (QX (kk*10^s.toNat)) [1] rfl hDe
  obtain ⟨X,hX⟩ : ∃X,X=QX kk:=⟨_,rfl⟩
  obtain ⟨T,hT'⟩ : ∃X,X=QX (10^s.toNat):=⟨_,rfl⟩
  obtain ⟨Y,hY⟩ : ∃X,X=QX (kk*10^s.toNat):=⟨_,rfl⟩
  obtain ⟨O,hO⟩ : ∃O,O=[(1:Int)]:=⟨_,rfl⟩
  rw [←hX,←hT',←hY] at hM
  rw [←hX] at hZ ⊢
  rw [←hT'] at hT
  rw [←hO] at hW tail
  rw [←hY] at tail
  clear hX hT' hO hY hDe hnB hdB hn0 hd0
  refine QU.of Tryz.func92 rfl rfl fun cx w0=>?_
  rw [show Tryz.f92.ntmps=38 from rfl]
  refine zs0 ?_
  refine QQ.seq ?_
  refine zs2 (ρ:=fun _=>[.v true (.bool false)]) (o:=by repeat' first|exact hZ|trivial|constructor) (k:=?_)
  refine QQ.condF rfl (QQ.skip ?_)
  show QQ _ _ _ _ _ _ _
  refine zs2 (ρ:=fun _=>[.v true (QZ O)]) (o:=by repeat' first|exact hW|trivial|constructor) (k:=?_)
  refine QQ.next (fun σ=>∀a w,Rel cx w0 σ a w→Rel cx w0 {nt:=38,env:=[(4,.ptr 4 0 [] 0),(5,.ptr 5 0 [] 0),(9,.ptr 9 0 [] 0)],mem:=[(4,.box 35 (.v false (.agg [.int .i64 kf,.int .i64 p]))),(5,.box 38 (.v false (.agg [.int .i64 1,.bool neg,.int .i64 e,.sl 1 M]))),(9,.box 205 (.v false (.agg [.bool false,QZ Y,QZ O,.int .i64 0,.int .i64 1])))]} a w) ?_ ?_
  ·refine zs1 hneg ?_
   refine QQ.condF rfl ?_
   refine zr2 (ρ:=fun d=>if d=25 then [.v true (QZ T)] else [.v true (QZ Y)]) (o:=by repeat' first|exact hT|exact hM|trivial|constructor) (k:=?_)
   exact fun a w h=>Rel.keep [4,5,9] [4,5,9] h
  ·intro σ hσ
   exact QQ.from hσ (tail cx w0)
theorem AZ {n:Nat} (h:0<n) : ∃h0:0<(Qv n).length,(Qv n)[0]≠48:=by
 obtain ⟨l,c,e,h1,h2⟩:=zK n n (by omega) (Vv n)
 have e2:Qv n=UInt8.ofNat c::l.reverse.map UInt8.ofNat:=by
  unfold Qv
  rw [if_neg (by omega),e,List.reverse_append,List.reverse_singleton,List.singleton_append,List.map_cons]
 refine ⟨EK n,?_⟩
 simp only [e2,List.getElem_cons_zero]
 intro hh
 have:=congrArg UInt8.toNat hh
 simp at this
 omega
theorem trim_dec {n C:Nat} (h:0<n) (hC:n<2^C) (hC2:1≤C∧C≤100000):QU Tryz.prog 93 [.v (.str (bs (Qv n)))] [.v true (.str (bs (trR (Qv n))))]:=by
 obtain ⟨h1,h2⟩:=AZ h
 have:=UB hC hC2.1
 exact rTrim25_ok (Qv n) (by omega) h1 h2
def rsS (ex:List (Nat×AV)) (mx:List (Nat×Blk)) (d:Nat) (a:Int) (N1 D1 M:List V) (kf p e:Int) (neg:Bool):St :=
 {nt:=97,env:=ex++[(8,.v true (.int .i64 d)),(7,.v true (.int .i64 a)),(6,.ptr 6 0 [] 0),(2,.ptr 2 0 [] 0),(3,.ptr 3 0 [] 0)],mem:=mx++[(6,.box 125 (.v false (.agg [.bool false,.sl 1 N1,.sl 1 D1,.int .i64 0,.int .i64 1]))),(2,.box 35 (.v false (.agg [.int .i64 kf,.int .i64 p]))),(3,.box 38 (.v false (.agg [.int .i64 1,.bool neg,.int .i64 e,.sl 1 M])))]}
def rsQ (kk:Option Nat) (s:Int) (M:St→Prop):Exit→St→Prop
 | .normal,σ=>kk=none∧M σ
 | .ret,σ=>∃k,kk=some k∧QK Tryz.prog Tryz.f29 σ [.v true (.str (bs (trR (Qv k)))),.v true (.int .i64 (s+(Qv k).length-1))]
 | _,_=>False
set_option maxHeartbeats 1000000 in
theorem rs_fin {cx:Cx} {w0:World} (k:Nat) (s:Int) (kk:Option Nat) (M:St→Prop) (hkk:kk=some k) (hk:0<k) (C:Nat) (hC:k<2^C) (hC2:1≤C∧C≤400) (hs : -10000≤s∧s≤10000) :
 QQ Tryz.prog none cx w0 (ZH Tryz.f29 [1,1,1,1,0,0,0,0,1,1,1,1,1,1,0,1,1]) {nt:=97,env:=[(16,.v true (QZ (QX k))),(9,.v true (.int .i64 s))],mem:=[]} (rsQ kk s M):=by
 have hT:=Kx k (by have:=QC hC (n:=7) (by omega);omega)
 have hR:=trim_dec hk hC (by omega)
 have hl:=UB hC hC2.1
 have hz:=Qx (Qv k)
 obtain ⟨W,hW⟩ : ∃x,x=QX k:=⟨_,rfl⟩
 obtain ⟨t,ht⟩ : ∃x,x=bs (Qv k):=⟨_,rfl⟩
 rw [←hW] at hT ⊢
 rw [←ht] at hT hR hz
 have w1:IntKind.i64.wrap (s+(t.size:Int))=s+(Qv k).length:=by rw [hz,QV] <;> omega
 have w2:IntKind.i64.wrap (s+((Qv k).length:Int)-1)=s+(Qv k).length-1:=by rw [QV] <;> omega
 suffices hh:QQ Tryz.prog none cx w0 (ZH Tryz.f29 [1,1,1,1,0,0,0,0,1,1,1,1,1,1,0,1,1]) {nt:=97,env:=[(16,.v true (QZ W)),(9,.v true (.int .i64 s))],mem:=[]} (NR (fun _=>False) (fun σ=>QK Tryz.prog Tryz.f29 σ [.v true (.str (bs (trR (Qv k)))),.v true (.int .i64 (s+(Qv k).length-1))])) by
  refine hh.mono fun x σ hx=>?_
  cases x <;> first|exact hx.elim|exact ⟨k,hkk,hx⟩
 obtain ⟨r,hr⟩ : ∃x,x=bs (trR (Qv k)):=⟨_,rfl⟩
 rw [←hr] at hR ⊢
 obtain ⟨n,hn⟩ : ∃x,x=(Qv k).length:=⟨_,rfl⟩
 rw [←hn] at w1 w2 ⊢
 clear hn hr ht hW hC hkk hz hl
 refine zs2 (ρ:=fun _=>[.v true (.str t)]) (o:=by repeat' first|exact hT|trivial|constructor) (k:=?_)
 refine zs3 (ρ:=fun _=>[.v true (.str r)]) (an w1 <| w2) (o:=by repeat' first|exact hR|trivial|constructor) (k:=?_)
 exact QQ.ret (QK.vs rfl (by exact ⟨⟨rfl,id⟩,⟨rfl,id⟩,trivial⟩) rfl)
set_option maxHeartbeats 1000000 in
theorem rs_out {cx:Cx} {w0:World} (lo:Nat) (s:Int) (o two:Bool) (kk:Option Nat) (hkk:kk=if o=true then some lo else if two=true then some (lo+1) else none) (h0:o=true→0<lo) (C:Nat) (hC:lo+1<2^C) (hC2:1≤C∧C≤400) (hs : -10000≤s∧s≤10000)
 (mx:List (Nat×Blk)) (hmx:mx=[] ∨ ∃b,mx=[(10,b)]) (d:Nat) (a:Int) (N1 D1 M:List V) (kf p e:Int) (neg:Bool) :
 QQ Tryz.prog none cx w0 (ZH Tryz.f29 [1,1,1,1,0,0,0,0,1,1,1,1,1])
  (rsS [(13,.v true (.bool o)),(14,.v true (.bool two)),(11,.v true (QZ (QX lo))),(12,.v true (QZ (QX (lo+1)))),(9,.v true (.int .i64 s))] [] d a N1 D1 M kf p e neg)
  (rsQ kk s (fun σ=>∀x w,Rel cx w0 σ x w→Rel cx w0 (rsS [] [] d a N1 D1 M kf p e neg) x w)):=by
 unfold rsS
 cases o with
 | false =>
   cases two with
   | false =>
     refine zs0 ?_
     refine QQ.condF rfl (QQ.skip ?_)
     exact ⟨by rw [hkk];rfl,fun x w h=>Rel.keep [8,7,6,2,3] [6,2,3] h⟩
   | true =>
     refine zs0 ?_
     refine QQ.condT rfl ?_
     refine zs0 ?_
     refine QQ.from (σ' := {nt:=97,env:=[(13,.v true (.bool false)),(12,.v true (QZ (QX (lo+1)))),(9,.v true (.int .i64 s))],mem:=[]}) (fun x w h=>Rel.keep [13,12,9] [] h) ?_
     refine QQ.next (fun σ=>∀x w,Rel cx w0 σ x w→Rel cx w0 {nt:=97,env:=[(16,.v true (QZ (QX (lo+1)))),(9,.v true (.int .i64 s))],mem:=[]} x w) ?_ ?_
     ·refine zs0 ?_
      refine QQ.condT rfl ?_
      refine zr0 ?_
      exact fun x w h=>Rel.keep [16,9] [] h
     ·intro σ hσ
      exact QQ.from hσ (rs_fin (lo+1) s kk _ (by rw [hkk];rfl) (by omega) C hC hC2 hs)
 | true =>
   refine zs0 ?_
   refine QQ.condT rfl ?_
   refine zs0 ?_
   refine QQ.from (σ' := {nt:=97,env:=[(13,.v true (.bool true)),(16,.v true (QZ (QX lo))),(9,.v true (.int .i64 s))],mem:=[]}) (fun x w h=>Rel.keep [13,16,9] [] h) ?_
   refine QQ.next (fun σ=>∀x w,Rel cx w0 σ x w→Rel cx w0 {nt:=97,env:=[(16,.v true (QZ (QX lo))),(9,.v true (.int .i64 s))],mem:=[]} x w) ?_ ?_
   ·refine zs0 ?_
    exact QQ.condF rfl (QQ.skip fun x w h=>Rel.keep [16,9] [] h)
   ·intro σ hσ
    exact QQ.from hσ (rs_fin lo s kk _ (by rw [hkk];rfl) (h0 rfl) C (by omega) hC2 hs)
set_option maxHeartbeats 1000000 in
theorem rs_both {cx:Cx} {w0:World} (lo:Nat) (s:Int) (one two half rest:Bool) (hlo:one=true→lo%10≠0) (C:Nat) (hC:lo+1<2^C) (hC2:1≤C∧C≤400) (NL:List V)
 (d:Nat) (a:Int) (N1 D1 M:List V) (kf p e:Int) (neg:Bool) {N':St→Prop} :
 QQ Tryz.prog none cx w0 (ZH Tryz.f29 [1,1,1,1,0,0,0,0,1,1,1,1,0])
  (rsS [(13,.v true (.bool one)),(14,.v true (.bool two)),(11,.v true (QZ (QX lo))),(12,.v true (QZ (QX (lo+1)))),(9,.v true (.int .i64 s)),(10,.ptr 10 0 [] 0)] [(10,.box 129 (.v true (.agg [.sl 1 NL,.bool half,.bool rest])))] d a N1 D1 M kf p e neg)
  (NR (fun σ=>∀x w,Rel cx w0 σ x w→Rel cx w0 (rsS [(13,.v true (.bool (one && !(two&&(half&&(rest||decide (lo%2=1))))))),(14,.v true (.bool two)),(11,.v true (QZ (QX lo))),(12,.v true (QZ (QX (lo+1)))),(9,.v true (.int .i64 s))] [] d a N1 D1 M kf p e neg) x w) N'):=by
 unfold rsS
 cases one with
 | false =>
   refine zs0 ?_
   exact QQ.condF rfl (QQ.skip fun x w h=>Rel.keep [13,14,11,12,9,8,7,6,2,3] [6,2,3] h)
 | true =>
   cases two with
   | false =>
     refine zs0 ?_
     exact QQ.condF rfl (QQ.skip fun x w h=>Rel.keep [13,14,11,12,9,8,7,6,2,3] [6,2,3] h)
   | true =>
     cases half with
     | false =>
       refine zs0 ?_
       refine QQ.condT rfl (QQ.blockN ?_)
       refine zs0 ?_
       refine QQ.condF rfl ?_
       refine zs0 ?_
       exact QQ.condF rfl (QQ.skip fun x w h=>Rel.keep [13,14,11,12,9,8,7,6,2,3] [6,2,3] h)
     | true =>
       cases rest with
       | true =>
         refine zs0 ?_
         refine QQ.condT rfl (QQ.blockN ?_)
         refine zs0 ?_
         refine QQ.condT rfl ?_
         refine zr0 ?_
         exact fun x w h=>Rel.keep [13,14,11,12,9,8,7,6,2,3] [6,2,3] h
       | false =>
         have h10:=hlo rfl
         have hT:=Kx lo (by have:=QC (Nat.lt_of_succ_lt hC) (n:=7) (by omega);omega)
         have hR:=trim_dec (n:=lo) (by omega) (Nat.lt_of_succ_lt hC) (by omega)
         have hl:=UB (Nat.lt_of_succ_lt hC) hC2.1
         obtain ⟨l,hL⟩:=decG_last h10
         have htr:trR (Qv lo)=Qv lo:=by
          rw [hL,trR_snoc,if_neg]
          intro hh
          have:=congrArg UInt8.toNat hh
          simp at this
          omega
         rw [htr] at hR
         have hz:=Qx (Qv lo)
         have hlen:(Qv lo).length=l.length+1:=by rw [hL];simp
         have hgb:(bs (Qv lo))[(Qv lo).length-1]?=some (UInt8.ofNat (48+lo%10)):=by
          rw [getElem?_pos (bs (Qv lo)) _ (by rw [Qx];omega)]
          show some ((Qv lo).toArray[(Qv lo).length-1]'_)=_
          simp only [List.getElem_toArray,hL]
          simp
         obtain ⟨t,ht⟩ : ∃x,x=bs (Qv lo):=⟨_,rfl⟩
         rw [←ht] at hT hR hz hgb
         rw [←hz] at hgb
         have hc:((UInt8.ofNat (48+lo%10)).toNat:Int)=((48+lo%10:Nat):Int):=by
          simp;omega
         obtain ⟨c,hce⟩ : ∃c,c=UInt8.ofNat (48+lo%10):=⟨_,rfl⟩
         rw [←hce] at hgb hc
         have g0:(0:Int)≤(t.size:Int)-1:=by omega
         have gs:(t.size:Int)-1=((t.size-1:Nat):Int):=by omega
         have gi:((t.size-1:Nat):Int)<t.size:=by omega
         have w1:IntKind.u8.wrap (((48+lo%10:Nat):Int)-48)=((lo%10:Nat):Int):=by rw [FH];omega
         have r1:((lo%10:Nat):Int).tmod 2=((lo%10%2:Nat):Int):=Gq _ 2
         have w2:IntKind.u8.wrap ((lo%10%2:Nat):Int)=((lo%10%2:Nat):Int):=by rw [FH];omega
         have w3:IntKind.i64.wrap ((t.size:Int)-1)=((t.size-1:Nat):Int):=by rw [QV] <;> omega
         have hfin:(true && !(true&&(true&&(false||decide (lo%2=1)))))=decide (((lo%10%2:Nat):Int)=0):=by
          by_cases hm:lo%2=1
          ·rw [decide_eq_true hm,decide_eq_false (by omega)];rfl
          ·rw [decide_eq_false hm,decide_eq_true (by omega)];rfl
         rw [hfin]
         obtain ⟨W,hW⟩ : ∃x,x=QX lo:=⟨_,rfl⟩
         rw [←hW] at hT ⊢
         obtain ⟨c10,hc10⟩ : ∃x,x=lo%10:=⟨_,rfl⟩
         rw [←hc10] at hc w1 r1 w2 hfin ⊢
         have hc48:((48+c10:Nat):Int)=48+(c10:Int):=by omega
         obtain ⟨c2,hc2⟩ : ∃x,x=c10%2:=⟨_,rfl⟩
         rw [←hc2] at r1 w2 hfin ⊢
         obtain ⟨cv,hcv⟩ : ∃x,x=((48+c10:Nat):Int):=⟨_,rfl⟩
         rw [←hcv] at hc w1
         clear hce hL htr hl hlen hC h10 hlo
         refine zs0 ?_
         refine QQ.condT rfl (QQ.blockN ?_)
         refine zs0 ?_
         refine QQ.condF rfl ?_
         refine zs0 ?_
         refine QQ.condT rfl ?_
         refine zs2 (ρ:=fun x=>if x=70 then [.v true (.str t)] else [.v true (.str t)]) (o:=by repeat' first|exact hT|exact hR|trivial|constructor) (k:=?_)
         refine QQ.region (Px:=px) (T:=TT) (ρ:=fun _=>[]) TTe (by simp (maxSteps:=100000) (disch:=omega) only [go_sem,V.isAgg,V.flat,↓reduceIte,Nat.reduceAdd,Nat.reduceSub,Nat.reduceLT,Nat.reduceEqDiff,reduceCtorEq,Nat.reduceLeDiff,Nat.reduceBEq,Nat.reduceMul,Int.reduceToNat,w3,JD,hgb,gi,hc,w1,r1,w2];rfl) (by repeat' first|exact trivial|constructor) ?_
         exact fun x w h=>Rel.keep [13,14,11,12,9,8,7,6,2,3] [6,2,3] h
theorem st_flags {num den:Nat} {s:Int} (hd:0<den):(decide (2*stM num s/stD den s%2=1)||decide (2*stM num s%stD den s≠0))=decide (cxA num den s≠0) ∧
 (∀q:Nat,(decide (2*stM num s/stD den s%2=1)&&(decide (2*stM num s%stD den s≠0)||decide (q%2=1)))=shUp q (cxA num den s))∧2*stM num s/stD den s/2=ctA num den s:=by
 have hD:0<stD den s:=Nat.mul_pos hd (Nat.pow_pos (by decide))
 obtain ⟨h1,h2,h3,h4,h5⟩:=FZ (stM num s) (stD den s) hD
 have hb:=rstN_bd (stM num s%stD den s) (stD den s)
 have hx:Y6 (stM num s%stD den s) (stD den s)=cxA num den s:=rfl
 rw [hx] at h2 h3 h4 h5 hb
 obtain ⟨x,hxx⟩ : ∃x,x=cxA num den s:=⟨_,rfl⟩
 rw [←hxx] at h2 h3 h4 h5 hb ⊢
 obtain ⟨p,hp⟩ : ∃p,p=2*stM num s/stD den s%2:=⟨_,rfl⟩
 obtain ⟨r,hr⟩ : ∃p,p=2*stM num s%stD den s:=⟨_,rfl⟩
 rw [←hp,←hr] at h2 h3 h4 h5 ⊢
 refine ⟨?_,fun q=>?_,h1⟩
 ·have hc:x=0∨x=1∨x=2∨x=3:=by omega
  rcases hc with e|e|e|e
  ·obtain ⟨a,b⟩:=h2.1 e;rw [a,b,e];rfl
  ·obtain ⟨a,b⟩:=h3.1 e;rw [a,e];simp [b]
  ·obtain ⟨a,b⟩:=h4.1 e;rw [a,b,e];rfl
  ·obtain ⟨a,b⟩:=h5.1 e;rw [a,e];simp
 ·unfold shUp
  have hc:x=0∨x=1∨x=2∨x=3:=by omega
  rcases hc with e|e|e|e
  ·obtain ⟨a,b⟩:=h2.1 e;rw [a,b,e];simp
  ·obtain ⟨a,b⟩:=h3.1 e;rw [a,e];simp
  ·obtain ⟨a,b⟩:=h4.1 e;rw [a,b,e];simp
  ·obtain ⟨a,b⟩:=h5.1 e;rw [a,e];simp [b]
set_option maxHeartbeats 2000000 in
theorem rs_round {cx:Cx} {w0:World} (lo:Nat) (s a:Int) (d:Nat) (one th half rest:Bool) (NL N1 D1 M:List V) (kf p e:Int) (neg:Bool) (C:Nat) (hC:lo+1<2^C) (hC2:1≤C∧C≤400) (hs:s=a-d+1) (hsb : -7000≤s∧s≤7000) (hd:d≤1000)
 (hNL:NL=(QX lo).map fun n=>V.int .u64 n)
 (hS:QU Tryz.prog 90 [.v (.agg [.bool false,.sl 1 N1,.sl 1 D1,.int .i64 0,.int .i64 1]),.v (.int .i64 s)] [.v true (.agg [.sl 1 NL,.bool half,.bool rest])])
 (hI1:QU Tryz.prog 92 [.v (.agg [.int .i64 kf,.int .i64 p]),.v (.agg [.int .i64 1,.bool neg,.int .i64 e,.sl 1 M]),.v (QZ (QX lo)),.v (.int .i64 s)] [.v true (.bool one)])
 (hI2:QU Tryz.prog 92 [.v (.agg [.int .i64 kf,.int .i64 p]),.v (.agg [.int .i64 1,.bool neg,.int .i64 e,.sl 1 M]),.v (QZ (QX (lo+1))),.v (.int .i64 s)] [.v true (.bool th)])
 (hlo:one=true→lo%10≠0) (kk:Option Nat) (hkk:kk=if (one && !(((half||rest)&&th)&&(half&&(rest||decide (lo%2=1)))))=true then some lo else if ((half||rest)&&th)=true then some (lo+1) else none) :
 QQ Tryz.prog none cx w0 (ZH Tryz.f29 [1,1,1,1,0,0,0,0]) (rsS [] [] d a N1 D1 M kf p e neg) (rsQ kk s (fun σ=>∀x w,Rel cx w0 σ x w→Rel cx w0 (rsS [] [] d a N1 D1 M kf p e neg) x w)):=by
 have hW:=YX 1 (by decide)
 have d1:QX 1=[1]:=by decide
 rw [d1] at hW
 have hW:QU Tryz.prog 78 [.v (.int .u64 1)] [.v true (QZ [1])]:=hW
 have o1:okW [(1:Int)]:=by intro n hn;simp at hn;omega
 have hll:(QX lo).length≤7:=QC (Nat.lt_of_succ_lt hC) (by omega)
 have hA:=rAdd_ok (QX lo) [1] (by omega) (by simp) (QY _).1 o1
 rw [(QY _).2.2,show val [(1:Int)]=1 from by decide] at hA
 have hwl:QZ (QX lo) = .sl 1 NL:=by rw [hNL];rfl
 have hout:=fun cx w0=>rs_out (cx:=cx) (w0:=w0) lo s (one && !(((half||rest)&&th)&&(half&&(rest||decide (lo%2=1))))) ((half||rest)&&th) kk hkk (fun h=>by
  rw [Bool.and_eq_true] at h
  have:=hlo h.1
  omega) C hC hC2 (by omega) [] (.inl rfl) d a N1 D1 M kf p e neg
 have hboth:=fun cx w0=>rs_both (cx:=cx) (w0:=w0) lo s one ((half||rest)&&th) half rest hlo C hC hC2 NL d a N1 D1 M kf p e neg (N':=rsQ kk s (fun σ=>∀x w,Rel cx w0 σ x w→Rel cx w0 (rsS [] [] d a N1 D1 M kf p e neg) x w) .ret)
 rw [hwl] at hA hI1 hboth
 have w1:IntKind.i64.wrap (a-(d:Int))=a-d:=by rw [QV] <;> omega
 have w2:IntKind.i64.wrap (a-(d:Int)+1)=s:=by rw [QV] <;> omega
 have hs2:a-(d:Int)+1=s:=hs.symm
 clear hkk hlo hNL hC
 unfold rsS at hboth
 unfold rsS at hout
 unfold rsS
 obtain ⟨H,hH⟩ : ∃x,x=QX (lo+1):=⟨_,rfl⟩
 rw [←hH] at hA hI2 hboth hout
 rw [hwl] at hout
 obtain ⟨O,hO⟩ : ∃O,O=[(1:Int)]:=⟨_,rfl⟩
 rw [←hO] at hW hA
 clear hO hH
 refine zs1 (an w1 <| an w2 <| hs2) ?_
 refine zs2 (ρ:=fun _=>[.v true (.agg [.sl 1 NL,.bool half,.bool rest])]) (o:=by repeat' first|exact hS|trivial|constructor) (k:=?_)
 refine zd2 [] (ρ:=fun y=>if y=35 then [.v true (QZ O)] else [.v true (QZ H)]) (o:=by repeat' first|exact hW|exact hA|trivial|constructor) (k:=?_)
 refine QQ.from (σ' := {nt:=97,env:=[(11,.v true (.sl 1 NL)),(12,.v true (QZ H)),(9,.v true (.int .i64 s)),(10,.ptr 10 0 [] 0),(8,.v true (.int .i64 d)),(7,.v true (.int .i64 a)),(6,.ptr 6 0 [] 0),(2,.ptr 2 0 [] 0),(3,.ptr 3 0 [] 0)],mem:=[(10,.box 129 (.v true (.agg [.sl 1 NL,.bool half,.bool rest]))),(6,.box 125 (.v false (.agg [.bool false,.sl 1 N1,.sl 1 D1,.int .i64 0,.int .i64 1]))),(2,.box 35 (.v false (.agg [.int .i64 kf,.int .i64 p]))),(3,.box 38 (.v false (.agg [.int .i64 1,.bool neg,.int .i64 e,.sl 1 M])))]}) (fun x w h=>Rel.keep [11,12,9,10,8,7,6,2,3] [10,6,2,3] h) ?_
 have go:=QQ.next _ (hboth cx w0) (fun σ hσ=>QQ.from hσ (hout cx w0))
 clear hboth hout
 cases half with
 | true =>
   refine zd2 [] (ρ:=fun y=>if y=41 then [.v true (.bool one)] else [.v true (.bool th)]) (o:=by repeat' first|exact hI1|exact hI2|trivial|constructor) (k:=?_)
   exact QQ.from (fun x w h=>Rel.keep [13,14,11,12,9,10,8,7,6,2,3] [10,6,2,3] h) go
 | false =>
   cases rest with
   | true =>
     refine zd2 [] (ρ:=fun y=>if y=41 then [.v true (.bool one)] else [.v true (.bool th)]) (o:=by repeat' first|exact hI1|exact hI2|trivial|constructor) (k:=?_)
     exact QQ.from (fun x w h=>Rel.keep [13,14,11,12,9,10,8,7,6,2,3] [10,6,2,3] h) go
   | false =>
     refine zd2 [] (ρ:=fun y=>[.v true (.bool one)]) (o:=by repeat' first|exact hI1|trivial|constructor) (k:=?_)
     exact QQ.from (fun x w h=>Rel.keep [13,14,11,12,9,10,8,7,6,2,3] [10,6,2,3] h) go
set_option maxHeartbeats 2000000 in
theorem zC (K p m n d k:Nat) (neg:Bool) (e:Int) (l:List Int) (ex u a:Int) (h:ShH K p m ex u n a) (ho:hoI K p ex m=true) (ht:trN m=0) (hr:Raw e l m ex) (hd:ShD K m ex u n a d k) :
 QU Tryz.prog 29 [.v (Q3 ((K+1:Nat):Int) p),.v (Q9 1 neg e l)] [.v true (.str (bs (trR (Qv k)))),.v true (.int .i64 (a-d+1+(Qv k).length-1))]:=by
 have hdl:=hd.le h
 have hd1:=hd.h1
 have hab:=h.fl.isA_bd h.hA
 obtain ⟨B,b1,b2,b3,b4,b5⟩:=h.fl.real
 have hR:=real_ok neg e l m ex hr h.fl
 have hL:=rLogG_ok false (Zq m ex) (Zy ex) B a b1 b2 b3 b4 b5 h.hA
 unfold Gv QZ at hR hL
 obtain ⟨F,hF⟩ : ∃F,F=shF K m ex u n a:=⟨_,rfl⟩
 obtain ⟨kf,hkf⟩ : ∃k:Int,k=((K+1:Nat):Int):=⟨_,rfl⟩
 have hround : ∀(cx:Cx) (w0:World) (d':Nat),1≤d'→d'≤d→QQ Tryz.prog none cx w0 (ZH Tryz.f29 [1,1,1,1,0,0,0,0]) (rsS [] [] d' a ((QX (Zq m ex)).map fun n=>V.int .u64 n) ((QX (Zy ex)).map fun n=>V.int .u64 n) (l.map fun n=>V.int .u64 n) kf p e neg)
  (rsQ (F d') (a-d'+1) (fun σ=>∀x w,Rel cx w0 σ x w→Rel cx w0 (rsS [] [] d' a ((QX (Zq m ex)).map fun n=>V.int .u64 n) ((QX (Zy ex)).map fun n=>V.int .u64 n) (l.map fun n=>V.int .u64 n) kf p e neg) x w)):=fun cx w0 d' k1 k2=>by
  obtain ⟨s,hs⟩ : ∃s,s=a-d'+1:=⟨_,rfl⟩
  have hS:=rStepsG_ok false (Zq m ex) (Zy ex) B s b1 b2 b3 b4 b5 (by omega)
  obtain ⟨f1,f2,f3⟩:=st_flags (num:=Zq m ex) (s:=s) b3
  have hdg:=EJ (d:=d'-1) b3 h.hA
  rw [show a-((d'-1:Nat):Int)=s from by omega,Nat.sub_add_cancel k1] at hdg
  obtain ⟨C,hC⟩ : ∃C,C=400:=⟨_,rfl⟩
  have hlo1:ctA (Zq m ex) (Zy ex) s+1<2^C:=lt80 (Nat.lt_of_lt_of_le hdg.2.2 (Nat.pow_le_pow_right (by decide) (by omega))) (by omega)
  have hI1:=rIn_ok K p m n neg e l ex u a h ho ht hr (ctA (Zq m ex) (Zy ex) s) s C (by omega) (by omega) (by omega)
  have hI2:=rIn_ok K p m n neg e l ex u a h ho ht hr (ctA (Zq m ex) (Zy ex) s+1) s C (by omega) hlo1 (by omega)
  have hone:Ek K m ex u n s (ctA (Zq m ex) (Zy ex) s)=DC n (fB (gK K) m (ex+blN m-1)) u s (ctA (Zq m ex) (Zy ex) s):=rfl
  have hlo:Ek K m ex u n s (ctA (Zq m ex) (Zy ex) s)=true→ctA (Zq m ex) (Zy ex) s%10≠0:=fun h1=>by
   by_cases hd2:d'=1
   ·have hsa:s=a:=by omega
    have:=ctA_one b3 h.hA
    rw [hsa]
    omega
   ·have hno:=hd.none (d'-1) (by omega) (by omega)
    unfold shF at hno
    rw [show a-((d'-1:Nat):Int)+1=s+1 from by omega] at hno
    exact sh_ten hno (hone ▸ h1)
  have htwo:(decide (cxA (Zq m ex) (Zy ex) s≠0)&&Ek K m ex u n s (ctA (Zq m ex) (Zy ex) s+1))=C4 n (fB (gK K) m (ex+blN m-1)) u s (ctA (Zq m ex) (Zy ex) s) (cxA (Zq m ex) (Zy ex) s):=by
   unfold Ek C4
   rw [←Bool.decide_and]
   exact decide_eq_decide.2 ⟨fun h=>⟨h.1,h.2.2⟩,fun h=>⟨h.1,by omega,h.2⟩⟩
  have hkk:F d'=if (Ek K m ex u n s (ctA (Zq m ex) (Zy ex) s) && !(((decide (2*stM (Zq m ex) s/stD (Zy ex) s%2=1)||decide (2*stM (Zq m ex) s%stD (Zy ex) s≠0))&&Ek K m ex u n s (ctA (Zq m ex) (Zy ex) s+1))&&(decide (2*stM (Zq m ex) s/stD (Zy ex) s%2=1)&&(decide (2*stM (Zq m ex) s%stD (Zy ex) s≠0)||decide (ctA (Zq m ex) (Zy ex) s%2=1)))))=true then some (ctA (Zq m ex) (Zy ex) s) else if ((decide (2*stM (Zq m ex) s/stD (Zy ex) s%2=1)||decide (2*stM (Zq m ex) s%stD (Zy ex) s≠0))&&Ek K m ex u n s (ctA (Zq m ex) (Zy ex) s+1))=true then some (ctA (Zq m ex) (Zy ex) s+1) else none:=by
   rw [f1,f2,htwo,hone,hF]
   unfold shF shC
   rw [←hs]
  unfold stV G9 Gv QZ at hS
  rw [f3] at hS
  unfold Q3 Q9 at hI1 hI2
  rw [←hkf] at hI1 hI2
  have:=rs_round (cx:=cx) (w0:=w0) (ctA (Zq m ex) (Zy ex) s) s a d' _ _ _ _ _ _ _ _ kf p e neg C hlo1 (by omega) hs (by omega) (by omega) rfl hS hI1 hI2 hlo (F d') hkk
  rw [hs] at this
  exact this
 have hnone:=hd.none
 have hsome:=hd.some
 rw [←hF] at hnone hsome
 obtain ⟨rs,hrs⟩ : ∃rs,rs=fun (k d:Nat)=>[R.v true (.str (bs (trR (Qv k)))),R.v true (.int .i64 (a-d+1+(Qv k).length-1))]:=⟨_,rfl⟩
 have hret : ∀σ (k' d':Nat),QK Tryz.prog Tryz.f29 σ [.v true (.str (bs (trR (Qv k')))),.v true (.int .i64 (a-d'+1+(Qv k').length-1))]→QK Tryz.prog Tryz.f29 σ (rs k' d'):=fun σ k' d' h=>by rw [hrs];exact h
 have hgoal:rs k d=[.v true (.str (bs (trR (Qv k)))),.v true (.int .i64 (a-d+1+(Qv k).length-1))]:=by rw [hrs]
 rw [←hgoal]
 obtain ⟨N1,hN1⟩ : ∃x,x=(QX (Zq m ex)).map fun n=>V.int .u64 n:=⟨_,rfl⟩
 obtain ⟨D1,hD1⟩ : ∃x,x=(QX (Zy ex)).map fun n=>V.int .u64 n:=⟨_,rfl⟩
 rw [←hN1,←hD1] at hR hL hround
 unfold Q9 QZ at hR ⊢
 unfold Q3
 rw [←hkf]
 obtain ⟨M,hM⟩ : ∃M,M=l.map fun n=>V.int .u64 n:=⟨_,rfl⟩
 rw [←hM] at hR hround ⊢
 clear hM hD1 hN1 hgoal hrs hF hd h hr ho ht hkf b1 b2 b3 b4 b5
 refine QU.of Tryz.func29 rfl rfl fun cx w0=>?_
 rw [show Tryz.f29.ntmps=97 from rfl]
 refine zs0 ?_
 refine zs2 (ρ:=fun _=>[.v false (.agg [.bool false,.sl 1 N1,.sl 1 D1,.int .i64 0,.int .i64 1])]) (o:=by repeat' first|exact hR|trivial|constructor) (k:=?_)
 refine zs2 (ρ:=fun _=>[.v true (.int .i64 a)]) (o:=by repeat' first|exact hL|trivial|constructor) (k:=?_)
 refine zs0 ?_
 refine QQ.mono (Q:=NR (fun _=>False) (fun σ=>QK Tryz.prog Tryz.f29 σ (rs k d))) ?_ (fun x σ hx=>by cases x <;> first|exact hx.elim|exact hx)
 refine QQ.loopB (fun d':Nat=>rsS [] [] d' a N1 D1 M kf p e neg) (fun d'=>1≤d'∧d'≤d) (fun d'=>d-d') 1 ⟨by decide,hd1⟩ (fun x w h=>Rel.keep [8,7,6,2,3] [6,2,3] h) ?_
 rintro d' ⟨k1,k2⟩
 refine QQ.seq (QQ.block ?_)
 refine QQ.mono (hround cx w0 d' k1 k2) fun x σ hx=>?_
 cases x with
 | exit id=>exact hx.elim
 | goto l=>exact hx.elim
 | panic=>exact hx.elim
 | outgrown=>exact hx.elim
 | ret =>
   obtain ⟨k',hk',hr⟩:=hx
   have hdd:d'=d:=by
    rcases Nat.lt_or_ge d' d with h1|h1
    ·rw [hnone d' k1 h1] at hk';cases hk'
    ·omega
   subst hdd
   rw [hsome] at hk'
   cases hk'
   exact hret σ _ _ hr
 | normal =>
   obtain ⟨hno,hM⟩:=hx
   have hlt:d'<d:=by
    rcases Nat.lt_or_ge d' d with h1|h1
    ·exact h1
    ·rw [show d'=d from by omega,hsome] at hno;cases hno
   have wk:IntKind.i64.wrap ((d':Int)+1)=((d'+1:Nat):Int):=by rw [QV] <;> omega
   show QQ _ _ _ _ _ _ _
   refine QQ.from hM ?_
   unfold rsS
   refine zr1 wk ?_
   exact ⟨d'+1,⟨by omega,by omega⟩,(show d-(d'+1)<d-d' by omega),fun x w h=>Rel.keep [8,7,6,2,3] [6,2,3] h⟩
theorem layL_neg {d:List UInt8} {e:Int} (h1 : ¬(e < -5∨20<e)) (h2:e<0) (hd:1≤d.length):UV d e=48::46::(z48 (-e-1).toNat++d):=by
 unfold UV
 rw [if_neg h1,if_neg (by omega)]
 unfold ptL
 rw [if_neg (by omega)]
 obtain ⟨k,hk⟩ : ∃k,k=((d.length:Int)-1-e).toNat:=⟨_,rfl⟩
 rw [←hk]
 have hz:k+1-d.length=(-e-1).toNat+1:=by omega
 rw [hz]
 unfold ptN
 have hl:(z48 ((-e-1).toNat+1)++d).length-k=1:=by rw [List.length_append,YC];omega
 rw [hl]
 have e1:z48 ((-e-1).toNat+1)=48::z48 (-e-1).toNat:=by unfold z48;rw [List.replicate_succ]
 rw [e1]
 rfl
theorem layL_mid {d:List UInt8} {e:Int} (h1 : ¬(e < -5∨20<e)) (h2 : ¬e<0) (h3:e+1<d.length):UV d e=d.take (e+1).toNat++46::d.drop (e+1).toNat:=by
 unfold UV
 rw [if_neg h1,if_neg (by omega)]
 unfold ptL
 rw [if_neg (by omega),show ((d.length:Int)-1-e).toNat+1-d.length=0 from by omega]
 unfold ptN
 rw [show z48 0++d=d from rfl,show d.length-((d.length:Int)-1-e).toNat=(e+1).toNat from by omega]
set_option maxHeartbeats 1000000 in
theorem rPlain_ok (d:List UInt8) (e:Int) (hd:1≤d.length) (hdl:d.length<100000) (he : -1000000<e∧e<1000000):QU Tryz.prog 146 [.v (.str (bs d)),.v (.int .i64 e)] [.v true (.str (bs (UV d e)))]:=by
 have hz:=Qx d
 by_cases h1:e < -5∨20<e
 ·have hR:=rRaised_ok d e 1 hd (by omega) (by omega) (by decide)
  have hl:UV d e=Uf d++101::sgL e 1:=if_pos h1
  rw [hl]
  obtain ⟨s,hs⟩ : ∃s,s=bs d:=⟨_,rfl⟩
  obtain ⟨t,ht⟩ : ∃s,s=bs (Uf d++101::sgL e 1):=⟨_,rfl⟩
  rw [←hs,←ht] at hR
  rw [←hs,←ht]
  have hR:QU Tryz.prog 167 [.v (.str s),.v (.int .i64 e),.v (.int .i64 1)] [.v true (.str t)]:=hR
  clear hs ht hl
  refine QU.of Tryz.func146 rfl rfl fun cx w0=>?_
  rw [show Tryz.f146.ntmps=50 from rfl]
  refine zs0 ?_
  refine zs0 ?_
  refine QQ.seq (QQ.block ?_)
  by_cases g:e < -5
  ·refine zs1 g ?_
   refine QQ.condT rfl ?_
   refine zs2 (ρ:=fun _=>[.v true (.str t)]) (o:=by repeat' first|exact hR|trivial|constructor) (k:=?_)
   exact QQ.ret (QK.vs rfl (by exact ⟨⟨rfl,id⟩,trivial⟩) rfl)
  ·have g2:20<e:=by omega
   refine zs1 (an g <| g2) ?_
   refine QQ.condT rfl ?_
   refine zs2 (ρ:=fun _=>[.v true (.str t)]) (o:=by repeat' first|exact hR|trivial|constructor) (k:=?_)
   exact QQ.ret (QK.vs rfl (by exact ⟨⟨rfl,id⟩,trivial⟩) rfl)
 have g1 : ¬e < -5:=fun h=>h1 (.inl h)
 have g2 : ¬20<e:=fun h=>h1 (.inr h)
 by_cases h2:e<0
 ·rw [layL_neg h1 h2 hd]
  have hZ:=FJ (-e-1) (by omega)
  have zz:=Qx (z48 (-e-1).toNat)
  rw [YC] at zz
  have hfin:(ByteArray.mk #[48,46]++bs (z48 (-e-1).toNat))++bs d=bs (48::46::(z48 (-e-1).toNat++d)):=by
   rw [show ByteArray.mk #[48,46]=bs [48,46] from rfl,ZQ,ZQ];rfl
  rw [←hfin]
  obtain ⟨s,hs⟩ : ∃s,s=bs d:=⟨_,rfl⟩
  obtain ⟨z,hzz⟩ : ∃s,s=bs (z48 (-e-1).toNat):=⟨_,rfl⟩
  rw [←hs] at hz ⊢
  rw [←hzz] at hZ zz ⊢
  have a1:(#[(48:UInt8),46]).size+z.size≤9223372036854775807:=by show 2+z.size≤_;omega
  have a2:(#[(48:UInt8),46]).size+z.size+s.size≤9223372036854775807:=by show 2+z.size+s.size≤_;omega
  have w1:IntKind.i64.wrap (0-e) = -e:=by rw [QV] <;> omega
  have w2:IntKind.i64.wrap (-e-1) = -e-1:=by rw [QV] <;> omega
  obtain ⟨x,hx⟩ : ∃x,x = -e-1:=⟨_,rfl⟩
  have hx2 : -e-1=x:=hx.symm
  rw [←hx] at hZ w2
  clear hs hzz hfin hx
  refine QU.of Tryz.func146 rfl rfl fun cx w0=>?_
  rw [show Tryz.f146.ntmps=50 from rfl]
  refine zs0 ?_
  refine zs0 ?_
  refine QQ.seq (QQ.block ?_)
  refine zs1 (an g1 <| g2) ?_
  refine QQ.condF rfl ?_
  refine zs1 h2 ?_
  refine QQ.condT rfl ?_
  refine zs3 (ρ:=fun _=>[.v true (.str z)]) (an w1 <| an w2 <| an hx2 <| an a1 <| a2) (o:=by repeat' first|exact hZ|trivial|constructor) (k:=?_)
  exact QQ.ret (QK.vs rfl (by exact ⟨⟨rfl,id⟩,trivial⟩) rfl)
 obtain ⟨k,hk⟩ : ∃k:Nat,e+1=k:=⟨(e+1).toNat,by omega⟩
 have wk:IntKind.i64.wrap (e+1)=(k:Int):=by rw [QV] <;> omega
 by_cases h3:e+1<d.length
 ·rw [layL_mid h1 h2 h3,show (e+1).toNat=k from by omega]
  have hfin:((bs d).extract 0 k++ByteArray.mk #[46])++(bs d).extract k (bs d).size=bs (d.take k++46::d.drop k):=by
   rw [Yy,Yy,Qx,show ByteArray.mk #[46]=bs [46] from rfl,ZQ,ZQ,List.drop_zero,Nat.sub_zero,List.take_of_length_le (l:=d.drop k) (by rw [List.length_drop];omega),List.append_assoc]
   rfl
  rw [←hfin]
  have z1:((bs d).extract 0 k).size=k:=by rw [Yy,Qx];simp;omega
  have z2:((bs d).extract k (bs d).size).size=d.length-k:=by rw [Yy,Qx,Qx];simp
  obtain ⟨s,hs⟩ : ∃s,s=bs d:=⟨_,rfl⟩
  rw [←hs] at hz z1 z2 ⊢
  have g4:(k:Int)<(s.size:Int):=by omega
  have g5:(0:Int)≤(k:Int):=by omega
  have g6:(k:Int)≤(s.size:Int):=by omega
  have a1:(s.extract 0 k).size+(#[(46:UInt8)]).size≤9223372036854775807:=by rw [z1];show k+1≤_;omega
  have a2:(s.extract 0 k).size+(#[(46:UInt8)]).size+(s.extract k s.size).size≤9223372036854775807:=by rw [z1,z2];show k+1+(d.length-k)≤_;omega
  clear hs hfin z1 z2
  refine QU.of Tryz.func146 rfl rfl fun cx w0=>?_
  rw [show Tryz.f146.ntmps=50 from rfl]
  refine zs0 ?_
  refine zs0 ?_
  refine QQ.seq (QQ.block ?_)
  refine zs1 (an g1 <| g2) ?_
  refine QQ.condF rfl ?_
  refine zs1 h2 ?_
  refine QQ.condF rfl ?_
  refine zs1 (an hk <| an wk <| g4) ?_
  refine QQ.condT rfl ?_
  refine zd1 [] (an hk <| an wk <| an g5 <| an g6 <| an a1 <| a2) ?_
  exact QQ.ret (QK.vs rfl (by exact ⟨⟨rfl,id⟩,trivial⟩) rfl)
 ·have hl:UV d e=d++z48 (e+1-d.length).toNat:=by unfold UV;rw [if_neg h1,if_pos (by omega)]
  rw [hl]
  have hZ:=FJ (e+1-d.length) (by omega)
  have zz:=Qx (z48 (e+1-d.length).toNat)
  rw [YC] at zz
  rw [←ZQ]
  have hzs:(z48 (e+1-d.length).toNat).length=(e+1-d.length).toNat:=YC _
  obtain ⟨s,hs⟩ : ∃s,s=bs d:=⟨_,rfl⟩
  obtain ⟨z,hzz⟩ : ∃s,s=bs (z48 (e+1-d.length).toNat):=⟨_,rfl⟩
  rw [←hs] at hz ⊢
  rw [←hzz] at hZ zz ⊢
  have g4 : ¬(k:Int)<(s.size:Int):=by omega
  have w2:IntKind.i64.wrap ((k:Int)-(s.size:Int))=e+1-d.length:=by rw [QV] <;> omega
  have a1:s.size+z.size≤9223372036854775807:=by omega
  obtain ⟨x,hx⟩ : ∃x,x=e+1-(d.length:Int):=⟨_,rfl⟩
  rw [←hx] at hZ w2
  have hx2:(k:Int)-(s.size:Int)=x:=by omega
  clear hs hzz hl hx
  refine QU.of Tryz.func146 rfl rfl fun cx w0=>?_
  rw [show Tryz.f146.ntmps=50 from rfl]
  refine zs0 ?_
  refine zs0 ?_
  refine QQ.next (fun σ=>∀a w,Rel cx w0 σ a w→Rel cx w0 {nt:=50,env:=[(0,.v true (.str s)),(1,.v true (.int .i64 e)),(5,.v true (.int .i64 s.size))],mem:=[]} a w) ?_ ?_
  ·refine QQ.blockN ?_
   refine zs1 (an g1 <| g2) ?_
   refine QQ.condF rfl ?_
   refine zs1 h2 ?_
   refine QQ.condF rfl ?_
   refine zs1 (an hk <| an wk <| g4) ?_
   exact QQ.condF rfl (QQ.skip fun a w h=>Rel.keep [0,1,5] [] h)
  ·intro σ hσ
   refine QQ.from hσ ?_
   refine zs3 (ρ:=fun _=>[.v true (.str z)]) (an hk <| an wk <| an w2 <| an hx2 <| a1) (o:=by repeat' first|exact hZ|trivial|constructor) (k:=?_)
   exact QQ.ret (QK.vs rfl (by exact ⟨⟨rfl,id⟩,trivial⟩) rfl)
def tbL (kd:Int) (d:List UInt8) (x:Int):List UInt8:=if kd=3∨kd=2∨kd=0 then GB kd else UV d x
set_option maxHeartbeats 1000000 in
theorem rBody_ok (k P kd:Int) (neg:Bool) (e:Int) (l:List Int) (d:List UInt8) (x:Int) (hk:0≤kd∧kd≤3) (h1:kd=1→QU Tryz.prog 29 [.v (Q3 k P),.v (Q9 1 neg e l)] [.v true (.str (bs d)),.v true (.int .i64 x)]∧1≤d.length∧d.length<100000 ∧ -1000000<x∧x<1000000) :
 QU Tryz.prog 70 [.v (Q3 k P),.v (Q9 kd neg e l)] [.v true (.str (bs (tbL kd d x)))]:=by
 have hSp:=Dy kd neg e (l.map fun n=>.int .u64 n)
 unfold tbL
 by_cases hkd:kd=3∨kd=2∨kd=0
 ·rw [if_pos hkd]
  rw [decide_eq_true hkd] at hSp
  obtain ⟨s,hs⟩ : ∃s,s=bs (GB kd):=⟨_,rfl⟩
  rw [←hs] at hSp ⊢
  unfold Q3 Q9 QZ
  obtain ⟨M,hM⟩ : ∃M,M=l.map fun n=>V.int .u64 n:=⟨_,rfl⟩
  rw [←hM] at hSp ⊢
  clear hs hM h1
  refine QU.of Tryz.func70 rfl rfl fun cx w0=>?_
  rw [show Tryz.f70.ntmps=25 from rfl]
  refine zs0 ?_
  refine QQ.seq ?_
  refine zs2 (ρ:=fun _=>[.v true (.str s),.v true (.bool true)]) (o:=by repeat' first|exact hSp|trivial|constructor) (k:=?_)
  refine zs0 ?_
  refine QQ.condT rfl ?_
  refine zs0 ?_
  exact QQ.ret (QK.vs rfl (by exact ⟨⟨rfl,id⟩,trivial⟩) rfl)
 ·rw [if_neg hkd]
  have hk1:kd=1:=by omega
  subst hk1
  obtain ⟨hSh,d1,d2,x1,x2⟩:=h1 rfl
  have hP:=rPlain_ok d x d1 d2 ⟨x1,x2⟩
  rw [decide_eq_false hkd] at hSp
  obtain ⟨s,hs⟩ : ∃s,s=bs (GB 1):=⟨_,rfl⟩
  rw [←hs] at hSp
  obtain ⟨t,ht⟩ : ∃s,s=bs d:=⟨_,rfl⟩
  rw [←ht] at hSh hP
  obtain ⟨t2,ht2⟩ : ∃s,s=bs (UV d x):=⟨_,rfl⟩
  rw [←ht2] at hP ⊢
  unfold Q3 Q9 QZ at hSh ⊢
  obtain ⟨M,hM⟩ : ∃M,M=l.map fun n=>V.int .u64 n:=⟨_,rfl⟩
  rw [←hM] at hSp hSh ⊢
  clear hs hM h1 ht ht2 d1 d2
  refine QU.of Tryz.func70 rfl rfl fun cx w0=>?_
  rw [show Tryz.f70.ntmps=25 from rfl]
  refine zs0 ?_
  refine QQ.seq ?_
  refine zs2 (ρ:=fun _=>[.v true (.str s),.v true (.bool false)]) (o:=by repeat' first|exact hSp|trivial|constructor) (k:=?_)
  refine zs0 ?_
  refine QQ.condF rfl (QQ.skip ?_)
  show QQ _ _ _ _ _ _ _
  refine zs2 (ρ:=fun _=>[.v true (.str t),.v true (.int .i64 x)]) (o:=by repeat' first|exact hSh|trivial|constructor) (k:=?_)
  refine zs2 (ρ:=fun _=>[.v true (.str t2)]) (o:=by repeat' first|exact hP|trivial|constructor) (k:=?_)
  exact QQ.ret (QK.vs rfl (by exact ⟨⟨rfl,id⟩,trivial⟩) rfl)
theorem qF (k P kd:Int) (neg:Bool) (e:Int) (l:List Int) (t:List UInt8) (ht:t.length<10000000) (h:QU Tryz.prog 70 [.v (Q3 k P),.v (Q9 kd neg e l)] [.v true (.str (bs t))]) :
 QU Tryz.prog 20 [.v (Q3 k P),.v (Q9 kd neg e l)] [.v true (.str (bs (smL neg t)))]:=by
 have hS:=Uj neg t ht
 obtain ⟨s,hs⟩ : ∃s,s=bs t:=⟨_,rfl⟩
 obtain ⟨s2,hs2⟩ : ∃s,s=bs (smL neg t):=⟨_,rfl⟩
 rw [←hs,←hs2] at hS
 rw [←hs] at h
 rw [←hs2]
 unfold Q3 Q9 QZ at h ⊢
 obtain ⟨M,hM⟩ : ∃M,M=l.map fun n=>V.int .u64 n:=⟨_,rfl⟩
 rw [←hM] at h ⊢
 clear hM hs hs2
 refine QU.of Tryz.func20 rfl rfl fun cx w0=>?_
 rw [show Tryz.f20.ntmps=11 from rfl]
 refine zs0 ?_
 refine zd2 [] (ρ:=fun d=>if d=9 then [.v true (.str s)] else [.v true (.str s2)]) (o:=by repeat' first|exact h|exact hS|trivial|constructor) (k:=?_)
 exact QQ.ret (QK.vs rfl (by exact ⟨⟨rfl,id⟩,trivial⟩) rfl)
def exB (m:Nat) (ex:Int):List UInt8:=if 0≤ex then Qv (m*2^ex.toNat) else ptL (Qv (m*5^(-ex).toNat)) (-ex)
theorem yV (k:Nat):5^k<2^(3*k+1):=by
 rw [Nat.pow_add,Nat.pow_mul]
 have:(5:Nat)^k≤(2^3)^k:=Nat.pow_le_pow_left (by decide) k
 have h0:0<(2^3)^k:=Nat.pow_pos (by decide)
 omega
theorem ex_bd {m B:Nat} {ex:Int} (hm:m<2^256) (hx : -16640≤ex∧ex≤16384) (hB:50179≤B):m*2^ex.toNat<2^B∧m*5^(-ex).toNat<2^B:=by
 obtain ⟨c,hc⟩ : ∃c,c=256:=⟨_,rfl⟩
 rw [←hc] at hm
 constructor
 ·refine Nat.lt_of_lt_of_le (Nat.mul_lt_mul_of_pos_right hm (Nat.pow_pos (by decide))) ?_
  rw [←Nat.pow_add]
  exact Nat.pow_le_pow_right (by decide) (by omega)
 ·refine Nat.lt_of_lt_of_le (Nat.mul_lt_mul_of_lt_of_lt hm (yV _)) ?_
  rw [←Nat.pow_add]
  exact Nat.pow_le_pow_right (by decide) (by omega)
set_option maxHeartbeats 2000000 in
theorem rExact_ok (kd:Int) (neg:Bool) (e:Int) (l:List Int) (m:Nat) (ex:Int) (hk:0≤kd∧kd≤3) (h1:kd=1→Raw e l m ex∧FlB m ex) :
 QU Tryz.prog 21 [.v (Q9 kd neg e l)] [.v true (.str (bs (smL neg (if kd=3∨kd=2∨kd=0 then GB kd else exB m ex))))]:=by
 have hSp:=Dy kd neg e (l.map fun n=>.int .u64 n)
 by_cases hkd:kd=3∨kd=2∨kd=0
 ·rw [if_pos hkd]
  rw [decide_eq_true hkd] at hSp
  have hS:=Uj neg (GB kd) (by unfold GB;split;decide;split;decide;split <;> decide)
  obtain ⟨s,hs⟩ : ∃s,s=bs (GB kd):=⟨_,rfl⟩
  obtain ⟨s2,hs2⟩ : ∃s,s=bs (smL neg (GB kd)):=⟨_,rfl⟩
  rw [←hs] at hSp hS
  rw [←hs2] at hS ⊢
  unfold Q9 QZ
  obtain ⟨M,hM⟩ : ∃M,M=l.map fun n=>V.int .u64 n:=⟨_,rfl⟩
  rw [←hM] at hSp ⊢
  clear hs hs2 hM h1
  refine QU.of Tryz.func21 rfl rfl fun cx w0=>?_
  rw [show Tryz.f21.ntmps=40 from rfl]
  refine zs0 ?_
  refine zs2 (ρ:=fun _=>[.v true (.str s),.v true (.bool true)]) (o:=by repeat' first|exact hSp|trivial|constructor) (k:=?_)
  refine QQ.seq ?_
  refine zs0 ?_
  refine QQ.condF rfl (QQ.skip ?_)
  show QQ _ _ _ _ _ _ _
  refine zs2 (ρ:=fun _=>[.v true (.str s2)]) (o:=by repeat' first|exact hS|trivial|constructor) (k:=?_)
  exact QQ.ret (QK.vs rfl (by exact ⟨⟨rfl,id⟩,trivial⟩) rfl)
 ·rw [if_neg hkd]
  have hk1:kd=1:=by omega
  subst hk1
  obtain ⟨hr,hB⟩:=h1 rfl
  rw [decide_eq_false hkd] at hSp
  have lo:=hB.lo
  have hi:=hB.hi
  have hC:=JC neg e l (by have:=hr.ll;omega) hr.ol (hr.bd (by omega))
  rw [←hr.em,←hr.ee] at hC
  obtain ⟨B,hBB⟩ : ∃B,B=50179:=⟨_,rfl⟩
  obtain ⟨v1,v2⟩:=ex_bd (B:=B) hB.mB ⟨lo,hi⟩ (by omega)
  have lm:(QX m).length≤5:=QC hB.mB (by omega)
  obtain ⟨s0,hs0⟩ : ∃s,s=bs (GB 1):=⟨_,rfl⟩
  rw [←hs0] at hSp
  unfold exB
  unfold YG at hC
  unfold Q9 QZ at hC ⊢
  obtain ⟨M,hM⟩ : ∃M,M=l.map fun n=>V.int .u64 n:=⟨_,rfl⟩
  rw [←hM] at hSp hC ⊢
  have hmv:QZ (QX m) = .sl 1 ((QX m).map fun n=>.int .u64 n):=rfl
  by_cases h0:0≤ex
  ·rw [if_pos h0]
   have hL:=Uq (QX m) ex.toNat (by omega) (by omega) (QY _).1
   rw [(QY _).2.2,show ((ex.toNat:Nat):Int)=ex from by omega] at hL
   have hT:=Kx (m*2^ex.toNat) (by have:=QC v1 (n:=800) (by omega);omega)
   have hdl:=UB v1 (by omega)
   have hS:=Uj neg (Qv (m*2^ex.toNat)) (by omega)
   obtain ⟨t,ht⟩ : ∃s,s=bs (Qv (m*2^ex.toNat)):=⟨_,rfl⟩
   obtain ⟨t2,ht2⟩ : ∃s,s=bs (smL neg (Qv (m*2^ex.toNat))):=⟨_,rfl⟩
   rw [←ht] at hT hS
   rw [←ht2] at hS ⊢
   obtain ⟨W,hW⟩ : ∃s,s=QX (m*2^ex.toNat):=⟨_,rfl⟩
   rw [←hW] at hL hT
   rw [hmv] at hL
   obtain ⟨D,hD⟩ : ∃s,s=(QX m).map fun n=>V.int .u64 n:=⟨_,rfl⟩
   rw [←hD] at hL hC
   clear hD hW ht ht2 hM hs0 v1 v2 hr hB h1 hmv hdl
   refine QU.of Tryz.func21 rfl rfl fun cx w0=>?_
   rw [show Tryz.f21.ntmps=40 from rfl]
   refine zs0 ?_
   refine zs2 (ρ:=fun _=>[.v true (.str s0),.v true (.bool false)]) (o:=by repeat' first|exact hSp|trivial|constructor) (k:=?_)
   refine QQ.next (fun σ=>∀a w,Rel cx w0 σ a w→Rel cx w0 {nt:=40,env:=[(3,.v true (.str t)),(1,.ptr 1 0 [] 0)],mem:=[(1,.box 38 (.v false (.agg [.int .i64 1,.bool neg,.int .i64 ex,.sl 1 D])))]} a w) ?_ ?_
   ·refine zs0 ?_
    refine QQ.condT rfl ?_
    refine zs2 (ρ:=fun _=>[.v true (.agg [.int .i64 1,.bool neg,.int .i64 ex,.sl 1 D])]) (o:=by repeat' first|exact hC|trivial|constructor) (k:=?_)
    refine zs1 h0 ?_
    refine QQ.condT rfl ?_
    refine zr2 (ρ:=fun d=>if d=21 then [.v true (QZ W)] else [.v true (.str t)]) (o:=by repeat' first|exact hL|exact hT|trivial|constructor) (k:=?_)
    exact fun a w h=>Rel.keep [3,1] [1] h
   ·intro σ hσ
    refine QQ.from hσ ?_
    refine zs2 (ρ:=fun _=>[.v true (.str t2)]) (o:=by repeat' first|exact hS|trivial|constructor) (k:=?_)
    exact QQ.ret (QK.vs rfl (by exact ⟨⟨rfl,id⟩,trivial⟩) rfl)
  ·rw [if_neg h0]
   have d5:QX 5=[5]:=by decide
   have o5:okW [(5:Int)]:=by intro n hn;simp at hn;omega
   have hW5:=YX 5 (by decide)
   rw [d5] at hW5
   have hW5:QU Tryz.prog 78 [.v (.int .u64 5)] [.v true (QZ [5])]:=hW5
   have hP5:=rPow_ok [5] (-ex).toNat 3 o5 (by simp) (by decide) (by omega) (by omega)
   rw [show val [(5:Int)]=5 from by decide,show (((-ex).toNat:Nat):Int) = -ex from by omega] at hP5
   have l5:(QX (5^(-ex).toNat)).length≤900:=QC (yV _) (by omega)
   have hMu:=KV (QX m) (QX (5^(-ex).toNat)) (by omega) (by omega) (QY _).1 (QY _).1
   rw [(QY m).2.2,(QY (5^(-ex).toNat)).2.2] at hMu
   have hT:=Kx (m*5^(-ex).toNat) (by have:=QC v2 (n:=800) (by omega);omega)
   have hdl:=UB v2 (by omega)
   have hPt:=pointed_ok (Qv (m*5^(-ex).toNat)) (-ex).toNat (EK _) (by omega) (by omega)
   rw [show (((-ex).toNat:Nat):Int) = -ex from by omega] at hPt
   have hpl:=zq (Qv (m*5^(-ex).toNat)) (-ex)
   have hS:=Uj neg (ptL (Qv (m*5^(-ex).toNat)) (-ex)) (by omega)
   obtain ⟨t,ht⟩ : ∃s,s=bs (Qv (m*5^(-ex).toNat)):=⟨_,rfl⟩
   obtain ⟨t1,ht1⟩ : ∃s,s=bs (ptL (Qv (m*5^(-ex).toNat)) (-ex)):=⟨_,rfl⟩
   obtain ⟨t2,ht2⟩ : ∃s,s=bs (smL neg (ptL (Qv (m*5^(-ex).toNat)) (-ex))):=⟨_,rfl⟩
   rw [←ht] at hT hPt
   rw [←ht1] at hPt hS
   rw [←ht2] at hS ⊢
   obtain ⟨W,hW⟩ : ∃s,s=QX (m*5^(-ex).toNat):=⟨_,rfl⟩
   rw [←hW] at hMu hT
   obtain ⟨F,hF⟩ : ∃s,s=QX (5^(-ex).toNat):=⟨_,rfl⟩
   rw [←hF] at hMu hP5
   obtain ⟨Fv,hFv⟩ : ∃s,s=[(5:Int)]:=⟨_,rfl⟩
   rw [←hFv] at hW5 hP5
   rw [hmv] at hMu
   obtain ⟨D,hD⟩ : ∃s,s=(QX m).map fun n=>V.int .u64 n:=⟨_,rfl⟩
   rw [←hD] at hMu hC
   have wn:IntKind.i64.wrap (0-ex) = -ex:=by rw [QV] <;> omega
   clear hD hW hF hFv ht ht1 ht2 hM hs0 v1 v2 hr hB h1 hmv hdl hpl l5
   refine QU.of Tryz.func21 rfl rfl fun cx w0=>?_
   rw [show Tryz.f21.ntmps=40 from rfl]
   refine zs0 ?_
   refine zs2 (ρ:=fun _=>[.v true (.str s0),.v true (.bool false)]) (o:=by repeat' first|exact hSp|trivial|constructor) (k:=?_)
   refine QQ.next (fun σ=>∀a w,Rel cx w0 σ a w→Rel cx w0 {nt:=40,env:=[(3,.v true (.str t1)),(1,.ptr 1 0 [] 0)],mem:=[(1,.box 38 (.v false (.agg [.int .i64 1,.bool neg,.int .i64 ex,.sl 1 D])))]} a w) ?_ ?_
   ·refine zs0 ?_
    refine QQ.condT rfl ?_
    refine zs2 (ρ:=fun _=>[.v true (.agg [.int .i64 1,.bool neg,.int .i64 ex,.sl 1 D])]) (o:=by repeat' first|exact hC|trivial|constructor) (k:=?_)
    refine zs1 h0 ?_
    refine QQ.condF rfl ?_
    refine zq3 [] (ρ:=fun d=>if d=25 then [.v true (QZ Fv)] else if d=29 then [.v true (QZ F)] else if d=30 then [.v true (QZ W)] else if d=31 then [.v true (.str t)] else [.v true (.str t1)]) wn (o:=by repeat' first|exact hW5|exact hP5|exact hMu|exact hT|exact hPt|trivial|constructor) (k:=?_)
    exact fun a w h=>Rel.keep [3,1] [1] h
   ·intro σ hσ
    refine QQ.from hσ ?_
    refine zs2 (ρ:=fun _=>[.v true (.str t2)]) (o:=by repeat' first|exact hS|trivial|constructor) (k:=?_)
    exact QQ.ret (QK.vs rfl (by exact ⟨⟨rfl,id⟩,trivial⟩) rfl)
theorem fExp_ok (neg:Bool) (m:Nat) (ex:Int) (hm:(QX m).length≤5) (hx : -20000≤ex∧ex≤20000) (h0:0<m):QU Tryz.prog 156 [.v (YG 1 neg ex m)] [.v true (.int .i64 (ex+(blN m-1:Nat)))]:=by
 have hL:=UC (QX m) (by omega) (QY _).1
 rw [JF (QY _).1,(QY _).2.2] at hL
 have hb:blN m≤64*5:=by
  have h1:=ZY (QY m).1
  rw [(QY m).2.2,Eq] at h1
  obtain ⟨c,hc⟩ : ∃c,c=64*5:=⟨_,rfl⟩
  rw [←hc]
  exact X6 (Nat.lt_of_lt_of_le h1 (Nat.pow_le_pow_right (by decide) (by omega)))
 have hb1:=(U3 h0).2
 obtain ⟨n,hn⟩ : ∃n,n=blN m:=⟨_,rfl⟩
 rw [←hn] at hL hb hb1 ⊢
 have w1:IntKind.i64.wrap ((n:Int)-1)=((n-1:Nat):Int):=by rw [QV] <;> omega
 have w2:IntKind.i64.wrap (((n-1:Nat):Int)+ex)=ex+(n-1:Nat):=by rw [QV] <;> omega
 have w3:(n:Int)-1=((n-1:Nat):Int):=by omega
 have w4:((n-1:Nat):Int)+ex=ex+(n-1:Nat):=by omega
 unfold YG
 obtain ⟨D,hD⟩ : ∃D,D=QX m:=⟨_,rfl⟩
 rw [←hD] at hL ⊢
 obtain ⟨k,hk⟩ : ∃k,k=n-1:=⟨_,rfl⟩
 rw [←hk] at w1 w2 w3 w4 ⊢
 clear hD hn
 refine QU.of Tryz.func156 rfl rfl fun cx w0=>?_
 rw [show Tryz.f156.ntmps=10 from rfl]
 refine zs0 ?_
 refine zd3 [] (ρ:=fun _=>[.v true (.int .i64 n)]) (an w1 <| an w2 <| an w3 <| w4) (o:=by repeat' first|exact hL|trivial|constructor) (k:=?_)
 exact QQ.ret (QK.vs rfl (by exact ⟨⟨rfl,id⟩,trivial⟩) rfl)
def hkN (m b:Nat):Nat:=if 4≤b then m%2^b/2^(b-4) else m%2^b*2^(4-b)
theorem bitN_eq (m i:Nat):VE m i=decide (m/2^i%2=1):=rfl
theorem hk_lt (m b:Nat):hkN m b<16:=by
 unfold hkN
 split
 ·next h =>
  rw [Nat.div_lt_iff_lt_mul (Nat.pow_pos (by decide)),show 16*2^(b-4)=2^b from by
   rw [show (16:Nat)=2^4 from rfl,←Nat.pow_add];congr 1;omega]
  exact Nat.mod_lt _ (Nat.pow_pos (by decide))
 ·next h =>
  have h1:m%2^b<2^b:=Nat.mod_lt _ (Nat.pow_pos (by decide))
  have h2:m%2^b*2^(4-b)<2^b*2^(4-b):=Nat.mul_lt_mul_of_pos_right h1 (Nat.pow_pos (by decide))
  rw [←Nat.pow_add,show b+(4-b)=4 from by omega] at h2
  exact h2
theorem KE (m i:Nat):(if Gx m (i:Int)=true then 1 else 0)=m/2^i%2:=by
 have:Gx m (i:Int)=VE m i:=by unfold Gx;rw [if_pos (by omega),Int.toNat_natCast]
 rw [this,bitN_eq]
 by_cases h:m/2^i%2=1
 ·rw [decide_eq_true h,if_pos rfl,h]
 ·rw [decide_eq_false h,if_neg (by simp)];omega
theorem DU (m:Nat) (i:Int) (h:i<0):(if Gx m i=true then 1 else 0)=0:=by
 have:Gx m i=false:=by unfold Gx;rw [if_neg (by omega)]
 rw [this];rfl
theorem hk_eq (m b:Nat) (hb:0<b):hxP m ((b:Int)-1) 4=hkN m b:=by
 have e:hxP m ((b:Int)-1) 4=2*(2*(2*(2*0+(if Gx m ((b:Int)-1-(0:Nat))=true then 1 else 0))+(if Gx m ((b:Int)-1-(1:Nat))=true then 1 else 0))+(if Gx m ((b:Int)-1-(2:Nat))=true then 1 else 0))+(if Gx m ((b:Int)-1-(3:Nat))=true then 1 else 0):=rfl
 rw [e]
 unfold hkN
 by_cases h4:4≤b
 ·rw [if_pos h4]
  obtain ⟨c,rfl⟩ : ∃c,b=c+4:=⟨b-4,by omega⟩
  rw [show ((c+4:Nat):Int)-1-(0:Nat)=((c+3:Nat):Int) from by omega,show ((c+4:Nat):Int)-1-(1:Nat)=((c+2:Nat):Int) from by omega,show ((c+4:Nat):Int)-1-(2:Nat)=((c+1:Nat):Int) from by omega,show ((c+4:Nat):Int)-1-(3:Nat)=(c:Int) from by omega,KE,KE,KE,KE,Nat.add_sub_cancel]
  have h1:m%2^(c+4)/2^c=m/2^c%2^4:=by
   rw [Nat.pow_add,Nat.mod_mul_right_div_self]
  rw [h1]
  have p3:m/2^(c+3)=m/2^c/8:=by rw [Nat.pow_add,Nat.div_div_eq_div_mul]
  have p2:m/2^(c+2)=m/2^c/4:=by rw [Nat.pow_add,Nat.div_div_eq_div_mul]
  have p1:m/2^(c+1)=m/2^c/2:=by rw [Nat.pow_add,Nat.div_div_eq_div_mul]
  rw [p3,p2,p1]
  omega
 ·rw [if_neg h4]
  have hc:b=1∨b=2∨b=3:=by omega
  rcases hc with rfl|rfl|rfl
  ·rw [show ((1:Nat):Int)-1-(0:Nat)=((0:Nat):Int) from rfl,KE,DU _ _ (by decide),DU _ _ (by decide),DU _ _ (by decide)]
   simp only [Nat.pow_zero,Nat.div_one]
   omega
  ·rw [show ((2:Nat):Int)-1-(0:Nat)=((1:Nat):Int) from rfl,show ((2:Nat):Int)-1-(1:Nat)=((0:Nat):Int) from rfl,KE,KE,DU _ _ (by decide),DU _ _ (by decide)]
   simp only [Nat.pow_zero,Nat.div_one,Nat.pow_one]
   omega
  ·rw [show ((3:Nat):Int)-1-(0:Nat)=((2:Nat):Int) from rfl,show ((3:Nat):Int)-1-(1:Nat)=((1:Nat):Int) from rfl,show ((3:Nat):Int)-1-(2:Nat)=((0:Nat):Int) from rfl,KE,KE,KE,DU _ _ (by decide)]
   simp only [Nat.pow_zero,Nat.div_one,Nat.pow_one]
   omega
def hrL (m b:Nat):List UInt8:=hxL m ((b+3)/4) ((b:Int)-1)
theorem hrL_0 (m:Nat):hrL m 0=[]:=rfl
theorem hrL_s (m b:Nat) (hb:0<b):hrL m b=HE (hkN m b)::hrL m (b-4):=by
 unfold hrL
 by_cases h4:4≤b
 ·rw [show (b+3)/4=(b-4+3)/4+1 from by omega,hxL,hk_eq m b hb,show (b:Int)-1-4=((b-4:Nat):Int)-1 from by omega]
 ·rw [show (b+3)/4=0+1 from by omega,hxL,hk_eq m b hb,show (b-4+3)/4=0 from by omega]
  rfl
theorem hxD_eq (m:Nat):hxD m=hrL m (blN m-1):=rfl
theorem z7 (m:Nat) : ∀(n b:Nat),b≤n→(hrL m b).length≤n
 | 0,b,h=>by rw [show b=0 from by omega];exact Nat.le_refl _
 | n+1,b,h=>by
   rcases Nat.eq_zero_or_pos b with h0|h0
   ·rw [h0];exact Nat.zero_le _
   ·rw [hrL_s m b h0,List.length_cons]
    have:=z7 m n (b-4) (by omega)
    omega
def hbL (kd:Int) (m:Nat) (ex:Int):List UInt8:=if kd=3 then [110,97,110] else if kd=2 then [105,110,102] else if kd=0 then [48,120,48,112,43,48] else 48::120::49::(if hxD m=[] then [] else 46::hxD m)++112::sgL (ex+(blN m-1:Nat)) 1
def hexS:ByteArray:=⟨#[48,49,50,51,52,53,54,55,56,57,97,98,99,100,101,102]⟩
theorem hexS_all:((List.range 16).all fun d=>decide ((hexS.extract d (d+1)).data.toList=[HE d]))=true:=by decide +kernel
theorem hexS_ok {d:Nat} (h:d<16):hexS.extract d (d+1)=bs [HE d]:=by
 have:=of_decide_eq_true (List.all_eq_true.1 hexS_all d (List.mem_range.2 h))
 rw [bs_of (hexS.extract d (d+1)),this]
theorem word0_at (v:Nat) (hv:v<16):(QX v=[]∧v=0)∨(QX v=[(v:Int)]∧0<v):=by
 rcases Nat.eq_zero_or_pos v with h|h
 ·left;rw [h];exact ⟨by decide,rfl⟩
 ·right
  refine ⟨?_,h⟩
  have:((List.range 16).all fun v=>decide (v=0∨QX v=[(v:Int)]))=true:=by decide +kernel
  have:=of_decide_eq_true (List.all_eq_true.1 this v (List.mem_range.2 hv))
  exact this.resolve_left (by omega)
set_option maxHeartbeats 2000000 in
theorem hx_round {cx:Cx} {w0:World} (m b:Nat) (T:List UInt8) (hm:(QX m).length≤5) (hb:0<b) (hb2:b≤400) (hT:T.length<1000) (ev:Int) {Q':Exit→St→Prop}
 (hq : ∀σ,(∀x w,Rel cx w0 σ x w→Rel cx w0 {nt:=79,env:=[(4,.v true (.int .i64 (b-4:Nat))),(5,.v true (QZ (QX (m%2^(b-4))))),(6,.v true (.str (bs (T++[HE (hkN m b)])))),(3,.v true (.int .i64 ev))],mem:=[]} x w)→Q' .normal σ) :
 QQ Tryz.prog none cx w0 (ZH Tryz.f79 [1,1,1,1,1,1,1,0,0,0,1,0]) {nt:=79,env:=[(4,.v true (.int .i64 b)),(5,.v true (QZ (QX (m%2^b)))),(6,.v true (.str (bs T))),(3,.v true (.int .i64 ev))],mem:=[]} Q':=by
 have hlow : ∀c,(QX (m%2^c)).length≤5:=fun c=>Nat.le_trans (Zk (Nat.mod_le _ _)) hm
 have hk:=hk_lt m b
 have hL2:=zB (QX (m%2^b)) (b-4) (by have:=hlow b;omega) (by omega) (QY _).1
 rw [(QY (m%2^b)).2.2,Nat.mod_mod_of_dvd m (Nat.pow_dvd_pow 2 (Nat.sub_le b 4))] at hL2
 have hX:=hexS_ok hk
 have hzT:=Qx T
 have hap:bs T++hexS.extract (hkN m b) (hkN m b+1)=bs (T++[HE (hkN m b)]):=by rw [hX,ZQ]
 have hzX:(hexS.extract (hkN m b) (hkN m b+1)).size=1:=by rw [hX,Qx];rfl
 have hfirst : ∃D:List Int,D=QX (hkN m b)∧(∀cx w0 (M':St→Prop),QQ Tryz.prog none cx w0 (ZH Tryz.f79 [1,1,1,1,1,1,1,0,0,0,1,0,1,0]) {nt:=79,env:=[(7,.nil),(4,.v true (.int .i64 b)),(5,.v true (QZ (QX (m%2^b)))),(6,.v true (.str (bs T))),(3,.v true (.int .i64 ev))],mem:=[]} (NR (fun σ=>∀x w,Rel cx w0 σ x w→Rel cx w0 {nt:=79,env:=[(7,.v true (QZ D)),(4,.v true (.int .i64 b)),(5,.v true (QZ (QX (m%2^b)))),(6,.v true (.str (bs T))),(3,.v true (.int .i64 ev))],mem:=[]} x w) M')):=by
  refine ⟨_,rfl,fun cx w0 M'=>?_⟩
  unfold hkN
  by_cases h4:4≤b
  ·rw [if_pos h4]
   have hR:=XB (QX (m%2^b)) (b-4) (by have:=hlow b;omega) (by omega) (QY _).1
   rw [(QY (m%2^b)).2.2] at hR
   have w1:IntKind.i64.wrap ((b:Int)-4)=((b-4:Nat):Int):=by rw [QV] <;> omega
   have w2:(b:Int)-4=((b-4:Nat):Int):=by omega
   have g:(4:Int)≤b:=by omega
   obtain ⟨b4,hb4⟩ : ∃x,x=b-4:=⟨_,rfl⟩
   rw [←hb4] at hR w1 w2 ⊢
   obtain ⟨V1,hV1⟩ : ∃x,x=QX (m%2^b):=⟨_,rfl⟩
   obtain ⟨V2,hV2⟩ : ∃x,x=QX (m%2^b/2^b4):=⟨_,rfl⟩
   obtain ⟨s,hs⟩ : ∃x,x=bs T:=⟨_,rfl⟩
   rw [←hV1,←hV2] at hR
   rw [←hV1,←hV2,←hs]
   clear hV1 hV2 hs hap hX hzX hL2 hq hlow
   refine zs1 g ?_
   refine QQ.condT rfl ?_
   refine zr3 (ρ:=fun _=>[.v true (QZ V2)]) (an w1 <| w2) (o:=by repeat' first|exact hR|trivial|constructor) (k:=?_)
   exact fun x w h=>Rel.keep [7,4,5,6,3] [] h
  ·rw [if_neg h4]
   have hR:=Uq (QX (m%2^b)) (4-b) (by have:=hlow b;omega) (by omega) (QY _).1
   rw [(QY (m%2^b)).2.2] at hR
   have w1:IntKind.i64.wrap (4-(b:Int))=((4-b:Nat):Int):=by rw [QV] <;> omega
   have w2:4-(b:Int)=((4-b:Nat):Int):=by omega
   have g : ¬(4:Int)≤b:=by omega
   obtain ⟨b4,hb4⟩ : ∃x,x=4-b:=⟨_,rfl⟩
   rw [←hb4] at hR w1 w2 ⊢
   obtain ⟨V1,hV1⟩ : ∃x,x=QX (m%2^b):=⟨_,rfl⟩
   obtain ⟨V2,hV2⟩ : ∃x,x=QX (m%2^b*2^b4):=⟨_,rfl⟩
   obtain ⟨s,hs⟩ : ∃x,x=bs T:=⟨_,rfl⟩
   rw [←hV1,←hV2] at hR
   rw [←hV1,←hV2,←hs]
   clear hV1 hV2 hs hap hX hzX hL2 hq hlow
   refine zs1 g ?_
   refine QQ.condF rfl ?_
   refine zr3 (ρ:=fun _=>[.v true (QZ V2)]) (an w1 <| w2) (o:=by repeat' first|exact hR|trivial|constructor) (k:=?_)
   exact fun x w h=>Rel.keep [7,4,5,6,3] [] h
 obtain ⟨D,hD,hfirst⟩:=hfirst
 have hw0:=word0_at (hkN m b) hk
 rw [←hD] at hw0
 obtain ⟨k,hke⟩ : ∃k,k=hkN m b:=⟨_,rfl⟩
 rw [←hke] at hk hap hzX hw0 hq
 obtain ⟨V1,hV1⟩ : ∃x,x=QX (m%2^b):=⟨_,rfl⟩
 obtain ⟨V2,hV2⟩ : ∃x,x=QX (m%2^(b-4)):=⟨_,rfl⟩
 obtain ⟨s,hs⟩ : ∃x,x=bs T:=⟨_,rfl⟩
 obtain ⟨s2,hs2⟩ : ∃x,x=bs (T++[HE k]):=⟨_,rfl⟩
 rw [←hV1,←hV2] at hL2
 rw [←hV1,←hs] at hfirst
 rw [←hV2,←hs2] at hq
 rw [←hs,←hs2] at hap
 rw [←hs] at hzT
 rw [←hV1,←hs]
 obtain ⟨b4,hb4⟩ : ∃x,x=b-4:=⟨_,rfl⟩
 have wm:(if (0:Int)<(b:Int)-4 then (b:Int)-4 else 0)=(b4:Int):=by split <;> omega
 have w1:IntKind.i64.wrap ((b:Int)-4)=(b:Int)-4:=by rw [QV] <;> omega
 rw [←hb4] at hL2 hq
 have a1:s.size+(hexS.extract k (k+1)).size≤9223372036854775807:=by omega
 unfold hexS at hap a1
 clear hb4 hs2 hs hV2 hV1 hke hX hD hlow hzX
 refine zs0 ?_
 refine QQ.next _ (hfirst cx w0 _) ?_
 intro σ hσ
 refine QQ.from hσ ?_
 clear hσ hfirst
 refine zs0 ?_
 refine QQ.next (fun σ=>∀x w,Rel cx w0 σ x w→Rel cx w0 {nt:=79,env:=[(8,.v true (.int .i64 k)),(4,.v true (.int .i64 b)),(5,.v true (QZ V1)),(6,.v true (.str s)),(3,.v true (.int .i64 ev))],mem:=[]} x w) ?_ ?_
 ·rcases hw0 with ⟨hD,h0⟩|⟨hD,h0⟩
  ·rw [hD]
   subst h0
   refine zs0 ?_
   exact QQ.condF rfl (QQ.skip fun x w h=>Rel.keep [8,4,5,6,3] [] h)
  ·rw [hD]
   have w2:IntKind.i64.wrap (k:Int)=(k:Int):=by rw [QV] <;> omega
   refine zs0 ?_
   refine QQ.condT rfl ?_
   refine zr1 w2 ?_
   exact fun x w h=>Rel.keep [8,4,5,6,3] [] h
 ·intro σ hσ
  refine QQ.from hσ ?_
  clear hσ hw0
  have wk:IntKind.i64.wrap ((k:Int)+1)=((k+1:Nat):Int):=by rw [QV] <;> omega
  have g1:((k:Nat):Int)≤((k+1:Nat):Int):=by omega
  have g2:((k+1:Nat):Int)≤16:=by omega
  have g3:(0:Int)≤(k:Int):=by omega
  have gz:(ByteArray.mk #[48,49,50,51,52,53,54,55,56,57,97,98,99,100,101,102]).size=16:=rfl
  obtain ⟨k1,hk1⟩ : ∃k1,k1=k+1:=⟨_,rfl⟩
  rw [←hk1] at wk g1 g2 a1 hap
  have wk2:(k:Int)+1=(k1:Int):=by omega
  refine zs1 (an wk <| an wk2 <| an g1 <| an g2 <| an g3 <| an gz <| an a1 <| hap) ?_
  refine zs1 (an w1 <| wm) ?_
  refine zr2 (ρ:=fun _=>[.v true (QZ V2)]) (o:=by repeat' first|exact hL2|trivial|constructor) (k:=?_)
  exact hq _ fun x w h=>Rel.keep [4,5,6,3] [] h
theorem sgL_1 (e:Int):sgL e 1=(if e<0 then 45 else 43)::Qv e.natAbs:=by
 unfold sgL
 rw [show 1-(Qv e.natAbs).length=0 from by have:=EK e.natAbs;omega]
 rfl
set_option maxHeartbeats 2000000 in
theorem rHexB_ok (kd:Int) (neg:Bool) (e:Int) (l:List Int) (m:Nat) (ex:Int) (hk:0≤kd∧kd≤3) (h1:kd=1→Raw e l m ex∧FlB m ex) :
 QU Tryz.prog 79 [.v (Q9 kd neg e l)] [.v true (.str (bs (hbL kd m ex)))]:=by
 unfold hbL
 by_cases hk3:kd=3
 ·subst hk3
  rw [if_pos rfl]
  unfold Q9
  refine QU.of Tryz.func79 rfl rfl fun cx w0=>?_
  rw [show Tryz.f79.ntmps=79 from rfl]
  refine zs0 ?_
  refine QQ.seq ?_
  refine zs0 ?_
  refine QQ.block ?_
  refine zs0 ?_
  refine QQ.condT rfl ?_
  refine zs0 ?_
  exact QQ.ret (QK.vs rfl (by exact ⟨⟨rfl,id⟩,trivial⟩) rfl)
 rw [if_neg hk3]
 by_cases hk2:kd=2
 ·subst hk2
  rw [if_pos rfl]
  unfold Q9
  refine QU.of Tryz.func79 rfl rfl fun cx w0=>?_
  rw [show Tryz.f79.ntmps=79 from rfl]
  refine zs0 ?_
  refine QQ.seq ?_
  refine zs0 ?_
  refine QQ.block ?_
  refine zs0 ?_
  refine QQ.condF rfl ?_
  refine zs0 ?_
  refine QQ.condT rfl ?_
  refine zs0 ?_
  exact QQ.ret (QK.vs rfl (by exact ⟨⟨rfl,id⟩,trivial⟩) rfl)
 rw [if_neg hk2]
 by_cases hk0:kd=0
 ·subst hk0
  rw [if_pos rfl]
  unfold Q9
  refine QU.of Tryz.func79 rfl rfl fun cx w0=>?_
  rw [show Tryz.f79.ntmps=79 from rfl]
  refine zs0 ?_
  refine QQ.seq ?_
  refine zs0 ?_
  refine QQ.block ?_
  refine zs0 ?_
  refine QQ.condF rfl ?_
  refine zs0 ?_
  refine QQ.condF rfl ?_
  refine zs0 ?_
  refine QQ.condT rfl ?_
  refine zs0 ?_
  exact QQ.ret (QK.vs rfl (by exact ⟨⟨rfl,id⟩,trivial⟩) rfl)
 rw [if_neg hk0]
 have hk1:kd=1:=by omega
 subst hk1
 obtain ⟨hr,hB⟩:=h1 rfl
 have lo:=hB.lo
 have hi:=hB.hi
 have hC:=JC neg e l (by have:=hr.ll;omega) hr.ol (hr.bd (by omega))
 rw [←hr.em,←hr.ee] at hC
 have lm:(QX m).length≤5:=QC hB.mB (by omega)
 have hE:=fExp_ok neg m ex lm (by omega) hB.m0
 have hL:=UC (QX m) (by omega) (QY _).1
 rw [JF (QY _).1,(QY _).2.2] at hL
 have hbl:blN m≤256:=X6 hB.mB
 have hb1:=(U3 hB.m0).2
 have hLow:=zB (QX m) (blN m-1) (by omega) (by omega) (QY _).1
 rw [(QY _).2.2] at hLow
 have hround:=fun (cx:Cx) (w0:World) (b:Nat) (T:List UInt8) (hb:0<b) (hb2:b≤400) (hT:T.length<1000) (Q':Exit→St→Prop)=>hx_round (cx:=cx) (w0:=w0) m b T lm hb hb2 hT (ex+(blN m-1:Nat)) (Q':=Q')
 have hdl:(hxD m).length≤256:=by rw [hxD_eq];exact z7 m 256 _ (by omega)
 have hsn : ∀b,0<b→hrL m b=HE (hkN m b)::hrL m (b-4):=fun b h=>hrL_s m b h
 have hN:=BZ (ex+((blN m-1:Nat):Int)).natAbs (by omega)
 have hnl:(Qv (ex+((blN m-1:Nat):Int)).natAbs).length≤13:=UQ (by rw [show (10:Nat)^13=10000000000000 from rfl];omega) (by decide)
 rw [sgL_1]
 have hD:hxD m=hrL m (blN m-1):=hxD_eq m
 obtain ⟨b0,hb0⟩ : ∃b,b=blN m-1:=⟨_,rfl⟩
 rw [←hb0] at hE hLow hround hN hnl hD ⊢
 have w1:IntKind.i64.wrap ((blN m:Int)-1)=(b0:Int):=by rw [QV] <;> omega
 have w1':(blN m:Int)-1=(b0:Int):=by omega
 obtain ⟨ev,hev⟩ : ∃ev,ev=ex+(b0:Int):=⟨_,rfl⟩
 rw [←hev] at hE hround hN hnl ⊢
 obtain ⟨na,hna⟩ : ∃n,n=ev.natAbs:=⟨_,rfl⟩
 rw [←hna] at hN hnl ⊢
 obtain ⟨HD,hHD⟩ : ∃x,x=hxD m:=⟨_,rfl⟩
 rw [←hHD] at hD hdl ⊢
 obtain ⟨Pf,hPf⟩ : ∃P:List UInt8,P=if HD=[] then [] else 46::HD:=⟨_,rfl⟩
 rw [←hPf]
 have hPl:Pf.length≤257:=by
  rw [hPf]
  split
  ·exact Nat.zero_le _
  ·rw [List.length_cons];omega
 have hfin : ∀c:UInt8,bs (48::120::49::Pf++112::c::Qv na)=((ByteArray.mk #[48,120,49]++bs Pf)++ByteArray.mk #[112,c])++bs (Qv na):=fun c=>by
  rw [show ByteArray.mk #[48,120,49]=bs [48,120,49] from rfl,show ByteArray.mk #[112,c]=bs [112,c] from rfl,ZQ,ZQ,ZQ]
  simp only [List.append_assoc,List.cons_append,List.nil_append]
 have hdot:HD≠[]→ByteArray.mk #[46]++bs HD=bs Pf:=fun h=>by
  rw [hPf,if_neg h,show ByteArray.mk #[46]=bs [46] from rfl,ZQ];rfl
 have hnod:HD=[]→bs HD=bs Pf:=fun h=>by rw [hPf,if_pos h,h]
 have hne:HD≠[]→((bs HD).toList == (ByteArray.mk #[]).toList)=false:=fun h=>by
  rw [beq_eq_false_iff_ne,Go.ByteArray.toList_eq,Go.ByteArray.toList_eq]
  simpa using h
 have zP:=Qx Pf
 have zH:=Qx HD
 have zN:=Qx (Qv na)
 have hmv:QZ (QX m) = .sl 1 ((QX m).map fun n=>.int .u64 n):=rfl
 unfold YG at hE
 unfold YG at hC
 unfold Q9 QZ at hC
 rw [hmv] at hE hL hLow
 unfold Q9 QZ
 obtain ⟨M,hM⟩ : ∃M,M=l.map fun n=>V.int .u64 n:=⟨_,rfl⟩
 rw [←hM] at hC ⊢
 obtain ⟨Dm,hDm⟩ : ∃s,s=(QX m).map fun n=>V.int .u64 n:=⟨_,rfl⟩
 rw [←hDm] at hE hL hLow hC
 obtain ⟨blm,hblm⟩ : ∃s,s=blN m:=⟨_,rfl⟩
 rw [←hblm] at hL w1 w1' hbl
 refine QU.of Tryz.func79 rfl rfl fun cx w0=>?_
 rw [show Tryz.f79.ntmps=79 from rfl]
 have hround:=hround cx w0
 obtain ⟨v0,hv0⟩ : ∃s,s=QX (m%2^b0):=⟨_,rfl⟩
 rw [←hv0] at hLow
 clear hM hDm hmv hr hB h1 hPf lm
 refine zs0 ?_
 refine QQ.seq ?_
 refine zs0 ?_
 refine QQ.block ?_
 refine zs0 ?_
 refine QQ.condF rfl ?_
 refine zs0 ?_
 refine QQ.condF rfl ?_
 refine zs0 ?_
 refine QQ.condF rfl (QQ.skip ?_)
 show QQ _ _ _ _ _ _ _
 refine zs2 (ρ:=fun _=>[.v true (.agg [.int .i64 1,.bool neg,.int .i64 ex,.sl 1 Dm])]) (o:=by repeat' first|exact hC|trivial|constructor) (k:=?_)
 refine zs2 (ρ:=fun _=>[.v true (.int .i64 ev)]) (o:=by repeat' first|exact hE|trivial|constructor) (k:=?_)
 refine zs3 (ρ:=fun _=>[.v true (.int .i64 blm)]) (an w1 <| w1') (o:=by repeat' first|exact hL|trivial|constructor) (k:=?_)
 refine zs2 (ρ:=fun _=>[.v true (QZ v0)]) (o:=by repeat' first|exact hLow|trivial|constructor) (k:=?_)
 refine zs0 ?_
 refine QQ.from (σ' := {nt:=79,env:=[(4,.v true (.int .i64 b0)),(5,.v true (QZ v0)),(6,.v true (.str ⟨#[]⟩)),(3,.v true (.int .i64 ev))],mem:=[]}) (fun a w h=>Rel.keep [4,5,6,3] [] h) ?_
 refine QQ.next (fun σ=>∀a w,Rel cx w0 σ a w→Rel cx w0 {nt:=79,env:=[(6,.v true (.str (bs HD))),(3,.v true (.int .i64 ev))],mem:=[]} a w) ?_ ?_
 ·rw [hv0]
  refine QQ.loopB (fun q:Nat×List UInt8 => {nt:=79,env:=[(4,.v true (.int .i64 q.1)),(5,.v true (QZ (QX (m%2^q.1)))),(6,.v true (.str (bs q.2))),(3,.v true (.int .i64 ev))],mem:=[]}) (fun q=>q.1≤b0∧q.2++hrL m q.1=HD∧q.2.length≤256) (fun q=>q.1) (b0,[]) ⟨Nat.le_refl _,by rw [hD];rfl,by simp⟩ (fun a w h=>Rel.keep [4,5,6,3] [] h) ?_
  rintro ⟨b,T⟩ ⟨q1,q2,q4⟩
  simp only at q1 q2 q4
  show QQ _ _ _ _ _ {nt:=79,env:=[(4,.v true (.int .i64 b)),(5,.v true (QZ (QX (m%2^b)))),(6,.v true (.str (bs T))),(3,.v true (.int .i64 ev))],mem:=[]} _
  rcases Nat.eq_zero_or_pos b with hb|hb
  ·subst hb
   rw [hrL_0,List.append_nil] at q2
   rw [q2]
   obtain ⟨V0,hV0⟩ : ∃x,x=QX (m%2^0):=⟨_,rfl⟩
   rw [←hV0]
   obtain ⟨sH,hsH⟩ : ∃x,x=bs HD:=⟨_,rfl⟩
   rw [←hsH]
   clear hV0 hround hsH
   refine QQ.seq ?_
   refine zs0 ?_
   exact QQ.condF rfl (QQ.exit ⟨rfl,fun a w h=>Rel.keep [6,3] [] h⟩)
  ·have hs:=hsn b hb
   rw [hs] at q2
   have hTl:T.length+1≤256:=by
    have:=congrArg List.length q2
    rw [List.length_append,List.length_cons] at this
    omega
   have g:(0:Int)<b:=by omega
   have hr:=hround b T hb (by omega) (by omega)
   refine QQ.seq ?_
   have go : ∀(N':St→Prop) σ0,(∀a w,Rel cx w0 σ0 a w→Rel cx w0 {nt:=79,env:=[(4,.v true (.int .i64 b)),(5,.v true (QZ (QX (m%2^b)))),(6,.v true (.str (bs T))),(3,.v true (.int .i64 ev))],mem:=[]} a w)→QQ Tryz.prog none cx w0 (ZH Tryz.f79 [1,1,1,1,1,1,1,0,0,0,1]) σ0 (roundQ (fun q:Nat×List UInt8 => {nt:=79,env:=[(4,.v true (.int .i64 q.1)),(5,.v true (QZ (QX (m%2^q.1)))),(6,.v true (.str (bs q.2))),(3,.v true (.int .i64 ev))],mem:=[]}) (fun q=>q.1≤b0∧q.2++hrL m q.1=HD∧q.2.length≤256) (fun q=>q.1) (b,T) cx w0 1 (fun σ=>∀a w,Rel cx w0 σ a w→Rel cx w0 {nt:=79,env:=[(6,.v true (.str (bs HD))),(3,.v true (.int .i64 ev))],mem:=[]} a w) N'):=fun N' σ0 h0=>by
    refine QQ.from h0 ?_
    refine QQ.block ?_
    refine hr _ fun σ hσ=>?_
    refine ⟨(b-4,T++[HE (hkN m b)]),⟨by show b-4≤b0;omega,?_,?_⟩,(show b-4<b by omega),hσ⟩
    ·show (T++[HE (hkN m b)])++hrL m (b-4)=HD
     rw [List.append_assoc];exact q2
    ·show (T++[HE (hkN m b)]).length≤256
     rw [List.length_append];exact hTl
   obtain ⟨V0,hV0⟩ : ∃x,x=QX (m%2^b):=⟨_,rfl⟩
   rw [←hV0] at go ⊢
   obtain ⟨sT,hsT⟩ : ∃x,x=bs T:=⟨_,rfl⟩
   rw [←hsT] at go ⊢
   clear hV0 hround hsT hr hs
   refine zs1 g ?_
   refine QQ.condT rfl (QQ.skip ?_)
   exact go _ _ (fun a w h=>Rel.keep [4,5,6,3] [] h)
 ·intro σ hσ
  refine QQ.from hσ ?_
  clear hσ hround hE hC hL hLow hsn hD hHD
  refine QQ.next (fun σ=>∀a w,Rel cx w0 σ a w→Rel cx w0 {nt:=79,env:=[(6,.v true (.str (bs Pf))),(3,.v true (.int .i64 ev))],mem:=[]} a w) ?_ ?_
  ·by_cases hh:HD=[]
   ·rw [hnod hh]
    have:bs Pf=ByteArray.mk #[]:=by rw [←hnod hh,hh]
    rw [this]
    refine QQ.step (Px:=px) (T:=TT) (ρ:=fun _=>[]) TTe (by simp (maxSteps:=100000) (disch:=omega) only [go_sem,V.isAgg,V.flat,↓reduceIte,Nat.reduceAdd,Nat.reduceSub,Nat.reduceLT,Nat.reduceEqDiff,reduceCtorEq,Nat.reduceLeDiff,Nat.reduceBEq,Nat.reduceMul,Int.reduceToNat,eq_self,not_true_eq_false];rfl) (by repeat' first|exact trivial|constructor) ?_
    exact QQ.condF rfl (QQ.skip fun a w h=>Rel.keep [6,3] [] h)
   ·have h1:=hdot hh
    have h2:=hne hh
    obtain ⟨sH,hsH⟩ : ∃x,x=bs HD:=⟨_,rfl⟩
    obtain ⟨sP,hsP⟩ : ∃x,x=bs Pf:=⟨_,rfl⟩
    rw [←hsH] at h1 h2 zH ⊢
    rw [←hsP] at h1 ⊢
    have a1:(#[(46:UInt8)]).size+sH.size≤9223372036854775807:=by show 1+sH.size≤_;omega
    clear hsH hsP
    refine zs1 h2 ?_
    refine QQ.condT rfl ?_
    refine zr1 (an a1 <| h1) ?_
    exact fun a w h=>Rel.keep [6,3] [] h
  ·intro σ hσ
   refine QQ.from hσ ?_
   clear hσ hdot hnod hne
   by_cases hneg:ev<0
   ·rw [if_pos hneg,hfin]
    obtain ⟨sP,hsP⟩ : ∃x,x=bs Pf:=⟨_,rfl⟩
    obtain ⟨sN,hsN⟩ : ∃x,x=bs (Qv na):=⟨_,rfl⟩
    rw [←hsP] at zP ⊢
    rw [←hsN] at zN hN ⊢
    have wn:IntKind.i64.wrap (0-ev)=(na:Int):=by rw [QV] <;> omega
    have a1:(#[(48:UInt8),120,49]).size+sP.size≤9223372036854775807:=by show 3+sP.size≤_;omega
    have a2:(#[(48:UInt8),120,49]).size+sP.size+(#[(112:UInt8),45]).size≤9223372036854775807:=by show 3+sP.size+2≤_;omega
    have a3:(#[(48:UInt8),120,49]).size+sP.size+(#[(112:UInt8),45]).size+sN.size≤9223372036854775807:=by show 3+sP.size+2+sN.size≤_;omega
    clear hsP hsN hfin
    refine QQ.seq ?_
    refine zs1 hneg ?_
    refine QQ.condT rfl ?_
    refine zs3 (ρ:=fun _=>[.v true (.str sN)]) (an wn <| an a1 <| an a2 <| a3) (o:=by repeat' first|exact hN|trivial|constructor) (k:=?_)
    exact QQ.ret (QK.vs rfl (by exact ⟨⟨rfl,id⟩,trivial⟩) rfl)
   ·rw [if_neg hneg,hfin]
    obtain ⟨sP,hsP⟩ : ∃x,x=bs Pf:=⟨_,rfl⟩
    obtain ⟨sN,hsN⟩ : ∃x,x=bs (Qv na):=⟨_,rfl⟩
    rw [←hsP] at zP ⊢
    rw [←hsN] at zN hN ⊢
    have en:(na:Int)=ev:=by omega
    rw [en] at hN
    have a1:(#[(48:UInt8),120,49]).size+sP.size≤9223372036854775807:=by show 3+sP.size≤_;omega
    have a2:(#[(48:UInt8),120,49]).size+sP.size+(#[(112:UInt8),43]).size≤9223372036854775807:=by show 3+sP.size+2≤_;omega
    have a3:(#[(48:UInt8),120,49]).size+sP.size+(#[(112:UInt8),43]).size+sN.size≤9223372036854775807:=by show 3+sP.size+2+sN.size≤_;omega
    clear hsP hsN hfin
    refine QQ.seq ?_
    refine zs1 hneg ?_
    refine QQ.condF rfl (QQ.skip ?_)
    show QQ _ _ _ _ _ _ _
    refine zs3 (ρ:=fun _=>[.v true (.str sN)]) (an a1 <| an a2 <| a3) (o:=by repeat' first|exact hN|trivial|constructor) (k:=?_)
    exact QQ.ret (QK.vs rfl (by exact ⟨⟨rfl,id⟩,trivial⟩) rfl)
theorem rHex_gen (kd:Int) (neg:Bool) (e:Int) (l:List Int) (t:List UInt8) (ht:t.length<10000000) (h:QU Tryz.prog 79 [.v (Q9 kd neg e l)] [.v true (.str (bs t))]) :
 QU Tryz.prog 22 [.v (Q9 kd neg e l)] [.v true (.str (bs (smL neg t)))]:=by
 have hS:=Uj neg t ht
 obtain ⟨s,hs⟩ : ∃s,s=bs t:=⟨_,rfl⟩
 obtain ⟨s2,hs2⟩ : ∃s,s=bs (smL neg t):=⟨_,rfl⟩
 rw [←hs,←hs2] at hS
 rw [←hs] at h
 rw [←hs2]
 unfold Q9 QZ at h ⊢
 obtain ⟨M,hM⟩ : ∃M,M=l.map fun n=>V.int .u64 n:=⟨_,rfl⟩
 rw [←hM] at h ⊢
 clear hM hs hs2
 refine QU.of Tryz.func22 rfl rfl fun cx w0=>?_
 rw [show Tryz.f22.ntmps=8 from rfl]
 refine zs0 ?_
 refine zd2 [] (ρ:=fun d=>if d=6 then [.v true (.str s)] else [.v true (.str s2)]) (o:=by repeat' first|exact h|exact hS|trivial|constructor) (k:=?_)
 exact QQ.ret (QK.vs rfl (by exact ⟨⟨rfl,id⟩,trivial⟩) rfl)
theorem BG (k P kd e:Int) (neg:Bool) (l:List Int) (hl:l.length<5000) (ol:okW l) (he : -9223372036854775808≤e∧e<9223372036854775808) :
 QU Tryz.prog 49 [.v (Q3 k P),.v (.int .i64 0),.v (.bool false),.v (Q9 kd neg e l)] [.v true (nuV k P true kd neg e l),.v true (.int .i64 (nuE k P true kd neg e l))]:=by
 have hN:=qD k P 0 false kd neg e l hl ol he
 have hb:(decide ((0:Int)≤0∧(0:Int)≤4) && !false)=true:=by decide
 rw [hb] at hN
 exact hN
theorem trR_pos {l:List UInt8} (h0:0<l.length) (h1:l[0]≠48):1≤(trR l).length:=by
 have key : ∀n,n+1≤l.length→1≤(trR (l.take (n+1))).length:=fun n=>by
  induction n with
  | zero =>
    intro h
    rw [CV (by omega),if_neg h1,List.length_take]
    omega
  | succ n ih =>
    intro h
    rw [CV (by omega)]
    split
    ·exact ih (by omega)
    ·rw [List.length_take];omega
 have:=key (l.length-1) (by omega)
 rw [show l.length-1+1=l.length from by omega,List.take_length] at this
 exact this
theorem layL_len {d:List UInt8} {x:Int} (hd:d.length≤1000) (hx : -6000≤x∧x≤6000):(UV d x).length<100000:=by
 unfold UV
 split
 ·have:=BJ d
  have:=CU x 1 (by omega) (by decide)
  simp only [List.length_append,List.length_cons]
  omega
 ·split
  ·rw [List.length_append,YC];omega
  ·have:=zq d ((d.length:Int)-1-x)
   omega
theorem sh_like {K p m n d kk:Nat} {ex u a:Int} (h:ShH K p m ex u n a) (hd:ShD K m ex u n a d kk):0<kk∧kk<10^81∧(Qv kk).length≤400∧1≤(Qv kk).length:=by
 have hdl:=hd.le h
 have hd1:=hd.h1
 have hs:=hd.some
 have hdg:=EJ (d:=d-1) (V3 ex) h.hA
 rw [show a-((d-1:Nat):Int)=a-d+1 from by omega,Nat.sub_add_cancel hd1] at hdg
 have hp:0<10^(d-1):=Nat.pow_pos (by decide)
 have hlt:ctA (Zq m ex) (Zy ex) (a-d+1)<10^80:=Nat.lt_of_lt_of_le hdg.2.2 (Nat.pow_le_pow_right (by decide) hdl)
 have hk:kk=ctA (Zq m ex) (Zy ex) (a-d+1)∨kk=ctA (Zq m ex) (Zy ex) (a-d+1)+1:=by
  unfold shF shC at hs
  split at hs
  ·left;exact (Option.some.inj hs).symm
  ·split at hs
   ·right;exact (Option.some.inj hs).symm
   ·cases hs
 have h0:0<kk:=by have:=hdg.2.1;omega
 obtain ⟨B,hB⟩ : ∃B,B=400:=⟨_,rfl⟩
 have h2:kk<2^B:=by
  have:=lt80 hlt (B:=B) (by omega)
  omega
 have h3:=UB h2 (by omega)
 refine ⟨h0,?_,by omega,EK kk⟩
 have:(10:Nat)^81=10^80*10:=Nat.pow_succ ..
 omega
theorem tx_all (k P kd e:Int) (neg:Bool) (l:List Int) (hl:l.length<5000) (ol:okW l) (he : -9223372036854775808≤e∧e<9223372036854775808) :
 ∃(s:ByteArray),QU Tryz.prog 14 [.v (Q3 k P),.v (Q9 kd neg e l)] [.v true (.str s),.v true (.int .i64 (nuE k P true kd neg e l))] ∧
  (nuE k P true kd neg e l≠0→s=⟨#[]⟩)∧(nuE k P true kd neg e l=0→QU Tryz.prog 20 [.v (Q3 k P),.v (Q9 kd neg e l)] [.v true (.str s)]):=by
 have hN:=BG k P kd e neg l hl ol he
 unfold nuV at hN
 by_cases hE:nuE k P true kd neg e l=0
 ·obtain ⟨m,ex,hf,h1⟩:=flAny hE
  rw [if_pos hE,hE,hf.cn] at hN
  by_cases hk1:kd=1
  ·subst hk1
   obtain ⟨K,p,u,n,a,hg⟩:=h1 rfl
   obtain ⟨d,kk,hd⟩:=hg.sh.ex
   obtain ⟨k1,k2,k3,k4⟩:=sh_like hg.sh hd
   obtain ⟨f1,f2⟩:=AZ k1
   have hl1:=trR_len (Qv kk)
   have hl2:=trR_pos f1 f2
   have hab:=hg.sh.fl.isA_bd hg.sh.hA
   have hd80:=hd.le hg.sh
   have hd1:=hd.h1
   have hxb : -6000≤a-d+1+((Qv kk).length:Int)-1∧a-d+1+((Qv kk).length:Int)-1≤6000:=by omega
   have hll:=layL_len (d:=trR (Qv kk)) (x:=a-d+1+((Qv kk).length:Int)-1) (by omega) hxb
   have hS:=shortest_ok K p neg m n d kk ex u a hg.sh hd
   rw [←hg.hk,←hg.hp] at hS
   have hT:=zC K p m n d kk neg e l ex u a hg.sh hg.ho hg.tr (hg.raw hE hl ol he) hd
   rw [←hg.hk,←hg.hp] at hT
   refine ⟨bs (smL neg (UV (trR (Qv kk)) (a-d+1+(Qv kk).length-1))),?_,fun h=>absurd hE h,fun _=>?_⟩
   ·rw [hE]
    refine Az k P 1 e 1 ex 0 neg neg _ _ _ hN (fun h=>absurd rfl h) (fun _ h=>by omega) (fun _ h=>by omega) (fun _ _ _=>⟨_,_,hS,by omega,by omega,by omega,rfl⟩)
   ·refine qF k P 1 neg e l _ (by omega) ?_
    have:=rBody_ok k P 1 neg e l (trR (Qv kk)) (a-d+1+(Qv kk).length-1) (by omega) (fun _=>⟨hT,hl2,by omega,by omega,by omega⟩)
    unfold tbL at this
    rw [if_neg (by omega)] at this
    exact this
  ·obtain ⟨h3,h4⟩:=hf.kd3
   refine ⟨bs (smL neg (GB kd)),?_,fun h=>absurd hE h,fun _=>?_⟩
   ·rw [hE]
    refine Az k P kd e kd ex 0 neg neg _ _ _ hN (fun h=>absurd rfl h) (fun _ h=>?_) (fun _ h=>?_) (fun _ h h0=>by omega)
    ·rw [Eu h hf.nan]
     unfold GB
     by_cases h3:kd=3
     ·rw [if_pos h3,if_pos h3]
     ·rw [if_neg h3,if_neg h3,if_pos (by omega)]
    ·rw [h];rfl
   ·refine qF k P kd neg e l _ (by unfold GB;split;decide;split;decide;split <;> decide) ?_
    have:=rBody_ok k P kd neg e l [] 0 hf.kd3 (fun h=>absurd h hk1)
    unfold tbL at this
    rw [if_pos (by omega)] at this
    exact this
 ·rw [if_neg hE] at hN
  refine ⟨bs [],?_,fun _=>rfl,fun h=>absurd h hE⟩
  exact Az k P kd e 0 0 _ neg false _ _ [] hN (fun _=>rfl) (fun h=>absurd h hE) (fun h=>absurd h hE) (fun h=>absurd h hE)
theorem ex_all (k P kd e:Int) (neg:Bool) (l:List Int) (hl:l.length<5000) (ol:okW l) (he : -9223372036854775808≤e∧e<9223372036854775808) :
 ∃(s:ByteArray),QU Tryz.prog 15 [.v (Q3 k P),.v (Q9 kd neg e l)] [.v true (.str s),.v true (.int .i64 (nuE k P true kd neg e l))] ∧
  (nuE k P true kd neg e l≠0→s=⟨#[]⟩)∧(nuE k P true kd neg e l=0→QU Tryz.prog 21 [.v (Q9 kd neg e l)] [.v true (.str s)]):=by
 have hN:=BG k P kd e neg l hl ol he
 unfold nuV at hN
 by_cases hE:nuE k P true kd neg e l=0
 ·obtain ⟨m,ex,hf,h1⟩:=flAny hE
  rw [if_pos hE,hE,hf.cn] at hN
  have hxx:=hf.ex'
  obtain ⟨B,hBB⟩ : ∃B,B=50179:=⟨_,rfl⟩
  obtain ⟨v1,v2⟩:=ex_bd (B:=B) hf.mB hf.ex' (by omega)
  have lm:(QX m).length≤5:=QC hf.mB (by omega)
  have hrx:=rExact_ok kd neg e l m ex hf.kd3 (fun hk=>by
   subst hk
   obtain ⟨K,p,u,n,a,hg⟩:=h1 rfl
   exact ⟨hg.raw hE hl ol he,hg.sh.fl⟩)
  refine ⟨_,?_,fun h=>absurd hE h,fun _=>hrx⟩
  rw [hE]
  have hval : ¬(kd=3∨kd=2)→(if kd=3∨kd=2∨kd=0 then GB kd else exB m ex)=exB m ex:=fun h=>by
   by_cases h0:kd=0
   ·obtain ⟨rfl,rfl⟩:=hf.z (by omega)
    rw [if_pos (by omega),h0]
    rfl
   ·rw [if_neg (by omega)]
  refine q8 k P kd e kd ex 0 neg neg _ _ _ (by omega) hN (fun h=>absurd rfl h) (fun _ h=>?_) (fun _ h h0=>?_) (fun _ h h0=>?_)
  ·rw [Eu h hf.nan,if_pos (by omega)]
   unfold GB
   by_cases h3:kd=3
   ·rw [if_pos h3,if_pos h3]
   ·rw [if_neg h3,if_neg h3,if_pos (by omega)]
  ·rw [hval h]
   unfold exB
   rw [if_pos h0]
   have hS:=V5 m ex.toNat (by omega) (by omega)
   rw [show ((ex.toNat:Nat):Int)=ex from by omega] at hS
   have hD:=KZ (QX (m*2^ex.toNat)) (by have:=QC v1 (n:=800) (by omega);omega) (QY _).1
   rw [(QY _).2.2] at hD
   have hdl:=UB v1 (by omega)
   exact ⟨_,_,hS,hD,Uy neg _ (by omega)⟩
  ·rw [hval h]
   unfold exB
   rw [if_neg (by omega)]
   have o5:okW [(5:Int)]:=by intro n hn;simp at hn;omega
   have hP5:=wPow_ok [5] (-ex).toNat 3 o5 (by simp) (by decide) (by omega) (by omega)
   rw [show val [(5:Int)]=5 from by decide,show (((-ex).toNat:Nat):Int) = -ex from by omega] at hP5
   have hP5:QU Tryz.prog 58 [.v (.sl 1 [.int .u64 5]),.v (.int .i64 (-ex))] [.v true (QZ (QX (5^(-ex).toNat)))]:=hP5
   have l5:(QX (5^(-ex).toNat)).length≤900:=QC (yV _) (by omega)
   have hM:=VV m (5^(-ex).toNat) (by omega) (by omega)
   have hD:=KZ (QX (m*5^(-ex).toNat)) (by have:=QC v2 (n:=800) (by omega);omega) (QY _).1
   rw [(QY _).2.2] at hD
   have hdl:=UB v2 (by omega)
   have hpl:=zq (Qv (m*5^(-ex).toNat)) (-ex)
   exact ⟨_,_,_,_,hP5,hM,hD,qV _ _ (by omega) (by omega),Uy neg _ (by omega)⟩
 ·rw [if_neg hE] at hN
  refine ⟨_,q8 k P kd e 0 0 _ neg false _ _ ⟨#[]⟩ (by decide) hN (fun _=>rfl) (fun h=>absurd h hE) (fun h=>absurd h hE) (fun h=>absurd h hE),fun _=>rfl,fun h=>absurd h hE⟩
theorem hx_all (k P kd e:Int) (neg:Bool) (l:List Int) (hl:l.length<5000) (ol:okW l) (he : -9223372036854775808≤e∧e<9223372036854775808) :
 ∃(s:ByteArray),QU Tryz.prog 16 [.v (Q3 k P),.v (Q9 kd neg e l)] [.v true (.str s),.v true (.int .i64 (nuE k P true kd neg e l))] ∧
  (nuE k P true kd neg e l≠0→s=⟨#[]⟩)∧(nuE k P true kd neg e l=0→QU Tryz.prog 22 [.v (Q9 kd neg e l)] [.v true (.str s)]):=by
 have hN:=BG k P kd e neg l hl ol he
 unfold nuV at hN
 by_cases hE:nuE k P true kd neg e l=0
 ·obtain ⟨m,ex,hf,h1⟩:=flAny hE
  rw [if_pos hE,hE,hf.cn] at hN
  have hxx:=hf.ex'
  have hG:=yk k P kd e kd ex 0 neg neg l m hf.mB (by omega) (fun h h2=>by
   have hk:kd=1:=by have:=hf.kd3;omega
   subst hk
   obtain ⟨K,p,u,n,a,hg⟩:=h1 rfl
   exact hg.sh.fl.m0) hN
  refine ⟨bs (hxR 0 kd neg ex m),?_,fun h=>absurd hE h,fun _=>?_⟩
  ·rw [hE];exact hG
  ·have hrx:=rHexB_ok kd neg e l m ex hf.kd3 (fun hk=>by
    subst hk
    obtain ⟨K,p,u,n,a,hg⟩:=h1 rfl
    exact ⟨hg.raw hE hl ol he,hg.sh.fl⟩)
   have hdl:(hxD m).length≤256:=by
    rw [hxD_eq]
    exact z7 m 256 _ (by have:=X6 hf.mB;omega)
   have hbl:blN m≤256:=X6 hf.mB
   have hlen:(hbL kd m ex).length<10000000:=by
    unfold hbL
    split;decide
    split;decide
    split;decide
    have:=CU (ex+((blN m-1:Nat):Int)) 1 (by omega) (by decide)
    simp only [List.length_append,List.length_cons]
    split
    ·simp only [List.length_nil];omega
    ·simp only [List.length_cons];omega
   have hrg:=rHex_gen kd neg e l _ hlen hrx
   have he2:hxR 0 kd neg ex m=smL neg (hbL kd m ex):=by
    unfold hxR hxS hbL
    rw [if_pos rfl]
    by_cases h:kd=3∨kd=2
    ·rw [if_pos h,Eu h hf.nan]
     by_cases h3:kd=3
     ·rw [if_pos h3,if_pos h3]
     ·rw [if_neg h3,if_neg h3,if_pos (by omega)]
    ·have h3 : ¬kd=3:=fun x=>h (.inl x)
     have h2 : ¬kd=2:=fun x=>h (.inr x)
     rw [if_neg h]
     by_cases h0:kd=0
     ·rw [if_pos h0,if_neg h3,if_neg h2,if_pos h0]
     ·rw [if_neg h0,if_neg h3,if_neg h2,if_neg h0]
   rw [he2]
   exact hrg
 ·rw [if_neg hE] at hN
  have hG:=yk k P kd e 0 0 (nuE k P true kd neg e l) neg false l 0 (by decide) (by decide) (fun h=>absurd rfl h) hN
  have:hxR (nuE k P true kd neg e l) 0 false 0 0=[]:=by unfold hxR;rw [if_neg hE]
  rw [this] at hG
  exact ⟨_,hG,fun _=>rfl,fun h=>absurd h hE⟩
set_option maxHeartbeats 4000000 in
theorem ST_walk (k P kd e:Int) (neg:Bool) (l:List Int) (ol:okW l) (he : -9223372036854775808≤e∧e<9223372036854775808) :
 QU Tryz.prog 3 [.v (Q3 k P),.v (Q9 kd neg e l)] [.v true (.bool true)]:=by
 have hA:=awake_ok
 have hS:=fShort_ok kd neg e (l.map fun n=>.int .u64 n)
 rw [List.length_map] at hS
 by_cases h:l.length≤40
 ·rw [decide_eq_true h] at hS
  have hC:=fCheck1_ok k P kd neg e l (by omega) ol
  have hF:=Fmt_ok k P
  have hTh:=Bd kd neg e l
  obtain ⟨s1,t1,u1,v1⟩:=tx_all k P kd e neg l (by omega) ol he
  obtain ⟨s2,t2,u2,v2⟩:=ex_all k P kd e neg l (by omega) ol he
  obtain ⟨s3,t3,u3,v3⟩:=hx_all k P kd e neg l (by omega) ol he
  obtain ⟨E,hE⟩ : ∃E,E=nuE k P true kd neg e l:=⟨_,rfl⟩
  rw [←hE] at hC t1 u1 v1 t2 u2 v2 t3 u3 v3
  unfold Q9 QZ at t1 t2 t3 v1 v2 v3 hTh hC ⊢
  unfold Q3 at t1 t2 t3 v1 hC hF ⊢
  obtain ⟨M,hM⟩ : ∃L,L=l.map fun n=>V.int .u64 n:=⟨_,rfl⟩
  rw [←hM] at hS t1 t2 t3 v1 v2 v3 hTh hC ⊢
  clear hM hE he ol h
  refine QU.of Tryz.func3 rfl rfl fun cx w0=>?_
  rw [show Tryz.f3.ntmps=103 from rfl]
  refine zs0 ?_
  refine QQ.seq ?_
  refine zs2 (ρ:=fun _=>[.v true (.bool true)]) (o:=by repeat' first|exact hS|trivial|constructor) (k:=?_)
  refine QQ.condF rfl (QQ.skip ?_)
  show QQ _ _ _ _ _ _ _
  refine zs2 (ρ:=fun _=>[.v true (.str s1),.v true (.int .i64 E)]) (o:=by repeat' first|exact t1|trivial|constructor) (k:=?_)
  refine zs2 (ρ:=fun _=>[.v true (.str s2),.v true (.int .i64 E)]) (o:=by repeat' first|exact t2|trivial|constructor) (k:=?_)
  refine zs2 (ρ:=fun _=>[.v true (.str s3),.v true (.int .i64 E)]) (o:=by repeat' first|exact t3|trivial|constructor) (k:=?_)
  refine QQ.from (σ' := {nt:=103,env:=[(5,.v true (.str s1)),(6,.v true (.int .i64 E)),(7,.v true (.str s2)),(8,.v true (.int .i64 E)),(9,.v true (.str s3)),(10,.v true (.int .i64 E)),(2,.ptr 2 0 [] 0),(3,.ptr 3 0 [] 0)],mem:=[(2,.box 23 (.v false (.agg [.int .i64 k,.int .i64 P]))),(3,.box 28 (.v false (.agg [.int .i64 kd,.bool neg,.int .i64 e,.sl 1 M])))]}) (fun a w h=>Rel.keep [5,6,7,8,9,10,2,3] [2,3] h) ?_
  clear hS t1 t2 t3
  refine zd2 [] (ρ:=fun y=>if y=36 then [.v true (.agg [.int .i64 k,.int .i64 P])] else if y=38 then [.v false (.agg [.int .i64 kd,.bool neg,.int .i64 e,.sl 1 M])] else [.v true (.int .i64 E)]) (o:=by repeat' first|exact hF|exact hTh|exact hC|trivial|constructor) (k:=?_)
  refine QQ.seq ?_
  by_cases h0:E=0
  ·have z1:=v1 h0
   have z2:=v2 h0
   have z3:=v3 h0
   clear u1 u2 u3 hC v1 v2 v3
   subst h0
   refine zs0 ?_
   refine QQ.condF rfl (QQ.skip ?_)
   show QQ _ _ _ _ _ _ _
   refine QQ.dstep (Px:=px) (T:=TT) (ρ:=fun y=>if y=80 then [.v true (.agg [.int .i64 k,.int .i64 P])] else if y=82 then [.v false (.agg [.int .i64 kd,.bool neg,.int .i64 e,.sl 1 M])] else if y=83 then [.v true (.str s1)] else if y=89 then [.v false (.agg [.int .i64 kd,.bool neg,.int .i64 e,.sl 1 M])] else if y=90 then [.v true (.str s2)] else if y=96 then [.v false (.agg [.int .i64 kd,.bool neg,.int .i64 e,.sl 1 M])] else if y=97 then [.v true (.str s3)] else [.v true (.bool true)]) [] mixed (by kernel_rfl) TTe (by simp (maxSteps:=100000) (disch:=omega) only [go_sem,V.isAgg,V.flat,↓reduceIte,Nat.reduceAdd,Nat.reduceSub,Nat.reduceLT,Nat.reduceEqDiff,reduceCtorEq,Nat.reduceLeDiff,Nat.reduceBEq,Nat.reduceMul,Int.reduceToNat,eq_self];rfl) (by first|exact ⟨hF,hTh,z1,hTh,z2,hTh,z3,hA⟩|(repeat' first|exact trivial|exact hF|exact hTh|exact z1|exact hTh|exact z2|exact hTh|exact z3|exact hA|constructor)) (by rfl) (by rfl) (by rfl) ?_
   exact QQ.ret (QK.vs rfl (by exact ⟨⟨rfl,id⟩,trivial⟩) rfl)
  ·have u1:=u1 h0
   have u2:=u2 h0
   have u3:=u3 h0
   subst u1
   subst u2
   subst u3
   have ap:(ByteArray.mk #[]++ByteArray.mk #[]:ByteArray)=ByteArray.mk #[]:=rfl
   have sz1:(#[]:Array UInt8).size+(#[]:Array UInt8).size≤9223372036854775807:=by decide
   have sz2:(ByteArray.mk #[]).size+(ByteArray.mk #[]).size≤9223372036854775807:=by decide
   clear v1 v2 v3 hC
   refine zs1 h0 ?_
   refine QQ.condT rfl ?_
   refine QQ.step (Px:=px) (T:=TT) (ρ:=fun _=>[.v true (.bool true)]) TTe (by simp (maxSteps:=100000) (disch:=omega) only [go_sem,V.isAgg,V.flat,↓reduceIte,Nat.reduceAdd,Nat.reduceSub,Nat.reduceLT,Nat.reduceEqDiff,reduceCtorEq,Nat.reduceLeDiff,Nat.reduceBEq,Nat.reduceMul,Int.reduceToNat,eq_self,ap,sz1,sz2];rfl) (by first|exact hA|(repeat' first|exact trivial|exact hA|constructor)) ?_
   exact QQ.ret (QK.vs rfl (by exact ⟨⟨rfl,id⟩,trivial⟩) rfl)
 ·rw [decide_eq_false h] at hS
  unfold Q9 QZ Q3
  obtain ⟨M,hM⟩ : ∃L,L=l.map fun n=>V.int .u64 n:=⟨_,rfl⟩
  rw [←hM] at hS ⊢
  clear hM he ol h
  refine QU.of Tryz.func3 rfl rfl fun cx w0=>?_
  rw [show Tryz.f3.ntmps=103 from rfl]
  refine zs0 ?_
  refine QQ.seq ?_
  refine zs2 (ρ:=fun _=>[.v true (.bool false)]) (o:=by repeat' first|exact hS|trivial|constructor) (k:=?_)
  refine QQ.condT rfl ?_
  refine zs2 (ρ:=fun _=>[.v true (.bool true)]) (o:=by repeat' first|exact hA|trivial|constructor) (k:=?_)
  exact QQ.ret (QK.vs rfl (by exact ⟨⟨rfl,id⟩,trivial⟩) rfl)
end Go.Proofs.YtlpolbeikangpaaGreatDoor.L
namespace Go.Proofs.YtlpolbeikangpaaGreatDoor.L
open Go Go.RowKit Go.ChangeShapes Go.WideShapes Go.ChangeAt
variable {H:Type} {enc:TypeId×Value→H} {P:Program}
theorem openIc {t e:TypeId} {k:IntKind} {W:World} {cs:List Value} {x:DataW H×List MemPlace} {fuel:Nat} (ht:P.underlying t=some (.slice e)) (he:P.underlying e=some (.int k)) (hc:P.cellsOf e=1)
 (hf:DataW.trod enc P W 0 (fun _=>true) true fuel t cs=some x) : ∃(l:List Int),(∀n∈l,(Lit.int k n).wf=true)∧Rep W (fun b=>b<W.heap.size∧True) (.sl 1 (l.map fun n=>.int k n)) cs:=by
 rcases open_ints ht he hc hf with ⟨rfl,_⟩|⟨a,len,cap,zs,rfl,_,hl,hm,hz,_,hcell,hwz⟩
 ·exact ⟨[],(fun n hn=>by cases hn),by rw [Rep];exact .inl ⟨rfl,_,_,rfl⟩⟩
 ·simp only [if_true] at hz
  refine ⟨zs.take len,fun n hn=>hwz n (List.mem_of_mem_take hn),?_⟩
  rw [Rep]
  by_cases hl0:len=0
  ·subst hl0
   exact .inl ⟨by simp,_,_,rfl⟩
  ·obtain ⟨b,off,spot⟩:=a
   have hspot:spot=none:=by simpa [Addr.add] using World.cell?_spot (hcell 0 (by omega))
   subst hspot
   have hb:b<W.heap.size:=by
    have:=hcell 0 (by omega)
    refine Nat.lt_of_not_le fun hle=>?_
    simp [World.cell?,Addr.add,Array.getElem?_eq_none hle] at this
   have hlen:((zs.take len).map fun n=>V.int k n).length=len:=by rw [List.length_map,List.length_take];omega
   refine .inr ⟨b,off,cap,by rw [hlen];exact hl,⟨hb,trivial⟩,by rw [hlen],?_⟩
   refine Qq.row (qJ _) fun j hj=>?_
   rw [List.length_map,List.length_take] at hj
   have h1:=hcell j (by omega)
   rw [add_plain] at h1
   rw [h1,List.getElem?_map,List.getElem?_take_of_lt (by omega),List.getElem?_eq_getElem (by omega),List.getD_eq_getElem?_getD,List.getElem?_eq_getElem (by omega)]
   rfl
theorem openFlt {r:Reach} {b0:Nat} {t e:TypeId} {f0 f1 f2 f3:Field} {k0 k2 k3:IntKind} {W:World} {v:Value} {d:DataW H} {ps:List MemPlace} (ht:P.underlying t=some (.struct #[f0,f1,f2,f3])) (hc:P.cellsOf t=4) (o0:f0.offset=0) (o1:f1.offset=1) (o2:f2.offset=2) (o3:f3.offset=3)
 (c0:P.cellsOf f0.type=1) (c1:P.cellsOf f1.type=1) (c2:P.cellsOf f2.type=1) (c3:P.cellsOf f3.type=1) (u0:P.underlying f0.type=some (.int k0)) (u1:P.underlying f1.type=some .bool) (u2:P.underlying f2.type=some (.int k2)) (u3:P.underlying f3.type=some (.slice e))
 (ue:P.underlying e=some (.int k3)) (ce:P.cellsOf e=1) (hval:Value.okWide P W r b0 t v) (hd:DataW.Trod enc P W 0 (fun _=>true) true t v d ps) :
 ∃(a:Int) (b:Bool) (c:Int) (l:List Int),(Lit.int k0 a).wf=true∧(Lit.int k2 c).wf=true∧(∀n∈l,(Lit.int k3 n).wf=true)∧Q6 W (fun _=>True) (.v (.agg [.int k0 a,.bool b,.int k2 c,.sl 1 (l.map fun n=>.int k3 n)])) v:=by
 obtain ⟨cs,rfl,hsz⟩:=okWide_struct ht hval
 obtain ⟨fuel,hf⟩:=hd
 obtain ⟨xs,n,_,hx,hl,hlen,hg⟩:=DataW.trod_struct ht hf
 rw [Value.cells] at hg
 obtain ⟨cs⟩:=cs
 match cs,hsz.trans hc with
 | [x0,x1,x2,x3],_ =>
   match xs,hlen with
   | [y0,y1,y2,y3],_ =>
     have g0:=hg 0 f0 rfl
     have g1:=hg 1 f1 rfl
     have g2:=hg 2 f2 rfl
     have g3:=hg 3 f3 rfl
     rw [o0,c0,DY (c:=x0) rfl] at g0
     rw [o1,c1,DY (c:=x1) rfl] at g1
     rw [o2,c2,DY (c:=x2) rfl] at g2
     rw [o3,c3,DY (c:=x3) rfl] at g3
     obtain ⟨a,ha,_,wa⟩:=DataW.trod_int u0 (x:=y0) g0
     obtain ⟨b,hb,_⟩:=DataW.trod_bool u1 (x:=y1) g1
     obtain ⟨c,hc2,_,wc⟩:=DataW.trod_int u2 (x:=y2) g2
     obtain ⟨l,wl,hrep⟩:=openIc u3 ue ce g3
     cases ha;cases hb;cases hc2
     refine ⟨a,b,c,l,wa,wc,wl,?_⟩
     rw [Q6]
     refine ⟨[.int k0 a,.bool b,.int k2 c,x3],?_,rfl⟩
     rw [Rep,Qf]
     refine ⟨[.int k0 a],_,rfl,by rw [Rep],?_⟩
     rw [Qf]
     refine ⟨[.bool b],_,rfl,by rw [Rep],?_⟩
     rw [Qf]
     refine ⟨[.int k2 c],_,rfl,by rw [Rep],?_⟩
     rw [Qf]
     exact ⟨[x3],[],rfl,hrep,by rw [Qf]⟩
end Go.Proofs.YtlpolbeikangpaaGreatDoor.L
namespace Go.Proofs.YtlpolbeikangpaaGreatDoor.L
open Go Go.RowKit Go.Proofs Go.ChangeShapes Go.WideShapes Go.ChangeAt
theorem JE {P:Program} {w:World} {n:String} {d:DataW Unit} : ∀ {l:List (String×DataW Unit)} {ps:List MemPlace},DataW.LaidVars P w l ps→(n,d)∈l →
 ∃g t cs fuel p,P.globalNamed n=some g∧(P.globals[g]?).map (·.type)=some t∧w.var? P n=some cs∧DataW.trod (fun _=>()) P w 0 (fun _=>true) false fuel t cs.toList=some (d,p)
 | [],_,_,hm=>by cases hm
 | x::r,ps,h,hm=>by
   obtain ⟨g,t,cs,fuel,p,q,h1,h2,h3,h4,h5,_⟩:=h
   rcases List.mem_cons.1 hm with rfl|hm
   ·exact ⟨g,t,cs,fuel,p,h1,h2,h3,h4⟩
   ·exact JE h5 hm
theorem Eg {w:World} {ok:Nat→Prop} {k:IntKind} : ∀zs:List Int,Qf w ok (zs.map fun n=>V.int k n) (zs.map fun n=>Value.int k n)
 | []=>by rw [List.map_nil,List.map_nil,Qf]
 | z::r=>by
   rw [List.map_cons,List.map_cons,Qf]
   exact ⟨[.int k z],_,rfl,by rw [Rep],Eg r⟩
theorem Bv {P:Program} {w:World} {t e:TypeId} {n:Nat} {k:IntKind} {zs:List Int} {fuel:Nat} {cs:List Value} {p:List MemPlace} (hu:P.underlying t=some (.array n e)) (he:P.underlying e=some (.int k)) (c1:P.cellsOf e=1) (ct:P.cellsOf t=n) (hn:zs.length=n)
 (h:DataW.trod (fun _=>()) P w 0 (fun _=>true) false fuel t cs=some (.agg (zs.map fun z=>.lit (.int k z)),p)):cs=zs.map fun n=>Value.int k n:=by
 obtain ⟨xs,m,_,ex,hl0,hl,hel⟩:=DataW.trod_array hu h
 have e3:(xs.map (·.1))=zs.map fun n=>.lit (.int k n):=(DataW.agg.inj (Prod.mk.inj ex).1).symm
 apply List.ext_getElem
 ·rw [hl0,ct,List.length_map,hn]
 ·intro r h1 h2
  rw [List.length_map] at h2
  have hE:=hel r (by omega)
  rw [c1,Nat.mul_one,List.getElem?_eq_getElem (by omega)] at hE
  obtain ⟨z,e1,e2,_⟩:=DataW.trod_int he hE
  have e4:(xs.map (·.1))[r]?=(zs.map fun n=>(DataW.lit (.int k n):DataW Unit))[r]?:=by rw [e3]
  rw [List.getElem?_map,List.getElem?_map,List.getElem?_eq_getElem (by omega:r<xs.length),List.getElem?_eq_getElem h2,e2] at e4
  have hz:z=zs[r]:=by simpa using e4
  have h0:((cs.drop r).take 1)[0]?=some (.int k z):=by rw [e1];rfl
  have h3:cs[r]?=some (.int k z):=by simpa using h0
  rw [List.getElem?_eq_getElem h1] at h3
  rw [Option.some.inj h3,List.getElem_map,hz]
theorem gl_one {W:World} {nm:String} {g:Nat} {cs:Array Value} {x:V} {ok:Nat→Prop} (hg:Tryz.prog.globalNamed nm=some g) (hv:W.var? Tryz.prog nm=some cs) (hr:Rep W ok x cs.toList) :
 g<W.heap.size ∧ ∃cs,Rep W ok x cs ∧ ∃t f,W.heap[g]?=some (.cells cs.toArray t f):=by
 unfold World.var? at hv
 rw [hg,Option.bind_some] at hv
 split at hv
 ·next cs' t f h =>
  cases hv
  exact ⟨(Array.getElem?_eq_some_iff.1 h).1,cs.toList,hr,t,f,by rw [h]⟩
 ·cases hv
def intOf':V→Int
 | .int _ n=>n
 | _=>0
def intsOf':V→List Int
 | .agg fs=>fs.map intOf'
 | _=>[]
def pow10Z:List Int:=intsOf' BX
def bruijnZ:List Int:=intsOf' Cq
theorem pow10V_eq:BX = .agg (pow10Z.map fun n=>.int .u64 n):=by kernel_rfl
theorem bruijnV_eq:Cq = .agg (bruijnZ.map fun n=>.int .u8 n):=by kernel_rfl
theorem pow10D_eq:Rows.laid_internal_strconv_uint64pow10=(.agg (pow10Z.map fun n=>.lit (.int .u64 n)):DataW Unit):=by kernel_rfl
theorem bruijnD_eq:Rows.laid_math_bits_deBruijn64tab=(.agg (bruijnZ.map fun n=>.lit (.int .u8 n)):DataW Unit):=by kernel_rfl
def LAID:List (String×DataW Unit):=Rows.shortestLargeRow.laid
theorem laid_GL {W:World} (h:laidMetH Tryz.prog LAID W):GL W:=by
 have hF:=h.funcs (n := "reckoner/fin.more") (d:=.agg [.iface "func" (.lit (.string [114,101,99,107,111,110,101,114,47,102,105,110,46,109,111,114,101,36,49])),.iface "func" (.lit (.string [114,101,99,107,111,110,101,114,47,102,105,110,46,109,111,114,101,36,50])),.iface "func" (.lit (.string [114,101,99,107,111,110,101,114,47,102,105,110,46,109,111,114,101,36,51])),.iface "func" (.lit (.string [114,101,99,107,111,110,101,114,47,102,105,110,46,109,111,114,101,36,52])),.iface "func" (.lit (.string [114,101,99,107,111,110,101,114,47,102,105,110,46,109,111,114,101,36,53]))]) (by
  show _∈Rows.shortestLargeRow.laid
  simp only [Rows.shortestLargeRow,Rows.laid_reckoner_fin_more,List.mem_cons,true_or,or_true])
 have hP:laidMet Tryz.prog (LAID.filter fun x=>x.2.handleName?.isNone) W:=by
  unfold laidMetH at h
  have e:(LAID.filter fun x=>x.2.handleName?.isSome)=[("reckoner/fin.more",Rows.laid_reckoner_fin_more)]:=by rfl
  rw [e] at h
  exact h.1
 obtain ⟨ps,hL,_,_⟩:=hP
 have hm1:("internal/strconv.uint64pow10",(Rows.laid_internal_strconv_uint64pow10:DataW Unit))∈LAID.filter fun x=>x.2.handleName?.isNone:=by
  rw [List.mem_filter]
  exact ⟨by show _∈Rows.shortestLargeRow.laid;simp only [Rows.shortestLargeRow,List.mem_cons,true_or,or_true],rfl⟩
 have hm2:("math/bits.deBruijn64tab",(Rows.laid_math_bits_deBruijn64tab:DataW Unit))∈LAID.filter fun x=>x.2.handleName?.isNone:=by
  rw [List.mem_filter]
  exact ⟨by show _∈Rows.shortestLargeRow.laid;simp only [Rows.shortestLargeRow,List.mem_cons,true_or,or_true],rfl⟩
 intro q hq
 simp only [GLOB,List.mem_cons,List.not_mem_nil,or_false] at hq
 rcases hq with rfl|rfl|rfl
 ·obtain ⟨g,t,cs,fuel,p,hg,ht,hv,hd⟩:=hF
  obtain rfl:=Option.some.inj ((show Tryz.prog.globalNamed "reckoner/fin.more" = some 0 by kernel_rfl).symm.trans hg)
  obtain rfl:=Option.some.inj ((show (Tryz.prog.globals[0]?).map (·.type)=some 244 by kernel_rfl).symm.trans ht)
  obtain ⟨xs,m,_,ex,hl0,hl,hel⟩:=DataW.trod_array Tryz.underlying244 hd
  have c1:Tryz.prog.cellsOf 243=1:=by kernel_rfl
  have ct:Tryz.prog.cellsOf 244=5:=by kernel_rfl
  have e3:=(DataW.agg.inj (Prod.mk.inj ex).1).symm
  have one : ∀(i:Nat) (f:FuncId) (s:UInt8),i<5→(xs.map (·.1))[i]?=some (.held [114,101,99,107,111,110,101,114,47,102,105,110,46,109,111,114,101,36,s]) →
   ((List.range Tryz.prog.funcs.size).filter fun f=>(Tryz.prog.funcs[f]?).any (·.name.toUTF8.data.toList == [114,101,99,107,111,110,101,114,47,102,105,110,46,109,111,114,101,36,s]))=[f]→cs.toList[i]?=some (.func (.func f) #[] #[]):=by
   intro i f s hi hx hone
   have hE:=hel i hi
   rw [c1,Nat.mul_one] at hE
   rw [List.getElem?_map] at hx
   cases hxi:xs[i]? with
   | none=>rw [hxi] at hx;cases hx
   | some y =>
     rw [hxi] at hx hE
     obtain ⟨y1,y2⟩:=y
     simp only [Option.map_some,Option.some.injEq] at hx
     subst hx
     have hlt:i<cs.toList.length:=by rw [hl0,ct];exact hi
     have h1:((cs.toList.drop i).take 1)=[cs.toList[i]]:=by rw [List.drop_eq_getElem_cons hlt];rfl
     rw [h1] at hE
     have:=func_of_trod (f0:=f) Tryz.underlying243 hone hE
     rw [List.getElem?_eq_getElem hlt,this]
  have k0:=one 0 311 49 (by decide) (by rw [e3];rfl) (by kernel_rfl)
  have k1:=one 1 312 50 (by decide) (by rw [e3];rfl) (by kernel_rfl)
  have k2:=one 2 313 51 (by decide) (by rw [e3];rfl) (by kernel_rfl)
  have k3:=one 3 314 52 (by decide) (by rw [e3];rfl) (by kernel_rfl)
  have k4:=one 4 315 53 (by decide) (by rw [e3];rfl) (by kernel_rfl)
  rw [ct] at hl0
  have hc:cs.toList=[.func (.func 311) #[] #[],.func (.func 312) #[] #[],.func (.func 313) #[] #[],.func (.func 314) #[] #[],.func (.func 315) #[] #[]]:=by
   match hcs:cs.toList,hl0 with
   | [a,b,c,d,e],_ =>
     rw [hcs] at k0 k1 k2 k3 k4
     simp only [List.getElem?_cons_zero,List.getElem?_cons_succ,Option.some.injEq] at k0 k1 k2 k3 k4
     rw [k0,k1,k2,k3,k4]
  refine gl_one hg hv ?_
  rw [hc]
  unfold moreV
  rw [Rep,Qf];refine ⟨[_],_,rfl,by rw [Rep],?_⟩
  rw [Qf];refine ⟨[_],_,rfl,by rw [Rep],?_⟩
  rw [Qf];refine ⟨[_],_,rfl,by rw [Rep],?_⟩
  rw [Qf];refine ⟨[_],_,rfl,by rw [Rep],?_⟩
  rw [Qf];refine ⟨[_],_,rfl,by rw [Rep],?_⟩
  rw [Qf]
 ·obtain ⟨g,t,cs,fuel,p,hg,ht,hv,hd⟩:=JE hL hm2
  obtain rfl:=Option.some.inj ((show Tryz.prog.globalNamed "math/bits.deBruijn64tab" = some 3 by kernel_rfl).symm.trans hg)
  obtain rfl:=Option.some.inj ((show (Tryz.prog.globals[3]?).map (·.type)=some 280 by kernel_rfl).symm.trans ht)
  rw [bruijnD_eq] at hd
  have hc:=Bv Tryz.underlying280 Tryz.underlying5 (by kernel_rfl) (by kernel_rfl) (by kernel_rfl) hd
  refine gl_one hg hv ?_
  rw [bruijnV_eq,hc,Rep]
  exact Eg _
 ·obtain ⟨g,t,cs,fuel,p,hg,ht,hv,hd⟩:=JE hL hm1
  obtain rfl:=Option.some.inj ((show Tryz.prog.globalNamed "internal/strconv.uint64pow10" = some 7 by kernel_rfl).symm.trans hg)
  obtain rfl:=Option.some.inj ((show (Tryz.prog.globals[7]?).map (·.type)=some 296 by kernel_rfl).symm.trans ht)
  rw [pow10D_eq] at hd
  have hc:=Bv Tryz.underlying296 Tryz.underlying91 (by kernel_rfl) (by kernel_rfl) (by kernel_rfl) hd
  refine gl_one hg hv ?_
  rw [pow10V_eq,hc,Rep]
  exact Eg _
def PLAIN:List (String×DataW Unit):=LAID.filter fun x=>x.2.handleName?.isNone
noncomputable def CQ (os:Os):World :=
 {World.holding Tryz.prog os ⟨#[],#[],[]⟩ with heap:=⟨Lay.setRows (World.holding Tryz.prog os ⟨#[],#[],[]⟩).heap.toList [(0,[.func (.func 311) #[] #[],.func (.func 312) #[] #[],.func (.func 313) #[] #[],.func (.func 314) #[] #[],.func (.func 315) #[] #[]])]⟩}
noncomputable def wit (os:Os):World:=(CQ os).layVars Tryz.prog PLAIN
theorem wit_os (os:Os):(wit os).os=os:=(World.layVars_os _ _ _).trans rfl
theorem wit_plain (os:Os) (args:Array Value):laidMet Tryz.prog PLAIN ((wit os).forCall (fun _ _=>0) ⟨#[],args,[]⟩).memory:=by
 have e1:(PLAIN.filter fun x=>(PLAIN.map (·.1)).contains x.1)=PLAIN:=List.filter_eq_self.2 fun x hx=>List.contains_iff_mem.2 (List.mem_map.2 ⟨x,hx,rfl⟩)
 have e2:(PLAIN.filter fun x => !(PLAIN.map (·.1)).contains x.1)=[]:=List.filter_eq_nil_iff.2 fun x hx=>by rw [List.contains_iff_mem.2 (List.mem_map.2 ⟨x,hx,rfl⟩)];simp
 have hf:(CQ os).layFits Tryz.prog PLAIN []=true:=by kernel_rfl
 have hi:(CQ os).layIfaces Tryz.prog PLAIN (wit os)=true:=by kernel_rfl
 have h:laidMet Tryz.prog PLAIN (wit os):=laidMet_layVars (w0:=CQ os) (PLAIN.map (·.1)) [] (by rw [e1];rfl) (by rw [e1];exact hf) (by rw [e1];exact hi) (by rw [e2];exact LaidIn.none)
 exact h.of_heap (by simp [World.memory,World.forCall,Input.heap])
theorem wit_met (os:Os) (args:Array Value):laidMetH Tryz.prog LAID ((wit os).forCall (fun _ _=>0) ⟨#[],args,[]⟩).memory :=
 laidMetH_of_parts3 (fuel:=8) (wit_plain os args) (by kernel_rfl) (by kernel_rfl)
end Go.Proofs.YtlpolbeikangpaaGreatDoor.L
