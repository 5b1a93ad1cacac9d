/- Texts of this claim, merged by a program of this session. -/
import Derived.Test.YtamikhmpfmgofaaKLawFnExactTreePutp25
import Derived.ProofKit
import Derived.OpenShut
import Derived.ShutString
import Derived.ChangeOld
import Derived.SizedLaws
import Derived.Deep.Slices
import Derived.Lib.SmallJoins
section
namespace Go.Proofs.Ytamikhmpfmgofaa.Q
open Go.RowKit Go.Proofs.YtamikhmpfmgofaaW.PrintWords Go.Proofs.YtamikhmpfmgofaaW.PrintLast Go.Proofs.YtamikhmpfmgofaaW.PrintMore
attribute [local go_sem] max2_int min2_int max_two min_two max_three min_three max_four min_four max2_str min2_str str_geq str_gtr str_leq
set_option linter.unusedVariables false
set_option linter.unusedSimpArgs false
set_option maxHeartbeats 4000000 in
set_option maxRecDepth 100000 in
theorem slices_Insert_pages.ins2 (ok okp : Nat→Prop) (base : Nat) (v : Value) (xs : List (List Value)) (p : (List Value)) (cs : List Value) (gl i : Nat) (w0 W : World) (hi : i≤xs.length)
  (HO : Kd.R (Kd.raw 2) 67 W base ok v xs) (hvb : W.heap[gl]? = some (.cells cs.toArray 67 (0,0))) (hgl : some gl≠v.ownBlock) (hp : Kd.M (Kd.raw 2) W base okp p cs) (hKM : ∀ x c,Kd.K (Kd.raw 2) W x c→Kd.M (Kd.raw 2) W base okp x c) (hokp : ∀ q,okp q→ok q∧some q≠v.ownBlock) (hfresh : ∀ q,W.heap.size≤q→ok q) (HB : Below base w0 W) (hbase : base≤W.heap.size) (hl : (xs.length+1)*32≤140737488355328) :
  Calls Try.prog 66 #[v,.int .i64 i,.slice (some ⟨gl,0,none⟩) 1 1] W fun ex w' => ∃ v1,ex = .returned v1∧Kd.R (Kd.raw 2) 67 w' base ok v1 (xs.take i ++ [p]++xs.drop i)∧Below base w0 w' ∧ W.grownBy w' v.ownBlock∧(v1.ownBlock=v.ownBlock ∨ ∃ b,v1.ownBlock=some b∧W.heap.size≤b):=by
 have hcl : cs.length=2:=Kd.K_len (Kd.raw 2) (Kd.K_of_M (Kd.raw 2) hp);have h1c : ∀ u ∈ cs,u.oneCell' = true:=Kd.K_one (Kd.raw 2) (Kd.K_of_M (Kd.raw 2) hp)
 have hCone : Kd.C (Kd.raw 2) W (some ⟨gl,0,none⟩) 1 [p] :=
  ⟨rfl,jD,fun _=>⟨_,rfl,fun j q hj=>by
   cases j with
   | succ j=>simp at hj
   | zero =>
    obtain rfl : p=q:=by simpa using hj
    refine ⟨cs,hcl,Kd.K_of_M (Kd.raw 2) hp,fun i u hi=>?_⟩;rw [add_plain,zz hvb]
    simpa using hi⟩⟩
 by_cases hin : i=xs.length
 ·
  subst hin
  have e0 : xs.take xs.length ++ [p]++xs.drop xs.length=xs ++ [p]:=by simp
  rw [e0];obtain ⟨A,c,rfl⟩:=yk HO;have hlx : ¬ ((1 : Int)=0):=by decide
  by_cases hcn : c=xs.length
  ·
   subst hcn
   go_enter Try.func66,Try.ntmps66
   go_wp2_with (at_builtin;refine Kd.R_append_rows (Kd.raw 2) base (by rfl) (.tmp 23) (.tmp 24) 33 67 (.agg #[(.int .i64 0),(.slice none 0 0)]) 32 rfl Try.underlying33 info67 rfl jB jB (.slice A xs.length xs.length) xs [p] (some ⟨gl,0,none⟩) 1 1 ok okp rfl rfl HO hCone hKM hokp hfresh HB hbase hl ?_;intro v1 w1 hR hb hg hat)
   go_ret
   exact ⟨v1,rfl,hR,hb,hg,hat⟩
  have hcn2 : ¬ xs.length=c:=fun h=>hcn h.symm
  go_enter Try.func66,Try.ntmps66
  go_wp2_with (at_builtin;refine Kd.R_append_rows (Kd.raw 2) base (by rfl) (.tmp 23) (.tmp 24) 33 67 (.agg #[(.int .i64 0),(.slice none 0 0)]) 32 rfl Try.underlying33 info67 rfl jB jB (.slice A xs.length c) xs [p] (some ⟨gl,0,none⟩) 1 1 ok okp rfl rfl HO hCone hKM hokp hfresh HB hbase hl ?_;intro v1 w1 hR hb hg hat)
  go_ret
  exact ⟨v1,rfl,hR,hb,hg,hat⟩
 have hlt : i<xs.length:=by omega
 obtain ⟨hok,inner,hown,hreps⟩:=HO;obtain ⟨hil,⟨rfl,h0⟩|⟨g,cap,cur,rfl,hbg,hh,hnc,hcm,hcs,ht⟩⟩:=hown
 ·
  rw [h0] at hlt;exact absurd hlt (Nat.not_lt_zero _)
 have hsz0 : (Kd.raw 2).sz=2:=rfl;rw [hsz0] at hil hcs ht hreps;have hglt : g<W.heap.size:=yi hh;have hh1 : W.heap[g]? = some (.cells cur 67 (0,0)):=hh;have hgo : (Value.slice (some ⟨g,0,none⟩) xs.length cap).ownBlock=some g:=by simp [Value.ownBlock]
 have hcm' : cap≤9223372036854775807:=hcm;have hnb : xs.length≤140737488355328:=by omega
 have hcells : ∀ j u,inner[j]? = some u→W.cell? ⟨g,j,none⟩=some u:=fun j u hj=>by
  rw [zz hh];rw [← ht,List.getElem?_take] at hj
  split at hj
  ·
   rw [← Array.getElem?_toList];exact hj
  cases hj
 have h1i : ∀ u ∈ inner,u.oneCell' = true:=by
  obtain ⟨A',c',he,_,hC⟩:=Kd.R_reads (d:=(Kd.raw 2)) (e:=67) (w:=W) (base:=base) (ok:=ok) (xs:=xs) (v:=.slice (some ⟨g,0,none⟩) xs.length cap) ⟨hok,inner,⟨hil,.inr ⟨g,cap,cur,rfl,hbg,hh,hnc,hcm,hcs,ht⟩⟩,hreps⟩;intro u hu;obtain ⟨q,hq,rfl⟩:=List.getElem_of_mem hu;have hq2 : q / 2<xs.length:=by rw [hil] at hq;omega
  have h3:=hreps.2 (q / 2) _ (List.getElem?_eq_getElem hq2);refine Kd.K_one (Kd.raw 2) (Kd.K_of_M (Kd.raw 2) h3) _ ?_;have e3 : q=q / 2*2+q % 2:=by omega
  rw [List.mem_take_iff_getElem];refine ⟨q % 2,jBu,?_⟩;rw [List.getElem_drop]
  congr 1
  omega
 have hRE : ∀ w1 v1,w1.ownsRow base 67 2 v1 (xs.take i ++ [p]++xs.drop i).length (inner.take (i*2)++cs++inner.drop (i*2))→W.grownBy w1 (some g)→(v1.ownBlock=some g ∨ ∃ b,v1.ownBlock=some b∧W.heap.size≤b)→Kd.R (Kd.raw 2) 67 w1 base ok v1 (xs.take i ++ [p]++xs.drop i):=by
  intro w1 v1 ho hg hat;refine Go.Proofs.Ytamikhmpfmgofaa.Row.R_again (v:=.slice (some ⟨g,0,none⟩) xs.length cap) hok ?_ hfresh ho (by rw [hgo];exact hg) jBv;exact Kd.reps_append (Kd.reps_append (Kd.reps_take hreps (Nat.le_of_lt hlt)) (Go.Proofs.Ytamikhmpfmgofaa.Row.reps_one (Kd.M_mono (Kd.raw 2) (fun q hq=>hokp q hq) hp) hcl)) (Go.Proofs.Ytamikhmpfmgofaa.Row.reps_drop hreps)
 have hlen : (xs.take i ++ [p]++xs.drop i).length=xs.length+1:=by simp;omega
 have hlen2 : (inner.take (i*2)++cs++inner.drop (i*2)).length=(xs.length+1)*2:=by simp [hcl,hil];omega
 have hdl : (inner.drop (i*2)).length=(xs.length - i)*2:=by rw [zw,hil,Nat.sub_mul]
 have htl : (inner.take (i*2)).length=i*2:=by rw [zx,hil];omega
 have hsz : (Try.prog.info? 67).map (·.size)=some 2:=by have:=info67;cases hq : Try.prog.info? 67 with
  | none=>rw [hq] at this;cases this
  | some i0=>rw [hq] at this;simp at this;simp [this.2.1]
 have hw1 : IntKind.i64.wrap ((xs.length : Int)+1)=(xs.length : Int)+1:=by rw [IntKind.wrap_i64];omega
 have hw2 : IntKind.i64.wrap ((i : Int)+1)=(i : Int)+1:=by rw [IntKind.wrap_i64];omega
 have hw3 : IntKind.i64.wrap ((i : Int)+(1 : Int))=(i : Int)+1:=by rw [IntKind.wrap_i64];omega
 have hw4 : IntKind.i64.wrap ((xs.length : Int)+1 - (i : Int))=(xs.length : Int)+1 - (i : Int):=by rw [IntKind.wrap_i64];omega
 have hq1 : ¬ ((i : Int)=(xs.length : Int)):=by omega
 have hq1b : ((i : Int) == (xs.length : Int))=false:=zY.mpr hq1;have hrow1 : ∀ (C : List Value) (q : Nat) (x : List Value),q+x.length≤C.length→(C.take q++x++C.drop (q+x.length)).length=C.length:=fun C q x h=>by simp;omega
 have hu:=Try.underlying33
 have hfc : ∀ j u,cs[j]? = some u→W.cell? ⟨gl,j,none⟩=some u:=fun j u hj=>by
  rw [zz hvb];simpa using hj
 have hgv : gl≠g:=fun e=>hgl (by rw [hgo,e]);have mixed : Try.prog.follows Departure.mixedOrders=true:=by rfl
 by_cases hroom : cap<xs.length+1
 ·
  have hz3 : (cap : Int)<(xs.length : Int)+1:=by omega
  have hz3b : decide ((cap : Int)<(xs.length : Int)+1)=true:=decide_eq_true hz3
  obtain ⟨i0,hi0,hzz,hzs,hzb⟩ : ∃ i0,Try.prog.info? 67=some i0∧i0.zero=some (.agg #[(.int .i64 0),(.slice none 0 0)])∧i0.size=2∧i0.bytes=32:=by
   have:=info67
   cases hq : Try.prog.info? 67 with
   | none=>rw [hq] at this;cases this
   | some i0=>rw [hq] at this;simp at this;exact ⟨i0,rfl,this.1,this.2.1,this.2.2⟩
  obtain ⟨V,hV⟩ : ∃ V,V=W:=⟨_,rfl⟩;have hvb0:=hvb;rw [← hV] at hvb hh1 hfc ⊢;have hVs : V.heap.size=W.heap.size:=by rw [hV]
  have hcellsV : ∀ j u,inner[j]? = some u→V.cell? ⟨g,j,none⟩=some u:=fun j u hj=>by
   have:=hcells j u hj;rw [zz hh] at this;rw [zz hh1];exact this
  have hold : (Builtin.firstCells i0.size i (.slice (some ⟨g,0,none⟩) i cap)).run Try.prog V.drew = .ok (inner.take (i*2)).toArray V.drew:=by
   rw [hzs]
   exact run_firstCells_some V.drew 2 i ⟨g,0,none⟩ i cap (inner.take (i*2)) (by rw [htl]) (fun j v hj=>by
    rw [add_plain];rw [List.getElem?_take] at hj
    split at hj
    ·
     exact hcellsV j v hj
    cases hj)
  have hik : i+(xs.length+1 - i)=xs.length+1:=by omega
  have hrz : ∀ ty,(Builtin.append_ #[33,3] ty #[.slice (some ⟨g,0,none⟩) i cap,.int .i64 ((xs.length : Int)+1 - (i : Int))]).run Try.prog V =
    .ok (.slice (some ⟨V.heap.size,0,none⟩) (xs.length+1) (grownCap V (xs.length+1) cap 67)) (V.drew.alloc (.cells ((inner.take (i*2)).toArray++Builtin.zeroCells ((.agg #[(.int .i64 0),(.slice none 0 0)]) : Value).cells (xs.length+1 - i)++Builtin.zeroCells ((.agg #[(.int .i64 0),(.slice none 0 0)]) : Value).cells (grownCap V (xs.length+1) cap 67 - (xs.length+1))) 67)):=fun ty=>by
   have h:=Lib.run_append_grow_zeros V 33 3 ty 67 i0 _ .i64 .i64 hu Try.underlying3 hi0 hzz (some ⟨g,0,none⟩) i cap (inner.take (i*2)) hold (xs.length+1 - i) jD (by rw [hzs];decide) jD jD (by rw [hzb];omega) (by rw [hzb,hik];exact growslice_fits hroom hl);rw [hik,show ((xs.length+1 - i : Nat) : Int)=(xs.length : Int)+1 - (i : Int) by omega] at h;exact h
  obtain ⟨G,hG⟩ : ∃ G,G=grownCap V (xs.length+1) cap 67:=⟨_,rfl⟩;have hGn : xs.length+1≤G:=by rw [hG];exact grownCap_ge _ _ _ _
  have hGm : G≤maxLen:=by rw [hG];exact grownCap_le_maxLen _ _ _ _ (by unfold maxLen;omega)
  obtain ⟨ROW,hROW⟩ : ∃ ROW : Array Value,ROW=(inner.take (i*2)).toArray++Builtin.zeroCells ((.agg #[(.int .i64 0),(.slice none 0 0)]) : Value).cells (xs.length+1 - i)++Builtin.zeroCells ((.agg #[(.int .i64 0),(.slice none 0 0)]) : Value).cells (G - (xs.length+1)):=⟨_,rfl⟩;rw [← hG,← hROW] at hrz
  have hRs : ROW.size=G*2:=by
   rw [hROW];have hz9 : ((.agg #[(.int .i64 0),(.slice none 0 0)]) : Value).cells.size=2:=by rfl
   simp only [Array.size_append,List.size_toArray,htl,Builtin.zeroCells,Array.size_map,Array.size_range,hz9]
   omega
  have hRl : ROW.toList.length=G*2:=(Array.length_toList (xs:=ROW)).trans hRs
  have hRt : ROW.toList.take (i*2)=inner.take (i*2):=by
   rw [hROW];simp only [Array.toList_append,List.append_assoc];rw [List.take_append_of_le_length jAo,List.take_of_length_le jAo]
  clear hROW;obtain ⟨W1,hW1⟩ : ∃ W1,W1=V.drew.alloc (.cells ROW 67):=⟨_,rfl⟩;rw [← hW1] at hrz;have hN1 : W1.heap[V.heap.size]? = some (.cells ROW 67 (0,0)):=by rw [hW1];exact blk_new V.drew _
  have hvb1 : W1.heap[gl]? = some (.cells cs.toArray 67 (0,0)):=by rw [hW1];exact zg (zf hvb) _
  have hg1 : W1.heap[g]? = some (.cells cur 67 (0,0)):=by rw [hW1];exact zg (zf hh1) _
  have hB1 : Below W.heap.size W W1:=by rw [hW1,hV];exact za (below_drew (Below.refl _ _)) _
  obtain ⟨R1,hR1⟩ : ∃ R1 : List Value,R1=ROW.toList.take (i*2)++cs++ROW.toList.drop (i*2+cs.length):=⟨_,rfl⟩;have hR1l : R1.length=G*2:=by rw [hR1,hrow1 _ _ _ (by rw [hRl,hcl];omega),hRl]
  have hcp1 : ∀ ty dc,(Builtin.copy_ #[33,33] ty #[.slice (some ⟨V.heap.size,i*2,none⟩) (xs.length+1 - i) dc,.slice (some ⟨gl,0,none⟩) 1 1]).run Try.prog W1 = .ok (goInt (Nat.min 1 (xs.length+1 - i))) (W1.setRow V.heap.size R1.toArray):=fun ty dc=>by
   rw [hR1];exact Go.Proofs.Ytamikhmpfmgofaa.Row.run_copy_rowk W1 _ _ ty 67 2 V.heap.size (i*2) (xs.length+1 - i) dc ⟨gl,0,none⟩ 1 1 ROW 67 cs hu hsz hN1 (by rw [hcl];have : Nat.min 1 (xs.length+1 - i)=1:=Nat.min_eq_left jD;rw [this]) (fun j v hj=>by rw [add_plain,zz hvb1];simpa using hj) (by rw [hRs,hcl];omega) h1c
  obtain ⟨W2,hW2⟩ : ∃ W2,W2=W1.setRow V.heap.size R1.toArray:=⟨_,rfl⟩;rw [← hW2] at hcp1;have hN2 : W2.heap[V.heap.size]? = some (.cells R1.toArray 67 (0,0)):=by rw [hW2];exact setRow_heap W1 _ _ _ _ _ hN1
  have hoth2 : ∀ k,k≠V.heap.size→W2.heap[k]? = W1.heap[k]?:=fun k hk=>by rw [hW2];exact setRow_other _ _ _ _ hk
  have hg2 : W2.heap[g]? = some (.cells cur 67 (0,0)):=(hoth2 g jD).trans hg1;obtain ⟨R2,hR2⟩ : ∃ R2 : List Value,R2=R1.take ((i+1)*2)++inner.drop (i*2)++R1.drop ((i+1)*2+(inner.drop (i*2)).length):=⟨_,rfl⟩;have hR2l : R2.length=G*2:=by rw [hR2,hrow1 _ _ _ (by rw [hR1l,hdl];omega),hR1l]
  have hR2t : R2.take ((xs.length+1)*2)=inner.take (i*2)++cs++inner.drop (i*2):=by
   have e1 : R1.take ((i+1)*2)=inner.take (i*2)++cs:=by
    rw [hR1,hRt,List.take_append_of_le_length jAp,List.take_of_length_le jAp]
   rw [hR2,e1,List.take_append_of_le_length jAD,List.take_of_length_le jAD]
  have hcp2 : ∀ ty dc sc,(Builtin.copy_ #[33,33] ty #[.slice (some ⟨V.heap.size,(i+1)*2,none⟩) (xs.length+1 - (i+1)) dc,.slice (some ⟨g,i*2,none⟩) (xs.length - i) sc]).run Try.prog W2.drew = .ok (goInt (Nat.min (xs.length - i) (xs.length+1 - (i+1)))) (W2.drew.setRow V.heap.size R2.toArray):=fun ty dc sc=>by
   rw [hR2]
   have:=Go.Proofs.Ytamikhmpfmgofaa.Row.run_copy_rowk W2.drew 33 33 ty 67 2 V.heap.size ((i+1)*2) (xs.length+1 - (i+1)) dc ⟨g,i*2,none⟩ (xs.length - i) sc R1.toArray 67 (inner.drop (i*2)) hu hsz (zf hN2) (by rw [hdl];have : Nat.min (xs.length - i) (xs.length+1 - (i+1))=xs.length - i:=Nat.min_eq_left jD;rw [this]) (fun j v hj=>by
    rw [add_at,zz (zf hg2)];rw [List.getElem?_drop,← ht,List.getElem?_take] at hj
    split at hj
    ·
     rw [← Array.getElem?_toList];exact hj
    cases hj) jBw (fun u hu=>h1i u (List.mem_of_mem_drop hu))
   simpa using this
  obtain ⟨W3,hW3⟩ : ∃ W3,W3=W2.drew.setRow V.heap.size R2.toArray:=⟨_,rfl⟩;rw [← hW3] at hcp2;have hN3 : W3.heap[V.heap.size]? = some (.cells R2.toArray 67 (0,0)):=by rw [hW3];exact setRow_heap W2.drew _ _ _ _ _ (zf hN2)
  have hB3 : Below W.heap.size W W3:=by
   refine ⟨by rw [hW3,hW2];exact hB1.os,by rw [hW3,hW2];exact hB1.tape,by rw [hW3,hW2];exact hB1.output,by rw [hW3,hW2];simpa using hB1.size,fun k hk=>?_⟩;rw [hW3,setRow_other _ _ _ _ jD];show W2.heap[k]? = _;rw [hoth2 k jD];exact hB1.block k hk
  have hfin : ∃ v1,(Value.slice (some ⟨V.heap.size,0,none⟩) (xs.length+1) G)=v1∧Kd.R (Kd.raw 2) 67 W3 base ok v1 (xs.take i ++ [p]++xs.drop i)∧Below base w0 W3∧W.grownBy W3 (some g)∧(v1.ownBlock=some g ∨ ∃ b,v1.ownBlock=some b∧W.heap.size≤b):=by
   refine ⟨_,rfl,hRE W3 _ ?_ (grown_of_below hB3 _) ?_,below_then HB hbase hB3,grown_of_below hB3 _,?_⟩
   ·
    refine ⟨by rw [hlen2,hlen],.inr ⟨V.heap.size,G,R2.toArray,by rw [hlen],jD,hN3,by rw [hlen];exact hGn,hGm,jAq,jAr⟩⟩
   ·
    exact .inr ⟨V.heap.size,jo,jD⟩
   exact .inr ⟨V.heap.size,jo,jD⟩
  clear hRE hreps hW3 hW2 hW1 hR1 hR2 hold hrow1 hokp hok HB hp;rw [← hV] at hfin;clear hV hVs hG;rw [hgo];have hi0 : (0 : Int)≤(i : Int):=by omega
  have hin2 : (i : Int)≤(xs.length : Int):=by omega
  have hcn : ¬ (cap=i):=by omega
  have hGi : ¬ (G=i):=by omega
  have hGi1 : ¬ (G=i+1):=by omega
  have htn : ((i : Int)+1).toNat=i+1:=by omega
  have hb1 : (0 : Int)≤(i : Int)+1:=by omega
  have hb3 : (i : Int)≤(xs.length : Int):=by omega
  have hb4 : i≤xs.length:=hi;have hb5 : (i : Int)+1≤(xs.length : Int)+1:=by omega
  have hb6 : (i : Int)<(xs.length : Int):=by omega
  go_enter Try.func66,Try.ntmps66
  go_wp2_with (first
   | (at_builtin;refine Lib.wpList_append_run _ rfl _ _ _ _ rfl _ _ rfl rfl _ _ (hrz _) ?_)
   | (at_builtin;(refine Go.Proofs.Ytamikhmpfmgofaa.Row.copy_run rfl _ _ 33 33 rfl _ _ rfl rfl (hcp1 _ _) ?_)))
  go_region_law_o (refine Go.Proofs.Ytamikhmpfmgofaa.Row.copy_step rfl _ _ 33 33 rfl (.slice (some ⟨V.heap.size,(i+1)*2,none⟩) (xs.length+1 - (i+1)) (G - (i+1))) (.slice (some ⟨g,i*2,none⟩) (xs.length - i) (cap - i)) jT jT (hcp2 3 (G - (i+1)) (cap - i)) ?_)
  go_wp2
  go_ret
  obtain ⟨v1,rfl,h1,h2,h3,h4⟩:=hfin;exact ⟨_,rfl,h1,h2,h3,h4⟩
 have hr : xs.length+1≤cap:=by omega
 have hz3b : decide ((cap : Int)<(xs.length : Int)+1)=false:=decide_eq_false jD;have hz3 : ¬ ((cap : Int)<(xs.length : Int)+1):=by omega
 obtain ⟨V,hV⟩ : ∃ V,V=W:=⟨_,rfl⟩;have hvb0:=hvb;rw [← hV] at hvb hh1 hfc ⊢;have hVs : V.heap.size=W.heap.size:=by rw [hV]
 have hov : ∀ lb cb,(callFunc 76 #[.slice (some ⟨gl,0,none⟩) 1 1,.slice (some ⟨g,(i+1)*2,none⟩) lb cb]).run Try.prog V = .ok (.value (.bool false)) V:=fun lb cb=>by
  rw [run_callFunc_extern Try.func76 jA jA jA (e:=Extern.SlicesOverlaps.overlaps #[33,33] #[4]) jA,
   Lib.run_overlaps_apart V 33 4 67 hu 2 (fun w=>by
    cases hq : Try.prog.info? 67 with
    | none=>rw [hq] at hsz;cases hsz
    | some i0=>rw [hq] at hsz;simp at hsz;simp [sizeOf,typeInfo,hq,hsz]) ⟨gl,0,none⟩ ⟨g,(i+1)*2,none⟩ 1 1 lb cb hgv 67 67 cs.toArray.size cur.size (by simp [World.shape?,hvb]) (by simp [World.shape?,hh1]) (by rw [hcs];omega) (zA hvb 0) (zA hvb _)]
  rfl
 obtain ⟨R1,hR1⟩ : ∃ R1 : List Value,R1=cur.toList.take ((i+1)*2)++inner.drop (i*2)++cur.toList.drop ((i+1)*2+(inner.drop (i*2)).length):=⟨_,rfl⟩;have hcl2 : cur.toList.length=cap*2:=(Array.length_toList (xs:=cur)).trans hcs;have hR1l : R1.length=cap*2:=by rw [hR1,hrow1 _ _ _ (by rw [hcl2,hdl];omega),hcl2]
 have hcp1 : ∀ ty dc sc,(Builtin.copy_ #[33,33] ty #[.slice (some ⟨g,(i+1)*2,none⟩) (xs.length+1 - (i+1)) dc,.slice (some ⟨g,i*2,none⟩) (xs.length+1 - i) sc]).run Try.prog V.drew = .ok (goInt (Nat.min (xs.length+1 - i) (xs.length+1 - (i+1)))) (V.drew.setRow g R1.toArray):=fun ty dc sc=>by
  rw [hR1]
  exact Go.Proofs.Ytamikhmpfmgofaa.Row.run_copy_rowk V.drew 33 33 ty 67 2 g ((i+1)*2) (xs.length+1 - (i+1)) dc ⟨g,i*2,none⟩ (xs.length+1 - i) sc cur 67 (inner.drop (i*2)) hu hsz (zf hh1) (by rw [hdl];have : Nat.min (xs.length+1 - i) (xs.length+1 - (i+1))=xs.length - i:=(Nat.min_eq_right jD).trans jD;rw [this]) (fun j v hj=>by
   rw [add_at,zz (zf hh1)];rw [List.getElem?_drop,← ht,List.getElem?_take] at hj
   split at hj
   ·
    rw [← Array.getElem?_toList];exact hj
   cases hj) (by rw [hcs,hdl];omega) (fun u hu=>h1i u (List.mem_of_mem_drop hu))
 obtain ⟨W1,hW1⟩ : ∃ W1,W1=V.drew.setRow g R1.toArray:=⟨_,rfl⟩;rw [← hW1] at hcp1;have hg1 : W1.heap[g]? = some (.cells R1.toArray 67 (0,0)):=by rw [hW1];exact setRow_heap V.drew _ _ _ _ _ (zf hh1)
 have hoth1 : ∀ k,k≠g→W1.heap[k]? = V.heap[k]?:=fun k hk=>by rw [hW1];exact setRow_other _ _ _ _ hk
 have hvb1 : W1.heap[gl]? = some (.cells cs.toArray 67 (0,0)):=(hoth1 _ hgv).trans hvb;obtain ⟨R2,hR2⟩ : ∃ R2 : List Value,R2=R1.take (i*2)++cs++R1.drop (i*2+cs.length):=⟨_,rfl⟩;have hR2l : R2.length=cap*2:=by rw [hR2,hrow1 _ _ _ (by rw [hR1l,hcl];omega),hR1l]
 have hct : cur.toList.take (i*2)=inner.take (i*2):=by rw [← ht,List.take_take,Nat.min_eq_left jD]
 have hR2t : R2.take ((xs.length+1)*2)=inner.take (i*2)++cs++inner.drop (i*2):=by
  have e1 : R1.take (i*2)=inner.take (i*2):=by
   rw [hR1,List.append_assoc,List.take_append_of_le_length (by simp [hcl2,hcs];omega),List.take_take,Nat.min_eq_left jD,hct]
  have e2 : (R1.drop (i*2+cs.length)).take ((xs.length - i)*2)=inner.drop (i*2):=by
   have e3 : (cur.toList.take ((i+1)*2)).length=i*2+cs.length:=by rw [zx,hcl2,hcl];omega
   rw [hR1,List.append_assoc,← e3,List.drop_left,← hdl,List.take_left]
  rw [hR2,e1,List.take_append,List.take_of_length_le jAD]
  congr 1
  rw [← e2]
  congr 1
  simp [hcl,hil];omega
 have hcp2 : ∀ ty dc,(Builtin.copy_ #[33,33] ty #[.slice (some ⟨g,i*2,none⟩) (xs.length+1 - i) dc,.slice (some ⟨gl,0,none⟩) 1 1]).run Try.prog W1 = .ok (goInt (Nat.min 1 (xs.length+1 - i))) (W1.setRow g R2.toArray):=fun ty dc=>by
  rw [hR2];exact Go.Proofs.Ytamikhmpfmgofaa.Row.run_copy_rowk W1 33 33 ty 67 2 g (i*2) (xs.length+1 - i) dc ⟨gl,0,none⟩ 1 1 R1.toArray 67 cs hu hsz hg1 (by rw [hcl];have : Nat.min 1 (xs.length+1 - i)=1:=Nat.min_eq_left jD;rw [this]) (fun j v hj=>by rw [add_plain,zz hvb1];simpa using hj) jBx h1c
 obtain ⟨W2,hW2⟩ : ∃ W2,W2=W1.setRow g R2.toArray:=⟨_,rfl⟩;rw [← hW2] at hcp2;have hg2 : W2.heap[g]? = some (.cells R2.toArray 67 (0,0)):=by rw [hW2];exact setRow_heap W1 _ _ _ _ _ hg1
 have hgr : W.grownBy W2 (some g):=by
  have hsz2 : W2.heap.size=W.heap.size:=by rw [hW2,hW1];simp only [setRow_size];exact hVs
  refine ⟨jAE,jAE,jAE,by rw [hsz2];omega,fun k hk hkg=>?_⟩;have hkg' : k≠g:=fun e=>hkg (by rw [e]);rw [hW2,setRow_other _ _ _ _ hkg',hoth1 k hkg',hV]
 have hfin : ∃ v1,(Value.slice (some ⟨g,0,none⟩) (xs.length+1) cap)=v1∧Kd.R (Kd.raw 2) 67 W2 base ok v1 (xs.take i ++ [p]++xs.drop i)∧Below base w0 W2∧W.grownBy W2 (some g)∧(v1.ownBlock=some g ∨ ∃ b,v1.ownBlock=some b∧W.heap.size≤b):=by
  refine ⟨_,rfl,hRE W2 _ ?_ hgr (.inl jo),pw_below_grown HB (some g) hbase hgr (fun k hk=>by injection hk with hk;omega),hgr,.inl jo⟩;refine ⟨by rw [hlen2,hlen],.inr ⟨g,cap,R2.toArray,by rw [hlen],hbg,hg2,by rw [hlen];exact hr,hcm,jAq,jAr⟩⟩
 clear hRE hreps hW2 hW1 hR1 hR2 hrow1 hokp hok HB hp hgr;rw [← hV] at hfin;clear hV hVs;rw [hgo];have hi0 : (0 : Int)≤(i : Int):=by omega
 have hin2 : (i : Int)≤(xs.length : Int):=by omega
 have hcn : ¬ (cap=i):=by omega
 have hcn1 : ¬ (cap=i+1):=by omega
 have htn : ((i : Int)+1).toNat=i+1:=by omega
 have htn2 : ((xs.length : Int)+1).toNat=xs.length+1:=by omega
 have hb0 : (0 : Int)≤(xs.length : Int)+1:=by omega
 have hb1 : (0 : Int)≤(i : Int)+1:=by omega
 have hb5 : (i : Int)+1≤(xs.length : Int)+1:=by omega
 have hb6 : (i : Int)<(xs.length : Int):=by omega
 have hb7 : (xs.length : Int)+1≤(cap : Int):=by omega
 have hb8 : (i : Int)≤(xs.length : Int)+1:=by omega
 go_enter Try.func66,Try.ntmps66
 go_wp2_with (simp only [hov])
 go_region_law_o (refine Go.Proofs.Ytamikhmpfmgofaa.Row.copy_step rfl _ _ 33 33 rfl (.slice (some ⟨g,(i+1)*2,none⟩) (xs.length+1 - (i+1)) (cap - (i+1))) (.slice (some ⟨g,i*2,none⟩) (xs.length+1 - i) (cap - i)) jT jT (hcp1 3 (cap - (i+1)) (cap - i)) ?_)
 go_wp2_with (at_builtin;(refine Go.Proofs.Ytamikhmpfmgofaa.Row.copy_run rfl _ _ 33 33 rfl _ _ rfl rfl (hcp2 _ _) ?_))
 go_ret
 obtain ⟨v1,rfl,h1,h2,h3,h4⟩:=hfin;exact ⟨_,rfl,h1,h2,h3,h4⟩

theorem slices_Insert_pages.fk {d : Kd S67} {W w1 : World} {ok : Nat→Prop} {v v1 : Value} {x : S67} {c : List Value} (h : Kd.FK d W (fun k=>ok k∧some k≠v.ownBlock) x c) (hg : W.grownBy w1 v.ownBlock) (hat : v1.ownBlock=v.ownBlock ∨ ∃ b,v1.ownBlock=some b∧W.heap.size≤b) : Kd.FK d w1 (fun k=>ok k∧some k≠v1.ownBlock) x c:=by
 refine Kd.FK_mono (Kd.FK_step (Kd.FK_bound h) (fun k hk hlt=>hg.block k hlt hk.1.2)) (fun k hk=>⟨hk.1.1,?_⟩);rcases hat with hat|⟨b,hb,hle⟩
 ·
  rw [hat];exact hk.1.2
 rw [hb];intro he;injection he with he;have:=hk.2
 omega
theorem slices_Insert_pages.insN (ok okp : Nat→Prop) (base : Nat) (v : Value) (xs : List S67) (p : S67) (cs : List Value) (gl i : Nat) (w0 W : World) (hi : i≤xs.length)
  (HO : Kd.N k67 67 W base ok v xs) (hvb : W.heap[gl]? = some (.cells cs.toArray 67 (0,0))) (hgl : some gl≠v.ownBlock) (hp : Kd.FK k67 W okp p cs) (hokp : ∀ q,okp q→ok q∧some q≠v.ownBlock) (hfresh : ∀ q,W.heap.size≤q→ok q) (HB : Below base w0 W) (hbase : base≤W.heap.size) (hl : (xs.length+1)*32≤140737488355328) :
  Calls Try.prog 66 #[v,.int .i64 i,.slice (some ⟨gl,0,none⟩) 1 1] W fun ex w' => ∃ v1,ex = .returned v1∧Kd.N k67 67 w' base ok v1 (xs.take i ++ [p]++xs.drop i)∧Below base w0 w' ∧ W.grownBy w' v.ownBlock:=by
 obtain ⟨h0,rows,hlr,hR,hf⟩:=HO;have hraw : cs=cs∧cs.length=2 ∧ ∀ u ∈ cs,u.oneCell' = true:=⟨rfl,Kd.K_len k67 (Kd.FK_now hp),Kd.K_one k67 (Kd.FK_now hp)⟩;refine (slices_Insert_pages.ins2 (fun _=>True) (fun _=>False) base v rows cs cs gl i w0 W (by rw [hlr];exact hi) (Kd.raw_any hR) hvb hgl hraw (fun x c h9=>h9) (fun _ h9=>h9.elim) (fun _ _=>trivial) HB hbase (by rw [hlr];exact hl)).mono ?_;rintro e w' ⟨v1,rfl,hR1,hB1,hg,hat⟩;refine ⟨v1,rfl,⟨fun k hk=>?_,rows.take i ++ [cs]++rows.drop i,by simp [hlr],Kd.raw_tight hR1,fun j x c hx hc=>?_⟩,hB1,hg⟩
 ·
  rcases hat with hat|⟨b,hb,hle⟩
  ·
   exact h0 k (hat ▸ hk)
  rw [hb] at hk;injection hk with hk;exact hfresh k (hk ▸ hle)
 have hli : (xs.take i).length=i:=by rw [zx];omega
 have hri : (rows.take i).length=i:=by rw [zx];omega
 rw [List.append_assoc] at hx hc
 by_cases h1 : j<i
 ·
  rw [List.getElem?_append_left jD,List.getElem?_take,if_pos h1] at hx hc
  exact slices_Insert_pages.fk (hf j x c hx hc) hg hat
 rw [List.getElem?_append_right jD,hli] at hx;rw [List.getElem?_append_right jD,hri] at hc;obtain ⟨q,hq⟩ : ∃ q,q=j - i:=⟨_,rfl⟩;rw [← hq] at hx hc
 cases q with
 | zero =>
  simp only [List.singleton_append,List.getElem?_cons_zero,Option.some.injEq] at hx hc;rw [← hx,← hc];exact slices_Insert_pages.fk (Kd.FK_mono hp hokp) hg hat
 | succ q =>
  simp only [List.singleton_append,List.getElem?_cons_succ,List.getElem?_drop] at hx hc;exact slices_Insert_pages.fk (hf (i+q) x c hx hc) hg hat

end Go.Proofs.Ytamikhmpfmgofaa.Q
end
section
namespace Go.Proofs.Ytamikhmpfmgofaa.Q
open Go.RowKit Go.Proofs.YtamikhmpfmgofaaW.PrintWords Go.Proofs.YtamikhmpfmgofaaW.PrintLast Go.Proofs.YtamikhmpfmgofaaW.PrintMore
attribute [local go_sem] max2_int min2_int max_two min_two max_three min_three max_four min_four max2_str min2_str str_geq str_gtr str_leq
set_option linter.unusedVariables false
set_option linter.unusedSimpArgs false
def Fu.out (L : List S67) (nx : Int) (j : Nat) (q : Int) (n4 : Bool) (X : List S51) : Int×Int×List S67×Int:=if n4=true then (nx,0,(L.set j (⟨q,X.take 2⟩ : S67)).take (j+1) ++ [(⟨nx,X.drop 2⟩ : S67)]++(L.set j (⟨q,X.take 2⟩ : S67)).drop (j+1),nx+1) else (0,0,L.set j (⟨q,X⟩ : S67),nx)
def Fu.f (k : Nat) (L : List S67) (nx : Int) (key : ByteArray) (id : Int) : Option (Int×Int×List S67×Int):=(F00.f k L nx key id).bind fun t=>(if 0≤t.1∧t.1<(L.length : Int)∧L.length≤1000000∧((rd_T67 L t.1).f1).length≤1000000 then (if t.2.2=true then some (0,12,L,nx) else (if ((rd_T67 L t.1).f1).length=4∧(L.length=60∨nx=100000) then some (0,7,L,nx) else (if 0≤t.2.1∧t.2.1≤(((rd_T67 L t.1).f1).length : Int)∧wrap64 (nx+1)=nx+1 then some (Fu.out L nx t.1.toNat (rd_T67 L t.1).f0 (decide (((rd_T67 L t.1).f1).length=4)) (((rd_T67 L t.1).f1).take t.2.1.toNat ++ [(⟨key,id⟩ : S51)]++((rd_T67 L t.1).f1).drop t.2.1.toNat)) else none))) else none)
theorem Fu.K_M {w w' : World} {base : Nat} {ok : Nat→Prop} (x : S51) (cs : List Value) (h : k51.K w' x cs) : k51.M w base ok x cs:=by rw [k51_open h];exact k51_mkM _ _ _ _
theorem Fu.cl (A : Option Addr) (c n : Nat) (l : List S51) (w : World) (hn : n=l.length) (hC : Kd.C k51 w A l.length l) (hc : l.length≤c) (hl : l.length≤1000001) : Calls Try.prog 61 #[.slice A n c] w fun e w' => ∃ v0_ : Value,e = .returned v0_∧Kd.R k51 51 w' w.heap.size (fun _=>True) v0_ l∧Below w.heap.size w w':=by
 subst hn;exact F09.calls A c l l w hC hc (by unfold F09.f;rw [if_pos jD])
theorem Fu.mono : ∀ a0 a1 a2 a3 k,LeO (Fu.f k a0 a1 a2 a3) (Fu.f (k+1) a0 a1 a2 a3):=by
 intro a0 a1 a2 a3 k;unfold Fu.f;exact zO (F00.mono _ _ _ _ _) (fun _=>zQ _)
set_option maxHeartbeats 16000000 in
set_option maxRecDepth 100000 in
theorem Fu.calls (k : Nat) (gb : Nat) (pv : Value) (L : List S67) (nx : Int) (key : ByteArray) (id : Int) (r1 r2 : Int) (L' : List S67) (nx' : Int) (w0 w : World) (hB : Below w0.heap.size w0 w) (hb : w.heap[gb]? = some (.cells #[pv,.int .i64 nx] 35 (0,0))) (hg : w0.heap.size≤gb) (hS0 : Kd.N k67 67 w w0.heap.size (fun k_=>w0.heap.size≤k_∧k_≠gb) pv L) (h : Fu.f k L nx key id=some (r1,r2,L',nx')) :
  Calls Try.prog 49 #[.pointer (some ⟨gb,0,none⟩),.agg #[.string key,.int .i64 id]] w fun e w' => ∃ pv',e = .returned (.tuple #[.int .i64 r1,.int .i64 r2])∧w'.heap[gb]? = some (.cells #[pv',.int .i64 nx'] 35 (0,0))∧Kd.N k67 67 w' w0.heap.size (fun k_=>w0.heap.size≤k_∧k_≠gb) pv' L' ∧ Below w0.heap.size w0 w':=by
 have hu35:=Try.underlying35;have hu51:=Try.underlying51;have hu67:=Try.underlying67;obtain ⟨A,c,rfl⟩:=Kd.N_slice hS0;unfold Fu.f at h;obtain ⟨⟨pg,at_,th⟩,hF,h⟩:=zT.mp h;simp only at h
 by_cases hpp : 0≤pg∧pg<(L.length : Int)∧L.length≤1000000∧((rd_T67 L pg).f1).length≤1000000
 case neg=>rw [if_neg hpp] at h;cases h
 rw [if_pos hpp] at h;obtain ⟨hp0,hp1,hLm,hlm⟩:=hpp;obtain ⟨V,hV⟩ : ∃ V,V=w.alloc (.cells #[.string key,.int .i64 id] 51):=⟨_,rfl⟩;have hbV : Below w.heap.size w V:=by rw [hV];exact za (Below.refl _ _) _
 have hVe : V.heap[w.heap.size]? = some (.cells #[.string key,.int .i64 id] 51 (0,0)):=by rw [hV];exact blk_new w _
 obtain ⟨ge,hge⟩ : ∃ ge,ge=w.heap.size:=⟨_,rfl⟩;rw [← hge] at hVe;have hne_ : gb≠ge:=fun e9=>Nat.lt_irrefl _ (by have:=yi hb;rw [e9,hge] at this;exact this);have hSV:=Kd.N_below (Kd.N_bound hS0) hbV;have hbb:=zD hb hbV;have hBV:=zC hB hbV;have mixed : Try.prog.follows Departure.mixedOrders=true:=by rfl
 have late : Try.prog.follows Departure.lateStores=true:=by rfl
 have k0 : V.cell? ⟨gb,0,none⟩=some (.slice A L.length c):=(zz hbb 0).trans rfl;have k1 : V.cell? ⟨gb,1,none⟩=some (.int .i64 nx):=(zz hbb 1).trans rfl;have k2 : V.cell? ⟨ge,0,none⟩=some (.string key):=(zz hVe 0).trans rfl;have k3 : V.cell? ⟨ge,1,none⟩=some (.int .i64 id):=(zz hVe 1).trans rfl;have hlb:=yi hbb;have hle:=yi hVe
 have hcell : ∀ W1,Below V.heap.size V W1→(W1.cell? ⟨gb,0,none⟩=some (.slice A L.length c)∧W1.cell? ⟨gb,1,none⟩=some (.int .i64 nx)∧W1.cell? ⟨ge,0,none⟩=some (.string key)∧W1.cell? ⟨ge,1,none⟩=some (.int .i64 id)) :=
  fun W1 hb=>⟨(hb.cell hlb).trans k0,(hb.cell hlb).trans k1,(hb.cell hle).trans k2,(hb.cell hle).trans k3⟩
 have hCV:=fun W1 (hb : Below V.heap.size V W1)=>Kd.C_below (Kd.N_reads' hSV).2.2 hb;have hLc:=(Kd.N_reads' hSV).2.1;have NE:=zh hne_;have HE:=zh hVe;have HW0:=zh hge;have hlt_ : ∀ k_,(w0.heap.size≤k_∧k_≠gb)∧k_<w.heap.size→w0.heap.size≤k_∧k_≠gb∧k_≠ge:=fun k_ hk=>⟨hk.1.1,hk.1.2,fun e9=>by rw [e9,hge] at hk;exact Nat.lt_irrefl _ hk.2⟩;have HLT:=zh hlt_;have GE0 : Aside0 (w0.heap.size≤ge):=⟨by rw [hge];exact hB.size⟩;clear hlt_ hVe hne_
 go_enter Try.func49,Try.ntmps49
 go_wp2_with fail
 rw [← hV];simp only [← hge];clear hV hge
 go_region_held3 (fun w' => w'.cell? ⟨gb,0,none⟩=some (.slice A L.length c)∧w'.cell? ⟨gb,1,none⟩=some (.int .i64 nx)∧w'.cell? ⟨ge,0,none⟩=some (.string key)∧w'.cell? ⟨ge,1,none⟩=some (.int .i64 id)) (exact hcell _ jAs) (first|(go_at_call 62;refine (F00.calls k A c L nx key id pg at_ th _ (hCV _ jAs) hLc hF).mono ?_;rintro e w1 ⟨rfl,hb0⟩;have hb1 : Below V.heap.size V w1:=zC jBy hb0))
 have HB1:=zh (zC hBV hb1);have HN1:=zh (Kd.N_mono (Kd.N_below hSV hb1) HLT.out);have H0_1:=zh (zD hbb hb1);have H1_1:=zh (zD HE.out hb1);clear hbV hSV hbb hBV k0 k1 k2 k3 hlb hle hcell hCV hb0 hb1 hF hS0 hB hb HE HW0 HLT;obtain ⟨g,cg,eg,gb_,gl_,cg_,hg_⟩:=Kd.N_form HN1.out jD;injection eg with ea _ ec;subst ea;subst ec;obtain ⟨ce,hcl_,hFK_,hcc_,hfr_⟩:=Kd.N_elem HN1.out z67 pg hp0 hp1;obtain ⟨Ae,ke,rfl,hle_,hFe_⟩:=k67_openF hFK_;have er : L.getD pg.toNat z67=rd_T67 L pg:=rfl;rw [er] at hle_ hFe_ hcc_;obtain ⟨l,hl⟩ : ∃ l,l=(rd_T67 L pg).f1:=⟨_,rfl⟩;obtain ⟨q,hq⟩ : ∃ q,q=(rd_T67 L pg).f0:=⟨_,rfl⟩;rw [← hl] at hle_ hFe_ hcc_ h hlm;rw [← hq] at hcc_ h;have HQ:=zh hq;have HEX : Aside0 (w1.cell? ⟨g,pg.toNat*2+1,none⟩=some (.slice Ae l.length ke)):=⟨hcc_ 1 _ rfl⟩;have HCC:=zh hcc_;have HFE:=zh hFe_;have HLE:=zh hle_
 have GBG : Aside0 (gb≠g):=⟨fun e9=>by
  have h9:=H0_1.out;rw [e9] at h9;rw [h9] at hg_;injection hg_ with hg_;injection hg_ with _ hg_
  exact absurd hg_ jB⟩
 have GEG : Aside0 (ge≠g):=⟨fun e9=>by
  have h9:=H1_1.out;rw [e9] at h9;rw [h9] at hg_;injection hg_ with hg_;injection hg_ with _ hg_
  exact absurd hg_ jB⟩
 have GW:=zh gb_;have GL1:=zh gl_;have HLm:=zh hLm;have Hlm:=zh hlm;have HP1:=zh hp1;have hpi0:=eq_true hp0;have hpi1:=eq_true hp1;have k0:=(zz H0_1.out 0).trans (show _=some (.slice (some ⟨g,0,none⟩) L.length c) from rfl);have k1:=(zz H0_1.out 1).trans (show _=some (.int .i64 nx) from rfl);have kx:=HEX.out;clear hcl_ hFK_ hcc_ hfr_ hle_ hFe_ er hl hq hg_ gb_ gl_ hLm hlm hp1
 cases th with
 | true =>
  rw [if_pos rfl] at h;simp only [Option.some.injEq,Prod.mk.injEq] at h;obtain ⟨rfl,rfl,rfl,rfl⟩:=h
  go_wp2_with fail
  go_ret2
  exact ⟨rfl,_,H0_1.out,Kd.N_mono HN1.out (fun _ hk=>⟨hk.1,hk.2.1⟩),HB1.out⟩
 | false =>
  rw [if_neg jB] at h;have fin7 : ∀ W1,W1=w1→(W1.heap[gb]? = some (.cells #[.slice (some ⟨g,0,none⟩) L.length c,.int .i64 nx] 35 (0,0))∧Kd.N k67 67 W1 w0.heap.size (fun k_=>w0.heap.size≤k_∧k_≠gb) (.slice (some ⟨g,0,none⟩) L.length c) L∧Below w0.heap.size w0 W1):=fun W1 e9=>by rw [e9];exact ⟨H0_1.out,Kd.N_mono HN1.out (fun _ hk=>⟨hk.1,hk.2.1⟩),HB1.out⟩
  have F7:=zh fin7;clear fin7
  by_cases hfull : l.length=4∧(L.length=60∨nx=100000)
  ·
   rw [if_pos hfull] at h
   simp only [Option.some.injEq,Prod.mk.injEq] at h;obtain ⟨rfl,rfl,rfl,rfl⟩:=h;obtain ⟨d1,d2⟩:=hfull;have e1 : ((l.length : Int) == 4)=true:=ya.mpr jD;have e1n : (l.length == 4)=true:=ya.mpr d1
   by_cases d3 : L.length=60
   ·
    have e2 : ((L.length : Int) == 60)=true:=ya.mpr jD
    have e2n : (L.length == 60)=true:=ya.mpr d3;clear d1 d2 d3
    go_wp2_with fail
    go_ret2
    obtain ⟨z1,z2,z3⟩:=F7.out _ rfl;exact ⟨rfl,_,z1,z2,z3⟩
   have e2 : ((L.length : Int) == 60)=false:=zY.mpr jD;have e2n : (L.length == 60)=false:=zY.mpr d3;have e3 : (nx == 100000)=true:=ya.mpr (d2.resolve_left d3);clear d1 d2 d3
   go_wp2_with fail
   go_ret2
   obtain ⟨z1,z2,z3⟩:=F7.out _ rfl;exact ⟨rfl,_,z1,z2,z3⟩
  rw [if_neg hfull] at h
  by_cases hat : 0≤at_∧at_≤(l.length : Int)∧wrap64 (nx+1)=nx+1
  case neg=>rw [if_neg hat] at h;cases h
  rw [if_pos hat] at h;obtain ⟨ha0,ha1,hnw⟩:=hat;obtain ⟨im,rfl⟩ : ∃ im : Nat,at_=(im : Int):=⟨at_.toNat,(Int.toNat_of_nonneg ha0).symm⟩;rw [Int.toNat_natCast] at h;have HNW : Aside0 (IntKind.i64.wrap (nx+1)=nx+1):=⟨(zG _).trans hnw⟩;have HIL : Aside0 (im≤l.length):=⟨Int.ofNat_le.1 ha1⟩;have HO:=zh (zU h);obtain ⟨X,hX⟩ : ∃ X : List S51,X=l.take im ++ [(⟨key,id⟩ : S51)]++l.drop im:=⟨_,rfl⟩;have HX:=zh hX;clear h ha0 ha1 hnw hX
  by_cases hs : l.length=4
  case neg =>
   have hO:=HO.out;have e1 : ((l.length : Int) == 4)=false:=zY.mpr jD;have e1n : (l.length == 4)=false:=zY.mpr hs;rw [decide_eq_false hs] at hO;unfold Fu.out at hO;rw [if_neg jB] at hO;simp only [Prod.mk.injEq] at hO;obtain ⟨rfl,rfl,hL1,rfl⟩:=hO;have HL1:=zh hL1;clear hL1 HO hs hfull
   go_upto_region 7 with (fail)
   have HB2:=zh (zc HB1.out);have H0_2:=zh (zf H0_1.out);have H1_2:=zh (zf H1_1.out);have HN2 : Aside0 (Kd.N k67 67 w1.drew w0.heap.size (fun k_=>w0.heap.size≤k_∧k_≠gb) (.slice (some ⟨g,0,none⟩) L.length c) L):=⟨Kd.N_drew (Kd.N_mono HN1.out (fun _ hk=>⟨hk.1,hk.2.1⟩))⟩;have HFE2:=zh (Kd.F_drew HFE.out);have HEX2 : Aside0 (w1.drew.cell? ⟨g,pg.toNat*2+1,none⟩=some (.slice Ae l.length ke)):=⟨HEX.out⟩;have GL2 : Aside0 (g<w1.drew.heap.size):=⟨GL1.out⟩;have GB2 : Aside0 (gb<w1.drew.heap.size):=⟨yi H0_2.out⟩;refine start_ (n:=14) (S:=fun w' => w'.cell? ⟨gb,0,none⟩=some (.slice (some ⟨g,0,none⟩) L.length c)∧w'.cell? ⟨g,pg.toNat*2+1,none⟩=some (.slice Ae l.length ke)∧w'.cell? ⟨ge,0,none⟩=some (.string key)∧w'.cell? ⟨ge,1,none⟩=some (.int .i64 id)) (ds:=[12]) (bm_ 0 14) jA rfl rfl ⟨(zz H0_2.out 0).trans rfl,HEX2.out,(zz H1_2.out 0).trans rfl,(zz H1_2.out 1).trans rfl⟩ (fun hHeld=>?_);generalize w1.drew=w2 at HB2 H0_2 H1_2 HN2 HFE2 HEX2 GL2 GB2 hHeld ⊢;clear HB1 H0_1 H1_1 HN1 HFE HEX GL1 F7 HCC;refine pure_ (i:=0) (N:=some 50) (v:=?_) (a':=?_) (bm_ 1 14) rfl rfl jA (fun _ _ _ h=>h) (Or.inl ⟨by rfl,?_⟩) ?_ ?_;rotate_left;exact jb;rotate_left;exact jc
   refine pure_ (i:=1) (N:=some 51) (v:=?_) (a':=?_) (bm_ 2 14) rfl rfl jA (fun _ _ _ h=>h) (Or.inl ⟨by rfl,?_⟩) ?_ ?_;rotate_left;exact jb;rotate_left;exact jc
   refine pure_ (i:=2) (N:=some 52) (v:=?_) (a':=?_) (bm_ 3 14) rfl rfl jA (fun _ _ _ h=>h) (Or.inl ⟨by rfl,?_⟩) ?_ ?_;rotate_left;exact jb;rotate_left;exact jc
   refine pure_ (i:=4) (N:=some 54) (v:=?_) (a':=?_) #[true,true,true,false,true,false,false,false,false,false,false,false,false,false] rfl rfl jA (fun _ _ _ h=>h) (Or.inl ⟨by rfl,?_⟩) ?_ ?_;rotate_left;exact jb;rotate_left;exact jc
   refine pure_ (i:=9) (N:=some 59) (v:=?_) (a':=?_) #[true,true,true,false,true,false,false,false,false,true,false,false,false,false] rfl rfl jA (fun _ _ _ h=>h) (Or.inl ⟨by rfl,?_⟩) ?_ ?_;rotate_left;exact jb;rotate_left;exact jc
   refine take_ (i:=3) (N:=some 53) (v:=?_) (a':=?_) #[true,true,true,true,true,false,false,false,false,true,false,false,false,false] rfl rfl jA (fun _ _ _ h=>h) (Or.inl ⟨by rfl,?_⟩) hHeld ?_ ?_;rotate_left
   ·
    rintro w' ⟨s0,s1,s2,s3⟩
    go_simp
    with_reducible rfl
   rotate_left
   exact jc
   refine pure_ (i:=5) (N:=some 55) (v:=?_) (a':=?_) #[true,true,true,true,true,true,false,false,false,true,false,false,false,false] rfl rfl jA (fun _ _ _ h=>h) (Or.inl ⟨by rfl,?_⟩) ?_ ?_;rotate_left;exact jb;rotate_left;exact jc
   refine pure_ (i:=6) (N:=some 56) (v:=?_) (a':=?_) #[true,true,true,true,true,true,true,false,false,true,false,false,false,false] rfl rfl jA (fun _ _ _ h=>h) (Or.inl ⟨by rfl,?_⟩) ?_ ?_;rotate_left;exact jb;rotate_left;exact jc
   refine take_ (i:=7) (N:=some 57) (v:=?_) (a':=?_) #[true,true,true,true,true,true,true,true,false,true,false,false,false,false] rfl rfl jA (fun _ _ _ h=>h) (Or.inl ⟨by rfl,?_⟩) hHeld ?_ ?_;rotate_left
   ·
    rintro w' ⟨s0,s1,s2,s3⟩
    go_simp
    with_reducible rfl
   rotate_left
   exact jc
   refine take_ (i:=10) (N:=some 60) (v:=?_) (a':=?_) #[true,true,true,true,true,true,true,true,false,true,true,false,false,false] rfl rfl jA (fun _ _ _ h=>h) (Or.inl ⟨by rfl,?_⟩) hHeld ?_ ?_;rotate_left
   ·
    rintro w' ⟨s0,s1,s2,s3⟩
    go_simp
    with_reducible rfl
   rotate_left
   exact jc
   refine join_ (σ:=Value×Nat) 2 (bm_ 12 14) (fun s => [(58,s.1),(61,.slice (some ⟨s.2,0,none⟩) 1 1)]) (fun s w' => Kd.R k51 51 w' w2.heap.size (fun _=>True) s.1 l∧w'.heap[s.2]? = some (.cells #[.string key,.int .i64 id] 51 (0,0))∧some s.2≠s.1.ownBlock∧Below w2.heap.size w2 w') ?_ ?_;rotate_left
   ·
    intro hCont
    refine two_ (i:=8) (j:=11) (Ni:=some 58) (Nj:=some 61) (bm_ 11 14) #[true,true,true,true,true,true,true,true,false,true,true,true,false,false] rfl rfl rfl rfl jA jB jB (fun K hK=>?_) (fun K hK=>?_)
    ·
     skip
     refine goes_ Try.func61 jA rfl #[.slice Ae l.length ke] (by rfl) rfl rfl jI ?_
     with_reducible refine (Fu.cl Ae ke l.length l _ rfl (Kd.F_now (Kd.F_below HFE2.out (Below.refl w2.heap.size w2))) HLE.out jAF).mono ?_
     rintro e wa ⟨va,rfl,hRa,hba_⟩;refine ⟨_,rfl,?_⟩;have hb8:=zC (Below.refl w2.heap.size w2) hba_;refine hK.out _ _ ⟨(zz (zD H0_2.out hb8) 0).trans rfl,(Below.cell hb8 GL2.out).trans HEX2.out,(zz (zD H1_2.out hb8) 0).trans rfl,(zz (zD H1_2.out hb8) 1).trans rfl⟩ (fun hHeld=>?_);clear hK K;refine norm_ (a':=?_) ?_ ?_;rotate_left
     ·
      show Act.put _ (some 58) _=_
      simp only [Act.put,zi,zj,zk,zG,zH]
      rfl
     refine one_ (i:=11) (N:=some 61) (bm_ 12 14) rfl rfl jA jB (fun K hK=>?_);refine value_ (w1:=?_) (v:=?_) (by rfl) rfl ?_ ?_;rotate_left 2
     ·
      go_simp
      constructor
      ·
       rfl
      rfl
     refine hK.out _ _ ⟨(zz (zD H0_2.out (za hb8 _)) 0).trans rfl,(Below.cell (za hb8 _) GL2.out).trans HEX2.out,(zz (zD H1_2.out (za hb8 _)) 0).trans rfl,(zz (zD H1_2.out (za hb8 _)) 1).trans rfl⟩ (fun hHeld=>?_);clear hK K;refine norm_ (a':=?_) ?_ ?_;rotate_left
     ·
      show Act.put _ (some 61) _=_
      simp only [Act.put,zi,zj,zk,zG,zH]
      rfl
     exact norm_ jM (hCont (va,wa.heap.size) _ ⟨zm hRa _,blk_new wa _,(fun he=>Nat.lt_irrefl _ (Kd.R_lt hRa _ he.symm)),za hb8 _⟩)
    skip
    refine value_ (w1:=?_) (v:=?_) (by rfl) rfl ?_ ?_;rotate_left 2
    ·
     go_simp
     constructor
     ·
      rfl
     rfl
    refine hK.out _ _ ⟨(zz (zD H0_2.out (za (Below.refl w2.heap.size w2) _)) 0).trans rfl,(Below.cell (za (Below.refl w2.heap.size w2) _) GL2.out).trans HEX2.out,(zz (zD H1_2.out (za (Below.refl w2.heap.size w2) _)) 0).trans rfl,(zz (zD H1_2.out (za (Below.refl w2.heap.size w2) _)) 1).trans rfl⟩ (fun hHeld=>?_);clear hK K;refine norm_ (a':=?_) ?_ ?_;rotate_left
    ·
     show Act.put _ (some 61) _=_
     simp only [Act.put,zi,zj,zk,zG,zH]
     rfl
    refine one_ (i:=8) (N:=some 58) (bm_ 12 14) rfl rfl jA jB (fun K hK=>?_);refine goes_ Try.func61 jA rfl #[.slice Ae l.length ke] (by rfl) rfl rfl jI ?_
    with_reducible refine (Fu.cl Ae ke l.length l _ rfl (Kd.F_now (Kd.F_below HFE2.out (za (Below.refl w2.heap.size w2) _))) HLE.out jAF).mono ?_
    rintro e wa ⟨va,rfl,hRa,hba_⟩;refine ⟨_,rfl,?_⟩;have hb8:=zC (za (Below.refl w2.heap.size w2) _) hba_;refine hK.out _ _ ⟨(zz (zD H0_2.out hb8) 0).trans rfl,(Below.cell hb8 GL2.out).trans HEX2.out,(zz (zD H1_2.out hb8) 0).trans rfl,(zz (zD H1_2.out hb8) 1).trans rfl⟩ (fun hHeld=>?_);clear hK K;refine norm_ (a':=?_) ?_ ?_;rotate_left
    ·
     show Act.put _ (some 58) _=_
     simp only [Act.put,zi,zj,zk,zG,zH]
     rfl
    exact norm_ jM (hCont (va,w2.heap.size) _ ⟨yx hRa (za (Below.refl w2.heap.size w2) _).size,zD (blk_new w2 _) hba_,(fun he=>Nat.lt_irrefl _ (Nat.lt_of_lt_of_le (yi (blk_new w2 _)) (Kd.R_base hRa _ he.symm))),hb8⟩)
   rintro ⟨va,gl⟩ wt ⟨hRa,hlit,hne,hbt⟩;have hHeld : wt.cell? ⟨gb,0,none⟩=some (.slice (some ⟨g,0,none⟩) L.length c)∧wt.cell? ⟨g,pg.toNat*2+1,none⟩=some (.slice Ae l.length ke)∧wt.cell? ⟨ge,0,none⟩=some (.string key)∧wt.cell? ⟨ge,1,none⟩=some (.int .i64 id):=⟨(zz (zD H0_2.out hbt) 0).trans rfl,(Below.cell hbt GL2.out).trans HEX2.out,(zz (zD H1_2.out hbt) 0).trans rfl,(zz (zD H1_2.out hbt) 1).trans rfl⟩;refine norm_ (a':=?_) ?_ ?_;rotate_left
   ·
    simp only [putAll,Act.put,zi,zj,zk]
    rfl
   refine last_ (i:=12) (N:=some 62) (bm_ 13 14) rfl rfl jA jB (fun K hK=>?_);refine goes_ Try.func65 jA rfl #[va,.int .i64 (im : Int),.slice (some ⟨gl,0,none⟩) 1 1] (by rfl) rfl rfl jI ?_
   with_reducible refine (slices_Insert_entries.ins2 (fun _=>True) (fun _=>False) w2.heap.size va l (⟨key,id⟩ : S51) [.string key,.int .i64 id] gl im w2 _ HIL.out hRa hlit hne (k51_mkM _ _ _ (⟨key,id⟩ : S51)) (fun x cs h9=>Fu.K_M x cs h9) (fun _ h9=>h9.elim) (fun _ _=>trivial) hbt hbt.size jAF).mono ?_
   rintro e we ⟨ve,rfl,hRe,hbe,-,-⟩;refine ⟨_,rfl,?_⟩;rw [← HX.out] at hRe;obtain ⟨A2,c2,rfl⟩:=yk hRe;refine hK.out _ _ ?_;clear hK K;refine norm_ (a':=?_) ?_ ?_;rotate_left
   ·
    show Act.put _ (some 62) _=_
    simp only [Act.put,zi,zj,zk,zG,zH]
    rfl
   refine pure_ (i:=13) (N:=some 10) (v:=?_) (a':=?_) (bm_ 14 14) rfl rfl jA (fun _ _ _ h=>h) (Or.inl ⟨by rfl,?_⟩) ?_ ?_;rotate_left;exact jb;rotate_left;exact jc
   refine done_ jA ?_;have HB3:=zh (zC HB2.out hbe);have H0_3:=zh (zD H0_2.out hbe);have HN3:=zh (Kd.N_below HN2.out hbe);have HFX : Aside0 (Kd.F k51 we (fun k_=>w2.heap.size≤k_) A2 X.length X):=⟨Kd.F_mono (Kd.R_F (Kd.R_bound hRe)) (fun _ hk=>hk.2.1)⟩;have HXC:=zh (yh hRe).2.1;have L23 : Aside0 (w2.heap.size≤we.heap.size):=⟨hbe.size⟩;have GBW : Aside0 (w0.heap.size≤gb):=⟨hg⟩;clear hRa hlit hne hbt hRe hbe HB2 H0_2 H1_2 HN2 HFE2 HEX2;obtain ⟨ce,hcl_,hFK_,hcc_,hfr_⟩:=Kd.N_elem HN3.out z67 pg hp0 HP1.out;obtain ⟨A9,c9,rfl,-,-⟩:=k67_openF hFK_;have q9 : we.cell? ⟨g,pg.toNat*2+1,none⟩=some (.slice A9 (rd_T67 L pg).f1.length c9):=hcc_ 1 _ rfl;have f9 : we.frozen? ⟨g,pg.toNat*2+1,none⟩=false:=hfr_ 1;have k0:=(zz H0_3.out 0).trans (show _=some (.slice (some ⟨g,0,none⟩) L.length c) from rfl)
   obtain ⟨hN8,-⟩ : Kd.N k67 67 (we.setCell ⟨g,pg.toNat*2+1,none⟩ (.slice A2 X.length c2)) w0.heap.size (fun k_=>w0.heap.size≤k_∧k_≠gb) (.slice (some ⟨g,0,none⟩) L.length c) (L.set pg.toNat (⟨(rd_T67 L pg).f0,X⟩ : S67))∧we.grownBy (we.setCell ⟨g,pg.toNat*2+1,none⟩ (.slice A2 X.length c2)) (some g) :=
    Kd.N_seg HN3.out pg hp0 HP1.out (c:=[.int .i64 (rd_T67 L pg).f0,.slice A9 (rd_T67 L pg).f1.length c9]) (seg:=[.slice A2 X.length c2]) (j:=1) rfl hcc_ (show 1+1≤2 from by decide) (x':=(⟨(rd_T67 L pg).f0,X⟩ : S67)) (okp:=fun k_=>w2.heap.size≤k_) (k67_mkF we _ (⟨(rd_T67 L pg).f0,X⟩ : S67) HXC.out HFX.out) (fun k_ hk=>⟨⟨Nat.le_trans GW.out (Nat.le_trans (Nat.le_of_lt GL2.out) hk),fun e9=>by rw [e9] at hk;exact Nat.lt_irrefl _ (Nat.lt_of_lt_of_le GB2.out hk)⟩,fun e9=>by rw [e9] at hk;exact Nat.lt_irrefl _ (Nat.lt_of_lt_of_le GL2.out hk)⟩)
   rw [← HQ.out] at hN8;have HX' : L.set pg.toNat (⟨q,X⟩ : S67)=L':=by rw [HX.out];exact HL1.out
   rw [HX'] at hN8;have HN8:=zh hN8;have HB8 : Aside0 (Below w0.heap.size w0 (we.setCell ⟨g,pg.toNat*2+1,none⟩ (.slice A2 X.length c2))):=⟨zd HB3.out GW.out⟩;have H0_8 : Aside0 ((we.setCell ⟨g,pg.toNat*2+1,none⟩ (.slice A2 X.length c2)).heap[gb]? = some (.cells #[.slice (some ⟨g,0,none⟩) L.length c,.int .i64 nx] 35 (0,0))):=⟨(Below.heap_setCell _ ⟨g,_,none⟩ _ gb GBG.out).trans H0_3.out⟩;clear hN8 HX' hcl_ hFK_ hcc_ hfr_
   go_wp2_with fail
   go_ret2
   exact ⟨rfl,_,H0_8.out,HN8.out,HB8.out⟩
  have hO:=HO.out;rw [decide_eq_true hs] at hO;unfold Fu.out at hO;rw [if_pos rfl] at hO;simp only [Prod.mk.injEq] at hO;obtain ⟨rfl,rfl,hL1,rfl⟩:=hO;have HL1:=zh hL1;have e1 : ((l.length : Int) == 4)=true:=ya.mpr jD;have e1n : (l.length == 4)=true:=ya.mpr hs;have e2 : ((L.length : Int) == 60)=false:=zY.mpr (fun h7=>hfull ⟨hs,.inl jD⟩);have e2n : (L.length == 60)=false:=zY.mpr (fun h7=>hfull ⟨hs,.inl h7⟩);have e3 : (nx == 100000)=false:=zY.mpr (fun h7=>hfull ⟨hs,.inr h7⟩);have X5 : Aside0 (X.length=5):=⟨by rw [HX.out];have:=HIL.out;simp;omega⟩;clear hL1 HO hs hfull
  go_upto_region 7 with (fail)
  have HB2:=zh (zc HB1.out);have H0_2:=zh (zf H0_1.out);have H1_2:=zh (zf H1_1.out);have HN2 : Aside0 (Kd.N k67 67 w1.drew w0.heap.size (fun k_=>w0.heap.size≤k_∧k_≠gb) (.slice (some ⟨g,0,none⟩) L.length c) L):=⟨Kd.N_drew (Kd.N_mono HN1.out (fun _ hk=>⟨hk.1,hk.2.1⟩))⟩;have HFE2:=zh (Kd.F_drew HFE.out);have HEX2 : Aside0 (w1.drew.cell? ⟨g,pg.toNat*2+1,none⟩=some (.slice Ae l.length ke)):=⟨HEX.out⟩;have GL2 : Aside0 (g<w1.drew.heap.size):=⟨GL1.out⟩;have GB2 : Aside0 (gb<w1.drew.heap.size):=⟨yi H0_2.out⟩;refine start_ (n:=14) (S:=fun w' => w'.cell? ⟨gb,0,none⟩=some (.slice (some ⟨g,0,none⟩) L.length c)∧w'.cell? ⟨g,pg.toNat*2+1,none⟩=some (.slice Ae l.length ke)∧w'.cell? ⟨ge,0,none⟩=some (.string key)∧w'.cell? ⟨ge,1,none⟩=some (.int .i64 id)) (ds:=[12]) (bm_ 0 14) jA rfl rfl ⟨(zz H0_2.out 0).trans rfl,HEX2.out,(zz H1_2.out 0).trans rfl,(zz H1_2.out 1).trans rfl⟩ (fun hHeld=>?_);generalize w1.drew=w2 at HB2 H0_2 H1_2 HN2 HFE2 HEX2 GL2 GB2 hHeld ⊢;clear HB1 H0_1 H1_1 HN1 HFE HEX GL1 F7 HCC;refine pure_ (i:=0) (N:=some 50) (v:=?_) (a':=?_) (bm_ 1 14) rfl rfl jA (fun _ _ _ h=>h) (Or.inl ⟨by rfl,?_⟩) ?_ ?_;rotate_left;exact jb;rotate_left;exact jc
  refine pure_ (i:=1) (N:=some 51) (v:=?_) (a':=?_) (bm_ 2 14) rfl rfl jA (fun _ _ _ h=>h) (Or.inl ⟨by rfl,?_⟩) ?_ ?_;rotate_left;exact jb;rotate_left;exact jc
  refine pure_ (i:=2) (N:=some 52) (v:=?_) (a':=?_) (bm_ 3 14) rfl rfl jA (fun _ _ _ h=>h) (Or.inl ⟨by rfl,?_⟩) ?_ ?_;rotate_left;exact jb;rotate_left;exact jc
  refine pure_ (i:=4) (N:=some 54) (v:=?_) (a':=?_) #[true,true,true,false,true,false,false,false,false,false,false,false,false,false] rfl rfl jA (fun _ _ _ h=>h) (Or.inl ⟨by rfl,?_⟩) ?_ ?_;rotate_left;exact jb;rotate_left;exact jc
  refine pure_ (i:=9) (N:=some 59) (v:=?_) (a':=?_) #[true,true,true,false,true,false,false,false,false,true,false,false,false,false] rfl rfl jA (fun _ _ _ h=>h) (Or.inl ⟨by rfl,?_⟩) ?_ ?_;rotate_left;exact jb;rotate_left;exact jc
  refine take_ (i:=3) (N:=some 53) (v:=?_) (a':=?_) #[true,true,true,true,true,false,false,false,false,true,false,false,false,false] rfl rfl jA (fun _ _ _ h=>h) (Or.inl ⟨by rfl,?_⟩) hHeld ?_ ?_;rotate_left
  ·
   rintro w' ⟨s0,s1,s2,s3⟩
   go_simp
   with_reducible rfl
  rotate_left
  exact jc
  refine pure_ (i:=5) (N:=some 55) (v:=?_) (a':=?_) #[true,true,true,true,true,true,false,false,false,true,false,false,false,false] rfl rfl jA (fun _ _ _ h=>h) (Or.inl ⟨by rfl,?_⟩) ?_ ?_;rotate_left;exact jb;rotate_left;exact jc
  refine pure_ (i:=6) (N:=some 56) (v:=?_) (a':=?_) #[true,true,true,true,true,true,true,false,false,true,false,false,false,false] rfl rfl jA (fun _ _ _ h=>h) (Or.inl ⟨by rfl,?_⟩) ?_ ?_;rotate_left;exact jb;rotate_left;exact jc
  refine take_ (i:=7) (N:=some 57) (v:=?_) (a':=?_) #[true,true,true,true,true,true,true,true,false,true,false,false,false,false] rfl rfl jA (fun _ _ _ h=>h) (Or.inl ⟨by rfl,?_⟩) hHeld ?_ ?_;rotate_left
  ·
   rintro w' ⟨s0,s1,s2,s3⟩
   go_simp
   with_reducible rfl
  rotate_left
  exact jc
  refine take_ (i:=10) (N:=some 60) (v:=?_) (a':=?_) #[true,true,true,true,true,true,true,true,false,true,true,false,false,false] rfl rfl jA (fun _ _ _ h=>h) (Or.inl ⟨by rfl,?_⟩) hHeld ?_ ?_;rotate_left
  ·
   rintro w' ⟨s0,s1,s2,s3⟩
   go_simp
   with_reducible rfl
  rotate_left
  exact jc
  refine join_ (σ:=Value×Nat) 2 (bm_ 12 14) (fun s => [(58,s.1),(61,.slice (some ⟨s.2,0,none⟩) 1 1)]) (fun s w' => Kd.R k51 51 w' w2.heap.size (fun _=>True) s.1 l∧w'.heap[s.2]? = some (.cells #[.string key,.int .i64 id] 51 (0,0))∧some s.2≠s.1.ownBlock∧Below w2.heap.size w2 w') ?_ ?_;rotate_left
  ·
   intro hCont
   refine two_ (i:=8) (j:=11) (Ni:=some 58) (Nj:=some 61) (bm_ 11 14) #[true,true,true,true,true,true,true,true,false,true,true,true,false,false] rfl rfl rfl rfl jA jB jB (fun K hK=>?_) (fun K hK=>?_)
   ·
    skip
    refine goes_ Try.func61 jA rfl #[.slice Ae l.length ke] (by rfl) rfl rfl jI ?_
    with_reducible refine (Fu.cl Ae ke l.length l _ rfl (Kd.F_now (Kd.F_below HFE2.out (Below.refl w2.heap.size w2))) HLE.out jAF).mono ?_
    rintro e wa ⟨va,rfl,hRa,hba_⟩;refine ⟨_,rfl,?_⟩;have hb8:=zC (Below.refl w2.heap.size w2) hba_;refine hK.out _ _ ⟨(zz (zD H0_2.out hb8) 0).trans rfl,(Below.cell hb8 GL2.out).trans HEX2.out,(zz (zD H1_2.out hb8) 0).trans rfl,(zz (zD H1_2.out hb8) 1).trans rfl⟩ (fun hHeld=>?_);clear hK K;refine norm_ (a':=?_) ?_ ?_;rotate_left
    ·
     show Act.put _ (some 58) _=_
     simp only [Act.put,zi,zj,zk,zG,zH]
     rfl
    refine one_ (i:=11) (N:=some 61) (bm_ 12 14) rfl rfl jA jB (fun K hK=>?_);refine value_ (w1:=?_) (v:=?_) (by rfl) rfl ?_ ?_;rotate_left 2
    ·
     go_simp
     constructor
     ·
      rfl
     rfl
    refine hK.out _ _ ⟨(zz (zD H0_2.out (za hb8 _)) 0).trans rfl,(Below.cell (za hb8 _) GL2.out).trans HEX2.out,(zz (zD H1_2.out (za hb8 _)) 0).trans rfl,(zz (zD H1_2.out (za hb8 _)) 1).trans rfl⟩ (fun hHeld=>?_);clear hK K;refine norm_ (a':=?_) ?_ ?_;rotate_left
    ·
     show Act.put _ (some 61) _=_
     simp only [Act.put,zi,zj,zk,zG,zH]
     rfl
    exact norm_ jM (hCont (va,wa.heap.size) _ ⟨zm hRa _,blk_new wa _,(fun he=>Nat.lt_irrefl _ (Kd.R_lt hRa _ he.symm)),za hb8 _⟩)
   skip
   refine value_ (w1:=?_) (v:=?_) (by rfl) rfl ?_ ?_;rotate_left 2
   ·
    go_simp
    constructor
    ·
     rfl
    rfl
   refine hK.out _ _ ⟨(zz (zD H0_2.out (za (Below.refl w2.heap.size w2) _)) 0).trans rfl,(Below.cell (za (Below.refl w2.heap.size w2) _) GL2.out).trans HEX2.out,(zz (zD H1_2.out (za (Below.refl w2.heap.size w2) _)) 0).trans rfl,(zz (zD H1_2.out (za (Below.refl w2.heap.size w2) _)) 1).trans rfl⟩ (fun hHeld=>?_);clear hK K;refine norm_ (a':=?_) ?_ ?_;rotate_left
   ·
    show Act.put _ (some 61) _=_
    simp only [Act.put,zi,zj,zk,zG,zH]
    rfl
   refine one_ (i:=8) (N:=some 58) (bm_ 12 14) rfl rfl jA jB (fun K hK=>?_);refine goes_ Try.func61 jA rfl #[.slice Ae l.length ke] (by rfl) rfl rfl jI ?_
   with_reducible refine (Fu.cl Ae ke l.length l _ rfl (Kd.F_now (Kd.F_below HFE2.out (za (Below.refl w2.heap.size w2) _))) HLE.out jAF).mono ?_
   rintro e wa ⟨va,rfl,hRa,hba_⟩;refine ⟨_,rfl,?_⟩;have hb8:=zC (za (Below.refl w2.heap.size w2) _) hba_;refine hK.out _ _ ⟨(zz (zD H0_2.out hb8) 0).trans rfl,(Below.cell hb8 GL2.out).trans HEX2.out,(zz (zD H1_2.out hb8) 0).trans rfl,(zz (zD H1_2.out hb8) 1).trans rfl⟩ (fun hHeld=>?_);clear hK K;refine norm_ (a':=?_) ?_ ?_;rotate_left
   ·
    show Act.put _ (some 58) _=_
    simp only [Act.put,zi,zj,zk,zG,zH]
    rfl
   exact norm_ jM (hCont (va,w2.heap.size) _ ⟨yx hRa (za (Below.refl w2.heap.size w2) _).size,zD (blk_new w2 _) hba_,(fun he=>Nat.lt_irrefl _ (Nat.lt_of_lt_of_le (yi (blk_new w2 _)) (Kd.R_base hRa _ he.symm))),hb8⟩)
  rintro ⟨va,gl⟩ wt ⟨hRa,hlit,hne,hbt⟩;have hHeld : wt.cell? ⟨gb,0,none⟩=some (.slice (some ⟨g,0,none⟩) L.length c)∧wt.cell? ⟨g,pg.toNat*2+1,none⟩=some (.slice Ae l.length ke)∧wt.cell? ⟨ge,0,none⟩=some (.string key)∧wt.cell? ⟨ge,1,none⟩=some (.int .i64 id):=⟨(zz (zD H0_2.out hbt) 0).trans rfl,(Below.cell hbt GL2.out).trans HEX2.out,(zz (zD H1_2.out hbt) 0).trans rfl,(zz (zD H1_2.out hbt) 1).trans rfl⟩;refine norm_ (a':=?_) ?_ ?_;rotate_left
  ·
   simp only [putAll,Act.put,zi,zj,zk]
   rfl
  refine last_ (i:=12) (N:=some 62) (bm_ 13 14) rfl rfl jA jB (fun K hK=>?_);refine goes_ Try.func65 jA rfl #[va,.int .i64 (im : Int),.slice (some ⟨gl,0,none⟩) 1 1] (by rfl) rfl rfl jI ?_
  with_reducible refine (slices_Insert_entries.ins2 (fun _=>True) (fun _=>False) w2.heap.size va l (⟨key,id⟩ : S51) [.string key,.int .i64 id] gl im w2 _ HIL.out hRa hlit hne (k51_mkM _ _ _ (⟨key,id⟩ : S51)) (fun x cs h9=>Fu.K_M x cs h9) (fun _ h9=>h9.elim) (fun _ _=>trivial) hbt hbt.size jAF).mono ?_
  rintro e we ⟨ve,rfl,hRe,hbe,-,-⟩;refine ⟨_,rfl,?_⟩;rw [← HX.out] at hRe;obtain ⟨A2,c2,rfl⟩:=yk hRe;refine hK.out _ _ ?_;clear hK K;refine norm_ (a':=?_) ?_ ?_;rotate_left
  ·
   show Act.put _ (some 62) _=_
   simp only [Act.put,zi,zj,zk,zG,zH]
   rfl
  refine pure_ (i:=13) (N:=some 10) (v:=?_) (a':=?_) (bm_ 14 14) rfl rfl jA (fun _ _ _ h=>h) (Or.inl ⟨by rfl,?_⟩) ?_ ?_;rotate_left;exact jb;rotate_left;exact jc
  refine done_ jA ?_;have HB3:=zh (zC HB2.out hbe);have H0_3:=zh (zD H0_2.out hbe);have HN3:=zh (Kd.N_below HN2.out hbe);have HFX : Aside0 (Kd.F k51 we (fun k_=>w2.heap.size≤k_) A2 X.length X):=⟨Kd.F_mono (Kd.R_F (Kd.R_bound hRe)) (fun _ hk=>hk.2.1)⟩;have HXC:=zh (yh hRe).2.1;have L23 : Aside0 (w2.heap.size≤we.heap.size):=⟨hbe.size⟩;have GBW : Aside0 (w0.heap.size≤gb):=⟨hg⟩;clear hRa hlit hne hbt hRe hbe HB2 H0_2 H1_2 HN2 HFE2 HEX2 e1 e1n e2 e2n e3;have k0:=zz H0_3.out 0;have k1:=zz H0_3.out 1;have f1:=zA H0_3.out 1;have hw18:=HNW.out;have HB4 : Aside0 (Below w0.heap.size w0 (we.setCell ⟨gb,1,none⟩ (.int .i64 (nx+1)))):=⟨zd HB3.out GBW.out⟩;have H0_4 : Aside0 ((we.setCell ⟨gb,1,none⟩ (.int .i64 (nx+1))).heap[gb]? = some (.cells #[.slice (some ⟨g,0,none⟩) L.length c,.int .i64 (nx+1)] 35 (0,0))):=⟨blk_set H0_3.out 1 _⟩;have HN4 : Aside0 (Kd.N k67 67 (we.setCell ⟨gb,1,none⟩ (.int .i64 (nx+1))) w0.heap.size (fun k_=>w0.heap.size≤k_∧k_≠gb) (.slice (some ⟨g,0,none⟩) L.length c) L):=⟨Kd.N_far (p:=⟨gb,1,none⟩) HN3.out (fun _ hk=>hk.2) _⟩;have HFX4 : Aside0 (Kd.F k51 (we.setCell ⟨gb,1,none⟩ (.int .i64 (nx+1))) (fun k_=>w2.heap.size≤k_) A2 X.length X):=⟨Kd.F_far (p:=⟨gb,1,none⟩) HFX.out (fun k_ hk e9=>by rw [e9] at hk;exact Nat.lt_irrefl _ (Nat.lt_of_lt_of_le GB2.out hk)) _⟩;have L24 : Aside0 (w2.heap.size≤(we.setCell ⟨gb,1,none⟩ (.int .i64 (nx+1))).heap.size):=⟨by simp;exact L23.out⟩
  go_upto_region 13 with (fail)
  clear k0 k1 f1 hw18 HB3 H0_3 HN3 HFX L23;generalize (we.setCell ⟨gb,1,none⟩ (.int .i64 (nx+1)))=w4 at *;have hi4 : (0 : Int)≤(2 : Int):=by decide
  have hi5 : (2 : Int)≤(X.length : Int):=by have:=X5.out;omega
  obtain ⟨i0_,hi0_,_,hsz_,_⟩:=info_parts info51;have hcut1:=cut_to (P:=Try.prog) 29 51 .i64 Try.underlying29 hi0_ A2 X.length c2 (2 : Int) hi4 hi5 HXC.out;have hcut2:=cut_from (P:=Try.prog) 29 51 .i64 Try.underlying29 hi0_ 2 hsz_ A2 X.length c2 (2 : Int) hi4 hi5;rw [show (2 : Int).toNat=2 from rfl] at hcut1 hcut2;obtain ⟨A3,hA3⟩ : ∃ A3,A3=(if c2=2 then A2 else A2.map (·.add (2*2))):=⟨_,rfl⟩;rw [← hA3] at hcut2;have HA3:=zh hA3;obtain ⟨X1,hX1⟩ : ∃ X1 : List S51,X1=X.take 2:=⟨_,rfl⟩;obtain ⟨X2,hX2⟩ : ∃ X2 : List S51,X2=X.drop 2:=⟨_,rfl⟩;have x2X : 2≤X.length:=by have:=X5.out;omega
  have X1L : Aside0 (2=X1.length):=⟨by rw [hX1,zx];omega⟩;have X2L : Aside0 (X.length - 2=X2.length):=⟨by rw [hX2,zw]⟩;have X2C : Aside0 (X.length - 2≤c2 - 2):=⟨by have:=HXC.out;omega⟩;have hC1:=Kd.F_imp HFX4.out (fun _ hC=>Kd.C_take (m:=2) hC x2X);have hC2:=Kd.F_imp HFX4.out (fun _ hC=>Kd.C_drop (c:=c2) (m:=2) hC x2X HXC.out);rw [← hX1] at hC1;rw [← hX2] at hC2;have HC1:=zh (Kd.F_drew hC1);have HC2 : Aside0 (Kd.F k51 w4.drew (fun k_=>w2.heap.size≤k_) A3 X2.length X2):=⟨Kd.F_drew (by rw [hA3];exact hC2)⟩;have C22 : Aside0 (2≤c2):=⟨Nat.le_trans x2X HXC.out⟩;have HB5:=zh (zc HB4.out);have H0_5:=zh (zf H0_4.out);have HN5:=zh (Kd.N_drew HN4.out);have L25 : Aside0 (w2.heap.size≤w4.drew.heap.size):=⟨L24.out⟩;have HX1:=zh hX1;have HX2:=zh hX2;clear hC1 hC2 hA3 hi0_ hsz_ hX1 hX2 x2X;refine start_ (n:=11) (S:=fun w' => w'.cell? ⟨gb,0,none⟩=some (.slice (some ⟨g,0,none⟩) L.length c)) (ds:=[10]) (bm_ 0 11) jA rfl rfl ((zz H0_5.out 0).trans rfl) (fun hHeld=>?_);generalize w4.drew=w5 at HB5 H0_5 HN5 HC1 HC2 L25 hHeld ⊢;clear HB4 H0_4 HN4 HFX4 L24;refine pure_ (i:=0) (N:=some 84) (v:=?_) (a':=?_) (bm_ 1 11) rfl rfl jA (fun _ _ _ h=>h) (Or.inl ⟨by rfl,?_⟩) ?_ ?_;rotate_left;exact jb;rotate_left;exact jc
  refine pure_ (i:=1) (N:=some 85) (v:=?_) (a':=?_) (bm_ 2 11) rfl rfl jA (fun _ _ _ h=>h) (Or.inl ⟨by rfl,?_⟩) ?_ ?_;rotate_left;exact jb;rotate_left;exact jc
  refine pure_ (i:=2) (N:=some 86) (v:=?_) (a':=?_) (bm_ 3 11) rfl rfl jA (fun _ _ _ h=>h) (Or.inl ⟨by rfl,?_⟩) ?_ ?_;rotate_left;exact jb;rotate_left;exact jc
  refine pure_ (i:=4) (N:=some 88) (v:=?_) (a':=?_) #[true,true,true,false,true,false,false,false,false,false,false] rfl rfl jA (fun _ _ _ h=>h) (Or.inl ⟨by rfl,?_⟩) ?_ ?_;rotate_left;exact jb;rotate_left;exact jc
  refine pure_ (i:=5) (N:=some 89) (v:=?_) (a':=?_) #[true,true,true,false,true,true,false,false,false,false,false] rfl rfl jA (fun _ _ _ h=>h) (Or.inl ⟨by rfl,?_⟩) ?_ ?_;rotate_left;exact jb;rotate_left;exact jc
  refine pure_ (i:=6) (N:=some 90) (v:=?_) (a':=?_) #[true,true,true,false,true,true,true,false,false,false,false] rfl rfl jA (fun _ _ _ h=>h) (Or.inl ⟨by rfl,?_⟩) ?_ ?_;rotate_left;exact jb;rotate_left;exact jc
  refine take_ (i:=3) (N:=some 87) (v:=?_) (a':=?_) (bm_ 7 11) rfl rfl jA (fun _ _ _ h=>h) (Or.inl ⟨by rfl,?_⟩) hHeld ?_ ?_;rotate_left
  ·
   intro w' s0
   go_simp
   with_reducible rfl
  rotate_left
  exact jc
  refine one_ (i:=7) (N:=some 91) (bm_ 8 11) rfl rfl jA jB (fun K hK=>?_);refine goes_ Try.func61 jA rfl #[.slice A2 2 c2] (by rfl) rfl rfl jI ?_
  with_reducible refine (Fu.cl A2 c2 2 X1 _ X1L.out (Kd.F_now HC1.out) (by have:=C22.out;have:=X1L.out;omega) (by have:=X1L.out;omega)).mono ?_
  rintro e wb ⟨vb,rfl,hRb,hbb⟩;refine ⟨_,rfl,?_⟩;obtain ⟨Am,cm,rfl⟩:=yk hRb;obtain ⟨ce,hcl_,hFK_,hcc_,hfr_⟩:=Kd.N_elem (Kd.N_below HN5.out hbb) z67 pg hp0 HP1.out;obtain ⟨A9,c9,rfl,-,-⟩:=k67_openF hFK_;have q9 : wb.cell? ⟨g,pg.toNat*2+1,none⟩=some (.slice A9 (rd_T67 L pg).f1.length c9):=hcc_ 1 _ rfl;have f9 : wb.frozen? ⟨g,pg.toNat*2+1,none⟩=false:=hfr_ 1;refine hK.out _ _ ((zz (zD H0_5.out hbb) 0).trans rfl) (fun hHeld=>?_);clear hK K;refine norm_ (a':=?_) ?_ ?_;rotate_left
  ·
   show Act.put _ (some 91) _=_
   simp only [Act.put,zi,zj,zk,zG,zH]
   rfl
  refine pure_ (i:=8) (N:=some 92) (v:=?_) (a':=?_) (bm_ 9 11) rfl rfl jA (fun _ _ _ h=>h) (Or.inl ⟨by rfl,?_⟩) ?_ ?_;rotate_left;exact jb;rotate_left;exact jc
  refine pure_ (i:=9) (N:=some 93) (v:=?_) (a':=?_) (bm_ 10 11) rfl rfl jA (fun _ _ _ h=>h) (Or.inl ⟨by rfl,?_⟩) ?_ ?_;rotate_left;exact jb;rotate_left;exact jc
  refine last_ (i:=10) (N:=none) (bm_ 11 11) rfl rfl jA jB (fun K hK=>?_);refine skip_ (w1:=?_) (by rfl) rfl ?_ ?_;rotate_left
  ·
   go_simp
   rfl
  refine hK.out _ _ ?_;clear hK K;refine done_ jA ?_
  obtain ⟨hN6,-⟩ : Kd.N k67 67 (wb.setCell ⟨g,pg.toNat*2+1,none⟩ (.slice Am X1.length cm)) w0.heap.size (fun k_=>w0.heap.size≤k_∧k_≠gb) (.slice (some ⟨g,0,none⟩) L.length c) (L.set pg.toNat (⟨(rd_T67 L pg).f0,X1⟩ : S67))∧wb.grownBy (wb.setCell ⟨g,pg.toNat*2+1,none⟩ (.slice Am X1.length cm)) (some g) :=
   Kd.N_seg (Kd.N_below HN5.out hbb) pg hp0 HP1.out (c:=[.int .i64 (rd_T67 L pg).f0,.slice A9 (rd_T67 L pg).f1.length c9]) (seg:=[.slice Am X1.length cm]) (j:=1) rfl hcc_ (show 1+1≤2 from by decide) (x':=(⟨(rd_T67 L pg).f0,X1⟩ : S67)) (okp:=fun k_=>w5.heap.size≤k_) (k67_mkF wb _ (⟨(rd_T67 L pg).f0,X1⟩ : S67) (yh hRb).2.1 (Kd.F_mono (Kd.R_F (Kd.R_bound hRb)) (fun _ hk=>hk.2.1))) (fun k_ hk=>⟨⟨Nat.le_trans GW.out (Nat.le_trans (Nat.le_of_lt GL2.out) (Nat.le_trans L25.out hk)),fun e9=>by rw [e9] at hk;exact Nat.lt_irrefl _ (Nat.lt_of_lt_of_le GB2.out (Nat.le_trans L25.out hk))⟩,fun e9=>by rw [e9] at hk;exact Nat.lt_irrefl _ (Nat.lt_of_lt_of_le GL2.out (Nat.le_trans L25.out hk))⟩)
  rw [← HQ.out] at hN6;have HN6:=zh hN6;have HC6 : Aside0 (Kd.F k51 (wb.setCell ⟨g,pg.toNat*2+1,none⟩ (.slice Am X1.length cm)) (fun k_=>w2.heap.size≤k_) A3 X2.length X2):=⟨Kd.F_far (p:=⟨g,_,none⟩) (Kd.F_below HC2.out hbb) (fun k_ hk e9=>by rw [e9] at hk;exact Nat.lt_irrefl _ (Nat.lt_of_lt_of_le GL2.out hk)) _⟩;have HB6 : Aside0 (Below w0.heap.size w0 (wb.setCell ⟨g,pg.toNat*2+1,none⟩ (.slice Am X1.length cm))):=⟨zd (zC HB5.out hbb) GW.out⟩;have H0_6 : Aside0 ((wb.setCell ⟨g,pg.toNat*2+1,none⟩ (.slice Am X1.length cm)).heap[gb]? = some (.cells #[.slice (some ⟨g,0,none⟩) L.length c,.int .i64 (nx+1)] 35 (0,0))):=⟨(Below.heap_setCell _ ⟨g,_,none⟩ _ gb GBG.out).trans (zD H0_5.out hbb)⟩;have L26 : Aside0 (w2.heap.size≤(wb.setCell ⟨g,pg.toNat*2+1,none⟩ (.slice Am X1.length cm)).heap.size):=⟨by simp;exact Nat.le_trans L25.out hbb.size⟩;clear hN6 hRb hbb hcl_ hFK_ hcc_ hfr_ q9 f9 HB5 H0_5 HN5 HC1 HC2 L25 hcut1;generalize (wb.setCell ⟨g,pg.toNat*2+1,none⟩ (.slice Am X1.length cm))=w6 at *
  go_wp2_with fail
  have HB7:=zh (zc HB6.out);have H0_7:=zh (zf H0_6.out);have HN7:=zh (Kd.N_drew HN6.out);have HC7:=zh (Kd.F_drew HC6.out);have L27 : Aside0 (w2.heap.size≤w6.drew.heap.size):=⟨L26.out⟩;obtain ⟨j,hj⟩ : ∃ j : Nat,j=pg.toNat:=⟨_,rfl⟩;have hjp : pg=(j : Int):=by rw [hj];exact (Int.toNat_of_nonneg hp0).symm
  have hjL : j<L.length:=by have:=HP1.out;omega
  have hjw : IntKind.i64.wrap (pg+1)=((j+1 : Nat) : Int):=by rw [hjp,IntKind.wrap_i64];have:=HLm.out;omega
  obtain ⟨j2,hj2⟩ : ∃ j2 : Nat,j2=j+1:=⟨_,rfl⟩;rw [← hj2] at hjw;obtain ⟨Y,hY⟩ : ∃ Y : List S67,Y=L.set pg.toNat (⟨q,X1⟩ : S67):=⟨_,rfl⟩;have hYl : Y.length=L.length:=by rw [hY,List.length_set]
  have hjY : j2≤Y.length:=by rw [hj2,hYl];exact hjL
  rw [← hY] at HN7;have HJY:=zh hjY;have HYL:=zh hYl
  have HEND : Aside0 (Y.take j2 ++ [(⟨nx,X2⟩ : S67)]++Y.drop j2=L'):=⟨by
   have h9:=HL1.out;rw [← HX.out,← HX1.out,← HX2.out,← hY,← hj,← hj2] at h9
   exact h9⟩
  clear hY hYl hjY hjL hjp hj hj2;refine start_ (n:=17) (S:=fun w' => w'.cell? ⟨gb,0,none⟩=some (.slice (some ⟨g,0,none⟩) L.length c)) (ds:=[16]) (bm_ 0 17) jA rfl rfl ((zz H0_7.out 0).trans rfl) (fun hHeld=>?_);generalize w6.drew=w7 at HB7 H0_7 HN7 HC7 L27 hHeld ⊢;clear HB6 H0_6 HN6 HC6 L26;refine pure_ (i:=0) (N:=some 94) (v:=?_) (a':=?_) (bm_ 1 17) rfl rfl jA (fun _ _ _ h=>h) (Or.inl ⟨by rfl,?_⟩) ?_ ?_;rotate_left;exact jb;rotate_left;exact jc
  refine pure_ (i:=1) (N:=some 95) (v:=?_) (a':=?_) (bm_ 2 17) rfl rfl jA (fun _ _ _ h=>h) (Or.inl ⟨by rfl,?_⟩) ?_ ?_;rotate_left;exact jb;rotate_left;exact jc
  refine pure_ (i:=2) (N:=some 96) (v:=?_) (a':=?_) (bm_ 3 17) rfl rfl jA (fun _ _ _ h=>h) (Or.inl ⟨by rfl,?_⟩) ?_ ?_;rotate_left;exact jb;rotate_left;exact jc
  refine pure_ (i:=3) (N:=some 97) (v:=?_) (a':=?_) (bm_ 4 17) rfl rfl jA (fun _ _ _ h=>h) (Or.inl ⟨by rfl,?_⟩) ?_ ?_;rotate_left;exact jb;rotate_left;exact jc
  refine pure_ (i:=5) (N:=some 99) (v:=?_) (a':=?_) #[true,true,true,true,false,true,false,false,false,false,false,false,false,false,false,false,false] rfl rfl jA (fun _ _ _ h=>h) (Or.inl ⟨by rfl,?_⟩) ?_ ?_;rotate_left;exact jb;rotate_left;exact jc
  refine pure_ (i:=6) (N:=some 100) (v:=?_) (a':=?_) #[true,true,true,true,false,true,true,false,false,false,false,false,false,false,false,false,false] rfl rfl jA (fun _ _ _ h=>h) (Or.inl ⟨by rfl,?_⟩) ?_ ?_;rotate_left;exact jb;rotate_left;exact jc
  refine pure_ (i:=7) (N:=some 101) (v:=?_) (a':=?_) #[true,true,true,true,false,true,true,true,false,false,false,false,false,false,false,false,false] rfl rfl jA (fun _ _ _ h=>h) (Or.inl ⟨by rfl,?_⟩) ?_ ?_;rotate_left;exact jb;rotate_left;exact jc
  refine pure_ (i:=8) (N:=some 102) (v:=?_) (a':=?_) #[true,true,true,true,false,true,true,true,true,false,false,false,false,false,false,false,false] rfl rfl jA (fun _ _ _ h=>h) (Or.inl ⟨by rfl,?_⟩) ?_ ?_;rotate_left;exact jb;rotate_left;exact jc
  refine pure_ (i:=9) (N:=some 103) (v:=?_) (a':=?_) #[true,true,true,true,false,true,true,true,true,true,false,false,false,false,false,false,false] rfl rfl jA (fun _ _ _ h=>h) (Or.inl ⟨by rfl,?_⟩) ?_ ?_;rotate_left;exact jb;rotate_left;exact jc
  refine take_ (i:=4) (N:=some 98) (v:=?_) (a':=?_) (bm_ 10 17) rfl rfl jA (fun _ _ _ h=>h) (Or.inl ⟨by rfl,?_⟩) hHeld ?_ ?_;rotate_left
  ·
   intro w' s0
   go_simp
   with_reducible rfl
  rotate_left
  exact jc
  refine one_ (i:=10) (N:=some 104) (bm_ 11 17) rfl rfl jA jB (fun K hK=>?_);refine goes_ Try.func61 jA rfl #[.slice A3 (X.length - 2) (c2 - 2)] (by rfl) rfl rfl jI ?_
  with_reducible refine (Fu.cl A3 (c2 - 2) (X.length - 2) X2 _ X2L.out (Kd.F_now HC7.out) (by have:=X2L.out;have:=X2C.out;omega) (by have:=X2L.out;have:=X5.out;omega)).mono ?_
  rintro e wb ⟨vb,rfl,hRb,hbb⟩;refine ⟨_,rfl,?_⟩;obtain ⟨Aq,cq,rfl⟩:=yk hRb;refine hK.out _ _ ((zz (zD H0_7.out hbb) 0).trans rfl) (fun hHeld=>?_);clear hK K;refine norm_ (a':=?_) ?_ ?_;rotate_left
  ·
   show Act.put _ (some 104) _=_
   simp only [Act.put,zi,zj,zk,zG,zH]
   rfl
  refine pure_ (i:=11) (N:=some 105) (v:=?_) (a':=?_) (bm_ 12 17) rfl rfl jA (fun _ _ _ h=>h) (Or.inl ⟨by rfl,?_⟩) ?_ ?_;rotate_left;exact jb;rotate_left;exact jc
  refine one_ (i:=12) (N:=some 106) (bm_ 13 17) rfl rfl jA jB (fun K hK=>?_);refine value_ (w1:=?_) (v:=?_) (by rfl) rfl ?_ ?_;rotate_left 2
  ·
   go_simp
   constructor
   ·
    rfl
   rfl
  refine hK.out _ _ ((zz (zD H0_7.out (za hbb _)) 0).trans rfl) (fun hHeld=>?_);clear hK K;refine norm_ (a':=?_) ?_ ?_;rotate_left
  ·
   show Act.put _ (some 106) _=_
   simp only [Act.put,zi,zj,zk,zG,zH]
   rfl
  refine one_ (i:=13) (N:=some 107) (bm_ 14 17) rfl rfl jA jB (fun K hK=>?_);refine goes_ Try.func66 jA rfl #[.slice (some ⟨g,0,none⟩) L.length c,.int .i64 (j2 : Int),.slice (some ⟨wb.heap.size,0,none⟩) 1 1] (by rfl) rfl rfl jI ?_
  with_reducible refine (slices_Insert_pages.insN (fun k_=>w0.heap.size≤k_∧k_≠gb) (fun k_=>w7.heap.size≤k_∧k_<wb.heap.size) w0.heap.size (.slice (some ⟨g,0,none⟩) L.length c) Y (⟨nx,X2⟩ : S67) [.int .i64 nx,.slice Aq X2.length cq] wb.heap.size j2 w0 _ HJY.out (Kd.N_below HN7.out (za hbb _)) (blk_new wb _) (fun e9=>by simp [Value.ownBlock] at e9;have h9:=GL2.out;have h8:=Nat.le_trans L27.out hbb.size;omega) (k67_mkF _ _ (⟨nx,X2⟩ : S67) (yh hRb).2.1 (Kd.F_below (Kd.F_mono (Kd.R_F (Kd.R_bound hRb)) (fun _ hk=>⟨hk.2.1,hk.2.2.1⟩)) (za (Below.refl _ _) _))) (fun q9 hk=>⟨⟨Nat.le_trans GW.out (Nat.le_trans (Nat.le_of_lt GL2.out) (Nat.le_trans L27.out hk.1)),fun e9=>by have h9:=hk.1;rw [e9] at h9;exact absurd (Nat.lt_of_lt_of_le GB2.out (Nat.le_trans L27.out h9)) (Nat.lt_irrefl _)⟩,fun e9=>by simp [Value.ownBlock] at e9;have h9:=hk.1;rw [e9] at h9;exact absurd (Nat.lt_of_lt_of_le GL2.out (Nat.le_trans L27.out h9)) (Nat.lt_irrefl _)⟩) (fun q9 hk=>⟨Nat.le_trans (Nat.le_trans (Nat.le_trans GW.out (Nat.le_of_lt GL2.out)) (Nat.le_trans L27.out hbb.size)) (Nat.le_trans (za (Below.refl _ _) _).size hk),fun e9=>by rw [e9] at hk;exact absurd (Nat.lt_of_lt_of_le GB2.out (Nat.le_trans (Nat.le_trans L27.out hbb.size) (Nat.le_trans (za (Below.refl _ _) _).size hk))) (Nat.lt_irrefl _)⟩) (zC HB7.out (za hbb _)) (zC HB7.out (za hbb _)).size (by have:=HYL.out;have:=HLm.out;omega)).mono ?_
  rintro e wd ⟨vd,rfl,hNd,hBd,hgd⟩;refine ⟨_,rfl,?_⟩;rw [HEND.out] at hNd;obtain ⟨A9,c9,rfl⟩:=Kd.N_slice hNd;have hbd : wd.heap[gb]? = some (.cells #[.slice (some ⟨g,0,none⟩) L.length c,.int .i64 (nx+1)] 35 (0,0)):=(hgd.block gb (yi (zg (zD H0_7.out hbb) _)) (fun e9=>by simp [Value.ownBlock] at e9;exact GBG.out e9)).trans (zg (zD H0_7.out hbb) _);have q9:=(zz hbd 0).trans (show _=some (.slice (some ⟨g,0,none⟩) L.length c) from rfl);have f9:=zA hbd 0;refine hK.out _ _ ((zz hbd 0).trans rfl) (fun hHeld=>?_);clear hK K;refine norm_ (a':=?_) ?_ ?_;rotate_left
  ·
   show Act.put _ (some 107) _=_
   simp only [Act.put,zi,zj,zk,zG,zH]
   rfl
  refine pure_ (i:=14) (N:=some 108) (v:=?_) (a':=?_) (bm_ 15 17) rfl rfl jA (fun _ _ _ h=>h) (Or.inl ⟨by rfl,?_⟩) ?_ ?_;rotate_left;exact jb;rotate_left;exact jc
  refine pure_ (i:=15) (N:=some 109) (v:=?_) (a':=?_) (bm_ 16 17) rfl rfl jA (fun _ _ _ h=>h) (Or.inl ⟨by rfl,?_⟩) ?_ ?_;rotate_left;exact jb;rotate_left;exact jc
  refine last_ (i:=16) (N:=none) (bm_ 17 17) rfl rfl jA jB (fun K hK=>?_);refine skip_ (w1:=?_) (by rfl) rfl ?_ ?_;rotate_left
  ·
   go_simp
   rfl
  refine hK.out _ _ ?_;clear hK K;refine done_ jA ?_;have HN8 : Aside0 (Kd.N k67 67 (wd.setCell ⟨gb,0,none⟩ (.slice A9 L'.length c9)) w0.heap.size (fun k_=>w0.heap.size≤k_∧k_≠gb) (.slice A9 L'.length c9) L'):=⟨Kd.N_far (p:=⟨gb,0,none⟩) hNd (fun _ hk=>hk.2) _⟩;have HB8 : Aside0 (Below w0.heap.size w0 (wd.setCell ⟨gb,0,none⟩ (.slice A9 L'.length c9))):=⟨zd hBd GBW.out⟩;have H0_8 : Aside0 ((wd.setCell ⟨gb,0,none⟩ (.slice A9 L'.length c9)).heap[gb]? = some (.cells #[.slice A9 L'.length c9,.int .i64 (nx+1)] 35 (0,0))):=⟨blk_set hbd 0 _⟩;clear hNd hBd hgd hbd q9 f9 hcut2
  go_wp2_with fail
  go_ret2
  first|exact ⟨rfl,_,H0_8.out,HN8.out,HB8.out⟩|exact ⟨_,rfl,H0_8.out,HN8.out,HB8.out⟩

def F07.f (k : Nat) (l0_0 : List (S67)) (a0_1 : Int) (a1_0 : ByteArray) (a1_1 : Int) : Option ((List (S67))×Int×Int×Int):=(F1.f k l0_0 a0_1).bind fun t=>(if t=true then ((F0f.f a1_0 a1_1).bind fun u=>(if u=true then ((Fa.f k l0_0 a0_1).bind fun c=>((Fu.f k c.1 c.2 a1_0 a1_1).bind fun d=>((Fa.f k d.2.2.1 d.2.2.2).bind fun z=>some (z.1,z.2,d.1,d.2.1)))) else (some (([] : List S67),0,0,1)))) else (some (([] : List S67),0,0,1)))
theorem F07.mono : ∀ a0 a1 a2 a3 k,LeO (F07.f k a0 a1 a2 a3) (F07.f (k+1) a0 a1 a2 a3):=by
 intro a0 a1 a2 a3 k;unfold F07.f;refine zO (F1.mono _ _ _) (fun _=>zP (zO (zQ _) (fun _=>zP (zO (Fa.mono _ _ _) (fun _=>zO (Fu.mono _ _ _ _ _) (fun _=>zO (Fa.mono _ _ _) (fun _=>zQ _)))) (zQ _))) (zQ _))
theorem F07.three (w : World) (o0 o1 o2 : Obj) : (((w.alloc o0).alloc o1).alloc o2).heap[w.heap.size]? = some o0∧(((w.alloc o0).alloc o1).alloc o2).heap[w.heap.size+1]? = some o1∧(((w.alloc o0).alloc o1).alloc o2).heap[w.heap.size+1+1]? = some o2∧Below w.heap.size w (((w.alloc o0).alloc o1).alloc o2):=by
 refine ⟨zg (zg (blk_new w _) _) _,zg ?_ _,?_,za (za (za (Below.refl _ _) _) _) _⟩
 ·
  have:=blk_new (w.alloc o0) o1
  simpa using this
 have:=blk_new ((w.alloc o0).alloc o1) o2
 simpa using this
set_option maxHeartbeats 8000000 in
set_option maxRecDepth 100000 in
theorem F07.calls (k : Nat) (A0_0 : Option Addr) (c0_0 : Nat) (l0_0 : List (S67)) (a0_1 : Int) (a1_0 : ByteArray) (a1_1 : Int) (r1 : List (S67)) (r2 : Int) (r3 : Int) (r4 : Int) (w : World) (hr0_0 : Kd.C k67 w A0_0 l0_0.length l0_0) (hc0_0 : l0_0.length≤c0_0) (h : F07.f k l0_0 a0_1 a1_0 a1_1=some (r1,r2,r3,r4)) :
  Calls Try.prog 26 #[.agg #[.slice A0_0 l0_0.length c0_0,.int .i64 a0_1],.agg #[.string a1_0,.int .i64 a1_1]] w fun e w' => ∃ v0_ : Value,e = .returned (.tuple #[.agg #[v0_,.int .i64 r2],.int .i64 r3,.int .i64 r4])∧Kd.S k67 67 w' w.heap.size (fun _=>True) v0_ r1∧Below w.heap.size w w':=by
 have hu35:=Try.underlying35;have hu51:=Try.underlying51;unfold F07.f at h;obtain ⟨t,hT,h⟩:=zT.mp h;obtain ⟨V,hV⟩ : ∃ V,V=((w.alloc (.cells #[.slice A0_0 l0_0.length c0_0,.int .i64 a0_1] 35)).alloc (.cells #[.string a1_0,.int .i64 a1_1] 51)).alloc (.cells #[.slice none 0 0,.int .i64 0] 35):=⟨_,rfl⟩;obtain ⟨h0,h1,h2,hBV⟩:=F07.three w (.cells #[.slice A0_0 l0_0.length c0_0,.int .i64 a0_1] 35) (.cells #[.string a1_0,.int .i64 a1_1] 51) (.cells #[.slice none 0 0,.int .i64 0] 35);rw [← hV] at h0 h1 h2 hBV;obtain ⟨g0,hg0⟩ : ∃ g,g=w.heap.size:=⟨_,rfl⟩;rw [← hg0] at h0 h1 h2;obtain ⟨g1,hg1⟩ : ∃ g,g=g0+1:=⟨_,rfl⟩;rw [← hg1] at h1 h2;obtain ⟨g2,hg2⟩ : ∃ g,g=g1+1:=⟨_,rfl⟩;rw [← hg2] at h2;have hbase : w.heap.size≤g2:=by rw [hg2,hg1,hg0,Nat.add_assoc];exact Nat.le_add_right _ _
 have H0 : Aside0 (V.heap[g0]? = some (.cells #[.slice A0_0 l0_0.length c0_0,.int .i64 a0_1] 35 (0,0))):=⟨h0⟩;have H1 : Aside0 (V.heap[g1]? = some (.cells #[.string a1_0,.int .i64 a1_1] 51 (0,0))):=⟨h1⟩;have H2 : Aside0 (V.heap[g2]? = some (.cells #[.slice none 0 0,.int .i64 0] 35 (0,0))):=⟨h2⟩;have HB:=zh hBV;have HC:=zh (Kd.C_below hr0_0 hBV);clear h0 h1 h2 hBV hr0_0
 have hcells : ∀ W1,Below V.heap.size V W1→(W1.cell? ⟨g0,0,none⟩=some (.slice A0_0 l0_0.length c0_0)∧W1.cell? ⟨g0,1,none⟩=some (.int .i64 a0_1)∧W1.cell? ⟨g1,0,none⟩=some (.string a1_0)∧W1.cell? ⟨g1,1,none⟩=some (.int .i64 a1_1)) :=
  fun W1 hb=>⟨(zz (zD H0.out hb) 0).trans rfl,(zz (zD H0.out hb) 1).trans rfl,(zz (zD H1.out hb) 0).trans rfl,(zz (zD H1.out hb) 1).trans rfl⟩
 obtain ⟨k0,k1,-,-⟩:=hcells V (Below.refl _ _);have HCE:=zh hcells;clear hcells
 -- an early answer
 have early : ∀ W1,Below V.heap.size V W1→W1.heap[g2]? = some (.cells #[.slice none 0 0,.int .i64 0] 35 (0,0))∧Below w.heap.size w W1:=fun W1 hb=>⟨zD H2.out hb,zC HB.out hb⟩;have HEA:=zh early;clear early
 go_enter Try.func26,Try.ntmps26
 go_wp2_with fail
 rw [← hV];simp only [← hg0];simp only [← hg1];simp only [← hg2];clear hV hg0 hg1 hg2
 go_at_call 31
 refine (F1.calls k A0_0 c0_0 l0_0 a0_1 t V HC.out hc0_0 hT).mono ?_;rintro e w1 ⟨rfl,hb1⟩;have HB1:=zh hb1;clear hb1 hT k0 k1
 cases t with
 | false =>
  rw [if_neg jB] at h;simp only [Option.some.injEq,Prod.mk.injEq] at h;obtain ⟨rfl,rfl,rfl,rfl⟩:=h;obtain ⟨hz,hbz⟩:=HEA.out w1 HB1.out;have q0:=zz hz 0;have q1:=zz hz 1;have f0:=zA hz 0;have f1:=zA hz 1
  go_wp2_with fail
  refine bodyPost_ret (results_ctt rfl _ _ g2 35 #[.slice none 0 0,.int .i64 0] (0,0) _ rfl (blk_set (blk_set hz 0 (.slice none 0 0)) 1 (.int .i64 0)) hu35 rfl jA) rfl ?_;exact ⟨_,rfl,Kd.S_nil _ _ _ _ _,zd (zd hbz hbase) hbase⟩
 | true =>
  rw [if_pos rfl] at h;obtain ⟨u,hU,h⟩:=zT.mp h;obtain ⟨-,-,k2,k3⟩:=HCE.out w1 HB1.out
  go_wp2_with fail
  go_at_call 44
  refine (F0f.calls a1_0 a1_1 u w1 hU).mono ?_;rintro e w2 ⟨rfl,hb2⟩;have HB2:=zh (zC HB1.out hb2);clear hb2 hU k2 k3 HB1
  cases u with
  | false =>
   rw [if_neg jB] at h;simp only [Option.some.injEq,Prod.mk.injEq] at h;obtain ⟨rfl,rfl,rfl,rfl⟩:=h;obtain ⟨hz,hbz⟩:=HEA.out w2 HB2.out;have q0:=zz hz 0;have q1:=zz hz 1;have f0:=zA hz 0;have f1:=zA hz 1
   go_wp2_with fail
   refine bodyPost_ret (results_ctt rfl _ _ g2 35 #[.slice none 0 0,.int .i64 0] (0,0) _ rfl (blk_set (blk_set hz 0 (.slice none 0 0)) 1 (.int .i64 0)) hu35 rfl jA) rfl ?_;exact ⟨_,rfl,Kd.S_nil _ _ _ _ _,zd (zd hbz hbase) hbase⟩
  | true =>
   rw [if_pos rfl] at h;obtain ⟨⟨L1,n1⟩,hK,h⟩:=zT.mp h;obtain ⟨⟨d1,d2,L2,n2⟩,hD,h⟩:=zT.mp h;obtain ⟨⟨L3,n3⟩,hK2,h⟩:=zT.mp h;simp only at hD hK2 h;simp only [Option.some.injEq,Prod.mk.injEq] at h;obtain ⟨rfl,rfl,rfl,rfl⟩:=h;obtain ⟨k0,k1,-,-⟩:=HCE.out w2 HB2.out
   go_wp2_with fail
   go_at_call 45
   refine (Fa.calls k A0_0 c0_0 l0_0 a0_1 L1 n1 w2 (Kd.C_below HC.out HB2.out) hc0_0 hK).mono ?_;rintro e w3 ⟨v3,rfl,hS3,hb3⟩;have HB3:=zh hb3;have HS3:=zh hS3;obtain ⟨A3,c3,rfl⟩:=Kd.S_slice hS3;clear hS3 hb3 hK k0 k1;obtain ⟨-,-,k2,k3⟩:=HCE.out (w3.alloc (.cells #[.slice A3 L1.length c3,.int .i64 n1] 35)) (za (zC HB2.out HB3.out) _);have HN3 : Aside0 (Kd.N k67 67 w3 w2.heap.size (fun k_=>w2.heap.size≤k_∧k_≠w3.heap.size) (.slice A3 L1.length c3) L1):=⟨Kd.N_mono (Kd.S_N (Kd.S_bound HS3.out)) (fun _ hk=>⟨hk.2.1,yc hk.2.2.1⟩)⟩
   go_wp2_with fail
   go_at_call 49
   refine (Fu.calls k w3.heap.size (.slice A3 L1.length c3) L1 n1 a1_0 a1_1 d1 d2 L2 n2 w2 _ (za HB3.out _) (blk_new w3 _) HB3.out.size (Kd.N_alloc HN3.out _) hD).mono ?_;rintro e w5 ⟨pv,rfl,hb5,hS5,hB5⟩;have hz : w5.heap[g2]? = some (.cells #[.slice none 0 0,.int .i64 0] 35 (0,0)):=zD (HEA.out w2 HB2.out).1 hB5;have hbz : Below w.heap.size w w5:=zC (HEA.out w2 HB2.out).2 hB5;obtain ⟨A5,c5,rfl⟩:=Kd.N_slice hS5;have HC5:=zh (Kd.N_reads' hS5);have HZ:=zh hz;have HBZ:=zh hbz;have p0:=zz hb5 0;have p1:=zz hb5 1;clear hS5 hB5 hD hb5 k2 k3 HS3 HB3 hz hbz HN3
   go_wp2_with fail
   go_at_call 45
   refine (Fa.calls k A5 c5 L2 n2 L3 n3 w5 HC5.out.2.2 HC5.out.2.1 hK2).mono ?_;rintro e w6 ⟨v6,rfl,hS6,hb6⟩;have HZ6:=zh (zD HZ.out hb6);have HB6:=zh (zC HBZ.out hb6);have HS6:=zh (Kd.S_lower hS6 HBZ.out.size);obtain ⟨A6,c6,rfl⟩:=Kd.S_slice hS6;clear hS6 hb6 hK2 HC5 HZ HBZ;have q0:=zz HZ6.out 0;have q1:=zz HZ6.out 1;have f0:=zA HZ6.out 0;have f1:=zA HZ6.out 1
   go_wp2_with fail
   refine bodyPost_ret (results_ctt rfl _ _ g2 35 #[.slice A6 L3.length c6,.int .i64 n3] (0,0) _ rfl (blk_set (blk_set HZ6.out 0 (.slice A6 L3.length c6)) 1 (.int .i64 n3)) hu35 rfl jA) rfl ?_;exact ⟨_,rfl,Kd.S_set (Kd.S_set HS6.out HZ6.out jB 0 _) (blk_set HZ6.out 0 _) jB 1 _,zd (zd HB6.out hbase) hbase⟩

def F0h.f (k : Nat) (l0_0 : List (S79)) (a0_1 : Int) (a1_0 : ByteArray) (a1_1 : Int) : Option Bool:=(F0j.f k l0_0 a0_1 1048576).bind fun t1=>(if t1<0 then some true else ((Fh.f a1_0 a1_1 t1).bind fun t2=>(if t2<0 then some true else ((F0b.f k l0_0 a0_1).bind fun T=>((F9.f a1_0 a1_1).bind fun E=>((F08.f k T.1 T.2 E.1 E.2).bind fun W=>((F07.f k T.1 T.2 E.1 E.2).bind fun G=>((F0a.f k G.1 G.2.1 W.1 W.2.1).bind fun b1=>((F0a.f k T.1 T.2 T.1 T.2).bind fun b2=>((F03.g k T.1 1).bind fun M=>((F03.g k G.1 1).bind fun M2=>((F0i.f k M2.2 G.2.1 1).bind fun q=>(if b1=true∧b2=true∧(G.2.2.1=W.2.2.1∧G.2.2.2=W.2.2.2) ∧ ¬ M.1<0 ∧ ¬ q<0∧q=M2.1∧T.1.length≤4611686018427387904∧G.1.length≤4611686018427387904 then some true else none)))))))))))))
theorem F0h.two (w : World) (o0 o1 : Obj) : ((w.alloc o0).alloc o1).heap[w.heap.size]? = some o0∧((w.alloc o0).alloc o1).heap[w.heap.size+1]? = some o1∧Below w.heap.size w ((w.alloc o0).alloc o1):=by
 refine ⟨zg (blk_new w _) _,?_,za (za (Below.refl _ _) _) _⟩;have:=blk_new (w.alloc o0) o1
 simpa using this
set_option maxHeartbeats 16000000 in
set_option maxRecDepth 100000 in
theorem F0h.calls (k : Nat) (A0_0 : Option Addr) (c0_0 : Nat) (l0_0 : List (S79)) (a0_1 : Int) (a1_0 : ByteArray) (a1_1 : Int) (r : Bool) (w : World) (hr0_0 : Kd.C k79 w A0_0 l0_0.length l0_0) (hc0_0 : l0_0.length≤c0_0) (h : F0h.f k l0_0 a0_1 a1_0 a1_1=some r) :
  Calls Try.prog 5 #[.agg #[.slice A0_0 l0_0.length c0_0,.int .i64 a0_1],.agg #[.string a1_0,.int .i64 a1_1]] w fun e w' => e = .returned (.bool r)∧Below w.heap.size w w':=by
 have hu35:=Try.underlying35;have hu24:=Try.underlying24;have hu47:=Try.underlying47;have hu51:=Try.underlying51;have mixed : Try.prog.follows Departure.mixedOrders=true:=by rfl
 have late : Try.prog.follows Departure.lateStores=true:=by rfl
 unfold F0h.f at h;obtain ⟨t1,hz1,h⟩:=zT.mp h;obtain ⟨V,hV⟩ : ∃ V,V=(w.alloc (.cells #[.slice A0_0 l0_0.length c0_0,.int .i64 a0_1] 24)).alloc (.cells #[.string a1_0,.int .i64 a1_1] 47):=⟨_,rfl⟩;obtain ⟨h0,h1,hBV⟩:=F0h.two w (.cells #[.slice A0_0 l0_0.length c0_0,.int .i64 a0_1] 24) (.cells #[.string a1_0,.int .i64 a1_1] 47);rw [← hV] at h0 h1 hBV;obtain ⟨g0,hg0⟩ : ∃ g,g=w.heap.size:=⟨_,rfl⟩;rw [← hg0] at h0 h1;obtain ⟨g1,hg1⟩ : ∃ g,g=g0+1:=⟨_,rfl⟩;rw [← hg1] at h1;have HBV:=zh hBV;have H0:=zh h0;have H1:=zh h1;have HCX : Aside0 (∀ W1,Below V.heap.size V W1→Kd.C k79 W1 A0_0 l0_0.length l0_0):=⟨fun W1 hb=>Kd.C_below (Kd.C_below hr0_0 HBV.out) hb⟩
 have HCE : Aside0 (∀ W1,Below V.heap.size V W1→(W1.cell? ⟨g0,0,none⟩=some (.slice A0_0 l0_0.length c0_0)∧W1.cell? ⟨g0,1,none⟩=some (.int .i64 a0_1)∧W1.cell? ⟨g1,0,none⟩=some (.string a1_0)∧W1.cell? ⟨g1,1,none⟩=some (.int .i64 a1_1))) :=
  ⟨fun W1 hb=>⟨(zz (zD H0.out hb) 0).trans rfl,(zz (zD H0.out hb) 1).trans rfl,(zz (zD H1.out hb) 0).trans rfl,(zz (zD H1.out hb) 1).trans rfl⟩⟩
 clear h0 h1 hBV hr0_0;obtain ⟨k0,k1,-,-⟩:=HCE.out V (Below.refl _ _)
 go_enter Try.func5,Try.ntmps5
 go_wp2_with fail
 rw [← hV];simp only [← hg0];simp only [← hg1];clear hV hg0 hg1
 go_at_call 6
 refine (F0j.calls k A0_0 c0_0 l0_0 a0_1 1048576 t1 V (HCX.out V (Below.refl _ _)) hc0_0 hz1).mono ?_;rintro e w1 ⟨rfl,hb1⟩;have HB1:=zh hb1;clear hb1 k0 k1 hz1
 by_cases c1 : t1<0
 ·
  rw [if_pos c1] at h
  obtain rfl:=zU h;have c1b : decide (t1<0)=true:=decide_eq_true c1
  go_wp2_with fail
  go_ret
  exact ⟨rfl,zC HBV.out HB1.out⟩
 rw [if_neg c1] at h;have c1b : decide (t1<0)=false:=decide_eq_false c1;clear c1;obtain ⟨t2,hz2,h⟩:=zT.mp h;obtain ⟨-,-,k2,k3⟩:=HCE.out w1 HB1.out
 go_wp2_with fail
 go_at_call 20
 refine (Fh.calls a1_0 a1_1 t1 t2 w1 hz2).mono ?_;rintro e w2 ⟨rfl,hb2⟩;have HB2:=zh (zC HB1.out hb2);clear hb2 k2 k3 hz2 HB1 c1b
 by_cases c2 : t2<0
 ·
  rw [if_pos c2] at h
  obtain rfl:=zU h;have c2b : decide (t2<0)=true:=decide_eq_true c2
  go_wp2_with fail
  go_ret
  exact ⟨rfl,zC HBV.out HB2.out⟩
 rw [if_neg c2] at h;have c2b : decide (t2<0)=false:=decide_eq_false c2;clear c2;obtain ⟨⟨T1,n1⟩,hT,h⟩:=zT.mp h;obtain ⟨⟨E1,i1⟩,hE,h⟩:=zT.mp h;obtain ⟨⟨Wl,nw,e0,e1⟩,hW,h⟩:=zT.mp h;obtain ⟨⟨Gl,ng,d0,d1⟩,hG,h⟩:=zT.mp h;obtain ⟨b1,hq1,h⟩:=zT.mp h;obtain ⟨b2,hq2,h⟩:=zT.mp h;obtain ⟨⟨m1,M1⟩,hM1,h⟩:=zT.mp h;obtain ⟨⟨m2,M2⟩,hM2,h⟩:=zT.mp h;obtain ⟨q,hq,h⟩:=zT.mp h;simp only at hW hG hq1 hq2 hM1 hM2 hq h
 split at h
 case isFalse=>cases h
 rename_i hall
 obtain rfl:=zU h;clear h;obtain ⟨rfl,rfl,hsame,hm1,hq0,rfl,hlT,hlG⟩:=hall;obtain ⟨rfl,rfl⟩:=hsame;have hm1b : decide (m1<0)=false:=decide_eq_false (Int.not_lt.2 hm1);have hq0b : decide (q<0)=false:=decide_eq_false (Int.not_lt.2 hq0);clear hm1 hq0
 go_wp2_with fail
 have HC2 : Aside0 (∀ W1,Below w2.heap.size w2 W1→(W1.cell? ⟨g0,0,none⟩=some (.slice A0_0 l0_0.length c0_0)∧W1.cell? ⟨g0,1,none⟩=some (.int .i64 a0_1)∧W1.cell? ⟨g1,0,none⟩=some (.string a1_0)∧W1.cell? ⟨g1,1,none⟩=some (.int .i64 a1_1))):=⟨fun W1 hb=>HCE.out W1 (zC HB2.out hb)⟩;have hbd : Below w2.heap.size w2 w2.drew:=zc (Below.refl _ _);refine start_ (n:=13) (S:=fun w' => w'.cell? ⟨g0,0,none⟩=some (.slice A0_0 l0_0.length c0_0)∧w'.cell? ⟨g0,1,none⟩=some (.int .i64 a0_1)∧w'.cell? ⟨g1,0,none⟩=some (.string a1_0)∧w'.cell? ⟨g1,1,none⟩=some (.int .i64 a1_1)) (ds:=[10]) (bm_ 0 13) jA rfl rfl ⟨(HC2.out _ hbd).1,(HC2.out _ hbd).2.1,(HC2.out _ hbd).2.2.1,(HC2.out _ hbd).2.2.2⟩ (fun hHeld=>?_);generalize w2.drew=wd at hbd hHeld ⊢;refine take_ (i:=0) (N:=some 30) (v:=?_) (a':=?_) (bm_ 1 13) rfl rfl jA (fun _ _ _ h=>h) (Or.inl ⟨by rfl,?_⟩) hHeld ?_ ?_;rotate_left
 ·
  rintro w' ⟨s0,s1,s2,s3⟩
  go_simp
  with_reducible rfl
 rotate_left
 exact jc
 refine take_ (i:=2) (N:=some 32) (v:=?_) (a':=?_) #[true,false,true,false,false,false,false,false,false,false,false,false,false] rfl rfl jA (fun _ _ _ h=>h) (Or.inl ⟨by rfl,?_⟩) hHeld ?_ ?_;rotate_left
 ·
  rintro w' ⟨s0,s1,s2,s3⟩
  go_simp
  with_reducible rfl
 rotate_left
 exact jc
 refine join_ (σ:=Nat×(Option Addr×Nat)×(Option Addr×Nat)) 3 (bm_ 10 13) (fun s => [(6,.pointer (some ⟨s.1,0,none⟩)),(31,.agg #[.slice s.2.2.1 T1.length s.2.2.2,.int .i64 n1]),(33,.agg #[.string E1,.int .i64 i1]),(34,.tuple #[.agg #[.slice s.2.1.1 Wl.length s.2.1.2,.int .i64 nw],.int .i64 d0,.int .i64 d1]),(29,.tuple #[.agg #[.slice s.2.1.1 Wl.length s.2.1.2,.int .i64 nw],.int .i64 d0,.int .i64 d1]),(35,.agg #[.slice s.2.1.1 Wl.length s.2.1.2,.int .i64 nw]),(36,.int .i64 d0),(37,.int .i64 d1)]) (fun s w' => w'.heap[s.1]? = some (.cells #[.slice none 0 0,.int .i64 0] 35 (0,0))∧w2.heap.size≤s.1∧Kd.S k67 67 w' w2.heap.size (fun _=>True) (.slice s.2.1.1 Wl.length s.2.1.2) Wl∧Below w2.heap.size w2 w') ?_ ?_;rotate_left
 ·
  intro hCont
  refine two_ (i:=1) (j:=9) (Ni:=some 31) (Nj:=some 6) (bm_ 3 13) #[true,false,true,false,false,false,false,false,false,true,false,false,false] rfl rfl rfl rfl jA jB jB (fun K hK=>?_) (fun K hK=>?_)
  ·
   skip
   refine goes_ Try.func9 jA rfl #[.agg #[.slice A0_0 l0_0.length c0_0,.int .i64 a0_1]] (by rfl) rfl rfl jI ?_
   with_reducible refine (F0b.calls k A0_0 c0_0 l0_0 a0_1 T1 n1 _ (HCX.out _ (zC HB2.out hbd)) hc0_0 hT).mono ?_
   rintro e w_1 ⟨v_1,rfl,hS_1,hb_1⟩;refine ⟨_,rfl,?_⟩;obtain ⟨At,ct,rfl⟩:=Kd.S_slice hS_1;have hbx1:=zC hbd hb_1;refine hK.out _ _ ⟨(HC2.out _ hbx1).1,(HC2.out _ hbx1).2.1,(HC2.out _ hbx1).2.2.1,(HC2.out _ hbx1).2.2.2⟩ (fun hHeld=>?_);clear hK K;refine norm_ (a':=?_) ?_ ?_;rotate_left
   ·
    show Act.put _ (some 31) _=_
    simp only [Act.put,zi,zj,zk,zG,zH]
    rfl
   refine two_ (i:=3) (j:=9) (Ni:=some 33) (Nj:=some 6) (bm_ 4 13) #[true,true,true,false,false,false,false,false,false,true,false,false,false] rfl rfl rfl rfl jA jB jB (fun K hK=>?_) (fun K hK=>?_)
   ·
    skip
    refine goes_ Try.func22 jA rfl #[.agg #[.string a1_0,.int .i64 a1_1]] (by rfl) rfl rfl jI ?_
    with_reducible refine (F9.calls a1_0 a1_1 E1 i1 _ hE).mono ?_
    rintro e w_3 ⟨rfl,hb_3⟩;refine ⟨_,rfl,?_⟩;have hbx3:=zC hbx1 hb_3;refine hK.out _ _ ⟨(HC2.out _ hbx3).1,(HC2.out _ hbx3).2.1,(HC2.out _ hbx3).2.2.1,(HC2.out _ hbx3).2.2.2⟩ (fun hHeld=>?_);clear hK K;refine norm_ (a':=?_) ?_ ?_;rotate_left
    ·
     show Act.put _ (some 33) _=_
     simp only [Act.put,zi,zj,zk,zG,zH]
     rfl
    refine two_ (i:=4) (j:=9) (Ni:=some 34) (Nj:=some 6) (bm_ 5 13) #[true,true,true,true,false,false,false,false,false,true,false,false,false] rfl rfl rfl rfl jA jB jB (fun K hK=>?_) (fun K hK=>?_)
    ·
     skip
     refine goes_ Try.func25 jA rfl #[.agg #[.slice At T1.length ct,.int .i64 n1],.agg #[.string E1,.int .i64 i1]] (by rfl) rfl rfl jI ?_
     with_reducible refine (F08.calls k At ct T1 n1 E1 i1 Wl nw d0 d1 _ (Kd.S_reads' ((Kd.S_below hS_1 hb_3))).2.2 (Kd.S_reads' hS_1).2.1 hW).mono ?_
     rintro e w_4 ⟨v_4,rfl,hS_4,hb_4⟩;refine ⟨_,rfl,?_⟩;obtain ⟨A_,c_,rfl⟩:=Kd.S_slice hS_4;have hbx4:=zC hbx3 hb_4;refine hK.out _ _ ⟨(HC2.out _ hbx4).1,(HC2.out _ hbx4).2.1,(HC2.out _ hbx4).2.2.1,(HC2.out _ hbx4).2.2.2⟩ (fun hHeld=>?_);clear hK K;refine norm_ (a':=?_) ?_ ?_;rotate_left
     ·
      show Act.put _ (some 34) _=_
      simp only [Act.put,zi,zj,zk,zG,zH]
      rfl
     refine pure_ (i:=5) (N:=some 29) (v:=?_) (a':=?_) (bm_ 6 13) rfl rfl jA (fun _ _ _ h=>h) (Or.inl ⟨by rfl,?_⟩) ?_ ?_;rotate_left;exact jb;rotate_left;exact jc
     refine pure_ (i:=6) (N:=some 35) (v:=?_) (a':=?_) (bm_ 7 13) rfl rfl jA (fun _ _ _ h=>h) (Or.inl ⟨by rfl,?_⟩) ?_ ?_;rotate_left;exact jb;rotate_left;exact jc
     refine pure_ (i:=7) (N:=some 36) (v:=?_) (a':=?_) (bm_ 8 13) rfl rfl jA (fun _ _ _ h=>h) (Or.inl ⟨by rfl,?_⟩) ?_ ?_;rotate_left;exact jb;rotate_left;exact jc
     refine pure_ (i:=8) (N:=some 37) (v:=?_) (a':=?_) (bm_ 9 13) rfl rfl jA (fun _ _ _ h=>h) (Or.inl ⟨by rfl,?_⟩) ?_ ?_;rotate_left;exact jb;rotate_left;exact jc
     refine one_ (i:=9) (N:=some 6) (bm_ 10 13) rfl rfl jA jB (fun K hK=>?_);refine value_ (w1:=?_) (v:=?_) (by rfl) rfl ?_ ?_;rotate_left 2
     ·
      go_simp
      constructor
      ·
       rfl
      rfl
     refine hK.out _ _ ⟨(HC2.out _ (za hbx4 _)).1,(HC2.out _ (za hbx4 _)).2.1,(HC2.out _ (za hbx4 _)).2.2.1,(HC2.out _ (za hbx4 _)).2.2.2⟩ (fun hHeld=>?_);clear hK K;refine norm_ (a':=?_) ?_ ?_;rotate_left
     ·
      show Act.put _ (some 6) _=_
      simp only [Act.put,zi,zj,zk,zG,zH]
      rfl
     exact norm_ jM (hCont (w_4.heap.size,(A_,c_),(At,ct)) _ ⟨(blk_new w_4 _),hbx4.size,(Kd.S_alloc (Kd.S_lower hS_4 hbx3.size) _),(za hbx4 _)⟩)
    skip
    refine value_ (w1:=?_) (v:=?_) (by rfl) rfl ?_ ?_;rotate_left 2
    ·
     go_simp
     constructor
     ·
      rfl
     rfl
    refine hK.out _ _ ⟨(HC2.out _ (za hbx3 _)).1,(HC2.out _ (za hbx3 _)).2.1,(HC2.out _ (za hbx3 _)).2.2.1,(HC2.out _ (za hbx3 _)).2.2.2⟩ (fun hHeld=>?_);clear hK K;refine norm_ (a':=?_) ?_ ?_;rotate_left
    ·
     show Act.put _ (some 6) _=_
     simp only [Act.put,zi,zj,zk,zG,zH]
     rfl
    refine one_ (i:=4) (N:=some 34) #[true,true,true,true,true,false,false,false,false,true,false,false,false] rfl rfl jA jB (fun K hK=>?_);refine goes_ Try.func25 jA rfl #[.agg #[.slice At T1.length ct,.int .i64 n1],.agg #[.string E1,.int .i64 i1]] (by rfl) rfl rfl jI ?_
    with_reducible refine (F08.calls k At ct T1 n1 E1 i1 Wl nw d0 d1 _ (Kd.S_reads' ((Kd.S_alloc (Kd.S_below hS_1 hb_3) _))).2.2 (Kd.S_reads' hS_1).2.1 hW).mono ?_
    rintro e w_4 ⟨v_4,rfl,hS_4,hb_4⟩;refine ⟨_,rfl,?_⟩;obtain ⟨A_,c_,rfl⟩:=Kd.S_slice hS_4;have hbx4:=zC (za hbx3 _) hb_4;refine hK.out _ _ ⟨(HC2.out _ hbx4).1,(HC2.out _ hbx4).2.1,(HC2.out _ hbx4).2.2.1,(HC2.out _ hbx4).2.2.2⟩ (fun hHeld=>?_);clear hK K;refine norm_ (a':=?_) ?_ ?_;rotate_left
    ·
     show Act.put _ (some 34) _=_
     simp only [Act.put,zi,zj,zk,zG,zH]
     rfl
    refine pure_ (i:=5) (N:=some 29) (v:=?_) (a':=?_) #[true,true,true,true,true,true,false,false,false,true,false,false,false] rfl rfl jA (fun _ _ _ h=>h) (Or.inl ⟨by rfl,?_⟩) ?_ ?_;rotate_left;exact jb;rotate_left;exact jc
    refine pure_ (i:=6) (N:=some 35) (v:=?_) (a':=?_) #[true,true,true,true,true,true,true,false,false,true,false,false,false] rfl rfl jA (fun _ _ _ h=>h) (Or.inl ⟨by rfl,?_⟩) ?_ ?_;rotate_left;exact jb;rotate_left;exact jc
    refine pure_ (i:=7) (N:=some 36) (v:=?_) (a':=?_) #[true,true,true,true,true,true,true,true,false,true,false,false,false] rfl rfl jA (fun _ _ _ h=>h) (Or.inl ⟨by rfl,?_⟩) ?_ ?_;rotate_left;exact jb;rotate_left;exact jc
    refine pure_ (i:=8) (N:=some 37) (v:=?_) (a':=?_) (bm_ 10 13) rfl rfl jA (fun _ _ _ h=>h) (Or.inl ⟨by rfl,?_⟩) ?_ ?_;rotate_left;exact jb;rotate_left;exact jc
    exact norm_ jM (hCont (w_3.heap.size,(A_,c_),(At,ct)) _ ⟨(zD (blk_new w_3 _) hb_4),hbx3.size,(Kd.S_lower hS_4 (za hbx3 _).size),hbx4⟩)
   skip
   refine value_ (w1:=?_) (v:=?_) (by rfl) rfl ?_ ?_;rotate_left 2
   ·
    go_simp
    constructor
    ·
     rfl
    rfl
   refine hK.out _ _ ⟨(HC2.out _ (za hbx1 _)).1,(HC2.out _ (za hbx1 _)).2.1,(HC2.out _ (za hbx1 _)).2.2.1,(HC2.out _ (za hbx1 _)).2.2.2⟩ (fun hHeld=>?_);clear hK K;refine norm_ (a':=?_) ?_ ?_;rotate_left
   ·
    show Act.put _ (some 6) _=_
    simp only [Act.put,zi,zj,zk,zG,zH]
    rfl
   refine one_ (i:=3) (N:=some 33) #[true,true,true,true,false,false,false,false,false,true,false,false,false] rfl rfl jA jB (fun K hK=>?_);refine goes_ Try.func22 jA rfl #[.agg #[.string a1_0,.int .i64 a1_1]] (by rfl) rfl rfl jI ?_
   with_reducible refine (F9.calls a1_0 a1_1 E1 i1 _ hE).mono ?_
   rintro e w_3 ⟨rfl,hb_3⟩;refine ⟨_,rfl,?_⟩;have hbx3:=zC (za hbx1 _) hb_3;refine hK.out _ _ ⟨(HC2.out _ hbx3).1,(HC2.out _ hbx3).2.1,(HC2.out _ hbx3).2.2.1,(HC2.out _ hbx3).2.2.2⟩ (fun hHeld=>?_);clear hK K;refine norm_ (a':=?_) ?_ ?_;rotate_left
   ·
    show Act.put _ (some 33) _=_
    simp only [Act.put,zi,zj,zk,zG,zH]
    rfl
   refine one_ (i:=4) (N:=some 34) #[true,true,true,true,true,false,false,false,false,true,false,false,false] rfl rfl jA jB (fun K hK=>?_);refine goes_ Try.func25 jA rfl #[.agg #[.slice At T1.length ct,.int .i64 n1],.agg #[.string E1,.int .i64 i1]] (by rfl) rfl rfl jI ?_
   with_reducible refine (F08.calls k At ct T1 n1 E1 i1 Wl nw d0 d1 _ (Kd.S_reads' ((Kd.S_below (Kd.S_alloc hS_1 _) hb_3))).2.2 (Kd.S_reads' hS_1).2.1 hW).mono ?_
   rintro e w_4 ⟨v_4,rfl,hS_4,hb_4⟩;refine ⟨_,rfl,?_⟩;obtain ⟨A_,c_,rfl⟩:=Kd.S_slice hS_4;have hbx4:=zC hbx3 hb_4;refine hK.out _ _ ⟨(HC2.out _ hbx4).1,(HC2.out _ hbx4).2.1,(HC2.out _ hbx4).2.2.1,(HC2.out _ hbx4).2.2.2⟩ (fun hHeld=>?_);clear hK K;refine norm_ (a':=?_) ?_ ?_;rotate_left
   ·
    show Act.put _ (some 34) _=_
    simp only [Act.put,zi,zj,zk,zG,zH]
    rfl
   refine pure_ (i:=5) (N:=some 29) (v:=?_) (a':=?_) #[true,true,true,true,true,true,false,false,false,true,false,false,false] rfl rfl jA (fun _ _ _ h=>h) (Or.inl ⟨by rfl,?_⟩) ?_ ?_;rotate_left;exact jb;rotate_left;exact jc
   refine pure_ (i:=6) (N:=some 35) (v:=?_) (a':=?_) #[true,true,true,true,true,true,true,false,false,true,false,false,false] rfl rfl jA (fun _ _ _ h=>h) (Or.inl ⟨by rfl,?_⟩) ?_ ?_;rotate_left;exact jb;rotate_left;exact jc
   refine pure_ (i:=7) (N:=some 36) (v:=?_) (a':=?_) #[true,true,true,true,true,true,true,true,false,true,false,false,false] rfl rfl jA (fun _ _ _ h=>h) (Or.inl ⟨by rfl,?_⟩) ?_ ?_;rotate_left;exact jb;rotate_left;exact jc
   refine pure_ (i:=8) (N:=some 37) (v:=?_) (a':=?_) (bm_ 10 13) rfl rfl jA (fun _ _ _ h=>h) (Or.inl ⟨by rfl,?_⟩) ?_ ?_;rotate_left;exact jb;rotate_left;exact jc
   exact norm_ jM (hCont (w_1.heap.size,(A_,c_),(At,ct)) _ ⟨(zD (zD (blk_new w_1 _) hb_3) hb_4),hbx1.size,(Kd.S_lower hS_4 hbx3.size),hbx4⟩)
  skip
  refine value_ (w1:=?_) (v:=?_) (by rfl) rfl ?_ ?_;rotate_left 2
  ·
   go_simp
   constructor
   ·
    rfl
   rfl
  refine hK.out _ _ ⟨(HC2.out _ (za hbd _)).1,(HC2.out _ (za hbd _)).2.1,(HC2.out _ (za hbd _)).2.2.1,(HC2.out _ (za hbd _)).2.2.2⟩ (fun hHeld=>?_);clear hK K;refine norm_ (a':=?_) ?_ ?_;rotate_left
  ·
   show Act.put _ (some 6) _=_
   simp only [Act.put,zi,zj,zk,zG,zH]
   rfl
  refine one_ (i:=1) (N:=some 31) #[true,true,true,false,false,false,false,false,false,true,false,false,false] rfl rfl jA jB (fun K hK=>?_);refine goes_ Try.func9 jA rfl #[.agg #[.slice A0_0 l0_0.length c0_0,.int .i64 a0_1]] (by rfl) rfl rfl jI ?_
  with_reducible refine (F0b.calls k A0_0 c0_0 l0_0 a0_1 T1 n1 _ (HCX.out _ (zC HB2.out (za hbd _))) hc0_0 hT).mono ?_
  rintro e w_1 ⟨v_1,rfl,hS_1,hb_1⟩;refine ⟨_,rfl,?_⟩;obtain ⟨At,ct,rfl⟩:=Kd.S_slice hS_1;have hbx1:=zC (za hbd _) hb_1;refine hK.out _ _ ⟨(HC2.out _ hbx1).1,(HC2.out _ hbx1).2.1,(HC2.out _ hbx1).2.2.1,(HC2.out _ hbx1).2.2.2⟩ (fun hHeld=>?_);clear hK K;refine norm_ (a':=?_) ?_ ?_;rotate_left
  ·
   show Act.put _ (some 31) _=_
   simp only [Act.put,zi,zj,zk,zG,zH]
   rfl
  refine one_ (i:=3) (N:=some 33) #[true,true,true,true,false,false,false,false,false,true,false,false,false] rfl rfl jA jB (fun K hK=>?_);refine goes_ Try.func22 jA rfl #[.agg #[.string a1_0,.int .i64 a1_1]] (by rfl) rfl rfl jI ?_
  with_reducible refine (F9.calls a1_0 a1_1 E1 i1 _ hE).mono ?_
  rintro e w_3 ⟨rfl,hb_3⟩;refine ⟨_,rfl,?_⟩;have hbx3:=zC hbx1 hb_3;refine hK.out _ _ ⟨(HC2.out _ hbx3).1,(HC2.out _ hbx3).2.1,(HC2.out _ hbx3).2.2.1,(HC2.out _ hbx3).2.2.2⟩ (fun hHeld=>?_);clear hK K;refine norm_ (a':=?_) ?_ ?_;rotate_left
  ·
   show Act.put _ (some 33) _=_
   simp only [Act.put,zi,zj,zk,zG,zH]
   rfl
  refine one_ (i:=4) (N:=some 34) #[true,true,true,true,true,false,false,false,false,true,false,false,false] rfl rfl jA jB (fun K hK=>?_);refine goes_ Try.func25 jA rfl #[.agg #[.slice At T1.length ct,.int .i64 n1],.agg #[.string E1,.int .i64 i1]] (by rfl) rfl rfl jI ?_
  with_reducible refine (F08.calls k At ct T1 n1 E1 i1 Wl nw d0 d1 _ (Kd.S_reads' ((Kd.S_below hS_1 hb_3))).2.2 (Kd.S_reads' hS_1).2.1 hW).mono ?_
  rintro e w_4 ⟨v_4,rfl,hS_4,hb_4⟩;refine ⟨_,rfl,?_⟩;obtain ⟨A_,c_,rfl⟩:=Kd.S_slice hS_4;have hbx4:=zC hbx3 hb_4;refine hK.out _ _ ⟨(HC2.out _ hbx4).1,(HC2.out _ hbx4).2.1,(HC2.out _ hbx4).2.2.1,(HC2.out _ hbx4).2.2.2⟩ (fun hHeld=>?_);clear hK K;refine norm_ (a':=?_) ?_ ?_;rotate_left
  ·
   show Act.put _ (some 34) _=_
   simp only [Act.put,zi,zj,zk,zG,zH]
   rfl
  refine pure_ (i:=5) (N:=some 29) (v:=?_) (a':=?_) #[true,true,true,true,true,true,false,false,false,true,false,false,false] rfl rfl jA (fun _ _ _ h=>h) (Or.inl ⟨by rfl,?_⟩) ?_ ?_;rotate_left;exact jb;rotate_left;exact jc
  refine pure_ (i:=6) (N:=some 35) (v:=?_) (a':=?_) #[true,true,true,true,true,true,true,false,false,true,false,false,false] rfl rfl jA (fun _ _ _ h=>h) (Or.inl ⟨by rfl,?_⟩) ?_ ?_;rotate_left;exact jb;rotate_left;exact jc
  refine pure_ (i:=7) (N:=some 36) (v:=?_) (a':=?_) #[true,true,true,true,true,true,true,true,false,true,false,false,false] rfl rfl jA (fun _ _ _ h=>h) (Or.inl ⟨by rfl,?_⟩) ?_ ?_;rotate_left;exact jb;rotate_left;exact jc
  refine pure_ (i:=8) (N:=some 37) (v:=?_) (a':=?_) (bm_ 10 13) rfl rfl jA (fun _ _ _ h=>h) (Or.inl ⟨by rfl,?_⟩) ?_ ?_;rotate_left;exact jb;rotate_left;exact jc
  exact norm_ jM (hCont (wd.heap.size,(A_,c_),(At,ct)) _ ⟨(zD (zD (zD (blk_new wd _) hb_1) hb_3) hb_4),hbd.size,(Kd.S_lower hS_4 hbx3.size),hbx4⟩)
 rintro ⟨bb,⟨A_,c_⟩,s3⟩ wt ⟨hbox,hbb,hS_,hb_⟩;have q0:=zz hbox 0;have q1:=zz hbox 1;have f0:=zA hbox 0;have f1:=zA hbox 1;refine norm_ (a':=?_) ?_ ?_;rotate_left
 ·
  simp only [putAll,Act.put,zi,zj,zk]
  rfl
 refine last_ (i:=10) (N:=none) (bm_ 11 13) rfl rfl jA jB (fun K hK=>?_);refine skip_ (w1:=?_) (by rfl) rfl ?_ ?_;rotate_left
 ·
  go_simp
  rfl
 refine hK.out _ _ ?_;clear hK K;refine pure_ (i:=11) (N:=some 7) (v:=?_) (a':=?_) (bm_ 12 13) rfl rfl jA (fun _ _ _ h=>h) (Or.inl ⟨by rfl,?_⟩) ?_ ?_;rotate_left;exact jb;rotate_left;exact jc
 refine pure_ (i:=12) (N:=some 8) (v:=?_) (a':=?_) (bm_ 13 13) rfl rfl jA (fun _ _ _ h=>h) (Or.inl ⟨by rfl,?_⟩) ?_ ?_;rotate_left;exact jb;rotate_left;exact jc
 refine done_ jA ?_;have hbx_ : ((wt.setCell ⟨bb,0,none⟩ (.slice A_ Wl.length c_)).setCell ⟨bb,1,none⟩ (.int .i64 nw)).heap[bb]? = some (.cells #[.slice A_ Wl.length c_,.int .i64 nw] 35 (0,0)):=blk_set (blk_set hbox 0 (.slice A_ Wl.length c_)) 1 (.int .i64 nw);have hS2_:=Kd.S_types hS_ hbox jB;have hS3_:=Kd.S_far (p:=⟨bb,1,none⟩) (Kd.S_far (p:=⟨bb,0,none⟩) hS2_ (fun _ hk=>hk.2) (.slice A_ Wl.length c_)) (fun _ hk=>hk.2) (.int .i64 nw);have hsz_ : ((wt.setCell ⟨bb,0,none⟩ (.slice A_ Wl.length c_)).setCell ⟨bb,1,none⟩ (.int .i64 nw)).heap.size=wt.heap.size:=by simp
 have HLw:=zh (Kd.S_reads' hS_).2.1;have HB10:=zh (zd (zd (zC HB2.out hb_) (Nat.le_trans HB2.out.size hbb)) (Nat.le_trans HB2.out.size hbb) : Below V.heap.size V ((wt.setCell ⟨bb,0,none⟩ (.slice A_ Wl.length c_)).setCell ⟨bb,1,none⟩ (.int .i64 nw)));have HW10:=zh (Kd.F_mono (Kd.F_bound (Kd.S_F hS3_)) (ok':=fun k=>k<((wt.setCell ⟨bb,0,none⟩ (.slice A_ Wl.length c_)).setCell ⟨bb,1,none⟩ (.int .i64 nw)).heap.size∧k≠bb) (fun _ hk=>⟨hk.2,hk.1.2⟩));have H6_10:=zh hbx_;clear hbd hbx_ hS2_ hS3_ hS_ hb_ hbox hbb q0 q1 f0 f1 hsz_ HB2 HC2 c2b;generalize hw10 : (wt.setCell ⟨bb,0,none⟩ (.slice A_ Wl.length c_)).setCell ⟨bb,1,none⟩ (.int .i64 nw)=w10 at *;clear hw10;obtain ⟨Aw,rfl⟩ : ∃ A,A=A_:=⟨_,rfl⟩;obtain ⟨cw,rfl⟩ : ∃ c,c=c_:=⟨_,rfl⟩;obtain ⟨b6,rfl⟩ : ∃ b,b=bb:=⟨_,rfl⟩;obtain ⟨k0,k1,-,-⟩:=HCE.out w10 HB10.out
 go_wp2_with fail
 go_at_call 9
 refine (F0b.calls k A0_0 c0_0 l0_0 a0_1 T1 n1 w10 (HCX.out w10 HB10.out) hc0_0 hT).mono ?_;rintro e w11 ⟨v_,rfl,hS_,hb_⟩;obtain ⟨Ax,cx,rfl⟩:=Kd.S_slice hS_;have HX11:=zh (Kd.S_lower (Kd.S_mono (ok':=fun k=>w10.heap.size≤k∧k<w11.heap.size) (Kd.S_bound hS_) (fun _ hk=>⟨hk.2.1,hk.2.2.1⟩)) HB10.out.size);have HB11:=zh (zC HB10.out hb_);have H6_11:=zh (zD H6_10.out hb_);have HW11:=zh (Kd.F_below HW10.out hb_);have L10_11:=zh hb_.size;have B6L : Aside0 (b6<w10.heap.size):=⟨yi H6_10.out⟩;clear hS_ hb_ k0 k1 HB10 H6_10 HW10;obtain ⟨w12,hw12⟩ : ∃ w12,w12=w11.alloc (.cells #[.slice Ax T1.length cx,.int .i64 n1] 35):=⟨_,rfl⟩;obtain ⟨b8,hb8⟩ : ∃ b,b=w11.heap.size:=⟨_,rfl⟩;have H8_12 : Aside0 (w12.heap[b8]? = some (.cells #[.slice Ax T1.length cx,.int .i64 n1] 35 (0,0))):=⟨by rw [hw12,hb8];exact blk_new w11 _⟩;have HX12 : Aside0 (Kd.S k67 67 w12 V.heap.size (fun k=>w10.heap.size≤k∧k<w11.heap.size) (.slice Ax T1.length cx) T1):=⟨by rw [hw12];exact Kd.S_alloc HX11.out _⟩;have HW12 : Aside0 (Kd.F k67 w12 (fun k=>k<w10.heap.size∧k≠b6) Aw Wl.length Wl):=⟨by rw [hw12];exact Kd.F_alloc HW11.out _⟩;have H6_12 : Aside0 (w12.heap[b6]? = some (.cells #[.slice Aw Wl.length cw,.int .i64 nw] 35 (0,0))):=⟨by rw [hw12];exact zg H6_11.out _⟩;have HB12 : Aside0 (Below V.heap.size V w12):=⟨by rw [hw12];exact za HB11.out _⟩;have L11_12 : Aside0 (w11.heap.size≤w12.heap.size):=⟨Nat.le_of_lt (by rw [hw12];simp)⟩;have L10_12:=zh (Nat.le_trans L10_11.out L11_12.out);clear HX11 HW11 H6_11 HB11
 go_wp2_with fail
 rw [← hw12];simp only [← hb8];clear hw12 hb8;have HC10 : Aside0 (∀ W1,Below w12.heap.size w12 W1→(W1.cell? ⟨b8,0,none⟩=some (.slice Ax T1.length cx)∧W1.cell? ⟨b8,1,none⟩=some (.int .i64 n1)∧W1.cell? ⟨g1,0,none⟩=some (.string a1_0)∧W1.cell? ⟨g1,1,none⟩=some (.int .i64 a1_1))):=⟨fun W1 hb=>⟨(zz (zD H8_12.out hb) 0).trans rfl,(zz (zD H8_12.out hb) 1).trans rfl,(HCE.out W1 (zC HB12.out hb)).2.2.1,(HCE.out W1 (zC HB12.out hb)).2.2.2⟩⟩;have hbd : Below w12.heap.size w12 w12.drew:=zc (Below.refl _ _);refine start_ (n:=12) (S:=fun w' => w'.cell? ⟨b8,0,none⟩=some (.slice Ax T1.length cx)∧w'.cell? ⟨b8,1,none⟩=some (.int .i64 n1)∧w'.cell? ⟨g1,0,none⟩=some (.string a1_0)∧w'.cell? ⟨g1,1,none⟩=some (.int .i64 a1_1)) (ds:=[9]) (bm_ 0 12) jA rfl rfl ⟨(HC10.out _ hbd).1,(HC10.out _ hbd).2.1,(HC10.out _ hbd).2.2.1,(HC10.out _ hbd).2.2.2⟩ (fun hHeld=>?_);generalize w12.drew=wd at hbd hHeld ⊢;refine take_ (i:=0) (N:=some 41) (v:=?_) (a':=?_) (bm_ 1 12) rfl rfl jA (fun _ _ _ h=>h) (Or.inl ⟨by rfl,?_⟩) hHeld ?_ ?_;rotate_left
 ·
  rintro w' ⟨s0,s1,s2,s3⟩
  go_simp
  with_reducible rfl
 rotate_left
 exact jc
 refine take_ (i:=1) (N:=some 42) (v:=?_) (a':=?_) (bm_ 2 12) rfl rfl jA (fun _ _ _ h=>h) (Or.inl ⟨by rfl,?_⟩) hHeld ?_ ?_;rotate_left
 ·
  rintro w' ⟨s0,s1,s2,s3⟩
  go_simp
  with_reducible rfl
 rotate_left
 exact jc
 refine join_ (σ:=Nat×(Option Addr×Nat)×(Option Addr×Nat)) 3 (bm_ 9 12) (fun s => [(10,.pointer (some ⟨s.1,0,none⟩)),(43,.agg #[.string E1,.int .i64 i1]),(44,.tuple #[.agg #[.slice s.2.1.1 Gl.length s.2.1.2,.int .i64 ng],.int .i64 d0,.int .i64 d1]),(40,.tuple #[.agg #[.slice s.2.1.1 Gl.length s.2.1.2,.int .i64 ng],.int .i64 d0,.int .i64 d1]),(45,.agg #[.slice s.2.1.1 Gl.length s.2.1.2,.int .i64 ng]),(46,.int .i64 d0),(47,.int .i64 d1)]) (fun s w' => w'.heap[s.1]? = some (.cells #[.slice none 0 0,.int .i64 0] 35 (0,0))∧w12.heap.size≤s.1∧Kd.S k67 67 w' w12.heap.size (fun _=>True) (.slice s.2.1.1 Gl.length s.2.1.2) Gl∧Below w12.heap.size w12 w') ?_ ?_;rotate_left
 ·
  intro hCont
  refine two_ (i:=2) (j:=8) (Ni:=some 43) (Nj:=some 10) (bm_ 3 12) #[true,true,false,false,false,false,false,false,true,false,false,false] rfl rfl rfl rfl jA jB jB (fun K hK=>?_) (fun K hK=>?_)
  ·
   skip
   refine goes_ Try.func22 jA rfl #[.agg #[.string a1_0,.int .i64 a1_1]] (by rfl) rfl rfl jI ?_
   with_reducible refine (F9.calls a1_0 a1_1 E1 i1 _ hE).mono ?_
   rintro e w_2 ⟨rfl,hb_2⟩;refine ⟨_,rfl,?_⟩;have hbx2:=zC hbd hb_2;refine hK.out _ _ ⟨(HC10.out _ hbx2).1,(HC10.out _ hbx2).2.1,(HC10.out _ hbx2).2.2.1,(HC10.out _ hbx2).2.2.2⟩ (fun hHeld=>?_);clear hK K;refine norm_ (a':=?_) ?_ ?_;rotate_left
   ·
    show Act.put _ (some 43) _=_
    simp only [Act.put,zi,zj,zk,zG,zH]
    rfl
   refine two_ (i:=3) (j:=8) (Ni:=some 44) (Nj:=some 10) (bm_ 4 12) #[true,true,true,false,false,false,false,false,true,false,false,false] rfl rfl rfl rfl jA jB jB (fun K hK=>?_) (fun K hK=>?_)
   ·
    skip
    refine goes_ Try.func26 jA rfl #[.agg #[.slice Ax T1.length cx,.int .i64 n1],.agg #[.string E1,.int .i64 i1]] (by rfl) rfl rfl jI ?_
    with_reducible refine (F07.calls k Ax cx T1 n1 E1 i1 Gl ng d0 d1 _ (Kd.S_reads' (Kd.S_below HX12.out hbx2)).2.2 (Kd.S_reads' HX12.out).2.1 hG).mono ?_
    rintro e w_3 ⟨v_3,rfl,hS_3,hb_3⟩;refine ⟨_,rfl,?_⟩;obtain ⟨A_,c_,rfl⟩:=Kd.S_slice hS_3;have hbx3:=zC hbx2 hb_3;refine hK.out _ _ ⟨(HC10.out _ hbx3).1,(HC10.out _ hbx3).2.1,(HC10.out _ hbx3).2.2.1,(HC10.out _ hbx3).2.2.2⟩ (fun hHeld=>?_);clear hK K;refine norm_ (a':=?_) ?_ ?_;rotate_left
    ·
     show Act.put _ (some 44) _=_
     simp only [Act.put,zi,zj,zk,zG,zH]
     rfl
    refine pure_ (i:=4) (N:=some 40) (v:=?_) (a':=?_) (bm_ 5 12) rfl rfl jA (fun _ _ _ h=>h) (Or.inl ⟨by rfl,?_⟩) ?_ ?_;rotate_left;exact jb;rotate_left;exact jc
    refine pure_ (i:=5) (N:=some 45) (v:=?_) (a':=?_) (bm_ 6 12) rfl rfl jA (fun _ _ _ h=>h) (Or.inl ⟨by rfl,?_⟩) ?_ ?_;rotate_left;exact jb;rotate_left;exact jc
    refine pure_ (i:=6) (N:=some 46) (v:=?_) (a':=?_) (bm_ 7 12) rfl rfl jA (fun _ _ _ h=>h) (Or.inl ⟨by rfl,?_⟩) ?_ ?_;rotate_left;exact jb;rotate_left;exact jc
    refine pure_ (i:=7) (N:=some 47) (v:=?_) (a':=?_) (bm_ 8 12) rfl rfl jA (fun _ _ _ h=>h) (Or.inl ⟨by rfl,?_⟩) ?_ ?_;rotate_left;exact jb;rotate_left;exact jc
    refine one_ (i:=8) (N:=some 10) (bm_ 9 12) rfl rfl jA jB (fun K hK=>?_);refine value_ (w1:=?_) (v:=?_) (by rfl) rfl ?_ ?_;rotate_left 2
    ·
     go_simp
     constructor
     ·
      rfl
     rfl
    refine hK.out _ _ ⟨(HC10.out _ (za hbx3 _)).1,(HC10.out _ (za hbx3 _)).2.1,(HC10.out _ (za hbx3 _)).2.2.1,(HC10.out _ (za hbx3 _)).2.2.2⟩ (fun hHeld=>?_);clear hK K;refine norm_ (a':=?_) ?_ ?_;rotate_left
    ·
     show Act.put _ (some 10) _=_
     simp only [Act.put,zi,zj,zk,zG,zH]
     rfl
    exact norm_ jM (hCont (w_3.heap.size,(A_,c_),(none,0)) _ ⟨(blk_new w_3 _),hbx3.size,(Kd.S_alloc (Kd.S_lower hS_3 hbx2.size) _),(za hbx3 _)⟩)
   skip
   refine value_ (w1:=?_) (v:=?_) (by rfl) rfl ?_ ?_;rotate_left 2
   ·
    go_simp
    constructor
    ·
     rfl
    rfl
   refine hK.out _ _ ⟨(HC10.out _ (za hbx2 _)).1,(HC10.out _ (za hbx2 _)).2.1,(HC10.out _ (za hbx2 _)).2.2.1,(HC10.out _ (za hbx2 _)).2.2.2⟩ (fun hHeld=>?_);clear hK K;refine norm_ (a':=?_) ?_ ?_;rotate_left
   ·
    show Act.put _ (some 10) _=_
    simp only [Act.put,zi,zj,zk,zG,zH]
    rfl
   refine one_ (i:=3) (N:=some 44) #[true,true,true,true,false,false,false,false,true,false,false,false] rfl rfl jA jB (fun K hK=>?_);refine goes_ Try.func26 jA rfl #[.agg #[.slice Ax T1.length cx,.int .i64 n1],.agg #[.string E1,.int .i64 i1]] (by rfl) rfl rfl jI ?_
   with_reducible refine (F07.calls k Ax cx T1 n1 E1 i1 Gl ng d0 d1 _ (Kd.S_reads' (Kd.S_below HX12.out (za hbx2 _))).2.2 (Kd.S_reads' HX12.out).2.1 hG).mono ?_
   rintro e w_3 ⟨v_3,rfl,hS_3,hb_3⟩;refine ⟨_,rfl,?_⟩;obtain ⟨A_,c_,rfl⟩:=Kd.S_slice hS_3;have hbx3:=zC (za hbx2 _) hb_3;refine hK.out _ _ ⟨(HC10.out _ hbx3).1,(HC10.out _ hbx3).2.1,(HC10.out _ hbx3).2.2.1,(HC10.out _ hbx3).2.2.2⟩ (fun hHeld=>?_);clear hK K;refine norm_ (a':=?_) ?_ ?_;rotate_left
   ·
    show Act.put _ (some 44) _=_
    simp only [Act.put,zi,zj,zk,zG,zH]
    rfl
   refine pure_ (i:=4) (N:=some 40) (v:=?_) (a':=?_) #[true,true,true,true,true,false,false,false,true,false,false,false] rfl rfl jA (fun _ _ _ h=>h) (Or.inl ⟨by rfl,?_⟩) ?_ ?_;rotate_left;exact jb;rotate_left;exact jc
   refine pure_ (i:=5) (N:=some 45) (v:=?_) (a':=?_) #[true,true,true,true,true,true,false,false,true,false,false,false] rfl rfl jA (fun _ _ _ h=>h) (Or.inl ⟨by rfl,?_⟩) ?_ ?_;rotate_left;exact jb;rotate_left;exact jc
   refine pure_ (i:=6) (N:=some 46) (v:=?_) (a':=?_) #[true,true,true,true,true,true,true,false,true,false,false,false] rfl rfl jA (fun _ _ _ h=>h) (Or.inl ⟨by rfl,?_⟩) ?_ ?_;rotate_left;exact jb;rotate_left;exact jc
   refine pure_ (i:=7) (N:=some 47) (v:=?_) (a':=?_) (bm_ 9 12) rfl rfl jA (fun _ _ _ h=>h) (Or.inl ⟨by rfl,?_⟩) ?_ ?_;rotate_left;exact jb;rotate_left;exact jc
   exact norm_ jM (hCont (w_2.heap.size,(A_,c_),(none,0)) _ ⟨(zD (blk_new w_2 _) hb_3),hbx2.size,(Kd.S_lower hS_3 (za hbx2 _).size),hbx3⟩)
  skip
  refine value_ (w1:=?_) (v:=?_) (by rfl) rfl ?_ ?_;rotate_left 2
  ·
   go_simp
   constructor
   ·
    rfl
   rfl
  refine hK.out _ _ ⟨(HC10.out _ (za hbd _)).1,(HC10.out _ (za hbd _)).2.1,(HC10.out _ (za hbd _)).2.2.1,(HC10.out _ (za hbd _)).2.2.2⟩ (fun hHeld=>?_);clear hK K;refine norm_ (a':=?_) ?_ ?_;rotate_left
  ·
   show Act.put _ (some 10) _=_
   simp only [Act.put,zi,zj,zk,zG,zH]
   rfl
  refine one_ (i:=2) (N:=some 43) #[true,true,true,false,false,false,false,false,true,false,false,false] rfl rfl jA jB (fun K hK=>?_);refine goes_ Try.func22 jA rfl #[.agg #[.string a1_0,.int .i64 a1_1]] (by rfl) rfl rfl jI ?_
  with_reducible refine (F9.calls a1_0 a1_1 E1 i1 _ hE).mono ?_
  rintro e w_2 ⟨rfl,hb_2⟩;refine ⟨_,rfl,?_⟩;have hbx2:=zC (za hbd _) hb_2;refine hK.out _ _ ⟨(HC10.out _ hbx2).1,(HC10.out _ hbx2).2.1,(HC10.out _ hbx2).2.2.1,(HC10.out _ hbx2).2.2.2⟩ (fun hHeld=>?_);clear hK K;refine norm_ (a':=?_) ?_ ?_;rotate_left
  ·
   show Act.put _ (some 43) _=_
   simp only [Act.put,zi,zj,zk,zG,zH]
   rfl
  refine one_ (i:=3) (N:=some 44) #[true,true,true,true,false,false,false,false,true,false,false,false] rfl rfl jA jB (fun K hK=>?_);refine goes_ Try.func26 jA rfl #[.agg #[.slice Ax T1.length cx,.int .i64 n1],.agg #[.string E1,.int .i64 i1]] (by rfl) rfl rfl jI ?_
  with_reducible refine (F07.calls k Ax cx T1 n1 E1 i1 Gl ng d0 d1 _ (Kd.S_reads' (Kd.S_below HX12.out hbx2)).2.2 (Kd.S_reads' HX12.out).2.1 hG).mono ?_
  rintro e w_3 ⟨v_3,rfl,hS_3,hb_3⟩;refine ⟨_,rfl,?_⟩;obtain ⟨A_,c_,rfl⟩:=Kd.S_slice hS_3;have hbx3:=zC hbx2 hb_3;refine hK.out _ _ ⟨(HC10.out _ hbx3).1,(HC10.out _ hbx3).2.1,(HC10.out _ hbx3).2.2.1,(HC10.out _ hbx3).2.2.2⟩ (fun hHeld=>?_);clear hK K;refine norm_ (a':=?_) ?_ ?_;rotate_left
  ·
   show Act.put _ (some 44) _=_
   simp only [Act.put,zi,zj,zk,zG,zH]
   rfl
  refine pure_ (i:=4) (N:=some 40) (v:=?_) (a':=?_) #[true,true,true,true,true,false,false,false,true,false,false,false] rfl rfl jA (fun _ _ _ h=>h) (Or.inl ⟨by rfl,?_⟩) ?_ ?_;rotate_left;exact jb;rotate_left;exact jc
  refine pure_ (i:=5) (N:=some 45) (v:=?_) (a':=?_) #[true,true,true,true,true,true,false,false,true,false,false,false] rfl rfl jA (fun _ _ _ h=>h) (Or.inl ⟨by rfl,?_⟩) ?_ ?_;rotate_left;exact jb;rotate_left;exact jc
  refine pure_ (i:=6) (N:=some 46) (v:=?_) (a':=?_) #[true,true,true,true,true,true,true,false,true,false,false,false] rfl rfl jA (fun _ _ _ h=>h) (Or.inl ⟨by rfl,?_⟩) ?_ ?_;rotate_left;exact jb;rotate_left;exact jc
  refine pure_ (i:=7) (N:=some 47) (v:=?_) (a':=?_) (bm_ 9 12) rfl rfl jA (fun _ _ _ h=>h) (Or.inl ⟨by rfl,?_⟩) ?_ ?_;rotate_left;exact jb;rotate_left;exact jc
  exact norm_ jM (hCont (wd.heap.size,(A_,c_),(none,0)) _ ⟨(zD (zD (blk_new wd _) hb_2) hb_3),hbd.size,(Kd.S_lower hS_3 hbx2.size),hbx3⟩)
 rintro ⟨bb,⟨A_,c_⟩,s3⟩ wt ⟨hbox,hbb,hS_,hb_⟩;have q0:=zz hbox 0;have q1:=zz hbox 1;have f0:=zA hbox 0;have f1:=zA hbox 1;refine norm_ (a':=?_) ?_ ?_;rotate_left
 ·
  simp only [putAll,Act.put,zi,zj,zk]
  rfl
 refine last_ (i:=9) (N:=none) (bm_ 10 12) rfl rfl jA jB (fun K hK=>?_);refine skip_ (w1:=?_) (by rfl) rfl ?_ ?_;rotate_left
 ·
  go_simp
  rfl
 refine hK.out _ _ ?_;clear hK K;refine pure_ (i:=10) (N:=some 11) (v:=?_) (a':=?_) (bm_ 11 12) rfl rfl jA (fun _ _ _ h=>h) (Or.inl ⟨by rfl,?_⟩) ?_ ?_;rotate_left;exact jb;rotate_left;exact jc
 refine pure_ (i:=11) (N:=some 12) (v:=?_) (a':=?_) (bm_ 12 12) rfl rfl jA (fun _ _ _ h=>h) (Or.inl ⟨by rfl,?_⟩) ?_ ?_;rotate_left;exact jb;rotate_left;exact jc
 refine done_ jA ?_;have hbx_ : ((wt.setCell ⟨bb,0,none⟩ (.slice A_ Gl.length c_)).setCell ⟨bb,1,none⟩ (.int .i64 ng)).heap[bb]? = some (.cells #[.slice A_ Gl.length c_,.int .i64 ng] 35 (0,0)):=blk_set (blk_set hbox 0 (.slice A_ Gl.length c_)) 1 (.int .i64 ng);have hS2_:=Kd.S_types hS_ hbox jB;have hS3_:=Kd.S_far (p:=⟨bb,1,none⟩) (Kd.S_far (p:=⟨bb,0,none⟩) hS2_ (fun _ hk=>hk.2) (.slice A_ Gl.length c_)) (fun _ hk=>hk.2) (.int .i64 ng);have hsz_ : ((wt.setCell ⟨bb,0,none⟩ (.slice A_ Gl.length c_)).setCell ⟨bb,1,none⟩ (.int .i64 ng)).heap.size=wt.heap.size:=by simp
 have HG15:=zh (Kd.S_lower (Kd.S_mono (ok':=fun k=>w12.heap.size≤k∧k≠bb) (Kd.S_bound hS3_) (fun _ hk=>⟨hk.2.1,hk.1.2⟩)) HB12.out.size);have hle_:=Nat.le_trans HB12.out.size hbb;have HB15:=zh (zd (zd (zC HB12.out hb_) hle_) hle_ : Below V.heap.size V ((wt.setCell ⟨bb,0,none⟩ (.slice A_ Gl.length c_)).setCell ⟨bb,1,none⟩ (.int .i64 ng)));have hb15 : Below w12.heap.size w12 ((wt.setCell ⟨bb,0,none⟩ (.slice A_ Gl.length c_)).setCell ⟨bb,1,none⟩ (.int .i64 ng)):=zd (zd hb_ hbb) hbb;have H9_15:=zh hbx_;have H6_15:=zh (zD H6_12.out hb15);have H8_15:=zh (zD H8_12.out hb15);have HW15:=zh (Kd.F_below HW12.out hb15);have HX15:=zh (Kd.S_below HX12.out hb15);have B6G : Aside0 (b6<w12.heap.size):=⟨Nat.lt_of_lt_of_le B6L.out L10_12.out⟩;have B9G:=zh hbb;clear hbd hbx_ hS2_ hS3_ hS_ hb_ hbox hbb q0 q1 f0 f1 hsz_ hle_ hb15 HB12 H6_12 H8_12 HW12 HX12 HC10;generalize hw15 : (wt.setCell ⟨bb,0,none⟩ (.slice A_ Gl.length c_)).setCell ⟨bb,1,none⟩ (.int .i64 ng)=w15 at *;clear hw15;obtain ⟨Ag,rfl⟩ : ∃ A,A=A_:=⟨_,rfl⟩;obtain ⟨cg,rfl⟩ : ∃ c,c=c_:=⟨_,rfl⟩;obtain ⟨b9,rfl⟩ : ∃ b,b=bb:=⟨_,rfl⟩;have k0:=zz H9_15.out 0;have k1:=zz H9_15.out 1;have k2:=zz H6_15.out 0;have k3:=zz H6_15.out 1
 go_wp2_with fail
 go_at_call 14
 refine (F0a.calls k Ag cg Gl ng Aw cw Wl nw true w15 (Kd.S_reads' HG15.out).2.2 (Kd.S_reads' HG15.out).2.1 (Kd.F_now HW15.out) HLw.out hq1).mono ?_;rintro e w16 ⟨rfl,hb_⟩;have H6_16:=zh (zD H6_15.out hb_);have H8_16:=zh (zD H8_15.out hb_);have H9_16:=zh (zD H9_15.out hb_);have HW16:=zh (Kd.F_below HW15.out hb_);have HX16:=zh (Kd.S_below HX15.out hb_);have HG16:=zh (Kd.S_below HG15.out hb_);have HB16:=zh (zC HB15.out hb_);clear H6_15 H8_15 H9_15 HW15 HX15 HG15 HB15 hb_ k0 k1 k2 k3;have qd0 : (d0 == d0)=true:=beq_self_eq_true _;have qd1 : (d1 == d1)=true:=beq_self_eq_true _
 go_wp2_with fail
 have HC13 : Aside0 (∀ W1,Below w16.heap.size w16 W1→(W1.cell? ⟨b8,0,none⟩=some (.slice Ax T1.length cx)∧W1.cell? ⟨b8,1,none⟩=some (.int .i64 n1)∧W1.cell? ⟨g0,0,none⟩=some (.slice A0_0 l0_0.length c0_0)∧W1.cell? ⟨g0,1,none⟩=some (.int .i64 a0_1))):=⟨fun W1 hb=>⟨(zz (zD H8_16.out hb) 0).trans rfl,(zz (zD H8_16.out hb) 1).trans rfl,(HCE.out W1 (zC HB16.out hb)).1,(HCE.out W1 (zC HB16.out hb)).2.1⟩⟩;refine start_ (n:=5) (S:=fun w' => w'.cell? ⟨b8,0,none⟩=some (.slice Ax T1.length cx)∧w'.cell? ⟨b8,1,none⟩=some (.int .i64 n1)∧w'.cell? ⟨g0,0,none⟩=some (.slice A0_0 l0_0.length c0_0)∧w'.cell? ⟨g0,1,none⟩=some (.int .i64 a0_1)) (ds:=[3]) #[false,false,false,false,false] jA rfl rfl ⟨(HC13.out _ (zc (Below.refl w16.heap.size w16))).1,(HC13.out _ (zc (Below.refl w16.heap.size w16))).2.1,(HC13.out _ (zc (Below.refl w16.heap.size w16))).2.2.1,(HC13.out _ (zc (Below.refl w16.heap.size w16))).2.2.2⟩ (fun hHeld=>?_);refine take_ (i:=0) (N:=some 62) (v:=?_) (a':=?_) #[true,false,false,false,false] rfl rfl jA (fun _ _ _ h=>h) (Or.inl ⟨by rfl,?_⟩) hHeld ?_ ?_;rotate_left
 ·
  rintro w' ⟨s0,s1,s2,s3⟩
  go_simp
  with_reducible rfl
 rotate_left
 exact jc
 refine take_ (i:=1) (N:=some 63) (v:=?_) (a':=?_) #[true,true,false,false,false] rfl rfl jA (fun _ _ _ h=>h) (Or.inl ⟨by rfl,?_⟩) hHeld ?_ ?_;rotate_left
 ·
  rintro w' ⟨s0,s1,s2,s3⟩
  go_simp
  with_reducible rfl
 rotate_left
 exact jc
 refine one_ (i:=2) (N:=some 64) #[true,true,true,false,false] rfl rfl jA jB (fun K hK=>?_);refine goes_ Try.func9 jA rfl #[.agg #[.slice A0_0 l0_0.length c0_0,.int .i64 a0_1]] (by rfl) rfl rfl jI ?_
 with_reducible refine (F0b.calls k A0_0 c0_0 l0_0 a0_1 T1 n1 _ (HCX.out _ (zC HB16.out (zc (Below.refl w16.heap.size w16)))) hc0_0 hT).mono ?_
 rintro e w17 ⟨v_,rfl,hS_,hb_⟩;refine ⟨_,rfl,?_⟩;obtain ⟨Ay,cy,rfl⟩:=Kd.S_slice hS_;have hb17:=zC (zc (Below.refl w16.heap.size w16)) hb_;refine hK.out _ _ ⟨(HC13.out _ hb17).1,(HC13.out _ hb17).2.1,(HC13.out _ hb17).2.2.1,(HC13.out _ hb17).2.2.2⟩ (fun hHeld=>?_);clear hK K;refine norm_ (a':=?_) ?_ ?_;rotate_left
 ·
  show Act.put _ (some 64) _=_
  simp only [Act.put,zi,zj,zk,zG,zH]
  rfl
 refine last_ (i:=3) (N:=some 65) #[true,true,true,true,false] rfl rfl jA jB (fun K hK=>?_);refine goes_ Try.func14 jA rfl #[.agg #[.slice Ax T1.length cx,.int .i64 n1],.agg #[.slice Ay T1.length cy,.int .i64 n1]] (by rfl) rfl rfl jI ?_
 with_reducible refine (F0a.calls k Ax cx T1 n1 Ay cy T1 n1 true _ (Kd.S_reads' (Kd.S_below HX16.out hb17)).2.2 (Kd.S_reads' HX16.out).2.1 (Kd.S_reads' hS_).2.2 (Kd.S_reads' hS_).2.1 hq2).mono ?_
 rintro e w18 ⟨rfl,hb18⟩;refine ⟨_,rfl,?_⟩;refine hK.out _ _ ?_;clear hK K;refine norm_ (a':=?_) ?_ ?_;rotate_left
 ·
  show Act.put _ (some 65) _=_
  simp only [Act.put,zi,zj,zk,zG,zH]
  rfl
 refine pure_ (i:=4) (N:=some 66) (v:=?_) (a':=?_) #[true,true,true,true,true] rfl rfl jA (fun _ _ _ h=>h) (Or.inl ⟨by rfl,?_⟩) ?_ ?_;rotate_left;exact jb;rotate_left;exact jc
 refine done_ jA ?_;have hb1618:=zC hb17 hb18;clear hS_ hb_ hb17 hb18 HC13;have H6_18:=zh (zD H6_16.out hb1618);have H8_18:=zh (zD H8_16.out hb1618);have H9_18:=zh (zD H9_16.out hb1618);have HW18:=zh (Kd.F_below HW16.out hb1618);have HX18:=zh (Kd.S_below HX16.out hb1618);have HG18:=zh (Kd.S_below HG16.out hb1618);have HB18:=zh (zC HB16.out hb1618);clear H6_16 H8_16 H9_16 HW16 HX16 HG16 HB16 hb1618;have k0:=zz H8_18.out 0;have k1:=zz H8_18.out 1
 go_wp2_with fail
 go_at_call 15
 refine (laws_markTree.marks k (fun k_=>w10.heap.size≤k_∧k_<w11.heap.size) (.slice Ax T1.length cx) T1 n1 1 m1 M1 V w18 HB18.out HX18.out hlT hM1).mono ?_;rintro e w19 ⟨rfl,-,hB_,hK_⟩;have HB19:=zh hB_;have H6_19:=zh (blk_kept H6_18.out hK_ (fun hk=>absurd B6L.out (Nat.not_lt.2 hk.1)));have H9_19:=zh (blk_kept H9_18.out hK_ (fun hk=>absurd (Nat.lt_of_lt_of_le hk.2 (Nat.le_trans L11_12.out B9G.out)) (Nat.lt_irrefl _)));have HW19:=zh (Kd.F_kept HW18.out hK_ (fun k hk hp=>absurd hk.1 (Nat.not_lt.2 hp.1)));have HG19:=zh (Kd.S_kept HG18.out hK_ (fun k hk hp=>absurd (Nat.lt_of_lt_of_le hp.2 L11_12.out) (Nat.not_lt.2 hk.1)));clear hB_ hK_ k0 k1 HB18 H6_18 H8_18 H9_18 HW18 HX18 HG18;have k0:=zz H9_19.out 0;have k1:=zz H9_19.out 1;have k2:=zz H6_19.out 0;have k3:=zz H6_19.out 1
 go_wp2_with fail
 go_at_call 14
 refine (F0a.calls k Ag cg Gl ng Aw cw Wl nw true w19 (Kd.S_reads' HG19.out).2.2 (Kd.S_reads' HG19.out).2.1 (Kd.F_now HW19.out) HLw.out hq1).mono ?_;rintro e w20 ⟨rfl,hb_⟩;have H6_20:=zh (zD H6_19.out hb_);have H9_20:=zh (zD H9_19.out hb_);have HW20:=zh (Kd.F_below HW19.out hb_);have HG20:=zh (Kd.S_below HG19.out hb_);have HB20:=zh (zC HB19.out hb_);clear H6_19 H9_19 HW19 HG19 HB19 hb_ k0 k1 k2 k3;have k0:=zz H9_20.out 0;have k1:=zz H9_20.out 1
 go_wp2_with fail
 go_at_call 15
 refine (laws_markTree.marks k (fun k_=>w12.heap.size≤k_∧k_≠b9) (.slice Ag Gl.length cg) Gl ng 1 q M2 V w20 HB20.out HG20.out hlG hM2).mono ?_;rintro e w21 ⟨rfl,hS_,hB_,hK_⟩;have HB21:=zh hB_;have H6_21:=zh (blk_kept H6_20.out hK_ (fun hk=>absurd B6G.out (Nat.not_lt.2 hk.1)));have H9_21:=zh (blk_kept H9_20.out hK_ (fun hk=>hk.2 rfl));have HW21:=zh (Kd.F_kept HW20.out hK_ (fun k hk hp=>absurd (Nat.lt_of_lt_of_le hk.1 L10_12.out) (Nat.not_lt.2 hp.1)));have HlM : Aside0 (Gl.length=M2.length):=⟨(Kd.S_reads' hS_).1⟩;have HG21:=zh hS_;clear hS_ hB_ hK_ k0 k1 HB20 H6_20 H9_20 HW20 HG20;have k0:=zz H9_21.out 0;have k1:=zz H9_21.out 1
 go_wp2_with fail
 go_at_call 24
 have hh_:=F0i.calls k Ag cg M2 ng 1 q w21 (Kd.S_reads' HG21.out).2.2 (by rw [← HlM.out];exact (Kd.S_reads' HG21.out).2.1) hq;rw [← HlM.out] at hh_;refine hh_.mono ?_;clear hh_;rintro e w22 ⟨rfl,hb_⟩;have H6_22:=zh (zD H6_21.out hb_);have H9_22:=zh (zD H9_21.out hb_);have HW22:=zh (Kd.F_below HW21.out hb_);have HG22:=zh (Kd.S_below HG21.out hb_);have HB22:=zh (zC HB21.out hb_);clear H6_21 H9_21 HW21 HG21 HB21 hb_ k0 k1;have qq : (q == q)=true:=beq_self_eq_true _
 go_wp2_with fail
 have HC22 : Aside0 (∀ W1,Below w22.heap.size w22 W1→(W1.cell? ⟨g0,0,none⟩=some (.slice A0_0 l0_0.length c0_0)∧W1.cell? ⟨g0,1,none⟩=some (.int .i64 a0_1)∧W1.cell? ⟨g1,0,none⟩=some (.string a1_0)∧W1.cell? ⟨g1,1,none⟩=some (.int .i64 a1_1))):=⟨fun W1 hb=>HCE.out W1 (zC HB22.out hb)⟩;have hbd : Below w22.heap.size w22 w22.drew:=zc (Below.refl _ _);refine start_ (n:=13) (S:=fun w' => w'.cell? ⟨g0,0,none⟩=some (.slice A0_0 l0_0.length c0_0)∧w'.cell? ⟨g0,1,none⟩=some (.int .i64 a0_1)∧w'.cell? ⟨g1,0,none⟩=some (.string a1_0)∧w'.cell? ⟨g1,1,none⟩=some (.int .i64 a1_1)) (ds:=[10]) (bm_ 0 13) jA rfl rfl ⟨(HC22.out _ hbd).1,(HC22.out _ hbd).2.1,(HC22.out _ hbd).2.2.1,(HC22.out _ hbd).2.2.2⟩ (fun hHeld=>?_);generalize w22.drew=wd at hbd hHeld ⊢;refine take_ (i:=0) (N:=some 100) (v:=?_) (a':=?_) (bm_ 1 13) rfl rfl jA (fun _ _ _ h=>h) (Or.inl ⟨by rfl,?_⟩) hHeld ?_ ?_;rotate_left
 ·
  rintro w' ⟨s0,s1,s2,s3⟩
  go_simp
  with_reducible rfl
 rotate_left
 exact jc
 refine take_ (i:=2) (N:=some 102) (v:=?_) (a':=?_) #[true,false,true,false,false,false,false,false,false,false,false,false,false] rfl rfl jA (fun _ _ _ h=>h) (Or.inl ⟨by rfl,?_⟩) hHeld ?_ ?_;rotate_left
 ·
  rintro w' ⟨s0,s1,s2,s3⟩
  go_simp
  with_reducible rfl
 rotate_left
 exact jc
 refine join_ (σ:=Nat×(Option Addr×Nat)×(Option Addr×Nat)) 3 (bm_ 10 13) (fun s => [(16,.pointer (some ⟨s.1,0,none⟩)),(101,.agg #[.slice s.2.2.1 T1.length s.2.2.2,.int .i64 n1]),(103,.agg #[.string E1,.int .i64 i1]),(104,.tuple #[.agg #[.slice s.2.1.1 Gl.length s.2.1.2,.int .i64 ng],.int .i64 d0,.int .i64 d1]),(99,.tuple #[.agg #[.slice s.2.1.1 Gl.length s.2.1.2,.int .i64 ng],.int .i64 d0,.int .i64 d1]),(105,.agg #[.slice s.2.1.1 Gl.length s.2.1.2,.int .i64 ng]),(106,.int .i64 d0),(107,.int .i64 d1)]) (fun s w' => w'.heap[s.1]? = some (.cells #[.slice none 0 0,.int .i64 0] 35 (0,0))∧w22.heap.size≤s.1∧Kd.S k67 67 w' w22.heap.size (fun _=>True) (.slice s.2.1.1 Gl.length s.2.1.2) Gl∧Below w22.heap.size w22 w') ?_ ?_;rotate_left
 ·
  intro hCont
  refine two_ (i:=1) (j:=9) (Ni:=some 101) (Nj:=some 16) (bm_ 3 13) #[true,false,true,false,false,false,false,false,false,true,false,false,false] rfl rfl rfl rfl jA jB jB (fun K hK=>?_) (fun K hK=>?_)
  ·
   skip
   refine goes_ Try.func9 jA rfl #[.agg #[.slice A0_0 l0_0.length c0_0,.int .i64 a0_1]] (by rfl) rfl rfl jI ?_
   with_reducible refine (F0b.calls k A0_0 c0_0 l0_0 a0_1 T1 n1 _ (HCX.out _ (zC HB22.out hbd)) hc0_0 hT).mono ?_
   rintro e w_1 ⟨v_1,rfl,hS_1,hb_1⟩;refine ⟨_,rfl,?_⟩;obtain ⟨At,ct,rfl⟩:=Kd.S_slice hS_1;have hbx1:=zC hbd hb_1;refine hK.out _ _ ⟨(HC22.out _ hbx1).1,(HC22.out _ hbx1).2.1,(HC22.out _ hbx1).2.2.1,(HC22.out _ hbx1).2.2.2⟩ (fun hHeld=>?_);clear hK K;refine norm_ (a':=?_) ?_ ?_;rotate_left
   ·
    show Act.put _ (some 101) _=_
    simp only [Act.put,zi,zj,zk,zG,zH]
    rfl
   refine two_ (i:=3) (j:=9) (Ni:=some 103) (Nj:=some 16) (bm_ 4 13) #[true,true,true,false,false,false,false,false,false,true,false,false,false] rfl rfl rfl rfl jA jB jB (fun K hK=>?_) (fun K hK=>?_)
   ·
    skip
    refine goes_ Try.func22 jA rfl #[.agg #[.string a1_0,.int .i64 a1_1]] (by rfl) rfl rfl jI ?_
    with_reducible refine (F9.calls a1_0 a1_1 E1 i1 _ hE).mono ?_
    rintro e w_3 ⟨rfl,hb_3⟩;refine ⟨_,rfl,?_⟩;have hbx3:=zC hbx1 hb_3;refine hK.out _ _ ⟨(HC22.out _ hbx3).1,(HC22.out _ hbx3).2.1,(HC22.out _ hbx3).2.2.1,(HC22.out _ hbx3).2.2.2⟩ (fun hHeld=>?_);clear hK K;refine norm_ (a':=?_) ?_ ?_;rotate_left
    ·
     show Act.put _ (some 103) _=_
     simp only [Act.put,zi,zj,zk,zG,zH]
     rfl
    refine two_ (i:=4) (j:=9) (Ni:=some 104) (Nj:=some 16) (bm_ 5 13) #[true,true,true,true,false,false,false,false,false,true,false,false,false] rfl rfl rfl rfl jA jB jB (fun K hK=>?_) (fun K hK=>?_)
    ·
     skip
     refine goes_ Try.func26 jA rfl #[.agg #[.slice At T1.length ct,.int .i64 n1],.agg #[.string E1,.int .i64 i1]] (by rfl) rfl rfl jI ?_
     with_reducible refine (F07.calls k At ct T1 n1 E1 i1 Gl ng d0 d1 _ (Kd.S_reads' ((Kd.S_below hS_1 hb_3))).2.2 (Kd.S_reads' hS_1).2.1 hG).mono ?_
     rintro e w_4 ⟨v_4,rfl,hS_4,hb_4⟩;refine ⟨_,rfl,?_⟩;obtain ⟨A_,c_,rfl⟩:=Kd.S_slice hS_4;have hbx4:=zC hbx3 hb_4;refine hK.out _ _ ⟨(HC22.out _ hbx4).1,(HC22.out _ hbx4).2.1,(HC22.out _ hbx4).2.2.1,(HC22.out _ hbx4).2.2.2⟩ (fun hHeld=>?_);clear hK K;refine norm_ (a':=?_) ?_ ?_;rotate_left
     ·
      show Act.put _ (some 104) _=_
      simp only [Act.put,zi,zj,zk,zG,zH]
      rfl
     refine pure_ (i:=5) (N:=some 99) (v:=?_) (a':=?_) (bm_ 6 13) rfl rfl jA (fun _ _ _ h=>h) (Or.inl ⟨by rfl,?_⟩) ?_ ?_;rotate_left;exact jb;rotate_left;exact jc
     refine pure_ (i:=6) (N:=some 105) (v:=?_) (a':=?_) (bm_ 7 13) rfl rfl jA (fun _ _ _ h=>h) (Or.inl ⟨by rfl,?_⟩) ?_ ?_;rotate_left;exact jb;rotate_left;exact jc
     refine pure_ (i:=7) (N:=some 106) (v:=?_) (a':=?_) (bm_ 8 13) rfl rfl jA (fun _ _ _ h=>h) (Or.inl ⟨by rfl,?_⟩) ?_ ?_;rotate_left;exact jb;rotate_left;exact jc
     refine pure_ (i:=8) (N:=some 107) (v:=?_) (a':=?_) (bm_ 9 13) rfl rfl jA (fun _ _ _ h=>h) (Or.inl ⟨by rfl,?_⟩) ?_ ?_;rotate_left;exact jb;rotate_left;exact jc
     refine one_ (i:=9) (N:=some 16) (bm_ 10 13) rfl rfl jA jB (fun K hK=>?_);refine value_ (w1:=?_) (v:=?_) (by rfl) rfl ?_ ?_;rotate_left 2
     ·
      go_simp
      constructor
      ·
       rfl
      rfl
     refine hK.out _ _ ⟨(HC22.out _ (za hbx4 _)).1,(HC22.out _ (za hbx4 _)).2.1,(HC22.out _ (za hbx4 _)).2.2.1,(HC22.out _ (za hbx4 _)).2.2.2⟩ (fun hHeld=>?_);clear hK K;refine norm_ (a':=?_) ?_ ?_;rotate_left
     ·
      show Act.put _ (some 16) _=_
      simp only [Act.put,zi,zj,zk,zG,zH]
      rfl
     exact norm_ jM (hCont (w_4.heap.size,(A_,c_),(At,ct)) _ ⟨(blk_new w_4 _),hbx4.size,(Kd.S_alloc (Kd.S_lower hS_4 hbx3.size) _),(za hbx4 _)⟩)
    skip
    refine value_ (w1:=?_) (v:=?_) (by rfl) rfl ?_ ?_;rotate_left 2
    ·
     go_simp
     constructor
     ·
      rfl
     rfl
    refine hK.out _ _ ⟨(HC22.out _ (za hbx3 _)).1,(HC22.out _ (za hbx3 _)).2.1,(HC22.out _ (za hbx3 _)).2.2.1,(HC22.out _ (za hbx3 _)).2.2.2⟩ (fun hHeld=>?_);clear hK K;refine norm_ (a':=?_) ?_ ?_;rotate_left
    ·
     show Act.put _ (some 16) _=_
     simp only [Act.put,zi,zj,zk,zG,zH]
     rfl
    refine one_ (i:=4) (N:=some 104) #[true,true,true,true,true,false,false,false,false,true,false,false,false] rfl rfl jA jB (fun K hK=>?_);refine goes_ Try.func26 jA rfl #[.agg #[.slice At T1.length ct,.int .i64 n1],.agg #[.string E1,.int .i64 i1]] (by rfl) rfl rfl jI ?_
    with_reducible refine (F07.calls k At ct T1 n1 E1 i1 Gl ng d0 d1 _ (Kd.S_reads' ((Kd.S_alloc (Kd.S_below hS_1 hb_3) _))).2.2 (Kd.S_reads' hS_1).2.1 hG).mono ?_
    rintro e w_4 ⟨v_4,rfl,hS_4,hb_4⟩;refine ⟨_,rfl,?_⟩;obtain ⟨A_,c_,rfl⟩:=Kd.S_slice hS_4;have hbx4:=zC (za hbx3 _) hb_4;refine hK.out _ _ ⟨(HC22.out _ hbx4).1,(HC22.out _ hbx4).2.1,(HC22.out _ hbx4).2.2.1,(HC22.out _ hbx4).2.2.2⟩ (fun hHeld=>?_);clear hK K;refine norm_ (a':=?_) ?_ ?_;rotate_left
    ·
     show Act.put _ (some 104) _=_
     simp only [Act.put,zi,zj,zk,zG,zH]
     rfl
    refine pure_ (i:=5) (N:=some 99) (v:=?_) (a':=?_) #[true,true,true,true,true,true,false,false,false,true,false,false,false] rfl rfl jA (fun _ _ _ h=>h) (Or.inl ⟨by rfl,?_⟩) ?_ ?_;rotate_left;exact jb;rotate_left;exact jc
    refine pure_ (i:=6) (N:=some 105) (v:=?_) (a':=?_) #[true,true,true,true,true,true,true,false,false,true,false,false,false] rfl rfl jA (fun _ _ _ h=>h) (Or.inl ⟨by rfl,?_⟩) ?_ ?_;rotate_left;exact jb;rotate_left;exact jc
    refine pure_ (i:=7) (N:=some 106) (v:=?_) (a':=?_) #[true,true,true,true,true,true,true,true,false,true,false,false,false] rfl rfl jA (fun _ _ _ h=>h) (Or.inl ⟨by rfl,?_⟩) ?_ ?_;rotate_left;exact jb;rotate_left;exact jc
    refine pure_ (i:=8) (N:=some 107) (v:=?_) (a':=?_) (bm_ 10 13) rfl rfl jA (fun _ _ _ h=>h) (Or.inl ⟨by rfl,?_⟩) ?_ ?_;rotate_left;exact jb;rotate_left;exact jc
    exact norm_ jM (hCont (w_3.heap.size,(A_,c_),(At,ct)) _ ⟨(zD (blk_new w_3 _) hb_4),hbx3.size,(Kd.S_lower hS_4 (za hbx3 _).size),hbx4⟩)
   skip
   refine value_ (w1:=?_) (v:=?_) (by rfl) rfl ?_ ?_;rotate_left 2
   ·
    go_simp
    constructor
    ·
     rfl
    rfl
   refine hK.out _ _ ⟨(HC22.out _ (za hbx1 _)).1,(HC22.out _ (za hbx1 _)).2.1,(HC22.out _ (za hbx1 _)).2.2.1,(HC22.out _ (za hbx1 _)).2.2.2⟩ (fun hHeld=>?_);clear hK K;refine norm_ (a':=?_) ?_ ?_;rotate_left
   ·
    show Act.put _ (some 16) _=_
    simp only [Act.put,zi,zj,zk,zG,zH]
    rfl
   refine one_ (i:=3) (N:=some 103) #[true,true,true,true,false,false,false,false,false,true,false,false,false] rfl rfl jA jB (fun K hK=>?_);refine goes_ Try.func22 jA rfl #[.agg #[.string a1_0,.int .i64 a1_1]] (by rfl) rfl rfl jI ?_
   with_reducible refine (F9.calls a1_0 a1_1 E1 i1 _ hE).mono ?_
   rintro e w_3 ⟨rfl,hb_3⟩;refine ⟨_,rfl,?_⟩;have hbx3:=zC (za hbx1 _) hb_3;refine hK.out _ _ ⟨(HC22.out _ hbx3).1,(HC22.out _ hbx3).2.1,(HC22.out _ hbx3).2.2.1,(HC22.out _ hbx3).2.2.2⟩ (fun hHeld=>?_);clear hK K;refine norm_ (a':=?_) ?_ ?_;rotate_left
   ·
    show Act.put _ (some 103) _=_
    simp only [Act.put,zi,zj,zk,zG,zH]
    rfl
   refine one_ (i:=4) (N:=some 104) #[true,true,true,true,true,false,false,false,false,true,false,false,false] rfl rfl jA jB (fun K hK=>?_);refine goes_ Try.func26 jA rfl #[.agg #[.slice At T1.length ct,.int .i64 n1],.agg #[.string E1,.int .i64 i1]] (by rfl) rfl rfl jI ?_
   with_reducible refine (F07.calls k At ct T1 n1 E1 i1 Gl ng d0 d1 _ (Kd.S_reads' ((Kd.S_below (Kd.S_alloc hS_1 _) hb_3))).2.2 (Kd.S_reads' hS_1).2.1 hG).mono ?_
   rintro e w_4 ⟨v_4,rfl,hS_4,hb_4⟩;refine ⟨_,rfl,?_⟩;obtain ⟨A_,c_,rfl⟩:=Kd.S_slice hS_4;have hbx4:=zC hbx3 hb_4;refine hK.out _ _ ⟨(HC22.out _ hbx4).1,(HC22.out _ hbx4).2.1,(HC22.out _ hbx4).2.2.1,(HC22.out _ hbx4).2.2.2⟩ (fun hHeld=>?_);clear hK K;refine norm_ (a':=?_) ?_ ?_;rotate_left
   ·
    show Act.put _ (some 104) _=_
    simp only [Act.put,zi,zj,zk,zG,zH]
    rfl
   refine pure_ (i:=5) (N:=some 99) (v:=?_) (a':=?_) #[true,true,true,true,true,true,false,false,false,true,false,false,false] rfl rfl jA (fun _ _ _ h=>h) (Or.inl ⟨by rfl,?_⟩) ?_ ?_;rotate_left;exact jb;rotate_left;exact jc
   refine pure_ (i:=6) (N:=some 105) (v:=?_) (a':=?_) #[true,true,true,true,true,true,true,false,false,true,false,false,false] rfl rfl jA (fun _ _ _ h=>h) (Or.inl ⟨by rfl,?_⟩) ?_ ?_;rotate_left;exact jb;rotate_left;exact jc
   refine pure_ (i:=7) (N:=some 106) (v:=?_) (a':=?_) #[true,true,true,true,true,true,true,true,false,true,false,false,false] rfl rfl jA (fun _ _ _ h=>h) (Or.inl ⟨by rfl,?_⟩) ?_ ?_;rotate_left;exact jb;rotate_left;exact jc
   refine pure_ (i:=8) (N:=some 107) (v:=?_) (a':=?_) (bm_ 10 13) rfl rfl jA (fun _ _ _ h=>h) (Or.inl ⟨by rfl,?_⟩) ?_ ?_;rotate_left;exact jb;rotate_left;exact jc
   exact norm_ jM (hCont (w_1.heap.size,(A_,c_),(At,ct)) _ ⟨(zD (zD (blk_new w_1 _) hb_3) hb_4),hbx1.size,(Kd.S_lower hS_4 hbx3.size),hbx4⟩)
  skip
  refine value_ (w1:=?_) (v:=?_) (by rfl) rfl ?_ ?_;rotate_left 2
  ·
   go_simp
   constructor
   ·
    rfl
   rfl
  refine hK.out _ _ ⟨(HC22.out _ (za hbd _)).1,(HC22.out _ (za hbd _)).2.1,(HC22.out _ (za hbd _)).2.2.1,(HC22.out _ (za hbd _)).2.2.2⟩ (fun hHeld=>?_);clear hK K;refine norm_ (a':=?_) ?_ ?_;rotate_left
  ·
   show Act.put _ (some 16) _=_
   simp only [Act.put,zi,zj,zk,zG,zH]
   rfl
  refine one_ (i:=1) (N:=some 101) #[true,true,true,false,false,false,false,false,false,true,false,false,false] rfl rfl jA jB (fun K hK=>?_);refine goes_ Try.func9 jA rfl #[.agg #[.slice A0_0 l0_0.length c0_0,.int .i64 a0_1]] (by rfl) rfl rfl jI ?_
  with_reducible refine (F0b.calls k A0_0 c0_0 l0_0 a0_1 T1 n1 _ (HCX.out _ (zC HB22.out (za hbd _))) hc0_0 hT).mono ?_
  rintro e w_1 ⟨v_1,rfl,hS_1,hb_1⟩;refine ⟨_,rfl,?_⟩;obtain ⟨At,ct,rfl⟩:=Kd.S_slice hS_1;have hbx1:=zC (za hbd _) hb_1;refine hK.out _ _ ⟨(HC22.out _ hbx1).1,(HC22.out _ hbx1).2.1,(HC22.out _ hbx1).2.2.1,(HC22.out _ hbx1).2.2.2⟩ (fun hHeld=>?_);clear hK K;refine norm_ (a':=?_) ?_ ?_;rotate_left
  ·
   show Act.put _ (some 101) _=_
   simp only [Act.put,zi,zj,zk,zG,zH]
   rfl
  refine one_ (i:=3) (N:=some 103) #[true,true,true,true,false,false,false,false,false,true,false,false,false] rfl rfl jA jB (fun K hK=>?_);refine goes_ Try.func22 jA rfl #[.agg #[.string a1_0,.int .i64 a1_1]] (by rfl) rfl rfl jI ?_
  with_reducible refine (F9.calls a1_0 a1_1 E1 i1 _ hE).mono ?_
  rintro e w_3 ⟨rfl,hb_3⟩;refine ⟨_,rfl,?_⟩;have hbx3:=zC hbx1 hb_3;refine hK.out _ _ ⟨(HC22.out _ hbx3).1,(HC22.out _ hbx3).2.1,(HC22.out _ hbx3).2.2.1,(HC22.out _ hbx3).2.2.2⟩ (fun hHeld=>?_);clear hK K;refine norm_ (a':=?_) ?_ ?_;rotate_left
  ·
   show Act.put _ (some 103) _=_
   simp only [Act.put,zi,zj,zk,zG,zH]
   rfl
  refine one_ (i:=4) (N:=some 104) #[true,true,true,true,true,false,false,false,false,true,false,false,false] rfl rfl jA jB (fun K hK=>?_);refine goes_ Try.func26 jA rfl #[.agg #[.slice At T1.length ct,.int .i64 n1],.agg #[.string E1,.int .i64 i1]] (by rfl) rfl rfl jI ?_
  with_reducible refine (F07.calls k At ct T1 n1 E1 i1 Gl ng d0 d1 _ (Kd.S_reads' ((Kd.S_below hS_1 hb_3))).2.2 (Kd.S_reads' hS_1).2.1 hG).mono ?_
  rintro e w_4 ⟨v_4,rfl,hS_4,hb_4⟩;refine ⟨_,rfl,?_⟩;obtain ⟨A_,c_,rfl⟩:=Kd.S_slice hS_4;have hbx4:=zC hbx3 hb_4;refine hK.out _ _ ⟨(HC22.out _ hbx4).1,(HC22.out _ hbx4).2.1,(HC22.out _ hbx4).2.2.1,(HC22.out _ hbx4).2.2.2⟩ (fun hHeld=>?_);clear hK K;refine norm_ (a':=?_) ?_ ?_;rotate_left
  ·
   show Act.put _ (some 104) _=_
   simp only [Act.put,zi,zj,zk,zG,zH]
   rfl
  refine pure_ (i:=5) (N:=some 99) (v:=?_) (a':=?_) #[true,true,true,true,true,true,false,false,false,true,false,false,false] rfl rfl jA (fun _ _ _ h=>h) (Or.inl ⟨by rfl,?_⟩) ?_ ?_;rotate_left;exact jb;rotate_left;exact jc
  refine pure_ (i:=6) (N:=some 105) (v:=?_) (a':=?_) #[true,true,true,true,true,true,true,false,false,true,false,false,false] rfl rfl jA (fun _ _ _ h=>h) (Or.inl ⟨by rfl,?_⟩) ?_ ?_;rotate_left;exact jb;rotate_left;exact jc
  refine pure_ (i:=7) (N:=some 106) (v:=?_) (a':=?_) #[true,true,true,true,true,true,true,true,false,true,false,false,false] rfl rfl jA (fun _ _ _ h=>h) (Or.inl ⟨by rfl,?_⟩) ?_ ?_;rotate_left;exact jb;rotate_left;exact jc
  refine pure_ (i:=8) (N:=some 107) (v:=?_) (a':=?_) (bm_ 10 13) rfl rfl jA (fun _ _ _ h=>h) (Or.inl ⟨by rfl,?_⟩) ?_ ?_;rotate_left;exact jb;rotate_left;exact jc
  exact norm_ jM (hCont (wd.heap.size,(A_,c_),(At,ct)) _ ⟨(zD (zD (zD (blk_new wd _) hb_1) hb_3) hb_4),hbd.size,(Kd.S_lower hS_4 hbx3.size),hbx4⟩)
 rintro ⟨bb,⟨A_,c_⟩,s3⟩ wt ⟨hbox,hbb,hS_,hb_⟩;have q0:=zz hbox 0;have q1:=zz hbox 1;have f0:=zA hbox 0;have f1:=zA hbox 1;refine norm_ (a':=?_) ?_ ?_;rotate_left
 ·
  simp only [putAll,Act.put,zi,zj,zk]
  rfl
 refine last_ (i:=10) (N:=none) (bm_ 11 13) rfl rfl jA jB (fun K hK=>?_);refine skip_ (w1:=?_) (by rfl) rfl ?_ ?_;rotate_left
 ·
  go_simp
  rfl
 refine hK.out _ _ ?_;clear hK K;refine pure_ (i:=11) (N:=some 17) (v:=?_) (a':=?_) (bm_ 12 13) rfl rfl jA (fun _ _ _ h=>h) (Or.inl ⟨by rfl,?_⟩) ?_ ?_;rotate_left;exact jb;rotate_left;exact jc
 refine pure_ (i:=12) (N:=some 18) (v:=?_) (a':=?_) (bm_ 13 13) rfl rfl jA (fun _ _ _ h=>h) (Or.inl ⟨by rfl,?_⟩) ?_ ?_;rotate_left;exact jb;rotate_left;exact jc
 refine done_ jA ?_;have hbx_ : ((wt.setCell ⟨bb,0,none⟩ (.slice A_ Gl.length c_)).setCell ⟨bb,1,none⟩ (.int .i64 ng)).heap[bb]? = some (.cells #[.slice A_ Gl.length c_,.int .i64 ng] 35 (0,0)):=blk_set (blk_set hbox 0 (.slice A_ Gl.length c_)) 1 (.int .i64 ng);have hS2_:=Kd.S_types hS_ hbox jB;have hS3_:=Kd.S_far (p:=⟨bb,1,none⟩) (Kd.S_far (p:=⟨bb,0,none⟩) hS2_ (fun _ hk=>hk.2) (.slice A_ Gl.length c_)) (fun _ hk=>hk.2) (.int .i64 ng);have hsz_ : ((wt.setCell ⟨bb,0,none⟩ (.slice A_ Gl.length c_)).setCell ⟨bb,1,none⟩ (.int .i64 ng)).heap.size=wt.heap.size:=by simp
 have HH30:=zh hS3_;have HX_30:=zh hbx_;have hb30 : Below w22.heap.size w22 ((wt.setCell ⟨bb,0,none⟩ (.slice A_ Gl.length c_)).setCell ⟨bb,1,none⟩ (.int .i64 ng)):=zd (zd hb_ hbb) hbb;clear hbd hbx_ hS2_ hS3_ hS_ hb_ hbox hbb q0 q1 f0 f1 hsz_ HC22;generalize hw30 : (wt.setCell ⟨bb,0,none⟩ (.slice A_ Gl.length c_)).setCell ⟨bb,1,none⟩ (.int .i64 ng)=w30 at *;clear hw30;have H6_30:=zh (zD H6_22.out hb30);have H9_30:=zh (zD H9_22.out hb30);have HW30:=zh (Kd.F_below HW22.out hb30);have HG30:=zh (Kd.S_below HG22.out hb30);have HB30:=zh (zC HB22.out hb30);clear H6_22 H9_22 HW22 HG22 HB22 hb30;have k0:=zz HX_30.out 0;have k1:=zz HX_30.out 1;have k2:=zz H6_30.out 0;have k3:=zz H6_30.out 1
 go_wp2_with fail
 go_at_call 14
 refine (F0a.calls k A_ c_ Gl ng Aw cw Wl nw true w30 (Kd.S_reads' HH30.out).2.2 (Kd.S_reads' HH30.out).2.1 (Kd.F_now HW30.out) HLw.out hq1).mono ?_;rintro e w31 ⟨rfl,hb_⟩;clear HH30 HX_30;have H6_31:=zh (zD H6_30.out hb_);have H9_31:=zh (zD H9_30.out hb_);have HW31:=zh (Kd.F_below HW30.out hb_);have HG31:=zh (Kd.S_below HG30.out hb_);have HB31:=zh (zC HB30.out hb_);clear H6_30 H9_30 HW30 HG30 HB30 hb_ k0 k1 k2 k3;have k0:=zz H9_31.out 0;have k1:=zz H9_31.out 1
 go_wp2_with fail
 go_at_call 24
 have hh_:=F0i.calls k Ag cg M2 ng 1 q w31 (Kd.S_reads' HG31.out).2.2 (by rw [← HlM.out];exact (Kd.S_reads' HG31.out).2.1) hq;rw [← HlM.out] at hh_;refine hh_.mono ?_;clear hh_;rintro e w32 ⟨rfl,hb_⟩;have HB32:=zh (zC HBV.out (zC HB31.out hb_));clear hb_ k0 k1 H6_31 H9_31 HW31 HG31
 go_wp2_with fail
 go_ret
 exact ⟨rfl,HB32.out⟩

end Go.Proofs.Ytamikhmpfmgofaa.Q
end
section
namespace Go.Proofs.YtamikhmpfmgofaaW.PrintOpen
open Go.RowKit Go.ChangeShapes Go.WideShapes Go.ChangeAt Go.Proofs.YtamikhmpfmgofaaW.PrintWords
def Opens {α : Type} (P : Program) (d : Kd α) (t : TypeId) (good : α→Prop) : Prop :=
 ∀ (H : Type) (enc : TypeId×Value→H) (w : World) (base : Nat) (spare : Nat→Bool) (held : Bool) (fuel : Nat) (cs : List Value) (x : DataW H×List MemPlace),
  DataW.trod enc P w base spare held fuel t cs=some x → ∃ a,d.K w a cs∧good a
variable {P : Program}
theorem opens_int {t : TypeId} {k : IntKind} (ht : P.underlying t=some (.int k)) : Opens P (Kd.int k) t (fun n=>(Lit.int k n).wf=true):=by
 intro H enc w base spare held fuel cs x h;obtain ⟨n,hcs,_,hw⟩:=DataW.trod_int ht h;exact ⟨n,hcs,hw⟩
theorem opens_string {t : TypeId} (ht : P.underlying t=some .string) : Opens P Kd.string t (fun s=>s.size≤9223372036854775807):=by
 intro H enc w base spare held fuel cs x h;obtain ⟨s,hcs,_,hs⟩:=DataW.trod_string ht h;exact ⟨s,hcs,by unfold maxLen at hs;exact hs⟩
theorem opens_slice {α : Type} {t e : TypeId} {d : Kd α} {g : α→Prop} (ht : P.underlying t=some (.slice e)) (hc : P.cellsOf e=d.sz) (he : Opens P d e g) :
  Opens P (Kd.slice e d) t (fun l=>l.length≤9223372036854775807 ∧ ∀ x ∈ l,g x):=by
 intro H enc w base spare held fuel cs x h;rcases Deep.open_slice ht h with ⟨rfl,_⟩|⟨a,len,cap,m,n,D,Pl,rfl,_,hl,hm,hmm,_,hx⟩
 ·
  exact ⟨[],⟨none,0,rfl,Nat.le_refl _,rfl,by simp,fun h0=>absurd h0 (by simp)⟩,by simp,by simp⟩
 have hlm : len≤m:=by rw [hmm];split <;> omega
 have hall : ∀ i : Fin len,∃ v : α×List Value,w.cells? base (a.add (i.1*P.cellsOf e)) (P.cellsOf e)=some v.2∧d.K w v.1 v.2∧g v.1:=fun i=>by
  obtain ⟨cs',h1,h2⟩:=hx i.1 (by have:=i.2;omega);obtain ⟨a',hk,hg⟩:=he H enc w base spare held n cs' _ h2;exact ⟨(a',cs'),h1,hk,hg⟩
 obtain ⟨V,hV⟩:=Classical.axiomOfChoice hall;have hmax : len≤9223372036854775807:=by unfold maxLen at hm;omega
 have hlen : (List.ofFn fun i=>(V i).1).length=len:=List.length_ofFn;refine ⟨List.ofFn fun i=>(V i).1,⟨some a,cap,by rw [hlen],by rw [hlen];exact hl,rfl,by rw [hlen];exact hmax,fun _=>⟨a,rfl,?_⟩⟩,by rw [hlen];exact hmax,?_⟩
 ·
  intro j p hj
  have hjl : j<len:=by
   have:=(List.getElem?_eq_some_iff.1 hj).1
   omega
  rw [List.getElem?_ofFn,dif_pos hjl] at hj;obtain rfl:=Option.some.inj hj;obtain ⟨h1,h2,_⟩:=hV ⟨j,hjl⟩;obtain ⟨_,hlen2,hcell⟩:=World.cells?_some h1;refine ⟨(V ⟨j,hjl⟩).2,by rw [← hc];exact hlen2,h2,fun q u hu=>?_⟩
  have hq : q<P.cellsOf e:=by
   have:=(List.getElem?_eq_some_iff.1 hu).1
   omega
  have h3:=hcell q hq;rw [Deep.add_add,hu,hc] at h3;exact h3
 intro x hx;obtain ⟨i,rfl⟩:=List.mem_ofFn.1 hx;exact (hV i).2.2
def OpensF {α : Type} (P : Program) (d : Kd α) (fs : List Field) (off : Nat) (good : α→Prop) : Prop :=
 ∀ (H : Type) (enc : TypeId×Value→H) (w : World) (base : Nat) (spare : Nat→Bool) (held : Bool) (fuel : Nat) (cs : List Value),off+d.sz≤cs.length →
  (∀ f ∈ fs,∃ x,DataW.trod enc P w base spare held fuel f.type ((cs.drop f.offset).take (P.cellsOf f.type))=some x) → ∃ a,d.K w a ((cs.drop off).take d.sz)∧good a
theorem opensF_one {α : Type} {d : Kd α} {f : Field} {off : Nat} {g : α→Prop} (ho : f.offset=off) (hc : P.cellsOf f.type=d.sz) (h : Opens P d f.type g) : OpensF P d [f] off g:=by
 intro H enc w base spare held fuel cs _ hf;obtain ⟨x,hx⟩:=hf f (by simp);obtain ⟨a,hk,hg⟩:=h H enc w base spare held fuel _ x hx;rw [ho,hc] at hk;exact ⟨a,hk,hg⟩
theorem opensF_cons {α β : Type} {d : Kd α} {d' : Kd β} {f : Field} {fs : List Field} {off : Nat} {g : α→Prop} {g' : β→Prop} (ho : f.offset=off) (hc : P.cellsOf f.type=d.sz) (h : Opens P d f.type g) (h' : OpensF P d' fs (off+d.sz) g') :
  OpensF P (Kd.pair d d') (f :: fs) off (fun x=>g x.1∧g' x.2):=by
 intro H enc w base spare held fuel cs hl hf;obtain ⟨x,hx⟩:=hf f (by simp);obtain ⟨a,hk,hg⟩:=h H enc w base spare held fuel _ x hx;have hl2 : off+(d.sz+d'.sz)≤cs.length:=hl;obtain ⟨b,hk',hg'⟩:=h' H enc w base spare held fuel cs (by omega) (fun f' hf' => hf f' (by simp [hf']));rw [ho,hc] at hk;refine ⟨(a,b),⟨_,_,?_,hk,hk'⟩,hg,hg'⟩;show (cs.drop off).take (d.sz+d'.sz)=_;rw [List.take_add,List.drop_drop]
theorem opens_struct {α β : Type} {t : TypeId} {fs : Array Field} {d : Kd α} {g : α→Prop} {f : β→α} (f' : α→β) (hf : ∀ a,f (f' a)=a) (ht : P.underlying t=some (.struct fs)) (hc : P.cellsOf t=d.sz) (h : OpensF P d fs.toList 0 g) :
  Opens P (Kd.iso d f) t (fun b=>g (f b)):=by
 intro H enc w base spare held fuel cs x hx;obtain ⟨xs,n,_,_,hl,hlen,hxs⟩:=DataW.trod_struct ht hx
 obtain ⟨a,hk,hg⟩:=h H enc w base spare held n cs (by omega) (fun y hy=>by
  obtain ⟨i,hi⟩:=List.mem_iff_getElem?.1 hy;have:=hxs i y (by simpa using hi)
  have hlt : i<xs.length:=by
   have:=(List.getElem?_eq_some_iff.1 hi).1;rw [hlen]
   simpa using this
  rw [List.getElem?_eq_getElem hlt] at this
  exact ⟨_,this⟩)
 rw [List.drop_zero,show d.sz=cs.length by omega,List.take_length] at hk;exact ⟨f' a,by show d.K w (f (f' a)) cs;rw [hf];exact hk,by show g (f (f' a));rw [hf];exact hg⟩
theorem arg_struct {α : Type} {d : Kd α} {t : TypeId} {fs : Array Field} {g : α→Prop} {H : Type} {enc : TypeId×Value→H} {w : World} {base b0 : Nat} {spare : Nat→Bool} {held : Bool} {r : Reach} {v : Value} {dd : DataW H} {p : List MemPlace}
  (ht : P.underlying t=some (.struct fs)) (h : Opens P d t g) (hv : Value.okWide P w r b0 t v) (hd : DataW.Trod enc P w base spare held t v dd p) : ∃ (a : α) (cs : List Value),v = .agg ⟨cs⟩∧d.K w a cs∧g a:=by
 obtain ⟨cs,rfl,_⟩:=okWide_struct ht hv;obtain ⟨fuel,hf⟩:=hd;obtain ⟨a,hk,hg⟩:=h H enc w base spare held fuel _ _ hf;exact ⟨a,cs.toList,rfl,hk,hg⟩
end Go.Proofs.YtamikhmpfmgofaaW.PrintOpen
end
section
namespace Go.Proofs.Ytamikhmpfmgofaa.Q
open Go.RowKit Go.Proofs.YtamikhmpfmgofaaW.PrintWords Go.Proofs.YtamikhmpfmgofaaW.PrintLast Go.Proofs.YtamikhmpfmgofaaW.PrintMore Go.Proofs.YtamikhmpfmgofaaW.PrintOpen
def good47 (x_ : S47) : Prop:=(x_.f0.size≤9223372036854775807)∧(((Lit.int .i64 x_.f1).wf=true))
theorem opens47 : Opens Try.prog k47 47 good47 :=
 opens_struct (f:=(fun x : S47=>(x.f0,x.f1))) (fun ⟨x0,x1⟩=>⟨x0,x1⟩) (fun _=>rfl) Try.underlying47 (by kernel_rfl) (opensF_cons rfl (by kernel_rfl) (opens_string Try.underlying9) (opensF_one rfl (by kernel_rfl) (opens_int Try.underlying3)))
def good79 (x_ : S79) : Prop:=((Lit.int .i64 x_.f0).wf=true)∧(((x_.f1.length≤9223372036854775807 ∧ ∀ y0_ ∈ x_.f1,good47 y0_)))
theorem opens79 : Opens Try.prog k79 79 good79 :=
 opens_struct (f:=(fun x : S79=>(x.f0,x.f1))) (fun ⟨x0,x1⟩=>⟨x0,x1⟩) (fun _=>rfl) Try.underlying79 (by kernel_rfl) (opensF_cons rfl (by kernel_rfl) (opens_int Try.underlying3) (opensF_one rfl (by kernel_rfl) (opens_slice Try.underlying77 (by kernel_rfl) opens47)))
def good24 (x_ : S24) : Prop:=((x_.f0.length≤9223372036854775807 ∧ ∀ y0_ ∈ x_.f0,good79 y0_))∧(((Lit.int .i64 x_.f1).wf=true))
theorem opens24 : Opens Try.prog k24 24 good24 :=
 opens_struct (f:=(fun x : S24=>(x.f0,x.f1))) (fun ⟨x0,x1⟩=>⟨x0,x1⟩) (fun _=>rfl) Try.underlying24 (by kernel_rfl) (opensF_cons rfl (by kernel_rfl) (opens_slice Try.underlying22 (by kernel_rfl) opens79) (opensF_one rfl (by kernel_rfl) (opens_int Try.underlying3)))
def good26 (x_ : S26) : Prop:=(x_.f0.size≤9223372036854775807)∧((x_.f1.size≤9223372036854775807)∧((True)))
end Go.Proofs.Ytamikhmpfmgofaa.Q
end
section
namespace Go.Proofs.Ytamikhmpfmgofaa.Q
def F0h.Pure : Prop:=∀ (x0 : S24) (x1 : S47),(good24 x0)→(good47 x1) → ∃ k,F0h.f k x0.f0 x0.f1 x1.f0 x1.f1=some true
end Go.Proofs.Ytamikhmpfmgofaa.Q
end
section
namespace Go.Proofs.YtamikhmpfmgofaaW.Pl
open Go Go.RowKit Go.Proofs.YtamikhmpfmgofaaW.PrintWords Go.Proofs.YtamikhmpfmgofaaW.PrintMore
theorem w64 {i : Int} (h0 : -9223372036854775808≤i) (h1 : i≤9223372036854775807) : wrap64 i=i:=by unfold wrap64;omega
theorem fuel {k d : Nat} (h : d<k) : ∃ m,k=m+1∧d≤m:=⟨k - 1,by omega,by omega⟩
theorem rd_at (xs : List Int) (i : Nat) (h : i<xs.length) : rd xs (i : Int)=xs[i]:=by
 unfold rd;simp [List.getD,h]
theorem getD_at {α : Type} (d : α) (xs : List α) (i : Nat) (h : i<xs.length) : xs.getD (i : Int).toNat d=xs[i]:=by
 simp [List.getD,h]
theorem drop_at {α : Type} (xs : List α) (i : Nat) (h : i<xs.length) : xs.drop i=xs[i] :: xs.drop (i+1):=List.drop_eq_getElem_cons h
theorem ba_toList (a : ByteArray) : a.toList=a.data.toList:=ByteArray.toList_eq a
theorem ba_ext {a b : ByteArray} (h : a.toList=b.toList) : a=b:=by
 rw [ba_toList,ba_toList] at h
 cases a;cases b
 simp at h;rw [h]
def all2 {α β : Type} (e : α→β→Bool) : List α→List β→Bool
 | [],_=>true
 | _ :: _,[]=>true
 | x :: xs,y :: ys=>e x y && all2 e xs ys
def first {α : Type} (p : α→Bool) : List α→Nat→Int
 | [],_ => -1
 | x :: xs,i=>if p x=true then i else first p xs (i+1)
theorem first_any {α : Type} (p : α→Bool) : ∀ (xs : List α) (i : Nat),decide (first p xs i ≥ 0)=xs.any p
 | [],i=>rfl
 | x :: xs,i=>by
  by_cases h : p x=true
  ·
   simp [first,h]
  simp only [first,if_neg h,List.any_cons,first_any p xs (i+1)];simp [h]
def total {α : Type} (s : α→Nat) : List α→Nat
 | []=>0
 | x :: xs=>s x+total s xs
theorem total_le {α : Type} (s : α→Nat) : ∀ (xs : List α) (x : α),x ∈ xs→s x≤total s xs
 | _ :: xs,x,h=>by
  rcases List.mem_cons.1 h with rfl|h
  ·
   simp [total]
  have:=total_le s xs x h;simp [total];omega
def less {α : Type} (s : α→Nat) : List α→Int→Int
 | [],l=>l
 | x :: xs,l=>if l - s x<0 then -1 else less s xs (l - s x)
theorem less_is {α : Type} (s : α→Nat) : ∀ (xs : List α) (l : Int),0≤l→less s xs l=if l<total s xs then -1 else l - total s xs
 | [],l,h=>by simp [less,total];omega
 | x :: xs,l,h=>by
  have ht : ((total s (x :: xs) : Nat) : Int)=s x+total s xs:=by simp [total]
  rw [ht];simp only [less]
  by_cases h1 : l - s x<0
  ·
   rw [if_pos h1,if_pos (by omega)]
  rw [if_neg h1,less_is s xs _ (by omega)]
  by_cases h2 : l<s x+total s xs
  ·
   rw [if_pos (by omega),if_pos (by omega)]
  rw [if_neg (by omega),if_neg (by omega)];omega
def Eve {α : Type} (g : Nat→Option α) (v : α) : Prop:=∃ K,∀ k,K≤k→g k=some v
theorem Eve.one {α : Type} {v : α} : Eve (fun _=>some v) v:=⟨0,fun _ _=>rfl⟩
theorem Eve.all {α : Type} {g : Nat→Option α} {v : α} (h : ∀ k,g k=some v) : Eve g v:=⟨0,fun k _=>h k⟩
theorem Eve.of {α : Type} {g : Nat→Option α} {v : α} {n : Nat} (h : ∀ k,n<k→g k=some v) : Eve g v:=⟨n+1,fun k hk=>h k (by omega)⟩
theorem Eve.succ {α : Type} {g : Nat→Option α} {v : α} (h : Eve (fun k=>g (k+1)) v) : Eve g v:=by
 obtain ⟨K,h⟩:=h;refine ⟨K+1,fun k hk=>?_⟩;obtain ⟨k,rfl⟩ : ∃ m,k=m+1:=⟨k - 1,by omega⟩;exact h k (by omega)
theorem Eve.bind {α β : Type} {g : Nat→Option α} {f : Nat→α→Option β} {v : α} {u : β} (h : Eve g v) (h2 : Eve (fun k=>f k v) u) : Eve (fun k=>(g k).bind (f k)) u:=by
 obtain ⟨K,h⟩:=h;obtain ⟨K2,h2⟩:=h2;refine ⟨max K K2,fun k hk=>?_⟩;show (g k).bind (f k)=some u;rw [h k (by omega),Option.bind_some];exact h2 k (by omega)
theorem Eve.ite {α : Type} {c : Prop} [Decidable c] {a b : Nat→Option α} {v : α} (h1 : c→Eve a v) (h2 : ¬ c→Eve b v) : Eve (fun k=>if c then a k else b k) v:=by
 by_cases h : c
 ·
  simp only [if_pos h];exact h1 h
 simp only [if_neg h];exact h2 h
theorem Eve.get {α : Type} {g : Nat→Option α} {v : α} (h : Eve g v) : ∃ k,g k=some v:=by
 obtain ⟨K,h⟩:=h;exact ⟨K,h K (by omega)⟩
theorem Eve.eq {α : Type} {g : Nat→Option α} {v u : α} (h : Eve g v) (e : v=u) : Eve g u:=e ▸ h
theorem Eve.congr {α : Type} {g f : Nat→Option α} {v : α} (h : Eve g v) (e : ∀ k,f k=g k) : Eve f v:=by
 obtain ⟨K,h⟩:=h;exact ⟨K,fun k hk=>by rw [e,h k hk]⟩
theorem ev_loop {σ α β : Type} (xs : List α) (g : Nat→σ→Int→Option β) (R : Nat→σ→List α→β) (I : Nat→σ→Prop)
  (hend : ∀ s,I xs.length s→Eve (fun k=>g (k+1) s (xs.length : Int)) (R xs.length s []))
  (hstep : ∀ (i : Nat) (h : i<xs.length) (s : σ),I i s→(∀ s',I (i+1) s' → Eve (fun k=>g k s' ((i+1 : Nat) : Int)) (R (i+1) s' (xs.drop (i+1)))) →
   Eve (fun k=>g (k+1) s (i : Int)) (R i s (xs[i] :: xs.drop (i+1)))) :
  ∀ (d i : Nat) (s : σ),i+d=xs.length→I i s→Eve (fun k=>g k s (i : Int)) (R i s (xs.drop i)):=by
 intro d
 induction d with
 | zero =>
  intro i s hi hI;obtain rfl : i=xs.length:=by omega
  rw [List.drop_length];exact Eve.succ (hend s hI)
 | succ d ih =>
  intro i s hi hI;have hlt : i<xs.length:=by omega
  rw [drop_at xs i hlt];exact Eve.succ (hstep i hlt s hI (fun s' h' => ih (i+1) s' (by omega) h'))
theorem ev_loop0 {σ α β : Type} (xs : List α) (g : Nat→σ→Int→Option β) (R : Nat→σ→List α→β) (I : Nat→σ→Prop)
  (hend : ∀ s,I xs.length s→Eve (fun k=>g (k+1) s (xs.length : Int)) (R xs.length s []))
  (hstep : ∀ (i : Nat) (h : i<xs.length) (s : σ),I i s→(∀ s',I (i+1) s' → Eve (fun k=>g k s' ((i+1 : Nat) : Int)) (R (i+1) s' (xs.drop (i+1)))) →
   Eve (fun k=>g (k+1) s (i : Int)) (R i s (xs[i] :: xs.drop (i+1)))) (s : σ) (h0 : I 0 s) : Eve (fun k=>g k s 0) (R 0 s xs):=by
 have:=ev_loop xs g R I hend hstep xs.length 0 s (by omega) h0
 simpa using this
theorem ev_map {α β : Type} (xs : List α) (g : Nat→List β→Int→Option (List β)) (c : α→β) (z : β)
  (hend : ∀ ys,ys.length=xs.length→Eve (fun k=>g (k+1) ys (xs.length : Int)) ys)
  (hstep : ∀ (i : Nat) (h : i<xs.length) (ys : List β) (v : List β),ys.length=xs.length→Eve (fun k=>g k (ys.set i (c xs[i])) ((i+1 : Nat) : Int)) v→Eve (fun k=>g (k+1) ys (i : Int)) v) :
  Eve (fun k=>g k (List.replicate xs.length z) 0) (xs.map c):=by
 have:=ev_loop0 xs g (fun i ys rest=>ys.take i++rest.map c) (fun _ ys=>ys.length=xs.length) (fun ys hy=>by
  rw [List.take_of_length_le (by omega)];simpa using hend ys hy) (fun i hi ys hy ih=>by
  refine hstep i hi ys _ hy ((ih _ (by simp [hy])).eq ?_);show (ys.set i (c xs[i])).take (i+1)++(xs.drop (i+1)).map c=ys.take i++(xs[i] :: xs.drop (i+1)).map c;rw [List.take_succ_eq_append_getElem (by simp;omega),List.getElem_set_self,List.take_set_of_le (Nat.le_refl _),List.map_cons,List.append_assoc]
  rfl) (List.replicate xs.length z) (by simp)
 simpa using this
theorem ev_all {α : Type} (xs : List α) (g : Nat→Int→Option Bool) (q : α→Bool)
  (hend : Eve (fun k=>g (k+1) (xs.length : Int)) true)
  (hstep : ∀ (i : Nat) (h : i<xs.length) (v : Bool),Eve (fun k=>g k ((i+1 : Nat) : Int)) v→Eve (fun k=>g (k+1) (i : Int)) (q xs[i] && v)) : Eve (fun k=>g k 0) (xs.all q) :=
 ev_loop0 xs (fun k (_ : Unit) i=>g k i) (fun _ _ r=>r.all q) (fun _ _=>True) (fun _ _=>hend) (fun i hi s _ ih=>by
  rw [List.all_cons];exact hstep i hi _ (ih () trivial)) () trivial
theorem ev_less {α : Type} (xs : List α) (g : Nat→Int→Int→Option Int) (s : α→Nat)
  (hend : ∀ l,Eve (fun k=>g (k+1) l (xs.length : Int)) l)
  (hstep : ∀ (i : Nat) (h : i<xs.length) (l v : Int),0≤l→l≤1048576→(0≤l - s xs[i]→Eve (fun k=>g k (l - s xs[i]) ((i+1 : Nat) : Int)) v)→Eve (fun k=>g (k+1) l (i : Int)) (if l - s xs[i]<0 then -1 else v))
  {l : Int} (h0 : 0≤l) (h1 : l≤1048576) : Eve (fun k=>g k l 0) (if l - total s xs<0 then -1 else l - total s xs):=by
 have:=ev_loop0 xs g (fun _ l r=>less s r l) (fun _ l=>0≤l∧l≤1048576) (fun l _=>hend l) (fun i hi l hI ih=>by
  refine (hstep i hi l _ hI.1 hI.2 (fun h=>ih (l - s xs[i]) ⟨h,by omega⟩)).eq ?_
  rfl) l ⟨h0,h1⟩
 rw [less_is s xs l h0] at this
 by_cases h : l<total s xs
 ·
  rw [if_pos h] at this;rw [if_pos (by omega)];exact this
 rw [if_neg h] at this;rw [if_neg (by omega)];exact this
end Go.Proofs.YtamikhmpfmgofaaW.Pl
end
section
namespace Go.Proofs.Ytamikhmpfmgofaa.Pure
open Go.RowKit Go.Proofs.Ytamikhmpfmgofaa.Q Go.Proofs.YtamikhmpfmgofaaW.PrintWords Go.Proofs.YtamikhmpfmgofaaW.PrintLast Go.Proofs.YtamikhmpfmgofaaW.Pl
abbrev LEnt:=S47
abbrev IEnt:=S51
abbrev LPag:=S79
abbrev IPag:=S67
def ie (e : LEnt) : IEnt:=⟨e.f0,e.f1⟩
def ip (p : LPag) : IPag:=⟨p.f0,p.f1.map ie⟩
theorem wi {i : Nat} (h : i≤9223372036854775806) : wrap64 ((i : Int)+1)=((i+1 : Nat) : Int):=w64 (by omega) (by omega)
theorem rdLE (l : List LEnt) (i : Nat) (h : i<l.length) : rd_T47 l (i : Int)=l[i]:=getD_at _ l i h
theorem rdIE (l : List IEnt) (i : Nat) (h : i<l.length) : rd_T51 l (i : Int)=l[i]:=getD_at _ l i h
theorem rdLP (l : List LPag) (i : Nat) (h : i<l.length) : rd_T79 l (i : Int)=l[i]:=getD_at _ l i h
theorem rdIP (l : List IPag) (i : Nat) (h : i<l.length) : rd_T67 l (i : Int)=l[i]:=getD_at _ l i h
theorem szEntry_tells (e : LEnt) (h : e.f0.size≤9223372036854775807) {left : Int} (h0 : 0≤left) (h1 : left≤1048576) :
  Fh.f e.f0 e.f1 left=some (if left - e.f0.size<0 then -1 else left - e.f0.size):=by
 unfold Fh.f;rw [w64 (by omega) (by omega)]
 split <;> rfl
def szES (l : List LEnt) : Nat:=l.length+total (fun e=>e.f0.size) l
theorem szEntryS_tells (l : List LEnt) (hl : l.length≤9223372036854775807) (hs : ∀ x ∈ l,x.f0.size≤9223372036854775807) {left : Int} (h0 : 0≤left) (h1 : left≤1048576) :
  Eve (fun k=>Fp.f k l left) (if left - szES l<0 then -1 else left - szES l):=by
 simp only [Fp.f];rw [w64 (by omega) (by omega)];refine Eve.ite (fun h=>Eve.one.eq ?_) (fun h=>?_)
 ·
  rw [if_pos (by simp [szES];omega)]
 refine (ev_less l (fun k l' i=>Fp.l0 k l l' i) (fun e=>e.f0.size) (fun l' => ?_) (fun i hi l' v a b ih=>?_) (by omega) (by omega)).eq ?_
 ·
  simp only [Fp.l0]
  exact Eve.ite (fun h=>absurd h (by omega)) (fun _=>Eve.one)
 ·
  have hsz:=hs l[i] (List.getElem_mem hi)
  simp only [Fp.l0];refine Eve.ite (fun _=>?_) (fun h=>absurd h (by omega));refine Eve.ite (fun _=>?_) (fun h=>absurd h (by omega));simp only [rdLE _ _ hi,szEntry_tells _ hsz a b,Option.bind_some,wi (show i≤9223372036854775806 by omega)]
  by_cases h2 : l' - (l[i].f0.size : Int)<0
  ·
   simp only [if_pos h2]
   exact Eve.ite (fun _=>Eve.one) (fun h=>absurd h (by omega))
  simp only [if_neg h2];exact ih (by omega)
 have : ((szES l : Nat) : Int)=l.length+total (fun e=>e.f0.size) l:=by simp [szES]
 rw [this,Int.sub_sub]
theorem szPage_tells (p : LPag) (hl : p.f1.length≤9223372036854775807) (hs : ∀ x ∈ p.f1,x.f0.size≤9223372036854775807) {left : Int} (h0 : 0≤left) (h1 : left≤1048576) :
  Eve (fun k=>Fd.f k p.f0 p.f1 left) (if left - szES p.f1<0 then -1 else left - szES p.f1):=by
 simp only [Fd.f];refine Eve.bind (szEntryS_tells p.f1 hl hs h0 h1) ?_
 by_cases h : left - szES p.f1<0
 ·
  simp only [if_pos h];exact Eve.ite (fun _=>Eve.one) (fun h=>absurd h (by omega))
 simp only [if_neg h];exact Eve.one
def goodP (p : LPag) : Prop:=p.f1.length≤9223372036854775807 ∧ ∀ x ∈ p.f1,x.f0.size≤9223372036854775807
def szPS (l : List LPag) : Nat:=l.length+total (fun p=>szES p.f1) l
theorem szPageS_tells (l : List LPag) (hl : l.length≤9223372036854775807) (hs : ∀ x ∈ l,goodP x) {left : Int} (h0 : 0≤left) (h1 : left≤1048576) :
  Eve (fun k=>Fq.f k l left) (if left - szPS l<0 then -1 else left - szPS l):=by
 simp only [Fq.f];rw [w64 (by omega) (by omega)];refine Eve.ite (fun h=>Eve.one.eq ?_) (fun h=>?_)
 ·
  rw [if_pos (by simp [szPS];omega)]
 refine (ev_less l (fun k l' i=>Fq.l0 k l l' i) (fun p=>szES p.f1) (fun l' => ?_) (fun i hi l' v a b ih=>?_) (by omega) (by omega)).eq ?_
 ·
  simp only [Fq.l0]
  exact Eve.ite (fun h=>absurd h (by omega)) (fun _=>Eve.one)
 ·
  have hsz:=hs l[i] (List.getElem_mem hi)
  simp only [Fq.l0];refine Eve.ite (fun _=>?_) (fun h=>absurd h (by omega));refine Eve.ite (fun _=>?_) (fun h=>absurd h (by omega));simp only [rdLP _ _ hi,wi (show i≤9223372036854775806 by omega)];refine Eve.bind (szPage_tells l[i] hsz.1 hsz.2 a b) ?_
  by_cases h2 : l' - (szES l[i].f1 : Int)<0
  ·
   simp only [if_pos h2]
   exact Eve.ite (fun _=>Eve.one) (fun h=>absurd h (by omega))
  simp only [if_neg h2];exact ih (by omega)
 have : ((szPS l : Nat) : Int)=l.length+total (fun p=>szES p.f1) l:=by simp [szPS]
 rw [this,Int.sub_sub]
theorem szTree_tells (l : List LPag) (n : Int) (hl : l.length≤9223372036854775807) (hs : ∀ x ∈ l,goodP x) {left : Int} (h0 : 0≤left) (h1 : left≤1048576) :
  Eve (fun k=>F0j.f k l n left) (if left - szPS l<0 then -1 else left - szPS l):=by
 simp only [F0j.f];refine Eve.bind (szPageS_tells l hl hs h0 h1) ?_
 by_cases h : left - szPS l<0
 ·
  simp only [if_pos h];exact Eve.ite (fun _=>Eve.one) (fun h=>absurd h (by omega))
 simp only [if_neg h];exact Eve.one
def Fits (l : List LPag) : Prop:=szPS l≤1048576
theorem Fits.len {l : List LPag} (h : Fits l) : l.length≤1048576:=by unfold Fits szPS at h;omega
theorem Fits.page {l : List LPag} (h : Fits l) (p : LPag) (hp : p ∈ l) : p.f1.length≤1048576:=by
 unfold Fits szPS at h;have:=total_le (fun p=>szES p.f1) l p hp;simp only [szES] at this;unfold szES at h
 omega
theorem flat_le : ∀ l : List LPag,(l.flatMap (·.f1)).length≤total (fun p=>szES p.f1) l
 | []=>by simp
 | p :: l=>by
  have:=flat_le l;simp [total,szES] at *
  omega
theorem Fits.flat {l : List LPag} (h : Fits l) : (l.flatMap (·.f1)).length≤1048576:=by
 have:=flat_le l;unfold Fits szPS at h
 omega
theorem toEntryS_tells (l : List LEnt) (hl : l.length≤1048576) : Eve (fun k=>Fm.f k l) (l.map ie):=by
 simp only [Fm.f];refine Eve.ite (fun _=>?_) (fun h=>absurd h (by omega));refine Eve.ite (fun _=>?_) (fun h=>absurd h (by omega));refine (ev_map l (fun k ys i=>Fm.l0 k l ys i) ie z51 (fun ys hy=>?_) (fun i hi ys v hy ih=>?_))
 ·
  simp only [Fm.l0]
  exact Eve.ite (fun h=>absurd h (by omega)) (fun _=>Eve.one)
 simp only [Fm.l0];refine Eve.ite (fun _=>?_) (fun h=>absurd h (by omega));refine Eve.ite (fun _=>?_) (fun h=>absurd h (by omega));simp only [rdLE _ _ hi,F9.f,Option.bind_some,wi (show i≤9223372036854775806 by omega)];refine Eve.ite (fun _=>?_) (fun h=>absurd h (by omega));exact ih
theorem toPage_tells (p : LPag) (hl : p.f1.length≤1048576) : Eve (fun k=>Fe.f k p.f0 p.f1) (p.f0,p.f1.map ie):=by
 simp only [Fe.f];exact Eve.bind (toEntryS_tells p.f1 hl) Eve.one
theorem toPageS_tells (l : List LPag) (hl : l.length≤1048576) (hs : ∀ p ∈ l,p.f1.length≤1048576) : Eve (fun k=>Fn.f k l) (l.map ip):=by
 simp only [Fn.f];refine Eve.ite (fun _=>?_) (fun h=>absurd h (by omega));refine Eve.ite (fun _=>?_) (fun h=>absurd h (by omega));refine (ev_map l (fun k ys i=>Fn.l0 k l ys i) ip z67 (fun ys hy=>?_) (fun i hi ys v hy ih=>?_))
 ·
  simp only [Fn.l0]
  exact Eve.ite (fun h=>absurd h (by omega)) (fun _=>Eve.one)
 simp only [Fn.l0];refine Eve.ite (fun _=>?_) (fun h=>absurd h (by omega));refine Eve.ite (fun _=>?_) (fun h=>absurd h (by omega));simp only [rdLP _ _ hi,wi (show i≤9223372036854775806 by omega)];refine Eve.bind (toPage_tells l[i] (hs _ (List.getElem_mem hi))) ?_;refine Eve.ite (fun _=>?_) (fun h=>absurd h (by omega));exact ih
theorem toTree_tells (l : List LPag) (n : Int) (h : Fits l) : Eve (fun k=>F0b.f k l n) (l.map ip,n):=by
 simp only [F0b.f];exact Eve.bind (toPageS_tells l h.len h.page) Eve.one
theorem eqEntryS_self (l : List IEnt) (hl : l.length≤1048576) : Eve (fun k=>Fb.f k l l) true:=by
 simp only [Fb.f,if_true];refine (ev_all l (fun k i=>Fb.l0 k l l i) (fun _=>true) ?_ (fun i hi v ih=>?_)).eq (by simp)
 ·
  simp only [Fb.l0]
  exact Eve.ite (fun h=>absurd h (by omega)) (fun _=>Eve.one)
 simp only [Fb.l0];refine Eve.ite (fun _=>?_) (fun h=>absurd h (by omega));refine Eve.ite (fun _=>?_) (fun h=>absurd h (by omega));simp only [F5.f,if_true,Option.bind_some,wi (show i≤9223372036854775806 by omega),Bool.true_and];exact Eve.ite (fun _=>ih) (fun h=>absurd (by omega) h)
theorem eqPageS_self (l : List IPag) (hl : l.length≤1048576) (hs : ∀ p ∈ l,p.f1.length≤1048576) : Eve (fun k=>Ff.f k l l) true:=by
 simp only [Ff.f,if_true];refine (ev_all l (fun k i=>Ff.l0 k l l i) (fun _=>true) ?_ (fun i hi v ih=>?_)).eq (by simp)
 ·
  simp only [Ff.l0]
  exact Eve.ite (fun h=>absurd h (by omega)) (fun _=>Eve.one)
 simp only [Ff.l0];refine Eve.ite (fun _=>?_) (fun h=>absurd h (by omega));refine Eve.ite (fun _=>?_) (fun h=>absurd h (by omega));refine Eve.ite (fun _=>?_) (fun h=>absurd (by omega) h);simp only [rdIP _ _ hi,F4.f,if_true,Bool.true_and,wi (show i≤9223372036854775806 by omega)];refine Eve.bind (v:=true) (Eve.bind (eqEntryS_self _ (hs _ (List.getElem_mem hi))) ?_) ?_
 ·
  simp only [if_true];exact Eve.one
 simp only [if_true];exact ih
theorem eqTree_self (l : List IPag) (n : Int) (hl : l.length≤1048576) (hs : ∀ p ∈ l,p.f1.length≤1048576) : Eve (fun k=>F0a.f k l n l n) true:=by
 simp only [F0a.f,if_true];refine Eve.bind (eqPageS_self l hl hs) ?_;simp only [if_true];exact Eve.one
theorem eqTree_to (l : List LPag) (n : Int) (h : Fits l) : Eve (fun k=>F0a.f k (l.map ip) n (l.map ip) n) true:=by
 refine eqTree_self _ n (by simpa using h.len) (fun p hp=>?_);obtain ⟨q,hq,rfl⟩:=List.mem_map.1 hp
 simpa [ip] using h.page q hq
theorem good_pages {l : List LPag} (h : l.length≤9223372036854775807 ∧ ∀ y ∈ l,good79 y) : ∀ p ∈ l,goodP p :=
 fun p hp=>⟨(h.2 p hp).2.1,fun e he=>((h.2 p hp).2.2 e he).1⟩
end Go.Proofs.Ytamikhmpfmgofaa.Pure
end
section
namespace Go.Proofs.Ytamikhmpfmgofaa.Pure
open Go.RowKit Go.Proofs.Ytamikhmpfmgofaa.Q Go.Proofs.YtamikhmpfmgofaaW.PrintWords Go.Proofs.YtamikhmpfmgofaaW.PrintLast Go.Proofs.YtamikhmpfmgofaaW.PrintMore Go.Proofs.YtamikhmpfmgofaaW.Pl
theorem cb_is : ∀ x y : List UInt8,Lib.compareBytes x y=if Op.bytesLess x y=true then -1 else if x=y then 0 else 1
 | [],[]=>by simp [Lib.compareBytes,Op.bytesLess]
 | [],_ :: _=>by simp [Lib.compareBytes,Op.bytesLess]
 | _ :: _,[]=>by simp [Lib.compareBytes,Op.bytesLess]
 | a :: x,b :: y=>by
  simp only [Lib.compareBytes,Op.bytesLess];rw [cb_is x y]
  by_cases h : a<b
  ·
   simp [h]
  by_cases h2 : b<a
  ·
   have h3 : ¬ a=b:=by rintro rfl;exact h h2
   simp [h,h2,h3]
  have h3 : a=b:=by
   apply UInt8.toNat_inj.mp;rw [UInt8.lt_iff_toNat_lt] at h h2
   omega
  subst h3;simp [h]
def el (a b : IEnt) : Bool:=Op.bytesLess a.f0.toList b.f0.toList || (decide (a.f0.toList=b.f0.toList) && decide (a.f1<b.f1))
theorem less_tells (a b : IEnt) : F0d.f a.f0 a.f1 b.f0 b.f1=some (el a b):=by
 unfold F0d.f el
 by_cases h : Op.bytesLess a.f0.toList b.f0.toList=true
 ·
  rw [if_pos h,h];rfl
 rw [if_neg h]
 by_cases h2 : a.f0.toList=b.f0.toList
 ·
  rw [if_pos h2];simp [h2] at *;simp [h]
 rw [if_neg h2];simp [h,h2]
def ce (a b : IEnt) : Int:=if Op.bytesLess a.f0.toList b.f0.toList=true then -1 else if a.f0.toList=b.f0.toList then (if a.f1<b.f1 then -1 else if a.f1 > b.f1 then 1 else 0) else 1
theorem compare_tells (a b : IEnt) : Eve (fun k=>Fi.f k a.f0 a.f1 b.f0 b.f1) (ce a b):=by
 refine ⟨4,fun k hk=>?_⟩;obtain ⟨k,rfl⟩ : ∃ m,k=m+3:=⟨k - 3,by omega⟩;have w1 : wrap64 (0+1)=1:=w64 (by omega) (by omega);have w2 : wrap64 (1+1)=2:=w64 (by omega) (by omega)
 have hor : ∀ p q : Int,Fs.f (k+3) [p,q]=some (if p=0 then q else p):=by
  intro p q;have r0 : rd [p,q] 0=p:=rfl;have r1 : rd [p,q] 1=q:=rfl;simp only [Fs.f,Fs.l0,List.length_cons,List.length_nil,w1,w2,r0,r1]
  by_cases hp : p=0
  ·
   by_cases hq : q=0
   ·
    simp [hp,hq]
   simp [hp,hq]
  simp [hp]
 have hc : F0k.f a.f1 b.f1=some (if a.f1<b.f1 then -1 else if a.f1 > b.f1 then 1 else 0):=by
  simp only [F0k.f,F05.f,Option.bind_some,bne_self_eq_false,Bool.false_eq_true,if_false]
  repeat' split
  all_goals rfl
 unfold Fi.f strings_Compare.f;rw [hc];simp only [Option.bind_some,hor,← ba_toList,cb_is];unfold ce
 by_cases h : Op.bytesLess a.f0.toList b.f0.toList=true
 ·
  simp [h]
 by_cases h2 : a.f0.toList=b.f0.toList
 ·
  simp only [if_neg h,if_pos h2,if_true]
 simp [h,h2]
theorem less_irrefl (x : List UInt8) : Op.bytesLess x x=false:=by
 rw [← bytesLess_total x x];simp
theorem ce_lt (a b : IEnt) : ce a b ≥ 0 ↔ ¬ el a b=true:=by
 unfold ce el
 by_cases h : Op.bytesLess a.f0.toList b.f0.toList=true
 ·
  simp [h]
 by_cases h2 : a.f0.toList=b.f0.toList
 ·
  rw [h2,less_irrefl]
  by_cases h3 : a.f1<b.f1
  ·
   simp [h3]
  by_cases h4 : a.f1 > b.f1
  ·
   simp [h3,h4]
  simp [h3,h4]
 simp [h,h2]
theorem ce_le (a b : IEnt) : ce a b≤0 ↔ ¬ el b a=true:=by
 unfold ce el;have ht:=bytesLess_total a.f0.toList b.f0.toList;rw [← ht]
 by_cases h : Op.bytesLess a.f0.toList b.f0.toList=true
 ·
  have : ¬ b.f0.toList=a.f0.toList:=by intro e;rw [e,less_irrefl] at h;simp at h
  simp [h,this]
 by_cases h2 : a.f0.toList=b.f0.toList
 ·
  rw [h2,less_irrefl]
  by_cases h3 : a.f1<b.f1
  ·
   have : ¬ b.f1<a.f1:=by omega
   simp [h3,this]
  by_cases h4 : a.f1 > b.f1
  ·
   have : b.f1<a.f1:=by omega
   simp [h3,h4]
  have : ¬ b.f1<a.f1:=by omega
  simp [h3,h4]
 simp [h,h2]
def inr (a b c : Int) : Bool:=decide (b≤a) && decide (a≤c)
theorem in_spec (a b c : Int) : F04.f a b c=some (inr a b c):=by
 unfold F04.f inr
 by_cases h : b≤a
 ·
  rw [if_pos h];simp [h]
 rw [if_neg h];simp [h]
theorem in_impl (a b c : Int) : F02.f a b c=some (inr a b c):=in_spec a b c
def eok (e : IEnt) : Bool:=decide ((e.f0.size : Int)≤2000) && inr e.f1 0 9999
theorem eok_spec (e : IEnt) : F0c.f e.f0 e.f1=some (eok e):=by
 unfold F0c.f eok
 by_cases h : (e.f0.size : Int)≤2000
 ·
  rw [if_pos h,in_spec];simp [h]
 rw [if_neg h];simp [h]
theorem eok_impl (e : IEnt) : F0f.f e.f0 e.f1=some (eok e):=eok_spec e
def ens : IEnt→List IEnt→Bool
 | _,[]=>true
 | p,e :: es=>eok e && (el p e && ens e es)
def lastE : IEnt→List IEnt→IEnt
 | p,[]=>p
 | _,e :: es=>lastE e es
theorem ens_append : ∀ (p : IEnt) (xs ys : List IEnt),ens p (xs++ys)=(ens p xs && ens (lastE p xs) ys)
 | p,[],ys=>by simp [ens,lastE]
 | p,e :: xs,ys=>by simp only [List.cons_append,ens,lastE,ens_append e xs ys,Bool.and_assoc]
def noE : IEnt:=⟨(⟨#[]⟩ : ByteArray),-1⟩
theorem noE_less (e : IEnt) (h : eok e=true) : el noE e=true:=by
 unfold eok inr at h;simp only [Bool.and_eq_true,decide_eq_true_eq] at h;have h0 : noE.f0.toList=[]:=by rw [ba_toList];rfl
 have h1 : noE.f1 = -1:=rfl;unfold el;rw [h0,h1]
 cases e.f0.toList with
 | nil=>simp [Op.bytesLess];omega
 | cons a x=>simp [Op.bytesLess]
def pok (T : List IPag) (n : Int) (seen : List Int) (p : IPag) : Bool:=inr p.f0 1 (n - 1) && (!seen.contains p.f0 && (decide ((p.f1.length : Int)≤4) && !(decide ((p.f1.length : Int)=0) && decide ((T.length : Int) > 1))))
def poks (T : List IPag) (n : Int) : List Int→List IPag→Bool
 | _,[]=>true
 | seen,p :: ps=>pok T n seen p && poks T n (seen ++ [p.f0]) ps
def tok (T : List IPag) (n : Int) : Bool:=inr T.length 1 60 && (inr n 2 100000 && (poks T n [] T && ens noE (T.flatMap (·.f1))))
theorem entries_tells (T : List IPag) (n : Int) (hT : T.length≤1048576) (hf : (T.flatMap (·.f1)).length≤1048576) : Eve (fun k=>Fl.f k T n) (T.flatMap (·.f1)):=by
 simp only [Fl.f]
 have:=ev_loop0 T (fun k ys i=>Fl.l0 k ys T (T.length : Int) i) (fun _ ys r=>ys++r.flatMap (·.f1)) (fun i ys=>ys++(T.drop i).flatMap (·.f1)=T.flatMap (·.f1)) (fun ys _=>by
  simp only [Fl.l0]
  exact Eve.ite (fun h=>absurd h (by omega)) (fun _=>Eve.one.eq (by simp))) (fun i hi ys hI ih=>by
  rw [drop_at T i hi,List.flatMap_cons] at hI;simp only [Fl.l0];refine Eve.ite (fun _=>?_) (fun h=>absurd (by omega) h);refine Eve.ite (fun _=>?_) (fun h=>absurd (by omega) h);refine Eve.ite (fun _=>?_) (fun h=>absurd (by omega) h);simp only [rdIP _ _ hi,wi (show i≤9223372036854775806 by omega)];refine Eve.ite (fun _=>?_) (fun h=>absurd ?_ h)
  ·
   exact (ih (ys++T[i].f1) (by rw [← hI,List.append_assoc])).eq (by rw [List.append_assoc,List.flatMap_cons])
  have:=congrArg List.length hI;simp only [List.length_append] at this
  omega) [] (by simp)
 simpa using this
theorem contains_tells (xs : List Int) (a : Int) (h : xs.length≤1048576) : Eve (fun k=>F06.f k xs a) (xs.contains a):=by
 simp only [F06.f,Fv.f];refine Eve.bind (v:=first (fun x=>decide (a=x)) xs 0) ?_ (Eve.one.eq ?_)
 ·
  refine ev_loop0 xs (fun k (_ : Unit) i=>Fv.l0 k xs a (xs.length : Int) i) (fun i _ r=>first (fun x=>decide (a=x)) r i) (fun _ _=>True) (fun _ _=>?_) (fun i hi s _ ih=>?_) () trivial
  ·
   simp only [Fv.l0]
   exact Eve.ite (fun h=>absurd h (by omega)) (fun _=>Eve.one)
  simp only [Fv.l0];refine Eve.ite (fun _=>?_) (fun h=>absurd (by omega) h);refine Eve.ite (fun _=>?_) (fun h=>absurd (by omega) h);refine Eve.ite (fun _=>?_) (fun h=>absurd (by omega) h);simp only [rd_at _ _ hi,wi (show i≤9223372036854775806 by omega)];refine Eve.ite (fun h=>Eve.one.eq ?_) (fun h=>(ih () trivial).eq ?_)
  ·
   simp [first,h]
  simp [first,h]
 rw [first_any]
 induction xs with
 | nil=>rfl
 | cons x xs ih =>
  rw [List.any_cons,ih (by simp at h;omega),List.contains_cons]
  by_cases e : a=x <;> simp [e]
theorem implOK_tells (T : List IPag) (n : Int) (hT : T.length≤1048576) (hf : (T.flatMap (·.f1)).length≤1048576) : Eve (fun k=>F1.f k T n) (tok T n):=by
 have hj1 : Eve (fun k=>F1.j0 k true T n) false:=Eve.succ (by simp only [F1.j0,if_true];exact Eve.one);simp only [F1.f,in_impl,Option.bind_some];refine Eve.ite (fun h1=>?_) (fun h1=>hj1.eq (by simp [tok,h1]))
 cases h2 : inr n 2 100000
 ·
  exact hj1.eq (by simp [tok,h2])
 refine Eve.succ ?_;simp only [F1.j0,Bool.not_true,Bool.false_eq_true,if_false]
 have hn : wrap64 (n - 1)=n - 1:=by
  unfold inr at h2;simp only [Bool.and_eq_true,decide_eq_true_eq] at h2;exact w64 (by omega) (by omega)
 have:=ev_loop0 T (fun k ys i=>F1.l0 k ys T (T.length : Int) i T n) (fun _ ys r=>poks T n ys r && ens noE (T.flatMap (·.f1))) (fun i ys=>ys.length=i) (fun ys hy=>by
  simp only [F1.l0];refine Eve.ite (fun h=>absurd h (by omega)) (fun _=>?_);refine Eve.bind (entries_tells T n hT hf) ?_;generalize hE : T.flatMap (·.f1)=E at hf ⊢
  have hl:=ev_loop0 E (fun k (_ : Unit) i=>F1.l1 k E E (E.length : Int) i) (fun i _ r=>ens (if i=0 then noE else E.getD (i - 1) noE) r) (fun _ _=>True) (fun _ _=>by
   simp only [F1.l1]
   exact Eve.ite (fun h=>absurd h (by omega)) (fun _=>Eve.one)) (fun i hi s _ ih=>by
   simp only [F1.l1];refine Eve.ite (fun _=>?_) (fun h=>absurd (by omega) h);refine Eve.ite (fun _=>?_) (fun h=>absurd (by omega) h);refine Eve.ite (fun _=>?_) (fun h=>absurd (by omega) h);simp only [rdIE _ _ hi,eok_impl,Option.bind_some,wi (show i≤9223372036854775806 by omega)];have hnx:=ih () trivial;simp only [Nat.add_one_ne_zero,if_false,Nat.add_sub_cancel,List.getD_eq_getElem?_getD,List.getElem?_eq_getElem hi,Option.getD_some] at hnx;refine Eve.ite (fun h1=>?_) (fun h1=>Eve.one.eq (by simp [ens,h1]));refine Eve.ite (fun h2=>?_) (fun h2=>hnx.eq ?_)
   ·
    have hw : wrap64 ((i : Int) - 1)=((i - 1 : Nat) : Int):=by rw [w64 (by omega) (by omega)];omega
    simp only [hw];refine Eve.ite (fun _=>?_) (fun h=>absurd (by omega) h);refine Eve.ite (fun _=>?_) (fun h=>absurd (by omega) h);rw [if_neg (by omega),List.getD_eq_getElem?_getD,List.getElem?_eq_getElem (show i - 1<E.length by omega),Option.getD_some];simp only [rdIE _ _ (show i - 1<E.length by omega)];refine Eve.bind (compare_tells _ _) ?_;refine Eve.ite (fun h3=>Eve.one.eq ?_) (fun h3=>hnx.eq ?_)
    ·
     have:=(ce_lt _ _).1 h3
     simp [ens,this]
    have : el (E[i - 1]) E[i]=true:=by
     by_cases h4 : el (E[i - 1]) E[i]=true
     ·
      exact h4
     exact absurd ((ce_lt _ _).2 h4) h3
    simp [ens,this,h1]
   obtain rfl : i=0:=by omega
   rw [if_pos rfl]
   simp [ens,h1,noE_less _ h1]) () trivial
  rw [if_pos rfl] at hl
  exact hl.eq (by simp [poks])) (fun i hi ys hI ih=>by
  simp only [F1.l0];refine Eve.ite (fun _=>?_) (fun h=>absurd (by omega) h);refine Eve.ite (fun _=>?_) (fun h=>absurd (by omega) h);refine Eve.ite (fun _=>?_) (fun h=>absurd (by omega) h);simp only [rdIP _ _ hi,hn,in_impl,Option.bind_some,wi (show i≤9223372036854775806 by omega)];refine Eve.ite (fun h1=>?_) (fun h1=>Eve.one.eq (by simp [poks,pok,h1]));refine Eve.bind (contains_tells ys _ (by omega)) ?_;refine Eve.ite (fun h2=>Eve.one.eq (by simp only [poks,pok,h2];simp)) (fun h2=>?_);refine Eve.ite (fun h3=>Eve.one.eq ?_) (fun h3=>?_)
  ·
   have : ¬ ((T[i].f1.length : Int)≤4):=by omega
   simp only [poks,pok,this];simp
  have h3' : ((T[i].f1.length : Int)≤4):=by omega
  have hnx:=ih (ys ++ [T[i].f0]) (by simp [hI]);refine Eve.ite (fun h4=>?_) (fun h4=>?_)
  ·
   refine Eve.ite (fun h5=>Eve.one.eq ?_) (fun h5=>?_)
   ·
    simp only [poks,pok,h4,h5];simp
   refine Eve.ite (fun _=>hnx.eq ?_) (fun h=>absurd (by omega) h);simp only [poks,pok,h1,h2,h4,h5];simp
  refine Eve.ite (fun _=>hnx.eq ?_) (fun h=>absurd (by omega) h)
  simp only [poks,pok,h1,h2,h3',h4];simp) [] rfl
 exact this.eq (by simp [tok,h1,h2])
theorem specOK_tells (T : List IPag) (n : Int) (hT : T.length≤1048576) (hf : ∀ p ∈ T,p.f1.length≤1048576) : Eve (fun k=>F0.f k T n) (tok T n):=by
 have hj1 : Eve (fun k=>F0.j0 k true T n) false:=Eve.succ (by simp only [F0.j0,if_true];exact Eve.one);simp only [F0.f,in_spec,Option.bind_some];refine Eve.ite (fun h1=>?_) (fun h1=>hj1.eq (by simp [tok,h1]))
 cases h2 : inr n 2 100000
 ·
  exact hj1.eq (by simp [tok,h2])
 refine Eve.succ ?_;simp only [F0.j0,Bool.not_true,Bool.false_eq_true,if_false]
 have hn : wrap64 (n - 1)=n - 1:=by
  unfold inr at h2;simp only [Bool.and_eq_true,decide_eq_true_eq] at h2;exact w64 (by omega) (by omega)
 have:=ev_loop0 T (fun k (e : IEnt) i=>F0.l0 k i T n e.f0 e.f1) (fun i e r=>poks T n ((T.take i).map (·.f0)) r && ens e (r.flatMap (·.f1))) (fun _ _=>True) (fun e _=>by
  simp only [F0.l0]
  exact Eve.ite (fun h=>absurd h (by omega)) (fun _=>Eve.one)) (fun i hi e _ ih=>by
  have htk : (T.take (i+1)).map (·.f0)=(T.take i).map (·.f0) ++ [T[i].f0]:=by
   rw [List.take_succ_eq_append_getElem hi,List.map_append];rfl
  simp only [htk] at ih;simp only [F0.l0];refine Eve.ite (fun _=>?_) (fun h=>absurd (by omega) h);refine Eve.ite (fun _=>?_) (fun h=>absurd (by omega) h);simp only [rdIP _ _ hi,hn,in_spec,Option.bind_some];generalize hp : T[i]=p at ih ⊢;have hpl : p.f1.length≤1048576:=by rw [← hp];exact hf _ (List.getElem_mem hi)
  have hjt : ∀ v,v=false→Eve (fun k=>F0.j2 k (i : Int) true T n e.f0 e.f1 p.f0 p.f1) v:=fun v hv=>Eve.succ (by simp only [F0.j2,if_true];exact Eve.one.eq hv.symm);have hjf : ∀ v,Eve (fun k=>F0.l1 k (i : Int) 0 T n e.f0 e.f1 p.f0 p.f1) v→Eve (fun k=>F0.j2 k (i : Int) false T n e.f0 e.f1 p.f0 p.f1) v:=fun v hv=>Eve.succ (by simp only [F0.j2,Bool.false_eq_true,if_false];exact hv)
  have hl2 : Eve (fun k=>F0.l2 k (i : Int) 0 T n e.f0 e.f1 p.f0 p.f1) (ens e p.f1 && (poks T n ((T.take i).map (·.f0) ++ [p.f0]) (T.drop (i+1)) && ens (lastE e p.f1) ((T.drop (i+1)).flatMap (·.f1)))):=by
   refine ev_loop0 p.f1 (fun k (e : IEnt) j=>F0.l2 k (i : Int) j T n e.f0 e.f1 p.f0 p.f1) (fun _ e r=>ens e r && (poks T n ((T.take i).map (·.f0) ++ [p.f0]) (T.drop (i+1)) && ens (lastE e r) ((T.drop (i+1)).flatMap (·.f1)))) (fun _ _=>True) (fun e' _=>?_) (fun j hj e' _ ih2=>?_) e trivial
   ·
    simp only [F0.l2]
    refine Eve.ite (fun h=>absurd h (by omega)) (fun _=>?_);simp only [wi (show i≤9223372036854775806 by omega)];exact (ih e' trivial).eq (by simp [ens,lastE])
   simp only [F0.l2];refine Eve.ite (fun _=>?_) (fun h=>absurd (by omega) h);refine Eve.ite (fun _=>?_) (fun h=>absurd (by omega) h);simp only [rdIE _ _ hj,eok_spec,less_tells,Option.bind_some,wi (show j≤9223372036854775806 by omega)];refine Eve.ite (fun h1=>?_) (fun h1=>Eve.one.eq (by simp [ens,h1]));refine Eve.ite (fun h2=>(ih2 p.f1[j] trivial).eq ?_) (fun h2=>Eve.one.eq (by simp [ens,h2]));simp only [ens,h1,h2,lastE,Bool.true_and]
  have hl1 : Eve (fun k=>F0.l1 k (i : Int) 0 T n e.f0 e.f1 p.f0 p.f1) (!((T.take i).map (·.f0)).contains p.f0 && (ens e p.f1 && (poks T n ((T.take i).map (·.f0) ++ [p.f0]) (T.drop (i+1)) && ens (lastE e p.f1) ((T.drop (i+1)).flatMap (·.f1))))):=by
   have hx : (T.take i).length=i:=by simp;omega
   refine ev_loop0 (T.take i) (fun k (_ : Unit) j=>F0.l1 k (i : Int) j T n e.f0 e.f1 p.f0 p.f1) (fun _ _ r => !(r.map (·.f0)).contains p.f0 && (ens e p.f1 && (poks T n ((T.take i).map (·.f0) ++ [p.f0]) (T.drop (i+1)) && ens (lastE e p.f1) ((T.drop (i+1)).flatMap (·.f1))))) (fun _ _=>True) (fun _ _=>?_) (fun j hj s _ ih2=>?_) () trivial
   ·
    simp only [F0.l1,hx]
    exact Eve.ite (fun h=>absurd h (by omega)) (fun _=>hl2.eq (by simp))
   have hjT : j<T.length:=by omega
   simp only [F0.l1];refine Eve.ite (fun _=>?_) (fun h=>absurd (by omega) h);refine Eve.ite (fun _=>?_) (fun h=>absurd (by omega) h);refine Eve.ite (fun _=>?_) (fun h=>absurd (by omega) h);simp only [rdIP _ _ hjT,wi (show j≤9223372036854775806 by omega),List.getElem_take];refine Eve.ite (fun h=>Eve.one.eq ?_) (fun h=>(ih2 () trivial).eq ?_)
   ·
    simp [h]
   simp [Ne.symm h]
  have happ : ∀ b : Bool,(b && poks T n ((T.take i).map (·.f0) ++ [p.f0]) (T.drop (i+1)) && ens e ((p :: T.drop (i+1)).flatMap (·.f1)))=(b && (ens e p.f1 && (poks T n ((T.take i).map (·.f0) ++ [p.f0]) (T.drop (i+1)) && ens (lastE e p.f1) ((T.drop (i+1)).flatMap (·.f1))))):=by
   intro b;rw [List.flatMap_cons,ens_append];generalize poks T n ((T.take i).map (·.f0) ++ [p.f0]) (T.drop (i+1))=u
   cases b <;> cases u <;> simp
  simp only [poks,happ];refine Eve.ite (fun h1=>?_) (fun h1=>hjt _ (by simp [pok,h1]));refine Eve.ite (fun h3=>hjt _ ?_) (fun h3=>?_)
  ·
   have : ¬ ((p.f1.length : Int)≤4):=by omega
   simp only [pok,this];simp
  have h3' : ((p.f1.length : Int)≤4):=by omega
  refine Eve.ite (fun h4=>?_) (fun h4=>?_)
  ·
   by_cases h5 : (T.length : Int) > 1
   ·
    simp only [h5,decide_true]
    refine hjt _ ?_;simp only [pok,h4,h5];simp
   simp only [h5,decide_false];refine (hjf _ hl1).eq ?_;simp only [pok,h1,h4,h5];simp
  refine (hjf _ hl1).eq ?_
  simp only [pok,h1,h3',h4];simp) noE trivial
 exact this.eq (by simp [tok,h1,h2])
def ihas (lo hi : ByteArray) (op : Bool) (key : ByteArray) : Bool:=if Op.bytesLess key.toList lo.toList=true then false else if op=true then true else Op.bytesLess key.toList hi.toList
def place (e : IEnt) : Nat→Int→List IPag→Int
 | _,at_,[]=>at_
 | i,at_,p :: ps=>place e (i+1) (match p.f1 with|[]=>at_|f :: _=>if el e f=true then at_ else (i : Int)) ps
theorem bl_trans : ∀ {x y z : List UInt8},Op.bytesLess x y=true→Op.bytesLess y z=true→Op.bytesLess x z=true
 | [],_,[],_,h=>by rename_i y _;cases y <;> simp [Op.bytesLess] at h
 | [],_,_ :: _,_,_=>by simp [Op.bytesLess]
 | _ :: _,[],_,h,_=>by simp [Op.bytesLess] at h
 | _ :: _,_ :: _,[],_,h=>by simp [Op.bytesLess] at h
 | a :: x,b :: y,c :: z,h1,h2=>by
  simp only [Op.bytesLess,Bool.or_eq_true,Bool.and_eq_true,decide_eq_true_eq,beq_iff_eq] at h1 h2 ⊢;rcases h1 with h1|⟨rfl,h1⟩ <;> rcases h2 with h2|⟨rfl,h2⟩
  ·
   left;rw [UInt8.lt_iff_toNat_lt] at *;omega
  ·
   exact .inl h1
  ·
   exact .inl h2
  exact .inr ⟨rfl,bl_trans h1 h2⟩
theorem bl_total {x y : List UInt8} (h1 : ¬ Op.bytesLess x y=true) (h2 : ¬ x=y) : Op.bytesLess y x=true:=by
 have:=bytesLess_total x y;rw [← this];simp [h1,h2]
theorem el_trans {a b c : IEnt} (h1 : el a b=true) (h2 : el b c=true) : el a c=true:=by
 unfold el at *;simp only [Bool.or_eq_true,Bool.and_eq_true,decide_eq_true_eq] at *;rcases h1 with h1|⟨h1,h1'⟩ <;> rcases h2 with h2|⟨h2,h2'⟩
 ·
  exact .inl (bl_trans h1 h2)
 ·
  exact .inl (h2 ▸ h1)
 ·
  exact .inl (h1 ▸ h2)
 exact .inr ⟨h1.trans h2,by omega⟩
theorem ens_ahead : ∀ (p : IEnt) (xs : List IEnt),ens p xs=true → ∀ x ∈ xs,el p x=true∧eok x=true
 | _,[],_,x,hx=>by simp at hx
 | p,e :: xs,h,x,hx=>by
  simp only [ens,Bool.and_eq_true] at h;rcases List.mem_cons.1 hx with rfl|hx
  ·
   exact ⟨h.2.1,h.1⟩
  have:=ens_ahead e xs h.2.2 x hx;exact ⟨el_trans h.2.1 this.1,this.2⟩
def stop (hi : ByteArray) (op : Bool) (p : IPag) : Bool:=!op && match p.f1 with|[]=>false|f :: _ => !Op.bytesLess f.f0.toList hi.toList
def taken (hi : ByteArray) (op : Bool) : List IPag→List IPag
 | [] => []
 | p :: ps=>if stop hi op p=true then [] else p :: taken hi op ps
def ranged (hi : ByteArray) (op : Bool) : List IPag→List IPag
 | [] => []
 | p :: ps=>p :: taken hi op ps
end Go.Proofs.Ytamikhmpfmgofaa.Pure
end
section
namespace Go.Proofs.Ytamikhmpfmgofaa.Pure
open Go Go.RowKit Go.Proofs.Ytamikhmpfmgofaa.Q Go.Proofs.YtamikhmpfmgofaaW.PrintWords Go.Proofs.YtamikhmpfmgofaaW.PrintLast Go.Proofs.YtamikhmpfmgofaaW.PrintMore Go.Proofs.YtamikhmpfmgofaaW.Pl
theorem map_flat (l : List LPag) : (l.map ip).flatMap (·.f1)=(l.flatMap (·.f1)).map ie:=by
 rw [List.flatMap_map,List.map_flatMap];rfl
theorem place_spec (T : List IPag) (n : Int) (e : IEnt) (hT : T.length≤1048576) (h0 : 0<T.length) : Eve (fun k=>F8.f k T n e.f0 e.f1) (place e 1 0 (T.drop 1)):=by
 simp only [F8.f]
 have:=ev_loop T (fun k (c : Int) i=>F8.l0 k c i T n e.f0 e.f1) (fun i c r=>place e i c r) (fun _ _=>True) (fun c _=>by
  simp only [F8.l0]
  exact Eve.ite (fun h=>absurd h (by omega)) (fun _=>Eve.one)) (fun i hi c hI ih=>by
  simp only [F8.l0];refine Eve.ite (fun _=>?_) (fun h=>absurd (by omega) h);refine Eve.ite (fun _=>?_) (fun h=>absurd (by omega) h);simp only [rdIP _ _ hi,wi (show i≤9223372036854775806 by omega)];refine Eve.ite (fun h=>?_) (fun h=>?_)
  ·
   refine Eve.ite (fun _=>?_) (fun h=>absurd (by omega) h)
   have hl : 0<T[i].f1.length:=by omega
   have hr:=rdIE T[i].f1 0 hl;simp only [show ((0 : Nat) : Int)=0 from rfl] at hr;simp only [hr,less_tells,Option.bind_some];have hc : T[i].f1=T[i].f1[0] :: T[i].f1.drop 1:=drop_at T[i].f1 0 hl;refine Eve.ite (fun h1=>(ih c trivial).eq ?_) (fun h1=>(ih (i : Int) trivial).eq ?_)
   ·
    rw [place,hc];simp only [h1,if_true]
   rw [place,hc];simp only [if_neg h1]
  have hc : T[i].f1=[]:=List.length_eq_zero_iff.1 (by omega)
  exact (ih c trivial).eq (by rw [place,hc])) (T.length - 1) 1 0 (by omega) trivial
 exact this
theorem place_impl (T : List IPag) (n : Int) (e : IEnt) (hT : T.length≤1048576) : Eve (fun k=>Fc.f k T n e.f0 e.f1) (place e 0 0 T):=by
 simp only [Fc.f];refine ev_loop0 T (fun k (c : Int) i=>Fc.l0 k c T (T.length : Int) i e.f0 e.f1) (fun i c r=>place e i c r) (fun _ _=>True) (fun c _=>?_) (fun i hi c hI ih=>?_) 0 trivial
 ·
  simp only [Fc.l0]
  exact Eve.ite (fun h=>absurd h (by omega)) (fun _=>Eve.one)
 simp only [Fc.l0];refine Eve.ite (fun _=>?_) (fun h=>absurd (by omega) h);refine Eve.ite (fun _=>?_) (fun h=>absurd (by omega) h);refine Eve.ite (fun _=>?_) (fun h=>absurd (by omega) h);simp only [rdIP _ _ hi,wi (show i≤9223372036854775806 by omega)];refine Eve.ite (fun h=>?_) (fun h=>?_)
 ·
  refine Eve.ite (fun _=>?_) (fun h=>absurd (by omega) h)
  have hl : 0<T[i].f1.length:=by omega
  have hr:=rdIE T[i].f1 0 hl;simp only [show ((0 : Nat) : Int)=0 from rfl] at hr;simp only [hr];have hc : T[i].f1=T[i].f1[0] :: T[i].f1.drop 1:=drop_at T[i].f1 0 hl;refine Eve.bind (compare_tells _ _) ?_;refine Eve.ite (fun h1=>(ih (i : Int) trivial).eq ?_) (fun h1=>(ih c trivial).eq ?_)
  ·
   rw [place,hc];simp only [if_neg ((ce_le _ _).1 h1)]
  have h2 : el e T[i].f1[0]=true:=by
   by_cases h4 : el e T[i].f1[0]=true
   ·
    exact h4
   exact absurd ((ce_le _ _).2 h4) h1
  rw [place,hc];simp only [h2,if_true]
 have hc : T[i].f1=[]:=List.length_eq_zero_iff.1 (by omega);exact (ih c trivial).eq (by rw [place,hc])
theorem place_from (T : List IPag) (e : IEnt) (h0 : 0<T.length) : place e 0 0 T=place e 1 0 (T.drop 1):=by
 cases T with
 | nil=>simp at h0
 | cons p ps =>
  simp only [place,List.drop_one,List.tail_cons]
  cases p.f1 with
  | nil=>rfl
  | cons f fs=>simp
theorem place_in (e : IEnt) : ∀ (T : List IPag) (i : Nat) (c : Int),0≤c→c<(i+T.length : Nat)→0≤place e i c T∧place e i c T<(i+T.length : Nat)
 | [],i,c,h0,h1=>by simp only [place];exact ⟨h0,h1⟩
 | p :: ps,i,c,h0,h1=>by
  simp only [place,List.length_cons] at *;have e1 : i+1+ps.length=i+(ps.length+1):=by omega
  rw [← e1] at h1 ⊢;apply place_in e ps (i+1)
  ·
   repeat' split
   all_goals omega
  repeat' split
  all_goals omega
end Go.Proofs.Ytamikhmpfmgofaa.Pure
end
