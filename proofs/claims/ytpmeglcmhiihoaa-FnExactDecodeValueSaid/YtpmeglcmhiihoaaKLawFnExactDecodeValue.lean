/- FnExactDecodeValue: for every argument the law answers true, and the argument reads behind the call as it read before. No condition. -/
import Derived.Test.YtpmeglcmhiihoaaKLawFnExactDecodeValuep22
import Derived.Test.YtpmeglcmhiihoaaKLawFnExactDecodeValuep26
import Derived.Test.YtpmeglcmhiihoaaKLawFnExactDecodeValuep24
import Derived.Test.YtpmeglcmhiihoaaRows
import Derived.WalkKit
import Derived.ProofKit
import Derived.OpenShut
import Derived.ShutString
import Derived.ChangeOld
import Derived.Below
import Derived.SizedLaws
import Derived.Carry
section
namespace Go.Proofs.Ytpmeglcmhiihoaa.Q
open Go.RowKit Go.Proofs.YtpmeglcmhiihoaaW.PrintWords Go.Proofs.YtpmeglcmhiihoaaW.PrintLast Go.Proofs.YtpmeglcmhiihoaaW.PrintMore
attribute [local go_sem] max2_int min2_int max_two min_two max_three min_three max_four min_four max2_str min2_str str_geq str_gtr str_leq   -- for this text's walks alone
set_option linter.unusedVariables false
set_option linter.unusedSimpArgs false

def laws_toValueS.l0 : Nat→List (S23)→List (S26)→Int→Option ((List (S26)))
 | 0,_,_,_ => none
 | k + 1,x0,x3,x4 => if x4<(x0.length : Int) then (if 0≤x4 then ((laws_toValue.f ((rd_T23 x0 x4).f0) ((rd_T23 x0 x4).f1) ((rd_T23 x0 x4).f2)).bind fun bt742 => (if x4<(x3.length : Int) then (laws_toValueS.l0 k x0 (x3.set (x4 : Int).toNat (⟨bt742.1,bt742.2.1,bt742.2.2⟩ : S26)) (wrap64 (x4 + 1))) else (none))) else (none)) else (some x3)
def laws_toValueS.f (k : Nat) (l0 : List (S23)) : Option ((List (S26))):=if 0≤(l0.length : Int) then (if ((l0.length : Int) : Int).toNat≤8796093022208 then (laws_toValueS.l0 k l0 (List.replicate ((l0.length : Int) : Int).toNat z26) 0) else (none)) else (none)
theorem laws_toValueS.mono_l : ∀ k,(∀ y0 y1 y2,LeO (laws_toValueS.l0 k y0 y1 y2) (laws_toValueS.l0 (k + 1) y0 y1 y2))
 | 0 => fun _ _ _ r h => by simp [laws_toValueS.l0] at h
 | k + 1 => by
  have ih0:=laws_toValueS.mono_l k
  ·
   intro y0 y1 y2
   unfold laws_toValueS.l0
   repeat' first
   | (with_reducible exact ih0 _ _ _)
   | (with_reducible exact LeO.refl _)
   | (with_reducible exact LeO.none _)
   | (with_reducible refine LeO.ite ?_ ?_)
   | (with_reducible refine LeO.bind ?_ (fun _ => ?_))
   | exact ih0 _ _ _
   | exact LeO.none _
   | refine LeO.ite ?_ ?_
   | refine LeO.bind ?_ (fun _ => ?_)
theorem laws_toValueS.mono : ∀ a0 k,LeO (laws_toValueS.f k a0) (laws_toValueS.f (k + 1) a0):=by
 intro a0 k
 have ih0:=laws_toValueS.mono_l k
 unfold laws_toValueS.f
 repeat' first
   | (with_reducible exact ih0 _ _ _)
   | (with_reducible exact LeO.refl _)
   | (with_reducible exact LeO.none _)
   | (with_reducible refine LeO.ite ?_ ?_)
   | (with_reducible refine LeO.bind ?_ (fun _ => ?_))
   | exact ih0 _ _ _
   | exact LeO.none _
   | refine LeO.ite ?_ ?_
   | refine LeO.bind ?_ (fun _ => ?_)
set_option maxHeartbeats 8000000 in
set_option maxRecDepth 100000 in
theorem laws_toValueS.calls (k : Nat) (A0 : Option Addr) (c0 : Nat) (l0 : List (S23)) (r : List (S26)) (w : World) (hr0 : Kd.C k23 w A0 l0.length l0) (hc0 : l0.length≤c0) (h : laws_toValueS.f k l0=some r) :
  Calls Try.prog 43 #[.slice A0 l0.length c0] w fun e w' => ∃ v0_ : Value,e = .returned (v0_)∧Kd.R k26 26 w' w.heap.size (fun _ => True) v0_ r∧Below w.heap.size w w':=by
 have hu23:=Try.underlying23
 have hu26:=Try.underlying26
 have HR0:=Aside0.mk hr0
 have HC0:=Aside0.mk hc0
 clear hr0 hc0
 have HB:=Aside0.mk (Below.refl w.heap.size w)
 have H : (if 0≤(l0.length : Int) then (if ((l0.length : Int) : Int).toNat≤8796093022208 then (laws_toValueS.l0 k l0 (List.replicate ((l0.length : Int) : Int).toNat z26) 0) else (none)) else (none))=some r:=h
 clear h
 by_cases c2 : 0≤(l0.length : Int)
 ·
  rw [if_pos c2] at H
  have c2b0:=eq_true c2
  have c2b1 : decide (0≤(l0.length : Int))=true:=decide_eq_true c2
  clear c2
  by_cases c3 : ((l0.length : Int) : Int).toNat≤8796093022208
  ·
   rw [if_pos c3] at H
   have c3b0:=eq_true c3
   have c3b1 : decide (((l0.length : Int) : Int).toNat≤8796093022208)=true:=decide_eq_true c3
   clear c3
   obtain ⟨y738,hy738⟩ : ∃ y_ : List (S26),y_=(List.replicate ((l0.length : Int) : Int).toNat z26):=⟨_,rfl⟩
   replace H : (laws_toValueS.l0 k l0 y738 0)=some r:=by first|(rw [hy738];with_reducible exact H)|(have H2_:=(Option.bind_some _ _).symm.trans H;rw [hy738];with_reducible exact H2_)|(have H2_:=(Option.bind_some _ _).symm.trans H;with_reducible exact H2_)|with_reducible exact H|(rw [hy738];exact H)|exact H
   have Ny738:=Aside0.mk hy738
   clear hy738
   have H':=Aside0.mk H
   clear H
   go_enter Try.func43,Try.ntmps43
   go_wp2_with (first|((with_reducible refine gate_dst (N:=7) rfl ?_);refine Kd.R_make k26 _ 26 rfl (N:=7) rfl 41 _ _ rfl (l0.length : Int) rfl rfl Try.underlying41 (.agg #[(.int .i64 0),(.int .i64 0),(.string ⟨#[]⟩)]) 32 info26 rfl (by decide) (by omega) z26 (ok:=fun _ => True) (okp:=fun _ => True) (k26_mkM _ _ _ z26 ) (fun _ hk => hk) trivial (of_decide_eq_true (by first|(with_reducible assumption)|assumption)) (Nat.le_trans (Nat.mul_le_mul_right _ (of_decide_eq_true (by first|(with_reducible assumption)|assumption) : (l0.length : Int).toNat≤8796093022208)) (by omega)) (Below.refl _ _) (Nat.le_refl _) ?_;intro v739 w4 ho5 hb hg_ hnew_;clear hg_ hnew_;(first|rw [← Ny738.out] at ho5|(simp only [Int.reduceToNat] at ho5;rw [← Ny738.out] at ho5));have n0_:=Aside0.mk (Kd.R_lower ho5 (below_size (by repeat (first|(with_reducible first|exact HB.out|apply below_alloc|apply pw_below_drewN|apply below_drew1)|exact HB.out))));have n1_:=Aside0.mk (below_step (by repeat (first|(with_reducible first|exact HB.out|apply below_alloc|apply pw_below_drewN|apply below_drew1)|exact HB.out)) hb);clear HB;have HO740:=n0_;have HB:=n1_;clear n0_ n1_;clear hb ho5))
   go_loopg [4] k (fun kq v4 w' => ∃ (x3_1 : List (S26)) (x4_1 : Int),v4 = .int .i64 x4_1∧Aside0 (laws_toValueS.l0 kq l0 x3_1 x4_1=some r)∧Aside0 (kq≤k)∧Aside0 (Kd.R k26 26 w' w.heap.size (fun _ => True) v739 x3_1)∧Aside0 (Below w.heap.size w w'))
   case atStart => exact ⟨(y738),(0),(by first|rfl|(simp;done)|(simp [*];done)),H',⟨Nat.le_refl _⟩,⟨by (with_reducible repeat (first|apply Kd.R_alloc|apply Kd.R_drewN|apply Kd.R_drew));exact HO740.out⟩,⟨by repeat (first|(with_reducible first|exact HB.out|apply below_alloc|apply pw_below_drewN|apply below_drew1)|exact HB.out)⟩⟩
   case round =>
    clear H'
    try clear c2
    try clear c2b0
    try clear c2b1
    try clear p2
    try clear c3
    try clear c3b0
    try clear c3b1
    try clear c4
    obtain ⟨x3_1,x4_1,rfl,HA,HK1,HO_3,HB⟩:=hrel
    cases gk with
    | zero => exact absurd HA.out (by simp [laws_toValueS.l0])
    | succ k1 =>
     have H:=HA.out
     clear HA
     simp only [laws_toValueS.l0] at H
     by_cases c6 : x4_1<(l0.length : Int)
     ·
      rw [if_pos c6] at H
      have c6b0 : decide (x4_1<(l0.length : Int))=true:=decide_eq_true c6
      clear c6
      by_cases c7 : 0≤x4_1
      ·
       rw [if_pos c7] at H
       have c7b0 : decide (0≤x4_1)=true:=decide_eq_true c7
       clear c7
       replace H:=Option.bind_eq_some_iff.mp H
       obtain ⟨⟨t742,t743,t744⟩,A80,H⟩:=H
       replace H : (if x4_1<(x3_1.length : Int) then (laws_toValueS.l0 k1 l0 (x3_1.set (x4_1 : Int).toNat (⟨t742,t743,t744⟩ : S26)) (wrap64 (x4_1 + 1))) else (none))=some r:=H
       have A8:=Aside0.mk A80
       clear A80
       by_cases c9 : x4_1<(x3_1.length : Int)
       ·
        rw [if_pos c9] at H
        have c9b0 : decide (x4_1<(x3_1.length : Int))=true:=decide_eq_true c9
        clear c9
        obtain ⟨y745,hy745⟩ : ∃ y_ : List (S26),y_=(x3_1.set (x4_1 : Int).toNat (⟨t742,t743,t744⟩ : S26)):=⟨_,rfl⟩
        replace H : (laws_toValueS.l0 k1 l0 y745 (wrap64 (x4_1 + 1)))=some r:=by first|(rw [hy745];with_reducible exact H)|(have H2_:=(Option.bind_some _ _).symm.trans H;rw [hy745];with_reducible exact H2_)|(have H2_:=(Option.bind_some _ _).symm.trans H;with_reducible exact H2_)|with_reducible exact H|(rw [hy745];exact H)|exact H
        have Ny745:=Aside0.mk hy745
        clear hy745
        have H':=Aside0.mk H
        clear H
        have p741 : 0≤(x4_1 : Int):=of_decide_eq_true (by first|(with_reducible assumption)|assumption)
        have q741 : x4_1<(l0.length : Int):=of_decide_eq_true (by first|(with_reducible assumption)|assumption)
        obtain ⟨ad741,e741,hx741_0,hx741_1,hx741_2⟩:=at_T23 HR0.out x4_1 p741 q741
        cases e741
        replace hx741_0:=(HB.out.cell (World.block_lt_of_cell? w _ hx741_0)).trans hx741_0
        replace hx741_1:=(HB.out.cell (World.block_lt_of_cell? w _ hx741_1)).trans hx741_1
        replace hx741_2:=(HB.out.cell (World.block_lt_of_cell? w _ hx741_2)).trans hx741_2
        replace p741:=eq_true p741
        replace q741:=eq_true q741
        go_wp2_with (first|((with_reducible refine gate_callee (f:=16) rfl ?_);refine goesL_ (some 20) rfl rfl Try.func16 (by kernel_rfl) rfl #[.agg #[.int .i64 ((rd_T23 l0 x4_1).f0),.int .i64 ((rd_T23 l0 x4_1).f1),.string ((rd_T23 l0 x4_1).f2)]] rfl (by (try simp only [List.map_toArray,List.map_cons,List.map_nil]);first|done|rfl|(simp only [List.length_drop,List.length_take];rfl)|(simp only [gt_iff_lt,ge_iff_le,Int.ofNat_lt,Int.ofNat_le];rfl)) ?_;(with_reducible refine (laws_toValue.calls  ((rd_T23 l0 x4_1).f0) ((rd_T23 l0 x4_1).f1) ((rd_T23 l0 x4_1).f2) t742 t743 t744 _ A8.out).mono ?_);rintro e w11 ⟨rfl,hb⟩;refine ⟨_,rfl,?_⟩;have n0_:=Aside0.mk (Kd.R_below (by (with_reducible repeat (first|apply Kd.R_alloc|apply Kd.R_drewN|apply Kd.R_drew));exact HO_3.out) hb);have n1_:=Aside0.mk (below_step (by repeat (first|(with_reducible first|exact HB.out|apply below_alloc|apply pw_below_drewN|apply below_drew1)|exact HB.out)) hb);clear HO_3;clear HB;have HO_3:=n0_;have HB:=n1_;clear n0_ n1_;(try clear hb);(try clear hb2);(try clear hk);(try clear hi);have p10 : 0≤(x4_1 : Int):=of_decide_eq_true (by first|(with_reducible assumption)|assumption);have q10 : (x4_1 : Int)<((x3_1.length : Int) : Int):=of_decide_eq_true (by first|(with_reducible assumption)|assumption);obtain ⟨go10,co10,eo10,gb10,gl10,cl10,HG10⟩:=Kd.R_form HO_3.out (by omega);(first|cases eo10|(injection eo10 with ea_ en_ ec_;(first|subst ea_|(injection ea_ with ea_;subst ea_));subst ec_;clear en_));have GB10:=Aside0.mk gb10;have GG10:=Aside0.mk HG10;clear gb10 gl10 HG10;obtain ⟨ce10,hcl10,hM10,hcc10,hfr10⟩:=Kd.R_elem HO_3.out z26 (x4_1 : Int) p10 q10;obtain rfl:=k26_openM hM10;have hx10_0 : w11.cell? ⟨go10,(x4_1 : Int).toNat * 3,none⟩=some (.int .i64 ((rd_T26 x3_1 x4_1).f0)):=hcc10 0 _ rfl;have hx10_1 : w11.cell? ⟨go10,(x4_1 : Int).toNat * 3 + 1,none⟩=some (.int .i64 ((rd_T26 x3_1 x4_1).f1)):=hcc10 1 _ rfl;have hx10_2 : w11.cell? ⟨go10,(x4_1 : Int).toNat * 3 + 2,none⟩=some (.string ((rd_T26 x3_1 x4_1).f2)):=hcc10 2 _ rfl;have hf10_0 : w11.frozen? ⟨go10,(x4_1 : Int).toNat * 3,none⟩=false:=hfr10 0;have hf10_1 : w11.frozen? ⟨go10,(x4_1 : Int).toNat * 3 + 1,none⟩=false:=hfr10 1;have hf10_2 : w11.frozen? ⟨go10,(x4_1 : Int).toNat * 3 + 2,none⟩=false:=hfr10 2;clear hcl10 hcc10 hfr10 hM10;replace p10:=eq_true p10;replace q10:=eq_true q10;have HX12:=Aside0.mk (show Kd.R k26 26 w11 w.heap.size (fun _ => True) (.slice (some ⟨go10,0,none⟩) x3_1.length co10) x3_1 from (by (with_reducible repeat (first|apply Kd.R_alloc|apply Kd.R_drewN|apply Kd.R_drew));exact HO_3.out));obtain ⟨ce12,hcl12,hM12,hcc12,hfr12⟩:=Kd.R_elem HX12.out z26 (x4_1 : Int) (of_decide_eq_true (by first|(with_reducible assumption)|assumption)) (by have h_ : (x4_1 : Int)<((x3_1.length : Int) : Int):=of_decide_eq_true (by first|(with_reducible assumption)|assumption);first|exact h_|(have e_:=(Kd.R_reads' HO_3.out).1;omega)|simpa using h_);obtain rfl:=k26_openM hM12;have HP12:=Kd.R_seg HX12.out (x4_1 : Int) (of_decide_eq_true (by first|(with_reducible assumption)|assumption)) (by have h_ : (x4_1 : Int)<((x3_1.length : Int) : Int):=of_decide_eq_true (by first|(with_reducible assumption)|assumption);first|exact h_|(have e_:=(Kd.R_reads' HO_3.out).1;omega)|simpa using h_) (seg:=[.int .i64 t742,.int .i64 t743,.string t744]) (j:=0) hcl12 hcc12 (show 3≤3 from by decide) (x':=(⟨t742,t743,t744⟩ : S26)) (k26_mkM _ _ _ (⟨t742,t743,t744⟩ : S26) ) (fun _ hk => hk);have hx12_0:=hcc12 0 _ rfl;(try simp only [show (k26).sz=3 from rfl,Nat.mul_one,Nat.add_zero] at hx12_0);have hf12_0:=hfr12 0;(try simp only [show (k26).sz=3 from rfl,Nat.mul_one,Nat.add_zero] at hf12_0);have hx12_1:=hcc12 1 _ rfl;(try simp only [show (k26).sz=3 from rfl,Nat.mul_one,Nat.add_zero] at hx12_1);have hf12_1:=hfr12 1;(try simp only [show (k26).sz=3 from rfl,Nat.mul_one,Nat.add_zero] at hf12_1);have hx12_2:=hcc12 2 _ rfl;(try simp only [show (k26).sz=3 from rfl,Nat.mul_one,Nat.add_zero] at hx12_2);have hf12_2:=hfr12 2;(try simp only [show (k26).sz=3 from rfl,Nat.mul_one,Nat.add_zero] at hf12_2);clear hcl12 hcc12 hfr12 hM12)|((with_reducible refine gate_store (t:=26) (p:=21) rfl ?_);refine store_event (t:=26) (p:=21) (v:=?vo_w13) (w1:=(((w11.setCell ⟨go10,(x4_1 : Int).toNat * 3,none⟩ (.int .i64 t742)).setCell ⟨go10,(x4_1 : Int).toNat * 3 + 1,none⟩ (.int .i64 t743)).setCell ⟨go10,(x4_1 : Int).toNat * 3 + 2,none⟩ (.string t744))) ?hg ?ho ?hn ?hr ?_;(case ho => rfl);(case hg => rfl);(case hn => rfl);(case hr => first|(go_simp;done)|(go_simp;rfl));intro w13 hw;have hg : w11.grownBy w13 (some go10):=(by rw [hw];exact HP12.2);have hp_ : Kd.R k26 26 w13 w.heap.size (fun _ => True) (.slice (some ⟨go10,0,none⟩) x3_1.length co10) y745:=(by rw [hw,Ny745.out];exact HP12.1);clear HP12;have n0_:=Aside0.mk (hp_);have n1_:=Aside0.mk ((by rw [hw];exact below_set (below_set (below_set (HB.out) GB10.out) GB10.out) GB10.out : Below w.heap.size w w13));clear HO_3;clear HB;have HO_3:=n0_;have HB:=n1_;clear n0_ n1_;clear hg hw hp_))
        go_roundg k1
        case measure => have:=HK1.out;omega
        case rel => exact ⟨(y745),(wrap64 (x4_1 + 1)),(by first|rfl|(simp;done)|(simp [*];done)),H',⟨by have:=HK1.out;omega⟩,⟨by (with_reducible repeat (first|apply Kd.R_alloc|apply Kd.R_drewN|apply Kd.R_drew));exact HO_3.out⟩,⟨by repeat (first|(with_reducible first|exact HB.out|apply below_alloc|apply pw_below_drewN|apply below_drew1)|exact HB.out)⟩⟩
       ·
        rw [if_neg c9] at H
        exact absurd H (by simp)
      ·
       rw [if_neg c7] at H
       exact absurd H (by simp)
     ·
      rw [if_neg c6] at H
      have c6b0 : decide (x4_1<(l0.length : Int))=false:=decide_eq_false c6
      clear c6
      obtain rfl:=Option.some.inj H
      go_wp2
      go_ret
      exact ⟨_,by first|rfl|(simp [errW_none,errW_some] <;> rfl)|(simp [*,errW_none,errW_some] <;> rfl),by (with_reducible repeat (first|apply Kd.R_alloc|apply Kd.R_drewN|apply Kd.R_drew));exact HO_3.out,by repeat (first|(with_reducible first|exact HB.out|apply below_alloc|apply pw_below_drewN|apply below_drew1)|exact HB.out)⟩
  ·
   rw [if_neg c3] at H
   exact absurd H (by simp)
 ·
  rw [if_neg c2] at H
  exact absurd H (by simp)

end Go.Proofs.Ytpmeglcmhiihoaa.Q
end
section
namespace Go.Proofs.Ytpmeglcmhiihoaa.Pure
open Go.RowKit Go.Proofs.Ytpmeglcmhiihoaa.Q Go.Proofs.YtpmeglcmhiihoaaW.PrintWords Go.Proofs.YtpmeglcmhiihoaaW.PrintLast Go.Proofs.YtpmeglcmhiihoaaW.Pl
abbrev LVal:=S23

def iv (v : LVal) : IVal:=⟨v.f0,v.f1,v.f2⟩
theorem ival_ext {a b : IVal} (h0 : a.f0=b.f0) (h1 : a.f1=b.f1) (h2 : a.f2=b.f2) : a=b:=by cases a;cases b;simp_all
def ve (a b : IVal) : Bool:=a.f0 == b.f0 && (a.f1 == b.f1 && a.f2.toList == b.f2.toList)
theorem ve_iff (a b : IVal) : ve a b=true↔a=b:=by
  unfold ve
  constructor
  · intro h
    simp only [Bool.and_eq_true,beq_iff_eq] at h
    exact ival_ext h.1 h.2.1 (ba_ext h.2.2)
  · rintro rfl;simp
theorem eqValue_tells (a b : IVal) : laws_eqValue.f a.f0 a.f1 a.f2 b.f0 b.f1 b.f2=some (ve a b):=by
  unfold laws_eqValue.f ve
  by_cases h0 : a.f0=b.f0
  · rw [if_pos h0]
    by_cases h1 : a.f1=b.f1
    · rw [if_pos h1]
      by_cases h2 : a.f2.toList=b.f2.toList
      · rw [if_pos h2];simp [h0,h1,h2]
      · rw [if_neg h2];simp [h2]
    · rw [if_neg h1];simp [h1]
  · rw [if_neg h0];simp [h0]
end Go.Proofs.Ytpmeglcmhiihoaa.Pure
end
section
namespace Go.Proofs.Ytpmeglcmhiihoaa.Pure
open Go Go.RowKit Go.Proofs.Ytpmeglcmhiihoaa.Q Go.Proofs.YtpmeglcmhiihoaaW.PrintWords Go.Proofs.YtpmeglcmhiihoaaW.PrintLast Go.Proofs.YtpmeglcmhiihoaaW.Pl
theorem wib {i : Nat} (h : i≤9223372036854775806) : wrap64 ((i : Int) + 1)=((i + 1 : Nat) : Int):=w64 (by omega) (by omega)
theorem toByteS_tells (l : List Int) (hl : l.length≤1048576) : Eve (fun k => laws_toByteS.f k l) l:=by
  simp only [laws_toByteS.f]
  refine Eve.ite (fun _ => ?_) (fun h => absurd (by omega) h)
  refine Eve.ite (fun _ => ?_) (fun h => absurd (by omega) h)
  refine (ev_map l (fun k ys i => laws_toByteS.l0 k l ys i) id 0 (fun ys hy => ?_) (fun i hi ys v hy ih => ?_)).eq (by simp)
  · simp only [laws_toByteS.l0]
    exact Eve.ite (fun h => absurd h (by omega)) (fun _ => Eve.one)
  · simp only [laws_toByteS.l0]
    refine Eve.ite (fun _ => ?_) (fun h => absurd (by omega) h)
    refine Eve.ite (fun _ => ?_) (fun h => absurd (by omega) h)
    simp only [rd_at _ _ hi,wib (show i≤9223372036854775806 by omega)]
    refine Eve.ite (fun _ => ?_) (fun h => absurd (by omega) h)
    exact ih
theorem eqByteS_self (l : List Int) (hl : l.length≤1048576) : Eve (fun k => laws_eqByteS.f k l l) true:=by
  simp only [laws_eqByteS.f,if_true]
  refine (ev_all l (fun k i => laws_eqByteS.l0 k l l i) (fun _ => true) ?_ (fun i hi v ih => ?_)).eq (by simp)
  · simp only [laws_eqByteS.l0]
    exact Eve.ite (fun h => absurd h (by omega)) (fun _ => Eve.one)
  · simp only [laws_eqByteS.l0,if_true,Bool.true_and,wib (show i≤9223372036854775806 by omega)]
    refine Eve.ite (fun _ => ?_) (fun h => absurd (by omega) h)
    refine Eve.ite (fun _ => ?_) (fun h => absurd (by omega) h)
    exact Eve.ite (fun _ => ih) (fun h => absurd (by omega) h)
end Go.Proofs.Ytpmeglcmhiihoaa.Pure
end
section
namespace Go.Proofs.Ytpmeglcmhiihoaa.Pure
open Go Go.RowKit Go.Proofs.Ytpmeglcmhiihoaa.Q Go.Proofs.YtpmeglcmhiihoaaW.PrintWords Go.Proofs.YtpmeglcmhiihoaaW.PrintLast Go.Proofs.YtpmeglcmhiihoaaW.PrintMore Go.Proofs.YtpmeglcmhiihoaaW.Pl
abbrev Dec:=Int×Int×ByteArray×Int
def no3 : Dec:=(0,0,eB,3)
def decV (l : List Int) : Dec :=
  if (l.length : Int) > 65536 then (0,0,eB,2) else
  match nxtV (strOfNums l) with
  | none => no3
  | some (v,r) => if r.size=0 then (if rightV 5 v=true then (v.f0,v.f1,v.f2,0) else no3) else no3
theorem nums_size (l : List Int) : (strOfNums l).size=l.length:=by
  unfold strOfNums
  rw [← data_length]
  simp
theorem dec_spec (l : List Int) : Eve (fun k => spec_DecodeValue.f k l) (decV l):=by
  simp only [spec_DecodeValue.f]
  unfold decV
  refine Eve.ite (fun h => ?_) (fun h => ?_)
  · rw [if_pos h];exact Eve.one
  rw [if_neg h]
  have hz:=nums_size l
  refine Eve.bind (next_tells (strOfNums l) (by omega)) ?_
  cases hn : nxtV (strOfNums l) with
  | none => simp only [told,Bool.false_eq_true,if_false];exact Eve.one
  | some p =>
    obtain ⟨v,r⟩:=p
    simp only [told,if_true]
    have hv:=val_size (strOfNums l) false (by omega)
    rw [(nxt_some _ v r hn).1] at hv
    refine Eve.ite (fun h1 => ?_) (fun h1 => ?_)
    · rw [if_pos ((emp r).1 h1)]
      refine Eve.bind (ok_spec v hv) ?_
      exact Eve.ite (fun h2 => Eve.one.eq (by rw [if_pos h2])) (fun h2 => Eve.one.eq (by rw [if_neg h2];rfl))
    · rw [if_neg (fun h2 => h1 ((emp r).2 h2))];exact Eve.one
theorem dec_impl (l : List Int) : Eve (fun k => impl_DecodeValue.f k l) (decV l):=by
  simp only [impl_DecodeValue.f]
  unfold decV
  refine Eve.ite (fun h => ?_) (fun h => ?_)
  · rw [if_pos h];exact Eve.one
  rw [if_neg h]
  have hz:=nums_size l
  refine Eve.bind (value_tells (strOfNums l) false) ?_
  have hv:=val_size (strOfNums l) false (by omega)
  cases hn : nxtV (strOfNums l) with
  | none =>
    refine Eve.ite (fun _ => Eve.one) (fun h1 => ?_)
    have hb:=(nxt_none _ hn).resolve_left h1
    refine Eve.ite (fun _ => ?_) (fun _ => Eve.one)
    refine Eve.bind (ok_impl (rdv (valV (strOfNums l) false)) hv) ?_
    rw [bad_right _ hb 5]
    simp only [Bool.false_eq_true,if_false]
    exact Eve.one
  | some p =>
    obtain ⟨v,r⟩:=p
    have hs:=(nxt_some _ v r hn).1
    rw [hs] at hv ⊢
    simp only [Bool.false_eq_true,if_false]
    refine Eve.ite (fun h1 => ?_) (fun h1 => ?_)
    · rw [if_pos ((emp r).1 h1)]
      refine Eve.bind (ok_impl v hv) ?_
      exact Eve.ite (fun h2 => Eve.one.eq (by rw [if_pos h2])) (fun h2 => Eve.one.eq (by rw [if_neg h2];rfl))
    · rw [if_neg (fun h2 => h1 ((emp r).2 h2))];exact Eve.one
theorem FnExactDecodeValue : laws_FnExactDecodeValue.Pure:=by
  intro l hl
  refine Eve.get (g:=fun k => laws_FnExactDecodeValue.f k l) ?_
  simp only [laws_FnExactDecodeValue.f]
  refine Eve.ite (fun _ => Eve.one) (fun h => ?_)
  refine Eve.bind (toByteS_tells l (by omega)) ?_
  refine Eve.bind (dec_spec l) ?_
  refine Eve.bind (toByteS_tells l (by omega)) ?_
  refine Eve.bind (dec_impl l) ?_
  have he:=eqValue_tells (⟨(decV l).1,(decV l).2.1,(decV l).2.2.1⟩ : IVal) ⟨(decV l).1,(decV l).2.1,(decV l).2.2.1⟩
  rw [(ve_iff _ _).2 rfl] at he
  simp only at he
  simp only [he,Option.bind_some,if_true,bne_self_eq_false]
  refine Eve.succ ?_
  simp only [laws_FnExactDecodeValue.j0,Bool.false_eq_true,if_false]
  refine Eve.bind (toByteS_tells l (by omega)) ?_
  refine Eve.bind (eqByteS_self l (by omega)) ?_
  simp only [if_true]
  exact Eve.one
end Go.Proofs.Ytpmeglcmhiihoaa.Pure
end
section
namespace Go.Proofs.Ytpmeglcmhiihoaa.fnExactDecodeValue
open Go.ChangeShapes Go.WideShapes Go.ChangeAt Go.RowKit Go.Proofs.YtpmeglcmhiihoaaW.PrintWords Go.Proofs.YtpmeglcmhiihoaaW.PrintOpen Go.Proofs.Ytpmeglcmhiihoaa.Q
open Go.ChangeMaps (open_string shut_string)
set_option linter.unusedVariables false
theorem own : ownKnob Try.prog.godebug=none:=by kernel_rfl
theorem laidOut : laidOutB Try.prog=true:=by kernel_rfl
set_option maxRecDepth 100000 in
theorem lifted (os : Os) (started : os.Started) (H : Type) (enc : TypeId×Value→H) :
    ReturnsInHanded {} Try.checked os 4 .any (Rows.fnExactDecodeValueSpec.pre6 enc Try.prog Try.f4 Rows.fnExactDecodeValueRow.domain false) (Rows.fnExactDecodeValueSpec.post enc Try.prog Try.f4 false true false false):=by
  refine returnsInHanded_of_change_sized (C:=Try.checked) own started (by kernel_rfl) Try.func4
    (ChangeSpec.witness6 (enc:=enc) (C:=Try.checked) false ⟨#[],#[.slice none 0 0],[]⟩ 8 (by kernel_rfl) (by kernel_rfl) (by kernel_rfl) (by kernel_rfl)) ?_
  intro W base args ds gs before hval0 hW hcnd hsz0 _
  have hval : ∀ (j : Nat) t v,Try.f4.params[j]? = some t→args[j]? = some v→Value.okWide Try.prog W .any base t v:=hval0
  have hW':=hW
  obtain ⟨p,q,hA0,hV,rfl,hfz,hnd⟩:=hW
  have hA : DataW.TrodAll enc Try.prog W 0 (fun _ => true) true Try.f4.params.toList args.toList ds p:=hA0
  rw [Try.params4] at hA hval
  obtain ⟨v0,vs0,d0,ds0,p0,q0,hargs,rfl,rfl,h0,r0⟩:=trodAll_cons hA
  obtain ⟨rfl,rfl,rfl⟩:=trodAll_nil r0
  obtain rfl : args = #[v0]:=by cases args;simp_all
  obtain ⟨rfl,rfl⟩:=trodVars_none hV
  have t0:=h0
  have lt0 : ∀ x ∈ p0,x.block<W.heap.size:=by obtain ⟨m,hm⟩:=t0;exact DataW.trod_lt m _ _ _ hm
  obtain ⟨x0,A0,c0,rfl,hl0,hc0,g0⟩:=arg_slice Try.underlying29 (opens_slice Try.underlying29 (by kernel_rfl) (opens_int Try.underlying5)) (hval 0 29 v0 rfl rfl) h0
  clear hA0 hval0 hsz0
  obtain ⟨k,hp⟩:=Pure.FnExactDecodeValue x0 g0
  refine (laws_FnExactDecodeValue.calls k A0 c0 x0 true W hc0 hl0 hp).mono fun e W' ⟨he,bel0⟩ => ?_
  have bel : Below W.heap.size W W':=bel0
  subst he
  exact ⟨_,rfl,_,_,_,[],_,[],hW',trodAll_mk1 (shut_bool Try.underlying4 _),(trodAll_cons_mk (Below.trod laidOut (by kernel_rfl) (of_decide_eq_true (by kernel_rfl)) t0 bel lt0) trodAll_mk0),rfl,bel.frame _,fun h => by cases h⟩
theorem over : Rows.fnExactDecodeValueRow.holds Try.pinned (OpenSpec.ofChange Rows.fnExactDecodeValueSpec) :=
  OpenClaim.holds_of_wide 4 Try.f4 rfl rfl rfl rfl rfl rfl rfl ⟨rfl,rfl,rfl,rfl,rfl⟩ rfl rfl rfl rfl rfl (by kernel_rfl) Try.func4 (by kernel_rfl)
    (of_decide_eq_true (by kernel_rfl)) (by unfold Func.isWrapper;first|(rw [if_pos (by decide +kernel)];kernel_rfl)|(rw [if_neg (by decide +kernel)];exact ⟨rfl,rfl⟩))
    (fun os started H enc _ => lifted os started H enc)
theorem proved : Rows.FnExactDecodeValueSaid:=over
#print axioms proved
end Go.Proofs.Ytpmeglcmhiihoaa.fnExactDecodeValue
namespace Go.Proofs.Ytpmeglcmhiihoaa
theorem fnExactDecodeValue_holds : Rows.FnExactDecodeValueSaid:=fnExactDecodeValue.proved
end Go.Proofs.Ytpmeglcmhiihoaa
end
