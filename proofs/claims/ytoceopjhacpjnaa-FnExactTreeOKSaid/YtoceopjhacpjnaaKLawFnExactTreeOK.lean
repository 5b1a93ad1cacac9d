/- FnExactTreeOK: for every argument the law answers true, and the argument reads behind the call as it read before. No condition. -/
import Derived.Test.YtoceopjhacpjnaaKLawFnExactTreeOKp0
import Derived.Test.YtoceopjhacpjnaaKLawFnExactTreeOKp1
import Derived.Test.YtoceopjhacpjnaaKLawFnExactTreeOKp2
import Derived.Test.YtoceopjhacpjnaaWWords
import Derived.WalkKit
import Derived.ProofKit
import Derived.OpenShut
import Derived.ShutString
import Derived.ChangeOld
import Derived.Below
import Derived.SizedLaws
import Derived.Deep.Slices
import Derived.Lib.SmallJoins
import Derived.Test.YtoceopjhacpjnaaWMore
import Derived.Lib.Bytealg
import Derived.Test.YtoceopjhacpjnaaRows
import Derived.Carry
namespace Go.Proofs.Ytoceopjhacpjnaa.Q
open Go.RowKit Go.Proofs.YtoceopjhacpjnaaW.PrintWords Go.Proofs.YtoceopjhacpjnaaW.PrintLast Go.Proofs.YtoceopjhacpjnaaW.PrintMore
attribute [local go_sem] max2_int min2_int max_two min_two max_three min_three max_four min_four max2_str min2_str str_geq str_gtr str_leq   -- for this text's walks alone
set_option linter.unusedVariables false
set_option linter.unusedSimpArgs false

/-! ### laws_FnExactTreeOK: function 6 -/
def laws_FnExactTreeOK.f (k : Nat) (l0_0 : List (S105)) (a0_1 : Int) : Option (Bool) := (laws_szTree.f k l0_0 a0_1 1048576).bind fun t317 => (if t317 < 0 then (some true) else ((laws_toTree.f k l0_0 a0_1).bind fun bt318 => ((spec_TreeOK.f k bt318.1 bt318.2).bind fun t322 => ((laws_toTree.f k l0_0 a0_1).bind fun bt323 => ((impl_TreeOK.f k bt323.1 bt323.2).bind fun t328 => (if (t328 != t322) = true then (some false) else ((laws_toTree.f k l0_0 a0_1).bind fun bt329 => ((laws_eqTree.f k bt323.1 bt323.2 bt329.1 bt329.2).bind fun t333 => (if t333 = true then (some true) else (some false))))))))))
theorem laws_FnExactTreeOK.mono : ∀ a0 a1 k, LeO (laws_FnExactTreeOK.f k a0 a1) (laws_FnExactTreeOK.f (k + 1) a0 a1) := by
  intro a0 a1 k
  unfold laws_FnExactTreeOK.f
  repeat' first
      | (with_reducible exact laws_eqTree.mono _ _ _ _ _)
      | (with_reducible exact laws_szTree.mono _ _ _ _)
      | (with_reducible exact spec_TreeOK.mono _ _ _)
      | (with_reducible exact laws_toTree.mono _ _ _)
      | (with_reducible exact impl_TreeOK.mono _ _ _)
      | (with_reducible exact LeO.refl _)
      | (with_reducible exact LeO.none _)
      | (with_reducible refine LeO.ite ?_ ?_)
      | (with_reducible refine LeO.bind ?_ (fun _ => ?_))
      | exact laws_eqTree.mono _ _ _ _ _
      | exact laws_szTree.mono _ _ _ _
      | exact spec_TreeOK.mono _ _ _
      | exact laws_toTree.mono _ _ _
      | exact impl_TreeOK.mono _ _ _
      | exact LeO.none _
      | refine LeO.ite ?_ ?_
      | refine LeO.bind ?_ (fun _ => ?_)
set_option maxHeartbeats 8000000 in
set_option maxRecDepth 100000 in
theorem laws_FnExactTreeOK.calls (k : Nat) (A0_0 : Option Addr) (c0_0 : Nat) (l0_0 : List (S105)) (a0_1 : Int) (r : Bool) (w : World) (hr0_0 : Kd.C k105 w A0_0 l0_0.length l0_0) (hc0_0 : l0_0.length ≤ c0_0) (h : laws_FnExactTreeOK.f k l0_0 a0_1 = some r) :
    Calls Try.prog 6 #[.agg #[.slice A0_0 l0_0.length c0_0, .int .i64 a0_1]] w fun e w' => e = .returned (.bool r) ∧ Below w.heap.size w w' := by
  have hu41 := Try.underlying41
  have hu34 := Try.underlying34
  have HR0_0 := Aside0.mk hr0_0
  have HC0_0 := Aside0.mk hc0_0
  clear hr0_0 hc0_0
  have HB := Aside0.mk (Below.refl w.heap.size w)
  have H : ((laws_szTree.f k l0_0 a0_1 1048576).bind fun t317 => (if t317 < 0 then (some true) else ((laws_toTree.f k l0_0 a0_1).bind fun bt318 => ((spec_TreeOK.f k bt318.1 bt318.2).bind fun t322 => ((laws_toTree.f k l0_0 a0_1).bind fun bt323 => ((impl_TreeOK.f k bt323.1 bt323.2).bind fun t328 => (if (t328 != t322) = true then (some false) else ((laws_toTree.f k l0_0 a0_1).bind fun bt329 => ((laws_eqTree.f k bt323.1 bt323.2 bt329.1 bt329.2).bind fun t333 => (if t333 = true then (some true) else (some false))))))))))) = some r := h
  clear h
  replace H := Option.bind_eq_some_iff.mp H
  obtain ⟨t317, A20, H⟩ := H
  replace H : (if t317 < 0 then (some true) else ((laws_toTree.f k l0_0 a0_1).bind fun bt318 => ((spec_TreeOK.f k bt318.1 bt318.2).bind fun t322 => ((laws_toTree.f k l0_0 a0_1).bind fun bt323 => ((impl_TreeOK.f k bt323.1 bt323.2).bind fun t328 => (if (t328 != t322) = true then (some false) else ((laws_toTree.f k l0_0 a0_1).bind fun bt329 => ((laws_eqTree.f k bt323.1 bt323.2 bt329.1 bt329.2).bind fun t333 => (if t333 = true then (some true) else (some false)))))))))) = some r := H
  have A2 := Aside0.mk A20
  clear A20
  by_cases c3 : t317 < 0
  · rw [if_pos c3] at H
    have c3b0 : decide (t317 < 0) = true := decide_eq_true c3
    clear c3
    obtain rfl := Option.some.inj H
    go_enter Try.func6, Try.ntmps6
    go_wp2_with (first | ((with_reducible refine gate_dst (N := 1) rfl ?_); refine box_event ?hg (N := 1) ?hd (cs := #[.slice A0_0 l0_0.length c0_0, .int .i64 a0_1]) (t := 41) ?hr ?_; (case hd => rfl); (case hg => rfl); (case hr => first | (go_simp; done) | (go_simp; rfl)); intro gb316 hg w4 hbox hb; have n0_ := Aside0.mk (below_step (by repeat (first | (with_reducible first | exact HB.out | apply below_alloc | apply pw_below_drewN | apply below_drew1) | exact HB.out)) hb); have n1_ := Aside0.mk (hbox); have n2_ := Aside0.mk ((by rw [hg]; exact (below_size (by repeat (first | (with_reducible first | exact HB.out | apply below_alloc | apply pw_below_drewN | apply below_drew1) | exact HB.out))) : w.heap.size ≤ gb316)); have n3_ := Aside0.mk ((by rw [hg]; exact (below_size (by repeat (first | (with_reducible first | exact HB.out | apply below_alloc | apply pw_below_drewN | apply below_drew1) | exact HB.out))) : w.heap.size ≤ gb316)); clear HB; have HB := n0_; have BK316 := n1_; have GW316 := n2_; have GE316 := n3_; clear n0_ n1_ n2_ n3_; clear hb hbox hg; have hcz5_0 : w4.cell? ⟨gb316, 0, none⟩ = some (.slice A0_0 l0_0.length c0_0) := (blk_cell BK316.out 0).trans rfl; have hcz5_1 : w4.cell? ⟨gb316, 1, none⟩ = some (.int .i64 a0_1) := (blk_cell BK316.out 1).trans rfl; have hfz5_0 := blk_frozen BK316.out 0; have hfz5_1 := blk_frozen BK316.out 1) | ((with_reducible refine gate_callee (f := 26) rfl ?_); refine goesL_ (some 9) rfl rfl Try.func26 (by kernel_rfl) rfl #[.agg #[.slice A0_0 l0_0.length c0_0, .int .i64 a0_1], .int .i64 1048576] rfl (by (try simp only [List.map_toArray, List.map_cons, List.map_nil]); first | done | rfl | (simp only [List.length_drop, List.length_take]; rfl)) ?_; (with_reducible refine (laws_szTree.calls k  _ _ l0_0 a0_1 1048576 t317 _ ?side1 ?side2 A2.out).mono ?_); (case side1 => repeat (first | exact (Kd.C_below HR0_0.out HB.out) | (with_reducible refine Kd.C_alloc ?_ _) | (with_reducible refine Kd.C_drewN ?_ _) | (with_reducible refine Kd.C_drew ?_))); (case side2 => exact HC0_0.out); rintro e w6 ⟨rfl, hb⟩; refine ⟨_, rfl, ?_⟩; have n0_ := Aside0.mk (blk_below (g := gb316) (o := .cells #[.slice A0_0 l0_0.length c0_0, .int .i64 a0_1] 41 (0, 0)) (by (with_reducible repeat (first | refine blk_drewN ?_ _ | refine blk_drew ?_ | refine blk_alloc ?_ _)); exact BK316.out) hb); have n1_ := Aside0.mk (below_step (by repeat (first | (with_reducible first | exact HB.out | apply below_alloc | apply pw_below_drewN | apply below_drew1 | refine below_set ?_ GE316.out) | exact HB.out)) hb); clear BK316; clear HB; have BK316 := n0_; have HB := n1_; clear n0_ n1_; (try clear hb); (try clear hb2); (try clear hk); (try clear hi)))
    go_ret
    exact ⟨by first | rfl | (simp [errW_none, errW_some] <;> rfl) | (simp [*, errW_none, errW_some] <;> rfl), by repeat (first | (with_reducible first | exact HB.out | apply below_alloc | apply pw_below_drewN | apply below_drew1 | refine below_set ?_ GE316.out) | exact HB.out)⟩
  · rw [if_neg c3] at H
    have c3b0 : decide (t317 < 0) = false := decide_eq_false c3
    clear c3
    replace H := Option.bind_eq_some_iff.mp H
    obtain ⟨⟨t318, t321⟩, A70, H⟩ := H
    replace H : ((spec_TreeOK.f k t318 t321).bind fun t322 => ((laws_toTree.f k l0_0 a0_1).bind fun bt323 => ((impl_TreeOK.f k bt323.1 bt323.2).bind fun t328 => (if (t328 != t322) = true then (some false) else ((laws_toTree.f k l0_0 a0_1).bind fun bt329 => ((laws_eqTree.f k bt323.1 bt323.2 bt329.1 bt329.2).bind fun t333 => (if t333 = true then (some true) else (some false)))))))) = some r := H
    have A7 := Aside0.mk A70
    clear A70
    replace H := Option.bind_eq_some_iff.mp H
    obtain ⟨t322, A80, H⟩ := H
    replace H : ((laws_toTree.f k l0_0 a0_1).bind fun bt323 => ((impl_TreeOK.f k bt323.1 bt323.2).bind fun t328 => (if (t328 != t322) = true then (some false) else ((laws_toTree.f k l0_0 a0_1).bind fun bt329 => ((laws_eqTree.f k bt323.1 bt323.2 bt329.1 bt329.2).bind fun t333 => (if t333 = true then (some true) else (some false))))))) = some r := H
    have A8 := Aside0.mk A80
    clear A80
    replace H := Option.bind_eq_some_iff.mp H
    obtain ⟨⟨t323, t326⟩, A90, H⟩ := H
    replace H : ((impl_TreeOK.f k t323 t326).bind fun t328 => (if (t328 != t322) = true then (some false) else ((laws_toTree.f k l0_0 a0_1).bind fun bt329 => ((laws_eqTree.f k t323 t326 bt329.1 bt329.2).bind fun t333 => (if t333 = true then (some true) else (some false)))))) = some r := H
    have A9 := Aside0.mk A90
    clear A90
    replace H := Option.bind_eq_some_iff.mp H
    obtain ⟨t328, A100, H⟩ := H
    replace H : (if (t328 != t322) = true then (some false) else ((laws_toTree.f k l0_0 a0_1).bind fun bt329 => ((laws_eqTree.f k t323 t326 bt329.1 bt329.2).bind fun t333 => (if t333 = true then (some true) else (some false))))) = some r := H
    have A10 := Aside0.mk A100
    clear A100
    by_cases c11 : (t328 != t322) = true
    · rw [if_pos c11] at H
      have c11b0 : (t328 != t322) = true := c11
      (try (have c11b1 : decide (t328 = t322) = false := by simpa using c11))
      (try (have c11b2 : (t328 == t322) = false := by simpa using c11))
      (try (have c11b3 : ¬ (t328 = t322) := by simpa using c11))
      clear c11
      obtain rfl := Option.some.inj H
      go_enter Try.func6, Try.ntmps6
      go_wp2_with (first | ((with_reducible refine gate_dst (N := 1) rfl ?_); refine box_event ?hg (N := 1) ?hd (cs := #[.slice A0_0 l0_0.length c0_0, .int .i64 a0_1]) (t := 41) ?hr ?_; (case hd => rfl); (case hg => rfl); (case hr => first | (go_simp; done) | (go_simp; rfl)); intro gb316 hg w12 hbox hb; have n0_ := Aside0.mk (below_step (by repeat (first | (with_reducible first | exact HB.out | apply below_alloc | apply pw_below_drewN | apply below_drew1) | exact HB.out)) hb); have n1_ := Aside0.mk (hbox); have n2_ := Aside0.mk ((by rw [hg]; exact (below_size (by repeat (first | (with_reducible first | exact HB.out | apply below_alloc | apply pw_below_drewN | apply below_drew1) | exact HB.out))) : w.heap.size ≤ gb316)); have n3_ := Aside0.mk ((by rw [hg]; exact (below_size (by repeat (first | (with_reducible first | exact HB.out | apply below_alloc | apply pw_below_drewN | apply below_drew1) | exact HB.out))) : w.heap.size ≤ gb316)); clear HB; have HB := n0_; have BK316 := n1_; have GW316 := n2_; have GE316 := n3_; clear n0_ n1_ n2_ n3_; clear hb hbox hg; have hcz13_0 : w12.cell? ⟨gb316, 0, none⟩ = some (.slice A0_0 l0_0.length c0_0) := (blk_cell BK316.out 0).trans rfl; have hcz13_1 : w12.cell? ⟨gb316, 1, none⟩ = some (.int .i64 a0_1) := (blk_cell BK316.out 1).trans rfl; have hfz13_0 := blk_frozen BK316.out 0; have hfz13_1 := blk_frozen BK316.out 1) | ((with_reducible refine gate_callee (f := 26) rfl ?_); refine goesL_ (some 9) rfl rfl Try.func26 (by kernel_rfl) rfl #[.agg #[.slice A0_0 l0_0.length c0_0, .int .i64 a0_1], .int .i64 1048576] rfl (by (try simp only [List.map_toArray, List.map_cons, List.map_nil]); first | done | rfl | (simp only [List.length_drop, List.length_take]; rfl)) ?_; (with_reducible refine (laws_szTree.calls k  _ _ l0_0 a0_1 1048576 t317 _ ?side1 ?side2 A2.out).mono ?_); (case side1 => repeat (first | exact (Kd.C_below HR0_0.out HB.out) | (with_reducible refine Kd.C_alloc ?_ _) | (with_reducible refine Kd.C_drewN ?_ _) | (with_reducible refine Kd.C_drew ?_))); (case side2 => exact HC0_0.out); rintro e w14 ⟨rfl, hb⟩; refine ⟨_, rfl, ?_⟩; have n0_ := Aside0.mk (blk_below (g := gb316) (o := .cells #[.slice A0_0 l0_0.length c0_0, .int .i64 a0_1] 41 (0, 0)) (by (with_reducible repeat (first | refine blk_drewN ?_ _ | refine blk_drew ?_ | refine blk_alloc ?_ _)); exact BK316.out) hb); have n1_ := Aside0.mk (below_step (by repeat (first | (with_reducible first | exact HB.out | apply below_alloc | apply pw_below_drewN | apply below_drew1 | refine below_set ?_ GE316.out) | exact HB.out)) hb); clear BK316; clear HB; have BK316 := n0_; have HB := n1_; clear n0_ n1_; (try clear hb); (try clear hb2); (try clear hk); (try clear hi); have hcz15_0 : w14.cell? ⟨gb316, 0, none⟩ = some (.slice A0_0 l0_0.length c0_0) := (blk_cell BK316.out 0).trans rfl; have hcz15_1 : w14.cell? ⟨gb316, 1, none⟩ = some (.int .i64 a0_1) := (blk_cell BK316.out 1).trans rfl; have hfz15_0 := blk_frozen BK316.out 0; have hfz15_1 := blk_frozen BK316.out 1) | ((with_reducible refine gate_callee (f := 28) rfl ?_); refine goesL_ (some 13) rfl rfl Try.func28 (by kernel_rfl) rfl #[.agg #[.slice A0_0 l0_0.length c0_0, .int .i64 a0_1]] rfl (by (try simp only [List.map_toArray, List.map_cons, List.map_nil]); first | done | rfl | (simp only [List.length_drop, List.length_take]; rfl)) ?_; (with_reducible refine (laws_toTree.calls k  _ _ l0_0 a0_1 t318 t321 _ ?side1 ?side2 A7.out).mono ?_); (case side1 => repeat (first | exact (Kd.C_below HR0_0.out HB.out) | (with_reducible refine Kd.C_alloc ?_ _) | (with_reducible refine Kd.C_drewN ?_ _) | (with_reducible refine Kd.C_drew ?_))); (case side2 => exact HC0_0.out); rintro e w16 ⟨v319, rfl, ho0, hb⟩; refine ⟨_, rfl, ?_⟩; have n0_ := Aside0.mk (Kd.S_lower ho0 (below_size (by repeat (first | (with_reducible first | exact HB.out | apply below_alloc | apply pw_below_drewN | apply below_drew1 | refine below_set ?_ GE316.out) | exact HB.out)))); have n1_ := Aside0.mk (blk_below (g := gb316) (o := .cells #[.slice A0_0 l0_0.length c0_0, .int .i64 a0_1] 41 (0, 0)) (by (with_reducible repeat (first | refine blk_drewN ?_ _ | refine blk_drew ?_ | refine blk_alloc ?_ _)); exact BK316.out) hb); have n2_ := Aside0.mk (below_step (by repeat (first | (with_reducible first | exact HB.out | apply below_alloc | apply pw_below_drewN | apply below_drew1 | refine below_set ?_ GE316.out) | exact HB.out)) hb); clear BK316; clear HB; have HO320 := n0_; have BK316 := n1_; have HB := n2_; clear n0_ n1_ n2_; (try clear hb); (try clear hb2); (try clear hk); (try clear hi); (try clear ho0); obtain ⟨Ao17, co17, eo17⟩ := Kd.S_slice HO320.out; subst eo17) | ((with_reducible refine gate_callee (f := 27) rfl ?_); refine goesL_ (some 14) rfl rfl Try.func27 (by kernel_rfl) rfl #[.agg #[.slice Ao17 t318.length co17, .int .i64 t321]] rfl (by (try simp only [List.map_toArray, List.map_cons, List.map_nil]); first | done | rfl | (simp only [List.length_drop, List.length_take]; rfl)) ?_; (with_reducible refine (spec_TreeOK.calls k  _ _ t318 t321 t322 _ ?side1 ?side2 A8.out).mono ?_); (case side1 => repeat (first | exact (Kd.S_reads' HO320.out).2.2 | (with_reducible refine Kd.C_alloc ?_ _) | (with_reducible refine Kd.C_drewN ?_ _) | (with_reducible refine Kd.C_drew ?_))); (case side2 => exact (Kd.S_reads' HO320.out).2.1); rintro e w18 ⟨rfl, hb⟩; refine ⟨_, rfl, ?_⟩; have n0_ := Aside0.mk (Kd.S_below (by (with_reducible repeat (first | apply Kd.S_alloc | apply Kd.S_drewN | apply Kd.S_drew)); exact HO320.out) hb); have n1_ := Aside0.mk (blk_below (g := gb316) (o := .cells #[.slice A0_0 l0_0.length c0_0, .int .i64 a0_1] 41 (0, 0)) (by (with_reducible repeat (first | refine blk_drewN ?_ _ | refine blk_drew ?_ | refine blk_alloc ?_ _)); exact BK316.out) hb); have n2_ := Aside0.mk (below_step (by repeat (first | (with_reducible first | exact HB.out | apply below_alloc | apply pw_below_drewN | apply below_drew1 | refine below_set ?_ GE316.out) | exact HB.out)) hb); clear HO320; clear BK316; clear HB; have HO320 := n0_; have BK316 := n1_; have HB := n2_; clear n0_ n1_ n2_; (try clear hb); (try clear hb2); (try clear hk); (try clear hi); have hcz19_0 : w18.cell? ⟨gb316, 0, none⟩ = some (.slice A0_0 l0_0.length c0_0) := (blk_cell BK316.out 0).trans rfl; have hcz19_1 : w18.cell? ⟨gb316, 1, none⟩ = some (.int .i64 a0_1) := (blk_cell BK316.out 1).trans rfl; have hfz19_0 := blk_frozen BK316.out 0; have hfz19_1 := blk_frozen BK316.out 1) | ((with_reducible refine gate_callee (f := 28) rfl ?_); refine goesL_ (some 16) rfl rfl Try.func28 (by kernel_rfl) rfl #[.agg #[.slice A0_0 l0_0.length c0_0, .int .i64 a0_1]] rfl (by (try simp only [List.map_toArray, List.map_cons, List.map_nil]); first | done | rfl | (simp only [List.length_drop, List.length_take]; rfl)) ?_; (with_reducible refine (laws_toTree.calls k  _ _ l0_0 a0_1 t323 t326 _ ?side1 ?side2 A9.out).mono ?_); (case side1 => repeat (first | exact (Kd.C_below HR0_0.out HB.out) | (with_reducible refine Kd.C_alloc ?_ _) | (with_reducible refine Kd.C_drewN ?_ _) | (with_reducible refine Kd.C_drew ?_))); (case side2 => exact HC0_0.out); rintro e w20 ⟨v324, rfl, ho0, hb⟩; refine ⟨_, rfl, ?_⟩; have n0_ := Aside0.mk (Kd.S_elder' (by (with_reducible repeat (first | apply Kd.S_alloc | apply Kd.S_drewN | apply Kd.S_drew)); exact HO320.out) (Kd.S_base ho0) hb); have n1_ := Aside0.mk (Kd.S_lower (Kd.S_new' ho0 (Kd.S_lt (by (with_reducible repeat (first | apply Kd.S_alloc | apply Kd.S_drewN | apply Kd.S_drew)); exact HO320.out))) (below_size (by repeat (first | (with_reducible first | exact HB.out | apply below_alloc | apply pw_below_drewN | apply below_drew1 | refine below_set ?_ GE316.out) | exact HB.out)))); have n2_ := Aside0.mk (blk_below (g := gb316) (o := .cells #[.slice A0_0 l0_0.length c0_0, .int .i64 a0_1] 41 (0, 0)) (by (with_reducible repeat (first | refine blk_drewN ?_ _ | refine blk_drew ?_ | refine blk_alloc ?_ _)); exact BK316.out) hb); have n3_ := Aside0.mk (below_step (by repeat (first | (with_reducible first | exact HB.out | apply below_alloc | apply pw_below_drewN | apply below_drew1 | refine below_set ?_ GE316.out) | exact HB.out)) hb); clear HO320; clear BK316; clear HB; have HO320 := n0_; have HO325 := n1_; have BK316 := n2_; have HB := n3_; clear n0_ n1_ n2_ n3_; (try clear hb); (try clear hb2); (try clear hk); (try clear hi); (try clear ho0)) | ((with_reducible refine gate_dst (N := 5) rfl ?_); refine box_event ?hg (N := 5) ?hd (cs := #[.slice none 0 0, .int .i64 0]) (t := 34) ?hr ?_; (case hd => rfl); (case hg => rfl); (case hr => first | (go_simp; done) | (go_simp; rfl)); intro gb327 hg w21 hbox hb; have n0_ := Aside0.mk (Kd.S_below (by (with_reducible repeat (first | apply Kd.S_alloc | apply Kd.S_drewN | apply Kd.S_drew)); exact HO320.out) hb); have n1_ := Aside0.mk (Kd.S_below (by (with_reducible repeat (first | apply Kd.S_alloc | apply Kd.S_drewN | apply Kd.S_drew)); exact HO325.out) hb); have n2_ := Aside0.mk (blk_below (g := gb316) (o := .cells #[.slice A0_0 l0_0.length c0_0, .int .i64 a0_1] 41 (0, 0)) (by (with_reducible repeat (first | refine blk_drewN ?_ _ | refine blk_drew ?_ | refine blk_alloc ?_ _)); exact BK316.out) hb); have n3_ := Aside0.mk (below_step (by repeat (first | (with_reducible first | exact HB.out | apply below_alloc | apply pw_below_drewN | apply below_drew1 | refine below_set ?_ GE316.out) | exact HB.out)) hb); have n4_ := Aside0.mk (hbox); have n5_ := Aside0.mk ((by rw [hg]; exact (below_size (by repeat (first | (with_reducible first | exact HB.out | apply below_alloc | apply pw_below_drewN | apply below_drew1 | refine below_set ?_ GE316.out) | exact HB.out))) : w.heap.size ≤ gb327)); have n6_ := Aside0.mk ((by rw [hg]; exact (below_size (by repeat (first | (with_reducible first | exact HB.out | apply below_alloc | apply pw_below_drewN | apply below_drew1 | refine below_set ?_ GE316.out) | exact HB.out))) : w.heap.size ≤ gb327)); have n7_ := Aside0.mk ((by rw [hg]; exact Nat.ne_of_lt (blk_lt (g := gb316) (o := .cells #[.slice A0_0 l0_0.length c0_0, .int .i64 a0_1] 41 (0, 0)) (by (with_reducible repeat (first | refine blk_drewN ?_ _ | refine blk_drew ?_ | refine blk_alloc ?_ _)); exact BK316.out)) : gb316 ≠ gb327)); have n8_ := Aside0.mk ((by rw [hg]; exact Nat.ne_of_gt (blk_lt (g := gb316) (o := .cells #[.slice A0_0 l0_0.length c0_0, .int .i64 a0_1] 41 (0, 0)) (by (with_reducible repeat (first | refine blk_drewN ?_ _ | refine blk_drew ?_ | refine blk_alloc ?_ _)); exact BK316.out)) : gb327 ≠ gb316)); clear HO320; clear HO325; clear BK316; clear HB; have HO320 := n0_; have HO325 := n1_; have BK316 := n2_; have HB := n3_; have BK327 := n4_; have GW327 := n5_; have GE327 := n6_; have NB316_327 := n7_; have NB327_316 := n8_; clear n0_ n1_ n2_ n3_ n4_ n5_ n6_ n7_ n8_; clear hb hbox hg; obtain ⟨Ao22, co22, eo22⟩ := Kd.S_slice HO325.out; subst eo22; have hnb23 := NB327_316.out; have hnc23 := NB316_327.out; have hcz24_0 : w21.cell? ⟨gb327, 0, none⟩ = some (.slice none 0 0) := (blk_cell BK327.out 0).trans rfl; have hcz24_1 : w21.cell? ⟨gb327, 1, none⟩ = some (.int .i64 0) := (blk_cell BK327.out 1).trans rfl; have hfz24_0 := blk_frozen BK327.out 0; have hfz24_1 := blk_frozen BK327.out 1) | ((with_reducible refine gate_callee (f := 29) rfl ?_); refine goesL_ (some 18) rfl rfl Try.func29 (by kernel_rfl) rfl #[.agg #[.slice Ao22 t323.length co22, .int .i64 t326]] rfl (by (try simp only [List.map_toArray, List.map_cons, List.map_nil]); first | done | rfl | (simp only [List.length_drop, List.length_take]; rfl)) ?_; (with_reducible refine (impl_TreeOK.calls k  _ _ t323 t326 t328 _ ?side1 ?side2 A10.out).mono ?_); (case side1 => refine (Kd.S_reads' (e := 76) (base := w.heap.size) (ok := fun k_ => (True ∧ some k_ ≠ (.slice Ao17 t318.length co17 : Value).ownBlock)) (n := t323.length) (c := co22) ?_).2.2; exact (by (with_reducible repeat (first | apply Kd.S_alloc | apply Kd.S_drewN | apply Kd.S_drew)); exact (Kd.S_mono (Kd.S_far (p := ⟨gb327, 1, none⟩) (Kd.S_far (p := ⟨gb327, 0, none⟩) (Kd.S_types HO325.out BK327.out (by decide)) (fun _ hk => hk.2) (.slice Ao22 t323.length co22)) (fun _ hk => hk.2) (.int .i64 t326)) (fun _ h_ => h_.1)))); (case side2 => exact (Kd.S_reads' HO325.out).2.1); rintro e w25 ⟨rfl, hb⟩; refine ⟨_, rfl, ?_⟩; have n0_ := Aside0.mk (Kd.S_below (by (with_reducible repeat (first | apply Kd.S_alloc | apply Kd.S_drewN | apply Kd.S_drew)); exact (Kd.S_mono (Kd.S_far (p := ⟨gb327, 1, none⟩) (Kd.S_far (p := ⟨gb327, 0, none⟩) (Kd.S_types HO320.out BK327.out (by decide)) (fun _ hk => hk.2) (.slice Ao22 t323.length co22)) (fun _ hk => hk.2) (.int .i64 t326)) (fun _ h_ => h_.1))) hb); have n1_ := Aside0.mk (Kd.S_below (by (with_reducible repeat (first | apply Kd.S_alloc | apply Kd.S_drewN | apply Kd.S_drew)); exact (Kd.S_mono (Kd.S_far (p := ⟨gb327, 1, none⟩) (Kd.S_far (p := ⟨gb327, 0, none⟩) (Kd.S_types HO325.out BK327.out (by decide)) (fun _ hk => hk.2) (.slice Ao22 t323.length co22)) (fun _ hk => hk.2) (.int .i64 t326)) (fun _ h_ => h_.1))) hb); have n2_ := Aside0.mk (blk_below (g := gb316) (o := .cells #[.slice A0_0 l0_0.length c0_0, .int .i64 a0_1] 41 (0, 0)) (by (with_reducible repeat (first | refine blk_drewN ?_ _ | refine blk_drew ?_ | refine blk_alloc ?_ _)); refine blk_far ?_ NB316_327.out _; (with_reducible repeat (first | refine blk_drewN ?_ _ | refine blk_drew ?_ | refine blk_alloc ?_ _)); refine blk_far ?_ NB316_327.out _; (with_reducible repeat (first | refine blk_drewN ?_ _ | refine blk_drew ?_ | refine blk_alloc ?_ _)); exact BK316.out) hb); have n3_ := Aside0.mk (blk_below (g := gb327) (o := .cells #[.slice Ao22 t323.length co22, .int .i64 t326] 34 (0, 0)) (by (with_reducible repeat (first | refine blk_drewN ?_ _ | refine blk_drew ?_ | refine blk_alloc ?_ _)); refine blk_put (cs := #[.slice Ao22 t323.length co22, .int .i64 0]) ?_ 1 _ rfl; (with_reducible repeat (first | refine blk_drewN ?_ _ | refine blk_drew ?_ | refine blk_alloc ?_ _)); refine blk_put (cs := #[.slice none 0 0, .int .i64 0]) ?_ 0 _ rfl; (with_reducible repeat (first | refine blk_drewN ?_ _ | refine blk_drew ?_ | refine blk_alloc ?_ _)); exact BK327.out) hb); have n4_ := Aside0.mk (below_step (by repeat (first | (with_reducible first | exact HB.out | apply below_alloc | apply pw_below_drewN | apply below_drew1 | refine below_set ?_ GE316.out | refine below_set ?_ GE327.out) | exact HB.out)) hb); clear HO320; clear HO325; clear BK316; clear BK327; clear HB; have HO320 := n0_; have HO325 := n1_; have BK316 := n2_; have BK327 := n3_; have HB := n4_; clear n0_ n1_ n2_ n3_ n4_; (try clear hb); (try clear hb2); (try clear hk); (try clear hi)))
      go_ret
      exact ⟨by first | rfl | (simp [errW_none, errW_some] <;> rfl) | (simp [*, errW_none, errW_some] <;> rfl), by repeat (first | (with_reducible first | exact HB.out | apply below_alloc | apply pw_below_drewN | apply below_drew1 | refine below_set ?_ GE316.out | refine below_set ?_ GE327.out) | exact HB.out)⟩
    · rw [if_neg c11] at H
      have c11b0 : (t328 != t322) = false := by simpa using c11
      (try (have c11b1 : decide (t328 = t322) = true := by simpa using c11))
      (try (have c11b2 : (t328 == t322) = true := by simpa using c11))
      clear c11
      replace H := Option.bind_eq_some_iff.mp H
      obtain ⟨⟨t329, t332⟩, A260, H⟩ := H
      replace H : ((laws_eqTree.f k t323 t326 t329 t332).bind fun t333 => (if t333 = true then (some true) else (some false))) = some r := H
      have A26 := Aside0.mk A260
      clear A260
      replace H := Option.bind_eq_some_iff.mp H
      obtain ⟨t333, A270, H⟩ := H
      replace H : (if t333 = true then (some true) else (some false)) = some r := H
      have A27 := Aside0.mk A270
      clear A270
      by_cases c28 : t333 = true
      · subst c28
        have H1 : (some true) = some r := by rw [if_pos rfl] at H; exact H
        clear H
        have H := H1
        clear H1
        obtain rfl := Option.some.inj H
        go_enter Try.func6, Try.ntmps6
        try go_wp2_with (first | ((with_reducible refine gate_dst (N := 1) rfl ?_); refine box_event ?hg (N := 1) ?hd (cs := #[.slice A0_0 l0_0.length c0_0, .int .i64 a0_1]) (t := 41) ?hr ?_; (case hd => rfl); (case hg => rfl); (case hr => first | (go_simp; done) | (go_simp; rfl)); intro gb316 hg w29 hbox hb; have n0_ := Aside0.mk (below_step (by repeat (first | (with_reducible first | exact HB.out | apply below_alloc | apply pw_below_drewN | apply below_drew1) | exact HB.out)) hb); have n1_ := Aside0.mk (hbox); have n2_ := Aside0.mk ((by rw [hg]; exact (below_size (by repeat (first | (with_reducible first | exact HB.out | apply below_alloc | apply pw_below_drewN | apply below_drew1) | exact HB.out))) : w.heap.size ≤ gb316)); have n3_ := Aside0.mk ((by rw [hg]; exact (below_size (by repeat (first | (with_reducible first | exact HB.out | apply below_alloc | apply pw_below_drewN | apply below_drew1) | exact HB.out))) : w.heap.size ≤ gb316)); clear HB; have HB := n0_; have BK316 := n1_; have GW316 := n2_; have GE316 := n3_; clear n0_ n1_ n2_ n3_; clear hb hbox hg; have hcz30_0 : w29.cell? ⟨gb316, 0, none⟩ = some (.slice A0_0 l0_0.length c0_0) := (blk_cell BK316.out 0).trans rfl; have hcz30_1 : w29.cell? ⟨gb316, 1, none⟩ = some (.int .i64 a0_1) := (blk_cell BK316.out 1).trans rfl; have hfz30_0 := blk_frozen BK316.out 0; have hfz30_1 := blk_frozen BK316.out 1) | ((with_reducible refine gate_callee (f := 26) rfl ?_); refine goesL_ (some 9) rfl rfl Try.func26 (by kernel_rfl) rfl #[.agg #[.slice A0_0 l0_0.length c0_0, .int .i64 a0_1], .int .i64 1048576] rfl (by (try simp only [List.map_toArray, List.map_cons, List.map_nil]); first | done | rfl | (simp only [List.length_drop, List.length_take]; rfl)) ?_; (with_reducible refine (laws_szTree.calls k  _ _ l0_0 a0_1 1048576 t317 _ ?side1 ?side2 A2.out).mono ?_); (case side1 => repeat (first | exact (Kd.C_below HR0_0.out HB.out) | (with_reducible refine Kd.C_alloc ?_ _) | (with_reducible refine Kd.C_drewN ?_ _) | (with_reducible refine Kd.C_drew ?_))); (case side2 => exact HC0_0.out); rintro e w31 ⟨rfl, hb⟩; refine ⟨_, rfl, ?_⟩; have n0_ := Aside0.mk (blk_below (g := gb316) (o := .cells #[.slice A0_0 l0_0.length c0_0, .int .i64 a0_1] 41 (0, 0)) (by (with_reducible repeat (first | refine blk_drewN ?_ _ | refine blk_drew ?_ | refine blk_alloc ?_ _)); exact BK316.out) hb); have n1_ := Aside0.mk (below_step (by repeat (first | (with_reducible first | exact HB.out | apply below_alloc | apply pw_below_drewN | apply below_drew1 | refine below_set ?_ GE316.out) | exact HB.out)) hb); clear BK316; clear HB; have BK316 := n0_; have HB := n1_; clear n0_ n1_; (try clear hb); (try clear hb2); (try clear hk); (try clear hi); have hcz32_0 : w31.cell? ⟨gb316, 0, none⟩ = some (.slice A0_0 l0_0.length c0_0) := (blk_cell BK316.out 0).trans rfl; have hcz32_1 : w31.cell? ⟨gb316, 1, none⟩ = some (.int .i64 a0_1) := (blk_cell BK316.out 1).trans rfl; have hfz32_0 := blk_frozen BK316.out 0; have hfz32_1 := blk_frozen BK316.out 1) | ((with_reducible refine gate_callee (f := 28) rfl ?_); refine goesL_ (some 13) rfl rfl Try.func28 (by kernel_rfl) rfl #[.agg #[.slice A0_0 l0_0.length c0_0, .int .i64 a0_1]] rfl (by (try simp only [List.map_toArray, List.map_cons, List.map_nil]); first | done | rfl | (simp only [List.length_drop, List.length_take]; rfl)) ?_; (with_reducible refine (laws_toTree.calls k  _ _ l0_0 a0_1 t318 t321 _ ?side1 ?side2 A7.out).mono ?_); (case side1 => repeat (first | exact (Kd.C_below HR0_0.out HB.out) | (with_reducible refine Kd.C_alloc ?_ _) | (with_reducible refine Kd.C_drewN ?_ _) | (with_reducible refine Kd.C_drew ?_))); (case side2 => exact HC0_0.out); rintro e w33 ⟨v319, rfl, ho0, hb⟩; refine ⟨_, rfl, ?_⟩; have n0_ := Aside0.mk (Kd.S_lower ho0 (below_size (by repeat (first | (with_reducible first | exact HB.out | apply below_alloc | apply pw_below_drewN | apply below_drew1 | refine below_set ?_ GE316.out) | exact HB.out)))); have n1_ := Aside0.mk (blk_below (g := gb316) (o := .cells #[.slice A0_0 l0_0.length c0_0, .int .i64 a0_1] 41 (0, 0)) (by (with_reducible repeat (first | refine blk_drewN ?_ _ | refine blk_drew ?_ | refine blk_alloc ?_ _)); exact BK316.out) hb); have n2_ := Aside0.mk (below_step (by repeat (first | (with_reducible first | exact HB.out | apply below_alloc | apply pw_below_drewN | apply below_drew1 | refine below_set ?_ GE316.out) | exact HB.out)) hb); clear BK316; clear HB; have HO320 := n0_; have BK316 := n1_; have HB := n2_; clear n0_ n1_ n2_; (try clear hb); (try clear hb2); (try clear hk); (try clear hi); (try clear ho0); obtain ⟨Ao34, co34, eo34⟩ := Kd.S_slice HO320.out; subst eo34) | ((with_reducible refine gate_callee (f := 27) rfl ?_); refine goesL_ (some 14) rfl rfl Try.func27 (by kernel_rfl) rfl #[.agg #[.slice Ao34 t318.length co34, .int .i64 t321]] rfl (by (try simp only [List.map_toArray, List.map_cons, List.map_nil]); first | done | rfl | (simp only [List.length_drop, List.length_take]; rfl)) ?_; (with_reducible refine (spec_TreeOK.calls k  _ _ t318 t321 t322 _ ?side1 ?side2 A8.out).mono ?_); (case side1 => repeat (first | exact (Kd.S_reads' HO320.out).2.2 | (with_reducible refine Kd.C_alloc ?_ _) | (with_reducible refine Kd.C_drewN ?_ _) | (with_reducible refine Kd.C_drew ?_))); (case side2 => exact (Kd.S_reads' HO320.out).2.1); rintro e w35 ⟨rfl, hb⟩; refine ⟨_, rfl, ?_⟩; have n0_ := Aside0.mk (Kd.S_below (by (with_reducible repeat (first | apply Kd.S_alloc | apply Kd.S_drewN | apply Kd.S_drew)); exact HO320.out) hb); have n1_ := Aside0.mk (blk_below (g := gb316) (o := .cells #[.slice A0_0 l0_0.length c0_0, .int .i64 a0_1] 41 (0, 0)) (by (with_reducible repeat (first | refine blk_drewN ?_ _ | refine blk_drew ?_ | refine blk_alloc ?_ _)); exact BK316.out) hb); have n2_ := Aside0.mk (below_step (by repeat (first | (with_reducible first | exact HB.out | apply below_alloc | apply pw_below_drewN | apply below_drew1 | refine below_set ?_ GE316.out) | exact HB.out)) hb); clear HO320; clear BK316; clear HB; have HO320 := n0_; have BK316 := n1_; have HB := n2_; clear n0_ n1_ n2_; (try clear hb); (try clear hb2); (try clear hk); (try clear hi); have hcz36_0 : w35.cell? ⟨gb316, 0, none⟩ = some (.slice A0_0 l0_0.length c0_0) := (blk_cell BK316.out 0).trans rfl; have hcz36_1 : w35.cell? ⟨gb316, 1, none⟩ = some (.int .i64 a0_1) := (blk_cell BK316.out 1).trans rfl; have hfz36_0 := blk_frozen BK316.out 0; have hfz36_1 := blk_frozen BK316.out 1) | ((with_reducible refine gate_callee (f := 28) rfl ?_); refine goesL_ (some 16) rfl rfl Try.func28 (by kernel_rfl) rfl #[.agg #[.slice A0_0 l0_0.length c0_0, .int .i64 a0_1]] rfl (by (try simp only [List.map_toArray, List.map_cons, List.map_nil]); first | done | rfl | (simp only [List.length_drop, List.length_take]; rfl)) ?_; (with_reducible refine (laws_toTree.calls k  _ _ l0_0 a0_1 t323 t326 _ ?side1 ?side2 A9.out).mono ?_); (case side1 => repeat (first | exact (Kd.C_below HR0_0.out HB.out) | (with_reducible refine Kd.C_alloc ?_ _) | (with_reducible refine Kd.C_drewN ?_ _) | (with_reducible refine Kd.C_drew ?_))); (case side2 => exact HC0_0.out); rintro e w37 ⟨v324, rfl, ho0, hb⟩; refine ⟨_, rfl, ?_⟩; have n0_ := Aside0.mk (Kd.S_elder' (by (with_reducible repeat (first | apply Kd.S_alloc | apply Kd.S_drewN | apply Kd.S_drew)); exact HO320.out) (Kd.S_base ho0) hb); have n1_ := Aside0.mk (Kd.S_lower (Kd.S_new' ho0 (Kd.S_lt (by (with_reducible repeat (first | apply Kd.S_alloc | apply Kd.S_drewN | apply Kd.S_drew)); exact HO320.out))) (below_size (by repeat (first | (with_reducible first | exact HB.out | apply below_alloc | apply pw_below_drewN | apply below_drew1 | refine below_set ?_ GE316.out) | exact HB.out)))); have n2_ := Aside0.mk (blk_below (g := gb316) (o := .cells #[.slice A0_0 l0_0.length c0_0, .int .i64 a0_1] 41 (0, 0)) (by (with_reducible repeat (first | refine blk_drewN ?_ _ | refine blk_drew ?_ | refine blk_alloc ?_ _)); exact BK316.out) hb); have n3_ := Aside0.mk (below_step (by repeat (first | (with_reducible first | exact HB.out | apply below_alloc | apply pw_below_drewN | apply below_drew1 | refine below_set ?_ GE316.out) | exact HB.out)) hb); clear HO320; clear BK316; clear HB; have HO320 := n0_; have HO325 := n1_; have BK316 := n2_; have HB := n3_; clear n0_ n1_ n2_ n3_; (try clear hb); (try clear hb2); (try clear hk); (try clear hi); (try clear ho0)) | ((with_reducible refine gate_dst (N := 5) rfl ?_); refine box_event ?hg (N := 5) ?hd (cs := #[.slice none 0 0, .int .i64 0]) (t := 34) ?hr ?_; (case hd => rfl); (case hg => rfl); (case hr => first | (go_simp; done) | (go_simp; rfl)); intro gb327 hg w38 hbox hb; have n0_ := Aside0.mk (Kd.S_below (by (with_reducible repeat (first | apply Kd.S_alloc | apply Kd.S_drewN | apply Kd.S_drew)); exact HO320.out) hb); have n1_ := Aside0.mk (Kd.S_below (by (with_reducible repeat (first | apply Kd.S_alloc | apply Kd.S_drewN | apply Kd.S_drew)); exact HO325.out) hb); have n2_ := Aside0.mk (blk_below (g := gb316) (o := .cells #[.slice A0_0 l0_0.length c0_0, .int .i64 a0_1] 41 (0, 0)) (by (with_reducible repeat (first | refine blk_drewN ?_ _ | refine blk_drew ?_ | refine blk_alloc ?_ _)); exact BK316.out) hb); have n3_ := Aside0.mk (below_step (by repeat (first | (with_reducible first | exact HB.out | apply below_alloc | apply pw_below_drewN | apply below_drew1 | refine below_set ?_ GE316.out) | exact HB.out)) hb); have n4_ := Aside0.mk (hbox); have n5_ := Aside0.mk ((by rw [hg]; exact (below_size (by repeat (first | (with_reducible first | exact HB.out | apply below_alloc | apply pw_below_drewN | apply below_drew1 | refine below_set ?_ GE316.out) | exact HB.out))) : w.heap.size ≤ gb327)); have n6_ := Aside0.mk ((by rw [hg]; exact (below_size (by repeat (first | (with_reducible first | exact HB.out | apply below_alloc | apply pw_below_drewN | apply below_drew1 | refine below_set ?_ GE316.out) | exact HB.out))) : w.heap.size ≤ gb327)); have n7_ := Aside0.mk ((by rw [hg]; exact Nat.ne_of_lt (blk_lt (g := gb316) (o := .cells #[.slice A0_0 l0_0.length c0_0, .int .i64 a0_1] 41 (0, 0)) (by (with_reducible repeat (first | refine blk_drewN ?_ _ | refine blk_drew ?_ | refine blk_alloc ?_ _)); exact BK316.out)) : gb316 ≠ gb327)); have n8_ := Aside0.mk ((by rw [hg]; exact Nat.ne_of_gt (blk_lt (g := gb316) (o := .cells #[.slice A0_0 l0_0.length c0_0, .int .i64 a0_1] 41 (0, 0)) (by (with_reducible repeat (first | refine blk_drewN ?_ _ | refine blk_drew ?_ | refine blk_alloc ?_ _)); exact BK316.out)) : gb327 ≠ gb316)); clear HO320; clear HO325; clear BK316; clear HB; have HO320 := n0_; have HO325 := n1_; have BK316 := n2_; have HB := n3_; have BK327 := n4_; have GW327 := n5_; have GE327 := n6_; have NB316_327 := n7_; have NB327_316 := n8_; clear n0_ n1_ n2_ n3_ n4_ n5_ n6_ n7_ n8_; clear hb hbox hg; obtain ⟨Ao39, co39, eo39⟩ := Kd.S_slice HO325.out; subst eo39; have hnb40 := NB327_316.out; have hnc40 := NB316_327.out; have hcz41_0 : w38.cell? ⟨gb327, 0, none⟩ = some (.slice none 0 0) := (blk_cell BK327.out 0).trans rfl; have hcz41_1 : w38.cell? ⟨gb327, 1, none⟩ = some (.int .i64 0) := (blk_cell BK327.out 1).trans rfl; have hfz41_0 := blk_frozen BK327.out 0; have hfz41_1 := blk_frozen BK327.out 1) | ((with_reducible refine gate_callee (f := 29) rfl ?_); refine goesL_ (some 18) rfl rfl Try.func29 (by kernel_rfl) rfl #[.agg #[.slice Ao39 t323.length co39, .int .i64 t326]] rfl (by (try simp only [List.map_toArray, List.map_cons, List.map_nil]); first | done | rfl | (simp only [List.length_drop, List.length_take]; rfl)) ?_; (with_reducible refine (impl_TreeOK.calls k  _ _ t323 t326 t328 _ ?side1 ?side2 A10.out).mono ?_); (case side1 => refine (Kd.S_reads' (e := 76) (base := w.heap.size) (ok := fun k_ => (True ∧ some k_ ≠ (.slice Ao34 t318.length co34 : Value).ownBlock)) (n := t323.length) (c := co39) ?_).2.2; exact (by (with_reducible repeat (first | apply Kd.S_alloc | apply Kd.S_drewN | apply Kd.S_drew)); exact (Kd.S_mono (Kd.S_far (p := ⟨gb327, 1, none⟩) (Kd.S_far (p := ⟨gb327, 0, none⟩) (Kd.S_types HO325.out BK327.out (by decide)) (fun _ hk => hk.2) (.slice Ao39 t323.length co39)) (fun _ hk => hk.2) (.int .i64 t326)) (fun _ h_ => h_.1)))); (case side2 => exact (Kd.S_reads' HO325.out).2.1); rintro e w42 ⟨rfl, hb⟩; refine ⟨_, rfl, ?_⟩; have n0_ := Aside0.mk (Kd.S_below (by (with_reducible repeat (first | apply Kd.S_alloc | apply Kd.S_drewN | apply Kd.S_drew)); exact (Kd.S_mono (Kd.S_far (p := ⟨gb327, 1, none⟩) (Kd.S_far (p := ⟨gb327, 0, none⟩) (Kd.S_types HO320.out BK327.out (by decide)) (fun _ hk => hk.2) (.slice Ao39 t323.length co39)) (fun _ hk => hk.2) (.int .i64 t326)) (fun _ h_ => h_.1))) hb); have n1_ := Aside0.mk (Kd.S_below (by (with_reducible repeat (first | apply Kd.S_alloc | apply Kd.S_drewN | apply Kd.S_drew)); exact (Kd.S_mono (Kd.S_far (p := ⟨gb327, 1, none⟩) (Kd.S_far (p := ⟨gb327, 0, none⟩) (Kd.S_types HO325.out BK327.out (by decide)) (fun _ hk => hk.2) (.slice Ao39 t323.length co39)) (fun _ hk => hk.2) (.int .i64 t326)) (fun _ h_ => h_.1))) hb); have n2_ := Aside0.mk (blk_below (g := gb316) (o := .cells #[.slice A0_0 l0_0.length c0_0, .int .i64 a0_1] 41 (0, 0)) (by (with_reducible repeat (first | refine blk_drewN ?_ _ | refine blk_drew ?_ | refine blk_alloc ?_ _)); refine blk_far ?_ NB316_327.out _; (with_reducible repeat (first | refine blk_drewN ?_ _ | refine blk_drew ?_ | refine blk_alloc ?_ _)); refine blk_far ?_ NB316_327.out _; (with_reducible repeat (first | refine blk_drewN ?_ _ | refine blk_drew ?_ | refine blk_alloc ?_ _)); exact BK316.out) hb); have n3_ := Aside0.mk (blk_below (g := gb327) (o := .cells #[.slice Ao39 t323.length co39, .int .i64 t326] 34 (0, 0)) (by (with_reducible repeat (first | refine blk_drewN ?_ _ | refine blk_drew ?_ | refine blk_alloc ?_ _)); refine blk_put (cs := #[.slice Ao39 t323.length co39, .int .i64 0]) ?_ 1 _ rfl; (with_reducible repeat (first | refine blk_drewN ?_ _ | refine blk_drew ?_ | refine blk_alloc ?_ _)); refine blk_put (cs := #[.slice none 0 0, .int .i64 0]) ?_ 0 _ rfl; (with_reducible repeat (first | refine blk_drewN ?_ _ | refine blk_drew ?_ | refine blk_alloc ?_ _)); exact BK327.out) hb); have n4_ := Aside0.mk (below_step (by repeat (first | (with_reducible first | exact HB.out | apply below_alloc | apply pw_below_drewN | apply below_drew1 | refine below_set ?_ GE316.out | refine below_set ?_ GE327.out) | exact HB.out)) hb); clear HO320; clear HO325; clear BK316; clear BK327; clear HB; have HO320 := n0_; have HO325 := n1_; have BK316 := n2_; have BK327 := n3_; have HB := n4_; clear n0_ n1_ n2_ n3_ n4_; (try clear hb); (try clear hb2); (try clear hk); (try clear hi)))
        have n0_ := Aside0.mk (Kd.S_drew HO320.out)
        have n1_ := Aside0.mk (Kd.S_drew HO325.out)
        have n2_ := Aside0.mk (blk_drew BK316.out)
        have n3_ := Aside0.mk (blk_drew BK327.out)
        have n4_ := Aside0.mk (below_drew1 HB.out)
        clear HO320
        clear HO325
        clear BK316
        clear BK327
        clear HB
        have HO320 := n0_
        have HO325 := n1_
        have BK316 := n2_
        have BK327 := n3_
        have HB := n4_
        clear n0_ n1_ n2_ n3_ n4_
        refine start_ (n := 5) (S := fun w' => w'.cell? ⟨gb327, 0, none⟩ = some (.slice Ao39 t323.length co39) ∧ w'.cell? ⟨gb327, 1, none⟩ = some (.int .i64 t326) ∧ w'.cell? ⟨gb316, 0, none⟩ = some (.slice A0_0 l0_0.length c0_0) ∧ w'.cell? ⟨gb316, 1, none⟩ = some (.int .i64 a0_1)) (ds := []) #[false, false, false, false, false] (by kernel_rfl) rfl rfl ⟨(blk_cell BK327.out 0).trans rfl, (blk_cell BK327.out 1).trans rfl, (blk_cell BK316.out 0).trans rfl, (blk_cell BK316.out 1).trans rfl⟩ (fun hHeld => ?_)
        generalize w42.drew = w43 at HO320 HO325 BK316 BK327 HB hHeld ⊢
        refine take_ (i := 0) (N := some 22) (v := ?_) (a' := ?_) #[true, false, false, false, false] rfl rfl (by kernel_rfl) (fun _ _ _ h => h) (Or.inl ⟨by rfl, ?_⟩) hHeld ?_ ?_
        rotate_left
        · rintro w' ⟨s0, s1, s2, s3⟩
          go_simp
          with_reducible rfl
        rotate_left
        · simp only [Act.put, List.setIfInBounds_toArray, List.set_cons_zero, List.set_cons_succ, i64_w, i32_w]
          rfl
        refine take_ (i := 1) (N := some 23) (v := ?_) (a' := ?_) #[true, true, false, false, false] rfl rfl (by kernel_rfl) (fun _ _ _ h => h) (Or.inl ⟨by rfl, ?_⟩) hHeld ?_ ?_
        rotate_left
        · rintro w' ⟨s0, s1, s2, s3⟩
          go_simp
          with_reducible rfl
        rotate_left
        · simp only [Act.put, List.setIfInBounds_toArray, List.set_cons_zero, List.set_cons_succ, i64_w, i32_w]
          rfl
        refine one_ (i := 2) (N := some 24) #[true, true, true, false, false] rfl rfl (by kernel_rfl) (by decide) (fun K hK => ?_)
        refine goes_ Try.func28 (by kernel_rfl) rfl #[.agg #[.slice A0_0 l0_0.length c0_0, .int .i64 a0_1]] (by rfl) rfl rfl (by (try simp only [List.map_toArray, List.map_cons, List.map_nil]); first | done | rfl | (simp only [List.length_drop, List.length_take]; rfl)) ?_
        with_reducible refine (laws_toTree.calls k  _ _ l0_0 a0_1 t329 t332 _ ?side1 ?side2 A26.out).mono ?_
        (case side1 => repeat (first | exact (Kd.C_below HR0_0.out HB.out) | (with_reducible refine Kd.C_alloc ?_ _) | (with_reducible refine Kd.C_drewN ?_ _) | (with_reducible refine Kd.C_drew ?_)))
        (case side2 => exact HC0_0.out)
        rintro e w44 ⟨v330, rfl, ho0, hb⟩
        refine ⟨_, rfl, ?_⟩
        have n0_ := Aside0.mk (Kd.S_elder' (by (with_reducible repeat (first | apply Kd.S_alloc | apply Kd.S_drewN | apply Kd.S_drew)); exact HO320.out) (Kd.S_base ho0) hb)
        have n1_ := Aside0.mk (Kd.S_elder' (by (with_reducible repeat (first | apply Kd.S_alloc | apply Kd.S_drewN | apply Kd.S_drew)); exact HO325.out) (Kd.S_base ho0) hb)
        have n2_ := Aside0.mk (Kd.S_lower (Kd.S_new' (Kd.S_new' ho0 (Kd.S_lt (by (with_reducible repeat (first | apply Kd.S_alloc | apply Kd.S_drewN | apply Kd.S_drew)); exact HO320.out))) (Kd.S_lt (by (with_reducible repeat (first | apply Kd.S_alloc | apply Kd.S_drewN | apply Kd.S_drew)); exact HO325.out))) (below_size (by repeat (first | (with_reducible first | exact HB.out | apply below_alloc | apply pw_below_drewN | apply below_drew1 | refine below_set ?_ GE316.out | refine below_set ?_ GE327.out) | exact HB.out))))
        have n3_ := Aside0.mk (blk_below (g := gb316) (o := .cells #[.slice A0_0 l0_0.length c0_0, .int .i64 a0_1] 41 (0, 0)) (by (with_reducible repeat (first | refine blk_drewN ?_ _ | refine blk_drew ?_ | refine blk_alloc ?_ _)); exact BK316.out) hb)
        have n4_ := Aside0.mk (blk_below (g := gb327) (o := .cells #[.slice Ao39 t323.length co39, .int .i64 t326] 34 (0, 0)) (by (with_reducible repeat (first | refine blk_drewN ?_ _ | refine blk_drew ?_ | refine blk_alloc ?_ _)); exact BK327.out) hb)
        have n5_ := Aside0.mk (below_step (by repeat (first | (with_reducible first | exact HB.out | apply below_alloc | apply pw_below_drewN | apply below_drew1 | refine below_set ?_ GE316.out | refine below_set ?_ GE327.out) | exact HB.out)) hb)
        clear HO320
        clear HO325
        clear BK316
        clear BK327
        clear HB
        have HO320 := n0_
        have HO325 := n1_
        have HO331 := n2_
        have BK316 := n3_
        have BK327 := n4_
        have HB := n5_
        clear n0_ n1_ n2_ n3_ n4_ n5_
        (try clear hb)
        (try clear hb2)
        (try clear hk)
        (try clear hi)
        (try clear ho0)
        obtain ⟨Ao45, co45, eo45⟩ := Kd.S_slice HO331.out
        (first | subst eo45 | (injection eo45 with f1_ f2_ f3_; have f4_ := f1_.symm; have f5_ := f3_.symm; clear f1_ f2_ f3_; subst f4_; subst f5_))
        refine hK.out _ _ ⟨(blk_cell BK327.out 0).trans rfl, (blk_cell BK327.out 1).trans rfl, (blk_cell BK316.out 0).trans rfl, (blk_cell BK316.out 1).trans rfl⟩ (fun hHeld => ?_)
        clear hK K
        refine norm_ (a' := ?_) ?_ ?_
        rotate_left
        · show Act.put _ (some 24) _ = _
          simp only [Act.put, List.setIfInBounds_toArray, List.set_cons_zero, List.set_cons_succ, i64_w, i32_w]
          rfl
        refine one_ (i := 3) (N := some 25) #[true, true, true, true, false] rfl rfl (by kernel_rfl) (by decide) (fun K hK => ?_)
        refine goes_ Try.func23 (by kernel_rfl) rfl #[.agg #[.slice Ao39 t323.length co39, .int .i64 t326], .agg #[.slice Ao45 t329.length co45, .int .i64 t332]] (by rfl) rfl rfl (by (try simp only [List.map_toArray, List.map_cons, List.map_nil]); first | done | rfl | (simp only [List.length_drop, List.length_take]; rfl)) ?_
        with_reducible refine (laws_eqTree.calls k  _ _ t323 t326 _ _ t329 t332 true _ ?side1 ?side2 ?side3 ?side4 A27.out).mono ?_
        (case side1 => repeat (first | exact (Kd.S_reads' HO325.out).2.2 | (with_reducible refine Kd.C_alloc ?_ _) | (with_reducible refine Kd.C_drewN ?_ _) | (with_reducible refine Kd.C_drew ?_)))
        (case side2 => exact (Kd.S_reads' HO325.out).2.1)
        (case side3 => repeat (first | exact (Kd.S_reads' HO331.out).2.2 | (with_reducible refine Kd.C_alloc ?_ _) | (with_reducible refine Kd.C_drewN ?_ _) | (with_reducible refine Kd.C_drew ?_)))
        (case side4 => exact (Kd.S_reads' HO331.out).2.1)
        rintro e w46 ⟨rfl, hb⟩
        refine ⟨_, rfl, ?_⟩
        have n0_ := Aside0.mk (Kd.S_below (by (with_reducible repeat (first | apply Kd.S_alloc | apply Kd.S_drewN | apply Kd.S_drew)); exact HO320.out) hb)
        have n1_ := Aside0.mk (Kd.S_below (by (with_reducible repeat (first | apply Kd.S_alloc | apply Kd.S_drewN | apply Kd.S_drew)); exact HO325.out) hb)
        have n2_ := Aside0.mk (Kd.S_below (by (with_reducible repeat (first | apply Kd.S_alloc | apply Kd.S_drewN | apply Kd.S_drew)); exact HO331.out) hb)
        have n3_ := Aside0.mk (blk_below (g := gb316) (o := .cells #[.slice A0_0 l0_0.length c0_0, .int .i64 a0_1] 41 (0, 0)) (by (with_reducible repeat (first | refine blk_drewN ?_ _ | refine blk_drew ?_ | refine blk_alloc ?_ _)); exact BK316.out) hb)
        have n4_ := Aside0.mk (blk_below (g := gb327) (o := .cells #[.slice Ao39 t323.length co39, .int .i64 t326] 34 (0, 0)) (by (with_reducible repeat (first | refine blk_drewN ?_ _ | refine blk_drew ?_ | refine blk_alloc ?_ _)); exact BK327.out) hb)
        have n5_ := Aside0.mk (below_step (by repeat (first | (with_reducible first | exact HB.out | apply below_alloc | apply pw_below_drewN | apply below_drew1 | refine below_set ?_ GE316.out | refine below_set ?_ GE327.out) | exact HB.out)) hb)
        clear HO320
        clear HO325
        clear HO331
        clear BK316
        clear BK327
        clear HB
        have HO320 := n0_
        have HO325 := n1_
        have HO331 := n2_
        have BK316 := n3_
        have BK327 := n4_
        have HB := n5_
        clear n0_ n1_ n2_ n3_ n4_ n5_
        (try clear hb)
        (try clear hb2)
        (try clear hk)
        (try clear hi)
        refine hK.out _ _ ⟨(blk_cell BK327.out 0).trans rfl, (blk_cell BK327.out 1).trans rfl, (blk_cell BK316.out 0).trans rfl, (blk_cell BK316.out 1).trans rfl⟩ (fun hHeld => ?_)
        clear hK K
        refine norm_ (a' := ?_) ?_ ?_
        rotate_left
        · show Act.put _ (some 25) _ = _
          simp only [Act.put, List.setIfInBounds_toArray, List.set_cons_zero, List.set_cons_succ, i64_w, i32_w]
          rfl
        refine pure_ (i := 4) (N := some 26) (v := ?_) (a' := ?_) #[true, true, true, true, true] rfl rfl (by kernel_rfl) (fun _ _ _ h => h) (Or.inl ⟨by rfl, ?_⟩) ?_ ?_
        rotate_left
        · intro w'
          go_simp
          with_reducible rfl
        rotate_left
        · simp only [Act.put, List.setIfInBounds_toArray, List.set_cons_zero, List.set_cons_succ, i64_w, i32_w]
          rfl
        refine done_ (by kernel_rfl) ?_
        try go_wp2
        go_ret
        exact ⟨by first | rfl | (simp [errW_none, errW_some] <;> rfl) | (simp [*, errW_none, errW_some] <;> rfl), by repeat (first | (with_reducible first | exact HB.out | apply below_alloc | apply pw_below_drewN | apply below_drew1 | refine below_set ?_ GE316.out | refine below_set ?_ GE327.out) | exact HB.out)⟩
      · replace c28 := Bool.eq_false_iff.mpr c28
        subst c28
        have H1 : (some false) = some r := by rw [if_neg (show ¬ (false = true) by decide)] at H; exact H
        clear H
        have H := H1
        clear H1
        obtain rfl := Option.some.inj H
        go_enter Try.func6, Try.ntmps6
        try go_wp2_with (first | ((with_reducible refine gate_dst (N := 1) rfl ?_); refine box_event ?hg (N := 1) ?hd (cs := #[.slice A0_0 l0_0.length c0_0, .int .i64 a0_1]) (t := 41) ?hr ?_; (case hd => rfl); (case hg => rfl); (case hr => first | (go_simp; done) | (go_simp; rfl)); intro gb316 hg w47 hbox hb; have n0_ := Aside0.mk (below_step (by repeat (first | (with_reducible first | exact HB.out | apply below_alloc | apply pw_below_drewN | apply below_drew1) | exact HB.out)) hb); have n1_ := Aside0.mk (hbox); have n2_ := Aside0.mk ((by rw [hg]; exact (below_size (by repeat (first | (with_reducible first | exact HB.out | apply below_alloc | apply pw_below_drewN | apply below_drew1) | exact HB.out))) : w.heap.size ≤ gb316)); have n3_ := Aside0.mk ((by rw [hg]; exact (below_size (by repeat (first | (with_reducible first | exact HB.out | apply below_alloc | apply pw_below_drewN | apply below_drew1) | exact HB.out))) : w.heap.size ≤ gb316)); clear HB; have HB := n0_; have BK316 := n1_; have GW316 := n2_; have GE316 := n3_; clear n0_ n1_ n2_ n3_; clear hb hbox hg; have hcz48_0 : w47.cell? ⟨gb316, 0, none⟩ = some (.slice A0_0 l0_0.length c0_0) := (blk_cell BK316.out 0).trans rfl; have hcz48_1 : w47.cell? ⟨gb316, 1, none⟩ = some (.int .i64 a0_1) := (blk_cell BK316.out 1).trans rfl; have hfz48_0 := blk_frozen BK316.out 0; have hfz48_1 := blk_frozen BK316.out 1) | ((with_reducible refine gate_callee (f := 26) rfl ?_); refine goesL_ (some 9) rfl rfl Try.func26 (by kernel_rfl) rfl #[.agg #[.slice A0_0 l0_0.length c0_0, .int .i64 a0_1], .int .i64 1048576] rfl (by (try simp only [List.map_toArray, List.map_cons, List.map_nil]); first | done | rfl | (simp only [List.length_drop, List.length_take]; rfl)) ?_; (with_reducible refine (laws_szTree.calls k  _ _ l0_0 a0_1 1048576 t317 _ ?side1 ?side2 A2.out).mono ?_); (case side1 => repeat (first | exact (Kd.C_below HR0_0.out HB.out) | (with_reducible refine Kd.C_alloc ?_ _) | (with_reducible refine Kd.C_drewN ?_ _) | (with_reducible refine Kd.C_drew ?_))); (case side2 => exact HC0_0.out); rintro e w49 ⟨rfl, hb⟩; refine ⟨_, rfl, ?_⟩; have n0_ := Aside0.mk (blk_below (g := gb316) (o := .cells #[.slice A0_0 l0_0.length c0_0, .int .i64 a0_1] 41 (0, 0)) (by (with_reducible repeat (first | refine blk_drewN ?_ _ | refine blk_drew ?_ | refine blk_alloc ?_ _)); exact BK316.out) hb); have n1_ := Aside0.mk (below_step (by repeat (first | (with_reducible first | exact HB.out | apply below_alloc | apply pw_below_drewN | apply below_drew1 | refine below_set ?_ GE316.out) | exact HB.out)) hb); clear BK316; clear HB; have BK316 := n0_; have HB := n1_; clear n0_ n1_; (try clear hb); (try clear hb2); (try clear hk); (try clear hi); have hcz50_0 : w49.cell? ⟨gb316, 0, none⟩ = some (.slice A0_0 l0_0.length c0_0) := (blk_cell BK316.out 0).trans rfl; have hcz50_1 : w49.cell? ⟨gb316, 1, none⟩ = some (.int .i64 a0_1) := (blk_cell BK316.out 1).trans rfl; have hfz50_0 := blk_frozen BK316.out 0; have hfz50_1 := blk_frozen BK316.out 1) | ((with_reducible refine gate_callee (f := 28) rfl ?_); refine goesL_ (some 13) rfl rfl Try.func28 (by kernel_rfl) rfl #[.agg #[.slice A0_0 l0_0.length c0_0, .int .i64 a0_1]] rfl (by (try simp only [List.map_toArray, List.map_cons, List.map_nil]); first | done | rfl | (simp only [List.length_drop, List.length_take]; rfl)) ?_; (with_reducible refine (laws_toTree.calls k  _ _ l0_0 a0_1 t318 t321 _ ?side1 ?side2 A7.out).mono ?_); (case side1 => repeat (first | exact (Kd.C_below HR0_0.out HB.out) | (with_reducible refine Kd.C_alloc ?_ _) | (with_reducible refine Kd.C_drewN ?_ _) | (with_reducible refine Kd.C_drew ?_))); (case side2 => exact HC0_0.out); rintro e w51 ⟨v319, rfl, ho0, hb⟩; refine ⟨_, rfl, ?_⟩; have n0_ := Aside0.mk (Kd.S_lower ho0 (below_size (by repeat (first | (with_reducible first | exact HB.out | apply below_alloc | apply pw_below_drewN | apply below_drew1 | refine below_set ?_ GE316.out) | exact HB.out)))); have n1_ := Aside0.mk (blk_below (g := gb316) (o := .cells #[.slice A0_0 l0_0.length c0_0, .int .i64 a0_1] 41 (0, 0)) (by (with_reducible repeat (first | refine blk_drewN ?_ _ | refine blk_drew ?_ | refine blk_alloc ?_ _)); exact BK316.out) hb); have n2_ := Aside0.mk (below_step (by repeat (first | (with_reducible first | exact HB.out | apply below_alloc | apply pw_below_drewN | apply below_drew1 | refine below_set ?_ GE316.out) | exact HB.out)) hb); clear BK316; clear HB; have HO320 := n0_; have BK316 := n1_; have HB := n2_; clear n0_ n1_ n2_; (try clear hb); (try clear hb2); (try clear hk); (try clear hi); (try clear ho0); obtain ⟨Ao52, co52, eo52⟩ := Kd.S_slice HO320.out; subst eo52) | ((with_reducible refine gate_callee (f := 27) rfl ?_); refine goesL_ (some 14) rfl rfl Try.func27 (by kernel_rfl) rfl #[.agg #[.slice Ao52 t318.length co52, .int .i64 t321]] rfl (by (try simp only [List.map_toArray, List.map_cons, List.map_nil]); first | done | rfl | (simp only [List.length_drop, List.length_take]; rfl)) ?_; (with_reducible refine (spec_TreeOK.calls k  _ _ t318 t321 t322 _ ?side1 ?side2 A8.out).mono ?_); (case side1 => repeat (first | exact (Kd.S_reads' HO320.out).2.2 | (with_reducible refine Kd.C_alloc ?_ _) | (with_reducible refine Kd.C_drewN ?_ _) | (with_reducible refine Kd.C_drew ?_))); (case side2 => exact (Kd.S_reads' HO320.out).2.1); rintro e w53 ⟨rfl, hb⟩; refine ⟨_, rfl, ?_⟩; have n0_ := Aside0.mk (Kd.S_below (by (with_reducible repeat (first | apply Kd.S_alloc | apply Kd.S_drewN | apply Kd.S_drew)); exact HO320.out) hb); have n1_ := Aside0.mk (blk_below (g := gb316) (o := .cells #[.slice A0_0 l0_0.length c0_0, .int .i64 a0_1] 41 (0, 0)) (by (with_reducible repeat (first | refine blk_drewN ?_ _ | refine blk_drew ?_ | refine blk_alloc ?_ _)); exact BK316.out) hb); have n2_ := Aside0.mk (below_step (by repeat (first | (with_reducible first | exact HB.out | apply below_alloc | apply pw_below_drewN | apply below_drew1 | refine below_set ?_ GE316.out) | exact HB.out)) hb); clear HO320; clear BK316; clear HB; have HO320 := n0_; have BK316 := n1_; have HB := n2_; clear n0_ n1_ n2_; (try clear hb); (try clear hb2); (try clear hk); (try clear hi); have hcz54_0 : w53.cell? ⟨gb316, 0, none⟩ = some (.slice A0_0 l0_0.length c0_0) := (blk_cell BK316.out 0).trans rfl; have hcz54_1 : w53.cell? ⟨gb316, 1, none⟩ = some (.int .i64 a0_1) := (blk_cell BK316.out 1).trans rfl; have hfz54_0 := blk_frozen BK316.out 0; have hfz54_1 := blk_frozen BK316.out 1) | ((with_reducible refine gate_callee (f := 28) rfl ?_); refine goesL_ (some 16) rfl rfl Try.func28 (by kernel_rfl) rfl #[.agg #[.slice A0_0 l0_0.length c0_0, .int .i64 a0_1]] rfl (by (try simp only [List.map_toArray, List.map_cons, List.map_nil]); first | done | rfl | (simp only [List.length_drop, List.length_take]; rfl)) ?_; (with_reducible refine (laws_toTree.calls k  _ _ l0_0 a0_1 t323 t326 _ ?side1 ?side2 A9.out).mono ?_); (case side1 => repeat (first | exact (Kd.C_below HR0_0.out HB.out) | (with_reducible refine Kd.C_alloc ?_ _) | (with_reducible refine Kd.C_drewN ?_ _) | (with_reducible refine Kd.C_drew ?_))); (case side2 => exact HC0_0.out); rintro e w55 ⟨v324, rfl, ho0, hb⟩; refine ⟨_, rfl, ?_⟩; have n0_ := Aside0.mk (Kd.S_elder' (by (with_reducible repeat (first | apply Kd.S_alloc | apply Kd.S_drewN | apply Kd.S_drew)); exact HO320.out) (Kd.S_base ho0) hb); have n1_ := Aside0.mk (Kd.S_lower (Kd.S_new' ho0 (Kd.S_lt (by (with_reducible repeat (first | apply Kd.S_alloc | apply Kd.S_drewN | apply Kd.S_drew)); exact HO320.out))) (below_size (by repeat (first | (with_reducible first | exact HB.out | apply below_alloc | apply pw_below_drewN | apply below_drew1 | refine below_set ?_ GE316.out) | exact HB.out)))); have n2_ := Aside0.mk (blk_below (g := gb316) (o := .cells #[.slice A0_0 l0_0.length c0_0, .int .i64 a0_1] 41 (0, 0)) (by (with_reducible repeat (first | refine blk_drewN ?_ _ | refine blk_drew ?_ | refine blk_alloc ?_ _)); exact BK316.out) hb); have n3_ := Aside0.mk (below_step (by repeat (first | (with_reducible first | exact HB.out | apply below_alloc | apply pw_below_drewN | apply below_drew1 | refine below_set ?_ GE316.out) | exact HB.out)) hb); clear HO320; clear BK316; clear HB; have HO320 := n0_; have HO325 := n1_; have BK316 := n2_; have HB := n3_; clear n0_ n1_ n2_ n3_; (try clear hb); (try clear hb2); (try clear hk); (try clear hi); (try clear ho0)) | ((with_reducible refine gate_dst (N := 5) rfl ?_); refine box_event ?hg (N := 5) ?hd (cs := #[.slice none 0 0, .int .i64 0]) (t := 34) ?hr ?_; (case hd => rfl); (case hg => rfl); (case hr => first | (go_simp; done) | (go_simp; rfl)); intro gb327 hg w56 hbox hb; have n0_ := Aside0.mk (Kd.S_below (by (with_reducible repeat (first | apply Kd.S_alloc | apply Kd.S_drewN | apply Kd.S_drew)); exact HO320.out) hb); have n1_ := Aside0.mk (Kd.S_below (by (with_reducible repeat (first | apply Kd.S_alloc | apply Kd.S_drewN | apply Kd.S_drew)); exact HO325.out) hb); have n2_ := Aside0.mk (blk_below (g := gb316) (o := .cells #[.slice A0_0 l0_0.length c0_0, .int .i64 a0_1] 41 (0, 0)) (by (with_reducible repeat (first | refine blk_drewN ?_ _ | refine blk_drew ?_ | refine blk_alloc ?_ _)); exact BK316.out) hb); have n3_ := Aside0.mk (below_step (by repeat (first | (with_reducible first | exact HB.out | apply below_alloc | apply pw_below_drewN | apply below_drew1 | refine below_set ?_ GE316.out) | exact HB.out)) hb); have n4_ := Aside0.mk (hbox); have n5_ := Aside0.mk ((by rw [hg]; exact (below_size (by repeat (first | (with_reducible first | exact HB.out | apply below_alloc | apply pw_below_drewN | apply below_drew1 | refine below_set ?_ GE316.out) | exact HB.out))) : w.heap.size ≤ gb327)); have n6_ := Aside0.mk ((by rw [hg]; exact (below_size (by repeat (first | (with_reducible first | exact HB.out | apply below_alloc | apply pw_below_drewN | apply below_drew1 | refine below_set ?_ GE316.out) | exact HB.out))) : w.heap.size ≤ gb327)); have n7_ := Aside0.mk ((by rw [hg]; exact Nat.ne_of_lt (blk_lt (g := gb316) (o := .cells #[.slice A0_0 l0_0.length c0_0, .int .i64 a0_1] 41 (0, 0)) (by (with_reducible repeat (first | refine blk_drewN ?_ _ | refine blk_drew ?_ | refine blk_alloc ?_ _)); exact BK316.out)) : gb316 ≠ gb327)); have n8_ := Aside0.mk ((by rw [hg]; exact Nat.ne_of_gt (blk_lt (g := gb316) (o := .cells #[.slice A0_0 l0_0.length c0_0, .int .i64 a0_1] 41 (0, 0)) (by (with_reducible repeat (first | refine blk_drewN ?_ _ | refine blk_drew ?_ | refine blk_alloc ?_ _)); exact BK316.out)) : gb327 ≠ gb316)); clear HO320; clear HO325; clear BK316; clear HB; have HO320 := n0_; have HO325 := n1_; have BK316 := n2_; have HB := n3_; have BK327 := n4_; have GW327 := n5_; have GE327 := n6_; have NB316_327 := n7_; have NB327_316 := n8_; clear n0_ n1_ n2_ n3_ n4_ n5_ n6_ n7_ n8_; clear hb hbox hg; obtain ⟨Ao57, co57, eo57⟩ := Kd.S_slice HO325.out; subst eo57; have hnb58 := NB327_316.out; have hnc58 := NB316_327.out; have hcz59_0 : w56.cell? ⟨gb327, 0, none⟩ = some (.slice none 0 0) := (blk_cell BK327.out 0).trans rfl; have hcz59_1 : w56.cell? ⟨gb327, 1, none⟩ = some (.int .i64 0) := (blk_cell BK327.out 1).trans rfl; have hfz59_0 := blk_frozen BK327.out 0; have hfz59_1 := blk_frozen BK327.out 1) | ((with_reducible refine gate_callee (f := 29) rfl ?_); refine goesL_ (some 18) rfl rfl Try.func29 (by kernel_rfl) rfl #[.agg #[.slice Ao57 t323.length co57, .int .i64 t326]] rfl (by (try simp only [List.map_toArray, List.map_cons, List.map_nil]); first | done | rfl | (simp only [List.length_drop, List.length_take]; rfl)) ?_; (with_reducible refine (impl_TreeOK.calls k  _ _ t323 t326 t328 _ ?side1 ?side2 A10.out).mono ?_); (case side1 => refine (Kd.S_reads' (e := 76) (base := w.heap.size) (ok := fun k_ => (True ∧ some k_ ≠ (.slice Ao52 t318.length co52 : Value).ownBlock)) (n := t323.length) (c := co57) ?_).2.2; exact (by (with_reducible repeat (first | apply Kd.S_alloc | apply Kd.S_drewN | apply Kd.S_drew)); exact (Kd.S_mono (Kd.S_far (p := ⟨gb327, 1, none⟩) (Kd.S_far (p := ⟨gb327, 0, none⟩) (Kd.S_types HO325.out BK327.out (by decide)) (fun _ hk => hk.2) (.slice Ao57 t323.length co57)) (fun _ hk => hk.2) (.int .i64 t326)) (fun _ h_ => h_.1)))); (case side2 => exact (Kd.S_reads' HO325.out).2.1); rintro e w60 ⟨rfl, hb⟩; refine ⟨_, rfl, ?_⟩; have n0_ := Aside0.mk (Kd.S_below (by (with_reducible repeat (first | apply Kd.S_alloc | apply Kd.S_drewN | apply Kd.S_drew)); exact (Kd.S_mono (Kd.S_far (p := ⟨gb327, 1, none⟩) (Kd.S_far (p := ⟨gb327, 0, none⟩) (Kd.S_types HO320.out BK327.out (by decide)) (fun _ hk => hk.2) (.slice Ao57 t323.length co57)) (fun _ hk => hk.2) (.int .i64 t326)) (fun _ h_ => h_.1))) hb); have n1_ := Aside0.mk (Kd.S_below (by (with_reducible repeat (first | apply Kd.S_alloc | apply Kd.S_drewN | apply Kd.S_drew)); exact (Kd.S_mono (Kd.S_far (p := ⟨gb327, 1, none⟩) (Kd.S_far (p := ⟨gb327, 0, none⟩) (Kd.S_types HO325.out BK327.out (by decide)) (fun _ hk => hk.2) (.slice Ao57 t323.length co57)) (fun _ hk => hk.2) (.int .i64 t326)) (fun _ h_ => h_.1))) hb); have n2_ := Aside0.mk (blk_below (g := gb316) (o := .cells #[.slice A0_0 l0_0.length c0_0, .int .i64 a0_1] 41 (0, 0)) (by (with_reducible repeat (first | refine blk_drewN ?_ _ | refine blk_drew ?_ | refine blk_alloc ?_ _)); refine blk_far ?_ NB316_327.out _; (with_reducible repeat (first | refine blk_drewN ?_ _ | refine blk_drew ?_ | refine blk_alloc ?_ _)); refine blk_far ?_ NB316_327.out _; (with_reducible repeat (first | refine blk_drewN ?_ _ | refine blk_drew ?_ | refine blk_alloc ?_ _)); exact BK316.out) hb); have n3_ := Aside0.mk (blk_below (g := gb327) (o := .cells #[.slice Ao57 t323.length co57, .int .i64 t326] 34 (0, 0)) (by (with_reducible repeat (first | refine blk_drewN ?_ _ | refine blk_drew ?_ | refine blk_alloc ?_ _)); refine blk_put (cs := #[.slice Ao57 t323.length co57, .int .i64 0]) ?_ 1 _ rfl; (with_reducible repeat (first | refine blk_drewN ?_ _ | refine blk_drew ?_ | refine blk_alloc ?_ _)); refine blk_put (cs := #[.slice none 0 0, .int .i64 0]) ?_ 0 _ rfl; (with_reducible repeat (first | refine blk_drewN ?_ _ | refine blk_drew ?_ | refine blk_alloc ?_ _)); exact BK327.out) hb); have n4_ := Aside0.mk (below_step (by repeat (first | (with_reducible first | exact HB.out | apply below_alloc | apply pw_below_drewN | apply below_drew1 | refine below_set ?_ GE316.out | refine below_set ?_ GE327.out) | exact HB.out)) hb); clear HO320; clear HO325; clear BK316; clear BK327; clear HB; have HO320 := n0_; have HO325 := n1_; have BK316 := n2_; have BK327 := n3_; have HB := n4_; clear n0_ n1_ n2_ n3_ n4_; (try clear hb); (try clear hb2); (try clear hk); (try clear hi)))
        have n0_ := Aside0.mk (Kd.S_drew HO320.out)
        have n1_ := Aside0.mk (Kd.S_drew HO325.out)
        have n2_ := Aside0.mk (blk_drew BK316.out)
        have n3_ := Aside0.mk (blk_drew BK327.out)
        have n4_ := Aside0.mk (below_drew1 HB.out)
        clear HO320
        clear HO325
        clear BK316
        clear BK327
        clear HB
        have HO320 := n0_
        have HO325 := n1_
        have BK316 := n2_
        have BK327 := n3_
        have HB := n4_
        clear n0_ n1_ n2_ n3_ n4_
        refine start_ (n := 5) (S := fun w' => w'.cell? ⟨gb327, 0, none⟩ = some (.slice Ao57 t323.length co57) ∧ w'.cell? ⟨gb327, 1, none⟩ = some (.int .i64 t326) ∧ w'.cell? ⟨gb316, 0, none⟩ = some (.slice A0_0 l0_0.length c0_0) ∧ w'.cell? ⟨gb316, 1, none⟩ = some (.int .i64 a0_1)) (ds := []) #[false, false, false, false, false] (by kernel_rfl) rfl rfl ⟨(blk_cell BK327.out 0).trans rfl, (blk_cell BK327.out 1).trans rfl, (blk_cell BK316.out 0).trans rfl, (blk_cell BK316.out 1).trans rfl⟩ (fun hHeld => ?_)
        generalize w60.drew = w61 at HO320 HO325 BK316 BK327 HB hHeld ⊢
        refine take_ (i := 0) (N := some 22) (v := ?_) (a' := ?_) #[true, false, false, false, false] rfl rfl (by kernel_rfl) (fun _ _ _ h => h) (Or.inl ⟨by rfl, ?_⟩) hHeld ?_ ?_
        rotate_left
        · rintro w' ⟨s0, s1, s2, s3⟩
          go_simp
          with_reducible rfl
        rotate_left
        · simp only [Act.put, List.setIfInBounds_toArray, List.set_cons_zero, List.set_cons_succ, i64_w, i32_w]
          rfl
        refine take_ (i := 1) (N := some 23) (v := ?_) (a' := ?_) #[true, true, false, false, false] rfl rfl (by kernel_rfl) (fun _ _ _ h => h) (Or.inl ⟨by rfl, ?_⟩) hHeld ?_ ?_
        rotate_left
        · rintro w' ⟨s0, s1, s2, s3⟩
          go_simp
          with_reducible rfl
        rotate_left
        · simp only [Act.put, List.setIfInBounds_toArray, List.set_cons_zero, List.set_cons_succ, i64_w, i32_w]
          rfl
        refine one_ (i := 2) (N := some 24) #[true, true, true, false, false] rfl rfl (by kernel_rfl) (by decide) (fun K hK => ?_)
        refine goes_ Try.func28 (by kernel_rfl) rfl #[.agg #[.slice A0_0 l0_0.length c0_0, .int .i64 a0_1]] (by rfl) rfl rfl (by (try simp only [List.map_toArray, List.map_cons, List.map_nil]); first | done | rfl | (simp only [List.length_drop, List.length_take]; rfl)) ?_
        with_reducible refine (laws_toTree.calls k  _ _ l0_0 a0_1 t329 t332 _ ?side1 ?side2 A26.out).mono ?_
        (case side1 => repeat (first | exact (Kd.C_below HR0_0.out HB.out) | (with_reducible refine Kd.C_alloc ?_ _) | (with_reducible refine Kd.C_drewN ?_ _) | (with_reducible refine Kd.C_drew ?_)))
        (case side2 => exact HC0_0.out)
        rintro e w62 ⟨v330, rfl, ho0, hb⟩
        refine ⟨_, rfl, ?_⟩
        have n0_ := Aside0.mk (Kd.S_elder' (by (with_reducible repeat (first | apply Kd.S_alloc | apply Kd.S_drewN | apply Kd.S_drew)); exact HO320.out) (Kd.S_base ho0) hb)
        have n1_ := Aside0.mk (Kd.S_elder' (by (with_reducible repeat (first | apply Kd.S_alloc | apply Kd.S_drewN | apply Kd.S_drew)); exact HO325.out) (Kd.S_base ho0) hb)
        have n2_ := Aside0.mk (Kd.S_lower (Kd.S_new' (Kd.S_new' ho0 (Kd.S_lt (by (with_reducible repeat (first | apply Kd.S_alloc | apply Kd.S_drewN | apply Kd.S_drew)); exact HO320.out))) (Kd.S_lt (by (with_reducible repeat (first | apply Kd.S_alloc | apply Kd.S_drewN | apply Kd.S_drew)); exact HO325.out))) (below_size (by repeat (first | (with_reducible first | exact HB.out | apply below_alloc | apply pw_below_drewN | apply below_drew1 | refine below_set ?_ GE316.out | refine below_set ?_ GE327.out) | exact HB.out))))
        have n3_ := Aside0.mk (blk_below (g := gb316) (o := .cells #[.slice A0_0 l0_0.length c0_0, .int .i64 a0_1] 41 (0, 0)) (by (with_reducible repeat (first | refine blk_drewN ?_ _ | refine blk_drew ?_ | refine blk_alloc ?_ _)); exact BK316.out) hb)
        have n4_ := Aside0.mk (blk_below (g := gb327) (o := .cells #[.slice Ao57 t323.length co57, .int .i64 t326] 34 (0, 0)) (by (with_reducible repeat (first | refine blk_drewN ?_ _ | refine blk_drew ?_ | refine blk_alloc ?_ _)); exact BK327.out) hb)
        have n5_ := Aside0.mk (below_step (by repeat (first | (with_reducible first | exact HB.out | apply below_alloc | apply pw_below_drewN | apply below_drew1 | refine below_set ?_ GE316.out | refine below_set ?_ GE327.out) | exact HB.out)) hb)
        clear HO320
        clear HO325
        clear BK316
        clear BK327
        clear HB
        have HO320 := n0_
        have HO325 := n1_
        have HO331 := n2_
        have BK316 := n3_
        have BK327 := n4_
        have HB := n5_
        clear n0_ n1_ n2_ n3_ n4_ n5_
        (try clear hb)
        (try clear hb2)
        (try clear hk)
        (try clear hi)
        (try clear ho0)
        obtain ⟨Ao63, co63, eo63⟩ := Kd.S_slice HO331.out
        (first | subst eo63 | (injection eo63 with f1_ f2_ f3_; have f4_ := f1_.symm; have f5_ := f3_.symm; clear f1_ f2_ f3_; subst f4_; subst f5_))
        refine hK.out _ _ ⟨(blk_cell BK327.out 0).trans rfl, (blk_cell BK327.out 1).trans rfl, (blk_cell BK316.out 0).trans rfl, (blk_cell BK316.out 1).trans rfl⟩ (fun hHeld => ?_)
        clear hK K
        refine norm_ (a' := ?_) ?_ ?_
        rotate_left
        · show Act.put _ (some 24) _ = _
          simp only [Act.put, List.setIfInBounds_toArray, List.set_cons_zero, List.set_cons_succ, i64_w, i32_w]
          rfl
        refine one_ (i := 3) (N := some 25) #[true, true, true, true, false] rfl rfl (by kernel_rfl) (by decide) (fun K hK => ?_)
        refine goes_ Try.func23 (by kernel_rfl) rfl #[.agg #[.slice Ao57 t323.length co57, .int .i64 t326], .agg #[.slice Ao63 t329.length co63, .int .i64 t332]] (by rfl) rfl rfl (by (try simp only [List.map_toArray, List.map_cons, List.map_nil]); first | done | rfl | (simp only [List.length_drop, List.length_take]; rfl)) ?_
        with_reducible refine (laws_eqTree.calls k  _ _ t323 t326 _ _ t329 t332 false _ ?side1 ?side2 ?side3 ?side4 A27.out).mono ?_
        (case side1 => repeat (first | exact (Kd.S_reads' HO325.out).2.2 | (with_reducible refine Kd.C_alloc ?_ _) | (with_reducible refine Kd.C_drewN ?_ _) | (with_reducible refine Kd.C_drew ?_)))
        (case side2 => exact (Kd.S_reads' HO325.out).2.1)
        (case side3 => repeat (first | exact (Kd.S_reads' HO331.out).2.2 | (with_reducible refine Kd.C_alloc ?_ _) | (with_reducible refine Kd.C_drewN ?_ _) | (with_reducible refine Kd.C_drew ?_)))
        (case side4 => exact (Kd.S_reads' HO331.out).2.1)
        rintro e w64 ⟨rfl, hb⟩
        refine ⟨_, rfl, ?_⟩
        have n0_ := Aside0.mk (Kd.S_below (by (with_reducible repeat (first | apply Kd.S_alloc | apply Kd.S_drewN | apply Kd.S_drew)); exact HO320.out) hb)
        have n1_ := Aside0.mk (Kd.S_below (by (with_reducible repeat (first | apply Kd.S_alloc | apply Kd.S_drewN | apply Kd.S_drew)); exact HO325.out) hb)
        have n2_ := Aside0.mk (Kd.S_below (by (with_reducible repeat (first | apply Kd.S_alloc | apply Kd.S_drewN | apply Kd.S_drew)); exact HO331.out) hb)
        have n3_ := Aside0.mk (blk_below (g := gb316) (o := .cells #[.slice A0_0 l0_0.length c0_0, .int .i64 a0_1] 41 (0, 0)) (by (with_reducible repeat (first | refine blk_drewN ?_ _ | refine blk_drew ?_ | refine blk_alloc ?_ _)); exact BK316.out) hb)
        have n4_ := Aside0.mk (blk_below (g := gb327) (o := .cells #[.slice Ao57 t323.length co57, .int .i64 t326] 34 (0, 0)) (by (with_reducible repeat (first | refine blk_drewN ?_ _ | refine blk_drew ?_ | refine blk_alloc ?_ _)); exact BK327.out) hb)
        have n5_ := Aside0.mk (below_step (by repeat (first | (with_reducible first | exact HB.out | apply below_alloc | apply pw_below_drewN | apply below_drew1 | refine below_set ?_ GE316.out | refine below_set ?_ GE327.out) | exact HB.out)) hb)
        clear HO320
        clear HO325
        clear HO331
        clear BK316
        clear BK327
        clear HB
        have HO320 := n0_
        have HO325 := n1_
        have HO331 := n2_
        have BK316 := n3_
        have BK327 := n4_
        have HB := n5_
        clear n0_ n1_ n2_ n3_ n4_ n5_
        (try clear hb)
        (try clear hb2)
        (try clear hk)
        (try clear hi)
        refine hK.out _ _ ⟨(blk_cell BK327.out 0).trans rfl, (blk_cell BK327.out 1).trans rfl, (blk_cell BK316.out 0).trans rfl, (blk_cell BK316.out 1).trans rfl⟩ (fun hHeld => ?_)
        clear hK K
        refine norm_ (a' := ?_) ?_ ?_
        rotate_left
        · show Act.put _ (some 25) _ = _
          simp only [Act.put, List.setIfInBounds_toArray, List.set_cons_zero, List.set_cons_succ, i64_w, i32_w]
          rfl
        refine pure_ (i := 4) (N := some 26) (v := ?_) (a' := ?_) #[true, true, true, true, true] rfl rfl (by kernel_rfl) (fun _ _ _ h => h) (Or.inl ⟨by rfl, ?_⟩) ?_ ?_
        rotate_left
        · intro w'
          go_simp
          with_reducible rfl
        rotate_left
        · simp only [Act.put, List.setIfInBounds_toArray, List.set_cons_zero, List.set_cons_succ, i64_w, i32_w]
          rfl
        refine done_ (by kernel_rfl) ?_
        try go_wp2
        go_ret
        exact ⟨by first | rfl | (simp [errW_none, errW_some] <;> rfl) | (simp [*, errW_none, errW_some] <;> rfl), by repeat (first | (with_reducible first | exact HB.out | apply below_alloc | apply pw_below_drewN | apply below_drew1 | refine below_set ?_ GE316.out | refine below_set ?_ GE327.out) | exact HB.out)⟩

end Go.Proofs.Ytoceopjhacpjnaa.Q
namespace Go.Proofs.YtoceopjhacpjnaaW.PrintOpen
open Go.RowKit Go.ChangeShapes Go.WideShapes Go.ChangeAt Go.Proofs.YtoceopjhacpjnaaW.PrintWords
/-- Cells that read at type t are those of a value of kind d, which is good. -/
def Opens {α : Type} (P : Program) (d : Kd α) (t : TypeId) (good : α → Prop) : Prop :=
  ∀ (H : Type) (enc : TypeId × Value → H) (w : World) (base : Nat) (spare : Nat → Bool) (held : Bool) (fuel : Nat) (cs : List Value) (x : DataW H × List MemPlace),
    DataW.trod enc P w base spare held fuel t cs = some x → ∃ a, d.K w a cs ∧ good a
variable {P : Program}
theorem opens_int {t : TypeId} {k : IntKind} (ht : P.underlying t = some (.int k)) : Opens P (Kd.int k) t (fun n => (Lit.int k n).wf = true) := by
  intro H enc w base spare held fuel cs x h
  obtain ⟨n, hcs, _, hw⟩ := DataW.trod_int ht h
  exact ⟨n, hcs, hw⟩
theorem opens_bool {t : TypeId} (ht : P.underlying t = some .bool) : Opens P Kd.bool t (fun _ => True) := by
  intro H enc w base spare held fuel cs x h
  obtain ⟨b, hcs, _⟩ := DataW.trod_bool ht h
  exact ⟨b, hcs, trivial⟩
theorem opens_string {t : TypeId} (ht : P.underlying t = some .string) : Opens P Kd.string t (fun s => s.size ≤ 9223372036854775807) := by
  intro H enc w base spare held fuel cs x h
  obtain ⟨s, hcs, _, hs⟩ := DataW.trod_string ht h
  exact ⟨s, hcs, by unfold maxLen at hs; exact hs⟩
theorem opens_slice {α : Type} {t e : TypeId} {d : Kd α} {g : α → Prop} (ht : P.underlying t = some (.slice e)) (hc : P.cellsOf e = d.sz) (he : Opens P d e g) :
    Opens P (Kd.slice e d) t (fun l => l.length ≤ 9223372036854775807 ∧ ∀ x ∈ l, g x) := by
  intro H enc w base spare held fuel cs x h
  rcases Deep.open_slice ht h with ⟨rfl, _⟩ | ⟨a, len, cap, m, n, D, Pl, rfl, _, hl, hm, hmm, _, hx⟩
  · exact ⟨[], ⟨none, 0, rfl, Nat.le_refl _, rfl, by simp, fun h0 => absurd h0 (by simp)⟩, by simp, by simp⟩
  · have hlm : len ≤ m := by rw [hmm]; split <;> omega
    have hall : ∀ i : Fin len, ∃ v : α × List Value, w.cells? base (a.add (i.1 * P.cellsOf e)) (P.cellsOf e) = some v.2 ∧ d.K w v.1 v.2 ∧ g v.1 := fun i => by
      obtain ⟨cs', h1, h2⟩ := hx i.1 (by have := i.2; omega)
      obtain ⟨a', hk, hg⟩ := he H enc w base spare held n cs' _ h2
      exact ⟨(a', cs'), h1, hk, hg⟩
    obtain ⟨V, hV⟩ := Classical.axiomOfChoice hall
    have hmax : len ≤ 9223372036854775807 := by unfold maxLen at hm; omega
    have hlen : (List.ofFn fun i => (V i).1).length = len := List.length_ofFn
    refine ⟨List.ofFn fun i => (V i).1, ⟨some a, cap, by rw [hlen], by rw [hlen]; exact hl, rfl, by rw [hlen]; exact hmax, fun _ => ⟨a, rfl, ?_⟩⟩, by rw [hlen]; exact hmax, ?_⟩
    · intro j p hj
      have hjl : j < len := by
        have := (List.getElem?_eq_some_iff.1 hj).1
        omega
      rw [List.getElem?_ofFn, dif_pos hjl] at hj
      obtain rfl := Option.some.inj hj
      obtain ⟨h1, h2, _⟩ := hV ⟨j, hjl⟩
      obtain ⟨_, hlen2, hcell⟩ := World.cells?_some h1
      refine ⟨(V ⟨j, hjl⟩).2, by rw [← hc]; exact hlen2, h2, fun q u hu => ?_⟩
      have hq : q < P.cellsOf e := by
        have := (List.getElem?_eq_some_iff.1 hu).1
        omega
      have h3 := hcell q hq
      rw [Deep.add_add, hu, hc] at h3
      exact h3
    · intro x hx
      obtain ⟨i, rfl⟩ := List.mem_ofFn.1 hx
      exact (hV i).2.2
/-- Fields in line, from a place on. -/
def OpensF {α : Type} (P : Program) (d : Kd α) (fs : List Field) (off : Nat) (good : α → Prop) : Prop :=
  ∀ (H : Type) (enc : TypeId × Value → H) (w : World) (base : Nat) (spare : Nat → Bool) (held : Bool) (fuel : Nat) (cs : List Value), off + d.sz ≤ cs.length →
    (∀ f ∈ fs, ∃ x, DataW.trod enc P w base spare held fuel f.type ((cs.drop f.offset).take (P.cellsOf f.type)) = some x) → ∃ a, d.K w a ((cs.drop off).take d.sz) ∧ good a
theorem opensF_one {α : Type} {d : Kd α} {f : Field} {off : Nat} {g : α → Prop} (ho : f.offset = off) (hc : P.cellsOf f.type = d.sz) (h : Opens P d f.type g) : OpensF P d [f] off g := by
  intro H enc w base spare held fuel cs _ hf
  obtain ⟨x, hx⟩ := hf f (by simp)
  obtain ⟨a, hk, hg⟩ := h H enc w base spare held fuel _ x hx
  rw [ho, hc] at hk
  exact ⟨a, hk, hg⟩
theorem opensF_cons {α β : Type} {d : Kd α} {d' : Kd β} {f : Field} {fs : List Field} {off : Nat} {g : α → Prop} {g' : β → Prop} (ho : f.offset = off) (hc : P.cellsOf f.type = d.sz) (h : Opens P d f.type g) (h' : OpensF P d' fs (off + d.sz) g') :
    OpensF P (Kd.pair d d') (f :: fs) off (fun x => g x.1 ∧ g' x.2) := by
  intro H enc w base spare held fuel cs hl hf
  obtain ⟨x, hx⟩ := hf f (by simp)
  obtain ⟨a, hk, hg⟩ := h H enc w base spare held fuel _ x hx
  have hl2 : off + (d.sz + d'.sz) ≤ cs.length := hl
  obtain ⟨b, hk', hg'⟩ := h' H enc w base spare held fuel cs (by omega) (fun f' hf' => hf f' (by simp [hf']))
  rw [ho, hc] at hk
  refine ⟨(a, b), ⟨_, _, ?_, hk, hk'⟩, hg, hg'⟩
  show (cs.drop off).take (d.sz + d'.sz) = _
  rw [List.take_add, List.drop_drop]
theorem opens_struct {α β : Type} {t : TypeId} {fs : Array Field} {d : Kd α} {g : α → Prop} {f : β → α} (f' : α → β) (hf : ∀ a, f (f' a) = a) (ht : P.underlying t = some (.struct fs)) (hc : P.cellsOf t = d.sz) (h : OpensF P d fs.toList 0 g) :
    Opens P (Kd.iso d f) t (fun b => g (f b)) := by
  intro H enc w base spare held fuel cs x hx
  obtain ⟨xs, n, _, _, hl, hlen, hxs⟩ := DataW.trod_struct ht hx
  obtain ⟨a, hk, hg⟩ := h H enc w base spare held n cs (by omega) (fun y hy => by
    obtain ⟨i, hi⟩ := List.mem_iff_getElem?.1 hy
    have := hxs i y (by simpa using hi)
    have hlt : i < xs.length := by
      have := (List.getElem?_eq_some_iff.1 hi).1
      rw [hlen]
      simpa using this
    rw [List.getElem?_eq_getElem hlt] at this
    exact ⟨_, this⟩)
  rw [List.drop_zero, show d.sz = cs.length by omega, List.take_length] at hk
  exact ⟨f' a, by show d.K w (f (f' a)) cs; rw [hf]; exact hk, by show g (f (f' a)); rw [hf]; exact hg⟩
/-- A struct that comes in by value. -/
theorem arg_struct {α : Type} {d : Kd α} {t : TypeId} {fs : Array Field} {g : α → Prop} {H : Type} {enc : TypeId × Value → H} {w : World} {base b0 : Nat} {spare : Nat → Bool} {held : Bool} {r : Reach} {v : Value} {dd : DataW H} {p : List MemPlace}
    (ht : P.underlying t = some (.struct fs)) (h : Opens P d t g) (hv : Value.okWide P w r b0 t v) (hd : DataW.Trod enc P w base spare held t v dd p) : ∃ (a : α) (cs : List Value), v = .agg ⟨cs⟩ ∧ d.K w a cs ∧ g a := by
  obtain ⟨cs, rfl, _⟩ := okWide_struct ht hv
  obtain ⟨fuel, hf⟩ := hd
  obtain ⟨a, hk, hg⟩ := h H enc w base spare held fuel _ _ hf
  exact ⟨a, cs.toList, rfl, hk, hg⟩
/-- A slice that comes in. -/
theorem arg_slice {α : Type} {d : Kd α} {t e : TypeId} {g : List α → Prop} {H : Type} {enc : TypeId × Value → H} {w : World} {base b0 : Nat} {spare : Nat → Bool} {held : Bool} {r : Reach} {v : Value} {dd : DataW H} {p : List MemPlace}
    (ht : P.underlying t = some (.slice e)) (h : Opens P (Kd.slice e d) t g) (hv : Value.okWide P w r b0 t v) (hd : DataW.Trod enc P w base spare held t v dd p) :
    ∃ (l : List α) (A : Option Addr) (c : Nat), v = .slice A l.length c ∧ l.length ≤ c ∧ Kd.C d w A l.length l ∧ g l := by
  obtain ⟨a, len, cap, rfl⟩ := okWide_slice ht hv
  obtain ⟨fuel, hf⟩ := hd
  obtain ⟨l, ⟨A, c, he, hl, hc⟩, hg⟩ := h H enc w base spare held fuel _ _ hf
  simp [Value.cells] at he
  obtain ⟨rfl, rfl, rfl⟩ := he
  exact ⟨l, a, cap, rfl, hl, hc, hg⟩
end Go.Proofs.YtoceopjhacpjnaaW.PrintOpen
namespace Go.Proofs.Ytoceopjhacpjnaa.Q
open Go.RowKit Go.Proofs.YtoceopjhacpjnaaW.PrintWords Go.Proofs.YtoceopjhacpjnaaW.PrintLast Go.Proofs.YtoceopjhacpjnaaW.PrintMore Go.Proofs.YtoceopjhacpjnaaW.PrintOpen
def good23 (x_ : S23) : Prop := (x_.f0.size ≤ 9223372036854775807) ∧ ((x_.f1.size ≤ 9223372036854775807) ∧ ((True)))
theorem opens23 : Opens Try.prog k23 23 good23 :=
  opens_struct (f := (fun x : S23 => (x.f0, x.f1, x.f2))) (fun ⟨x0, x1, x2⟩ => ⟨x0, x1, x2⟩) (fun _ => rfl) Try.underlying23 (by kernel_rfl) (opensF_cons rfl (by kernel_rfl) (opens_string Try.underlying9) (opensF_cons rfl (by kernel_rfl) (opens_string Try.underlying9) (opensF_one rfl (by kernel_rfl) (opens_bool Try.underlying4))))
def good49 (x_ : S49) : Prop := (x_.f0.size ≤ 9223372036854775807) ∧ (((Lit.int .i64 x_.f1).wf = true))
theorem opens49 : Opens Try.prog k49 49 good49 :=
  opens_struct (f := (fun x : S49 => (x.f0, x.f1))) (fun ⟨x0, x1⟩ => ⟨x0, x1⟩) (fun _ => rfl) Try.underlying49 (by kernel_rfl) (opensF_cons rfl (by kernel_rfl) (opens_string Try.underlying9) (opensF_one rfl (by kernel_rfl) (opens_int Try.underlying3)))
def good105 (x_ : S105) : Prop := ((Lit.int .i64 x_.f0).wf = true) ∧ (((x_.f1.length ≤ 9223372036854775807 ∧ ∀ y0_ ∈ x_.f1, good49 y0_)))
theorem opens105 : Opens Try.prog k105 105 good105 :=
  opens_struct (f := (fun x : S105 => (x.f0, x.f1))) (fun ⟨x0, x1⟩ => ⟨x0, x1⟩) (fun _ => rfl) Try.underlying105 (by kernel_rfl) (opensF_cons rfl (by kernel_rfl) (opens_int Try.underlying3) (opensF_one rfl (by kernel_rfl) (opens_slice Try.underlying103 (by kernel_rfl) opens49)))
def good41 (x_ : S41) : Prop := ((x_.f0.length ≤ 9223372036854775807 ∧ ∀ y0_ ∈ x_.f0, good105 y0_)) ∧ (((Lit.int .i64 x_.f1).wf = true))
theorem opens41 : Opens Try.prog k41 41 good41 :=
  opens_struct (f := (fun x : S41 => (x.f0, x.f1))) (fun ⟨x0, x1⟩ => ⟨x0, x1⟩) (fun _ => rfl) Try.underlying41 (by kernel_rfl) (opensF_cons rfl (by kernel_rfl) (opens_slice Try.underlying39 (by kernel_rfl) opens105) (opensF_one rfl (by kernel_rfl) (opens_int Try.underlying3)))
end Go.Proofs.Ytoceopjhacpjnaa.Q
namespace Go.Proofs.Ytoceopjhacpjnaa.Q
/-- The one pure statement of FnExactTreeOK. -/
def laws_FnExactTreeOK.Pure : Prop := ∀ (x0 : S41), (good41 x0) → ∃ k, laws_FnExactTreeOK.f k x0.f0 x0.f1 = some true
end Go.Proofs.Ytoceopjhacpjnaa.Q
namespace Go.Proofs.YtoceopjhacpjnaaW.Pl
open Go Go.RowKit Go.Proofs.YtoceopjhacpjnaaW.PrintWords Go.Proofs.YtoceopjhacpjnaaW.PrintMore
theorem w64 {i : Int} (h0 : -9223372036854775808 ≤ i) (h1 : i ≤ 9223372036854775807) : wrap64 i = i := by unfold wrap64; omega
theorem fuel {k d : Nat} (h : d < k) : ∃ m, k = m + 1 ∧ d ≤ m := ⟨k - 1, by omega, by omega⟩
theorem rdOf_at {α : Type} (d : α) (xs : List α) (i : Nat) (h : i < xs.length) : rdOf d xs (i : Int) = xs[i] := by
  unfold rdOf
  simp [List.getD, h]
theorem rd_at (xs : List Int) (i : Nat) (h : i < xs.length) : rd xs (i : Int) = xs[i] := by
  unfold rd
  simp [List.getD, h]
theorem getD_at {α : Type} (d : α) (xs : List α) (i : Nat) (h : i < xs.length) : xs.getD (i : Int).toNat d = xs[i] := by
  simp [List.getD, h]
theorem drop_at {α : Type} (xs : List α) (i : Nat) (h : i < xs.length) : xs.drop i = xs[i] :: xs.drop (i + 1) := List.drop_eq_getElem_cons h
theorem ba_toList (a : ByteArray) : a.toList = a.data.toList := ByteArray.toList_eq a
theorem ba_ext {a b : ByteArray} (h : a.toList = b.toList) : a = b := by
  rw [ba_toList, ba_toList] at h
  cases a; cases b
  simp at h
  rw [h]
theorem ba_beq (a b : ByteArray) : (a.toList == b.toList) = decide (a = b) := by
  by_cases h : a = b
  · subst h; simp
  · have : ¬ a.toList = b.toList := fun e => h (ba_ext e)
    simp [h, this]
/-- A loop that fills a row, place by place. -/
theorem map_loop {α β : Type} (g : Nat → List β → Int → Option (List β)) (xs : List α) (c : α → β)
    (hstep : ∀ (k : Nat) (ys : List β) (i : Nat) (h : i < xs.length), ys.length = xs.length → g (k + 1) ys (i : Int) = g k (ys.set i (c xs[i])) ((i + 1 : Nat) : Int))
    (hend : ∀ (k : Nat) (ys : List β), ys.length = xs.length → g (k + 1) ys (xs.length : Int) = some ys) :
    ∀ (d k i : Nat) (ys : List β), i + d = xs.length → d < k → ys.length = xs.length → g k ys (i : Int) = some (ys.take i ++ (xs.drop i).map c) := by
  intro d
  induction d with
  | zero =>
    intro k i ys hi hk hy
    obtain ⟨k, rfl, _⟩ := fuel hk
    obtain rfl : i = xs.length := by omega
    rw [hend k ys hy, List.drop_length, List.take_of_length_le (by omega)]
    simp
  | succ d ih =>
    intro k i ys hi hk hy
    obtain ⟨k, rfl, _⟩ := fuel hk
    have hlt : i < xs.length := by omega
    have ht : (ys.set i (c xs[i])).take (i + 1) = ys.take i ++ [c xs[i]] := by
      rw [List.take_succ_eq_append_getElem (by simp; omega), List.getElem_set_self, List.take_set_of_le (Nat.le_refl _)]
    rw [hstep k ys i hlt hy, ih k (i + 1) _ (by omega) (by omega) (by simp [hy]), ht, drop_at xs i hlt, List.map_cons, List.append_assoc]
    rfl
theorem map_loop0 {α β : Type} (g : Nat → List β → Int → Option (List β)) (xs : List α) (c : α → β)
    (hstep : ∀ (k : Nat) (ys : List β) (i : Nat) (h : i < xs.length), ys.length = xs.length → g (k + 1) ys (i : Int) = g k (ys.set i (c xs[i])) ((i + 1 : Nat) : Int))
    (hend : ∀ (k : Nat) (ys : List β), ys.length = xs.length → g (k + 1) ys (xs.length : Int) = some ys) {k : Nat} (hk : xs.length < k) (z : β) : g k (List.replicate xs.length z) 0 = some (xs.map c) := by
  have := map_loop g xs c hstep hend xs.length k 0 (List.replicate xs.length z) (by omega) hk (by simp)
  simpa using this
/-- Two rows, place by place. -/
def all2 {α β : Type} (e : α → β → Bool) : List α → List β → Bool
  | [], _ => true
  | _ :: _, [] => true
  | x :: xs, y :: ys => e x y && all2 e xs ys
theorem all2_loop {α β : Type} (g : Nat → Int → Option Bool) (xs : List α) (ys : List β) (hl : xs.length = ys.length) (e : α → β → Bool)
    (hstep : ∀ (k i : Nat) (h : i < xs.length), g (k + 1) (i : Int) = if e xs[i] (ys[i]'(hl ▸ h)) = true then g k ((i + 1 : Nat) : Int) else some false)
    (hend : ∀ k, g (k + 1) (xs.length : Int) = some true) : ∀ (d k i : Nat), i + d = xs.length → d < k → g k (i : Int) = some (all2 e (xs.drop i) (ys.drop i)) := by
  intro d
  induction d with
  | zero =>
    intro k i hi hk
    obtain ⟨k, rfl, _⟩ := fuel hk
    obtain rfl : i = xs.length := by omega
    rw [hend, List.drop_length]; rfl
  | succ d ih =>
    intro k i hi hk
    obtain ⟨k, rfl, _⟩ := fuel hk
    have hlt : i < xs.length := by omega
    rw [hstep k i hlt, drop_at xs i hlt, drop_at ys i (by omega)]
    by_cases h : e xs[i] (ys[i]'(hl ▸ hlt)) = true
    · rw [if_pos h, ih k (i + 1) (by omega) (by omega)]
      simp [all2, h]
    · rw [if_neg h]
      simp [all2, h]
theorem all2_refl {α : Type} (e : α → α → Bool) (h : ∀ x, e x x = true) : ∀ xs : List α, all2 e xs xs = true
  | [] => rfl
  | x :: xs => by simp [all2, h x, all2_refl e h xs]
theorem all2_eq {α : Type} (e : α → α → Bool) (h : ∀ x y, e x y = true ↔ x = y) : ∀ xs ys : List α, xs.length = ys.length → (all2 e xs ys = true ↔ xs = ys)
  | [], [], _ => by simp [all2]
  | [], _ :: _, hl => by simp at hl
  | _ :: _, [], hl => by simp at hl
  | x :: xs, y :: ys, hl => by simp [all2, h x y, all2_eq e h xs ys (by simpa using hl)]
/-- A loop that asks each place, till one says no. -/
theorem all_loop {α : Type} (g : Nat → Int → Option Bool) (xs : List α) (q : α → Bool)
    (hstep : ∀ (k i : Nat) (h : i < xs.length), g (k + 1) (i : Int) = if q xs[i] = true then g k ((i + 1 : Nat) : Int) else some false)
    (hend : ∀ k, g (k + 1) (xs.length : Int) = some true) : ∀ (d k i : Nat), i + d = xs.length → d < k → g k (i : Int) = some ((xs.drop i).all q) := by
  intro d
  induction d with
  | zero =>
    intro k i hi hk
    obtain ⟨k, rfl, _⟩ := fuel hk
    obtain rfl : i = xs.length := by omega
    rw [hend, List.drop_length]; rfl
  | succ d ih =>
    intro k i hi hk
    obtain ⟨k, rfl, _⟩ := fuel hk
    have hlt : i < xs.length := by omega
    rw [hstep k i hlt, drop_at xs i hlt]
    by_cases h : q xs[i] = true
    · rw [if_pos h, ih k (i + 1) (by omega) (by omega), List.all_cons, h, Bool.true_and]
    · rw [if_neg h, List.all_cons, Bool.eq_false_iff.mpr h, Bool.false_and]
/-- A loop that looks for the first place at which p holds. -/
def first {α : Type} (p : α → Bool) : List α → Nat → Int
  | [], _ => -1
  | x :: xs, i => if p x = true then i else first p xs (i + 1)
theorem first_any {α : Type} (p : α → Bool) : ∀ (xs : List α) (i : Nat), decide (first p xs i ≥ 0) = xs.any p
  | [], i => rfl
  | x :: xs, i => by
    by_cases h : p x = true
    · simp [first, h]
    · simp only [first, if_neg h, List.any_cons, first_any p xs (i + 1)]
      simp [h]
theorem first_loop {α : Type} (g : Nat → Int → Option Int) (xs : List α) (p : α → Bool)
    (hstep : ∀ (k i : Nat) (h : i < xs.length), g (k + 1) (i : Int) = if p xs[i] = true then some (i : Int) else g k ((i + 1 : Nat) : Int))
    (hend : ∀ k, g (k + 1) (xs.length : Int) = some (-1)) : ∀ (d k i : Nat), i + d = xs.length → d < k → g k (i : Int) = some (first p (xs.drop i) i) := by
  intro d
  induction d with
  | zero =>
    intro k i hi hk
    obtain ⟨k, rfl, _⟩ := fuel hk
    obtain rfl : i = xs.length := by omega
    rw [hend, List.drop_length]; rfl
  | succ d ih =>
    intro k i hi hk
    obtain ⟨k, rfl, _⟩ := fuel hk
    have hlt : i < xs.length := by omega
    rw [hstep k i hlt, drop_at xs i hlt]
    by_cases h : p xs[i] = true
    · rw [if_pos h]
      simp [first, h]
    · rw [if_neg h, ih k (i + 1) (by omega) (by omega)]
      simp [first, h]
/-- A loop that takes sizes off a number, till it falls below nought. -/
def total {α : Type} (s : α → Nat) : List α → Nat
  | [] => 0
  | x :: xs => s x + total s xs
theorem total_le {α : Type} (s : α → Nat) : ∀ (xs : List α) (x : α), x ∈ xs → s x ≤ total s xs
  | _ :: xs, x, h => by
    rcases List.mem_cons.1 h with rfl | h
    · simp [total]
    · have := total_le s xs x h
      simp [total]; omega
def less {α : Type} (s : α → Nat) : List α → Int → Int
  | [], l => l
  | x :: xs, l => if l - s x < 0 then -1 else less s xs (l - s x)
theorem less_is {α : Type} (s : α → Nat) : ∀ (xs : List α) (l : Int), 0 ≤ l → less s xs l = if l < total s xs then -1 else l - total s xs
  | [], l, h => by simp [less, total]; omega
  | x :: xs, l, h => by
    have ht : ((total s (x :: xs) : Nat) : Int) = s x + total s xs := by simp [total]
    rw [ht]
    simp only [less]
    by_cases h1 : l - s x < 0
    · rw [if_pos h1, if_pos (by omega)]
    · rw [if_neg h1, less_is s xs _ (by omega)]
      by_cases h2 : l < s x + total s xs
      · rw [if_pos (by omega), if_pos (by omega)]
      · rw [if_neg (by omega), if_neg (by omega)]; omega
theorem less_loop {α : Type} (g : Nat → Int → Int → Option Int) (xs : List α) (s : α → Nat)
    (hstep : ∀ (k i : Nat) (l : Int) (h : i < xs.length), 0 ≤ l → l ≤ 1048576 → g (k + 1) l (i : Int) = if l - s xs[i] < 0 then some (-1) else g k (l - s xs[i]) ((i + 1 : Nat) : Int))
    (hend : ∀ k l, g (k + 1) l (xs.length : Int) = some l) : ∀ (d k i : Nat) (l : Int), i + d = xs.length → d < k → 0 ≤ l → l ≤ 1048576 → g k l (i : Int) = some (less s (xs.drop i) l) := by
  intro d
  induction d with
  | zero =>
    intro k i l hi hk h0 h1
    obtain ⟨k, rfl, _⟩ := fuel hk
    obtain rfl : i = xs.length := by omega
    rw [hend, List.drop_length]; rfl
  | succ d ih =>
    intro k i l hi hk h0 h1
    obtain ⟨k, rfl, _⟩ := fuel hk
    have hlt : i < xs.length := by omega
    rw [hstep k i l hlt h0 h1, drop_at xs i hlt]
    by_cases h : l - s xs[i] < 0
    · rw [if_pos h]; simp [less, h]
    · rw [if_neg h, ih k (i + 1) _ (by omega) (by omega) (by omega) (by omega)]
      simp [less, h]
end Go.Proofs.YtoceopjhacpjnaaW.Pl
namespace Go.Proofs.YtoceopjhacpjnaaW.Pl
open Go Go.RowKit Go.Proofs.YtoceopjhacpjnaaW.PrintWords Go.Proofs.YtoceopjhacpjnaaW.PrintMore
/-- From some fuel on, g answers v. -/
def Eve {α : Type} (g : Nat → Option α) (v : α) : Prop := ∃ K, ∀ k, K ≤ k → g k = some v
theorem Eve.one {α : Type} {v : α} : Eve (fun _ => some v) v := ⟨0, fun _ _ => rfl⟩
theorem Eve.all {α : Type} {g : Nat → Option α} {v : α} (h : ∀ k, g k = some v) : Eve g v := ⟨0, fun k _ => h k⟩
theorem Eve.of {α : Type} {g : Nat → Option α} {v : α} {n : Nat} (h : ∀ k, n < k → g k = some v) : Eve g v := ⟨n + 1, fun k hk => h k (by omega)⟩
theorem Eve.succ {α : Type} {g : Nat → Option α} {v : α} (h : Eve (fun k => g (k + 1)) v) : Eve g v := by
  obtain ⟨K, h⟩ := h
  refine ⟨K + 1, fun k hk => ?_⟩
  obtain ⟨k, rfl⟩ : ∃ m, k = m + 1 := ⟨k - 1, by omega⟩
  exact h k (by omega)
theorem Eve.bind {α β : Type} {g : Nat → Option α} {f : Nat → α → Option β} {v : α} {u : β} (h : Eve g v) (h2 : Eve (fun k => f k v) u) : Eve (fun k => (g k).bind (f k)) u := by
  obtain ⟨K, h⟩ := h
  obtain ⟨K2, h2⟩ := h2
  refine ⟨max K K2, fun k hk => ?_⟩
  show (g k).bind (f k) = some u
  rw [h k (by omega), Option.bind_some]
  exact h2 k (by omega)
theorem Eve.ite {α : Type} {c : Prop} [Decidable c] {a b : Nat → Option α} {v : α} (h1 : c → Eve a v) (h2 : ¬ c → Eve b v) : Eve (fun k => if c then a k else b k) v := by
  by_cases h : c
  · simp only [if_pos h]; exact h1 h
  · simp only [if_neg h]; exact h2 h
theorem Eve.get {α : Type} {g : Nat → Option α} {v : α} (h : Eve g v) : ∃ k, g k = some v := by
  obtain ⟨K, h⟩ := h
  exact ⟨K, h K (by omega)⟩
theorem Eve.eq {α : Type} {g : Nat → Option α} {v u : α} (h : Eve g v) (e : v = u) : Eve g u := e ▸ h
theorem Eve.congr {α : Type} {g f : Nat → Option α} {v : α} (h : Eve g v) (e : ∀ k, f k = g k) : Eve f v := by
  obtain ⟨K, h⟩ := h
  exact ⟨K, fun k hk => by rw [e, h k hk]⟩
/-- A loop over a row: R tells what is left to be answered at place i. -/
theorem ev_loop {σ α β : Type} (xs : List α) (g : Nat → σ → Int → Option β) (R : Nat → σ → List α → β) (I : Nat → σ → Prop)
    (hend : ∀ s, I xs.length s → Eve (fun k => g (k + 1) s (xs.length : Int)) (R xs.length s []))
    (hstep : ∀ (i : Nat) (h : i < xs.length) (s : σ), I i s → (∀ s', I (i + 1) s' → Eve (fun k => g k s' ((i + 1 : Nat) : Int)) (R (i + 1) s' (xs.drop (i + 1)))) →
      Eve (fun k => g (k + 1) s (i : Int)) (R i s (xs[i] :: xs.drop (i + 1)))) :
    ∀ (d i : Nat) (s : σ), i + d = xs.length → I i s → Eve (fun k => g k s (i : Int)) (R i s (xs.drop i)) := by
  intro d
  induction d with
  | zero =>
    intro i s hi hI
    obtain rfl : i = xs.length := by omega
    rw [List.drop_length]
    exact Eve.succ (hend s hI)
  | succ d ih =>
    intro i s hi hI
    have hlt : i < xs.length := by omega
    rw [drop_at xs i hlt]
    exact Eve.succ (hstep i hlt s hI (fun s' h' => ih (i + 1) s' (by omega) h'))
theorem ev_loop0 {σ α β : Type} (xs : List α) (g : Nat → σ → Int → Option β) (R : Nat → σ → List α → β) (I : Nat → σ → Prop)
    (hend : ∀ s, I xs.length s → Eve (fun k => g (k + 1) s (xs.length : Int)) (R xs.length s []))
    (hstep : ∀ (i : Nat) (h : i < xs.length) (s : σ), I i s → (∀ s', I (i + 1) s' → Eve (fun k => g k s' ((i + 1 : Nat) : Int)) (R (i + 1) s' (xs.drop (i + 1)))) →
      Eve (fun k => g (k + 1) s (i : Int)) (R i s (xs[i] :: xs.drop (i + 1)))) (s : σ) (h0 : I 0 s) : Eve (fun k => g k s 0) (R 0 s xs) := by
  have := ev_loop xs g R I hend hstep xs.length 0 s (by omega) h0
  simpa using this
/-- A loop that fills a row. -/
theorem ev_map {α β : Type} (xs : List α) (g : Nat → List β → Int → Option (List β)) (c : α → β) (z : β)
    (hend : ∀ ys, ys.length = xs.length → Eve (fun k => g (k + 1) ys (xs.length : Int)) ys)
    (hstep : ∀ (i : Nat) (h : i < xs.length) (ys : List β) (v : List β), ys.length = xs.length → Eve (fun k => g k (ys.set i (c xs[i])) ((i + 1 : Nat) : Int)) v → Eve (fun k => g (k + 1) ys (i : Int)) v) :
    Eve (fun k => g k (List.replicate xs.length z) 0) (xs.map c) := by
  have := ev_loop0 xs g (fun i ys rest => ys.take i ++ rest.map c) (fun _ ys => ys.length = xs.length) (fun ys hy => by
    rw [List.take_of_length_le (by omega)]; simpa using hend ys hy) (fun i hi ys hy ih => by
    refine hstep i hi ys _ hy ((ih _ (by simp [hy])).eq ?_)
    show (ys.set i (c xs[i])).take (i + 1) ++ (xs.drop (i + 1)).map c = ys.take i ++ (xs[i] :: xs.drop (i + 1)).map c
    rw [List.take_succ_eq_append_getElem (by simp; omega), List.getElem_set_self, List.take_set_of_le (Nat.le_refl _), List.map_cons, List.append_assoc]
    rfl) (List.replicate xs.length z) (by simp)
  simpa using this
/-- A loop that asks each place. -/
theorem ev_all {α : Type} (xs : List α) (g : Nat → Int → Option Bool) (q : α → Bool)
    (hend : Eve (fun k => g (k + 1) (xs.length : Int)) true)
    (hstep : ∀ (i : Nat) (h : i < xs.length) (v : Bool), Eve (fun k => g k ((i + 1 : Nat) : Int)) v → Eve (fun k => g (k + 1) (i : Int)) (q xs[i] && v)) : Eve (fun k => g k 0) (xs.all q) :=
  ev_loop0 xs (fun k (_ : Unit) i => g k i) (fun _ _ r => r.all q) (fun _ _ => True) (fun _ _ => hend) (fun i hi s _ ih => by
    rw [List.all_cons]; exact hstep i hi _ (ih () trivial)) () trivial
/-- A loop over two rows of one length. -/
theorem ev_all2 {α β : Type} (xs : List α) (ys : List β) (hl : xs.length = ys.length) (g : Nat → Int → Option Bool) (e : α → β → Bool)
    (hend : Eve (fun k => g (k + 1) (xs.length : Int)) true)
    (hstep : ∀ (i : Nat) (h : i < xs.length) (v : Bool), Eve (fun k => g k ((i + 1 : Nat) : Int)) v → Eve (fun k => g (k + 1) (i : Int)) (e xs[i] (ys[i]'(hl ▸ h)) && v)) : Eve (fun k => g k 0) (all2 e xs ys) := by
  have := ev_loop0 xs (fun k (_ : Unit) i => g k i) (fun i _ r => all2 e r (ys.drop i)) (fun _ _ => True) (fun _ _ => by simpa [all2] using hend) (fun i hi s _ ih => by
    rw [drop_at ys i (by omega)]
    show Eve _ (e xs[i] (ys[i]'(hl ▸ hi)) && all2 e (xs.drop (i + 1)) (ys.drop (i + 1)))
    exact hstep i hi _ (ih () trivial)) () trivial
  simpa using this
/-- A loop that takes sizes off a number. -/
theorem ev_less {α : Type} (xs : List α) (g : Nat → Int → Int → Option Int) (s : α → Nat)
    (hend : ∀ l, Eve (fun k => g (k + 1) l (xs.length : Int)) l)
    (hstep : ∀ (i : Nat) (h : i < xs.length) (l v : Int), 0 ≤ l → l ≤ 1048576 → (0 ≤ l - s xs[i] → Eve (fun k => g k (l - s xs[i]) ((i + 1 : Nat) : Int)) v) → Eve (fun k => g (k + 1) l (i : Int)) (if l - s xs[i] < 0 then -1 else v))
    {l : Int} (h0 : 0 ≤ l) (h1 : l ≤ 1048576) : Eve (fun k => g k l 0) (if l - total s xs < 0 then -1 else l - total s xs) := by
  have := ev_loop0 xs g (fun _ l r => less s r l) (fun _ l => 0 ≤ l ∧ l ≤ 1048576) (fun l _ => hend l) (fun i hi l hI ih => by
    refine (hstep i hi l _ hI.1 hI.2 (fun h => ih (l - s xs[i]) ⟨h, by omega⟩)).eq ?_
    rfl) l ⟨h0, h1⟩
  rw [less_is s xs l h0] at this
  by_cases h : l < total s xs
  · rw [if_pos h] at this; rw [if_pos (by omega)]; exact this
  · rw [if_neg h] at this; rw [if_neg (by omega)]; exact this
end Go.Proofs.YtoceopjhacpjnaaW.Pl
namespace Go.Proofs.Ytoceopjhacpjnaa.Pure
open Go.RowKit Go.Proofs.Ytoceopjhacpjnaa.Q Go.Proofs.YtoceopjhacpjnaaW.PrintWords Go.Proofs.YtoceopjhacpjnaaW.PrintLast Go.Proofs.YtoceopjhacpjnaaW.Pl
abbrev LEnt := S49
abbrev IEnt := S52
abbrev LPag := S105
abbrev IPag := S76
def ie (e : LEnt) : IEnt := ⟨e.f0, e.f1⟩
def ip (p : LPag) : IPag := ⟨p.f0, p.f1.map ie⟩
theorem wi {i : Nat} (h : i ≤ 9223372036854775806) : wrap64 ((i : Int) + 1) = ((i + 1 : Nat) : Int) := w64 (by omega) (by omega)
theorem rdLE (l : List LEnt) (i : Nat) (h : i < l.length) : rd_T49 l (i : Int) = l[i] := getD_at _ l i h
theorem rdIE (l : List IEnt) (i : Nat) (h : i < l.length) : rd_T52 l (i : Int) = l[i] := getD_at _ l i h
theorem rdLP (l : List LPag) (i : Nat) (h : i < l.length) : rd_T105 l (i : Int) = l[i] := getD_at _ l i h
theorem rdIP (l : List IPag) (i : Nat) (h : i < l.length) : rd_T76 l (i : Int) = l[i] := getD_at _ l i h
theorem szEntry_tells (e : LEnt) (h : e.f0.size ≤ 9223372036854775807) {left : Int} (h0 : 0 ≤ left) (h1 : left ≤ 1048576) :
    laws_szEntry.f e.f0 e.f1 left = some (if left - e.f0.size < 0 then -1 else left - e.f0.size) := by
  unfold laws_szEntry.f
  rw [w64 (by omega) (by omega)]
  split <;> rfl
def szES (l : List LEnt) : Nat := l.length + total (fun e => e.f0.size) l
theorem szEntryS_tells (l : List LEnt) (hl : l.length ≤ 9223372036854775807) (hs : ∀ x ∈ l, x.f0.size ≤ 9223372036854775807) {left : Int} (h0 : 0 ≤ left) (h1 : left ≤ 1048576) :
    Eve (fun k => laws_szEntryS.f k l left) (if left - szES l < 0 then -1 else left - szES l) := by
  simp only [laws_szEntryS.f]
  rw [w64 (by omega) (by omega)]
  refine Eve.ite (fun h => Eve.one.eq ?_) (fun h => ?_)
  · rw [if_pos (by simp [szES]; omega)]
  refine (ev_less l (fun k l' i => laws_szEntryS.l0 k l l' i) (fun e => e.f0.size) (fun l' => ?_) (fun i hi l' v a b ih => ?_) (by omega) (by omega)).eq ?_
  · simp only [laws_szEntryS.l0]
    exact Eve.ite (fun h => absurd h (by omega)) (fun _ => Eve.one)
  · have hsz := hs l[i] (List.getElem_mem hi)
    simp only [laws_szEntryS.l0]
    refine Eve.ite (fun _ => ?_) (fun h => absurd h (by omega))
    refine Eve.ite (fun _ => ?_) (fun h => absurd h (by omega))
    simp only [rdLE _ _ hi, szEntry_tells _ hsz a b, Option.bind_some, wi (show i ≤ 9223372036854775806 by omega)]
    by_cases h2 : l' - (l[i].f0.size : Int) < 0
    · simp only [if_pos h2]
      exact Eve.ite (fun _ => Eve.one) (fun h => absurd h (by omega))
    · simp only [if_neg h2]
      exact ih (by omega)
  · have : ((szES l : Nat) : Int) = l.length + total (fun e => e.f0.size) l := by simp [szES]
    rw [this, Int.sub_sub]
theorem szPage_tells (p : LPag) (hl : p.f1.length ≤ 9223372036854775807) (hs : ∀ x ∈ p.f1, x.f0.size ≤ 9223372036854775807) {left : Int} (h0 : 0 ≤ left) (h1 : left ≤ 1048576) :
    Eve (fun k => laws_szPage.f k p.f0 p.f1 left) (if left - szES p.f1 < 0 then -1 else left - szES p.f1) := by
  simp only [laws_szPage.f]
  refine Eve.bind (szEntryS_tells p.f1 hl hs h0 h1) ?_
  by_cases h : left - szES p.f1 < 0
  · simp only [if_pos h]; exact Eve.ite (fun _ => Eve.one) (fun h => absurd h (by omega))
  · simp only [if_neg h]; exact Eve.one
def goodP (p : LPag) : Prop := p.f1.length ≤ 9223372036854775807 ∧ ∀ x ∈ p.f1, x.f0.size ≤ 9223372036854775807
def szPS (l : List LPag) : Nat := l.length + total (fun p => szES p.f1) l
theorem szPageS_tells (l : List LPag) (hl : l.length ≤ 9223372036854775807) (hs : ∀ x ∈ l, goodP x) {left : Int} (h0 : 0 ≤ left) (h1 : left ≤ 1048576) :
    Eve (fun k => laws_szPageS.f k l left) (if left - szPS l < 0 then -1 else left - szPS l) := by
  simp only [laws_szPageS.f]
  rw [w64 (by omega) (by omega)]
  refine Eve.ite (fun h => Eve.one.eq ?_) (fun h => ?_)
  · rw [if_pos (by simp [szPS]; omega)]
  refine (ev_less l (fun k l' i => laws_szPageS.l0 k l l' i) (fun p => szES p.f1) (fun l' => ?_) (fun i hi l' v a b ih => ?_) (by omega) (by omega)).eq ?_
  · simp only [laws_szPageS.l0]
    exact Eve.ite (fun h => absurd h (by omega)) (fun _ => Eve.one)
  · have hsz := hs l[i] (List.getElem_mem hi)
    simp only [laws_szPageS.l0]
    refine Eve.ite (fun _ => ?_) (fun h => absurd h (by omega))
    refine Eve.ite (fun _ => ?_) (fun h => absurd h (by omega))
    simp only [rdLP _ _ hi, wi (show i ≤ 9223372036854775806 by omega)]
    refine Eve.bind (szPage_tells l[i] hsz.1 hsz.2 a b) ?_
    by_cases h2 : l' - (szES l[i].f1 : Int) < 0
    · simp only [if_pos h2]
      exact Eve.ite (fun _ => Eve.one) (fun h => absurd h (by omega))
    · simp only [if_neg h2]
      exact ih (by omega)
  · have : ((szPS l : Nat) : Int) = l.length + total (fun p => szES p.f1) l := by simp [szPS]
    rw [this, Int.sub_sub]
theorem szTree_tells (l : List LPag) (n : Int) (hl : l.length ≤ 9223372036854775807) (hs : ∀ x ∈ l, goodP x) {left : Int} (h0 : 0 ≤ left) (h1 : left ≤ 1048576) :
    Eve (fun k => laws_szTree.f k l n left) (if left - szPS l < 0 then -1 else left - szPS l) := by
  simp only [laws_szTree.f]
  refine Eve.bind (szPageS_tells l hl hs h0 h1) ?_
  by_cases h : left - szPS l < 0
  · simp only [if_pos h]; exact Eve.ite (fun _ => Eve.one) (fun h => absurd h (by omega))
  · simp only [if_neg h]; exact Eve.one
/-- the tree is within the law's limit -/
def Fits (l : List LPag) : Prop := szPS l ≤ 1048576
theorem Fits.len {l : List LPag} (h : Fits l) : l.length ≤ 1048576 := by unfold Fits szPS at h; omega
theorem Fits.page {l : List LPag} (h : Fits l) (p : LPag) (hp : p ∈ l) : p.f1.length ≤ 1048576 := by
  unfold Fits szPS at h
  have := total_le (fun p => szES p.f1) l p hp
  simp only [szES] at this
  unfold szES at h
  omega
theorem flat_le : ∀ l : List LPag, (l.flatMap (·.f1)).length ≤ total (fun p => szES p.f1) l
  | [] => by simp
  | p :: l => by
    have := flat_le l
    simp [total, szES] at *
    omega
theorem Fits.flat {l : List LPag} (h : Fits l) : (l.flatMap (·.f1)).length ≤ 1048576 := by
  have := flat_le l
  unfold Fits szPS at h
  omega
theorem toEntryS_tells (l : List LEnt) (hl : l.length ≤ 1048576) : Eve (fun k => laws_toEntryS.f k l) (l.map ie) := by
  simp only [laws_toEntryS.f]
  refine Eve.ite (fun _ => ?_) (fun h => absurd h (by omega))
  refine Eve.ite (fun _ => ?_) (fun h => absurd h (by omega))
  refine (ev_map l (fun k ys i => laws_toEntryS.l0 k l ys i) ie z52 (fun ys hy => ?_) (fun i hi ys v hy ih => ?_))
  · simp only [laws_toEntryS.l0]
    exact Eve.ite (fun h => absurd h (by omega)) (fun _ => Eve.one)
  · simp only [laws_toEntryS.l0]
    refine Eve.ite (fun _ => ?_) (fun h => absurd h (by omega))
    refine Eve.ite (fun _ => ?_) (fun h => absurd h (by omega))
    simp only [rdLE _ _ hi, laws_toEntry.f, Option.bind_some, wi (show i ≤ 9223372036854775806 by omega)]
    refine Eve.ite (fun _ => ?_) (fun h => absurd h (by omega))
    exact ih
theorem toPage_tells (p : LPag) (hl : p.f1.length ≤ 1048576) : Eve (fun k => laws_toPage.f k p.f0 p.f1) (p.f0, p.f1.map ie) := by
  simp only [laws_toPage.f]
  exact Eve.bind (toEntryS_tells p.f1 hl) Eve.one
theorem toPageS_tells (l : List LPag) (hl : l.length ≤ 1048576) (hs : ∀ p ∈ l, p.f1.length ≤ 1048576) : Eve (fun k => laws_toPageS.f k l) (l.map ip) := by
  simp only [laws_toPageS.f]
  refine Eve.ite (fun _ => ?_) (fun h => absurd h (by omega))
  refine Eve.ite (fun _ => ?_) (fun h => absurd h (by omega))
  refine (ev_map l (fun k ys i => laws_toPageS.l0 k l ys i) ip z76 (fun ys hy => ?_) (fun i hi ys v hy ih => ?_))
  · simp only [laws_toPageS.l0]
    exact Eve.ite (fun h => absurd h (by omega)) (fun _ => Eve.one)
  · simp only [laws_toPageS.l0]
    refine Eve.ite (fun _ => ?_) (fun h => absurd h (by omega))
    refine Eve.ite (fun _ => ?_) (fun h => absurd h (by omega))
    simp only [rdLP _ _ hi, wi (show i ≤ 9223372036854775806 by omega)]
    refine Eve.bind (toPage_tells l[i] (hs _ (List.getElem_mem hi))) ?_
    refine Eve.ite (fun _ => ?_) (fun h => absurd h (by omega))
    exact ih
theorem toTree_tells (l : List LPag) (n : Int) (h : Fits l) : Eve (fun k => laws_toTree.f k l n) (l.map ip, n) := by
  simp only [laws_toTree.f]
  exact Eve.bind (toPageS_tells l h.len h.page) Eve.one
theorem eqEntryS_self (l : List IEnt) (hl : l.length ≤ 1048576) : Eve (fun k => laws_eqEntryS.f k l l) true := by
  simp only [laws_eqEntryS.f, if_true]
  refine (ev_all l (fun k i => laws_eqEntryS.l0 k l l i) (fun _ => true) ?_ (fun i hi v ih => ?_)).eq (by simp)
  · simp only [laws_eqEntryS.l0]
    exact Eve.ite (fun h => absurd h (by omega)) (fun _ => Eve.one)
  · simp only [laws_eqEntryS.l0]
    refine Eve.ite (fun _ => ?_) (fun h => absurd h (by omega))
    refine Eve.ite (fun _ => ?_) (fun h => absurd h (by omega))
    simp only [laws_eqEntry.f, if_true, Option.bind_some, wi (show i ≤ 9223372036854775806 by omega), Bool.true_and]
    exact Eve.ite (fun _ => ih) (fun h => absurd (by omega) h)
theorem eqPageS_self (l : List IPag) (hl : l.length ≤ 1048576) (hs : ∀ p ∈ l, p.f1.length ≤ 1048576) : Eve (fun k => laws_eqPageS.f k l l) true := by
  simp only [laws_eqPageS.f, if_true]
  refine (ev_all l (fun k i => laws_eqPageS.l0 k l l i) (fun _ => true) ?_ (fun i hi v ih => ?_)).eq (by simp)
  · simp only [laws_eqPageS.l0]
    exact Eve.ite (fun h => absurd h (by omega)) (fun _ => Eve.one)
  · simp only [laws_eqPageS.l0]
    refine Eve.ite (fun _ => ?_) (fun h => absurd h (by omega))
    refine Eve.ite (fun _ => ?_) (fun h => absurd h (by omega))
    refine Eve.ite (fun _ => ?_) (fun h => absurd (by omega) h)
    simp only [rdIP _ _ hi, laws_eqPage.f, if_true, Bool.true_and, wi (show i ≤ 9223372036854775806 by omega)]
    refine Eve.bind (v := true) (Eve.bind (eqEntryS_self _ (hs _ (List.getElem_mem hi))) ?_) ?_
    · simp only [if_true]; exact Eve.one
    · simp only [if_true]; exact ih
theorem eqTree_self (l : List IPag) (n : Int) (hl : l.length ≤ 1048576) (hs : ∀ p ∈ l, p.f1.length ≤ 1048576) : Eve (fun k => laws_eqTree.f k l n l n) true := by
  simp only [laws_eqTree.f, if_true]
  refine Eve.bind (eqPageS_self l hl hs) ?_
  simp only [if_true]; exact Eve.one
theorem eqTree_to (l : List LPag) (n : Int) (h : Fits l) : Eve (fun k => laws_eqTree.f k (l.map ip) n (l.map ip) n) true := by
  refine eqTree_self _ n (by simpa using h.len) (fun p hp => ?_)
  obtain ⟨q, hq, rfl⟩ := List.mem_map.1 hp
  simpa [ip] using h.page q hq
theorem good_pages {l : List LPag} (h : l.length ≤ 9223372036854775807 ∧ ∀ y ∈ l, good105 y) : ∀ p ∈ l, goodP p :=
  fun p hp => ⟨(h.2 p hp).2.1, fun e he => ((h.2 p hp).2.2 e he).1⟩
end Go.Proofs.Ytoceopjhacpjnaa.Pure
namespace Go.Proofs.Ytoceopjhacpjnaa.Pure
open Go.RowKit Go.Proofs.Ytoceopjhacpjnaa.Q Go.Proofs.YtoceopjhacpjnaaW.PrintWords Go.Proofs.YtoceopjhacpjnaaW.PrintLast Go.Proofs.YtoceopjhacpjnaaW.PrintMore Go.Proofs.YtoceopjhacpjnaaW.Pl
/-- an order of texts, as two functions tell it -/
theorem cb_is : ∀ x y : List UInt8, Lib.compareBytes x y = if Op.bytesLess x y = true then -1 else if x = y then 0 else 1
  | [], [] => by simp [Lib.compareBytes, Op.bytesLess]
  | [], _ :: _ => by simp [Lib.compareBytes, Op.bytesLess]
  | _ :: _, [] => by simp [Lib.compareBytes, Op.bytesLess]
  | a :: x, b :: y => by
    simp only [Lib.compareBytes, Op.bytesLess]
    rw [cb_is x y]
    by_cases h : a < b
    · simp [h]
    · by_cases h2 : b < a
      · have h3 : ¬ a = b := by rintro rfl; exact h h2
        simp [h, h2, h3]
      · have h3 : a = b := by
          apply UInt8.toNat_inj.mp
          rw [UInt8.lt_iff_toNat_lt] at h h2
          omega
        subst h3
        simp [h]
/-- e comes before f -/
def el (a b : IEnt) : Bool := Op.bytesLess a.f0.toList b.f0.toList || (decide (a.f0.toList = b.f0.toList) && decide (a.f1 < b.f1))
theorem less_tells (a b : IEnt) : spec_l05Less.f a.f0 a.f1 b.f0 b.f1 = some (el a b) := by
  unfold spec_l05Less.f el
  by_cases h : Op.bytesLess a.f0.toList b.f0.toList = true
  · rw [if_pos h, h]; rfl
  · rw [if_neg h]
    by_cases h2 : a.f0.toList = b.f0.toList
    · rw [if_pos h2]; simp [h2] at *; simp [h]
    · rw [if_neg h2]; simp [h, h2]
def ce (a b : IEnt) : Int := if Op.bytesLess a.f0.toList b.f0.toList = true then -1 else if a.f0.toList = b.f0.toList then (if a.f1 < b.f1 then -1 else if a.f1 > b.f1 then 1 else 0) else 1
theorem compare_tells (a b : IEnt) : Eve (fun k => impl_compareEntries.f k a.f0 a.f1 b.f0 b.f1) (ce a b) := by
  refine ⟨4, fun k hk => ?_⟩
  obtain ⟨k, rfl⟩ : ∃ m, k = m + 3 := ⟨k - 3, by omega⟩
  have w1 : wrap64 (0 + 1) = 1 := w64 (by omega) (by omega)
  have w2 : wrap64 (1 + 1) = 2 := w64 (by omega) (by omega)
  have hor : ∀ p q : Int, cmp_Or_int.f (k + 3) [p, q] = some (if p = 0 then q else p) := by
    intro p q
    have r0 : rd [p, q] 0 = p := rfl
    have r1 : rd [p, q] 1 = q := rfl
    simp only [cmp_Or_int.f, cmp_Or_int.l0, List.length_cons, List.length_nil, w1, w2, r0, r1]
    by_cases hp : p = 0
    · by_cases hq : q = 0
      · simp [hp, hq]
      · simp [hp, hq]
    · simp [hp]
  have hc : cmp_Compare_int.f a.f1 b.f1 = some (if a.f1 < b.f1 then -1 else if a.f1 > b.f1 then 1 else 0) := by
    simp only [cmp_Compare_int.f, cmp_isNaN_int.f, Option.bind_some, bne_self_eq_false, Bool.false_eq_true, if_false]
    repeat' split
    all_goals rfl
  unfold impl_compareEntries.f strings_Compare.f
  rw [hc]
  simp only [Option.bind_some, hor, ← ba_toList, cb_is]
  unfold ce
  by_cases h : Op.bytesLess a.f0.toList b.f0.toList = true
  · simp [h]
  · by_cases h2 : a.f0.toList = b.f0.toList
    · simp only [if_neg h, if_pos h2, if_true]
    · simp [h, h2]
theorem less_irrefl (x : List UInt8) : Op.bytesLess x x = false := by
  rw [← bytesLess_total x x]; simp
theorem ce_lt (a b : IEnt) : ce a b ≥ 0 ↔ ¬ el a b = true := by
  unfold ce el
  by_cases h : Op.bytesLess a.f0.toList b.f0.toList = true
  · simp [h]
  · by_cases h2 : a.f0.toList = b.f0.toList
    · rw [h2, less_irrefl]
      by_cases h3 : a.f1 < b.f1
      · simp [h3]
      · by_cases h4 : a.f1 > b.f1
        · simp [h3, h4]
        · simp [h3, h4]
    · simp [h, h2]
theorem ce_le (a b : IEnt) : ce a b ≤ 0 ↔ ¬ el b a = true := by
  unfold ce el
  have ht := bytesLess_total a.f0.toList b.f0.toList
  rw [← ht]
  by_cases h : Op.bytesLess a.f0.toList b.f0.toList = true
  · have : ¬ b.f0.toList = a.f0.toList := by intro e; rw [e, less_irrefl] at h; simp at h
    simp [h, this]
  · by_cases h2 : a.f0.toList = b.f0.toList
    · rw [h2, less_irrefl]
      by_cases h3 : a.f1 < b.f1
      · have : ¬ b.f1 < a.f1 := by omega
        simp [h3, this]
      · by_cases h4 : a.f1 > b.f1
        · have : b.f1 < a.f1 := by omega
          simp [h3, h4]
        · have : ¬ b.f1 < a.f1 := by omega
          simp [h3, h4]
    · simp [h, h2]
def inr (a b c : Int) : Bool := decide (b ≤ a) && decide (a ≤ c)
theorem in_spec (a b c : Int) : spec_l01In.f a b c = some (inr a b c) := by
  unfold spec_l01In.f inr
  by_cases h : b ≤ a
  · rw [if_pos h]; simp [h]
  · rw [if_neg h]; simp [h]
theorem in_impl (a b c : Int) : impl_inRange.f a b c = some (inr a b c) := in_spec a b c
def eok (e : IEnt) : Bool := decide ((e.f0.size : Int) ≤ 2000) && inr e.f1 0 9999
theorem eok_spec (e : IEnt) : spec_l05Entry.f e.f0 e.f1 = some (eok e) := by
  unfold spec_l05Entry.f eok
  by_cases h : (e.f0.size : Int) ≤ 2000
  · rw [if_pos h, in_spec]; simp [h]
  · rw [if_neg h]; simp [h]
theorem eok_impl (e : IEnt) : impl_entryOK.f e.f0 e.f1 = some (eok e) := eok_spec e
/-- entries after one entry, each after the one ahead of it -/
def ens : IEnt → List IEnt → Bool
  | _, [] => true
  | p, e :: es => eok e && (el p e && ens e es)
def lastE : IEnt → List IEnt → IEnt
  | p, [] => p
  | _, e :: es => lastE e es
theorem ens_append : ∀ (p : IEnt) (xs ys : List IEnt), ens p (xs ++ ys) = (ens p xs && ens (lastE p xs) ys)
  | p, [], ys => by simp [ens, lastE]
  | p, e :: xs, ys => by simp only [List.cons_append, ens, lastE, ens_append e xs ys, Bool.and_assoc]
def noE : IEnt := ⟨(⟨#[]⟩ : ByteArray), -1⟩
theorem noE_less (e : IEnt) (h : eok e = true) : el noE e = true := by
  unfold eok inr at h
  simp only [Bool.and_eq_true, decide_eq_true_eq] at h
  have h0 : noE.f0.toList = [] := by rw [ba_toList]; rfl
  have h1 : noE.f1 = -1 := rfl
  unfold el
  rw [h0, h1]
  cases e.f0.toList with
  | nil => simp [Op.bytesLess]; omega
  | cons a x => simp [Op.bytesLess]
/-- what is asked of one page behind others -/
def pok (T : List IPag) (n : Int) (seen : List Int) (p : IPag) : Bool := inr p.f0 1 (n - 1) && (!seen.contains p.f0 && (decide ((p.f1.length : Int) ≤ 4) && !(decide ((p.f1.length : Int) = 0) && decide ((T.length : Int) > 1))))
def poks (T : List IPag) (n : Int) : List Int → List IPag → Bool
  | _, [] => true
  | seen, p :: ps => pok T n seen p && poks T n (seen ++ [p.f0]) ps
def tok (T : List IPag) (n : Int) : Bool := inr T.length 1 60 && (inr n 2 100000 && (poks T n [] T && ens noE (T.flatMap (·.f1))))
theorem entries_tells (T : List IPag) (n : Int) (hT : T.length ≤ 1048576) (hf : (T.flatMap (·.f1)).length ≤ 1048576) : Eve (fun k => impl_Tree_entries.f k T n) (T.flatMap (·.f1)) := by
  simp only [impl_Tree_entries.f]
  have := ev_loop0 T (fun k ys i => impl_Tree_entries.l0 k ys T (T.length : Int) i) (fun _ ys r => ys ++ r.flatMap (·.f1)) (fun i ys => ys ++ (T.drop i).flatMap (·.f1) = T.flatMap (·.f1)) (fun ys _ => by
    simp only [impl_Tree_entries.l0]
    exact Eve.ite (fun h => absurd h (by omega)) (fun _ => Eve.one.eq (by simp))) (fun i hi ys hI ih => by
    rw [drop_at T i hi, List.flatMap_cons] at hI
    simp only [impl_Tree_entries.l0]
    refine Eve.ite (fun _ => ?_) (fun h => absurd (by omega) h)
    refine Eve.ite (fun _ => ?_) (fun h => absurd (by omega) h)
    refine Eve.ite (fun _ => ?_) (fun h => absurd (by omega) h)
    simp only [rdIP _ _ hi, wi (show i ≤ 9223372036854775806 by omega)]
    refine Eve.ite (fun _ => ?_) (fun h => absurd ?_ h)
    · exact (ih (ys ++ T[i].f1) (by rw [← hI, List.append_assoc])).eq (by rw [List.append_assoc, List.flatMap_cons])
    · have := congrArg List.length hI
      simp only [List.length_append] at this
      omega) [] (by simp)
  simpa using this
theorem contains_tells (xs : List Int) (a : Int) (h : xs.length ≤ 1048576) : Eve (fun k => slices_Contains_int_int.f k xs a) (xs.contains a) := by
  simp only [slices_Contains_int_int.f, slices_Index_int_int.f]
  refine Eve.bind (v := first (fun x => decide (a = x)) xs 0) ?_ (Eve.one.eq ?_)
  · refine ev_loop0 xs (fun k (_ : Unit) i => slices_Index_int_int.l0 k xs a (xs.length : Int) i) (fun i _ r => first (fun x => decide (a = x)) r i) (fun _ _ => True) (fun _ _ => ?_) (fun i hi s _ ih => ?_) () trivial
    · simp only [slices_Index_int_int.l0]
      exact Eve.ite (fun h => absurd h (by omega)) (fun _ => Eve.one)
    · simp only [slices_Index_int_int.l0]
      refine Eve.ite (fun _ => ?_) (fun h => absurd (by omega) h)
      refine Eve.ite (fun _ => ?_) (fun h => absurd (by omega) h)
      refine Eve.ite (fun _ => ?_) (fun h => absurd (by omega) h)
      simp only [rd_at _ _ hi, wi (show i ≤ 9223372036854775806 by omega)]
      refine Eve.ite (fun h => Eve.one.eq ?_) (fun h => (ih () trivial).eq ?_)
      · simp [first, h]
      · simp [first, h]
  · rw [first_any]
    induction xs with
    | nil => rfl
    | cons x xs ih =>
      rw [List.any_cons, ih (by simp at h; omega), List.contains_cons]
      by_cases e : a = x <;> simp [e]
theorem implOK_tells (T : List IPag) (n : Int) (hT : T.length ≤ 1048576) (hf : (T.flatMap (·.f1)).length ≤ 1048576) : Eve (fun k => impl_TreeOK.f k T n) (tok T n) := by
  have hj1 : Eve (fun k => impl_TreeOK.j0 k true T n) false := Eve.succ (by simp only [impl_TreeOK.j0, if_true]; exact Eve.one)
  simp only [impl_TreeOK.f, in_impl, Option.bind_some]
  refine Eve.ite (fun h1 => ?_) (fun h1 => hj1.eq (by simp [tok, h1]))
  cases h2 : inr n 2 100000
  · exact hj1.eq (by simp [tok, h2])
  refine Eve.succ ?_
  simp only [impl_TreeOK.j0, Bool.not_true, Bool.false_eq_true, if_false]
  have hn : wrap64 (n - 1) = n - 1 := by
    unfold inr at h2
    simp only [Bool.and_eq_true, decide_eq_true_eq] at h2
    exact w64 (by omega) (by omega)
  have := ev_loop0 T (fun k ys i => impl_TreeOK.l0 k ys T (T.length : Int) i T n) (fun _ ys r => poks T n ys r && ens noE (T.flatMap (·.f1))) (fun i ys => ys.length = i) (fun ys hy => by
    simp only [impl_TreeOK.l0]
    refine Eve.ite (fun h => absurd h (by omega)) (fun _ => ?_)
    refine Eve.bind (entries_tells T n hT hf) ?_
    generalize hE : T.flatMap (·.f1) = E at hf ⊢
    have hl := ev_loop0 E (fun k (_ : Unit) i => impl_TreeOK.l1 k E E (E.length : Int) i) (fun i _ r => ens (if i = 0 then noE else E.getD (i - 1) noE) r) (fun _ _ => True) (fun _ _ => by
      simp only [impl_TreeOK.l1]
      exact Eve.ite (fun h => absurd h (by omega)) (fun _ => Eve.one)) (fun i hi s _ ih => by
      simp only [impl_TreeOK.l1]
      refine Eve.ite (fun _ => ?_) (fun h => absurd (by omega) h)
      refine Eve.ite (fun _ => ?_) (fun h => absurd (by omega) h)
      refine Eve.ite (fun _ => ?_) (fun h => absurd (by omega) h)
      simp only [rdIE _ _ hi, eok_impl, Option.bind_some, wi (show i ≤ 9223372036854775806 by omega)]
      have hnx := ih () trivial
      simp only [Nat.add_one_ne_zero, if_false, Nat.add_sub_cancel, List.getD_eq_getElem?_getD, List.getElem?_eq_getElem hi, Option.getD_some] at hnx
      refine Eve.ite (fun h1 => ?_) (fun h1 => Eve.one.eq (by simp [ens, h1]))
      refine Eve.ite (fun h2 => ?_) (fun h2 => hnx.eq ?_)
      · have hw : wrap64 ((i : Int) - 1) = ((i - 1 : Nat) : Int) := by rw [w64 (by omega) (by omega)]; omega
        simp only [hw]
        refine Eve.ite (fun _ => ?_) (fun h => absurd (by omega) h)
        refine Eve.ite (fun _ => ?_) (fun h => absurd (by omega) h)
        rw [if_neg (by omega), List.getD_eq_getElem?_getD, List.getElem?_eq_getElem (show i - 1 < E.length by omega), Option.getD_some]
        simp only [rdIE _ _ (show i - 1 < E.length by omega)]
        refine Eve.bind (compare_tells _ _) ?_
        refine Eve.ite (fun h3 => Eve.one.eq ?_) (fun h3 => hnx.eq ?_)
        · have := (ce_lt _ _).1 h3
          simp [ens, this]
        · have : el (E[i - 1]) E[i] = true := by
            by_cases h4 : el (E[i - 1]) E[i] = true
            · exact h4
            · exact absurd ((ce_lt _ _).2 h4) h3
          simp [ens, this, h1]
      · obtain rfl : i = 0 := by omega
        rw [if_pos rfl]
        simp [ens, h1, noE_less _ h1]) () trivial
    rw [if_pos rfl] at hl
    exact hl.eq (by simp [poks])) (fun i hi ys hI ih => by
    simp only [impl_TreeOK.l0]
    refine Eve.ite (fun _ => ?_) (fun h => absurd (by omega) h)
    refine Eve.ite (fun _ => ?_) (fun h => absurd (by omega) h)
    refine Eve.ite (fun _ => ?_) (fun h => absurd (by omega) h)
    simp only [rdIP _ _ hi, hn, in_impl, Option.bind_some, wi (show i ≤ 9223372036854775806 by omega)]
    refine Eve.ite (fun h1 => ?_) (fun h1 => Eve.one.eq (by simp [poks, pok, h1]))
    refine Eve.bind (contains_tells ys _ (by omega)) ?_
    refine Eve.ite (fun h2 => Eve.one.eq (by simp only [poks, pok, h2]; simp)) (fun h2 => ?_)
    refine Eve.ite (fun h3 => Eve.one.eq ?_) (fun h3 => ?_)
    · have : ¬ ((T[i].f1.length : Int) ≤ 4) := by omega
      simp only [poks, pok, this]; simp
    have h3' : ((T[i].f1.length : Int) ≤ 4) := by omega
    have hnx := ih (ys ++ [T[i].f0]) (by simp [hI])
    refine Eve.ite (fun h4 => ?_) (fun h4 => ?_)
    · refine Eve.ite (fun h5 => Eve.one.eq ?_) (fun h5 => ?_)
      · simp only [poks, pok, h4, h5]; simp
      · refine Eve.ite (fun _ => hnx.eq ?_) (fun h => absurd (by omega) h)
        simp only [poks, pok, h1, h2, h4, h5]; simp
    · refine Eve.ite (fun _ => hnx.eq ?_) (fun h => absurd (by omega) h)
      simp only [poks, pok, h1, h2, h3', h4]; simp) [] rfl
  exact this.eq (by simp [tok, h1, h2])
theorem specOK_tells (T : List IPag) (n : Int) (hT : T.length ≤ 1048576) (hf : ∀ p ∈ T, p.f1.length ≤ 1048576) : Eve (fun k => spec_TreeOK.f k T n) (tok T n) := by
  have hj1 : Eve (fun k => spec_TreeOK.j0 k true T n) false := Eve.succ (by simp only [spec_TreeOK.j0, if_true]; exact Eve.one)
  simp only [spec_TreeOK.f, in_spec, Option.bind_some]
  refine Eve.ite (fun h1 => ?_) (fun h1 => hj1.eq (by simp [tok, h1]))
  cases h2 : inr n 2 100000
  · exact hj1.eq (by simp [tok, h2])
  refine Eve.succ ?_
  simp only [spec_TreeOK.j0, Bool.not_true, Bool.false_eq_true, if_false]
  have hn : wrap64 (n - 1) = n - 1 := by
    unfold inr at h2
    simp only [Bool.and_eq_true, decide_eq_true_eq] at h2
    exact w64 (by omega) (by omega)
  have := ev_loop0 T (fun k (e : IEnt) i => spec_TreeOK.l0 k i T n e.f0 e.f1) (fun i e r => poks T n ((T.take i).map (·.f0)) r && ens e (r.flatMap (·.f1))) (fun _ _ => True) (fun e _ => by
    simp only [spec_TreeOK.l0]
    exact Eve.ite (fun h => absurd h (by omega)) (fun _ => Eve.one)) (fun i hi e _ ih => by
    have htk : (T.take (i + 1)).map (·.f0) = (T.take i).map (·.f0) ++ [T[i].f0] := by
      rw [List.take_succ_eq_append_getElem hi, List.map_append]; rfl
    simp only [htk] at ih
    simp only [spec_TreeOK.l0]
    refine Eve.ite (fun _ => ?_) (fun h => absurd (by omega) h)
    refine Eve.ite (fun _ => ?_) (fun h => absurd (by omega) h)
    simp only [rdIP _ _ hi, hn, in_spec, Option.bind_some]
    generalize hp : T[i] = p at ih ⊢
    have hpl : p.f1.length ≤ 1048576 := by rw [← hp]; exact hf _ (List.getElem_mem hi)
    have hjt : ∀ v, v = false → Eve (fun k => spec_TreeOK.j2 k (i : Int) true T n e.f0 e.f1 p.f0 p.f1) v := fun v hv => Eve.succ (by simp only [spec_TreeOK.j2, if_true]; exact Eve.one.eq hv.symm)
    have hjf : ∀ v, Eve (fun k => spec_TreeOK.l1 k (i : Int) 0 T n e.f0 e.f1 p.f0 p.f1) v → Eve (fun k => spec_TreeOK.j2 k (i : Int) false T n e.f0 e.f1 p.f0 p.f1) v := fun v hv => Eve.succ (by simp only [spec_TreeOK.j2, Bool.false_eq_true, if_false]; exact hv)
    have hl2 : Eve (fun k => spec_TreeOK.l2 k (i : Int) 0 T n e.f0 e.f1 p.f0 p.f1) (ens e p.f1 && (poks T n ((T.take i).map (·.f0) ++ [p.f0]) (T.drop (i + 1)) && ens (lastE e p.f1) ((T.drop (i + 1)).flatMap (·.f1)))) := by
      refine ev_loop0 p.f1 (fun k (e : IEnt) j => spec_TreeOK.l2 k (i : Int) j T n e.f0 e.f1 p.f0 p.f1) (fun _ e r => ens e r && (poks T n ((T.take i).map (·.f0) ++ [p.f0]) (T.drop (i + 1)) && ens (lastE e r) ((T.drop (i + 1)).flatMap (·.f1)))) (fun _ _ => True) (fun e' _ => ?_) (fun j hj e' _ ih2 => ?_) e trivial
      · simp only [spec_TreeOK.l2]
        refine Eve.ite (fun h => absurd h (by omega)) (fun _ => ?_)
        simp only [wi (show i ≤ 9223372036854775806 by omega)]
        exact (ih e' trivial).eq (by simp [ens, lastE])
      · simp only [spec_TreeOK.l2]
        refine Eve.ite (fun _ => ?_) (fun h => absurd (by omega) h)
        refine Eve.ite (fun _ => ?_) (fun h => absurd (by omega) h)
        simp only [rdIE _ _ hj, eok_spec, less_tells, Option.bind_some, wi (show j ≤ 9223372036854775806 by omega)]
        refine Eve.ite (fun h1 => ?_) (fun h1 => Eve.one.eq (by simp [ens, h1]))
        refine Eve.ite (fun h2 => (ih2 p.f1[j] trivial).eq ?_) (fun h2 => Eve.one.eq (by simp [ens, h2]))
        simp only [ens, h1, h2, lastE, Bool.true_and]
    have hl1 : Eve (fun k => spec_TreeOK.l1 k (i : Int) 0 T n e.f0 e.f1 p.f0 p.f1) (!((T.take i).map (·.f0)).contains p.f0 && (ens e p.f1 && (poks T n ((T.take i).map (·.f0) ++ [p.f0]) (T.drop (i + 1)) && ens (lastE e p.f1) ((T.drop (i + 1)).flatMap (·.f1))))) := by
      have hx : (T.take i).length = i := by simp; omega
      refine ev_loop0 (T.take i) (fun k (_ : Unit) j => spec_TreeOK.l1 k (i : Int) j T n e.f0 e.f1 p.f0 p.f1) (fun _ _ r => !(r.map (·.f0)).contains p.f0 && (ens e p.f1 && (poks T n ((T.take i).map (·.f0) ++ [p.f0]) (T.drop (i + 1)) && ens (lastE e p.f1) ((T.drop (i + 1)).flatMap (·.f1))))) (fun _ _ => True) (fun _ _ => ?_) (fun j hj s _ ih2 => ?_) () trivial
      · simp only [spec_TreeOK.l1, hx]
        exact Eve.ite (fun h => absurd h (by omega)) (fun _ => hl2.eq (by simp))
      · have hjT : j < T.length := by omega
        simp only [spec_TreeOK.l1]
        refine Eve.ite (fun _ => ?_) (fun h => absurd (by omega) h)
        refine Eve.ite (fun _ => ?_) (fun h => absurd (by omega) h)
        refine Eve.ite (fun _ => ?_) (fun h => absurd (by omega) h)
        simp only [rdIP _ _ hjT, wi (show j ≤ 9223372036854775806 by omega), List.getElem_take]
        refine Eve.ite (fun h => Eve.one.eq ?_) (fun h => (ih2 () trivial).eq ?_)
        · simp [h]
        · simp [Ne.symm h]
    have happ : ∀ b : Bool, (b && poks T n ((T.take i).map (·.f0) ++ [p.f0]) (T.drop (i + 1)) && ens e ((p :: T.drop (i + 1)).flatMap (·.f1))) = (b && (ens e p.f1 && (poks T n ((T.take i).map (·.f0) ++ [p.f0]) (T.drop (i + 1)) && ens (lastE e p.f1) ((T.drop (i + 1)).flatMap (·.f1))))) := by
      intro b
      rw [List.flatMap_cons, ens_append]
      generalize poks T n ((T.take i).map (·.f0) ++ [p.f0]) (T.drop (i + 1)) = u
      cases b <;> cases u <;> simp
    simp only [poks, happ]
    refine Eve.ite (fun h1 => ?_) (fun h1 => hjt _ (by simp [pok, h1]))
    refine Eve.ite (fun h3 => hjt _ ?_) (fun h3 => ?_)
    · have : ¬ ((p.f1.length : Int) ≤ 4) := by omega
      simp only [pok, this]; simp
    have h3' : ((p.f1.length : Int) ≤ 4) := by omega
    refine Eve.ite (fun h4 => ?_) (fun h4 => ?_)
    · by_cases h5 : (T.length : Int) > 1
      · simp only [h5, decide_true]
        refine hjt _ ?_
        simp only [pok, h4, h5]; simp
      · simp only [h5, decide_false]
        refine (hjf _ hl1).eq ?_
        simp only [pok, h1, h4, h5]; simp
    · refine (hjf _ hl1).eq ?_
      simp only [pok, h1, h3', h4]; simp) noE trivial
  exact this.eq (by simp [tok, h1, h2])
end Go.Proofs.Ytoceopjhacpjnaa.Pure
namespace Go.Proofs.Ytoceopjhacpjnaa.Pure
open Go.RowKit Go.Proofs.Ytoceopjhacpjnaa.Q Go.Proofs.YtoceopjhacpjnaaW.PrintWords Go.Proofs.YtoceopjhacpjnaaW.PrintLast Go.Proofs.YtoceopjhacpjnaaW.Pl
theorem map_flat (l : List LPag) : (l.map ip).flatMap (·.f1) = (l.flatMap (·.f1)).map ie := by
  rw [List.flatMap_map, List.map_flatMap]; rfl
theorem FnExactTreeOK : laws_FnExactTreeOK.Pure := by
  rintro ⟨l, n⟩ ⟨hl, hn⟩
  refine Eve.get (g := fun k => laws_FnExactTreeOK.f k l n) ?_
  simp only [laws_FnExactTreeOK.f]
  refine Eve.bind (szTree_tells l n hl.1 (good_pages hl) (by omega) (by omega)) ?_
  by_cases h : (1048576 : Int) - szPS l < 0
  · simp only [if_pos h]; exact Eve.ite (fun _ => Eve.one) (fun h => absurd h (by omega))
  simp only [if_neg h]
  have hF : Fits l := by unfold Fits; omega
  refine Eve.bind (toTree_tells l n hF) ?_
  refine Eve.bind (specOK_tells (l.map ip) n (by simpa using hF.len) (fun p hp => by
    obtain ⟨q, hq, rfl⟩ := List.mem_map.1 hp
    simpa [ip] using hF.page q hq)) ?_
  refine Eve.bind (toTree_tells l n hF) ?_
  refine Eve.bind (implOK_tells (l.map ip) n (by simpa using hF.len) (by rw [map_flat]; simpa using hF.flat)) ?_
  simp only [bne_self_eq_false, Bool.false_eq_true, if_false]
  refine Eve.bind (toTree_tells l n hF) ?_
  refine Eve.bind (eqTree_to l n hF) ?_
  simp only [if_true]
  exact Eve.one
end Go.Proofs.Ytoceopjhacpjnaa.Pure
namespace Go.Proofs.Ytoceopjhacpjnaa.fnExactTreeOK
open Go.ChangeShapes Go.WideShapes Go.ChangeAt Go.RowKit Go.Proofs.YtoceopjhacpjnaaW.PrintWords Go.Proofs.YtoceopjhacpjnaaW.PrintOpen Go.Proofs.Ytoceopjhacpjnaa.Q
open Go.ChangeMaps (open_string shut_string)
set_option linter.unusedVariables false
theorem own : ownKnob Try.prog.godebug = none := by kernel_rfl
theorem laidOut : laidOutB Try.prog = true := by kernel_rfl
set_option maxRecDepth 100000 in
theorem lifted (os : Os) (started : os.Started) (H : Type) (enc : TypeId × Value → H) :
    ReturnsInHanded {} Try.checked os 6 .any (Rows.fnExactTreeOKSpec.pre6 enc Try.prog Try.f6 Rows.fnExactTreeOKRow.domain false) (Rows.fnExactTreeOKSpec.post enc Try.prog Try.f6 false true false false) := by
  refine returnsInHanded_of_change_sized (C := Try.checked) own started (by kernel_rfl) Try.func6
    (ChangeSpec.witness6 (enc := enc) (C := Try.checked) false ⟨#[], #[.agg #[.slice none 0 0, .int .i64 0]], []⟩ 8 (by kernel_rfl) (by kernel_rfl) (by kernel_rfl) (by kernel_rfl)) ?_
  intro W base args ds gs before hval0 hW hcnd hsz0 _
  have hval : ∀ (j : Nat) t v, Try.f6.params[j]? = some t → args[j]? = some v → Value.okWide Try.prog W .any base t v := hval0
  have hW' := hW
  obtain ⟨p, q, hA0, hV, rfl, hfz, hnd⟩ := hW
  have hA : DataW.TrodAll enc Try.prog W 0 (fun _ => true) true Try.f6.params.toList args.toList ds p := hA0
  rw [Try.params6] at hA hval
  obtain ⟨v0, vs0, d0, ds0, p0, q0, hargs, rfl, rfl, h0, r0⟩ := trodAll_cons hA
  obtain ⟨rfl, rfl, rfl⟩ := trodAll_nil r0
  obtain rfl : args = #[v0] := by cases args; simp_all
  obtain ⟨rfl, rfl⟩ := trodVars_none hV
  have t0 := h0
  have lt0 : ∀ x ∈ p0, x.block < W.heap.size := by obtain ⟨m, hm⟩ := t0; exact DataW.trod_lt m _ _ _ hm
  obtain ⟨x0, cs0, rfl, K0, g0⟩ := arg_struct Try.underlying41 opens41 (hval 0 41 v0 rfl rfl) h0
  obtain ⟨A0_0, c0_0, rfl, hl0_0, hc0_0⟩ := k41_open K0
  clear hA0 hval0 hsz0
  obtain ⟨k, hp⟩ := Pure.FnExactTreeOK x0 g0
  refine (laws_FnExactTreeOK.calls k A0_0 c0_0 x0.f0 x0.f1 true W hc0_0 hl0_0 hp).mono fun e W' ⟨he, bel0⟩ => ?_
  have bel : Below W.heap.size W W' := bel0
  subst he
  exact ⟨_, rfl, _, _, _, [], _, [], hW', trodAll_mk1 (shut_bool Try.underlying4 _), (trodAll_cons_mk (Below.trod laidOut (by kernel_rfl) (of_decide_eq_true (by kernel_rfl)) t0 bel lt0) trodAll_mk0), rfl, bel.frame _, fun h => by cases h⟩
theorem over : Rows.fnExactTreeOKRow.holds Try.pinned (OpenSpec.ofChange Rows.fnExactTreeOKSpec) :=
  OpenClaim.holds_of_wide 6 Try.f6 rfl rfl rfl rfl rfl rfl rfl ⟨rfl, rfl, rfl, rfl, rfl⟩ rfl rfl rfl rfl rfl (by kernel_rfl) Try.func6 (by kernel_rfl)
    (of_decide_eq_true (by kernel_rfl)) (by unfold Func.isWrapper; first | (rw [if_pos (by decide +kernel)]; kernel_rfl) | (rw [if_neg (by decide +kernel)]; exact ⟨rfl, rfl⟩))
    (fun os started H enc _ => lifted os started H enc)
theorem proved : Rows.FnExactTreeOKSaid := over
#print axioms proved
end Go.Proofs.Ytoceopjhacpjnaa.fnExactTreeOK
namespace Go.Proofs.Ytoceopjhacpjnaa
/-- The row, under a short name, for the claim. -/
theorem fnExactTreeOK_holds : Rows.FnExactTreeOKSaid := fnExactTreeOK.proved
end Go.Proofs.Ytoceopjhacpjnaa
