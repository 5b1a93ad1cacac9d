/- FnExactItemsOf: for every argument the law answers true, and the argument reads behind the call as it read before. No condition. -/
import Derived.Test.YtpmeglcmhiihoaaKLawFnExactItemsOfp22
import Derived.Test.YtpmeglcmhiihoaaKLawFnExactItemsOfp26
import Derived.Test.YtpmeglcmhiihoaaRows
import Derived.WalkKit
import Derived.ProofKit
import Derived.OpenShut
import Derived.ShutString
import Derived.ChangeOld
import Derived.Below
import Derived.SizedLaws
import Derived.Carry
section
namespace Go.Proofs.Ytpmeglcmhiihoaa.Q
open Go.RowKit Go.Proofs.YtpmeglcmhiihoaaW.PrintWords Go.Proofs.YtpmeglcmhiihoaaW.PrintLast Go.Proofs.YtpmeglcmhiihoaaW.PrintMore
attribute [local go_sem] max2_int min2_int max_two min_two max_three min_three max_four min_four max2_str min2_str str_geq str_gtr str_leq   -- for this text's walks alone
set_option linter.unusedVariables false
set_option linter.unusedSimpArgs false

def laws_markFieldS.l0 : Nat→List (S68)→Int→Int→Option (Int×(List (S68)))
 | 0,_,_,_ => none
 | k + 1,x0,x1,x5 => if x5<(x0.length : Int) then ((laws_markText.f k x1).bind fun t564 => (if 0≤x5 then ((some (x0.set (x5 : Int).toNat (⟨t564,(⟨(rd_T68 x0 x5).f1.f0,(rd_T68 x0 x5).f1.f1,(rd_T68 x0 x5).f1.f2⟩ : S26)⟩ : S68) : List (S68))).bind fun y565 => ((some (y565.set (x5 : Int).toNat (⟨(rd_T68 y565 x5).f0,(⟨wrap64 (x1 + 1),(rd_T68 y565 x5).f1.f1,(rd_T68 y565 x5).f1.f2⟩ : S26)⟩ : S68) : List (S68))).bind fun y566 => ((some (y566.set (x5 : Int).toNat (⟨(rd_T68 y566 x5).f0,(⟨(rd_T68 y566 x5).f1.f0,wrap64 ((wrap64 (x1 + 1)) + 1),(rd_T68 y566 x5).f1.f2⟩ : S26)⟩ : S68) : List (S68))).bind fun y567 => ((laws_markText.f k (wrap64 ((wrap64 ((wrap64 (x1 + 1)) + 1)) + 1))).bind fun t568 => (laws_markFieldS.l0 k (y567.set (x5 : Int).toNat (⟨(rd_T68 y567 x5).f0,(⟨(rd_T68 y567 x5).f1.f0,(rd_T68 y567 x5).f1.f1,t568⟩ : S26)⟩ : S68)) (wrap64 ((wrap64 ((wrap64 ((wrap64 (x1 + 1)) + 1)) + 1)) + 1)) (wrap64 (x5 + 1))))))) else (none))) else (some (x1,x0))
def laws_markFieldS.f (k : Nat) (l0 : List (S68)) (a1 : Int) : Option (Int×(List (S68))):=laws_markFieldS.l0 k l0 a1 0
theorem laws_markFieldS.mono_l : ∀ k,(∀ y0 y1 y2,LeO (laws_markFieldS.l0 k y0 y1 y2) (laws_markFieldS.l0 (k + 1) y0 y1 y2))
 | 0 => fun _ _ _ r h => by simp [laws_markFieldS.l0] at h
 | k + 1 => by
  have ih0:=laws_markFieldS.mono_l k;intro y0 y1 y2;unfold laws_markFieldS.l0
  repeat' first
  | (with_reducible exact ih0 _ _ _)
  | (with_reducible exact laws_markText.mono _ _)
  | (with_reducible exact LeO.refl _)
  | (with_reducible exact LeO.none _)
  | (with_reducible refine LeO.ite ?_ ?_)
  | (with_reducible refine LeO.bind ?_ (fun _ => ?_))
  | exact ih0 _ _ _
  | exact laws_markText.mono _ _
  | exact LeO.none _
  | refine LeO.ite ?_ ?_
  | refine LeO.bind ?_ (fun _ => ?_)
theorem laws_markFieldS.mono : ∀ a0 a1 k,LeO (laws_markFieldS.f k a0 a1) (laws_markFieldS.f (k + 1) a0 a1):=by
 intro a0 a1 k;have ih0:=laws_markFieldS.mono_l k;unfold laws_markFieldS.f
 repeat' first
   | (with_reducible exact ih0 _ _ _)
   | (with_reducible exact laws_markText.mono _ _)
   | (with_reducible exact LeO.refl _)
   | (with_reducible exact LeO.none _)
   | (with_reducible refine LeO.ite ?_ ?_)
   | (with_reducible refine LeO.bind ?_ (fun _ => ?_))
   | exact ih0 _ _ _
   | exact laws_markText.mono _ _
   | exact LeO.none _
   | refine LeO.ite ?_ ?_
   | refine LeO.bind ?_ (fun _ => ?_)
set_option maxHeartbeats 8000000 in
set_option maxRecDepth 100000 in
theorem laws_markFieldS.calls (k : Nat) (P0_ : Nat→Prop) (u9000_ : Value) (l0 : List (S68)) (a1 : Int) (r1 : Int) (r2 : List (S68)) (w0 w : World) (hB : Below w0.heap.size w0 w) (ho0 : Kd.R k68 68 w w0.heap.size P0_ u9000_ l0) (h : laws_markFieldS.f k l0 a1=some (r1,r2)) :
  Calls Try.prog 37 #[u9000_,.int .i64 a1] w fun e w' => e = .returned (.int .i64 r1)∧Kd.R k68 68 w' w0.heap.size (fun k_ => (P0_ k_∨w.heap.size≤k_)) u9000_ r2∧Below w0.heap.size w0 w' ∧ Kept w w' (fun k_ => P0_ k_):=by
 have HO0:=zh (show Kd.R k68 68 w w0.heap.size (fun k_ => (P0_ k_∨w.heap.size≤k_)) u9000_ l0 from Kd.R_mono ho0 (fun k_ hk => (.inl hk)));have HK:=zh (Kept.refl w (fun k_ => P0_ k_));have HW0:=zh hB.size;have HB:=zh hB;clear hB;have H : (laws_markFieldS.l0 k l0 a1 0)=some (r1,r2):=h;clear h;have H':=zh H;clear H
 go_enter Try.func37,Try.ntmps37
 go_wp2
 go_loopg [1,5] k (fun kq v1 v5 w' => ∃ (x0_1 : List (S68)) (x1_1 : Int) (x5_1 : Int),v1 = .int .i64 x1_1∧v5 = .int .i64 x5_1∧Aside0 (laws_markFieldS.l0 kq x0_1 x1_1 x5_1=some (r1,r2))∧Aside0 (kq≤k)∧Aside0 (Kd.R k68 68 w' w0.heap.size (fun k_ => (P0_ k_∨w.heap.size≤k_)) u9000_ x0_1)∧Aside0 (Kept w w' (fun k_ => P0_ k_))∧Aside0 (Below w0.heap.size w0 w'))
 case atStart => exact ⟨(l0),(a1),(0),(by first|rfl|(simp;done)|(simp [*];done)),(by first|rfl|(simp;done)|(simp [*];done)),H',⟨Nat.le_refl _⟩,⟨by (with_reducible repeat (first|apply zm|apply zn|apply zo));exact HO0.out⟩,⟨by repeat (first|(with_reducible first|exact HK.out|apply zr|apply zp|apply zq)|exact HK.out)⟩,⟨by repeat (first|(with_reducible first|exact HB.out|apply za|apply zb|apply zc)|exact HB.out)⟩⟩
 case round =>
  clear H'
  try clear p2
  obtain ⟨x0_1,x1_1,x5_1,rfl,rfl,HA,HK1,HO_0,HK,HB⟩:=hrel
  cases gk with
  | zero => exact absurd HA.out (by simp [laws_markFieldS.l0])
  | succ k1 =>
   have H:=HA.out;clear HA;simp only [laws_markFieldS.l0] at H
   by_cases c3 : x5_1<(x0_1.length : Int)
   ·
    rw [if_pos c3] at H
    have c3b0 : decide (x5_1<(x0_1.length : Int))=true:=decide_eq_true c3;clear c3;replace H:=Option.bind_eq_some_iff.mp H;obtain ⟨t564,A40,H⟩:=H;replace H : (if 0≤x5_1 then ((some (x0_1.set (x5_1 : Int).toNat (⟨t564,(⟨(rd_T68 x0_1 x5_1).f1.f0,(rd_T68 x0_1 x5_1).f1.f1,(rd_T68 x0_1 x5_1).f1.f2⟩ : S26)⟩ : S68) : List (S68))).bind fun y565 => ((some (y565.set (x5_1 : Int).toNat (⟨(rd_T68 y565 x5_1).f0,(⟨wrap64 (x1_1 + 1),(rd_T68 y565 x5_1).f1.f1,(rd_T68 y565 x5_1).f1.f2⟩ : S26)⟩ : S68) : List (S68))).bind fun y566 => ((some (y566.set (x5_1 : Int).toNat (⟨(rd_T68 y566 x5_1).f0,(⟨(rd_T68 y566 x5_1).f1.f0,wrap64 ((wrap64 (x1_1 + 1)) + 1),(rd_T68 y566 x5_1).f1.f2⟩ : S26)⟩ : S68) : List (S68))).bind fun y567 => ((laws_markText.f k1 (wrap64 ((wrap64 ((wrap64 (x1_1 + 1)) + 1)) + 1))).bind fun t568 => (laws_markFieldS.l0 k1 (y567.set (x5_1 : Int).toNat (⟨(rd_T68 y567 x5_1).f0,(⟨(rd_T68 y567 x5_1).f1.f0,(rd_T68 y567 x5_1).f1.f1,t568⟩ : S26)⟩ : S68)) (wrap64 ((wrap64 ((wrap64 ((wrap64 (x1_1 + 1)) + 1)) + 1)) + 1)) (wrap64 (x5_1 + 1))))))) else (none))=some (r1,r2):=H;have A4:=zh A40;clear A40
    by_cases c5 : 0≤x5_1
    ·
     rw [if_pos c5] at H
     have c5b0 : decide (0≤x5_1)=true:=decide_eq_true c5;clear c5;obtain ⟨y565,hy565⟩ : ∃ y_ : List (S68),y_=(x0_1.set (x5_1 : Int).toNat (⟨t564,(⟨(rd_T68 x0_1 x5_1).f1.f0,(rd_T68 x0_1 x5_1).f1.f1,(rd_T68 x0_1 x5_1).f1.f2⟩ : S26)⟩ : S68)):=⟨_,rfl⟩;replace H : ((some (y565.set (x5_1 : Int).toNat (⟨(rd_T68 y565 x5_1).f0,(⟨wrap64 (x1_1 + 1),(rd_T68 y565 x5_1).f1.f1,(rd_T68 y565 x5_1).f1.f2⟩ : S26)⟩ : S68) : List (S68))).bind fun y566 => ((some (y566.set (x5_1 : Int).toNat (⟨(rd_T68 y566 x5_1).f0,(⟨(rd_T68 y566 x5_1).f1.f0,wrap64 ((wrap64 (x1_1 + 1)) + 1),(rd_T68 y566 x5_1).f1.f2⟩ : S26)⟩ : S68) : List (S68))).bind fun y567 => ((laws_markText.f k1 (wrap64 ((wrap64 ((wrap64 (x1_1 + 1)) + 1)) + 1))).bind fun t568 => (laws_markFieldS.l0 k1 (y567.set (x5_1 : Int).toNat (⟨(rd_T68 y567 x5_1).f0,(⟨(rd_T68 y567 x5_1).f1.f0,(rd_T68 y567 x5_1).f1.f1,t568⟩ : S26)⟩ : S68)) (wrap64 ((wrap64 ((wrap64 ((wrap64 (x1_1 + 1)) + 1)) + 1)) + 1)) (wrap64 (x5_1 + 1))))))=some (r1,r2):=by first|(rw [hy565];with_reducible exact H)|(have H2_:=(Option.bind_some _ _).symm.trans H;rw [hy565];with_reducible exact H2_)|(have H2_:=(Option.bind_some _ _).symm.trans H;with_reducible exact H2_)|with_reducible exact H|(rw [hy565];exact H)|exact H
     have Ny565:=zh hy565;clear hy565;obtain ⟨y566,hy566⟩ : ∃ y_ : List (S68),y_=(y565.set (x5_1 : Int).toNat (⟨(rd_T68 y565 x5_1).f0,(⟨wrap64 (x1_1 + 1),(rd_T68 y565 x5_1).f1.f1,(rd_T68 y565 x5_1).f1.f2⟩ : S26)⟩ : S68)):=⟨_,rfl⟩;replace H : ((some (y566.set (x5_1 : Int).toNat (⟨(rd_T68 y566 x5_1).f0,(⟨(rd_T68 y566 x5_1).f1.f0,wrap64 ((wrap64 (x1_1 + 1)) + 1),(rd_T68 y566 x5_1).f1.f2⟩ : S26)⟩ : S68) : List (S68))).bind fun y567 => ((laws_markText.f k1 (wrap64 ((wrap64 ((wrap64 (x1_1 + 1)) + 1)) + 1))).bind fun t568 => (laws_markFieldS.l0 k1 (y567.set (x5_1 : Int).toNat (⟨(rd_T68 y567 x5_1).f0,(⟨(rd_T68 y567 x5_1).f1.f0,(rd_T68 y567 x5_1).f1.f1,t568⟩ : S26)⟩ : S68)) (wrap64 ((wrap64 ((wrap64 ((wrap64 (x1_1 + 1)) + 1)) + 1)) + 1)) (wrap64 (x5_1 + 1)))))=some (r1,r2):=by first|(rw [hy566];with_reducible exact H)|(have H2_:=(Option.bind_some _ _).symm.trans H;rw [hy566];with_reducible exact H2_)|(have H2_:=(Option.bind_some _ _).symm.trans H;with_reducible exact H2_)|with_reducible exact H|(rw [hy566];exact H)|exact H
     have Ny566:=zh hy566;clear hy566;obtain ⟨y567,hy567⟩ : ∃ y_ : List (S68),y_=(y566.set (x5_1 : Int).toNat (⟨(rd_T68 y566 x5_1).f0,(⟨(rd_T68 y566 x5_1).f1.f0,wrap64 ((wrap64 (x1_1 + 1)) + 1),(rd_T68 y566 x5_1).f1.f2⟩ : S26)⟩ : S68)):=⟨_,rfl⟩;replace H : ((laws_markText.f k1 (wrap64 ((wrap64 ((wrap64 (x1_1 + 1)) + 1)) + 1))).bind fun t568 => (laws_markFieldS.l0 k1 (y567.set (x5_1 : Int).toNat (⟨(rd_T68 y567 x5_1).f0,(⟨(rd_T68 y567 x5_1).f1.f0,(rd_T68 y567 x5_1).f1.f1,t568⟩ : S26)⟩ : S68)) (wrap64 ((wrap64 ((wrap64 ((wrap64 (x1_1 + 1)) + 1)) + 1)) + 1)) (wrap64 (x5_1 + 1))))=some (r1,r2):=by first|(rw [hy567];with_reducible exact H)|(have H2_:=(Option.bind_some _ _).symm.trans H;rw [hy567];with_reducible exact H2_)|(have H2_:=(Option.bind_some _ _).symm.trans H;with_reducible exact H2_)|with_reducible exact H|(rw [hy567];exact H)|exact H
     have Ny567:=zh hy567;clear hy567;replace H:=Option.bind_eq_some_iff.mp H;obtain ⟨t568,A90,H⟩:=H;replace H : (laws_markFieldS.l0 k1 (y567.set (x5_1 : Int).toNat (⟨(rd_T68 y567 x5_1).f0,(⟨(rd_T68 y567 x5_1).f1.f0,(rd_T68 y567 x5_1).f1.f1,t568⟩ : S26)⟩ : S68)) (wrap64 ((wrap64 ((wrap64 ((wrap64 (x1_1 + 1)) + 1)) + 1)) + 1)) (wrap64 (x5_1 + 1)))=some (r1,r2):=H;have A9:=zh A90;clear A90;obtain ⟨y569,hy569⟩ : ∃ y_ : List (S68),y_=(y567.set (x5_1 : Int).toNat (⟨(rd_T68 y567 x5_1).f0,(⟨(rd_T68 y567 x5_1).f1.f0,(rd_T68 y567 x5_1).f1.f1,t568⟩ : S26)⟩ : S68)):=⟨_,rfl⟩;replace H : (laws_markFieldS.l0 k1 y569 (wrap64 ((wrap64 ((wrap64 ((wrap64 (x1_1 + 1)) + 1)) + 1)) + 1)) (wrap64 (x5_1 + 1)))=some (r1,r2):=by first|(rw [hy569];with_reducible exact H)|(have H2_:=(Option.bind_some _ _).symm.trans H;rw [hy569];with_reducible exact H2_)|(have H2_:=(Option.bind_some _ _).symm.trans H;with_reducible exact H2_)|with_reducible exact H|(rw [hy569];exact H)|exact H
     have Ny569:=zh hy569;clear hy569;have H':=zh H;clear H;obtain ⟨Ao11,co11,eo11⟩:=Kd.R_slice HO_0.out;subst eo11
     go_wp2_with (first|((with_reducible refine gate_callee (f:=63) rfl ?_);refine goesL_ (some 15) rfl rfl Try.func63 (by kernel_rfl) rfl #[.int .i64 x1_1] rfl (by (try simp only [zt,zu,zv]);first|done|rfl|(simp only [zw,zx];rfl)|(simp only [gt_iff_lt,ge_iff_le,Int.ofNat_lt,Int.ofNat_le];rfl)) ?_;(with_reducible refine (laws_markText.calls k1  x1_1 t564 _ A4.out).mono ?_);rintro e w12 ⟨rfl,hb⟩;refine ⟨_,rfl,?_⟩;have n0_:=zh (Kd.R_below (by (with_reducible repeat (first|apply zm|apply zn|apply zo));exact HO_0.out) hb);have n1_:=zh (Kept.below (S:=(fun k_ => P0_ k_)) (by repeat (first|(with_reducible first|exact HK.out|apply zr|apply zp|apply zq)|exact HK.out)) hb);have n2_:=zh (below_step (by repeat (first|(with_reducible first|exact HB.out|apply za|apply zb|apply zc)|exact HB.out)) hb);clear HO_0;clear HK;clear HB;have HO_0:=n0_;have HK:=n1_;have HB:=n2_;clear n0_ n1_ n2_;(try clear hb);(try clear hb2);(try clear hk);(try clear hi);have p6 : 0≤(x5_1 : Int):=zy (by first|(with_reducible assumption)|assumption);have q6 : (x5_1 : Int)<((x0_1.length : Int) : Int):=zy (by first|(with_reducible assumption)|assumption);obtain ⟨go6,co6,eo6,gb6,gl6,cl6,HG6⟩:=Kd.R_form HO_0.out (by omega);(first|cases eo6|(injection eo6 with ea_ en_ ec_;(first|subst ea_|(injection ea_ with ea_;subst ea_));subst ec_;clear en_));have GB6:=zh gb6;have GG6:=zh HG6;clear gb6 gl6 HG6;have HMgo6:=zh (show (P0_ go6∨w.heap.size≤go6) from (HO_0.out.1 _ rfl));obtain ⟨ce6,hcl6,hM6,hcc6,hfr6⟩:=Kd.R_elem HO_0.out z68 (x5_1 : Int) p6 q6;obtain rfl:=k68_openM hM6;have hx6_0 : w12.cell? ⟨go6,(x5_1 : Int).toNat * 4,none⟩=some (.string ((rd_T68 x0_1 x5_1).f0)):=hcc6 0 _ rfl;have hx6_1 : w12.cell? ⟨go6,(x5_1 : Int).toNat * 4 + 1,none⟩=some (.int .i64 ((rd_T68 x0_1 x5_1).f1.f0)):=hcc6 1 _ rfl;have hx6_2 : w12.cell? ⟨go6,(x5_1 : Int).toNat * 4 + 2,none⟩=some (.int .i64 ((rd_T68 x0_1 x5_1).f1.f1)):=hcc6 2 _ rfl;have hx6_3 : w12.cell? ⟨go6,(x5_1 : Int).toNat * 4 + 3,none⟩=some (.string ((rd_T68 x0_1 x5_1).f1.f2)):=hcc6 3 _ rfl;have hf6_0 : w12.frozen? ⟨go6,(x5_1 : Int).toNat * 4,none⟩=false:=hfr6 0;have hf6_1 : w12.frozen? ⟨go6,(x5_1 : Int).toNat * 4 + 1,none⟩=false:=hfr6 1;have hf6_2 : w12.frozen? ⟨go6,(x5_1 : Int).toNat * 4 + 2,none⟩=false:=hfr6 2;have hf6_3 : w12.frozen? ⟨go6,(x5_1 : Int).toNat * 4 + 3,none⟩=false:=hfr6 3;clear hcl6 hcc6 hfr6 hM6;replace p6:=eq_true p6;replace q6:=eq_true q6;have HX13:=zh (show Kd.R k68 68 w12 w0.heap.size (fun k_ => (P0_ k_∨w.heap.size≤k_)) (.slice (some ⟨go6,0,none⟩) x0_1.length co11) x0_1 from (by (with_reducible repeat (first|apply zm|apply zn|apply zo));exact HO_0.out));obtain ⟨ce13,hcl13,hM13,hcc13,hfr13⟩:=Kd.R_elem HX13.out z68 (x5_1 : Int) (zy (by first|(with_reducible assumption)|assumption)) (by have h_ : (x5_1 : Int)<((x0_1.length : Int) : Int):=zy (by first|(with_reducible assumption)|assumption);first|exact h_|(have e_:=(Kd.R_reads' HO_0.out).1;omega)|simpa using h_);obtain rfl:=k68_openM hM13;have HP13:=Kd.R_seg HX13.out (x5_1 : Int) (zy (by first|(with_reducible assumption)|assumption)) (by have h_ : (x5_1 : Int)<((x0_1.length : Int) : Int):=zy (by first|(with_reducible assumption)|assumption);first|exact h_|(have e_:=(Kd.R_reads' HO_0.out).1;omega)|simpa using h_) (seg:=[.string t564]) (j:=0) hcl13 hcc13 (show 1≤4 from by decide) (x':=(⟨t564,(⟨(rd_T68 x0_1 x5_1).f1.f0,(rd_T68 x0_1 x5_1).f1.f1,(rd_T68 x0_1 x5_1).f1.f2⟩ : S26)⟩ : S68)) (k68_mkM _ _ _ (⟨t564,(⟨(rd_T68 x0_1 x5_1).f1.f0,(rd_T68 x0_1 x5_1).f1.f1,(rd_T68 x0_1 x5_1).f1.f2⟩ : S26)⟩ : S68) ) (fun _ hk => hk);have hx13_0:=hcc13 0 _ rfl;(try simp only [show (k68).sz=4 from rfl,Nat.mul_one,Nat.add_zero] at hx13_0);have hf13_0:=hfr13 0;(try simp only [show (k68).sz=4 from rfl,Nat.mul_one,Nat.add_zero] at hf13_0);clear hcl13 hcc13 hfr13 hM13)|((with_reducible refine gate_store (t:=9) (p:=17) rfl ?_);refine store_event (t:=9) (p:=17) (v:=?vo_w14) (w1:=(w12.setCell ⟨go6,(x5_1 : Int).toNat * 4,none⟩ (.string t564))) ?hg ?ho ?hn ?hr ?_;(case ho => rfl);(case hg => rfl);(case hn => rfl);(case hr => first|(go_simp;done)|(go_simp;rfl));intro w14 hw;have hg : w12.grownBy w14 (some go6):=(by rw [hw];exact HP13.2);have hp_ : Kd.R k68 68 w14 w0.heap.size (fun k_ => (P0_ k_∨w.heap.size≤k_)) (.slice (some ⟨go6,0,none⟩) x0_1.length co11) y565:=(by rw [hw,Ny565.out];exact HP13.1);clear HP13;have n0_:=zh (hp_);have n1_:=zh ((by rw [hw];exact zd (HB.out) GB6.out : Below w0.heap.size w0 w14));have n2_:=zh (Kept.of_grown (S:=(fun k_ => P0_ k_)) hg (by repeat (first|(with_reducible first|exact HK.out|apply zr|apply zp|apply zq)|exact HK.out)) (fun k_ e_ => (HO_0.out.1 k_ e_)));clear HO_0;clear HB;clear HK;have HO_0:=n0_;have HB:=n1_;have HK:=n2_;clear n0_ n1_ n2_;clear hg hw hp_;have p7 : 0≤(x5_1 : Int):=zy (by first|(with_reducible assumption)|assumption);have q7 : (x5_1 : Int)<((x0_1.length : Int) : Int):=zy (by first|(with_reducible assumption)|assumption);obtain ⟨ce7,hcl7,hM7,hcc7,hfr7⟩:=Kd.R_elem HO_0.out z68 (x5_1 : Int) p7 q7;obtain rfl:=k68_openM hM7;have hx7_0 : w14.cell? ⟨go6,(x5_1 : Int).toNat * 4,none⟩=some (.string ((rd_T68 y565 x5_1).f0)):=hcc7 0 _ rfl;have hx7_1 : w14.cell? ⟨go6,(x5_1 : Int).toNat * 4 + 1,none⟩=some (.int .i64 ((rd_T68 y565 x5_1).f1.f0)):=hcc7 1 _ rfl;have hx7_2 : w14.cell? ⟨go6,(x5_1 : Int).toNat * 4 + 2,none⟩=some (.int .i64 ((rd_T68 y565 x5_1).f1.f1)):=hcc7 2 _ rfl;have hx7_3 : w14.cell? ⟨go6,(x5_1 : Int).toNat * 4 + 3,none⟩=some (.string ((rd_T68 y565 x5_1).f1.f2)):=hcc7 3 _ rfl;have hf7_0 : w14.frozen? ⟨go6,(x5_1 : Int).toNat * 4,none⟩=false:=hfr7 0;have hf7_1 : w14.frozen? ⟨go6,(x5_1 : Int).toNat * 4 + 1,none⟩=false:=hfr7 1;have hf7_2 : w14.frozen? ⟨go6,(x5_1 : Int).toNat * 4 + 2,none⟩=false:=hfr7 2;have hf7_3 : w14.frozen? ⟨go6,(x5_1 : Int).toNat * 4 + 3,none⟩=false:=hfr7 3;clear hcl7 hcc7 hfr7 hM7;replace p7:=eq_true p7;replace q7:=eq_true q7;have HX15:=zh (show Kd.R k68 68 w14 w0.heap.size (fun k_ => (P0_ k_∨w.heap.size≤k_)) (.slice (some ⟨go6,0,none⟩) x0_1.length co11) y565 from (by (with_reducible repeat (first|apply zm|apply zn|apply zo));exact HO_0.out));obtain ⟨ce15,hcl15,hM15,hcc15,hfr15⟩:=Kd.R_elem HX15.out z68 (x5_1 : Int) (zy (by first|(with_reducible assumption)|assumption)) (by have h_ : (x5_1 : Int)<((x0_1.length : Int) : Int):=zy (by first|(with_reducible assumption)|assumption);first|exact h_|(have e_:=(Kd.R_reads' HO_0.out).1;omega)|simpa using h_);obtain rfl:=k68_openM hM15;have HP15:=Kd.R_seg HX15.out (x5_1 : Int) (zy (by first|(with_reducible assumption)|assumption)) (by have h_ : (x5_1 : Int)<((x0_1.length : Int) : Int):=zy (by first|(with_reducible assumption)|assumption);first|exact h_|(have e_:=(Kd.R_reads' HO_0.out).1;omega)|simpa using h_) (seg:=[.int .i64 (wrap64 (x1_1 + 1))]) (j:=1) hcl15 hcc15 (show 2≤4 from by decide) (x':=(⟨(rd_T68 y565 x5_1).f0,(⟨wrap64 (x1_1 + 1),(rd_T68 y565 x5_1).f1.f1,(rd_T68 y565 x5_1).f1.f2⟩ : S26)⟩ : S68)) (k68_mkM _ _ _ (⟨(rd_T68 y565 x5_1).f0,(⟨wrap64 (x1_1 + 1),(rd_T68 y565 x5_1).f1.f1,(rd_T68 y565 x5_1).f1.f2⟩ : S26)⟩ : S68) ) (fun _ hk => hk);have hx15_1:=hcc15 1 _ rfl;(try simp only [show (k68).sz=4 from rfl,Nat.mul_one,Nat.add_zero] at hx15_1);have hf15_1:=hfr15 1;(try simp only [show (k68).sz=4 from rfl,Nat.mul_one,Nat.add_zero] at hf15_1);clear hcl15 hcc15 hfr15 hM15)|((with_reducible refine gate_store (t:=3) (p:=25) rfl ?_);refine store_event (t:=3) (p:=25) (v:=?vo_w16) (w1:=(w14.setCell ⟨go6,(x5_1 : Int).toNat * 4 + 1,none⟩ (.int .i64 (wrap64 (x1_1 + 1))))) ?hg ?ho ?hn ?hr ?_;(case ho => rfl);(case hg => rfl);(case hn => rfl);(case hr => first|(go_simp;done)|(go_simp;rfl));intro w16 hw;have hg : w14.grownBy w16 (some go6):=(by rw [hw];exact HP15.2);have hp_ : Kd.R k68 68 w16 w0.heap.size (fun k_ => (P0_ k_∨w.heap.size≤k_)) (.slice (some ⟨go6,0,none⟩) x0_1.length co11) y566:=(by rw [hw,Ny566.out];exact HP15.1);clear HP15;have n0_:=zh (hp_);have n1_:=zh ((by rw [hw];exact zd (HB.out) GB6.out : Below w0.heap.size w0 w16));have n2_:=zh (Kept.of_grown (S:=(fun k_ => P0_ k_)) hg (by repeat (first|(with_reducible first|exact HK.out|apply zr|apply zp|apply zq)|exact HK.out)) (fun k_ e_ => (HO_0.out.1 k_ e_)));clear HO_0;clear HB;clear HK;have HO_0:=n0_;have HB:=n1_;have HK:=n2_;clear n0_ n1_ n2_;clear hg hw hp_;have p8 : 0≤(x5_1 : Int):=zy (by first|(with_reducible assumption)|assumption);have q8 : (x5_1 : Int)<((x0_1.length : Int) : Int):=zy (by first|(with_reducible assumption)|assumption);obtain ⟨ce8,hcl8,hM8,hcc8,hfr8⟩:=Kd.R_elem HO_0.out z68 (x5_1 : Int) p8 q8;obtain rfl:=k68_openM hM8;have hx8_0 : w16.cell? ⟨go6,(x5_1 : Int).toNat * 4,none⟩=some (.string ((rd_T68 y566 x5_1).f0)):=hcc8 0 _ rfl;have hx8_1 : w16.cell? ⟨go6,(x5_1 : Int).toNat * 4 + 1,none⟩=some (.int .i64 ((rd_T68 y566 x5_1).f1.f0)):=hcc8 1 _ rfl;have hx8_2 : w16.cell? ⟨go6,(x5_1 : Int).toNat * 4 + 2,none⟩=some (.int .i64 ((rd_T68 y566 x5_1).f1.f1)):=hcc8 2 _ rfl;have hx8_3 : w16.cell? ⟨go6,(x5_1 : Int).toNat * 4 + 3,none⟩=some (.string ((rd_T68 y566 x5_1).f1.f2)):=hcc8 3 _ rfl;have hf8_0 : w16.frozen? ⟨go6,(x5_1 : Int).toNat * 4,none⟩=false:=hfr8 0;have hf8_1 : w16.frozen? ⟨go6,(x5_1 : Int).toNat * 4 + 1,none⟩=false:=hfr8 1;have hf8_2 : w16.frozen? ⟨go6,(x5_1 : Int).toNat * 4 + 2,none⟩=false:=hfr8 2;have hf8_3 : w16.frozen? ⟨go6,(x5_1 : Int).toNat * 4 + 3,none⟩=false:=hfr8 3;clear hcl8 hcc8 hfr8 hM8;replace p8:=eq_true p8;replace q8:=eq_true q8;have HX17:=zh (show Kd.R k68 68 w16 w0.heap.size (fun k_ => (P0_ k_∨w.heap.size≤k_)) (.slice (some ⟨go6,0,none⟩) x0_1.length co11) y566 from (by (with_reducible repeat (first|apply zm|apply zn|apply zo));exact HO_0.out));obtain ⟨ce17,hcl17,hM17,hcc17,hfr17⟩:=Kd.R_elem HX17.out z68 (x5_1 : Int) (zy (by first|(with_reducible assumption)|assumption)) (by have h_ : (x5_1 : Int)<((x0_1.length : Int) : Int):=zy (by first|(with_reducible assumption)|assumption);first|exact h_|(have e_:=(Kd.R_reads' HO_0.out).1;omega)|simpa using h_);obtain rfl:=k68_openM hM17;have HP17:=Kd.R_seg HX17.out (x5_1 : Int) (zy (by first|(with_reducible assumption)|assumption)) (by have h_ : (x5_1 : Int)<((x0_1.length : Int) : Int):=zy (by first|(with_reducible assumption)|assumption);first|exact h_|(have e_:=(Kd.R_reads' HO_0.out).1;omega)|simpa using h_) (seg:=[.int .i64 (wrap64 ((wrap64 (x1_1 + 1)) + 1))]) (j:=2) hcl17 hcc17 (show 3≤4 from by decide) (x':=(⟨(rd_T68 y566 x5_1).f0,(⟨(rd_T68 y566 x5_1).f1.f0,wrap64 ((wrap64 (x1_1 + 1)) + 1),(rd_T68 y566 x5_1).f1.f2⟩ : S26)⟩ : S68)) (k68_mkM _ _ _ (⟨(rd_T68 y566 x5_1).f0,(⟨(rd_T68 y566 x5_1).f1.f0,wrap64 ((wrap64 (x1_1 + 1)) + 1),(rd_T68 y566 x5_1).f1.f2⟩ : S26)⟩ : S68) ) (fun _ hk => hk);have hx17_2:=hcc17 2 _ rfl;(try simp only [show (k68).sz=4 from rfl,Nat.mul_one,Nat.add_zero] at hx17_2);have hf17_2:=hfr17 2;(try simp only [show (k68).sz=4 from rfl,Nat.mul_one,Nat.add_zero] at hf17_2);clear hcl17 hcc17 hfr17 hM17)|((with_reducible refine gate_store (t:=3) (p:=33) rfl ?_);refine store_event (t:=3) (p:=33) (v:=?vo_w18) (w1:=(w16.setCell ⟨go6,(x5_1 : Int).toNat * 4 + 2,none⟩ (.int .i64 (wrap64 ((wrap64 (x1_1 + 1)) + 1))))) ?hg ?ho ?hn ?hr ?_;(case ho => rfl);(case hg => rfl);(case hn => rfl);(case hr => first|(go_simp;done)|(go_simp;rfl));intro w18 hw;have hg : w16.grownBy w18 (some go6):=(by rw [hw];exact HP17.2);have hp_ : Kd.R k68 68 w18 w0.heap.size (fun k_ => (P0_ k_∨w.heap.size≤k_)) (.slice (some ⟨go6,0,none⟩) x0_1.length co11) y567:=(by rw [hw,Ny567.out];exact HP17.1);clear HP17;have n0_:=zh (hp_);have n1_:=zh ((by rw [hw];exact zd (HB.out) GB6.out : Below w0.heap.size w0 w18));have n2_:=zh (Kept.of_grown (S:=(fun k_ => P0_ k_)) hg (by repeat (first|(with_reducible first|exact HK.out|apply zr|apply zp|apply zq)|exact HK.out)) (fun k_ e_ => (HO_0.out.1 k_ e_)));clear HO_0;clear HB;clear HK;have HO_0:=n0_;have HB:=n1_;have HK:=n2_;clear n0_ n1_ n2_;clear hg hw hp_)|((with_reducible refine gate_callee (f:=63) rfl ?_);refine goesL_ (some 39) rfl rfl Try.func63 (by kernel_rfl) rfl #[.int .i64 (wrap64 ((wrap64 ((wrap64 (x1_1 + 1)) + 1)) + 1))] rfl (by (try simp only [zt,zu,zv]);first|done|rfl|(simp only [zw,zx];rfl)|(simp only [gt_iff_lt,ge_iff_le,Int.ofNat_lt,Int.ofNat_le];rfl)) ?_;(with_reducible refine (laws_markText.calls k1  (wrap64 ((wrap64 ((wrap64 (x1_1 + 1)) + 1)) + 1)) t568 _ A9.out).mono ?_);rintro e w19 ⟨rfl,hb⟩;refine ⟨_,rfl,?_⟩;have n0_:=zh (Kd.R_below (by (with_reducible repeat (first|apply zm|apply zn|apply zo));exact HO_0.out) hb);have n1_:=zh (Kept.below (S:=(fun k_ => P0_ k_)) (by repeat (first|(with_reducible first|exact HK.out|apply zr|apply zp|apply zq)|exact HK.out)) hb);have n2_:=zh (below_step (by repeat (first|(with_reducible first|exact HB.out|apply za|apply zb|apply zc)|exact HB.out)) hb);clear HO_0;clear HK;clear HB;have HO_0:=n0_;have HK:=n1_;have HB:=n2_;clear n0_ n1_ n2_;(try clear hb);(try clear hb2);(try clear hk);(try clear hi);have p10 : 0≤(x5_1 : Int):=zy (by first|(with_reducible assumption)|assumption);have q10 : (x5_1 : Int)<((x0_1.length : Int) : Int):=zy (by first|(with_reducible assumption)|assumption);obtain ⟨ce10,hcl10,hM10,hcc10,hfr10⟩:=Kd.R_elem HO_0.out z68 (x5_1 : Int) p10 q10;obtain rfl:=k68_openM hM10;have hx10_0 : w19.cell? ⟨go6,(x5_1 : Int).toNat * 4,none⟩=some (.string ((rd_T68 y567 x5_1).f0)):=hcc10 0 _ rfl;have hx10_1 : w19.cell? ⟨go6,(x5_1 : Int).toNat * 4 + 1,none⟩=some (.int .i64 ((rd_T68 y567 x5_1).f1.f0)):=hcc10 1 _ rfl;have hx10_2 : w19.cell? ⟨go6,(x5_1 : Int).toNat * 4 + 2,none⟩=some (.int .i64 ((rd_T68 y567 x5_1).f1.f1)):=hcc10 2 _ rfl;have hx10_3 : w19.cell? ⟨go6,(x5_1 : Int).toNat * 4 + 3,none⟩=some (.string ((rd_T68 y567 x5_1).f1.f2)):=hcc10 3 _ rfl;have hf10_0 : w19.frozen? ⟨go6,(x5_1 : Int).toNat * 4,none⟩=false:=hfr10 0;have hf10_1 : w19.frozen? ⟨go6,(x5_1 : Int).toNat * 4 + 1,none⟩=false:=hfr10 1;have hf10_2 : w19.frozen? ⟨go6,(x5_1 : Int).toNat * 4 + 2,none⟩=false:=hfr10 2;have hf10_3 : w19.frozen? ⟨go6,(x5_1 : Int).toNat * 4 + 3,none⟩=false:=hfr10 3;clear hcl10 hcc10 hfr10 hM10;replace p10:=eq_true p10;replace q10:=eq_true q10;have HX20:=zh (show Kd.R k68 68 w19 w0.heap.size (fun k_ => (P0_ k_∨w.heap.size≤k_)) (.slice (some ⟨go6,0,none⟩) x0_1.length co11) y567 from (by (with_reducible repeat (first|apply zm|apply zn|apply zo));exact HO_0.out));obtain ⟨ce20,hcl20,hM20,hcc20,hfr20⟩:=Kd.R_elem HX20.out z68 (x5_1 : Int) (zy (by first|(with_reducible assumption)|assumption)) (by have h_ : (x5_1 : Int)<((x0_1.length : Int) : Int):=zy (by first|(with_reducible assumption)|assumption);first|exact h_|(have e_:=(Kd.R_reads' HO_0.out).1;omega)|simpa using h_);obtain rfl:=k68_openM hM20;have HP20:=Kd.R_seg HX20.out (x5_1 : Int) (zy (by first|(with_reducible assumption)|assumption)) (by have h_ : (x5_1 : Int)<((x0_1.length : Int) : Int):=zy (by first|(with_reducible assumption)|assumption);first|exact h_|(have e_:=(Kd.R_reads' HO_0.out).1;omega)|simpa using h_) (seg:=[.string t568]) (j:=3) hcl20 hcc20 (show 4≤4 from by decide) (x':=(⟨(rd_T68 y567 x5_1).f0,(⟨(rd_T68 y567 x5_1).f1.f0,(rd_T68 y567 x5_1).f1.f1,t568⟩ : S26)⟩ : S68)) (k68_mkM _ _ _ (⟨(rd_T68 y567 x5_1).f0,(⟨(rd_T68 y567 x5_1).f1.f0,(rd_T68 y567 x5_1).f1.f1,t568⟩ : S26)⟩ : S68) ) (fun _ hk => hk);have hx20_3:=hcc20 3 _ rfl;(try simp only [show (k68).sz=4 from rfl,Nat.mul_one,Nat.add_zero] at hx20_3);have hf20_3:=hfr20 3;(try simp only [show (k68).sz=4 from rfl,Nat.mul_one,Nat.add_zero] at hf20_3);clear hcl20 hcc20 hfr20 hM20)|((with_reducible refine gate_store (t:=9) (p:=42) rfl ?_);refine store_event (t:=9) (p:=42) (v:=?vo_w21) (w1:=(w19.setCell ⟨go6,(x5_1 : Int).toNat * 4 + 3,none⟩ (.string t568))) ?hg ?ho ?hn ?hr ?_;(case ho => rfl);(case hg => rfl);(case hn => rfl);(case hr => first|(go_simp;done)|(go_simp;rfl));intro w21 hw;have hg : w19.grownBy w21 (some go6):=(by rw [hw];exact HP20.2);have hp_ : Kd.R k68 68 w21 w0.heap.size (fun k_ => (P0_ k_∨w.heap.size≤k_)) (.slice (some ⟨go6,0,none⟩) x0_1.length co11) y569:=(by rw [hw,Ny569.out];exact HP20.1);clear HP20;have n0_:=zh (hp_);have n1_:=zh ((by rw [hw];exact zd (HB.out) GB6.out : Below w0.heap.size w0 w21));have n2_:=zh (Kept.of_grown (S:=(fun k_ => P0_ k_)) hg (by repeat (first|(with_reducible first|exact HK.out|apply zr|apply zp|apply zq)|exact HK.out)) (fun k_ e_ => (HO_0.out.1 k_ e_)));clear HO_0;clear HB;clear HK;have HO_0:=n0_;have HB:=n1_;have HK:=n2_;clear n0_ n1_ n2_;clear hg hw hp_))
     go_roundg k1
     case measure => have:=HK1.out;omega
     case rel => exact ⟨(y569),(wrap64 ((wrap64 ((wrap64 ((wrap64 (x1_1 + 1)) + 1)) + 1)) + 1)),(wrap64 (x5_1 + 1)),(by first|rfl|(simp;done)|(simp [*];done)),(by first|rfl|(simp;done)|(simp [*];done)),H',⟨by have:=HK1.out;omega⟩,⟨by (with_reducible repeat (first|apply zm|apply zn|apply zo));exact HO_0.out⟩,⟨by repeat (first|(with_reducible first|exact HK.out|apply zr|apply zp|apply zq)|exact HK.out)⟩,⟨by repeat (first|(with_reducible first|exact HB.out|apply za|apply zb|apply zc)|exact HB.out)⟩⟩
    rw [if_neg c5] at H;exact absurd H (by simp)
   rw [if_neg c3] at H;have c3b0 : decide (x5_1<(x0_1.length : Int))=false:=decide_eq_false c3;clear c3;simp only [Option.some.injEq,Prod.mk.injEq] at H;obtain ⟨rfl,rfl⟩:=H;obtain ⟨Ao22,co22,eo22⟩:=Kd.R_slice HO_0.out;subst eo22
   go_wp2
   go_ret
   exact ⟨by first|rfl|(simp [errW_none,errW_some] <;> rfl)|(simp [*,errW_none,errW_some] <;> rfl),by (with_reducible repeat (first|apply zm|apply zn|apply zo));exact HO_0.out,by repeat (first|(with_reducible first|exact HB.out|apply za|apply zb|apply zc)|exact HB.out),by repeat (first|(with_reducible first|exact HK.out|apply zr|apply zp|apply zq)|exact HK.out)⟩

end Go.Proofs.Ytpmeglcmhiihoaa.Q
end
section
namespace Go.Proofs.Ytpmeglcmhiihoaa.Q
open Go.RowKit Go.Proofs.YtpmeglcmhiihoaaW.PrintWords Go.Proofs.YtpmeglcmhiihoaaW.PrintLast Go.Proofs.YtpmeglcmhiihoaaW.PrintMore
attribute [local go_sem] max2_int min2_int max_two min_two max_three min_three max_four min_four max2_str min2_str str_geq str_gtr str_leq   -- for this text's walks alone
set_option linter.unusedVariables false
set_option linter.unusedSimpArgs false

def laws_heldFieldS.l0 : Nat→List (S68)→Int→Int→Option (Int)
 | 0,_,_,_ => none
 | k + 1,x0,x1,x5 => if x5<(x0.length : Int) then (if 0≤x5 then ((laws_markText.f k x1).bind fun t571 => (if ((rd_T68 x0 x5).f0).toList=t571.toList then (if ((rd_T68 x0 x5).f1.f0)=(wrap64 (x1 + 1)) then (if ((rd_T68 x0 x5).f1.f1)=(wrap64 ((wrap64 (x1 + 1)) + 1)) then ((laws_markText.f k (wrap64 ((wrap64 ((wrap64 (x1 + 1)) + 1)) + 1))).bind fun t575 => (if ((rd_T68 x0 x5).f1.f2).toList=t575.toList then (laws_heldFieldS.l0 k x0 (wrap64 ((wrap64 ((wrap64 ((wrap64 (x1 + 1)) + 1)) + 1)) + 1)) (wrap64 (x5 + 1))) else (some (-1)))) else (some (-1))) else (some (-1))) else (some (-1)))) else (none)) else (some x1)
def laws_heldFieldS.f (k : Nat) (l0 : List (S68)) (a1 : Int) : Option (Int):=laws_heldFieldS.l0 k l0 a1 0
theorem laws_heldFieldS.mono_l : ∀ k,(∀ y0 y1 y2,LeO (laws_heldFieldS.l0 k y0 y1 y2) (laws_heldFieldS.l0 (k + 1) y0 y1 y2))
 | 0 => fun _ _ _ r h => by simp [laws_heldFieldS.l0] at h
 | k + 1 => by
  have ih0:=laws_heldFieldS.mono_l k;intro y0 y1 y2;unfold laws_heldFieldS.l0
  repeat' first
  | (with_reducible exact ih0 _ _ _)
  | (with_reducible exact laws_markText.mono _ _)
  | (with_reducible exact LeO.refl _)
  | (with_reducible exact LeO.none _)
  | (with_reducible refine LeO.ite ?_ ?_)
  | (with_reducible refine LeO.bind ?_ (fun _ => ?_))
  | exact ih0 _ _ _
  | exact laws_markText.mono _ _
  | exact LeO.none _
  | refine LeO.ite ?_ ?_
  | refine LeO.bind ?_ (fun _ => ?_)
theorem laws_heldFieldS.mono : ∀ a0 a1 k,LeO (laws_heldFieldS.f k a0 a1) (laws_heldFieldS.f (k + 1) a0 a1):=by
 intro a0 a1 k;have ih0:=laws_heldFieldS.mono_l k;unfold laws_heldFieldS.f
 repeat' first
   | (with_reducible exact ih0 _ _ _)
   | (with_reducible exact laws_markText.mono _ _)
   | (with_reducible exact LeO.refl _)
   | (with_reducible exact LeO.none _)
   | (with_reducible refine LeO.ite ?_ ?_)
   | (with_reducible refine LeO.bind ?_ (fun _ => ?_))
   | exact ih0 _ _ _
   | exact laws_markText.mono _ _
   | exact LeO.none _
   | refine LeO.ite ?_ ?_
   | refine LeO.bind ?_ (fun _ => ?_)
def laws_heldFieldS.T4 : Bool×List (List Nat×List Nat):=(true,[([],[]),([],[]),([0,1],[0,1]),([2],[2]),([3],[3]),([],[]),([5],[5]),([4,6],[4,6])])
def laws_heldFieldS.B4 : List Nat:=[0,0,3,7,15,0,32,127]
theorem laws_heldFieldS.tab4 : rtab .any (opsOf Try.f38 4)=laws_heldFieldS.T4:=by kernel_rfl
theorem laws_heldFieldS.bits4 : waitsOk laws_heldFieldS.T4.2 laws_heldFieldS.B4=true:=by kernel_rfl
def laws_heldFieldS.T13 : Bool×List (List Nat×List Nat):=(true,[([],[]),([],[]),([0,1],[0,1]),([2],[2]),([3],[3]),([4],[4]),([],[]),([6],[6]),([5,7],[5,7])])
def laws_heldFieldS.B13 : List Nat:=[0,0,3,7,15,31,0,64,255]
theorem laws_heldFieldS.tab13 : rtab .any (opsOf Try.f38 13)=laws_heldFieldS.T13:=by kernel_rfl
theorem laws_heldFieldS.bits13 : waitsOk laws_heldFieldS.T13.2 laws_heldFieldS.B13=true:=by kernel_rfl
set_option maxHeartbeats 8000000 in
set_option maxRecDepth 100000 in
theorem laws_heldFieldS.calls (k : Nat) (A0 : Option Addr) (c0 : Nat) (l0 : List (S68)) (a1 : Int) (r : Int) (w : World) (hr0 : Kd.C k68 w A0 l0.length l0) (hc0 : l0.length≤c0) (h : laws_heldFieldS.f k l0 a1=some r) :
  Calls Try.prog 38 #[.slice A0 l0.length c0,.int .i64 a1] w fun e w' => e = .returned (.int .i64 r)∧Below w.heap.size w w':=by
 have HR0:=zh hr0;have HC0:=zh hc0;clear hr0 hc0;have HB:=zh (Below.refl w.heap.size w);have H : (laws_heldFieldS.l0 k l0 a1 0)=some r:=h;clear h;have H':=zh H;clear H
 go_enter Try.func38,Try.ntmps38
 go_wp2
 go_loopg [1,5] k (fun kq v1 v5 w' => ∃ (x1_1 : Int) (x5_1 : Int),v1 = .int .i64 x1_1∧v5 = .int .i64 x5_1∧Aside0 (laws_heldFieldS.l0 kq l0 x1_1 x5_1=some r)∧Aside0 (kq≤k)∧Aside0 (Below w.heap.size w w'))
 case atStart => exact ⟨(a1),(0),(by first|rfl|(simp;done)|(simp [*];done)),(by first|rfl|(simp;done)|(simp [*];done)),H',⟨Nat.le_refl _⟩,⟨by repeat (first|(with_reducible first|exact HB.out|apply za|apply zb|apply zc)|exact HB.out)⟩⟩
 case round =>
  clear H'
  try clear p2
  obtain ⟨x1_1,x5_1,rfl,rfl,HA,HK1,HB⟩:=hrel
  cases gk with
  | zero => exact absurd HA.out (by simp [laws_heldFieldS.l0])
  | succ k1 =>
   have H:=HA.out;clear HA;simp only [laws_heldFieldS.l0] at H
   by_cases c3 : x5_1<(l0.length : Int)
   ·
    rw [if_pos c3] at H
    have c3b0 : decide (x5_1<(l0.length : Int))=true:=decide_eq_true c3;clear c3
    by_cases c4 : 0≤x5_1
    ·
     rw [if_pos c4] at H
     have c4b0 : decide (0≤x5_1)=true:=decide_eq_true c4;clear c4;replace H:=Option.bind_eq_some_iff.mp H;obtain ⟨t571,A50,H⟩:=H;replace H : (if ((rd_T68 l0 x5_1).f0).toList=t571.toList then (if ((rd_T68 l0 x5_1).f1.f0)=(wrap64 (x1_1 + 1)) then (if ((rd_T68 l0 x5_1).f1.f1)=(wrap64 ((wrap64 (x1_1 + 1)) + 1)) then ((laws_markText.f k1 (wrap64 ((wrap64 ((wrap64 (x1_1 + 1)) + 1)) + 1))).bind fun t575 => (if ((rd_T68 l0 x5_1).f1.f2).toList=t575.toList then (laws_heldFieldS.l0 k1 l0 (wrap64 ((wrap64 ((wrap64 ((wrap64 (x1_1 + 1)) + 1)) + 1)) + 1)) (wrap64 (x5_1 + 1))) else (some (-1)))) else (some (-1))) else (some (-1))) else (some (-1)))=some r:=H;have A5:=zh A50;clear A50
     by_cases c6 : ((rd_T68 l0 x5_1).f0).toList=t571.toList
     ·
      rw [if_pos c6] at H
      have c6b0 : (((rd_T68 l0 x5_1).f0).toList == t571.toList)=true:=beq_iff_eq.mpr c6;have c6b1 : (((rd_T68 l0 x5_1).f0).toList != t571.toList)=false:=bne_eq_false_iff_eq.mpr c6;clear c6
      by_cases c7 : ((rd_T68 l0 x5_1).f1.f0)=(wrap64 (x1_1 + 1))
      ·
       rw [if_pos c7] at H
       have c7b0 : (((rd_T68 l0 x5_1).f1.f0) == (wrap64 (x1_1 + 1)))=true:=beq_iff_eq.mpr c7;have c7b1 : (((rd_T68 l0 x5_1).f1.f0) != (wrap64 (x1_1 + 1)))=false:=bne_eq_false_iff_eq.mpr c7;clear c7
       by_cases c8 : ((rd_T68 l0 x5_1).f1.f1)=(wrap64 ((wrap64 (x1_1 + 1)) + 1))
       ·
        rw [if_pos c8] at H
        have c8b0 : (((rd_T68 l0 x5_1).f1.f1) == (wrap64 ((wrap64 (x1_1 + 1)) + 1)))=true:=beq_iff_eq.mpr c8;have c8b1 : (((rd_T68 l0 x5_1).f1.f1) != (wrap64 ((wrap64 (x1_1 + 1)) + 1)))=false:=bne_eq_false_iff_eq.mpr c8;clear c8;replace H:=Option.bind_eq_some_iff.mp H;obtain ⟨t575,A90,H⟩:=H;replace H : (if ((rd_T68 l0 x5_1).f1.f2).toList=t575.toList then (laws_heldFieldS.l0 k1 l0 (wrap64 ((wrap64 ((wrap64 ((wrap64 (x1_1 + 1)) + 1)) + 1)) + 1)) (wrap64 (x5_1 + 1))) else (some (-1)))=some r:=H;have A9:=zh A90;clear A90
        by_cases c10 : ((rd_T68 l0 x5_1).f1.f2).toList=t575.toList
        ·
         rw [if_pos c10] at H
         have c10b0 : (((rd_T68 l0 x5_1).f1.f2).toList == t575.toList)=true:=beq_iff_eq.mpr c10;have c10b1 : (((rd_T68 l0 x5_1).f1.f2).toList != t575.toList)=false:=bne_eq_false_iff_eq.mpr c10;clear c10;have H':=zh H;clear H
         try go_wp2
         replace HB:=zh (zc HB.out);have p570 : 0≤(x5_1 : Int):=zy (by first|(with_reducible assumption)|assumption);have q570 : x5_1<(l0.length : Int):=zy (by first|(with_reducible assumption)|assumption);obtain ⟨ad570,e570,hx570_0,hx570_1,hx570_2,hx570_3⟩:=at_T68 HR0.out x5_1 p570 q570;have hw570_3:=hx570_3;have hw570_2:=hx570_2;have hw570_1:=hx570_1;have hw570_0:=hx570_0
         cases e570
         replace hx570_0:=(HB.out.cell (zl w _ hx570_0)).trans hx570_0;replace hx570_1:=(HB.out.cell (zl w _ hx570_1)).trans hx570_1;replace hx570_2:=(HB.out.cell (zl w _ hx570_2)).trans hx570_2;replace hx570_3:=(HB.out.cell (zl w _ hx570_3)).trans hx570_3;replace p570:=eq_true p570;replace q570:=eq_true q570;refine start_ (n:=8) (S:=fun w' => w'.cell? (ad570.add ((x5_1).toNat * 4))=some (.string ((rd_T68 l0 x5_1).f0))∧w'.cell? ⟨(ad570.add ((x5_1).toNat * 4)).block,(ad570.add ((x5_1).toNat * 4)).off + 1,none⟩=some (.int .i64 ((rd_T68 l0 x5_1).f1.f0))∧w'.cell? ⟨(ad570.add ((x5_1).toNat * 4)).block,(ad570.add ((x5_1).toNat * 4)).off + 2,none⟩=some (.int .i64 ((rd_T68 l0 x5_1).f1.f1))∧w'.cell? ⟨(ad570.add ((x5_1).toNat * 4)).block,(ad570.add ((x5_1).toNat * 4)).off + 3,none⟩=some (.string ((rd_T68 l0 x5_1).f1.f2))) (ds:=[]) (bm_ 0 8) (by kernel_rfl) rfl rfl ⟨((HB.out.cell (zl w _ hw570_0)).trans hw570_0),((HB.out.cell (zl w _ hw570_1)).trans hw570_1),((HB.out.cell (zl w _ hw570_2)).trans hw570_2),((HB.out.cell (zl w _ hw570_3)).trans hw570_3)⟩ (fun hHeld => ?_);refine with_tabW laws_heldFieldS.tab4 laws_heldFieldS.bits4 (fun HT_ HW_ => ?_);generalize wr.drew=w11 at HB hx570_0 hx570_1 hx570_2 hx570_3 hHeld ⊢;refine pure_ (i:=0) (N:=some 12) (v:=?_) (a':=?_) (bm_ 1 8) rfl rfl (any_of HT_.out (by kernel_rfl)) (fun _ _ _ h => h) (Or.inl ⟨by rfl,?_⟩) ?_ ?_;rotate_left
         ·
          intro w'
          go_simp
          with_reducible rfl
         rotate_left
         ·
          simp only [Act.put,zi,zj,zk,i64_w,i32_w]
          rfl
         refine pure_ (i:=1) (N:=some 13) (v:=?_) (a':=?_) (bm_ 2 8) rfl rfl (any_of HT_.out (by kernel_rfl)) (fun _ _ _ h => h) (Or.inl ⟨by rfl,?_⟩) ?_ ?_;rotate_left
         ·
          intro w'
          go_simp
          with_reducible rfl
         rotate_left
         ·
          simp only [Act.put,zi,zj,zk,i64_w,i32_w]
          rfl
         refine pure_ (i:=2) (N:=some 14) (v:=?_) (a':=?_) (bm_ 3 8) rfl rfl (any_of HT_.out (by kernel_rfl)) (fun _ _ _ h => h) (Or.inl ⟨by rfl,?_⟩) ?_ ?_;rotate_left
         ·
          intro w'
          go_simp
          with_reducible rfl
         rotate_left
         ·
          simp only [Act.put,zi,zj,zk,i64_w,i32_w]
          rfl
         refine pure_ (i:=3) (N:=some 15) (v:=?_) (a':=?_) (bm_ 4 8) rfl rfl (any_of HT_.out (by kernel_rfl)) (fun _ _ _ h => h) (Or.inl ⟨by rfl,?_⟩) ?_ ?_;rotate_left
         ·
          intro w'
          go_simp
          with_reducible rfl
         rotate_left
         ·
          simp only [Act.put,zi,zj,zk,i64_w,i32_w]
          rfl
         refine pure_ (i:=5) (N:=some 17) (v:=?_) (a':=?_) #[true,true,true,true,false,true,false,false] rfl rfl (any_of HT_.out (by kernel_rfl)) (fun _ _ _ h => h) (Or.inl ⟨by rfl,?_⟩) ?_ ?_;rotate_left
         ·
          intro w'
          go_simp
          with_reducible rfl
         rotate_left
         ·
          simp only [Act.put,zi,zj,zk,i64_w,i32_w]
          rfl
         refine take_ (i:=4) (N:=some 16) (v:=?_) (a':=?_) (bm_ 6 8) rfl rfl (take_ofW HT_.out HW_.out (by kernel_rfl)) (fun _ _ _ h => h) (Or.inl ⟨by rfl,?_⟩) hHeld ?_ ?_;rotate_left
         ·
          rintro w' ⟨s0,s1,s2,s3⟩
          go_simp
          with_reducible rfl
         rotate_left
         ·
          simp only [Act.put,zi,zj,zk,i64_w,i32_w]
          rfl
         refine one_ (i:=6) (N:=some 18) (bm_ 7 8) rfl rfl (one_of HT_.out (by kernel_rfl)) (by decide) (fun K hK => ?_);refine goes_ Try.func63 (by kernel_rfl) rfl #[.int .i64 x1_1] (by rfl) rfl rfl (by (try simp only [zt,zu,zv]);first|done|rfl|(simp only [zw,zx];rfl)|(simp only [gt_iff_lt,ge_iff_le,Int.ofNat_lt,Int.ofNat_le];rfl)) ?_
         with_reducible refine (laws_markText.calls k1  x1_1 t571 _ A5.out).mono ?_
         rintro e w12 ⟨rfl,hb⟩;refine ⟨_,rfl,?_⟩;replace HB:=zh (below_step (by repeat (first|(with_reducible first|exact HB.out|apply za|apply zb|apply zc)|exact HB.out)) hb);(try clear hb);(try clear hb2);(try clear hk);(try clear hi);refine hK.out _ _ ⟨((HB.out.cell (zl w _ hw570_0)).trans hw570_0),((HB.out.cell (zl w _ hw570_1)).trans hw570_1),((HB.out.cell (zl w _ hw570_2)).trans hw570_2),((HB.out.cell (zl w _ hw570_3)).trans hw570_3)⟩ (fun hHeld => ?_);clear hK K;refine norm_ (a':=?_) ?_ ?_;rotate_left
         ·
          show Act.put _ (some 18) _=_
          simp only [Act.put,zi,zj,zk,i64_w,i32_w]
          rfl
         refine pure_ (i:=7) (N:=some 19) (v:=?_) (a':=?_) (bm_ 8 8) rfl rfl (any_of HT_.out (by kernel_rfl)) (fun _ _ _ h => h) (Or.inl ⟨by rfl,?_⟩) ?_ ?_;rotate_left
         ·
          intro w'
          go_simp
          with_reducible rfl
         rotate_left
         ·
          simp only [Act.put,zi,zj,zk,i64_w,i32_w]
          rfl
         refine done_ (done_of HT_.out (by kernel_rfl)) ?_;have p572 : 0≤(x5_1 : Int):=zy (by first|(with_reducible assumption)|assumption);have q572 : x5_1<(l0.length : Int):=zy (by first|(with_reducible assumption)|assumption);obtain ⟨ad572,e572,hx572_0,hx572_1,hx572_2,hx572_3⟩:=at_T68 HR0.out x5_1 p572 q572;obtain rfl : ad570=ad572:=(by injection e572);replace hx572_0:=(HB.out.cell (zl w _ hx572_0)).trans hx572_0;replace hx572_1:=(HB.out.cell (zl w _ hx572_1)).trans hx572_1;replace hx572_2:=(HB.out.cell (zl w _ hx572_2)).trans hx572_2;replace hx572_3:=(HB.out.cell (zl w _ hx572_3)).trans hx572_3;replace p572:=eq_true p572;replace q572:=eq_true q572;have p573 : 0≤(x5_1 : Int):=zy (by first|(with_reducible assumption)|assumption);have q573 : x5_1<(l0.length : Int):=zy (by first|(with_reducible assumption)|assumption);obtain ⟨ad573,e573,hx573_0,hx573_1,hx573_2,hx573_3⟩:=at_T68 HR0.out x5_1 p573 q573;obtain rfl : ad570=ad573:=(by injection e573);replace hx573_0:=(HB.out.cell (zl w _ hx573_0)).trans hx573_0;replace hx573_1:=(HB.out.cell (zl w _ hx573_1)).trans hx573_1;replace hx573_2:=(HB.out.cell (zl w _ hx573_2)).trans hx573_2;replace hx573_3:=(HB.out.cell (zl w _ hx573_3)).trans hx573_3;replace p573:=eq_true p573;replace q573:=eq_true q573
         try go_wp2
         replace HB:=zh (zc HB.out);have p574 : 0≤(x5_1 : Int):=zy (by first|(with_reducible assumption)|assumption);have q574 : x5_1<(l0.length : Int):=zy (by first|(with_reducible assumption)|assumption);obtain ⟨ad574,e574,hx574_0,hx574_1,hx574_2,hx574_3⟩:=at_T68 HR0.out x5_1 p574 q574;have hw574_3:=hx574_3;have hw574_2:=hx574_2;have hw574_1:=hx574_1;have hw574_0:=hx574_0;obtain rfl : ad570=ad574:=(by injection e574);replace hx574_0:=(HB.out.cell (zl w _ hx574_0)).trans hx574_0;replace hx574_1:=(HB.out.cell (zl w _ hx574_1)).trans hx574_1;replace hx574_2:=(HB.out.cell (zl w _ hx574_2)).trans hx574_2;replace hx574_3:=(HB.out.cell (zl w _ hx574_3)).trans hx574_3;replace p574:=eq_true p574;replace q574:=eq_true q574;refine start_ (n:=9) (S:=fun w' => w'.cell? (ad570.add ((x5_1).toNat * 4))=some (.string ((rd_T68 l0 x5_1).f0))∧w'.cell? ⟨(ad570.add ((x5_1).toNat * 4)).block,(ad570.add ((x5_1).toNat * 4)).off + 1,none⟩=some (.int .i64 ((rd_T68 l0 x5_1).f1.f0))∧w'.cell? ⟨(ad570.add ((x5_1).toNat * 4)).block,(ad570.add ((x5_1).toNat * 4)).off + 2,none⟩=some (.int .i64 ((rd_T68 l0 x5_1).f1.f1))∧w'.cell? ⟨(ad570.add ((x5_1).toNat * 4)).block,(ad570.add ((x5_1).toNat * 4)).off + 3,none⟩=some (.string ((rd_T68 l0 x5_1).f1.f2))) (ds:=[]) (bm_ 0 9) (by kernel_rfl) rfl rfl ⟨((HB.out.cell (zl w _ hw574_0)).trans hw574_0),((HB.out.cell (zl w _ hw574_1)).trans hw574_1),((HB.out.cell (zl w _ hw574_2)).trans hw574_2),((HB.out.cell (zl w _ hw574_3)).trans hw574_3)⟩ (fun hHeld => ?_);refine with_tabW laws_heldFieldS.tab13 laws_heldFieldS.bits13 (fun HT_ HW_ => ?_);generalize w12.drew=w13 at HB hx574_0 hx574_1 hx574_2 hx574_3 hHeld ⊢;refine pure_ (i:=0) (N:=some 42) (v:=?_) (a':=?_) (bm_ 1 9) rfl rfl (any_of HT_.out (by kernel_rfl)) (fun _ _ _ h => h) (Or.inl ⟨by rfl,?_⟩) ?_ ?_;rotate_left
         ·
          intro w'
          go_simp
          with_reducible rfl
         rotate_left
         ·
          simp only [Act.put,zi,zj,zk,i64_w,i32_w]
          rfl
         refine pure_ (i:=1) (N:=some 43) (v:=?_) (a':=?_) (bm_ 2 9) rfl rfl (any_of HT_.out (by kernel_rfl)) (fun _ _ _ h => h) (Or.inl ⟨by rfl,?_⟩) ?_ ?_;rotate_left
         ·
          intro w'
          go_simp
          with_reducible rfl
         rotate_left
         ·
          simp only [Act.put,zi,zj,zk,i64_w,i32_w]
          rfl
         refine pure_ (i:=2) (N:=some 44) (v:=?_) (a':=?_) (bm_ 3 9) rfl rfl (any_of HT_.out (by kernel_rfl)) (fun _ _ _ h => h) (Or.inl ⟨by rfl,?_⟩) ?_ ?_;rotate_left
         ·
          intro w'
          go_simp
          with_reducible rfl
         rotate_left
         ·
          simp only [Act.put,zi,zj,zk,i64_w,i32_w]
          rfl
         refine pure_ (i:=3) (N:=some 45) (v:=?_) (a':=?_) (bm_ 4 9) rfl rfl (any_of HT_.out (by kernel_rfl)) (fun _ _ _ h => h) (Or.inl ⟨by rfl,?_⟩) ?_ ?_;rotate_left
         ·
          intro w'
          go_simp
          with_reducible rfl
         rotate_left
         ·
          simp only [Act.put,zi,zj,zk,i64_w,i32_w]
          rfl
         refine pure_ (i:=4) (N:=some 46) (v:=?_) (a':=?_) (bm_ 5 9) rfl rfl (any_of HT_.out (by kernel_rfl)) (fun _ _ _ h => h) (Or.inl ⟨by rfl,?_⟩) ?_ ?_;rotate_left
         ·
          intro w'
          go_simp
          with_reducible rfl
         rotate_left
         ·
          simp only [Act.put,zi,zj,zk,i64_w,i32_w]
          rfl
         refine pure_ (i:=6) (N:=some 48) (v:=?_) (a':=?_) #[true,true,true,true,true,false,true,false,false] rfl rfl (any_of HT_.out (by kernel_rfl)) (fun _ _ _ h => h) (Or.inl ⟨by rfl,?_⟩) ?_ ?_;rotate_left
         ·
          intro w'
          go_simp
          with_reducible rfl
         rotate_left
         ·
          simp only [Act.put,zi,zj,zk,i64_w,i32_w]
          rfl
         refine take_ (i:=5) (N:=some 47) (v:=?_) (a':=?_) (bm_ 7 9) rfl rfl (take_ofW HT_.out HW_.out (by kernel_rfl)) (fun _ _ _ h => h) (Or.inl ⟨by rfl,?_⟩) hHeld ?_ ?_;rotate_left
         ·
          rintro w' ⟨s0,s1,s2,s3⟩
          go_simp
          with_reducible rfl
         rotate_left
         ·
          simp only [Act.put,zi,zj,zk,i64_w,i32_w]
          rfl
         refine one_ (i:=7) (N:=some 49) (bm_ 8 9) rfl rfl (one_of HT_.out (by kernel_rfl)) (by decide) (fun K hK => ?_);refine goes_ Try.func63 (by kernel_rfl) rfl #[.int .i64 (wrap64 ((wrap64 ((wrap64 (x1_1 + 1)) + 1)) + 1))] (by rfl) rfl rfl (by (try simp only [zt,zu,zv]);first|done|rfl|(simp only [zw,zx];rfl)|(simp only [gt_iff_lt,ge_iff_le,Int.ofNat_lt,Int.ofNat_le];rfl)) ?_
         with_reducible refine (laws_markText.calls k1  (wrap64 ((wrap64 ((wrap64 (x1_1 + 1)) + 1)) + 1)) t575 _ A9.out).mono ?_
         rintro e w14 ⟨rfl,hb⟩;refine ⟨_,rfl,?_⟩;replace HB:=zh (below_step (by repeat (first|(with_reducible first|exact HB.out|apply za|apply zb|apply zc)|exact HB.out)) hb);(try clear hb);(try clear hb2);(try clear hk);(try clear hi);refine hK.out _ _ ⟨((HB.out.cell (zl w _ hw574_0)).trans hw574_0),((HB.out.cell (zl w _ hw574_1)).trans hw574_1),((HB.out.cell (zl w _ hw574_2)).trans hw574_2),((HB.out.cell (zl w _ hw574_3)).trans hw574_3)⟩ (fun hHeld => ?_);clear hK K;refine norm_ (a':=?_) ?_ ?_;rotate_left
         ·
          show Act.put _ (some 49) _=_
          simp only [Act.put,zi,zj,zk,i64_w,i32_w]
          rfl
         refine pure_ (i:=8) (N:=some 50) (v:=?_) (a':=?_) (bm_ 9 9) rfl rfl (any_of HT_.out (by kernel_rfl)) (fun _ _ _ h => h) (Or.inl ⟨by rfl,?_⟩) ?_ ?_;rotate_left
         ·
          intro w'
          go_simp
          with_reducible rfl
         rotate_left
         ·
          simp only [Act.put,zi,zj,zk,i64_w,i32_w]
          rfl
         refine done_ (done_of HT_.out (by kernel_rfl)) ?_
         try go_wp2
         go_roundg k1
         case measure => have:=HK1.out;omega
         case rel => exact ⟨(wrap64 ((wrap64 ((wrap64 ((wrap64 (x1_1 + 1)) + 1)) + 1)) + 1)),(wrap64 (x5_1 + 1)),(by first|rfl|(simp;done)|(simp [*];done)),(by first|rfl|(simp;done)|(simp [*];done)),H',⟨by have:=HK1.out;omega⟩,⟨by repeat (first|(with_reducible first|exact HB.out|apply za|apply zb|apply zc)|exact HB.out)⟩⟩
        rw [if_neg c10] at H;have c10b0 : (((rd_T68 l0 x5_1).f1.f2).toList == t575.toList)=false:=beq_eq_false_iff_ne.mpr c10;have c10b1 : (((rd_T68 l0 x5_1).f1.f2).toList != t575.toList)=true:=bne_iff_ne.mpr c10;obtain rfl:=Option.some.inj H
        try go_wp2
        replace HB:=zh (zc HB.out);have p570 : 0≤(x5_1 : Int):=zy (by first|(with_reducible assumption)|assumption);have q570 : x5_1<(l0.length : Int):=zy (by first|(with_reducible assumption)|assumption);obtain ⟨ad570,e570,hx570_0,hx570_1,hx570_2,hx570_3⟩:=at_T68 HR0.out x5_1 p570 q570;have hw570_3:=hx570_3;have hw570_2:=hx570_2;have hw570_1:=hx570_1;have hw570_0:=hx570_0
        cases e570
        replace hx570_0:=(HB.out.cell (zl w _ hx570_0)).trans hx570_0;replace hx570_1:=(HB.out.cell (zl w _ hx570_1)).trans hx570_1;replace hx570_2:=(HB.out.cell (zl w _ hx570_2)).trans hx570_2;replace hx570_3:=(HB.out.cell (zl w _ hx570_3)).trans hx570_3;replace p570:=eq_true p570;replace q570:=eq_true q570;refine start_ (n:=8) (S:=fun w' => w'.cell? (ad570.add ((x5_1).toNat * 4))=some (.string ((rd_T68 l0 x5_1).f0))∧w'.cell? ⟨(ad570.add ((x5_1).toNat * 4)).block,(ad570.add ((x5_1).toNat * 4)).off + 1,none⟩=some (.int .i64 ((rd_T68 l0 x5_1).f1.f0))∧w'.cell? ⟨(ad570.add ((x5_1).toNat * 4)).block,(ad570.add ((x5_1).toNat * 4)).off + 2,none⟩=some (.int .i64 ((rd_T68 l0 x5_1).f1.f1))∧w'.cell? ⟨(ad570.add ((x5_1).toNat * 4)).block,(ad570.add ((x5_1).toNat * 4)).off + 3,none⟩=some (.string ((rd_T68 l0 x5_1).f1.f2))) (ds:=[]) (bm_ 0 8) (by kernel_rfl) rfl rfl ⟨((HB.out.cell (zl w _ hw570_0)).trans hw570_0),((HB.out.cell (zl w _ hw570_1)).trans hw570_1),((HB.out.cell (zl w _ hw570_2)).trans hw570_2),((HB.out.cell (zl w _ hw570_3)).trans hw570_3)⟩ (fun hHeld => ?_);refine with_tabW laws_heldFieldS.tab4 laws_heldFieldS.bits4 (fun HT_ HW_ => ?_);generalize wr.drew=w15 at HB hx570_0 hx570_1 hx570_2 hx570_3 hHeld ⊢;refine pure_ (i:=0) (N:=some 12) (v:=?_) (a':=?_) (bm_ 1 8) rfl rfl (any_of HT_.out (by kernel_rfl)) (fun _ _ _ h => h) (Or.inl ⟨by rfl,?_⟩) ?_ ?_;rotate_left
        ·
         intro w'
         go_simp
         with_reducible rfl
        rotate_left
        ·
         simp only [Act.put,zi,zj,zk,i64_w,i32_w]
         rfl
        refine pure_ (i:=1) (N:=some 13) (v:=?_) (a':=?_) (bm_ 2 8) rfl rfl (any_of HT_.out (by kernel_rfl)) (fun _ _ _ h => h) (Or.inl ⟨by rfl,?_⟩) ?_ ?_;rotate_left
        ·
         intro w'
         go_simp
         with_reducible rfl
        rotate_left
        ·
         simp only [Act.put,zi,zj,zk,i64_w,i32_w]
         rfl
        refine pure_ (i:=2) (N:=some 14) (v:=?_) (a':=?_) (bm_ 3 8) rfl rfl (any_of HT_.out (by kernel_rfl)) (fun _ _ _ h => h) (Or.inl ⟨by rfl,?_⟩) ?_ ?_;rotate_left
        ·
         intro w'
         go_simp
         with_reducible rfl
        rotate_left
        ·
         simp only [Act.put,zi,zj,zk,i64_w,i32_w]
         rfl
        refine pure_ (i:=3) (N:=some 15) (v:=?_) (a':=?_) (bm_ 4 8) rfl rfl (any_of HT_.out (by kernel_rfl)) (fun _ _ _ h => h) (Or.inl ⟨by rfl,?_⟩) ?_ ?_;rotate_left
        ·
         intro w'
         go_simp
         with_reducible rfl
        rotate_left
        ·
         simp only [Act.put,zi,zj,zk,i64_w,i32_w]
         rfl
        refine pure_ (i:=5) (N:=some 17) (v:=?_) (a':=?_) #[true,true,true,true,false,true,false,false] rfl rfl (any_of HT_.out (by kernel_rfl)) (fun _ _ _ h => h) (Or.inl ⟨by rfl,?_⟩) ?_ ?_;rotate_left
        ·
         intro w'
         go_simp
         with_reducible rfl
        rotate_left
        ·
         simp only [Act.put,zi,zj,zk,i64_w,i32_w]
         rfl
        refine take_ (i:=4) (N:=some 16) (v:=?_) (a':=?_) (bm_ 6 8) rfl rfl (take_ofW HT_.out HW_.out (by kernel_rfl)) (fun _ _ _ h => h) (Or.inl ⟨by rfl,?_⟩) hHeld ?_ ?_;rotate_left
        ·
         rintro w' ⟨s0,s1,s2,s3⟩
         go_simp
         with_reducible rfl
        rotate_left
        ·
         simp only [Act.put,zi,zj,zk,i64_w,i32_w]
         rfl
        refine one_ (i:=6) (N:=some 18) (bm_ 7 8) rfl rfl (one_of HT_.out (by kernel_rfl)) (by decide) (fun K hK => ?_);refine goes_ Try.func63 (by kernel_rfl) rfl #[.int .i64 x1_1] (by rfl) rfl rfl (by (try simp only [zt,zu,zv]);first|done|rfl|(simp only [zw,zx];rfl)|(simp only [gt_iff_lt,ge_iff_le,Int.ofNat_lt,Int.ofNat_le];rfl)) ?_
        with_reducible refine (laws_markText.calls k1  x1_1 t571 _ A5.out).mono ?_
        rintro e w16 ⟨rfl,hb⟩;refine ⟨_,rfl,?_⟩;replace HB:=zh (below_step (by repeat (first|(with_reducible first|exact HB.out|apply za|apply zb|apply zc)|exact HB.out)) hb);(try clear hb);(try clear hb2);(try clear hk);(try clear hi);refine hK.out _ _ ⟨((HB.out.cell (zl w _ hw570_0)).trans hw570_0),((HB.out.cell (zl w _ hw570_1)).trans hw570_1),((HB.out.cell (zl w _ hw570_2)).trans hw570_2),((HB.out.cell (zl w _ hw570_3)).trans hw570_3)⟩ (fun hHeld => ?_);clear hK K;refine norm_ (a':=?_) ?_ ?_;rotate_left
        ·
         show Act.put _ (some 18) _=_
         simp only [Act.put,zi,zj,zk,i64_w,i32_w]
         rfl
        refine pure_ (i:=7) (N:=some 19) (v:=?_) (a':=?_) (bm_ 8 8) rfl rfl (any_of HT_.out (by kernel_rfl)) (fun _ _ _ h => h) (Or.inl ⟨by rfl,?_⟩) ?_ ?_;rotate_left
        ·
         intro w'
         go_simp
         with_reducible rfl
        rotate_left
        ·
         simp only [Act.put,zi,zj,zk,i64_w,i32_w]
         rfl
        refine done_ (done_of HT_.out (by kernel_rfl)) ?_;have p572 : 0≤(x5_1 : Int):=zy (by first|(with_reducible assumption)|assumption);have q572 : x5_1<(l0.length : Int):=zy (by first|(with_reducible assumption)|assumption);obtain ⟨ad572,e572,hx572_0,hx572_1,hx572_2,hx572_3⟩:=at_T68 HR0.out x5_1 p572 q572;obtain rfl : ad570=ad572:=(by injection e572);replace hx572_0:=(HB.out.cell (zl w _ hx572_0)).trans hx572_0;replace hx572_1:=(HB.out.cell (zl w _ hx572_1)).trans hx572_1;replace hx572_2:=(HB.out.cell (zl w _ hx572_2)).trans hx572_2;replace hx572_3:=(HB.out.cell (zl w _ hx572_3)).trans hx572_3;replace p572:=eq_true p572;replace q572:=eq_true q572;have p573 : 0≤(x5_1 : Int):=zy (by first|(with_reducible assumption)|assumption);have q573 : x5_1<(l0.length : Int):=zy (by first|(with_reducible assumption)|assumption);obtain ⟨ad573,e573,hx573_0,hx573_1,hx573_2,hx573_3⟩:=at_T68 HR0.out x5_1 p573 q573;obtain rfl : ad570=ad573:=(by injection e573);replace hx573_0:=(HB.out.cell (zl w _ hx573_0)).trans hx573_0;replace hx573_1:=(HB.out.cell (zl w _ hx573_1)).trans hx573_1;replace hx573_2:=(HB.out.cell (zl w _ hx573_2)).trans hx573_2;replace hx573_3:=(HB.out.cell (zl w _ hx573_3)).trans hx573_3;replace p573:=eq_true p573;replace q573:=eq_true q573
        try go_wp2
        replace HB:=zh (zc HB.out);have p574 : 0≤(x5_1 : Int):=zy (by first|(with_reducible assumption)|assumption);have q574 : x5_1<(l0.length : Int):=zy (by first|(with_reducible assumption)|assumption);obtain ⟨ad574,e574,hx574_0,hx574_1,hx574_2,hx574_3⟩:=at_T68 HR0.out x5_1 p574 q574;have hw574_3:=hx574_3;have hw574_2:=hx574_2;have hw574_1:=hx574_1;have hw574_0:=hx574_0;obtain rfl : ad570=ad574:=(by injection e574);replace hx574_0:=(HB.out.cell (zl w _ hx574_0)).trans hx574_0;replace hx574_1:=(HB.out.cell (zl w _ hx574_1)).trans hx574_1;replace hx574_2:=(HB.out.cell (zl w _ hx574_2)).trans hx574_2;replace hx574_3:=(HB.out.cell (zl w _ hx574_3)).trans hx574_3;replace p574:=eq_true p574;replace q574:=eq_true q574;refine start_ (n:=9) (S:=fun w' => w'.cell? (ad570.add ((x5_1).toNat * 4))=some (.string ((rd_T68 l0 x5_1).f0))∧w'.cell? ⟨(ad570.add ((x5_1).toNat * 4)).block,(ad570.add ((x5_1).toNat * 4)).off + 1,none⟩=some (.int .i64 ((rd_T68 l0 x5_1).f1.f0))∧w'.cell? ⟨(ad570.add ((x5_1).toNat * 4)).block,(ad570.add ((x5_1).toNat * 4)).off + 2,none⟩=some (.int .i64 ((rd_T68 l0 x5_1).f1.f1))∧w'.cell? ⟨(ad570.add ((x5_1).toNat * 4)).block,(ad570.add ((x5_1).toNat * 4)).off + 3,none⟩=some (.string ((rd_T68 l0 x5_1).f1.f2))) (ds:=[]) (bm_ 0 9) (by kernel_rfl) rfl rfl ⟨((HB.out.cell (zl w _ hw574_0)).trans hw574_0),((HB.out.cell (zl w _ hw574_1)).trans hw574_1),((HB.out.cell (zl w _ hw574_2)).trans hw574_2),((HB.out.cell (zl w _ hw574_3)).trans hw574_3)⟩ (fun hHeld => ?_);refine with_tabW laws_heldFieldS.tab13 laws_heldFieldS.bits13 (fun HT_ HW_ => ?_);generalize w16.drew=w17 at HB hx574_0 hx574_1 hx574_2 hx574_3 hHeld ⊢;refine pure_ (i:=0) (N:=some 42) (v:=?_) (a':=?_) (bm_ 1 9) rfl rfl (any_of HT_.out (by kernel_rfl)) (fun _ _ _ h => h) (Or.inl ⟨by rfl,?_⟩) ?_ ?_;rotate_left
        ·
         intro w'
         go_simp
         with_reducible rfl
        rotate_left
        ·
         simp only [Act.put,zi,zj,zk,i64_w,i32_w]
         rfl
        refine pure_ (i:=1) (N:=some 43) (v:=?_) (a':=?_) (bm_ 2 9) rfl rfl (any_of HT_.out (by kernel_rfl)) (fun _ _ _ h => h) (Or.inl ⟨by rfl,?_⟩) ?_ ?_;rotate_left
        ·
         intro w'
         go_simp
         with_reducible rfl
        rotate_left
        ·
         simp only [Act.put,zi,zj,zk,i64_w,i32_w]
         rfl
        refine pure_ (i:=2) (N:=some 44) (v:=?_) (a':=?_) (bm_ 3 9) rfl rfl (any_of HT_.out (by kernel_rfl)) (fun _ _ _ h => h) (Or.inl ⟨by rfl,?_⟩) ?_ ?_;rotate_left
        ·
         intro w'
         go_simp
         with_reducible rfl
        rotate_left
        ·
         simp only [Act.put,zi,zj,zk,i64_w,i32_w]
         rfl
        refine pure_ (i:=3) (N:=some 45) (v:=?_) (a':=?_) (bm_ 4 9) rfl rfl (any_of HT_.out (by kernel_rfl)) (fun _ _ _ h => h) (Or.inl ⟨by rfl,?_⟩) ?_ ?_;rotate_left
        ·
         intro w'
         go_simp
         with_reducible rfl
        rotate_left
        ·
         simp only [Act.put,zi,zj,zk,i64_w,i32_w]
         rfl
        refine pure_ (i:=4) (N:=some 46) (v:=?_) (a':=?_) (bm_ 5 9) rfl rfl (any_of HT_.out (by kernel_rfl)) (fun _ _ _ h => h) (Or.inl ⟨by rfl,?_⟩) ?_ ?_;rotate_left
        ·
         intro w'
         go_simp
         with_reducible rfl
        rotate_left
        ·
         simp only [Act.put,zi,zj,zk,i64_w,i32_w]
         rfl
        refine pure_ (i:=6) (N:=some 48) (v:=?_) (a':=?_) #[true,true,true,true,true,false,true,false,false] rfl rfl (any_of HT_.out (by kernel_rfl)) (fun _ _ _ h => h) (Or.inl ⟨by rfl,?_⟩) ?_ ?_;rotate_left
        ·
         intro w'
         go_simp
         with_reducible rfl
        rotate_left
        ·
         simp only [Act.put,zi,zj,zk,i64_w,i32_w]
         rfl
        refine take_ (i:=5) (N:=some 47) (v:=?_) (a':=?_) (bm_ 7 9) rfl rfl (take_ofW HT_.out HW_.out (by kernel_rfl)) (fun _ _ _ h => h) (Or.inl ⟨by rfl,?_⟩) hHeld ?_ ?_;rotate_left
        ·
         rintro w' ⟨s0,s1,s2,s3⟩
         go_simp
         with_reducible rfl
        rotate_left
        ·
         simp only [Act.put,zi,zj,zk,i64_w,i32_w]
         rfl
        refine one_ (i:=7) (N:=some 49) (bm_ 8 9) rfl rfl (one_of HT_.out (by kernel_rfl)) (by decide) (fun K hK => ?_);refine goes_ Try.func63 (by kernel_rfl) rfl #[.int .i64 (wrap64 ((wrap64 ((wrap64 (x1_1 + 1)) + 1)) + 1))] (by rfl) rfl rfl (by (try simp only [zt,zu,zv]);first|done|rfl|(simp only [zw,zx];rfl)|(simp only [gt_iff_lt,ge_iff_le,Int.ofNat_lt,Int.ofNat_le];rfl)) ?_
        with_reducible refine (laws_markText.calls k1  (wrap64 ((wrap64 ((wrap64 (x1_1 + 1)) + 1)) + 1)) t575 _ A9.out).mono ?_
        rintro e w18 ⟨rfl,hb⟩;refine ⟨_,rfl,?_⟩;replace HB:=zh (below_step (by repeat (first|(with_reducible first|exact HB.out|apply za|apply zb|apply zc)|exact HB.out)) hb);(try clear hb);(try clear hb2);(try clear hk);(try clear hi);refine hK.out _ _ ⟨((HB.out.cell (zl w _ hw574_0)).trans hw574_0),((HB.out.cell (zl w _ hw574_1)).trans hw574_1),((HB.out.cell (zl w _ hw574_2)).trans hw574_2),((HB.out.cell (zl w _ hw574_3)).trans hw574_3)⟩ (fun hHeld => ?_);clear hK K;refine norm_ (a':=?_) ?_ ?_;rotate_left
        ·
         show Act.put _ (some 49) _=_
         simp only [Act.put,zi,zj,zk,i64_w,i32_w]
         rfl
        refine pure_ (i:=8) (N:=some 50) (v:=?_) (a':=?_) (bm_ 9 9) rfl rfl (any_of HT_.out (by kernel_rfl)) (fun _ _ _ h => h) (Or.inl ⟨by rfl,?_⟩) ?_ ?_;rotate_left
        ·
         intro w'
         go_simp
         with_reducible rfl
        rotate_left
        ·
         simp only [Act.put,zi,zj,zk,i64_w,i32_w]
         rfl
        refine done_ (done_of HT_.out (by kernel_rfl)) ?_
        try go_wp2
        go_ret
        exact ⟨by first|rfl|(simp [errW_none,errW_some] <;> rfl)|(simp [*,errW_none,errW_some] <;> rfl),by repeat (first|(with_reducible first|exact HB.out|apply za|apply zb|apply zc)|exact HB.out)⟩
       rw [if_neg c8] at H;have c8b0 : (((rd_T68 l0 x5_1).f1.f1) == (wrap64 ((wrap64 (x1_1 + 1)) + 1)))=false:=beq_eq_false_iff_ne.mpr c8;have c8b1 : (((rd_T68 l0 x5_1).f1.f1) != (wrap64 ((wrap64 (x1_1 + 1)) + 1)))=true:=bne_iff_ne.mpr c8;obtain rfl:=Option.some.inj H
       try go_wp2
       replace HB:=zh (zc HB.out);have p570 : 0≤(x5_1 : Int):=zy (by first|(with_reducible assumption)|assumption);have q570 : x5_1<(l0.length : Int):=zy (by first|(with_reducible assumption)|assumption);obtain ⟨ad570,e570,hx570_0,hx570_1,hx570_2,hx570_3⟩:=at_T68 HR0.out x5_1 p570 q570;have hw570_3:=hx570_3;have hw570_2:=hx570_2;have hw570_1:=hx570_1;have hw570_0:=hx570_0
       cases e570
       replace hx570_0:=(HB.out.cell (zl w _ hx570_0)).trans hx570_0;replace hx570_1:=(HB.out.cell (zl w _ hx570_1)).trans hx570_1;replace hx570_2:=(HB.out.cell (zl w _ hx570_2)).trans hx570_2;replace hx570_3:=(HB.out.cell (zl w _ hx570_3)).trans hx570_3;replace p570:=eq_true p570;replace q570:=eq_true q570;refine start_ (n:=8) (S:=fun w' => w'.cell? (ad570.add ((x5_1).toNat * 4))=some (.string ((rd_T68 l0 x5_1).f0))∧w'.cell? ⟨(ad570.add ((x5_1).toNat * 4)).block,(ad570.add ((x5_1).toNat * 4)).off + 1,none⟩=some (.int .i64 ((rd_T68 l0 x5_1).f1.f0))∧w'.cell? ⟨(ad570.add ((x5_1).toNat * 4)).block,(ad570.add ((x5_1).toNat * 4)).off + 2,none⟩=some (.int .i64 ((rd_T68 l0 x5_1).f1.f1))∧w'.cell? ⟨(ad570.add ((x5_1).toNat * 4)).block,(ad570.add ((x5_1).toNat * 4)).off + 3,none⟩=some (.string ((rd_T68 l0 x5_1).f1.f2))) (ds:=[]) (bm_ 0 8) (by kernel_rfl) rfl rfl ⟨((HB.out.cell (zl w _ hw570_0)).trans hw570_0),((HB.out.cell (zl w _ hw570_1)).trans hw570_1),((HB.out.cell (zl w _ hw570_2)).trans hw570_2),((HB.out.cell (zl w _ hw570_3)).trans hw570_3)⟩ (fun hHeld => ?_);refine with_tabW laws_heldFieldS.tab4 laws_heldFieldS.bits4 (fun HT_ HW_ => ?_);generalize wr.drew=w19 at HB hx570_0 hx570_1 hx570_2 hx570_3 hHeld ⊢;refine pure_ (i:=0) (N:=some 12) (v:=?_) (a':=?_) (bm_ 1 8) rfl rfl (any_of HT_.out (by kernel_rfl)) (fun _ _ _ h => h) (Or.inl ⟨by rfl,?_⟩) ?_ ?_;rotate_left
       ·
        intro w'
        go_simp
        with_reducible rfl
       rotate_left
       ·
        simp only [Act.put,zi,zj,zk,i64_w,i32_w]
        rfl
       refine pure_ (i:=1) (N:=some 13) (v:=?_) (a':=?_) (bm_ 2 8) rfl rfl (any_of HT_.out (by kernel_rfl)) (fun _ _ _ h => h) (Or.inl ⟨by rfl,?_⟩) ?_ ?_;rotate_left
       ·
        intro w'
        go_simp
        with_reducible rfl
       rotate_left
       ·
        simp only [Act.put,zi,zj,zk,i64_w,i32_w]
        rfl
       refine pure_ (i:=2) (N:=some 14) (v:=?_) (a':=?_) (bm_ 3 8) rfl rfl (any_of HT_.out (by kernel_rfl)) (fun _ _ _ h => h) (Or.inl ⟨by rfl,?_⟩) ?_ ?_;rotate_left
       ·
        intro w'
        go_simp
        with_reducible rfl
       rotate_left
       ·
        simp only [Act.put,zi,zj,zk,i64_w,i32_w]
        rfl
       refine pure_ (i:=3) (N:=some 15) (v:=?_) (a':=?_) (bm_ 4 8) rfl rfl (any_of HT_.out (by kernel_rfl)) (fun _ _ _ h => h) (Or.inl ⟨by rfl,?_⟩) ?_ ?_;rotate_left
       ·
        intro w'
        go_simp
        with_reducible rfl
       rotate_left
       ·
        simp only [Act.put,zi,zj,zk,i64_w,i32_w]
        rfl
       refine pure_ (i:=5) (N:=some 17) (v:=?_) (a':=?_) #[true,true,true,true,false,true,false,false] rfl rfl (any_of HT_.out (by kernel_rfl)) (fun _ _ _ h => h) (Or.inl ⟨by rfl,?_⟩) ?_ ?_;rotate_left
       ·
        intro w'
        go_simp
        with_reducible rfl
       rotate_left
       ·
        simp only [Act.put,zi,zj,zk,i64_w,i32_w]
        rfl
       refine take_ (i:=4) (N:=some 16) (v:=?_) (a':=?_) (bm_ 6 8) rfl rfl (take_ofW HT_.out HW_.out (by kernel_rfl)) (fun _ _ _ h => h) (Or.inl ⟨by rfl,?_⟩) hHeld ?_ ?_;rotate_left
       ·
        rintro w' ⟨s0,s1,s2,s3⟩
        go_simp
        with_reducible rfl
       rotate_left
       ·
        simp only [Act.put,zi,zj,zk,i64_w,i32_w]
        rfl
       refine one_ (i:=6) (N:=some 18) (bm_ 7 8) rfl rfl (one_of HT_.out (by kernel_rfl)) (by decide) (fun K hK => ?_);refine goes_ Try.func63 (by kernel_rfl) rfl #[.int .i64 x1_1] (by rfl) rfl rfl (by (try simp only [zt,zu,zv]);first|done|rfl|(simp only [zw,zx];rfl)|(simp only [gt_iff_lt,ge_iff_le,Int.ofNat_lt,Int.ofNat_le];rfl)) ?_
       with_reducible refine (laws_markText.calls k1  x1_1 t571 _ A5.out).mono ?_
       rintro e w20 ⟨rfl,hb⟩;refine ⟨_,rfl,?_⟩;replace HB:=zh (below_step (by repeat (first|(with_reducible first|exact HB.out|apply za|apply zb|apply zc)|exact HB.out)) hb);(try clear hb);(try clear hb2);(try clear hk);(try clear hi);refine hK.out _ _ ⟨((HB.out.cell (zl w _ hw570_0)).trans hw570_0),((HB.out.cell (zl w _ hw570_1)).trans hw570_1),((HB.out.cell (zl w _ hw570_2)).trans hw570_2),((HB.out.cell (zl w _ hw570_3)).trans hw570_3)⟩ (fun hHeld => ?_);clear hK K;refine norm_ (a':=?_) ?_ ?_;rotate_left
       ·
        show Act.put _ (some 18) _=_
        simp only [Act.put,zi,zj,zk,i64_w,i32_w]
        rfl
       refine pure_ (i:=7) (N:=some 19) (v:=?_) (a':=?_) (bm_ 8 8) rfl rfl (any_of HT_.out (by kernel_rfl)) (fun _ _ _ h => h) (Or.inl ⟨by rfl,?_⟩) ?_ ?_;rotate_left
       ·
        intro w'
        go_simp
        with_reducible rfl
       rotate_left
       ·
        simp only [Act.put,zi,zj,zk,i64_w,i32_w]
        rfl
       refine done_ (done_of HT_.out (by kernel_rfl)) ?_;have p572 : 0≤(x5_1 : Int):=zy (by first|(with_reducible assumption)|assumption);have q572 : x5_1<(l0.length : Int):=zy (by first|(with_reducible assumption)|assumption);obtain ⟨ad572,e572,hx572_0,hx572_1,hx572_2,hx572_3⟩:=at_T68 HR0.out x5_1 p572 q572;obtain rfl : ad570=ad572:=(by injection e572);replace hx572_0:=(HB.out.cell (zl w _ hx572_0)).trans hx572_0;replace hx572_1:=(HB.out.cell (zl w _ hx572_1)).trans hx572_1;replace hx572_2:=(HB.out.cell (zl w _ hx572_2)).trans hx572_2;replace hx572_3:=(HB.out.cell (zl w _ hx572_3)).trans hx572_3;replace p572:=eq_true p572;replace q572:=eq_true q572;have p573 : 0≤(x5_1 : Int):=zy (by first|(with_reducible assumption)|assumption);have q573 : x5_1<(l0.length : Int):=zy (by first|(with_reducible assumption)|assumption);obtain ⟨ad573,e573,hx573_0,hx573_1,hx573_2,hx573_3⟩:=at_T68 HR0.out x5_1 p573 q573;obtain rfl : ad570=ad573:=(by injection e573);replace hx573_0:=(HB.out.cell (zl w _ hx573_0)).trans hx573_0;replace hx573_1:=(HB.out.cell (zl w _ hx573_1)).trans hx573_1;replace hx573_2:=(HB.out.cell (zl w _ hx573_2)).trans hx573_2;replace hx573_3:=(HB.out.cell (zl w _ hx573_3)).trans hx573_3;replace p573:=eq_true p573;replace q573:=eq_true q573
       try go_wp2
       go_ret
       exact ⟨by first|rfl|(simp [errW_none,errW_some] <;> rfl)|(simp [*,errW_none,errW_some] <;> rfl),by repeat (first|(with_reducible first|exact HB.out|apply za|apply zb|apply zc)|exact HB.out)⟩
      rw [if_neg c7] at H;have c7b0 : (((rd_T68 l0 x5_1).f1.f0) == (wrap64 (x1_1 + 1)))=false:=beq_eq_false_iff_ne.mpr c7;have c7b1 : (((rd_T68 l0 x5_1).f1.f0) != (wrap64 (x1_1 + 1)))=true:=bne_iff_ne.mpr c7;obtain rfl:=Option.some.inj H
      try go_wp2
      replace HB:=zh (zc HB.out);have p570 : 0≤(x5_1 : Int):=zy (by first|(with_reducible assumption)|assumption);have q570 : x5_1<(l0.length : Int):=zy (by first|(with_reducible assumption)|assumption);obtain ⟨ad570,e570,hx570_0,hx570_1,hx570_2,hx570_3⟩:=at_T68 HR0.out x5_1 p570 q570;have hw570_3:=hx570_3;have hw570_2:=hx570_2;have hw570_1:=hx570_1;have hw570_0:=hx570_0
      cases e570
      replace hx570_0:=(HB.out.cell (zl w _ hx570_0)).trans hx570_0;replace hx570_1:=(HB.out.cell (zl w _ hx570_1)).trans hx570_1;replace hx570_2:=(HB.out.cell (zl w _ hx570_2)).trans hx570_2;replace hx570_3:=(HB.out.cell (zl w _ hx570_3)).trans hx570_3;replace p570:=eq_true p570;replace q570:=eq_true q570;refine start_ (n:=8) (S:=fun w' => w'.cell? (ad570.add ((x5_1).toNat * 4))=some (.string ((rd_T68 l0 x5_1).f0))∧w'.cell? ⟨(ad570.add ((x5_1).toNat * 4)).block,(ad570.add ((x5_1).toNat * 4)).off + 1,none⟩=some (.int .i64 ((rd_T68 l0 x5_1).f1.f0))∧w'.cell? ⟨(ad570.add ((x5_1).toNat * 4)).block,(ad570.add ((x5_1).toNat * 4)).off + 2,none⟩=some (.int .i64 ((rd_T68 l0 x5_1).f1.f1))∧w'.cell? ⟨(ad570.add ((x5_1).toNat * 4)).block,(ad570.add ((x5_1).toNat * 4)).off + 3,none⟩=some (.string ((rd_T68 l0 x5_1).f1.f2))) (ds:=[]) (bm_ 0 8) (by kernel_rfl) rfl rfl ⟨((HB.out.cell (zl w _ hw570_0)).trans hw570_0),((HB.out.cell (zl w _ hw570_1)).trans hw570_1),((HB.out.cell (zl w _ hw570_2)).trans hw570_2),((HB.out.cell (zl w _ hw570_3)).trans hw570_3)⟩ (fun hHeld => ?_);refine with_tabW laws_heldFieldS.tab4 laws_heldFieldS.bits4 (fun HT_ HW_ => ?_);generalize wr.drew=w21 at HB hx570_0 hx570_1 hx570_2 hx570_3 hHeld ⊢;refine pure_ (i:=0) (N:=some 12) (v:=?_) (a':=?_) (bm_ 1 8) rfl rfl (any_of HT_.out (by kernel_rfl)) (fun _ _ _ h => h) (Or.inl ⟨by rfl,?_⟩) ?_ ?_;rotate_left
      ·
       intro w'
       go_simp
       with_reducible rfl
      rotate_left
      ·
       simp only [Act.put,zi,zj,zk,i64_w,i32_w]
       rfl
      refine pure_ (i:=1) (N:=some 13) (v:=?_) (a':=?_) (bm_ 2 8) rfl rfl (any_of HT_.out (by kernel_rfl)) (fun _ _ _ h => h) (Or.inl ⟨by rfl,?_⟩) ?_ ?_;rotate_left
      ·
       intro w'
       go_simp
       with_reducible rfl
      rotate_left
      ·
       simp only [Act.put,zi,zj,zk,i64_w,i32_w]
       rfl
      refine pure_ (i:=2) (N:=some 14) (v:=?_) (a':=?_) (bm_ 3 8) rfl rfl (any_of HT_.out (by kernel_rfl)) (fun _ _ _ h => h) (Or.inl ⟨by rfl,?_⟩) ?_ ?_;rotate_left
      ·
       intro w'
       go_simp
       with_reducible rfl
      rotate_left
      ·
       simp only [Act.put,zi,zj,zk,i64_w,i32_w]
       rfl
      refine pure_ (i:=3) (N:=some 15) (v:=?_) (a':=?_) (bm_ 4 8) rfl rfl (any_of HT_.out (by kernel_rfl)) (fun _ _ _ h => h) (Or.inl ⟨by rfl,?_⟩) ?_ ?_;rotate_left
      ·
       intro w'
       go_simp
       with_reducible rfl
      rotate_left
      ·
       simp only [Act.put,zi,zj,zk,i64_w,i32_w]
       rfl
      refine pure_ (i:=5) (N:=some 17) (v:=?_) (a':=?_) #[true,true,true,true,false,true,false,false] rfl rfl (any_of HT_.out (by kernel_rfl)) (fun _ _ _ h => h) (Or.inl ⟨by rfl,?_⟩) ?_ ?_;rotate_left
      ·
       intro w'
       go_simp
       with_reducible rfl
      rotate_left
      ·
       simp only [Act.put,zi,zj,zk,i64_w,i32_w]
       rfl
      refine take_ (i:=4) (N:=some 16) (v:=?_) (a':=?_) (bm_ 6 8) rfl rfl (take_ofW HT_.out HW_.out (by kernel_rfl)) (fun _ _ _ h => h) (Or.inl ⟨by rfl,?_⟩) hHeld ?_ ?_;rotate_left
      ·
       rintro w' ⟨s0,s1,s2,s3⟩
       go_simp
       with_reducible rfl
      rotate_left
      ·
       simp only [Act.put,zi,zj,zk,i64_w,i32_w]
       rfl
      refine one_ (i:=6) (N:=some 18) (bm_ 7 8) rfl rfl (one_of HT_.out (by kernel_rfl)) (by decide) (fun K hK => ?_);refine goes_ Try.func63 (by kernel_rfl) rfl #[.int .i64 x1_1] (by rfl) rfl rfl (by (try simp only [zt,zu,zv]);first|done|rfl|(simp only [zw,zx];rfl)|(simp only [gt_iff_lt,ge_iff_le,Int.ofNat_lt,Int.ofNat_le];rfl)) ?_
      with_reducible refine (laws_markText.calls k1  x1_1 t571 _ A5.out).mono ?_
      rintro e w22 ⟨rfl,hb⟩;refine ⟨_,rfl,?_⟩;replace HB:=zh (below_step (by repeat (first|(with_reducible first|exact HB.out|apply za|apply zb|apply zc)|exact HB.out)) hb);(try clear hb);(try clear hb2);(try clear hk);(try clear hi);refine hK.out _ _ ⟨((HB.out.cell (zl w _ hw570_0)).trans hw570_0),((HB.out.cell (zl w _ hw570_1)).trans hw570_1),((HB.out.cell (zl w _ hw570_2)).trans hw570_2),((HB.out.cell (zl w _ hw570_3)).trans hw570_3)⟩ (fun hHeld => ?_);clear hK K;refine norm_ (a':=?_) ?_ ?_;rotate_left
      ·
       show Act.put _ (some 18) _=_
       simp only [Act.put,zi,zj,zk,i64_w,i32_w]
       rfl
      refine pure_ (i:=7) (N:=some 19) (v:=?_) (a':=?_) (bm_ 8 8) rfl rfl (any_of HT_.out (by kernel_rfl)) (fun _ _ _ h => h) (Or.inl ⟨by rfl,?_⟩) ?_ ?_;rotate_left
      ·
       intro w'
       go_simp
       with_reducible rfl
      rotate_left
      ·
       simp only [Act.put,zi,zj,zk,i64_w,i32_w]
       rfl
      refine done_ (done_of HT_.out (by kernel_rfl)) ?_;have p572 : 0≤(x5_1 : Int):=zy (by first|(with_reducible assumption)|assumption);have q572 : x5_1<(l0.length : Int):=zy (by first|(with_reducible assumption)|assumption);obtain ⟨ad572,e572,hx572_0,hx572_1,hx572_2,hx572_3⟩:=at_T68 HR0.out x5_1 p572 q572;obtain rfl : ad570=ad572:=(by injection e572);replace hx572_0:=(HB.out.cell (zl w _ hx572_0)).trans hx572_0;replace hx572_1:=(HB.out.cell (zl w _ hx572_1)).trans hx572_1;replace hx572_2:=(HB.out.cell (zl w _ hx572_2)).trans hx572_2;replace hx572_3:=(HB.out.cell (zl w _ hx572_3)).trans hx572_3;replace p572:=eq_true p572;replace q572:=eq_true q572
      try go_wp2
      go_ret
      exact ⟨by first|rfl|(simp [errW_none,errW_some] <;> rfl)|(simp [*,errW_none,errW_some] <;> rfl),by repeat (first|(with_reducible first|exact HB.out|apply za|apply zb|apply zc)|exact HB.out)⟩
     rw [if_neg c6] at H;have c6b0 : (((rd_T68 l0 x5_1).f0).toList == t571.toList)=false:=beq_eq_false_iff_ne.mpr c6;have c6b1 : (((rd_T68 l0 x5_1).f0).toList != t571.toList)=true:=bne_iff_ne.mpr c6;obtain rfl:=Option.some.inj H
     try go_wp2
     replace HB:=zh (zc HB.out);have p570 : 0≤(x5_1 : Int):=zy (by first|(with_reducible assumption)|assumption);have q570 : x5_1<(l0.length : Int):=zy (by first|(with_reducible assumption)|assumption);obtain ⟨ad570,e570,hx570_0,hx570_1,hx570_2,hx570_3⟩:=at_T68 HR0.out x5_1 p570 q570;have hw570_3:=hx570_3;have hw570_2:=hx570_2;have hw570_1:=hx570_1;have hw570_0:=hx570_0
     cases e570
     replace hx570_0:=(HB.out.cell (zl w _ hx570_0)).trans hx570_0;replace hx570_1:=(HB.out.cell (zl w _ hx570_1)).trans hx570_1;replace hx570_2:=(HB.out.cell (zl w _ hx570_2)).trans hx570_2;replace hx570_3:=(HB.out.cell (zl w _ hx570_3)).trans hx570_3;replace p570:=eq_true p570;replace q570:=eq_true q570;refine start_ (n:=8) (S:=fun w' => w'.cell? (ad570.add ((x5_1).toNat * 4))=some (.string ((rd_T68 l0 x5_1).f0))∧w'.cell? ⟨(ad570.add ((x5_1).toNat * 4)).block,(ad570.add ((x5_1).toNat * 4)).off + 1,none⟩=some (.int .i64 ((rd_T68 l0 x5_1).f1.f0))∧w'.cell? ⟨(ad570.add ((x5_1).toNat * 4)).block,(ad570.add ((x5_1).toNat * 4)).off + 2,none⟩=some (.int .i64 ((rd_T68 l0 x5_1).f1.f1))∧w'.cell? ⟨(ad570.add ((x5_1).toNat * 4)).block,(ad570.add ((x5_1).toNat * 4)).off + 3,none⟩=some (.string ((rd_T68 l0 x5_1).f1.f2))) (ds:=[]) (bm_ 0 8) (by kernel_rfl) rfl rfl ⟨((HB.out.cell (zl w _ hw570_0)).trans hw570_0),((HB.out.cell (zl w _ hw570_1)).trans hw570_1),((HB.out.cell (zl w _ hw570_2)).trans hw570_2),((HB.out.cell (zl w _ hw570_3)).trans hw570_3)⟩ (fun hHeld => ?_);refine with_tabW laws_heldFieldS.tab4 laws_heldFieldS.bits4 (fun HT_ HW_ => ?_);generalize wr.drew=w23 at HB hx570_0 hx570_1 hx570_2 hx570_3 hHeld ⊢;refine pure_ (i:=0) (N:=some 12) (v:=?_) (a':=?_) (bm_ 1 8) rfl rfl (any_of HT_.out (by kernel_rfl)) (fun _ _ _ h => h) (Or.inl ⟨by rfl,?_⟩) ?_ ?_;rotate_left
     ·
      intro w'
      go_simp
      with_reducible rfl
     rotate_left
     ·
      simp only [Act.put,zi,zj,zk,i64_w,i32_w]
      rfl
     refine pure_ (i:=1) (N:=some 13) (v:=?_) (a':=?_) (bm_ 2 8) rfl rfl (any_of HT_.out (by kernel_rfl)) (fun _ _ _ h => h) (Or.inl ⟨by rfl,?_⟩) ?_ ?_;rotate_left
     ·
      intro w'
      go_simp
      with_reducible rfl
     rotate_left
     ·
      simp only [Act.put,zi,zj,zk,i64_w,i32_w]
      rfl
     refine pure_ (i:=2) (N:=some 14) (v:=?_) (a':=?_) (bm_ 3 8) rfl rfl (any_of HT_.out (by kernel_rfl)) (fun _ _ _ h => h) (Or.inl ⟨by rfl,?_⟩) ?_ ?_;rotate_left
     ·
      intro w'
      go_simp
      with_reducible rfl
     rotate_left
     ·
      simp only [Act.put,zi,zj,zk,i64_w,i32_w]
      rfl
     refine pure_ (i:=3) (N:=some 15) (v:=?_) (a':=?_) (bm_ 4 8) rfl rfl (any_of HT_.out (by kernel_rfl)) (fun _ _ _ h => h) (Or.inl ⟨by rfl,?_⟩) ?_ ?_;rotate_left
     ·
      intro w'
      go_simp
      with_reducible rfl
     rotate_left
     ·
      simp only [Act.put,zi,zj,zk,i64_w,i32_w]
      rfl
     refine pure_ (i:=5) (N:=some 17) (v:=?_) (a':=?_) #[true,true,true,true,false,true,false,false] rfl rfl (any_of HT_.out (by kernel_rfl)) (fun _ _ _ h => h) (Or.inl ⟨by rfl,?_⟩) ?_ ?_;rotate_left
     ·
      intro w'
      go_simp
      with_reducible rfl
     rotate_left
     ·
      simp only [Act.put,zi,zj,zk,i64_w,i32_w]
      rfl
     refine take_ (i:=4) (N:=some 16) (v:=?_) (a':=?_) (bm_ 6 8) rfl rfl (take_ofW HT_.out HW_.out (by kernel_rfl)) (fun _ _ _ h => h) (Or.inl ⟨by rfl,?_⟩) hHeld ?_ ?_;rotate_left
     ·
      rintro w' ⟨s0,s1,s2,s3⟩
      go_simp
      with_reducible rfl
     rotate_left
     ·
      simp only [Act.put,zi,zj,zk,i64_w,i32_w]
      rfl
     refine one_ (i:=6) (N:=some 18) (bm_ 7 8) rfl rfl (one_of HT_.out (by kernel_rfl)) (by decide) (fun K hK => ?_);refine goes_ Try.func63 (by kernel_rfl) rfl #[.int .i64 x1_1] (by rfl) rfl rfl (by (try simp only [zt,zu,zv]);first|done|rfl|(simp only [zw,zx];rfl)|(simp only [gt_iff_lt,ge_iff_le,Int.ofNat_lt,Int.ofNat_le];rfl)) ?_
     with_reducible refine (laws_markText.calls k1  x1_1 t571 _ A5.out).mono ?_
     rintro e w24 ⟨rfl,hb⟩;refine ⟨_,rfl,?_⟩;replace HB:=zh (below_step (by repeat (first|(with_reducible first|exact HB.out|apply za|apply zb|apply zc)|exact HB.out)) hb);(try clear hb);(try clear hb2);(try clear hk);(try clear hi);refine hK.out _ _ ⟨((HB.out.cell (zl w _ hw570_0)).trans hw570_0),((HB.out.cell (zl w _ hw570_1)).trans hw570_1),((HB.out.cell (zl w _ hw570_2)).trans hw570_2),((HB.out.cell (zl w _ hw570_3)).trans hw570_3)⟩ (fun hHeld => ?_);clear hK K;refine norm_ (a':=?_) ?_ ?_;rotate_left
     ·
      show Act.put _ (some 18) _=_
      simp only [Act.put,zi,zj,zk,i64_w,i32_w]
      rfl
     refine pure_ (i:=7) (N:=some 19) (v:=?_) (a':=?_) (bm_ 8 8) rfl rfl (any_of HT_.out (by kernel_rfl)) (fun _ _ _ h => h) (Or.inl ⟨by rfl,?_⟩) ?_ ?_;rotate_left
     ·
      intro w'
      go_simp
      with_reducible rfl
     rotate_left
     ·
      simp only [Act.put,zi,zj,zk,i64_w,i32_w]
      rfl
     refine done_ (done_of HT_.out (by kernel_rfl)) ?_
     try go_wp2
     go_ret
     exact ⟨by first|rfl|(simp [errW_none,errW_some] <;> rfl)|(simp [*,errW_none,errW_some] <;> rfl),by repeat (first|(with_reducible first|exact HB.out|apply za|apply zb|apply zc)|exact HB.out)⟩
    rw [if_neg c4] at H;exact absurd H (by simp)
   rw [if_neg c3] at H;have c3b0 : decide (x5_1<(l0.length : Int))=false:=decide_eq_false c3;clear c3;obtain rfl:=Option.some.inj H
   go_wp2
   go_ret
   exact ⟨by first|rfl|(simp [errW_none,errW_some] <;> rfl)|(simp [*,errW_none,errW_some] <;> rfl),by repeat (first|(with_reducible first|exact HB.out|apply za|apply zb|apply zc)|exact HB.out)⟩

end Go.Proofs.Ytpmeglcmhiihoaa.Q
end
section
namespace Go.Proofs.Ytpmeglcmhiihoaa.Pure
open Go Go.RowKit Go.Proofs.Ytpmeglcmhiihoaa.Q Go.Proofs.YtpmeglcmhiihoaaW.PrintWords Go.Proofs.YtpmeglcmhiihoaaW.PrintLast Go.Proofs.YtpmeglcmhiihoaaW.PrintMore Go.Proofs.YtpmeglcmhiihoaaW.Pl
theorem one_size (b : Int) : (strOfNums [b]).size=1:=by
  unfold strOfNums
  rw [← data_length]
  simp
theorem mark_loop : ∀ (n : Nat) (x : Int) (acc : ByteArray),0≤x→x≤n→acc.size + n≤4611686018427387904 → ∃ t,Eve (fun k => laws_markText.l0 k x acc) t:=by
  intro n
  induction n with
  | zero =>
    intro x acc h0 h1 h2
    refine ⟨(⟨#[109]⟩ : ByteArray) ++ acc,Eve.succ ?_⟩
    simp only [laws_markText.l0]
    exact Eve.ite (fun h => absurd h (by omega)) (fun _ => Eve.ite (fun _ => Eve.one) (fun h => absurd (by omega) h))
  | succ n ih =>
    intro x acc h0 h1 h2
    by_cases hx : x > 0
    · have e1 : Int.tdiv x 10=x / 10:=Int.tdiv_eq_ediv_of_nonneg h0
      have e2 : wrap64 (x / 10)=x / 10:=w64 (by omega) (by omega)
      obtain ⟨t,ht⟩:=ih (x / 10) (strOfNums [(wrap64 (48 + (Int.tmod x 10))) % 256] ++ acc) (by omega) (by omega) (by rw [ByteArray.size_append,one_size];omega)
      refine ⟨t,Eve.succ ?_⟩
      simp only [laws_markText.l0,Option.bind_some,one_size,e1,e2]
      exact Eve.ite (fun _ => Eve.ite (fun _ => ht) (fun h => absurd (by omega) h)) (fun h => absurd hx h)
    · refine ⟨(⟨#[109]⟩ : ByteArray) ++ acc,Eve.succ ?_⟩
      simp only [laws_markText.l0]
      exact Eve.ite (fun h => absurd h hx) (fun _ => Eve.ite (fun _ => Eve.one) (fun h => absurd (by omega) h))
theorem mark_text (x : Int) (h0 : 0≤x) (h1 : x≤4611686018427387904) : ∃ t,Eve (fun k => laws_markText.f k x) t:=by
  by_cases h : x≤0
  · exact ⟨⟨#[109,48]⟩,by simp only [laws_markText.f];exact Eve.ite (fun _ => Eve.one) (fun h2 => absurd h h2)⟩
  · obtain ⟨t,ht⟩:=mark_loop x.toNat x ⟨#[]⟩ h0 (by omega) (by show 0 + x.toNat≤_;omega)
    exact ⟨t,by simp only [laws_markText.f];exact Eve.ite (fun h2 => absurd h2 h) (fun _ => ht)⟩
open Classical in
noncomputable def mt (x : Int) : ByteArray:=if h : ∃ t,Eve (fun k => laws_markText.f k x) t then h.choose else ⟨#[]⟩
theorem mt_tells (x : Int) (h0 : 0≤x) (h1 : x≤4611686018427387904) : Eve (fun k => laws_markText.f k x) (mt x):=by
  have h:=mark_text x h0 h1
  unfold mt
  rw [dif_pos h]
  exact h.choose_spec
theorem rdV_set (l : List IVal) (i : Nat) (h : i<l.length) (v : IVal) : rd_T26 (l.set i v) (i : Int)=v:=by
  rw [rdV _ i (by simpa using h),List.getElem_set_self]
noncomputable def cellV (i : Nat) : IVal:=⟨1 + 3 * (i : Int),2 + 3 * (i : Int),mt (3 + 3 * (i : Int))⟩
noncomputable def cellF (i : Nat) : IFld:=⟨mt (1 + 4 * (i : Int)),⟨2 + 4 * (i : Int),3 + 4 * (i : Int),mt (4 + 4 * (i : Int))⟩⟩
theorem filled {α : Type} (ys : List α) (n : Nat) (c : Nat→α) (h1 : ys.length=n) (h2 : ∀ j,j<n→ys[j]? = some (c j)) : ys=(List.range n).map c:=by
  apply List.ext_getElem?
  intro j
  by_cases hj : j<n
  · rw [h2 j hj];simp [hj]
  · rw [List.getElem?_eq_none (by omega),List.getElem?_eq_none (by simp;omega)]
theorem fill_next {α : Type} (ys : List α) (i : Nat) (c : Nat→α) (h1 : i<ys.length) (h2 : ∀ j,j<i→ys[j]? = some (c j)) : ∀ j,j<i + 1→(ys.set i (c i))[j]? = some (c j):=by
  intro j hj
  by_cases h : j=i
  · subst h;simp [h1]
  · rw [List.getElem?_set_ne (by omega)];exact h2 j (by omega)
theorem mark_values (l : List IVal) (hl : l.length≤1048576) : Eve (fun k => laws_markValueS.f k l 1) (1 + 3 * (l.length : Int),(List.range l.length).map cellV):=by
  simp only [laws_markValueS.f]
  refine ev_loop0 l (fun k (s : List IVal×Int) i => laws_markValueS.l0 k s.1 s.2 i) (fun _ _ _ => (1 + 3 * (l.length : Int),(List.range l.length).map cellV)) (fun i s => s.1.length=l.length∧s.2=1 + 3 * (i : Int) ∧ ∀ j,j<i→s.1[j]? = some (cellV j)) (fun s hs => ?_) (fun i hi s hs ih => ?_) (l,1) ⟨rfl,rfl,by intro j hj;omega⟩
  · obtain ⟨h1,h2,h3⟩:=hs
    simp only [laws_markValueS.l0]
    exact Eve.ite (fun h => absurd h (by omega)) (fun _ => Eve.one.eq (by rw [h2,filled s.1 _ _ h1 h3]))
  · obtain ⟨ys,x⟩:=s
    obtain ⟨h1,h2,h3⟩:=hs
    simp only at h1 h2 h3
    subst h2
    have hy : i<ys.length:=by omega
    have e1 : wrap64 (1 + 3 * (i : Int) + 1)=2 + 3 * (i : Int):=by rw [w64 (by omega) (by omega)];omega
    have e2 : wrap64 (2 + 3 * (i : Int) + 1)=3 + 3 * (i : Int):=by rw [w64 (by omega) (by omega)];omega
    have e3 : wrap64 (3 + 3 * (i : Int) + 1)=1 + 3 * ((i + 1 : Nat) : Int):=by rw [w64 (by omega) (by omega)];omega
    simp only [laws_markValueS.l0,Option.bind_some,e1,e2,e3,Int.toNat_natCast,List.set_set,rdV_set ys i hy,wi (show i≤9223372036854775806 by omega)]
    refine Eve.ite (fun _ => ?_) (fun h => absurd (by omega) h)
    refine Eve.ite (fun _ => ?_) (fun h => absurd (by omega) h)
    refine Eve.bind (mt_tells _ (by omega) (by omega)) ?_
    exact ih (ys.set i (cellV i),1 + 3 * ((i + 1 : Nat) : Int)) ⟨by simpa using h1,rfl,fill_next ys i cellV hy h3⟩
theorem held_values (n : Nat) (hn : n≤1048576) : Eve (fun k => laws_heldValueS.f k ((List.range n).map cellV) 1) (1 + 3 * (n : Int)):=by
  have hlen : ((List.range n).map cellV).length=n:=by simp
  simp only [laws_heldValueS.f]
  refine ev_loop0 ((List.range n).map cellV) (fun k (s : Int) i => laws_heldValueS.l0 k ((List.range n).map cellV) s i) (fun _ _ _ => 1 + 3 * (n : Int)) (fun i s => s=1 + 3 * (i : Int)) (fun s hs => ?_) (fun i hi s hs ih => ?_) 1 rfl
  · simp only [laws_heldValueS.l0]
    exact Eve.ite (fun h => absurd h (by omega)) (fun _ => Eve.one.eq (by rw [hs,hlen]))
  · subst hs
    have hc : ((List.range n).map cellV)[i]=cellV i:=by simp
    have e1 : wrap64 (1 + 3 * (i : Int) + 1)=2 + 3 * (i : Int):=by rw [w64 (by omega) (by omega)];omega
    have e2 : wrap64 (2 + 3 * (i : Int) + 1)=3 + 3 * (i : Int):=by rw [w64 (by omega) (by omega)];omega
    have e3 : wrap64 (3 + 3 * (i : Int) + 1)=1 + 3 * ((i + 1 : Nat) : Int):=by rw [w64 (by omega) (by omega)];omega
    simp only [laws_heldValueS.l0,e1,e2,e3,rdV _ i hi,hc,wi (show i≤9223372036854775806 by omega)]
    refine Eve.ite (fun _ => ?_) (fun h => absurd (by omega) h)
    refine Eve.ite (fun _ => ?_) (fun h => absurd (by omega) h)
    refine Eve.ite (fun _ => ?_) (fun h => absurd rfl h)
    refine Eve.ite (fun _ => ?_) (fun h => absurd rfl h)
    refine Eve.bind (mt_tells _ (by omega) (by omega)) ?_
    exact Eve.ite (fun _ => ih _ rfl) (fun h => absurd rfl h)
end Go.Proofs.Ytpmeglcmhiihoaa.Pure
end
section
namespace Go.Proofs.Ytpmeglcmhiihoaa.Pure
open Go Go.RowKit Go.Proofs.Ytpmeglcmhiihoaa.Q Go.Proofs.YtpmeglcmhiihoaaW.PrintWords Go.Proofs.YtpmeglcmhiihoaaW.PrintLast Go.Proofs.YtpmeglcmhiihoaaW.PrintMore Go.Proofs.YtpmeglcmhiihoaaW.Pl
theorem right_four {d : Nat} {v : IVal} (h : rightV d v=true) (h4 : v.f0=4) : ∃ e l,d=e + 1∧itS v.f2.size v.f2=some l∧l.all (rightV e)=true:=by
  cases d with
  | zero =>
    have : flat v=true:=h
    unfold flat at this
    rw [if_neg (by omega),if_neg (by omega),if_neg (by omega),if_neg (by omega)] at this
    cases this
  | succ e =>
    unfold rightV at h
    rw [if_pos h4] at h
    cases hi : itS v.f2.size v.f2 with
    | none => rw [hi] at h;simp at h
    | some l =>
      rw [hi] at h
      simp only [Bool.and_eq_true] at h
      exact ⟨e,l,rfl,rfl,h.2.2⟩
end Go.Proofs.Ytpmeglcmhiihoaa.Pure
end
section
namespace Go.Proofs.Ytpmeglcmhiihoaa.Pure
open Go Go.RowKit Go.Proofs.Ytpmeglcmhiihoaa.Q Go.Proofs.YtpmeglcmhiihoaaW.PrintWords Go.Proofs.YtpmeglcmhiihoaaW.PrintLast Go.Proofs.YtpmeglcmhiihoaaW.PrintMore Go.Proofs.YtpmeglcmhiihoaaW.Pl
def itemsA (v : IVal) : List IVal×Int:=if rightV 5 v=true then (if v.f0=4 then ((itS v.f2.size v.f2).getD [],0) else ([],8)) else ([],1)
theorem items_spec_ (v : IVal) (hs : v.f2.size≤1048576) : Eve (fun k => spec_ItemsOf.f k v.f0 v.f1 v.f2) (itemsA v):=by
  simp only [spec_ItemsOf.f,spec_l01Items.f]
  unfold itemsA
  refine Eve.bind (ok_spec v hs) ?_
  refine Eve.ite (fun h => ?_) (fun h => ?_)
  · rw [if_pos h]
    refine Eve.ite (fun h4 => ?_) (fun h4 => ?_)
    · obtain ⟨e,l,_,hi,_⟩:=right_four h h4
      have hit:=items_spec _ v.f2 [] (Nat.le_refl _) hs (by simp;omega)
      rw [if_pos h4]
      refine Eve.bind hit ?_
      exact Eve.one.eq (by rw [hi];simp [toldL])
    · rw [if_neg h4];exact Eve.one
  · rw [if_neg h];exact Eve.one
theorem items_impl_ (v : IVal) (hs : v.f2.size≤1048576) : Eve (fun k => impl_ItemsOf.f k v.f0 v.f1 v.f2) (itemsA v):=by
  simp only [impl_ItemsOf.f,impl_items.f]
  unfold itemsA
  refine Eve.bind (ok_impl v hs) ?_
  refine Eve.ite (fun h => ?_) (fun h => ?_)
  · rw [if_pos h]
    refine Eve.ite (fun h4 => ?_) (fun h4 => ?_)
    · obtain ⟨e,l,_,hi,_⟩:=right_four h h4
      have hit:=items_some _ v.f2 [] l hi (by simp;omega)
      rw [if_pos h4]
      refine Eve.bind hit ?_
      exact Eve.one.eq (by rw [hi];simp)
    · rw [if_neg h4];exact Eve.one
  · rw [if_neg h];exact Eve.one
theorem items_length (v : IVal) (hs : v.f2.size≤1048576) : (itemsA v).1.length≤1048576:=by
  unfold itemsA
  split
  · split
    · cases hi : itS v.f2.size v.f2 with
      | none => simp
      | some l => have:=(its_size _ _ l hi hs).1;simp only [Option.getD_some];omega
    · simp
  · simp
theorem FnExactItemsOf : laws_FnExactItemsOf.Pure:=by
  rintro x ⟨_,_,hx⟩
  refine Eve.get (g:=fun k => laws_FnExactItemsOf.f k x.f0 x.f1 x.f2) ?_
  simp only [laws_FnExactItemsOf.f,toValue_tells,szValue_tells x hx (left:=1048576) (by omega) (by omega),Option.bind_some]
  by_cases h : (1048576 : Int) - x.f2.size<0
  · simp only [if_pos h];exact Eve.ite (fun _ => Eve.one) (fun h => absurd h (by omega))
  simp only [if_neg h]
  have hs : (iv x).f2.size≤1048576:=by show x.f2.size≤_;omega
  have h1:=items_spec_ (iv x) hs
  have h2:=items_impl_ (iv x) hs
  have hl:=items_length (iv x) hs
  generalize itemsA (iv x)=a at h1 h2 hl
  obtain ⟨l,c⟩:=a
  have heq : Eve (fun k => laws_eqValueS.f k l l) true:=Eve.of (n:=l.length) (fun k hk => eqValueS_self l hl hk)
  refine Eve.bind h1 ?_
  refine Eve.bind h2 ?_
  refine Eve.bind heq ?_
  simp only [if_true,bne_self_eq_false]
  refine Eve.succ ?_
  simp only [laws_FnExactItemsOf.j0,Bool.false_eq_true,if_false,toValue_tells,Option.bind_some]
  refine Eve.bind (mark_values l hl) ?_
  refine Eve.bind (held_values l.length hl) ?_
  refine Eve.ite (fun h => absurd h (by omega)) (fun _ => ?_)
  simp only [if_true]
  refine Eve.bind h2 ?_
  refine Eve.bind heq ?_
  simp only [if_true,bne_self_eq_false]
  refine Eve.succ ?_
  simp only [laws_FnExactItemsOf.j1,Bool.false_eq_true,if_false]
  refine Eve.bind (held_values l.length hl) ?_
  refine Eve.ite (fun h => absurd h (by omega)) (fun _ => ?_)
  simp only [if_true]
  exact Eve.one
end Go.Proofs.Ytpmeglcmhiihoaa.Pure
end
section
namespace Go.Proofs.Ytpmeglcmhiihoaa.fnExactItemsOf
open Go.ChangeShapes Go.WideShapes Go.ChangeAt Go.RowKit Go.Proofs.YtpmeglcmhiihoaaW.PrintWords Go.Proofs.YtpmeglcmhiihoaaW.PrintOpen Go.Proofs.Ytpmeglcmhiihoaa.Q
open Go.ChangeMaps (open_string shut_string)
set_option linter.unusedVariables false
theorem own : ownKnob Try.prog.godebug=none:=by kernel_rfl
theorem laidOut : laidOutB Try.prog=true:=by kernel_rfl
set_option maxRecDepth 100000 in
theorem lifted (os : Os) (started : os.Started) (H : Type) (enc : TypeId×Value→H) :
    ReturnsInHanded {} Try.checked os 7 .any (Rows.fnExactItemsOfSpec.pre6 enc Try.prog Try.f7 Rows.fnExactItemsOfRow.domain false) (Rows.fnExactItemsOfSpec.post enc Try.prog Try.f7 false true false false):=by
  refine returnsInHanded_of_change_sized (C:=Try.checked) own started (by kernel_rfl) Try.func7
    (ChangeSpec.witness6 (enc:=enc) (C:=Try.checked) false ⟨#[],#[.agg #[.int .i64 0,.int .i64 0,.string ByteArray.empty]],[]⟩ 8 (by kernel_rfl) (by kernel_rfl) (by kernel_rfl) (by kernel_rfl)) ?_
  intro W base args ds gs before hval0 hW hcnd hsz0 _
  have hval : ∀ (j : Nat) t v,Try.f7.params[j]? = some t→args[j]? = some v→Value.okWide Try.prog W .any base t v:=hval0
  have hW':=hW
  obtain ⟨p,q,hA0,hV,rfl,hfz,hnd⟩:=hW
  have hA : DataW.TrodAll enc Try.prog W 0 (fun _ => true) true Try.f7.params.toList args.toList ds p:=hA0
  rw [Try.params7] at hA hval
  obtain ⟨v0,vs0,d0,ds0,p0,q0,hargs,rfl,rfl,h0,r0⟩:=trodAll_cons hA
  obtain ⟨rfl,rfl,rfl⟩:=trodAll_nil r0
  obtain rfl : args = #[v0]:=by cases args;simp_all
  obtain ⟨rfl,rfl⟩:=trodVars_none hV
  have t0:=h0
  have lt0 : ∀ x ∈ p0,x.block<W.heap.size:=by obtain ⟨m,hm⟩:=t0;exact DataW.trod_lt m _ _ _ hm
  obtain ⟨x0,cs0,rfl,K0,g0⟩:=arg_struct Try.underlying23 opens23 (hval 0 23 v0 rfl rfl) h0
  obtain rfl:=k23_open K0
  clear hA0 hval0 hsz0
  obtain ⟨k,hp⟩:=Pure.FnExactItemsOf x0 g0
  refine (laws_FnExactItemsOf.calls k x0.f0 x0.f1 x0.f2 true W  hp).mono fun e W' ⟨he,bel0⟩ => ?_
  have bel : Below W.heap.size W W':=bel0
  subst he
  exact ⟨_,rfl,_,_,_,[],_,[],hW',trodAll_mk1 (shut_bool Try.underlying4 _),(trodAll_cons_mk (Below.trod laidOut (by kernel_rfl) (of_decide_eq_true (by kernel_rfl)) t0 bel lt0) trodAll_mk0),rfl,bel.frame _,fun h => by cases h⟩
theorem over : Rows.fnExactItemsOfRow.holds Try.pinned (OpenSpec.ofChange Rows.fnExactItemsOfSpec) :=
  OpenClaim.holds_of_wide 7 Try.f7 rfl rfl rfl rfl rfl rfl rfl ⟨rfl,rfl,rfl,rfl,rfl⟩ rfl rfl rfl rfl rfl (by kernel_rfl) Try.func7 (by kernel_rfl)
    (of_decide_eq_true (by kernel_rfl)) (by unfold Func.isWrapper;first|(rw [if_pos (by decide +kernel)];kernel_rfl)|(rw [if_neg (by decide +kernel)];exact ⟨rfl,rfl⟩))
    (fun os started H enc _ => lifted os started H enc)
theorem proved : Rows.FnExactItemsOfSaid:=over
#print axioms proved
end Go.Proofs.Ytpmeglcmhiihoaa.fnExactItemsOf
namespace Go.Proofs.Ytpmeglcmhiihoaa
theorem fnExactItemsOf_holds : Rows.FnExactItemsOfSaid:=fnExactItemsOf.proved
end Go.Proofs.Ytpmeglcmhiihoaa
end
