/- Texts of this claim, merged by a program of this session. -/
import Derived.Test.YtdjnplkpahgnmaaKLawFnKeysp26
import Derived.ProofKit
import Derived.OpenShut
import Derived.ShutString
import Derived.ChangeOld
import Derived.SizedLaws
import Derived.Deep.Slices
import Derived.Lib.SmallJoins
import Derived.Laws.Entries
section
namespace Go.Proofs.Ytdjnplkpahgnmaa.Q
open Go.RowKit Go.Proofs.YtdjnplkpahgnmaaW.PrintWords Go.Proofs.YtdjnplkpahgnmaaW.PrintLast Go.Proofs.YtdjnplkpahgnmaaW.PrintMore
attribute [local go_sem] max2_int min2_int max_two min_two max_three min_three max_four min_four max2_str min2_str str_geq str_gtr str_leq   -- for this text's walks alone
set_option linter.unusedVariables false
set_option linter.unusedSimpArgs false

mutual
def F7.l0 : Nat→ByteArray→List (S24)→Int→Option (ByteArray)
 | 0,_,_,_=>none
 | k+1,x3,x4,x6=>if x6<(x4.length : Int) then (if 0≤x6 then ((F7.f k ((rd_T24 x4 x6).f0) ((rd_T24 x4 x6).f1) ((rd_T24 x4 x6).f2)).bind fun t549=>(if x3.size+t549.size≤9223372036854775807 then (F7.l0 k (x3++t549) x4 (wrap64 (x6+1))) else (none))) else (none)) else (if x3.size+1≤9223372036854775807 then (some (x3++(⟨#[0]⟩ : ByteArray))) else (none))
def F7.l1 : Nat→ByteArray→List (S68)→Int→Option (ByteArray)
 | 0,_,_,_=>none
 | k+1,x3,x7,x9=>if x9<(x7.length : Int) then (if 0≤x9 then ((Fu.f k ((rd_T68 x7 x9).f0)).bind fun t555=>(if 1+t555.size≤9223372036854775807 then ((F7.f k ((rd_T68 x7 x9).f1.f0) ((rd_T68 x7 x9).f1.f1) ((rd_T68 x7 x9).f1.f2)).bind fun t557=>(if ((⟨#[1]⟩ : ByteArray)++t555).size+t557.size≤9223372036854775807 then (if x3.size+(((⟨#[1]⟩ : ByteArray)++t555)++t557).size≤9223372036854775807 then (F7.l1 k (x3++(((⟨#[1]⟩ : ByteArray)++t555)++t557)) x7 (wrap64 (x9+1))) else (none)) else (none))) else (none))) else (none)) else (if x3.size+1≤9223372036854775807 then (some (x3++(⟨#[0]⟩ : ByteArray))) else (none))
def F7.f : Nat→Int→Int→ByteArray→Option (ByteArray)
 | 0,_,_,_=>none
 | k+1,a0_0,a0_1,a0_2=>(F8.f k (wrap64 (a0_0+1)) 1).bind fun t540=>(if a0_0=0 then (some t540) else (if a0_0=1 then ((F8.f k a0_1 1).bind fun t541=>(if t540.size+t541.size≤9223372036854775807 then (some (t540++t541)) else (none))) else (if a0_0=2 then ((F8.f k (wrap64 (a0_1+4611686018427387904)) 8).bind fun t542=>(if t540.size+t542.size≤9223372036854775807 then (some (t540++t542)) else (none))) else (if a0_0=3 then ((Fu.f k a0_2).bind fun t543=>(if t540.size+t543.size≤9223372036854775807 then (some (t540++t543)) else (none))) else (if a0_0=4 then ((Fo.f k a0_2).bind fun bt544=>(F7.l0 k t540 bt544.1 0)) else ((Fn.f k a0_2).bind fun bt550=>(F7.l1 k t540 bt550.1 0)))))))
end
theorem F7.mono_l : ∀ k,(∀ y0 y1 y2,LeO (F7.f k y0 y1 y2) (F7.f (k+1) y0 y1 y2))∧(∀ y0 y1 y2,LeO (F7.l0 k y0 y1 y2) (F7.l0 (k+1) y0 y1 y2))∧(∀ y0 y1 y2,LeO (F7.l1 k y0 y1 y2) (F7.l1 (k+1) y0 y1 y2))
 | 0=>⟨fun _ _ _ r h=>by simp [F7.f] at h,fun _ _ _ r h=>by simp [F7.l0] at h,fun _ _ _ r h=>by simp [F7.l1] at h⟩
 | k+1=>by
  obtain ⟨ih0,ih1,ih2⟩:=F7.mono_l k;refine ⟨?_,?_,?_⟩
  ·
   intro y0 y1 y2
   unfold F7.f
   repeat' first|(with_reducible first|exact ih0 _ _ _|exact ih1 _ _ _|exact ih2 _ _ _|exact Fo.mono _ _|exact Fn.mono _ _|exact F8.mono _ _ _|exact Fu.mono _ _|exact zQ _|exact zN _|refine zP ?_ ?_|refine zO ?_ (fun _=>?_))|refine zP ?_ ?_|refine zO ?_ (fun _=>?_)
  ·
   intro y0 y1 y2
   unfold F7.l0
   repeat' first|(with_reducible first|exact ih0 _ _ _|exact ih1 _ _ _|exact ih2 _ _ _|exact Fo.mono _ _|exact Fn.mono _ _|exact F8.mono _ _ _|exact Fu.mono _ _|exact zQ _|exact zN _|refine zP ?_ ?_|refine zO ?_ (fun _=>?_))|refine zP ?_ ?_|refine zO ?_ (fun _=>?_)
  intro y0 y1 y2;unfold F7.l1
  repeat' first|(with_reducible first|exact ih0 _ _ _|exact ih1 _ _ _|exact ih2 _ _ _|exact Fo.mono _ _|exact Fn.mono _ _|exact F8.mono _ _ _|exact Fu.mono _ _|exact zQ _|exact zN _|refine zP ?_ ?_|refine zO ?_ (fun _=>?_))|refine zP ?_ ?_|refine zO ?_ (fun _=>?_)
theorem F7.mono : ∀ a0 a1 a2 k,LeO (F7.f k a0 a1 a2) (F7.f (k+1) a0 a1 a2):=by
 intro a0 a1 a2 k;obtain ⟨ih0,ih1,ih2⟩:=F7.mono_l k;exact ih0 a0 a1 a2
def F7.T22 : Bool×List (List Nat×List Nat):=(true,[([],[]),([],[]),([],[]),([1,2],[1,2]),([3],[3]),([4],[4]),([5],[5]),([6],[6]),([],[]),([],[]),([8,9],[8,9]),([10],[10]),([11],[11]),([12,6],[12]),([7,13],[7,13]),([0,14],[0,14]),([15,13,0,1,2,3,4,5,6,7,8,9,10,11,12,13,14,15],[0,15])])
def F7.B22 : List Nat:=[0,0,0,6,14,30,62,126,0,0,768,1792,3840,8062,16382,32767,65535]
theorem F7.tab22 : rtab .any (opsOf Try.f44 22)=F7.T22:=by kernel_rfl
theorem F7.bits22 : waitsOk F7.T22.2 F7.B22=true:=by kernel_rfl
set_option maxHeartbeats 8000000 in
set_option maxRecDepth 100000 in
theorem F7.calls (k : Nat) : ∀ (a0_0 : Int) (a0_1 : Int) (a0_2 : ByteArray) (r : ByteArray) (w : World) (h : F7.f k a0_0 a0_1 a0_2=some r),
  Calls Try.prog 44 #[.agg #[.int .i64 a0_0,.int .i64 a0_1,.string a0_2]] w fun e w' => e = .returned (.string r)∧Below w.heap.size w w':=by
 induction k using Nat.strongRecOn with
 | _ k ih =>
 intro a0_0 a0_1 a0_2 r w h
 cases k with
 | zero=>exact absurd h (by simp [F7.f])
 | succ k =>
 simp only [F7.f] at h;have hu24:=Try.underlying24;have HB:=zh (Below.refl w.heap.size w);have H : ((F8.f k (wrap64 (a0_0+1)) 1).bind fun t540=>(if a0_0=0 then (some t540) else (if a0_0=1 then ((F8.f k a0_1 1).bind fun t541=>(if t540.size+t541.size≤9223372036854775807 then (some (t540++t541)) else (none))) else (if a0_0=2 then ((F8.f k (wrap64 (a0_1+4611686018427387904)) 8).bind fun t542=>(if t540.size+t542.size≤9223372036854775807 then (some (t540++t542)) else (none))) else (if a0_0=3 then ((Fu.f k a0_2).bind fun t543=>(if t540.size+t543.size≤9223372036854775807 then (some (t540++t543)) else (none))) else (if a0_0=4 then ((Fo.f k a0_2).bind fun bt544=>(F7.l0 k t540 bt544.1 0)) else ((Fn.f k a0_2).bind fun bt550=>(F7.l1 k t540 bt550.1 0))))))))=some r:=h;clear h;replace H:=zT.mp H;obtain ⟨t540,A20,H⟩:=H;have A2:=zh A20;clear A20
 by_cases c3 : a0_0=0
 ·
  rw [if_pos c3] at H
  have c3b0 : (a0_0 == 0)=true:=ya.mpr c3;have c3b1 : (a0_0 != 0)=false:=zX.mpr c3;clear c3;obtain rfl:=zU H
  go_enter Try.func44,Try.ntmps44
  go_wp2_with (first|((with_reducible refine zK (N:=1) rfl ?_);refine zI ?hg (N:=1) ?hd (cs:=#[.int .i64 a0_0,.int .i64 a0_1,.string a0_2]) (t:=24) ?hr ?_;(case hd=>rfl);(case hg=>rfl);(case hr=>go_simp <;> rfl);intro gb539 hg w4 hbox hb;have BK539:=zh (hbox);have hH_:=cH jD hb hg;have GW539:=zh hH_.1;have GE539:=GW539;replace HB:=zh hH_.2;clear hb hbox hg hH_;obtain ⟨hcz5_0,hcz5_1,hcz5_2,hfz5_0,hfz5_1,hfz5_2⟩:=cB3 BK539.out)|((with_reducible refine zJ (f:=68) rfl ?_);refine yj (some 13) rfl rfl Try.func68 jA rfl #[.int .i64 (wrap64 (a0_0+1)),.int .i64 1] rfl jB ?_;(with_reducible refine (F8.calls k  (wrap64 (a0_0+1)) 1 t540 _ A2.out).mono ?_);rintro e w6 ⟨rfl,hb⟩;refine ⟨_,rfl,?_⟩;replace BK539:=zh (cD BK539.out jt hb);replace HB:=zh (zC jf hb);(try clear hb);(try clear hb2);(try clear hk);(try clear hi);obtain ⟨hcz7_0,hcz7_1,hcz7_2,hfz7_0,hfz7_1,hfz7_2⟩:=cB3 BK539.out))
  go_ret
  exact ⟨jG,jf⟩
 rw [if_neg c3] at H;have c3b0 : (a0_0 == 0)=false:=zY.mpr c3;have c3b1 : (a0_0 != 0)=true:=zZ.mpr c3
 by_cases c8 : a0_0=1
 ·
  rw [if_pos c8] at H
  have c8b0 : (a0_0 == 1)=true:=ya.mpr c8;have c8b1 : (a0_0 != 1)=false:=zX.mpr c8;clear c8;replace H:=zT.mp H;obtain ⟨t541,A90,H⟩:=H;have A9:=zh A90;clear A90
  by_cases c10 : t540.size+t541.size≤9223372036854775807
  ·
   rw [if_pos c10] at H
   have c10b0:=eq_true c10;have c10b1 : decide (t540.size+t541.size≤9223372036854775807)=true:=decide_eq_true c10
   try have c10b2 : (9223372036854775807<t540.size+t541.size)=False:=eq_false (Nat.not_lt.2 c10)
   obtain rfl:=zU H
   go_enter Try.func44,Try.ntmps44
   go_wp2_with (first|((with_reducible refine zK (N:=1) rfl ?_);refine zI ?hg (N:=1) ?hd (cs:=#[.int .i64 a0_0,.int .i64 a0_1,.string a0_2]) (t:=24) ?hr ?_;(case hd=>rfl);(case hg=>rfl);(case hr=>go_simp <;> rfl);intro gb539 hg w11 hbox hb;have BK539:=zh (hbox);have hH_:=cH jD hb hg;have GW539:=zh hH_.1;have GE539:=GW539;replace HB:=zh hH_.2;clear hb hbox hg hH_;obtain ⟨hcz12_0,hcz12_1,hcz12_2,hfz12_0,hfz12_1,hfz12_2⟩:=cB3 BK539.out)|((with_reducible refine zJ (f:=68) rfl ?_);refine yj (some 13) rfl rfl Try.func68 jA rfl #[.int .i64 (wrap64 (a0_0+1)),.int .i64 1] rfl jB ?_;(with_reducible refine (F8.calls k  (wrap64 (a0_0+1)) 1 t540 _ A2.out).mono ?_);rintro e w13 ⟨rfl,hb⟩;refine ⟨_,rfl,?_⟩;replace BK539:=zh (cD BK539.out jt hb);replace HB:=zh (zC jf hb);(try clear hb);(try clear hb2);(try clear hk);(try clear hi);obtain ⟨hcz14_0,hcz14_1,hcz14_2,hfz14_0,hfz14_1,hfz14_2⟩:=cB3 BK539.out)|((with_reducible refine zJ (f:=68) rfl ?_);refine yj (some 24) rfl rfl Try.func68 jA rfl #[.int .i64 a0_1,.int .i64 1] rfl jB ?_;(with_reducible refine (F8.calls k  a0_1 1 t541 _ A9.out).mono ?_);rintro e w15 ⟨rfl,hb⟩;refine ⟨_,rfl,?_⟩;replace BK539:=zh (cD BK539.out jt hb);replace HB:=zh (zC jf hb);(try clear hb);(try clear hb2);(try clear hk);(try clear hi)))
   go_ret
   exact ⟨jG,jf⟩
  rw [if_neg c10] at H;exact absurd H (by simp)
 rw [if_neg c8] at H;have c8b0 : (a0_0 == 1)=false:=zY.mpr c8;have c8b1 : (a0_0 != 1)=true:=zZ.mpr c8
 by_cases c16 : a0_0=2
 ·
  rw [if_pos c16] at H
  have c16b0 : (a0_0 == 2)=true:=ya.mpr c16;have c16b1 : (a0_0 != 2)=false:=zX.mpr c16;clear c16;replace H:=zT.mp H;obtain ⟨t542,A170,H⟩:=H;have A17:=zh A170;clear A170
  by_cases c18 : t540.size+t542.size≤9223372036854775807
  ·
   rw [if_pos c18] at H
   have c18b0:=eq_true c18;have c18b1 : decide (t540.size+t542.size≤9223372036854775807)=true:=decide_eq_true c18
   try have c18b2 : (9223372036854775807<t540.size+t542.size)=False:=eq_false (Nat.not_lt.2 c18)
   obtain rfl:=zU H
   go_enter Try.func44,Try.ntmps44
   go_wp2_with (first|((with_reducible refine zK (N:=1) rfl ?_);refine zI ?hg (N:=1) ?hd (cs:=#[.int .i64 a0_0,.int .i64 a0_1,.string a0_2]) (t:=24) ?hr ?_;(case hd=>rfl);(case hg=>rfl);(case hr=>go_simp <;> rfl);intro gb539 hg w19 hbox hb;have BK539:=zh (hbox);have hH_:=cH jD hb hg;have GW539:=zh hH_.1;have GE539:=GW539;replace HB:=zh hH_.2;clear hb hbox hg hH_;obtain ⟨hcz20_0,hcz20_1,hcz20_2,hfz20_0,hfz20_1,hfz20_2⟩:=cB3 BK539.out)|((with_reducible refine zJ (f:=68) rfl ?_);refine yj (some 13) rfl rfl Try.func68 jA rfl #[.int .i64 (wrap64 (a0_0+1)),.int .i64 1] rfl jB ?_;(with_reducible refine (F8.calls k  (wrap64 (a0_0+1)) 1 t540 _ A2.out).mono ?_);rintro e w21 ⟨rfl,hb⟩;refine ⟨_,rfl,?_⟩;replace BK539:=zh (cD BK539.out jt hb);replace HB:=zh (zC jf hb);(try clear hb);(try clear hb2);(try clear hk);(try clear hi);obtain ⟨hcz22_0,hcz22_1,hcz22_2,hfz22_0,hfz22_1,hfz22_2⟩:=cB3 BK539.out)|((with_reducible refine zJ (f:=68) rfl ?_);refine yj (some 32) rfl rfl Try.func68 jA rfl #[.int .i64 (wrap64 (a0_1+4611686018427387904)),.int .i64 8] rfl jB ?_;(with_reducible refine (F8.calls k  (wrap64 (a0_1+4611686018427387904)) 8 t542 _ A17.out).mono ?_);rintro e w23 ⟨rfl,hb⟩;refine ⟨_,rfl,?_⟩;replace BK539:=zh (cD BK539.out jt hb);replace HB:=zh (zC jf hb);(try clear hb);(try clear hb2);(try clear hk);(try clear hi)))
   go_ret
   exact ⟨jG,jf⟩
  rw [if_neg c18] at H;exact absurd H (by simp)
 rw [if_neg c16] at H;have c16b0 : (a0_0 == 2)=false:=zY.mpr c16;have c16b1 : (a0_0 != 2)=true:=zZ.mpr c16
 by_cases c24 : a0_0=3
 ·
  rw [if_pos c24] at H
  have c24b0 : (a0_0 == 3)=true:=ya.mpr c24;have c24b1 : (a0_0 != 3)=false:=zX.mpr c24;clear c24;replace H:=zT.mp H;obtain ⟨t543,A250,H⟩:=H;have A25:=zh A250;clear A250
  by_cases c26 : t540.size+t543.size≤9223372036854775807
  ·
   rw [if_pos c26] at H
   have c26b0:=eq_true c26;have c26b1 : decide (t540.size+t543.size≤9223372036854775807)=true:=decide_eq_true c26
   try have c26b2 : (9223372036854775807<t540.size+t543.size)=False:=eq_false (Nat.not_lt.2 c26)
   obtain rfl:=zU H
   go_enter Try.func44,Try.ntmps44
   go_wp2_with (first|((with_reducible refine zK (N:=1) rfl ?_);refine zI ?hg (N:=1) ?hd (cs:=#[.int .i64 a0_0,.int .i64 a0_1,.string a0_2]) (t:=24) ?hr ?_;(case hd=>rfl);(case hg=>rfl);(case hr=>go_simp <;> rfl);intro gb539 hg w27 hbox hb;have BK539:=zh (hbox);have hH_:=cH jD hb hg;have GW539:=zh hH_.1;have GE539:=GW539;replace HB:=zh hH_.2;clear hb hbox hg hH_;obtain ⟨hcz28_0,hcz28_1,hcz28_2,hfz28_0,hfz28_1,hfz28_2⟩:=cB3 BK539.out)|((with_reducible refine zJ (f:=68) rfl ?_);refine yj (some 13) rfl rfl Try.func68 jA rfl #[.int .i64 (wrap64 (a0_0+1)),.int .i64 1] rfl jB ?_;(with_reducible refine (F8.calls k  (wrap64 (a0_0+1)) 1 t540 _ A2.out).mono ?_);rintro e w29 ⟨rfl,hb⟩;refine ⟨_,rfl,?_⟩;replace BK539:=zh (cD BK539.out jt hb);replace HB:=zh (zC jf hb);(try clear hb);(try clear hb2);(try clear hk);(try clear hi);obtain ⟨hcz30_0,hcz30_1,hcz30_2,hfz30_0,hfz30_1,hfz30_2⟩:=cB3 BK539.out)|((with_reducible refine zJ (f:=69) rfl ?_);refine yj (some 39) rfl rfl Try.func69 jA rfl #[.string a0_2] rfl jB ?_;(with_reducible refine (Fu.calls k  a0_2 t543 _ A25.out).mono ?_);rintro e w31 ⟨rfl,hb⟩;refine ⟨_,rfl,?_⟩;replace BK539:=zh (cD BK539.out jt hb);replace HB:=zh (zC jf hb);(try clear hb);(try clear hb2);(try clear hk);(try clear hi)))
   go_ret
   exact ⟨jG,jf⟩
  rw [if_neg c26] at H;exact absurd H (by simp)
 rw [if_neg c24] at H;have c24b0 : (a0_0 == 3)=false:=zY.mpr c24;have c24b1 : (a0_0 != 3)=true:=zZ.mpr c24
 by_cases c32 : a0_0=4
 ·
  rw [if_pos c32] at H
  have c32b0 : (a0_0 == 4)=true:=ya.mpr c32;have c32b1 : (a0_0 != 4)=false:=zX.mpr c32;clear c32;replace H:=zT.mp H;obtain ⟨⟨t544,t545⟩,A330,H⟩:=H;have A33:=zh A330;clear A330;have H':=zh H;clear H
  go_enter Try.func44,Try.ntmps44
  go_wp2_with (first|((with_reducible refine zK (N:=1) rfl ?_);refine zI ?hg (N:=1) ?hd (cs:=#[.int .i64 a0_0,.int .i64 a0_1,.string a0_2]) (t:=24) ?hr ?_;(case hd=>rfl);(case hg=>rfl);(case hr=>go_simp <;> rfl);intro gb539 hg w34 hbox hb;have BK539:=zh (hbox);have hH_:=cH jD hb hg;have GW539:=zh hH_.1;have GE539:=GW539;replace HB:=zh hH_.2;clear hb hbox hg hH_;obtain ⟨hcz35_0,hcz35_1,hcz35_2,hfz35_0,hfz35_1,hfz35_2⟩:=cB3 BK539.out)|((with_reducible refine zJ (f:=68) rfl ?_);refine yj (some 13) rfl rfl Try.func68 jA rfl #[.int .i64 (wrap64 (a0_0+1)),.int .i64 1] rfl jB ?_;(with_reducible refine (F8.calls k  (wrap64 (a0_0+1)) 1 t540 _ A2.out).mono ?_);rintro e w36 ⟨rfl,hb⟩;refine ⟨_,rfl,?_⟩;replace BK539:=zh (cD BK539.out jt hb);replace HB:=zh (zC jf hb);(try clear hb);(try clear hb2);(try clear hk);(try clear hi);obtain ⟨hcz37_0,hcz37_1,hcz37_2,hfz37_0,hfz37_1,hfz37_2⟩:=cB3 BK539.out)|((with_reducible refine zJ (f:=65) rfl ?_);refine yj (some 46) rfl rfl Try.func65 jA rfl #[.string a0_2] rfl jB ?_;(with_reducible refine (Fo.calls k  a0_2 t544 t545 _ A33.out).mono ?_);rintro e w38 ⟨v546,rfl,ho0,hb⟩;refine ⟨_,rfl,?_⟩;have HO547:=zh (yy (Kd.R_newB ho0 (g:=gb539) (o:=.cells #[.int .i64 a0_0,.int .i64 a0_1,.string a0_2] 24 (0,0)) jt) (zB jf));replace BK539:=zh (cD BK539.out jt hb);replace HB:=zh (zC jf hb);(try clear hb);(try clear hb2);(try clear hk);(try clear hi);(try clear ho0)))
  go_loopg [3,6] k (fun kq v3 v6 w' => ∃ (x3_1 : ByteArray) (x6_1 : Int),v3 = .string x3_1∧v6 = .int .i64 x6_1∧Aside0 (F7.l0 kq x3_1 t544 x6_1=some r)∧Aside0 (kq≤k)∧Aside0 (Kd.R k24 24 w' w.heap.size (fun k_=>k_≠gb539) v546 t544)∧Aside0 (w'.heap[gb539]? = some (.cells #[.int .i64 a0_0,.int .i64 a0_1,.string a0_2] 24 (0,0)))∧Aside0 (Below w.heap.size w w'))
  case atStart=>exact ⟨(t540),(0),jE,jE,H',⟨ye _⟩,⟨by (with_reducible repeat (first|apply zm|apply zn|apply zo));exact zM HO547.out (fun _ hk=>hk.2)⟩,⟨jt⟩,⟨jf⟩⟩
  case round =>
   clear H'
   try clear c1 c2
   try clear p2
   try clear c3 c3b0 c3b1 c4 c6
   try clear p6
   try clear c8 c8b0 c8b1 c10 c10b0 c10b1 c10b2 c16 c16b0 c16b1 c18 c18b0 c18b1 c18b2 c24 c24b0 c24b1 c26 c26b0 c26b1 c26b2 c32 c32b0 c32b1
   try clear hcz12_0 hcz12_1 hcz12_2
   try clear hcz14_0 hcz14_1 hcz14_2
   try clear hcz20_0 hcz20_1 hcz20_2
   try clear hcz22_0 hcz22_1 hcz22_2
   try clear hcz28_0 hcz28_1 hcz28_2
   try clear hcz30_0 hcz30_1 hcz30_2
   try clear hcz35_0 hcz35_1 hcz35_2
   try clear hcz37_0 hcz37_1 hcz37_2
   try clear hcz5_0 hcz5_1 hcz5_2
   try clear hcz7_0 hcz7_1 hcz7_2
   try clear hfz12_0 hfz12_1 hfz12_2
   try clear hfz14_0 hfz14_1 hfz14_2
   try clear hfz20_0 hfz20_1 hfz20_2
   try clear hfz22_0 hfz22_1 hfz22_2
   try clear hfz28_0 hfz28_1 hfz28_2
   try clear hfz30_0 hfz30_1 hfz30_2
   try clear hfz35_0 hfz35_1 hfz35_2
   try clear hfz37_0 hfz37_1 hfz37_2
   try clear hfz5_0 hfz5_1 hfz5_2
   try clear hfz7_0 hfz7_1 hfz7_2
   obtain ⟨x3_1,x6_1,rfl,rfl,HA,HK1,HO_4,BK539,HB⟩:=hrel
   cases gk with
   | zero=>exact absurd HA.out (by simp [F7.l0])
   | succ k1 =>
    have H:=HA.out;clear HA;simp only [F7.l0] at H
    by_cases c39 : x6_1<(t544.length : Int)
    ·
     rw [if_pos c39] at H
     have c39b0 : decide (x6_1<(t544.length : Int))=true:=decide_eq_true c39;clear c39
     by_cases c40 : 0≤x6_1
     ·
      rw [if_pos c40] at H
      have c40b0 : decide (0≤x6_1)=true:=decide_eq_true c40;clear c40;replace H:=zT.mp H;obtain ⟨t549,A410,H⟩:=H;have A41:=zh A410;clear A410
      by_cases c42 : x3_1.size+t549.size≤9223372036854775807
      ·
       rw [if_pos c42] at H
       have c42b0:=eq_true c42;have c42b1 : decide (x3_1.size+t549.size≤9223372036854775807)=true:=decide_eq_true c42
       try have c42b2 : (9223372036854775807<x3_1.size+t549.size)=False:=eq_false (Nat.not_lt.2 c42)
       have H':=zh H;clear H;obtain ⟨Ao43,co43,eo43⟩:=yk HO_4.out;subst eo43;have p548 : 0≤(x6_1 : Int):=zy jF;have q548 : x6_1<(t544.length : Int):=zy jF;obtain ⟨ad548,e548,hx548_0,hx548_1,hx548_2⟩:=at_T24 (yh HO_4.out).2.2 x6_1 p548 q548
       cases e548
       replace p548:=eq_true p548;replace q548:=eq_true q548
       go_wp2_with (first|((with_reducible refine zJ (f:=44) rfl ?_);refine yj (some 60) rfl rfl Try.func44 jA rfl #[.agg #[.int .i64 ((rd_T24 t544 x6_1).f0),.int .i64 ((rd_T24 t544 x6_1).f1),.string ((rd_T24 t544 x6_1).f2)]] rfl jB ?_;(with_reducible refine (ih k1 jN  ((rd_T24 t544 x6_1).f0) ((rd_T24 t544 x6_1).f1) ((rd_T24 t544 x6_1).f2) t549 _ A41.out).mono ?_);rintro e w44 ⟨rfl,hb⟩;refine ⟨_,rfl,?_⟩;replace HO_4:=zh (yg jZ hb);replace BK539:=zh (cD BK539.out jt hb);replace HB:=zh (zC jf hb);(try clear hb);(try clear hb2);(try clear hk);(try clear hi)))
       go_roundg k1
       case measure=>have:=HK1.out;omega
       case rel=>exact ⟨(x3_1++t549),(wrap64 (x6_1+1)),jE,jE,H',⟨jN⟩,⟨jZ⟩,⟨jt⟩,⟨jf⟩⟩
      rw [if_neg c42] at H;exact absurd H (by simp)
     rw [if_neg c40] at H;exact absurd H (by simp)
    rw [if_neg c39] at H;have c39b0 : decide (x6_1<(t544.length : Int))=false:=decide_eq_false c39;clear c39
    by_cases c45 : x3_1.size+1≤9223372036854775807
    ·
     rw [if_pos c45] at H
     have c45b0:=eq_true c45;have c45b1 : decide (x3_1.size+1≤9223372036854775807)=true:=decide_eq_true c45
     try have c45b2 : (9223372036854775807<x3_1.size+1)=False:=eq_false (Nat.not_lt.2 c45)
     obtain rfl:=zU H;obtain ⟨Ao46,co46,eo46⟩:=yk HO_4.out;subst eo46
     go_wp2
     go_ret
     exact ⟨jG,jf⟩
    rw [if_neg c45] at H;exact absurd H (by simp)
 rw [if_neg c32] at H;have c32b0 : (a0_0 == 4)=false:=zY.mpr c32;have c32b1 : (a0_0 != 4)=true:=zZ.mpr c32;replace H:=zT.mp H;obtain ⟨⟨t550,t551⟩,A470,H⟩:=H;have A47:=zh A470;clear A470;have H':=zh H;clear H
 go_enter Try.func44,Try.ntmps44
 go_wp2_with (first|((with_reducible refine zK (N:=1) rfl ?_);refine zI ?hg (N:=1) ?hd (cs:=#[.int .i64 a0_0,.int .i64 a0_1,.string a0_2]) (t:=24) ?hr ?_;(case hd=>rfl);(case hg=>rfl);(case hr=>go_simp <;> rfl);intro gb539 hg w48 hbox hb;have BK539:=zh (hbox);have hH_:=cH jD hb hg;have GW539:=zh hH_.1;have GE539:=GW539;replace HB:=zh hH_.2;clear hb hbox hg hH_;obtain ⟨hcz49_0,hcz49_1,hcz49_2,hfz49_0,hfz49_1,hfz49_2⟩:=cB3 BK539.out)|((with_reducible refine zJ (f:=68) rfl ?_);refine yj (some 13) rfl rfl Try.func68 jA rfl #[.int .i64 (wrap64 (a0_0+1)),.int .i64 1] rfl jB ?_;(with_reducible refine (F8.calls k  (wrap64 (a0_0+1)) 1 t540 _ A2.out).mono ?_);rintro e w50 ⟨rfl,hb⟩;refine ⟨_,rfl,?_⟩;replace BK539:=zh (cD BK539.out jt hb);replace HB:=zh (zC jf hb);(try clear hb);(try clear hb2);(try clear hk);(try clear hi);obtain ⟨hcz51_0,hcz51_1,hcz51_2,hfz51_0,hfz51_1,hfz51_2⟩:=cB3 BK539.out)|((with_reducible refine zJ (f:=66) rfl ?_);refine yj (some 67) rfl rfl Try.func66 jA rfl #[.string a0_2] rfl jB ?_;(with_reducible refine (Fn.calls k  a0_2 t550 t551 _ A47.out).mono ?_);rintro e w52 ⟨v552,rfl,ho0,hb⟩;refine ⟨_,rfl,?_⟩;have HO553:=zh (yy ho0 (zB jf));replace BK539:=zh (cD BK539.out jt hb);replace HB:=zh (zC jf hb);(try clear hb);(try clear hb2);(try clear hk);(try clear hi);(try clear ho0)))
 go_loopg [3,9] k (fun kq v3 v9 w' => ∃ (x3_1 : ByteArray) (x9_1 : Int),v3 = .string x3_1∧v9 = .int .i64 x9_1∧Aside0 (F7.l1 kq x3_1 t550 x9_1=some r)∧Aside0 (kq≤k)∧Aside0 (Kd.R k68 68 w' w.heap.size (fun _=>True) v552 t550)∧Aside0 (w'.heap[gb539]? = some (.cells #[.int .i64 a0_0,.int .i64 a0_1,.string a0_2] 24 (0,0)))∧Aside0 (Below w.heap.size w w'))
 case atStart=>exact ⟨(t540),(0),jE,jE,H',⟨ye _⟩,⟨by (with_reducible repeat (first|apply zm|apply zn|apply zo));exact HO553.out⟩,⟨jt⟩,⟨jf⟩⟩
 case round =>
  clear H'
  try clear c1 c2
  try clear p2
  try clear c3 c3b0 c3b1 c4
  try clear p5
  try clear q5
  try clear hx5
  try clear c6
  try clear p6
  try clear c8 c8b0 c8b1 c10 c10b0 c10b1 c10b2 c16 c16b0 c16b1 c18 c18b0 c18b1 c18b2 c24 c24b0 c24b1 c26 c26b0 c26b1 c26b2 c32 c32b0 c32b1 c39 c39b0 c40 c40b0 c42 c42b0 c42b1 c42b2 c44 c45 c45b0 c45b1 c45b2
  try clear hcz12_0 hcz12_1 hcz12_2
  try clear hcz14_0 hcz14_1 hcz14_2
  try clear hcz20_0 hcz20_1 hcz20_2
  try clear hcz22_0 hcz22_1 hcz22_2
  try clear hcz28_0 hcz28_1 hcz28_2
  try clear hcz30_0 hcz30_1 hcz30_2
  try clear hcz35_0 hcz35_1 hcz35_2
  try clear hcz37_0 hcz37_1 hcz37_2
  try clear hcz49_0 hcz49_1 hcz49_2
  try clear hcz51_0 hcz51_1 hcz51_2
  try clear hcz5_0 hcz5_1 hcz5_2
  try clear hcz7_0 hcz7_1 hcz7_2
  try clear hfz12_0 hfz12_1 hfz12_2
  try clear hfz14_0 hfz14_1 hfz14_2
  try clear hfz20_0 hfz20_1 hfz20_2
  try clear hfz22_0 hfz22_1 hfz22_2
  try clear hfz28_0 hfz28_1 hfz28_2
  try clear hfz30_0 hfz30_1 hfz30_2
  try clear hfz35_0 hfz35_1 hfz35_2
  try clear hfz37_0 hfz37_1 hfz37_2
  try clear hfz49_0 hfz49_1 hfz49_2
  try clear hfz51_0 hfz51_1 hfz51_2
  try clear hfz5_0 hfz5_1 hfz5_2
  try clear hfz7_0 hfz7_1 hfz7_2
  try clear hx548_0
  try clear hx548_1
  try clear hx548_2
  try clear p2
  try clear p548
  try clear p6
  try clear q548
  obtain ⟨x3_1,x9_1,rfl,rfl,HA,HK1,HO_7,BK539,HB⟩:=hrel
  cases gk with
  | zero=>exact absurd HA.out (by simp [F7.l1])
  | succ k1 =>
   have H:=HA.out;clear HA;simp only [F7.l1] at H
   by_cases c53 : x9_1<(t550.length : Int)
   ·
    rw [if_pos c53] at H
    have c53b0 : decide (x9_1<(t550.length : Int))=true:=decide_eq_true c53;clear c53
    by_cases c54 : 0≤x9_1
    ·
     rw [if_pos c54] at H
     have c54b0 : decide (0≤x9_1)=true:=decide_eq_true c54;clear c54;replace H:=zT.mp H;obtain ⟨t555,A550,H⟩:=H;have A55:=zh A550;clear A550
     by_cases c56 : 1+t555.size≤9223372036854775807
     ·
      rw [if_pos c56] at H
      have c56b0:=eq_true c56;have c56b1 : decide (1+t555.size≤9223372036854775807)=true:=decide_eq_true c56
      try have c56b2 : (9223372036854775807<1+t555.size)=False:=eq_false (Nat.not_lt.2 c56)
      replace H:=zT.mp H;obtain ⟨t557,A570,H⟩:=H;have A57:=zh A570;clear A570
      by_cases c58 : ((⟨#[1]⟩ : ByteArray)++t555).size+t557.size≤9223372036854775807
      ·
       rw [if_pos c58] at H
       have c58b0:=eq_true c58;have c58b1 : decide (((⟨#[1]⟩ : ByteArray)++t555).size+t557.size≤9223372036854775807)=true:=decide_eq_true c58
       try have c58b2 : (9223372036854775807<((⟨#[1]⟩ : ByteArray)++t555).size+t557.size)=False:=eq_false (Nat.not_lt.2 c58)
       (try have c58b4:=c58b2;simp only [ByteArray.size_append,show (⟨#[1]⟩ : ByteArray).size=1 from rfl] at c58b4)
       by_cases c59 : x3_1.size+(((⟨#[1]⟩ : ByteArray)++t555)++t557).size≤9223372036854775807
       ·
        rw [if_pos c59] at H
        have c59b0:=eq_true c59;have c59b1 : decide (x3_1.size+(((⟨#[1]⟩ : ByteArray)++t555)++t557).size≤9223372036854775807)=true:=decide_eq_true c59
        try have c59b2 : (9223372036854775807<x3_1.size+(((⟨#[1]⟩ : ByteArray)++t555)++t557).size)=False:=eq_false (Nat.not_lt.2 c59)
        (try have c59b4:=c59b2;simp only [ByteArray.size_append,show (⟨#[1]⟩ : ByteArray).size=1 from rfl] at c59b4);have H':=zh H;clear H;obtain ⟨Ao60,co60,eo60⟩:=yk HO_7.out;subst eo60
        try go_wp2
        replace HO_7:=zh (zo HO_7.out);replace BK539:=zh (zf BK539.out);replace HB:=zh (zc HB.out);have p554 : 0≤(x9_1 : Int):=zy jF;have q554 : x9_1<(t550.length : Int):=zy jF;obtain ⟨ad554,e554,hx554_0,hx554_1,hx554_2,hx554_3⟩:=at_T68 (yh HO_7.out).2.2 x9_1 p554 q554
        cases e554
        replace p554:=eq_true p554;replace q554:=eq_true q554;have p556 : 0≤(x9_1 : Int):=zy jF;have q556 : x9_1<(t550.length : Int):=zy jF;obtain ⟨ad556,e556,hx556_0,hx556_1,hx556_2,hx556_3⟩:=at_T68 (yh HO_7.out).2.2 x9_1 p556 q556;obtain rfl : ad554=ad556:=(by injection e556);replace p556:=eq_true p556;replace q556:=eq_true q556;refine start_ (n:=17) (S:=fun w' => w'.cell? (ad554.add ((x9_1).toNat*4))=some (.string ((rd_T68 t550 x9_1).f0))∧w'.cell? ⟨(ad554.add ((x9_1).toNat*4)).block,(ad554.add ((x9_1).toNat*4)).off+1,none⟩=some (.int .i64 ((rd_T68 t550 x9_1).f1.f0))∧w'.cell? ⟨(ad554.add ((x9_1).toNat*4)).block,(ad554.add ((x9_1).toNat*4)).off+2,none⟩=some (.int .i64 ((rd_T68 t550 x9_1).f1.f1))∧w'.cell? ⟨(ad554.add ((x9_1).toNat*4)).block,(ad554.add ((x9_1).toNat*4)).off+3,none⟩=some (.string ((rd_T68 t550 x9_1).f1.f2))∧w'.cell? (ad554.add ((x9_1).toNat*4))=some (.string ((rd_T68 t550 x9_1).f0))∧w'.cell? ⟨(ad554.add ((x9_1).toNat*4)).block,(ad554.add ((x9_1).toNat*4)).off+1,none⟩=some (.int .i64 ((rd_T68 t550 x9_1).f1.f0))∧w'.cell? ⟨(ad554.add ((x9_1).toNat*4)).block,(ad554.add ((x9_1).toNat*4)).off+2,none⟩=some (.int .i64 ((rd_T68 t550 x9_1).f1.f1))∧w'.cell? ⟨(ad554.add ((x9_1).toNat*4)).block,(ad554.add ((x9_1).toNat*4)).off+3,none⟩=some (.string ((rd_T68 t550 x9_1).f1.f2))) (ds:=[]) (bm_ 0 17) jA rfl rfl ⟨hx554_0,hx554_1,hx554_2,hx554_3,hx556_0,hx556_1,hx556_2,hx556_3⟩ (fun hHeld=>?_);refine with_tabW F7.tab22 F7.bits22 (fun HT_ HW_=>?_);generalize wr.drew=w61 at HO_7 BK539 HB hx554_0 hx554_1 hx554_2 hx554_3 hx556_0 hx556_1 hx556_2 hx556_3 hHeld ⊢;refine pure_ (i:=0) (N:=some 76) (v:=?_) (a':=?_) (bm_ 1 17) rfl rfl (any_of HT_.out jA) (fun _ _ _ h=>h) (Or.inl ⟨by rfl,?_⟩) ?_ ?_;rotate_left;exact jb;rotate_left;exact jc
        refine pure_ (i:=1) (N:=some 77) (v:=?_) (a':=?_) (bm_ 2 17) rfl rfl (any_of HT_.out jA) (fun _ _ _ h=>h) (Or.inl ⟨by rfl,?_⟩) ?_ ?_;rotate_left;exact jb;rotate_left;exact jc
        refine pure_ (i:=2) (N:=some 78) (v:=?_) (a':=?_) (bm_ 3 17) rfl rfl (any_of HT_.out jA) (fun _ _ _ h=>h) (Or.inl ⟨by rfl,?_⟩) ?_ ?_;rotate_left;exact jb;rotate_left;exact jc
        refine pure_ (i:=3) (N:=some 79) (v:=?_) (a':=?_) (bm_ 4 17) rfl rfl (any_of HT_.out jA) (fun _ _ _ h=>h) (Or.inl ⟨by rfl,?_⟩) ?_ ?_;rotate_left;exact jb;rotate_left;exact jc
        refine pure_ (i:=4) (N:=some 80) (v:=?_) (a':=?_) (bm_ 5 17) rfl rfl (any_of HT_.out jA) (fun _ _ _ h=>h) (Or.inl ⟨by rfl,?_⟩) ?_ ?_;rotate_left;exact jb;rotate_left;exact jc
        refine pure_ (i:=8) (N:=some 84) (v:=?_) (a':=?_) #[true,true,true,true,true,false,false,false,true,false,false,false,false,false,false,false,false] rfl rfl (any_of HT_.out jA) (fun _ _ _ h=>h) (Or.inl ⟨by rfl,?_⟩) ?_ ?_;rotate_left;exact jb;rotate_left;exact jc
        refine pure_ (i:=9) (N:=some 85) (v:=?_) (a':=?_) #[true,true,true,true,true,false,false,false,true,true,false,false,false,false,false,false,false] rfl rfl (any_of HT_.out jA) (fun _ _ _ h=>h) (Or.inl ⟨by rfl,?_⟩) ?_ ?_;rotate_left;exact jb;rotate_left;exact jc
        refine pure_ (i:=10) (N:=some 86) (v:=?_) (a':=?_) #[true,true,true,true,true,false,false,false,true,true,true,false,false,false,false,false,false] rfl rfl (any_of HT_.out jA) (fun _ _ _ h=>h) (Or.inl ⟨by rfl,?_⟩) ?_ ?_;rotate_left;exact jb;rotate_left;exact jc
        refine pure_ (i:=11) (N:=some 87) (v:=?_) (a':=?_) #[true,true,true,true,true,false,false,false,true,true,true,true,false,false,false,false,false] rfl rfl (any_of HT_.out jA) (fun _ _ _ h=>h) (Or.inl ⟨by rfl,?_⟩) ?_ ?_;rotate_left;exact jb;rotate_left;exact jc
        refine take_ (i:=5) (N:=some 81) (v:=?_) (a':=?_) #[true,true,true,true,true,true,false,false,true,true,true,true,false,false,false,false,false] rfl rfl (yo HT_.out HW_.out jA) (fun _ _ _ h=>h) (Or.inl ⟨by rfl,?_⟩) hHeld ?_ ?_;rotate_left
        ·
         rintro w' ⟨s0,s1,s2,s3,s4,s5,s6,s7⟩
         go_simp
         with_reducible rfl
        rotate_left
        exact jc
        refine take_ (i:=12) (N:=some 88) (v:=?_) (a':=?_) #[true,true,true,true,true,true,false,false,true,true,true,true,true,false,false,false,false] rfl rfl (yo HT_.out HW_.out jA) (fun _ _ _ h=>h) (Or.inl ⟨by rfl,?_⟩) hHeld ?_ ?_;rotate_left
        ·
         rintro w' ⟨s0,s1,s2,s3,s4,s5,s6,s7⟩
         go_simp
         with_reducible rfl
        rotate_left
        exact jc
        refine one_ (i:=6) (N:=some 82) #[true,true,true,true,true,true,true,false,true,true,true,true,true,false,false,false,false] rfl rfl (one_of HT_.out jA) jC (fun K hK=>?_);refine goes_ Try.func69 jA rfl #[.string ((rd_T68 t550 x9_1).f0)] (by rfl) rfl rfl jB ?_
        with_reducible refine (Fu.calls k1  ((rd_T68 t550 x9_1).f0) t555 _ A55.out).mono ?_
        rintro e w62 ⟨rfl,hb⟩;have HS0_:=(hb.cell (zl _ _ (hHeld.1))).trans (hHeld.1);have HS1_:=(hb.cell (zl _ _ (hHeld.2.1))).trans (hHeld.2.1);have HS2_:=(hb.cell (zl _ _ (hHeld.2.2.1))).trans (hHeld.2.2.1);have HS3_:=(hb.cell (zl _ _ (hHeld.2.2.2.1))).trans (hHeld.2.2.2.1);have HS4_:=(hb.cell (zl _ _ (hHeld.2.2.2.2.1))).trans (hHeld.2.2.2.2.1);have HS5_:=(hb.cell (zl _ _ (hHeld.2.2.2.2.2.1))).trans (hHeld.2.2.2.2.2.1);have HS6_:=(hb.cell (zl _ _ (hHeld.2.2.2.2.2.2.1))).trans (hHeld.2.2.2.2.2.2.1);have HS7_:=(hb.cell (zl _ _ (hHeld.2.2.2.2.2.2.2))).trans (hHeld.2.2.2.2.2.2.2);refine ⟨_,rfl,?_⟩;replace HO_7:=zh (yg jAy hb);replace BK539:=zh (cD BK539.out jt hb);replace HB:=zh (zC jf hb);(try clear hb);(try clear hb2);(try clear hk);(try clear hi);refine hK.out _ _ ⟨HS0_,HS1_,HS2_,HS3_,HS4_,HS5_,HS6_,HS7_⟩ (fun hHeld=>?_);clear hK K;refine norm_ (a':=?_) ?_ ?_;rotate_left
        ·
         show Act.put _ (some 82) _=_
         simp only [Act.put,zi,zj,zk,zG,zH]
         rfl
        refine pure_ (i:=7) (N:=some 83) (v:=?_) (a':=?_) (bm_ 13 17) rfl rfl (any_of HT_.out jA) (fun _ _ _ h=>h) (Or.inl ⟨by rfl,?_⟩) ?_ ?_;rotate_left;exact jb;rotate_left;exact jc
        refine one_ (i:=13) (N:=some 89) (bm_ 14 17) rfl rfl (one_of HT_.out jA) jC (fun K hK=>?_);refine goes_ Try.func44 jA rfl #[.agg #[.int .i64 ((rd_T68 t550 x9_1).f1.f0),.int .i64 ((rd_T68 t550 x9_1).f1.f1),.string ((rd_T68 t550 x9_1).f1.f2)]] (by rfl) rfl rfl jB ?_
        with_reducible refine (ih k1 jN  ((rd_T68 t550 x9_1).f1.f0) ((rd_T68 t550 x9_1).f1.f1) ((rd_T68 t550 x9_1).f1.f2) t557 _ A57.out).mono ?_
        rintro e w63 ⟨rfl,hb⟩;have HS0_:=(hb.cell (zl _ _ (hHeld.1))).trans (hHeld.1);have HS1_:=(hb.cell (zl _ _ (hHeld.2.1))).trans (hHeld.2.1);have HS2_:=(hb.cell (zl _ _ (hHeld.2.2.1))).trans (hHeld.2.2.1);have HS3_:=(hb.cell (zl _ _ (hHeld.2.2.2.1))).trans (hHeld.2.2.2.1);have HS4_:=(hb.cell (zl _ _ (hHeld.2.2.2.2.1))).trans (hHeld.2.2.2.2.1);have HS5_:=(hb.cell (zl _ _ (hHeld.2.2.2.2.2.1))).trans (hHeld.2.2.2.2.2.1);have HS6_:=(hb.cell (zl _ _ (hHeld.2.2.2.2.2.2.1))).trans (hHeld.2.2.2.2.2.2.1);have HS7_:=(hb.cell (zl _ _ (hHeld.2.2.2.2.2.2.2))).trans (hHeld.2.2.2.2.2.2.2);refine ⟨_,rfl,?_⟩;replace HO_7:=zh (yg jAy hb);replace BK539:=zh (cD BK539.out jt hb);replace HB:=zh (zC jf hb);(try clear hb);(try clear hb2);(try clear hk);(try clear hi);refine hK.out _ _ ⟨HS0_,HS1_,HS2_,HS3_,HS4_,HS5_,HS6_,HS7_⟩ (fun hHeld=>?_);clear hK K;refine norm_ (a':=?_) ?_ ?_;rotate_left
        ·
         show Act.put _ (some 89) _=_
         simp only [Act.put,zi,zj,zk,zG,zH]
         rfl
        refine pure_ (i:=14) (N:=some 90) (v:=?_) (a':=?_) (bm_ 15 17) rfl rfl (any_of HT_.out jA) (fun _ _ _ h=>h) (Or.inl ⟨by rfl,?_⟩) ?_ ?_;rotate_left;exact jb;rotate_left;exact jc
        refine pure_ (i:=15) (N:=some 91) (v:=?_) (a':=?_) (bm_ 16 17) rfl rfl (any_of HT_.out jA) (fun _ _ _ h=>h) (Or.inl ⟨by rfl,?_⟩) ?_ ?_;rotate_left;exact jb;rotate_left;exact jc
        refine pure_ (i:=16) (N:=some 3) (v:=?_) (a':=?_) (bm_ 17 17) rfl rfl (any_of HT_.out jA) (fun _ _ _ h=>h) (Or.inl ⟨by rfl,?_⟩) ?_ ?_;rotate_left;exact jb;rotate_left;exact jc
        refine done_ (done_of HT_.out jA) ?_
        try go_wp2
        go_roundg k1
        case measure=>have:=HK1.out;omega
        case rel=>exact ⟨(x3_1++(((⟨#[1]⟩ : ByteArray)++t555)++t557)),(wrap64 (x9_1+1)),jE,jE,H',⟨jN⟩,⟨jAy⟩,⟨jt⟩,⟨jf⟩⟩
       rw [if_neg c59] at H;exact absurd H (by simp)
      rw [if_neg c58] at H;exact absurd H (by simp)
     rw [if_neg c56] at H;exact absurd H (by simp)
    rw [if_neg c54] at H;exact absurd H (by simp)
   rw [if_neg c53] at H;have c53b0 : decide (x9_1<(t550.length : Int))=false:=decide_eq_false c53;clear c53
   by_cases c64 : x3_1.size+1≤9223372036854775807
   ·
    rw [if_pos c64] at H
    have c64b0:=eq_true c64;have c64b1 : decide (x3_1.size+1≤9223372036854775807)=true:=decide_eq_true c64
    try have c64b2 : (9223372036854775807<x3_1.size+1)=False:=eq_false (Nat.not_lt.2 c64)
    obtain rfl:=zU H;obtain ⟨Ao65,co65,eo65⟩:=yk HO_7.out;subst eo65
    go_wp2
    go_ret
    exact ⟨jG,jf⟩
   rw [if_neg c64] at H;exact absurd H (by simp)

end Go.Proofs.Ytdjnplkpahgnmaa.Q
end
section
namespace Go.Proofs.Ytdjnplkpahgnmaa.Q
open Go.RowKit Go.Proofs.YtdjnplkpahgnmaaW.PrintWords Go.Proofs.YtdjnplkpahgnmaaW.PrintLast Go.Proofs.YtdjnplkpahgnmaaW.PrintMore
attribute [local go_sem] max2_int min2_int max_two min_two max_three min_three max_four min_four max2_str min2_str str_geq str_gtr str_leq
set_option linter.unusedVariables false
set_option linter.unusedSimpArgs false

def F0s.f (k : Nat) (a0_0 : Int) (a0_1 : Int) (a0_2 : ByteArray) (a1 : Bool) : Option (ByteArray):=if a1=true then ((F7.f k a0_0 a0_1 a0_2).bind fun t559=>((F02.f k t559).bind fun t560=>(some t560))) else ((F7.f k a0_0 a0_1 a0_2).bind fun t561=>(some t561))
theorem F0s.mono : ∀ a0 a1 a2 a3 k,LeO (F0s.f k a0 a1 a2 a3) (F0s.f (k+1) a0 a1 a2 a3):=by
 intro a0 a1 a2 a3 k;unfold F0s.f
 repeat' first|(with_reducible first|exact F02.mono _ _|exact F7.mono _ _ _ _|exact zQ _|exact zN _|refine zP ?_ ?_|refine zO ?_ (fun _=>?_))|refine zP ?_ ?_|refine zO ?_ (fun _=>?_)
set_option maxHeartbeats 8000000 in
set_option maxRecDepth 100000 in
theorem F0s.calls (k : Nat) (a0_0 : Int) (a0_1 : Int) (a0_2 : ByteArray) (a1 : Bool) (r : ByteArray) (w : World) (h : F0s.f k a0_0 a0_1 a0_2 a1=some r) :
  Calls Try.prog 17 #[.agg #[.int .i64 a0_0,.int .i64 a0_1,.string a0_2],.bool a1] w fun e w' => e = .returned (.string r)∧Below w.heap.size w w':=by
 have hu24:=Try.underlying24;have HB:=zh (Below.refl w.heap.size w);have H : (if a1=true then ((F7.f k a0_0 a0_1 a0_2).bind fun t559=>((F02.f k t559).bind fun t560=>(some t560))) else ((F7.f k a0_0 a0_1 a0_2).bind fun t561=>(some t561)))=some r:=h;clear h
 by_cases c3 : a1=true
 ·
  subst c3
  rw [if_pos rfl] at H;replace H:=zT.mp H;obtain ⟨t559,A40,H⟩:=H;have A4:=zh A40;clear A40;replace H:=zT.mp H;obtain ⟨t560,A50,H⟩:=H;have A5:=zh A50;clear A50;obtain rfl:=zU H
  go_enter Try.func17,Try.ntmps17
  go_wp2_with (first|((with_reducible refine zK (N:=2) rfl ?_);refine zI ?hg (N:=2) ?hd (cs:=#[.int .i64 a0_0,.int .i64 a0_1,.string a0_2]) (t:=24) ?hr ?_;(case hd=>rfl);(case hg=>rfl);(case hr=>go_simp <;> rfl);intro gb558 hg w6 hbox hb;have BK558:=zh (hbox);have hH_:=cH jD hb hg;have GW558:=zh hH_.1;have GE558:=GW558;replace HB:=zh hH_.2;clear hb hbox hg hH_;obtain ⟨hcz7_0,hcz7_1,hcz7_2,hfz7_0,hfz7_1,hfz7_2⟩:=cB3 BK558.out)|((with_reducible refine zJ (f:=44) rfl ?_);refine yj (some 7) rfl rfl Try.func44 jA rfl #[.agg #[.int .i64 a0_0,.int .i64 a0_1,.string a0_2]] rfl jB ?_;(with_reducible refine (F7.calls k  a0_0 a0_1 a0_2 t559 _ A4.out).mono ?_);rintro e w8 ⟨rfl,hb⟩;refine ⟨_,rfl,?_⟩;replace BK558:=zh (cD BK558.out jCG hb);replace HB:=zh (zC jBL hb);(try clear hb);(try clear hb2);(try clear hk);(try clear hi))|((with_reducible refine zJ (f:=43) rfl ?_);refine yj (some 8) rfl rfl Try.func43 jA rfl #[.string t559] rfl jB ?_;(with_reducible refine (F02.calls k  t559 t560 _ A5.out).mono ?_);rintro e w9 ⟨rfl,hb⟩;refine ⟨_,rfl,?_⟩;replace BK558:=zh (cD BK558.out jCG hb);replace HB:=zh (zC jBL hb);(try clear hb);(try clear hb2);(try clear hk);(try clear hi)))
  go_ret
  exact ⟨jG,jBL⟩
 replace c3:=yb.mpr c3;subst c3;rw [if_neg (show ¬ (false=true) by decide)] at H;replace H:=zT.mp H;obtain ⟨t561,A100,H⟩:=H;have A10:=zh A100;clear A100;obtain rfl:=zU H
 go_enter Try.func17,Try.ntmps17
 go_wp2_with (first|((with_reducible refine zK (N:=2) rfl ?_);refine zI ?hg (N:=2) ?hd (cs:=#[.int .i64 a0_0,.int .i64 a0_1,.string a0_2]) (t:=24) ?hr ?_;(case hd=>rfl);(case hg=>rfl);(case hr=>go_simp <;> rfl);intro gb558 hg w11 hbox hb;have BK558:=zh (hbox);have hH_:=cH jD hb hg;have GW558:=zh hH_.1;have GE558:=GW558;replace HB:=zh hH_.2;clear hb hbox hg hH_;obtain ⟨hcz12_0,hcz12_1,hcz12_2,hfz12_0,hfz12_1,hfz12_2⟩:=cB3 BK558.out)|((with_reducible refine zJ (f:=44) rfl ?_);refine yj (some 10) rfl rfl Try.func44 jA rfl #[.agg #[.int .i64 a0_0,.int .i64 a0_1,.string a0_2]] rfl jB ?_;(with_reducible refine (F7.calls k  a0_0 a0_1 a0_2 t561 _ A10.out).mono ?_);rintro e w13 ⟨rfl,hb⟩;refine ⟨_,rfl,?_⟩;replace BK558:=zh (cD BK558.out jCG hb);replace HB:=zh (zC jBL hb);(try clear hb);(try clear hb2);(try clear hk);(try clear hi)))
 go_ret
 exact ⟨jG,jBL⟩


def F0f.f (k : Nat) (a0_0 : Int) (a0_1 : Int) (a0_2 : ByteArray) (a1 : Bool) : Option (ByteArray×Int):=(F0b.f k a0_0 a0_1 a0_2).bind fun t563=>(if t563=true then ((F0s.f k a0_0 a0_1 a0_2 a1).bind fun t564=>(some (t564,0))) else (some ((⟨#[]⟩ : ByteArray),1)))
theorem F0f.mono : ∀ a0 a1 a2 a3 k,LeO (F0f.f k a0 a1 a2 a3) (F0f.f (k+1) a0 a1 a2 a3):=by
 intro a0 a1 a2 a3 k;unfold F0f.f
 repeat' first|(with_reducible first|exact F0b.mono _ _ _ _|exact F0s.mono _ _ _ _ _|exact zQ _|exact zN _|refine zP ?_ ?_|refine zO ?_ (fun _=>?_))|refine zP ?_ ?_|refine zO ?_ (fun _=>?_)
set_option maxHeartbeats 8000000 in
set_option maxRecDepth 100000 in
theorem F0f.calls (k : Nat) (a0_0 : Int) (a0_1 : Int) (a0_2 : ByteArray) (a1 : Bool) (r1 : ByteArray) (r2 : Int) (w : World) (h : F0f.f k a0_0 a0_1 a0_2 a1=some (r1,r2)) :
  Calls Try.prog 7 #[.agg #[.int .i64 a0_0,.int .i64 a0_1,.string a0_2],.bool a1] w fun e w' => e = .returned (.tuple #[.string r1,.int .i64 r2])∧Below w.heap.size w w':=by
 have hu24:=Try.underlying24;have HB:=zh (Below.refl w.heap.size w);have H : ((F0b.f k a0_0 a0_1 a0_2).bind fun t563=>(if t563=true then ((F0s.f k a0_0 a0_1 a0_2 a1).bind fun t564=>(some (t564,0))) else (some ((⟨#[]⟩ : ByteArray),1))))=some (r1,r2):=h;clear h;replace H:=zT.mp H;obtain ⟨t563,A30,H⟩:=H;have A3:=zh A30;clear A30
 by_cases c4 : t563=true
 ·
  subst c4
  rw [if_pos rfl] at H;replace H:=zT.mp H;obtain ⟨t564,A50,H⟩:=H;have A5:=zh A50;clear A50;simp only [Option.some.injEq,Prod.mk.injEq] at H;obtain ⟨rfl,rfl⟩:=H
  go_enter Try.func7,Try.ntmps7
  go_wp2_with (first|((with_reducible refine zK (N:=2) rfl ?_);refine zI ?hg (N:=2) ?hd (cs:=#[.int .i64 a0_0,.int .i64 a0_1,.string a0_2]) (t:=24) ?hr ?_;(case hd=>rfl);(case hg=>rfl);(case hr=>go_simp <;> rfl);intro gb562 hg w6 hbox hb;have BK562:=zh (hbox);have hH_:=cH jD hb hg;have GW562:=zh hH_.1;have GE562:=GW562;replace HB:=zh hH_.2;clear hb hbox hg hH_;obtain ⟨hcz7_0,hcz7_1,hcz7_2,hfz7_0,hfz7_1,hfz7_2⟩:=cB3 BK562.out)|((with_reducible refine zJ (f:=16) rfl ?_);refine yj (some 7) rfl rfl Try.func16 jA rfl #[.agg #[.int .i64 a0_0,.int .i64 a0_1,.string a0_2]] rfl jB ?_;(with_reducible refine (F0b.calls k  a0_0 a0_1 a0_2 true _ A3.out).mono ?_);rintro e w8 ⟨rfl,hb⟩;refine ⟨_,rfl,?_⟩;replace BK562:=zh (cD BK562.out jCH hb);replace HB:=zh (zC jBM hb);(try clear hb);(try clear hb2);(try clear hk);(try clear hi);obtain ⟨hcz9_0,hcz9_1,hcz9_2,hfz9_0,hfz9_1,hfz9_2⟩:=cB3 BK562.out)|((with_reducible refine zJ (f:=17) rfl ?_);refine yj (some 11) rfl rfl Try.func17 jA rfl #[.agg #[.int .i64 a0_0,.int .i64 a0_1,.string a0_2],.bool a1] rfl jB ?_;(with_reducible refine (F0s.calls k  a0_0 a0_1 a0_2 a1 t564 _ A5.out).mono ?_);rintro e w10 ⟨rfl,hb⟩;refine ⟨_,rfl,?_⟩;replace BK562:=zh (cD BK562.out jCH hb);replace HB:=zh (zC jBM hb);(try clear hb);(try clear hb2);(try clear hk);(try clear hi)))
  go_ret2
  exact ⟨jG,jBM⟩
 replace c4:=yb.mpr c4;subst c4;rw [if_neg (show ¬ (false=true) by decide)] at H;simp only [Option.some.injEq,Prod.mk.injEq] at H;obtain ⟨rfl,rfl⟩:=H
 go_enter Try.func7,Try.ntmps7
 go_wp2_with (first|((with_reducible refine zK (N:=2) rfl ?_);refine zI ?hg (N:=2) ?hd (cs:=#[.int .i64 a0_0,.int .i64 a0_1,.string a0_2]) (t:=24) ?hr ?_;(case hd=>rfl);(case hg=>rfl);(case hr=>go_simp <;> rfl);intro gb562 hg w11 hbox hb;have BK562:=zh (hbox);have hH_:=cH jD hb hg;have GW562:=zh hH_.1;have GE562:=GW562;replace HB:=zh hH_.2;clear hb hbox hg hH_;obtain ⟨hcz12_0,hcz12_1,hcz12_2,hfz12_0,hfz12_1,hfz12_2⟩:=cB3 BK562.out)|((with_reducible refine zJ (f:=16) rfl ?_);refine yj (some 7) rfl rfl Try.func16 jA rfl #[.agg #[.int .i64 a0_0,.int .i64 a0_1,.string a0_2]] rfl jB ?_;(with_reducible refine (F0b.calls k  a0_0 a0_1 a0_2 false _ A3.out).mono ?_);rintro e w13 ⟨rfl,hb⟩;refine ⟨_,rfl,?_⟩;replace BK562:=zh (cD BK562.out jCH hb);replace HB:=zh (zC jBM hb);(try clear hb);(try clear hb2);(try clear hk);(try clear hi)))
 go_ret2
 exact ⟨jG,jBM⟩


def F17.f (a0 : ByteArray) : Option (Bool):=some (decide ((a0.size : Int) > 1000))
set_option maxHeartbeats 8000000 in
set_option maxRecDepth 100000 in
theorem F17.calls (a0 : ByteArray) (r : Bool) (w : World) (h : F17.f a0=some r) :
  Calls Try.prog 19 #[.string a0] w fun e w' => e = .returned (.bool r)∧Drawn0 w w':=by
 have H : (some (decide ((a0.size : Int) > 1000)))=some r:=h;clear h;obtain rfl:=zU H
 go_enter Try.func19,Try.ntmps19
 go_wp2
 go_ret
 exact ⟨jE,jJ⟩


def F06.l0 : Nat→List ByteArray→Int→Int→Option (Int)
 | 0,_,_,_=>none
 | k+1,x0,x7,x8=>if x8<x7 then (if 0≤x8 then (if x8<(x0.length : Int) then ((F17.f (rdOf ByteArray.empty x0 x8)).bind fun t566=>(if t566=true then (some x8) else (F06.l0 k x0 x7 (wrap64 (x8+1))))) else (none)) else (none)) else (some (-1))
def F06.f (k : Nat) (l0 : List ByteArray)  : Option (Int):=F06.l0 k l0 (l0.length : Int) 0
theorem F06.mono_l : ∀ k,(∀ y0 y1 y2,LeO (F06.l0 k y0 y1 y2) (F06.l0 (k+1) y0 y1 y2))
 | 0=>fun _ _ _ r h=>by simp [F06.l0] at h
 | k+1=>by
  have ih0:=F06.mono_l k;intro y0 y1 y2;unfold F06.l0
  repeat' first|(with_reducible first|exact ih0 _ _ _|exact zQ _|exact zN _|refine zP ?_ ?_|refine zO ?_ (fun _=>?_))|refine zP ?_ ?_|refine zO ?_ (fun _=>?_)
theorem F06.mono : ∀ a0 k,LeO (F06.f k a0) (F06.f (k+1) a0):=by
 intro a0 k;have ih0:=F06.mono_l k;unfold F06.f
 repeat' first|(with_reducible first|exact ih0 _ _ _|exact zQ _|exact zN _|refine zP ?_ ?_|refine zO ?_ (fun _=>?_))|refine zP ?_ ?_|refine zO ?_ (fun _=>?_)
set_option maxHeartbeats 8000000 in
set_option maxRecDepth 100000 in
theorem F06.calls (k : Nat) (A0 : Option Addr) (c0 : Nat) (l0 : List ByteArray)  (r : Int) (w : World) (hr0 : Kd.C Kd.string w A0 l0.length l0) (hc0 : l0.length≤c0) (h : F06.f k l0=some r) :
  Calls Try.prog 45 #[.slice A0 l0.length c0,.func (.func 19) #[] #[]] w fun e w' => e = .returned (.int .i64 r)∧Drawn0 w w':=by
 have HR0:=zh hr0;have HC0:=zh hc0;clear hr0 hc0;have H : (F06.l0 k l0 (l0.length : Int) 0)=some r:=h;clear h;have H':=zh H;clear H
 go_enter Try.func45,Try.ntmps45
 go_wp2
 go_loopg [8] k (fun kq v8 w' => ∃ (x8_1 : Int),v8 = .int .i64 x8_1∧Aside0 (F06.l0 kq l0 (l0.length : Int) x8_1=some r)∧Aside0 (kq≤k)∧Drawn0 w w')
 case atStart=>exact ⟨(0),jE,H',⟨ye _⟩,jJ⟩
 case round =>
  clear H'
  try clear p2
  obtain ⟨x8_1,rfl,HA,HK1,⟨m1,rfl⟩⟩:=hrel
  cases gk with
  | zero=>exact absurd HA.out (by simp [F06.l0])
  | succ k1 =>
   have H:=HA.out;clear HA;simp only [F06.l0] at H
   by_cases c3 : x8_1<(l0.length : Int)
   ·
    rw [if_pos c3] at H
    have c3b0 : decide (x8_1<(l0.length : Int))=true:=decide_eq_true c3;clear c3
    by_cases c4 : 0≤x8_1
    ·
     rw [if_pos c4] at H
     have c4b0 : decide (0≤x8_1)=true:=decide_eq_true c4;clear c4
     by_cases c5 : x8_1<(l0.length : Int)
     ·
      rw [if_pos c5] at H
      have c5b0 : decide (x8_1<(l0.length : Int))=true:=decide_eq_true c5;clear c5;replace H:=zT.mp H;obtain ⟨t566,A60,H⟩:=H;have A6:=zh A60;clear A60
      by_cases c7 : t566=true
      ·
       subst c7
       rw [if_pos rfl] at H;obtain rfl:=zU H;have p565 : 0≤(x8_1 : Int):=zy jF;have q565 : x8_1<(l0.length : Int):=zy jF;obtain ⟨ad565,e565,hx565_0⟩:=Kd.at_string HR0.out x8_1 p565 q565
       cases e565
       replace p565:=eq_true p565;replace q565:=eq_true q565
       go_wp2_with (first|(go_at_call 19;(with_reducible refine (F17.calls  (rdOf ByteArray.empty l0 x8_1) true _ A6.out).mono ?_);rintro e w' ⟨rfl,⟨nd,rfl⟩⟩))
       go_ret
       exact ⟨jE,jJ⟩
      replace c7:=yb.mpr c7;subst c7;rw [if_neg (show ¬ (false=true) by decide)] at H;have H':=zh H;clear H;have p565 : 0≤(x8_1 : Int):=zy jF;have q565 : x8_1<(l0.length : Int):=zy jF;obtain ⟨ad565,e565,hx565_0⟩:=Kd.at_string HR0.out x8_1 p565 q565
      cases e565
      replace p565:=eq_true p565;replace q565:=eq_true q565
      go_wp2_with (first|(go_at_call 19;(with_reducible refine (F17.calls  (rdOf ByteArray.empty l0 x8_1) false _ A6.out).mono ?_);rintro e w' ⟨rfl,⟨nd,rfl⟩⟩))
      go_roundg k1
      case measure=>have:=HK1.out;omega
      case rel=>exact ⟨(wrap64 (x8_1+1)),jE,H',⟨jN⟩,jJ⟩
     rw [if_neg c5] at H;exact absurd H (by simp)
    rw [if_neg c4] at H;exact absurd H (by simp)
   rw [if_neg c3] at H;have c3b0 : decide (x8_1<(l0.length : Int))=false:=decide_eq_false c3;clear c3;obtain rfl:=zU H
   go_wp2
   go_ret
   exact ⟨jE,jJ⟩


def F0r.f (k : Nat) (l0 : List ByteArray)  : Option (Bool):=(F06.f k l0).bind fun t567=>(some (decide (t567 ≥ 0)))
theorem F0r.mono : ∀ a0 k,LeO (F0r.f k a0) (F0r.f (k+1) a0):=by
 intro a0 k;unfold F0r.f
 repeat' first|(with_reducible first|exact F06.mono _ _|exact zQ _|exact zN _|refine zP ?_ ?_|refine zO ?_ (fun _=>?_))|refine zP ?_ ?_|refine zO ?_ (fun _=>?_)
set_option maxHeartbeats 8000000 in
set_option maxRecDepth 100000 in
theorem F0r.calls (k : Nat) (A0 : Option Addr) (c0 : Nat) (l0 : List ByteArray)  (r : Bool) (w : World) (hr0 : Kd.C Kd.string w A0 l0.length l0) (hc0 : l0.length≤c0) (h : F0r.f k l0=some r) :
  Calls Try.prog 18 #[.slice A0 l0.length c0,.func (.func 19) #[] #[]] w fun e w' => e = .returned (.bool r)∧Drawn0 w w':=by
 have HR0:=zh hr0;have HC0:=zh hc0;clear hr0 hc0;have H : ((F06.f k l0).bind fun t567=>(some (decide (t567 ≥ 0))))=some r:=h;clear h;replace H:=zT.mp H;obtain ⟨t567,A30,H⟩:=H;have A3:=zh A30;clear A30;obtain rfl:=zU H
 go_enter Try.func18,Try.ntmps18
 go_wp2_with (first|((with_reducible refine zJ (f:=45) rfl ?_);refine yj (some 7) rfl rfl Try.func45 jA rfl #[.slice A0 l0.length c0,.func (.func 19) #[] #[]] rfl jB ?_;(with_reducible refine (F06.calls k  _ _ l0  t567 _ ?side1 ?side2 A3.out).mono ?_);(case side1=>repeat (first|exact HR0.out|(with_reducible refine Kd.C_alloc ?_ _)|(with_reducible refine Kd.C_drewN ?_ _)|(with_reducible refine Kd.C_drew ?_)));(case side2=>exact HC0.out);rintro e w' ⟨rfl,⟨nd,rfl⟩⟩;refine ⟨_,rfl,?_⟩))
 go_ret
 exact ⟨jE,jJ⟩


def Fq.l0 : Nat→ByteArray→List ByteArray→Int→Int→Option (ByteArray×Int)
 | 0,_,_,_,_=>none
 | k+1,x4,x19,x20,x21=>if x21<x20 then (if 0≤x21 then (if x21<(x19.length : Int) then (if x4.size+(rdOf ByteArray.empty x19 x21).size≤9223372036854775807 then (Fq.l0 k (x4++(rdOf ByteArray.empty x19 x21)) x19 x20 (wrap64 (x21+1))) else (none)) else (none)) else (none)) else (some (x4,0))
def Fq.f (k : Nat) (l0 : List ByteArray) : Option (ByteArray×Int):=if (l0.length : Int) > 4096 then (some ((⟨#[]⟩ : ByteArray),2)) else (if (l0.length : Int) > 8 then (some ((⟨#[]⟩ : ByteArray),10)) else ((F0r.f k l0).bind fun t568=>(if t568=true then (some ((⟨#[]⟩ : ByteArray),10)) else (Fq.l0 k (⟨#[]⟩ : ByteArray) l0 (l0.length : Int) 0))))
theorem Fq.mono_l : ∀ k,(∀ y0 y1 y2 y3,LeO (Fq.l0 k y0 y1 y2 y3) (Fq.l0 (k+1) y0 y1 y2 y3))
 | 0=>fun _ _ _ _ r h=>by simp [Fq.l0] at h
 | k+1=>by
  have ih0:=Fq.mono_l k;intro y0 y1 y2 y3;unfold Fq.l0
  repeat' first|(with_reducible first|exact ih0 _ _ _ _|exact F0r.mono _ _|exact zQ _|exact zN _|refine zP ?_ ?_|refine zO ?_ (fun _=>?_))|refine zP ?_ ?_|refine zO ?_ (fun _=>?_)
theorem Fq.mono : ∀ a0 k,LeO (Fq.f k a0) (Fq.f (k+1) a0):=by
 intro a0 k;have ih0:=Fq.mono_l k;unfold Fq.f
 repeat' first|(with_reducible first|exact ih0 _ _ _ _|exact F0r.mono _ _|exact zQ _|exact zN _|refine zP ?_ ?_|refine zO ?_ (fun _=>?_))|refine zP ?_ ?_|refine zO ?_ (fun _=>?_)
set_option maxHeartbeats 8000000 in
set_option maxRecDepth 100000 in
theorem Fq.calls (k : Nat) (A0 : Option Addr) (c0 : Nat) (l0 : List ByteArray) (r1 : ByteArray) (r2 : Int) (w : World) (hr0 : Kd.C Kd.string w A0 l0.length l0) (hc0 : l0.length≤c0) (h : Fq.f k l0=some (r1,r2)) :
  Calls Try.prog 8 #[.slice A0 l0.length c0] w fun e w' => e = .returned (.tuple #[.string r1,.int .i64 r2])∧Below w.heap.size w w':=by
 have HR0:=zh hr0;have HC0:=zh hc0;clear hr0 hc0;have HB:=zh (Below.refl w.heap.size w);have H : (if (l0.length : Int) > 4096 then (some ((⟨#[]⟩ : ByteArray),2)) else (if (l0.length : Int) > 8 then (some ((⟨#[]⟩ : ByteArray),10)) else ((F0r.f k l0).bind fun t568=>(if t568=true then (some ((⟨#[]⟩ : ByteArray),10)) else (Fq.l0 k (⟨#[]⟩ : ByteArray) l0 (l0.length : Int) 0)))))=some (r1,r2):=h;clear h
 by_cases c2 : (l0.length : Int) > 4096
 ·
  rw [if_pos c2] at H
  have c2b0 : decide (4096<(l0.length : Int))=true:=decide_eq_true c2;have c2b1 : decide (4096<l0.length)=true:=decide_eq_true jH;clear c2;simp only [Option.some.injEq,Prod.mk.injEq] at H;obtain ⟨rfl,rfl⟩:=H
  go_enter Try.func8,Try.ntmps8
  go_wp2
  go_ret2
  exact ⟨jG,jD⟩
 rw [if_neg c2] at H;have c2b0 : decide (4096<(l0.length : Int))=false:=decide_eq_false c2;have c2b1 : decide (4096<l0.length)=false:=decide_eq_false jH;clear c2
 by_cases c3 : (l0.length : Int) > 8
 ·
  rw [if_pos c3] at H
  have c3b0 : decide (8<(l0.length : Int))=true:=decide_eq_true c3;have c3b1 : decide (8<l0.length)=true:=decide_eq_true jH;clear c3;simp only [Option.some.injEq,Prod.mk.injEq] at H;obtain ⟨rfl,rfl⟩:=H
  go_enter Try.func8,Try.ntmps8
  go_wp2
  go_ret2
  exact ⟨jG,jD⟩
 rw [if_neg c3] at H;have c3b0 : decide (8<(l0.length : Int))=false:=decide_eq_false c3;have c3b1 : decide (8<l0.length)=false:=decide_eq_false jH;clear c3;replace H:=zT.mp H;obtain ⟨t568,A40,H⟩:=H;have A4:=zh A40;clear A40
 by_cases c5 : t568=true
 ·
  subst c5
  rw [if_pos rfl] at H;simp only [Option.some.injEq,Prod.mk.injEq] at H;obtain ⟨rfl,rfl⟩:=H
  go_enter Try.func8,Try.ntmps8
  go_wp2_with (first|(go_at_call 18;(with_reducible refine (F0r.calls k  _ _ l0  true _ ?side1 ?side2 A4.out).mono ?_);(case side1=>repeat (first|exact HR0.out|(with_reducible refine Kd.C_alloc ?_ _)|(with_reducible refine Kd.C_drewN ?_ _)|(with_reducible refine Kd.C_drew ?_)));(case side2=>exact HC0.out);rintro e w' ⟨rfl,⟨nd,rfl⟩⟩))
  go_ret2
  exact ⟨jG,jD⟩
 replace c5:=yb.mpr c5;subst c5;rw [if_neg (show ¬ (false=true) by decide)] at H;have H':=zh H;clear H
 go_enter Try.func8,Try.ntmps8
 go_wp2_with (first|(go_at_call 18;(with_reducible refine (F0r.calls k  _ _ l0  false _ ?side1 ?side2 A4.out).mono ?_);(case side1=>repeat (first|exact HR0.out|(with_reducible refine Kd.C_alloc ?_ _)|(with_reducible refine Kd.C_drewN ?_ _)|(with_reducible refine Kd.C_drew ?_)));(case side2=>exact HC0.out);rintro e w' ⟨rfl,⟨nd,rfl⟩⟩))
 go_loopg [4,21] k (fun kq v4 v21 w' => ∃ (x4_1 : ByteArray) (x21_1 : Int),v4 = .string x4_1∧v21 = .int .i64 x21_1∧Aside0 (Fq.l0 kq x4_1 l0 (l0.length : Int) x21_1=some (r1,r2))∧Aside0 (kq≤k)∧Aside0 (Below w.heap.size w w'))
 case atStart=>exact ⟨((⟨#[]⟩ : ByteArray)),(0),jE,jE,H',⟨ye _⟩,⟨jD⟩⟩
 case round =>
  clear H'
  try clear c2 c2b0 c2b1
  try clear p2
  try clear c3 c3b0 c3b1 c5
  obtain ⟨x4_1,x21_1,rfl,rfl,HA,HK1,HB⟩:=hrel
  cases gk with
  | zero=>exact absurd HA.out (by simp [Fq.l0])
  | succ k1 =>
   have H:=HA.out;clear HA;simp only [Fq.l0] at H
   by_cases c6 : x21_1<(l0.length : Int)
   ·
    rw [if_pos c6] at H
    have c6b0 : decide (x21_1<(l0.length : Int))=true:=decide_eq_true c6;clear c6
    by_cases c7 : 0≤x21_1
    ·
     rw [if_pos c7] at H
     have c7b0 : decide (0≤x21_1)=true:=decide_eq_true c7;clear c7
     by_cases c8 : x21_1<(l0.length : Int)
     ·
      rw [if_pos c8] at H
      have c8b0 : decide (x21_1<(l0.length : Int))=true:=decide_eq_true c8;clear c8
      by_cases c9 : x4_1.size+(rdOf ByteArray.empty l0 x21_1).size≤9223372036854775807
      ·
       rw [if_pos c9] at H
       have c9b0:=eq_true c9;have c9b1 : decide (x4_1.size+(rdOf ByteArray.empty l0 x21_1).size≤9223372036854775807)=true:=decide_eq_true c9
       try have c9b2 : (9223372036854775807<x4_1.size+(rdOf ByteArray.empty l0 x21_1).size)=False:=eq_false (Nat.not_lt.2 c9)
       have H':=zh H;clear H;have p569 : 0≤(x21_1 : Int):=zy jF;have q569 : x21_1<(l0.length : Int):=zy jF;obtain ⟨ad569,e569,hx569_0⟩:=Kd.at_string HR0.out x21_1 p569 q569
       cases e569
       replace hx569_0:=(HB.out.cell (zl w _ hx569_0)).trans hx569_0;replace p569:=eq_true p569;replace q569:=eq_true q569
       go_wp2
       go_roundg k1
       case measure=>have:=HK1.out;omega
       case rel=>exact ⟨(x4_1++(rdOf ByteArray.empty l0 x21_1)),(wrap64 (x21_1+1)),jE,jE,H',⟨jN⟩,⟨jD⟩⟩
      rw [if_neg c9] at H;exact absurd H (by simp)
     rw [if_neg c8] at H;exact absurd H (by simp)
    rw [if_neg c7] at H;exact absurd H (by simp)
   rw [if_neg c6] at H;have c6b0 : decide (x21_1<(l0.length : Int))=false:=decide_eq_false c6;clear c6;simp only [Option.some.injEq,Prod.mk.injEq] at H;obtain ⟨rfl,rfl⟩:=H
   go_wp2
   go_ret2
   exact ⟨jG,jD⟩


def F15.f (a0 : ByteArray) : Option (Bool):=some (decide ((a0.size : Int) > 65536))
set_option maxHeartbeats 8000000 in
set_option maxRecDepth 100000 in
theorem F15.calls (a0 : ByteArray) (r : Bool) (w : World) (h : F15.f a0=some r) :
  Calls Try.prog 46 #[.string a0] w fun e w' => e = .returned (.bool r)∧Drawn0 w w':=by
 have H : (some (decide ((a0.size : Int) > 65536)))=some r:=h;clear h;obtain rfl:=zU H
 go_enter Try.func46,Try.ntmps46
 go_wp2
 go_ret
 exact ⟨jE,jJ⟩


def F0a.l0 : Nat→List ByteArray→Int→Int→Option (Int)
 | 0,_,_,_=>none
 | k+1,x0,x7,x8=>if x8<x7 then (if 0≤x8 then (if x8<(x0.length : Int) then ((F15.f (rdOf ByteArray.empty x0 x8)).bind fun t571=>(if t571=true then (some x8) else (F0a.l0 k x0 x7 (wrap64 (x8+1))))) else (none)) else (none)) else (some (-1))
def F0a.f (k : Nat) (l0 : List ByteArray)  : Option (Int):=F0a.l0 k l0 (l0.length : Int) 0
theorem F0a.mono_l : ∀ k,(∀ y0 y1 y2,LeO (F0a.l0 k y0 y1 y2) (F0a.l0 (k+1) y0 y1 y2))
 | 0=>fun _ _ _ r h=>by simp [F0a.l0] at h
 | k+1=>by
  have ih0:=F0a.mono_l k;intro y0 y1 y2;unfold F0a.l0
  repeat' first|(with_reducible first|exact ih0 _ _ _|exact zQ _|exact zN _|refine zP ?_ ?_|refine zO ?_ (fun _=>?_))|refine zP ?_ ?_|refine zO ?_ (fun _=>?_)
theorem F0a.mono : ∀ a0 k,LeO (F0a.f k a0) (F0a.f (k+1) a0):=by
 intro a0 k;have ih0:=F0a.mono_l k;unfold F0a.f
 repeat' first|(with_reducible first|exact ih0 _ _ _|exact zQ _|exact zN _|refine zP ?_ ?_|refine zO ?_ (fun _=>?_))|refine zP ?_ ?_|refine zO ?_ (fun _=>?_)
set_option maxHeartbeats 8000000 in
set_option maxRecDepth 100000 in
theorem F0a.calls (k : Nat) (A0 : Option Addr) (c0 : Nat) (l0 : List ByteArray)  (r : Int) (w : World) (hr0 : Kd.C Kd.string w A0 l0.length l0) (hc0 : l0.length≤c0) (h : F0a.f k l0=some r) :
  Calls Try.prog 45 #[.slice A0 l0.length c0,.func (.func 46) #[] #[]] w fun e w' => e = .returned (.int .i64 r)∧Drawn0 w w':=by
 have HR0:=zh hr0;have HC0:=zh hc0;clear hr0 hc0;have H : (F0a.l0 k l0 (l0.length : Int) 0)=some r:=h;clear h;have H':=zh H;clear H
 go_enter Try.func45,Try.ntmps45
 go_wp2
 go_loopg [8] k (fun kq v8 w' => ∃ (x8_1 : Int),v8 = .int .i64 x8_1∧Aside0 (F0a.l0 kq l0 (l0.length : Int) x8_1=some r)∧Aside0 (kq≤k)∧Drawn0 w w')
 case atStart=>exact ⟨(0),jE,H',⟨ye _⟩,jJ⟩
 case round =>
  clear H'
  try clear p2
  obtain ⟨x8_1,rfl,HA,HK1,⟨m1,rfl⟩⟩:=hrel
  cases gk with
  | zero=>exact absurd HA.out (by simp [F0a.l0])
  | succ k1 =>
   have H:=HA.out;clear HA;simp only [F0a.l0] at H
   by_cases c3 : x8_1<(l0.length : Int)
   ·
    rw [if_pos c3] at H
    have c3b0 : decide (x8_1<(l0.length : Int))=true:=decide_eq_true c3;clear c3
    by_cases c4 : 0≤x8_1
    ·
     rw [if_pos c4] at H
     have c4b0 : decide (0≤x8_1)=true:=decide_eq_true c4;clear c4
     by_cases c5 : x8_1<(l0.length : Int)
     ·
      rw [if_pos c5] at H
      have c5b0 : decide (x8_1<(l0.length : Int))=true:=decide_eq_true c5;clear c5;replace H:=zT.mp H;obtain ⟨t571,A60,H⟩:=H;have A6:=zh A60;clear A60
      by_cases c7 : t571=true
      ·
       subst c7
       rw [if_pos rfl] at H;obtain rfl:=zU H;have p570 : 0≤(x8_1 : Int):=zy jF;have q570 : x8_1<(l0.length : Int):=zy jF;obtain ⟨ad570,e570,hx570_0⟩:=Kd.at_string HR0.out x8_1 p570 q570
       cases e570
       replace p570:=eq_true p570;replace q570:=eq_true q570
       go_wp2_with (first|(go_at_call 46;(with_reducible refine (F15.calls  (rdOf ByteArray.empty l0 x8_1) true _ A6.out).mono ?_);rintro e w' ⟨rfl,⟨nd,rfl⟩⟩))
       go_ret
       exact ⟨jE,jJ⟩
      replace c7:=yb.mpr c7;subst c7;rw [if_neg (show ¬ (false=true) by decide)] at H;have H':=zh H;clear H;have p570 : 0≤(x8_1 : Int):=zy jF;have q570 : x8_1<(l0.length : Int):=zy jF;obtain ⟨ad570,e570,hx570_0⟩:=Kd.at_string HR0.out x8_1 p570 q570
      cases e570
      replace p570:=eq_true p570;replace q570:=eq_true q570
      go_wp2_with (first|(go_at_call 46;(with_reducible refine (F15.calls  (rdOf ByteArray.empty l0 x8_1) false _ A6.out).mono ?_);rintro e w' ⟨rfl,⟨nd,rfl⟩⟩))
      go_roundg k1
      case measure=>have:=HK1.out;omega
      case rel=>exact ⟨(wrap64 (x8_1+1)),jE,H',⟨jN⟩,jJ⟩
     rw [if_neg c5] at H;exact absurd H (by simp)
    rw [if_neg c4] at H;exact absurd H (by simp)
   rw [if_neg c3] at H;have c3b0 : decide (x8_1<(l0.length : Int))=false:=decide_eq_false c3;clear c3;obtain rfl:=zU H
   go_wp2
   go_ret
   exact ⟨jE,jJ⟩


def F0w.f (k : Nat) (l0 : List ByteArray)  : Option (Bool):=(F0a.f k l0).bind fun t572=>(some (decide (t572 ≥ 0)))
theorem F0w.mono : ∀ a0 k,LeO (F0w.f k a0) (F0w.f (k+1) a0):=by
 intro a0 k;unfold F0w.f
 repeat' first|(with_reducible first|exact F0a.mono _ _|exact zQ _|exact zN _|refine zP ?_ ?_|refine zO ?_ (fun _=>?_))|refine zP ?_ ?_|refine zO ?_ (fun _=>?_)
set_option maxHeartbeats 8000000 in
set_option maxRecDepth 100000 in
theorem F0w.calls (k : Nat) (A0 : Option Addr) (c0 : Nat) (l0 : List ByteArray)  (r : Bool) (w : World) (hr0 : Kd.C Kd.string w A0 l0.length l0) (hc0 : l0.length≤c0) (h : F0w.f k l0=some r) :
  Calls Try.prog 18 #[.slice A0 l0.length c0,.func (.func 46) #[] #[]] w fun e w' => e = .returned (.bool r)∧Drawn0 w w':=by
 have HR0:=zh hr0;have HC0:=zh hc0;clear hr0 hc0;have H : ((F0a.f k l0).bind fun t572=>(some (decide (t572 ≥ 0))))=some r:=h;clear h;replace H:=zT.mp H;obtain ⟨t572,A30,H⟩:=H;have A3:=zh A30;clear A30;obtain rfl:=zU H
 go_enter Try.func18,Try.ntmps18
 go_wp2_with (first|((with_reducible refine zJ (f:=45) rfl ?_);refine yj (some 7) rfl rfl Try.func45 jA rfl #[.slice A0 l0.length c0,.func (.func 46) #[] #[]] rfl jB ?_;(with_reducible refine (F0a.calls k  _ _ l0  t572 _ ?side1 ?side2 A3.out).mono ?_);(case side1=>repeat (first|exact HR0.out|(with_reducible refine Kd.C_alloc ?_ _)|(with_reducible refine Kd.C_drewN ?_ _)|(with_reducible refine Kd.C_drew ?_)));(case side2=>exact HC0.out);rintro e w' ⟨rfl,⟨nd,rfl⟩⟩;refine ⟨_,rfl,?_⟩))
 go_ret
 exact ⟨jE,jJ⟩


def F0d.f (k : Nat) (l0 : List ByteArray) : Option (Bool):=(F0w.f k l0).bind fun t573=>(some t573)
theorem F0d.mono : ∀ a0 k,LeO (F0d.f k a0) (F0d.f (k+1) a0):=by
 intro a0 k;unfold F0d.f
 repeat' first|(with_reducible first|exact F0w.mono _ _|exact zQ _|exact zN _|refine zP ?_ ?_|refine zO ?_ (fun _=>?_))|refine zP ?_ ?_|refine zO ?_ (fun _=>?_)
set_option maxHeartbeats 8000000 in
set_option maxRecDepth 100000 in
theorem F0d.calls (k : Nat) (A0 : Option Addr) (c0 : Nat) (l0 : List ByteArray) (r : Bool) (w : World) (hr0 : Kd.C Kd.string w A0 l0.length l0) (hc0 : l0.length≤c0) (h : F0d.f k l0=some r) :
  Calls Try.prog 20 #[.slice A0 l0.length c0] w fun e w' => e = .returned (.bool r)∧Below w.heap.size w w':=by
 have HR0:=zh hr0;have HC0:=zh hc0;clear hr0 hc0;have HB:=zh (Below.refl w.heap.size w);have H : ((F0w.f k l0).bind fun t573=>(some t573))=some r:=h;clear h;replace H:=zT.mp H;obtain ⟨t573,A20,H⟩:=H;have A2:=zh A20;clear A20;obtain rfl:=zU H
 go_enter Try.func20,Try.ntmps20
 go_wp2_with (first|((with_reducible refine zJ (f:=18) rfl ?_);refine yj (some 4) rfl rfl Try.func18 jA rfl #[.slice A0 l0.length c0,.func (.func 46) #[] #[]] rfl jB ?_;(with_reducible refine (F0w.calls k  _ _ l0  t573 _ ?side1 ?side2 A2.out).mono ?_);(case side1=>repeat (first|exact HR0.out|(with_reducible refine Kd.C_alloc ?_ _)|(with_reducible refine Kd.C_drewN ?_ _)|(with_reducible refine Kd.C_drew ?_)));(case side2=>exact HC0.out);rintro e w' ⟨rfl,⟨nd,rfl⟩⟩;refine ⟨_,rfl,?_⟩))
 go_ret
 exact ⟨jG,jD⟩


def Ff.l0 : Nat→ByteArray→Bool→Option (ByteArray×Bool)
 | 0,_,_=>none
 | k+1,x1000,x1001=>if x1001=true then (some (x1000,x1001)) else ((Fr.f x1000 x1001 1).bind fun bt574=>(if bt574.1.toList=([0] : List UInt8) then ((Fr.f bt574.2.1 bt574.2.2 1).bind fun bt577=>(if bt577.1.toList=([0] : List UInt8) then (some (bt577.2.1,bt577.2.2)) else (Ff.l0 k bt577.2.1 bt577.2.2))) else (Ff.l0 k bt574.2.1 bt574.2.2)))
def Ff.f (k : Nat) (s0_0 : ByteArray) (s0_1 : Bool) : Option (ByteArray×Bool):=Ff.l0 k s0_0 s0_1
theorem Ff.mono_l : ∀ k,(∀ y0 y1,LeO (Ff.l0 k y0 y1) (Ff.l0 (k+1) y0 y1))
 | 0=>fun _ _ r h=>by simp [Ff.l0] at h
 | k+1=>by
  have ih0:=Ff.mono_l k;intro y0 y1;unfold Ff.l0
  repeat' first|(with_reducible first|exact ih0 _ _|exact zQ _|exact zN _|refine zP ?_ ?_|refine zO ?_ (fun _=>?_))|refine zP ?_ ?_|refine zO ?_ (fun _=>?_)
theorem Ff.mono : ∀ a0 a1 k,LeO (Ff.f k a0 a1) (Ff.f (k+1) a0 a1):=by
 intro a0 a1 k;have ih0:=Ff.mono_l k;unfold Ff.f
 repeat' first|(with_reducible first|exact ih0 _ _|exact zQ _|exact zN _|refine zP ?_ ?_|refine zO ?_ (fun _=>?_))|refine zP ?_ ?_|refine zO ?_ (fun _=>?_)
set_option maxHeartbeats 8000000 in
set_option maxRecDepth 100000 in
theorem Ff.calls (k : Nat) (g : Nat) (s0_0 : ByteArray) (s0_1 : Bool) (r1 : ByteArray) (r2 : Bool) (w0 w : World) (hI : IsS48 w0 w g s0_0 s0_1) (hB : Below w0.heap.size w0 w) (h : Ff.f k s0_0 s0_1=some (r1,r2)) :
  Calls Try.prog 49 #[.pointer (some ⟨g,0,none⟩)] w fun e w' => e = .returned (.tuple #[])∧IsS48 w0 w' g r1 r2∧Below w0.heap.size w0 w' ∧ KeepBut w w' g none:=by
 have HI0:=zh hI;have HK:=zh (KeepBut.refl w g none);have HL:=zh hB.size;clear hI;have HW0:=zh hB.size;have HB:=zh hB;clear hB;have H : (Ff.l0 k s0_0 s0_1)=some (r1,r2):=h;clear h;have H':=zh H;clear H
 go_enter Try.func49,Try.ntmps49
 go_wp2
 go_loopg [] k (fun kq w' => ∃ (x1000_1 : ByteArray) (x1001_1 : Bool),Aside0 (Ff.l0 kq x1000_1 x1001_1=some (r1,r2))∧Aside0 (kq≤k)∧Aside0 (IsS48 w0 w' g x1000_1 x1001_1)∧Aside0 (KeepBut w w' g none)∧Aside0 (Below w0.heap.size w0 w'))
 case atStart=>exact ⟨(s0_0),(s0_1),H',⟨ye _⟩,⟨jW⟩,⟨jI⟩,⟨jV⟩⟩
 case round =>
  clear H';obtain ⟨x1000_1,x1001_1,HA,HK1,HI0,HK,HB⟩:=hrel
  cases gk with
  | zero=>exact absurd HA.out (by simp [Ff.l0])
  | succ k1 =>
   have H:=HA.out;clear HA;simp only [Ff.l0] at H
   by_cases c2 : x1001_1=true
   ·
    subst c2
    rw [if_pos rfl] at H;simp only [Option.some.injEq,Prod.mk.injEq] at H;obtain ⟨rfl,rfl⟩:=H;obtain ⟨HGz3,hgz3⟩:=HI0.out;have hcz3_0:=cellS48_0 HGz3;have hcz3_1:=cellS48_1 HGz3;have hfz3_0:=zA HGz3 0;have hfz3_1:=zA HGz3 1;clear HGz3 hgz3
    go_wp2
    first|go_end0|((try simp only [Exit.inBlock,Exit.then]);refine bodyPost_ret (results_none rfl _ _ _) rfl ?_)
    exact ⟨jG,jW,jV,jI⟩
   replace c2:=yb.mpr c2;subst c2;rw [if_neg (show ¬ (false=true) by decide)] at H;replace H:=zT.mp H;obtain ⟨⟨t574,t575,t576⟩,A40,H⟩:=H;have A4:=zh A40;clear A40
   by_cases c5 : t574.toList=([0] : List UInt8)
   ·
    rw [if_pos c5] at H
    have c5b0 : (t574.toList == ([0] : List UInt8))=true:=ya.mpr c5;have c5b1 : (t574.toList != ([0] : List UInt8))=false:=zX.mpr c5;clear c5;replace H:=zT.mp H;obtain ⟨⟨t577,t578,t579⟩,A60,H⟩:=H;have A6:=zh A60;clear A60
    by_cases c7 : t577.toList=([0] : List UInt8)
    ·
     rw [if_pos c7] at H
     have c7b0 : (t577.toList == ([0] : List UInt8))=true:=ya.mpr c7;have c7b1 : (t577.toList != ([0] : List UInt8))=false:=zX.mpr c7;clear c7;simp only [Option.some.injEq,Prod.mk.injEq] at H;obtain ⟨rfl,rfl⟩:=H;obtain ⟨HGz8,hgz8⟩:=HI0.out;have hcz8_0:=cellS48_0 HGz8;have hcz8_1:=cellS48_1 HGz8;have hfz8_0:=zA HGz8 0;have hfz8_1:=zA HGz8 1;clear HGz8 hgz8
     go_wp2_with (first|((with_reducible refine zJ (f:=48) rfl ?_);refine yj (some 8) rfl rfl Try.func48 jA rfl #[.pointer (some ⟨g,0,none⟩),.int .i64 1] rfl jB ?_;(with_reducible refine (Fr.calls  g x1000_1 false 1 t574 t575 t576 w0 _ ?side1 ?side2 A4.out).mono ?_);(case side1=>repeat (with_reducible first|exact HI0.out|apply IsS48.alloc|apply IsS48.drewN|apply IsS48.drew|apply IsS48.set_0|apply IsS48.set_1));(case side2=>repeat (with_reducible first|exact HB.out|apply za|apply zb|apply zc|refine zd ?_ (IsS48.ge HI0.out)));rintro e w9 ⟨rfl,hi,hb,hk⟩;refine ⟨_,rfl,?_⟩;replace HK:=zh (KeepBut.trans jI hk (.inl rfl));replace HB:=zh (hb);replace HI0:=zh (hi);(try clear hb);(try clear hb2);(try clear hk);(try clear hi))|(go_at_call 48;(with_reducible refine (Fr.calls  g t575 t576 1 t577 t578 t579 w0 _ ?side1 ?side2 A6.out).mono ?_);(case side1=>repeat (with_reducible first|exact HI0.out|apply IsS48.alloc|apply IsS48.drewN|apply IsS48.drew|apply IsS48.set_0|apply IsS48.set_1));(case side2=>repeat (with_reducible first|exact HB.out|apply za|apply zb|apply zc|refine zd ?_ (IsS48.ge HI0.out)));rintro e w10 ⟨rfl,hi,hb,hk⟩;replace HK:=zh (KeepBut.trans jI hk (.inl rfl));replace HB:=zh (hb);replace HI0:=zh (hi);(try clear hb);(try clear hb2);(try clear hk);(try clear hi)))
     first|go_end0|((try simp only [Exit.inBlock,Exit.then]);refine bodyPost_ret (results_none rfl _ _ _) rfl ?_)
     exact ⟨jG,jW,jV,jI⟩
    rw [if_neg c7] at H;have c7b0 : (t577.toList == ([0] : List UInt8))=false:=zY.mpr c7;have c7b1 : (t577.toList != ([0] : List UInt8))=true:=zZ.mpr c7;have H':=zh H;clear H;obtain ⟨HGz11,hgz11⟩:=HI0.out;have hcz11_0:=cellS48_0 HGz11;have hcz11_1:=cellS48_1 HGz11;have hfz11_0:=zA HGz11 0;have hfz11_1:=zA HGz11 1;clear HGz11 hgz11
    go_wp2_with (first|((with_reducible refine zJ (f:=48) rfl ?_);refine yj (some 8) rfl rfl Try.func48 jA rfl #[.pointer (some ⟨g,0,none⟩),.int .i64 1] rfl jB ?_;(with_reducible refine (Fr.calls  g x1000_1 false 1 t574 t575 t576 w0 _ ?side1 ?side2 A4.out).mono ?_);(case side1=>repeat (with_reducible first|exact HI0.out|apply IsS48.alloc|apply IsS48.drewN|apply IsS48.drew|apply IsS48.set_0|apply IsS48.set_1));(case side2=>repeat (with_reducible first|exact HB.out|apply za|apply zb|apply zc|refine zd ?_ (IsS48.ge HI0.out)));rintro e w12 ⟨rfl,hi,hb,hk⟩;refine ⟨_,rfl,?_⟩;replace HK:=zh (KeepBut.trans jI hk (.inl rfl));replace HB:=zh (hb);replace HI0:=zh (hi);(try clear hb);(try clear hb2);(try clear hk);(try clear hi))|(go_at_call 48;(with_reducible refine (Fr.calls  g t575 t576 1 t577 t578 t579 w0 _ ?side1 ?side2 A6.out).mono ?_);(case side1=>repeat (with_reducible first|exact HI0.out|apply IsS48.alloc|apply IsS48.drewN|apply IsS48.drew|apply IsS48.set_0|apply IsS48.set_1));(case side2=>repeat (with_reducible first|exact HB.out|apply za|apply zb|apply zc|refine zd ?_ (IsS48.ge HI0.out)));rintro e w13 ⟨rfl,hi,hb,hk⟩;replace HK:=zh (KeepBut.trans jI hk (.inl rfl));replace HB:=zh (hb);replace HI0:=zh (hi);(try clear hb);(try clear hb2);(try clear hk);(try clear hi)))
    go_roundg k1
    case measure=>have:=HK1.out;omega
    case rel=>exact ⟨(t578),(t579),H',⟨jN⟩,⟨jW⟩,⟨jI⟩,⟨jV⟩⟩
   rw [if_neg c5] at H;have c5b0 : (t574.toList == ([0] : List UInt8))=false:=zY.mpr c5;have c5b1 : (t574.toList != ([0] : List UInt8))=true:=zZ.mpr c5;have H':=zh H;clear H;obtain ⟨HGz14,hgz14⟩:=HI0.out;have hcz14_0:=cellS48_0 HGz14;have hcz14_1:=cellS48_1 HGz14;have hfz14_0:=zA HGz14 0;have hfz14_1:=zA HGz14 1;clear HGz14 hgz14
   go_wp2_with (first|((with_reducible refine zJ (f:=48) rfl ?_);refine yj (some 8) rfl rfl Try.func48 jA rfl #[.pointer (some ⟨g,0,none⟩),.int .i64 1] rfl jB ?_;(with_reducible refine (Fr.calls  g x1000_1 false 1 t574 t575 t576 w0 _ ?side1 ?side2 A4.out).mono ?_);(case side1=>repeat (with_reducible first|exact HI0.out|apply IsS48.alloc|apply IsS48.drewN|apply IsS48.drew|apply IsS48.set_0|apply IsS48.set_1));(case side2=>repeat (with_reducible first|exact HB.out|apply za|apply zb|apply zc|refine zd ?_ (IsS48.ge HI0.out)));rintro e w15 ⟨rfl,hi,hb,hk⟩;refine ⟨_,rfl,?_⟩;replace HK:=zh (KeepBut.trans jI hk (.inl rfl));replace HB:=zh (hb);replace HI0:=zh (hi);(try clear hb);(try clear hb2);(try clear hk);(try clear hi)))
   go_roundg k1
   case measure=>have:=HK1.out;omega
   case rel=>exact ⟨(t575),(t576),H',⟨jN⟩,⟨jW⟩,⟨jI⟩,⟨jV⟩⟩


def F0p.f (s0_0 : ByteArray) (s0_1 : Bool) : Option (Bool×ByteArray×Bool):=if s0_0.toList=([] : List UInt8) then (some (false,s0_0,s0_1)) else (if 0<(s0_0.size : Int) then (if (bt s0_0 0)=0 then ((Fr.f s0_0 s0_1 1).bind fun bt580=>(some (true,bt580.2.1,bt580.2.2))) else (some (false,s0_0,s0_1))) else (none))
set_option maxHeartbeats 8000000 in
set_option maxRecDepth 100000 in
theorem F0p.calls (g : Nat) (s0_0 : ByteArray) (s0_1 : Bool) (r1 : Bool) (r2 : ByteArray) (r3 : Bool) (w0 w : World) (hI : IsS48 w0 w g s0_0 s0_1) (hB : Below w0.heap.size w0 w) (h : F0p.f s0_0 s0_1=some (r1,r2,r3)) :
  Calls Try.prog 50 #[.pointer (some ⟨g,0,none⟩)] w fun e w' => e = .returned (.bool r1)∧IsS48 w0 w' g r2 r3∧Below w0.heap.size w0 w' ∧ KeepBut w w' g none:=by
 have HI0:=zh hI;have HK:=zh (KeepBut.refl w g none);have HL:=zh hB.size;clear hI;have HW0:=zh hB.size;have HB:=zh hB;clear hB;have H : (if s0_0.toList=([] : List UInt8) then (some (false,s0_0,s0_1)) else (if 0<(s0_0.size : Int) then (if (bt s0_0 0)=0 then ((Fr.f s0_0 s0_1 1).bind fun bt580=>(some (true,bt580.2.1,bt580.2.2))) else (some (false,s0_0,s0_1))) else (none)))=some (r1,r2,r3):=h;clear h
 by_cases c2 : s0_0.toList=([] : List UInt8)
 ·
  rw [if_pos c2] at H
  have c2b0 : (s0_0.toList == ([] : List UInt8))=true:=ya.mpr c2;have c2b1 : (s0_0.toList != ([] : List UInt8))=false:=zX.mpr c2;clear c2;simp only [Option.some.injEq,Prod.mk.injEq] at H;obtain ⟨rfl,rfl,rfl⟩:=H;obtain ⟨HGz3,hgz3⟩:=HI0.out;have hcz3_0:=cellS48_0 HGz3;have hcz3_1:=cellS48_1 HGz3;have hfz3_0:=zA HGz3 0;have hfz3_1:=zA HGz3 1;clear HGz3 hgz3
  go_enter Try.func50,Try.ntmps50
  go_wp2
  go_ret
  exact ⟨jG,jW,jV,jI⟩
 rw [if_neg c2] at H;have c2b0 : (s0_0.toList == ([] : List UInt8))=false:=zY.mpr c2;have c2b1 : (s0_0.toList != ([] : List UInt8))=true:=zZ.mpr c2
 by_cases c4 : 0<(s0_0.size : Int)
 ·
  rw [if_pos c4] at H
  have c4b0 : decide (0<(s0_0.size : Int))=true:=decide_eq_true c4;have c4b1 : decide (0<s0_0.size)=true:=decide_eq_true jH;clear c4
  by_cases c6 : (bt s0_0 0)=0
  ·
   rw [if_pos c6] at H
   have c6b0 : ((bt s0_0 0) == 0)=true:=ya.mpr c6;have c6b1 : ((bt s0_0 0) != 0)=false:=zX.mpr c6;clear c6;replace H:=zT.mp H;obtain ⟨⟨t580,t581,t582⟩,A70,H⟩:=H;have A7:=zh A70;clear A70;simp only [Option.some.injEq,Prod.mk.injEq] at H;obtain ⟨rfl,rfl,rfl⟩:=H;obtain ⟨HGz8,hgz8⟩:=HI0.out;have hcz8_0:=cellS48_0 HGz8;have hcz8_1:=cellS48_1 HGz8;have hfz8_0:=zA HGz8 0;have hfz8_1:=zA HGz8 1;clear HGz8 hgz8;have p5 : 0≤(0 : Int):=jH;have q5 : 0<s0_0.size:=(by have : (0 : Int)<(s0_0.size : Int):=zy jF;omega);have hx5 : ∀ h : 0<s0_0.size,((s0_0[0]'h).toNat : Int)=bt s0_0 0:=bt_at s0_0 0;clear p5;have qi5 : (0<(s0_0.size : Int))=True:=eq_true (zy jF);replace q5:=eq_true q5
   go_enter Try.func50,Try.ntmps50
   go_wp2_with (first|((with_reducible refine zJ (f:=48) rfl ?_);refine yj (some 17) rfl rfl Try.func48 jA rfl #[.pointer (some ⟨g,0,none⟩),.int .i64 1] rfl jB ?_;(with_reducible refine (Fr.calls  g s0_0 s0_1 1 t580 t581 t582 w0 _ ?side1 ?side2 A7.out).mono ?_);(case side1=>repeat (with_reducible first|exact HI0.out|apply IsS48.alloc|apply IsS48.drewN|apply IsS48.drew|apply IsS48.set_0|apply IsS48.set_1));(case side2=>repeat (with_reducible first|exact HB.out|apply za|apply zb|apply zc|refine zd ?_ (IsS48.ge HI0.out)));rintro e w9 ⟨rfl,hi,hb,hk⟩;refine ⟨_,rfl,?_⟩;replace HK:=zh (KeepBut.trans jI hk (.inl rfl));replace HB:=zh (hb);replace HI0:=zh (hi);(try clear hb);(try clear hb2);(try clear hk);(try clear hi)))
   go_ret
   exact ⟨jG,jW,jV,jI⟩
  rw [if_neg c6] at H;have c6b0 : ((bt s0_0 0) == 0)=false:=zY.mpr c6;have c6b1 : ((bt s0_0 0) != 0)=true:=zZ.mpr c6;simp only [Option.some.injEq,Prod.mk.injEq] at H;obtain ⟨rfl,rfl,rfl⟩:=H;obtain ⟨HGz10,hgz10⟩:=HI0.out;have hcz10_0:=cellS48_0 HGz10;have hcz10_1:=cellS48_1 HGz10;have hfz10_0:=zA HGz10 0;have hfz10_1:=zA HGz10 1;clear HGz10 hgz10;have p5 : 0≤(0 : Int):=jH;have q5 : 0<s0_0.size:=(by have : (0 : Int)<(s0_0.size : Int):=zy jF;omega);have hx5 : ∀ h : 0<s0_0.size,((s0_0[0]'h).toNat : Int)=bt s0_0 0:=bt_at s0_0 0;clear p5;have qi5 : (0<(s0_0.size : Int))=True:=eq_true (zy jF);replace q5:=eq_true q5
  go_enter Try.func50,Try.ntmps50
  go_wp2
  go_ret
  exact ⟨jG,jW,jV,jI⟩
 rw [if_neg c4] at H;exact absurd H (by simp)

end Go.Proofs.Ytdjnplkpahgnmaa.Q
end
section
namespace Go.Proofs.Ytdjnplkpahgnmaa.Q
open Go.RowKit Go.Proofs.YtdjnplkpahgnmaaW.PrintWords Go.Proofs.YtdjnplkpahgnmaaW.PrintLast Go.Proofs.YtdjnplkpahgnmaaW.PrintMore
attribute [local go_sem] max2_int min2_int max_two min_two max_three min_three max_four min_four max2_str min2_str str_geq str_gtr str_leq   -- for this text's walks alone
set_option linter.unusedVariables false
set_option linter.unusedSimpArgs false

mutual
def F2.l0 : Nat→ByteArray→Bool→Option (ByteArray×Bool)
 | 0,_,_=>none
 | k+1,x1000,x1001=>if x1001=true then (some (x1000,x1001)) else ((F0p.f x1000 x1001).bind fun bt594=>(if bt594.1=true then (some (bt594.2.1,bt594.2.2)) else ((F2.f k bt594.2.1 bt594.2.2).bind fun bt597=>(F2.l0 k bt597.1 bt597.2))))
def F2.l1 : Nat→ByteArray→Bool→Option (ByteArray×Bool)
 | 0,_,_=>none
 | k+1,x1000,x1001=>if x1001=true then (F2.j2 k false x1000 x1001) else ((F0p.f x1000 x1001).bind fun bt599=>(F2.j2 k (!bt599.1) bt599.2.1 bt599.2.2))
def F2.j2 : Nat→Bool→ByteArray→Bool→Option (ByteArray×Bool)
 | 0,_,_,_=>none
 | k+1,x47,x1000,x1001=>if x47=true then (if x1001=true then ((Ff.f k x1000 true).bind fun bt602=>((F2.f k bt602.1 bt602.2).bind fun bt604=>(F2.l1 k bt604.1 bt604.2))) else ((Fe.f k x1000 x1001 1).bind fun bt606=>((Ff.f k bt606.2.1 (bt606.1 != 1)).bind fun bt609=>((F2.f k bt609.1 bt609.2).bind fun bt611=>(F2.l1 k bt611.1 bt611.2))))) else (some (x1000,x1001))
def F2.f : Nat→ByteArray→Bool→Option (ByteArray×Bool)
 | 0,_,_=>none
 | k+1,s0_0,s0_1=>(Fe.f k s0_0 s0_1 1).bind fun bt583=>(if (wrap64 (bt583.1 - 1))=0 then (some (bt583.2.1,bt583.2.2)) else (if (wrap64 (bt583.1 - 1))=1 then ((Fr.f bt583.2.1 bt583.2.2 1).bind fun bt586=>(some (bt586.2.1,bt586.2.2))) else (if (wrap64 (bt583.1 - 1))=2 then ((Fr.f bt583.2.1 bt583.2.2 8).bind fun bt589=>(some (bt589.2.1,bt589.2.2))) else (if (wrap64 (bt583.1 - 1))=3 then ((Ff.f k bt583.2.1 bt583.2.2).bind fun bt592=>(some (bt592.1,bt592.2))) else (if (wrap64 (bt583.1 - 1))=4 then (F2.l0 k bt583.2.1 bt583.2.2) else (if (wrap64 (bt583.1 - 1))=5 then (F2.l1 k bt583.2.1 bt583.2.2) else (some (bt583.2.1,true))))))))
end
theorem F2.mono_l : ∀ k,(∀ y0 y1,LeO (F2.f k y0 y1) (F2.f (k+1) y0 y1))∧(∀ y0 y1,LeO (F2.l0 k y0 y1) (F2.l0 (k+1) y0 y1))∧(∀ y0 y1,LeO (F2.l1 k y0 y1) (F2.l1 (k+1) y0 y1))∧(∀ y0 y1 y2,LeO (F2.j2 k y0 y1 y2) (F2.j2 (k+1) y0 y1 y2))
 | 0=>⟨fun _ _ r h=>by simp [F2.f] at h,fun _ _ r h=>by simp [F2.l0] at h,fun _ _ r h=>by simp [F2.l1] at h,fun _ _ _ r h=>by simp [F2.j2] at h⟩
 | k+1=>by
  obtain ⟨ih0,ih1,ih2,ih3⟩:=F2.mono_l k;refine ⟨?_,?_,?_,?_⟩
  ·
   intro y0 y1
   unfold F2.f
   repeat' first|(with_reducible first|exact ih0 _ _|exact ih1 _ _|exact ih2 _ _|exact ih3 _ _ _|exact Fe.mono _ _ _ _|exact Ff.mono _ _ _|exact zQ _|exact zN _|refine zP ?_ ?_|refine zO ?_ (fun _=>?_))|refine zP ?_ ?_|refine zO ?_ (fun _=>?_)
  ·
   intro y0 y1
   unfold F2.l0
   repeat' first|(with_reducible first|exact ih0 _ _|exact ih1 _ _|exact ih2 _ _|exact ih3 _ _ _|exact Fe.mono _ _ _ _|exact Ff.mono _ _ _|exact zQ _|exact zN _|refine zP ?_ ?_|refine zO ?_ (fun _=>?_))|refine zP ?_ ?_|refine zO ?_ (fun _=>?_)
  ·
   intro y0 y1
   unfold F2.l1
   repeat' first|(with_reducible first|exact ih0 _ _|exact ih1 _ _|exact ih2 _ _|exact ih3 _ _ _|exact Fe.mono _ _ _ _|exact Ff.mono _ _ _|exact zQ _|exact zN _|refine zP ?_ ?_|refine zO ?_ (fun _=>?_))|refine zP ?_ ?_|refine zO ?_ (fun _=>?_)
  intro y0 y1 y2;unfold F2.j2
  repeat' first|(with_reducible first|exact ih0 _ _|exact ih1 _ _|exact ih2 _ _|exact ih3 _ _ _|exact Fe.mono _ _ _ _|exact Ff.mono _ _ _|exact zQ _|exact zN _|refine zP ?_ ?_|refine zO ?_ (fun _=>?_))|refine zP ?_ ?_|refine zO ?_ (fun _=>?_)
theorem F2.mono : ∀ a0 a1 k,LeO (F2.f k a0 a1) (F2.f (k+1) a0 a1):=by
 intro a0 a1 k;obtain ⟨ih0,ih1,ih2,ih3⟩:=F2.mono_l k;exact ih0 a0 a1
set_option maxHeartbeats 8000000 in
set_option maxRecDepth 100000 in
theorem F2.calls (k : Nat) : ∀ (g : Nat) (s0_0 : ByteArray) (s0_1 : Bool) (r1 : ByteArray) (r2 : Bool) (w0 w : World) (hI : IsS48 w0 w g s0_0 s0_1) (hB : Below w0.heap.size w0 w) (h : F2.f k s0_0 s0_1=some (r1,r2)),
  Calls Try.prog 22 #[.pointer (some ⟨g,0,none⟩)] w fun e w' => e = .returned (.tuple #[])∧IsS48 w0 w' g r1 r2∧Below w0.heap.size w0 w' ∧ KeepBut w w' g none:=by
 induction k using Nat.strongRecOn with
 | _ k ih =>
 intro g s0_0 s0_1 r1 r2 w0 w hI hB h
 cases k with
 | zero=>exact absurd h (by simp [F2.f])
 | succ k =>
 simp only [F2.f] at h;have HI0:=zh hI;have HK:=zh (KeepBut.refl w g none);have HL:=zh hB.size;clear hI;have HW0:=zh hB.size;have HB:=zh hB;clear hB;have H : ((Fe.f k s0_0 s0_1 1).bind fun bt583=>(if (wrap64 (bt583.1 - 1))=0 then (some (bt583.2.1,bt583.2.2)) else (if (wrap64 (bt583.1 - 1))=1 then ((Fr.f bt583.2.1 bt583.2.2 1).bind fun bt586=>(some (bt586.2.1,bt586.2.2))) else (if (wrap64 (bt583.1 - 1))=2 then ((Fr.f bt583.2.1 bt583.2.2 8).bind fun bt589=>(some (bt589.2.1,bt589.2.2))) else (if (wrap64 (bt583.1 - 1))=3 then ((Ff.f k bt583.2.1 bt583.2.2).bind fun bt592=>(some (bt592.1,bt592.2))) else (if (wrap64 (bt583.1 - 1))=4 then (F2.l0 k bt583.2.1 bt583.2.2) else (if (wrap64 (bt583.1 - 1))=5 then (F2.l1 k bt583.2.1 bt583.2.2) else (some (bt583.2.1,true)))))))))=some (r1,r2):=h;clear h;replace H:=zT.mp H;obtain ⟨⟨t583,t584,t585⟩,A20,H⟩:=H;have A2:=zh A20;clear A20
 by_cases c3 : (wrap64 (t583 - 1))=0
 ·
  rw [if_pos c3] at H
  have c3b0 : ((wrap64 (t583 - 1)) == 0)=true:=ya.mpr c3;have c3b1 : ((wrap64 (t583 - 1)) != 0)=false:=zX.mpr c3;clear c3;simp only [Option.some.injEq,Prod.mk.injEq] at H;obtain ⟨rfl,rfl⟩:=H
  go_enter Try.func22,Try.ntmps22
  go_wp2_with (first|((with_reducible refine zJ (f:=47) rfl ?_);refine yj (some 3) rfl rfl Try.func47 jA rfl #[.pointer (some ⟨g,0,none⟩),.int .i64 1] rfl jB ?_;(with_reducible refine (Fe.calls k  g s0_0 s0_1 1 t583 t584 t585 w0 _ ?side1 ?side2 A2.out).mono ?_);(case side1=>repeat (with_reducible first|exact HI0.out|apply IsS48.alloc|apply IsS48.drewN|apply IsS48.drew|apply IsS48.set_0|apply IsS48.set_1));(case side2=>repeat (with_reducible first|exact HB.out|apply za|apply zb|apply zc|refine zd ?_ (IsS48.ge HI0.out)));rintro e w4 ⟨rfl,hi,hb,hk⟩;refine ⟨_,rfl,?_⟩;replace HK:=zh (KeepBut.trans jI hk (.inl rfl));replace HB:=zh (hb);replace HI0:=zh (hi);(try clear hb);(try clear hb2);(try clear hk);(try clear hi)))
  first|go_end0|((try simp only [Exit.inBlock,Exit.then]);refine bodyPost_ret (results_none rfl _ _ _) rfl ?_)
  exact ⟨jG,jW,jV,jI⟩
 rw [if_neg c3] at H;have c3b0 : ((wrap64 (t583 - 1)) == 0)=false:=zY.mpr c3;have c3b1 : ((wrap64 (t583 - 1)) != 0)=true:=zZ.mpr c3
 by_cases c5 : (wrap64 (t583 - 1))=1
 ·
  rw [if_pos c5] at H
  have c5b0 : ((wrap64 (t583 - 1)) == 1)=true:=ya.mpr c5;have c5b1 : ((wrap64 (t583 - 1)) != 1)=false:=zX.mpr c5;clear c5;replace H:=zT.mp H;obtain ⟨⟨t586,t587,t588⟩,A60,H⟩:=H;have A6:=zh A60;clear A60;simp only [Option.some.injEq,Prod.mk.injEq] at H;obtain ⟨rfl,rfl⟩:=H
  go_enter Try.func22,Try.ntmps22
  go_wp2_with (first|((with_reducible refine zJ (f:=47) rfl ?_);refine yj (some 3) rfl rfl Try.func47 jA rfl #[.pointer (some ⟨g,0,none⟩),.int .i64 1] rfl jB ?_;(with_reducible refine (Fe.calls k  g s0_0 s0_1 1 t583 t584 t585 w0 _ ?side1 ?side2 A2.out).mono ?_);(case side1=>repeat (with_reducible first|exact HI0.out|apply IsS48.alloc|apply IsS48.drewN|apply IsS48.drew|apply IsS48.set_0|apply IsS48.set_1));(case side2=>repeat (with_reducible first|exact HB.out|apply za|apply zb|apply zc|refine zd ?_ (IsS48.ge HI0.out)));rintro e w7 ⟨rfl,hi,hb,hk⟩;refine ⟨_,rfl,?_⟩;replace HK:=zh (KeepBut.trans jI hk (.inl rfl));replace HB:=zh (hb);replace HI0:=zh (hi);(try clear hb);(try clear hb2);(try clear hk);(try clear hi))|((with_reducible refine zJ (f:=48) rfl ?_);refine yj (some 13) rfl rfl Try.func48 jA rfl #[.pointer (some ⟨g,0,none⟩),.int .i64 1] rfl jB ?_;(with_reducible refine (Fr.calls  g t584 t585 1 t586 t587 t588 w0 _ ?side1 ?side2 A6.out).mono ?_);(case side1=>repeat (with_reducible first|exact HI0.out|apply IsS48.alloc|apply IsS48.drewN|apply IsS48.drew|apply IsS48.set_0|apply IsS48.set_1));(case side2=>repeat (with_reducible first|exact HB.out|apply za|apply zb|apply zc|refine zd ?_ (IsS48.ge HI0.out)));rintro e w8 ⟨rfl,hi,hb,hk⟩;refine ⟨_,rfl,?_⟩;replace HK:=zh (KeepBut.trans jI hk (.inl rfl));replace HB:=zh (hb);replace HI0:=zh (hi);(try clear hb);(try clear hb2);(try clear hk);(try clear hi)))
  first|go_end0|((try simp only [Exit.inBlock,Exit.then]);refine bodyPost_ret (results_none rfl _ _ _) rfl ?_)
  exact ⟨jG,jW,jV,jI⟩
 rw [if_neg c5] at H;have c5b0 : ((wrap64 (t583 - 1)) == 1)=false:=zY.mpr c5;have c5b1 : ((wrap64 (t583 - 1)) != 1)=true:=zZ.mpr c5
 by_cases c9 : (wrap64 (t583 - 1))=2
 ·
  rw [if_pos c9] at H
  have c9b0 : ((wrap64 (t583 - 1)) == 2)=true:=ya.mpr c9;have c9b1 : ((wrap64 (t583 - 1)) != 2)=false:=zX.mpr c9;clear c9;replace H:=zT.mp H;obtain ⟨⟨t589,t590,t591⟩,A100,H⟩:=H;have A10:=zh A100;clear A100;simp only [Option.some.injEq,Prod.mk.injEq] at H;obtain ⟨rfl,rfl⟩:=H
  go_enter Try.func22,Try.ntmps22
  go_wp2_with (first|((with_reducible refine zJ (f:=47) rfl ?_);refine yj (some 3) rfl rfl Try.func47 jA rfl #[.pointer (some ⟨g,0,none⟩),.int .i64 1] rfl jB ?_;(with_reducible refine (Fe.calls k  g s0_0 s0_1 1 t583 t584 t585 w0 _ ?side1 ?side2 A2.out).mono ?_);(case side1=>repeat (with_reducible first|exact HI0.out|apply IsS48.alloc|apply IsS48.drewN|apply IsS48.drew|apply IsS48.set_0|apply IsS48.set_1));(case side2=>repeat (with_reducible first|exact HB.out|apply za|apply zb|apply zc|refine zd ?_ (IsS48.ge HI0.out)));rintro e w11 ⟨rfl,hi,hb,hk⟩;refine ⟨_,rfl,?_⟩;replace HK:=zh (KeepBut.trans jI hk (.inl rfl));replace HB:=zh (hb);replace HI0:=zh (hi);(try clear hb);(try clear hb2);(try clear hk);(try clear hi))|((with_reducible refine zJ (f:=48) rfl ?_);refine yj (some 17) rfl rfl Try.func48 jA rfl #[.pointer (some ⟨g,0,none⟩),.int .i64 8] rfl jB ?_;(with_reducible refine (Fr.calls  g t584 t585 8 t589 t590 t591 w0 _ ?side1 ?side2 A10.out).mono ?_);(case side1=>repeat (with_reducible first|exact HI0.out|apply IsS48.alloc|apply IsS48.drewN|apply IsS48.drew|apply IsS48.set_0|apply IsS48.set_1));(case side2=>repeat (with_reducible first|exact HB.out|apply za|apply zb|apply zc|refine zd ?_ (IsS48.ge HI0.out)));rintro e w12 ⟨rfl,hi,hb,hk⟩;refine ⟨_,rfl,?_⟩;replace HK:=zh (KeepBut.trans jI hk (.inl rfl));replace HB:=zh (hb);replace HI0:=zh (hi);(try clear hb);(try clear hb2);(try clear hk);(try clear hi)))
  first|go_end0|((try simp only [Exit.inBlock,Exit.then]);refine bodyPost_ret (results_none rfl _ _ _) rfl ?_)
  exact ⟨jG,jW,jV,jI⟩
 rw [if_neg c9] at H;have c9b0 : ((wrap64 (t583 - 1)) == 2)=false:=zY.mpr c9;have c9b1 : ((wrap64 (t583 - 1)) != 2)=true:=zZ.mpr c9
 by_cases c13 : (wrap64 (t583 - 1))=3
 ·
  rw [if_pos c13] at H
  have c13b0 : ((wrap64 (t583 - 1)) == 3)=true:=ya.mpr c13;have c13b1 : ((wrap64 (t583 - 1)) != 3)=false:=zX.mpr c13;clear c13;replace H:=zT.mp H;obtain ⟨⟨t592,t593⟩,A140,H⟩:=H;have A14:=zh A140;clear A140;simp only [Option.some.injEq,Prod.mk.injEq] at H;obtain ⟨rfl,rfl⟩:=H
  go_enter Try.func22,Try.ntmps22
  go_wp2_with (first|((with_reducible refine zJ (f:=47) rfl ?_);refine yj (some 3) rfl rfl Try.func47 jA rfl #[.pointer (some ⟨g,0,none⟩),.int .i64 1] rfl jB ?_;(with_reducible refine (Fe.calls k  g s0_0 s0_1 1 t583 t584 t585 w0 _ ?side1 ?side2 A2.out).mono ?_);(case side1=>repeat (with_reducible first|exact HI0.out|apply IsS48.alloc|apply IsS48.drewN|apply IsS48.drew|apply IsS48.set_0|apply IsS48.set_1));(case side2=>repeat (with_reducible first|exact HB.out|apply za|apply zb|apply zc|refine zd ?_ (IsS48.ge HI0.out)));rintro e w15 ⟨rfl,hi,hb,hk⟩;refine ⟨_,rfl,?_⟩;replace HK:=zh (KeepBut.trans jI hk (.inl rfl));replace HB:=zh (hb);replace HI0:=zh (hi);(try clear hb);(try clear hb2);(try clear hk);(try clear hi))|((with_reducible refine zJ (f:=49) rfl ?_);refine yj (some 21) rfl rfl Try.func49 jA rfl #[.pointer (some ⟨g,0,none⟩)] rfl jB ?_;(with_reducible refine (Ff.calls k  g t584 t585 t592 t593 w0 _ ?side1 ?side2 A14.out).mono ?_);(case side1=>repeat (with_reducible first|exact HI0.out|apply IsS48.alloc|apply IsS48.drewN|apply IsS48.drew|apply IsS48.set_0|apply IsS48.set_1));(case side2=>repeat (with_reducible first|exact HB.out|apply za|apply zb|apply zc|refine zd ?_ (IsS48.ge HI0.out)));rintro e w16 ⟨rfl,hi,hb,hk⟩;refine ⟨_,rfl,?_⟩;replace HK:=zh (KeepBut.trans jI hk (.inl rfl));replace HB:=zh (hb);replace HI0:=zh (hi);(try clear hb);(try clear hb2);(try clear hk);(try clear hi)))
  first|go_end0|((try simp only [Exit.inBlock,Exit.then]);refine bodyPost_ret (results_none rfl _ _ _) rfl ?_)
  exact ⟨jG,jW,jV,jI⟩
 rw [if_neg c13] at H;have c13b0 : ((wrap64 (t583 - 1)) == 3)=false:=zY.mpr c13;have c13b1 : ((wrap64 (t583 - 1)) != 3)=true:=zZ.mpr c13
 by_cases c17 : (wrap64 (t583 - 1))=4
 ·
  rw [if_pos c17] at H
  have c17b0 : ((wrap64 (t583 - 1)) == 4)=true:=ya.mpr c17;have c17b1 : ((wrap64 (t583 - 1)) != 4)=false:=zX.mpr c17;clear c17;have H':=zh H;clear H
  go_enter Try.func22,Try.ntmps22
  go_wp2_with (first|((with_reducible refine zJ (f:=47) rfl ?_);refine yj (some 3) rfl rfl Try.func47 jA rfl #[.pointer (some ⟨g,0,none⟩),.int .i64 1] rfl jB ?_;(with_reducible refine (Fe.calls k  g s0_0 s0_1 1 t583 t584 t585 w0 _ ?side1 ?side2 A2.out).mono ?_);(case side1=>repeat (with_reducible first|exact HI0.out|apply IsS48.alloc|apply IsS48.drewN|apply IsS48.drew|apply IsS48.set_0|apply IsS48.set_1));(case side2=>repeat (with_reducible first|exact HB.out|apply za|apply zb|apply zc|refine zd ?_ (IsS48.ge HI0.out)));rintro e w18 ⟨rfl,hi,hb,hk⟩;refine ⟨_,rfl,?_⟩;replace HK:=zh (KeepBut.trans jI hk (.inl rfl));replace HB:=zh (hb);replace HI0:=zh (hi);(try clear hb);(try clear hb2);(try clear hk);(try clear hi)))
  go_loopg [] k (fun kq w' => ∃ (x1000_1 : ByteArray) (x1001_1 : Bool),Aside0 (F2.l0 kq x1000_1 x1001_1=some (r1,r2))∧Aside0 (kq≤k)∧Aside0 (IsS48 w0 w' g x1000_1 x1001_1)∧Aside0 (KeepBut w w' g none)∧Aside0 (Below w0.heap.size w0 w'))
  case atStart=>exact ⟨(t584),(t585),H',⟨ye _⟩,⟨jW⟩,⟨jI⟩,⟨jV⟩⟩
  case round =>
   clear H'
   try clear c1 c2
   try clear p2
   try clear c3 c3b0 c3b1 c4 c5 c5b0 c5b1
   try clear p6
   try clear c9 c9b0 c9b1 c13 c13b0 c13b1 c17 c17b0 c17b1
   obtain ⟨x1000_1,x1001_1,HA,HK1,HI0,HK,HB⟩:=hrel
   cases gk with
   | zero=>exact absurd HA.out (by simp [F2.l0])
   | succ k1 =>
    have H:=HA.out;clear HA;simp only [F2.l0] at H
    by_cases c19 : x1001_1=true
    ·
     subst c19
     rw [if_pos rfl] at H;simp only [Option.some.injEq,Prod.mk.injEq] at H;obtain ⟨rfl,rfl⟩:=H;obtain ⟨HGz20,hgz20⟩:=HI0.out;have hcz20_0:=cellS48_0 HGz20;have hcz20_1:=cellS48_1 HGz20;have hfz20_0:=zA HGz20 0;have hfz20_1:=zA HGz20 1;clear HGz20 hgz20
     go_wp2
     first|go_end0|((try simp only [Exit.inBlock,Exit.then]);refine bodyPost_ret (results_none rfl _ _ _) rfl ?_)
     exact ⟨jG,jW,jV,jI⟩
    replace c19:=yb.mpr c19;subst c19;rw [if_neg (show ¬ (false=true) by decide)] at H;replace H:=zT.mp H;obtain ⟨⟨t594,t595,t596⟩,A210,H⟩:=H;have A21:=zh A210;clear A210
    by_cases c22 : t594=true
    ·
     subst c22
     rw [if_pos rfl] at H;simp only [Option.some.injEq,Prod.mk.injEq] at H;obtain ⟨rfl,rfl⟩:=H;obtain ⟨HGz23,hgz23⟩:=HI0.out;have hcz23_0:=cellS48_0 HGz23;have hcz23_1:=cellS48_1 HGz23;have hfz23_0:=zA HGz23 0;have hfz23_1:=zA HGz23 1;clear HGz23 hgz23
     go_wp2_with (first|(go_at_call 50;(with_reducible refine (F0p.calls  g x1000_1 false true t595 t596 w0 _ ?side1 ?side2 A21.out).mono ?_);(case side1=>repeat (with_reducible first|exact HI0.out|apply IsS48.alloc|apply IsS48.drewN|apply IsS48.drew|apply IsS48.set_0|apply IsS48.set_1));(case side2=>repeat (with_reducible first|exact HB.out|apply za|apply zb|apply zc|refine zd ?_ (IsS48.ge HI0.out)));rintro e w24 ⟨rfl,hi,hb,hk⟩;replace HK:=zh (KeepBut.trans jI hk (.inl rfl));replace HB:=zh (hb);replace HI0:=zh (hi);(try clear hb);(try clear hb2);(try clear hk);(try clear hi)))
     first|go_end0|((try simp only [Exit.inBlock,Exit.then]);refine bodyPost_ret (results_none rfl _ _ _) rfl ?_)
     exact ⟨jG,jW,jV,jI⟩
    replace c22:=yb.mpr c22;subst c22;rw [if_neg (show ¬ (false=true) by decide)] at H;replace H:=zT.mp H;obtain ⟨⟨t597,t598⟩,A250,H⟩:=H;have A25:=zh A250;clear A250;have H':=zh H;clear H;obtain ⟨HGz26,hgz26⟩:=HI0.out;have hcz26_0:=cellS48_0 HGz26;have hcz26_1:=cellS48_1 HGz26;have hfz26_0:=zA HGz26 0;have hfz26_1:=zA HGz26 1;clear HGz26 hgz26
    go_wp2_with (first|(go_at_call 50;(with_reducible refine (F0p.calls  g x1000_1 false false t595 t596 w0 _ ?side1 ?side2 A21.out).mono ?_);(case side1=>repeat (with_reducible first|exact HI0.out|apply IsS48.alloc|apply IsS48.drewN|apply IsS48.drew|apply IsS48.set_0|apply IsS48.set_1));(case side2=>repeat (with_reducible first|exact HB.out|apply za|apply zb|apply zc|refine zd ?_ (IsS48.ge HI0.out)));rintro e w27 ⟨rfl,hi,hb,hk⟩;replace HK:=zh (KeepBut.trans jI hk (.inl rfl));replace HB:=zh (hb);replace HI0:=zh (hi);(try clear hb);(try clear hb2);(try clear hk);(try clear hi))|((with_reducible refine zJ (f:=22) rfl ?_);refine yj (some 35) rfl rfl Try.func22 jA rfl #[.pointer (some ⟨g,0,none⟩)] rfl jB ?_;(with_reducible refine (ih k1 jN  g t595 t596 t597 t598 w0 _ ?side1 ?side2 A25.out).mono ?_);(case side1=>repeat (with_reducible first|exact HI0.out|apply IsS48.alloc|apply IsS48.drewN|apply IsS48.drew|apply IsS48.set_0|apply IsS48.set_1));(case side2=>repeat (with_reducible first|exact HB.out|apply za|apply zb|apply zc|refine zd ?_ (IsS48.ge HI0.out)));rintro e w28 ⟨rfl,hi,hb,hk⟩;refine ⟨_,rfl,?_⟩;replace HK:=zh (KeepBut.trans jI hk (.inl rfl));replace HB:=zh (hb);replace HI0:=zh (hi);(try clear hb);(try clear hb2);(try clear hk);(try clear hi)))
    go_roundg k1
    case measure=>have:=HK1.out;omega
    case rel=>exact ⟨(t597),(t598),H',⟨jN⟩,⟨jW⟩,⟨jI⟩,⟨jV⟩⟩
 rw [if_neg c17] at H;have c17b0 : ((wrap64 (t583 - 1)) == 4)=false:=zY.mpr c17;have c17b1 : ((wrap64 (t583 - 1)) != 4)=true:=zZ.mpr c17
 by_cases c29 : (wrap64 (t583 - 1))=5
 ·
  rw [if_pos c29] at H
  have c29b0 : ((wrap64 (t583 - 1)) == 5)=true:=ya.mpr c29;have c29b1 : ((wrap64 (t583 - 1)) != 5)=false:=zX.mpr c29;clear c29;have H':=zh H;clear H
  go_enter Try.func22,Try.ntmps22
  go_wp2_with (first|((with_reducible refine zJ (f:=47) rfl ?_);refine yj (some 3) rfl rfl Try.func47 jA rfl #[.pointer (some ⟨g,0,none⟩),.int .i64 1] rfl jB ?_;(with_reducible refine (Fe.calls k  g s0_0 s0_1 1 t583 t584 t585 w0 _ ?side1 ?side2 A2.out).mono ?_);(case side1=>repeat (with_reducible first|exact HI0.out|apply IsS48.alloc|apply IsS48.drewN|apply IsS48.drew|apply IsS48.set_0|apply IsS48.set_1));(case side2=>repeat (with_reducible first|exact HB.out|apply za|apply zb|apply zc|refine zd ?_ (IsS48.ge HI0.out)));rintro e w30 ⟨rfl,hi,hb,hk⟩;refine ⟨_,rfl,?_⟩;replace HK:=zh (KeepBut.trans jI hk (.inl rfl));replace HB:=zh (hb);replace HI0:=zh (hi);(try clear hb);(try clear hb2);(try clear hk);(try clear hi)))
  go_loopg [] k (fun kq w' => ∃ (x1000_1 : ByteArray) (x1001_1 : Bool),Aside0 (F2.l1 kq x1000_1 x1001_1=some (r1,r2))∧Aside0 (kq≤k)∧Aside0 (IsS48 w0 w' g x1000_1 x1001_1)∧Aside0 (KeepBut w w' g none)∧Aside0 (Below w0.heap.size w0 w'))
  case atStart=>exact ⟨(t584),(t585),H',⟨ye _⟩,⟨jW⟩,⟨jI⟩,⟨jV⟩⟩
  case round =>
   clear H'
   try clear c1 c2
   try clear p2
   try clear c3 c3b0 c3b1 c4 c5 c5b0 c5b1
   try clear p6
   try clear c9 c9b0 c9b1 c13 c13b0 c13b1 c17 c17b0 c17b1 c19 c22 c29 c29b0 c29b1
   try clear hcz20_0 hcz20_1
   try clear hcz23_0 hcz23_1
   try clear hcz26_0 hcz26_1
   try clear hfz20_0 hfz20_1
   try clear hfz23_0 hfz23_1
   try clear hfz26_0 hfz26_1
   try clear p2
   try clear p6
   obtain ⟨x1000_1,x1001_1,HA,HK1,HI0,HK,HB⟩:=hrel
   cases gk with
   | zero=>exact absurd HA.out (by simp [F2.l1])
   | succ k1 =>
    have H:=HA.out;clear HA;simp only [F2.l1] at H;have HC31:=zh H;clear H
    go_upto_region 13 with (fail)
    go_cut [47] (fun v47 wc => ∃ (kq : Nat) (x47_30 : Bool) (x1000_30 : ByteArray) (x1001_30 : Bool),v47 = .bool x47_30∧Aside0 (F2.j2 kq x47_30 x1000_30 x1001_30=some (r1,r2))∧Aside0 (kq≤k1)∧Aside0 (IsS48 w0 wc g x1000_30 x1001_30)∧Aside0 (KeepBut w wc g none)∧Aside0 (Below w0.heap.size w0 wc))
    case first =>
     have H:=HC31.out;clear HC31
     by_cases c32 : x1001_1=true
     ·
      subst c32
      rw [if_pos rfl] at H;have H':=zh H;clear H;obtain ⟨HGz33,hgz33⟩:=HI0.out;have hcz33_0:=cellS48_0 HGz33;have hcz33_1:=cellS48_1 HGz33;have hfz33_0:=zA HGz33 0;have hfz33_1:=zA HGz33 1;clear HGz33 hgz33
      go_wp2
      go_meet
      case rel=>exact ⟨_,(false),(x1000_1),(true),jE,H',⟨jBX⟩,⟨jW⟩,⟨jI⟩,⟨jV⟩⟩
     replace c32:=yb.mpr c32;subst c32;rw [if_neg (show ¬ (false=true) by decide)] at H;replace H:=zT.mp H;obtain ⟨⟨t599,t600,t601⟩,A340,H⟩:=H;have A34:=zh A340;clear A340;have H':=zh H;clear H;obtain ⟨HGz35,hgz35⟩:=HI0.out;have hcz35_0:=cellS48_0 HGz35;have hcz35_1:=cellS48_1 HGz35;have hfz35_0:=zA HGz35 0;have hfz35_1:=zA HGz35 1;clear HGz35 hgz35
     go_wp2_with (first|(go_at_call 50;(with_reducible refine (F0p.calls  g x1000_1 false t599 t600 t601 w0 _ ?side1 ?side2 A34.out).mono ?_);(case side1=>repeat (with_reducible first|exact HI0.out|apply IsS48.alloc|apply IsS48.drewN|apply IsS48.drew|apply IsS48.set_0|apply IsS48.set_1));(case side2=>repeat (with_reducible first|exact HB.out|apply za|apply zb|apply zc|refine zd ?_ (IsS48.ge HI0.out)));rintro e w36 ⟨rfl,hi,hb,hk⟩;replace HK:=zh (KeepBut.trans jI hk (.inl rfl));replace HB:=zh (hb);replace HI0:=zh (hi);(try clear hb);(try clear hb2);(try clear hk);(try clear hi)))
     go_meet
     case rel=>exact ⟨_,(!t599),(t600),(t601),jE,H',⟨jBX⟩,⟨jW⟩,⟨jI⟩,⟨jV⟩⟩
    case rest =>
     clear HC31
     try clear c1 c2
     try clear p2
     try clear c3 c3b0 c3b1 c4 c5 c5b0 c5b1
     try clear p6
     try clear c9 c9b0 c9b1 c13 c13b0 c13b1 c17 c17b0 c17b1 c19 c22 c29 c29b0 c29b1 c32
     try clear hcz20_0 hcz20_1
     try clear hcz23_0 hcz23_1
     try clear hcz26_0 hcz26_1
     try clear hcz33_0 hcz33_1
     try clear hcz35_0 hcz35_1
     try clear hfz20_0 hfz20_1
     try clear hfz23_0 hfz23_1
     try clear hfz26_0 hfz26_1
     try clear hfz33_0 hfz33_1
     try clear hfz35_0 hfz35_1
     try clear p2
     try clear p6
     obtain ⟨kq,x47_30,x1000_30,x1001_30,rfl,HA,HJ30,HI0,HK,HB⟩:=hcut
     cases kq with
     | zero=>exact absurd HA.out (by simp [F2.j2])
     | succ kj30 =>
      have H:=HA.out;clear HA;simp only [F2.j2] at H
      by_cases c37 : x47_30=true
      ·
       subst c37
       rw [if_pos rfl] at H
       by_cases c38 : x1001_30=true
       ·
        subst c38
        rw [if_pos rfl] at H;replace H:=zT.mp H;obtain ⟨⟨t602,t603⟩,A390,H⟩:=H;have A39:=zh A390;clear A390;replace H:=zT.mp H;obtain ⟨⟨t604,t605⟩,A400,H⟩:=H;have A40:=zh A400;clear A400;have H':=zh H;clear H;obtain ⟨HGz41,hgz41⟩:=HI0.out;have hcz41_0:=cellS48_0 HGz41;have hcz41_1:=cellS48_1 HGz41;have hfz41_0:=zA HGz41 0;have hfz41_1:=zA HGz41 1;clear HGz41 hgz41
        go_wp2_with (first|((with_reducible refine zJ (f:=49) rfl ?_);refine yj (some 61) rfl rfl Try.func49 jA rfl #[.pointer (some ⟨g,0,none⟩)] rfl jB ?_;(with_reducible refine (Ff.calls kj30  g x1000_30 true t602 t603 w0 _ ?side1 ?side2 A39.out).mono ?_);(case side1=>repeat (with_reducible first|exact HI0.out|apply IsS48.alloc|apply IsS48.drewN|apply IsS48.drew|apply IsS48.set_0|apply IsS48.set_1));(case side2=>repeat (with_reducible first|exact HB.out|apply za|apply zb|apply zc|refine zd ?_ (IsS48.ge HI0.out)));rintro e w42 ⟨rfl,hi,hb,hk⟩;refine ⟨_,rfl,?_⟩;replace HK:=zh (KeepBut.trans jI hk (.inl rfl));replace HB:=zh (hb);replace HI0:=zh (hi);(try clear hb);(try clear hb2);(try clear hk);(try clear hi))|((with_reducible refine zJ (f:=22) rfl ?_);refine yj (some 63) rfl rfl Try.func22 jA rfl #[.pointer (some ⟨g,0,none⟩)] rfl jB ?_;(with_reducible refine (ih kj30 jBg  g t602 t603 t604 t605 w0 _ ?side1 ?side2 A40.out).mono ?_);(case side1=>repeat (with_reducible first|exact HI0.out|apply IsS48.alloc|apply IsS48.drewN|apply IsS48.drew|apply IsS48.set_0|apply IsS48.set_1));(case side2=>repeat (with_reducible first|exact HB.out|apply za|apply zb|apply zc|refine zd ?_ (IsS48.ge HI0.out)));rintro e w43 ⟨rfl,hi,hb,hk⟩;refine ⟨_,rfl,?_⟩;replace HK:=zh (KeepBut.trans jI hk (.inl rfl));replace HB:=zh (hb);replace HI0:=zh (hi);(try clear hb);(try clear hb2);(try clear hk);(try clear hi)))
        go_roundg kj30
        case measure=>have:=HK1.out;have:=HJ30.out;omega
        case rel=>exact ⟨(t604),(t605),H',⟨jBg⟩,⟨jW⟩,⟨jI⟩,⟨jV⟩⟩
       replace c38:=yb.mpr c38;subst c38;rw [if_neg (show ¬ (false=true) by decide)] at H;replace H:=zT.mp H;obtain ⟨⟨t606,t607,t608⟩,A440,H⟩:=H;have A44:=zh A440;clear A440;replace H:=zT.mp H;obtain ⟨⟨t609,t610⟩,A450,H⟩:=H;have A45:=zh A450;clear A450;replace H:=zT.mp H;obtain ⟨⟨t611,t612⟩,A460,H⟩:=H;have A46:=zh A460;clear A460;have H':=zh H;clear H;obtain ⟨HGz47,hgz47⟩:=HI0.out;have hcz47_0:=cellS48_0 HGz47;have hcz47_1:=cellS48_1 HGz47;have hfz47_0:=zA HGz47 0;have hfz47_1:=zA HGz47 1;clear HGz47 hgz47
       go_wp2_with (first|(go_at_call 47;(with_reducible refine (Fe.calls kj30  g x1000_30 false 1 t606 t607 t608 w0 _ ?side1 ?side2 A44.out).mono ?_);(case side1=>repeat (with_reducible first|exact HI0.out|apply IsS48.alloc|apply IsS48.drewN|apply IsS48.drew|apply IsS48.set_0|apply IsS48.set_1));(case side2=>repeat (with_reducible first|exact HB.out|apply za|apply zb|apply zc|refine zd ?_ (IsS48.ge HI0.out)));rintro e w48 ⟨rfl,hi,hb,hk⟩;replace HK:=zh (KeepBut.trans jI hk (.inl rfl));replace HB:=zh (hb);replace HI0:=zh (hi);(try clear hb);(try clear hb2);(try clear hk);(try clear hi);obtain ⟨HGz49,hgz49⟩:=HI0.out;have hcz49_0:=cellS48_0 HGz49;have hcz49_1:=cellS48_1 HGz49;have hfz49_0:=zA HGz49 0;have hfz49_1:=zA HGz49 1;clear HGz49 hgz49)|((with_reducible refine zJ (f:=49) rfl ?_);refine yj (some 61) rfl rfl Try.func49 jA rfl #[.pointer (some ⟨g,0,none⟩)] rfl jB ?_;(with_reducible refine (Ff.calls kj30  g t607 (t606 != 1) t609 t610 w0 _ ?side1 ?side2 A45.out).mono ?_);(case side1=>repeat (with_reducible first|exact HI0.out|apply IsS48.alloc|apply IsS48.drewN|apply IsS48.drew|apply IsS48.set_0|apply IsS48.set_1));(case side2=>repeat (with_reducible first|exact HB.out|apply za|apply zb|apply zc|refine zd ?_ (IsS48.ge HI0.out)));rintro e w50 ⟨rfl,hi,hb,hk⟩;refine ⟨_,rfl,?_⟩;replace HK:=zh (KeepBut.trans jI hk (.inl rfl));replace HB:=zh (hb);replace HI0:=zh (hi);(try clear hb);(try clear hb2);(try clear hk);(try clear hi))|((with_reducible refine zJ (f:=22) rfl ?_);refine yj (some 63) rfl rfl Try.func22 jA rfl #[.pointer (some ⟨g,0,none⟩)] rfl jB ?_;(with_reducible refine (ih kj30 jBg  g t609 t610 t611 t612 w0 _ ?side1 ?side2 A46.out).mono ?_);(case side1=>repeat (with_reducible first|exact HI0.out|apply IsS48.alloc|apply IsS48.drewN|apply IsS48.drew|apply IsS48.set_0|apply IsS48.set_1));(case side2=>repeat (with_reducible first|exact HB.out|apply za|apply zb|apply zc|refine zd ?_ (IsS48.ge HI0.out)));rintro e w51 ⟨rfl,hi,hb,hk⟩;refine ⟨_,rfl,?_⟩;replace HK:=zh (KeepBut.trans jI hk (.inl rfl));replace HB:=zh (hb);replace HI0:=zh (hi);(try clear hb);(try clear hb2);(try clear hk);(try clear hi)))
       go_roundg kj30
       case measure=>have:=HK1.out;have:=HJ30.out;omega
       case rel=>exact ⟨(t611),(t612),H',⟨jBg⟩,⟨jW⟩,⟨jI⟩,⟨jV⟩⟩
      replace c37:=yb.mpr c37;subst c37;rw [if_neg (show ¬ (false=true) by decide)] at H;simp only [Option.some.injEq,Prod.mk.injEq] at H;obtain ⟨rfl,rfl⟩:=H
      go_wp2
      first|go_end0|((try simp only [Exit.inBlock,Exit.then]);refine bodyPost_ret (results_none rfl _ _ _) rfl ?_)
      exact ⟨jG,jW,jV,jI⟩
 rw [if_neg c29] at H;have c29b0 : ((wrap64 (t583 - 1)) == 5)=false:=zY.mpr c29;have c29b1 : ((wrap64 (t583 - 1)) != 5)=true:=zZ.mpr c29;simp only [Option.some.injEq,Prod.mk.injEq] at H;obtain ⟨rfl,rfl⟩:=H
 go_enter Try.func22,Try.ntmps22
 go_wp2_with (first|((with_reducible refine zJ (f:=47) rfl ?_);refine yj (some 3) rfl rfl Try.func47 jA rfl #[.pointer (some ⟨g,0,none⟩),.int .i64 1] rfl jB ?_;(with_reducible refine (Fe.calls k  g s0_0 s0_1 1 t583 t584 t585 w0 _ ?side1 ?side2 A2.out).mono ?_);(case side1=>repeat (with_reducible first|exact HI0.out|apply IsS48.alloc|apply IsS48.drewN|apply IsS48.drew|apply IsS48.set_0|apply IsS48.set_1));(case side2=>repeat (with_reducible first|exact HB.out|apply za|apply zb|apply zc|refine zd ?_ (IsS48.ge HI0.out)));rintro e w52 ⟨rfl,hi,hb,hk⟩;refine ⟨_,rfl,?_⟩;replace HK:=zh (KeepBut.trans jI hk (.inl rfl));replace HB:=zh (hb);replace HI0:=zh (hi);(try clear hb);(try clear hb2);(try clear hk);(try clear hi);obtain ⟨HGz53,hgz53⟩:=HI0.out;have hcz53_0:=cellS48_0 HGz53;have hcz53_1:=cellS48_1 HGz53;have hfz53_0:=zA HGz53 0;have hfz53_1:=zA HGz53 1;clear HGz53 hgz53))
 first|go_end0|((try simp only [Exit.inBlock,Exit.then]);refine bodyPost_ret (results_none rfl _ _ _) rfl ?_)
 exact ⟨jG,jW,jV,jI⟩

end Go.Proofs.Ytdjnplkpahgnmaa.Q
end
section
namespace Go.Proofs.Ytdjnplkpahgnmaa.Q
open Go.RowKit Go.Proofs.YtdjnplkpahgnmaaW.PrintWords Go.Proofs.YtdjnplkpahgnmaaW.PrintLast Go.Proofs.YtdjnplkpahgnmaaW.PrintMore
attribute [local go_sem] max2_int min2_int max_two min_two max_three min_three max_four min_four max2_str min2_str str_geq str_gtr str_leq
set_option linter.unusedVariables false
set_option linter.unusedSimpArgs false

def Fh.l0 : Nat→List ByteArray→Int→Int→ByteArray→Bool→Option (List ByteArray×Int)
 | 0,_,_,_,_,_=>none
 | k+1,x7,x21,x22,x619000,x619001=>if x22<x21 then ((F2.f k x619000 x619001).bind fun bt622=>(if bt622.2=true then (some (([] : List ByteArray),3)) else (if 0≤(wrap64 ((x619000.size : Int) - (bt622.1.size : Int))) then (if (wrap64 ((x619000.size : Int) - (bt622.1.size : Int)))≤(x619000.size : Int) then (if x7.length<8796093022208 then (Fh.l0 k (x7 ++ [x619000.extract 0 ((wrap64 ((x619000.size : Int) - (bt622.1.size : Int))) : Int).toNat]) x21 (wrap64 (x22+1)) bt622.1 bt622.2) else (none)) else (none)) else (none)))) else (if x619000.toList=([] : List UInt8) then (some (x7,0)) else (some (([] : List ByteArray),3)))
def Fh.f (k : Nat) (a0 : ByteArray) (a1 : Int) : Option (List ByteArray×Int):=(F0d.f k (([a0] : List ByteArray))).bind fun t616=>(if t616=true then (some (([] : List ByteArray),2)) else ((F0j.f a1 0 8).bind fun t617=>(if t617=true then (Fh.l0 k (([] : List ByteArray)) a1 0 a0 false) else (some (([] : List ByteArray),4)))))
theorem Fh.mono_l : ∀ k,(∀ y0 y1 y2 y3 y4,LeO (Fh.l0 k y0 y1 y2 y3 y4) (Fh.l0 (k+1) y0 y1 y2 y3 y4))
 | 0=>fun _ _ _ _ _ r h=>by simp [Fh.l0] at h
 | k+1=>by
  have ih0:=Fh.mono_l k;intro y0 y1 y2 y3 y4;unfold Fh.l0
  repeat' first|(with_reducible first|exact ih0 _ _ _ _ _|exact F0d.mono _ _|exact F2.mono _ _ _|exact zQ _|exact zN _|refine zP ?_ ?_|refine zO ?_ (fun _=>?_))|refine zP ?_ ?_|refine zO ?_ (fun _=>?_)
theorem Fh.mono : ∀ a0 a1 k,LeO (Fh.f k a0 a1) (Fh.f (k+1) a0 a1):=by
 intro a0 a1 k;have ih0:=Fh.mono_l k;unfold Fh.f
 repeat' first|(with_reducible first|exact ih0 _ _ _ _ _|exact F0d.mono _ _|exact F2.mono _ _ _|exact zQ _|exact zN _|refine zP ?_ ?_|refine zO ?_ (fun _=>?_))|refine zP ?_ ?_|refine zO ?_ (fun _=>?_)
set_option maxHeartbeats 8000000 in
set_option maxRecDepth 100000 in
theorem Fh.calls (k : Nat) (a0 : ByteArray) (a1 : Int) (r1 : List ByteArray) (r2 : Int) (w : World) (h : Fh.f k a0 a1=some (r1,r2)) :
  Calls Try.prog 9 #[.string a0,.int .i64 a1] w fun e w' => ∃ v0_ : Value,e = .returned (.tuple #[v0_,.int .i64 r2])∧Kd.R Kd.string 9 w' w.heap.size (fun _=>True) v0_ r1∧Below w.heap.size w w':=by
 have hu48:=Try.underlying48;have HB:=zh (Below.refl w.heap.size w);have H : ((F0d.f k (([a0] : List ByteArray))).bind fun t616=>(if t616=true then (some (([] : List ByteArray),2)) else ((F0j.f a1 0 8).bind fun t617=>(if t617=true then (Fh.l0 k (([] : List ByteArray)) a1 0 a0 false) else (some (([] : List ByteArray),4))))))=some (r1,r2):=h;clear h;obtain ⟨y613,hy613⟩ : ∃ y_ : List ByteArray,y_=(([a0] : List ByteArray)):=⟨_,rfl⟩;replace H : ((F0d.f k y613).bind fun t616=>(if t616=true then (some (([] : List ByteArray),2)) else ((F0j.f a1 0 8).bind fun t617=>(if t617=true then (Fh.l0 k (([] : List ByteArray)) a1 0 a0 false) else (some (([] : List ByteArray),4))))))=some (r1,r2):=by first|(rw [hy613];with_reducible exact H)|(have H2_:=(Option.bind_some _ _).symm.trans H;rw [hy613];with_reducible exact H2_)|(have H2_:=(Option.bind_some _ _).symm.trans H;with_reducible exact H2_)|with_reducible exact H|(rw [hy613];exact H)|exact H
 have Ny613:=zh hy613;clear hy613;replace H:=zT.mp H;obtain ⟨t616,A30,H⟩:=H;have A3:=zh A30;clear A30
 by_cases c4 : t616=true
 ·
  subst c4
  rw [if_pos rfl] at H;simp only [Option.some.injEq,Prod.mk.injEq] at H;obtain ⟨rfl,rfl⟩:=H
  go_enter Try.func9,Try.ntmps9
  go_wp2_with (first|((with_reducible refine zK (N:=11) rfl ?_);refine Kd.R_lit Kd.string _ 9 ?hg (N:=11) ?hd (xs:=([a0] : List ByteArray)) (inner:=[.string a0]) (ok:=fun _=>True) (okp:=fun _=>True) ?hr ?hp (fun _ hk=>hk) trivial (Below.refl _ _) (ye _) (by simp) ?_;(case hd=>rfl);(case hg=>rfl);(case hr=>go_simp <;> rfl);(case hp=>exact (Reps.one (show Kd.M Kd.string _ _ _ a0 [.string a0] from rfl) (Reps.none _ _)));intro v614 w5 ho6 hb hg_ hnew_;clear hg_ hnew_;(first|rw [← Ny613.out] at ho6|(simp only [Int.reduceToNat] at ho6;rw [← Ny613.out] at ho6));have HO615:=zh (yy ho6 (zB jD));replace HB:=zh (zC jD hb);clear hb ho6;obtain ⟨Ao7,co7,eo7⟩:=yk HO615.out;subst eo7)|((with_reducible refine zJ (f:=20) rfl ?_);refine yj (some 12) rfl rfl Try.func20 jA rfl #[.slice Ao7 y613.length co7] rfl jB ?_;(with_reducible refine (F0d.calls k  _ _ y613 true _ ?side1 ?side2 A3.out).mono ?_);(case side1=>repeat (first|exact (yh HO615.out).2.2|(with_reducible refine Kd.C_alloc ?_ _)|(with_reducible refine Kd.C_drewN ?_ _)|(with_reducible refine Kd.C_drew ?_)));(case side2=>exact (yh HO615.out).2.1);rintro e w8 ⟨rfl,hb⟩;refine ⟨_,rfl,?_⟩;replace HO615:=zh (yg jBC hb);replace HB:=zh (zC jD hb);(try clear hb);(try clear hb2);(try clear hk);(try clear hi)))
  go_ret2
  exact ⟨_,jG,jBh,jD⟩
 replace c4:=yb.mpr c4;subst c4;rw [if_neg (show ¬ (false=true) by decide)] at H;replace H:=zT.mp H;obtain ⟨t617,A90,H⟩:=H;have A9:=zh A90;clear A90
 by_cases c10 : t617=true
 ·
  subst c10
  rw [if_pos rfl] at H;obtain ⟨y619,hy619⟩ : ∃ y_ : List ByteArray,y_=(([] : List ByteArray)):=⟨_,rfl⟩;replace H : (Fh.l0 k y619 a1 0 a0 false)=some (r1,r2):=by first|(rw [hy619];with_reducible exact H)|(have H2_:=(Option.bind_some _ _).symm.trans H;rw [hy619];with_reducible exact H2_)|(have H2_:=(Option.bind_some _ _).symm.trans H;with_reducible exact H2_)|with_reducible exact H|(rw [hy619];exact H)|exact H
  have Ny619:=zh hy619;clear hy619;have H':=zh H;clear H
  go_enter Try.func9,Try.ntmps9
  go_wp2_with (first|((with_reducible refine zK (N:=11) rfl ?_);refine Kd.R_lit Kd.string _ 9 ?hg (N:=11) ?hd (xs:=([a0] : List ByteArray)) (inner:=[.string a0]) (ok:=fun _=>True) (okp:=fun _=>True) ?hr ?hp (fun _ hk=>hk) trivial (Below.refl _ _) (ye _) (by simp) ?_;(case hd=>rfl);(case hg=>rfl);(case hr=>go_simp <;> rfl);(case hp=>exact (Reps.one (show Kd.M Kd.string _ _ _ a0 [.string a0] from rfl) (Reps.none _ _)));intro v614 w11 ho12 hb hg_ hnew_;clear hg_ hnew_;(first|rw [← Ny613.out] at ho12|(simp only [Int.reduceToNat] at ho12;rw [← Ny613.out] at ho12));have HO615:=zh (yy ho12 (zB jD));replace HB:=zh (zC jD hb);clear hb ho12;obtain ⟨Ao13,co13,eo13⟩:=yk HO615.out;subst eo13)|((with_reducible refine zJ (f:=20) rfl ?_);refine yj (some 12) rfl rfl Try.func20 jA rfl #[.slice Ao13 y613.length co13] rfl jB ?_;(with_reducible refine (F0d.calls k  _ _ y613 false _ ?side1 ?side2 A3.out).mono ?_);(case side1=>repeat (first|exact (yh HO615.out).2.2|(with_reducible refine Kd.C_alloc ?_ _)|(with_reducible refine Kd.C_drewN ?_ _)|(with_reducible refine Kd.C_drew ?_)));(case side2=>exact (yh HO615.out).2.1);rintro e w14 ⟨rfl,hb⟩;refine ⟨_,rfl,?_⟩;replace HO615:=zh (yg jBC hb);replace HB:=zh (zC jD hb);(try clear hb);(try clear hb2);(try clear hk);(try clear hi))|((with_reducible refine zJ (f:=21) rfl ?_);refine yj (some 15) rfl rfl Try.func21 jA rfl #[.int .i64 a1,.int .i64 0,.int .i64 8] rfl jB ?_;(with_reducible refine (F0j.calls  a1 0 8 true _ A9.out).mono ?_);rintro e w' ⟨rfl,⟨nd,rfl⟩⟩;refine ⟨_,rfl,?_⟩)|((with_reducible refine zK (N:=19) rfl ?_);refine zI ?hg (N:=19) ?hd (cs:=#[.string a0,.bool false]) (t:=48) ?hr ?_;(case hd=>rfl);(case hg=>rfl);(case hr=>go_simp <;> rfl);intro gb618 hg w15 hbox hb;replace HO615:=zh (yg jBC hb);have BK618:=zh (hbox);have hH_:=cH jD hb hg;have GW618:=zh hH_.1;have GE618:=GW618;replace HB:=zh hH_.2;clear hb hbox hg hH_)|((with_reducible refine zK (N:=20) rfl ?_);refine Kd.R_lit Kd.string _ 9 ?hg (N:=20) ?hd (xs:=([] : List ByteArray)) (inner:=[]) (ok:=fun _=>True) (okp:=fun _=>True) ?hr ?hp (fun _ hk=>hk) trivial (Below.refl _ _) (ye _) (by simp) ?_;(case hd=>rfl);(case hg=>rfl);(case hr=>go_simp <;> rfl);(case hp=>exact (Reps.none _ _));intro v620 w16 ho17 hb hg_ hnew_;clear hg_ hnew_;(first|rw [← Ny619.out] at ho17|(simp only [Int.reduceToNat] at ho17;rw [← Ny619.out] at ho17));have HO621:=zh (yy (Kd.R_new' ho17 (Kd.R_lt jBC)) (zB jAe));replace HO615:=zh (Kd.R_elder' jBC (Kd.R_base ho17) hb);replace BK618:=zh (cD BK618.out jBi hb);replace HB:=zh (zC jAe hb);clear hb ho17))
  go_loopg [7,22] k (fun kq v7 v22 w' => ∃ (x7_1 : List ByteArray) (x22_1 : Int) (x619000_1 : ByteArray) (x619001_1 : Bool),v22 = .int .i64 x22_1∧Aside0 (Fh.l0 kq x7_1 a1 x22_1 x619000_1 x619001_1=some (r1,r2))∧Aside0 (kq≤k)∧Aside0 (Kd.R Kd.string 9 w' w.heap.size (fun _=>True) v7 x7_1)∧Aside0 (w'.heap[gb618]? = some (.cells #[.string x619000_1,.bool x619001_1] 48 (0,0)))∧Aside0 (Below w.heap.size w w'))
  case atStart=>exact ⟨(y619),(0),(a0),(false),jE,H',⟨ye _⟩,⟨by (with_reducible repeat (first|apply zm|apply zn|apply zo));exact zM HO621.out (fun _ hk=>trivial)⟩,⟨jBi⟩,⟨jAe⟩⟩
  case round =>
   clear H'
   try clear c1 c2
   try clear p2
   try clear c4 c9 c10
   obtain ⟨x7_1,x22_1,x619000_1,x619001_1,rfl,HA,HK1,HO_7,BK618,HB⟩:=hrel
   cases gk with
   | zero=>exact absurd HA.out (by simp [Fh.l0])
   | succ k1 =>
    have H:=HA.out;clear HA;simp only [Fh.l0] at H
    by_cases c18 : x22_1<a1
    ·
     rw [if_pos c18] at H
     have c18b0 : decide (x22_1<a1)=true:=decide_eq_true c18;clear c18;replace H:=zT.mp H;obtain ⟨⟨t622,t623⟩,A190,H⟩:=H;have A19:=zh A190;clear A190
     by_cases c20 : t623=true
     ·
      subst c20
      rw [if_pos rfl] at H;simp only [Option.some.injEq,Prod.mk.injEq] at H;obtain ⟨rfl,rfl⟩:=H;obtain ⟨hcz21_0,hcz21_1,hfz21_0,hfz21_1⟩:=cB2 BK618.out;have HI618:=zh (show IsS48 w wr gb618 x619000_1 x619001_1 from ⟨BK618.out,GE618.out⟩)
      go_wp2_with (first|((with_reducible refine zJ (f:=22) rfl ?_);refine yj (some 29) rfl rfl Try.func22 jA rfl #[.pointer (some ⟨gb618,0,none⟩)] rfl jB ?_;(with_reducible refine (F2.calls k1  gb618 x619000_1 x619001_1 t622 true w _ ?side1 ?side2 A19.out).mono ?_);(case side1=>repeat (with_reducible first|exact HI618.out|apply IsS48.alloc|apply IsS48.drewN|apply IsS48.drew|apply IsS48.set_0|apply IsS48.set_1));(case side2=>repeat (with_reducible first|exact HB.out|apply za|apply zb|apply zc|refine zd ?_ (IsS48.ge HI618.out)));rintro e w22 ⟨rfl,hi,hb,hk⟩;refine ⟨_,rfl,?_⟩;replace HO_7:=zh (zM (Kd.R_keep (IsS48.apart (show IsS48 w _ gb618 x619000_1 x619001_1 from by repeat (with_reducible first|exact HI618.out|apply IsS48.alloc|apply IsS48.drewN|apply IsS48.drew|apply IsS48.set_0|apply IsS48.set_1)) jAy jC) hk (fun _ h=>h.2)) (fun _ h=>h.1));replace HB:=zh (hb);replace BK618:=zh ((show _∧_ from hi).1);clear HI618;(try clear hb);(try clear hb2);(try clear hk);(try clear hi);obtain ⟨hcz23_0,hcz23_1,hfz23_0,hfz23_1⟩:=cB2 BK618.out))
      go_ret2
      exact ⟨_,jG,jBh,jAe⟩
     replace c20:=yb.mpr c20;subst c20;rw [if_neg (show ¬ (false=true) by decide)] at H;obtain ⟨ji24,hji24⟩ : ∃ j_ : Int,(wrap64 ((x619000_1.size : Int) - (t622.size : Int)))=j_:=⟨_,rfl⟩;replace H : (if 0≤(ji24) then (if (ji24)≤(x619000_1.size : Int) then (if x7_1.length<8796093022208 then (Fh.l0 k1 (x7_1 ++ [x619000_1.extract 0 ((ji24) : Int).toNat]) a1 (wrap64 (x22_1+1)) t622 false) else (none)) else (none)) else (none))=some (r1,r2):=by first|(rw [hji24] at H;exact H)|(simp only [hji24] at H ⊢;exact H)
     (try rw [hji24] at A19);have hji24w : (IntKind.i64.wrap ((x619000_1.size : Int) - (t622.size : Int)))=ji24:=(zG _).trans hji24
     by_cases c25 : 0≤(ji24)
     ·
      rw [if_pos c25] at H
      have c25b0:=eq_true c25;have c25b1 : decide (0≤(ji24))=true:=decide_eq_true c25;clear c25
      by_cases c26 : (ji24)≤(x619000_1.size : Int)
      ·
       rw [if_pos c26] at H
       have c26b0:=eq_true c26;have c26b1 : decide ((ji24)≤(x619000_1.size : Int))=true:=decide_eq_true c26;clear c26
       by_cases c27 : x7_1.length<8796093022208
       ·
        rw [if_pos c27] at H
        have LMc27:=zh c27;clear c27;obtain ⟨y624,hy624⟩ : ∃ y_ : List ByteArray,y_=(x7_1 ++ [x619000_1.extract 0 ((ji24) : Int).toNat]):=⟨_,rfl⟩;replace H : (Fh.l0 k1 y624 a1 (wrap64 (x22_1+1)) t622 false)=some (r1,r2):=by first|(rw [hy624];with_reducible exact H)|(have H2_:=(Option.bind_some _ _).symm.trans H;rw [hy624];with_reducible exact H2_)|(have H2_:=(Option.bind_some _ _).symm.trans H;with_reducible exact H2_)|with_reducible exact H|(rw [hy624];exact H)|exact H
        have Ny624:=zh hy624;clear hy624;have H':=zh H;clear H;obtain ⟨hcz28_0,hcz28_1,hfz28_0,hfz28_1⟩:=cB2 BK618.out;have HI618:=zh (show IsS48 w wr gb618 x619000_1 x619001_1 from ⟨BK618.out,GE618.out⟩)
        go_wp2_with (first|((with_reducible refine zJ (f:=22) rfl ?_);refine yj (some 29) rfl rfl Try.func22 jA rfl #[.pointer (some ⟨gb618,0,none⟩)] rfl jB ?_;(with_reducible refine (F2.calls k1  gb618 x619000_1 x619001_1 t622 false w _ ?side1 ?side2 A19.out).mono ?_);(case side1=>repeat (with_reducible first|exact HI618.out|apply IsS48.alloc|apply IsS48.drewN|apply IsS48.drew|apply IsS48.set_0|apply IsS48.set_1));(case side2=>repeat (with_reducible first|exact HB.out|apply za|apply zb|apply zc|refine zd ?_ (IsS48.ge HI618.out)));rintro e w29 ⟨rfl,hi,hb,hk⟩;refine ⟨_,rfl,?_⟩;replace HO_7:=zh (zM (Kd.R_keep (IsS48.apart (show IsS48 w _ gb618 x619000_1 x619001_1 from by repeat (with_reducible first|exact HI618.out|apply IsS48.alloc|apply IsS48.drewN|apply IsS48.drew|apply IsS48.set_0|apply IsS48.set_1)) jAy jC) hk (fun _ h=>h.2)) (fun _ h=>h.1));replace HB:=zh (hb);replace BK618:=zh ((show _∧_ from hi).1);clear HI618;(try clear hb);(try clear hb2);(try clear hk);(try clear hi);obtain ⟨hcz30_0,hcz30_1,hfz30_0,hfz30_1⟩:=cB2 BK618.out)|((with_reducible refine yB (b:=.append) (xs:=#[.tmp 34,.tmp 45]) rfl ?_);at_builtin;refine Kd.R_append Kd.string (w0:=w) w.heap.size rfl (.tmp 34) (.tmp 45) 31 9 (.string ⟨#[]⟩) 16 rfl Try.underlying31 info9 rfl jC jH u7 x7_1 (x619000_1.extract 0 ((ji24) : Int).toNat) [.string (x619000_1.extract 0 ((ji24) : Int).toNat)] (fun _=>True) (fun _=>False) rfl rfl ?aP (fun _ hk=>hk.elim) ?aF ?aO ?aB ?aS ?aL ?_;(case aP=>exact rfl);(case aB=>exact jAe);(case aF=>exact (fun _ _=>trivial));(case aO=>exact jAy);(case aS=>exact (zB jAe));(case aL=>have:=LMc27.out;omega);intro v625 w31 ho hb hg hat;rw [← Ny624.out] at ho;replace BK618:=zh (yw (g:=gb618) (o:=.cells #[.string t622,.bool false] 48 (0,0)) jBi hg (Kd.R_ne HO_7.out BK618.out jC));replace HB:=zh (hb);have HO626:=zh (ho);clear HO_7 ho hb hg hat))
        go_roundg k1
        case measure=>have:=HK1.out;omega
        case rel=>exact ⟨(y624),(wrap64 (x22_1+1)),(t622),(false),jE,H',⟨jN⟩,⟨by (with_reducible repeat (first|apply zm|apply zn|apply zo));exact HO626.out⟩,⟨jBi⟩,⟨jAe⟩⟩
       rw [if_neg c27] at H;exact absurd H (by simp)
      rw [if_neg c26] at H;exact absurd H (by simp)
     rw [if_neg c25] at H;exact absurd H (by simp)
    rw [if_neg c18] at H;have c18b0 : decide (x22_1<a1)=false:=decide_eq_false c18;clear c18
    by_cases c32 : x619000_1.toList=([] : List UInt8)
    ·
     rw [if_pos c32] at H
     have c32b0 : (x619000_1.toList == ([] : List UInt8))=true:=ya.mpr c32;have c32b1 : (x619000_1.toList != ([] : List UInt8))=false:=zX.mpr c32;clear c32;simp only [Option.some.injEq,Prod.mk.injEq] at H;obtain ⟨rfl,rfl⟩:=H;obtain ⟨hcz33_0,hcz33_1,hfz33_0,hfz33_1⟩:=cB2 BK618.out
     go_wp2
     go_ret2
     exact ⟨_,jG,jAy,jAe⟩
    rw [if_neg c32] at H;have c32b0 : (x619000_1.toList == ([] : List UInt8))=false:=zY.mpr c32;have c32b1 : (x619000_1.toList != ([] : List UInt8))=true:=zZ.mpr c32;simp only [Option.some.injEq,Prod.mk.injEq] at H;obtain ⟨rfl,rfl⟩:=H;obtain ⟨hcz34_0,hcz34_1,hfz34_0,hfz34_1⟩:=cB2 BK618.out
    go_wp2
    go_ret2
    exact ⟨_,jG,jBh,jAe⟩
 replace c10:=yb.mpr c10;subst c10;rw [if_neg (show ¬ (false=true) by decide)] at H;simp only [Option.some.injEq,Prod.mk.injEq] at H;obtain ⟨rfl,rfl⟩:=H
 go_enter Try.func9,Try.ntmps9
 go_wp2_with (first|((with_reducible refine zK (N:=11) rfl ?_);refine Kd.R_lit Kd.string _ 9 ?hg (N:=11) ?hd (xs:=([a0] : List ByteArray)) (inner:=[.string a0]) (ok:=fun _=>True) (okp:=fun _=>True) ?hr ?hp (fun _ hk=>hk) trivial (Below.refl _ _) (ye _) (by simp) ?_;(case hd=>rfl);(case hg=>rfl);(case hr=>go_simp <;> rfl);(case hp=>exact (Reps.one (show Kd.M Kd.string _ _ _ a0 [.string a0] from rfl) (Reps.none _ _)));intro v614 w35 ho36 hb hg_ hnew_;clear hg_ hnew_;(first|rw [← Ny613.out] at ho36|(simp only [Int.reduceToNat] at ho36;rw [← Ny613.out] at ho36));have HO615:=zh (yy ho36 (zB jD));replace HB:=zh (zC jD hb);clear hb ho36;obtain ⟨Ao37,co37,eo37⟩:=yk HO615.out;subst eo37)|((with_reducible refine zJ (f:=20) rfl ?_);refine yj (some 12) rfl rfl Try.func20 jA rfl #[.slice Ao37 y613.length co37] rfl jB ?_;(with_reducible refine (F0d.calls k  _ _ y613 false _ ?side1 ?side2 A3.out).mono ?_);(case side1=>repeat (first|exact (yh HO615.out).2.2|(with_reducible refine Kd.C_alloc ?_ _)|(with_reducible refine Kd.C_drewN ?_ _)|(with_reducible refine Kd.C_drew ?_)));(case side2=>exact (yh HO615.out).2.1);rintro e w38 ⟨rfl,hb⟩;refine ⟨_,rfl,?_⟩;replace HO615:=zh (yg jBC hb);replace HB:=zh (zC jD hb);(try clear hb);(try clear hb2);(try clear hk);(try clear hi))|((with_reducible refine zJ (f:=21) rfl ?_);refine yj (some 15) rfl rfl Try.func21 jA rfl #[.int .i64 a1,.int .i64 0,.int .i64 8] rfl jB ?_;(with_reducible refine (F0j.calls  a1 0 8 false _ A9.out).mono ?_);rintro e w' ⟨rfl,⟨nd,rfl⟩⟩;refine ⟨_,rfl,?_⟩))
 go_ret2
 exact ⟨_,jG,jBh,jD⟩

end Go.Proofs.Ytdjnplkpahgnmaa.Q
end
section
namespace Go.Proofs.Ytdjnplkpahgnmaa.Q
open Go.RowKit Go.Proofs.YtdjnplkpahgnmaaW.PrintWords Go.Proofs.YtdjnplkpahgnmaaW.PrintLast Go.Proofs.YtdjnplkpahgnmaaW.PrintMore
attribute [local go_sem] max2_int min2_int max_two min_two max_three min_three max_four min_four max2_str min2_str str_geq str_gtr str_leq   -- for this text's walks alone
set_option linter.unusedVariables false
set_option linter.unusedSimpArgs false

mutual
def F1.j0 : Nat→List Int→List Int→Bool→Option (Bool)
 | 0,_,_,_=>none
 | k+1,x0,x1,x36=>if x36=true then (some true) else ((F0e.f k x0).bind fun bt627=>((F0e.f k x1).bind fun bt631=>((F0l.f k bt627.1 bt627.2.1 bt627.2.2 bt631.1 bt631.2.1 bt631.2.2).bind fun bt635=>(if bt635.2=0 then ((Fd.f k bt627.1 bt627.2.1 bt627.2.2 false).bind fun bt641=>((Fd.f k bt631.1 bt631.2.1 bt631.2.2 false).bind fun bt643=>((Fd.f k bt627.1 bt627.2.1 bt627.2.2 true).bind fun bt645=>((Fd.f k bt631.1 bt631.2.1 bt631.2.2 true).bind fun bt647=>((F0f.f k bt627.1 bt627.2.1 bt627.2.2 false).bind fun bt649=>(if bt641.2=0 then (if bt643.2=0 then (if bt645.2=0 then (if bt647.2=0 then (if bt641.1.toList=bt649.1.toList then (if ((decide (bt635.1<0)) != (Op.bytesLess bt641.1.toList bt643.1.toList))=true then (F1.j1 k bt635.1 bt641.1 bt643.1 true) else (if ((decide (bt635.1<0)) != (Op.bytesLess bt647.1.toList bt645.1.toList))=true then (F1.j1 k bt635.1 bt641.1 bt643.1 true) else (F1.j1 k bt635.1 bt641.1 bt643.1 ((bt635.1 == 0) != (bt641.1.toList == bt643.1.toList))))) else (F1.j1 k bt635.1 bt641.1 bt643.1 true)) else (F1.j1 k bt635.1 bt641.1 bt643.1 true)) else (F1.j1 k bt635.1 bt641.1 bt643.1 true)) else (F1.j1 k bt635.1 bt641.1 bt643.1 true)) else (F1.j1 k bt635.1 bt641.1 bt643.1 true))))))) else ((Fd.f k bt627.1 bt627.2.1 bt627.2.2 false).bind fun bt637=>((Fd.f k bt631.1 bt631.2.1 bt631.2.2 false).bind fun bt639=>(if bt635.2=1 then (if bt637.2=1 then (some true) else (some (bt639.2 == 1))) else (some false))))))))
def F1.j1 : Nat→Int→ByteArray→ByteArray→Bool→Option (Bool)
 | 0,_,_,_,_=>none
 | k+1,x7,x13,x15,x136=>if x136=true then (some false) else (if x7=0 then (F1.j2 k x13 x15 false) else (if (x13.size : Int)≤(x15.size : Int) then (if 0≤(x13.size : Int) then (F1.j2 k x13 x15 ((x15.extract 0 ((x13.size : Int) : Int).toNat).toList == x13.toList)) else (none)) else (F1.j2 k x13 x15 false)))
def F1.j2 : Nat→ByteArray→ByteArray→Bool→Option (Bool)
 | 0,_,_,_=>none
 | k+1,x13,x15,x153=>if x153=true then (some false) else ((Fq.f k (([x13,x15] : List ByteArray))).bind fun bt654=>((Fh.f k bt654.1 2).bind fun bt656=>((Fh.f k bt654.1 3).bind fun bt660=>(if bt654.2=0 then (if x13.size+x15.size≤9223372036854775807 then (if bt654.1.toList=(x13++x15).toList then (if bt656.2=0 then (if (bt656.1.length : Int)=2 then (if 0<(bt656.1.length : Int) then (if (rdOf ByteArray.empty bt656.1 0).toList=x13.toList then (if 1<(bt656.1.length : Int) then (if (rdOf ByteArray.empty bt656.1 1).toList=x15.toList then (some (bt660.2 == 3)) else (some false)) else (none)) else (some false)) else (none)) else (some false)) else (some false)) else (some false)) else (none)) else (some false)))))
end
def F1.f (k : Nat) (l0 : List Int) (l1 : List Int) : Option (Bool):=if (l0.length : Int) > 1048576 then (F1.j0 k l0 l1 true) else (F1.j0 k l0 l1 (decide ((l1.length : Int) > 1048576)))
theorem F1.mono_l : ∀ k,(∀ y0 y1 y2,LeO (F1.j0 k y0 y1 y2) (F1.j0 (k+1) y0 y1 y2))∧(∀ y0 y1 y2 y3,LeO (F1.j1 k y0 y1 y2 y3) (F1.j1 (k+1) y0 y1 y2 y3))∧(∀ y0 y1 y2,LeO (F1.j2 k y0 y1 y2) (F1.j2 (k+1) y0 y1 y2))
 | 0=>⟨fun _ _ _ r h=>by simp [F1.j0] at h,fun _ _ _ _ r h=>by simp [F1.j1] at h,fun _ _ _ r h=>by simp [F1.j2] at h⟩
 | k+1=>by
  obtain ⟨ih0,ih1,ih2⟩:=F1.mono_l k;refine ⟨?_,?_,?_⟩
  ·
   intro y0 y1 y2
   unfold F1.j0
   repeat' first|(with_reducible first|exact ih0 _ _ _|exact ih1 _ _ _ _|exact ih2 _ _ _|exact F0e.mono _ _|exact F0l.mono _ _ _ _ _ _ _|exact Fd.mono _ _ _ _ _|exact F0f.mono _ _ _ _ _|exact Fq.mono _ _|exact Fh.mono _ _ _|exact zQ _|exact zN _|refine zP ?_ ?_|refine zO ?_ (fun _=>?_))|refine zP ?_ ?_|refine zO ?_ (fun _=>?_)
  ·
   intro y0 y1 y2 y3
   unfold F1.j1
   repeat' first|(with_reducible first|exact ih0 _ _ _|exact ih1 _ _ _ _|exact ih2 _ _ _|exact F0e.mono _ _|exact F0l.mono _ _ _ _ _ _ _|exact Fd.mono _ _ _ _ _|exact F0f.mono _ _ _ _ _|exact Fq.mono _ _|exact Fh.mono _ _ _|exact zQ _|exact zN _|refine zP ?_ ?_|refine zO ?_ (fun _=>?_))|refine zP ?_ ?_|refine zO ?_ (fun _=>?_)
  intro y0 y1 y2;unfold F1.j2
  repeat' first|(with_reducible first|exact ih0 _ _ _|exact ih1 _ _ _ _|exact ih2 _ _ _|exact F0e.mono _ _|exact F0l.mono _ _ _ _ _ _ _|exact Fd.mono _ _ _ _ _|exact F0f.mono _ _ _ _ _|exact Fq.mono _ _|exact Fh.mono _ _ _|exact zQ _|exact zN _|refine zP ?_ ?_|refine zO ?_ (fun _=>?_))|refine zP ?_ ?_|refine zO ?_ (fun _=>?_)
theorem F1.mono : ∀ a0 a1 k,LeO (F1.f k a0 a1) (F1.f (k+1) a0 a1):=by
 intro a0 a1 k;obtain ⟨ih0,ih1,ih2⟩:=F1.mono_l k;unfold F1.f
 repeat' first|(with_reducible first|exact ih0 _ _ _|exact ih1 _ _ _ _|exact ih2 _ _ _|exact F0e.mono _ _|exact F0l.mono _ _ _ _ _ _ _|exact Fd.mono _ _ _ _ _|exact F0f.mono _ _ _ _ _|exact Fq.mono _ _|exact Fh.mono _ _ _|exact zQ _|exact zN _|refine zP ?_ ?_|refine zO ?_ (fun _=>?_))|refine zP ?_ ?_|refine zO ?_ (fun _=>?_)
set_option maxHeartbeats 8000000 in
set_option maxRecDepth 100000 in
theorem F1.calls (k : Nat) (A0 : Option Addr) (c0 : Nat) (l0 : List Int) (A1 : Option Addr) (c1 : Nat) (l1 : List Int) (r : Bool) (w : World) (hr0 : Kd.C (Kd.int .u8) w A0 l0.length l0) (hc0 : l0.length≤c0) (hr1 : Kd.C (Kd.int .u8) w A1 l1.length l1) (hc1 : l1.length≤c1) (h : F1.f k l0 l1=some r) (hr_ : r=true) :
  Calls Try.prog 3 #[.slice A0 l0.length c0,.slice A1 l1.length c1] w fun e w' => e = .returned (.bool r)∧Below w.heap.size w w':=by
 have hu24:=Try.underlying24;have HR0:=zh hr0;have HC0:=zh hc0;clear hr0 hc0;have HR1:=zh hr1;have HC1:=zh hc1;clear hr1 hc1;have HB:=zh (Below.refl w.heap.size w);have H : (if (l0.length : Int) > 1048576 then (F1.j0 k l0 l1 true) else (F1.j0 k l0 l1 (decide ((l1.length : Int) > 1048576))))=some r:=h;clear h;have HC3:=zh H;clear H
 go_enter Try.func3,Try.ntmps3
 go_upto_region 1 with (fail)
 go_cut [36] (fun v36 wc => ∃ (kq : Nat) (x36_2 : Bool),v36 = .bool x36_2∧Aside0 (F1.j0 kq l0 l1 x36_2=some r)∧Aside0 (kq≤k)∧Aside0 (Below w.heap.size w wc))
 case first =>
  have H:=HC3.out;clear HC3
  by_cases c4 : (l0.length : Int) > 1048576
  ·
   rw [if_pos c4] at H
   have c4b0 : decide (1048576<(l0.length : Int))=true:=decide_eq_true c4;have c4b1 : decide (1048576<l0.length)=true:=decide_eq_true jH;clear c4;(first|rw [c4b0]|(simp only [zG,zH];rw [c4b0])|skip);have H':=zh H;clear H
   go_wp2
   go_meet
   case rel=>exact ⟨_,(true),jE,H',⟨jg⟩,⟨jD⟩⟩
  rw [if_neg c4] at H;have c4b0 : decide (1048576<(l0.length : Int))=false:=decide_eq_false c4;have c4b1 : decide (1048576<l0.length)=false:=decide_eq_false jH;clear c4;(first|rw [c4b0]|(simp only [zG,zH];rw [c4b0])|skip);have H':=zh H;clear H
  go_wp2
  go_meet
  case rel=>exact ⟨_,(decide ((l1.length : Int) > 1048576)),jE,H',⟨jg⟩,⟨jD⟩⟩
 case rest =>
  clear HC3
  try clear c1
  try clear p2
  try clear c3 c4 c4b0 c4b1
  obtain ⟨kq,x36_2,rfl,HA,HJ2,HB⟩:=hcut
  cases kq with
  | zero=>exact absurd HA.out (by simp [F1.j0])
  | succ kj2 =>
   have H:=HA.out;clear HA;simp only [F1.j0] at H
   by_cases c5 : x36_2=true
   ·
    subst c5
    rw [if_pos rfl] at H;obtain rfl:=zU H
    go_wp2
    go_ret
    exact ⟨jG,jD⟩
   replace c5:=yb.mpr c5;subst c5;rw [if_neg (show ¬ (false=true) by decide)] at H;replace H:=zT.mp H;obtain ⟨⟨t627,t628,t629⟩,A60,H⟩:=H;have A6:=zh A60;clear A60;replace H:=zT.mp H;obtain ⟨⟨t631,t632,t633⟩,A70,H⟩:=H;have A7:=zh A70;clear A70;replace H:=zT.mp H;obtain ⟨⟨t635,t636⟩,A80,H⟩:=H;have A8:=zh A80;clear A80
   by_cases c9 : t636=0
   ·
    rw [if_pos c9] at H
    have c9b0 : (t636 == 0)=true:=ya.mpr c9;have c9b1 : (t636 != 0)=false:=zX.mpr c9;clear c9;replace H:=zT.mp H;obtain ⟨⟨t641,t642⟩,A100,H⟩:=H;have A10:=zh A100;clear A100;replace H:=zT.mp H;obtain ⟨⟨t643,t644⟩,A110,H⟩:=H;have A11:=zh A110;clear A110;replace H:=zT.mp H;obtain ⟨⟨t645,t646⟩,A120,H⟩:=H;have A12:=zh A120;clear A120;replace H:=zT.mp H;obtain ⟨⟨t647,t648⟩,A130,H⟩:=H;have A13:=zh A130;clear A130;replace H:=zT.mp H;obtain ⟨⟨t649,t650⟩,A140,H⟩:=H;have A14:=zh A140;clear A140;have HC15:=zh H;clear H
    go_upto_region 15 with (first|((with_reducible refine zJ (f:=4) rfl ?_);refine yj (some 38) rfl rfl Try.func4 jA rfl #[.slice A0 l0.length c0] rfl jB ?_;(with_reducible refine (F0e.calls kj2  _ _ l0 t627 t628 t629 _ ?side1 ?side2 A6.out).mono ?_);(case side1=>repeat (first|exact (Kd.C_below HR0.out HB.out)|(with_reducible refine Kd.C_alloc ?_ _)|(with_reducible refine Kd.C_drewN ?_ _)|(with_reducible refine Kd.C_drew ?_)));(case side2=>exact HC0.out);rintro e w16 ⟨rfl,hb⟩;refine ⟨_,rfl,?_⟩;replace HB:=zh (zC jD hb);(try clear hb);(try clear hb2);(try clear hk);(try clear hi))|((with_reducible refine zK (N:=5) rfl ?_);(try (refine yz (by rfl) ?_;dsimp only));refine zI ?hg (N:=5) ?hd (cs:=#[.int .i64 0,.int .i64 0,.string (⟨#[]⟩ : ByteArray)]) (t:=24) ?hr ?_;(case hd=>rfl);(case hg=>rfl);(case hr=>go_simp <;> rfl);intro gb630 hg w17 hbox hb;have BK630:=zh (hbox);have hH_:=cH jD hb hg;have GW630:=zh hH_.1;have GE630:=GW630;replace HB:=zh hH_.2;clear hb hbox hg hH_;obtain ⟨hcz18_0,hcz18_1,hcz18_2,hfz18_0,hfz18_1,hfz18_2⟩:=cB3 BK630.out)|((with_reducible refine zJ (f:=4) rfl ?_);refine yj (some 40) rfl rfl Try.func4 jA rfl #[.slice A1 l1.length c1] rfl jB ?_;(with_reducible refine (F0e.calls kj2  _ _ l1 t631 t632 t633 _ ?side1 ?side2 A7.out).mono ?_);(case side1=>exact Kd.C_below HR1.out jAf);(case side2=>exact HC1.out);rintro e w19 ⟨rfl,hb⟩;refine ⟨_,rfl,?_⟩;replace BK630:=zh (zD (g:=gb630) (o:=.cells #[.int .i64 t627,.int .i64 t628,.string t629] 24 (0,0)) jCI hb);replace HB:=zh (zC jAf hb);(try clear hb);(try clear hb2);(try clear hk);(try clear hi))|((with_reducible refine zK (N:=6) rfl ?_);(try (refine yz (by rfl) ?_;dsimp only));refine zI ?hg (N:=6) ?hd (cs:=#[.int .i64 0,.int .i64 0,.string (⟨#[]⟩ : ByteArray)]) (t:=24) ?hr ?_;(case hd=>rfl);(case hg=>rfl);(case hr=>go_simp <;> rfl);intro gb634 hg w20 hbox hb;have BK634:=zh (hbox);have hH_:=cH jAf hb hg;have GW634:=zh hH_.1;have GE634:=GW634;replace HB:=zh hH_.2;have NB630_634:=zh ((jCJ : gb630≠gb634));have NB634_630:=zh NB630_634.out.symm;replace BK630:=zh (cD BK630.out jY hb);clear hb hbox hg hH_;have hnb21:=NB634_630.out;have hnc21:=NB630_634.out;obtain ⟨hcz22_0,hcz22_1,hcz22_2,hfz22_0,hfz22_1,hfz22_2⟩:=cB3 BK634.out;obtain ⟨hcz23_0,hcz23_1,hcz23_2,hfz23_0,hfz23_1,hfz23_2⟩:=cB3 BK630.out)|((with_reducible refine zJ (f:=5) rfl ?_);refine yj (some 44) rfl rfl Try.func5 jA rfl #[.agg #[.int .i64 t627,.int .i64 t628,.string t629],.agg #[.int .i64 t631,.int .i64 t632,.string t633]] rfl jB ?_;(with_reducible refine (F0l.calls kj2  t627 t628 t629 t631 t632 t633 t635 t636 _ A8.out).mono ?_);rintro e w24 ⟨rfl,hb⟩;refine ⟨_,rfl,?_⟩;replace BK630:=zh (cD BK630.out jCK hb);replace BK634:=zh (zD (g:=gb634) (o:=.cells #[.int .i64 t631,.int .i64 t632,.string t633] 24 (0,0)) jCL hb);replace HB:=zh (zC jU hb);(try clear hb);(try clear hb2);(try clear hk);(try clear hi);obtain ⟨hcz25_0,hcz25_1,hcz25_2,hfz25_0,hfz25_1,hfz25_2⟩:=cB3 BK630.out)|((with_reducible refine zJ (f:=6) rfl ?_);refine yj (some 71) rfl rfl Try.func6 jA rfl #[.agg #[.int .i64 t627,.int .i64 t628,.string t629],.bool false] rfl jB ?_;(with_reducible refine (Fd.calls kj2  t627 t628 t629 false t641 t642 _ A10.out).mono ?_);rintro e w26 ⟨rfl,hb⟩;refine ⟨_,rfl,?_⟩;replace BK630:=zh (cD BK630.out jY hb);replace BK634:=zh (cD BK634.out jl hb);replace HB:=zh (zC jU hb);(try clear hb);(try clear hb2);(try clear hk);(try clear hi);obtain ⟨hcz27_0,hcz27_1,hcz27_2,hfz27_0,hfz27_1,hfz27_2⟩:=cB3 BK634.out)|((with_reducible refine zJ (f:=6) rfl ?_);refine yj (some 76) rfl rfl Try.func6 jA rfl #[.agg #[.int .i64 t631,.int .i64 t632,.string t633],.bool false] rfl jB ?_;(with_reducible refine (Fd.calls kj2  t631 t632 t633 false t643 t644 _ A11.out).mono ?_);rintro e w28 ⟨rfl,hb⟩;refine ⟨_,rfl,?_⟩;replace BK630:=zh (cD BK630.out jY hb);replace BK634:=zh (cD BK634.out jl hb);replace HB:=zh (zC jU hb);(try clear hb);(try clear hb2);(try clear hk);(try clear hi);obtain ⟨hcz29_0,hcz29_1,hcz29_2,hfz29_0,hfz29_1,hfz29_2⟩:=cB3 BK630.out)|((with_reducible refine zJ (f:=6) rfl ?_);refine yj (some 81) rfl rfl Try.func6 jA rfl #[.agg #[.int .i64 t627,.int .i64 t628,.string t629],.bool true] rfl jB ?_;(with_reducible refine (Fd.calls kj2  t627 t628 t629 true t645 t646 _ A12.out).mono ?_);rintro e w30 ⟨rfl,hb⟩;refine ⟨_,rfl,?_⟩;replace BK630:=zh (cD BK630.out jY hb);replace BK634:=zh (cD BK634.out jl hb);replace HB:=zh (zC jU hb);(try clear hb);(try clear hb2);(try clear hk);(try clear hi);obtain ⟨hcz31_0,hcz31_1,hcz31_2,hfz31_0,hfz31_1,hfz31_2⟩:=cB3 BK634.out)|((with_reducible refine zJ (f:=6) rfl ?_);refine yj (some 86) rfl rfl Try.func6 jA rfl #[.agg #[.int .i64 t631,.int .i64 t632,.string t633],.bool true] rfl jB ?_;(with_reducible refine (Fd.calls kj2  t631 t632 t633 true t647 t648 _ A13.out).mono ?_);rintro e w32 ⟨rfl,hb⟩;refine ⟨_,rfl,?_⟩;replace BK630:=zh (cD BK630.out jY hb);replace BK634:=zh (cD BK634.out jl hb);replace HB:=zh (zC jU hb);(try clear hb);(try clear hb2);(try clear hk);(try clear hi);obtain ⟨hcz33_0,hcz33_1,hcz33_2,hfz33_0,hfz33_1,hfz33_2⟩:=cB3 BK630.out)|((with_reducible refine zJ (f:=7) rfl ?_);refine yj (some 91) rfl rfl Try.func7 jA rfl #[.agg #[.int .i64 t627,.int .i64 t628,.string t629],.bool false] rfl jB ?_;(with_reducible refine (F0f.calls kj2  t627 t628 t629 false t649 t650 _ A14.out).mono ?_);rintro e w34 ⟨rfl,hb⟩;refine ⟨_,rfl,?_⟩;replace BK630:=zh (cD BK630.out jY hb);replace BK634:=zh (cD BK634.out jl hb);replace HB:=zh (zC jU hb);(try clear hb);(try clear hb2);(try clear hk);(try clear hi)))
    (try simp only [Act.put,zi,zj,zk])
    go_cut [136] (fun v136 wc => ∃ (kq : Nat) (x136_14 : Bool),v136 = .bool x136_14∧Aside0 (F1.j1 kq t635 t641 t643 x136_14=some r)∧Aside0 (kq≤kj2)∧Aside0 (wc.heap[gb630]? = some (.cells #[.int .i64 t627,.int .i64 t628,.string t629] 24 (0,0)))∧Aside0 (wc.heap[gb634]? = some (.cells #[.int .i64 t631,.int .i64 t632,.string t633] 24 (0,0)))∧Aside0 (Below w.heap.size w wc))
    case first =>
     as_aux_lemma =>
      have H:=HC15.out;clear HC15
      by_cases c35 : t642=0
      ·
       rw [if_pos c35] at H
       have c35b0 : (t642 == 0)=true:=ya.mpr c35;have c35b1 : (t642 != 0)=false:=zX.mpr c35;clear c35;(first|rw [c35b0]|(simp only [zG,zH];rw [c35b0])|skip)
       by_cases c36 : t644=0
       ·
        rw [if_pos c36] at H
        have c36b0 : (t644 == 0)=true:=ya.mpr c36;have c36b1 : (t644 != 0)=false:=zX.mpr c36;clear c36
        by_cases c37 : t646=0
        ·
         rw [if_pos c37] at H
         have c37b0 : (t646 == 0)=true:=ya.mpr c37;have c37b1 : (t646 != 0)=false:=zX.mpr c37;clear c37
         by_cases c38 : t648=0
         ·
          rw [if_pos c38] at H
          have c38b0 : (t648 == 0)=true:=ya.mpr c38;have c38b1 : (t648 != 0)=false:=zX.mpr c38;clear c38
          by_cases c39 : t641.toList=t649.toList
          ·
           rw [if_pos c39] at H
           have c39b0 : (t641.toList == t649.toList)=true:=ya.mpr c39;have c39b1 : (t641.toList != t649.toList)=false:=zX.mpr c39;clear c39
           by_cases c40 : ((decide (t635<0)) != (Op.bytesLess t641.toList t643.toList))=true
           ·
            rw [if_pos c40] at H
            have c40b0 : ((decide (t635<0)) != (Op.bytesLess t641.toList t643.toList))=true:=c40;(try (have c40b1 : decide ((decide (t635<0))=(Op.bytesLess t641.toList t643.toList))=false:=by simpa using c40));(try (have c40b2 : ((decide (t635<0)) == (Op.bytesLess t641.toList t643.toList))=false:=by simpa using c40));(try (have c40b3 : ¬ ((decide (t635<0))=(Op.bytesLess t641.toList t643.toList)):=by simpa using c40));clear c40;have H':=zh H;clear H
            go_wp2
            go_meet
            case rel=>exact ⟨_,(true),jE,H',⟨jAp⟩,⟨jY⟩,⟨jl⟩,⟨jU⟩⟩
           rw [if_neg c40] at H;have c40b0 : ((decide (t635<0)) != (Op.bytesLess t641.toList t643.toList))=false:=by simpa using c40
           (try (have c40b1 : decide ((decide (t635<0))=(Op.bytesLess t641.toList t643.toList))=true:=by simpa using c40));(try (have c40b2 : ((decide (t635<0)) == (Op.bytesLess t641.toList t643.toList))=true:=by simpa using c40));clear c40
           by_cases c41 : ((decide (t635<0)) != (Op.bytesLess t647.toList t645.toList))=true
           ·
            rw [if_pos c41] at H
            have c41b0 : ((decide (t635<0)) != (Op.bytesLess t647.toList t645.toList))=true:=c41;(try (have c41b1 : decide ((decide (t635<0))=(Op.bytesLess t647.toList t645.toList))=false:=by simpa using c41));(try (have c41b2 : ((decide (t635<0)) == (Op.bytesLess t647.toList t645.toList))=false:=by simpa using c41));(try (have c41b3 : ¬ ((decide (t635<0))=(Op.bytesLess t647.toList t645.toList)):=by simpa using c41));clear c41;have H':=zh H;clear H
            go_wp2
            go_meet
            case rel=>exact ⟨_,(true),jE,H',⟨jAp⟩,⟨jY⟩,⟨jl⟩,⟨jU⟩⟩
           rw [if_neg c41] at H;have c41b0 : ((decide (t635<0)) != (Op.bytesLess t647.toList t645.toList))=false:=by simpa using c41
           (try (have c41b1 : decide ((decide (t635<0))=(Op.bytesLess t647.toList t645.toList))=true:=by simpa using c41));(try (have c41b2 : ((decide (t635<0)) == (Op.bytesLess t647.toList t645.toList))=true:=by simpa using c41));clear c41;have H':=zh H;clear H
           go_wp2
           go_meet
           case rel=>exact ⟨_,(((t635 == 0) != (t641.toList == t643.toList))),jE,H',⟨jAp⟩,⟨jY⟩,⟨jl⟩,⟨jU⟩⟩
          rw [if_neg c39] at H;have c39b0 : (t641.toList == t649.toList)=false:=zY.mpr c39;have c39b1 : (t641.toList != t649.toList)=true:=zZ.mpr c39;have H':=zh H;clear H
          go_wp2
          go_meet
          case rel=>exact ⟨_,(true),jE,H',⟨jAp⟩,⟨jY⟩,⟨jl⟩,⟨jU⟩⟩
         rw [if_neg c38] at H;have c38b0 : (t648 == 0)=false:=zY.mpr c38;have c38b1 : (t648 != 0)=true:=zZ.mpr c38;have H':=zh H;clear H
         go_wp2
         go_meet
         case rel=>exact ⟨_,(true),jE,H',⟨jAp⟩,⟨jY⟩,⟨jl⟩,⟨jU⟩⟩
        rw [if_neg c37] at H;have c37b0 : (t646 == 0)=false:=zY.mpr c37;have c37b1 : (t646 != 0)=true:=zZ.mpr c37;have H':=zh H;clear H
        go_wp2
        go_meet
        case rel=>exact ⟨_,(true),jE,H',⟨jAp⟩,⟨jY⟩,⟨jl⟩,⟨jU⟩⟩
       rw [if_neg c36] at H;have c36b0 : (t644 == 0)=false:=zY.mpr c36;have c36b1 : (t644 != 0)=true:=zZ.mpr c36;have H':=zh H;clear H
       go_wp2
       go_meet
       case rel=>exact ⟨_,(true),jE,H',⟨jAp⟩,⟨jY⟩,⟨jl⟩,⟨jU⟩⟩
      rw [if_neg c35] at H;have c35b0 : (t642 == 0)=false:=zY.mpr c35;have c35b1 : (t642 != 0)=true:=zZ.mpr c35;(first|rw [c35b0]|(simp only [zG,zH];rw [c35b0])|skip);have H':=zh H;clear H
      go_wp2
      go_meet
      case rel=>exact ⟨_,(true),jE,H',⟨jAp⟩,⟨jY⟩,⟨jl⟩,⟨jU⟩⟩
    case rest =>
     clear HC15
     try clear c1 c2
     try clear p2
     try clear c3 c4 c4b0 c4b1 c5 c6 c7 c9 c9b0 c9b1 c21 c35 c35b0 c35b1 c36 c36b0 c36b1 c37 c37b0 c37b1 c38 c38b0 c38b1 c39 c39b0 c39b1 c40 c40b0 c40b1 c40b2 c41 c41b0 c41b1 c41b2
     try clear hcz18_0 hcz18_1 hcz18_2
     try clear hcz22_0 hcz22_1 hcz22_2
     try clear hcz23_0 hcz23_1 hcz23_2
     try clear hcz25_0 hcz25_1 hcz25_2
     try clear hcz27_0 hcz27_1 hcz27_2
     try clear hcz29_0 hcz29_1 hcz29_2
     try clear hcz31_0 hcz31_1 hcz31_2
     try clear hcz33_0 hcz33_1 hcz33_2
     try clear hfz18_0 hfz18_1 hfz18_2
     try clear hfz22_0 hfz22_1 hfz22_2
     try clear hfz23_0 hfz23_1 hfz23_2
     try clear hfz25_0 hfz25_1 hfz25_2
     try clear hfz27_0 hfz27_1 hfz27_2
     try clear hfz29_0 hfz29_1 hfz29_2
     try clear hfz31_0 hfz31_1 hfz31_2
     try clear hfz33_0 hfz33_1 hfz33_2
     try clear p2
     obtain ⟨kq,x136_14,rfl,HA,HJ14,BK630,BK634,HB⟩:=hcut
     cases kq with
     | zero=>exact absurd HA.out (by simp [F1.j1])
     | succ kj14 =>
      have H:=HA.out;clear HA;simp only [F1.j1] at H
      by_cases c42 : x136_14=true
      ·
       subst c42
       have H1 : (some false)=some r:=by rw [if_pos rfl] at H;exact H
       exact absurd H1 jAg
      replace c42:=yb.mpr c42;subst c42;rw [if_neg (show ¬ (false=true) by decide)] at H;have HC43:=zh H;clear H
      go_upto_region 17 with (fail)
      go_cut [153] (fun v153 wc => ∃ (kq : Nat) (x153_42 : Bool),v153 = .bool x153_42∧Aside0 (F1.j2 kq t641 t643 x153_42=some r)∧Aside0 (kq≤kj14)∧Aside0 (wc.heap[gb630]? = some (.cells #[.int .i64 t627,.int .i64 t628,.string t629] 24 (0,0)))∧Aside0 (wc.heap[gb634]? = some (.cells #[.int .i64 t631,.int .i64 t632,.string t633] 24 (0,0)))∧Aside0 (Below w.heap.size w wc))
      case first =>
       as_aux_lemma =>
        have H:=HC43.out;clear HC43
        by_cases c44 : t635=0
        ·
         rw [if_pos c44] at H
         have c44b0 : (t635 == 0)=true:=ya.mpr c44;have c44b1 : (t635 != 0)=false:=zX.mpr c44;clear c44;(first|rw [c44b0]|(simp only [zG,zH];rw [c44b0])|skip);have H':=zh H;clear H
         go_wp2
         go_meet
         case rel=>exact ⟨_,(false),jE,H',⟨jCM⟩,⟨jY⟩,⟨jl⟩,⟨jU⟩⟩
        rw [if_neg c44] at H;have c44b0 : (t635 == 0)=false:=zY.mpr c44;have c44b1 : (t635 != 0)=true:=zZ.mpr c44;(first|rw [c44b0]|(simp only [zG,zH];rw [c44b0])|skip)
        by_cases c45 : (t641.size : Int)≤(t643.size : Int)
        ·
         rw [if_pos c45] at H
         have c45b0 : decide ((t641.size : Int)≤(t643.size : Int))=true:=decide_eq_true c45;have c45b1 : decide (t641.size≤t643.size)=true:=decide_eq_true (zW.mp c45);clear c45
         by_cases c46 : 0≤(t641.size : Int)
         ·
          rw [if_pos c46] at H
          have c46b0:=eq_true c46;have c46b1 : decide (0≤(t641.size : Int))=true:=decide_eq_true c46;clear c46;have c47b0:=eq_true (zy jF : (t641.size : Int)≤(t643.size : Int));have H':=zh H;clear H
          go_wp2
          go_meet
          case rel=>exact ⟨_,(((t643.extract 0 ((t641.size : Int) : Int).toNat).toList == t641.toList)),jE,H',⟨jCM⟩,⟨jY⟩,⟨jl⟩,⟨jU⟩⟩
         rw [if_neg c46] at H;exact absurd H (by simp)
        rw [if_neg c45] at H;have c45b0 : decide ((t641.size : Int)≤(t643.size : Int))=false:=decide_eq_false c45;have c45b1 : decide (t641.size≤t643.size)=false:=decide_eq_false (fun h=>c45 (zW.mpr h));clear c45;have H':=zh H;clear H
        go_wp2
        go_meet
        case rel=>exact ⟨_,(false),jE,H',⟨jCM⟩,⟨jY⟩,⟨jl⟩,⟨jU⟩⟩
      case rest =>
       as_aux_lemma =>
        clear HC43
        try clear c1 c2
        try clear p2
        try clear c3 c4 c4b0 c4b1 c5 c6 c7 c9 c9b0 c9b1 c21 c35 c35b0 c35b1 c36 c36b0 c36b1 c37 c37b0 c37b1 c38 c38b0 c38b1 c39 c39b0 c39b1 c40 c40b0 c40b1 c40b2 c41 c41b0 c41b1 c41b2 c42 c44 c44b0 c44b1 c45 c45b0 c45b1 c46 c46b0 c46b1 c47 c47b0
        try clear hcz18_0 hcz18_1 hcz18_2
        try clear hcz22_0 hcz22_1 hcz22_2
        try clear hcz23_0 hcz23_1 hcz23_2
        try clear hcz25_0 hcz25_1 hcz25_2
        try clear hcz27_0 hcz27_1 hcz27_2
        try clear hcz29_0 hcz29_1 hcz29_2
        try clear hcz31_0 hcz31_1 hcz31_2
        try clear hcz33_0 hcz33_1 hcz33_2
        try clear hfz18_0 hfz18_1 hfz18_2
        try clear hfz22_0 hfz22_1 hfz22_2
        try clear hfz23_0 hfz23_1 hfz23_2
        try clear hfz25_0 hfz25_1 hfz25_2
        try clear hfz27_0 hfz27_1 hfz27_2
        try clear hfz29_0 hfz29_1 hfz29_2
        try clear hfz31_0 hfz31_1 hfz31_2
        try clear hfz33_0 hfz33_1 hfz33_2
        try clear p2
        obtain ⟨kq,x153_42,rfl,HA,HJ42,BK630,BK634,HB⟩:=hcut
        cases kq with
        | zero=>exact absurd HA.out (by simp [F1.j2])
        | succ kj42 =>
         have H:=HA.out;clear HA;simp only [F1.j2] at H
         by_cases c48 : x153_42=true
         ·
          subst c48
          have H1 : (some false)=some r:=by rw [if_pos rfl] at H;exact H
          exact absurd H1 jAg
         replace c48:=yb.mpr c48;subst c48;rw [if_neg (show ¬ (false=true) by decide)] at H;obtain ⟨y651,hy651⟩ : ∃ y_ : List ByteArray,y_=(([t641,t643] : List ByteArray)):=⟨_,rfl⟩;replace H : ((Fq.f kj42 y651).bind fun bt654=>((Fh.f kj42 bt654.1 2).bind fun bt656=>((Fh.f kj42 bt654.1 3).bind fun bt660=>(if bt654.2=0 then (if t641.size+t643.size≤9223372036854775807 then (if bt654.1.toList=(t641++t643).toList then (if bt656.2=0 then (if (bt656.1.length : Int)=2 then (if 0<(bt656.1.length : Int) then (if (rdOf ByteArray.empty bt656.1 0).toList=t641.toList then (if 1<(bt656.1.length : Int) then (if (rdOf ByteArray.empty bt656.1 1).toList=t643.toList then (some (bt660.2 == 3)) else (some false)) else (none)) else (some false)) else (none)) else (some false)) else (some false)) else (some false)) else (none)) else (some false)))))=some r:=by first|(rw [hy651];with_reducible exact H)|(have H2_:=(Option.bind_some _ _).symm.trans H;rw [hy651];with_reducible exact H2_)|(have H2_:=(Option.bind_some _ _).symm.trans H;with_reducible exact H2_)|with_reducible exact H|(rw [hy651];exact H)|exact H
         have Ny651:=zh hy651;clear hy651;replace H:=zT.mp H;obtain ⟨⟨t654,t655⟩,A490,H⟩:=H;have A49:=zh A490;clear A490;replace H:=zT.mp H;obtain ⟨⟨t656,t657⟩,A500,H⟩:=H;have A50:=zh A500;clear A500;replace H:=zT.mp H;obtain ⟨⟨t660,t661⟩,A510,H⟩:=H;have A51:=zh A510;clear A510
         by_cases c52 : t655=0
         ·
          rw [if_pos c52] at H
          have c52b0 : (t655 == 0)=true:=ya.mpr c52;have c52b1 : (t655 != 0)=false:=zX.mpr c52;clear c52
          by_cases c53 : t641.size+t643.size≤9223372036854775807
          ·
           rw [if_pos c53] at H
           have c53b0:=eq_true c53;have c53b1 : decide (t641.size+t643.size≤9223372036854775807)=true:=decide_eq_true c53
           try have c53b2 : (9223372036854775807<t641.size+t643.size)=False:=eq_false (Nat.not_lt.2 c53)
           by_cases c54 : t654.toList=(t641++t643).toList
           ·
            rw [if_pos c54] at H
            have c54b0 : (t654.toList == (t641++t643).toList)=true:=ya.mpr c54;have c54b1 : (t654.toList != (t641++t643).toList)=false:=zX.mpr c54;clear c54
            by_cases c55 : t657=0
            ·
             rw [if_pos c55] at H
             have c55b0 : (t657 == 0)=true:=ya.mpr c55;have c55b1 : (t657 != 0)=false:=zX.mpr c55;clear c55
             by_cases c56 : (t656.length : Int)=2
             ·
              rw [if_pos c56] at H
              have c56b0 : ((t656.length : Int) == 2)=true:=ya.mpr c56;have c56b1 : ((t656.length : Int) != 2)=false:=zX.mpr c56;clear c56
              by_cases c57 : 0<(t656.length : Int)
              ·
               rw [if_pos c57] at H
               have c57b0 : decide (0<(t656.length : Int))=true:=decide_eq_true c57;have c57b1 : decide (0<t656.length)=true:=decide_eq_true jH;clear c57
               by_cases c58 : (rdOf ByteArray.empty t656 0).toList=t641.toList
               ·
                rw [if_pos c58] at H
                have c58b0 : ((rdOf ByteArray.empty t656 0).toList == t641.toList)=true:=ya.mpr c58;have c58b1 : ((rdOf ByteArray.empty t656 0).toList != t641.toList)=false:=zX.mpr c58;clear c58
                by_cases c59 : 1<(t656.length : Int)
                ·
                 rw [if_pos c59] at H
                 have c59b0 : decide (1<(t656.length : Int))=true:=decide_eq_true c59;have c59b1 : decide (1<t656.length)=true:=decide_eq_true jH;clear c59
                 by_cases c60 : (rdOf ByteArray.empty t656 1).toList=t643.toList
                 ·
                  rw [if_pos c60] at H
                  have c60b0 : ((rdOf ByteArray.empty t656 1).toList == t643.toList)=true:=ya.mpr c60;have c60b1 : ((rdOf ByteArray.empty t656 1).toList != t643.toList)=false:=zX.mpr c60;clear c60;obtain rfl:=zU H
                  go_wp2_with (first|((with_reducible refine zK (N:=157) rfl ?_);(try (refine yz (by rfl) ?_;dsimp only));refine Kd.R_lit Kd.string _ 9 ?hg (N:=157) ?hd (xs:=([t641,t643] : List ByteArray)) (inner:=[.string t641,.string t643]) (ok:=fun _=>True) (okp:=fun _=>True) ?hr ?hp (fun _ hk=>hk) trivial (Below.refl _ _) (ye _) (by simp) ?_;(case hd=>rfl);(case hg=>rfl);(case hr=>go_simp <;> rfl);(case hp=>exact (Reps.one (show Kd.M Kd.string _ _ _ t641 [.string t641] from rfl) (Reps.one (show Kd.M Kd.string _ _ _ t643 [.string t643] from rfl) (Reps.none _ _))));intro v652 w61 ho62 hb hg_ hnew_;clear hg_ hnew_;(first|rw [← Ny651.out] at ho62|(simp only [Int.reduceToNat] at ho62;rw [← Ny651.out] at ho62));have HO653:=zh (yy ho62 (zB jU));replace BK630:=zh (cD BK630.out jY hb);replace BK634:=zh (cD BK634.out jl hb);replace HB:=zh (zC jU hb);clear hb ho62;obtain ⟨Ao63,co63,eo63⟩:=yk HO653.out;subst eo63)|((with_reducible refine zJ (f:=8) rfl ?_);refine yj (some 158) rfl rfl Try.func8 jA rfl #[.slice Ao63 y651.length co63] rfl jB ?_;(with_reducible refine (Fq.calls kj42  _ _ y651 t654 t655 _ ?side1 ?side2 A49.out).mono ?_);(case side1=>repeat (first|exact (yh HO653.out).2.2|(with_reducible refine Kd.C_alloc ?_ _)|(with_reducible refine Kd.C_drewN ?_ _)|(with_reducible refine Kd.C_drew ?_)));(case side2=>exact (yh HO653.out).2.1);rintro e w64 ⟨rfl,hb⟩;refine ⟨_,rfl,?_⟩;replace HO653:=zh (yg jBN hb);replace BK630:=zh (cD BK630.out jY hb);replace BK634:=zh (cD BK634.out jl hb);replace HB:=zh (zC jU hb);(try clear hb);(try clear hb2);(try clear hk);(try clear hi))|((with_reducible refine zJ (f:=9) rfl ?_);refine yj (some 163) rfl rfl Try.func9 jA rfl #[.string t654,.int .i64 2] rfl jB ?_;(with_reducible refine (Fh.calls kj42  t654 2 t656 t657 _ A50.out).mono ?_);rintro e w65 ⟨v658,rfl,ho0,hb⟩;refine ⟨_,rfl,?_⟩;have HO659:=zh (yy (Kd.R_new' ho0 (Kd.R_lt jBN)) (zB jU));replace HO653:=zh (Kd.R_elder' jBN (Kd.R_base ho0) hb);replace BK630:=zh (cD BK630.out jY hb);replace BK634:=zh (cD BK634.out jl hb);replace HB:=zh (zC jU hb);(try clear hb);(try clear hb2);(try clear hk);(try clear hi);(try clear ho0))|((with_reducible refine zJ (f:=9) rfl ?_);refine yj (some 168) rfl rfl Try.func9 jA rfl #[.string t654,.int .i64 3] rfl jB ?_;(with_reducible refine (Fh.calls kj42  t654 3 t660 t661 _ A51.out).mono ?_);rintro e w66 ⟨v662,rfl,ho0,hb⟩;refine ⟨_,rfl,?_⟩;have HO663:=zh (yy (Kd.R_new' (Kd.R_new' ho0 (Kd.R_lt jBN)) (Kd.R_lt jDA)) (zB jU));replace HO653:=zh (Kd.R_elder' jBN (Kd.R_base ho0) hb);replace HO659:=zh (Kd.R_elder' jDA (Kd.R_base ho0) hb);replace BK630:=zh (cD BK630.out jY hb);replace BK634:=zh (cD BK634.out jl hb);replace HB:=zh (zC jU hb);(try clear hb);(try clear hb2);(try clear hk);(try clear hi);(try clear ho0);obtain ⟨Ao67,co67,eo67⟩:=yk HO659.out;subst eo67;have p664 : 0≤(0 : Int):=jH;have q664 : 0<(t656.length : Int):=zy jF;obtain ⟨ad664,e664,hx664_0⟩:=Kd.at_string (yh HO659.out).2.2 0 p664 q664;cases e664;have qi664 : (0<t656.length)=True:=eq_true jH;(try rw [show ((0 : Int)).toNat=0 from rfl] at hx664_0);(try rw [Addr.add_zero'] at hx664_0);replace p664:=eq_true p664;replace q664:=eq_true q664;have p665 : 0≤(1 : Int):=jH;have q665 : 1<(t656.length : Int):=zy jF;obtain ⟨ad665,e665,hx665_0⟩:=Kd.at_string (yh HO659.out).2.2 1 p665 q665;obtain rfl : ad664=ad665:=(by injection e665);(try simp only [show (1 : Int).toNat=1 from rfl,Nat.reduceMul,Nat.reduceEqDiff,Go.Addr.add,↓reduceIte] at hx665_0);have qi665 : (1<t656.length)=True:=eq_true jH;(try rw [show ((1 : Int)).toNat=1 from rfl] at hx665_0);replace p665:=eq_true p665;replace q665:=eq_true q665))
                  go_ret
                  exact ⟨jG,jU⟩
                 rw [if_neg c60] at H;have c60b0 : ((rdOf ByteArray.empty t656 1).toList == t643.toList)=false:=zY.mpr c60;have c60b1 : ((rdOf ByteArray.empty t656 1).toList != t643.toList)=true:=zZ.mpr c60;exact absurd (zU H) jAg
                rw [if_neg c59] at H;exact absurd H (by simp)
               rw [if_neg c58] at H;have c58b0 : ((rdOf ByteArray.empty t656 0).toList == t641.toList)=false:=zY.mpr c58;have c58b1 : ((rdOf ByteArray.empty t656 0).toList != t641.toList)=true:=zZ.mpr c58;exact absurd (zU H) jAg
              rw [if_neg c57] at H;exact absurd H (by simp)
             rw [if_neg c56] at H;have c56b0 : ((t656.length : Int) == 2)=false:=zY.mpr c56;have c56b1 : ((t656.length : Int) != 2)=true:=zZ.mpr c56;exact absurd (zU H) jAg
            rw [if_neg c55] at H;have c55b0 : (t657 == 0)=false:=zY.mpr c55;have c55b1 : (t657 != 0)=true:=zZ.mpr c55;exact absurd (zU H) jAg
           rw [if_neg c54] at H;have c54b0 : (t654.toList == (t641++t643).toList)=false:=zY.mpr c54;have c54b1 : (t654.toList != (t641++t643).toList)=true:=zZ.mpr c54;exact absurd (zU H) jAg
          rw [if_neg c53] at H;exact absurd H (by simp)
         rw [if_neg c52] at H;have c52b0 : (t655 == 0)=false:=zY.mpr c52;have c52b1 : (t655 != 0)=true:=zZ.mpr c52;exact absurd (zU H) jAg
   rw [if_neg c9] at H;have c9b0 : (t636 == 0)=false:=zY.mpr c9;have c9b1 : (t636 != 0)=true:=zZ.mpr c9;replace H:=zT.mp H;obtain ⟨⟨t637,t638⟩,A1070,H⟩:=H;have A107:=zh A1070;clear A1070;replace H:=zT.mp H;obtain ⟨⟨t639,t640⟩,A1080,H⟩:=H;have A108:=zh A1080;clear A1080
   by_cases c109 : t636=1
   ·
    rw [if_pos c109] at H
    have c109b0 : (t636 == 1)=true:=ya.mpr c109;have c109b1 : (t636 != 1)=false:=zX.mpr c109;clear c109
    by_cases c110 : t638=1
    ·
     rw [if_pos c110] at H
     have c110b0 : (t638 == 1)=true:=ya.mpr c110;have c110b1 : (t638 != 1)=false:=zX.mpr c110;clear c110;obtain rfl:=zU H
     go_wp2_with (first|((with_reducible refine zJ (f:=4) rfl ?_);refine yj (some 38) rfl rfl Try.func4 jA rfl #[.slice A0 l0.length c0] rfl jB ?_;(with_reducible refine (F0e.calls kj2  _ _ l0 t627 t628 t629 _ ?side1 ?side2 A6.out).mono ?_);(case side1=>repeat (first|exact (Kd.C_below HR0.out HB.out)|(with_reducible refine Kd.C_alloc ?_ _)|(with_reducible refine Kd.C_drewN ?_ _)|(with_reducible refine Kd.C_drew ?_)));(case side2=>exact HC0.out);rintro e w111 ⟨rfl,hb⟩;refine ⟨_,rfl,?_⟩;replace HB:=zh (zC jD hb);(try clear hb);(try clear hb2);(try clear hk);(try clear hi))|((with_reducible refine zK (N:=5) rfl ?_);(try (refine yz (by rfl) ?_;dsimp only));refine zI ?hg (N:=5) ?hd (cs:=#[.int .i64 0,.int .i64 0,.string (⟨#[]⟩ : ByteArray)]) (t:=24) ?hr ?_;(case hd=>rfl);(case hg=>rfl);(case hr=>go_simp <;> rfl);intro gb630 hg w112 hbox hb;have BK630:=zh (hbox);have hH_:=cH jD hb hg;have GW630:=zh hH_.1;have GE630:=GW630;replace HB:=zh hH_.2;clear hb hbox hg hH_;obtain ⟨hcz113_0,hcz113_1,hcz113_2,hfz113_0,hfz113_1,hfz113_2⟩:=cB3 BK630.out)|((with_reducible refine zJ (f:=4) rfl ?_);refine yj (some 40) rfl rfl Try.func4 jA rfl #[.slice A1 l1.length c1] rfl jB ?_;(with_reducible refine (F0e.calls kj2  _ _ l1 t631 t632 t633 _ ?side1 ?side2 A7.out).mono ?_);(case side1=>exact Kd.C_below HR1.out jAf);(case side2=>exact HC1.out);rintro e w114 ⟨rfl,hb⟩;refine ⟨_,rfl,?_⟩;replace BK630:=zh (zD (g:=gb630) (o:=.cells #[.int .i64 t627,.int .i64 t628,.string t629] 24 (0,0)) jCI hb);replace HB:=zh (zC jAf hb);(try clear hb);(try clear hb2);(try clear hk);(try clear hi))|((with_reducible refine zK (N:=6) rfl ?_);(try (refine yz (by rfl) ?_;dsimp only));refine zI ?hg (N:=6) ?hd (cs:=#[.int .i64 0,.int .i64 0,.string (⟨#[]⟩ : ByteArray)]) (t:=24) ?hr ?_;(case hd=>rfl);(case hg=>rfl);(case hr=>go_simp <;> rfl);intro gb634 hg w115 hbox hb;have BK634:=zh (hbox);have hH_:=cH jAf hb hg;have GW634:=zh hH_.1;have GE634:=GW634;replace HB:=zh hH_.2;have NB630_634:=zh ((jCJ : gb630≠gb634));have NB634_630:=zh NB630_634.out.symm;replace BK630:=zh (cD BK630.out jY hb);clear hb hbox hg hH_;have hnb116:=NB634_630.out;have hnc116:=NB630_634.out;obtain ⟨hcz117_0,hcz117_1,hcz117_2,hfz117_0,hfz117_1,hfz117_2⟩:=cB3 BK634.out;obtain ⟨hcz118_0,hcz118_1,hcz118_2,hfz118_0,hfz118_1,hfz118_2⟩:=cB3 BK630.out)|((with_reducible refine zJ (f:=5) rfl ?_);refine yj (some 44) rfl rfl Try.func5 jA rfl #[.agg #[.int .i64 t627,.int .i64 t628,.string t629],.agg #[.int .i64 t631,.int .i64 t632,.string t633]] rfl jB ?_;(with_reducible refine (F0l.calls kj2  t627 t628 t629 t631 t632 t633 t635 t636 _ A8.out).mono ?_);rintro e w119 ⟨rfl,hb⟩;refine ⟨_,rfl,?_⟩;replace BK630:=zh (cD BK630.out jCK hb);replace BK634:=zh (zD (g:=gb634) (o:=.cells #[.int .i64 t631,.int .i64 t632,.string t633] 24 (0,0)) jCL hb);replace HB:=zh (zC jU hb);(try clear hb);(try clear hb2);(try clear hk);(try clear hi);obtain ⟨hcz120_0,hcz120_1,hcz120_2,hfz120_0,hfz120_1,hfz120_2⟩:=cB3 BK630.out)|((with_reducible refine zJ (f:=6) rfl ?_);refine yj (some 51) rfl rfl Try.func6 jA rfl #[.agg #[.int .i64 t627,.int .i64 t628,.string t629],.bool false] rfl jB ?_;(with_reducible refine (Fd.calls kj2  t627 t628 t629 false t637 t638 _ A107.out).mono ?_);rintro e w121 ⟨rfl,hb⟩;refine ⟨_,rfl,?_⟩;replace BK630:=zh (cD BK630.out jY hb);replace BK634:=zh (cD BK634.out jl hb);replace HB:=zh (zC jU hb);(try clear hb);(try clear hb2);(try clear hk);(try clear hi);obtain ⟨hcz122_0,hcz122_1,hcz122_2,hfz122_0,hfz122_1,hfz122_2⟩:=cB3 BK634.out)|((with_reducible refine zJ (f:=6) rfl ?_);refine yj (some 56) rfl rfl Try.func6 jA rfl #[.agg #[.int .i64 t631,.int .i64 t632,.string t633],.bool false] rfl jB ?_;(with_reducible refine (Fd.calls kj2  t631 t632 t633 false t639 t640 _ A108.out).mono ?_);rintro e w123 ⟨rfl,hb⟩;refine ⟨_,rfl,?_⟩;replace BK630:=zh (cD BK630.out jY hb);replace BK634:=zh (cD BK634.out jl hb);replace HB:=zh (zC jU hb);(try clear hb);(try clear hb2);(try clear hk);(try clear hi)))
     go_ret
     exact ⟨jG,jU⟩
    rw [if_neg c110] at H;have c110b0 : (t638 == 1)=false:=zY.mpr c110;have c110b1 : (t638 != 1)=true:=zZ.mpr c110;obtain rfl:=zU H
    go_wp2_with (first|((with_reducible refine zJ (f:=4) rfl ?_);refine yj (some 38) rfl rfl Try.func4 jA rfl #[.slice A0 l0.length c0] rfl jB ?_;(with_reducible refine (F0e.calls kj2  _ _ l0 t627 t628 t629 _ ?side1 ?side2 A6.out).mono ?_);(case side1=>repeat (first|exact (Kd.C_below HR0.out HB.out)|(with_reducible refine Kd.C_alloc ?_ _)|(with_reducible refine Kd.C_drewN ?_ _)|(with_reducible refine Kd.C_drew ?_)));(case side2=>exact HC0.out);rintro e w124 ⟨rfl,hb⟩;refine ⟨_,rfl,?_⟩;replace HB:=zh (zC jD hb);(try clear hb);(try clear hb2);(try clear hk);(try clear hi))|((with_reducible refine zK (N:=5) rfl ?_);(try (refine yz (by rfl) ?_;dsimp only));refine zI ?hg (N:=5) ?hd (cs:=#[.int .i64 0,.int .i64 0,.string (⟨#[]⟩ : ByteArray)]) (t:=24) ?hr ?_;(case hd=>rfl);(case hg=>rfl);(case hr=>go_simp <;> rfl);intro gb630 hg w125 hbox hb;have BK630:=zh (hbox);have hH_:=cH jD hb hg;have GW630:=zh hH_.1;have GE630:=GW630;replace HB:=zh hH_.2;clear hb hbox hg hH_;obtain ⟨hcz126_0,hcz126_1,hcz126_2,hfz126_0,hfz126_1,hfz126_2⟩:=cB3 BK630.out)|((with_reducible refine zJ (f:=4) rfl ?_);refine yj (some 40) rfl rfl Try.func4 jA rfl #[.slice A1 l1.length c1] rfl jB ?_;(with_reducible refine (F0e.calls kj2  _ _ l1 t631 t632 t633 _ ?side1 ?side2 A7.out).mono ?_);(case side1=>exact Kd.C_below HR1.out jAf);(case side2=>exact HC1.out);rintro e w127 ⟨rfl,hb⟩;refine ⟨_,rfl,?_⟩;replace BK630:=zh (zD (g:=gb630) (o:=.cells #[.int .i64 t627,.int .i64 t628,.string t629] 24 (0,0)) jCI hb);replace HB:=zh (zC jAf hb);(try clear hb);(try clear hb2);(try clear hk);(try clear hi))|((with_reducible refine zK (N:=6) rfl ?_);(try (refine yz (by rfl) ?_;dsimp only));refine zI ?hg (N:=6) ?hd (cs:=#[.int .i64 0,.int .i64 0,.string (⟨#[]⟩ : ByteArray)]) (t:=24) ?hr ?_;(case hd=>rfl);(case hg=>rfl);(case hr=>go_simp <;> rfl);intro gb634 hg w128 hbox hb;have BK634:=zh (hbox);have hH_:=cH jAf hb hg;have GW634:=zh hH_.1;have GE634:=GW634;replace HB:=zh hH_.2;have NB630_634:=zh ((jCJ : gb630≠gb634));have NB634_630:=zh NB630_634.out.symm;replace BK630:=zh (cD BK630.out jY hb);clear hb hbox hg hH_;have hnb129:=NB634_630.out;have hnc129:=NB630_634.out;obtain ⟨hcz130_0,hcz130_1,hcz130_2,hfz130_0,hfz130_1,hfz130_2⟩:=cB3 BK634.out;obtain ⟨hcz131_0,hcz131_1,hcz131_2,hfz131_0,hfz131_1,hfz131_2⟩:=cB3 BK630.out)|((with_reducible refine zJ (f:=5) rfl ?_);refine yj (some 44) rfl rfl Try.func5 jA rfl #[.agg #[.int .i64 t627,.int .i64 t628,.string t629],.agg #[.int .i64 t631,.int .i64 t632,.string t633]] rfl jB ?_;(with_reducible refine (F0l.calls kj2  t627 t628 t629 t631 t632 t633 t635 t636 _ A8.out).mono ?_);rintro e w132 ⟨rfl,hb⟩;refine ⟨_,rfl,?_⟩;replace BK630:=zh (cD BK630.out jCK hb);replace BK634:=zh (zD (g:=gb634) (o:=.cells #[.int .i64 t631,.int .i64 t632,.string t633] 24 (0,0)) jCL hb);replace HB:=zh (zC jU hb);(try clear hb);(try clear hb2);(try clear hk);(try clear hi);obtain ⟨hcz133_0,hcz133_1,hcz133_2,hfz133_0,hfz133_1,hfz133_2⟩:=cB3 BK630.out)|((with_reducible refine zJ (f:=6) rfl ?_);refine yj (some 51) rfl rfl Try.func6 jA rfl #[.agg #[.int .i64 t627,.int .i64 t628,.string t629],.bool false] rfl jB ?_;(with_reducible refine (Fd.calls kj2  t627 t628 t629 false t637 t638 _ A107.out).mono ?_);rintro e w134 ⟨rfl,hb⟩;refine ⟨_,rfl,?_⟩;replace BK630:=zh (cD BK630.out jY hb);replace BK634:=zh (cD BK634.out jl hb);replace HB:=zh (zC jU hb);(try clear hb);(try clear hb2);(try clear hk);(try clear hi);obtain ⟨hcz135_0,hcz135_1,hcz135_2,hfz135_0,hfz135_1,hfz135_2⟩:=cB3 BK634.out)|((with_reducible refine zJ (f:=6) rfl ?_);refine yj (some 56) rfl rfl Try.func6 jA rfl #[.agg #[.int .i64 t631,.int .i64 t632,.string t633],.bool false] rfl jB ?_;(with_reducible refine (Fd.calls kj2  t631 t632 t633 false t639 t640 _ A108.out).mono ?_);rintro e w136 ⟨rfl,hb⟩;refine ⟨_,rfl,?_⟩;replace BK630:=zh (cD BK630.out jY hb);replace BK634:=zh (cD BK634.out jl hb);replace HB:=zh (zC jU hb);(try clear hb);(try clear hb2);(try clear hk);(try clear hi)))
    go_ret
    exact ⟨jG,jU⟩
   rw [if_neg c109] at H;have c109b0 : (t636 == 1)=false:=zY.mpr c109;have c109b1 : (t636 != 1)=true:=zZ.mpr c109;exact absurd (zU H) jAg

end Go.Proofs.Ytdjnplkpahgnmaa.Q
end
section
namespace Go.Proofs.YtdjnplkpahgnmaaW.PrintOpen
open Go.RowKit Go.ChangeShapes Go.WideShapes Go.ChangeAt Go.Proofs.YtdjnplkpahgnmaaW.PrintWords
def Opens {α : Type} (P : Program) (d : Kd α) (t : TypeId) (good : α→Prop) : Prop :=
 ∀ (H : Type) (enc : TypeId×Value→H) (w : World) (base : Nat) (spare : Nat→Bool) (held : Bool) (fuel : Nat) (cs : List Value) (x : DataW H×List MemPlace),
  DataW.trod enc P w base spare held fuel t cs=some x → ∃ a,d.K w a cs∧good a
variable {P : Program}
theorem opens_int {t : TypeId} {k : IntKind} (ht : P.underlying t=some (.int k)) : Opens P (Kd.int k) t (fun n=>(Lit.int k n).wf=true):=by
 intro H enc w base spare held fuel cs x h;obtain ⟨n,hcs,_,hw⟩:=DataW.trod_int ht h;exact ⟨n,hcs,hw⟩
theorem opens_slice {α : Type} {t e : TypeId} {d : Kd α} {g : α→Prop} (ht : P.underlying t=some (.slice e)) (hc : P.cellsOf e=d.sz) (he : Opens P d e g) :
  Opens P (Kd.slice e d) t (fun l=>l.length≤9223372036854775807 ∧ ∀ x ∈ l,g x):=by
 intro H enc w base spare held fuel cs x h;rcases Deep.open_slice ht h with ⟨rfl,_⟩|⟨a,len,cap,m,n,D,Pl,rfl,_,hl,hm,hmm,_,hx⟩
 ·
  exact ⟨[],⟨none,0,rfl,Nat.le_refl _,rfl,by simp,fun h0=>absurd h0 (by simp)⟩,by simp,by simp⟩
 have hlm : len≤m:=by rw [hmm];split <;> omega
 have hall : ∀ i : Fin len,∃ v : α×List Value,w.cells? base (a.add (i.1*P.cellsOf e)) (P.cellsOf e)=some v.2∧d.K w v.1 v.2∧g v.1:=fun i=>by
  obtain ⟨cs',h1,h2⟩:=hx i.1 (by have:=i.2;omega);obtain ⟨a',hk,hg⟩:=he H enc w base spare held n cs' _ h2;exact ⟨(a',cs'),h1,hk,hg⟩
 obtain ⟨V,hV⟩:=Classical.axiomOfChoice hall;have hmax : len≤9223372036854775807:=by unfold maxLen at hm;omega
 have hlen : (List.ofFn fun i=>(V i).1).length=len:=List.length_ofFn;refine ⟨List.ofFn fun i=>(V i).1,⟨some a,cap,by rw [hlen],by rw [hlen];exact hl,rfl,by rw [hlen];exact hmax,fun _=>⟨a,rfl,?_⟩⟩,by rw [hlen];exact hmax,?_⟩
 ·
  intro j p hj
  have hjl : j<len:=by
   have:=(List.getElem?_eq_some_iff.1 hj).1
   omega
  rw [List.getElem?_ofFn,dif_pos hjl] at hj;obtain rfl:=Option.some.inj hj;obtain ⟨h1,h2,_⟩:=hV ⟨j,hjl⟩;obtain ⟨_,hlen2,hcell⟩:=World.cells?_some h1;refine ⟨(V ⟨j,hjl⟩).2,by rw [← hc];exact hlen2,h2,fun q u hu=>?_⟩
  have hq : q<P.cellsOf e:=by
   have:=(List.getElem?_eq_some_iff.1 hu).1
   omega
  have h3:=hcell q hq;rw [Deep.add_add,hu,hc] at h3;exact h3
 intro x hx;obtain ⟨i,rfl⟩:=List.mem_ofFn.1 hx;exact (hV i).2.2
def OpensF {α : Type} (P : Program) (d : Kd α) (fs : List Field) (off : Nat) (good : α→Prop) : Prop :=
 ∀ (H : Type) (enc : TypeId×Value→H) (w : World) (base : Nat) (spare : Nat→Bool) (held : Bool) (fuel : Nat) (cs : List Value),off+d.sz≤cs.length →
  (∀ f ∈ fs,∃ x,DataW.trod enc P w base spare held fuel f.type ((cs.drop f.offset).take (P.cellsOf f.type))=some x) → ∃ a,d.K w a ((cs.drop off).take d.sz)∧good a
theorem arg_slice {α : Type} {d : Kd α} {t e : TypeId} {g : List α→Prop} {H : Type} {enc : TypeId×Value→H} {w : World} {base b0 : Nat} {spare : Nat→Bool} {held : Bool} {r : Reach} {v : Value} {dd : DataW H} {p : List MemPlace}
  (ht : P.underlying t=some (.slice e)) (h : Opens P (Kd.slice e d) t g) (hv : Value.okWide P w r b0 t v) (hd : DataW.Trod enc P w base spare held t v dd p) :
  ∃ (l : List α) (A : Option Addr) (c : Nat),v = .slice A l.length c∧l.length≤c∧Kd.C d w A l.length l∧g l:=by
 obtain ⟨a,len,cap,rfl⟩:=okWide_slice ht hv;obtain ⟨fuel,hf⟩:=hd;obtain ⟨l,⟨A,c,he,hl,hc⟩,hg⟩:=h H enc w base spare held fuel _ _ hf;simp [Value.cells] at he;obtain ⟨rfl,rfl,rfl⟩:=he;exact ⟨l,a,cap,rfl,hl,hc,hg⟩
end Go.Proofs.YtdjnplkpahgnmaaW.PrintOpen
end
section
namespace Go.Proofs.Ytdjnplkpahgnmaa.Q
open Go.RowKit Go.Proofs.YtdjnplkpahgnmaaW.PrintWords Go.Proofs.YtdjnplkpahgnmaaW.PrintLast Go.Proofs.YtdjnplkpahgnmaaW.PrintMore Go.Proofs.YtdjnplkpahgnmaaW.PrintOpen

end Go.Proofs.Ytdjnplkpahgnmaa.Q
end
section
namespace Go.Proofs.Ytdjnplkpahgnmaa.Q
def F1.Pure : Prop:=∀ (x0 : List Int) (x1 : List Int),((x0.length≤9223372036854775807 ∧ ∀ y0_ ∈ x0,(Lit.int .u8 y0_).wf=true))→((x1.length≤9223372036854775807 ∧ ∀ y0_ ∈ x1,(Lit.int .u8 y0_).wf=true)) → ∃ k,F1.f k x0 x1=some true
end Go.Proofs.Ytdjnplkpahgnmaa.Q
end
section
namespace Go.Proofs.YtdjnplkpahgnmaaW.Pl
open Go Go.RowKit Go.Proofs.YtdjnplkpahgnmaaW.PrintWords Go.Proofs.YtdjnplkpahgnmaaW.PrintMore
theorem w64 {i : Int} (h0 : -9223372036854775808≤i) (h1 : i≤9223372036854775807) : wrap64 i=i:=by unfold wrap64;omega
theorem fuel {k d : Nat} (h : d<k) : ∃ m,k=m+1∧d≤m:=⟨k - 1,by omega,by omega⟩
theorem rdOf_at {α : Type} (d : α) (xs : List α) (i : Nat) (h : i<xs.length) : rdOf d xs (i : Int)=xs[i]:=by
 unfold rdOf;simp [List.getD,h]
theorem rd_at (xs : List Int) (i : Nat) (h : i<xs.length) : rd xs (i : Int)=xs[i]:=by
 unfold rd;simp [List.getD,h]
theorem getD_at {α : Type} (d : α) (xs : List α) (i : Nat) (h : i<xs.length) : xs.getD (i : Int).toNat d=xs[i]:=by
 simp [List.getD,h]
theorem drop_at {α : Type} (xs : List α) (i : Nat) (h : i<xs.length) : xs.drop i=xs[i] :: xs.drop (i+1):=List.drop_eq_getElem_cons h
theorem ba_toList (a : ByteArray) : a.toList=a.data.toList:=ByteArray.toList_eq a
theorem ba_ext {a b : ByteArray} (h : a.toList=b.toList) : a=b:=by
 rw [ba_toList,ba_toList] at h
 cases a;cases b
 simp at h;rw [h]
def all2 {α β : Type} (e : α→β→Bool) : List α→List β→Bool
 | [],_=>true
 | _ :: _,[]=>true
 | x :: xs,y :: ys=>e x y && all2 e xs ys
def first {α : Type} (p : α→Bool) : List α→Nat→Int
 | [],_ => -1
 | x :: xs,i=>if p x=true then i else first p xs (i+1)
theorem first_any {α : Type} (p : α→Bool) : ∀ (xs : List α) (i : Nat),decide (first p xs i ≥ 0)=xs.any p
 | [],i=>rfl
 | x :: xs,i=>by
  by_cases h : p x=true
  ·
   simp [first,h]
  simp only [first,if_neg h,List.any_cons,first_any p xs (i+1)];simp [h]
theorem first_loop {α : Type} (g : Nat→Int→Option Int) (xs : List α) (p : α→Bool)
  (hstep : ∀ (k i : Nat) (h : i<xs.length),g (k+1) (i : Int)=if p xs[i]=true then some (i : Int) else g k ((i+1 : Nat) : Int))
  (hend : ∀ k,g (k+1) (xs.length : Int)=some (-1)) : ∀ (d k i : Nat),i+d=xs.length→d<k→g k (i : Int)=some (first p (xs.drop i) i):=by
 intro d
 induction d with
 | zero =>
  intro k i hi hk;obtain ⟨k,rfl,_⟩:=fuel hk;obtain rfl : i=xs.length:=by omega
  rw [hend,List.drop_length];rfl
 | succ d ih =>
  intro k i hi hk;obtain ⟨k,rfl,_⟩:=fuel hk;have hlt : i<xs.length:=by omega
  rw [hstep k i hlt,drop_at xs i hlt]
  by_cases h : p xs[i]=true
  ·
   rw [if_pos h]
   simp [first,h]
  rw [if_neg h,ih k (i+1) (by omega) (by omega)];simp [first,h]
def total {α : Type} (s : α→Nat) : List α→Nat
 | []=>0
 | x :: xs=>s x+total s xs
def less {α : Type} (s : α→Nat) : List α→Int→Int
 | [],l=>l
 | x :: xs,l=>if l - s x<0 then -1 else less s xs (l - s x)
def Eve {α : Type} (g : Nat→Option α) (v : α) : Prop:=∃ K,∀ k,K≤k→g k=some v
theorem Eve.one {α : Type} {v : α} : Eve (fun _=>some v) v:=⟨0,fun _ _=>rfl⟩
theorem Eve.all {α : Type} {g : Nat→Option α} {v : α} (h : ∀ k,g k=some v) : Eve g v:=⟨0,fun k _=>h k⟩
theorem Eve.of {α : Type} {g : Nat→Option α} {v : α} {n : Nat} (h : ∀ k,n<k→g k=some v) : Eve g v:=⟨n+1,fun k hk=>h k (by omega)⟩
theorem Eve.succ {α : Type} {g : Nat→Option α} {v : α} (h : Eve (fun k=>g (k+1)) v) : Eve g v:=by
 obtain ⟨K,h⟩:=h;refine ⟨K+1,fun k hk=>?_⟩;obtain ⟨k,rfl⟩ : ∃ m,k=m+1:=⟨k - 1,by omega⟩;exact h k (by omega)
theorem Eve.bind {α β : Type} {g : Nat→Option α} {f : Nat→α→Option β} {v : α} {u : β} (h : Eve g v) (h2 : Eve (fun k=>f k v) u) : Eve (fun k=>(g k).bind (f k)) u:=by
 obtain ⟨K,h⟩:=h;obtain ⟨K2,h2⟩:=h2;refine ⟨max K K2,fun k hk=>?_⟩;show (g k).bind (f k)=some u;rw [h k (by omega),Option.bind_some];exact h2 k (by omega)
theorem Eve.ite {α : Type} {c : Prop} [Decidable c] {a b : Nat→Option α} {v : α} (h1 : c→Eve a v) (h2 : ¬ c→Eve b v) : Eve (fun k=>if c then a k else b k) v:=by
 by_cases h : c
 ·
  simp only [if_pos h];exact h1 h
 simp only [if_neg h];exact h2 h
theorem Eve.get {α : Type} {g : Nat→Option α} {v : α} (h : Eve g v) : ∃ k,g k=some v:=by
 obtain ⟨K,h⟩:=h;exact ⟨K,h K (by omega)⟩
theorem Eve.eq {α : Type} {g : Nat→Option α} {v u : α} (h : Eve g v) (e : v=u) : Eve g u:=e ▸ h
theorem Eve.congr {α : Type} {g f : Nat→Option α} {v : α} (h : Eve g v) (e : ∀ k,f k=g k) : Eve f v:=by
 obtain ⟨K,h⟩:=h;exact ⟨K,fun k hk=>by rw [e,h k hk]⟩
theorem ev_loop {σ α β : Type} (xs : List α) (g : Nat→σ→Int→Option β) (R : Nat→σ→List α→β) (I : Nat→σ→Prop)
  (hend : ∀ s,I xs.length s→Eve (fun k=>g (k+1) s (xs.length : Int)) (R xs.length s []))
  (hstep : ∀ (i : Nat) (h : i<xs.length) (s : σ),I i s→(∀ s',I (i+1) s' → Eve (fun k=>g k s' ((i+1 : Nat) : Int)) (R (i+1) s' (xs.drop (i+1)))) →
   Eve (fun k=>g (k+1) s (i : Int)) (R i s (xs[i] :: xs.drop (i+1)))) :
  ∀ (d i : Nat) (s : σ),i+d=xs.length→I i s→Eve (fun k=>g k s (i : Int)) (R i s (xs.drop i)):=by
 intro d
 induction d with
 | zero =>
  intro i s hi hI;obtain rfl : i=xs.length:=by omega
  rw [List.drop_length];exact Eve.succ (hend s hI)
 | succ d ih =>
  intro i s hi hI;have hlt : i<xs.length:=by omega
  rw [drop_at xs i hlt];exact Eve.succ (hstep i hlt s hI (fun s' h' => ih (i+1) s' (by omega) h'))
theorem ev_loop0 {σ α β : Type} (xs : List α) (g : Nat→σ→Int→Option β) (R : Nat→σ→List α→β) (I : Nat→σ→Prop)
  (hend : ∀ s,I xs.length s→Eve (fun k=>g (k+1) s (xs.length : Int)) (R xs.length s []))
  (hstep : ∀ (i : Nat) (h : i<xs.length) (s : σ),I i s→(∀ s',I (i+1) s' → Eve (fun k=>g k s' ((i+1 : Nat) : Int)) (R (i+1) s' (xs.drop (i+1)))) →
   Eve (fun k=>g (k+1) s (i : Int)) (R i s (xs[i] :: xs.drop (i+1)))) (s : σ) (h0 : I 0 s) : Eve (fun k=>g k s 0) (R 0 s xs):=by
 have:=ev_loop xs g R I hend hstep xs.length 0 s (by omega) h0
 simpa using this
end Go.Proofs.YtdjnplkpahgnmaaW.Pl
end
section
namespace Go.Proofs.Ytdjnplkpahgnmaa.Pure
open Go Go.RowKit Go.Proofs.Ytdjnplkpahgnmaa.Q Go.Proofs.YtdjnplkpahgnmaaW.PrintWords Go.Proofs.YtdjnplkpahgnmaaW.PrintLast Go.Proofs.YtdjnplkpahgnmaaW.PrintMore Go.Proofs.YtdjnplkpahgnmaaW.Pl
theorem wi {i : Nat} (h : i≤9223372036854775806) : wrap64 ((i : Int)+1)=((i+1 : Nat) : Int):=w64 (by omega) (by omega)
theorem w64m (y : Int) : wrap64 y=(y+9223372036854775808) % 18446744073709551616 - 9223372036854775808:=by unfold wrap64;omega
def stp (x b : Int) : Int:=wrap64 (wrap64 (x*256)+wrap64 b)
theorem or_byte (x b : Int) (h0 : 0≤b) (h1 : b≤255) : Go.bits .or .i64 (wrap64 (x*256)) (wrap64 b)=stp x b:=by
 have e1 : (BitVec.ofInt 64 (wrap64 (x*256))).toNat=2 ^ 8*(x % 72057594037927936).toNat:=by
  rw [BitVec.toNat_ofInt,w64m];omega
 have e2 : (BitVec.ofInt 64 (wrap64 b)).toNat=b.toNat:=by
  rw [BitVec.toNat_ofInt,w64m];omega
 have e3 : (BitVec.ofInt 64 (wrap64 (x*256)) ||| BitVec.ofInt 64 (wrap64 b)).toNat=2 ^ 8*(x % 72057594037927936).toNat+b.toNat:=by
  rw [BitVec.toNat_or,e1,e2,Nat.two_pow_add_eq_or_of_lt (by omega)]
 show IntKind.wrap .i64 ((BitVec.ofInt 64 (wrap64 (x*256)) ||| BitVec.ofInt 64 (wrap64 b)).toNat : Int)=_;rw [e3,i64_w];unfold stp;rw [w64m,w64m,w64m,w64m]
 omega
def bigV (l : List Int) : Int:=l.foldl stp 0
theorem bytes_in (a : ByteArray) : ∀ b ∈ bytesOf a,0≤b∧b≤255:=by
 intro b hb;obtain ⟨c,_,rfl⟩:=List.mem_map.1 hb;have:=c.toNat_lt
 omega
theorem bt_get (a : ByteArray) (i : Nat) (h : i<(bytesOf a).length) : bt a (i : Int)=(bytesOf a)[i]:=by
 rw [← rd_bytesOf,rd_at _ _ h]
theorem big_tells (l : List Int) (hl : l.length≤1048576) (hb : ∀ b ∈ l,0≤b∧b≤255) : Eve (fun k=>F04.f k l) (bigV l):=by
 simp only [F04.f];refine ev_loop0 l (fun k (s : Int) i=>F04.l0 k s l (l.length : Int) i) (fun _ s r=>r.foldl stp s) (fun _ _=>True) (fun s _=>?_) (fun i hi s _ ih=>?_) 0 trivial
 ·
  simp only [F04.l0]
  exact Eve.ite (fun h=>absurd h (by omega)) (fun _=>Eve.one)
 have hx:=hb l[i] (List.getElem_mem hi);simp only [F04.l0];refine Eve.ite (fun _=>?_) (fun h=>absurd (by omega) h);refine Eve.ite (fun _=>?_) (fun h=>absurd (by omega) h);refine Eve.ite (fun _=>?_) (fun h=>absurd (by omega) h);simp only [rd_at _ _ hi,or_byte _ _ hx.1 hx.2,wi (show i≤9223372036854775806 by omega)];exact ih _ trivial
theorem of_tells (a : ByteArray) (hl : a.size≤1048576) : Eve (fun k=>Fz.f k a) (bigV (bytesOf a)):=by
 have hn : (bytesOf a).length=a.size:=bytesOf_length a;simp only [Fz.f];refine ev_loop0 (bytesOf a) (fun k (s : Int) i=>Fz.l0 k a s i) (fun _ s r=>r.foldl stp s) (fun _ _=>True) (fun s _=>?_) (fun i hi s _ ih=>?_) 0 trivial
 ·
  simp only [Fz.l0]
  exact Eve.ite (fun h=>absurd h (by omega)) (fun _=>Eve.one)
 simp only [Fz.l0];refine Eve.ite (fun _=>?_) (fun h=>absurd (by omega) h);refine Eve.ite (fun _=>?_) (fun h=>absurd (by omega) h);simp only [bt_get a i hi,wi (show i≤9223372036854775806 by omega)];exact ih _ trivial
def zer (n : Nat) : ByteArray:=⟨(Lib.repeatL [0] n).toArray⟩
def takV (a : ByteArray) (f : Bool) (n : Nat) : ByteArray×ByteArray×Bool:=if a.size<n then (zer n,a,true) else (a.extract 0 n,a.extract n a.size,f)
def numV (a : ByteArray) (f : Bool) (n : Nat) : Int×ByteArray×Bool:=if a.size<n then (0,a,true) else (bigV (bytesOf (a.extract 0 n)),a.extract n a.size,f)
theorem take_tells (a : ByteArray) (f : Bool) (n : Nat) (hn : n≤65535) : Fr.f a f (n : Int)=some (takV a f n):=by
 unfold Fr.f takV
 by_cases h : a.size<n
 ·
  rw [if_pos (by omega),if_pos h]
  unfold strings_Repeat.f;rw [if_pos (by omega),if_pos (by rw [show (⟨#[0]⟩ : ByteArray).size=1 from rfl];omega),if_pos (by omega)]
  rfl
 rw [if_neg (by omega),if_pos (by omega),if_pos (by omega),if_neg h]
 rfl
theorem zer_size (n : Nat) : (zer n).size=n:=by
 show (Lib.repeatL [0] n).toArray.size=n;rw [List.size_toArray,Lib.repeatL_length];simp
theorem fold_zero : ∀ n : Nat,((Lib.repeatL [0] n).map fun b : UInt8=>(b.toNat : Int)).foldl stp 0=0
 | 0=>rfl
 | n+1=>by
  have e : stp 0 0=0:=by unfold stp;rw [w64m,w64m,w64m];omega
  simp only [Lib.repeatL,List.cons_append,List.nil_append,List.map_cons,List.foldl_cons];rw [show ((0 : UInt8).toNat : Int)=0 from rfl,e];exact fold_zero n
theorem big_zer (n : Nat) : bigV (bytesOf (zer n))=0:=by
 unfold bigV bytesOf zer;exact fold_zero n
theorem num_tells (a : ByteArray) (f : Bool) (n : Nat) (hn : n≤65535) : Eve (fun k=>Fe.f k a f (n : Int)) (numV a f n):=by
 simp only [Fe.f,take_tells a f n hn,Option.bind_some];unfold takV numV
 by_cases h : a.size<n
 ·
  simp only [if_pos h]
  have hz:=zer_size n;refine Eve.ite (fun _=>?_) (fun h=>absurd (by omega) h);refine Eve.bind (big_tells _ (by rw [bytesOf_length,hz];omega) (bytes_in _)) ?_;rw [big_zer];exact Eve.one
 simp only [if_neg h];have hz : (a.extract 0 n).size≤n:=by rw [ByteArray.size_extract];omega
 refine Eve.ite (fun _=>?_) (fun h=>absurd (by omega) h);exact Eve.bind (big_tells _ (by rw [bytesOf_length];omega) (bytes_in _)) Eve.one
theorem big1 (x : Int) (h : 0≤x∧x≤255) : bigV [x]=x:=by
 simp only [bigV,List.foldl_cons,List.foldl_nil,stp];rw [w64m,w64m,w64m];omega
theorem big2 (x y : Int) (h : 0≤x∧x≤255) (h2 : 0≤y∧y≤255) : 0≤bigV [x,y]∧bigV [x,y]≤65535:=by
 simp only [bigV,List.foldl_cons,List.foldl_nil,stp];simp only [w64m];omega
theorem len1 {l : List Int} (h : l.length=1) : ∃ x,l=[x]:=by
 match l,h with
 | [x],_=>exact ⟨x,rfl⟩
theorem len2 {l : List Int} (h : l.length=2) : ∃ x y,l=[x,y]:=by
 match l,h with
 | [x,y],_=>exact ⟨x,y,rfl⟩
theorem bytes_ext1 (a : ByteArray) (i : Nat) (h : i<a.size) : bigV (bytesOf (a.extract i (i+1)))=bt a (i : Int):=by
 have hl : (bytesOf (a.extract i (i+1))).length=1:=by rw [bytesOf_length,ByteArray.size_extract];omega
 obtain ⟨x,hx⟩:=len1 hl;have h2:=bytes_in (a.extract i (i+1)) x (by rw [hx];simp);have h3:=bt_get (a.extract i (i+1)) 0 (by omega);rw [hx,big1 x h2];simp only [hx,List.getElem_cons_zero] at h3;rw [← h3];unfold bt;have e0 : (((0 : Nat) : Int)).toNat=0:=rfl;have e1 : ((i : Int)).toNat=i:=Int.toNat_natCast i;simp only [e0,e1];rw [dif_pos (by rw [ByteArray.size_extract];omega),dif_pos h]
 congr 2
 rw [ByteArray.getElem_extract];simp
theorem bytes_ext2 (a : ByteArray) (i : Nat) (h : i+2≤a.size) : 0≤bigV (bytesOf (a.extract i (i+2)))∧bigV (bytesOf (a.extract i (i+2)))≤65535:=by
 have hl : (bytesOf (a.extract i (i+2))).length=2:=by rw [bytesOf_length,ByteArray.size_extract];omega
 obtain ⟨x,y,hx⟩:=len2 hl;have hb:=bytes_in (a.extract i (i+2));rw [hx] at hb ⊢;exact big2 x y (hb x (by simp)) (hb y (by simp))
end Go.Proofs.Ytdjnplkpahgnmaa.Pure
end
