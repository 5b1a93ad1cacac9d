/- Texts of this claim, merged by a program of this session. -/
import Derived.Test.YthjgfjlogilleabDoorKLawFnExactTermIntervalp23
section
namespace Go.Proofs.YthjgfjlogilleabDoor.Q
open Go.RowKit Go.Proofs.YthjgfjlogilleabDoorW.PrintWords Go.Proofs.YthjgfjlogilleabDoorW.PrintLast Go.Proofs.YthjgfjlogilleabDoorW.PrintMore
attribute [local go_sem] max2_int min2_int max_two min_two max_three min_three max_four min_four max2_str min2_str str_geq str_gtr str_leq   -- for this text's walks alone
set_option linter.unusedVariables false
set_option linter.unusedSimpArgs false

mutual
def F3.l0 : Nat→ByteArray→List (S31)→Int→Option (ByteArray)
 | 0,_,_,_ => none
 | k + 1,x3,x4,x6 => if x6<(x4.length : Int) then (if 0≤x6 then ((F3.f k ((rd_T31 x4 x6).f0) ((rd_T31 x4 x6).f1) ((rd_T31 x4 x6).f2)).bind fun t231 => (if x3.size + t231.size≤9223372036854775807 then (F3.l0 k (x3 ++ t231) x4 (wrap64 (x6 + 1))) else (none))) else (none)) else (if x3.size + 1≤9223372036854775807 then (some (x3 ++ (⟨#[0]⟩ : ByteArray))) else (none))
def F3.l1 : Nat→ByteArray→List (S70)→Int→Option (ByteArray)
 | 0,_,_,_ => none
 | k + 1,x3,x7,x9 => if x9<(x7.length : Int) then (if 0≤x9 then ((Fl.f k ((rd_T70 x7 x9).f0)).bind fun t237 => (if 1 + t237.size≤9223372036854775807 then ((F3.f k ((rd_T70 x7 x9).f1.f0) ((rd_T70 x7 x9).f1.f1) ((rd_T70 x7 x9).f1.f2)).bind fun t239 => (if ((⟨#[1]⟩ : ByteArray) ++ t237).size + t239.size≤9223372036854775807 then (if x3.size + (((⟨#[1]⟩ : ByteArray) ++ t237) ++ t239).size≤9223372036854775807 then (F3.l1 k (x3 ++ (((⟨#[1]⟩ : ByteArray) ++ t237) ++ t239)) x7 (wrap64 (x9 + 1))) else (none)) else (none))) else (none))) else (none)) else (if x3.size + 1≤9223372036854775807 then (some (x3 ++ (⟨#[0]⟩ : ByteArray))) else (none))
def F3.f : Nat→Int→Int→ByteArray→Option (ByteArray)
 | 0,_,_,_ => none
 | k + 1,a0_0,a0_1,a0_2 => (F8.f k (wrap64 (a0_0 + 1)) 1).bind fun t222 => (if a0_0=0 then (some t222) else (if a0_0=1 then ((F8.f k a0_1 1).bind fun t223 => (if t222.size + t223.size≤9223372036854775807 then (some (t222 ++ t223)) else (none))) else (if a0_0=2 then ((F8.f k (wrap64 (a0_1 + 4611686018427387904)) 8).bind fun t224 => (if t222.size + t224.size≤9223372036854775807 then (some (t222 ++ t224)) else (none))) else (if a0_0=3 then ((Fl.f k a0_2).bind fun t225 => (if t222.size + t225.size≤9223372036854775807 then (some (t222 ++ t225)) else (none))) else (if a0_0=4 then ((Fj.f k a0_2).bind fun bt226 => (F3.l0 k t222 bt226.1 0)) else ((Fi.f k a0_2).bind fun bt232 => (F3.l1 k t222 bt232.1 0)))))))
end
theorem F3.mono_l : ∀ k,(∀ y0 y1 y2,LeO (F3.f k y0 y1 y2) (F3.f (k + 1) y0 y1 y2))∧(∀ y0 y1 y2,LeO (F3.l0 k y0 y1 y2) (F3.l0 (k + 1) y0 y1 y2))∧(∀ y0 y1 y2,LeO (F3.l1 k y0 y1 y2) (F3.l1 (k + 1) y0 y1 y2))
 | 0 => ⟨fun _ _ _ r h => by simp [F3.f] at h,fun _ _ _ r h => by simp [F3.l0] at h,fun _ _ _ r h => by simp [F3.l1] at h⟩
 | k + 1 => by
  obtain ⟨ih0,ih1,ih2⟩:=F3.mono_l k;refine ⟨?_,?_,?_⟩
  ·
   intro y0 y1 y2
   unfold F3.f
   repeat' first|(with_reducible first|exact ih0 _ _ _|exact ih1 _ _ _|exact ih2 _ _ _|exact F8.mono _ _ _|exact Fj.mono _ _|exact Fi.mono _ _|exact Fl.mono _ _|exact zQ _|exact zN _|refine zP ?_ ?_|refine zO ?_ (fun _ => ?_))|refine zP ?_ ?_|refine zO ?_ (fun _ => ?_)
  ·
   intro y0 y1 y2
   unfold F3.l0
   repeat' first|(with_reducible first|exact ih0 _ _ _|exact ih1 _ _ _|exact ih2 _ _ _|exact F8.mono _ _ _|exact Fj.mono _ _|exact Fi.mono _ _|exact Fl.mono _ _|exact zQ _|exact zN _|refine zP ?_ ?_|refine zO ?_ (fun _ => ?_))|refine zP ?_ ?_|refine zO ?_ (fun _ => ?_)
  intro y0 y1 y2;unfold F3.l1
  repeat' first|(with_reducible first|exact ih0 _ _ _|exact ih1 _ _ _|exact ih2 _ _ _|exact F8.mono _ _ _|exact Fj.mono _ _|exact Fi.mono _ _|exact Fl.mono _ _|exact zQ _|exact zN _|refine zP ?_ ?_|refine zO ?_ (fun _ => ?_))|refine zP ?_ ?_|refine zO ?_ (fun _ => ?_)
theorem F3.mono : ∀ a0 a1 a2 k,LeO (F3.f k a0 a1 a2) (F3.f (k + 1) a0 a1 a2):=by
 intro a0 a1 a2 k;obtain ⟨ih0,ih1,ih2⟩:=F3.mono_l k;exact ih0 a0 a1 a2
def F3.T22 : Bool×List (List Nat×List Nat):=(true,[([],[]),([],[]),([],[]),([1,2],[1,2]),([3],[3]),([4],[4]),([5],[5]),([6],[6]),([],[]),([],[]),([8,9],[8,9]),([10],[10]),([11],[11]),([12,6],[12]),([7,13],[7,13]),([0,14],[0,14]),([15,13,0,1,2,3,4,5,6,7,8,9,10,11,12,13,14,15],[0,15])])
def F3.B22 : List Nat:=[0,0,0,6,14,30,62,126,0,0,768,1792,3840,8062,16382,32767,65535]
theorem F3.tab22 : rtab .any (opsOf Tryd.f34 22)=F3.T22:=by kernel_rfl
theorem F3.bits22 : waitsOk F3.T22.2 F3.B22=true:=by kernel_rfl
set_option maxHeartbeats 8000000 in
set_option maxRecDepth 100000 in
theorem F3.calls (k : Nat) : ∀ (a0_0 : Int) (a0_1 : Int) (a0_2 : ByteArray) (r : ByteArray) (w : World) (h : F3.f k a0_0 a0_1 a0_2=some r),
  Calls Tryd.prog 34 #[.agg #[.int .i64 a0_0,.int .i64 a0_1,.string a0_2]] w fun e w' => e = .returned (.string r)∧Below w.heap.size w w':=by
 induction k using Nat.strongRecOn with
 | _ k ih =>
 intro a0_0 a0_1 a0_2 r w h
 cases k with
 | zero => exact absurd h (by simp [F3.f])
 | succ k =>
 simp only [F3.f] at h;have hu31:=Tryd.underlying31;have HB:=zh (Below.refl w.heap.size w);have H : ((F8.f k (wrap64 (a0_0 + 1)) 1).bind fun t222 => (if a0_0=0 then (some t222) else (if a0_0=1 then ((F8.f k a0_1 1).bind fun t223 => (if t222.size + t223.size≤9223372036854775807 then (some (t222 ++ t223)) else (none))) else (if a0_0=2 then ((F8.f k (wrap64 (a0_1 + 4611686018427387904)) 8).bind fun t224 => (if t222.size + t224.size≤9223372036854775807 then (some (t222 ++ t224)) else (none))) else (if a0_0=3 then ((Fl.f k a0_2).bind fun t225 => (if t222.size + t225.size≤9223372036854775807 then (some (t222 ++ t225)) else (none))) else (if a0_0=4 then ((Fj.f k a0_2).bind fun bt226 => (F3.l0 k t222 bt226.1 0)) else ((Fi.f k a0_2).bind fun bt232 => (F3.l1 k t222 bt232.1 0))))))))=some r:=h;clear h;replace H:=zT.mp H;obtain ⟨t222,A20,H⟩:=H;replace H : (if a0_0=0 then (some t222) else (if a0_0=1 then ((F8.f k a0_1 1).bind fun t223 => (if t222.size + t223.size≤9223372036854775807 then (some (t222 ++ t223)) else (none))) else (if a0_0=2 then ((F8.f k (wrap64 (a0_1 + 4611686018427387904)) 8).bind fun t224 => (if t222.size + t224.size≤9223372036854775807 then (some (t222 ++ t224)) else (none))) else (if a0_0=3 then ((Fl.f k a0_2).bind fun t225 => (if t222.size + t225.size≤9223372036854775807 then (some (t222 ++ t225)) else (none))) else (if a0_0=4 then ((Fj.f k a0_2).bind fun bt226 => (F3.l0 k t222 bt226.1 0)) else ((Fi.f k a0_2).bind fun bt232 => (F3.l1 k t222 bt232.1 0)))))))=some r:=H;have A2:=zh A20;clear A20
 by_cases c3 : a0_0=0
 ·
  rw [if_pos c3] at H
  have c3b0 : (a0_0 == 0)=true:=ya.mpr c3;have c3b1 : (a0_0 != 0)=false:=zX.mpr c3;clear c3;obtain rfl:=zU H
  go_enter Tryd.func34,Tryd.ntmps34
  go_wp2_with (first|((with_reducible refine zK (N:=1) rfl ?_);refine zI ?hg (N:=1) ?hd (cs:=#[.int .i64 a0_0,.int .i64 a0_1,.string a0_2]) (t:=31) ?hr ?_;(case hd|hg => rfl);(case hr => go_simp <;> rfl);intro gb221 hg w4 hbox hb;have BK221:=zh (hbox);have hH_:=cH (by repeat (with_reducible first|exact HB.out|apply za|apply zb|apply zc)) hb hg;have GW221:=zh hH_.1;have GE221:=GW221;replace HB:=zh hH_.2;clear hb hbox hg hH_;obtain ⟨hcz5_0,hcz5_1,hcz5_2,hfz5_0,hfz5_1,hfz5_2⟩:=cB3 BK221.out)|((with_reducible refine zJ (f:=20) rfl ?_);refine yj (some 13) rfl rfl Tryd.func20 (by kernel_rfl) rfl #[.int .i64 (wrap64 (a0_0 + 1)),.int .i64 1] rfl (by (try simp only [zt,zu,zv]);first|done|rfl|(simp only [zw,zx];rfl)|(simp only [yr,ys,zV,zW];rfl)) ?_;(with_reducible refine (F8.calls k  (wrap64 (a0_0 + 1)) 1 t222 _ A2.out).mono ?_);rintro e w6 ⟨rfl,hb⟩;refine ⟨_,rfl,?_⟩;replace BK221:=zh (cD BK221.out (by (with_reducible repeat first|apply ze|apply zf|apply zg);exact BK221.out) hb);replace HB:=zh (zC (by repeat (with_reducible first|exact HB.out|apply za|apply zb|apply zc|refine zd ?_ GE221.out)) hb);(try clear hb);(try clear hb2);(try clear hk);(try clear hi);obtain ⟨hcz7_0,hcz7_1,hcz7_2,hfz7_0,hfz7_1,hfz7_2⟩:=cB3 BK221.out))
  go_ret
  exact ⟨by first|rfl|(simp [yt,yu] <;> rfl)|(simp [*,yt,yu] <;> rfl),by repeat (with_reducible first|exact HB.out|apply za|apply zb|apply zc|refine zd ?_ GE221.out)⟩
 rw [if_neg c3] at H;have c3b0 : (a0_0 == 0)=false:=zY.mpr c3;have c3b1 : (a0_0 != 0)=true:=zZ.mpr c3
 by_cases c8 : a0_0=1
 ·
  rw [if_pos c8] at H
  have c8b0 : (a0_0 == 1)=true:=ya.mpr c8;have c8b1 : (a0_0 != 1)=false:=zX.mpr c8;clear c8;replace H:=zT.mp H;obtain ⟨t223,A90,H⟩:=H;replace H : (if t222.size + t223.size≤9223372036854775807 then (some (t222 ++ t223)) else (none))=some r:=H;have A9:=zh A90;clear A90
  by_cases c10 : t222.size + t223.size≤9223372036854775807
  ·
   rw [if_pos c10] at H
   have c10b0:=eq_true c10;have c10b1 : decide (t222.size + t223.size≤9223372036854775807)=true:=decide_eq_true c10
   try have c10b2 : (9223372036854775807<t222.size + t223.size)=False:=eq_false (Nat.not_lt.2 c10)
   obtain rfl:=zU H
   go_enter Tryd.func34,Tryd.ntmps34
   go_wp2_with (first|((with_reducible refine zK (N:=1) rfl ?_);refine zI ?hg (N:=1) ?hd (cs:=#[.int .i64 a0_0,.int .i64 a0_1,.string a0_2]) (t:=31) ?hr ?_;(case hd|hg => rfl);(case hr => go_simp <;> rfl);intro gb221 hg w11 hbox hb;have BK221:=zh (hbox);have hH_:=cH (by repeat (with_reducible first|exact HB.out|apply za|apply zb|apply zc)) hb hg;have GW221:=zh hH_.1;have GE221:=GW221;replace HB:=zh hH_.2;clear hb hbox hg hH_;obtain ⟨hcz12_0,hcz12_1,hcz12_2,hfz12_0,hfz12_1,hfz12_2⟩:=cB3 BK221.out)|((with_reducible refine zJ (f:=20) rfl ?_);refine yj (some 13) rfl rfl Tryd.func20 (by kernel_rfl) rfl #[.int .i64 (wrap64 (a0_0 + 1)),.int .i64 1] rfl (by (try simp only [zt,zu,zv]);first|done|rfl|(simp only [zw,zx];rfl)|(simp only [yr,ys,zV,zW];rfl)) ?_;(with_reducible refine (F8.calls k  (wrap64 (a0_0 + 1)) 1 t222 _ A2.out).mono ?_);rintro e w13 ⟨rfl,hb⟩;refine ⟨_,rfl,?_⟩;replace BK221:=zh (cD BK221.out (by (with_reducible repeat first|apply ze|apply zf|apply zg);exact BK221.out) hb);replace HB:=zh (zC (by repeat (with_reducible first|exact HB.out|apply za|apply zb|apply zc|refine zd ?_ GE221.out)) hb);(try clear hb);(try clear hb2);(try clear hk);(try clear hi);obtain ⟨hcz14_0,hcz14_1,hcz14_2,hfz14_0,hfz14_1,hfz14_2⟩:=cB3 BK221.out)|((with_reducible refine zJ (f:=20) rfl ?_);refine yj (some 24) rfl rfl Tryd.func20 (by kernel_rfl) rfl #[.int .i64 a0_1,.int .i64 1] rfl (by (try simp only [zt,zu,zv]);first|done|rfl|(simp only [zw,zx];rfl)|(simp only [yr,ys,zV,zW];rfl)) ?_;(with_reducible refine (F8.calls k  a0_1 1 t223 _ A9.out).mono ?_);rintro e w15 ⟨rfl,hb⟩;refine ⟨_,rfl,?_⟩;replace BK221:=zh (cD BK221.out (by (with_reducible repeat first|apply ze|apply zf|apply zg);exact BK221.out) hb);replace HB:=zh (zC (by repeat (with_reducible first|exact HB.out|apply za|apply zb|apply zc|refine zd ?_ GE221.out)) hb);(try clear hb);(try clear hb2);(try clear hk);(try clear hi)))
   go_ret
   exact ⟨by first|rfl|(simp [yt,yu] <;> rfl)|(simp [*,yt,yu] <;> rfl),by repeat (with_reducible first|exact HB.out|apply za|apply zb|apply zc|refine zd ?_ GE221.out)⟩
  rw [if_neg c10] at H;exact absurd H (by simp)
 rw [if_neg c8] at H;have c8b0 : (a0_0 == 1)=false:=zY.mpr c8;have c8b1 : (a0_0 != 1)=true:=zZ.mpr c8
 by_cases c16 : a0_0=2
 ·
  rw [if_pos c16] at H
  have c16b0 : (a0_0 == 2)=true:=ya.mpr c16;have c16b1 : (a0_0 != 2)=false:=zX.mpr c16;clear c16;replace H:=zT.mp H;obtain ⟨t224,A170,H⟩:=H;replace H : (if t222.size + t224.size≤9223372036854775807 then (some (t222 ++ t224)) else (none))=some r:=H;have A17:=zh A170;clear A170
  by_cases c18 : t222.size + t224.size≤9223372036854775807
  ·
   rw [if_pos c18] at H
   have c18b0:=eq_true c18;have c18b1 : decide (t222.size + t224.size≤9223372036854775807)=true:=decide_eq_true c18
   try have c18b2 : (9223372036854775807<t222.size + t224.size)=False:=eq_false (Nat.not_lt.2 c18)
   obtain rfl:=zU H
   go_enter Tryd.func34,Tryd.ntmps34
   go_wp2_with (first|((with_reducible refine zK (N:=1) rfl ?_);refine zI ?hg (N:=1) ?hd (cs:=#[.int .i64 a0_0,.int .i64 a0_1,.string a0_2]) (t:=31) ?hr ?_;(case hd|hg => rfl);(case hr => go_simp <;> rfl);intro gb221 hg w19 hbox hb;have BK221:=zh (hbox);have hH_:=cH (by repeat (with_reducible first|exact HB.out|apply za|apply zb|apply zc)) hb hg;have GW221:=zh hH_.1;have GE221:=GW221;replace HB:=zh hH_.2;clear hb hbox hg hH_;obtain ⟨hcz20_0,hcz20_1,hcz20_2,hfz20_0,hfz20_1,hfz20_2⟩:=cB3 BK221.out)|((with_reducible refine zJ (f:=20) rfl ?_);refine yj (some 13) rfl rfl Tryd.func20 (by kernel_rfl) rfl #[.int .i64 (wrap64 (a0_0 + 1)),.int .i64 1] rfl (by (try simp only [zt,zu,zv]);first|done|rfl|(simp only [zw,zx];rfl)|(simp only [yr,ys,zV,zW];rfl)) ?_;(with_reducible refine (F8.calls k  (wrap64 (a0_0 + 1)) 1 t222 _ A2.out).mono ?_);rintro e w21 ⟨rfl,hb⟩;refine ⟨_,rfl,?_⟩;replace BK221:=zh (cD BK221.out (by (with_reducible repeat first|apply ze|apply zf|apply zg);exact BK221.out) hb);replace HB:=zh (zC (by repeat (with_reducible first|exact HB.out|apply za|apply zb|apply zc|refine zd ?_ GE221.out)) hb);(try clear hb);(try clear hb2);(try clear hk);(try clear hi);obtain ⟨hcz22_0,hcz22_1,hcz22_2,hfz22_0,hfz22_1,hfz22_2⟩:=cB3 BK221.out)|((with_reducible refine zJ (f:=20) rfl ?_);refine yj (some 32) rfl rfl Tryd.func20 (by kernel_rfl) rfl #[.int .i64 (wrap64 (a0_1 + 4611686018427387904)),.int .i64 8] rfl (by (try simp only [zt,zu,zv]);first|done|rfl|(simp only [zw,zx];rfl)|(simp only [yr,ys,zV,zW];rfl)) ?_;(with_reducible refine (F8.calls k  (wrap64 (a0_1 + 4611686018427387904)) 8 t224 _ A17.out).mono ?_);rintro e w23 ⟨rfl,hb⟩;refine ⟨_,rfl,?_⟩;replace BK221:=zh (cD BK221.out (by (with_reducible repeat first|apply ze|apply zf|apply zg);exact BK221.out) hb);replace HB:=zh (zC (by repeat (with_reducible first|exact HB.out|apply za|apply zb|apply zc|refine zd ?_ GE221.out)) hb);(try clear hb);(try clear hb2);(try clear hk);(try clear hi)))
   go_ret
   exact ⟨by first|rfl|(simp [yt,yu] <;> rfl)|(simp [*,yt,yu] <;> rfl),by repeat (with_reducible first|exact HB.out|apply za|apply zb|apply zc|refine zd ?_ GE221.out)⟩
  rw [if_neg c18] at H;exact absurd H (by simp)
 rw [if_neg c16] at H;have c16b0 : (a0_0 == 2)=false:=zY.mpr c16;have c16b1 : (a0_0 != 2)=true:=zZ.mpr c16
 by_cases c24 : a0_0=3
 ·
  rw [if_pos c24] at H
  have c24b0 : (a0_0 == 3)=true:=ya.mpr c24;have c24b1 : (a0_0 != 3)=false:=zX.mpr c24;clear c24;replace H:=zT.mp H;obtain ⟨t225,A250,H⟩:=H;replace H : (if t222.size + t225.size≤9223372036854775807 then (some (t222 ++ t225)) else (none))=some r:=H;have A25:=zh A250;clear A250
  by_cases c26 : t222.size + t225.size≤9223372036854775807
  ·
   rw [if_pos c26] at H
   have c26b0:=eq_true c26;have c26b1 : decide (t222.size + t225.size≤9223372036854775807)=true:=decide_eq_true c26
   try have c26b2 : (9223372036854775807<t222.size + t225.size)=False:=eq_false (Nat.not_lt.2 c26)
   obtain rfl:=zU H
   go_enter Tryd.func34,Tryd.ntmps34
   go_wp2_with (first|((with_reducible refine zK (N:=1) rfl ?_);refine zI ?hg (N:=1) ?hd (cs:=#[.int .i64 a0_0,.int .i64 a0_1,.string a0_2]) (t:=31) ?hr ?_;(case hd|hg => rfl);(case hr => go_simp <;> rfl);intro gb221 hg w27 hbox hb;have BK221:=zh (hbox);have hH_:=cH (by repeat (with_reducible first|exact HB.out|apply za|apply zb|apply zc)) hb hg;have GW221:=zh hH_.1;have GE221:=GW221;replace HB:=zh hH_.2;clear hb hbox hg hH_;obtain ⟨hcz28_0,hcz28_1,hcz28_2,hfz28_0,hfz28_1,hfz28_2⟩:=cB3 BK221.out)|((with_reducible refine zJ (f:=20) rfl ?_);refine yj (some 13) rfl rfl Tryd.func20 (by kernel_rfl) rfl #[.int .i64 (wrap64 (a0_0 + 1)),.int .i64 1] rfl (by (try simp only [zt,zu,zv]);first|done|rfl|(simp only [zw,zx];rfl)|(simp only [yr,ys,zV,zW];rfl)) ?_;(with_reducible refine (F8.calls k  (wrap64 (a0_0 + 1)) 1 t222 _ A2.out).mono ?_);rintro e w29 ⟨rfl,hb⟩;refine ⟨_,rfl,?_⟩;replace BK221:=zh (cD BK221.out (by (with_reducible repeat first|apply ze|apply zf|apply zg);exact BK221.out) hb);replace HB:=zh (zC (by repeat (with_reducible first|exact HB.out|apply za|apply zb|apply zc|refine zd ?_ GE221.out)) hb);(try clear hb);(try clear hb2);(try clear hk);(try clear hi);obtain ⟨hcz30_0,hcz30_1,hcz30_2,hfz30_0,hfz30_1,hfz30_2⟩:=cB3 BK221.out)|((with_reducible refine zJ (f:=44) rfl ?_);refine yj (some 39) rfl rfl Tryd.func44 (by kernel_rfl) rfl #[.string a0_2] rfl (by (try simp only [zt,zu,zv]);first|done|rfl|(simp only [zw,zx];rfl)|(simp only [yr,ys,zV,zW];rfl)) ?_;(with_reducible refine (Fl.calls k  a0_2 t225 _ A25.out).mono ?_);rintro e w31 ⟨rfl,hb⟩;refine ⟨_,rfl,?_⟩;replace BK221:=zh (cD BK221.out (by (with_reducible repeat first|apply ze|apply zf|apply zg);exact BK221.out) hb);replace HB:=zh (zC (by repeat (with_reducible first|exact HB.out|apply za|apply zb|apply zc|refine zd ?_ GE221.out)) hb);(try clear hb);(try clear hb2);(try clear hk);(try clear hi)))
   go_ret
   exact ⟨by first|rfl|(simp [yt,yu] <;> rfl)|(simp [*,yt,yu] <;> rfl),by repeat (with_reducible first|exact HB.out|apply za|apply zb|apply zc|refine zd ?_ GE221.out)⟩
  rw [if_neg c26] at H;exact absurd H (by simp)
 rw [if_neg c24] at H;have c24b0 : (a0_0 == 3)=false:=zY.mpr c24;have c24b1 : (a0_0 != 3)=true:=zZ.mpr c24
 by_cases c32 : a0_0=4
 ·
  rw [if_pos c32] at H
  have c32b0 : (a0_0 == 4)=true:=ya.mpr c32;have c32b1 : (a0_0 != 4)=false:=zX.mpr c32;clear c32;replace H:=zT.mp H;obtain ⟨⟨t226,t227⟩,A330,H⟩:=H;replace H : (F3.l0 k t222 t226 0)=some r:=H;have A33:=zh A330;clear A330;have H':=zh H;clear H
  go_enter Tryd.func34,Tryd.ntmps34
  go_wp2_with (first|((with_reducible refine zK (N:=1) rfl ?_);refine zI ?hg (N:=1) ?hd (cs:=#[.int .i64 a0_0,.int .i64 a0_1,.string a0_2]) (t:=31) ?hr ?_;(case hd|hg => rfl);(case hr => go_simp <;> rfl);intro gb221 hg w34 hbox hb;have BK221:=zh (hbox);have hH_:=cH (by repeat (with_reducible first|exact HB.out|apply za|apply zb|apply zc)) hb hg;have GW221:=zh hH_.1;have GE221:=GW221;replace HB:=zh hH_.2;clear hb hbox hg hH_;obtain ⟨hcz35_0,hcz35_1,hcz35_2,hfz35_0,hfz35_1,hfz35_2⟩:=cB3 BK221.out)|((with_reducible refine zJ (f:=20) rfl ?_);refine yj (some 13) rfl rfl Tryd.func20 (by kernel_rfl) rfl #[.int .i64 (wrap64 (a0_0 + 1)),.int .i64 1] rfl (by (try simp only [zt,zu,zv]);first|done|rfl|(simp only [zw,zx];rfl)|(simp only [yr,ys,zV,zW];rfl)) ?_;(with_reducible refine (F8.calls k  (wrap64 (a0_0 + 1)) 1 t222 _ A2.out).mono ?_);rintro e w36 ⟨rfl,hb⟩;refine ⟨_,rfl,?_⟩;replace BK221:=zh (cD BK221.out (by (with_reducible repeat first|apply ze|apply zf|apply zg);exact BK221.out) hb);replace HB:=zh (zC (by repeat (with_reducible first|exact HB.out|apply za|apply zb|apply zc|refine zd ?_ GE221.out)) hb);(try clear hb);(try clear hb2);(try clear hk);(try clear hi);obtain ⟨hcz37_0,hcz37_1,hcz37_2,hfz37_0,hfz37_1,hfz37_2⟩:=cB3 BK221.out)|((with_reducible refine zJ (f:=42) rfl ?_);refine yj (some 46) rfl rfl Tryd.func42 (by kernel_rfl) rfl #[.string a0_2] rfl (by (try simp only [zt,zu,zv]);first|done|rfl|(simp only [zw,zx];rfl)|(simp only [yr,ys,zV,zW];rfl)) ?_;(with_reducible refine (Fj.calls k  a0_2 t226 t227 _ A33.out).mono ?_);rintro e w38 ⟨v228,rfl,ho0,hb⟩;refine ⟨_,rfl,?_⟩;have HO229:=zh (yy (Kd.R_newB ho0 (g:=gb221) (o:=.cells #[.int .i64 a0_0,.int .i64 a0_1,.string a0_2] 31 (0,0)) (by (with_reducible repeat first|apply ze|apply zf|apply zg);exact BK221.out)) (zB (by repeat (with_reducible first|exact HB.out|apply za|apply zb|apply zc|refine zd ?_ GE221.out))));replace BK221:=zh (cD BK221.out (by (with_reducible repeat first|apply ze|apply zf|apply zg);exact BK221.out) hb);replace HB:=zh (zC (by repeat (with_reducible first|exact HB.out|apply za|apply zb|apply zc|refine zd ?_ GE221.out)) hb);(try clear hb);(try clear hb2);(try clear hk);(try clear hi);(try clear ho0)))
  go_loopg [3,6] k (fun kq v3 v6 w' => ∃ (x3_1 : ByteArray) (x6_1 : Int),v3 = .string x3_1∧v6 = .int .i64 x6_1∧Aside0 (F3.l0 kq x3_1 t226 x6_1=some r)∧Aside0 (kq≤k)∧Aside0 (Kd.R k31 31 w' w.heap.size (fun k_ => k_≠gb221) v228 t226)∧Aside0 (w'.heap[gb221]? = some (.cells #[.int .i64 a0_0,.int .i64 a0_1,.string a0_2] 31 (0,0)))∧Aside0 (Below w.heap.size w w'))
  case atStart => exact ⟨(t222),(0),(by first|rfl|(simp;done)|(simp [*];done)),(by first|rfl|(simp;done)|(simp [*];done)),H',⟨ye _⟩,⟨by (with_reducible repeat (first|apply zm|apply zn|apply zo));exact zM HO229.out (fun _ hk => hk.2)⟩,⟨by (with_reducible repeat first|apply ze|apply zf|apply zg);exact BK221.out⟩,⟨by repeat (with_reducible first|exact HB.out|apply za|apply zb|apply zc|refine zd ?_ GE221.out)⟩⟩
  case round =>
   clear H'
   try clear c1 c2
   try clear p2
   try clear c3 c3b0 c3b1 c4
   try clear p6
   try clear c8 c8b0 c8b1 c10 c10b0 c10b1 c10b2 c16 c16b0 c16b1 c18 c18b0 c18b1 c18b2 c20 c24 c24b0 c24b1 c26 c26b0 c26b1 c26b2 c32 c32b0 c32b1 c34
   try clear hcz12_0 hcz12_1 hcz12_2
   try clear hcz14_0 hcz14_1 hcz14_2
   try clear hcz20_0 hcz20_1 hcz20_2
   try clear hcz22_0 hcz22_1 hcz22_2
   try clear hcz28_0 hcz28_1 hcz28_2
   try clear hcz30_0 hcz30_1 hcz30_2
   try clear hcz35_0 hcz35_1 hcz35_2
   try clear hcz37_0 hcz37_1 hcz37_2
   try clear hcz5_0 hcz5_1 hcz5_2
   try clear hcz7_0 hcz7_1 hcz7_2
   try clear hfz12_0 hfz12_1 hfz12_2
   try clear hfz14_0 hfz14_1 hfz14_2
   try clear hfz20_0 hfz20_1 hfz20_2
   try clear hfz22_0 hfz22_1 hfz22_2
   try clear hfz28_0 hfz28_1 hfz28_2
   try clear hfz30_0 hfz30_1 hfz30_2
   try clear hfz35_0 hfz35_1 hfz35_2
   try clear hfz37_0 hfz37_1 hfz37_2
   try clear hfz5_0 hfz5_1 hfz5_2
   try clear hfz7_0 hfz7_1 hfz7_2
   obtain ⟨x3_1,x6_1,rfl,rfl,HA,HK1,HO_4,BK221,HB⟩:=hrel
   cases gk with
   | zero => exact absurd HA.out (by simp [F3.l0])
   | succ k1 =>
    have H:=HA.out;clear HA;simp only [F3.l0] at H
    by_cases c39 : x6_1<(t226.length : Int)
    ·
     rw [if_pos c39] at H
     have c39b0 : decide (x6_1<(t226.length : Int))=true:=decide_eq_true c39;clear c39
     by_cases c40 : 0≤x6_1
     ·
      rw [if_pos c40] at H
      have c40b0 : decide (0≤x6_1)=true:=decide_eq_true c40;clear c40;replace H:=zT.mp H;obtain ⟨t231,A410,H⟩:=H;replace H : (if x3_1.size + t231.size≤9223372036854775807 then (F3.l0 k1 (x3_1 ++ t231) t226 (wrap64 (x6_1 + 1))) else (none))=some r:=H;have A41:=zh A410;clear A410
      by_cases c42 : x3_1.size + t231.size≤9223372036854775807
      ·
       rw [if_pos c42] at H
       have c42b0:=eq_true c42;have c42b1 : decide (x3_1.size + t231.size≤9223372036854775807)=true:=decide_eq_true c42
       try have c42b2 : (9223372036854775807<x3_1.size + t231.size)=False:=eq_false (Nat.not_lt.2 c42)
       have H':=zh H;clear H;obtain ⟨Ao43,co43,eo43⟩:=yk HO_4.out;subst eo43;have p230 : 0≤(x6_1 : Int):=zy (by first|(with_reducible assumption)|assumption);have q230 : x6_1<(t226.length : Int):=zy (by first|(with_reducible assumption)|assumption);obtain ⟨ad230,e230,hx230_0,hx230_1,hx230_2⟩:=at_T31 (yh HO_4.out).2.2 x6_1 p230 q230
       cases e230
       replace p230:=eq_true p230;replace q230:=eq_true q230
       go_wp2_with (first|((with_reducible refine zJ (f:=34) rfl ?_);refine yj (some 60) rfl rfl Tryd.func34 (by kernel_rfl) rfl #[.agg #[.int .i64 ((rd_T31 t226 x6_1).f0),.int .i64 ((rd_T31 t226 x6_1).f1),.string ((rd_T31 t226 x6_1).f2)]] rfl (by (try simp only [zt,zu,zv]);first|done|rfl|(simp only [zw,zx];rfl)|(simp only [yr,ys,zV,zW];rfl)) ?_;(with_reducible refine (ih k1 (by have:=HK1.out;omega)  ((rd_T31 t226 x6_1).f0) ((rd_T31 t226 x6_1).f1) ((rd_T31 t226 x6_1).f2) t231 _ A41.out).mono ?_);rintro e w44 ⟨rfl,hb⟩;refine ⟨_,rfl,?_⟩;replace HO_4:=zh (yg (by (with_reducible repeat (first|apply zm|apply zn|apply zo));exact HO_4.out) hb);replace BK221:=zh (cD BK221.out (by (with_reducible repeat first|apply ze|apply zf|apply zg);exact BK221.out) hb);replace HB:=zh (zC (by repeat (with_reducible first|exact HB.out|apply za|apply zb|apply zc|refine zd ?_ GE221.out)) hb);(try clear hb);(try clear hb2);(try clear hk);(try clear hi)))
       go_roundg k1
       case measure => have:=HK1.out;omega
       case rel => exact ⟨(x3_1 ++ t231),(wrap64 (x6_1 + 1)),(by first|rfl|(simp;done)|(simp [*];done)),(by first|rfl|(simp;done)|(simp [*];done)),H',⟨by have:=HK1.out;omega⟩,⟨by (with_reducible repeat (first|apply zm|apply zn|apply zo));exact HO_4.out⟩,⟨by (with_reducible repeat first|apply ze|apply zf|apply zg);exact BK221.out⟩,⟨by repeat (with_reducible first|exact HB.out|apply za|apply zb|apply zc|refine zd ?_ GE221.out)⟩⟩
      rw [if_neg c42] at H;exact absurd H (by simp)
     rw [if_neg c40] at H;exact absurd H (by simp)
    rw [if_neg c39] at H;have c39b0 : decide (x6_1<(t226.length : Int))=false:=decide_eq_false c39;clear c39
    by_cases c45 : x3_1.size + 1≤9223372036854775807
    ·
     rw [if_pos c45] at H
     have c45b0:=eq_true c45;have c45b1 : decide (x3_1.size + 1≤9223372036854775807)=true:=decide_eq_true c45
     try have c45b2 : (9223372036854775807<x3_1.size + 1)=False:=eq_false (Nat.not_lt.2 c45)
     obtain rfl:=zU H;obtain ⟨Ao46,co46,eo46⟩:=yk HO_4.out;subst eo46
     go_wp2
     go_ret
     exact ⟨by first|rfl|(simp [yt,yu] <;> rfl)|(simp [*,yt,yu] <;> rfl),by repeat (with_reducible first|exact HB.out|apply za|apply zb|apply zc|refine zd ?_ GE221.out)⟩
    rw [if_neg c45] at H;exact absurd H (by simp)
 rw [if_neg c32] at H;have c32b0 : (a0_0 == 4)=false:=zY.mpr c32;have c32b1 : (a0_0 != 4)=true:=zZ.mpr c32;replace H:=zT.mp H;obtain ⟨⟨t232,t233⟩,A470,H⟩:=H;replace H : (F3.l1 k t222 t232 0)=some r:=H;have A47:=zh A470;clear A470;have H':=zh H;clear H
 go_enter Tryd.func34,Tryd.ntmps34
 go_wp2_with (first|((with_reducible refine zK (N:=1) rfl ?_);refine zI ?hg (N:=1) ?hd (cs:=#[.int .i64 a0_0,.int .i64 a0_1,.string a0_2]) (t:=31) ?hr ?_;(case hd|hg => rfl);(case hr => go_simp <;> rfl);intro gb221 hg w48 hbox hb;have BK221:=zh (hbox);have hH_:=cH (by repeat (with_reducible first|exact HB.out|apply za|apply zb|apply zc)) hb hg;have GW221:=zh hH_.1;have GE221:=GW221;replace HB:=zh hH_.2;clear hb hbox hg hH_;obtain ⟨hcz49_0,hcz49_1,hcz49_2,hfz49_0,hfz49_1,hfz49_2⟩:=cB3 BK221.out)|((with_reducible refine zJ (f:=20) rfl ?_);refine yj (some 13) rfl rfl Tryd.func20 (by kernel_rfl) rfl #[.int .i64 (wrap64 (a0_0 + 1)),.int .i64 1] rfl (by (try simp only [zt,zu,zv]);first|done|rfl|(simp only [zw,zx];rfl)|(simp only [yr,ys,zV,zW];rfl)) ?_;(with_reducible refine (F8.calls k  (wrap64 (a0_0 + 1)) 1 t222 _ A2.out).mono ?_);rintro e w50 ⟨rfl,hb⟩;refine ⟨_,rfl,?_⟩;replace BK221:=zh (cD BK221.out (by (with_reducible repeat first|apply ze|apply zf|apply zg);exact BK221.out) hb);replace HB:=zh (zC (by repeat (with_reducible first|exact HB.out|apply za|apply zb|apply zc|refine zd ?_ GE221.out)) hb);(try clear hb);(try clear hb2);(try clear hk);(try clear hi);obtain ⟨hcz51_0,hcz51_1,hcz51_2,hfz51_0,hfz51_1,hfz51_2⟩:=cB3 BK221.out)|((with_reducible refine zJ (f:=43) rfl ?_);refine yj (some 67) rfl rfl Tryd.func43 (by kernel_rfl) rfl #[.string a0_2] rfl (by (try simp only [zt,zu,zv]);first|done|rfl|(simp only [zw,zx];rfl)|(simp only [yr,ys,zV,zW];rfl)) ?_;(with_reducible refine (Fi.calls k  a0_2 t232 t233 _ A47.out).mono ?_);rintro e w52 ⟨v234,rfl,ho0,hb⟩;refine ⟨_,rfl,?_⟩;have HO235:=zh (yy ho0 (zB (by repeat (with_reducible first|exact HB.out|apply za|apply zb|apply zc|refine zd ?_ GE221.out))));replace BK221:=zh (cD BK221.out (by (with_reducible repeat first|apply ze|apply zf|apply zg);exact BK221.out) hb);replace HB:=zh (zC (by repeat (with_reducible first|exact HB.out|apply za|apply zb|apply zc|refine zd ?_ GE221.out)) hb);(try clear hb);(try clear hb2);(try clear hk);(try clear hi);(try clear ho0)))
 go_loopg [3,9] k (fun kq v3 v9 w' => ∃ (x3_1 : ByteArray) (x9_1 : Int),v3 = .string x3_1∧v9 = .int .i64 x9_1∧Aside0 (F3.l1 kq x3_1 t232 x9_1=some r)∧Aside0 (kq≤k)∧Aside0 (Kd.R k70 70 w' w.heap.size (fun _ => True) v234 t232)∧Aside0 (w'.heap[gb221]? = some (.cells #[.int .i64 a0_0,.int .i64 a0_1,.string a0_2] 31 (0,0)))∧Aside0 (Below w.heap.size w w'))
 case atStart => exact ⟨(t222),(0),(by first|rfl|(simp;done)|(simp [*];done)),(by first|rfl|(simp;done)|(simp [*];done)),H',⟨ye _⟩,⟨by (with_reducible repeat (first|apply zm|apply zn|apply zo));exact HO235.out⟩,⟨by (with_reducible repeat first|apply ze|apply zf|apply zg);exact BK221.out⟩,⟨by repeat (with_reducible first|exact HB.out|apply za|apply zb|apply zc|refine zd ?_ GE221.out)⟩⟩
 case round =>
  clear H'
  try clear c1 c2
  try clear p2
  try clear q2
  try clear hx2
  try clear c3 c3b0 c3b1 c4
  try clear p6
  try clear c8 c8b0 c8b1 c10 c10b0 c10b1 c10b2 c16 c16b0 c16b1 c18 c18b0 c18b1 c18b2 c20
  try clear p23
  try clear q23
  try clear hx23
  try clear c24 c24b0 c24b1 c26 c26b0 c26b1 c26b2 c32 c32b0 c32b1 c34 c39 c39b0 c40 c40b0 c42 c42b0 c42b1 c42b2 c43 c44 c45 c45b0 c45b1 c45b2
  try clear hcz12_0 hcz12_1 hcz12_2
  try clear hcz14_0 hcz14_1 hcz14_2
  try clear hcz20_0 hcz20_1 hcz20_2
  try clear hcz22_0 hcz22_1 hcz22_2
  try clear hcz28_0 hcz28_1 hcz28_2
  try clear hcz30_0 hcz30_1 hcz30_2
  try clear hcz35_0 hcz35_1 hcz35_2
  try clear hcz37_0 hcz37_1 hcz37_2
  try clear hcz49_0 hcz49_1 hcz49_2
  try clear hcz51_0 hcz51_1 hcz51_2
  try clear hcz5_0 hcz5_1 hcz5_2
  try clear hcz7_0 hcz7_1 hcz7_2
  try clear hfz12_0 hfz12_1 hfz12_2
  try clear hfz14_0 hfz14_1 hfz14_2
  try clear hfz20_0 hfz20_1 hfz20_2
  try clear hfz22_0 hfz22_1 hfz22_2
  try clear hfz28_0 hfz28_1 hfz28_2
  try clear hfz30_0 hfz30_1 hfz30_2
  try clear hfz35_0 hfz35_1 hfz35_2
  try clear hfz37_0 hfz37_1 hfz37_2
  try clear hfz49_0 hfz49_1 hfz49_2
  try clear hfz51_0 hfz51_1 hfz51_2
  try clear hfz5_0 hfz5_1 hfz5_2
  try clear hfz7_0 hfz7_1 hfz7_2
  try clear hx230_0
  try clear hx230_1
  try clear hx230_2
  try clear p2
  try clear p230
  try clear p6
  try clear q230
  obtain ⟨x3_1,x9_1,rfl,rfl,HA,HK1,HO_7,BK221,HB⟩:=hrel
  cases gk with
  | zero => exact absurd HA.out (by simp [F3.l1])
  | succ k1 =>
   have H:=HA.out;clear HA;simp only [F3.l1] at H
   by_cases c53 : x9_1<(t232.length : Int)
   ·
    rw [if_pos c53] at H
    have c53b0 : decide (x9_1<(t232.length : Int))=true:=decide_eq_true c53;clear c53
    by_cases c54 : 0≤x9_1
    ·
     rw [if_pos c54] at H
     have c54b0 : decide (0≤x9_1)=true:=decide_eq_true c54;clear c54;replace H:=zT.mp H;obtain ⟨t237,A550,H⟩:=H;replace H : (if 1 + t237.size≤9223372036854775807 then ((F3.f k1 ((rd_T70 t232 x9_1).f1.f0) ((rd_T70 t232 x9_1).f1.f1) ((rd_T70 t232 x9_1).f1.f2)).bind fun t239 => (if ((⟨#[1]⟩ : ByteArray) ++ t237).size + t239.size≤9223372036854775807 then (if x3_1.size + (((⟨#[1]⟩ : ByteArray) ++ t237) ++ t239).size≤9223372036854775807 then (F3.l1 k1 (x3_1 ++ (((⟨#[1]⟩ : ByteArray) ++ t237) ++ t239)) t232 (wrap64 (x9_1 + 1))) else (none)) else (none))) else (none))=some r:=H;have A55:=zh A550;clear A550
     by_cases c56 : 1 + t237.size≤9223372036854775807
     ·
      rw [if_pos c56] at H
      have c56b0:=eq_true c56;have c56b1 : decide (1 + t237.size≤9223372036854775807)=true:=decide_eq_true c56
      try have c56b2 : (9223372036854775807<1 + t237.size)=False:=eq_false (Nat.not_lt.2 c56)
      replace H:=zT.mp H;obtain ⟨t239,A570,H⟩:=H;replace H : (if ((⟨#[1]⟩ : ByteArray) ++ t237).size + t239.size≤9223372036854775807 then (if x3_1.size + (((⟨#[1]⟩ : ByteArray) ++ t237) ++ t239).size≤9223372036854775807 then (F3.l1 k1 (x3_1 ++ (((⟨#[1]⟩ : ByteArray) ++ t237) ++ t239)) t232 (wrap64 (x9_1 + 1))) else (none)) else (none))=some r:=H;have A57:=zh A570;clear A570
      by_cases c58 : ((⟨#[1]⟩ : ByteArray) ++ t237).size + t239.size≤9223372036854775807
      ·
       rw [if_pos c58] at H
       have c58b0:=eq_true c58;have c58b1 : decide (((⟨#[1]⟩ : ByteArray) ++ t237).size + t239.size≤9223372036854775807)=true:=decide_eq_true c58
       try have c58b2 : (9223372036854775807<((⟨#[1]⟩ : ByteArray) ++ t237).size + t239.size)=False:=eq_false (Nat.not_lt.2 c58)
       (try have c58b4:=c58b2;simp only [ByteArray.size_append,show (⟨#[1]⟩ : ByteArray).size=1 from rfl] at c58b4)
       by_cases c59 : x3_1.size + (((⟨#[1]⟩ : ByteArray) ++ t237) ++ t239).size≤9223372036854775807
       ·
        rw [if_pos c59] at H
        have c59b0:=eq_true c59;have c59b1 : decide (x3_1.size + (((⟨#[1]⟩ : ByteArray) ++ t237) ++ t239).size≤9223372036854775807)=true:=decide_eq_true c59
        try have c59b2 : (9223372036854775807<x3_1.size + (((⟨#[1]⟩ : ByteArray) ++ t237) ++ t239).size)=False:=eq_false (Nat.not_lt.2 c59)
        (try have c59b4:=c59b2;simp only [ByteArray.size_append,show (⟨#[1]⟩ : ByteArray).size=1 from rfl] at c59b4);have H':=zh H;clear H;obtain ⟨Ao60,co60,eo60⟩:=yk HO_7.out;subst eo60
        try go_wp2
        replace HO_7:=zh (zo HO_7.out);replace BK221:=zh (zf BK221.out);replace HB:=zh (zc HB.out);have p236 : 0≤(x9_1 : Int):=zy (by first|(with_reducible assumption)|assumption);have q236 : x9_1<(t232.length : Int):=zy (by first|(with_reducible assumption)|assumption);obtain ⟨ad236,e236,hx236_0,hx236_1,hx236_2,hx236_3⟩:=at_T70 (yh HO_7.out).2.2 x9_1 p236 q236
        cases e236
        replace p236:=eq_true p236;replace q236:=eq_true q236;have p238 : 0≤(x9_1 : Int):=zy (by first|(with_reducible assumption)|assumption);have q238 : x9_1<(t232.length : Int):=zy (by first|(with_reducible assumption)|assumption);obtain ⟨ad238,e238,hx238_0,hx238_1,hx238_2,hx238_3⟩:=at_T70 (yh HO_7.out).2.2 x9_1 p238 q238;obtain rfl : ad236=ad238:=(by injection e238);replace p238:=eq_true p238;replace q238:=eq_true q238;refine start_ (n:=17) (S:=fun w' => w'.cell? (ad236.add ((x9_1).toNat * 4))=some (.string ((rd_T70 t232 x9_1).f0))∧w'.cell? ⟨(ad236.add ((x9_1).toNat * 4)).block,(ad236.add ((x9_1).toNat * 4)).off + 1,none⟩=some (.int .i64 ((rd_T70 t232 x9_1).f1.f0))∧w'.cell? ⟨(ad236.add ((x9_1).toNat * 4)).block,(ad236.add ((x9_1).toNat * 4)).off + 2,none⟩=some (.int .i64 ((rd_T70 t232 x9_1).f1.f1))∧w'.cell? ⟨(ad236.add ((x9_1).toNat * 4)).block,(ad236.add ((x9_1).toNat * 4)).off + 3,none⟩=some (.string ((rd_T70 t232 x9_1).f1.f2))∧w'.cell? (ad236.add ((x9_1).toNat * 4))=some (.string ((rd_T70 t232 x9_1).f0))∧w'.cell? ⟨(ad236.add ((x9_1).toNat * 4)).block,(ad236.add ((x9_1).toNat * 4)).off + 1,none⟩=some (.int .i64 ((rd_T70 t232 x9_1).f1.f0))∧w'.cell? ⟨(ad236.add ((x9_1).toNat * 4)).block,(ad236.add ((x9_1).toNat * 4)).off + 2,none⟩=some (.int .i64 ((rd_T70 t232 x9_1).f1.f1))∧w'.cell? ⟨(ad236.add ((x9_1).toNat * 4)).block,(ad236.add ((x9_1).toNat * 4)).off + 3,none⟩=some (.string ((rd_T70 t232 x9_1).f1.f2))) (ds:=[]) (bm_ 0 17) (by kernel_rfl) rfl rfl ⟨hx236_0,hx236_1,hx236_2,hx236_3,hx238_0,hx238_1,hx238_2,hx238_3⟩ (fun hHeld => ?_);refine with_tabW F3.tab22 F3.bits22 (fun HT_ HW_ => ?_);generalize wr.drew=w61 at HO_7 BK221 HB hx236_0 hx236_1 hx236_2 hx236_3 hx238_0 hx238_1 hx238_2 hx238_3 hHeld ⊢;refine pure_ (i:=0) (N:=some 76) (v:=?_) (a':=?_) (bm_ 1 17) rfl rfl (any_of HT_.out (by kernel_rfl)) (fun _ _ _ h => h) (Or.inl ⟨by rfl,?_⟩) ?_ ?_;rotate_left
        ·
         intro w'
         go_simp
         with_reducible rfl
        rotate_left
        ·
         simp only [Act.put,zi,zj,zk,zG,zH]
         rfl
        refine pure_ (i:=1) (N:=some 77) (v:=?_) (a':=?_) (bm_ 2 17) rfl rfl (any_of HT_.out (by kernel_rfl)) (fun _ _ _ h => h) (Or.inl ⟨by rfl,?_⟩) ?_ ?_;rotate_left
        ·
         intro w'
         go_simp
         with_reducible rfl
        rotate_left
        ·
         simp only [Act.put,zi,zj,zk,zG,zH]
         rfl
        refine pure_ (i:=2) (N:=some 78) (v:=?_) (a':=?_) (bm_ 3 17) rfl rfl (any_of HT_.out (by kernel_rfl)) (fun _ _ _ h => h) (Or.inl ⟨by rfl,?_⟩) ?_ ?_;rotate_left
        ·
         intro w'
         go_simp
         with_reducible rfl
        rotate_left
        ·
         simp only [Act.put,zi,zj,zk,zG,zH]
         rfl
        refine pure_ (i:=3) (N:=some 79) (v:=?_) (a':=?_) (bm_ 4 17) rfl rfl (any_of HT_.out (by kernel_rfl)) (fun _ _ _ h => h) (Or.inl ⟨by rfl,?_⟩) ?_ ?_;rotate_left
        ·
         intro w'
         go_simp
         with_reducible rfl
        rotate_left
        ·
         simp only [Act.put,zi,zj,zk,zG,zH]
         rfl
        refine pure_ (i:=4) (N:=some 80) (v:=?_) (a':=?_) (bm_ 5 17) rfl rfl (any_of HT_.out (by kernel_rfl)) (fun _ _ _ h => h) (Or.inl ⟨by rfl,?_⟩) ?_ ?_;rotate_left
        ·
         intro w'
         go_simp
         with_reducible rfl
        rotate_left
        ·
         simp only [Act.put,zi,zj,zk,zG,zH]
         rfl
        refine pure_ (i:=8) (N:=some 84) (v:=?_) (a':=?_) #[true,true,true,true,true,false,false,false,true,false,false,false,false,false,false,false,false] rfl rfl (any_of HT_.out (by kernel_rfl)) (fun _ _ _ h => h) (Or.inl ⟨by rfl,?_⟩) ?_ ?_;rotate_left
        ·
         intro w'
         go_simp
         with_reducible rfl
        rotate_left
        ·
         simp only [Act.put,zi,zj,zk,zG,zH]
         rfl
        refine pure_ (i:=9) (N:=some 85) (v:=?_) (a':=?_) #[true,true,true,true,true,false,false,false,true,true,false,false,false,false,false,false,false] rfl rfl (any_of HT_.out (by kernel_rfl)) (fun _ _ _ h => h) (Or.inl ⟨by rfl,?_⟩) ?_ ?_;rotate_left
        ·
         intro w'
         go_simp
         with_reducible rfl
        rotate_left
        ·
         simp only [Act.put,zi,zj,zk,zG,zH]
         rfl
        refine pure_ (i:=10) (N:=some 86) (v:=?_) (a':=?_) #[true,true,true,true,true,false,false,false,true,true,true,false,false,false,false,false,false] rfl rfl (any_of HT_.out (by kernel_rfl)) (fun _ _ _ h => h) (Or.inl ⟨by rfl,?_⟩) ?_ ?_;rotate_left
        ·
         intro w'
         go_simp
         with_reducible rfl
        rotate_left
        ·
         simp only [Act.put,zi,zj,zk,zG,zH]
         rfl
        refine pure_ (i:=11) (N:=some 87) (v:=?_) (a':=?_) #[true,true,true,true,true,false,false,false,true,true,true,true,false,false,false,false,false] rfl rfl (any_of HT_.out (by kernel_rfl)) (fun _ _ _ h => h) (Or.inl ⟨by rfl,?_⟩) ?_ ?_;rotate_left
        ·
         intro w'
         go_simp
         with_reducible rfl
        rotate_left
        ·
         simp only [Act.put,zi,zj,zk,zG,zH]
         rfl
        refine take_ (i:=5) (N:=some 81) (v:=?_) (a':=?_) #[true,true,true,true,true,true,false,false,true,true,true,true,false,false,false,false,false] rfl rfl (yo HT_.out HW_.out (by kernel_rfl)) (fun _ _ _ h => h) (Or.inl ⟨by rfl,?_⟩) hHeld ?_ ?_;rotate_left
        ·
         rintro w' ⟨s0,s1,s2,s3,s4,s5,s6,s7⟩
         go_simp
         with_reducible rfl
        rotate_left
        ·
         simp only [Act.put,zi,zj,zk,zG,zH]
         rfl
        refine take_ (i:=12) (N:=some 88) (v:=?_) (a':=?_) #[true,true,true,true,true,true,false,false,true,true,true,true,true,false,false,false,false] rfl rfl (yo HT_.out HW_.out (by kernel_rfl)) (fun _ _ _ h => h) (Or.inl ⟨by rfl,?_⟩) hHeld ?_ ?_;rotate_left
        ·
         rintro w' ⟨s0,s1,s2,s3,s4,s5,s6,s7⟩
         go_simp
         with_reducible rfl
        rotate_left
        ·
         simp only [Act.put,zi,zj,zk,zG,zH]
         rfl
        refine one_ (i:=6) (N:=some 82) #[true,true,true,true,true,true,true,false,true,true,true,true,true,false,false,false,false] rfl rfl (one_of HT_.out (by kernel_rfl)) (by decide) (fun K hK => ?_);refine goes_ Tryd.func44 (by kernel_rfl) rfl #[.string ((rd_T70 t232 x9_1).f0)] (by rfl) rfl rfl (by (try simp only [zt,zu,zv]);first|done|rfl|(simp only [zw,zx];rfl)|(simp only [yr,ys,zV,zW];rfl)) ?_
        with_reducible refine (Fl.calls k1  ((rd_T70 t232 x9_1).f0) t237 _ A55.out).mono ?_
        rintro e w62 ⟨rfl,hb⟩;have HS0_:=(hb.cell (zl _ _ (hHeld.1))).trans (hHeld.1);have HS1_:=(hb.cell (zl _ _ (hHeld.2.1))).trans (hHeld.2.1);have HS2_:=(hb.cell (zl _ _ (hHeld.2.2.1))).trans (hHeld.2.2.1);have HS3_:=(hb.cell (zl _ _ (hHeld.2.2.2.1))).trans (hHeld.2.2.2.1);have HS4_:=(hb.cell (zl _ _ (hHeld.2.2.2.2.1))).trans (hHeld.2.2.2.2.1);have HS5_:=(hb.cell (zl _ _ (hHeld.2.2.2.2.2.1))).trans (hHeld.2.2.2.2.2.1);have HS6_:=(hb.cell (zl _ _ (hHeld.2.2.2.2.2.2.1))).trans (hHeld.2.2.2.2.2.2.1);have HS7_:=(hb.cell (zl _ _ (hHeld.2.2.2.2.2.2.2))).trans (hHeld.2.2.2.2.2.2.2);refine ⟨_,rfl,?_⟩;replace HO_7:=zh (yg (by (with_reducible repeat (first|apply zm|apply zn|apply zo));exact HO_7.out) hb);replace BK221:=zh (cD BK221.out (by (with_reducible repeat first|apply ze|apply zf|apply zg);exact BK221.out) hb);replace HB:=zh (zC (by repeat (with_reducible first|exact HB.out|apply za|apply zb|apply zc|refine zd ?_ GE221.out)) hb);(try clear hb);(try clear hb2);(try clear hk);(try clear hi);refine hK.out _ _ ⟨HS0_,HS1_,HS2_,HS3_,HS4_,HS5_,HS6_,HS7_⟩ (fun hHeld => ?_);clear hK K;refine norm_ (a':=?_) ?_ ?_;rotate_left
        ·
         show Act.put _ (some 82) _=_
         simp only [Act.put,zi,zj,zk,zG,zH]
         rfl
        refine pure_ (i:=7) (N:=some 83) (v:=?_) (a':=?_) (bm_ 13 17) rfl rfl (any_of HT_.out (by kernel_rfl)) (fun _ _ _ h => h) (Or.inl ⟨by rfl,?_⟩) ?_ ?_;rotate_left
        ·
         intro w'
         go_simp
         with_reducible rfl
        rotate_left
        ·
         simp only [Act.put,zi,zj,zk,zG,zH]
         rfl
        refine one_ (i:=13) (N:=some 89) (bm_ 14 17) rfl rfl (one_of HT_.out (by kernel_rfl)) (by decide) (fun K hK => ?_);refine goes_ Tryd.func34 (by kernel_rfl) rfl #[.agg #[.int .i64 ((rd_T70 t232 x9_1).f1.f0),.int .i64 ((rd_T70 t232 x9_1).f1.f1),.string ((rd_T70 t232 x9_1).f1.f2)]] (by rfl) rfl rfl (by (try simp only [zt,zu,zv]);first|done|rfl|(simp only [zw,zx];rfl)|(simp only [yr,ys,zV,zW];rfl)) ?_
        with_reducible refine (ih k1 (by have:=HK1.out;omega)  ((rd_T70 t232 x9_1).f1.f0) ((rd_T70 t232 x9_1).f1.f1) ((rd_T70 t232 x9_1).f1.f2) t239 _ A57.out).mono ?_
        rintro e w63 ⟨rfl,hb⟩;have HS0_:=(hb.cell (zl _ _ (hHeld.1))).trans (hHeld.1);have HS1_:=(hb.cell (zl _ _ (hHeld.2.1))).trans (hHeld.2.1);have HS2_:=(hb.cell (zl _ _ (hHeld.2.2.1))).trans (hHeld.2.2.1);have HS3_:=(hb.cell (zl _ _ (hHeld.2.2.2.1))).trans (hHeld.2.2.2.1);have HS4_:=(hb.cell (zl _ _ (hHeld.2.2.2.2.1))).trans (hHeld.2.2.2.2.1);have HS5_:=(hb.cell (zl _ _ (hHeld.2.2.2.2.2.1))).trans (hHeld.2.2.2.2.2.1);have HS6_:=(hb.cell (zl _ _ (hHeld.2.2.2.2.2.2.1))).trans (hHeld.2.2.2.2.2.2.1);have HS7_:=(hb.cell (zl _ _ (hHeld.2.2.2.2.2.2.2))).trans (hHeld.2.2.2.2.2.2.2);refine ⟨_,rfl,?_⟩;replace HO_7:=zh (yg (by (with_reducible repeat (first|apply zm|apply zn|apply zo));exact HO_7.out) hb);replace BK221:=zh (cD BK221.out (by (with_reducible repeat first|apply ze|apply zf|apply zg);exact BK221.out) hb);replace HB:=zh (zC (by repeat (with_reducible first|exact HB.out|apply za|apply zb|apply zc|refine zd ?_ GE221.out)) hb);(try clear hb);(try clear hb2);(try clear hk);(try clear hi);refine hK.out _ _ ⟨HS0_,HS1_,HS2_,HS3_,HS4_,HS5_,HS6_,HS7_⟩ (fun hHeld => ?_);clear hK K;refine norm_ (a':=?_) ?_ ?_;rotate_left
        ·
         show Act.put _ (some 89) _=_
         simp only [Act.put,zi,zj,zk,zG,zH]
         rfl
        refine pure_ (i:=14) (N:=some 90) (v:=?_) (a':=?_) (bm_ 15 17) rfl rfl (any_of HT_.out (by kernel_rfl)) (fun _ _ _ h => h) (Or.inl ⟨by rfl,?_⟩) ?_ ?_;rotate_left
        ·
         intro w'
         go_simp
         with_reducible rfl
        rotate_left
        ·
         simp only [Act.put,zi,zj,zk,zG,zH]
         rfl
        refine pure_ (i:=15) (N:=some 91) (v:=?_) (a':=?_) (bm_ 16 17) rfl rfl (any_of HT_.out (by kernel_rfl)) (fun _ _ _ h => h) (Or.inl ⟨by rfl,?_⟩) ?_ ?_;rotate_left
        ·
         intro w'
         go_simp
         with_reducible rfl
        rotate_left
        ·
         simp only [Act.put,zi,zj,zk,zG,zH]
         rfl
        refine pure_ (i:=16) (N:=some 3) (v:=?_) (a':=?_) (bm_ 17 17) rfl rfl (any_of HT_.out (by kernel_rfl)) (fun _ _ _ h => h) (Or.inl ⟨by rfl,?_⟩) ?_ ?_;rotate_left
        ·
         intro w'
         go_simp
         with_reducible rfl
        rotate_left
        ·
         simp only [Act.put,zi,zj,zk,zG,zH]
         rfl
        refine done_ (done_of HT_.out (by kernel_rfl)) ?_
        try go_wp2
        go_roundg k1
        case measure => have:=HK1.out;omega
        case rel => exact ⟨(x3_1 ++ (((⟨#[1]⟩ : ByteArray) ++ t237) ++ t239)),(wrap64 (x9_1 + 1)),(by first|rfl|(simp;done)|(simp [*];done)),(by first|rfl|(simp;done)|(simp [*];done)),H',⟨by have:=HK1.out;omega⟩,⟨by (with_reducible repeat (first|apply zm|apply zn|apply zo));exact HO_7.out⟩,⟨by (with_reducible repeat first|apply ze|apply zf|apply zg);exact BK221.out⟩,⟨by repeat (with_reducible first|exact HB.out|apply za|apply zb|apply zc|refine zd ?_ GE221.out)⟩⟩
       rw [if_neg c59] at H;exact absurd H (by simp)
      rw [if_neg c58] at H;exact absurd H (by simp)
     rw [if_neg c56] at H;exact absurd H (by simp)
    rw [if_neg c54] at H;exact absurd H (by simp)
   rw [if_neg c53] at H;have c53b0 : decide (x9_1<(t232.length : Int))=false:=decide_eq_false c53;clear c53
   by_cases c64 : x3_1.size + 1≤9223372036854775807
   ·
    rw [if_pos c64] at H
    have c64b0:=eq_true c64;have c64b1 : decide (x3_1.size + 1≤9223372036854775807)=true:=decide_eq_true c64
    try have c64b2 : (9223372036854775807<x3_1.size + 1)=False:=eq_false (Nat.not_lt.2 c64)
    obtain rfl:=zU H;obtain ⟨Ao65,co65,eo65⟩:=yk HO_7.out;subst eo65
    go_wp2
    go_ret
    exact ⟨by first|rfl|(simp [yt,yu] <;> rfl)|(simp [*,yt,yu] <;> rfl),by repeat (with_reducible first|exact HB.out|apply za|apply zb|apply zc|refine zd ?_ GE221.out)⟩
   rw [if_neg c64] at H;exact absurd H (by simp)

end Go.Proofs.YthjgfjlogilleabDoor.Q
end
section
namespace Go.Proofs.YthjgfjlogilleabDoor.Q
open Go.RowKit Go.Proofs.YthjgfjlogilleabDoorW.PrintWords Go.Proofs.YthjgfjlogilleabDoorW.PrintLast Go.Proofs.YthjgfjlogilleabDoorW.PrintMore
attribute [local go_sem] max2_int min2_int max_two min_two max_three min_three max_four min_four max2_str min2_str str_geq str_gtr str_leq
set_option linter.unusedVariables false
set_option linter.unusedSimpArgs false

def F04.f (k : Nat) (a0_0 : Int) (a0_1 : Int) (a0_2 : ByteArray) (a1 : Bool) : Option (ByteArray):=if a1=true then ((F3.f k a0_0 a0_1 a0_2).bind fun t241 => ((F9.f k t241).bind fun t242 => (some t242))) else ((F3.f k a0_0 a0_1 a0_2).bind fun t243 => (some t243))
theorem F04.mono : ∀ a0 a1 a2 a3 k,LeO (F04.f k a0 a1 a2 a3) (F04.f (k + 1) a0 a1 a2 a3):=by
 intro a0 a1 a2 a3 k;unfold F04.f
 repeat' first|(with_reducible first|exact F9.mono _ _|exact F3.mono _ _ _ _|exact zQ _|exact zN _|refine zP ?_ ?_|refine zO ?_ (fun _ => ?_))|refine zP ?_ ?_|refine zO ?_ (fun _ => ?_)
set_option maxHeartbeats 8000000 in
set_option maxRecDepth 100000 in
theorem F04.calls (k : Nat) (a0_0 : Int) (a0_1 : Int) (a0_2 : ByteArray) (a1 : Bool) (r : ByteArray) (w : World) (h : F04.f k a0_0 a0_1 a0_2 a1=some r) :
  Calls Tryd.prog 21 #[.agg #[.int .i64 a0_0,.int .i64 a0_1,.string a0_2],.bool a1] w fun e w' => e = .returned (.string r)∧Below w.heap.size w w':=by
 have hu31:=Tryd.underlying31;have HB:=zh (Below.refl w.heap.size w);have H : (if a1=true then ((F3.f k a0_0 a0_1 a0_2).bind fun t241 => ((F9.f k t241).bind fun t242 => (some t242))) else ((F3.f k a0_0 a0_1 a0_2).bind fun t243 => (some t243)))=some r:=h;clear h
 by_cases c3 : a1=true
 ·
  subst c3
  have H1 : ((F3.f k a0_0 a0_1 a0_2).bind fun t241 => ((F9.f k t241).bind fun t242 => (some t242)))=some r:=by rw [if_pos rfl] at H;exact H
  clear H;have H:=H1;clear H1;replace H:=zT.mp H;obtain ⟨t241,A40,H⟩:=H;replace H : ((F9.f k t241).bind fun t242 => (some t242))=some r:=H;have A4:=zh A40;clear A40;replace H:=zT.mp H;obtain ⟨t242,A50,H⟩:=H;replace H : (some t242)=some r:=H;have A5:=zh A50;clear A50;obtain rfl:=zU H
  go_enter Tryd.func21,Tryd.ntmps21
  go_wp2_with (first|((with_reducible refine zK (N:=2) rfl ?_);refine zI ?hg (N:=2) ?hd (cs:=#[.int .i64 a0_0,.int .i64 a0_1,.string a0_2]) (t:=31) ?hr ?_;(case hd|hg => rfl);(case hr => go_simp <;> rfl);intro gb240 hg w6 hbox hb;have BK240:=zh (hbox);have hH_:=cH (by repeat (with_reducible first|exact HB.out|apply za|apply zb|apply zc)) hb hg;have GW240:=zh hH_.1;have GE240:=GW240;replace HB:=zh hH_.2;clear hb hbox hg hH_;obtain ⟨hcz7_0,hcz7_1,hcz7_2,hfz7_0,hfz7_1,hfz7_2⟩:=cB3 BK240.out)|((with_reducible refine zJ (f:=34) rfl ?_);refine yj (some 7) rfl rfl Tryd.func34 (by kernel_rfl) rfl #[.agg #[.int .i64 a0_0,.int .i64 a0_1,.string a0_2]] rfl (by (try simp only [zt,zu,zv]);first|done|rfl|(simp only [zw,zx];rfl)|(simp only [yr,ys,zV,zW];rfl)) ?_;(with_reducible refine (F3.calls k  a0_0 a0_1 a0_2 t241 _ A4.out).mono ?_);rintro e w8 ⟨rfl,hb⟩;refine ⟨_,rfl,?_⟩;replace BK240:=zh (cD BK240.out (by (with_reducible repeat first|apply ze|apply zf|apply zg);exact BK240.out) hb);replace HB:=zh (zC (by repeat (with_reducible first|exact HB.out|apply za|apply zb|apply zc|refine zd ?_ GE240.out)) hb);(try clear hb);(try clear hb2);(try clear hk);(try clear hi))|((with_reducible refine zJ (f:=33) rfl ?_);refine yj (some 8) rfl rfl Tryd.func33 (by kernel_rfl) rfl #[.string t241] rfl (by (try simp only [zt,zu,zv]);first|done|rfl|(simp only [zw,zx];rfl)|(simp only [yr,ys,zV,zW];rfl)) ?_;(with_reducible refine (F9.calls k  t241 t242 _ A5.out).mono ?_);rintro e w9 ⟨rfl,hb⟩;refine ⟨_,rfl,?_⟩;replace BK240:=zh (cD BK240.out (by (with_reducible repeat first|apply ze|apply zf|apply zg);exact BK240.out) hb);replace HB:=zh (zC (by repeat (with_reducible first|exact HB.out|apply za|apply zb|apply zc|refine zd ?_ GE240.out)) hb);(try clear hb);(try clear hb2);(try clear hk);(try clear hi)))
  go_ret
  exact ⟨by first|rfl|(simp [yt,yu] <;> rfl)|(simp [*,yt,yu] <;> rfl),by repeat (with_reducible first|exact HB.out|apply za|apply zb|apply zc|refine zd ?_ GE240.out)⟩
 replace c3:=yb.mpr c3;subst c3;have H1 : ((F3.f k a0_0 a0_1 a0_2).bind fun t243 => (some t243))=some r:=by rw [if_neg (show ¬ (false=true) by decide)] at H;exact H
 clear H;have H:=H1;clear H1;replace H:=zT.mp H;obtain ⟨t243,A100,H⟩:=H;replace H : (some t243)=some r:=H;have A10:=zh A100;clear A100;obtain rfl:=zU H
 go_enter Tryd.func21,Tryd.ntmps21
 go_wp2_with (first|((with_reducible refine zK (N:=2) rfl ?_);refine zI ?hg (N:=2) ?hd (cs:=#[.int .i64 a0_0,.int .i64 a0_1,.string a0_2]) (t:=31) ?hr ?_;(case hd|hg => rfl);(case hr => go_simp <;> rfl);intro gb240 hg w11 hbox hb;have BK240:=zh (hbox);have hH_:=cH (by repeat (with_reducible first|exact HB.out|apply za|apply zb|apply zc)) hb hg;have GW240:=zh hH_.1;have GE240:=GW240;replace HB:=zh hH_.2;clear hb hbox hg hH_;obtain ⟨hcz12_0,hcz12_1,hcz12_2,hfz12_0,hfz12_1,hfz12_2⟩:=cB3 BK240.out)|((with_reducible refine zJ (f:=34) rfl ?_);refine yj (some 10) rfl rfl Tryd.func34 (by kernel_rfl) rfl #[.agg #[.int .i64 a0_0,.int .i64 a0_1,.string a0_2]] rfl (by (try simp only [zt,zu,zv]);first|done|rfl|(simp only [zw,zx];rfl)|(simp only [yr,ys,zV,zW];rfl)) ?_;(with_reducible refine (F3.calls k  a0_0 a0_1 a0_2 t243 _ A10.out).mono ?_);rintro e w13 ⟨rfl,hb⟩;refine ⟨_,rfl,?_⟩;replace BK240:=zh (cD BK240.out (by (with_reducible repeat first|apply ze|apply zf|apply zg);exact BK240.out) hb);replace HB:=zh (zC (by repeat (with_reducible first|exact HB.out|apply za|apply zb|apply zc|refine zd ?_ GE240.out)) hb);(try clear hb);(try clear hb2);(try clear hk);(try clear hi)))
 go_ret
 exact ⟨by first|rfl|(simp [yt,yu] <;> rfl)|(simp [*,yt,yu] <;> rfl),by repeat (with_reducible first|exact HB.out|apply za|apply zb|apply zc|refine zd ?_ GE240.out)⟩


def F01.f (a0_0 : ByteArray) (a0_1 : ByteArray) (a0_2 : Bool) (a1_0 : ByteArray) (a1_1 : ByteArray) (a1_2 : Bool) : Option (ByteArray×ByteArray×Bool):=if a0_2=true then (if a1_2=true then (some (mxs a0_0 a1_0,(⟨#[]⟩ : ByteArray),true)) else (some (mxs a0_0 a1_0,a1_1,false))) else (if a1_2=true then (some (mxs a0_0 a1_0,a0_1,false)) else (some (mxs a0_0 a1_0,mns a0_1 a1_1,false)))
theorem F01.blk_at {w : World} {g : Nat} {o : Obj} (h : w.heap.size=g) : (w.alloc o).heap[g]? = some o:=by subst h;exact blk_new w o
set_option maxHeartbeats 4000000 in
theorem F01.at_tt (a0_0 : ByteArray) (a0_1 : ByteArray) (a1_0 : ByteArray) (a1_1 : ByteArray) (w : World) :
  Calls Tryd.prog 22 #[.agg #[.string a0_0,.string a0_1,.bool true],.agg #[.string a1_0,.string a1_1,.bool true]] w fun e w' => e = .returned (.agg #[.string (mxs a0_0 a1_0),.string (⟨#[]⟩ : ByteArray),.bool true])∧Below w.heap.size w w':=by
 have hu25:=Tryd.underlying28
 go_enter Tryd.func22,Tryd.ntmps22
 go_wp2
 refine bodyPost_ret (results_cell_row rfl _ _ (w.heap.size + 1 + 1) 28 #[.string (mxs a0_0 a1_0),.string (⟨#[]⟩ : ByteArray),.bool true] (0,0) _ rfl (by refine zg ?_ _;exact F01.blk_at (by simp)) hu25 rfl (by kernel_rfl)) rfl ?_;exact ⟨rfl,by repeat (first|exact Below.refl _ _|refine za ?_ _)⟩
set_option maxHeartbeats 4000000 in
theorem F01.at_tf (a0_0 : ByteArray) (a0_1 : ByteArray) (a1_0 : ByteArray) (a1_1 : ByteArray) (w : World) :
  Calls Tryd.prog 22 #[.agg #[.string a0_0,.string a0_1,.bool true],.agg #[.string a1_0,.string a1_1,.bool false]] w fun e w' => e = .returned (.agg #[.string (mxs a0_0 a1_0),.string a1_1,.bool false])∧Below w.heap.size w w':=by
 have hu25:=Tryd.underlying28
 go_enter Tryd.func22,Tryd.ntmps22
 go_wp2
 refine bodyPost_ret (results_cell_row rfl _ _ (w.heap.size + 1 + 1) 28 #[.string (mxs a0_0 a1_0),.string a1_1,.bool false] (0,0) _ rfl (by refine zg ?_ _;exact F01.blk_at (by simp)) hu25 rfl (by kernel_rfl)) rfl ?_;exact ⟨rfl,by repeat (first|exact Below.refl _ _|refine za ?_ _)⟩
set_option maxHeartbeats 4000000 in
theorem F01.at_ft (a0_0 : ByteArray) (a0_1 : ByteArray) (a1_0 : ByteArray) (a1_1 : ByteArray) (w : World) :
  Calls Tryd.prog 22 #[.agg #[.string a0_0,.string a0_1,.bool false],.agg #[.string a1_0,.string a1_1,.bool true]] w fun e w' => e = .returned (.agg #[.string (mxs a0_0 a1_0),.string a0_1,.bool false])∧Below w.heap.size w w':=by
 have hu25:=Tryd.underlying28
 go_enter Tryd.func22,Tryd.ntmps22
 go_wp2
 refine bodyPost_ret (results_cell_row rfl _ _ (w.heap.size + 1 + 1) 28 #[.string (mxs a0_0 a1_0),.string a0_1,.bool false] (0,0) _ rfl (by refine zg ?_ _;exact F01.blk_at (by simp)) hu25 rfl (by kernel_rfl)) rfl ?_;exact ⟨rfl,by repeat (first|exact Below.refl _ _|refine za ?_ _)⟩
set_option maxHeartbeats 4000000 in
theorem F01.at_ff (a0_0 : ByteArray) (a0_1 : ByteArray) (a1_0 : ByteArray) (a1_1 : ByteArray) (w : World) :
  Calls Tryd.prog 22 #[.agg #[.string a0_0,.string a0_1,.bool false],.agg #[.string a1_0,.string a1_1,.bool false]] w fun e w' => e = .returned (.agg #[.string (mxs a0_0 a1_0),.string (mns a0_1 a1_1),.bool false])∧Below w.heap.size w w':=by
 have hu25:=Tryd.underlying28
 go_enter Tryd.func22,Tryd.ntmps22
 go_wp2
 refine bodyPost_ret (results_cell_row rfl _ _ (w.heap.size + 1 + 1) 28 #[.string (mxs a0_0 a1_0),.string (mns a0_1 a1_1),.bool false] (0,0) _ rfl (by refine zg ?_ _;exact F01.blk_at (by simp)) hu25 rfl (by kernel_rfl)) rfl ?_;exact ⟨rfl,by repeat (first|exact Below.refl _ _|refine za ?_ _)⟩
theorem F01.calls (a0_0 : ByteArray) (a0_1 : ByteArray) (a0_2 : Bool) (a1_0 : ByteArray) (a1_1 : ByteArray) (a1_2 : Bool) (r1 : ByteArray) (r2 : ByteArray) (r3 : Bool) (w : World) (h : F01.f a0_0 a0_1 a0_2 a1_0 a1_1 a1_2=some (r1,r2,r3)) :
  Calls Tryd.prog 22 #[.agg #[.string a0_0,.string a0_1,.bool a0_2],.agg #[.string a1_0,.string a1_1,.bool a1_2]] w fun e w' => e = .returned (.agg #[.string r1,.string r2,.bool r3])∧Below w.heap.size w w':=by
 unfold F01.f at h
 cases a0_2 <;> cases a1_2 <;> simp only [if_true,Bool.false_eq_true,if_false,Option.some.injEq,Prod.mk.injEq] at h <;> obtain ⟨rfl,rfl,rfl⟩:=h
 ·
  exact F01.at_ff _ _ _ _ _
 ·
  exact F01.at_ft _ _ _ _ _
 ·
  exact F01.at_tf _ _ _ _ _
 exact F01.at_tt _ _ _ _ _

end Go.Proofs.YthjgfjlogilleabDoor.Q
end
section
namespace Go.Proofs.YthjgfjlogilleabDoor.Q
open Go.RowKit Go.Proofs.YthjgfjlogilleabDoorW.PrintWords Go.Proofs.YthjgfjlogilleabDoorW.PrintLast Go.Proofs.YthjgfjlogilleabDoorW.PrintMore
attribute [local go_sem] max2_int min2_int max_two min_two max_three min_three max_four min_four max2_str min2_str str_geq str_gtr str_leq   -- for this text's walks alone
set_option linter.unusedVariables false
set_option linter.unusedSimpArgs false

mutual
def F1.j0 : Nat→Bool→Int→Bool→Int→ByteArray→Int→Int→ByteArray→ByteArray→ByteArray→Bool→ByteArray→ByteArray→Bool→Option (ByteArray×ByteArray×Bool)
 | 0,_,_,_,_,_,_,_,_,_,_,_,_,_,_ => none
 | k + 1,x1,x23,x27,x245000,x245001,x245002,x245003,x245004,x252000,x252001,x252002,x257000,x257001,x257002 => if x27=true then (if x245000=5 then (F1.j1 k x1 true x245000 x245001 x245002 x245003 x245004 x252000 x252001 x252002 x257000 x257001 x257002) else (F1.j1 k x1 (x245000 == 6) x245000 x245001 x245002 x245003 x245004 x252000 x252001 x252002 x257000 x257001 x257002)) else (if x23=9 then ((F8.f k (wrap64 (x245003 + 1)) 1).bind fun t263 => ((F02.f k t263 x1).bind fun t264 => ((Ft.f k t264).bind fun bt265 => (some (bt265.1,bt265.2.1,bt265.2.2))))) else (some ((⟨#[]⟩ : ByteArray),(⟨#[]⟩ : ByteArray),true)))
def F1.j1 : Nat→Bool→Bool→Int→ByteArray→Int→Int→ByteArray→ByteArray→ByteArray→Bool→ByteArray→ByteArray→Bool→Option (ByteArray×ByteArray×Bool)
 | 0,_,_,_,_,_,_,_,_,_,_,_,_,_ => none
 | k + 1,x1,x7,x245000,x245001,x245002,x245003,x245004,x252000,x252001,x252002,x257000,x257001,x257002 => if x245000=4 then (F1.j2 k x1 x7 true x252000 x252001 x252002 x257000 x257001 x257002) else (F1.j2 k x1 x7 (x245000 == 6) x252000 x252001 x252002 x257000 x257001 x257002)
def F1.j2 : Nat→Bool→Bool→Bool→ByteArray→ByteArray→Bool→ByteArray→ByteArray→Bool→Option (ByteArray×ByteArray×Bool)
 | 0,_,_,_,_,_,_,_,_,_ => none
 | k + 1,x1,x7,x8,x252000,x252001,x252002,x257000,x257001,x257002 => if (x7 != x1)=true then (if x8=true then (some (x257000,x252001,x252002)) else (if x257002=true then (some ((⟨#[]⟩ : ByteArray),(⟨#[]⟩ : ByteArray),false)) else (some (x257001,x252001,x252002)))) else (if x8=true then ((F01.f x252000 x252001 x252002 (⟨#[]⟩ : ByteArray) x257001 x257002).bind fun bt257 => (some (bt257.1,bt257.2.1,bt257.2.2))) else ((F01.f x252000 x252001 x252002 (⟨#[]⟩ : ByteArray) x257000 false).bind fun bt260 => (some (bt260.1,bt260.2.1,bt260.2.2))))
end
def F1.f (k : Nat) (a0_0 : Int) (a0_1 : ByteArray) (a0_2 : Int) (a0_3 : Int) (a0_4 : ByteArray) (a1 : Bool) : Option (ByteArray×ByteArray×Bool):=(F8.f k (wrap64 (a0_2 + 1)) 1).bind fun t246 => ((F02.f k t246 a1).bind fun t247 => ((Ft.f k t247).bind fun bt248 => ((F04.f k a0_2 a0_3 a0_4 a1).bind fun t252 => ((Ft.f k t252).bind fun bt253 => (if a0_0=1 then (some (bt253.1,bt253.2.1,bt253.2.2)) else (if a0_0=3 then (F1.j0 k a1 a0_0 (a0_0 == 3) a0_0 a0_1 a0_2 a0_3 a0_4 bt248.1 bt248.2.1 bt248.2.2 bt253.1 bt253.2.1 bt253.2.2) else (if a0_0=5 then (F1.j0 k a1 a0_0 (a0_0 == 5) a0_0 a0_1 a0_2 a0_3 a0_4 bt248.1 bt248.2.1 bt248.2.2 bt253.1 bt253.2.1 bt253.2.2) else (if a0_0=4 then (F1.j0 k a1 a0_0 (a0_0 == 4) a0_0 a0_1 a0_2 a0_3 a0_4 bt248.1 bt248.2.1 bt248.2.2 bt253.1 bt253.2.1 bt253.2.2) else (F1.j0 k a1 a0_0 (a0_0 == 6) a0_0 a0_1 a0_2 a0_3 a0_4 bt248.1 bt248.2.1 bt248.2.2 bt253.1 bt253.2.1 bt253.2.2)))))))))
theorem F1.mono_l : ∀ k,(∀ y0 y1 y2 y3 y4 y5 y6 y7 y8 y9 y10 y11 y12 y13,LeO (F1.j0 k y0 y1 y2 y3 y4 y5 y6 y7 y8 y9 y10 y11 y12 y13) (F1.j0 (k + 1) y0 y1 y2 y3 y4 y5 y6 y7 y8 y9 y10 y11 y12 y13))∧(∀ y0 y1 y2 y3 y4 y5 y6 y7 y8 y9 y10 y11 y12,LeO (F1.j1 k y0 y1 y2 y3 y4 y5 y6 y7 y8 y9 y10 y11 y12) (F1.j1 (k + 1) y0 y1 y2 y3 y4 y5 y6 y7 y8 y9 y10 y11 y12))∧(∀ y0 y1 y2 y3 y4 y5 y6 y7 y8,LeO (F1.j2 k y0 y1 y2 y3 y4 y5 y6 y7 y8) (F1.j2 (k + 1) y0 y1 y2 y3 y4 y5 y6 y7 y8))
 | 0 => ⟨fun _ _ _ _ _ _ _ _ _ _ _ _ _ _ r h => by simp [F1.j0] at h,fun _ _ _ _ _ _ _ _ _ _ _ _ _ r h => by simp [F1.j1] at h,fun _ _ _ _ _ _ _ _ _ r h => by simp [F1.j2] at h⟩
 | k + 1 => by
  obtain ⟨ih0,ih1,ih2⟩:=F1.mono_l k;refine ⟨?_,?_,?_⟩
  ·
   intro y0 y1 y2 y3 y4 y5 y6 y7 y8 y9 y10 y11 y12 y13
   unfold F1.j0
   repeat' first|(with_reducible first|exact ih0 _ _ _ _ _ _ _ _ _ _ _ _ _ _|exact ih1 _ _ _ _ _ _ _ _ _ _ _ _ _|exact ih2 _ _ _ _ _ _ _ _ _|exact Ft.mono _ _|exact F02.mono _ _ _|exact F8.mono _ _ _|exact F04.mono _ _ _ _ _|exact zQ _|exact zN _|refine zP ?_ ?_|refine zO ?_ (fun _ => ?_))|refine zP ?_ ?_|refine zO ?_ (fun _ => ?_)
  ·
   intro y0 y1 y2 y3 y4 y5 y6 y7 y8 y9 y10 y11 y12
   unfold F1.j1
   repeat' first|(with_reducible first|exact ih0 _ _ _ _ _ _ _ _ _ _ _ _ _ _|exact ih1 _ _ _ _ _ _ _ _ _ _ _ _ _|exact ih2 _ _ _ _ _ _ _ _ _|exact Ft.mono _ _|exact F02.mono _ _ _|exact F8.mono _ _ _|exact F04.mono _ _ _ _ _|exact zQ _|exact zN _|refine zP ?_ ?_|refine zO ?_ (fun _ => ?_))|refine zP ?_ ?_|refine zO ?_ (fun _ => ?_)
  intro y0 y1 y2 y3 y4 y5 y6 y7 y8;unfold F1.j2
  repeat' first|(with_reducible first|exact ih0 _ _ _ _ _ _ _ _ _ _ _ _ _ _|exact ih1 _ _ _ _ _ _ _ _ _ _ _ _ _|exact ih2 _ _ _ _ _ _ _ _ _|exact Ft.mono _ _|exact F02.mono _ _ _|exact F8.mono _ _ _|exact F04.mono _ _ _ _ _|exact zQ _|exact zN _|refine zP ?_ ?_|refine zO ?_ (fun _ => ?_))|refine zP ?_ ?_|refine zO ?_ (fun _ => ?_)
theorem F1.mono : ∀ a0 a1 a2 a3 a4 a5 k,LeO (F1.f k a0 a1 a2 a3 a4 a5) (F1.f (k + 1) a0 a1 a2 a3 a4 a5):=by
 intro a0 a1 a2 a3 a4 a5 k;obtain ⟨ih0,ih1,ih2⟩:=F1.mono_l k;unfold F1.f
 repeat' first|(with_reducible first|exact ih0 _ _ _ _ _ _ _ _ _ _ _ _ _ _|exact ih1 _ _ _ _ _ _ _ _ _ _ _ _ _|exact ih2 _ _ _ _ _ _ _ _ _|exact Ft.mono _ _|exact F02.mono _ _ _|exact F8.mono _ _ _|exact F04.mono _ _ _ _ _|exact zQ _|exact zN _|refine zP ?_ ?_|refine zO ?_ (fun _ => ?_))|refine zP ?_ ?_|refine zO ?_ (fun _ => ?_)
set_option maxHeartbeats 8000000 in
set_option maxRecDepth 100000 in
theorem F1.calls (k : Nat) (a0_0 : Int) (a0_1 : ByteArray) (a0_2 : Int) (a0_3 : Int) (a0_4 : ByteArray) (a1 : Bool) (r1 : ByteArray) (r2 : ByteArray) (r3 : Bool) (w : World) (h : F1.f k a0_0 a0_1 a0_2 a0_3 a0_4 a1=some (r1,r2,r3)) :
  Calls Tryd.prog 11 #[.agg #[.int .i64 a0_0,.string a0_1,.int .i64 a0_2,.int .i64 a0_3,.string a0_4],.bool a1] w fun e w' => e = .returned (.agg #[.string r1,.string r2,.bool r3])∧Below w.heap.size w w':=by
 have hu33:=Tryd.underlying33;have hu28:=Tryd.underlying28;have hu31:=Tryd.underlying31;have HB:=zh (Below.refl w.heap.size w);have H : ((F8.f k (wrap64 (a0_2 + 1)) 1).bind fun t246 => ((F02.f k t246 a1).bind fun t247 => ((Ft.f k t247).bind fun bt248 => ((F04.f k a0_2 a0_3 a0_4 a1).bind fun t252 => ((Ft.f k t252).bind fun bt253 => (if a0_0=1 then (some (bt253.1,bt253.2.1,bt253.2.2)) else (if a0_0=3 then (F1.j0 k a1 a0_0 (a0_0 == 3) a0_0 a0_1 a0_2 a0_3 a0_4 bt248.1 bt248.2.1 bt248.2.2 bt253.1 bt253.2.1 bt253.2.2) else (if a0_0=5 then (F1.j0 k a1 a0_0 (a0_0 == 5) a0_0 a0_1 a0_2 a0_3 a0_4 bt248.1 bt248.2.1 bt248.2.2 bt253.1 bt253.2.1 bt253.2.2) else (if a0_0=4 then (F1.j0 k a1 a0_0 (a0_0 == 4) a0_0 a0_1 a0_2 a0_3 a0_4 bt248.1 bt248.2.1 bt248.2.2 bt253.1 bt253.2.1 bt253.2.2) else (F1.j0 k a1 a0_0 (a0_0 == 6) a0_0 a0_1 a0_2 a0_3 a0_4 bt248.1 bt248.2.1 bt248.2.2 bt253.1 bt253.2.1 bt253.2.2))))))))))=some (r1,r2,r3):=h;clear h;replace H:=zT.mp H;obtain ⟨t246,A30,H⟩:=H;replace H : ((F02.f k t246 a1).bind fun t247 => ((Ft.f k t247).bind fun bt248 => ((F04.f k a0_2 a0_3 a0_4 a1).bind fun t252 => ((Ft.f k t252).bind fun bt253 => (if a0_0=1 then (some (bt253.1,bt253.2.1,bt253.2.2)) else (if a0_0=3 then (F1.j0 k a1 a0_0 (a0_0 == 3) a0_0 a0_1 a0_2 a0_3 a0_4 bt248.1 bt248.2.1 bt248.2.2 bt253.1 bt253.2.1 bt253.2.2) else (if a0_0=5 then (F1.j0 k a1 a0_0 (a0_0 == 5) a0_0 a0_1 a0_2 a0_3 a0_4 bt248.1 bt248.2.1 bt248.2.2 bt253.1 bt253.2.1 bt253.2.2) else (if a0_0=4 then (F1.j0 k a1 a0_0 (a0_0 == 4) a0_0 a0_1 a0_2 a0_3 a0_4 bt248.1 bt248.2.1 bt248.2.2 bt253.1 bt253.2.1 bt253.2.2) else (F1.j0 k a1 a0_0 (a0_0 == 6) a0_0 a0_1 a0_2 a0_3 a0_4 bt248.1 bt248.2.1 bt248.2.2 bt253.1 bt253.2.1 bt253.2.2)))))))))=some (r1,r2,r3):=H;have A3:=zh A30;clear A30;replace H:=zT.mp H;obtain ⟨t247,A40,H⟩:=H;replace H : ((Ft.f k t247).bind fun bt248 => ((F04.f k a0_2 a0_3 a0_4 a1).bind fun t252 => ((Ft.f k t252).bind fun bt253 => (if a0_0=1 then (some (bt253.1,bt253.2.1,bt253.2.2)) else (if a0_0=3 then (F1.j0 k a1 a0_0 (a0_0 == 3) a0_0 a0_1 a0_2 a0_3 a0_4 bt248.1 bt248.2.1 bt248.2.2 bt253.1 bt253.2.1 bt253.2.2) else (if a0_0=5 then (F1.j0 k a1 a0_0 (a0_0 == 5) a0_0 a0_1 a0_2 a0_3 a0_4 bt248.1 bt248.2.1 bt248.2.2 bt253.1 bt253.2.1 bt253.2.2) else (if a0_0=4 then (F1.j0 k a1 a0_0 (a0_0 == 4) a0_0 a0_1 a0_2 a0_3 a0_4 bt248.1 bt248.2.1 bt248.2.2 bt253.1 bt253.2.1 bt253.2.2) else (F1.j0 k a1 a0_0 (a0_0 == 6) a0_0 a0_1 a0_2 a0_3 a0_4 bt248.1 bt248.2.1 bt248.2.2 bt253.1 bt253.2.1 bt253.2.2))))))))=some (r1,r2,r3):=H;have A4:=zh A40;clear A40;replace H:=zT.mp H;obtain ⟨⟨t248,t249,t250⟩,A50,H⟩:=H;replace H : ((F04.f k a0_2 a0_3 a0_4 a1).bind fun t252 => ((Ft.f k t252).bind fun bt253 => (if a0_0=1 then (some (bt253.1,bt253.2.1,bt253.2.2)) else (if a0_0=3 then (F1.j0 k a1 a0_0 (a0_0 == 3) a0_0 a0_1 a0_2 a0_3 a0_4 t248 t249 t250 bt253.1 bt253.2.1 bt253.2.2) else (if a0_0=5 then (F1.j0 k a1 a0_0 (a0_0 == 5) a0_0 a0_1 a0_2 a0_3 a0_4 t248 t249 t250 bt253.1 bt253.2.1 bt253.2.2) else (if a0_0=4 then (F1.j0 k a1 a0_0 (a0_0 == 4) a0_0 a0_1 a0_2 a0_3 a0_4 t248 t249 t250 bt253.1 bt253.2.1 bt253.2.2) else (F1.j0 k a1 a0_0 (a0_0 == 6) a0_0 a0_1 a0_2 a0_3 a0_4 t248 t249 t250 bt253.1 bt253.2.1 bt253.2.2)))))))=some (r1,r2,r3):=H;have A5:=zh A50;clear A50;replace H:=zT.mp H;obtain ⟨t252,A60,H⟩:=H;replace H : ((Ft.f k t252).bind fun bt253 => (if a0_0=1 then (some (bt253.1,bt253.2.1,bt253.2.2)) else (if a0_0=3 then (F1.j0 k a1 a0_0 (a0_0 == 3) a0_0 a0_1 a0_2 a0_3 a0_4 t248 t249 t250 bt253.1 bt253.2.1 bt253.2.2) else (if a0_0=5 then (F1.j0 k a1 a0_0 (a0_0 == 5) a0_0 a0_1 a0_2 a0_3 a0_4 t248 t249 t250 bt253.1 bt253.2.1 bt253.2.2) else (if a0_0=4 then (F1.j0 k a1 a0_0 (a0_0 == 4) a0_0 a0_1 a0_2 a0_3 a0_4 t248 t249 t250 bt253.1 bt253.2.1 bt253.2.2) else (F1.j0 k a1 a0_0 (a0_0 == 6) a0_0 a0_1 a0_2 a0_3 a0_4 t248 t249 t250 bt253.1 bt253.2.1 bt253.2.2))))))=some (r1,r2,r3):=H;have A6:=zh A60;clear A60;replace H:=zT.mp H;obtain ⟨⟨t253,t254,t255⟩,A70,H⟩:=H;replace H : (if a0_0=1 then (some (t253,t254,t255)) else (if a0_0=3 then (F1.j0 k a1 a0_0 (a0_0 == 3) a0_0 a0_1 a0_2 a0_3 a0_4 t248 t249 t250 t253 t254 t255) else (if a0_0=5 then (F1.j0 k a1 a0_0 (a0_0 == 5) a0_0 a0_1 a0_2 a0_3 a0_4 t248 t249 t250 t253 t254 t255) else (if a0_0=4 then (F1.j0 k a1 a0_0 (a0_0 == 4) a0_0 a0_1 a0_2 a0_3 a0_4 t248 t249 t250 t253 t254 t255) else (F1.j0 k a1 a0_0 (a0_0 == 6) a0_0 a0_1 a0_2 a0_3 a0_4 t248 t249 t250 t253 t254 t255)))))=some (r1,r2,r3):=H;have A7:=zh A70;clear A70
 by_cases c8 : a0_0=1
 ·
  rw [if_pos c8] at H
  have c8b0 : (a0_0 == 1)=true:=ya.mpr c8;have c8b1 : (a0_0 != 1)=false:=zX.mpr c8;clear c8;simp only [Option.some.injEq,Prod.mk.injEq] at H;obtain ⟨rfl,rfl,rfl⟩:=H
  go_enter Tryd.func11,Tryd.ntmps11
  go_wp2_with (first|((with_reducible refine zK (N:=2) rfl ?_);refine zI ?hg (N:=2) ?hd (cs:=#[.int .i64 a0_0,.string a0_1,.int .i64 a0_2,.int .i64 a0_3,.string a0_4]) (t:=33) ?hr ?_;(case hd|hg => rfl);(case hr => go_simp <;> rfl);intro gb244 hg w9 hbox hb;have BK244:=zh (hbox);have hH_:=cH (by repeat (with_reducible first|exact HB.out|apply za|apply zb|apply zc)) hb hg;have GW244:=zh hH_.1;have GE244:=GW244;replace HB:=zh hH_.2;clear hb hbox hg hH_)|((with_reducible refine zK (N:=4) rfl ?_);refine zI ?hg (N:=4) ?hd (cs:=#[.string (⟨#[]⟩ : ByteArray),.string (⟨#[]⟩ : ByteArray),.bool false]) (t:=28) ?hr ?_;(case hd|hg => rfl);(case hr => go_simp <;> rfl);intro gb245 hg w10 hbox hb;have BK245:=zh (hbox);have hH_:=cH (by repeat (with_reducible first|exact HB.out|apply za|apply zb|apply zc|refine zd ?_ GE244.out)) hb hg;have GW245:=zh hH_.1;have GE245:=GW245;replace HB:=zh hH_.2;have NB244_245:=zh ((by rw [hg];exact yc (yi (g:=gb244) (o:=.cells #[.int .i64 a0_0,.string a0_1,.int .i64 a0_2,.int .i64 a0_3,.string a0_4] 33 (0,0)) (by (with_reducible repeat first|apply ze|apply zf|apply zg);exact BK244.out)) : gb244≠gb245));have NB245_244:=zh NB244_245.out.symm;replace BK244:=zh (cD BK244.out (by (with_reducible repeat first|apply ze|apply zf|apply zg);exact BK244.out) hb);clear hb hbox hg hH_;have hnb11:=NB244_245.out;have hnc11:=NB245_244.out;obtain ⟨hcz12_0,hcz12_1,hcz12_2,hcz12_3,hcz12_4,hfz12_0,hfz12_1,hfz12_2,hfz12_3,hfz12_4⟩:=cB5 BK244.out)|((with_reducible refine zJ (f:=20) rfl ?_);refine yj (some 13) rfl rfl Tryd.func20 (by kernel_rfl) rfl #[.int .i64 (wrap64 (a0_2 + 1)),.int .i64 1] rfl (by (try simp only [zt,zu,zv]);first|done|rfl|(simp only [zw,zx];rfl)|(simp only [yr,ys,zV,zW];rfl)) ?_;(with_reducible refine (F8.calls k  (wrap64 (a0_2 + 1)) 1 t246 _ A3.out).mono ?_);rintro e w13 ⟨rfl,hb⟩;refine ⟨_,rfl,?_⟩;replace BK244:=zh (cD BK244.out (by (with_reducible repeat first|apply ze|apply zf|apply zg);exact BK244.out) hb);replace BK245:=zh (cD BK245.out (by (with_reducible repeat first|apply ze|apply zf|apply zg);exact BK245.out) hb);replace HB:=zh (zC (by repeat (with_reducible first|exact HB.out|apply za|apply zb|apply zc|refine zd ?_ GE244.out|refine zd ?_ GE245.out)) hb);(try clear hb);(try clear hb2);(try clear hk);(try clear hi))|((with_reducible refine zJ (f:=19) rfl ?_);refine yj (some 15) rfl rfl Tryd.func19 (by kernel_rfl) rfl #[.string t246,.bool a1] rfl (by (try simp only [zt,zu,zv]);first|done|rfl|(simp only [zw,zx];rfl)|(simp only [yr,ys,zV,zW];rfl)) ?_;(with_reducible refine (F02.calls k  t246 a1 t247 _ A4.out).mono ?_);rintro e w14 ⟨rfl,hb⟩;refine ⟨_,rfl,?_⟩;replace BK244:=zh (cD BK244.out (by (with_reducible repeat first|apply ze|apply zf|apply zg);exact BK244.out) hb);replace BK245:=zh (cD BK245.out (by (with_reducible repeat first|apply ze|apply zf|apply zg);exact BK245.out) hb);replace HB:=zh (zC (by repeat (with_reducible first|exact HB.out|apply za|apply zb|apply zc|refine zd ?_ GE244.out|refine zd ?_ GE245.out)) hb);(try clear hb);(try clear hb2);(try clear hk);(try clear hi))|((with_reducible refine zJ (f:=18) rfl ?_);refine yj (some 16) rfl rfl Tryd.func18 (by kernel_rfl) rfl #[.string t247] rfl (by (try simp only [zt,zu,zv]);first|done|rfl|(simp only [zw,zx];rfl)|(simp only [yr,ys,zV,zW];rfl)) ?_;(with_reducible refine (Ft.calls k  t247 t248 t249 t250 _ A5.out).mono ?_);rintro e w15 ⟨rfl,hb⟩;refine ⟨_,rfl,?_⟩;replace BK244:=zh (cD BK244.out (by (with_reducible repeat first|apply ze|apply zf|apply zg);exact BK244.out) hb);replace BK245:=zh (cD BK245.out (by (with_reducible repeat first|apply ze|apply zf|apply zg);exact BK245.out) hb);replace HB:=zh (zC (by repeat (with_reducible first|exact HB.out|apply za|apply zb|apply zc|refine zd ?_ GE244.out|refine zd ?_ GE245.out)) hb);(try clear hb);(try clear hb2);(try clear hk);(try clear hi))|((with_reducible refine zK (N:=5) rfl ?_);refine zI ?hg (N:=5) ?hd (cs:=#[.string (⟨#[]⟩ : ByteArray),.string (⟨#[]⟩ : ByteArray),.bool false]) (t:=28) ?hr ?_;(case hd|hg => rfl);(case hr => go_simp <;> rfl);intro gb251 hg w16 hbox hb;have BK251:=zh (hbox);have hH_:=cH (by repeat (with_reducible first|exact HB.out|apply za|apply zb|apply zc|refine zd ?_ GE244.out|refine zd ?_ GE245.out)) hb hg;have GW251:=zh hH_.1;have GE251:=GW251;replace HB:=zh hH_.2;have NB244_251:=zh ((by rw [hg];exact yc (yi (g:=gb244) (o:=.cells #[.int .i64 a0_0,.string a0_1,.int .i64 a0_2,.int .i64 a0_3,.string a0_4] 33 (0,0)) (by (with_reducible repeat first|apply ze|apply zf|apply zg);exact BK244.out)) : gb244≠gb251));have NB251_244:=zh NB244_251.out.symm;replace BK244:=zh (cD BK244.out (by (with_reducible repeat first|apply ze|apply zf|apply zg);exact BK244.out) hb);have NB245_251:=zh ((by rw [hg];exact yc (yi (g:=gb245) (o:=.cells #[.string (⟨#[]⟩ : ByteArray),.string (⟨#[]⟩ : ByteArray),.bool false] 28 (0,0)) (by (with_reducible repeat first|apply ze|apply zf|apply zg);exact BK245.out)) : gb245≠gb251));have NB251_245:=zh NB245_251.out.symm;replace BK245:=zh (cD BK245.out (by (with_reducible repeat first|apply ze|apply zf|apply zg);exact BK245.out) hb);clear hb hbox hg hH_;have hnb17:=NB251_244.out;have hnc17:=NB244_251.out;have hnb18:=NB251_245.out;have hnc18:=NB245_251.out;obtain ⟨hcz19_0,hcz19_1,hcz19_2,hfz19_0,hfz19_1,hfz19_2⟩:=cB3 BK251.out;obtain ⟨hcz20_0,hcz20_1,hcz20_2,hcz20_3,hcz20_4,hfz20_0,hfz20_1,hfz20_2,hfz20_3,hfz20_4⟩:=cB5 BK244.out)|((with_reducible refine zJ (f:=21) rfl ?_);refine yj (some 20) rfl rfl Tryd.func21 (by kernel_rfl) rfl #[.agg #[.int .i64 a0_2,.int .i64 a0_3,.string a0_4],.bool a1] rfl (by (try simp only [zt,zu,zv]);first|done|rfl|(simp only [zw,zx];rfl)|(simp only [yr,ys,zV,zW];rfl)) ?_;(with_reducible refine (F04.calls k  a0_2 a0_3 a0_4 a1 t252 _ A6.out).mono ?_);rintro e w21 ⟨rfl,hb⟩;refine ⟨_,rfl,?_⟩;replace BK244:=zh (cD BK244.out (by (with_reducible repeat first|apply ze|apply zf|apply zg);refine cS3 ?_ NB244_251.out;(with_reducible repeat first|apply ze|apply zf|apply zg);exact BK244.out) hb);replace BK245:=zh (cD BK245.out (by (with_reducible repeat first|apply ze|apply zf|apply zg);refine cS3 ?_ NB245_251.out;(with_reducible repeat first|apply ze|apply zf|apply zg);exact BK245.out) hb);replace BK251:=zh (zD (g:=gb251) (o:=.cells #[.string t248,.string t249,.bool t250] 28 (0,0)) (by (with_reducible repeat first|apply ze|apply zf|apply zg);refine zL (cs:=#[.string t248,.string t249,.bool false]) ?_ 2 _ rfl;(with_reducible repeat first|apply ze|apply zf|apply zg);refine zL (cs:=#[.string t248,.string (⟨#[]⟩ : ByteArray),.bool false]) ?_ 1 _ rfl;(with_reducible repeat first|apply ze|apply zf|apply zg);refine zL (cs:=#[.string (⟨#[]⟩ : ByteArray),.string (⟨#[]⟩ : ByteArray),.bool false]) ?_ 0 _ rfl;(with_reducible repeat first|apply ze|apply zf|apply zg);exact BK251.out) hb);replace HB:=zh (zC (by repeat (with_reducible first|exact HB.out|apply za|apply zb|apply zc|refine zd ?_ GE244.out|refine zd ?_ GE245.out|refine zd ?_ GE251.out)) hb);(try clear hb);(try clear hb2);(try clear hk);(try clear hi))|((with_reducible refine zJ (f:=18) rfl ?_);refine yj (some 21) rfl rfl Tryd.func18 (by kernel_rfl) rfl #[.string t252] rfl (by (try simp only [zt,zu,zv]);first|done|rfl|(simp only [zw,zx];rfl)|(simp only [yr,ys,zV,zW];rfl)) ?_;(with_reducible refine (Ft.calls k  t252 t253 t254 t255 _ A7.out).mono ?_);rintro e w22 ⟨rfl,hb⟩;refine ⟨_,rfl,?_⟩;replace BK244:=zh (cD BK244.out (by (with_reducible repeat first|apply ze|apply zf|apply zg);exact BK244.out) hb);replace BK245:=zh (cD BK245.out (by (with_reducible repeat first|apply ze|apply zf|apply zg);exact BK245.out) hb);replace BK251:=zh (cD BK251.out (by (with_reducible repeat first|apply ze|apply zf|apply zg);exact BK251.out) hb);replace HB:=zh (zC (by repeat (with_reducible first|exact HB.out|apply za|apply zb|apply zc|refine zd ?_ GE244.out|refine zd ?_ GE245.out|refine zd ?_ GE251.out)) hb);(try clear hb);(try clear hb2);(try clear hk);(try clear hi))|((with_reducible refine zK (N:=6) rfl ?_);refine zI ?hg (N:=6) ?hd (cs:=#[.string (⟨#[]⟩ : ByteArray),.string (⟨#[]⟩ : ByteArray),.bool false]) (t:=28) ?hr ?_;(case hd|hg => rfl);(case hr => go_simp <;> rfl);intro gb256 hg w23 hbox hb;have BK256:=zh (hbox);have hH_:=cH (by repeat (with_reducible first|exact HB.out|apply za|apply zb|apply zc|refine zd ?_ GE244.out|refine zd ?_ GE245.out|refine zd ?_ GE251.out)) hb hg;have GW256:=zh hH_.1;have GE256:=GW256;replace HB:=zh hH_.2;have NB244_256:=zh ((by rw [hg];exact yc (yi (g:=gb244) (o:=.cells #[.int .i64 a0_0,.string a0_1,.int .i64 a0_2,.int .i64 a0_3,.string a0_4] 33 (0,0)) (by (with_reducible repeat first|apply ze|apply zf|apply zg);exact BK244.out)) : gb244≠gb256));have NB256_244:=zh NB244_256.out.symm;replace BK244:=zh (cD BK244.out (by (with_reducible repeat first|apply ze|apply zf|apply zg);exact BK244.out) hb);have NB245_256:=zh ((by rw [hg];exact yc (yi (g:=gb245) (o:=.cells #[.string (⟨#[]⟩ : ByteArray),.string (⟨#[]⟩ : ByteArray),.bool false] 28 (0,0)) (by (with_reducible repeat first|apply ze|apply zf|apply zg);exact BK245.out)) : gb245≠gb256));have NB256_245:=zh NB245_256.out.symm;replace BK245:=zh (cD BK245.out (by (with_reducible repeat first|apply ze|apply zf|apply zg);exact BK245.out) hb);have NB251_256:=zh ((by rw [hg];exact yc (yi (g:=gb251) (o:=.cells #[.string t248,.string t249,.bool t250] 28 (0,0)) (by (with_reducible repeat first|apply ze|apply zf|apply zg);exact BK251.out)) : gb251≠gb256));have NB256_251:=zh NB251_256.out.symm;replace BK251:=zh (cD BK251.out (by (with_reducible repeat first|apply ze|apply zf|apply zg);exact BK251.out) hb);clear hb hbox hg hH_;have hnb24:=NB256_244.out;have hnc24:=NB244_256.out;have hnb25:=NB256_245.out;have hnc25:=NB245_256.out;have hnb26:=NB256_251.out;have hnc26:=NB251_256.out;obtain ⟨hcz27_0,hcz27_1,hcz27_2,hfz27_0,hfz27_1,hfz27_2⟩:=cB3 BK256.out;obtain ⟨hcz28_0,hcz28_1,hcz28_2,hcz28_3,hcz28_4,hfz28_0,hfz28_1,hfz28_2,hfz28_3,hfz28_4⟩:=cB5 BK244.out;obtain ⟨hcz29_0,hcz29_1,hcz29_2,hfz29_0,hfz29_1,hfz29_2⟩:=cB3 BK245.out))
  refine bodyPost_ret (results_cell_row rfl _ _ gb245 28 #[.string t253,.string t254,.bool t255] (0,0) _ rfl (by (with_reducible repeat first|apply ze|apply zf|apply zg);refine zL (cs:=#[.string t253,.string t254,.bool false]) ?_ 2 _ rfl;(with_reducible repeat first|apply ze|apply zf|apply zg);refine zL (cs:=#[.string t253,.string (⟨#[]⟩ : ByteArray),.bool false]) ?_ 1 _ rfl;(with_reducible repeat first|apply ze|apply zf|apply zg);refine zL (cs:=#[.string (⟨#[]⟩ : ByteArray),.string (⟨#[]⟩ : ByteArray),.bool false]) ?_ 0 _ rfl;(with_reducible repeat first|apply ze|apply zf|apply zg);refine cS3 ?_ NB245_256.out;(with_reducible repeat first|apply ze|apply zf|apply zg);exact BK245.out) Tryd.underlying28 rfl (by kernel_rfl)) rfl ?_;exact ⟨by first|rfl|(simp [yt,yu] <;> rfl)|(simp [*,yt,yu] <;> rfl),by repeat (with_reducible first|exact HB.out|apply za|apply zb|apply zc|refine zd ?_ GE244.out|refine zd ?_ GE245.out|refine zd ?_ GE251.out|refine zd ?_ GE256.out)⟩
 rw [if_neg c8] at H;have c8b0 : (a0_0 == 1)=false:=zY.mpr c8;have c8b1 : (a0_0 != 1)=true:=zZ.mpr c8;have HC30:=zh H;clear H
 go_enter Tryd.func11,Tryd.ntmps11
 go_upto_if 27 with (first|((with_reducible refine zK (N:=2) rfl ?_);refine zI ?hg (N:=2) ?hd (cs:=#[.int .i64 a0_0,.string a0_1,.int .i64 a0_2,.int .i64 a0_3,.string a0_4]) (t:=33) ?hr ?_;(case hd|hg => rfl);(case hr => go_simp <;> rfl);intro gb244 hg w31 hbox hb;have BK244:=zh (hbox);have hH_:=cH (by repeat (with_reducible first|exact HB.out|apply za|apply zb|apply zc)) hb hg;have GW244:=zh hH_.1;have GE244:=GW244;replace HB:=zh hH_.2;clear hb hbox hg hH_)|((with_reducible refine zK (N:=4) rfl ?_);refine zI ?hg (N:=4) ?hd (cs:=#[.string (⟨#[]⟩ : ByteArray),.string (⟨#[]⟩ : ByteArray),.bool false]) (t:=28) ?hr ?_;(case hd|hg => rfl);(case hr => go_simp <;> rfl);intro gb245 hg w32 hbox hb;have BK245:=zh (hbox);have hH_:=cH (by repeat (with_reducible first|exact HB.out|apply za|apply zb|apply zc|refine zd ?_ GE244.out)) hb hg;have GW245:=zh hH_.1;have GE245:=GW245;replace HB:=zh hH_.2;have NB244_245:=zh ((by rw [hg];exact yc (yi (g:=gb244) (o:=.cells #[.int .i64 a0_0,.string a0_1,.int .i64 a0_2,.int .i64 a0_3,.string a0_4] 33 (0,0)) (by (with_reducible repeat first|apply ze|apply zf|apply zg);exact BK244.out)) : gb244≠gb245));have NB245_244:=zh NB244_245.out.symm;replace BK244:=zh (cD BK244.out (by (with_reducible repeat first|apply ze|apply zf|apply zg);exact BK244.out) hb);clear hb hbox hg hH_;have hnb33:=NB244_245.out;have hnc33:=NB245_244.out;obtain ⟨hcz34_0,hcz34_1,hcz34_2,hcz34_3,hcz34_4,hfz34_0,hfz34_1,hfz34_2,hfz34_3,hfz34_4⟩:=cB5 BK244.out)|((with_reducible refine zJ (f:=20) rfl ?_);refine yj (some 13) rfl rfl Tryd.func20 (by kernel_rfl) rfl #[.int .i64 (wrap64 (a0_2 + 1)),.int .i64 1] rfl (by (try simp only [zt,zu,zv]);first|done|rfl|(simp only [zw,zx];rfl)|(simp only [yr,ys,zV,zW];rfl)) ?_;(with_reducible refine (F8.calls k  (wrap64 (a0_2 + 1)) 1 t246 _ A3.out).mono ?_);rintro e w35 ⟨rfl,hb⟩;refine ⟨_,rfl,?_⟩;replace BK244:=zh (cD BK244.out (by (with_reducible repeat first|apply ze|apply zf|apply zg);exact BK244.out) hb);replace BK245:=zh (cD BK245.out (by (with_reducible repeat first|apply ze|apply zf|apply zg);exact BK245.out) hb);replace HB:=zh (zC (by repeat (with_reducible first|exact HB.out|apply za|apply zb|apply zc|refine zd ?_ GE244.out|refine zd ?_ GE245.out)) hb);(try clear hb);(try clear hb2);(try clear hk);(try clear hi))|((with_reducible refine zJ (f:=19) rfl ?_);refine yj (some 15) rfl rfl Tryd.func19 (by kernel_rfl) rfl #[.string t246,.bool a1] rfl (by (try simp only [zt,zu,zv]);first|done|rfl|(simp only [zw,zx];rfl)|(simp only [yr,ys,zV,zW];rfl)) ?_;(with_reducible refine (F02.calls k  t246 a1 t247 _ A4.out).mono ?_);rintro e w36 ⟨rfl,hb⟩;refine ⟨_,rfl,?_⟩;replace BK244:=zh (cD BK244.out (by (with_reducible repeat first|apply ze|apply zf|apply zg);exact BK244.out) hb);replace BK245:=zh (cD BK245.out (by (with_reducible repeat first|apply ze|apply zf|apply zg);exact BK245.out) hb);replace HB:=zh (zC (by repeat (with_reducible first|exact HB.out|apply za|apply zb|apply zc|refine zd ?_ GE244.out|refine zd ?_ GE245.out)) hb);(try clear hb);(try clear hb2);(try clear hk);(try clear hi))|((with_reducible refine zJ (f:=18) rfl ?_);refine yj (some 16) rfl rfl Tryd.func18 (by kernel_rfl) rfl #[.string t247] rfl (by (try simp only [zt,zu,zv]);first|done|rfl|(simp only [zw,zx];rfl)|(simp only [yr,ys,zV,zW];rfl)) ?_;(with_reducible refine (Ft.calls k  t247 t248 t249 t250 _ A5.out).mono ?_);rintro e w37 ⟨rfl,hb⟩;refine ⟨_,rfl,?_⟩;replace BK244:=zh (cD BK244.out (by (with_reducible repeat first|apply ze|apply zf|apply zg);exact BK244.out) hb);replace BK245:=zh (cD BK245.out (by (with_reducible repeat first|apply ze|apply zf|apply zg);exact BK245.out) hb);replace HB:=zh (zC (by repeat (with_reducible first|exact HB.out|apply za|apply zb|apply zc|refine zd ?_ GE244.out|refine zd ?_ GE245.out)) hb);(try clear hb);(try clear hb2);(try clear hk);(try clear hi))|((with_reducible refine zK (N:=5) rfl ?_);refine zI ?hg (N:=5) ?hd (cs:=#[.string (⟨#[]⟩ : ByteArray),.string (⟨#[]⟩ : ByteArray),.bool false]) (t:=28) ?hr ?_;(case hd|hg => rfl);(case hr => go_simp <;> rfl);intro gb251 hg w38 hbox hb;have BK251:=zh (hbox);have hH_:=cH (by repeat (with_reducible first|exact HB.out|apply za|apply zb|apply zc|refine zd ?_ GE244.out|refine zd ?_ GE245.out)) hb hg;have GW251:=zh hH_.1;have GE251:=GW251;replace HB:=zh hH_.2;have NB244_251:=zh ((by rw [hg];exact yc (yi (g:=gb244) (o:=.cells #[.int .i64 a0_0,.string a0_1,.int .i64 a0_2,.int .i64 a0_3,.string a0_4] 33 (0,0)) (by (with_reducible repeat first|apply ze|apply zf|apply zg);exact BK244.out)) : gb244≠gb251));have NB251_244:=zh NB244_251.out.symm;replace BK244:=zh (cD BK244.out (by (with_reducible repeat first|apply ze|apply zf|apply zg);exact BK244.out) hb);have NB245_251:=zh ((by rw [hg];exact yc (yi (g:=gb245) (o:=.cells #[.string (⟨#[]⟩ : ByteArray),.string (⟨#[]⟩ : ByteArray),.bool false] 28 (0,0)) (by (with_reducible repeat first|apply ze|apply zf|apply zg);exact BK245.out)) : gb245≠gb251));have NB251_245:=zh NB245_251.out.symm;replace BK245:=zh (cD BK245.out (by (with_reducible repeat first|apply ze|apply zf|apply zg);exact BK245.out) hb);clear hb hbox hg hH_;have hnb39:=NB251_244.out;have hnc39:=NB244_251.out;have hnb40:=NB251_245.out;have hnc40:=NB245_251.out;obtain ⟨hcz41_0,hcz41_1,hcz41_2,hfz41_0,hfz41_1,hfz41_2⟩:=cB3 BK251.out;obtain ⟨hcz42_0,hcz42_1,hcz42_2,hcz42_3,hcz42_4,hfz42_0,hfz42_1,hfz42_2,hfz42_3,hfz42_4⟩:=cB5 BK244.out)|((with_reducible refine zJ (f:=21) rfl ?_);refine yj (some 20) rfl rfl Tryd.func21 (by kernel_rfl) rfl #[.agg #[.int .i64 a0_2,.int .i64 a0_3,.string a0_4],.bool a1] rfl (by (try simp only [zt,zu,zv]);first|done|rfl|(simp only [zw,zx];rfl)|(simp only [yr,ys,zV,zW];rfl)) ?_;(with_reducible refine (F04.calls k  a0_2 a0_3 a0_4 a1 t252 _ A6.out).mono ?_);rintro e w43 ⟨rfl,hb⟩;refine ⟨_,rfl,?_⟩;replace BK244:=zh (cD BK244.out (by (with_reducible repeat first|apply ze|apply zf|apply zg);refine cS3 ?_ NB244_251.out;(with_reducible repeat first|apply ze|apply zf|apply zg);exact BK244.out) hb);replace BK245:=zh (cD BK245.out (by (with_reducible repeat first|apply ze|apply zf|apply zg);refine cS3 ?_ NB245_251.out;(with_reducible repeat first|apply ze|apply zf|apply zg);exact BK245.out) hb);replace BK251:=zh (zD (g:=gb251) (o:=.cells #[.string t248,.string t249,.bool t250] 28 (0,0)) (by (with_reducible repeat first|apply ze|apply zf|apply zg);refine zL (cs:=#[.string t248,.string t249,.bool false]) ?_ 2 _ rfl;(with_reducible repeat first|apply ze|apply zf|apply zg);refine zL (cs:=#[.string t248,.string (⟨#[]⟩ : ByteArray),.bool false]) ?_ 1 _ rfl;(with_reducible repeat first|apply ze|apply zf|apply zg);refine zL (cs:=#[.string (⟨#[]⟩ : ByteArray),.string (⟨#[]⟩ : ByteArray),.bool false]) ?_ 0 _ rfl;(with_reducible repeat first|apply ze|apply zf|apply zg);exact BK251.out) hb);replace HB:=zh (zC (by repeat (with_reducible first|exact HB.out|apply za|apply zb|apply zc|refine zd ?_ GE244.out|refine zd ?_ GE245.out|refine zd ?_ GE251.out)) hb);(try clear hb);(try clear hb2);(try clear hk);(try clear hi))|((with_reducible refine zJ (f:=18) rfl ?_);refine yj (some 21) rfl rfl Tryd.func18 (by kernel_rfl) rfl #[.string t252] rfl (by (try simp only [zt,zu,zv]);first|done|rfl|(simp only [zw,zx];rfl)|(simp only [yr,ys,zV,zW];rfl)) ?_;(with_reducible refine (Ft.calls k  t252 t253 t254 t255 _ A7.out).mono ?_);rintro e w44 ⟨rfl,hb⟩;refine ⟨_,rfl,?_⟩;replace BK244:=zh (cD BK244.out (by (with_reducible repeat first|apply ze|apply zf|apply zg);exact BK244.out) hb);replace BK245:=zh (cD BK245.out (by (with_reducible repeat first|apply ze|apply zf|apply zg);exact BK245.out) hb);replace BK251:=zh (cD BK251.out (by (with_reducible repeat first|apply ze|apply zf|apply zg);exact BK251.out) hb);replace HB:=zh (zC (by repeat (with_reducible first|exact HB.out|apply za|apply zb|apply zc|refine zd ?_ GE244.out|refine zd ?_ GE245.out|refine zd ?_ GE251.out)) hb);(try clear hb);(try clear hb2);(try clear hk);(try clear hi))|((with_reducible refine zK (N:=6) rfl ?_);refine zI ?hg (N:=6) ?hd (cs:=#[.string (⟨#[]⟩ : ByteArray),.string (⟨#[]⟩ : ByteArray),.bool false]) (t:=28) ?hr ?_;(case hd|hg => rfl);(case hr => go_simp <;> rfl);intro gb256 hg w45 hbox hb;have BK256:=zh (hbox);have hH_:=cH (by repeat (with_reducible first|exact HB.out|apply za|apply zb|apply zc|refine zd ?_ GE244.out|refine zd ?_ GE245.out|refine zd ?_ GE251.out)) hb hg;have GW256:=zh hH_.1;have GE256:=GW256;replace HB:=zh hH_.2;have NB244_256:=zh ((by rw [hg];exact yc (yi (g:=gb244) (o:=.cells #[.int .i64 a0_0,.string a0_1,.int .i64 a0_2,.int .i64 a0_3,.string a0_4] 33 (0,0)) (by (with_reducible repeat first|apply ze|apply zf|apply zg);exact BK244.out)) : gb244≠gb256));have NB256_244:=zh NB244_256.out.symm;replace BK244:=zh (cD BK244.out (by (with_reducible repeat first|apply ze|apply zf|apply zg);exact BK244.out) hb);have NB245_256:=zh ((by rw [hg];exact yc (yi (g:=gb245) (o:=.cells #[.string (⟨#[]⟩ : ByteArray),.string (⟨#[]⟩ : ByteArray),.bool false] 28 (0,0)) (by (with_reducible repeat first|apply ze|apply zf|apply zg);exact BK245.out)) : gb245≠gb256));have NB256_245:=zh NB245_256.out.symm;replace BK245:=zh (cD BK245.out (by (with_reducible repeat first|apply ze|apply zf|apply zg);exact BK245.out) hb);have NB251_256:=zh ((by rw [hg];exact yc (yi (g:=gb251) (o:=.cells #[.string t248,.string t249,.bool t250] 28 (0,0)) (by (with_reducible repeat first|apply ze|apply zf|apply zg);exact BK251.out)) : gb251≠gb256));have NB256_251:=zh NB251_256.out.symm;replace BK251:=zh (cD BK251.out (by (with_reducible repeat first|apply ze|apply zf|apply zg);exact BK251.out) hb);clear hb hbox hg hH_;have hnb46:=NB256_244.out;have hnc46:=NB244_256.out;have hnb47:=NB256_245.out;have hnc47:=NB245_256.out;have hnb48:=NB256_251.out;have hnc48:=NB251_256.out;obtain ⟨hcz49_0,hcz49_1,hcz49_2,hfz49_0,hfz49_1,hfz49_2⟩:=cB3 BK256.out;obtain ⟨hcz50_0,hcz50_1,hcz50_2,hcz50_3,hcz50_4,hfz50_0,hfz50_1,hfz50_2,hfz50_3,hfz50_4⟩:=cB5 BK244.out))
 (try simp only [Act.put,zi,zj,zk])
 go_cut [27] (fun v27 wc => ∃ (kq : Nat) (x27_29 : Bool),v27 = .bool x27_29∧Aside0 (F1.j0 kq a1 a0_0 x27_29 a0_0 a0_1 a0_2 a0_3 a0_4 t248 t249 t250 t253 t254 t255=some (r1,r2,r3))∧Aside0 (kq≤k)∧Aside0 (wc.heap[gb244]? = some (.cells #[.int .i64 a0_0,.string a0_1,.int .i64 a0_2,.int .i64 a0_3,.string a0_4] 33 (0,0)))∧Aside0 (wc.heap[gb245]? = some (.cells #[.string (⟨#[]⟩ : ByteArray),.string (⟨#[]⟩ : ByteArray),.bool false] 28 (0,0)))∧Aside0 (wc.heap[gb251]? = some (.cells #[.string t248,.string t249,.bool t250] 28 (0,0)))∧Aside0 (wc.heap[gb256]? = some (.cells #[.string t253,.string t254,.bool t255] 28 (0,0)))∧Aside0 (Below w.heap.size w wc))
 case first =>
  have H:=HC30.out;clear HC30
  by_cases c51 : a0_0=3
  ·
   rw [if_pos c51] at H
   have c51b0 : (a0_0 == 3)=true:=ya.mpr c51;have c51b1 : (a0_0 != 3)=false:=zX.mpr c51;clear c51;(first|rw [c51b0]|(simp only [zG,zH];rw [c51b0])|skip);have H':=zh H;clear H
   go_wp2
   go_meet
   case rel => exact ⟨_,((a0_0 == 3)),(by first|rfl|(simp;done)|(simp [*];done)),H',⟨by first|omega|exact ye _⟩,⟨by (with_reducible repeat first|apply ze|apply zf|apply zg);refine cS3 ?_ NB244_256.out;(with_reducible repeat first|apply ze|apply zf|apply zg);exact BK244.out⟩,⟨by (with_reducible repeat first|apply ze|apply zf|apply zg);refine cS3 ?_ NB245_256.out;(with_reducible repeat first|apply ze|apply zf|apply zg);exact BK245.out⟩,⟨by (with_reducible repeat first|apply ze|apply zf|apply zg);refine cS3 ?_ NB251_256.out;(with_reducible repeat first|apply ze|apply zf|apply zg);exact BK251.out⟩,⟨by (with_reducible repeat first|apply ze|apply zf|apply zg);refine zL (cs:=#[.string t253,.string t254,.bool false]) ?_ 2 _ rfl;(with_reducible repeat first|apply ze|apply zf|apply zg);refine zL (cs:=#[.string t253,.string (⟨#[]⟩ : ByteArray),.bool false]) ?_ 1 _ rfl;(with_reducible repeat first|apply ze|apply zf|apply zg);refine zL (cs:=#[.string (⟨#[]⟩ : ByteArray),.string (⟨#[]⟩ : ByteArray),.bool false]) ?_ 0 _ rfl;(with_reducible repeat first|apply ze|apply zf|apply zg);exact BK256.out⟩,⟨by repeat (with_reducible first|exact HB.out|apply za|apply zb|apply zc|refine zd ?_ GE244.out|refine zd ?_ GE245.out|refine zd ?_ GE251.out|refine zd ?_ GE256.out)⟩⟩
  rw [if_neg c51] at H;have c51b0 : (a0_0 == 3)=false:=zY.mpr c51;have c51b1 : (a0_0 != 3)=true:=zZ.mpr c51;(first|rw [c51b0]|(simp only [zG,zH];rw [c51b0])|skip)
  by_cases c52 : a0_0=5
  ·
   rw [if_pos c52] at H
   have c52b0 : (a0_0 == 5)=true:=ya.mpr c52;have c52b1 : (a0_0 != 5)=false:=zX.mpr c52;clear c52;have H':=zh H;clear H
   go_wp2
   go_meet
   case rel => exact ⟨_,((a0_0 == 5)),(by first|rfl|(simp;done)|(simp [*];done)),H',⟨by first|omega|exact ye _⟩,⟨by (with_reducible repeat first|apply ze|apply zf|apply zg);refine cS3 ?_ NB244_256.out;(with_reducible repeat first|apply ze|apply zf|apply zg);exact BK244.out⟩,⟨by (with_reducible repeat first|apply ze|apply zf|apply zg);refine cS3 ?_ NB245_256.out;(with_reducible repeat first|apply ze|apply zf|apply zg);exact BK245.out⟩,⟨by (with_reducible repeat first|apply ze|apply zf|apply zg);refine cS3 ?_ NB251_256.out;(with_reducible repeat first|apply ze|apply zf|apply zg);exact BK251.out⟩,⟨by (with_reducible repeat first|apply ze|apply zf|apply zg);refine zL (cs:=#[.string t253,.string t254,.bool false]) ?_ 2 _ rfl;(with_reducible repeat first|apply ze|apply zf|apply zg);refine zL (cs:=#[.string t253,.string (⟨#[]⟩ : ByteArray),.bool false]) ?_ 1 _ rfl;(with_reducible repeat first|apply ze|apply zf|apply zg);refine zL (cs:=#[.string (⟨#[]⟩ : ByteArray),.string (⟨#[]⟩ : ByteArray),.bool false]) ?_ 0 _ rfl;(with_reducible repeat first|apply ze|apply zf|apply zg);exact BK256.out⟩,⟨by repeat (with_reducible first|exact HB.out|apply za|apply zb|apply zc|refine zd ?_ GE244.out|refine zd ?_ GE245.out|refine zd ?_ GE251.out|refine zd ?_ GE256.out)⟩⟩
  rw [if_neg c52] at H;have c52b0 : (a0_0 == 5)=false:=zY.mpr c52;have c52b1 : (a0_0 != 5)=true:=zZ.mpr c52
  by_cases c53 : a0_0=4
  ·
   rw [if_pos c53] at H
   have c53b0 : (a0_0 == 4)=true:=ya.mpr c53;have c53b1 : (a0_0 != 4)=false:=zX.mpr c53;clear c53;have H':=zh H;clear H
   go_wp2
   go_meet
   case rel => exact ⟨_,((a0_0 == 4)),(by first|rfl|(simp;done)|(simp [*];done)),H',⟨by first|omega|exact ye _⟩,⟨by (with_reducible repeat first|apply ze|apply zf|apply zg);refine cS3 ?_ NB244_256.out;(with_reducible repeat first|apply ze|apply zf|apply zg);exact BK244.out⟩,⟨by (with_reducible repeat first|apply ze|apply zf|apply zg);refine cS3 ?_ NB245_256.out;(with_reducible repeat first|apply ze|apply zf|apply zg);exact BK245.out⟩,⟨by (with_reducible repeat first|apply ze|apply zf|apply zg);refine cS3 ?_ NB251_256.out;(with_reducible repeat first|apply ze|apply zf|apply zg);exact BK251.out⟩,⟨by (with_reducible repeat first|apply ze|apply zf|apply zg);refine zL (cs:=#[.string t253,.string t254,.bool false]) ?_ 2 _ rfl;(with_reducible repeat first|apply ze|apply zf|apply zg);refine zL (cs:=#[.string t253,.string (⟨#[]⟩ : ByteArray),.bool false]) ?_ 1 _ rfl;(with_reducible repeat first|apply ze|apply zf|apply zg);refine zL (cs:=#[.string (⟨#[]⟩ : ByteArray),.string (⟨#[]⟩ : ByteArray),.bool false]) ?_ 0 _ rfl;(with_reducible repeat first|apply ze|apply zf|apply zg);exact BK256.out⟩,⟨by repeat (with_reducible first|exact HB.out|apply za|apply zb|apply zc|refine zd ?_ GE244.out|refine zd ?_ GE245.out|refine zd ?_ GE251.out|refine zd ?_ GE256.out)⟩⟩
  rw [if_neg c53] at H;have c53b0 : (a0_0 == 4)=false:=zY.mpr c53;have c53b1 : (a0_0 != 4)=true:=zZ.mpr c53;have H':=zh H;clear H
  go_wp2
  go_meet
  case rel => exact ⟨_,((a0_0 == 6)),(by first|rfl|(simp;done)|(simp [*];done)),H',⟨by first|omega|exact ye _⟩,⟨by (with_reducible repeat first|apply ze|apply zf|apply zg);refine cS3 ?_ NB244_256.out;(with_reducible repeat first|apply ze|apply zf|apply zg);exact BK244.out⟩,⟨by (with_reducible repeat first|apply ze|apply zf|apply zg);refine cS3 ?_ NB245_256.out;(with_reducible repeat first|apply ze|apply zf|apply zg);exact BK245.out⟩,⟨by (with_reducible repeat first|apply ze|apply zf|apply zg);refine cS3 ?_ NB251_256.out;(with_reducible repeat first|apply ze|apply zf|apply zg);exact BK251.out⟩,⟨by (with_reducible repeat first|apply ze|apply zf|apply zg);refine zL (cs:=#[.string t253,.string t254,.bool false]) ?_ 2 _ rfl;(with_reducible repeat first|apply ze|apply zf|apply zg);refine zL (cs:=#[.string t253,.string (⟨#[]⟩ : ByteArray),.bool false]) ?_ 1 _ rfl;(with_reducible repeat first|apply ze|apply zf|apply zg);refine zL (cs:=#[.string (⟨#[]⟩ : ByteArray),.string (⟨#[]⟩ : ByteArray),.bool false]) ?_ 0 _ rfl;(with_reducible repeat first|apply ze|apply zf|apply zg);exact BK256.out⟩,⟨by repeat (with_reducible first|exact HB.out|apply za|apply zb|apply zc|refine zd ?_ GE244.out|refine zd ?_ GE245.out|refine zd ?_ GE251.out|refine zd ?_ GE256.out)⟩⟩
 case rest =>
  clear HC30
  try clear c1 c2
  try clear p2
  try clear c3 c4 c5
  try clear p6
  try clear c8 c8b0 c8b1 c11 c17 c18 c19 c20 c21 c24 c25 c26 c33 c39 c40 c46 c47 c48 c51 c51b0 c51b1 c52 c52b0 c52b1 c53 c53b0 c53b1
  try clear hcz12_0 hcz12_1 hcz12_2 hcz12_3 hcz12_4
  try clear hcz19_0 hcz19_1 hcz19_2
  try clear hcz20_0 hcz20_1 hcz20_2 hcz20_3 hcz20_4
  try clear hcz27_0 hcz27_1 hcz27_2
  try clear hcz28_0 hcz28_1 hcz28_2 hcz28_3 hcz28_4
  try clear hcz29_0 hcz29_1 hcz29_2
  try clear hcz34_0 hcz34_1 hcz34_2 hcz34_3 hcz34_4
  try clear hcz41_0 hcz41_1 hcz41_2
  try clear hcz42_0 hcz42_1 hcz42_2 hcz42_3 hcz42_4
  try clear hcz49_0 hcz49_1 hcz49_2
  try clear hcz50_0 hcz50_1 hcz50_2 hcz50_3 hcz50_4
  try clear hfz12_0 hfz12_1 hfz12_2 hfz12_3 hfz12_4
  try clear hfz19_0 hfz19_1 hfz19_2
  try clear hfz20_0 hfz20_1 hfz20_2 hfz20_3 hfz20_4
  try clear hfz27_0 hfz27_1 hfz27_2
  try clear hfz28_0 hfz28_1 hfz28_2 hfz28_3 hfz28_4
  try clear hfz29_0 hfz29_1 hfz29_2
  try clear hfz34_0 hfz34_1 hfz34_2 hfz34_3 hfz34_4
  try clear hfz41_0 hfz41_1 hfz41_2
  try clear hfz42_0 hfz42_1 hfz42_2 hfz42_3 hfz42_4
  try clear hfz49_0 hfz49_1 hfz49_2
  try clear hfz50_0 hfz50_1 hfz50_2 hfz50_3 hfz50_4
  obtain ⟨kq,x27_29,rfl,HA,HJ29,BK244,BK245,BK251,BK256,HB⟩:=hcut
  cases kq with
  | zero => exact absurd HA.out (by simp [F1.j0])
  | succ kj29 =>
   have H:=HA.out;clear HA;simp only [F1.j0] at H
   by_cases c54 : x27_29=true
   ·
    subst c54
    have H1 : (if a0_0=5 then (F1.j1 kj29 a1 true a0_0 a0_1 a0_2 a0_3 a0_4 t248 t249 t250 t253 t254 t255) else (F1.j1 kj29 a1 (a0_0 == 6) a0_0 a0_1 a0_2 a0_3 a0_4 t248 t249 t250 t253 t254 t255))=some (r1,r2,r3):=by rw [if_pos rfl] at H;exact H
    clear H;have H:=H1;clear H1;have HC55:=zh H;clear H
    go_upto_region 10 with (fail)
    go_cut [7] (fun v7 wc => ∃ (kq : Nat) (x7_54 : Bool),v7 = .bool x7_54∧Aside0 (F1.j1 kq a1 x7_54 a0_0 a0_1 a0_2 a0_3 a0_4 t248 t249 t250 t253 t254 t255=some (r1,r2,r3))∧Aside0 (kq≤kj29)∧Aside0 (wc.heap[gb244]? = some (.cells #[.int .i64 a0_0,.string a0_1,.int .i64 a0_2,.int .i64 a0_3,.string a0_4] 33 (0,0)))∧Aside0 (wc.heap[gb245]? = some (.cells #[.string (⟨#[]⟩ : ByteArray),.string (⟨#[]⟩ : ByteArray),.bool false] 28 (0,0)))∧Aside0 (wc.heap[gb251]? = some (.cells #[.string t248,.string t249,.bool t250] 28 (0,0)))∧Aside0 (wc.heap[gb256]? = some (.cells #[.string t253,.string t254,.bool t255] 28 (0,0)))∧Aside0 (Below w.heap.size w wc))
    case first =>
     have H:=HC55.out;clear HC55
     by_cases c56 : a0_0=5
     ·
      rw [if_pos c56] at H
      have c56b0 : (a0_0 == 5)=true:=ya.mpr c56;have c56b1 : (a0_0 != 5)=false:=zX.mpr c56;clear c56;(first|rw [c56b0]|(simp only [zG,zH];rw [c56b0])|skip);have H':=zh H;clear H;have hnb57:=NB244_245.out;have hnc57:=NB245_244.out;have hnb58:=NB244_251.out;have hnc58:=NB251_244.out;have hnb59:=NB244_256.out;have hnc59:=NB256_244.out;obtain ⟨hcz60_0,hcz60_1,hcz60_2,hcz60_3,hcz60_4,hfz60_0,hfz60_1,hfz60_2,hfz60_3,hfz60_4⟩:=cB5 BK244.out
      go_wp2
      go_meet
      case rel => exact ⟨_,(true),(by first|rfl|(simp;done)|(simp [*];done)),H',⟨by have:=HJ29.out;first|omega|exact ye _⟩,⟨by (with_reducible repeat first|apply ze|apply zf|apply zg);exact BK244.out⟩,⟨by (with_reducible repeat first|apply ze|apply zf|apply zg);exact BK245.out⟩,⟨by (with_reducible repeat first|apply ze|apply zf|apply zg);exact BK251.out⟩,⟨by (with_reducible repeat first|apply ze|apply zf|apply zg);exact BK256.out⟩,⟨by repeat (with_reducible first|exact HB.out|apply za|apply zb|apply zc|refine zd ?_ GE244.out|refine zd ?_ GE245.out|refine zd ?_ GE251.out|refine zd ?_ GE256.out)⟩⟩
     rw [if_neg c56] at H;have c56b0 : (a0_0 == 5)=false:=zY.mpr c56;have c56b1 : (a0_0 != 5)=true:=zZ.mpr c56;(first|rw [c56b0]|(simp only [zG,zH];rw [c56b0])|skip);have H':=zh H;clear H;have hnb61:=NB244_245.out;have hnc61:=NB245_244.out;have hnb62:=NB244_251.out;have hnc62:=NB251_244.out;have hnb63:=NB244_256.out;have hnc63:=NB256_244.out;obtain ⟨hcz64_0,hcz64_1,hcz64_2,hcz64_3,hcz64_4,hfz64_0,hfz64_1,hfz64_2,hfz64_3,hfz64_4⟩:=cB5 BK244.out
     go_wp2
     go_meet
     case rel => exact ⟨_,((a0_0 == 6)),(by first|rfl|(simp;done)|(simp [*];done)),H',⟨by have:=HJ29.out;first|omega|exact ye _⟩,⟨by (with_reducible repeat first|apply ze|apply zf|apply zg);exact BK244.out⟩,⟨by (with_reducible repeat first|apply ze|apply zf|apply zg);exact BK245.out⟩,⟨by (with_reducible repeat first|apply ze|apply zf|apply zg);exact BK251.out⟩,⟨by (with_reducible repeat first|apply ze|apply zf|apply zg);exact BK256.out⟩,⟨by repeat (with_reducible first|exact HB.out|apply za|apply zb|apply zc|refine zd ?_ GE244.out|refine zd ?_ GE245.out|refine zd ?_ GE251.out|refine zd ?_ GE256.out)⟩⟩
    case rest =>
     clear HC55
     try clear c1 c2
     try clear p2
     try clear c3 c4 c5 c6
     try clear p6
     try clear c8 c8b0 c8b1 c11 c17 c18 c19 c20 c21 c24 c25 c26 c33 c39 c40 c46 c47 c48 c51 c51b0 c51b1 c52 c52b0 c52b1 c53 c53b0 c53b1 c54 c56 c56b0 c56b1 c57 c58 c59 c61 c62 c63
     try clear p64
     try clear hcz12_0 hcz12_1 hcz12_2 hcz12_3 hcz12_4
     try clear hcz19_0 hcz19_1 hcz19_2
     try clear hcz20_0 hcz20_1 hcz20_2 hcz20_3 hcz20_4
     try clear hcz27_0 hcz27_1 hcz27_2
     try clear hcz28_0 hcz28_1 hcz28_2 hcz28_3 hcz28_4
     try clear hcz29_0 hcz29_1 hcz29_2
     try clear hcz34_0 hcz34_1 hcz34_2 hcz34_3 hcz34_4
     try clear hcz41_0 hcz41_1 hcz41_2
     try clear hcz42_0 hcz42_1 hcz42_2 hcz42_3 hcz42_4
     try clear hcz49_0 hcz49_1 hcz49_2
     try clear hcz50_0 hcz50_1 hcz50_2 hcz50_3 hcz50_4
     try clear hcz60_0 hcz60_1 hcz60_2 hcz60_3 hcz60_4
     try clear hcz64_0 hcz64_1 hcz64_2 hcz64_3 hcz64_4
     try clear hfz12_0 hfz12_1 hfz12_2 hfz12_3 hfz12_4
     try clear hfz19_0 hfz19_1 hfz19_2
     try clear hfz20_0 hfz20_1 hfz20_2 hfz20_3 hfz20_4
     try clear hfz27_0 hfz27_1 hfz27_2
     try clear hfz28_0 hfz28_1 hfz28_2 hfz28_3 hfz28_4
     try clear hfz29_0 hfz29_1 hfz29_2
     try clear hfz34_0 hfz34_1 hfz34_2 hfz34_3 hfz34_4
     try clear hfz41_0 hfz41_1 hfz41_2
     try clear hfz42_0 hfz42_1 hfz42_2 hfz42_3 hfz42_4
     try clear hfz49_0 hfz49_1 hfz49_2
     try clear hfz50_0 hfz50_1 hfz50_2 hfz50_3 hfz50_4
     try clear hfz60_0 hfz60_1 hfz60_2 hfz60_3 hfz60_4
     try clear hfz64_0 hfz64_1 hfz64_2 hfz64_3 hfz64_4
     try clear p2
     try clear p6
     obtain ⟨kq,x7_54,rfl,HA,HJ54,BK244,BK245,BK251,BK256,HB⟩:=hcut
     cases kq with
     | zero => exact absurd HA.out (by simp [F1.j1])
     | succ kj54 =>
      have H:=HA.out;clear HA;simp only [F1.j1] at H;have HC65:=zh H;clear H
      go_upto_region 11 with (fail)
      go_cut [8] (fun v8 wc => ∃ (kq : Nat) (x8_64 : Bool),v8 = .bool x8_64∧Aside0 (F1.j2 kq a1 x7_54 x8_64 t248 t249 t250 t253 t254 t255=some (r1,r2,r3))∧Aside0 (kq≤kj54)∧Aside0 (wc.heap[gb244]? = some (.cells #[.int .i64 a0_0,.string a0_1,.int .i64 a0_2,.int .i64 a0_3,.string a0_4] 33 (0,0)))∧Aside0 (wc.heap[gb245]? = some (.cells #[.string (⟨#[]⟩ : ByteArray),.string (⟨#[]⟩ : ByteArray),.bool false] 28 (0,0)))∧Aside0 (wc.heap[gb251]? = some (.cells #[.string t248,.string t249,.bool t250] 28 (0,0)))∧Aside0 (wc.heap[gb256]? = some (.cells #[.string t253,.string t254,.bool t255] 28 (0,0)))∧Aside0 (Below w.heap.size w wc))
      case first =>
       have H:=HC65.out;clear HC65
       by_cases c66 : a0_0=4
       ·
        rw [if_pos c66] at H
        have c66b0 : (a0_0 == 4)=true:=ya.mpr c66;have c66b1 : (a0_0 != 4)=false:=zX.mpr c66;clear c66;(first|rw [c66b0]|(simp only [zG,zH];rw [c66b0])|skip);have H':=zh H;clear H;have hnb67:=NB244_245.out;have hnc67:=NB245_244.out;have hnb68:=NB244_251.out;have hnc68:=NB251_244.out;have hnb69:=NB244_256.out;have hnc69:=NB256_244.out;obtain ⟨hcz70_0,hcz70_1,hcz70_2,hcz70_3,hcz70_4,hfz70_0,hfz70_1,hfz70_2,hfz70_3,hfz70_4⟩:=cB5 BK244.out
        go_wp2
        go_meet
        case rel => exact ⟨_,(true),(by first|rfl|(simp;done)|(simp [*];done)),H',⟨by have:=HJ29.out;have:=HJ54.out;first|omega|exact ye _⟩,⟨by (with_reducible repeat first|apply ze|apply zf|apply zg);exact BK244.out⟩,⟨by (with_reducible repeat first|apply ze|apply zf|apply zg);exact BK245.out⟩,⟨by (with_reducible repeat first|apply ze|apply zf|apply zg);exact BK251.out⟩,⟨by (with_reducible repeat first|apply ze|apply zf|apply zg);exact BK256.out⟩,⟨by repeat (with_reducible first|exact HB.out|apply za|apply zb|apply zc|refine zd ?_ GE244.out|refine zd ?_ GE245.out|refine zd ?_ GE251.out|refine zd ?_ GE256.out)⟩⟩
       rw [if_neg c66] at H;have c66b0 : (a0_0 == 4)=false:=zY.mpr c66;have c66b1 : (a0_0 != 4)=true:=zZ.mpr c66;(first|rw [c66b0]|(simp only [zG,zH];rw [c66b0])|skip);have H':=zh H;clear H;have hnb71:=NB244_245.out;have hnc71:=NB245_244.out;have hnb72:=NB244_251.out;have hnc72:=NB251_244.out;have hnb73:=NB244_256.out;have hnc73:=NB256_244.out;obtain ⟨hcz74_0,hcz74_1,hcz74_2,hcz74_3,hcz74_4,hfz74_0,hfz74_1,hfz74_2,hfz74_3,hfz74_4⟩:=cB5 BK244.out
       go_wp2
       go_meet
       case rel => exact ⟨_,((a0_0 == 6)),(by first|rfl|(simp;done)|(simp [*];done)),H',⟨by have:=HJ29.out;have:=HJ54.out;first|omega|exact ye _⟩,⟨by (with_reducible repeat first|apply ze|apply zf|apply zg);exact BK244.out⟩,⟨by (with_reducible repeat first|apply ze|apply zf|apply zg);exact BK245.out⟩,⟨by (with_reducible repeat first|apply ze|apply zf|apply zg);exact BK251.out⟩,⟨by (with_reducible repeat first|apply ze|apply zf|apply zg);exact BK256.out⟩,⟨by repeat (with_reducible first|exact HB.out|apply za|apply zb|apply zc|refine zd ?_ GE244.out|refine zd ?_ GE245.out|refine zd ?_ GE251.out|refine zd ?_ GE256.out)⟩⟩
      case rest =>
       clear HC65
       try clear c1 c2
       try clear p2
       try clear c3 c4 c5 c6
       try clear p6
       try clear c7 c8 c8b0 c8b1 c11 c17 c18 c19 c20 c21 c24 c25 c26 c33 c39 c40 c46 c47 c48 c51 c51b0 c51b1 c52 c52b0 c52b1 c53 c53b0 c53b1 c54 c56 c56b0 c56b1 c57 c58 c59 c61 c62 c63
       try clear p64
       try clear c66 c66b0 c66b1 c67 c68 c69 c71 c72 c73
       try clear hcz12_0 hcz12_1 hcz12_2 hcz12_3 hcz12_4
       try clear hcz19_0 hcz19_1 hcz19_2
       try clear hcz20_0 hcz20_1 hcz20_2 hcz20_3 hcz20_4
       try clear hcz27_0 hcz27_1 hcz27_2
       try clear hcz28_0 hcz28_1 hcz28_2 hcz28_3 hcz28_4
       try clear hcz29_0 hcz29_1 hcz29_2
       try clear hcz34_0 hcz34_1 hcz34_2 hcz34_3 hcz34_4
       try clear hcz41_0 hcz41_1 hcz41_2
       try clear hcz42_0 hcz42_1 hcz42_2 hcz42_3 hcz42_4
       try clear hcz49_0 hcz49_1 hcz49_2
       try clear hcz50_0 hcz50_1 hcz50_2 hcz50_3 hcz50_4
       try clear hcz60_0 hcz60_1 hcz60_2 hcz60_3 hcz60_4
       try clear hcz64_0 hcz64_1 hcz64_2 hcz64_3 hcz64_4
       try clear hcz70_0 hcz70_1 hcz70_2 hcz70_3 hcz70_4
       try clear hcz74_0 hcz74_1 hcz74_2 hcz74_3 hcz74_4
       try clear hfz12_0 hfz12_1 hfz12_2 hfz12_3 hfz12_4
       try clear hfz19_0 hfz19_1 hfz19_2
       try clear hfz20_0 hfz20_1 hfz20_2 hfz20_3 hfz20_4
       try clear hfz27_0 hfz27_1 hfz27_2
       try clear hfz28_0 hfz28_1 hfz28_2 hfz28_3 hfz28_4
       try clear hfz29_0 hfz29_1 hfz29_2
       try clear hfz34_0 hfz34_1 hfz34_2 hfz34_3 hfz34_4
       try clear hfz41_0 hfz41_1 hfz41_2
       try clear hfz42_0 hfz42_1 hfz42_2 hfz42_3 hfz42_4
       try clear hfz49_0 hfz49_1 hfz49_2
       try clear hfz50_0 hfz50_1 hfz50_2 hfz50_3 hfz50_4
       try clear hfz60_0 hfz60_1 hfz60_2 hfz60_3 hfz60_4
       try clear hfz64_0 hfz64_1 hfz64_2 hfz64_3 hfz64_4
       try clear hfz70_0 hfz70_1 hfz70_2 hfz70_3 hfz70_4
       try clear hfz74_0 hfz74_1 hfz74_2 hfz74_3 hfz74_4
       try clear p2
       try clear p6
       try clear p64
       obtain ⟨kq,x8_64,rfl,HA,HJ64,BK244,BK245,BK251,BK256,HB⟩:=hcut
       cases kq with
       | zero => exact absurd HA.out (by simp [F1.j2])
       | succ kj64 =>
        have H:=HA.out;clear HA;simp only [F1.j2] at H
        by_cases c75 : (x7_54 != a1)=true
        ·
         rw [if_pos c75] at H
         have c75b0 : (x7_54 != a1)=true:=c75;(try (have c75b1 : decide (x7_54=a1)=false:=by simpa using c75));(try (have c75b2 : (x7_54 == a1)=false:=by simpa using c75));(try (have c75b3 : ¬ (x7_54=a1):=by simpa using c75));clear c75
         by_cases c76 : x8_64=true
         ·
          subst c76
          have H1 : (some (t253,t249,t250))=some (r1,r2,r3):=by rw [if_pos rfl] at H;exact H
          clear H;have H:=H1;clear H1;simp only [Option.some.injEq,Prod.mk.injEq] at H;obtain ⟨rfl,rfl,rfl⟩:=H;have hnb77:=NB256_244.out;have hnc77:=NB244_256.out;have hnb78:=NB256_245.out;have hnc78:=NB245_256.out;have hnb79:=NB256_251.out;have hnc79:=NB251_256.out;obtain ⟨hcz80_0,hcz80_1,hcz80_2,hfz80_0,hfz80_1,hfz80_2⟩:=cB3 BK256.out;have hnb81:=NB251_244.out;have hnc81:=NB244_251.out;have hnb82:=NB251_245.out;have hnc82:=NB245_251.out;obtain ⟨hcz83_0,hcz83_1,hcz83_2,hfz83_0,hfz83_1,hfz83_2⟩:=cB3 BK251.out;have hnb84:=NB245_244.out;have hnc84:=NB244_245.out;obtain ⟨hcz85_0,hcz85_1,hcz85_2,hfz85_0,hfz85_1,hfz85_2⟩:=cB3 BK245.out
          go_wp2
          refine bodyPost_ret (results_cell_row rfl _ _ gb245 28 #[.string t253,.string t249,.bool t250] (0,0) _ rfl (by (with_reducible repeat first|apply ze|apply zf|apply zg);refine zL (cs:=#[.string t253,.string t249,.bool false]) ?_ 2 _ rfl;(with_reducible repeat first|apply ze|apply zf|apply zg);refine zL (cs:=#[.string t253,.string (⟨#[]⟩ : ByteArray),.bool false]) ?_ 1 _ rfl;(with_reducible repeat first|apply ze|apply zf|apply zg);refine zL (cs:=#[.string (⟨#[]⟩ : ByteArray),.string (⟨#[]⟩ : ByteArray),.bool false]) ?_ 0 _ rfl;(with_reducible repeat first|apply ze|apply zf|apply zg);refine zS ?_ NB245_251.out _;(with_reducible repeat first|apply ze|apply zf|apply zg);exact BK245.out) Tryd.underlying28 rfl (by kernel_rfl)) rfl ?_;exact ⟨by first|rfl|(simp [yt,yu] <;> rfl)|(simp [*,yt,yu] <;> rfl),by repeat (with_reducible first|exact HB.out|apply za|apply zb|apply zc|refine zd ?_ GE244.out|refine zd ?_ GE245.out|refine zd ?_ GE251.out|refine zd ?_ GE256.out)⟩
         replace c76:=yb.mpr c76;subst c76;have H1 : (if t255=true then (some ((⟨#[]⟩ : ByteArray),(⟨#[]⟩ : ByteArray),false)) else (some (t254,t249,t250)))=some (r1,r2,r3):=by rw [if_neg (show ¬ (false=true) by decide)] at H;exact H
         clear H;have H:=H1;clear H1
         by_cases c86 : t255=true
         ·
          subst c86
          have H1 : (some ((⟨#[]⟩ : ByteArray),(⟨#[]⟩ : ByteArray),false))=some (r1,r2,r3):=by rw [if_pos rfl] at H;exact H
          clear H;have H:=H1;clear H1;simp only [Option.some.injEq,Prod.mk.injEq] at H;obtain ⟨rfl,rfl,rfl⟩:=H;have hnb87:=NB256_244.out;have hnc87:=NB244_256.out;have hnb88:=NB256_245.out;have hnc88:=NB245_256.out;have hnb89:=NB256_251.out;have hnc89:=NB251_256.out;obtain ⟨hcz90_0,hcz90_1,hcz90_2,hfz90_0,hfz90_1,hfz90_2⟩:=cB3 BK256.out;have hnb91:=NB245_244.out;have hnc91:=NB244_245.out;have hnb92:=NB245_251.out;have hnc92:=NB251_245.out;obtain ⟨hcz93_0,hcz93_1,hcz93_2,hfz93_0,hfz93_1,hfz93_2⟩:=cB3 BK245.out
          go_wp2
          refine bodyPost_ret (results_cell_row rfl _ _ gb245 28 #[.string (⟨#[]⟩ : ByteArray),.string (⟨#[]⟩ : ByteArray),.bool false] (0,0) _ rfl (by (with_reducible repeat first|apply ze|apply zf|apply zg);refine zL (cs:=#[.string (⟨#[]⟩ : ByteArray),.string (⟨#[]⟩ : ByteArray),.bool false]) ?_ 2 _ rfl;(with_reducible repeat first|apply ze|apply zf|apply zg);refine zL (cs:=#[.string (⟨#[]⟩ : ByteArray),.string (⟨#[]⟩ : ByteArray),.bool false]) ?_ 1 _ rfl;(with_reducible repeat first|apply ze|apply zf|apply zg);refine zL (cs:=#[.string (⟨#[]⟩ : ByteArray),.string (⟨#[]⟩ : ByteArray),.bool false]) ?_ 0 _ rfl;(with_reducible repeat first|apply ze|apply zf|apply zg);exact BK245.out) Tryd.underlying28 rfl (by kernel_rfl)) rfl ?_;exact ⟨by first|rfl|(simp [yt,yu] <;> rfl)|(simp [*,yt,yu] <;> rfl),by repeat (with_reducible first|exact HB.out|apply za|apply zb|apply zc|refine zd ?_ GE244.out|refine zd ?_ GE245.out|refine zd ?_ GE251.out|refine zd ?_ GE256.out)⟩
         replace c86:=yb.mpr c86;subst c86;have H1 : (some (t254,t249,t250))=some (r1,r2,r3):=by rw [if_neg (show ¬ (false=true) by decide)] at H;exact H
         clear H;have H:=H1;clear H1;simp only [Option.some.injEq,Prod.mk.injEq] at H;obtain ⟨rfl,rfl,rfl⟩:=H;have hnb94:=NB256_244.out;have hnc94:=NB244_256.out;have hnb95:=NB256_245.out;have hnc95:=NB245_256.out;have hnb96:=NB256_251.out;have hnc96:=NB251_256.out;obtain ⟨hcz97_0,hcz97_1,hcz97_2,hfz97_0,hfz97_1,hfz97_2⟩:=cB3 BK256.out;have hnb98:=NB251_244.out;have hnc98:=NB244_251.out;have hnb99:=NB251_245.out;have hnc99:=NB245_251.out;obtain ⟨hcz100_0,hcz100_1,hcz100_2,hfz100_0,hfz100_1,hfz100_2⟩:=cB3 BK251.out;have hnb101:=NB245_244.out;have hnc101:=NB244_245.out;obtain ⟨hcz102_0,hcz102_1,hcz102_2,hfz102_0,hfz102_1,hfz102_2⟩:=cB3 BK245.out
         go_wp2
         refine bodyPost_ret (results_cell_row rfl _ _ gb245 28 #[.string t254,.string t249,.bool t250] (0,0) _ rfl (by (with_reducible repeat first|apply ze|apply zf|apply zg);refine zL (cs:=#[.string t254,.string t249,.bool false]) ?_ 2 _ rfl;(with_reducible repeat first|apply ze|apply zf|apply zg);refine zL (cs:=#[.string t254,.string (⟨#[]⟩ : ByteArray),.bool false]) ?_ 1 _ rfl;(with_reducible repeat first|apply ze|apply zf|apply zg);refine zL (cs:=#[.string (⟨#[]⟩ : ByteArray),.string (⟨#[]⟩ : ByteArray),.bool false]) ?_ 0 _ rfl;(with_reducible repeat first|apply ze|apply zf|apply zg);refine zS ?_ NB245_251.out _;(with_reducible repeat first|apply ze|apply zf|apply zg);exact BK245.out) Tryd.underlying28 rfl (by kernel_rfl)) rfl ?_;exact ⟨by first|rfl|(simp [yt,yu] <;> rfl)|(simp [*,yt,yu] <;> rfl),by repeat (with_reducible first|exact HB.out|apply za|apply zb|apply zc|refine zd ?_ GE244.out|refine zd ?_ GE245.out|refine zd ?_ GE251.out|refine zd ?_ GE256.out)⟩
        rw [if_neg c75] at H;have c75b0 : (x7_54 != a1)=false:=by simpa using c75
        (try (have c75b1 : decide (x7_54=a1)=true:=by simpa using c75));(try (have c75b2 : (x7_54 == a1)=true:=by simpa using c75));clear c75
        by_cases c103 : x8_64=true
        ·
         subst c103
         have H1 : ((F01.f t248 t249 t250 (⟨#[]⟩ : ByteArray) t254 t255).bind fun bt257 => (some (bt257.1,bt257.2.1,bt257.2.2)))=some (r1,r2,r3):=by rw [if_pos rfl] at H;exact H
         clear H;have H:=H1;clear H1;replace H:=zT.mp H;obtain ⟨⟨t257,t258,t259⟩,A1040,H⟩:=H;replace H : (some (t257,t258,t259))=some (r1,r2,r3):=H;have A104:=zh A1040;clear A1040;simp only [Option.some.injEq,Prod.mk.injEq] at H;obtain ⟨rfl,rfl,rfl⟩:=H;have hnb105:=NB251_244.out;have hnc105:=NB244_251.out;have hnb106:=NB251_245.out;have hnc106:=NB245_251.out;have hnb107:=NB251_256.out;have hnc107:=NB256_251.out;obtain ⟨hcz108_0,hcz108_1,hcz108_2,hfz108_0,hfz108_1,hfz108_2⟩:=cB3 BK251.out;have hnb109:=NB256_244.out;have hnc109:=NB244_256.out;have hnb110:=NB256_245.out;have hnc110:=NB245_256.out;obtain ⟨hcz111_0,hcz111_1,hcz111_2,hfz111_0,hfz111_1,hfz111_2⟩:=cB3 BK256.out
         go_wp2_with (first|((with_reducible refine zJ (f:=22) rfl ?_);refine yj (some 69) rfl rfl Tryd.func22 (by kernel_rfl) rfl #[.agg #[.string t248,.string t249,.bool t250],.agg #[.string (⟨#[]⟩ : ByteArray),.string t254,.bool t255]] rfl (by (try simp only [zt,zu,zv]);first|done|rfl|(simp only [zw,zx];rfl)|(simp only [yr,ys,zV,zW];rfl)) ?_;(with_reducible refine (F01.calls  t248 t249 t250 (⟨#[]⟩ : ByteArray) t254 t255 t257 t258 t259 _ A104.out).mono ?_);rintro e w112 ⟨rfl,hb⟩;refine ⟨_,rfl,?_⟩;replace BK244:=zh (cD BK244.out (by (with_reducible repeat first|apply ze|apply zf|apply zg);exact BK244.out) hb);replace BK245:=zh (cD BK245.out (by (with_reducible repeat first|apply ze|apply zf|apply zg);exact BK245.out) hb);replace BK251:=zh (cD BK251.out (by (with_reducible repeat first|apply ze|apply zf|apply zg);exact BK251.out) hb);replace BK256:=zh (cD BK256.out (by (with_reducible repeat first|apply ze|apply zf|apply zg);exact BK256.out) hb);replace HB:=zh (zC (by repeat (with_reducible first|exact HB.out|apply za|apply zb|apply zc|refine zd ?_ GE244.out|refine zd ?_ GE245.out|refine zd ?_ GE251.out|refine zd ?_ GE256.out)) hb);(try clear hb);(try clear hb2);(try clear hk);(try clear hi);have hnb113:=NB245_244.out;have hnc113:=NB244_245.out;obtain ⟨hcz114_0,hcz114_1,hcz114_2,hfz114_0,hfz114_1,hfz114_2⟩:=cB3 BK245.out))
         refine bodyPost_ret (results_cell_row rfl _ _ gb245 28 #[.string t257,.string t258,.bool t259] (0,0) _ rfl (by (with_reducible repeat first|apply ze|apply zf|apply zg);refine zL (cs:=#[.string t257,.string t258,.bool false]) ?_ 2 _ rfl;(with_reducible repeat first|apply ze|apply zf|apply zg);refine zL (cs:=#[.string t257,.string (⟨#[]⟩ : ByteArray),.bool false]) ?_ 1 _ rfl;(with_reducible repeat first|apply ze|apply zf|apply zg);refine zL (cs:=#[.string (⟨#[]⟩ : ByteArray),.string (⟨#[]⟩ : ByteArray),.bool false]) ?_ 0 _ rfl;(with_reducible repeat first|apply ze|apply zf|apply zg);exact BK245.out) Tryd.underlying28 rfl (by kernel_rfl)) rfl ?_;exact ⟨by first|rfl|(simp [yt,yu] <;> rfl)|(simp [*,yt,yu] <;> rfl),by repeat (with_reducible first|exact HB.out|apply za|apply zb|apply zc|refine zd ?_ GE244.out|refine zd ?_ GE245.out|refine zd ?_ GE251.out|refine zd ?_ GE256.out)⟩
        replace c103:=yb.mpr c103;subst c103;have H1 : ((F01.f t248 t249 t250 (⟨#[]⟩ : ByteArray) t253 false).bind fun bt260 => (some (bt260.1,bt260.2.1,bt260.2.2)))=some (r1,r2,r3):=by rw [if_neg (show ¬ (false=true) by decide)] at H;exact H
        clear H;have H:=H1;clear H1;replace H:=zT.mp H;obtain ⟨⟨t260,t261,t262⟩,A1150,H⟩:=H;replace H : (some (t260,t261,t262))=some (r1,r2,r3):=H;have A115:=zh A1150;clear A1150;simp only [Option.some.injEq,Prod.mk.injEq] at H;obtain ⟨rfl,rfl,rfl⟩:=H;have hnb116:=NB251_244.out;have hnc116:=NB244_251.out;have hnb117:=NB251_245.out;have hnc117:=NB245_251.out;have hnb118:=NB251_256.out;have hnc118:=NB256_251.out;obtain ⟨hcz119_0,hcz119_1,hcz119_2,hfz119_0,hfz119_1,hfz119_2⟩:=cB3 BK251.out;have hnb120:=NB256_244.out;have hnc120:=NB244_256.out;have hnb121:=NB256_245.out;have hnc121:=NB245_256.out;obtain ⟨hcz122_0,hcz122_1,hcz122_2,hfz122_0,hfz122_1,hfz122_2⟩:=cB3 BK256.out
        go_wp2_with (first|((with_reducible refine zJ (f:=22) rfl ?_);refine yj (some 74) rfl rfl Tryd.func22 (by kernel_rfl) rfl #[.agg #[.string t248,.string t249,.bool t250],.agg #[.string (⟨#[]⟩ : ByteArray),.string t253,.bool false]] rfl (by (try simp only [zt,zu,zv]);first|done|rfl|(simp only [zw,zx];rfl)|(simp only [yr,ys,zV,zW];rfl)) ?_;(with_reducible refine (F01.calls  t248 t249 t250 (⟨#[]⟩ : ByteArray) t253 false t260 t261 t262 _ A115.out).mono ?_);rintro e w123 ⟨rfl,hb⟩;refine ⟨_,rfl,?_⟩;replace BK244:=zh (cD BK244.out (by (with_reducible repeat first|apply ze|apply zf|apply zg);exact BK244.out) hb);replace BK245:=zh (cD BK245.out (by (with_reducible repeat first|apply ze|apply zf|apply zg);exact BK245.out) hb);replace BK251:=zh (cD BK251.out (by (with_reducible repeat first|apply ze|apply zf|apply zg);exact BK251.out) hb);replace BK256:=zh (cD BK256.out (by (with_reducible repeat first|apply ze|apply zf|apply zg);exact BK256.out) hb);replace HB:=zh (zC (by repeat (with_reducible first|exact HB.out|apply za|apply zb|apply zc|refine zd ?_ GE244.out|refine zd ?_ GE245.out|refine zd ?_ GE251.out|refine zd ?_ GE256.out)) hb);(try clear hb);(try clear hb2);(try clear hk);(try clear hi);have hnb124:=NB245_244.out;have hnc124:=NB244_245.out;obtain ⟨hcz125_0,hcz125_1,hcz125_2,hfz125_0,hfz125_1,hfz125_2⟩:=cB3 BK245.out))
        refine bodyPost_ret (results_cell_row rfl _ _ gb245 28 #[.string t260,.string t261,.bool t262] (0,0) _ rfl (by (with_reducible repeat first|apply ze|apply zf|apply zg);refine zL (cs:=#[.string t260,.string t261,.bool false]) ?_ 2 _ rfl;(with_reducible repeat first|apply ze|apply zf|apply zg);refine zL (cs:=#[.string t260,.string (⟨#[]⟩ : ByteArray),.bool false]) ?_ 1 _ rfl;(with_reducible repeat first|apply ze|apply zf|apply zg);refine zL (cs:=#[.string (⟨#[]⟩ : ByteArray),.string (⟨#[]⟩ : ByteArray),.bool false]) ?_ 0 _ rfl;(with_reducible repeat first|apply ze|apply zf|apply zg);exact BK245.out) Tryd.underlying28 rfl (by kernel_rfl)) rfl ?_;exact ⟨by first|rfl|(simp [yt,yu] <;> rfl)|(simp [*,yt,yu] <;> rfl),by repeat (with_reducible first|exact HB.out|apply za|apply zb|apply zc|refine zd ?_ GE244.out|refine zd ?_ GE245.out|refine zd ?_ GE251.out|refine zd ?_ GE256.out)⟩
   replace c54:=yb.mpr c54;subst c54;have H1 : (if a0_0=9 then ((F8.f kj29 (wrap64 (a0_3 + 1)) 1).bind fun t263 => ((F02.f kj29 t263 a1).bind fun t264 => ((Ft.f kj29 t264).bind fun bt265 => (some (bt265.1,bt265.2.1,bt265.2.2))))) else (some ((⟨#[]⟩ : ByteArray),(⟨#[]⟩ : ByteArray),true)))=some (r1,r2,r3):=by rw [if_neg (show ¬ (false=true) by decide)] at H;exact H
   clear H;have H:=H1;clear H1
   by_cases c126 : a0_0=9
   ·
    rw [if_pos c126] at H
    have c126b0 : (a0_0 == 9)=true:=ya.mpr c126;have c126b1 : (a0_0 != 9)=false:=zX.mpr c126;clear c126;replace H:=zT.mp H;obtain ⟨t263,A1270,H⟩:=H;replace H : ((F02.f kj29 t263 a1).bind fun t264 => ((Ft.f kj29 t264).bind fun bt265 => (some (bt265.1,bt265.2.1,bt265.2.2))))=some (r1,r2,r3):=H;have A127:=zh A1270;clear A1270;replace H:=zT.mp H;obtain ⟨t264,A1280,H⟩:=H;replace H : ((Ft.f kj29 t264).bind fun bt265 => (some (bt265.1,bt265.2.1,bt265.2.2)))=some (r1,r2,r3):=H;have A128:=zh A1280;clear A1280;replace H:=zT.mp H;obtain ⟨⟨t265,t266,t267⟩,A1290,H⟩:=H;replace H : (some (t265,t266,t267))=some (r1,r2,r3):=H;have A129:=zh A1290;clear A1290;simp only [Option.some.injEq,Prod.mk.injEq] at H;obtain ⟨rfl,rfl,rfl⟩:=H;have hnb130:=NB244_245.out;have hnc130:=NB245_244.out;have hnb131:=NB244_251.out;have hnc131:=NB251_244.out;have hnb132:=NB244_256.out;have hnc132:=NB256_244.out;obtain ⟨hcz133_0,hcz133_1,hcz133_2,hcz133_3,hcz133_4,hfz133_0,hfz133_1,hfz133_2,hfz133_3,hfz133_4⟩:=cB5 BK244.out
    go_wp2_with (first|((with_reducible refine zJ (f:=20) rfl ?_);refine yj (some 81) rfl rfl Tryd.func20 (by kernel_rfl) rfl #[.int .i64 (wrap64 (a0_3 + 1)),.int .i64 1] rfl (by (try simp only [zt,zu,zv]);first|done|rfl|(simp only [zw,zx];rfl)|(simp only [yr,ys,zV,zW];rfl)) ?_;(with_reducible refine (F8.calls kj29  (wrap64 (a0_3 + 1)) 1 t263 _ A127.out).mono ?_);rintro e w134 ⟨rfl,hb⟩;refine ⟨_,rfl,?_⟩;replace BK244:=zh (cD BK244.out (by (with_reducible repeat first|apply ze|apply zf|apply zg);exact BK244.out) hb);replace BK245:=zh (cD BK245.out (by (with_reducible repeat first|apply ze|apply zf|apply zg);exact BK245.out) hb);replace BK251:=zh (cD BK251.out (by (with_reducible repeat first|apply ze|apply zf|apply zg);exact BK251.out) hb);replace BK256:=zh (cD BK256.out (by (with_reducible repeat first|apply ze|apply zf|apply zg);exact BK256.out) hb);replace HB:=zh (zC (by repeat (with_reducible first|exact HB.out|apply za|apply zb|apply zc|refine zd ?_ GE244.out|refine zd ?_ GE245.out|refine zd ?_ GE251.out|refine zd ?_ GE256.out)) hb);(try clear hb);(try clear hb2);(try clear hk);(try clear hi))|((with_reducible refine zJ (f:=19) rfl ?_);refine yj (some 83) rfl rfl Tryd.func19 (by kernel_rfl) rfl #[.string t263,.bool a1] rfl (by (try simp only [zt,zu,zv]);first|done|rfl|(simp only [zw,zx];rfl)|(simp only [yr,ys,zV,zW];rfl)) ?_;(with_reducible refine (F02.calls kj29  t263 a1 t264 _ A128.out).mono ?_);rintro e w135 ⟨rfl,hb⟩;refine ⟨_,rfl,?_⟩;replace BK244:=zh (cD BK244.out (by (with_reducible repeat first|apply ze|apply zf|apply zg);exact BK244.out) hb);replace BK245:=zh (cD BK245.out (by (with_reducible repeat first|apply ze|apply zf|apply zg);exact BK245.out) hb);replace BK251:=zh (cD BK251.out (by (with_reducible repeat first|apply ze|apply zf|apply zg);exact BK251.out) hb);replace BK256:=zh (cD BK256.out (by (with_reducible repeat first|apply ze|apply zf|apply zg);exact BK256.out) hb);replace HB:=zh (zC (by repeat (with_reducible first|exact HB.out|apply za|apply zb|apply zc|refine zd ?_ GE244.out|refine zd ?_ GE245.out|refine zd ?_ GE251.out|refine zd ?_ GE256.out)) hb);(try clear hb);(try clear hb2);(try clear hk);(try clear hi))|((with_reducible refine zJ (f:=18) rfl ?_);refine yj (some 84) rfl rfl Tryd.func18 (by kernel_rfl) rfl #[.string t264] rfl (by (try simp only [zt,zu,zv]);first|done|rfl|(simp only [zw,zx];rfl)|(simp only [yr,ys,zV,zW];rfl)) ?_;(with_reducible refine (Ft.calls kj29  t264 t265 t266 t267 _ A129.out).mono ?_);rintro e w136 ⟨rfl,hb⟩;refine ⟨_,rfl,?_⟩;replace BK244:=zh (cD BK244.out (by (with_reducible repeat first|apply ze|apply zf|apply zg);exact BK244.out) hb);replace BK245:=zh (cD BK245.out (by (with_reducible repeat first|apply ze|apply zf|apply zg);exact BK245.out) hb);replace BK251:=zh (cD BK251.out (by (with_reducible repeat first|apply ze|apply zf|apply zg);exact BK251.out) hb);replace BK256:=zh (cD BK256.out (by (with_reducible repeat first|apply ze|apply zf|apply zg);exact BK256.out) hb);replace HB:=zh (zC (by repeat (with_reducible first|exact HB.out|apply za|apply zb|apply zc|refine zd ?_ GE244.out|refine zd ?_ GE245.out|refine zd ?_ GE251.out|refine zd ?_ GE256.out)) hb);(try clear hb);(try clear hb2);(try clear hk);(try clear hi);have hnb137:=NB245_251.out;have hnc137:=NB251_245.out;have hnb138:=NB245_256.out;have hnc138:=NB256_245.out;obtain ⟨hcz139_0,hcz139_1,hcz139_2,hfz139_0,hfz139_1,hfz139_2⟩:=cB3 BK245.out))
    refine bodyPost_ret (results_cell_row rfl _ _ gb245 28 #[.string t265,.string t266,.bool t267] (0,0) _ rfl (by (with_reducible repeat first|apply ze|apply zf|apply zg);refine zL (cs:=#[.string t265,.string t266,.bool false]) ?_ 2 _ rfl;(with_reducible repeat first|apply ze|apply zf|apply zg);refine zL (cs:=#[.string t265,.string (⟨#[]⟩ : ByteArray),.bool false]) ?_ 1 _ rfl;(with_reducible repeat first|apply ze|apply zf|apply zg);refine zL (cs:=#[.string (⟨#[]⟩ : ByteArray),.string (⟨#[]⟩ : ByteArray),.bool false]) ?_ 0 _ rfl;(with_reducible repeat first|apply ze|apply zf|apply zg);exact BK245.out) Tryd.underlying28 rfl (by kernel_rfl)) rfl ?_;exact ⟨by first|rfl|(simp [yt,yu] <;> rfl)|(simp [*,yt,yu] <;> rfl),by repeat (with_reducible first|exact HB.out|apply za|apply zb|apply zc|refine zd ?_ GE244.out|refine zd ?_ GE245.out|refine zd ?_ GE251.out|refine zd ?_ GE256.out)⟩
   rw [if_neg c126] at H;have c126b0 : (a0_0 == 9)=false:=zY.mpr c126;have c126b1 : (a0_0 != 9)=true:=zZ.mpr c126;simp only [Option.some.injEq,Prod.mk.injEq] at H;obtain ⟨rfl,rfl,rfl⟩:=H;have hnb140:=NB245_244.out;have hnc140:=NB244_245.out;have hnb141:=NB245_251.out;have hnc141:=NB251_245.out;have hnb142:=NB245_256.out;have hnc142:=NB256_245.out;obtain ⟨hcz143_0,hcz143_1,hcz143_2,hfz143_0,hfz143_1,hfz143_2⟩:=cB3 BK245.out
   go_wp2
   refine bodyPost_ret (results_cell_row rfl _ _ gb245 28 #[.string (⟨#[]⟩ : ByteArray),.string (⟨#[]⟩ : ByteArray),.bool true] (0,0) _ rfl (by (with_reducible repeat first|apply ze|apply zf|apply zg);refine zL (cs:=#[.string (⟨#[]⟩ : ByteArray),.string (⟨#[]⟩ : ByteArray),.bool false]) ?_ 2 _ rfl;(with_reducible repeat first|apply ze|apply zf|apply zg);refine zL (cs:=#[.string (⟨#[]⟩ : ByteArray),.string (⟨#[]⟩ : ByteArray),.bool false]) ?_ 1 _ rfl;(with_reducible repeat first|apply ze|apply zf|apply zg);refine zL (cs:=#[.string (⟨#[]⟩ : ByteArray),.string (⟨#[]⟩ : ByteArray),.bool false]) ?_ 0 _ rfl;(with_reducible repeat first|apply ze|apply zf|apply zg);exact BK245.out) Tryd.underlying28 rfl (by kernel_rfl)) rfl ?_;exact ⟨by first|rfl|(simp [yt,yu] <;> rfl)|(simp [*,yt,yu] <;> rfl),by repeat (with_reducible first|exact HB.out|apply za|apply zb|apply zc|refine zd ?_ GE244.out|refine zd ?_ GE245.out|refine zd ?_ GE251.out|refine zd ?_ GE256.out)⟩

end Go.Proofs.YthjgfjlogilleabDoor.Q
end
section
namespace Go.Proofs.YthjgfjlogilleabDoor.Q
open Go.RowKit Go.Proofs.YthjgfjlogilleabDoorW.PrintWords Go.Proofs.YthjgfjlogilleabDoorW.PrintLast Go.Proofs.YthjgfjlogilleabDoorW.PrintMore
attribute [local go_sem] max2_int min2_int max_two min_two max_three min_three max_four min_four max2_str min2_str str_geq str_gtr str_leq
set_option linter.unusedVariables false
set_option linter.unusedSimpArgs false

def F0a.f (k : Nat) (a0_0 : Int) (a0_1 : ByteArray) (a0_2 : Int) (a0_3 : Int) (a0_4 : ByteArray) (a1 : Bool) : Option (ByteArray×ByteArray×Bool×Int):=(Fa.f k a0_0 a0_1 a0_2 a0_3 a0_4).bind fun t270 => (if t270=true then ((F1.f k a0_0 a0_1 a0_2 a0_3 a0_4 a1).bind fun bt271 => (some (bt271.1,bt271.2.1,bt271.2.2,0))) else (some ((⟨#[]⟩ : ByteArray),(⟨#[]⟩ : ByteArray),false,1)))
theorem F0a.mono : ∀ a0 a1 a2 a3 a4 a5 k,LeO (F0a.f k a0 a1 a2 a3 a4 a5) (F0a.f (k + 1) a0 a1 a2 a3 a4 a5):=by
 intro a0 a1 a2 a3 a4 a5 k;unfold F0a.f
 repeat' first|(with_reducible first|exact Fa.mono _ _ _ _ _ _|exact F1.mono _ _ _ _ _ _ _|exact zQ _|exact zN _|refine zP ?_ ?_|refine zO ?_ (fun _ => ?_))|refine zP ?_ ?_|refine zO ?_ (fun _ => ?_)
set_option maxHeartbeats 8000000 in
set_option maxRecDepth 100000 in
theorem F0a.calls (k : Nat) (a0_0 : Int) (a0_1 : ByteArray) (a0_2 : Int) (a0_3 : Int) (a0_4 : ByteArray) (a1 : Bool) (r1 : ByteArray) (r2 : ByteArray) (r3 : Bool) (r4 : Int) (w : World) (h : F0a.f k a0_0 a0_1 a0_2 a0_3 a0_4 a1=some (r1,r2,r3,r4)) :
  Calls Tryd.prog 5 #[.agg #[.int .i64 a0_0,.string a0_1,.int .i64 a0_2,.int .i64 a0_3,.string a0_4],.bool a1] w fun e w' => e = .returned (.tuple #[.agg #[.string r1,.string r2,.bool r3],.int .i64 r4])∧Below w.heap.size w w':=by
 have hu33:=Tryd.underlying33;have hu28:=Tryd.underlying28;have HB:=zh (Below.refl w.heap.size w);have H : ((Fa.f k a0_0 a0_1 a0_2 a0_3 a0_4).bind fun t270 => (if t270=true then ((F1.f k a0_0 a0_1 a0_2 a0_3 a0_4 a1).bind fun bt271 => (some (bt271.1,bt271.2.1,bt271.2.2,0))) else (some ((⟨#[]⟩ : ByteArray),(⟨#[]⟩ : ByteArray),false,1))))=some (r1,r2,r3,r4):=h;clear h;replace H:=zT.mp H;obtain ⟨t270,A30,H⟩:=H;replace H : (if t270=true then ((F1.f k a0_0 a0_1 a0_2 a0_3 a0_4 a1).bind fun bt271 => (some (bt271.1,bt271.2.1,bt271.2.2,0))) else (some ((⟨#[]⟩ : ByteArray),(⟨#[]⟩ : ByteArray),false,1)))=some (r1,r2,r3,r4):=H;have A3:=zh A30;clear A30
 by_cases c4 : t270=true
 ·
  subst c4
  have H1 : ((F1.f k a0_0 a0_1 a0_2 a0_3 a0_4 a1).bind fun bt271 => (some (bt271.1,bt271.2.1,bt271.2.2,0)))=some (r1,r2,r3,r4):=by rw [if_pos rfl] at H;exact H
  clear H;have H:=H1;clear H1;replace H:=zT.mp H;obtain ⟨⟨t271,t272,t273⟩,A50,H⟩:=H;replace H : (some (t271,t272,t273,0))=some (r1,r2,r3,r4):=H;have A5:=zh A50;clear A50;simp only [Option.some.injEq,Prod.mk.injEq] at H;obtain ⟨rfl,rfl,rfl,rfl⟩:=H
  go_enter Tryd.func5,Tryd.ntmps5
  go_wp2_with (first|((with_reducible refine zK (N:=2) rfl ?_);refine zI ?hg (N:=2) ?hd (cs:=#[.int .i64 a0_0,.string a0_1,.int .i64 a0_2,.int .i64 a0_3,.string a0_4]) (t:=33) ?hr ?_;(case hd|hg => rfl);(case hr => go_simp <;> rfl);intro gb268 hg w6 hbox hb;have BK268:=zh (hbox);have hH_:=cH (by repeat (with_reducible first|exact HB.out|apply za|apply zb|apply zc)) hb hg;have GW268:=zh hH_.1;have GE268:=GW268;replace HB:=zh hH_.2;clear hb hbox hg hH_)|((with_reducible refine zK (N:=4) rfl ?_);refine zI ?hg (N:=4) ?hd (cs:=#[.string (⟨#[]⟩ : ByteArray),.string (⟨#[]⟩ : ByteArray),.bool false]) (t:=28) ?hr ?_;(case hd|hg => rfl);(case hr => go_simp <;> rfl);intro gb269 hg w7 hbox hb;have BK269:=zh (hbox);have hH_:=cH (by repeat (with_reducible first|exact HB.out|apply za|apply zb|apply zc|refine zd ?_ GE268.out)) hb hg;have GW269:=zh hH_.1;have GE269:=GW269;replace HB:=zh hH_.2;have NB268_269:=zh ((by rw [hg];exact yc (yi (g:=gb268) (o:=.cells #[.int .i64 a0_0,.string a0_1,.int .i64 a0_2,.int .i64 a0_3,.string a0_4] 33 (0,0)) (by (with_reducible repeat first|apply ze|apply zf|apply zg);exact BK268.out)) : gb268≠gb269));have NB269_268:=zh NB268_269.out.symm;replace BK268:=zh (cD BK268.out (by (with_reducible repeat first|apply ze|apply zf|apply zg);exact BK268.out) hb);clear hb hbox hg hH_;have hnb8:=NB268_269.out;have hnc8:=NB269_268.out;obtain ⟨hcz9_0,hcz9_1,hcz9_2,hcz9_3,hcz9_4,hfz9_0,hfz9_1,hfz9_2,hfz9_3,hfz9_4⟩:=cB5 BK268.out)|((with_reducible refine zJ (f:=10) rfl ?_);refine yj (some 7) rfl rfl Tryd.func10 (by kernel_rfl) rfl #[.agg #[.int .i64 a0_0,.string a0_1,.int .i64 a0_2,.int .i64 a0_3,.string a0_4]] rfl (by (try simp only [zt,zu,zv]);first|done|rfl|(simp only [zw,zx];rfl)|(simp only [yr,ys,zV,zW];rfl)) ?_;(with_reducible refine (Fa.calls k  a0_0 a0_1 a0_2 a0_3 a0_4 true _ A3.out).mono ?_);rintro e w10 ⟨rfl,hb⟩;refine ⟨_,rfl,?_⟩;replace BK268:=zh (cD BK268.out (by (with_reducible repeat first|apply ze|apply zf|apply zg);exact BK268.out) hb);replace BK269:=zh (cD BK269.out (by (with_reducible repeat first|apply ze|apply zf|apply zg);exact BK269.out) hb);replace HB:=zh (zC (by repeat (with_reducible first|exact HB.out|apply za|apply zb|apply zc|refine zd ?_ GE268.out|refine zd ?_ GE269.out)) hb);(try clear hb);(try clear hb2);(try clear hk);(try clear hi);obtain ⟨hcz11_0,hcz11_1,hcz11_2,hcz11_3,hcz11_4,hfz11_0,hfz11_1,hfz11_2,hfz11_3,hfz11_4⟩:=cB5 BK268.out)|((with_reducible refine zJ (f:=11) rfl ?_);refine yj (some 12) rfl rfl Tryd.func11 (by kernel_rfl) rfl #[.agg #[.int .i64 a0_0,.string a0_1,.int .i64 a0_2,.int .i64 a0_3,.string a0_4],.bool a1] rfl (by (try simp only [zt,zu,zv]);first|done|rfl|(simp only [zw,zx];rfl)|(simp only [yr,ys,zV,zW];rfl)) ?_;(with_reducible refine (F1.calls k  a0_0 a0_1 a0_2 a0_3 a0_4 a1 t271 t272 t273 _ A5.out).mono ?_);rintro e w12 ⟨rfl,hb⟩;refine ⟨_,rfl,?_⟩;replace BK268:=zh (cD BK268.out (by (with_reducible repeat first|apply ze|apply zf|apply zg);exact BK268.out) hb);replace BK269:=zh (cD BK269.out (by (with_reducible repeat first|apply ze|apply zf|apply zg);exact BK269.out) hb);replace HB:=zh (zC (by repeat (with_reducible first|exact HB.out|apply za|apply zb|apply zc|refine zd ?_ GE268.out|refine zd ?_ GE269.out)) hb);(try clear hb);(try clear hb2);(try clear hk);(try clear hi);obtain ⟨hcz13_0,hcz13_1,hcz13_2,hfz13_0,hfz13_1,hfz13_2⟩:=cB3 BK269.out))
  refine bodyPost_ret (results_ct rfl _ _ gb269 28 #[.string t271,.string t272,.bool t273] (0,0) _ rfl (by (with_reducible repeat first|apply ze|apply zf|apply zg);refine zL (cs:=#[.string t271,.string t272,.bool false]) ?_ 2 _ rfl;(with_reducible repeat first|apply ze|apply zf|apply zg);refine zL (cs:=#[.string t271,.string (⟨#[]⟩ : ByteArray),.bool false]) ?_ 1 _ rfl;(with_reducible repeat first|apply ze|apply zf|apply zg);refine zL (cs:=#[.string (⟨#[]⟩ : ByteArray),.string (⟨#[]⟩ : ByteArray),.bool false]) ?_ 0 _ rfl;(with_reducible repeat first|apply ze|apply zf|apply zg);exact BK269.out) Tryd.underlying28 rfl (by kernel_rfl)) rfl ?_;exact ⟨by first|rfl|(simp [yt,yu] <;> rfl)|(simp [*,yt,yu] <;> rfl),by repeat (with_reducible first|exact HB.out|apply za|apply zb|apply zc|refine zd ?_ GE268.out|refine zd ?_ GE269.out)⟩
 replace c4:=yb.mpr c4;subst c4;have H1 : (some ((⟨#[]⟩ : ByteArray),(⟨#[]⟩ : ByteArray),false,1))=some (r1,r2,r3,r4):=by rw [if_neg (show ¬ (false=true) by decide)] at H;exact H
 clear H;have H:=H1;clear H1;simp only [Option.some.injEq,Prod.mk.injEq] at H;obtain ⟨rfl,rfl,rfl,rfl⟩:=H
 go_enter Tryd.func5,Tryd.ntmps5
 go_wp2_with (first|((with_reducible refine zK (N:=2) rfl ?_);refine zI ?hg (N:=2) ?hd (cs:=#[.int .i64 a0_0,.string a0_1,.int .i64 a0_2,.int .i64 a0_3,.string a0_4]) (t:=33) ?hr ?_;(case hd|hg => rfl);(case hr => go_simp <;> rfl);intro gb268 hg w14 hbox hb;have BK268:=zh (hbox);have hH_:=cH (by repeat (with_reducible first|exact HB.out|apply za|apply zb|apply zc)) hb hg;have GW268:=zh hH_.1;have GE268:=GW268;replace HB:=zh hH_.2;clear hb hbox hg hH_)|((with_reducible refine zK (N:=4) rfl ?_);refine zI ?hg (N:=4) ?hd (cs:=#[.string (⟨#[]⟩ : ByteArray),.string (⟨#[]⟩ : ByteArray),.bool false]) (t:=28) ?hr ?_;(case hd|hg => rfl);(case hr => go_simp <;> rfl);intro gb269 hg w15 hbox hb;have BK269:=zh (hbox);have hH_:=cH (by repeat (with_reducible first|exact HB.out|apply za|apply zb|apply zc|refine zd ?_ GE268.out)) hb hg;have GW269:=zh hH_.1;have GE269:=GW269;replace HB:=zh hH_.2;have NB268_269:=zh ((by rw [hg];exact yc (yi (g:=gb268) (o:=.cells #[.int .i64 a0_0,.string a0_1,.int .i64 a0_2,.int .i64 a0_3,.string a0_4] 33 (0,0)) (by (with_reducible repeat first|apply ze|apply zf|apply zg);exact BK268.out)) : gb268≠gb269));have NB269_268:=zh NB268_269.out.symm;replace BK268:=zh (cD BK268.out (by (with_reducible repeat first|apply ze|apply zf|apply zg);exact BK268.out) hb);clear hb hbox hg hH_;have hnb16:=NB268_269.out;have hnc16:=NB269_268.out;obtain ⟨hcz17_0,hcz17_1,hcz17_2,hcz17_3,hcz17_4,hfz17_0,hfz17_1,hfz17_2,hfz17_3,hfz17_4⟩:=cB5 BK268.out)|((with_reducible refine zJ (f:=10) rfl ?_);refine yj (some 7) rfl rfl Tryd.func10 (by kernel_rfl) rfl #[.agg #[.int .i64 a0_0,.string a0_1,.int .i64 a0_2,.int .i64 a0_3,.string a0_4]] rfl (by (try simp only [zt,zu,zv]);first|done|rfl|(simp only [zw,zx];rfl)|(simp only [yr,ys,zV,zW];rfl)) ?_;(with_reducible refine (Fa.calls k  a0_0 a0_1 a0_2 a0_3 a0_4 false _ A3.out).mono ?_);rintro e w18 ⟨rfl,hb⟩;refine ⟨_,rfl,?_⟩;replace BK268:=zh (cD BK268.out (by (with_reducible repeat first|apply ze|apply zf|apply zg);exact BK268.out) hb);replace BK269:=zh (cD BK269.out (by (with_reducible repeat first|apply ze|apply zf|apply zg);exact BK269.out) hb);replace HB:=zh (zC (by repeat (with_reducible first|exact HB.out|apply za|apply zb|apply zc|refine zd ?_ GE268.out|refine zd ?_ GE269.out)) hb);(try clear hb);(try clear hb2);(try clear hk);(try clear hi);obtain ⟨hcz19_0,hcz19_1,hcz19_2,hfz19_0,hfz19_1,hfz19_2⟩:=cB3 BK269.out))
 refine bodyPost_ret (results_ct rfl _ _ gb269 28 #[.string (⟨#[]⟩ : ByteArray),.string (⟨#[]⟩ : ByteArray),.bool false] (0,0) _ rfl (by (with_reducible repeat first|apply ze|apply zf|apply zg);refine zL (cs:=#[.string (⟨#[]⟩ : ByteArray),.string (⟨#[]⟩ : ByteArray),.bool false]) ?_ 2 _ rfl;(with_reducible repeat first|apply ze|apply zf|apply zg);refine zL (cs:=#[.string (⟨#[]⟩ : ByteArray),.string (⟨#[]⟩ : ByteArray),.bool false]) ?_ 1 _ rfl;(with_reducible repeat first|apply ze|apply zf|apply zg);refine zL (cs:=#[.string (⟨#[]⟩ : ByteArray),.string (⟨#[]⟩ : ByteArray),.bool false]) ?_ 0 _ rfl;(with_reducible repeat first|apply ze|apply zf|apply zg);exact BK269.out) Tryd.underlying28 rfl (by kernel_rfl)) rfl ?_;exact ⟨by first|rfl|(simp [yt,yu] <;> rfl)|(simp [*,yt,yu] <;> rfl),by repeat (with_reducible first|exact HB.out|apply za|apply zb|apply zc|refine zd ?_ GE268.out|refine zd ?_ GE269.out)⟩


def F0q.f (a0_0 : Int) (a0_1 : Int) (a0_2 : ByteArray) : Option (Int×Int×ByteArray):=some (a0_0,a0_1,a0_2)
set_option maxHeartbeats 8000000 in
set_option maxRecDepth 100000 in
theorem F0q.calls (a0_0 : Int) (a0_1 : Int) (a0_2 : ByteArray) (r1 : Int) (r2 : Int) (r3 : ByteArray) (w : World) (h : F0q.f a0_0 a0_1 a0_2=some (r1,r2,r3)) :
  Calls Tryd.prog 12 #[.agg #[.int .i64 a0_0,.int .i64 a0_1,.string a0_2]] w fun e w' => e = .returned (.agg #[.int .i64 r1,.int .i64 r2,.string r3])∧Below w.heap.size w w':=by
 have hu23:=Tryd.underlying23;have hu31:=Tryd.underlying31;have HB:=zh (Below.refl w.heap.size w);have H : (some (a0_0,a0_1,a0_2))=some (r1,r2,r3):=h;clear h;simp only [Option.some.injEq,Prod.mk.injEq] at H;obtain ⟨rfl,rfl,rfl⟩:=H
 go_enter Tryd.func12,Tryd.ntmps12
 go_wp2_with (first|((with_reducible refine zK (N:=1) rfl ?_);refine zI ?hg (N:=1) ?hd (cs:=#[.int .i64 a0_0,.int .i64 a0_1,.string a0_2]) (t:=23) ?hr ?_;(case hd|hg => rfl);(case hr => go_simp <;> rfl);intro gb274 hg w2 hbox hb;have BK274:=zh (hbox);have hH_:=cH (by repeat (with_reducible first|exact HB.out|apply za|apply zb|apply zc)) hb hg;have GW274:=zh hH_.1;have GE274:=GW274;replace HB:=zh hH_.2;clear hb hbox hg hH_)|((with_reducible refine zK (N:=2) rfl ?_);refine zI ?hg (N:=2) ?hd (cs:=#[.int .i64 0,.int .i64 0,.string (⟨#[]⟩ : ByteArray)]) (t:=31) ?hr ?_;(case hd|hg => rfl);(case hr => go_simp <;> rfl);intro gb275 hg w3 hbox hb;have BK275:=zh (hbox);have hH_:=cH (by repeat (with_reducible first|exact HB.out|apply za|apply zb|apply zc|refine zd ?_ GE274.out)) hb hg;have GW275:=zh hH_.1;have GE275:=GW275;replace HB:=zh hH_.2;have NB274_275:=zh ((by rw [hg];exact yc (yi (g:=gb274) (o:=.cells #[.int .i64 a0_0,.int .i64 a0_1,.string a0_2] 23 (0,0)) (by (with_reducible repeat first|apply ze|apply zf|apply zg);exact BK274.out)) : gb274≠gb275));have NB275_274:=zh NB274_275.out.symm;replace BK274:=zh (cD BK274.out (by (with_reducible repeat first|apply ze|apply zf|apply zg);exact BK274.out) hb);clear hb hbox hg hH_)|((with_reducible refine zK (N:=3) rfl ?_);refine zI ?hg (N:=3) ?hd (cs:=#[.int .i64 0,.int .i64 0,.string (⟨#[]⟩ : ByteArray)]) (t:=31) ?hr ?_;(case hd|hg => rfl);(case hr => go_simp <;> rfl);intro gb276 hg w4 hbox hb;have BK276:=zh (hbox);have hH_:=cH (by repeat (with_reducible first|exact HB.out|apply za|apply zb|apply zc|refine zd ?_ GE274.out|refine zd ?_ GE275.out)) hb hg;have GW276:=zh hH_.1;have GE276:=GW276;replace HB:=zh hH_.2;have NB274_276:=zh ((by rw [hg];exact yc (yi (g:=gb274) (o:=.cells #[.int .i64 a0_0,.int .i64 a0_1,.string a0_2] 23 (0,0)) (by (with_reducible repeat first|apply ze|apply zf|apply zg);exact BK274.out)) : gb274≠gb276));have NB276_274:=zh NB274_276.out.symm;replace BK274:=zh (cD BK274.out (by (with_reducible repeat first|apply ze|apply zf|apply zg);exact BK274.out) hb);have NB275_276:=zh ((by rw [hg];exact yc (yi (g:=gb275) (o:=.cells #[.int .i64 0,.int .i64 0,.string (⟨#[]⟩ : ByteArray)] 31 (0,0)) (by (with_reducible repeat first|apply ze|apply zf|apply zg);exact BK275.out)) : gb275≠gb276));have NB276_275:=zh NB275_276.out.symm;replace BK275:=zh (cD BK275.out (by (with_reducible repeat first|apply ze|apply zf|apply zg);exact BK275.out) hb);clear hb hbox hg hH_;have hnb5:=NB274_275.out;have hnc5:=NB275_274.out;have hnb6:=NB274_276.out;have hnc6:=NB276_274.out;obtain ⟨hcz7_0,hcz7_1,hcz7_2,hfz7_0,hfz7_1,hfz7_2⟩:=cB3 BK274.out;have hnb8:=NB276_275.out;have hnc8:=NB275_276.out;obtain ⟨hcz9_0,hcz9_1,hcz9_2,hfz9_0,hfz9_1,hfz9_2⟩:=cB3 BK276.out;obtain ⟨hcz10_0,hcz10_1,hcz10_2,hfz10_0,hfz10_1,hfz10_2⟩:=cB3 BK275.out))
 refine bodyPost_ret (results_cell_row rfl _ _ gb275 31 #[.int .i64 a0_0,.int .i64 a0_1,.string a0_2] (0,0) _ rfl (by (with_reducible repeat first|apply ze|apply zf|apply zg);refine zL (cs:=#[.int .i64 a0_0,.int .i64 a0_1,.string (⟨#[]⟩ : ByteArray)]) ?_ 2 _ rfl;(with_reducible repeat first|apply ze|apply zf|apply zg);refine zL (cs:=#[.int .i64 a0_0,.int .i64 0,.string (⟨#[]⟩ : ByteArray)]) ?_ 1 _ rfl;(with_reducible repeat first|apply ze|apply zf|apply zg);refine zL (cs:=#[.int .i64 0,.int .i64 0,.string (⟨#[]⟩ : ByteArray)]) ?_ 0 _ rfl;(with_reducible repeat first|apply ze|apply zf|apply zg);refine cS3 ?_ NB275_276.out;(with_reducible repeat first|apply ze|apply zf|apply zg);exact BK275.out) Tryd.underlying31 rfl (by kernel_rfl)) rfl ?_;exact ⟨by first|rfl|(simp [yt,yu] <;> rfl)|(simp [*,yt,yu] <;> rfl),by repeat (with_reducible first|exact HB.out|apply za|apply zb|apply zc|refine zd ?_ GE274.out|refine zd ?_ GE275.out|refine zd ?_ GE276.out)⟩


def F0c.f (a0_0 : Int) (a0_1 : ByteArray) (a0_2 : Int) (a0_3 : Int) (a0_4 : ByteArray) : Option (Int×ByteArray×Int×Int×ByteArray):=(F0q.f a0_2 a0_3 a0_4).bind fun bt280 => (some (a0_0,a0_1,bt280.1,bt280.2.1,bt280.2.2))
set_option maxHeartbeats 8000000 in
set_option maxRecDepth 100000 in
theorem F0c.calls (a0_0 : Int) (a0_1 : ByteArray) (a0_2 : Int) (a0_3 : Int) (a0_4 : ByteArray) (r1 : Int) (r2 : ByteArray) (r3 : Int) (r4 : Int) (r5 : ByteArray) (w : World) (h : F0c.f a0_0 a0_1 a0_2 a0_3 a0_4=some (r1,r2,r3,r4,r5)) :
  Calls Tryd.prog 6 #[.agg #[.int .i64 a0_0,.string a0_1,.int .i64 a0_2,.int .i64 a0_3,.string a0_4]] w fun e w' => e = .returned (.agg #[.int .i64 r1,.string r2,.int .i64 r3,.int .i64 r4,.string r5])∧Below w.heap.size w w':=by
 have hu25:=Tryd.underlying25;have hu33:=Tryd.underlying33;have hu23:=Tryd.underlying23;have hu31:=Tryd.underlying31;have HB:=zh (Below.refl w.heap.size w);have H : ((F0q.f a0_2 a0_3 a0_4).bind fun bt280 => (some (a0_0,a0_1,bt280.1,bt280.2.1,bt280.2.2)))=some (r1,r2,r3,r4,r5):=h;clear h;replace H:=zT.mp H;obtain ⟨⟨t280,t281,t282⟩,A20,H⟩:=H;replace H : (some (a0_0,a0_1,t280,t281,t282))=some (r1,r2,r3,r4,r5):=H;have A2:=zh A20;clear A20;simp only [Option.some.injEq,Prod.mk.injEq] at H;obtain ⟨rfl,rfl,rfl,rfl,rfl⟩:=H
 go_enter Tryd.func6,Tryd.ntmps6
 go_wp2_with (first|((with_reducible refine zK (N:=1) rfl ?_);refine zI ?hg (N:=1) ?hd (cs:=#[.int .i64 a0_0,.string a0_1,.int .i64 a0_2,.int .i64 a0_3,.string a0_4]) (t:=25) ?hr ?_;(case hd|hg => rfl);(case hr => go_simp <;> rfl);intro gb277 hg w3 hbox hb;have BK277:=zh (hbox);have hH_:=cH (by repeat (with_reducible first|exact HB.out|apply za|apply zb|apply zc)) hb hg;have GW277:=zh hH_.1;have GE277:=GW277;replace HB:=zh hH_.2;clear hb hbox hg hH_)|((with_reducible refine zK (N:=2) rfl ?_);refine zI ?hg (N:=2) ?hd (cs:=#[.int .i64 0,.string (⟨#[]⟩ : ByteArray),.int .i64 0,.int .i64 0,.string (⟨#[]⟩ : ByteArray)]) (t:=33) ?hr ?_;(case hd|hg => rfl);(case hr => go_simp <;> rfl);intro gb278 hg w4 hbox hb;have BK278:=zh (hbox);have hH_:=cH (by repeat (with_reducible first|exact HB.out|apply za|apply zb|apply zc|refine zd ?_ GE277.out)) hb hg;have GW278:=zh hH_.1;have GE278:=GW278;replace HB:=zh hH_.2;have NB277_278:=zh ((by rw [hg];exact yc (yi (g:=gb277) (o:=.cells #[.int .i64 a0_0,.string a0_1,.int .i64 a0_2,.int .i64 a0_3,.string a0_4] 25 (0,0)) (by (with_reducible repeat first|apply ze|apply zf|apply zg);exact BK277.out)) : gb277≠gb278));have NB278_277:=zh NB277_278.out.symm;replace BK277:=zh (cD BK277.out (by (with_reducible repeat first|apply ze|apply zf|apply zg);exact BK277.out) hb);clear hb hbox hg hH_)|((with_reducible refine zK (N:=3) rfl ?_);refine zI ?hg (N:=3) ?hd (cs:=#[.int .i64 0,.string (⟨#[]⟩ : ByteArray),.int .i64 0,.int .i64 0,.string (⟨#[]⟩ : ByteArray)]) (t:=33) ?hr ?_;(case hd|hg => rfl);(case hr => go_simp <;> rfl);intro gb279 hg w5 hbox hb;have BK279:=zh (hbox);have hH_:=cH (by repeat (with_reducible first|exact HB.out|apply za|apply zb|apply zc|refine zd ?_ GE277.out|refine zd ?_ GE278.out)) hb hg;have GW279:=zh hH_.1;have GE279:=GW279;replace HB:=zh hH_.2;have NB277_279:=zh ((by rw [hg];exact yc (yi (g:=gb277) (o:=.cells #[.int .i64 a0_0,.string a0_1,.int .i64 a0_2,.int .i64 a0_3,.string a0_4] 25 (0,0)) (by (with_reducible repeat first|apply ze|apply zf|apply zg);exact BK277.out)) : gb277≠gb279));have NB279_277:=zh NB277_279.out.symm;replace BK277:=zh (cD BK277.out (by (with_reducible repeat first|apply ze|apply zf|apply zg);exact BK277.out) hb);have NB278_279:=zh ((by rw [hg];exact yc (yi (g:=gb278) (o:=.cells #[.int .i64 0,.string (⟨#[]⟩ : ByteArray),.int .i64 0,.int .i64 0,.string (⟨#[]⟩ : ByteArray)] 33 (0,0)) (by (with_reducible repeat first|apply ze|apply zf|apply zg);exact BK278.out)) : gb278≠gb279));have NB279_278:=zh NB278_279.out.symm;replace BK278:=zh (cD BK278.out (by (with_reducible repeat first|apply ze|apply zf|apply zg);exact BK278.out) hb);clear hb hbox hg hH_;have hnb6:=NB277_278.out;have hnc6:=NB278_277.out;have hnb7:=NB277_279.out;have hnc7:=NB279_277.out;obtain ⟨hcz8_0,hcz8_1,hcz8_2,hcz8_3,hcz8_4,hfz8_0,hfz8_1,hfz8_2,hfz8_3,hfz8_4⟩:=cB5 BK277.out;have hnb9:=NB279_278.out;have hnc9:=NB278_279.out;obtain ⟨hcz10_0,hcz10_1,hcz10_2,hcz10_3,hcz10_4,hfz10_0,hfz10_1,hfz10_2,hfz10_3,hfz10_4⟩:=cB5 BK279.out)|((with_reducible refine zJ (f:=12) rfl ?_);refine yj (some 12) rfl rfl Tryd.func12 (by kernel_rfl) rfl #[.agg #[.int .i64 a0_2,.int .i64 a0_3,.string a0_4]] rfl (by (try simp only [zt,zu,zv]);first|done|rfl|(simp only [zw,zx];rfl)|(simp only [yr,ys,zV,zW];rfl)) ?_;(with_reducible refine (F0q.calls  a0_2 a0_3 a0_4 t280 t281 t282 _ A2.out).mono ?_);rintro e w11 ⟨rfl,hb⟩;refine ⟨_,rfl,?_⟩;replace BK277:=zh (cD BK277.out (by (with_reducible repeat first|apply ze|apply zf|apply zg);refine cS2 ?_ NB277_279.out;(with_reducible repeat first|apply ze|apply zf|apply zg);exact BK277.out) hb);replace BK278:=zh (cD BK278.out (by (with_reducible repeat first|apply ze|apply zf|apply zg);refine cS2 ?_ NB278_279.out;(with_reducible repeat first|apply ze|apply zf|apply zg);exact BK278.out) hb);replace BK279:=zh (zD (g:=gb279) (o:=.cells #[.int .i64 a0_0,.string a0_1,.int .i64 0,.int .i64 0,.string (⟨#[]⟩ : ByteArray)] 33 (0,0)) (by (with_reducible repeat first|apply ze|apply zf|apply zg);refine zL (cs:=#[.int .i64 a0_0,.string (⟨#[]⟩ : ByteArray),.int .i64 0,.int .i64 0,.string (⟨#[]⟩ : ByteArray)]) ?_ 1 _ rfl;(with_reducible repeat first|apply ze|apply zf|apply zg);refine zL (cs:=#[.int .i64 0,.string (⟨#[]⟩ : ByteArray),.int .i64 0,.int .i64 0,.string (⟨#[]⟩ : ByteArray)]) ?_ 0 _ rfl;(with_reducible repeat first|apply ze|apply zf|apply zg);exact BK279.out) hb);replace HB:=zh (zC (by repeat (with_reducible first|exact HB.out|apply za|apply zb|apply zc|refine zd ?_ GE277.out|refine zd ?_ GE278.out|refine zd ?_ GE279.out)) hb);(try clear hb);(try clear hb2);(try clear hk);(try clear hi);obtain ⟨hcz12_0,hcz12_1,hcz12_2,hcz12_3,hcz12_4,hfz12_0,hfz12_1,hfz12_2,hfz12_3,hfz12_4⟩:=cB5 BK279.out;obtain ⟨hcz13_0,hcz13_1,hcz13_2,hcz13_3,hcz13_4,hfz13_0,hfz13_1,hfz13_2,hfz13_3,hfz13_4⟩:=cB5 BK278.out))
 refine bodyPost_ret (results_cell_row rfl _ _ gb278 33 #[.int .i64 a0_0,.string a0_1,.int .i64 t280,.int .i64 t281,.string t282] (0,0) _ rfl (by (with_reducible repeat first|apply ze|apply zf|apply zg);refine zL (cs:=#[.int .i64 a0_0,.string a0_1,.int .i64 t280,.int .i64 t281,.string (⟨#[]⟩ : ByteArray)]) ?_ 4 _ rfl;(with_reducible repeat first|apply ze|apply zf|apply zg);refine zL (cs:=#[.int .i64 a0_0,.string a0_1,.int .i64 t280,.int .i64 0,.string (⟨#[]⟩ : ByteArray)]) ?_ 3 _ rfl;(with_reducible repeat first|apply ze|apply zf|apply zg);refine zL (cs:=#[.int .i64 a0_0,.string a0_1,.int .i64 0,.int .i64 0,.string (⟨#[]⟩ : ByteArray)]) ?_ 2 _ rfl;(with_reducible repeat first|apply ze|apply zf|apply zg);refine zL (cs:=#[.int .i64 a0_0,.string (⟨#[]⟩ : ByteArray),.int .i64 0,.int .i64 0,.string (⟨#[]⟩ : ByteArray)]) ?_ 1 _ rfl;(with_reducible repeat first|apply ze|apply zf|apply zg);refine zL (cs:=#[.int .i64 0,.string (⟨#[]⟩ : ByteArray),.int .i64 0,.int .i64 0,.string (⟨#[]⟩ : ByteArray)]) ?_ 0 _ rfl;(with_reducible repeat first|apply ze|apply zf|apply zg);refine cS3 ?_ NB278_279.out;(with_reducible repeat first|apply ze|apply zf|apply zg);exact BK278.out) Tryd.underlying33 rfl (by kernel_rfl)) rfl ?_;exact ⟨by first|rfl|(simp [yt,yu] <;> rfl)|(simp [*,yt,yu] <;> rfl),by repeat (with_reducible first|exact HB.out|apply za|apply zb|apply zc|refine zd ?_ GE277.out|refine zd ?_ GE278.out|refine zd ?_ GE279.out)⟩


def strings_Split.f (a0 : ByteArray) (a1 : ByteArray) : Option (List ByteArray):=if a1.size=1 then (if a0.size<4294967281 then (some (pieces a0 a1)) else (none)) else (none)
theorem strings_Split.calls (a0 : ByteArray) (a1 : ByteArray) (r : List ByteArray) (w : World) (h : strings_Split.f a0 a1=some r) :
  Calls Tryd.prog 35 #[.string a0,.string a1] w fun e w' => ∃ v0_ : Value,e = .returned (v0_)∧Kd.R Kd.string 9 w' w.heap.size (fun _ => True) v0_ r∧Below w.heap.size w w':=by
 unfold strings_Split.f at h
 by_cases h0 : a1.size=1
 ·
  rw [if_pos h0] at h
  by_cases h1 : a0.size<4294967281
  ·
   rw [if_pos h1] at h
   obtain rfl:=zU h;obtain ⟨c,rfl⟩:=Lib.one_byte a1 h0;exact split_one a0 c w h1
  rw [if_neg h1] at h;exact absurd h (by simp)
 rw [if_neg h0] at h;exact absurd h (by simp)


def F03.f (a0 : Int) (a1 : Int) (a2 : Int) : Option (Bool):=if a1≤a0 then (some (decide (a0≤a2))) else (some false)
set_option maxHeartbeats 8000000 in
set_option maxRecDepth 100000 in
theorem F03.calls (a0 : Int) (a1 : Int) (a2 : Int) (r : Bool) (w : World) (h : F03.f a0 a1 a2=some r) :
  Calls Tryd.prog 25 #[.int .i64 a0,.int .i64 a1,.int .i64 a2] w fun e w' => e = .returned (.bool r)∧Drawn0 w w':=by
 have H : (if a1≤a0 then (some (decide (a0≤a2))) else (some false))=some r:=h;clear h
 by_cases c4 : a1≤a0
 ·
  rw [if_pos c4] at H
  have c4b0 : decide (a1≤a0)=true:=decide_eq_true c4;clear c4;obtain rfl:=zU H
  go_enter Tryd.func25,Tryd.ntmps25
  go_wp2
  go_ret
  exact ⟨by first|rfl|(simp;done)|(simp [*];done),by repeat (first|exact yp _|apply yq)⟩
 rw [if_neg c4] at H;have c4b0 : decide (a1≤a0)=false:=decide_eq_false c4;clear c4;obtain rfl:=zU H
 go_enter Tryd.func25,Tryd.ntmps25
 go_wp2
 go_ret
 exact ⟨by first|rfl|(simp;done)|(simp [*];done),by repeat (first|exact yp _|apply yq)⟩


def F0l.f (a0 : Int) : Option (Bool):=if a0 ≥ 97 then (if a0≤122 then (some true) else (if a0 ≥ 65 then (if a0≤90 then (some true) else (some (a0 == 95))) else (some (a0 == 95)))) else (if a0 ≥ 65 then (if a0≤90 then (some true) else (some (a0 == 95))) else (some (a0 == 95)))
set_option maxHeartbeats 8000000 in
set_option maxRecDepth 100000 in
theorem F0l.calls (a0 : Int) (r : Bool) (w : World) (h : F0l.f a0=some r) :
  Calls Tryd.prog 61 #[.int .u8 a0] w fun e w' => e = .returned (.bool r)∧Drawn0 w w':=by
 have H : (if a0 ≥ 97 then (if a0≤122 then (some true) else (if a0 ≥ 65 then (if a0≤90 then (some true) else (some (a0 == 95))) else (some (a0 == 95)))) else (if a0 ≥ 65 then (if a0≤90 then (some true) else (some (a0 == 95))) else (some (a0 == 95))))=some r:=h;clear h
 by_cases c2 : a0 ≥ 97
 ·
  rw [if_pos c2] at H
  have c2b0 : decide (97≤a0)=true:=decide_eq_true c2;clear c2
  by_cases c3 : a0≤122
  ·
   rw [if_pos c3] at H
   have c3b0 : decide (a0≤122)=true:=decide_eq_true c3;clear c3;obtain rfl:=zU H
   go_enter Tryd.func61,Tryd.ntmps61
   go_wp2
   go_ret
   exact ⟨by first|rfl|(simp;done)|(simp [*];done),by repeat (first|exact yp _|apply yq)⟩
  rw [if_neg c3] at H;have c3b0 : decide (a0≤122)=false:=decide_eq_false c3;clear c3
  by_cases c4 : a0 ≥ 65
  ·
   rw [if_pos c4] at H
   have c4b0 : decide (65≤a0)=true:=decide_eq_true c4;clear c4
   by_cases c5 : a0≤90
   ·
    rw [if_pos c5] at H
    have c5b0 : decide (a0≤90)=true:=decide_eq_true c5;clear c5;obtain rfl:=zU H
    go_enter Tryd.func61,Tryd.ntmps61
    go_wp2
    go_ret
    exact ⟨by first|rfl|(simp;done)|(simp [*];done),by repeat (first|exact yp _|apply yq)⟩
   rw [if_neg c5] at H;have c5b0 : decide (a0≤90)=false:=decide_eq_false c5;clear c5;obtain rfl:=zU H
   go_enter Tryd.func61,Tryd.ntmps61
   go_wp2
   go_ret
   exact ⟨by first|rfl|(simp;done)|(simp [*];done),by repeat (first|exact yp _|apply yq)⟩
  rw [if_neg c4] at H;have c4b0 : decide (65≤a0)=false:=decide_eq_false c4;clear c4;obtain rfl:=zU H
  go_enter Tryd.func61,Tryd.ntmps61
  go_wp2
  go_ret
  exact ⟨by first|rfl|(simp;done)|(simp [*];done),by repeat (first|exact yp _|apply yq)⟩
 rw [if_neg c2] at H;have c2b0 : decide (97≤a0)=false:=decide_eq_false c2;clear c2
 by_cases c6 : a0 ≥ 65
 ·
  rw [if_pos c6] at H
  have c6b0 : decide (65≤a0)=true:=decide_eq_true c6;clear c6
  by_cases c7 : a0≤90
  ·
   rw [if_pos c7] at H
   have c7b0 : decide (a0≤90)=true:=decide_eq_true c7;clear c7;obtain rfl:=zU H
   go_enter Tryd.func61,Tryd.ntmps61
   go_wp2
   go_ret
   exact ⟨by first|rfl|(simp;done)|(simp [*];done),by repeat (first|exact yp _|apply yq)⟩
  rw [if_neg c7] at H;have c7b0 : decide (a0≤90)=false:=decide_eq_false c7;clear c7;obtain rfl:=zU H
  go_enter Tryd.func61,Tryd.ntmps61
  go_wp2
  go_ret
  exact ⟨by first|rfl|(simp;done)|(simp [*];done),by repeat (first|exact yp _|apply yq)⟩
 rw [if_neg c6] at H;have c6b0 : decide (65≤a0)=false:=decide_eq_false c6;clear c6;obtain rfl:=zU H
 go_enter Tryd.func61,Tryd.ntmps61
 go_wp2
 go_ret
 exact ⟨by first|rfl|(simp;done)|(simp [*];done),by repeat (first|exact yp _|apply yq)⟩


def F0k.f (a0 : Int) : Option (Bool):=if a0 ≥ 48 then (some (decide (a0≤57))) else (some false)
set_option maxHeartbeats 8000000 in
set_option maxRecDepth 100000 in
theorem F0k.calls (a0 : Int) (r : Bool) (w : World) (h : F0k.f a0=some r) :
  Calls Tryd.prog 62 #[.int .u8 a0] w fun e w' => e = .returned (.bool r)∧Drawn0 w w':=by
 have H : (if a0 ≥ 48 then (some (decide (a0≤57))) else (some false))=some r:=h;clear h
 by_cases c2 : a0 ≥ 48
 ·
  rw [if_pos c2] at H
  have c2b0 : decide (48≤a0)=true:=decide_eq_true c2;clear c2;obtain rfl:=zU H
  go_enter Tryd.func62,Tryd.ntmps62
  go_wp2
  go_ret
  exact ⟨by first|rfl|(simp;done)|(simp [*];done),by repeat (first|exact yp _|apply yq)⟩
 rw [if_neg c2] at H;have c2b0 : decide (48≤a0)=false:=decide_eq_false c2;clear c2;obtain rfl:=zU H
 go_enter Tryd.func62,Tryd.ntmps62
 go_wp2
 go_ret
 exact ⟨by first|rfl|(simp;done)|(simp [*];done),by repeat (first|exact yp _|apply yq)⟩


def Fn.l0 : Nat→ByteArray→Int→Int→Option (Bool)
 | 0,_,_,_ => none
 | k + 1,x0,x5,x6 => if x6<x5 then (if 0≤x6 then (if x6<(x0.size : Int) then ((F0l.f (bt x0 x6)).bind fun t284 => (if t284=true then (Fn.l0 k x0 x5 (wrap64 (x6 + 1))) else ((F0k.f (bt x0 x6)).bind fun t285 => (if t285=true then (if x6=0 then (some false) else (Fn.l0 k x0 x5 (wrap64 (x6 + 1)))) else (some false))))) else (none)) else (none)) else ((F03.f (x0.size : Int) 1 40).bind fun t283 => (some t283))
def Fn.f (k : Nat) (a0 : ByteArray) : Option (Bool):=Fn.l0 k a0 (a0.size : Int) 0
theorem Fn.mono_l : ∀ k,(∀ y0 y1 y2,LeO (Fn.l0 k y0 y1 y2) (Fn.l0 (k + 1) y0 y1 y2))
 | 0 => fun _ _ _ r h => by simp [Fn.l0] at h
 | k + 1 => by
  have ih0:=Fn.mono_l k;intro y0 y1 y2;unfold Fn.l0
  repeat' first|(with_reducible first|exact ih0 _ _ _|exact zQ _|exact zN _|refine zP ?_ ?_|refine zO ?_ (fun _ => ?_))|refine zP ?_ ?_|refine zO ?_ (fun _ => ?_)
theorem Fn.mono : ∀ a0 k,LeO (Fn.f k a0) (Fn.f (k + 1) a0):=by
 intro a0 k;have ih0:=Fn.mono_l k;unfold Fn.f
 repeat' first|(with_reducible first|exact ih0 _ _ _|exact zQ _|exact zN _|refine zP ?_ ?_|refine zO ?_ (fun _ => ?_))|refine zP ?_ ?_|refine zO ?_ (fun _ => ?_)
set_option maxHeartbeats 8000000 in
set_option maxRecDepth 100000 in
theorem Fn.calls (k : Nat) (a0 : ByteArray) (r : Bool) (w : World) (h : Fn.f k a0=some r) :
  Calls Tryd.prog 47 #[.string a0] w fun e w' => e = .returned (.bool r)∧Drawn0 w w':=by
 have H : (Fn.l0 k a0 (a0.size : Int) 0)=some r:=h;clear h;have H':=zh H;clear H
 go_enter Tryd.func47,Tryd.ntmps47
 go_wp2
 go_loopg [6] k (fun kq v6 w' => ∃ (x6_1 : Int),v6 = .int .i64 x6_1∧Aside0 (Fn.l0 kq a0 (a0.size : Int) x6_1=some r)∧Aside0 (kq≤k)∧Drawn0 w w')
 case atStart => exact ⟨(0),(by first|rfl|(simp;done)|(simp [*];done)),H',⟨ye _⟩,by repeat (first|exact yp _|apply yq)⟩
 case round =>
  clear H';obtain ⟨x6_1,rfl,HA,HK1,⟨m1,rfl⟩⟩:=hrel
  cases gk with
  | zero => exact absurd HA.out (by simp [Fn.l0])
  | succ k1 =>
   have H:=HA.out;clear HA;simp only [Fn.l0] at H
   by_cases c2 : x6_1<(a0.size : Int)
   ·
    rw [if_pos c2] at H
    have c2b0 : decide (x6_1<(a0.size : Int))=true:=decide_eq_true c2;clear c2
    by_cases c3 : 0≤x6_1
    ·
     rw [if_pos c3] at H
     have c3b0 : decide (0≤x6_1)=true:=decide_eq_true c3;clear c3
     by_cases c4 : x6_1<(a0.size : Int)
     ·
      rw [if_pos c4] at H
      have c4b0 : decide (x6_1<(a0.size : Int))=true:=decide_eq_true c4;clear c4;replace H:=zT.mp H;obtain ⟨t284,A60,H⟩:=H;replace H : (if t284=true then (Fn.l0 k1 a0 (a0.size : Int) (wrap64 (x6_1 + 1))) else ((F0k.f (bt a0 x6_1)).bind fun t285 => (if t285=true then (if x6_1=0 then (some false) else (Fn.l0 k1 a0 (a0.size : Int) (wrap64 (x6_1 + 1)))) else (some false))))=some r:=H;have A6:=zh A60;clear A60
      by_cases c7 : t284=true
      ·
       subst c7
       have H1 : (Fn.l0 k1 a0 (a0.size : Int) (wrap64 (x6_1 + 1)))=some r:=by rw [if_pos rfl] at H;exact H
       clear H;have H:=H1;clear H1;have H':=zh H;clear H;have p5 : 0≤(x6_1 : Int):=zy (by first|(with_reducible assumption)|assumption);have q5 : x6_1<(a0.size : Int):=zy (by first|(with_reducible assumption)|assumption);have hx5:=bt_at a0 x6_1;replace p5:=eq_true p5;replace q5:=eq_true q5
       go_wp2_with (first|((with_reducible refine zJ (f:=61) rfl ?_);refine yj (some 12) rfl rfl Tryd.func61 (by kernel_rfl) rfl #[.int .u8 (bt a0 x6_1)] rfl (by (try simp only [zt,zu,zv]);first|done|rfl|(simp only [zw,zx];rfl)|(simp only [yr,ys,zV,zW];rfl)) ?_;(with_reducible refine (F0l.calls  (bt a0 x6_1) true _ A6.out).mono ?_);rintro e w' ⟨rfl,⟨nd,rfl⟩⟩;refine ⟨_,rfl,?_⟩))
       go_roundg k1
       case measure => have:=HK1.out;omega
       case rel => exact ⟨(wrap64 (x6_1 + 1)),(by first|rfl|(simp;done)|(simp [*];done)),H',⟨by have:=HK1.out;omega⟩,by repeat (first|exact yp _|apply yq)⟩
      replace c7:=yb.mpr c7;subst c7;have H1 : ((F0k.f (bt a0 x6_1)).bind fun t285 => (if t285=true then (if x6_1=0 then (some false) else (Fn.l0 k1 a0 (a0.size : Int) (wrap64 (x6_1 + 1)))) else (some false)))=some r:=by rw [if_neg (show ¬ (false=true) by decide)] at H;exact H
      clear H;have H:=H1;clear H1;replace H:=zT.mp H;obtain ⟨t285,A90,H⟩:=H;replace H : (if t285=true then (if x6_1=0 then (some false) else (Fn.l0 k1 a0 (a0.size : Int) (wrap64 (x6_1 + 1)))) else (some false))=some r:=H;have A9:=zh A90;clear A90
      by_cases c10 : t285=true
      ·
       subst c10
       have H1 : (if x6_1=0 then (some false) else (Fn.l0 k1 a0 (a0.size : Int) (wrap64 (x6_1 + 1))))=some r:=by rw [if_pos rfl] at H;exact H
       clear H;have H:=H1;clear H1
       by_cases c11 : x6_1=0
       ·
        rw [if_pos c11] at H
        have c11b0 : (x6_1 == 0)=true:=ya.mpr c11;have c11b1 : (x6_1 != 0)=false:=zX.mpr c11;clear c11;obtain rfl:=zU H;have p5 : 0≤(x6_1 : Int):=zy (by first|(with_reducible assumption)|assumption);have q5 : x6_1<(a0.size : Int):=zy (by first|(with_reducible assumption)|assumption);have hx5:=bt_at a0 x6_1;replace p5:=eq_true p5;replace q5:=eq_true q5
        go_wp2_with (first|((with_reducible refine zJ (f:=61) rfl ?_);refine yj (some 12) rfl rfl Tryd.func61 (by kernel_rfl) rfl #[.int .u8 (bt a0 x6_1)] rfl (by (try simp only [zt,zu,zv]);first|done|rfl|(simp only [zw,zx];rfl)|(simp only [yr,ys,zV,zW];rfl)) ?_;(with_reducible refine (F0l.calls  (bt a0 x6_1) false _ A6.out).mono ?_);rintro e w' ⟨rfl,⟨nd,rfl⟩⟩;refine ⟨_,rfl,?_⟩;have p8 : 0≤(x6_1 : Int):=zy (by first|(with_reducible assumption)|assumption);have q8 : x6_1<(a0.size : Int):=zy (by first|(with_reducible assumption)|assumption);have hx8:=bt_at a0 x6_1;replace p8:=eq_true p8;replace q8:=eq_true q8)|(go_at_call 62;(with_reducible refine (F0k.calls  (bt a0 x6_1) true _ A9.out).mono ?_);rintro e w' ⟨rfl,⟨nd,rfl⟩⟩))
        go_ret
        exact ⟨by first|rfl|(simp;done)|(simp [*];done),by repeat (first|exact yp _|apply yq)⟩
       rw [if_neg c11] at H;have c11b0 : (x6_1 == 0)=false:=zY.mpr c11;have c11b1 : (x6_1 != 0)=true:=zZ.mpr c11;have H':=zh H;clear H;have p5 : 0≤(x6_1 : Int):=zy (by first|(with_reducible assumption)|assumption);have q5 : x6_1<(a0.size : Int):=zy (by first|(with_reducible assumption)|assumption);have hx5:=bt_at a0 x6_1;replace p5:=eq_true p5;replace q5:=eq_true q5
       go_wp2_with (first|((with_reducible refine zJ (f:=61) rfl ?_);refine yj (some 12) rfl rfl Tryd.func61 (by kernel_rfl) rfl #[.int .u8 (bt a0 x6_1)] rfl (by (try simp only [zt,zu,zv]);first|done|rfl|(simp only [zw,zx];rfl)|(simp only [yr,ys,zV,zW];rfl)) ?_;(with_reducible refine (F0l.calls  (bt a0 x6_1) false _ A6.out).mono ?_);rintro e w' ⟨rfl,⟨nd,rfl⟩⟩;refine ⟨_,rfl,?_⟩;have p8 : 0≤(x6_1 : Int):=zy (by first|(with_reducible assumption)|assumption);have q8 : x6_1<(a0.size : Int):=zy (by first|(with_reducible assumption)|assumption);have hx8:=bt_at a0 x6_1;replace p8:=eq_true p8;replace q8:=eq_true q8)|(go_at_call 62;(with_reducible refine (F0k.calls  (bt a0 x6_1) true _ A9.out).mono ?_);rintro e w' ⟨rfl,⟨nd,rfl⟩⟩))
       go_roundg k1
       case measure => have:=HK1.out;omega
       case rel => exact ⟨(wrap64 (x6_1 + 1)),(by first|rfl|(simp;done)|(simp [*];done)),H',⟨by have:=HK1.out;omega⟩,by repeat (first|exact yp _|apply yq)⟩
      replace c10:=yb.mpr c10;subst c10;have H1 : (some false)=some r:=by rw [if_neg (show ¬ (false=true) by decide)] at H;exact H
      clear H;have H:=H1;clear H1;obtain rfl:=zU H;have p5 : 0≤(x6_1 : Int):=zy (by first|(with_reducible assumption)|assumption);have q5 : x6_1<(a0.size : Int):=zy (by first|(with_reducible assumption)|assumption);have hx5:=bt_at a0 x6_1;replace p5:=eq_true p5;replace q5:=eq_true q5
      go_wp2_with (first|((with_reducible refine zJ (f:=61) rfl ?_);refine yj (some 12) rfl rfl Tryd.func61 (by kernel_rfl) rfl #[.int .u8 (bt a0 x6_1)] rfl (by (try simp only [zt,zu,zv]);first|done|rfl|(simp only [zw,zx];rfl)|(simp only [yr,ys,zV,zW];rfl)) ?_;(with_reducible refine (F0l.calls  (bt a0 x6_1) false _ A6.out).mono ?_);rintro e w' ⟨rfl,⟨nd,rfl⟩⟩;refine ⟨_,rfl,?_⟩;have p8 : 0≤(x6_1 : Int):=zy (by first|(with_reducible assumption)|assumption);have q8 : x6_1<(a0.size : Int):=zy (by first|(with_reducible assumption)|assumption);have hx8:=bt_at a0 x6_1;replace p8:=eq_true p8;replace q8:=eq_true q8)|(go_at_call 62;(with_reducible refine (F0k.calls  (bt a0 x6_1) false _ A9.out).mono ?_);rintro e w' ⟨rfl,⟨nd,rfl⟩⟩))
      go_ret
      exact ⟨by first|rfl|(simp;done)|(simp [*];done),by repeat (first|exact yp _|apply yq)⟩
     rw [if_neg c4] at H;exact absurd H (by simp)
    rw [if_neg c3] at H;exact absurd H (by simp)
   rw [if_neg c2] at H;have c2b0 : decide (x6_1<(a0.size : Int))=false:=decide_eq_false c2;clear c2;replace H:=zT.mp H;obtain ⟨t283,A120,H⟩:=H;replace H : (some t283)=some r:=H;have A12:=zh A120;clear A120;obtain rfl:=zU H
   go_wp2_with (first|((with_reducible refine zJ (f:=25) rfl ?_);refine yj (some 28) rfl rfl Tryd.func25 (by kernel_rfl) rfl #[.int .i64 (a0.size : Int),.int .i64 1,.int .i64 40] rfl (by (try simp only [zt,zu,zv]);first|done|rfl|(simp only [zw,zx];rfl)|(simp only [yr,ys,zV,zW];rfl)) ?_;(with_reducible refine (F03.calls  (a0.size : Int) 1 40 t283 _ A12.out).mono ?_);rintro e w' ⟨rfl,⟨nd,rfl⟩⟩;refine ⟨_,rfl,?_⟩))
   go_ret
   exact ⟨by first|rfl|(simp;done)|(simp [*];done),by repeat (first|exact yp _|apply yq)⟩


def F00.f (k : Nat) (a0 : ByteArray) : Option (Bool):=if (a0.size : Int)≤12 then ((Fn.f k a0).bind fun t286 => (some t286)) else (some false)
theorem F00.mono : ∀ a0 k,LeO (F00.f k a0) (F00.f (k + 1) a0):=by
 intro a0 k;unfold F00.f
 repeat' first|(with_reducible first|exact Fn.mono _ _|exact zQ _|exact zN _|refine zP ?_ ?_|refine zO ?_ (fun _ => ?_))|refine zP ?_ ?_|refine zO ?_ (fun _ => ?_)
set_option maxHeartbeats 8000000 in
set_option maxRecDepth 100000 in
theorem F00.calls (k : Nat) (a0 : ByteArray) (r : Bool) (w : World) (h : F00.f k a0=some r) :
  Calls Tryd.prog 38 #[.string a0] w fun e w' => e = .returned (.bool r)∧Drawn0 w w':=by
 have H : (if (a0.size : Int)≤12 then ((Fn.f k a0).bind fun t286 => (some t286)) else (some false))=some r:=h;clear h
 by_cases c2 : (a0.size : Int)≤12
 ·
  rw [if_pos c2] at H
  have c2b0 : decide ((a0.size : Int)≤12)=true:=decide_eq_true c2;have c2b1 : decide (a0.size≤12)=true:=decide_eq_true (by omega);clear c2;replace H:=zT.mp H;obtain ⟨t286,A30,H⟩:=H;replace H : (some t286)=some r:=H;have A3:=zh A30;clear A30;obtain rfl:=zU H
  go_enter Tryd.func38,Tryd.ntmps38
  go_wp2_with (first|(go_at_call 47;(with_reducible refine (Fn.calls k  a0 t286 _ A3.out).mono ?_);rintro e w' ⟨rfl,⟨nd,rfl⟩⟩))
  go_ret
  exact ⟨by first|rfl|(simp;done)|(simp [*];done),by repeat (first|exact yp _|apply yq)⟩
 rw [if_neg c2] at H;have c2b0 : decide ((a0.size : Int)≤12)=false:=decide_eq_false c2;have c2b1 : decide (a0.size≤12)=false:=decide_eq_false (by omega);clear c2;obtain rfl:=zU H
 go_enter Tryd.func38,Tryd.ntmps38
 go_wp2
 go_ret
 exact ⟨by first|rfl|(simp;done)|(simp [*];done),by repeat (first|exact yp _|apply yq)⟩


def F0e.f (k : Nat) (a0 : ByteArray) : Option (Bool):=(F00.f k a0).bind fun t287 => (some (!t287))
theorem F0e.mono : ∀ a0 k,LeO (F0e.f k a0) (F0e.f (k + 1) a0):=by
 intro a0 k;unfold F0e.f
 repeat' first|(with_reducible first|exact F00.mono _ _|exact zQ _|exact zN _|refine zP ?_ ?_|refine zO ?_ (fun _ => ?_))|refine zP ?_ ?_|refine zO ?_ (fun _ => ?_)
set_option maxHeartbeats 8000000 in
set_option maxRecDepth 100000 in
theorem F0e.calls (k : Nat) (a0 : ByteArray) (r : Bool) (w : World) (h : F0e.f k a0=some r) :
  Calls Tryd.prog 37 #[.string a0] w fun e w' => e = .returned (.bool r)∧Drawn0 w w':=by
 have H : ((F00.f k a0).bind fun t287 => (some (!t287)))=some r:=h;clear h;replace H:=zT.mp H;obtain ⟨t287,A20,H⟩:=H;replace H : (some (!t287))=some r:=H;have A2:=zh A20;clear A20;obtain rfl:=zU H
 go_enter Tryd.func37,Tryd.ntmps37
 go_wp2_with (first|((with_reducible refine zJ (f:=38) rfl ?_);refine yj (some 4) rfl rfl Tryd.func38 (by kernel_rfl) rfl #[.string a0] rfl (by (try simp only [zt,zu,zv]);first|done|rfl|(simp only [zw,zx];rfl)|(simp only [yr,ys,zV,zW];rfl)) ?_;(with_reducible refine (F00.calls k  a0 t287 _ A2.out).mono ?_);rintro e w' ⟨rfl,⟨nd,rfl⟩⟩;refine ⟨_,rfl,?_⟩))
 go_ret
 exact ⟨by first|rfl|(simp;done)|(simp [*];done),by repeat (first|exact yp _|apply yq)⟩


def Fx.l0 : Nat→List ByteArray→Int→Int→Option (Int)
 | 0,_,_,_ => none
 | k + 1,x0,x7,x8 => if x8<x7 then (if 0≤x8 then (if x8<(x0.length : Int) then ((F0e.f k (rdOf ByteArray.empty x0 x8)).bind fun t289 => (if t289=true then (some x8) else (Fx.l0 k x0 x7 (wrap64 (x8 + 1))))) else (none)) else (none)) else (some (-1))
def Fx.f (k : Nat) (l0 : List ByteArray)  : Option (Int):=Fx.l0 k l0 (l0.length : Int) 0
theorem Fx.mono_l : ∀ k,(∀ y0 y1 y2,LeO (Fx.l0 k y0 y1 y2) (Fx.l0 (k + 1) y0 y1 y2))
 | 0 => fun _ _ _ r h => by simp [Fx.l0] at h
 | k + 1 => by
  have ih0:=Fx.mono_l k;intro y0 y1 y2;unfold Fx.l0
  repeat' first|(with_reducible first|exact ih0 _ _ _|exact F0e.mono _ _|exact zQ _|exact zN _|refine zP ?_ ?_|refine zO ?_ (fun _ => ?_))|refine zP ?_ ?_|refine zO ?_ (fun _ => ?_)
theorem Fx.mono : ∀ a0 k,LeO (Fx.f k a0) (Fx.f (k + 1) a0):=by
 intro a0 k;have ih0:=Fx.mono_l k;unfold Fx.f
 repeat' first|(with_reducible first|exact ih0 _ _ _|exact F0e.mono _ _|exact zQ _|exact zN _|refine zP ?_ ?_|refine zO ?_ (fun _ => ?_))|refine zP ?_ ?_|refine zO ?_ (fun _ => ?_)
set_option maxHeartbeats 8000000 in
set_option maxRecDepth 100000 in
theorem Fx.calls (k : Nat) (A0 : Option Addr) (c0 : Nat) (l0 : List ByteArray)  (r : Int) (w : World) (hr0 : Kd.C Kd.string w A0 l0.length l0) (hc0 : l0.length≤c0) (h : Fx.f k l0=some r) :
  Calls Tryd.prog 46 #[.slice A0 l0.length c0,.func (.func 37) #[] #[]] w fun e w' => e = .returned (.int .i64 r)∧Drawn0 w w':=by
 have HR0:=zh hr0;have HC0:=zh hc0;clear hr0 hc0;have H : (Fx.l0 k l0 (l0.length : Int) 0)=some r:=h;clear h;have H':=zh H;clear H
 go_enter Tryd.func46,Tryd.ntmps46
 go_wp2
 go_loopg [8] k (fun kq v8 w' => ∃ (x8_1 : Int),v8 = .int .i64 x8_1∧Aside0 (Fx.l0 kq l0 (l0.length : Int) x8_1=some r)∧Aside0 (kq≤k)∧Drawn0 w w')
 case atStart => exact ⟨(0),(by first|rfl|(simp;done)|(simp [*];done)),H',⟨ye _⟩,by repeat (first|exact yp _|apply yq)⟩
 case round =>
  clear H'
  try clear p2
  obtain ⟨x8_1,rfl,HA,HK1,⟨m1,rfl⟩⟩:=hrel
  cases gk with
  | zero => exact absurd HA.out (by simp [Fx.l0])
  | succ k1 =>
   have H:=HA.out;clear HA;simp only [Fx.l0] at H
   by_cases c3 : x8_1<(l0.length : Int)
   ·
    rw [if_pos c3] at H
    have c3b0 : decide (x8_1<(l0.length : Int))=true:=decide_eq_true c3;clear c3
    by_cases c4 : 0≤x8_1
    ·
     rw [if_pos c4] at H
     have c4b0 : decide (0≤x8_1)=true:=decide_eq_true c4;clear c4
     by_cases c5 : x8_1<(l0.length : Int)
     ·
      rw [if_pos c5] at H
      have c5b0 : decide (x8_1<(l0.length : Int))=true:=decide_eq_true c5;clear c5;replace H:=zT.mp H;obtain ⟨t289,A60,H⟩:=H;replace H : (if t289=true then (some x8_1) else (Fx.l0 k1 l0 (l0.length : Int) (wrap64 (x8_1 + 1))))=some r:=H;have A6:=zh A60;clear A60
      by_cases c7 : t289=true
      ·
       subst c7
       have H1 : (some x8_1)=some r:=by rw [if_pos rfl] at H;exact H
       clear H;have H:=H1;clear H1;obtain rfl:=zU H;have p288 : 0≤(x8_1 : Int):=zy (by first|(with_reducible assumption)|assumption);have q288 : x8_1<(l0.length : Int):=zy (by first|(with_reducible assumption)|assumption);obtain ⟨ad288,e288,hx288_0⟩:=Kd.at_string HR0.out x8_1 p288 q288
       cases e288
       replace p288:=eq_true p288;replace q288:=eq_true q288
       go_wp2_with (first|(go_at_call 37;(with_reducible refine (F0e.calls k1  (rdOf ByteArray.empty l0 x8_1) true _ A6.out).mono ?_);rintro e w' ⟨rfl,⟨nd,rfl⟩⟩))
       go_ret
       exact ⟨by first|rfl|(simp;done)|(simp [*];done),by repeat (first|exact yp _|apply yq)⟩
      replace c7:=yb.mpr c7;subst c7;have H1 : (Fx.l0 k1 l0 (l0.length : Int) (wrap64 (x8_1 + 1)))=some r:=by rw [if_neg (show ¬ (false=true) by decide)] at H;exact H
      clear H;have H:=H1;clear H1;have H':=zh H;clear H;have p288 : 0≤(x8_1 : Int):=zy (by first|(with_reducible assumption)|assumption);have q288 : x8_1<(l0.length : Int):=zy (by first|(with_reducible assumption)|assumption);obtain ⟨ad288,e288,hx288_0⟩:=Kd.at_string HR0.out x8_1 p288 q288
      cases e288
      replace p288:=eq_true p288;replace q288:=eq_true q288
      go_wp2_with (first|(go_at_call 37;(with_reducible refine (F0e.calls k1  (rdOf ByteArray.empty l0 x8_1) false _ A6.out).mono ?_);rintro e w' ⟨rfl,⟨nd,rfl⟩⟩))
      go_roundg k1
      case measure => have:=HK1.out;omega
      case rel => exact ⟨(wrap64 (x8_1 + 1)),(by first|rfl|(simp;done)|(simp [*];done)),H',⟨by have:=HK1.out;omega⟩,by repeat (first|exact yp _|apply yq)⟩
     rw [if_neg c5] at H;exact absurd H (by simp)
    rw [if_neg c4] at H;exact absurd H (by simp)
   rw [if_neg c3] at H;have c3b0 : decide (x8_1<(l0.length : Int))=false:=decide_eq_false c3;clear c3;obtain rfl:=zU H
   go_wp2
   go_ret
   exact ⟨by first|rfl|(simp;done)|(simp [*];done),by repeat (first|exact yp _|apply yq)⟩


def F0d.f (k : Nat) (l0 : List ByteArray)  : Option (Bool):=(Fx.f k l0).bind fun t290 => (some (decide (t290 ≥ 0)))
theorem F0d.mono : ∀ a0 k,LeO (F0d.f k a0) (F0d.f (k + 1) a0):=by
 intro a0 k;unfold F0d.f
 repeat' first|(with_reducible first|exact Fx.mono _ _|exact zQ _|exact zN _|refine zP ?_ ?_|refine zO ?_ (fun _ => ?_))|refine zP ?_ ?_|refine zO ?_ (fun _ => ?_)
set_option maxHeartbeats 8000000 in
set_option maxRecDepth 100000 in
theorem F0d.calls (k : Nat) (A0 : Option Addr) (c0 : Nat) (l0 : List ByteArray)  (r : Bool) (w : World) (hr0 : Kd.C Kd.string w A0 l0.length l0) (hc0 : l0.length≤c0) (h : F0d.f k l0=some r) :
  Calls Tryd.prog 36 #[.slice A0 l0.length c0,.func (.func 37) #[] #[]] w fun e w' => e = .returned (.bool r)∧Drawn0 w w':=by
 have HR0:=zh hr0;have HC0:=zh hc0;clear hr0 hc0;have H : ((Fx.f k l0).bind fun t290 => (some (decide (t290 ≥ 0))))=some r:=h;clear h;replace H:=zT.mp H;obtain ⟨t290,A30,H⟩:=H;replace H : (some (decide (t290 ≥ 0)))=some r:=H;have A3:=zh A30;clear A30;obtain rfl:=zU H
 go_enter Tryd.func36,Tryd.ntmps36
 go_wp2_with (first|((with_reducible refine zJ (f:=46) rfl ?_);refine yj (some 7) rfl rfl Tryd.func46 (by kernel_rfl) rfl #[.slice A0 l0.length c0,.func (.func 37) #[] #[]] rfl (by (try simp only [zt,zu,zv]);first|done|rfl|(simp only [zw,zx];rfl)|(simp only [yr,ys,zV,zW];rfl)) ?_;(with_reducible refine (Fx.calls k  _ _ l0  t290 _ ?side1 ?side2 A3.out).mono ?_);(case side1 => repeat (first|exact HR0.out|(with_reducible refine Kd.C_alloc ?_ _)|(with_reducible refine Kd.C_drewN ?_ _)|(with_reducible refine Kd.C_drew ?_)));(case side2 => exact HC0.out);rintro e w' ⟨rfl,⟨nd,rfl⟩⟩;refine ⟨_,rfl,?_⟩))
 go_ret
 exact ⟨by first|rfl|(simp;done)|(simp [*];done),by repeat (first|exact yp _|apply yq)⟩


def Fy.f (k : Nat) (a0 : ByteArray) : Option (Bool):=(strings_Split.f a0 (⟨#[46]⟩ : ByteArray)).bind fun t291 => (if (a0.size : Int)≤50 then (if (t291.length : Int)≤4 then ((F0d.f k t291).bind fun t294 => (some (!t294))) else (some false)) else (some false))
theorem Fy.mono : ∀ a0 k,LeO (Fy.f k a0) (Fy.f (k + 1) a0):=by
 intro a0 k;unfold Fy.f
 repeat' first|(with_reducible first|exact F0d.mono _ _|exact zQ _|exact zN _|refine zP ?_ ?_|refine zO ?_ (fun _ => ?_))|refine zP ?_ ?_|refine zO ?_ (fun _ => ?_)
set_option maxHeartbeats 8000000 in
set_option maxRecDepth 100000 in
theorem Fy.calls (k : Nat) (a0 : ByteArray) (r : Bool) (w : World) (h : Fy.f k a0=some r) :
  Calls Tryd.prog 23 #[.string a0] w fun e w' => e = .returned (.bool r)∧Below w.heap.size w w':=by
 have HB:=zh (Below.refl w.heap.size w);have H : ((strings_Split.f a0 (⟨#[46]⟩ : ByteArray)).bind fun t291 => (if (a0.size : Int)≤50 then (if (t291.length : Int)≤4 then ((F0d.f k t291).bind fun t294 => (some (!t294))) else (some false)) else (some false)))=some r:=h;clear h;replace H:=zT.mp H;obtain ⟨t291,A20,H⟩:=H;replace H : (if (a0.size : Int)≤50 then (if (t291.length : Int)≤4 then ((F0d.f k t291).bind fun t294 => (some (!t294))) else (some false)) else (some false))=some r:=H;have A2:=zh A20;clear A20
 by_cases c3 : (a0.size : Int)≤50
 ·
  rw [if_pos c3] at H
  have c3b0 : decide ((a0.size : Int)≤50)=true:=decide_eq_true c3;have c3b1 : decide (a0.size≤50)=true:=decide_eq_true (by omega);clear c3
  by_cases c4 : (t291.length : Int)≤4
  ·
   rw [if_pos c4] at H
   have c4b0 : decide ((t291.length : Int)≤4)=true:=decide_eq_true c4;have c4b1 : decide (t291.length≤4)=true:=decide_eq_true (by omega);clear c4;replace H:=zT.mp H;obtain ⟨t294,A50,H⟩:=H;replace H : (some (!t294))=some r:=H;have A5:=zh A50;clear A50;obtain rfl:=zU H
   go_enter Tryd.func23,Tryd.ntmps23
   go_wp2_with (first|((with_reducible refine zJ (f:=35) rfl ?_);refine yj (some 5) rfl rfl Tryd.func35 (by kernel_rfl) rfl #[.string a0,.string (⟨#[46]⟩ : ByteArray)] rfl (by (try simp only [zt,zu,zv]);first|done|rfl|(simp only [zw,zx];rfl)|(simp only [yr,ys,zV,zW];rfl)) ?_;(with_reducible refine (strings_Split.calls  a0 (⟨#[46]⟩ : ByteArray) t291 _ A2.out).mono ?_);rintro e w6 ⟨v292,rfl,ho0,hb⟩;refine ⟨_,rfl,?_⟩;have HO293:=zh (yy ho0 (zB (by repeat (with_reducible first|exact HB.out|apply za|apply zb|apply zc))));replace HB:=zh (zC (by repeat (with_reducible first|exact HB.out|apply za|apply zb|apply zc)) hb);(try clear hb);(try clear hb2);(try clear hk);(try clear hi);(try clear ho0);obtain ⟨Ao7,co7,eo7⟩:=yk HO293.out;subst eo7)|(go_at_call 36;(with_reducible refine (F0d.calls k  _ _ t291  t294 _ ?side1 ?side2 A5.out).mono ?_);(case side1 => repeat (first|exact (yh HO293.out).2.2|(with_reducible refine Kd.C_alloc ?_ _)|(with_reducible refine Kd.C_drewN ?_ _)|(with_reducible refine Kd.C_drew ?_)));(case side2 => exact (yh HO293.out).2.1);rintro e w' ⟨rfl,⟨nd,rfl⟩⟩))
   go_ret
   exact ⟨by first|rfl|(simp [yt,yu] <;> rfl)|(simp [*,yt,yu] <;> rfl),by repeat (with_reducible first|exact HB.out|apply za|apply zb|apply zc)⟩
  rw [if_neg c4] at H;have c4b0 : decide ((t291.length : Int)≤4)=false:=decide_eq_false c4;have c4b1 : decide (t291.length≤4)=false:=decide_eq_false (by omega);clear c4;obtain rfl:=zU H
  go_enter Tryd.func23,Tryd.ntmps23
  go_wp2_with (first|((with_reducible refine zJ (f:=35) rfl ?_);refine yj (some 5) rfl rfl Tryd.func35 (by kernel_rfl) rfl #[.string a0,.string (⟨#[46]⟩ : ByteArray)] rfl (by (try simp only [zt,zu,zv]);first|done|rfl|(simp only [zw,zx];rfl)|(simp only [yr,ys,zV,zW];rfl)) ?_;(with_reducible refine (strings_Split.calls  a0 (⟨#[46]⟩ : ByteArray) t291 _ A2.out).mono ?_);rintro e w8 ⟨v292,rfl,ho0,hb⟩;refine ⟨_,rfl,?_⟩;have HO293:=zh (yy ho0 (zB (by repeat (with_reducible first|exact HB.out|apply za|apply zb|apply zc))));replace HB:=zh (zC (by repeat (with_reducible first|exact HB.out|apply za|apply zb|apply zc)) hb);(try clear hb);(try clear hb2);(try clear hk);(try clear hi);(try clear ho0);obtain ⟨Ao9,co9,eo9⟩:=yk HO293.out;subst eo9))
  go_ret
  exact ⟨by first|rfl|(simp [yt,yu] <;> rfl)|(simp [*,yt,yu] <;> rfl),by repeat (with_reducible first|exact HB.out|apply za|apply zb|apply zc)⟩
 rw [if_neg c3] at H;have c3b0 : decide ((a0.size : Int)≤50)=false:=decide_eq_false c3;have c3b1 : decide (a0.size≤50)=false:=decide_eq_false (by omega);clear c3;obtain rfl:=zU H
 go_enter Tryd.func23,Tryd.ntmps23
 go_wp2_with (first|((with_reducible refine zJ (f:=35) rfl ?_);refine yj (some 5) rfl rfl Tryd.func35 (by kernel_rfl) rfl #[.string a0,.string (⟨#[46]⟩ : ByteArray)] rfl (by (try simp only [zt,zu,zv]);first|done|rfl|(simp only [zw,zx];rfl)|(simp only [yr,ys,zV,zW];rfl)) ?_;(with_reducible refine (strings_Split.calls  a0 (⟨#[46]⟩ : ByteArray) t291 _ A2.out).mono ?_);rintro e w10 ⟨v292,rfl,ho0,hb⟩;refine ⟨_,rfl,?_⟩;have HO293:=zh (yy ho0 (zB (by repeat (with_reducible first|exact HB.out|apply za|apply zb|apply zc))));replace HB:=zh (zC (by repeat (with_reducible first|exact HB.out|apply za|apply zb|apply zc)) hb);(try clear hb);(try clear hb2);(try clear hk);(try clear hi);(try clear ho0)))
 go_ret
 exact ⟨by first|rfl|(simp [yt,yu] <;> rfl)|(simp [*,yt,yu] <;> rfl),by repeat (with_reducible first|exact HB.out|apply za|apply zb|apply zc)⟩


def F0o.f (a0 : Int) : Option (Bool):=(F03.f a0 (-1000000000000) 1000000000000).bind fun t295 => (some t295)
set_option maxHeartbeats 8000000 in
set_option maxRecDepth 100000 in
theorem F0o.calls (a0 : Int) (r : Bool) (w : World) (h : F0o.f a0=some r) :
  Calls Tryd.prog 48 #[.int .i64 a0] w fun e w' => e = .returned (.bool r)∧Drawn0 w w':=by
 have H : ((F03.f a0 (-1000000000000) 1000000000000).bind fun t295 => (some t295))=some r:=h;clear h;replace H:=zT.mp H;obtain ⟨t295,A20,H⟩:=H;replace H : (some t295)=some r:=H;have A2:=zh A20;clear A20;obtain rfl:=zU H
 go_enter Tryd.func48,Tryd.ntmps48
 go_wp2_with (first|((with_reducible refine zJ (f:=25) rfl ?_);refine yj (some 4) rfl rfl Tryd.func25 (by kernel_rfl) rfl #[.int .i64 a0,.int .i64 (-1000000000000),.int .i64 1000000000000] rfl (by (try simp only [zt,zu,zv]);first|done|rfl|(simp only [zw,zx];rfl)|(simp only [yr,ys,zV,zW];rfl)) ?_;(with_reducible refine (F03.calls  a0 (-1000000000000) 1000000000000 t295 _ A2.out).mono ?_);rintro e w' ⟨rfl,⟨nd,rfl⟩⟩;refine ⟨_,rfl,?_⟩))
 go_ret
 exact ⟨by first|rfl|(simp;done)|(simp [*];done),by repeat (first|exact yp _|apply yq)⟩


def strings_Repeat.f (a0 : ByteArray) (a1 : Int) : Option (ByteArray):=if 0≤a1 then (if a0.size * a1.toNat≤140737488355328 then (if a1≤9223372036854775807 then (some ⟨(Lib.repeatL a0.data.toList a1.toNat).toArray⟩) else (none)) else (none)) else (none)
theorem strings_Repeat.calls (a0 : ByteArray) (a1 : Int) (r : ByteArray) (w : World) (h : strings_Repeat.f a0 a1=some r) :
  Calls Tryd.prog 74 #[.string a0,.int .i64 a1] w fun e w' => e = .returned (.string r)∧Below w.heap.size w w':=by
 unfold strings_Repeat.f at h
 by_cases h0 : 0≤a1
 ·
  rw [if_pos h0] at h
  by_cases h1 : a0.size * a1.toNat≤140737488355328
  ·
   rw [if_pos h1] at h
   by_cases h2 : a1≤9223372036854775807
   ·
    rw [if_pos h2] at h
    obtain rfl:=zU h;have:=Tryd.strings_Repeat a0 a1.toNat w (by omega) h1;rw [Int.toNat_of_nonneg h0] at this;exact this
   rw [if_neg h2] at h;exact absurd h (by simp)
  rw [if_neg h1] at h;exact absurd h (by simp)
 rw [if_neg h0] at h;exact absurd h (by simp)


def IsS87 (w0 W : World) (g : Nat) (f0 : ByteArray) (f1 : Bool) : Prop:=W.heap[g]? = some (.cells #[.string f0,.bool f1] 87 (0,0))∧w0.heap.size≤g
theorem IsS87.grown {w0 W : World} {g : Nat} {f0 : ByteArray} {f1 : Bool} {W1 : World} {row : Option Nat} (h : IsS87 w0 W g f0 f1) (hw : W.grownBy W1 row) (hne : some g≠row) : IsS87 w0 W1 g f0 f1:=by
 obtain ⟨hb,hg⟩:=h;exact ⟨yw hb hw hne,hg⟩
theorem IsS87.fresh {w0 W : World} {g : Nat} {f0 : ByteArray} {f1 : Bool} (h : IsS87 w0 W g f0 f1) : ∀ k,W.heap.size≤k→k≠g:=by
 obtain ⟨hb,hg⟩:=h;exact Kd.freshB hb
theorem IsS87.kept {w0 W : World} {g : Nat} {f0 : ByteArray} {f1 : Bool} {W1 : World} {S : Nat→Prop} (h : IsS87 w0 W g f0 f1) (hk : Kept W W1 S) (hne : ¬ S g) : IsS87 w0 W1 g f0 f1:=by
 obtain ⟨hb,hg⟩:=h;exact ⟨blk_kept hb hk hne,hg⟩
theorem IsS87.below {w0 W : World} {g : Nat} {f0 : ByteArray} {f1 : Bool} {W1 : World} (h : IsS87 w0 W g f0 f1) (hw : Below W.heap.size W W1) : IsS87 w0 W1 g f0 f1:=h.grown (grown_of_below hw none) (by simp)
theorem IsS87.alloc {w0 W : World} {g : Nat} {f0 : ByteArray} {f1 : Bool} (h : IsS87 w0 W g f0 f1) (o : Obj) : IsS87 w0 (W.alloc o) g f0 f1:=h.below (za (Below.refl _ _) o)
theorem IsS87.drewN {w0 W : World} {g : Nat} {f0 : ByteArray} {f1 : Bool} (h : IsS87 w0 W g f0 f1) (m : Nat) : IsS87 w0 (W.drewN m) g f0 f1:=h
theorem IsS87.drew {w0 W : World} {g : Nat} {f0 : ByteArray} {f1 : Bool} (h : IsS87 w0 W g f0 f1) : IsS87 w0 W.drew g f0 f1:=h
theorem IsS87.at_ {w0 W : World} {g : Nat} {f0 : ByteArray} {f1 : Bool} {w' : World} {m : Nat} (hq : W.drewN m=w') (h : IsS87 w0 W g f0 f1) : IsS87 w0 w' g f0 f1:=by subst hq;exact IsS87.drewN h m
theorem IsS87.apart {w0 W : World} {g : Nat} {f0 : ByteArray} {f1 : Bool} {α : Type} {d : Kd α} {e : Nat} {base : Nat} {ok : Nat→Prop} {v : Value} {xs : List α} (h : IsS87 w0 W g f0 f1) (ho : d.R e W base ok v xs) (ht : ∀ q,q ∈ e :: d.E→q≠87) : d.R e W base (fun k => ok k∧k≠g) v xs:=by
 obtain ⟨hb,hg⟩:=h;exact yf ho hb ht
theorem IsS87.own_ne {w0 W : World} {g : Nat} {f0 : ByteArray} {f1 : Bool} {α : Type} {d : Kd α} {e : Nat} {base : Nat} {ok : Nat→Prop} {v : Value} {xs : List α} (h : IsS87 w0 W g f0 f1) (ho : d.R e W base ok v xs) (ht : e≠87) : some g≠v.ownBlock:=by
 obtain ⟨hb,hg⟩:=h;exact Kd.R_ne ho hb ht
theorem IsS87.lt {w0 W : World} {g : Nat} {f0 : ByteArray} {f1 : Bool} (h : IsS87 w0 W g f0 f1) : g<W.heap.size:=by
 obtain ⟨hb,hg⟩:=h;exact yi hb
theorem IsS87.ge {w0 W : World} {g : Nat} {f0 : ByteArray} {f1 : Bool} (h : IsS87 w0 W g f0 f1) : w0.heap.size≤g:=by
 obtain ⟨hb,hg⟩:=h;exact hg
theorem IsS87.far {w0 W : World} {g : Nat} {f0 : ByteArray} {f1 : Bool} {p : Addr} (h : IsS87 w0 W g f0 f1) (hne : g≠p.block) (u : Value) : IsS87 w0 (W.setCell p u) g f0 f1:=by
 obtain ⟨hb,hg⟩:=h;exact ⟨zS hb hne u,hg⟩
theorem cellS87_0 {W : World} {g : Nat} {f0 : ByteArray} {f1 : Bool} (h : W.heap[g]? = some (.cells #[.string f0,.bool f1] 87 (0,0))) : W.cell? ⟨g,0,none⟩=some (.string f0):=(zz h 0).trans rfl
theorem IsS87.set_0 {w0 W : World} {g : Nat} {f0 : ByteArray} {f1 : Bool} (h : IsS87 w0 W g f0 f1) (x : ByteArray) : IsS87 w0 (W.setCell ⟨g,0,none⟩ (.string x)) g x f1:=by
 obtain ⟨hb,hg⟩:=h;exact ⟨by simpa using blk_set hb 0 (.string x),hg⟩
theorem cellS87_1 {W : World} {g : Nat} {f0 : ByteArray} {f1 : Bool} (h : W.heap[g]? = some (.cells #[.string f0,.bool f1] 87 (0,0))) : W.cell? ⟨g,1,none⟩=some (.bool f1):=(zz h 1).trans rfl
theorem IsS87.set_1 {w0 W : World} {g : Nat} {f0 : ByteArray} {f1 : Bool} (h : IsS87 w0 W g f0 f1) (x : Bool) : IsS87 w0 (W.setCell ⟨g,1,none⟩ (.bool x)) g f0 x:=by
 obtain ⟨hb,hg⟩:=h;exact ⟨by simpa using blk_set hb 1 (.bool x),hg⟩
theorem IsS87.new (w0 W : World) (f0 : ByteArray) (f1 : Bool) (hB : Below w0.heap.size w0 W) : IsS87 w0 (W.alloc (.cells #[.string f0,.bool f1] 87)) W.heap.size f0 f1:=⟨by simpa using heap_alloc_new W _,hB.size⟩

def F05.f (s0_0 : ByteArray) (s0_1 : Bool) (a1 : Int) : Option (ByteArray×ByteArray×Bool):=if a1 > (s0_0.size : Int) then ((strings_Repeat.f (⟨#[0]⟩ : ByteArray) a1).bind fun t299 => (some (t299,s0_0,true))) else (if 0≤a1 then (if a1≤(s0_0.size : Int) then (some (s0_0.extract 0 (a1 : Int).toNat,s0_0.extract (a1 : Int).toNat s0_0.size,s0_1)) else (none)) else (none))
set_option maxHeartbeats 8000000 in
set_option maxRecDepth 100000 in
theorem F05.calls (g : Nat) (s0_0 : ByteArray) (s0_1 : Bool) (a1 : Int) (r1 : ByteArray) (r2 : ByteArray) (r3 : Bool) (w0 w : World) (hI : IsS87 w0 w g s0_0 s0_1) (hB : Below w0.heap.size w0 w) (h : F05.f s0_0 s0_1 a1=some (r1,r2,r3)) :
  Calls Tryd.prog 65 #[.pointer (some ⟨g,0,none⟩),.int .i64 a1] w fun e w' => e = .returned (.string r1)∧IsS87 w0 w' g r2 r3∧Below w0.heap.size w0 w' ∧ KeepBut w w' g none:=by
 have HI0:=zh hI;have HK:=zh (KeepBut.refl w g none);have HL:=zh hB.size;clear hI;have HW0:=zh hB.size;have HB:=zh hB;clear hB;have H : (if a1 > (s0_0.size : Int) then ((strings_Repeat.f (⟨#[0]⟩ : ByteArray) a1).bind fun t299 => (some (t299,s0_0,true))) else (if 0≤a1 then (if a1≤(s0_0.size : Int) then (some (s0_0.extract 0 (a1 : Int).toNat,s0_0.extract (a1 : Int).toNat s0_0.size,s0_1)) else (none)) else (none)))=some (r1,r2,r3):=h;clear h
 by_cases c3 : a1 > (s0_0.size : Int)
 ·
  rw [if_pos c3] at H
  have c3b0 : decide ((s0_0.size : Int)<a1)=true:=decide_eq_true c3;clear c3;replace H:=zT.mp H;obtain ⟨t299,A40,H⟩:=H;replace H : (some (t299,s0_0,true))=some (r1,r2,r3):=H;have A4:=zh A40;clear A40;simp only [Option.some.injEq,Prod.mk.injEq] at H;obtain ⟨rfl,rfl,rfl⟩:=H;obtain ⟨HGz5,hgz5⟩:=HI0.out;have hcz5_0:=cellS87_0 HGz5;have hcz5_1:=cellS87_1 HGz5;have hfz5_0:=zA HGz5 0;have hfz5_1:=zA HGz5 1;clear HGz5 hgz5
  go_enter Tryd.func65,Tryd.ntmps65
  go_wp2_with (first|((with_reducible refine zJ (f:=74) rfl ?_);refine yj (some 17) rfl rfl Tryd.func74 (by kernel_rfl) rfl #[.string (⟨#[0]⟩ : ByteArray),.int .i64 a1] rfl (by (try simp only [zt,zu,zv]);first|done|rfl|(simp only [zw,zx];rfl)|(simp only [yr,ys,zV,zW];rfl)) ?_;(with_reducible refine (strings_Repeat.calls  (⟨#[0]⟩ : ByteArray) a1 t299 _ A4.out).mono ?_);rintro e w6 ⟨rfl,hb⟩;refine ⟨_,rfl,?_⟩;replace HK:=zh (KeepBut.trans (by repeat (with_reducible first|exact HK.out|apply yl|apply ym|apply yx|apply yn)) (KeepBut.of_below hb g none) (.inl rfl));replace HB:=zh (zC (by repeat (with_reducible first|exact HB.out|apply za|apply zb|apply zc|refine zd ?_ (IsS87.ge HI0.out))) hb);replace HI0:=zh (IsS87.below (show IsS87 w0 (w.setCell ⟨g,1,none⟩ (.bool true)) g s0_0 true from by repeat (with_reducible first|exact HI0.out|apply IsS87.alloc|apply IsS87.drewN|apply IsS87.drew|apply IsS87.set_0|apply IsS87.set_1)) hb);(try clear hb);(try clear hb2);(try clear hk);(try clear hi)))
  go_ret
  exact ⟨by first|rfl|(simp [yt,yu] <;> rfl)|(simp [*,yt,yu] <;> rfl),by repeat (with_reducible first|exact HI0.out|apply IsS87.alloc|apply IsS87.drewN|apply IsS87.drew|apply IsS87.set_0|apply IsS87.set_1),by repeat (with_reducible first|exact HB.out|apply za|apply zb|apply zc|refine zd ?_ (IsS87.ge HI0.out)),by repeat (with_reducible first|exact HK.out|apply yl|apply ym|apply yx|apply yn)⟩
 rw [if_neg c3] at H;have c3b0 : decide ((s0_0.size : Int)<a1)=false:=decide_eq_false c3;clear c3
 by_cases c7 : 0≤a1
 ·
  rw [if_pos c7] at H
  have c7b0:=eq_true c7;have c7b1 : decide (0≤a1)=true:=decide_eq_true c7;clear c7
  by_cases c8 : a1≤(s0_0.size : Int)
  ·
   rw [if_pos c8] at H
   have c8b0:=eq_true c8;have c8b1 : decide (a1≤(s0_0.size : Int))=true:=decide_eq_true c8;clear c8;have c9b0:=eq_true (zy (by first|(with_reducible assumption)|assumption) : 0≤a1);have c10b0:=eq_true (zy (by first|(with_reducible assumption)|assumption) : a1≤(s0_0.size : Int));simp only [Option.some.injEq,Prod.mk.injEq] at H;obtain ⟨rfl,rfl,rfl⟩:=H;obtain ⟨HGz11,hgz11⟩:=HI0.out;have hcz11_0:=cellS87_0 HGz11;have hcz11_1:=cellS87_1 HGz11;have hfz11_0:=zA HGz11 0;have hfz11_1:=zA HGz11 1;clear HGz11 hgz11
   go_enter Tryd.func65,Tryd.ntmps65
   go_wp2
   go_ret
   exact ⟨by first|rfl|(simp [yt,yu] <;> rfl)|(simp [*,yt,yu] <;> rfl),by repeat (with_reducible first|exact HI0.out|apply IsS87.alloc|apply IsS87.drewN|apply IsS87.drew|apply IsS87.set_0|apply IsS87.set_1),by repeat (with_reducible first|exact HB.out|apply za|apply zb|apply zc|refine zd ?_ (IsS87.ge HI0.out)),by repeat (with_reducible first|exact HK.out|apply yl|apply ym|apply yx|apply yn)⟩
  rw [if_neg c8] at H;exact absurd H (by simp)
 rw [if_neg c7] at H;exact absurd H (by simp)


def Fv.l0 : Nat→Int→List Int→Int→Int→Option (Int)
 | 0,_,_,_,_ => none
 | k + 1,x3,x6,x7,x8 => if x8<x7 then (if 0≤x8 then (if x8<(x6.length : Int) then (Fv.l0 k (Go.bits .or .i64 (wrap64 (x3 * 256)) (wrap64 (rd x6 x8))) x6 x7 (wrap64 (x8 + 1))) else (none)) else (none)) else (some x3)
def Fv.f (k : Nat) (l0 : List Int) : Option (Int):=Fv.l0 k 0 l0 (l0.length : Int) 0
theorem Fv.mono_l : ∀ k,(∀ y0 y1 y2 y3,LeO (Fv.l0 k y0 y1 y2 y3) (Fv.l0 (k + 1) y0 y1 y2 y3))
 | 0 => fun _ _ _ _ r h => by simp [Fv.l0] at h
 | k + 1 => by
  have ih0:=Fv.mono_l k;intro y0 y1 y2 y3;unfold Fv.l0
  repeat' first|(with_reducible first|exact ih0 _ _ _ _|exact zQ _|exact zN _|refine zP ?_ ?_|refine zO ?_ (fun _ => ?_))|refine zP ?_ ?_|refine zO ?_ (fun _ => ?_)
theorem Fv.mono : ∀ a0 k,LeO (Fv.f k a0) (Fv.f (k + 1) a0):=by
 intro a0 k;have ih0:=Fv.mono_l k;unfold Fv.f
 repeat' first|(with_reducible first|exact ih0 _ _ _ _|exact zQ _|exact zN _|refine zP ?_ ?_|refine zO ?_ (fun _ => ?_))|refine zP ?_ ?_|refine zO ?_ (fun _ => ?_)
set_option maxHeartbeats 8000000 in
set_option maxRecDepth 100000 in
theorem Fv.calls (k : Nat) (A0 : Option Addr) (c0 : Nat) (l0 : List Int) (r : Int) (w : World) (hr0 : Kd.C (Kd.int .u8) w A0 l0.length l0) (hc0 : l0.length≤c0) (h : Fv.f k l0=some r) :
  Calls Tryd.prog 75 #[.slice A0 l0.length c0] w fun e w' => e = .returned (.int .i64 r)∧Drawn0 w w':=by
 have HR0:=zh hr0;have HC0:=zh hc0;clear hr0 hc0;have H : (Fv.l0 k 0 l0 (l0.length : Int) 0)=some r:=h;clear h;have H':=zh H;clear H
 go_enter Tryd.func75,Tryd.ntmps75
 go_wp2
 go_loopg [3,8] k (fun kq v3 v8 w' => ∃ (x3_1 : Int) (x8_1 : Int),v3 = .int .i64 x3_1∧v8 = .int .i64 x8_1∧Aside0 (Fv.l0 kq x3_1 l0 (l0.length : Int) x8_1=some r)∧Aside0 (kq≤k)∧Drawn0 w w')
 case atStart => exact ⟨(0),(0),(by first|rfl|(simp;done)|(simp [*];done)),(by first|rfl|(simp;done)|(simp [*];done)),H',⟨ye _⟩,by repeat (first|exact yp _|apply yq)⟩
 case round =>
  clear H';obtain ⟨x3_1,x8_1,rfl,rfl,HA,HK1,⟨m1,rfl⟩⟩:=hrel
  cases gk with
  | zero => exact absurd HA.out (by simp [Fv.l0])
  | succ k1 =>
   have H:=HA.out;clear HA;simp only [Fv.l0] at H
   by_cases c2 : x8_1<(l0.length : Int)
   ·
    rw [if_pos c2] at H
    have c2b0 : decide (x8_1<(l0.length : Int))=true:=decide_eq_true c2;clear c2
    by_cases c3 : 0≤x8_1
    ·
     rw [if_pos c3] at H
     have c3b0 : decide (0≤x8_1)=true:=decide_eq_true c3;clear c3
     by_cases c4 : x8_1<(l0.length : Int)
     ·
      rw [if_pos c4] at H
      have c4b0 : decide (x8_1<(l0.length : Int))=true:=decide_eq_true c4;clear c4;have H':=zh H;clear H;have p300 : 0≤(x8_1 : Int):=zy (by first|(with_reducible assumption)|assumption);have q300 : x8_1<(l0.length : Int):=zy (by first|(with_reducible assumption)|assumption);obtain ⟨ad300,e300,hx300_0⟩:=Kd.at_int HR0.out x8_1 p300 q300
      cases e300
      replace p300:=eq_true p300;replace q300:=eq_true q300
      go_wp2
      go_roundg k1
      case measure => have:=HK1.out;omega
      case rel => exact ⟨(Go.bits .or .i64 (wrap64 (x3_1 * 256)) (wrap64 (rd l0 x8_1))),(wrap64 (x8_1 + 1)),(by first|rfl|(simp;done)|(simp [*];done)),(by first|rfl|(simp;done)|(simp [*];done)),H',⟨by have:=HK1.out;omega⟩,by repeat (first|exact yp _|apply yq)⟩
     rw [if_neg c4] at H;exact absurd H (by simp)
    rw [if_neg c3] at H;exact absurd H (by simp)
   rw [if_neg c2] at H;have c2b0 : decide (x8_1<(l0.length : Int))=false:=decide_eq_false c2;clear c2;obtain rfl:=zU H
   go_wp2
   go_ret
   exact ⟨by first|rfl|(simp;done)|(simp [*];done),by repeat (first|exact yp _|apply yq)⟩


def Fq.f (k : Nat) (s0_0 : ByteArray) (s0_1 : Bool) (a1 : Int) : Option (Int×ByteArray×Bool):=(F05.f s0_0 s0_1 a1).bind fun bt301 => (if bt301.1.size≤9223372036854775807 then ((Fv.f k (bytesOf bt301.1)).bind fun t307 => (some (t307,bt301.2.1,bt301.2.2))) else (none))
theorem Fq.mono : ∀ a0 a1 a2 k,LeO (Fq.f k a0 a1 a2) (Fq.f (k + 1) a0 a1 a2):=by
 intro a0 a1 a2 k;unfold Fq.f
 repeat' first|(with_reducible first|exact Fv.mono _ _|exact zQ _|exact zN _|refine zP ?_ ?_|refine zO ?_ (fun _ => ?_))|refine zP ?_ ?_|refine zO ?_ (fun _ => ?_)
set_option maxHeartbeats 8000000 in
set_option maxRecDepth 100000 in
theorem Fq.calls (k : Nat) (g : Nat) (s0_0 : ByteArray) (s0_1 : Bool) (a1 : Int) (r1 : Int) (r2 : ByteArray) (r3 : Bool) (w0 w : World) (hI : IsS87 w0 w g s0_0 s0_1) (hB : Below w0.heap.size w0 w) (h : Fq.f k s0_0 s0_1 a1=some (r1,r2,r3)) :
  Calls Tryd.prog 66 #[.pointer (some ⟨g,0,none⟩),.int .i64 a1] w fun e w' => e = .returned (.int .i64 r1)∧IsS87 w0 w' g r2 r3∧Below w0.heap.size w0 w' ∧ KeepBut w w' g none:=by
 have HI0:=zh hI;have HK:=zh (KeepBut.refl w g none);have HL:=zh hB.size;clear hI;have HW0:=zh hB.size;have HB:=zh hB;clear hB;have H : ((F05.f s0_0 s0_1 a1).bind fun bt301 => (if bt301.1.size≤9223372036854775807 then ((Fv.f k (bytesOf bt301.1)).bind fun t307 => (some (t307,bt301.2.1,bt301.2.2))) else (none)))=some (r1,r2,r3):=h;clear h;replace H:=zT.mp H;obtain ⟨⟨t301,t302,t303⟩,A30,H⟩:=H;replace H : (if t301.size≤9223372036854775807 then ((Fv.f k (bytesOf t301)).bind fun t307 => (some (t307,t302,t303))) else (none))=some (r1,r2,r3):=H;have A3:=zh A30;clear A30
 by_cases c4 : t301.size≤9223372036854775807
 ·
  rw [if_pos c4] at H
  have c4b0:=eq_true c4;have c4b1 : decide (t301.size≤9223372036854775807)=true:=decide_eq_true c4
  try have c4b2 : (9223372036854775807<t301.size)=False:=eq_false (Nat.not_lt.2 c4)
  clear c4;obtain ⟨y304,hy304⟩ : ∃ y_ : List Int,y_=(bytesOf t301):=⟨_,rfl⟩;replace H : ((Fv.f k y304).bind fun t307 => (some (t307,t302,t303)))=some (r1,r2,r3):=by first|(rw [hy304];with_reducible exact H)|(have H2_:=(Option.bind_some _ _).symm.trans H;rw [hy304];with_reducible exact H2_)|(have H2_:=(Option.bind_some _ _).symm.trans H;with_reducible exact H2_)|with_reducible exact H|(rw [hy304];exact H)|exact H
  have Ny304:=zh hy304;clear hy304;replace H:=zT.mp H;obtain ⟨t307,A50,H⟩:=H;replace H : (some (t307,t302,t303))=some (r1,r2,r3):=H;have A5:=zh A50;clear A50;simp only [Option.some.injEq,Prod.mk.injEq] at H;obtain ⟨rfl,rfl,rfl⟩:=H
  go_enter Tryd.func66,Tryd.ntmps66
  go_wp2_with (first|((with_reducible refine zJ (f:=65) rfl ?_);refine yj (some 7) rfl rfl Tryd.func65 (by kernel_rfl) rfl #[.pointer (some ⟨g,0,none⟩),.int .i64 a1] rfl (by (try simp only [zt,zu,zv]);first|done|rfl|(simp only [zw,zx];rfl)|(simp only [yr,ys,zV,zW];rfl)) ?_;(with_reducible refine (F05.calls  g s0_0 s0_1 a1 t301 t302 t303 w0 _ ?side1 ?side2 A3.out).mono ?_);(case side1 => repeat (with_reducible first|exact HI0.out|apply IsS87.alloc|apply IsS87.drewN|apply IsS87.drew|apply IsS87.set_0|apply IsS87.set_1));(case side2 => repeat (with_reducible first|exact HB.out|apply za|apply zb|apply zc|refine zd ?_ (IsS87.ge HI0.out)));rintro e w6 ⟨rfl,hi,hb,hk⟩;refine ⟨_,rfl,?_⟩;replace HK:=zh (KeepBut.trans (by repeat (with_reducible first|exact HK.out|apply yl|apply ym|apply yx|apply yn)) hk (.inl rfl));replace HB:=zh (hb);replace HI0:=zh (hi);(try clear hb);(try clear hb2);(try clear hk);(try clear hi))|((with_reducible refine zK (N:=8) rfl ?_);refine conv_event (base:=w6.heap.size) ?hg (N:=8) ?hd 9 51 5 t301 rfl ?hx Tryd.underlying9 Tryd.underlying51 Tryd.underlying5 (zy (by first|(with_reducible assumption)|assumption)) ?_;(case hd|hg => rfl);(case hx => first|(go_simp;done)|(go_simp;rfl)|rfl);intro v305 w7 ho8 hb;(first|rw [← Ny304.out] at ho8|(simp only [Int.reduceToNat] at ho8;rw [← Ny304.out] at ho8));have HO306:=zh (Kd.V_lower (Kd.V_mono (ok':=fun k_ => k_≠g) ho8 (fun k_ hk_ => (IsS87.fresh (by repeat (with_reducible first|exact HI0.out|apply IsS87.alloc|apply IsS87.drewN|apply IsS87.drew|apply IsS87.set_0|apply IsS87.set_1)) k_ hk_))) (keep_size (w:=w) (g:=g) (row:=none) (by repeat (with_reducible first|exact HK.out|apply yl|apply ym|apply yx|apply yn))));replace HK:=zh (KeepBut.trans (by repeat (with_reducible first|exact HK.out|apply yl|apply ym|apply yx|apply yn)) (KeepBut.of_below hb g none) (.inl rfl));replace HB:=zh (zC (by repeat (with_reducible first|exact HB.out|apply za|apply zb|apply zc|refine zd ?_ (IsS87.ge HI0.out))) hb);replace HI0:=zh (IsS87.below (by repeat (with_reducible first|exact HI0.out|apply IsS87.alloc|apply IsS87.drewN|apply IsS87.drew|apply IsS87.set_0|apply IsS87.set_1)) hb);clear hb ho8;obtain ⟨Ao9,co9,eo9⟩:=Kd.V_slice HO306.out;subst eo9)|((with_reducible refine zJ (f:=75) rfl ?_);refine yj (some 9) rfl rfl Tryd.func75 (by kernel_rfl) rfl #[.slice Ao9 y304.length co9] rfl (by (try simp only [zt,zu,zv]);first|done|rfl|(simp only [zw,zx];rfl)|(simp only [yr,ys,zV,zW];rfl)) ?_;(with_reducible refine (Fv.calls k  _ _ y304 t307 _ ?side1 ?side2 A5.out).mono ?_);(case side1 => repeat (first|exact (Kd.V_reads' HO306.out).2.2|(with_reducible refine Kd.C_alloc ?_ _)|(with_reducible refine Kd.C_drewN ?_ _)|(with_reducible refine Kd.C_drew ?_)));(case side2 => exact (Kd.V_reads' HO306.out).2.1);rintro e w' ⟨rfl,⟨nd,rfl⟩⟩;refine ⟨_,rfl,?_⟩))
  go_ret
  exact ⟨by first|rfl|(simp [yt,yu] <;> rfl)|(simp [*,yt,yu] <;> rfl),by repeat (with_reducible first|exact HI0.out|apply IsS87.alloc|apply IsS87.drewN|apply IsS87.drew|apply IsS87.set_0|apply IsS87.set_1),by repeat (with_reducible first|exact HB.out|apply za|apply zb|apply zc|refine zd ?_ (IsS87.ge HI0.out)),by repeat (with_reducible first|exact HK.out|apply yl|apply ym|apply yx|apply yn)⟩
 rw [if_neg c4] at H;exact absurd H (by simp)


def Fh.j0 : Nat→Bool→ByteArray→Bool→Int→Int→ByteArray→Option (Int×Int×ByteArray×ByteArray×Bool)
 | 0,_,_,_,_,_,_ => none
 | k + 1,x20,x1000,x1001,x313000,x313001,x313002 => if x20=true then ((Fq.f k x1000 x1001 2).bind fun bt319 => ((F05.f bt319.2.1 bt319.2.2 bt319.1).bind fun bt322 => (some (x313000,x313001,bt322.1,bt322.2.1,bt322.2.2)))) else (some (x313000,x313001,x313002,x1000,x1001))
def Fh.f (k : Nat) (s0_0 : ByteArray) (s0_1 : Bool) : Option (Int×Int×ByteArray×ByteArray×Bool):=(Fq.f k s0_0 s0_1 1).bind fun bt309 => (if bt309.1=1 then ((Fq.f k bt309.2.1 bt309.2.2 1).bind fun bt313 => (some (bt309.1,bt313.1,(⟨#[]⟩ : ByteArray),bt313.2.1,bt313.2.2))) else (if bt309.1=2 then ((Fq.f k bt309.2.1 bt309.2.2 8).bind fun bt316 => (some (bt309.1,wrap64 (bt316.1 - 4611686018427387904),(⟨#[]⟩ : ByteArray),bt316.2.1,bt316.2.2))) else (if bt309.1=3 then (Fh.j0 k (bt309.1 == 3) bt309.2.1 bt309.2.2 bt309.1 0 (⟨#[]⟩ : ByteArray)) else (if bt309.1=4 then (Fh.j0 k (bt309.1 == 4) bt309.2.1 bt309.2.2 bt309.1 0 (⟨#[]⟩ : ByteArray)) else (Fh.j0 k (bt309.1 == 5) bt309.2.1 bt309.2.2 bt309.1 0 (⟨#[]⟩ : ByteArray))))))
theorem Fh.mono_l : ∀ k,(∀ y0 y1 y2 y3 y4 y5,LeO (Fh.j0 k y0 y1 y2 y3 y4 y5) (Fh.j0 (k + 1) y0 y1 y2 y3 y4 y5))
 | 0 => fun _ _ _ _ _ _ r h => by simp [Fh.j0] at h
 | k + 1 => by
  have ih0:=Fh.mono_l k;intro y0 y1 y2 y3 y4 y5;unfold Fh.j0
  repeat' first|(with_reducible first|exact ih0 _ _ _ _ _ _|exact Fq.mono _ _ _ _|exact zQ _|exact zN _|refine zP ?_ ?_|refine zO ?_ (fun _ => ?_))|refine zP ?_ ?_|refine zO ?_ (fun _ => ?_)
theorem Fh.mono : ∀ a0 a1 k,LeO (Fh.f k a0 a1) (Fh.f (k + 1) a0 a1):=by
 intro a0 a1 k;have ih0:=Fh.mono_l k;unfold Fh.f
 repeat' first|(with_reducible first|exact ih0 _ _ _ _ _ _|exact Fq.mono _ _ _ _|exact zQ _|exact zN _|refine zP ?_ ?_|refine zO ?_ (fun _ => ?_))|refine zP ?_ ?_|refine zO ?_ (fun _ => ?_)
set_option maxHeartbeats 8000000 in
set_option maxRecDepth 100000 in
theorem Fh.calls (k : Nat) (g : Nat) (s0_0 : ByteArray) (s0_1 : Bool) (r1 : Int) (r2 : Int) (r3 : ByteArray) (r4 : ByteArray) (r5 : Bool) (w0 w : World) (hI : IsS87 w0 w g s0_0 s0_1) (hB : Below w0.heap.size w0 w) (h : Fh.f k s0_0 s0_1=some (r1,r2,r3,r4,r5)) :
  Calls Tryd.prog 64 #[.pointer (some ⟨g,0,none⟩)] w fun e w' => e = .returned (.agg #[.int .i64 r1,.int .i64 r2,.string r3])∧IsS87 w0 w' g r4 r5∧Below w0.heap.size w0 w' ∧ KeepBut w w' g none:=by
 have hu31:=Tryd.underlying31;have HI0:=zh hI;have HK:=zh (KeepBut.refl w g none);have HL:=zh hB.size;clear hI;have HW0:=zh hB.size;have HB:=zh hB;clear hB;have H : ((Fq.f k s0_0 s0_1 1).bind fun bt309 => (if bt309.1=1 then ((Fq.f k bt309.2.1 bt309.2.2 1).bind fun bt313 => (some (bt309.1,bt313.1,(⟨#[]⟩ : ByteArray),bt313.2.1,bt313.2.2))) else (if bt309.1=2 then ((Fq.f k bt309.2.1 bt309.2.2 8).bind fun bt316 => (some (bt309.1,wrap64 (bt316.1 - 4611686018427387904),(⟨#[]⟩ : ByteArray),bt316.2.1,bt316.2.2))) else (if bt309.1=3 then (Fh.j0 k (bt309.1 == 3) bt309.2.1 bt309.2.2 bt309.1 0 (⟨#[]⟩ : ByteArray)) else (if bt309.1=4 then (Fh.j0 k (bt309.1 == 4) bt309.2.1 bt309.2.2 bt309.1 0 (⟨#[]⟩ : ByteArray)) else (Fh.j0 k (bt309.1 == 5) bt309.2.1 bt309.2.2 bt309.1 0 (⟨#[]⟩ : ByteArray)))))))=some (r1,r2,r3,r4,r5):=h;clear h;replace H:=zT.mp H;obtain ⟨⟨t309,t310,t311⟩,A20,H⟩:=H;replace H : (if t309=1 then ((Fq.f k t310 t311 1).bind fun bt313 => (some (t309,bt313.1,(⟨#[]⟩ : ByteArray),bt313.2.1,bt313.2.2))) else (if t309=2 then ((Fq.f k t310 t311 8).bind fun bt316 => (some (t309,wrap64 (bt316.1 - 4611686018427387904),(⟨#[]⟩ : ByteArray),bt316.2.1,bt316.2.2))) else (if t309=3 then (Fh.j0 k (t309 == 3) t310 t311 t309 0 (⟨#[]⟩ : ByteArray)) else (if t309=4 then (Fh.j0 k (t309 == 4) t310 t311 t309 0 (⟨#[]⟩ : ByteArray)) else (Fh.j0 k (t309 == 5) t310 t311 t309 0 (⟨#[]⟩ : ByteArray))))))=some (r1,r2,r3,r4,r5):=H;have A2:=zh A20;clear A20
 by_cases c3 : t309=1
 ·
  rw [if_pos c3] at H
  have c3b0 : (t309 == 1)=true:=ya.mpr c3;have c3b1 : (t309 != 1)=false:=zX.mpr c3;clear c3;replace H:=zT.mp H;obtain ⟨⟨t313,t314,t315⟩,A40,H⟩:=H;replace H : (some (t309,t313,(⟨#[]⟩ : ByteArray),t314,t315))=some (r1,r2,r3,r4,r5):=H;have A4:=zh A40;clear A40;simp only [Option.some.injEq,Prod.mk.injEq] at H;obtain ⟨rfl,rfl,rfl,rfl,rfl⟩:=H
  go_enter Tryd.func64,Tryd.ntmps64
  go_wp2_with (first|((with_reducible refine zK (N:=2) rfl ?_);refine zI ?hg (N:=2) ?hd (cs:=#[.int .i64 0,.int .i64 0,.string (⟨#[]⟩ : ByteArray)]) (t:=31) ?hr ?_;(case hd|hg => rfl);(case hr => go_simp <;> rfl);intro gb308 hg w5 hbox hb;replace HB:=zh (zC (by repeat (with_reducible first|exact HB.out|apply za|apply zb|apply zc|refine zd ?_ (IsS87.ge HI0.out))) hb);have BK308:=zh (hbox);have GW308:=zh ((by rw [hg];exact (keep_size (w:=w) (g:=g) (row:=none) (by repeat (with_reducible first|exact HK.out|apply yl|apply ym|apply yx|apply yn))) : w.heap.size≤gb308));have GE308:=zh ((Nat.le_trans HW0.out (by rw [hg];exact (keep_size (w:=w) (g:=g) (row:=none) (by repeat (with_reducible first|exact HK.out|apply yl|apply ym|apply yx|apply yn))) : w.heap.size≤gb308) : w0.heap.size≤gb308));replace HK:=zh (KeepBut.trans (by repeat (with_reducible first|exact HK.out|apply yl|apply ym|apply yx|apply yn)) (KeepBut.of_below hb g none) (.inl rfl));have NB0_308:=zh ((by rw [hg];exact yc (IsS87.lt (show IsS87 w0 _ g s0_0 s0_1 from by repeat (with_reducible first|exact HI0.out|apply IsS87.alloc|apply IsS87.drewN|apply IsS87.drew|apply IsS87.set_0|apply IsS87.set_1))) : g≠gb308));have NB308_0:=zh ((by rw [hg];exact yd (IsS87.lt (show IsS87 w0 _ g s0_0 s0_1 from by repeat (with_reducible first|exact HI0.out|apply IsS87.alloc|apply IsS87.drewN|apply IsS87.drew|apply IsS87.set_0|apply IsS87.set_1))) : gb308≠g));replace HI0:=zh (IsS87.below (by repeat (with_reducible first|exact HI0.out|apply IsS87.alloc|apply IsS87.drewN|apply IsS87.drew|apply IsS87.set_0|apply IsS87.set_1)) hb);clear hb hbox hg)|((with_reducible refine zJ (f:=66) rfl ?_);refine yj (some 5) rfl rfl Tryd.func66 (by kernel_rfl) rfl #[.pointer (some ⟨g,0,none⟩),.int .i64 1] rfl (by (try simp only [zt,zu,zv]);first|done|rfl|(simp only [zw,zx];rfl)|(simp only [yr,ys,zV,zW];rfl)) ?_;(with_reducible refine (Fq.calls k  g s0_0 s0_1 1 t309 t310 t311 w0 _ ?side1 ?side2 A2.out).mono ?_);(case side1 => repeat (with_reducible first|exact HI0.out|apply IsS87.alloc|apply IsS87.drewN|apply IsS87.drew|apply IsS87.set_0|apply IsS87.set_1|refine IsS87.far ?_ NB0_308.out _));(case side2 => repeat (with_reducible first|exact HB.out|apply za|apply zb|apply zc|refine zd ?_ (IsS87.ge HI0.out)|refine zd ?_ GE308.out));rintro e w6 ⟨rfl,hi,hb,hk⟩;refine ⟨_,rfl,?_⟩;replace BK308:=zh (KeepBut.blk hk (g':=gb308) (o:=.cells #[.int .i64 0,.int .i64 0,.string (⟨#[]⟩ : ByteArray)] 31 (0,0)) (by (with_reducible repeat first|apply ze|apply zf|apply zg);exact BK308.out) NB308_0.out (by simp));replace HK:=zh (KeepBut.trans (by repeat (with_reducible first|exact HK.out|apply yl|apply ym|apply yx|apply yn|refine keep_far ?_ GW308.out _)) hk (.inl rfl));replace HB:=zh (hb);replace HI0:=zh (hi);(try clear hb);(try clear hb2);(try clear hk);(try clear hi))|((with_reducible refine zK (N:=3) rfl ?_);refine zI ?hg (N:=3) ?hd (cs:=#[.int .i64 0,.int .i64 0,.string (⟨#[]⟩ : ByteArray)]) (t:=31) ?hr ?_;(case hd|hg => rfl);(case hr => go_simp <;> rfl);intro gb312 hg w7 hbox hb;replace HB:=zh (zC (by repeat (with_reducible first|exact HB.out|apply za|apply zb|apply zc|refine zd ?_ (IsS87.ge HI0.out)|refine zd ?_ GE308.out)) hb);have BK312:=zh (hbox);have GW312:=zh ((by rw [hg];exact (keep_size (w:=w) (g:=g) (row:=none) (by repeat (with_reducible first|exact HK.out|apply yl|apply ym|apply yx|apply yn|refine keep_far ?_ GW308.out _))) : w.heap.size≤gb312));have GE312:=zh ((Nat.le_trans HW0.out (by rw [hg];exact (keep_size (w:=w) (g:=g) (row:=none) (by repeat (with_reducible first|exact HK.out|apply yl|apply ym|apply yx|apply yn|refine keep_far ?_ GW308.out _))) : w.heap.size≤gb312) : w0.heap.size≤gb312));replace HK:=zh (KeepBut.trans (by repeat (with_reducible first|exact HK.out|apply yl|apply ym|apply yx|apply yn|refine keep_far ?_ GW308.out _)) (KeepBut.of_below hb g none) (.inl rfl));have NB308_312:=zh ((by rw [hg];exact yc (yi (g:=gb308) (o:=.cells #[.int .i64 0,.int .i64 0,.string (⟨#[]⟩ : ByteArray)] 31 (0,0)) (by (with_reducible repeat first|apply ze|apply zf|apply zg);exact BK308.out)) : gb308≠gb312));have NB312_308:=zh NB308_312.out.symm;replace BK308:=zh (cD BK308.out (by (with_reducible repeat first|apply ze|apply zf|apply zg);exact BK308.out) hb);have NB0_312:=zh ((by rw [hg];exact yc (IsS87.lt (show IsS87 w0 _ g t310 t311 from by repeat (with_reducible first|exact HI0.out|apply IsS87.alloc|apply IsS87.drewN|apply IsS87.drew|apply IsS87.set_0|apply IsS87.set_1|refine IsS87.far ?_ NB0_308.out _))) : g≠gb312));have NB312_0:=zh ((by rw [hg];exact yd (IsS87.lt (show IsS87 w0 _ g t310 t311 from by repeat (with_reducible first|exact HI0.out|apply IsS87.alloc|apply IsS87.drewN|apply IsS87.drew|apply IsS87.set_0|apply IsS87.set_1|refine IsS87.far ?_ NB0_308.out _))) : gb312≠g));replace HI0:=zh (IsS87.below (by repeat (with_reducible first|exact HI0.out|apply IsS87.alloc|apply IsS87.drewN|apply IsS87.drew|apply IsS87.set_0|apply IsS87.set_1|refine IsS87.far ?_ NB0_308.out _)) hb);clear hb hbox hg;have hnb8:=NB312_308.out;have hnc8:=NB308_312.out;have hnb9:=NB312_0.out;have hnc9:=NB0_312.out;obtain ⟨hcz10_0,hcz10_1,hcz10_2,hfz10_0,hfz10_1,hfz10_2⟩:=cB3 BK312.out)|((with_reducible refine zJ (f:=66) rfl ?_);refine yj (some 12) rfl rfl Tryd.func66 (by kernel_rfl) rfl #[.pointer (some ⟨g,0,none⟩),.int .i64 1] rfl (by (try simp only [zt,zu,zv]);first|done|rfl|(simp only [zw,zx];rfl)|(simp only [yr,ys,zV,zW];rfl)) ?_;(with_reducible refine (Fq.calls k  g t310 t311 1 t313 t314 t315 w0 _ ?side1 ?side2 A4.out).mono ?_);(case side1 => repeat (with_reducible first|exact HI0.out|apply IsS87.alloc|apply IsS87.drewN|apply IsS87.drew|apply IsS87.set_0|apply IsS87.set_1|refine IsS87.far ?_ NB0_308.out _|refine IsS87.far ?_ NB0_312.out _));(case side2 => repeat (with_reducible first|exact HB.out|apply za|apply zb|apply zc|refine zd ?_ (IsS87.ge HI0.out)|refine zd ?_ GE308.out|refine zd ?_ GE312.out));rintro e w11 ⟨rfl,hi,hb,hk⟩;refine ⟨_,rfl,?_⟩;replace BK308:=zh (KeepBut.blk hk (g':=gb308) (o:=.cells #[.int .i64 0,.int .i64 0,.string (⟨#[]⟩ : ByteArray)] 31 (0,0)) (by (with_reducible repeat first|apply ze|apply zf|apply zg);refine cS3 ?_ NB308_312.out;(with_reducible repeat first|apply ze|apply zf|apply zg);exact BK308.out) NB308_0.out (by simp));replace BK312:=zh (KeepBut.blk hk (g':=gb312) (o:=.cells #[.int .i64 t309,.int .i64 0,.string (⟨#[]⟩ : ByteArray)] 31 (0,0)) (by (with_reducible repeat first|apply ze|apply zf|apply zg);refine zL (cs:=#[.int .i64 t309,.int .i64 0,.string (⟨#[]⟩ : ByteArray)]) ?_ 2 _ rfl;(with_reducible repeat first|apply ze|apply zf|apply zg);refine zL (cs:=#[.int .i64 t309,.int .i64 0,.string (⟨#[]⟩ : ByteArray)]) ?_ 1 _ rfl;(with_reducible repeat first|apply ze|apply zf|apply zg);refine zL (cs:=#[.int .i64 0,.int .i64 0,.string (⟨#[]⟩ : ByteArray)]) ?_ 0 _ rfl;(with_reducible repeat first|apply ze|apply zf|apply zg);exact BK312.out) NB312_0.out (by simp));replace HK:=zh (KeepBut.trans (by repeat (with_reducible first|exact HK.out|apply yl|apply ym|apply yx|apply yn|refine keep_far ?_ GW308.out _|refine keep_far ?_ GW312.out _)) hk (.inl rfl));replace HB:=zh (hb);replace HI0:=zh (hi);(try clear hb);(try clear hb2);(try clear hk);(try clear hi);obtain ⟨hcz12_0,hcz12_1,hcz12_2,hfz12_0,hfz12_1,hfz12_2⟩:=cB3 BK312.out;have hnb13:=NB308_0.out;have hnc13:=NB0_308.out;obtain ⟨hcz14_0,hcz14_1,hcz14_2,hfz14_0,hfz14_1,hfz14_2⟩:=cB3 BK308.out))
  refine bodyPost_ret (results_cell_row rfl _ _ gb308 31 #[.int .i64 t309,.int .i64 t313,.string (⟨#[]⟩ : ByteArray)] (0,0) _ rfl (by (with_reducible repeat first|apply ze|apply zf|apply zg);refine zL (cs:=#[.int .i64 t309,.int .i64 t313,.string (⟨#[]⟩ : ByteArray)]) ?_ 2 _ rfl;(with_reducible repeat first|apply ze|apply zf|apply zg);refine zL (cs:=#[.int .i64 t309,.int .i64 0,.string (⟨#[]⟩ : ByteArray)]) ?_ 1 _ rfl;(with_reducible repeat first|apply ze|apply zf|apply zg);refine zL (cs:=#[.int .i64 0,.int .i64 0,.string (⟨#[]⟩ : ByteArray)]) ?_ 0 _ rfl;(with_reducible repeat first|apply ze|apply zf|apply zg);refine zS ?_ NB308_312.out _;(with_reducible repeat first|apply ze|apply zf|apply zg);exact BK308.out) Tryd.underlying31 rfl (by kernel_rfl)) rfl ?_;exact ⟨by first|rfl|(simp [yt,yu] <;> rfl)|(simp [*,yt,yu] <;> rfl),by repeat (with_reducible first|exact HI0.out|apply IsS87.alloc|apply IsS87.drewN|apply IsS87.drew|apply IsS87.set_0|apply IsS87.set_1|refine IsS87.far ?_ NB0_308.out _|refine IsS87.far ?_ NB0_312.out _),by repeat (with_reducible first|exact HB.out|apply za|apply zb|apply zc|refine zd ?_ (IsS87.ge HI0.out)|refine zd ?_ GE308.out|refine zd ?_ GE312.out),by repeat (with_reducible first|exact HK.out|apply yl|apply ym|apply yx|apply yn|refine keep_far ?_ GW308.out _|refine keep_far ?_ GW312.out _)⟩
 rw [if_neg c3] at H;have c3b0 : (t309 == 1)=false:=zY.mpr c3;have c3b1 : (t309 != 1)=true:=zZ.mpr c3
 by_cases c15 : t309=2
 ·
  rw [if_pos c15] at H
  have c15b0 : (t309 == 2)=true:=ya.mpr c15;have c15b1 : (t309 != 2)=false:=zX.mpr c15;clear c15;replace H:=zT.mp H;obtain ⟨⟨t316,t317,t318⟩,A160,H⟩:=H;replace H : (some (t309,wrap64 (t316 - 4611686018427387904),(⟨#[]⟩ : ByteArray),t317,t318))=some (r1,r2,r3,r4,r5):=H;have A16:=zh A160;clear A160;simp only [Option.some.injEq,Prod.mk.injEq] at H;obtain ⟨rfl,rfl,rfl,rfl,rfl⟩:=H
  go_enter Tryd.func64,Tryd.ntmps64
  go_wp2_with (first|((with_reducible refine zK (N:=2) rfl ?_);refine zI ?hg (N:=2) ?hd (cs:=#[.int .i64 0,.int .i64 0,.string (⟨#[]⟩ : ByteArray)]) (t:=31) ?hr ?_;(case hd|hg => rfl);(case hr => go_simp <;> rfl);intro gb308 hg w17 hbox hb;replace HB:=zh (zC (by repeat (with_reducible first|exact HB.out|apply za|apply zb|apply zc|refine zd ?_ (IsS87.ge HI0.out))) hb);have BK308:=zh (hbox);have GW308:=zh ((by rw [hg];exact (keep_size (w:=w) (g:=g) (row:=none) (by repeat (with_reducible first|exact HK.out|apply yl|apply ym|apply yx|apply yn))) : w.heap.size≤gb308));have GE308:=zh ((Nat.le_trans HW0.out (by rw [hg];exact (keep_size (w:=w) (g:=g) (row:=none) (by repeat (with_reducible first|exact HK.out|apply yl|apply ym|apply yx|apply yn))) : w.heap.size≤gb308) : w0.heap.size≤gb308));replace HK:=zh (KeepBut.trans (by repeat (with_reducible first|exact HK.out|apply yl|apply ym|apply yx|apply yn)) (KeepBut.of_below hb g none) (.inl rfl));have NB0_308:=zh ((by rw [hg];exact yc (IsS87.lt (show IsS87 w0 _ g s0_0 s0_1 from by repeat (with_reducible first|exact HI0.out|apply IsS87.alloc|apply IsS87.drewN|apply IsS87.drew|apply IsS87.set_0|apply IsS87.set_1))) : g≠gb308));have NB308_0:=zh ((by rw [hg];exact yd (IsS87.lt (show IsS87 w0 _ g s0_0 s0_1 from by repeat (with_reducible first|exact HI0.out|apply IsS87.alloc|apply IsS87.drewN|apply IsS87.drew|apply IsS87.set_0|apply IsS87.set_1))) : gb308≠g));replace HI0:=zh (IsS87.below (by repeat (with_reducible first|exact HI0.out|apply IsS87.alloc|apply IsS87.drewN|apply IsS87.drew|apply IsS87.set_0|apply IsS87.set_1)) hb);clear hb hbox hg)|((with_reducible refine zJ (f:=66) rfl ?_);refine yj (some 5) rfl rfl Tryd.func66 (by kernel_rfl) rfl #[.pointer (some ⟨g,0,none⟩),.int .i64 1] rfl (by (try simp only [zt,zu,zv]);first|done|rfl|(simp only [zw,zx];rfl)|(simp only [yr,ys,zV,zW];rfl)) ?_;(with_reducible refine (Fq.calls k  g s0_0 s0_1 1 t309 t310 t311 w0 _ ?side1 ?side2 A2.out).mono ?_);(case side1 => repeat (with_reducible first|exact HI0.out|apply IsS87.alloc|apply IsS87.drewN|apply IsS87.drew|apply IsS87.set_0|apply IsS87.set_1|refine IsS87.far ?_ NB0_308.out _));(case side2 => repeat (with_reducible first|exact HB.out|apply za|apply zb|apply zc|refine zd ?_ (IsS87.ge HI0.out)|refine zd ?_ GE308.out));rintro e w18 ⟨rfl,hi,hb,hk⟩;refine ⟨_,rfl,?_⟩;replace BK308:=zh (KeepBut.blk hk (g':=gb308) (o:=.cells #[.int .i64 0,.int .i64 0,.string (⟨#[]⟩ : ByteArray)] 31 (0,0)) (by (with_reducible repeat first|apply ze|apply zf|apply zg);exact BK308.out) NB308_0.out (by simp));replace HK:=zh (KeepBut.trans (by repeat (with_reducible first|exact HK.out|apply yl|apply ym|apply yx|apply yn|refine keep_far ?_ GW308.out _)) hk (.inl rfl));replace HB:=zh (hb);replace HI0:=zh (hi);(try clear hb);(try clear hb2);(try clear hk);(try clear hi))|((with_reducible refine zK (N:=3) rfl ?_);refine zI ?hg (N:=3) ?hd (cs:=#[.int .i64 0,.int .i64 0,.string (⟨#[]⟩ : ByteArray)]) (t:=31) ?hr ?_;(case hd|hg => rfl);(case hr => go_simp <;> rfl);intro gb312 hg w19 hbox hb;replace HB:=zh (zC (by repeat (with_reducible first|exact HB.out|apply za|apply zb|apply zc|refine zd ?_ (IsS87.ge HI0.out)|refine zd ?_ GE308.out)) hb);have BK312:=zh (hbox);have GW312:=zh ((by rw [hg];exact (keep_size (w:=w) (g:=g) (row:=none) (by repeat (with_reducible first|exact HK.out|apply yl|apply ym|apply yx|apply yn|refine keep_far ?_ GW308.out _))) : w.heap.size≤gb312));have GE312:=zh ((Nat.le_trans HW0.out (by rw [hg];exact (keep_size (w:=w) (g:=g) (row:=none) (by repeat (with_reducible first|exact HK.out|apply yl|apply ym|apply yx|apply yn|refine keep_far ?_ GW308.out _))) : w.heap.size≤gb312) : w0.heap.size≤gb312));replace HK:=zh (KeepBut.trans (by repeat (with_reducible first|exact HK.out|apply yl|apply ym|apply yx|apply yn|refine keep_far ?_ GW308.out _)) (KeepBut.of_below hb g none) (.inl rfl));have NB308_312:=zh ((by rw [hg];exact yc (yi (g:=gb308) (o:=.cells #[.int .i64 0,.int .i64 0,.string (⟨#[]⟩ : ByteArray)] 31 (0,0)) (by (with_reducible repeat first|apply ze|apply zf|apply zg);exact BK308.out)) : gb308≠gb312));have NB312_308:=zh NB308_312.out.symm;replace BK308:=zh (cD BK308.out (by (with_reducible repeat first|apply ze|apply zf|apply zg);exact BK308.out) hb);have NB0_312:=zh ((by rw [hg];exact yc (IsS87.lt (show IsS87 w0 _ g t310 t311 from by repeat (with_reducible first|exact HI0.out|apply IsS87.alloc|apply IsS87.drewN|apply IsS87.drew|apply IsS87.set_0|apply IsS87.set_1|refine IsS87.far ?_ NB0_308.out _))) : g≠gb312));have NB312_0:=zh ((by rw [hg];exact yd (IsS87.lt (show IsS87 w0 _ g t310 t311 from by repeat (with_reducible first|exact HI0.out|apply IsS87.alloc|apply IsS87.drewN|apply IsS87.drew|apply IsS87.set_0|apply IsS87.set_1|refine IsS87.far ?_ NB0_308.out _))) : gb312≠g));replace HI0:=zh (IsS87.below (by repeat (with_reducible first|exact HI0.out|apply IsS87.alloc|apply IsS87.drewN|apply IsS87.drew|apply IsS87.set_0|apply IsS87.set_1|refine IsS87.far ?_ NB0_308.out _)) hb);clear hb hbox hg;have hnb20:=NB312_308.out;have hnc20:=NB308_312.out;have hnb21:=NB312_0.out;have hnc21:=NB0_312.out;obtain ⟨hcz22_0,hcz22_1,hcz22_2,hfz22_0,hfz22_1,hfz22_2⟩:=cB3 BK312.out)|((with_reducible refine zJ (f:=66) rfl ?_);refine yj (some 17) rfl rfl Tryd.func66 (by kernel_rfl) rfl #[.pointer (some ⟨g,0,none⟩),.int .i64 8] rfl (by (try simp only [zt,zu,zv]);first|done|rfl|(simp only [zw,zx];rfl)|(simp only [yr,ys,zV,zW];rfl)) ?_;(with_reducible refine (Fq.calls k  g t310 t311 8 t316 t317 t318 w0 _ ?side1 ?side2 A16.out).mono ?_);(case side1 => repeat (with_reducible first|exact HI0.out|apply IsS87.alloc|apply IsS87.drewN|apply IsS87.drew|apply IsS87.set_0|apply IsS87.set_1|refine IsS87.far ?_ NB0_308.out _|refine IsS87.far ?_ NB0_312.out _));(case side2 => repeat (with_reducible first|exact HB.out|apply za|apply zb|apply zc|refine zd ?_ (IsS87.ge HI0.out)|refine zd ?_ GE308.out|refine zd ?_ GE312.out));rintro e w23 ⟨rfl,hi,hb,hk⟩;refine ⟨_,rfl,?_⟩;replace BK308:=zh (KeepBut.blk hk (g':=gb308) (o:=.cells #[.int .i64 0,.int .i64 0,.string (⟨#[]⟩ : ByteArray)] 31 (0,0)) (by (with_reducible repeat first|apply ze|apply zf|apply zg);refine cS3 ?_ NB308_312.out;(with_reducible repeat first|apply ze|apply zf|apply zg);exact BK308.out) NB308_0.out (by simp));replace BK312:=zh (KeepBut.blk hk (g':=gb312) (o:=.cells #[.int .i64 t309,.int .i64 0,.string (⟨#[]⟩ : ByteArray)] 31 (0,0)) (by (with_reducible repeat first|apply ze|apply zf|apply zg);refine zL (cs:=#[.int .i64 t309,.int .i64 0,.string (⟨#[]⟩ : ByteArray)]) ?_ 2 _ rfl;(with_reducible repeat first|apply ze|apply zf|apply zg);refine zL (cs:=#[.int .i64 t309,.int .i64 0,.string (⟨#[]⟩ : ByteArray)]) ?_ 1 _ rfl;(with_reducible repeat first|apply ze|apply zf|apply zg);refine zL (cs:=#[.int .i64 0,.int .i64 0,.string (⟨#[]⟩ : ByteArray)]) ?_ 0 _ rfl;(with_reducible repeat first|apply ze|apply zf|apply zg);exact BK312.out) NB312_0.out (by simp));replace HK:=zh (KeepBut.trans (by repeat (with_reducible first|exact HK.out|apply yl|apply ym|apply yx|apply yn|refine keep_far ?_ GW308.out _|refine keep_far ?_ GW312.out _)) hk (.inl rfl));replace HB:=zh (hb);replace HI0:=zh (hi);(try clear hb);(try clear hb2);(try clear hk);(try clear hi);obtain ⟨hcz24_0,hcz24_1,hcz24_2,hfz24_0,hfz24_1,hfz24_2⟩:=cB3 BK312.out;have hnb25:=NB308_0.out;have hnc25:=NB0_308.out;obtain ⟨hcz26_0,hcz26_1,hcz26_2,hfz26_0,hfz26_1,hfz26_2⟩:=cB3 BK308.out))
  refine bodyPost_ret (results_cell_row rfl _ _ gb308 31 #[.int .i64 t309,.int .i64 (wrap64 (t316 - 4611686018427387904)),.string (⟨#[]⟩ : ByteArray)] (0,0) _ rfl (by (with_reducible repeat first|apply ze|apply zf|apply zg);refine zL (cs:=#[.int .i64 t309,.int .i64 (wrap64 (t316 - 4611686018427387904)),.string (⟨#[]⟩ : ByteArray)]) ?_ 2 _ rfl;(with_reducible repeat first|apply ze|apply zf|apply zg);refine zL (cs:=#[.int .i64 t309,.int .i64 0,.string (⟨#[]⟩ : ByteArray)]) ?_ 1 _ rfl;(with_reducible repeat first|apply ze|apply zf|apply zg);refine zL (cs:=#[.int .i64 0,.int .i64 0,.string (⟨#[]⟩ : ByteArray)]) ?_ 0 _ rfl;(with_reducible repeat first|apply ze|apply zf|apply zg);refine zS ?_ NB308_312.out _;(with_reducible repeat first|apply ze|apply zf|apply zg);exact BK308.out) Tryd.underlying31 rfl (by kernel_rfl)) rfl ?_;exact ⟨by first|rfl|(simp [yt,yu] <;> rfl)|(simp [*,yt,yu] <;> rfl),by repeat (with_reducible first|exact HI0.out|apply IsS87.alloc|apply IsS87.drewN|apply IsS87.drew|apply IsS87.set_0|apply IsS87.set_1|refine IsS87.far ?_ NB0_308.out _|refine IsS87.far ?_ NB0_312.out _),by repeat (with_reducible first|exact HB.out|apply za|apply zb|apply zc|refine zd ?_ (IsS87.ge HI0.out)|refine zd ?_ GE308.out|refine zd ?_ GE312.out),by repeat (with_reducible first|exact HK.out|apply yl|apply ym|apply yx|apply yn|refine keep_far ?_ GW308.out _|refine keep_far ?_ GW312.out _)⟩
 rw [if_neg c15] at H;have c15b0 : (t309 == 2)=false:=zY.mpr c15;have c15b1 : (t309 != 2)=true:=zZ.mpr c15;have HC27:=zh H;clear H
 go_enter Tryd.func64,Tryd.ntmps64
 go_upto_if 20 with (first|((with_reducible refine zK (N:=2) rfl ?_);refine zI ?hg (N:=2) ?hd (cs:=#[.int .i64 0,.int .i64 0,.string (⟨#[]⟩ : ByteArray)]) (t:=31) ?hr ?_;(case hd|hg => rfl);(case hr => go_simp <;> rfl);intro gb308 hg w28 hbox hb;replace HB:=zh (zC (by repeat (with_reducible first|exact HB.out|apply za|apply zb|apply zc|refine zd ?_ (IsS87.ge HI0.out))) hb);have BK308:=zh (hbox);have GW308:=zh ((by rw [hg];exact (keep_size (w:=w) (g:=g) (row:=none) (by repeat (with_reducible first|exact HK.out|apply yl|apply ym|apply yx|apply yn))) : w.heap.size≤gb308));have GE308:=zh ((Nat.le_trans HW0.out (by rw [hg];exact (keep_size (w:=w) (g:=g) (row:=none) (by repeat (with_reducible first|exact HK.out|apply yl|apply ym|apply yx|apply yn))) : w.heap.size≤gb308) : w0.heap.size≤gb308));replace HK:=zh (KeepBut.trans (by repeat (with_reducible first|exact HK.out|apply yl|apply ym|apply yx|apply yn)) (KeepBut.of_below hb g none) (.inl rfl));have NB0_308:=zh ((by rw [hg];exact yc (IsS87.lt (show IsS87 w0 _ g s0_0 s0_1 from by repeat (with_reducible first|exact HI0.out|apply IsS87.alloc|apply IsS87.drewN|apply IsS87.drew|apply IsS87.set_0|apply IsS87.set_1))) : g≠gb308));have NB308_0:=zh ((by rw [hg];exact yd (IsS87.lt (show IsS87 w0 _ g s0_0 s0_1 from by repeat (with_reducible first|exact HI0.out|apply IsS87.alloc|apply IsS87.drewN|apply IsS87.drew|apply IsS87.set_0|apply IsS87.set_1))) : gb308≠g));replace HI0:=zh (IsS87.below (by repeat (with_reducible first|exact HI0.out|apply IsS87.alloc|apply IsS87.drewN|apply IsS87.drew|apply IsS87.set_0|apply IsS87.set_1)) hb);clear hb hbox hg)|((with_reducible refine zJ (f:=66) rfl ?_);refine yj (some 5) rfl rfl Tryd.func66 (by kernel_rfl) rfl #[.pointer (some ⟨g,0,none⟩),.int .i64 1] rfl (by (try simp only [zt,zu,zv]);first|done|rfl|(simp only [zw,zx];rfl)|(simp only [yr,ys,zV,zW];rfl)) ?_;(with_reducible refine (Fq.calls k  g s0_0 s0_1 1 t309 t310 t311 w0 _ ?side1 ?side2 A2.out).mono ?_);(case side1 => repeat (with_reducible first|exact HI0.out|apply IsS87.alloc|apply IsS87.drewN|apply IsS87.drew|apply IsS87.set_0|apply IsS87.set_1|refine IsS87.far ?_ NB0_308.out _));(case side2 => repeat (with_reducible first|exact HB.out|apply za|apply zb|apply zc|refine zd ?_ (IsS87.ge HI0.out)|refine zd ?_ GE308.out));rintro e w29 ⟨rfl,hi,hb,hk⟩;refine ⟨_,rfl,?_⟩;replace BK308:=zh (KeepBut.blk hk (g':=gb308) (o:=.cells #[.int .i64 0,.int .i64 0,.string (⟨#[]⟩ : ByteArray)] 31 (0,0)) (by (with_reducible repeat first|apply ze|apply zf|apply zg);exact BK308.out) NB308_0.out (by simp));replace HK:=zh (KeepBut.trans (by repeat (with_reducible first|exact HK.out|apply yl|apply ym|apply yx|apply yn|refine keep_far ?_ GW308.out _)) hk (.inl rfl));replace HB:=zh (hb);replace HI0:=zh (hi);(try clear hb);(try clear hb2);(try clear hk);(try clear hi))|((with_reducible refine zK (N:=3) rfl ?_);refine zI ?hg (N:=3) ?hd (cs:=#[.int .i64 0,.int .i64 0,.string (⟨#[]⟩ : ByteArray)]) (t:=31) ?hr ?_;(case hd|hg => rfl);(case hr => go_simp <;> rfl);intro gb312 hg w30 hbox hb;replace HB:=zh (zC (by repeat (with_reducible first|exact HB.out|apply za|apply zb|apply zc|refine zd ?_ (IsS87.ge HI0.out)|refine zd ?_ GE308.out)) hb);have BK312:=zh (hbox);have GW312:=zh ((by rw [hg];exact (keep_size (w:=w) (g:=g) (row:=none) (by repeat (with_reducible first|exact HK.out|apply yl|apply ym|apply yx|apply yn|refine keep_far ?_ GW308.out _))) : w.heap.size≤gb312));have GE312:=zh ((Nat.le_trans HW0.out (by rw [hg];exact (keep_size (w:=w) (g:=g) (row:=none) (by repeat (with_reducible first|exact HK.out|apply yl|apply ym|apply yx|apply yn|refine keep_far ?_ GW308.out _))) : w.heap.size≤gb312) : w0.heap.size≤gb312));replace HK:=zh (KeepBut.trans (by repeat (with_reducible first|exact HK.out|apply yl|apply ym|apply yx|apply yn|refine keep_far ?_ GW308.out _)) (KeepBut.of_below hb g none) (.inl rfl));have NB308_312:=zh ((by rw [hg];exact yc (yi (g:=gb308) (o:=.cells #[.int .i64 0,.int .i64 0,.string (⟨#[]⟩ : ByteArray)] 31 (0,0)) (by (with_reducible repeat first|apply ze|apply zf|apply zg);exact BK308.out)) : gb308≠gb312));have NB312_308:=zh NB308_312.out.symm;replace BK308:=zh (cD BK308.out (by (with_reducible repeat first|apply ze|apply zf|apply zg);exact BK308.out) hb);have NB0_312:=zh ((by rw [hg];exact yc (IsS87.lt (show IsS87 w0 _ g t310 t311 from by repeat (with_reducible first|exact HI0.out|apply IsS87.alloc|apply IsS87.drewN|apply IsS87.drew|apply IsS87.set_0|apply IsS87.set_1|refine IsS87.far ?_ NB0_308.out _))) : g≠gb312));have NB312_0:=zh ((by rw [hg];exact yd (IsS87.lt (show IsS87 w0 _ g t310 t311 from by repeat (with_reducible first|exact HI0.out|apply IsS87.alloc|apply IsS87.drewN|apply IsS87.drew|apply IsS87.set_0|apply IsS87.set_1|refine IsS87.far ?_ NB0_308.out _))) : gb312≠g));replace HI0:=zh (IsS87.below (by repeat (with_reducible first|exact HI0.out|apply IsS87.alloc|apply IsS87.drewN|apply IsS87.drew|apply IsS87.set_0|apply IsS87.set_1|refine IsS87.far ?_ NB0_308.out _)) hb);clear hb hbox hg;have hnb31:=NB312_308.out;have hnc31:=NB308_312.out;have hnb32:=NB312_0.out;have hnc32:=NB0_312.out;obtain ⟨hcz33_0,hcz33_1,hcz33_2,hfz33_0,hfz33_1,hfz33_2⟩:=cB3 BK312.out))
 (try simp only [Act.put,zi,zj,zk])
 go_cut [20] (fun v20 wc => ∃ (kq : Nat) (x20_26 : Bool),v20 = .bool x20_26∧Aside0 (Fh.j0 kq x20_26 t310 t311 t309 0 (⟨#[]⟩ : ByteArray)=some (r1,r2,r3,r4,r5))∧Aside0 (kq≤k)∧Aside0 (wc.heap[gb308]? = some (.cells #[.int .i64 0,.int .i64 0,.string (⟨#[]⟩ : ByteArray)] 31 (0,0)))∧Aside0 (wc.heap[gb312]? = some (.cells #[.int .i64 t309,.int .i64 0,.string (⟨#[]⟩ : ByteArray)] 31 (0,0)))∧Aside0 (IsS87 w0 wc g t310 t311)∧Aside0 (KeepBut w wc g none)∧Aside0 (Below w0.heap.size w0 wc))
 case first =>
  have H:=HC27.out;clear HC27
  by_cases c34 : t309=3
  ·
   rw [if_pos c34] at H
   have c34b0 : (t309 == 3)=true:=ya.mpr c34;have c34b1 : (t309 != 3)=false:=zX.mpr c34;clear c34;(first|rw [c34b0]|(simp only [zG,zH];rw [c34b0])|skip);have H':=zh H;clear H
   go_wp2
   go_meet
   case rel => exact ⟨_,((t309 == 3)),(by first|rfl|(simp;done)|(simp [*];done)),H',⟨by first|omega|exact ye _⟩,⟨by (with_reducible repeat first|apply ze|apply zf|apply zg);refine cS3 ?_ NB308_312.out;(with_reducible repeat first|apply ze|apply zf|apply zg);exact BK308.out⟩,⟨by (with_reducible repeat first|apply ze|apply zf|apply zg);refine zL (cs:=#[.int .i64 t309,.int .i64 0,.string (⟨#[]⟩ : ByteArray)]) ?_ 2 _ rfl;(with_reducible repeat first|apply ze|apply zf|apply zg);refine zL (cs:=#[.int .i64 t309,.int .i64 0,.string (⟨#[]⟩ : ByteArray)]) ?_ 1 _ rfl;(with_reducible repeat first|apply ze|apply zf|apply zg);refine zL (cs:=#[.int .i64 0,.int .i64 0,.string (⟨#[]⟩ : ByteArray)]) ?_ 0 _ rfl;(with_reducible repeat first|apply ze|apply zf|apply zg);exact BK312.out⟩,⟨by repeat (with_reducible first|exact HI0.out|apply IsS87.alloc|apply IsS87.drewN|apply IsS87.drew|apply IsS87.set_0|apply IsS87.set_1|refine IsS87.far ?_ NB0_308.out _|refine IsS87.far ?_ NB0_312.out _)⟩,⟨by repeat (with_reducible first|exact HK.out|apply yl|apply ym|apply yx|apply yn|refine keep_far ?_ GW308.out _|refine keep_far ?_ GW312.out _)⟩,⟨by repeat (with_reducible first|exact HB.out|apply za|apply zb|apply zc|refine zd ?_ (IsS87.ge HI0.out)|refine zd ?_ GE308.out|refine zd ?_ GE312.out)⟩⟩
  rw [if_neg c34] at H;have c34b0 : (t309 == 3)=false:=zY.mpr c34;have c34b1 : (t309 != 3)=true:=zZ.mpr c34;(first|rw [c34b0]|(simp only [zG,zH];rw [c34b0])|skip)
  by_cases c35 : t309=4
  ·
   rw [if_pos c35] at H
   have c35b0 : (t309 == 4)=true:=ya.mpr c35;have c35b1 : (t309 != 4)=false:=zX.mpr c35;clear c35;have H':=zh H;clear H
   go_wp2
   go_meet
   case rel => exact ⟨_,((t309 == 4)),(by first|rfl|(simp;done)|(simp [*];done)),H',⟨by first|omega|exact ye _⟩,⟨by (with_reducible repeat first|apply ze|apply zf|apply zg);refine cS3 ?_ NB308_312.out;(with_reducible repeat first|apply ze|apply zf|apply zg);exact BK308.out⟩,⟨by (with_reducible repeat first|apply ze|apply zf|apply zg);refine zL (cs:=#[.int .i64 t309,.int .i64 0,.string (⟨#[]⟩ : ByteArray)]) ?_ 2 _ rfl;(with_reducible repeat first|apply ze|apply zf|apply zg);refine zL (cs:=#[.int .i64 t309,.int .i64 0,.string (⟨#[]⟩ : ByteArray)]) ?_ 1 _ rfl;(with_reducible repeat first|apply ze|apply zf|apply zg);refine zL (cs:=#[.int .i64 0,.int .i64 0,.string (⟨#[]⟩ : ByteArray)]) ?_ 0 _ rfl;(with_reducible repeat first|apply ze|apply zf|apply zg);exact BK312.out⟩,⟨by repeat (with_reducible first|exact HI0.out|apply IsS87.alloc|apply IsS87.drewN|apply IsS87.drew|apply IsS87.set_0|apply IsS87.set_1|refine IsS87.far ?_ NB0_308.out _|refine IsS87.far ?_ NB0_312.out _)⟩,⟨by repeat (with_reducible first|exact HK.out|apply yl|apply ym|apply yx|apply yn|refine keep_far ?_ GW308.out _|refine keep_far ?_ GW312.out _)⟩,⟨by repeat (with_reducible first|exact HB.out|apply za|apply zb|apply zc|refine zd ?_ (IsS87.ge HI0.out)|refine zd ?_ GE308.out|refine zd ?_ GE312.out)⟩⟩
  rw [if_neg c35] at H;have c35b0 : (t309 == 4)=false:=zY.mpr c35;have c35b1 : (t309 != 4)=true:=zZ.mpr c35;have H':=zh H;clear H
  go_wp2
  go_meet
  case rel => exact ⟨_,((t309 == 5)),(by first|rfl|(simp;done)|(simp [*];done)),H',⟨by first|omega|exact ye _⟩,⟨by (with_reducible repeat first|apply ze|apply zf|apply zg);refine cS3 ?_ NB308_312.out;(with_reducible repeat first|apply ze|apply zf|apply zg);exact BK308.out⟩,⟨by (with_reducible repeat first|apply ze|apply zf|apply zg);refine zL (cs:=#[.int .i64 t309,.int .i64 0,.string (⟨#[]⟩ : ByteArray)]) ?_ 2 _ rfl;(with_reducible repeat first|apply ze|apply zf|apply zg);refine zL (cs:=#[.int .i64 t309,.int .i64 0,.string (⟨#[]⟩ : ByteArray)]) ?_ 1 _ rfl;(with_reducible repeat first|apply ze|apply zf|apply zg);refine zL (cs:=#[.int .i64 0,.int .i64 0,.string (⟨#[]⟩ : ByteArray)]) ?_ 0 _ rfl;(with_reducible repeat first|apply ze|apply zf|apply zg);exact BK312.out⟩,⟨by repeat (with_reducible first|exact HI0.out|apply IsS87.alloc|apply IsS87.drewN|apply IsS87.drew|apply IsS87.set_0|apply IsS87.set_1|refine IsS87.far ?_ NB0_308.out _|refine IsS87.far ?_ NB0_312.out _)⟩,⟨by repeat (with_reducible first|exact HK.out|apply yl|apply ym|apply yx|apply yn|refine keep_far ?_ GW308.out _|refine keep_far ?_ GW312.out _)⟩,⟨by repeat (with_reducible first|exact HB.out|apply za|apply zb|apply zc|refine zd ?_ (IsS87.ge HI0.out)|refine zd ?_ GE308.out|refine zd ?_ GE312.out)⟩⟩
 case rest =>
  clear HC27
  try clear c1 c2
  try clear p2
  try clear c3 c3b0 c3b1 c6
  try clear p6
  try clear c8 c9 c13 c15 c15b0 c15b1 c20 c21 c25 c31 c32 c34 c34b0 c34b1 c35 c35b0 c35b1
  try clear hcz10_0 hcz10_1 hcz10_2
  try clear hcz12_0 hcz12_1 hcz12_2
  try clear hcz14_0 hcz14_1 hcz14_2
  try clear hcz22_0 hcz22_1 hcz22_2
  try clear hcz24_0 hcz24_1 hcz24_2
  try clear hcz26_0 hcz26_1 hcz26_2
  try clear hcz33_0 hcz33_1 hcz33_2
  try clear hfz10_0 hfz10_1 hfz10_2
  try clear hfz12_0 hfz12_1 hfz12_2
  try clear hfz14_0 hfz14_1 hfz14_2
  try clear hfz22_0 hfz22_1 hfz22_2
  try clear hfz24_0 hfz24_1 hfz24_2
  try clear hfz26_0 hfz26_1 hfz26_2
  try clear hfz33_0 hfz33_1 hfz33_2
  obtain ⟨kq,x20_26,rfl,HA,HJ26,BK308,BK312,HI0,HK,HB⟩:=hcut
  cases kq with
  | zero => exact absurd HA.out (by simp [Fh.j0])
  | succ kj26 =>
   have H:=HA.out;clear HA;simp only [Fh.j0] at H
   by_cases c36 : x20_26=true
   ·
    subst c36
    have H1 : ((Fq.f kj26 t310 t311 2).bind fun bt319 => ((F05.f bt319.2.1 bt319.2.2 bt319.1).bind fun bt322 => (some (t309,0,bt322.1,bt322.2.1,bt322.2.2))))=some (r1,r2,r3,r4,r5):=by rw [if_pos rfl] at H;exact H
    clear H;have H:=H1;clear H1;replace H:=zT.mp H;obtain ⟨⟨t319,t320,t321⟩,A370,H⟩:=H;replace H : ((F05.f t320 t321 t319).bind fun bt322 => (some (t309,0,bt322.1,bt322.2.1,bt322.2.2)))=some (r1,r2,r3,r4,r5):=H;have A37:=zh A370;clear A370;replace H:=zT.mp H;obtain ⟨⟨t322,t323,t324⟩,A380,H⟩:=H;replace H : (some (t309,0,t322,t323,t324))=some (r1,r2,r3,r4,r5):=H;have A38:=zh A380;clear A380;simp only [Option.some.injEq,Prod.mk.injEq] at H;obtain ⟨rfl,rfl,rfl,rfl,rfl⟩:=H
    go_wp2_with (first|((with_reducible refine zJ (f:=66) rfl ?_);refine yj (some 26) rfl rfl Tryd.func66 (by kernel_rfl) rfl #[.pointer (some ⟨g,0,none⟩),.int .i64 2] rfl (by (try simp only [zt,zu,zv]);first|done|rfl|(simp only [zw,zx];rfl)|(simp only [yr,ys,zV,zW];rfl)) ?_;(with_reducible refine (Fq.calls kj26  g t310 t311 2 t319 t320 t321 w0 _ ?side1 ?side2 A37.out).mono ?_);(case side1 => repeat (with_reducible first|exact HI0.out|apply IsS87.alloc|apply IsS87.drewN|apply IsS87.drew|apply IsS87.set_0|apply IsS87.set_1|refine IsS87.far ?_ NB0_308.out _|refine IsS87.far ?_ NB0_312.out _));(case side2 => repeat (with_reducible first|exact HB.out|apply za|apply zb|apply zc|refine zd ?_ (IsS87.ge HI0.out)|refine zd ?_ GE308.out|refine zd ?_ GE312.out));rintro e w39 ⟨rfl,hi,hb,hk⟩;refine ⟨_,rfl,?_⟩;replace BK308:=zh (KeepBut.blk hk (g':=gb308) (o:=.cells #[.int .i64 0,.int .i64 0,.string (⟨#[]⟩ : ByteArray)] 31 (0,0)) (by (with_reducible repeat first|apply ze|apply zf|apply zg);exact BK308.out) NB308_0.out (by simp));replace BK312:=zh (KeepBut.blk hk (g':=gb312) (o:=.cells #[.int .i64 t309,.int .i64 0,.string (⟨#[]⟩ : ByteArray)] 31 (0,0)) (by (with_reducible repeat first|apply ze|apply zf|apply zg);exact BK312.out) NB312_0.out (by simp));replace HK:=zh (KeepBut.trans (by repeat (with_reducible first|exact HK.out|apply yl|apply ym|apply yx|apply yn|refine keep_far ?_ GW308.out _|refine keep_far ?_ GW312.out _)) hk (.inl rfl));replace HB:=zh (hb);replace HI0:=zh (hi);(try clear hb);(try clear hb2);(try clear hk);(try clear hi))|((with_reducible refine zJ (f:=65) rfl ?_);refine yj (some 27) rfl rfl Tryd.func65 (by kernel_rfl) rfl #[.pointer (some ⟨g,0,none⟩),.int .i64 t319] rfl (by (try simp only [zt,zu,zv]);first|done|rfl|(simp only [zw,zx];rfl)|(simp only [yr,ys,zV,zW];rfl)) ?_;(with_reducible refine (F05.calls  g t320 t321 t319 t322 t323 t324 w0 _ ?side1 ?side2 A38.out).mono ?_);(case side1 => repeat (with_reducible first|exact HI0.out|apply IsS87.alloc|apply IsS87.drewN|apply IsS87.drew|apply IsS87.set_0|apply IsS87.set_1|refine IsS87.far ?_ NB0_308.out _|refine IsS87.far ?_ NB0_312.out _));(case side2 => repeat (with_reducible first|exact HB.out|apply za|apply zb|apply zc|refine zd ?_ (IsS87.ge HI0.out)|refine zd ?_ GE308.out|refine zd ?_ GE312.out));rintro e w40 ⟨rfl,hi,hb,hk⟩;refine ⟨_,rfl,?_⟩;replace BK308:=zh (KeepBut.blk hk (g':=gb308) (o:=.cells #[.int .i64 0,.int .i64 0,.string (⟨#[]⟩ : ByteArray)] 31 (0,0)) (by (with_reducible repeat first|apply ze|apply zf|apply zg);exact BK308.out) NB308_0.out (by simp));replace BK312:=zh (KeepBut.blk hk (g':=gb312) (o:=.cells #[.int .i64 t309,.int .i64 0,.string (⟨#[]⟩ : ByteArray)] 31 (0,0)) (by (with_reducible repeat first|apply ze|apply zf|apply zg);exact BK312.out) NB312_0.out (by simp));replace HK:=zh (KeepBut.trans (by repeat (with_reducible first|exact HK.out|apply yl|apply ym|apply yx|apply yn|refine keep_far ?_ GW308.out _|refine keep_far ?_ GW312.out _)) hk (.inl rfl));replace HB:=zh (hb);replace HI0:=zh (hi);(try clear hb);(try clear hb2);(try clear hk);(try clear hi);have hnb41:=NB312_308.out;have hnc41:=NB308_312.out;have hnb42:=NB312_0.out;have hnc42:=NB0_312.out;obtain ⟨hcz43_0,hcz43_1,hcz43_2,hfz43_0,hfz43_1,hfz43_2⟩:=cB3 BK312.out;have hnb44:=NB308_0.out;have hnc44:=NB0_308.out;obtain ⟨hcz45_0,hcz45_1,hcz45_2,hfz45_0,hfz45_1,hfz45_2⟩:=cB3 BK308.out))
    refine bodyPost_ret (results_cell_row rfl _ _ gb308 31 #[.int .i64 t309,.int .i64 0,.string t322] (0,0) _ rfl (by (with_reducible repeat first|apply ze|apply zf|apply zg);refine zL (cs:=#[.int .i64 t309,.int .i64 0,.string (⟨#[]⟩ : ByteArray)]) ?_ 2 _ rfl;(with_reducible repeat first|apply ze|apply zf|apply zg);refine zL (cs:=#[.int .i64 t309,.int .i64 0,.string (⟨#[]⟩ : ByteArray)]) ?_ 1 _ rfl;(with_reducible repeat first|apply ze|apply zf|apply zg);refine zL (cs:=#[.int .i64 0,.int .i64 0,.string (⟨#[]⟩ : ByteArray)]) ?_ 0 _ rfl;(with_reducible repeat first|apply ze|apply zf|apply zg);refine zS ?_ NB308_312.out _;(with_reducible repeat first|apply ze|apply zf|apply zg);exact BK308.out) Tryd.underlying31 rfl (by kernel_rfl)) rfl ?_;exact ⟨by first|rfl|(simp [yt,yu] <;> rfl)|(simp [*,yt,yu] <;> rfl),by repeat (with_reducible first|exact HI0.out|apply IsS87.alloc|apply IsS87.drewN|apply IsS87.drew|apply IsS87.set_0|apply IsS87.set_1|refine IsS87.far ?_ NB0_308.out _|refine IsS87.far ?_ NB0_312.out _),by repeat (with_reducible first|exact HB.out|apply za|apply zb|apply zc|refine zd ?_ (IsS87.ge HI0.out)|refine zd ?_ GE308.out|refine zd ?_ GE312.out),by repeat (with_reducible first|exact HK.out|apply yl|apply ym|apply yx|apply yn|refine keep_far ?_ GW308.out _|refine keep_far ?_ GW312.out _)⟩
   replace c36:=yb.mpr c36;subst c36;have H1 : (some (t309,0,(⟨#[]⟩ : ByteArray),t310,t311))=some (r1,r2,r3,r4,r5):=by rw [if_neg (show ¬ (false=true) by decide)] at H;exact H
   clear H;have H:=H1;clear H1;simp only [Option.some.injEq,Prod.mk.injEq] at H;obtain ⟨rfl,rfl,rfl,rfl,rfl⟩:=H;have hnb46:=NB312_308.out;have hnc46:=NB308_312.out;have hnb47:=NB312_0.out;have hnc47:=NB0_312.out;obtain ⟨hcz48_0,hcz48_1,hcz48_2,hfz48_0,hfz48_1,hfz48_2⟩:=cB3 BK312.out;have hnb49:=NB308_0.out;have hnc49:=NB0_308.out;obtain ⟨hcz50_0,hcz50_1,hcz50_2,hfz50_0,hfz50_1,hfz50_2⟩:=cB3 BK308.out
   go_wp2
   refine bodyPost_ret (results_cell_row rfl _ _ gb308 31 #[.int .i64 t309,.int .i64 0,.string (⟨#[]⟩ : ByteArray)] (0,0) _ rfl (by (with_reducible repeat first|apply ze|apply zf|apply zg);refine zL (cs:=#[.int .i64 t309,.int .i64 0,.string (⟨#[]⟩ : ByteArray)]) ?_ 2 _ rfl;(with_reducible repeat first|apply ze|apply zf|apply zg);refine zL (cs:=#[.int .i64 t309,.int .i64 0,.string (⟨#[]⟩ : ByteArray)]) ?_ 1 _ rfl;(with_reducible repeat first|apply ze|apply zf|apply zg);refine zL (cs:=#[.int .i64 0,.int .i64 0,.string (⟨#[]⟩ : ByteArray)]) ?_ 0 _ rfl;(with_reducible repeat first|apply ze|apply zf|apply zg);exact BK308.out) Tryd.underlying31 rfl (by kernel_rfl)) rfl ?_;exact ⟨by first|rfl|(simp [yt,yu] <;> rfl)|(simp [*,yt,yu] <;> rfl),by repeat (with_reducible first|exact HI0.out|apply IsS87.alloc|apply IsS87.drewN|apply IsS87.drew|apply IsS87.set_0|apply IsS87.set_1|refine IsS87.far ?_ NB0_308.out _|refine IsS87.far ?_ NB0_312.out _),by repeat (with_reducible first|exact HB.out|apply za|apply zb|apply zc|refine zd ?_ (IsS87.ge HI0.out)|refine zd ?_ GE308.out|refine zd ?_ GE312.out),by repeat (with_reducible first|exact HK.out|apply yl|apply ym|apply yx|apply yn|refine keep_far ?_ GW308.out _|refine keep_far ?_ GW312.out _)⟩


def Ff.l0 : Nat→List (S31)→ByteArray→Bool→Option ((List (S31))×Bool)
 | 0,_,_,_ => none
 | k + 1,x5,x327000,x327001 => if x327000.toList=([] : List UInt8) then (some (x5,!x327001)) else (if x327001=true then (some (x5,!x327001)) else ((Fh.f k x327000 x327001).bind fun bt330 => (if x5.length<4398046511104 then (Ff.l0 k (x5 ++ [(⟨bt330.1,bt330.2.1,bt330.2.2.1⟩ : S31)]) bt330.2.2.2.1 bt330.2.2.2.2) else (none))))
def Ff.f (k : Nat) (a0_0 : Int) (a0_1 : Int) (a0_2 : ByteArray) : Option ((List (S31))×Bool):=Ff.l0 k (([] : List (S31))) a0_2 false
theorem Ff.mono_l : ∀ k,(∀ y0 y1 y2,LeO (Ff.l0 k y0 y1 y2) (Ff.l0 (k + 1) y0 y1 y2))
 | 0 => fun _ _ _ r h => by simp [Ff.l0] at h
 | k + 1 => by
  have ih0:=Ff.mono_l k;intro y0 y1 y2;unfold Ff.l0
  repeat' first|(with_reducible first|exact ih0 _ _ _|exact Fh.mono _ _ _|exact zQ _|exact zN _|refine zP ?_ ?_|refine zO ?_ (fun _ => ?_))|refine zP ?_ ?_|refine zO ?_ (fun _ => ?_)
theorem Ff.mono : ∀ a0 a1 a2 k,LeO (Ff.f k a0 a1 a2) (Ff.f (k + 1) a0 a1 a2):=by
 intro a0 a1 a2 k;have ih0:=Ff.mono_l k;unfold Ff.f
 repeat' first|(with_reducible first|exact ih0 _ _ _|exact Fh.mono _ _ _|exact zQ _|exact zN _|refine zP ?_ ?_|refine zO ?_ (fun _ => ?_))|refine zP ?_ ?_|refine zO ?_ (fun _ => ?_)
set_option maxHeartbeats 8000000 in
set_option maxRecDepth 100000 in
theorem Ff.calls (k : Nat) (a0_0 : Int) (a0_1 : Int) (a0_2 : ByteArray) (r1 : List (S31)) (r2 : Bool) (w : World) (h : Ff.f k a0_0 a0_1 a0_2=some (r1,r2)) :
  Calls Tryd.prog 54 #[.agg #[.int .i64 a0_0,.int .i64 a0_1,.string a0_2]] w fun e w' => ∃ v0_ : Value,e = .returned (.tuple #[v0_,.bool r2])∧Kd.R k31 31 w' w.heap.size (fun _ => True) v0_ r1∧Below w.heap.size w w':=by
 have hu31:=Tryd.underlying31;have hu87:=Tryd.underlying87;have HB:=zh (Below.refl w.heap.size w);have H : (Ff.l0 k (([] : List (S31))) a0_2 false)=some (r1,r2):=h;clear h;obtain ⟨y327,hy327⟩ : ∃ y_ : List (S31),y_=(([] : List (S31))):=⟨_,rfl⟩;replace H : (Ff.l0 k y327 a0_2 false)=some (r1,r2):=by first|(rw [hy327];with_reducible exact H)|(have H2_:=(Option.bind_some _ _).symm.trans H;rw [hy327];with_reducible exact H2_)|(have H2_:=(Option.bind_some _ _).symm.trans H;with_reducible exact H2_)|with_reducible exact H|(rw [hy327];exact H)|exact H
 have Ny327:=zh hy327;clear hy327;have H':=zh H;clear H
 go_enter Tryd.func54,Tryd.ntmps54
 go_wp2_with (first|((with_reducible refine zK (N:=1) rfl ?_);refine zI ?hg (N:=1) ?hd (cs:=#[.int .i64 a0_0,.int .i64 a0_1,.string a0_2]) (t:=31) ?hr ?_;(case hd|hg => rfl);(case hr => go_simp <;> rfl);intro gb325 hg w2 hbox hb;have BK325:=zh (hbox);have hH_:=cH (by repeat (with_reducible first|exact HB.out|apply za|apply zb|apply zc)) hb hg;have GW325:=zh hH_.1;have GE325:=GW325;replace HB:=zh hH_.2;clear hb hbox hg hH_;obtain ⟨hcz3_0,hcz3_1,hcz3_2,hfz3_0,hfz3_1,hfz3_2⟩:=cB3 BK325.out)|((with_reducible refine zK (N:=9) rfl ?_);refine zI ?hg (N:=9) ?hd (cs:=#[.string a0_2,.bool false]) (t:=87) ?hr ?_;(case hd|hg => rfl);(case hr => go_simp <;> rfl);intro gb326 hg w4 hbox hb;have BK326:=zh (hbox);have hH_:=cH (by repeat (with_reducible first|exact HB.out|apply za|apply zb|apply zc|refine zd ?_ GE325.out)) hb hg;have GW326:=zh hH_.1;have GE326:=GW326;replace HB:=zh hH_.2;have NB325_326:=zh ((by rw [hg];exact yc (yi (g:=gb325) (o:=.cells #[.int .i64 a0_0,.int .i64 a0_1,.string a0_2] 31 (0,0)) (by (with_reducible repeat first|apply ze|apply zf|apply zg);exact BK325.out)) : gb325≠gb326));have NB326_325:=zh NB325_326.out.symm;replace BK325:=zh (cD BK325.out (by (with_reducible repeat first|apply ze|apply zf|apply zg);exact BK325.out) hb);clear hb hbox hg hH_)|((with_reducible refine zK (N:=10) rfl ?_);refine Kd.R_lit k31 _ 31 ?hg (N:=10) ?hd (xs:=([] : List (S31))) (inner:=[]) (ok:=fun _ => True) (okp:=fun _ => True) ?hr ?hp (fun _ hk => hk) trivial (Below.refl _ _) (ye _) (by simp) ?_;(case hd|hg => rfl);(case hr => go_simp <;> rfl);(case hp => exact (Reps.none _ _));intro v328 w5 ho6 hb hg_ hnew_;clear hg_ hnew_;(first|rw [← Ny327.out] at ho6|(simp only [Int.reduceToNat] at ho6;rw [← Ny327.out] at ho6));have HO329:=zh (yy (Kd.R_newB ho6 (g:=gb325) (o:=.cells #[.int .i64 a0_0,.int .i64 a0_1,.string a0_2] 31 (0,0)) (by (with_reducible repeat first|apply ze|apply zf|apply zg);exact BK325.out)) (zB (by repeat (with_reducible first|exact HB.out|apply za|apply zb|apply zc|refine zd ?_ GE325.out|refine zd ?_ GE326.out))));replace BK325:=zh (cD BK325.out (by (with_reducible repeat first|apply ze|apply zf|apply zg);exact BK325.out) hb);replace BK326:=zh (cD BK326.out (by (with_reducible repeat first|apply ze|apply zf|apply zg);exact BK326.out) hb);replace HB:=zh (zC (by repeat (with_reducible first|exact HB.out|apply za|apply zb|apply zc|refine zd ?_ GE325.out|refine zd ?_ GE326.out)) hb);clear hb ho6))
 repeat (go_quiet (first|((with_reducible refine zK (N:=1) rfl ?_);refine zI ?hg (N:=1) ?hd (cs:=#[.int .i64 a0_0,.int .i64 a0_1,.string a0_2]) (t:=31) ?hr ?_;(case hd|hg => rfl);(case hr => go_simp <;> rfl);intro gb325 hg w2 hbox hb;have BK325:=zh (hbox);have hH_:=cH (by repeat (with_reducible first|exact HB.out|apply za|apply zb|apply zc)) hb hg;have GW325:=zh hH_.1;have GE325:=GW325;replace HB:=zh hH_.2;clear hb hbox hg hH_;obtain ⟨hcz3_0,hcz3_1,hcz3_2,hfz3_0,hfz3_1,hfz3_2⟩:=cB3 BK325.out)|((with_reducible refine zK (N:=9) rfl ?_);refine zI ?hg (N:=9) ?hd (cs:=#[.string a0_2,.bool false]) (t:=87) ?hr ?_;(case hd|hg => rfl);(case hr => go_simp <;> rfl);intro gb326 hg w4 hbox hb;have BK326:=zh (hbox);have hH_:=cH (by repeat (with_reducible first|exact HB.out|apply za|apply zb|apply zc|refine zd ?_ GE325.out)) hb hg;have GW326:=zh hH_.1;have GE326:=GW326;replace HB:=zh hH_.2;have NB325_326:=zh ((by rw [hg];exact yc (yi (g:=gb325) (o:=.cells #[.int .i64 a0_0,.int .i64 a0_1,.string a0_2] 31 (0,0)) (by (with_reducible repeat first|apply ze|apply zf|apply zg);exact BK325.out)) : gb325≠gb326));have NB326_325:=zh NB325_326.out.symm;replace BK325:=zh (cD BK325.out (by (with_reducible repeat first|apply ze|apply zf|apply zg);exact BK325.out) hb);clear hb hbox hg hH_)|((with_reducible refine zK (N:=10) rfl ?_);refine Kd.R_lit k31 _ 31 ?hg (N:=10) ?hd (xs:=([] : List (S31))) (inner:=[]) (ok:=fun _ => True) (okp:=fun _ => True) ?hr ?hp (fun _ hk => hk) trivial (Below.refl _ _) (ye _) (by simp) ?_;(case hd|hg => rfl);(case hr => go_simp <;> rfl);(case hp => exact (Reps.none _ _));intro v328 w5 ho6 hb hg_ hnew_;clear hg_ hnew_;(first|rw [← Ny327.out] at ho6|(simp only [Int.reduceToNat] at ho6;rw [← Ny327.out] at ho6));have HO329:=zh (yy (Kd.R_newB ho6 (g:=gb325) (o:=.cells #[.int .i64 a0_0,.int .i64 a0_1,.string a0_2] 31 (0,0)) (by (with_reducible repeat first|apply ze|apply zf|apply zg);exact BK325.out)) (zB (by repeat (with_reducible first|exact HB.out|apply za|apply zb|apply zc|refine zd ?_ GE325.out|refine zd ?_ GE326.out))));replace BK325:=zh (cD BK325.out (by (with_reducible repeat first|apply ze|apply zf|apply zg);exact BK325.out) hb);replace BK326:=zh (cD BK326.out (by (with_reducible repeat first|apply ze|apply zf|apply zg);exact BK326.out) hb);replace HB:=zh (zC (by repeat (with_reducible first|exact HB.out|apply za|apply zb|apply zc|refine zd ?_ GE325.out|refine zd ?_ GE326.out)) hb);clear hb ho6));try go_wp2_with (first|((with_reducible refine zK (N:=1) rfl ?_);refine zI ?hg (N:=1) ?hd (cs:=#[.int .i64 a0_0,.int .i64 a0_1,.string a0_2]) (t:=31) ?hr ?_;(case hd|hg => rfl);(case hr => go_simp <;> rfl);intro gb325 hg w2 hbox hb;have BK325:=zh (hbox);have hH_:=cH (by repeat (with_reducible first|exact HB.out|apply za|apply zb|apply zc)) hb hg;have GW325:=zh hH_.1;have GE325:=GW325;replace HB:=zh hH_.2;clear hb hbox hg hH_;obtain ⟨hcz3_0,hcz3_1,hcz3_2,hfz3_0,hfz3_1,hfz3_2⟩:=cB3 BK325.out)|((with_reducible refine zK (N:=9) rfl ?_);refine zI ?hg (N:=9) ?hd (cs:=#[.string a0_2,.bool false]) (t:=87) ?hr ?_;(case hd|hg => rfl);(case hr => go_simp <;> rfl);intro gb326 hg w4 hbox hb;have BK326:=zh (hbox);have hH_:=cH (by repeat (with_reducible first|exact HB.out|apply za|apply zb|apply zc|refine zd ?_ GE325.out)) hb hg;have GW326:=zh hH_.1;have GE326:=GW326;replace HB:=zh hH_.2;have NB325_326:=zh ((by rw [hg];exact yc (yi (g:=gb325) (o:=.cells #[.int .i64 a0_0,.int .i64 a0_1,.string a0_2] 31 (0,0)) (by (with_reducible repeat first|apply ze|apply zf|apply zg);exact BK325.out)) : gb325≠gb326));have NB326_325:=zh NB325_326.out.symm;replace BK325:=zh (cD BK325.out (by (with_reducible repeat first|apply ze|apply zf|apply zg);exact BK325.out) hb);clear hb hbox hg hH_)|((with_reducible refine zK (N:=10) rfl ?_);refine Kd.R_lit k31 _ 31 ?hg (N:=10) ?hd (xs:=([] : List (S31))) (inner:=[]) (ok:=fun _ => True) (okp:=fun _ => True) ?hr ?hp (fun _ hk => hk) trivial (Below.refl _ _) (ye _) (by simp) ?_;(case hd|hg => rfl);(case hr => go_simp <;> rfl);(case hp => exact (Reps.none _ _));intro v328 w5 ho6 hb hg_ hnew_;clear hg_ hnew_;(first|rw [← Ny327.out] at ho6|(simp only [Int.reduceToNat] at ho6;rw [← Ny327.out] at ho6));have HO329:=zh (yy (Kd.R_newB ho6 (g:=gb325) (o:=.cells #[.int .i64 a0_0,.int .i64 a0_1,.string a0_2] 31 (0,0)) (by (with_reducible repeat first|apply ze|apply zf|apply zg);exact BK325.out)) (zB (by repeat (with_reducible first|exact HB.out|apply za|apply zb|apply zc|refine zd ?_ GE325.out|refine zd ?_ GE326.out))));replace BK325:=zh (cD BK325.out (by (with_reducible repeat first|apply ze|apply zf|apply zg);exact BK325.out) hb);replace BK326:=zh (cD BK326.out (by (with_reducible repeat first|apply ze|apply zf|apply zg);exact BK326.out) hb);replace HB:=zh (zC (by repeat (with_reducible first|exact HB.out|apply za|apply zb|apply zc|refine zd ?_ GE325.out|refine zd ?_ GE326.out)) hb);clear hb ho6)))
 go_loopg [5] k (fun kq v5 w' => ∃ (x5_1 : List (S31)) (x327000_1 : ByteArray) (x327001_1 : Bool),Aside0 (Ff.l0 kq x5_1 x327000_1 x327001_1=some (r1,r2))∧Aside0 (kq≤k)∧Aside0 (Kd.R k31 31 w' w.heap.size (fun k_ => k_≠gb325) v5 x5_1)∧Aside0 (w'.heap[gb325]? = some (.cells #[.int .i64 a0_0,.int .i64 a0_1,.string a0_2] 31 (0,0)))∧Aside0 (w'.heap[gb326]? = some (.cells #[.string x327000_1,.bool x327001_1] 87 (0,0)))∧Aside0 (Below w.heap.size w w'))
 case atStart => exact ⟨(y327),(a0_2),(false),H',⟨ye _⟩,⟨by (with_reducible repeat (first|apply zm|apply zn|apply zo));exact zM HO329.out (fun _ hk => hk.2)⟩,⟨by (with_reducible repeat first|apply ze|apply zf|apply zg);exact BK325.out⟩,⟨by (with_reducible repeat first|apply ze|apply zf|apply zg);exact BK326.out⟩,⟨by repeat (with_reducible first|exact HB.out|apply za|apply zb|apply zc|refine zd ?_ GE325.out|refine zd ?_ GE326.out)⟩⟩
 case round =>
  clear H'
  try clear p2
  try clear c5
  try clear hcz3_0 hcz3_1 hcz3_2 hfz3_0 hfz3_1 hfz3_2
  obtain ⟨x5_1,x327000_1,x327001_1,HA,HK1,HO_5,BK325,BK326,HB⟩:=hrel
  cases gk with
  | zero => exact absurd HA.out (by simp [Ff.l0])
  | succ k1 =>
   have H:=HA.out;clear HA;simp only [Ff.l0] at H
   by_cases c7 : x327000_1.toList=([] : List UInt8)
   ·
    rw [if_pos c7] at H
    have c7b0 : (x327000_1.toList == ([] : List UInt8))=true:=ya.mpr c7;have c7b1 : (x327000_1.toList != ([] : List UInt8))=false:=zX.mpr c7;clear c7;simp only [Option.some.injEq,Prod.mk.injEq] at H;obtain ⟨rfl,rfl⟩:=H;have hnb8:=NB326_325.out;have hnc8:=NB325_326.out;obtain ⟨hcz9_0,hcz9_1,hfz9_0,hfz9_1⟩:=cB2 BK326.out
    go_wp2
    repeat (go_quiet (fail);try go_wp2)
    go_ret2
    exact ⟨_,by first|rfl|(simp [yt,yu] <;> rfl)|(simp [*,yt,yu] <;> rfl),by (with_reducible repeat (first|apply zm|apply zn|apply zo));exact zM HO_5.out (fun _ hk => trivial),by repeat (with_reducible first|exact HB.out|apply za|apply zb|apply zc|refine zd ?_ GE325.out|refine zd ?_ GE326.out)⟩
   rw [if_neg c7] at H;have c7b0 : (x327000_1.toList == ([] : List UInt8))=false:=zY.mpr c7;have c7b1 : (x327000_1.toList != ([] : List UInt8))=true:=zZ.mpr c7
   by_cases c10 : x327001_1=true
   ·
    subst c10
    have H1 : (some (x5_1,!true))=some (r1,r2):=by rw [if_pos rfl] at H;exact H
    clear H;have H:=H1;clear H1;simp only [Option.some.injEq,Prod.mk.injEq] at H;obtain ⟨rfl,rfl⟩:=H;have hnb11:=NB326_325.out;have hnc11:=NB325_326.out;obtain ⟨hcz12_0,hcz12_1,hfz12_0,hfz12_1⟩:=cB2 BK326.out
    go_wp2
    repeat (go_quiet (fail);try go_wp2)
    go_ret2
    exact ⟨_,by first|rfl|(simp [yt,yu] <;> rfl)|(simp [*,yt,yu] <;> rfl),by (with_reducible repeat (first|apply zm|apply zn|apply zo));exact zM HO_5.out (fun _ hk => trivial),by repeat (with_reducible first|exact HB.out|apply za|apply zb|apply zc|refine zd ?_ GE325.out|refine zd ?_ GE326.out)⟩
   replace c10:=yb.mpr c10;subst c10;have H1 : ((Fh.f k1 x327000_1 false).bind fun bt330 => (if x5_1.length<4398046511104 then (Ff.l0 k1 (x5_1 ++ [(⟨bt330.1,bt330.2.1,bt330.2.2.1⟩ : S31)]) bt330.2.2.2.1 bt330.2.2.2.2) else (none)))=some (r1,r2):=by rw [if_neg (show ¬ (false=true) by decide)] at H;exact H
   clear H;have H:=H1;clear H1;replace H:=zT.mp H;obtain ⟨⟨t330,t331,t332,t333,t334⟩,A130,H⟩:=H;replace H : (if x5_1.length<4398046511104 then (Ff.l0 k1 (x5_1 ++ [(⟨t330,t331,t332⟩ : S31)]) t333 t334) else (none))=some (r1,r2):=H;have A13:=zh A130;clear A130
   by_cases c14 : x5_1.length<4398046511104
   ·
    rw [if_pos c14] at H
    have LMc14:=zh c14;clear c14;obtain ⟨y335,hy335⟩ : ∃ y_ : List (S31),y_=(x5_1 ++ [(⟨t330,t331,t332⟩ : S31)]):=⟨_,rfl⟩;replace H : (Ff.l0 k1 y335 t333 t334)=some (r1,r2):=by first|(rw [hy335];with_reducible exact H)|(have H2_:=(Option.bind_some _ _).symm.trans H;rw [hy335];with_reducible exact H2_)|(have H2_:=(Option.bind_some _ _).symm.trans H;with_reducible exact H2_)|with_reducible exact H|(rw [hy335];exact H)|exact H
    have Ny335:=zh hy335;clear hy335;have H':=zh H;clear H;have hnb15:=NB326_325.out;have hnc15:=NB325_326.out;obtain ⟨hcz16_0,hcz16_1,hfz16_0,hfz16_1⟩:=cB2 BK326.out;have HI326:=zh (show IsS87 w wr gb326 x327000_1 false from ⟨BK326.out,GE326.out⟩)
    go_wp2_with (first|(go_at_call 64;(with_reducible refine (Fh.calls k1  gb326 x327000_1 false t330 t331 t332 t333 t334 w _ ?side1 ?side2 A13.out).mono ?_);(case side1 => repeat (with_reducible first|exact HI326.out|apply IsS87.alloc|apply IsS87.drewN|apply IsS87.drew|apply IsS87.set_0|apply IsS87.set_1|refine IsS87.far ?_ NB326_325.out _));(case side2 => repeat (with_reducible first|exact HB.out|apply za|apply zb|apply zc|refine zd ?_ (IsS87.ge HI326.out)|refine zd ?_ GE325.out));rintro e w17 ⟨rfl,hi,hb,hk⟩;replace HO_5:=zh (zM (Kd.R_keep (IsS87.apart (show IsS87 w _ gb326 x327000_1 false from by repeat (with_reducible first|exact HI326.out|apply IsS87.alloc|apply IsS87.drewN|apply IsS87.drew|apply IsS87.set_0|apply IsS87.set_1|refine IsS87.far ?_ NB326_325.out _)) (by (with_reducible repeat (first|apply zm|apply zn|apply zo));exact HO_5.out) (by decide)) hk (fun _ h => h.2)) (fun _ h => h.1));replace BK325:=zh (KeepBut.blk hk (g':=gb325) (o:=.cells #[.int .i64 a0_0,.int .i64 a0_1,.string a0_2] 31 (0,0)) (by (with_reducible repeat first|apply ze|apply zf|apply zg);exact BK325.out) NB325_326.out (by simp));replace HB:=zh (hb);replace BK326:=zh ((show _∧_ from hi).1);clear HI326;(try clear hb);(try clear hb2);(try clear hk);(try clear hi))|((with_reducible refine yB (b:=.append) (xs:=#[.tmp 23,.tmp 26]) rfl ?_);at_builtin;refine Kd.R_append k31 (w0:=w) w.heap.size rfl (.tmp 23) (.tmp 26) 63 31 (.agg #[(.int .i64 0),(.int .i64 0),(.string ⟨#[]⟩)]) 32 rfl Tryd.underlying63 info31 rfl (by decide) (by omega) u5 x5_1 (⟨t330,t331,t332⟩ : S31) [.int .i64 t330,.int .i64 t331,.string t332] (fun k_ => k_≠gb325) (fun _ => False) rfl rfl ?aP (fun _ hk => hk.elim) ?aF ?aO ?aB ?aS ?aL ?_;(case aP => exact k31_mkM _ _ _ (⟨t330,t331,t332⟩ : S31));(case aB => exact (by repeat (with_reducible first|exact HB.out|apply za|apply zb|apply zc|refine zd ?_ GE325.out|refine zd ?_ GE326.out)));(case aF => exact (fun k_ hk => Kd.freshB (g:=gb325) (o:=.cells #[.int .i64 a0_0,.int .i64 a0_1,.string a0_2] 31 (0,0)) (by (with_reducible repeat first|apply ze|apply zf|apply zg);exact BK325.out) k_ hk));(case aO => exact (by (with_reducible repeat (first|apply zm|apply zn|apply zo));exact HO_5.out));(case aS => exact (zB (by repeat (with_reducible first|exact HB.out|apply za|apply zb|apply zc|refine zd ?_ GE325.out|refine zd ?_ GE326.out))));(case aL => have:=LMc14.out;omega);intro v336 w18 ho hb hg hat;rw [← Ny335.out] at ho;replace BK325:=zh (yw (g:=gb325) (o:=.cells #[.int .i64 a0_0,.int .i64 a0_1,.string a0_2] 31 (0,0)) (by (with_reducible repeat first|apply ze|apply zf|apply zg);exact BK325.out) hg (yv HO_5.out (fun _ hk => hk)));replace BK326:=zh (yw (g:=gb326) (o:=.cells #[.string t333,.bool t334] 87 (0,0)) (by (with_reducible repeat first|apply ze|apply zf|apply zg);exact BK326.out) hg (Kd.R_ne HO_5.out BK326.out (by decide)));replace HB:=zh (hb);have HO337:=zh (ho);clear HO_5 ho hb hg hat))
    repeat (go_quiet (first|(go_at_call 64;(with_reducible refine (Fh.calls k1  gb326 x327000_1 false t330 t331 t332 t333 t334 w _ ?side1 ?side2 A13.out).mono ?_);(case side1 => repeat (with_reducible first|exact HI326.out|apply IsS87.alloc|apply IsS87.drewN|apply IsS87.drew|apply IsS87.set_0|apply IsS87.set_1|refine IsS87.far ?_ NB326_325.out _));(case side2 => repeat (with_reducible first|exact HB.out|apply za|apply zb|apply zc|refine zd ?_ (IsS87.ge HI326.out)|refine zd ?_ GE325.out));rintro e w17 ⟨rfl,hi,hb,hk⟩;replace HO_5:=zh (zM (Kd.R_keep (IsS87.apart (show IsS87 w _ gb326 x327000_1 false from by repeat (with_reducible first|exact HI326.out|apply IsS87.alloc|apply IsS87.drewN|apply IsS87.drew|apply IsS87.set_0|apply IsS87.set_1|refine IsS87.far ?_ NB326_325.out _)) (by (with_reducible repeat (first|apply zm|apply zn|apply zo));exact HO_5.out) (by decide)) hk (fun _ h => h.2)) (fun _ h => h.1));replace BK325:=zh (KeepBut.blk hk (g':=gb325) (o:=.cells #[.int .i64 a0_0,.int .i64 a0_1,.string a0_2] 31 (0,0)) (by (with_reducible repeat first|apply ze|apply zf|apply zg);exact BK325.out) NB325_326.out (by simp));replace HB:=zh (hb);replace BK326:=zh ((show _∧_ from hi).1);clear HI326;(try clear hb);(try clear hb2);(try clear hk);(try clear hi))|((with_reducible refine yB (b:=.append) (xs:=#[.tmp 23,.tmp 26]) rfl ?_);at_builtin;refine Kd.R_append k31 (w0:=w) w.heap.size rfl (.tmp 23) (.tmp 26) 63 31 (.agg #[(.int .i64 0),(.int .i64 0),(.string ⟨#[]⟩)]) 32 rfl Tryd.underlying63 info31 rfl (by decide) (by omega) u5 x5_1 (⟨t330,t331,t332⟩ : S31) [.int .i64 t330,.int .i64 t331,.string t332] (fun k_ => k_≠gb325) (fun _ => False) rfl rfl ?aP (fun _ hk => hk.elim) ?aF ?aO ?aB ?aS ?aL ?_;(case aP => exact k31_mkM _ _ _ (⟨t330,t331,t332⟩ : S31));(case aB => exact (by repeat (with_reducible first|exact HB.out|apply za|apply zb|apply zc|refine zd ?_ GE325.out|refine zd ?_ GE326.out)));(case aF => exact (fun k_ hk => Kd.freshB (g:=gb325) (o:=.cells #[.int .i64 a0_0,.int .i64 a0_1,.string a0_2] 31 (0,0)) (by (with_reducible repeat first|apply ze|apply zf|apply zg);exact BK325.out) k_ hk));(case aO => exact (by (with_reducible repeat (first|apply zm|apply zn|apply zo));exact HO_5.out));(case aS => exact (zB (by repeat (with_reducible first|exact HB.out|apply za|apply zb|apply zc|refine zd ?_ GE325.out|refine zd ?_ GE326.out))));(case aL => have:=LMc14.out;omega);intro v336 w18 ho hb hg hat;rw [← Ny335.out] at ho;replace BK325:=zh (yw (g:=gb325) (o:=.cells #[.int .i64 a0_0,.int .i64 a0_1,.string a0_2] 31 (0,0)) (by (with_reducible repeat first|apply ze|apply zf|apply zg);exact BK325.out) hg (yv HO_5.out (fun _ hk => hk)));replace BK326:=zh (yw (g:=gb326) (o:=.cells #[.string t333,.bool t334] 87 (0,0)) (by (with_reducible repeat first|apply ze|apply zf|apply zg);exact BK326.out) hg (Kd.R_ne HO_5.out BK326.out (by decide)));replace HB:=zh (hb);have HO337:=zh (ho);clear HO_5 ho hb hg hat));try go_wp2_with (first|(go_at_call 64;(with_reducible refine (Fh.calls k1  gb326 x327000_1 false t330 t331 t332 t333 t334 w _ ?side1 ?side2 A13.out).mono ?_);(case side1 => repeat (with_reducible first|exact HI326.out|apply IsS87.alloc|apply IsS87.drewN|apply IsS87.drew|apply IsS87.set_0|apply IsS87.set_1|refine IsS87.far ?_ NB326_325.out _));(case side2 => repeat (with_reducible first|exact HB.out|apply za|apply zb|apply zc|refine zd ?_ (IsS87.ge HI326.out)|refine zd ?_ GE325.out));rintro e w17 ⟨rfl,hi,hb,hk⟩;replace HO_5:=zh (zM (Kd.R_keep (IsS87.apart (show IsS87 w _ gb326 x327000_1 false from by repeat (with_reducible first|exact HI326.out|apply IsS87.alloc|apply IsS87.drewN|apply IsS87.drew|apply IsS87.set_0|apply IsS87.set_1|refine IsS87.far ?_ NB326_325.out _)) (by (with_reducible repeat (first|apply zm|apply zn|apply zo));exact HO_5.out) (by decide)) hk (fun _ h => h.2)) (fun _ h => h.1));replace BK325:=zh (KeepBut.blk hk (g':=gb325) (o:=.cells #[.int .i64 a0_0,.int .i64 a0_1,.string a0_2] 31 (0,0)) (by (with_reducible repeat first|apply ze|apply zf|apply zg);exact BK325.out) NB325_326.out (by simp));replace HB:=zh (hb);replace BK326:=zh ((show _∧_ from hi).1);clear HI326;(try clear hb);(try clear hb2);(try clear hk);(try clear hi))|((with_reducible refine yB (b:=.append) (xs:=#[.tmp 23,.tmp 26]) rfl ?_);at_builtin;refine Kd.R_append k31 (w0:=w) w.heap.size rfl (.tmp 23) (.tmp 26) 63 31 (.agg #[(.int .i64 0),(.int .i64 0),(.string ⟨#[]⟩)]) 32 rfl Tryd.underlying63 info31 rfl (by decide) (by omega) u5 x5_1 (⟨t330,t331,t332⟩ : S31) [.int .i64 t330,.int .i64 t331,.string t332] (fun k_ => k_≠gb325) (fun _ => False) rfl rfl ?aP (fun _ hk => hk.elim) ?aF ?aO ?aB ?aS ?aL ?_;(case aP => exact k31_mkM _ _ _ (⟨t330,t331,t332⟩ : S31));(case aB => exact (by repeat (with_reducible first|exact HB.out|apply za|apply zb|apply zc|refine zd ?_ GE325.out|refine zd ?_ GE326.out)));(case aF => exact (fun k_ hk => Kd.freshB (g:=gb325) (o:=.cells #[.int .i64 a0_0,.int .i64 a0_1,.string a0_2] 31 (0,0)) (by (with_reducible repeat first|apply ze|apply zf|apply zg);exact BK325.out) k_ hk));(case aO => exact (by (with_reducible repeat (first|apply zm|apply zn|apply zo));exact HO_5.out));(case aS => exact (zB (by repeat (with_reducible first|exact HB.out|apply za|apply zb|apply zc|refine zd ?_ GE325.out|refine zd ?_ GE326.out))));(case aL => have:=LMc14.out;omega);intro v336 w18 ho hb hg hat;rw [← Ny335.out] at ho;replace BK325:=zh (yw (g:=gb325) (o:=.cells #[.int .i64 a0_0,.int .i64 a0_1,.string a0_2] 31 (0,0)) (by (with_reducible repeat first|apply ze|apply zf|apply zg);exact BK325.out) hg (yv HO_5.out (fun _ hk => hk)));replace BK326:=zh (yw (g:=gb326) (o:=.cells #[.string t333,.bool t334] 87 (0,0)) (by (with_reducible repeat first|apply ze|apply zf|apply zg);exact BK326.out) hg (Kd.R_ne HO_5.out BK326.out (by decide)));replace HB:=zh (hb);have HO337:=zh (ho);clear HO_5 ho hb hg hat)))
    go_roundg k1
    case measure => have:=HK1.out;omega
    case rel => exact ⟨(y335),(t333),(t334),H',⟨by have:=HK1.out;omega⟩,⟨by (with_reducible repeat (first|apply zm|apply zn|apply zo));exact HO337.out⟩,⟨by (with_reducible repeat first|apply ze|apply zf|apply zg);exact BK325.out⟩,⟨by (with_reducible repeat first|apply ze|apply zf|apply zg);exact BK326.out⟩,⟨by repeat (with_reducible first|exact HB.out|apply za|apply zb|apply zc|refine zd ?_ GE325.out|refine zd ?_ GE326.out)⟩⟩
   rw [if_neg c14] at H;exact absurd H (by simp)

end Go.Proofs.YthjgfjlogilleabDoor.Q
end
