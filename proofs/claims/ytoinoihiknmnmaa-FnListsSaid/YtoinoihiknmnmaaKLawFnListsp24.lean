/- Texts of this claim, merged by a program of this session. -/
import Derived.Test.YtoinoihiknmnmaaKLawFnListsp23
section
namespace Go.Proofs.Ytoinoihiknmnmaa.Q
open Go.RowKit Go.Proofs.YtoinoihiknmnmaaW.PrintWords Go.Proofs.YtoinoihiknmnmaaW.PrintLast Go.Proofs.YtoinoihiknmnmaaW.PrintMore
attribute [local go_sem] max2_int min2_int max_two min_two max_three min_three max_four min_four max2_str min2_str str_geq str_gtr str_leq
set_option linter.unusedVariables false
set_option linter.unusedSimpArgs false

def Fo.l0 : Nat→List (S25)→ByteArray→Int→Option (Int×Int×ByteArray)
 | 0,_,_,_=>none
 | k+1,x0,x3,x4=>if x4<(x0.length : Int) then (if 0≤x4 then ((F07.f k ((rd_T25 x0 x4).f0) ((rd_T25 x0 x4).f1) ((rd_T25 x0 x4).f2)).bind fun t457=>(if x3.size+t457.size≤9223372036854775807 then (Fo.l0 k x0 (x3++t457) (wrap64 (x4+1))) else (none))) else (none)) else (some (4,0,x3))
def Fo.f (k : Nat) (l0 : List (S25)) : Option (Int×Int×ByteArray):=Fo.l0 k l0 (⟨#[]⟩ : ByteArray) 0
theorem Fo.mono_l : ∀ k,(∀ y0 y1 y2,LeO (Fo.l0 k y0 y1 y2) (Fo.l0 (k+1) y0 y1 y2))
 | 0=>fun _ _ _ r h=>by simp [Fo.l0] at h
 | k+1=>by
  have ih0:=Fo.mono_l k;intro y0 y1 y2;unfold Fo.l0
  repeat' first|(with_reducible first|exact ih0 _ _ _|exact F07.mono _ _ _ _|exact zQ _|exact zN _|refine zP ?_ ?_|refine zO ?_ (fun _=>?_))|refine zP ?_ ?_|refine zO ?_ (fun _=>?_)
theorem Fo.mono : ∀ a0 k,LeO (Fo.f k a0) (Fo.f (k+1) a0):=by
 intro a0 k;have ih0:=Fo.mono_l k;unfold Fo.f
 repeat' first|(with_reducible first|exact ih0 _ _ _|exact F07.mono _ _ _ _|exact zQ _|exact zN _|refine zP ?_ ?_|refine zO ?_ (fun _=>?_))|refine zP ?_ ?_|refine zO ?_ (fun _=>?_)
set_option maxHeartbeats 8000000 in
set_option maxRecDepth 100000 in
theorem Fo.calls (k : Nat) (A0 : Option Addr) (c0 : Nat) (l0 : List (S25)) (r1 : Int) (r2 : Int) (r3 : ByteArray) (w : World) (hr0 : Kd.C k25 w A0 l0.length l0) (hc0 : l0.length≤c0) (h : Fo.f k l0=some (r1,r2,r3)) :
  Calls Try.prog 35 #[.slice A0 l0.length c0] w fun e w' => e = .returned (.agg #[.int .i64 r1,.int .i64 r2,.string r3])∧Below w.heap.size w w':=by
 have hu25:=Try.underlying25;have HR0:=zh hr0;have HC0:=zh hc0;clear hr0 hc0;have HB:=zh (Below.refl w.heap.size w);have H : (Fo.l0 k l0 (⟨#[]⟩ : ByteArray) 0)=some (r1,r2,r3):=h;clear h;have H':=zh H;clear H
 go_enter Try.func35,Try.ntmps35
 go_wp2_with (first|((with_reducible refine zK (N:=2) rfl ?_);refine zI ?hg (N:=2) ?hd (cs:=#[.int .i64 0,.int .i64 0,.string (⟨#[]⟩ : ByteArray)]) (t:=25) ?hr ?_;(case hd=>rfl);(case hg=>rfl);(case hr=>go_simp <;> rfl);intro gb455 hg w2 hbox hb;have BK455:=zh (hbox);have hH_:=cH jG hb hg;have GW455:=zh hH_.1;have GE455:=GW455;replace HB:=zh hH_.2;clear hb hbox hg hH_))
 go_loopg [3,4] k (fun kq v3 v4 w' => ∃ (x3_1 : ByteArray) (x4_1 : Int),v3 = .string x3_1∧v4 = .int .i64 x4_1∧Aside0 (Fo.l0 kq l0 x3_1 x4_1=some (r1,r2,r3))∧Aside0 (kq≤k)∧Aside0 (w'.heap[gb455]? = some (.cells #[.int .i64 0,.int .i64 0,.string (⟨#[]⟩ : ByteArray)] 25 (0,0)))∧Aside0 (Below w.heap.size w w'))
 case atStart=>exact ⟨((⟨#[]⟩ : ByteArray)),(0),jC,jC,H',⟨ye _⟩,⟨jB8⟩,⟨jBe⟩⟩
 case round =>
  clear H'
  try clear p2
  obtain ⟨x3_1,x4_1,rfl,rfl,HA,HK1,BK455,HB⟩:=hrel
  cases gk with
  | zero=>exact absurd HA.out (by simp [Fo.l0])
  | succ k1 =>
   have H:=HA.out;clear HA;simp only [Fo.l0] at H
   by_cases c3 : x4_1<(l0.length : Int)
   ·
    rw [if_pos c3] at H
    have c3b0 : decide (x4_1<(l0.length : Int))=true:=decide_eq_true c3;clear c3
    by_cases c4 : 0≤x4_1
    ·
     rw [if_pos c4] at H
     have c4b0 : decide (0≤x4_1)=true:=decide_eq_true c4;clear c4;replace H:=zT.mp H;obtain ⟨t457,A50,H⟩:=H;have A5:=zh A50;clear A50
     by_cases c6 : x3_1.size+t457.size≤9223372036854775807
     ·
      rw [if_pos c6] at H
      have c6b0:=eq_true c6;have c6b1 : decide (x3_1.size+t457.size≤9223372036854775807)=true:=decide_eq_true c6
      try have c6b2 : (9223372036854775807<x3_1.size+t457.size)=False:=eq_false (Nat.not_lt.2 c6)
      have H':=zh H;clear H;have p456 : 0≤(x4_1 : Int):=zy jE;have q456 : x4_1<(l0.length : Int):=zy jE;obtain ⟨ad456,e456,hx456_0,hx456_1,hx456_2⟩:=at_T25 HR0.out x4_1 p456 q456
      cases e456
      replace hx456_0:=(HB.out.cell (zl w _ hx456_0)).trans hx456_0;replace hx456_1:=(HB.out.cell (zl w _ hx456_1)).trans hx456_1;replace hx456_2:=(HB.out.cell (zl w _ hx456_2)).trans hx456_2;replace p456:=eq_true p456;replace q456:=eq_true q456
      go_wp2_with (first|((with_reducible refine zJ (f:=42) rfl ?_);refine yj (some 16) rfl rfl Try.func42 jA rfl #[.agg #[.int .i64 ((rd_T25 l0 x4_1).f0),.int .i64 ((rd_T25 l0 x4_1).f1),.string ((rd_T25 l0 x4_1).f2)]] rfl jD ?_;(with_reducible refine (F07.calls k1  ((rd_T25 l0 x4_1).f0) ((rd_T25 l0 x4_1).f1) ((rd_T25 l0 x4_1).f2) t457 _ A5.out).mono ?_);rintro e w7 ⟨rfl,hb⟩;refine ⟨_,rfl,?_⟩;replace BK455:=zh (cD BK455.out jB8 hb);replace HB:=zh (zC jBe hb);(try clear hb);(try clear hb2);(try clear hk);(try clear hi)))
      go_roundg k1
      case measure=>have:=HK1.out;omega
      case rel=>exact ⟨(x3_1++t457),(wrap64 (x4_1+1)),jC,jC,H',⟨jZ⟩,⟨jB8⟩,⟨jBe⟩⟩
     rw [if_neg c6] at H;exact absurd H (by simp)
    rw [if_neg c4] at H;exact absurd H (by simp)
   rw [if_neg c3] at H;have c3b0 : decide (x4_1<(l0.length : Int))=false:=decide_eq_false c3;clear c3;simp only [Option.some.injEq,Prod.mk.injEq] at H;obtain ⟨rfl,rfl,rfl⟩:=H;obtain ⟨hcz8_0,hcz8_1,hcz8_2,hfz8_0,hfz8_1,hfz8_2⟩:=cB3 BK455.out
   go_wp2
   refine bodyPost_ret (results_cell_row rfl _ _ gb455 25 #[.int .i64 4,.int .i64 0,.string x3_1] (0,0) _ rfl (by (with_reducible repeat first|apply ze|apply zf|apply zg);refine zL (cs:=#[.int .i64 4,.int .i64 0,.string (⟨#[]⟩ : ByteArray)]) ?_ 2 _ rfl;(with_reducible repeat first|apply ze|apply zf|apply zg);refine zL (cs:=#[.int .i64 4,.int .i64 0,.string (⟨#[]⟩ : ByteArray)]) ?_ 1 _ rfl;(with_reducible repeat first|apply ze|apply zf|apply zg);refine zL (cs:=#[.int .i64 0,.int .i64 0,.string (⟨#[]⟩ : ByteArray)]) ?_ 0 _ rfl;(with_reducible repeat first|apply ze|apply zf|apply zg);exact BK455.out) Try.underlying25 rfl jA) rfl ?_;exact ⟨jF,jBe⟩


def F0e.f (a0 : Int) : Option (Int×Int×ByteArray):=some (2,a0,(⟨#[]⟩ : ByteArray))
set_option maxHeartbeats 8000000 in
set_option maxRecDepth 100000 in
theorem F0e.calls (a0 : Int) (r1 : Int) (r2 : Int) (r3 : ByteArray) (w : World) (h : F0e.f a0=some (r1,r2,r3)) :
  Calls Try.prog 53 #[.int .i64 a0] w fun e w' => e = .returned (.agg #[.int .i64 r1,.int .i64 r2,.string r3])∧Below w.heap.size w w':=by
 have hu25:=Try.underlying25;have HB:=zh (Below.refl w.heap.size w);have H : (some (2,a0,(⟨#[]⟩ : ByteArray)))=some (r1,r2,r3):=h;clear h;simp only [Option.some.injEq,Prod.mk.injEq] at H;obtain ⟨rfl,rfl,rfl⟩:=H
 go_enter Try.func53,Try.ntmps53
 go_wp2_with (first|((with_reducible refine zK (N:=2) rfl ?_);refine zI ?hg (N:=2) ?hd (cs:=#[.int .i64 0,.int .i64 0,.string (⟨#[]⟩ : ByteArray)]) (t:=25) ?hr ?_;(case hd=>rfl);(case hg=>rfl);(case hr=>go_simp <;> rfl);intro gb472 hg w2 hbox hb;have BK472:=zh (hbox);have hH_:=cH jG hb hg;have GW472:=zh hH_.1;have GE472:=GW472;replace HB:=zh hH_.2;clear hb hbox hg hH_;obtain ⟨hcz3_0,hcz3_1,hcz3_2,hfz3_0,hfz3_1,hfz3_2⟩:=cB3 BK472.out))
 refine bodyPost_ret (results_cell_row rfl _ _ gb472 25 #[.int .i64 2,.int .i64 a0,.string (⟨#[]⟩ : ByteArray)] (0,0) _ rfl (by (with_reducible repeat first|apply ze|apply zf|apply zg);refine zL (cs:=#[.int .i64 2,.int .i64 a0,.string (⟨#[]⟩ : ByteArray)]) ?_ 2 _ rfl;(with_reducible repeat first|apply ze|apply zf|apply zg);refine zL (cs:=#[.int .i64 2,.int .i64 0,.string (⟨#[]⟩ : ByteArray)]) ?_ 1 _ rfl;(with_reducible repeat first|apply ze|apply zf|apply zg);refine zL (cs:=#[.int .i64 0,.int .i64 0,.string (⟨#[]⟩ : ByteArray)]) ?_ 0 _ rfl;(with_reducible repeat first|apply ze|apply zf|apply zg);exact BK472.out) Try.underlying25 rfl jA) rfl ?_;exact ⟨jF,by repeat (with_reducible first|exact HB.out|apply za|apply zb|apply zc|refine zd ?_ GE472.out)⟩


def F0r.f (a0 : ByteArray) : Option (Int×Int×ByteArray):=some (3,0,a0)
set_option maxHeartbeats 8000000 in
set_option maxRecDepth 100000 in
theorem F0r.calls (a0 : ByteArray) (r1 : Int) (r2 : Int) (r3 : ByteArray) (w : World) (h : F0r.f a0=some (r1,r2,r3)) :
  Calls Try.prog 54 #[.string a0] w fun e w' => e = .returned (.agg #[.int .i64 r1,.int .i64 r2,.string r3])∧Below w.heap.size w w':=by
 have hu25:=Try.underlying25;have HB:=zh (Below.refl w.heap.size w);have H : (some (3,0,a0))=some (r1,r2,r3):=h;clear h;simp only [Option.some.injEq,Prod.mk.injEq] at H;obtain ⟨rfl,rfl,rfl⟩:=H
 go_enter Try.func54,Try.ntmps54
 go_wp2_with (first|((with_reducible refine zK (N:=2) rfl ?_);refine zI ?hg (N:=2) ?hd (cs:=#[.int .i64 0,.int .i64 0,.string (⟨#[]⟩ : ByteArray)]) (t:=25) ?hr ?_;(case hd=>rfl);(case hg=>rfl);(case hr=>go_simp <;> rfl);intro gb473 hg w2 hbox hb;have BK473:=zh (hbox);have hH_:=cH jG hb hg;have GW473:=zh hH_.1;have GE473:=GW473;replace HB:=zh hH_.2;clear hb hbox hg hH_;obtain ⟨hcz3_0,hcz3_1,hcz3_2,hfz3_0,hfz3_1,hfz3_2⟩:=cB3 BK473.out))
 refine bodyPost_ret (results_cell_row rfl _ _ gb473 25 #[.int .i64 3,.int .i64 0,.string a0] (0,0) _ rfl (by (with_reducible repeat first|apply ze|apply zf|apply zg);refine zL (cs:=#[.int .i64 3,.int .i64 0,.string (⟨#[]⟩ : ByteArray)]) ?_ 2 _ rfl;(with_reducible repeat first|apply ze|apply zf|apply zg);refine zL (cs:=#[.int .i64 3,.int .i64 0,.string (⟨#[]⟩ : ByteArray)]) ?_ 1 _ rfl;(with_reducible repeat first|apply ze|apply zf|apply zg);refine zL (cs:=#[.int .i64 0,.int .i64 0,.string (⟨#[]⟩ : ByteArray)]) ?_ 0 _ rfl;(with_reducible repeat first|apply ze|apply zf|apply zg);exact BK473.out) Try.underlying25 rfl jA) rfl ?_;exact ⟨jF,by repeat (with_reducible first|exact HB.out|apply za|apply zb|apply zc|refine zd ?_ GE473.out)⟩


def F0q.f (s0_0 : List Int) (s0_1 : Int) (s0_2 : Int) (l1 : List ByteArray) : Option (ByteArray×Int×Int):=if (l1.length : Int)=0 then (some ((⟨#[]⟩ : ByteArray),s0_1,s0_2)) else ((F04.f s0_0 s0_1 s0_2 (l1.length : Int)).bind fun bt474=>(if 0≤bt474.1 then (if bt474.1<(l1.length : Int) then (some (rdOf ByteArray.empty l1 bt474.1,bt474.2.1,bt474.2.2)) else (none)) else (none)))
set_option maxHeartbeats 8000000 in
set_option maxRecDepth 100000 in
theorem F0q.calls (g : Nat) (s0_0 : List Int) (s0_1 : Int) (s0_2 : Int) (A1 : Option Addr) (c1 : Nat) (l1 : List ByteArray) (r1 : ByteArray) (r2 : Int) (r3 : Int) (w0 w : World) (hI : IsS81 w0 w g s0_0 s0_1 s0_2) (hB : Below w0.heap.size w0 w) (hr1 : Kd.C Kd.string w A1 l1.length l1) (hc1 : l1.length≤c1) (hf1 : ∀ ad,A1=some ad→0<l1.length→ad.block≠g) (h : F0q.f s0_0 s0_1 s0_2 l1=some (r1,r2,r3)) :
  Calls Try.prog 55 #[.pointer (some ⟨g,0,none⟩),.slice A1 l1.length c1] w fun e w' => e = .returned (.string r1)∧IsS81 w0 w' g s0_0 r2 r3∧Below w0.heap.size w0 w' ∧ KeepBut w w' g none:=by
 have HR1:=zh hr1;have HC1:=zh hc1;clear hr1 hc1;have HI0:=zh hI;have HK:=zh (KeepBut.refl w g none);have HL:=zh hB.size;clear hI;have HW0:=zh hB.size;have HB:=zh hB;clear hB;have H : (if (l1.length : Int)=0 then (some ((⟨#[]⟩ : ByteArray),s0_1,s0_2)) else ((F04.f s0_0 s0_1 s0_2 (l1.length : Int)).bind fun bt474=>(if 0≤bt474.1 then (if bt474.1<(l1.length : Int) then (some (rdOf ByteArray.empty l1 bt474.1,bt474.2.1,bt474.2.2)) else (none)) else (none))))=some (r1,r2,r3):=h;clear h
 by_cases c3 : (l1.length : Int)=0
 ·
  rw [if_pos c3] at H
  have c3b0 : ((l1.length : Int) == 0)=true:=ya.mpr c3;have c3b1 : ((l1.length : Int) != 0)=false:=zX.mpr c3;clear c3;simp only [Option.some.injEq,Prod.mk.injEq] at H;obtain ⟨rfl,rfl,rfl⟩:=H
  go_enter Try.func55,Try.ntmps55
  go_wp2
  go_ret
  exact ⟨jF,jv,jw,jT⟩
 rw [if_neg c3] at H;have c3b0 : ((l1.length : Int) == 0)=false:=zY.mpr c3;have c3b1 : ((l1.length : Int) != 0)=true:=zZ.mpr c3;have c3b2 : ¬ (l1=[]):=fun h_=>c3 (by rw [h_];rfl);replace H:=zT.mp H;obtain ⟨⟨t474,t475,t476⟩,A40,H⟩:=H;have A4:=zh A40;clear A40
 by_cases c5 : 0≤t474
 ·
  rw [if_pos c5] at H
  have c5b0 : decide (0≤t474)=true:=decide_eq_true c5;clear c5
  by_cases c6 : t474<(l1.length : Int)
  ·
   rw [if_pos c6] at H
   have c6b0 : decide (t474<(l1.length : Int))=true:=decide_eq_true c6;clear c6;simp only [Option.some.injEq,Prod.mk.injEq] at H;obtain ⟨rfl,rfl,rfl⟩:=H
   go_enter Try.func55,Try.ntmps55
   go_wp2_with (first|((with_reducible refine zJ (f:=52) rfl ?_);refine yj (some 12) rfl rfl Try.func52 jA rfl #[.pointer (some ⟨g,0,none⟩),.int .i64 (l1.length : Int)] rfl jD ?_;(with_reducible refine (F04.calls  g s0_0 s0_1 s0_2 (l1.length : Int) t474 t475 t476 w0 _ ?side1 ?side2 A4.out).mono ?_);(case side1=>repeat (with_reducible first|exact HI0.out|apply IsS81.alloc|apply IsS81.drewN|apply IsS81.drew|apply IsS81.set_1|apply IsS81.set_2));(case side2=>repeat (with_reducible first|exact HB.out|apply za|apply zb|apply zc|refine zd ?_ (IsS81.ge HI0.out)));rintro e w7 ⟨rfl,hi,hb,hk⟩;refine ⟨_,rfl,?_⟩;replace HK:=zh (KeepBut.trans jT hk (.inl rfl));replace HB:=zh (hb);replace HI0:=zh (hi);(try clear hb);(try clear hb2);(try clear hk);(try clear hi);have p477 : 0≤(t474 : Int):=zy jE;have q477 : t474<(l1.length : Int):=zy jE;obtain ⟨ad477,e477,hx477_0⟩:=Kd.at_string HR1.out t474 p477 q477;cases e477;replace hx477_0:=keep_cell HK.out hx477_0 (by first|(rw [zF];exact hf1 _ rfl jH)|exact hf1 _ rfl jH|exact hf1 ad477 rfl jH);replace p477:=eq_true p477;replace q477:=eq_true q477))
   go_ret
   exact ⟨jF,jv,jw,jT⟩
  rw [if_neg c6] at H;exact absurd H (by simp)
 rw [if_neg c5] at H;exact absurd H (by simp)

end Go.Proofs.Ytoinoihiknmnmaa.Q
end
section
namespace Go.Proofs.Ytoinoihiknmnmaa.Q
open Go.RowKit Go.Proofs.YtoinoihiknmnmaaW.PrintWords Go.Proofs.YtoinoihiknmnmaaW.PrintLast Go.Proofs.YtoinoihiknmnmaaW.PrintMore
attribute [local go_sem] max2_int min2_int max_two min_two max_three min_three max_four min_four max2_str min2_str str_geq str_gtr str_leq   -- for this text's walks alone
set_option linter.unusedVariables false
set_option linter.unusedSimpArgs false

structure DrawV where
 f : Nat→List Int→Int→Int→Int→Option (Int×Int×ByteArray×Int×Int)
 mono : ∀ a0 a1 a2 a3 k,LeO (f k a0 a1 a2 a3) (f (k+1) a0 a1 a2 a3)
 calls : ∀ (k : Nat) (g : Nat) (s0_0 : List Int) (s0_1 : Int) (s0_2 : Int) (a1 : Int) (r1 : Int) (r2 : Int) (r3 : ByteArray) (r4 : Int) (r5 : Int) (w0 w : World) (hI : IsS81 w0 w g s0_0 s0_1 s0_2) (hB : Below w0.heap.size w0 w) (h : f k s0_0 s0_1 s0_2 a1=some (r1,r2,r3,r4,r5)),
  Calls Try.prog 32 #[.pointer (some ⟨g,0,none⟩),.int .i64 a1] w fun e w' => e = .returned (.agg #[.int .i64 r1,.int .i64 r2,.string r3])∧IsS81 w0 w' g s0_0 r4 r5∧Below w0.heap.size w0 w' ∧ KeepBut w w' g none
structure DrawD where
 f : Nat→List Int→Int→Int→Int→Option (Int×Int×ByteArray×Int×Int)
 mono : ∀ a0 a1 a2 a3 k,LeO (f k a0 a1 a2 a3) (f (k+1) a0 a1 a2 a3)
 calls : ∀ (k : Nat) (g : Nat) (s0_0 : List Int) (s0_1 : Int) (s0_2 : Int) (a1 : Int) (r1 : Int) (r2 : Int) (r3 : ByteArray) (r4 : Int) (r5 : Int) (w0 w : World) (hI : IsS81 w0 w g s0_0 s0_1 s0_2) (hB : Below w0.heap.size w0 w) (h : f k s0_0 s0_1 s0_2 a1=some (r1,r2,r3,r4,r5)),
  Calls Try.prog 56 #[.pointer (some ⟨g,0,none⟩),.int .i64 a1] w fun e w' => e = .returned (.agg #[.int .i64 r1,.int .i64 r2,.string r3])∧IsS81 w0 w' g s0_0 r4 r5∧Below w0.heap.size w0 w' ∧ KeepBut w w' g none
def Fh.l0 (V : DrawV) : Nat→Int→List (S43)→Int→List Int→Int→Int→Option (Int×Int×ByteArray×Int×Int)
 | 0,_,_,_,_,_,_=>none
 | k+1,x1,x5,x6,x1000,x1001,x1002=>if x6<4 then ((F0u.f x1000 x1001 x1002 2).bind fun bt485=>(if bt485.1=true then ((some (([(⟨#[97]⟩ : ByteArray),(⟨#[98]⟩ : ByteArray),(⟨#[99]⟩ : ByteArray),(⟨#[116,97,103,115]⟩ : ByteArray)] : List ByteArray) : List ByteArray)).bind fun y488=>(if 0≤x6 then (if x6<(y488.length : Int) then ((V.f k x1000 bt485.2.1 bt485.2.2 x1).bind fun bt492=>(if x5.length<2932031007402 then (Fh.l0 V k x1 (x5 ++ [(⟨rdOf ByteArray.empty y488 x6,(⟨bt492.1,bt492.2.1,bt492.2.2.1⟩ : S25)⟩ : S43)]) (wrap64 (x6+1)) x1000 bt492.2.2.2.1 bt492.2.2.2.2) else (none))) else (none)) else (none))) else (Fh.l0 V k x1 x5 (wrap64 (x6+1)) x1000 bt485.2.1 bt485.2.2))) else ((Fa.f k x5).bind fun bt500=>((Fr.f k bt500.1 bt500.2.1 bt500.2.2).bind fun t504=>(if t504=true then (some (bt500.1,bt500.2.1,bt500.2.2,x1001,x1002)) else ((Fa.f k (([] : List (S43)))).bind fun bt508=>(some (bt508.1,bt508.2.1,bt508.2.2,x1001,x1002))))))
def Fh.f (V : DrawV) (k : Nat) (s0_0 : List Int) (s0_1 : Int) (s0_2 : Int) (a1 : Int) : Option (Int×Int×ByteArray×Int×Int):=Fh.l0 V k a1 (([] : List (S43))) 0 s0_0 s0_1 s0_2
theorem Fh.mono_l (V : DrawV) : ∀ k,(∀ y0 y1 y2 y3 y4 y5,LeO (Fh.l0 V k y0 y1 y2 y3 y4 y5) (Fh.l0 V (k+1) y0 y1 y2 y3 y4 y5))
 | 0=>fun _ _ _ _ _ _ r h=>by simp [Fh.l0] at h
 | k+1=>by
  have ih0:=Fh.mono_l V k;intro y0 y1 y2 y3 y4 y5;unfold Fh.l0
  repeat' first|(with_reducible first|exact ih0 _ _ _ _ _ _|exact Fr.mono _ _ _ _|exact Fa.mono _ _|exact V.mono _ _ _ _ _|exact zQ _|exact zN _|refine zP ?_ ?_|refine zO ?_ (fun _=>?_))|refine zP ?_ ?_|refine zO ?_ (fun _=>?_)
theorem Fh.mono (V : DrawV) : ∀ a0 a1 a2 a3 k,LeO (Fh.f V k a0 a1 a2 a3) (Fh.f V (k+1) a0 a1 a2 a3):=by
 intro a0 a1 a2 a3 k;have ih0:=Fh.mono_l V k;unfold Fh.f
 repeat' first|(with_reducible first|exact ih0 _ _ _ _ _ _|exact Fr.mono _ _ _ _|exact Fa.mono _ _|exact V.mono _ _ _ _ _|exact zQ _|exact zN _|refine zP ?_ ?_|refine zO ?_ (fun _=>?_))|refine zP ?_ ?_|refine zO ?_ (fun _=>?_)
def Fh.T6 : Bool×List (List Nat×List Nat):=(true,[([],[]),([],[]),([],[]),([1,2],[1,2]),([3],[3]),([],[]),([],[]),([5,6],[5,6]),([4,7],[4,7]),([8],[8]),([0,9,7],[0,9]),([10,10,0,1,2,3,4,5,6,7,8,9,10],[0,10])])
def Fh.B6 : List Nat:=[0,0,0,6,14,0,0,96,254,510,1023,2047]
theorem Fh.tab6 : rtab .any (opsOf Try.f56 6)=Fh.T6:=by kernel_rfl
theorem Fh.bits6 : waitsOk Fh.T6.2 Fh.B6=true:=by kernel_rfl
set_option maxHeartbeats 8000000 in
set_option maxRecDepth 100000 in
theorem Fh.calls (V : DrawV) (k : Nat) (g : Nat) (s0_0 : List Int) (s0_1 : Int) (s0_2 : Int) (a1 : Int) (r1 : Int) (r2 : Int) (r3 : ByteArray) (r4 : Int) (r5 : Int) (w0 w : World) (hI : IsS81 w0 w g s0_0 s0_1 s0_2) (hB : Below w0.heap.size w0 w) (h : Fh.f V k s0_0 s0_1 s0_2 a1=some (r1,r2,r3,r4,r5)) :
  Calls Try.prog 56 #[.pointer (some ⟨g,0,none⟩),.int .i64 a1] w fun e w' => e = .returned (.agg #[.int .i64 r1,.int .i64 r2,.string r3])∧IsS81 w0 w' g s0_0 r4 r5∧Below w0.heap.size w0 w' ∧ KeepBut w w' g none:=by
 have hu25:=Try.underlying25;have hu43:=Try.underlying43;have HI0:=zh hI;have HK:=zh (KeepBut.refl w g none);have HL:=zh hB.size;clear hI;have HW0:=zh hB.size;have HB:=zh hB;clear hB;have H : (Fh.l0 V k a1 (([] : List (S43))) 0 s0_0 s0_1 s0_2)=some (r1,r2,r3,r4,r5):=h;clear h;obtain ⟨y482,hy482⟩ : ∃ y_ : List (S43),y_=(([] : List (S43))):=⟨_,rfl⟩;replace H : (Fh.l0 V k a1 y482 0 s0_0 s0_1 s0_2)=some (r1,r2,r3,r4,r5):=by first|(rw [hy482];with_reducible exact H)|(have H2_:=(Option.bind_some _ _).symm.trans H;rw [hy482];with_reducible exact H2_)|(have H2_:=(Option.bind_some _ _).symm.trans H;with_reducible exact H2_)|with_reducible exact H|(rw [hy482];exact H)|exact H
 have Ny482:=zh hy482;clear hy482;have H':=zh H;clear H
 go_enter Try.func56,Try.ntmps56
 go_wp2_with (first|((with_reducible refine zK (N:=4) rfl ?_);refine zI ?hg (N:=4) ?hd (cs:=#[.int .i64 0,.int .i64 0,.string (⟨#[]⟩ : ByteArray)]) (t:=25) ?hr ?_;(case hd=>rfl);(case hg=>rfl);(case hr=>go_simp <;> rfl);intro gb481 hg w3 hbox hb;replace HB:=zh (zC jw hb);have BK481:=zh (hbox);have GW481:=zh ((jAY : w.heap.size≤gb481));have GE481:=zh ((Nat.le_trans HW0.out (jAY : w.heap.size≤gb481) : w0.heap.size≤gb481));replace HK:=zh (KeepBut.trans jT (KeepBut.of_below hb g none) (.inl rfl));have NB0_481:=zh ((jCq : g≠gb481));have NB481_0:=zh ((jCr : gb481≠g));replace HI0:=zh (IsS81.below jv hb);clear hb hbox hg)|((with_reducible refine zK (N:=8) rfl ?_);refine Kd.R_lit k43 _ 43 ?hg (N:=8) ?hd (xs:=([] : List (S43))) (inner:=[]) (ok:=fun _=>True) (okp:=fun _=>True) ?hr ?hp (fun _ hk=>hk) trivial (Below.refl _ _) (ye _) (by simp) ?_;(case hd=>rfl);(case hg=>rfl);(case hr=>go_simp <;> rfl);(case hp=>exact (Reps.none _ _));intro v483 w4 ho5 hb hg_ hnew_;clear hg_ hnew_;(first|rw [← Ny482.out] at ho5|(simp only [Int.reduceToNat] at ho5;rw [← Ny482.out] at ho5));have HO484:=zh (yy ho5 (keep_size (w:=w) (g:=g) (row:=none) jJ));replace BK481:=zh (cD BK481.out jL hb);replace HK:=zh (KeepBut.trans jJ (KeepBut.of_below hb g none) (.inl rfl));replace HB:=zh (zC jO hb);replace HI0:=zh (IsS81.below jP hb);clear hb ho5))
 go_loopg [5,6] k (fun kq v5 v6 w' => ∃ (x5_1 : List (S43)) (x6_1 : Int) (x1001_1 : Int) (x1002_1 : Int),v6 = .int .i64 x6_1∧Aside0 (Fh.l0 V kq a1 x5_1 x6_1 s0_0 x1001_1 x1002_1=some (r1,r2,r3,r4,r5))∧Aside0 (kq≤k)∧Aside0 (Kd.R k43 43 w' w.heap.size (fun _=>True) v5 x5_1)∧Aside0 (w'.heap[gb481]? = some (.cells #[.int .i64 0,.int .i64 0,.string (⟨#[]⟩ : ByteArray)] 25 (0,0)))∧Aside0 (IsS81 w0 w' g s0_0 x1001_1 x1002_1)∧Aside0 (KeepBut w w' g none)∧Aside0 (Below w0.heap.size w0 w'))
 case atStart=>exact ⟨(y482),(0),(s0_1),(s0_2),jC,H',⟨ye _⟩,⟨by (with_reducible repeat (first|apply zm|apply zn|apply zo));exact HO484.out⟩,⟨jL⟩,⟨jP⟩,⟨jJ⟩,⟨jO⟩⟩
 case round =>
  clear H'
  try clear p2
  try clear c5
  obtain ⟨x5_1,x6_1,x1001_1,x1002_1,rfl,HA,HK1,HO_5,BK481,HI0,HK,HB⟩:=hrel
  cases gk with
  | zero=>exact absurd HA.out (by simp [Fh.l0])
  | succ k1 =>
   have H:=HA.out;clear HA;simp only [Fh.l0] at H
   by_cases c6 : x6_1<4
   ·
    rw [if_pos c6] at H
    have c6b0 : decide (x6_1<4)=true:=decide_eq_true c6;clear c6;replace H:=zT.mp H;obtain ⟨⟨t485,t486,t487⟩,A70,H⟩:=H;have A7:=zh A70;clear A70
    by_cases c8 : t485=true
    ·
     subst c8
     rw [if_pos rfl] at H;obtain ⟨y488,hy488⟩ : ∃ y_ : List ByteArray,y_=(([(⟨#[97]⟩ : ByteArray),(⟨#[98]⟩ : ByteArray),(⟨#[99]⟩ : ByteArray),(⟨#[116,97,103,115]⟩ : ByteArray)] : List ByteArray)):=⟨_,rfl⟩;replace H : (if 0≤x6_1 then (if x6_1<(y488.length : Int) then ((V.f k1 s0_0 t486 t487 a1).bind fun bt492=>(if x5_1.length<2932031007402 then (Fh.l0 V k1 a1 (x5_1 ++ [(⟨rdOf ByteArray.empty y488 x6_1,(⟨bt492.1,bt492.2.1,bt492.2.2.1⟩ : S25)⟩ : S43)]) (wrap64 (x6_1+1)) s0_0 bt492.2.2.2.1 bt492.2.2.2.2) else (none))) else (none)) else (none))=some (r1,r2,r3,r4,r5):=by first|(rw [hy488];with_reducible exact H)|(have H2_:=(Option.bind_some _ _).symm.trans H;rw [hy488];with_reducible exact H2_)|(have H2_:=(Option.bind_some _ _).symm.trans H;with_reducible exact H2_)|with_reducible exact H|(rw [hy488];exact H)|exact H
     have Ny488:=zh hy488;clear hy488
     by_cases c9 : 0≤x6_1
     ·
      rw [if_pos c9] at H
      have c9b0 : decide (0≤x6_1)=true:=decide_eq_true c9;clear c9
      by_cases c10 : x6_1<(y488.length : Int)
      ·
       rw [if_pos c10] at H
       have c10b0 : decide (x6_1<(y488.length : Int))=true:=decide_eq_true c10;clear c10;replace H:=zT.mp H;obtain ⟨⟨t492,t493,t494,t495,t496⟩,A110,H⟩:=H;have A11:=zh A110;clear A110
       by_cases c12 : x5_1.length<2932031007402
       ·
        rw [if_pos c12] at H
        have LMc12:=zh c12;clear c12;obtain ⟨y497,hy497⟩ : ∃ y_ : List (S43),y_=(x5_1 ++ [(⟨rdOf ByteArray.empty y488 x6_1,(⟨t492,t493,t494⟩ : S25)⟩ : S43)]):=⟨_,rfl⟩;replace H : (Fh.l0 V k1 a1 y497 (wrap64 (x6_1+1)) s0_0 t495 t496)=some (r1,r2,r3,r4,r5):=by first|(rw [hy497];with_reducible exact H)|(have H2_:=(Option.bind_some _ _).symm.trans H;rw [hy497];with_reducible exact H2_)|(have H2_:=(Option.bind_some _ _).symm.trans H;with_reducible exact H2_)|with_reducible exact H|(rw [hy497];exact H)|exact H
        have Ny497:=zh hy497;clear hy497;have H':=zh H;clear H
        try go_wp2_with (first|((with_reducible refine zJ (f:=77) rfl ?_);refine yj (some 14) rfl rfl Try.func77 jA rfl #[.pointer (some ⟨g,0,none⟩),.int .i64 2] rfl jD ?_;(with_reducible refine (F0u.calls  g s0_0 x1001_1 x1002_1 2 true t486 t487 w0 _ ?side1 ?side2 A7.out).mono ?_);(case side1=>repeat (with_reducible first|exact HI0.out|apply IsS81.alloc|apply IsS81.drewN|apply IsS81.drew|apply IsS81.set_1|apply IsS81.set_2|refine IsS81.far ?_ NB0_481.out _));(case side2=>repeat (with_reducible first|exact HB.out|apply za|apply zb|apply zc|refine zd ?_ (IsS81.ge HI0.out)|refine zd ?_ GE481.out));rintro e w13 ⟨rfl,hi,hb,hk⟩;refine ⟨_,rfl,?_⟩;replace HO_5:=zh (zM (Kd.R_keep (IsS81.apart (show IsS81 w0 _ g s0_0 x1001_1 x1002_1 from by repeat (with_reducible first|exact HI0.out|apply IsS81.alloc|apply IsS81.drewN|apply IsS81.drew|apply IsS81.set_1|apply IsS81.set_2|refine IsS81.far ?_ NB0_481.out _)) jI jB) hk (fun _ h=>h.2)) (fun _ h=>h.1));replace BK481:=zh (KeepBut.blk hk (g':=gb481) (o:=.cells #[.int .i64 0,.int .i64 0,.string (⟨#[]⟩ : ByteArray)] 25 (0,0)) jL NB481_0.out (by simp));replace HK:=zh (KeepBut.trans jJ hk (.inl rfl));replace HB:=zh (hb);replace HI0:=zh (hi);(try clear hb);(try clear hb2);(try clear hk);(try clear hi);obtain ⟨Ao14,co14,eo14⟩:=yk HO_5.out;subst eo14))
        have pi491 : (0≤(x6_1 : Int))=True:=eq_true (zy jE);have qi491 : (x6_1<(y488.length : Int))=True:=eq_true (zy jE);replace HO_5:=zh (zo HO_5.out);replace BK481:=zh (zf BK481.out);replace HI0:=zh (IsS81.drew HI0.out);replace HK:=zh (yx HK.out);replace HB:=zh (zc HB.out);refine start_ (n:=12) (S:=fun w' => True) (ds:=[]) (bm_ 0 12) jA rfl rfl trivial (fun hHeld=>?_);refine with_tabW Fh.tab6 Fh.bits6 (fun HT_ HW_=>?_);generalize w13.drew=w15 at HO_5 BK481 HI0 HK HB hHeld ⊢;refine pure_ (i:=0) (N:=some 15) (v:=?_) (a':=?_) (bm_ 1 12) rfl rfl (any_of HT_.out jA) (fun _ _ _ h=>h) (Or.inl ⟨by rfl,?_⟩) ?_ ?_;rotate_left;exact jb;rotate_left;exact jc
        refine pure_ (i:=2) (N:=some 17) (v:=?_) (a':=?_) #[true,false,true,false,false,false,false,false,false,false,false,false] rfl rfl (any_of HT_.out jA) (fun _ _ _ h=>h) (Or.inl ⟨by rfl,?_⟩) ?_ ?_;rotate_left;exact jb;rotate_left;exact jc
        refine pure_ (i:=5) (N:=some 20) (v:=?_) (a':=?_) #[true,false,true,false,false,true,false,false,false,false,false,false] rfl rfl (any_of HT_.out jA) (fun _ _ _ h=>h) (Or.inl ⟨by rfl,?_⟩) ?_ ?_;rotate_left;exact jb;rotate_left;exact jc
        refine pure_ (i:=6) (N:=some 21) (v:=?_) (a':=?_) #[true,false,true,false,false,true,true,false,false,false,false,false] rfl rfl (any_of HT_.out jA) (fun _ _ _ h=>h) (Or.inl ⟨by rfl,?_⟩) ?_ ?_;rotate_left;exact jb;rotate_left;exact jc
        refine join_ (σ:=Value×Addr) 4 (bm_ 8 12) (fun s_ => [(16,s_.1),(19,.string (rdOf ByteArray.empty y488 x6_1)),(22,.agg #[.int .i64 t492,.int .i64 t493,.string t494]),(18,.pointer (some (s_.2.add (x6_1).toNat)))]) (fun s_ w' => (Kd.R Kd.string 9 w' w.heap.size (fun _=>True) s_.1 y488)∧(Kd.R k43 43 w' w.heap.size (fun _=>True) (.slice Ao14 x5_1.length co14) x5_1)∧(∃ c_,(s_.1 : Value) = .slice (some s_.2) y488.length c_)∧(w'.heap[gb481]? = some (.cells #[.int .i64 0,.int .i64 0,.string (⟨#[]⟩ : ByteArray)] 25 (0,0)))∧(IsS81 w0 w' g s0_0 t495 t496)∧(KeepBut w w' g none)∧(Below w0.heap.size w0 w')) ?_ ?_;rotate_left
        ·
         intro hCont
         refine two_ (i:=1) (j:=7) (Ni:=some 16) (Nj:=some 22) #[true,true,true,false,false,true,true,false,false,false,false,false] #[true,false,true,false,false,true,true,true,false,false,false,false] rfl rfl rfl rfl (two_of HT_.out jA) jB jB (fun K hK=>?_) (fun K hK=>?_)
         ·
          skip
          refine Kd.R_lit_step Kd.string _ 9 ?hg (N:=16) ?hd (xs:=([(⟨#[97]⟩ : ByteArray),(⟨#[98]⟩ : ByteArray),(⟨#[99]⟩ : ByteArray),(⟨#[116,97,103,115]⟩ : ByteArray)] : List ByteArray)) (inner:=[.string (⟨#[97]⟩ : ByteArray),.string (⟨#[98]⟩ : ByteArray),.string (⟨#[99]⟩ : ByteArray),.string (⟨#[116,97,103,115]⟩ : ByteArray)]) (ok:=fun _=>True) (okp:=fun _=>True) ?hr ?hp (fun _ hk=>hk) trivial (Below.refl _ _) (ye _) (by simp) ?_;(case hd=>rfl);(case hg=>rfl);(case hr=>go_simp <;> rfl);(case hp=>exact (Reps.one (show Kd.M Kd.string _ _ _ (⟨#[97]⟩ : ByteArray) [.string (⟨#[97]⟩ : ByteArray)] from rfl) (Reps.one (show Kd.M Kd.string _ _ _ (⟨#[98]⟩ : ByteArray) [.string (⟨#[98]⟩ : ByteArray)] from rfl) (Reps.one (show Kd.M Kd.string _ _ _ (⟨#[99]⟩ : ByteArray) [.string (⟨#[99]⟩ : ByteArray)] from rfl) (Reps.one (show Kd.M Kd.string _ _ _ (⟨#[116,97,103,115]⟩ : ByteArray) [.string (⟨#[116,97,103,115]⟩ : ByteArray)] from rfl) (Reps.none _ _))))));intro v489 w16 ho17 hb hg_ hnew_;clear hg_ hnew_;(first|rw [← Ny488.out] at ho17|(simp only [Int.reduceToNat] at ho17;rw [← Ny488.out] at ho17));replace HO_5:=zh (yg jI hb);have HO490:=zh (yy ho17 (keep_size (w:=w) (g:=g) (row:=none) jJ));replace BK481:=zh (cD BK481.out jL hb);replace HK:=zh (KeepBut.trans jJ (KeepBut.of_below hb g none) (.inl rfl));replace HB:=zh (zC jO hb);replace HI0:=zh (IsS81.below jP hb);clear hb ho17;obtain ⟨Ao18,co18,eo18⟩:=yk HO490.out;subst eo18;obtain ⟨ado18,fo18,_⟩:=Kd.at_string (yh HO490.out).2.2 0 jB (by rw [Ny488.out];simp)
          cases fo18
          refine hK.out _ _ trivial (fun hHeld=>?_);clear hK K;refine norm_ (a':=?_) ?_ ?_;rotate_left
          ·
           show Act.put _ (some 16) _=_
           simp only [Act.put,zi,zj,zk,zG,zH]
           rfl
          refine pure_ (i:=3) (N:=some 18) (v:=?_) (a':=?_) #[true,true,true,true,false,true,true,false,false,false,false,false] rfl rfl (any_of HT_.out jA) (fun _ _ _ h=>h) (Or.inl ⟨by rfl,?_⟩) ?_ ?_;rotate_left;exact jb;rotate_left;exact jc
          refine two_ (i:=4) (j:=7) (Ni:=some 19) (Nj:=some 22) (bm_ 7 12) #[true,true,true,true,false,true,true,true,false,false,false,false] rfl rfl rfl rfl (two_of HT_.out jA) jB jB (fun K hK=>?_) (fun K hK=>?_)
          ·
           skip
           (have p491 : 0≤(x6_1 : Int):=zy jE;have q491 : x6_1<(y488.length : Int):=zy jE;obtain ⟨ad491,e491,hx491_0⟩:=Kd.at_string (yh HO490.out).2.2 x6_1 p491 q491;obtain rfl : ado18=ad491:=(by injection e491));refine value_ (w1:=?_) (v:=?_) (by rfl) rfl ?_ ?_;rotate_left 2
           ·
            go_simp
            constructor
            ·
             rfl
            rfl
           clear hx491_0;refine hK.out _ _ trivial (fun hHeld=>?_);clear hK K;refine norm_ (a':=?_) ?_ ?_;rotate_left
           ·
            show Act.put _ (some 19) _=_
            simp only [Act.put,zi,zj,zk,zG,zH]
            rfl
           refine one_ (i:=7) (N:=some 22) (bm_ 8 12) rfl rfl (one_of HT_.out jA) jB (fun K hK=>?_);refine goes_ Try.func32 jA rfl #[.pointer (some ⟨g,0,none⟩),.int .i64 a1] (by rfl) rfl rfl jD ?_
           with_reducible refine (V.calls k1  g s0_0 t486 t487 a1 t492 t493 t494 t495 t496 w0 _ ?side1 ?side2 A11.out).mono ?_
           (case side1=>repeat (with_reducible first|exact HI0.out|apply IsS81.alloc|apply IsS81.drewN|apply IsS81.drew|apply IsS81.set_1|apply IsS81.set_2|refine IsS81.far ?_ NB0_481.out _))
           (case side2=>repeat (with_reducible first|exact HB.out|apply za|apply zb|apply zc|refine zd ?_ (IsS81.ge HI0.out)|refine zd ?_ GE481.out))
           rintro e w19 ⟨rfl,hi,hb,hk⟩;refine ⟨_,rfl,?_⟩;replace HO_5:=zh (zM (Kd.R_keep (IsS81.apart (show IsS81 w0 _ g s0_0 t486 t487 from by repeat (with_reducible first|exact HI0.out|apply IsS81.alloc|apply IsS81.drewN|apply IsS81.drew|apply IsS81.set_1|apply IsS81.set_2|refine IsS81.far ?_ NB0_481.out _)) jI jB) hk (fun _ h=>h.2)) (fun _ h=>h.1));replace BK481:=zh (KeepBut.blk hk (g':=gb481) (o:=.cells #[.int .i64 0,.int .i64 0,.string (⟨#[]⟩ : ByteArray)] 25 (0,0)) jL NB481_0.out (by simp));replace HO490:=zh (zM (Kd.R_keep (IsS81.apart (show IsS81 w0 _ g s0_0 t486 t487 from by repeat (with_reducible first|exact HI0.out|apply IsS81.alloc|apply IsS81.drewN|apply IsS81.drew|apply IsS81.set_1|apply IsS81.set_2|refine IsS81.far ?_ NB0_481.out _)) jA6 jB) hk (fun _ h=>h.2)) (fun _ h=>h.1));replace HK:=zh (KeepBut.trans jJ hk (.inl rfl));replace HB:=zh (hb);replace HI0:=zh (hi);(try clear hb);(try clear hb2);(try clear hk);(try clear hi);refine hK.out _ _ trivial (fun hHeld=>?_);clear hK K;refine norm_ (a':=?_) ?_ ?_;rotate_left
           ·
            show Act.put _ (some 22) _=_
            simp only [Act.put,zi,zj,zk,zG,zH]
            rfl
           exact norm_ jB9 (hCont (.slice (some ado18) y488.length co18,ado18) _ ⟨jA6,jI,⟨_,rfl⟩,jL,jP,jJ,jO⟩)
          skip
          refine goes_ Try.func32 jA rfl #[.pointer (some ⟨g,0,none⟩),.int .i64 a1] (by rfl) rfl rfl jD ?_
          with_reducible refine (V.calls k1  g s0_0 t486 t487 a1 t492 t493 t494 t495 t496 w0 _ ?side1 ?side2 A11.out).mono ?_
          (case side1=>repeat (with_reducible first|exact HI0.out|apply IsS81.alloc|apply IsS81.drewN|apply IsS81.drew|apply IsS81.set_1|apply IsS81.set_2|refine IsS81.far ?_ NB0_481.out _))
          (case side2=>repeat (with_reducible first|exact HB.out|apply za|apply zb|apply zc|refine zd ?_ (IsS81.ge HI0.out)|refine zd ?_ GE481.out))
          rintro e w19 ⟨rfl,hi,hb,hk⟩;refine ⟨_,rfl,?_⟩;replace HO_5:=zh (zM (Kd.R_keep (IsS81.apart (show IsS81 w0 _ g s0_0 t486 t487 from by repeat (with_reducible first|exact HI0.out|apply IsS81.alloc|apply IsS81.drewN|apply IsS81.drew|apply IsS81.set_1|apply IsS81.set_2|refine IsS81.far ?_ NB0_481.out _)) jI jB) hk (fun _ h=>h.2)) (fun _ h=>h.1));replace BK481:=zh (KeepBut.blk hk (g':=gb481) (o:=.cells #[.int .i64 0,.int .i64 0,.string (⟨#[]⟩ : ByteArray)] 25 (0,0)) jL NB481_0.out (by simp));replace HO490:=zh (zM (Kd.R_keep (IsS81.apart (show IsS81 w0 _ g s0_0 t486 t487 from by repeat (with_reducible first|exact HI0.out|apply IsS81.alloc|apply IsS81.drewN|apply IsS81.drew|apply IsS81.set_1|apply IsS81.set_2|refine IsS81.far ?_ NB0_481.out _)) jA6 jB) hk (fun _ h=>h.2)) (fun _ h=>h.1));replace HK:=zh (KeepBut.trans jJ hk (.inl rfl));replace HB:=zh (hb);replace HI0:=zh (hi);(try clear hb);(try clear hb2);(try clear hk);(try clear hi);refine hK.out _ _ trivial (fun hHeld=>?_);clear hK K;refine norm_ (a':=?_) ?_ ?_;rotate_left
          ·
           show Act.put _ (some 22) _=_
           simp only [Act.put,zi,zj,zk,zG,zH]
           rfl
          refine one_ (i:=4) (N:=some 19) (bm_ 8 12) rfl rfl (one_of HT_.out jA) jB (fun K hK=>?_);(have p491 : 0≤(x6_1 : Int):=zy jE;have q491 : x6_1<(y488.length : Int):=zy jE;obtain ⟨ad491,e491,hx491_0⟩:=Kd.at_string (yh HO490.out).2.2 x6_1 p491 q491;obtain rfl : ado18=ad491:=(by injection e491));refine value_ (w1:=?_) (v:=?_) (by rfl) rfl ?_ ?_;rotate_left 2
          ·
           go_simp
           constructor
           ·
            rfl
           rfl
          clear hx491_0;refine hK.out _ _ trivial (fun hHeld=>?_);clear hK K;refine norm_ (a':=?_) ?_ ?_;rotate_left
          ·
           show Act.put _ (some 19) _=_
           simp only [Act.put,zi,zj,zk,zG,zH]
           rfl
          exact norm_ jB9 (hCont (.slice (some ado18) y488.length co18,ado18) _ ⟨jA6,jI,⟨_,rfl⟩,jL,jP,jJ,jO⟩)
         skip
         refine goes_ Try.func32 jA rfl #[.pointer (some ⟨g,0,none⟩),.int .i64 a1] (by rfl) rfl rfl jD ?_
         with_reducible refine (V.calls k1  g s0_0 t486 t487 a1 t492 t493 t494 t495 t496 w0 _ ?side1 ?side2 A11.out).mono ?_
         (case side1=>repeat (with_reducible first|exact HI0.out|apply IsS81.alloc|apply IsS81.drewN|apply IsS81.drew|apply IsS81.set_1|apply IsS81.set_2|refine IsS81.far ?_ NB0_481.out _))
         (case side2=>repeat (with_reducible first|exact HB.out|apply za|apply zb|apply zc|refine zd ?_ (IsS81.ge HI0.out)|refine zd ?_ GE481.out))
         rintro e w16 ⟨rfl,hi,hb,hk⟩;refine ⟨_,rfl,?_⟩;replace HO_5:=zh (zM (Kd.R_keep (IsS81.apart (show IsS81 w0 _ g s0_0 t486 t487 from by repeat (with_reducible first|exact HI0.out|apply IsS81.alloc|apply IsS81.drewN|apply IsS81.drew|apply IsS81.set_1|apply IsS81.set_2|refine IsS81.far ?_ NB0_481.out _)) jI jB) hk (fun _ h=>h.2)) (fun _ h=>h.1));replace BK481:=zh (KeepBut.blk hk (g':=gb481) (o:=.cells #[.int .i64 0,.int .i64 0,.string (⟨#[]⟩ : ByteArray)] 25 (0,0)) jL NB481_0.out (by simp));replace HK:=zh (KeepBut.trans jJ hk (.inl rfl));replace HB:=zh (hb);replace HI0:=zh (hi);(try clear hb);(try clear hb2);(try clear hk);(try clear hi);refine hK.out _ _ trivial (fun hHeld=>?_);clear hK K;refine norm_ (a':=?_) ?_ ?_;rotate_left
         ·
          show Act.put _ (some 22) _=_
          simp only [Act.put,zi,zj,zk,zG,zH]
          rfl
         refine one_ (i:=1) (N:=some 16) #[true,true,true,false,false,true,true,true,false,false,false,false] rfl rfl (one_of HT_.out jA) jB (fun K hK=>?_);refine Kd.R_lit_step Kd.string _ 9 ?hg (N:=16) ?hd (xs:=([(⟨#[97]⟩ : ByteArray),(⟨#[98]⟩ : ByteArray),(⟨#[99]⟩ : ByteArray),(⟨#[116,97,103,115]⟩ : ByteArray)] : List ByteArray)) (inner:=[.string (⟨#[97]⟩ : ByteArray),.string (⟨#[98]⟩ : ByteArray),.string (⟨#[99]⟩ : ByteArray),.string (⟨#[116,97,103,115]⟩ : ByteArray)]) (ok:=fun _=>True) (okp:=fun _=>True) ?hr ?hp (fun _ hk=>hk) trivial (Below.refl _ _) (ye _) (by simp) ?_;(case hd=>rfl);(case hg=>rfl);(case hr=>go_simp <;> rfl);(case hp=>exact (Reps.one (show Kd.M Kd.string _ _ _ (⟨#[97]⟩ : ByteArray) [.string (⟨#[97]⟩ : ByteArray)] from rfl) (Reps.one (show Kd.M Kd.string _ _ _ (⟨#[98]⟩ : ByteArray) [.string (⟨#[98]⟩ : ByteArray)] from rfl) (Reps.one (show Kd.M Kd.string _ _ _ (⟨#[99]⟩ : ByteArray) [.string (⟨#[99]⟩ : ByteArray)] from rfl) (Reps.one (show Kd.M Kd.string _ _ _ (⟨#[116,97,103,115]⟩ : ByteArray) [.string (⟨#[116,97,103,115]⟩ : ByteArray)] from rfl) (Reps.none _ _))))));intro v489 w17 ho18 hb hg_ hnew_;clear hg_ hnew_;(first|rw [← Ny488.out] at ho18|(simp only [Int.reduceToNat] at ho18;rw [← Ny488.out] at ho18));replace HO_5:=zh (yg jI hb);have HO490:=zh (yy ho18 (keep_size (w:=w) (g:=g) (row:=none) jJ));replace BK481:=zh (cD BK481.out jL hb);replace HK:=zh (KeepBut.trans jJ (KeepBut.of_below hb g none) (.inl rfl));replace HB:=zh (zC jO hb);replace HI0:=zh (IsS81.below jP hb);clear hb ho18;obtain ⟨Ao19,co19,eo19⟩:=yk HO490.out;subst eo19;obtain ⟨ado19,fo19,_⟩:=Kd.at_string (yh HO490.out).2.2 0 jB (by rw [Ny488.out];simp)
         cases fo19
         refine hK.out _ _ trivial (fun hHeld=>?_);clear hK K;refine norm_ (a':=?_) ?_ ?_;rotate_left
         ·
          show Act.put _ (some 16) _=_
          simp only [Act.put,zi,zj,zk,zG,zH]
          rfl
         refine pure_ (i:=3) (N:=some 18) (v:=?_) (a':=?_) #[true,true,true,true,false,true,true,true,false,false,false,false] rfl rfl (any_of HT_.out jA) (fun _ _ _ h=>h) (Or.inl ⟨by rfl,?_⟩) ?_ ?_;rotate_left;exact jb;rotate_left;exact jc
         refine one_ (i:=4) (N:=some 19) (bm_ 8 12) rfl rfl (one_of HT_.out jA) jB (fun K hK=>?_);(have p491 : 0≤(x6_1 : Int):=zy jE;have q491 : x6_1<(y488.length : Int):=zy jE;obtain ⟨ad491,e491,hx491_0⟩:=Kd.at_string (yh HO490.out).2.2 x6_1 p491 q491;obtain rfl : ado19=ad491:=(by injection e491));refine value_ (w1:=?_) (v:=?_) (by rfl) rfl ?_ ?_;rotate_left 2
         ·
          go_simp
          constructor
          ·
           rfl
          rfl
         clear hx491_0;refine hK.out _ _ trivial (fun hHeld=>?_);clear hK K;refine norm_ (a':=?_) ?_ ?_;rotate_left
         ·
          show Act.put _ (some 19) _=_
          simp only [Act.put,zi,zj,zk,zG,zH]
          rfl
         exact norm_ jB9 (hCont (.slice (some ado19) y488.length co19,ado19) _ ⟨jA6,jI,⟨_,rfl⟩,jL,jP,jJ,jO⟩)
        rintro ⟨v489,adz_v489⟩ w20 ⟨h0_,h1_,h2_,h3_,h4_,h5_,h6_⟩;have HO490 : Aside0 (Kd.R Kd.string 9 w20 w.heap.size (fun _=>True) v489 y488):=⟨h0_⟩;replace HO_5 : Aside0 (Kd.R k43 43 w20 w.heap.size (fun _=>True) (.slice Ao14 x5_1.length co14) x5_1):=⟨h1_⟩;have HA_HO490 : Aside0 (∃ c_,(v489 : Value) = .slice (some adz_v489) y488.length c_):=⟨h2_⟩;replace BK481 : Aside0 (w20.heap[gb481]? = some (.cells #[.int .i64 0,.int .i64 0,.string (⟨#[]⟩ : ByteArray)] 25 (0,0))):=⟨h3_⟩;replace HI0 : Aside0 (IsS81 w0 w20 g s0_0 t495 t496):=⟨h4_⟩;replace HK : Aside0 (KeepBut w w20 g none):=⟨h5_⟩;replace HB : Aside0 (Below w0.heap.size w0 w20):=⟨h6_⟩;clear h0_ h1_ h2_ h3_ h4_ h5_ h6_;have hHeld:=trivial;obtain ⟨co21,eo21⟩:=HA_HO490.out;clear HA_HO490;subst eo21;refine norm_ (a':=?_) ?_ ?_;rotate_left
        ·
         simp only [putAll,Act.put,zi,zj,zk]
         rfl
        refine pure_ (i:=8) (N:=some 23) (v:=?_) (a':=?_) (bm_ 9 12) rfl rfl (any_of HT_.out jA) (fun _ _ _ h=>h) (Or.inl ⟨by rfl,?_⟩) ?_ ?_;rotate_left;exact jb;rotate_left;exact jc
        refine one_ (i:=9) (N:=some 24) (bm_ 10 12) rfl rfl (one_of HT_.out jA) jB (fun K hK=>?_);refine value_ (w1:=?_) (v:=?_) (by rfl) rfl ?_ ?_;rotate_left 2
        ·
         go_simp
         constructor
         ·
          rfl
         rfl
        refine hK.out _ _ trivial (fun hHeld=>?_);clear hK K;refine norm_ (a':=?_) ?_ ?_;rotate_left
        ·
         show Act.put _ (some 24) _=_
         simp only [Act.put,zi,zj,zk,zG,zH]
         rfl
        refine one_ (i:=10) (N:=some 25) (bm_ 11 12) rfl rfl (one_of HT_.out jA) jB (fun K hK=>?_);refine Kd.R_append_step k43 w.heap.size (by rfl) (.tmp 15) (.tmp 24) 28 43 (.agg #[(.string ⟨#[]⟩),(.int .i64 0),(.int .i64 0),(.string ⟨#[]⟩)]) 48 rfl Try.underlying28 info43 rfl jB jH (.slice Ao14 x5_1.length co14) x5_1 (⟨rdOf ByteArray.empty y488 x6_1,(⟨t492,t493,t494⟩ : S25)⟩ : S43) [.string (rdOf ByteArray.empty y488 x6_1),.int .i64 t492,.int .i64 t493,.string t494] (fun _=>True) (fun _=>False) rfl rfl ?aP (fun _ hk=>hk.elim) ?aF ?aO (Below.refl _ _) ?aS ?aL ?_;(case aP=>exact k43_mkM _ _ _ (⟨rdOf ByteArray.empty y488 x6_1,(⟨t492,t493,t494⟩ : S25)⟩ : S43))
        (case aF=>exact (fun _ _=>trivial))
        (case aO=>exact jI)
        (case aS=>exact (keep_size (w:=w) (g:=g) (row:=none) jJ))
        (case aL=>have:=LMc12.out;omega)
        intro v498 w22 ho hb hg hat;rw [← Ny497.out] at ho;replace BK481:=zh (yw (g:=gb481) (o:=.cells #[.int .i64 0,.int .i64 0,.string (⟨#[]⟩ : ByteArray)] 25 (0,0)) jL hg (Kd.R_ne HO_5.out BK481.out jB));replace HO490:=zh (Kd.R_over' jA6 (Kd.R_typed jI) jB hg);replace HB:=zh (below_weaken jO HL.out hb);replace HI0:=zh (IsS81.grown jP hg (IsS81.own_ne HI0.out HO_5.out jB));replace HK:=zh (KeepBut.trans jJ (KeepBut.of_grown hg g) (Kd.R_base2 HO_5.out));have HO499:=zh (ho);clear HO_5 ho hb hg hat;refine hK.out _ _ trivial (fun hHeld=>?_);clear hK K;refine norm_ (a':=?_) ?_ ?_;rotate_left
        ·
         show Act.put _ (some 25) _=_
         simp only [Act.put,zi,zj,zk,zG,zH]
         rfl
        refine pure_ (i:=11) (N:=some 5) (v:=?_) (a':=?_) (bm_ 12 12) rfl rfl (any_of HT_.out jA) (fun _ _ _ h=>h) (Or.inl ⟨by rfl,?_⟩) ?_ ?_;rotate_left;exact jb;rotate_left;exact jc
        refine done_ (done_of HT_.out jA) ?_
        try go_wp2
        go_roundg k1
        case measure=>have:=HK1.out;omega
        case rel=>exact ⟨(y497),(wrap64 (x6_1+1)),(t495),(t496),jC,H',⟨jZ⟩,⟨jCA⟩,⟨jL⟩,⟨jP⟩,⟨jJ⟩,⟨jO⟩⟩
       rw [if_neg c12] at H;exact absurd H (by simp)
      rw [if_neg c10] at H;exact absurd H (by simp)
     rw [if_neg c9] at H;exact absurd H (by simp)
    replace c8:=yb.mpr c8;subst c8;rw [if_neg (show ¬ (false=true) by decide)] at H;have H':=zh H;clear H
    go_wp2_with (first|((with_reducible refine zJ (f:=77) rfl ?_);refine yj (some 14) rfl rfl Try.func77 jA rfl #[.pointer (some ⟨g,0,none⟩),.int .i64 2] rfl jD ?_;(with_reducible refine (F0u.calls  g s0_0 x1001_1 x1002_1 2 false t486 t487 w0 _ ?side1 ?side2 A7.out).mono ?_);(case side1=>repeat (with_reducible first|exact HI0.out|apply IsS81.alloc|apply IsS81.drewN|apply IsS81.drew|apply IsS81.set_1|apply IsS81.set_2|refine IsS81.far ?_ NB0_481.out _));(case side2=>repeat (with_reducible first|exact HB.out|apply za|apply zb|apply zc|refine zd ?_ (IsS81.ge HI0.out)|refine zd ?_ GE481.out));rintro e w23 ⟨rfl,hi,hb,hk⟩;refine ⟨_,rfl,?_⟩;replace HO_5:=zh (zM (Kd.R_keep (IsS81.apart (show IsS81 w0 _ g s0_0 x1001_1 x1002_1 from by repeat (with_reducible first|exact HI0.out|apply IsS81.alloc|apply IsS81.drewN|apply IsS81.drew|apply IsS81.set_1|apply IsS81.set_2|refine IsS81.far ?_ NB0_481.out _)) jI jB) hk (fun _ h=>h.2)) (fun _ h=>h.1));replace BK481:=zh (KeepBut.blk hk (g':=gb481) (o:=.cells #[.int .i64 0,.int .i64 0,.string (⟨#[]⟩ : ByteArray)] 25 (0,0)) jL NB481_0.out (by simp));replace HK:=zh (KeepBut.trans jJ hk (.inl rfl));replace HB:=zh (hb);replace HI0:=zh (hi);(try clear hb);(try clear hb2);(try clear hk);(try clear hi)))
    go_roundg k1
    case measure=>have:=HK1.out;omega
    case rel=>exact ⟨(x5_1),(wrap64 (x6_1+1)),(t486),(t487),jC,H',⟨jZ⟩,⟨jI⟩,⟨jL⟩,⟨jP⟩,⟨jJ⟩,⟨jO⟩⟩
   rw [if_neg c6] at H;have c6b0 : decide (x6_1<4)=false:=decide_eq_false c6;clear c6;replace H:=zT.mp H;obtain ⟨⟨t500,t501,t502⟩,A240,H⟩:=H;have A24:=zh A240;clear A240;replace H:=zT.mp H;obtain ⟨t504,A250,H⟩:=H;have A25:=zh A250;clear A250
   by_cases c26 : t504=true
   ·
    subst c26
    rw [if_pos rfl] at H;simp only [Option.some.injEq,Prod.mk.injEq] at H;obtain ⟨rfl,rfl,rfl,rfl,rfl⟩:=H;obtain ⟨Ao27,co27,eo27⟩:=yk HO_5.out;subst eo27
    go_wp2_with (first|((with_reducible refine zJ (f:=22) rfl ?_);refine yj (some 27) rfl rfl Try.func22 jA rfl #[.slice Ao27 x5_1.length co27] rfl jD ?_;(with_reducible refine (Fa.calls k1  _ _ x5_1 t500 t501 t502 _ ?side1 ?side2 A24.out).mono ?_);(case side1=>repeat (first|exact (yh HO_5.out).2.2|(with_reducible refine Kd.C_alloc ?_ _)|(with_reducible refine Kd.C_drewN ?_ _)|(with_reducible refine Kd.C_drew ?_)));(case side2=>exact (yh HO_5.out).2.1);rintro e w28 ⟨rfl,hb⟩;refine ⟨_,rfl,?_⟩;replace HO_5:=zh (yg jI hb);replace BK481:=zh (cD BK481.out jL hb);replace HK:=zh (KeepBut.trans jJ (KeepBut.of_below hb g none) (.inl rfl));replace HB:=zh (zC jO hb);replace HI0:=zh (IsS81.below jP hb);(try clear hb);(try clear hb2);(try clear hk);(try clear hi))|((with_reducible refine zK (N:=7) rfl ?_);refine zI ?hg (N:=7) ?hd (cs:=#[.int .i64 0,.int .i64 0,.string (⟨#[]⟩ : ByteArray)]) (t:=25) ?hr ?_;(case hd=>rfl);(case hg=>rfl);(case hr=>go_simp <;> rfl);intro gb503 hg w29 hbox hb;replace HO_5:=zh (yg jI hb);replace HB:=zh (zC jO hb);have BK503:=zh (hbox);have GW503:=zh ((jAf : w.heap.size≤gb503));have GE503:=zh ((Nat.le_trans HW0.out (jAf : w.heap.size≤gb503) : w0.heap.size≤gb503));replace HK:=zh (KeepBut.trans jJ (KeepBut.of_below hb g none) (.inl rfl));have NB481_503:=zh ((jBf : gb481≠gb503));have NB503_481:=zh NB481_503.out.symm;replace BK481:=zh (cD BK481.out jL hb);have NB0_503:=zh ((jCs : g≠gb503));have NB503_0:=zh ((jCt : gb503≠g));replace HI0:=zh (IsS81.below jP hb);clear hb hbox hg;have hnb30:=NB503_481.out;have hnc30:=NB481_503.out;have hnb31:=NB503_0.out;have hnc31:=NB0_503.out;obtain ⟨hcz32_0,hcz32_1,hcz32_2,hfz32_0,hfz32_1,hfz32_2⟩:=cB3 BK503.out)|((with_reducible refine zJ (f:=20) rfl ?_);refine yj (some 29) rfl rfl Try.func20 jA rfl #[.agg #[.int .i64 t500,.int .i64 t501,.string t502]] rfl jD ?_;(with_reducible refine (Fr.calls k1  t500 t501 t502 true _ A25.out).mono ?_);rintro e w33 ⟨rfl,hb⟩;refine ⟨_,rfl,?_⟩;replace HO_5:=zh (yg jCu hb);replace BK481:=zh (cD BK481.out jCv hb);replace BK503:=zh (zD (g:=gb503) (o:=.cells #[.int .i64 t500,.int .i64 t501,.string t502] 25 (0,0)) jCw hb);replace HK:=zh (KeepBut.trans jAv (KeepBut.of_below hb g none) (.inl rfl));replace HB:=zh (zC jA7 hb);replace HI0:=zh (IsS81.below (show IsS81 w0 (((w29.setCell ⟨gb503,0,none⟩ (.int .i64 t500)).setCell ⟨gb503,1,none⟩ (.int .i64 t501)).setCell ⟨gb503,2,none⟩ (.string t502)) g s0_0 x1001_1 x1002_1 from by repeat (with_reducible first|exact HI0.out|apply IsS81.alloc|apply IsS81.drewN|apply IsS81.drew|apply IsS81.set_1|apply IsS81.set_2|refine IsS81.far ?_ NB0_481.out _|refine IsS81.far ?_ NB0_503.out _)) hb);(try clear hb);(try clear hb2);(try clear hk);(try clear hi);obtain ⟨hcz34_0,hcz34_1,hcz34_2,hfz34_0,hfz34_1,hfz34_2⟩:=cB3 BK503.out;have hnb35:=NB481_0.out;have hnc35:=NB0_481.out;obtain ⟨hcz36_0,hcz36_1,hcz36_2,hfz36_0,hfz36_1,hfz36_2⟩:=cB3 BK481.out))
    refine bodyPost_ret (results_cell_row rfl _ _ gb481 25 #[.int .i64 t500,.int .i64 t501,.string t502] (0,0) _ rfl (by (with_reducible repeat first|apply ze|apply zf|apply zg);refine zL (cs:=#[.int .i64 t500,.int .i64 t501,.string (⟨#[]⟩ : ByteArray)]) ?_ 2 _ rfl;(with_reducible repeat first|apply ze|apply zf|apply zg);refine zL (cs:=#[.int .i64 t500,.int .i64 0,.string (⟨#[]⟩ : ByteArray)]) ?_ 1 _ rfl;(with_reducible repeat first|apply ze|apply zf|apply zg);refine zL (cs:=#[.int .i64 0,.int .i64 0,.string (⟨#[]⟩ : ByteArray)]) ?_ 0 _ rfl;(with_reducible repeat first|apply ze|apply zf|apply zg);exact BK481.out) Try.underlying25 rfl jA) rfl ?_;exact ⟨jF,jBg,jA7,jAv⟩
   replace c26:=yb.mpr c26;subst c26;rw [if_neg (show ¬ (false=true) by decide)] at H;obtain ⟨y505,hy505⟩ : ∃ y_ : List (S43),y_=(([] : List (S43))):=⟨_,rfl⟩;replace H : ((Fa.f k1 y505).bind fun bt508=>(some (bt508.1,bt508.2.1,bt508.2.2,x1001_1,x1002_1)))=some (r1,r2,r3,r4,r5):=by first|(rw [hy505];with_reducible exact H)|(have H2_:=(Option.bind_some _ _).symm.trans H;rw [hy505];with_reducible exact H2_)|(have H2_:=(Option.bind_some _ _).symm.trans H;with_reducible exact H2_)|with_reducible exact H|(rw [hy505];exact H)|exact H
   have Ny505:=zh hy505;clear hy505;replace H:=zT.mp H;obtain ⟨⟨t508,t509,t510⟩,A370,H⟩:=H;have A37:=zh A370;clear A370;simp only [Option.some.injEq,Prod.mk.injEq] at H;obtain ⟨rfl,rfl,rfl,rfl,rfl⟩:=H;obtain ⟨Ao38,co38,eo38⟩:=yk HO_5.out;subst eo38
   go_wp2_with (first|((with_reducible refine zJ (f:=22) rfl ?_);refine yj (some 27) rfl rfl Try.func22 jA rfl #[.slice Ao38 x5_1.length co38] rfl jD ?_;(with_reducible refine (Fa.calls k1  _ _ x5_1 t500 t501 t502 _ ?side1 ?side2 A24.out).mono ?_);(case side1=>repeat (first|exact (yh HO_5.out).2.2|(with_reducible refine Kd.C_alloc ?_ _)|(with_reducible refine Kd.C_drewN ?_ _)|(with_reducible refine Kd.C_drew ?_)));(case side2=>exact (yh HO_5.out).2.1);rintro e w39 ⟨rfl,hb⟩;refine ⟨_,rfl,?_⟩;replace HO_5:=zh (yg jI hb);replace BK481:=zh (cD BK481.out jL hb);replace HK:=zh (KeepBut.trans jJ (KeepBut.of_below hb g none) (.inl rfl));replace HB:=zh (zC jO hb);replace HI0:=zh (IsS81.below jP hb);(try clear hb);(try clear hb2);(try clear hk);(try clear hi))|((with_reducible refine zK (N:=7) rfl ?_);refine zI ?hg (N:=7) ?hd (cs:=#[.int .i64 0,.int .i64 0,.string (⟨#[]⟩ : ByteArray)]) (t:=25) ?hr ?_;(case hd=>rfl);(case hg=>rfl);(case hr=>go_simp <;> rfl);intro gb503 hg w40 hbox hb;replace HO_5:=zh (yg jI hb);replace HB:=zh (zC jO hb);have BK503:=zh (hbox);have GW503:=zh ((jAf : w.heap.size≤gb503));have GE503:=zh ((Nat.le_trans HW0.out (jAf : w.heap.size≤gb503) : w0.heap.size≤gb503));replace HK:=zh (KeepBut.trans jJ (KeepBut.of_below hb g none) (.inl rfl));have NB481_503:=zh ((jBf : gb481≠gb503));have NB503_481:=zh NB481_503.out.symm;replace BK481:=zh (cD BK481.out jL hb);have NB0_503:=zh ((jCs : g≠gb503));have NB503_0:=zh ((jCt : gb503≠g));replace HI0:=zh (IsS81.below jP hb);clear hb hbox hg;have hnb41:=NB503_481.out;have hnc41:=NB481_503.out;have hnb42:=NB503_0.out;have hnc42:=NB0_503.out;obtain ⟨hcz43_0,hcz43_1,hcz43_2,hfz43_0,hfz43_1,hfz43_2⟩:=cB3 BK503.out)|((with_reducible refine zJ (f:=20) rfl ?_);refine yj (some 29) rfl rfl Try.func20 jA rfl #[.agg #[.int .i64 t500,.int .i64 t501,.string t502]] rfl jD ?_;(with_reducible refine (Fr.calls k1  t500 t501 t502 false _ A25.out).mono ?_);rintro e w44 ⟨rfl,hb⟩;refine ⟨_,rfl,?_⟩;replace HO_5:=zh (yg jCu hb);replace BK481:=zh (cD BK481.out jCv hb);replace BK503:=zh (zD (g:=gb503) (o:=.cells #[.int .i64 t500,.int .i64 t501,.string t502] 25 (0,0)) jCw hb);replace HK:=zh (KeepBut.trans jAv (KeepBut.of_below hb g none) (.inl rfl));replace HB:=zh (zC jA7 hb);replace HI0:=zh (IsS81.below (show IsS81 w0 (((w40.setCell ⟨gb503,0,none⟩ (.int .i64 t500)).setCell ⟨gb503,1,none⟩ (.int .i64 t501)).setCell ⟨gb503,2,none⟩ (.string t502)) g s0_0 x1001_1 x1002_1 from by repeat (with_reducible first|exact HI0.out|apply IsS81.alloc|apply IsS81.drewN|apply IsS81.drew|apply IsS81.set_1|apply IsS81.set_2|refine IsS81.far ?_ NB0_481.out _|refine IsS81.far ?_ NB0_503.out _)) hb);(try clear hb);(try clear hb2);(try clear hk);(try clear hi))|((with_reducible refine zK (N:=31) rfl ?_);refine Kd.R_lit k43 _ 43 ?hg (N:=31) ?hd (xs:=([] : List (S43))) (inner:=[]) (ok:=fun _=>True) (okp:=fun _=>True) ?hr ?hp (fun _ hk=>hk) trivial (Below.refl _ _) (ye _) (by simp) ?_;(case hd=>rfl);(case hg=>rfl);(case hr=>go_simp <;> rfl);(case hp=>exact (Reps.none _ _));intro v506 w45 ho46 hb hg_ hnew_;clear hg_ hnew_;(first|rw [← Ny505.out] at ho46|(simp only [Int.reduceToNat] at ho46;rw [← Ny505.out] at ho46));have HO507:=zh (yy (Kd.R_new' ho46 (Kd.R_lt jI)) (keep_size (w:=w) (g:=g) (row:=none) jAv));replace HO_5:=zh (Kd.R_elder' jI (Kd.R_base ho46) hb);replace BK481:=zh (cD BK481.out jL hb);replace BK503:=zh (cD BK503.out jCx hb);replace HK:=zh (KeepBut.trans jAv (KeepBut.of_below hb g none) (.inl rfl));replace HB:=zh (zC jA7 hb);replace HI0:=zh (IsS81.below jBg hb);clear hb ho46;obtain ⟨Ao47,co47,eo47⟩:=yk HO507.out;subst eo47)|((with_reducible refine zJ (f:=22) rfl ?_);refine yj (some 32) rfl rfl Try.func22 jA rfl #[.slice Ao47 y505.length co47] rfl jD ?_;(with_reducible refine (Fa.calls k1  _ _ y505 t508 t509 t510 _ ?side1 ?side2 A37.out).mono ?_);(case side1=>repeat (first|exact (yh HO507.out).2.2|(with_reducible refine Kd.C_alloc ?_ _)|(with_reducible refine Kd.C_drewN ?_ _)|(with_reducible refine Kd.C_drew ?_)));(case side2=>exact (yh HO507.out).2.1);rintro e w48 ⟨rfl,hb⟩;refine ⟨_,rfl,?_⟩;replace HO_5:=zh (yg jI hb);replace HO507:=zh (yg (by (with_reducible repeat (first|apply zm|apply zn|apply zo));exact HO507.out) hb);replace BK481:=zh (cD BK481.out jL hb);replace BK503:=zh (cD BK503.out jCx hb);replace HK:=zh (KeepBut.trans jAv (KeepBut.of_below hb g none) (.inl rfl));replace HB:=zh (zC jA7 hb);replace HI0:=zh (IsS81.below jBg hb);(try clear hb);(try clear hb2);(try clear hk);(try clear hi);have hnb49:=NB481_0.out;have hnc49:=NB0_481.out;obtain ⟨hcz50_0,hcz50_1,hcz50_2,hfz50_0,hfz50_1,hfz50_2⟩:=cB3 BK481.out))
   refine bodyPost_ret (results_cell_row rfl _ _ gb481 25 #[.int .i64 t508,.int .i64 t509,.string t510] (0,0) _ rfl (by (with_reducible repeat first|apply ze|apply zf|apply zg);refine zL (cs:=#[.int .i64 t508,.int .i64 t509,.string (⟨#[]⟩ : ByteArray)]) ?_ 2 _ rfl;(with_reducible repeat first|apply ze|apply zf|apply zg);refine zL (cs:=#[.int .i64 t508,.int .i64 0,.string (⟨#[]⟩ : ByteArray)]) ?_ 1 _ rfl;(with_reducible repeat first|apply ze|apply zf|apply zg);refine zL (cs:=#[.int .i64 0,.int .i64 0,.string (⟨#[]⟩ : ByteArray)]) ?_ 0 _ rfl;(with_reducible repeat first|apply ze|apply zf|apply zg);exact BK481.out) Try.underlying25 rfl jA) rfl ?_;exact ⟨jF,jBg,jA7,jAv⟩


mutual
def F3.j0 (D : DrawD) : Nat→Int→Int→List Int→Int→Int→Option (Int×Int×ByteArray×Int×Int)
 | 0,_,_,_,_,_=>none
 | k+1,x1,x5,x1000,x1001,x1002=>if x5=0 then (some (0,0,(⟨#[]⟩ : ByteArray),x1001,x1002)) else (if x5=1 then ((F04.f x1000 x1001 x1002 2).bind fun bt488=>(some (1,bt488.1,(⟨#[]⟩ : ByteArray),bt488.2.1,bt488.2.2))) else (if x5=2 then (F3.j1 D k x1 x5 (x5 == 2) x1000 x1001 x1002) else (F3.j1 D k x1 x5 (x5 == 3) x1000 x1001 x1002)))
def F3.j1 (D : DrawD) : Nat→Int→Int→Bool→List Int→Int→Int→Option (Int×Int×ByteArray×Int×Int)
 | 0,_,_,_,_,_,_=>none
 | k+1,x1,x15,x24,x1000,x1001,x1002=>if x24=true then ((F04.f x1000 x1001 x1002 9).bind fun bt491=>((F0e.f (wrap64 (bt491.1 - 3))).bind fun bt494=>(some (bt494.1,bt494.2.1,bt494.2.2,bt491.2.1,bt491.2.2)))) else (if x15=4 then ((F0q.f x1000 x1001 x1002 (([(⟨#[]⟩ : ByteArray),(⟨#[97]⟩ : ByteArray),(⟨#[97,98]⟩ : ByteArray),(⟨#[98]⟩ : ByteArray),(⟨#[0]⟩ : ByteArray)] : List ByteArray))).bind fun bt500=>((F0r.f bt500.1).bind fun bt503=>(some (bt503.1,bt503.2.1,bt503.2.2,bt500.2.1,bt500.2.2)))) else (if x15=5 then ((some (([1000000000000,(-1000000000000),300] : List Int) : List Int)).bind fun y506=>((F04.f x1000 x1001 x1002 3).bind fun bt509=>(if 0≤bt509.1 then (if bt509.1<(y506.length : Int) then ((F0e.f (rd y506 bt509.1)).bind fun bt513=>(some (bt513.1,bt513.2.1,bt513.2.2,bt509.2.1,bt509.2.2))) else (none)) else (none)))) else (if x15=6 then ((F04.f x1000 x1001 x1002 4).bind fun bt519=>(F3.l0 D k x1 (([] : List (S25))) bt519.1 x1000 bt519.2.1 bt519.2.2)) else ((D.f k x1000 x1001 x1002 (wrap64 (x1 - 1))).bind fun bt538=>(some (bt538.1,bt538.2.1,bt538.2.2.1,bt538.2.2.2.1,bt538.2.2.2.2))))))
def F3.l0 (D : DrawD) : Nat→Int→List (S25)→Int→List Int→Int→Int→Option (Int×Int×ByteArray×Int×Int)
 | 0,_,_,_,_,_,_=>none
 | k+1,x1,x6,x7,x1000,x1001,x1002=>if x7 > 0 then ((F3.f D k x1000 x1001 x1002 (wrap64 (x1 - 1))).bind fun bt522=>(if x6.length<4398046511104 then (F3.l0 D k x1 (x6 ++ [(⟨bt522.1,bt522.2.1,bt522.2.2.1⟩ : S25)]) (wrap64 (x7 - 1)) x1000 bt522.2.2.2.1 bt522.2.2.2.2) else (none))) else ((Fo.f k x6).bind fun bt530=>((Fr.f k bt530.1 bt530.2.1 bt530.2.2).bind fun t534=>(if t534=true then (some (bt530.1,bt530.2.1,bt530.2.2,x1001,x1002)) else ((F0e.f 1).bind fun bt535=>(some (bt535.1,bt535.2.1,bt535.2.2,x1001,x1002))))))
def F3.f (D : DrawD) : Nat→List Int→Int→Int→Int→Option (Int×Int×ByteArray×Int×Int)
 | 0,_,_,_,_=>none
 | k+1,s0_0,s0_1,s0_2,a1=>(F04.f s0_0 s0_1 s0_2 8).bind fun bt482=>(if a1=0 then ((F04.f s0_0 bt482.2.1 bt482.2.2 6).bind fun bt485=>(F3.j0 D k a1 bt485.1 s0_0 bt485.2.1 bt485.2.2)) else (F3.j0 D k a1 bt482.1 s0_0 bt482.2.1 bt482.2.2))
end
theorem F3.mono_l (D : DrawD) : ∀ k,(∀ y0 y1 y2 y3,LeO (F3.f D k y0 y1 y2 y3) (F3.f D (k+1) y0 y1 y2 y3))∧(∀ y0 y1 y2 y3 y4,LeO (F3.j0 D k y0 y1 y2 y3 y4) (F3.j0 D (k+1) y0 y1 y2 y3 y4))∧(∀ y0 y1 y2 y3 y4 y5,LeO (F3.j1 D k y0 y1 y2 y3 y4 y5) (F3.j1 D (k+1) y0 y1 y2 y3 y4 y5))∧(∀ y0 y1 y2 y3 y4 y5,LeO (F3.l0 D k y0 y1 y2 y3 y4 y5) (F3.l0 D (k+1) y0 y1 y2 y3 y4 y5))
 | 0=>⟨fun _ _ _ _ r h=>by simp [F3.f] at h,fun _ _ _ _ _ r h=>by simp [F3.j0] at h,fun _ _ _ _ _ _ r h=>by simp [F3.j1] at h,fun _ _ _ _ _ _ r h=>by simp [F3.l0] at h⟩
 | k+1=>by
  obtain ⟨ih0,ih1,ih2,ih3⟩:=F3.mono_l D k;refine ⟨?_,?_,?_,?_⟩
  ·
   intro y0 y1 y2 y3
   unfold F3.f
   repeat' first|(with_reducible first|exact ih0 _ _ _ _|exact ih1 _ _ _ _ _|exact ih2 _ _ _ _ _ _|exact ih3 _ _ _ _ _ _|exact Fr.mono _ _ _ _|exact Fo.mono _ _|exact D.mono _ _ _ _ _|exact zQ _|exact zN _|refine zP ?_ ?_|refine zO ?_ (fun _=>?_))|refine zP ?_ ?_|refine zO ?_ (fun _=>?_)
  ·
   intro y0 y1 y2 y3 y4
   unfold F3.j0
   repeat' first|(with_reducible first|exact ih0 _ _ _ _|exact ih1 _ _ _ _ _|exact ih2 _ _ _ _ _ _|exact ih3 _ _ _ _ _ _|exact Fr.mono _ _ _ _|exact Fo.mono _ _|exact D.mono _ _ _ _ _|exact zQ _|exact zN _|refine zP ?_ ?_|refine zO ?_ (fun _=>?_))|refine zP ?_ ?_|refine zO ?_ (fun _=>?_)
  ·
   intro y0 y1 y2 y3 y4 y5
   unfold F3.j1
   repeat' first|(with_reducible first|exact ih0 _ _ _ _|exact ih1 _ _ _ _ _|exact ih2 _ _ _ _ _ _|exact ih3 _ _ _ _ _ _|exact Fr.mono _ _ _ _|exact Fo.mono _ _|exact D.mono _ _ _ _ _|exact zQ _|exact zN _|refine zP ?_ ?_|refine zO ?_ (fun _=>?_))|refine zP ?_ ?_|refine zO ?_ (fun _=>?_)
  intro y0 y1 y2 y3 y4 y5;unfold F3.l0
  repeat' first|(with_reducible first|exact ih0 _ _ _ _|exact ih1 _ _ _ _ _|exact ih2 _ _ _ _ _ _|exact ih3 _ _ _ _ _ _|exact Fr.mono _ _ _ _|exact Fo.mono _ _|exact D.mono _ _ _ _ _|exact zQ _|exact zN _|refine zP ?_ ?_|refine zO ?_ (fun _=>?_))|refine zP ?_ ?_|refine zO ?_ (fun _=>?_)
theorem F3.mono (D : DrawD) : ∀ a0 a1 a2 a3 k,LeO (F3.f D k a0 a1 a2 a3) (F3.f D (k+1) a0 a1 a2 a3):=by
 intro a0 a1 a2 a3 k;obtain ⟨ih0,ih1,ih2,ih3⟩:=F3.mono_l D k;exact ih0 a0 a1 a2 a3
set_option maxHeartbeats 8000000 in
set_option maxRecDepth 100000 in
theorem F3.calls (D : DrawD) (k : Nat) : ∀ (g : Nat) (s0_0 : List Int) (s0_1 : Int) (s0_2 : Int) (a1 : Int) (r1 : Int) (r2 : Int) (r3 : ByteArray) (r4 : Int) (r5 : Int) (w0 w : World) (hI : IsS81 w0 w g s0_0 s0_1 s0_2) (hB : Below w0.heap.size w0 w) (h : F3.f D k s0_0 s0_1 s0_2 a1=some (r1,r2,r3,r4,r5)),
  Calls Try.prog 32 #[.pointer (some ⟨g,0,none⟩),.int .i64 a1] w fun e w' => e = .returned (.agg #[.int .i64 r1,.int .i64 r2,.string r3])∧IsS81 w0 w' g s0_0 r4 r5∧Below w0.heap.size w0 w' ∧ KeepBut w w' g none:=by
 induction k using Nat.strongRecOn with
 | _ k ih =>
 intro g s0_0 s0_1 s0_2 a1 r1 r2 r3 r4 r5 w0 w hI hB h
 cases k with
 | zero=>exact absurd h (by simp [F3.f])
 | succ k =>
 simp only [F3.f] at h;have hu25:=Try.underlying25;have HI0:=zh hI;have HK:=zh (KeepBut.refl w g none);have HL:=zh hB.size;clear hI;have HW0:=zh hB.size;have HB:=zh hB;clear hB;have H : ((F04.f s0_0 s0_1 s0_2 8).bind fun bt482=>(if a1=0 then ((F04.f s0_0 bt482.2.1 bt482.2.2 6).bind fun bt485=>(F3.j0 D k a1 bt485.1 s0_0 bt485.2.1 bt485.2.2)) else (F3.j0 D k a1 bt482.1 s0_0 bt482.2.1 bt482.2.2)))=some (r1,r2,r3,r4,r5):=h;clear h;replace H:=zT.mp H;obtain ⟨⟨t482,t483,t484⟩,A30,H⟩:=H;have A3:=zh A30;clear A30;have HC4:=zh H;clear H
 go_enter Try.func32,Try.ntmps32
 go_upto_if 12 with (first|((with_reducible refine zK (N:=4) rfl ?_);refine zI ?hg (N:=4) ?hd (cs:=#[.int .i64 0,.int .i64 0,.string (⟨#[]⟩ : ByteArray)]) (t:=25) ?hr ?_;(case hd=>rfl);(case hg=>rfl);(case hr=>go_simp <;> rfl);intro gb481 hg w5 hbox hb;replace HB:=zh (zC jw hb);have BK481:=zh (hbox);have GW481:=zh ((jAY : w.heap.size≤gb481));have GE481:=zh ((Nat.le_trans HW0.out (jAY : w.heap.size≤gb481) : w0.heap.size≤gb481));replace HK:=zh (KeepBut.trans jT (KeepBut.of_below hb g none) (.inl rfl));have NB0_481:=zh ((jCq : g≠gb481));have NB481_0:=zh ((jCr : gb481≠g));replace HI0:=zh (IsS81.below jv hb);clear hb hbox hg)|((with_reducible refine zJ (f:=52) rfl ?_);refine yj (some 10) rfl rfl Try.func52 jA rfl #[.pointer (some ⟨g,0,none⟩),.int .i64 8] rfl jD ?_;(with_reducible refine (F04.calls  g s0_0 s0_1 s0_2 8 t482 t483 t484 w0 _ ?side1 ?side2 A3.out).mono ?_);(case side1=>repeat (with_reducible first|exact HI0.out|apply IsS81.alloc|apply IsS81.drewN|apply IsS81.drew|apply IsS81.set_1|apply IsS81.set_2|refine IsS81.far ?_ NB0_481.out _));(case side2=>repeat (with_reducible first|exact HB.out|apply za|apply zb|apply zc|refine zd ?_ (IsS81.ge HI0.out)|refine zd ?_ GE481.out));rintro e w6 ⟨rfl,hi,hb,hk⟩;refine ⟨_,rfl,?_⟩;replace BK481:=zh (KeepBut.blk hk (g':=gb481) (o:=.cells #[.int .i64 0,.int .i64 0,.string (⟨#[]⟩ : ByteArray)] 25 (0,0)) jL NB481_0.out (by simp));replace HK:=zh (KeepBut.trans jJ hk (.inl rfl));replace HB:=zh (hb);replace HI0:=zh (hi);(try clear hb);(try clear hb2);(try clear hk);(try clear hi)))
 (try simp only [Act.put,zi,zj,zk])
 go_cut [5] (fun v5 wc => ∃ (kq : Nat) (x5_3 : Int) (x1001_3 : Int) (x1002_3 : Int),v5 = .int .i64 x5_3∧Aside0 (F3.j0 D kq a1 x5_3 s0_0 x1001_3 x1002_3=some (r1,r2,r3,r4,r5))∧Aside0 (kq≤k)∧Aside0 (wc.heap[gb481]? = some (.cells #[.int .i64 0,.int .i64 0,.string (⟨#[]⟩ : ByteArray)] 25 (0,0)))∧Aside0 (IsS81 w0 wc g s0_0 x1001_3 x1002_3)∧Aside0 (KeepBut w wc g none)∧Aside0 (Below w0.heap.size w0 wc))
 case first =>
  have H:=HC4.out;clear HC4
  by_cases c7 : a1=0
  ·
   rw [if_pos c7] at H
   have c7b0 : (a1 == 0)=true:=ya.mpr c7;have c7b1 : (a1 != 0)=false:=zX.mpr c7;clear c7;(first|rw [c7b0]|(simp only [zG,zH];rw [c7b0])|skip);replace H:=zT.mp H;obtain ⟨⟨t485,t486,t487⟩,A80,H⟩:=H;have A8:=zh A80;clear A80;have H':=zh H;clear H
   go_wp2_with (first|((with_reducible refine zJ (f:=52) rfl ?_);refine yj (some 14) rfl rfl Try.func52 jA rfl #[.pointer (some ⟨g,0,none⟩),.int .i64 6] rfl jD ?_;(with_reducible refine (F04.calls  g s0_0 t483 t484 6 t485 t486 t487 w0 _ ?side1 ?side2 A8.out).mono ?_);(case side1=>repeat (with_reducible first|exact HI0.out|apply IsS81.alloc|apply IsS81.drewN|apply IsS81.drew|apply IsS81.set_1|apply IsS81.set_2|refine IsS81.far ?_ NB0_481.out _));(case side2=>repeat (with_reducible first|exact HB.out|apply za|apply zb|apply zc|refine zd ?_ (IsS81.ge HI0.out)|refine zd ?_ GE481.out));rintro e w9 ⟨rfl,hi,hb,hk⟩;refine ⟨_,rfl,?_⟩;replace BK481:=zh (KeepBut.blk hk (g':=gb481) (o:=.cells #[.int .i64 0,.int .i64 0,.string (⟨#[]⟩ : ByteArray)] 25 (0,0)) jL NB481_0.out (by simp));replace HK:=zh (KeepBut.trans jJ hk (.inl rfl));replace HB:=zh (hb);replace HI0:=zh (hi);(try clear hb);(try clear hb2);(try clear hk);(try clear hi)))
   go_meet
   case rel=>exact ⟨_,(t485),(t486),(t487),jC,H',⟨jY⟩,⟨jL⟩,⟨jP⟩,⟨jJ⟩,⟨jO⟩⟩
  rw [if_neg c7] at H;have c7b0 : (a1 == 0)=false:=zY.mpr c7;have c7b1 : (a1 != 0)=true:=zZ.mpr c7;(first|rw [c7b0]|(simp only [zG,zH];rw [c7b0])|skip);have H':=zh H;clear H
  go_wp2
  go_meet
  case rel=>exact ⟨_,(t482),(t483),(t484),jC,H',⟨jY⟩,⟨jL⟩,⟨jP⟩,⟨jJ⟩,⟨jO⟩⟩
 case rest =>
  clear HC4
  try clear p2
  try clear c3 c5 c7 c7b0 c7b1
  obtain ⟨kq,x5_3,x1001_3,x1002_3,rfl,HA,HJ3,BK481,HI0,HK,HB⟩:=hcut
  cases kq with
  | zero=>exact absurd HA.out (by simp [F3.j0])
  | succ kj3 =>
   have H:=HA.out;clear HA;simp only [F3.j0] at H
   by_cases c10 : x5_3=0
   ·
    rw [if_pos c10] at H
    have c10b0 : (x5_3 == 0)=true:=ya.mpr c10;have c10b1 : (x5_3 != 0)=false:=zX.mpr c10;clear c10;simp only [Option.some.injEq,Prod.mk.injEq] at H;obtain ⟨rfl,rfl,rfl,rfl,rfl⟩:=H;have hnb11:=NB481_0.out;have hnc11:=NB0_481.out;obtain ⟨hcz12_0,hcz12_1,hcz12_2,hfz12_0,hfz12_1,hfz12_2⟩:=cB3 BK481.out
    go_wp2
    refine bodyPost_ret (results_cell_row rfl _ _ gb481 25 #[.int .i64 0,.int .i64 0,.string (⟨#[]⟩ : ByteArray)] (0,0) _ rfl (by (with_reducible repeat first|apply ze|apply zf|apply zg);refine zL (cs:=#[.int .i64 0,.int .i64 0,.string (⟨#[]⟩ : ByteArray)]) ?_ 2 _ rfl;(with_reducible repeat first|apply ze|apply zf|apply zg);refine zL (cs:=#[.int .i64 0,.int .i64 0,.string (⟨#[]⟩ : ByteArray)]) ?_ 1 _ rfl;(with_reducible repeat first|apply ze|apply zf|apply zg);refine zL (cs:=#[.int .i64 0,.int .i64 0,.string (⟨#[]⟩ : ByteArray)]) ?_ 0 _ rfl;(with_reducible repeat first|apply ze|apply zf|apply zg);exact BK481.out) Try.underlying25 rfl jA) rfl ?_;exact ⟨jF,jP,jO,jJ⟩
   rw [if_neg c10] at H;have c10b0 : (x5_3 == 0)=false:=zY.mpr c10;have c10b1 : (x5_3 != 0)=true:=zZ.mpr c10
   by_cases c13 : x5_3=1
   ·
    rw [if_pos c13] at H
    have c13b0 : (x5_3 == 1)=true:=ya.mpr c13;have c13b1 : (x5_3 != 1)=false:=zX.mpr c13;clear c13;replace H:=zT.mp H;obtain ⟨⟨t488,t489,t490⟩,A140,H⟩:=H;have A14:=zh A140;clear A140;simp only [Option.some.injEq,Prod.mk.injEq] at H;obtain ⟨rfl,rfl,rfl,rfl,rfl⟩:=H
    go_wp2_with (first|((with_reducible refine zJ (f:=52) rfl ?_);refine yj (some 22) rfl rfl Try.func52 jA rfl #[.pointer (some ⟨g,0,none⟩),.int .i64 2] rfl jD ?_;(with_reducible refine (F04.calls  g s0_0 x1001_3 x1002_3 2 t488 t489 t490 w0 _ ?side1 ?side2 A14.out).mono ?_);(case side1=>repeat (with_reducible first|exact HI0.out|apply IsS81.alloc|apply IsS81.drewN|apply IsS81.drew|apply IsS81.set_1|apply IsS81.set_2|refine IsS81.far ?_ NB0_481.out _));(case side2=>repeat (with_reducible first|exact HB.out|apply za|apply zb|apply zc|refine zd ?_ (IsS81.ge HI0.out)|refine zd ?_ GE481.out));rintro e w15 ⟨rfl,hi,hb,hk⟩;refine ⟨_,rfl,?_⟩;replace BK481:=zh (KeepBut.blk hk (g':=gb481) (o:=.cells #[.int .i64 0,.int .i64 0,.string (⟨#[]⟩ : ByteArray)] 25 (0,0)) jL NB481_0.out (by simp));replace HK:=zh (KeepBut.trans jJ hk (.inl rfl));replace HB:=zh (hb);replace HI0:=zh (hi);(try clear hb);(try clear hb2);(try clear hk);(try clear hi);have hnb16:=NB481_0.out;have hnc16:=NB0_481.out;obtain ⟨hcz17_0,hcz17_1,hcz17_2,hfz17_0,hfz17_1,hfz17_2⟩:=cB3 BK481.out))
    refine bodyPost_ret (results_cell_row rfl _ _ gb481 25 #[.int .i64 1,.int .i64 t488,.string (⟨#[]⟩ : ByteArray)] (0,0) _ rfl (by (with_reducible repeat first|apply ze|apply zf|apply zg);refine zL (cs:=#[.int .i64 1,.int .i64 t488,.string (⟨#[]⟩ : ByteArray)]) ?_ 2 _ rfl;(with_reducible repeat first|apply ze|apply zf|apply zg);refine zL (cs:=#[.int .i64 1,.int .i64 0,.string (⟨#[]⟩ : ByteArray)]) ?_ 1 _ rfl;(with_reducible repeat first|apply ze|apply zf|apply zg);refine zL (cs:=#[.int .i64 0,.int .i64 0,.string (⟨#[]⟩ : ByteArray)]) ?_ 0 _ rfl;(with_reducible repeat first|apply ze|apply zf|apply zg);exact BK481.out) Try.underlying25 rfl jA) rfl ?_;exact ⟨jF,jP,jO,jJ⟩
   rw [if_neg c13] at H;have c13b0 : (x5_3 == 1)=false:=zY.mpr c13;have c13b1 : (x5_3 != 1)=true:=zZ.mpr c13;have HC18:=zh H;clear H
   go_upto_if 24 with (fail)
   go_cut [24] (fun v24 wc => ∃ (kq : Nat) (x24_17 : Bool),v24 = .bool x24_17∧Aside0 (F3.j1 D kq a1 x5_3 x24_17 s0_0 x1001_3 x1002_3=some (r1,r2,r3,r4,r5))∧Aside0 (kq≤kj3)∧Aside0 (wc.heap[gb481]? = some (.cells #[.int .i64 0,.int .i64 0,.string (⟨#[]⟩ : ByteArray)] 25 (0,0)))∧Aside0 (IsS81 w0 wc g s0_0 x1001_3 x1002_3)∧Aside0 (KeepBut w wc g none)∧Aside0 (Below w0.heap.size w0 wc))
   case first =>
    have H:=HC18.out;clear HC18
    by_cases c19 : x5_3=2
    ·
     rw [if_pos c19] at H
     have c19b0 : (x5_3 == 2)=true:=ya.mpr c19;have c19b1 : (x5_3 != 2)=false:=zX.mpr c19;clear c19;(first|rw [c19b0]|(simp only [zG,zH];rw [c19b0])|skip);have H':=zh H;clear H
     go_wp2
     go_meet
     case rel=>exact ⟨_,((x5_3 == 2)),jC,H',⟨by have:=HJ3.out;first|omega|exact ye _⟩,⟨jL⟩,⟨jP⟩,⟨jJ⟩,⟨jO⟩⟩
    rw [if_neg c19] at H;have c19b0 : (x5_3 == 2)=false:=zY.mpr c19;have c19b1 : (x5_3 != 2)=true:=zZ.mpr c19;(first|rw [c19b0]|(simp only [zG,zH];rw [c19b0])|skip);have H':=zh H;clear H
    go_wp2
    go_meet
    case rel=>exact ⟨_,((x5_3 == 3)),jC,H',⟨by have:=HJ3.out;first|omega|exact ye _⟩,⟨jL⟩,⟨jP⟩,⟨jJ⟩,⟨jO⟩⟩
   case rest =>
    clear HC18
    try clear c1
    try clear p2
    try clear c3 c5 c7 c7b0 c7b1 c10 c10b0 c10b1 c11 c13 c13b0 c13b1 c16 c19 c19b0 c19b1
    try clear hcz12_0 hcz12_1 hcz12_2
    try clear hcz17_0 hcz17_1 hcz17_2
    try clear hfz12_0 hfz12_1 hfz12_2
    try clear hfz17_0 hfz17_1 hfz17_2
    try clear p2
    obtain ⟨kq,x24_17,rfl,HA,HJ17,BK481,HI0,HK,HB⟩:=hcut
    cases kq with
    | zero=>exact absurd HA.out (by simp [F3.j1])
    | succ kj17 =>
     have H:=HA.out;clear HA;simp only [F3.j1] at H
     by_cases c20 : x24_17=true
     ·
      subst c20
      rw [if_pos rfl] at H;replace H:=zT.mp H;obtain ⟨⟨t491,t492,t493⟩,A210,H⟩:=H;have A21:=zh A210;clear A210;replace H:=zT.mp H;obtain ⟨⟨t494,t495,t496⟩,A220,H⟩:=H;have A22:=zh A220;clear A220;simp only [Option.some.injEq,Prod.mk.injEq] at H;obtain ⟨rfl,rfl,rfl,rfl,rfl⟩:=H
      go_wp2_with (first|((with_reducible refine zJ (f:=52) rfl ?_);refine yj (some 28) rfl rfl Try.func52 jA rfl #[.pointer (some ⟨g,0,none⟩),.int .i64 9] rfl jD ?_;(with_reducible refine (F04.calls  g s0_0 x1001_3 x1002_3 9 t491 t492 t493 w0 _ ?side1 ?side2 A21.out).mono ?_);(case side1=>repeat (with_reducible first|exact HI0.out|apply IsS81.alloc|apply IsS81.drewN|apply IsS81.drew|apply IsS81.set_1|apply IsS81.set_2|refine IsS81.far ?_ NB0_481.out _));(case side2=>repeat (with_reducible first|exact HB.out|apply za|apply zb|apply zc|refine zd ?_ (IsS81.ge HI0.out)|refine zd ?_ GE481.out));rintro e w23 ⟨rfl,hi,hb,hk⟩;refine ⟨_,rfl,?_⟩;replace BK481:=zh (KeepBut.blk hk (g':=gb481) (o:=.cells #[.int .i64 0,.int .i64 0,.string (⟨#[]⟩ : ByteArray)] 25 (0,0)) jL NB481_0.out (by simp));replace HK:=zh (KeepBut.trans jJ hk (.inl rfl));replace HB:=zh (hb);replace HI0:=zh (hi);(try clear hb);(try clear hb2);(try clear hk);(try clear hi))|((with_reducible refine zJ (f:=53) rfl ?_);refine yj (some 30) rfl rfl Try.func53 jA rfl #[.int .i64 (wrap64 (t491 - 3))] rfl jD ?_;(with_reducible refine (F0e.calls  (wrap64 (t491 - 3)) t494 t495 t496 _ A22.out).mono ?_);rintro e w24 ⟨rfl,hb⟩;refine ⟨_,rfl,?_⟩;replace BK481:=zh (cD BK481.out jL hb);replace HK:=zh (KeepBut.trans jJ (KeepBut.of_below hb g none) (.inl rfl));replace HB:=zh (zC jO hb);replace HI0:=zh (IsS81.below jP hb);(try clear hb);(try clear hb2);(try clear hk);(try clear hi);have hnb25:=NB481_0.out;have hnc25:=NB0_481.out;obtain ⟨hcz26_0,hcz26_1,hcz26_2,hfz26_0,hfz26_1,hfz26_2⟩:=cB3 BK481.out))
      refine bodyPost_ret (results_cell_row rfl _ _ gb481 25 #[.int .i64 t494,.int .i64 t495,.string t496] (0,0) _ rfl (by (with_reducible repeat first|apply ze|apply zf|apply zg);refine zL (cs:=#[.int .i64 t494,.int .i64 t495,.string (⟨#[]⟩ : ByteArray)]) ?_ 2 _ rfl;(with_reducible repeat first|apply ze|apply zf|apply zg);refine zL (cs:=#[.int .i64 t494,.int .i64 0,.string (⟨#[]⟩ : ByteArray)]) ?_ 1 _ rfl;(with_reducible repeat first|apply ze|apply zf|apply zg);refine zL (cs:=#[.int .i64 0,.int .i64 0,.string (⟨#[]⟩ : ByteArray)]) ?_ 0 _ rfl;(with_reducible repeat first|apply ze|apply zf|apply zg);exact BK481.out) Try.underlying25 rfl jA) rfl ?_;exact ⟨jF,jP,jO,jJ⟩
     replace c20:=yb.mpr c20;subst c20;rw [if_neg (show ¬ (false=true) by decide)] at H
     by_cases c27 : x5_3=4
     ·
      rw [if_pos c27] at H
      have c27b0 : (x5_3 == 4)=true:=ya.mpr c27;have c27b1 : (x5_3 != 4)=false:=zX.mpr c27;clear c27;obtain ⟨y497,hy497⟩ : ∃ y_ : List ByteArray,y_=(([(⟨#[]⟩ : ByteArray),(⟨#[97]⟩ : ByteArray),(⟨#[97,98]⟩ : ByteArray),(⟨#[98]⟩ : ByteArray),(⟨#[0]⟩ : ByteArray)] : List ByteArray)):=⟨_,rfl⟩;replace H : ((F0q.f s0_0 x1001_3 x1002_3 y497).bind fun bt500=>((F0r.f bt500.1).bind fun bt503=>(some (bt503.1,bt503.2.1,bt503.2.2,bt500.2.1,bt500.2.2))))=some (r1,r2,r3,r4,r5):=by first|(rw [hy497];with_reducible exact H)|(have H2_:=(Option.bind_some _ _).symm.trans H;rw [hy497];with_reducible exact H2_)|(have H2_:=(Option.bind_some _ _).symm.trans H;with_reducible exact H2_)|with_reducible exact H|(rw [hy497];exact H)|exact H
      have Ny497:=zh hy497;clear hy497;replace H:=zT.mp H;obtain ⟨⟨t500,t501,t502⟩,A280,H⟩:=H;have A28:=zh A280;clear A280;replace H:=zT.mp H;obtain ⟨⟨t503,t504,t505⟩,A290,H⟩:=H;have A29:=zh A290;clear A290;simp only [Option.some.injEq,Prod.mk.injEq] at H;obtain ⟨rfl,rfl,rfl,rfl,rfl⟩:=H
      go_wp2_with (first|((with_reducible refine zK (N:=34) rfl ?_);refine Kd.R_lit Kd.string _ 9 ?hg (N:=34) ?hd (xs:=([(⟨#[]⟩ : ByteArray),(⟨#[97]⟩ : ByteArray),(⟨#[97,98]⟩ : ByteArray),(⟨#[98]⟩ : ByteArray),(⟨#[0]⟩ : ByteArray)] : List ByteArray)) (inner:=[.string (⟨#[]⟩ : ByteArray),.string (⟨#[97]⟩ : ByteArray),.string (⟨#[97,98]⟩ : ByteArray),.string (⟨#[98]⟩ : ByteArray),.string (⟨#[0]⟩ : ByteArray)]) (ok:=fun _=>True) (okp:=fun _=>True) ?hr ?hp (fun _ hk=>hk) trivial (Below.refl _ _) (ye _) (by simp) ?_;(case hd=>rfl);(case hg=>rfl);(case hr=>go_simp <;> rfl);(case hp=>exact (Reps.one (show Kd.M Kd.string _ _ _ (⟨#[]⟩ : ByteArray) [.string (⟨#[]⟩ : ByteArray)] from rfl) (Reps.one (show Kd.M Kd.string _ _ _ (⟨#[97]⟩ : ByteArray) [.string (⟨#[97]⟩ : ByteArray)] from rfl) (Reps.one (show Kd.M Kd.string _ _ _ (⟨#[97,98]⟩ : ByteArray) [.string (⟨#[97,98]⟩ : ByteArray)] from rfl) (Reps.one (show Kd.M Kd.string _ _ _ (⟨#[98]⟩ : ByteArray) [.string (⟨#[98]⟩ : ByteArray)] from rfl) (Reps.one (show Kd.M Kd.string _ _ _ (⟨#[0]⟩ : ByteArray) [.string (⟨#[0]⟩ : ByteArray)] from rfl) (Reps.none _ _)))))));intro v498 w30 ho31 hb hg_ hnew_;clear hg_ hnew_;(first|rw [← Ny497.out] at ho31|(simp only [Int.reduceToNat] at ho31;rw [← Ny497.out] at ho31));have HO499:=zh (yy ho31 (keep_size (w:=w) (g:=g) (row:=none) jJ));replace BK481:=zh (cD BK481.out jL hb);replace HK:=zh (KeepBut.trans jJ (KeepBut.of_below hb g none) (.inl rfl));replace HB:=zh (zC jO hb);replace HI0:=zh (IsS81.below jP hb);clear hb ho31;obtain ⟨Ao32,co32,eo32⟩:=yk HO499.out;subst eo32)|((with_reducible refine zJ (f:=55) rfl ?_);refine yj (some 35) rfl rfl Try.func55 jA rfl #[.pointer (some ⟨g,0,none⟩),.slice Ao32 y497.length co32] rfl jD ?_;(with_reducible refine (F0q.calls  g s0_0 x1001_3 x1002_3 _ _ y497 t500 t501 t502 w0 _ ?side1 ?side2 ?side3 ?side4 ?side5 A28.out).mono ?_);(case side1=>repeat (with_reducible first|exact HI0.out|apply IsS81.alloc|apply IsS81.drewN|apply IsS81.drew|apply IsS81.set_1|apply IsS81.set_2|refine IsS81.far ?_ NB0_481.out _));(case side2=>repeat (with_reducible first|exact HB.out|apply za|apply zb|apply zc|refine zd ?_ (IsS81.ge HI0.out)|refine zd ?_ GE481.out));(case side3=>repeat (first|exact (yh HO499.out).2.2|(with_reducible refine Kd.C_alloc ?_ _)|(with_reducible refine Kd.C_drewN ?_ _)|(with_reducible refine Kd.C_drew ?_)));(case side4=>exact (yh HO499.out).2.1);(case side5=>exact far_slice (IsS81.own_ne HI0.out HO499.out jB));rintro e w33 ⟨rfl,hi,hb,hk⟩;refine ⟨_,rfl,?_⟩;replace BK481:=zh (KeepBut.blk hk (g':=gb481) (o:=.cells #[.int .i64 0,.int .i64 0,.string (⟨#[]⟩ : ByteArray)] 25 (0,0)) jL NB481_0.out (by simp));replace HO499:=zh (zM (Kd.R_keep (IsS81.apart (show IsS81 w0 _ g s0_0 x1001_3 x1002_3 from by repeat (with_reducible first|exact HI0.out|apply IsS81.alloc|apply IsS81.drewN|apply IsS81.drew|apply IsS81.set_1|apply IsS81.set_2|refine IsS81.far ?_ NB0_481.out _)) jCA jB) hk (fun _ h=>h.2)) (fun _ h=>h.1));replace HK:=zh (KeepBut.trans jJ hk (.inl rfl));replace HB:=zh (hb);replace HI0:=zh (hi);(try clear hb);(try clear hb2);(try clear hk);(try clear hi))|((with_reducible refine zJ (f:=54) rfl ?_);refine yj (some 36) rfl rfl Try.func54 jA rfl #[.string t500] rfl jD ?_;(with_reducible refine (F0r.calls  t500 t503 t504 t505 _ A29.out).mono ?_);rintro e w34 ⟨rfl,hb⟩;refine ⟨_,rfl,?_⟩;replace HO499:=zh (yg jCA hb);replace BK481:=zh (cD BK481.out jL hb);replace HK:=zh (KeepBut.trans jJ (KeepBut.of_below hb g none) (.inl rfl));replace HB:=zh (zC jO hb);replace HI0:=zh (IsS81.below jP hb);(try clear hb);(try clear hb2);(try clear hk);(try clear hi);have hnb35:=NB481_0.out;have hnc35:=NB0_481.out;obtain ⟨hcz36_0,hcz36_1,hcz36_2,hfz36_0,hfz36_1,hfz36_2⟩:=cB3 BK481.out))
      refine bodyPost_ret (results_cell_row rfl _ _ gb481 25 #[.int .i64 t503,.int .i64 t504,.string t505] (0,0) _ rfl (by (with_reducible repeat first|apply ze|apply zf|apply zg);refine zL (cs:=#[.int .i64 t503,.int .i64 t504,.string (⟨#[]⟩ : ByteArray)]) ?_ 2 _ rfl;(with_reducible repeat first|apply ze|apply zf|apply zg);refine zL (cs:=#[.int .i64 t503,.int .i64 0,.string (⟨#[]⟩ : ByteArray)]) ?_ 1 _ rfl;(with_reducible repeat first|apply ze|apply zf|apply zg);refine zL (cs:=#[.int .i64 0,.int .i64 0,.string (⟨#[]⟩ : ByteArray)]) ?_ 0 _ rfl;(with_reducible repeat first|apply ze|apply zf|apply zg);exact BK481.out) Try.underlying25 rfl jA) rfl ?_;exact ⟨jF,jP,jO,jJ⟩
     rw [if_neg c27] at H;have c27b0 : (x5_3 == 4)=false:=zY.mpr c27;have c27b1 : (x5_3 != 4)=true:=zZ.mpr c27
     by_cases c37 : x5_3=5
     ·
      rw [if_pos c37] at H
      have c37b0 : (x5_3 == 5)=true:=ya.mpr c37;have c37b1 : (x5_3 != 5)=false:=zX.mpr c37;clear c37;obtain ⟨y506,hy506⟩ : ∃ y_ : List Int,y_=(([1000000000000,(-1000000000000),300] : List Int)):=⟨_,rfl⟩;replace H : ((F04.f s0_0 x1001_3 x1002_3 3).bind fun bt509=>(if 0≤bt509.1 then (if bt509.1<(y506.length : Int) then ((F0e.f (rd y506 bt509.1)).bind fun bt513=>(some (bt513.1,bt513.2.1,bt513.2.2,bt509.2.1,bt509.2.2))) else (none)) else (none)))=some (r1,r2,r3,r4,r5):=by first|(rw [hy506];with_reducible exact H)|(have H2_:=(Option.bind_some _ _).symm.trans H;rw [hy506];with_reducible exact H2_)|(have H2_:=(Option.bind_some _ _).symm.trans H;with_reducible exact H2_)|with_reducible exact H|(rw [hy506];exact H)|exact H
      have Ny506:=zh hy506;clear hy506;replace H:=zT.mp H;obtain ⟨⟨t509,t510,t511⟩,A380,H⟩:=H;have A38:=zh A380;clear A380
      by_cases c39 : 0≤t509
      ·
       rw [if_pos c39] at H
       have c39b0 : decide (0≤t509)=true:=decide_eq_true c39;clear c39
       by_cases c40 : t509<(y506.length : Int)
       ·
        rw [if_pos c40] at H
        have c40b0 : decide (t509<(y506.length : Int))=true:=decide_eq_true c40;clear c40;replace H:=zT.mp H;obtain ⟨⟨t513,t514,t515⟩,A410,H⟩:=H;have A41:=zh A410;clear A410;simp only [Option.some.injEq,Prod.mk.injEq] at H;obtain ⟨rfl,rfl,rfl,rfl,rfl⟩:=H
        go_wp2_with (first|((with_reducible refine zK (N:=39) rfl ?_);refine Kd.R_lit (Kd.int .i64) _ 3 ?hg (N:=39) ?hd (xs:=([1000000000000,(-1000000000000),300] : List Int)) (inner:=[.int .i64 1000000000000,.int .i64 (-1000000000000),.int .i64 300]) (ok:=fun _=>True) (okp:=fun _=>True) ?hr ?hp (fun _ hk=>hk) trivial (Below.refl _ _) (ye _) (by simp) ?_;(case hd=>rfl);(case hg=>rfl);(case hr=>go_simp <;> rfl);(case hp=>exact (Reps.one (show Kd.M (Kd.int .i64) _ _ _ 1000000000000 [.int .i64 1000000000000] from rfl) (Reps.one (show Kd.M (Kd.int .i64) _ _ _ (-1000000000000) [.int .i64 (-1000000000000)] from rfl) (Reps.one (show Kd.M (Kd.int .i64) _ _ _ 300 [.int .i64 300] from rfl) (Reps.none _ _)))));intro v507 w42 ho43 hb hg_ hnew_;clear hg_ hnew_;(first|rw [← Ny506.out] at ho43|(simp only [Int.reduceToNat] at ho43;rw [← Ny506.out] at ho43));have HO508:=zh (yy ho43 (keep_size (w:=w) (g:=g) (row:=none) jJ));replace BK481:=zh (cD BK481.out jL hb);replace HK:=zh (KeepBut.trans jJ (KeepBut.of_below hb g none) (.inl rfl));replace HB:=zh (zC jO hb);replace HI0:=zh (IsS81.below jP hb);clear hb ho43)|((with_reducible refine zJ (f:=52) rfl ?_);refine yj (some 41) rfl rfl Try.func52 jA rfl #[.pointer (some ⟨g,0,none⟩),.int .i64 3] rfl jD ?_;(with_reducible refine (F04.calls  g s0_0 x1001_3 x1002_3 3 t509 t510 t511 w0 _ ?side1 ?side2 A38.out).mono ?_);(case side1=>repeat (with_reducible first|exact HI0.out|apply IsS81.alloc|apply IsS81.drewN|apply IsS81.drew|apply IsS81.set_1|apply IsS81.set_2|refine IsS81.far ?_ NB0_481.out _));(case side2=>repeat (with_reducible first|exact HB.out|apply za|apply zb|apply zc|refine zd ?_ (IsS81.ge HI0.out)|refine zd ?_ GE481.out));rintro e w44 ⟨rfl,hi,hb,hk⟩;refine ⟨_,rfl,?_⟩;replace BK481:=zh (KeepBut.blk hk (g':=gb481) (o:=.cells #[.int .i64 0,.int .i64 0,.string (⟨#[]⟩ : ByteArray)] 25 (0,0)) jL NB481_0.out (by simp));replace HO508:=zh (zM (Kd.R_keep (IsS81.apart (show IsS81 w0 _ g s0_0 x1001_3 x1002_3 from by repeat (with_reducible first|exact HI0.out|apply IsS81.alloc|apply IsS81.drewN|apply IsS81.drew|apply IsS81.set_1|apply IsS81.set_2|refine IsS81.far ?_ NB0_481.out _)) jCy jB) hk (fun _ h=>h.2)) (fun _ h=>h.1));replace HK:=zh (KeepBut.trans jJ hk (.inl rfl));replace HB:=zh (hb);replace HI0:=zh (hi);(try clear hb);(try clear hb2);(try clear hk);(try clear hi);obtain ⟨Ao45,co45,eo45⟩:=yk HO508.out;subst eo45;have p512 : 0≤(t509 : Int):=zy jE;have q512 : t509<(y506.length : Int):=zy jE;obtain ⟨ad512,e512,hx512_0⟩:=Kd.at_int (yh HO508.out).2.2 t509 p512 q512;cases e512;replace p512:=eq_true p512;replace q512:=eq_true q512)|((with_reducible refine zJ (f:=53) rfl ?_);refine yj (some 44) rfl rfl Try.func53 jA rfl #[.int .i64 (rd y506 t509)] rfl jD ?_;(with_reducible refine (F0e.calls  (rd y506 t509) t513 t514 t515 _ A41.out).mono ?_);rintro e w46 ⟨rfl,hb⟩;refine ⟨_,rfl,?_⟩;replace HO508:=zh (yg jCy hb);replace BK481:=zh (cD BK481.out jL hb);replace HK:=zh (KeepBut.trans jJ (KeepBut.of_below hb g none) (.inl rfl));replace HB:=zh (zC jO hb);replace HI0:=zh (IsS81.below jP hb);(try clear hb);(try clear hb2);(try clear hk);(try clear hi);have hnb47:=NB481_0.out;have hnc47:=NB0_481.out;obtain ⟨hcz48_0,hcz48_1,hcz48_2,hfz48_0,hfz48_1,hfz48_2⟩:=cB3 BK481.out))
        refine bodyPost_ret (results_cell_row rfl _ _ gb481 25 #[.int .i64 t513,.int .i64 t514,.string t515] (0,0) _ rfl (by (with_reducible repeat first|apply ze|apply zf|apply zg);refine zL (cs:=#[.int .i64 t513,.int .i64 t514,.string (⟨#[]⟩ : ByteArray)]) ?_ 2 _ rfl;(with_reducible repeat first|apply ze|apply zf|apply zg);refine zL (cs:=#[.int .i64 t513,.int .i64 0,.string (⟨#[]⟩ : ByteArray)]) ?_ 1 _ rfl;(with_reducible repeat first|apply ze|apply zf|apply zg);refine zL (cs:=#[.int .i64 0,.int .i64 0,.string (⟨#[]⟩ : ByteArray)]) ?_ 0 _ rfl;(with_reducible repeat first|apply ze|apply zf|apply zg);exact BK481.out) Try.underlying25 rfl jA) rfl ?_;exact ⟨jF,jP,jO,jJ⟩
       rw [if_neg c40] at H;exact absurd H (by simp)
      rw [if_neg c39] at H;exact absurd H (by simp)
     rw [if_neg c37] at H;have c37b0 : (x5_3 == 5)=false:=zY.mpr c37;have c37b1 : (x5_3 != 5)=true:=zZ.mpr c37
     by_cases c49 : x5_3=6
     ·
      rw [if_pos c49] at H
      have c49b0 : (x5_3 == 6)=true:=ya.mpr c49;have c49b1 : (x5_3 != 6)=false:=zX.mpr c49;clear c49;obtain ⟨y516,hy516⟩ : ∃ y_ : List (S25),y_=(([] : List (S25))):=⟨_,rfl⟩;replace H : ((F04.f s0_0 x1001_3 x1002_3 4).bind fun bt519=>(F3.l0 D kj17 a1 y516 bt519.1 s0_0 bt519.2.1 bt519.2.2))=some (r1,r2,r3,r4,r5):=by first|(rw [hy516];with_reducible exact H)|(have H2_:=(Option.bind_some _ _).symm.trans H;rw [hy516];with_reducible exact H2_)|(have H2_:=(Option.bind_some _ _).symm.trans H;with_reducible exact H2_)|with_reducible exact H|(rw [hy516];exact H)|exact H
      have Ny516:=zh hy516;clear hy516;replace H:=zT.mp H;obtain ⟨⟨t519,t520,t521⟩,A500,H⟩:=H;have A50:=zh A500;clear A500;have H':=zh H;clear H
      go_wp2_with (first|((with_reducible refine zK (N:=47) rfl ?_);refine Kd.R_lit k25 _ 25 ?hg (N:=47) ?hd (xs:=([] : List (S25))) (inner:=[]) (ok:=fun _=>True) (okp:=fun _=>True) ?hr ?hp (fun _ hk=>hk) trivial (Below.refl _ _) (ye _) (by simp) ?_;(case hd=>rfl);(case hg=>rfl);(case hr=>go_simp <;> rfl);(case hp=>exact (Reps.none _ _));intro v517 w51 ho52 hb hg_ hnew_;clear hg_ hnew_;(first|rw [← Ny516.out] at ho52|(simp only [Int.reduceToNat] at ho52;rw [← Ny516.out] at ho52));have HO518:=zh (yy (Kd.R_newB ho52 (g:=gb481) (o:=.cells #[.int .i64 0,.int .i64 0,.string (⟨#[]⟩ : ByteArray)] 25 (0,0)) jL) (keep_size (w:=w) (g:=g) (row:=none) jJ));replace BK481:=zh (cD BK481.out jL hb);replace HK:=zh (KeepBut.trans jJ (KeepBut.of_below hb g none) (.inl rfl));replace HB:=zh (zC jO hb);replace HI0:=zh (IsS81.below jP hb);clear hb ho52)|((with_reducible refine zJ (f:=52) rfl ?_);refine yj (some 49) rfl rfl Try.func52 jA rfl #[.pointer (some ⟨g,0,none⟩),.int .i64 4] rfl jD ?_;(with_reducible refine (F04.calls  g s0_0 x1001_3 x1002_3 4 t519 t520 t521 w0 _ ?side1 ?side2 A50.out).mono ?_);(case side1=>repeat (with_reducible first|exact HI0.out|apply IsS81.alloc|apply IsS81.drewN|apply IsS81.drew|apply IsS81.set_1|apply IsS81.set_2|refine IsS81.far ?_ NB0_481.out _));(case side2=>repeat (with_reducible first|exact HB.out|apply za|apply zb|apply zc|refine zd ?_ (IsS81.ge HI0.out)|refine zd ?_ GE481.out));rintro e w53 ⟨rfl,hi,hb,hk⟩;refine ⟨_,rfl,?_⟩;replace BK481:=zh (KeepBut.blk hk (g':=gb481) (o:=.cells #[.int .i64 0,.int .i64 0,.string (⟨#[]⟩ : ByteArray)] 25 (0,0)) jL NB481_0.out (by simp));replace HO518:=zh (zM (Kd.R_keep (IsS81.apart (show IsS81 w0 _ g s0_0 x1001_3 x1002_3 from by repeat (with_reducible first|exact HI0.out|apply IsS81.alloc|apply IsS81.drewN|apply IsS81.drew|apply IsS81.set_1|apply IsS81.set_2|refine IsS81.far ?_ NB0_481.out _)) (by (with_reducible repeat (first|apply zm|apply zn|apply zo));exact HO518.out) jB) hk (fun _ h=>h.2)) (fun _ h=>h.1));replace HK:=zh (KeepBut.trans jJ hk (.inl rfl));replace HB:=zh (hb);replace HI0:=zh (hi);(try clear hb);(try clear hb2);(try clear hk);(try clear hi)))
      go_loopg [6,7] kj17 (fun kq v6 v7 w' => ∃ (x6_3 : List (S25)) (x7_3 : Int) (x1001_3 : Int) (x1002_3 : Int),v7 = .int .i64 x7_3∧Aside0 (F3.l0 D kq a1 x6_3 x7_3 s0_0 x1001_3 x1002_3=some (r1,r2,r3,r4,r5))∧Aside0 (kq≤kj17)∧Aside0 (Kd.R k25 25 w' w.heap.size (fun k_=>k_≠gb481) v6 x6_3)∧Aside0 (w'.heap[gb481]? = some (.cells #[.int .i64 0,.int .i64 0,.string (⟨#[]⟩ : ByteArray)] 25 (0,0)))∧Aside0 (IsS81 w0 w' g s0_0 x1001_3 x1002_3)∧Aside0 (KeepBut w w' g none)∧Aside0 (Below w0.heap.size w0 w'))
      case atStart=>exact ⟨(y516),(t519),(t520),(t521),jC,H',⟨ye _⟩,⟨by (with_reducible repeat (first|apply zm|apply zn|apply zo));exact zM HO518.out (fun _ hk=>hk.2)⟩,⟨jL⟩,⟨jP⟩,⟨jJ⟩,⟨jO⟩⟩
      case round =>
       clear H'
       try clear c1 c2
       try clear p2
       try clear c3 c4 c5
       try clear p5
       try clear q5
       try clear hx5
       try clear p6
       try clear c7 c7b0 c7b1 c10 c10b0 c10b1 c11 c13 c13b0 c13b1 c16 c19 c19b0 c19b1 c20 c25 c27 c27b0 c27b1 c32 c35 c37 c37b0 c37b1 c39 c39b0 c40 c40b0 c47 c49 c49b0 c49b1
       try clear p51
       try clear q51
       try clear hx51
       try clear c52 c53
       try clear hcz12_0 hcz12_1 hcz12_2
       try clear hcz17_0 hcz17_1 hcz17_2
       try clear hcz26_0 hcz26_1 hcz26_2
       try clear hcz36_0 hcz36_1 hcz36_2
       try clear hcz48_0 hcz48_1 hcz48_2
       try clear hfz12_0 hfz12_1 hfz12_2
       try clear hfz17_0 hfz17_1 hfz17_2
       try clear hfz26_0 hfz26_1 hfz26_2
       try clear hfz36_0 hfz36_1 hfz36_2
       try clear hfz48_0 hfz48_1 hfz48_2
       try clear hx512_0
       try clear p2
       try clear p512
       try clear q512
       obtain ⟨x6_3,x7_3,x1001_3,x1002_3,rfl,HA,HK3,HO_6,BK481,HI0,HK,HB⟩:=hrel
       cases gk with
       | zero=>exact absurd HA.out (by simp [F3.l0])
       | succ k3 =>
        have H:=HA.out;clear HA;simp only [F3.l0] at H
        by_cases c54 : x7_3 > 0
        ·
         rw [if_pos c54] at H
         have c54b0 : decide (0<x7_3)=true:=decide_eq_true c54;clear c54;replace H:=zT.mp H;obtain ⟨⟨t522,t523,t524,t525,t526⟩,A550,H⟩:=H;have A55:=zh A550;clear A550
         by_cases c56 : x6_3.length<4398046511104
         ·
          rw [if_pos c56] at H
          have LMc56:=zh c56;clear c56;obtain ⟨y527,hy527⟩ : ∃ y_ : List (S25),y_=(x6_3 ++ [(⟨t522,t523,t524⟩ : S25)]):=⟨_,rfl⟩;replace H : (F3.l0 D k3 a1 y527 (wrap64 (x7_3 - 1)) s0_0 t525 t526)=some (r1,r2,r3,r4,r5):=by first|(rw [hy527];with_reducible exact H)|(have H2_:=(Option.bind_some _ _).symm.trans H;rw [hy527];with_reducible exact H2_)|(have H2_:=(Option.bind_some _ _).symm.trans H;with_reducible exact H2_)|with_reducible exact H|(rw [hy527];exact H)|exact H
          have Ny527:=zh hy527;clear hy527;have H':=zh H;clear H
          go_wp2_with (first|((with_reducible refine zJ (f:=32) rfl ?_);refine yj (some 58) rfl rfl Try.func32 jA rfl #[.pointer (some ⟨g,0,none⟩),.int .i64 (wrap64 (a1 - 1))] rfl jD ?_;(with_reducible refine (ih k3 (by have:=HJ3.out;have:=HJ17.out;have:=HK3.out;omega)  g s0_0 x1001_3 x1002_3 (wrap64 (a1 - 1)) t522 t523 t524 t525 t526 w0 _ ?side1 ?side2 A55.out).mono ?_);(case side1=>repeat (with_reducible first|exact HI0.out|apply IsS81.alloc|apply IsS81.drewN|apply IsS81.drew|apply IsS81.set_1|apply IsS81.set_2|refine IsS81.far ?_ NB0_481.out _));(case side2=>repeat (with_reducible first|exact HB.out|apply za|apply zb|apply zc|refine zd ?_ (IsS81.ge HI0.out)|refine zd ?_ GE481.out));rintro e w57 ⟨rfl,hi,hb,hk⟩;refine ⟨_,rfl,?_⟩;replace HO_6:=zh (zM (Kd.R_keep (IsS81.apart (show IsS81 w0 _ g s0_0 x1001_3 x1002_3 from by repeat (with_reducible first|exact HI0.out|apply IsS81.alloc|apply IsS81.drewN|apply IsS81.drew|apply IsS81.set_1|apply IsS81.set_2|refine IsS81.far ?_ NB0_481.out _)) jk jB) hk (fun _ h=>h.2)) (fun _ h=>h.1));replace BK481:=zh (KeepBut.blk hk (g':=gb481) (o:=.cells #[.int .i64 0,.int .i64 0,.string (⟨#[]⟩ : ByteArray)] 25 (0,0)) jL NB481_0.out (by simp));replace HK:=zh (KeepBut.trans jJ hk (.inl rfl));replace HB:=zh (hb);replace HI0:=zh (hi);(try clear hb);(try clear hb2);(try clear hk);(try clear hi))|((with_reducible refine yB (b:=.append) (xs:=#[.tmp 54,.tmp 59]) rfl ?_);at_builtin;refine Kd.R_append k25 w.heap.size rfl (.tmp 54) (.tmp 59) 34 25 (.agg #[(.int .i64 0),(.int .i64 0),(.string ⟨#[]⟩)]) 32 rfl Try.underlying34 info25 rfl jB jH u6 x6_3 (⟨t522,t523,t524⟩ : S25) [.int .i64 t522,.int .i64 t523,.string t524] (fun k_=>k_≠gb481) (fun _=>False) rfl rfl ?aP (fun _ hk=>hk.elim) ?aF ?aO (Below.refl _ _) ?aS ?aL ?_;(case aP=>exact k25_mkM _ _ _ (⟨t522,t523,t524⟩ : S25));(case aF=>exact (fun k_ hk=>Kd.freshB (g:=gb481) (o:=.cells #[.int .i64 0,.int .i64 0,.string (⟨#[]⟩ : ByteArray)] 25 (0,0)) jL k_ hk));(case aO=>exact jk);(case aS=>exact (keep_size (w:=w) (g:=g) (row:=none) jJ));(case aL=>have:=LMc56.out;omega);intro v528 w58 ho hb hg hat;rw [← Ny527.out] at ho;replace BK481:=zh (yw (g:=gb481) (o:=.cells #[.int .i64 0,.int .i64 0,.string (⟨#[]⟩ : ByteArray)] 25 (0,0)) jL hg (yv HO_6.out (fun _ hk=>hk)));replace HB:=zh (below_weaken jO HL.out hb);replace HI0:=zh (IsS81.grown jP hg (IsS81.own_ne HI0.out HO_6.out jB));replace HK:=zh (KeepBut.trans jJ (KeepBut.of_grown hg g) (Kd.R_base2 HO_6.out));have HO529:=zh (ho);clear HO_6 ho hb hg hat))
          go_roundg k3
          case measure=>have:=HJ3.out;have:=HJ17.out;have:=HK3.out;omega
          case rel=>exact ⟨(y527),(wrap64 (x7_3 - 1)),(t525),(t526),jC,H',⟨by have:=HJ3.out;have:=HJ17.out;have:=HK3.out;omega⟩,⟨by (with_reducible repeat (first|apply zm|apply zn|apply zo));exact HO529.out⟩,⟨jL⟩,⟨jP⟩,⟨jJ⟩,⟨jO⟩⟩
         rw [if_neg c56] at H;exact absurd H (by simp)
        rw [if_neg c54] at H;have c54b0 : decide (0<x7_3)=false:=decide_eq_false c54;clear c54;replace H:=zT.mp H;obtain ⟨⟨t530,t531,t532⟩,A590,H⟩:=H;have A59:=zh A590;clear A590;replace H:=zT.mp H;obtain ⟨t534,A600,H⟩:=H;have A60:=zh A600;clear A600
        by_cases c61 : t534=true
        ·
         subst c61
         rw [if_pos rfl] at H;simp only [Option.some.injEq,Prod.mk.injEq] at H;obtain ⟨rfl,rfl,rfl,rfl,rfl⟩:=H;obtain ⟨Ao62,co62,eo62⟩:=yk HO_6.out;subst eo62
         go_wp2_with (first|((with_reducible refine zJ (f:=35) rfl ?_);refine yj (some 62) rfl rfl Try.func35 jA rfl #[.slice Ao62 x6_3.length co62] rfl jD ?_;(with_reducible refine (Fo.calls k3  _ _ x6_3 t530 t531 t532 _ ?side1 ?side2 A59.out).mono ?_);(case side1=>repeat (first|exact (yh HO_6.out).2.2|(with_reducible refine Kd.C_alloc ?_ _)|(with_reducible refine Kd.C_drewN ?_ _)|(with_reducible refine Kd.C_drew ?_)));(case side2=>exact (yh HO_6.out).2.1);rintro e w63 ⟨rfl,hb⟩;refine ⟨_,rfl,?_⟩;replace HO_6:=zh (yg jk hb);replace BK481:=zh (cD BK481.out jL hb);replace HK:=zh (KeepBut.trans jJ (KeepBut.of_below hb g none) (.inl rfl));replace HB:=zh (zC jO hb);replace HI0:=zh (IsS81.below jP hb);(try clear hb);(try clear hb2);(try clear hk);(try clear hi))|((with_reducible refine zK (N:=8) rfl ?_);refine zI ?hg (N:=8) ?hd (cs:=#[.int .i64 0,.int .i64 0,.string (⟨#[]⟩ : ByteArray)]) (t:=25) ?hr ?_;(case hd=>rfl);(case hg=>rfl);(case hr=>go_simp <;> rfl);intro gb533 hg w64 hbox hb;replace HO_6:=zh (yg (Kd.R_elderB jk gb533 (Nat.le_of_eq hg.symm)) hb);replace HB:=zh (zC jO hb);have BK533:=zh (hbox);have GW533:=zh ((jAf : w.heap.size≤gb533));have GE533:=zh ((Nat.le_trans HW0.out (jAf : w.heap.size≤gb533) : w0.heap.size≤gb533));replace HK:=zh (KeepBut.trans jJ (KeepBut.of_below hb g none) (.inl rfl));have NB481_533:=zh ((jBf : gb481≠gb533));have NB533_481:=zh NB481_533.out.symm;replace BK481:=zh (cD BK481.out jL hb);have NB0_533:=zh ((jCz : g≠gb533));have NB533_0:=zh ((jC0 : gb533≠g));replace HI0:=zh (IsS81.below jP hb);clear hb hbox hg;have hnb65:=NB533_481.out;have hnc65:=NB481_533.out;have hnb66:=NB533_0.out;have hnc66:=NB0_533.out;obtain ⟨hcz67_0,hcz67_1,hcz67_2,hfz67_0,hfz67_1,hfz67_2⟩:=cB3 BK533.out)|((with_reducible refine zJ (f:=20) rfl ?_);refine yj (some 64) rfl rfl Try.func20 jA rfl #[.agg #[.int .i64 t530,.int .i64 t531,.string t532]] rfl jD ?_;(with_reducible refine (Fr.calls k3  t530 t531 t532 true _ A60.out).mono ?_);rintro e w68 ⟨rfl,hb⟩;refine ⟨_,rfl,?_⟩;replace HO_6:=zh (yg jC1 hb);replace BK481:=zh (cD BK481.out jC2 hb);replace BK533:=zh (zD (g:=gb533) (o:=.cells #[.int .i64 t530,.int .i64 t531,.string t532] 25 (0,0)) jC3 hb);replace HK:=zh (KeepBut.trans jBK (KeepBut.of_below hb g none) (.inl rfl));replace HB:=zh (zC jBL hb);replace HI0:=zh (IsS81.below (show IsS81 w0 (((w64.setCell ⟨gb533,0,none⟩ (.int .i64 t530)).setCell ⟨gb533,1,none⟩ (.int .i64 t531)).setCell ⟨gb533,2,none⟩ (.string t532)) g s0_0 x1001_3 x1002_3 from by repeat (with_reducible first|exact HI0.out|apply IsS81.alloc|apply IsS81.drewN|apply IsS81.drew|apply IsS81.set_1|apply IsS81.set_2|refine IsS81.far ?_ NB0_481.out _|refine IsS81.far ?_ NB0_533.out _)) hb);(try clear hb);(try clear hb2);(try clear hk);(try clear hi);obtain ⟨hcz69_0,hcz69_1,hcz69_2,hfz69_0,hfz69_1,hfz69_2⟩:=cB3 BK533.out;have hnb70:=NB481_0.out;have hnc70:=NB0_481.out;obtain ⟨hcz71_0,hcz71_1,hcz71_2,hfz71_0,hfz71_1,hfz71_2⟩:=cB3 BK481.out))
         refine bodyPost_ret (results_cell_row rfl _ _ gb481 25 #[.int .i64 t530,.int .i64 t531,.string t532] (0,0) _ rfl (by (with_reducible repeat first|apply ze|apply zf|apply zg);refine zL (cs:=#[.int .i64 t530,.int .i64 t531,.string (⟨#[]⟩ : ByteArray)]) ?_ 2 _ rfl;(with_reducible repeat first|apply ze|apply zf|apply zg);refine zL (cs:=#[.int .i64 t530,.int .i64 0,.string (⟨#[]⟩ : ByteArray)]) ?_ 1 _ rfl;(with_reducible repeat first|apply ze|apply zf|apply zg);refine zL (cs:=#[.int .i64 0,.int .i64 0,.string (⟨#[]⟩ : ByteArray)]) ?_ 0 _ rfl;(with_reducible repeat first|apply ze|apply zf|apply zg);exact BK481.out) Try.underlying25 rfl jA) rfl ?_;exact ⟨jF,jCB,jBL,jBK⟩
        replace c61:=yb.mpr c61;subst c61;rw [if_neg (show ¬ (false=true) by decide)] at H;replace H:=zT.mp H;obtain ⟨⟨t535,t536,t537⟩,A720,H⟩:=H;have A72:=zh A720;clear A720;simp only [Option.some.injEq,Prod.mk.injEq] at H;obtain ⟨rfl,rfl,rfl,rfl,rfl⟩:=H;obtain ⟨Ao73,co73,eo73⟩:=yk HO_6.out;subst eo73
        go_wp2_with (first|((with_reducible refine zJ (f:=35) rfl ?_);refine yj (some 62) rfl rfl Try.func35 jA rfl #[.slice Ao73 x6_3.length co73] rfl jD ?_;(with_reducible refine (Fo.calls k3  _ _ x6_3 t530 t531 t532 _ ?side1 ?side2 A59.out).mono ?_);(case side1=>repeat (first|exact (yh HO_6.out).2.2|(with_reducible refine Kd.C_alloc ?_ _)|(with_reducible refine Kd.C_drewN ?_ _)|(with_reducible refine Kd.C_drew ?_)));(case side2=>exact (yh HO_6.out).2.1);rintro e w74 ⟨rfl,hb⟩;refine ⟨_,rfl,?_⟩;replace HO_6:=zh (yg jk hb);replace BK481:=zh (cD BK481.out jL hb);replace HK:=zh (KeepBut.trans jJ (KeepBut.of_below hb g none) (.inl rfl));replace HB:=zh (zC jO hb);replace HI0:=zh (IsS81.below jP hb);(try clear hb);(try clear hb2);(try clear hk);(try clear hi))|((with_reducible refine zK (N:=8) rfl ?_);refine zI ?hg (N:=8) ?hd (cs:=#[.int .i64 0,.int .i64 0,.string (⟨#[]⟩ : ByteArray)]) (t:=25) ?hr ?_;(case hd=>rfl);(case hg=>rfl);(case hr=>go_simp <;> rfl);intro gb533 hg w75 hbox hb;replace HO_6:=zh (yg (Kd.R_elderB jk gb533 (Nat.le_of_eq hg.symm)) hb);replace HB:=zh (zC jO hb);have BK533:=zh (hbox);have GW533:=zh ((jAf : w.heap.size≤gb533));have GE533:=zh ((Nat.le_trans HW0.out (jAf : w.heap.size≤gb533) : w0.heap.size≤gb533));replace HK:=zh (KeepBut.trans jJ (KeepBut.of_below hb g none) (.inl rfl));have NB481_533:=zh ((jBf : gb481≠gb533));have NB533_481:=zh NB481_533.out.symm;replace BK481:=zh (cD BK481.out jL hb);have NB0_533:=zh ((jCz : g≠gb533));have NB533_0:=zh ((jC0 : gb533≠g));replace HI0:=zh (IsS81.below jP hb);clear hb hbox hg;have hnb76:=NB533_481.out;have hnc76:=NB481_533.out;have hnb77:=NB533_0.out;have hnc77:=NB0_533.out;obtain ⟨hcz78_0,hcz78_1,hcz78_2,hfz78_0,hfz78_1,hfz78_2⟩:=cB3 BK533.out)|((with_reducible refine zJ (f:=20) rfl ?_);refine yj (some 64) rfl rfl Try.func20 jA rfl #[.agg #[.int .i64 t530,.int .i64 t531,.string t532]] rfl jD ?_;(with_reducible refine (Fr.calls k3  t530 t531 t532 false _ A60.out).mono ?_);rintro e w79 ⟨rfl,hb⟩;refine ⟨_,rfl,?_⟩;replace HO_6:=zh (yg jC1 hb);replace BK481:=zh (cD BK481.out jC2 hb);replace BK533:=zh (zD (g:=gb533) (o:=.cells #[.int .i64 t530,.int .i64 t531,.string t532] 25 (0,0)) jC3 hb);replace HK:=zh (KeepBut.trans jBK (KeepBut.of_below hb g none) (.inl rfl));replace HB:=zh (zC jBL hb);replace HI0:=zh (IsS81.below (show IsS81 w0 (((w75.setCell ⟨gb533,0,none⟩ (.int .i64 t530)).setCell ⟨gb533,1,none⟩ (.int .i64 t531)).setCell ⟨gb533,2,none⟩ (.string t532)) g s0_0 x1001_3 x1002_3 from by repeat (with_reducible first|exact HI0.out|apply IsS81.alloc|apply IsS81.drewN|apply IsS81.drew|apply IsS81.set_1|apply IsS81.set_2|refine IsS81.far ?_ NB0_481.out _|refine IsS81.far ?_ NB0_533.out _)) hb);(try clear hb);(try clear hb2);(try clear hk);(try clear hi))|((with_reducible refine zJ (f:=53) rfl ?_);refine yj (some 66) rfl rfl Try.func53 jA rfl #[.int .i64 1] rfl jD ?_;(with_reducible refine (F0e.calls  1 t535 t536 t537 _ A72.out).mono ?_);rintro e w80 ⟨rfl,hb⟩;refine ⟨_,rfl,?_⟩;replace HO_6:=zh (yg jk hb);replace BK481:=zh (cD BK481.out jL hb);replace BK533:=zh (cD BK533.out (by (with_reducible repeat first|apply ze|apply zf|apply zg);exact BK533.out) hb);replace HK:=zh (KeepBut.trans jBK (KeepBut.of_below hb g none) (.inl rfl));replace HB:=zh (zC jBL hb);replace HI0:=zh (IsS81.below jCB hb);(try clear hb);(try clear hb2);(try clear hk);(try clear hi);have hnb81:=NB481_0.out;have hnc81:=NB0_481.out;obtain ⟨hcz82_0,hcz82_1,hcz82_2,hfz82_0,hfz82_1,hfz82_2⟩:=cB3 BK481.out))
        refine bodyPost_ret (results_cell_row rfl _ _ gb481 25 #[.int .i64 t535,.int .i64 t536,.string t537] (0,0) _ rfl (by (with_reducible repeat first|apply ze|apply zf|apply zg);refine zL (cs:=#[.int .i64 t535,.int .i64 t536,.string (⟨#[]⟩ : ByteArray)]) ?_ 2 _ rfl;(with_reducible repeat first|apply ze|apply zf|apply zg);refine zL (cs:=#[.int .i64 t535,.int .i64 0,.string (⟨#[]⟩ : ByteArray)]) ?_ 1 _ rfl;(with_reducible repeat first|apply ze|apply zf|apply zg);refine zL (cs:=#[.int .i64 0,.int .i64 0,.string (⟨#[]⟩ : ByteArray)]) ?_ 0 _ rfl;(with_reducible repeat first|apply ze|apply zf|apply zg);exact BK481.out) Try.underlying25 rfl jA) rfl ?_;exact ⟨jF,jCB,jBL,jBK⟩
     rw [if_neg c49] at H;have c49b0 : (x5_3 == 6)=false:=zY.mpr c49;have c49b1 : (x5_3 != 6)=true:=zZ.mpr c49;replace H:=zT.mp H;obtain ⟨⟨t538,t539,t540,t541,t542⟩,A830,H⟩:=H;have A83:=zh A830;clear A830;simp only [Option.some.injEq,Prod.mk.injEq] at H;obtain ⟨rfl,rfl,rfl,rfl,rfl⟩:=H
     go_wp2_with (first|((with_reducible refine zJ (f:=56) rfl ?_);refine yj (some 71) rfl rfl Try.func56 jA rfl #[.pointer (some ⟨g,0,none⟩),.int .i64 (wrap64 (a1 - 1))] rfl jD ?_;(with_reducible refine (D.calls kj17  g s0_0 x1001_3 x1002_3 (wrap64 (a1 - 1)) t538 t539 t540 t541 t542 w0 _ ?side1 ?side2 A83.out).mono ?_);(case side1=>repeat (with_reducible first|exact HI0.out|apply IsS81.alloc|apply IsS81.drewN|apply IsS81.drew|apply IsS81.set_1|apply IsS81.set_2|refine IsS81.far ?_ NB0_481.out _));(case side2=>repeat (with_reducible first|exact HB.out|apply za|apply zb|apply zc|refine zd ?_ (IsS81.ge HI0.out)|refine zd ?_ GE481.out));rintro e w84 ⟨rfl,hi,hb,hk⟩;refine ⟨_,rfl,?_⟩;replace BK481:=zh (KeepBut.blk hk (g':=gb481) (o:=.cells #[.int .i64 0,.int .i64 0,.string (⟨#[]⟩ : ByteArray)] 25 (0,0)) jL NB481_0.out (by simp));replace HK:=zh (KeepBut.trans jJ hk (.inl rfl));replace HB:=zh (hb);replace HI0:=zh (hi);(try clear hb);(try clear hb2);(try clear hk);(try clear hi);have hnb85:=NB481_0.out;have hnc85:=NB0_481.out;obtain ⟨hcz86_0,hcz86_1,hcz86_2,hfz86_0,hfz86_1,hfz86_2⟩:=cB3 BK481.out))
     refine bodyPost_ret (results_cell_row rfl _ _ gb481 25 #[.int .i64 t538,.int .i64 t539,.string t540] (0,0) _ rfl (by (with_reducible repeat first|apply ze|apply zf|apply zg);refine zL (cs:=#[.int .i64 t538,.int .i64 t539,.string (⟨#[]⟩ : ByteArray)]) ?_ 2 _ rfl;(with_reducible repeat first|apply ze|apply zf|apply zg);refine zL (cs:=#[.int .i64 t538,.int .i64 0,.string (⟨#[]⟩ : ByteArray)]) ?_ 1 _ rfl;(with_reducible repeat first|apply ze|apply zf|apply zg);refine zL (cs:=#[.int .i64 0,.int .i64 0,.string (⟨#[]⟩ : ByteArray)]) ?_ 0 _ rfl;(with_reducible repeat first|apply ze|apply zf|apply zg);exact BK481.out) Try.underlying25 rfl jA) rfl ?_;exact ⟨jF,jP,jO,jJ⟩

def drawNone : DrawD:=⟨fun _ _ _ _ _=>none,fun _ _ _ _ _=>zN _,fun _ _ _ _ _ _ _ _ _ _ _ _ _ _ _ h=>by cases h⟩
def drawOf (D : DrawD) : DrawV:=⟨F3.f D,F3.mono D,F3.calls D⟩
def docOf_ (V : DrawV) : DrawD:=⟨Fh.f V,Fh.mono V,Fh.calls V⟩
def drawV : Nat→DrawV
 | 0=>drawOf drawNone
 | d+1=>drawOf (docOf_ (drawV d))
end Go.Proofs.Ytoinoihiknmnmaa.Q
end
section
namespace Go.Proofs.Ytoinoihiknmnmaa.Q
open Go.RowKit Go.Proofs.YtoinoihiknmnmaaW.PrintWords Go.Proofs.YtoinoihiknmnmaaW.PrintLast Go.Proofs.YtoinoihiknmnmaaW.PrintMore
attribute [local go_sem] max2_int min2_int max_two min_two max_three min_three max_four min_four max2_str min2_str str_geq str_gtr str_leq
set_option linter.unusedVariables false
set_option linter.unusedSimpArgs false

def Fk.l0 : Nat→Int→List (S25)→Int→List Int→Int→Int→Option ((List (S25)))
 | 0,_,_,_,_,_,_=>none
 | k+1,x1,x6,x7,x547000,x547001,x547002=>if x7<x1 then (((drawV 4).f k x547000 x547001 x547002 2).bind fun bt550=>(if x6.length<4398046511104 then (Fk.l0 k x1 (x6 ++ [(⟨bt550.1,bt550.2.1,bt550.2.2.1⟩ : S25)]) (wrap64 (x7+1)) x547000 bt550.2.2.2.1 bt550.2.2.2.2) else (none))) else (some x6)
def Fk.f (k : Nat) (l0 : List Int) (a1 : Int) : Option ((List (S25))):=(F0v.f l0).bind fun bt543=>(Fk.l0 k a1 (([] : List (S25))) 0 bt543.1 bt543.2.1 bt543.2.2)
theorem Fk.mono_l : ∀ k,(∀ y0 y1 y2 y3 y4 y5,LeO (Fk.l0 k y0 y1 y2 y3 y4 y5) (Fk.l0 (k+1) y0 y1 y2 y3 y4 y5))
 | 0=>fun _ _ _ _ _ _ r h=>by simp [Fk.l0] at h
 | k+1=>by
  have ih0:=Fk.mono_l k;intro y0 y1 y2 y3 y4 y5;unfold Fk.l0
  repeat' first|(with_reducible first|exact ih0 _ _ _ _ _ _|exact (drawV 4).mono _ _ _ _ _|exact zQ _|exact zN _|refine zP ?_ ?_|refine zO ?_ (fun _=>?_))|refine zP ?_ ?_|refine zO ?_ (fun _=>?_)
theorem Fk.mono : ∀ a0 a1 k,LeO (Fk.f k a0 a1) (Fk.f (k+1) a0 a1):=by
 intro a0 a1 k;have ih0:=Fk.mono_l k;unfold Fk.f
 repeat' first|(with_reducible first|exact ih0 _ _ _ _ _ _|exact (drawV 4).mono _ _ _ _ _|exact zQ _|exact zN _|refine zP ?_ ?_|refine zO ?_ (fun _=>?_))|refine zP ?_ ?_|refine zO ?_ (fun _=>?_)
set_option maxHeartbeats 8000000 in
set_option maxRecDepth 100000 in
theorem Fk.calls (k : Nat) (A0 : Option Addr) (c0 : Nat) (l0 : List Int) (a1 : Int) (r : List (S25)) (w : World) (hr0 : Kd.C (Kd.int .u8) w A0 l0.length l0) (hc0 : l0.length≤c0) (h : Fk.f k l0 a1=some r) :
  Calls Try.prog 11 #[.slice A0 l0.length c0,.int .i64 a1] w fun e w' => ∃ v0_ : Value,e = .returned (v0_)∧Kd.R k25 25 w' w.heap.size (fun _=>True) v0_ r∧Below w.heap.size w w':=by
 have HR0:=zh hr0;have HC0:=zh hc0;clear hr0 hc0;have HB:=zh (Below.refl w.heap.size w);have H : ((F0v.f l0).bind fun bt543=>(Fk.l0 k a1 (([] : List (S25))) 0 bt543.1 bt543.2.1 bt543.2.2))=some r:=h;clear h;replace H:=zT.mp H;obtain ⟨⟨t543,t544,t545⟩,A30,H⟩:=H;have A3:=zh A30;clear A30;obtain ⟨y547,hy547⟩ : ∃ y_ : List (S25),y_=(([] : List (S25))):=⟨_,rfl⟩;replace H : (Fk.l0 k a1 y547 0 t543 t544 t545)=some r:=by first|(rw [hy547];with_reducible exact H)|(have H2_:=(Option.bind_some _ _).symm.trans H;rw [hy547];with_reducible exact H2_)|(have H2_:=(Option.bind_some _ _).symm.trans H;with_reducible exact H2_)|with_reducible exact H|(rw [hy547];exact H)|exact H
 have Ny547:=zh hy547;clear hy547;have H':=zh H;clear H
 go_enter Try.func11,Try.ntmps11
 go_wp2_with (first|((with_reducible refine zJ (f:=31) rfl ?_);refine yj (some 9) rfl rfl Try.func31 jA rfl #[.slice A0 l0.length c0] rfl jD ?_;(with_reducible refine (F0v.calls  _ _ l0 t543 t544 t545 w _ ?side1 ?side2 ?side3 A3.out).mono ?_);(case side1=>repeat (with_reducible first|exact HB.out|apply za|apply zb|apply zc));(case side2=>exact HR0.out);(case side3=>exact HC0.out);rintro e w4 ⟨g546,rfl,hi,hb,hb2⟩;refine ⟨_,rfl,?_⟩;replace HB:=zh (hb);have HI546:=zh (hi);(try clear hb);(try clear hb2);(try clear hk);(try clear hi))|((with_reducible refine zK (N:=10) rfl ?_);refine Kd.R_lit k25 _ 25 ?hg (N:=10) ?hd (xs:=([] : List (S25))) (inner:=[]) (ok:=fun _=>True) (okp:=fun _=>True) ?hr ?hp (fun _ hk=>hk) trivial (Below.refl _ _) (ye _) (by simp) ?_;(case hd=>rfl);(case hg=>rfl);(case hr=>go_simp <;> rfl);(case hp=>exact (Reps.none _ _));intro v548 w5 ho6 hb hg_ hnew_;clear hg_ hnew_;(first|rw [← Ny547.out] at ho6|(simp only [Int.reduceToNat] at ho6;rw [← Ny547.out] at ho6));have HO549:=zh (yy ho6 (zB jAw));replace HB:=zh (zC jAw hb);replace HI546:=zh (IsS81.below jBh hb);clear hb ho6))
 go_loopg [6,7] k (fun kq v6 v7 w' => ∃ (x6_1 : List (S25)) (x7_1 : Int) (x547001_1 : Int) (x547002_1 : Int),v7 = .int .i64 x7_1∧Aside0 (Fk.l0 kq a1 x6_1 x7_1 t543 x547001_1 x547002_1=some r)∧Aside0 (kq≤k)∧Aside0 (Kd.R k25 25 w' w.heap.size (fun _=>True) v6 x6_1)∧Aside0 (IsS81 w w' g546 t543 x547001_1 x547002_1)∧Aside0 (Below w.heap.size w w'))
 case atStart=>exact ⟨(y547),(0),(t544),(t545),jC,H',⟨ye _⟩,⟨by (with_reducible repeat (first|apply zm|apply zn|apply zo));exact HO549.out⟩,⟨jBh⟩,⟨jAw⟩⟩
 case round =>
  clear H'
  try clear c1
  try clear p2
  try clear c3
  obtain ⟨x6_1,x7_1,x547001_1,x547002_1,rfl,HA,HK1,HO_6,HI546,HB⟩:=hrel
  cases gk with
  | zero=>exact absurd HA.out (by simp [Fk.l0])
  | succ k1 =>
   have H:=HA.out;clear HA;simp only [Fk.l0] at H
   by_cases c7 : x7_1<a1
   ·
    rw [if_pos c7] at H
    have c7b0 : decide (x7_1<a1)=true:=decide_eq_true c7;clear c7;replace H:=zT.mp H;obtain ⟨⟨t550,t551,t552,t553,t554⟩,A80,H⟩:=H;have A8:=zh A80;clear A80
    by_cases c9 : x6_1.length<4398046511104
    ·
     rw [if_pos c9] at H
     have LMc9:=zh c9;clear c9;obtain ⟨y555,hy555⟩ : ∃ y_ : List (S25),y_=(x6_1 ++ [(⟨t550,t551,t552⟩ : S25)]):=⟨_,rfl⟩;replace H : (Fk.l0 k1 a1 y555 (wrap64 (x7_1+1)) t543 t553 t554)=some r:=by first|(rw [hy555];with_reducible exact H)|(have H2_:=(Option.bind_some _ _).symm.trans H;rw [hy555];with_reducible exact H2_)|(have H2_:=(Option.bind_some _ _).symm.trans H;with_reducible exact H2_)|with_reducible exact H|(rw [hy555];exact H)|exact H
     have Ny555:=zh hy555;clear hy555;have H':=zh H;clear H
     go_wp2_with (first|((with_reducible refine zJ (f:=32) rfl ?_);refine yj (some 18) rfl rfl Try.func32 jA rfl #[.pointer (some ⟨g546,0,none⟩),.int .i64 2] rfl jD ?_;(with_reducible refine ((drawV 4).calls k1  g546 t543 x547001_1 x547002_1 2 t550 t551 t552 t553 t554 w _ ?side1 ?side2 A8.out).mono ?_);(case side1=>repeat (with_reducible first|exact HI546.out|apply IsS81.alloc|apply IsS81.drewN|apply IsS81.drew|apply IsS81.set_1|apply IsS81.set_2));(case side2=>repeat (with_reducible first|exact HB.out|apply za|apply zb|apply zc|refine zd ?_ (IsS81.ge HI546.out)));rintro e w10 ⟨rfl,hi,hb,hk⟩;refine ⟨_,rfl,?_⟩;replace HO_6:=zh (zM (Kd.R_keep (IsS81.apart (show IsS81 w _ g546 t543 x547001_1 x547002_1 from by repeat (with_reducible first|exact HI546.out|apply IsS81.alloc|apply IsS81.drewN|apply IsS81.drew|apply IsS81.set_1|apply IsS81.set_2)) jk jB) hk (fun _ h=>h.2)) (fun _ h=>h.1));replace HB:=zh (hb);replace HI546:=zh (hi);(try clear hb);(try clear hb2);(try clear hk);(try clear hi))|((with_reducible refine yB (b:=.append) (xs:=#[.tmp 16,.tmp 19]) rfl ?_);at_builtin;refine Kd.R_append k25 (w0:=w) w.heap.size rfl (.tmp 16) (.tmp 19) 34 25 (.agg #[(.int .i64 0),(.int .i64 0),(.string ⟨#[]⟩)]) 32 rfl Try.underlying34 info25 rfl jB jH u6 x6_1 (⟨t550,t551,t552⟩ : S25) [.int .i64 t550,.int .i64 t551,.string t552] (fun _=>True) (fun _=>False) rfl rfl ?aP (fun _ hk=>hk.elim) ?aF ?aO ?aB ?aS ?aL ?_;(case aP=>exact k25_mkM _ _ _ (⟨t550,t551,t552⟩ : S25));(case aB=>exact jAw);(case aF=>exact (fun _ _=>trivial));(case aO=>exact jk);(case aS=>exact (zB jAw));(case aL=>have:=LMc9.out;omega);intro v556 w11 ho hb hg hat;rw [← Ny555.out] at ho;replace HI546:=zh (IsS81.grown jBh hg (IsS81.own_ne HI546.out HO_6.out jB));replace HB:=zh (hb);have HO557:=zh (ho);clear HO_6 ho hb hg hat))
     go_roundg k1
     case measure=>have:=HK1.out;omega
     case rel=>exact ⟨(y555),(wrap64 (x7_1+1)),(t553),(t554),jC,H',⟨jZ⟩,⟨by (with_reducible repeat (first|apply zm|apply zn|apply zo));exact HO557.out⟩,⟨jBh⟩,⟨jAw⟩⟩
    rw [if_neg c9] at H;exact absurd H (by simp)
   rw [if_neg c7] at H;have c7b0 : decide (x7_1<a1)=false:=decide_eq_false c7;clear c7;obtain rfl:=zU H
   go_wp2
   go_ret
   exact ⟨_,jF,jk,jAw⟩


def F0t.f (l0 : List Int) (a1 : Int) (a2 : Int) : Option (Int):=if a2≤1 then (some 0) else (if (l0.length : Int)=0 then (if a2=0 then (none) else (some (Int.tmod (wrap64 (a1*7)) a2))) else (if 0≤(Int.tmod a1 (l0.length : Int)) then (if (Int.tmod a1 (l0.length : Int))<(l0.length : Int) then (if 0≤(Int.tmod (wrap64 (a1+1)) (l0.length : Int)) then (if (Int.tmod (wrap64 (a1+1)) (l0.length : Int))<(l0.length : Int) then (if a2=0 then (none) else (some (Int.tmod (wrap64 ((wrap64 ((wrap64 ((wrap64 (rd l0 (Int.tmod a1 (l0.length : Int))))*31))+(wrap64 (rd l0 (Int.tmod (wrap64 (a1+1)) (l0.length : Int))))))+(wrap64 (Int.tdiv a1 (l0.length : Int))))) a2))) else (none)) else (none)) else (none)) else (none)))
set_option maxHeartbeats 8000000 in
set_option maxRecDepth 100000 in
theorem F0t.calls (A0 : Option Addr) (c0 : Nat) (l0 : List Int) (a1 : Int) (a2 : Int) (r : Int) (w : World) (hr0 : Kd.C (Kd.int .u8) w A0 l0.length l0) (hc0 : l0.length≤c0) (h : F0t.f l0 a1 a2=some r) :
  Calls Try.prog 12 #[.slice A0 l0.length c0,.int .i64 a1,.int .i64 a2] w fun e w' => e = .returned (.int .i64 r)∧Drawn0 w w':=by
 have HR0:=zh hr0;have HC0:=zh hc0;clear hr0 hc0;have H : (if a2≤1 then (some 0) else (if (l0.length : Int)=0 then (if a2=0 then (none) else (some (Int.tmod (wrap64 (a1*7)) a2))) else (if 0≤(Int.tmod a1 (l0.length : Int)) then (if (Int.tmod a1 (l0.length : Int))<(l0.length : Int) then (if 0≤(Int.tmod (wrap64 (a1+1)) (l0.length : Int)) then (if (Int.tmod (wrap64 (a1+1)) (l0.length : Int))<(l0.length : Int) then (if a2=0 then (none) else (some (Int.tmod (wrap64 ((wrap64 ((wrap64 ((wrap64 (rd l0 (Int.tmod a1 (l0.length : Int))))*31))+(wrap64 (rd l0 (Int.tmod (wrap64 (a1+1)) (l0.length : Int))))))+(wrap64 (Int.tdiv a1 (l0.length : Int))))) a2))) else (none)) else (none)) else (none)) else (none))))=some r:=h;clear h
 by_cases c4 : a2≤1
 ·
  rw [if_pos c4] at H
  have c4b0 : decide (a2≤1)=true:=decide_eq_true c4;clear c4;obtain rfl:=zU H
  go_enter Try.func12,Try.ntmps12
  go_wp2
  repeat (go_quiet (fail);try go_wp2)
  go_ret
  exact ⟨jC,jK⟩
 rw [if_neg c4] at H;have c4b0 : decide (a2≤1)=false:=decide_eq_false c4;clear c4
 by_cases c5 : (l0.length : Int)=0
 ·
  rw [if_pos c5] at H
  have c5b0 : ((l0.length : Int) == 0)=true:=ya.mpr c5;have c5b1 : ((l0.length : Int) != 0)=false:=zX.mpr c5;clear c5
  by_cases c6 : a2=0
  ·
   rw [if_pos c6] at H
   exact absurd H (by simp)
  rw [if_neg c6] at H;have c6b0 : (a2 == 0)=false:=zY.mpr c6;have c6b1 : (a2 != 0)=true:=zZ.mpr c6;obtain rfl:=zU H
  go_enter Try.func12,Try.ntmps12
  go_wp2
  repeat (go_quiet (fail);try go_wp2)
  go_ret
  exact ⟨jC,jK⟩
 rw [if_neg c5] at H;have c5b0 : ((l0.length : Int) == 0)=false:=zY.mpr c5;have c5b1 : ((l0.length : Int) != 0)=true:=zZ.mpr c5;have c5b2 : ¬ (l0=[]):=fun h_=>c5 (by rw [h_];rfl);obtain ⟨ji7,hji7⟩ : ∃ j_ : Int,(Int.tmod a1 (l0.length : Int))=j_:=⟨_,rfl⟩;replace H : (if 0≤(ji7) then (if (ji7)<(l0.length : Int) then (if 0≤(Int.tmod (wrap64 (a1+1)) (l0.length : Int)) then (if (Int.tmod (wrap64 (a1+1)) (l0.length : Int))<(l0.length : Int) then (if a2=0 then (none) else (some (Int.tmod (wrap64 ((wrap64 ((wrap64 ((wrap64 (rd l0 (ji7)))*31))+(wrap64 (rd l0 (Int.tmod (wrap64 (a1+1)) (l0.length : Int))))))+(wrap64 (Int.tdiv a1 (l0.length : Int))))) a2))) else (none)) else (none)) else (none)) else (none))=some r:=by first|(rw [hji7] at H;exact H)|(simp only [hji7] at H ⊢;exact H)
 by_cases c8 : 0≤(ji7)
 ·
  rw [if_pos c8] at H
  have c8b0 : decide (0≤(ji7))=true:=decide_eq_true c8;clear c8
  by_cases c9 : (ji7)<(l0.length : Int)
  ·
   rw [if_pos c9] at H
   have c9b0 : decide ((ji7)<(l0.length : Int))=true:=decide_eq_true c9;clear c9;obtain ⟨ji10,hji10⟩ : ∃ j_ : Int,(Int.tmod (wrap64 (a1+1)) (l0.length : Int))=j_:=⟨_,rfl⟩;replace H : (if 0≤(ji10) then (if (ji10)<(l0.length : Int) then (if a2=0 then (none) else (some (Int.tmod (wrap64 ((wrap64 ((wrap64 ((wrap64 (rd l0 (ji7)))*31))+(wrap64 (rd l0 (ji10)))))+(wrap64 (Int.tdiv a1 (l0.length : Int))))) a2))) else (none)) else (none))=some r:=by first|(rw [hji10] at H;exact H)|(simp only [hji10] at H ⊢;exact H)
   by_cases c11 : 0≤(ji10)
   ·
    rw [if_pos c11] at H
    have c11b0 : decide (0≤(ji10))=true:=decide_eq_true c11;clear c11
    by_cases c12 : (ji10)<(l0.length : Int)
    ·
     rw [if_pos c12] at H
     have c12b0 : decide ((ji10)<(l0.length : Int))=true:=decide_eq_true c12;clear c12
     by_cases c13 : a2=0
     ·
      rw [if_pos c13] at H
      exact absurd H (by simp)
     rw [if_neg c13] at H;have c13b0 : (a2 == 0)=false:=zY.mpr c13;have c13b1 : (a2 != 0)=true:=zZ.mpr c13;obtain rfl:=zU H;have p558 : 0≤((ji7) : Int):=zy jE;have q558 : (ji7)<(l0.length : Int):=zy jE;obtain ⟨ad558,e558,hx558_0⟩:=Kd.at_int HR0.out (ji7) p558 q558
     cases e558
     replace p558:=eq_true p558;replace q558:=eq_true q558;have p559 : 0≤((ji10) : Int):=zy jE;have q559 : (ji10)<(l0.length : Int):=zy jE;obtain ⟨ad559,e559,hx559_0⟩:=Kd.at_int HR0.out (ji10) p559 q559;obtain rfl : ad558=ad559:=(by injection e559);replace p559:=eq_true p559;replace q559:=eq_true q559
     go_enter Try.func12,Try.ntmps12
     go_wp2
     repeat (go_quiet (fail);try go_wp2)
     go_ret
     exact ⟨by first|rfl|(simp;done)|(simp only [← hji7,← hji10] <;> (first|rfl|simp))|(simp [*];done),jK⟩
    rw [if_neg c12] at H;exact absurd H (by simp)
   rw [if_neg c11] at H;exact absurd H (by simp)
  rw [if_neg c9] at H;exact absurd H (by simp)
 rw [if_neg c8] at H;exact absurd H (by simp)


def F0o.f (a0 : Int) : Option (Bool):=if a0 ≥ 97 then (if a0≤122 then (some true) else (if a0 ≥ 65 then (if a0≤90 then (some true) else (some (a0 == 95))) else (some (a0 == 95)))) else (if a0 ≥ 65 then (if a0≤90 then (some true) else (some (a0 == 95))) else (some (a0 == 95)))
set_option maxHeartbeats 8000000 in
set_option maxRecDepth 100000 in
theorem F0o.calls (a0 : Int) (r : Bool) (w : World) (h : F0o.f a0=some r) :
  Calls Try.prog 67 #[.int .u8 a0] w fun e w' => e = .returned (.bool r)∧Drawn0 w w':=by
 have H : (if a0 ≥ 97 then (if a0≤122 then (some true) else (if a0 ≥ 65 then (if a0≤90 then (some true) else (some (a0 == 95))) else (some (a0 == 95)))) else (if a0 ≥ 65 then (if a0≤90 then (some true) else (some (a0 == 95))) else (some (a0 == 95))))=some r:=h;clear h
 by_cases c2 : a0 ≥ 97
 ·
  rw [if_pos c2] at H
  have c2b0 : decide (97≤a0)=true:=decide_eq_true c2;clear c2
  by_cases c3 : a0≤122
  ·
   rw [if_pos c3] at H
   have c3b0 : decide (a0≤122)=true:=decide_eq_true c3;clear c3;obtain rfl:=zU H
   go_enter Try.func67,Try.ntmps67
   go_wp2
   go_ret
   exact ⟨jC,jK⟩
  rw [if_neg c3] at H;have c3b0 : decide (a0≤122)=false:=decide_eq_false c3;clear c3
  by_cases c4 : a0 ≥ 65
  ·
   rw [if_pos c4] at H
   have c4b0 : decide (65≤a0)=true:=decide_eq_true c4;clear c4
   by_cases c5 : a0≤90
   ·
    rw [if_pos c5] at H
    have c5b0 : decide (a0≤90)=true:=decide_eq_true c5;clear c5;obtain rfl:=zU H
    go_enter Try.func67,Try.ntmps67
    go_wp2
    go_ret
    exact ⟨jC,jK⟩
   rw [if_neg c5] at H;have c5b0 : decide (a0≤90)=false:=decide_eq_false c5;clear c5;obtain rfl:=zU H
   go_enter Try.func67,Try.ntmps67
   go_wp2
   go_ret
   exact ⟨jC,jK⟩
  rw [if_neg c4] at H;have c4b0 : decide (65≤a0)=false:=decide_eq_false c4;clear c4;obtain rfl:=zU H
  go_enter Try.func67,Try.ntmps67
  go_wp2
  go_ret
  exact ⟨jC,jK⟩
 rw [if_neg c2] at H;have c2b0 : decide (97≤a0)=false:=decide_eq_false c2;clear c2
 by_cases c6 : a0 ≥ 65
 ·
  rw [if_pos c6] at H
  have c6b0 : decide (65≤a0)=true:=decide_eq_true c6;clear c6
  by_cases c7 : a0≤90
  ·
   rw [if_pos c7] at H
   have c7b0 : decide (a0≤90)=true:=decide_eq_true c7;clear c7;obtain rfl:=zU H
   go_enter Try.func67,Try.ntmps67
   go_wp2
   go_ret
   exact ⟨jC,jK⟩
  rw [if_neg c7] at H;have c7b0 : decide (a0≤90)=false:=decide_eq_false c7;clear c7;obtain rfl:=zU H
  go_enter Try.func67,Try.ntmps67
  go_wp2
  go_ret
  exact ⟨jC,jK⟩
 rw [if_neg c6] at H;have c6b0 : decide (65≤a0)=false:=decide_eq_false c6;clear c6;obtain rfl:=zU H
 go_enter Try.func67,Try.ntmps67
 go_wp2
 go_ret
 exact ⟨jC,jK⟩


def F0n.f (a0 : Int) : Option (Bool):=if a0 ≥ 48 then (some (decide (a0≤57))) else (some false)
set_option maxHeartbeats 8000000 in
set_option maxRecDepth 100000 in
theorem F0n.calls (a0 : Int) (r : Bool) (w : World) (h : F0n.f a0=some r) :
  Calls Try.prog 68 #[.int .u8 a0] w fun e w' => e = .returned (.bool r)∧Drawn0 w w':=by
 have H : (if a0 ≥ 48 then (some (decide (a0≤57))) else (some false))=some r:=h;clear h
 by_cases c2 : a0 ≥ 48
 ·
  rw [if_pos c2] at H
  have c2b0 : decide (48≤a0)=true:=decide_eq_true c2;clear c2;obtain rfl:=zU H
  go_enter Try.func68,Try.ntmps68
  go_wp2
  go_ret
  exact ⟨jC,jK⟩
 rw [if_neg c2] at H;have c2b0 : decide (48≤a0)=false:=decide_eq_false c2;clear c2;obtain rfl:=zU H
 go_enter Try.func68,Try.ntmps68
 go_wp2
 go_ret
 exact ⟨jC,jK⟩


def F0h.f (a0 : Int) (a1 : Int) (a2 : Int) : Option (Bool):=if a1≤a0 then (some (decide (a0≤a2))) else (some false)
set_option maxHeartbeats 8000000 in
set_option maxRecDepth 100000 in
theorem F0h.calls (a0 : Int) (a1 : Int) (a2 : Int) (r : Bool) (w : World) (h : F0h.f a0 a1 a2=some r) :
  Calls Try.prog 69 #[.int .i64 a0,.int .i64 a1,.int .i64 a2] w fun e w' => e = .returned (.bool r)∧Drawn0 w w':=by
 have H : (if a1≤a0 then (some (decide (a0≤a2))) else (some false))=some r:=h;clear h
 by_cases c4 : a1≤a0
 ·
  rw [if_pos c4] at H
  have c4b0 : decide (a1≤a0)=true:=decide_eq_true c4;clear c4;obtain rfl:=zU H
  go_enter Try.func69,Try.ntmps69
  go_wp2
  go_ret
  exact ⟨jC,jK⟩
 rw [if_neg c4] at H;have c4b0 : decide (a1≤a0)=false:=decide_eq_false c4;clear c4;obtain rfl:=zU H
 go_enter Try.func69,Try.ntmps69
 go_wp2
 go_ret
 exact ⟨jC,jK⟩


def Fq.l0 : Nat→ByteArray→Int→Int→Option (Bool)
 | 0,_,_,_=>none
 | k+1,x0,x5,x6=>if x6<x5 then (if 0≤x6 then (if x6<(x0.size : Int) then ((F0o.f (bt x0 x6)).bind fun t218=>(if t218=true then (Fq.l0 k x0 x5 (wrap64 (x6+1))) else ((F0n.f (bt x0 x6)).bind fun t219=>(if t219=true then (if x6=0 then (some false) else (Fq.l0 k x0 x5 (wrap64 (x6+1)))) else (some false))))) else (none)) else (none)) else ((F0h.f (x0.size : Int) 1 40).bind fun t217=>(some t217))
def Fq.f (k : Nat) (a0 : ByteArray) : Option (Bool):=Fq.l0 k a0 (a0.size : Int) 0
theorem Fq.mono_l : ∀ k,(∀ y0 y1 y2,LeO (Fq.l0 k y0 y1 y2) (Fq.l0 (k+1) y0 y1 y2))
 | 0=>fun _ _ _ r h=>by simp [Fq.l0] at h
 | k+1=>by
  have ih0:=Fq.mono_l k;intro y0 y1 y2;unfold Fq.l0
  repeat' first|(with_reducible first|exact ih0 _ _ _|exact zQ _|exact zN _|refine zP ?_ ?_|refine zO ?_ (fun _=>?_))|refine zP ?_ ?_|refine zO ?_ (fun _=>?_)
theorem Fq.mono : ∀ a0 k,LeO (Fq.f k a0) (Fq.f (k+1) a0):=by
 intro a0 k;have ih0:=Fq.mono_l k;unfold Fq.f
 repeat' first|(with_reducible first|exact ih0 _ _ _|exact zQ _|exact zN _|refine zP ?_ ?_|refine zO ?_ (fun _=>?_))|refine zP ?_ ?_|refine zO ?_ (fun _=>?_)
set_option maxHeartbeats 8000000 in
set_option maxRecDepth 100000 in
theorem Fq.calls (k : Nat) (a0 : ByteArray) (r : Bool) (w : World) (h : Fq.f k a0=some r) :
  Calls Try.prog 47 #[.string a0] w fun e w' => e = .returned (.bool r)∧Drawn0 w w':=by
 have H : (Fq.l0 k a0 (a0.size : Int) 0)=some r:=h;clear h;have H':=zh H;clear H
 go_enter Try.func47,Try.ntmps47
 go_wp2
 go_loopg [6] k (fun kq v6 w' => ∃ (x6_1 : Int),v6 = .int .i64 x6_1∧Aside0 (Fq.l0 kq a0 (a0.size : Int) x6_1=some r)∧Aside0 (kq≤k)∧Drawn0 w w')
 case atStart=>exact ⟨(0),jC,H',⟨ye _⟩,jK⟩
 case round =>
  clear H';obtain ⟨x6_1,rfl,HA,HK1,⟨m1,rfl⟩⟩:=hrel
  cases gk with
  | zero=>exact absurd HA.out (by simp [Fq.l0])
  | succ k1 =>
   have H:=HA.out;clear HA;simp only [Fq.l0] at H
   by_cases c2 : x6_1<(a0.size : Int)
   ·
    rw [if_pos c2] at H
    have c2b0 : decide (x6_1<(a0.size : Int))=true:=decide_eq_true c2;clear c2
    by_cases c3 : 0≤x6_1
    ·
     rw [if_pos c3] at H
     have c3b0 : decide (0≤x6_1)=true:=decide_eq_true c3;clear c3
     by_cases c4 : x6_1<(a0.size : Int)
     ·
      rw [if_pos c4] at H
      have c4b0 : decide (x6_1<(a0.size : Int))=true:=decide_eq_true c4;clear c4;replace H:=zT.mp H;obtain ⟨t218,A60,H⟩:=H;have A6:=zh A60;clear A60
      by_cases c7 : t218=true
      ·
       subst c7
       rw [if_pos rfl] at H;have H':=zh H;clear H;have p5:=ja (0≤(x6_1 : Int));have q5:=ja (x6_1<(a0.size : Int));have hx5:=bt_at a0 x6_1
       go_wp2_with (first|((with_reducible refine zJ (f:=67) rfl ?_);refine yj (some 12) rfl rfl Try.func67 jA rfl #[.int .u8 (bt a0 x6_1)] rfl jD ?_;(with_reducible refine (F0o.calls  (bt a0 x6_1) true _ A6.out).mono ?_);rintro e w' ⟨rfl,⟨nd,rfl⟩⟩;refine ⟨_,rfl,?_⟩))
       go_roundg k1
       case measure=>have:=HK1.out;omega
       case rel=>exact ⟨(wrap64 (x6_1+1)),jC,H',⟨jZ⟩,jK⟩
      replace c7:=yb.mpr c7;subst c7;rw [if_neg (show ¬ (false=true) by decide)] at H;replace H:=zT.mp H;obtain ⟨t219,A90,H⟩:=H;have A9:=zh A90;clear A90
      by_cases c10 : t219=true
      ·
       subst c10
       rw [if_pos rfl] at H
       by_cases c11 : x6_1=0
       ·
        rw [if_pos c11] at H
        have c11b0 : (x6_1 == 0)=true:=ya.mpr c11;have c11b1 : (x6_1 != 0)=false:=zX.mpr c11;clear c11;obtain rfl:=zU H;have p5:=ja (0≤(x6_1 : Int));have q5:=ja (x6_1<(a0.size : Int));have hx5:=bt_at a0 x6_1
        go_wp2_with (first|((with_reducible refine zJ (f:=67) rfl ?_);refine yj (some 12) rfl rfl Try.func67 jA rfl #[.int .u8 (bt a0 x6_1)] rfl jD ?_;(with_reducible refine (F0o.calls  (bt a0 x6_1) false _ A6.out).mono ?_);rintro e w' ⟨rfl,⟨nd,rfl⟩⟩;refine ⟨_,rfl,?_⟩;have p8:=ja (0≤(x6_1 : Int));have q8:=ja (x6_1<(a0.size : Int));have hx8:=bt_at a0 x6_1)|(go_at_call 68;(with_reducible refine (F0n.calls  (bt a0 x6_1) true _ A9.out).mono ?_);rintro e w' ⟨rfl,⟨nd,rfl⟩⟩))
        go_ret
        exact ⟨jC,jK⟩
       rw [if_neg c11] at H;have c11b0 : (x6_1 == 0)=false:=zY.mpr c11;have c11b1 : (x6_1 != 0)=true:=zZ.mpr c11;have H':=zh H;clear H;have p5:=ja (0≤(x6_1 : Int));have q5:=ja (x6_1<(a0.size : Int));have hx5:=bt_at a0 x6_1
       go_wp2_with (first|((with_reducible refine zJ (f:=67) rfl ?_);refine yj (some 12) rfl rfl Try.func67 jA rfl #[.int .u8 (bt a0 x6_1)] rfl jD ?_;(with_reducible refine (F0o.calls  (bt a0 x6_1) false _ A6.out).mono ?_);rintro e w' ⟨rfl,⟨nd,rfl⟩⟩;refine ⟨_,rfl,?_⟩;have p8:=ja (0≤(x6_1 : Int));have q8:=ja (x6_1<(a0.size : Int));have hx8:=bt_at a0 x6_1)|(go_at_call 68;(with_reducible refine (F0n.calls  (bt a0 x6_1) true _ A9.out).mono ?_);rintro e w' ⟨rfl,⟨nd,rfl⟩⟩))
       go_roundg k1
       case measure=>have:=HK1.out;omega
       case rel=>exact ⟨(wrap64 (x6_1+1)),jC,H',⟨jZ⟩,jK⟩
      replace c10:=yb.mpr c10;subst c10;rw [if_neg (show ¬ (false=true) by decide)] at H;obtain rfl:=zU H;have p5:=ja (0≤(x6_1 : Int));have q5:=ja (x6_1<(a0.size : Int));have hx5:=bt_at a0 x6_1
      go_wp2_with (first|((with_reducible refine zJ (f:=67) rfl ?_);refine yj (some 12) rfl rfl Try.func67 jA rfl #[.int .u8 (bt a0 x6_1)] rfl jD ?_;(with_reducible refine (F0o.calls  (bt a0 x6_1) false _ A6.out).mono ?_);rintro e w' ⟨rfl,⟨nd,rfl⟩⟩;refine ⟨_,rfl,?_⟩;have p8:=ja (0≤(x6_1 : Int));have q8:=ja (x6_1<(a0.size : Int));have hx8:=bt_at a0 x6_1)|(go_at_call 68;(with_reducible refine (F0n.calls  (bt a0 x6_1) false _ A9.out).mono ?_);rintro e w' ⟨rfl,⟨nd,rfl⟩⟩))
      go_ret
      exact ⟨jC,jK⟩
     rw [if_neg c4] at H;exact absurd H (by simp)
    rw [if_neg c3] at H;exact absurd H (by simp)
   rw [if_neg c2] at H;have c2b0 : decide (x6_1<(a0.size : Int))=false:=decide_eq_false c2;clear c2;replace H:=zT.mp H;obtain ⟨t217,A120,H⟩:=H;have A12:=zh A120;clear A120;obtain rfl:=zU H
   go_wp2_with (first|((with_reducible refine zJ (f:=69) rfl ?_);refine yj (some 28) rfl rfl Try.func69 jA rfl #[.int .i64 (a0.size : Int),.int .i64 1,.int .i64 40] rfl jD ?_;(with_reducible refine (F0h.calls  (a0.size : Int) 1 40 t217 _ A12.out).mono ?_);rintro e w' ⟨rfl,⟨nd,rfl⟩⟩;refine ⟨_,rfl,?_⟩))
   go_ret
   exact ⟨jC,jK⟩


def F05.f (k : Nat) (a0 : ByteArray) : Option (Bool):=if (a0.size : Int)≤12 then ((Fq.f k a0).bind fun t220=>(some t220)) else (some false)
theorem F05.mono : ∀ a0 k,LeO (F05.f k a0) (F05.f (k+1) a0):=by
 intro a0 k;unfold F05.f
 repeat' first|(with_reducible first|exact Fq.mono _ _|exact zQ _|exact zN _|refine zP ?_ ?_|refine zO ?_ (fun _=>?_))|refine zP ?_ ?_|refine zO ?_ (fun _=>?_)
set_option maxHeartbeats 8000000 in
set_option maxRecDepth 100000 in
theorem F05.calls (k : Nat) (a0 : ByteArray) (r : Bool) (w : World) (h : F05.f k a0=some r) :
  Calls Try.prog 25 #[.string a0] w fun e w' => e = .returned (.bool r)∧Drawn0 w w':=by
 have H : (if (a0.size : Int)≤12 then ((Fq.f k a0).bind fun t220=>(some t220)) else (some false))=some r:=h;clear h
 by_cases c2 : (a0.size : Int)≤12
 ·
  rw [if_pos c2] at H
  have c2b0 : decide ((a0.size : Int)≤12)=true:=decide_eq_true c2;have c2b1 : decide (a0.size≤12)=true:=decide_eq_true jH;clear c2;replace H:=zT.mp H;obtain ⟨t220,A30,H⟩:=H;have A3:=zh A30;clear A30;obtain rfl:=zU H
  go_enter Try.func25,Try.ntmps25
  go_wp2_with (first|(go_at_call 47;(with_reducible refine (Fq.calls k  a0 t220 _ A3.out).mono ?_);rintro e w' ⟨rfl,⟨nd,rfl⟩⟩))
  go_ret
  exact ⟨jC,jK⟩
 rw [if_neg c2] at H;have c2b0 : decide ((a0.size : Int)≤12)=false:=decide_eq_false c2;have c2b1 : decide (a0.size≤12)=false:=decide_eq_false jH;clear c2;obtain rfl:=zU H
 go_enter Try.func25,Try.ntmps25
 go_wp2
 go_ret
 exact ⟨jC,jK⟩


def strings_Repeat.f (a0 : ByteArray) (a1 : Int) : Option (ByteArray):=if 0≤a1 then (if a0.size*a1.toNat≤140737488355328 then (if a1≤9223372036854775807 then (some ⟨(Lib.repeatL a0.data.toList a1.toNat).toArray⟩) else (none)) else (none)) else (none)
theorem strings_Repeat.calls (a0 : ByteArray) (a1 : Int) (r : ByteArray) (w : World) (h : strings_Repeat.f a0 a1=some r) :
  Calls Try.prog 79 #[.string a0,.int .i64 a1] w fun e w' => e = .returned (.string r)∧Below w.heap.size w w':=by
 unfold strings_Repeat.f at h
 by_cases h0 : 0≤a1
 ·
  rw [if_pos h0] at h
  by_cases h1 : a0.size*a1.toNat≤140737488355328
  ·
   rw [if_pos h1] at h
   by_cases h2 : a1≤9223372036854775807
   ·
    rw [if_pos h2] at h
    obtain rfl:=zU h;have:=Try.strings_Repeat a0 a1.toNat w jH h1;rw [Int.toNat_of_nonneg h0] at this;exact this
   rw [if_neg h2] at h;exact absurd h (by simp)
  rw [if_neg h1] at h;exact absurd h (by simp)
 rw [if_neg h0] at h;exact absurd h (by simp)


def IsS89 (w0 W : World) (g : Nat) (f0 : ByteArray) (f1 : Bool) : Prop:=W.heap[g]? = some (.cells #[.string f0,.bool f1] 89 (0,0))∧w0.heap.size≤g
theorem IsS89.grown {w0 W : World} {g : Nat} {f0 : ByteArray} {f1 : Bool} {W1 : World} {row : Option Nat} (h : IsS89 w0 W g f0 f1) (hw : W.grownBy W1 row) (hne : some g≠row) : IsS89 w0 W1 g f0 f1:=by
 obtain ⟨hb,hg⟩:=h;exact ⟨yw hb hw hne,hg⟩
theorem IsS89.fresh {w0 W : World} {g : Nat} {f0 : ByteArray} {f1 : Bool} (h : IsS89 w0 W g f0 f1) : ∀ k,W.heap.size≤k→k≠g:=by
 obtain ⟨hb,hg⟩:=h;exact Kd.freshB hb
theorem IsS89.kept {w0 W : World} {g : Nat} {f0 : ByteArray} {f1 : Bool} {W1 : World} {S : Nat→Prop} (h : IsS89 w0 W g f0 f1) (hk : Kept W W1 S) (hne : ¬ S g) : IsS89 w0 W1 g f0 f1:=by
 obtain ⟨hb,hg⟩:=h;exact ⟨blk_kept hb hk hne,hg⟩
theorem IsS89.below {w0 W : World} {g : Nat} {f0 : ByteArray} {f1 : Bool} {W1 : World} (h : IsS89 w0 W g f0 f1) (hw : Below W.heap.size W W1) : IsS89 w0 W1 g f0 f1:=h.grown (grown_of_below hw none) (by simp)
theorem IsS89.alloc {w0 W : World} {g : Nat} {f0 : ByteArray} {f1 : Bool} (h : IsS89 w0 W g f0 f1) (o : Obj) : IsS89 w0 (W.alloc o) g f0 f1:=h.below (za (Below.refl _ _) o)
theorem IsS89.drewN {w0 W : World} {g : Nat} {f0 : ByteArray} {f1 : Bool} (h : IsS89 w0 W g f0 f1) (m : Nat) : IsS89 w0 (W.drewN m) g f0 f1:=h
theorem IsS89.drew {w0 W : World} {g : Nat} {f0 : ByteArray} {f1 : Bool} (h : IsS89 w0 W g f0 f1) : IsS89 w0 W.drew g f0 f1:=h
theorem IsS89.at_ {w0 W : World} {g : Nat} {f0 : ByteArray} {f1 : Bool} {w' : World} {m : Nat} (hq : W.drewN m=w') (h : IsS89 w0 W g f0 f1) : IsS89 w0 w' g f0 f1:=by subst hq;exact IsS89.drewN h m
theorem IsS89.apart {w0 W : World} {g : Nat} {f0 : ByteArray} {f1 : Bool} {α : Type} {d : Kd α} {e : Nat} {base : Nat} {ok : Nat→Prop} {v : Value} {xs : List α} (h : IsS89 w0 W g f0 f1) (ho : d.R e W base ok v xs) (ht : ∀ q,q ∈ e :: d.E→q≠89) : d.R e W base (fun k=>ok k∧k≠g) v xs:=by
 obtain ⟨hb,hg⟩:=h;exact yf ho hb ht
theorem IsS89.own_ne {w0 W : World} {g : Nat} {f0 : ByteArray} {f1 : Bool} {α : Type} {d : Kd α} {e : Nat} {base : Nat} {ok : Nat→Prop} {v : Value} {xs : List α} (h : IsS89 w0 W g f0 f1) (ho : d.R e W base ok v xs) (ht : e≠89) : some g≠v.ownBlock:=by
 obtain ⟨hb,hg⟩:=h;exact Kd.R_ne ho hb ht
theorem IsS89.lt {w0 W : World} {g : Nat} {f0 : ByteArray} {f1 : Bool} (h : IsS89 w0 W g f0 f1) : g<W.heap.size:=by
 obtain ⟨hb,hg⟩:=h;exact yi hb
theorem IsS89.ge {w0 W : World} {g : Nat} {f0 : ByteArray} {f1 : Bool} (h : IsS89 w0 W g f0 f1) : w0.heap.size≤g:=by
 obtain ⟨hb,hg⟩:=h;exact hg
theorem IsS89.far {w0 W : World} {g : Nat} {f0 : ByteArray} {f1 : Bool} {p : Addr} (h : IsS89 w0 W g f0 f1) (hne : g≠p.block) (u : Value) : IsS89 w0 (W.setCell p u) g f0 f1:=by
 obtain ⟨hb,hg⟩:=h;exact ⟨zS hb hne u,hg⟩
theorem cellS89_0 {W : World} {g : Nat} {f0 : ByteArray} {f1 : Bool} (h : W.heap[g]? = some (.cells #[.string f0,.bool f1] 89 (0,0))) : W.cell? ⟨g,0,none⟩=some (.string f0):=(zz h 0).trans rfl
theorem IsS89.set_0 {w0 W : World} {g : Nat} {f0 : ByteArray} {f1 : Bool} (h : IsS89 w0 W g f0 f1) (x : ByteArray) : IsS89 w0 (W.setCell ⟨g,0,none⟩ (.string x)) g x f1:=by
 obtain ⟨hb,hg⟩:=h;exact ⟨by simpa using blk_set hb 0 (.string x),hg⟩
theorem cellS89_1 {W : World} {g : Nat} {f0 : ByteArray} {f1 : Bool} (h : W.heap[g]? = some (.cells #[.string f0,.bool f1] 89 (0,0))) : W.cell? ⟨g,1,none⟩=some (.bool f1):=(zz h 1).trans rfl
theorem IsS89.set_1 {w0 W : World} {g : Nat} {f0 : ByteArray} {f1 : Bool} (h : IsS89 w0 W g f0 f1) (x : Bool) : IsS89 w0 (W.setCell ⟨g,1,none⟩ (.bool x)) g f0 x:=by
 obtain ⟨hb,hg⟩:=h;exact ⟨by simpa using blk_set hb 1 (.bool x),hg⟩
theorem IsS89.new (w0 W : World) (f0 : ByteArray) (f1 : Bool) (hB : Below w0.heap.size w0 W) : IsS89 w0 (W.alloc (.cells #[.string f0,.bool f1] 89)) W.heap.size f0 f1:=⟨by simpa using heap_alloc_new W _,hB.size⟩

def F0f.f (s0_0 : ByteArray) (s0_1 : Bool) (a1 : Int) : Option (ByteArray×ByteArray×Bool):=if a1 > (s0_0.size : Int) then ((strings_Repeat.f (⟨#[0]⟩ : ByteArray) a1).bind fun t225=>(some (t225,s0_0,true))) else (if 0≤a1 then (if a1≤(s0_0.size : Int) then (some (s0_0.extract 0 (a1 : Int).toNat,s0_0.extract (a1 : Int).toNat s0_0.size,s0_1)) else (none)) else (none))
set_option maxHeartbeats 8000000 in
set_option maxRecDepth 100000 in
theorem F0f.calls (g : Nat) (s0_0 : ByteArray) (s0_1 : Bool) (a1 : Int) (r1 : ByteArray) (r2 : ByteArray) (r3 : Bool) (w0 w : World) (hI : IsS89 w0 w g s0_0 s0_1) (hB : Below w0.heap.size w0 w) (h : F0f.f s0_0 s0_1 a1=some (r1,r2,r3)) :
  Calls Try.prog 60 #[.pointer (some ⟨g,0,none⟩),.int .i64 a1] w fun e w' => e = .returned (.string r1)∧IsS89 w0 w' g r2 r3∧Below w0.heap.size w0 w' ∧ KeepBut w w' g none:=by
 have HI0:=zh hI;have HK:=zh (KeepBut.refl w g none);have HL:=zh hB.size;clear hI;have HW0:=zh hB.size;have HB:=zh hB;clear hB;have H : (if a1 > (s0_0.size : Int) then ((strings_Repeat.f (⟨#[0]⟩ : ByteArray) a1).bind fun t225=>(some (t225,s0_0,true))) else (if 0≤a1 then (if a1≤(s0_0.size : Int) then (some (s0_0.extract 0 (a1 : Int).toNat,s0_0.extract (a1 : Int).toNat s0_0.size,s0_1)) else (none)) else (none)))=some (r1,r2,r3):=h;clear h
 by_cases c3 : a1 > (s0_0.size : Int)
 ·
  rw [if_pos c3] at H
  have c3b0 : decide ((s0_0.size : Int)<a1)=true:=decide_eq_true c3;clear c3;replace H:=zT.mp H;obtain ⟨t225,A40,H⟩:=H;have A4:=zh A40;clear A40;simp only [Option.some.injEq,Prod.mk.injEq] at H;obtain ⟨rfl,rfl,rfl⟩:=H;obtain ⟨HGz5,hgz5⟩:=HI0.out;have hcz5_0:=cellS89_0 HGz5;have hcz5_1:=cellS89_1 HGz5;have hfz5_0:=zA HGz5 0;have hfz5_1:=zA HGz5 1;clear HGz5 hgz5
  go_enter Try.func60,Try.ntmps60
  go_wp2_with (first|((with_reducible refine zJ (f:=79) rfl ?_);refine yj (some 17) rfl rfl Try.func79 jA rfl #[.string (⟨#[0]⟩ : ByteArray),.int .i64 a1] rfl jD ?_;(with_reducible refine (strings_Repeat.calls  (⟨#[0]⟩ : ByteArray) a1 t225 _ A4.out).mono ?_);rintro e w6 ⟨rfl,hb⟩;refine ⟨_,rfl,?_⟩;replace HK:=zh (KeepBut.trans jT (KeepBut.of_below hb g none) (.inl rfl));replace HB:=zh (zC jAg hb);replace HI0:=zh (IsS89.below (show IsS89 w0 (w.setCell ⟨g,1,none⟩ (.bool true)) g s0_0 true from by repeat (with_reducible first|exact HI0.out|apply IsS89.alloc|apply IsS89.drewN|apply IsS89.drew|apply IsS89.set_0|apply IsS89.set_1)) hb);(try clear hb);(try clear hb2);(try clear hk);(try clear hi)))
  go_ret
  exact ⟨jF,jAh,jAg,jT⟩
 rw [if_neg c3] at H;have c3b0 : decide ((s0_0.size : Int)<a1)=false:=decide_eq_false c3;clear c3
 by_cases c7 : 0≤a1
 ·
  rw [if_pos c7] at H
  have c7b0:=eq_true c7;have c7b1 : decide (0≤a1)=true:=decide_eq_true c7;clear c7
  by_cases c8 : a1≤(s0_0.size : Int)
  ·
   rw [if_pos c8] at H
   have c8b0:=eq_true c8;have c8b1 : decide (a1≤(s0_0.size : Int))=true:=decide_eq_true c8;clear c8;have c9b0:=eq_true (zy jE : 0≤a1);have c10b0:=eq_true (zy jE : a1≤(s0_0.size : Int));simp only [Option.some.injEq,Prod.mk.injEq] at H;obtain ⟨rfl,rfl,rfl⟩:=H;obtain ⟨HGz11,hgz11⟩:=HI0.out;have hcz11_0:=cellS89_0 HGz11;have hcz11_1:=cellS89_1 HGz11;have hfz11_0:=zA HGz11 0;have hfz11_1:=zA HGz11 1;clear HGz11 hgz11
   go_enter Try.func60,Try.ntmps60
   go_wp2
   go_ret
   exact ⟨jF,jAh,jAg,jT⟩
  rw [if_neg c8] at H;exact absurd H (by simp)
 rw [if_neg c7] at H;exact absurd H (by simp)


def F00.l0 : Nat→Int→List Int→Int→Int→Option (Int)
 | 0,_,_,_,_=>none
 | k+1,x3,x6,x7,x8=>if x8<x7 then (if 0≤x8 then (if x8<(x6.length : Int) then (F00.l0 k (Go.bits .or .i64 (wrap64 (x3*256)) (wrap64 (rd x6 x8))) x6 x7 (wrap64 (x8+1))) else (none)) else (none)) else (some x3)
def F00.f (k : Nat) (l0 : List Int) : Option (Int):=F00.l0 k 0 l0 (l0.length : Int) 0
theorem F00.mono_l : ∀ k,(∀ y0 y1 y2 y3,LeO (F00.l0 k y0 y1 y2 y3) (F00.l0 (k+1) y0 y1 y2 y3))
 | 0=>fun _ _ _ _ r h=>by simp [F00.l0] at h
 | k+1=>by
  have ih0:=F00.mono_l k;intro y0 y1 y2 y3;unfold F00.l0
  repeat' first|(with_reducible first|exact ih0 _ _ _ _|exact zQ _|exact zN _|refine zP ?_ ?_|refine zO ?_ (fun _=>?_))|refine zP ?_ ?_|refine zO ?_ (fun _=>?_)
theorem F00.mono : ∀ a0 k,LeO (F00.f k a0) (F00.f (k+1) a0):=by
 intro a0 k;have ih0:=F00.mono_l k;unfold F00.f
 repeat' first|(with_reducible first|exact ih0 _ _ _ _|exact zQ _|exact zN _|refine zP ?_ ?_|refine zO ?_ (fun _=>?_))|refine zP ?_ ?_|refine zO ?_ (fun _=>?_)
set_option maxHeartbeats 8000000 in
set_option maxRecDepth 100000 in
theorem F00.calls (k : Nat) (A0 : Option Addr) (c0 : Nat) (l0 : List Int) (r : Int) (w : World) (hr0 : Kd.C (Kd.int .u8) w A0 l0.length l0) (hc0 : l0.length≤c0) (h : F00.f k l0=some r) :
  Calls Try.prog 80 #[.slice A0 l0.length c0] w fun e w' => e = .returned (.int .i64 r)∧Drawn0 w w':=by
 have HR0:=zh hr0;have HC0:=zh hc0;clear hr0 hc0;have H : (F00.l0 k 0 l0 (l0.length : Int) 0)=some r:=h;clear h;have H':=zh H;clear H
 go_enter Try.func80,Try.ntmps80
 go_wp2
 go_loopg [3,8] k (fun kq v3 v8 w' => ∃ (x3_1 : Int) (x8_1 : Int),v3 = .int .i64 x3_1∧v8 = .int .i64 x8_1∧Aside0 (F00.l0 kq x3_1 l0 (l0.length : Int) x8_1=some r)∧Aside0 (kq≤k)∧Drawn0 w w')
 case atStart=>exact ⟨(0),(0),jC,jC,H',⟨ye _⟩,jK⟩
 case round =>
  clear H';obtain ⟨x3_1,x8_1,rfl,rfl,HA,HK1,⟨m1,rfl⟩⟩:=hrel
  cases gk with
  | zero=>exact absurd HA.out (by simp [F00.l0])
  | succ k1 =>
   have H:=HA.out;clear HA;simp only [F00.l0] at H
   by_cases c2 : x8_1<(l0.length : Int)
   ·
    rw [if_pos c2] at H
    have c2b0 : decide (x8_1<(l0.length : Int))=true:=decide_eq_true c2;clear c2
    by_cases c3 : 0≤x8_1
    ·
     rw [if_pos c3] at H
     have c3b0 : decide (0≤x8_1)=true:=decide_eq_true c3;clear c3
     by_cases c4 : x8_1<(l0.length : Int)
     ·
      rw [if_pos c4] at H
      have c4b0 : decide (x8_1<(l0.length : Int))=true:=decide_eq_true c4;clear c4;have H':=zh H;clear H;have p226 : 0≤(x8_1 : Int):=zy jE;have q226 : x8_1<(l0.length : Int):=zy jE;obtain ⟨ad226,e226,hx226_0⟩:=Kd.at_int HR0.out x8_1 p226 q226
      cases e226
      replace p226:=eq_true p226;replace q226:=eq_true q226
      go_wp2
      go_roundg k1
      case measure=>have:=HK1.out;omega
      case rel=>exact ⟨(Go.bits .or .i64 (wrap64 (x3_1*256)) (wrap64 (rd l0 x8_1))),(wrap64 (x8_1+1)),jC,jC,H',⟨jZ⟩,jK⟩
     rw [if_neg c4] at H;exact absurd H (by simp)
    rw [if_neg c3] at H;exact absurd H (by simp)
   rw [if_neg c2] at H;have c2b0 : decide (x8_1<(l0.length : Int))=false:=decide_eq_false c2;clear c2;obtain rfl:=zU H
   go_wp2
   go_ret
   exact ⟨jC,jK⟩


def Ft.f (k : Nat) (s0_0 : ByteArray) (s0_1 : Bool) (a1 : Int) : Option (Int×ByteArray×Bool):=(F0f.f s0_0 s0_1 a1).bind fun bt227=>(if bt227.1.size≤9223372036854775807 then ((F00.f k (bytesOf bt227.1)).bind fun t233=>(some (t233,bt227.2.1,bt227.2.2))) else (none))
theorem Ft.mono : ∀ a0 a1 a2 k,LeO (Ft.f k a0 a1 a2) (Ft.f (k+1) a0 a1 a2):=by
 intro a0 a1 a2 k;unfold Ft.f
 repeat' first|(with_reducible first|exact F00.mono _ _|exact zQ _|exact zN _|refine zP ?_ ?_|refine zO ?_ (fun _=>?_))|refine zP ?_ ?_|refine zO ?_ (fun _=>?_)
set_option maxHeartbeats 8000000 in
set_option maxRecDepth 100000 in
theorem Ft.calls (k : Nat) (g : Nat) (s0_0 : ByteArray) (s0_1 : Bool) (a1 : Int) (r1 : Int) (r2 : ByteArray) (r3 : Bool) (w0 w : World) (hI : IsS89 w0 w g s0_0 s0_1) (hB : Below w0.heap.size w0 w) (h : Ft.f k s0_0 s0_1 a1=some (r1,r2,r3)) :
  Calls Try.prog 61 #[.pointer (some ⟨g,0,none⟩),.int .i64 a1] w fun e w' => e = .returned (.int .i64 r1)∧IsS89 w0 w' g r2 r3∧Below w0.heap.size w0 w' ∧ KeepBut w w' g none:=by
 have HI0:=zh hI;have HK:=zh (KeepBut.refl w g none);have HL:=zh hB.size;clear hI;have HW0:=zh hB.size;have HB:=zh hB;clear hB;have H : ((F0f.f s0_0 s0_1 a1).bind fun bt227=>(if bt227.1.size≤9223372036854775807 then ((F00.f k (bytesOf bt227.1)).bind fun t233=>(some (t233,bt227.2.1,bt227.2.2))) else (none)))=some (r1,r2,r3):=h;clear h;replace H:=zT.mp H;obtain ⟨⟨t227,t228,t229⟩,A30,H⟩:=H;have A3:=zh A30;clear A30
 by_cases c4 : t227.size≤9223372036854775807
 ·
  rw [if_pos c4] at H
  have c4b0:=eq_true c4;have c4b1 : decide (t227.size≤9223372036854775807)=true:=decide_eq_true c4
  try have c4b2 : (9223372036854775807<t227.size)=False:=eq_false (Nat.not_lt.2 c4)
  clear c4;obtain ⟨y230,hy230⟩ : ∃ y_ : List Int,y_=(bytesOf t227):=⟨_,rfl⟩;replace H : ((F00.f k y230).bind fun t233=>(some (t233,t228,t229)))=some (r1,r2,r3):=by first|(rw [hy230];with_reducible exact H)|(have H2_:=(Option.bind_some _ _).symm.trans H;rw [hy230];with_reducible exact H2_)|(have H2_:=(Option.bind_some _ _).symm.trans H;with_reducible exact H2_)|with_reducible exact H|(rw [hy230];exact H)|exact H
  have Ny230:=zh hy230;clear hy230;replace H:=zT.mp H;obtain ⟨t233,A50,H⟩:=H;have A5:=zh A50;clear A50;simp only [Option.some.injEq,Prod.mk.injEq] at H;obtain ⟨rfl,rfl,rfl⟩:=H
  go_enter Try.func61,Try.ntmps61
  go_wp2_with (first|((with_reducible refine zJ (f:=60) rfl ?_);refine yj (some 7) rfl rfl Try.func60 jA rfl #[.pointer (some ⟨g,0,none⟩),.int .i64 a1] rfl jD ?_;(with_reducible refine (F0f.calls  g s0_0 s0_1 a1 t227 t228 t229 w0 _ ?side1 ?side2 A3.out).mono ?_);(case side1=>repeat (with_reducible first|exact HI0.out|apply IsS89.alloc|apply IsS89.drewN|apply IsS89.drew|apply IsS89.set_0|apply IsS89.set_1));(case side2=>repeat (with_reducible first|exact HB.out|apply za|apply zb|apply zc|refine zd ?_ (IsS89.ge HI0.out)));rintro e w6 ⟨rfl,hi,hb,hk⟩;refine ⟨_,rfl,?_⟩;replace HK:=zh (KeepBut.trans jT hk (.inl rfl));replace HB:=zh (hb);replace HI0:=zh (hi);(try clear hb);(try clear hb2);(try clear hk);(try clear hi))|((with_reducible refine zK (N:=8) rfl ?_);refine conv_event (base:=w6.heap.size) ?hg (N:=8) ?hd 9 33 5 t227 rfl ?hx Try.underlying9 Try.underlying33 Try.underlying5 (zy jE) ?_;(case hd=>rfl);(case hg=>rfl);(case hx=>first|(go_simp;done)|(go_simp;rfl)|rfl);intro v231 w7 ho8 hb;(first|rw [← Ny230.out] at ho8|(simp only [Int.reduceToNat] at ho8;rw [← Ny230.out] at ho8));have HO232:=zh (Kd.V_lower (Kd.V_mono (ok':=fun k_=>k_≠g) ho8 (fun k_ hk_=>(IsS89.fresh jAh k_ hk_))) (keep_size (w:=w) (g:=g) (row:=none) jT));replace HK:=zh (KeepBut.trans jT (KeepBut.of_below hb g none) (.inl rfl));replace HB:=zh (zC jAg hb);replace HI0:=zh (IsS89.below jAh hb);clear hb ho8;obtain ⟨Ao9,co9,eo9⟩:=Kd.V_slice HO232.out;subst eo9)|((with_reducible refine zJ (f:=80) rfl ?_);refine yj (some 9) rfl rfl Try.func80 jA rfl #[.slice Ao9 y230.length co9] rfl jD ?_;(with_reducible refine (F00.calls k  _ _ y230 t233 _ ?side1 ?side2 A5.out).mono ?_);(case side1=>repeat (first|exact (Kd.V_reads' HO232.out).2.2|(with_reducible refine Kd.C_alloc ?_ _)|(with_reducible refine Kd.C_drewN ?_ _)|(with_reducible refine Kd.C_drew ?_)));(case side2=>exact (Kd.V_reads' HO232.out).2.1);rintro e w' ⟨rfl,⟨nd,rfl⟩⟩;refine ⟨_,rfl,?_⟩))
  go_ret
  exact ⟨jF,jAh,jAg,jT⟩
 rw [if_neg c4] at H;exact absurd H (by simp)


def Fg.j0 : Nat→Bool→ByteArray→Bool→Int→Int→ByteArray→Option (Int×Int×ByteArray×ByteArray×Bool)
 | 0,_,_,_,_,_,_=>none
 | k+1,x20,x1000,x1001,x239000,x239001,x239002=>if x20=true then ((Ft.f k x1000 x1001 2).bind fun bt245=>((F0f.f bt245.2.1 bt245.2.2 bt245.1).bind fun bt248=>(some (x239000,x239001,bt248.1,bt248.2.1,bt248.2.2)))) else (some (x239000,x239001,x239002,x1000,x1001))
def Fg.f (k : Nat) (s0_0 : ByteArray) (s0_1 : Bool) : Option (Int×Int×ByteArray×ByteArray×Bool):=(Ft.f k s0_0 s0_1 1).bind fun bt235=>(if bt235.1=1 then ((Ft.f k bt235.2.1 bt235.2.2 1).bind fun bt239=>(some (bt235.1,bt239.1,(⟨#[]⟩ : ByteArray),bt239.2.1,bt239.2.2))) else (if bt235.1=2 then ((Ft.f k bt235.2.1 bt235.2.2 8).bind fun bt242=>(some (bt235.1,wrap64 (bt242.1 - 4611686018427387904),(⟨#[]⟩ : ByteArray),bt242.2.1,bt242.2.2))) else (if bt235.1=3 then (Fg.j0 k (bt235.1 == 3) bt235.2.1 bt235.2.2 bt235.1 0 (⟨#[]⟩ : ByteArray)) else (if bt235.1=4 then (Fg.j0 k (bt235.1 == 4) bt235.2.1 bt235.2.2 bt235.1 0 (⟨#[]⟩ : ByteArray)) else (Fg.j0 k (bt235.1 == 5) bt235.2.1 bt235.2.2 bt235.1 0 (⟨#[]⟩ : ByteArray))))))
theorem Fg.mono_l : ∀ k,(∀ y0 y1 y2 y3 y4 y5,LeO (Fg.j0 k y0 y1 y2 y3 y4 y5) (Fg.j0 (k+1) y0 y1 y2 y3 y4 y5))
 | 0=>fun _ _ _ _ _ _ r h=>by simp [Fg.j0] at h
 | k+1=>by
  have ih0:=Fg.mono_l k;intro y0 y1 y2 y3 y4 y5;unfold Fg.j0
  repeat' first|(with_reducible first|exact ih0 _ _ _ _ _ _|exact Ft.mono _ _ _ _|exact zQ _|exact zN _|refine zP ?_ ?_|refine zO ?_ (fun _=>?_))|refine zP ?_ ?_|refine zO ?_ (fun _=>?_)
theorem Fg.mono : ∀ a0 a1 k,LeO (Fg.f k a0 a1) (Fg.f (k+1) a0 a1):=by
 intro a0 a1 k;have ih0:=Fg.mono_l k;unfold Fg.f
 repeat' first|(with_reducible first|exact ih0 _ _ _ _ _ _|exact Ft.mono _ _ _ _|exact zQ _|exact zN _|refine zP ?_ ?_|refine zO ?_ (fun _=>?_))|refine zP ?_ ?_|refine zO ?_ (fun _=>?_)
set_option maxHeartbeats 8000000 in
set_option maxRecDepth 100000 in
theorem Fg.calls (k : Nat) (g : Nat) (s0_0 : ByteArray) (s0_1 : Bool) (r1 : Int) (r2 : Int) (r3 : ByteArray) (r4 : ByteArray) (r5 : Bool) (w0 w : World) (hI : IsS89 w0 w g s0_0 s0_1) (hB : Below w0.heap.size w0 w) (h : Fg.f k s0_0 s0_1=some (r1,r2,r3,r4,r5)) :
  Calls Try.prog 59 #[.pointer (some ⟨g,0,none⟩)] w fun e w' => e = .returned (.agg #[.int .i64 r1,.int .i64 r2,.string r3])∧IsS89 w0 w' g r4 r5∧Below w0.heap.size w0 w' ∧ KeepBut w w' g none:=by
 have hu25:=Try.underlying25;have HI0:=zh hI;have HK:=zh (KeepBut.refl w g none);have HL:=zh hB.size;clear hI;have HW0:=zh hB.size;have HB:=zh hB;clear hB;have H : ((Ft.f k s0_0 s0_1 1).bind fun bt235=>(if bt235.1=1 then ((Ft.f k bt235.2.1 bt235.2.2 1).bind fun bt239=>(some (bt235.1,bt239.1,(⟨#[]⟩ : ByteArray),bt239.2.1,bt239.2.2))) else (if bt235.1=2 then ((Ft.f k bt235.2.1 bt235.2.2 8).bind fun bt242=>(some (bt235.1,wrap64 (bt242.1 - 4611686018427387904),(⟨#[]⟩ : ByteArray),bt242.2.1,bt242.2.2))) else (if bt235.1=3 then (Fg.j0 k (bt235.1 == 3) bt235.2.1 bt235.2.2 bt235.1 0 (⟨#[]⟩ : ByteArray)) else (if bt235.1=4 then (Fg.j0 k (bt235.1 == 4) bt235.2.1 bt235.2.2 bt235.1 0 (⟨#[]⟩ : ByteArray)) else (Fg.j0 k (bt235.1 == 5) bt235.2.1 bt235.2.2 bt235.1 0 (⟨#[]⟩ : ByteArray)))))))=some (r1,r2,r3,r4,r5):=h;clear h;replace H:=zT.mp H;obtain ⟨⟨t235,t236,t237⟩,A20,H⟩:=H;have A2:=zh A20;clear A20
 by_cases c3 : t235=1
 ·
  rw [if_pos c3] at H
  have c3b0 : (t235 == 1)=true:=ya.mpr c3;have c3b1 : (t235 != 1)=false:=zX.mpr c3;clear c3;replace H:=zT.mp H;obtain ⟨⟨t239,t240,t241⟩,A40,H⟩:=H;have A4:=zh A40;clear A40;simp only [Option.some.injEq,Prod.mk.injEq] at H;obtain ⟨rfl,rfl,rfl,rfl,rfl⟩:=H
  go_enter Try.func59,Try.ntmps59
  go_wp2_with (first|((with_reducible refine zK (N:=2) rfl ?_);refine zI ?hg (N:=2) ?hd (cs:=#[.int .i64 0,.int .i64 0,.string (⟨#[]⟩ : ByteArray)]) (t:=25) ?hr ?_;(case hd=>rfl);(case hg=>rfl);(case hr=>go_simp <;> rfl);intro gb234 hg w5 hbox hb;replace HB:=zh (zC jAg hb);have BK234:=zh (hbox);have GW234:=zh ((jAY : w.heap.size≤gb234));have GE234:=zh ((Nat.le_trans HW0.out (jAY : w.heap.size≤gb234) : w0.heap.size≤gb234));replace HK:=zh (KeepBut.trans jT (KeepBut.of_below hb g none) (.inl rfl));have NB0_234:=zh ((jCC : g≠gb234));have NB234_0:=zh ((jCD : gb234≠g));replace HI0:=zh (IsS89.below jAh hb);clear hb hbox hg)|((with_reducible refine zJ (f:=61) rfl ?_);refine yj (some 5) rfl rfl Try.func61 jA rfl #[.pointer (some ⟨g,0,none⟩),.int .i64 1] rfl jD ?_;(with_reducible refine (Ft.calls k  g s0_0 s0_1 1 t235 t236 t237 w0 _ ?side1 ?side2 A2.out).mono ?_);(case side1=>repeat (with_reducible first|exact HI0.out|apply IsS89.alloc|apply IsS89.drewN|apply IsS89.drew|apply IsS89.set_0|apply IsS89.set_1|refine IsS89.far ?_ NB0_234.out _));(case side2=>repeat (with_reducible first|exact HB.out|apply za|apply zb|apply zc|refine zd ?_ (IsS89.ge HI0.out)|refine zd ?_ GE234.out));rintro e w6 ⟨rfl,hi,hb,hk⟩;refine ⟨_,rfl,?_⟩;replace BK234:=zh (KeepBut.blk hk (g':=gb234) (o:=.cells #[.int .i64 0,.int .i64 0,.string (⟨#[]⟩ : ByteArray)] 25 (0,0)) jAc NB234_0.out (by simp));replace HK:=zh (KeepBut.trans jAx hk (.inl rfl));replace HB:=zh (hb);replace HI0:=zh (hi);(try clear hb);(try clear hb2);(try clear hk);(try clear hi))|((with_reducible refine zK (N:=3) rfl ?_);refine zI ?hg (N:=3) ?hd (cs:=#[.int .i64 0,.int .i64 0,.string (⟨#[]⟩ : ByteArray)]) (t:=25) ?hr ?_;(case hd=>rfl);(case hg=>rfl);(case hr=>go_simp <;> rfl);intro gb238 hg w7 hbox hb;replace HB:=zh (zC jCE hb);have BK238:=zh (hbox);have GW238:=zh ((jA8 : w.heap.size≤gb238));have GE238:=zh ((Nat.le_trans HW0.out (jA8 : w.heap.size≤gb238) : w0.heap.size≤gb238));replace HK:=zh (KeepBut.trans jAx (KeepBut.of_below hb g none) (.inl rfl));have NB234_238:=zh ((jCF : gb234≠gb238));have NB238_234:=zh NB234_238.out.symm;replace BK234:=zh (cD BK234.out jAc hb);have NB0_238:=zh ((jCG : g≠gb238));have NB238_0:=zh ((jCH : gb238≠g));replace HI0:=zh (IsS89.below jCI hb);clear hb hbox hg;have hnb8:=NB238_234.out;have hnc8:=NB234_238.out;have hnb9:=NB238_0.out;have hnc9:=NB0_238.out;obtain ⟨hcz10_0,hcz10_1,hcz10_2,hfz10_0,hfz10_1,hfz10_2⟩:=cB3 BK238.out)|((with_reducible refine zJ (f:=61) rfl ?_);refine yj (some 12) rfl rfl Try.func61 jA rfl #[.pointer (some ⟨g,0,none⟩),.int .i64 1] rfl jD ?_;(with_reducible refine (Ft.calls k  g t236 t237 1 t239 t240 t241 w0 _ ?side1 ?side2 A4.out).mono ?_);(case side1=>repeat (with_reducible first|exact HI0.out|apply IsS89.alloc|apply IsS89.drewN|apply IsS89.drew|apply IsS89.set_0|apply IsS89.set_1|refine IsS89.far ?_ NB0_234.out _|refine IsS89.far ?_ NB0_238.out _));(case side2=>repeat (with_reducible first|exact HB.out|apply za|apply zb|apply zc|refine zd ?_ (IsS89.ge HI0.out)|refine zd ?_ GE234.out|refine zd ?_ GE238.out));rintro e w11 ⟨rfl,hi,hb,hk⟩;refine ⟨_,rfl,?_⟩;replace BK234:=zh (KeepBut.blk hk (g':=gb234) (o:=.cells #[.int .i64 0,.int .i64 0,.string (⟨#[]⟩ : ByteArray)] 25 (0,0)) jBM NB234_0.out (by simp));replace BK238:=zh (KeepBut.blk hk (g':=gb238) (o:=.cells #[.int .i64 t235,.int .i64 0,.string (⟨#[]⟩ : ByteArray)] 25 (0,0)) jBN NB238_0.out (by simp));replace HK:=zh (KeepBut.trans jAX hk (.inl rfl));replace HB:=zh (hb);replace HI0:=zh (hi);(try clear hb);(try clear hb2);(try clear hk);(try clear hi);obtain ⟨hcz12_0,hcz12_1,hcz12_2,hfz12_0,hfz12_1,hfz12_2⟩:=cB3 BK238.out;have hnb13:=NB234_0.out;have hnc13:=NB0_234.out;obtain ⟨hcz14_0,hcz14_1,hcz14_2,hfz14_0,hfz14_1,hfz14_2⟩:=cB3 BK234.out))
  refine bodyPost_ret (results_cell_row rfl _ _ gb234 25 #[.int .i64 t235,.int .i64 t239,.string (⟨#[]⟩ : ByteArray)] (0,0) _ rfl (by (with_reducible repeat first|apply ze|apply zf|apply zg);refine zL (cs:=#[.int .i64 t235,.int .i64 t239,.string (⟨#[]⟩ : ByteArray)]) ?_ 2 _ rfl;(with_reducible repeat first|apply ze|apply zf|apply zg);refine zL (cs:=#[.int .i64 t235,.int .i64 0,.string (⟨#[]⟩ : ByteArray)]) ?_ 1 _ rfl;(with_reducible repeat first|apply ze|apply zf|apply zg);refine zL (cs:=#[.int .i64 0,.int .i64 0,.string (⟨#[]⟩ : ByteArray)]) ?_ 0 _ rfl;(with_reducible repeat first|apply ze|apply zf|apply zg);refine zS ?_ NB234_238.out _;(with_reducible repeat first|apply ze|apply zf|apply zg);exact BK234.out) Try.underlying25 rfl jA) rfl ?_;exact ⟨jF,jAy,jAz,jAX⟩
 rw [if_neg c3] at H;have c3b0 : (t235 == 1)=false:=zY.mpr c3;have c3b1 : (t235 != 1)=true:=zZ.mpr c3
 by_cases c15 : t235=2
 ·
  rw [if_pos c15] at H
  have c15b0 : (t235 == 2)=true:=ya.mpr c15;have c15b1 : (t235 != 2)=false:=zX.mpr c15;clear c15;replace H:=zT.mp H;obtain ⟨⟨t242,t243,t244⟩,A160,H⟩:=H;have A16:=zh A160;clear A160;simp only [Option.some.injEq,Prod.mk.injEq] at H;obtain ⟨rfl,rfl,rfl,rfl,rfl⟩:=H
  go_enter Try.func59,Try.ntmps59
  go_wp2_with (first|((with_reducible refine zK (N:=2) rfl ?_);refine zI ?hg (N:=2) ?hd (cs:=#[.int .i64 0,.int .i64 0,.string (⟨#[]⟩ : ByteArray)]) (t:=25) ?hr ?_;(case hd=>rfl);(case hg=>rfl);(case hr=>go_simp <;> rfl);intro gb234 hg w17 hbox hb;replace HB:=zh (zC jAg hb);have BK234:=zh (hbox);have GW234:=zh ((jAY : w.heap.size≤gb234));have GE234:=zh ((Nat.le_trans HW0.out (jAY : w.heap.size≤gb234) : w0.heap.size≤gb234));replace HK:=zh (KeepBut.trans jT (KeepBut.of_below hb g none) (.inl rfl));have NB0_234:=zh ((jCC : g≠gb234));have NB234_0:=zh ((jCD : gb234≠g));replace HI0:=zh (IsS89.below jAh hb);clear hb hbox hg)|((with_reducible refine zJ (f:=61) rfl ?_);refine yj (some 5) rfl rfl Try.func61 jA rfl #[.pointer (some ⟨g,0,none⟩),.int .i64 1] rfl jD ?_;(with_reducible refine (Ft.calls k  g s0_0 s0_1 1 t235 t236 t237 w0 _ ?side1 ?side2 A2.out).mono ?_);(case side1=>repeat (with_reducible first|exact HI0.out|apply IsS89.alloc|apply IsS89.drewN|apply IsS89.drew|apply IsS89.set_0|apply IsS89.set_1|refine IsS89.far ?_ NB0_234.out _));(case side2=>repeat (with_reducible first|exact HB.out|apply za|apply zb|apply zc|refine zd ?_ (IsS89.ge HI0.out)|refine zd ?_ GE234.out));rintro e w18 ⟨rfl,hi,hb,hk⟩;refine ⟨_,rfl,?_⟩;replace BK234:=zh (KeepBut.blk hk (g':=gb234) (o:=.cells #[.int .i64 0,.int .i64 0,.string (⟨#[]⟩ : ByteArray)] 25 (0,0)) jAc NB234_0.out (by simp));replace HK:=zh (KeepBut.trans jAx hk (.inl rfl));replace HB:=zh (hb);replace HI0:=zh (hi);(try clear hb);(try clear hb2);(try clear hk);(try clear hi))|((with_reducible refine zK (N:=3) rfl ?_);refine zI ?hg (N:=3) ?hd (cs:=#[.int .i64 0,.int .i64 0,.string (⟨#[]⟩ : ByteArray)]) (t:=25) ?hr ?_;(case hd=>rfl);(case hg=>rfl);(case hr=>go_simp <;> rfl);intro gb238 hg w19 hbox hb;replace HB:=zh (zC jCE hb);have BK238:=zh (hbox);have GW238:=zh ((jA8 : w.heap.size≤gb238));have GE238:=zh ((Nat.le_trans HW0.out (jA8 : w.heap.size≤gb238) : w0.heap.size≤gb238));replace HK:=zh (KeepBut.trans jAx (KeepBut.of_below hb g none) (.inl rfl));have NB234_238:=zh ((jCF : gb234≠gb238));have NB238_234:=zh NB234_238.out.symm;replace BK234:=zh (cD BK234.out jAc hb);have NB0_238:=zh ((jCG : g≠gb238));have NB238_0:=zh ((jCH : gb238≠g));replace HI0:=zh (IsS89.below jCI hb);clear hb hbox hg;have hnb20:=NB238_234.out;have hnc20:=NB234_238.out;have hnb21:=NB238_0.out;have hnc21:=NB0_238.out;obtain ⟨hcz22_0,hcz22_1,hcz22_2,hfz22_0,hfz22_1,hfz22_2⟩:=cB3 BK238.out)|((with_reducible refine zJ (f:=61) rfl ?_);refine yj (some 17) rfl rfl Try.func61 jA rfl #[.pointer (some ⟨g,0,none⟩),.int .i64 8] rfl jD ?_;(with_reducible refine (Ft.calls k  g t236 t237 8 t242 t243 t244 w0 _ ?side1 ?side2 A16.out).mono ?_);(case side1=>repeat (with_reducible first|exact HI0.out|apply IsS89.alloc|apply IsS89.drewN|apply IsS89.drew|apply IsS89.set_0|apply IsS89.set_1|refine IsS89.far ?_ NB0_234.out _|refine IsS89.far ?_ NB0_238.out _));(case side2=>repeat (with_reducible first|exact HB.out|apply za|apply zb|apply zc|refine zd ?_ (IsS89.ge HI0.out)|refine zd ?_ GE234.out|refine zd ?_ GE238.out));rintro e w23 ⟨rfl,hi,hb,hk⟩;refine ⟨_,rfl,?_⟩;replace BK234:=zh (KeepBut.blk hk (g':=gb234) (o:=.cells #[.int .i64 0,.int .i64 0,.string (⟨#[]⟩ : ByteArray)] 25 (0,0)) jBM NB234_0.out (by simp));replace BK238:=zh (KeepBut.blk hk (g':=gb238) (o:=.cells #[.int .i64 t235,.int .i64 0,.string (⟨#[]⟩ : ByteArray)] 25 (0,0)) jBN NB238_0.out (by simp));replace HK:=zh (KeepBut.trans jAX hk (.inl rfl));replace HB:=zh (hb);replace HI0:=zh (hi);(try clear hb);(try clear hb2);(try clear hk);(try clear hi);obtain ⟨hcz24_0,hcz24_1,hcz24_2,hfz24_0,hfz24_1,hfz24_2⟩:=cB3 BK238.out;have hnb25:=NB234_0.out;have hnc25:=NB0_234.out;obtain ⟨hcz26_0,hcz26_1,hcz26_2,hfz26_0,hfz26_1,hfz26_2⟩:=cB3 BK234.out))
  refine bodyPost_ret (results_cell_row rfl _ _ gb234 25 #[.int .i64 t235,.int .i64 (wrap64 (t242 - 4611686018427387904)),.string (⟨#[]⟩ : ByteArray)] (0,0) _ rfl (by (with_reducible repeat first|apply ze|apply zf|apply zg);refine zL (cs:=#[.int .i64 t235,.int .i64 (wrap64 (t242 - 4611686018427387904)),.string (⟨#[]⟩ : ByteArray)]) ?_ 2 _ rfl;(with_reducible repeat first|apply ze|apply zf|apply zg);refine zL (cs:=#[.int .i64 t235,.int .i64 0,.string (⟨#[]⟩ : ByteArray)]) ?_ 1 _ rfl;(with_reducible repeat first|apply ze|apply zf|apply zg);refine zL (cs:=#[.int .i64 0,.int .i64 0,.string (⟨#[]⟩ : ByteArray)]) ?_ 0 _ rfl;(with_reducible repeat first|apply ze|apply zf|apply zg);refine zS ?_ NB234_238.out _;(with_reducible repeat first|apply ze|apply zf|apply zg);exact BK234.out) Try.underlying25 rfl jA) rfl ?_;exact ⟨jF,jAy,jAz,jAX⟩
 rw [if_neg c15] at H;have c15b0 : (t235 == 2)=false:=zY.mpr c15;have c15b1 : (t235 != 2)=true:=zZ.mpr c15;have HC27:=zh H;clear H
 go_enter Try.func59,Try.ntmps59
 go_upto_if 20 with (first|((with_reducible refine zK (N:=2) rfl ?_);refine zI ?hg (N:=2) ?hd (cs:=#[.int .i64 0,.int .i64 0,.string (⟨#[]⟩ : ByteArray)]) (t:=25) ?hr ?_;(case hd=>rfl);(case hg=>rfl);(case hr=>go_simp <;> rfl);intro gb234 hg w28 hbox hb;replace HB:=zh (zC jAg hb);have BK234:=zh (hbox);have GW234:=zh ((jAY : w.heap.size≤gb234));have GE234:=zh ((Nat.le_trans HW0.out (jAY : w.heap.size≤gb234) : w0.heap.size≤gb234));replace HK:=zh (KeepBut.trans jT (KeepBut.of_below hb g none) (.inl rfl));have NB0_234:=zh ((jCC : g≠gb234));have NB234_0:=zh ((jCD : gb234≠g));replace HI0:=zh (IsS89.below jAh hb);clear hb hbox hg)|((with_reducible refine zJ (f:=61) rfl ?_);refine yj (some 5) rfl rfl Try.func61 jA rfl #[.pointer (some ⟨g,0,none⟩),.int .i64 1] rfl jD ?_;(with_reducible refine (Ft.calls k  g s0_0 s0_1 1 t235 t236 t237 w0 _ ?side1 ?side2 A2.out).mono ?_);(case side1=>repeat (with_reducible first|exact HI0.out|apply IsS89.alloc|apply IsS89.drewN|apply IsS89.drew|apply IsS89.set_0|apply IsS89.set_1|refine IsS89.far ?_ NB0_234.out _));(case side2=>repeat (with_reducible first|exact HB.out|apply za|apply zb|apply zc|refine zd ?_ (IsS89.ge HI0.out)|refine zd ?_ GE234.out));rintro e w29 ⟨rfl,hi,hb,hk⟩;refine ⟨_,rfl,?_⟩;replace BK234:=zh (KeepBut.blk hk (g':=gb234) (o:=.cells #[.int .i64 0,.int .i64 0,.string (⟨#[]⟩ : ByteArray)] 25 (0,0)) jAc NB234_0.out (by simp));replace HK:=zh (KeepBut.trans jAx hk (.inl rfl));replace HB:=zh (hb);replace HI0:=zh (hi);(try clear hb);(try clear hb2);(try clear hk);(try clear hi))|((with_reducible refine zK (N:=3) rfl ?_);refine zI ?hg (N:=3) ?hd (cs:=#[.int .i64 0,.int .i64 0,.string (⟨#[]⟩ : ByteArray)]) (t:=25) ?hr ?_;(case hd=>rfl);(case hg=>rfl);(case hr=>go_simp <;> rfl);intro gb238 hg w30 hbox hb;replace HB:=zh (zC jCE hb);have BK238:=zh (hbox);have GW238:=zh ((jA8 : w.heap.size≤gb238));have GE238:=zh ((Nat.le_trans HW0.out (jA8 : w.heap.size≤gb238) : w0.heap.size≤gb238));replace HK:=zh (KeepBut.trans jAx (KeepBut.of_below hb g none) (.inl rfl));have NB234_238:=zh ((jCF : gb234≠gb238));have NB238_234:=zh NB234_238.out.symm;replace BK234:=zh (cD BK234.out jAc hb);have NB0_238:=zh ((jCG : g≠gb238));have NB238_0:=zh ((jCH : gb238≠g));replace HI0:=zh (IsS89.below jCI hb);clear hb hbox hg;have hnb31:=NB238_234.out;have hnc31:=NB234_238.out;have hnb32:=NB238_0.out;have hnc32:=NB0_238.out;obtain ⟨hcz33_0,hcz33_1,hcz33_2,hfz33_0,hfz33_1,hfz33_2⟩:=cB3 BK238.out))
 (try simp only [Act.put,zi,zj,zk])
 go_cut [20] (fun v20 wc => ∃ (kq : Nat) (x20_26 : Bool),v20 = .bool x20_26∧Aside0 (Fg.j0 kq x20_26 t236 t237 t235 0 (⟨#[]⟩ : ByteArray)=some (r1,r2,r3,r4,r5))∧Aside0 (kq≤k)∧Aside0 (wc.heap[gb234]? = some (.cells #[.int .i64 0,.int .i64 0,.string (⟨#[]⟩ : ByteArray)] 25 (0,0)))∧Aside0 (wc.heap[gb238]? = some (.cells #[.int .i64 t235,.int .i64 0,.string (⟨#[]⟩ : ByteArray)] 25 (0,0)))∧Aside0 (IsS89 w0 wc g t236 t237)∧Aside0 (KeepBut w wc g none)∧Aside0 (Below w0.heap.size w0 wc))
 case first =>
  have H:=HC27.out;clear HC27
  by_cases c34 : t235=3
  ·
   rw [if_pos c34] at H
   have c34b0 : (t235 == 3)=true:=ya.mpr c34;have c34b1 : (t235 != 3)=false:=zX.mpr c34;clear c34;(first|rw [c34b0]|(simp only [zG,zH];rw [c34b0])|skip);have H':=zh H;clear H
   go_wp2
   go_meet
   case rel=>exact ⟨_,((t235 == 3)),jC,H',⟨jY⟩,⟨jBM⟩,⟨jBN⟩,⟨jAy⟩,⟨jAX⟩,⟨jAz⟩⟩
  rw [if_neg c34] at H;have c34b0 : (t235 == 3)=false:=zY.mpr c34;have c34b1 : (t235 != 3)=true:=zZ.mpr c34;(first|rw [c34b0]|(simp only [zG,zH];rw [c34b0])|skip)
  by_cases c35 : t235=4
  ·
   rw [if_pos c35] at H
   have c35b0 : (t235 == 4)=true:=ya.mpr c35;have c35b1 : (t235 != 4)=false:=zX.mpr c35;clear c35;have H':=zh H;clear H
   go_wp2
   go_meet
   case rel=>exact ⟨_,((t235 == 4)),jC,H',⟨jY⟩,⟨jBM⟩,⟨jBN⟩,⟨jAy⟩,⟨jAX⟩,⟨jAz⟩⟩
  rw [if_neg c35] at H;have c35b0 : (t235 == 4)=false:=zY.mpr c35;have c35b1 : (t235 != 4)=true:=zZ.mpr c35;have H':=zh H;clear H
  go_wp2
  go_meet
  case rel=>exact ⟨_,((t235 == 5)),jC,H',⟨jY⟩,⟨jBM⟩,⟨jBN⟩,⟨jAy⟩,⟨jAX⟩,⟨jAz⟩⟩
 case rest =>
  clear HC27
  try clear c1 c2
  try clear p2
  try clear c3 c3b0 c3b1 c5 c6
  try clear p6
  try clear c8 c9 c13 c15 c15b0 c15b1 c20 c21 c25 c31 c32 c34 c34b0 c34b1 c35 c35b0 c35b1
  try clear hcz10_0 hcz10_1 hcz10_2
  try clear hcz12_0 hcz12_1 hcz12_2
  try clear hcz14_0 hcz14_1 hcz14_2
  try clear hcz22_0 hcz22_1 hcz22_2
  try clear hcz24_0 hcz24_1 hcz24_2
  try clear hcz26_0 hcz26_1 hcz26_2
  try clear hcz33_0 hcz33_1 hcz33_2
  try clear hfz10_0 hfz10_1 hfz10_2
  try clear hfz12_0 hfz12_1 hfz12_2
  try clear hfz14_0 hfz14_1 hfz14_2
  try clear hfz22_0 hfz22_1 hfz22_2
  try clear hfz24_0 hfz24_1 hfz24_2
  try clear hfz26_0 hfz26_1 hfz26_2
  try clear hfz33_0 hfz33_1 hfz33_2
  obtain ⟨kq,x20_26,rfl,HA,HJ26,BK234,BK238,HI0,HK,HB⟩:=hcut
  cases kq with
  | zero=>exact absurd HA.out (by simp [Fg.j0])
  | succ kj26 =>
   have H:=HA.out;clear HA;simp only [Fg.j0] at H
   by_cases c36 : x20_26=true
   ·
    subst c36
    rw [if_pos rfl] at H;replace H:=zT.mp H;obtain ⟨⟨t245,t246,t247⟩,A370,H⟩:=H;have A37:=zh A370;clear A370;replace H:=zT.mp H;obtain ⟨⟨t248,t249,t250⟩,A380,H⟩:=H;have A38:=zh A380;clear A380;simp only [Option.some.injEq,Prod.mk.injEq] at H;obtain ⟨rfl,rfl,rfl,rfl,rfl⟩:=H
    go_wp2_with (first|((with_reducible refine zJ (f:=61) rfl ?_);refine yj (some 26) rfl rfl Try.func61 jA rfl #[.pointer (some ⟨g,0,none⟩),.int .i64 2] rfl jD ?_;(with_reducible refine (Ft.calls kj26  g t236 t237 2 t245 t246 t247 w0 _ ?side1 ?side2 A37.out).mono ?_);(case side1=>repeat (with_reducible first|exact HI0.out|apply IsS89.alloc|apply IsS89.drewN|apply IsS89.drew|apply IsS89.set_0|apply IsS89.set_1|refine IsS89.far ?_ NB0_234.out _|refine IsS89.far ?_ NB0_238.out _));(case side2=>repeat (with_reducible first|exact HB.out|apply za|apply zb|apply zc|refine zd ?_ (IsS89.ge HI0.out)|refine zd ?_ GE234.out|refine zd ?_ GE238.out));rintro e w39 ⟨rfl,hi,hb,hk⟩;refine ⟨_,rfl,?_⟩;replace BK234:=zh (KeepBut.blk hk (g':=gb234) (o:=.cells #[.int .i64 0,.int .i64 0,.string (⟨#[]⟩ : ByteArray)] 25 (0,0)) jAc NB234_0.out (by simp));replace BK238:=zh (KeepBut.blk hk (g':=gb238) (o:=.cells #[.int .i64 t235,.int .i64 0,.string (⟨#[]⟩ : ByteArray)] 25 (0,0)) jC4 NB238_0.out (by simp));replace HK:=zh (KeepBut.trans jAX hk (.inl rfl));replace HB:=zh (hb);replace HI0:=zh (hi);(try clear hb);(try clear hb2);(try clear hk);(try clear hi))|((with_reducible refine zJ (f:=60) rfl ?_);refine yj (some 27) rfl rfl Try.func60 jA rfl #[.pointer (some ⟨g,0,none⟩),.int .i64 t245] rfl jD ?_;(with_reducible refine (F0f.calls  g t246 t247 t245 t248 t249 t250 w0 _ ?side1 ?side2 A38.out).mono ?_);(case side1=>repeat (with_reducible first|exact HI0.out|apply IsS89.alloc|apply IsS89.drewN|apply IsS89.drew|apply IsS89.set_0|apply IsS89.set_1|refine IsS89.far ?_ NB0_234.out _|refine IsS89.far ?_ NB0_238.out _));(case side2=>repeat (with_reducible first|exact HB.out|apply za|apply zb|apply zc|refine zd ?_ (IsS89.ge HI0.out)|refine zd ?_ GE234.out|refine zd ?_ GE238.out));rintro e w40 ⟨rfl,hi,hb,hk⟩;refine ⟨_,rfl,?_⟩;replace BK234:=zh (KeepBut.blk hk (g':=gb234) (o:=.cells #[.int .i64 0,.int .i64 0,.string (⟨#[]⟩ : ByteArray)] 25 (0,0)) jAc NB234_0.out (by simp));replace BK238:=zh (KeepBut.blk hk (g':=gb238) (o:=.cells #[.int .i64 t235,.int .i64 0,.string (⟨#[]⟩ : ByteArray)] 25 (0,0)) jC4 NB238_0.out (by simp));replace HK:=zh (KeepBut.trans jAX hk (.inl rfl));replace HB:=zh (hb);replace HI0:=zh (hi);(try clear hb);(try clear hb2);(try clear hk);(try clear hi);have hnb41:=NB238_234.out;have hnc41:=NB234_238.out;have hnb42:=NB238_0.out;have hnc42:=NB0_238.out;obtain ⟨hcz43_0,hcz43_1,hcz43_2,hfz43_0,hfz43_1,hfz43_2⟩:=cB3 BK238.out;have hnb44:=NB234_0.out;have hnc44:=NB0_234.out;obtain ⟨hcz45_0,hcz45_1,hcz45_2,hfz45_0,hfz45_1,hfz45_2⟩:=cB3 BK234.out))
    refine bodyPost_ret (results_cell_row rfl _ _ gb234 25 #[.int .i64 t235,.int .i64 0,.string t248] (0,0) _ rfl (by (with_reducible repeat first|apply ze|apply zf|apply zg);refine zL (cs:=#[.int .i64 t235,.int .i64 0,.string (⟨#[]⟩ : ByteArray)]) ?_ 2 _ rfl;(with_reducible repeat first|apply ze|apply zf|apply zg);refine zL (cs:=#[.int .i64 t235,.int .i64 0,.string (⟨#[]⟩ : ByteArray)]) ?_ 1 _ rfl;(with_reducible repeat first|apply ze|apply zf|apply zg);refine zL (cs:=#[.int .i64 0,.int .i64 0,.string (⟨#[]⟩ : ByteArray)]) ?_ 0 _ rfl;(with_reducible repeat first|apply ze|apply zf|apply zg);refine zS ?_ NB234_238.out _;(with_reducible repeat first|apply ze|apply zf|apply zg);exact BK234.out) Try.underlying25 rfl jA) rfl ?_;exact ⟨jF,jAy,jAz,jAX⟩
   replace c36:=yb.mpr c36;subst c36;rw [if_neg (show ¬ (false=true) by decide)] at H;simp only [Option.some.injEq,Prod.mk.injEq] at H;obtain ⟨rfl,rfl,rfl,rfl,rfl⟩:=H;have hnb46:=NB238_234.out;have hnc46:=NB234_238.out;have hnb47:=NB238_0.out;have hnc47:=NB0_238.out;obtain ⟨hcz48_0,hcz48_1,hcz48_2,hfz48_0,hfz48_1,hfz48_2⟩:=cB3 BK238.out;have hnb49:=NB234_0.out;have hnc49:=NB0_234.out;obtain ⟨hcz50_0,hcz50_1,hcz50_2,hfz50_0,hfz50_1,hfz50_2⟩:=cB3 BK234.out
   go_wp2
   refine bodyPost_ret (results_cell_row rfl _ _ gb234 25 #[.int .i64 t235,.int .i64 0,.string (⟨#[]⟩ : ByteArray)] (0,0) _ rfl (by (with_reducible repeat first|apply ze|apply zf|apply zg);refine zL (cs:=#[.int .i64 t235,.int .i64 0,.string (⟨#[]⟩ : ByteArray)]) ?_ 2 _ rfl;(with_reducible repeat first|apply ze|apply zf|apply zg);refine zL (cs:=#[.int .i64 t235,.int .i64 0,.string (⟨#[]⟩ : ByteArray)]) ?_ 1 _ rfl;(with_reducible repeat first|apply ze|apply zf|apply zg);refine zL (cs:=#[.int .i64 0,.int .i64 0,.string (⟨#[]⟩ : ByteArray)]) ?_ 0 _ rfl;(with_reducible repeat first|apply ze|apply zf|apply zg);exact BK234.out) Try.underlying25 rfl jA) rfl ?_;exact ⟨jF,jAy,jAz,jAX⟩


def Fe.l0 : Nat→List (S25)→ByteArray→Bool→Option ((List (S25))×Bool)
 | 0,_,_,_=>none
 | k+1,x5,x253000,x253001=>if x253000.toList=([] : List UInt8) then (some (x5,!x253001)) else (if x253001=true then (some (x5,!x253001)) else ((Fg.f k x253000 x253001).bind fun bt256=>(if x5.length<4398046511104 then (Fe.l0 k (x5 ++ [(⟨bt256.1,bt256.2.1,bt256.2.2.1⟩ : S25)]) bt256.2.2.2.1 bt256.2.2.2.2) else (none))))
def Fe.f (k : Nat) (a0_0 : Int) (a0_1 : Int) (a0_2 : ByteArray) : Option ((List (S25))×Bool):=Fe.l0 k (([] : List (S25))) a0_2 false
theorem Fe.mono_l : ∀ k,(∀ y0 y1 y2,LeO (Fe.l0 k y0 y1 y2) (Fe.l0 (k+1) y0 y1 y2))
 | 0=>fun _ _ _ r h=>by simp [Fe.l0] at h
 | k+1=>by
  have ih0:=Fe.mono_l k;intro y0 y1 y2;unfold Fe.l0
  repeat' first|(with_reducible first|exact ih0 _ _ _|exact Fg.mono _ _ _|exact zQ _|exact zN _|refine zP ?_ ?_|refine zO ?_ (fun _=>?_))|refine zP ?_ ?_|refine zO ?_ (fun _=>?_)
theorem Fe.mono : ∀ a0 a1 a2 k,LeO (Fe.f k a0 a1 a2) (Fe.f (k+1) a0 a1 a2):=by
 intro a0 a1 a2 k;have ih0:=Fe.mono_l k;unfold Fe.f
 repeat' first|(with_reducible first|exact ih0 _ _ _|exact Fg.mono _ _ _|exact zQ _|exact zN _|refine zP ?_ ?_|refine zO ?_ (fun _=>?_))|refine zP ?_ ?_|refine zO ?_ (fun _=>?_)
set_option maxHeartbeats 8000000 in
set_option maxRecDepth 100000 in
theorem Fe.calls (k : Nat) (a0_0 : Int) (a0_1 : Int) (a0_2 : ByteArray) (r1 : List (S25)) (r2 : Bool) (w : World) (h : Fe.f k a0_0 a0_1 a0_2=some (r1,r2)) :
  Calls Try.prog 36 #[.agg #[.int .i64 a0_0,.int .i64 a0_1,.string a0_2]] w fun e w' => ∃ v0_ : Value,e = .returned (.tuple #[v0_,.bool r2])∧Kd.R k25 25 w' w.heap.size (fun _=>True) v0_ r1∧Below w.heap.size w w':=by
 have hu25:=Try.underlying25;have hu89:=Try.underlying89;have HB:=zh (Below.refl w.heap.size w);have H : (Fe.l0 k (([] : List (S25))) a0_2 false)=some (r1,r2):=h;clear h;obtain ⟨y253,hy253⟩ : ∃ y_ : List (S25),y_=(([] : List (S25))):=⟨_,rfl⟩;replace H : (Fe.l0 k y253 a0_2 false)=some (r1,r2):=by first|(rw [hy253];with_reducible exact H)|(have H2_:=(Option.bind_some _ _).symm.trans H;rw [hy253];with_reducible exact H2_)|(have H2_:=(Option.bind_some _ _).symm.trans H;with_reducible exact H2_)|with_reducible exact H|(rw [hy253];exact H)|exact H
 have Ny253:=zh hy253;clear hy253;have H':=zh H;clear H
 go_enter Try.func36,Try.ntmps36
 go_wp2_with (first|((with_reducible refine zK (N:=1) rfl ?_);refine zI ?hg (N:=1) ?hd (cs:=#[.int .i64 a0_0,.int .i64 a0_1,.string a0_2]) (t:=25) ?hr ?_;(case hd=>rfl);(case hg=>rfl);(case hr=>go_simp <;> rfl);intro gb251 hg w2 hbox hb;have BK251:=zh (hbox);have hH_:=cH jG hb hg;have GW251:=zh hH_.1;have GE251:=GW251;replace HB:=zh hH_.2;clear hb hbox hg hH_;obtain ⟨hcz3_0,hcz3_1,hcz3_2,hfz3_0,hfz3_1,hfz3_2⟩:=cB3 BK251.out)|((with_reducible refine zK (N:=9) rfl ?_);refine zI ?hg (N:=9) ?hd (cs:=#[.string a0_2,.bool false]) (t:=89) ?hr ?_;(case hd=>rfl);(case hg=>rfl);(case hr=>go_simp <;> rfl);intro gb252 hg w4 hbox hb;have BK252:=zh (hbox);have hH_:=cH jCJ hb hg;have GW252:=zh hH_.1;have GE252:=GW252;replace HB:=zh hH_.2;have NB251_252:=zh ((jCK : gb251≠gb252));have NB252_251:=zh NB251_252.out.symm;replace BK251:=zh (cD BK251.out jn hb);clear hb hbox hg hH_)|((with_reducible refine zK (N:=10) rfl ?_);refine Kd.R_lit k25 _ 25 ?hg (N:=10) ?hd (xs:=([] : List (S25))) (inner:=[]) (ok:=fun _=>True) (okp:=fun _=>True) ?hr ?hp (fun _ hk=>hk) trivial (Below.refl _ _) (ye _) (by simp) ?_;(case hd=>rfl);(case hg=>rfl);(case hr=>go_simp <;> rfl);(case hp=>exact (Reps.none _ _));intro v254 w5 ho6 hb hg_ hnew_;clear hg_ hnew_;(first|rw [← Ny253.out] at ho6|(simp only [Int.reduceToNat] at ho6;rw [← Ny253.out] at ho6));have HO255:=zh (yy (Kd.R_newB ho6 (g:=gb251) (o:=.cells #[.int .i64 a0_0,.int .i64 a0_1,.string a0_2] 25 (0,0)) jn) (zB ju));replace BK251:=zh (cD BK251.out jn hb);replace BK252:=zh (cD BK252.out jAi hb);replace HB:=zh (zC ju hb);clear hb ho6))
 repeat (go_quiet (first|((with_reducible refine zK (N:=1) rfl ?_);refine zI ?hg (N:=1) ?hd (cs:=#[.int .i64 a0_0,.int .i64 a0_1,.string a0_2]) (t:=25) ?hr ?_;(case hd=>rfl);(case hg=>rfl);(case hr=>go_simp <;> rfl);intro gb251 hg w2 hbox hb;have BK251:=zh (hbox);have hH_:=cH jG hb hg;have GW251:=zh hH_.1;have GE251:=GW251;replace HB:=zh hH_.2;clear hb hbox hg hH_;obtain ⟨hcz3_0,hcz3_1,hcz3_2,hfz3_0,hfz3_1,hfz3_2⟩:=cB3 BK251.out)|((with_reducible refine zK (N:=9) rfl ?_);refine zI ?hg (N:=9) ?hd (cs:=#[.string a0_2,.bool false]) (t:=89) ?hr ?_;(case hd=>rfl);(case hg=>rfl);(case hr=>go_simp <;> rfl);intro gb252 hg w4 hbox hb;have BK252:=zh (hbox);have hH_:=cH jCJ hb hg;have GW252:=zh hH_.1;have GE252:=GW252;replace HB:=zh hH_.2;have NB251_252:=zh ((jCK : gb251≠gb252));have NB252_251:=zh NB251_252.out.symm;replace BK251:=zh (cD BK251.out jn hb);clear hb hbox hg hH_)|((with_reducible refine zK (N:=10) rfl ?_);refine Kd.R_lit k25 _ 25 ?hg (N:=10) ?hd (xs:=([] : List (S25))) (inner:=[]) (ok:=fun _=>True) (okp:=fun _=>True) ?hr ?hp (fun _ hk=>hk) trivial (Below.refl _ _) (ye _) (by simp) ?_;(case hd=>rfl);(case hg=>rfl);(case hr=>go_simp <;> rfl);(case hp=>exact (Reps.none _ _));intro v254 w5 ho6 hb hg_ hnew_;clear hg_ hnew_;(first|rw [← Ny253.out] at ho6|(simp only [Int.reduceToNat] at ho6;rw [← Ny253.out] at ho6));have HO255:=zh (yy (Kd.R_newB ho6 (g:=gb251) (o:=.cells #[.int .i64 a0_0,.int .i64 a0_1,.string a0_2] 25 (0,0)) jn) (zB ju));replace BK251:=zh (cD BK251.out jn hb);replace BK252:=zh (cD BK252.out jAi hb);replace HB:=zh (zC ju hb);clear hb ho6));try go_wp2_with (first|((with_reducible refine zK (N:=1) rfl ?_);refine zI ?hg (N:=1) ?hd (cs:=#[.int .i64 a0_0,.int .i64 a0_1,.string a0_2]) (t:=25) ?hr ?_;(case hd=>rfl);(case hg=>rfl);(case hr=>go_simp <;> rfl);intro gb251 hg w2 hbox hb;have BK251:=zh (hbox);have hH_:=cH jG hb hg;have GW251:=zh hH_.1;have GE251:=GW251;replace HB:=zh hH_.2;clear hb hbox hg hH_;obtain ⟨hcz3_0,hcz3_1,hcz3_2,hfz3_0,hfz3_1,hfz3_2⟩:=cB3 BK251.out)|((with_reducible refine zK (N:=9) rfl ?_);refine zI ?hg (N:=9) ?hd (cs:=#[.string a0_2,.bool false]) (t:=89) ?hr ?_;(case hd=>rfl);(case hg=>rfl);(case hr=>go_simp <;> rfl);intro gb252 hg w4 hbox hb;have BK252:=zh (hbox);have hH_:=cH jCJ hb hg;have GW252:=zh hH_.1;have GE252:=GW252;replace HB:=zh hH_.2;have NB251_252:=zh ((jCK : gb251≠gb252));have NB252_251:=zh NB251_252.out.symm;replace BK251:=zh (cD BK251.out jn hb);clear hb hbox hg hH_)|((with_reducible refine zK (N:=10) rfl ?_);refine Kd.R_lit k25 _ 25 ?hg (N:=10) ?hd (xs:=([] : List (S25))) (inner:=[]) (ok:=fun _=>True) (okp:=fun _=>True) ?hr ?hp (fun _ hk=>hk) trivial (Below.refl _ _) (ye _) (by simp) ?_;(case hd=>rfl);(case hg=>rfl);(case hr=>go_simp <;> rfl);(case hp=>exact (Reps.none _ _));intro v254 w5 ho6 hb hg_ hnew_;clear hg_ hnew_;(first|rw [← Ny253.out] at ho6|(simp only [Int.reduceToNat] at ho6;rw [← Ny253.out] at ho6));have HO255:=zh (yy (Kd.R_newB ho6 (g:=gb251) (o:=.cells #[.int .i64 a0_0,.int .i64 a0_1,.string a0_2] 25 (0,0)) jn) (zB ju));replace BK251:=zh (cD BK251.out jn hb);replace BK252:=zh (cD BK252.out jAi hb);replace HB:=zh (zC ju hb);clear hb ho6)))
 go_loopg [5] k (fun kq v5 w' => ∃ (x5_1 : List (S25)) (x253000_1 : ByteArray) (x253001_1 : Bool),Aside0 (Fe.l0 kq x5_1 x253000_1 x253001_1=some (r1,r2))∧Aside0 (kq≤k)∧Aside0 (Kd.R k25 25 w' w.heap.size (fun k_=>k_≠gb251) v5 x5_1)∧Aside0 (w'.heap[gb251]? = some (.cells #[.int .i64 a0_0,.int .i64 a0_1,.string a0_2] 25 (0,0)))∧Aside0 (w'.heap[gb252]? = some (.cells #[.string x253000_1,.bool x253001_1] 89 (0,0)))∧Aside0 (Below w.heap.size w w'))
 case atStart=>exact ⟨(y253),(a0_2),(false),H',⟨ye _⟩,⟨by (with_reducible repeat (first|apply zm|apply zn|apply zo));exact zM HO255.out (fun _ hk=>hk.2)⟩,⟨jn⟩,⟨jAi⟩,⟨ju⟩⟩
 case round =>
  clear H'
  try clear p2
  try clear c3
  try clear hcz3_0 hcz3_1 hcz3_2 hfz3_0 hfz3_1 hfz3_2
  obtain ⟨x5_1,x253000_1,x253001_1,HA,HK1,HO_5,BK251,BK252,HB⟩:=hrel
  cases gk with
  | zero=>exact absurd HA.out (by simp [Fe.l0])
  | succ k1 =>
   have H:=HA.out;clear HA;simp only [Fe.l0] at H
   by_cases c7 : x253000_1.toList=([] : List UInt8)
   ·
    rw [if_pos c7] at H
    have c7b0 : (x253000_1.toList == ([] : List UInt8))=true:=ya.mpr c7;have c7b1 : (x253000_1.toList != ([] : List UInt8))=false:=zX.mpr c7;clear c7;simp only [Option.some.injEq,Prod.mk.injEq] at H;obtain ⟨rfl,rfl⟩:=H;have hnb8:=NB252_251.out;have hnc8:=NB251_252.out;obtain ⟨hcz9_0,hcz9_1,hfz9_0,hfz9_1⟩:=cB2 BK252.out
    go_wp2
    repeat (go_quiet (fail);try go_wp2)
    go_ret2
    exact ⟨_,jF,jC5,ju⟩
   rw [if_neg c7] at H;have c7b0 : (x253000_1.toList == ([] : List UInt8))=false:=zY.mpr c7;have c7b1 : (x253000_1.toList != ([] : List UInt8))=true:=zZ.mpr c7
   by_cases c10 : x253001_1=true
   ·
    subst c10
    rw [if_pos rfl] at H;simp only [Option.some.injEq,Prod.mk.injEq] at H;obtain ⟨rfl,rfl⟩:=H;have hnb11:=NB252_251.out;have hnc11:=NB251_252.out;obtain ⟨hcz12_0,hcz12_1,hfz12_0,hfz12_1⟩:=cB2 BK252.out
    go_wp2
    repeat (go_quiet (fail);try go_wp2)
    go_ret2
    exact ⟨_,jF,jC5,ju⟩
   replace c10:=yb.mpr c10;subst c10;rw [if_neg (show ¬ (false=true) by decide)] at H;replace H:=zT.mp H;obtain ⟨⟨t256,t257,t258,t259,t260⟩,A130,H⟩:=H;have A13:=zh A130;clear A130
   by_cases c14 : x5_1.length<4398046511104
   ·
    rw [if_pos c14] at H
    have LMc14:=zh c14;clear c14;obtain ⟨y261,hy261⟩ : ∃ y_ : List (S25),y_=(x5_1 ++ [(⟨t256,t257,t258⟩ : S25)]):=⟨_,rfl⟩;replace H : (Fe.l0 k1 y261 t259 t260)=some (r1,r2):=by first|(rw [hy261];with_reducible exact H)|(have H2_:=(Option.bind_some _ _).symm.trans H;rw [hy261];with_reducible exact H2_)|(have H2_:=(Option.bind_some _ _).symm.trans H;with_reducible exact H2_)|with_reducible exact H|(rw [hy261];exact H)|exact H
    have Ny261:=zh hy261;clear hy261;have H':=zh H;clear H;have hnb15:=NB252_251.out;have hnc15:=NB251_252.out;obtain ⟨hcz16_0,hcz16_1,hfz16_0,hfz16_1⟩:=cB2 BK252.out;have HI252:=zh (show IsS89 w wr gb252 x253000_1 false from ⟨BK252.out,GE252.out⟩)
    go_wp2_with (first|(go_at_call 59;(with_reducible refine (Fg.calls k1  gb252 x253000_1 false t256 t257 t258 t259 t260 w _ ?side1 ?side2 A13.out).mono ?_);(case side1=>repeat (with_reducible first|exact HI252.out|apply IsS89.alloc|apply IsS89.drewN|apply IsS89.drew|apply IsS89.set_0|apply IsS89.set_1|refine IsS89.far ?_ NB252_251.out _));(case side2=>repeat (with_reducible first|exact HB.out|apply za|apply zb|apply zc|refine zd ?_ (IsS89.ge HI252.out)|refine zd ?_ GE251.out));rintro e w17 ⟨rfl,hi,hb,hk⟩;replace HO_5:=zh (zM (Kd.R_keep (IsS89.apart (show IsS89 w _ gb252 x253000_1 false from by repeat (with_reducible first|exact HI252.out|apply IsS89.alloc|apply IsS89.drewN|apply IsS89.drew|apply IsS89.set_0|apply IsS89.set_1|refine IsS89.far ?_ NB252_251.out _)) jI jB) hk (fun _ h=>h.2)) (fun _ h=>h.1));replace BK251:=zh (KeepBut.blk hk (g':=gb251) (o:=.cells #[.int .i64 a0_0,.int .i64 a0_1,.string a0_2] 25 (0,0)) jn NB251_252.out (by simp));replace HB:=zh (hb);replace BK252:=zh ((show _∧_ from hi).1);clear HI252;(try clear hb);(try clear hb2);(try clear hk);(try clear hi))|((with_reducible refine yB (b:=.append) (xs:=#[.tmp 23,.tmp 26]) rfl ?_);at_builtin;refine Kd.R_append k25 (w0:=w) w.heap.size rfl (.tmp 23) (.tmp 26) 34 25 (.agg #[(.int .i64 0),(.int .i64 0),(.string ⟨#[]⟩)]) 32 rfl Try.underlying34 info25 rfl jB jH u5 x5_1 (⟨t256,t257,t258⟩ : S25) [.int .i64 t256,.int .i64 t257,.string t258] (fun k_=>k_≠gb251) (fun _=>False) rfl rfl ?aP (fun _ hk=>hk.elim) ?aF ?aO ?aB ?aS ?aL ?_;(case aP=>exact k25_mkM _ _ _ (⟨t256,t257,t258⟩ : S25));(case aB=>exact ju);(case aF=>exact (fun k_ hk=>Kd.freshB (g:=gb251) (o:=.cells #[.int .i64 a0_0,.int .i64 a0_1,.string a0_2] 25 (0,0)) jn k_ hk));(case aO=>exact jI);(case aS=>exact (zB ju));(case aL=>have:=LMc14.out;omega);intro v262 w18 ho hb hg hat;rw [← Ny261.out] at ho;replace BK251:=zh (yw (g:=gb251) (o:=.cells #[.int .i64 a0_0,.int .i64 a0_1,.string a0_2] 25 (0,0)) jn hg (yv HO_5.out (fun _ hk=>hk)));replace BK252:=zh (yw (g:=gb252) (o:=.cells #[.string t259,.bool t260] 89 (0,0)) jAi hg (Kd.R_ne HO_5.out BK252.out jB));replace HB:=zh (hb);have HO263:=zh (ho);clear HO_5 ho hb hg hat))
    repeat (go_quiet (first|(go_at_call 59;(with_reducible refine (Fg.calls k1  gb252 x253000_1 false t256 t257 t258 t259 t260 w _ ?side1 ?side2 A13.out).mono ?_);(case side1=>repeat (with_reducible first|exact HI252.out|apply IsS89.alloc|apply IsS89.drewN|apply IsS89.drew|apply IsS89.set_0|apply IsS89.set_1|refine IsS89.far ?_ NB252_251.out _));(case side2=>repeat (with_reducible first|exact HB.out|apply za|apply zb|apply zc|refine zd ?_ (IsS89.ge HI252.out)|refine zd ?_ GE251.out));rintro e w17 ⟨rfl,hi,hb,hk⟩;replace HO_5:=zh (zM (Kd.R_keep (IsS89.apart (show IsS89 w _ gb252 x253000_1 false from by repeat (with_reducible first|exact HI252.out|apply IsS89.alloc|apply IsS89.drewN|apply IsS89.drew|apply IsS89.set_0|apply IsS89.set_1|refine IsS89.far ?_ NB252_251.out _)) jI jB) hk (fun _ h=>h.2)) (fun _ h=>h.1));replace BK251:=zh (KeepBut.blk hk (g':=gb251) (o:=.cells #[.int .i64 a0_0,.int .i64 a0_1,.string a0_2] 25 (0,0)) jn NB251_252.out (by simp));replace HB:=zh (hb);replace BK252:=zh ((show _∧_ from hi).1);clear HI252;(try clear hb);(try clear hb2);(try clear hk);(try clear hi))|((with_reducible refine yB (b:=.append) (xs:=#[.tmp 23,.tmp 26]) rfl ?_);at_builtin;refine Kd.R_append k25 (w0:=w) w.heap.size rfl (.tmp 23) (.tmp 26) 34 25 (.agg #[(.int .i64 0),(.int .i64 0),(.string ⟨#[]⟩)]) 32 rfl Try.underlying34 info25 rfl jB jH u5 x5_1 (⟨t256,t257,t258⟩ : S25) [.int .i64 t256,.int .i64 t257,.string t258] (fun k_=>k_≠gb251) (fun _=>False) rfl rfl ?aP (fun _ hk=>hk.elim) ?aF ?aO ?aB ?aS ?aL ?_;(case aP=>exact k25_mkM _ _ _ (⟨t256,t257,t258⟩ : S25));(case aB=>exact ju);(case aF=>exact (fun k_ hk=>Kd.freshB (g:=gb251) (o:=.cells #[.int .i64 a0_0,.int .i64 a0_1,.string a0_2] 25 (0,0)) jn k_ hk));(case aO=>exact jI);(case aS=>exact (zB ju));(case aL=>have:=LMc14.out;omega);intro v262 w18 ho hb hg hat;rw [← Ny261.out] at ho;replace BK251:=zh (yw (g:=gb251) (o:=.cells #[.int .i64 a0_0,.int .i64 a0_1,.string a0_2] 25 (0,0)) jn hg (yv HO_5.out (fun _ hk=>hk)));replace BK252:=zh (yw (g:=gb252) (o:=.cells #[.string t259,.bool t260] 89 (0,0)) jAi hg (Kd.R_ne HO_5.out BK252.out jB));replace HB:=zh (hb);have HO263:=zh (ho);clear HO_5 ho hb hg hat));try go_wp2_with (first|(go_at_call 59;(with_reducible refine (Fg.calls k1  gb252 x253000_1 false t256 t257 t258 t259 t260 w _ ?side1 ?side2 A13.out).mono ?_);(case side1=>repeat (with_reducible first|exact HI252.out|apply IsS89.alloc|apply IsS89.drewN|apply IsS89.drew|apply IsS89.set_0|apply IsS89.set_1|refine IsS89.far ?_ NB252_251.out _));(case side2=>repeat (with_reducible first|exact HB.out|apply za|apply zb|apply zc|refine zd ?_ (IsS89.ge HI252.out)|refine zd ?_ GE251.out));rintro e w17 ⟨rfl,hi,hb,hk⟩;replace HO_5:=zh (zM (Kd.R_keep (IsS89.apart (show IsS89 w _ gb252 x253000_1 false from by repeat (with_reducible first|exact HI252.out|apply IsS89.alloc|apply IsS89.drewN|apply IsS89.drew|apply IsS89.set_0|apply IsS89.set_1|refine IsS89.far ?_ NB252_251.out _)) jI jB) hk (fun _ h=>h.2)) (fun _ h=>h.1));replace BK251:=zh (KeepBut.blk hk (g':=gb251) (o:=.cells #[.int .i64 a0_0,.int .i64 a0_1,.string a0_2] 25 (0,0)) jn NB251_252.out (by simp));replace HB:=zh (hb);replace BK252:=zh ((show _∧_ from hi).1);clear HI252;(try clear hb);(try clear hb2);(try clear hk);(try clear hi))|((with_reducible refine yB (b:=.append) (xs:=#[.tmp 23,.tmp 26]) rfl ?_);at_builtin;refine Kd.R_append k25 (w0:=w) w.heap.size rfl (.tmp 23) (.tmp 26) 34 25 (.agg #[(.int .i64 0),(.int .i64 0),(.string ⟨#[]⟩)]) 32 rfl Try.underlying34 info25 rfl jB jH u5 x5_1 (⟨t256,t257,t258⟩ : S25) [.int .i64 t256,.int .i64 t257,.string t258] (fun k_=>k_≠gb251) (fun _=>False) rfl rfl ?aP (fun _ hk=>hk.elim) ?aF ?aO ?aB ?aS ?aL ?_;(case aP=>exact k25_mkM _ _ _ (⟨t256,t257,t258⟩ : S25));(case aB=>exact ju);(case aF=>exact (fun k_ hk=>Kd.freshB (g:=gb251) (o:=.cells #[.int .i64 a0_0,.int .i64 a0_1,.string a0_2] 25 (0,0)) jn k_ hk));(case aO=>exact jI);(case aS=>exact (zB ju));(case aL=>have:=LMc14.out;omega);intro v262 w18 ho hb hg hat;rw [← Ny261.out] at ho;replace BK251:=zh (yw (g:=gb251) (o:=.cells #[.int .i64 a0_0,.int .i64 a0_1,.string a0_2] 25 (0,0)) jn hg (yv HO_5.out (fun _ hk=>hk)));replace BK252:=zh (yw (g:=gb252) (o:=.cells #[.string t259,.bool t260] 89 (0,0)) jAi hg (Kd.R_ne HO_5.out BK252.out jB));replace HB:=zh (hb);have HO263:=zh (ho);clear HO_5 ho hb hg hat)))
    go_roundg k1
    case measure=>have:=HK1.out;omega
    case rel=>exact ⟨(y261),(t259),(t260),H',⟨jZ⟩,⟨by (with_reducible repeat (first|apply zm|apply zn|apply zo));exact HO263.out⟩,⟨jn⟩,⟨jAi⟩,⟨ju⟩⟩
   rw [if_neg c14] at H;exact absurd H (by simp)

end Go.Proofs.Ytoinoihiknmnmaa.Q
end
