/- Texts of this claim, merged by a program of this session. -/
import Derived.Test.YtdjnplkpahgnmaaKLawFnKeysp23
section
namespace Go.Proofs.Ytdjnplkpahgnmaa.Q
open Go.RowKit Go.Proofs.YtdjnplkpahgnmaaW.PrintWords Go.Proofs.YtdjnplkpahgnmaaW.PrintLast Go.Proofs.YtdjnplkpahgnmaaW.PrintMore
attribute [local go_sem] max2_int min2_int max_two min_two max_three min_three max_four min_four max2_str min2_str str_geq str_gtr str_leq
set_option linter.unusedVariables false
set_option linter.unusedSimpArgs false

def F11.f (s0_0 : List Int) (s0_1 : Int) (s0_2 : Int) (l1 : List ByteArray) : Option (ByteArray×Int×Int):=if (l1.length : Int)=0 then (some ((⟨#[]⟩ : ByteArray),s0_1,s0_2)) else ((F07.f s0_0 s0_1 s0_2 (l1.length : Int)).bind fun bt183=>(if 0≤bt183.1 then (if bt183.1<(l1.length : Int) then (some (rdOf ByteArray.empty l1 bt183.1,bt183.2.1,bt183.2.2)) else (none)) else (none)))
set_option maxHeartbeats 8000000 in
set_option maxRecDepth 100000 in
theorem F11.calls (g : Nat) (s0_0 : List Int) (s0_1 : Int) (s0_2 : Int) (A1 : Option Addr) (c1 : Nat) (l1 : List ByteArray) (r1 : ByteArray) (r2 : Int) (r3 : Int) (w0 w : World) (hI : IsS50 w0 w g s0_0 s0_1 s0_2) (hB : Below w0.heap.size w0 w) (hr1 : Kd.C Kd.string w A1 l1.length l1) (hc1 : l1.length≤c1) (hf1 : ∀ ad,A1=some ad→0<l1.length→ad.block≠g) (h : F11.f s0_0 s0_1 s0_2 l1=some (r1,r2,r3)) :
  Calls Try.prog 26 #[.pointer (some ⟨g,0,none⟩),.slice A1 l1.length c1] w fun e w' => e = .returned (.string r1)∧IsS50 w0 w' g s0_0 r2 r3∧Below w0.heap.size w0 w' ∧ KeepBut w w' g none:=by
 have HR1:=zh hr1;have HC1:=zh hc1;clear hr1 hc1;have HI0:=zh hI;have HK:=zh (KeepBut.refl w g none);have HL:=zh hB.size;clear hI;have HW0:=zh hB.size;have HB:=zh hB;clear hB;have H : (if (l1.length : Int)=0 then (some ((⟨#[]⟩ : ByteArray),s0_1,s0_2)) else ((F07.f s0_0 s0_1 s0_2 (l1.length : Int)).bind fun bt183=>(if 0≤bt183.1 then (if bt183.1<(l1.length : Int) then (some (rdOf ByteArray.empty l1 bt183.1,bt183.2.1,bt183.2.2)) else (none)) else (none))))=some (r1,r2,r3):=h;clear h
 by_cases c3 : (l1.length : Int)=0
 ·
  rw [if_pos c3] at H
  have c3b0 : ((l1.length : Int) == 0)=true:=ya.mpr c3;have c3b1 : ((l1.length : Int) != 0)=false:=zX.mpr c3;clear c3;simp only [Option.some.injEq,Prod.mk.injEq] at H;obtain ⟨rfl,rfl,rfl⟩:=H
  go_enter Try.func26,Try.ntmps26
  go_wp2
  go_ret
  exact ⟨jG,jx,jy,jI⟩
 rw [if_neg c3] at H;have c3b0 : ((l1.length : Int) == 0)=false:=zY.mpr c3;have c3b1 : ((l1.length : Int) != 0)=true:=zZ.mpr c3;have c3b2 : ¬ (l1=[]):=fun h_=>c3 (by rw [h_];rfl);replace H:=zT.mp H;obtain ⟨⟨t183,t184,t185⟩,A40,H⟩:=H;have A4:=zh A40;clear A40
 by_cases c5 : 0≤t183
 ·
  rw [if_pos c5] at H
  have c5b0 : decide (0≤t183)=true:=decide_eq_true c5;clear c5
  by_cases c6 : t183<(l1.length : Int)
  ·
   rw [if_pos c6] at H
   have c6b0 : decide (t183<(l1.length : Int))=true:=decide_eq_true c6;clear c6;simp only [Option.some.injEq,Prod.mk.injEq] at H;obtain ⟨rfl,rfl,rfl⟩:=H
   go_enter Try.func26,Try.ntmps26
   go_wp2_with (first|((with_reducible refine zJ (f:=23) rfl ?_);refine yj (some 12) rfl rfl Try.func23 jA rfl #[.pointer (some ⟨g,0,none⟩),.int .i64 (l1.length : Int)] rfl jB ?_;(with_reducible refine (F07.calls  g s0_0 s0_1 s0_2 (l1.length : Int) t183 t184 t185 w0 _ ?side1 ?side2 A4.out).mono ?_);(case side1=>repeat (with_reducible first|exact HI0.out|apply IsS50.alloc|apply IsS50.drewN|apply IsS50.drew|apply IsS50.set_1|apply IsS50.set_2));(case side2=>repeat (with_reducible first|exact HB.out|apply za|apply zb|apply zc|refine zd ?_ (IsS50.ge HI0.out)));rintro e w7 ⟨rfl,hi,hb,hk⟩;refine ⟨_,rfl,?_⟩;replace HK:=zh (KeepBut.trans jI hk (.inl rfl));replace HB:=zh (hb);replace HI0:=zh (hi);(try clear hb);(try clear hb2);(try clear hk);(try clear hi);have p186 : 0≤(t183 : Int):=zy jF;have q186 : t183<(l1.length : Int):=zy jF;obtain ⟨ad186,e186,hx186_0⟩:=Kd.at_string HR1.out t183 p186 q186;cases e186;replace hx186_0:=keep_cell HK.out hx186_0 (by first|(rw [zF];exact hf1 _ rfl jH)|exact hf1 _ rfl jH|exact hf1 ad186 rfl jH);replace p186:=eq_true p186;replace q186:=eq_true q186))
   go_ret
   exact ⟨jG,jx,jy,jI⟩
  rw [if_neg c6] at H;exact absurd H (by simp)
 rw [if_neg c5] at H;exact absurd H (by simp)


def F01.l0 : Nat→List (S24)→ByteArray→Int→Option (Int×Int×ByteArray)
 | 0,_,_,_=>none
 | k+1,x0,x3,x4=>if x4<(x0.length : Int) then (if 0≤x4 then ((F0c.f k ((rd_T24 x0 x4).f0) ((rd_T24 x0 x4).f1) ((rd_T24 x0 x4).f2)).bind fun t200=>(if x3.size+t200.size≤9223372036854775807 then (F01.l0 k x0 (x3++t200) (wrap64 (x4+1))) else (none))) else (none)) else (some (4,0,x3))
def F01.f (k : Nat) (l0 : List (S24)) : Option (Int×Int×ByteArray):=F01.l0 k l0 (⟨#[]⟩ : ByteArray) 0
theorem F01.mono_l : ∀ k,(∀ y0 y1 y2,LeO (F01.l0 k y0 y1 y2) (F01.l0 (k+1) y0 y1 y2))
 | 0=>fun _ _ _ r h=>by simp [F01.l0] at h
 | k+1=>by
  have ih0:=F01.mono_l k;intro y0 y1 y2;unfold F01.l0
  repeat' first|(with_reducible first|exact ih0 _ _ _|exact F0c.mono _ _ _ _|exact zQ _|exact zN _|refine zP ?_ ?_|refine zO ?_ (fun _=>?_))|refine zP ?_ ?_|refine zO ?_ (fun _=>?_)
theorem F01.mono : ∀ a0 k,LeO (F01.f k a0) (F01.f (k+1) a0):=by
 intro a0 k;have ih0:=F01.mono_l k;unfold F01.f
 repeat' first|(with_reducible first|exact ih0 _ _ _|exact F0c.mono _ _ _ _|exact zQ _|exact zN _|refine zP ?_ ?_|refine zO ?_ (fun _=>?_))|refine zP ?_ ?_|refine zO ?_ (fun _=>?_)
set_option maxHeartbeats 8000000 in
set_option maxRecDepth 100000 in
theorem F01.calls (k : Nat) (A0 : Option Addr) (c0 : Nat) (l0 : List (S24)) (r1 : Int) (r2 : Int) (r3 : ByteArray) (w : World) (hr0 : Kd.C k24 w A0 l0.length l0) (hc0 : l0.length≤c0) (h : F01.f k l0=some (r1,r2,r3)) :
  Calls Try.prog 27 #[.slice A0 l0.length c0] w fun e w' => e = .returned (.agg #[.int .i64 r1,.int .i64 r2,.string r3])∧Below w.heap.size w w':=by
 have hu24:=Try.underlying24;have HR0:=zh hr0;have HC0:=zh hc0;clear hr0 hc0;have HB:=zh (Below.refl w.heap.size w);have H : (F01.l0 k l0 (⟨#[]⟩ : ByteArray) 0)=some (r1,r2,r3):=h;clear h;have H':=zh H;clear H
 go_enter Try.func27,Try.ntmps27
 go_wp2_with (first|((with_reducible refine zK (N:=2) rfl ?_);refine zI ?hg (N:=2) ?hd (cs:=#[.int .i64 0,.int .i64 0,.string (⟨#[]⟩ : ByteArray)]) (t:=24) ?hr ?_;(case hd=>rfl);(case hg=>rfl);(case hr=>go_simp <;> rfl);intro gb198 hg w2 hbox hb;have BK198:=zh (hbox);have hH_:=cH jD hb hg;have GW198:=zh hH_.1;have GE198:=GW198;replace HB:=zh hH_.2;clear hb hbox hg hH_))
 go_loopg [3,4] k (fun kq v3 v4 w' => ∃ (x3_1 : ByteArray) (x4_1 : Int),v3 = .string x3_1∧v4 = .int .i64 x4_1∧Aside0 (F01.l0 kq l0 x3_1 x4_1=some (r1,r2,r3))∧Aside0 (kq≤k)∧Aside0 (w'.heap[gb198]? = some (.cells #[.int .i64 0,.int .i64 0,.string (⟨#[]⟩ : ByteArray)] 24 (0,0)))∧Aside0 (Below w.heap.size w w'))
 case atStart=>exact ⟨((⟨#[]⟩ : ByteArray)),(0),jE,jE,H',⟨ye _⟩,⟨jBr⟩,⟨jBT⟩⟩
 case round =>
  clear H'
  try clear c2
  try clear p2
  obtain ⟨x3_1,x4_1,rfl,rfl,HA,HK1,BK198,HB⟩:=hrel
  cases gk with
  | zero=>exact absurd HA.out (by simp [F01.l0])
  | succ k1 =>
   have H:=HA.out;clear HA;simp only [F01.l0] at H
   by_cases c3 : x4_1<(l0.length : Int)
   ·
    rw [if_pos c3] at H
    have c3b0 : decide (x4_1<(l0.length : Int))=true:=decide_eq_true c3;clear c3
    by_cases c4 : 0≤x4_1
    ·
     rw [if_pos c4] at H
     have c4b0 : decide (0≤x4_1)=true:=decide_eq_true c4;clear c4;replace H:=zT.mp H;obtain ⟨t200,A50,H⟩:=H;have A5:=zh A50;clear A50
     by_cases c6 : x3_1.size+t200.size≤9223372036854775807
     ·
      rw [if_pos c6] at H
      have c6b0:=eq_true c6;have c6b1 : decide (x3_1.size+t200.size≤9223372036854775807)=true:=decide_eq_true c6
      try have c6b2 : (9223372036854775807<x3_1.size+t200.size)=False:=eq_false (Nat.not_lt.2 c6)
      have H':=zh H;clear H;have p199 : 0≤(x4_1 : Int):=zy jF;have q199 : x4_1<(l0.length : Int):=zy jF;obtain ⟨ad199,e199,hx199_0,hx199_1,hx199_2⟩:=at_T24 HR0.out x4_1 p199 q199
      cases e199
      replace hx199_0:=(HB.out.cell (zl w _ hx199_0)).trans hx199_0;replace hx199_1:=(HB.out.cell (zl w _ hx199_1)).trans hx199_1;replace hx199_2:=(HB.out.cell (zl w _ hx199_2)).trans hx199_2;replace p199:=eq_true p199;replace q199:=eq_true q199
      go_wp2_with (first|((with_reducible refine zJ (f:=52) rfl ?_);refine yj (some 16) rfl rfl Try.func52 jA rfl #[.agg #[.int .i64 ((rd_T24 l0 x4_1).f0),.int .i64 ((rd_T24 l0 x4_1).f1),.string ((rd_T24 l0 x4_1).f2)]] rfl jB ?_;(with_reducible refine (F0c.calls k1  ((rd_T24 l0 x4_1).f0) ((rd_T24 l0 x4_1).f1) ((rd_T24 l0 x4_1).f2) t200 _ A5.out).mono ?_);rintro e w7 ⟨rfl,hb⟩;refine ⟨_,rfl,?_⟩;replace BK198:=zh (cD BK198.out jBr hb);replace HB:=zh (zC jBT hb);(try clear hb);(try clear hb2);(try clear hk);(try clear hi)))
      go_roundg k1
      case measure=>have:=HK1.out;omega
      case rel=>exact ⟨(x3_1++t200),(wrap64 (x4_1+1)),jE,jE,H',⟨jN⟩,⟨jBr⟩,⟨jBT⟩⟩
     rw [if_neg c6] at H;exact absurd H (by simp)
    rw [if_neg c4] at H;exact absurd H (by simp)
   rw [if_neg c3] at H;have c3b0 : decide (x4_1<(l0.length : Int))=false:=decide_eq_false c3;clear c3;simp only [Option.some.injEq,Prod.mk.injEq] at H;obtain ⟨rfl,rfl,rfl⟩:=H;obtain ⟨hcz8_0,hcz8_1,hcz8_2,hfz8_0,hfz8_1,hfz8_2⟩:=cB3 BK198.out
   go_wp2
   refine bodyPost_ret (results_cell_row rfl _ _ gb198 24 #[.int .i64 4,.int .i64 0,.string x3_1] (0,0) _ rfl (by (with_reducible repeat first|apply ze|apply zf|apply zg);refine zL (cs:=#[.int .i64 4,.int .i64 0,.string (⟨#[]⟩ : ByteArray)]) ?_ 2 _ rfl;(with_reducible repeat first|apply ze|apply zf|apply zg);refine zL (cs:=#[.int .i64 4,.int .i64 0,.string (⟨#[]⟩ : ByteArray)]) ?_ 1 _ rfl;(with_reducible repeat first|apply ze|apply zf|apply zg);refine zL (cs:=#[.int .i64 0,.int .i64 0,.string (⟨#[]⟩ : ByteArray)]) ?_ 0 _ rfl;(with_reducible repeat first|apply ze|apply zf|apply zg);exact BK198.out) Try.underlying24 rfl jA) rfl ?_;exact ⟨jG,jBT⟩

end Go.Proofs.Ytdjnplkpahgnmaa.Q
end
section
namespace Go.Proofs.Ytdjnplkpahgnmaa.Q
open Go.RowKit Go.Proofs.YtdjnplkpahgnmaaW.PrintWords Go.Proofs.YtdjnplkpahgnmaaW.PrintLast Go.Proofs.YtdjnplkpahgnmaaW.PrintMore
attribute [local go_sem] max2_int min2_int max_two min_two max_three min_three max_four min_four max2_str min2_str str_geq str_gtr str_leq   -- for this text's walks alone
set_option linter.unusedVariables false
set_option linter.unusedSimpArgs false

structure DrawV where
 f : Nat→List Int→Int→Int→Int→Option (Int×Int×ByteArray×Int×Int)
 mono : ∀ a0 a1 a2 a3 k,LeO (f k a0 a1 a2 a3) (f (k+1) a0 a1 a2 a3)
 calls : ∀ (k : Nat) (g : Nat) (s0_0 : List Int) (s0_1 : Int) (s0_2 : Int) (a1 : Int) (r1 : Int) (r2 : Int) (r3 : ByteArray) (r4 : Int) (r5 : Int) (w0 w : World) (hI : IsS50 w0 w g s0_0 s0_1 s0_2) (hB : Below w0.heap.size w0 w) (h : f k s0_0 s0_1 s0_2 a1=some (r1,r2,r3,r4,r5)),
  Calls Try.prog 11 #[.pointer (some ⟨g,0,none⟩),.int .i64 a1] w fun e w' => e = .returned (.agg #[.int .i64 r1,.int .i64 r2,.string r3])∧IsS50 w0 w' g s0_0 r4 r5∧Below w0.heap.size w0 w' ∧ KeepBut w w' g none
structure DrawD where
 f : Nat→List Int→Int→Int→Int→Option (Int×Int×ByteArray×Int×Int)
 mono : ∀ a0 a1 a2 a3 k,LeO (f k a0 a1 a2 a3) (f (k+1) a0 a1 a2 a3)
 calls : ∀ (k : Nat) (g : Nat) (s0_0 : List Int) (s0_1 : Int) (s0_2 : Int) (a1 : Int) (r1 : Int) (r2 : Int) (r3 : ByteArray) (r4 : Int) (r5 : Int) (w0 w : World) (hI : IsS50 w0 w g s0_0 s0_1 s0_2) (hB : Below w0.heap.size w0 w) (h : f k s0_0 s0_1 s0_2 a1=some (r1,r2,r3,r4,r5)),
  Calls Try.prog 28 #[.pointer (some ⟨g,0,none⟩),.int .i64 a1] w fun e w' => e = .returned (.agg #[.int .i64 r1,.int .i64 r2,.string r3])∧IsS50 w0 w' g s0_0 r4 r5∧Below w0.heap.size w0 w' ∧ KeepBut w w' g none
def Fm.l0 (V : DrawV) : Nat→Int→List (S68)→Int→List Int→Int→Int→Option (Int×Int×ByteArray×Int×Int)
 | 0,_,_,_,_,_,_=>none
 | k+1,x1,x5,x6,x1000,x1001,x1002=>if x6<4 then ((F14.f x1000 x1001 x1002 2).bind fun bt214=>(if bt214.1=true then ((some (([(⟨#[97]⟩ : ByteArray),(⟨#[98]⟩ : ByteArray),(⟨#[99]⟩ : ByteArray),(⟨#[116,97,103,115]⟩ : ByteArray)] : List ByteArray) : List ByteArray)).bind fun y217=>(if 0≤x6 then (if x6<(y217.length : Int) then ((V.f k x1000 bt214.2.1 bt214.2.2 x1).bind fun bt221=>(if x5.length<2932031007402 then (Fm.l0 V k x1 (x5 ++ [(⟨rdOf ByteArray.empty y217 x6,(⟨bt221.1,bt221.2.1,bt221.2.2.1⟩ : S24)⟩ : S68)]) (wrap64 (x6+1)) x1000 bt221.2.2.2.1 bt221.2.2.2.2) else (none))) else (none)) else (none))) else (Fm.l0 V k x1 x5 (wrap64 (x6+1)) x1000 bt214.2.1 bt214.2.2))) else ((Fj.f k x5).bind fun bt229=>((F0b.f k bt229.1 bt229.2.1 bt229.2.2).bind fun t233=>(if t233=true then (some (bt229.1,bt229.2.1,bt229.2.2,x1001,x1002)) else ((Fj.f k (([] : List (S68)))).bind fun bt237=>(some (bt237.1,bt237.2.1,bt237.2.2,x1001,x1002))))))
def Fm.f (V : DrawV) (k : Nat) (s0_0 : List Int) (s0_1 : Int) (s0_2 : Int) (a1 : Int) : Option (Int×Int×ByteArray×Int×Int):=Fm.l0 V k a1 (([] : List (S68))) 0 s0_0 s0_1 s0_2
theorem Fm.mono_l (V : DrawV) : ∀ k,(∀ y0 y1 y2 y3 y4 y5,LeO (Fm.l0 V k y0 y1 y2 y3 y4 y5) (Fm.l0 V (k+1) y0 y1 y2 y3 y4 y5))
 | 0=>fun _ _ _ _ _ _ r h=>by simp [Fm.l0] at h
 | k+1=>by
  have ih0:=Fm.mono_l V k;intro y0 y1 y2 y3 y4 y5;unfold Fm.l0
  repeat' first|(with_reducible first|exact ih0 _ _ _ _ _ _|exact V.mono _ _ _ _ _|exact F0b.mono _ _ _ _|exact Fj.mono _ _|exact zQ _|exact zN _|refine zP ?_ ?_|refine zO ?_ (fun _=>?_))|refine zP ?_ ?_|refine zO ?_ (fun _=>?_)
theorem Fm.mono (V : DrawV) : ∀ a0 a1 a2 a3 k,LeO (Fm.f V k a0 a1 a2 a3) (Fm.f V (k+1) a0 a1 a2 a3):=by
 intro a0 a1 a2 a3 k;have ih0:=Fm.mono_l V k;unfold Fm.f
 repeat' first|(with_reducible first|exact ih0 _ _ _ _ _ _|exact V.mono _ _ _ _ _|exact F0b.mono _ _ _ _|exact Fj.mono _ _|exact zQ _|exact zN _|refine zP ?_ ?_|refine zO ?_ (fun _=>?_))|refine zP ?_ ?_|refine zO ?_ (fun _=>?_)
def Fm.T6 : Bool×List (List Nat×List Nat):=(true,[([],[]),([],[]),([],[]),([1,2],[1,2]),([3],[3]),([],[]),([],[]),([5,6],[5,6]),([4,7],[4,7]),([8],[8]),([0,9,7],[0,9]),([10,10,0,1,2,3,4,5,6,7,8,9,10],[0,10])])
def Fm.B6 : List Nat:=[0,0,0,6,14,0,0,96,254,510,1023,2047]
theorem Fm.tab6 : rtab .any (opsOf Try.f28 6)=Fm.T6:=by kernel_rfl
theorem Fm.bits6 : waitsOk Fm.T6.2 Fm.B6=true:=by kernel_rfl
set_option maxHeartbeats 8000000 in
set_option maxRecDepth 100000 in
theorem Fm.calls (V : DrawV) (k : Nat) (g : Nat) (s0_0 : List Int) (s0_1 : Int) (s0_2 : Int) (a1 : Int) (r1 : Int) (r2 : Int) (r3 : ByteArray) (r4 : Int) (r5 : Int) (w0 w : World) (hI : IsS50 w0 w g s0_0 s0_1 s0_2) (hB : Below w0.heap.size w0 w) (h : Fm.f V k s0_0 s0_1 s0_2 a1=some (r1,r2,r3,r4,r5)) :
  Calls Try.prog 28 #[.pointer (some ⟨g,0,none⟩),.int .i64 a1] w fun e w' => e = .returned (.agg #[.int .i64 r1,.int .i64 r2,.string r3])∧IsS50 w0 w' g s0_0 r4 r5∧Below w0.heap.size w0 w' ∧ KeepBut w w' g none:=by
 have hu24:=Try.underlying24;have hu68:=Try.underlying68;have HI0:=zh hI;have HK:=zh (KeepBut.refl w g none);have HL:=zh hB.size;clear hI;have HW0:=zh hB.size;have HB:=zh hB;clear hB;have H : (Fm.l0 V k a1 (([] : List (S68))) 0 s0_0 s0_1 s0_2)=some (r1,r2,r3,r4,r5):=h;clear h;obtain ⟨y211,hy211⟩ : ∃ y_ : List (S68),y_=(([] : List (S68))):=⟨_,rfl⟩;replace H : (Fm.l0 V k a1 y211 0 s0_0 s0_1 s0_2)=some (r1,r2,r3,r4,r5):=by first|(rw [hy211];with_reducible exact H)|(have H2_:=(Option.bind_some _ _).symm.trans H;rw [hy211];with_reducible exact H2_)|(have H2_:=(Option.bind_some _ _).symm.trans H;with_reducible exact H2_)|with_reducible exact H|(rw [hy211];exact H)|exact H
 have Ny211:=zh hy211;clear hy211;have H':=zh H;clear H
 go_enter Try.func28,Try.ntmps28
 go_wp2_with (first|((with_reducible refine zK (N:=4) rfl ?_);refine zI ?hg (N:=4) ?hd (cs:=#[.int .i64 0,.int .i64 0,.string (⟨#[]⟩ : ByteArray)]) (t:=24) ?hr ?_;(case hd=>rfl);(case hg=>rfl);(case hr=>go_simp <;> rfl);intro gb210 hg w3 hbox hb;replace HB:=zh (zC jy hb);have BK210:=zh (hbox);have GW210:=zh ((jAV : w.heap.size≤gb210));have GE210:=zh ((Nat.le_trans HW0.out (jAV : w.heap.size≤gb210) : w0.heap.size≤gb210));replace HK:=zh (KeepBut.trans jI (KeepBut.of_below hb g none) (.inl rfl));have NB0_210:=zh ((jCX : g≠gb210));have NB210_0:=zh ((jCY : gb210≠g));replace HI0:=zh (IsS50.below jx hb);clear hb hbox hg)|((with_reducible refine zK (N:=8) rfl ?_);refine Kd.R_lit k68 _ 68 ?hg (N:=8) ?hd (xs:=([] : List (S68))) (inner:=[]) (ok:=fun _=>True) (okp:=fun _=>True) ?hr ?hp (fun _ hk=>hk) trivial (Below.refl _ _) (ye _) (by simp) ?_;(case hd=>rfl);(case hg=>rfl);(case hr=>go_simp <;> rfl);(case hp=>exact (Reps.none _ _));intro v212 w4 ho5 hb hg_ hnew_;clear hg_ hnew_;(first|rw [← Ny211.out] at ho5|(simp only [Int.reduceToNat] at ho5;rw [← Ny211.out] at ho5));have HO213:=zh (yy ho5 (keep_size (w:=w) (g:=g) (row:=none) jK));replace BK210:=zh (cD BK210.out jL hb);replace HK:=zh (KeepBut.trans jK (KeepBut.of_below hb g none) (.inl rfl));replace HB:=zh (zC jP hb);replace HI0:=zh (IsS50.below jQ hb);clear hb ho5))
 go_loopg [5,6] k (fun kq v5 v6 w' => ∃ (x5_1 : List (S68)) (x6_1 : Int) (x1001_1 : Int) (x1002_1 : Int),v6 = .int .i64 x6_1∧Aside0 (Fm.l0 V kq a1 x5_1 x6_1 s0_0 x1001_1 x1002_1=some (r1,r2,r3,r4,r5))∧Aside0 (kq≤k)∧Aside0 (Kd.R k68 68 w' w.heap.size (fun _=>True) v5 x5_1)∧Aside0 (w'.heap[gb210]? = some (.cells #[.int .i64 0,.int .i64 0,.string (⟨#[]⟩ : ByteArray)] 24 (0,0)))∧Aside0 (IsS50 w0 w' g s0_0 x1001_1 x1002_1)∧Aside0 (KeepBut w w' g none)∧Aside0 (Below w0.heap.size w0 w'))
 case atStart=>exact ⟨(y211),(0),(s0_1),(s0_2),jE,H',⟨ye _⟩,⟨by (with_reducible repeat (first|apply zm|apply zn|apply zo));exact HO213.out⟩,⟨jL⟩,⟨jQ⟩,⟨jK⟩,⟨jP⟩⟩
 case round =>
  clear H'
  try clear c2
  try clear p2
  obtain ⟨x5_1,x6_1,x1001_1,x1002_1,rfl,HA,HK1,HO_5,BK210,HI0,HK,HB⟩:=hrel
  cases gk with
  | zero=>exact absurd HA.out (by simp [Fm.l0])
  | succ k1 =>
   have H:=HA.out;clear HA;simp only [Fm.l0] at H
   by_cases c6 : x6_1<4
   ·
    rw [if_pos c6] at H
    have c6b0 : decide (x6_1<4)=true:=decide_eq_true c6;clear c6;replace H:=zT.mp H;obtain ⟨⟨t214,t215,t216⟩,A70,H⟩:=H;have A7:=zh A70;clear A70
    by_cases c8 : t214=true
    ·
     subst c8
     rw [if_pos rfl] at H;obtain ⟨y217,hy217⟩ : ∃ y_ : List ByteArray,y_=(([(⟨#[97]⟩ : ByteArray),(⟨#[98]⟩ : ByteArray),(⟨#[99]⟩ : ByteArray),(⟨#[116,97,103,115]⟩ : ByteArray)] : List ByteArray)):=⟨_,rfl⟩;replace H : (if 0≤x6_1 then (if x6_1<(y217.length : Int) then ((V.f k1 s0_0 t215 t216 a1).bind fun bt221=>(if x5_1.length<2932031007402 then (Fm.l0 V k1 a1 (x5_1 ++ [(⟨rdOf ByteArray.empty y217 x6_1,(⟨bt221.1,bt221.2.1,bt221.2.2.1⟩ : S24)⟩ : S68)]) (wrap64 (x6_1+1)) s0_0 bt221.2.2.2.1 bt221.2.2.2.2) else (none))) else (none)) else (none))=some (r1,r2,r3,r4,r5):=by first|(rw [hy217];with_reducible exact H)|(have H2_:=(Option.bind_some _ _).symm.trans H;rw [hy217];with_reducible exact H2_)|(have H2_:=(Option.bind_some _ _).symm.trans H;with_reducible exact H2_)|with_reducible exact H|(rw [hy217];exact H)|exact H
     have Ny217:=zh hy217;clear hy217
     by_cases c9 : 0≤x6_1
     ·
      rw [if_pos c9] at H
      have c9b0 : decide (0≤x6_1)=true:=decide_eq_true c9;clear c9
      by_cases c10 : x6_1<(y217.length : Int)
      ·
       rw [if_pos c10] at H
       have c10b0 : decide (x6_1<(y217.length : Int))=true:=decide_eq_true c10;clear c10;replace H:=zT.mp H;obtain ⟨⟨t221,t222,t223,t224,t225⟩,A110,H⟩:=H;have A11:=zh A110;clear A110
       by_cases c12 : x5_1.length<2932031007402
       ·
        rw [if_pos c12] at H
        have LMc12:=zh c12;clear c12;obtain ⟨y226,hy226⟩ : ∃ y_ : List (S68),y_=(x5_1 ++ [(⟨rdOf ByteArray.empty y217 x6_1,(⟨t221,t222,t223⟩ : S24)⟩ : S68)]):=⟨_,rfl⟩;replace H : (Fm.l0 V k1 a1 y226 (wrap64 (x6_1+1)) s0_0 t224 t225)=some (r1,r2,r3,r4,r5):=by first|(rw [hy226];with_reducible exact H)|(have H2_:=(Option.bind_some _ _).symm.trans H;rw [hy226];with_reducible exact H2_)|(have H2_:=(Option.bind_some _ _).symm.trans H;with_reducible exact H2_)|with_reducible exact H|(rw [hy226];exact H)|exact H
        have Ny226:=zh hy226;clear hy226;have H':=zh H;clear H
        try go_wp2_with (first|((with_reducible refine zJ (f:=53) rfl ?_);refine yj (some 14) rfl rfl Try.func53 jA rfl #[.pointer (some ⟨g,0,none⟩),.int .i64 2] rfl jB ?_;(with_reducible refine (F14.calls  g s0_0 x1001_1 x1002_1 2 true t215 t216 w0 _ ?side1 ?side2 A7.out).mono ?_);(case side1=>repeat (with_reducible first|exact HI0.out|apply IsS50.alloc|apply IsS50.drewN|apply IsS50.drew|apply IsS50.set_1|apply IsS50.set_2|refine IsS50.far ?_ NB0_210.out _));(case side2=>repeat (with_reducible first|exact HB.out|apply za|apply zb|apply zc|refine zd ?_ (IsS50.ge HI0.out)|refine zd ?_ GE210.out));rintro e w13 ⟨rfl,hi,hb,hk⟩;refine ⟨_,rfl,?_⟩;replace HO_5:=zh (zM (Kd.R_keep (IsS50.apart (show IsS50 w0 _ g s0_0 x1001_1 x1002_1 from by repeat (with_reducible first|exact HI0.out|apply IsS50.alloc|apply IsS50.drewN|apply IsS50.drew|apply IsS50.set_1|apply IsS50.set_2|refine IsS50.far ?_ NB0_210.out _)) jM jC) hk (fun _ h=>h.2)) (fun _ h=>h.1));replace BK210:=zh (KeepBut.blk hk (g':=gb210) (o:=.cells #[.int .i64 0,.int .i64 0,.string (⟨#[]⟩ : ByteArray)] 24 (0,0)) jL NB210_0.out (by simp));replace HK:=zh (KeepBut.trans jK hk (.inl rfl));replace HB:=zh (hb);replace HI0:=zh (hi);(try clear hb);(try clear hb2);(try clear hk);(try clear hi);obtain ⟨Ao14,co14,eo14⟩:=yk HO_5.out;subst eo14))
        have pi220 : (0≤(x6_1 : Int))=True:=eq_true (zy jF);have qi220 : (x6_1<(y217.length : Int))=True:=eq_true (zy jF);replace HO_5:=zh (zo HO_5.out);replace BK210:=zh (zf BK210.out);replace HI0:=zh (IsS50.drew HI0.out);replace HK:=zh (yx HK.out);replace HB:=zh (zc HB.out);refine start_ (n:=12) (S:=fun w' => True) (ds:=[]) (bm_ 0 12) jA rfl rfl trivial (fun hHeld=>?_);refine with_tabW Fm.tab6 Fm.bits6 (fun HT_ HW_=>?_);generalize w13.drew=w15 at HO_5 BK210 HI0 HK HB hHeld ⊢;refine pure_ (i:=0) (N:=some 15) (v:=?_) (a':=?_) (bm_ 1 12) rfl rfl (any_of HT_.out jA) (fun _ _ _ h=>h) (Or.inl ⟨by rfl,?_⟩) ?_ ?_;rotate_left;exact jb;rotate_left;exact jc
        refine pure_ (i:=2) (N:=some 17) (v:=?_) (a':=?_) #[true,false,true,false,false,false,false,false,false,false,false,false] rfl rfl (any_of HT_.out jA) (fun _ _ _ h=>h) (Or.inl ⟨by rfl,?_⟩) ?_ ?_;rotate_left;exact jb;rotate_left;exact jc
        refine pure_ (i:=5) (N:=some 20) (v:=?_) (a':=?_) #[true,false,true,false,false,true,false,false,false,false,false,false] rfl rfl (any_of HT_.out jA) (fun _ _ _ h=>h) (Or.inl ⟨by rfl,?_⟩) ?_ ?_;rotate_left;exact jb;rotate_left;exact jc
        refine pure_ (i:=6) (N:=some 21) (v:=?_) (a':=?_) #[true,false,true,false,false,true,true,false,false,false,false,false] rfl rfl (any_of HT_.out jA) (fun _ _ _ h=>h) (Or.inl ⟨by rfl,?_⟩) ?_ ?_;rotate_left;exact jb;rotate_left;exact jc
        refine join_ (σ:=Value×Addr) 4 (bm_ 8 12) (fun s_ => [(16,s_.1),(19,.string (rdOf ByteArray.empty y217 x6_1)),(22,.agg #[.int .i64 t221,.int .i64 t222,.string t223]),(18,.pointer (some (s_.2.add (x6_1).toNat)))]) (fun s_ w' => (Kd.R Kd.string 9 w' w.heap.size (fun _=>True) s_.1 y217)∧(Kd.R k68 68 w' w.heap.size (fun _=>True) (.slice Ao14 x5_1.length co14) x5_1)∧(∃ c_,(s_.1 : Value) = .slice (some s_.2) y217.length c_)∧(w'.heap[gb210]? = some (.cells #[.int .i64 0,.int .i64 0,.string (⟨#[]⟩ : ByteArray)] 24 (0,0)))∧(IsS50 w0 w' g s0_0 t224 t225)∧(KeepBut w w' g none)∧(Below w0.heap.size w0 w')) ?_ ?_;rotate_left
        ·
         intro hCont
         refine two_ (i:=1) (j:=7) (Ni:=some 16) (Nj:=some 22) #[true,true,true,false,false,true,true,false,false,false,false,false] #[true,false,true,false,false,true,true,true,false,false,false,false] rfl rfl rfl rfl (two_of HT_.out jA) jC jC (fun K hK=>?_) (fun K hK=>?_)
         ·
          skip
          refine Kd.R_lit_step Kd.string _ 9 ?hg (N:=16) ?hd (xs:=([(⟨#[97]⟩ : ByteArray),(⟨#[98]⟩ : ByteArray),(⟨#[99]⟩ : ByteArray),(⟨#[116,97,103,115]⟩ : ByteArray)] : List ByteArray)) (inner:=[.string (⟨#[97]⟩ : ByteArray),.string (⟨#[98]⟩ : ByteArray),.string (⟨#[99]⟩ : ByteArray),.string (⟨#[116,97,103,115]⟩ : ByteArray)]) (ok:=fun _=>True) (okp:=fun _=>True) ?hr ?hp (fun _ hk=>hk) trivial (Below.refl _ _) (ye _) (by simp) ?_;(case hd=>rfl);(case hg=>rfl);(case hr=>go_simp <;> rfl);(case hp=>exact (Reps.one (show Kd.M Kd.string _ _ _ (⟨#[97]⟩ : ByteArray) [.string (⟨#[97]⟩ : ByteArray)] from rfl) (Reps.one (show Kd.M Kd.string _ _ _ (⟨#[98]⟩ : ByteArray) [.string (⟨#[98]⟩ : ByteArray)] from rfl) (Reps.one (show Kd.M Kd.string _ _ _ (⟨#[99]⟩ : ByteArray) [.string (⟨#[99]⟩ : ByteArray)] from rfl) (Reps.one (show Kd.M Kd.string _ _ _ (⟨#[116,97,103,115]⟩ : ByteArray) [.string (⟨#[116,97,103,115]⟩ : ByteArray)] from rfl) (Reps.none _ _))))));intro v218 w16 ho17 hb hg_ hnew_;clear hg_ hnew_;(first|rw [← Ny217.out] at ho17|(simp only [Int.reduceToNat] at ho17;rw [← Ny217.out] at ho17));replace HO_5:=zh (yg jM hb);have HO219:=zh (yy ho17 (keep_size (w:=w) (g:=g) (row:=none) jK));replace BK210:=zh (cD BK210.out jL hb);replace HK:=zh (KeepBut.trans jK (KeepBut.of_below hb g none) (.inl rfl));replace HB:=zh (zC jP hb);replace HI0:=zh (IsS50.below jQ hb);clear hb ho17;obtain ⟨Ao18,co18,eo18⟩:=yk HO219.out;subst eo18;obtain ⟨ado18,fo18,_⟩:=Kd.at_string (yh HO219.out).2.2 0 jC (by rw [Ny217.out];simp)
          cases fo18
          refine hK.out _ _ trivial (fun hHeld=>?_);clear hK K;refine norm_ (a':=?_) ?_ ?_;rotate_left
          ·
           show Act.put _ (some 16) _=_
           simp only [Act.put,zi,zj,zk,zG,zH]
           rfl
          refine pure_ (i:=3) (N:=some 18) (v:=?_) (a':=?_) #[true,true,true,true,false,true,true,false,false,false,false,false] rfl rfl (any_of HT_.out jA) (fun _ _ _ h=>h) (Or.inl ⟨by rfl,?_⟩) ?_ ?_;rotate_left;exact jb;rotate_left;exact jc
          refine two_ (i:=4) (j:=7) (Ni:=some 19) (Nj:=some 22) (bm_ 7 12) #[true,true,true,true,false,true,true,true,false,false,false,false] rfl rfl rfl rfl (two_of HT_.out jA) jC jC (fun K hK=>?_) (fun K hK=>?_)
          ·
           skip
           (have p220 : 0≤(x6_1 : Int):=zy jF;have q220 : x6_1<(y217.length : Int):=zy jF;obtain ⟨ad220,e220,hx220_0⟩:=Kd.at_string (yh HO219.out).2.2 x6_1 p220 q220;obtain rfl : ado18=ad220:=(by injection e220));refine value_ (w1:=?_) (v:=?_) (by rfl) rfl ?_ ?_;rotate_left 2
           ·
            go_simp
            constructor
            ·
             rfl
            rfl
           clear hx220_0;refine hK.out _ _ trivial (fun hHeld=>?_);clear hK K;refine norm_ (a':=?_) ?_ ?_;rotate_left
           ·
            show Act.put _ (some 19) _=_
            simp only [Act.put,zi,zj,zk,zG,zH]
            rfl
           refine one_ (i:=7) (N:=some 22) (bm_ 8 12) rfl rfl (one_of HT_.out jA) jC (fun K hK=>?_);refine goes_ Try.func11 jA rfl #[.pointer (some ⟨g,0,none⟩),.int .i64 a1] (by rfl) rfl rfl jB ?_
           with_reducible refine (V.calls k1  g s0_0 t215 t216 a1 t221 t222 t223 t224 t225 w0 _ ?side1 ?side2 A11.out).mono ?_
           (case side1=>repeat (with_reducible first|exact HI0.out|apply IsS50.alloc|apply IsS50.drewN|apply IsS50.drew|apply IsS50.set_1|apply IsS50.set_2|refine IsS50.far ?_ NB0_210.out _))
           (case side2=>repeat (with_reducible first|exact HB.out|apply za|apply zb|apply zc|refine zd ?_ (IsS50.ge HI0.out)|refine zd ?_ GE210.out))
           rintro e w19 ⟨rfl,hi,hb,hk⟩;refine ⟨_,rfl,?_⟩;replace HO_5:=zh (zM (Kd.R_keep (IsS50.apart (show IsS50 w0 _ g s0_0 t215 t216 from by repeat (with_reducible first|exact HI0.out|apply IsS50.alloc|apply IsS50.drewN|apply IsS50.drew|apply IsS50.set_1|apply IsS50.set_2|refine IsS50.far ?_ NB0_210.out _)) jM jC) hk (fun _ h=>h.2)) (fun _ h=>h.1));replace BK210:=zh (KeepBut.blk hk (g':=gb210) (o:=.cells #[.int .i64 0,.int .i64 0,.string (⟨#[]⟩ : ByteArray)] 24 (0,0)) jL NB210_0.out (by simp));replace HO219:=zh (zM (Kd.R_keep (IsS50.apart (show IsS50 w0 _ g s0_0 t215 t216 from by repeat (with_reducible first|exact HI0.out|apply IsS50.alloc|apply IsS50.drewN|apply IsS50.drew|apply IsS50.set_1|apply IsS50.set_2|refine IsS50.far ?_ NB0_210.out _)) jA4 jC) hk (fun _ h=>h.2)) (fun _ h=>h.1));replace HK:=zh (KeepBut.trans jK hk (.inl rfl));replace HB:=zh (hb);replace HI0:=zh (hi);(try clear hb);(try clear hb2);(try clear hk);(try clear hi);refine hK.out _ _ trivial (fun hHeld=>?_);clear hK K;refine norm_ (a':=?_) ?_ ?_;rotate_left
           ·
            show Act.put _ (some 22) _=_
            simp only [Act.put,zi,zj,zk,zG,zH]
            rfl
           exact norm_ jBs (hCont (.slice (some ado18) y217.length co18,ado18) _ ⟨jA4,jM,⟨_,rfl⟩,jL,jQ,jK,jP⟩)
          skip
          refine goes_ Try.func11 jA rfl #[.pointer (some ⟨g,0,none⟩),.int .i64 a1] (by rfl) rfl rfl jB ?_
          with_reducible refine (V.calls k1  g s0_0 t215 t216 a1 t221 t222 t223 t224 t225 w0 _ ?side1 ?side2 A11.out).mono ?_
          (case side1=>repeat (with_reducible first|exact HI0.out|apply IsS50.alloc|apply IsS50.drewN|apply IsS50.drew|apply IsS50.set_1|apply IsS50.set_2|refine IsS50.far ?_ NB0_210.out _))
          (case side2=>repeat (with_reducible first|exact HB.out|apply za|apply zb|apply zc|refine zd ?_ (IsS50.ge HI0.out)|refine zd ?_ GE210.out))
          rintro e w19 ⟨rfl,hi,hb,hk⟩;refine ⟨_,rfl,?_⟩;replace HO_5:=zh (zM (Kd.R_keep (IsS50.apart (show IsS50 w0 _ g s0_0 t215 t216 from by repeat (with_reducible first|exact HI0.out|apply IsS50.alloc|apply IsS50.drewN|apply IsS50.drew|apply IsS50.set_1|apply IsS50.set_2|refine IsS50.far ?_ NB0_210.out _)) jM jC) hk (fun _ h=>h.2)) (fun _ h=>h.1));replace BK210:=zh (KeepBut.blk hk (g':=gb210) (o:=.cells #[.int .i64 0,.int .i64 0,.string (⟨#[]⟩ : ByteArray)] 24 (0,0)) jL NB210_0.out (by simp));replace HO219:=zh (zM (Kd.R_keep (IsS50.apart (show IsS50 w0 _ g s0_0 t215 t216 from by repeat (with_reducible first|exact HI0.out|apply IsS50.alloc|apply IsS50.drewN|apply IsS50.drew|apply IsS50.set_1|apply IsS50.set_2|refine IsS50.far ?_ NB0_210.out _)) jA4 jC) hk (fun _ h=>h.2)) (fun _ h=>h.1));replace HK:=zh (KeepBut.trans jK hk (.inl rfl));replace HB:=zh (hb);replace HI0:=zh (hi);(try clear hb);(try clear hb2);(try clear hk);(try clear hi);refine hK.out _ _ trivial (fun hHeld=>?_);clear hK K;refine norm_ (a':=?_) ?_ ?_;rotate_left
          ·
           show Act.put _ (some 22) _=_
           simp only [Act.put,zi,zj,zk,zG,zH]
           rfl
          refine one_ (i:=4) (N:=some 19) (bm_ 8 12) rfl rfl (one_of HT_.out jA) jC (fun K hK=>?_);(have p220 : 0≤(x6_1 : Int):=zy jF;have q220 : x6_1<(y217.length : Int):=zy jF;obtain ⟨ad220,e220,hx220_0⟩:=Kd.at_string (yh HO219.out).2.2 x6_1 p220 q220;obtain rfl : ado18=ad220:=(by injection e220));refine value_ (w1:=?_) (v:=?_) (by rfl) rfl ?_ ?_;rotate_left 2
          ·
           go_simp
           constructor
           ·
            rfl
           rfl
          clear hx220_0;refine hK.out _ _ trivial (fun hHeld=>?_);clear hK K;refine norm_ (a':=?_) ?_ ?_;rotate_left
          ·
           show Act.put _ (some 19) _=_
           simp only [Act.put,zi,zj,zk,zG,zH]
           rfl
          exact norm_ jBs (hCont (.slice (some ado18) y217.length co18,ado18) _ ⟨jA4,jM,⟨_,rfl⟩,jL,jQ,jK,jP⟩)
         skip
         refine goes_ Try.func11 jA rfl #[.pointer (some ⟨g,0,none⟩),.int .i64 a1] (by rfl) rfl rfl jB ?_
         with_reducible refine (V.calls k1  g s0_0 t215 t216 a1 t221 t222 t223 t224 t225 w0 _ ?side1 ?side2 A11.out).mono ?_
         (case side1=>repeat (with_reducible first|exact HI0.out|apply IsS50.alloc|apply IsS50.drewN|apply IsS50.drew|apply IsS50.set_1|apply IsS50.set_2|refine IsS50.far ?_ NB0_210.out _))
         (case side2=>repeat (with_reducible first|exact HB.out|apply za|apply zb|apply zc|refine zd ?_ (IsS50.ge HI0.out)|refine zd ?_ GE210.out))
         rintro e w16 ⟨rfl,hi,hb,hk⟩;refine ⟨_,rfl,?_⟩;replace HO_5:=zh (zM (Kd.R_keep (IsS50.apart (show IsS50 w0 _ g s0_0 t215 t216 from by repeat (with_reducible first|exact HI0.out|apply IsS50.alloc|apply IsS50.drewN|apply IsS50.drew|apply IsS50.set_1|apply IsS50.set_2|refine IsS50.far ?_ NB0_210.out _)) jM jC) hk (fun _ h=>h.2)) (fun _ h=>h.1));replace BK210:=zh (KeepBut.blk hk (g':=gb210) (o:=.cells #[.int .i64 0,.int .i64 0,.string (⟨#[]⟩ : ByteArray)] 24 (0,0)) jL NB210_0.out (by simp));replace HK:=zh (KeepBut.trans jK hk (.inl rfl));replace HB:=zh (hb);replace HI0:=zh (hi);(try clear hb);(try clear hb2);(try clear hk);(try clear hi);refine hK.out _ _ trivial (fun hHeld=>?_);clear hK K;refine norm_ (a':=?_) ?_ ?_;rotate_left
         ·
          show Act.put _ (some 22) _=_
          simp only [Act.put,zi,zj,zk,zG,zH]
          rfl
         refine one_ (i:=1) (N:=some 16) #[true,true,true,false,false,true,true,true,false,false,false,false] rfl rfl (one_of HT_.out jA) jC (fun K hK=>?_);refine Kd.R_lit_step Kd.string _ 9 ?hg (N:=16) ?hd (xs:=([(⟨#[97]⟩ : ByteArray),(⟨#[98]⟩ : ByteArray),(⟨#[99]⟩ : ByteArray),(⟨#[116,97,103,115]⟩ : ByteArray)] : List ByteArray)) (inner:=[.string (⟨#[97]⟩ : ByteArray),.string (⟨#[98]⟩ : ByteArray),.string (⟨#[99]⟩ : ByteArray),.string (⟨#[116,97,103,115]⟩ : ByteArray)]) (ok:=fun _=>True) (okp:=fun _=>True) ?hr ?hp (fun _ hk=>hk) trivial (Below.refl _ _) (ye _) (by simp) ?_;(case hd=>rfl);(case hg=>rfl);(case hr=>go_simp <;> rfl);(case hp=>exact (Reps.one (show Kd.M Kd.string _ _ _ (⟨#[97]⟩ : ByteArray) [.string (⟨#[97]⟩ : ByteArray)] from rfl) (Reps.one (show Kd.M Kd.string _ _ _ (⟨#[98]⟩ : ByteArray) [.string (⟨#[98]⟩ : ByteArray)] from rfl) (Reps.one (show Kd.M Kd.string _ _ _ (⟨#[99]⟩ : ByteArray) [.string (⟨#[99]⟩ : ByteArray)] from rfl) (Reps.one (show Kd.M Kd.string _ _ _ (⟨#[116,97,103,115]⟩ : ByteArray) [.string (⟨#[116,97,103,115]⟩ : ByteArray)] from rfl) (Reps.none _ _))))));intro v218 w17 ho18 hb hg_ hnew_;clear hg_ hnew_;(first|rw [← Ny217.out] at ho18|(simp only [Int.reduceToNat] at ho18;rw [← Ny217.out] at ho18));replace HO_5:=zh (yg jM hb);have HO219:=zh (yy ho18 (keep_size (w:=w) (g:=g) (row:=none) jK));replace BK210:=zh (cD BK210.out jL hb);replace HK:=zh (KeepBut.trans jK (KeepBut.of_below hb g none) (.inl rfl));replace HB:=zh (zC jP hb);replace HI0:=zh (IsS50.below jQ hb);clear hb ho18;obtain ⟨Ao19,co19,eo19⟩:=yk HO219.out;subst eo19;obtain ⟨ado19,fo19,_⟩:=Kd.at_string (yh HO219.out).2.2 0 jC (by rw [Ny217.out];simp)
         cases fo19
         refine hK.out _ _ trivial (fun hHeld=>?_);clear hK K;refine norm_ (a':=?_) ?_ ?_;rotate_left
         ·
          show Act.put _ (some 16) _=_
          simp only [Act.put,zi,zj,zk,zG,zH]
          rfl
         refine pure_ (i:=3) (N:=some 18) (v:=?_) (a':=?_) #[true,true,true,true,false,true,true,true,false,false,false,false] rfl rfl (any_of HT_.out jA) (fun _ _ _ h=>h) (Or.inl ⟨by rfl,?_⟩) ?_ ?_;rotate_left;exact jb;rotate_left;exact jc
         refine one_ (i:=4) (N:=some 19) (bm_ 8 12) rfl rfl (one_of HT_.out jA) jC (fun K hK=>?_);(have p220 : 0≤(x6_1 : Int):=zy jF;have q220 : x6_1<(y217.length : Int):=zy jF;obtain ⟨ad220,e220,hx220_0⟩:=Kd.at_string (yh HO219.out).2.2 x6_1 p220 q220;obtain rfl : ado19=ad220:=(by injection e220));refine value_ (w1:=?_) (v:=?_) (by rfl) rfl ?_ ?_;rotate_left 2
         ·
          go_simp
          constructor
          ·
           rfl
          rfl
         clear hx220_0;refine hK.out _ _ trivial (fun hHeld=>?_);clear hK K;refine norm_ (a':=?_) ?_ ?_;rotate_left
         ·
          show Act.put _ (some 19) _=_
          simp only [Act.put,zi,zj,zk,zG,zH]
          rfl
         exact norm_ jBs (hCont (.slice (some ado19) y217.length co19,ado19) _ ⟨jA4,jM,⟨_,rfl⟩,jL,jQ,jK,jP⟩)
        rintro ⟨v218,adz_v218⟩ w20 ⟨h0_,h1_,h2_,h3_,h4_,h5_,h6_⟩;have HO219 : Aside0 (Kd.R Kd.string 9 w20 w.heap.size (fun _=>True) v218 y217):=⟨h0_⟩;replace HO_5 : Aside0 (Kd.R k68 68 w20 w.heap.size (fun _=>True) (.slice Ao14 x5_1.length co14) x5_1):=⟨h1_⟩;have HA_HO219 : Aside0 (∃ c_,(v218 : Value) = .slice (some adz_v218) y217.length c_):=⟨h2_⟩;replace BK210 : Aside0 (w20.heap[gb210]? = some (.cells #[.int .i64 0,.int .i64 0,.string (⟨#[]⟩ : ByteArray)] 24 (0,0))):=⟨h3_⟩;replace HI0 : Aside0 (IsS50 w0 w20 g s0_0 t224 t225):=⟨h4_⟩;replace HK : Aside0 (KeepBut w w20 g none):=⟨h5_⟩;replace HB : Aside0 (Below w0.heap.size w0 w20):=⟨h6_⟩;clear h0_ h1_ h2_ h3_ h4_ h5_ h6_;have hHeld:=trivial;obtain ⟨co21,eo21⟩:=HA_HO219.out;clear HA_HO219;subst eo21;refine norm_ (a':=?_) ?_ ?_;rotate_left
        ·
         simp only [putAll,Act.put,zi,zj,zk]
         rfl
        refine pure_ (i:=8) (N:=some 23) (v:=?_) (a':=?_) (bm_ 9 12) rfl rfl (any_of HT_.out jA) (fun _ _ _ h=>h) (Or.inl ⟨by rfl,?_⟩) ?_ ?_;rotate_left;exact jb;rotate_left;exact jc
        refine one_ (i:=9) (N:=some 24) (bm_ 10 12) rfl rfl (one_of HT_.out jA) jC (fun K hK=>?_);refine value_ (w1:=?_) (v:=?_) (by rfl) rfl ?_ ?_;rotate_left 2
        ·
         go_simp
         constructor
         ·
          rfl
         rfl
        refine hK.out _ _ trivial (fun hHeld=>?_);clear hK K;refine norm_ (a':=?_) ?_ ?_;rotate_left
        ·
         show Act.put _ (some 24) _=_
         simp only [Act.put,zi,zj,zk,zG,zH]
         rfl
        refine one_ (i:=10) (N:=some 25) (bm_ 11 12) rfl rfl (one_of HT_.out jA) jC (fun K hK=>?_);refine Kd.R_append_step k68 w.heap.size (by rfl) (.tmp 15) (.tmp 24) 63 68 (.agg #[(.string ⟨#[]⟩),(.int .i64 0),(.int .i64 0),(.string ⟨#[]⟩)]) 48 rfl Try.underlying63 info68 rfl jC jH (.slice Ao14 x5_1.length co14) x5_1 (⟨rdOf ByteArray.empty y217 x6_1,(⟨t221,t222,t223⟩ : S24)⟩ : S68) [.string (rdOf ByteArray.empty y217 x6_1),.int .i64 t221,.int .i64 t222,.string t223] (fun _=>True) (fun _=>False) rfl rfl ?aP (fun _ hk=>hk.elim) ?aF ?aO (Below.refl _ _) ?aS ?aL ?_;(case aP=>exact k68_mkM _ _ _ (⟨rdOf ByteArray.empty y217 x6_1,(⟨t221,t222,t223⟩ : S24)⟩ : S68))
        (case aF=>exact (fun _ _=>trivial))
        (case aO=>exact jM)
        (case aS=>exact (keep_size (w:=w) (g:=g) (row:=none) jK))
        (case aL=>have:=LMc12.out;omega)
        intro v227 w22 ho hb hg hat;rw [← Ny226.out] at ho;replace BK210:=zh (yw (g:=gb210) (o:=.cells #[.int .i64 0,.int .i64 0,.string (⟨#[]⟩ : ByteArray)] 24 (0,0)) jL hg (Kd.R_ne HO_5.out BK210.out jC));replace HO219:=zh (Kd.R_over' jA4 (Kd.R_typed jM) jC hg);replace HB:=zh (below_weaken jP HL.out hb);replace HI0:=zh (IsS50.grown jQ hg (IsS50.own_ne HI0.out HO_5.out jC));replace HK:=zh (KeepBut.trans jK (KeepBut.of_grown hg g) (Kd.R_base2 HO_5.out));have HO228:=zh (ho);clear HO_5 ho hb hg hat;refine hK.out _ _ trivial (fun hHeld=>?_);clear hK K;refine norm_ (a':=?_) ?_ ?_;rotate_left
        ·
         show Act.put _ (some 25) _=_
         simp only [Act.put,zi,zj,zk,zG,zH]
         rfl
        refine pure_ (i:=11) (N:=some 5) (v:=?_) (a':=?_) (bm_ 12 12) rfl rfl (any_of HT_.out jA) (fun _ _ _ h=>h) (Or.inl ⟨by rfl,?_⟩) ?_ ?_;rotate_left;exact jb;rotate_left;exact jc
        refine done_ (done_of HT_.out jA) ?_
        try go_wp2
        go_roundg k1
        case measure=>have:=HK1.out;omega
        case rel=>exact ⟨(y226),(wrap64 (x6_1+1)),(t224),(t225),jE,H',⟨jN⟩,⟨jBt⟩,⟨jL⟩,⟨jQ⟩,⟨jK⟩,⟨jP⟩⟩
       rw [if_neg c12] at H;exact absurd H (by simp)
      rw [if_neg c10] at H;exact absurd H (by simp)
     rw [if_neg c9] at H;exact absurd H (by simp)
    replace c8:=yb.mpr c8;subst c8;rw [if_neg (show ¬ (false=true) by decide)] at H;have H':=zh H;clear H
    go_wp2_with (first|((with_reducible refine zJ (f:=53) rfl ?_);refine yj (some 14) rfl rfl Try.func53 jA rfl #[.pointer (some ⟨g,0,none⟩),.int .i64 2] rfl jB ?_;(with_reducible refine (F14.calls  g s0_0 x1001_1 x1002_1 2 false t215 t216 w0 _ ?side1 ?side2 A7.out).mono ?_);(case side1=>repeat (with_reducible first|exact HI0.out|apply IsS50.alloc|apply IsS50.drewN|apply IsS50.drew|apply IsS50.set_1|apply IsS50.set_2|refine IsS50.far ?_ NB0_210.out _));(case side2=>repeat (with_reducible first|exact HB.out|apply za|apply zb|apply zc|refine zd ?_ (IsS50.ge HI0.out)|refine zd ?_ GE210.out));rintro e w23 ⟨rfl,hi,hb,hk⟩;refine ⟨_,rfl,?_⟩;replace HO_5:=zh (zM (Kd.R_keep (IsS50.apart (show IsS50 w0 _ g s0_0 x1001_1 x1002_1 from by repeat (with_reducible first|exact HI0.out|apply IsS50.alloc|apply IsS50.drewN|apply IsS50.drew|apply IsS50.set_1|apply IsS50.set_2|refine IsS50.far ?_ NB0_210.out _)) jM jC) hk (fun _ h=>h.2)) (fun _ h=>h.1));replace BK210:=zh (KeepBut.blk hk (g':=gb210) (o:=.cells #[.int .i64 0,.int .i64 0,.string (⟨#[]⟩ : ByteArray)] 24 (0,0)) jL NB210_0.out (by simp));replace HK:=zh (KeepBut.trans jK hk (.inl rfl));replace HB:=zh (hb);replace HI0:=zh (hi);(try clear hb);(try clear hb2);(try clear hk);(try clear hi)))
    go_roundg k1
    case measure=>have:=HK1.out;omega
    case rel=>exact ⟨(x5_1),(wrap64 (x6_1+1)),(t215),(t216),jE,H',⟨jN⟩,⟨jM⟩,⟨jL⟩,⟨jQ⟩,⟨jK⟩,⟨jP⟩⟩
   rw [if_neg c6] at H;have c6b0 : decide (x6_1<4)=false:=decide_eq_false c6;clear c6;replace H:=zT.mp H;obtain ⟨⟨t229,t230,t231⟩,A240,H⟩:=H;have A24:=zh A240;clear A240;replace H:=zT.mp H;obtain ⟨t233,A250,H⟩:=H;have A25:=zh A250;clear A250
   by_cases c26 : t233=true
   ·
    subst c26
    rw [if_pos rfl] at H;simp only [Option.some.injEq,Prod.mk.injEq] at H;obtain ⟨rfl,rfl,rfl,rfl,rfl⟩:=H;obtain ⟨Ao27,co27,eo27⟩:=yk HO_5.out;subst eo27
    go_wp2_with (first|((with_reducible refine zJ (f:=54) rfl ?_);refine yj (some 27) rfl rfl Try.func54 jA rfl #[.slice Ao27 x5_1.length co27] rfl jB ?_;(with_reducible refine (Fj.calls k1  _ _ x5_1 t229 t230 t231 _ ?side1 ?side2 A24.out).mono ?_);(case side1=>repeat (first|exact (yh HO_5.out).2.2|(with_reducible refine Kd.C_alloc ?_ _)|(with_reducible refine Kd.C_drewN ?_ _)|(with_reducible refine Kd.C_drew ?_)));(case side2=>exact (yh HO_5.out).2.1);rintro e w28 ⟨rfl,hb⟩;refine ⟨_,rfl,?_⟩;replace HO_5:=zh (yg jM hb);replace BK210:=zh (cD BK210.out jL hb);replace HK:=zh (KeepBut.trans jK (KeepBut.of_below hb g none) (.inl rfl));replace HB:=zh (zC jP hb);replace HI0:=zh (IsS50.below jQ hb);(try clear hb);(try clear hb2);(try clear hk);(try clear hi))|((with_reducible refine zK (N:=7) rfl ?_);refine zI ?hg (N:=7) ?hd (cs:=#[.int .i64 0,.int .i64 0,.string (⟨#[]⟩ : ByteArray)]) (t:=24) ?hr ?_;(case hd=>rfl);(case hg=>rfl);(case hr=>go_simp <;> rfl);intro gb232 hg w29 hbox hb;replace HO_5:=zh (yg jM hb);replace HB:=zh (zC jP hb);have BK232:=zh (hbox);have GW232:=zh ((jAh : w.heap.size≤gb232));have GE232:=zh ((Nat.le_trans HW0.out (jAh : w.heap.size≤gb232) : w0.heap.size≤gb232));replace HK:=zh (KeepBut.trans jK (KeepBut.of_below hb g none) (.inl rfl));have NB210_232:=zh ((jBU : gb210≠gb232));have NB232_210:=zh NB210_232.out.symm;replace BK210:=zh (cD BK210.out jL hb);have NB0_232:=zh ((jCZ : g≠gb232));have NB232_0:=zh ((jCb : gb232≠g));replace HI0:=zh (IsS50.below jQ hb);clear hb hbox hg;have hnb30:=NB232_210.out;have hnc30:=NB210_232.out;have hnb31:=NB232_0.out;have hnc31:=NB0_232.out;obtain ⟨hcz32_0,hcz32_1,hcz32_2,hfz32_0,hfz32_1,hfz32_2⟩:=cB3 BK232.out)|((with_reducible refine zJ (f:=16) rfl ?_);refine yj (some 29) rfl rfl Try.func16 jA rfl #[.agg #[.int .i64 t229,.int .i64 t230,.string t231]] rfl jB ?_;(with_reducible refine (F0b.calls k1  t229 t230 t231 true _ A25.out).mono ?_);rintro e w33 ⟨rfl,hb⟩;refine ⟨_,rfl,?_⟩;replace HO_5:=zh (yg jCc hb);replace BK210:=zh (cD BK210.out jCd hb);replace BK232:=zh (zD (g:=gb232) (o:=.cells #[.int .i64 t229,.int .i64 t230,.string t231] 24 (0,0)) jCe hb);replace HK:=zh (KeepBut.trans jAs (KeepBut.of_below hb g none) (.inl rfl));replace HB:=zh (zC jA5 hb);replace HI0:=zh (IsS50.below (show IsS50 w0 (((w29.setCell ⟨gb232,0,none⟩ (.int .i64 t229)).setCell ⟨gb232,1,none⟩ (.int .i64 t230)).setCell ⟨gb232,2,none⟩ (.string t231)) g s0_0 x1001_1 x1002_1 from by repeat (with_reducible first|exact HI0.out|apply IsS50.alloc|apply IsS50.drewN|apply IsS50.drew|apply IsS50.set_1|apply IsS50.set_2|refine IsS50.far ?_ NB0_210.out _|refine IsS50.far ?_ NB0_232.out _)) hb);(try clear hb);(try clear hb2);(try clear hk);(try clear hi);obtain ⟨hcz34_0,hcz34_1,hcz34_2,hfz34_0,hfz34_1,hfz34_2⟩:=cB3 BK232.out;have hnb35:=NB210_0.out;have hnc35:=NB0_210.out;obtain ⟨hcz36_0,hcz36_1,hcz36_2,hfz36_0,hfz36_1,hfz36_2⟩:=cB3 BK210.out))
    refine bodyPost_ret (results_cell_row rfl _ _ gb210 24 #[.int .i64 t229,.int .i64 t230,.string t231] (0,0) _ rfl (by (with_reducible repeat first|apply ze|apply zf|apply zg);refine zL (cs:=#[.int .i64 t229,.int .i64 t230,.string (⟨#[]⟩ : ByteArray)]) ?_ 2 _ rfl;(with_reducible repeat first|apply ze|apply zf|apply zg);refine zL (cs:=#[.int .i64 t229,.int .i64 0,.string (⟨#[]⟩ : ByteArray)]) ?_ 1 _ rfl;(with_reducible repeat first|apply ze|apply zf|apply zg);refine zL (cs:=#[.int .i64 0,.int .i64 0,.string (⟨#[]⟩ : ByteArray)]) ?_ 0 _ rfl;(with_reducible repeat first|apply ze|apply zf|apply zg);exact BK210.out) Try.underlying24 rfl jA) rfl ?_;exact ⟨jG,jBV,jA5,jAs⟩
   replace c26:=yb.mpr c26;subst c26;rw [if_neg (show ¬ (false=true) by decide)] at H;obtain ⟨y234,hy234⟩ : ∃ y_ : List (S68),y_=(([] : List (S68))):=⟨_,rfl⟩;replace H : ((Fj.f k1 y234).bind fun bt237=>(some (bt237.1,bt237.2.1,bt237.2.2,x1001_1,x1002_1)))=some (r1,r2,r3,r4,r5):=by first|(rw [hy234];with_reducible exact H)|(have H2_:=(Option.bind_some _ _).symm.trans H;rw [hy234];with_reducible exact H2_)|(have H2_:=(Option.bind_some _ _).symm.trans H;with_reducible exact H2_)|with_reducible exact H|(rw [hy234];exact H)|exact H
   have Ny234:=zh hy234;clear hy234;replace H:=zT.mp H;obtain ⟨⟨t237,t238,t239⟩,A370,H⟩:=H;have A37:=zh A370;clear A370;simp only [Option.some.injEq,Prod.mk.injEq] at H;obtain ⟨rfl,rfl,rfl,rfl,rfl⟩:=H;obtain ⟨Ao38,co38,eo38⟩:=yk HO_5.out;subst eo38
   go_wp2_with (first|((with_reducible refine zJ (f:=54) rfl ?_);refine yj (some 27) rfl rfl Try.func54 jA rfl #[.slice Ao38 x5_1.length co38] rfl jB ?_;(with_reducible refine (Fj.calls k1  _ _ x5_1 t229 t230 t231 _ ?side1 ?side2 A24.out).mono ?_);(case side1=>repeat (first|exact (yh HO_5.out).2.2|(with_reducible refine Kd.C_alloc ?_ _)|(with_reducible refine Kd.C_drewN ?_ _)|(with_reducible refine Kd.C_drew ?_)));(case side2=>exact (yh HO_5.out).2.1);rintro e w39 ⟨rfl,hb⟩;refine ⟨_,rfl,?_⟩;replace HO_5:=zh (yg jM hb);replace BK210:=zh (cD BK210.out jL hb);replace HK:=zh (KeepBut.trans jK (KeepBut.of_below hb g none) (.inl rfl));replace HB:=zh (zC jP hb);replace HI0:=zh (IsS50.below jQ hb);(try clear hb);(try clear hb2);(try clear hk);(try clear hi))|((with_reducible refine zK (N:=7) rfl ?_);refine zI ?hg (N:=7) ?hd (cs:=#[.int .i64 0,.int .i64 0,.string (⟨#[]⟩ : ByteArray)]) (t:=24) ?hr ?_;(case hd=>rfl);(case hg=>rfl);(case hr=>go_simp <;> rfl);intro gb232 hg w40 hbox hb;replace HO_5:=zh (yg jM hb);replace HB:=zh (zC jP hb);have BK232:=zh (hbox);have GW232:=zh ((jAh : w.heap.size≤gb232));have GE232:=zh ((Nat.le_trans HW0.out (jAh : w.heap.size≤gb232) : w0.heap.size≤gb232));replace HK:=zh (KeepBut.trans jK (KeepBut.of_below hb g none) (.inl rfl));have NB210_232:=zh ((jBU : gb210≠gb232));have NB232_210:=zh NB210_232.out.symm;replace BK210:=zh (cD BK210.out jL hb);have NB0_232:=zh ((jCZ : g≠gb232));have NB232_0:=zh ((jCb : gb232≠g));replace HI0:=zh (IsS50.below jQ hb);clear hb hbox hg;have hnb41:=NB232_210.out;have hnc41:=NB210_232.out;have hnb42:=NB232_0.out;have hnc42:=NB0_232.out;obtain ⟨hcz43_0,hcz43_1,hcz43_2,hfz43_0,hfz43_1,hfz43_2⟩:=cB3 BK232.out)|((with_reducible refine zJ (f:=16) rfl ?_);refine yj (some 29) rfl rfl Try.func16 jA rfl #[.agg #[.int .i64 t229,.int .i64 t230,.string t231]] rfl jB ?_;(with_reducible refine (F0b.calls k1  t229 t230 t231 false _ A25.out).mono ?_);rintro e w44 ⟨rfl,hb⟩;refine ⟨_,rfl,?_⟩;replace HO_5:=zh (yg jCc hb);replace BK210:=zh (cD BK210.out jCd hb);replace BK232:=zh (zD (g:=gb232) (o:=.cells #[.int .i64 t229,.int .i64 t230,.string t231] 24 (0,0)) jCe hb);replace HK:=zh (KeepBut.trans jAs (KeepBut.of_below hb g none) (.inl rfl));replace HB:=zh (zC jA5 hb);replace HI0:=zh (IsS50.below (show IsS50 w0 (((w40.setCell ⟨gb232,0,none⟩ (.int .i64 t229)).setCell ⟨gb232,1,none⟩ (.int .i64 t230)).setCell ⟨gb232,2,none⟩ (.string t231)) g s0_0 x1001_1 x1002_1 from by repeat (with_reducible first|exact HI0.out|apply IsS50.alloc|apply IsS50.drewN|apply IsS50.drew|apply IsS50.set_1|apply IsS50.set_2|refine IsS50.far ?_ NB0_210.out _|refine IsS50.far ?_ NB0_232.out _)) hb);(try clear hb);(try clear hb2);(try clear hk);(try clear hi))|((with_reducible refine zK (N:=31) rfl ?_);refine Kd.R_lit k68 _ 68 ?hg (N:=31) ?hd (xs:=([] : List (S68))) (inner:=[]) (ok:=fun _=>True) (okp:=fun _=>True) ?hr ?hp (fun _ hk=>hk) trivial (Below.refl _ _) (ye _) (by simp) ?_;(case hd=>rfl);(case hg=>rfl);(case hr=>go_simp <;> rfl);(case hp=>exact (Reps.none _ _));intro v235 w45 ho46 hb hg_ hnew_;clear hg_ hnew_;(first|rw [← Ny234.out] at ho46|(simp only [Int.reduceToNat] at ho46;rw [← Ny234.out] at ho46));have HO236:=zh (yy (Kd.R_new' ho46 (Kd.R_lt jM)) (keep_size (w:=w) (g:=g) (row:=none) jAs));replace HO_5:=zh (Kd.R_elder' jM (Kd.R_base ho46) hb);replace BK210:=zh (cD BK210.out jL hb);replace BK232:=zh (cD BK232.out jCf hb);replace HK:=zh (KeepBut.trans jAs (KeepBut.of_below hb g none) (.inl rfl));replace HB:=zh (zC jA5 hb);replace HI0:=zh (IsS50.below jBV hb);clear hb ho46;obtain ⟨Ao47,co47,eo47⟩:=yk HO236.out;subst eo47)|((with_reducible refine zJ (f:=54) rfl ?_);refine yj (some 32) rfl rfl Try.func54 jA rfl #[.slice Ao47 y234.length co47] rfl jB ?_;(with_reducible refine (Fj.calls k1  _ _ y234 t237 t238 t239 _ ?side1 ?side2 A37.out).mono ?_);(case side1=>repeat (first|exact (yh HO236.out).2.2|(with_reducible refine Kd.C_alloc ?_ _)|(with_reducible refine Kd.C_drewN ?_ _)|(with_reducible refine Kd.C_drew ?_)));(case side2=>exact (yh HO236.out).2.1);rintro e w48 ⟨rfl,hb⟩;refine ⟨_,rfl,?_⟩;replace HO_5:=zh (yg jM hb);replace HO236:=zh (yg (by (with_reducible repeat (first|apply zm|apply zn|apply zo));exact HO236.out) hb);replace BK210:=zh (cD BK210.out jL hb);replace BK232:=zh (cD BK232.out jCf hb);replace HK:=zh (KeepBut.trans jAs (KeepBut.of_below hb g none) (.inl rfl));replace HB:=zh (zC jA5 hb);replace HI0:=zh (IsS50.below jBV hb);(try clear hb);(try clear hb2);(try clear hk);(try clear hi);have hnb49:=NB210_0.out;have hnc49:=NB0_210.out;obtain ⟨hcz50_0,hcz50_1,hcz50_2,hfz50_0,hfz50_1,hfz50_2⟩:=cB3 BK210.out))
   refine bodyPost_ret (results_cell_row rfl _ _ gb210 24 #[.int .i64 t237,.int .i64 t238,.string t239] (0,0) _ rfl (by (with_reducible repeat first|apply ze|apply zf|apply zg);refine zL (cs:=#[.int .i64 t237,.int .i64 t238,.string (⟨#[]⟩ : ByteArray)]) ?_ 2 _ rfl;(with_reducible repeat first|apply ze|apply zf|apply zg);refine zL (cs:=#[.int .i64 t237,.int .i64 0,.string (⟨#[]⟩ : ByteArray)]) ?_ 1 _ rfl;(with_reducible repeat first|apply ze|apply zf|apply zg);refine zL (cs:=#[.int .i64 0,.int .i64 0,.string (⟨#[]⟩ : ByteArray)]) ?_ 0 _ rfl;(with_reducible repeat first|apply ze|apply zf|apply zg);exact BK210.out) Try.underlying24 rfl jA) rfl ?_;exact ⟨jG,jBV,jA5,jAs⟩


mutual
def F5.j0 (D : DrawD) : Nat→Int→Int→List Int→Int→Int→Option (Int×Int×ByteArray×Int×Int)
 | 0,_,_,_,_,_=>none
 | k+1,x1,x5,x1000,x1001,x1002=>if x5=0 then (some (0,0,(⟨#[]⟩ : ByteArray),x1001,x1002)) else (if x5=1 then ((F07.f x1000 x1001 x1002 2).bind fun bt217=>(some (1,bt217.1,(⟨#[]⟩ : ByteArray),bt217.2.1,bt217.2.2))) else (if x5=2 then (F5.j1 D k x1 x5 (x5 == 2) x1000 x1001 x1002) else (F5.j1 D k x1 x5 (x5 == 3) x1000 x1001 x1002)))
def F5.j1 (D : DrawD) : Nat→Int→Int→Bool→List Int→Int→Int→Option (Int×Int×ByteArray×Int×Int)
 | 0,_,_,_,_,_,_=>none
 | k+1,x1,x15,x24,x1000,x1001,x1002=>if x24=true then ((F07.f x1000 x1001 x1002 9).bind fun bt220=>((F0m.f (wrap64 (bt220.1 - 3))).bind fun bt223=>(some (bt223.1,bt223.2.1,bt223.2.2,bt220.2.1,bt220.2.2)))) else (if x15=4 then ((F11.f x1000 x1001 x1002 (([(⟨#[]⟩ : ByteArray),(⟨#[97]⟩ : ByteArray),(⟨#[97,98]⟩ : ByteArray),(⟨#[98]⟩ : ByteArray),(⟨#[0]⟩ : ByteArray)] : List ByteArray))).bind fun bt229=>((F12.f bt229.1).bind fun bt232=>(some (bt232.1,bt232.2.1,bt232.2.2,bt229.2.1,bt229.2.2)))) else (if x15=5 then ((some (([1000000000000,(-1000000000000),300] : List Int) : List Int)).bind fun y235=>((F07.f x1000 x1001 x1002 3).bind fun bt238=>(if 0≤bt238.1 then (if bt238.1<(y235.length : Int) then ((F0m.f (rd y235 bt238.1)).bind fun bt242=>(some (bt242.1,bt242.2.1,bt242.2.2,bt238.2.1,bt238.2.2))) else (none)) else (none)))) else (if x15=6 then ((F07.f x1000 x1001 x1002 4).bind fun bt248=>(F5.l0 D k x1 (([] : List (S24))) bt248.1 x1000 bt248.2.1 bt248.2.2)) else ((D.f k x1000 x1001 x1002 (wrap64 (x1 - 1))).bind fun bt267=>(some (bt267.1,bt267.2.1,bt267.2.2.1,bt267.2.2.2.1,bt267.2.2.2.2))))))
def F5.l0 (D : DrawD) : Nat→Int→List (S24)→Int→List Int→Int→Int→Option (Int×Int×ByteArray×Int×Int)
 | 0,_,_,_,_,_,_=>none
 | k+1,x1,x6,x7,x1000,x1001,x1002=>if x7 > 0 then ((F5.f D k x1000 x1001 x1002 (wrap64 (x1 - 1))).bind fun bt251=>(if x6.length<4398046511104 then (F5.l0 D k x1 (x6 ++ [(⟨bt251.1,bt251.2.1,bt251.2.2.1⟩ : S24)]) (wrap64 (x7 - 1)) x1000 bt251.2.2.2.1 bt251.2.2.2.2) else (none))) else ((F01.f k x6).bind fun bt259=>((F0b.f k bt259.1 bt259.2.1 bt259.2.2).bind fun t263=>(if t263=true then (some (bt259.1,bt259.2.1,bt259.2.2,x1001,x1002)) else ((F0m.f 1).bind fun bt264=>(some (bt264.1,bt264.2.1,bt264.2.2,x1001,x1002))))))
def F5.f (D : DrawD) : Nat→List Int→Int→Int→Int→Option (Int×Int×ByteArray×Int×Int)
 | 0,_,_,_,_=>none
 | k+1,s0_0,s0_1,s0_2,a1=>(F07.f s0_0 s0_1 s0_2 8).bind fun bt211=>(if a1=0 then ((F07.f s0_0 bt211.2.1 bt211.2.2 6).bind fun bt214=>(F5.j0 D k a1 bt214.1 s0_0 bt214.2.1 bt214.2.2)) else (F5.j0 D k a1 bt211.1 s0_0 bt211.2.1 bt211.2.2))
end
theorem F5.mono_l (D : DrawD) : ∀ k,(∀ y0 y1 y2 y3,LeO (F5.f D k y0 y1 y2 y3) (F5.f D (k+1) y0 y1 y2 y3))∧(∀ y0 y1 y2 y3 y4,LeO (F5.j0 D k y0 y1 y2 y3 y4) (F5.j0 D (k+1) y0 y1 y2 y3 y4))∧(∀ y0 y1 y2 y3 y4 y5,LeO (F5.j1 D k y0 y1 y2 y3 y4 y5) (F5.j1 D (k+1) y0 y1 y2 y3 y4 y5))∧(∀ y0 y1 y2 y3 y4 y5,LeO (F5.l0 D k y0 y1 y2 y3 y4 y5) (F5.l0 D (k+1) y0 y1 y2 y3 y4 y5))
 | 0=>⟨fun _ _ _ _ r h=>by simp [F5.f] at h,fun _ _ _ _ _ r h=>by simp [F5.j0] at h,fun _ _ _ _ _ _ r h=>by simp [F5.j1] at h,fun _ _ _ _ _ _ r h=>by simp [F5.l0] at h⟩
 | k+1=>by
  obtain ⟨ih0,ih1,ih2,ih3⟩:=F5.mono_l D k;refine ⟨?_,?_,?_,?_⟩
  ·
   intro y0 y1 y2 y3
   unfold F5.f
   repeat' first|(with_reducible first|exact ih0 _ _ _ _|exact ih1 _ _ _ _ _|exact ih2 _ _ _ _ _ _|exact ih3 _ _ _ _ _ _|exact F0b.mono _ _ _ _|exact F01.mono _ _|exact D.mono _ _ _ _ _|exact zQ _|exact zN _|refine zP ?_ ?_|refine zO ?_ (fun _=>?_))|refine zP ?_ ?_|refine zO ?_ (fun _=>?_)
  ·
   intro y0 y1 y2 y3 y4
   unfold F5.j0
   repeat' first|(with_reducible first|exact ih0 _ _ _ _|exact ih1 _ _ _ _ _|exact ih2 _ _ _ _ _ _|exact ih3 _ _ _ _ _ _|exact F0b.mono _ _ _ _|exact F01.mono _ _|exact D.mono _ _ _ _ _|exact zQ _|exact zN _|refine zP ?_ ?_|refine zO ?_ (fun _=>?_))|refine zP ?_ ?_|refine zO ?_ (fun _=>?_)
  ·
   intro y0 y1 y2 y3 y4 y5
   unfold F5.j1
   repeat' first|(with_reducible first|exact ih0 _ _ _ _|exact ih1 _ _ _ _ _|exact ih2 _ _ _ _ _ _|exact ih3 _ _ _ _ _ _|exact F0b.mono _ _ _ _|exact F01.mono _ _|exact D.mono _ _ _ _ _|exact zQ _|exact zN _|refine zP ?_ ?_|refine zO ?_ (fun _=>?_))|refine zP ?_ ?_|refine zO ?_ (fun _=>?_)
  intro y0 y1 y2 y3 y4 y5;unfold F5.l0
  repeat' first|(with_reducible first|exact ih0 _ _ _ _|exact ih1 _ _ _ _ _|exact ih2 _ _ _ _ _ _|exact ih3 _ _ _ _ _ _|exact F0b.mono _ _ _ _|exact F01.mono _ _|exact D.mono _ _ _ _ _|exact zQ _|exact zN _|refine zP ?_ ?_|refine zO ?_ (fun _=>?_))|refine zP ?_ ?_|refine zO ?_ (fun _=>?_)
theorem F5.mono (D : DrawD) : ∀ a0 a1 a2 a3 k,LeO (F5.f D k a0 a1 a2 a3) (F5.f D (k+1) a0 a1 a2 a3):=by
 intro a0 a1 a2 a3 k;obtain ⟨ih0,ih1,ih2,ih3⟩:=F5.mono_l D k;exact ih0 a0 a1 a2 a3
set_option maxHeartbeats 8000000 in
set_option maxRecDepth 100000 in
theorem F5.calls (D : DrawD) (k : Nat) : ∀ (g : Nat) (s0_0 : List Int) (s0_1 : Int) (s0_2 : Int) (a1 : Int) (r1 : Int) (r2 : Int) (r3 : ByteArray) (r4 : Int) (r5 : Int) (w0 w : World) (hI : IsS50 w0 w g s0_0 s0_1 s0_2) (hB : Below w0.heap.size w0 w) (h : F5.f D k s0_0 s0_1 s0_2 a1=some (r1,r2,r3,r4,r5)),
  Calls Try.prog 11 #[.pointer (some ⟨g,0,none⟩),.int .i64 a1] w fun e w' => e = .returned (.agg #[.int .i64 r1,.int .i64 r2,.string r3])∧IsS50 w0 w' g s0_0 r4 r5∧Below w0.heap.size w0 w' ∧ KeepBut w w' g none:=by
 induction k using Nat.strongRecOn with
 | _ k ih =>
 intro g s0_0 s0_1 s0_2 a1 r1 r2 r3 r4 r5 w0 w hI hB h
 cases k with
 | zero=>exact absurd h (by simp [F5.f])
 | succ k =>
 simp only [F5.f] at h;have hu24:=Try.underlying24;have HI0:=zh hI;have HK:=zh (KeepBut.refl w g none);have HL:=zh hB.size;clear hI;have HW0:=zh hB.size;have HB:=zh hB;clear hB;have H : ((F07.f s0_0 s0_1 s0_2 8).bind fun bt211=>(if a1=0 then ((F07.f s0_0 bt211.2.1 bt211.2.2 6).bind fun bt214=>(F5.j0 D k a1 bt214.1 s0_0 bt214.2.1 bt214.2.2)) else (F5.j0 D k a1 bt211.1 s0_0 bt211.2.1 bt211.2.2)))=some (r1,r2,r3,r4,r5):=h;clear h;replace H:=zT.mp H;obtain ⟨⟨t211,t212,t213⟩,A30,H⟩:=H;have A3:=zh A30;clear A30;have HC4:=zh H;clear H
 go_enter Try.func11,Try.ntmps11
 go_upto_if 12 with (first|((with_reducible refine zK (N:=4) rfl ?_);refine zI ?hg (N:=4) ?hd (cs:=#[.int .i64 0,.int .i64 0,.string (⟨#[]⟩ : ByteArray)]) (t:=24) ?hr ?_;(case hd=>rfl);(case hg=>rfl);(case hr=>go_simp <;> rfl);intro gb210 hg w5 hbox hb;replace HB:=zh (zC jy hb);have BK210:=zh (hbox);have GW210:=zh ((jAV : w.heap.size≤gb210));have GE210:=zh ((Nat.le_trans HW0.out (jAV : w.heap.size≤gb210) : w0.heap.size≤gb210));replace HK:=zh (KeepBut.trans jI (KeepBut.of_below hb g none) (.inl rfl));have NB0_210:=zh ((jCX : g≠gb210));have NB210_0:=zh ((jCY : gb210≠g));replace HI0:=zh (IsS50.below jx hb);clear hb hbox hg)|((with_reducible refine zJ (f:=23) rfl ?_);refine yj (some 10) rfl rfl Try.func23 jA rfl #[.pointer (some ⟨g,0,none⟩),.int .i64 8] rfl jB ?_;(with_reducible refine (F07.calls  g s0_0 s0_1 s0_2 8 t211 t212 t213 w0 _ ?side1 ?side2 A3.out).mono ?_);(case side1=>repeat (with_reducible first|exact HI0.out|apply IsS50.alloc|apply IsS50.drewN|apply IsS50.drew|apply IsS50.set_1|apply IsS50.set_2|refine IsS50.far ?_ NB0_210.out _));(case side2=>repeat (with_reducible first|exact HB.out|apply za|apply zb|apply zc|refine zd ?_ (IsS50.ge HI0.out)|refine zd ?_ GE210.out));rintro e w6 ⟨rfl,hi,hb,hk⟩;refine ⟨_,rfl,?_⟩;replace BK210:=zh (KeepBut.blk hk (g':=gb210) (o:=.cells #[.int .i64 0,.int .i64 0,.string (⟨#[]⟩ : ByteArray)] 24 (0,0)) jL NB210_0.out (by simp));replace HK:=zh (KeepBut.trans jK hk (.inl rfl));replace HB:=zh (hb);replace HI0:=zh (hi);(try clear hb);(try clear hb2);(try clear hk);(try clear hi)))
 (try simp only [Act.put,zi,zj,zk])
 go_cut [5] (fun v5 wc => ∃ (kq : Nat) (x5_3 : Int) (x1001_3 : Int) (x1002_3 : Int),v5 = .int .i64 x5_3∧Aside0 (F5.j0 D kq a1 x5_3 s0_0 x1001_3 x1002_3=some (r1,r2,r3,r4,r5))∧Aside0 (kq≤k)∧Aside0 (wc.heap[gb210]? = some (.cells #[.int .i64 0,.int .i64 0,.string (⟨#[]⟩ : ByteArray)] 24 (0,0)))∧Aside0 (IsS50 w0 wc g s0_0 x1001_3 x1002_3)∧Aside0 (KeepBut w wc g none)∧Aside0 (Below w0.heap.size w0 wc))
 case first =>
  have H:=HC4.out;clear HC4
  by_cases c7 : a1=0
  ·
   rw [if_pos c7] at H
   have c7b0 : (a1 == 0)=true:=ya.mpr c7;have c7b1 : (a1 != 0)=false:=zX.mpr c7;clear c7;(first|rw [c7b0]|(simp only [zG,zH];rw [c7b0])|skip);replace H:=zT.mp H;obtain ⟨⟨t214,t215,t216⟩,A80,H⟩:=H;have A8:=zh A80;clear A80;have H':=zh H;clear H
   go_wp2_with (first|((with_reducible refine zJ (f:=23) rfl ?_);refine yj (some 14) rfl rfl Try.func23 jA rfl #[.pointer (some ⟨g,0,none⟩),.int .i64 6] rfl jB ?_;(with_reducible refine (F07.calls  g s0_0 t212 t213 6 t214 t215 t216 w0 _ ?side1 ?side2 A8.out).mono ?_);(case side1=>repeat (with_reducible first|exact HI0.out|apply IsS50.alloc|apply IsS50.drewN|apply IsS50.drew|apply IsS50.set_1|apply IsS50.set_2|refine IsS50.far ?_ NB0_210.out _));(case side2=>repeat (with_reducible first|exact HB.out|apply za|apply zb|apply zc|refine zd ?_ (IsS50.ge HI0.out)|refine zd ?_ GE210.out));rintro e w9 ⟨rfl,hi,hb,hk⟩;refine ⟨_,rfl,?_⟩;replace BK210:=zh (KeepBut.blk hk (g':=gb210) (o:=.cells #[.int .i64 0,.int .i64 0,.string (⟨#[]⟩ : ByteArray)] 24 (0,0)) jL NB210_0.out (by simp));replace HK:=zh (KeepBut.trans jK hk (.inl rfl));replace HB:=zh (hb);replace HI0:=zh (hi);(try clear hb);(try clear hb2);(try clear hk);(try clear hi)))
   go_meet
   case rel=>exact ⟨_,(t214),(t215),(t216),jE,H',⟨jg⟩,⟨jL⟩,⟨jQ⟩,⟨jK⟩,⟨jP⟩⟩
  rw [if_neg c7] at H;have c7b0 : (a1 == 0)=false:=zY.mpr c7;have c7b1 : (a1 != 0)=true:=zZ.mpr c7;(first|rw [c7b0]|(simp only [zG,zH];rw [c7b0])|skip);have H':=zh H;clear H
  go_wp2
  go_meet
  case rel=>exact ⟨_,(t211),(t212),(t213),jE,H',⟨jg⟩,⟨jL⟩,⟨jQ⟩,⟨jK⟩,⟨jP⟩⟩
 case rest =>
  clear HC4
  try clear c1 c2
  try clear p2
  try clear c7 c7b0 c7b1
  obtain ⟨kq,x5_3,x1001_3,x1002_3,rfl,HA,HJ3,BK210,HI0,HK,HB⟩:=hcut
  cases kq with
  | zero=>exact absurd HA.out (by simp [F5.j0])
  | succ kj3 =>
   have H:=HA.out;clear HA;simp only [F5.j0] at H
   by_cases c10 : x5_3=0
   ·
    rw [if_pos c10] at H
    have c10b0 : (x5_3 == 0)=true:=ya.mpr c10;have c10b1 : (x5_3 != 0)=false:=zX.mpr c10;clear c10;simp only [Option.some.injEq,Prod.mk.injEq] at H;obtain ⟨rfl,rfl,rfl,rfl,rfl⟩:=H;have hnb11:=NB210_0.out;have hnc11:=NB0_210.out;obtain ⟨hcz12_0,hcz12_1,hcz12_2,hfz12_0,hfz12_1,hfz12_2⟩:=cB3 BK210.out
    go_wp2
    refine bodyPost_ret (results_cell_row rfl _ _ gb210 24 #[.int .i64 0,.int .i64 0,.string (⟨#[]⟩ : ByteArray)] (0,0) _ rfl (by (with_reducible repeat first|apply ze|apply zf|apply zg);refine zL (cs:=#[.int .i64 0,.int .i64 0,.string (⟨#[]⟩ : ByteArray)]) ?_ 2 _ rfl;(with_reducible repeat first|apply ze|apply zf|apply zg);refine zL (cs:=#[.int .i64 0,.int .i64 0,.string (⟨#[]⟩ : ByteArray)]) ?_ 1 _ rfl;(with_reducible repeat first|apply ze|apply zf|apply zg);refine zL (cs:=#[.int .i64 0,.int .i64 0,.string (⟨#[]⟩ : ByteArray)]) ?_ 0 _ rfl;(with_reducible repeat first|apply ze|apply zf|apply zg);exact BK210.out) Try.underlying24 rfl jA) rfl ?_;exact ⟨jG,jQ,jP,jK⟩
   rw [if_neg c10] at H;have c10b0 : (x5_3 == 0)=false:=zY.mpr c10;have c10b1 : (x5_3 != 0)=true:=zZ.mpr c10
   by_cases c13 : x5_3=1
   ·
    rw [if_pos c13] at H
    have c13b0 : (x5_3 == 1)=true:=ya.mpr c13;have c13b1 : (x5_3 != 1)=false:=zX.mpr c13;clear c13;replace H:=zT.mp H;obtain ⟨⟨t217,t218,t219⟩,A140,H⟩:=H;have A14:=zh A140;clear A140;simp only [Option.some.injEq,Prod.mk.injEq] at H;obtain ⟨rfl,rfl,rfl,rfl,rfl⟩:=H
    go_wp2_with (first|((with_reducible refine zJ (f:=23) rfl ?_);refine yj (some 22) rfl rfl Try.func23 jA rfl #[.pointer (some ⟨g,0,none⟩),.int .i64 2] rfl jB ?_;(with_reducible refine (F07.calls  g s0_0 x1001_3 x1002_3 2 t217 t218 t219 w0 _ ?side1 ?side2 A14.out).mono ?_);(case side1=>repeat (with_reducible first|exact HI0.out|apply IsS50.alloc|apply IsS50.drewN|apply IsS50.drew|apply IsS50.set_1|apply IsS50.set_2|refine IsS50.far ?_ NB0_210.out _));(case side2=>repeat (with_reducible first|exact HB.out|apply za|apply zb|apply zc|refine zd ?_ (IsS50.ge HI0.out)|refine zd ?_ GE210.out));rintro e w15 ⟨rfl,hi,hb,hk⟩;refine ⟨_,rfl,?_⟩;replace BK210:=zh (KeepBut.blk hk (g':=gb210) (o:=.cells #[.int .i64 0,.int .i64 0,.string (⟨#[]⟩ : ByteArray)] 24 (0,0)) jL NB210_0.out (by simp));replace HK:=zh (KeepBut.trans jK hk (.inl rfl));replace HB:=zh (hb);replace HI0:=zh (hi);(try clear hb);(try clear hb2);(try clear hk);(try clear hi);have hnb16:=NB210_0.out;have hnc16:=NB0_210.out;obtain ⟨hcz17_0,hcz17_1,hcz17_2,hfz17_0,hfz17_1,hfz17_2⟩:=cB3 BK210.out))
    refine bodyPost_ret (results_cell_row rfl _ _ gb210 24 #[.int .i64 1,.int .i64 t217,.string (⟨#[]⟩ : ByteArray)] (0,0) _ rfl (by (with_reducible repeat first|apply ze|apply zf|apply zg);refine zL (cs:=#[.int .i64 1,.int .i64 t217,.string (⟨#[]⟩ : ByteArray)]) ?_ 2 _ rfl;(with_reducible repeat first|apply ze|apply zf|apply zg);refine zL (cs:=#[.int .i64 1,.int .i64 0,.string (⟨#[]⟩ : ByteArray)]) ?_ 1 _ rfl;(with_reducible repeat first|apply ze|apply zf|apply zg);refine zL (cs:=#[.int .i64 0,.int .i64 0,.string (⟨#[]⟩ : ByteArray)]) ?_ 0 _ rfl;(with_reducible repeat first|apply ze|apply zf|apply zg);exact BK210.out) Try.underlying24 rfl jA) rfl ?_;exact ⟨jG,jQ,jP,jK⟩
   rw [if_neg c13] at H;have c13b0 : (x5_3 == 1)=false:=zY.mpr c13;have c13b1 : (x5_3 != 1)=true:=zZ.mpr c13;have HC18:=zh H;clear H
   go_upto_if 24 with (fail)
   go_cut [24] (fun v24 wc => ∃ (kq : Nat) (x24_17 : Bool),v24 = .bool x24_17∧Aside0 (F5.j1 D kq a1 x5_3 x24_17 s0_0 x1001_3 x1002_3=some (r1,r2,r3,r4,r5))∧Aside0 (kq≤kj3)∧Aside0 (wc.heap[gb210]? = some (.cells #[.int .i64 0,.int .i64 0,.string (⟨#[]⟩ : ByteArray)] 24 (0,0)))∧Aside0 (IsS50 w0 wc g s0_0 x1001_3 x1002_3)∧Aside0 (KeepBut w wc g none)∧Aside0 (Below w0.heap.size w0 wc))
   case first =>
    have H:=HC18.out;clear HC18
    by_cases c19 : x5_3=2
    ·
     rw [if_pos c19] at H
     have c19b0 : (x5_3 == 2)=true:=ya.mpr c19;have c19b1 : (x5_3 != 2)=false:=zX.mpr c19;clear c19;(first|rw [c19b0]|(simp only [zG,zH];rw [c19b0])|skip);have H':=zh H;clear H
     go_wp2
     go_meet
     case rel=>exact ⟨_,((x5_3 == 2)),jE,H',⟨by have:=HJ3.out;first|omega|exact ye _⟩,⟨jL⟩,⟨jQ⟩,⟨jK⟩,⟨jP⟩⟩
    rw [if_neg c19] at H;have c19b0 : (x5_3 == 2)=false:=zY.mpr c19;have c19b1 : (x5_3 != 2)=true:=zZ.mpr c19;(first|rw [c19b0]|(simp only [zG,zH];rw [c19b0])|skip);have H':=zh H;clear H
    go_wp2
    go_meet
    case rel=>exact ⟨_,((x5_3 == 3)),jE,H',⟨by have:=HJ3.out;first|omega|exact ye _⟩,⟨jL⟩,⟨jQ⟩,⟨jK⟩,⟨jP⟩⟩
   case rest =>
    clear HC18
    try clear c1 c2
    try clear p2
    try clear c7 c7b0 c7b1 c10 c10b0 c10b1 c11 c13 c13b0 c13b1 c16 c19 c19b0 c19b1
    try clear hcz12_0 hcz12_1 hcz12_2
    try clear hcz17_0 hcz17_1 hcz17_2
    try clear hfz12_0 hfz12_1 hfz12_2
    try clear hfz17_0 hfz17_1 hfz17_2
    try clear p2
    obtain ⟨kq,x24_17,rfl,HA,HJ17,BK210,HI0,HK,HB⟩:=hcut
    cases kq with
    | zero=>exact absurd HA.out (by simp [F5.j1])
    | succ kj17 =>
     have H:=HA.out;clear HA;simp only [F5.j1] at H
     by_cases c20 : x24_17=true
     ·
      subst c20
      rw [if_pos rfl] at H;replace H:=zT.mp H;obtain ⟨⟨t220,t221,t222⟩,A210,H⟩:=H;have A21:=zh A210;clear A210;replace H:=zT.mp H;obtain ⟨⟨t223,t224,t225⟩,A220,H⟩:=H;have A22:=zh A220;clear A220;simp only [Option.some.injEq,Prod.mk.injEq] at H;obtain ⟨rfl,rfl,rfl,rfl,rfl⟩:=H
      go_wp2_with (first|((with_reducible refine zJ (f:=23) rfl ?_);refine yj (some 28) rfl rfl Try.func23 jA rfl #[.pointer (some ⟨g,0,none⟩),.int .i64 9] rfl jB ?_;(with_reducible refine (F07.calls  g s0_0 x1001_3 x1002_3 9 t220 t221 t222 w0 _ ?side1 ?side2 A21.out).mono ?_);(case side1=>repeat (with_reducible first|exact HI0.out|apply IsS50.alloc|apply IsS50.drewN|apply IsS50.drew|apply IsS50.set_1|apply IsS50.set_2|refine IsS50.far ?_ NB0_210.out _));(case side2=>repeat (with_reducible first|exact HB.out|apply za|apply zb|apply zc|refine zd ?_ (IsS50.ge HI0.out)|refine zd ?_ GE210.out));rintro e w23 ⟨rfl,hi,hb,hk⟩;refine ⟨_,rfl,?_⟩;replace BK210:=zh (KeepBut.blk hk (g':=gb210) (o:=.cells #[.int .i64 0,.int .i64 0,.string (⟨#[]⟩ : ByteArray)] 24 (0,0)) jL NB210_0.out (by simp));replace HK:=zh (KeepBut.trans jK hk (.inl rfl));replace HB:=zh (hb);replace HI0:=zh (hi);(try clear hb);(try clear hb2);(try clear hk);(try clear hi))|((with_reducible refine zJ (f:=24) rfl ?_);refine yj (some 30) rfl rfl Try.func24 jA rfl #[.int .i64 (wrap64 (t220 - 3))] rfl jB ?_;(with_reducible refine (F0m.calls  (wrap64 (t220 - 3)) t223 t224 t225 _ A22.out).mono ?_);rintro e w24 ⟨rfl,hb⟩;refine ⟨_,rfl,?_⟩;replace BK210:=zh (cD BK210.out jL hb);replace HK:=zh (KeepBut.trans jK (KeepBut.of_below hb g none) (.inl rfl));replace HB:=zh (zC jP hb);replace HI0:=zh (IsS50.below jQ hb);(try clear hb);(try clear hb2);(try clear hk);(try clear hi);have hnb25:=NB210_0.out;have hnc25:=NB0_210.out;obtain ⟨hcz26_0,hcz26_1,hcz26_2,hfz26_0,hfz26_1,hfz26_2⟩:=cB3 BK210.out))
      refine bodyPost_ret (results_cell_row rfl _ _ gb210 24 #[.int .i64 t223,.int .i64 t224,.string t225] (0,0) _ rfl (by (with_reducible repeat first|apply ze|apply zf|apply zg);refine zL (cs:=#[.int .i64 t223,.int .i64 t224,.string (⟨#[]⟩ : ByteArray)]) ?_ 2 _ rfl;(with_reducible repeat first|apply ze|apply zf|apply zg);refine zL (cs:=#[.int .i64 t223,.int .i64 0,.string (⟨#[]⟩ : ByteArray)]) ?_ 1 _ rfl;(with_reducible repeat first|apply ze|apply zf|apply zg);refine zL (cs:=#[.int .i64 0,.int .i64 0,.string (⟨#[]⟩ : ByteArray)]) ?_ 0 _ rfl;(with_reducible repeat first|apply ze|apply zf|apply zg);exact BK210.out) Try.underlying24 rfl jA) rfl ?_;exact ⟨jG,jQ,jP,jK⟩
     replace c20:=yb.mpr c20;subst c20;rw [if_neg (show ¬ (false=true) by decide)] at H
     by_cases c27 : x5_3=4
     ·
      rw [if_pos c27] at H
      have c27b0 : (x5_3 == 4)=true:=ya.mpr c27;have c27b1 : (x5_3 != 4)=false:=zX.mpr c27;clear c27;obtain ⟨y226,hy226⟩ : ∃ y_ : List ByteArray,y_=(([(⟨#[]⟩ : ByteArray),(⟨#[97]⟩ : ByteArray),(⟨#[97,98]⟩ : ByteArray),(⟨#[98]⟩ : ByteArray),(⟨#[0]⟩ : ByteArray)] : List ByteArray)):=⟨_,rfl⟩;replace H : ((F11.f s0_0 x1001_3 x1002_3 y226).bind fun bt229=>((F12.f bt229.1).bind fun bt232=>(some (bt232.1,bt232.2.1,bt232.2.2,bt229.2.1,bt229.2.2))))=some (r1,r2,r3,r4,r5):=by first|(rw [hy226];with_reducible exact H)|(have H2_:=(Option.bind_some _ _).symm.trans H;rw [hy226];with_reducible exact H2_)|(have H2_:=(Option.bind_some _ _).symm.trans H;with_reducible exact H2_)|with_reducible exact H|(rw [hy226];exact H)|exact H
      have Ny226:=zh hy226;clear hy226;replace H:=zT.mp H;obtain ⟨⟨t229,t230,t231⟩,A280,H⟩:=H;have A28:=zh A280;clear A280;replace H:=zT.mp H;obtain ⟨⟨t232,t233,t234⟩,A290,H⟩:=H;have A29:=zh A290;clear A290;simp only [Option.some.injEq,Prod.mk.injEq] at H;obtain ⟨rfl,rfl,rfl,rfl,rfl⟩:=H
      go_wp2_with (first|((with_reducible refine zK (N:=34) rfl ?_);refine Kd.R_lit Kd.string _ 9 ?hg (N:=34) ?hd (xs:=([(⟨#[]⟩ : ByteArray),(⟨#[97]⟩ : ByteArray),(⟨#[97,98]⟩ : ByteArray),(⟨#[98]⟩ : ByteArray),(⟨#[0]⟩ : ByteArray)] : List ByteArray)) (inner:=[.string (⟨#[]⟩ : ByteArray),.string (⟨#[97]⟩ : ByteArray),.string (⟨#[97,98]⟩ : ByteArray),.string (⟨#[98]⟩ : ByteArray),.string (⟨#[0]⟩ : ByteArray)]) (ok:=fun _=>True) (okp:=fun _=>True) ?hr ?hp (fun _ hk=>hk) trivial (Below.refl _ _) (ye _) (by simp) ?_;(case hd=>rfl);(case hg=>rfl);(case hr=>go_simp <;> rfl);(case hp=>exact (Reps.one (show Kd.M Kd.string _ _ _ (⟨#[]⟩ : ByteArray) [.string (⟨#[]⟩ : ByteArray)] from rfl) (Reps.one (show Kd.M Kd.string _ _ _ (⟨#[97]⟩ : ByteArray) [.string (⟨#[97]⟩ : ByteArray)] from rfl) (Reps.one (show Kd.M Kd.string _ _ _ (⟨#[97,98]⟩ : ByteArray) [.string (⟨#[97,98]⟩ : ByteArray)] from rfl) (Reps.one (show Kd.M Kd.string _ _ _ (⟨#[98]⟩ : ByteArray) [.string (⟨#[98]⟩ : ByteArray)] from rfl) (Reps.one (show Kd.M Kd.string _ _ _ (⟨#[0]⟩ : ByteArray) [.string (⟨#[0]⟩ : ByteArray)] from rfl) (Reps.none _ _)))))));intro v227 w30 ho31 hb hg_ hnew_;clear hg_ hnew_;(first|rw [← Ny226.out] at ho31|(simp only [Int.reduceToNat] at ho31;rw [← Ny226.out] at ho31));have HO228:=zh (yy ho31 (keep_size (w:=w) (g:=g) (row:=none) jK));replace BK210:=zh (cD BK210.out jL hb);replace HK:=zh (KeepBut.trans jK (KeepBut.of_below hb g none) (.inl rfl));replace HB:=zh (zC jP hb);replace HI0:=zh (IsS50.below jQ hb);clear hb ho31;obtain ⟨Ao32,co32,eo32⟩:=yk HO228.out;subst eo32)|((with_reducible refine zJ (f:=26) rfl ?_);refine yj (some 35) rfl rfl Try.func26 jA rfl #[.pointer (some ⟨g,0,none⟩),.slice Ao32 y226.length co32] rfl jB ?_;(with_reducible refine (F11.calls  g s0_0 x1001_3 x1002_3 _ _ y226 t229 t230 t231 w0 _ ?side1 ?side2 ?side3 ?side4 ?side5 A28.out).mono ?_);(case side1=>repeat (with_reducible first|exact HI0.out|apply IsS50.alloc|apply IsS50.drewN|apply IsS50.drew|apply IsS50.set_1|apply IsS50.set_2|refine IsS50.far ?_ NB0_210.out _));(case side2=>repeat (with_reducible first|exact HB.out|apply za|apply zb|apply zc|refine zd ?_ (IsS50.ge HI0.out)|refine zd ?_ GE210.out));(case side3=>repeat (first|exact (yh HO228.out).2.2|(with_reducible refine Kd.C_alloc ?_ _)|(with_reducible refine Kd.C_drewN ?_ _)|(with_reducible refine Kd.C_drew ?_)));(case side4=>exact (yh HO228.out).2.1);(case side5=>exact far_slice (IsS50.own_ne HI0.out HO228.out jC));rintro e w33 ⟨rfl,hi,hb,hk⟩;refine ⟨_,rfl,?_⟩;replace BK210:=zh (KeepBut.blk hk (g':=gb210) (o:=.cells #[.int .i64 0,.int .i64 0,.string (⟨#[]⟩ : ByteArray)] 24 (0,0)) jL NB210_0.out (by simp));replace HO228:=zh (zM (Kd.R_keep (IsS50.apart (show IsS50 w0 _ g s0_0 x1001_3 x1002_3 from by repeat (with_reducible first|exact HI0.out|apply IsS50.alloc|apply IsS50.drewN|apply IsS50.drew|apply IsS50.set_1|apply IsS50.set_2|refine IsS50.far ?_ NB0_210.out _)) jBt jC) hk (fun _ h=>h.2)) (fun _ h=>h.1));replace HK:=zh (KeepBut.trans jK hk (.inl rfl));replace HB:=zh (hb);replace HI0:=zh (hi);(try clear hb);(try clear hb2);(try clear hk);(try clear hi))|((with_reducible refine zJ (f:=25) rfl ?_);refine yj (some 36) rfl rfl Try.func25 jA rfl #[.string t229] rfl jB ?_;(with_reducible refine (F12.calls  t229 t232 t233 t234 _ A29.out).mono ?_);rintro e w34 ⟨rfl,hb⟩;refine ⟨_,rfl,?_⟩;replace HO228:=zh (yg jBt hb);replace BK210:=zh (cD BK210.out jL hb);replace HK:=zh (KeepBut.trans jK (KeepBut.of_below hb g none) (.inl rfl));replace HB:=zh (zC jP hb);replace HI0:=zh (IsS50.below jQ hb);(try clear hb);(try clear hb2);(try clear hk);(try clear hi);have hnb35:=NB210_0.out;have hnc35:=NB0_210.out;obtain ⟨hcz36_0,hcz36_1,hcz36_2,hfz36_0,hfz36_1,hfz36_2⟩:=cB3 BK210.out))
      refine bodyPost_ret (results_cell_row rfl _ _ gb210 24 #[.int .i64 t232,.int .i64 t233,.string t234] (0,0) _ rfl (by (with_reducible repeat first|apply ze|apply zf|apply zg);refine zL (cs:=#[.int .i64 t232,.int .i64 t233,.string (⟨#[]⟩ : ByteArray)]) ?_ 2 _ rfl;(with_reducible repeat first|apply ze|apply zf|apply zg);refine zL (cs:=#[.int .i64 t232,.int .i64 0,.string (⟨#[]⟩ : ByteArray)]) ?_ 1 _ rfl;(with_reducible repeat first|apply ze|apply zf|apply zg);refine zL (cs:=#[.int .i64 0,.int .i64 0,.string (⟨#[]⟩ : ByteArray)]) ?_ 0 _ rfl;(with_reducible repeat first|apply ze|apply zf|apply zg);exact BK210.out) Try.underlying24 rfl jA) rfl ?_;exact ⟨jG,jQ,jP,jK⟩
     rw [if_neg c27] at H;have c27b0 : (x5_3 == 4)=false:=zY.mpr c27;have c27b1 : (x5_3 != 4)=true:=zZ.mpr c27
     by_cases c37 : x5_3=5
     ·
      rw [if_pos c37] at H
      have c37b0 : (x5_3 == 5)=true:=ya.mpr c37;have c37b1 : (x5_3 != 5)=false:=zX.mpr c37;clear c37;obtain ⟨y235,hy235⟩ : ∃ y_ : List Int,y_=(([1000000000000,(-1000000000000),300] : List Int)):=⟨_,rfl⟩;replace H : ((F07.f s0_0 x1001_3 x1002_3 3).bind fun bt238=>(if 0≤bt238.1 then (if bt238.1<(y235.length : Int) then ((F0m.f (rd y235 bt238.1)).bind fun bt242=>(some (bt242.1,bt242.2.1,bt242.2.2,bt238.2.1,bt238.2.2))) else (none)) else (none)))=some (r1,r2,r3,r4,r5):=by first|(rw [hy235];with_reducible exact H)|(have H2_:=(Option.bind_some _ _).symm.trans H;rw [hy235];with_reducible exact H2_)|(have H2_:=(Option.bind_some _ _).symm.trans H;with_reducible exact H2_)|with_reducible exact H|(rw [hy235];exact H)|exact H
      have Ny235:=zh hy235;clear hy235;replace H:=zT.mp H;obtain ⟨⟨t238,t239,t240⟩,A380,H⟩:=H;have A38:=zh A380;clear A380
      by_cases c39 : 0≤t238
      ·
       rw [if_pos c39] at H
       have c39b0 : decide (0≤t238)=true:=decide_eq_true c39;clear c39
       by_cases c40 : t238<(y235.length : Int)
       ·
        rw [if_pos c40] at H
        have c40b0 : decide (t238<(y235.length : Int))=true:=decide_eq_true c40;clear c40;replace H:=zT.mp H;obtain ⟨⟨t242,t243,t244⟩,A410,H⟩:=H;have A41:=zh A410;clear A410;simp only [Option.some.injEq,Prod.mk.injEq] at H;obtain ⟨rfl,rfl,rfl,rfl,rfl⟩:=H
        go_wp2_with (first|((with_reducible refine zK (N:=39) rfl ?_);refine Kd.R_lit (Kd.int .i64) _ 3 ?hg (N:=39) ?hd (xs:=([1000000000000,(-1000000000000),300] : List Int)) (inner:=[.int .i64 1000000000000,.int .i64 (-1000000000000),.int .i64 300]) (ok:=fun _=>True) (okp:=fun _=>True) ?hr ?hp (fun _ hk=>hk) trivial (Below.refl _ _) (ye _) (by simp) ?_;(case hd=>rfl);(case hg=>rfl);(case hr=>go_simp <;> rfl);(case hp=>exact (Reps.one (show Kd.M (Kd.int .i64) _ _ _ 1000000000000 [.int .i64 1000000000000] from rfl) (Reps.one (show Kd.M (Kd.int .i64) _ _ _ (-1000000000000) [.int .i64 (-1000000000000)] from rfl) (Reps.one (show Kd.M (Kd.int .i64) _ _ _ 300 [.int .i64 300] from rfl) (Reps.none _ _)))));intro v236 w42 ho43 hb hg_ hnew_;clear hg_ hnew_;(first|rw [← Ny235.out] at ho43|(simp only [Int.reduceToNat] at ho43;rw [← Ny235.out] at ho43));have HO237:=zh (yy ho43 (keep_size (w:=w) (g:=g) (row:=none) jK));replace BK210:=zh (cD BK210.out jL hb);replace HK:=zh (KeepBut.trans jK (KeepBut.of_below hb g none) (.inl rfl));replace HB:=zh (zC jP hb);replace HI0:=zh (IsS50.below jQ hb);clear hb ho43)|((with_reducible refine zJ (f:=23) rfl ?_);refine yj (some 41) rfl rfl Try.func23 jA rfl #[.pointer (some ⟨g,0,none⟩),.int .i64 3] rfl jB ?_;(with_reducible refine (F07.calls  g s0_0 x1001_3 x1002_3 3 t238 t239 t240 w0 _ ?side1 ?side2 A38.out).mono ?_);(case side1=>repeat (with_reducible first|exact HI0.out|apply IsS50.alloc|apply IsS50.drewN|apply IsS50.drew|apply IsS50.set_1|apply IsS50.set_2|refine IsS50.far ?_ NB0_210.out _));(case side2=>repeat (with_reducible first|exact HB.out|apply za|apply zb|apply zc|refine zd ?_ (IsS50.ge HI0.out)|refine zd ?_ GE210.out));rintro e w44 ⟨rfl,hi,hb,hk⟩;refine ⟨_,rfl,?_⟩;replace BK210:=zh (KeepBut.blk hk (g':=gb210) (o:=.cells #[.int .i64 0,.int .i64 0,.string (⟨#[]⟩ : ByteArray)] 24 (0,0)) jL NB210_0.out (by simp));replace HO237:=zh (zM (Kd.R_keep (IsS50.apart (show IsS50 w0 _ g s0_0 x1001_3 x1002_3 from by repeat (with_reducible first|exact HI0.out|apply IsS50.alloc|apply IsS50.drewN|apply IsS50.drew|apply IsS50.set_1|apply IsS50.set_2|refine IsS50.far ?_ NB0_210.out _)) jCg jC) hk (fun _ h=>h.2)) (fun _ h=>h.1));replace HK:=zh (KeepBut.trans jK hk (.inl rfl));replace HB:=zh (hb);replace HI0:=zh (hi);(try clear hb);(try clear hb2);(try clear hk);(try clear hi);obtain ⟨Ao45,co45,eo45⟩:=yk HO237.out;subst eo45;have p241 : 0≤(t238 : Int):=zy jF;have q241 : t238<(y235.length : Int):=zy jF;obtain ⟨ad241,e241,hx241_0⟩:=Kd.at_int (yh HO237.out).2.2 t238 p241 q241;cases e241;replace p241:=eq_true p241;replace q241:=eq_true q241)|((with_reducible refine zJ (f:=24) rfl ?_);refine yj (some 44) rfl rfl Try.func24 jA rfl #[.int .i64 (rd y235 t238)] rfl jB ?_;(with_reducible refine (F0m.calls  (rd y235 t238) t242 t243 t244 _ A41.out).mono ?_);rintro e w46 ⟨rfl,hb⟩;refine ⟨_,rfl,?_⟩;replace HO237:=zh (yg jCg hb);replace BK210:=zh (cD BK210.out jL hb);replace HK:=zh (KeepBut.trans jK (KeepBut.of_below hb g none) (.inl rfl));replace HB:=zh (zC jP hb);replace HI0:=zh (IsS50.below jQ hb);(try clear hb);(try clear hb2);(try clear hk);(try clear hi);have hnb47:=NB210_0.out;have hnc47:=NB0_210.out;obtain ⟨hcz48_0,hcz48_1,hcz48_2,hfz48_0,hfz48_1,hfz48_2⟩:=cB3 BK210.out))
        refine bodyPost_ret (results_cell_row rfl _ _ gb210 24 #[.int .i64 t242,.int .i64 t243,.string t244] (0,0) _ rfl (by (with_reducible repeat first|apply ze|apply zf|apply zg);refine zL (cs:=#[.int .i64 t242,.int .i64 t243,.string (⟨#[]⟩ : ByteArray)]) ?_ 2 _ rfl;(with_reducible repeat first|apply ze|apply zf|apply zg);refine zL (cs:=#[.int .i64 t242,.int .i64 0,.string (⟨#[]⟩ : ByteArray)]) ?_ 1 _ rfl;(with_reducible repeat first|apply ze|apply zf|apply zg);refine zL (cs:=#[.int .i64 0,.int .i64 0,.string (⟨#[]⟩ : ByteArray)]) ?_ 0 _ rfl;(with_reducible repeat first|apply ze|apply zf|apply zg);exact BK210.out) Try.underlying24 rfl jA) rfl ?_;exact ⟨jG,jQ,jP,jK⟩
       rw [if_neg c40] at H;exact absurd H (by simp)
      rw [if_neg c39] at H;exact absurd H (by simp)
     rw [if_neg c37] at H;have c37b0 : (x5_3 == 5)=false:=zY.mpr c37;have c37b1 : (x5_3 != 5)=true:=zZ.mpr c37
     by_cases c49 : x5_3=6
     ·
      rw [if_pos c49] at H
      have c49b0 : (x5_3 == 6)=true:=ya.mpr c49;have c49b1 : (x5_3 != 6)=false:=zX.mpr c49;clear c49;obtain ⟨y245,hy245⟩ : ∃ y_ : List (S24),y_=(([] : List (S24))):=⟨_,rfl⟩;replace H : ((F07.f s0_0 x1001_3 x1002_3 4).bind fun bt248=>(F5.l0 D kj17 a1 y245 bt248.1 s0_0 bt248.2.1 bt248.2.2))=some (r1,r2,r3,r4,r5):=by first|(rw [hy245];with_reducible exact H)|(have H2_:=(Option.bind_some _ _).symm.trans H;rw [hy245];with_reducible exact H2_)|(have H2_:=(Option.bind_some _ _).symm.trans H;with_reducible exact H2_)|with_reducible exact H|(rw [hy245];exact H)|exact H
      have Ny245:=zh hy245;clear hy245;replace H:=zT.mp H;obtain ⟨⟨t248,t249,t250⟩,A500,H⟩:=H;have A50:=zh A500;clear A500;have H':=zh H;clear H
      go_wp2_with (first|((with_reducible refine zK (N:=47) rfl ?_);refine Kd.R_lit k24 _ 24 ?hg (N:=47) ?hd (xs:=([] : List (S24))) (inner:=[]) (ok:=fun _=>True) (okp:=fun _=>True) ?hr ?hp (fun _ hk=>hk) trivial (Below.refl _ _) (ye _) (by simp) ?_;(case hd=>rfl);(case hg=>rfl);(case hr=>go_simp <;> rfl);(case hp=>exact (Reps.none _ _));intro v246 w51 ho52 hb hg_ hnew_;clear hg_ hnew_;(first|rw [← Ny245.out] at ho52|(simp only [Int.reduceToNat] at ho52;rw [← Ny245.out] at ho52));have HO247:=zh (yy (Kd.R_newB ho52 (g:=gb210) (o:=.cells #[.int .i64 0,.int .i64 0,.string (⟨#[]⟩ : ByteArray)] 24 (0,0)) jL) (keep_size (w:=w) (g:=g) (row:=none) jK));replace BK210:=zh (cD BK210.out jL hb);replace HK:=zh (KeepBut.trans jK (KeepBut.of_below hb g none) (.inl rfl));replace HB:=zh (zC jP hb);replace HI0:=zh (IsS50.below jQ hb);clear hb ho52)|((with_reducible refine zJ (f:=23) rfl ?_);refine yj (some 49) rfl rfl Try.func23 jA rfl #[.pointer (some ⟨g,0,none⟩),.int .i64 4] rfl jB ?_;(with_reducible refine (F07.calls  g s0_0 x1001_3 x1002_3 4 t248 t249 t250 w0 _ ?side1 ?side2 A50.out).mono ?_);(case side1=>repeat (with_reducible first|exact HI0.out|apply IsS50.alloc|apply IsS50.drewN|apply IsS50.drew|apply IsS50.set_1|apply IsS50.set_2|refine IsS50.far ?_ NB0_210.out _));(case side2=>repeat (with_reducible first|exact HB.out|apply za|apply zb|apply zc|refine zd ?_ (IsS50.ge HI0.out)|refine zd ?_ GE210.out));rintro e w53 ⟨rfl,hi,hb,hk⟩;refine ⟨_,rfl,?_⟩;replace BK210:=zh (KeepBut.blk hk (g':=gb210) (o:=.cells #[.int .i64 0,.int .i64 0,.string (⟨#[]⟩ : ByteArray)] 24 (0,0)) jL NB210_0.out (by simp));replace HO247:=zh (zM (Kd.R_keep (IsS50.apart (show IsS50 w0 _ g s0_0 x1001_3 x1002_3 from by repeat (with_reducible first|exact HI0.out|apply IsS50.alloc|apply IsS50.drewN|apply IsS50.drew|apply IsS50.set_1|apply IsS50.set_2|refine IsS50.far ?_ NB0_210.out _)) (by (with_reducible repeat (first|apply zm|apply zn|apply zo));exact HO247.out) jC) hk (fun _ h=>h.2)) (fun _ h=>h.1));replace HK:=zh (KeepBut.trans jK hk (.inl rfl));replace HB:=zh (hb);replace HI0:=zh (hi);(try clear hb);(try clear hb2);(try clear hk);(try clear hi)))
      go_loopg [6,7] kj17 (fun kq v6 v7 w' => ∃ (x6_3 : List (S24)) (x7_3 : Int) (x1001_3 : Int) (x1002_3 : Int),v7 = .int .i64 x7_3∧Aside0 (F5.l0 D kq a1 x6_3 x7_3 s0_0 x1001_3 x1002_3=some (r1,r2,r3,r4,r5))∧Aside0 (kq≤kj17)∧Aside0 (Kd.R k24 24 w' w.heap.size (fun k_=>k_≠gb210) v6 x6_3)∧Aside0 (w'.heap[gb210]? = some (.cells #[.int .i64 0,.int .i64 0,.string (⟨#[]⟩ : ByteArray)] 24 (0,0)))∧Aside0 (IsS50 w0 w' g s0_0 x1001_3 x1002_3)∧Aside0 (KeepBut w w' g none)∧Aside0 (Below w0.heap.size w0 w'))
      case atStart=>exact ⟨(y245),(t248),(t249),(t250),jE,H',⟨ye _⟩,⟨by (with_reducible repeat (first|apply zm|apply zn|apply zo));exact zM HO247.out (fun _ hk=>hk.2)⟩,⟨jL⟩,⟨jQ⟩,⟨jK⟩,⟨jP⟩⟩
      case round =>
       clear H'
       try clear c1 c2
       try clear p2
       try clear q2
       try clear hx2
       try clear c3 c4
       try clear p6
       try clear c7 c7b0 c7b1 c10 c10b0 c10b1 c11 c13 c13b0 c13b1 c16 c19 c19b0 c19b1 c20 c23 c24
       try clear p24
       try clear q24
       try clear hx24
       try clear c25 c26 c27 c27b0 c27b1 c35 c37 c37b0 c37b1 c39 c39b0 c40 c40b0 c47 c49 c49b0 c49b1
       try clear hcz12_0 hcz12_1 hcz12_2
       try clear hcz17_0 hcz17_1 hcz17_2
       try clear hcz26_0 hcz26_1 hcz26_2
       try clear hcz36_0 hcz36_1 hcz36_2
       try clear hcz48_0 hcz48_1 hcz48_2
       try clear hfz12_0 hfz12_1 hfz12_2
       try clear hfz17_0 hfz17_1 hfz17_2
       try clear hfz26_0 hfz26_1 hfz26_2
       try clear hfz36_0 hfz36_1 hfz36_2
       try clear hfz48_0 hfz48_1 hfz48_2
       try clear hx241_0
       try clear p2
       try clear p241
       try clear q241
       obtain ⟨x6_3,x7_3,x1001_3,x1002_3,rfl,HA,HK3,HO_6,BK210,HI0,HK,HB⟩:=hrel
       cases gk with
       | zero=>exact absurd HA.out (by simp [F5.l0])
       | succ k3 =>
        have H:=HA.out;clear HA;simp only [F5.l0] at H
        by_cases c54 : x7_3 > 0
        ·
         rw [if_pos c54] at H
         have c54b0 : decide (0<x7_3)=true:=decide_eq_true c54;clear c54;replace H:=zT.mp H;obtain ⟨⟨t251,t252,t253,t254,t255⟩,A550,H⟩:=H;have A55:=zh A550;clear A550
         by_cases c56 : x6_3.length<4398046511104
         ·
          rw [if_pos c56] at H
          have LMc56:=zh c56;clear c56;obtain ⟨y256,hy256⟩ : ∃ y_ : List (S24),y_=(x6_3 ++ [(⟨t251,t252,t253⟩ : S24)]):=⟨_,rfl⟩;replace H : (F5.l0 D k3 a1 y256 (wrap64 (x7_3 - 1)) s0_0 t254 t255)=some (r1,r2,r3,r4,r5):=by first|(rw [hy256];with_reducible exact H)|(have H2_:=(Option.bind_some _ _).symm.trans H;rw [hy256];with_reducible exact H2_)|(have H2_:=(Option.bind_some _ _).symm.trans H;with_reducible exact H2_)|with_reducible exact H|(rw [hy256];exact H)|exact H
          have Ny256:=zh hy256;clear hy256;have H':=zh H;clear H
          go_wp2_with (first|((with_reducible refine zJ (f:=11) rfl ?_);refine yj (some 58) rfl rfl Try.func11 jA rfl #[.pointer (some ⟨g,0,none⟩),.int .i64 (wrap64 (a1 - 1))] rfl jB ?_;(with_reducible refine (ih k3 (by have:=HJ3.out;have:=HJ17.out;have:=HK3.out;omega)  g s0_0 x1001_3 x1002_3 (wrap64 (a1 - 1)) t251 t252 t253 t254 t255 w0 _ ?side1 ?side2 A55.out).mono ?_);(case side1=>repeat (with_reducible first|exact HI0.out|apply IsS50.alloc|apply IsS50.drewN|apply IsS50.drew|apply IsS50.set_1|apply IsS50.set_2|refine IsS50.far ?_ NB0_210.out _));(case side2=>repeat (with_reducible first|exact HB.out|apply za|apply zb|apply zc|refine zd ?_ (IsS50.ge HI0.out)|refine zd ?_ GE210.out));rintro e w57 ⟨rfl,hi,hb,hk⟩;refine ⟨_,rfl,?_⟩;replace HO_6:=zh (zM (Kd.R_keep (IsS50.apart (show IsS50 w0 _ g s0_0 x1001_3 x1002_3 from by repeat (with_reducible first|exact HI0.out|apply IsS50.alloc|apply IsS50.drewN|apply IsS50.drew|apply IsS50.set_1|apply IsS50.set_2|refine IsS50.far ?_ NB0_210.out _)) js jC) hk (fun _ h=>h.2)) (fun _ h=>h.1));replace BK210:=zh (KeepBut.blk hk (g':=gb210) (o:=.cells #[.int .i64 0,.int .i64 0,.string (⟨#[]⟩ : ByteArray)] 24 (0,0)) jL NB210_0.out (by simp));replace HK:=zh (KeepBut.trans jK hk (.inl rfl));replace HB:=zh (hb);replace HI0:=zh (hi);(try clear hb);(try clear hb2);(try clear hk);(try clear hi))|((with_reducible refine yB (b:=.append) (xs:=#[.tmp 54,.tmp 59]) rfl ?_);at_builtin;refine Kd.R_append k24 w.heap.size rfl (.tmp 54) (.tmp 59) 55 24 (.agg #[(.int .i64 0),(.int .i64 0),(.string ⟨#[]⟩)]) 32 rfl Try.underlying55 info24 rfl jC jH u6 x6_3 (⟨t251,t252,t253⟩ : S24) [.int .i64 t251,.int .i64 t252,.string t253] (fun k_=>k_≠gb210) (fun _=>False) rfl rfl ?aP (fun _ hk=>hk.elim) ?aF ?aO (Below.refl _ _) ?aS ?aL ?_;(case aP=>exact k24_mkM _ _ _ (⟨t251,t252,t253⟩ : S24));(case aF=>exact (fun k_ hk=>Kd.freshB (g:=gb210) (o:=.cells #[.int .i64 0,.int .i64 0,.string (⟨#[]⟩ : ByteArray)] 24 (0,0)) jL k_ hk));(case aO=>exact js);(case aS=>exact (keep_size (w:=w) (g:=g) (row:=none) jK));(case aL=>have:=LMc56.out;omega);intro v257 w58 ho hb hg hat;rw [← Ny256.out] at ho;replace BK210:=zh (yw (g:=gb210) (o:=.cells #[.int .i64 0,.int .i64 0,.string (⟨#[]⟩ : ByteArray)] 24 (0,0)) jL hg (yv HO_6.out (fun _ hk=>hk)));replace HB:=zh (below_weaken jP HL.out hb);replace HI0:=zh (IsS50.grown jQ hg (IsS50.own_ne HI0.out HO_6.out jC));replace HK:=zh (KeepBut.trans jK (KeepBut.of_grown hg g) (Kd.R_base2 HO_6.out));have HO258:=zh (ho);clear HO_6 ho hb hg hat))
          go_roundg k3
          case measure=>have:=HJ3.out;have:=HJ17.out;have:=HK3.out;omega
          case rel=>exact ⟨(y256),(wrap64 (x7_3 - 1)),(t254),(t255),jE,H',⟨by have:=HJ3.out;have:=HJ17.out;have:=HK3.out;omega⟩,⟨by (with_reducible repeat (first|apply zm|apply zn|apply zo));exact HO258.out⟩,⟨jL⟩,⟨jQ⟩,⟨jK⟩,⟨jP⟩⟩
         rw [if_neg c56] at H;exact absurd H (by simp)
        rw [if_neg c54] at H;have c54b0 : decide (0<x7_3)=false:=decide_eq_false c54;clear c54;replace H:=zT.mp H;obtain ⟨⟨t259,t260,t261⟩,A590,H⟩:=H;have A59:=zh A590;clear A590;replace H:=zT.mp H;obtain ⟨t263,A600,H⟩:=H;have A60:=zh A600;clear A600
        by_cases c61 : t263=true
        ·
         subst c61
         rw [if_pos rfl] at H;simp only [Option.some.injEq,Prod.mk.injEq] at H;obtain ⟨rfl,rfl,rfl,rfl,rfl⟩:=H;obtain ⟨Ao62,co62,eo62⟩:=yk HO_6.out;subst eo62
         go_wp2_with (first|((with_reducible refine zJ (f:=27) rfl ?_);refine yj (some 62) rfl rfl Try.func27 jA rfl #[.slice Ao62 x6_3.length co62] rfl jB ?_;(with_reducible refine (F01.calls k3  _ _ x6_3 t259 t260 t261 _ ?side1 ?side2 A59.out).mono ?_);(case side1=>repeat (first|exact (yh HO_6.out).2.2|(with_reducible refine Kd.C_alloc ?_ _)|(with_reducible refine Kd.C_drewN ?_ _)|(with_reducible refine Kd.C_drew ?_)));(case side2=>exact (yh HO_6.out).2.1);rintro e w63 ⟨rfl,hb⟩;refine ⟨_,rfl,?_⟩;replace HO_6:=zh (yg js hb);replace BK210:=zh (cD BK210.out jL hb);replace HK:=zh (KeepBut.trans jK (KeepBut.of_below hb g none) (.inl rfl));replace HB:=zh (zC jP hb);replace HI0:=zh (IsS50.below jQ hb);(try clear hb);(try clear hb2);(try clear hk);(try clear hi))|((with_reducible refine zK (N:=8) rfl ?_);refine zI ?hg (N:=8) ?hd (cs:=#[.int .i64 0,.int .i64 0,.string (⟨#[]⟩ : ByteArray)]) (t:=24) ?hr ?_;(case hd=>rfl);(case hg=>rfl);(case hr=>go_simp <;> rfl);intro gb262 hg w64 hbox hb;replace HO_6:=zh (yg (Kd.R_elderB js gb262 (Nat.le_of_eq hg.symm)) hb);replace HB:=zh (zC jP hb);have BK262:=zh (hbox);have GW262:=zh ((jAh : w.heap.size≤gb262));have GE262:=zh ((Nat.le_trans HW0.out (jAh : w.heap.size≤gb262) : w0.heap.size≤gb262));replace HK:=zh (KeepBut.trans jK (KeepBut.of_below hb g none) (.inl rfl));have NB210_262:=zh ((jBU : gb210≠gb262));have NB262_210:=zh NB210_262.out.symm;replace BK210:=zh (cD BK210.out jL hb);have NB0_262:=zh ((jCh : g≠gb262));have NB262_0:=zh ((jCi : gb262≠g));replace HI0:=zh (IsS50.below jQ hb);clear hb hbox hg;have hnb65:=NB262_210.out;have hnc65:=NB210_262.out;have hnb66:=NB262_0.out;have hnc66:=NB0_262.out;obtain ⟨hcz67_0,hcz67_1,hcz67_2,hfz67_0,hfz67_1,hfz67_2⟩:=cB3 BK262.out)|((with_reducible refine zJ (f:=16) rfl ?_);refine yj (some 64) rfl rfl Try.func16 jA rfl #[.agg #[.int .i64 t259,.int .i64 t260,.string t261]] rfl jB ?_;(with_reducible refine (F0b.calls k3  t259 t260 t261 true _ A60.out).mono ?_);rintro e w68 ⟨rfl,hb⟩;refine ⟨_,rfl,?_⟩;replace HO_6:=zh (yg jCk hb);replace BK210:=zh (cD BK210.out jCl hb);replace BK262:=zh (zD (g:=gb262) (o:=.cells #[.int .i64 t259,.int .i64 t260,.string t261] 24 (0,0)) jCm hb);replace HK:=zh (KeepBut.trans jBE (KeepBut.of_below hb g none) (.inl rfl));replace HB:=zh (zC jBF hb);replace HI0:=zh (IsS50.below (show IsS50 w0 (((w64.setCell ⟨gb262,0,none⟩ (.int .i64 t259)).setCell ⟨gb262,1,none⟩ (.int .i64 t260)).setCell ⟨gb262,2,none⟩ (.string t261)) g s0_0 x1001_3 x1002_3 from by repeat (with_reducible first|exact HI0.out|apply IsS50.alloc|apply IsS50.drewN|apply IsS50.drew|apply IsS50.set_1|apply IsS50.set_2|refine IsS50.far ?_ NB0_210.out _|refine IsS50.far ?_ NB0_262.out _)) hb);(try clear hb);(try clear hb2);(try clear hk);(try clear hi);obtain ⟨hcz69_0,hcz69_1,hcz69_2,hfz69_0,hfz69_1,hfz69_2⟩:=cB3 BK262.out;have hnb70:=NB210_0.out;have hnc70:=NB0_210.out;obtain ⟨hcz71_0,hcz71_1,hcz71_2,hfz71_0,hfz71_1,hfz71_2⟩:=cB3 BK210.out))
         refine bodyPost_ret (results_cell_row rfl _ _ gb210 24 #[.int .i64 t259,.int .i64 t260,.string t261] (0,0) _ rfl (by (with_reducible repeat first|apply ze|apply zf|apply zg);refine zL (cs:=#[.int .i64 t259,.int .i64 t260,.string (⟨#[]⟩ : ByteArray)]) ?_ 2 _ rfl;(with_reducible repeat first|apply ze|apply zf|apply zg);refine zL (cs:=#[.int .i64 t259,.int .i64 0,.string (⟨#[]⟩ : ByteArray)]) ?_ 1 _ rfl;(with_reducible repeat first|apply ze|apply zf|apply zg);refine zL (cs:=#[.int .i64 0,.int .i64 0,.string (⟨#[]⟩ : ByteArray)]) ?_ 0 _ rfl;(with_reducible repeat first|apply ze|apply zf|apply zg);exact BK210.out) Try.underlying24 rfl jA) rfl ?_;exact ⟨jG,jBu,jBF,jBE⟩
        replace c61:=yb.mpr c61;subst c61;rw [if_neg (show ¬ (false=true) by decide)] at H;replace H:=zT.mp H;obtain ⟨⟨t264,t265,t266⟩,A720,H⟩:=H;have A72:=zh A720;clear A720;simp only [Option.some.injEq,Prod.mk.injEq] at H;obtain ⟨rfl,rfl,rfl,rfl,rfl⟩:=H;obtain ⟨Ao73,co73,eo73⟩:=yk HO_6.out;subst eo73
        go_wp2_with (first|((with_reducible refine zJ (f:=27) rfl ?_);refine yj (some 62) rfl rfl Try.func27 jA rfl #[.slice Ao73 x6_3.length co73] rfl jB ?_;(with_reducible refine (F01.calls k3  _ _ x6_3 t259 t260 t261 _ ?side1 ?side2 A59.out).mono ?_);(case side1=>repeat (first|exact (yh HO_6.out).2.2|(with_reducible refine Kd.C_alloc ?_ _)|(with_reducible refine Kd.C_drewN ?_ _)|(with_reducible refine Kd.C_drew ?_)));(case side2=>exact (yh HO_6.out).2.1);rintro e w74 ⟨rfl,hb⟩;refine ⟨_,rfl,?_⟩;replace HO_6:=zh (yg js hb);replace BK210:=zh (cD BK210.out jL hb);replace HK:=zh (KeepBut.trans jK (KeepBut.of_below hb g none) (.inl rfl));replace HB:=zh (zC jP hb);replace HI0:=zh (IsS50.below jQ hb);(try clear hb);(try clear hb2);(try clear hk);(try clear hi))|((with_reducible refine zK (N:=8) rfl ?_);refine zI ?hg (N:=8) ?hd (cs:=#[.int .i64 0,.int .i64 0,.string (⟨#[]⟩ : ByteArray)]) (t:=24) ?hr ?_;(case hd=>rfl);(case hg=>rfl);(case hr=>go_simp <;> rfl);intro gb262 hg w75 hbox hb;replace HO_6:=zh (yg (Kd.R_elderB js gb262 (Nat.le_of_eq hg.symm)) hb);replace HB:=zh (zC jP hb);have BK262:=zh (hbox);have GW262:=zh ((jAh : w.heap.size≤gb262));have GE262:=zh ((Nat.le_trans HW0.out (jAh : w.heap.size≤gb262) : w0.heap.size≤gb262));replace HK:=zh (KeepBut.trans jK (KeepBut.of_below hb g none) (.inl rfl));have NB210_262:=zh ((jBU : gb210≠gb262));have NB262_210:=zh NB210_262.out.symm;replace BK210:=zh (cD BK210.out jL hb);have NB0_262:=zh ((jCh : g≠gb262));have NB262_0:=zh ((jCi : gb262≠g));replace HI0:=zh (IsS50.below jQ hb);clear hb hbox hg;have hnb76:=NB262_210.out;have hnc76:=NB210_262.out;have hnb77:=NB262_0.out;have hnc77:=NB0_262.out;obtain ⟨hcz78_0,hcz78_1,hcz78_2,hfz78_0,hfz78_1,hfz78_2⟩:=cB3 BK262.out)|((with_reducible refine zJ (f:=16) rfl ?_);refine yj (some 64) rfl rfl Try.func16 jA rfl #[.agg #[.int .i64 t259,.int .i64 t260,.string t261]] rfl jB ?_;(with_reducible refine (F0b.calls k3  t259 t260 t261 false _ A60.out).mono ?_);rintro e w79 ⟨rfl,hb⟩;refine ⟨_,rfl,?_⟩;replace HO_6:=zh (yg jCk hb);replace BK210:=zh (cD BK210.out jCl hb);replace BK262:=zh (zD (g:=gb262) (o:=.cells #[.int .i64 t259,.int .i64 t260,.string t261] 24 (0,0)) jCm hb);replace HK:=zh (KeepBut.trans jBE (KeepBut.of_below hb g none) (.inl rfl));replace HB:=zh (zC jBF hb);replace HI0:=zh (IsS50.below (show IsS50 w0 (((w75.setCell ⟨gb262,0,none⟩ (.int .i64 t259)).setCell ⟨gb262,1,none⟩ (.int .i64 t260)).setCell ⟨gb262,2,none⟩ (.string t261)) g s0_0 x1001_3 x1002_3 from by repeat (with_reducible first|exact HI0.out|apply IsS50.alloc|apply IsS50.drewN|apply IsS50.drew|apply IsS50.set_1|apply IsS50.set_2|refine IsS50.far ?_ NB0_210.out _|refine IsS50.far ?_ NB0_262.out _)) hb);(try clear hb);(try clear hb2);(try clear hk);(try clear hi))|((with_reducible refine zJ (f:=24) rfl ?_);refine yj (some 66) rfl rfl Try.func24 jA rfl #[.int .i64 1] rfl jB ?_;(with_reducible refine (F0m.calls  1 t264 t265 t266 _ A72.out).mono ?_);rintro e w80 ⟨rfl,hb⟩;refine ⟨_,rfl,?_⟩;replace HO_6:=zh (yg js hb);replace BK210:=zh (cD BK210.out jL hb);replace BK262:=zh (cD BK262.out (by (with_reducible repeat first|apply ze|apply zf|apply zg);exact BK262.out) hb);replace HK:=zh (KeepBut.trans jBE (KeepBut.of_below hb g none) (.inl rfl));replace HB:=zh (zC jBF hb);replace HI0:=zh (IsS50.below jBu hb);(try clear hb);(try clear hb2);(try clear hk);(try clear hi);have hnb81:=NB210_0.out;have hnc81:=NB0_210.out;obtain ⟨hcz82_0,hcz82_1,hcz82_2,hfz82_0,hfz82_1,hfz82_2⟩:=cB3 BK210.out))
        refine bodyPost_ret (results_cell_row rfl _ _ gb210 24 #[.int .i64 t264,.int .i64 t265,.string t266] (0,0) _ rfl (by (with_reducible repeat first|apply ze|apply zf|apply zg);refine zL (cs:=#[.int .i64 t264,.int .i64 t265,.string (⟨#[]⟩ : ByteArray)]) ?_ 2 _ rfl;(with_reducible repeat first|apply ze|apply zf|apply zg);refine zL (cs:=#[.int .i64 t264,.int .i64 0,.string (⟨#[]⟩ : ByteArray)]) ?_ 1 _ rfl;(with_reducible repeat first|apply ze|apply zf|apply zg);refine zL (cs:=#[.int .i64 0,.int .i64 0,.string (⟨#[]⟩ : ByteArray)]) ?_ 0 _ rfl;(with_reducible repeat first|apply ze|apply zf|apply zg);exact BK210.out) Try.underlying24 rfl jA) rfl ?_;exact ⟨jG,jBu,jBF,jBE⟩
     rw [if_neg c49] at H;have c49b0 : (x5_3 == 6)=false:=zY.mpr c49;have c49b1 : (x5_3 != 6)=true:=zZ.mpr c49;replace H:=zT.mp H;obtain ⟨⟨t267,t268,t269,t270,t271⟩,A830,H⟩:=H;have A83:=zh A830;clear A830;simp only [Option.some.injEq,Prod.mk.injEq] at H;obtain ⟨rfl,rfl,rfl,rfl,rfl⟩:=H
     go_wp2_with (first|((with_reducible refine zJ (f:=28) rfl ?_);refine yj (some 71) rfl rfl Try.func28 jA rfl #[.pointer (some ⟨g,0,none⟩),.int .i64 (wrap64 (a1 - 1))] rfl jB ?_;(with_reducible refine (D.calls kj17  g s0_0 x1001_3 x1002_3 (wrap64 (a1 - 1)) t267 t268 t269 t270 t271 w0 _ ?side1 ?side2 A83.out).mono ?_);(case side1=>repeat (with_reducible first|exact HI0.out|apply IsS50.alloc|apply IsS50.drewN|apply IsS50.drew|apply IsS50.set_1|apply IsS50.set_2|refine IsS50.far ?_ NB0_210.out _));(case side2=>repeat (with_reducible first|exact HB.out|apply za|apply zb|apply zc|refine zd ?_ (IsS50.ge HI0.out)|refine zd ?_ GE210.out));rintro e w84 ⟨rfl,hi,hb,hk⟩;refine ⟨_,rfl,?_⟩;replace BK210:=zh (KeepBut.blk hk (g':=gb210) (o:=.cells #[.int .i64 0,.int .i64 0,.string (⟨#[]⟩ : ByteArray)] 24 (0,0)) jL NB210_0.out (by simp));replace HK:=zh (KeepBut.trans jK hk (.inl rfl));replace HB:=zh (hb);replace HI0:=zh (hi);(try clear hb);(try clear hb2);(try clear hk);(try clear hi);have hnb85:=NB210_0.out;have hnc85:=NB0_210.out;obtain ⟨hcz86_0,hcz86_1,hcz86_2,hfz86_0,hfz86_1,hfz86_2⟩:=cB3 BK210.out))
     refine bodyPost_ret (results_cell_row rfl _ _ gb210 24 #[.int .i64 t267,.int .i64 t268,.string t269] (0,0) _ rfl (by (with_reducible repeat first|apply ze|apply zf|apply zg);refine zL (cs:=#[.int .i64 t267,.int .i64 t268,.string (⟨#[]⟩ : ByteArray)]) ?_ 2 _ rfl;(with_reducible repeat first|apply ze|apply zf|apply zg);refine zL (cs:=#[.int .i64 t267,.int .i64 0,.string (⟨#[]⟩ : ByteArray)]) ?_ 1 _ rfl;(with_reducible repeat first|apply ze|apply zf|apply zg);refine zL (cs:=#[.int .i64 0,.int .i64 0,.string (⟨#[]⟩ : ByteArray)]) ?_ 0 _ rfl;(with_reducible repeat first|apply ze|apply zf|apply zg);exact BK210.out) Try.underlying24 rfl jA) rfl ?_;exact ⟨jG,jQ,jP,jK⟩

def drawNone : DrawD:=⟨fun _ _ _ _ _=>none,fun _ _ _ _ _=>zN _,fun _ _ _ _ _ _ _ _ _ _ _ _ _ _ _ h=>by cases h⟩
def drawOf (D : DrawD) : DrawV:=⟨F5.f D,F5.mono D,F5.calls D⟩
def docOf_ (V : DrawV) : DrawD:=⟨Fm.f V,Fm.mono V,Fm.calls V⟩
def drawV : Nat→DrawV
 | 0=>drawOf drawNone
 | d+1=>drawOf (docOf_ (drawV d))
end Go.Proofs.Ytdjnplkpahgnmaa.Q
end
section
namespace Go.Proofs.Ytdjnplkpahgnmaa.Q
open Go.RowKit Go.Proofs.YtdjnplkpahgnmaaW.PrintWords Go.Proofs.YtdjnplkpahgnmaaW.PrintLast Go.Proofs.YtdjnplkpahgnmaaW.PrintMore
attribute [local go_sem] max2_int min2_int max_two min_two max_three min_three max_four min_four max2_str min2_str str_geq str_gtr str_leq
set_option linter.unusedVariables false
set_option linter.unusedSimpArgs false

def F0e.f (k : Nat) (l0 : List Int) : Option (Int×Int×ByteArray):=(F16.f l0).bind fun bt273=>(((drawV 4).f k bt273.1 bt273.2.1 bt273.2.2 3).bind fun bt277=>(some (bt277.1,bt277.2.1,bt277.2.2.1)))
theorem F0e.mono : ∀ a0 k,LeO (F0e.f k a0) (F0e.f (k+1) a0):=by
 intro a0 k;unfold F0e.f
 repeat' first|(with_reducible first|exact (drawV 4).mono _ _ _ _ _|exact zQ _|exact zN _|refine zP ?_ ?_|refine zO ?_ (fun _=>?_))|refine zP ?_ ?_|refine zO ?_ (fun _=>?_)
set_option maxHeartbeats 8000000 in
set_option maxRecDepth 100000 in
theorem F0e.calls (k : Nat) (A0 : Option Addr) (c0 : Nat) (l0 : List Int) (r1 : Int) (r2 : Int) (r3 : ByteArray) (w : World) (hr0 : Kd.C (Kd.int .u8) w A0 l0.length l0) (hc0 : l0.length≤c0) (h : F0e.f k l0=some (r1,r2,r3)) :
  Calls Try.prog 4 #[.slice A0 l0.length c0] w fun e w' => e = .returned (.agg #[.int .i64 r1,.int .i64 r2,.string r3])∧Below w.heap.size w w':=by
 have hu24:=Try.underlying24;have HR0:=zh hr0;have HC0:=zh hc0;clear hr0 hc0;have HB:=zh (Below.refl w.heap.size w);have H : ((F16.f l0).bind fun bt273=>(((drawV 4).f k bt273.1 bt273.2.1 bt273.2.2 3).bind fun bt277=>(some (bt277.1,bt277.2.1,bt277.2.2.1))))=some (r1,r2,r3):=h;clear h;replace H:=zT.mp H;obtain ⟨⟨t273,t274,t275⟩,A20,H⟩:=H;have A2:=zh A20;clear A20;replace H:=zT.mp H;obtain ⟨⟨t277,t278,t279,t280,t281⟩,A30,H⟩:=H;have A3:=zh A30;clear A30;simp only [Option.some.injEq,Prod.mk.injEq] at H;obtain ⟨rfl,rfl,rfl⟩:=H
 go_enter Try.func4,Try.ntmps4
 go_wp2_with (first|((with_reducible refine zK (N:=2) rfl ?_);refine zI ?hg (N:=2) ?hd (cs:=#[.int .i64 0,.int .i64 0,.string (⟨#[]⟩ : ByteArray)]) (t:=24) ?hr ?_;(case hd=>rfl);(case hg=>rfl);(case hr=>go_simp <;> rfl);intro gb272 hg w4 hbox hb;have BK272:=zh (hbox);have hH_:=cH jD hb hg;have GW272:=zh hH_.1;have GE272:=GW272;replace HB:=zh hH_.2;clear hb hbox hg hH_)|((with_reducible refine zJ (f:=10) rfl ?_);refine yj (some 4) rfl rfl Try.func10 jA rfl #[.slice A0 l0.length c0] rfl jB ?_;(with_reducible refine (F16.calls  _ _ l0 t273 t274 t275 w _ ?side1 ?side2 ?side3 A2.out).mono ?_);(case side1=>repeat (with_reducible first|exact HB.out|apply za|apply zb|apply zc|refine zd ?_ GE272.out));(case side2=>exact HR0.out);(case side3=>exact HC0.out);rintro e w5 ⟨g276,rfl,hi,hb,hb2⟩;refine ⟨_,rfl,?_⟩;replace HB:=zh (hb);have HI276:=zh (hi);have NB276_272:=zh (IsS50.ne_blk hi (cD BK272.out jBW hb2) jC);have NB272_276:=zh (Ne.symm (IsS50.ne_blk hi (cD BK272.out jBW hb2) jC));replace BK272:=zh (cD BK272.out jBW hb2);(try clear hb);(try clear hb2);(try clear hk);(try clear hi))|((with_reducible refine zJ (f:=11) rfl ?_);refine yj (some 5) rfl rfl Try.func11 jA rfl #[.pointer (some ⟨g276,0,none⟩),.int .i64 3] rfl jB ?_;(with_reducible refine ((drawV 4).calls k  g276 t273 t274 t275 3 t277 t278 t279 t280 t281 w _ ?side1 ?side2 A3.out).mono ?_);(case side1=>repeat (with_reducible first|exact HI276.out|apply IsS50.alloc|apply IsS50.drewN|apply IsS50.drew|apply IsS50.set_1|apply IsS50.set_2|refine IsS50.far ?_ NB276_272.out _));(case side2=>repeat (with_reducible first|exact HB.out|apply za|apply zb|apply zc|refine zd ?_ (IsS50.ge HI276.out)|refine zd ?_ GE272.out));rintro e w6 ⟨rfl,hi,hb,hk⟩;refine ⟨_,rfl,?_⟩;replace BK272:=zh (KeepBut.blk hk (g':=gb272) (o:=.cells #[.int .i64 0,.int .i64 0,.string (⟨#[]⟩ : ByteArray)] 24 (0,0)) jBW NB272_276.out (by simp));replace HB:=zh (hb);replace HI276:=zh (hi);(try clear hb);(try clear hb2);(try clear hk);(try clear hi);have hnb7:=NB272_276.out;have hnc7:=NB276_272.out;obtain ⟨hcz8_0,hcz8_1,hcz8_2,hfz8_0,hfz8_1,hfz8_2⟩:=cB3 BK272.out))
 refine bodyPost_ret (results_cell_row rfl _ _ gb272 24 #[.int .i64 t277,.int .i64 t278,.string t279] (0,0) _ rfl (by (with_reducible repeat first|apply ze|apply zf|apply zg);refine zL (cs:=#[.int .i64 t277,.int .i64 t278,.string (⟨#[]⟩ : ByteArray)]) ?_ 2 _ rfl;(with_reducible repeat first|apply ze|apply zf|apply zg);refine zL (cs:=#[.int .i64 t277,.int .i64 0,.string (⟨#[]⟩ : ByteArray)]) ?_ 1 _ rfl;(with_reducible repeat first|apply ze|apply zf|apply zg);refine zL (cs:=#[.int .i64 0,.int .i64 0,.string (⟨#[]⟩ : ByteArray)]) ?_ 0 _ rfl;(with_reducible repeat first|apply ze|apply zf|apply zg);exact BK272.out) Try.underlying24 rfl jA) rfl ?_;exact ⟨jG,by repeat (with_reducible first|exact HB.out|apply za|apply zb|apply zc|refine zd ?_ (IsS50.ge HI276.out)|refine zd ?_ GE272.out)⟩


def F0j.f (a0 : Int) (a1 : Int) (a2 : Int) : Option (Bool):=if a1≤a0 then (some (decide (a0≤a2))) else (some false)
set_option maxHeartbeats 8000000 in
set_option maxRecDepth 100000 in
theorem F0j.calls (a0 : Int) (a1 : Int) (a2 : Int) (r : Bool) (w : World) (h : F0j.f a0 a1 a2=some r) :
  Calls Try.prog 21 #[.int .i64 a0,.int .i64 a1,.int .i64 a2] w fun e w' => e = .returned (.bool r)∧Drawn0 w w':=by
 have H : (if a1≤a0 then (some (decide (a0≤a2))) else (some false))=some r:=h;clear h
 by_cases c4 : a1≤a0
 ·
  rw [if_pos c4] at H
  have c4b0 : decide (a1≤a0)=true:=decide_eq_true c4;clear c4;obtain rfl:=zU H
  go_enter Try.func21,Try.ntmps21
  go_wp2
  go_ret
  exact ⟨jE,jJ⟩
 rw [if_neg c4] at H;have c4b0 : decide (a1≤a0)=false:=decide_eq_false c4;clear c4;obtain rfl:=zU H
 go_enter Try.func21,Try.ntmps21
 go_wp2
 go_ret
 exact ⟨jE,jJ⟩


def F0u.f (G : Int→Int→ByteArray→Int→Option (Bool)) (a0_0 : Int) (a0_1 : Int) (a0_2 : ByteArray) (a1_0 : Int) : Option (Bool):=(G a0_0 a0_1 a0_2 (wrap64 (a1_0 - 1))).bind fun t377=>(some (!t377))
theorem F0u.mono : ∀ (G G' : Int→Int→ByteArray→Int→Option (Bool)) (hG : ∀ y0 y1 y2 y3,LeO (G y0 y1 y2 y3) (G' y0 y1 y2 y3)),∀ a0 a1 a2 a3,LeO (F0u.f G a0 a1 a2 a3) (F0u.f G' a0 a1 a2 a3):=by
 intro G G' hG a0 a1 a2 a3;unfold F0u.f
 repeat' first|(with_reducible first|exact hG _ _ _ _|exact zQ _|exact zN _|refine zP ?_ ?_|refine zO ?_ (fun _=>?_))|refine zP ?_ ?_|refine zO ?_ (fun _=>?_)
set_option maxHeartbeats 8000000 in
set_option maxRecDepth 100000 in
theorem F0u.calls (G : Int→Int→ByteArray→Int→Option (Bool)) (hG : ∀ (a0_0 : Int) (a0_1 : Int) (a0_2 : ByteArray) (a1 : Int) (r : Bool) (w : World) (h : G a0_0 a0_1 a0_2 a1=some r),Calls Try.prog 39 #[.agg #[.int .i64 a0_0,.int .i64 a0_1,.string a0_2],.int .i64 a1] w fun e w' => e = .returned (.bool r)∧Below w.heap.size w w') (a0_0 : Int) (a0_1 : Int) (a0_2 : ByteArray) (g1_0_ : Nat) (a1_0 : Int) (r : Bool) (w : World) (hb1_0_ : w.heap[g1_0_]? = some (.cells #[.int .i64 a1_0] 3 (0,0))) (h : F0u.f G a0_0 a0_1 a0_2 a1_0=some r) :
  Calls Try.prog 61 #[.agg #[.int .i64 a0_0,.int .i64 a0_1,.string a0_2],.pointer (some ⟨g1_0_,0,none⟩)] w fun e w' => e = .returned (.bool r)∧Below w.heap.size w w':=by
 have hu24:=Try.underlying24;have BK910:=zh hb1_0_;clear hb1_0_;have HB:=zh (Below.refl w.heap.size w);have H : ((G a0_0 a0_1 a0_2 (wrap64 (a1_0 - 1))).bind fun t377=>(some (!t377)))=some r:=h;clear h;replace H:=zT.mp H;obtain ⟨t377,A30,H⟩:=H;have A3:=zh A30;clear A30;obtain rfl:=zU H
 go_enter Try.func61,Try.ntmps61
 go_wp2_with (first|((with_reducible refine zK (N:=2) rfl ?_);refine zI ?hg (N:=2) ?hd (cs:=#[.int .i64 a0_0,.int .i64 a0_1,.string a0_2]) (t:=24) ?hr ?_;(case hd=>rfl);(case hg=>rfl);(case hr=>go_simp <;> rfl);intro gb376 hg w4 hbox hb;have BK376:=zh (hbox);have hH_:=cH jAY hb hg;have GW376:=zh hH_.1;have GE376:=GW376;replace HB:=zh hH_.2;have NB910_376:=zh ((by rw [hg];exact yc (yi (g:=g1_0_) (o:=.cells #[.int .i64 a1_0] 3 (0,0)) jAZ) : g1_0_≠gb376));have NB376_910:=zh ((by rw [hg];exact yd (yi (g:=g1_0_) (o:=.cells #[.int .i64 a1_0] 3 (0,0)) jAZ) : gb376≠g1_0_));replace BK910:=zh (zD (g:=g1_0_) (o:=.cells #[.int .i64 a1_0] 3 (0,0)) jAZ hb);clear hb hbox hg hH_;have hnb5:=NB376_910.out;have hnc5:=NB910_376.out;obtain ⟨hcz6_0,hcz6_1,hcz6_2,hfz6_0,hfz6_1,hfz6_2⟩:=cB3 BK376.out;have hcz7_0 : w4.cell? ⟨g1_0_,0,none⟩=some (.int .i64 a1_0):=(zz BK910.out 0).trans rfl;have hfz7_0:=zA BK910.out 0)|((with_reducible refine zJ (f:=39) rfl ?_);refine yj (some 7) rfl rfl Try.func39 jA rfl #[.agg #[.int .i64 a0_0,.int .i64 a0_1,.string a0_2],.int .i64 (wrap64 (a1_0 - 1))] rfl jB ?_;(with_reducible refine (hG a0_0 a0_1 a0_2 (wrap64 (a1_0 - 1)) t377 _ A3.out).mono ?_);rintro e w8 ⟨rfl,hb⟩;refine ⟨_,rfl,?_⟩;replace BK910:=zh (zD (g:=g1_0_) (o:=.cells #[.int .i64 a1_0] 3 (0,0)) jAZ hb);replace BK376:=zh (cD BK376.out (by (with_reducible repeat first|apply ze|apply zf|apply zg);exact BK376.out) hb);replace HB:=zh (zC jCn hb);(try clear hb);(try clear hb2);(try clear hk);(try clear hi)))
 go_ret
 exact ⟨jG,jCn⟩


def F05.l0 (G : Int→Int→ByteArray→Int→Option (Bool)) : Nat→List (S24)→Int→Int→Int→Option (Int)
 | 0,_,_,_,_=>none
 | k+1,x0,x7,x8,x911000=>if x8<x7 then (if 0≤x8 then (if x8<(x0.length : Int) then ((F0u.f G ((rd_T24 x0 x8).f0) ((rd_T24 x0 x8).f1) ((rd_T24 x0 x8).f2) x911000).bind fun t379=>(if t379=true then (some x8) else (F05.l0 G k x0 x7 (wrap64 (x8+1)) x911000))) else (none)) else (none)) else (some (-1))
def F05.f (k : Nat) (G : Int→Int→ByteArray→Int→Option (Bool)) (l0 : List (S24)) (a1_0 : Int) : Option (Int):=F05.l0 G k l0 (l0.length : Int) 0 a1_0
theorem F05.mono_l : ∀ (G G' : Int→Int→ByteArray→Int→Option (Bool)) (hG : ∀ y0 y1 y2 y3,LeO (G y0 y1 y2 y3) (G' y0 y1 y2 y3)),∀ k,(∀ y0 y1 y2 y3,LeO (F05.l0 G k y0 y1 y2 y3) (F05.l0 G' (k+1) y0 y1 y2 y3))
 | G,G',hG,0=>fun _ _ _ _ r h=>by simp [F05.l0] at h
 | G,G',hG,k+1=>by
  have ih0:=F05.mono_l G G' hG k;intro y0 y1 y2 y3;unfold F05.l0
  repeat' first|(with_reducible first|exact ih0 _ _ _ _|exact hG _ _ _ _|exact F0u.mono _ _ hG _ _ _ _|exact zQ _|exact zN _|refine zP ?_ ?_|refine zO ?_ (fun _=>?_))|refine zP ?_ ?_|refine zO ?_ (fun _=>?_)
theorem F05.mono : ∀ (G G' : Int→Int→ByteArray→Int→Option (Bool)) (hG : ∀ y0 y1 y2 y3,LeO (G y0 y1 y2 y3) (G' y0 y1 y2 y3)),∀ a0 a1 k,LeO (F05.f k G a0 a1) (F05.f (k+1) G' a0 a1):=by
 intro G G' hG a0 a1 k;have ih0:=F05.mono_l G G' hG k;unfold F05.f
 repeat' first|(with_reducible first|exact ih0 _ _ _ _|exact hG _ _ _ _|exact F0u.mono _ _ hG _ _ _ _|exact zQ _|exact zN _|refine zP ?_ ?_|refine zO ?_ (fun _=>?_))|refine zP ?_ ?_|refine zO ?_ (fun _=>?_)
set_option maxHeartbeats 8000000 in
set_option maxRecDepth 100000 in
theorem F05.calls (k : Nat) (G : Int→Int→ByteArray→Int→Option (Bool)) (hG : ∀ (a0_0 : Int) (a0_1 : Int) (a0_2 : ByteArray) (a1 : Int) (r : Bool) (w : World) (h : G a0_0 a0_1 a0_2 a1=some r),Calls Try.prog 39 #[.agg #[.int .i64 a0_0,.int .i64 a0_1,.string a0_2],.int .i64 a1] w fun e w' => e = .returned (.bool r)∧Below w.heap.size w w') (A0 : Option Addr) (c0 : Nat) (l0 : List (S24)) (g1_0_ : Nat) (a1_0 : Int) (r : Int) (w : World) (hr0 : Kd.C k24 w A0 l0.length l0) (hc0 : l0.length≤c0) (hb1_0_ : w.heap[g1_0_]? = some (.cells #[.int .i64 a1_0] 3 (0,0))) (h : F05.f k G l0 a1_0=some r) :
  Calls Try.prog 55 #[.slice A0 l0.length c0,.func (.func 61) #[] #[.pointer (some ⟨g1_0_,0,none⟩)]] w fun e w' => e = .returned (.int .i64 r)∧Below w.heap.size w w':=by
 have hu24:=Try.underlying24;have HR0:=zh hr0;have HC0:=zh hc0;clear hr0 hc0;have BK910:=zh hb1_0_;clear hb1_0_;have HB:=zh (Below.refl w.heap.size w);have H : (F05.l0 G k l0 (l0.length : Int) 0 a1_0)=some r:=h;clear h;have H':=zh H;clear H
 go_enter Try.func55,Try.ntmps55
 go_wp2
 go_loopg [8] k (fun kq v8 w' => ∃ (x8_1 : Int),v8 = .int .i64 x8_1∧Aside0 (F05.l0 G kq l0 (l0.length : Int) x8_1 a1_0=some r)∧Aside0 (kq≤k)∧Aside0 (w'.heap[g1_0_]? = some (.cells #[.int .i64 a1_0] 3 (0,0)))∧Aside0 (Below w.heap.size w w'))
 case atStart=>exact ⟨(0),jE,H',⟨ye _⟩,⟨jAZ⟩,⟨jAY⟩⟩
 case round =>
  clear H'
  try clear p2
  obtain ⟨x8_1,rfl,HA,HK1,BK910,HB⟩:=hrel
  cases gk with
  | zero=>exact absurd HA.out (by simp [F05.l0])
  | succ k1 =>
   have H:=HA.out;clear HA;simp only [F05.l0] at H
   by_cases c3 : x8_1<(l0.length : Int)
   ·
    rw [if_pos c3] at H
    have c3b0 : decide (x8_1<(l0.length : Int))=true:=decide_eq_true c3;clear c3
    by_cases c4 : 0≤x8_1
    ·
     rw [if_pos c4] at H
     have c4b0 : decide (0≤x8_1)=true:=decide_eq_true c4;clear c4
     by_cases c5 : x8_1<(l0.length : Int)
     ·
      rw [if_pos c5] at H
      have c5b0 : decide (x8_1<(l0.length : Int))=true:=decide_eq_true c5;clear c5;replace H:=zT.mp H;obtain ⟨t379,A60,H⟩:=H;have A6:=zh A60;clear A60
      by_cases c7 : t379=true
      ·
       subst c7
       rw [if_pos rfl] at H;obtain rfl:=zU H;have p378 : 0≤(x8_1 : Int):=zy jF;have q378 : x8_1<(l0.length : Int):=zy jF;obtain ⟨ad378,e378,hx378_0,hx378_1,hx378_2⟩:=at_T24 HR0.out x8_1 p378 q378
       cases e378
       replace hx378_0:=(HB.out.cell (zl w _ hx378_0)).trans hx378_0;replace hx378_1:=(HB.out.cell (zl w _ hx378_1)).trans hx378_1;replace hx378_2:=(HB.out.cell (zl w _ hx378_2)).trans hx378_2;replace p378:=eq_true p378;replace q378:=eq_true q378
       go_wp2_with (first|(go_at_call 61;(with_reducible refine (F0u.calls G hG ((rd_T24 l0 x8_1).f0) ((rd_T24 l0 x8_1).f1) ((rd_T24 l0 x8_1).f2) g1_0_ a1_0 true _ ?side1 A6.out).mono ?_);(case side1=>(with_reducible repeat first|apply ze|apply zf|apply zg);exact BK910.out);rintro e w8 ⟨rfl,hb⟩;replace BK910:=zh (zD (g:=g1_0_) (o:=.cells #[.int .i64 a1_0] 3 (0,0)) jAZ hb);replace HB:=zh (zC jAY hb);(try clear hb);(try clear hb2);(try clear hk);(try clear hi)))
       go_ret
       exact ⟨jG,jAY⟩
      replace c7:=yb.mpr c7;subst c7;rw [if_neg (show ¬ (false=true) by decide)] at H;have H':=zh H;clear H;have p378 : 0≤(x8_1 : Int):=zy jF;have q378 : x8_1<(l0.length : Int):=zy jF;obtain ⟨ad378,e378,hx378_0,hx378_1,hx378_2⟩:=at_T24 HR0.out x8_1 p378 q378
      cases e378
      replace hx378_0:=(HB.out.cell (zl w _ hx378_0)).trans hx378_0;replace hx378_1:=(HB.out.cell (zl w _ hx378_1)).trans hx378_1;replace hx378_2:=(HB.out.cell (zl w _ hx378_2)).trans hx378_2;replace p378:=eq_true p378;replace q378:=eq_true q378
      go_wp2_with (first|(go_at_call 61;(with_reducible refine (F0u.calls G hG ((rd_T24 l0 x8_1).f0) ((rd_T24 l0 x8_1).f1) ((rd_T24 l0 x8_1).f2) g1_0_ a1_0 false _ ?side1 A6.out).mono ?_);(case side1=>(with_reducible repeat first|apply ze|apply zf|apply zg);exact BK910.out);rintro e w9 ⟨rfl,hb⟩;replace BK910:=zh (zD (g:=g1_0_) (o:=.cells #[.int .i64 a1_0] 3 (0,0)) jAZ hb);replace HB:=zh (zC jAY hb);(try clear hb);(try clear hb2);(try clear hk);(try clear hi)))
      go_roundg k1
      case measure=>have:=HK1.out;omega
      case rel=>exact ⟨(wrap64 (x8_1+1)),jE,H',⟨jN⟩,⟨jAZ⟩,⟨jAY⟩⟩
     rw [if_neg c5] at H;exact absurd H (by simp)
    rw [if_neg c4] at H;exact absurd H (by simp)
   rw [if_neg c3] at H;have c3b0 : decide (x8_1<(l0.length : Int))=false:=decide_eq_false c3;clear c3;obtain rfl:=zU H
   go_wp2
   go_ret
   exact ⟨jG,jAY⟩


def Fk.f (k : Nat) (G : Int→Int→ByteArray→Int→Option (Bool)) (l0 : List (S24)) (a1_0 : Int) : Option (Bool):=(F05.f k G l0 a1_0).bind fun t380=>(some (decide (t380 ≥ 0)))
theorem Fk.mono : ∀ (G G' : Int→Int→ByteArray→Int→Option (Bool)) (hG : ∀ y0 y1 y2 y3,LeO (G y0 y1 y2 y3) (G' y0 y1 y2 y3)),∀ a0 a1 k,LeO (Fk.f k G a0 a1) (Fk.f (k+1) G' a0 a1):=by
 intro G G' hG a0 a1 k;unfold Fk.f
 repeat' first|(with_reducible first|exact hG _ _ _ _|exact F05.mono _ _ hG _ _ _|exact zQ _|exact zN _|refine zP ?_ ?_|refine zO ?_ (fun _=>?_))|refine zP ?_ ?_|refine zO ?_ (fun _=>?_)
set_option maxHeartbeats 8000000 in
set_option maxRecDepth 100000 in
theorem Fk.calls (k : Nat) (G : Int→Int→ByteArray→Int→Option (Bool)) (hG : ∀ (a0_0 : Int) (a0_1 : Int) (a0_2 : ByteArray) (a1 : Int) (r : Bool) (w : World) (h : G a0_0 a0_1 a0_2 a1=some r),Calls Try.prog 39 #[.agg #[.int .i64 a0_0,.int .i64 a0_1,.string a0_2],.int .i64 a1] w fun e w' => e = .returned (.bool r)∧Below w.heap.size w w') (A0 : Option Addr) (c0 : Nat) (l0 : List (S24)) (g1_0_ : Nat) (a1_0 : Int) (r : Bool) (w : World) (hr0 : Kd.C k24 w A0 l0.length l0) (hc0 : l0.length≤c0) (hb1_0_ : w.heap[g1_0_]? = some (.cells #[.int .i64 a1_0] 3 (0,0))) (h : Fk.f k G l0 a1_0=some r) :
  Calls Try.prog 29 #[.slice A0 l0.length c0,.func (.func 61) #[] #[.pointer (some ⟨g1_0_,0,none⟩)]] w fun e w' => e = .returned (.bool r)∧Below w.heap.size w w':=by
 have HR0:=zh hr0;have HC0:=zh hc0;clear hr0 hc0;have BK910:=zh hb1_0_;clear hb1_0_;have HB:=zh (Below.refl w.heap.size w);have H : ((F05.f k G l0 a1_0).bind fun t380=>(some (decide (t380 ≥ 0))))=some r:=h;clear h;replace H:=zT.mp H;obtain ⟨t380,A30,H⟩:=H;have A3:=zh A30;clear A30;obtain rfl:=zU H
 go_enter Try.func29,Try.ntmps29
 go_wp2_with (first|((with_reducible refine zJ (f:=55) rfl ?_);refine yj (some 7) rfl rfl Try.func55 jA rfl #[.slice A0 l0.length c0,.func (.func 61) #[] #[.pointer (some ⟨g1_0_,0,none⟩)]] rfl jB ?_;(with_reducible refine (F05.calls k G hG _ _ l0 g1_0_ a1_0 t380 _ ?side1 ?side2 ?side3 A3.out).mono ?_);(case side1=>repeat (first|exact HR0.out|(with_reducible refine Kd.C_alloc ?_ _)|(with_reducible refine Kd.C_drewN ?_ _)|(with_reducible refine Kd.C_drew ?_)));(case side2=>exact HC0.out);(case side3=>(with_reducible repeat first|apply ze|apply zf|apply zg);exact BK910.out);rintro e w4 ⟨rfl,hb⟩;refine ⟨_,rfl,?_⟩;replace BK910:=zh (zD (g:=g1_0_) (o:=.cells #[.int .i64 a1_0] 3 (0,0)) jAZ hb);replace HB:=zh (zC jAY hb);(try clear hb);(try clear hb2);(try clear hk);(try clear hi)))
 go_ret
 exact ⟨jG,jAY⟩


def F13.f (a0 : Int) : Option (Bool):=(F0j.f a0 (-1000000000000) 1000000000000).bind fun t282=>(some t282)
set_option maxHeartbeats 8000000 in
set_option maxRecDepth 100000 in
theorem F13.calls (a0 : Int) (r : Bool) (w : World) (h : F13.f a0=some r) :
  Calls Try.prog 59 #[.int .i64 a0] w fun e w' => e = .returned (.bool r)∧Drawn0 w w':=by
 have H : ((F0j.f a0 (-1000000000000) 1000000000000).bind fun t282=>(some t282))=some r:=h;clear h;replace H:=zT.mp H;obtain ⟨t282,A20,H⟩:=H;have A2:=zh A20;clear A20;obtain rfl:=zU H
 go_enter Try.func59,Try.ntmps59
 go_wp2_with (first|((with_reducible refine zJ (f:=21) rfl ?_);refine yj (some 4) rfl rfl Try.func21 jA rfl #[.int .i64 a0,.int .i64 (-1000000000000),.int .i64 1000000000000] rfl jB ?_;(with_reducible refine (F0j.calls  a0 (-1000000000000) 1000000000000 t282 _ A2.out).mono ?_);rintro e w' ⟨rfl,⟨nd,rfl⟩⟩;refine ⟨_,rfl,?_⟩))
 go_ret
 exact ⟨jE,jJ⟩


def strings_Repeat.f (a0 : ByteArray) (a1 : Int) : Option (ByteArray):=if 0≤a1 then (if a0.size*a1.toNat≤140737488355328 then (if a1≤9223372036854775807 then (some ⟨(Lib.repeatL a0.data.toList a1.toNat).toArray⟩) else (none)) else (none)) else (none)
theorem strings_Repeat.calls (a0 : ByteArray) (a1 : Int) (r : ByteArray) (w : World) (h : strings_Repeat.f a0 a1=some r) :
  Calls Try.prog 71 #[.string a0,.int .i64 a1] w fun e w' => e = .returned (.string r)∧Below w.heap.size w w':=by
 unfold strings_Repeat.f at h
 by_cases h0 : 0≤a1
 ·
  rw [if_pos h0] at h
  by_cases h1 : a0.size*a1.toNat≤140737488355328
  ·
   rw [if_pos h1] at h
   by_cases h2 : a1≤9223372036854775807
   ·
    rw [if_pos h2] at h
    obtain rfl:=zU h;have:=Try.strings_Repeat a0 a1.toNat w jH h1;rw [Int.toNat_of_nonneg h0] at this;exact this
   rw [if_neg h2] at h;exact absurd h (by simp)
  rw [if_neg h1] at h;exact absurd h (by simp)
 rw [if_neg h0] at h;exact absurd h (by simp)


def IsS48 (w0 W : World) (g : Nat) (f0 : ByteArray) (f1 : Bool) : Prop:=W.heap[g]? = some (.cells #[.string f0,.bool f1] 48 (0,0))∧w0.heap.size≤g
theorem IsS48.grown {w0 W : World} {g : Nat} {f0 : ByteArray} {f1 : Bool} {W1 : World} {row : Option Nat} (h : IsS48 w0 W g f0 f1) (hw : W.grownBy W1 row) (hne : some g≠row) : IsS48 w0 W1 g f0 f1:=by
 obtain ⟨hb,hg⟩:=h;exact ⟨yw hb hw hne,hg⟩
theorem IsS48.fresh {w0 W : World} {g : Nat} {f0 : ByteArray} {f1 : Bool} (h : IsS48 w0 W g f0 f1) : ∀ k,W.heap.size≤k→k≠g:=by
 obtain ⟨hb,hg⟩:=h;exact Kd.freshB hb
theorem IsS48.kept {w0 W : World} {g : Nat} {f0 : ByteArray} {f1 : Bool} {W1 : World} {S : Nat→Prop} (h : IsS48 w0 W g f0 f1) (hk : Kept W W1 S) (hne : ¬ S g) : IsS48 w0 W1 g f0 f1:=by
 obtain ⟨hb,hg⟩:=h;exact ⟨blk_kept hb hk hne,hg⟩
theorem IsS48.below {w0 W : World} {g : Nat} {f0 : ByteArray} {f1 : Bool} {W1 : World} (h : IsS48 w0 W g f0 f1) (hw : Below W.heap.size W W1) : IsS48 w0 W1 g f0 f1:=h.grown (grown_of_below hw none) (by simp)
theorem IsS48.alloc {w0 W : World} {g : Nat} {f0 : ByteArray} {f1 : Bool} (h : IsS48 w0 W g f0 f1) (o : Obj) : IsS48 w0 (W.alloc o) g f0 f1:=h.below (za (Below.refl _ _) o)
theorem IsS48.drewN {w0 W : World} {g : Nat} {f0 : ByteArray} {f1 : Bool} (h : IsS48 w0 W g f0 f1) (m : Nat) : IsS48 w0 (W.drewN m) g f0 f1:=h
theorem IsS48.drew {w0 W : World} {g : Nat} {f0 : ByteArray} {f1 : Bool} (h : IsS48 w0 W g f0 f1) : IsS48 w0 W.drew g f0 f1:=h
theorem IsS48.at_ {w0 W : World} {g : Nat} {f0 : ByteArray} {f1 : Bool} {w' : World} {m : Nat} (hq : W.drewN m=w') (h : IsS48 w0 W g f0 f1) : IsS48 w0 w' g f0 f1:=by subst hq;exact IsS48.drewN h m
theorem IsS48.apart {w0 W : World} {g : Nat} {f0 : ByteArray} {f1 : Bool} {α : Type} {d : Kd α} {e : Nat} {base : Nat} {ok : Nat→Prop} {v : Value} {xs : List α} (h : IsS48 w0 W g f0 f1) (ho : d.R e W base ok v xs) (ht : ∀ q,q ∈ e :: d.E→q≠48) : d.R e W base (fun k=>ok k∧k≠g) v xs:=by
 obtain ⟨hb,hg⟩:=h;exact yf ho hb ht
theorem IsS48.own_ne {w0 W : World} {g : Nat} {f0 : ByteArray} {f1 : Bool} {α : Type} {d : Kd α} {e : Nat} {base : Nat} {ok : Nat→Prop} {v : Value} {xs : List α} (h : IsS48 w0 W g f0 f1) (ho : d.R e W base ok v xs) (ht : e≠48) : some g≠v.ownBlock:=by
 obtain ⟨hb,hg⟩:=h;exact Kd.R_ne ho hb ht
theorem IsS48.lt {w0 W : World} {g : Nat} {f0 : ByteArray} {f1 : Bool} (h : IsS48 w0 W g f0 f1) : g<W.heap.size:=by
 obtain ⟨hb,hg⟩:=h;exact yi hb
theorem IsS48.ge {w0 W : World} {g : Nat} {f0 : ByteArray} {f1 : Bool} (h : IsS48 w0 W g f0 f1) : w0.heap.size≤g:=by
 obtain ⟨hb,hg⟩:=h;exact hg
theorem IsS48.ne_blk {w0 W : World} {g : Nat} {f0 : ByteArray} {f1 : Bool} {a : Nat} {cs : Array Value} {t : TypeId} {fr : Nat×Nat} (h : IsS48 w0 W g f0 f1) (hb2 : W.heap[a]? = some (.cells cs t fr)) (ht : t≠48) : g≠a:=by
 obtain ⟨hb,hg⟩:=h;rintro rfl;rw [hb] at hb2;injection hb2 with hb2;injection hb2 with _ ht2;exact ht ht2.symm
theorem IsS48.far {w0 W : World} {g : Nat} {f0 : ByteArray} {f1 : Bool} {p : Addr} (h : IsS48 w0 W g f0 f1) (hne : g≠p.block) (u : Value) : IsS48 w0 (W.setCell p u) g f0 f1:=by
 obtain ⟨hb,hg⟩:=h;exact ⟨zS hb hne u,hg⟩
theorem cellS48_0 {W : World} {g : Nat} {f0 : ByteArray} {f1 : Bool} (h : W.heap[g]? = some (.cells #[.string f0,.bool f1] 48 (0,0))) : W.cell? ⟨g,0,none⟩=some (.string f0):=(zz h 0).trans rfl
theorem IsS48.set_0 {w0 W : World} {g : Nat} {f0 : ByteArray} {f1 : Bool} (h : IsS48 w0 W g f0 f1) (x : ByteArray) : IsS48 w0 (W.setCell ⟨g,0,none⟩ (.string x)) g x f1:=by
 obtain ⟨hb,hg⟩:=h;exact ⟨by simpa using blk_set hb 0 (.string x),hg⟩
theorem cellS48_1 {W : World} {g : Nat} {f0 : ByteArray} {f1 : Bool} (h : W.heap[g]? = some (.cells #[.string f0,.bool f1] 48 (0,0))) : W.cell? ⟨g,1,none⟩=some (.bool f1):=(zz h 1).trans rfl
theorem IsS48.set_1 {w0 W : World} {g : Nat} {f0 : ByteArray} {f1 : Bool} (h : IsS48 w0 W g f0 f1) (x : Bool) : IsS48 w0 (W.setCell ⟨g,1,none⟩ (.bool x)) g f0 x:=by
 obtain ⟨hb,hg⟩:=h;exact ⟨by simpa using blk_set hb 1 (.bool x),hg⟩
theorem IsS48.new (w0 W : World) (f0 : ByteArray) (f1 : Bool) (hB : Below w0.heap.size w0 W) : IsS48 w0 (W.alloc (.cells #[.string f0,.bool f1] 48)) W.heap.size f0 f1:=⟨by simpa using heap_alloc_new W _,hB.size⟩

def Fr.f (s0_0 : ByteArray) (s0_1 : Bool) (a1 : Int) : Option (ByteArray×ByteArray×Bool):=if a1 > (s0_0.size : Int) then ((strings_Repeat.f (⟨#[0]⟩ : ByteArray) a1).bind fun t286=>(some (t286,s0_0,true))) else (if 0≤a1 then (if a1≤(s0_0.size : Int) then (some (s0_0.extract 0 (a1 : Int).toNat,s0_0.extract (a1 : Int).toNat s0_0.size,s0_1)) else (none)) else (none))
set_option maxHeartbeats 8000000 in
set_option maxRecDepth 100000 in
theorem Fr.calls (g : Nat) (s0_0 : ByteArray) (s0_1 : Bool) (a1 : Int) (r1 : ByteArray) (r2 : ByteArray) (r3 : Bool) (w0 w : World) (hI : IsS48 w0 w g s0_0 s0_1) (hB : Below w0.heap.size w0 w) (h : Fr.f s0_0 s0_1 a1=some (r1,r2,r3)) :
  Calls Try.prog 48 #[.pointer (some ⟨g,0,none⟩),.int .i64 a1] w fun e w' => e = .returned (.string r1)∧IsS48 w0 w' g r2 r3∧Below w0.heap.size w0 w' ∧ KeepBut w w' g none:=by
 have HI0:=zh hI;have HK:=zh (KeepBut.refl w g none);have HL:=zh hB.size;clear hI;have HW0:=zh hB.size;have HB:=zh hB;clear hB;have H : (if a1 > (s0_0.size : Int) then ((strings_Repeat.f (⟨#[0]⟩ : ByteArray) a1).bind fun t286=>(some (t286,s0_0,true))) else (if 0≤a1 then (if a1≤(s0_0.size : Int) then (some (s0_0.extract 0 (a1 : Int).toNat,s0_0.extract (a1 : Int).toNat s0_0.size,s0_1)) else (none)) else (none)))=some (r1,r2,r3):=h;clear h
 by_cases c3 : a1 > (s0_0.size : Int)
 ·
  rw [if_pos c3] at H
  have c3b0 : decide ((s0_0.size : Int)<a1)=true:=decide_eq_true c3;clear c3;replace H:=zT.mp H;obtain ⟨t286,A40,H⟩:=H;have A4:=zh A40;clear A40;simp only [Option.some.injEq,Prod.mk.injEq] at H;obtain ⟨rfl,rfl,rfl⟩:=H;obtain ⟨HGz5,hgz5⟩:=HI0.out;have hcz5_0:=cellS48_0 HGz5;have hcz5_1:=cellS48_1 HGz5;have hfz5_0:=zA HGz5 0;have hfz5_1:=zA HGz5 1;clear HGz5 hgz5
  go_enter Try.func48,Try.ntmps48
  go_wp2_with (first|((with_reducible refine zJ (f:=71) rfl ?_);refine yj (some 17) rfl rfl Try.func71 jA rfl #[.string (⟨#[0]⟩ : ByteArray),.int .i64 a1] rfl jB ?_;(with_reducible refine (strings_Repeat.calls  (⟨#[0]⟩ : ByteArray) a1 t286 _ A4.out).mono ?_);rintro e w6 ⟨rfl,hb⟩;refine ⟨_,rfl,?_⟩;replace HK:=zh (KeepBut.trans jI (KeepBut.of_below hb g none) (.inl rfl));replace HB:=zh (zC jV hb);replace HI0:=zh (IsS48.below (show IsS48 w0 (w.setCell ⟨g,1,none⟩ (.bool true)) g s0_0 true from by repeat (with_reducible first|exact HI0.out|apply IsS48.alloc|apply IsS48.drewN|apply IsS48.drew|apply IsS48.set_0|apply IsS48.set_1)) hb);(try clear hb);(try clear hb2);(try clear hk);(try clear hi)))
  go_ret
  exact ⟨jG,jW,jV,jI⟩
 rw [if_neg c3] at H;have c3b0 : decide ((s0_0.size : Int)<a1)=false:=decide_eq_false c3;clear c3
 by_cases c7 : 0≤a1
 ·
  rw [if_pos c7] at H
  have c7b0:=eq_true c7;have c7b1 : decide (0≤a1)=true:=decide_eq_true c7;clear c7
  by_cases c8 : a1≤(s0_0.size : Int)
  ·
   rw [if_pos c8] at H
   have c8b0:=eq_true c8;have c8b1 : decide (a1≤(s0_0.size : Int))=true:=decide_eq_true c8;clear c8;have c9b0:=eq_true (zy jF : 0≤a1);have c10b0:=eq_true (zy jF : a1≤(s0_0.size : Int));simp only [Option.some.injEq,Prod.mk.injEq] at H;obtain ⟨rfl,rfl,rfl⟩:=H;obtain ⟨HGz11,hgz11⟩:=HI0.out;have hcz11_0:=cellS48_0 HGz11;have hcz11_1:=cellS48_1 HGz11;have hfz11_0:=zA HGz11 0;have hfz11_1:=zA HGz11 1;clear HGz11 hgz11
   go_enter Try.func48,Try.ntmps48
   go_wp2
   go_ret
   exact ⟨jG,jW,jV,jI⟩
  rw [if_neg c8] at H;exact absurd H (by simp)
 rw [if_neg c7] at H;exact absurd H (by simp)


def F04.l0 : Nat→Int→List Int→Int→Int→Option (Int)
 | 0,_,_,_,_=>none
 | k+1,x3,x6,x7,x8=>if x8<x7 then (if 0≤x8 then (if x8<(x6.length : Int) then (F04.l0 k (Go.bits .or .i64 (wrap64 (x3*256)) (wrap64 (rd x6 x8))) x6 x7 (wrap64 (x8+1))) else (none)) else (none)) else (some x3)
def F04.f (k : Nat) (l0 : List Int) : Option (Int):=F04.l0 k 0 l0 (l0.length : Int) 0
theorem F04.mono_l : ∀ k,(∀ y0 y1 y2 y3,LeO (F04.l0 k y0 y1 y2 y3) (F04.l0 (k+1) y0 y1 y2 y3))
 | 0=>fun _ _ _ _ r h=>by simp [F04.l0] at h
 | k+1=>by
  have ih0:=F04.mono_l k;intro y0 y1 y2 y3;unfold F04.l0
  repeat' first|(with_reducible first|exact ih0 _ _ _ _|exact zQ _|exact zN _|refine zP ?_ ?_|refine zO ?_ (fun _=>?_))|refine zP ?_ ?_|refine zO ?_ (fun _=>?_)
theorem F04.mono : ∀ a0 k,LeO (F04.f k a0) (F04.f (k+1) a0):=by
 intro a0 k;have ih0:=F04.mono_l k;unfold F04.f
 repeat' first|(with_reducible first|exact ih0 _ _ _ _|exact zQ _|exact zN _|refine zP ?_ ?_|refine zO ?_ (fun _=>?_))|refine zP ?_ ?_|refine zO ?_ (fun _=>?_)
set_option maxHeartbeats 8000000 in
set_option maxRecDepth 100000 in
theorem F04.calls (k : Nat) (A0 : Option Addr) (c0 : Nat) (l0 : List Int) (r : Int) (w : World) (hr0 : Kd.C (Kd.int .u8) w A0 l0.length l0) (hc0 : l0.length≤c0) (h : F04.f k l0=some r) :
  Calls Try.prog 70 #[.slice A0 l0.length c0] w fun e w' => e = .returned (.int .i64 r)∧Drawn0 w w':=by
 have HR0:=zh hr0;have HC0:=zh hc0;clear hr0 hc0;have H : (F04.l0 k 0 l0 (l0.length : Int) 0)=some r:=h;clear h;have H':=zh H;clear H
 go_enter Try.func70,Try.ntmps70
 go_wp2
 go_loopg [3,8] k (fun kq v3 v8 w' => ∃ (x3_1 : Int) (x8_1 : Int),v3 = .int .i64 x3_1∧v8 = .int .i64 x8_1∧Aside0 (F04.l0 kq x3_1 l0 (l0.length : Int) x8_1=some r)∧Aside0 (kq≤k)∧Drawn0 w w')
 case atStart=>exact ⟨(0),(0),jE,jE,H',⟨ye _⟩,jJ⟩
 case round =>
  clear H';obtain ⟨x3_1,x8_1,rfl,rfl,HA,HK1,⟨m1,rfl⟩⟩:=hrel
  cases gk with
  | zero=>exact absurd HA.out (by simp [F04.l0])
  | succ k1 =>
   have H:=HA.out;clear HA;simp only [F04.l0] at H
   by_cases c2 : x8_1<(l0.length : Int)
   ·
    rw [if_pos c2] at H
    have c2b0 : decide (x8_1<(l0.length : Int))=true:=decide_eq_true c2;clear c2
    by_cases c3 : 0≤x8_1
    ·
     rw [if_pos c3] at H
     have c3b0 : decide (0≤x8_1)=true:=decide_eq_true c3;clear c3
     by_cases c4 : x8_1<(l0.length : Int)
     ·
      rw [if_pos c4] at H
      have c4b0 : decide (x8_1<(l0.length : Int))=true:=decide_eq_true c4;clear c4;have H':=zh H;clear H;have p287 : 0≤(x8_1 : Int):=zy jF;have q287 : x8_1<(l0.length : Int):=zy jF;obtain ⟨ad287,e287,hx287_0⟩:=Kd.at_int HR0.out x8_1 p287 q287
      cases e287
      replace p287:=eq_true p287;replace q287:=eq_true q287
      go_wp2
      go_roundg k1
      case measure=>have:=HK1.out;omega
      case rel=>exact ⟨(Go.bits .or .i64 (wrap64 (x3_1*256)) (wrap64 (rd l0 x8_1))),(wrap64 (x8_1+1)),jE,jE,H',⟨jN⟩,jJ⟩
     rw [if_neg c4] at H;exact absurd H (by simp)
    rw [if_neg c3] at H;exact absurd H (by simp)
   rw [if_neg c2] at H;have c2b0 : decide (x8_1<(l0.length : Int))=false:=decide_eq_false c2;clear c2;obtain rfl:=zU H
   go_wp2
   go_ret
   exact ⟨jE,jJ⟩


def Fe.f (k : Nat) (s0_0 : ByteArray) (s0_1 : Bool) (a1 : Int) : Option (Int×ByteArray×Bool):=(Fr.f s0_0 s0_1 a1).bind fun bt288=>(if bt288.1.size≤9223372036854775807 then ((F04.f k (bytesOf bt288.1)).bind fun t294=>(some (t294,bt288.2.1,bt288.2.2))) else (none))
theorem Fe.mono : ∀ a0 a1 a2 k,LeO (Fe.f k a0 a1 a2) (Fe.f (k+1) a0 a1 a2):=by
 intro a0 a1 a2 k;unfold Fe.f
 repeat' first|(with_reducible first|exact F04.mono _ _|exact zQ _|exact zN _|refine zP ?_ ?_|refine zO ?_ (fun _=>?_))|refine zP ?_ ?_|refine zO ?_ (fun _=>?_)
set_option maxHeartbeats 8000000 in
set_option maxRecDepth 100000 in
theorem Fe.calls (k : Nat) (g : Nat) (s0_0 : ByteArray) (s0_1 : Bool) (a1 : Int) (r1 : Int) (r2 : ByteArray) (r3 : Bool) (w0 w : World) (hI : IsS48 w0 w g s0_0 s0_1) (hB : Below w0.heap.size w0 w) (h : Fe.f k s0_0 s0_1 a1=some (r1,r2,r3)) :
  Calls Try.prog 47 #[.pointer (some ⟨g,0,none⟩),.int .i64 a1] w fun e w' => e = .returned (.int .i64 r1)∧IsS48 w0 w' g r2 r3∧Below w0.heap.size w0 w' ∧ KeepBut w w' g none:=by
 have HI0:=zh hI;have HK:=zh (KeepBut.refl w g none);have HL:=zh hB.size;clear hI;have HW0:=zh hB.size;have HB:=zh hB;clear hB;have H : ((Fr.f s0_0 s0_1 a1).bind fun bt288=>(if bt288.1.size≤9223372036854775807 then ((F04.f k (bytesOf bt288.1)).bind fun t294=>(some (t294,bt288.2.1,bt288.2.2))) else (none)))=some (r1,r2,r3):=h;clear h;replace H:=zT.mp H;obtain ⟨⟨t288,t289,t290⟩,A30,H⟩:=H;have A3:=zh A30;clear A30
 by_cases c4 : t288.size≤9223372036854775807
 ·
  rw [if_pos c4] at H
  have c4b0:=eq_true c4;have c4b1 : decide (t288.size≤9223372036854775807)=true:=decide_eq_true c4
  try have c4b2 : (9223372036854775807<t288.size)=False:=eq_false (Nat.not_lt.2 c4)
  clear c4;obtain ⟨y291,hy291⟩ : ∃ y_ : List Int,y_=(bytesOf t288):=⟨_,rfl⟩;replace H : ((F04.f k y291).bind fun t294=>(some (t294,t289,t290)))=some (r1,r2,r3):=by first|(rw [hy291];with_reducible exact H)|(have H2_:=(Option.bind_some _ _).symm.trans H;rw [hy291];with_reducible exact H2_)|(have H2_:=(Option.bind_some _ _).symm.trans H;with_reducible exact H2_)|with_reducible exact H|(rw [hy291];exact H)|exact H
  have Ny291:=zh hy291;clear hy291;replace H:=zT.mp H;obtain ⟨t294,A50,H⟩:=H;have A5:=zh A50;clear A50;simp only [Option.some.injEq,Prod.mk.injEq] at H;obtain ⟨rfl,rfl,rfl⟩:=H
  go_enter Try.func47,Try.ntmps47
  go_wp2_with (first|((with_reducible refine zJ (f:=48) rfl ?_);refine yj (some 7) rfl rfl Try.func48 jA rfl #[.pointer (some ⟨g,0,none⟩),.int .i64 a1] rfl jB ?_;(with_reducible refine (Fr.calls  g s0_0 s0_1 a1 t288 t289 t290 w0 _ ?side1 ?side2 A3.out).mono ?_);(case side1=>repeat (with_reducible first|exact HI0.out|apply IsS48.alloc|apply IsS48.drewN|apply IsS48.drew|apply IsS48.set_0|apply IsS48.set_1));(case side2=>repeat (with_reducible first|exact HB.out|apply za|apply zb|apply zc|refine zd ?_ (IsS48.ge HI0.out)));rintro e w6 ⟨rfl,hi,hb,hk⟩;refine ⟨_,rfl,?_⟩;replace HK:=zh (KeepBut.trans jI hk (.inl rfl));replace HB:=zh (hb);replace HI0:=zh (hi);(try clear hb);(try clear hb2);(try clear hk);(try clear hi))|((with_reducible refine zK (N:=8) rfl ?_);refine conv_event (base:=w6.heap.size) ?hg (N:=8) ?hd 9 22 5 t288 rfl ?hx Try.underlying9 Try.underlying22 Try.underlying5 (zy jF) ?_;(case hd=>rfl);(case hg=>rfl);(case hx=>first|(go_simp;done)|(go_simp;rfl)|rfl);intro v292 w7 ho8 hb;(first|rw [← Ny291.out] at ho8|(simp only [Int.reduceToNat] at ho8;rw [← Ny291.out] at ho8));have HO293:=zh (Kd.V_lower (Kd.V_mono (ok':=fun k_=>k_≠g) ho8 (fun k_ hk_=>(IsS48.fresh jW k_ hk_))) (keep_size (w:=w) (g:=g) (row:=none) jI));replace HK:=zh (KeepBut.trans jI (KeepBut.of_below hb g none) (.inl rfl));replace HB:=zh (zC jV hb);replace HI0:=zh (IsS48.below jW hb);clear hb ho8;obtain ⟨Ao9,co9,eo9⟩:=Kd.V_slice HO293.out;subst eo9)|((with_reducible refine zJ (f:=70) rfl ?_);refine yj (some 9) rfl rfl Try.func70 jA rfl #[.slice Ao9 y291.length co9] rfl jB ?_;(with_reducible refine (F04.calls k  _ _ y291 t294 _ ?side1 ?side2 A5.out).mono ?_);(case side1=>repeat (first|exact (Kd.V_reads' HO293.out).2.2|(with_reducible refine Kd.C_alloc ?_ _)|(with_reducible refine Kd.C_drewN ?_ _)|(with_reducible refine Kd.C_drew ?_)));(case side2=>exact (Kd.V_reads' HO293.out).2.1);rintro e w' ⟨rfl,⟨nd,rfl⟩⟩;refine ⟨_,rfl,?_⟩))
  go_ret
  exact ⟨jG,jW,jV,jI⟩
 rw [if_neg c4] at H;exact absurd H (by simp)


def Fl.j0 : Nat→Bool→ByteArray→Bool→Int→Int→ByteArray→Option (Int×Int×ByteArray×ByteArray×Bool)
 | 0,_,_,_,_,_,_=>none
 | k+1,x20,x1000,x1001,x300000,x300001,x300002=>if x20=true then ((Fe.f k x1000 x1001 2).bind fun bt306=>((Fr.f bt306.2.1 bt306.2.2 bt306.1).bind fun bt309=>(some (x300000,x300001,bt309.1,bt309.2.1,bt309.2.2)))) else (some (x300000,x300001,x300002,x1000,x1001))
def Fl.f (k : Nat) (s0_0 : ByteArray) (s0_1 : Bool) : Option (Int×Int×ByteArray×ByteArray×Bool):=(Fe.f k s0_0 s0_1 1).bind fun bt296=>(if bt296.1=1 then ((Fe.f k bt296.2.1 bt296.2.2 1).bind fun bt300=>(some (bt296.1,bt300.1,(⟨#[]⟩ : ByteArray),bt300.2.1,bt300.2.2))) else (if bt296.1=2 then ((Fe.f k bt296.2.1 bt296.2.2 8).bind fun bt303=>(some (bt296.1,wrap64 (bt303.1 - 4611686018427387904),(⟨#[]⟩ : ByteArray),bt303.2.1,bt303.2.2))) else (if bt296.1=3 then (Fl.j0 k (bt296.1 == 3) bt296.2.1 bt296.2.2 bt296.1 0 (⟨#[]⟩ : ByteArray)) else (if bt296.1=4 then (Fl.j0 k (bt296.1 == 4) bt296.2.1 bt296.2.2 bt296.1 0 (⟨#[]⟩ : ByteArray)) else (Fl.j0 k (bt296.1 == 5) bt296.2.1 bt296.2.2 bt296.1 0 (⟨#[]⟩ : ByteArray))))))
theorem Fl.mono_l : ∀ k,(∀ y0 y1 y2 y3 y4 y5,LeO (Fl.j0 k y0 y1 y2 y3 y4 y5) (Fl.j0 (k+1) y0 y1 y2 y3 y4 y5))
 | 0=>fun _ _ _ _ _ _ r h=>by simp [Fl.j0] at h
 | k+1=>by
  have ih0:=Fl.mono_l k;intro y0 y1 y2 y3 y4 y5;unfold Fl.j0
  repeat' first|(with_reducible first|exact ih0 _ _ _ _ _ _|exact Fe.mono _ _ _ _|exact zQ _|exact zN _|refine zP ?_ ?_|refine zO ?_ (fun _=>?_))|refine zP ?_ ?_|refine zO ?_ (fun _=>?_)
theorem Fl.mono : ∀ a0 a1 k,LeO (Fl.f k a0 a1) (Fl.f (k+1) a0 a1):=by
 intro a0 a1 k;have ih0:=Fl.mono_l k;unfold Fl.f
 repeat' first|(with_reducible first|exact ih0 _ _ _ _ _ _|exact Fe.mono _ _ _ _|exact zQ _|exact zN _|refine zP ?_ ?_|refine zO ?_ (fun _=>?_))|refine zP ?_ ?_|refine zO ?_ (fun _=>?_)
set_option maxHeartbeats 8000000 in
set_option maxRecDepth 100000 in
theorem Fl.calls (k : Nat) (g : Nat) (s0_0 : ByteArray) (s0_1 : Bool) (r1 : Int) (r2 : Int) (r3 : ByteArray) (r4 : ByteArray) (r5 : Bool) (w0 w : World) (hI : IsS48 w0 w g s0_0 s0_1) (hB : Below w0.heap.size w0 w) (h : Fl.f k s0_0 s0_1=some (r1,r2,r3,r4,r5)) :
  Calls Try.prog 57 #[.pointer (some ⟨g,0,none⟩)] w fun e w' => e = .returned (.agg #[.int .i64 r1,.int .i64 r2,.string r3])∧IsS48 w0 w' g r4 r5∧Below w0.heap.size w0 w' ∧ KeepBut w w' g none:=by
 have hu24:=Try.underlying24;have HI0:=zh hI;have HK:=zh (KeepBut.refl w g none);have HL:=zh hB.size;clear hI;have HW0:=zh hB.size;have HB:=zh hB;clear hB;have H : ((Fe.f k s0_0 s0_1 1).bind fun bt296=>(if bt296.1=1 then ((Fe.f k bt296.2.1 bt296.2.2 1).bind fun bt300=>(some (bt296.1,bt300.1,(⟨#[]⟩ : ByteArray),bt300.2.1,bt300.2.2))) else (if bt296.1=2 then ((Fe.f k bt296.2.1 bt296.2.2 8).bind fun bt303=>(some (bt296.1,wrap64 (bt303.1 - 4611686018427387904),(⟨#[]⟩ : ByteArray),bt303.2.1,bt303.2.2))) else (if bt296.1=3 then (Fl.j0 k (bt296.1 == 3) bt296.2.1 bt296.2.2 bt296.1 0 (⟨#[]⟩ : ByteArray)) else (if bt296.1=4 then (Fl.j0 k (bt296.1 == 4) bt296.2.1 bt296.2.2 bt296.1 0 (⟨#[]⟩ : ByteArray)) else (Fl.j0 k (bt296.1 == 5) bt296.2.1 bt296.2.2 bt296.1 0 (⟨#[]⟩ : ByteArray)))))))=some (r1,r2,r3,r4,r5):=h;clear h;replace H:=zT.mp H;obtain ⟨⟨t296,t297,t298⟩,A20,H⟩:=H;have A2:=zh A20;clear A20
 by_cases c3 : t296=1
 ·
  rw [if_pos c3] at H
  have c3b0 : (t296 == 1)=true:=ya.mpr c3;have c3b1 : (t296 != 1)=false:=zX.mpr c3;clear c3;replace H:=zT.mp H;obtain ⟨⟨t300,t301,t302⟩,A40,H⟩:=H;have A4:=zh A40;clear A40;simp only [Option.some.injEq,Prod.mk.injEq] at H;obtain ⟨rfl,rfl,rfl,rfl,rfl⟩:=H
  go_enter Try.func57,Try.ntmps57
  go_wp2_with (first|((with_reducible refine zK (N:=2) rfl ?_);refine zI ?hg (N:=2) ?hd (cs:=#[.int .i64 0,.int .i64 0,.string (⟨#[]⟩ : ByteArray)]) (t:=24) ?hr ?_;(case hd=>rfl);(case hg=>rfl);(case hr=>go_simp <;> rfl);intro gb295 hg w5 hbox hb;replace HB:=zh (zC jV hb);have BK295:=zh (hbox);have GW295:=zh ((jAV : w.heap.size≤gb295));have GE295:=zh ((Nat.le_trans HW0.out (jAV : w.heap.size≤gb295) : w0.heap.size≤gb295));replace HK:=zh (KeepBut.trans jI (KeepBut.of_below hb g none) (.inl rfl));have NB0_295:=zh ((jBv : g≠gb295));have NB295_0:=zh ((jBw : gb295≠g));replace HI0:=zh (IsS48.below jW hb);clear hb hbox hg)|((with_reducible refine zJ (f:=47) rfl ?_);refine yj (some 5) rfl rfl Try.func47 jA rfl #[.pointer (some ⟨g,0,none⟩),.int .i64 1] rfl jB ?_;(with_reducible refine (Fe.calls k  g s0_0 s0_1 1 t296 t297 t298 w0 _ ?side1 ?side2 A2.out).mono ?_);(case side1=>repeat (with_reducible first|exact HI0.out|apply IsS48.alloc|apply IsS48.drewN|apply IsS48.drew|apply IsS48.set_0|apply IsS48.set_1|refine IsS48.far ?_ NB0_295.out _));(case side2=>repeat (with_reducible first|exact HB.out|apply za|apply zb|apply zc|refine zd ?_ (IsS48.ge HI0.out)|refine zd ?_ GE295.out));rintro e w6 ⟨rfl,hi,hb,hk⟩;refine ⟨_,rfl,?_⟩;replace BK295:=zh (KeepBut.blk hk (g':=gb295) (o:=.cells #[.int .i64 0,.int .i64 0,.string (⟨#[]⟩ : ByteArray)] 24 (0,0)) jAb NB295_0.out (by simp));replace HK:=zh (KeepBut.trans jAt hk (.inl rfl));replace HB:=zh (hb);replace HI0:=zh (hi);(try clear hb);(try clear hb2);(try clear hk);(try clear hi))|((with_reducible refine zK (N:=3) rfl ?_);refine zI ?hg (N:=3) ?hd (cs:=#[.int .i64 0,.int .i64 0,.string (⟨#[]⟩ : ByteArray)]) (t:=24) ?hr ?_;(case hd=>rfl);(case hg=>rfl);(case hr=>go_simp <;> rfl);intro gb299 hg w7 hbox hb;replace HB:=zh (zC jBx hb);have BK299:=zh (hbox);have GW299:=zh ((jA6 : w.heap.size≤gb299));have GE299:=zh ((Nat.le_trans HW0.out (jA6 : w.heap.size≤gb299) : w0.heap.size≤gb299));replace HK:=zh (KeepBut.trans jAt (KeepBut.of_below hb g none) (.inl rfl));have NB295_299:=zh ((jBy : gb295≠gb299));have NB299_295:=zh NB295_299.out.symm;replace BK295:=zh (cD BK295.out jAb hb);have NB0_299:=zh ((jBz : g≠gb299));have NB299_0:=zh ((jB0 : gb299≠g));replace HI0:=zh (IsS48.below jB1 hb);clear hb hbox hg;have hnb8:=NB299_295.out;have hnc8:=NB295_299.out;have hnb9:=NB299_0.out;have hnc9:=NB0_299.out;obtain ⟨hcz10_0,hcz10_1,hcz10_2,hfz10_0,hfz10_1,hfz10_2⟩:=cB3 BK299.out)|((with_reducible refine zJ (f:=47) rfl ?_);refine yj (some 12) rfl rfl Try.func47 jA rfl #[.pointer (some ⟨g,0,none⟩),.int .i64 1] rfl jB ?_;(with_reducible refine (Fe.calls k  g t297 t298 1 t300 t301 t302 w0 _ ?side1 ?side2 A4.out).mono ?_);(case side1=>repeat (with_reducible first|exact HI0.out|apply IsS48.alloc|apply IsS48.drewN|apply IsS48.drew|apply IsS48.set_0|apply IsS48.set_1|refine IsS48.far ?_ NB0_295.out _|refine IsS48.far ?_ NB0_299.out _));(case side2=>repeat (with_reducible first|exact HB.out|apply za|apply zb|apply zc|refine zd ?_ (IsS48.ge HI0.out)|refine zd ?_ GE295.out|refine zd ?_ GE299.out));rintro e w11 ⟨rfl,hi,hb,hk⟩;refine ⟨_,rfl,?_⟩;replace BK295:=zh (KeepBut.blk hk (g':=gb295) (o:=.cells #[.int .i64 0,.int .i64 0,.string (⟨#[]⟩ : ByteArray)] 24 (0,0)) jBG NB295_0.out (by simp));replace BK299:=zh (KeepBut.blk hk (g':=gb299) (o:=.cells #[.int .i64 t296,.int .i64 0,.string (⟨#[]⟩ : ByteArray)] 24 (0,0)) jBH NB299_0.out (by simp));replace HK:=zh (KeepBut.trans jAU hk (.inl rfl));replace HB:=zh (hb);replace HI0:=zh (hi);(try clear hb);(try clear hb2);(try clear hk);(try clear hi);obtain ⟨hcz12_0,hcz12_1,hcz12_2,hfz12_0,hfz12_1,hfz12_2⟩:=cB3 BK299.out;have hnb13:=NB295_0.out;have hnc13:=NB0_295.out;obtain ⟨hcz14_0,hcz14_1,hcz14_2,hfz14_0,hfz14_1,hfz14_2⟩:=cB3 BK295.out))
  refine bodyPost_ret (results_cell_row rfl _ _ gb295 24 #[.int .i64 t296,.int .i64 t300,.string (⟨#[]⟩ : ByteArray)] (0,0) _ rfl (by (with_reducible repeat first|apply ze|apply zf|apply zg);refine zL (cs:=#[.int .i64 t296,.int .i64 t300,.string (⟨#[]⟩ : ByteArray)]) ?_ 2 _ rfl;(with_reducible repeat first|apply ze|apply zf|apply zg);refine zL (cs:=#[.int .i64 t296,.int .i64 0,.string (⟨#[]⟩ : ByteArray)]) ?_ 1 _ rfl;(with_reducible repeat first|apply ze|apply zf|apply zg);refine zL (cs:=#[.int .i64 0,.int .i64 0,.string (⟨#[]⟩ : ByteArray)]) ?_ 0 _ rfl;(with_reducible repeat first|apply ze|apply zf|apply zg);refine zS ?_ NB295_299.out _;(with_reducible repeat first|apply ze|apply zf|apply zg);exact BK295.out) Try.underlying24 rfl jA) rfl ?_;exact ⟨jG,jAu,jAv,jAU⟩
 rw [if_neg c3] at H;have c3b0 : (t296 == 1)=false:=zY.mpr c3;have c3b1 : (t296 != 1)=true:=zZ.mpr c3
 by_cases c15 : t296=2
 ·
  rw [if_pos c15] at H
  have c15b0 : (t296 == 2)=true:=ya.mpr c15;have c15b1 : (t296 != 2)=false:=zX.mpr c15;clear c15;replace H:=zT.mp H;obtain ⟨⟨t303,t304,t305⟩,A160,H⟩:=H;have A16:=zh A160;clear A160;simp only [Option.some.injEq,Prod.mk.injEq] at H;obtain ⟨rfl,rfl,rfl,rfl,rfl⟩:=H
  go_enter Try.func57,Try.ntmps57
  go_wp2_with (first|((with_reducible refine zK (N:=2) rfl ?_);refine zI ?hg (N:=2) ?hd (cs:=#[.int .i64 0,.int .i64 0,.string (⟨#[]⟩ : ByteArray)]) (t:=24) ?hr ?_;(case hd=>rfl);(case hg=>rfl);(case hr=>go_simp <;> rfl);intro gb295 hg w17 hbox hb;replace HB:=zh (zC jV hb);have BK295:=zh (hbox);have GW295:=zh ((jAV : w.heap.size≤gb295));have GE295:=zh ((Nat.le_trans HW0.out (jAV : w.heap.size≤gb295) : w0.heap.size≤gb295));replace HK:=zh (KeepBut.trans jI (KeepBut.of_below hb g none) (.inl rfl));have NB0_295:=zh ((jBv : g≠gb295));have NB295_0:=zh ((jBw : gb295≠g));replace HI0:=zh (IsS48.below jW hb);clear hb hbox hg)|((with_reducible refine zJ (f:=47) rfl ?_);refine yj (some 5) rfl rfl Try.func47 jA rfl #[.pointer (some ⟨g,0,none⟩),.int .i64 1] rfl jB ?_;(with_reducible refine (Fe.calls k  g s0_0 s0_1 1 t296 t297 t298 w0 _ ?side1 ?side2 A2.out).mono ?_);(case side1=>repeat (with_reducible first|exact HI0.out|apply IsS48.alloc|apply IsS48.drewN|apply IsS48.drew|apply IsS48.set_0|apply IsS48.set_1|refine IsS48.far ?_ NB0_295.out _));(case side2=>repeat (with_reducible first|exact HB.out|apply za|apply zb|apply zc|refine zd ?_ (IsS48.ge HI0.out)|refine zd ?_ GE295.out));rintro e w18 ⟨rfl,hi,hb,hk⟩;refine ⟨_,rfl,?_⟩;replace BK295:=zh (KeepBut.blk hk (g':=gb295) (o:=.cells #[.int .i64 0,.int .i64 0,.string (⟨#[]⟩ : ByteArray)] 24 (0,0)) jAb NB295_0.out (by simp));replace HK:=zh (KeepBut.trans jAt hk (.inl rfl));replace HB:=zh (hb);replace HI0:=zh (hi);(try clear hb);(try clear hb2);(try clear hk);(try clear hi))|((with_reducible refine zK (N:=3) rfl ?_);refine zI ?hg (N:=3) ?hd (cs:=#[.int .i64 0,.int .i64 0,.string (⟨#[]⟩ : ByteArray)]) (t:=24) ?hr ?_;(case hd=>rfl);(case hg=>rfl);(case hr=>go_simp <;> rfl);intro gb299 hg w19 hbox hb;replace HB:=zh (zC jBx hb);have BK299:=zh (hbox);have GW299:=zh ((jA6 : w.heap.size≤gb299));have GE299:=zh ((Nat.le_trans HW0.out (jA6 : w.heap.size≤gb299) : w0.heap.size≤gb299));replace HK:=zh (KeepBut.trans jAt (KeepBut.of_below hb g none) (.inl rfl));have NB295_299:=zh ((jBy : gb295≠gb299));have NB299_295:=zh NB295_299.out.symm;replace BK295:=zh (cD BK295.out jAb hb);have NB0_299:=zh ((jBz : g≠gb299));have NB299_0:=zh ((jB0 : gb299≠g));replace HI0:=zh (IsS48.below jB1 hb);clear hb hbox hg;have hnb20:=NB299_295.out;have hnc20:=NB295_299.out;have hnb21:=NB299_0.out;have hnc21:=NB0_299.out;obtain ⟨hcz22_0,hcz22_1,hcz22_2,hfz22_0,hfz22_1,hfz22_2⟩:=cB3 BK299.out)|((with_reducible refine zJ (f:=47) rfl ?_);refine yj (some 17) rfl rfl Try.func47 jA rfl #[.pointer (some ⟨g,0,none⟩),.int .i64 8] rfl jB ?_;(with_reducible refine (Fe.calls k  g t297 t298 8 t303 t304 t305 w0 _ ?side1 ?side2 A16.out).mono ?_);(case side1=>repeat (with_reducible first|exact HI0.out|apply IsS48.alloc|apply IsS48.drewN|apply IsS48.drew|apply IsS48.set_0|apply IsS48.set_1|refine IsS48.far ?_ NB0_295.out _|refine IsS48.far ?_ NB0_299.out _));(case side2=>repeat (with_reducible first|exact HB.out|apply za|apply zb|apply zc|refine zd ?_ (IsS48.ge HI0.out)|refine zd ?_ GE295.out|refine zd ?_ GE299.out));rintro e w23 ⟨rfl,hi,hb,hk⟩;refine ⟨_,rfl,?_⟩;replace BK295:=zh (KeepBut.blk hk (g':=gb295) (o:=.cells #[.int .i64 0,.int .i64 0,.string (⟨#[]⟩ : ByteArray)] 24 (0,0)) jBG NB295_0.out (by simp));replace BK299:=zh (KeepBut.blk hk (g':=gb299) (o:=.cells #[.int .i64 t296,.int .i64 0,.string (⟨#[]⟩ : ByteArray)] 24 (0,0)) jBH NB299_0.out (by simp));replace HK:=zh (KeepBut.trans jAU hk (.inl rfl));replace HB:=zh (hb);replace HI0:=zh (hi);(try clear hb);(try clear hb2);(try clear hk);(try clear hi);obtain ⟨hcz24_0,hcz24_1,hcz24_2,hfz24_0,hfz24_1,hfz24_2⟩:=cB3 BK299.out;have hnb25:=NB295_0.out;have hnc25:=NB0_295.out;obtain ⟨hcz26_0,hcz26_1,hcz26_2,hfz26_0,hfz26_1,hfz26_2⟩:=cB3 BK295.out))
  refine bodyPost_ret (results_cell_row rfl _ _ gb295 24 #[.int .i64 t296,.int .i64 (wrap64 (t303 - 4611686018427387904)),.string (⟨#[]⟩ : ByteArray)] (0,0) _ rfl (by (with_reducible repeat first|apply ze|apply zf|apply zg);refine zL (cs:=#[.int .i64 t296,.int .i64 (wrap64 (t303 - 4611686018427387904)),.string (⟨#[]⟩ : ByteArray)]) ?_ 2 _ rfl;(with_reducible repeat first|apply ze|apply zf|apply zg);refine zL (cs:=#[.int .i64 t296,.int .i64 0,.string (⟨#[]⟩ : ByteArray)]) ?_ 1 _ rfl;(with_reducible repeat first|apply ze|apply zf|apply zg);refine zL (cs:=#[.int .i64 0,.int .i64 0,.string (⟨#[]⟩ : ByteArray)]) ?_ 0 _ rfl;(with_reducible repeat first|apply ze|apply zf|apply zg);refine zS ?_ NB295_299.out _;(with_reducible repeat first|apply ze|apply zf|apply zg);exact BK295.out) Try.underlying24 rfl jA) rfl ?_;exact ⟨jG,jAu,jAv,jAU⟩
 rw [if_neg c15] at H;have c15b0 : (t296 == 2)=false:=zY.mpr c15;have c15b1 : (t296 != 2)=true:=zZ.mpr c15;have HC27:=zh H;clear H
 go_enter Try.func57,Try.ntmps57
 go_upto_if 20 with (first|((with_reducible refine zK (N:=2) rfl ?_);refine zI ?hg (N:=2) ?hd (cs:=#[.int .i64 0,.int .i64 0,.string (⟨#[]⟩ : ByteArray)]) (t:=24) ?hr ?_;(case hd=>rfl);(case hg=>rfl);(case hr=>go_simp <;> rfl);intro gb295 hg w28 hbox hb;replace HB:=zh (zC jV hb);have BK295:=zh (hbox);have GW295:=zh ((jAV : w.heap.size≤gb295));have GE295:=zh ((Nat.le_trans HW0.out (jAV : w.heap.size≤gb295) : w0.heap.size≤gb295));replace HK:=zh (KeepBut.trans jI (KeepBut.of_below hb g none) (.inl rfl));have NB0_295:=zh ((jBv : g≠gb295));have NB295_0:=zh ((jBw : gb295≠g));replace HI0:=zh (IsS48.below jW hb);clear hb hbox hg)|((with_reducible refine zJ (f:=47) rfl ?_);refine yj (some 5) rfl rfl Try.func47 jA rfl #[.pointer (some ⟨g,0,none⟩),.int .i64 1] rfl jB ?_;(with_reducible refine (Fe.calls k  g s0_0 s0_1 1 t296 t297 t298 w0 _ ?side1 ?side2 A2.out).mono ?_);(case side1=>repeat (with_reducible first|exact HI0.out|apply IsS48.alloc|apply IsS48.drewN|apply IsS48.drew|apply IsS48.set_0|apply IsS48.set_1|refine IsS48.far ?_ NB0_295.out _));(case side2=>repeat (with_reducible first|exact HB.out|apply za|apply zb|apply zc|refine zd ?_ (IsS48.ge HI0.out)|refine zd ?_ GE295.out));rintro e w29 ⟨rfl,hi,hb,hk⟩;refine ⟨_,rfl,?_⟩;replace BK295:=zh (KeepBut.blk hk (g':=gb295) (o:=.cells #[.int .i64 0,.int .i64 0,.string (⟨#[]⟩ : ByteArray)] 24 (0,0)) jAb NB295_0.out (by simp));replace HK:=zh (KeepBut.trans jAt hk (.inl rfl));replace HB:=zh (hb);replace HI0:=zh (hi);(try clear hb);(try clear hb2);(try clear hk);(try clear hi))|((with_reducible refine zK (N:=3) rfl ?_);refine zI ?hg (N:=3) ?hd (cs:=#[.int .i64 0,.int .i64 0,.string (⟨#[]⟩ : ByteArray)]) (t:=24) ?hr ?_;(case hd=>rfl);(case hg=>rfl);(case hr=>go_simp <;> rfl);intro gb299 hg w30 hbox hb;replace HB:=zh (zC jBx hb);have BK299:=zh (hbox);have GW299:=zh ((jA6 : w.heap.size≤gb299));have GE299:=zh ((Nat.le_trans HW0.out (jA6 : w.heap.size≤gb299) : w0.heap.size≤gb299));replace HK:=zh (KeepBut.trans jAt (KeepBut.of_below hb g none) (.inl rfl));have NB295_299:=zh ((jBy : gb295≠gb299));have NB299_295:=zh NB295_299.out.symm;replace BK295:=zh (cD BK295.out jAb hb);have NB0_299:=zh ((jBz : g≠gb299));have NB299_0:=zh ((jB0 : gb299≠g));replace HI0:=zh (IsS48.below jB1 hb);clear hb hbox hg;have hnb31:=NB299_295.out;have hnc31:=NB295_299.out;have hnb32:=NB299_0.out;have hnc32:=NB0_299.out;obtain ⟨hcz33_0,hcz33_1,hcz33_2,hfz33_0,hfz33_1,hfz33_2⟩:=cB3 BK299.out))
 (try simp only [Act.put,zi,zj,zk])
 go_cut [20] (fun v20 wc => ∃ (kq : Nat) (x20_26 : Bool),v20 = .bool x20_26∧Aside0 (Fl.j0 kq x20_26 t297 t298 t296 0 (⟨#[]⟩ : ByteArray)=some (r1,r2,r3,r4,r5))∧Aside0 (kq≤k)∧Aside0 (wc.heap[gb295]? = some (.cells #[.int .i64 0,.int .i64 0,.string (⟨#[]⟩ : ByteArray)] 24 (0,0)))∧Aside0 (wc.heap[gb299]? = some (.cells #[.int .i64 t296,.int .i64 0,.string (⟨#[]⟩ : ByteArray)] 24 (0,0)))∧Aside0 (IsS48 w0 wc g t297 t298)∧Aside0 (KeepBut w wc g none)∧Aside0 (Below w0.heap.size w0 wc))
 case first =>
  have H:=HC27.out;clear HC27
  by_cases c34 : t296=3
  ·
   rw [if_pos c34] at H
   have c34b0 : (t296 == 3)=true:=ya.mpr c34;have c34b1 : (t296 != 3)=false:=zX.mpr c34;clear c34;(first|rw [c34b0]|(simp only [zG,zH];rw [c34b0])|skip);have H':=zh H;clear H
   go_wp2
   go_meet
   case rel=>exact ⟨_,((t296 == 3)),jE,H',⟨jg⟩,⟨jBG⟩,⟨jBH⟩,⟨jAu⟩,⟨jAU⟩,⟨jAv⟩⟩
  rw [if_neg c34] at H;have c34b0 : (t296 == 3)=false:=zY.mpr c34;have c34b1 : (t296 != 3)=true:=zZ.mpr c34;(first|rw [c34b0]|(simp only [zG,zH];rw [c34b0])|skip)
  by_cases c35 : t296=4
  ·
   rw [if_pos c35] at H
   have c35b0 : (t296 == 4)=true:=ya.mpr c35;have c35b1 : (t296 != 4)=false:=zX.mpr c35;clear c35;have H':=zh H;clear H
   go_wp2
   go_meet
   case rel=>exact ⟨_,((t296 == 4)),jE,H',⟨jg⟩,⟨jBG⟩,⟨jBH⟩,⟨jAu⟩,⟨jAU⟩,⟨jAv⟩⟩
  rw [if_neg c35] at H;have c35b0 : (t296 == 4)=false:=zY.mpr c35;have c35b1 : (t296 != 4)=true:=zZ.mpr c35;have H':=zh H;clear H
  go_wp2
  go_meet
  case rel=>exact ⟨_,((t296 == 5)),jE,H',⟨jg⟩,⟨jBG⟩,⟨jBH⟩,⟨jAu⟩,⟨jAU⟩,⟨jAv⟩⟩
 case rest =>
  clear HC27
  try clear c1 c2
  try clear p2
  try clear c3 c3b0 c3b1 c4 c5
  try clear p6
  try clear c8 c9 c13 c15 c15b0 c15b1 c20 c21 c25 c31 c32 c34 c34b0 c34b1 c35 c35b0 c35b1
  try clear hcz10_0 hcz10_1 hcz10_2
  try clear hcz12_0 hcz12_1 hcz12_2
  try clear hcz14_0 hcz14_1 hcz14_2
  try clear hcz22_0 hcz22_1 hcz22_2
  try clear hcz24_0 hcz24_1 hcz24_2
  try clear hcz26_0 hcz26_1 hcz26_2
  try clear hcz33_0 hcz33_1 hcz33_2
  try clear hfz10_0 hfz10_1 hfz10_2
  try clear hfz12_0 hfz12_1 hfz12_2
  try clear hfz14_0 hfz14_1 hfz14_2
  try clear hfz22_0 hfz22_1 hfz22_2
  try clear hfz24_0 hfz24_1 hfz24_2
  try clear hfz26_0 hfz26_1 hfz26_2
  try clear hfz33_0 hfz33_1 hfz33_2
  obtain ⟨kq,x20_26,rfl,HA,HJ26,BK295,BK299,HI0,HK,HB⟩:=hcut
  cases kq with
  | zero=>exact absurd HA.out (by simp [Fl.j0])
  | succ kj26 =>
   have H:=HA.out;clear HA;simp only [Fl.j0] at H
   by_cases c36 : x20_26=true
   ·
    subst c36
    rw [if_pos rfl] at H;replace H:=zT.mp H;obtain ⟨⟨t306,t307,t308⟩,A370,H⟩:=H;have A37:=zh A370;clear A370;replace H:=zT.mp H;obtain ⟨⟨t309,t310,t311⟩,A380,H⟩:=H;have A38:=zh A380;clear A380;simp only [Option.some.injEq,Prod.mk.injEq] at H;obtain ⟨rfl,rfl,rfl,rfl,rfl⟩:=H
    go_wp2_with (first|((with_reducible refine zJ (f:=47) rfl ?_);refine yj (some 26) rfl rfl Try.func47 jA rfl #[.pointer (some ⟨g,0,none⟩),.int .i64 2] rfl jB ?_;(with_reducible refine (Fe.calls kj26  g t297 t298 2 t306 t307 t308 w0 _ ?side1 ?side2 A37.out).mono ?_);(case side1=>repeat (with_reducible first|exact HI0.out|apply IsS48.alloc|apply IsS48.drewN|apply IsS48.drew|apply IsS48.set_0|apply IsS48.set_1|refine IsS48.far ?_ NB0_295.out _|refine IsS48.far ?_ NB0_299.out _));(case side2=>repeat (with_reducible first|exact HB.out|apply za|apply zb|apply zc|refine zd ?_ (IsS48.ge HI0.out)|refine zd ?_ GE295.out|refine zd ?_ GE299.out));rintro e w39 ⟨rfl,hi,hb,hk⟩;refine ⟨_,rfl,?_⟩;replace BK295:=zh (KeepBut.blk hk (g':=gb295) (o:=.cells #[.int .i64 0,.int .i64 0,.string (⟨#[]⟩ : ByteArray)] 24 (0,0)) jAb NB295_0.out (by simp));replace BK299:=zh (KeepBut.blk hk (g':=gb299) (o:=.cells #[.int .i64 t296,.int .i64 0,.string (⟨#[]⟩ : ByteArray)] 24 (0,0)) jCo NB299_0.out (by simp));replace HK:=zh (KeepBut.trans jAU hk (.inl rfl));replace HB:=zh (hb);replace HI0:=zh (hi);(try clear hb);(try clear hb2);(try clear hk);(try clear hi))|((with_reducible refine zJ (f:=48) rfl ?_);refine yj (some 27) rfl rfl Try.func48 jA rfl #[.pointer (some ⟨g,0,none⟩),.int .i64 t306] rfl jB ?_;(with_reducible refine (Fr.calls  g t307 t308 t306 t309 t310 t311 w0 _ ?side1 ?side2 A38.out).mono ?_);(case side1=>repeat (with_reducible first|exact HI0.out|apply IsS48.alloc|apply IsS48.drewN|apply IsS48.drew|apply IsS48.set_0|apply IsS48.set_1|refine IsS48.far ?_ NB0_295.out _|refine IsS48.far ?_ NB0_299.out _));(case side2=>repeat (with_reducible first|exact HB.out|apply za|apply zb|apply zc|refine zd ?_ (IsS48.ge HI0.out)|refine zd ?_ GE295.out|refine zd ?_ GE299.out));rintro e w40 ⟨rfl,hi,hb,hk⟩;refine ⟨_,rfl,?_⟩;replace BK295:=zh (KeepBut.blk hk (g':=gb295) (o:=.cells #[.int .i64 0,.int .i64 0,.string (⟨#[]⟩ : ByteArray)] 24 (0,0)) jAb NB295_0.out (by simp));replace BK299:=zh (KeepBut.blk hk (g':=gb299) (o:=.cells #[.int .i64 t296,.int .i64 0,.string (⟨#[]⟩ : ByteArray)] 24 (0,0)) jCo NB299_0.out (by simp));replace HK:=zh (KeepBut.trans jAU hk (.inl rfl));replace HB:=zh (hb);replace HI0:=zh (hi);(try clear hb);(try clear hb2);(try clear hk);(try clear hi);have hnb41:=NB299_295.out;have hnc41:=NB295_299.out;have hnb42:=NB299_0.out;have hnc42:=NB0_299.out;obtain ⟨hcz43_0,hcz43_1,hcz43_2,hfz43_0,hfz43_1,hfz43_2⟩:=cB3 BK299.out;have hnb44:=NB295_0.out;have hnc44:=NB0_295.out;obtain ⟨hcz45_0,hcz45_1,hcz45_2,hfz45_0,hfz45_1,hfz45_2⟩:=cB3 BK295.out))
    refine bodyPost_ret (results_cell_row rfl _ _ gb295 24 #[.int .i64 t296,.int .i64 0,.string t309] (0,0) _ rfl (by (with_reducible repeat first|apply ze|apply zf|apply zg);refine zL (cs:=#[.int .i64 t296,.int .i64 0,.string (⟨#[]⟩ : ByteArray)]) ?_ 2 _ rfl;(with_reducible repeat first|apply ze|apply zf|apply zg);refine zL (cs:=#[.int .i64 t296,.int .i64 0,.string (⟨#[]⟩ : ByteArray)]) ?_ 1 _ rfl;(with_reducible repeat first|apply ze|apply zf|apply zg);refine zL (cs:=#[.int .i64 0,.int .i64 0,.string (⟨#[]⟩ : ByteArray)]) ?_ 0 _ rfl;(with_reducible repeat first|apply ze|apply zf|apply zg);refine zS ?_ NB295_299.out _;(with_reducible repeat first|apply ze|apply zf|apply zg);exact BK295.out) Try.underlying24 rfl jA) rfl ?_;exact ⟨jG,jAu,jAv,jAU⟩
   replace c36:=yb.mpr c36;subst c36;rw [if_neg (show ¬ (false=true) by decide)] at H;simp only [Option.some.injEq,Prod.mk.injEq] at H;obtain ⟨rfl,rfl,rfl,rfl,rfl⟩:=H;have hnb46:=NB299_295.out;have hnc46:=NB295_299.out;have hnb47:=NB299_0.out;have hnc47:=NB0_299.out;obtain ⟨hcz48_0,hcz48_1,hcz48_2,hfz48_0,hfz48_1,hfz48_2⟩:=cB3 BK299.out;have hnb49:=NB295_0.out;have hnc49:=NB0_295.out;obtain ⟨hcz50_0,hcz50_1,hcz50_2,hfz50_0,hfz50_1,hfz50_2⟩:=cB3 BK295.out
   go_wp2
   refine bodyPost_ret (results_cell_row rfl _ _ gb295 24 #[.int .i64 t296,.int .i64 0,.string (⟨#[]⟩ : ByteArray)] (0,0) _ rfl (by (with_reducible repeat first|apply ze|apply zf|apply zg);refine zL (cs:=#[.int .i64 t296,.int .i64 0,.string (⟨#[]⟩ : ByteArray)]) ?_ 2 _ rfl;(with_reducible repeat first|apply ze|apply zf|apply zg);refine zL (cs:=#[.int .i64 t296,.int .i64 0,.string (⟨#[]⟩ : ByteArray)]) ?_ 1 _ rfl;(with_reducible repeat first|apply ze|apply zf|apply zg);refine zL (cs:=#[.int .i64 0,.int .i64 0,.string (⟨#[]⟩ : ByteArray)]) ?_ 0 _ rfl;(with_reducible repeat first|apply ze|apply zf|apply zg);exact BK295.out) Try.underlying24 rfl jA) rfl ?_;exact ⟨jG,jAu,jAv,jAU⟩


def Fa.l0 : Nat→List (S24)→ByteArray→Bool→Option ((List (S24))×Bool)
 | 0,_,_,_=>none
 | k+1,x5,x314000,x314001=>if x314000.toList=([] : List UInt8) then (some (x5,!x314001)) else (if x314001=true then (some (x5,!x314001)) else ((Fl.f k x314000 x314001).bind fun bt317=>(if x5.length<4398046511104 then (Fa.l0 k (x5 ++ [(⟨bt317.1,bt317.2.1,bt317.2.2.1⟩ : S24)]) bt317.2.2.2.1 bt317.2.2.2.2) else (none))))
def Fa.f (k : Nat) (a0_0 : Int) (a0_1 : Int) (a0_2 : ByteArray) : Option ((List (S24))×Bool):=Fa.l0 k (([] : List (S24))) a0_2 false
theorem Fa.mono_l : ∀ k,(∀ y0 y1 y2,LeO (Fa.l0 k y0 y1 y2) (Fa.l0 (k+1) y0 y1 y2))
 | 0=>fun _ _ _ r h=>by simp [Fa.l0] at h
 | k+1=>by
  have ih0:=Fa.mono_l k;intro y0 y1 y2;unfold Fa.l0
  repeat' first|(with_reducible first|exact ih0 _ _ _|exact Fl.mono _ _ _|exact zQ _|exact zN _|refine zP ?_ ?_|refine zO ?_ (fun _=>?_))|refine zP ?_ ?_|refine zO ?_ (fun _=>?_)
theorem Fa.mono : ∀ a0 a1 a2 k,LeO (Fa.f k a0 a1 a2) (Fa.f (k+1) a0 a1 a2):=by
 intro a0 a1 a2 k;have ih0:=Fa.mono_l k;unfold Fa.f
 repeat' first|(with_reducible first|exact ih0 _ _ _|exact Fl.mono _ _ _|exact zQ _|exact zN _|refine zP ?_ ?_|refine zO ?_ (fun _=>?_))|refine zP ?_ ?_|refine zO ?_ (fun _=>?_)
set_option maxHeartbeats 8000000 in
set_option maxRecDepth 100000 in
theorem Fa.calls (k : Nat) (a0_0 : Int) (a0_1 : Int) (a0_2 : ByteArray) (r1 : List (S24)) (r2 : Bool) (w : World) (h : Fa.f k a0_0 a0_1 a0_2=some (r1,r2)) :
  Calls Try.prog 33 #[.agg #[.int .i64 a0_0,.int .i64 a0_1,.string a0_2]] w fun e w' => ∃ v0_ : Value,e = .returned (.tuple #[v0_,.bool r2])∧Kd.R k24 24 w' w.heap.size (fun _=>True) v0_ r1∧Below w.heap.size w w':=by
 have hu24:=Try.underlying24;have hu48:=Try.underlying48;have HB:=zh (Below.refl w.heap.size w);have H : (Fa.l0 k (([] : List (S24))) a0_2 false)=some (r1,r2):=h;clear h;obtain ⟨y314,hy314⟩ : ∃ y_ : List (S24),y_=(([] : List (S24))):=⟨_,rfl⟩;replace H : (Fa.l0 k y314 a0_2 false)=some (r1,r2):=by first|(rw [hy314];with_reducible exact H)|(have H2_:=(Option.bind_some _ _).symm.trans H;rw [hy314];with_reducible exact H2_)|(have H2_:=(Option.bind_some _ _).symm.trans H;with_reducible exact H2_)|with_reducible exact H|(rw [hy314];exact H)|exact H
 have Ny314:=zh hy314;clear hy314;have H':=zh H;clear H
 go_enter Try.func33,Try.ntmps33
 go_wp2_with (first|((with_reducible refine zK (N:=1) rfl ?_);refine zI ?hg (N:=1) ?hd (cs:=#[.int .i64 a0_0,.int .i64 a0_1,.string a0_2]) (t:=24) ?hr ?_;(case hd=>rfl);(case hg=>rfl);(case hr=>go_simp <;> rfl);intro gb312 hg w2 hbox hb;have BK312:=zh (hbox);have hH_:=cH jD hb hg;have GW312:=zh hH_.1;have GE312:=GW312;replace HB:=zh hH_.2;clear hb hbox hg hH_;obtain ⟨hcz3_0,hcz3_1,hcz3_2,hfz3_0,hfz3_1,hfz3_2⟩:=cB3 BK312.out)|((with_reducible refine zK (N:=9) rfl ?_);refine zI ?hg (N:=9) ?hd (cs:=#[.string a0_2,.bool false]) (t:=48) ?hr ?_;(case hd=>rfl);(case hg=>rfl);(case hr=>go_simp <;> rfl);intro gb313 hg w4 hbox hb;have BK313:=zh (hbox);have hH_:=cH jB2 hb hg;have GW313:=zh hH_.1;have GE313:=GW313;replace HB:=zh hH_.2;have NB312_313:=zh ((jB3 : gb312≠gb313));have NB313_312:=zh NB312_313.out.symm;replace BK312:=zh (cD BK312.out jq hb);clear hb hbox hg hH_)|((with_reducible refine zK (N:=10) rfl ?_);refine Kd.R_lit k24 _ 24 ?hg (N:=10) ?hd (xs:=([] : List (S24))) (inner:=[]) (ok:=fun _=>True) (okp:=fun _=>True) ?hr ?hp (fun _ hk=>hk) trivial (Below.refl _ _) (ye _) (by simp) ?_;(case hd=>rfl);(case hg=>rfl);(case hr=>go_simp <;> rfl);(case hp=>exact (Reps.none _ _));intro v315 w5 ho6 hb hg_ hnew_;clear hg_ hnew_;(first|rw [← Ny314.out] at ho6|(simp only [Int.reduceToNat] at ho6;rw [← Ny314.out] at ho6));have HO316:=zh (yy (Kd.R_newB ho6 (g:=gb312) (o:=.cells #[.int .i64 a0_0,.int .i64 a0_1,.string a0_2] 24 (0,0)) jq) (zB jw));replace BK312:=zh (cD BK312.out jq hb);replace BK313:=zh (cD BK313.out jAi hb);replace HB:=zh (zC jw hb);clear hb ho6))
 repeat (go_quiet (first|((with_reducible refine zK (N:=1) rfl ?_);refine zI ?hg (N:=1) ?hd (cs:=#[.int .i64 a0_0,.int .i64 a0_1,.string a0_2]) (t:=24) ?hr ?_;(case hd=>rfl);(case hg=>rfl);(case hr=>go_simp <;> rfl);intro gb312 hg w2 hbox hb;have BK312:=zh (hbox);have hH_:=cH jD hb hg;have GW312:=zh hH_.1;have GE312:=GW312;replace HB:=zh hH_.2;clear hb hbox hg hH_;obtain ⟨hcz3_0,hcz3_1,hcz3_2,hfz3_0,hfz3_1,hfz3_2⟩:=cB3 BK312.out)|((with_reducible refine zK (N:=9) rfl ?_);refine zI ?hg (N:=9) ?hd (cs:=#[.string a0_2,.bool false]) (t:=48) ?hr ?_;(case hd=>rfl);(case hg=>rfl);(case hr=>go_simp <;> rfl);intro gb313 hg w4 hbox hb;have BK313:=zh (hbox);have hH_:=cH jB2 hb hg;have GW313:=zh hH_.1;have GE313:=GW313;replace HB:=zh hH_.2;have NB312_313:=zh ((jB3 : gb312≠gb313));have NB313_312:=zh NB312_313.out.symm;replace BK312:=zh (cD BK312.out jq hb);clear hb hbox hg hH_)|((with_reducible refine zK (N:=10) rfl ?_);refine Kd.R_lit k24 _ 24 ?hg (N:=10) ?hd (xs:=([] : List (S24))) (inner:=[]) (ok:=fun _=>True) (okp:=fun _=>True) ?hr ?hp (fun _ hk=>hk) trivial (Below.refl _ _) (ye _) (by simp) ?_;(case hd=>rfl);(case hg=>rfl);(case hr=>go_simp <;> rfl);(case hp=>exact (Reps.none _ _));intro v315 w5 ho6 hb hg_ hnew_;clear hg_ hnew_;(first|rw [← Ny314.out] at ho6|(simp only [Int.reduceToNat] at ho6;rw [← Ny314.out] at ho6));have HO316:=zh (yy (Kd.R_newB ho6 (g:=gb312) (o:=.cells #[.int .i64 a0_0,.int .i64 a0_1,.string a0_2] 24 (0,0)) jq) (zB jw));replace BK312:=zh (cD BK312.out jq hb);replace BK313:=zh (cD BK313.out jAi hb);replace HB:=zh (zC jw hb);clear hb ho6));try go_wp2_with (first|((with_reducible refine zK (N:=1) rfl ?_);refine zI ?hg (N:=1) ?hd (cs:=#[.int .i64 a0_0,.int .i64 a0_1,.string a0_2]) (t:=24) ?hr ?_;(case hd=>rfl);(case hg=>rfl);(case hr=>go_simp <;> rfl);intro gb312 hg w2 hbox hb;have BK312:=zh (hbox);have hH_:=cH jD hb hg;have GW312:=zh hH_.1;have GE312:=GW312;replace HB:=zh hH_.2;clear hb hbox hg hH_;obtain ⟨hcz3_0,hcz3_1,hcz3_2,hfz3_0,hfz3_1,hfz3_2⟩:=cB3 BK312.out)|((with_reducible refine zK (N:=9) rfl ?_);refine zI ?hg (N:=9) ?hd (cs:=#[.string a0_2,.bool false]) (t:=48) ?hr ?_;(case hd=>rfl);(case hg=>rfl);(case hr=>go_simp <;> rfl);intro gb313 hg w4 hbox hb;have BK313:=zh (hbox);have hH_:=cH jB2 hb hg;have GW313:=zh hH_.1;have GE313:=GW313;replace HB:=zh hH_.2;have NB312_313:=zh ((jB3 : gb312≠gb313));have NB313_312:=zh NB312_313.out.symm;replace BK312:=zh (cD BK312.out jq hb);clear hb hbox hg hH_)|((with_reducible refine zK (N:=10) rfl ?_);refine Kd.R_lit k24 _ 24 ?hg (N:=10) ?hd (xs:=([] : List (S24))) (inner:=[]) (ok:=fun _=>True) (okp:=fun _=>True) ?hr ?hp (fun _ hk=>hk) trivial (Below.refl _ _) (ye _) (by simp) ?_;(case hd=>rfl);(case hg=>rfl);(case hr=>go_simp <;> rfl);(case hp=>exact (Reps.none _ _));intro v315 w5 ho6 hb hg_ hnew_;clear hg_ hnew_;(first|rw [← Ny314.out] at ho6|(simp only [Int.reduceToNat] at ho6;rw [← Ny314.out] at ho6));have HO316:=zh (yy (Kd.R_newB ho6 (g:=gb312) (o:=.cells #[.int .i64 a0_0,.int .i64 a0_1,.string a0_2] 24 (0,0)) jq) (zB jw));replace BK312:=zh (cD BK312.out jq hb);replace BK313:=zh (cD BK313.out jAi hb);replace HB:=zh (zC jw hb);clear hb ho6)))
 go_loopg [5] k (fun kq v5 w' => ∃ (x5_1 : List (S24)) (x314000_1 : ByteArray) (x314001_1 : Bool),Aside0 (Fa.l0 kq x5_1 x314000_1 x314001_1=some (r1,r2))∧Aside0 (kq≤k)∧Aside0 (Kd.R k24 24 w' w.heap.size (fun k_=>k_≠gb312) v5 x5_1)∧Aside0 (w'.heap[gb312]? = some (.cells #[.int .i64 a0_0,.int .i64 a0_1,.string a0_2] 24 (0,0)))∧Aside0 (w'.heap[gb313]? = some (.cells #[.string x314000_1,.bool x314001_1] 48 (0,0)))∧Aside0 (Below w.heap.size w w'))
 case atStart=>exact ⟨(y314),(a0_2),(false),H',⟨ye _⟩,⟨by (with_reducible repeat (first|apply zm|apply zn|apply zo));exact zM HO316.out (fun _ hk=>hk.2)⟩,⟨jq⟩,⟨jAi⟩,⟨jw⟩⟩
 case round =>
  clear H'
  try clear p2
  try clear c3
  try clear hcz3_0 hcz3_1 hcz3_2 hfz3_0 hfz3_1 hfz3_2
  obtain ⟨x5_1,x314000_1,x314001_1,HA,HK1,HO_5,BK312,BK313,HB⟩:=hrel
  cases gk with
  | zero=>exact absurd HA.out (by simp [Fa.l0])
  | succ k1 =>
   have H:=HA.out;clear HA;simp only [Fa.l0] at H
   by_cases c7 : x314000_1.toList=([] : List UInt8)
   ·
    rw [if_pos c7] at H
    have c7b0 : (x314000_1.toList == ([] : List UInt8))=true:=ya.mpr c7;have c7b1 : (x314000_1.toList != ([] : List UInt8))=false:=zX.mpr c7;clear c7;simp only [Option.some.injEq,Prod.mk.injEq] at H;obtain ⟨rfl,rfl⟩:=H;have hnb8:=NB313_312.out;have hnc8:=NB312_313.out;obtain ⟨hcz9_0,hcz9_1,hfz9_0,hfz9_1⟩:=cB2 BK313.out
    go_wp2
    repeat (go_quiet (fail);try go_wp2)
    go_ret2
    exact ⟨_,jG,jCp,jw⟩
   rw [if_neg c7] at H;have c7b0 : (x314000_1.toList == ([] : List UInt8))=false:=zY.mpr c7;have c7b1 : (x314000_1.toList != ([] : List UInt8))=true:=zZ.mpr c7
   by_cases c10 : x314001_1=true
   ·
    subst c10
    rw [if_pos rfl] at H;simp only [Option.some.injEq,Prod.mk.injEq] at H;obtain ⟨rfl,rfl⟩:=H;have hnb11:=NB313_312.out;have hnc11:=NB312_313.out;obtain ⟨hcz12_0,hcz12_1,hfz12_0,hfz12_1⟩:=cB2 BK313.out
    go_wp2
    repeat (go_quiet (fail);try go_wp2)
    go_ret2
    exact ⟨_,jG,jCp,jw⟩
   replace c10:=yb.mpr c10;subst c10;rw [if_neg (show ¬ (false=true) by decide)] at H;replace H:=zT.mp H;obtain ⟨⟨t317,t318,t319,t320,t321⟩,A130,H⟩:=H;have A13:=zh A130;clear A130
   by_cases c14 : x5_1.length<4398046511104
   ·
    rw [if_pos c14] at H
    have LMc14:=zh c14;clear c14;obtain ⟨y322,hy322⟩ : ∃ y_ : List (S24),y_=(x5_1 ++ [(⟨t317,t318,t319⟩ : S24)]):=⟨_,rfl⟩;replace H : (Fa.l0 k1 y322 t320 t321)=some (r1,r2):=by first|(rw [hy322];with_reducible exact H)|(have H2_:=(Option.bind_some _ _).symm.trans H;rw [hy322];with_reducible exact H2_)|(have H2_:=(Option.bind_some _ _).symm.trans H;with_reducible exact H2_)|with_reducible exact H|(rw [hy322];exact H)|exact H
    have Ny322:=zh hy322;clear hy322;have H':=zh H;clear H;have hnb15:=NB313_312.out;have hnc15:=NB312_313.out;obtain ⟨hcz16_0,hcz16_1,hfz16_0,hfz16_1⟩:=cB2 BK313.out;have HI313:=zh (show IsS48 w wr gb313 x314000_1 false from ⟨BK313.out,GE313.out⟩)
    go_wp2_with (first|(go_at_call 57;(with_reducible refine (Fl.calls k1  gb313 x314000_1 false t317 t318 t319 t320 t321 w _ ?side1 ?side2 A13.out).mono ?_);(case side1=>repeat (with_reducible first|exact HI313.out|apply IsS48.alloc|apply IsS48.drewN|apply IsS48.drew|apply IsS48.set_0|apply IsS48.set_1|refine IsS48.far ?_ NB313_312.out _));(case side2=>repeat (with_reducible first|exact HB.out|apply za|apply zb|apply zc|refine zd ?_ (IsS48.ge HI313.out)|refine zd ?_ GE312.out));rintro e w17 ⟨rfl,hi,hb,hk⟩;replace HO_5:=zh (zM (Kd.R_keep (IsS48.apart (show IsS48 w _ gb313 x314000_1 false from by repeat (with_reducible first|exact HI313.out|apply IsS48.alloc|apply IsS48.drewN|apply IsS48.drew|apply IsS48.set_0|apply IsS48.set_1|refine IsS48.far ?_ NB313_312.out _)) jM jC) hk (fun _ h=>h.2)) (fun _ h=>h.1));replace BK312:=zh (KeepBut.blk hk (g':=gb312) (o:=.cells #[.int .i64 a0_0,.int .i64 a0_1,.string a0_2] 24 (0,0)) jq NB312_313.out (by simp));replace HB:=zh (hb);replace BK313:=zh ((show _∧_ from hi).1);clear HI313;(try clear hb);(try clear hb2);(try clear hk);(try clear hi))|((with_reducible refine yB (b:=.append) (xs:=#[.tmp 23,.tmp 26]) rfl ?_);at_builtin;refine Kd.R_append k24 (w0:=w) w.heap.size rfl (.tmp 23) (.tmp 26) 55 24 (.agg #[(.int .i64 0),(.int .i64 0),(.string ⟨#[]⟩)]) 32 rfl Try.underlying55 info24 rfl jC jH u5 x5_1 (⟨t317,t318,t319⟩ : S24) [.int .i64 t317,.int .i64 t318,.string t319] (fun k_=>k_≠gb312) (fun _=>False) rfl rfl ?aP (fun _ hk=>hk.elim) ?aF ?aO ?aB ?aS ?aL ?_;(case aP=>exact k24_mkM _ _ _ (⟨t317,t318,t319⟩ : S24));(case aB=>exact jw);(case aF=>exact (fun k_ hk=>Kd.freshB (g:=gb312) (o:=.cells #[.int .i64 a0_0,.int .i64 a0_1,.string a0_2] 24 (0,0)) jq k_ hk));(case aO=>exact jM);(case aS=>exact (zB jw));(case aL=>have:=LMc14.out;omega);intro v323 w18 ho hb hg hat;rw [← Ny322.out] at ho;replace BK312:=zh (yw (g:=gb312) (o:=.cells #[.int .i64 a0_0,.int .i64 a0_1,.string a0_2] 24 (0,0)) jq hg (yv HO_5.out (fun _ hk=>hk)));replace BK313:=zh (yw (g:=gb313) (o:=.cells #[.string t320,.bool t321] 48 (0,0)) jAi hg (Kd.R_ne HO_5.out BK313.out jC));replace HB:=zh (hb);have HO324:=zh (ho);clear HO_5 ho hb hg hat))
    repeat (go_quiet (first|(go_at_call 57;(with_reducible refine (Fl.calls k1  gb313 x314000_1 false t317 t318 t319 t320 t321 w _ ?side1 ?side2 A13.out).mono ?_);(case side1=>repeat (with_reducible first|exact HI313.out|apply IsS48.alloc|apply IsS48.drewN|apply IsS48.drew|apply IsS48.set_0|apply IsS48.set_1|refine IsS48.far ?_ NB313_312.out _));(case side2=>repeat (with_reducible first|exact HB.out|apply za|apply zb|apply zc|refine zd ?_ (IsS48.ge HI313.out)|refine zd ?_ GE312.out));rintro e w17 ⟨rfl,hi,hb,hk⟩;replace HO_5:=zh (zM (Kd.R_keep (IsS48.apart (show IsS48 w _ gb313 x314000_1 false from by repeat (with_reducible first|exact HI313.out|apply IsS48.alloc|apply IsS48.drewN|apply IsS48.drew|apply IsS48.set_0|apply IsS48.set_1|refine IsS48.far ?_ NB313_312.out _)) jM jC) hk (fun _ h=>h.2)) (fun _ h=>h.1));replace BK312:=zh (KeepBut.blk hk (g':=gb312) (o:=.cells #[.int .i64 a0_0,.int .i64 a0_1,.string a0_2] 24 (0,0)) jq NB312_313.out (by simp));replace HB:=zh (hb);replace BK313:=zh ((show _∧_ from hi).1);clear HI313;(try clear hb);(try clear hb2);(try clear hk);(try clear hi))|((with_reducible refine yB (b:=.append) (xs:=#[.tmp 23,.tmp 26]) rfl ?_);at_builtin;refine Kd.R_append k24 (w0:=w) w.heap.size rfl (.tmp 23) (.tmp 26) 55 24 (.agg #[(.int .i64 0),(.int .i64 0),(.string ⟨#[]⟩)]) 32 rfl Try.underlying55 info24 rfl jC jH u5 x5_1 (⟨t317,t318,t319⟩ : S24) [.int .i64 t317,.int .i64 t318,.string t319] (fun k_=>k_≠gb312) (fun _=>False) rfl rfl ?aP (fun _ hk=>hk.elim) ?aF ?aO ?aB ?aS ?aL ?_;(case aP=>exact k24_mkM _ _ _ (⟨t317,t318,t319⟩ : S24));(case aB=>exact jw);(case aF=>exact (fun k_ hk=>Kd.freshB (g:=gb312) (o:=.cells #[.int .i64 a0_0,.int .i64 a0_1,.string a0_2] 24 (0,0)) jq k_ hk));(case aO=>exact jM);(case aS=>exact (zB jw));(case aL=>have:=LMc14.out;omega);intro v323 w18 ho hb hg hat;rw [← Ny322.out] at ho;replace BK312:=zh (yw (g:=gb312) (o:=.cells #[.int .i64 a0_0,.int .i64 a0_1,.string a0_2] 24 (0,0)) jq hg (yv HO_5.out (fun _ hk=>hk)));replace BK313:=zh (yw (g:=gb313) (o:=.cells #[.string t320,.bool t321] 48 (0,0)) jAi hg (Kd.R_ne HO_5.out BK313.out jC));replace HB:=zh (hb);have HO324:=zh (ho);clear HO_5 ho hb hg hat));try go_wp2_with (first|(go_at_call 57;(with_reducible refine (Fl.calls k1  gb313 x314000_1 false t317 t318 t319 t320 t321 w _ ?side1 ?side2 A13.out).mono ?_);(case side1=>repeat (with_reducible first|exact HI313.out|apply IsS48.alloc|apply IsS48.drewN|apply IsS48.drew|apply IsS48.set_0|apply IsS48.set_1|refine IsS48.far ?_ NB313_312.out _));(case side2=>repeat (with_reducible first|exact HB.out|apply za|apply zb|apply zc|refine zd ?_ (IsS48.ge HI313.out)|refine zd ?_ GE312.out));rintro e w17 ⟨rfl,hi,hb,hk⟩;replace HO_5:=zh (zM (Kd.R_keep (IsS48.apart (show IsS48 w _ gb313 x314000_1 false from by repeat (with_reducible first|exact HI313.out|apply IsS48.alloc|apply IsS48.drewN|apply IsS48.drew|apply IsS48.set_0|apply IsS48.set_1|refine IsS48.far ?_ NB313_312.out _)) jM jC) hk (fun _ h=>h.2)) (fun _ h=>h.1));replace BK312:=zh (KeepBut.blk hk (g':=gb312) (o:=.cells #[.int .i64 a0_0,.int .i64 a0_1,.string a0_2] 24 (0,0)) jq NB312_313.out (by simp));replace HB:=zh (hb);replace BK313:=zh ((show _∧_ from hi).1);clear HI313;(try clear hb);(try clear hb2);(try clear hk);(try clear hi))|((with_reducible refine yB (b:=.append) (xs:=#[.tmp 23,.tmp 26]) rfl ?_);at_builtin;refine Kd.R_append k24 (w0:=w) w.heap.size rfl (.tmp 23) (.tmp 26) 55 24 (.agg #[(.int .i64 0),(.int .i64 0),(.string ⟨#[]⟩)]) 32 rfl Try.underlying55 info24 rfl jC jH u5 x5_1 (⟨t317,t318,t319⟩ : S24) [.int .i64 t317,.int .i64 t318,.string t319] (fun k_=>k_≠gb312) (fun _=>False) rfl rfl ?aP (fun _ hk=>hk.elim) ?aF ?aO ?aB ?aS ?aL ?_;(case aP=>exact k24_mkM _ _ _ (⟨t317,t318,t319⟩ : S24));(case aB=>exact jw);(case aF=>exact (fun k_ hk=>Kd.freshB (g:=gb312) (o:=.cells #[.int .i64 a0_0,.int .i64 a0_1,.string a0_2] 24 (0,0)) jq k_ hk));(case aO=>exact jM);(case aS=>exact (zB jw));(case aL=>have:=LMc14.out;omega);intro v323 w18 ho hb hg hat;rw [← Ny322.out] at ho;replace BK312:=zh (yw (g:=gb312) (o:=.cells #[.int .i64 a0_0,.int .i64 a0_1,.string a0_2] 24 (0,0)) jq hg (yv HO_5.out (fun _ hk=>hk)));replace BK313:=zh (yw (g:=gb313) (o:=.cells #[.string t320,.bool t321] 48 (0,0)) jAi hg (Kd.R_ne HO_5.out BK313.out jC));replace HB:=zh (hb);have HO324:=zh (ho);clear HO_5 ho hb hg hat)))
    go_roundg k1
    case measure=>have:=HK1.out;omega
    case rel=>exact ⟨(y322),(t320),(t321),H',⟨jN⟩,⟨by (with_reducible repeat (first|apply zm|apply zn|apply zo));exact HO324.out⟩,⟨jq⟩,⟨jAi⟩,⟨jw⟩⟩
   rw [if_neg c14] at H;exact absurd H (by simp)

end Go.Proofs.Ytdjnplkpahgnmaa.Q
end
