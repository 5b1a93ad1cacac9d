/- Texts of this claim, merged by a program of this session. -/
import Derived.Test.YthjgfjlogilleaaDoorKLawFnExactDefOKp22
import Derived.ProofKit
import Derived.OpenShut
import Derived.ShutString
import Derived.ChangeOld
import Derived.SizedLaws
import Derived.Deep.Slices
import Derived.Lib.SmallJoins
import Derived.Laws.Entries
section
namespace Go.Proofs.YthjgfjlogilleaaDoor.Q
open Go.RowKit Go.Proofs.YthjgfjlogilleaaDoorW.PrintWords Go.Proofs.YthjgfjlogilleaaDoorW.PrintLast Go.Proofs.YthjgfjlogilleaaDoorW.PrintMore
attribute [local go_sem] max2_int min2_int max_two min_two max_three min_three max_four min_four max2_str min2_str str_geq str_gtr str_leq
set_option linter.unusedVariables false
set_option linter.unusedSimpArgs false

def laws_FnExactDefOK.f (k : Nat) (a0_0 : ByteArray) (l0_1 : List (S73)) : Option (Bool):=(laws_szDef.f k a0_0 l0_1 1048576).bind fun t182 => (if t182<0 then (some true) else ((laws_toDef.f k a0_0 l0_1).bind fun bt183 => ((spec_DefOK.f k bt183.1 bt183.2).bind fun t187 => ((laws_toDef.f k a0_0 l0_1).bind fun bt188 => ((impl_DefOK.f k bt188.1 bt188.2).bind fun t193 => (if (t193 != t187)=true then (some false) else ((laws_toDef.f k a0_0 l0_1).bind fun bt194 => ((laws_eqDef.f k bt188.1 bt188.2 bt194.1 bt194.2).bind fun t198 => (if t198=true then (some true) else (some false))))))))))
theorem laws_FnExactDefOK.mono : ∀ a0 a1 k,LeO (laws_FnExactDefOK.f k a0 a1) (laws_FnExactDefOK.f (k + 1) a0 a1):=by
 intro a0 a1 k;unfold laws_FnExactDefOK.f
 repeat' first|(with_reducible first|exact laws_szDef.mono _ _ _ _|exact spec_DefOK.mono _ _ _|exact laws_toDef.mono _ _ _|exact impl_DefOK.mono _ _ _|exact laws_eqDef.mono _ _ _ _ _|exact zQ _|exact zN _|refine zP ?_ ?_|refine zO ?_ (fun _ => ?_))|refine zP ?_ ?_|refine zO ?_ (fun _ => ?_)
set_option maxHeartbeats 8000000 in
set_option maxRecDepth 100000 in
theorem laws_FnExactDefOK.calls (k : Nat) (a0_0 : ByteArray) (A0_1 : Option Addr) (c0_1 : Nat) (l0_1 : List (S73)) (r : Bool) (w : World) (hr0_1 : Kd.C k73 w A0_1 l0_1.length l0_1) (hc0_1 : l0_1.length≤c0_1) (h : laws_FnExactDefOK.f k a0_0 l0_1=some r) :
  Calls Tryd.prog 3 #[.agg #[.string a0_0,.slice A0_1 l0_1.length c0_1]] w fun e w' => e = .returned (.bool r)∧Below w.heap.size w w':=by
 have hu24:=Tryd.underlying24;have hu29:=Tryd.underlying29;have HR0_1:=zh hr0_1;have HC0_1:=zh hc0_1;clear hr0_1 hc0_1;have HB:=zh (Below.refl w.heap.size w);have H : ((laws_szDef.f k a0_0 l0_1 1048576).bind fun t182 => (if t182<0 then (some true) else ((laws_toDef.f k a0_0 l0_1).bind fun bt183 => ((spec_DefOK.f k bt183.1 bt183.2).bind fun t187 => ((laws_toDef.f k a0_0 l0_1).bind fun bt188 => ((impl_DefOK.f k bt188.1 bt188.2).bind fun t193 => (if (t193 != t187)=true then (some false) else ((laws_toDef.f k a0_0 l0_1).bind fun bt194 => ((laws_eqDef.f k bt188.1 bt188.2 bt194.1 bt194.2).bind fun t198 => (if t198=true then (some true) else (some false)))))))))))=some r:=h;clear h;replace H:=zT.mp H;obtain ⟨t182,A20,H⟩:=H;replace H : (if t182<0 then (some true) else ((laws_toDef.f k a0_0 l0_1).bind fun bt183 => ((spec_DefOK.f k bt183.1 bt183.2).bind fun t187 => ((laws_toDef.f k a0_0 l0_1).bind fun bt188 => ((impl_DefOK.f k bt188.1 bt188.2).bind fun t193 => (if (t193 != t187)=true then (some false) else ((laws_toDef.f k a0_0 l0_1).bind fun bt194 => ((laws_eqDef.f k bt188.1 bt188.2 bt194.1 bt194.2).bind fun t198 => (if t198=true then (some true) else (some false))))))))))=some r:=H;have A2:=zh A20;clear A20
 by_cases c3 : t182<0
 ·
  rw [if_pos c3] at H
  have c3b0 : decide (t182<0)=true:=decide_eq_true c3;clear c3;obtain rfl:=zU H
  go_enter Tryd.func3,Tryd.ntmps3
  go_wp2_with (first|((with_reducible refine zK (N:=1) rfl ?_);refine zI ?hg (N:=1) ?hd (cs:=#[.string a0_0,.slice A0_1 l0_1.length c0_1]) (t:=24) ?hr ?_;(case hd => rfl);(case hg => rfl);(case hr => first|(go_simp;done)|(go_simp;rfl));intro gb181 hg w4 hbox hb;have BK181:=zh (hbox);have GW181:=zh ((by rw [hg];exact (zB (by repeat (with_reducible first|exact HB.out|apply za|apply zb|apply zc))) : w.heap.size≤gb181));have GE181:=zh ((by rw [hg];exact (zB (by repeat (with_reducible first|exact HB.out|apply za|apply zb|apply zc))) : w.heap.size≤gb181));replace HB:=zh (zC (by repeat (with_reducible first|exact HB.out|apply za|apply zb|apply zc)) hb);clear hb hbox hg;have hcz5_0 : w4.cell? ⟨gb181,0,none⟩=some (.string a0_0):=(zz BK181.out 0).trans rfl;have hcz5_1 : w4.cell? ⟨gb181,1,none⟩=some (.slice A0_1 l0_1.length c0_1):=(zz BK181.out 1).trans rfl;have hfz5_0:=zA BK181.out 0;have hfz5_1:=zA BK181.out 1)|((with_reducible refine zJ (f:=7) rfl ?_);refine yj (some 9) rfl rfl Tryd.func7 (by kernel_rfl) rfl #[.agg #[.string a0_0,.slice A0_1 l0_1.length c0_1],.int .i64 1048576] rfl (by (try simp only [zt,zu,zv]);first|done|rfl|(simp only [zw,zx];rfl)|(simp only [yr,ys,zV,zW];rfl)) ?_;(with_reducible refine (laws_szDef.calls k  a0_0 _ _ l0_1 1048576 t182 _ ?side1 ?side2 A2.out).mono ?_);(case side1 => repeat (first|exact (Kd.C_below HR0_1.out HB.out)|(with_reducible refine Kd.C_alloc ?_ _)|(with_reducible refine Kd.C_drewN ?_ _)|(with_reducible refine Kd.C_drew ?_)));(case side2 => exact HC0_1.out);rintro e w6 ⟨rfl,hb⟩;refine ⟨_,rfl,?_⟩;replace BK181:=zh (zD (g:=gb181) (o:=.cells #[.string a0_0,.slice A0_1 l0_1.length c0_1] 24 (0,0)) (by (with_reducible repeat (first|refine ze ?_ _|refine zf ?_|refine zg ?_ _));exact BK181.out) hb);replace HB:=zh (zC (by repeat (with_reducible first|exact HB.out|apply za|apply zb|apply zc|refine zd ?_ GE181.out)) hb);(try clear hb);(try clear hb2);(try clear hk);(try clear hi)))
  go_ret
  exact ⟨by first|rfl|(simp [yt,yu] <;> rfl)|(simp [*,yt,yu] <;> rfl),by repeat (with_reducible first|exact HB.out|apply za|apply zb|apply zc|refine zd ?_ GE181.out)⟩
 rw [if_neg c3] at H;have c3b0 : decide (t182<0)=false:=decide_eq_false c3;clear c3;replace H:=zT.mp H;obtain ⟨⟨t183,t184⟩,A70,H⟩:=H;replace H : ((spec_DefOK.f k t183 t184).bind fun t187 => ((laws_toDef.f k a0_0 l0_1).bind fun bt188 => ((impl_DefOK.f k bt188.1 bt188.2).bind fun t193 => (if (t193 != t187)=true then (some false) else ((laws_toDef.f k a0_0 l0_1).bind fun bt194 => ((laws_eqDef.f k bt188.1 bt188.2 bt194.1 bt194.2).bind fun t198 => (if t198=true then (some true) else (some false))))))))=some r:=H;have A7:=zh A70;clear A70;replace H:=zT.mp H;obtain ⟨t187,A80,H⟩:=H;replace H : ((laws_toDef.f k a0_0 l0_1).bind fun bt188 => ((impl_DefOK.f k bt188.1 bt188.2).bind fun t193 => (if (t193 != t187)=true then (some false) else ((laws_toDef.f k a0_0 l0_1).bind fun bt194 => ((laws_eqDef.f k bt188.1 bt188.2 bt194.1 bt194.2).bind fun t198 => (if t198=true then (some true) else (some false)))))))=some r:=H;have A8:=zh A80;clear A80;replace H:=zT.mp H;obtain ⟨⟨t188,t189⟩,A90,H⟩:=H;replace H : ((impl_DefOK.f k t188 t189).bind fun t193 => (if (t193 != t187)=true then (some false) else ((laws_toDef.f k a0_0 l0_1).bind fun bt194 => ((laws_eqDef.f k t188 t189 bt194.1 bt194.2).bind fun t198 => (if t198=true then (some true) else (some false))))))=some r:=H;have A9:=zh A90;clear A90;replace H:=zT.mp H;obtain ⟨t193,A100,H⟩:=H;replace H : (if (t193 != t187)=true then (some false) else ((laws_toDef.f k a0_0 l0_1).bind fun bt194 => ((laws_eqDef.f k t188 t189 bt194.1 bt194.2).bind fun t198 => (if t198=true then (some true) else (some false)))))=some r:=H;have A10:=zh A100;clear A100
 by_cases c11 : (t193 != t187)=true
 ·
  rw [if_pos c11] at H
  have c11b0 : (t193 != t187)=true:=c11;(try (have c11b1 : decide (t193=t187)=false:=by simpa using c11));(try (have c11b2 : (t193 == t187)=false:=by simpa using c11));(try (have c11b3 : ¬ (t193=t187):=by simpa using c11));clear c11;obtain rfl:=zU H
  go_enter Tryd.func3,Tryd.ntmps3
  go_wp2_with (first|((with_reducible refine zK (N:=1) rfl ?_);refine zI ?hg (N:=1) ?hd (cs:=#[.string a0_0,.slice A0_1 l0_1.length c0_1]) (t:=24) ?hr ?_;(case hd => rfl);(case hg => rfl);(case hr => first|(go_simp;done)|(go_simp;rfl));intro gb181 hg w12 hbox hb;have BK181:=zh (hbox);have GW181:=zh ((by rw [hg];exact (zB (by repeat (with_reducible first|exact HB.out|apply za|apply zb|apply zc))) : w.heap.size≤gb181));have GE181:=zh ((by rw [hg];exact (zB (by repeat (with_reducible first|exact HB.out|apply za|apply zb|apply zc))) : w.heap.size≤gb181));replace HB:=zh (zC (by repeat (with_reducible first|exact HB.out|apply za|apply zb|apply zc)) hb);clear hb hbox hg;have hcz13_0 : w12.cell? ⟨gb181,0,none⟩=some (.string a0_0):=(zz BK181.out 0).trans rfl;have hcz13_1 : w12.cell? ⟨gb181,1,none⟩=some (.slice A0_1 l0_1.length c0_1):=(zz BK181.out 1).trans rfl;have hfz13_0:=zA BK181.out 0;have hfz13_1:=zA BK181.out 1)|((with_reducible refine zJ (f:=7) rfl ?_);refine yj (some 9) rfl rfl Tryd.func7 (by kernel_rfl) rfl #[.agg #[.string a0_0,.slice A0_1 l0_1.length c0_1],.int .i64 1048576] rfl (by (try simp only [zt,zu,zv]);first|done|rfl|(simp only [zw,zx];rfl)|(simp only [yr,ys,zV,zW];rfl)) ?_;(with_reducible refine (laws_szDef.calls k  a0_0 _ _ l0_1 1048576 t182 _ ?side1 ?side2 A2.out).mono ?_);(case side1 => repeat (first|exact (Kd.C_below HR0_1.out HB.out)|(with_reducible refine Kd.C_alloc ?_ _)|(with_reducible refine Kd.C_drewN ?_ _)|(with_reducible refine Kd.C_drew ?_)));(case side2 => exact HC0_1.out);rintro e w14 ⟨rfl,hb⟩;refine ⟨_,rfl,?_⟩;replace BK181:=zh (zD (g:=gb181) (o:=.cells #[.string a0_0,.slice A0_1 l0_1.length c0_1] 24 (0,0)) (by (with_reducible repeat (first|refine ze ?_ _|refine zf ?_|refine zg ?_ _));exact BK181.out) hb);replace HB:=zh (zC (by repeat (with_reducible first|exact HB.out|apply za|apply zb|apply zc|refine zd ?_ GE181.out)) hb);(try clear hb);(try clear hb2);(try clear hk);(try clear hi);have hcz15_0 : w14.cell? ⟨gb181,0,none⟩=some (.string a0_0):=(zz BK181.out 0).trans rfl;have hcz15_1 : w14.cell? ⟨gb181,1,none⟩=some (.slice A0_1 l0_1.length c0_1):=(zz BK181.out 1).trans rfl;have hfz15_0:=zA BK181.out 0;have hfz15_1:=zA BK181.out 1)|((with_reducible refine zJ (f:=9) rfl ?_);refine yj (some 13) rfl rfl Tryd.func9 (by kernel_rfl) rfl #[.agg #[.string a0_0,.slice A0_1 l0_1.length c0_1]] rfl (by (try simp only [zt,zu,zv]);first|done|rfl|(simp only [zw,zx];rfl)|(simp only [yr,ys,zV,zW];rfl)) ?_;(with_reducible refine (laws_toDef.calls k  a0_0 _ _ l0_1 t183 t184 _ ?side1 ?side2 A7.out).mono ?_);(case side1 => repeat (first|exact (Kd.C_below HR0_1.out HB.out)|(with_reducible refine Kd.C_alloc ?_ _)|(with_reducible refine Kd.C_drewN ?_ _)|(with_reducible refine Kd.C_drew ?_)));(case side2 => exact HC0_1.out);rintro e w16 ⟨v185,rfl,ho0,hb⟩;refine ⟨_,rfl,?_⟩;have HO186:=zh (yy ho0 (zB (by repeat (with_reducible first|exact HB.out|apply za|apply zb|apply zc|refine zd ?_ GE181.out))));replace BK181:=zh (zD (g:=gb181) (o:=.cells #[.string a0_0,.slice A0_1 l0_1.length c0_1] 24 (0,0)) (by (with_reducible repeat (first|refine ze ?_ _|refine zf ?_|refine zg ?_ _));exact BK181.out) hb);replace HB:=zh (zC (by repeat (with_reducible first|exact HB.out|apply za|apply zb|apply zc|refine zd ?_ GE181.out)) hb);(try clear hb);(try clear hb2);(try clear hk);(try clear hi);(try clear ho0);obtain ⟨Ao17,co17,eo17⟩:=yk HO186.out;subst eo17)|((with_reducible refine zJ (f:=8) rfl ?_);refine yj (some 14) rfl rfl Tryd.func8 (by kernel_rfl) rfl #[.agg #[.string t183,.slice Ao17 t184.length co17]] rfl (by (try simp only [zt,zu,zv]);first|done|rfl|(simp only [zw,zx];rfl)|(simp only [yr,ys,zV,zW];rfl)) ?_;(with_reducible refine (spec_DefOK.calls k  t183 _ _ t184 t187 _ ?side1 ?side2 A8.out).mono ?_);(case side1 => repeat (first|exact (yh HO186.out).2.2|(with_reducible refine Kd.C_alloc ?_ _)|(with_reducible refine Kd.C_drewN ?_ _)|(with_reducible refine Kd.C_drew ?_)));(case side2 => exact (yh HO186.out).2.1);rintro e w18 ⟨rfl,hb⟩;refine ⟨_,rfl,?_⟩;replace HO186:=zh (yg (by (with_reducible repeat (first|apply zm|apply zn|apply zo));exact HO186.out) hb);replace BK181:=zh (zD (g:=gb181) (o:=.cells #[.string a0_0,.slice A0_1 l0_1.length c0_1] 24 (0,0)) (by (with_reducible repeat (first|refine ze ?_ _|refine zf ?_|refine zg ?_ _));exact BK181.out) hb);replace HB:=zh (zC (by repeat (with_reducible first|exact HB.out|apply za|apply zb|apply zc|refine zd ?_ GE181.out)) hb);(try clear hb);(try clear hb2);(try clear hk);(try clear hi);have hcz19_0 : w18.cell? ⟨gb181,0,none⟩=some (.string a0_0):=(zz BK181.out 0).trans rfl;have hcz19_1 : w18.cell? ⟨gb181,1,none⟩=some (.slice A0_1 l0_1.length c0_1):=(zz BK181.out 1).trans rfl;have hfz19_0:=zA BK181.out 0;have hfz19_1:=zA BK181.out 1)|((with_reducible refine zJ (f:=9) rfl ?_);refine yj (some 16) rfl rfl Tryd.func9 (by kernel_rfl) rfl #[.agg #[.string a0_0,.slice A0_1 l0_1.length c0_1]] rfl (by (try simp only [zt,zu,zv]);first|done|rfl|(simp only [zw,zx];rfl)|(simp only [yr,ys,zV,zW];rfl)) ?_;(with_reducible refine (laws_toDef.calls k  a0_0 _ _ l0_1 t188 t189 _ ?side1 ?side2 A9.out).mono ?_);(case side1 => repeat (first|exact (Kd.C_below HR0_1.out HB.out)|(with_reducible refine Kd.C_alloc ?_ _)|(with_reducible refine Kd.C_drewN ?_ _)|(with_reducible refine Kd.C_drew ?_)));(case side2 => exact HC0_1.out);rintro e w20 ⟨v190,rfl,ho0,hb⟩;refine ⟨_,rfl,?_⟩;have HO191:=zh (yy (Kd.R_new' ho0 (Kd.R_lt (by (with_reducible repeat (first|apply zm|apply zn|apply zo));exact HO186.out))) (zB (by repeat (with_reducible first|exact HB.out|apply za|apply zb|apply zc|refine zd ?_ GE181.out))));replace HO186:=zh (Kd.R_elder' (by (with_reducible repeat (first|apply zm|apply zn|apply zo));exact HO186.out) (Kd.R_base ho0) hb);replace BK181:=zh (zD (g:=gb181) (o:=.cells #[.string a0_0,.slice A0_1 l0_1.length c0_1] 24 (0,0)) (by (with_reducible repeat (first|refine ze ?_ _|refine zf ?_|refine zg ?_ _));exact BK181.out) hb);replace HB:=zh (zC (by repeat (with_reducible first|exact HB.out|apply za|apply zb|apply zc|refine zd ?_ GE181.out)) hb);(try clear hb);(try clear hb2);(try clear hk);(try clear hi);(try clear ho0))|((with_reducible refine zK (N:=5) rfl ?_);refine zI ?hg (N:=5) ?hd (cs:=#[.string (⟨#[]⟩ : ByteArray),.slice none 0 0]) (t:=29) ?hr ?_;(case hd => rfl);(case hg => rfl);(case hr => first|(go_simp;done)|(go_simp;rfl));intro gb192 hg w21 hbox hb;replace HO186:=zh (yg (by (with_reducible repeat (first|apply zm|apply zn|apply zo));exact HO186.out) hb);replace HO191:=zh (yg (by (with_reducible repeat (first|apply zm|apply zn|apply zo));exact HO191.out) hb);have BK192:=zh (hbox);have GW192:=zh ((by rw [hg];exact (zB (by repeat (with_reducible first|exact HB.out|apply za|apply zb|apply zc|refine zd ?_ GE181.out))) : w.heap.size≤gb192));have GE192:=zh ((by rw [hg];exact (zB (by repeat (with_reducible first|exact HB.out|apply za|apply zb|apply zc|refine zd ?_ GE181.out))) : w.heap.size≤gb192));replace HB:=zh (zC (by repeat (with_reducible first|exact HB.out|apply za|apply zb|apply zc|refine zd ?_ GE181.out)) hb);have NB181_192:=zh ((by rw [hg];exact yc (yi (g:=gb181) (o:=.cells #[.string a0_0,.slice A0_1 l0_1.length c0_1] 24 (0,0)) (by (with_reducible repeat (first|refine ze ?_ _|refine zf ?_|refine zg ?_ _));exact BK181.out)) : gb181≠gb192));have NB192_181:=zh ((by rw [hg];exact yd (yi (g:=gb181) (o:=.cells #[.string a0_0,.slice A0_1 l0_1.length c0_1] 24 (0,0)) (by (with_reducible repeat (first|refine ze ?_ _|refine zf ?_|refine zg ?_ _));exact BK181.out)) : gb192≠gb181));replace BK181:=zh (zD (g:=gb181) (o:=.cells #[.string a0_0,.slice A0_1 l0_1.length c0_1] 24 (0,0)) (by (with_reducible repeat (first|refine ze ?_ _|refine zf ?_|refine zg ?_ _));exact BK181.out) hb);clear hb hbox hg;have hnb22:=NB192_181.out;have hnc22:=NB181_192.out;have hcz23_0 : w21.cell? ⟨gb192,0,none⟩=some (.string (⟨#[]⟩ : ByteArray)):=(zz BK192.out 0).trans rfl;have hcz23_1 : w21.cell? ⟨gb192,1,none⟩=some (.slice none 0 0):=(zz BK192.out 1).trans rfl;have hfz23_0:=zA BK192.out 0;have hfz23_1:=zA BK192.out 1;obtain ⟨Ao24,co24,eo24⟩:=yk HO191.out;subst eo24)|((with_reducible refine zJ (f:=10) rfl ?_);refine yj (some 18) rfl rfl Tryd.func10 (by kernel_rfl) rfl #[.agg #[.string t188,.slice Ao24 t189.length co24]] rfl (by (try simp only [zt,zu,zv]);first|done|rfl|(simp only [zw,zx];rfl)|(simp only [yr,ys,zV,zW];rfl)) ?_;(with_reducible refine (impl_DefOK.calls k  t188 _ _ t189 t193 _ ?side1 ?side2 A10.out).mono ?_);(case side1 => refine (yh (e:=62) (base:=w.heap.size) (ok:=fun k_ => (True∧some k_≠(.slice Ao17 t184.length co17 : Value).ownBlock)) (n:=t189.length) (c:=co24) ?_).2.2;exact (by (with_reducible repeat (first|apply zm|apply zn|apply zo));exact (zM (zE (p:=⟨gb192,1,none⟩) (zE (p:=⟨gb192,0,none⟩) (yf HO191.out BK192.out (by decide)) (fun _ hk => hk.2) (.string t188)) (fun _ hk => hk.2) (.slice Ao24 t189.length co24)) (fun _ h_ => h_.1))));(case side2 => exact (yh HO191.out).2.1);rintro e w25 ⟨rfl,hb⟩;refine ⟨_,rfl,?_⟩;replace HO186:=zh (yg (by (with_reducible repeat (first|apply zm|apply zn|apply zo));exact (zM (zE (p:=⟨gb192,1,none⟩) (zE (p:=⟨gb192,0,none⟩) (yf HO186.out BK192.out (by decide)) (fun _ hk => hk.2) (.string t188)) (fun _ hk => hk.2) (.slice Ao24 t189.length co24)) (fun _ h_ => h_.1))) hb);replace HO191:=zh (yg (by (with_reducible repeat (first|apply zm|apply zn|apply zo));exact (zM (zE (p:=⟨gb192,1,none⟩) (zE (p:=⟨gb192,0,none⟩) (yf HO191.out BK192.out (by decide)) (fun _ hk => hk.2) (.string t188)) (fun _ hk => hk.2) (.slice Ao24 t189.length co24)) (fun _ h_ => h_.1))) hb);replace BK181:=zh (zD (g:=gb181) (o:=.cells #[.string a0_0,.slice A0_1 l0_1.length c0_1] 24 (0,0)) (by (with_reducible repeat (first|refine ze ?_ _|refine zf ?_|refine zg ?_ _));refine zS ?_ NB181_192.out _;(with_reducible repeat (first|refine ze ?_ _|refine zf ?_|refine zg ?_ _));refine zS ?_ NB181_192.out _;(with_reducible repeat (first|refine ze ?_ _|refine zf ?_|refine zg ?_ _));exact BK181.out) hb);replace BK192:=zh (zD (g:=gb192) (o:=.cells #[.string t188,.slice Ao24 t189.length co24] 29 (0,0)) (by (with_reducible repeat (first|refine ze ?_ _|refine zf ?_|refine zg ?_ _));refine zL (cs:=#[.string t188,.slice none 0 0]) ?_ 1 _ rfl;(with_reducible repeat (first|refine ze ?_ _|refine zf ?_|refine zg ?_ _));refine zL (cs:=#[.string (⟨#[]⟩ : ByteArray),.slice none 0 0]) ?_ 0 _ rfl;(with_reducible repeat (first|refine ze ?_ _|refine zf ?_|refine zg ?_ _));exact BK192.out) hb);replace HB:=zh (zC (by repeat (with_reducible first|exact HB.out|apply za|apply zb|apply zc|refine zd ?_ GE181.out|refine zd ?_ GE192.out)) hb);(try clear hb);(try clear hb2);(try clear hk);(try clear hi)))
  go_ret
  exact ⟨by first|rfl|(simp [yt,yu] <;> rfl)|(simp [*,yt,yu] <;> rfl),by repeat (with_reducible first|exact HB.out|apply za|apply zb|apply zc|refine zd ?_ GE181.out|refine zd ?_ GE192.out)⟩
 rw [if_neg c11] at H;have c11b0 : (t193 != t187)=false:=by simpa using c11
 (try (have c11b1 : decide (t193=t187)=true:=by simpa using c11));(try (have c11b2 : (t193 == t187)=true:=by simpa using c11));clear c11;replace H:=zT.mp H;obtain ⟨⟨t194,t195⟩,A260,H⟩:=H;replace H : ((laws_eqDef.f k t188 t189 t194 t195).bind fun t198 => (if t198=true then (some true) else (some false)))=some r:=H;have A26:=zh A260;clear A260;replace H:=zT.mp H;obtain ⟨t198,A270,H⟩:=H;replace H : (if t198=true then (some true) else (some false))=some r:=H;have A27:=zh A270;clear A270
 by_cases c28 : t198=true
 ·
  subst c28
  have H1 : (some true)=some r:=by rw [if_pos rfl] at H;exact H
  clear H;have H:=H1;clear H1;obtain rfl:=zU H
  go_enter Tryd.func3,Tryd.ntmps3
  try go_wp2_with (first|((with_reducible refine zK (N:=1) rfl ?_);refine zI ?hg (N:=1) ?hd (cs:=#[.string a0_0,.slice A0_1 l0_1.length c0_1]) (t:=24) ?hr ?_;(case hd => rfl);(case hg => rfl);(case hr => first|(go_simp;done)|(go_simp;rfl));intro gb181 hg w29 hbox hb;have BK181:=zh (hbox);have GW181:=zh ((by rw [hg];exact (zB (by repeat (with_reducible first|exact HB.out|apply za|apply zb|apply zc))) : w.heap.size≤gb181));have GE181:=zh ((by rw [hg];exact (zB (by repeat (with_reducible first|exact HB.out|apply za|apply zb|apply zc))) : w.heap.size≤gb181));replace HB:=zh (zC (by repeat (with_reducible first|exact HB.out|apply za|apply zb|apply zc)) hb);clear hb hbox hg;have hcz30_0 : w29.cell? ⟨gb181,0,none⟩=some (.string a0_0):=(zz BK181.out 0).trans rfl;have hcz30_1 : w29.cell? ⟨gb181,1,none⟩=some (.slice A0_1 l0_1.length c0_1):=(zz BK181.out 1).trans rfl;have hfz30_0:=zA BK181.out 0;have hfz30_1:=zA BK181.out 1)|((with_reducible refine zJ (f:=7) rfl ?_);refine yj (some 9) rfl rfl Tryd.func7 (by kernel_rfl) rfl #[.agg #[.string a0_0,.slice A0_1 l0_1.length c0_1],.int .i64 1048576] rfl (by (try simp only [zt,zu,zv]);first|done|rfl|(simp only [zw,zx];rfl)|(simp only [yr,ys,zV,zW];rfl)) ?_;(with_reducible refine (laws_szDef.calls k  a0_0 _ _ l0_1 1048576 t182 _ ?side1 ?side2 A2.out).mono ?_);(case side1 => repeat (first|exact (Kd.C_below HR0_1.out HB.out)|(with_reducible refine Kd.C_alloc ?_ _)|(with_reducible refine Kd.C_drewN ?_ _)|(with_reducible refine Kd.C_drew ?_)));(case side2 => exact HC0_1.out);rintro e w31 ⟨rfl,hb⟩;refine ⟨_,rfl,?_⟩;replace BK181:=zh (zD (g:=gb181) (o:=.cells #[.string a0_0,.slice A0_1 l0_1.length c0_1] 24 (0,0)) (by (with_reducible repeat (first|refine ze ?_ _|refine zf ?_|refine zg ?_ _));exact BK181.out) hb);replace HB:=zh (zC (by repeat (with_reducible first|exact HB.out|apply za|apply zb|apply zc|refine zd ?_ GE181.out)) hb);(try clear hb);(try clear hb2);(try clear hk);(try clear hi);have hcz32_0 : w31.cell? ⟨gb181,0,none⟩=some (.string a0_0):=(zz BK181.out 0).trans rfl;have hcz32_1 : w31.cell? ⟨gb181,1,none⟩=some (.slice A0_1 l0_1.length c0_1):=(zz BK181.out 1).trans rfl;have hfz32_0:=zA BK181.out 0;have hfz32_1:=zA BK181.out 1)|((with_reducible refine zJ (f:=9) rfl ?_);refine yj (some 13) rfl rfl Tryd.func9 (by kernel_rfl) rfl #[.agg #[.string a0_0,.slice A0_1 l0_1.length c0_1]] rfl (by (try simp only [zt,zu,zv]);first|done|rfl|(simp only [zw,zx];rfl)|(simp only [yr,ys,zV,zW];rfl)) ?_;(with_reducible refine (laws_toDef.calls k  a0_0 _ _ l0_1 t183 t184 _ ?side1 ?side2 A7.out).mono ?_);(case side1 => repeat (first|exact (Kd.C_below HR0_1.out HB.out)|(with_reducible refine Kd.C_alloc ?_ _)|(with_reducible refine Kd.C_drewN ?_ _)|(with_reducible refine Kd.C_drew ?_)));(case side2 => exact HC0_1.out);rintro e w33 ⟨v185,rfl,ho0,hb⟩;refine ⟨_,rfl,?_⟩;have HO186:=zh (yy ho0 (zB (by repeat (with_reducible first|exact HB.out|apply za|apply zb|apply zc|refine zd ?_ GE181.out))));replace BK181:=zh (zD (g:=gb181) (o:=.cells #[.string a0_0,.slice A0_1 l0_1.length c0_1] 24 (0,0)) (by (with_reducible repeat (first|refine ze ?_ _|refine zf ?_|refine zg ?_ _));exact BK181.out) hb);replace HB:=zh (zC (by repeat (with_reducible first|exact HB.out|apply za|apply zb|apply zc|refine zd ?_ GE181.out)) hb);(try clear hb);(try clear hb2);(try clear hk);(try clear hi);(try clear ho0);obtain ⟨Ao34,co34,eo34⟩:=yk HO186.out;subst eo34)|((with_reducible refine zJ (f:=8) rfl ?_);refine yj (some 14) rfl rfl Tryd.func8 (by kernel_rfl) rfl #[.agg #[.string t183,.slice Ao34 t184.length co34]] rfl (by (try simp only [zt,zu,zv]);first|done|rfl|(simp only [zw,zx];rfl)|(simp only [yr,ys,zV,zW];rfl)) ?_;(with_reducible refine (spec_DefOK.calls k  t183 _ _ t184 t187 _ ?side1 ?side2 A8.out).mono ?_);(case side1 => repeat (first|exact (yh HO186.out).2.2|(with_reducible refine Kd.C_alloc ?_ _)|(with_reducible refine Kd.C_drewN ?_ _)|(with_reducible refine Kd.C_drew ?_)));(case side2 => exact (yh HO186.out).2.1);rintro e w35 ⟨rfl,hb⟩;refine ⟨_,rfl,?_⟩;replace HO186:=zh (yg (by (with_reducible repeat (first|apply zm|apply zn|apply zo));exact HO186.out) hb);replace BK181:=zh (zD (g:=gb181) (o:=.cells #[.string a0_0,.slice A0_1 l0_1.length c0_1] 24 (0,0)) (by (with_reducible repeat (first|refine ze ?_ _|refine zf ?_|refine zg ?_ _));exact BK181.out) hb);replace HB:=zh (zC (by repeat (with_reducible first|exact HB.out|apply za|apply zb|apply zc|refine zd ?_ GE181.out)) hb);(try clear hb);(try clear hb2);(try clear hk);(try clear hi);have hcz36_0 : w35.cell? ⟨gb181,0,none⟩=some (.string a0_0):=(zz BK181.out 0).trans rfl;have hcz36_1 : w35.cell? ⟨gb181,1,none⟩=some (.slice A0_1 l0_1.length c0_1):=(zz BK181.out 1).trans rfl;have hfz36_0:=zA BK181.out 0;have hfz36_1:=zA BK181.out 1)|((with_reducible refine zJ (f:=9) rfl ?_);refine yj (some 16) rfl rfl Tryd.func9 (by kernel_rfl) rfl #[.agg #[.string a0_0,.slice A0_1 l0_1.length c0_1]] rfl (by (try simp only [zt,zu,zv]);first|done|rfl|(simp only [zw,zx];rfl)|(simp only [yr,ys,zV,zW];rfl)) ?_;(with_reducible refine (laws_toDef.calls k  a0_0 _ _ l0_1 t188 t189 _ ?side1 ?side2 A9.out).mono ?_);(case side1 => repeat (first|exact (Kd.C_below HR0_1.out HB.out)|(with_reducible refine Kd.C_alloc ?_ _)|(with_reducible refine Kd.C_drewN ?_ _)|(with_reducible refine Kd.C_drew ?_)));(case side2 => exact HC0_1.out);rintro e w37 ⟨v190,rfl,ho0,hb⟩;refine ⟨_,rfl,?_⟩;have HO191:=zh (yy (Kd.R_new' ho0 (Kd.R_lt (by (with_reducible repeat (first|apply zm|apply zn|apply zo));exact HO186.out))) (zB (by repeat (with_reducible first|exact HB.out|apply za|apply zb|apply zc|refine zd ?_ GE181.out))));replace HO186:=zh (Kd.R_elder' (by (with_reducible repeat (first|apply zm|apply zn|apply zo));exact HO186.out) (Kd.R_base ho0) hb);replace BK181:=zh (zD (g:=gb181) (o:=.cells #[.string a0_0,.slice A0_1 l0_1.length c0_1] 24 (0,0)) (by (with_reducible repeat (first|refine ze ?_ _|refine zf ?_|refine zg ?_ _));exact BK181.out) hb);replace HB:=zh (zC (by repeat (with_reducible first|exact HB.out|apply za|apply zb|apply zc|refine zd ?_ GE181.out)) hb);(try clear hb);(try clear hb2);(try clear hk);(try clear hi);(try clear ho0))|((with_reducible refine zK (N:=5) rfl ?_);refine zI ?hg (N:=5) ?hd (cs:=#[.string (⟨#[]⟩ : ByteArray),.slice none 0 0]) (t:=29) ?hr ?_;(case hd => rfl);(case hg => rfl);(case hr => first|(go_simp;done)|(go_simp;rfl));intro gb192 hg w38 hbox hb;replace HO186:=zh (yg (by (with_reducible repeat (first|apply zm|apply zn|apply zo));exact HO186.out) hb);replace HO191:=zh (yg (by (with_reducible repeat (first|apply zm|apply zn|apply zo));exact HO191.out) hb);have BK192:=zh (hbox);have GW192:=zh ((by rw [hg];exact (zB (by repeat (with_reducible first|exact HB.out|apply za|apply zb|apply zc|refine zd ?_ GE181.out))) : w.heap.size≤gb192));have GE192:=zh ((by rw [hg];exact (zB (by repeat (with_reducible first|exact HB.out|apply za|apply zb|apply zc|refine zd ?_ GE181.out))) : w.heap.size≤gb192));replace HB:=zh (zC (by repeat (with_reducible first|exact HB.out|apply za|apply zb|apply zc|refine zd ?_ GE181.out)) hb);have NB181_192:=zh ((by rw [hg];exact yc (yi (g:=gb181) (o:=.cells #[.string a0_0,.slice A0_1 l0_1.length c0_1] 24 (0,0)) (by (with_reducible repeat (first|refine ze ?_ _|refine zf ?_|refine zg ?_ _));exact BK181.out)) : gb181≠gb192));have NB192_181:=zh ((by rw [hg];exact yd (yi (g:=gb181) (o:=.cells #[.string a0_0,.slice A0_1 l0_1.length c0_1] 24 (0,0)) (by (with_reducible repeat (first|refine ze ?_ _|refine zf ?_|refine zg ?_ _));exact BK181.out)) : gb192≠gb181));replace BK181:=zh (zD (g:=gb181) (o:=.cells #[.string a0_0,.slice A0_1 l0_1.length c0_1] 24 (0,0)) (by (with_reducible repeat (first|refine ze ?_ _|refine zf ?_|refine zg ?_ _));exact BK181.out) hb);clear hb hbox hg;have hnb39:=NB192_181.out;have hnc39:=NB181_192.out;have hcz40_0 : w38.cell? ⟨gb192,0,none⟩=some (.string (⟨#[]⟩ : ByteArray)):=(zz BK192.out 0).trans rfl;have hcz40_1 : w38.cell? ⟨gb192,1,none⟩=some (.slice none 0 0):=(zz BK192.out 1).trans rfl;have hfz40_0:=zA BK192.out 0;have hfz40_1:=zA BK192.out 1;obtain ⟨Ao41,co41,eo41⟩:=yk HO191.out;subst eo41)|((with_reducible refine zJ (f:=10) rfl ?_);refine yj (some 18) rfl rfl Tryd.func10 (by kernel_rfl) rfl #[.agg #[.string t188,.slice Ao41 t189.length co41]] rfl (by (try simp only [zt,zu,zv]);first|done|rfl|(simp only [zw,zx];rfl)|(simp only [yr,ys,zV,zW];rfl)) ?_;(with_reducible refine (impl_DefOK.calls k  t188 _ _ t189 t193 _ ?side1 ?side2 A10.out).mono ?_);(case side1 => refine (yh (e:=62) (base:=w.heap.size) (ok:=fun k_ => (True∧some k_≠(.slice Ao34 t184.length co34 : Value).ownBlock)) (n:=t189.length) (c:=co41) ?_).2.2;exact (by (with_reducible repeat (first|apply zm|apply zn|apply zo));exact (zM (zE (p:=⟨gb192,1,none⟩) (zE (p:=⟨gb192,0,none⟩) (yf HO191.out BK192.out (by decide)) (fun _ hk => hk.2) (.string t188)) (fun _ hk => hk.2) (.slice Ao41 t189.length co41)) (fun _ h_ => h_.1))));(case side2 => exact (yh HO191.out).2.1);rintro e w42 ⟨rfl,hb⟩;refine ⟨_,rfl,?_⟩;replace HO186:=zh (yg (by (with_reducible repeat (first|apply zm|apply zn|apply zo));exact (zM (zE (p:=⟨gb192,1,none⟩) (zE (p:=⟨gb192,0,none⟩) (yf HO186.out BK192.out (by decide)) (fun _ hk => hk.2) (.string t188)) (fun _ hk => hk.2) (.slice Ao41 t189.length co41)) (fun _ h_ => h_.1))) hb);replace HO191:=zh (yg (by (with_reducible repeat (first|apply zm|apply zn|apply zo));exact (zM (zE (p:=⟨gb192,1,none⟩) (zE (p:=⟨gb192,0,none⟩) (yf HO191.out BK192.out (by decide)) (fun _ hk => hk.2) (.string t188)) (fun _ hk => hk.2) (.slice Ao41 t189.length co41)) (fun _ h_ => h_.1))) hb);replace BK181:=zh (zD (g:=gb181) (o:=.cells #[.string a0_0,.slice A0_1 l0_1.length c0_1] 24 (0,0)) (by (with_reducible repeat (first|refine ze ?_ _|refine zf ?_|refine zg ?_ _));refine zS ?_ NB181_192.out _;(with_reducible repeat (first|refine ze ?_ _|refine zf ?_|refine zg ?_ _));refine zS ?_ NB181_192.out _;(with_reducible repeat (first|refine ze ?_ _|refine zf ?_|refine zg ?_ _));exact BK181.out) hb);replace BK192:=zh (zD (g:=gb192) (o:=.cells #[.string t188,.slice Ao41 t189.length co41] 29 (0,0)) (by (with_reducible repeat (first|refine ze ?_ _|refine zf ?_|refine zg ?_ _));refine zL (cs:=#[.string t188,.slice none 0 0]) ?_ 1 _ rfl;(with_reducible repeat (first|refine ze ?_ _|refine zf ?_|refine zg ?_ _));refine zL (cs:=#[.string (⟨#[]⟩ : ByteArray),.slice none 0 0]) ?_ 0 _ rfl;(with_reducible repeat (first|refine ze ?_ _|refine zf ?_|refine zg ?_ _));exact BK192.out) hb);replace HB:=zh (zC (by repeat (with_reducible first|exact HB.out|apply za|apply zb|apply zc|refine zd ?_ GE181.out|refine zd ?_ GE192.out)) hb);(try clear hb);(try clear hb2);(try clear hk);(try clear hi)))
  replace HO186:=zh (zo HO186.out);replace HO191:=zh (zo HO191.out);replace BK181:=zh (zf BK181.out);replace BK192:=zh (zf BK192.out);replace HB:=zh (zc HB.out);refine start_ (n:=5) (S:=fun w' => w'.cell? ⟨gb192,0,none⟩=some (.string t188)∧w'.cell? ⟨gb192,1,none⟩=some (.slice Ao41 t189.length co41)∧w'.cell? ⟨gb181,0,none⟩=some (.string a0_0)∧w'.cell? ⟨gb181,1,none⟩=some (.slice A0_1 l0_1.length c0_1)) (ds:=[]) #[false,false,false,false,false] (by kernel_rfl) rfl rfl ⟨(zz BK192.out 0).trans rfl,(zz BK192.out 1).trans rfl,(zz BK181.out 0).trans rfl,(zz BK181.out 1).trans rfl⟩ (fun hHeld => ?_);generalize w42.drew=w43 at HO186 HO191 BK181 BK192 HB hHeld ⊢;refine take_ (i:=0) (N:=some 22) (v:=?_) (a':=?_) #[true,false,false,false,false] rfl rfl (by kernel_rfl) (fun _ _ _ h => h) (Or.inl ⟨by rfl,?_⟩) hHeld ?_ ?_;rotate_left
  ·
   rintro w' ⟨s0,s1,s2,s3⟩
   go_simp
   with_reducible rfl
  rotate_left
  ·
   simp only [Act.put,zi,zj,zk,zG,zH]
   rfl
  refine take_ (i:=1) (N:=some 23) (v:=?_) (a':=?_) #[true,true,false,false,false] rfl rfl (by kernel_rfl) (fun _ _ _ h => h) (Or.inl ⟨by rfl,?_⟩) hHeld ?_ ?_;rotate_left
  ·
   rintro w' ⟨s0,s1,s2,s3⟩
   go_simp
   with_reducible rfl
  rotate_left
  ·
   simp only [Act.put,zi,zj,zk,zG,zH]
   rfl
  refine one_ (i:=2) (N:=some 24) #[true,true,true,false,false] rfl rfl (by kernel_rfl) (by decide) (fun K hK => ?_);refine goes_ Tryd.func9 (by kernel_rfl) rfl #[.agg #[.string a0_0,.slice A0_1 l0_1.length c0_1]] (by rfl) rfl rfl (by (try simp only [zt,zu,zv]);first|done|rfl|(simp only [zw,zx];rfl)|(simp only [yr,ys,zV,zW];rfl)) ?_
  with_reducible refine (laws_toDef.calls k  a0_0 _ _ l0_1 t194 t195 _ ?side1 ?side2 A26.out).mono ?_
  (case side1 => repeat (first|exact (Kd.C_below HR0_1.out HB.out)|(with_reducible refine Kd.C_alloc ?_ _)|(with_reducible refine Kd.C_drewN ?_ _)|(with_reducible refine Kd.C_drew ?_)))
  (case side2 => exact HC0_1.out)
  rintro e w44 ⟨v196,rfl,ho0,hb⟩;refine ⟨_,rfl,?_⟩;have HO197:=zh (yy (Kd.R_new' (Kd.R_new' ho0 (Kd.R_lt (by (with_reducible repeat (first|apply zm|apply zn|apply zo));exact HO186.out))) (Kd.R_lt (by (with_reducible repeat (first|apply zm|apply zn|apply zo));exact HO191.out))) (zB (by repeat (with_reducible first|exact HB.out|apply za|apply zb|apply zc|refine zd ?_ GE181.out|refine zd ?_ GE192.out))));replace HO186:=zh (Kd.R_elder' (by (with_reducible repeat (first|apply zm|apply zn|apply zo));exact HO186.out) (Kd.R_base ho0) hb);replace HO191:=zh (Kd.R_elder' (by (with_reducible repeat (first|apply zm|apply zn|apply zo));exact HO191.out) (Kd.R_base ho0) hb);replace BK181:=zh (zD (g:=gb181) (o:=.cells #[.string a0_0,.slice A0_1 l0_1.length c0_1] 24 (0,0)) (by (with_reducible repeat (first|refine ze ?_ _|refine zf ?_|refine zg ?_ _));exact BK181.out) hb);replace BK192:=zh (zD (g:=gb192) (o:=.cells #[.string t188,.slice Ao41 t189.length co41] 29 (0,0)) (by (with_reducible repeat (first|refine ze ?_ _|refine zf ?_|refine zg ?_ _));exact BK192.out) hb);replace HB:=zh (zC (by repeat (with_reducible first|exact HB.out|apply za|apply zb|apply zc|refine zd ?_ GE181.out|refine zd ?_ GE192.out)) hb);(try clear hb);(try clear hb2);(try clear hk);(try clear hi);(try clear ho0);obtain ⟨Ao45,co45,eo45⟩:=yk HO197.out;(first|subst eo45|(injection eo45 with f1_ f2_ f3_;have f4_:=f1_.symm;have f5_:=f3_.symm;clear f1_ f2_ f3_;subst f4_;subst f5_));refine hK.out _ _ ⟨(zz BK192.out 0).trans rfl,(zz BK192.out 1).trans rfl,(zz BK181.out 0).trans rfl,(zz BK181.out 1).trans rfl⟩ (fun hHeld => ?_);clear hK K;refine norm_ (a':=?_) ?_ ?_;rotate_left
  ·
   show Act.put _ (some 24) _=_
   simp only [Act.put,zi,zj,zk,zG,zH]
   rfl
  refine one_ (i:=3) (N:=some 25) #[true,true,true,true,false] rfl rfl (by kernel_rfl) (by decide) (fun K hK => ?_);refine goes_ Tryd.func11 (by kernel_rfl) rfl #[.agg #[.string t188,.slice Ao41 t189.length co41],.agg #[.string t194,.slice Ao45 t195.length co45]] (by rfl) rfl rfl (by (try simp only [zt,zu,zv]);first|done|rfl|(simp only [zw,zx];rfl)|(simp only [yr,ys,zV,zW];rfl)) ?_
  with_reducible refine (laws_eqDef.calls k  t188 _ _ t189 t194 _ _ t195 true _ ?side1 ?side2 ?side3 ?side4 A27.out).mono ?_
  (case side1 => repeat (first|exact (yh HO191.out).2.2|(with_reducible refine Kd.C_alloc ?_ _)|(with_reducible refine Kd.C_drewN ?_ _)|(with_reducible refine Kd.C_drew ?_)))
  (case side2 => exact (yh HO191.out).2.1)
  (case side3 => repeat (first|exact (yh HO197.out).2.2|(with_reducible refine Kd.C_alloc ?_ _)|(with_reducible refine Kd.C_drewN ?_ _)|(with_reducible refine Kd.C_drew ?_)))
  (case side4 => exact (yh HO197.out).2.1)
  rintro e w46 ⟨rfl,hb⟩;refine ⟨_,rfl,?_⟩;replace HO186:=zh (yg (by (with_reducible repeat (first|apply zm|apply zn|apply zo));exact HO186.out) hb);replace HO191:=zh (yg (by (with_reducible repeat (first|apply zm|apply zn|apply zo));exact HO191.out) hb);replace HO197:=zh (yg (by (with_reducible repeat (first|apply zm|apply zn|apply zo));exact HO197.out) hb);replace BK181:=zh (zD (g:=gb181) (o:=.cells #[.string a0_0,.slice A0_1 l0_1.length c0_1] 24 (0,0)) (by (with_reducible repeat (first|refine ze ?_ _|refine zf ?_|refine zg ?_ _));exact BK181.out) hb);replace BK192:=zh (zD (g:=gb192) (o:=.cells #[.string t188,.slice Ao41 t189.length co41] 29 (0,0)) (by (with_reducible repeat (first|refine ze ?_ _|refine zf ?_|refine zg ?_ _));exact BK192.out) hb);replace HB:=zh (zC (by repeat (with_reducible first|exact HB.out|apply za|apply zb|apply zc|refine zd ?_ GE181.out|refine zd ?_ GE192.out)) hb);(try clear hb);(try clear hb2);(try clear hk);(try clear hi);refine hK.out _ _ ⟨(zz BK192.out 0).trans rfl,(zz BK192.out 1).trans rfl,(zz BK181.out 0).trans rfl,(zz BK181.out 1).trans rfl⟩ (fun hHeld => ?_);clear hK K;refine norm_ (a':=?_) ?_ ?_;rotate_left
  ·
   show Act.put _ (some 25) _=_
   simp only [Act.put,zi,zj,zk,zG,zH]
   rfl
  refine pure_ (i:=4) (N:=some 26) (v:=?_) (a':=?_) #[true,true,true,true,true] rfl rfl (by kernel_rfl) (fun _ _ _ h => h) (Or.inl ⟨by rfl,?_⟩) ?_ ?_;rotate_left
  ·
   intro w'
   go_simp
   with_reducible rfl
  rotate_left
  ·
   simp only [Act.put,zi,zj,zk,zG,zH]
   rfl
  refine done_ (by kernel_rfl) ?_
  try go_wp2
  go_ret
  exact ⟨by first|rfl|(simp [yt,yu] <;> rfl)|(simp [*,yt,yu] <;> rfl),by repeat (with_reducible first|exact HB.out|apply za|apply zb|apply zc|refine zd ?_ GE181.out|refine zd ?_ GE192.out)⟩
 replace c28:=yb.mpr c28;subst c28;have H1 : (some false)=some r:=by rw [if_neg (show ¬ (false=true) by decide)] at H;exact H
 clear H;have H:=H1;clear H1;obtain rfl:=zU H
 go_enter Tryd.func3,Tryd.ntmps3
 try go_wp2_with (first|((with_reducible refine zK (N:=1) rfl ?_);refine zI ?hg (N:=1) ?hd (cs:=#[.string a0_0,.slice A0_1 l0_1.length c0_1]) (t:=24) ?hr ?_;(case hd => rfl);(case hg => rfl);(case hr => first|(go_simp;done)|(go_simp;rfl));intro gb181 hg w47 hbox hb;have BK181:=zh (hbox);have GW181:=zh ((by rw [hg];exact (zB (by repeat (with_reducible first|exact HB.out|apply za|apply zb|apply zc))) : w.heap.size≤gb181));have GE181:=zh ((by rw [hg];exact (zB (by repeat (with_reducible first|exact HB.out|apply za|apply zb|apply zc))) : w.heap.size≤gb181));replace HB:=zh (zC (by repeat (with_reducible first|exact HB.out|apply za|apply zb|apply zc)) hb);clear hb hbox hg;have hcz48_0 : w47.cell? ⟨gb181,0,none⟩=some (.string a0_0):=(zz BK181.out 0).trans rfl;have hcz48_1 : w47.cell? ⟨gb181,1,none⟩=some (.slice A0_1 l0_1.length c0_1):=(zz BK181.out 1).trans rfl;have hfz48_0:=zA BK181.out 0;have hfz48_1:=zA BK181.out 1)|((with_reducible refine zJ (f:=7) rfl ?_);refine yj (some 9) rfl rfl Tryd.func7 (by kernel_rfl) rfl #[.agg #[.string a0_0,.slice A0_1 l0_1.length c0_1],.int .i64 1048576] rfl (by (try simp only [zt,zu,zv]);first|done|rfl|(simp only [zw,zx];rfl)|(simp only [yr,ys,zV,zW];rfl)) ?_;(with_reducible refine (laws_szDef.calls k  a0_0 _ _ l0_1 1048576 t182 _ ?side1 ?side2 A2.out).mono ?_);(case side1 => repeat (first|exact (Kd.C_below HR0_1.out HB.out)|(with_reducible refine Kd.C_alloc ?_ _)|(with_reducible refine Kd.C_drewN ?_ _)|(with_reducible refine Kd.C_drew ?_)));(case side2 => exact HC0_1.out);rintro e w49 ⟨rfl,hb⟩;refine ⟨_,rfl,?_⟩;replace BK181:=zh (zD (g:=gb181) (o:=.cells #[.string a0_0,.slice A0_1 l0_1.length c0_1] 24 (0,0)) (by (with_reducible repeat (first|refine ze ?_ _|refine zf ?_|refine zg ?_ _));exact BK181.out) hb);replace HB:=zh (zC (by repeat (with_reducible first|exact HB.out|apply za|apply zb|apply zc|refine zd ?_ GE181.out)) hb);(try clear hb);(try clear hb2);(try clear hk);(try clear hi);have hcz50_0 : w49.cell? ⟨gb181,0,none⟩=some (.string a0_0):=(zz BK181.out 0).trans rfl;have hcz50_1 : w49.cell? ⟨gb181,1,none⟩=some (.slice A0_1 l0_1.length c0_1):=(zz BK181.out 1).trans rfl;have hfz50_0:=zA BK181.out 0;have hfz50_1:=zA BK181.out 1)|((with_reducible refine zJ (f:=9) rfl ?_);refine yj (some 13) rfl rfl Tryd.func9 (by kernel_rfl) rfl #[.agg #[.string a0_0,.slice A0_1 l0_1.length c0_1]] rfl (by (try simp only [zt,zu,zv]);first|done|rfl|(simp only [zw,zx];rfl)|(simp only [yr,ys,zV,zW];rfl)) ?_;(with_reducible refine (laws_toDef.calls k  a0_0 _ _ l0_1 t183 t184 _ ?side1 ?side2 A7.out).mono ?_);(case side1 => repeat (first|exact (Kd.C_below HR0_1.out HB.out)|(with_reducible refine Kd.C_alloc ?_ _)|(with_reducible refine Kd.C_drewN ?_ _)|(with_reducible refine Kd.C_drew ?_)));(case side2 => exact HC0_1.out);rintro e w51 ⟨v185,rfl,ho0,hb⟩;refine ⟨_,rfl,?_⟩;have HO186:=zh (yy ho0 (zB (by repeat (with_reducible first|exact HB.out|apply za|apply zb|apply zc|refine zd ?_ GE181.out))));replace BK181:=zh (zD (g:=gb181) (o:=.cells #[.string a0_0,.slice A0_1 l0_1.length c0_1] 24 (0,0)) (by (with_reducible repeat (first|refine ze ?_ _|refine zf ?_|refine zg ?_ _));exact BK181.out) hb);replace HB:=zh (zC (by repeat (with_reducible first|exact HB.out|apply za|apply zb|apply zc|refine zd ?_ GE181.out)) hb);(try clear hb);(try clear hb2);(try clear hk);(try clear hi);(try clear ho0);obtain ⟨Ao52,co52,eo52⟩:=yk HO186.out;subst eo52)|((with_reducible refine zJ (f:=8) rfl ?_);refine yj (some 14) rfl rfl Tryd.func8 (by kernel_rfl) rfl #[.agg #[.string t183,.slice Ao52 t184.length co52]] rfl (by (try simp only [zt,zu,zv]);first|done|rfl|(simp only [zw,zx];rfl)|(simp only [yr,ys,zV,zW];rfl)) ?_;(with_reducible refine (spec_DefOK.calls k  t183 _ _ t184 t187 _ ?side1 ?side2 A8.out).mono ?_);(case side1 => repeat (first|exact (yh HO186.out).2.2|(with_reducible refine Kd.C_alloc ?_ _)|(with_reducible refine Kd.C_drewN ?_ _)|(with_reducible refine Kd.C_drew ?_)));(case side2 => exact (yh HO186.out).2.1);rintro e w53 ⟨rfl,hb⟩;refine ⟨_,rfl,?_⟩;replace HO186:=zh (yg (by (with_reducible repeat (first|apply zm|apply zn|apply zo));exact HO186.out) hb);replace BK181:=zh (zD (g:=gb181) (o:=.cells #[.string a0_0,.slice A0_1 l0_1.length c0_1] 24 (0,0)) (by (with_reducible repeat (first|refine ze ?_ _|refine zf ?_|refine zg ?_ _));exact BK181.out) hb);replace HB:=zh (zC (by repeat (with_reducible first|exact HB.out|apply za|apply zb|apply zc|refine zd ?_ GE181.out)) hb);(try clear hb);(try clear hb2);(try clear hk);(try clear hi);have hcz54_0 : w53.cell? ⟨gb181,0,none⟩=some (.string a0_0):=(zz BK181.out 0).trans rfl;have hcz54_1 : w53.cell? ⟨gb181,1,none⟩=some (.slice A0_1 l0_1.length c0_1):=(zz BK181.out 1).trans rfl;have hfz54_0:=zA BK181.out 0;have hfz54_1:=zA BK181.out 1)|((with_reducible refine zJ (f:=9) rfl ?_);refine yj (some 16) rfl rfl Tryd.func9 (by kernel_rfl) rfl #[.agg #[.string a0_0,.slice A0_1 l0_1.length c0_1]] rfl (by (try simp only [zt,zu,zv]);first|done|rfl|(simp only [zw,zx];rfl)|(simp only [yr,ys,zV,zW];rfl)) ?_;(with_reducible refine (laws_toDef.calls k  a0_0 _ _ l0_1 t188 t189 _ ?side1 ?side2 A9.out).mono ?_);(case side1 => repeat (first|exact (Kd.C_below HR0_1.out HB.out)|(with_reducible refine Kd.C_alloc ?_ _)|(with_reducible refine Kd.C_drewN ?_ _)|(with_reducible refine Kd.C_drew ?_)));(case side2 => exact HC0_1.out);rintro e w55 ⟨v190,rfl,ho0,hb⟩;refine ⟨_,rfl,?_⟩;have HO191:=zh (yy (Kd.R_new' ho0 (Kd.R_lt (by (with_reducible repeat (first|apply zm|apply zn|apply zo));exact HO186.out))) (zB (by repeat (with_reducible first|exact HB.out|apply za|apply zb|apply zc|refine zd ?_ GE181.out))));replace HO186:=zh (Kd.R_elder' (by (with_reducible repeat (first|apply zm|apply zn|apply zo));exact HO186.out) (Kd.R_base ho0) hb);replace BK181:=zh (zD (g:=gb181) (o:=.cells #[.string a0_0,.slice A0_1 l0_1.length c0_1] 24 (0,0)) (by (with_reducible repeat (first|refine ze ?_ _|refine zf ?_|refine zg ?_ _));exact BK181.out) hb);replace HB:=zh (zC (by repeat (with_reducible first|exact HB.out|apply za|apply zb|apply zc|refine zd ?_ GE181.out)) hb);(try clear hb);(try clear hb2);(try clear hk);(try clear hi);(try clear ho0))|((with_reducible refine zK (N:=5) rfl ?_);refine zI ?hg (N:=5) ?hd (cs:=#[.string (⟨#[]⟩ : ByteArray),.slice none 0 0]) (t:=29) ?hr ?_;(case hd => rfl);(case hg => rfl);(case hr => first|(go_simp;done)|(go_simp;rfl));intro gb192 hg w56 hbox hb;replace HO186:=zh (yg (by (with_reducible repeat (first|apply zm|apply zn|apply zo));exact HO186.out) hb);replace HO191:=zh (yg (by (with_reducible repeat (first|apply zm|apply zn|apply zo));exact HO191.out) hb);have BK192:=zh (hbox);have GW192:=zh ((by rw [hg];exact (zB (by repeat (with_reducible first|exact HB.out|apply za|apply zb|apply zc|refine zd ?_ GE181.out))) : w.heap.size≤gb192));have GE192:=zh ((by rw [hg];exact (zB (by repeat (with_reducible first|exact HB.out|apply za|apply zb|apply zc|refine zd ?_ GE181.out))) : w.heap.size≤gb192));replace HB:=zh (zC (by repeat (with_reducible first|exact HB.out|apply za|apply zb|apply zc|refine zd ?_ GE181.out)) hb);have NB181_192:=zh ((by rw [hg];exact yc (yi (g:=gb181) (o:=.cells #[.string a0_0,.slice A0_1 l0_1.length c0_1] 24 (0,0)) (by (with_reducible repeat (first|refine ze ?_ _|refine zf ?_|refine zg ?_ _));exact BK181.out)) : gb181≠gb192));have NB192_181:=zh ((by rw [hg];exact yd (yi (g:=gb181) (o:=.cells #[.string a0_0,.slice A0_1 l0_1.length c0_1] 24 (0,0)) (by (with_reducible repeat (first|refine ze ?_ _|refine zf ?_|refine zg ?_ _));exact BK181.out)) : gb192≠gb181));replace BK181:=zh (zD (g:=gb181) (o:=.cells #[.string a0_0,.slice A0_1 l0_1.length c0_1] 24 (0,0)) (by (with_reducible repeat (first|refine ze ?_ _|refine zf ?_|refine zg ?_ _));exact BK181.out) hb);clear hb hbox hg;have hnb57:=NB192_181.out;have hnc57:=NB181_192.out;have hcz58_0 : w56.cell? ⟨gb192,0,none⟩=some (.string (⟨#[]⟩ : ByteArray)):=(zz BK192.out 0).trans rfl;have hcz58_1 : w56.cell? ⟨gb192,1,none⟩=some (.slice none 0 0):=(zz BK192.out 1).trans rfl;have hfz58_0:=zA BK192.out 0;have hfz58_1:=zA BK192.out 1;obtain ⟨Ao59,co59,eo59⟩:=yk HO191.out;subst eo59)|((with_reducible refine zJ (f:=10) rfl ?_);refine yj (some 18) rfl rfl Tryd.func10 (by kernel_rfl) rfl #[.agg #[.string t188,.slice Ao59 t189.length co59]] rfl (by (try simp only [zt,zu,zv]);first|done|rfl|(simp only [zw,zx];rfl)|(simp only [yr,ys,zV,zW];rfl)) ?_;(with_reducible refine (impl_DefOK.calls k  t188 _ _ t189 t193 _ ?side1 ?side2 A10.out).mono ?_);(case side1 => refine (yh (e:=62) (base:=w.heap.size) (ok:=fun k_ => (True∧some k_≠(.slice Ao52 t184.length co52 : Value).ownBlock)) (n:=t189.length) (c:=co59) ?_).2.2;exact (by (with_reducible repeat (first|apply zm|apply zn|apply zo));exact (zM (zE (p:=⟨gb192,1,none⟩) (zE (p:=⟨gb192,0,none⟩) (yf HO191.out BK192.out (by decide)) (fun _ hk => hk.2) (.string t188)) (fun _ hk => hk.2) (.slice Ao59 t189.length co59)) (fun _ h_ => h_.1))));(case side2 => exact (yh HO191.out).2.1);rintro e w60 ⟨rfl,hb⟩;refine ⟨_,rfl,?_⟩;replace HO186:=zh (yg (by (with_reducible repeat (first|apply zm|apply zn|apply zo));exact (zM (zE (p:=⟨gb192,1,none⟩) (zE (p:=⟨gb192,0,none⟩) (yf HO186.out BK192.out (by decide)) (fun _ hk => hk.2) (.string t188)) (fun _ hk => hk.2) (.slice Ao59 t189.length co59)) (fun _ h_ => h_.1))) hb);replace HO191:=zh (yg (by (with_reducible repeat (first|apply zm|apply zn|apply zo));exact (zM (zE (p:=⟨gb192,1,none⟩) (zE (p:=⟨gb192,0,none⟩) (yf HO191.out BK192.out (by decide)) (fun _ hk => hk.2) (.string t188)) (fun _ hk => hk.2) (.slice Ao59 t189.length co59)) (fun _ h_ => h_.1))) hb);replace BK181:=zh (zD (g:=gb181) (o:=.cells #[.string a0_0,.slice A0_1 l0_1.length c0_1] 24 (0,0)) (by (with_reducible repeat (first|refine ze ?_ _|refine zf ?_|refine zg ?_ _));refine zS ?_ NB181_192.out _;(with_reducible repeat (first|refine ze ?_ _|refine zf ?_|refine zg ?_ _));refine zS ?_ NB181_192.out _;(with_reducible repeat (first|refine ze ?_ _|refine zf ?_|refine zg ?_ _));exact BK181.out) hb);replace BK192:=zh (zD (g:=gb192) (o:=.cells #[.string t188,.slice Ao59 t189.length co59] 29 (0,0)) (by (with_reducible repeat (first|refine ze ?_ _|refine zf ?_|refine zg ?_ _));refine zL (cs:=#[.string t188,.slice none 0 0]) ?_ 1 _ rfl;(with_reducible repeat (first|refine ze ?_ _|refine zf ?_|refine zg ?_ _));refine zL (cs:=#[.string (⟨#[]⟩ : ByteArray),.slice none 0 0]) ?_ 0 _ rfl;(with_reducible repeat (first|refine ze ?_ _|refine zf ?_|refine zg ?_ _));exact BK192.out) hb);replace HB:=zh (zC (by repeat (with_reducible first|exact HB.out|apply za|apply zb|apply zc|refine zd ?_ GE181.out|refine zd ?_ GE192.out)) hb);(try clear hb);(try clear hb2);(try clear hk);(try clear hi)))
 replace HO186:=zh (zo HO186.out);replace HO191:=zh (zo HO191.out);replace BK181:=zh (zf BK181.out);replace BK192:=zh (zf BK192.out);replace HB:=zh (zc HB.out);refine start_ (n:=5) (S:=fun w' => w'.cell? ⟨gb192,0,none⟩=some (.string t188)∧w'.cell? ⟨gb192,1,none⟩=some (.slice Ao59 t189.length co59)∧w'.cell? ⟨gb181,0,none⟩=some (.string a0_0)∧w'.cell? ⟨gb181,1,none⟩=some (.slice A0_1 l0_1.length c0_1)) (ds:=[]) #[false,false,false,false,false] (by kernel_rfl) rfl rfl ⟨(zz BK192.out 0).trans rfl,(zz BK192.out 1).trans rfl,(zz BK181.out 0).trans rfl,(zz BK181.out 1).trans rfl⟩ (fun hHeld => ?_);generalize w60.drew=w61 at HO186 HO191 BK181 BK192 HB hHeld ⊢;refine take_ (i:=0) (N:=some 22) (v:=?_) (a':=?_) #[true,false,false,false,false] rfl rfl (by kernel_rfl) (fun _ _ _ h => h) (Or.inl ⟨by rfl,?_⟩) hHeld ?_ ?_;rotate_left
 ·
  rintro w' ⟨s0,s1,s2,s3⟩
  go_simp
  with_reducible rfl
 rotate_left
 ·
  simp only [Act.put,zi,zj,zk,zG,zH]
  rfl
 refine take_ (i:=1) (N:=some 23) (v:=?_) (a':=?_) #[true,true,false,false,false] rfl rfl (by kernel_rfl) (fun _ _ _ h => h) (Or.inl ⟨by rfl,?_⟩) hHeld ?_ ?_;rotate_left
 ·
  rintro w' ⟨s0,s1,s2,s3⟩
  go_simp
  with_reducible rfl
 rotate_left
 ·
  simp only [Act.put,zi,zj,zk,zG,zH]
  rfl
 refine one_ (i:=2) (N:=some 24) #[true,true,true,false,false] rfl rfl (by kernel_rfl) (by decide) (fun K hK => ?_);refine goes_ Tryd.func9 (by kernel_rfl) rfl #[.agg #[.string a0_0,.slice A0_1 l0_1.length c0_1]] (by rfl) rfl rfl (by (try simp only [zt,zu,zv]);first|done|rfl|(simp only [zw,zx];rfl)|(simp only [yr,ys,zV,zW];rfl)) ?_
 with_reducible refine (laws_toDef.calls k  a0_0 _ _ l0_1 t194 t195 _ ?side1 ?side2 A26.out).mono ?_
 (case side1 => repeat (first|exact (Kd.C_below HR0_1.out HB.out)|(with_reducible refine Kd.C_alloc ?_ _)|(with_reducible refine Kd.C_drewN ?_ _)|(with_reducible refine Kd.C_drew ?_)))
 (case side2 => exact HC0_1.out)
 rintro e w62 ⟨v196,rfl,ho0,hb⟩;refine ⟨_,rfl,?_⟩;have HO197:=zh (yy (Kd.R_new' (Kd.R_new' ho0 (Kd.R_lt (by (with_reducible repeat (first|apply zm|apply zn|apply zo));exact HO186.out))) (Kd.R_lt (by (with_reducible repeat (first|apply zm|apply zn|apply zo));exact HO191.out))) (zB (by repeat (with_reducible first|exact HB.out|apply za|apply zb|apply zc|refine zd ?_ GE181.out|refine zd ?_ GE192.out))));replace HO186:=zh (Kd.R_elder' (by (with_reducible repeat (first|apply zm|apply zn|apply zo));exact HO186.out) (Kd.R_base ho0) hb);replace HO191:=zh (Kd.R_elder' (by (with_reducible repeat (first|apply zm|apply zn|apply zo));exact HO191.out) (Kd.R_base ho0) hb);replace BK181:=zh (zD (g:=gb181) (o:=.cells #[.string a0_0,.slice A0_1 l0_1.length c0_1] 24 (0,0)) (by (with_reducible repeat (first|refine ze ?_ _|refine zf ?_|refine zg ?_ _));exact BK181.out) hb);replace BK192:=zh (zD (g:=gb192) (o:=.cells #[.string t188,.slice Ao59 t189.length co59] 29 (0,0)) (by (with_reducible repeat (first|refine ze ?_ _|refine zf ?_|refine zg ?_ _));exact BK192.out) hb);replace HB:=zh (zC (by repeat (with_reducible first|exact HB.out|apply za|apply zb|apply zc|refine zd ?_ GE181.out|refine zd ?_ GE192.out)) hb);(try clear hb);(try clear hb2);(try clear hk);(try clear hi);(try clear ho0);obtain ⟨Ao63,co63,eo63⟩:=yk HO197.out;(first|subst eo63|(injection eo63 with f1_ f2_ f3_;have f4_:=f1_.symm;have f5_:=f3_.symm;clear f1_ f2_ f3_;subst f4_;subst f5_));refine hK.out _ _ ⟨(zz BK192.out 0).trans rfl,(zz BK192.out 1).trans rfl,(zz BK181.out 0).trans rfl,(zz BK181.out 1).trans rfl⟩ (fun hHeld => ?_);clear hK K;refine norm_ (a':=?_) ?_ ?_;rotate_left
 ·
  show Act.put _ (some 24) _=_
  simp only [Act.put,zi,zj,zk,zG,zH]
  rfl
 refine one_ (i:=3) (N:=some 25) #[true,true,true,true,false] rfl rfl (by kernel_rfl) (by decide) (fun K hK => ?_);refine goes_ Tryd.func11 (by kernel_rfl) rfl #[.agg #[.string t188,.slice Ao59 t189.length co59],.agg #[.string t194,.slice Ao63 t195.length co63]] (by rfl) rfl rfl (by (try simp only [zt,zu,zv]);first|done|rfl|(simp only [zw,zx];rfl)|(simp only [yr,ys,zV,zW];rfl)) ?_
 with_reducible refine (laws_eqDef.calls k  t188 _ _ t189 t194 _ _ t195 false _ ?side1 ?side2 ?side3 ?side4 A27.out).mono ?_
 (case side1 => repeat (first|exact (yh HO191.out).2.2|(with_reducible refine Kd.C_alloc ?_ _)|(with_reducible refine Kd.C_drewN ?_ _)|(with_reducible refine Kd.C_drew ?_)))
 (case side2 => exact (yh HO191.out).2.1)
 (case side3 => repeat (first|exact (yh HO197.out).2.2|(with_reducible refine Kd.C_alloc ?_ _)|(with_reducible refine Kd.C_drewN ?_ _)|(with_reducible refine Kd.C_drew ?_)))
 (case side4 => exact (yh HO197.out).2.1)
 rintro e w64 ⟨rfl,hb⟩;refine ⟨_,rfl,?_⟩;replace HO186:=zh (yg (by (with_reducible repeat (first|apply zm|apply zn|apply zo));exact HO186.out) hb);replace HO191:=zh (yg (by (with_reducible repeat (first|apply zm|apply zn|apply zo));exact HO191.out) hb);replace HO197:=zh (yg (by (with_reducible repeat (first|apply zm|apply zn|apply zo));exact HO197.out) hb);replace BK181:=zh (zD (g:=gb181) (o:=.cells #[.string a0_0,.slice A0_1 l0_1.length c0_1] 24 (0,0)) (by (with_reducible repeat (first|refine ze ?_ _|refine zf ?_|refine zg ?_ _));exact BK181.out) hb);replace BK192:=zh (zD (g:=gb192) (o:=.cells #[.string t188,.slice Ao59 t189.length co59] 29 (0,0)) (by (with_reducible repeat (first|refine ze ?_ _|refine zf ?_|refine zg ?_ _));exact BK192.out) hb);replace HB:=zh (zC (by repeat (with_reducible first|exact HB.out|apply za|apply zb|apply zc|refine zd ?_ GE181.out|refine zd ?_ GE192.out)) hb);(try clear hb);(try clear hb2);(try clear hk);(try clear hi);refine hK.out _ _ ⟨(zz BK192.out 0).trans rfl,(zz BK192.out 1).trans rfl,(zz BK181.out 0).trans rfl,(zz BK181.out 1).trans rfl⟩ (fun hHeld => ?_);clear hK K;refine norm_ (a':=?_) ?_ ?_;rotate_left
 ·
  show Act.put _ (some 25) _=_
  simp only [Act.put,zi,zj,zk,zG,zH]
  rfl
 refine pure_ (i:=4) (N:=some 26) (v:=?_) (a':=?_) #[true,true,true,true,true] rfl rfl (by kernel_rfl) (fun _ _ _ h => h) (Or.inl ⟨by rfl,?_⟩) ?_ ?_;rotate_left
 ·
  intro w'
  go_simp
  with_reducible rfl
 rotate_left
 ·
  simp only [Act.put,zi,zj,zk,zG,zH]
  rfl
 refine done_ (by kernel_rfl) ?_
 try go_wp2
 go_ret
 exact ⟨by first|rfl|(simp [yt,yu] <;> rfl)|(simp [*,yt,yu] <;> rfl),by repeat (with_reducible first|exact HB.out|apply za|apply zb|apply zc|refine zd ?_ GE181.out|refine zd ?_ GE192.out)⟩

end Go.Proofs.YthjgfjlogilleaaDoor.Q
end
section
namespace Go.Proofs.YthjgfjlogilleaaDoorW.PrintOpen
open Go.RowKit Go.ChangeShapes Go.WideShapes Go.ChangeAt Go.Proofs.YthjgfjlogilleaaDoorW.PrintWords
def Opens {α : Type} (P : Program) (d : Kd α) (t : TypeId) (good : α→Prop) : Prop :=
 ∀ (H : Type) (enc : TypeId×Value→H) (w : World) (base : Nat) (spare : Nat→Bool) (held : Bool) (fuel : Nat) (cs : List Value) (x : DataW H×List MemPlace),
  DataW.trod enc P w base spare held fuel t cs=some x → ∃ a,d.K w a cs∧good a
variable {P : Program}
theorem opens_bool {t : TypeId} (ht : P.underlying t=some .bool) : Opens P Kd.bool t (fun _ => True):=by
 intro H enc w base spare held fuel cs x h;obtain ⟨b,hcs,_⟩:=DataW.trod_bool ht h;exact ⟨b,hcs,trivial⟩
theorem opens_string {t : TypeId} (ht : P.underlying t=some .string) : Opens P Kd.string t (fun s => s.size≤9223372036854775807):=by
 intro H enc w base spare held fuel cs x h;obtain ⟨s,hcs,_,hs⟩:=DataW.trod_string ht h;exact ⟨s,hcs,by unfold maxLen at hs;exact hs⟩
theorem opens_slice {α : Type} {t e : TypeId} {d : Kd α} {g : α→Prop} (ht : P.underlying t=some (.slice e)) (hc : P.cellsOf e=d.sz) (he : Opens P d e g) :
  Opens P (Kd.slice e d) t (fun l => l.length≤9223372036854775807 ∧ ∀ x ∈ l,g x):=by
 intro H enc w base spare held fuel cs x h;rcases Deep.open_slice ht h with ⟨rfl,_⟩|⟨a,len,cap,m,n,D,Pl,rfl,_,hl,hm,hmm,_,hx⟩
 ·
  exact ⟨[],⟨none,0,rfl,Nat.le_refl _,rfl,by simp,fun h0 => absurd h0 (by simp)⟩,by simp,by simp⟩
 have hlm : len≤m:=by rw [hmm];split <;> omega
 have hall : ∀ i : Fin len,∃ v : α×List Value,w.cells? base (a.add (i.1 * P.cellsOf e)) (P.cellsOf e)=some v.2∧d.K w v.1 v.2∧g v.1:=fun i => by
  obtain ⟨cs',h1,h2⟩:=hx i.1 (by have:=i.2;omega);obtain ⟨a',hk,hg⟩:=he H enc w base spare held n cs' _ h2;exact ⟨(a',cs'),h1,hk,hg⟩
 obtain ⟨V,hV⟩:=Classical.axiomOfChoice hall;have hmax : len≤9223372036854775807:=by unfold maxLen at hm;omega
 have hlen : (List.ofFn fun i => (V i).1).length=len:=List.length_ofFn;refine ⟨List.ofFn fun i => (V i).1,⟨some a,cap,by rw [hlen],by rw [hlen];exact hl,rfl,by rw [hlen];exact hmax,fun _ => ⟨a,rfl,?_⟩⟩,by rw [hlen];exact hmax,?_⟩
 ·
  intro j p hj
  have hjl : j<len:=by
   have:=(List.getElem?_eq_some_iff.1 hj).1
   omega
  rw [List.getElem?_ofFn,dif_pos hjl] at hj;obtain rfl:=Option.some.inj hj;obtain ⟨h1,h2,_⟩:=hV ⟨j,hjl⟩;obtain ⟨_,hlen2,hcell⟩:=World.cells?_some h1;refine ⟨(V ⟨j,hjl⟩).2,by rw [← hc];exact hlen2,h2,fun q u hu => ?_⟩
  have hq : q<P.cellsOf e:=by
   have:=(List.getElem?_eq_some_iff.1 hu).1
   omega
  have h3:=hcell q hq;rw [Deep.add_add,hu,hc] at h3;exact h3
 intro x hx;obtain ⟨i,rfl⟩:=List.mem_ofFn.1 hx;exact (hV i).2.2
def OpensF {α : Type} (P : Program) (d : Kd α) (fs : List Field) (off : Nat) (good : α→Prop) : Prop :=
 ∀ (H : Type) (enc : TypeId×Value→H) (w : World) (base : Nat) (spare : Nat→Bool) (held : Bool) (fuel : Nat) (cs : List Value),off + d.sz≤cs.length →
  (∀ f ∈ fs,∃ x,DataW.trod enc P w base spare held fuel f.type ((cs.drop f.offset).take (P.cellsOf f.type))=some x) → ∃ a,d.K w a ((cs.drop off).take d.sz)∧good a
theorem opensF_one {α : Type} {d : Kd α} {f : Field} {off : Nat} {g : α→Prop} (ho : f.offset=off) (hc : P.cellsOf f.type=d.sz) (h : Opens P d f.type g) : OpensF P d [f] off g:=by
 intro H enc w base spare held fuel cs _ hf;obtain ⟨x,hx⟩:=hf f (by simp);obtain ⟨a,hk,hg⟩:=h H enc w base spare held fuel _ x hx;rw [ho,hc] at hk;exact ⟨a,hk,hg⟩
theorem opensF_cons {α β : Type} {d : Kd α} {d' : Kd β} {f : Field} {fs : List Field} {off : Nat} {g : α→Prop} {g' : β→Prop} (ho : f.offset=off) (hc : P.cellsOf f.type=d.sz) (h : Opens P d f.type g) (h' : OpensF P d' fs (off + d.sz) g') :
  OpensF P (Kd.pair d d') (f :: fs) off (fun x => g x.1∧g' x.2):=by
 intro H enc w base spare held fuel cs hl hf;obtain ⟨x,hx⟩:=hf f (by simp);obtain ⟨a,hk,hg⟩:=h H enc w base spare held fuel _ x hx;have hl2 : off + (d.sz + d'.sz)≤cs.length:=hl;obtain ⟨b,hk',hg'⟩:=h' H enc w base spare held fuel cs (by omega) (fun f' hf' => hf f' (by simp [hf']));rw [ho,hc] at hk;refine ⟨(a,b),⟨_,_,?_,hk,hk'⟩,hg,hg'⟩;show (cs.drop off).take (d.sz + d'.sz)=_;rw [List.take_add,List.drop_drop]
theorem opens_struct {α β : Type} {t : TypeId} {fs : Array Field} {d : Kd α} {g : α→Prop} {f : β→α} (f' : α→β) (hf : ∀ a,f (f' a)=a) (ht : P.underlying t=some (.struct fs)) (hc : P.cellsOf t=d.sz) (h : OpensF P d fs.toList 0 g) :
  Opens P (Kd.iso d f) t (fun b => g (f b)):=by
 intro H enc w base spare held fuel cs x hx;obtain ⟨xs,n,_,_,hl,hlen,hxs⟩:=DataW.trod_struct ht hx
 obtain ⟨a,hk,hg⟩:=h H enc w base spare held n cs (by omega) (fun y hy => by
  obtain ⟨i,hi⟩:=List.mem_iff_getElem?.1 hy;have:=hxs i y (by simpa using hi)
  have hlt : i<xs.length:=by
   have:=(List.getElem?_eq_some_iff.1 hi).1;rw [hlen]
   simpa using this
  rw [List.getElem?_eq_getElem hlt] at this
  exact ⟨_,this⟩)
 rw [List.drop_zero,show d.sz=cs.length by omega,List.take_length] at hk;exact ⟨f' a,by show d.K w (f (f' a)) cs;rw [hf];exact hk,by show g (f (f' a));rw [hf];exact hg⟩
theorem arg_struct {α : Type} {d : Kd α} {t : TypeId} {fs : Array Field} {g : α→Prop} {H : Type} {enc : TypeId×Value→H} {w : World} {base b0 : Nat} {spare : Nat→Bool} {held : Bool} {r : Reach} {v : Value} {dd : DataW H} {p : List MemPlace}
  (ht : P.underlying t=some (.struct fs)) (h : Opens P d t g) (hv : Value.okWide P w r b0 t v) (hd : DataW.Trod enc P w base spare held t v dd p) : ∃ (a : α) (cs : List Value),v = .agg ⟨cs⟩∧d.K w a cs∧g a:=by
 obtain ⟨cs,rfl,_⟩:=okWide_struct ht hv;obtain ⟨fuel,hf⟩:=hd;obtain ⟨a,hk,hg⟩:=h H enc w base spare held fuel _ _ hf;exact ⟨a,cs.toList,rfl,hk,hg⟩
end Go.Proofs.YthjgfjlogilleaaDoorW.PrintOpen
end
section
namespace Go.Proofs.YthjgfjlogilleaaDoor.Q
open Go.RowKit Go.Proofs.YthjgfjlogilleaaDoorW.PrintWords Go.Proofs.YthjgfjlogilleaaDoorW.PrintLast Go.Proofs.YthjgfjlogilleaaDoorW.PrintMore Go.Proofs.YthjgfjlogilleaaDoorW.PrintOpen
def good73 (x_ : S73) : Prop:=(x_.f0.size≤9223372036854775807)∧((True))
theorem opens73 : Opens Tryd.prog k73 73 good73 :=
 opens_struct (f:=(fun x : S73 => (x.f0,x.f1))) (fun ⟨x0,x1⟩ => ⟨x0,x1⟩) (fun _ => rfl) Tryd.underlying73 (by kernel_rfl) (opensF_cons rfl (by kernel_rfl) (opens_string Tryd.underlying9) (opensF_one rfl (by kernel_rfl) (opens_bool Tryd.underlying4)))
def good24 (x_ : S24) : Prop:=(x_.f0.size≤9223372036854775807)∧(((x_.f1.length≤9223372036854775807 ∧ ∀ y0_ ∈ x_.f1,good73 y0_)))
theorem opens24 : Opens Tryd.prog k24 24 good24 :=
 opens_struct (f:=(fun x : S24 => (x.f0,x.f1))) (fun ⟨x0,x1⟩ => ⟨x0,x1⟩) (fun _ => rfl) Tryd.underlying24 (by kernel_rfl) (opensF_cons rfl (by kernel_rfl) (opens_string Tryd.underlying9) (opensF_one rfl (by kernel_rfl) (opens_slice Tryd.underlying22 (by kernel_rfl) opens73)))
def good34 (x_ : S34) : Prop:=((Lit.int .i64 x_.f0).wf=true)∧(((Lit.int .i64 x_.f1).wf=true)∧((x_.f2.size≤9223372036854775807)))
def good36 (x_ : S36) : Prop:=((Lit.int .i64 x_.f0).wf=true)∧((x_.f1.size≤9223372036854775807)∧((good34 x_.f2)))
def good44 (x_ : S44) : Prop:=((Lit.int .i64 x_.f0).wf=true)∧((x_.f1.size≤9223372036854775807)∧((good34 x_.f2)))
end Go.Proofs.YthjgfjlogilleaaDoor.Q
end
section
namespace Go.Proofs.YthjgfjlogilleaaDoor.Q
def laws_FnExactDefOK.Pure : Prop:=∀ (x0 : S24),(good24 x0) → ∃ k,laws_FnExactDefOK.f k x0.f0 x0.f1=some true
end Go.Proofs.YthjgfjlogilleaaDoor.Q
end
section
namespace Go.Proofs.YthjgfjlogilleaaDoorW.Pl
open Go Go.RowKit Go.Proofs.YthjgfjlogilleaaDoorW.PrintWords Go.Proofs.YthjgfjlogilleaaDoorW.PrintMore
theorem w64 {i : Int} (h0 : -9223372036854775808≤i) (h1 : i≤9223372036854775807) : wrap64 i=i:=by unfold wrap64;omega
theorem fuel {k d : Nat} (h : d<k) : ∃ m,k=m + 1∧d≤m:=⟨k - 1,by omega,by omega⟩
theorem rdOf_at {α : Type} (d : α) (xs : List α) (i : Nat) (h : i<xs.length) : rdOf d xs (i : Int)=xs[i]:=by
 unfold rdOf;simp [List.getD,h]
theorem rd_at (xs : List Int) (i : Nat) (h : i<xs.length) : rd xs (i : Int)=xs[i]:=by
 unfold rd;simp [List.getD,h]
theorem getD_at {α : Type} (d : α) (xs : List α) (i : Nat) (h : i<xs.length) : xs.getD (i : Int).toNat d=xs[i]:=by
 simp [List.getD,h]
theorem drop_at {α : Type} (xs : List α) (i : Nat) (h : i<xs.length) : xs.drop i=xs[i] :: xs.drop (i + 1):=List.drop_eq_getElem_cons h
def all2 {α β : Type} (e : α→β→Bool) : List α→List β→Bool
 | [],_ => true
 | _ :: _,[] => true
 | x :: xs,y :: ys => e x y && all2 e xs ys
def first {α : Type} (p : α→Bool) : List α→Nat→Int
 | [],_ => -1
 | x :: xs,i => if p x=true then i else first p xs (i + 1)
theorem first_any {α : Type} (p : α→Bool) : ∀ (xs : List α) (i : Nat),decide (first p xs i ≥ 0)=xs.any p
 | [],i => rfl
 | x :: xs,i => by
  by_cases h : p x=true
  ·
   simp [first,h]
  simp only [first,if_neg h,List.any_cons,first_any p xs (i + 1)];simp [h]
def total {α : Type} (s : α→Nat) : List α→Nat
 | [] => 0
 | x :: xs => s x + total s xs
theorem total_le {α : Type} (s : α→Nat) : ∀ (xs : List α) (x : α),x ∈ xs→s x≤total s xs
 | _ :: xs,x,h => by
  rcases List.mem_cons.1 h with rfl|h
  ·
   simp [total]
  have:=total_le s xs x h;simp [total];omega
def less {α : Type} (s : α→Nat) : List α→Int→Int
 | [],l => l
 | x :: xs,l => if l - s x<0 then -1 else less s xs (l - s x)
theorem less_is {α : Type} (s : α→Nat) : ∀ (xs : List α) (l : Int),0≤l→less s xs l=if l<total s xs then -1 else l - total s xs
 | [],l,h => by simp [less,total];omega
 | x :: xs,l,h => by
  have ht : ((total s (x :: xs) : Nat) : Int)=s x + total s xs:=by simp [total]
  rw [ht];simp only [less]
  by_cases h1 : l - s x<0
  ·
   rw [if_pos h1,if_pos (by omega)]
  rw [if_neg h1,less_is s xs _ (by omega)]
  by_cases h2 : l<s x + total s xs
  ·
   rw [if_pos (by omega),if_pos (by omega)]
  rw [if_neg (by omega),if_neg (by omega)];omega
def Eve {α : Type} (g : Nat→Option α) (v : α) : Prop:=∃ K,∀ k,K≤k→g k=some v
theorem Eve.one {α : Type} {v : α} : Eve (fun _ => some v) v:=⟨0,fun _ _ => rfl⟩
theorem Eve.all {α : Type} {g : Nat→Option α} {v : α} (h : ∀ k,g k=some v) : Eve g v:=⟨0,fun k _ => h k⟩
theorem Eve.of {α : Type} {g : Nat→Option α} {v : α} {n : Nat} (h : ∀ k,n<k→g k=some v) : Eve g v:=⟨n + 1,fun k hk => h k (by omega)⟩
theorem Eve.succ {α : Type} {g : Nat→Option α} {v : α} (h : Eve (fun k => g (k + 1)) v) : Eve g v:=by
 obtain ⟨K,h⟩:=h;refine ⟨K + 1,fun k hk => ?_⟩;obtain ⟨k,rfl⟩ : ∃ m,k=m + 1:=⟨k - 1,by omega⟩;exact h k (by omega)
theorem Eve.bind {α β : Type} {g : Nat→Option α} {f : Nat→α→Option β} {v : α} {u : β} (h : Eve g v) (h2 : Eve (fun k => f k v) u) : Eve (fun k => (g k).bind (f k)) u:=by
 obtain ⟨K,h⟩:=h;obtain ⟨K2,h2⟩:=h2;refine ⟨max K K2,fun k hk => ?_⟩;show (g k).bind (f k)=some u;rw [h k (by omega),Option.bind_some];exact h2 k (by omega)
theorem Eve.ite {α : Type} {c : Prop} [Decidable c] {a b : Nat→Option α} {v : α} (h1 : c→Eve a v) (h2 : ¬ c→Eve b v) : Eve (fun k => if c then a k else b k) v:=by
 by_cases h : c
 ·
  simp only [if_pos h];exact h1 h
 simp only [if_neg h];exact h2 h
theorem Eve.get {α : Type} {g : Nat→Option α} {v : α} (h : Eve g v) : ∃ k,g k=some v:=by
 obtain ⟨K,h⟩:=h;exact ⟨K,h K (by omega)⟩
theorem Eve.eq {α : Type} {g : Nat→Option α} {v u : α} (h : Eve g v) (e : v=u) : Eve g u:=e ▸ h
theorem Eve.congr {α : Type} {g f : Nat→Option α} {v : α} (h : Eve g v) (e : ∀ k,f k=g k) : Eve f v:=by
 obtain ⟨K,h⟩:=h;exact ⟨K,fun k hk => by rw [e,h k hk]⟩
theorem ev_loop {σ α β : Type} (xs : List α) (g : Nat→σ→Int→Option β) (R : Nat→σ→List α→β) (I : Nat→σ→Prop)
  (hend : ∀ s,I xs.length s→Eve (fun k => g (k + 1) s (xs.length : Int)) (R xs.length s []))
  (hstep : ∀ (i : Nat) (h : i<xs.length) (s : σ),I i s→(∀ s',I (i + 1) s' → Eve (fun k => g k s' ((i + 1 : Nat) : Int)) (R (i + 1) s' (xs.drop (i + 1)))) →
   Eve (fun k => g (k + 1) s (i : Int)) (R i s (xs[i] :: xs.drop (i + 1)))) :
  ∀ (d i : Nat) (s : σ),i + d=xs.length→I i s→Eve (fun k => g k s (i : Int)) (R i s (xs.drop i)):=by
 intro d
 induction d with
 | zero =>
  intro i s hi hI;obtain rfl : i=xs.length:=by omega
  rw [List.drop_length];exact Eve.succ (hend s hI)
 | succ d ih =>
  intro i s hi hI;have hlt : i<xs.length:=by omega
  rw [drop_at xs i hlt];exact Eve.succ (hstep i hlt s hI (fun s' h' => ih (i + 1) s' (by omega) h'))
theorem ev_loop0 {σ α β : Type} (xs : List α) (g : Nat→σ→Int→Option β) (R : Nat→σ→List α→β) (I : Nat→σ→Prop)
  (hend : ∀ s,I xs.length s→Eve (fun k => g (k + 1) s (xs.length : Int)) (R xs.length s []))
  (hstep : ∀ (i : Nat) (h : i<xs.length) (s : σ),I i s→(∀ s',I (i + 1) s' → Eve (fun k => g k s' ((i + 1 : Nat) : Int)) (R (i + 1) s' (xs.drop (i + 1)))) →
   Eve (fun k => g (k + 1) s (i : Int)) (R i s (xs[i] :: xs.drop (i + 1)))) (s : σ) (h0 : I 0 s) : Eve (fun k => g k s 0) (R 0 s xs):=by
 have:=ev_loop xs g R I hend hstep xs.length 0 s (by omega) h0
 simpa using this
theorem ev_map {α β : Type} (xs : List α) (g : Nat→List β→Int→Option (List β)) (c : α→β) (z : β)
  (hend : ∀ ys,ys.length=xs.length→Eve (fun k => g (k + 1) ys (xs.length : Int)) ys)
  (hstep : ∀ (i : Nat) (h : i<xs.length) (ys : List β) (v : List β),ys.length=xs.length→Eve (fun k => g k (ys.set i (c xs[i])) ((i + 1 : Nat) : Int)) v→Eve (fun k => g (k + 1) ys (i : Int)) v) :
  Eve (fun k => g k (List.replicate xs.length z) 0) (xs.map c):=by
 have:=ev_loop0 xs g (fun i ys rest => ys.take i ++ rest.map c) (fun _ ys => ys.length=xs.length) (fun ys hy => by
  rw [List.take_of_length_le (by omega)];simpa using hend ys hy) (fun i hi ys hy ih => by
  refine hstep i hi ys _ hy ((ih _ (by simp [hy])).eq ?_);show (ys.set i (c xs[i])).take (i + 1) ++ (xs.drop (i + 1)).map c=ys.take i ++ (xs[i] :: xs.drop (i + 1)).map c;rw [List.take_succ_eq_append_getElem (by simp;omega),List.getElem_set_self,List.take_set_of_le (Nat.le_refl _),List.map_cons,List.append_assoc]
  rfl) (List.replicate xs.length z) (by simp)
 simpa using this
theorem ev_all {α : Type} (xs : List α) (g : Nat→Int→Option Bool) (q : α→Bool)
  (hend : Eve (fun k => g (k + 1) (xs.length : Int)) true)
  (hstep : ∀ (i : Nat) (h : i<xs.length) (v : Bool),Eve (fun k => g k ((i + 1 : Nat) : Int)) v→Eve (fun k => g (k + 1) (i : Int)) (q xs[i] && v)) : Eve (fun k => g k 0) (xs.all q) :=
 ev_loop0 xs (fun k (_ : Unit) i => g k i) (fun _ _ r => r.all q) (fun _ _ => True) (fun _ _ => hend) (fun i hi s _ ih => by
  rw [List.all_cons];exact hstep i hi _ (ih () trivial)) () trivial
theorem ev_less {α : Type} (xs : List α) (g : Nat→Int→Int→Option Int) (s : α→Nat)
  (hend : ∀ l,Eve (fun k => g (k + 1) l (xs.length : Int)) l)
  (hstep : ∀ (i : Nat) (h : i<xs.length) (l v : Int),0≤l→l≤1048576→(0≤l - s xs[i]→Eve (fun k => g k (l - s xs[i]) ((i + 1 : Nat) : Int)) v)→Eve (fun k => g (k + 1) l (i : Int)) (if l - s xs[i]<0 then -1 else v))
  {l : Int} (h0 : 0≤l) (h1 : l≤1048576) : Eve (fun k => g k l 0) (if l - total s xs<0 then -1 else l - total s xs):=by
 have:=ev_loop0 xs g (fun _ l r => less s r l) (fun _ l => 0≤l∧l≤1048576) (fun l _ => hend l) (fun i hi l hI ih => by
  refine (hstep i hi l _ hI.1 hI.2 (fun h => ih (l - s xs[i]) ⟨h,by omega⟩)).eq ?_
  rfl) l ⟨h0,h1⟩
 rw [less_is s xs l h0] at this
 by_cases h : l<total s xs
 ·
  rw [if_pos h] at this;rw [if_pos (by omega)];exact this
 rw [if_neg h] at this;rw [if_neg (by omega)];exact this
end Go.Proofs.YthjgfjlogilleaaDoorW.Pl
end
section
namespace Go.Proofs.YthjgfjlogilleaaDoor.Pure
open Go Go.RowKit Go.Proofs.YthjgfjlogilleaaDoor.Q Go.Proofs.YthjgfjlogilleaaDoorW.PrintWords Go.Proofs.YthjgfjlogilleaaDoorW.PrintLast Go.Proofs.YthjgfjlogilleaaDoorW.PrintMore Go.Proofs.YthjgfjlogilleaaDoorW.Pl
def cutA (c : UInt8) : List UInt8→List UInt8→List (List UInt8)
 | acc,[] => [acc]
 | acc,b :: l => if b=c then acc :: cutA c [] l else cutA c (acc ++ [b]) l
def mkB (l : List UInt8) : ByteArray:=⟨l.toArray⟩
theorem mkB_of (s : ByteArray) : mkB s.data.toList=s:=by obtain ⟨⟨l⟩⟩:=s;rfl
theorem cutA_miss (c : UInt8) : ∀ (l acc : List UInt8),Lib.indexByte l c = -1→cutA c acc l=[acc ++ l]
 | [],acc,_ => by simp [cutA]
 | b :: l,acc,h => by
  unfold Lib.indexByte at h
  by_cases hb : b=c
  ·
   subst hb;simp at h
  have h1 : Lib.indexByte l c = -1:=by
   by_cases h2 : Lib.indexByte l c = -1
   ·
    exact h2
   have:=Lib.indexByte_ge l c;simp [hb,h2] at h
   omega
  rw [cutA,if_neg hb,cutA_miss c l _ h1];simp
theorem cutA_hit (c : UInt8) : ∀ (l acc : List UInt8) (i : Nat),Lib.indexByte l c=i→cutA c acc l=(acc ++ l.take i) :: cutA c [] (l.drop (i + 1))
 | [],acc,i,h => by simp [Lib.indexByte] at h
 | b :: l,acc,i,h => by
  unfold Lib.indexByte at h
  by_cases hb : b=c
  ·
   subst hb
   simp at h;obtain rfl : i=0:=by omega
   rw [cutA,if_pos rfl];simp
  by_cases h2 : Lib.indexByte l c = -1
  ·
   simp [hb,h2] at h
  have hge:=Lib.indexByte_ge l c;simp [hb,h2] at h;obtain ⟨j,rfl⟩ : ∃ j,i=j + 1:=⟨i - 1,by omega⟩;rw [cutA,if_neg hb,cutA_hit c l _ j (by omega)];simp
theorem splitK_cutA (c : UInt8) : ∀ (k : Nat) (l : List UInt8),Lib.count l [c]=k→Lib.splitK [c] 0 k l=cutA c [] l
 | 0,l,h => by
  have hm : Lib.indexByte l c = -1:=by
   by_cases h2 : Lib.indexByte l c = -1
   ·
    exact h2
   have hge:=Lib.indexByte_ge l c;have:=Lib.count_hit (sub:=[c]) (s:=l) (by simp) (i:=(Lib.indexByte l c).toNat) (by rw [Lib.index_one];omega)
   omega
  rw [cutA_miss c l [] hm];rfl
 | k + 1,l,h => by
  have hh : ¬ Lib.indexByte l c = -1:=fun e => by
   have:=Lib.count_miss (s:=l) (sub:=[c]) (by rw [Lib.index_one];exact e)
   omega
  have hge:=Lib.indexByte_ge l c;obtain ⟨i,hi⟩ : ∃ i : Nat,Lib.indexByte l c=i:=⟨(Lib.indexByte l c).toNat,by omega⟩;have hc:=Lib.count_hit (sub:=[c]) (s:=l) (by simp) (i:=i) (by rw [Lib.index_one];exact hi);have hlen : ([c] : List UInt8).length=1:=rfl;rw [cutA_hit c l [] i hi,Lib.splitK,if_neg (by rw [Lib.index_one];simpa using hh),Lib.index_one,hi,Int.toNat_natCast,Nat.add_zero,hlen,List.nil_append];rw [splitK_cutA c k (l.drop (i + 1)) (by rw [hlen] at hc;omega)]
theorem pieces_cutA (s : ByteArray) (c : UInt8) : pieces s ⟨#[c]⟩=(cutA c [] s.data.toList).map mkB:=by
 have h:=Lib.splitB_data ⟨#[c]⟩ 0 (Lib.countB s ⟨#[c]⟩) s;have h2 : Lib.splitK [c] 0 (Lib.countB s ⟨#[c]⟩) s.data.toList=cutA c [] s.data.toList:=splitK_cutA c _ _ rfl;have h3 : (pieces s ⟨#[c]⟩).map (·.data.toList)=cutA c [] s.data.toList:=h.trans h2;rw [← h3,List.map_map];have : (mkB ∘ fun x : ByteArray => x.data.toList)=id:=by funext x;exact mkB_of x
 rw [this,List.map_id]
theorem cutA_le (c : UInt8) : ∀ (l acc x : List UInt8),x ∈ cutA c acc l→x.length≤acc.length + l.length
 | [],acc,x,h => by simp [cutA] at h;subst h;simp
 | b :: l,acc,x,h => by
  unfold cutA at h
  split at h
  ·
   rcases List.mem_cons.1 h with rfl|h
   ·
    simp
   have:=cutA_le c l [] x h;simp at this ⊢;omega
  have:=cutA_le c l _ x h;simp at this ⊢;omega
theorem bt_data (s : ByteArray) (i : Nat) (h : i<s.data.toList.length) : bt s (i : Int)=((s.data.toList[i]).toNat : Int):=by
 have hs : i<s.size:=by simpa using h
 rw [← bt_at s (i : Int) (by simpa using hs)]
 rfl
theorem cut_spec (s : ByteArray) (hs : s.size≤1048576) : Eve (fun k => spec_l00Cut.f k s 46) ((cutA 46 [] s.data.toList).map mkB):=by
 simp only [spec_l00Cut.f];have hlen : s.data.toList.length=s.size:=by rw [Array.length_toList];rfl
 have hz : ((s.data.toList.length : Nat) : Int)=(s.size : Int):=by rw [hlen]
 have ext : ∀ a b : Nat,s.extract a b=mkB ((s.data.toList.take b).drop a):=fun a b => by
  have : (s.extract a b).data.toList=(s.data.toList.take b).drop a:=by
   rw [Lib.extract_data];simp [List.drop_take]
  rw [← mkB_of (s.extract a b),this]
 have key:=ev_loop0 s.data.toList (fun k (σ : List ByteArray×Int) i => spec_l00Cut.l0 k s 46 σ.1 σ.2 i)
  (fun i σ rest => σ.1 ++ (cutA 46 ((s.data.toList.take i).drop σ.2.toNat) rest).map mkB)
  (fun i σ => 0≤σ.2∧σ.2≤i∧σ.1.length≤i) ?_ ?_ ([],0) ⟨by simp,by simp,by simp⟩
 ·
  simpa using key
 ·
  rintro ⟨out,from_⟩ ⟨h0,h1,h2⟩
  simp only at h0 h1 h2;simp only [spec_l00Cut.l0];refine Eve.ite (fun h => absurd h (by omega)) (fun _ => ?_);refine Eve.ite (fun _ => ?_) (fun h => absurd h0 h);refine Eve.ite (fun _ => ?_) (fun h => absurd (by omega) h);refine Eve.ite (fun _ => Eve.one.eq ?_) (fun h => absurd (by omega) h);simp only [cutA,List.map_cons,List.map_nil];rw [ext,hlen]
 rintro i hi ⟨out,from_⟩ ⟨h0,h1,h2⟩ ih;simp only at h0 h1 h2;simp only [spec_l00Cut.l0,bt_data s i hi];have hw : wrap64 ((i : Int) + 1)=((i + 1 : Nat) : Int):=by rw [w64] <;> omega
 have htk : s.data.toList.take (i + 1)=s.data.toList.take i ++ [s.data.toList[i]]:=by rw [List.take_succ_eq_append_getElem hi]
 refine Eve.ite (fun _ => ?_) (fun h => absurd (by omega) h);refine Eve.ite (fun _ => ?_) (fun h => absurd (by omega) h);refine Eve.ite (fun h => ?_) (fun h => ?_)
 ·
  have hc : s.data.toList[i]=46:=by
   have : (s.data.toList[i]).toNat=(46 : UInt8).toNat:=by
    have e : (46 : UInt8).toNat=46:=rfl
    omega
   exact UInt8.toNat_inj.mp this
  refine Eve.ite (fun _ => ?_) (fun h => absurd h0 h);refine Eve.ite (fun _ => ?_) (fun h => absurd h1 h);refine Eve.ite (fun _ => ?_) (fun h => absurd (by omega) h);refine Eve.ite (fun _ => ?_) (fun h => absurd (by omega) h);rw [hw];refine (ih (out ++ [s.extract from_.toNat (i : Int).toNat],((i + 1 : Nat) : Int)) ⟨by simp;omega,by simp,by simp;omega⟩).eq ?_;simp only [Int.toNat_natCast];have e1 : (s.data.toList.take (i + 1)).drop (i + 1)=[]:=List.drop_of_length_le (by simp;omega);rw [e1,cutA,if_pos hc,ext,List.map_cons,List.append_assoc]
  rfl
 have hc : ¬ s.data.toList[i]=46:=fun e => h (by rw [e];rfl);rw [hw];refine (ih (out,from_) ⟨h0,by show from_≤((i + 1 : Nat) : Int);omega,by show out.length≤i + 1;omega⟩).eq ?_;show out ++ _=out ++ (cutA 46 _ (s.data.toList[i] :: _)).map mkB;rw [cutA,if_neg hc,htk,List.drop_append_of_le_length (by simp;omega)]
theorem split_impl (s : ByteArray) (hs : s.size≤1048576) : strings_Split.f s (⟨#[46]⟩ : ByteArray)=some ((cutA 46 [] s.data.toList).map mkB):=by
 unfold strings_Split.f;rw [if_pos (show (⟨#[46]⟩ : ByteArray).size=1 from rfl),if_pos (by omega),pieces_cutA]
end Go.Proofs.YthjgfjlogilleaaDoor.Pure
end
section
namespace Go.Proofs.YthjgfjlogilleaaDoor.Q
open Go.RowKit Go.Proofs.YthjgfjlogilleaaDoorW.PrintWords Go.Proofs.YthjgfjlogilleaaDoorW.PrintLast Go.Proofs.YthjgfjlogilleaaDoorW.PrintMore
attribute [local go_sem] max2_int min2_int max_two min_two max_three min_three max_four min_four max2_str min2_str str_geq str_gtr str_leq
set_option linter.unusedVariables false
set_option linter.unusedSimpArgs false

def impl_big.l0 : Nat→Int→List Int→Int→Int→Option (Int)
 | 0,_,_,_,_ => none
 | k + 1,x3,x6,x7,x8 => if x8<x7 then (if 0≤x8 then (if x8<(x6.length : Int) then (impl_big.l0 k (Go.bits .or .i64 (wrap64 (x3 * 256)) (wrap64 (rd x6 x8))) x6 x7 (wrap64 (x8 + 1))) else (none)) else (none)) else (some x3)
def impl_big.f (k : Nat) (l0 : List Int) : Option (Int):=impl_big.l0 k 0 l0 (l0.length : Int) 0
theorem impl_big.mono_l : ∀ k,(∀ y0 y1 y2 y3,LeO (impl_big.l0 k y0 y1 y2 y3) (impl_big.l0 (k + 1) y0 y1 y2 y3))
 | 0 => fun _ _ _ _ r h => by simp [impl_big.l0] at h
 | k + 1 => by
  have ih0:=impl_big.mono_l k;intro y0 y1 y2 y3;unfold impl_big.l0
  repeat' first|(with_reducible first|exact ih0 _ _ _ _|exact zQ _|exact zN _|refine zP ?_ ?_|refine zO ?_ (fun _ => ?_))|refine zP ?_ ?_|refine zO ?_ (fun _ => ?_)
theorem impl_big.mono : ∀ a0 k,LeO (impl_big.f k a0) (impl_big.f (k + 1) a0):=by
 intro a0 k;have ih0:=impl_big.mono_l k;unfold impl_big.f
 repeat' first|(with_reducible first|exact ih0 _ _ _ _|exact zQ _|exact zN _|refine zP ?_ ?_|refine zO ?_ (fun _ => ?_))|refine zP ?_ ?_|refine zO ?_ (fun _ => ?_)
set_option maxHeartbeats 8000000 in
set_option maxRecDepth 100000 in
theorem impl_big.calls (k : Nat) (A0 : Option Addr) (c0 : Nat) (l0 : List Int) (r : Int) (w : World) (hr0 : Kd.C (Kd.int .u8) w A0 l0.length l0) (hc0 : l0.length≤c0) (h : impl_big.f k l0=some r) :
  Calls Tryd.prog 104 #[.slice A0 l0.length c0] w fun e w' => e = .returned (.int .i64 r)∧Drawn0 w w':=by
 have HR0:=zh hr0;have HC0:=zh hc0;clear hr0 hc0;have H : (impl_big.l0 k 0 l0 (l0.length : Int) 0)=some r:=h;clear h;have H':=zh H;clear H
 go_enter Tryd.func104,Tryd.ntmps104
 go_wp2
 go_loopg [3,8] k (fun kq v3 v8 w' => ∃ (x3_1 : Int) (x8_1 : Int),v3 = .int .i64 x3_1∧v8 = .int .i64 x8_1∧Aside0 (impl_big.l0 kq x3_1 l0 (l0.length : Int) x8_1=some r)∧Aside0 (kq≤k)∧Drawn0 w w')
 case atStart => exact ⟨(0),(0),(by first|rfl|(simp;done)|(simp [*];done)),(by first|rfl|(simp;done)|(simp [*];done)),H',⟨ye _⟩,by repeat (first|exact yp _|apply yq)⟩
 case round =>
  clear H'
  try clear c1
  obtain ⟨x3_1,x8_1,rfl,rfl,HA,HK1,⟨m1,rfl⟩⟩:=hrel
  cases gk with
  | zero => exact absurd HA.out (by simp [impl_big.l0])
  | succ k1 =>
   have H:=HA.out;clear HA;simp only [impl_big.l0] at H
   by_cases c2 : x8_1<(l0.length : Int)
   ·
    rw [if_pos c2] at H
    have c2b0 : decide (x8_1<(l0.length : Int))=true:=decide_eq_true c2;clear c2
    by_cases c3 : 0≤x8_1
    ·
     rw [if_pos c3] at H
     have c3b0 : decide (0≤x8_1)=true:=decide_eq_true c3;clear c3
     by_cases c4 : x8_1<(l0.length : Int)
     ·
      rw [if_pos c4] at H
      have c4b0 : decide (x8_1<(l0.length : Int))=true:=decide_eq_true c4;clear c4;have H':=zh H;clear H;have p280 : 0≤(x8_1 : Int):=zy (by first|(with_reducible assumption)|assumption);have q280 : x8_1<(l0.length : Int):=zy (by first|(with_reducible assumption)|assumption);obtain ⟨ad280,e280,hx280_0⟩:=Kd.at_int HR0.out x8_1 p280 q280
      cases e280
      replace p280:=eq_true p280;replace q280:=eq_true q280
      go_wp2
      go_roundg k1
      case measure => have:=HK1.out;omega
      case rel => exact ⟨(Go.bits .or .i64 (wrap64 (x3_1 * 256)) (wrap64 (rd l0 x8_1))),(wrap64 (x8_1 + 1)),(by first|rfl|(simp;done)|(simp [*];done)),(by first|rfl|(simp;done)|(simp [*];done)),H',⟨by have:=HK1.out;omega⟩,by repeat (first|exact yp _|apply yq)⟩
     rw [if_neg c4] at H;exact absurd H (by simp)
    rw [if_neg c3] at H;exact absurd H (by simp)
   rw [if_neg c2] at H;have c2b0 : decide (x8_1<(l0.length : Int))=false:=decide_eq_false c2;clear c2;obtain rfl:=zU H
   go_wp2
   go_ret
   exact ⟨by first|rfl|(simp;done)|(simp [*];done),by repeat (first|exact yp _|apply yq)⟩


def spec_l01Of.l0 : Nat→ByteArray→Int→Int→Option (Int)
 | 0,_,_,_ => none
 | k + 1,x0,x3,x4 => if x4<(x0.size : Int) then (if 0≤x4 then (spec_l01Of.l0 k x0 (wrap64 ((wrap64 (x3 * 256)) + (wrap64 (bt x0 x4)))) (wrap64 (x4 + 1))) else (none)) else (some x3)
def spec_l01Of.f (k : Nat) (a0 : ByteArray) : Option (Int):=spec_l01Of.l0 k a0 0 0
theorem spec_l01Of.mono_l : ∀ k,(∀ y0 y1 y2,LeO (spec_l01Of.l0 k y0 y1 y2) (spec_l01Of.l0 (k + 1) y0 y1 y2))
 | 0 => fun _ _ _ r h => by simp [spec_l01Of.l0] at h
 | k + 1 => by
  have ih0:=spec_l01Of.mono_l k;intro y0 y1 y2;unfold spec_l01Of.l0
  repeat' first|(with_reducible first|exact ih0 _ _ _|exact zQ _|exact zN _|refine zP ?_ ?_|refine zO ?_ (fun _ => ?_))|refine zP ?_ ?_|refine zO ?_ (fun _ => ?_)
theorem spec_l01Of.mono : ∀ a0 k,LeO (spec_l01Of.f k a0) (spec_l01Of.f (k + 1) a0):=by
 intro a0 k;have ih0:=spec_l01Of.mono_l k;unfold spec_l01Of.f
 repeat' first|(with_reducible first|exact ih0 _ _ _|exact zQ _|exact zN _|refine zP ?_ ?_|refine zO ?_ (fun _ => ?_))|refine zP ?_ ?_|refine zO ?_ (fun _ => ?_)
set_option maxHeartbeats 8000000 in
set_option maxRecDepth 100000 in
theorem spec_l01Of.calls (k : Nat) (a0 : ByteArray) (r : Int) (w : World) (h : spec_l01Of.f k a0=some r) :
  Calls Tryd.prog 88 #[.string a0] w fun e w' => e = .returned (.int .i64 r)∧Drawn0 w w':=by
 have H : (spec_l01Of.l0 k a0 0 0)=some r:=h;clear h;have H':=zh H;clear H
 go_enter Tryd.func88,Tryd.ntmps88
 go_wp2
 go_loopg [3,4] k (fun kq v3 v4 w' => ∃ (x3_1 : Int) (x4_1 : Int),v3 = .int .i64 x3_1∧v4 = .int .i64 x4_1∧Aside0 (spec_l01Of.l0 kq a0 x3_1 x4_1=some r)∧Aside0 (kq≤k)∧Drawn0 w w')
 case atStart => exact ⟨(0),(0),(by first|rfl|(simp;done)|(simp [*];done)),(by first|rfl|(simp;done)|(simp [*];done)),H',⟨ye _⟩,by repeat (first|exact yp _|apply yq)⟩
 case round =>
  clear H';obtain ⟨x3_1,x4_1,rfl,rfl,HA,HK1,⟨m1,rfl⟩⟩:=hrel
  cases gk with
  | zero => exact absurd HA.out (by simp [spec_l01Of.l0])
  | succ k1 =>
   have H:=HA.out;clear HA;simp only [spec_l01Of.l0] at H
   by_cases c2 : x4_1<(a0.size : Int)
   ·
    rw [if_pos c2] at H
    have c2b0 : decide (x4_1<(a0.size : Int))=true:=decide_eq_true c2;clear c2
    by_cases c3 : 0≤x4_1
    ·
     rw [if_pos c3] at H
     have c3b0 : decide (0≤x4_1)=true:=decide_eq_true c3;clear c3;have H':=zh H;clear H;have p4 : 0≤(x4_1 : Int):=zy (by first|(with_reducible assumption)|assumption);have q4 : x4_1<(a0.size : Int):=zy (by first|(with_reducible assumption)|assumption);have hx4:=bt_at a0 x4_1;replace p4:=eq_true p4;replace q4:=eq_true q4
     go_wp2
     go_roundg k1
     case measure => have:=HK1.out;omega
     case rel => exact ⟨(wrap64 ((wrap64 (x3_1 * 256)) + (wrap64 (bt a0 x4_1)))),(wrap64 (x4_1 + 1)),(by first|rfl|(simp;done)|(simp [*];done)),(by first|rfl|(simp;done)|(simp [*];done)),H',⟨by have:=HK1.out;omega⟩,by repeat (first|exact yp _|apply yq)⟩
    rw [if_neg c3] at H;exact absurd H (by simp)
   rw [if_neg c2] at H;have c2b0 : decide (x4_1<(a0.size : Int))=false:=decide_eq_false c2;clear c2;obtain rfl:=zU H
   go_wp2
   go_ret
   exact ⟨by first|rfl|(simp;done)|(simp [*];done),by repeat (first|exact yp _|apply yq)⟩

end Go.Proofs.YthjgfjlogilleaaDoor.Q
end
section
namespace Go.Proofs.YthjgfjlogilleaaDoor.Q
open Go.RowKit Go.Proofs.YthjgfjlogilleaaDoorW.PrintWords Go.Proofs.YthjgfjlogilleaaDoorW.PrintLast Go.Proofs.YthjgfjlogilleaaDoorW.PrintMore
attribute [local go_sem] max2_int min2_int max_two min_two max_three min_three max_four min_four max2_str min2_str str_geq str_gtr str_leq   -- for this text's walks alone
set_option linter.unusedVariables false
set_option linter.unusedSimpArgs false

mutual
def spec_l01Next.j1 : Nat→ByteArray→Int→Int→Int→ByteArray→Option (Int×Int×ByteArray×ByteArray×Bool)
 | 0,_,_,_,_,_ => none
 | k + 1,x0,x6,x204000,x204001,x204002 => if (x0.size : Int)<(wrap64 (1 + x6)) then (some (0,0,(⟨#[]⟩ : ByteArray),(⟨#[]⟩ : ByteArray),false)) else (if x6=1 then (if 1<(x0.size : Int) then (if 0≤(wrap64 (1 + x6)) then (if (wrap64 (1 + x6))≤(x0.size : Int) then (some (x204000,wrap64 (bt x0 1),x204002,x0.extract ((wrap64 (1 + x6)) : Int).toNat x0.size,true)) else (none)) else (none)) else (none)) else (if 1<(x0.size : Int) then (if (bt x0 1) > 127 then (some (0,0,(⟨#[]⟩ : ByteArray),(⟨#[]⟩ : ByteArray),false)) else (if 1≤9 then (if 9≤(x0.size : Int) then ((spec_l01Of.f k (x0.extract 1 9)).bind fun t205 => (if 0≤(wrap64 (1 + x6)) then (if (wrap64 (1 + x6))≤(x0.size : Int) then (some (x204000,wrap64 (t205 - 4611686018427387904),x204002,x0.extract ((wrap64 (1 + x6)) : Int).toNat x0.size,true)) else (none)) else (none))) else (none)) else (none))) else (none)))
def spec_l01Next.j0 : Nat→ByteArray→Bool→Int→Int→ByteArray→Option (Int×Int×ByteArray×ByteArray×Bool)
 | 0,_,_,_,_,_ => none
 | k + 1,x0,x28,x204000,x204001,x204002 => if x28=true then (if (x0.size : Int)<3 then (some (0,0,(⟨#[]⟩ : ByteArray),(⟨#[]⟩ : ByteArray),false)) else (if 1≤3 then (if 3≤(x0.size : Int) then ((spec_l01Of.f k (x0.extract 1 3)).bind fun t204 => (if (x0.size : Int)<(wrap64 (3 + t204)) then (some (0,0,(⟨#[]⟩ : ByteArray),(⟨#[]⟩ : ByteArray),false)) else (if 3≤(wrap64 (3 + t204)) then (if (wrap64 (3 + t204))≤(x0.size : Int) then (if 0≤(wrap64 (3 + t204)) then (some (x204000,x204001,x0.extract 3 ((wrap64 (3 + t204)) : Int).toNat,x0.extract ((wrap64 (3 + t204)) : Int).toNat x0.size,true)) else (none)) else (none)) else (none)))) else (none)) else (none))) else (some (0,0,(⟨#[]⟩ : ByteArray),(⟨#[]⟩ : ByteArray),false))
end
def spec_l01Next.f (k : Nat) (a0 : ByteArray) : Option (Int×Int×ByteArray×ByteArray×Bool):=if (a0.size : Int)=0 then (some (0,0,(⟨#[]⟩ : ByteArray),(⟨#[]⟩ : ByteArray),false)) else (if 0<(a0.size : Int) then (if (wrap64 (bt a0 0))=0 then (if 1≤(a0.size : Int) then (some (wrap64 (bt a0 0),0,(⟨#[]⟩ : ByteArray),a0.extract 1 a0.size,true)) else (none)) else (if (wrap64 (bt a0 0))=1 then (spec_l01Next.j1 k a0 1 (wrap64 (bt a0 0)) 0 (⟨#[]⟩ : ByteArray)) else (if (wrap64 (bt a0 0))=2 then (spec_l01Next.j1 k a0 8 (wrap64 (bt a0 0)) 0 (⟨#[]⟩ : ByteArray)) else (if (wrap64 (bt a0 0))=3 then (spec_l01Next.j0 k a0 ((wrap64 (bt a0 0)) == 3) (wrap64 (bt a0 0)) 0 (⟨#[]⟩ : ByteArray)) else (if (wrap64 (bt a0 0))=4 then (spec_l01Next.j0 k a0 ((wrap64 (bt a0 0)) == 4) (wrap64 (bt a0 0)) 0 (⟨#[]⟩ : ByteArray)) else (spec_l01Next.j0 k a0 ((wrap64 (bt a0 0)) == 5) (wrap64 (bt a0 0)) 0 (⟨#[]⟩ : ByteArray))))))) else (none))
theorem spec_l01Next.mono_l : ∀ k,(∀ y0 y1 y2 y3 y4,LeO (spec_l01Next.j1 k y0 y1 y2 y3 y4) (spec_l01Next.j1 (k + 1) y0 y1 y2 y3 y4))∧(∀ y0 y1 y2 y3 y4,LeO (spec_l01Next.j0 k y0 y1 y2 y3 y4) (spec_l01Next.j0 (k + 1) y0 y1 y2 y3 y4))
 | 0 => ⟨fun _ _ _ _ _ r h => by simp [spec_l01Next.j1] at h,fun _ _ _ _ _ r h => by simp [spec_l01Next.j0] at h⟩
 | k + 1 => by
  obtain ⟨ih0,ih1⟩:=spec_l01Next.mono_l k;refine ⟨?_,?_⟩
  ·
   intro y0 y1 y2 y3 y4
   unfold spec_l01Next.j1
   repeat' first|(with_reducible first|exact ih0 _ _ _ _ _|exact ih1 _ _ _ _ _|exact spec_l01Of.mono _ _|exact zQ _|exact zN _|refine zP ?_ ?_|refine zO ?_ (fun _ => ?_))|refine zP ?_ ?_|refine zO ?_ (fun _ => ?_)
  intro y0 y1 y2 y3 y4;unfold spec_l01Next.j0
  repeat' first|(with_reducible first|exact ih0 _ _ _ _ _|exact ih1 _ _ _ _ _|exact spec_l01Of.mono _ _|exact zQ _|exact zN _|refine zP ?_ ?_|refine zO ?_ (fun _ => ?_))|refine zP ?_ ?_|refine zO ?_ (fun _ => ?_)
theorem spec_l01Next.mono : ∀ a0 k,LeO (spec_l01Next.f k a0) (spec_l01Next.f (k + 1) a0):=by
 intro a0 k;obtain ⟨ih0,ih1⟩:=spec_l01Next.mono_l k;unfold spec_l01Next.f
 repeat' first|(with_reducible first|exact ih0 _ _ _ _ _|exact ih1 _ _ _ _ _|exact spec_l01Of.mono _ _|exact zQ _|exact zN _|refine zP ?_ ?_|refine zO ?_ (fun _ => ?_))|refine zP ?_ ?_|refine zO ?_ (fun _ => ?_)
def spec_l01Next.T22 : Bool×List (List Nat×List Nat):=(true,[([],[]),([],[]),([],[]),([2],[2]),([1,3],[1,3]),([0,0],[0]),([4,5,0,1,2,3,4,5],[4]),([6,0,1,2,3,4,5,6],[])])
def spec_l01Next.B22 : List Nat:=[0,0,0,4,14,1,63,127]
theorem spec_l01Next.tab22 : rtab .any (opsOf Tryd.f80 22)=spec_l01Next.T22:=by kernel_rfl
theorem spec_l01Next.bits22 : waitsOk spec_l01Next.T22.2 spec_l01Next.B22=true:=by kernel_rfl
def spec_l01Next.T30 : Bool×List (List Nat×List Nat):=(true,[([],[]),([],[]),([],[]),([2],[2]),([1,3],[1,3]),([0,0],[0]),([4,5,0,1,2,3,4,5],[4]),([6,0,1,2,3,4,5,6],[])])
def spec_l01Next.B30 : List Nat:=[0,0,0,4,14,1,63,127]
theorem spec_l01Next.tab30 : rtab .any (opsOf Tryd.f80 30)=spec_l01Next.T30:=by kernel_rfl
theorem spec_l01Next.bits30 : waitsOk spec_l01Next.T30.2 spec_l01Next.B30=true:=by kernel_rfl
set_option maxHeartbeats 8000000 in
set_option maxRecDepth 100000 in
theorem spec_l01Next.calls (k : Nat) (a0 : ByteArray) (r1 : Int) (r2 : Int) (r3 : ByteArray) (r4 : ByteArray) (r5 : Bool) (w : World) (h : spec_l01Next.f k a0=some (r1,r2,r3,r4,r5)) :
  Calls Tryd.prog 80 #[.string a0] w fun e w' => e = .returned (.tuple #[.agg #[.int .i64 r1,.int .i64 r2,.string r3],.string r4,.bool r5])∧Below w.heap.size w w':=by
 have hu39:=Tryd.underlying39;have HB:=zh (Below.refl w.heap.size w);have H : (if (a0.size : Int)=0 then (some (0,0,(⟨#[]⟩ : ByteArray),(⟨#[]⟩ : ByteArray),false)) else (if 0<(a0.size : Int) then (if (wrap64 (bt a0 0))=0 then (if 1≤(a0.size : Int) then (some (wrap64 (bt a0 0),0,(⟨#[]⟩ : ByteArray),a0.extract 1 a0.size,true)) else (none)) else (if (wrap64 (bt a0 0))=1 then (spec_l01Next.j1 k a0 1 (wrap64 (bt a0 0)) 0 (⟨#[]⟩ : ByteArray)) else (if (wrap64 (bt a0 0))=2 then (spec_l01Next.j1 k a0 8 (wrap64 (bt a0 0)) 0 (⟨#[]⟩ : ByteArray)) else (if (wrap64 (bt a0 0))=3 then (spec_l01Next.j0 k a0 ((wrap64 (bt a0 0)) == 3) (wrap64 (bt a0 0)) 0 (⟨#[]⟩ : ByteArray)) else (if (wrap64 (bt a0 0))=4 then (spec_l01Next.j0 k a0 ((wrap64 (bt a0 0)) == 4) (wrap64 (bt a0 0)) 0 (⟨#[]⟩ : ByteArray)) else (spec_l01Next.j0 k a0 ((wrap64 (bt a0 0)) == 5) (wrap64 (bt a0 0)) 0 (⟨#[]⟩ : ByteArray))))))) else (none)))=some (r1,r2,r3,r4,r5):=h;clear h
 by_cases c2 : (a0.size : Int)=0
 ·
  rw [if_pos c2] at H
  have c2b0 : ((a0.size : Int) == 0)=true:=ya.mpr c2;have c2b1 : ((a0.size : Int) != 0)=false:=zX.mpr c2;clear c2;simp only [Option.some.injEq,Prod.mk.injEq] at H;obtain ⟨rfl,rfl,rfl,rfl,rfl⟩:=H
  go_enter Tryd.func80,Tryd.ntmps80
  go_wp2_with (first|((with_reducible refine zK (N:=2) rfl ?_);refine zI ?hg (N:=2) ?hd (cs:=#[.int .i64 0,.int .i64 0,.string (⟨#[]⟩ : ByteArray)]) (t:=39) ?hr ?_;(case hd => rfl);(case hg => rfl);(case hr => first|(go_simp;done)|(go_simp;rfl));intro gb202 hg w3 hbox hb;have BK202:=zh (hbox);have GW202:=zh ((by rw [hg];exact (zB (by repeat (with_reducible first|exact HB.out|apply za|apply zb|apply zc))) : w.heap.size≤gb202));have GE202:=zh ((by rw [hg];exact (zB (by repeat (with_reducible first|exact HB.out|apply za|apply zb|apply zc))) : w.heap.size≤gb202));replace HB:=zh (zC (by repeat (with_reducible first|exact HB.out|apply za|apply zb|apply zc)) hb);clear hb hbox hg;have hcz4_0 : w3.cell? ⟨gb202,0,none⟩=some (.int .i64 0):=(zz BK202.out 0).trans rfl;have hcz4_1 : w3.cell? ⟨gb202,1,none⟩=some (.int .i64 0):=(zz BK202.out 1).trans rfl;have hcz4_2 : w3.cell? ⟨gb202,2,none⟩=some (.string (⟨#[]⟩ : ByteArray)):=(zz BK202.out 2).trans rfl;have hfz4_0:=zA BK202.out 0;have hfz4_1:=zA BK202.out 1;have hfz4_2:=zA BK202.out 2))
  refine bodyPost_ret (results_ctt rfl _ _ gb202 39 #[.int .i64 0,.int .i64 0,.string (⟨#[]⟩ : ByteArray)] (0,0) _ rfl (by (with_reducible repeat (first|refine ze ?_ _|refine zf ?_|refine zg ?_ _));refine zL (cs:=#[.int .i64 0,.int .i64 0,.string (⟨#[]⟩ : ByteArray)]) ?_ 2 _ rfl;(with_reducible repeat (first|refine ze ?_ _|refine zf ?_|refine zg ?_ _));refine zL (cs:=#[.int .i64 0,.int .i64 0,.string (⟨#[]⟩ : ByteArray)]) ?_ 1 _ rfl;(with_reducible repeat (first|refine ze ?_ _|refine zf ?_|refine zg ?_ _));refine zL (cs:=#[.int .i64 0,.int .i64 0,.string (⟨#[]⟩ : ByteArray)]) ?_ 0 _ rfl;(with_reducible repeat (first|refine ze ?_ _|refine zf ?_|refine zg ?_ _));exact BK202.out) Tryd.underlying39 rfl (by kernel_rfl)) rfl ?_;exact ⟨by first|rfl|(simp [yt,yu] <;> rfl)|(simp [*,yt,yu] <;> rfl),by repeat (with_reducible first|exact HB.out|apply za|apply zb|apply zc|refine zd ?_ GE202.out)⟩
 rw [if_neg c2] at H;have c2b0 : ((a0.size : Int) == 0)=false:=zY.mpr c2;have c2b1 : ((a0.size : Int) != 0)=true:=zZ.mpr c2
 by_cases c5 : 0<(a0.size : Int)
 ·
  rw [if_pos c5] at H
  have c5b0 : decide (0<(a0.size : Int))=true:=decide_eq_true c5;have c5b1 : decide (0<a0.size)=true:=decide_eq_true (by omega);clear c5;have HC7:=zh H;clear H
  go_enter Tryd.func80,Tryd.ntmps80
  go_upto_block 0 with (first|((with_reducible refine zK (N:=2) rfl ?_);refine zI ?hg (N:=2) ?hd (cs:=#[.int .i64 0,.int .i64 0,.string (⟨#[]⟩ : ByteArray)]) (t:=39) ?hr ?_;(case hd => rfl);(case hg => rfl);(case hr => first|(go_simp;done)|(go_simp;rfl));intro gb202 hg w8 hbox hb;have BK202:=zh (hbox);have GW202:=zh ((by rw [hg];exact (zB (by repeat (with_reducible first|exact HB.out|apply za|apply zb|apply zc))) : w.heap.size≤gb202));have GE202:=zh ((by rw [hg];exact (zB (by repeat (with_reducible first|exact HB.out|apply za|apply zb|apply zc))) : w.heap.size≤gb202));replace HB:=zh (zC (by repeat (with_reducible first|exact HB.out|apply za|apply zb|apply zc)) hb);clear hb hbox hg;have p6 : 0≤(0 : Int):=(by omega);have q6 : 0<a0.size:=(by have : (0 : Int)<(a0.size : Int):=zy (by first|(with_reducible assumption)|assumption);omega);have hx6 : ∀ h : 0<a0.size,((a0[0]'h).toNat : Int)=bt a0 0:=bt_at a0 0;clear p6;have qi6 : (0<(a0.size : Int))=True:=eq_true (zy (by first|(with_reducible assumption)|assumption));replace q6:=eq_true q6)|((with_reducible refine zK (N:=5) rfl ?_);refine zI ?hg (N:=5) ?hd (cs:=#[.int .i64 0,.int .i64 0,.string (⟨#[]⟩ : ByteArray)]) (t:=39) ?hr ?_;(case hd => rfl);(case hg => rfl);(case hr => first|(go_simp;done)|(go_simp;rfl));intro gb203 hg w9 hbox hb;have BK203:=zh (hbox);have GW203:=zh ((by rw [hg];exact (zB (by repeat (with_reducible first|exact HB.out|apply za|apply zb|apply zc|refine zd ?_ GE202.out))) : w.heap.size≤gb203));have GE203:=zh ((by rw [hg];exact (zB (by repeat (with_reducible first|exact HB.out|apply za|apply zb|apply zc|refine zd ?_ GE202.out))) : w.heap.size≤gb203));replace HB:=zh (zC (by repeat (with_reducible first|exact HB.out|apply za|apply zb|apply zc|refine zd ?_ GE202.out)) hb);have NB202_203:=zh ((by rw [hg];exact yc (yi (g:=gb202) (o:=.cells #[.int .i64 0,.int .i64 0,.string (⟨#[]⟩ : ByteArray)] 39 (0,0)) (by (with_reducible repeat (first|refine ze ?_ _|refine zf ?_|refine zg ?_ _));exact BK202.out)) : gb202≠gb203));have NB203_202:=zh ((by rw [hg];exact yd (yi (g:=gb202) (o:=.cells #[.int .i64 0,.int .i64 0,.string (⟨#[]⟩ : ByteArray)] 39 (0,0)) (by (with_reducible repeat (first|refine ze ?_ _|refine zf ?_|refine zg ?_ _));exact BK202.out)) : gb203≠gb202));replace BK202:=zh (zD (g:=gb202) (o:=.cells #[.int .i64 0,.int .i64 0,.string (⟨#[]⟩ : ByteArray)] 39 (0,0)) (by (with_reducible repeat (first|refine ze ?_ _|refine zf ?_|refine zg ?_ _));exact BK202.out) hb);clear hb hbox hg;have hnb10:=NB203_202.out;have hnc10:=NB202_203.out;have hcz11_0 : w9.cell? ⟨gb203,0,none⟩=some (.int .i64 0):=(zz BK203.out 0).trans rfl;have hcz11_1 : w9.cell? ⟨gb203,1,none⟩=some (.int .i64 0):=(zz BK203.out 1).trans rfl;have hcz11_2 : w9.cell? ⟨gb203,2,none⟩=some (.string (⟨#[]⟩ : ByteArray)):=(zz BK203.out 2).trans rfl;have hfz11_0:=zA BK203.out 0;have hfz11_1:=zA BK203.out 1;have hfz11_2:=zA BK203.out 2))
  (try simp only [Act.put,zi,zj,zk])
  go_cut [6] (fun v6 wc => ∃ (kq : Nat) (x6_6 : Int) (x203000_6 : Int) (x203001_6 : Int) (x203002_6 : ByteArray) (x204002_6 : ByteArray),v6 = .int .i64 x6_6∧Aside0 (spec_l01Next.j1 kq a0 x6_6 (wrap64 (bt a0 0)) 0 x204002_6=some (r1,r2,r3,r4,r5))∧Aside0 (kq≤k)∧Aside0 (wc.heap[gb202]? = some (.cells #[.int .i64 x203000_6,.int .i64 x203001_6,.string x203002_6] 39 (0,0)))∧Aside0 (wc.heap[gb203]? = some (.cells #[.int .i64 (wrap64 (bt a0 0)),.int .i64 0,.string x204002_6] 39 (0,0)))∧Aside0 (Below w.heap.size w wc))
  case first =>
   have H:=HC7.out;clear HC7
   by_cases c12 : (wrap64 (bt a0 0))=0
   ·
    rw [if_pos c12] at H
    have c12b0 : ((wrap64 (bt a0 0)) == 0)=true:=ya.mpr c12;have c12b1 : ((wrap64 (bt a0 0)) != 0)=false:=zX.mpr c12;clear c12;(first|rw [c12b0]|(simp only [zG,zH];rw [c12b0])|skip)
    by_cases c13 : 1≤(a0.size : Int)
    ·
     rw [if_pos c13] at H
     have c13b0:=eq_true c13;have c13b1 : decide (1≤(a0.size : Int))=true:=decide_eq_true c13;clear c13;simp only [Option.some.injEq,Prod.mk.injEq] at H;obtain ⟨rfl,rfl,rfl,rfl,rfl⟩:=H
     try go_wp2
     have n0_ : Aside0 ((((w9.setCell ⟨gb203,0,none⟩ (.int .i64 (wrap64 (bt a0 0)))).setCell ⟨gb203,1,none⟩ (.int .i64 0)).setCell ⟨gb203,2,none⟩ (.string (⟨#[]⟩ : ByteArray))).heap[gb202]? = some (.cells #[.int .i64 0,.int .i64 0,.string (⟨#[]⟩ : ByteArray)] 39 (0,0))):=⟨by (with_reducible repeat (first|refine ze ?_ _|refine zf ?_|refine zg ?_ _));refine zS ?_ NB202_203.out _;(with_reducible repeat (first|refine ze ?_ _|refine zf ?_|refine zg ?_ _));refine zS ?_ NB202_203.out _;(with_reducible repeat (first|refine ze ?_ _|refine zf ?_|refine zg ?_ _));refine zS ?_ NB202_203.out _;(with_reducible repeat (first|refine ze ?_ _|refine zf ?_|refine zg ?_ _));exact BK202.out⟩;have n1_ : Aside0 ((((w9.setCell ⟨gb203,0,none⟩ (.int .i64 (wrap64 (bt a0 0)))).setCell ⟨gb203,1,none⟩ (.int .i64 0)).setCell ⟨gb203,2,none⟩ (.string (⟨#[]⟩ : ByteArray))).heap[gb203]? = some (.cells #[.int .i64 (wrap64 (bt a0 0)),.int .i64 0,.string (⟨#[]⟩ : ByteArray)] 39 (0,0))):=⟨by (with_reducible repeat (first|refine ze ?_ _|refine zf ?_|refine zg ?_ _));refine zL (cs:=#[.int .i64 (wrap64 (bt a0 0)),.int .i64 0,.string (⟨#[]⟩ : ByteArray)]) ?_ 2 _ rfl;(with_reducible repeat (first|refine ze ?_ _|refine zf ?_|refine zg ?_ _));refine zL (cs:=#[.int .i64 (wrap64 (bt a0 0)),.int .i64 0,.string (⟨#[]⟩ : ByteArray)]) ?_ 1 _ rfl;(with_reducible repeat (first|refine ze ?_ _|refine zf ?_|refine zg ?_ _));refine zL (cs:=#[.int .i64 0,.int .i64 0,.string (⟨#[]⟩ : ByteArray)]) ?_ 0 _ rfl;(with_reducible repeat (first|refine ze ?_ _|refine zf ?_|refine zg ?_ _));exact BK203.out⟩;have n2_ : Aside0 (Below w.heap.size w (((w9.setCell ⟨gb203,0,none⟩ (.int .i64 (wrap64 (bt a0 0)))).setCell ⟨gb203,1,none⟩ (.int .i64 0)).setCell ⟨gb203,2,none⟩ (.string (⟨#[]⟩ : ByteArray)))):=⟨by repeat (with_reducible first|exact HB.out|apply za|apply zb|apply zc|refine zd ?_ GE202.out|refine zd ?_ GE203.out)⟩;(try clear BK202);(try clear BK203);(try clear HB);generalize (((w9.setCell ⟨gb203,0,none⟩ (.int .i64 (wrap64 (bt a0 0)))).setCell ⟨gb203,1,none⟩ (.int .i64 0)).setCell ⟨gb203,2,none⟩ (.string (⟨#[]⟩ : ByteArray)))=w14 at n0_ n1_ n2_ ⊢;have BK202:=n0_;have BK203:=n1_;have HB:=n2_;clear n0_ n1_ n2_;replace BK202:=zh (zf BK202.out);replace BK203:=zh (zf BK203.out);replace HB:=zh (zc HB.out);refine start_ (n:=6) (S:=fun w' => w'.cell? ⟨gb203,0,none⟩=some (.int .i64 (wrap64 (bt a0 0)))∧w'.cell? ⟨gb203,1,none⟩=some (.int .i64 0)∧w'.cell? ⟨gb203,2,none⟩=some (.string (⟨#[]⟩ : ByteArray))) (ds:=[]) (bm_ 0 6) (by kernel_rfl) rfl rfl ⟨(zz BK203.out 0).trans rfl,(zz BK203.out 1).trans rfl,(zz BK203.out 2).trans rfl⟩ (fun hHeld => ?_);generalize w14.drew=w15 at BK202 BK203 HB hHeld ⊢;refine pure_ (i:=1) (N:=some 22) (v:=?_) (a':=?_) #[false,true,false,false,false,false] rfl rfl (by kernel_rfl) (fun _ _ _ h => h) (Or.inl ⟨by rfl,?_⟩) ?_ ?_;rotate_left
     ·
      intro w'
      go_simp
      with_reducible rfl
     rotate_left
     ·
      simp only [Act.put,zi,zj,zk,zG,zH]
      rfl
     refine pure_ (i:=2) (N:=some 23) (v:=?_) (a':=?_) #[false,true,true,false,false,false] rfl rfl (by kernel_rfl) (fun _ _ _ h => h) (Or.inl ⟨by rfl,?_⟩) ?_ ?_;rotate_left
     ·
      intro w'
      go_simp
      with_reducible rfl
     rotate_left
     ·
      simp only [Act.put,zi,zj,zk,zG,zH]
      rfl
     refine take_ (i:=0) (N:=some 21) (v:=?_) (a':=?_) (bm_ 3 6) rfl rfl (by kernel_rfl) (fun _ _ _ h => h) (Or.inl ⟨by rfl,?_⟩) hHeld ?_ ?_;rotate_left
     ·
      rintro w' ⟨s0,s1,s2⟩
      go_simp
      with_reducible rfl
     rotate_left
     ·
      simp only [Act.put,zi,zj,zk,zG,zH]
      rfl
     refine one_ (i:=3) (N:=none) (bm_ 4 6) rfl rfl (by kernel_rfl) (by decide) (fun K hK => ?_);have hs16 : w15.cell? ⟨gb202,0,none⟩=some (.int .i64 0):=(zz BK202.out 0).trans rfl;have hfs16:=zA BK202.out 0;have hns16_1:=NB203_202.out;have hms16_1:=NB202_203.out;have hs17 : w15.cell? ⟨gb202,1,none⟩=some (.int .i64 0):=(zz BK202.out 1).trans rfl;have hfs17:=zA BK202.out 1;have hns17_1:=NB203_202.out;have hms17_1:=NB202_203.out;have hs18 : w15.cell? ⟨gb202,2,none⟩=some (.string (⟨#[]⟩ : ByteArray)):=(zz BK202.out 2).trans rfl;have hfs18:=zA BK202.out 2;have hns18_1:=NB203_202.out;have hms18_1:=NB202_203.out;refine skip_ (w1:=?_) (by rfl) rfl ?_ ?_;rotate_left
     ·
      go_simp
      rfl
     refine hK.out _ _ ⟨((zR (p:=⟨gb202,_,none⟩) NB203_202.out _).trans (((zR (p:=⟨gb202,_,none⟩) NB203_202.out _).trans (((zR (p:=⟨gb202,_,none⟩) NB203_202.out _).trans (hHeld.1)))))),((zR (p:=⟨gb202,_,none⟩) NB203_202.out _).trans (((zR (p:=⟨gb202,_,none⟩) NB203_202.out _).trans (((zR (p:=⟨gb202,_,none⟩) NB203_202.out _).trans (hHeld.2.1)))))),((zR (p:=⟨gb202,_,none⟩) NB203_202.out _).trans (((zR (p:=⟨gb202,_,none⟩) NB203_202.out _).trans (((zR (p:=⟨gb202,_,none⟩) NB203_202.out _).trans (hHeld.2.2))))))⟩ (fun hHeld => ?_);clear hK K;refine pure_ (i:=4) (N:=some 3) (v:=?_) (a':=?_) (bm_ 5 6) rfl rfl (by kernel_rfl) (fun _ _ _ h => h) (Or.inl ⟨by rfl,?_⟩) ?_ ?_;rotate_left
     ·
      intro w'
      go_simp
      with_reducible rfl
     rotate_left
     ·
      simp only [Act.put,zi,zj,zk,zG,zH]
      rfl
     refine pure_ (i:=5) (N:=some 4) (v:=?_) (a':=?_) (bm_ 6 6) rfl rfl (by kernel_rfl) (fun _ _ _ h => h) (Or.inl ⟨by rfl,?_⟩) ?_ ?_;rotate_left
     ·
      intro w'
      go_simp
      with_reducible rfl
     rotate_left
     ·
      simp only [Act.put,zi,zj,zk,zG,zH]
      rfl
     refine done_ (by kernel_rfl) ?_
     try go_wp2
     refine bodyPost_ret (results_ctt rfl _ _ gb202 39 #[.int .i64 (wrap64 (bt a0 0)),.int .i64 0,.string (⟨#[]⟩ : ByteArray)] (0,0) _ rfl (by (with_reducible repeat (first|refine ze ?_ _|refine zf ?_|refine zg ?_ _));refine zL (cs:=#[.int .i64 (wrap64 (bt a0 0)),.int .i64 0,.string (⟨#[]⟩ : ByteArray)]) ?_ 2 _ rfl;(with_reducible repeat (first|refine ze ?_ _|refine zf ?_|refine zg ?_ _));refine zL (cs:=#[.int .i64 (wrap64 (bt a0 0)),.int .i64 0,.string (⟨#[]⟩ : ByteArray)]) ?_ 1 _ rfl;(with_reducible repeat (first|refine ze ?_ _|refine zf ?_|refine zg ?_ _));refine zL (cs:=#[.int .i64 0,.int .i64 0,.string (⟨#[]⟩ : ByteArray)]) ?_ 0 _ rfl;(with_reducible repeat (first|refine ze ?_ _|refine zf ?_|refine zg ?_ _));exact BK202.out) Tryd.underlying39 rfl (by kernel_rfl)) rfl ?_;exact ⟨by first|rfl|(simp [yt,yu] <;> rfl)|(simp [*,yt,yu] <;> rfl),by repeat (with_reducible first|exact HB.out|apply za|apply zb|apply zc|refine zd ?_ GE202.out|refine zd ?_ GE203.out)⟩
    rw [if_neg c13] at H;exact absurd H (by simp)
   rw [if_neg c12] at H;have c12b0 : ((wrap64 (bt a0 0)) == 0)=false:=zY.mpr c12;have c12b1 : ((wrap64 (bt a0 0)) != 0)=true:=zZ.mpr c12;(first|rw [c12b0]|(simp only [zG,zH];rw [c12b0])|skip)
   by_cases c19 : (wrap64 (bt a0 0))=1
   ·
    rw [if_pos c19] at H
    have c19b0 : ((wrap64 (bt a0 0)) == 1)=true:=ya.mpr c19;have c19b1 : ((wrap64 (bt a0 0)) != 1)=false:=zX.mpr c19;clear c19;have H':=zh H;clear H
    go_wp2
    go_meet
    case rel => exact ⟨_,(1),(0),(0),((⟨#[]⟩ : ByteArray)),((⟨#[]⟩ : ByteArray)),(by first|rfl|(simp;done)|(simp [*];done)),H',⟨by first|omega|exact ye _⟩,⟨by (with_reducible repeat (first|refine ze ?_ _|refine zf ?_|refine zg ?_ _));refine zS ?_ NB202_203.out _;(with_reducible repeat (first|refine ze ?_ _|refine zf ?_|refine zg ?_ _));refine zS ?_ NB202_203.out _;(with_reducible repeat (first|refine ze ?_ _|refine zf ?_|refine zg ?_ _));refine zS ?_ NB202_203.out _;(with_reducible repeat (first|refine ze ?_ _|refine zf ?_|refine zg ?_ _));exact BK202.out⟩,⟨by (with_reducible repeat (first|refine ze ?_ _|refine zf ?_|refine zg ?_ _));refine zL (cs:=#[.int .i64 (wrap64 (bt a0 0)),.int .i64 0,.string (⟨#[]⟩ : ByteArray)]) ?_ 2 _ rfl;(with_reducible repeat (first|refine ze ?_ _|refine zf ?_|refine zg ?_ _));refine zL (cs:=#[.int .i64 (wrap64 (bt a0 0)),.int .i64 0,.string (⟨#[]⟩ : ByteArray)]) ?_ 1 _ rfl;(with_reducible repeat (first|refine ze ?_ _|refine zf ?_|refine zg ?_ _));refine zL (cs:=#[.int .i64 0,.int .i64 0,.string (⟨#[]⟩ : ByteArray)]) ?_ 0 _ rfl;(with_reducible repeat (first|refine ze ?_ _|refine zf ?_|refine zg ?_ _));exact BK203.out⟩,⟨by repeat (with_reducible first|exact HB.out|apply za|apply zb|apply zc|refine zd ?_ GE202.out|refine zd ?_ GE203.out)⟩⟩
   rw [if_neg c19] at H;have c19b0 : ((wrap64 (bt a0 0)) == 1)=false:=zY.mpr c19;have c19b1 : ((wrap64 (bt a0 0)) != 1)=true:=zZ.mpr c19
   by_cases c20 : (wrap64 (bt a0 0))=2
   ·
    rw [if_pos c20] at H
    have c20b0 : ((wrap64 (bt a0 0)) == 2)=true:=ya.mpr c20;have c20b1 : ((wrap64 (bt a0 0)) != 2)=false:=zX.mpr c20;clear c20;have H':=zh H;clear H
    go_wp2
    go_meet
    case rel => exact ⟨_,(8),(0),(0),((⟨#[]⟩ : ByteArray)),((⟨#[]⟩ : ByteArray)),(by first|rfl|(simp;done)|(simp [*];done)),H',⟨by first|omega|exact ye _⟩,⟨by (with_reducible repeat (first|refine ze ?_ _|refine zf ?_|refine zg ?_ _));refine zS ?_ NB202_203.out _;(with_reducible repeat (first|refine ze ?_ _|refine zf ?_|refine zg ?_ _));refine zS ?_ NB202_203.out _;(with_reducible repeat (first|refine ze ?_ _|refine zf ?_|refine zg ?_ _));refine zS ?_ NB202_203.out _;(with_reducible repeat (first|refine ze ?_ _|refine zf ?_|refine zg ?_ _));exact BK202.out⟩,⟨by (with_reducible repeat (first|refine ze ?_ _|refine zf ?_|refine zg ?_ _));refine zL (cs:=#[.int .i64 (wrap64 (bt a0 0)),.int .i64 0,.string (⟨#[]⟩ : ByteArray)]) ?_ 2 _ rfl;(with_reducible repeat (first|refine ze ?_ _|refine zf ?_|refine zg ?_ _));refine zL (cs:=#[.int .i64 (wrap64 (bt a0 0)),.int .i64 0,.string (⟨#[]⟩ : ByteArray)]) ?_ 1 _ rfl;(with_reducible repeat (first|refine ze ?_ _|refine zf ?_|refine zg ?_ _));refine zL (cs:=#[.int .i64 0,.int .i64 0,.string (⟨#[]⟩ : ByteArray)]) ?_ 0 _ rfl;(with_reducible repeat (first|refine ze ?_ _|refine zf ?_|refine zg ?_ _));exact BK203.out⟩,⟨by repeat (with_reducible first|exact HB.out|apply za|apply zb|apply zc|refine zd ?_ GE202.out|refine zd ?_ GE203.out)⟩⟩
   rw [if_neg c20] at H;have c20b0 : ((wrap64 (bt a0 0)) == 2)=false:=zY.mpr c20;have c20b1 : ((wrap64 (bt a0 0)) != 2)=true:=zZ.mpr c20;have HC21:=zh H;clear H
   go_upto_if 28 with (fail)
   go_cut [28] (fun v28 wc => ∃ (kq : Nat) (x28_20 : Bool),v28 = .bool x28_20∧Aside0 (spec_l01Next.j0 kq a0 x28_20 (wrap64 (bt a0 0)) 0 (⟨#[]⟩ : ByteArray)=some (r1,r2,r3,r4,r5))∧Aside0 (kq≤k)∧Aside0 (wc.heap[gb202]? = some (.cells #[.int .i64 0,.int .i64 0,.string (⟨#[]⟩ : ByteArray)] 39 (0,0)))∧Aside0 (wc.heap[gb203]? = some (.cells #[.int .i64 (wrap64 (bt a0 0)),.int .i64 0,.string (⟨#[]⟩ : ByteArray)] 39 (0,0)))∧Aside0 (Below w.heap.size w wc))
   case first =>
    have H:=HC21.out;clear HC21
    by_cases c22 : (wrap64 (bt a0 0))=3
    ·
     rw [if_pos c22] at H
     have c22b0 : ((wrap64 (bt a0 0)) == 3)=true:=ya.mpr c22;have c22b1 : ((wrap64 (bt a0 0)) != 3)=false:=zX.mpr c22;clear c22;(first|rw [c22b0]|(simp only [zG,zH];rw [c22b0])|skip);have H':=zh H;clear H
     go_wp2
     go_meet
     case rel => exact ⟨_,(((wrap64 (bt a0 0)) == 3)),(by first|rfl|(simp;done)|(simp [*];done)),H',⟨by first|omega|exact ye _⟩,⟨by (with_reducible repeat (first|refine ze ?_ _|refine zf ?_|refine zg ?_ _));refine zS ?_ NB202_203.out _;(with_reducible repeat (first|refine ze ?_ _|refine zf ?_|refine zg ?_ _));refine zS ?_ NB202_203.out _;(with_reducible repeat (first|refine ze ?_ _|refine zf ?_|refine zg ?_ _));refine zS ?_ NB202_203.out _;(with_reducible repeat (first|refine ze ?_ _|refine zf ?_|refine zg ?_ _));exact BK202.out⟩,⟨by (with_reducible repeat (first|refine ze ?_ _|refine zf ?_|refine zg ?_ _));refine zL (cs:=#[.int .i64 (wrap64 (bt a0 0)),.int .i64 0,.string (⟨#[]⟩ : ByteArray)]) ?_ 2 _ rfl;(with_reducible repeat (first|refine ze ?_ _|refine zf ?_|refine zg ?_ _));refine zL (cs:=#[.int .i64 (wrap64 (bt a0 0)),.int .i64 0,.string (⟨#[]⟩ : ByteArray)]) ?_ 1 _ rfl;(with_reducible repeat (first|refine ze ?_ _|refine zf ?_|refine zg ?_ _));refine zL (cs:=#[.int .i64 0,.int .i64 0,.string (⟨#[]⟩ : ByteArray)]) ?_ 0 _ rfl;(with_reducible repeat (first|refine ze ?_ _|refine zf ?_|refine zg ?_ _));exact BK203.out⟩,⟨by repeat (with_reducible first|exact HB.out|apply za|apply zb|apply zc|refine zd ?_ GE202.out|refine zd ?_ GE203.out)⟩⟩
    rw [if_neg c22] at H;have c22b0 : ((wrap64 (bt a0 0)) == 3)=false:=zY.mpr c22;have c22b1 : ((wrap64 (bt a0 0)) != 3)=true:=zZ.mpr c22;(first|rw [c22b0]|(simp only [zG,zH];rw [c22b0])|skip)
    by_cases c23 : (wrap64 (bt a0 0))=4
    ·
     rw [if_pos c23] at H
     have c23b0 : ((wrap64 (bt a0 0)) == 4)=true:=ya.mpr c23;have c23b1 : ((wrap64 (bt a0 0)) != 4)=false:=zX.mpr c23;clear c23;have H':=zh H;clear H
     go_wp2
     go_meet
     case rel => exact ⟨_,(((wrap64 (bt a0 0)) == 4)),(by first|rfl|(simp;done)|(simp [*];done)),H',⟨by first|omega|exact ye _⟩,⟨by (with_reducible repeat (first|refine ze ?_ _|refine zf ?_|refine zg ?_ _));refine zS ?_ NB202_203.out _;(with_reducible repeat (first|refine ze ?_ _|refine zf ?_|refine zg ?_ _));refine zS ?_ NB202_203.out _;(with_reducible repeat (first|refine ze ?_ _|refine zf ?_|refine zg ?_ _));refine zS ?_ NB202_203.out _;(with_reducible repeat (first|refine ze ?_ _|refine zf ?_|refine zg ?_ _));exact BK202.out⟩,⟨by (with_reducible repeat (first|refine ze ?_ _|refine zf ?_|refine zg ?_ _));refine zL (cs:=#[.int .i64 (wrap64 (bt a0 0)),.int .i64 0,.string (⟨#[]⟩ : ByteArray)]) ?_ 2 _ rfl;(with_reducible repeat (first|refine ze ?_ _|refine zf ?_|refine zg ?_ _));refine zL (cs:=#[.int .i64 (wrap64 (bt a0 0)),.int .i64 0,.string (⟨#[]⟩ : ByteArray)]) ?_ 1 _ rfl;(with_reducible repeat (first|refine ze ?_ _|refine zf ?_|refine zg ?_ _));refine zL (cs:=#[.int .i64 0,.int .i64 0,.string (⟨#[]⟩ : ByteArray)]) ?_ 0 _ rfl;(with_reducible repeat (first|refine ze ?_ _|refine zf ?_|refine zg ?_ _));exact BK203.out⟩,⟨by repeat (with_reducible first|exact HB.out|apply za|apply zb|apply zc|refine zd ?_ GE202.out|refine zd ?_ GE203.out)⟩⟩
    rw [if_neg c23] at H;have c23b0 : ((wrap64 (bt a0 0)) == 4)=false:=zY.mpr c23;have c23b1 : ((wrap64 (bt a0 0)) != 4)=true:=zZ.mpr c23;have H':=zh H;clear H
    go_wp2
    go_meet
    case rel => exact ⟨_,(((wrap64 (bt a0 0)) == 5)),(by first|rfl|(simp;done)|(simp [*];done)),H',⟨by first|omega|exact ye _⟩,⟨by (with_reducible repeat (first|refine ze ?_ _|refine zf ?_|refine zg ?_ _));refine zS ?_ NB202_203.out _;(with_reducible repeat (first|refine ze ?_ _|refine zf ?_|refine zg ?_ _));refine zS ?_ NB202_203.out _;(with_reducible repeat (first|refine ze ?_ _|refine zf ?_|refine zg ?_ _));refine zS ?_ NB202_203.out _;(with_reducible repeat (first|refine ze ?_ _|refine zf ?_|refine zg ?_ _));exact BK202.out⟩,⟨by (with_reducible repeat (first|refine ze ?_ _|refine zf ?_|refine zg ?_ _));refine zL (cs:=#[.int .i64 (wrap64 (bt a0 0)),.int .i64 0,.string (⟨#[]⟩ : ByteArray)]) ?_ 2 _ rfl;(with_reducible repeat (first|refine ze ?_ _|refine zf ?_|refine zg ?_ _));refine zL (cs:=#[.int .i64 (wrap64 (bt a0 0)),.int .i64 0,.string (⟨#[]⟩ : ByteArray)]) ?_ 1 _ rfl;(with_reducible repeat (first|refine ze ?_ _|refine zf ?_|refine zg ?_ _));refine zL (cs:=#[.int .i64 0,.int .i64 0,.string (⟨#[]⟩ : ByteArray)]) ?_ 0 _ rfl;(with_reducible repeat (first|refine ze ?_ _|refine zf ?_|refine zg ?_ _));exact BK203.out⟩,⟨by repeat (with_reducible first|exact HB.out|apply za|apply zb|apply zc|refine zd ?_ GE202.out|refine zd ?_ GE203.out)⟩⟩
   case rest =>
    clear HC21
    try clear c1
    try clear c2
    try clear c2b0
    try clear c2b1
    try clear p2
    try clear c5
    try clear c5b0
    try clear c5b1
    try clear p6
    try clear q6
    try clear hx6
    try clear qi6
    try clear c8
    try clear c10
    try clear c12
    try clear c12b0
    try clear c12b1
    try clear c13
    try clear c13b0
    try clear c13b1
    try clear c19
    try clear c19b0
    try clear c19b1
    try clear c20
    try clear c20b0
    try clear c20b1
    try clear c22
    try clear c22b0
    try clear c22b1
    try clear c23
    try clear c23b0
    try clear c23b1
    try clear hcz11_0
    try clear hcz11_1
    try clear hcz11_2
    try clear hcz4_0
    try clear hcz4_1
    try clear hcz4_2
    try clear hfz11_0
    try clear hfz11_1
    try clear hfz11_2
    try clear hfz4_0
    try clear hfz4_1
    try clear hfz4_2
    try clear p6
    try clear q6
    obtain ⟨kq,x28_20,rfl,HA,HJ20,BK202,BK203,HB⟩:=hcut
    cases kq with
    | zero => exact absurd HA.out (by simp [spec_l01Next.j0])
    | succ kj20 =>
     have H:=HA.out;clear HA;simp only [spec_l01Next.j0] at H
     by_cases c24 : x28_20=true
     ·
      subst c24
      have H1 : (if (a0.size : Int)<3 then (some (0,0,(⟨#[]⟩ : ByteArray),(⟨#[]⟩ : ByteArray),false)) else (if 1≤3 then (if 3≤(a0.size : Int) then ((spec_l01Of.f kj20 (a0.extract 1 3)).bind fun t204 => (if (a0.size : Int)<(wrap64 (3 + t204)) then (some (0,0,(⟨#[]⟩ : ByteArray),(⟨#[]⟩ : ByteArray),false)) else (if 3≤(wrap64 (3 + t204)) then (if (wrap64 (3 + t204))≤(a0.size : Int) then (if 0≤(wrap64 (3 + t204)) then (some ((wrap64 (bt a0 0)),0,a0.extract 3 ((wrap64 (3 + t204)) : Int).toNat,a0.extract ((wrap64 (3 + t204)) : Int).toNat a0.size,true)) else (none)) else (none)) else (none)))) else (none)) else (none)))=some (r1,r2,r3,r4,r5):=by rw [if_pos rfl] at H;exact H
      clear H;have H:=H1;clear H1
      by_cases c25 : (a0.size : Int)<3
      ·
       rw [if_pos c25] at H
       have c25b0 : decide ((a0.size : Int)<3)=true:=decide_eq_true c25;have c25b1 : decide (a0.size<3)=true:=decide_eq_true (by omega);clear c25;simp only [Option.some.injEq,Prod.mk.injEq] at H;obtain ⟨rfl,rfl,rfl,rfl,rfl⟩:=H;have hnb26:=NB202_203.out;have hnc26:=NB203_202.out;have hcz27_0 : wc.cell? ⟨gb202,0,none⟩=some (.int .i64 0):=(zz BK202.out 0).trans rfl;have hcz27_1 : wc.cell? ⟨gb202,1,none⟩=some (.int .i64 0):=(zz BK202.out 1).trans rfl;have hcz27_2 : wc.cell? ⟨gb202,2,none⟩=some (.string (⟨#[]⟩ : ByteArray)):=(zz BK202.out 2).trans rfl;have hfz27_0:=zA BK202.out 0;have hfz27_1:=zA BK202.out 1;have hfz27_2:=zA BK202.out 2
       go_wp2
       refine bodyPost_ret (results_ctt rfl _ _ gb202 39 #[.int .i64 0,.int .i64 0,.string (⟨#[]⟩ : ByteArray)] (0,0) _ rfl (by (with_reducible repeat (first|refine ze ?_ _|refine zf ?_|refine zg ?_ _));refine zL (cs:=#[.int .i64 0,.int .i64 0,.string (⟨#[]⟩ : ByteArray)]) ?_ 2 _ rfl;(with_reducible repeat (first|refine ze ?_ _|refine zf ?_|refine zg ?_ _));refine zL (cs:=#[.int .i64 0,.int .i64 0,.string (⟨#[]⟩ : ByteArray)]) ?_ 1 _ rfl;(with_reducible repeat (first|refine ze ?_ _|refine zf ?_|refine zg ?_ _));refine zL (cs:=#[.int .i64 0,.int .i64 0,.string (⟨#[]⟩ : ByteArray)]) ?_ 0 _ rfl;(with_reducible repeat (first|refine ze ?_ _|refine zf ?_|refine zg ?_ _));exact BK202.out) Tryd.underlying39 rfl (by kernel_rfl)) rfl ?_;exact ⟨by first|rfl|(simp [yt,yu] <;> rfl)|(simp [*,yt,yu] <;> rfl),by repeat (with_reducible first|exact HB.out|apply za|apply zb|apply zc|refine zd ?_ GE202.out|refine zd ?_ GE203.out)⟩
      rw [if_neg c25] at H;have c25b0 : decide ((a0.size : Int)<3)=false:=decide_eq_false c25;have c25b1 : decide (a0.size<3)=false:=decide_eq_false (by omega);clear c25
      by_cases c28 : 1≤3
      ·
       rw [if_pos c28] at H
       have c28b0:=eq_true c28;have c28b1 : decide (1≤3)=true:=decide_eq_true c28;clear c28
       by_cases c29 : 3≤(a0.size : Int)
       ·
        rw [if_pos c29] at H
        have c29b0:=eq_true c29;have c29b1 : decide (3≤(a0.size : Int))=true:=decide_eq_true c29;clear c29;replace H:=zT.mp H;obtain ⟨t204,A300,H⟩:=H;replace H : (if (a0.size : Int)<(wrap64 (3 + t204)) then (some (0,0,(⟨#[]⟩ : ByteArray),(⟨#[]⟩ : ByteArray),false)) else (if 3≤(wrap64 (3 + t204)) then (if (wrap64 (3 + t204))≤(a0.size : Int) then (if 0≤(wrap64 (3 + t204)) then (some ((wrap64 (bt a0 0)),0,a0.extract 3 ((wrap64 (3 + t204)) : Int).toNat,a0.extract ((wrap64 (3 + t204)) : Int).toNat a0.size,true)) else (none)) else (none)) else (none)))=some (r1,r2,r3,r4,r5):=H;have A30:=zh A300;clear A300
        by_cases c31 : (a0.size : Int)<(wrap64 (3 + t204))
        ·
         rw [if_pos c31] at H
         have c31b0 : decide ((a0.size : Int)<(wrap64 (3 + t204)))=true:=decide_eq_true c31;clear c31;simp only [Option.some.injEq,Prod.mk.injEq] at H;obtain ⟨rfl,rfl,rfl,rfl,rfl⟩:=H
         go_wp2_with (first|((with_reducible refine zJ (f:=88) rfl ?_);refine yj (some 38) rfl rfl Tryd.func88 (by kernel_rfl) rfl #[.string (a0.extract 1 3)] rfl (by (try simp only [zt,zu,zv]);first|done|rfl|(simp only [zw,zx];rfl)|(simp only [yr,ys,zV,zW];rfl)) ?_;(with_reducible refine (spec_l01Of.calls kj20  (a0.extract 1 3) t204 _ A30.out).mono ?_);rintro e w' ⟨rfl,⟨nd,rfl⟩⟩;refine ⟨_,rfl,?_⟩;(try (rw [drewN_self wc];generalize hq_ : World.drewN wc _=wc;replace BK202 : Aside0 (wc.heap[gb202]? = some (.cells #[.int .i64 0,.int .i64 0,.string (⟨#[]⟩ : ByteArray)] 39 (0,0))):=⟨by rw [← hq_];exact (by (with_reducible repeat (first|refine ze ?_ _|refine zf ?_|refine zg ?_ _));exact BK202.out)⟩;replace BK203 : Aside0 (wc.heap[gb203]? = some (.cells #[.int .i64 (wrap64 (bt a0 0)),.int .i64 0,.string (⟨#[]⟩ : ByteArray)] 39 (0,0))):=⟨by rw [← hq_];exact (by (with_reducible repeat (first|refine ze ?_ _|refine zf ?_|refine zg ?_ _));exact BK203.out)⟩;replace HB : Aside0 (Below w.heap.size w wc):=⟨by rw [← hq_];exact (by repeat (with_reducible first|exact HB.out|apply za|apply zb|apply zc|refine zd ?_ GE202.out|refine zd ?_ GE203.out))⟩;clear hq_));have hnb32:=NB202_203.out;have hnc32:=NB203_202.out;have hcz33_0 : wc.cell? ⟨gb202,0,none⟩=some (.int .i64 0):=(zz BK202.out 0).trans rfl;have hcz33_1 : wc.cell? ⟨gb202,1,none⟩=some (.int .i64 0):=(zz BK202.out 1).trans rfl;have hcz33_2 : wc.cell? ⟨gb202,2,none⟩=some (.string (⟨#[]⟩ : ByteArray)):=(zz BK202.out 2).trans rfl;have hfz33_0:=zA BK202.out 0;have hfz33_1:=zA BK202.out 1;have hfz33_2:=zA BK202.out 2))
         refine bodyPost_ret (results_ctt rfl _ _ gb202 39 #[.int .i64 0,.int .i64 0,.string (⟨#[]⟩ : ByteArray)] (0,0) _ rfl (by (with_reducible repeat (first|refine ze ?_ _|refine zf ?_|refine zg ?_ _));refine zL (cs:=#[.int .i64 0,.int .i64 0,.string (⟨#[]⟩ : ByteArray)]) ?_ 2 _ rfl;(with_reducible repeat (first|refine ze ?_ _|refine zf ?_|refine zg ?_ _));refine zL (cs:=#[.int .i64 0,.int .i64 0,.string (⟨#[]⟩ : ByteArray)]) ?_ 1 _ rfl;(with_reducible repeat (first|refine ze ?_ _|refine zf ?_|refine zg ?_ _));refine zL (cs:=#[.int .i64 0,.int .i64 0,.string (⟨#[]⟩ : ByteArray)]) ?_ 0 _ rfl;(with_reducible repeat (first|refine ze ?_ _|refine zf ?_|refine zg ?_ _));exact BK202.out) Tryd.underlying39 rfl (by kernel_rfl)) rfl ?_;exact ⟨by first|rfl|(simp [yt,yu] <;> rfl)|(simp [*,yt,yu] <;> rfl),by repeat (with_reducible first|exact HB.out|apply za|apply zb|apply zc|refine zd ?_ GE202.out|refine zd ?_ GE203.out)⟩
        rw [if_neg c31] at H;have c31b0 : decide ((a0.size : Int)<(wrap64 (3 + t204)))=false:=decide_eq_false c31;clear c31
        by_cases c34 : 3≤(wrap64 (3 + t204))
        ·
         rw [if_pos c34] at H
         have c34b0:=eq_true c34;have c34b1 : decide (3≤(wrap64 (3 + t204)))=true:=decide_eq_true c34
         by_cases c35 : (wrap64 (3 + t204))≤(a0.size : Int)
         ·
          rw [if_pos c35] at H
          have c35b0:=eq_true c35;have c35b1 : decide ((wrap64 (3 + t204))≤(a0.size : Int))=true:=decide_eq_true c35;obtain ⟨ji36,hji36⟩ : ∃ j_ : Int,(wrap64 (3 + t204))=j_:=⟨_,rfl⟩;replace H : (if 0≤(ji36) then (some ((wrap64 (bt a0 0)),0,a0.extract 3 ((ji36) : Int).toNat,a0.extract ((ji36) : Int).toNat a0.size,true)) else (none))=some (r1,r2,r3,r4,r5):=by first|(rw [hji36] at H;exact H)|(simp only [hji36] at H ⊢;exact H)
          (try rw [hji36] at c31b0);(try rw [hji36] at c34b0);(try rw [hji36] at c34b1);(try rw [hji36] at c34);(try rw [hji36] at c35b0);(try rw [hji36] at c35b1);(try rw [hji36] at c35);(try rw [hji36] at A30);have hji36w : (IntKind.i64.wrap (3 + t204))=ji36:=(zG _).trans hji36
          by_cases c37 : 0≤(ji36)
          ·
           rw [if_pos c37] at H
           have c37b0:=eq_true c37;have c37b1 : decide (0≤(ji36))=true:=decide_eq_true c37;clear c37;have c38b0:=eq_true (zy (by first|(with_reducible assumption)|assumption) : (ji36)≤(a0.size : Int));simp only [Option.some.injEq,Prod.mk.injEq] at H;obtain ⟨rfl,rfl,rfl,rfl,rfl⟩:=H
           try go_wp2_with (first|((with_reducible refine zJ (f:=88) rfl ?_);refine yj (some 38) rfl rfl Tryd.func88 (by kernel_rfl) rfl #[.string (a0.extract 1 3)] rfl (by (try simp only [zt,zu,zv]);first|done|rfl|(simp only [zw,zx];rfl)|(simp only [yr,ys,zV,zW];rfl)) ?_;(with_reducible refine (spec_l01Of.calls kj20  (a0.extract 1 3) t204 _ A30.out).mono ?_);rintro e w' ⟨rfl,⟨nd,rfl⟩⟩;refine ⟨_,rfl,?_⟩;(try (rw [drewN_self wc];generalize hq_ : World.drewN wc _=wc;replace BK202 : Aside0 (wc.heap[gb202]? = some (.cells #[.int .i64 0,.int .i64 0,.string (⟨#[]⟩ : ByteArray)] 39 (0,0))):=⟨by rw [← hq_];exact (by (with_reducible repeat (first|refine ze ?_ _|refine zf ?_|refine zg ?_ _));exact BK202.out)⟩;replace BK203 : Aside0 (wc.heap[gb203]? = some (.cells #[.int .i64 (wrap64 (bt a0 0)),.int .i64 0,.string (⟨#[]⟩ : ByteArray)] 39 (0,0))):=⟨by rw [← hq_];exact (by (with_reducible repeat (first|refine ze ?_ _|refine zf ?_|refine zg ?_ _));exact BK203.out)⟩;replace HB : Aside0 (Below w.heap.size w wc):=⟨by rw [← hq_];exact (by repeat (with_reducible first|exact HB.out|apply za|apply zb|apply zc|refine zd ?_ GE202.out|refine zd ?_ GE203.out))⟩;clear hq_));have hnb39:=NB203_202.out;have hnc39:=NB202_203.out;have hcz40_0 : wc.cell? ⟨gb203,0,none⟩=some (.int .i64 (wrap64 (bt a0 0))):=(zz BK203.out 0).trans rfl;have hcz40_1 : wc.cell? ⟨gb203,1,none⟩=some (.int .i64 0):=(zz BK203.out 1).trans rfl;have hcz40_2 : wc.cell? ⟨gb203,2,none⟩=some (.string (⟨#[]⟩ : ByteArray)):=(zz BK203.out 2).trans rfl;have hfz40_0:=zA BK203.out 0;have hfz40_1:=zA BK203.out 1;have hfz40_2:=zA BK203.out 2))
           have n0_ : Aside0 ((wc.setCell ⟨gb203,2,none⟩ (.string (a0.extract 3 ((ji36) : Int).toNat))).heap[gb202]? = some (.cells #[.int .i64 0,.int .i64 0,.string (⟨#[]⟩ : ByteArray)] 39 (0,0))):=⟨by (with_reducible repeat (first|refine ze ?_ _|refine zf ?_|refine zg ?_ _));refine zS ?_ NB202_203.out _;(with_reducible repeat (first|refine ze ?_ _|refine zf ?_|refine zg ?_ _));exact BK202.out⟩;have n1_ : Aside0 ((wc.setCell ⟨gb203,2,none⟩ (.string (a0.extract 3 ((ji36) : Int).toNat))).heap[gb203]? = some (.cells #[.int .i64 (wrap64 (bt a0 0)),.int .i64 0,.string (a0.extract 3 ((ji36) : Int).toNat)] 39 (0,0))):=⟨by (with_reducible repeat (first|refine ze ?_ _|refine zf ?_|refine zg ?_ _));refine zL (cs:=#[.int .i64 (wrap64 (bt a0 0)),.int .i64 0,.string (⟨#[]⟩ : ByteArray)]) ?_ 2 _ rfl;(with_reducible repeat (first|refine ze ?_ _|refine zf ?_|refine zg ?_ _));exact BK203.out⟩;have n2_ : Aside0 (Below w.heap.size w (wc.setCell ⟨gb203,2,none⟩ (.string (a0.extract 3 ((ji36) : Int).toNat)))):=⟨by repeat (with_reducible first|exact HB.out|apply za|apply zb|apply zc|refine zd ?_ GE202.out|refine zd ?_ GE203.out)⟩;(try clear BK202);(try clear BK203);(try clear HB);generalize (wc.setCell ⟨gb203,2,none⟩ (.string (a0.extract 3 ((ji36) : Int).toNat)))=w41 at n0_ n1_ n2_ ⊢;have BK202:=n0_;have BK203:=n1_;have HB:=n2_;clear n0_ n1_ n2_;replace BK202:=zh (zf BK202.out);replace BK203:=zh (zf BK203.out);replace HB:=zh (zc HB.out);refine start_ (n:=8) (S:=fun w' => w'.cell? ⟨gb203,0,none⟩=some (.int .i64 (wrap64 (bt a0 0)))∧w'.cell? ⟨gb203,1,none⟩=some (.int .i64 0)∧w'.cell? ⟨gb203,2,none⟩=some (.string (a0.extract 3 ((ji36) : Int).toNat))) (ds:=[]) (bm_ 0 8) (by kernel_rfl) rfl rfl ⟨(zz BK203.out 0).trans rfl,(zz BK203.out 1).trans rfl,(zz BK203.out 2).trans rfl⟩ (fun hHeld => ?_);refine with_tabW spec_l01Next.tab22 spec_l01Next.bits22 (fun HT_ HW_ => ?_);generalize w41.drew=w42 at BK202 BK203 HB hHeld ⊢;refine pure_ (i:=1) (N:=some 51) (v:=?_) (a':=?_) #[false,true,false,false,false,false,false,false] rfl rfl (any_of HT_.out (by kernel_rfl)) (fun _ _ _ h => h) (Or.inl ⟨by rfl,?_⟩) ?_ ?_;rotate_left
           ·
            intro w'
            go_simp
            with_reducible rfl
           rotate_left
           ·
            simp only [Act.put,zi,zj,zk,zG,zH]
            rfl
           refine pure_ (i:=2) (N:=some 52) (v:=?_) (a':=?_) #[false,true,true,false,false,false,false,false] rfl rfl (any_of HT_.out (by kernel_rfl)) (fun _ _ _ h => h) (Or.inl ⟨by rfl,?_⟩) ?_ ?_;rotate_left
           ·
            intro w'
            go_simp
            with_reducible rfl
           rotate_left
           ·
            simp only [Act.put,zi,zj,zk,zG,zH]
            rfl
           refine pure_ (i:=3) (N:=some 53) (v:=?_) (a':=?_) #[false,true,true,true,false,false,false,false] rfl rfl (any_of HT_.out (by kernel_rfl)) (fun _ _ _ h => h) (Or.inl ⟨by rfl,?_⟩) ?_ ?_;rotate_left
           ·
            intro w'
            go_simp
            with_reducible rfl
           rotate_left
           ·
            simp only [Act.put,zi,zj,zk,zG,zH]
            rfl
           refine pure_ (i:=4) (N:=some 54) (v:=?_) (a':=?_) #[false,true,true,true,true,false,false,false] rfl rfl (any_of HT_.out (by kernel_rfl)) (fun _ _ _ h => h) (Or.inl ⟨by rfl,?_⟩) ?_ ?_;rotate_left
           ·
            intro w'
            go_simp
            with_reducible rfl
           rotate_left
           ·
            simp only [Act.put,zi,zj,zk,zG,zH]
            rfl
           refine take_ (i:=0) (N:=some 50) (v:=?_) (a':=?_) (bm_ 5 8) rfl rfl (yo HT_.out HW_.out (by kernel_rfl)) (fun _ _ _ h => h) (Or.inl ⟨by rfl,?_⟩) hHeld ?_ ?_;rotate_left
           ·
            rintro w' ⟨s0,s1,s2⟩
            go_simp
            with_reducible rfl
           rotate_left
           ·
            simp only [Act.put,zi,zj,zk,zG,zH]
            rfl
           refine one_ (i:=5) (N:=none) (bm_ 6 8) rfl rfl (one_of HT_.out (by kernel_rfl)) (by decide) (fun K hK => ?_);have hs43 : w42.cell? ⟨gb202,0,none⟩=some (.int .i64 0):=(zz BK202.out 0).trans rfl;have hfs43:=zA BK202.out 0;have hns43_1:=NB203_202.out;have hms43_1:=NB202_203.out;have hs44 : w42.cell? ⟨gb202,1,none⟩=some (.int .i64 0):=(zz BK202.out 1).trans rfl;have hfs44:=zA BK202.out 1;have hns44_1:=NB203_202.out;have hms44_1:=NB202_203.out;have hs45 : w42.cell? ⟨gb202,2,none⟩=some (.string (⟨#[]⟩ : ByteArray)):=(zz BK202.out 2).trans rfl;have hfs45:=zA BK202.out 2;have hns45_1:=NB203_202.out;have hms45_1:=NB202_203.out;refine skip_ (w1:=?_) (by rfl) rfl ?_ ?_;rotate_left
           ·
            go_simp
            rfl
           refine hK.out _ _ ⟨((zR (p:=⟨gb202,_,none⟩) NB203_202.out _).trans (((zR (p:=⟨gb202,_,none⟩) NB203_202.out _).trans (((zR (p:=⟨gb202,_,none⟩) NB203_202.out _).trans (hHeld.1)))))),((zR (p:=⟨gb202,_,none⟩) NB203_202.out _).trans (((zR (p:=⟨gb202,_,none⟩) NB203_202.out _).trans (((zR (p:=⟨gb202,_,none⟩) NB203_202.out _).trans (hHeld.2.1)))))),((zR (p:=⟨gb202,_,none⟩) NB203_202.out _).trans (((zR (p:=⟨gb202,_,none⟩) NB203_202.out _).trans (((zR (p:=⟨gb202,_,none⟩) NB203_202.out _).trans (hHeld.2.2))))))⟩ (fun hHeld => ?_);clear hK K;refine pure_ (i:=6) (N:=some 3) (v:=?_) (a':=?_) (bm_ 7 8) rfl rfl (any_of HT_.out (by kernel_rfl)) (fun _ _ _ h => h) (Or.inl ⟨by rfl,?_⟩) ?_ ?_;rotate_left
           ·
            intro w'
            go_simp
            with_reducible rfl
           rotate_left
           ·
            simp only [Act.put,zi,zj,zk,zG,zH]
            rfl
           refine pure_ (i:=7) (N:=some 4) (v:=?_) (a':=?_) (bm_ 8 8) rfl rfl (any_of HT_.out (by kernel_rfl)) (fun _ _ _ h => h) (Or.inl ⟨by rfl,?_⟩) ?_ ?_;rotate_left
           ·
            intro w'
            go_simp
            with_reducible rfl
           rotate_left
           ·
            simp only [Act.put,zi,zj,zk,zG,zH]
            rfl
           refine done_ (done_of HT_.out (by kernel_rfl)) ?_
           try go_wp2
           refine bodyPost_ret (results_ctt rfl _ _ gb202 39 #[.int .i64 (wrap64 (bt a0 0)),.int .i64 0,.string (a0.extract 3 ((ji36) : Int).toNat)] (0,0) _ rfl (by (with_reducible repeat (first|refine ze ?_ _|refine zf ?_|refine zg ?_ _));refine zL (cs:=#[.int .i64 (wrap64 (bt a0 0)),.int .i64 0,.string (⟨#[]⟩ : ByteArray)]) ?_ 2 _ rfl;(with_reducible repeat (first|refine ze ?_ _|refine zf ?_|refine zg ?_ _));refine zL (cs:=#[.int .i64 (wrap64 (bt a0 0)),.int .i64 0,.string (⟨#[]⟩ : ByteArray)]) ?_ 1 _ rfl;(with_reducible repeat (first|refine ze ?_ _|refine zf ?_|refine zg ?_ _));refine zL (cs:=#[.int .i64 0,.int .i64 0,.string (⟨#[]⟩ : ByteArray)]) ?_ 0 _ rfl;(with_reducible repeat (first|refine ze ?_ _|refine zf ?_|refine zg ?_ _));exact BK202.out) Tryd.underlying39 rfl (by kernel_rfl)) rfl ?_;exact ⟨by first|rfl|(simp [yt,yu] <;> rfl)|(simp only [← hji36];first|rfl|(simp [yt,yu] <;> rfl))|(simp [*,yt,yu] <;> rfl),by repeat (with_reducible first|exact HB.out|apply za|apply zb|apply zc|refine zd ?_ GE202.out|refine zd ?_ GE203.out)⟩
          rw [if_neg c37] at H;exact absurd H (by simp)
         rw [if_neg c35] at H;exact absurd H (by simp)
        rw [if_neg c34] at H;exact absurd H (by simp)
       rw [if_neg c29] at H;exact absurd H (by simp)
      rw [if_neg c28] at H;exact absurd H (by simp)
     replace c24:=yb.mpr c24;subst c24;have H1 : (some (0,0,(⟨#[]⟩ : ByteArray),(⟨#[]⟩ : ByteArray),false))=some (r1,r2,r3,r4,r5):=by rw [if_neg (show ¬ (false=true) by decide)] at H;exact H
     clear H;have H:=H1;clear H1;simp only [Option.some.injEq,Prod.mk.injEq] at H;obtain ⟨rfl,rfl,rfl,rfl,rfl⟩:=H;have hnb46:=NB202_203.out;have hnc46:=NB203_202.out;have hcz47_0 : wc.cell? ⟨gb202,0,none⟩=some (.int .i64 0):=(zz BK202.out 0).trans rfl;have hcz47_1 : wc.cell? ⟨gb202,1,none⟩=some (.int .i64 0):=(zz BK202.out 1).trans rfl;have hcz47_2 : wc.cell? ⟨gb202,2,none⟩=some (.string (⟨#[]⟩ : ByteArray)):=(zz BK202.out 2).trans rfl;have hfz47_0:=zA BK202.out 0;have hfz47_1:=zA BK202.out 1;have hfz47_2:=zA BK202.out 2
     go_wp2
     refine bodyPost_ret (results_ctt rfl _ _ gb202 39 #[.int .i64 0,.int .i64 0,.string (⟨#[]⟩ : ByteArray)] (0,0) _ rfl (by (with_reducible repeat (first|refine ze ?_ _|refine zf ?_|refine zg ?_ _));refine zL (cs:=#[.int .i64 0,.int .i64 0,.string (⟨#[]⟩ : ByteArray)]) ?_ 2 _ rfl;(with_reducible repeat (first|refine ze ?_ _|refine zf ?_|refine zg ?_ _));refine zL (cs:=#[.int .i64 0,.int .i64 0,.string (⟨#[]⟩ : ByteArray)]) ?_ 1 _ rfl;(with_reducible repeat (first|refine ze ?_ _|refine zf ?_|refine zg ?_ _));refine zL (cs:=#[.int .i64 0,.int .i64 0,.string (⟨#[]⟩ : ByteArray)]) ?_ 0 _ rfl;(with_reducible repeat (first|refine ze ?_ _|refine zf ?_|refine zg ?_ _));exact BK202.out) Tryd.underlying39 rfl (by kernel_rfl)) rfl ?_;exact ⟨by first|rfl|(simp [yt,yu] <;> rfl)|(simp [*,yt,yu] <;> rfl),by repeat (with_reducible first|exact HB.out|apply za|apply zb|apply zc|refine zd ?_ GE202.out|refine zd ?_ GE203.out)⟩
  case rest =>
   clear HC7
   try clear c1
   try clear c2
   try clear c2b0
   try clear c2b1
   try clear p2
   try clear c3
   try clear c4
   try clear c5
   try clear c5b0
   try clear c5b1
   try clear p6
   try clear q6
   try clear hx6
   try clear qi6
   try clear c8
   try clear c10
   try clear c12
   try clear c12b0
   try clear c12b1
   try clear c13
   try clear c13b0
   try clear c13b1
   try clear c19
   try clear c19b0
   try clear c19b1
   try clear c20
   try clear c20b0
   try clear c20b1
   try clear c22
   try clear c22b0
   try clear c22b1
   try clear c23
   try clear c23b0
   try clear c23b1
   try clear c24
   try clear c25
   try clear c25b0
   try clear c25b1
   try clear c26
   try clear c28
   try clear c28b0
   try clear c28b1
   try clear c29
   try clear c29b0
   try clear c29b1
   try clear c31
   try clear c31b0
   try clear c32
   try clear c34
   try clear c34b0
   try clear c34b1
   try clear c35
   try clear c35b0
   try clear c35b1
   try clear c37
   try clear c37b0
   try clear c37b1
   try clear c38
   try clear c38b0
   try clear c39
   try clear c46
   try clear hcz11_0
   try clear hcz11_1
   try clear hcz11_2
   try clear hcz27_0
   try clear hcz27_1
   try clear hcz27_2
   try clear hcz33_0
   try clear hcz33_1
   try clear hcz33_2
   try clear hcz40_0
   try clear hcz40_1
   try clear hcz40_2
   try clear hcz47_0
   try clear hcz47_1
   try clear hcz47_2
   try clear hcz4_0
   try clear hcz4_1
   try clear hcz4_2
   try clear hfz11_0
   try clear hfz11_1
   try clear hfz11_2
   try clear hfz27_0
   try clear hfz27_1
   try clear hfz27_2
   try clear hfz33_0
   try clear hfz33_1
   try clear hfz33_2
   try clear hfz40_0
   try clear hfz40_1
   try clear hfz40_2
   try clear hfz47_0
   try clear hfz47_1
   try clear hfz47_2
   try clear hfz4_0
   try clear hfz4_1
   try clear hfz4_2
   try clear p2
   try clear p6
   try clear q6
   obtain ⟨kq,x6_6,x203000_6,x203001_6,x203002_6,x204002_6,rfl,HA,HJ6,BK202,BK203,HB⟩:=hcut
   cases kq with
   | zero => exact absurd HA.out (by simp [spec_l01Next.j1])
   | succ kj6 =>
    have H:=HA.out;clear HA;simp only [spec_l01Next.j1] at H
    by_cases c48 : (a0.size : Int)<(wrap64 (1 + x6_6))
    ·
     rw [if_pos c48] at H
     have c48b0 : decide ((a0.size : Int)<(wrap64 (1 + x6_6)))=true:=decide_eq_true c48;clear c48;simp only [Option.some.injEq,Prod.mk.injEq] at H;obtain ⟨rfl,rfl,rfl,rfl,rfl⟩:=H;have hnb49:=NB202_203.out;have hnc49:=NB203_202.out;have hcz50_0 : wc.cell? ⟨gb202,0,none⟩=some (.int .i64 x203000_6):=(zz BK202.out 0).trans rfl;have hcz50_1 : wc.cell? ⟨gb202,1,none⟩=some (.int .i64 x203001_6):=(zz BK202.out 1).trans rfl;have hcz50_2 : wc.cell? ⟨gb202,2,none⟩=some (.string x203002_6):=(zz BK202.out 2).trans rfl;have hfz50_0:=zA BK202.out 0;have hfz50_1:=zA BK202.out 1;have hfz50_2:=zA BK202.out 2
     go_wp2
     refine bodyPost_ret (results_ctt rfl _ _ gb202 39 #[.int .i64 0,.int .i64 0,.string (⟨#[]⟩ : ByteArray)] (0,0) _ rfl (by (with_reducible repeat (first|refine ze ?_ _|refine zf ?_|refine zg ?_ _));refine zL (cs:=#[.int .i64 0,.int .i64 0,.string x203002_6]) ?_ 2 _ rfl;(with_reducible repeat (first|refine ze ?_ _|refine zf ?_|refine zg ?_ _));refine zL (cs:=#[.int .i64 0,.int .i64 x203001_6,.string x203002_6]) ?_ 1 _ rfl;(with_reducible repeat (first|refine ze ?_ _|refine zf ?_|refine zg ?_ _));refine zL (cs:=#[.int .i64 x203000_6,.int .i64 x203001_6,.string x203002_6]) ?_ 0 _ rfl;(with_reducible repeat (first|refine ze ?_ _|refine zf ?_|refine zg ?_ _));exact BK202.out) Tryd.underlying39 rfl (by kernel_rfl)) rfl ?_;exact ⟨by first|rfl|(simp [yt,yu] <;> rfl)|(simp [*,yt,yu] <;> rfl),by repeat (with_reducible first|exact HB.out|apply za|apply zb|apply zc|refine zd ?_ GE202.out|refine zd ?_ GE203.out)⟩
    rw [if_neg c48] at H;have c48b0 : decide ((a0.size : Int)<(wrap64 (1 + x6_6)))=false:=decide_eq_false c48;clear c48
    by_cases c51 : x6_6=1
    ·
     rw [if_pos c51] at H
     have c51b0 : (x6_6 == 1)=true:=ya.mpr c51;have c51b1 : (x6_6 != 1)=false:=zX.mpr c51;clear c51
     by_cases c52 : 1<(a0.size : Int)
     ·
      rw [if_pos c52] at H
      have c52b0 : decide (1<(a0.size : Int))=true:=decide_eq_true c52;have c52b1 : decide (1<a0.size)=true:=decide_eq_true (by omega);clear c52;obtain ⟨ji54,hji54⟩ : ∃ j_ : Int,(wrap64 (1 + x6_6))=j_:=⟨_,rfl⟩;replace H : (if 0≤(ji54) then (if (ji54)≤(a0.size : Int) then (some ((wrap64 (bt a0 0)),wrap64 (bt a0 1),x204002_6,a0.extract ((ji54) : Int).toNat a0.size,true)) else (none)) else (none))=some (r1,r2,r3,r4,r5):=by first|(rw [hji54] at H;exact H)|(simp only [hji54] at H ⊢;exact H)
      (try rw [hji54] at c48b0);have hji54w : (IntKind.i64.wrap (1 + x6_6))=ji54:=(zG _).trans hji54
      by_cases c55 : 0≤(ji54)
      ·
       rw [if_pos c55] at H
       have c55b0:=eq_true c55;have c55b1 : decide (0≤(ji54))=true:=decide_eq_true c55;clear c55
       by_cases c56 : (ji54)≤(a0.size : Int)
       ·
        rw [if_pos c56] at H
        have c56b0:=eq_true c56;have c56b1 : decide ((ji54)≤(a0.size : Int))=true:=decide_eq_true c56;clear c56;simp only [Option.some.injEq,Prod.mk.injEq] at H;obtain ⟨rfl,rfl,rfl,rfl,rfl⟩:=H;have p53 : 0≤(1 : Int):=(by omega);have q53 : 1<a0.size:=(by have : (1 : Int)<(a0.size : Int):=zy (by first|(with_reducible assumption)|assumption);omega);have hx53 : ∀ h : 1<a0.size,((a0[1]'h).toNat : Int)=bt a0 1:=bt_at a0 1;clear p53;have qi53 : (1<(a0.size : Int))=True:=eq_true (zy (by first|(with_reducible assumption)|assumption));replace q53:=eq_true q53;have hnb57:=NB203_202.out;have hnc57:=NB202_203.out;have hcz58_0 : wc.cell? ⟨gb203,0,none⟩=some (.int .i64 (wrap64 (bt a0 0))):=(zz BK203.out 0).trans rfl;have hcz58_1 : wc.cell? ⟨gb203,1,none⟩=some (.int .i64 0):=(zz BK203.out 1).trans rfl;have hcz58_2 : wc.cell? ⟨gb203,2,none⟩=some (.string x204002_6):=(zz BK203.out 2).trans rfl;have hfz58_0:=zA BK203.out 0;have hfz58_1:=zA BK203.out 1;have hfz58_2:=zA BK203.out 2
        try go_wp2
        have n0_ : Aside0 ((wc.setCell ⟨gb203,1,none⟩ (.int .i64 (wrap64 (bt a0 1)))).heap[gb202]? = some (.cells #[.int .i64 x203000_6,.int .i64 x203001_6,.string x203002_6] 39 (0,0))):=⟨by (with_reducible repeat (first|refine ze ?_ _|refine zf ?_|refine zg ?_ _));refine zS ?_ NB202_203.out _;(with_reducible repeat (first|refine ze ?_ _|refine zf ?_|refine zg ?_ _));exact BK202.out⟩;have n1_ : Aside0 ((wc.setCell ⟨gb203,1,none⟩ (.int .i64 (wrap64 (bt a0 1)))).heap[gb203]? = some (.cells #[.int .i64 (wrap64 (bt a0 0)),.int .i64 (wrap64 (bt a0 1)),.string x204002_6] 39 (0,0))):=⟨by (with_reducible repeat (first|refine ze ?_ _|refine zf ?_|refine zg ?_ _));refine zL (cs:=#[.int .i64 (wrap64 (bt a0 0)),.int .i64 0,.string x204002_6]) ?_ 1 _ rfl;(with_reducible repeat (first|refine ze ?_ _|refine zf ?_|refine zg ?_ _));exact BK203.out⟩;have n2_ : Aside0 (Below w.heap.size w (wc.setCell ⟨gb203,1,none⟩ (.int .i64 (wrap64 (bt a0 1))))):=⟨by repeat (with_reducible first|exact HB.out|apply za|apply zb|apply zc|refine zd ?_ GE202.out|refine zd ?_ GE203.out)⟩;(try clear BK202);(try clear BK203);(try clear HB);generalize (wc.setCell ⟨gb203,1,none⟩ (.int .i64 (wrap64 (bt a0 1))))=w59 at n0_ n1_ n2_ ⊢;have BK202:=n0_;have BK203:=n1_;have HB:=n2_;clear n0_ n1_ n2_;replace BK202:=zh (zf BK202.out);replace BK203:=zh (zf BK203.out);replace HB:=zh (zc HB.out);refine start_ (n:=8) (S:=fun w' => w'.cell? ⟨gb203,0,none⟩=some (.int .i64 (wrap64 (bt a0 0)))∧w'.cell? ⟨gb203,1,none⟩=some (.int .i64 (wrap64 (bt a0 1)))∧w'.cell? ⟨gb203,2,none⟩=some (.string x204002_6)) (ds:=[]) (bm_ 0 8) (by kernel_rfl) rfl rfl ⟨(zz BK203.out 0).trans rfl,(zz BK203.out 1).trans rfl,(zz BK203.out 2).trans rfl⟩ (fun hHeld => ?_);refine with_tabW spec_l01Next.tab30 spec_l01Next.bits30 (fun HT_ HW_ => ?_);generalize w59.drew=w60 at BK202 BK203 HB hHeld ⊢;refine pure_ (i:=1) (N:=some 77) (v:=?_) (a':=?_) #[false,true,false,false,false,false,false,false] rfl rfl (any_of HT_.out (by kernel_rfl)) (fun _ _ _ h => h) (Or.inl ⟨by rfl,?_⟩) ?_ ?_;rotate_left
        ·
         intro w'
         go_simp
         with_reducible rfl
        rotate_left
        ·
         simp only [Act.put,zi,zj,zk,zG,zH]
         rfl
        refine pure_ (i:=2) (N:=some 78) (v:=?_) (a':=?_) #[false,true,true,false,false,false,false,false] rfl rfl (any_of HT_.out (by kernel_rfl)) (fun _ _ _ h => h) (Or.inl ⟨by rfl,?_⟩) ?_ ?_;rotate_left
        ·
         intro w'
         go_simp
         with_reducible rfl
        rotate_left
        ·
         simp only [Act.put,zi,zj,zk,zG,zH]
         rfl
        refine pure_ (i:=3) (N:=some 79) (v:=?_) (a':=?_) #[false,true,true,true,false,false,false,false] rfl rfl (any_of HT_.out (by kernel_rfl)) (fun _ _ _ h => h) (Or.inl ⟨by rfl,?_⟩) ?_ ?_;rotate_left
        ·
         intro w'
         go_simp
         with_reducible rfl
        rotate_left
        ·
         simp only [Act.put,zi,zj,zk,zG,zH]
         rfl
        refine pure_ (i:=4) (N:=some 80) (v:=?_) (a':=?_) #[false,true,true,true,true,false,false,false] rfl rfl (any_of HT_.out (by kernel_rfl)) (fun _ _ _ h => h) (Or.inl ⟨by rfl,?_⟩) ?_ ?_;rotate_left
        ·
         intro w'
         go_simp
         with_reducible rfl
        rotate_left
        ·
         simp only [Act.put,zi,zj,zk,zG,zH]
         rfl
        refine take_ (i:=0) (N:=some 76) (v:=?_) (a':=?_) (bm_ 5 8) rfl rfl (yo HT_.out HW_.out (by kernel_rfl)) (fun _ _ _ h => h) (Or.inl ⟨by rfl,?_⟩) hHeld ?_ ?_;rotate_left
        ·
         rintro w' ⟨s0,s1,s2⟩
         go_simp
         with_reducible rfl
        rotate_left
        ·
         simp only [Act.put,zi,zj,zk,zG,zH]
         rfl
        refine one_ (i:=5) (N:=none) (bm_ 6 8) rfl rfl (one_of HT_.out (by kernel_rfl)) (by decide) (fun K hK => ?_);have hs61 : w60.cell? ⟨gb202,0,none⟩=some (.int .i64 x203000_6):=(zz BK202.out 0).trans rfl;have hfs61:=zA BK202.out 0;have hns61_1:=NB203_202.out;have hms61_1:=NB202_203.out;have hs62 : w60.cell? ⟨gb202,1,none⟩=some (.int .i64 x203001_6):=(zz BK202.out 1).trans rfl;have hfs62:=zA BK202.out 1;have hns62_1:=NB203_202.out;have hms62_1:=NB202_203.out;have hs63 : w60.cell? ⟨gb202,2,none⟩=some (.string x203002_6):=(zz BK202.out 2).trans rfl;have hfs63:=zA BK202.out 2;have hns63_1:=NB203_202.out;have hms63_1:=NB202_203.out;refine skip_ (w1:=?_) (by rfl) rfl ?_ ?_;rotate_left
        ·
         go_simp
         rfl
        refine hK.out _ _ ⟨((zR (p:=⟨gb202,_,none⟩) NB203_202.out _).trans (((zR (p:=⟨gb202,_,none⟩) NB203_202.out _).trans (((zR (p:=⟨gb202,_,none⟩) NB203_202.out _).trans (hHeld.1)))))),((zR (p:=⟨gb202,_,none⟩) NB203_202.out _).trans (((zR (p:=⟨gb202,_,none⟩) NB203_202.out _).trans (((zR (p:=⟨gb202,_,none⟩) NB203_202.out _).trans (hHeld.2.1)))))),((zR (p:=⟨gb202,_,none⟩) NB203_202.out _).trans (((zR (p:=⟨gb202,_,none⟩) NB203_202.out _).trans (((zR (p:=⟨gb202,_,none⟩) NB203_202.out _).trans (hHeld.2.2))))))⟩ (fun hHeld => ?_);clear hK K;refine pure_ (i:=6) (N:=some 3) (v:=?_) (a':=?_) (bm_ 7 8) rfl rfl (any_of HT_.out (by kernel_rfl)) (fun _ _ _ h => h) (Or.inl ⟨by rfl,?_⟩) ?_ ?_;rotate_left
        ·
         intro w'
         go_simp
         with_reducible rfl
        rotate_left
        ·
         simp only [Act.put,zi,zj,zk,zG,zH]
         rfl
        refine pure_ (i:=7) (N:=some 4) (v:=?_) (a':=?_) (bm_ 8 8) rfl rfl (any_of HT_.out (by kernel_rfl)) (fun _ _ _ h => h) (Or.inl ⟨by rfl,?_⟩) ?_ ?_;rotate_left
        ·
         intro w'
         go_simp
         with_reducible rfl
        rotate_left
        ·
         simp only [Act.put,zi,zj,zk,zG,zH]
         rfl
        refine done_ (done_of HT_.out (by kernel_rfl)) ?_
        try go_wp2
        refine bodyPost_ret (results_ctt rfl _ _ gb202 39 #[.int .i64 (wrap64 (bt a0 0)),.int .i64 (wrap64 (bt a0 1)),.string x204002_6] (0,0) _ rfl (by (with_reducible repeat (first|refine ze ?_ _|refine zf ?_|refine zg ?_ _));refine zL (cs:=#[.int .i64 (wrap64 (bt a0 0)),.int .i64 (wrap64 (bt a0 1)),.string x203002_6]) ?_ 2 _ rfl;(with_reducible repeat (first|refine ze ?_ _|refine zf ?_|refine zg ?_ _));refine zL (cs:=#[.int .i64 (wrap64 (bt a0 0)),.int .i64 x203001_6,.string x203002_6]) ?_ 1 _ rfl;(with_reducible repeat (first|refine ze ?_ _|refine zf ?_|refine zg ?_ _));refine zL (cs:=#[.int .i64 x203000_6,.int .i64 x203001_6,.string x203002_6]) ?_ 0 _ rfl;(with_reducible repeat (first|refine ze ?_ _|refine zf ?_|refine zg ?_ _));exact BK202.out) Tryd.underlying39 rfl (by kernel_rfl)) rfl ?_;exact ⟨by first|rfl|(simp [yt,yu] <;> rfl)|(simp only [← hji54];first|rfl|(simp [yt,yu] <;> rfl))|(simp [*,yt,yu] <;> rfl),by repeat (with_reducible first|exact HB.out|apply za|apply zb|apply zc|refine zd ?_ GE202.out|refine zd ?_ GE203.out)⟩
       rw [if_neg c56] at H;exact absurd H (by simp)
      rw [if_neg c55] at H;exact absurd H (by simp)
     rw [if_neg c52] at H;exact absurd H (by simp)
    rw [if_neg c51] at H;have c51b0 : (x6_6 == 1)=false:=zY.mpr c51;have c51b1 : (x6_6 != 1)=true:=zZ.mpr c51
    by_cases c64 : 1<(a0.size : Int)
    ·
     rw [if_pos c64] at H
     have c64b0 : decide (1<(a0.size : Int))=true:=decide_eq_true c64;have c64b1 : decide (1<a0.size)=true:=decide_eq_true (by omega);clear c64
     by_cases c66 : (bt a0 1) > 127
     ·
      rw [if_pos c66] at H
      have c66b0 : decide (127<(bt a0 1))=true:=decide_eq_true c66;clear c66;simp only [Option.some.injEq,Prod.mk.injEq] at H;obtain ⟨rfl,rfl,rfl,rfl,rfl⟩:=H;have p65 : 0≤(1 : Int):=(by omega);have q65 : 1<a0.size:=(by have : (1 : Int)<(a0.size : Int):=zy (by first|(with_reducible assumption)|assumption);omega);have hx65 : ∀ h : 1<a0.size,((a0[1]'h).toNat : Int)=bt a0 1:=bt_at a0 1;clear p65;have qi65 : (1<(a0.size : Int))=True:=eq_true (zy (by first|(with_reducible assumption)|assumption));replace q65:=eq_true q65;have hnb67:=NB202_203.out;have hnc67:=NB203_202.out;have hcz68_0 : wc.cell? ⟨gb202,0,none⟩=some (.int .i64 x203000_6):=(zz BK202.out 0).trans rfl;have hcz68_1 : wc.cell? ⟨gb202,1,none⟩=some (.int .i64 x203001_6):=(zz BK202.out 1).trans rfl;have hcz68_2 : wc.cell? ⟨gb202,2,none⟩=some (.string x203002_6):=(zz BK202.out 2).trans rfl;have hfz68_0:=zA BK202.out 0;have hfz68_1:=zA BK202.out 1;have hfz68_2:=zA BK202.out 2
      go_wp2
      refine bodyPost_ret (results_ctt rfl _ _ gb202 39 #[.int .i64 0,.int .i64 0,.string (⟨#[]⟩ : ByteArray)] (0,0) _ rfl (by (with_reducible repeat (first|refine ze ?_ _|refine zf ?_|refine zg ?_ _));refine zL (cs:=#[.int .i64 0,.int .i64 0,.string x203002_6]) ?_ 2 _ rfl;(with_reducible repeat (first|refine ze ?_ _|refine zf ?_|refine zg ?_ _));refine zL (cs:=#[.int .i64 0,.int .i64 x203001_6,.string x203002_6]) ?_ 1 _ rfl;(with_reducible repeat (first|refine ze ?_ _|refine zf ?_|refine zg ?_ _));refine zL (cs:=#[.int .i64 x203000_6,.int .i64 x203001_6,.string x203002_6]) ?_ 0 _ rfl;(with_reducible repeat (first|refine ze ?_ _|refine zf ?_|refine zg ?_ _));exact BK202.out) Tryd.underlying39 rfl (by kernel_rfl)) rfl ?_;exact ⟨by first|rfl|(simp [yt,yu] <;> rfl)|(simp [*,yt,yu] <;> rfl),by repeat (with_reducible first|exact HB.out|apply za|apply zb|apply zc|refine zd ?_ GE202.out|refine zd ?_ GE203.out)⟩
     rw [if_neg c66] at H;have c66b0 : decide (127<(bt a0 1))=false:=decide_eq_false c66;clear c66
     by_cases c69 : 1≤9
     ·
      rw [if_pos c69] at H
      have c69b0:=eq_true c69;have c69b1 : decide (1≤9)=true:=decide_eq_true c69;clear c69
      by_cases c70 : 9≤(a0.size : Int)
      ·
       rw [if_pos c70] at H
       have c70b0:=eq_true c70;have c70b1 : decide (9≤(a0.size : Int))=true:=decide_eq_true c70;clear c70;replace H:=zT.mp H;obtain ⟨t205,A710,H⟩:=H;replace H : (if 0≤(wrap64 (1 + x6_6)) then (if (wrap64 (1 + x6_6))≤(a0.size : Int) then (some ((wrap64 (bt a0 0)),wrap64 (t205 - 4611686018427387904),x204002_6,a0.extract ((wrap64 (1 + x6_6)) : Int).toNat a0.size,true)) else (none)) else (none))=some (r1,r2,r3,r4,r5):=H;have A71:=zh A710;clear A710;obtain ⟨ji72,hji72⟩ : ∃ j_ : Int,(wrap64 (1 + x6_6))=j_:=⟨_,rfl⟩;replace H : (if 0≤(ji72) then (if (ji72)≤(a0.size : Int) then (some ((wrap64 (bt a0 0)),wrap64 (t205 - 4611686018427387904),x204002_6,a0.extract ((ji72) : Int).toNat a0.size,true)) else (none)) else (none))=some (r1,r2,r3,r4,r5):=by first|(rw [hji72] at H;exact H)|(simp only [hji72] at H ⊢;exact H)
       (try rw [hji72] at c48b0);(try rw [hji72] at A71);have hji72w : (IntKind.i64.wrap (1 + x6_6))=ji72:=(zG _).trans hji72
       by_cases c73 : 0≤(ji72)
       ·
        rw [if_pos c73] at H
        have c73b0:=eq_true c73;have c73b1 : decide (0≤(ji72))=true:=decide_eq_true c73;clear c73
        by_cases c74 : (ji72)≤(a0.size : Int)
        ·
         rw [if_pos c74] at H
         have c74b0:=eq_true c74;have c74b1 : decide ((ji72)≤(a0.size : Int))=true:=decide_eq_true c74;clear c74;simp only [Option.some.injEq,Prod.mk.injEq] at H;obtain ⟨rfl,rfl,rfl,rfl,rfl⟩:=H;have p65 : 0≤(1 : Int):=(by omega);have q65 : 1<a0.size:=(by have : (1 : Int)<(a0.size : Int):=zy (by first|(with_reducible assumption)|assumption);omega);have hx65 : ∀ h : 1<a0.size,((a0[1]'h).toNat : Int)=bt a0 1:=bt_at a0 1;clear p65;have qi65 : (1<(a0.size : Int))=True:=eq_true (zy (by first|(with_reducible assumption)|assumption));replace q65:=eq_true q65
         try go_wp2_with (first|((with_reducible refine zJ (f:=88) rfl ?_);refine yj (some 73) rfl rfl Tryd.func88 (by kernel_rfl) rfl #[.string (a0.extract 1 9)] rfl (by (try simp only [zt,zu,zv]);first|done|rfl|(simp only [zw,zx];rfl)|(simp only [yr,ys,zV,zW];rfl)) ?_;(with_reducible refine (spec_l01Of.calls kj6  (a0.extract 1 9) t205 _ A71.out).mono ?_);rintro e w' ⟨rfl,⟨nd,rfl⟩⟩;refine ⟨_,rfl,?_⟩;(try (rw [drewN_self wc];generalize hq_ : World.drewN wc _=wc;replace BK202 : Aside0 (wc.heap[gb202]? = some (.cells #[.int .i64 x203000_6,.int .i64 x203001_6,.string x203002_6] 39 (0,0))):=⟨by rw [← hq_];exact (by (with_reducible repeat (first|refine ze ?_ _|refine zf ?_|refine zg ?_ _));exact BK202.out)⟩;replace BK203 : Aside0 (wc.heap[gb203]? = some (.cells #[.int .i64 (wrap64 (bt a0 0)),.int .i64 0,.string x204002_6] 39 (0,0))):=⟨by rw [← hq_];exact (by (with_reducible repeat (first|refine ze ?_ _|refine zf ?_|refine zg ?_ _));exact BK203.out)⟩;replace HB : Aside0 (Below w.heap.size w wc):=⟨by rw [← hq_];exact (by repeat (with_reducible first|exact HB.out|apply za|apply zb|apply zc|refine zd ?_ GE202.out|refine zd ?_ GE203.out))⟩;clear hq_));have hnb75:=NB203_202.out;have hnc75:=NB202_203.out;have hcz76_0 : wc.cell? ⟨gb203,0,none⟩=some (.int .i64 (wrap64 (bt a0 0))):=(zz BK203.out 0).trans rfl;have hcz76_1 : wc.cell? ⟨gb203,1,none⟩=some (.int .i64 0):=(zz BK203.out 1).trans rfl;have hcz76_2 : wc.cell? ⟨gb203,2,none⟩=some (.string x204002_6):=(zz BK203.out 2).trans rfl;have hfz76_0:=zA BK203.out 0;have hfz76_1:=zA BK203.out 1;have hfz76_2:=zA BK203.out 2))
         have n0_ : Aside0 ((wc.setCell ⟨gb203,1,none⟩ (.int .i64 (wrap64 (t205 - 4611686018427387904)))).heap[gb202]? = some (.cells #[.int .i64 x203000_6,.int .i64 x203001_6,.string x203002_6] 39 (0,0))):=⟨by (with_reducible repeat (first|refine ze ?_ _|refine zf ?_|refine zg ?_ _));refine zS ?_ NB202_203.out _;(with_reducible repeat (first|refine ze ?_ _|refine zf ?_|refine zg ?_ _));exact BK202.out⟩;have n1_ : Aside0 ((wc.setCell ⟨gb203,1,none⟩ (.int .i64 (wrap64 (t205 - 4611686018427387904)))).heap[gb203]? = some (.cells #[.int .i64 (wrap64 (bt a0 0)),.int .i64 (wrap64 (t205 - 4611686018427387904)),.string x204002_6] 39 (0,0))):=⟨by (with_reducible repeat (first|refine ze ?_ _|refine zf ?_|refine zg ?_ _));refine zL (cs:=#[.int .i64 (wrap64 (bt a0 0)),.int .i64 0,.string x204002_6]) ?_ 1 _ rfl;(with_reducible repeat (first|refine ze ?_ _|refine zf ?_|refine zg ?_ _));exact BK203.out⟩;have n2_ : Aside0 (Below w.heap.size w (wc.setCell ⟨gb203,1,none⟩ (.int .i64 (wrap64 (t205 - 4611686018427387904))))):=⟨by repeat (with_reducible first|exact HB.out|apply za|apply zb|apply zc|refine zd ?_ GE202.out|refine zd ?_ GE203.out)⟩;(try clear BK202);(try clear BK203);(try clear HB);generalize (wc.setCell ⟨gb203,1,none⟩ (.int .i64 (wrap64 (t205 - 4611686018427387904))))=w77 at n0_ n1_ n2_ ⊢;have BK202:=n0_;have BK203:=n1_;have HB:=n2_;clear n0_ n1_ n2_;replace BK202:=zh (zf BK202.out);replace BK203:=zh (zf BK203.out);replace HB:=zh (zc HB.out);refine start_ (n:=8) (S:=fun w' => w'.cell? ⟨gb203,0,none⟩=some (.int .i64 (wrap64 (bt a0 0)))∧w'.cell? ⟨gb203,1,none⟩=some (.int .i64 (wrap64 (t205 - 4611686018427387904)))∧w'.cell? ⟨gb203,2,none⟩=some (.string x204002_6)) (ds:=[]) (bm_ 0 8) (by kernel_rfl) rfl rfl ⟨(zz BK203.out 0).trans rfl,(zz BK203.out 1).trans rfl,(zz BK203.out 2).trans rfl⟩ (fun hHeld => ?_);refine with_tabW spec_l01Next.tab30 spec_l01Next.bits30 (fun HT_ HW_ => ?_);generalize w77.drew=w78 at BK202 BK203 HB hHeld ⊢;refine pure_ (i:=1) (N:=some 77) (v:=?_) (a':=?_) #[false,true,false,false,false,false,false,false] rfl rfl (any_of HT_.out (by kernel_rfl)) (fun _ _ _ h => h) (Or.inl ⟨by rfl,?_⟩) ?_ ?_;rotate_left
         ·
          intro w'
          go_simp
          with_reducible rfl
         rotate_left
         ·
          simp only [Act.put,zi,zj,zk,zG,zH]
          rfl
         refine pure_ (i:=2) (N:=some 78) (v:=?_) (a':=?_) #[false,true,true,false,false,false,false,false] rfl rfl (any_of HT_.out (by kernel_rfl)) (fun _ _ _ h => h) (Or.inl ⟨by rfl,?_⟩) ?_ ?_;rotate_left
         ·
          intro w'
          go_simp
          with_reducible rfl
         rotate_left
         ·
          simp only [Act.put,zi,zj,zk,zG,zH]
          rfl
         refine pure_ (i:=3) (N:=some 79) (v:=?_) (a':=?_) #[false,true,true,true,false,false,false,false] rfl rfl (any_of HT_.out (by kernel_rfl)) (fun _ _ _ h => h) (Or.inl ⟨by rfl,?_⟩) ?_ ?_;rotate_left
         ·
          intro w'
          go_simp
          with_reducible rfl
         rotate_left
         ·
          simp only [Act.put,zi,zj,zk,zG,zH]
          rfl
         refine pure_ (i:=4) (N:=some 80) (v:=?_) (a':=?_) #[false,true,true,true,true,false,false,false] rfl rfl (any_of HT_.out (by kernel_rfl)) (fun _ _ _ h => h) (Or.inl ⟨by rfl,?_⟩) ?_ ?_;rotate_left
         ·
          intro w'
          go_simp
          with_reducible rfl
         rotate_left
         ·
          simp only [Act.put,zi,zj,zk,zG,zH]
          rfl
         refine take_ (i:=0) (N:=some 76) (v:=?_) (a':=?_) (bm_ 5 8) rfl rfl (yo HT_.out HW_.out (by kernel_rfl)) (fun _ _ _ h => h) (Or.inl ⟨by rfl,?_⟩) hHeld ?_ ?_;rotate_left
         ·
          rintro w' ⟨s0,s1,s2⟩
          go_simp
          with_reducible rfl
         rotate_left
         ·
          simp only [Act.put,zi,zj,zk,zG,zH]
          rfl
         refine one_ (i:=5) (N:=none) (bm_ 6 8) rfl rfl (one_of HT_.out (by kernel_rfl)) (by decide) (fun K hK => ?_);have hs79 : w78.cell? ⟨gb202,0,none⟩=some (.int .i64 x203000_6):=(zz BK202.out 0).trans rfl;have hfs79:=zA BK202.out 0;have hns79_1:=NB203_202.out;have hms79_1:=NB202_203.out;have hs80 : w78.cell? ⟨gb202,1,none⟩=some (.int .i64 x203001_6):=(zz BK202.out 1).trans rfl;have hfs80:=zA BK202.out 1;have hns80_1:=NB203_202.out;have hms80_1:=NB202_203.out;have hs81 : w78.cell? ⟨gb202,2,none⟩=some (.string x203002_6):=(zz BK202.out 2).trans rfl;have hfs81:=zA BK202.out 2;have hns81_1:=NB203_202.out;have hms81_1:=NB202_203.out;refine skip_ (w1:=?_) (by rfl) rfl ?_ ?_;rotate_left
         ·
          go_simp
          rfl
         refine hK.out _ _ ⟨((zR (p:=⟨gb202,_,none⟩) NB203_202.out _).trans (((zR (p:=⟨gb202,_,none⟩) NB203_202.out _).trans (((zR (p:=⟨gb202,_,none⟩) NB203_202.out _).trans (hHeld.1)))))),((zR (p:=⟨gb202,_,none⟩) NB203_202.out _).trans (((zR (p:=⟨gb202,_,none⟩) NB203_202.out _).trans (((zR (p:=⟨gb202,_,none⟩) NB203_202.out _).trans (hHeld.2.1)))))),((zR (p:=⟨gb202,_,none⟩) NB203_202.out _).trans (((zR (p:=⟨gb202,_,none⟩) NB203_202.out _).trans (((zR (p:=⟨gb202,_,none⟩) NB203_202.out _).trans (hHeld.2.2))))))⟩ (fun hHeld => ?_);clear hK K;refine pure_ (i:=6) (N:=some 3) (v:=?_) (a':=?_) (bm_ 7 8) rfl rfl (any_of HT_.out (by kernel_rfl)) (fun _ _ _ h => h) (Or.inl ⟨by rfl,?_⟩) ?_ ?_;rotate_left
         ·
          intro w'
          go_simp
          with_reducible rfl
         rotate_left
         ·
          simp only [Act.put,zi,zj,zk,zG,zH]
          rfl
         refine pure_ (i:=7) (N:=some 4) (v:=?_) (a':=?_) (bm_ 8 8) rfl rfl (any_of HT_.out (by kernel_rfl)) (fun _ _ _ h => h) (Or.inl ⟨by rfl,?_⟩) ?_ ?_;rotate_left
         ·
          intro w'
          go_simp
          with_reducible rfl
         rotate_left
         ·
          simp only [Act.put,zi,zj,zk,zG,zH]
          rfl
         refine done_ (done_of HT_.out (by kernel_rfl)) ?_
         try go_wp2
         refine bodyPost_ret (results_ctt rfl _ _ gb202 39 #[.int .i64 (wrap64 (bt a0 0)),.int .i64 (wrap64 (t205 - 4611686018427387904)),.string x204002_6] (0,0) _ rfl (by (with_reducible repeat (first|refine ze ?_ _|refine zf ?_|refine zg ?_ _));refine zL (cs:=#[.int .i64 (wrap64 (bt a0 0)),.int .i64 (wrap64 (t205 - 4611686018427387904)),.string x203002_6]) ?_ 2 _ rfl;(with_reducible repeat (first|refine ze ?_ _|refine zf ?_|refine zg ?_ _));refine zL (cs:=#[.int .i64 (wrap64 (bt a0 0)),.int .i64 x203001_6,.string x203002_6]) ?_ 1 _ rfl;(with_reducible repeat (first|refine ze ?_ _|refine zf ?_|refine zg ?_ _));refine zL (cs:=#[.int .i64 x203000_6,.int .i64 x203001_6,.string x203002_6]) ?_ 0 _ rfl;(with_reducible repeat (first|refine ze ?_ _|refine zf ?_|refine zg ?_ _));exact BK202.out) Tryd.underlying39 rfl (by kernel_rfl)) rfl ?_;exact ⟨by first|rfl|(simp [yt,yu] <;> rfl)|(simp only [← hji72];first|rfl|(simp [yt,yu] <;> rfl))|(simp [*,yt,yu] <;> rfl),by repeat (with_reducible first|exact HB.out|apply za|apply zb|apply zc|refine zd ?_ GE202.out|refine zd ?_ GE203.out)⟩
        rw [if_neg c74] at H;exact absurd H (by simp)
       rw [if_neg c73] at H;exact absurd H (by simp)
      rw [if_neg c70] at H;exact absurd H (by simp)
     rw [if_neg c69] at H;exact absurd H (by simp)
    rw [if_neg c64] at H;exact absurd H (by simp)
 rw [if_neg c5] at H;exact absurd H (by simp)

end Go.Proofs.YthjgfjlogilleaaDoor.Q
end
section
namespace Go.Proofs.YthjgfjlogilleaaDoor.Q
open Go.RowKit Go.Proofs.YthjgfjlogilleaaDoorW.PrintWords Go.Proofs.YthjgfjlogilleaaDoorW.PrintLast Go.Proofs.YthjgfjlogilleaaDoorW.PrintMore
attribute [local go_sem] max2_int min2_int max_two min_two max_three min_three max_four min_four max2_str min2_str str_geq str_gtr str_leq
set_option linter.unusedVariables false
set_option linter.unusedSimpArgs false

def strings_Repeat.f (a0 : ByteArray) (a1 : Int) : Option (ByteArray):=if 0≤a1 then (if a0.size * a1.toNat≤140737488355328 then (if a1≤9223372036854775807 then (some ⟨(Lib.repeatL a0.data.toList a1.toNat).toArray⟩) else (none)) else (none)) else (none)
theorem strings_Repeat.calls (a0 : ByteArray) (a1 : Int) (r : ByteArray) (w : World) (h : strings_Repeat.f a0 a1=some r) :
  Calls Tryd.prog 103 #[.string a0,.int .i64 a1] w fun e w' => e = .returned (.string r)∧Below w.heap.size w w':=by
 unfold strings_Repeat.f at h
 by_cases h0 : 0≤a1
 ·
  rw [if_pos h0] at h
  by_cases h1 : a0.size * a1.toNat≤140737488355328
  ·
   rw [if_pos h1] at h
   by_cases h2 : a1≤9223372036854775807
   ·
    rw [if_pos h2] at h
    obtain rfl:=zU h;have:=Tryd.strings_Repeat a0 a1.toNat w (by omega) h1;rw [Int.toNat_of_nonneg h0] at this;exact this
   rw [if_neg h2] at h;exact absurd h (by simp)
  rw [if_neg h1] at h;exact absurd h (by simp)
 rw [if_neg h0] at h;exact absurd h (by simp)


def IsS108 (w0 W : World) (g : Nat) (f0 : ByteArray) (f1 : Bool) : Prop:=W.heap[g]? = some (.cells #[.string f0,.bool f1] 108 (0,0))∧w0.heap.size≤g
theorem IsS108.grown {w0 W : World} {g : Nat} {f0 : ByteArray} {f1 : Bool} {W1 : World} {row : Option Nat} (h : IsS108 w0 W g f0 f1) (hw : W.grownBy W1 row) (hne : some g≠row) : IsS108 w0 W1 g f0 f1:=by
 obtain ⟨hb,hg⟩:=h;exact ⟨yw hb hw hne,hg⟩
theorem IsS108.fresh {w0 W : World} {g : Nat} {f0 : ByteArray} {f1 : Bool} (h : IsS108 w0 W g f0 f1) : ∀ k,W.heap.size≤k→k≠g:=by
 obtain ⟨hb,hg⟩:=h;exact Kd.freshB hb
theorem IsS108.kept {w0 W : World} {g : Nat} {f0 : ByteArray} {f1 : Bool} {W1 : World} {S : Nat→Prop} (h : IsS108 w0 W g f0 f1) (hk : Kept W W1 S) (hne : ¬ S g) : IsS108 w0 W1 g f0 f1:=by
 obtain ⟨hb,hg⟩:=h;exact ⟨blk_kept hb hk hne,hg⟩
theorem IsS108.below {w0 W : World} {g : Nat} {f0 : ByteArray} {f1 : Bool} {W1 : World} (h : IsS108 w0 W g f0 f1) (hw : Below W.heap.size W W1) : IsS108 w0 W1 g f0 f1:=h.grown (grown_of_below hw none) (by simp)
theorem IsS108.alloc {w0 W : World} {g : Nat} {f0 : ByteArray} {f1 : Bool} (h : IsS108 w0 W g f0 f1) (o : Obj) : IsS108 w0 (W.alloc o) g f0 f1:=h.below (za (Below.refl _ _) o)
theorem IsS108.drewN {w0 W : World} {g : Nat} {f0 : ByteArray} {f1 : Bool} (h : IsS108 w0 W g f0 f1) (m : Nat) : IsS108 w0 (W.drewN m) g f0 f1:=h
theorem IsS108.drew {w0 W : World} {g : Nat} {f0 : ByteArray} {f1 : Bool} (h : IsS108 w0 W g f0 f1) : IsS108 w0 W.drew g f0 f1:=h
theorem IsS108.at_ {w0 W : World} {g : Nat} {f0 : ByteArray} {f1 : Bool} {w' : World} {m : Nat} (hq : W.drewN m=w') (h : IsS108 w0 W g f0 f1) : IsS108 w0 w' g f0 f1:=by subst hq;exact IsS108.drewN h m
theorem IsS108.apart {w0 W : World} {g : Nat} {f0 : ByteArray} {f1 : Bool} {α : Type} {d : Kd α} {e : Nat} {base : Nat} {ok : Nat→Prop} {v : Value} {xs : List α} (h : IsS108 w0 W g f0 f1) (ho : d.R e W base ok v xs) (ht : ∀ q,q ∈ e :: d.E→q≠108) : d.R e W base (fun k => ok k∧k≠g) v xs:=by
 obtain ⟨hb,hg⟩:=h;exact yf ho hb ht
theorem IsS108.own_ne {w0 W : World} {g : Nat} {f0 : ByteArray} {f1 : Bool} {α : Type} {d : Kd α} {e : Nat} {base : Nat} {ok : Nat→Prop} {v : Value} {xs : List α} (h : IsS108 w0 W g f0 f1) (ho : d.R e W base ok v xs) (ht : e≠108) : some g≠v.ownBlock:=by
 obtain ⟨hb,hg⟩:=h;exact Kd.R_ne ho hb ht
theorem IsS108.lt {w0 W : World} {g : Nat} {f0 : ByteArray} {f1 : Bool} (h : IsS108 w0 W g f0 f1) : g<W.heap.size:=by
 obtain ⟨hb,hg⟩:=h;exact yi hb
theorem IsS108.ge {w0 W : World} {g : Nat} {f0 : ByteArray} {f1 : Bool} (h : IsS108 w0 W g f0 f1) : w0.heap.size≤g:=by
 obtain ⟨hb,hg⟩:=h;exact hg
theorem IsS108.far {w0 W : World} {g : Nat} {f0 : ByteArray} {f1 : Bool} {p : Addr} (h : IsS108 w0 W g f0 f1) (hne : g≠p.block) (u : Value) : IsS108 w0 (W.setCell p u) g f0 f1:=by
 obtain ⟨hb,hg⟩:=h;exact ⟨zS hb hne u,hg⟩
theorem cellS108_0 {W : World} {g : Nat} {f0 : ByteArray} {f1 : Bool} (h : W.heap[g]? = some (.cells #[.string f0,.bool f1] 108 (0,0))) : W.cell? ⟨g,0,none⟩=some (.string f0):=(zz h 0).trans rfl
theorem IsS108.set_0 {w0 W : World} {g : Nat} {f0 : ByteArray} {f1 : Bool} (h : IsS108 w0 W g f0 f1) (x : ByteArray) : IsS108 w0 (W.setCell ⟨g,0,none⟩ (.string x)) g x f1:=by
 obtain ⟨hb,hg⟩:=h;exact ⟨by simpa using blk_set hb 0 (.string x),hg⟩
theorem cellS108_1 {W : World} {g : Nat} {f0 : ByteArray} {f1 : Bool} (h : W.heap[g]? = some (.cells #[.string f0,.bool f1] 108 (0,0))) : W.cell? ⟨g,1,none⟩=some (.bool f1):=(zz h 1).trans rfl
theorem IsS108.set_1 {w0 W : World} {g : Nat} {f0 : ByteArray} {f1 : Bool} (h : IsS108 w0 W g f0 f1) (x : Bool) : IsS108 w0 (W.setCell ⟨g,1,none⟩ (.bool x)) g f0 x:=by
 obtain ⟨hb,hg⟩:=h;exact ⟨by simpa using blk_set hb 1 (.bool x),hg⟩
theorem IsS108.new (w0 W : World) (f0 : ByteArray) (f1 : Bool) (hB : Below w0.heap.size w0 W) : IsS108 w0 (W.alloc (.cells #[.string f0,.bool f1] 108)) W.heap.size f0 f1:=⟨by simpa using heap_alloc_new W _,hB.size⟩

def impl_byteReader_take.f (s0_0 : ByteArray) (s0_1 : Bool) (a1 : Int) : Option (ByteArray×ByteArray×Bool):=if a1 > (s0_0.size : Int) then ((strings_Repeat.f (⟨#[0]⟩ : ByteArray) a1).bind fun t279 => (some (t279,s0_0,true))) else (if 0≤a1 then (if a1≤(s0_0.size : Int) then (some (s0_0.extract 0 (a1 : Int).toNat,s0_0.extract (a1 : Int).toNat s0_0.size,s0_1)) else (none)) else (none))
set_option maxHeartbeats 8000000 in
set_option maxRecDepth 100000 in
theorem impl_byteReader_take.calls (g : Nat) (s0_0 : ByteArray) (s0_1 : Bool) (a1 : Int) (r1 : ByteArray) (r2 : ByteArray) (r3 : Bool) (w0 w : World) (hI : IsS108 w0 w g s0_0 s0_1) (hB : Below w0.heap.size w0 w) (h : impl_byteReader_take.f s0_0 s0_1 a1=some (r1,r2,r3)) :
  Calls Tryd.prog 93 #[.pointer (some ⟨g,0,none⟩),.int .i64 a1] w fun e w' => e = .returned (.string r1)∧IsS108 w0 w' g r2 r3∧Below w0.heap.size w0 w' ∧ KeepBut w w' g none:=by
 have HI0:=zh hI;have HK:=zh (KeepBut.refl w g none);have HL:=zh hB.size;clear hI;have HW0:=zh hB.size;have HB:=zh hB;clear hB;have H : (if a1 > (s0_0.size : Int) then ((strings_Repeat.f (⟨#[0]⟩ : ByteArray) a1).bind fun t279 => (some (t279,s0_0,true))) else (if 0≤a1 then (if a1≤(s0_0.size : Int) then (some (s0_0.extract 0 (a1 : Int).toNat,s0_0.extract (a1 : Int).toNat s0_0.size,s0_1)) else (none)) else (none)))=some (r1,r2,r3):=h;clear h
 by_cases c3 : a1 > (s0_0.size : Int)
 ·
  rw [if_pos c3] at H
  have c3b0 : decide ((s0_0.size : Int)<a1)=true:=decide_eq_true c3;clear c3;replace H:=zT.mp H;obtain ⟨t279,A40,H⟩:=H;replace H : (some (t279,s0_0,true))=some (r1,r2,r3):=H;have A4:=zh A40;clear A40;simp only [Option.some.injEq,Prod.mk.injEq] at H;obtain ⟨rfl,rfl,rfl⟩:=H;obtain ⟨HGz5,hgz5⟩:=HI0.out;have hcz5_0:=cellS108_0 HGz5;have hcz5_1:=cellS108_1 HGz5;have hfz5_0:=zA HGz5 0;have hfz5_1:=zA HGz5 1;clear HGz5 hgz5
  go_enter Tryd.func93,Tryd.ntmps93
  go_wp2_with (first|((with_reducible refine zJ (f:=103) rfl ?_);refine yj (some 17) rfl rfl Tryd.func103 (by kernel_rfl) rfl #[.string (⟨#[0]⟩ : ByteArray),.int .i64 a1] rfl (by (try simp only [zt,zu,zv]);first|done|rfl|(simp only [zw,zx];rfl)|(simp only [yr,ys,zV,zW];rfl)) ?_;(with_reducible refine (strings_Repeat.calls  (⟨#[0]⟩ : ByteArray) a1 t279 _ A4.out).mono ?_);rintro e w6 ⟨rfl,hb⟩;refine ⟨_,rfl,?_⟩;replace HK:=zh (KeepBut.trans (by repeat (with_reducible first|exact HK.out|apply yl|apply ym|apply yx|apply yn)) (KeepBut.of_below hb g none) (.inl rfl));replace HB:=zh (zC (by repeat (with_reducible first|exact HB.out|apply za|apply zb|apply zc|refine zd ?_ (IsS108.ge HI0.out))) hb);replace HI0:=zh (IsS108.below (show IsS108 w0 (w.setCell ⟨g,1,none⟩ (.bool true)) g s0_0 true from by repeat (with_reducible first|exact HI0.out|apply IsS108.alloc|apply IsS108.drewN|apply IsS108.drew|apply IsS108.set_0|apply IsS108.set_1)) hb);(try clear hb);(try clear hb2);(try clear hk);(try clear hi)))
  go_ret
  exact ⟨by first|rfl|(simp [yt,yu] <;> rfl)|(simp [*,yt,yu] <;> rfl),by repeat (with_reducible first|exact HI0.out|apply IsS108.alloc|apply IsS108.drewN|apply IsS108.drew|apply IsS108.set_0|apply IsS108.set_1),by repeat (with_reducible first|exact HB.out|apply za|apply zb|apply zc|refine zd ?_ (IsS108.ge HI0.out)),by repeat (with_reducible first|exact HK.out|apply yl|apply ym|apply yx|apply yn)⟩
 rw [if_neg c3] at H;have c3b0 : decide ((s0_0.size : Int)<a1)=false:=decide_eq_false c3;clear c3
 by_cases c7 : 0≤a1
 ·
  rw [if_pos c7] at H
  have c7b0:=eq_true c7;have c7b1 : decide (0≤a1)=true:=decide_eq_true c7;clear c7
  by_cases c8 : a1≤(s0_0.size : Int)
  ·
   rw [if_pos c8] at H
   have c8b0:=eq_true c8;have c8b1 : decide (a1≤(s0_0.size : Int))=true:=decide_eq_true c8;clear c8;have c9b0:=eq_true (zy (by first|(with_reducible assumption)|assumption) : 0≤a1);have c10b0:=eq_true (zy (by first|(with_reducible assumption)|assumption) : a1≤(s0_0.size : Int));simp only [Option.some.injEq,Prod.mk.injEq] at H;obtain ⟨rfl,rfl,rfl⟩:=H;obtain ⟨HGz11,hgz11⟩:=HI0.out;have hcz11_0:=cellS108_0 HGz11;have hcz11_1:=cellS108_1 HGz11;have hfz11_0:=zA HGz11 0;have hfz11_1:=zA HGz11 1;clear HGz11 hgz11
   go_enter Tryd.func93,Tryd.ntmps93
   go_wp2
   go_ret
   exact ⟨by first|rfl|(simp [yt,yu] <;> rfl)|(simp [*,yt,yu] <;> rfl),by repeat (with_reducible first|exact HI0.out|apply IsS108.alloc|apply IsS108.drewN|apply IsS108.drew|apply IsS108.set_0|apply IsS108.set_1),by repeat (with_reducible first|exact HB.out|apply za|apply zb|apply zc|refine zd ?_ (IsS108.ge HI0.out)),by repeat (with_reducible first|exact HK.out|apply yl|apply ym|apply yx|apply yn)⟩
  rw [if_neg c8] at H;exact absurd H (by simp)
 rw [if_neg c7] at H;exact absurd H (by simp)


def impl_byteReader_num.f (k : Nat) (s0_0 : ByteArray) (s0_1 : Bool) (a1 : Int) : Option (Int×ByteArray×Bool):=(impl_byteReader_take.f s0_0 s0_1 a1).bind fun bt281 => (if bt281.1.size≤9223372036854775807 then ((impl_big.f k (bytesOf bt281.1)).bind fun t287 => (some (t287,bt281.2.1,bt281.2.2))) else (none))
theorem impl_byteReader_num.mono : ∀ a0 a1 a2 k,LeO (impl_byteReader_num.f k a0 a1 a2) (impl_byteReader_num.f (k + 1) a0 a1 a2):=by
 intro a0 a1 a2 k;unfold impl_byteReader_num.f
 repeat' first|(with_reducible first|exact impl_big.mono _ _|exact zQ _|exact zN _|refine zP ?_ ?_|refine zO ?_ (fun _ => ?_))|refine zP ?_ ?_|refine zO ?_ (fun _ => ?_)
set_option maxHeartbeats 8000000 in
set_option maxRecDepth 100000 in
theorem impl_byteReader_num.calls (k : Nat) (g : Nat) (s0_0 : ByteArray) (s0_1 : Bool) (a1 : Int) (r1 : Int) (r2 : ByteArray) (r3 : Bool) (w0 w : World) (hI : IsS108 w0 w g s0_0 s0_1) (hB : Below w0.heap.size w0 w) (h : impl_byteReader_num.f k s0_0 s0_1 a1=some (r1,r2,r3)) :
  Calls Tryd.prog 94 #[.pointer (some ⟨g,0,none⟩),.int .i64 a1] w fun e w' => e = .returned (.int .i64 r1)∧IsS108 w0 w' g r2 r3∧Below w0.heap.size w0 w' ∧ KeepBut w w' g none:=by
 have HI0:=zh hI;have HK:=zh (KeepBut.refl w g none);have HL:=zh hB.size;clear hI;have HW0:=zh hB.size;have HB:=zh hB;clear hB;have H : ((impl_byteReader_take.f s0_0 s0_1 a1).bind fun bt281 => (if bt281.1.size≤9223372036854775807 then ((impl_big.f k (bytesOf bt281.1)).bind fun t287 => (some (t287,bt281.2.1,bt281.2.2))) else (none)))=some (r1,r2,r3):=h;clear h;replace H:=zT.mp H;obtain ⟨⟨t281,t282,t283⟩,A30,H⟩:=H;replace H : (if t281.size≤9223372036854775807 then ((impl_big.f k (bytesOf t281)).bind fun t287 => (some (t287,t282,t283))) else (none))=some (r1,r2,r3):=H;have A3:=zh A30;clear A30
 by_cases c4 : t281.size≤9223372036854775807
 ·
  rw [if_pos c4] at H
  have c4b0:=eq_true c4;have c4b1 : decide (t281.size≤9223372036854775807)=true:=decide_eq_true c4
  try have c4b2 : (9223372036854775807<t281.size)=False:=eq_false (Nat.not_lt.2 c4)
  clear c4;obtain ⟨y284,hy284⟩ : ∃ y_ : List Int,y_=(bytesOf t281):=⟨_,rfl⟩;replace H : ((impl_big.f k y284).bind fun t287 => (some (t287,t282,t283)))=some (r1,r2,r3):=by first|(rw [hy284];with_reducible exact H)|(have H2_:=(Option.bind_some _ _).symm.trans H;rw [hy284];with_reducible exact H2_)|(have H2_:=(Option.bind_some _ _).symm.trans H;with_reducible exact H2_)|with_reducible exact H|(rw [hy284];exact H)|exact H
  have Ny284:=zh hy284;clear hy284;replace H:=zT.mp H;obtain ⟨t287,A50,H⟩:=H;replace H : (some (t287,t282,t283))=some (r1,r2,r3):=H;have A5:=zh A50;clear A50;simp only [Option.some.injEq,Prod.mk.injEq] at H;obtain ⟨rfl,rfl,rfl⟩:=H
  go_enter Tryd.func94,Tryd.ntmps94
  go_wp2_with (first|((with_reducible refine zJ (f:=93) rfl ?_);refine yj (some 7) rfl rfl Tryd.func93 (by kernel_rfl) rfl #[.pointer (some ⟨g,0,none⟩),.int .i64 a1] rfl (by (try simp only [zt,zu,zv]);first|done|rfl|(simp only [zw,zx];rfl)|(simp only [yr,ys,zV,zW];rfl)) ?_;(with_reducible refine (impl_byteReader_take.calls  g s0_0 s0_1 a1 t281 t282 t283 w0 _ ?side1 ?side2 A3.out).mono ?_);(case side1 => repeat (with_reducible first|exact HI0.out|apply IsS108.alloc|apply IsS108.drewN|apply IsS108.drew|apply IsS108.set_0|apply IsS108.set_1));(case side2 => repeat (with_reducible first|exact HB.out|apply za|apply zb|apply zc|refine zd ?_ (IsS108.ge HI0.out)));rintro e w6 ⟨rfl,hi,hb,hk⟩;refine ⟨_,rfl,?_⟩;replace HK:=zh (KeepBut.trans (by repeat (with_reducible first|exact HK.out|apply yl|apply ym|apply yx|apply yn)) hk (.inl rfl));replace HB:=zh (hb);replace HI0:=zh (hi);(try clear hb);(try clear hb2);(try clear hk);(try clear hi))|((with_reducible refine zK (N:=8) rfl ?_);refine conv_event (base:=w6.heap.size) ?hg (N:=8) ?hd 9 84 5 t281 rfl ?hx Tryd.underlying9 Tryd.underlying84 Tryd.underlying5 (zy (by first|(with_reducible assumption)|assumption)) ?_;(case hd => rfl);(case hg => rfl);(case hx => first|(go_simp;done)|(go_simp;rfl)|rfl);intro v285 w7 ho8 hb;(first|rw [← Ny284.out] at ho8|(simp only [Int.reduceToNat] at ho8;rw [← Ny284.out] at ho8));have HO286:=zh (Kd.V_lower (Kd.V_mono (ok':=fun k_ => k_≠g) ho8 (fun k_ hk_ => (IsS108.fresh (by repeat (with_reducible first|exact HI0.out|apply IsS108.alloc|apply IsS108.drewN|apply IsS108.drew|apply IsS108.set_0|apply IsS108.set_1)) k_ hk_))) (keep_size (w:=w) (g:=g) (row:=none) (by repeat (with_reducible first|exact HK.out|apply yl|apply ym|apply yx|apply yn))));replace HK:=zh (KeepBut.trans (by repeat (with_reducible first|exact HK.out|apply yl|apply ym|apply yx|apply yn)) (KeepBut.of_below hb g none) (.inl rfl));replace HB:=zh (zC (by repeat (with_reducible first|exact HB.out|apply za|apply zb|apply zc|refine zd ?_ (IsS108.ge HI0.out))) hb);replace HI0:=zh (IsS108.below (by repeat (with_reducible first|exact HI0.out|apply IsS108.alloc|apply IsS108.drewN|apply IsS108.drew|apply IsS108.set_0|apply IsS108.set_1)) hb);clear hb ho8;obtain ⟨Ao9,co9,eo9⟩:=Kd.V_slice HO286.out;subst eo9)|((with_reducible refine zJ (f:=104) rfl ?_);refine yj (some 9) rfl rfl Tryd.func104 (by kernel_rfl) rfl #[.slice Ao9 y284.length co9] rfl (by (try simp only [zt,zu,zv]);first|done|rfl|(simp only [zw,zx];rfl)|(simp only [yr,ys,zV,zW];rfl)) ?_;(with_reducible refine (impl_big.calls k  _ _ y284 t287 _ ?side1 ?side2 A5.out).mono ?_);(case side1 => repeat (first|exact (Kd.V_reads' HO286.out).2.2|(with_reducible refine Kd.C_alloc ?_ _)|(with_reducible refine Kd.C_drewN ?_ _)|(with_reducible refine Kd.C_drew ?_)));(case side2 => exact (Kd.V_reads' HO286.out).2.1);rintro e w' ⟨rfl,⟨nd,rfl⟩⟩;refine ⟨_,rfl,?_⟩))
  go_ret
  exact ⟨by first|rfl|(simp [yt,yu] <;> rfl)|(simp [*,yt,yu] <;> rfl),by repeat (with_reducible first|exact HI0.out|apply IsS108.alloc|apply IsS108.drewN|apply IsS108.drew|apply IsS108.set_0|apply IsS108.set_1),by repeat (with_reducible first|exact HB.out|apply za|apply zb|apply zc|refine zd ?_ (IsS108.ge HI0.out)),by repeat (with_reducible first|exact HK.out|apply yl|apply ym|apply yx|apply yn)⟩
 rw [if_neg c4] at H;exact absurd H (by simp)


def impl_byteReader_value.j0 : Nat→Bool→ByteArray→Bool→Int→Int→ByteArray→Option (Int×Int×ByteArray×ByteArray×Bool)
 | 0,_,_,_,_,_,_ => none
 | k + 1,x20,x1000,x1001,x293000,x293001,x293002 => if x20=true then ((impl_byteReader_num.f k x1000 x1001 2).bind fun bt299 => ((impl_byteReader_take.f bt299.2.1 bt299.2.2 bt299.1).bind fun bt302 => (some (x293000,x293001,bt302.1,bt302.2.1,bt302.2.2)))) else (some (x293000,x293001,x293002,x1000,x1001))
def impl_byteReader_value.f (k : Nat) (s0_0 : ByteArray) (s0_1 : Bool) : Option (Int×Int×ByteArray×ByteArray×Bool):=(impl_byteReader_num.f k s0_0 s0_1 1).bind fun bt289 => (if bt289.1=1 then ((impl_byteReader_num.f k bt289.2.1 bt289.2.2 1).bind fun bt293 => (some (bt289.1,bt293.1,(⟨#[]⟩ : ByteArray),bt293.2.1,bt293.2.2))) else (if bt289.1=2 then ((impl_byteReader_num.f k bt289.2.1 bt289.2.2 8).bind fun bt296 => (some (bt289.1,wrap64 (bt296.1 - 4611686018427387904),(⟨#[]⟩ : ByteArray),bt296.2.1,bt296.2.2))) else (if bt289.1=3 then (impl_byteReader_value.j0 k (bt289.1 == 3) bt289.2.1 bt289.2.2 bt289.1 0 (⟨#[]⟩ : ByteArray)) else (if bt289.1=4 then (impl_byteReader_value.j0 k (bt289.1 == 4) bt289.2.1 bt289.2.2 bt289.1 0 (⟨#[]⟩ : ByteArray)) else (impl_byteReader_value.j0 k (bt289.1 == 5) bt289.2.1 bt289.2.2 bt289.1 0 (⟨#[]⟩ : ByteArray))))))
theorem impl_byteReader_value.mono_l : ∀ k,(∀ y0 y1 y2 y3 y4 y5,LeO (impl_byteReader_value.j0 k y0 y1 y2 y3 y4 y5) (impl_byteReader_value.j0 (k + 1) y0 y1 y2 y3 y4 y5))
 | 0 => fun _ _ _ _ _ _ r h => by simp [impl_byteReader_value.j0] at h
 | k + 1 => by
  have ih0:=impl_byteReader_value.mono_l k;intro y0 y1 y2 y3 y4 y5;unfold impl_byteReader_value.j0
  repeat' first|(with_reducible first|exact ih0 _ _ _ _ _ _|exact impl_byteReader_num.mono _ _ _ _|exact zQ _|exact zN _|refine zP ?_ ?_|refine zO ?_ (fun _ => ?_))|refine zP ?_ ?_|refine zO ?_ (fun _ => ?_)
theorem impl_byteReader_value.mono : ∀ a0 a1 k,LeO (impl_byteReader_value.f k a0 a1) (impl_byteReader_value.f (k + 1) a0 a1):=by
 intro a0 a1 k;have ih0:=impl_byteReader_value.mono_l k;unfold impl_byteReader_value.f
 repeat' first|(with_reducible first|exact ih0 _ _ _ _ _ _|exact impl_byteReader_num.mono _ _ _ _|exact zQ _|exact zN _|refine zP ?_ ?_|refine zO ?_ (fun _ => ?_))|refine zP ?_ ?_|refine zO ?_ (fun _ => ?_)
set_option maxHeartbeats 8000000 in
set_option maxRecDepth 100000 in
theorem impl_byteReader_value.calls (k : Nat) (g : Nat) (s0_0 : ByteArray) (s0_1 : Bool) (r1 : Int) (r2 : Int) (r3 : ByteArray) (r4 : ByteArray) (r5 : Bool) (w0 w : World) (hI : IsS108 w0 w g s0_0 s0_1) (hB : Below w0.heap.size w0 w) (h : impl_byteReader_value.f k s0_0 s0_1=some (r1,r2,r3,r4,r5)) :
  Calls Tryd.prog 86 #[.pointer (some ⟨g,0,none⟩)] w fun e w' => e = .returned (.agg #[.int .i64 r1,.int .i64 r2,.string r3])∧IsS108 w0 w' g r4 r5∧Below w0.heap.size w0 w' ∧ KeepBut w w' g none:=by
 have hu39:=Tryd.underlying39;have HI0:=zh hI;have HK:=zh (KeepBut.refl w g none);have HL:=zh hB.size;clear hI;have HW0:=zh hB.size;have HB:=zh hB;clear hB;have H : ((impl_byteReader_num.f k s0_0 s0_1 1).bind fun bt289 => (if bt289.1=1 then ((impl_byteReader_num.f k bt289.2.1 bt289.2.2 1).bind fun bt293 => (some (bt289.1,bt293.1,(⟨#[]⟩ : ByteArray),bt293.2.1,bt293.2.2))) else (if bt289.1=2 then ((impl_byteReader_num.f k bt289.2.1 bt289.2.2 8).bind fun bt296 => (some (bt289.1,wrap64 (bt296.1 - 4611686018427387904),(⟨#[]⟩ : ByteArray),bt296.2.1,bt296.2.2))) else (if bt289.1=3 then (impl_byteReader_value.j0 k (bt289.1 == 3) bt289.2.1 bt289.2.2 bt289.1 0 (⟨#[]⟩ : ByteArray)) else (if bt289.1=4 then (impl_byteReader_value.j0 k (bt289.1 == 4) bt289.2.1 bt289.2.2 bt289.1 0 (⟨#[]⟩ : ByteArray)) else (impl_byteReader_value.j0 k (bt289.1 == 5) bt289.2.1 bt289.2.2 bt289.1 0 (⟨#[]⟩ : ByteArray)))))))=some (r1,r2,r3,r4,r5):=h;clear h;replace H:=zT.mp H;obtain ⟨⟨t289,t290,t291⟩,A20,H⟩:=H;replace H : (if t289=1 then ((impl_byteReader_num.f k t290 t291 1).bind fun bt293 => (some (t289,bt293.1,(⟨#[]⟩ : ByteArray),bt293.2.1,bt293.2.2))) else (if t289=2 then ((impl_byteReader_num.f k t290 t291 8).bind fun bt296 => (some (t289,wrap64 (bt296.1 - 4611686018427387904),(⟨#[]⟩ : ByteArray),bt296.2.1,bt296.2.2))) else (if t289=3 then (impl_byteReader_value.j0 k (t289 == 3) t290 t291 t289 0 (⟨#[]⟩ : ByteArray)) else (if t289=4 then (impl_byteReader_value.j0 k (t289 == 4) t290 t291 t289 0 (⟨#[]⟩ : ByteArray)) else (impl_byteReader_value.j0 k (t289 == 5) t290 t291 t289 0 (⟨#[]⟩ : ByteArray))))))=some (r1,r2,r3,r4,r5):=H;have A2:=zh A20;clear A20
 by_cases c3 : t289=1
 ·
  rw [if_pos c3] at H
  have c3b0 : (t289 == 1)=true:=ya.mpr c3;have c3b1 : (t289 != 1)=false:=zX.mpr c3;clear c3;replace H:=zT.mp H;obtain ⟨⟨t293,t294,t295⟩,A40,H⟩:=H;replace H : (some (t289,t293,(⟨#[]⟩ : ByteArray),t294,t295))=some (r1,r2,r3,r4,r5):=H;have A4:=zh A40;clear A40;simp only [Option.some.injEq,Prod.mk.injEq] at H;obtain ⟨rfl,rfl,rfl,rfl,rfl⟩:=H
  go_enter Tryd.func86,Tryd.ntmps86
  go_wp2_with (first|((with_reducible refine zK (N:=2) rfl ?_);refine zI ?hg (N:=2) ?hd (cs:=#[.int .i64 0,.int .i64 0,.string (⟨#[]⟩ : ByteArray)]) (t:=39) ?hr ?_;(case hd => rfl);(case hg => rfl);(case hr => first|(go_simp;done)|(go_simp;rfl));intro gb288 hg w5 hbox hb;replace HB:=zh (zC (by repeat (with_reducible first|exact HB.out|apply za|apply zb|apply zc|refine zd ?_ (IsS108.ge HI0.out))) hb);have BK288:=zh (hbox);have GW288:=zh ((by rw [hg];exact (keep_size (w:=w) (g:=g) (row:=none) (by repeat (with_reducible first|exact HK.out|apply yl|apply ym|apply yx|apply yn))) : w.heap.size≤gb288));have GE288:=zh ((Nat.le_trans HW0.out (by rw [hg];exact (keep_size (w:=w) (g:=g) (row:=none) (by repeat (with_reducible first|exact HK.out|apply yl|apply ym|apply yx|apply yn))) : w.heap.size≤gb288) : w0.heap.size≤gb288));replace HK:=zh (KeepBut.trans (by repeat (with_reducible first|exact HK.out|apply yl|apply ym|apply yx|apply yn)) (KeepBut.of_below hb g none) (.inl rfl));have NB0_288:=zh ((by rw [hg];exact yc (IsS108.lt (show IsS108 w0 _ g s0_0 s0_1 from by repeat (with_reducible first|exact HI0.out|apply IsS108.alloc|apply IsS108.drewN|apply IsS108.drew|apply IsS108.set_0|apply IsS108.set_1))) : g≠gb288));have NB288_0:=zh ((by rw [hg];exact yd (IsS108.lt (show IsS108 w0 _ g s0_0 s0_1 from by repeat (with_reducible first|exact HI0.out|apply IsS108.alloc|apply IsS108.drewN|apply IsS108.drew|apply IsS108.set_0|apply IsS108.set_1))) : gb288≠g));replace HI0:=zh (IsS108.below (by repeat (with_reducible first|exact HI0.out|apply IsS108.alloc|apply IsS108.drewN|apply IsS108.drew|apply IsS108.set_0|apply IsS108.set_1)) hb);clear hb hbox hg)|((with_reducible refine zJ (f:=94) rfl ?_);refine yj (some 5) rfl rfl Tryd.func94 (by kernel_rfl) rfl #[.pointer (some ⟨g,0,none⟩),.int .i64 1] rfl (by (try simp only [zt,zu,zv]);first|done|rfl|(simp only [zw,zx];rfl)|(simp only [yr,ys,zV,zW];rfl)) ?_;(with_reducible refine (impl_byteReader_num.calls k  g s0_0 s0_1 1 t289 t290 t291 w0 _ ?side1 ?side2 A2.out).mono ?_);(case side1 => repeat (with_reducible first|exact HI0.out|apply IsS108.alloc|apply IsS108.drewN|apply IsS108.drew|apply IsS108.set_0|apply IsS108.set_1|refine IsS108.far ?_ NB0_288.out _));(case side2 => repeat (with_reducible first|exact HB.out|apply za|apply zb|apply zc|refine zd ?_ (IsS108.ge HI0.out)|refine zd ?_ GE288.out));rintro e w6 ⟨rfl,hi,hb,hk⟩;refine ⟨_,rfl,?_⟩;replace BK288:=zh (KeepBut.blk hk (g':=gb288) (o:=.cells #[.int .i64 0,.int .i64 0,.string (⟨#[]⟩ : ByteArray)] 39 (0,0)) (by (with_reducible repeat (first|refine ze ?_ _|refine zf ?_|refine zg ?_ _));exact BK288.out) NB288_0.out (by simp));replace HK:=zh (KeepBut.trans (by repeat (with_reducible first|exact HK.out|apply yl|apply ym|apply yx|apply yn|refine keep_far ?_ GW288.out _)) hk (.inl rfl));replace HB:=zh (hb);replace HI0:=zh (hi);(try clear hb);(try clear hb2);(try clear hk);(try clear hi))|((with_reducible refine zK (N:=3) rfl ?_);refine zI ?hg (N:=3) ?hd (cs:=#[.int .i64 0,.int .i64 0,.string (⟨#[]⟩ : ByteArray)]) (t:=39) ?hr ?_;(case hd => rfl);(case hg => rfl);(case hr => first|(go_simp;done)|(go_simp;rfl));intro gb292 hg w7 hbox hb;replace HB:=zh (zC (by repeat (with_reducible first|exact HB.out|apply za|apply zb|apply zc|refine zd ?_ (IsS108.ge HI0.out)|refine zd ?_ GE288.out)) hb);have BK292:=zh (hbox);have GW292:=zh ((by rw [hg];exact (keep_size (w:=w) (g:=g) (row:=none) (by repeat (with_reducible first|exact HK.out|apply yl|apply ym|apply yx|apply yn|refine keep_far ?_ GW288.out _))) : w.heap.size≤gb292));have GE292:=zh ((Nat.le_trans HW0.out (by rw [hg];exact (keep_size (w:=w) (g:=g) (row:=none) (by repeat (with_reducible first|exact HK.out|apply yl|apply ym|apply yx|apply yn|refine keep_far ?_ GW288.out _))) : w.heap.size≤gb292) : w0.heap.size≤gb292));replace HK:=zh (KeepBut.trans (by repeat (with_reducible first|exact HK.out|apply yl|apply ym|apply yx|apply yn|refine keep_far ?_ GW288.out _)) (KeepBut.of_below hb g none) (.inl rfl));have NB288_292:=zh ((by rw [hg];exact yc (yi (g:=gb288) (o:=.cells #[.int .i64 0,.int .i64 0,.string (⟨#[]⟩ : ByteArray)] 39 (0,0)) (by (with_reducible repeat (first|refine ze ?_ _|refine zf ?_|refine zg ?_ _));exact BK288.out)) : gb288≠gb292));have NB292_288:=zh ((by rw [hg];exact yd (yi (g:=gb288) (o:=.cells #[.int .i64 0,.int .i64 0,.string (⟨#[]⟩ : ByteArray)] 39 (0,0)) (by (with_reducible repeat (first|refine ze ?_ _|refine zf ?_|refine zg ?_ _));exact BK288.out)) : gb292≠gb288));replace BK288:=zh (zD (g:=gb288) (o:=.cells #[.int .i64 0,.int .i64 0,.string (⟨#[]⟩ : ByteArray)] 39 (0,0)) (by (with_reducible repeat (first|refine ze ?_ _|refine zf ?_|refine zg ?_ _));exact BK288.out) hb);have NB0_292:=zh ((by rw [hg];exact yc (IsS108.lt (show IsS108 w0 _ g t290 t291 from by repeat (with_reducible first|exact HI0.out|apply IsS108.alloc|apply IsS108.drewN|apply IsS108.drew|apply IsS108.set_0|apply IsS108.set_1|refine IsS108.far ?_ NB0_288.out _))) : g≠gb292));have NB292_0:=zh ((by rw [hg];exact yd (IsS108.lt (show IsS108 w0 _ g t290 t291 from by repeat (with_reducible first|exact HI0.out|apply IsS108.alloc|apply IsS108.drewN|apply IsS108.drew|apply IsS108.set_0|apply IsS108.set_1|refine IsS108.far ?_ NB0_288.out _))) : gb292≠g));replace HI0:=zh (IsS108.below (by repeat (with_reducible first|exact HI0.out|apply IsS108.alloc|apply IsS108.drewN|apply IsS108.drew|apply IsS108.set_0|apply IsS108.set_1|refine IsS108.far ?_ NB0_288.out _)) hb);clear hb hbox hg;have hnb8:=NB292_288.out;have hnc8:=NB288_292.out;have hnb9:=NB292_0.out;have hnc9:=NB0_292.out;have hcz10_0 : w7.cell? ⟨gb292,0,none⟩=some (.int .i64 0):=(zz BK292.out 0).trans rfl;have hcz10_1 : w7.cell? ⟨gb292,1,none⟩=some (.int .i64 0):=(zz BK292.out 1).trans rfl;have hcz10_2 : w7.cell? ⟨gb292,2,none⟩=some (.string (⟨#[]⟩ : ByteArray)):=(zz BK292.out 2).trans rfl;have hfz10_0:=zA BK292.out 0;have hfz10_1:=zA BK292.out 1;have hfz10_2:=zA BK292.out 2)|((with_reducible refine zJ (f:=94) rfl ?_);refine yj (some 12) rfl rfl Tryd.func94 (by kernel_rfl) rfl #[.pointer (some ⟨g,0,none⟩),.int .i64 1] rfl (by (try simp only [zt,zu,zv]);first|done|rfl|(simp only [zw,zx];rfl)|(simp only [yr,ys,zV,zW];rfl)) ?_;(with_reducible refine (impl_byteReader_num.calls k  g t290 t291 1 t293 t294 t295 w0 _ ?side1 ?side2 A4.out).mono ?_);(case side1 => repeat (with_reducible first|exact HI0.out|apply IsS108.alloc|apply IsS108.drewN|apply IsS108.drew|apply IsS108.set_0|apply IsS108.set_1|refine IsS108.far ?_ NB0_288.out _|refine IsS108.far ?_ NB0_292.out _));(case side2 => repeat (with_reducible first|exact HB.out|apply za|apply zb|apply zc|refine zd ?_ (IsS108.ge HI0.out)|refine zd ?_ GE288.out|refine zd ?_ GE292.out));rintro e w11 ⟨rfl,hi,hb,hk⟩;refine ⟨_,rfl,?_⟩;replace BK288:=zh (KeepBut.blk hk (g':=gb288) (o:=.cells #[.int .i64 0,.int .i64 0,.string (⟨#[]⟩ : ByteArray)] 39 (0,0)) (by (with_reducible repeat (first|refine ze ?_ _|refine zf ?_|refine zg ?_ _));refine zS ?_ NB288_292.out _;(with_reducible repeat (first|refine ze ?_ _|refine zf ?_|refine zg ?_ _));refine zS ?_ NB288_292.out _;(with_reducible repeat (first|refine ze ?_ _|refine zf ?_|refine zg ?_ _));refine zS ?_ NB288_292.out _;(with_reducible repeat (first|refine ze ?_ _|refine zf ?_|refine zg ?_ _));exact BK288.out) NB288_0.out (by simp));replace BK292:=zh (KeepBut.blk hk (g':=gb292) (o:=.cells #[.int .i64 t289,.int .i64 0,.string (⟨#[]⟩ : ByteArray)] 39 (0,0)) (by (with_reducible repeat (first|refine ze ?_ _|refine zf ?_|refine zg ?_ _));refine zL (cs:=#[.int .i64 t289,.int .i64 0,.string (⟨#[]⟩ : ByteArray)]) ?_ 2 _ rfl;(with_reducible repeat (first|refine ze ?_ _|refine zf ?_|refine zg ?_ _));refine zL (cs:=#[.int .i64 t289,.int .i64 0,.string (⟨#[]⟩ : ByteArray)]) ?_ 1 _ rfl;(with_reducible repeat (first|refine ze ?_ _|refine zf ?_|refine zg ?_ _));refine zL (cs:=#[.int .i64 0,.int .i64 0,.string (⟨#[]⟩ : ByteArray)]) ?_ 0 _ rfl;(with_reducible repeat (first|refine ze ?_ _|refine zf ?_|refine zg ?_ _));exact BK292.out) NB292_0.out (by simp));replace HK:=zh (KeepBut.trans (by repeat (with_reducible first|exact HK.out|apply yl|apply ym|apply yx|apply yn|refine keep_far ?_ GW288.out _|refine keep_far ?_ GW292.out _)) hk (.inl rfl));replace HB:=zh (hb);replace HI0:=zh (hi);(try clear hb);(try clear hb2);(try clear hk);(try clear hi);have hcz12_0 : w11.cell? ⟨gb292,0,none⟩=some (.int .i64 t289):=(zz BK292.out 0).trans rfl;have hcz12_1 : w11.cell? ⟨gb292,1,none⟩=some (.int .i64 0):=(zz BK292.out 1).trans rfl;have hcz12_2 : w11.cell? ⟨gb292,2,none⟩=some (.string (⟨#[]⟩ : ByteArray)):=(zz BK292.out 2).trans rfl;have hfz12_0:=zA BK292.out 0;have hfz12_1:=zA BK292.out 1;have hfz12_2:=zA BK292.out 2;have hnb13:=NB288_0.out;have hnc13:=NB0_288.out;have hcz14_0 : w11.cell? ⟨gb288,0,none⟩=some (.int .i64 0):=(zz BK288.out 0).trans rfl;have hcz14_1 : w11.cell? ⟨gb288,1,none⟩=some (.int .i64 0):=(zz BK288.out 1).trans rfl;have hcz14_2 : w11.cell? ⟨gb288,2,none⟩=some (.string (⟨#[]⟩ : ByteArray)):=(zz BK288.out 2).trans rfl;have hfz14_0:=zA BK288.out 0;have hfz14_1:=zA BK288.out 1;have hfz14_2:=zA BK288.out 2))
  refine bodyPost_ret (results_cell_row rfl _ _ gb288 39 #[.int .i64 t289,.int .i64 t293,.string (⟨#[]⟩ : ByteArray)] (0,0) _ rfl (by (with_reducible repeat (first|refine ze ?_ _|refine zf ?_|refine zg ?_ _));refine zL (cs:=#[.int .i64 t289,.int .i64 t293,.string (⟨#[]⟩ : ByteArray)]) ?_ 2 _ rfl;(with_reducible repeat (first|refine ze ?_ _|refine zf ?_|refine zg ?_ _));refine zL (cs:=#[.int .i64 t289,.int .i64 0,.string (⟨#[]⟩ : ByteArray)]) ?_ 1 _ rfl;(with_reducible repeat (first|refine ze ?_ _|refine zf ?_|refine zg ?_ _));refine zL (cs:=#[.int .i64 0,.int .i64 0,.string (⟨#[]⟩ : ByteArray)]) ?_ 0 _ rfl;(with_reducible repeat (first|refine ze ?_ _|refine zf ?_|refine zg ?_ _));refine zS ?_ NB288_292.out _;(with_reducible repeat (first|refine ze ?_ _|refine zf ?_|refine zg ?_ _));exact BK288.out) Tryd.underlying39 rfl (by kernel_rfl)) rfl ?_;exact ⟨by first|rfl|(simp [yt,yu] <;> rfl)|(simp [*,yt,yu] <;> rfl),by repeat (with_reducible first|exact HI0.out|apply IsS108.alloc|apply IsS108.drewN|apply IsS108.drew|apply IsS108.set_0|apply IsS108.set_1|refine IsS108.far ?_ NB0_288.out _|refine IsS108.far ?_ NB0_292.out _),by repeat (with_reducible first|exact HB.out|apply za|apply zb|apply zc|refine zd ?_ (IsS108.ge HI0.out)|refine zd ?_ GE288.out|refine zd ?_ GE292.out),by repeat (with_reducible first|exact HK.out|apply yl|apply ym|apply yx|apply yn|refine keep_far ?_ GW288.out _|refine keep_far ?_ GW292.out _)⟩
 rw [if_neg c3] at H;have c3b0 : (t289 == 1)=false:=zY.mpr c3;have c3b1 : (t289 != 1)=true:=zZ.mpr c3
 by_cases c15 : t289=2
 ·
  rw [if_pos c15] at H
  have c15b0 : (t289 == 2)=true:=ya.mpr c15;have c15b1 : (t289 != 2)=false:=zX.mpr c15;clear c15;replace H:=zT.mp H;obtain ⟨⟨t296,t297,t298⟩,A160,H⟩:=H;replace H : (some (t289,wrap64 (t296 - 4611686018427387904),(⟨#[]⟩ : ByteArray),t297,t298))=some (r1,r2,r3,r4,r5):=H;have A16:=zh A160;clear A160;simp only [Option.some.injEq,Prod.mk.injEq] at H;obtain ⟨rfl,rfl,rfl,rfl,rfl⟩:=H
  go_enter Tryd.func86,Tryd.ntmps86
  go_wp2_with (first|((with_reducible refine zK (N:=2) rfl ?_);refine zI ?hg (N:=2) ?hd (cs:=#[.int .i64 0,.int .i64 0,.string (⟨#[]⟩ : ByteArray)]) (t:=39) ?hr ?_;(case hd => rfl);(case hg => rfl);(case hr => first|(go_simp;done)|(go_simp;rfl));intro gb288 hg w17 hbox hb;replace HB:=zh (zC (by repeat (with_reducible first|exact HB.out|apply za|apply zb|apply zc|refine zd ?_ (IsS108.ge HI0.out))) hb);have BK288:=zh (hbox);have GW288:=zh ((by rw [hg];exact (keep_size (w:=w) (g:=g) (row:=none) (by repeat (with_reducible first|exact HK.out|apply yl|apply ym|apply yx|apply yn))) : w.heap.size≤gb288));have GE288:=zh ((Nat.le_trans HW0.out (by rw [hg];exact (keep_size (w:=w) (g:=g) (row:=none) (by repeat (with_reducible first|exact HK.out|apply yl|apply ym|apply yx|apply yn))) : w.heap.size≤gb288) : w0.heap.size≤gb288));replace HK:=zh (KeepBut.trans (by repeat (with_reducible first|exact HK.out|apply yl|apply ym|apply yx|apply yn)) (KeepBut.of_below hb g none) (.inl rfl));have NB0_288:=zh ((by rw [hg];exact yc (IsS108.lt (show IsS108 w0 _ g s0_0 s0_1 from by repeat (with_reducible first|exact HI0.out|apply IsS108.alloc|apply IsS108.drewN|apply IsS108.drew|apply IsS108.set_0|apply IsS108.set_1))) : g≠gb288));have NB288_0:=zh ((by rw [hg];exact yd (IsS108.lt (show IsS108 w0 _ g s0_0 s0_1 from by repeat (with_reducible first|exact HI0.out|apply IsS108.alloc|apply IsS108.drewN|apply IsS108.drew|apply IsS108.set_0|apply IsS108.set_1))) : gb288≠g));replace HI0:=zh (IsS108.below (by repeat (with_reducible first|exact HI0.out|apply IsS108.alloc|apply IsS108.drewN|apply IsS108.drew|apply IsS108.set_0|apply IsS108.set_1)) hb);clear hb hbox hg)|((with_reducible refine zJ (f:=94) rfl ?_);refine yj (some 5) rfl rfl Tryd.func94 (by kernel_rfl) rfl #[.pointer (some ⟨g,0,none⟩),.int .i64 1] rfl (by (try simp only [zt,zu,zv]);first|done|rfl|(simp only [zw,zx];rfl)|(simp only [yr,ys,zV,zW];rfl)) ?_;(with_reducible refine (impl_byteReader_num.calls k  g s0_0 s0_1 1 t289 t290 t291 w0 _ ?side1 ?side2 A2.out).mono ?_);(case side1 => repeat (with_reducible first|exact HI0.out|apply IsS108.alloc|apply IsS108.drewN|apply IsS108.drew|apply IsS108.set_0|apply IsS108.set_1|refine IsS108.far ?_ NB0_288.out _));(case side2 => repeat (with_reducible first|exact HB.out|apply za|apply zb|apply zc|refine zd ?_ (IsS108.ge HI0.out)|refine zd ?_ GE288.out));rintro e w18 ⟨rfl,hi,hb,hk⟩;refine ⟨_,rfl,?_⟩;replace BK288:=zh (KeepBut.blk hk (g':=gb288) (o:=.cells #[.int .i64 0,.int .i64 0,.string (⟨#[]⟩ : ByteArray)] 39 (0,0)) (by (with_reducible repeat (first|refine ze ?_ _|refine zf ?_|refine zg ?_ _));exact BK288.out) NB288_0.out (by simp));replace HK:=zh (KeepBut.trans (by repeat (with_reducible first|exact HK.out|apply yl|apply ym|apply yx|apply yn|refine keep_far ?_ GW288.out _)) hk (.inl rfl));replace HB:=zh (hb);replace HI0:=zh (hi);(try clear hb);(try clear hb2);(try clear hk);(try clear hi))|((with_reducible refine zK (N:=3) rfl ?_);refine zI ?hg (N:=3) ?hd (cs:=#[.int .i64 0,.int .i64 0,.string (⟨#[]⟩ : ByteArray)]) (t:=39) ?hr ?_;(case hd => rfl);(case hg => rfl);(case hr => first|(go_simp;done)|(go_simp;rfl));intro gb292 hg w19 hbox hb;replace HB:=zh (zC (by repeat (with_reducible first|exact HB.out|apply za|apply zb|apply zc|refine zd ?_ (IsS108.ge HI0.out)|refine zd ?_ GE288.out)) hb);have BK292:=zh (hbox);have GW292:=zh ((by rw [hg];exact (keep_size (w:=w) (g:=g) (row:=none) (by repeat (with_reducible first|exact HK.out|apply yl|apply ym|apply yx|apply yn|refine keep_far ?_ GW288.out _))) : w.heap.size≤gb292));have GE292:=zh ((Nat.le_trans HW0.out (by rw [hg];exact (keep_size (w:=w) (g:=g) (row:=none) (by repeat (with_reducible first|exact HK.out|apply yl|apply ym|apply yx|apply yn|refine keep_far ?_ GW288.out _))) : w.heap.size≤gb292) : w0.heap.size≤gb292));replace HK:=zh (KeepBut.trans (by repeat (with_reducible first|exact HK.out|apply yl|apply ym|apply yx|apply yn|refine keep_far ?_ GW288.out _)) (KeepBut.of_below hb g none) (.inl rfl));have NB288_292:=zh ((by rw [hg];exact yc (yi (g:=gb288) (o:=.cells #[.int .i64 0,.int .i64 0,.string (⟨#[]⟩ : ByteArray)] 39 (0,0)) (by (with_reducible repeat (first|refine ze ?_ _|refine zf ?_|refine zg ?_ _));exact BK288.out)) : gb288≠gb292));have NB292_288:=zh ((by rw [hg];exact yd (yi (g:=gb288) (o:=.cells #[.int .i64 0,.int .i64 0,.string (⟨#[]⟩ : ByteArray)] 39 (0,0)) (by (with_reducible repeat (first|refine ze ?_ _|refine zf ?_|refine zg ?_ _));exact BK288.out)) : gb292≠gb288));replace BK288:=zh (zD (g:=gb288) (o:=.cells #[.int .i64 0,.int .i64 0,.string (⟨#[]⟩ : ByteArray)] 39 (0,0)) (by (with_reducible repeat (first|refine ze ?_ _|refine zf ?_|refine zg ?_ _));exact BK288.out) hb);have NB0_292:=zh ((by rw [hg];exact yc (IsS108.lt (show IsS108 w0 _ g t290 t291 from by repeat (with_reducible first|exact HI0.out|apply IsS108.alloc|apply IsS108.drewN|apply IsS108.drew|apply IsS108.set_0|apply IsS108.set_1|refine IsS108.far ?_ NB0_288.out _))) : g≠gb292));have NB292_0:=zh ((by rw [hg];exact yd (IsS108.lt (show IsS108 w0 _ g t290 t291 from by repeat (with_reducible first|exact HI0.out|apply IsS108.alloc|apply IsS108.drewN|apply IsS108.drew|apply IsS108.set_0|apply IsS108.set_1|refine IsS108.far ?_ NB0_288.out _))) : gb292≠g));replace HI0:=zh (IsS108.below (by repeat (with_reducible first|exact HI0.out|apply IsS108.alloc|apply IsS108.drewN|apply IsS108.drew|apply IsS108.set_0|apply IsS108.set_1|refine IsS108.far ?_ NB0_288.out _)) hb);clear hb hbox hg;have hnb20:=NB292_288.out;have hnc20:=NB288_292.out;have hnb21:=NB292_0.out;have hnc21:=NB0_292.out;have hcz22_0 : w19.cell? ⟨gb292,0,none⟩=some (.int .i64 0):=(zz BK292.out 0).trans rfl;have hcz22_1 : w19.cell? ⟨gb292,1,none⟩=some (.int .i64 0):=(zz BK292.out 1).trans rfl;have hcz22_2 : w19.cell? ⟨gb292,2,none⟩=some (.string (⟨#[]⟩ : ByteArray)):=(zz BK292.out 2).trans rfl;have hfz22_0:=zA BK292.out 0;have hfz22_1:=zA BK292.out 1;have hfz22_2:=zA BK292.out 2)|((with_reducible refine zJ (f:=94) rfl ?_);refine yj (some 17) rfl rfl Tryd.func94 (by kernel_rfl) rfl #[.pointer (some ⟨g,0,none⟩),.int .i64 8] rfl (by (try simp only [zt,zu,zv]);first|done|rfl|(simp only [zw,zx];rfl)|(simp only [yr,ys,zV,zW];rfl)) ?_;(with_reducible refine (impl_byteReader_num.calls k  g t290 t291 8 t296 t297 t298 w0 _ ?side1 ?side2 A16.out).mono ?_);(case side1 => repeat (with_reducible first|exact HI0.out|apply IsS108.alloc|apply IsS108.drewN|apply IsS108.drew|apply IsS108.set_0|apply IsS108.set_1|refine IsS108.far ?_ NB0_288.out _|refine IsS108.far ?_ NB0_292.out _));(case side2 => repeat (with_reducible first|exact HB.out|apply za|apply zb|apply zc|refine zd ?_ (IsS108.ge HI0.out)|refine zd ?_ GE288.out|refine zd ?_ GE292.out));rintro e w23 ⟨rfl,hi,hb,hk⟩;refine ⟨_,rfl,?_⟩;replace BK288:=zh (KeepBut.blk hk (g':=gb288) (o:=.cells #[.int .i64 0,.int .i64 0,.string (⟨#[]⟩ : ByteArray)] 39 (0,0)) (by (with_reducible repeat (first|refine ze ?_ _|refine zf ?_|refine zg ?_ _));refine zS ?_ NB288_292.out _;(with_reducible repeat (first|refine ze ?_ _|refine zf ?_|refine zg ?_ _));refine zS ?_ NB288_292.out _;(with_reducible repeat (first|refine ze ?_ _|refine zf ?_|refine zg ?_ _));refine zS ?_ NB288_292.out _;(with_reducible repeat (first|refine ze ?_ _|refine zf ?_|refine zg ?_ _));exact BK288.out) NB288_0.out (by simp));replace BK292:=zh (KeepBut.blk hk (g':=gb292) (o:=.cells #[.int .i64 t289,.int .i64 0,.string (⟨#[]⟩ : ByteArray)] 39 (0,0)) (by (with_reducible repeat (first|refine ze ?_ _|refine zf ?_|refine zg ?_ _));refine zL (cs:=#[.int .i64 t289,.int .i64 0,.string (⟨#[]⟩ : ByteArray)]) ?_ 2 _ rfl;(with_reducible repeat (first|refine ze ?_ _|refine zf ?_|refine zg ?_ _));refine zL (cs:=#[.int .i64 t289,.int .i64 0,.string (⟨#[]⟩ : ByteArray)]) ?_ 1 _ rfl;(with_reducible repeat (first|refine ze ?_ _|refine zf ?_|refine zg ?_ _));refine zL (cs:=#[.int .i64 0,.int .i64 0,.string (⟨#[]⟩ : ByteArray)]) ?_ 0 _ rfl;(with_reducible repeat (first|refine ze ?_ _|refine zf ?_|refine zg ?_ _));exact BK292.out) NB292_0.out (by simp));replace HK:=zh (KeepBut.trans (by repeat (with_reducible first|exact HK.out|apply yl|apply ym|apply yx|apply yn|refine keep_far ?_ GW288.out _|refine keep_far ?_ GW292.out _)) hk (.inl rfl));replace HB:=zh (hb);replace HI0:=zh (hi);(try clear hb);(try clear hb2);(try clear hk);(try clear hi);have hcz24_0 : w23.cell? ⟨gb292,0,none⟩=some (.int .i64 t289):=(zz BK292.out 0).trans rfl;have hcz24_1 : w23.cell? ⟨gb292,1,none⟩=some (.int .i64 0):=(zz BK292.out 1).trans rfl;have hcz24_2 : w23.cell? ⟨gb292,2,none⟩=some (.string (⟨#[]⟩ : ByteArray)):=(zz BK292.out 2).trans rfl;have hfz24_0:=zA BK292.out 0;have hfz24_1:=zA BK292.out 1;have hfz24_2:=zA BK292.out 2;have hnb25:=NB288_0.out;have hnc25:=NB0_288.out;have hcz26_0 : w23.cell? ⟨gb288,0,none⟩=some (.int .i64 0):=(zz BK288.out 0).trans rfl;have hcz26_1 : w23.cell? ⟨gb288,1,none⟩=some (.int .i64 0):=(zz BK288.out 1).trans rfl;have hcz26_2 : w23.cell? ⟨gb288,2,none⟩=some (.string (⟨#[]⟩ : ByteArray)):=(zz BK288.out 2).trans rfl;have hfz26_0:=zA BK288.out 0;have hfz26_1:=zA BK288.out 1;have hfz26_2:=zA BK288.out 2))
  refine bodyPost_ret (results_cell_row rfl _ _ gb288 39 #[.int .i64 t289,.int .i64 (wrap64 (t296 - 4611686018427387904)),.string (⟨#[]⟩ : ByteArray)] (0,0) _ rfl (by (with_reducible repeat (first|refine ze ?_ _|refine zf ?_|refine zg ?_ _));refine zL (cs:=#[.int .i64 t289,.int .i64 (wrap64 (t296 - 4611686018427387904)),.string (⟨#[]⟩ : ByteArray)]) ?_ 2 _ rfl;(with_reducible repeat (first|refine ze ?_ _|refine zf ?_|refine zg ?_ _));refine zL (cs:=#[.int .i64 t289,.int .i64 0,.string (⟨#[]⟩ : ByteArray)]) ?_ 1 _ rfl;(with_reducible repeat (first|refine ze ?_ _|refine zf ?_|refine zg ?_ _));refine zL (cs:=#[.int .i64 0,.int .i64 0,.string (⟨#[]⟩ : ByteArray)]) ?_ 0 _ rfl;(with_reducible repeat (first|refine ze ?_ _|refine zf ?_|refine zg ?_ _));refine zS ?_ NB288_292.out _;(with_reducible repeat (first|refine ze ?_ _|refine zf ?_|refine zg ?_ _));exact BK288.out) Tryd.underlying39 rfl (by kernel_rfl)) rfl ?_;exact ⟨by first|rfl|(simp [yt,yu] <;> rfl)|(simp [*,yt,yu] <;> rfl),by repeat (with_reducible first|exact HI0.out|apply IsS108.alloc|apply IsS108.drewN|apply IsS108.drew|apply IsS108.set_0|apply IsS108.set_1|refine IsS108.far ?_ NB0_288.out _|refine IsS108.far ?_ NB0_292.out _),by repeat (with_reducible first|exact HB.out|apply za|apply zb|apply zc|refine zd ?_ (IsS108.ge HI0.out)|refine zd ?_ GE288.out|refine zd ?_ GE292.out),by repeat (with_reducible first|exact HK.out|apply yl|apply ym|apply yx|apply yn|refine keep_far ?_ GW288.out _|refine keep_far ?_ GW292.out _)⟩
 rw [if_neg c15] at H;have c15b0 : (t289 == 2)=false:=zY.mpr c15;have c15b1 : (t289 != 2)=true:=zZ.mpr c15;have HC27:=zh H;clear H
 go_enter Tryd.func86,Tryd.ntmps86
 go_upto_if 20 with (first|((with_reducible refine zK (N:=2) rfl ?_);refine zI ?hg (N:=2) ?hd (cs:=#[.int .i64 0,.int .i64 0,.string (⟨#[]⟩ : ByteArray)]) (t:=39) ?hr ?_;(case hd => rfl);(case hg => rfl);(case hr => first|(go_simp;done)|(go_simp;rfl));intro gb288 hg w28 hbox hb;replace HB:=zh (zC (by repeat (with_reducible first|exact HB.out|apply za|apply zb|apply zc|refine zd ?_ (IsS108.ge HI0.out))) hb);have BK288:=zh (hbox);have GW288:=zh ((by rw [hg];exact (keep_size (w:=w) (g:=g) (row:=none) (by repeat (with_reducible first|exact HK.out|apply yl|apply ym|apply yx|apply yn))) : w.heap.size≤gb288));have GE288:=zh ((Nat.le_trans HW0.out (by rw [hg];exact (keep_size (w:=w) (g:=g) (row:=none) (by repeat (with_reducible first|exact HK.out|apply yl|apply ym|apply yx|apply yn))) : w.heap.size≤gb288) : w0.heap.size≤gb288));replace HK:=zh (KeepBut.trans (by repeat (with_reducible first|exact HK.out|apply yl|apply ym|apply yx|apply yn)) (KeepBut.of_below hb g none) (.inl rfl));have NB0_288:=zh ((by rw [hg];exact yc (IsS108.lt (show IsS108 w0 _ g s0_0 s0_1 from by repeat (with_reducible first|exact HI0.out|apply IsS108.alloc|apply IsS108.drewN|apply IsS108.drew|apply IsS108.set_0|apply IsS108.set_1))) : g≠gb288));have NB288_0:=zh ((by rw [hg];exact yd (IsS108.lt (show IsS108 w0 _ g s0_0 s0_1 from by repeat (with_reducible first|exact HI0.out|apply IsS108.alloc|apply IsS108.drewN|apply IsS108.drew|apply IsS108.set_0|apply IsS108.set_1))) : gb288≠g));replace HI0:=zh (IsS108.below (by repeat (with_reducible first|exact HI0.out|apply IsS108.alloc|apply IsS108.drewN|apply IsS108.drew|apply IsS108.set_0|apply IsS108.set_1)) hb);clear hb hbox hg)|((with_reducible refine zJ (f:=94) rfl ?_);refine yj (some 5) rfl rfl Tryd.func94 (by kernel_rfl) rfl #[.pointer (some ⟨g,0,none⟩),.int .i64 1] rfl (by (try simp only [zt,zu,zv]);first|done|rfl|(simp only [zw,zx];rfl)|(simp only [yr,ys,zV,zW];rfl)) ?_;(with_reducible refine (impl_byteReader_num.calls k  g s0_0 s0_1 1 t289 t290 t291 w0 _ ?side1 ?side2 A2.out).mono ?_);(case side1 => repeat (with_reducible first|exact HI0.out|apply IsS108.alloc|apply IsS108.drewN|apply IsS108.drew|apply IsS108.set_0|apply IsS108.set_1|refine IsS108.far ?_ NB0_288.out _));(case side2 => repeat (with_reducible first|exact HB.out|apply za|apply zb|apply zc|refine zd ?_ (IsS108.ge HI0.out)|refine zd ?_ GE288.out));rintro e w29 ⟨rfl,hi,hb,hk⟩;refine ⟨_,rfl,?_⟩;replace BK288:=zh (KeepBut.blk hk (g':=gb288) (o:=.cells #[.int .i64 0,.int .i64 0,.string (⟨#[]⟩ : ByteArray)] 39 (0,0)) (by (with_reducible repeat (first|refine ze ?_ _|refine zf ?_|refine zg ?_ _));exact BK288.out) NB288_0.out (by simp));replace HK:=zh (KeepBut.trans (by repeat (with_reducible first|exact HK.out|apply yl|apply ym|apply yx|apply yn|refine keep_far ?_ GW288.out _)) hk (.inl rfl));replace HB:=zh (hb);replace HI0:=zh (hi);(try clear hb);(try clear hb2);(try clear hk);(try clear hi))|((with_reducible refine zK (N:=3) rfl ?_);refine zI ?hg (N:=3) ?hd (cs:=#[.int .i64 0,.int .i64 0,.string (⟨#[]⟩ : ByteArray)]) (t:=39) ?hr ?_;(case hd => rfl);(case hg => rfl);(case hr => first|(go_simp;done)|(go_simp;rfl));intro gb292 hg w30 hbox hb;replace HB:=zh (zC (by repeat (with_reducible first|exact HB.out|apply za|apply zb|apply zc|refine zd ?_ (IsS108.ge HI0.out)|refine zd ?_ GE288.out)) hb);have BK292:=zh (hbox);have GW292:=zh ((by rw [hg];exact (keep_size (w:=w) (g:=g) (row:=none) (by repeat (with_reducible first|exact HK.out|apply yl|apply ym|apply yx|apply yn|refine keep_far ?_ GW288.out _))) : w.heap.size≤gb292));have GE292:=zh ((Nat.le_trans HW0.out (by rw [hg];exact (keep_size (w:=w) (g:=g) (row:=none) (by repeat (with_reducible first|exact HK.out|apply yl|apply ym|apply yx|apply yn|refine keep_far ?_ GW288.out _))) : w.heap.size≤gb292) : w0.heap.size≤gb292));replace HK:=zh (KeepBut.trans (by repeat (with_reducible first|exact HK.out|apply yl|apply ym|apply yx|apply yn|refine keep_far ?_ GW288.out _)) (KeepBut.of_below hb g none) (.inl rfl));have NB288_292:=zh ((by rw [hg];exact yc (yi (g:=gb288) (o:=.cells #[.int .i64 0,.int .i64 0,.string (⟨#[]⟩ : ByteArray)] 39 (0,0)) (by (with_reducible repeat (first|refine ze ?_ _|refine zf ?_|refine zg ?_ _));exact BK288.out)) : gb288≠gb292));have NB292_288:=zh ((by rw [hg];exact yd (yi (g:=gb288) (o:=.cells #[.int .i64 0,.int .i64 0,.string (⟨#[]⟩ : ByteArray)] 39 (0,0)) (by (with_reducible repeat (first|refine ze ?_ _|refine zf ?_|refine zg ?_ _));exact BK288.out)) : gb292≠gb288));replace BK288:=zh (zD (g:=gb288) (o:=.cells #[.int .i64 0,.int .i64 0,.string (⟨#[]⟩ : ByteArray)] 39 (0,0)) (by (with_reducible repeat (first|refine ze ?_ _|refine zf ?_|refine zg ?_ _));exact BK288.out) hb);have NB0_292:=zh ((by rw [hg];exact yc (IsS108.lt (show IsS108 w0 _ g t290 t291 from by repeat (with_reducible first|exact HI0.out|apply IsS108.alloc|apply IsS108.drewN|apply IsS108.drew|apply IsS108.set_0|apply IsS108.set_1|refine IsS108.far ?_ NB0_288.out _))) : g≠gb292));have NB292_0:=zh ((by rw [hg];exact yd (IsS108.lt (show IsS108 w0 _ g t290 t291 from by repeat (with_reducible first|exact HI0.out|apply IsS108.alloc|apply IsS108.drewN|apply IsS108.drew|apply IsS108.set_0|apply IsS108.set_1|refine IsS108.far ?_ NB0_288.out _))) : gb292≠g));replace HI0:=zh (IsS108.below (by repeat (with_reducible first|exact HI0.out|apply IsS108.alloc|apply IsS108.drewN|apply IsS108.drew|apply IsS108.set_0|apply IsS108.set_1|refine IsS108.far ?_ NB0_288.out _)) hb);clear hb hbox hg;have hnb31:=NB292_288.out;have hnc31:=NB288_292.out;have hnb32:=NB292_0.out;have hnc32:=NB0_292.out;have hcz33_0 : w30.cell? ⟨gb292,0,none⟩=some (.int .i64 0):=(zz BK292.out 0).trans rfl;have hcz33_1 : w30.cell? ⟨gb292,1,none⟩=some (.int .i64 0):=(zz BK292.out 1).trans rfl;have hcz33_2 : w30.cell? ⟨gb292,2,none⟩=some (.string (⟨#[]⟩ : ByteArray)):=(zz BK292.out 2).trans rfl;have hfz33_0:=zA BK292.out 0;have hfz33_1:=zA BK292.out 1;have hfz33_2:=zA BK292.out 2))
 (try simp only [Act.put,zi,zj,zk])
 go_cut [20] (fun v20 wc => ∃ (kq : Nat) (x20_26 : Bool),v20 = .bool x20_26∧Aside0 (impl_byteReader_value.j0 kq x20_26 t290 t291 t289 0 (⟨#[]⟩ : ByteArray)=some (r1,r2,r3,r4,r5))∧Aside0 (kq≤k)∧Aside0 (wc.heap[gb288]? = some (.cells #[.int .i64 0,.int .i64 0,.string (⟨#[]⟩ : ByteArray)] 39 (0,0)))∧Aside0 (wc.heap[gb292]? = some (.cells #[.int .i64 t289,.int .i64 0,.string (⟨#[]⟩ : ByteArray)] 39 (0,0)))∧Aside0 (IsS108 w0 wc g t290 t291)∧Aside0 (KeepBut w wc g none)∧Aside0 (Below w0.heap.size w0 wc))
 case first =>
  have H:=HC27.out;clear HC27
  by_cases c34 : t289=3
  ·
   rw [if_pos c34] at H
   have c34b0 : (t289 == 3)=true:=ya.mpr c34;have c34b1 : (t289 != 3)=false:=zX.mpr c34;clear c34;(first|rw [c34b0]|(simp only [zG,zH];rw [c34b0])|skip);have H':=zh H;clear H
   go_wp2
   go_meet
   case rel => exact ⟨_,((t289 == 3)),(by first|rfl|(simp;done)|(simp [*];done)),H',⟨by first|omega|exact ye _⟩,⟨by (with_reducible repeat (first|refine ze ?_ _|refine zf ?_|refine zg ?_ _));refine zS ?_ NB288_292.out _;(with_reducible repeat (first|refine ze ?_ _|refine zf ?_|refine zg ?_ _));refine zS ?_ NB288_292.out _;(with_reducible repeat (first|refine ze ?_ _|refine zf ?_|refine zg ?_ _));refine zS ?_ NB288_292.out _;(with_reducible repeat (first|refine ze ?_ _|refine zf ?_|refine zg ?_ _));exact BK288.out⟩,⟨by (with_reducible repeat (first|refine ze ?_ _|refine zf ?_|refine zg ?_ _));refine zL (cs:=#[.int .i64 t289,.int .i64 0,.string (⟨#[]⟩ : ByteArray)]) ?_ 2 _ rfl;(with_reducible repeat (first|refine ze ?_ _|refine zf ?_|refine zg ?_ _));refine zL (cs:=#[.int .i64 t289,.int .i64 0,.string (⟨#[]⟩ : ByteArray)]) ?_ 1 _ rfl;(with_reducible repeat (first|refine ze ?_ _|refine zf ?_|refine zg ?_ _));refine zL (cs:=#[.int .i64 0,.int .i64 0,.string (⟨#[]⟩ : ByteArray)]) ?_ 0 _ rfl;(with_reducible repeat (first|refine ze ?_ _|refine zf ?_|refine zg ?_ _));exact BK292.out⟩,⟨by repeat (with_reducible first|exact HI0.out|apply IsS108.alloc|apply IsS108.drewN|apply IsS108.drew|apply IsS108.set_0|apply IsS108.set_1|refine IsS108.far ?_ NB0_288.out _|refine IsS108.far ?_ NB0_292.out _)⟩,⟨by repeat (with_reducible first|exact HK.out|apply yl|apply ym|apply yx|apply yn|refine keep_far ?_ GW288.out _|refine keep_far ?_ GW292.out _)⟩,⟨by repeat (with_reducible first|exact HB.out|apply za|apply zb|apply zc|refine zd ?_ (IsS108.ge HI0.out)|refine zd ?_ GE288.out|refine zd ?_ GE292.out)⟩⟩
  rw [if_neg c34] at H;have c34b0 : (t289 == 3)=false:=zY.mpr c34;have c34b1 : (t289 != 3)=true:=zZ.mpr c34;(first|rw [c34b0]|(simp only [zG,zH];rw [c34b0])|skip)
  by_cases c35 : t289=4
  ·
   rw [if_pos c35] at H
   have c35b0 : (t289 == 4)=true:=ya.mpr c35;have c35b1 : (t289 != 4)=false:=zX.mpr c35;clear c35;have H':=zh H;clear H
   go_wp2
   go_meet
   case rel => exact ⟨_,((t289 == 4)),(by first|rfl|(simp;done)|(simp [*];done)),H',⟨by first|omega|exact ye _⟩,⟨by (with_reducible repeat (first|refine ze ?_ _|refine zf ?_|refine zg ?_ _));refine zS ?_ NB288_292.out _;(with_reducible repeat (first|refine ze ?_ _|refine zf ?_|refine zg ?_ _));refine zS ?_ NB288_292.out _;(with_reducible repeat (first|refine ze ?_ _|refine zf ?_|refine zg ?_ _));refine zS ?_ NB288_292.out _;(with_reducible repeat (first|refine ze ?_ _|refine zf ?_|refine zg ?_ _));exact BK288.out⟩,⟨by (with_reducible repeat (first|refine ze ?_ _|refine zf ?_|refine zg ?_ _));refine zL (cs:=#[.int .i64 t289,.int .i64 0,.string (⟨#[]⟩ : ByteArray)]) ?_ 2 _ rfl;(with_reducible repeat (first|refine ze ?_ _|refine zf ?_|refine zg ?_ _));refine zL (cs:=#[.int .i64 t289,.int .i64 0,.string (⟨#[]⟩ : ByteArray)]) ?_ 1 _ rfl;(with_reducible repeat (first|refine ze ?_ _|refine zf ?_|refine zg ?_ _));refine zL (cs:=#[.int .i64 0,.int .i64 0,.string (⟨#[]⟩ : ByteArray)]) ?_ 0 _ rfl;(with_reducible repeat (first|refine ze ?_ _|refine zf ?_|refine zg ?_ _));exact BK292.out⟩,⟨by repeat (with_reducible first|exact HI0.out|apply IsS108.alloc|apply IsS108.drewN|apply IsS108.drew|apply IsS108.set_0|apply IsS108.set_1|refine IsS108.far ?_ NB0_288.out _|refine IsS108.far ?_ NB0_292.out _)⟩,⟨by repeat (with_reducible first|exact HK.out|apply yl|apply ym|apply yx|apply yn|refine keep_far ?_ GW288.out _|refine keep_far ?_ GW292.out _)⟩,⟨by repeat (with_reducible first|exact HB.out|apply za|apply zb|apply zc|refine zd ?_ (IsS108.ge HI0.out)|refine zd ?_ GE288.out|refine zd ?_ GE292.out)⟩⟩
  rw [if_neg c35] at H;have c35b0 : (t289 == 4)=false:=zY.mpr c35;have c35b1 : (t289 != 4)=true:=zZ.mpr c35;have H':=zh H;clear H
  go_wp2
  go_meet
  case rel => exact ⟨_,((t289 == 5)),(by first|rfl|(simp;done)|(simp [*];done)),H',⟨by first|omega|exact ye _⟩,⟨by (with_reducible repeat (first|refine ze ?_ _|refine zf ?_|refine zg ?_ _));refine zS ?_ NB288_292.out _;(with_reducible repeat (first|refine ze ?_ _|refine zf ?_|refine zg ?_ _));refine zS ?_ NB288_292.out _;(with_reducible repeat (first|refine ze ?_ _|refine zf ?_|refine zg ?_ _));refine zS ?_ NB288_292.out _;(with_reducible repeat (first|refine ze ?_ _|refine zf ?_|refine zg ?_ _));exact BK288.out⟩,⟨by (with_reducible repeat (first|refine ze ?_ _|refine zf ?_|refine zg ?_ _));refine zL (cs:=#[.int .i64 t289,.int .i64 0,.string (⟨#[]⟩ : ByteArray)]) ?_ 2 _ rfl;(with_reducible repeat (first|refine ze ?_ _|refine zf ?_|refine zg ?_ _));refine zL (cs:=#[.int .i64 t289,.int .i64 0,.string (⟨#[]⟩ : ByteArray)]) ?_ 1 _ rfl;(with_reducible repeat (first|refine ze ?_ _|refine zf ?_|refine zg ?_ _));refine zL (cs:=#[.int .i64 0,.int .i64 0,.string (⟨#[]⟩ : ByteArray)]) ?_ 0 _ rfl;(with_reducible repeat (first|refine ze ?_ _|refine zf ?_|refine zg ?_ _));exact BK292.out⟩,⟨by repeat (with_reducible first|exact HI0.out|apply IsS108.alloc|apply IsS108.drewN|apply IsS108.drew|apply IsS108.set_0|apply IsS108.set_1|refine IsS108.far ?_ NB0_288.out _|refine IsS108.far ?_ NB0_292.out _)⟩,⟨by repeat (with_reducible first|exact HK.out|apply yl|apply ym|apply yx|apply yn|refine keep_far ?_ GW288.out _|refine keep_far ?_ GW292.out _)⟩,⟨by repeat (with_reducible first|exact HB.out|apply za|apply zb|apply zc|refine zd ?_ (IsS108.ge HI0.out)|refine zd ?_ GE288.out|refine zd ?_ GE292.out)⟩⟩
 case rest =>
  clear HC27
  try clear c1
  try clear c2
  try clear p2
  try clear c3
  try clear c3b0
  try clear c3b1
  try clear p6
  try clear c8
  try clear c9
  try clear c13
  try clear c15
  try clear c15b0
  try clear c15b1
  try clear c20
  try clear c21
  try clear c25
  try clear c31
  try clear c32
  try clear c34
  try clear c34b0
  try clear c34b1
  try clear c35
  try clear c35b0
  try clear c35b1
  try clear hcz10_0
  try clear hcz10_1
  try clear hcz10_2
  try clear hcz12_0
  try clear hcz12_1
  try clear hcz12_2
  try clear hcz14_0
  try clear hcz14_1
  try clear hcz14_2
  try clear hcz22_0
  try clear hcz22_1
  try clear hcz22_2
  try clear hcz24_0
  try clear hcz24_1
  try clear hcz24_2
  try clear hcz26_0
  try clear hcz26_1
  try clear hcz26_2
  try clear hcz33_0
  try clear hcz33_1
  try clear hcz33_2
  try clear hfz10_0
  try clear hfz10_1
  try clear hfz10_2
  try clear hfz12_0
  try clear hfz12_1
  try clear hfz12_2
  try clear hfz14_0
  try clear hfz14_1
  try clear hfz14_2
  try clear hfz22_0
  try clear hfz22_1
  try clear hfz22_2
  try clear hfz24_0
  try clear hfz24_1
  try clear hfz24_2
  try clear hfz26_0
  try clear hfz26_1
  try clear hfz26_2
  try clear hfz33_0
  try clear hfz33_1
  try clear hfz33_2
  obtain ⟨kq,x20_26,rfl,HA,HJ26,BK288,BK292,HI0,HK,HB⟩:=hcut
  cases kq with
  | zero => exact absurd HA.out (by simp [impl_byteReader_value.j0])
  | succ kj26 =>
   have H:=HA.out;clear HA;simp only [impl_byteReader_value.j0] at H
   by_cases c36 : x20_26=true
   ·
    subst c36
    have H1 : ((impl_byteReader_num.f kj26 t290 t291 2).bind fun bt299 => ((impl_byteReader_take.f bt299.2.1 bt299.2.2 bt299.1).bind fun bt302 => (some (t289,0,bt302.1,bt302.2.1,bt302.2.2))))=some (r1,r2,r3,r4,r5):=by rw [if_pos rfl] at H;exact H
    clear H;have H:=H1;clear H1;replace H:=zT.mp H;obtain ⟨⟨t299,t300,t301⟩,A370,H⟩:=H;replace H : ((impl_byteReader_take.f t300 t301 t299).bind fun bt302 => (some (t289,0,bt302.1,bt302.2.1,bt302.2.2)))=some (r1,r2,r3,r4,r5):=H;have A37:=zh A370;clear A370;replace H:=zT.mp H;obtain ⟨⟨t302,t303,t304⟩,A380,H⟩:=H;replace H : (some (t289,0,t302,t303,t304))=some (r1,r2,r3,r4,r5):=H;have A38:=zh A380;clear A380;simp only [Option.some.injEq,Prod.mk.injEq] at H;obtain ⟨rfl,rfl,rfl,rfl,rfl⟩:=H
    go_wp2_with (first|((with_reducible refine zJ (f:=94) rfl ?_);refine yj (some 26) rfl rfl Tryd.func94 (by kernel_rfl) rfl #[.pointer (some ⟨g,0,none⟩),.int .i64 2] rfl (by (try simp only [zt,zu,zv]);first|done|rfl|(simp only [zw,zx];rfl)|(simp only [yr,ys,zV,zW];rfl)) ?_;(with_reducible refine (impl_byteReader_num.calls kj26  g t290 t291 2 t299 t300 t301 w0 _ ?side1 ?side2 A37.out).mono ?_);(case side1 => repeat (with_reducible first|exact HI0.out|apply IsS108.alloc|apply IsS108.drewN|apply IsS108.drew|apply IsS108.set_0|apply IsS108.set_1|refine IsS108.far ?_ NB0_288.out _|refine IsS108.far ?_ NB0_292.out _));(case side2 => repeat (with_reducible first|exact HB.out|apply za|apply zb|apply zc|refine zd ?_ (IsS108.ge HI0.out)|refine zd ?_ GE288.out|refine zd ?_ GE292.out));rintro e w39 ⟨rfl,hi,hb,hk⟩;refine ⟨_,rfl,?_⟩;replace BK288:=zh (KeepBut.blk hk (g':=gb288) (o:=.cells #[.int .i64 0,.int .i64 0,.string (⟨#[]⟩ : ByteArray)] 39 (0,0)) (by (with_reducible repeat (first|refine ze ?_ _|refine zf ?_|refine zg ?_ _));exact BK288.out) NB288_0.out (by simp));replace BK292:=zh (KeepBut.blk hk (g':=gb292) (o:=.cells #[.int .i64 t289,.int .i64 0,.string (⟨#[]⟩ : ByteArray)] 39 (0,0)) (by (with_reducible repeat (first|refine ze ?_ _|refine zf ?_|refine zg ?_ _));exact BK292.out) NB292_0.out (by simp));replace HK:=zh (KeepBut.trans (by repeat (with_reducible first|exact HK.out|apply yl|apply ym|apply yx|apply yn|refine keep_far ?_ GW288.out _|refine keep_far ?_ GW292.out _)) hk (.inl rfl));replace HB:=zh (hb);replace HI0:=zh (hi);(try clear hb);(try clear hb2);(try clear hk);(try clear hi))|((with_reducible refine zJ (f:=93) rfl ?_);refine yj (some 27) rfl rfl Tryd.func93 (by kernel_rfl) rfl #[.pointer (some ⟨g,0,none⟩),.int .i64 t299] rfl (by (try simp only [zt,zu,zv]);first|done|rfl|(simp only [zw,zx];rfl)|(simp only [yr,ys,zV,zW];rfl)) ?_;(with_reducible refine (impl_byteReader_take.calls  g t300 t301 t299 t302 t303 t304 w0 _ ?side1 ?side2 A38.out).mono ?_);(case side1 => repeat (with_reducible first|exact HI0.out|apply IsS108.alloc|apply IsS108.drewN|apply IsS108.drew|apply IsS108.set_0|apply IsS108.set_1|refine IsS108.far ?_ NB0_288.out _|refine IsS108.far ?_ NB0_292.out _));(case side2 => repeat (with_reducible first|exact HB.out|apply za|apply zb|apply zc|refine zd ?_ (IsS108.ge HI0.out)|refine zd ?_ GE288.out|refine zd ?_ GE292.out));rintro e w40 ⟨rfl,hi,hb,hk⟩;refine ⟨_,rfl,?_⟩;replace BK288:=zh (KeepBut.blk hk (g':=gb288) (o:=.cells #[.int .i64 0,.int .i64 0,.string (⟨#[]⟩ : ByteArray)] 39 (0,0)) (by (with_reducible repeat (first|refine ze ?_ _|refine zf ?_|refine zg ?_ _));exact BK288.out) NB288_0.out (by simp));replace BK292:=zh (KeepBut.blk hk (g':=gb292) (o:=.cells #[.int .i64 t289,.int .i64 0,.string (⟨#[]⟩ : ByteArray)] 39 (0,0)) (by (with_reducible repeat (first|refine ze ?_ _|refine zf ?_|refine zg ?_ _));exact BK292.out) NB292_0.out (by simp));replace HK:=zh (KeepBut.trans (by repeat (with_reducible first|exact HK.out|apply yl|apply ym|apply yx|apply yn|refine keep_far ?_ GW288.out _|refine keep_far ?_ GW292.out _)) hk (.inl rfl));replace HB:=zh (hb);replace HI0:=zh (hi);(try clear hb);(try clear hb2);(try clear hk);(try clear hi);have hnb41:=NB292_288.out;have hnc41:=NB288_292.out;have hnb42:=NB292_0.out;have hnc42:=NB0_292.out;have hcz43_0 : w40.cell? ⟨gb292,0,none⟩=some (.int .i64 t289):=(zz BK292.out 0).trans rfl;have hcz43_1 : w40.cell? ⟨gb292,1,none⟩=some (.int .i64 0):=(zz BK292.out 1).trans rfl;have hcz43_2 : w40.cell? ⟨gb292,2,none⟩=some (.string (⟨#[]⟩ : ByteArray)):=(zz BK292.out 2).trans rfl;have hfz43_0:=zA BK292.out 0;have hfz43_1:=zA BK292.out 1;have hfz43_2:=zA BK292.out 2;have hnb44:=NB288_0.out;have hnc44:=NB0_288.out;have hcz45_0 : w40.cell? ⟨gb288,0,none⟩=some (.int .i64 0):=(zz BK288.out 0).trans rfl;have hcz45_1 : w40.cell? ⟨gb288,1,none⟩=some (.int .i64 0):=(zz BK288.out 1).trans rfl;have hcz45_2 : w40.cell? ⟨gb288,2,none⟩=some (.string (⟨#[]⟩ : ByteArray)):=(zz BK288.out 2).trans rfl;have hfz45_0:=zA BK288.out 0;have hfz45_1:=zA BK288.out 1;have hfz45_2:=zA BK288.out 2))
    refine bodyPost_ret (results_cell_row rfl _ _ gb288 39 #[.int .i64 t289,.int .i64 0,.string t302] (0,0) _ rfl (by (with_reducible repeat (first|refine ze ?_ _|refine zf ?_|refine zg ?_ _));refine zL (cs:=#[.int .i64 t289,.int .i64 0,.string (⟨#[]⟩ : ByteArray)]) ?_ 2 _ rfl;(with_reducible repeat (first|refine ze ?_ _|refine zf ?_|refine zg ?_ _));refine zL (cs:=#[.int .i64 t289,.int .i64 0,.string (⟨#[]⟩ : ByteArray)]) ?_ 1 _ rfl;(with_reducible repeat (first|refine ze ?_ _|refine zf ?_|refine zg ?_ _));refine zL (cs:=#[.int .i64 0,.int .i64 0,.string (⟨#[]⟩ : ByteArray)]) ?_ 0 _ rfl;(with_reducible repeat (first|refine ze ?_ _|refine zf ?_|refine zg ?_ _));refine zS ?_ NB288_292.out _;(with_reducible repeat (first|refine ze ?_ _|refine zf ?_|refine zg ?_ _));exact BK288.out) Tryd.underlying39 rfl (by kernel_rfl)) rfl ?_;exact ⟨by first|rfl|(simp [yt,yu] <;> rfl)|(simp [*,yt,yu] <;> rfl),by repeat (with_reducible first|exact HI0.out|apply IsS108.alloc|apply IsS108.drewN|apply IsS108.drew|apply IsS108.set_0|apply IsS108.set_1|refine IsS108.far ?_ NB0_288.out _|refine IsS108.far ?_ NB0_292.out _),by repeat (with_reducible first|exact HB.out|apply za|apply zb|apply zc|refine zd ?_ (IsS108.ge HI0.out)|refine zd ?_ GE288.out|refine zd ?_ GE292.out),by repeat (with_reducible first|exact HK.out|apply yl|apply ym|apply yx|apply yn|refine keep_far ?_ GW288.out _|refine keep_far ?_ GW292.out _)⟩
   replace c36:=yb.mpr c36;subst c36;have H1 : (some (t289,0,(⟨#[]⟩ : ByteArray),t290,t291))=some (r1,r2,r3,r4,r5):=by rw [if_neg (show ¬ (false=true) by decide)] at H;exact H
   clear H;have H:=H1;clear H1;simp only [Option.some.injEq,Prod.mk.injEq] at H;obtain ⟨rfl,rfl,rfl,rfl,rfl⟩:=H;have hnb46:=NB292_288.out;have hnc46:=NB288_292.out;have hnb47:=NB292_0.out;have hnc47:=NB0_292.out;have hcz48_0 : wc.cell? ⟨gb292,0,none⟩=some (.int .i64 t289):=(zz BK292.out 0).trans rfl;have hcz48_1 : wc.cell? ⟨gb292,1,none⟩=some (.int .i64 0):=(zz BK292.out 1).trans rfl;have hcz48_2 : wc.cell? ⟨gb292,2,none⟩=some (.string (⟨#[]⟩ : ByteArray)):=(zz BK292.out 2).trans rfl;have hfz48_0:=zA BK292.out 0;have hfz48_1:=zA BK292.out 1;have hfz48_2:=zA BK292.out 2;have hnb49:=NB288_0.out;have hnc49:=NB0_288.out;have hcz50_0 : wc.cell? ⟨gb288,0,none⟩=some (.int .i64 0):=(zz BK288.out 0).trans rfl;have hcz50_1 : wc.cell? ⟨gb288,1,none⟩=some (.int .i64 0):=(zz BK288.out 1).trans rfl;have hcz50_2 : wc.cell? ⟨gb288,2,none⟩=some (.string (⟨#[]⟩ : ByteArray)):=(zz BK288.out 2).trans rfl;have hfz50_0:=zA BK288.out 0;have hfz50_1:=zA BK288.out 1;have hfz50_2:=zA BK288.out 2
   go_wp2
   refine bodyPost_ret (results_cell_row rfl _ _ gb288 39 #[.int .i64 t289,.int .i64 0,.string (⟨#[]⟩ : ByteArray)] (0,0) _ rfl (by (with_reducible repeat (first|refine ze ?_ _|refine zf ?_|refine zg ?_ _));refine zL (cs:=#[.int .i64 t289,.int .i64 0,.string (⟨#[]⟩ : ByteArray)]) ?_ 2 _ rfl;(with_reducible repeat (first|refine ze ?_ _|refine zf ?_|refine zg ?_ _));refine zL (cs:=#[.int .i64 t289,.int .i64 0,.string (⟨#[]⟩ : ByteArray)]) ?_ 1 _ rfl;(with_reducible repeat (first|refine ze ?_ _|refine zf ?_|refine zg ?_ _));refine zL (cs:=#[.int .i64 0,.int .i64 0,.string (⟨#[]⟩ : ByteArray)]) ?_ 0 _ rfl;(with_reducible repeat (first|refine ze ?_ _|refine zf ?_|refine zg ?_ _));exact BK288.out) Tryd.underlying39 rfl (by kernel_rfl)) rfl ?_;exact ⟨by first|rfl|(simp [yt,yu] <;> rfl)|(simp [*,yt,yu] <;> rfl),by repeat (with_reducible first|exact HI0.out|apply IsS108.alloc|apply IsS108.drewN|apply IsS108.drew|apply IsS108.set_0|apply IsS108.set_1|refine IsS108.far ?_ NB0_288.out _|refine IsS108.far ?_ NB0_292.out _),by repeat (with_reducible first|exact HB.out|apply za|apply zb|apply zc|refine zd ?_ (IsS108.ge HI0.out)|refine zd ?_ GE288.out|refine zd ?_ GE292.out),by repeat (with_reducible first|exact HK.out|apply yl|apply ym|apply yx|apply yn|refine keep_far ?_ GW288.out _|refine keep_far ?_ GW292.out _)⟩

end Go.Proofs.YthjgfjlogilleaaDoor.Q
end
section
namespace Go.Proofs.YthjgfjlogilleaaDoor.Pure
open Go Go.RowKit Go.Proofs.YthjgfjlogilleaaDoor.Q Go.Proofs.YthjgfjlogilleaaDoorW.PrintWords Go.Proofs.YthjgfjlogilleaaDoorW.PrintLast Go.Proofs.YthjgfjlogilleaaDoorW.PrintMore Go.Proofs.YthjgfjlogilleaaDoorW.Pl
theorem wi {i : Nat} (h : i≤9223372036854775806) : wrap64 ((i : Int) + 1)=((i + 1 : Nat) : Int):=w64 (by omega) (by omega)
def stp (x b : Int) : Int:=wrap64 (wrap64 (x * 256) + wrap64 b)
def bigV (l : List Int) : Int:=l.foldl stp 0
theorem bt_get (a : ByteArray) (i : Nat) (h : i<(bytesOf a).length) : bt a (i : Int)=(bytesOf a)[i]:=by
 rw [← rd_bytesOf,rd_at _ _ h]
def zer (n : Nat) : ByteArray:=⟨(Lib.repeatL [0] n).toArray⟩
def takV (a : ByteArray) (f : Bool) (n : Nat) : ByteArray×ByteArray×Bool:=if a.size<n then (zer n,a,true) else (a.extract 0 n,a.extract n a.size,f)
def numV (a : ByteArray) (f : Bool) (n : Nat) : Int×ByteArray×Bool:=if a.size<n then (0,a,true) else (bigV (bytesOf (a.extract 0 n)),a.extract n a.size,f)
abbrev IVal:=S39
abbrev eB : ByteArray:=⟨#[]⟩
abbrev Rd:=Int×Int×ByteArray×ByteArray×Bool
def valV (a : ByteArray) (f : Bool) : Rd :=
  let q:=numV a f 1
  if q.1=1 then (q.1,(numV q.2.1 q.2.2 1).1,eB,(numV q.2.1 q.2.2 1).2.1,(numV q.2.1 q.2.2 1).2.2)
  else if q.1=2 then (q.1,wrap64 ((numV q.2.1 q.2.2 8).1 - 4611686018427387904),eB,(numV q.2.1 q.2.2 8).2.1,(numV q.2.1 q.2.2 8).2.2)
  else if q.1=3∨q.1=4∨q.1=5 then
    let r:=numV q.2.1 q.2.2 2
    (q.1,0,(takV r.2.1 r.2.2 r.1.toNat).1,(takV r.2.1 r.2.2 r.1.toNat).2.1,(takV r.2.1 r.2.2 r.1.toNat).2.2)
  else (q.1,0,eB,q.2.1,q.2.2)
def nxtV (a : ByteArray) : Option (IVal×ByteArray) :=
  if a.size=0 then none
  else if bt a 0=0 then some (⟨0,0,eB⟩,a.extract 1 a.size)
  else if bt a 0=1 then (if a.size<2 then none else some (⟨1,bt a 1,eB⟩,a.extract 2 a.size))
  else if bt a 0=2 then (if a.size<9 then none else if bt a 1 > 127 then none else some (⟨2,wrap64 (bigV (bytesOf (a.extract 1 9)) - 4611686018427387904),eB⟩,a.extract 9 a.size))
  else if bt a 0=3∨bt a 0=4∨bt a 0=5 then
    (if a.size<3 then none else if (a.size : Int)<3 + bigV (bytesOf (a.extract 1 3)) then none
     else some (⟨bt a 0,0,a.extract 3 (3 + bigV (bytesOf (a.extract 1 3))).toNat⟩,a.extract (3 + bigV (bytesOf (a.extract 1 3))).toNat a.size))
  else none
def told (o : Option (IVal×ByteArray)) : Rd:=match o with|some (v,r) => (v.f0,v.f1,v.f2,r,true)|none => (0,0,eB,eB,false)
def Bad (v : IVal) : Prop:=v.f0<0∨v.f0 > 5∨(v.f0=2∧(v.f1 < -1000000000000∨v.f1 > 1000000000000))
def rdv (r : Rd) : IVal:=⟨r.1,r.2.1,r.2.2.1⟩
end Go.Proofs.YthjgfjlogilleaaDoor.Pure
end
section
namespace Go.Proofs.YthjgfjlogilleaaDoor.Q
open Go.RowKit Go.Proofs.YthjgfjlogilleaaDoorW.PrintWords Go.Proofs.YthjgfjlogilleaaDoorW.PrintLast Go.Proofs.YthjgfjlogilleaaDoorW.PrintMore
attribute [local go_sem] max2_int min2_int max_two min_two max_three min_three max_four min_four max2_str min2_str str_geq str_gtr str_leq
set_option linter.unusedVariables false
set_option linter.unusedSimpArgs false

def spec_l01Items.l0 : Nat→ByteArray→List (S39)→Option ((List (S39))×Bool)
 | 0,_,_ => none
 | k + 1,x0,x4 => if (x0.size : Int) > 0 then ((spec_l01Next.f k x0).bind fun bt209 => (if bt209.2.2.2.2=true then (if x4.length<4398046511104 then (spec_l01Items.l0 k bt209.2.2.2.1 (x4 ++ [(⟨bt209.1,bt209.2.1,bt209.2.2.1⟩ : S39)])) else (none)) else (some ((([] : List (S39))),false)))) else (some (x4,true))
def spec_l01Items.f (k : Nat) (a0 : ByteArray) : Option ((List (S39))×Bool):=spec_l01Items.l0 k a0 (([] : List (S39)))
theorem spec_l01Items.mono_l : ∀ k,(∀ y0 y1,LeO (spec_l01Items.l0 k y0 y1) (spec_l01Items.l0 (k + 1) y0 y1))
 | 0 => fun _ _ r h => by simp [spec_l01Items.l0] at h
 | k + 1 => by
  have ih0:=spec_l01Items.mono_l k;intro y0 y1;unfold spec_l01Items.l0
  repeat' first|(with_reducible first|exact ih0 _ _|exact spec_l01Next.mono _ _|exact zQ _|exact zN _|refine zP ?_ ?_|refine zO ?_ (fun _ => ?_))|refine zP ?_ ?_|refine zO ?_ (fun _ => ?_)
theorem spec_l01Items.mono : ∀ a0 k,LeO (spec_l01Items.f k a0) (spec_l01Items.f (k + 1) a0):=by
 intro a0 k;have ih0:=spec_l01Items.mono_l k;unfold spec_l01Items.f
 repeat' first|(with_reducible first|exact ih0 _ _|exact spec_l01Next.mono _ _|exact zQ _|exact zN _|refine zP ?_ ?_|refine zO ?_ (fun _ => ?_))|refine zP ?_ ?_|refine zO ?_ (fun _ => ?_)
set_option maxHeartbeats 8000000 in
set_option maxRecDepth 100000 in
theorem spec_l01Items.calls (k : Nat) (a0 : ByteArray) (r1 : List (S39)) (r2 : Bool) (w : World) (h : spec_l01Items.f k a0=some (r1,r2)) :
  Calls Tryd.prog 66 #[.string a0] w fun e w' => ∃ v0_ : Value,e = .returned (.tuple #[v0_,.bool r2])∧Kd.R k39 39 w' w.heap.size (fun _ => True) v0_ r1∧Below w.heap.size w w':=by
 have hu39:=Tryd.underlying39;have HB:=zh (Below.refl w.heap.size w);have H : (spec_l01Items.l0 k a0 (([] : List (S39))))=some (r1,r2):=h;clear h;obtain ⟨y206,hy206⟩ : ∃ y_ : List (S39),y_=(([] : List (S39))):=⟨_,rfl⟩;replace H : (spec_l01Items.l0 k a0 y206)=some (r1,r2):=by first|(rw [hy206];with_reducible exact H)|(have H2_:=(Option.bind_some _ _).symm.trans H;rw [hy206];with_reducible exact H2_)|(have H2_:=(Option.bind_some _ _).symm.trans H;with_reducible exact H2_)|with_reducible exact H|(rw [hy206];exact H)|exact H
 have Ny206:=zh hy206;clear hy206;have H':=zh H;clear H
 go_enter Tryd.func66,Tryd.ntmps66
 go_wp2_with (first|((with_reducible refine zK (N:=8) rfl ?_);refine Kd.R_lit k39 _ 39 ?hg (N:=8) ?hd (xs:=([] : List (S39))) (inner:=[]) (ok:=fun _ => True) (okp:=fun _ => True) ?hr ?hp (fun _ hk => hk) trivial (Below.refl _ _) (ye _) (by simp) ?_;(case hd => rfl);(case hg => rfl);(case hr => first|(go_simp;done)|(go_simp;rfl));(case hp => exact (Reps.none _ _));intro v207 w2 ho3 hb hg_ hnew_;clear hg_ hnew_;(first|rw [← Ny206.out] at ho3|(simp only [Int.reduceToNat] at ho3;rw [← Ny206.out] at ho3));have HO208:=zh (yy ho3 (zB (by repeat (with_reducible first|exact HB.out|apply za|apply zb|apply zc))));replace HB:=zh (zC (by repeat (with_reducible first|exact HB.out|apply za|apply zb|apply zc)) hb);clear hb ho3))
 go_loopg [0,4] k (fun kq v0 v4 w' => ∃ (x0_1 : ByteArray) (x4_1 : List (S39)),v0 = .string x0_1∧Aside0 (spec_l01Items.l0 kq x0_1 x4_1=some (r1,r2))∧Aside0 (kq≤k)∧Aside0 (Kd.R k39 39 w' w.heap.size (fun _ => True) v4 x4_1)∧Aside0 (Below w.heap.size w w'))
 case atStart => exact ⟨(a0),(y206),(by first|rfl|(simp;done)|(simp [*];done)),H',⟨ye _⟩,⟨by (with_reducible repeat (first|apply zm|apply zn|apply zo));exact HO208.out⟩,⟨by repeat (with_reducible first|exact HB.out|apply za|apply zb|apply zc)⟩⟩
 case round =>
  clear H'
  try clear p2
  obtain ⟨x0_1,x4_1,rfl,HA,HK1,HO_4,HB⟩:=hrel
  cases gk with
  | zero => exact absurd HA.out (by simp [spec_l01Items.l0])
  | succ k1 =>
   have H:=HA.out;clear HA;simp only [spec_l01Items.l0] at H
   by_cases c4 : (x0_1.size : Int) > 0
   ·
    rw [if_pos c4] at H
    have c4b0 : decide (0<(x0_1.size : Int))=true:=decide_eq_true c4;have c4b1 : decide (0<x0_1.size)=true:=decide_eq_true (by omega);clear c4;replace H:=zT.mp H;obtain ⟨⟨t209,t210,t211,t212,t213⟩,A50,H⟩:=H;replace H : (if t213=true then (if x4_1.length<4398046511104 then (spec_l01Items.l0 k1 t212 (x4_1 ++ [(⟨t209,t210,t211⟩ : S39)])) else (none)) else (some ((([] : List (S39))),false)))=some (r1,r2):=H;have A5:=zh A50;clear A50
    by_cases c6 : t213=true
    ·
     subst c6
     have H1 : (if x4_1.length<4398046511104 then (spec_l01Items.l0 k1 t212 (x4_1 ++ [(⟨t209,t210,t211⟩ : S39)])) else (none))=some (r1,r2):=by rw [if_pos rfl] at H;exact H
     clear H;have H:=H1;clear H1
     by_cases c7 : x4_1.length<4398046511104
     ·
      rw [if_pos c7] at H
      have LMc7:=zh c7;clear c7;obtain ⟨y215,hy215⟩ : ∃ y_ : List (S39),y_=(x4_1 ++ [(⟨t209,t210,t211⟩ : S39)]):=⟨_,rfl⟩;replace H : (spec_l01Items.l0 k1 t212 y215)=some (r1,r2):=by first|(rw [hy215];with_reducible exact H)|(have H2_:=(Option.bind_some _ _).symm.trans H;rw [hy215];with_reducible exact H2_)|(have H2_:=(Option.bind_some _ _).symm.trans H;with_reducible exact H2_)|with_reducible exact H|(rw [hy215];exact H)|exact H
      have Ny215:=zh hy215;clear hy215;have H':=zh H;clear H
      go_wp2_with (first|((with_reducible refine zJ (f:=80) rfl ?_);refine yj (some 14) rfl rfl Tryd.func80 (by kernel_rfl) rfl #[.string x0_1] rfl (by (try simp only [zt,zu,zv]);first|done|rfl|(simp only [zw,zx];rfl)|(simp only [yr,ys,zV,zW];rfl)) ?_;(with_reducible refine (spec_l01Next.calls k1  x0_1 t209 t210 t211 t212 true _ A5.out).mono ?_);rintro e w8 ⟨rfl,hb⟩;refine ⟨_,rfl,?_⟩;replace HO_4:=zh (yg (by (with_reducible repeat (first|apply zm|apply zn|apply zo));exact HO_4.out) hb);replace HB:=zh (zC (by repeat (with_reducible first|exact HB.out|apply za|apply zb|apply zc)) hb);(try clear hb);(try clear hb2);(try clear hk);(try clear hi))|((with_reducible refine zK (N:=5) rfl ?_);refine zI ?hg (N:=5) ?hd (cs:=#[.int .i64 0,.int .i64 0,.string (⟨#[]⟩ : ByteArray)]) (t:=39) ?hr ?_;(case hd => rfl);(case hg => rfl);(case hr => first|(go_simp;done)|(go_simp;rfl));intro gb214 hg w9 hbox hb;replace HO_4:=zh (yg (Kd.R_elderB (by (with_reducible repeat (first|apply zm|apply zn|apply zo));exact HO_4.out) gb214 (Nat.le_of_eq hg.symm)) hb);have BK214:=zh (hbox);have GW214:=zh ((by rw [hg];exact (zB (by repeat (with_reducible first|exact HB.out|apply za|apply zb|apply zc))) : w.heap.size≤gb214));have GE214:=zh ((by rw [hg];exact (zB (by repeat (with_reducible first|exact HB.out|apply za|apply zb|apply zc))) : w.heap.size≤gb214));replace HB:=zh (zC (by repeat (with_reducible first|exact HB.out|apply za|apply zb|apply zc)) hb);clear hb hbox hg;have hcz10_0 : w9.cell? ⟨gb214,0,none⟩=some (.int .i64 0):=(zz BK214.out 0).trans rfl;have hcz10_1 : w9.cell? ⟨gb214,1,none⟩=some (.int .i64 0):=(zz BK214.out 1).trans rfl;have hcz10_2 : w9.cell? ⟨gb214,2,none⟩=some (.string (⟨#[]⟩ : ByteArray)):=(zz BK214.out 2).trans rfl;have hfz10_0:=zA BK214.out 0;have hfz10_1:=zA BK214.out 1;have hfz10_2:=zA BK214.out 2)|((with_reducible refine yB (b:=.append) (xs:=#[.tmp 21,.tmp 23]) rfl ?_);at_builtin;refine Kd.R_append k39 (w0:=w) w.heap.size rfl (.tmp 21) (.tmp 23) 51 39 (.agg #[(.int .i64 0),(.int .i64 0),(.string ⟨#[]⟩)]) 32 rfl Tryd.underlying51 info39 rfl (by decide) (by omega) u4 x4_1 (⟨t209,t210,t211⟩ : S39) [.int .i64 t209,.int .i64 t210,.string t211] (fun k_ => k_≠gb214) (fun _ => False) rfl (by first|(go_simp;done)|(go_simp;rfl)) ?aP (fun _ hk => hk.elim) ?aF ?aO ?aB ?aS ?aL ?_;(case aP => exact k39_mkM _ _ _ (⟨t209,t210,t211⟩ : S39));(case aB => exact (by repeat (with_reducible first|exact HB.out|apply za|apply zb|apply zc|refine zd ?_ GE214.out)));(case aF => exact (fun k_ hk => Kd.freshB (g:=gb214) (o:=.cells #[.int .i64 t209,.int .i64 t210,.string t211] 39 (0,0)) (by (with_reducible repeat (first|refine ze ?_ _|refine zf ?_|refine zg ?_ _));refine zL (cs:=#[.int .i64 t209,.int .i64 t210,.string (⟨#[]⟩ : ByteArray)]) ?_ 2 _ rfl;(with_reducible repeat (first|refine ze ?_ _|refine zf ?_|refine zg ?_ _));refine zL (cs:=#[.int .i64 t209,.int .i64 0,.string (⟨#[]⟩ : ByteArray)]) ?_ 1 _ rfl;(with_reducible repeat (first|refine ze ?_ _|refine zf ?_|refine zg ?_ _));refine zL (cs:=#[.int .i64 0,.int .i64 0,.string (⟨#[]⟩ : ByteArray)]) ?_ 0 _ rfl;(with_reducible repeat (first|refine ze ?_ _|refine zf ?_|refine zg ?_ _));exact BK214.out) k_ hk));(case aO => exact (by (with_reducible repeat (first|apply zm|apply zn|apply zo));exact zM (zE (p:=⟨gb214,2,none⟩) (zE (p:=⟨gb214,1,none⟩) (zE (p:=⟨gb214,0,none⟩) (zM HO_4.out (fun k_ hk => (⟨hk,hk.2⟩ : _∧k_≠gb214))) (fun _ hk => hk.2) (.int .i64 t209)) (fun _ hk => hk.2) (.int .i64 t210)) (fun _ hk => hk.2) (.string t211)) (fun _ hk => hk.1.2)));(case aS => exact (zB (by repeat (with_reducible first|exact HB.out|apply za|apply zb|apply zc|refine zd ?_ GE214.out))));(case aL => have:=LMc7.out;omega);intro v216 w11 ho hb hg hat;rw [← Ny215.out] at ho;replace BK214:=zh (yw (g:=gb214) (o:=.cells #[.int .i64 t209,.int .i64 t210,.string t211] 39 (0,0)) (by (with_reducible repeat (first|refine ze ?_ _|refine zf ?_|refine zg ?_ _));refine zL (cs:=#[.int .i64 t209,.int .i64 t210,.string (⟨#[]⟩ : ByteArray)]) ?_ 2 _ rfl;(with_reducible repeat (first|refine ze ?_ _|refine zf ?_|refine zg ?_ _));refine zL (cs:=#[.int .i64 t209,.int .i64 0,.string (⟨#[]⟩ : ByteArray)]) ?_ 1 _ rfl;(with_reducible repeat (first|refine ze ?_ _|refine zf ?_|refine zg ?_ _));refine zL (cs:=#[.int .i64 0,.int .i64 0,.string (⟨#[]⟩ : ByteArray)]) ?_ 0 _ rfl;(with_reducible repeat (first|refine ze ?_ _|refine zf ?_|refine zg ?_ _));exact BK214.out) hg (yv HO_4.out (fun _ hk => hk.2)));replace HB:=zh (hb);have HO217:=zh (ho);clear HO_4 ho hb hg hat))
      go_roundg k1
      case measure => have:=HK1.out;omega
      case rel => exact ⟨(t212),(y215),(by first|rfl|(simp;done)|(simp [*];done)),H',⟨by have:=HK1.out;omega⟩,⟨by (with_reducible repeat (first|apply zm|apply zn|apply zo));exact zM HO217.out (fun _ hk => trivial)⟩,⟨by repeat (with_reducible first|exact HB.out|apply za|apply zb|apply zc|refine zd ?_ GE214.out)⟩⟩
     rw [if_neg c7] at H;exact absurd H (by simp)
    replace c6:=yb.mpr c6;subst c6;have H1 : (some ((([] : List (S39))),false))=some (r1,r2):=by rw [if_neg (show ¬ (false=true) by decide)] at H;exact H
    clear H;have H:=H1;clear H1;obtain ⟨y218,hy218⟩ : ∃ y_ : List (S39),y_=(([] : List (S39))):=⟨_,rfl⟩;replace H : (some (y218,false))=some (r1,r2):=by first|(rw [hy218];with_reducible exact H)|(have H2_:=(Option.bind_some _ _).symm.trans H;rw [hy218];with_reducible exact H2_)|(have H2_:=(Option.bind_some _ _).symm.trans H;with_reducible exact H2_)|with_reducible exact H|(rw [hy218];exact H)|exact H
    have Ny218:=zh hy218;clear hy218;simp only [Option.some.injEq,Prod.mk.injEq] at H;obtain ⟨rfl,rfl⟩:=H
    go_wp2_with (first|((with_reducible refine zJ (f:=80) rfl ?_);refine yj (some 14) rfl rfl Tryd.func80 (by kernel_rfl) rfl #[.string x0_1] rfl (by (try simp only [zt,zu,zv]);first|done|rfl|(simp only [zw,zx];rfl)|(simp only [yr,ys,zV,zW];rfl)) ?_;(with_reducible refine (spec_l01Next.calls k1  x0_1 t209 t210 t211 t212 false _ A5.out).mono ?_);rintro e w12 ⟨rfl,hb⟩;refine ⟨_,rfl,?_⟩;replace HO_4:=zh (yg (by (with_reducible repeat (first|apply zm|apply zn|apply zo));exact HO_4.out) hb);replace HB:=zh (zC (by repeat (with_reducible first|exact HB.out|apply za|apply zb|apply zc)) hb);(try clear hb);(try clear hb2);(try clear hk);(try clear hi))|((with_reducible refine zK (N:=5) rfl ?_);refine zI ?hg (N:=5) ?hd (cs:=#[.int .i64 0,.int .i64 0,.string (⟨#[]⟩ : ByteArray)]) (t:=39) ?hr ?_;(case hd => rfl);(case hg => rfl);(case hr => first|(go_simp;done)|(go_simp;rfl));intro gb214 hg w13 hbox hb;replace HO_4:=zh (yg (Kd.R_elderB (by (with_reducible repeat (first|apply zm|apply zn|apply zo));exact HO_4.out) gb214 (Nat.le_of_eq hg.symm)) hb);have BK214:=zh (hbox);have GW214:=zh ((by rw [hg];exact (zB (by repeat (with_reducible first|exact HB.out|apply za|apply zb|apply zc))) : w.heap.size≤gb214));have GE214:=zh ((by rw [hg];exact (zB (by repeat (with_reducible first|exact HB.out|apply za|apply zb|apply zc))) : w.heap.size≤gb214));replace HB:=zh (zC (by repeat (with_reducible first|exact HB.out|apply za|apply zb|apply zc)) hb);clear hb hbox hg;have hcz14_0 : w13.cell? ⟨gb214,0,none⟩=some (.int .i64 0):=(zz BK214.out 0).trans rfl;have hcz14_1 : w13.cell? ⟨gb214,1,none⟩=some (.int .i64 0):=(zz BK214.out 1).trans rfl;have hcz14_2 : w13.cell? ⟨gb214,2,none⟩=some (.string (⟨#[]⟩ : ByteArray)):=(zz BK214.out 2).trans rfl;have hfz14_0:=zA BK214.out 0;have hfz14_1:=zA BK214.out 1;have hfz14_2:=zA BK214.out 2)|((with_reducible refine zK (N:=20) rfl ?_);refine Kd.R_lit k39 _ 39 ?hg (N:=20) ?hd (xs:=([] : List (S39))) (inner:=[]) (ok:=fun _ => True) (okp:=fun _ => True) ?hr ?hp (fun _ hk => hk) trivial (Below.refl _ _) (ye _) (by simp) ?_;(case hd => rfl);(case hg => rfl);(case hr => first|(go_simp;done)|(go_simp;rfl));(case hp => exact (Reps.none _ _));intro v219 w15 ho16 hb hg_ hnew_;clear hg_ hnew_;(first|rw [← Ny218.out] at ho16|(simp only [Int.reduceToNat] at ho16;rw [← Ny218.out] at ho16));have HO220:=zh (yy (Kd.R_newB (Kd.R_new' ho16 (Kd.R_lt (by (with_reducible repeat (first|apply zm|apply zn|apply zo));exact (zM (zE (p:=⟨gb214,2,none⟩) (zE (p:=⟨gb214,1,none⟩) (zE (p:=⟨gb214,0,none⟩) (zM HO_4.out (fun k_ hk => (⟨hk,hk.2⟩ : _∧k_≠gb214))) (fun _ hk => hk.2) (.int .i64 t209)) (fun _ hk => hk.2) (.int .i64 t210)) (fun _ hk => hk.2) (.string t211)) (fun _ h_ => h_.1))))) (g:=gb214) (o:=.cells #[.int .i64 t209,.int .i64 t210,.string t211] 39 (0,0)) (by (with_reducible repeat (first|refine ze ?_ _|refine zf ?_|refine zg ?_ _));refine zL (cs:=#[.int .i64 t209,.int .i64 t210,.string (⟨#[]⟩ : ByteArray)]) ?_ 2 _ rfl;(with_reducible repeat (first|refine ze ?_ _|refine zf ?_|refine zg ?_ _));refine zL (cs:=#[.int .i64 t209,.int .i64 0,.string (⟨#[]⟩ : ByteArray)]) ?_ 1 _ rfl;(with_reducible repeat (first|refine ze ?_ _|refine zf ?_|refine zg ?_ _));refine zL (cs:=#[.int .i64 0,.int .i64 0,.string (⟨#[]⟩ : ByteArray)]) ?_ 0 _ rfl;(with_reducible repeat (first|refine ze ?_ _|refine zf ?_|refine zg ?_ _));exact BK214.out)) (zB (by repeat (with_reducible first|exact HB.out|apply za|apply zb|apply zc|refine zd ?_ GE214.out))));replace HO_4:=zh (Kd.R_elder' (by (with_reducible repeat (first|apply zm|apply zn|apply zo));exact (zM (zE (p:=⟨gb214,2,none⟩) (zE (p:=⟨gb214,1,none⟩) (zE (p:=⟨gb214,0,none⟩) (zM HO_4.out (fun k_ hk => (⟨hk,hk.2⟩ : _∧k_≠gb214))) (fun _ hk => hk.2) (.int .i64 t209)) (fun _ hk => hk.2) (.int .i64 t210)) (fun _ hk => hk.2) (.string t211)) (fun _ h_ => h_.1))) (Kd.R_base ho16) hb);replace BK214:=zh (zD (g:=gb214) (o:=.cells #[.int .i64 t209,.int .i64 t210,.string t211] 39 (0,0)) (by (with_reducible repeat (first|refine ze ?_ _|refine zf ?_|refine zg ?_ _));refine zL (cs:=#[.int .i64 t209,.int .i64 t210,.string (⟨#[]⟩ : ByteArray)]) ?_ 2 _ rfl;(with_reducible repeat (first|refine ze ?_ _|refine zf ?_|refine zg ?_ _));refine zL (cs:=#[.int .i64 t209,.int .i64 0,.string (⟨#[]⟩ : ByteArray)]) ?_ 1 _ rfl;(with_reducible repeat (first|refine ze ?_ _|refine zf ?_|refine zg ?_ _));refine zL (cs:=#[.int .i64 0,.int .i64 0,.string (⟨#[]⟩ : ByteArray)]) ?_ 0 _ rfl;(with_reducible repeat (first|refine ze ?_ _|refine zf ?_|refine zg ?_ _));exact BK214.out) hb);replace HB:=zh (zC (by repeat (with_reducible first|exact HB.out|apply za|apply zb|apply zc|refine zd ?_ GE214.out)) hb);clear hb ho16))
    go_ret2
    exact ⟨_,by first|rfl|(simp [yt,yu] <;> rfl)|(simp [*,yt,yu] <;> rfl),by (with_reducible repeat (first|apply zm|apply zn|apply zo));exact zM HO220.out (fun _ hk => trivial),by repeat (with_reducible first|exact HB.out|apply za|apply zb|apply zc|refine zd ?_ GE214.out)⟩
   rw [if_neg c4] at H;have c4b0 : decide (0<(x0_1.size : Int))=false:=decide_eq_false c4;have c4b1 : decide (0<x0_1.size)=false:=decide_eq_false (by omega);clear c4;simp only [Option.some.injEq,Prod.mk.injEq] at H;obtain ⟨rfl,rfl⟩:=H
   go_wp2
   go_ret2
   exact ⟨_,by first|rfl|(simp [yt,yu] <;> rfl)|(simp [*,yt,yu] <;> rfl),by (with_reducible repeat (first|apply zm|apply zn|apply zo));exact HO_4.out,by repeat (with_reducible first|exact HB.out|apply za|apply zb|apply zc)⟩


def spec_l01Fields.l0 : Nat→ByteArray→List (S92)→Option ((List (S92))×Bool)
 | 0,_,_ => none
 | k + 1,x0,x4 => if (x0.size : Int) > 0 then (if 0<(x0.size : Int) then (if (x0.size : Int)<(wrap64 (1 + (wrap64 (bt x0 0)))) then (some ((([] : List (S92))),false)) else (if 1≤(wrap64 (1 + (wrap64 (bt x0 0)))) then (if (wrap64 (1 + (wrap64 (bt x0 0))))≤(x0.size : Int) then (if 0≤(wrap64 (1 + (wrap64 (bt x0 0)))) then ((spec_l01Next.f k (x0.extract ((wrap64 (1 + (wrap64 (bt x0 0)))) : Int).toNat x0.size)).bind fun bt227 => (if bt227.2.2.2.2=true then (if x4.length<2932031007402 then (spec_l01Fields.l0 k bt227.2.2.2.1 (x4 ++ [(⟨x0.extract 1 ((wrap64 (1 + (wrap64 (bt x0 0)))) : Int).toNat,(⟨bt227.1,bt227.2.1,bt227.2.2.1⟩ : S39)⟩ : S92)])) else (none)) else (some ((([] : List (S92))),false)))) else (none)) else (none)) else (none))) else (none)) else (some (x4,true))
def spec_l01Fields.f (k : Nat) (a0 : ByteArray) : Option ((List (S92))×Bool):=spec_l01Fields.l0 k a0 (([] : List (S92)))
theorem spec_l01Fields.mono_l : ∀ k,(∀ y0 y1,LeO (spec_l01Fields.l0 k y0 y1) (spec_l01Fields.l0 (k + 1) y0 y1))
 | 0 => fun _ _ r h => by simp [spec_l01Fields.l0] at h
 | k + 1 => by
  have ih0:=spec_l01Fields.mono_l k;intro y0 y1;unfold spec_l01Fields.l0
  repeat' first|(with_reducible first|exact ih0 _ _|exact spec_l01Next.mono _ _|exact zQ _|exact zN _|refine zP ?_ ?_|refine zO ?_ (fun _ => ?_))|refine zP ?_ ?_|refine zO ?_ (fun _ => ?_)
theorem spec_l01Fields.mono : ∀ a0 k,LeO (spec_l01Fields.f k a0) (spec_l01Fields.f (k + 1) a0):=by
 intro a0 k;have ih0:=spec_l01Fields.mono_l k;unfold spec_l01Fields.f
 repeat' first|(with_reducible first|exact ih0 _ _|exact spec_l01Next.mono _ _|exact zQ _|exact zN _|refine zP ?_ ?_|refine zO ?_ (fun _ => ?_))|refine zP ?_ ?_|refine zO ?_ (fun _ => ?_)
set_option maxHeartbeats 8000000 in
set_option maxRecDepth 100000 in
theorem spec_l01Fields.calls (k : Nat) (a0 : ByteArray) (r1 : List (S92)) (r2 : Bool) (w : World) (h : spec_l01Fields.f k a0=some (r1,r2)) :
  Calls Tryd.prog 67 #[.string a0] w fun e w' => ∃ v0_ : Value,e = .returned (.tuple #[v0_,.bool r2])∧Kd.R k92 92 w' w.heap.size (fun _ => True) v0_ r1∧Below w.heap.size w w':=by
 have hu39:=Tryd.underlying39;have hu92:=Tryd.underlying92;have HB:=zh (Below.refl w.heap.size w);have H : (spec_l01Fields.l0 k a0 (([] : List (S92))))=some (r1,r2):=h;clear h;obtain ⟨y221,hy221⟩ : ∃ y_ : List (S92),y_=(([] : List (S92))):=⟨_,rfl⟩;replace H : (spec_l01Fields.l0 k a0 y221)=some (r1,r2):=by first|(rw [hy221];with_reducible exact H)|(have H2_:=(Option.bind_some _ _).symm.trans H;rw [hy221];with_reducible exact H2_)|(have H2_:=(Option.bind_some _ _).symm.trans H;with_reducible exact H2_)|with_reducible exact H|(rw [hy221];exact H)|exact H
 have Ny221:=zh hy221;clear hy221;have H':=zh H;clear H
 go_enter Tryd.func67,Tryd.ntmps67
 go_wp2_with (first|((with_reducible refine zK (N:=10) rfl ?_);refine Kd.R_lit k92 _ 92 ?hg (N:=10) ?hd (xs:=([] : List (S92))) (inner:=[]) (ok:=fun _ => True) (okp:=fun _ => True) ?hr ?hp (fun _ hk => hk) trivial (Below.refl _ _) (ye _) (by simp) ?_;(case hd => rfl);(case hg => rfl);(case hr => first|(go_simp;done)|(go_simp;rfl));(case hp => exact (Reps.none _ _));intro v222 w2 ho3 hb hg_ hnew_;clear hg_ hnew_;(first|rw [← Ny221.out] at ho3|(simp only [Int.reduceToNat] at ho3;rw [← Ny221.out] at ho3));have HO223:=zh (yy ho3 (zB (by repeat (with_reducible first|exact HB.out|apply za|apply zb|apply zc))));replace HB:=zh (zC (by repeat (with_reducible first|exact HB.out|apply za|apply zb|apply zc)) hb);clear hb ho3))
 go_loopg [0,4] k (fun kq v0 v4 w' => ∃ (x0_1 : ByteArray) (x4_1 : List (S92)),v0 = .string x0_1∧Aside0 (spec_l01Fields.l0 kq x0_1 x4_1=some (r1,r2))∧Aside0 (kq≤k)∧Aside0 (Kd.R k92 92 w' w.heap.size (fun _ => True) v4 x4_1)∧Aside0 (Below w.heap.size w w'))
 case atStart => exact ⟨(a0),(y221),(by first|rfl|(simp;done)|(simp [*];done)),H',⟨ye _⟩,⟨by (with_reducible repeat (first|apply zm|apply zn|apply zo));exact HO223.out⟩,⟨by repeat (with_reducible first|exact HB.out|apply za|apply zb|apply zc)⟩⟩
 case round =>
  clear H'
  try clear p2
  obtain ⟨x0_1,x4_1,rfl,HA,HK1,HO_4,HB⟩:=hrel
  cases gk with
  | zero => exact absurd HA.out (by simp [spec_l01Fields.l0])
  | succ k1 =>
   have H:=HA.out;clear HA;simp only [spec_l01Fields.l0] at H
   by_cases c4 : (x0_1.size : Int) > 0
   ·
    rw [if_pos c4] at H
    have c4b0 : decide (0<(x0_1.size : Int))=true:=decide_eq_true c4;have c4b1 : decide (0<x0_1.size)=true:=decide_eq_true (by omega);clear c4
    by_cases c5 : 0<(x0_1.size : Int)
    ·
     rw [if_pos c5] at H
     have c5b0 : decide (0<(x0_1.size : Int))=true:=decide_eq_true c5;have c5b1 : decide (0<x0_1.size)=true:=decide_eq_true (by omega);clear c5
     by_cases c7 : (x0_1.size : Int)<(wrap64 (1 + (wrap64 (bt x0_1 0))))
     ·
      rw [if_pos c7] at H
      have c7b0 : decide ((x0_1.size : Int)<(wrap64 (1 + (wrap64 (bt x0_1 0)))))=true:=decide_eq_true c7;clear c7;obtain ⟨y224,hy224⟩ : ∃ y_ : List (S92),y_=(([] : List (S92))):=⟨_,rfl⟩;replace H : (some (y224,false))=some (r1,r2):=by first|(rw [hy224];with_reducible exact H)|(have H2_:=(Option.bind_some _ _).symm.trans H;rw [hy224];with_reducible exact H2_)|(have H2_:=(Option.bind_some _ _).symm.trans H;with_reducible exact H2_)|with_reducible exact H|(rw [hy224];exact H)|exact H
      have Ny224:=zh hy224;clear hy224;simp only [Option.some.injEq,Prod.mk.injEq] at H;obtain ⟨rfl,rfl⟩:=H;have p6 : 0≤(0 : Int):=(by omega);have q6 : 0<x0_1.size:=(by have : (0 : Int)<(x0_1.size : Int):=zy (by first|(with_reducible assumption)|assumption);omega);have hx6 : ∀ h : 0<x0_1.size,((x0_1[0]'h).toNat : Int)=bt x0_1 0:=bt_at x0_1 0;clear p6;have qi6 : (0<(x0_1.size : Int))=True:=eq_true (zy (by first|(with_reducible assumption)|assumption));replace q6:=eq_true q6
      go_wp2_with (first|((with_reducible refine zK (N:=22) rfl ?_);refine Kd.R_lit k92 _ 92 ?hg (N:=22) ?hd (xs:=([] : List (S92))) (inner:=[]) (ok:=fun _ => True) (okp:=fun _ => True) ?hr ?hp (fun _ hk => hk) trivial (Below.refl _ _) (ye _) (by simp) ?_;(case hd => rfl);(case hg => rfl);(case hr => first|(go_simp;done)|(go_simp;rfl));(case hp => exact (Reps.none _ _));intro v225 w8 ho9 hb hg_ hnew_;clear hg_ hnew_;(first|rw [← Ny224.out] at ho9|(simp only [Int.reduceToNat] at ho9;rw [← Ny224.out] at ho9));have HO226:=zh (yy (Kd.R_new' ho9 (Kd.R_lt (by (with_reducible repeat (first|apply zm|apply zn|apply zo));exact HO_4.out))) (zB (by repeat (with_reducible first|exact HB.out|apply za|apply zb|apply zc))));replace HO_4:=zh (Kd.R_elder' (by (with_reducible repeat (first|apply zm|apply zn|apply zo));exact HO_4.out) (Kd.R_base ho9) hb);replace HB:=zh (zC (by repeat (with_reducible first|exact HB.out|apply za|apply zb|apply zc)) hb);clear hb ho9))
      go_ret2
      exact ⟨_,by first|rfl|(simp [yt,yu] <;> rfl)|(simp [*,yt,yu] <;> rfl),by (with_reducible repeat (first|apply zm|apply zn|apply zo));exact zM HO226.out (fun _ hk => trivial),by repeat (with_reducible first|exact HB.out|apply za|apply zb|apply zc)⟩
     rw [if_neg c7] at H;have c7b0 : decide ((x0_1.size : Int)<(wrap64 (1 + (wrap64 (bt x0_1 0)))))=false:=decide_eq_false c7;clear c7
     by_cases c10 : 1≤(wrap64 (1 + (wrap64 (bt x0_1 0))))
     ·
      rw [if_pos c10] at H
      have c10b0:=eq_true c10;have c10b1 : decide (1≤(wrap64 (1 + (wrap64 (bt x0_1 0)))))=true:=decide_eq_true c10
      by_cases c11 : (wrap64 (1 + (wrap64 (bt x0_1 0))))≤(x0_1.size : Int)
      ·
       rw [if_pos c11] at H
       have c11b0:=eq_true c11;have c11b1 : decide ((wrap64 (1 + (wrap64 (bt x0_1 0))))≤(x0_1.size : Int))=true:=decide_eq_true c11;obtain ⟨ji12,hji12⟩ : ∃ j_ : Int,(wrap64 (1 + (wrap64 (bt x0_1 0))))=j_:=⟨_,rfl⟩;replace H : (if 0≤(ji12) then ((spec_l01Next.f k1 (x0_1.extract ((ji12) : Int).toNat x0_1.size)).bind fun bt227 => (if bt227.2.2.2.2=true then (if x4_1.length<2932031007402 then (spec_l01Fields.l0 k1 bt227.2.2.2.1 (x4_1 ++ [(⟨x0_1.extract 1 ((ji12) : Int).toNat,(⟨bt227.1,bt227.2.1,bt227.2.2.1⟩ : S39)⟩ : S92)])) else (none)) else (some ((([] : List (S92))),false)))) else (none))=some (r1,r2):=by first|(rw [hji12] at H;exact H)|(simp only [hji12] at H ⊢;exact H)
       (try rw [hji12] at c7b0);(try rw [hji12] at c10b0);(try rw [hji12] at c10b1);(try rw [hji12] at c10);(try rw [hji12] at c11b0);(try rw [hji12] at c11b1);(try rw [hji12] at c11);have hji12w : (IntKind.i64.wrap (1 + (wrap64 (bt x0_1 0))))=ji12:=(zG _).trans hji12
       by_cases c13 : 0≤(ji12)
       ·
        rw [if_pos c13] at H
        have c13b0:=eq_true c13;have c13b1 : decide (0≤(ji12))=true:=decide_eq_true c13;clear c13;have c14b0:=eq_true (zy (by first|(with_reducible assumption)|assumption) : (ji12)≤(x0_1.size : Int));replace H:=zT.mp H;obtain ⟨⟨t227,t228,t229,t230,t231⟩,A150,H⟩:=H;replace H : (if t231=true then (if x4_1.length<2932031007402 then (spec_l01Fields.l0 k1 t230 (x4_1 ++ [(⟨x0_1.extract 1 ((ji12) : Int).toNat,(⟨t227,t228,t229⟩ : S39)⟩ : S92)])) else (none)) else (some ((([] : List (S92))),false)))=some (r1,r2):=H;have A15:=zh A150;clear A150
        by_cases c16 : t231=true
        ·
         subst c16
         have H1 : (if x4_1.length<2932031007402 then (spec_l01Fields.l0 k1 t230 (x4_1 ++ [(⟨x0_1.extract 1 ((ji12) : Int).toNat,(⟨t227,t228,t229⟩ : S39)⟩ : S92)])) else (none))=some (r1,r2):=by rw [if_pos rfl] at H;exact H
         clear H;have H:=H1;clear H1
         by_cases c17 : x4_1.length<2932031007402
         ·
          rw [if_pos c17] at H
          have LMc17:=zh c17;clear c17;obtain ⟨y233,hy233⟩ : ∃ y_ : List (S92),y_=(x4_1 ++ [(⟨x0_1.extract 1 ((ji12) : Int).toNat,(⟨t227,t228,t229⟩ : S39)⟩ : S92)]):=⟨_,rfl⟩;replace H : (spec_l01Fields.l0 k1 t230 y233)=some (r1,r2):=by first|(rw [hy233];with_reducible exact H)|(have H2_:=(Option.bind_some _ _).symm.trans H;rw [hy233];with_reducible exact H2_)|(have H2_:=(Option.bind_some _ _).symm.trans H;with_reducible exact H2_)|with_reducible exact H|(rw [hy233];exact H)|exact H
          have Ny233:=zh hy233;clear hy233;have H':=zh H;clear H;have p6 : 0≤(0 : Int):=(by omega);have q6 : 0<x0_1.size:=(by have : (0 : Int)<(x0_1.size : Int):=zy (by first|(with_reducible assumption)|assumption);omega);have hx6 : ∀ h : 0<x0_1.size,((x0_1[0]'h).toNat : Int)=bt x0_1 0:=bt_at x0_1 0;clear p6;have qi6 : (0<(x0_1.size : Int))=True:=eq_true (zy (by first|(with_reducible assumption)|assumption));replace q6:=eq_true q6
          go_wp2_with (first|((with_reducible refine zJ (f:=80) rfl ?_);refine yj (some 32) rfl rfl Tryd.func80 (by kernel_rfl) rfl #[.string (x0_1.extract ((ji12) : Int).toNat x0_1.size)] rfl (by (try simp only [zt,zu,zv]);first|done|(simp only [hji12];rfl)|rfl|(simp only [zw,zx];rfl)|(simp only [yr,ys,zV,zW];rfl)) ?_;(with_reducible refine (spec_l01Next.calls k1  (x0_1.extract ((ji12) : Int).toNat x0_1.size) t227 t228 t229 t230 true _ A15.out).mono ?_);rintro e w18 ⟨rfl,hb⟩;refine ⟨_,rfl,?_⟩;replace HO_4:=zh (yg (by (with_reducible repeat (first|apply zm|apply zn|apply zo));exact HO_4.out) hb);replace HB:=zh (zC (by repeat (with_reducible first|exact HB.out|apply za|apply zb|apply zc)) hb);(try clear hb);(try clear hb2);(try clear hk);(try clear hi))|((with_reducible refine zK (N:=7) rfl ?_);refine zI ?hg (N:=7) ?hd (cs:=#[.int .i64 0,.int .i64 0,.string (⟨#[]⟩ : ByteArray)]) (t:=39) ?hr ?_;(case hd => rfl);(case hg => rfl);(case hr => first|(go_simp;done)|(go_simp;rfl));intro gb232 hg w19 hbox hb;replace HO_4:=zh (yg (by (with_reducible repeat (first|apply zm|apply zn|apply zo));exact HO_4.out) hb);have BK232:=zh (hbox);have GW232:=zh ((by rw [hg];exact (zB (by repeat (with_reducible first|exact HB.out|apply za|apply zb|apply zc))) : w.heap.size≤gb232));have GE232:=zh ((by rw [hg];exact (zB (by repeat (with_reducible first|exact HB.out|apply za|apply zb|apply zc))) : w.heap.size≤gb232));replace HB:=zh (zC (by repeat (with_reducible first|exact HB.out|apply za|apply zb|apply zc)) hb);clear hb hbox hg;have hcz20_0 : w19.cell? ⟨gb232,0,none⟩=some (.int .i64 0):=(zz BK232.out 0).trans rfl;have hcz20_1 : w19.cell? ⟨gb232,1,none⟩=some (.int .i64 0):=(zz BK232.out 1).trans rfl;have hcz20_2 : w19.cell? ⟨gb232,2,none⟩=some (.string (⟨#[]⟩ : ByteArray)):=(zz BK232.out 2).trans rfl;have hfz20_0:=zA BK232.out 0;have hfz20_1:=zA BK232.out 1;have hfz20_2:=zA BK232.out 2)|((with_reducible refine yB (b:=.append) (xs:=#[.tmp 39,.tmp 43]) rfl ?_);at_builtin;refine Kd.R_append k92 (w0:=w) w.heap.size rfl (.tmp 39) (.tmp 43) 88 92 (.agg #[(.string ⟨#[]⟩),(.int .i64 0),(.int .i64 0),(.string ⟨#[]⟩)]) 48 rfl Tryd.underlying88 info92 rfl (by decide) (by omega) u4 x4_1 (⟨x0_1.extract 1 ((ji12) : Int).toNat,(⟨t227,t228,t229⟩ : S39)⟩ : S92) [.string (x0_1.extract 1 ((ji12) : Int).toNat),.int .i64 t227,.int .i64 t228,.string t229] (fun _ => True) (fun _ => False) rfl (by first|(go_simp;done)|(go_simp;rfl)) ?aP (fun _ hk => hk.elim) ?aF ?aO ?aB ?aS ?aL ?_;(case aP => exact k92_mkM _ _ _ (⟨x0_1.extract 1 ((ji12) : Int).toNat,(⟨t227,t228,t229⟩ : S39)⟩ : S92));(case aB => exact (by repeat (with_reducible first|exact HB.out|apply za|apply zb|apply zc|refine zd ?_ GE232.out)));(case aF => exact (fun _ _ => trivial));(case aO => exact (by (with_reducible repeat (first|apply zm|apply zn|apply zo));exact zM (zE (p:=⟨gb232,2,none⟩) (zE (p:=⟨gb232,1,none⟩) (zE (p:=⟨gb232,0,none⟩) (yf HO_4.out BK232.out (by decide)) (fun _ hk => hk.2) (.int .i64 t227)) (fun _ hk => hk.2) (.int .i64 t228)) (fun _ hk => hk.2) (.string t229)) (fun _ hk => trivial)));(case aS => exact (zB (by repeat (with_reducible first|exact HB.out|apply za|apply zb|apply zc|refine zd ?_ GE232.out))));(case aL => have:=LMc17.out;omega);intro v234 w21 ho hb hg hat;rw [← Ny233.out] at ho;replace BK232:=zh (yw (g:=gb232) (o:=.cells #[.int .i64 t227,.int .i64 t228,.string t229] 39 (0,0)) (by (with_reducible repeat (first|refine ze ?_ _|refine zf ?_|refine zg ?_ _));refine zL (cs:=#[.int .i64 t227,.int .i64 t228,.string (⟨#[]⟩ : ByteArray)]) ?_ 2 _ rfl;(with_reducible repeat (first|refine ze ?_ _|refine zf ?_|refine zg ?_ _));refine zL (cs:=#[.int .i64 t227,.int .i64 0,.string (⟨#[]⟩ : ByteArray)]) ?_ 1 _ rfl;(with_reducible repeat (first|refine ze ?_ _|refine zf ?_|refine zg ?_ _));refine zL (cs:=#[.int .i64 0,.int .i64 0,.string (⟨#[]⟩ : ByteArray)]) ?_ 0 _ rfl;(with_reducible repeat (first|refine ze ?_ _|refine zf ?_|refine zg ?_ _));exact BK232.out) hg (Kd.R_ne HO_4.out BK232.out (by decide)));replace HB:=zh (hb);have HO235:=zh (ho);clear HO_4 ho hb hg hat))
          go_roundg k1
          case measure => have:=HK1.out;omega
          case rel => exact ⟨(t230),(y233),(by first|rfl|(simp;done)|(simp [*];done)),H',⟨by have:=HK1.out;omega⟩,⟨by (with_reducible repeat (first|apply zm|apply zn|apply zo));exact HO235.out⟩,⟨by repeat (with_reducible first|exact HB.out|apply za|apply zb|apply zc|refine zd ?_ GE232.out)⟩⟩
         rw [if_neg c17] at H;exact absurd H (by simp)
        replace c16:=yb.mpr c16;subst c16;have H1 : (some ((([] : List (S92))),false))=some (r1,r2):=by rw [if_neg (show ¬ (false=true) by decide)] at H;exact H
        clear H;have H:=H1;clear H1;obtain ⟨y236,hy236⟩ : ∃ y_ : List (S92),y_=(([] : List (S92))):=⟨_,rfl⟩;replace H : (some (y236,false))=some (r1,r2):=by first|(rw [hy236];with_reducible exact H)|(have H2_:=(Option.bind_some _ _).symm.trans H;rw [hy236];with_reducible exact H2_)|(have H2_:=(Option.bind_some _ _).symm.trans H;with_reducible exact H2_)|with_reducible exact H|(rw [hy236];exact H)|exact H
        have Ny236:=zh hy236;clear hy236;simp only [Option.some.injEq,Prod.mk.injEq] at H;obtain ⟨rfl,rfl⟩:=H;have p6 : 0≤(0 : Int):=(by omega);have q6 : 0<x0_1.size:=(by have : (0 : Int)<(x0_1.size : Int):=zy (by first|(with_reducible assumption)|assumption);omega);have hx6 : ∀ h : 0<x0_1.size,((x0_1[0]'h).toNat : Int)=bt x0_1 0:=bt_at x0_1 0;clear p6;have qi6 : (0<(x0_1.size : Int))=True:=eq_true (zy (by first|(with_reducible assumption)|assumption));replace q6:=eq_true q6
        go_wp2_with (first|((with_reducible refine zJ (f:=80) rfl ?_);refine yj (some 32) rfl rfl Tryd.func80 (by kernel_rfl) rfl #[.string (x0_1.extract ((ji12) : Int).toNat x0_1.size)] rfl (by (try simp only [zt,zu,zv]);first|done|(simp only [hji12];rfl)|rfl|(simp only [zw,zx];rfl)|(simp only [yr,ys,zV,zW];rfl)) ?_;(with_reducible refine (spec_l01Next.calls k1  (x0_1.extract ((ji12) : Int).toNat x0_1.size) t227 t228 t229 t230 false _ A15.out).mono ?_);rintro e w22 ⟨rfl,hb⟩;refine ⟨_,rfl,?_⟩;replace HO_4:=zh (yg (by (with_reducible repeat (first|apply zm|apply zn|apply zo));exact HO_4.out) hb);replace HB:=zh (zC (by repeat (with_reducible first|exact HB.out|apply za|apply zb|apply zc)) hb);(try clear hb);(try clear hb2);(try clear hk);(try clear hi))|((with_reducible refine zK (N:=7) rfl ?_);refine zI ?hg (N:=7) ?hd (cs:=#[.int .i64 0,.int .i64 0,.string (⟨#[]⟩ : ByteArray)]) (t:=39) ?hr ?_;(case hd => rfl);(case hg => rfl);(case hr => first|(go_simp;done)|(go_simp;rfl));intro gb232 hg w23 hbox hb;replace HO_4:=zh (yg (by (with_reducible repeat (first|apply zm|apply zn|apply zo));exact HO_4.out) hb);have BK232:=zh (hbox);have GW232:=zh ((by rw [hg];exact (zB (by repeat (with_reducible first|exact HB.out|apply za|apply zb|apply zc))) : w.heap.size≤gb232));have GE232:=zh ((by rw [hg];exact (zB (by repeat (with_reducible first|exact HB.out|apply za|apply zb|apply zc))) : w.heap.size≤gb232));replace HB:=zh (zC (by repeat (with_reducible first|exact HB.out|apply za|apply zb|apply zc)) hb);clear hb hbox hg;have hcz24_0 : w23.cell? ⟨gb232,0,none⟩=some (.int .i64 0):=(zz BK232.out 0).trans rfl;have hcz24_1 : w23.cell? ⟨gb232,1,none⟩=some (.int .i64 0):=(zz BK232.out 1).trans rfl;have hcz24_2 : w23.cell? ⟨gb232,2,none⟩=some (.string (⟨#[]⟩ : ByteArray)):=(zz BK232.out 2).trans rfl;have hfz24_0:=zA BK232.out 0;have hfz24_1:=zA BK232.out 1;have hfz24_2:=zA BK232.out 2)|((with_reducible refine zK (N:=38) rfl ?_);refine Kd.R_lit k92 _ 92 ?hg (N:=38) ?hd (xs:=([] : List (S92))) (inner:=[]) (ok:=fun _ => True) (okp:=fun _ => True) ?hr ?hp (fun _ hk => hk) trivial (Below.refl _ _) (ye _) (by simp) ?_;(case hd => rfl);(case hg => rfl);(case hr => first|(go_simp;done)|(go_simp;rfl));(case hp => exact (Reps.none _ _));intro v237 w25 ho26 hb hg_ hnew_;clear hg_ hnew_;(first|rw [← Ny236.out] at ho26|(simp only [Int.reduceToNat] at ho26;rw [← Ny236.out] at ho26));have HO238:=zh (yy (Kd.R_new' ho26 (Kd.R_lt (by (with_reducible repeat (first|apply zm|apply zn|apply zo));exact (zM (zE (p:=⟨gb232,2,none⟩) (zE (p:=⟨gb232,1,none⟩) (zE (p:=⟨gb232,0,none⟩) (yf HO_4.out BK232.out (by decide)) (fun _ hk => hk.2) (.int .i64 t227)) (fun _ hk => hk.2) (.int .i64 t228)) (fun _ hk => hk.2) (.string t229)) (fun _ h_ => h_.1))))) (zB (by repeat (with_reducible first|exact HB.out|apply za|apply zb|apply zc|refine zd ?_ GE232.out))));replace HO_4:=zh (Kd.R_elder' (by (with_reducible repeat (first|apply zm|apply zn|apply zo));exact (zM (zE (p:=⟨gb232,2,none⟩) (zE (p:=⟨gb232,1,none⟩) (zE (p:=⟨gb232,0,none⟩) (yf HO_4.out BK232.out (by decide)) (fun _ hk => hk.2) (.int .i64 t227)) (fun _ hk => hk.2) (.int .i64 t228)) (fun _ hk => hk.2) (.string t229)) (fun _ h_ => h_.1))) (Kd.R_base ho26) hb);replace BK232:=zh (zD (g:=gb232) (o:=.cells #[.int .i64 t227,.int .i64 t228,.string t229] 39 (0,0)) (by (with_reducible repeat (first|refine ze ?_ _|refine zf ?_|refine zg ?_ _));refine zL (cs:=#[.int .i64 t227,.int .i64 t228,.string (⟨#[]⟩ : ByteArray)]) ?_ 2 _ rfl;(with_reducible repeat (first|refine ze ?_ _|refine zf ?_|refine zg ?_ _));refine zL (cs:=#[.int .i64 t227,.int .i64 0,.string (⟨#[]⟩ : ByteArray)]) ?_ 1 _ rfl;(with_reducible repeat (first|refine ze ?_ _|refine zf ?_|refine zg ?_ _));refine zL (cs:=#[.int .i64 0,.int .i64 0,.string (⟨#[]⟩ : ByteArray)]) ?_ 0 _ rfl;(with_reducible repeat (first|refine ze ?_ _|refine zf ?_|refine zg ?_ _));exact BK232.out) hb);replace HB:=zh (zC (by repeat (with_reducible first|exact HB.out|apply za|apply zb|apply zc|refine zd ?_ GE232.out)) hb);clear hb ho26))
        go_ret2
        exact ⟨_,by first|rfl|(simp [yt,yu] <;> rfl)|(simp only [← hji12];first|rfl|(simp [yt,yu] <;> rfl))|(simp [*,yt,yu] <;> rfl),by (with_reducible repeat (first|apply zm|apply zn|apply zo));exact zM HO238.out (fun _ hk => trivial),by repeat (with_reducible first|exact HB.out|apply za|apply zb|apply zc|refine zd ?_ GE232.out)⟩
       rw [if_neg c13] at H;exact absurd H (by simp)
      rw [if_neg c11] at H;exact absurd H (by simp)
     rw [if_neg c10] at H;exact absurd H (by simp)
    rw [if_neg c5] at H;exact absurd H (by simp)
   rw [if_neg c4] at H;have c4b0 : decide (0<(x0_1.size : Int))=false:=decide_eq_false c4;have c4b1 : decide (0<x0_1.size)=false:=decide_eq_false (by omega);clear c4;simp only [Option.some.injEq,Prod.mk.injEq] at H;obtain ⟨rfl,rfl⟩:=H
   go_wp2
   go_ret2
   exact ⟨_,by first|rfl|(simp [yt,yu] <;> rfl)|(simp [*,yt,yu] <;> rfl),by (with_reducible repeat (first|apply zm|apply zn|apply zo));exact HO_4.out,by repeat (with_reducible first|exact HB.out|apply za|apply zb|apply zc)⟩

end Go.Proofs.YthjgfjlogilleaaDoor.Q
end
