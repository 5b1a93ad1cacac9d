/- Texts of this claim, merged by a program of this session. -/
import Derived.Test.YtamikhmpfmgofaaKLawFnExactTreeRangep22
section
namespace Go.Proofs.Ytamikhmpfmgofaa.Q
open Go.RowKit Go.Proofs.YtamikhmpfmgofaaW.PrintWords Go.Proofs.YtamikhmpfmgofaaW.PrintLast Go.Proofs.YtamikhmpfmgofaaW.PrintMore
attribute [local go_sem] max2_int min2_int max_two min_two max_three min_three max_four min_four max2_str min2_str str_geq str_gtr str_leq
set_option linter.unusedVariables false
set_option linter.unusedSimpArgs false

def F09.f (a0_0 : ByteArray) (a0_1 : ByteArray) (a0_2 : Bool) (a1 : Int) : Option (Int):=if (wrap64 (a1 - (a0_0.size : Int)))<0 then (some (-1)) else (if (wrap64 ((wrap64 (a1 - (a0_0.size : Int))) - (a0_1.size : Int)))<0 then (some (-1)) else (some (wrap64 ((wrap64 (a1 - (a0_0.size : Int))) - (a0_1.size : Int)))))
set_option maxHeartbeats 8000000 in
set_option maxRecDepth 100000 in
theorem F09.calls (a0_0 : ByteArray) (a0_1 : ByteArray) (a0_2 : Bool) (a1 : Int) (r : Int) (w : World) (h : F09.f a0_0 a0_1 a0_2 a1=some r) :
  Calls Try.prog 7 #[.agg #[.string a0_0,.string a0_1,.bool a0_2],.int .i64 a1] w fun e w' => e = .returned (.int .i64 r)∧Below w.heap.size w w':=by
 have hu26:=Try.underlying26;have HB:=zh (Below.refl w.heap.size w);have H : (if (wrap64 (a1 - (a0_0.size : Int)))<0 then (some (-1)) else (if (wrap64 ((wrap64 (a1 - (a0_0.size : Int))) - (a0_1.size : Int)))<0 then (some (-1)) else (some (wrap64 ((wrap64 (a1 - (a0_0.size : Int))) - (a0_1.size : Int))))))=some r:=h;clear h
 by_cases c3 : (wrap64 (a1 - (a0_0.size : Int)))<0
 ·
  rw [if_pos c3] at H
  have c3b0 : decide ((wrap64 (a1 - (a0_0.size : Int)))<0)=true:=decide_eq_true c3;clear c3;obtain rfl:=zU H
  go_enter Try.func7,Try.ntmps7
  go_wp2_with (first|((with_reducible refine zK (N:=2) rfl ?_);refine zI ?hg (N:=2) ?hd (cs:=#[.string a0_0,.string a0_1,.bool a0_2]) (t:=26) ?hr ?_;(case hd|hg => rfl);(case hr => go_simp <;> rfl);intro gb110 hg w4 hbox hb;have BK110:=zh (hbox);have hH_:=cH (by repeat (with_reducible first|exact HB.out|apply za|apply zb|apply zc)) hb hg;have GW110:=zh hH_.1;have GE110:=GW110;replace HB:=zh hH_.2;clear hb hbox hg hH_;obtain ⟨hcz5_0,hcz5_1,hcz5_2,hfz5_0,hfz5_1,hfz5_2⟩:=cB3 BK110.out))
  go_ret
  exact ⟨by first|rfl|(simp [yt,yu] <;> rfl)|(simp [*,yt,yu] <;> rfl),by repeat (with_reducible first|exact HB.out|apply za|apply zb|apply zc|refine zd ?_ GE110.out)⟩
 rw [if_neg c3] at H;have c3b0 : decide ((wrap64 (a1 - (a0_0.size : Int)))<0)=false:=decide_eq_false c3;clear c3
 by_cases c6 : (wrap64 ((wrap64 (a1 - (a0_0.size : Int))) - (a0_1.size : Int)))<0
 ·
  rw [if_pos c6] at H
  have c6b0 : decide ((wrap64 ((wrap64 (a1 - (a0_0.size : Int))) - (a0_1.size : Int)))<0)=true:=decide_eq_true c6;clear c6;obtain rfl:=zU H
  go_enter Try.func7,Try.ntmps7
  go_wp2_with (first|((with_reducible refine zK (N:=2) rfl ?_);refine zI ?hg (N:=2) ?hd (cs:=#[.string a0_0,.string a0_1,.bool a0_2]) (t:=26) ?hr ?_;(case hd|hg => rfl);(case hr => go_simp <;> rfl);intro gb110 hg w7 hbox hb;have BK110:=zh (hbox);have hH_:=cH (by repeat (with_reducible first|exact HB.out|apply za|apply zb|apply zc)) hb hg;have GW110:=zh hH_.1;have GE110:=GW110;replace HB:=zh hH_.2;clear hb hbox hg hH_;obtain ⟨hcz8_0,hcz8_1,hcz8_2,hfz8_0,hfz8_1,hfz8_2⟩:=cB3 BK110.out))
  go_ret
  exact ⟨by first|rfl|(simp [yt,yu] <;> rfl)|(simp [*,yt,yu] <;> rfl),by repeat (with_reducible first|exact HB.out|apply za|apply zb|apply zc|refine zd ?_ GE110.out)⟩
 rw [if_neg c6] at H;have c6b0 : decide ((wrap64 ((wrap64 (a1 - (a0_0.size : Int))) - (a0_1.size : Int)))<0)=false:=decide_eq_false c6;clear c6;obtain rfl:=zU H
 go_enter Try.func7,Try.ntmps7
 go_wp2_with (first|((with_reducible refine zK (N:=2) rfl ?_);refine zI ?hg (N:=2) ?hd (cs:=#[.string a0_0,.string a0_1,.bool a0_2]) (t:=26) ?hr ?_;(case hd|hg => rfl);(case hr => go_simp <;> rfl);intro gb110 hg w9 hbox hb;have BK110:=zh (hbox);have hH_:=cH (by repeat (with_reducible first|exact HB.out|apply za|apply zb|apply zc)) hb hg;have GW110:=zh hH_.1;have GE110:=GW110;replace HB:=zh hH_.2;clear hb hbox hg hH_;obtain ⟨hcz10_0,hcz10_1,hcz10_2,hfz10_0,hfz10_1,hfz10_2⟩:=cB3 BK110.out))
 go_ret
 exact ⟨by first|rfl|(simp [yt,yu] <;> rfl)|(simp [*,yt,yu] <;> rfl),by repeat (with_reducible first|exact HB.out|apply za|apply zb|apply zc|refine zd ?_ GE110.out)⟩


def F01.f (a0 : Int) (a1 : Int) (a2 : Int) : Option (Bool):=if a1≤a0 then (some (decide (a0≤a2))) else (some false)
set_option maxHeartbeats 8000000 in
set_option maxRecDepth 100000 in
theorem F01.calls (a0 : Int) (a1 : Int) (a2 : Int) (r : Bool) (w : World) (h : F01.f a0 a1 a2=some r) :
  Calls Try.prog 51 #[.int .i64 a0,.int .i64 a1,.int .i64 a2] w fun e w' => e = .returned (.bool r)∧Drawn0 w w':=by
 have H : (if a1≤a0 then (some (decide (a0≤a2))) else (some false))=some r:=h;clear h
 by_cases c4 : a1≤a0
 ·
  rw [if_pos c4] at H
  have c4b0 : decide (a1≤a0)=true:=decide_eq_true c4;clear c4;obtain rfl:=zU H
  go_enter Try.func51,Try.ntmps51
  go_wp2
  go_ret
  exact ⟨by first|rfl|(simp;done)|(simp [*];done),by repeat (first|exact yp _|apply yq)⟩
 rw [if_neg c4] at H;have c4b0 : decide (a1≤a0)=false:=decide_eq_false c4;clear c4;obtain rfl:=zU H
 go_enter Try.func51,Try.ntmps51
 go_wp2
 go_ret
 exact ⟨by first|rfl|(simp;done)|(simp [*];done),by repeat (first|exact yp _|apply yq)⟩


def F0d.f (a0_0 : ByteArray) (a0_1 : Int) : Option (Bool):=if (a0_0.size : Int)≤2000 then ((F01.f a0_1 0 9999).bind fun t112 => (some t112)) else (some false)
set_option maxHeartbeats 8000000 in
set_option maxRecDepth 100000 in
theorem F0d.calls (a0_0 : ByteArray) (a0_1 : Int) (r : Bool) (w : World) (h : F0d.f a0_0 a0_1=some r) :
  Calls Try.prog 41 #[.agg #[.string a0_0,.int .i64 a0_1]] w fun e w' => e = .returned (.bool r)∧Below w.heap.size w w':=by
 have hu51:=Try.underlying51;have HB:=zh (Below.refl w.heap.size w);have H : (if (a0_0.size : Int)≤2000 then ((F01.f a0_1 0 9999).bind fun t112 => (some t112)) else (some false))=some r:=h;clear h
 by_cases c2 : (a0_0.size : Int)≤2000
 ·
  rw [if_pos c2] at H
  have c2b0 : decide ((a0_0.size : Int)≤2000)=true:=decide_eq_true c2;have c2b1 : decide (a0_0.size≤2000)=true:=decide_eq_true (by omega);clear c2;replace H:=zT.mp H;obtain ⟨t112,A30,H⟩:=H;replace H : (some t112)=some r:=H;have A3:=zh A30;clear A30;obtain rfl:=zU H
  go_enter Try.func41,Try.ntmps41
  go_wp2_with (first|((with_reducible refine zK (N:=1) rfl ?_);refine zI ?hg (N:=1) ?hd (cs:=#[.string a0_0,.int .i64 a0_1]) (t:=51) ?hr ?_;(case hd|hg => rfl);(case hr => go_simp <;> rfl);intro gb111 hg w4 hbox hb;have BK111:=zh (hbox);have hH_:=cH (by repeat (with_reducible first|exact HB.out|apply za|apply zb|apply zc)) hb hg;have GW111:=zh hH_.1;have GE111:=GW111;replace HB:=zh hH_.2;clear hb hbox hg hH_;obtain ⟨hcz5_0,hcz5_1,hfz5_0,hfz5_1⟩:=cB2 BK111.out)|(go_at_call 51;(with_reducible refine (F01.calls  a0_1 0 9999 t112 _ A3.out).mono ?_);rintro e w' ⟨rfl,⟨nd,rfl⟩⟩))
  go_ret
  exact ⟨by first|rfl|(simp [yt,yu] <;> rfl)|(simp [*,yt,yu] <;> rfl),by repeat (with_reducible first|exact HB.out|apply za|apply zb|apply zc|refine zd ?_ GE111.out)⟩
 rw [if_neg c2] at H;have c2b0 : decide ((a0_0.size : Int)≤2000)=false:=decide_eq_false c2;have c2b1 : decide (a0_0.size≤2000)=false:=decide_eq_false (by omega);clear c2;obtain rfl:=zU H
 go_enter Try.func41,Try.ntmps41
 go_wp2_with (first|((with_reducible refine zK (N:=1) rfl ?_);refine zI ?hg (N:=1) ?hd (cs:=#[.string a0_0,.int .i64 a0_1]) (t:=51) ?hr ?_;(case hd|hg => rfl);(case hr => go_simp <;> rfl);intro gb111 hg w6 hbox hb;have BK111:=zh (hbox);have hH_:=cH (by repeat (with_reducible first|exact HB.out|apply za|apply zb|apply zc)) hb hg;have GW111:=zh hH_.1;have GE111:=GW111;replace HB:=zh hH_.2;clear hb hbox hg hH_;obtain ⟨hcz7_0,hcz7_1,hfz7_0,hfz7_1⟩:=cB2 BK111.out))
 go_ret
 exact ⟨by first|rfl|(simp [yt,yu] <;> rfl)|(simp [*,yt,yu] <;> rfl),by repeat (with_reducible first|exact HB.out|apply za|apply zb|apply zc|refine zd ?_ GE111.out)⟩


def F08.f (a0_0 : ByteArray) (a0_1 : Int) (a1_0 : ByteArray) (a1_1 : Int) : Option (Bool):=if (Op.bytesLess a0_0.toList a1_0.toList)=true then (some true) else (if a0_0.toList=a1_0.toList then (some (decide (a0_1<a1_1))) else (some false))
set_option maxHeartbeats 8000000 in
set_option maxRecDepth 100000 in
theorem F08.calls (a0_0 : ByteArray) (a0_1 : Int) (a1_0 : ByteArray) (a1_1 : Int) (r : Bool) (w : World) (h : F08.f a0_0 a0_1 a1_0 a1_1=some r) :
  Calls Try.prog 52 #[.agg #[.string a0_0,.int .i64 a0_1],.agg #[.string a1_0,.int .i64 a1_1]] w fun e w' => e = .returned (.bool r)∧Below w.heap.size w w':=by
 have hu51:=Try.underlying51;have HB:=zh (Below.refl w.heap.size w);have H : (if (Op.bytesLess a0_0.toList a1_0.toList)=true then (some true) else (if a0_0.toList=a1_0.toList then (some (decide (a0_1<a1_1))) else (some false)))=some r:=h;clear h
 by_cases c3 : (Op.bytesLess a0_0.toList a1_0.toList)=true
 ·
  rw [if_pos c3] at H
  have c3b0 : (Op.bytesLess a0_0.toList a1_0.toList)=true:=c3;clear c3;obtain rfl:=zU H
  go_enter Try.func52,Try.ntmps52
  go_wp2_with (first|((with_reducible refine zK (N:=2) rfl ?_);refine zI ?hg (N:=2) ?hd (cs:=#[.string a0_0,.int .i64 a0_1]) (t:=51) ?hr ?_;(case hd|hg => rfl);(case hr => go_simp <;> rfl);intro gb113 hg w4 hbox hb;have BK113:=zh (hbox);have hH_:=cH (by repeat (with_reducible first|exact HB.out|apply za|apply zb|apply zc)) hb hg;have GW113:=zh hH_.1;have GE113:=GW113;replace HB:=zh hH_.2;clear hb hbox hg hH_)|((with_reducible refine zK (N:=3) rfl ?_);refine zI ?hg (N:=3) ?hd (cs:=#[.string a1_0,.int .i64 a1_1]) (t:=51) ?hr ?_;(case hd|hg => rfl);(case hr => go_simp <;> rfl);intro gb114 hg w5 hbox hb;have BK114:=zh (hbox);have hH_:=cH (by repeat (with_reducible first|exact HB.out|apply za|apply zb|apply zc|refine zd ?_ GE113.out)) hb hg;have GW114:=zh hH_.1;have GE114:=GW114;replace HB:=zh hH_.2;have NB113_114:=zh ((by rw [hg];exact yc (yi (g:=gb113) (o:=.cells #[.string a0_0,.int .i64 a0_1] 51 (0,0)) (by (with_reducible repeat first|apply ze|apply zf|apply zg);exact BK113.out)) : gb113≠gb114));have NB114_113:=zh NB113_114.out.symm;replace BK113:=zh (cD BK113.out (by (with_reducible repeat first|apply ze|apply zf|apply zg);exact BK113.out) hb);clear hb hbox hg hH_;have hnb6:=NB113_114.out;have hnc6:=NB114_113.out;obtain ⟨hcz7_0,hcz7_1,hfz7_0,hfz7_1⟩:=cB2 BK113.out;obtain ⟨hcz8_0,hcz8_1,hfz8_0,hfz8_1⟩:=cB2 BK114.out))
  go_ret
  exact ⟨by first|rfl|(simp [yt,yu] <;> rfl)|(simp [*,yt,yu] <;> rfl),by repeat (with_reducible first|exact HB.out|apply za|apply zb|apply zc|refine zd ?_ GE113.out|refine zd ?_ GE114.out)⟩
 rw [if_neg c3] at H;have c3b0 : (Op.bytesLess a0_0.toList a1_0.toList)=false:=by simpa using c3
 clear c3
 by_cases c9 : a0_0.toList=a1_0.toList
 ·
  rw [if_pos c9] at H
  have c9b0 : (a0_0.toList == a1_0.toList)=true:=ya.mpr c9;have c9b1 : (a0_0.toList != a1_0.toList)=false:=zX.mpr c9;clear c9;obtain rfl:=zU H
  go_enter Try.func52,Try.ntmps52
  go_wp2_with (first|((with_reducible refine zK (N:=2) rfl ?_);refine zI ?hg (N:=2) ?hd (cs:=#[.string a0_0,.int .i64 a0_1]) (t:=51) ?hr ?_;(case hd|hg => rfl);(case hr => go_simp <;> rfl);intro gb113 hg w10 hbox hb;have BK113:=zh (hbox);have hH_:=cH (by repeat (with_reducible first|exact HB.out|apply za|apply zb|apply zc)) hb hg;have GW113:=zh hH_.1;have GE113:=GW113;replace HB:=zh hH_.2;clear hb hbox hg hH_)|((with_reducible refine zK (N:=3) rfl ?_);refine zI ?hg (N:=3) ?hd (cs:=#[.string a1_0,.int .i64 a1_1]) (t:=51) ?hr ?_;(case hd|hg => rfl);(case hr => go_simp <;> rfl);intro gb114 hg w11 hbox hb;have BK114:=zh (hbox);have hH_:=cH (by repeat (with_reducible first|exact HB.out|apply za|apply zb|apply zc|refine zd ?_ GE113.out)) hb hg;have GW114:=zh hH_.1;have GE114:=GW114;replace HB:=zh hH_.2;have NB113_114:=zh ((by rw [hg];exact yc (yi (g:=gb113) (o:=.cells #[.string a0_0,.int .i64 a0_1] 51 (0,0)) (by (with_reducible repeat first|apply ze|apply zf|apply zg);exact BK113.out)) : gb113≠gb114));have NB114_113:=zh NB113_114.out.symm;replace BK113:=zh (cD BK113.out (by (with_reducible repeat first|apply ze|apply zf|apply zg);exact BK113.out) hb);clear hb hbox hg hH_;have hnb12:=NB113_114.out;have hnc12:=NB114_113.out;obtain ⟨hcz13_0,hcz13_1,hfz13_0,hfz13_1⟩:=cB2 BK113.out;obtain ⟨hcz14_0,hcz14_1,hfz14_0,hfz14_1⟩:=cB2 BK114.out))
  go_ret
  exact ⟨by first|rfl|(simp [yt,yu] <;> rfl)|(simp [*,yt,yu] <;> rfl),by repeat (with_reducible first|exact HB.out|apply za|apply zb|apply zc|refine zd ?_ GE113.out|refine zd ?_ GE114.out)⟩
 rw [if_neg c9] at H;have c9b0 : (a0_0.toList == a1_0.toList)=false:=zY.mpr c9;have c9b1 : (a0_0.toList != a1_0.toList)=true:=zZ.mpr c9;obtain rfl:=zU H
 go_enter Try.func52,Try.ntmps52
 go_wp2_with (first|((with_reducible refine zK (N:=2) rfl ?_);refine zI ?hg (N:=2) ?hd (cs:=#[.string a0_0,.int .i64 a0_1]) (t:=51) ?hr ?_;(case hd|hg => rfl);(case hr => go_simp <;> rfl);intro gb113 hg w15 hbox hb;have BK113:=zh (hbox);have hH_:=cH (by repeat (with_reducible first|exact HB.out|apply za|apply zb|apply zc)) hb hg;have GW113:=zh hH_.1;have GE113:=GW113;replace HB:=zh hH_.2;clear hb hbox hg hH_)|((with_reducible refine zK (N:=3) rfl ?_);refine zI ?hg (N:=3) ?hd (cs:=#[.string a1_0,.int .i64 a1_1]) (t:=51) ?hr ?_;(case hd|hg => rfl);(case hr => go_simp <;> rfl);intro gb114 hg w16 hbox hb;have BK114:=zh (hbox);have hH_:=cH (by repeat (with_reducible first|exact HB.out|apply za|apply zb|apply zc|refine zd ?_ GE113.out)) hb hg;have GW114:=zh hH_.1;have GE114:=GW114;replace HB:=zh hH_.2;have NB113_114:=zh ((by rw [hg];exact yc (yi (g:=gb113) (o:=.cells #[.string a0_0,.int .i64 a0_1] 51 (0,0)) (by (with_reducible repeat first|apply ze|apply zf|apply zg);exact BK113.out)) : gb113≠gb114));have NB114_113:=zh NB113_114.out.symm;replace BK113:=zh (cD BK113.out (by (with_reducible repeat first|apply ze|apply zf|apply zg);exact BK113.out) hb);clear hb hbox hg hH_;have hnb17:=NB113_114.out;have hnc17:=NB114_113.out;obtain ⟨hcz18_0,hcz18_1,hfz18_0,hfz18_1⟩:=cB2 BK113.out;obtain ⟨hcz19_0,hcz19_1,hfz19_0,hfz19_1⟩:=cB2 BK114.out))
 go_ret
 exact ⟨by first|rfl|(simp [yt,yu] <;> rfl)|(simp [*,yt,yu] <;> rfl),by repeat (with_reducible first|exact HB.out|apply za|apply zb|apply zc|refine zd ?_ GE113.out|refine zd ?_ GE114.out)⟩

end Go.Proofs.Ytamikhmpfmgofaa.Q
end
section
namespace Go.Proofs.Ytamikhmpfmgofaa.Q
open Go.RowKit Go.Proofs.YtamikhmpfmgofaaW.PrintWords Go.Proofs.YtamikhmpfmgofaaW.PrintLast Go.Proofs.YtamikhmpfmgofaaW.PrintMore
attribute [local go_sem] max2_int min2_int max_two min_two max_three min_three max_four min_four max2_str min2_str str_geq str_gtr str_leq   -- for this text's walks alone
set_option linter.unusedVariables false
set_option linter.unusedSimpArgs false

mutual
def F3.j0 : Nat→Bool→List (S67)→Int→Option (Bool)
 | 0,_,_,_ => none
 | k + 1,x18,x116000,x116001 => if x18=true then (some false) else (F3.l0 k 0 x116000 x116001 (⟨#[]⟩ : ByteArray) (-1))
def F3.l0 : Nat→Int→List (S67)→Int→ByteArray→Int→Option (Bool)
 | 0,_,_,_,_,_ => none
 | k + 1,x4,x116000,x116001,x119000,x119001 => if x4<(x116000.length : Int) then (if 0≤x4 then ((F01.f ((rd_T67 x116000 x4).f0) 1 (wrap64 (x116001 - 1))).bind fun t121 => (if t121=true then (if (((rd_T67 x116000 x4).f1).length : Int) > 4 then (F3.j2 k x4 true x116000 x116001 x119000 x119001 ((rd_T67 x116000 x4).f0) ((rd_T67 x116000 x4).f1)) else (if (((rd_T67 x116000 x4).f1).length : Int)=0 then (F3.j2 k x4 (decide ((x116000.length : Int) > 1)) x116000 x116001 x119000 x119001 ((rd_T67 x116000 x4).f0) ((rd_T67 x116000 x4).f1)) else (F3.j2 k x4 false x116000 x116001 x119000 x119001 ((rd_T67 x116000 x4).f0) ((rd_T67 x116000 x4).f1)))) else (F3.j2 k x4 true x116000 x116001 x119000 x119001 ((rd_T67 x116000 x4).f0) ((rd_T67 x116000 x4).f1)))) else (none)) else (some true)
def F3.j2 : Nat→Int→Bool→List (S67)→Int→ByteArray→Int→Int→List (S51)→Option (Bool)
 | 0,_,_,_,_,_,_,_,_ => none
 | k + 1,x4,x56,x116000,x116001,x119000,x119001,x121000,x121001 => if x56=true then (some false) else (F3.l1 k x4 0 x116000 x116001 x119000 x119001 x121000 x121001)
def F3.l1 : Nat→Int→Int→List (S67)→Int→ByteArray→Int→Int→List (S51)→Option (Bool)
 | 0,_,_,_,_,_,_,_,_ => none
 | k + 1,x4,x6,x116000,x116001,x119000,x119001,x121000,x121001 => if x6<x4 then (if 0≤x6 then (if x6<(x116000.length : Int) then (if ((rd_T67 x116000 x6).f0)=x121000 then (some false) else (F3.l1 k x4 (wrap64 (x6 + 1)) x116000 x116001 x119000 x119001 x121000 x121001)) else (none)) else (none)) else (F3.l2 k x4 0 x116000 x116001 x119000 x119001 x121000 x121001)
def F3.l2 : Nat→Int→Int→List (S67)→Int→ByteArray→Int→Int→List (S51)→Option (Bool)
 | 0,_,_,_,_,_,_,_,_ => none
 | k + 1,x4,x7,x116000,x116001,x119000,x119001,x121000,x121001 => if x7<(x121001.length : Int) then (if 0≤x7 then ((F0d.f ((rd_T51 x121001 x7).f0) ((rd_T51 x121001 x7).f1)).bind fun t124 => (if t124=true then ((F08.f x119000 x119001 ((rd_T51 x121001 x7).f0) ((rd_T51 x121001 x7).f1)).bind fun t126 => (if t126=true then (F3.l2 k x4 (wrap64 (x7 + 1)) x116000 x116001 ((rd_T51 x121001 x7).f0) ((rd_T51 x121001 x7).f1) x121000 x121001) else (some false))) else (some false))) else (none)) else (F3.l0 k (wrap64 (x4 + 1)) x116000 x116001 x119000 x119001)
end
def F3.f (k : Nat) (l0_0 : List (S67)) (a0_1 : Int) : Option (Bool):=(F01.f (l0_0.length : Int) 1 60).bind fun t116 => (if t116=true then ((F01.f a0_1 2 100000).bind fun t117 => (F3.j0 k (!t117) l0_0 a0_1)) else (F3.j0 k true l0_0 a0_1))
theorem F3.mono_l : ∀ k,(∀ y0 y1 y2,LeO (F3.j0 k y0 y1 y2) (F3.j0 (k + 1) y0 y1 y2))∧(∀ y0 y1 y2 y3 y4,LeO (F3.l0 k y0 y1 y2 y3 y4) (F3.l0 (k + 1) y0 y1 y2 y3 y4))∧(∀ y0 y1 y2 y3 y4 y5 y6 y7,LeO (F3.j2 k y0 y1 y2 y3 y4 y5 y6 y7) (F3.j2 (k + 1) y0 y1 y2 y3 y4 y5 y6 y7))∧(∀ y0 y1 y2 y3 y4 y5 y6 y7,LeO (F3.l1 k y0 y1 y2 y3 y4 y5 y6 y7) (F3.l1 (k + 1) y0 y1 y2 y3 y4 y5 y6 y7))∧(∀ y0 y1 y2 y3 y4 y5 y6 y7,LeO (F3.l2 k y0 y1 y2 y3 y4 y5 y6 y7) (F3.l2 (k + 1) y0 y1 y2 y3 y4 y5 y6 y7))
 | 0 => ⟨fun _ _ _ r h => by simp [F3.j0] at h,fun _ _ _ _ _ r h => by simp [F3.l0] at h,fun _ _ _ _ _ _ _ _ r h => by simp [F3.j2] at h,fun _ _ _ _ _ _ _ _ r h => by simp [F3.l1] at h,fun _ _ _ _ _ _ _ _ r h => by simp [F3.l2] at h⟩
 | k + 1 => by
  obtain ⟨ih0,ih1,ih2,ih3,ih4⟩:=F3.mono_l k;refine ⟨?_,?_,?_,?_,?_⟩
  ·
   intro y0 y1 y2
   unfold F3.j0
   repeat' first|(with_reducible first|exact ih0 _ _ _|exact ih1 _ _ _ _ _|exact ih2 _ _ _ _ _ _ _ _|exact ih3 _ _ _ _ _ _ _ _|exact ih4 _ _ _ _ _ _ _ _|exact zQ _|exact zN _|refine zP ?_ ?_|refine zO ?_ (fun _ => ?_))|refine zP ?_ ?_|refine zO ?_ (fun _ => ?_)
  ·
   intro y0 y1 y2 y3 y4
   unfold F3.l0
   repeat' first|(with_reducible first|exact ih0 _ _ _|exact ih1 _ _ _ _ _|exact ih2 _ _ _ _ _ _ _ _|exact ih3 _ _ _ _ _ _ _ _|exact ih4 _ _ _ _ _ _ _ _|exact zQ _|exact zN _|refine zP ?_ ?_|refine zO ?_ (fun _ => ?_))|refine zP ?_ ?_|refine zO ?_ (fun _ => ?_)
  ·
   intro y0 y1 y2 y3 y4 y5 y6 y7
   unfold F3.j2
   repeat' first|(with_reducible first|exact ih0 _ _ _|exact ih1 _ _ _ _ _|exact ih2 _ _ _ _ _ _ _ _|exact ih3 _ _ _ _ _ _ _ _|exact ih4 _ _ _ _ _ _ _ _|exact zQ _|exact zN _|refine zP ?_ ?_|refine zO ?_ (fun _ => ?_))|refine zP ?_ ?_|refine zO ?_ (fun _ => ?_)
  ·
   intro y0 y1 y2 y3 y4 y5 y6 y7
   unfold F3.l1
   repeat' first|(with_reducible first|exact ih0 _ _ _|exact ih1 _ _ _ _ _|exact ih2 _ _ _ _ _ _ _ _|exact ih3 _ _ _ _ _ _ _ _|exact ih4 _ _ _ _ _ _ _ _|exact zQ _|exact zN _|refine zP ?_ ?_|refine zO ?_ (fun _ => ?_))|refine zP ?_ ?_|refine zO ?_ (fun _ => ?_)
  intro y0 y1 y2 y3 y4 y5 y6 y7;unfold F3.l2
  repeat' first|(with_reducible first|exact ih0 _ _ _|exact ih1 _ _ _ _ _|exact ih2 _ _ _ _ _ _ _ _|exact ih3 _ _ _ _ _ _ _ _|exact ih4 _ _ _ _ _ _ _ _|exact zQ _|exact zN _|refine zP ?_ ?_|refine zO ?_ (fun _ => ?_))|refine zP ?_ ?_|refine zO ?_ (fun _ => ?_)
theorem F3.mono : ∀ a0 a1 k,LeO (F3.f k a0 a1) (F3.f (k + 1) a0 a1):=by
 intro a0 a1 k;obtain ⟨ih0,ih1,ih2,ih3,ih4⟩:=F3.mono_l k;unfold F3.f
 repeat' first|(with_reducible first|exact ih0 _ _ _|exact ih1 _ _ _ _ _|exact ih2 _ _ _ _ _ _ _ _|exact ih3 _ _ _ _ _ _ _ _|exact ih4 _ _ _ _ _ _ _ _|exact zQ _|exact zN _|refine zP ?_ ?_|refine zO ?_ (fun _ => ?_))|refine zP ?_ ?_|refine zO ?_ (fun _ => ?_)
def F3.T13 : Bool×List (List Nat×List Nat):=(true,[([],[]),([0],[0]),([],[]),([1,2],[1,2]),([3],[3]),([4],[4]),([],[]),([6],[6]),([5,7],[5,7])])
def F3.B13 : List Nat:=[0,1,0,7,15,31,0,64,255]
theorem F3.tab13 : rtab .any (opsOf Try.f28 13)=F3.T13:=by kernel_rfl
theorem F3.bits13 : waitsOk F3.T13.2 F3.B13=true:=by kernel_rfl
def F3.T18 : Bool×List (List Nat×List Nat):=(true,[([],[]),([0],[0]),([],[]),([1,2],[1,2]),([3],[3]),([4],[4]),([5],[5]),([6,5],[6]),([7],[7]),([7],[7]),([9,7],[7,9]),([7],[7]),([10,11,7],[7,10,11]),([12,7],[7,12]),([8,13,7,7],[7,8,13]),([14,7],[7,14]),([7,15],[7,15])])
def F3.B18 : List Nat:=[0,1,0,7,15,31,63,127,255,255,767,255,3839,7935,16383,32767,65535]
theorem F3.tab18 : rtab .any (opsOf Try.f28 18)=F3.T18:=by kernel_rfl
theorem F3.bits18 : waitsOk F3.T18.2 F3.B18=true:=by kernel_rfl
set_option maxHeartbeats 8000000 in
set_option maxRecDepth 100000 in
theorem F3.calls (k : Nat) (A0_0 : Option Addr) (c0_0 : Nat) (l0_0 : List (S67)) (a0_1 : Int) (r : Bool) (w : World) (hr0_0 : Kd.C k67 w A0_0 l0_0.length l0_0) (hc0_0 : l0_0.length≤c0_0) (h : F3.f k l0_0 a0_1=some r) :
  Calls Try.prog 28 #[.agg #[.slice A0_0 l0_0.length c0_0,.int .i64 a0_1]] w fun e w' => e = .returned (.bool r)∧Below w.heap.size w w':=by
 have hu35:=Try.underlying35;have hu51:=Try.underlying51;have hu67:=Try.underlying67;have HR0_0:=zh hr0_0;have HC0_0:=zh hc0_0;clear hr0_0 hc0_0;have HB:=zh (Below.refl w.heap.size w);have H : ((F01.f (l0_0.length : Int) 1 60).bind fun t116 => (if t116=true then ((F01.f a0_1 2 100000).bind fun t117 => (F3.j0 k (!t117) l0_0 a0_1)) else (F3.j0 k true l0_0 a0_1)))=some r:=h;clear h;have HC2:=zh H;clear H
 go_enter Try.func28,Try.ntmps28
 go_upto_region 1 with (first|((with_reducible refine zK (N:=1) rfl ?_);(try (refine yy (by rfl) ?_;dsimp only));refine zI ?hg (N:=1) ?hd (cs:=#[.slice A0_0 l0_0.length c0_0,.int .i64 a0_1]) (t:=35) ?hr ?_;(case hd|hg => rfl);(case hr => go_simp <;> rfl);intro gb115 hg w3 hbox hb;have BK115:=zh (hbox);have hH_:=cH (by repeat (with_reducible first|exact HB.out|apply za|apply zb|apply zc)) hb hg;have GW115:=zh hH_.1;have GE115:=GW115;replace HB:=zh hH_.2;clear hb hbox hg hH_))
 (try simp only [Act.put,zi,zj,zk])
 go_cut [18] (fun v18 wc => ∃ (kq : Nat) (x18_1 : Bool),v18 = .bool x18_1∧Aside0 (F3.j0 kq x18_1 l0_0 a0_1=some r)∧Aside0 (kq≤k)∧Aside0 (wc.heap[gb115]? = some (.cells #[(.slice A0_0 l0_0.length c0_0),.int .i64 a0_1] 35 (0,0)))∧Aside0 (Below w.heap.size w wc))
 case first =>
  have H:=HC2.out;clear HC2;replace H:=zT.mp H;obtain ⟨t116,A40,H⟩:=H;replace H : (if t116=true then ((F01.f a0_1 2 100000).bind fun t117 => (F3.j0 k (!t117) l0_0 a0_1)) else (F3.j0 k true l0_0 a0_1))=some r:=H;have A4:=zh A40;clear A40
  by_cases c5 : t116=true
  ·
   subst c5
   have H1 : ((F01.f a0_1 2 100000).bind fun t117 => (F3.j0 k (!t117) l0_0 a0_1))=some r:=by rw [if_pos rfl] at H;exact H
   clear H;have H:=H1;clear H1;replace H:=zT.mp H;obtain ⟨t117,A60,H⟩:=H;replace H : (F3.j0 k (!t117) l0_0 a0_1)=some r:=H;have A6:=zh A60;clear A60;have H':=zh H;clear H;obtain ⟨hcz7_0,hcz7_1,hfz7_0,hfz7_1⟩:=cB2 BK115.out
   go_wp2_with (first|((with_reducible refine zJ (f:=51) rfl ?_);refine yj (some 11) rfl rfl Try.func51 (by kernel_rfl) rfl #[.int .i64 (l0_0.length : Int),.int .i64 1,.int .i64 60] rfl (by (try simp only [zt,zu,zv]);first|done|rfl|(simp only [zw,zx];rfl)|(simp only [yr,ys,zV,zW];rfl)) ?_;(with_reducible refine (F01.calls  (l0_0.length : Int) 1 60 true _ A4.out).mono ?_);rintro e w' ⟨rfl,⟨nd,rfl⟩⟩;refine ⟨_,rfl,?_⟩)|(go_at_call 51;(with_reducible refine (F01.calls  a0_1 2 100000 t117 _ A6.out).mono ?_);rintro e w' ⟨rfl,⟨nd,rfl⟩⟩))
   go_meet
   case rel => exact ⟨_,(!t117),(by first|rfl|(simp;done)|(simp [*];done)),H',⟨by first|omega|exact ye _⟩,⟨by (with_reducible repeat first|apply ze|apply zf|apply zg);exact BK115.out⟩,⟨by repeat (with_reducible first|exact HB.out|apply za|apply zb|apply zc|refine zd ?_ GE115.out)⟩⟩
  replace c5:=yb.mpr c5;subst c5;have H1 : (F3.j0 k true l0_0 a0_1)=some r:=by rw [if_neg (show ¬ (false=true) by decide)] at H;exact H
  clear H;have H:=H1;clear H1;have H':=zh H;clear H;obtain ⟨hcz8_0,hcz8_1,hfz8_0,hfz8_1⟩:=cB2 BK115.out
  go_wp2_with (first|((with_reducible refine zJ (f:=51) rfl ?_);refine yj (some 11) rfl rfl Try.func51 (by kernel_rfl) rfl #[.int .i64 (l0_0.length : Int),.int .i64 1,.int .i64 60] rfl (by (try simp only [zt,zu,zv]);first|done|rfl|(simp only [zw,zx];rfl)|(simp only [yr,ys,zV,zW];rfl)) ?_;(with_reducible refine (F01.calls  (l0_0.length : Int) 1 60 false _ A4.out).mono ?_);rintro e w' ⟨rfl,⟨nd,rfl⟩⟩;refine ⟨_,rfl,?_⟩))
  go_meet
  case rel => exact ⟨_,(true),(by first|rfl|(simp;done)|(simp [*];done)),H',⟨by first|omega|exact ye _⟩,⟨by (with_reducible repeat first|apply ze|apply zf|apply zg);exact BK115.out⟩,⟨by repeat (with_reducible first|exact HB.out|apply za|apply zb|apply zc|refine zd ?_ GE115.out)⟩⟩
 case rest =>
  clear HC2
  try clear c2
  try clear p2
  try clear c5
  try clear hcz7_0 hcz7_1
  try clear hcz8_0 hcz8_1
  try clear hfz7_0 hfz7_1
  try clear hfz8_0 hfz8_1
  obtain ⟨kq,x18_1,rfl,HA,HJ1,BK115,HB⟩:=hcut
  cases kq with
  | zero => exact absurd HA.out (by simp [F3.j0])
  | succ kj1 =>
   have H:=HA.out;clear HA;simp only [F3.j0] at H
   by_cases c9 : x18_1=true
   ·
    subst c9
    have H1 : (some false)=some r:=by rw [if_pos rfl] at H;exact H
    clear H;have H:=H1;clear H1;obtain rfl:=zU H
    go_wp2
    go_ret
    exact ⟨by first|rfl|(simp [yt,yu] <;> rfl)|(simp [*,yt,yu] <;> rfl),by repeat (with_reducible first|exact HB.out|apply za|apply zb|apply zc|refine zd ?_ GE115.out)⟩
   replace c9:=yb.mpr c9;subst c9;have H1 : (F3.l0 kj1 0 l0_0 a0_1 (⟨#[]⟩ : ByteArray) (-1))=some r:=by rw [if_neg (show ¬ (false=true) by decide)] at H;exact H
   clear H;have H:=H1;clear H1;have H':=zh H;clear H
   go_wp2_with (first|((with_reducible refine zK (N:=3) rfl ?_);(try (refine yy (by rfl) ?_;dsimp only));refine zI ?hg (N:=3) ?hd (cs:=#[.string (⟨#[]⟩ : ByteArray),.int .i64 0]) (t:=51) ?hr ?_;(case hd|hg => rfl);(case hr => go_simp <;> rfl);intro gb118 hg w10 hbox hb;have BK118:=zh (hbox);have hH_:=cH (by repeat (with_reducible first|exact HB.out|apply za|apply zb|apply zc|refine zd ?_ GE115.out)) hb hg;have GW118:=zh hH_.1;have GE118:=GW118;replace HB:=zh hH_.2;have NB115_118:=zh ((by rw [hg];exact yc (yi (g:=gb115) (o:=.cells #[.slice A0_0 l0_0.length c0_0,.int .i64 a0_1] 35 (0,0)) (by (with_reducible repeat first|apply ze|apply zf|apply zg);exact BK115.out)) : gb115≠gb118));have NB118_115:=zh NB115_118.out.symm;replace BK115:=zh (cD BK115.out (by (with_reducible repeat first|apply ze|apply zf|apply zg);exact BK115.out) hb);clear hb hbox hg hH_;have hnb11:=NB118_115.out;have hnc11:=NB115_118.out;obtain ⟨hcz12_0,hcz12_1,hfz12_0,hfz12_1⟩:=cB2 BK118.out))
   go_loopg [4] kj1 (fun kq v4 w' => ∃ (x4_2 : Int) (x119000_2 : ByteArray) (x119001_2 : Int),v4 = .int .i64 x4_2∧Aside0 (F3.l0 kq x4_2 l0_0 a0_1 x119000_2 x119001_2=some r)∧Aside0 (kq≤kj1)∧Aside0 (w'.heap[gb115]? = some (.cells #[(.slice A0_0 l0_0.length c0_0),.int .i64 a0_1] 35 (0,0)))∧Aside0 (w'.heap[gb118]? = some (.cells #[.string x119000_2,.int .i64 x119001_2] 51 (0,0)))∧Aside0 (Below w.heap.size w w'))
   case atStart => exact ⟨(0),((⟨#[]⟩ : ByteArray)),((-1)),(by first|rfl|(simp;done)|(simp [*];done)),H',⟨ye _⟩,⟨by (with_reducible repeat first|apply ze|apply zf|apply zg);refine cS2 ?_ NB115_118.out;(with_reducible repeat first|apply ze|apply zf|apply zg);exact BK115.out⟩,⟨by (with_reducible repeat first|apply ze|apply zf|apply zg);refine zL (cs:=#[.string (⟨#[]⟩ : ByteArray),.int .i64 0]) ?_ 1 _ rfl;(with_reducible repeat first|apply ze|apply zf|apply zg);refine zL (cs:=#[.string (⟨#[]⟩ : ByteArray),.int .i64 0]) ?_ 0 _ rfl;(with_reducible repeat first|apply ze|apply zf|apply zg);exact BK118.out⟩,⟨by repeat (with_reducible first|exact HB.out|apply za|apply zb|apply zc|refine zd ?_ GE115.out|refine zd ?_ GE118.out)⟩⟩
   case round =>
    clear H'
    try clear c1 c2
    try clear p2
    try clear c5 c9 c11
    try clear hcz12_0 hcz12_1
    try clear hcz7_0 hcz7_1
    try clear hcz8_0 hcz8_1
    try clear hfz12_0 hfz12_1
    try clear hfz7_0 hfz7_1
    try clear hfz8_0 hfz8_1
    try clear p2
    obtain ⟨x4_2,x119000_2,x119001_2,rfl,HA,HK2,BK115,BK118,HB⟩:=hrel
    cases gk with
    | zero => exact absurd HA.out (by simp [F3.l0])
    | succ k2 =>
     have H:=HA.out;clear HA;simp only [F3.l0] at H
     by_cases c13 : x4_2<(l0_0.length : Int)
     ·
      rw [if_pos c13] at H
      have c13b0 : decide (x4_2<(l0_0.length : Int))=true:=decide_eq_true c13;clear c13
      by_cases c14 : 0≤x4_2
      ·
       rw [if_pos c14] at H
       have c14b0 : decide (0≤x4_2)=true:=decide_eq_true c14;clear c14;have HC15:=zh H;clear H;have hnb16:=NB115_118.out;have hnc16:=NB118_115.out;obtain ⟨hcz17_0,hcz17_1,hfz17_0,hfz17_1⟩:=cB2 BK115.out;have p119 : 0≤(x4_2 : Int):=zy (by first|(with_reducible assumption)|assumption);have q119 : x4_2<(l0_0.length : Int):=zy (by first|(with_reducible assumption)|assumption);obtain ⟨ad119,A119_1,c119_1,e119,hx119_0,hx119_1,hl119_1,hi119_1⟩:=at_T67 HR0_0.out x4_2 p119 q119
       cases e119
       replace hx119_0:=(HB.out.cell (zl w _ hx119_0)).trans hx119_0;replace hx119_1:=(HB.out.cell (zl w _ hx119_1)).trans hx119_1;have HR119_1:=zh hi119_1;have HC119_1:=zh hl119_1;clear hi119_1 hl119_1;replace p119:=eq_true p119;replace q119:=eq_true q119
       go_upto_region 8 with (first|((with_reducible refine zK (N:=5) rfl ?_);(try (refine yy (by rfl) ?_;dsimp only));refine zI ?hg (N:=5) ?hd (cs:=#[.int .i64 0,.slice none 0 0]) (t:=67) ?hr ?_;(case hd|hg => rfl);(case hr => go_simp <;> rfl);intro gb120 hg w18 hbox hb;have BK120:=zh (hbox);have hH_:=cH (by repeat (with_reducible first|exact HB.out|apply za|apply zb|apply zc|refine zd ?_ GE115.out|refine zd ?_ GE118.out)) hb hg;have GW120:=zh hH_.1;have GE120:=GW120;replace HB:=zh hH_.2;have NB115_120:=zh ((by rw [hg];exact yc (yi (g:=gb115) (o:=.cells #[.slice (some ad119) l0_0.length c0_0,.int .i64 a0_1] 35 (0,0)) (by (with_reducible repeat first|apply ze|apply zf|apply zg);exact BK115.out)) : gb115≠gb120));have NB120_115:=zh NB115_120.out.symm;replace BK115:=zh (cD BK115.out (by (with_reducible repeat first|apply ze|apply zf|apply zg);exact BK115.out) hb);have NB118_120:=zh ((by rw [hg];exact yc (yi (g:=gb118) (o:=.cells #[.string x119000_2,.int .i64 x119001_2] 51 (0,0)) (by (with_reducible repeat first|apply ze|apply zf|apply zg);exact BK118.out)) : gb118≠gb120));have NB120_118:=zh NB118_120.out.symm;replace BK118:=zh (cD BK118.out (by (with_reducible repeat first|apply ze|apply zf|apply zg);exact BK118.out) hb);clear hb hbox hg hH_;have hnb19:=NB120_115.out;have hnc19:=NB115_120.out;have hnb20:=NB120_118.out;have hnc20:=NB118_120.out;obtain ⟨hcz21_0,hcz21_1,hfz21_0,hfz21_1⟩:=cB2 BK120.out))
       (try simp only [Act.put,zi,zj,zk])
       go_cut [56] (fun v56 wc => ∃ (kq : Nat) (x56_14 : Bool),v56 = .bool x56_14∧Aside0 (F3.j2 kq x4_2 x56_14 l0_0 a0_1 x119000_2 x119001_2 ((rd_T67 l0_0 x4_2).f0) ((rd_T67 l0_0 x4_2).f1)=some r)∧Aside0 (kq≤k2)∧Aside0 (wc.heap[gb115]? = some (.cells #[(.slice (some ad119) l0_0.length c0_0),.int .i64 a0_1] 35 (0,0)))∧Aside0 (wc.heap[gb118]? = some (.cells #[.string x119000_2,.int .i64 x119001_2] 51 (0,0)))∧Aside0 (wc.heap[gb120]? = some (.cells #[.int .i64 ((rd_T67 l0_0 x4_2).f0),(.slice A119_1 ((rd_T67 l0_0 x4_2).f1).length c119_1)] 67 (0,0)))∧Aside0 (Below w.heap.size w wc))
       case first =>
        have H:=HC15.out;clear HC15;replace H:=zT.mp H;obtain ⟨t121,A220,H⟩:=H;replace H : (if t121=true then (if (((rd_T67 l0_0 x4_2).f1).length : Int) > 4 then (F3.j2 k2 x4_2 true l0_0 a0_1 x119000_2 x119001_2 ((rd_T67 l0_0 x4_2).f0) ((rd_T67 l0_0 x4_2).f1)) else (if (((rd_T67 l0_0 x4_2).f1).length : Int)=0 then (F3.j2 k2 x4_2 (decide ((l0_0.length : Int) > 1)) l0_0 a0_1 x119000_2 x119001_2 ((rd_T67 l0_0 x4_2).f0) ((rd_T67 l0_0 x4_2).f1)) else (F3.j2 k2 x4_2 false l0_0 a0_1 x119000_2 x119001_2 ((rd_T67 l0_0 x4_2).f0) ((rd_T67 l0_0 x4_2).f1)))) else (F3.j2 k2 x4_2 true l0_0 a0_1 x119000_2 x119001_2 ((rd_T67 l0_0 x4_2).f0) ((rd_T67 l0_0 x4_2).f1)))=some r:=H;have A22:=zh A220;clear A220
        by_cases c23 : t121=true
        ·
         subst c23
         have H1 : (if (((rd_T67 l0_0 x4_2).f1).length : Int) > 4 then (F3.j2 k2 x4_2 true l0_0 a0_1 x119000_2 x119001_2 ((rd_T67 l0_0 x4_2).f0) ((rd_T67 l0_0 x4_2).f1)) else (if (((rd_T67 l0_0 x4_2).f1).length : Int)=0 then (F3.j2 k2 x4_2 (decide ((l0_0.length : Int) > 1)) l0_0 a0_1 x119000_2 x119001_2 ((rd_T67 l0_0 x4_2).f0) ((rd_T67 l0_0 x4_2).f1)) else (F3.j2 k2 x4_2 false l0_0 a0_1 x119000_2 x119001_2 ((rd_T67 l0_0 x4_2).f0) ((rd_T67 l0_0 x4_2).f1))))=some r:=by rw [if_pos rfl] at H;exact H
         clear H;have H:=H1;clear H1
         by_cases c24 : (((rd_T67 l0_0 x4_2).f1).length : Int) > 4
         ·
          rw [if_pos c24] at H
          have c24b0 : decide (4<(((rd_T67 l0_0 x4_2).f1).length : Int))=true:=decide_eq_true c24;have c24b1 : decide (4<((rd_T67 l0_0 x4_2).f1).length)=true:=decide_eq_true (by omega);clear c24;(first|rw [c24b0]|(simp only [zG,zH];rw [c24b0])|skip);have H':=zh H;clear H;have hnb25:=NB120_115.out;have hnc25:=NB115_120.out;have hnb26:=NB120_118.out;have hnc26:=NB118_120.out;obtain ⟨hcz27_0,hcz27_1,hfz27_0,hfz27_1⟩:=cB2 BK120.out;have hnb28:=NB115_118.out;have hnc28:=NB118_115.out;obtain ⟨hcz29_0,hcz29_1,hfz29_0,hfz29_1⟩:=cB2 BK115.out
          go_wp2_with (first|((with_reducible refine zJ (f:=51) rfl ?_);refine yj (some 37) rfl rfl Try.func51 (by kernel_rfl) rfl #[.int .i64 ((rd_T67 l0_0 x4_2).f0),.int .i64 1,.int .i64 (wrap64 (a0_1 - 1))] rfl (by (try simp only [zt,zu,zv]);first|done|rfl|(simp only [zw,zx];rfl)|(simp only [yr,ys,zV,zW];rfl)) ?_;(with_reducible refine (F01.calls  ((rd_T67 l0_0 x4_2).f0) 1 (wrap64 (a0_1 - 1)) true _ A22.out).mono ?_);rintro e w' ⟨rfl,⟨nd,rfl⟩⟩;refine ⟨_,rfl,?_⟩))
          go_meet
          case rel => exact ⟨_,(true),(by first|rfl|(simp;done)|(simp [*];done)),H',⟨by have:=HJ1.out;have:=HK2.out;first|omega|exact ye _⟩,⟨by (with_reducible repeat first|apply ze|apply zf|apply zg);refine cS2 ?_ NB115_120.out;(with_reducible repeat first|apply ze|apply zf|apply zg);exact BK115.out⟩,⟨by (with_reducible repeat first|apply ze|apply zf|apply zg);refine cS2 ?_ NB118_120.out;(with_reducible repeat first|apply ze|apply zf|apply zg);exact BK118.out⟩,⟨by (with_reducible repeat first|apply ze|apply zf|apply zg);refine zL (cs:=#[.int .i64 ((rd_T67 l0_0 x4_2).f0),.slice none 0 0]) ?_ 1 _ rfl;(with_reducible repeat first|apply ze|apply zf|apply zg);refine zL (cs:=#[.int .i64 0,.slice none 0 0]) ?_ 0 _ rfl;(with_reducible repeat first|apply ze|apply zf|apply zg);exact BK120.out⟩,⟨by repeat (with_reducible first|exact HB.out|apply za|apply zb|apply zc|refine zd ?_ GE115.out|refine zd ?_ GE118.out|refine zd ?_ GE120.out)⟩⟩
         rw [if_neg c24] at H;have c24b0 : decide (4<(((rd_T67 l0_0 x4_2).f1).length : Int))=false:=decide_eq_false c24;have c24b1 : decide (4<((rd_T67 l0_0 x4_2).f1).length)=false:=decide_eq_false (by omega);clear c24;(first|rw [c24b0]|(simp only [zG,zH];rw [c24b0])|skip)
         by_cases c30 : (((rd_T67 l0_0 x4_2).f1).length : Int)=0
         ·
          rw [if_pos c30] at H
          have c30b0 : ((((rd_T67 l0_0 x4_2).f1).length : Int) == 0)=true:=ya.mpr c30;have c30b1 : ((((rd_T67 l0_0 x4_2).f1).length : Int) != 0)=false:=zX.mpr c30;clear c30;have H':=zh H;clear H;have hnb31:=NB120_115.out;have hnc31:=NB115_120.out;have hnb32:=NB120_118.out;have hnc32:=NB118_120.out;obtain ⟨hcz33_0,hcz33_1,hfz33_0,hfz33_1⟩:=cB2 BK120.out;have hnb34:=NB115_118.out;have hnc34:=NB118_115.out;obtain ⟨hcz35_0,hcz35_1,hfz35_0,hfz35_1⟩:=cB2 BK115.out
          go_wp2_with (first|((with_reducible refine zJ (f:=51) rfl ?_);refine yj (some 37) rfl rfl Try.func51 (by kernel_rfl) rfl #[.int .i64 ((rd_T67 l0_0 x4_2).f0),.int .i64 1,.int .i64 (wrap64 (a0_1 - 1))] rfl (by (try simp only [zt,zu,zv]);first|done|rfl|(simp only [zw,zx];rfl)|(simp only [yr,ys,zV,zW];rfl)) ?_;(with_reducible refine (F01.calls  ((rd_T67 l0_0 x4_2).f0) 1 (wrap64 (a0_1 - 1)) true _ A22.out).mono ?_);rintro e w' ⟨rfl,⟨nd,rfl⟩⟩;refine ⟨_,rfl,?_⟩))
          go_meet
          case rel => exact ⟨_,(decide ((l0_0.length : Int) > 1)),(by first|rfl|(simp;done)|(simp [*];done)),H',⟨by have:=HJ1.out;have:=HK2.out;first|omega|exact ye _⟩,⟨by (with_reducible repeat first|apply ze|apply zf|apply zg);refine cS2 ?_ NB115_120.out;(with_reducible repeat first|apply ze|apply zf|apply zg);exact BK115.out⟩,⟨by (with_reducible repeat first|apply ze|apply zf|apply zg);refine cS2 ?_ NB118_120.out;(with_reducible repeat first|apply ze|apply zf|apply zg);exact BK118.out⟩,⟨by (with_reducible repeat first|apply ze|apply zf|apply zg);refine zL (cs:=#[.int .i64 ((rd_T67 l0_0 x4_2).f0),.slice none 0 0]) ?_ 1 _ rfl;(with_reducible repeat first|apply ze|apply zf|apply zg);refine zL (cs:=#[.int .i64 0,.slice none 0 0]) ?_ 0 _ rfl;(with_reducible repeat first|apply ze|apply zf|apply zg);exact BK120.out⟩,⟨by repeat (with_reducible first|exact HB.out|apply za|apply zb|apply zc|refine zd ?_ GE115.out|refine zd ?_ GE118.out|refine zd ?_ GE120.out)⟩⟩
         rw [if_neg c30] at H;have c30b0 : ((((rd_T67 l0_0 x4_2).f1).length : Int) == 0)=false:=zY.mpr c30;have c30b1 : ((((rd_T67 l0_0 x4_2).f1).length : Int) != 0)=true:=zZ.mpr c30;have c30b2 : ¬ (((rd_T67 l0_0 x4_2).f1)=[]):=fun h_ => c30 (by rw [h_];rfl);have H':=zh H;clear H;have hnb36:=NB120_115.out;have hnc36:=NB115_120.out;have hnb37:=NB120_118.out;have hnc37:=NB118_120.out;obtain ⟨hcz38_0,hcz38_1,hfz38_0,hfz38_1⟩:=cB2 BK120.out;have hnb39:=NB115_118.out;have hnc39:=NB118_115.out;obtain ⟨hcz40_0,hcz40_1,hfz40_0,hfz40_1⟩:=cB2 BK115.out
         go_wp2_with (first|((with_reducible refine zJ (f:=51) rfl ?_);refine yj (some 37) rfl rfl Try.func51 (by kernel_rfl) rfl #[.int .i64 ((rd_T67 l0_0 x4_2).f0),.int .i64 1,.int .i64 (wrap64 (a0_1 - 1))] rfl (by (try simp only [zt,zu,zv]);first|done|rfl|(simp only [zw,zx];rfl)|(simp only [yr,ys,zV,zW];rfl)) ?_;(with_reducible refine (F01.calls  ((rd_T67 l0_0 x4_2).f0) 1 (wrap64 (a0_1 - 1)) true _ A22.out).mono ?_);rintro e w' ⟨rfl,⟨nd,rfl⟩⟩;refine ⟨_,rfl,?_⟩))
         go_meet
         case rel => exact ⟨_,(false),(by first|rfl|(simp;done)|(simp [*];done)),H',⟨by have:=HJ1.out;have:=HK2.out;first|omega|exact ye _⟩,⟨by (with_reducible repeat first|apply ze|apply zf|apply zg);refine cS2 ?_ NB115_120.out;(with_reducible repeat first|apply ze|apply zf|apply zg);exact BK115.out⟩,⟨by (with_reducible repeat first|apply ze|apply zf|apply zg);refine cS2 ?_ NB118_120.out;(with_reducible repeat first|apply ze|apply zf|apply zg);exact BK118.out⟩,⟨by (with_reducible repeat first|apply ze|apply zf|apply zg);refine zL (cs:=#[.int .i64 ((rd_T67 l0_0 x4_2).f0),.slice none 0 0]) ?_ 1 _ rfl;(with_reducible repeat first|apply ze|apply zf|apply zg);refine zL (cs:=#[.int .i64 0,.slice none 0 0]) ?_ 0 _ rfl;(with_reducible repeat first|apply ze|apply zf|apply zg);exact BK120.out⟩,⟨by repeat (with_reducible first|exact HB.out|apply za|apply zb|apply zc|refine zd ?_ GE115.out|refine zd ?_ GE118.out|refine zd ?_ GE120.out)⟩⟩
        replace c23:=yb.mpr c23;subst c23;have H1 : (F3.j2 k2 x4_2 true l0_0 a0_1 x119000_2 x119001_2 ((rd_T67 l0_0 x4_2).f0) ((rd_T67 l0_0 x4_2).f1))=some r:=by rw [if_neg (show ¬ (false=true) by decide)] at H;exact H
        clear H;have H:=H1;clear H1;have H':=zh H;clear H;have hnb41:=NB120_115.out;have hnc41:=NB115_120.out;have hnb42:=NB120_118.out;have hnc42:=NB118_120.out;obtain ⟨hcz43_0,hcz43_1,hfz43_0,hfz43_1⟩:=cB2 BK120.out;have hnb44:=NB115_118.out;have hnc44:=NB118_115.out;obtain ⟨hcz45_0,hcz45_1,hfz45_0,hfz45_1⟩:=cB2 BK115.out
        go_wp2_with (first|((with_reducible refine zJ (f:=51) rfl ?_);refine yj (some 37) rfl rfl Try.func51 (by kernel_rfl) rfl #[.int .i64 ((rd_T67 l0_0 x4_2).f0),.int .i64 1,.int .i64 (wrap64 (a0_1 - 1))] rfl (by (try simp only [zt,zu,zv]);first|done|rfl|(simp only [zw,zx];rfl)|(simp only [yr,ys,zV,zW];rfl)) ?_;(with_reducible refine (F01.calls  ((rd_T67 l0_0 x4_2).f0) 1 (wrap64 (a0_1 - 1)) false _ A22.out).mono ?_);rintro e w' ⟨rfl,⟨nd,rfl⟩⟩;refine ⟨_,rfl,?_⟩))
        go_meet
        case rel => exact ⟨_,(true),(by first|rfl|(simp;done)|(simp [*];done)),H',⟨by have:=HJ1.out;have:=HK2.out;first|omega|exact ye _⟩,⟨by (with_reducible repeat first|apply ze|apply zf|apply zg);refine cS2 ?_ NB115_120.out;(with_reducible repeat first|apply ze|apply zf|apply zg);exact BK115.out⟩,⟨by (with_reducible repeat first|apply ze|apply zf|apply zg);refine cS2 ?_ NB118_120.out;(with_reducible repeat first|apply ze|apply zf|apply zg);exact BK118.out⟩,⟨by (with_reducible repeat first|apply ze|apply zf|apply zg);refine zL (cs:=#[.int .i64 ((rd_T67 l0_0 x4_2).f0),.slice none 0 0]) ?_ 1 _ rfl;(with_reducible repeat first|apply ze|apply zf|apply zg);refine zL (cs:=#[.int .i64 0,.slice none 0 0]) ?_ 0 _ rfl;(with_reducible repeat first|apply ze|apply zf|apply zg);exact BK120.out⟩,⟨by repeat (with_reducible first|exact HB.out|apply za|apply zb|apply zc|refine zd ?_ GE115.out|refine zd ?_ GE118.out|refine zd ?_ GE120.out)⟩⟩
       case rest =>
        clear HC15
        try clear c1
        try clear p1
        try clear q1
        try clear hx1
        try clear c2
        try clear p2
        try clear c3 c4 c5
        try clear p6
        try clear c9 c11
        try clear p11
        try clear q11
        try clear hx11
        try clear c13 c13b0 c14 c14b0 c16 c19 c20 c23 c24 c24b0 c24b1 c25 c26 c28 c30 c30b0 c30b1 c30b2 c31 c32 c34 c36 c37 c39 c41 c42 c44
        try clear hcz12_0 hcz12_1
        try clear hcz17_0 hcz17_1
        try clear hcz21_0 hcz21_1
        try clear hcz27_0 hcz27_1
        try clear hcz29_0 hcz29_1
        try clear hcz33_0 hcz33_1
        try clear hcz35_0 hcz35_1
        try clear hcz38_0 hcz38_1
        try clear hcz40_0 hcz40_1
        try clear hcz43_0 hcz43_1
        try clear hcz45_0 hcz45_1
        try clear hcz7_0 hcz7_1
        try clear hcz8_0 hcz8_1
        try clear hfz12_0 hfz12_1
        try clear hfz17_0 hfz17_1
        try clear hfz21_0 hfz21_1
        try clear hfz27_0 hfz27_1
        try clear hfz29_0 hfz29_1
        try clear hfz33_0 hfz33_1
        try clear hfz35_0 hfz35_1
        try clear hfz38_0 hfz38_1
        try clear hfz40_0 hfz40_1
        try clear hfz43_0 hfz43_1
        try clear hfz45_0 hfz45_1
        try clear hfz7_0 hfz7_1
        try clear hfz8_0 hfz8_1
        try clear hx119_0
        try clear hx119_1
        try clear p119
        try clear p2
        try clear q119
        obtain ⟨kq,x56_14,rfl,HA,HJ14,BK115,BK118,BK120,HB⟩:=hcut
        cases kq with
        | zero => exact absurd HA.out (by simp [F3.j2])
        | succ kj14 =>
         have H:=HA.out;clear HA;simp only [F3.j2] at H
         by_cases c46 : x56_14=true
         ·
          subst c46
          have H1 : (some false)=some r:=by rw [if_pos rfl] at H;exact H
          clear H;have H:=H1;clear H1;obtain rfl:=zU H
          go_wp2
          go_ret
          exact ⟨by first|rfl|(simp [yt,yu] <;> rfl)|(simp [*,yt,yu] <;> rfl),by repeat (with_reducible first|exact HB.out|apply za|apply zb|apply zc|refine zd ?_ GE115.out|refine zd ?_ GE118.out|refine zd ?_ GE120.out)⟩
         replace c46:=yb.mpr c46;subst c46;have H1 : (F3.l1 kj14 x4_2 0 l0_0 a0_1 x119000_2 x119001_2 ((rd_T67 l0_0 x4_2).f0) ((rd_T67 l0_0 x4_2).f1))=some r:=by rw [if_neg (show ¬ (false=true) by decide)] at H;exact H
         clear H;have H:=H1;clear H1;have H':=zh H;clear H
         go_wp2
         go_loopg [6] kj14 (fun kq v6 w' => ∃ (x6_4 : Int),v6 = .int .i64 x6_4∧Aside0 (F3.l1 kq x4_2 x6_4 l0_0 a0_1 x119000_2 x119001_2 ((rd_T67 l0_0 x4_2).f0) ((rd_T67 l0_0 x4_2).f1)=some r)∧Aside0 (kq≤kj14)∧Aside0 (w'.heap[gb115]? = some (.cells #[(.slice (some ad119) l0_0.length c0_0),.int .i64 a0_1] 35 (0,0)))∧Aside0 (w'.heap[gb118]? = some (.cells #[.string x119000_2,.int .i64 x119001_2] 51 (0,0)))∧Aside0 (w'.heap[gb120]? = some (.cells #[.int .i64 ((rd_T67 l0_0 x4_2).f0),(.slice A119_1 ((rd_T67 l0_0 x4_2).f1).length c119_1)] 67 (0,0)))∧Aside0 (Below w.heap.size w w'))
         case atStart => exact ⟨(0),(by first|rfl|(simp;done)|(simp [*];done)),H',⟨ye _⟩,⟨by (with_reducible repeat first|apply ze|apply zf|apply zg);exact BK115.out⟩,⟨by (with_reducible repeat first|apply ze|apply zf|apply zg);exact BK118.out⟩,⟨by (with_reducible repeat first|apply ze|apply zf|apply zg);exact BK120.out⟩,⟨by repeat (with_reducible first|exact HB.out|apply za|apply zb|apply zc|refine zd ?_ GE115.out|refine zd ?_ GE118.out|refine zd ?_ GE120.out)⟩⟩
         case round =>
          clear H'
          try clear c1
          try clear p1
          try clear q1
          try clear hx1
          try clear c2
          try clear p2
          try clear c3 c4 c5
          try clear p6
          try clear c9 c11
          try clear p11
          try clear q11
          try clear hx11
          try clear c13 c13b0 c14 c14b0 c16 c19 c20 c23 c24 c24b0 c24b1 c25 c26 c28 c30 c30b0 c30b1 c30b2 c31 c32 c34 c36 c37 c39 c41 c42 c44 c46
          try clear hcz12_0 hcz12_1
          try clear hcz17_0 hcz17_1
          try clear hcz21_0 hcz21_1
          try clear hcz27_0 hcz27_1
          try clear hcz29_0 hcz29_1
          try clear hcz33_0 hcz33_1
          try clear hcz35_0 hcz35_1
          try clear hcz38_0 hcz38_1
          try clear hcz40_0 hcz40_1
          try clear hcz43_0 hcz43_1
          try clear hcz45_0 hcz45_1
          try clear hcz7_0 hcz7_1
          try clear hcz8_0 hcz8_1
          try clear hfz12_0 hfz12_1
          try clear hfz17_0 hfz17_1
          try clear hfz21_0 hfz21_1
          try clear hfz27_0 hfz27_1
          try clear hfz29_0 hfz29_1
          try clear hfz33_0 hfz33_1
          try clear hfz35_0 hfz35_1
          try clear hfz38_0 hfz38_1
          try clear hfz40_0 hfz40_1
          try clear hfz43_0 hfz43_1
          try clear hfz45_0 hfz45_1
          try clear hfz7_0 hfz7_1
          try clear hfz8_0 hfz8_1
          try clear hx119_0
          try clear hx119_1
          try clear p1
          try clear p11
          try clear p119
          try clear p2
          try clear p6
          try clear q1
          try clear q11
          try clear q119
          obtain ⟨x6_4,rfl,HA,HK4,BK115,BK118,BK120,HB⟩:=hrel
          cases gk with
          | zero => exact absurd HA.out (by simp [F3.l1])
          | succ k4 =>
           have H:=HA.out;clear HA;simp only [F3.l1] at H
           by_cases c47 : x6_4<x4_2
           ·
            rw [if_pos c47] at H
            have c47b0 : decide (x6_4<x4_2)=true:=decide_eq_true c47;clear c47
            by_cases c48 : 0≤x6_4
            ·
             rw [if_pos c48] at H
             have c48b0 : decide (0≤x6_4)=true:=decide_eq_true c48;clear c48
             by_cases c49 : x6_4<(l0_0.length : Int)
             ·
              rw [if_pos c49] at H
              have c49b0 : decide (x6_4<(l0_0.length : Int))=true:=decide_eq_true c49;clear c49
              by_cases c50 : ((rd_T67 l0_0 x6_4).f0)=((rd_T67 l0_0 x4_2).f0)
              ·
               rw [if_pos c50] at H
               have c50b0 : (((rd_T67 l0_0 x6_4).f0) == ((rd_T67 l0_0 x4_2).f0))=true:=ya.mpr c50;have c50b1 : (((rd_T67 l0_0 x6_4).f0) != ((rd_T67 l0_0 x4_2).f0))=false:=zX.mpr c50;clear c50;obtain rfl:=zU H
               try go_wp2
               replace BK115:=zh (zf BK115.out);replace BK118:=zh (zf BK118.out);replace BK120:=zh (zf BK120.out);replace HB:=zh (zc HB.out);have p122 : 0≤(x6_4 : Int):=zy (by first|(with_reducible assumption)|assumption);have q122 : x6_4<(l0_0.length : Int):=zy (by first|(with_reducible assumption)|assumption);obtain ⟨ad122,A122_1,c122_1,e122,hx122_0,hx122_1,hl122_1,hi122_1⟩:=at_T67 HR0_0.out x6_4 p122 q122;have hw122_1:=hx122_1;have hw122_0:=hx122_0;obtain rfl : ad119=ad122:=(by injection e122);replace hx122_0:=(HB.out.cell (zl w _ hx122_0)).trans hx122_0;replace hx122_1:=(HB.out.cell (zl w _ hx122_1)).trans hx122_1;have HR122_1:=zh hi122_1;have HC122_1:=zh hl122_1;clear hi122_1 hl122_1;replace p122:=eq_true p122;replace q122:=eq_true q122;refine start_ (n:=9) (S:=fun w' => w'.cell? ⟨gb115,0,none⟩=some (.slice (some ad119) l0_0.length c0_0)∧w'.cell? ⟨gb115,1,none⟩=some (.int .i64 a0_1)∧w'.cell? ⟨gb120,0,none⟩=some (.int .i64 ((rd_T67 l0_0 x4_2).f0))∧w'.cell? ⟨gb120,1,none⟩=some (.slice A119_1 ((rd_T67 l0_0 x4_2).f1).length c119_1)∧w'.cell? (ad119.add ((x6_4).toNat * 2))=some (.int .i64 ((rd_T67 l0_0 x6_4).f0))∧w'.cell? ⟨(ad119.add ((x6_4).toNat * 2)).block,(ad119.add ((x6_4).toNat * 2)).off + 1,none⟩=some (.slice A122_1 ((rd_T67 l0_0 x6_4).f1).length c122_1)) (ds:=[]) (bm_ 0 9) (by kernel_rfl) rfl rfl ⟨(zz BK115.out 0).trans rfl,(zz BK115.out 1).trans rfl,(zz BK120.out 0).trans rfl,(zz BK120.out 1).trans rfl,((HB.out.cell (zl w _ hw122_0)).trans hw122_0),((HB.out.cell (zl w _ hw122_1)).trans hw122_1)⟩ (fun hHeld => ?_);refine with_tabW F3.tab13 F3.bits13 (fun HT_ HW_ => ?_);generalize wr.drew=w51 at BK115 BK118 BK120 HB HR122_1 hx122_0 hx122_1 hHeld ⊢;refine pure_ (i:=0) (N:=some 62) (v:=?_) (a':=?_) (bm_ 1 9) rfl rfl (any_of HT_.out (by kernel_rfl)) (fun _ _ _ h => h) (Or.inl ⟨by rfl,?_⟩) ?_ ?_;rotate_left
               ·
                intro w'
                go_simp
                with_reducible rfl
               rotate_left
               ·
                simp only [Act.put,zi,zj,zk,zG,zH]
                rfl
               refine pure_ (i:=2) (N:=some 64) (v:=?_) (a':=?_) #[true,false,true,false,false,false,false,false,false] rfl rfl (any_of HT_.out (by kernel_rfl)) (fun _ _ _ h => h) (Or.inl ⟨by rfl,?_⟩) ?_ ?_;rotate_left
               ·
                intro w'
                go_simp
                with_reducible rfl
               rotate_left
               ·
                simp only [Act.put,zi,zj,zk,zG,zH]
                rfl
               refine pure_ (i:=6) (N:=some 68) (v:=?_) (a':=?_) #[true,false,true,false,false,false,true,false,false] rfl rfl (any_of HT_.out (by kernel_rfl)) (fun _ _ _ h => h) (Or.inl ⟨by rfl,?_⟩) ?_ ?_;rotate_left
               ·
                intro w'
                go_simp
                with_reducible rfl
               rotate_left
               ·
                simp only [Act.put,zi,zj,zk,zG,zH]
                rfl
               refine take_ (i:=1) (N:=some 63) (v:=?_) (a':=?_) #[true,true,true,false,false,false,true,false,false] rfl rfl (yo HT_.out HW_.out (by kernel_rfl)) (fun _ _ _ h => h) (Or.inl ⟨by rfl,?_⟩) hHeld ?_ ?_;rotate_left
               ·
                rintro w' ⟨s0,s1,s2,s3,s4,s5⟩
                go_simp
                with_reducible rfl
               rotate_left
               ·
                simp only [Act.put,zi,zj,zk,zG,zH]
                rfl
               refine pure_ (i:=3) (N:=some 65) (v:=?_) (a':=?_) #[true,true,true,true,false,false,true,false,false] rfl rfl (any_of HT_.out (by kernel_rfl)) (fun _ _ _ h => h) (Or.inl ⟨by rfl,?_⟩) ?_ ?_;rotate_left
               ·
                intro w'
                go_simp
                with_reducible rfl
               rotate_left
               ·
                simp only [Act.put,zi,zj,zk,zG,zH]
                rfl
               refine pure_ (i:=4) (N:=some 66) (v:=?_) (a':=?_) #[true,true,true,true,true,false,true,false,false] rfl rfl (any_of HT_.out (by kernel_rfl)) (fun _ _ _ h => h) (Or.inl ⟨by rfl,?_⟩) ?_ ?_;rotate_left
               ·
                intro w'
                go_simp
                with_reducible rfl
               rotate_left
               ·
                simp only [Act.put,zi,zj,zk,zG,zH]
                rfl
               refine take_ (i:=5) (N:=some 67) (v:=?_) (a':=?_) (bm_ 7 9) rfl rfl (yo HT_.out HW_.out (by kernel_rfl)) (fun _ _ _ h => h) (Or.inl ⟨by rfl,?_⟩) hHeld ?_ ?_;rotate_left
               ·
                rintro w' ⟨s0,s1,s2,s3,s4,s5⟩
                go_simp
                with_reducible rfl
               rotate_left
               ·
                simp only [Act.put,zi,zj,zk,zG,zH]
                rfl
               refine take_ (i:=7) (N:=some 69) (v:=?_) (a':=?_) (bm_ 8 9) rfl rfl (yo HT_.out HW_.out (by kernel_rfl)) (fun _ _ _ h => h) (Or.inl ⟨by rfl,?_⟩) hHeld ?_ ?_;rotate_left
               ·
                rintro w' ⟨s0,s1,s2,s3,s4,s5⟩
                go_simp
                with_reducible rfl
               rotate_left
               ·
                simp only [Act.put,zi,zj,zk,zG,zH]
                rfl
               refine pure_ (i:=8) (N:=some 70) (v:=?_) (a':=?_) (bm_ 9 9) rfl rfl (any_of HT_.out (by kernel_rfl)) (fun _ _ _ h => h) (Or.inl ⟨by rfl,?_⟩) ?_ ?_;rotate_left
               ·
                intro w'
                go_simp
                with_reducible rfl
               rotate_left
               ·
                simp only [Act.put,zi,zj,zk,zG,zH]
                rfl
               refine done_ (done_of HT_.out (by kernel_rfl)) ?_
               try go_wp2
               go_ret
               exact ⟨by first|rfl|(simp [yt,yu] <;> rfl)|(simp [*,yt,yu] <;> rfl),by repeat (with_reducible first|exact HB.out|apply za|apply zb|apply zc|refine zd ?_ GE115.out|refine zd ?_ GE118.out|refine zd ?_ GE120.out)⟩
              rw [if_neg c50] at H;have c50b0 : (((rd_T67 l0_0 x6_4).f0) == ((rd_T67 l0_0 x4_2).f0))=false:=zY.mpr c50;have c50b1 : (((rd_T67 l0_0 x6_4).f0) != ((rd_T67 l0_0 x4_2).f0))=true:=zZ.mpr c50;have H':=zh H;clear H
              try go_wp2
              replace BK115:=zh (zf BK115.out);replace BK118:=zh (zf BK118.out);replace BK120:=zh (zf BK120.out);replace HB:=zh (zc HB.out);have p122 : 0≤(x6_4 : Int):=zy (by first|(with_reducible assumption)|assumption);have q122 : x6_4<(l0_0.length : Int):=zy (by first|(with_reducible assumption)|assumption);obtain ⟨ad122,A122_1,c122_1,e122,hx122_0,hx122_1,hl122_1,hi122_1⟩:=at_T67 HR0_0.out x6_4 p122 q122;have hw122_1:=hx122_1;have hw122_0:=hx122_0;obtain rfl : ad119=ad122:=(by injection e122);replace hx122_0:=(HB.out.cell (zl w _ hx122_0)).trans hx122_0;replace hx122_1:=(HB.out.cell (zl w _ hx122_1)).trans hx122_1;have HR122_1:=zh hi122_1;have HC122_1:=zh hl122_1;clear hi122_1 hl122_1;replace p122:=eq_true p122;replace q122:=eq_true q122;refine start_ (n:=9) (S:=fun w' => w'.cell? ⟨gb115,0,none⟩=some (.slice (some ad119) l0_0.length c0_0)∧w'.cell? ⟨gb115,1,none⟩=some (.int .i64 a0_1)∧w'.cell? ⟨gb120,0,none⟩=some (.int .i64 ((rd_T67 l0_0 x4_2).f0))∧w'.cell? ⟨gb120,1,none⟩=some (.slice A119_1 ((rd_T67 l0_0 x4_2).f1).length c119_1)∧w'.cell? (ad119.add ((x6_4).toNat * 2))=some (.int .i64 ((rd_T67 l0_0 x6_4).f0))∧w'.cell? ⟨(ad119.add ((x6_4).toNat * 2)).block,(ad119.add ((x6_4).toNat * 2)).off + 1,none⟩=some (.slice A122_1 ((rd_T67 l0_0 x6_4).f1).length c122_1)) (ds:=[]) (bm_ 0 9) (by kernel_rfl) rfl rfl ⟨(zz BK115.out 0).trans rfl,(zz BK115.out 1).trans rfl,(zz BK120.out 0).trans rfl,(zz BK120.out 1).trans rfl,((HB.out.cell (zl w _ hw122_0)).trans hw122_0),((HB.out.cell (zl w _ hw122_1)).trans hw122_1)⟩ (fun hHeld => ?_);refine with_tabW F3.tab13 F3.bits13 (fun HT_ HW_ => ?_);generalize wr.drew=w52 at BK115 BK118 BK120 HB HR122_1 hx122_0 hx122_1 hHeld ⊢;refine pure_ (i:=0) (N:=some 62) (v:=?_) (a':=?_) (bm_ 1 9) rfl rfl (any_of HT_.out (by kernel_rfl)) (fun _ _ _ h => h) (Or.inl ⟨by rfl,?_⟩) ?_ ?_;rotate_left
              ·
               intro w'
               go_simp
               with_reducible rfl
              rotate_left
              ·
               simp only [Act.put,zi,zj,zk,zG,zH]
               rfl
              refine pure_ (i:=2) (N:=some 64) (v:=?_) (a':=?_) #[true,false,true,false,false,false,false,false,false] rfl rfl (any_of HT_.out (by kernel_rfl)) (fun _ _ _ h => h) (Or.inl ⟨by rfl,?_⟩) ?_ ?_;rotate_left
              ·
               intro w'
               go_simp
               with_reducible rfl
              rotate_left
              ·
               simp only [Act.put,zi,zj,zk,zG,zH]
               rfl
              refine pure_ (i:=6) (N:=some 68) (v:=?_) (a':=?_) #[true,false,true,false,false,false,true,false,false] rfl rfl (any_of HT_.out (by kernel_rfl)) (fun _ _ _ h => h) (Or.inl ⟨by rfl,?_⟩) ?_ ?_;rotate_left
              ·
               intro w'
               go_simp
               with_reducible rfl
              rotate_left
              ·
               simp only [Act.put,zi,zj,zk,zG,zH]
               rfl
              refine take_ (i:=1) (N:=some 63) (v:=?_) (a':=?_) #[true,true,true,false,false,false,true,false,false] rfl rfl (yo HT_.out HW_.out (by kernel_rfl)) (fun _ _ _ h => h) (Or.inl ⟨by rfl,?_⟩) hHeld ?_ ?_;rotate_left
              ·
               rintro w' ⟨s0,s1,s2,s3,s4,s5⟩
               go_simp
               with_reducible rfl
              rotate_left
              ·
               simp only [Act.put,zi,zj,zk,zG,zH]
               rfl
              refine pure_ (i:=3) (N:=some 65) (v:=?_) (a':=?_) #[true,true,true,true,false,false,true,false,false] rfl rfl (any_of HT_.out (by kernel_rfl)) (fun _ _ _ h => h) (Or.inl ⟨by rfl,?_⟩) ?_ ?_;rotate_left
              ·
               intro w'
               go_simp
               with_reducible rfl
              rotate_left
              ·
               simp only [Act.put,zi,zj,zk,zG,zH]
               rfl
              refine pure_ (i:=4) (N:=some 66) (v:=?_) (a':=?_) #[true,true,true,true,true,false,true,false,false] rfl rfl (any_of HT_.out (by kernel_rfl)) (fun _ _ _ h => h) (Or.inl ⟨by rfl,?_⟩) ?_ ?_;rotate_left
              ·
               intro w'
               go_simp
               with_reducible rfl
              rotate_left
              ·
               simp only [Act.put,zi,zj,zk,zG,zH]
               rfl
              refine take_ (i:=5) (N:=some 67) (v:=?_) (a':=?_) (bm_ 7 9) rfl rfl (yo HT_.out HW_.out (by kernel_rfl)) (fun _ _ _ h => h) (Or.inl ⟨by rfl,?_⟩) hHeld ?_ ?_;rotate_left
              ·
               rintro w' ⟨s0,s1,s2,s3,s4,s5⟩
               go_simp
               with_reducible rfl
              rotate_left
              ·
               simp only [Act.put,zi,zj,zk,zG,zH]
               rfl
              refine take_ (i:=7) (N:=some 69) (v:=?_) (a':=?_) (bm_ 8 9) rfl rfl (yo HT_.out HW_.out (by kernel_rfl)) (fun _ _ _ h => h) (Or.inl ⟨by rfl,?_⟩) hHeld ?_ ?_;rotate_left
              ·
               rintro w' ⟨s0,s1,s2,s3,s4,s5⟩
               go_simp
               with_reducible rfl
              rotate_left
              ·
               simp only [Act.put,zi,zj,zk,zG,zH]
               rfl
              refine pure_ (i:=8) (N:=some 70) (v:=?_) (a':=?_) (bm_ 9 9) rfl rfl (any_of HT_.out (by kernel_rfl)) (fun _ _ _ h => h) (Or.inl ⟨by rfl,?_⟩) ?_ ?_;rotate_left
              ·
               intro w'
               go_simp
               with_reducible rfl
              rotate_left
              ·
               simp only [Act.put,zi,zj,zk,zG,zH]
               rfl
              refine done_ (done_of HT_.out (by kernel_rfl)) ?_
              try go_wp2
              go_roundg k4
              case measure => have:=HJ1.out;have:=HK2.out;have:=HJ14.out;have:=HK4.out;omega
              case rel => exact ⟨(wrap64 (x6_4 + 1)),(by first|rfl|(simp;done)|(simp [*];done)),H',⟨by have:=HJ1.out;have:=HK2.out;have:=HJ14.out;have:=HK4.out;omega⟩,⟨by (with_reducible repeat first|apply ze|apply zf|apply zg);exact BK115.out⟩,⟨by (with_reducible repeat first|apply ze|apply zf|apply zg);exact BK118.out⟩,⟨by (with_reducible repeat first|apply ze|apply zf|apply zg);exact BK120.out⟩,⟨by repeat (with_reducible first|exact HB.out|apply za|apply zb|apply zc|refine zd ?_ GE115.out|refine zd ?_ GE118.out|refine zd ?_ GE120.out)⟩⟩
             rw [if_neg c49] at H;exact absurd H (by simp)
            rw [if_neg c48] at H;exact absurd H (by simp)
           rw [if_neg c47] at H;have c47b0 : decide (x6_4<x4_2)=false:=decide_eq_false c47;clear c47;have H':=zh H;clear H
           go_wp2
           go_loopg [7] k4 (fun kq v7 w' => ∃ (x7_5 : Int) (x119000_5 : ByteArray) (x119001_5 : Int),v7 = .int .i64 x7_5∧Aside0 (F3.l2 kq x4_2 x7_5 l0_0 a0_1 x119000_5 x119001_5 ((rd_T67 l0_0 x4_2).f0) ((rd_T67 l0_0 x4_2).f1)=some r)∧Aside0 (kq≤k4)∧Aside0 (w'.heap[gb115]? = some (.cells #[(.slice (some ad119) l0_0.length c0_0),.int .i64 a0_1] 35 (0,0)))∧Aside0 (w'.heap[gb118]? = some (.cells #[.string x119000_5,.int .i64 x119001_5] 51 (0,0)))∧Aside0 (w'.heap[gb120]? = some (.cells #[.int .i64 ((rd_T67 l0_0 x4_2).f0),(.slice A119_1 ((rd_T67 l0_0 x4_2).f1).length c119_1)] 67 (0,0)))∧Aside0 (Below w.heap.size w w'))
           case atStart => exact ⟨(0),(x119000_2),(x119001_2),(by first|rfl|(simp;done)|(simp [*];done)),H',⟨ye _⟩,⟨by (with_reducible repeat first|apply ze|apply zf|apply zg);exact BK115.out⟩,⟨by (with_reducible repeat first|apply ze|apply zf|apply zg);exact BK118.out⟩,⟨by (with_reducible repeat first|apply ze|apply zf|apply zg);exact BK120.out⟩,⟨by repeat (with_reducible first|exact HB.out|apply za|apply zb|apply zc|refine zd ?_ GE115.out|refine zd ?_ GE118.out|refine zd ?_ GE120.out)⟩⟩
           case round =>
            clear H'
            try clear c1
            try clear p1
            try clear q1
            try clear hx1
            try clear c2
            try clear p2
            try clear c3 c4 c5
            try clear p6
            try clear c9 c11
            try clear p11
            try clear q11
            try clear hx11
            try clear c12
            try clear p12
            try clear q12
            try clear hx12
            try clear c13 c13b0 c14 c14b0 c16 c19 c20 c23 c24 c24b0 c24b1 c25 c26 c28 c30 c30b0 c30b1 c30b2 c31 c32 c34 c36 c37 c39 c41 c42 c44 c46 c47 c47b0 c48 c48b0 c49 c49b0 c50 c50b0 c50b1 c51
            try clear hcz12_0 hcz12_1
            try clear hcz17_0 hcz17_1
            try clear hcz21_0 hcz21_1
            try clear hcz27_0 hcz27_1
            try clear hcz29_0 hcz29_1
            try clear hcz33_0 hcz33_1
            try clear hcz35_0 hcz35_1
            try clear hcz38_0 hcz38_1
            try clear hcz40_0 hcz40_1
            try clear hcz43_0 hcz43_1
            try clear hcz45_0 hcz45_1
            try clear hcz7_0 hcz7_1
            try clear hcz8_0 hcz8_1
            try clear hfz12_0 hfz12_1
            try clear hfz17_0 hfz17_1
            try clear hfz21_0 hfz21_1
            try clear hfz27_0 hfz27_1
            try clear hfz29_0 hfz29_1
            try clear hfz33_0 hfz33_1
            try clear hfz35_0 hfz35_1
            try clear hfz38_0 hfz38_1
            try clear hfz40_0 hfz40_1
            try clear hfz43_0 hfz43_1
            try clear hfz45_0 hfz45_1
            try clear hfz7_0 hfz7_1
            try clear hfz8_0 hfz8_1
            try clear hx119_0
            try clear hx119_1
            try clear hx122_0
            try clear hx122_1
            try clear p1
            try clear p11
            try clear p119
            try clear p122
            try clear p2
            try clear p6
            try clear q1
            try clear q11
            try clear q119
            try clear q122
            obtain ⟨x7_5,x119000_5,x119001_5,rfl,HA,HK5,BK115,BK118,BK120,HB⟩:=hrel
            cases gk with
            | zero => exact absurd HA.out (by simp [F3.l2])
            | succ k5 =>
             have H:=HA.out;clear HA;simp only [F3.l2] at H
             by_cases c53 : x7_5<(((rd_T67 l0_0 x4_2).f1).length : Int)
             ·
              rw [if_pos c53] at H
              have c53b0 : decide (x7_5<(((rd_T67 l0_0 x4_2).f1).length : Int))=true:=decide_eq_true c53;clear c53
              by_cases c54 : 0≤x7_5
              ·
               rw [if_pos c54] at H
               have c54b0 : decide (0≤x7_5)=true:=decide_eq_true c54;clear c54;replace H:=zT.mp H;obtain ⟨t124,A550,H⟩:=H;replace H : (if t124=true then ((F08.f x119000_5 x119001_5 ((rd_T51 ((rd_T67 l0_0 x4_2).f1) x7_5).f0) ((rd_T51 ((rd_T67 l0_0 x4_2).f1) x7_5).f1)).bind fun t126 => (if t126=true then (F3.l2 k5 x4_2 (wrap64 (x7_5 + 1)) l0_0 a0_1 ((rd_T51 ((rd_T67 l0_0 x4_2).f1) x7_5).f0) ((rd_T51 ((rd_T67 l0_0 x4_2).f1) x7_5).f1) ((rd_T67 l0_0 x4_2).f0) ((rd_T67 l0_0 x4_2).f1)) else (some false))) else (some false))=some r:=H;have A55:=zh A550;clear A550
               by_cases c56 : t124=true
               ·
                subst c56
                have H1 : ((F08.f x119000_5 x119001_5 ((rd_T51 ((rd_T67 l0_0 x4_2).f1) x7_5).f0) ((rd_T51 ((rd_T67 l0_0 x4_2).f1) x7_5).f1)).bind fun t126 => (if t126=true then (F3.l2 k5 x4_2 (wrap64 (x7_5 + 1)) l0_0 a0_1 ((rd_T51 ((rd_T67 l0_0 x4_2).f1) x7_5).f0) ((rd_T51 ((rd_T67 l0_0 x4_2).f1) x7_5).f1) ((rd_T67 l0_0 x4_2).f0) ((rd_T67 l0_0 x4_2).f1)) else (some false)))=some r:=by rw [if_pos rfl] at H;exact H
                clear H;have H:=H1;clear H1;replace H:=zT.mp H;obtain ⟨t126,A570,H⟩:=H;replace H : (if t126=true then (F3.l2 k5 x4_2 (wrap64 (x7_5 + 1)) l0_0 a0_1 ((rd_T51 ((rd_T67 l0_0 x4_2).f1) x7_5).f0) ((rd_T51 ((rd_T67 l0_0 x4_2).f1) x7_5).f1) ((rd_T67 l0_0 x4_2).f0) ((rd_T67 l0_0 x4_2).f1)) else (some false))=some r:=H;have A57:=zh A570;clear A570
                by_cases c58 : t126=true
                ·
                 subst c58
                 have H1 : (F3.l2 k5 x4_2 (wrap64 (x7_5 + 1)) l0_0 a0_1 ((rd_T51 ((rd_T67 l0_0 x4_2).f1) x7_5).f0) ((rd_T51 ((rd_T67 l0_0 x4_2).f1) x7_5).f1) ((rd_T67 l0_0 x4_2).f0) ((rd_T67 l0_0 x4_2).f1))=some r:=by rw [if_pos rfl] at H;exact H
                 clear H;have H:=H1;clear H1;have H':=zh H;clear H;have hnb59:=NB120_115.out;have hnc59:=NB115_120.out;have hnb60:=NB120_118.out;have hnc60:=NB118_120.out;obtain ⟨hcz61_0,hcz61_1,hfz61_0,hfz61_1⟩:=cB2 BK120.out
                 try go_wp2
                 replace BK115:=zh (zf BK115.out);replace BK118:=zh (zf BK118.out);replace BK120:=zh (zf BK120.out);replace HB:=zh (zc HB.out);have p123 : 0≤(x7_5 : Int):=zy (by first|(with_reducible assumption)|assumption);have q123 : x7_5<(((rd_T67 l0_0 x4_2).f1).length : Int):=zy (by first|(with_reducible assumption)|assumption);obtain ⟨ad123,e123,hx123_0,hx123_1⟩:=at_T51 HR119_1.out x7_5 p123 q123;have hw123_1:=hx123_1;have hw123_0:=hx123_0
                 cases e123
                 replace hx123_0:=(HB.out.cell (zl w _ hx123_0)).trans hx123_0;replace hx123_1:=(HB.out.cell (zl w _ hx123_1)).trans hx123_1;replace p123:=eq_true p123;replace q123:=eq_true q123;have p125 : 0≤(x7_5 : Int):=zy (by first|(with_reducible assumption)|assumption);have q125 : x7_5<(((rd_T67 l0_0 x4_2).f1).length : Int):=zy (by first|(with_reducible assumption)|assumption);obtain ⟨ad125,e125,hx125_0,hx125_1⟩:=at_T51 HR119_1.out x7_5 p125 q125;have hw125_1:=hx125_1;have hw125_0:=hx125_0;obtain rfl : ad123=ad125:=(by injection e125);replace hx125_0:=(HB.out.cell (zl w _ hx125_0)).trans hx125_0;replace hx125_1:=(HB.out.cell (zl w _ hx125_1)).trans hx125_1;replace p125:=eq_true p125;replace q125:=eq_true q125;refine start_ (n:=17) (S:=fun w' => w'.cell? ⟨gb120,0,none⟩=some (.int .i64 ((rd_T67 l0_0 x4_2).f0))∧w'.cell? ⟨gb120,1,none⟩=some (.slice (some ad123) ((rd_T67 l0_0 x4_2).f1).length c119_1)∧w'.cell? ⟨gb118,0,none⟩=some (.string x119000_5)∧w'.cell? ⟨gb118,1,none⟩=some (.int .i64 x119001_5)∧w'.cell? (ad123.add ((x7_5).toNat * 2))=some (.string ((rd_T51 ((rd_T67 l0_0 x4_2).f1) x7_5).f0))∧w'.cell? ⟨(ad123.add ((x7_5).toNat * 2)).block,(ad123.add ((x7_5).toNat * 2)).off + 1,none⟩=some (.int .i64 ((rd_T51 ((rd_T67 l0_0 x4_2).f1) x7_5).f1))∧w'.cell? (ad123.add ((x7_5).toNat * 2))=some (.string ((rd_T51 ((rd_T67 l0_0 x4_2).f1) x7_5).f0))∧w'.cell? ⟨(ad123.add ((x7_5).toNat * 2)).block,(ad123.add ((x7_5).toNat * 2)).off + 1,none⟩=some (.int .i64 ((rd_T51 ((rd_T67 l0_0 x4_2).f1) x7_5).f1))) (ds:=[]) (bm_ 0 17) (by kernel_rfl) rfl rfl ⟨(zz BK120.out 0).trans rfl,(zz BK120.out 1).trans rfl,(zz BK118.out 0).trans rfl,(zz BK118.out 1).trans rfl,((HB.out.cell (zl w _ hw123_0)).trans hw123_0),((HB.out.cell (zl w _ hw123_1)).trans hw123_1),((HB.out.cell (zl w _ hw125_0)).trans hw125_0),((HB.out.cell (zl w _ hw125_1)).trans hw125_1)⟩ (fun hHeld => ?_);refine with_tabW F3.tab18 F3.bits18 (fun HT_ HW_ => ?_);generalize wr.drew=w62 at BK115 BK118 BK120 HB hx123_0 hx123_1 hx125_0 hx125_1 hHeld ⊢;refine pure_ (i:=0) (N:=some 78) (v:=?_) (a':=?_) (bm_ 1 17) rfl rfl (any_of HT_.out (by kernel_rfl)) (fun _ _ _ h => h) (Or.inl ⟨by rfl,?_⟩) ?_ ?_;rotate_left
                 ·
                  intro w'
                  go_simp
                  with_reducible rfl
                 rotate_left
                 ·
                  simp only [Act.put,zi,zj,zk,zG,zH]
                  rfl
                 refine pure_ (i:=2) (N:=some 80) (v:=?_) (a':=?_) #[true,false,true,false,false,false,false,false,false,false,false,false,false,false,false,false,false] rfl rfl (any_of HT_.out (by kernel_rfl)) (fun _ _ _ h => h) (Or.inl ⟨by rfl,?_⟩) ?_ ?_;rotate_left
                 ·
                  intro w'
                  go_simp
                  with_reducible rfl
                 rotate_left
                 ·
                  simp only [Act.put,zi,zj,zk,zG,zH]
                  rfl
                 refine take_ (i:=1) (N:=some 79) (v:=?_) (a':=?_) (bm_ 3 17) rfl rfl (yo HT_.out HW_.out (by kernel_rfl)) (fun _ _ _ h => h) (Or.inl ⟨by rfl,?_⟩) hHeld ?_ ?_;rotate_left
                 ·
                  rintro w' ⟨s0,s1,s2,s3,s4,s5,s6,s7⟩
                  go_simp
                  with_reducible rfl
                 rotate_left
                 ·
                  simp only [Act.put,zi,zj,zk,zG,zH]
                  rfl
                 refine pure_ (i:=3) (N:=some 81) (v:=?_) (a':=?_) (bm_ 4 17) rfl rfl (any_of HT_.out (by kernel_rfl)) (fun _ _ _ h => h) (Or.inl ⟨by rfl,?_⟩) ?_ ?_;rotate_left
                 ·
                  intro w'
                  go_simp
                  with_reducible rfl
                 rotate_left
                 ·
                  simp only [Act.put,zi,zj,zk,zG,zH]
                  rfl
                 refine take_ (i:=4) (N:=some 82) (v:=?_) (a':=?_) (bm_ 5 17) rfl rfl (yo HT_.out HW_.out (by kernel_rfl)) (fun _ _ _ h => h) (Or.inl ⟨by rfl,?_⟩) hHeld ?_ ?_;rotate_left
                 ·
                  rintro w' ⟨s0,s1,s2,s3,s4,s5,s6,s7⟩
                  go_simp
                  with_reducible rfl
                 rotate_left
                 ·
                  simp only [Act.put,zi,zj,zk,zG,zH]
                  rfl
                 refine one_ (i:=5) (N:=some 83) (bm_ 6 17) rfl rfl (one_of HT_.out (by kernel_rfl)) (by decide) (fun K hK => ?_);refine goes_ Try.func41 (by kernel_rfl) rfl #[.agg #[.string ((rd_T51 ((rd_T67 l0_0 x4_2).f1) x7_5).f0),.int .i64 ((rd_T51 ((rd_T67 l0_0 x4_2).f1) x7_5).f1)]] (by rfl) rfl rfl (by (try simp only [zt,zu,zv]);first|done|rfl|(simp only [zw,zx];rfl)|(simp only [yr,ys,zV,zW];rfl)) ?_
                 with_reducible refine (F0d.calls  ((rd_T51 ((rd_T67 l0_0 x4_2).f1) x7_5).f0) ((rd_T51 ((rd_T67 l0_0 x4_2).f1) x7_5).f1) true _ A55.out).mono ?_
                 rintro e w63 ⟨rfl,hb⟩;refine ⟨_,rfl,?_⟩;replace BK115:=zh (cD BK115.out (by (with_reducible repeat first|apply ze|apply zf|apply zg);exact BK115.out) hb);replace BK118:=zh (cD BK118.out (by (with_reducible repeat first|apply ze|apply zf|apply zg);exact BK118.out) hb);replace BK120:=zh (cD BK120.out (by (with_reducible repeat first|apply ze|apply zf|apply zg);exact BK120.out) hb);replace HB:=zh (zC (by repeat (with_reducible first|exact HB.out|apply za|apply zb|apply zc|refine zd ?_ GE115.out|refine zd ?_ GE118.out|refine zd ?_ GE120.out)) hb);(try clear hb);(try clear hb2);(try clear hk);(try clear hi);refine hK.out _ _ ⟨(zz BK120.out 0).trans rfl,(zz BK120.out 1).trans rfl,(zz BK118.out 0).trans rfl,(zz BK118.out 1).trans rfl,((HB.out.cell (zl w _ hw123_0)).trans hw123_0),((HB.out.cell (zl w _ hw123_1)).trans hw123_1),((HB.out.cell (zl w _ hw125_0)).trans hw125_0),((HB.out.cell (zl w _ hw125_1)).trans hw125_1)⟩ (fun hHeld => ?_);clear hK K;refine norm_ (a':=?_) ?_ ?_;rotate_left
                 ·
                  show Act.put _ (some 83) _=_
                  simp only [Act.put,zi,zj,zk,zG,zH]
                  rfl
                 refine pure_ (i:=6) (N:=some 84) (v:=?_) (a':=?_) (bm_ 7 17) rfl rfl (any_of HT_.out (by kernel_rfl)) (fun _ _ _ h => h) (Or.inl ⟨by rfl,?_⟩) ?_ ?_;rotate_left
                 ·
                  intro w'
                  go_simp
                  with_reducible rfl
                 rotate_left
                 ·
                  simp only [Act.put,zi,zj,zk,zG,zH]
                  rfl
                 refine pure_ (i:=7) (N:=some 85) (v:=?_) (a':=?_) (bm_ 8 17) rfl rfl (any_of HT_.out (by kernel_rfl)) (fun _ _ _ h => h) (Or.inl ⟨by rfl,?_⟩) ?_ ?_;rotate_left
                 ·
                  intro w'
                  go_simp
                  with_reducible rfl
                 rotate_left
                 ·
                  simp only [Act.put,zi,zj,zk,zG,zH]
                  rfl
                 refine pure_ (i:=9) (N:=some 87) (v:=?_) (a':=?_) #[true,true,true,true,true,true,true,true,false,true,false,false,false,false,false,false,false] rfl rfl (any_of HT_.out (by kernel_rfl)) (fun _ _ _ h => h) (Or.inl ⟨by rfl,?_⟩) ?_ ?_;rotate_left
                 ·
                  intro w'
                  go_simp
                  with_reducible rfl
                 rotate_left
                 ·
                  simp only [Act.put,zi,zj,zk,zG,zH]
                  rfl
                 refine pure_ (i:=11) (N:=some 89) (v:=?_) (a':=?_) #[true,true,true,true,true,true,true,true,false,true,false,true,false,false,false,false,false] rfl rfl (any_of HT_.out (by kernel_rfl)) (fun _ _ _ h => h) (Or.inl ⟨by rfl,?_⟩) ?_ ?_;rotate_left
                 ·
                  intro w'
                  go_simp
                  with_reducible rfl
                 rotate_left
                 ·
                  simp only [Act.put,zi,zj,zk,zG,zH]
                  rfl
                 refine take_ (i:=8) (N:=some 86) (v:=?_) (a':=?_) #[true,true,true,true,true,true,true,true,true,true,false,true,false,false,false,false,false] rfl rfl (yo HT_.out HW_.out (by kernel_rfl)) (fun _ _ _ h => h) (Or.inl ⟨by rfl,?_⟩) hHeld ?_ ?_;rotate_left
                 ·
                  rintro w' ⟨s0,s1,s2,s3,s4,s5,s6,s7⟩
                  go_simp
                  with_reducible rfl
                 rotate_left
                 ·
                  simp only [Act.put,zi,zj,zk,zG,zH]
                  rfl
                 refine take_ (i:=10) (N:=some 88) (v:=?_) (a':=?_) (bm_ 12 17) rfl rfl (yo HT_.out HW_.out (by kernel_rfl)) (fun _ _ _ h => h) (Or.inl ⟨by rfl,?_⟩) hHeld ?_ ?_;rotate_left
                 ·
                  rintro w' ⟨s0,s1,s2,s3,s4,s5,s6,s7⟩
                  go_simp
                  with_reducible rfl
                 rotate_left
                 ·
                  simp only [Act.put,zi,zj,zk,zG,zH]
                  rfl
                 refine pure_ (i:=12) (N:=some 90) (v:=?_) (a':=?_) (bm_ 13 17) rfl rfl (any_of HT_.out (by kernel_rfl)) (fun _ _ _ h => h) (Or.inl ⟨by rfl,?_⟩) ?_ ?_;rotate_left
                 ·
                  intro w'
                  go_simp
                  with_reducible rfl
                 rotate_left
                 ·
                  simp only [Act.put,zi,zj,zk,zG,zH]
                  rfl
                 refine take_ (i:=13) (N:=some 91) (v:=?_) (a':=?_) (bm_ 14 17) rfl rfl (yo HT_.out HW_.out (by kernel_rfl)) (fun _ _ _ h => h) (Or.inl ⟨by rfl,?_⟩) hHeld ?_ ?_;rotate_left
                 ·
                  rintro w' ⟨s0,s1,s2,s3,s4,s5,s6,s7⟩
                  go_simp
                  with_reducible rfl
                 rotate_left
                 ·
                  simp only [Act.put,zi,zj,zk,zG,zH]
                  rfl
                 refine one_ (i:=14) (N:=some 92) (bm_ 15 17) rfl rfl (one_of HT_.out (by kernel_rfl)) (by decide) (fun K hK => ?_);refine goes_ Try.func52 (by kernel_rfl) rfl #[.agg #[.string x119000_5,.int .i64 x119001_5],.agg #[.string ((rd_T51 ((rd_T67 l0_0 x4_2).f1) x7_5).f0),.int .i64 ((rd_T51 ((rd_T67 l0_0 x4_2).f1) x7_5).f1)]] (by rfl) rfl rfl (by (try simp only [zt,zu,zv]);first|done|rfl|(simp only [zw,zx];rfl)|(simp only [yr,ys,zV,zW];rfl)) ?_
                 with_reducible refine (F08.calls  x119000_5 x119001_5 ((rd_T51 ((rd_T67 l0_0 x4_2).f1) x7_5).f0) ((rd_T51 ((rd_T67 l0_0 x4_2).f1) x7_5).f1) true _ A57.out).mono ?_
                 rintro e w64 ⟨rfl,hb⟩;refine ⟨_,rfl,?_⟩;replace BK115:=zh (cD BK115.out (by (with_reducible repeat first|apply ze|apply zf|apply zg);exact BK115.out) hb);replace BK118:=zh (cD BK118.out (by (with_reducible repeat first|apply ze|apply zf|apply zg);exact BK118.out) hb);replace BK120:=zh (cD BK120.out (by (with_reducible repeat first|apply ze|apply zf|apply zg);exact BK120.out) hb);replace HB:=zh (zC (by repeat (with_reducible first|exact HB.out|apply za|apply zb|apply zc|refine zd ?_ GE115.out|refine zd ?_ GE118.out|refine zd ?_ GE120.out)) hb);(try clear hb);(try clear hb2);(try clear hk);(try clear hi);refine hK.out _ _ ⟨(zz BK120.out 0).trans rfl,(zz BK120.out 1).trans rfl,(zz BK118.out 0).trans rfl,(zz BK118.out 1).trans rfl,((HB.out.cell (zl w _ hw123_0)).trans hw123_0),((HB.out.cell (zl w _ hw123_1)).trans hw123_1),((HB.out.cell (zl w _ hw125_0)).trans hw125_0),((HB.out.cell (zl w _ hw125_1)).trans hw125_1)⟩ (fun hHeld => ?_);clear hK K;refine norm_ (a':=?_) ?_ ?_;rotate_left
                 ·
                  show Act.put _ (some 92) _=_
                  simp only [Act.put,zi,zj,zk,zG,zH]
                  rfl
                 refine pure_ (i:=15) (N:=some 93) (v:=?_) (a':=?_) (bm_ 16 17) rfl rfl (any_of HT_.out (by kernel_rfl)) (fun _ _ _ h => h) (Or.inl ⟨by rfl,?_⟩) ?_ ?_;rotate_left
                 ·
                  intro w'
                  go_simp
                  with_reducible rfl
                 rotate_left
                 ·
                  simp only [Act.put,zi,zj,zk,zG,zH]
                  rfl
                 refine pure_ (i:=16) (N:=some 94) (v:=?_) (a':=?_) (bm_ 17 17) rfl rfl (any_of HT_.out (by kernel_rfl)) (fun _ _ _ h => h) (Or.inl ⟨by rfl,?_⟩) ?_ ?_;rotate_left
                 ·
                  intro w'
                  go_simp
                  with_reducible rfl
                 rotate_left
                 ·
                  simp only [Act.put,zi,zj,zk,zG,zH]
                  rfl
                 refine done_ (done_of HT_.out (by kernel_rfl)) ?_;obtain ⟨hcz65_0,hcz65_1,hfz65_0,hfz65_1⟩:=cB2 BK120.out;have p127 : 0≤(x7_5 : Int):=zy (by first|(with_reducible assumption)|assumption);have q127 : x7_5<(((rd_T67 l0_0 x4_2).f1).length : Int):=zy (by first|(with_reducible assumption)|assumption);obtain ⟨ad127,e127,hx127_0,hx127_1⟩:=at_T51 HR119_1.out x7_5 p127 q127;obtain rfl : ad123=ad127:=(by injection e127);replace hx127_0:=(HB.out.cell (zl w _ hx127_0)).trans hx127_0;replace hx127_1:=(HB.out.cell (zl w _ hx127_1)).trans hx127_1;replace p127:=eq_true p127;replace q127:=eq_true q127;have hnb66:=NB118_115.out;have hnc66:=NB115_118.out;obtain ⟨hcz67_0,hcz67_1,hfz67_0,hfz67_1⟩:=cB2 BK118.out
                 try go_wp2
                 go_roundg k5
                 case measure => have:=HJ1.out;have:=HK2.out;have:=HJ14.out;have:=HK4.out;have:=HK5.out;omega
                 case rel => exact ⟨(wrap64 (x7_5 + 1)),((rd_T51 ((rd_T67 l0_0 x4_2).f1) x7_5).f0),((rd_T51 ((rd_T67 l0_0 x4_2).f1) x7_5).f1),(by first|rfl|(simp;done)|(simp [*];done)),H',⟨by have:=HJ1.out;have:=HK2.out;have:=HJ14.out;have:=HK4.out;have:=HK5.out;omega⟩,⟨by (with_reducible repeat first|apply ze|apply zf|apply zg);refine cS2 ?_ NB115_118.out;(with_reducible repeat first|apply ze|apply zf|apply zg);exact BK115.out⟩,⟨by (with_reducible repeat first|apply ze|apply zf|apply zg);refine zL (cs:=#[.string ((rd_T51 ((rd_T67 l0_0 x4_2).f1) x7_5).f0),.int .i64 x119001_5]) ?_ 1 _ rfl;(with_reducible repeat first|apply ze|apply zf|apply zg);refine zL (cs:=#[.string x119000_5,.int .i64 x119001_5]) ?_ 0 _ rfl;(with_reducible repeat first|apply ze|apply zf|apply zg);exact BK118.out⟩,⟨by (with_reducible repeat first|apply ze|apply zf|apply zg);refine cS2 ?_ NB120_118.out;(with_reducible repeat first|apply ze|apply zf|apply zg);exact BK120.out⟩,⟨by repeat (with_reducible first|exact HB.out|apply za|apply zb|apply zc|refine zd ?_ GE115.out|refine zd ?_ GE118.out|refine zd ?_ GE120.out)⟩⟩
                replace c58:=yb.mpr c58;subst c58;have H1 : (some false)=some r:=by rw [if_neg (show ¬ (false=true) by decide)] at H;exact H
                clear H;have H:=H1;clear H1;obtain rfl:=zU H;have hnb68:=NB120_115.out;have hnc68:=NB115_120.out;have hnb69:=NB120_118.out;have hnc69:=NB118_120.out;obtain ⟨hcz70_0,hcz70_1,hfz70_0,hfz70_1⟩:=cB2 BK120.out
                try go_wp2
                replace BK115:=zh (zf BK115.out);replace BK118:=zh (zf BK118.out);replace BK120:=zh (zf BK120.out);replace HB:=zh (zc HB.out);have p123 : 0≤(x7_5 : Int):=zy (by first|(with_reducible assumption)|assumption);have q123 : x7_5<(((rd_T67 l0_0 x4_2).f1).length : Int):=zy (by first|(with_reducible assumption)|assumption);obtain ⟨ad123,e123,hx123_0,hx123_1⟩:=at_T51 HR119_1.out x7_5 p123 q123;have hw123_1:=hx123_1;have hw123_0:=hx123_0
                cases e123
                replace hx123_0:=(HB.out.cell (zl w _ hx123_0)).trans hx123_0;replace hx123_1:=(HB.out.cell (zl w _ hx123_1)).trans hx123_1;replace p123:=eq_true p123;replace q123:=eq_true q123;have p125 : 0≤(x7_5 : Int):=zy (by first|(with_reducible assumption)|assumption);have q125 : x7_5<(((rd_T67 l0_0 x4_2).f1).length : Int):=zy (by first|(with_reducible assumption)|assumption);obtain ⟨ad125,e125,hx125_0,hx125_1⟩:=at_T51 HR119_1.out x7_5 p125 q125;have hw125_1:=hx125_1;have hw125_0:=hx125_0;obtain rfl : ad123=ad125:=(by injection e125);replace hx125_0:=(HB.out.cell (zl w _ hx125_0)).trans hx125_0;replace hx125_1:=(HB.out.cell (zl w _ hx125_1)).trans hx125_1;replace p125:=eq_true p125;replace q125:=eq_true q125;refine start_ (n:=17) (S:=fun w' => w'.cell? ⟨gb120,0,none⟩=some (.int .i64 ((rd_T67 l0_0 x4_2).f0))∧w'.cell? ⟨gb120,1,none⟩=some (.slice (some ad123) ((rd_T67 l0_0 x4_2).f1).length c119_1)∧w'.cell? ⟨gb118,0,none⟩=some (.string x119000_5)∧w'.cell? ⟨gb118,1,none⟩=some (.int .i64 x119001_5)∧w'.cell? (ad123.add ((x7_5).toNat * 2))=some (.string ((rd_T51 ((rd_T67 l0_0 x4_2).f1) x7_5).f0))∧w'.cell? ⟨(ad123.add ((x7_5).toNat * 2)).block,(ad123.add ((x7_5).toNat * 2)).off + 1,none⟩=some (.int .i64 ((rd_T51 ((rd_T67 l0_0 x4_2).f1) x7_5).f1))∧w'.cell? (ad123.add ((x7_5).toNat * 2))=some (.string ((rd_T51 ((rd_T67 l0_0 x4_2).f1) x7_5).f0))∧w'.cell? ⟨(ad123.add ((x7_5).toNat * 2)).block,(ad123.add ((x7_5).toNat * 2)).off + 1,none⟩=some (.int .i64 ((rd_T51 ((rd_T67 l0_0 x4_2).f1) x7_5).f1))) (ds:=[]) (bm_ 0 17) (by kernel_rfl) rfl rfl ⟨(zz BK120.out 0).trans rfl,(zz BK120.out 1).trans rfl,(zz BK118.out 0).trans rfl,(zz BK118.out 1).trans rfl,((HB.out.cell (zl w _ hw123_0)).trans hw123_0),((HB.out.cell (zl w _ hw123_1)).trans hw123_1),((HB.out.cell (zl w _ hw125_0)).trans hw125_0),((HB.out.cell (zl w _ hw125_1)).trans hw125_1)⟩ (fun hHeld => ?_);refine with_tabW F3.tab18 F3.bits18 (fun HT_ HW_ => ?_);generalize wr.drew=w71 at BK115 BK118 BK120 HB hx123_0 hx123_1 hx125_0 hx125_1 hHeld ⊢;refine pure_ (i:=0) (N:=some 78) (v:=?_) (a':=?_) (bm_ 1 17) rfl rfl (any_of HT_.out (by kernel_rfl)) (fun _ _ _ h => h) (Or.inl ⟨by rfl,?_⟩) ?_ ?_;rotate_left
                ·
                 intro w'
                 go_simp
                 with_reducible rfl
                rotate_left
                ·
                 simp only [Act.put,zi,zj,zk,zG,zH]
                 rfl
                refine pure_ (i:=2) (N:=some 80) (v:=?_) (a':=?_) #[true,false,true,false,false,false,false,false,false,false,false,false,false,false,false,false,false] rfl rfl (any_of HT_.out (by kernel_rfl)) (fun _ _ _ h => h) (Or.inl ⟨by rfl,?_⟩) ?_ ?_;rotate_left
                ·
                 intro w'
                 go_simp
                 with_reducible rfl
                rotate_left
                ·
                 simp only [Act.put,zi,zj,zk,zG,zH]
                 rfl
                refine take_ (i:=1) (N:=some 79) (v:=?_) (a':=?_) (bm_ 3 17) rfl rfl (yo HT_.out HW_.out (by kernel_rfl)) (fun _ _ _ h => h) (Or.inl ⟨by rfl,?_⟩) hHeld ?_ ?_;rotate_left
                ·
                 rintro w' ⟨s0,s1,s2,s3,s4,s5,s6,s7⟩
                 go_simp
                 with_reducible rfl
                rotate_left
                ·
                 simp only [Act.put,zi,zj,zk,zG,zH]
                 rfl
                refine pure_ (i:=3) (N:=some 81) (v:=?_) (a':=?_) (bm_ 4 17) rfl rfl (any_of HT_.out (by kernel_rfl)) (fun _ _ _ h => h) (Or.inl ⟨by rfl,?_⟩) ?_ ?_;rotate_left
                ·
                 intro w'
                 go_simp
                 with_reducible rfl
                rotate_left
                ·
                 simp only [Act.put,zi,zj,zk,zG,zH]
                 rfl
                refine take_ (i:=4) (N:=some 82) (v:=?_) (a':=?_) (bm_ 5 17) rfl rfl (yo HT_.out HW_.out (by kernel_rfl)) (fun _ _ _ h => h) (Or.inl ⟨by rfl,?_⟩) hHeld ?_ ?_;rotate_left
                ·
                 rintro w' ⟨s0,s1,s2,s3,s4,s5,s6,s7⟩
                 go_simp
                 with_reducible rfl
                rotate_left
                ·
                 simp only [Act.put,zi,zj,zk,zG,zH]
                 rfl
                refine one_ (i:=5) (N:=some 83) (bm_ 6 17) rfl rfl (one_of HT_.out (by kernel_rfl)) (by decide) (fun K hK => ?_);refine goes_ Try.func41 (by kernel_rfl) rfl #[.agg #[.string ((rd_T51 ((rd_T67 l0_0 x4_2).f1) x7_5).f0),.int .i64 ((rd_T51 ((rd_T67 l0_0 x4_2).f1) x7_5).f1)]] (by rfl) rfl rfl (by (try simp only [zt,zu,zv]);first|done|rfl|(simp only [zw,zx];rfl)|(simp only [yr,ys,zV,zW];rfl)) ?_
                with_reducible refine (F0d.calls  ((rd_T51 ((rd_T67 l0_0 x4_2).f1) x7_5).f0) ((rd_T51 ((rd_T67 l0_0 x4_2).f1) x7_5).f1) true _ A55.out).mono ?_
                rintro e w72 ⟨rfl,hb⟩;refine ⟨_,rfl,?_⟩;replace BK115:=zh (cD BK115.out (by (with_reducible repeat first|apply ze|apply zf|apply zg);exact BK115.out) hb);replace BK118:=zh (cD BK118.out (by (with_reducible repeat first|apply ze|apply zf|apply zg);exact BK118.out) hb);replace BK120:=zh (cD BK120.out (by (with_reducible repeat first|apply ze|apply zf|apply zg);exact BK120.out) hb);replace HB:=zh (zC (by repeat (with_reducible first|exact HB.out|apply za|apply zb|apply zc|refine zd ?_ GE115.out|refine zd ?_ GE118.out|refine zd ?_ GE120.out)) hb);(try clear hb);(try clear hb2);(try clear hk);(try clear hi);refine hK.out _ _ ⟨(zz BK120.out 0).trans rfl,(zz BK120.out 1).trans rfl,(zz BK118.out 0).trans rfl,(zz BK118.out 1).trans rfl,((HB.out.cell (zl w _ hw123_0)).trans hw123_0),((HB.out.cell (zl w _ hw123_1)).trans hw123_1),((HB.out.cell (zl w _ hw125_0)).trans hw125_0),((HB.out.cell (zl w _ hw125_1)).trans hw125_1)⟩ (fun hHeld => ?_);clear hK K;refine norm_ (a':=?_) ?_ ?_;rotate_left
                ·
                 show Act.put _ (some 83) _=_
                 simp only [Act.put,zi,zj,zk,zG,zH]
                 rfl
                refine pure_ (i:=6) (N:=some 84) (v:=?_) (a':=?_) (bm_ 7 17) rfl rfl (any_of HT_.out (by kernel_rfl)) (fun _ _ _ h => h) (Or.inl ⟨by rfl,?_⟩) ?_ ?_;rotate_left
                ·
                 intro w'
                 go_simp
                 with_reducible rfl
                rotate_left
                ·
                 simp only [Act.put,zi,zj,zk,zG,zH]
                 rfl
                refine pure_ (i:=7) (N:=some 85) (v:=?_) (a':=?_) (bm_ 8 17) rfl rfl (any_of HT_.out (by kernel_rfl)) (fun _ _ _ h => h) (Or.inl ⟨by rfl,?_⟩) ?_ ?_;rotate_left
                ·
                 intro w'
                 go_simp
                 with_reducible rfl
                rotate_left
                ·
                 simp only [Act.put,zi,zj,zk,zG,zH]
                 rfl
                refine pure_ (i:=9) (N:=some 87) (v:=?_) (a':=?_) #[true,true,true,true,true,true,true,true,false,true,false,false,false,false,false,false,false] rfl rfl (any_of HT_.out (by kernel_rfl)) (fun _ _ _ h => h) (Or.inl ⟨by rfl,?_⟩) ?_ ?_;rotate_left
                ·
                 intro w'
                 go_simp
                 with_reducible rfl
                rotate_left
                ·
                 simp only [Act.put,zi,zj,zk,zG,zH]
                 rfl
                refine pure_ (i:=11) (N:=some 89) (v:=?_) (a':=?_) #[true,true,true,true,true,true,true,true,false,true,false,true,false,false,false,false,false] rfl rfl (any_of HT_.out (by kernel_rfl)) (fun _ _ _ h => h) (Or.inl ⟨by rfl,?_⟩) ?_ ?_;rotate_left
                ·
                 intro w'
                 go_simp
                 with_reducible rfl
                rotate_left
                ·
                 simp only [Act.put,zi,zj,zk,zG,zH]
                 rfl
                refine take_ (i:=8) (N:=some 86) (v:=?_) (a':=?_) #[true,true,true,true,true,true,true,true,true,true,false,true,false,false,false,false,false] rfl rfl (yo HT_.out HW_.out (by kernel_rfl)) (fun _ _ _ h => h) (Or.inl ⟨by rfl,?_⟩) hHeld ?_ ?_;rotate_left
                ·
                 rintro w' ⟨s0,s1,s2,s3,s4,s5,s6,s7⟩
                 go_simp
                 with_reducible rfl
                rotate_left
                ·
                 simp only [Act.put,zi,zj,zk,zG,zH]
                 rfl
                refine take_ (i:=10) (N:=some 88) (v:=?_) (a':=?_) (bm_ 12 17) rfl rfl (yo HT_.out HW_.out (by kernel_rfl)) (fun _ _ _ h => h) (Or.inl ⟨by rfl,?_⟩) hHeld ?_ ?_;rotate_left
                ·
                 rintro w' ⟨s0,s1,s2,s3,s4,s5,s6,s7⟩
                 go_simp
                 with_reducible rfl
                rotate_left
                ·
                 simp only [Act.put,zi,zj,zk,zG,zH]
                 rfl
                refine pure_ (i:=12) (N:=some 90) (v:=?_) (a':=?_) (bm_ 13 17) rfl rfl (any_of HT_.out (by kernel_rfl)) (fun _ _ _ h => h) (Or.inl ⟨by rfl,?_⟩) ?_ ?_;rotate_left
                ·
                 intro w'
                 go_simp
                 with_reducible rfl
                rotate_left
                ·
                 simp only [Act.put,zi,zj,zk,zG,zH]
                 rfl
                refine take_ (i:=13) (N:=some 91) (v:=?_) (a':=?_) (bm_ 14 17) rfl rfl (yo HT_.out HW_.out (by kernel_rfl)) (fun _ _ _ h => h) (Or.inl ⟨by rfl,?_⟩) hHeld ?_ ?_;rotate_left
                ·
                 rintro w' ⟨s0,s1,s2,s3,s4,s5,s6,s7⟩
                 go_simp
                 with_reducible rfl
                rotate_left
                ·
                 simp only [Act.put,zi,zj,zk,zG,zH]
                 rfl
                refine one_ (i:=14) (N:=some 92) (bm_ 15 17) rfl rfl (one_of HT_.out (by kernel_rfl)) (by decide) (fun K hK => ?_);refine goes_ Try.func52 (by kernel_rfl) rfl #[.agg #[.string x119000_5,.int .i64 x119001_5],.agg #[.string ((rd_T51 ((rd_T67 l0_0 x4_2).f1) x7_5).f0),.int .i64 ((rd_T51 ((rd_T67 l0_0 x4_2).f1) x7_5).f1)]] (by rfl) rfl rfl (by (try simp only [zt,zu,zv]);first|done|rfl|(simp only [zw,zx];rfl)|(simp only [yr,ys,zV,zW];rfl)) ?_
                with_reducible refine (F08.calls  x119000_5 x119001_5 ((rd_T51 ((rd_T67 l0_0 x4_2).f1) x7_5).f0) ((rd_T51 ((rd_T67 l0_0 x4_2).f1) x7_5).f1) false _ A57.out).mono ?_
                rintro e w73 ⟨rfl,hb⟩;refine ⟨_,rfl,?_⟩;replace BK115:=zh (cD BK115.out (by (with_reducible repeat first|apply ze|apply zf|apply zg);exact BK115.out) hb);replace BK118:=zh (cD BK118.out (by (with_reducible repeat first|apply ze|apply zf|apply zg);exact BK118.out) hb);replace BK120:=zh (cD BK120.out (by (with_reducible repeat first|apply ze|apply zf|apply zg);exact BK120.out) hb);replace HB:=zh (zC (by repeat (with_reducible first|exact HB.out|apply za|apply zb|apply zc|refine zd ?_ GE115.out|refine zd ?_ GE118.out|refine zd ?_ GE120.out)) hb);(try clear hb);(try clear hb2);(try clear hk);(try clear hi);refine hK.out _ _ ⟨(zz BK120.out 0).trans rfl,(zz BK120.out 1).trans rfl,(zz BK118.out 0).trans rfl,(zz BK118.out 1).trans rfl,((HB.out.cell (zl w _ hw123_0)).trans hw123_0),((HB.out.cell (zl w _ hw123_1)).trans hw123_1),((HB.out.cell (zl w _ hw125_0)).trans hw125_0),((HB.out.cell (zl w _ hw125_1)).trans hw125_1)⟩ (fun hHeld => ?_);clear hK K;refine norm_ (a':=?_) ?_ ?_;rotate_left
                ·
                 show Act.put _ (some 92) _=_
                 simp only [Act.put,zi,zj,zk,zG,zH]
                 rfl
                refine pure_ (i:=15) (N:=some 93) (v:=?_) (a':=?_) (bm_ 16 17) rfl rfl (any_of HT_.out (by kernel_rfl)) (fun _ _ _ h => h) (Or.inl ⟨by rfl,?_⟩) ?_ ?_;rotate_left
                ·
                 intro w'
                 go_simp
                 with_reducible rfl
                rotate_left
                ·
                 simp only [Act.put,zi,zj,zk,zG,zH]
                 rfl
                refine pure_ (i:=16) (N:=some 94) (v:=?_) (a':=?_) (bm_ 17 17) rfl rfl (any_of HT_.out (by kernel_rfl)) (fun _ _ _ h => h) (Or.inl ⟨by rfl,?_⟩) ?_ ?_;rotate_left
                ·
                 intro w'
                 go_simp
                 with_reducible rfl
                rotate_left
                ·
                 simp only [Act.put,zi,zj,zk,zG,zH]
                 rfl
                refine done_ (done_of HT_.out (by kernel_rfl)) ?_
                try go_wp2
                go_ret
                exact ⟨by first|rfl|(simp [yt,yu] <;> rfl)|(simp [*,yt,yu] <;> rfl),by repeat (with_reducible first|exact HB.out|apply za|apply zb|apply zc|refine zd ?_ GE115.out|refine zd ?_ GE118.out|refine zd ?_ GE120.out)⟩
               replace c56:=yb.mpr c56;subst c56;have H1 : (some false)=some r:=by rw [if_neg (show ¬ (false=true) by decide)] at H;exact H
               clear H;have H:=H1;clear H1;obtain rfl:=zU H;have hnb74:=NB120_115.out;have hnc74:=NB115_120.out;have hnb75:=NB120_118.out;have hnc75:=NB118_120.out;obtain ⟨hcz76_0,hcz76_1,hfz76_0,hfz76_1⟩:=cB2 BK120.out
               try go_wp2
               replace BK115:=zh (zf BK115.out);replace BK118:=zh (zf BK118.out);replace BK120:=zh (zf BK120.out);replace HB:=zh (zc HB.out);have p123 : 0≤(x7_5 : Int):=zy (by first|(with_reducible assumption)|assumption);have q123 : x7_5<(((rd_T67 l0_0 x4_2).f1).length : Int):=zy (by first|(with_reducible assumption)|assumption);obtain ⟨ad123,e123,hx123_0,hx123_1⟩:=at_T51 HR119_1.out x7_5 p123 q123;have hw123_1:=hx123_1;have hw123_0:=hx123_0
               cases e123
               replace hx123_0:=(HB.out.cell (zl w _ hx123_0)).trans hx123_0;replace hx123_1:=(HB.out.cell (zl w _ hx123_1)).trans hx123_1;replace p123:=eq_true p123;replace q123:=eq_true q123;refine start_ (n:=17) (S:=fun w' => w'.cell? ⟨gb120,0,none⟩=some (.int .i64 ((rd_T67 l0_0 x4_2).f0))∧w'.cell? ⟨gb120,1,none⟩=some (.slice (some ad123) ((rd_T67 l0_0 x4_2).f1).length c119_1)∧w'.cell? (ad123.add ((x7_5).toNat * 2))=some (.string ((rd_T51 ((rd_T67 l0_0 x4_2).f1) x7_5).f0))∧w'.cell? ⟨(ad123.add ((x7_5).toNat * 2)).block,(ad123.add ((x7_5).toNat * 2)).off + 1,none⟩=some (.int .i64 ((rd_T51 ((rd_T67 l0_0 x4_2).f1) x7_5).f1))) (ds:=[]) (bm_ 0 17) (by kernel_rfl) rfl rfl ⟨(zz BK120.out 0).trans rfl,(zz BK120.out 1).trans rfl,((HB.out.cell (zl w _ hw123_0)).trans hw123_0),((HB.out.cell (zl w _ hw123_1)).trans hw123_1)⟩ (fun hHeld => ?_);refine with_tabW F3.tab18 F3.bits18 (fun HT_ HW_ => ?_);generalize wr.drew=w77 at BK115 BK118 BK120 HB hx123_0 hx123_1 hHeld ⊢;refine pure_ (i:=0) (N:=some 78) (v:=?_) (a':=?_) (bm_ 1 17) rfl rfl (any_of HT_.out (by kernel_rfl)) (fun _ _ _ h => h) (Or.inl ⟨by rfl,?_⟩) ?_ ?_;rotate_left
               ·
                intro w'
                go_simp
                with_reducible rfl
               rotate_left
               ·
                simp only [Act.put,zi,zj,zk,zG,zH]
                rfl
               refine pure_ (i:=2) (N:=some 80) (v:=?_) (a':=?_) #[true,false,true,false,false,false,false,false,false,false,false,false,false,false,false,false,false] rfl rfl (any_of HT_.out (by kernel_rfl)) (fun _ _ _ h => h) (Or.inl ⟨by rfl,?_⟩) ?_ ?_;rotate_left
               ·
                intro w'
                go_simp
                with_reducible rfl
               rotate_left
               ·
                simp only [Act.put,zi,zj,zk,zG,zH]
                rfl
               refine take_ (i:=1) (N:=some 79) (v:=?_) (a':=?_) (bm_ 3 17) rfl rfl (yo HT_.out HW_.out (by kernel_rfl)) (fun _ _ _ h => h) (Or.inl ⟨by rfl,?_⟩) hHeld ?_ ?_;rotate_left
               ·
                rintro w' ⟨s0,s1,s2,s3⟩
                go_simp
                with_reducible rfl
               rotate_left
               ·
                simp only [Act.put,zi,zj,zk,zG,zH]
                rfl
               refine pure_ (i:=3) (N:=some 81) (v:=?_) (a':=?_) (bm_ 4 17) rfl rfl (any_of HT_.out (by kernel_rfl)) (fun _ _ _ h => h) (Or.inl ⟨by rfl,?_⟩) ?_ ?_;rotate_left
               ·
                intro w'
                go_simp
                with_reducible rfl
               rotate_left
               ·
                simp only [Act.put,zi,zj,zk,zG,zH]
                rfl
               refine take_ (i:=4) (N:=some 82) (v:=?_) (a':=?_) (bm_ 5 17) rfl rfl (yo HT_.out HW_.out (by kernel_rfl)) (fun _ _ _ h => h) (Or.inl ⟨by rfl,?_⟩) hHeld ?_ ?_;rotate_left
               ·
                rintro w' ⟨s0,s1,s2,s3⟩
                go_simp
                with_reducible rfl
               rotate_left
               ·
                simp only [Act.put,zi,zj,zk,zG,zH]
                rfl
               refine one_ (i:=5) (N:=some 83) (bm_ 6 17) rfl rfl (one_of HT_.out (by kernel_rfl)) (by decide) (fun K hK => ?_);refine goes_ Try.func41 (by kernel_rfl) rfl #[.agg #[.string ((rd_T51 ((rd_T67 l0_0 x4_2).f1) x7_5).f0),.int .i64 ((rd_T51 ((rd_T67 l0_0 x4_2).f1) x7_5).f1)]] (by rfl) rfl rfl (by (try simp only [zt,zu,zv]);first|done|rfl|(simp only [zw,zx];rfl)|(simp only [yr,ys,zV,zW];rfl)) ?_
               with_reducible refine (F0d.calls  ((rd_T51 ((rd_T67 l0_0 x4_2).f1) x7_5).f0) ((rd_T51 ((rd_T67 l0_0 x4_2).f1) x7_5).f1) false _ A55.out).mono ?_
               rintro e w78 ⟨rfl,hb⟩;refine ⟨_,rfl,?_⟩;replace BK115:=zh (cD BK115.out (by (with_reducible repeat first|apply ze|apply zf|apply zg);exact BK115.out) hb);replace BK118:=zh (cD BK118.out (by (with_reducible repeat first|apply ze|apply zf|apply zg);exact BK118.out) hb);replace BK120:=zh (cD BK120.out (by (with_reducible repeat first|apply ze|apply zf|apply zg);exact BK120.out) hb);replace HB:=zh (zC (by repeat (with_reducible first|exact HB.out|apply za|apply zb|apply zc|refine zd ?_ GE115.out|refine zd ?_ GE118.out|refine zd ?_ GE120.out)) hb);(try clear hb);(try clear hb2);(try clear hk);(try clear hi);refine hK.out _ _ ⟨(zz BK120.out 0).trans rfl,(zz BK120.out 1).trans rfl,((HB.out.cell (zl w _ hw123_0)).trans hw123_0),((HB.out.cell (zl w _ hw123_1)).trans hw123_1)⟩ (fun hHeld => ?_);clear hK K;refine norm_ (a':=?_) ?_ ?_;rotate_left
               ·
                show Act.put _ (some 83) _=_
                simp only [Act.put,zi,zj,zk,zG,zH]
                rfl
               refine pure_ (i:=6) (N:=some 84) (v:=?_) (a':=?_) (bm_ 7 17) rfl rfl (any_of HT_.out (by kernel_rfl)) (fun _ _ _ h => h) (Or.inl ⟨by rfl,?_⟩) ?_ ?_;rotate_left
               ·
                intro w'
                go_simp
                with_reducible rfl
               rotate_left
               ·
                simp only [Act.put,zi,zj,zk,zG,zH]
                rfl
               refine pure_ (i:=7) (N:=some 85) (v:=?_) (a':=?_) (bm_ 8 17) rfl rfl (any_of HT_.out (by kernel_rfl)) (fun _ _ _ h => h) (Or.inl ⟨by rfl,?_⟩) ?_ ?_;rotate_left
               ·
                intro w'
                go_simp
                with_reducible rfl
               rotate_left
               ·
                simp only [Act.put,zi,zj,zk,zG,zH]
                rfl
               refine pure_ (i:=8) (N:=some 86) (v:=undef) (a':=?_) (bm_ 9 17) rfl rfl (any_of HT_.out (by kernel_rfl)) (fun _ _ _ h => h) (Or.inr ⟨by rfl,rfl⟩) ?_ ?_;rotate_left
               ·
                simp only [Act.put,zi,zj,zk,zG,zH]
                rfl
               refine pure_ (i:=9) (N:=some 87) (v:=undef) (a':=?_) (bm_ 10 17) rfl rfl (any_of HT_.out (by kernel_rfl)) (fun _ _ _ h => h) (Or.inr ⟨by rfl,rfl⟩) ?_ ?_;rotate_left
               ·
                simp only [Act.put,zi,zj,zk,zG,zH]
                rfl
               refine pure_ (i:=10) (N:=some 88) (v:=undef) (a':=?_) (bm_ 11 17) rfl rfl (any_of HT_.out (by kernel_rfl)) (fun _ _ _ h => h) (Or.inr ⟨by rfl,rfl⟩) ?_ ?_;rotate_left
               ·
                simp only [Act.put,zi,zj,zk,zG,zH]
                rfl
               refine pure_ (i:=11) (N:=some 89) (v:=undef) (a':=?_) (bm_ 12 17) rfl rfl (any_of HT_.out (by kernel_rfl)) (fun _ _ _ h => h) (Or.inr ⟨by rfl,rfl⟩) ?_ ?_;rotate_left
               ·
                simp only [Act.put,zi,zj,zk,zG,zH]
                rfl
               refine pure_ (i:=12) (N:=some 90) (v:=undef) (a':=?_) (bm_ 13 17) rfl rfl (any_of HT_.out (by kernel_rfl)) (fun _ _ _ h => h) (Or.inr ⟨by rfl,rfl⟩) ?_ ?_;rotate_left
               ·
                simp only [Act.put,zi,zj,zk,zG,zH]
                rfl
               refine pure_ (i:=13) (N:=some 91) (v:=undef) (a':=?_) (bm_ 14 17) rfl rfl (any_of HT_.out (by kernel_rfl)) (fun _ _ _ h => h) (Or.inr ⟨by rfl,rfl⟩) ?_ ?_;rotate_left
               ·
                simp only [Act.put,zi,zj,zk,zG,zH]
                rfl
               refine pure_ (i:=14) (N:=some 92) (v:=undef) (a':=?_) (bm_ 15 17) rfl rfl (any_of HT_.out (by kernel_rfl)) (fun _ _ _ h => h) (Or.inr ⟨by rfl,rfl⟩) ?_ ?_;rotate_left
               ·
                simp only [Act.put,zi,zj,zk,zG,zH]
                rfl
               refine pure_ (i:=15) (N:=some 93) (v:=undef) (a':=?_) (bm_ 16 17) rfl rfl (any_of HT_.out (by kernel_rfl)) (fun _ _ _ h => h) (Or.inr ⟨by rfl,rfl⟩) ?_ ?_;rotate_left
               ·
                simp only [Act.put,zi,zj,zk,zG,zH]
                rfl
               refine pure_ (i:=16) (N:=some 94) (v:=?_) (a':=?_) (bm_ 17 17) rfl rfl (any_of HT_.out (by kernel_rfl)) (fun _ _ _ h => h) (Or.inl ⟨by rfl,?_⟩) ?_ ?_;rotate_left
               ·
                intro w'
                go_simp
                with_reducible rfl
               rotate_left
               ·
                simp only [Act.put,zi,zj,zk,zG,zH]
                rfl
               refine done_ (done_of HT_.out (by kernel_rfl)) ?_
               try go_wp2
               go_ret
               exact ⟨by first|rfl|(simp [yt,yu] <;> rfl)|(simp [*,yt,yu] <;> rfl),by repeat (with_reducible first|exact HB.out|apply za|apply zb|apply zc|refine zd ?_ GE115.out|refine zd ?_ GE118.out|refine zd ?_ GE120.out)⟩
              rw [if_neg c54] at H;exact absurd H (by simp)
             rw [if_neg c53] at H;have c53b0 : decide (x7_5<(((rd_T67 l0_0 x4_2).f1).length : Int))=false:=decide_eq_false c53;clear c53;have H':=zh H;clear H;have hnb79:=NB120_115.out;have hnc79:=NB115_120.out;have hnb80:=NB120_118.out;have hnc80:=NB118_120.out;obtain ⟨hcz81_0,hcz81_1,hfz81_0,hfz81_1⟩:=cB2 BK120.out
             go_wp2
             go_roundg k5
             case measure => have:=HJ1.out;have:=HK2.out;have:=HJ14.out;have:=HK4.out;have:=HK5.out;omega
             case rel => exact ⟨(wrap64 (x4_2 + 1)),(x119000_5),(x119001_5),(by first|rfl|(simp;done)|(simp [*];done)),H',⟨by have:=HJ1.out;have:=HK2.out;have:=HJ14.out;have:=HK4.out;have:=HK5.out;omega⟩,⟨by (with_reducible repeat first|apply ze|apply zf|apply zg);exact BK115.out⟩,⟨by (with_reducible repeat first|apply ze|apply zf|apply zg);exact BK118.out⟩,⟨by repeat (with_reducible first|exact HB.out|apply za|apply zb|apply zc|refine zd ?_ GE115.out|refine zd ?_ GE118.out|refine zd ?_ GE120.out)⟩⟩
      rw [if_neg c14] at H;exact absurd H (by simp)
     rw [if_neg c13] at H;have c13b0 : decide (x4_2<(l0_0.length : Int))=false:=decide_eq_false c13;clear c13;obtain rfl:=zU H;have hnb82:=NB115_118.out;have hnc82:=NB118_115.out;obtain ⟨hcz83_0,hcz83_1,hfz83_0,hfz83_1⟩:=cB2 BK115.out
     go_wp2
     go_ret
     exact ⟨by first|rfl|(simp [yt,yu] <;> rfl)|(simp [*,yt,yu] <;> rfl),by repeat (with_reducible first|exact HB.out|apply za|apply zb|apply zc|refine zd ?_ GE115.out|refine zd ?_ GE118.out)⟩

end Go.Proofs.Ytamikhmpfmgofaa.Q
end
section
namespace Go.Proofs.Ytamikhmpfmgofaa.Q
open Go.RowKit Go.Proofs.YtamikhmpfmgofaaW.PrintWords Go.Proofs.YtamikhmpfmgofaaW.PrintLast Go.Proofs.YtamikhmpfmgofaaW.PrintMore
attribute [local go_sem] max2_int min2_int max_two min_two max_three min_three max_four min_four max2_str min2_str str_geq str_gtr str_leq
set_option linter.unusedVariables false
set_option linter.unusedSimpArgs false

def Fe.l0 : Nat→Int→Int→List (S67)→Int→ByteArray→Int→Option (Int)
 | 0,_,_,_,_,_,_ => none
 | k + 1,x5,x6,x129000,x129001,x130000,x130001 => if x6<(x129000.length : Int) then (if 0≤x6 then (if (((rd_T67 x129000 x6).f1).length : Int) > 0 then (if 0<(((rd_T67 x129000 x6).f1).length : Int) then ((F08.f x130000 x130001 ((rd_T51 ((rd_T67 x129000 x6).f1) 0).f0) ((rd_T51 ((rd_T67 x129000 x6).f1) 0).f1)).bind fun t133 => (if t133=true then (Fe.l0 k x5 (wrap64 (x6 + 1)) x129000 x129001 x130000 x130001) else (Fe.l0 k x6 (wrap64 (x6 + 1)) x129000 x129001 x130000 x130001))) else (none)) else (Fe.l0 k x5 (wrap64 (x6 + 1)) x129000 x129001 x130000 x130001)) else (none)) else (some x5)
def Fe.f (k : Nat) (l0_0 : List (S67)) (a0_1 : Int) (a1_0 : ByteArray) (a1_1 : Int) : Option (Int):=Fe.l0 k 0 1 l0_0 a0_1 a1_0 a1_1
theorem Fe.mono_l : ∀ k,(∀ y0 y1 y2 y3 y4 y5,LeO (Fe.l0 k y0 y1 y2 y3 y4 y5) (Fe.l0 (k + 1) y0 y1 y2 y3 y4 y5))
 | 0 => fun _ _ _ _ _ _ r h => by simp [Fe.l0] at h
 | k + 1 => by
  have ih0:=Fe.mono_l k;intro y0 y1 y2 y3 y4 y5;unfold Fe.l0
  repeat' first|(with_reducible first|exact ih0 _ _ _ _ _ _|exact zQ _|exact zN _|refine zP ?_ ?_|refine zO ?_ (fun _ => ?_))|refine zP ?_ ?_|refine zO ?_ (fun _ => ?_)
theorem Fe.mono : ∀ a0 a1 a2 a3 k,LeO (Fe.f k a0 a1 a2 a3) (Fe.f (k + 1) a0 a1 a2 a3):=by
 intro a0 a1 a2 a3 k;have ih0:=Fe.mono_l k;unfold Fe.f
 repeat' first|(with_reducible first|exact ih0 _ _ _ _ _ _|exact zQ _|exact zN _|refine zP ?_ ?_|refine zO ?_ (fun _ => ?_))|refine zP ?_ ?_|refine zO ?_ (fun _ => ?_)
def Fe.T5 : Bool×List (List Nat×List Nat):=(true,[([],[]),([0],[0]),([],[]),([1,2],[1,2]),([3],[3]),([4],[4]),([5],[5]),([6],[6]),([7],[7]),([8],[8]),([8],[8]),([10,8],[8,10]),([8],[8]),([11,12,8],[8,11,12]),([13,8],[8,13]),([14,8],[8,14]),([15,8],[8,15]),([16,8],[8,16]),([9,17,8,8],[8,9,17]),([18,8],[8,18]),([8,19],[8,19])])
def Fe.B5 : List Nat:=[0,1,0,7,15,31,63,127,255,511,511,1535,511,7679,15871,32255,65023,130559,262143,524287,1048575]
theorem Fe.tab5 : rtab .any (opsOf Try.f53 5)=Fe.T5:=by kernel_rfl
theorem Fe.bits5 : waitsOk Fe.T5.2 Fe.B5=true:=by kernel_rfl
set_option maxHeartbeats 8000000 in
set_option maxRecDepth 100000 in
theorem Fe.calls (k : Nat) (A0_0 : Option Addr) (c0_0 : Nat) (l0_0 : List (S67)) (a0_1 : Int) (a1_0 : ByteArray) (a1_1 : Int) (r : Int) (w : World) (hr0_0 : Kd.C k67 w A0_0 l0_0.length l0_0) (hc0_0 : l0_0.length≤c0_0) (h : Fe.f k l0_0 a0_1 a1_0 a1_1=some r) :
  Calls Try.prog 53 #[.agg #[.slice A0_0 l0_0.length c0_0,.int .i64 a0_1],.agg #[.string a1_0,.int .i64 a1_1]] w fun e w' => e = .returned (.int .i64 r)∧Below w.heap.size w w':=by
 have hu35:=Try.underlying35;have hu51:=Try.underlying51;have HR0_0:=zh hr0_0;have HC0_0:=zh hc0_0;clear hr0_0 hc0_0;have HB:=zh (Below.refl w.heap.size w);have H : (Fe.l0 k 0 1 l0_0 a0_1 a1_0 a1_1)=some r:=h;clear h;have H':=zh H;clear H
 go_enter Try.func53,Try.ntmps53
 go_wp2_with (first|((with_reducible refine zK (N:=2) rfl ?_);refine zI ?hg (N:=2) ?hd (cs:=#[.slice A0_0 l0_0.length c0_0,.int .i64 a0_1]) (t:=35) ?hr ?_;(case hd|hg => rfl);(case hr => go_simp <;> rfl);intro gb128 hg w3 hbox hb;have BK128:=zh (hbox);have hH_:=cH (by repeat (with_reducible first|exact HB.out|apply za|apply zb|apply zc)) hb hg;have GW128:=zh hH_.1;have GE128:=GW128;replace HB:=zh hH_.2;clear hb hbox hg hH_)|((with_reducible refine zK (N:=3) rfl ?_);refine zI ?hg (N:=3) ?hd (cs:=#[.string a1_0,.int .i64 a1_1]) (t:=51) ?hr ?_;(case hd|hg => rfl);(case hr => go_simp <;> rfl);intro gb129 hg w4 hbox hb;have BK129:=zh (hbox);have hH_:=cH (by repeat (with_reducible first|exact HB.out|apply za|apply zb|apply zc|refine zd ?_ GE128.out)) hb hg;have GW129:=zh hH_.1;have GE129:=GW129;replace HB:=zh hH_.2;have NB128_129:=zh ((by rw [hg];exact yc (yi (g:=gb128) (o:=.cells #[.slice A0_0 l0_0.length c0_0,.int .i64 a0_1] 35 (0,0)) (by (with_reducible repeat first|apply ze|apply zf|apply zg);exact BK128.out)) : gb128≠gb129));have NB129_128:=zh NB128_129.out.symm;replace BK128:=zh (cD BK128.out (by (with_reducible repeat first|apply ze|apply zf|apply zg);exact BK128.out) hb);clear hb hbox hg hH_))
 go_loopg [5,6] k (fun kq v5 v6 w' => ∃ (x5_1 : Int) (x6_1 : Int),v5 = .int .i64 x5_1∧v6 = .int .i64 x6_1∧Aside0 (Fe.l0 kq x5_1 x6_1 l0_0 a0_1 a1_0 a1_1=some r)∧Aside0 (kq≤k)∧Aside0 (w'.heap[gb128]? = some (.cells #[(.slice A0_0 l0_0.length c0_0),.int .i64 a0_1] 35 (0,0)))∧Aside0 (w'.heap[gb129]? = some (.cells #[.string a1_0,.int .i64 a1_1] 51 (0,0)))∧Aside0 (Below w.heap.size w w'))
 case atStart => exact ⟨(0),(1),(by first|rfl|(simp;done)|(simp [*];done)),(by first|rfl|(simp;done)|(simp [*];done)),H',⟨ye _⟩,⟨by (with_reducible repeat first|apply ze|apply zf|apply zg);exact BK128.out⟩,⟨by (with_reducible repeat first|apply ze|apply zf|apply zg);exact BK129.out⟩,⟨by repeat (with_reducible first|exact HB.out|apply za|apply zb|apply zc|refine zd ?_ GE128.out|refine zd ?_ GE129.out)⟩⟩
 case round =>
  clear H'
  try clear p2
  obtain ⟨x5_1,x6_1,rfl,rfl,HA,HK1,BK128,BK129,HB⟩:=hrel
  cases gk with
  | zero => exact absurd HA.out (by simp [Fe.l0])
  | succ k1 =>
   have H:=HA.out;clear HA;simp only [Fe.l0] at H
   by_cases c5 : x6_1<(l0_0.length : Int)
   ·
    rw [if_pos c5] at H
    have c5b0 : decide (x6_1<(l0_0.length : Int))=true:=decide_eq_true c5;clear c5
    by_cases c6 : 0≤x6_1
    ·
     rw [if_pos c6] at H
     have c6b0 : decide (0≤x6_1)=true:=decide_eq_true c6;clear c6
     by_cases c7 : (((rd_T67 l0_0 x6_1).f1).length : Int) > 0
     ·
      rw [if_pos c7] at H
      have c7b0 : decide (0<(((rd_T67 l0_0 x6_1).f1).length : Int))=true:=decide_eq_true c7;have c7b1 : decide (0<((rd_T67 l0_0 x6_1).f1).length)=true:=decide_eq_true (by omega);clear c7
      by_cases c8 : 0<(((rd_T67 l0_0 x6_1).f1).length : Int)
      ·
       rw [if_pos c8] at H
       have c8b0 : decide (0<(((rd_T67 l0_0 x6_1).f1).length : Int))=true:=decide_eq_true c8;have c8b1 : decide (0<((rd_T67 l0_0 x6_1).f1).length)=true:=decide_eq_true (by omega);clear c8;replace H:=zT.mp H;obtain ⟨t133,A90,H⟩:=H;replace H : (if t133=true then (Fe.l0 k1 x5_1 (wrap64 (x6_1 + 1)) l0_0 a0_1 a1_0 a1_1) else (Fe.l0 k1 x6_1 (wrap64 (x6_1 + 1)) l0_0 a0_1 a1_0 a1_1))=some r:=H;have A9:=zh A90;clear A90
       by_cases c10 : t133=true
       ·
        subst c10
        have H1 : (Fe.l0 k1 x5_1 (wrap64 (x6_1 + 1)) l0_0 a0_1 a1_0 a1_1)=some r:=by rw [if_pos rfl] at H;exact H
        clear H;have H:=H1;clear H1;have H':=zh H;clear H;have hnb11:=NB128_129.out;have hnc11:=NB129_128.out;obtain ⟨hcz12_0,hcz12_1,hfz12_0,hfz12_1⟩:=cB2 BK128.out
        try go_wp2
        replace BK128:=zh (zf BK128.out);replace BK129:=zh (zf BK129.out);replace HB:=zh (zc HB.out);have p130 : 0≤(x6_1 : Int):=zy (by first|(with_reducible assumption)|assumption);have q130 : x6_1<(l0_0.length : Int):=zy (by first|(with_reducible assumption)|assumption);obtain ⟨ad130,A130_1,c130_1,e130,hx130_0,hx130_1,hl130_1,hi130_1⟩:=at_T67 HR0_0.out x6_1 p130 q130;have hw130_1:=hx130_1;have hw130_0:=hx130_0
        cases e130
        replace hx130_0:=(HB.out.cell (zl w _ hx130_0)).trans hx130_0;replace hx130_1:=(HB.out.cell (zl w _ hx130_1)).trans hx130_1;have HR130_1:=zh hi130_1;have HC130_1:=zh hl130_1;clear hi130_1 hl130_1;replace p130:=eq_true p130;replace q130:=eq_true q130;have p131 : 0≤(x6_1 : Int):=zy (by first|(with_reducible assumption)|assumption);have q131 : x6_1<(l0_0.length : Int):=zy (by first|(with_reducible assumption)|assumption);obtain ⟨ad131,A131_1,c131_1,e131,hx131_0,hx131_1,hl131_1,hi131_1⟩:=at_T67 HR0_0.out x6_1 p131 q131;have hw131_1:=hx131_1;have hw131_0:=hx131_0;obtain rfl : ad130=ad131:=(by injection e131);replace hx131_0:=(HB.out.cell (zl w _ hx131_0)).trans hx131_0;replace hx131_1:=(HB.out.cell (zl w _ hx131_1)).trans hx131_1;have HR131_1:=zh hi131_1;have HC131_1:=zh hl131_1;clear hi131_1 hl131_1;replace p131:=eq_true p131;replace q131:=eq_true q131;have ea_:=zU (hx130_1.symm.trans hx131_1);injection ea_ with ea_ en_ ec_;subst ea_;subst ec_;clear en_;have p132 : 0≤(0 : Int):=(by omega);have q132 : 0<(((rd_T67 l0_0 x6_1).f1).length : Int):=zy (by first|(with_reducible assumption)|assumption);obtain ⟨ad132,e132,hx132_0,hx132_1⟩:=at_T51 HR131_1.out 0 p132 q132;have hw132_1:=hx132_1;(try rw [show ((0 : Int)).toNat=0 from rfl] at hw132_1);(try rw [show 0 * 2=0 from rfl] at hw132_1);(try rw [Addr.add_zero'] at hw132_1);have hw132_0:=hx132_0;(try rw [show ((0 : Int)).toNat=0 from rfl] at hw132_0);(try rw [show 0 * 2=0 from rfl] at hw132_0);(try rw [Addr.add_zero'] at hw132_0)
        cases e132
        have qi132 : (0<((rd_T67 l0_0 x6_1).f1).length)=True:=eq_true (by omega);(try rw [show ((0 : Int)).toNat=0 from rfl] at hx132_0);(try rw [show 0 * 2=0 from rfl] at hx132_0);(try rw [Addr.add_zero'] at hx132_0);(try rw [show ((0 : Int)).toNat=0 from rfl] at hx132_1);(try rw [show 0 * 2=0 from rfl] at hx132_1);(try rw [Addr.add_zero'] at hx132_1);replace hx132_0:=(HB.out.cell (zl w _ hx132_0)).trans hx132_0;replace hx132_1:=(HB.out.cell (zl w _ hx132_1)).trans hx132_1;replace p132:=eq_true p132;replace q132:=eq_true q132;refine start_ (n:=21) (S:=fun w' => w'.cell? ⟨gb128,0,none⟩=some (.slice (some ad130) l0_0.length c0_0)∧w'.cell? ⟨gb128,1,none⟩=some (.int .i64 a0_1)∧w'.cell? ⟨gb129,0,none⟩=some (.string a1_0)∧w'.cell? ⟨gb129,1,none⟩=some (.int .i64 a1_1)∧w'.cell? (ad130.add ((x6_1).toNat * 2))=some (.int .i64 ((rd_T67 l0_0 x6_1).f0))∧w'.cell? ⟨(ad130.add ((x6_1).toNat * 2)).block,(ad130.add ((x6_1).toNat * 2)).off + 1,none⟩=some (.slice (some ad132) ((rd_T67 l0_0 x6_1).f1).length c130_1)∧w'.cell? (ad130.add ((x6_1).toNat * 2))=some (.int .i64 ((rd_T67 l0_0 x6_1).f0))∧w'.cell? ⟨(ad130.add ((x6_1).toNat * 2)).block,(ad130.add ((x6_1).toNat * 2)).off + 1,none⟩=some (.slice (some ad132) ((rd_T67 l0_0 x6_1).f1).length c130_1)∧w'.cell? ad132=some (.string ((rd_T51 ((rd_T67 l0_0 x6_1).f1) 0).f0))∧w'.cell? ⟨ad132.block,ad132.off + 1,none⟩=some (.int .i64 ((rd_T51 ((rd_T67 l0_0 x6_1).f1) 0).f1))) (ds:=[]) (bm_ 0 21) (by kernel_rfl) rfl rfl ⟨(zz BK128.out 0).trans rfl,(zz BK128.out 1).trans rfl,(zz BK129.out 0).trans rfl,(zz BK129.out 1).trans rfl,((HB.out.cell (zl w _ hw130_0)).trans hw130_0),((HB.out.cell (zl w _ hw130_1)).trans hw130_1),((HB.out.cell (zl w _ hw131_0)).trans hw131_0),((HB.out.cell (zl w _ hw131_1)).trans hw131_1),((HB.out.cell (zl w _ hw132_0)).trans hw132_0),((HB.out.cell (zl w _ hw132_1)).trans hw132_1)⟩ (fun hHeld => ?_);refine with_tabW Fe.tab5 Fe.bits5 (fun HT_ HW_ => ?_);generalize wr.drew=w13 at BK128 BK129 HB HR130_1 HR131_1 hx130_0 hx130_1 hx131_0 hx131_1 hx132_0 hx132_1 hHeld ⊢;refine pure_ (i:=0) (N:=some 14) (v:=?_) (a':=?_) (bm_ 1 21) rfl rfl (any_of HT_.out (by kernel_rfl)) (fun _ _ _ h => h) (Or.inl ⟨by rfl,?_⟩) ?_ ?_;rotate_left
        ·
         intro w'
         go_simp
         with_reducible rfl
        rotate_left
        ·
         simp only [Act.put,zi,zj,zk,zG,zH]
         rfl
        refine pure_ (i:=2) (N:=some 16) (v:=?_) (a':=?_) #[true,false,true,false,false,false,false,false,false,false,false,false,false,false,false,false,false,false,false,false,false] rfl rfl (any_of HT_.out (by kernel_rfl)) (fun _ _ _ h => h) (Or.inl ⟨by rfl,?_⟩) ?_ ?_;rotate_left
        ·
         intro w'
         go_simp
         with_reducible rfl
        rotate_left
        ·
         simp only [Act.put,zi,zj,zk,zG,zH]
         rfl
        refine take_ (i:=1) (N:=some 15) (v:=?_) (a':=?_) (bm_ 3 21) rfl rfl (yo HT_.out HW_.out (by kernel_rfl)) (fun _ _ _ h => h) (Or.inl ⟨by rfl,?_⟩) hHeld ?_ ?_;rotate_left
        ·
         rintro w' ⟨s0,s1,s2,s3,s4,s5,s6,s7,s8,s9⟩
         go_simp
         with_reducible rfl
        rotate_left
        ·
         simp only [Act.put,zi,zj,zk,zG,zH]
         rfl
        refine pure_ (i:=3) (N:=some 17) (v:=?_) (a':=?_) (bm_ 4 21) rfl rfl (any_of HT_.out (by kernel_rfl)) (fun _ _ _ h => h) (Or.inl ⟨by rfl,?_⟩) ?_ ?_;rotate_left
        ·
         intro w'
         go_simp
         with_reducible rfl
        rotate_left
        ·
         simp only [Act.put,zi,zj,zk,zG,zH]
         rfl
        refine pure_ (i:=4) (N:=some 18) (v:=?_) (a':=?_) (bm_ 5 21) rfl rfl (any_of HT_.out (by kernel_rfl)) (fun _ _ _ h => h) (Or.inl ⟨by rfl,?_⟩) ?_ ?_;rotate_left
        ·
         intro w'
         go_simp
         with_reducible rfl
        rotate_left
        ·
         simp only [Act.put,zi,zj,zk,zG,zH]
         rfl
        refine take_ (i:=5) (N:=some 19) (v:=?_) (a':=?_) (bm_ 6 21) rfl rfl (yo HT_.out HW_.out (by kernel_rfl)) (fun _ _ _ h => h) (Or.inl ⟨by rfl,?_⟩) hHeld ?_ ?_;rotate_left
        ·
         rintro w' ⟨s0,s1,s2,s3,s4,s5,s6,s7,s8,s9⟩
         go_simp
         with_reducible rfl
        rotate_left
        ·
         simp only [Act.put,zi,zj,zk,zG,zH]
         rfl
        refine pure_ (i:=6) (N:=some 20) (v:=?_) (a':=?_) (bm_ 7 21) rfl rfl (any_of HT_.out (by kernel_rfl)) (fun _ _ _ h => h) (Or.inl ⟨by rfl,?_⟩) ?_ ?_;rotate_left
        ·
         intro w'
         go_simp
         with_reducible rfl
        rotate_left
        ·
         simp only [Act.put,zi,zj,zk,zG,zH]
         rfl
        refine pure_ (i:=7) (N:=some 21) (v:=?_) (a':=?_) (bm_ 8 21) rfl rfl (any_of HT_.out (by kernel_rfl)) (fun _ _ _ h => h) (Or.inl ⟨by rfl,?_⟩) ?_ ?_;rotate_left
        ·
         intro w'
         go_simp
         with_reducible rfl
        rotate_left
        ·
         simp only [Act.put,zi,zj,zk,zG,zH]
         rfl
        refine pure_ (i:=8) (N:=some 22) (v:=?_) (a':=?_) (bm_ 9 21) rfl rfl (any_of HT_.out (by kernel_rfl)) (fun _ _ _ h => h) (Or.inl ⟨by rfl,?_⟩) ?_ ?_;rotate_left
        ·
         intro w'
         go_simp
         with_reducible rfl
        rotate_left
        ·
         simp only [Act.put,zi,zj,zk,zG,zH]
         rfl
        refine pure_ (i:=10) (N:=some 24) (v:=?_) (a':=?_) #[true,true,true,true,true,true,true,true,true,false,true,false,false,false,false,false,false,false,false,false,false] rfl rfl (any_of HT_.out (by kernel_rfl)) (fun _ _ _ h => h) (Or.inl ⟨by rfl,?_⟩) ?_ ?_;rotate_left
        ·
         intro w'
         go_simp
         with_reducible rfl
        rotate_left
        ·
         simp only [Act.put,zi,zj,zk,zG,zH]
         rfl
        refine pure_ (i:=12) (N:=some 26) (v:=?_) (a':=?_) #[true,true,true,true,true,true,true,true,true,false,true,false,true,false,false,false,false,false,false,false,false] rfl rfl (any_of HT_.out (by kernel_rfl)) (fun _ _ _ h => h) (Or.inl ⟨by rfl,?_⟩) ?_ ?_;rotate_left
        ·
         intro w'
         go_simp
         with_reducible rfl
        rotate_left
        ·
         simp only [Act.put,zi,zj,zk,zG,zH]
         rfl
        refine take_ (i:=9) (N:=some 23) (v:=?_) (a':=?_) #[true,true,true,true,true,true,true,true,true,true,true,false,true,false,false,false,false,false,false,false,false] rfl rfl (yo HT_.out HW_.out (by kernel_rfl)) (fun _ _ _ h => h) (Or.inl ⟨by rfl,?_⟩) hHeld ?_ ?_;rotate_left
        ·
         rintro w' ⟨s0,s1,s2,s3,s4,s5,s6,s7,s8,s9⟩
         go_simp
         with_reducible rfl
        rotate_left
        ·
         simp only [Act.put,zi,zj,zk,zG,zH]
         rfl
        refine take_ (i:=11) (N:=some 25) (v:=?_) (a':=?_) (bm_ 13 21) rfl rfl (yo HT_.out HW_.out (by kernel_rfl)) (fun _ _ _ h => h) (Or.inl ⟨by rfl,?_⟩) hHeld ?_ ?_;rotate_left
        ·
         rintro w' ⟨s0,s1,s2,s3,s4,s5,s6,s7,s8,s9⟩
         go_simp
         with_reducible rfl
        rotate_left
        ·
         simp only [Act.put,zi,zj,zk,zG,zH]
         rfl
        refine pure_ (i:=13) (N:=some 27) (v:=?_) (a':=?_) (bm_ 14 21) rfl rfl (any_of HT_.out (by kernel_rfl)) (fun _ _ _ h => h) (Or.inl ⟨by rfl,?_⟩) ?_ ?_;rotate_left
        ·
         intro w'
         go_simp
         with_reducible rfl
        rotate_left
        ·
         simp only [Act.put,zi,zj,zk,zG,zH]
         rfl
        refine pure_ (i:=14) (N:=some 28) (v:=?_) (a':=?_) (bm_ 15 21) rfl rfl (any_of HT_.out (by kernel_rfl)) (fun _ _ _ h => h) (Or.inl ⟨by rfl,?_⟩) ?_ ?_;rotate_left
        ·
         intro w'
         go_simp
         with_reducible rfl
        rotate_left
        ·
         simp only [Act.put,zi,zj,zk,zG,zH]
         rfl
        refine take_ (i:=15) (N:=some 29) (v:=?_) (a':=?_) (bm_ 16 21) rfl rfl (yo HT_.out HW_.out (by kernel_rfl)) (fun _ _ _ h => h) (Or.inl ⟨by rfl,?_⟩) hHeld ?_ ?_;rotate_left
        ·
         rintro w' ⟨s0,s1,s2,s3,s4,s5,s6,s7,s8,s9⟩
         go_simp
         with_reducible rfl
        rotate_left
        ·
         simp only [Act.put,zi,zj,zk,zG,zH]
         rfl
        refine pure_ (i:=16) (N:=some 30) (v:=?_) (a':=?_) (bm_ 17 21) rfl rfl (any_of HT_.out (by kernel_rfl)) (fun _ _ _ h => h) (Or.inl ⟨by rfl,?_⟩) ?_ ?_;rotate_left
        ·
         intro w'
         go_simp
         with_reducible rfl
        rotate_left
        ·
         simp only [Act.put,zi,zj,zk,zG,zH]
         rfl
        refine take_ (i:=17) (N:=some 31) (v:=?_) (a':=?_) (bm_ 18 21) rfl rfl (yo HT_.out HW_.out (by kernel_rfl)) (fun _ _ _ h => h) (Or.inl ⟨by rfl,?_⟩) hHeld ?_ ?_;rotate_left
        ·
         rintro w' ⟨s0,s1,s2,s3,s4,s5,s6,s7,s8,s9⟩
         go_simp
         with_reducible rfl
        rotate_left
        ·
         simp only [Act.put,zi,zj,zk,zG,zH]
         rfl
        refine one_ (i:=18) (N:=some 32) (bm_ 19 21) rfl rfl (one_of HT_.out (by kernel_rfl)) (by decide) (fun K hK => ?_);refine goes_ Try.func52 (by kernel_rfl) rfl #[.agg #[.string a1_0,.int .i64 a1_1],.agg #[.string ((rd_T51 ((rd_T67 l0_0 x6_1).f1) 0).f0),.int .i64 ((rd_T51 ((rd_T67 l0_0 x6_1).f1) 0).f1)]] (by rfl) rfl rfl (by (try simp only [zt,zu,zv]);first|done|rfl|(simp only [zw,zx];rfl)|(simp only [yr,ys,zV,zW];rfl)) ?_
        with_reducible refine (F08.calls  a1_0 a1_1 ((rd_T51 ((rd_T67 l0_0 x6_1).f1) 0).f0) ((rd_T51 ((rd_T67 l0_0 x6_1).f1) 0).f1) true _ A9.out).mono ?_
        rintro e w14 ⟨rfl,hb⟩;refine ⟨_,rfl,?_⟩;replace BK128:=zh (cD BK128.out (by (with_reducible repeat first|apply ze|apply zf|apply zg);exact BK128.out) hb);replace BK129:=zh (cD BK129.out (by (with_reducible repeat first|apply ze|apply zf|apply zg);exact BK129.out) hb);replace HB:=zh (zC (by repeat (with_reducible first|exact HB.out|apply za|apply zb|apply zc|refine zd ?_ GE128.out|refine zd ?_ GE129.out)) hb);(try clear hb);(try clear hb2);(try clear hk);(try clear hi);refine hK.out _ _ ⟨(zz BK128.out 0).trans rfl,(zz BK128.out 1).trans rfl,(zz BK129.out 0).trans rfl,(zz BK129.out 1).trans rfl,((HB.out.cell (zl w _ hw130_0)).trans hw130_0),((HB.out.cell (zl w _ hw130_1)).trans hw130_1),((HB.out.cell (zl w _ hw131_0)).trans hw131_0),((HB.out.cell (zl w _ hw131_1)).trans hw131_1),((HB.out.cell (zl w _ hw132_0)).trans hw132_0),((HB.out.cell (zl w _ hw132_1)).trans hw132_1)⟩ (fun hHeld => ?_);clear hK K;refine norm_ (a':=?_) ?_ ?_;rotate_left
        ·
         show Act.put _ (some 32) _=_
         simp only [Act.put,zi,zj,zk,zG,zH]
         rfl
        refine pure_ (i:=19) (N:=some 33) (v:=?_) (a':=?_) (bm_ 20 21) rfl rfl (any_of HT_.out (by kernel_rfl)) (fun _ _ _ h => h) (Or.inl ⟨by rfl,?_⟩) ?_ ?_;rotate_left
        ·
         intro w'
         go_simp
         with_reducible rfl
        rotate_left
        ·
         simp only [Act.put,zi,zj,zk,zG,zH]
         rfl
        refine pure_ (i:=20) (N:=some 34) (v:=?_) (a':=?_) (bm_ 21 21) rfl rfl (any_of HT_.out (by kernel_rfl)) (fun _ _ _ h => h) (Or.inl ⟨by rfl,?_⟩) ?_ ?_;rotate_left
        ·
         intro w'
         go_simp
         with_reducible rfl
        rotate_left
        ·
         simp only [Act.put,zi,zj,zk,zG,zH]
         rfl
        refine done_ (done_of HT_.out (by kernel_rfl)) ?_
        try go_wp2
        go_roundg k1
        case measure => have:=HK1.out;omega
        case rel => exact ⟨(x5_1),(wrap64 (x6_1 + 1)),(by first|rfl|(simp;done)|(simp [*];done)),(by first|rfl|(simp;done)|(simp [*];done)),H',⟨by have:=HK1.out;omega⟩,⟨by (with_reducible repeat first|apply ze|apply zf|apply zg);exact BK128.out⟩,⟨by (with_reducible repeat first|apply ze|apply zf|apply zg);exact BK129.out⟩,⟨by repeat (with_reducible first|exact HB.out|apply za|apply zb|apply zc|refine zd ?_ GE128.out|refine zd ?_ GE129.out)⟩⟩
       replace c10:=yb.mpr c10;subst c10;have H1 : (Fe.l0 k1 x6_1 (wrap64 (x6_1 + 1)) l0_0 a0_1 a1_0 a1_1)=some r:=by rw [if_neg (show ¬ (false=true) by decide)] at H;exact H
       clear H;have H:=H1;clear H1;have H':=zh H;clear H;have hnb15:=NB128_129.out;have hnc15:=NB129_128.out;obtain ⟨hcz16_0,hcz16_1,hfz16_0,hfz16_1⟩:=cB2 BK128.out
       try go_wp2
       replace BK128:=zh (zf BK128.out);replace BK129:=zh (zf BK129.out);replace HB:=zh (zc HB.out);have p130 : 0≤(x6_1 : Int):=zy (by first|(with_reducible assumption)|assumption);have q130 : x6_1<(l0_0.length : Int):=zy (by first|(with_reducible assumption)|assumption);obtain ⟨ad130,A130_1,c130_1,e130,hx130_0,hx130_1,hl130_1,hi130_1⟩:=at_T67 HR0_0.out x6_1 p130 q130;have hw130_1:=hx130_1;have hw130_0:=hx130_0
       cases e130
       replace hx130_0:=(HB.out.cell (zl w _ hx130_0)).trans hx130_0;replace hx130_1:=(HB.out.cell (zl w _ hx130_1)).trans hx130_1;have HR130_1:=zh hi130_1;have HC130_1:=zh hl130_1;clear hi130_1 hl130_1;replace p130:=eq_true p130;replace q130:=eq_true q130;have p131 : 0≤(x6_1 : Int):=zy (by first|(with_reducible assumption)|assumption);have q131 : x6_1<(l0_0.length : Int):=zy (by first|(with_reducible assumption)|assumption);obtain ⟨ad131,A131_1,c131_1,e131,hx131_0,hx131_1,hl131_1,hi131_1⟩:=at_T67 HR0_0.out x6_1 p131 q131;have hw131_1:=hx131_1;have hw131_0:=hx131_0;obtain rfl : ad130=ad131:=(by injection e131);replace hx131_0:=(HB.out.cell (zl w _ hx131_0)).trans hx131_0;replace hx131_1:=(HB.out.cell (zl w _ hx131_1)).trans hx131_1;have HR131_1:=zh hi131_1;have HC131_1:=zh hl131_1;clear hi131_1 hl131_1;replace p131:=eq_true p131;replace q131:=eq_true q131;have ea_:=zU (hx130_1.symm.trans hx131_1);injection ea_ with ea_ en_ ec_;subst ea_;subst ec_;clear en_;have p132 : 0≤(0 : Int):=(by omega);have q132 : 0<(((rd_T67 l0_0 x6_1).f1).length : Int):=zy (by first|(with_reducible assumption)|assumption);obtain ⟨ad132,e132,hx132_0,hx132_1⟩:=at_T51 HR131_1.out 0 p132 q132;have hw132_1:=hx132_1;(try rw [show ((0 : Int)).toNat=0 from rfl] at hw132_1);(try rw [show 0 * 2=0 from rfl] at hw132_1);(try rw [Addr.add_zero'] at hw132_1);have hw132_0:=hx132_0;(try rw [show ((0 : Int)).toNat=0 from rfl] at hw132_0);(try rw [show 0 * 2=0 from rfl] at hw132_0);(try rw [Addr.add_zero'] at hw132_0)
       cases e132
       have qi132 : (0<((rd_T67 l0_0 x6_1).f1).length)=True:=eq_true (by omega);(try rw [show ((0 : Int)).toNat=0 from rfl] at hx132_0);(try rw [show 0 * 2=0 from rfl] at hx132_0);(try rw [Addr.add_zero'] at hx132_0);(try rw [show ((0 : Int)).toNat=0 from rfl] at hx132_1);(try rw [show 0 * 2=0 from rfl] at hx132_1);(try rw [Addr.add_zero'] at hx132_1);replace hx132_0:=(HB.out.cell (zl w _ hx132_0)).trans hx132_0;replace hx132_1:=(HB.out.cell (zl w _ hx132_1)).trans hx132_1;replace p132:=eq_true p132;replace q132:=eq_true q132;refine start_ (n:=21) (S:=fun w' => w'.cell? ⟨gb128,0,none⟩=some (.slice (some ad130) l0_0.length c0_0)∧w'.cell? ⟨gb128,1,none⟩=some (.int .i64 a0_1)∧w'.cell? ⟨gb129,0,none⟩=some (.string a1_0)∧w'.cell? ⟨gb129,1,none⟩=some (.int .i64 a1_1)∧w'.cell? (ad130.add ((x6_1).toNat * 2))=some (.int .i64 ((rd_T67 l0_0 x6_1).f0))∧w'.cell? ⟨(ad130.add ((x6_1).toNat * 2)).block,(ad130.add ((x6_1).toNat * 2)).off + 1,none⟩=some (.slice (some ad132) ((rd_T67 l0_0 x6_1).f1).length c130_1)∧w'.cell? (ad130.add ((x6_1).toNat * 2))=some (.int .i64 ((rd_T67 l0_0 x6_1).f0))∧w'.cell? ⟨(ad130.add ((x6_1).toNat * 2)).block,(ad130.add ((x6_1).toNat * 2)).off + 1,none⟩=some (.slice (some ad132) ((rd_T67 l0_0 x6_1).f1).length c130_1)∧w'.cell? ad132=some (.string ((rd_T51 ((rd_T67 l0_0 x6_1).f1) 0).f0))∧w'.cell? ⟨ad132.block,ad132.off + 1,none⟩=some (.int .i64 ((rd_T51 ((rd_T67 l0_0 x6_1).f1) 0).f1))) (ds:=[]) (bm_ 0 21) (by kernel_rfl) rfl rfl ⟨(zz BK128.out 0).trans rfl,(zz BK128.out 1).trans rfl,(zz BK129.out 0).trans rfl,(zz BK129.out 1).trans rfl,((HB.out.cell (zl w _ hw130_0)).trans hw130_0),((HB.out.cell (zl w _ hw130_1)).trans hw130_1),((HB.out.cell (zl w _ hw131_0)).trans hw131_0),((HB.out.cell (zl w _ hw131_1)).trans hw131_1),((HB.out.cell (zl w _ hw132_0)).trans hw132_0),((HB.out.cell (zl w _ hw132_1)).trans hw132_1)⟩ (fun hHeld => ?_);refine with_tabW Fe.tab5 Fe.bits5 (fun HT_ HW_ => ?_);generalize wr.drew=w17 at BK128 BK129 HB HR130_1 HR131_1 hx130_0 hx130_1 hx131_0 hx131_1 hx132_0 hx132_1 hHeld ⊢;refine pure_ (i:=0) (N:=some 14) (v:=?_) (a':=?_) (bm_ 1 21) rfl rfl (any_of HT_.out (by kernel_rfl)) (fun _ _ _ h => h) (Or.inl ⟨by rfl,?_⟩) ?_ ?_;rotate_left
       ·
        intro w'
        go_simp
        with_reducible rfl
       rotate_left
       ·
        simp only [Act.put,zi,zj,zk,zG,zH]
        rfl
       refine pure_ (i:=2) (N:=some 16) (v:=?_) (a':=?_) #[true,false,true,false,false,false,false,false,false,false,false,false,false,false,false,false,false,false,false,false,false] rfl rfl (any_of HT_.out (by kernel_rfl)) (fun _ _ _ h => h) (Or.inl ⟨by rfl,?_⟩) ?_ ?_;rotate_left
       ·
        intro w'
        go_simp
        with_reducible rfl
       rotate_left
       ·
        simp only [Act.put,zi,zj,zk,zG,zH]
        rfl
       refine take_ (i:=1) (N:=some 15) (v:=?_) (a':=?_) (bm_ 3 21) rfl rfl (yo HT_.out HW_.out (by kernel_rfl)) (fun _ _ _ h => h) (Or.inl ⟨by rfl,?_⟩) hHeld ?_ ?_;rotate_left
       ·
        rintro w' ⟨s0,s1,s2,s3,s4,s5,s6,s7,s8,s9⟩
        go_simp
        with_reducible rfl
       rotate_left
       ·
        simp only [Act.put,zi,zj,zk,zG,zH]
        rfl
       refine pure_ (i:=3) (N:=some 17) (v:=?_) (a':=?_) (bm_ 4 21) rfl rfl (any_of HT_.out (by kernel_rfl)) (fun _ _ _ h => h) (Or.inl ⟨by rfl,?_⟩) ?_ ?_;rotate_left
       ·
        intro w'
        go_simp
        with_reducible rfl
       rotate_left
       ·
        simp only [Act.put,zi,zj,zk,zG,zH]
        rfl
       refine pure_ (i:=4) (N:=some 18) (v:=?_) (a':=?_) (bm_ 5 21) rfl rfl (any_of HT_.out (by kernel_rfl)) (fun _ _ _ h => h) (Or.inl ⟨by rfl,?_⟩) ?_ ?_;rotate_left
       ·
        intro w'
        go_simp
        with_reducible rfl
       rotate_left
       ·
        simp only [Act.put,zi,zj,zk,zG,zH]
        rfl
       refine take_ (i:=5) (N:=some 19) (v:=?_) (a':=?_) (bm_ 6 21) rfl rfl (yo HT_.out HW_.out (by kernel_rfl)) (fun _ _ _ h => h) (Or.inl ⟨by rfl,?_⟩) hHeld ?_ ?_;rotate_left
       ·
        rintro w' ⟨s0,s1,s2,s3,s4,s5,s6,s7,s8,s9⟩
        go_simp
        with_reducible rfl
       rotate_left
       ·
        simp only [Act.put,zi,zj,zk,zG,zH]
        rfl
       refine pure_ (i:=6) (N:=some 20) (v:=?_) (a':=?_) (bm_ 7 21) rfl rfl (any_of HT_.out (by kernel_rfl)) (fun _ _ _ h => h) (Or.inl ⟨by rfl,?_⟩) ?_ ?_;rotate_left
       ·
        intro w'
        go_simp
        with_reducible rfl
       rotate_left
       ·
        simp only [Act.put,zi,zj,zk,zG,zH]
        rfl
       refine pure_ (i:=7) (N:=some 21) (v:=?_) (a':=?_) (bm_ 8 21) rfl rfl (any_of HT_.out (by kernel_rfl)) (fun _ _ _ h => h) (Or.inl ⟨by rfl,?_⟩) ?_ ?_;rotate_left
       ·
        intro w'
        go_simp
        with_reducible rfl
       rotate_left
       ·
        simp only [Act.put,zi,zj,zk,zG,zH]
        rfl
       refine pure_ (i:=8) (N:=some 22) (v:=?_) (a':=?_) (bm_ 9 21) rfl rfl (any_of HT_.out (by kernel_rfl)) (fun _ _ _ h => h) (Or.inl ⟨by rfl,?_⟩) ?_ ?_;rotate_left
       ·
        intro w'
        go_simp
        with_reducible rfl
       rotate_left
       ·
        simp only [Act.put,zi,zj,zk,zG,zH]
        rfl
       refine pure_ (i:=10) (N:=some 24) (v:=?_) (a':=?_) #[true,true,true,true,true,true,true,true,true,false,true,false,false,false,false,false,false,false,false,false,false] rfl rfl (any_of HT_.out (by kernel_rfl)) (fun _ _ _ h => h) (Or.inl ⟨by rfl,?_⟩) ?_ ?_;rotate_left
       ·
        intro w'
        go_simp
        with_reducible rfl
       rotate_left
       ·
        simp only [Act.put,zi,zj,zk,zG,zH]
        rfl
       refine pure_ (i:=12) (N:=some 26) (v:=?_) (a':=?_) #[true,true,true,true,true,true,true,true,true,false,true,false,true,false,false,false,false,false,false,false,false] rfl rfl (any_of HT_.out (by kernel_rfl)) (fun _ _ _ h => h) (Or.inl ⟨by rfl,?_⟩) ?_ ?_;rotate_left
       ·
        intro w'
        go_simp
        with_reducible rfl
       rotate_left
       ·
        simp only [Act.put,zi,zj,zk,zG,zH]
        rfl
       refine take_ (i:=9) (N:=some 23) (v:=?_) (a':=?_) #[true,true,true,true,true,true,true,true,true,true,true,false,true,false,false,false,false,false,false,false,false] rfl rfl (yo HT_.out HW_.out (by kernel_rfl)) (fun _ _ _ h => h) (Or.inl ⟨by rfl,?_⟩) hHeld ?_ ?_;rotate_left
       ·
        rintro w' ⟨s0,s1,s2,s3,s4,s5,s6,s7,s8,s9⟩
        go_simp
        with_reducible rfl
       rotate_left
       ·
        simp only [Act.put,zi,zj,zk,zG,zH]
        rfl
       refine take_ (i:=11) (N:=some 25) (v:=?_) (a':=?_) (bm_ 13 21) rfl rfl (yo HT_.out HW_.out (by kernel_rfl)) (fun _ _ _ h => h) (Or.inl ⟨by rfl,?_⟩) hHeld ?_ ?_;rotate_left
       ·
        rintro w' ⟨s0,s1,s2,s3,s4,s5,s6,s7,s8,s9⟩
        go_simp
        with_reducible rfl
       rotate_left
       ·
        simp only [Act.put,zi,zj,zk,zG,zH]
        rfl
       refine pure_ (i:=13) (N:=some 27) (v:=?_) (a':=?_) (bm_ 14 21) rfl rfl (any_of HT_.out (by kernel_rfl)) (fun _ _ _ h => h) (Or.inl ⟨by rfl,?_⟩) ?_ ?_;rotate_left
       ·
        intro w'
        go_simp
        with_reducible rfl
       rotate_left
       ·
        simp only [Act.put,zi,zj,zk,zG,zH]
        rfl
       refine pure_ (i:=14) (N:=some 28) (v:=?_) (a':=?_) (bm_ 15 21) rfl rfl (any_of HT_.out (by kernel_rfl)) (fun _ _ _ h => h) (Or.inl ⟨by rfl,?_⟩) ?_ ?_;rotate_left
       ·
        intro w'
        go_simp
        with_reducible rfl
       rotate_left
       ·
        simp only [Act.put,zi,zj,zk,zG,zH]
        rfl
       refine take_ (i:=15) (N:=some 29) (v:=?_) (a':=?_) (bm_ 16 21) rfl rfl (yo HT_.out HW_.out (by kernel_rfl)) (fun _ _ _ h => h) (Or.inl ⟨by rfl,?_⟩) hHeld ?_ ?_;rotate_left
       ·
        rintro w' ⟨s0,s1,s2,s3,s4,s5,s6,s7,s8,s9⟩
        go_simp
        with_reducible rfl
       rotate_left
       ·
        simp only [Act.put,zi,zj,zk,zG,zH]
        rfl
       refine pure_ (i:=16) (N:=some 30) (v:=?_) (a':=?_) (bm_ 17 21) rfl rfl (any_of HT_.out (by kernel_rfl)) (fun _ _ _ h => h) (Or.inl ⟨by rfl,?_⟩) ?_ ?_;rotate_left
       ·
        intro w'
        go_simp
        with_reducible rfl
       rotate_left
       ·
        simp only [Act.put,zi,zj,zk,zG,zH]
        rfl
       refine take_ (i:=17) (N:=some 31) (v:=?_) (a':=?_) (bm_ 18 21) rfl rfl (yo HT_.out HW_.out (by kernel_rfl)) (fun _ _ _ h => h) (Or.inl ⟨by rfl,?_⟩) hHeld ?_ ?_;rotate_left
       ·
        rintro w' ⟨s0,s1,s2,s3,s4,s5,s6,s7,s8,s9⟩
        go_simp
        with_reducible rfl
       rotate_left
       ·
        simp only [Act.put,zi,zj,zk,zG,zH]
        rfl
       refine one_ (i:=18) (N:=some 32) (bm_ 19 21) rfl rfl (one_of HT_.out (by kernel_rfl)) (by decide) (fun K hK => ?_);refine goes_ Try.func52 (by kernel_rfl) rfl #[.agg #[.string a1_0,.int .i64 a1_1],.agg #[.string ((rd_T51 ((rd_T67 l0_0 x6_1).f1) 0).f0),.int .i64 ((rd_T51 ((rd_T67 l0_0 x6_1).f1) 0).f1)]] (by rfl) rfl rfl (by (try simp only [zt,zu,zv]);first|done|rfl|(simp only [zw,zx];rfl)|(simp only [yr,ys,zV,zW];rfl)) ?_
       with_reducible refine (F08.calls  a1_0 a1_1 ((rd_T51 ((rd_T67 l0_0 x6_1).f1) 0).f0) ((rd_T51 ((rd_T67 l0_0 x6_1).f1) 0).f1) false _ A9.out).mono ?_
       rintro e w18 ⟨rfl,hb⟩;refine ⟨_,rfl,?_⟩;replace BK128:=zh (cD BK128.out (by (with_reducible repeat first|apply ze|apply zf|apply zg);exact BK128.out) hb);replace BK129:=zh (cD BK129.out (by (with_reducible repeat first|apply ze|apply zf|apply zg);exact BK129.out) hb);replace HB:=zh (zC (by repeat (with_reducible first|exact HB.out|apply za|apply zb|apply zc|refine zd ?_ GE128.out|refine zd ?_ GE129.out)) hb);(try clear hb);(try clear hb2);(try clear hk);(try clear hi);refine hK.out _ _ ⟨(zz BK128.out 0).trans rfl,(zz BK128.out 1).trans rfl,(zz BK129.out 0).trans rfl,(zz BK129.out 1).trans rfl,((HB.out.cell (zl w _ hw130_0)).trans hw130_0),((HB.out.cell (zl w _ hw130_1)).trans hw130_1),((HB.out.cell (zl w _ hw131_0)).trans hw131_0),((HB.out.cell (zl w _ hw131_1)).trans hw131_1),((HB.out.cell (zl w _ hw132_0)).trans hw132_0),((HB.out.cell (zl w _ hw132_1)).trans hw132_1)⟩ (fun hHeld => ?_);clear hK K;refine norm_ (a':=?_) ?_ ?_;rotate_left
       ·
        show Act.put _ (some 32) _=_
        simp only [Act.put,zi,zj,zk,zG,zH]
        rfl
       refine pure_ (i:=19) (N:=some 33) (v:=?_) (a':=?_) (bm_ 20 21) rfl rfl (any_of HT_.out (by kernel_rfl)) (fun _ _ _ h => h) (Or.inl ⟨by rfl,?_⟩) ?_ ?_;rotate_left
       ·
        intro w'
        go_simp
        with_reducible rfl
       rotate_left
       ·
        simp only [Act.put,zi,zj,zk,zG,zH]
        rfl
       refine pure_ (i:=20) (N:=some 34) (v:=?_) (a':=?_) (bm_ 21 21) rfl rfl (any_of HT_.out (by kernel_rfl)) (fun _ _ _ h => h) (Or.inl ⟨by rfl,?_⟩) ?_ ?_;rotate_left
       ·
        intro w'
        go_simp
        with_reducible rfl
       rotate_left
       ·
        simp only [Act.put,zi,zj,zk,zG,zH]
        rfl
       refine done_ (done_of HT_.out (by kernel_rfl)) ?_
       try go_wp2
       go_roundg k1
       case measure => have:=HK1.out;omega
       case rel => exact ⟨(x6_1),(wrap64 (x6_1 + 1)),(by first|rfl|(simp;done)|(simp [*];done)),(by first|rfl|(simp;done)|(simp [*];done)),H',⟨by have:=HK1.out;omega⟩,⟨by (with_reducible repeat first|apply ze|apply zf|apply zg);exact BK128.out⟩,⟨by (with_reducible repeat first|apply ze|apply zf|apply zg);exact BK129.out⟩,⟨by repeat (with_reducible first|exact HB.out|apply za|apply zb|apply zc|refine zd ?_ GE128.out|refine zd ?_ GE129.out)⟩⟩
      rw [if_neg c8] at H;exact absurd H (by simp)
     rw [if_neg c7] at H;have c7b0 : decide (0<(((rd_T67 l0_0 x6_1).f1).length : Int))=false:=decide_eq_false c7;have c7b1 : decide (0<((rd_T67 l0_0 x6_1).f1).length)=false:=decide_eq_false (by omega);clear c7;have H':=zh H;clear H;have hnb19:=NB128_129.out;have hnc19:=NB129_128.out;obtain ⟨hcz20_0,hcz20_1,hfz20_0,hfz20_1⟩:=cB2 BK128.out
     try go_wp2
     replace BK128:=zh (zf BK128.out);replace BK129:=zh (zf BK129.out);replace HB:=zh (zc HB.out);have p130 : 0≤(x6_1 : Int):=zy (by first|(with_reducible assumption)|assumption);have q130 : x6_1<(l0_0.length : Int):=zy (by first|(with_reducible assumption)|assumption);obtain ⟨ad130,A130_1,c130_1,e130,hx130_0,hx130_1,hl130_1,hi130_1⟩:=at_T67 HR0_0.out x6_1 p130 q130;have hw130_1:=hx130_1;have hw130_0:=hx130_0
     cases e130
     replace hx130_0:=(HB.out.cell (zl w _ hx130_0)).trans hx130_0;replace hx130_1:=(HB.out.cell (zl w _ hx130_1)).trans hx130_1;have HR130_1:=zh hi130_1;have HC130_1:=zh hl130_1;clear hi130_1 hl130_1;replace p130:=eq_true p130;replace q130:=eq_true q130;refine start_ (n:=21) (S:=fun w' => w'.cell? ⟨gb128,0,none⟩=some (.slice (some ad130) l0_0.length c0_0)∧w'.cell? ⟨gb128,1,none⟩=some (.int .i64 a0_1)∧w'.cell? (ad130.add ((x6_1).toNat * 2))=some (.int .i64 ((rd_T67 l0_0 x6_1).f0))∧w'.cell? ⟨(ad130.add ((x6_1).toNat * 2)).block,(ad130.add ((x6_1).toNat * 2)).off + 1,none⟩=some (.slice A130_1 ((rd_T67 l0_0 x6_1).f1).length c130_1)) (ds:=[]) (bm_ 0 21) (by kernel_rfl) rfl rfl ⟨(zz BK128.out 0).trans rfl,(zz BK128.out 1).trans rfl,((HB.out.cell (zl w _ hw130_0)).trans hw130_0),((HB.out.cell (zl w _ hw130_1)).trans hw130_1)⟩ (fun hHeld => ?_);refine with_tabW Fe.tab5 Fe.bits5 (fun HT_ HW_ => ?_);generalize wr.drew=w21 at BK128 BK129 HB HR130_1 hx130_0 hx130_1 hHeld ⊢;refine pure_ (i:=0) (N:=some 14) (v:=?_) (a':=?_) (bm_ 1 21) rfl rfl (any_of HT_.out (by kernel_rfl)) (fun _ _ _ h => h) (Or.inl ⟨by rfl,?_⟩) ?_ ?_;rotate_left
     ·
      intro w'
      go_simp
      with_reducible rfl
     rotate_left
     ·
      simp only [Act.put,zi,zj,zk,zG,zH]
      rfl
     refine pure_ (i:=2) (N:=some 16) (v:=?_) (a':=?_) #[true,false,true,false,false,false,false,false,false,false,false,false,false,false,false,false,false,false,false,false,false] rfl rfl (any_of HT_.out (by kernel_rfl)) (fun _ _ _ h => h) (Or.inl ⟨by rfl,?_⟩) ?_ ?_;rotate_left
     ·
      intro w'
      go_simp
      with_reducible rfl
     rotate_left
     ·
      simp only [Act.put,zi,zj,zk,zG,zH]
      rfl
     refine take_ (i:=1) (N:=some 15) (v:=?_) (a':=?_) (bm_ 3 21) rfl rfl (yo HT_.out HW_.out (by kernel_rfl)) (fun _ _ _ h => h) (Or.inl ⟨by rfl,?_⟩) hHeld ?_ ?_;rotate_left
     ·
      rintro w' ⟨s0,s1,s2,s3⟩
      go_simp
      with_reducible rfl
     rotate_left
     ·
      simp only [Act.put,zi,zj,zk,zG,zH]
      rfl
     refine pure_ (i:=3) (N:=some 17) (v:=?_) (a':=?_) (bm_ 4 21) rfl rfl (any_of HT_.out (by kernel_rfl)) (fun _ _ _ h => h) (Or.inl ⟨by rfl,?_⟩) ?_ ?_;rotate_left
     ·
      intro w'
      go_simp
      with_reducible rfl
     rotate_left
     ·
      simp only [Act.put,zi,zj,zk,zG,zH]
      rfl
     refine pure_ (i:=4) (N:=some 18) (v:=?_) (a':=?_) (bm_ 5 21) rfl rfl (any_of HT_.out (by kernel_rfl)) (fun _ _ _ h => h) (Or.inl ⟨by rfl,?_⟩) ?_ ?_;rotate_left
     ·
      intro w'
      go_simp
      with_reducible rfl
     rotate_left
     ·
      simp only [Act.put,zi,zj,zk,zG,zH]
      rfl
     refine take_ (i:=5) (N:=some 19) (v:=?_) (a':=?_) (bm_ 6 21) rfl rfl (yo HT_.out HW_.out (by kernel_rfl)) (fun _ _ _ h => h) (Or.inl ⟨by rfl,?_⟩) hHeld ?_ ?_;rotate_left
     ·
      rintro w' ⟨s0,s1,s2,s3⟩
      go_simp
      with_reducible rfl
     rotate_left
     ·
      simp only [Act.put,zi,zj,zk,zG,zH]
      rfl
     refine pure_ (i:=6) (N:=some 20) (v:=?_) (a':=?_) (bm_ 7 21) rfl rfl (any_of HT_.out (by kernel_rfl)) (fun _ _ _ h => h) (Or.inl ⟨by rfl,?_⟩) ?_ ?_;rotate_left
     ·
      intro w'
      go_simp
      with_reducible rfl
     rotate_left
     ·
      simp only [Act.put,zi,zj,zk,zG,zH]
      rfl
     refine pure_ (i:=7) (N:=some 21) (v:=?_) (a':=?_) (bm_ 8 21) rfl rfl (any_of HT_.out (by kernel_rfl)) (fun _ _ _ h => h) (Or.inl ⟨by rfl,?_⟩) ?_ ?_;rotate_left
     ·
      intro w'
      go_simp
      with_reducible rfl
     rotate_left
     ·
      simp only [Act.put,zi,zj,zk,zG,zH]
      rfl
     refine pure_ (i:=8) (N:=some 22) (v:=?_) (a':=?_) (bm_ 9 21) rfl rfl (any_of HT_.out (by kernel_rfl)) (fun _ _ _ h => h) (Or.inl ⟨by rfl,?_⟩) ?_ ?_;rotate_left
     ·
      intro w'
      go_simp
      with_reducible rfl
     rotate_left
     ·
      simp only [Act.put,zi,zj,zk,zG,zH]
      rfl
     refine pure_ (i:=9) (N:=some 23) (v:=undef) (a':=?_) (bm_ 10 21) rfl rfl (any_of HT_.out (by kernel_rfl)) (fun _ _ _ h => h) (Or.inr ⟨by rfl,rfl⟩) ?_ ?_;rotate_left
     ·
      simp only [Act.put,zi,zj,zk,zG,zH]
      rfl
     refine pure_ (i:=10) (N:=some 24) (v:=undef) (a':=?_) (bm_ 11 21) rfl rfl (any_of HT_.out (by kernel_rfl)) (fun _ _ _ h => h) (Or.inr ⟨by rfl,rfl⟩) ?_ ?_;rotate_left
     ·
      simp only [Act.put,zi,zj,zk,zG,zH]
      rfl
     refine pure_ (i:=11) (N:=some 25) (v:=undef) (a':=?_) (bm_ 12 21) rfl rfl (any_of HT_.out (by kernel_rfl)) (fun _ _ _ h => h) (Or.inr ⟨by rfl,rfl⟩) ?_ ?_;rotate_left
     ·
      simp only [Act.put,zi,zj,zk,zG,zH]
      rfl
     refine pure_ (i:=12) (N:=some 26) (v:=undef) (a':=?_) (bm_ 13 21) rfl rfl (any_of HT_.out (by kernel_rfl)) (fun _ _ _ h => h) (Or.inr ⟨by rfl,rfl⟩) ?_ ?_;rotate_left
     ·
      simp only [Act.put,zi,zj,zk,zG,zH]
      rfl
     refine pure_ (i:=13) (N:=some 27) (v:=undef) (a':=?_) (bm_ 14 21) rfl rfl (any_of HT_.out (by kernel_rfl)) (fun _ _ _ h => h) (Or.inr ⟨by rfl,rfl⟩) ?_ ?_;rotate_left
     ·
      simp only [Act.put,zi,zj,zk,zG,zH]
      rfl
     refine pure_ (i:=14) (N:=some 28) (v:=undef) (a':=?_) (bm_ 15 21) rfl rfl (any_of HT_.out (by kernel_rfl)) (fun _ _ _ h => h) (Or.inr ⟨by rfl,rfl⟩) ?_ ?_;rotate_left
     ·
      simp only [Act.put,zi,zj,zk,zG,zH]
      rfl
     refine pure_ (i:=15) (N:=some 29) (v:=undef) (a':=?_) (bm_ 16 21) rfl rfl (any_of HT_.out (by kernel_rfl)) (fun _ _ _ h => h) (Or.inr ⟨by rfl,rfl⟩) ?_ ?_;rotate_left
     ·
      simp only [Act.put,zi,zj,zk,zG,zH]
      rfl
     refine pure_ (i:=16) (N:=some 30) (v:=undef) (a':=?_) (bm_ 17 21) rfl rfl (any_of HT_.out (by kernel_rfl)) (fun _ _ _ h => h) (Or.inr ⟨by rfl,rfl⟩) ?_ ?_;rotate_left
     ·
      simp only [Act.put,zi,zj,zk,zG,zH]
      rfl
     refine pure_ (i:=17) (N:=some 31) (v:=undef) (a':=?_) (bm_ 18 21) rfl rfl (any_of HT_.out (by kernel_rfl)) (fun _ _ _ h => h) (Or.inr ⟨by rfl,rfl⟩) ?_ ?_;rotate_left
     ·
      simp only [Act.put,zi,zj,zk,zG,zH]
      rfl
     refine pure_ (i:=18) (N:=some 32) (v:=undef) (a':=?_) (bm_ 19 21) rfl rfl (any_of HT_.out (by kernel_rfl)) (fun _ _ _ h => h) (Or.inr ⟨by rfl,rfl⟩) ?_ ?_;rotate_left
     ·
      simp only [Act.put,zi,zj,zk,zG,zH]
      rfl
     refine pure_ (i:=19) (N:=some 33) (v:=undef) (a':=?_) (bm_ 20 21) rfl rfl (any_of HT_.out (by kernel_rfl)) (fun _ _ _ h => h) (Or.inr ⟨by rfl,rfl⟩) ?_ ?_;rotate_left
     ·
      simp only [Act.put,zi,zj,zk,zG,zH]
      rfl
     refine pure_ (i:=20) (N:=some 34) (v:=?_) (a':=?_) (bm_ 21 21) rfl rfl (any_of HT_.out (by kernel_rfl)) (fun _ _ _ h => h) (Or.inl ⟨by rfl,?_⟩) ?_ ?_;rotate_left
     ·
      intro w'
      go_simp
      with_reducible rfl
     rotate_left
     ·
      simp only [Act.put,zi,zj,zk,zG,zH]
      rfl
     refine done_ (done_of HT_.out (by kernel_rfl)) ?_
     try go_wp2
     go_roundg k1
     case measure => have:=HK1.out;omega
     case rel => exact ⟨(x5_1),(wrap64 (x6_1 + 1)),(by first|rfl|(simp;done)|(simp [*];done)),(by first|rfl|(simp;done)|(simp [*];done)),H',⟨by have:=HK1.out;omega⟩,⟨by (with_reducible repeat first|apply ze|apply zf|apply zg);exact BK128.out⟩,⟨by (with_reducible repeat first|apply ze|apply zf|apply zg);exact BK129.out⟩,⟨by repeat (with_reducible first|exact HB.out|apply za|apply zb|apply zc|refine zd ?_ GE128.out|refine zd ?_ GE129.out)⟩⟩
    rw [if_neg c6] at H;exact absurd H (by simp)
   rw [if_neg c5] at H;have c5b0 : decide (x6_1<(l0_0.length : Int))=false:=decide_eq_false c5;clear c5;obtain rfl:=zU H;have hnb22:=NB128_129.out;have hnc22:=NB129_128.out;obtain ⟨hcz23_0,hcz23_1,hfz23_0,hfz23_1⟩:=cB2 BK128.out
   go_wp2
   go_ret
   exact ⟨by first|rfl|(simp [yt,yu] <;> rfl)|(simp [*,yt,yu] <;> rfl),by repeat (with_reducible first|exact HB.out|apply za|apply zb|apply zc|refine zd ?_ GE128.out|refine zd ?_ GE129.out)⟩


def F0f.f (a0_0 : ByteArray) (a0_1 : ByteArray) (a0_2 : Bool) (a1 : ByteArray) : Option (Bool):=if ((Op.bytesLess a1.toList a0_0.toList)=true) then (some false) else (if a0_2=true then (some true) else (some (Op.bytesLess a1.toList a0_1.toList)))
set_option maxHeartbeats 8000000 in
set_option maxRecDepth 100000 in
theorem F0f.calls (a0_0 : ByteArray) (a0_1 : ByteArray) (a0_2 : Bool) (a1 : ByteArray) (r : Bool) (w : World) (h : F0f.f a0_0 a0_1 a0_2 a1=some r) :
  Calls Try.prog 54 #[.agg #[.string a0_0,.string a0_1,.bool a0_2],.string a1] w fun e w' => e = .returned (.bool r)∧Below w.heap.size w w':=by
 have hu37:=Try.underlying37;have HB:=zh (Below.refl w.heap.size w);have H : (if ((Op.bytesLess a1.toList a0_0.toList)=true) then (some false) else (if a0_2=true then (some true) else (some (Op.bytesLess a1.toList a0_1.toList))))=some r:=h;clear h
 by_cases c3 : ((Op.bytesLess a1.toList a0_0.toList)=true)
 ·
  rw [if_pos c3] at H
  have c3b0 : (Op.bytesLess a1.toList a0_0.toList)=true:=c3;clear c3;obtain rfl:=zU H
  go_enter Try.func54,Try.ntmps54
  go_wp2_with (first|((with_reducible refine zK (N:=2) rfl ?_);refine zI ?hg (N:=2) ?hd (cs:=#[.string a0_0,.string a0_1,.bool a0_2]) (t:=37) ?hr ?_;(case hd|hg => rfl);(case hr => go_simp <;> rfl);intro gb134 hg w4 hbox hb;have BK134:=zh (hbox);have hH_:=cH (by repeat (with_reducible first|exact HB.out|apply za|apply zb|apply zc)) hb hg;have GW134:=zh hH_.1;have GE134:=GW134;replace HB:=zh hH_.2;clear hb hbox hg hH_;obtain ⟨hcz5_0,hcz5_1,hcz5_2,hfz5_0,hfz5_1,hfz5_2⟩:=cB3 BK134.out))
  go_ret
  exact ⟨by first|rfl|(simp [yt,yu] <;> rfl)|(simp [*,yt,yu] <;> rfl),by repeat (with_reducible first|exact HB.out|apply za|apply zb|apply zc|refine zd ?_ GE134.out)⟩
 rw [if_neg c3] at H;have c3b0 : (Op.bytesLess a1.toList a0_0.toList)=false:=by simpa using c3
 clear c3
 by_cases c6 : a0_2=true
 ·
  subst c6
  have H1 : (some true)=some r:=by rw [if_pos rfl] at H;exact H
  clear H;have H:=H1;clear H1;obtain rfl:=zU H
  go_enter Try.func54,Try.ntmps54
  go_wp2_with (first|((with_reducible refine zK (N:=2) rfl ?_);refine zI ?hg (N:=2) ?hd (cs:=#[.string a0_0,.string a0_1,.bool true]) (t:=37) ?hr ?_;(case hd|hg => rfl);(case hr => go_simp <;> rfl);intro gb134 hg w7 hbox hb;have BK134:=zh (hbox);have hH_:=cH (by repeat (with_reducible first|exact HB.out|apply za|apply zb|apply zc)) hb hg;have GW134:=zh hH_.1;have GE134:=GW134;replace HB:=zh hH_.2;clear hb hbox hg hH_;obtain ⟨hcz8_0,hcz8_1,hcz8_2,hfz8_0,hfz8_1,hfz8_2⟩:=cB3 BK134.out))
  go_ret
  exact ⟨by first|rfl|(simp [yt,yu] <;> rfl)|(simp [*,yt,yu] <;> rfl),by repeat (with_reducible first|exact HB.out|apply za|apply zb|apply zc|refine zd ?_ GE134.out)⟩
 replace c6:=yb.mpr c6;subst c6;have H1 : (some (Op.bytesLess a1.toList a0_1.toList))=some r:=by rw [if_neg (show ¬ (false=true) by decide)] at H;exact H
 clear H;have H:=H1;clear H1;obtain rfl:=zU H
 go_enter Try.func54,Try.ntmps54
 go_wp2_with (first|((with_reducible refine zK (N:=2) rfl ?_);refine zI ?hg (N:=2) ?hd (cs:=#[.string a0_0,.string a0_1,.bool false]) (t:=37) ?hr ?_;(case hd|hg => rfl);(case hr => go_simp <;> rfl);intro gb134 hg w9 hbox hb;have BK134:=zh (hbox);have hH_:=cH (by repeat (with_reducible first|exact HB.out|apply za|apply zb|apply zc)) hb hg;have GW134:=zh hH_.1;have GE134:=GW134;replace HB:=zh hH_.2;clear hb hbox hg hH_;obtain ⟨hcz10_0,hcz10_1,hcz10_2,hfz10_0,hfz10_1,hfz10_2⟩:=cB3 BK134.out))
 go_ret
 exact ⟨by first|rfl|(simp [yt,yu] <;> rfl)|(simp [*,yt,yu] <;> rfl),by repeat (with_reducible first|exact HB.out|apply za|apply zb|apply zc|refine zd ?_ GE134.out)⟩

end Go.Proofs.Ytamikhmpfmgofaa.Q
end
section
namespace Go.Proofs.Ytamikhmpfmgofaa.Q
open Go.RowKit Go.Proofs.YtamikhmpfmgofaaW.PrintWords Go.Proofs.YtamikhmpfmgofaaW.PrintLast Go.Proofs.YtamikhmpfmgofaaW.PrintMore
attribute [local go_sem] max2_int min2_int max_two min_two max_three min_three max_four min_four max2_str min2_str str_geq str_gtr str_leq   -- for this text's walks alone
set_option linter.unusedVariables false
set_option linter.unusedSimpArgs false

mutual
def F6.l0 : Nat→List (S51)→List Int→Int→Int→List (S67)→Int→ByteArray→ByteArray→Bool→Option ((List (S51))×List Int)
 | 0,_,_,_,_,_,_,_,_,_ => none
 | k + 1,x6,x7,x8,x9,x136000,x136001,x137000,x137001,x137002 => if x9<(x136000.length : Int) then (if 0≤x9 then (if x9 > x8 then (if x137002=true then (F6.j1 k x6 x7 x8 x9 ((rd_T67 x136000 x9).f1) false x136000 x136001 x137000 x137001 x137002) else (if (((rd_T67 x136000 x9).f1).length : Int) > 0 then (if 0<(((rd_T67 x136000 x9).f1).length : Int) then (F6.j1 k x6 x7 x8 x9 ((rd_T67 x136000 x9).f1) (!(Op.bytesLess (((rd_T51 ((rd_T67 x136000 x9).f1) 0).f0).toList) x137001.toList)) x136000 x136001 x137000 x137001 x137002) else (none)) else (F6.j1 k x6 x7 x8 x9 ((rd_T67 x136000 x9).f1) false x136000 x136001 x137000 x137001 x137002))) else (F6.j1 k x6 x7 x8 x9 ((rd_T67 x136000 x9).f1) false x136000 x136001 x137000 x137001 x137002)) else (none)) else (some (x6,x7))
def F6.j1 : Nat→List (S51)→List Int→Int→Int→List (S51)→Bool→List (S67)→Int→ByteArray→ByteArray→Bool→Option ((List (S51))×List Int)
 | 0,_,_,_,_,_,_,_,_,_,_,_ => none
 | k + 1,x6,x7,x8,x9,x10,x54,x136000,x136001,x137000,x137001,x137002 => if x54=true then (some (x6,x7)) else (if 0≤x9 then (if x9<(x136000.length : Int) then (if x7.length<17592186044416 then (F6.l1 k x6 (x7 ++ [(rd_T67 x136000 x9).f0]) x8 x9 x10 0 x136000 x136001 x137000 x137001 x137002) else (none)) else (none)) else (none))
def F6.l1 : Nat→List (S51)→List Int→Int→Int→List (S51)→Int→List (S67)→Int→ByteArray→ByteArray→Bool→Option ((List (S51))×List Int)
 | 0,_,_,_,_,_,_,_,_,_,_,_ => none
 | k + 1,x6,x7,x8,x9,x10,x11,x136000,x136001,x137000,x137001,x137002 => if x11<(x10.length : Int) then (if 0≤x11 then ((F0f.f x137000 x137001 x137002 ((rd_T51 x10 x11).f0)).bind fun t151 => (if t151=true then (if x6.length<5864062014805 then (F6.l1 k (x6 ++ [(⟨(rd_T51 x10 x11).f0,(rd_T51 x10 x11).f1⟩ : S51)]) x7 x8 x9 x10 (wrap64 (x11 + 1)) x136000 x136001 x137000 x137001 x137002) else (none)) else (F6.l1 k x6 x7 x8 x9 x10 (wrap64 (x11 + 1)) x136000 x136001 x137000 x137001 x137002))) else (none)) else (F6.l0 k x6 x7 x8 (wrap64 (x9 + 1)) x136000 x136001 x137000 x137001 x137002)
end
def F6.f (k : Nat) (l0_0 : List (S67)) (a0_1 : Int) (a1_0 : ByteArray) (a1_1 : ByteArray) (a1_2 : Bool) : Option ((List (S51))×List Int):=(Fe.f k l0_0 a0_1 a1_0 (-1)).bind fun t143 => (F6.l0 k (([] : List (S51))) (([] : List Int)) t143 t143 l0_0 a0_1 a1_0 a1_1 a1_2)
theorem F6.mono_l : ∀ k,(∀ y0 y1 y2 y3 y4 y5 y6 y7 y8,LeO (F6.l0 k y0 y1 y2 y3 y4 y5 y6 y7 y8) (F6.l0 (k + 1) y0 y1 y2 y3 y4 y5 y6 y7 y8))∧(∀ y0 y1 y2 y3 y4 y5 y6 y7 y8 y9 y10,LeO (F6.j1 k y0 y1 y2 y3 y4 y5 y6 y7 y8 y9 y10) (F6.j1 (k + 1) y0 y1 y2 y3 y4 y5 y6 y7 y8 y9 y10))∧(∀ y0 y1 y2 y3 y4 y5 y6 y7 y8 y9 y10,LeO (F6.l1 k y0 y1 y2 y3 y4 y5 y6 y7 y8 y9 y10) (F6.l1 (k + 1) y0 y1 y2 y3 y4 y5 y6 y7 y8 y9 y10))
 | 0 => ⟨fun _ _ _ _ _ _ _ _ _ r h => by simp [F6.l0] at h,fun _ _ _ _ _ _ _ _ _ _ _ r h => by simp [F6.j1] at h,fun _ _ _ _ _ _ _ _ _ _ _ r h => by simp [F6.l1] at h⟩
 | k + 1 => by
  obtain ⟨ih0,ih1,ih2⟩:=F6.mono_l k;refine ⟨?_,?_,?_⟩
  ·
   intro y0 y1 y2 y3 y4 y5 y6 y7 y8
   unfold F6.l0
   repeat' first|(with_reducible first|exact ih0 _ _ _ _ _ _ _ _ _|exact ih1 _ _ _ _ _ _ _ _ _ _ _|exact ih2 _ _ _ _ _ _ _ _ _ _ _|exact Fe.mono _ _ _ _ _|exact zQ _|exact zN _|refine zP ?_ ?_|refine zO ?_ (fun _ => ?_))|refine zP ?_ ?_|refine zO ?_ (fun _ => ?_)
  ·
   intro y0 y1 y2 y3 y4 y5 y6 y7 y8 y9 y10
   unfold F6.j1
   repeat' first|(with_reducible first|exact ih0 _ _ _ _ _ _ _ _ _|exact ih1 _ _ _ _ _ _ _ _ _ _ _|exact ih2 _ _ _ _ _ _ _ _ _ _ _|exact Fe.mono _ _ _ _ _|exact zQ _|exact zN _|refine zP ?_ ?_|refine zO ?_ (fun _ => ?_))|refine zP ?_ ?_|refine zO ?_ (fun _ => ?_)
  intro y0 y1 y2 y3 y4 y5 y6 y7 y8 y9 y10;unfold F6.l1
  repeat' first|(with_reducible first|exact ih0 _ _ _ _ _ _ _ _ _|exact ih1 _ _ _ _ _ _ _ _ _ _ _|exact ih2 _ _ _ _ _ _ _ _ _ _ _|exact Fe.mono _ _ _ _ _|exact zQ _|exact zN _|refine zP ?_ ?_|refine zO ?_ (fun _ => ?_))|refine zP ?_ ?_|refine zO ?_ (fun _ => ?_)
theorem F6.mono : ∀ a0 a1 a2 a3 a4 k,LeO (F6.f k a0 a1 a2 a3 a4) (F6.f (k + 1) a0 a1 a2 a3 a4):=by
 intro a0 a1 a2 a3 a4 k;obtain ⟨ih0,ih1,ih2⟩:=F6.mono_l k;unfold F6.f
 repeat' first|(with_reducible first|exact ih0 _ _ _ _ _ _ _ _ _|exact ih1 _ _ _ _ _ _ _ _ _ _ _|exact ih2 _ _ _ _ _ _ _ _ _ _ _|exact Fe.mono _ _ _ _ _|exact zQ _|exact zN _|refine zP ?_ ?_|refine zO ?_ (fun _ => ?_))|refine zP ?_ ?_|refine zO ?_ (fun _ => ?_)
def F6.T8 : Bool×List (List Nat×List Nat):=(true,[([],[]),([],[]),([0,1],[0,1]),([2],[2]),([3],[3]),([4,3],[3,4]),([5,3],[3,5]),([3,6],[3,6]),([7,3],[7]),([8],[8]),([9,8],[8,9]),([10,8],[8,10]),([8,11],[8,11]),([12,8],[12]),([13],[13]),([14,13],[13,14]),([15,13],[13,15]),([16,13],[13,16]),([13],[13]),([18,13],[13,18]),([17,19,13],[13,17,19]),([13,20],[13,20])])
def F6.B8 : List Nat:=[0,0,3,7,15,31,63,127,255,511,1023,2047,4095,8191,16383,32767,65535,131071,16383,278527,1048575,2097151]
theorem F6.tab8 : rtab .any (opsOf Try.f29 8)=F6.T8:=by kernel_rfl
theorem F6.bits8 : waitsOk F6.T8.2 F6.B8=true:=by kernel_rfl
set_option maxHeartbeats 8000000 in
set_option maxRecDepth 100000 in
theorem F6.calls (k : Nat) (A0_0 : Option Addr) (c0_0 : Nat) (l0_0 : List (S67)) (a0_1 : Int) (a1_0 : ByteArray) (a1_1 : ByteArray) (a1_2 : Bool) (r1 : List (S51)) (r2 : List Int) (w : World) (hr0_0 : Kd.C k67 w A0_0 l0_0.length l0_0) (hc0_0 : l0_0.length≤c0_0) (h : F6.f k l0_0 a0_1 a1_0 a1_1 a1_2=some (r1,r2)) :
  Calls Try.prog 29 #[.agg #[.slice A0_0 l0_0.length c0_0,.int .i64 a0_1],.agg #[.string a1_0,.string a1_1,.bool a1_2]] w fun e w' => ∃ v0_ v1_ : Value,e = .returned (.tuple #[v0_,v1_])∧Kd.R k51 51 w' w.heap.size (fun _ => True) v0_ r1∧Kd.R (Kd.int .i64) 3 w' w.heap.size (fun _ => True) v1_ r2∧Below w.heap.size w w':=by
 have hu35:=Try.underlying35;have hu37:=Try.underlying37;have hu51:=Try.underlying51;have HR0_0:=zh hr0_0;have HC0_0:=zh hc0_0;clear hr0_0 hc0_0;have HB:=zh (Below.refl w.heap.size w);have H : ((Fe.f k l0_0 a0_1 a1_0 (-1)).bind fun t143 => (F6.l0 k (([] : List (S51))) (([] : List Int)) t143 t143 l0_0 a0_1 a1_0 a1_1 a1_2))=some (r1,r2):=h;clear h;obtain ⟨y137,hy137⟩ : ∃ y_ : List (S51),y_=(([] : List (S51))):=⟨_,rfl⟩;replace H : ((Fe.f k l0_0 a0_1 a1_0 (-1)).bind fun t143 => (F6.l0 k y137 (([] : List Int)) t143 t143 l0_0 a0_1 a1_0 a1_1 a1_2))=some (r1,r2):=by first|(rw [hy137];with_reducible exact H)|(have H2_:=(Option.bind_some _ _).symm.trans H;rw [hy137];with_reducible exact H2_)|(have H2_:=(Option.bind_some _ _).symm.trans H;with_reducible exact H2_)|with_reducible exact H|(rw [hy137];exact H)|exact H
 have Ny137:=zh hy137;clear hy137;obtain ⟨y140,hy140⟩ : ∃ y_ : List Int,y_=(([] : List Int)):=⟨_,rfl⟩;replace H : ((Fe.f k l0_0 a0_1 a1_0 (-1)).bind fun t143 => (F6.l0 k y137 y140 t143 t143 l0_0 a0_1 a1_0 a1_1 a1_2))=some (r1,r2):=by first|(rw [hy140];with_reducible exact H)|(have H2_:=(Option.bind_some _ _).symm.trans H;rw [hy140];with_reducible exact H2_)|(have H2_:=(Option.bind_some _ _).symm.trans H;with_reducible exact H2_)|with_reducible exact H|(rw [hy140];exact H)|exact H
 have Ny140:=zh hy140;clear hy140;replace H:=zT.mp H;obtain ⟨t143,A30,H⟩:=H;replace H : (F6.l0 k y137 y140 t143 t143 l0_0 a0_1 a1_0 a1_1 a1_2)=some (r1,r2):=H;have A3:=zh A30;clear A30;have H':=zh H;clear H
 go_enter Try.func29,Try.ntmps29
 go_wp2_with (first|((with_reducible refine zK (N:=2) rfl ?_);(try (refine yy (by rfl) ?_;dsimp only));refine zI ?hg (N:=2) ?hd (cs:=#[.slice A0_0 l0_0.length c0_0,.int .i64 a0_1]) (t:=35) ?hr ?_;(case hd|hg => rfl);(case hr => go_simp <;> rfl);intro gb135 hg w4 hbox hb;have BK135:=zh (hbox);have hH_:=cH (by repeat (with_reducible first|exact HB.out|apply za|apply zb|apply zc)) hb hg;have GW135:=zh hH_.1;have GE135:=GW135;replace HB:=zh hH_.2;clear hb hbox hg hH_)|((with_reducible refine zK (N:=3) rfl ?_);(try (refine yy (by rfl) ?_;dsimp only));refine zI ?hg (N:=3) ?hd (cs:=#[.string a1_0,.string a1_1,.bool a1_2]) (t:=37) ?hr ?_;(case hd|hg => rfl);(case hr => go_simp <;> rfl);intro gb136 hg w5 hbox hb;have BK136:=zh (hbox);have hH_:=cH (by repeat (with_reducible first|exact HB.out|apply za|apply zb|apply zc|refine zd ?_ GE135.out)) hb hg;have GW136:=zh hH_.1;have GE136:=GW136;replace HB:=zh hH_.2;have NB135_136:=zh ((by rw [hg];exact yc (yi (g:=gb135) (o:=.cells #[.slice A0_0 l0_0.length c0_0,.int .i64 a0_1] 35 (0,0)) (by (with_reducible repeat first|apply ze|apply zf|apply zg);exact BK135.out)) : gb135≠gb136));have NB136_135:=zh NB135_136.out.symm;replace BK135:=zh (cD BK135.out (by (with_reducible repeat first|apply ze|apply zf|apply zg);exact BK135.out) hb);clear hb hbox hg hH_)|((with_reducible refine zK (N:=12) rfl ?_);(try (refine yy (by rfl) ?_;dsimp only));refine Kd.R_lit k51 _ 51 ?hg (N:=12) ?hd (xs:=([] : List (S51))) (inner:=[]) (ok:=fun _ => True) (okp:=fun _ => True) ?hr ?hp (fun _ hk => hk) trivial (Below.refl _ _) (ye _) (by simp) ?_;(case hd|hg => rfl);(case hr => go_simp <;> rfl);(case hp => exact (Reps.none _ _));intro v138 w6 ho7 hb hg_ hnew_;clear hg_ hnew_;(first|rw [← Ny137.out] at ho7|(simp only [Int.reduceToNat] at ho7;rw [← Ny137.out] at ho7));have HO139:=zh (yx ho7 (zB (by repeat (with_reducible first|exact HB.out|apply za|apply zb|apply zc|refine zd ?_ GE135.out|refine zd ?_ GE136.out))));replace BK135:=zh (cD BK135.out (by (with_reducible repeat first|apply ze|apply zf|apply zg);exact BK135.out) hb);replace BK136:=zh (cD BK136.out (by (with_reducible repeat first|apply ze|apply zf|apply zg);exact BK136.out) hb);replace HB:=zh (zC (by repeat (with_reducible first|exact HB.out|apply za|apply zb|apply zc|refine zd ?_ GE135.out|refine zd ?_ GE136.out)) hb);clear hb ho7)|((with_reducible refine zK (N:=13) rfl ?_);(try (refine yy (by rfl) ?_;dsimp only));refine Kd.R_lit (Kd.int .i64) _ 3 ?hg (N:=13) ?hd (xs:=([] : List Int)) (inner:=[]) (ok:=fun _ => True) (okp:=fun _ => True) ?hr ?hp (fun _ hk => hk) trivial (Below.refl _ _) (ye _) (by simp) ?_;(case hd|hg => rfl);(case hr => go_simp <;> rfl);(case hp => exact (Reps.none _ _));intro v141 w8 ho9 hb hg_ hnew_;clear hg_ hnew_;(first|rw [← Ny140.out] at ho9|(simp only [Int.reduceToNat] at ho9;rw [← Ny140.out] at ho9));replace HO139:=zh (yg (by (with_reducible repeat (first|apply zm|apply zn|apply zo));exact HO139.out) hb);have HO142:=zh (yx ho9 (zB (by repeat (with_reducible first|exact HB.out|apply za|apply zb|apply zc|refine zd ?_ GE135.out|refine zd ?_ GE136.out))));replace BK135:=zh (cD BK135.out (by (with_reducible repeat first|apply ze|apply zf|apply zg);exact BK135.out) hb);replace BK136:=zh (cD BK136.out (by (with_reducible repeat first|apply ze|apply zf|apply zg);exact BK136.out) hb);replace HB:=zh (zC (by repeat (with_reducible first|exact HB.out|apply za|apply zb|apply zc|refine zd ?_ GE135.out|refine zd ?_ GE136.out)) hb);clear hb ho9;have hnb10:=NB135_136.out;have hnc10:=NB136_135.out;obtain ⟨hcz11_0,hcz11_1,hfz11_0,hfz11_1⟩:=cB2 BK135.out;obtain ⟨hcz12_0,hcz12_1,hcz12_2,hfz12_0,hfz12_1,hfz12_2⟩:=cB3 BK136.out)|((with_reducible refine zJ (f:=53) rfl ?_);refine yj (some 18) rfl rfl Try.func53 (by kernel_rfl) rfl #[.agg #[.slice A0_0 l0_0.length c0_0,.int .i64 a0_1],.agg #[.string a1_0,.int .i64 (-1)]] rfl (by (try simp only [zt,zu,zv]);first|done|rfl|(simp only [zw,zx];rfl)|(simp only [yr,ys,zV,zW];rfl)) ?_;(with_reducible refine (Fe.calls k  _ _ l0_0 a0_1 a1_0 (-1) t143 _ ?side1 ?side2 A3.out).mono ?_);(case side1 => repeat (first|exact (Kd.C_below HR0_0.out HB.out)|(with_reducible refine Kd.C_alloc ?_ _)|(with_reducible refine Kd.C_drewN ?_ _)|(with_reducible refine Kd.C_drew ?_)));(case side2 => exact HC0_0.out);rintro e w13 ⟨rfl,hb⟩;refine ⟨_,rfl,?_⟩;replace HO139:=zh (yg (by (with_reducible repeat (first|apply zm|apply zn|apply zo));exact HO139.out) hb);replace HO142:=zh (yg (by (with_reducible repeat (first|apply zm|apply zn|apply zo));exact HO142.out) hb);replace BK135:=zh (cD BK135.out (by (with_reducible repeat first|apply ze|apply zf|apply zg);exact BK135.out) hb);replace BK136:=zh (cD BK136.out (by (with_reducible repeat first|apply ze|apply zf|apply zg);exact BK136.out) hb);replace HB:=zh (zC (by repeat (with_reducible first|exact HB.out|apply za|apply zb|apply zc|refine zd ?_ GE135.out|refine zd ?_ GE136.out)) hb);(try clear hb);(try clear hb2);(try clear hk);(try clear hi)))
 go_loopg [6,7,9] k (fun kq v6 v7 v9 w' => ∃ (x6_1 : List (S51)) (x7_1 : List Int) (x9_1 : Int),v9 = .int .i64 x9_1∧Aside0 (F6.l0 kq x6_1 x7_1 t143 x9_1 l0_0 a0_1 a1_0 a1_1 a1_2=some (r1,r2))∧Aside0 (kq≤k)∧Aside0 (Kd.R k51 51 w' w.heap.size (fun _ => True) v6 x6_1)∧Aside0 (Kd.R (Kd.int .i64) 3 w' w.heap.size (fun _ => True) v7 x7_1)∧Aside0 (w'.heap[gb135]? = some (.cells #[(.slice A0_0 l0_0.length c0_0),.int .i64 a0_1] 35 (0,0)))∧Aside0 (w'.heap[gb136]? = some (.cells #[.string a1_0,.string a1_1,.bool a1_2] 37 (0,0)))∧Aside0 (Below w.heap.size w w'))
 case atStart => exact ⟨(y137),(y140),(t143),(by first|rfl|(simp;done)|(simp [*];done)),H',⟨ye _⟩,⟨by (with_reducible repeat (first|apply zm|apply zn|apply zo));exact HO139.out⟩,⟨by (with_reducible repeat (first|apply zm|apply zn|apply zo));exact HO142.out⟩,⟨by (with_reducible repeat first|apply ze|apply zf|apply zg);exact BK135.out⟩,⟨by (with_reducible repeat first|apply ze|apply zf|apply zg);exact BK136.out⟩,⟨by repeat (with_reducible first|exact HB.out|apply za|apply zb|apply zc|refine zd ?_ GE135.out|refine zd ?_ GE136.out)⟩⟩
 case round =>
  clear H'
  try clear c1 c2
  try clear p2
  try clear c5 c10
  try clear hcz11_0 hcz11_1
  try clear hcz12_0 hcz12_1 hcz12_2
  try clear hfz11_0 hfz11_1
  try clear hfz12_0 hfz12_1 hfz12_2
  obtain ⟨x6_1,x7_1,x9_1,rfl,HA,HK1,HO_6,HO_7,BK135,BK136,HB⟩:=hrel
  cases gk with
  | zero => exact absurd HA.out (by simp [F6.l0])
  | succ k1 =>
   have H:=HA.out;clear HA;simp only [F6.l0] at H
   by_cases c14 : x9_1<(l0_0.length : Int)
   ·
    rw [if_pos c14] at H
    have c14b0 : decide (x9_1<(l0_0.length : Int))=true:=decide_eq_true c14;clear c14
    by_cases c15 : 0≤x9_1
    ·
     rw [if_pos c15] at H
     have c15b0 : decide (0≤x9_1)=true:=decide_eq_true c15;clear c15;have HC16:=zh H;clear H;have hnb17:=NB135_136.out;have hnc17:=NB136_135.out;obtain ⟨hcz18_0,hcz18_1,hfz18_0,hfz18_1⟩:=cB2 BK135.out;have p144 : 0≤(x9_1 : Int):=zy (by first|(with_reducible assumption)|assumption);have q144 : x9_1<(l0_0.length : Int):=zy (by first|(with_reducible assumption)|assumption);obtain ⟨ad144,A144_1,c144_1,e144,hx144_0,hx144_1,hl144_1,hi144_1⟩:=at_T67 HR0_0.out x9_1 p144 q144
     cases e144
     replace hx144_0:=(HB.out.cell (zl w _ hx144_0)).trans hx144_0;replace hx144_1:=(HB.out.cell (zl w _ hx144_1)).trans hx144_1;have HR144_1:=zh hi144_1;have HC144_1:=zh hl144_1;clear hi144_1 hl144_1;replace p144:=eq_true p144;replace q144:=eq_true q144
     go_upto_region 8 with (fail)
     go_cut [54] (fun v54 wc => ∃ (kq : Nat) (x54_15 : Bool),v54 = .bool x54_15∧Aside0 (F6.j1 kq x6_1 x7_1 t143 x9_1 ((rd_T67 l0_0 x9_1).f1) x54_15 l0_0 a0_1 a1_0 a1_1 a1_2=some (r1,r2))∧Aside0 (kq≤k1)∧Aside0 (Kd.R k51 51 wc w.heap.size (fun _ => True) u6 x6_1)∧Aside0 (Kd.R (Kd.int .i64) 3 wc w.heap.size (fun _ => True) u7 x7_1)∧Aside0 (wc.heap[gb135]? = some (.cells #[(.slice (some ad144) l0_0.length c0_0),.int .i64 a0_1] 35 (0,0)))∧Aside0 (wc.heap[gb136]? = some (.cells #[.string a1_0,.string a1_1,.bool a1_2] 37 (0,0)))∧Aside0 (Below w.heap.size w wc))
     case first =>
      have H:=HC16.out;clear HC16
      by_cases c19 : x9_1 > t143
      ·
       rw [if_pos c19] at H
       have c19b0 : decide (t143<x9_1)=true:=decide_eq_true c19;clear c19;(first|rw [c19b0]|(simp only [zG,zH];rw [c19b0])|skip)
       by_cases c20 : a1_2=true
       ·
        subst c20
        have H1 : (F6.j1 k1 x6_1 x7_1 t143 x9_1 ((rd_T67 l0_0 x9_1).f1) false l0_0 a0_1 a1_0 a1_1 true)=some (r1,r2):=by rw [if_pos rfl] at H;exact H
        clear H;have H:=H1;clear H1;have H':=zh H;clear H
        try go_wp2
        replace HO_6:=zh (zo HO_6.out);replace HO_7:=zh (zo HO_7.out);replace BK135:=zh (zf BK135.out);replace BK136:=zh (zf BK136.out);replace HB:=zh (zc HB.out);refine start_ (n:=22) (S:=fun w' => w'.cell? ⟨gb136,0,none⟩=some (.string a1_0)∧w'.cell? ⟨gb136,1,none⟩=some (.string a1_1)∧w'.cell? ⟨gb136,2,none⟩=some (.bool true)) (ds:=[]) (bm_ 0 22) (by kernel_rfl) rfl rfl ⟨(zz BK136.out 0).trans rfl,(zz BK136.out 1).trans rfl,(zz BK136.out 2).trans rfl⟩ (fun hHeld => ?_);refine with_tabW F6.tab8 F6.bits8 (fun HT_ HW_ => ?_);generalize wr.drew=w21 at HO_6 HO_7 BK135 BK136 HB hHeld ⊢;refine pure_ (i:=0) (N:=some 33) (v:=?_) (a':=?_) (bm_ 1 22) rfl rfl (any_of HT_.out (by kernel_rfl)) (fun _ _ _ h => h) (Or.inl ⟨by rfl,?_⟩) ?_ ?_;rotate_left
        ·
         intro w'
         go_simp
         with_reducible rfl
        rotate_left
        ·
         simp only [Act.put,zi,zj,zk,zG,zH]
         rfl
        refine pure_ (i:=1) (N:=some 34) (v:=?_) (a':=?_) (bm_ 2 22) rfl rfl (any_of HT_.out (by kernel_rfl)) (fun _ _ _ h => h) (Or.inl ⟨by rfl,?_⟩) ?_ ?_;rotate_left
        ·
         intro w'
         go_simp
         with_reducible rfl
        rotate_left
        ·
         simp only [Act.put,zi,zj,zk,zG,zH]
         rfl
        refine pure_ (i:=2) (N:=some 35) (v:=?_) (a':=?_) (bm_ 3 22) rfl rfl (any_of HT_.out (by kernel_rfl)) (fun _ _ _ h => h) (Or.inl ⟨by rfl,?_⟩) ?_ ?_;rotate_left
        ·
         intro w'
         go_simp
         with_reducible rfl
        rotate_left
        ·
         simp only [Act.put,zi,zj,zk,zG,zH]
         rfl
        refine pure_ (i:=3) (N:=some 36) (v:=?_) (a':=?_) (bm_ 4 22) rfl rfl (any_of HT_.out (by kernel_rfl)) (fun _ _ _ h => h) (Or.inl ⟨by rfl,?_⟩) ?_ ?_;rotate_left
        ·
         intro w'
         go_simp
         with_reducible rfl
        rotate_left
        ·
         simp only [Act.put,zi,zj,zk,zG,zH]
         rfl
        refine pure_ (i:=4) (N:=some 37) (v:=?_) (a':=?_) (bm_ 5 22) rfl rfl (any_of HT_.out (by kernel_rfl)) (fun _ _ _ h => h) (Or.inl ⟨by rfl,?_⟩) ?_ ?_;rotate_left
        ·
         intro w'
         go_simp
         with_reducible rfl
        rotate_left
        ·
         simp only [Act.put,zi,zj,zk,zG,zH]
         rfl
        refine take_ (i:=5) (N:=some 38) (v:=?_) (a':=?_) (bm_ 6 22) rfl rfl (yo HT_.out HW_.out (by kernel_rfl)) (fun _ _ _ h => h) (Or.inl ⟨by rfl,?_⟩) hHeld ?_ ?_;rotate_left
        ·
         rintro w' ⟨s0,s1,s2⟩
         go_simp
         with_reducible rfl
        rotate_left
        ·
         simp only [Act.put,zi,zj,zk,zG,zH]
         rfl
        refine pure_ (i:=6) (N:=some 39) (v:=?_) (a':=?_) (bm_ 7 22) rfl rfl (any_of HT_.out (by kernel_rfl)) (fun _ _ _ h => h) (Or.inl ⟨by rfl,?_⟩) ?_ ?_;rotate_left
        ·
         intro w'
         go_simp
         with_reducible rfl
        rotate_left
        ·
         simp only [Act.put,zi,zj,zk,zG,zH]
         rfl
        refine pure_ (i:=7) (N:=some 40) (v:=?_) (a':=?_) (bm_ 8 22) rfl rfl (any_of HT_.out (by kernel_rfl)) (fun _ _ _ h => h) (Or.inl ⟨by rfl,?_⟩) ?_ ?_;rotate_left
        ·
         intro w'
         go_simp
         with_reducible rfl
        rotate_left
        ·
         simp only [Act.put,zi,zj,zk,zG,zH]
         rfl
        refine pure_ (i:=8) (N:=some 41) (v:=?_) (a':=?_) (bm_ 9 22) rfl rfl (any_of HT_.out (by kernel_rfl)) (fun _ _ _ h => h) (Or.inl ⟨by rfl,?_⟩) ?_ ?_;rotate_left
        ·
         intro w'
         go_simp
         with_reducible rfl
        rotate_left
        ·
         simp only [Act.put,zi,zj,zk,zG,zH]
         rfl
        refine pure_ (i:=9) (N:=some 42) (v:=undef) (a':=?_) (bm_ 10 22) rfl rfl (any_of HT_.out (by kernel_rfl)) (fun _ _ _ h => h) (Or.inr ⟨by rfl,rfl⟩) ?_ ?_;rotate_left
        ·
         simp only [Act.put,zi,zj,zk,zG,zH]
         rfl
        refine pure_ (i:=10) (N:=some 43) (v:=undef) (a':=?_) (bm_ 11 22) rfl rfl (any_of HT_.out (by kernel_rfl)) (fun _ _ _ h => h) (Or.inr ⟨by rfl,rfl⟩) ?_ ?_;rotate_left
        ·
         simp only [Act.put,zi,zj,zk,zG,zH]
         rfl
        refine pure_ (i:=11) (N:=some 44) (v:=undef) (a':=?_) (bm_ 12 22) rfl rfl (any_of HT_.out (by kernel_rfl)) (fun _ _ _ h => h) (Or.inr ⟨by rfl,rfl⟩) ?_ ?_;rotate_left
        ·
         simp only [Act.put,zi,zj,zk,zG,zH]
         rfl
        refine pure_ (i:=12) (N:=some 45) (v:=?_) (a':=?_) (bm_ 13 22) rfl rfl (any_of HT_.out (by kernel_rfl)) (fun _ _ _ h => h) (Or.inl ⟨by rfl,?_⟩) ?_ ?_;rotate_left
        ·
         intro w'
         go_simp
         with_reducible rfl
        rotate_left
        ·
         simp only [Act.put,zi,zj,zk,zG,zH]
         rfl
        refine pure_ (i:=13) (N:=some 46) (v:=?_) (a':=?_) (bm_ 14 22) rfl rfl (any_of HT_.out (by kernel_rfl)) (fun _ _ _ h => h) (Or.inl ⟨by rfl,?_⟩) ?_ ?_;rotate_left
        ·
         intro w'
         go_simp
         with_reducible rfl
        rotate_left
        ·
         simp only [Act.put,zi,zj,zk,zG,zH]
         rfl
        refine pure_ (i:=14) (N:=some 47) (v:=undef) (a':=?_) (bm_ 15 22) rfl rfl (any_of HT_.out (by kernel_rfl)) (fun _ _ _ h => h) (Or.inr ⟨by rfl,rfl⟩) ?_ ?_;rotate_left
        ·
         simp only [Act.put,zi,zj,zk,zG,zH]
         rfl
        refine pure_ (i:=15) (N:=some 48) (v:=undef) (a':=?_) (bm_ 16 22) rfl rfl (any_of HT_.out (by kernel_rfl)) (fun _ _ _ h => h) (Or.inr ⟨by rfl,rfl⟩) ?_ ?_;rotate_left
        ·
         simp only [Act.put,zi,zj,zk,zG,zH]
         rfl
        refine pure_ (i:=16) (N:=some 49) (v:=undef) (a':=?_) (bm_ 17 22) rfl rfl (any_of HT_.out (by kernel_rfl)) (fun _ _ _ h => h) (Or.inr ⟨by rfl,rfl⟩) ?_ ?_;rotate_left
        ·
         simp only [Act.put,zi,zj,zk,zG,zH]
         rfl
        refine pure_ (i:=17) (N:=some 50) (v:=undef) (a':=?_) (bm_ 18 22) rfl rfl (any_of HT_.out (by kernel_rfl)) (fun _ _ _ h => h) (Or.inr ⟨by rfl,rfl⟩) ?_ ?_;rotate_left
        ·
         simp only [Act.put,zi,zj,zk,zG,zH]
         rfl
        refine pure_ (i:=18) (N:=some 51) (v:=undef) (a':=?_) (bm_ 19 22) rfl rfl (any_of HT_.out (by kernel_rfl)) (fun _ _ _ h => h) (Or.inr ⟨by rfl,rfl⟩) ?_ ?_;rotate_left
        ·
         simp only [Act.put,zi,zj,zk,zG,zH]
         rfl
        refine pure_ (i:=19) (N:=some 52) (v:=undef) (a':=?_) (bm_ 20 22) rfl rfl (any_of HT_.out (by kernel_rfl)) (fun _ _ _ h => h) (Or.inr ⟨by rfl,rfl⟩) ?_ ?_;rotate_left
        ·
         simp only [Act.put,zi,zj,zk,zG,zH]
         rfl
        refine pure_ (i:=20) (N:=some 53) (v:=undef) (a':=?_) (bm_ 21 22) rfl rfl (any_of HT_.out (by kernel_rfl)) (fun _ _ _ h => h) (Or.inr ⟨by rfl,rfl⟩) ?_ ?_;rotate_left
        ·
         simp only [Act.put,zi,zj,zk,zG,zH]
         rfl
        refine pure_ (i:=21) (N:=some 54) (v:=?_) (a':=?_) (bm_ 22 22) rfl rfl (any_of HT_.out (by kernel_rfl)) (fun _ _ _ h => h) (Or.inl ⟨by rfl,?_⟩) ?_ ?_;rotate_left
        ·
         intro w'
         go_simp
         with_reducible rfl
        rotate_left
        ·
         simp only [Act.put,zi,zj,zk,zG,zH]
         rfl
        refine done_ (done_of HT_.out (by kernel_rfl)) ?_
        try go_wp2
        go_meet
        case rel => exact ⟨_,(false),(by first|rfl|(simp;done)|(simp [*];done)),H',⟨by have:=HK1.out;first|omega|exact ye _⟩,⟨by (with_reducible repeat (first|apply zm|apply zn|apply zo));exact HO_6.out⟩,⟨by (with_reducible repeat (first|apply zm|apply zn|apply zo));exact HO_7.out⟩,⟨by (with_reducible repeat first|apply ze|apply zf|apply zg);exact BK135.out⟩,⟨by (with_reducible repeat first|apply ze|apply zf|apply zg);exact BK136.out⟩,⟨by repeat (with_reducible first|exact HB.out|apply za|apply zb|apply zc|refine zd ?_ GE135.out|refine zd ?_ GE136.out)⟩⟩
       replace c20:=yb.mpr c20;subst c20;have H1 : (if (((rd_T67 l0_0 x9_1).f1).length : Int) > 0 then (if 0<(((rd_T67 l0_0 x9_1).f1).length : Int) then (F6.j1 k1 x6_1 x7_1 t143 x9_1 ((rd_T67 l0_0 x9_1).f1) (!(Op.bytesLess (((rd_T51 ((rd_T67 l0_0 x9_1).f1) 0).f0).toList) a1_1.toList)) l0_0 a0_1 a1_0 a1_1 false) else (none)) else (F6.j1 k1 x6_1 x7_1 t143 x9_1 ((rd_T67 l0_0 x9_1).f1) false l0_0 a0_1 a1_0 a1_1 false))=some (r1,r2):=by rw [if_neg (show ¬ (false=true) by decide)] at H;exact H
       clear H;have H:=H1;clear H1
       by_cases c22 : (((rd_T67 l0_0 x9_1).f1).length : Int) > 0
       ·
        rw [if_pos c22] at H
        have c22b0 : decide (0<(((rd_T67 l0_0 x9_1).f1).length : Int))=true:=decide_eq_true c22;have c22b1 : decide (0<((rd_T67 l0_0 x9_1).f1).length)=true:=decide_eq_true (by omega);clear c22
        by_cases c23 : 0<(((rd_T67 l0_0 x9_1).f1).length : Int)
        ·
         rw [if_pos c23] at H
         have c23b0 : decide (0<(((rd_T67 l0_0 x9_1).f1).length : Int))=true:=decide_eq_true c23;have c23b1 : decide (0<((rd_T67 l0_0 x9_1).f1).length)=true:=decide_eq_true (by omega);clear c23;have H':=zh H;clear H
         try go_wp2
         replace HO_6:=zh (zo HO_6.out);replace HO_7:=zh (zo HO_7.out);replace BK135:=zh (zf BK135.out);replace BK136:=zh (zf BK136.out);replace HB:=zh (zc HB.out);have p145 : 0≤(0 : Int):=(by omega);have q145 : 0<(((rd_T67 l0_0 x9_1).f1).length : Int):=zy (by first|(with_reducible assumption)|assumption);obtain ⟨ad145,e145,hx145_0,hx145_1⟩:=at_T51 HR144_1.out 0 p145 q145;have hw145_1:=hx145_1;(try rw [show ((0 : Int)).toNat=0 from rfl] at hw145_1);(try rw [show 0 * 2=0 from rfl] at hw145_1);(try rw [Addr.add_zero'] at hw145_1);have hw145_0:=hx145_0;(try rw [show ((0 : Int)).toNat=0 from rfl] at hw145_0);(try rw [show 0 * 2=0 from rfl] at hw145_0);(try rw [Addr.add_zero'] at hw145_0)
         cases e145
         have qi145 : (0<((rd_T67 l0_0 x9_1).f1).length)=True:=eq_true (by omega);(try rw [show ((0 : Int)).toNat=0 from rfl] at hx145_0);(try rw [show 0 * 2=0 from rfl] at hx145_0);(try rw [Addr.add_zero'] at hx145_0);(try rw [show ((0 : Int)).toNat=0 from rfl] at hx145_1);(try rw [show 0 * 2=0 from rfl] at hx145_1);(try rw [Addr.add_zero'] at hx145_1);replace hx145_0:=(HB.out.cell (zl w _ hx145_0)).trans hx145_0;replace hx145_1:=(HB.out.cell (zl w _ hx145_1)).trans hx145_1;replace p145:=eq_true p145;replace q145:=eq_true q145;refine start_ (n:=22) (S:=fun w' => w'.cell? ⟨gb136,0,none⟩=some (.string a1_0)∧w'.cell? ⟨gb136,1,none⟩=some (.string a1_1)∧w'.cell? ⟨gb136,2,none⟩=some (.bool false)∧w'.cell? ad145=some (.string ((rd_T51 ((rd_T67 l0_0 x9_1).f1) 0).f0))∧w'.cell? ⟨ad145.block,ad145.off + 1,none⟩=some (.int .i64 ((rd_T51 ((rd_T67 l0_0 x9_1).f1) 0).f1))) (ds:=[]) (bm_ 0 22) (by kernel_rfl) rfl rfl ⟨(zz BK136.out 0).trans rfl,(zz BK136.out 1).trans rfl,(zz BK136.out 2).trans rfl,((HB.out.cell (zl w _ hw145_0)).trans hw145_0),((HB.out.cell (zl w _ hw145_1)).trans hw145_1)⟩ (fun hHeld => ?_);refine with_tabW F6.tab8 F6.bits8 (fun HT_ HW_ => ?_);generalize wr.drew=w24 at HO_6 HO_7 BK135 BK136 HB hx145_0 hx145_1 hHeld ⊢;refine pure_ (i:=0) (N:=some 33) (v:=?_) (a':=?_) (bm_ 1 22) rfl rfl (any_of HT_.out (by kernel_rfl)) (fun _ _ _ h => h) (Or.inl ⟨by rfl,?_⟩) ?_ ?_;rotate_left
         ·
          intro w'
          go_simp
          with_reducible rfl
         rotate_left
         ·
          simp only [Act.put,zi,zj,zk,zG,zH]
          rfl
         refine pure_ (i:=1) (N:=some 34) (v:=?_) (a':=?_) (bm_ 2 22) rfl rfl (any_of HT_.out (by kernel_rfl)) (fun _ _ _ h => h) (Or.inl ⟨by rfl,?_⟩) ?_ ?_;rotate_left
         ·
          intro w'
          go_simp
          with_reducible rfl
         rotate_left
         ·
          simp only [Act.put,zi,zj,zk,zG,zH]
          rfl
         refine pure_ (i:=2) (N:=some 35) (v:=?_) (a':=?_) (bm_ 3 22) rfl rfl (any_of HT_.out (by kernel_rfl)) (fun _ _ _ h => h) (Or.inl ⟨by rfl,?_⟩) ?_ ?_;rotate_left
         ·
          intro w'
          go_simp
          with_reducible rfl
         rotate_left
         ·
          simp only [Act.put,zi,zj,zk,zG,zH]
          rfl
         refine pure_ (i:=3) (N:=some 36) (v:=?_) (a':=?_) (bm_ 4 22) rfl rfl (any_of HT_.out (by kernel_rfl)) (fun _ _ _ h => h) (Or.inl ⟨by rfl,?_⟩) ?_ ?_;rotate_left
         ·
          intro w'
          go_simp
          with_reducible rfl
         rotate_left
         ·
          simp only [Act.put,zi,zj,zk,zG,zH]
          rfl
         refine pure_ (i:=4) (N:=some 37) (v:=?_) (a':=?_) (bm_ 5 22) rfl rfl (any_of HT_.out (by kernel_rfl)) (fun _ _ _ h => h) (Or.inl ⟨by rfl,?_⟩) ?_ ?_;rotate_left
         ·
          intro w'
          go_simp
          with_reducible rfl
         rotate_left
         ·
          simp only [Act.put,zi,zj,zk,zG,zH]
          rfl
         refine take_ (i:=5) (N:=some 38) (v:=?_) (a':=?_) (bm_ 6 22) rfl rfl (yo HT_.out HW_.out (by kernel_rfl)) (fun _ _ _ h => h) (Or.inl ⟨by rfl,?_⟩) hHeld ?_ ?_;rotate_left
         ·
          rintro w' ⟨s0,s1,s2,s3,s4⟩
          go_simp
          with_reducible rfl
         rotate_left
         ·
          simp only [Act.put,zi,zj,zk,zG,zH]
          rfl
         refine pure_ (i:=6) (N:=some 39) (v:=?_) (a':=?_) (bm_ 7 22) rfl rfl (any_of HT_.out (by kernel_rfl)) (fun _ _ _ h => h) (Or.inl ⟨by rfl,?_⟩) ?_ ?_;rotate_left
         ·
          intro w'
          go_simp
          with_reducible rfl
         rotate_left
         ·
          simp only [Act.put,zi,zj,zk,zG,zH]
          rfl
         refine pure_ (i:=7) (N:=some 40) (v:=?_) (a':=?_) (bm_ 8 22) rfl rfl (any_of HT_.out (by kernel_rfl)) (fun _ _ _ h => h) (Or.inl ⟨by rfl,?_⟩) ?_ ?_;rotate_left
         ·
          intro w'
          go_simp
          with_reducible rfl
         rotate_left
         ·
          simp only [Act.put,zi,zj,zk,zG,zH]
          rfl
         refine pure_ (i:=8) (N:=some 41) (v:=?_) (a':=?_) (bm_ 9 22) rfl rfl (any_of HT_.out (by kernel_rfl)) (fun _ _ _ h => h) (Or.inl ⟨by rfl,?_⟩) ?_ ?_;rotate_left
         ·
          intro w'
          go_simp
          with_reducible rfl
         rotate_left
         ·
          simp only [Act.put,zi,zj,zk,zG,zH]
          rfl
         refine pure_ (i:=9) (N:=some 42) (v:=?_) (a':=?_) (bm_ 10 22) rfl rfl (any_of HT_.out (by kernel_rfl)) (fun _ _ _ h => h) (Or.inl ⟨by rfl,?_⟩) ?_ ?_;rotate_left
         ·
          intro w'
          go_simp
          with_reducible rfl
         rotate_left
         ·
          simp only [Act.put,zi,zj,zk,zG,zH]
          rfl
         refine pure_ (i:=10) (N:=some 43) (v:=?_) (a':=?_) (bm_ 11 22) rfl rfl (any_of HT_.out (by kernel_rfl)) (fun _ _ _ h => h) (Or.inl ⟨by rfl,?_⟩) ?_ ?_;rotate_left
         ·
          intro w'
          go_simp
          with_reducible rfl
         rotate_left
         ·
          simp only [Act.put,zi,zj,zk,zG,zH]
          rfl
         refine pure_ (i:=11) (N:=some 44) (v:=?_) (a':=?_) (bm_ 12 22) rfl rfl (any_of HT_.out (by kernel_rfl)) (fun _ _ _ h => h) (Or.inl ⟨by rfl,?_⟩) ?_ ?_;rotate_left
         ·
          intro w'
          go_simp
          with_reducible rfl
         rotate_left
         ·
          simp only [Act.put,zi,zj,zk,zG,zH]
          rfl
         refine pure_ (i:=12) (N:=some 45) (v:=?_) (a':=?_) (bm_ 13 22) rfl rfl (any_of HT_.out (by kernel_rfl)) (fun _ _ _ h => h) (Or.inl ⟨by rfl,?_⟩) ?_ ?_;rotate_left
         ·
          intro w'
          go_simp
          with_reducible rfl
         rotate_left
         ·
          simp only [Act.put,zi,zj,zk,zG,zH]
          rfl
         refine pure_ (i:=13) (N:=some 46) (v:=?_) (a':=?_) (bm_ 14 22) rfl rfl (any_of HT_.out (by kernel_rfl)) (fun _ _ _ h => h) (Or.inl ⟨by rfl,?_⟩) ?_ ?_;rotate_left
         ·
          intro w'
          go_simp
          with_reducible rfl
         rotate_left
         ·
          simp only [Act.put,zi,zj,zk,zG,zH]
          rfl
         refine pure_ (i:=14) (N:=some 47) (v:=?_) (a':=?_) (bm_ 15 22) rfl rfl (any_of HT_.out (by kernel_rfl)) (fun _ _ _ h => h) (Or.inl ⟨by rfl,?_⟩) ?_ ?_;rotate_left
         ·
          intro w'
          go_simp
          with_reducible rfl
         rotate_left
         ·
          simp only [Act.put,zi,zj,zk,zG,zH]
          rfl
         refine pure_ (i:=15) (N:=some 48) (v:=?_) (a':=?_) (bm_ 16 22) rfl rfl (any_of HT_.out (by kernel_rfl)) (fun _ _ _ h => h) (Or.inl ⟨by rfl,?_⟩) ?_ ?_;rotate_left
         ·
          intro w'
          go_simp
          with_reducible rfl
         rotate_left
         ·
          simp only [Act.put,zi,zj,zk,zG,zH]
          rfl
         refine pure_ (i:=16) (N:=some 49) (v:=?_) (a':=?_) (bm_ 17 22) rfl rfl (any_of HT_.out (by kernel_rfl)) (fun _ _ _ h => h) (Or.inl ⟨by rfl,?_⟩) ?_ ?_;rotate_left
         ·
          intro w'
          go_simp
          with_reducible rfl
         rotate_left
         ·
          simp only [Act.put,zi,zj,zk,zG,zH]
          rfl
         refine pure_ (i:=18) (N:=some 51) (v:=?_) (a':=?_) #[true,true,true,true,true,true,true,true,true,true,true,true,true,true,true,true,true,false,true,false,false,false] rfl rfl (any_of HT_.out (by kernel_rfl)) (fun _ _ _ h => h) (Or.inl ⟨by rfl,?_⟩) ?_ ?_;rotate_left
         ·
          intro w'
          go_simp
          with_reducible rfl
         rotate_left
         ·
          simp only [Act.put,zi,zj,zk,zG,zH]
          rfl
         refine take_ (i:=17) (N:=some 50) (v:=?_) (a':=?_) (bm_ 19 22) rfl rfl (yo HT_.out HW_.out (by kernel_rfl)) (fun _ _ _ h => h) (Or.inl ⟨by rfl,?_⟩) hHeld ?_ ?_;rotate_left
         ·
          rintro w' ⟨s0,s1,s2,s3,s4⟩
          go_simp
          with_reducible rfl
         rotate_left
         ·
          simp only [Act.put,zi,zj,zk,zG,zH]
          rfl
         refine take_ (i:=19) (N:=some 52) (v:=?_) (a':=?_) (bm_ 20 22) rfl rfl (yo HT_.out HW_.out (by kernel_rfl)) (fun _ _ _ h => h) (Or.inl ⟨by rfl,?_⟩) hHeld ?_ ?_;rotate_left
         ·
          rintro w' ⟨s0,s1,s2,s3,s4⟩
          go_simp
          with_reducible rfl
         rotate_left
         ·
          simp only [Act.put,zi,zj,zk,zG,zH]
          rfl
         refine pure_ (i:=20) (N:=some 53) (v:=?_) (a':=?_) (bm_ 21 22) rfl rfl (any_of HT_.out (by kernel_rfl)) (fun _ _ _ h => h) (Or.inl ⟨by rfl,?_⟩) ?_ ?_;rotate_left
         ·
          intro w'
          go_simp
          with_reducible rfl
         rotate_left
         ·
          simp only [Act.put,zi,zj,zk,zG,zH]
          rfl
         refine pure_ (i:=21) (N:=some 54) (v:=?_) (a':=?_) (bm_ 22 22) rfl rfl (any_of HT_.out (by kernel_rfl)) (fun _ _ _ h => h) (Or.inl ⟨by rfl,?_⟩) ?_ ?_;rotate_left
         ·
          intro w'
          go_simp
          with_reducible rfl
         rotate_left
         ·
          simp only [Act.put,zi,zj,zk,zG,zH]
          rfl
         refine done_ (done_of HT_.out (by kernel_rfl)) ?_
         try go_wp2
         go_meet
         case rel => exact ⟨_,(!(Op.bytesLess (((rd_T51 ((rd_T67 l0_0 x9_1).f1) 0).f0).toList) a1_1.toList)),(by first|rfl|(simp;done)|(simp [*];done)),H',⟨by have:=HK1.out;first|omega|exact ye _⟩,⟨by (with_reducible repeat (first|apply zm|apply zn|apply zo));exact HO_6.out⟩,⟨by (with_reducible repeat (first|apply zm|apply zn|apply zo));exact HO_7.out⟩,⟨by (with_reducible repeat first|apply ze|apply zf|apply zg);exact BK135.out⟩,⟨by (with_reducible repeat first|apply ze|apply zf|apply zg);exact BK136.out⟩,⟨by repeat (with_reducible first|exact HB.out|apply za|apply zb|apply zc|refine zd ?_ GE135.out|refine zd ?_ GE136.out)⟩⟩
        rw [if_neg c23] at H;exact absurd H (by simp)
       rw [if_neg c22] at H;have c22b0 : decide (0<(((rd_T67 l0_0 x9_1).f1).length : Int))=false:=decide_eq_false c22;have c22b1 : decide (0<((rd_T67 l0_0 x9_1).f1).length)=false:=decide_eq_false (by omega);clear c22;have H':=zh H;clear H
       try go_wp2
       replace HO_6:=zh (zo HO_6.out);replace HO_7:=zh (zo HO_7.out);replace BK135:=zh (zf BK135.out);replace BK136:=zh (zf BK136.out);replace HB:=zh (zc HB.out);refine start_ (n:=22) (S:=fun w' => w'.cell? ⟨gb136,0,none⟩=some (.string a1_0)∧w'.cell? ⟨gb136,1,none⟩=some (.string a1_1)∧w'.cell? ⟨gb136,2,none⟩=some (.bool false)) (ds:=[]) (bm_ 0 22) (by kernel_rfl) rfl rfl ⟨(zz BK136.out 0).trans rfl,(zz BK136.out 1).trans rfl,(zz BK136.out 2).trans rfl⟩ (fun hHeld => ?_);refine with_tabW F6.tab8 F6.bits8 (fun HT_ HW_ => ?_);generalize wr.drew=w25 at HO_6 HO_7 BK135 BK136 HB hHeld ⊢;refine pure_ (i:=0) (N:=some 33) (v:=?_) (a':=?_) (bm_ 1 22) rfl rfl (any_of HT_.out (by kernel_rfl)) (fun _ _ _ h => h) (Or.inl ⟨by rfl,?_⟩) ?_ ?_;rotate_left
       ·
        intro w'
        go_simp
        with_reducible rfl
       rotate_left
       ·
        simp only [Act.put,zi,zj,zk,zG,zH]
        rfl
       refine pure_ (i:=1) (N:=some 34) (v:=?_) (a':=?_) (bm_ 2 22) rfl rfl (any_of HT_.out (by kernel_rfl)) (fun _ _ _ h => h) (Or.inl ⟨by rfl,?_⟩) ?_ ?_;rotate_left
       ·
        intro w'
        go_simp
        with_reducible rfl
       rotate_left
       ·
        simp only [Act.put,zi,zj,zk,zG,zH]
        rfl
       refine pure_ (i:=2) (N:=some 35) (v:=?_) (a':=?_) (bm_ 3 22) rfl rfl (any_of HT_.out (by kernel_rfl)) (fun _ _ _ h => h) (Or.inl ⟨by rfl,?_⟩) ?_ ?_;rotate_left
       ·
        intro w'
        go_simp
        with_reducible rfl
       rotate_left
       ·
        simp only [Act.put,zi,zj,zk,zG,zH]
        rfl
       refine pure_ (i:=3) (N:=some 36) (v:=?_) (a':=?_) (bm_ 4 22) rfl rfl (any_of HT_.out (by kernel_rfl)) (fun _ _ _ h => h) (Or.inl ⟨by rfl,?_⟩) ?_ ?_;rotate_left
       ·
        intro w'
        go_simp
        with_reducible rfl
       rotate_left
       ·
        simp only [Act.put,zi,zj,zk,zG,zH]
        rfl
       refine pure_ (i:=4) (N:=some 37) (v:=?_) (a':=?_) (bm_ 5 22) rfl rfl (any_of HT_.out (by kernel_rfl)) (fun _ _ _ h => h) (Or.inl ⟨by rfl,?_⟩) ?_ ?_;rotate_left
       ·
        intro w'
        go_simp
        with_reducible rfl
       rotate_left
       ·
        simp only [Act.put,zi,zj,zk,zG,zH]
        rfl
       refine take_ (i:=5) (N:=some 38) (v:=?_) (a':=?_) (bm_ 6 22) rfl rfl (yo HT_.out HW_.out (by kernel_rfl)) (fun _ _ _ h => h) (Or.inl ⟨by rfl,?_⟩) hHeld ?_ ?_;rotate_left
       ·
        rintro w' ⟨s0,s1,s2⟩
        go_simp
        with_reducible rfl
       rotate_left
       ·
        simp only [Act.put,zi,zj,zk,zG,zH]
        rfl
       refine pure_ (i:=6) (N:=some 39) (v:=?_) (a':=?_) (bm_ 7 22) rfl rfl (any_of HT_.out (by kernel_rfl)) (fun _ _ _ h => h) (Or.inl ⟨by rfl,?_⟩) ?_ ?_;rotate_left
       ·
        intro w'
        go_simp
        with_reducible rfl
       rotate_left
       ·
        simp only [Act.put,zi,zj,zk,zG,zH]
        rfl
       refine pure_ (i:=7) (N:=some 40) (v:=?_) (a':=?_) (bm_ 8 22) rfl rfl (any_of HT_.out (by kernel_rfl)) (fun _ _ _ h => h) (Or.inl ⟨by rfl,?_⟩) ?_ ?_;rotate_left
       ·
        intro w'
        go_simp
        with_reducible rfl
       rotate_left
       ·
        simp only [Act.put,zi,zj,zk,zG,zH]
        rfl
       refine pure_ (i:=8) (N:=some 41) (v:=?_) (a':=?_) (bm_ 9 22) rfl rfl (any_of HT_.out (by kernel_rfl)) (fun _ _ _ h => h) (Or.inl ⟨by rfl,?_⟩) ?_ ?_;rotate_left
       ·
        intro w'
        go_simp
        with_reducible rfl
       rotate_left
       ·
        simp only [Act.put,zi,zj,zk,zG,zH]
        rfl
       refine pure_ (i:=9) (N:=some 42) (v:=?_) (a':=?_) (bm_ 10 22) rfl rfl (any_of HT_.out (by kernel_rfl)) (fun _ _ _ h => h) (Or.inl ⟨by rfl,?_⟩) ?_ ?_;rotate_left
       ·
        intro w'
        go_simp
        with_reducible rfl
       rotate_left
       ·
        simp only [Act.put,zi,zj,zk,zG,zH]
        rfl
       refine pure_ (i:=10) (N:=some 43) (v:=?_) (a':=?_) (bm_ 11 22) rfl rfl (any_of HT_.out (by kernel_rfl)) (fun _ _ _ h => h) (Or.inl ⟨by rfl,?_⟩) ?_ ?_;rotate_left
       ·
        intro w'
        go_simp
        with_reducible rfl
       rotate_left
       ·
        simp only [Act.put,zi,zj,zk,zG,zH]
        rfl
       refine pure_ (i:=11) (N:=some 44) (v:=?_) (a':=?_) (bm_ 12 22) rfl rfl (any_of HT_.out (by kernel_rfl)) (fun _ _ _ h => h) (Or.inl ⟨by rfl,?_⟩) ?_ ?_;rotate_left
       ·
        intro w'
        go_simp
        with_reducible rfl
       rotate_left
       ·
        simp only [Act.put,zi,zj,zk,zG,zH]
        rfl
       refine pure_ (i:=12) (N:=some 45) (v:=?_) (a':=?_) (bm_ 13 22) rfl rfl (any_of HT_.out (by kernel_rfl)) (fun _ _ _ h => h) (Or.inl ⟨by rfl,?_⟩) ?_ ?_;rotate_left
       ·
        intro w'
        go_simp
        with_reducible rfl
       rotate_left
       ·
        simp only [Act.put,zi,zj,zk,zG,zH]
        rfl
       refine pure_ (i:=13) (N:=some 46) (v:=?_) (a':=?_) (bm_ 14 22) rfl rfl (any_of HT_.out (by kernel_rfl)) (fun _ _ _ h => h) (Or.inl ⟨by rfl,?_⟩) ?_ ?_;rotate_left
       ·
        intro w'
        go_simp
        with_reducible rfl
       rotate_left
       ·
        simp only [Act.put,zi,zj,zk,zG,zH]
        rfl
       refine pure_ (i:=14) (N:=some 47) (v:=undef) (a':=?_) (bm_ 15 22) rfl rfl (any_of HT_.out (by kernel_rfl)) (fun _ _ _ h => h) (Or.inr ⟨by rfl,rfl⟩) ?_ ?_;rotate_left
       ·
        simp only [Act.put,zi,zj,zk,zG,zH]
        rfl
       refine pure_ (i:=15) (N:=some 48) (v:=undef) (a':=?_) (bm_ 16 22) rfl rfl (any_of HT_.out (by kernel_rfl)) (fun _ _ _ h => h) (Or.inr ⟨by rfl,rfl⟩) ?_ ?_;rotate_left
       ·
        simp only [Act.put,zi,zj,zk,zG,zH]
        rfl
       refine pure_ (i:=16) (N:=some 49) (v:=undef) (a':=?_) (bm_ 17 22) rfl rfl (any_of HT_.out (by kernel_rfl)) (fun _ _ _ h => h) (Or.inr ⟨by rfl,rfl⟩) ?_ ?_;rotate_left
       ·
        simp only [Act.put,zi,zj,zk,zG,zH]
        rfl
       refine pure_ (i:=17) (N:=some 50) (v:=undef) (a':=?_) (bm_ 18 22) rfl rfl (any_of HT_.out (by kernel_rfl)) (fun _ _ _ h => h) (Or.inr ⟨by rfl,rfl⟩) ?_ ?_;rotate_left
       ·
        simp only [Act.put,zi,zj,zk,zG,zH]
        rfl
       refine pure_ (i:=18) (N:=some 51) (v:=undef) (a':=?_) (bm_ 19 22) rfl rfl (any_of HT_.out (by kernel_rfl)) (fun _ _ _ h => h) (Or.inr ⟨by rfl,rfl⟩) ?_ ?_;rotate_left
       ·
        simp only [Act.put,zi,zj,zk,zG,zH]
        rfl
       refine pure_ (i:=19) (N:=some 52) (v:=undef) (a':=?_) (bm_ 20 22) rfl rfl (any_of HT_.out (by kernel_rfl)) (fun _ _ _ h => h) (Or.inr ⟨by rfl,rfl⟩) ?_ ?_;rotate_left
       ·
        simp only [Act.put,zi,zj,zk,zG,zH]
        rfl
       refine pure_ (i:=20) (N:=some 53) (v:=undef) (a':=?_) (bm_ 21 22) rfl rfl (any_of HT_.out (by kernel_rfl)) (fun _ _ _ h => h) (Or.inr ⟨by rfl,rfl⟩) ?_ ?_;rotate_left
       ·
        simp only [Act.put,zi,zj,zk,zG,zH]
        rfl
       refine pure_ (i:=21) (N:=some 54) (v:=?_) (a':=?_) (bm_ 22 22) rfl rfl (any_of HT_.out (by kernel_rfl)) (fun _ _ _ h => h) (Or.inl ⟨by rfl,?_⟩) ?_ ?_;rotate_left
       ·
        intro w'
        go_simp
        with_reducible rfl
       rotate_left
       ·
        simp only [Act.put,zi,zj,zk,zG,zH]
        rfl
       refine done_ (done_of HT_.out (by kernel_rfl)) ?_
       try go_wp2
       go_meet
       case rel => exact ⟨_,(false),(by first|rfl|(simp;done)|(simp [*];done)),H',⟨by have:=HK1.out;first|omega|exact ye _⟩,⟨by (with_reducible repeat (first|apply zm|apply zn|apply zo));exact HO_6.out⟩,⟨by (with_reducible repeat (first|apply zm|apply zn|apply zo));exact HO_7.out⟩,⟨by (with_reducible repeat first|apply ze|apply zf|apply zg);exact BK135.out⟩,⟨by (with_reducible repeat first|apply ze|apply zf|apply zg);exact BK136.out⟩,⟨by repeat (with_reducible first|exact HB.out|apply za|apply zb|apply zc|refine zd ?_ GE135.out|refine zd ?_ GE136.out)⟩⟩
      rw [if_neg c19] at H;have c19b0 : decide (t143<x9_1)=false:=decide_eq_false c19;clear c19;(first|rw [c19b0]|(simp only [zG,zH];rw [c19b0])|skip);have H':=zh H;clear H
      try go_wp2
      replace HO_6:=zh (zo HO_6.out);replace HO_7:=zh (zo HO_7.out);replace BK135:=zh (zf BK135.out);replace BK136:=zh (zf BK136.out);replace HB:=zh (zc HB.out);refine start_ (n:=22) (S:=fun w' => True) (ds:=[]) (bm_ 0 22) (by kernel_rfl) rfl rfl trivial (fun hHeld => ?_);refine with_tabW F6.tab8 F6.bits8 (fun HT_ HW_ => ?_);generalize wr.drew=w26 at HO_6 HO_7 BK135 BK136 HB hHeld ⊢;refine pure_ (i:=0) (N:=some 33) (v:=?_) (a':=?_) (bm_ 1 22) rfl rfl (any_of HT_.out (by kernel_rfl)) (fun _ _ _ h => h) (Or.inl ⟨by rfl,?_⟩) ?_ ?_;rotate_left
      ·
       intro w'
       go_simp
       with_reducible rfl
      rotate_left
      ·
       simp only [Act.put,zi,zj,zk,zG,zH]
       rfl
      refine pure_ (i:=1) (N:=some 34) (v:=?_) (a':=?_) (bm_ 2 22) rfl rfl (any_of HT_.out (by kernel_rfl)) (fun _ _ _ h => h) (Or.inl ⟨by rfl,?_⟩) ?_ ?_;rotate_left
      ·
       intro w'
       go_simp
       with_reducible rfl
      rotate_left
      ·
       simp only [Act.put,zi,zj,zk,zG,zH]
       rfl
      refine pure_ (i:=2) (N:=some 35) (v:=?_) (a':=?_) (bm_ 3 22) rfl rfl (any_of HT_.out (by kernel_rfl)) (fun _ _ _ h => h) (Or.inl ⟨by rfl,?_⟩) ?_ ?_;rotate_left
      ·
       intro w'
       go_simp
       with_reducible rfl
      rotate_left
      ·
       simp only [Act.put,zi,zj,zk,zG,zH]
       rfl
      refine pure_ (i:=3) (N:=some 36) (v:=?_) (a':=?_) (bm_ 4 22) rfl rfl (any_of HT_.out (by kernel_rfl)) (fun _ _ _ h => h) (Or.inl ⟨by rfl,?_⟩) ?_ ?_;rotate_left
      ·
       intro w'
       go_simp
       with_reducible rfl
      rotate_left
      ·
       simp only [Act.put,zi,zj,zk,zG,zH]
       rfl
      refine pure_ (i:=4) (N:=some 37) (v:=undef) (a':=?_) (bm_ 5 22) rfl rfl (any_of HT_.out (by kernel_rfl)) (fun _ _ _ h => h) (Or.inr ⟨by rfl,rfl⟩) ?_ ?_;rotate_left
      ·
       simp only [Act.put,zi,zj,zk,zG,zH]
       rfl
      refine pure_ (i:=5) (N:=some 38) (v:=undef) (a':=?_) (bm_ 6 22) rfl rfl (any_of HT_.out (by kernel_rfl)) (fun _ _ _ h => h) (Or.inr ⟨by rfl,rfl⟩) ?_ ?_;rotate_left
      ·
       simp only [Act.put,zi,zj,zk,zG,zH]
       rfl
      refine pure_ (i:=6) (N:=some 39) (v:=undef) (a':=?_) (bm_ 7 22) rfl rfl (any_of HT_.out (by kernel_rfl)) (fun _ _ _ h => h) (Or.inr ⟨by rfl,rfl⟩) ?_ ?_;rotate_left
      ·
       simp only [Act.put,zi,zj,zk,zG,zH]
       rfl
      refine pure_ (i:=7) (N:=some 40) (v:=?_) (a':=?_) (bm_ 8 22) rfl rfl (any_of HT_.out (by kernel_rfl)) (fun _ _ _ h => h) (Or.inl ⟨by rfl,?_⟩) ?_ ?_;rotate_left
      ·
       intro w'
       go_simp
       with_reducible rfl
      rotate_left
      ·
       simp only [Act.put,zi,zj,zk,zG,zH]
       rfl
      refine pure_ (i:=8) (N:=some 41) (v:=?_) (a':=?_) (bm_ 9 22) rfl rfl (any_of HT_.out (by kernel_rfl)) (fun _ _ _ h => h) (Or.inl ⟨by rfl,?_⟩) ?_ ?_;rotate_left
      ·
       intro w'
       go_simp
       with_reducible rfl
      rotate_left
      ·
       simp only [Act.put,zi,zj,zk,zG,zH]
       rfl
      refine pure_ (i:=9) (N:=some 42) (v:=undef) (a':=?_) (bm_ 10 22) rfl rfl (any_of HT_.out (by kernel_rfl)) (fun _ _ _ h => h) (Or.inr ⟨by rfl,rfl⟩) ?_ ?_;rotate_left
      ·
       simp only [Act.put,zi,zj,zk,zG,zH]
       rfl
      refine pure_ (i:=10) (N:=some 43) (v:=undef) (a':=?_) (bm_ 11 22) rfl rfl (any_of HT_.out (by kernel_rfl)) (fun _ _ _ h => h) (Or.inr ⟨by rfl,rfl⟩) ?_ ?_;rotate_left
      ·
       simp only [Act.put,zi,zj,zk,zG,zH]
       rfl
      refine pure_ (i:=11) (N:=some 44) (v:=undef) (a':=?_) (bm_ 12 22) rfl rfl (any_of HT_.out (by kernel_rfl)) (fun _ _ _ h => h) (Or.inr ⟨by rfl,rfl⟩) ?_ ?_;rotate_left
      ·
       simp only [Act.put,zi,zj,zk,zG,zH]
       rfl
      refine pure_ (i:=12) (N:=some 45) (v:=?_) (a':=?_) (bm_ 13 22) rfl rfl (any_of HT_.out (by kernel_rfl)) (fun _ _ _ h => h) (Or.inl ⟨by rfl,?_⟩) ?_ ?_;rotate_left
      ·
       intro w'
       go_simp
       with_reducible rfl
      rotate_left
      ·
       simp only [Act.put,zi,zj,zk,zG,zH]
       rfl
      refine pure_ (i:=13) (N:=some 46) (v:=?_) (a':=?_) (bm_ 14 22) rfl rfl (any_of HT_.out (by kernel_rfl)) (fun _ _ _ h => h) (Or.inl ⟨by rfl,?_⟩) ?_ ?_;rotate_left
      ·
       intro w'
       go_simp
       with_reducible rfl
      rotate_left
      ·
       simp only [Act.put,zi,zj,zk,zG,zH]
       rfl
      refine pure_ (i:=14) (N:=some 47) (v:=undef) (a':=?_) (bm_ 15 22) rfl rfl (any_of HT_.out (by kernel_rfl)) (fun _ _ _ h => h) (Or.inr ⟨by rfl,rfl⟩) ?_ ?_;rotate_left
      ·
       simp only [Act.put,zi,zj,zk,zG,zH]
       rfl
      refine pure_ (i:=15) (N:=some 48) (v:=undef) (a':=?_) (bm_ 16 22) rfl rfl (any_of HT_.out (by kernel_rfl)) (fun _ _ _ h => h) (Or.inr ⟨by rfl,rfl⟩) ?_ ?_;rotate_left
      ·
       simp only [Act.put,zi,zj,zk,zG,zH]
       rfl
      refine pure_ (i:=16) (N:=some 49) (v:=undef) (a':=?_) (bm_ 17 22) rfl rfl (any_of HT_.out (by kernel_rfl)) (fun _ _ _ h => h) (Or.inr ⟨by rfl,rfl⟩) ?_ ?_;rotate_left
      ·
       simp only [Act.put,zi,zj,zk,zG,zH]
       rfl
      refine pure_ (i:=17) (N:=some 50) (v:=undef) (a':=?_) (bm_ 18 22) rfl rfl (any_of HT_.out (by kernel_rfl)) (fun _ _ _ h => h) (Or.inr ⟨by rfl,rfl⟩) ?_ ?_;rotate_left
      ·
       simp only [Act.put,zi,zj,zk,zG,zH]
       rfl
      refine pure_ (i:=18) (N:=some 51) (v:=undef) (a':=?_) (bm_ 19 22) rfl rfl (any_of HT_.out (by kernel_rfl)) (fun _ _ _ h => h) (Or.inr ⟨by rfl,rfl⟩) ?_ ?_;rotate_left
      ·
       simp only [Act.put,zi,zj,zk,zG,zH]
       rfl
      refine pure_ (i:=19) (N:=some 52) (v:=undef) (a':=?_) (bm_ 20 22) rfl rfl (any_of HT_.out (by kernel_rfl)) (fun _ _ _ h => h) (Or.inr ⟨by rfl,rfl⟩) ?_ ?_;rotate_left
      ·
       simp only [Act.put,zi,zj,zk,zG,zH]
       rfl
      refine pure_ (i:=20) (N:=some 53) (v:=undef) (a':=?_) (bm_ 21 22) rfl rfl (any_of HT_.out (by kernel_rfl)) (fun _ _ _ h => h) (Or.inr ⟨by rfl,rfl⟩) ?_ ?_;rotate_left
      ·
       simp only [Act.put,zi,zj,zk,zG,zH]
       rfl
      refine pure_ (i:=21) (N:=some 54) (v:=?_) (a':=?_) (bm_ 22 22) rfl rfl (any_of HT_.out (by kernel_rfl)) (fun _ _ _ h => h) (Or.inl ⟨by rfl,?_⟩) ?_ ?_;rotate_left
      ·
       intro w'
       go_simp
       with_reducible rfl
      rotate_left
      ·
       simp only [Act.put,zi,zj,zk,zG,zH]
       rfl
      refine done_ (done_of HT_.out (by kernel_rfl)) ?_
      try go_wp2
      go_meet
      case rel => exact ⟨_,(false),(by first|rfl|(simp;done)|(simp [*];done)),H',⟨by have:=HK1.out;first|omega|exact ye _⟩,⟨by (with_reducible repeat (first|apply zm|apply zn|apply zo));exact HO_6.out⟩,⟨by (with_reducible repeat (first|apply zm|apply zn|apply zo));exact HO_7.out⟩,⟨by (with_reducible repeat first|apply ze|apply zf|apply zg);exact BK135.out⟩,⟨by (with_reducible repeat first|apply ze|apply zf|apply zg);exact BK136.out⟩,⟨by repeat (with_reducible first|exact HB.out|apply za|apply zb|apply zc|refine zd ?_ GE135.out|refine zd ?_ GE136.out)⟩⟩
     case rest =>
      clear HC16
      try clear c1
      try clear p1
      try clear q1
      try clear hx1
      try clear qi1
      try clear c2
      try clear p2
      try clear p14
      try clear q14
      try clear hx14
      try clear qi14
      try clear c19 c19b0 c20 c22 c22b0 c22b1 c23 c23b0 c23b1
      try clear hx145_0
      try clear hx145_1
      try clear p145
      try clear q145
      obtain ⟨kq,x54_15,rfl,HA,HJ15,HO_6,HO_7,BK135,BK136,HB⟩:=hcut
      cases kq with
      | zero => exact absurd HA.out (by simp [F6.j1])
      | succ kj15 =>
       have H:=HA.out;clear HA;simp only [F6.j1] at H
       by_cases c27 : x54_15=true
       ·
        subst c27
        have H1 : (some (x6_1,x7_1))=some (r1,r2):=by rw [if_pos rfl] at H;exact H
        clear H;have H:=H1;clear H1;simp only [Option.some.injEq,Prod.mk.injEq] at H;obtain ⟨rfl,rfl⟩:=H
        go_wp2
        go_ret2
        exact ⟨_,_,by first|rfl|(simp [yt,yu] <;> rfl)|(simp [*,yt,yu] <;> rfl),by (with_reducible repeat (first|apply zm|apply zn|apply zo));exact HO_6.out,by (with_reducible repeat (first|apply zm|apply zn|apply zo));exact HO_7.out,by repeat (with_reducible first|exact HB.out|apply za|apply zb|apply zc|refine zd ?_ GE135.out|refine zd ?_ GE136.out)⟩
       replace c27:=yb.mpr c27;subst c27;have H1 : (if 0≤x9_1 then (if x9_1<(l0_0.length : Int) then (if x7_1.length<17592186044416 then (F6.l1 kj15 x6_1 (x7_1 ++ [(rd_T67 l0_0 x9_1).f0]) t143 x9_1 ((rd_T67 l0_0 x9_1).f1) 0 l0_0 a0_1 a1_0 a1_1 a1_2) else (none)) else (none)) else (none))=some (r1,r2):=by rw [if_neg (show ¬ (false=true) by decide)] at H;exact H
       clear H;have H:=H1;clear H1
       by_cases c28 : 0≤x9_1
       ·
        rw [if_pos c28] at H
        have c28b0 : decide (0≤x9_1)=true:=decide_eq_true c28;clear c28
        by_cases c29 : x9_1<(l0_0.length : Int)
        ·
         rw [if_pos c29] at H
         have c29b0 : decide (x9_1<(l0_0.length : Int))=true:=decide_eq_true c29;clear c29
         by_cases c30 : x7_1.length<17592186044416
         ·
          rw [if_pos c30] at H
          have LMc30:=zh c30;clear c30;obtain ⟨y147,hy147⟩ : ∃ y_ : List Int,y_=(x7_1 ++ [(rd_T67 l0_0 x9_1).f0]):=⟨_,rfl⟩;replace H : (F6.l1 kj15 x6_1 y147 t143 x9_1 ((rd_T67 l0_0 x9_1).f1) 0 l0_0 a0_1 a1_0 a1_1 a1_2)=some (r1,r2):=by first|(rw [hy147];with_reducible exact H)|(have H2_:=(Option.bind_some _ _).symm.trans H;rw [hy147];with_reducible exact H2_)|(have H2_:=(Option.bind_some _ _).symm.trans H;with_reducible exact H2_)|with_reducible exact H|(rw [hy147];exact H)|exact H
          have Ny147:=zh hy147;clear hy147;have H':=zh H;clear H;have hnb31:=NB135_136.out;have hnc31:=NB136_135.out;obtain ⟨hcz32_0,hcz32_1,hfz32_0,hfz32_1⟩:=cB2 BK135.out;have p146 : 0≤(x9_1 : Int):=zy (by first|(with_reducible assumption)|assumption);have q146 : x9_1<(l0_0.length : Int):=zy (by first|(with_reducible assumption)|assumption);obtain ⟨ad146,A146_1,c146_1,e146,hx146_0,hx146_1,hl146_1,hi146_1⟩:=at_T67 HR0_0.out x9_1 p146 q146;obtain rfl : ad144=ad146:=(by injection e146);replace hx146_0:=(HB.out.cell (zl w _ hx146_0)).trans hx146_0;replace hx146_1:=(HB.out.cell (zl w _ hx146_1)).trans hx146_1;have HR146_1:=zh hi146_1;have HC146_1:=zh hl146_1;clear hi146_1 hl146_1;replace p146:=eq_true p146;replace q146:=eq_true q146
          go_wp2_with (first|((with_reducible refine yA (b:=.append) (xs:=#[.tmp 55,.tmp 62]) rfl ?_);(try (refine yy (by rfl) ?_;dsimp only));at_builtin;refine Kd.R_append (Kd.int .i64) (w0:=w) w.heap.size rfl (.tmp 55) (.tmp 62) 30 3 (.int .i64 0) 8 rfl Try.underlying30 info3 rfl (by decide) (by omega) u7 x7_1 ((rd_T67 l0_0 x9_1).f0) [.int .i64 ((rd_T67 l0_0 x9_1).f0)] (fun _ => True) (fun _ => False) rfl rfl ?aP (fun _ hk => hk.elim) ?aF ?aO ?aB ?aS ?aL ?_;(case aP => exact rfl);(case aB => exact (by repeat (with_reducible first|exact HB.out|apply za|apply zb|apply zc|refine zd ?_ GE135.out|refine zd ?_ GE136.out)));(case aF => exact (fun _ _ => trivial));(case aO => exact (by (with_reducible repeat (first|apply zm|apply zn|apply zo));exact HO_7.out));(case aS => exact (zB (by repeat (with_reducible first|exact HB.out|apply za|apply zb|apply zc|refine zd ?_ GE135.out|refine zd ?_ GE136.out))));(case aL => have:=LMc30.out;omega);intro v148 w33 ho hb hg hat;rw [← Ny147.out] at ho;replace HO_6:=zh (Kd.R_over' (by (with_reducible repeat (first|apply zm|apply zn|apply zo));exact HO_6.out) (Kd.R_typed (by (with_reducible repeat (first|apply zm|apply zn|apply zo));exact HO_7.out)) (by decide) hg);replace BK135:=zh (yv (g:=gb135) (o:=.cells #[.slice (some ad144) l0_0.length c0_0,.int .i64 a0_1] 35 (0,0)) (by (with_reducible repeat first|apply ze|apply zf|apply zg);exact BK135.out) hg (Kd.R_ne HO_7.out BK135.out (by decide)));replace BK136:=zh (yv (g:=gb136) (o:=.cells #[.string a1_0,.string a1_1,.bool a1_2] 37 (0,0)) (by (with_reducible repeat first|apply ze|apply zf|apply zg);exact BK136.out) hg (Kd.R_ne HO_7.out BK136.out (by decide)));replace HB:=zh (hb);have HO149:=zh (ho);clear HO_7 ho hb hg hat))
          go_loopg [6,11] kj15 (fun kq v6 v11 w' => ∃ (x6_3 : List (S51)) (x11_3 : Int),v11 = .int .i64 x11_3∧Aside0 (F6.l1 kq x6_3 y147 t143 x9_1 ((rd_T67 l0_0 x9_1).f1) x11_3 l0_0 a0_1 a1_0 a1_1 a1_2=some (r1,r2))∧Aside0 (kq≤kj15)∧Aside0 (Kd.R k51 51 w' w.heap.size (fun _ => True) v6 x6_3)∧Aside0 (Kd.R (Kd.int .i64) 3 w' w.heap.size (fun _ => True) v148 y147)∧Aside0 (w'.heap[gb135]? = some (.cells #[(.slice (some ad144) l0_0.length c0_0),.int .i64 a0_1] 35 (0,0)))∧Aside0 (w'.heap[gb136]? = some (.cells #[.string a1_0,.string a1_1,.bool a1_2] 37 (0,0)))∧Aside0 (Below w.heap.size w w'))
          case atStart => exact ⟨(x6_1),(0),(by first|rfl|(simp;done)|(simp [*];done)),H',⟨ye _⟩,⟨by (with_reducible repeat (first|apply zm|apply zn|apply zo));exact HO_6.out⟩,⟨by (with_reducible repeat (first|apply zm|apply zn|apply zo));exact HO149.out⟩,⟨by (with_reducible repeat first|apply ze|apply zf|apply zg);exact BK135.out⟩,⟨by (with_reducible repeat first|apply ze|apply zf|apply zg);exact BK136.out⟩,⟨by repeat (with_reducible first|exact HB.out|apply za|apply zb|apply zc|refine zd ?_ GE135.out|refine zd ?_ GE136.out)⟩⟩
          case round =>
           clear H'
           try clear c1
           try clear p1
           try clear q1
           try clear hx1
           try clear qi1
           try clear c2
           try clear p2
           try clear c3 c14
           try clear p14
           try clear q14
           try clear hx14
           try clear qi14
           try clear c19 c19b0 c20 c22 c22b0 c22b1 c23 c23b0 c23b1 c27 c28 c28b0 c29 c29b0 c30 c31
           try clear hcz32_0 hcz32_1 hfz32_0 hfz32_1
           try clear hx145_0
           try clear hx145_1
           try clear hx146_0
           try clear hx146_1
           try clear p1
           try clear p14
           try clear p145
           try clear p146
           try clear p2
           try clear q1
           try clear q14
           try clear q145
           try clear q146
           obtain ⟨x6_3,x11_3,rfl,HA,HK3,HO_6,HO_7,BK135,BK136,HB⟩:=hrel
           cases gk with
           | zero => exact absurd HA.out (by simp [F6.l1])
           | succ k3 =>
            have H:=HA.out;clear HA;simp only [F6.l1] at H
            by_cases c34 : x11_3<(((rd_T67 l0_0 x9_1).f1).length : Int)
            ·
             rw [if_pos c34] at H
             have c34b0 : decide (x11_3<(((rd_T67 l0_0 x9_1).f1).length : Int))=true:=decide_eq_true c34;clear c34
             by_cases c35 : 0≤x11_3
             ·
              rw [if_pos c35] at H
              have c35b0 : decide (0≤x11_3)=true:=decide_eq_true c35;clear c35;replace H:=zT.mp H;obtain ⟨t151,A360,H⟩:=H;replace H : (if t151=true then (if x6_3.length<5864062014805 then (F6.l1 k3 (x6_3 ++ [(⟨(rd_T51 ((rd_T67 l0_0 x9_1).f1) x11_3).f0,(rd_T51 ((rd_T67 l0_0 x9_1).f1) x11_3).f1⟩ : S51)]) y147 t143 x9_1 ((rd_T67 l0_0 x9_1).f1) (wrap64 (x11_3 + 1)) l0_0 a0_1 a1_0 a1_1 a1_2) else (none)) else (F6.l1 k3 x6_3 y147 t143 x9_1 ((rd_T67 l0_0 x9_1).f1) (wrap64 (x11_3 + 1)) l0_0 a0_1 a1_0 a1_1 a1_2))=some (r1,r2):=H;have A36:=zh A360;clear A360
              by_cases c37 : t151=true
              ·
               subst c37
               have H1 : (if x6_3.length<5864062014805 then (F6.l1 k3 (x6_3 ++ [(⟨(rd_T51 ((rd_T67 l0_0 x9_1).f1) x11_3).f0,(rd_T51 ((rd_T67 l0_0 x9_1).f1) x11_3).f1⟩ : S51)]) y147 t143 x9_1 ((rd_T67 l0_0 x9_1).f1) (wrap64 (x11_3 + 1)) l0_0 a0_1 a1_0 a1_1 a1_2) else (none))=some (r1,r2):=by rw [if_pos rfl] at H;exact H
               clear H;have H:=H1;clear H1
               by_cases c38 : x6_3.length<5864062014805
               ·
                rw [if_pos c38] at H
                have LMc38:=zh c38;clear c38;obtain ⟨y153,hy153⟩ : ∃ y_ : List (S51),y_=(x6_3 ++ [(⟨(rd_T51 ((rd_T67 l0_0 x9_1).f1) x11_3).f0,(rd_T51 ((rd_T67 l0_0 x9_1).f1) x11_3).f1⟩ : S51)]):=⟨_,rfl⟩;replace H : (F6.l1 k3 y153 y147 t143 x9_1 ((rd_T67 l0_0 x9_1).f1) (wrap64 (x11_3 + 1)) l0_0 a0_1 a1_0 a1_1 a1_2)=some (r1,r2):=by first|(rw [hy153];with_reducible exact H)|(have H2_:=(Option.bind_some _ _).symm.trans H;rw [hy153];with_reducible exact H2_)|(have H2_:=(Option.bind_some _ _).symm.trans H;with_reducible exact H2_)|with_reducible exact H|(rw [hy153];exact H)|exact H
                have Ny153:=zh hy153;clear hy153;have H':=zh H;clear H
                try go_wp2
                replace HO_6:=zh (zo HO_6.out);replace HO_7:=zh (zo HO_7.out);replace BK135:=zh (zf BK135.out);replace BK136:=zh (zf BK136.out);replace HB:=zh (zc HB.out);have p150 : 0≤(x11_3 : Int):=zy (by first|(with_reducible assumption)|assumption);have q150 : x11_3<(((rd_T67 l0_0 x9_1).f1).length : Int):=zy (by first|(with_reducible assumption)|assumption);obtain ⟨ad150,e150,hx150_0,hx150_1⟩:=at_T51 HR144_1.out x11_3 p150 q150;have hw150_1:=hx150_1;have hw150_0:=hx150_0
                cases e150
                replace hx150_0:=(HB.out.cell (zl w _ hx150_0)).trans hx150_0;replace hx150_1:=(HB.out.cell (zl w _ hx150_1)).trans hx150_1;replace p150:=eq_true p150;replace q150:=eq_true q150;refine start_ (n:=7) (S:=fun w' => w'.cell? ⟨gb136,0,none⟩=some (.string a1_0)∧w'.cell? ⟨gb136,1,none⟩=some (.string a1_1)∧w'.cell? ⟨gb136,2,none⟩=some (.bool a1_2)∧w'.cell? (ad150.add ((x11_3).toNat * 2))=some (.string ((rd_T51 ((rd_T67 l0_0 x9_1).f1) x11_3).f0))∧w'.cell? ⟨(ad150.add ((x11_3).toNat * 2)).block,(ad150.add ((x11_3).toNat * 2)).off + 1,none⟩=some (.int .i64 ((rd_T51 ((rd_T67 l0_0 x9_1).f1) x11_3).f1))) (ds:=[]) (bm_ 0 7) (by kernel_rfl) rfl rfl ⟨(zz BK136.out 0).trans rfl,(zz BK136.out 1).trans rfl,(zz BK136.out 2).trans rfl,((HB.out.cell (zl w _ hw150_0)).trans hw150_0),((HB.out.cell (zl w _ hw150_1)).trans hw150_1)⟩ (fun hHeld => ?_);generalize wr.drew=w39 at HO_6 HO_7 BK135 BK136 HB hx150_0 hx150_1 hHeld ⊢;refine pure_ (i:=1) (N:=some 71) (v:=?_) (a':=?_) #[false,true,false,false,false,false,false] rfl rfl (by kernel_rfl) (fun _ _ _ h => h) (Or.inl ⟨by rfl,?_⟩) ?_ ?_;rotate_left
                ·
                 intro w'
                 go_simp
                 with_reducible rfl
                rotate_left
                ·
                 simp only [Act.put,zi,zj,zk,zG,zH]
                 rfl
                refine pure_ (i:=2) (N:=some 72) (v:=?_) (a':=?_) #[false,true,true,false,false,false,false] rfl rfl (by kernel_rfl) (fun _ _ _ h => h) (Or.inl ⟨by rfl,?_⟩) ?_ ?_;rotate_left
                ·
                 intro w'
                 go_simp
                 with_reducible rfl
                rotate_left
                ·
                 simp only [Act.put,zi,zj,zk,zG,zH]
                 rfl
                refine pure_ (i:=3) (N:=some 73) (v:=?_) (a':=?_) #[false,true,true,true,false,false,false] rfl rfl (by kernel_rfl) (fun _ _ _ h => h) (Or.inl ⟨by rfl,?_⟩) ?_ ?_;rotate_left
                ·
                 intro w'
                 go_simp
                 with_reducible rfl
                rotate_left
                ·
                 simp only [Act.put,zi,zj,zk,zG,zH]
                 rfl
                refine pure_ (i:=4) (N:=some 74) (v:=?_) (a':=?_) #[false,true,true,true,true,false,false] rfl rfl (by kernel_rfl) (fun _ _ _ h => h) (Or.inl ⟨by rfl,?_⟩) ?_ ?_;rotate_left
                ·
                 intro w'
                 go_simp
                 with_reducible rfl
                rotate_left
                ·
                 simp only [Act.put,zi,zj,zk,zG,zH]
                 rfl
                refine take_ (i:=0) (N:=some 70) (v:=?_) (a':=?_) (bm_ 5 7) rfl rfl (by kernel_rfl) (fun _ _ _ h => h) (Or.inl ⟨by rfl,?_⟩) hHeld ?_ ?_;rotate_left
                ·
                 rintro w' ⟨s0,s1,s2,s3,s4⟩
                 go_simp
                 with_reducible rfl
                rotate_left
                ·
                 simp only [Act.put,zi,zj,zk,zG,zH]
                 rfl
                refine take_ (i:=5) (N:=some 75) (v:=?_) (a':=?_) (bm_ 6 7) rfl rfl (by kernel_rfl) (fun _ _ _ h => h) (Or.inl ⟨by rfl,?_⟩) hHeld ?_ ?_;rotate_left
                ·
                 rintro w' ⟨s0,s1,s2,s3,s4⟩
                 go_simp
                 with_reducible rfl
                rotate_left
                ·
                 simp only [Act.put,zi,zj,zk,zG,zH]
                 rfl
                refine one_ (i:=6) (N:=some 76) (bm_ 7 7) rfl rfl (by kernel_rfl) (by decide) (fun K hK => ?_);refine goes_ Try.func54 (by kernel_rfl) rfl #[.agg #[.string a1_0,.string a1_1,.bool a1_2],.string ((rd_T51 ((rd_T67 l0_0 x9_1).f1) x11_3).f0)] (by rfl) rfl rfl (by (try simp only [zt,zu,zv]);first|done|rfl|(simp only [zw,zx];rfl)|(simp only [yr,ys,zV,zW];rfl)) ?_
                with_reducible refine (F0f.calls  a1_0 a1_1 a1_2 ((rd_T51 ((rd_T67 l0_0 x9_1).f1) x11_3).f0) true _ A36.out).mono ?_
                rintro e w40 ⟨rfl,hb⟩;refine ⟨_,rfl,?_⟩;replace HO_6:=zh (yg (by (with_reducible repeat (first|apply zm|apply zn|apply zo));exact HO_6.out) hb);replace HO_7:=zh (yg (by (with_reducible repeat (first|apply zm|apply zn|apply zo));exact HO_7.out) hb);replace BK135:=zh (cD BK135.out (by (with_reducible repeat first|apply ze|apply zf|apply zg);exact BK135.out) hb);replace BK136:=zh (cD BK136.out (by (with_reducible repeat first|apply ze|apply zf|apply zg);exact BK136.out) hb);replace HB:=zh (zC (by repeat (with_reducible first|exact HB.out|apply za|apply zb|apply zc|refine zd ?_ GE135.out|refine zd ?_ GE136.out)) hb);(try clear hb);(try clear hb2);(try clear hk);(try clear hi);refine hK.out _ _ ⟨(zz BK136.out 0).trans rfl,(zz BK136.out 1).trans rfl,(zz BK136.out 2).trans rfl,((HB.out.cell (zl w _ hw150_0)).trans hw150_0),((HB.out.cell (zl w _ hw150_1)).trans hw150_1)⟩ (fun hHeld => ?_);clear hK K;refine norm_ (a':=?_) ?_ ?_;rotate_left
                ·
                 show Act.put _ (some 76) _=_
                 simp only [Act.put,zi,zj,zk,zG,zH]
                 rfl
                refine done_ (by kernel_rfl) ?_;have p152 : 0≤(x11_3 : Int):=zy (by first|(with_reducible assumption)|assumption);have q152 : x11_3<(((rd_T67 l0_0 x9_1).f1).length : Int):=zy (by first|(with_reducible assumption)|assumption);obtain ⟨ad152,e152,hx152_0,hx152_1⟩:=at_T51 HR144_1.out x11_3 p152 q152;obtain rfl : ad150=ad152:=(by injection e152);replace hx152_0:=(HB.out.cell (zl w _ hx152_0)).trans hx152_0;replace hx152_1:=(HB.out.cell (zl w _ hx152_1)).trans hx152_1;replace p152:=eq_true p152;replace q152:=eq_true q152
                try go_wp2_with (first|((with_reducible refine yA (b:=.append) (xs:=#[.tmp 77,.tmp 82]) rfl ?_);(try (refine yy (by rfl) ?_;dsimp only));at_builtin;refine Kd.R_append k51 (w0:=w) w.heap.size rfl (.tmp 77) (.tmp 82) 29 51 (.agg #[(.string ⟨#[]⟩),(.int .i64 0)]) 24 rfl Try.underlying29 info51 rfl (by decide) (by omega) u6 x6_3 (⟨(rd_T51 ((rd_T67 l0_0 x9_1).f1) x11_3).f0,(rd_T51 ((rd_T67 l0_0 x9_1).f1) x11_3).f1⟩ : S51) [.string ((rd_T51 ((rd_T67 l0_0 x9_1).f1) x11_3).f0),.int .i64 ((rd_T51 ((rd_T67 l0_0 x9_1).f1) x11_3).f1)] (fun _ => True) (fun _ => False) rfl rfl ?aP (fun _ hk => hk.elim) ?aF ?aO ?aB ?aS ?aL ?_;(case aP => exact k51_mkM _ _ _ (⟨(rd_T51 ((rd_T67 l0_0 x9_1).f1) x11_3).f0,(rd_T51 ((rd_T67 l0_0 x9_1).f1) x11_3).f1⟩ : S51));(case aB => exact (by repeat (with_reducible first|exact HB.out|apply za|apply zb|apply zc|refine zd ?_ GE135.out|refine zd ?_ GE136.out)));(case aF => exact (fun _ _ => trivial));(case aO => exact (by (with_reducible repeat (first|apply zm|apply zn|apply zo));exact HO_6.out));(case aS => exact (zB (by repeat (with_reducible first|exact HB.out|apply za|apply zb|apply zc|refine zd ?_ GE135.out|refine zd ?_ GE136.out))));(case aL => have:=LMc38.out;omega);intro v154 w41 ho hb hg hat;rw [← Ny153.out] at ho;replace HO_7:=zh (Kd.R_over' (by (with_reducible repeat (first|apply zm|apply zn|apply zo));exact HO_7.out) (Kd.R_typed (by (with_reducible repeat (first|apply zm|apply zn|apply zo));exact HO_6.out)) (by decide) hg);replace BK135:=zh (yv (g:=gb135) (o:=.cells #[.slice (some ad144) l0_0.length c0_0,.int .i64 a0_1] 35 (0,0)) (by (with_reducible repeat first|apply ze|apply zf|apply zg);exact BK135.out) hg (Kd.R_ne HO_6.out BK135.out (by decide)));replace BK136:=zh (yv (g:=gb136) (o:=.cells #[.string a1_0,.string a1_1,.bool a1_2] 37 (0,0)) (by (with_reducible repeat first|apply ze|apply zf|apply zg);exact BK136.out) hg (Kd.R_ne HO_6.out BK136.out (by decide)));replace HB:=zh (hb);have HO155:=zh (ho);clear HO_6 ho hb hg hat))
                go_roundg k3
                case measure => have:=HK1.out;have:=HJ15.out;have:=HK3.out;omega
                case rel => exact ⟨(y153),(wrap64 (x11_3 + 1)),(by first|rfl|(simp;done)|(simp [*];done)),H',⟨by have:=HK1.out;have:=HJ15.out;have:=HK3.out;omega⟩,⟨by (with_reducible repeat (first|apply zm|apply zn|apply zo));exact HO155.out⟩,⟨by (with_reducible repeat (first|apply zm|apply zn|apply zo));exact HO_7.out⟩,⟨by (with_reducible repeat first|apply ze|apply zf|apply zg);exact BK135.out⟩,⟨by (with_reducible repeat first|apply ze|apply zf|apply zg);exact BK136.out⟩,⟨by repeat (with_reducible first|exact HB.out|apply za|apply zb|apply zc|refine zd ?_ GE135.out|refine zd ?_ GE136.out)⟩⟩
               rw [if_neg c38] at H;exact absurd H (by simp)
              replace c37:=yb.mpr c37;subst c37;have H1 : (F6.l1 k3 x6_3 y147 t143 x9_1 ((rd_T67 l0_0 x9_1).f1) (wrap64 (x11_3 + 1)) l0_0 a0_1 a1_0 a1_1 a1_2)=some (r1,r2):=by rw [if_neg (show ¬ (false=true) by decide)] at H;exact H
              clear H;have H:=H1;clear H1;have H':=zh H;clear H
              try go_wp2
              replace HO_6:=zh (zo HO_6.out);replace HO_7:=zh (zo HO_7.out);replace BK135:=zh (zf BK135.out);replace BK136:=zh (zf BK136.out);replace HB:=zh (zc HB.out);have p150 : 0≤(x11_3 : Int):=zy (by first|(with_reducible assumption)|assumption);have q150 : x11_3<(((rd_T67 l0_0 x9_1).f1).length : Int):=zy (by first|(with_reducible assumption)|assumption);obtain ⟨ad150,e150,hx150_0,hx150_1⟩:=at_T51 HR144_1.out x11_3 p150 q150;have hw150_1:=hx150_1;have hw150_0:=hx150_0
              cases e150
              replace hx150_0:=(HB.out.cell (zl w _ hx150_0)).trans hx150_0;replace hx150_1:=(HB.out.cell (zl w _ hx150_1)).trans hx150_1;replace p150:=eq_true p150;replace q150:=eq_true q150;refine start_ (n:=7) (S:=fun w' => w'.cell? ⟨gb136,0,none⟩=some (.string a1_0)∧w'.cell? ⟨gb136,1,none⟩=some (.string a1_1)∧w'.cell? ⟨gb136,2,none⟩=some (.bool a1_2)∧w'.cell? (ad150.add ((x11_3).toNat * 2))=some (.string ((rd_T51 ((rd_T67 l0_0 x9_1).f1) x11_3).f0))∧w'.cell? ⟨(ad150.add ((x11_3).toNat * 2)).block,(ad150.add ((x11_3).toNat * 2)).off + 1,none⟩=some (.int .i64 ((rd_T51 ((rd_T67 l0_0 x9_1).f1) x11_3).f1))) (ds:=[]) (bm_ 0 7) (by kernel_rfl) rfl rfl ⟨(zz BK136.out 0).trans rfl,(zz BK136.out 1).trans rfl,(zz BK136.out 2).trans rfl,((HB.out.cell (zl w _ hw150_0)).trans hw150_0),((HB.out.cell (zl w _ hw150_1)).trans hw150_1)⟩ (fun hHeld => ?_);generalize wr.drew=w42 at HO_6 HO_7 BK135 BK136 HB hx150_0 hx150_1 hHeld ⊢;refine pure_ (i:=1) (N:=some 71) (v:=?_) (a':=?_) #[false,true,false,false,false,false,false] rfl rfl (by kernel_rfl) (fun _ _ _ h => h) (Or.inl ⟨by rfl,?_⟩) ?_ ?_;rotate_left
              ·
               intro w'
               go_simp
               with_reducible rfl
              rotate_left
              ·
               simp only [Act.put,zi,zj,zk,zG,zH]
               rfl
              refine pure_ (i:=2) (N:=some 72) (v:=?_) (a':=?_) #[false,true,true,false,false,false,false] rfl rfl (by kernel_rfl) (fun _ _ _ h => h) (Or.inl ⟨by rfl,?_⟩) ?_ ?_;rotate_left
              ·
               intro w'
               go_simp
               with_reducible rfl
              rotate_left
              ·
               simp only [Act.put,zi,zj,zk,zG,zH]
               rfl
              refine pure_ (i:=3) (N:=some 73) (v:=?_) (a':=?_) #[false,true,true,true,false,false,false] rfl rfl (by kernel_rfl) (fun _ _ _ h => h) (Or.inl ⟨by rfl,?_⟩) ?_ ?_;rotate_left
              ·
               intro w'
               go_simp
               with_reducible rfl
              rotate_left
              ·
               simp only [Act.put,zi,zj,zk,zG,zH]
               rfl
              refine pure_ (i:=4) (N:=some 74) (v:=?_) (a':=?_) #[false,true,true,true,true,false,false] rfl rfl (by kernel_rfl) (fun _ _ _ h => h) (Or.inl ⟨by rfl,?_⟩) ?_ ?_;rotate_left
              ·
               intro w'
               go_simp
               with_reducible rfl
              rotate_left
              ·
               simp only [Act.put,zi,zj,zk,zG,zH]
               rfl
              refine take_ (i:=0) (N:=some 70) (v:=?_) (a':=?_) (bm_ 5 7) rfl rfl (by kernel_rfl) (fun _ _ _ h => h) (Or.inl ⟨by rfl,?_⟩) hHeld ?_ ?_;rotate_left
              ·
               rintro w' ⟨s0,s1,s2,s3,s4⟩
               go_simp
               with_reducible rfl
              rotate_left
              ·
               simp only [Act.put,zi,zj,zk,zG,zH]
               rfl
              refine take_ (i:=5) (N:=some 75) (v:=?_) (a':=?_) (bm_ 6 7) rfl rfl (by kernel_rfl) (fun _ _ _ h => h) (Or.inl ⟨by rfl,?_⟩) hHeld ?_ ?_;rotate_left
              ·
               rintro w' ⟨s0,s1,s2,s3,s4⟩
               go_simp
               with_reducible rfl
              rotate_left
              ·
               simp only [Act.put,zi,zj,zk,zG,zH]
               rfl
              refine one_ (i:=6) (N:=some 76) (bm_ 7 7) rfl rfl (by kernel_rfl) (by decide) (fun K hK => ?_);refine goes_ Try.func54 (by kernel_rfl) rfl #[.agg #[.string a1_0,.string a1_1,.bool a1_2],.string ((rd_T51 ((rd_T67 l0_0 x9_1).f1) x11_3).f0)] (by rfl) rfl rfl (by (try simp only [zt,zu,zv]);first|done|rfl|(simp only [zw,zx];rfl)|(simp only [yr,ys,zV,zW];rfl)) ?_
              with_reducible refine (F0f.calls  a1_0 a1_1 a1_2 ((rd_T51 ((rd_T67 l0_0 x9_1).f1) x11_3).f0) false _ A36.out).mono ?_
              rintro e w43 ⟨rfl,hb⟩;refine ⟨_,rfl,?_⟩;replace HO_6:=zh (yg (by (with_reducible repeat (first|apply zm|apply zn|apply zo));exact HO_6.out) hb);replace HO_7:=zh (yg (by (with_reducible repeat (first|apply zm|apply zn|apply zo));exact HO_7.out) hb);replace BK135:=zh (cD BK135.out (by (with_reducible repeat first|apply ze|apply zf|apply zg);exact BK135.out) hb);replace BK136:=zh (cD BK136.out (by (with_reducible repeat first|apply ze|apply zf|apply zg);exact BK136.out) hb);replace HB:=zh (zC (by repeat (with_reducible first|exact HB.out|apply za|apply zb|apply zc|refine zd ?_ GE135.out|refine zd ?_ GE136.out)) hb);(try clear hb);(try clear hb2);(try clear hk);(try clear hi);refine hK.out _ _ ⟨(zz BK136.out 0).trans rfl,(zz BK136.out 1).trans rfl,(zz BK136.out 2).trans rfl,((HB.out.cell (zl w _ hw150_0)).trans hw150_0),((HB.out.cell (zl w _ hw150_1)).trans hw150_1)⟩ (fun hHeld => ?_);clear hK K;refine norm_ (a':=?_) ?_ ?_;rotate_left
              ·
               show Act.put _ (some 76) _=_
               simp only [Act.put,zi,zj,zk,zG,zH]
               rfl
              refine done_ (by kernel_rfl) ?_
              try go_wp2
              go_roundg k3
              case measure => have:=HK1.out;have:=HJ15.out;have:=HK3.out;omega
              case rel => exact ⟨(x6_3),(wrap64 (x11_3 + 1)),(by first|rfl|(simp;done)|(simp [*];done)),H',⟨by have:=HK1.out;have:=HJ15.out;have:=HK3.out;omega⟩,⟨by (with_reducible repeat (first|apply zm|apply zn|apply zo));exact HO_6.out⟩,⟨by (with_reducible repeat (first|apply zm|apply zn|apply zo));exact HO_7.out⟩,⟨by (with_reducible repeat first|apply ze|apply zf|apply zg);exact BK135.out⟩,⟨by (with_reducible repeat first|apply ze|apply zf|apply zg);exact BK136.out⟩,⟨by repeat (with_reducible first|exact HB.out|apply za|apply zb|apply zc|refine zd ?_ GE135.out|refine zd ?_ GE136.out)⟩⟩
             rw [if_neg c35] at H;exact absurd H (by simp)
            rw [if_neg c34] at H;have c34b0 : decide (x11_3<(((rd_T67 l0_0 x9_1).f1).length : Int))=false:=decide_eq_false c34;clear c34;have H':=zh H;clear H
            go_wp2
            go_roundg k3
            case measure => have:=HK1.out;have:=HJ15.out;have:=HK3.out;omega
            case rel => exact ⟨(x6_3),(y147),(wrap64 (x9_1 + 1)),(by first|rfl|(simp;done)|(simp [*];done)),H',⟨by have:=HK1.out;have:=HJ15.out;have:=HK3.out;omega⟩,⟨by (with_reducible repeat (first|apply zm|apply zn|apply zo));exact HO_6.out⟩,⟨by (with_reducible repeat (first|apply zm|apply zn|apply zo));exact HO_7.out⟩,⟨by (with_reducible repeat first|apply ze|apply zf|apply zg);exact BK135.out⟩,⟨by (with_reducible repeat first|apply ze|apply zf|apply zg);exact BK136.out⟩,⟨by repeat (with_reducible first|exact HB.out|apply za|apply zb|apply zc|refine zd ?_ GE135.out|refine zd ?_ GE136.out)⟩⟩
         rw [if_neg c30] at H;exact absurd H (by simp)
        rw [if_neg c29] at H;exact absurd H (by simp)
       rw [if_neg c28] at H;exact absurd H (by simp)
    rw [if_neg c15] at H;exact absurd H (by simp)
   rw [if_neg c14] at H;have c14b0 : decide (x9_1<(l0_0.length : Int))=false:=decide_eq_false c14;clear c14;simp only [Option.some.injEq,Prod.mk.injEq] at H;obtain ⟨rfl,rfl⟩:=H;have hnb44:=NB135_136.out;have hnc44:=NB136_135.out;obtain ⟨hcz45_0,hcz45_1,hfz45_0,hfz45_1⟩:=cB2 BK135.out
   go_wp2
   go_ret2
   exact ⟨_,_,by first|rfl|(simp [yt,yu] <;> rfl)|(simp [*,yt,yu] <;> rfl),by (with_reducible repeat (first|apply zm|apply zn|apply zo));exact HO_6.out,by (with_reducible repeat (first|apply zm|apply zn|apply zo));exact HO_7.out,by repeat (with_reducible first|exact HB.out|apply za|apply zb|apply zc|refine zd ?_ GE135.out|refine zd ?_ GE136.out)⟩

end Go.Proofs.Ytamikhmpfmgofaa.Q
end
section
namespace Go.Proofs.Ytamikhmpfmgofaa.Q
open Go.RowKit Go.Proofs.YtamikhmpfmgofaaW.PrintWords Go.Proofs.YtamikhmpfmgofaaW.PrintLast Go.Proofs.YtamikhmpfmgofaaW.PrintMore
attribute [local go_sem] max2_int min2_int max_two min_two max_three min_three max_four min_four max2_str min2_str str_geq str_gtr str_leq
set_option linter.unusedVariables false
set_option linter.unusedSimpArgs false

def F05.f (k : Nat) (l0_0 : List (S67)) (a0_1 : Int) (a1_0 : ByteArray) (a1_1 : ByteArray) (a1_2 : Bool) : Option ((List (S51))×List Int×Int):=(F3.f k l0_0 a0_1).bind fun t158 => (if t158=true then ((F6.f k l0_0 a0_1 a1_0 a1_1 a1_2).bind fun bt159 => (some (bt159.1,bt159.2,0))) else (some ((([] : List (S51))),(([] : List Int)),1)))
theorem F05.mono : ∀ a0 a1 a2 a3 a4 k,LeO (F05.f k a0 a1 a2 a3 a4) (F05.f (k + 1) a0 a1 a2 a3 a4):=by
 intro a0 a1 a2 a3 a4 k;unfold F05.f
 repeat' first|(with_reducible first|exact F3.mono _ _ _|exact F6.mono _ _ _ _ _ _|exact zQ _|exact zN _|refine zP ?_ ?_|refine zO ?_ (fun _ => ?_))|refine zP ?_ ?_|refine zO ?_ (fun _ => ?_)
set_option maxHeartbeats 8000000 in
set_option maxRecDepth 100000 in
theorem F05.calls (k : Nat) (A0_0 : Option Addr) (c0_0 : Nat) (l0_0 : List (S67)) (a0_1 : Int) (a1_0 : ByteArray) (a1_1 : ByteArray) (a1_2 : Bool) (r1 : List (S51)) (r2 : List Int) (r3 : Int) (w : World) (hr0_0 : Kd.C k67 w A0_0 l0_0.length l0_0) (hc0_0 : l0_0.length≤c0_0) (h : F05.f k l0_0 a0_1 a1_0 a1_1 a1_2=some (r1,r2,r3)) :
  Calls Try.prog 8 #[.agg #[.slice A0_0 l0_0.length c0_0,.int .i64 a0_1],.agg #[.string a1_0,.string a1_1,.bool a1_2]] w fun e w' => ∃ v0_ v1_ : Value,e = .returned (.tuple #[v0_,v1_,.int .i64 r3])∧Kd.R k51 51 w' w.heap.size (fun _ => True) v0_ r1∧Kd.R (Kd.int .i64) 3 w' w.heap.size (fun _ => True) v1_ r2∧Below w.heap.size w w':=by
 have hu35:=Try.underlying35;have hu37:=Try.underlying37;have HR0_0:=zh hr0_0;have HC0_0:=zh hc0_0;clear hr0_0 hc0_0;have HB:=zh (Below.refl w.heap.size w);have H : ((F3.f k l0_0 a0_1).bind fun t158 => (if t158=true then ((F6.f k l0_0 a0_1 a1_0 a1_1 a1_2).bind fun bt159 => (some (bt159.1,bt159.2,0))) else (some ((([] : List (S51))),(([] : List Int)),1))))=some (r1,r2,r3):=h;clear h;replace H:=zT.mp H;obtain ⟨t158,A30,H⟩:=H;replace H : (if t158=true then ((F6.f k l0_0 a0_1 a1_0 a1_1 a1_2).bind fun bt159 => (some (bt159.1,bt159.2,0))) else (some ((([] : List (S51))),(([] : List Int)),1)))=some (r1,r2,r3):=H;have A3:=zh A30;clear A30
 by_cases c4 : t158=true
 ·
  subst c4
  have H1 : ((F6.f k l0_0 a0_1 a1_0 a1_1 a1_2).bind fun bt159 => (some (bt159.1,bt159.2,0)))=some (r1,r2,r3):=by rw [if_pos rfl] at H;exact H
  clear H;have H:=H1;clear H1;replace H:=zT.mp H;obtain ⟨⟨t159,t162⟩,A50,H⟩:=H;replace H : (some (t159,t162,0))=some (r1,r2,r3):=H;have A5:=zh A50;clear A50;simp only [Option.some.injEq,Prod.mk.injEq] at H;obtain ⟨rfl,rfl,rfl⟩:=H
  go_enter Try.func8,Try.ntmps8
  go_wp2_with (first|((with_reducible refine zK (N:=2) rfl ?_);refine zI ?hg (N:=2) ?hd (cs:=#[.slice A0_0 l0_0.length c0_0,.int .i64 a0_1]) (t:=35) ?hr ?_;(case hd|hg => rfl);(case hr => go_simp <;> rfl);intro gb156 hg w6 hbox hb;have BK156:=zh (hbox);have hH_:=cH (by repeat (with_reducible first|exact HB.out|apply za|apply zb|apply zc)) hb hg;have GW156:=zh hH_.1;have GE156:=GW156;replace HB:=zh hH_.2;clear hb hbox hg hH_)|((with_reducible refine zK (N:=3) rfl ?_);refine zI ?hg (N:=3) ?hd (cs:=#[.string a1_0,.string a1_1,.bool a1_2]) (t:=37) ?hr ?_;(case hd|hg => rfl);(case hr => go_simp <;> rfl);intro gb157 hg w7 hbox hb;have BK157:=zh (hbox);have hH_:=cH (by repeat (with_reducible first|exact HB.out|apply za|apply zb|apply zc|refine zd ?_ GE156.out)) hb hg;have GW157:=zh hH_.1;have GE157:=GW157;replace HB:=zh hH_.2;have NB156_157:=zh ((by rw [hg];exact yc (yi (g:=gb156) (o:=.cells #[.slice A0_0 l0_0.length c0_0,.int .i64 a0_1] 35 (0,0)) (by (with_reducible repeat first|apply ze|apply zf|apply zg);exact BK156.out)) : gb156≠gb157));have NB157_156:=zh NB156_157.out.symm;replace BK156:=zh (cD BK156.out (by (with_reducible repeat first|apply ze|apply zf|apply zg);exact BK156.out) hb);clear hb hbox hg hH_;have hnb8:=NB156_157.out;have hnc8:=NB157_156.out;obtain ⟨hcz9_0,hcz9_1,hfz9_0,hfz9_1⟩:=cB2 BK156.out)|((with_reducible refine zJ (f:=28) rfl ?_);refine yj (some 10) rfl rfl Try.func28 (by kernel_rfl) rfl #[.agg #[.slice A0_0 l0_0.length c0_0,.int .i64 a0_1]] rfl (by (try simp only [zt,zu,zv]);first|done|rfl|(simp only [zw,zx];rfl)|(simp only [yr,ys,zV,zW];rfl)) ?_;(with_reducible refine (F3.calls k  _ _ l0_0 a0_1 true _ ?side1 ?side2 A3.out).mono ?_);(case side1 => repeat (first|exact (Kd.C_below HR0_0.out HB.out)|(with_reducible refine Kd.C_alloc ?_ _)|(with_reducible refine Kd.C_drewN ?_ _)|(with_reducible refine Kd.C_drew ?_)));(case side2 => exact HC0_0.out);rintro e w10 ⟨rfl,hb⟩;refine ⟨_,rfl,?_⟩;replace BK156:=zh (cD BK156.out (by (with_reducible repeat first|apply ze|apply zf|apply zg);exact BK156.out) hb);replace BK157:=zh (cD BK157.out (by (with_reducible repeat first|apply ze|apply zf|apply zg);exact BK157.out) hb);replace HB:=zh (zC (by repeat (with_reducible first|exact HB.out|apply za|apply zb|apply zc|refine zd ?_ GE156.out|refine zd ?_ GE157.out)) hb);(try clear hb);(try clear hb2);(try clear hk);(try clear hi);obtain ⟨hcz11_0,hcz11_1,hfz11_0,hfz11_1⟩:=cB2 BK156.out;obtain ⟨hcz12_0,hcz12_1,hcz12_2,hfz12_0,hfz12_1,hfz12_2⟩:=cB3 BK157.out)|((with_reducible refine zJ (f:=29) rfl ?_);refine yj (some 17) rfl rfl Try.func29 (by kernel_rfl) rfl #[.agg #[.slice A0_0 l0_0.length c0_0,.int .i64 a0_1],.agg #[.string a1_0,.string a1_1,.bool a1_2]] rfl (by (try simp only [zt,zu,zv]);first|done|rfl|(simp only [zw,zx];rfl)|(simp only [yr,ys,zV,zW];rfl)) ?_;(with_reducible refine (F6.calls k  _ _ l0_0 a0_1 a1_0 a1_1 a1_2 t159 t162 _ ?side1 ?side2 A5.out).mono ?_);(case side1 => repeat (first|exact (Kd.C_below HR0_0.out HB.out)|(with_reducible refine Kd.C_alloc ?_ _)|(with_reducible refine Kd.C_drewN ?_ _)|(with_reducible refine Kd.C_drew ?_)));(case side2 => exact HC0_0.out);rintro e w13 ⟨v160,v163,rfl,ho0,ho1,hb⟩;refine ⟨_,rfl,?_⟩;have HO161:=zh (yx ho0 (zB (by repeat (with_reducible first|exact HB.out|apply za|apply zb|apply zc|refine zd ?_ GE156.out|refine zd ?_ GE157.out))));have HO164:=zh (yx ho1 (zB (by repeat (with_reducible first|exact HB.out|apply za|apply zb|apply zc|refine zd ?_ GE156.out|refine zd ?_ GE157.out))));replace BK156:=zh (cD BK156.out (by (with_reducible repeat first|apply ze|apply zf|apply zg);exact BK156.out) hb);replace BK157:=zh (cD BK157.out (by (with_reducible repeat first|apply ze|apply zf|apply zg);exact BK157.out) hb);replace HB:=zh (zC (by repeat (with_reducible first|exact HB.out|apply za|apply zb|apply zc|refine zd ?_ GE156.out|refine zd ?_ GE157.out)) hb);(try clear hb);(try clear hb2);(try clear hk);(try clear hi);(try clear ho0);(try clear ho1)))
  go_ret3
  exact ⟨_,_,by first|rfl|(simp [yt,yu] <;> rfl)|(simp [*,yt,yu] <;> rfl),by (with_reducible repeat (first|apply zm|apply zn|apply zo));exact HO161.out,by (with_reducible repeat (first|apply zm|apply zn|apply zo));exact HO164.out,by repeat (with_reducible first|exact HB.out|apply za|apply zb|apply zc|refine zd ?_ GE156.out|refine zd ?_ GE157.out)⟩
 replace c4:=yb.mpr c4;subst c4;have H1 : (some ((([] : List (S51))),(([] : List Int)),1))=some (r1,r2,r3):=by rw [if_neg (show ¬ (false=true) by decide)] at H;exact H
 clear H;have H:=H1;clear H1;obtain ⟨y165,hy165⟩ : ∃ y_ : List (S51),y_=(([] : List (S51))):=⟨_,rfl⟩;replace H : (some (y165,(([] : List Int)),1))=some (r1,r2,r3):=by first|(rw [hy165];with_reducible exact H)|(have H2_:=(Option.bind_some _ _).symm.trans H;rw [hy165];with_reducible exact H2_)|(have H2_:=(Option.bind_some _ _).symm.trans H;with_reducible exact H2_)|with_reducible exact H|(rw [hy165];exact H)|exact H
 have Ny165:=zh hy165;clear hy165;obtain ⟨y168,hy168⟩ : ∃ y_ : List Int,y_=(([] : List Int)):=⟨_,rfl⟩;replace H : (some (y165,y168,1))=some (r1,r2,r3):=by first|(rw [hy168];with_reducible exact H)|(have H2_:=(Option.bind_some _ _).symm.trans H;rw [hy168];with_reducible exact H2_)|(have H2_:=(Option.bind_some _ _).symm.trans H;with_reducible exact H2_)|with_reducible exact H|(rw [hy168];exact H)|exact H
 have Ny168:=zh hy168;clear hy168;simp only [Option.some.injEq,Prod.mk.injEq] at H;obtain ⟨rfl,rfl,rfl⟩:=H
 go_enter Try.func8,Try.ntmps8
 go_wp2_with (first|((with_reducible refine zK (N:=2) rfl ?_);refine zI ?hg (N:=2) ?hd (cs:=#[.slice A0_0 l0_0.length c0_0,.int .i64 a0_1]) (t:=35) ?hr ?_;(case hd|hg => rfl);(case hr => go_simp <;> rfl);intro gb156 hg w14 hbox hb;have BK156:=zh (hbox);have hH_:=cH (by repeat (with_reducible first|exact HB.out|apply za|apply zb|apply zc)) hb hg;have GW156:=zh hH_.1;have GE156:=GW156;replace HB:=zh hH_.2;clear hb hbox hg hH_)|((with_reducible refine zK (N:=3) rfl ?_);refine zI ?hg (N:=3) ?hd (cs:=#[.string a1_0,.string a1_1,.bool a1_2]) (t:=37) ?hr ?_;(case hd|hg => rfl);(case hr => go_simp <;> rfl);intro gb157 hg w15 hbox hb;have BK157:=zh (hbox);have hH_:=cH (by repeat (with_reducible first|exact HB.out|apply za|apply zb|apply zc|refine zd ?_ GE156.out)) hb hg;have GW157:=zh hH_.1;have GE157:=GW157;replace HB:=zh hH_.2;have NB156_157:=zh ((by rw [hg];exact yc (yi (g:=gb156) (o:=.cells #[.slice A0_0 l0_0.length c0_0,.int .i64 a0_1] 35 (0,0)) (by (with_reducible repeat first|apply ze|apply zf|apply zg);exact BK156.out)) : gb156≠gb157));have NB157_156:=zh NB156_157.out.symm;replace BK156:=zh (cD BK156.out (by (with_reducible repeat first|apply ze|apply zf|apply zg);exact BK156.out) hb);clear hb hbox hg hH_;have hnb16:=NB156_157.out;have hnc16:=NB157_156.out;obtain ⟨hcz17_0,hcz17_1,hfz17_0,hfz17_1⟩:=cB2 BK156.out)|((with_reducible refine zJ (f:=28) rfl ?_);refine yj (some 10) rfl rfl Try.func28 (by kernel_rfl) rfl #[.agg #[.slice A0_0 l0_0.length c0_0,.int .i64 a0_1]] rfl (by (try simp only [zt,zu,zv]);first|done|rfl|(simp only [zw,zx];rfl)|(simp only [yr,ys,zV,zW];rfl)) ?_;(with_reducible refine (F3.calls k  _ _ l0_0 a0_1 false _ ?side1 ?side2 A3.out).mono ?_);(case side1 => repeat (first|exact (Kd.C_below HR0_0.out HB.out)|(with_reducible refine Kd.C_alloc ?_ _)|(with_reducible refine Kd.C_drewN ?_ _)|(with_reducible refine Kd.C_drew ?_)));(case side2 => exact HC0_0.out);rintro e w18 ⟨rfl,hb⟩;refine ⟨_,rfl,?_⟩;replace BK156:=zh (cD BK156.out (by (with_reducible repeat first|apply ze|apply zf|apply zg);exact BK156.out) hb);replace BK157:=zh (cD BK157.out (by (with_reducible repeat first|apply ze|apply zf|apply zg);exact BK157.out) hb);replace HB:=zh (zC (by repeat (with_reducible first|exact HB.out|apply za|apply zb|apply zc|refine zd ?_ GE156.out|refine zd ?_ GE157.out)) hb);(try clear hb);(try clear hb2);(try clear hk);(try clear hi))|((with_reducible refine zK (N:=12) rfl ?_);refine Kd.R_lit k51 _ 51 ?hg (N:=12) ?hd (xs:=([] : List (S51))) (inner:=[]) (ok:=fun _ => True) (okp:=fun _ => True) ?hr ?hp (fun _ hk => hk) trivial (Below.refl _ _) (ye _) (by simp) ?_;(case hd|hg => rfl);(case hr => go_simp <;> rfl);(case hp => exact (Reps.none _ _));intro v166 w19 ho20 hb hg_ hnew_;clear hg_ hnew_;(first|rw [← Ny165.out] at ho20|(simp only [Int.reduceToNat] at ho20;rw [← Ny165.out] at ho20));have HO167:=zh (yx ho20 (zB (by repeat (with_reducible first|exact HB.out|apply za|apply zb|apply zc|refine zd ?_ GE156.out|refine zd ?_ GE157.out))));replace BK156:=zh (cD BK156.out (by (with_reducible repeat first|apply ze|apply zf|apply zg);exact BK156.out) hb);replace BK157:=zh (cD BK157.out (by (with_reducible repeat first|apply ze|apply zf|apply zg);exact BK157.out) hb);replace HB:=zh (zC (by repeat (with_reducible first|exact HB.out|apply za|apply zb|apply zc|refine zd ?_ GE156.out|refine zd ?_ GE157.out)) hb);clear hb ho20)|((with_reducible refine zK (N:=13) rfl ?_);refine Kd.R_lit (Kd.int .i64) _ 3 ?hg (N:=13) ?hd (xs:=([] : List Int)) (inner:=[]) (ok:=fun _ => True) (okp:=fun _ => True) ?hr ?hp (fun _ hk => hk) trivial (Below.refl _ _) (ye _) (by simp) ?_;(case hd|hg => rfl);(case hr => go_simp <;> rfl);(case hp => exact (Reps.none _ _));intro v169 w21 ho22 hb hg_ hnew_;clear hg_ hnew_;(first|rw [← Ny168.out] at ho22|(simp only [Int.reduceToNat] at ho22;rw [← Ny168.out] at ho22));replace HO167:=zh (yg (by (with_reducible repeat (first|apply zm|apply zn|apply zo));exact HO167.out) hb);have HO170:=zh (yx ho22 (zB (by repeat (with_reducible first|exact HB.out|apply za|apply zb|apply zc|refine zd ?_ GE156.out|refine zd ?_ GE157.out))));replace BK156:=zh (cD BK156.out (by (with_reducible repeat first|apply ze|apply zf|apply zg);exact BK156.out) hb);replace BK157:=zh (cD BK157.out (by (with_reducible repeat first|apply ze|apply zf|apply zg);exact BK157.out) hb);replace HB:=zh (zC (by repeat (with_reducible first|exact HB.out|apply za|apply zb|apply zc|refine zd ?_ GE156.out|refine zd ?_ GE157.out)) hb);clear hb ho22))
 go_ret3
 exact ⟨_,_,by first|rfl|(simp [yt,yu] <;> rfl)|(simp [*,yt,yu] <;> rfl),by (with_reducible repeat (first|apply zm|apply zn|apply zo));exact HO167.out,by (with_reducible repeat (first|apply zm|apply zn|apply zo));exact HO170.out,by repeat (with_reducible first|exact HB.out|apply za|apply zb|apply zc|refine zd ?_ GE156.out|refine zd ?_ GE157.out)⟩


def Fn.f (a0_0 : ByteArray) (a0_1 : Int) : Option (ByteArray×Int):=some (a0_0,a0_1)
set_option maxHeartbeats 8000000 in
set_option maxRecDepth 100000 in
theorem Fn.calls (a0_0 : ByteArray) (a0_1 : Int) (r1 : ByteArray) (r2 : Int) (w : World) (h : Fn.f a0_0 a0_1=some (r1,r2)) :
  Calls Try.prog 22 #[.agg #[.string a0_0,.int .i64 a0_1]] w fun e w' => e = .returned (.agg #[.string r1,.int .i64 r2])∧Below w.heap.size w w':=by
 have hu47:=Try.underlying47;have hu51:=Try.underlying51;have HB:=zh (Below.refl w.heap.size w);have H : (some (a0_0,a0_1))=some (r1,r2):=h;clear h;simp only [Option.some.injEq,Prod.mk.injEq] at H;obtain ⟨rfl,rfl⟩:=H
 go_enter Try.func22,Try.ntmps22
 go_wp2_with (first|((with_reducible refine zK (N:=1) rfl ?_);refine zI ?hg (N:=1) ?hd (cs:=#[.string a0_0,.int .i64 a0_1]) (t:=47) ?hr ?_;(case hd|hg => rfl);(case hr => go_simp <;> rfl);intro gb171 hg w2 hbox hb;have BK171:=zh (hbox);have hH_:=cH (by repeat (with_reducible first|exact HB.out|apply za|apply zb|apply zc)) hb hg;have GW171:=zh hH_.1;have GE171:=GW171;replace HB:=zh hH_.2;clear hb hbox hg hH_)|((with_reducible refine zK (N:=2) rfl ?_);refine zI ?hg (N:=2) ?hd (cs:=#[.string (⟨#[]⟩ : ByteArray),.int .i64 0]) (t:=51) ?hr ?_;(case hd|hg => rfl);(case hr => go_simp <;> rfl);intro gb172 hg w3 hbox hb;have BK172:=zh (hbox);have hH_:=cH (by repeat (with_reducible first|exact HB.out|apply za|apply zb|apply zc|refine zd ?_ GE171.out)) hb hg;have GW172:=zh hH_.1;have GE172:=GW172;replace HB:=zh hH_.2;have NB171_172:=zh ((by rw [hg];exact yc (yi (g:=gb171) (o:=.cells #[.string a0_0,.int .i64 a0_1] 47 (0,0)) (by (with_reducible repeat first|apply ze|apply zf|apply zg);exact BK171.out)) : gb171≠gb172));have NB172_171:=zh NB171_172.out.symm;replace BK171:=zh (cD BK171.out (by (with_reducible repeat first|apply ze|apply zf|apply zg);exact BK171.out) hb);clear hb hbox hg hH_)|((with_reducible refine zK (N:=3) rfl ?_);refine zI ?hg (N:=3) ?hd (cs:=#[.string (⟨#[]⟩ : ByteArray),.int .i64 0]) (t:=51) ?hr ?_;(case hd|hg => rfl);(case hr => go_simp <;> rfl);intro gb173 hg w4 hbox hb;have BK173:=zh (hbox);have hH_:=cH (by repeat (with_reducible first|exact HB.out|apply za|apply zb|apply zc|refine zd ?_ GE171.out|refine zd ?_ GE172.out)) hb hg;have GW173:=zh hH_.1;have GE173:=GW173;replace HB:=zh hH_.2;have NB171_173:=zh ((by rw [hg];exact yc (yi (g:=gb171) (o:=.cells #[.string a0_0,.int .i64 a0_1] 47 (0,0)) (by (with_reducible repeat first|apply ze|apply zf|apply zg);exact BK171.out)) : gb171≠gb173));have NB173_171:=zh NB171_173.out.symm;replace BK171:=zh (cD BK171.out (by (with_reducible repeat first|apply ze|apply zf|apply zg);exact BK171.out) hb);have NB172_173:=zh ((by rw [hg];exact yc (yi (g:=gb172) (o:=.cells #[.string (⟨#[]⟩ : ByteArray),.int .i64 0] 51 (0,0)) (by (with_reducible repeat first|apply ze|apply zf|apply zg);exact BK172.out)) : gb172≠gb173));have NB173_172:=zh NB172_173.out.symm;replace BK172:=zh (cD BK172.out (by (with_reducible repeat first|apply ze|apply zf|apply zg);exact BK172.out) hb);clear hb hbox hg hH_;have hnb5:=NB171_172.out;have hnc5:=NB172_171.out;have hnb6:=NB171_173.out;have hnc6:=NB173_171.out;obtain ⟨hcz7_0,hcz7_1,hfz7_0,hfz7_1⟩:=cB2 BK171.out;have hnb8:=NB173_172.out;have hnc8:=NB172_173.out;obtain ⟨hcz9_0,hcz9_1,hfz9_0,hfz9_1⟩:=cB2 BK173.out;obtain ⟨hcz10_0,hcz10_1,hfz10_0,hfz10_1⟩:=cB2 BK172.out))
 refine bodyPost_ret (results_cell_row rfl _ _ gb172 51 #[.string a0_0,.int .i64 a0_1] (0,0) _ rfl (by (with_reducible repeat first|apply ze|apply zf|apply zg);refine zL (cs:=#[.string a0_0,.int .i64 0]) ?_ 1 _ rfl;(with_reducible repeat first|apply ze|apply zf|apply zg);refine zL (cs:=#[.string (⟨#[]⟩ : ByteArray),.int .i64 0]) ?_ 0 _ rfl;(with_reducible repeat first|apply ze|apply zf|apply zg);refine cS2 ?_ NB172_173.out;(with_reducible repeat first|apply ze|apply zf|apply zg);exact BK172.out) Try.underlying51 rfl (by kernel_rfl)) rfl ?_;exact ⟨by first|rfl|(simp [yt,yu] <;> rfl)|(simp [*,yt,yu] <;> rfl),by repeat (with_reducible first|exact HB.out|apply za|apply zb|apply zc|refine zd ?_ GE171.out|refine zd ?_ GE172.out|refine zd ?_ GE173.out)⟩


def Fs.l0 : Nat→List (S47)→List (S51)→Int→Option ((List (S51)))
 | 0,_,_,_ => none
 | k + 1,x0,x3,x4 => if x4<(x0.length : Int) then (if 0≤x4 then ((Fn.f ((rd_T47 x0 x4).f0) ((rd_T47 x0 x4).f1)).bind fun bt178 => (if x4<(x3.length : Int) then (Fs.l0 k x0 (x3.set (x4 : Int).toNat (⟨bt178.1,bt178.2⟩ : S51)) (wrap64 (x4 + 1))) else (none))) else (none)) else (some x3)
def Fs.f (k : Nat) (l0 : List (S47)) : Option ((List (S51))):=if 0≤(l0.length : Int) then (if ((l0.length : Int) : Int).toNat≤11728124029610 then (Fs.l0 k l0 (List.replicate ((l0.length : Int) : Int).toNat z51) 0) else (none)) else (none)
theorem Fs.mono_l : ∀ k,(∀ y0 y1 y2,LeO (Fs.l0 k y0 y1 y2) (Fs.l0 (k + 1) y0 y1 y2))
 | 0 => fun _ _ _ r h => by simp [Fs.l0] at h
 | k + 1 => by
  have ih0:=Fs.mono_l k;intro y0 y1 y2;unfold Fs.l0
  repeat' first|(with_reducible first|exact ih0 _ _ _|exact zQ _|exact zN _|refine zP ?_ ?_|refine zO ?_ (fun _ => ?_))|refine zP ?_ ?_|refine zO ?_ (fun _ => ?_)
theorem Fs.mono : ∀ a0 k,LeO (Fs.f k a0) (Fs.f (k + 1) a0):=by
 intro a0 k;have ih0:=Fs.mono_l k;unfold Fs.f
 repeat' first|(with_reducible first|exact ih0 _ _ _|exact zQ _|exact zN _|refine zP ?_ ?_|refine zO ?_ (fun _ => ?_))|refine zP ?_ ?_|refine zO ?_ (fun _ => ?_)
set_option maxHeartbeats 8000000 in
set_option maxRecDepth 100000 in
theorem Fs.calls (k : Nat) (A0 : Option Addr) (c0 : Nat) (l0 : List (S47)) (r : List (S51)) (w : World) (hr0 : Kd.C k47 w A0 l0.length l0) (hc0 : l0.length≤c0) (h : Fs.f k l0=some r) :
  Calls Try.prog 68 #[.slice A0 l0.length c0] w fun e w' => ∃ v0_ : Value,e = .returned (v0_)∧Kd.R k51 51 w' w.heap.size (fun _ => True) v0_ r∧Below w.heap.size w w':=by
 have hu47:=Try.underlying47;have hu51:=Try.underlying51;have HR0:=zh hr0;have HC0:=zh hc0;clear hr0 hc0;have HB:=zh (Below.refl w.heap.size w);have H : (if 0≤(l0.length : Int) then (if ((l0.length : Int) : Int).toNat≤11728124029610 then (Fs.l0 k l0 (List.replicate ((l0.length : Int) : Int).toNat z51) 0) else (none)) else (none))=some r:=h;clear h
 by_cases c2 : 0≤(l0.length : Int)
 ·
  rw [if_pos c2] at H
  have c2b0:=eq_true c2;have c2b1 : decide (0≤(l0.length : Int))=true:=decide_eq_true c2;clear c2
  by_cases c3 : ((l0.length : Int) : Int).toNat≤11728124029610
  ·
   rw [if_pos c3] at H
   have c3b0:=eq_true c3;have c3b1 : decide (((l0.length : Int) : Int).toNat≤11728124029610)=true:=decide_eq_true c3;clear c3;obtain ⟨y174,hy174⟩ : ∃ y_ : List (S51),y_=(List.replicate ((l0.length : Int) : Int).toNat z51):=⟨_,rfl⟩;replace H : (Fs.l0 k l0 y174 0)=some r:=by first|(rw [hy174];with_reducible exact H)|(have H2_:=(Option.bind_some _ _).symm.trans H;rw [hy174];with_reducible exact H2_)|(have H2_:=(Option.bind_some _ _).symm.trans H;with_reducible exact H2_)|with_reducible exact H|(rw [hy174];exact H)|exact H
   have Ny174:=zh hy174;clear hy174;have H':=zh H;clear H
   go_enter Try.func68,Try.ntmps68
   go_wp2_with (first|((with_reducible refine zK (N:=7) rfl ?_);refine Kd.R_make k51 _ 51 rfl (N:=7) rfl 29 _ _ rfl (l0.length : Int) rfl rfl Try.underlying29 (.agg #[(.string ⟨#[]⟩),(.int .i64 0)]) 24 info51 rfl (by decide) (by omega) z51 (ok:=fun _ => True) (okp:=fun _ => True) (k51_mkM _ _ _ z51 ) (fun _ hk => hk) trivial (zy (by first|(with_reducible assumption)|assumption)) (Nat.le_trans (Nat.mul_le_mul_right _ (zy (by first|(with_reducible assumption)|assumption) : (l0.length : Int).toNat≤11728124029610)) (by omega)) (Below.refl _ _) (ye _) ?_;intro v175 w4 ho5 hb hg_ hnew_;clear hg_ hnew_;(first|rw [← Ny174.out] at ho5|(simp only [Int.reduceToNat] at ho5;rw [← Ny174.out] at ho5));have HO176:=zh (yx ho5 (zB (by repeat (with_reducible first|exact HB.out|apply za|apply zb|apply zc))));replace HB:=zh (zC (by repeat (with_reducible first|exact HB.out|apply za|apply zb|apply zc)) hb);clear hb ho5))
   go_loopg [4] k (fun kq v4 w' => ∃ (x3_1 : List (S51)) (x4_1 : Int),v4 = .int .i64 x4_1∧Aside0 (Fs.l0 kq l0 x3_1 x4_1=some r)∧Aside0 (kq≤k)∧Aside0 (Kd.R k51 51 w' w.heap.size (fun _ => True) v175 x3_1)∧Aside0 (Below w.heap.size w w'))
   case atStart => exact ⟨(y174),(0),(by first|rfl|(simp;done)|(simp [*];done)),H',⟨ye _⟩,⟨by (with_reducible repeat (first|apply zm|apply zn|apply zo));exact HO176.out⟩,⟨by repeat (with_reducible first|exact HB.out|apply za|apply zb|apply zc)⟩⟩
   case round =>
    clear H'
    try clear c2 c2b0 c2b1
    try clear p2
    try clear c3 c3b0 c3b1
    obtain ⟨x3_1,x4_1,rfl,HA,HK1,HO_3,HB⟩:=hrel
    cases gk with
    | zero => exact absurd HA.out (by simp [Fs.l0])
    | succ k1 =>
     have H:=HA.out;clear HA;simp only [Fs.l0] at H
     by_cases c6 : x4_1<(l0.length : Int)
     ·
      rw [if_pos c6] at H
      have c6b0 : decide (x4_1<(l0.length : Int))=true:=decide_eq_true c6;clear c6
      by_cases c7 : 0≤x4_1
      ·
       rw [if_pos c7] at H
       have c7b0 : decide (0≤x4_1)=true:=decide_eq_true c7;clear c7;replace H:=zT.mp H;obtain ⟨⟨t178,t179⟩,A80,H⟩:=H;replace H : (if x4_1<(x3_1.length : Int) then (Fs.l0 k1 l0 (x3_1.set (x4_1 : Int).toNat (⟨t178,t179⟩ : S51)) (wrap64 (x4_1 + 1))) else (none))=some r:=H;have A8:=zh A80;clear A80
       by_cases c9 : x4_1<(x3_1.length : Int)
       ·
        rw [if_pos c9] at H
        have c9b0 : decide (x4_1<(x3_1.length : Int))=true:=decide_eq_true c9;clear c9;obtain ⟨y180,hy180⟩ : ∃ y_ : List (S51),y_=(x3_1.set (x4_1 : Int).toNat (⟨t178,t179⟩ : S51)):=⟨_,rfl⟩;replace H : (Fs.l0 k1 l0 y180 (wrap64 (x4_1 + 1)))=some r:=by first|(rw [hy180];with_reducible exact H)|(have H2_:=(Option.bind_some _ _).symm.trans H;rw [hy180];with_reducible exact H2_)|(have H2_:=(Option.bind_some _ _).symm.trans H;with_reducible exact H2_)|with_reducible exact H|(rw [hy180];exact H)|exact H
        have Ny180:=zh hy180;clear hy180;have H':=zh H;clear H;have p177 : 0≤(x4_1 : Int):=zy (by first|(with_reducible assumption)|assumption);have q177 : x4_1<(l0.length : Int):=zy (by first|(with_reducible assumption)|assumption);obtain ⟨ad177,e177,hx177_0,hx177_1⟩:=at_T47 HR0.out x4_1 p177 q177
        cases e177
        replace hx177_0:=(HB.out.cell (zl w _ hx177_0)).trans hx177_0;replace hx177_1:=(HB.out.cell (zl w _ hx177_1)).trans hx177_1;replace p177:=eq_true p177;replace q177:=eq_true q177
        go_wp2_with (first|((with_reducible refine zJ (f:=22) rfl ?_);refine yj (some 20) rfl rfl Try.func22 (by kernel_rfl) rfl #[.agg #[.string ((rd_T47 l0 x4_1).f0),.int .i64 ((rd_T47 l0 x4_1).f1)]] rfl (by (try simp only [zt,zu,zv]);first|done|rfl|(simp only [zw,zx];rfl)|(simp only [yr,ys,zV,zW];rfl)) ?_;(with_reducible refine (Fn.calls  ((rd_T47 l0 x4_1).f0) ((rd_T47 l0 x4_1).f1) t178 t179 _ A8.out).mono ?_);rintro e w11 ⟨rfl,hb⟩;refine ⟨_,rfl,?_⟩;replace HO_3:=zh (yg (by (with_reducible repeat (first|apply zm|apply zn|apply zo));exact HO_3.out) hb);replace HB:=zh (zC (by repeat (with_reducible first|exact HB.out|apply za|apply zb|apply zc)) hb);(try clear hb);(try clear hb2);(try clear hk);(try clear hi);have p10 : 0≤(x4_1 : Int):=zy (by first|(with_reducible assumption)|assumption);have q10 : (x4_1 : Int)<((x3_1.length : Int) : Int):=zy (by first|(with_reducible assumption)|assumption);obtain ⟨go10,co10,eo10,gb10,gl10,cl10,HG10⟩:=Kd.R_form HO_3.out (by omega);(first|cases eo10|(injection eo10 with ea_ en_ ec_;(first|subst ea_|(injection ea_ with ea_;subst ea_));subst ec_;clear en_));have GB10:=zh gb10;have GG10:=zh HG10;clear gb10 gl10 HG10;obtain ⟨ce10,hcl10,hM10,hcc10,hfr10⟩:=Kd.R_elem HO_3.out z51 (x4_1 : Int) p10 q10;obtain rfl:=k51_openM hM10;have hx10_0 : w11.cell? ⟨go10,(x4_1 : Int).toNat * 2,none⟩=some (.string ((rd_T51 x3_1 x4_1).f0)):=hcc10 0 _ rfl;have hx10_1 : w11.cell? ⟨go10,(x4_1 : Int).toNat * 2 + 1,none⟩=some (.int .i64 ((rd_T51 x3_1 x4_1).f1)):=hcc10 1 _ rfl;have hf10_0 : w11.frozen? ⟨go10,(x4_1 : Int).toNat * 2,none⟩=false:=hfr10 0;have hf10_1 : w11.frozen? ⟨go10,(x4_1 : Int).toNat * 2 + 1,none⟩=false:=hfr10 1;clear hcl10 hcc10 hfr10 hM10;replace p10:=eq_true p10;replace q10:=eq_true q10;have HX12:=zh (show Kd.R k51 51 w11 w.heap.size (fun _ => True) (.slice (some ⟨go10,0,none⟩) x3_1.length co10) x3_1 from (by (with_reducible repeat (first|apply zm|apply zn|apply zo));exact HO_3.out));obtain ⟨ce12,hcl12,hM12,hcc12,hfr12⟩:=Kd.R_elem HX12.out z51 (x4_1 : Int) (zy (by first|(with_reducible assumption)|assumption)) (by have h_ : (x4_1 : Int)<((x3_1.length : Int) : Int):=zy (by first|(with_reducible assumption)|assumption);first|exact h_|(have e_:=(yh HO_3.out).1;omega)|simpa using h_);obtain rfl:=k51_openM hM12;have HP12:=Kd.R_seg HX12.out (x4_1 : Int) (zy (by first|(with_reducible assumption)|assumption)) (by have h_ : (x4_1 : Int)<((x3_1.length : Int) : Int):=zy (by first|(with_reducible assumption)|assumption);first|exact h_|(have e_:=(yh HO_3.out).1;omega)|simpa using h_) (seg:=[.string t178,.int .i64 t179]) (j:=0) hcl12 hcc12 (show 2≤2 from by decide) (x':=(⟨t178,t179⟩ : S51)) (k51_mkM _ _ _ (⟨t178,t179⟩ : S51) ) (fun _ hk => hk);have hx12_0:=hcc12 0 _ rfl;(try simp only [show (k51).sz=2 from rfl,Nat.mul_one,Nat.add_zero] at hx12_0);have hf12_0:=hfr12 0;(try simp only [show (k51).sz=2 from rfl,Nat.mul_one,Nat.add_zero] at hf12_0);have hx12_1:=hcc12 1 _ rfl;(try simp only [show (k51).sz=2 from rfl,Nat.mul_one,Nat.add_zero] at hx12_1);have hf12_1:=hfr12 1;(try simp only [show (k51).sz=2 from rfl,Nat.mul_one,Nat.add_zero] at hf12_1);clear hcl12 hcc12 hfr12 hM12)|((with_reducible refine gate_store (t:=51) (p:=21) rfl ?_);refine store_event (t:=51) (p:=21) (v:=?vo_w13) (w1:=((w11.setCell ⟨go10,(x4_1 : Int).toNat * 2,none⟩ (.string t178)).setCell ⟨go10,(x4_1 : Int).toNat * 2 + 1,none⟩ (.int .i64 t179))) ?hg ?ho ?hn ?hr ?_;(case ho => rfl);(case hg => rfl);(case hn => rfl);(case hr => go_simp <;> rfl);intro w13 hw;have hg : w11.grownBy w13 (some go10):=(by rw [hw];exact HP12.2);have hp_ : Kd.R k51 51 w13 w.heap.size (fun _ => True) (.slice (some ⟨go10,0,none⟩) x3_1.length co10) y180:=(by rw [hw,Ny180.out];exact HP12.1);clear HP12;replace HO_3:=zh (hp_);replace HB:=zh ((by rw [hw];exact zd (zd (HB.out) GB10.out) GB10.out : Below w.heap.size w w13));clear hg hw hp_))
        go_roundg k1
        case measure => have:=HK1.out;omega
        case rel => exact ⟨(y180),(wrap64 (x4_1 + 1)),(by first|rfl|(simp;done)|(simp [*];done)),H',⟨by have:=HK1.out;omega⟩,⟨by (with_reducible repeat (first|apply zm|apply zn|apply zo));exact HO_3.out⟩,⟨by repeat (with_reducible first|exact HB.out|apply za|apply zb|apply zc)⟩⟩
       rw [if_neg c9] at H;exact absurd H (by simp)
      rw [if_neg c7] at H;exact absurd H (by simp)
     rw [if_neg c6] at H;have c6b0 : decide (x4_1<(l0.length : Int))=false:=decide_eq_false c6;clear c6;obtain rfl:=zU H
     go_wp2
     go_ret
     exact ⟨_,by first|rfl|(simp [yt,yu] <;> rfl)|(simp [*,yt,yu] <;> rfl),by (with_reducible repeat (first|apply zm|apply zn|apply zo));exact HO_3.out,by repeat (with_reducible first|exact HB.out|apply za|apply zb|apply zc)⟩
  rw [if_neg c3] at H;exact absurd H (by simp)
 rw [if_neg c2] at H;exact absurd H (by simp)


def Fg.f (k : Nat) (a0_0 : Int) (l0_1 : List (S47)) : Option (Int×(List (S51))):=(Fs.f k l0_1).bind fun t184 => (some (a0_0,t184))
theorem Fg.mono : ∀ a0 a1 k,LeO (Fg.f k a0 a1) (Fg.f (k + 1) a0 a1):=by
 intro a0 a1 k;unfold Fg.f
 repeat' first|(with_reducible first|exact Fs.mono _ _|exact zQ _|exact zN _|refine zP ?_ ?_|refine zO ?_ (fun _ => ?_))|refine zP ?_ ?_|refine zO ?_ (fun _ => ?_)
set_option maxHeartbeats 8000000 in
set_option maxRecDepth 100000 in
theorem Fg.calls (k : Nat) (a0_0 : Int) (A0_1 : Option Addr) (c0_1 : Nat) (l0_1 : List (S47)) (r1 : Int) (r2 : List (S51)) (w : World) (hr0_1 : Kd.C k47 w A0_1 l0_1.length l0_1) (hc0_1 : l0_1.length≤c0_1) (h : Fg.f k a0_0 l0_1=some (r1,r2)) :
  Calls Try.prog 55 #[.agg #[.int .i64 a0_0,.slice A0_1 l0_1.length c0_1]] w fun e w' => ∃ v1_ : Value,e = .returned (.agg #[.int .i64 r1,v1_])∧Kd.R k51 51 w' w.heap.size (fun _ => True) v1_ r2∧Below w.heap.size w w':=by
 have hu79:=Try.underlying79;have hu67:=Try.underlying67;have HR0_1:=zh hr0_1;have HC0_1:=zh hc0_1;clear hr0_1 hc0_1;have HB:=zh (Below.refl w.heap.size w);have H : ((Fs.f k l0_1).bind fun t184 => (some (a0_0,t184)))=some (r1,r2):=h;clear h;replace H:=zT.mp H;obtain ⟨t184,A20,H⟩:=H;replace H : (some (a0_0,t184))=some (r1,r2):=H;have A2:=zh A20;clear A20;simp only [Option.some.injEq,Prod.mk.injEq] at H;obtain ⟨rfl,rfl⟩:=H
 go_enter Try.func55,Try.ntmps55
 go_wp2_with (first|((with_reducible refine zK (N:=1) rfl ?_);refine zI ?hg (N:=1) ?hd (cs:=#[.int .i64 a0_0,.slice A0_1 l0_1.length c0_1]) (t:=79) ?hr ?_;(case hd|hg => rfl);(case hr => go_simp <;> rfl);intro gb181 hg w3 hbox hb;have BK181:=zh (hbox);have hH_:=cH (by repeat (with_reducible first|exact HB.out|apply za|apply zb|apply zc)) hb hg;have GW181:=zh hH_.1;have GE181:=GW181;replace HB:=zh hH_.2;clear hb hbox hg hH_)|((with_reducible refine zK (N:=2) rfl ?_);refine zI ?hg (N:=2) ?hd (cs:=#[.int .i64 0,.slice none 0 0]) (t:=67) ?hr ?_;(case hd|hg => rfl);(case hr => go_simp <;> rfl);intro gb182 hg w4 hbox hb;have BK182:=zh (hbox);have hH_:=cH (by repeat (with_reducible first|exact HB.out|apply za|apply zb|apply zc|refine zd ?_ GE181.out)) hb hg;have GW182:=zh hH_.1;have GE182:=GW182;replace HB:=zh hH_.2;have NB181_182:=zh ((by rw [hg];exact yc (yi (g:=gb181) (o:=.cells #[.int .i64 a0_0,.slice A0_1 l0_1.length c0_1] 79 (0,0)) (by (with_reducible repeat first|apply ze|apply zf|apply zg);exact BK181.out)) : gb181≠gb182));have NB182_181:=zh NB181_182.out.symm;replace BK181:=zh (cD BK181.out (by (with_reducible repeat first|apply ze|apply zf|apply zg);exact BK181.out) hb);clear hb hbox hg hH_)|((with_reducible refine zK (N:=3) rfl ?_);refine zI ?hg (N:=3) ?hd (cs:=#[.int .i64 0,.slice none 0 0]) (t:=67) ?hr ?_;(case hd|hg => rfl);(case hr => go_simp <;> rfl);intro gb183 hg w5 hbox hb;have BK183:=zh (hbox);have hH_:=cH (by repeat (with_reducible first|exact HB.out|apply za|apply zb|apply zc|refine zd ?_ GE181.out|refine zd ?_ GE182.out)) hb hg;have GW183:=zh hH_.1;have GE183:=GW183;replace HB:=zh hH_.2;have NB181_183:=zh ((by rw [hg];exact yc (yi (g:=gb181) (o:=.cells #[.int .i64 a0_0,.slice A0_1 l0_1.length c0_1] 79 (0,0)) (by (with_reducible repeat first|apply ze|apply zf|apply zg);exact BK181.out)) : gb181≠gb183));have NB183_181:=zh NB181_183.out.symm;replace BK181:=zh (cD BK181.out (by (with_reducible repeat first|apply ze|apply zf|apply zg);exact BK181.out) hb);have NB182_183:=zh ((by rw [hg];exact yc (yi (g:=gb182) (o:=.cells #[.int .i64 0,.slice none 0 0] 67 (0,0)) (by (with_reducible repeat first|apply ze|apply zf|apply zg);exact BK182.out)) : gb182≠gb183));have NB183_182:=zh NB182_183.out.symm;replace BK182:=zh (cD BK182.out (by (with_reducible repeat first|apply ze|apply zf|apply zg);exact BK182.out) hb);clear hb hbox hg hH_;have hnb6:=NB181_182.out;have hnc6:=NB182_181.out;have hnb7:=NB181_183.out;have hnc7:=NB183_181.out;obtain ⟨hcz8_0,hcz8_1,hfz8_0,hfz8_1⟩:=cB2 BK181.out;have hnb9:=NB183_182.out;have hnc9:=NB182_183.out;obtain ⟨hcz10_0,hcz10_1,hfz10_0,hfz10_1⟩:=cB2 BK183.out)|((with_reducible refine zJ (f:=68) rfl ?_);refine yj (some 9) rfl rfl Try.func68 (by kernel_rfl) rfl #[.slice A0_1 l0_1.length c0_1] rfl (by (try simp only [zt,zu,zv]);first|done|rfl|(simp only [zw,zx];rfl)|(simp only [yr,ys,zV,zW];rfl)) ?_;(with_reducible refine (Fs.calls k  _ _ l0_1 t184 _ ?side1 ?side2 A2.out).mono ?_);(case side1 => exact Kd.C_below HR0_1.out (by repeat (with_reducible first|exact HB.out|apply za|apply zb|apply zc|refine zd ?_ GE181.out|refine zd ?_ GE182.out|refine zd ?_ GE183.out)));(case side2 => exact HC0_1.out);rintro e w11 ⟨v185,rfl,ho0,hb⟩;refine ⟨_,rfl,?_⟩;have HO186:=zh (yx ho0 (zB (by repeat (with_reducible first|exact HB.out|apply za|apply zb|apply zc|refine zd ?_ GE181.out|refine zd ?_ GE182.out|refine zd ?_ GE183.out))));replace BK181:=zh (cD BK181.out (by (with_reducible repeat first|apply ze|apply zf|apply zg);refine zS ?_ NB181_183.out _;(with_reducible repeat first|apply ze|apply zf|apply zg);exact BK181.out) hb);replace BK182:=zh (cD BK182.out (by (with_reducible repeat first|apply ze|apply zf|apply zg);refine zS ?_ NB182_183.out _;(with_reducible repeat first|apply ze|apply zf|apply zg);exact BK182.out) hb);replace BK183:=zh (zD (g:=gb183) (o:=.cells #[.int .i64 a0_0,.slice none 0 0] 67 (0,0)) (by (with_reducible repeat first|apply ze|apply zf|apply zg);refine zL (cs:=#[.int .i64 0,.slice none 0 0]) ?_ 0 _ rfl;(with_reducible repeat first|apply ze|apply zf|apply zg);exact BK183.out) hb);replace HB:=zh (zC (by repeat (with_reducible first|exact HB.out|apply za|apply zb|apply zc|refine zd ?_ GE181.out|refine zd ?_ GE182.out|refine zd ?_ GE183.out)) hb);(try clear hb);(try clear hb2);(try clear hk);(try clear hi);(try clear ho0);obtain ⟨Ao12,co12,eo12⟩:=yk HO186.out;subst eo12;obtain ⟨hcz13_0,hcz13_1,hfz13_0,hfz13_1⟩:=cB2 BK183.out;obtain ⟨hcz14_0,hcz14_1,hfz14_0,hfz14_1⟩:=cB2 BK182.out))
 refine bodyPost_ret (results_cell_row rfl _ _ gb182 67 #[.int .i64 a0_0,.slice Ao12 t184.length co12] (0,0) _ rfl (by (with_reducible repeat first|apply ze|apply zf|apply zg);refine zL (cs:=#[.int .i64 a0_0,.slice none 0 0]) ?_ 1 _ rfl;(with_reducible repeat first|apply ze|apply zf|apply zg);refine zL (cs:=#[.int .i64 0,.slice none 0 0]) ?_ 0 _ rfl;(with_reducible repeat first|apply ze|apply zf|apply zg);refine zS ?_ NB182_183.out _;(with_reducible repeat first|apply ze|apply zf|apply zg);exact BK182.out) Try.underlying67 rfl (by kernel_rfl)) rfl ?_;exact ⟨_,by first|rfl|(simp [yt,yu] <;> rfl)|(simp [*,yt,yu] <;> rfl),by (with_reducible repeat (first|apply zm|apply zn|apply zo));exact zM (zE (p:=⟨gb182,1,none⟩) (zE (p:=⟨gb182,0,none⟩) (zE (p:=⟨gb183,1,none⟩) (yf (yf HO186.out BK183.out (by decide)) BK182.out (by decide)) (fun _ hk => hk.1.2) (.slice Ao12 t184.length co12)) (fun _ hk => hk.2) (.int .i64 a0_0)) (fun _ hk => hk.2) (.slice Ao12 t184.length co12)) (fun _ hk => trivial),by repeat (with_reducible first|exact HB.out|apply za|apply zb|apply zc|refine zd ?_ GE181.out|refine zd ?_ GE182.out|refine zd ?_ GE183.out)⟩

end Go.Proofs.Ytamikhmpfmgofaa.Q
end
