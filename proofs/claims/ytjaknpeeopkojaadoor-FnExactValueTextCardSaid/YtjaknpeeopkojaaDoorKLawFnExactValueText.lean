/- FnExactValueText: for every argument the law answers true, and the argument reads behind the call as it read before. Condition: the package-level variables that it reads start as the program's text lays them; the card ties them to it. -/
import Derived.Test.YtjaknpeeopkojaaDoorKLawFnExactValueTextp24
import Derived.ProofKit
import Derived.OpenShut
import Derived.ShutString
import Derived.ChangeOld
import Derived.SizedLaws
import Derived.Deep.Slices
import Derived.Lib.SmallJoins
import Derived.Laws.Entries
import Derived.Lib.Join
import Derived.Lib.ItoaLen
import Derived.Test.YtjaknpeeopkojaaDoorRows
import Derived.Test.YtjaknpeeopkojaaDoorTie
import Derived.Test.YtjaknpeeopkojaaDoorCards
import Derived.LaidMore
import Derived.Stop.LaidErr
import Derived.Stop.Joined
import Derived.SevenTiedAt
import Derived.Carry
section
namespace Go.Proofs.YtjaknpeeopkojaaDoor.Q
open Go.RowKit Go.Proofs.YtjaknpeeopkojaaDoorW.PrintWords Go.Proofs.YtjaknpeeopkojaaDoorW.PrintLast Go.Proofs.YtjaknpeeopkojaaDoorW.PrintMore
attribute [local go_sem] max2_int min2_int max_two min_two max_three min_three max_four min_four max2_str min2_str str_geq str_gtr str_leq   -- for this text's walks alone
set_option linter.unusedVariables false
set_option linter.unusedSimpArgs false

attribute [local go_sem high] eqA27
mutual
def F4.j0 : Nat→Bool→Int→Int→ByteArray→Int→Option (Bool)
 | 0,_,_,_,_,_ => none
 | k + 1,x45,x309000,x309001,x309002,x310000 => if x45=true then ((F6.f k x309000 x309001 x309002).bind fun bt312 => (if x309001=0 then (if (x309002.size : Int)≤300 then (if x310000 > 0 then (if bt312.2=true then ((Fa.f k (F4.f k) bt312.1 x310000).bind fun t316 => (some (!t316))) else (some false)) else (some false)) else (some false)) else (some false))) else (some false)
def F4.f : Nat→Int→Int→ByteArray→Int→Option (Bool)
 | 0,_,_,_,_ => none
 | k + 1,a0_0,a0_1,a0_2,a1 => if a0_0=0 then (some (a0_0 == 0 && (a0_1 == 0 && (a0_2.toList == ([] : List UInt8))))) else (if a0_0=1 then ((Fs.f a0_1 0 1).bind fun t310 => (if t310=true then (some (a0_2.toList == ([] : List UInt8))) else (some false))) else (if a0_0=2 then ((F02.f a0_1).bind fun t311 => (if t311=true then (some (a0_2.toList == ([] : List UInt8))) else (some false))) else (if a0_0=3 then (if a0_1=0 then (some (decide ((a0_2.size : Int)≤300))) else (some false)) else (if a0_0=4 then (F4.j0 k (a0_0 == 4) a0_0 a0_1 a0_2 a1) else (F4.j0 k (a0_0 == 5) a0_0 a0_1 a0_2 a1)))))
end
theorem F4.mono_l : ∀ k,(∀ y0 y1 y2 y3,LeO (F4.f k y0 y1 y2 y3) (F4.f (k + 1) y0 y1 y2 y3))∧(∀ y0 y1 y2 y3 y4,LeO (F4.j0 k y0 y1 y2 y3 y4) (F4.j0 (k + 1) y0 y1 y2 y3 y4))
 | 0 => ⟨fun _ _ _ _ r h => by simp [F4.f] at h,fun _ _ _ _ _ r h => by simp [F4.j0] at h⟩
 | k + 1 => by
  obtain ⟨ih0,ih1⟩:=F4.mono_l k;refine ⟨?_,?_⟩
  ·
   intro y0 y1 y2 y3
   unfold F4.f
   repeat' first|(with_reducible first|exact ih0 _ _ _ _|exact ih1 _ _ _ _ _|exact F6.mono _ _ _ _|exact Fa.mono _ _ ih0 _ _ _|exact zQ _|exact zN _|refine zP ?_ ?_|refine zO ?_ (fun _ => ?_))|refine zP ?_ ?_|refine zO ?_ (fun _ => ?_)
  intro y0 y1 y2 y3 y4;unfold F4.j0
  repeat' first|(with_reducible first|exact ih0 _ _ _ _|exact ih1 _ _ _ _ _|exact F6.mono _ _ _ _|exact Fa.mono _ _ ih0 _ _ _|exact zQ _|exact zN _|refine zP ?_ ?_|refine zO ?_ (fun _ => ?_))|refine zP ?_ ?_|refine zO ?_ (fun _ => ?_)
theorem F4.mono : ∀ a0 a1 a2 a3 k,LeO (F4.f k a0 a1 a2 a3) (F4.f (k + 1) a0 a1 a2 a3):=by
 intro a0 a1 a2 a3 k;obtain ⟨ih0,ih1⟩:=F4.mono_l k;exact ih0 a0 a1 a2 a3
set_option maxHeartbeats 8000000 in
set_option maxRecDepth 100000 in
theorem F4.calls (k : Nat) : ∀ (a0_0 : Int) (a0_1 : Int) (a0_2 : ByteArray) (a1 : Int) (r : Bool) (w : World) (h : F4.f k a0_0 a0_1 a0_2 a1=some r),
  Calls Tryd.prog 17 #[.agg #[.int .i64 a0_0,.int .i64 a0_1,.string a0_2],.int .i64 a1] w fun e w' => e = .returned (.bool r)∧Below w.heap.size w w':=by
 induction k using Nat.strongRecOn with
 | _ k ih =>
 intro a0_0 a0_1 a0_2 a1 r w h
 cases k with
 | zero => exact absurd h (by simp [F4.f])
 | succ k =>
 simp only [F4.f] at h;have hu27:=Tryd.underlying27;have HB:=zh (Below.refl w.heap.size w);have H : (if a0_0=0 then (some (a0_0 == 0 && (a0_1 == 0 && (a0_2.toList == ([] : List UInt8))))) else (if a0_0=1 then ((Fs.f a0_1 0 1).bind fun t310 => (if t310=true then (some (a0_2.toList == ([] : List UInt8))) else (some false))) else (if a0_0=2 then ((F02.f a0_1).bind fun t311 => (if t311=true then (some (a0_2.toList == ([] : List UInt8))) else (some false))) else (if a0_0=3 then (if a0_1=0 then (some (decide ((a0_2.size : Int)≤300))) else (some false)) else (if a0_0=4 then (F4.j0 k (a0_0 == 4) a0_0 a0_1 a0_2 a1) else (F4.j0 k (a0_0 == 5) a0_0 a0_1 a0_2 a1))))))=some r:=h;clear h
 by_cases c3 : a0_0=0
 ·
  rw [if_pos c3] at H
  have c3b0 : (a0_0 == 0)=true:=ya.mpr c3;have c3b1 : (a0_0 != 0)=false:=zX.mpr c3;clear c3;obtain rfl:=zU H
  go_enter Tryd.func17,Tryd.ntmps17
  go_wp2_with (first|((with_reducible refine zK (N:=2) rfl ?_);(try (refine yz (by rfl) ?_;dsimp only));refine zI ?hg (N:=2) ?hd (cs:=#[.int .i64 a0_0,.int .i64 a0_1,.string a0_2]) (t:=27) ?hr ?_;(case hd|hg => rfl);(case hr => go_simp <;> rfl);intro gb308 hg w4 hbox hb;have BK308:=zh (hbox);have hH_:=cH (by repeat (with_reducible first|exact HB.out|apply za|apply zb|apply zc)) hb hg;have GW308:=zh hH_.1;have GE308:=GW308;replace HB:=zh hH_.2;clear hb hbox hg hH_)|((with_reducible refine zK (N:=3) rfl ?_);(try (refine yz (by rfl) ?_;dsimp only));refine zI ?hg (N:=3) ?hd (cs:=#[.int .i64 a1]) (t:=3) ?hr ?_;(case hd|hg => rfl);(case hr => go_simp <;> rfl);intro gb309 hg w5 hbox hb;have BK309:=zh (hbox);have hH_:=cH (by repeat (with_reducible first|exact HB.out|apply za|apply zb|apply zc|refine zd ?_ GE308.out)) hb hg;have GW309:=zh hH_.1;have GE309:=GW309;replace HB:=zh hH_.2;have NB308_309:=zh ((by rw [hg];exact yc (yi (g:=gb308) (o:=.cells #[.int .i64 a0_0,.int .i64 a0_1,.string a0_2] 27 (0,0)) (by (with_reducible repeat first|apply ze|apply zf|apply zg);exact BK308.out)) : gb308≠gb309));have NB309_308:=zh NB308_309.out.symm;replace BK308:=zh (cD BK308.out (by (with_reducible repeat first|apply ze|apply zf|apply zg);exact BK308.out) hb);clear hb hbox hg hH_;have hnb6:=NB308_309.out;have hnc6:=NB309_308.out;obtain ⟨hcz7_0,hcz7_1,hcz7_2,hfz7_0,hfz7_1,hfz7_2⟩:=cB3 BK308.out))
  go_ret
  exact ⟨by first|rfl|(simp [yt,yu] <;> rfl)|(simp [*,yt,yu] <;> rfl),by repeat (with_reducible first|exact HB.out|apply za|apply zb|apply zc|refine zd ?_ GE308.out|refine zd ?_ GE309.out)⟩
 rw [if_neg c3] at H;have c3b0 : (a0_0 == 0)=false:=zY.mpr c3;have c3b1 : (a0_0 != 0)=true:=zZ.mpr c3
 by_cases c8 : a0_0=1
 ·
  rw [if_pos c8] at H
  have c8b0 : (a0_0 == 1)=true:=ya.mpr c8;have c8b1 : (a0_0 != 1)=false:=zX.mpr c8;clear c8;replace H:=zT.mp H;obtain ⟨t310,A90,H⟩:=H;replace H : (if t310=true then (some (a0_2.toList == ([] : List UInt8))) else (some false))=some r:=H;have A9:=zh A90;clear A90
  by_cases c10 : t310=true
  ·
   subst c10
   have H1 : (some (a0_2.toList == ([] : List UInt8)))=some r:=by rw [if_pos rfl] at H;exact H
   clear H;have H:=H1;clear H1;obtain rfl:=zU H
   go_enter Tryd.func17,Tryd.ntmps17
   go_wp2_with (first|((with_reducible refine zK (N:=2) rfl ?_);(try (refine yz (by rfl) ?_;dsimp only));refine zI ?hg (N:=2) ?hd (cs:=#[.int .i64 a0_0,.int .i64 a0_1,.string a0_2]) (t:=27) ?hr ?_;(case hd|hg => rfl);(case hr => go_simp <;> rfl);intro gb308 hg w11 hbox hb;have BK308:=zh (hbox);have hH_:=cH (by repeat (with_reducible first|exact HB.out|apply za|apply zb|apply zc)) hb hg;have GW308:=zh hH_.1;have GE308:=GW308;replace HB:=zh hH_.2;clear hb hbox hg hH_)|((with_reducible refine zK (N:=3) rfl ?_);(try (refine yz (by rfl) ?_;dsimp only));refine zI ?hg (N:=3) ?hd (cs:=#[.int .i64 a1]) (t:=3) ?hr ?_;(case hd|hg => rfl);(case hr => go_simp <;> rfl);intro gb309 hg w12 hbox hb;have BK309:=zh (hbox);have hH_:=cH (by repeat (with_reducible first|exact HB.out|apply za|apply zb|apply zc|refine zd ?_ GE308.out)) hb hg;have GW309:=zh hH_.1;have GE309:=GW309;replace HB:=zh hH_.2;have NB308_309:=zh ((by rw [hg];exact yc (yi (g:=gb308) (o:=.cells #[.int .i64 a0_0,.int .i64 a0_1,.string a0_2] 27 (0,0)) (by (with_reducible repeat first|apply ze|apply zf|apply zg);exact BK308.out)) : gb308≠gb309));have NB309_308:=zh NB308_309.out.symm;replace BK308:=zh (cD BK308.out (by (with_reducible repeat first|apply ze|apply zf|apply zg);exact BK308.out) hb);clear hb hbox hg hH_;have hnb13:=NB308_309.out;have hnc13:=NB309_308.out;obtain ⟨hcz14_0,hcz14_1,hcz14_2,hfz14_0,hfz14_1,hfz14_2⟩:=cB3 BK308.out)|((with_reducible refine zJ (f:=26) rfl ?_);refine yj (some 18) rfl rfl Tryd.func26 (by kernel_rfl) rfl #[.int .i64 a0_1,.int .i64 0,.int .i64 1] rfl (by (try simp only [zt,zu,zv]);first|done|rfl|(simp only [zw,zx];rfl)|(simp only [yr,ys,zV,zW];rfl)) ?_;(with_reducible refine (Fs.calls  a0_1 0 1 true _ A9.out).mono ?_);rintro e w' ⟨rfl,⟨nd,rfl⟩⟩;refine ⟨_,rfl,?_⟩))
   go_ret
   exact ⟨by first|rfl|(simp [yt,yu] <;> rfl)|(simp [*,yt,yu] <;> rfl),by repeat (with_reducible first|exact HB.out|apply za|apply zb|apply zc|refine zd ?_ GE308.out|refine zd ?_ GE309.out)⟩
  replace c10:=yb.mpr c10;subst c10;have H1 : (some false)=some r:=by rw [if_neg (show ¬ (false=true) by decide)] at H;exact H
  clear H;have H:=H1;clear H1;obtain rfl:=zU H
  go_enter Tryd.func17,Tryd.ntmps17
  go_wp2_with (first|((with_reducible refine zK (N:=2) rfl ?_);(try (refine yz (by rfl) ?_;dsimp only));refine zI ?hg (N:=2) ?hd (cs:=#[.int .i64 a0_0,.int .i64 a0_1,.string a0_2]) (t:=27) ?hr ?_;(case hd|hg => rfl);(case hr => go_simp <;> rfl);intro gb308 hg w15 hbox hb;have BK308:=zh (hbox);have hH_:=cH (by repeat (with_reducible first|exact HB.out|apply za|apply zb|apply zc)) hb hg;have GW308:=zh hH_.1;have GE308:=GW308;replace HB:=zh hH_.2;clear hb hbox hg hH_)|((with_reducible refine zK (N:=3) rfl ?_);(try (refine yz (by rfl) ?_;dsimp only));refine zI ?hg (N:=3) ?hd (cs:=#[.int .i64 a1]) (t:=3) ?hr ?_;(case hd|hg => rfl);(case hr => go_simp <;> rfl);intro gb309 hg w16 hbox hb;have BK309:=zh (hbox);have hH_:=cH (by repeat (with_reducible first|exact HB.out|apply za|apply zb|apply zc|refine zd ?_ GE308.out)) hb hg;have GW309:=zh hH_.1;have GE309:=GW309;replace HB:=zh hH_.2;have NB308_309:=zh ((by rw [hg];exact yc (yi (g:=gb308) (o:=.cells #[.int .i64 a0_0,.int .i64 a0_1,.string a0_2] 27 (0,0)) (by (with_reducible repeat first|apply ze|apply zf|apply zg);exact BK308.out)) : gb308≠gb309));have NB309_308:=zh NB308_309.out.symm;replace BK308:=zh (cD BK308.out (by (with_reducible repeat first|apply ze|apply zf|apply zg);exact BK308.out) hb);clear hb hbox hg hH_;have hnb17:=NB308_309.out;have hnc17:=NB309_308.out;obtain ⟨hcz18_0,hcz18_1,hcz18_2,hfz18_0,hfz18_1,hfz18_2⟩:=cB3 BK308.out)|((with_reducible refine zJ (f:=26) rfl ?_);refine yj (some 18) rfl rfl Tryd.func26 (by kernel_rfl) rfl #[.int .i64 a0_1,.int .i64 0,.int .i64 1] rfl (by (try simp only [zt,zu,zv]);first|done|rfl|(simp only [zw,zx];rfl)|(simp only [yr,ys,zV,zW];rfl)) ?_;(with_reducible refine (Fs.calls  a0_1 0 1 false _ A9.out).mono ?_);rintro e w' ⟨rfl,⟨nd,rfl⟩⟩;refine ⟨_,rfl,?_⟩))
  go_ret
  exact ⟨by first|rfl|(simp [yt,yu] <;> rfl)|(simp [*,yt,yu] <;> rfl),by repeat (with_reducible first|exact HB.out|apply za|apply zb|apply zc|refine zd ?_ GE308.out|refine zd ?_ GE309.out)⟩
 rw [if_neg c8] at H;have c8b0 : (a0_0 == 1)=false:=zY.mpr c8;have c8b1 : (a0_0 != 1)=true:=zZ.mpr c8
 by_cases c19 : a0_0=2
 ·
  rw [if_pos c19] at H
  have c19b0 : (a0_0 == 2)=true:=ya.mpr c19;have c19b1 : (a0_0 != 2)=false:=zX.mpr c19;clear c19;replace H:=zT.mp H;obtain ⟨t311,A200,H⟩:=H;replace H : (if t311=true then (some (a0_2.toList == ([] : List UInt8))) else (some false))=some r:=H;have A20:=zh A200;clear A200
  by_cases c21 : t311=true
  ·
   subst c21
   have H1 : (some (a0_2.toList == ([] : List UInt8)))=some r:=by rw [if_pos rfl] at H;exact H
   clear H;have H:=H1;clear H1;obtain rfl:=zU H
   go_enter Tryd.func17,Tryd.ntmps17
   go_wp2_with (first|((with_reducible refine zK (N:=2) rfl ?_);(try (refine yz (by rfl) ?_;dsimp only));refine zI ?hg (N:=2) ?hd (cs:=#[.int .i64 a0_0,.int .i64 a0_1,.string a0_2]) (t:=27) ?hr ?_;(case hd|hg => rfl);(case hr => go_simp <;> rfl);intro gb308 hg w22 hbox hb;have BK308:=zh (hbox);have hH_:=cH (by repeat (with_reducible first|exact HB.out|apply za|apply zb|apply zc)) hb hg;have GW308:=zh hH_.1;have GE308:=GW308;replace HB:=zh hH_.2;clear hb hbox hg hH_)|((with_reducible refine zK (N:=3) rfl ?_);(try (refine yz (by rfl) ?_;dsimp only));refine zI ?hg (N:=3) ?hd (cs:=#[.int .i64 a1]) (t:=3) ?hr ?_;(case hd|hg => rfl);(case hr => go_simp <;> rfl);intro gb309 hg w23 hbox hb;have BK309:=zh (hbox);have hH_:=cH (by repeat (with_reducible first|exact HB.out|apply za|apply zb|apply zc|refine zd ?_ GE308.out)) hb hg;have GW309:=zh hH_.1;have GE309:=GW309;replace HB:=zh hH_.2;have NB308_309:=zh ((by rw [hg];exact yc (yi (g:=gb308) (o:=.cells #[.int .i64 a0_0,.int .i64 a0_1,.string a0_2] 27 (0,0)) (by (with_reducible repeat first|apply ze|apply zf|apply zg);exact BK308.out)) : gb308≠gb309));have NB309_308:=zh NB308_309.out.symm;replace BK308:=zh (cD BK308.out (by (with_reducible repeat first|apply ze|apply zf|apply zg);exact BK308.out) hb);clear hb hbox hg hH_;have hnb24:=NB308_309.out;have hnc24:=NB309_308.out;obtain ⟨hcz25_0,hcz25_1,hcz25_2,hfz25_0,hfz25_1,hfz25_2⟩:=cB3 BK308.out)|((with_reducible refine zJ (f:=27) rfl ?_);refine yj (some 28) rfl rfl Tryd.func27 (by kernel_rfl) rfl #[.int .i64 a0_1] rfl (by (try simp only [zt,zu,zv]);first|done|rfl|(simp only [zw,zx];rfl)|(simp only [yr,ys,zV,zW];rfl)) ?_;(with_reducible refine (F02.calls  a0_1 true _ A20.out).mono ?_);rintro e w' ⟨rfl,⟨nd,rfl⟩⟩;refine ⟨_,rfl,?_⟩))
   go_ret
   exact ⟨by first|rfl|(simp [yt,yu] <;> rfl)|(simp [*,yt,yu] <;> rfl),by repeat (with_reducible first|exact HB.out|apply za|apply zb|apply zc|refine zd ?_ GE308.out|refine zd ?_ GE309.out)⟩
  replace c21:=yb.mpr c21;subst c21;have H1 : (some false)=some r:=by rw [if_neg (show ¬ (false=true) by decide)] at H;exact H
  clear H;have H:=H1;clear H1;obtain rfl:=zU H
  go_enter Tryd.func17,Tryd.ntmps17
  go_wp2_with (first|((with_reducible refine zK (N:=2) rfl ?_);(try (refine yz (by rfl) ?_;dsimp only));refine zI ?hg (N:=2) ?hd (cs:=#[.int .i64 a0_0,.int .i64 a0_1,.string a0_2]) (t:=27) ?hr ?_;(case hd|hg => rfl);(case hr => go_simp <;> rfl);intro gb308 hg w26 hbox hb;have BK308:=zh (hbox);have hH_:=cH (by repeat (with_reducible first|exact HB.out|apply za|apply zb|apply zc)) hb hg;have GW308:=zh hH_.1;have GE308:=GW308;replace HB:=zh hH_.2;clear hb hbox hg hH_)|((with_reducible refine zK (N:=3) rfl ?_);(try (refine yz (by rfl) ?_;dsimp only));refine zI ?hg (N:=3) ?hd (cs:=#[.int .i64 a1]) (t:=3) ?hr ?_;(case hd|hg => rfl);(case hr => go_simp <;> rfl);intro gb309 hg w27 hbox hb;have BK309:=zh (hbox);have hH_:=cH (by repeat (with_reducible first|exact HB.out|apply za|apply zb|apply zc|refine zd ?_ GE308.out)) hb hg;have GW309:=zh hH_.1;have GE309:=GW309;replace HB:=zh hH_.2;have NB308_309:=zh ((by rw [hg];exact yc (yi (g:=gb308) (o:=.cells #[.int .i64 a0_0,.int .i64 a0_1,.string a0_2] 27 (0,0)) (by (with_reducible repeat first|apply ze|apply zf|apply zg);exact BK308.out)) : gb308≠gb309));have NB309_308:=zh NB308_309.out.symm;replace BK308:=zh (cD BK308.out (by (with_reducible repeat first|apply ze|apply zf|apply zg);exact BK308.out) hb);clear hb hbox hg hH_;have hnb28:=NB308_309.out;have hnc28:=NB309_308.out;obtain ⟨hcz29_0,hcz29_1,hcz29_2,hfz29_0,hfz29_1,hfz29_2⟩:=cB3 BK308.out)|((with_reducible refine zJ (f:=27) rfl ?_);refine yj (some 28) rfl rfl Tryd.func27 (by kernel_rfl) rfl #[.int .i64 a0_1] rfl (by (try simp only [zt,zu,zv]);first|done|rfl|(simp only [zw,zx];rfl)|(simp only [yr,ys,zV,zW];rfl)) ?_;(with_reducible refine (F02.calls  a0_1 false _ A20.out).mono ?_);rintro e w' ⟨rfl,⟨nd,rfl⟩⟩;refine ⟨_,rfl,?_⟩))
  go_ret
  exact ⟨by first|rfl|(simp [yt,yu] <;> rfl)|(simp [*,yt,yu] <;> rfl),by repeat (with_reducible first|exact HB.out|apply za|apply zb|apply zc|refine zd ?_ GE308.out|refine zd ?_ GE309.out)⟩
 rw [if_neg c19] at H;have c19b0 : (a0_0 == 2)=false:=zY.mpr c19;have c19b1 : (a0_0 != 2)=true:=zZ.mpr c19
 by_cases c30 : a0_0=3
 ·
  rw [if_pos c30] at H
  have c30b0 : (a0_0 == 3)=true:=ya.mpr c30;have c30b1 : (a0_0 != 3)=false:=zX.mpr c30;clear c30
  by_cases c31 : a0_1=0
  ·
   rw [if_pos c31] at H
   have c31b0 : (a0_1 == 0)=true:=ya.mpr c31;have c31b1 : (a0_1 != 0)=false:=zX.mpr c31;clear c31;obtain rfl:=zU H
   go_enter Tryd.func17,Tryd.ntmps17
   go_wp2_with (first|((with_reducible refine zK (N:=2) rfl ?_);(try (refine yz (by rfl) ?_;dsimp only));refine zI ?hg (N:=2) ?hd (cs:=#[.int .i64 a0_0,.int .i64 a0_1,.string a0_2]) (t:=27) ?hr ?_;(case hd|hg => rfl);(case hr => go_simp <;> rfl);intro gb308 hg w32 hbox hb;have BK308:=zh (hbox);have hH_:=cH (by repeat (with_reducible first|exact HB.out|apply za|apply zb|apply zc)) hb hg;have GW308:=zh hH_.1;have GE308:=GW308;replace HB:=zh hH_.2;clear hb hbox hg hH_)|((with_reducible refine zK (N:=3) rfl ?_);(try (refine yz (by rfl) ?_;dsimp only));refine zI ?hg (N:=3) ?hd (cs:=#[.int .i64 a1]) (t:=3) ?hr ?_;(case hd|hg => rfl);(case hr => go_simp <;> rfl);intro gb309 hg w33 hbox hb;have BK309:=zh (hbox);have hH_:=cH (by repeat (with_reducible first|exact HB.out|apply za|apply zb|apply zc|refine zd ?_ GE308.out)) hb hg;have GW309:=zh hH_.1;have GE309:=GW309;replace HB:=zh hH_.2;have NB308_309:=zh ((by rw [hg];exact yc (yi (g:=gb308) (o:=.cells #[.int .i64 a0_0,.int .i64 a0_1,.string a0_2] 27 (0,0)) (by (with_reducible repeat first|apply ze|apply zf|apply zg);exact BK308.out)) : gb308≠gb309));have NB309_308:=zh NB308_309.out.symm;replace BK308:=zh (cD BK308.out (by (with_reducible repeat first|apply ze|apply zf|apply zg);exact BK308.out) hb);clear hb hbox hg hH_;have hnb34:=NB308_309.out;have hnc34:=NB309_308.out;obtain ⟨hcz35_0,hcz35_1,hcz35_2,hfz35_0,hfz35_1,hfz35_2⟩:=cB3 BK308.out))
   go_ret
   exact ⟨by first|rfl|(simp [yt,yu] <;> rfl)|(simp [*,yt,yu] <;> rfl),by repeat (with_reducible first|exact HB.out|apply za|apply zb|apply zc|refine zd ?_ GE308.out|refine zd ?_ GE309.out)⟩
  rw [if_neg c31] at H;have c31b0 : (a0_1 == 0)=false:=zY.mpr c31;have c31b1 : (a0_1 != 0)=true:=zZ.mpr c31;obtain rfl:=zU H
  go_enter Tryd.func17,Tryd.ntmps17
  go_wp2_with (first|((with_reducible refine zK (N:=2) rfl ?_);(try (refine yz (by rfl) ?_;dsimp only));refine zI ?hg (N:=2) ?hd (cs:=#[.int .i64 a0_0,.int .i64 a0_1,.string a0_2]) (t:=27) ?hr ?_;(case hd|hg => rfl);(case hr => go_simp <;> rfl);intro gb308 hg w36 hbox hb;have BK308:=zh (hbox);have hH_:=cH (by repeat (with_reducible first|exact HB.out|apply za|apply zb|apply zc)) hb hg;have GW308:=zh hH_.1;have GE308:=GW308;replace HB:=zh hH_.2;clear hb hbox hg hH_)|((with_reducible refine zK (N:=3) rfl ?_);(try (refine yz (by rfl) ?_;dsimp only));refine zI ?hg (N:=3) ?hd (cs:=#[.int .i64 a1]) (t:=3) ?hr ?_;(case hd|hg => rfl);(case hr => go_simp <;> rfl);intro gb309 hg w37 hbox hb;have BK309:=zh (hbox);have hH_:=cH (by repeat (with_reducible first|exact HB.out|apply za|apply zb|apply zc|refine zd ?_ GE308.out)) hb hg;have GW309:=zh hH_.1;have GE309:=GW309;replace HB:=zh hH_.2;have NB308_309:=zh ((by rw [hg];exact yc (yi (g:=gb308) (o:=.cells #[.int .i64 a0_0,.int .i64 a0_1,.string a0_2] 27 (0,0)) (by (with_reducible repeat first|apply ze|apply zf|apply zg);exact BK308.out)) : gb308≠gb309));have NB309_308:=zh NB308_309.out.symm;replace BK308:=zh (cD BK308.out (by (with_reducible repeat first|apply ze|apply zf|apply zg);exact BK308.out) hb);clear hb hbox hg hH_;have hnb38:=NB308_309.out;have hnc38:=NB309_308.out;obtain ⟨hcz39_0,hcz39_1,hcz39_2,hfz39_0,hfz39_1,hfz39_2⟩:=cB3 BK308.out))
  go_ret
  exact ⟨by first|rfl|(simp [yt,yu] <;> rfl)|(simp [*,yt,yu] <;> rfl),by repeat (with_reducible first|exact HB.out|apply za|apply zb|apply zc|refine zd ?_ GE308.out|refine zd ?_ GE309.out)⟩
 rw [if_neg c30] at H;have c30b0 : (a0_0 == 3)=false:=zY.mpr c30;have c30b1 : (a0_0 != 3)=true:=zZ.mpr c30;have HC40:=zh H;clear H
 go_enter Tryd.func17,Tryd.ntmps17
 go_upto_if 45 with (first|((with_reducible refine zK (N:=2) rfl ?_);(try (refine yz (by rfl) ?_;dsimp only));refine zI ?hg (N:=2) ?hd (cs:=#[.int .i64 a0_0,.int .i64 a0_1,.string a0_2]) (t:=27) ?hr ?_;(case hd|hg => rfl);(case hr => go_simp <;> rfl);intro gb308 hg w41 hbox hb;have BK308:=zh (hbox);have hH_:=cH (by repeat (with_reducible first|exact HB.out|apply za|apply zb|apply zc)) hb hg;have GW308:=zh hH_.1;have GE308:=GW308;replace HB:=zh hH_.2;clear hb hbox hg hH_)|((with_reducible refine zK (N:=3) rfl ?_);(try (refine yz (by rfl) ?_;dsimp only));refine zI ?hg (N:=3) ?hd (cs:=#[.int .i64 a1]) (t:=3) ?hr ?_;(case hd|hg => rfl);(case hr => go_simp <;> rfl);intro gb309 hg w42 hbox hb;have BK309:=zh (hbox);have hH_:=cH (by repeat (with_reducible first|exact HB.out|apply za|apply zb|apply zc|refine zd ?_ GE308.out)) hb hg;have GW309:=zh hH_.1;have GE309:=GW309;replace HB:=zh hH_.2;have NB308_309:=zh ((by rw [hg];exact yc (yi (g:=gb308) (o:=.cells #[.int .i64 a0_0,.int .i64 a0_1,.string a0_2] 27 (0,0)) (by (with_reducible repeat first|apply ze|apply zf|apply zg);exact BK308.out)) : gb308≠gb309));have NB309_308:=zh NB308_309.out.symm;replace BK308:=zh (cD BK308.out (by (with_reducible repeat first|apply ze|apply zf|apply zg);exact BK308.out) hb);clear hb hbox hg hH_;have hnb43:=NB308_309.out;have hnc43:=NB309_308.out;obtain ⟨hcz44_0,hcz44_1,hcz44_2,hfz44_0,hfz44_1,hfz44_2⟩:=cB3 BK308.out))
 (try simp only [Act.put,zi,zj,zk])
 go_cut [45] (fun v45 wc => ∃ (kq : Nat) (x45_39 : Bool),v45 = .bool x45_39∧Aside0 (F4.j0 kq x45_39 a0_0 a0_1 a0_2 a1=some r)∧Aside0 (kq≤k)∧Aside0 (wc.heap[gb308]? = some (.cells #[.int .i64 a0_0,.int .i64 a0_1,.string a0_2] 27 (0,0)))∧Aside0 (wc.heap[gb309]? = some (.cells #[.int .i64 a1] 3 (0,0)))∧Aside0 (Below w.heap.size w wc))
 case first =>
  have H:=HC40.out;clear HC40
  by_cases c45 : a0_0=4
  ·
   rw [if_pos c45] at H
   have c45b0 : (a0_0 == 4)=true:=ya.mpr c45;have c45b1 : (a0_0 != 4)=false:=zX.mpr c45;clear c45;(first|rw [c45b0]|(simp only [zG,zH];rw [c45b0])|skip);have H':=zh H;clear H
   go_wp2
   go_meet
   case rel => exact ⟨_,((a0_0 == 4)),(by first|rfl|(simp;done)|(simp [*];done)),H',⟨by first|omega|exact ye _⟩,⟨by (with_reducible repeat first|apply ze|apply zf|apply zg);exact BK308.out⟩,⟨by (with_reducible repeat first|apply ze|apply zf|apply zg);exact BK309.out⟩,⟨by repeat (with_reducible first|exact HB.out|apply za|apply zb|apply zc|refine zd ?_ GE308.out|refine zd ?_ GE309.out)⟩⟩
  rw [if_neg c45] at H;have c45b0 : (a0_0 == 4)=false:=zY.mpr c45;have c45b1 : (a0_0 != 4)=true:=zZ.mpr c45;(first|rw [c45b0]|(simp only [zG,zH];rw [c45b0])|skip);have H':=zh H;clear H
  go_wp2
  go_meet
  case rel => exact ⟨_,((a0_0 == 5)),(by first|rfl|(simp;done)|(simp [*];done)),H',⟨by first|omega|exact ye _⟩,⟨by (with_reducible repeat first|apply ze|apply zf|apply zg);exact BK308.out⟩,⟨by (with_reducible repeat first|apply ze|apply zf|apply zg);exact BK309.out⟩,⟨by repeat (with_reducible first|exact HB.out|apply za|apply zb|apply zc|refine zd ?_ GE308.out|refine zd ?_ GE309.out)⟩⟩
 case rest =>
  clear HC40
  try clear c1 c2
  try clear p2
  try clear c3 c3b0 c3b1 c4 c6 c8 c8b0 c8b1 c10 c13 c17 c19 c19b0 c19b1 c21 c24 c26 c27 c28 c30 c30b0 c30b1 c31 c31b0 c31b1 c34 c38 c43 c45 c45b0 c45b1
  try clear hcz14_0 hcz14_1 hcz14_2
  try clear hcz18_0 hcz18_1 hcz18_2
  try clear hcz25_0 hcz25_1 hcz25_2
  try clear hcz29_0 hcz29_1 hcz29_2
  try clear hcz35_0 hcz35_1 hcz35_2
  try clear hcz39_0 hcz39_1 hcz39_2
  try clear hcz44_0 hcz44_1 hcz44_2
  try clear hcz7_0 hcz7_1 hcz7_2
  try clear hfz14_0 hfz14_1 hfz14_2
  try clear hfz18_0 hfz18_1 hfz18_2
  try clear hfz25_0 hfz25_1 hfz25_2
  try clear hfz29_0 hfz29_1 hfz29_2
  try clear hfz35_0 hfz35_1 hfz35_2
  try clear hfz39_0 hfz39_1 hfz39_2
  try clear hfz44_0 hfz44_1 hfz44_2
  try clear hfz7_0 hfz7_1 hfz7_2
  obtain ⟨kq,x45_39,rfl,HA,HJ39,BK308,BK309,HB⟩:=hcut
  cases kq with
  | zero => exact absurd HA.out (by simp [F4.j0])
  | succ kj39 =>
   have H:=HA.out;clear HA;simp only [F4.j0] at H
   by_cases c46 : x45_39=true
   ·
    subst c46
    have H1 : ((F6.f kj39 a0_0 a0_1 a0_2).bind fun bt312 => (if a0_1=0 then (if (a0_2.size : Int)≤300 then (if a1 > 0 then (if bt312.2=true then ((Fa.f kj39 (F4.f kj39) bt312.1 a1).bind fun t316 => (some (!t316))) else (some false)) else (some false)) else (some false)) else (some false)))=some r:=by rw [if_pos rfl] at H;exact H
    clear H;have H:=H1;clear H1;replace H:=zT.mp H;obtain ⟨⟨t312,t315⟩,A470,H⟩:=H;replace H : (if a0_1=0 then (if (a0_2.size : Int)≤300 then (if a1 > 0 then (if t315=true then ((Fa.f kj39 (F4.f kj39) t312 a1).bind fun t316 => (some (!t316))) else (some false)) else (some false)) else (some false)) else (some false))=some r:=H;have A47:=zh A470;clear A470
    by_cases c48 : a0_1=0
    ·
     rw [if_pos c48] at H
     have c48b0 : (a0_1 == 0)=true:=ya.mpr c48;have c48b1 : (a0_1 != 0)=false:=zX.mpr c48;clear c48
     by_cases c49 : (a0_2.size : Int)≤300
     ·
      rw [if_pos c49] at H
      have c49b0 : decide ((a0_2.size : Int)≤300)=true:=decide_eq_true c49;have c49b1 : decide (a0_2.size≤300)=true:=decide_eq_true (by omega);clear c49
      by_cases c50 : a1 > 0
      ·
       rw [if_pos c50] at H
       have c50b0 : decide (0<a1)=true:=decide_eq_true c50;clear c50
       by_cases c51 : t315=true
       ·
        subst c51
        have H1 : ((Fa.f kj39 (F4.f kj39) t312 a1).bind fun t316 => (some (!t316)))=some r:=by rw [if_pos rfl] at H;exact H
        clear H;have H:=H1;clear H1;replace H:=zT.mp H;obtain ⟨t316,A520,H⟩:=H;replace H : (some (!t316))=some r:=H;have A52:=zh A520;clear A520;obtain rfl:=zU H;have hnb53:=NB308_309.out;have hnc53:=NB309_308.out;obtain ⟨hcz54_0,hcz54_1,hcz54_2,hfz54_0,hfz54_1,hfz54_2⟩:=cB3 BK308.out
        go_wp2_with (first|((with_reducible refine zJ (f:=28) rfl ?_);refine yj (some 50) rfl rfl Tryd.func28 (by kernel_rfl) rfl #[.agg #[.int .i64 a0_0,.int .i64 a0_1,.string a0_2]] rfl (by (try simp only [zt,zu,zv]);first|done|rfl|(simp only [zw,zx];rfl)|(simp only [yr,ys,zV,zW];rfl)) ?_;(with_reducible refine (F6.calls kj39  a0_0 a0_1 a0_2 t312 true _ A47.out).mono ?_);rintro e w55 ⟨v313,rfl,ho0,hb⟩;refine ⟨_,rfl,?_⟩;have HO314:=zh (yy (Kd.R_newB ho0 (g:=gb308) (o:=.cells #[.int .i64 a0_0,.int .i64 a0_1,.string a0_2] 27 (0,0)) (by (with_reducible repeat first|apply ze|apply zf|apply zg);exact BK308.out)) (zB (by repeat (with_reducible first|exact HB.out|apply za|apply zb|apply zc|refine zd ?_ GE308.out|refine zd ?_ GE309.out))));replace BK308:=zh (cD BK308.out (by (with_reducible repeat first|apply ze|apply zf|apply zg);exact BK308.out) hb);replace BK309:=zh (cD BK309.out (by (with_reducible repeat first|apply ze|apply zf|apply zg);exact BK309.out) hb);replace HB:=zh (zC (by repeat (with_reducible first|exact HB.out|apply za|apply zb|apply zc|refine zd ?_ GE308.out|refine zd ?_ GE309.out)) hb);(try clear hb);(try clear hb2);(try clear hk);(try clear hi);(try clear ho0);obtain ⟨hcz56_0,hcz56_1,hcz56_2,hfz56_0,hfz56_1,hfz56_2⟩:=cB3 BK308.out;obtain ⟨hcz57_0,hfz57_0⟩:=cB1 BK309.out;obtain ⟨Ao58,co58,eo58⟩:=yk HO314.out;subst eo58)|(go_at_call 29;(with_reducible refine (Fa.calls kj39 (F4.f kj39) (ih kj39 (by have:=HJ39.out;omega)) _ _ t312 gb309 a1 t316 _ ?side1 ?side2 ?side3 A52.out).mono ?_);(case side1 => repeat (first|exact (yh HO314.out).2.2|(with_reducible refine Kd.C_alloc ?_ _)|(with_reducible refine Kd.C_drewN ?_ _)|(with_reducible refine Kd.C_drew ?_)));(case side2 => exact (yh HO314.out).2.1);(case side3 => (with_reducible repeat first|apply ze|apply zf|apply zg);exact BK309.out);rintro e w59 ⟨rfl,hb⟩;replace HO314:=zh (yg (by (with_reducible repeat (first|apply zm|apply zn|apply zo));exact HO314.out) hb);replace BK308:=zh (cD BK308.out (by (with_reducible repeat first|apply ze|apply zf|apply zg);exact BK308.out) hb);replace BK309:=zh (cD BK309.out (by (with_reducible repeat first|apply ze|apply zf|apply zg);exact BK309.out) hb);replace HB:=zh (zC (by repeat (with_reducible first|exact HB.out|apply za|apply zb|apply zc|refine zd ?_ GE308.out|refine zd ?_ GE309.out)) hb);(try clear hb);(try clear hb2);(try clear hk);(try clear hi)))
        go_ret
        exact ⟨by first|rfl|(simp [yt,yu] <;> rfl)|(simp [*,yt,yu] <;> rfl),by repeat (with_reducible first|exact HB.out|apply za|apply zb|apply zc|refine zd ?_ GE308.out|refine zd ?_ GE309.out)⟩
       replace c51:=yb.mpr c51;subst c51;have H1 : (some false)=some r:=by rw [if_neg (show ¬ (false=true) by decide)] at H;exact H
       clear H;have H:=H1;clear H1;obtain rfl:=zU H;have hnb60:=NB308_309.out;have hnc60:=NB309_308.out;obtain ⟨hcz61_0,hcz61_1,hcz61_2,hfz61_0,hfz61_1,hfz61_2⟩:=cB3 BK308.out
       go_wp2_with (first|((with_reducible refine zJ (f:=28) rfl ?_);refine yj (some 50) rfl rfl Tryd.func28 (by kernel_rfl) rfl #[.agg #[.int .i64 a0_0,.int .i64 a0_1,.string a0_2]] rfl (by (try simp only [zt,zu,zv]);first|done|rfl|(simp only [zw,zx];rfl)|(simp only [yr,ys,zV,zW];rfl)) ?_;(with_reducible refine (F6.calls kj39  a0_0 a0_1 a0_2 t312 false _ A47.out).mono ?_);rintro e w62 ⟨v313,rfl,ho0,hb⟩;refine ⟨_,rfl,?_⟩;have HO314:=zh (yy (Kd.R_newB ho0 (g:=gb308) (o:=.cells #[.int .i64 a0_0,.int .i64 a0_1,.string a0_2] 27 (0,0)) (by (with_reducible repeat first|apply ze|apply zf|apply zg);exact BK308.out)) (zB (by repeat (with_reducible first|exact HB.out|apply za|apply zb|apply zc|refine zd ?_ GE308.out|refine zd ?_ GE309.out))));replace BK308:=zh (cD BK308.out (by (with_reducible repeat first|apply ze|apply zf|apply zg);exact BK308.out) hb);replace BK309:=zh (cD BK309.out (by (with_reducible repeat first|apply ze|apply zf|apply zg);exact BK309.out) hb);replace HB:=zh (zC (by repeat (with_reducible first|exact HB.out|apply za|apply zb|apply zc|refine zd ?_ GE308.out|refine zd ?_ GE309.out)) hb);(try clear hb);(try clear hb2);(try clear hk);(try clear hi);(try clear ho0);obtain ⟨hcz63_0,hcz63_1,hcz63_2,hfz63_0,hfz63_1,hfz63_2⟩:=cB3 BK308.out;obtain ⟨hcz64_0,hfz64_0⟩:=cB1 BK309.out))
       go_ret
       exact ⟨by first|rfl|(simp [yt,yu] <;> rfl)|(simp [*,yt,yu] <;> rfl),by repeat (with_reducible first|exact HB.out|apply za|apply zb|apply zc|refine zd ?_ GE308.out|refine zd ?_ GE309.out)⟩
      rw [if_neg c50] at H;have c50b0 : decide (0<a1)=false:=decide_eq_false c50;clear c50;obtain rfl:=zU H;have hnb65:=NB308_309.out;have hnc65:=NB309_308.out;obtain ⟨hcz66_0,hcz66_1,hcz66_2,hfz66_0,hfz66_1,hfz66_2⟩:=cB3 BK308.out
      go_wp2_with (first|((with_reducible refine zJ (f:=28) rfl ?_);refine yj (some 50) rfl rfl Tryd.func28 (by kernel_rfl) rfl #[.agg #[.int .i64 a0_0,.int .i64 a0_1,.string a0_2]] rfl (by (try simp only [zt,zu,zv]);first|done|rfl|(simp only [zw,zx];rfl)|(simp only [yr,ys,zV,zW];rfl)) ?_;(with_reducible refine (F6.calls kj39  a0_0 a0_1 a0_2 t312 t315 _ A47.out).mono ?_);rintro e w67 ⟨v313,rfl,ho0,hb⟩;refine ⟨_,rfl,?_⟩;have HO314:=zh (yy (Kd.R_newB ho0 (g:=gb308) (o:=.cells #[.int .i64 a0_0,.int .i64 a0_1,.string a0_2] 27 (0,0)) (by (with_reducible repeat first|apply ze|apply zf|apply zg);exact BK308.out)) (zB (by repeat (with_reducible first|exact HB.out|apply za|apply zb|apply zc|refine zd ?_ GE308.out|refine zd ?_ GE309.out))));replace BK308:=zh (cD BK308.out (by (with_reducible repeat first|apply ze|apply zf|apply zg);exact BK308.out) hb);replace BK309:=zh (cD BK309.out (by (with_reducible repeat first|apply ze|apply zf|apply zg);exact BK309.out) hb);replace HB:=zh (zC (by repeat (with_reducible first|exact HB.out|apply za|apply zb|apply zc|refine zd ?_ GE308.out|refine zd ?_ GE309.out)) hb);(try clear hb);(try clear hb2);(try clear hk);(try clear hi);(try clear ho0);obtain ⟨hcz68_0,hcz68_1,hcz68_2,hfz68_0,hfz68_1,hfz68_2⟩:=cB3 BK308.out;obtain ⟨hcz69_0,hfz69_0⟩:=cB1 BK309.out))
      go_ret
      exact ⟨by first|rfl|(simp [yt,yu] <;> rfl)|(simp [*,yt,yu] <;> rfl),by repeat (with_reducible first|exact HB.out|apply za|apply zb|apply zc|refine zd ?_ GE308.out|refine zd ?_ GE309.out)⟩
     rw [if_neg c49] at H;have c49b0 : decide ((a0_2.size : Int)≤300)=false:=decide_eq_false c49;have c49b1 : decide (a0_2.size≤300)=false:=decide_eq_false (by omega);clear c49;obtain rfl:=zU H;have hnb70:=NB308_309.out;have hnc70:=NB309_308.out;obtain ⟨hcz71_0,hcz71_1,hcz71_2,hfz71_0,hfz71_1,hfz71_2⟩:=cB3 BK308.out
     go_wp2_with (first|((with_reducible refine zJ (f:=28) rfl ?_);refine yj (some 50) rfl rfl Tryd.func28 (by kernel_rfl) rfl #[.agg #[.int .i64 a0_0,.int .i64 a0_1,.string a0_2]] rfl (by (try simp only [zt,zu,zv]);first|done|rfl|(simp only [zw,zx];rfl)|(simp only [yr,ys,zV,zW];rfl)) ?_;(with_reducible refine (F6.calls kj39  a0_0 a0_1 a0_2 t312 t315 _ A47.out).mono ?_);rintro e w72 ⟨v313,rfl,ho0,hb⟩;refine ⟨_,rfl,?_⟩;have HO314:=zh (yy (Kd.R_newB ho0 (g:=gb308) (o:=.cells #[.int .i64 a0_0,.int .i64 a0_1,.string a0_2] 27 (0,0)) (by (with_reducible repeat first|apply ze|apply zf|apply zg);exact BK308.out)) (zB (by repeat (with_reducible first|exact HB.out|apply za|apply zb|apply zc|refine zd ?_ GE308.out|refine zd ?_ GE309.out))));replace BK308:=zh (cD BK308.out (by (with_reducible repeat first|apply ze|apply zf|apply zg);exact BK308.out) hb);replace BK309:=zh (cD BK309.out (by (with_reducible repeat first|apply ze|apply zf|apply zg);exact BK309.out) hb);replace HB:=zh (zC (by repeat (with_reducible first|exact HB.out|apply za|apply zb|apply zc|refine zd ?_ GE308.out|refine zd ?_ GE309.out)) hb);(try clear hb);(try clear hb2);(try clear hk);(try clear hi);(try clear ho0);obtain ⟨hcz73_0,hcz73_1,hcz73_2,hfz73_0,hfz73_1,hfz73_2⟩:=cB3 BK308.out))
     go_ret
     exact ⟨by first|rfl|(simp [yt,yu] <;> rfl)|(simp [*,yt,yu] <;> rfl),by repeat (with_reducible first|exact HB.out|apply za|apply zb|apply zc|refine zd ?_ GE308.out|refine zd ?_ GE309.out)⟩
    rw [if_neg c48] at H;have c48b0 : (a0_1 == 0)=false:=zY.mpr c48;have c48b1 : (a0_1 != 0)=true:=zZ.mpr c48;obtain rfl:=zU H;have hnb74:=NB308_309.out;have hnc74:=NB309_308.out;obtain ⟨hcz75_0,hcz75_1,hcz75_2,hfz75_0,hfz75_1,hfz75_2⟩:=cB3 BK308.out
    go_wp2_with (first|((with_reducible refine zJ (f:=28) rfl ?_);refine yj (some 50) rfl rfl Tryd.func28 (by kernel_rfl) rfl #[.agg #[.int .i64 a0_0,.int .i64 a0_1,.string a0_2]] rfl (by (try simp only [zt,zu,zv]);first|done|rfl|(simp only [zw,zx];rfl)|(simp only [yr,ys,zV,zW];rfl)) ?_;(with_reducible refine (F6.calls kj39  a0_0 a0_1 a0_2 t312 t315 _ A47.out).mono ?_);rintro e w76 ⟨v313,rfl,ho0,hb⟩;refine ⟨_,rfl,?_⟩;have HO314:=zh (yy (Kd.R_newB ho0 (g:=gb308) (o:=.cells #[.int .i64 a0_0,.int .i64 a0_1,.string a0_2] 27 (0,0)) (by (with_reducible repeat first|apply ze|apply zf|apply zg);exact BK308.out)) (zB (by repeat (with_reducible first|exact HB.out|apply za|apply zb|apply zc|refine zd ?_ GE308.out|refine zd ?_ GE309.out))));replace BK308:=zh (cD BK308.out (by (with_reducible repeat first|apply ze|apply zf|apply zg);exact BK308.out) hb);replace BK309:=zh (cD BK309.out (by (with_reducible repeat first|apply ze|apply zf|apply zg);exact BK309.out) hb);replace HB:=zh (zC (by repeat (with_reducible first|exact HB.out|apply za|apply zb|apply zc|refine zd ?_ GE308.out|refine zd ?_ GE309.out)) hb);(try clear hb);(try clear hb2);(try clear hk);(try clear hi);(try clear ho0);obtain ⟨hcz77_0,hcz77_1,hcz77_2,hfz77_0,hfz77_1,hfz77_2⟩:=cB3 BK308.out))
    go_ret
    exact ⟨by first|rfl|(simp [yt,yu] <;> rfl)|(simp [*,yt,yu] <;> rfl),by repeat (with_reducible first|exact HB.out|apply za|apply zb|apply zc|refine zd ?_ GE308.out|refine zd ?_ GE309.out)⟩
   replace c46:=yb.mpr c46;subst c46;have H1 : (some false)=some r:=by rw [if_neg (show ¬ (false=true) by decide)] at H;exact H
   clear H;have H:=H1;clear H1;obtain rfl:=zU H
   go_wp2
   go_ret
   exact ⟨by first|rfl|(simp [yt,yu] <;> rfl)|(simp [*,yt,yu] <;> rfl),by repeat (with_reducible first|exact HB.out|apply za|apply zb|apply zc|refine zd ?_ GE308.out|refine zd ?_ GE309.out)⟩

end Go.Proofs.YtjaknpeeopkojaaDoor.Q
end
section
namespace Go.Proofs.YtjaknpeeopkojaaDoor.Q
open Go.RowKit Go.Proofs.YtjaknpeeopkojaaDoorW.PrintWords Go.Proofs.YtjaknpeeopkojaaDoorW.PrintLast Go.Proofs.YtjaknpeeopkojaaDoorW.PrintMore
attribute [local go_sem] max2_int min2_int max_two min_two max_three min_three max_four min_four max2_str min2_str str_geq str_gtr str_leq
set_option linter.unusedVariables false
set_option linter.unusedSimpArgs false

def Fr.f (k : Nat) (a0_0 : Int) (a0_1 : Int) (a0_2 : ByteArray) : Option (Bool):=(F4.f k a0_0 a0_1 a0_2 5).bind fun t318 => (some t318)
theorem Fr.mono : ∀ a0 a1 a2 k,LeO (Fr.f k a0 a1 a2) (Fr.f (k + 1) a0 a1 a2):=by
 intro a0 a1 a2 k;unfold Fr.f
 repeat' first|(with_reducible first|exact F4.mono _ _ _ _ _|exact zQ _|exact zN _|refine zP ?_ ?_|refine zO ?_ (fun _ => ?_))|refine zP ?_ ?_|refine zO ?_ (fun _ => ?_)
set_option maxHeartbeats 8000000 in
set_option maxRecDepth 100000 in
theorem Fr.calls (k : Nat) (a0_0 : Int) (a0_1 : Int) (a0_2 : ByteArray) (r : Bool) (w : World) (h : Fr.f k a0_0 a0_1 a0_2=some r) :
  Calls Tryd.prog 10 #[.agg #[.int .i64 a0_0,.int .i64 a0_1,.string a0_2]] w fun e w' => e = .returned (.bool r)∧Below w.heap.size w w':=by
 have hu27:=Tryd.underlying27;have HB:=zh (Below.refl w.heap.size w);have H : ((F4.f k a0_0 a0_1 a0_2 5).bind fun t318 => (some t318))=some r:=h;clear h;replace H:=zT.mp H;obtain ⟨t318,A20,H⟩:=H;replace H : (some t318)=some r:=H;have A2:=zh A20;clear A20;obtain rfl:=zU H
 go_enter Tryd.func10,Tryd.ntmps10
 go_wp2_with (first|((with_reducible refine zK (N:=1) rfl ?_);refine zI ?hg (N:=1) ?hd (cs:=#[.int .i64 a0_0,.int .i64 a0_1,.string a0_2]) (t:=27) ?hr ?_;(case hd|hg => rfl);(case hr => go_simp <;> rfl);intro gb317 hg w3 hbox hb;have BK317:=zh (hbox);have hH_:=cH (by repeat (with_reducible first|exact HB.out|apply za|apply zb|apply zc)) hb hg;have GW317:=zh hH_.1;have GE317:=GW317;replace HB:=zh hH_.2;clear hb hbox hg hH_;obtain ⟨hcz4_0,hcz4_1,hcz4_2,hfz4_0,hfz4_1,hfz4_2⟩:=cB3 BK317.out)|((with_reducible refine zJ (f:=17) rfl ?_);refine yj (some 4) rfl rfl Tryd.func17 (by kernel_rfl) rfl #[.agg #[.int .i64 a0_0,.int .i64 a0_1,.string a0_2],.int .i64 5] rfl (by (try simp only [zt,zu,zv]);first|done|rfl|(simp only [zw,zx];rfl)|(simp only [yr,ys,zV,zW];rfl)) ?_;(with_reducible refine (F4.calls k  a0_0 a0_1 a0_2 5 t318 _ A2.out).mono ?_);rintro e w5 ⟨rfl,hb⟩;refine ⟨_,rfl,?_⟩;replace BK317:=zh (cD BK317.out (by (with_reducible repeat first|apply ze|apply zf|apply zg);exact BK317.out) hb);replace HB:=zh (zC (by repeat (with_reducible first|exact HB.out|apply za|apply zb|apply zc|refine zd ?_ GE317.out)) hb);(try clear hb);(try clear hb2);(try clear hk);(try clear hi)))
 go_ret
 exact ⟨by first|rfl|(simp [yt,yu] <;> rfl)|(simp [*,yt,yu] <;> rfl),by repeat (with_reducible first|exact HB.out|apply za|apply zb|apply zc|refine zd ?_ GE317.out)⟩


def strconv_FormatBool_31.f (a0 : Bool) : Option (ByteArray):=if a0=true then (some (⟨#[116,114,117,101]⟩ : ByteArray)) else (some (⟨#[102,97,108,115,101]⟩ : ByteArray))
set_option maxHeartbeats 8000000 in
set_option maxRecDepth 100000 in
theorem strconv_FormatBool_31.calls (a0 : Bool) (r : ByteArray) (w : World) (h : strconv_FormatBool_31.f a0=some r) :
  Calls Tryd.prog 31 #[.bool a0] w fun e w' => e = .returned (.string r)∧Drawn0 w w':=by
 have H : (if a0=true then (some (⟨#[116,114,117,101]⟩ : ByteArray)) else (some (⟨#[102,97,108,115,101]⟩ : ByteArray)))=some r:=h;clear h
 by_cases c2 : a0=true
 ·
  subst c2
  have H1 : (some (⟨#[116,114,117,101]⟩ : ByteArray))=some r:=by rw [if_pos rfl] at H;exact H
  clear H;have H:=H1;clear H1;obtain rfl:=zU H
  go_enter Tryd.func31,Tryd.ntmps31
  go_wp2
  go_ret
  exact ⟨by first|rfl|(simp;done)|(simp [*];done),by repeat (first|exact yp _|apply yq)⟩
 replace c2:=yb.mpr c2;subst c2;have H1 : (some (⟨#[102,97,108,115,101]⟩ : ByteArray))=some r:=by rw [if_neg (show ¬ (false=true) by decide)] at H;exact H
 clear H;have H:=H1;clear H1;obtain rfl:=zU H
 go_enter Tryd.func31,Tryd.ntmps31
 go_wp2
 go_ret
 exact ⟨by first|rfl|(simp;done)|(simp [*];done),by repeat (first|exact yp _|apply yq)⟩


def strconv_FormatBool_18.f (a0 : Bool) : Option (ByteArray):=(strconv_FormatBool_31.f a0).bind fun t319 => (some t319)
set_option maxHeartbeats 8000000 in
set_option maxRecDepth 100000 in
theorem strconv_FormatBool_18.calls (a0 : Bool) (r : ByteArray) (w : World) (h : strconv_FormatBool_18.f a0=some r) :
  Calls Tryd.prog 18 #[.bool a0] w fun e w' => e = .returned (.string r)∧Drawn0 w w':=by
 have H : ((strconv_FormatBool_31.f a0).bind fun t319 => (some t319))=some r:=h;clear h;replace H:=zT.mp H;obtain ⟨t319,A20,H⟩:=H;replace H : (some t319)=some r:=H;have A2:=zh A20;clear A20;obtain rfl:=zU H
 go_enter Tryd.func18,Tryd.ntmps18
 go_wp2_with (first|((with_reducible refine zJ (f:=31) rfl ?_);refine yj (some 4) rfl rfl Tryd.func31 (by kernel_rfl) rfl #[.bool a0] rfl (by (try simp only [zt,zu,zv]);first|done|rfl|(simp only [zw,zx];rfl)|(simp only [yr,ys,zV,zW];rfl)) ?_;(with_reducible refine (strconv_FormatBool_31.calls  a0 t319 _ A2.out).mono ?_);rintro e w' ⟨rfl,⟨nd,rfl⟩⟩;refine ⟨_,rfl,?_⟩))
 go_ret
 exact ⟨by first|rfl|(simp;done)|(simp [*];done),by repeat (first|exact yp _|apply yq)⟩


def strconv_Itoa_19.f (a0 : Int) : Option (ByteArray):=if -9223372036854775808≤a0 then (if a0≤9223372036854775807 then (some ⟨(Lib.itoa a0).toArray⟩) else (none)) else (none)
theorem strconv_Itoa_19.calls (a0 : Int) (r : ByteArray) (w : World) (h : strconv_Itoa_19.f a0=some r) (htab_ : Pow10 w) :
  Calls Tryd.prog 19 #[.int .i64 a0] w fun e w' => e = .returned (.string r)∧Below w.heap.size w w':=by
 unfold strconv_Itoa_19.f at h
 by_cases h0 : -9223372036854775808≤a0
 ·
  rw [if_pos h0] at h
  by_cases h1 : a0≤9223372036854775807
  ·
   rw [if_pos h1] at h
   obtain rfl:=zU h;exact itoa_below a0 h0 h1 w htab_
  rw [if_neg h1] at h;exact absurd h (by simp)
 rw [if_neg h0] at h;exact absurd h (by simp)


def strings_Join.f (l0 : List ByteArray) (a1 : ByteArray) : Option (ByteArray):=if l0.length≤140737488355328 then (if (Lib.join (l0.map (·.data.toList)) a1.data.toList).length≤140737488355328 then (some ⟨(Lib.join (l0.map (·.data.toList)) a1.data.toList).toArray⟩) else (none)) else (none)
theorem strings_Join.calls (A0 : Option Addr) (c0 : Nat) (l0 : List ByteArray) (a1 : ByteArray) (r : ByteArray) (w : World) (hr0 : Kd.C Kd.string w A0 l0.length l0) (hc0 : l0.length≤c0) (h : strings_Join.f l0 a1=some r) :
  Calls Tryd.prog 21 #[.slice A0 l0.length c0,.string a1] w fun e w' => e = .returned (.string r)∧Below w.heap.size w w':=by
 unfold strings_Join.f at h
 by_cases h0 : l0.length≤140737488355328
 ·
  rw [if_pos h0] at h
  by_cases h1 : (Lib.join (l0.map (·.data.toList)) a1.data.toList).length≤140737488355328
  ·
   rw [if_pos h1] at h
   obtain rfl:=zU h;exact join_row A0 c0 l0 a1 w hr0 hc0 h0 h1
  rw [if_neg h1] at h;exact absurd h (by simp)
 rw [if_neg h0] at h;exact absurd h (by simp)

end Go.Proofs.YtjaknpeeopkojaaDoor.Q
end
section
namespace Go.Proofs.YtjaknpeeopkojaaDoor.Q
open Go.RowKit Go.Proofs.YtjaknpeeopkojaaDoorW.PrintWords Go.Proofs.YtjaknpeeopkojaaDoorW.PrintLast Go.Proofs.YtjaknpeeopkojaaDoorW.PrintMore
attribute [local go_sem] max2_int min2_int max_two min_two max_three min_three max_four min_four max2_str min2_str str_geq str_gtr str_leq   -- for this text's walks alone
set_option linter.unusedVariables false
set_option linter.unusedSimpArgs false

mutual
def F2.l0 : Nat→List ByteArray→List (S27)→Int→Int→Option (ByteArray)
 | 0,_,_,_,_ => none
 | k + 1,x3,x41,x42,x43 => if x43<x42 then (if 0≤x43 then (if x43<(x41.length : Int) then ((F2.f k ((rd_T27 x41 x43).f0) ((rd_T27 x41 x43).f1) ((rd_T27 x41 x43).f2)).bind fun t332 => (if x3.length<8796093022208 then (F2.l0 k (x3 ++ [t332]) x41 x42 (wrap64 (x43 + 1))) else (none))) else (none)) else (none)) else ((strings_Join.f x3 (⟨#[44]⟩ : ByteArray)).bind fun t336 => (if 1 + t336.size≤9223372036854775807 then (if ((⟨#[91]⟩ : ByteArray) ++ t336).size + 1≤9223372036854775807 then (some (((⟨#[91]⟩ : ByteArray) ++ t336) ++ (⟨#[93]⟩ : ByteArray))) else (none)) else (none)))
def F2.l1 : Nat→List ByteArray→List (S43)→Int→Int→Option (ByteArray)
 | 0,_,_,_,_ => none
 | k + 1,x3,x62,x63,x64 => if x64<x63 then (if 0≤x64 then (if x64<(x62.length : Int) then (if ((rd_T43 x62 x64).f0).size + 1≤9223372036854775807 then ((F2.f k ((rd_T43 x62 x64).f1.f0) ((rd_T43 x62 x64).f1.f1) ((rd_T43 x62 x64).f1.f2)).bind fun t343 => (if (((rd_T43 x62 x64).f0) ++ (⟨#[58]⟩ : ByteArray)).size + t343.size≤9223372036854775807 then (if x3.length<8796093022208 then (F2.l1 k (x3 ++ [(((rd_T43 x62 x64).f0) ++ (⟨#[58]⟩ : ByteArray)) ++ t343]) x62 x63 (wrap64 (x64 + 1))) else (none)) else (none))) else (none)) else (none)) else (none)) else ((strings_Join.f x3 (⟨#[44]⟩ : ByteArray)).bind fun t347 => (if 1 + t347.size≤9223372036854775807 then (if ((⟨#[123]⟩ : ByteArray) ++ t347).size + 1≤9223372036854775807 then (some (((⟨#[123]⟩ : ByteArray) ++ t347) ++ (⟨#[125]⟩ : ByteArray))) else (none)) else (none)))
def F2.f : Nat→Int→Int→ByteArray→Option (ByteArray)
 | 0,_,_,_ => none
 | k + 1,a0_0,a0_1,a0_2 => (some (([] : List ByteArray) : List ByteArray)).bind fun y321 => (if a0_0=0 then (some (⟨#[110,117,108,108]⟩ : ByteArray)) else (if a0_0=1 then ((strconv_FormatBool_18.f (a0_1 == 1)).bind fun t324 => (some t324)) else (if a0_0=2 then ((strconv_Itoa_19.f a0_1).bind fun t325 => (some t325)) else (if a0_0=3 then (if 1 + a0_2.size≤9223372036854775807 then (if ((⟨#[39]⟩ : ByteArray) ++ a0_2).size + 1≤9223372036854775807 then (some (((⟨#[39]⟩ : ByteArray) ++ a0_2) ++ (⟨#[39]⟩ : ByteArray))) else (none)) else (none)) else (if a0_0=4 then ((F8.f k a0_0 a0_1 a0_2).bind fun bt326 => (F2.l0 k y321 bt326.1 (bt326.1.length : Int) 0)) else ((F5.f k a0_0 a0_1 a0_2).bind fun bt337 => (F2.l1 k y321 bt337.1 (bt337.1.length : Int) 0)))))))
end
theorem F2.mono_l : ∀ k,(∀ y0 y1 y2,LeO (F2.f k y0 y1 y2) (F2.f (k + 1) y0 y1 y2))∧(∀ y0 y1 y2 y3,LeO (F2.l0 k y0 y1 y2 y3) (F2.l0 (k + 1) y0 y1 y2 y3))∧(∀ y0 y1 y2 y3,LeO (F2.l1 k y0 y1 y2 y3) (F2.l1 (k + 1) y0 y1 y2 y3))
 | 0 => ⟨fun _ _ _ r h => by simp [F2.f] at h,fun _ _ _ _ r h => by simp [F2.l0] at h,fun _ _ _ _ r h => by simp [F2.l1] at h⟩
 | k + 1 => by
  obtain ⟨ih0,ih1,ih2⟩:=F2.mono_l k;refine ⟨?_,?_,?_⟩
  ·
   intro y0 y1 y2
   unfold F2.f
   repeat' first|(with_reducible first|exact ih0 _ _ _|exact ih1 _ _ _ _|exact ih2 _ _ _ _|exact F8.mono _ _ _ _|exact F5.mono _ _ _ _|exact zQ _|exact zN _|refine zP ?_ ?_|refine zO ?_ (fun _ => ?_))|refine zP ?_ ?_|refine zO ?_ (fun _ => ?_)
  ·
   intro y0 y1 y2 y3
   unfold F2.l0
   repeat' first|(with_reducible first|exact ih0 _ _ _|exact ih1 _ _ _ _|exact ih2 _ _ _ _|exact F8.mono _ _ _ _|exact F5.mono _ _ _ _|exact zQ _|exact zN _|refine zP ?_ ?_|refine zO ?_ (fun _ => ?_))|refine zP ?_ ?_|refine zO ?_ (fun _ => ?_)
  intro y0 y1 y2 y3;unfold F2.l1
  repeat' first|(with_reducible first|exact ih0 _ _ _|exact ih1 _ _ _ _|exact ih2 _ _ _ _|exact F8.mono _ _ _ _|exact F5.mono _ _ _ _|exact zQ _|exact zN _|refine zP ?_ ?_|refine zO ?_ (fun _ => ?_))|refine zP ?_ ?_|refine zO ?_ (fun _ => ?_)
theorem F2.mono : ∀ a0 a1 a2 k,LeO (F2.f k a0 a1 a2) (F2.f (k + 1) a0 a1 a2):=by
 intro a0 a1 a2 k;obtain ⟨ih0,ih1,ih2⟩:=F2.mono_l k;exact ih0 a0 a1 a2
def F2.T23 : Bool×List (List Nat×List Nat):=(true,[([],[]),([],[]),([1],[1]),([2],[2]),([],[]),([4],[4]),([5],[5]),([3,6],[3,6]),([7],[7]),([0,8,6],[0,8]),([9,9,0,1,2,3,4,5,6,7,8,9],[0,9])])
def F2.B23 : List Nat:=[0,0,2,6,0,16,48,126,254,511,1023]
theorem F2.tab23 : rtab .any (opsOf Tryd.f11 23)=F2.T23:=by kernel_rfl
theorem F2.bits23 : waitsOk F2.T23.2 F2.B23=true:=by kernel_rfl
set_option maxHeartbeats 8000000 in
set_option maxRecDepth 100000 in
theorem F2.calls (k : Nat) : ∀ (a0_0 : Int) (a0_1 : Int) (a0_2 : ByteArray) (r : ByteArray) (w : World) (h : F2.f k a0_0 a0_1 a0_2=some r) (htab0_ : Pow10 w),
  Calls Tryd.prog 11 #[.agg #[.int .i64 a0_0,.int .i64 a0_1,.string a0_2]] w fun e w' => e = .returned (.string r)∧Below w.heap.size w w':=by
 induction k using Nat.strongRecOn with
 | _ k ih =>
 intro a0_0 a0_1 a0_2 r w h htab0_;have htab_:=zh htab0_;clear htab0_
 cases k with
 | zero => exact absurd h (by simp [F2.f])
 | succ k =>
 simp only [F2.f] at h;have hu27:=Tryd.underlying27;have hu43:=Tryd.underlying43;have HB:=zh (Below.refl w.heap.size w);have H : ((some (([] : List ByteArray) : List ByteArray)).bind fun y321 => (if a0_0=0 then (some (⟨#[110,117,108,108]⟩ : ByteArray)) else (if a0_0=1 then ((strconv_FormatBool_18.f (a0_1 == 1)).bind fun t324 => (some t324)) else (if a0_0=2 then ((strconv_Itoa_19.f a0_1).bind fun t325 => (some t325)) else (if a0_0=3 then (if 1 + a0_2.size≤9223372036854775807 then (if ((⟨#[39]⟩ : ByteArray) ++ a0_2).size + 1≤9223372036854775807 then (some (((⟨#[39]⟩ : ByteArray) ++ a0_2) ++ (⟨#[39]⟩ : ByteArray))) else (none)) else (none)) else (if a0_0=4 then ((F8.f k a0_0 a0_1 a0_2).bind fun bt326 => (F2.l0 k y321 bt326.1 (bt326.1.length : Int) 0)) else ((F5.f k a0_0 a0_1 a0_2).bind fun bt337 => (F2.l1 k y321 bt337.1 (bt337.1.length : Int) 0))))))))=some r:=h;clear h;obtain ⟨y321,hy321⟩ : ∃ y_ : List ByteArray,y_=(([] : List ByteArray)):=⟨_,rfl⟩;replace H : (if a0_0=0 then (some (⟨#[110,117,108,108]⟩ : ByteArray)) else (if a0_0=1 then ((strconv_FormatBool_18.f (a0_1 == 1)).bind fun t324 => (some t324)) else (if a0_0=2 then ((strconv_Itoa_19.f a0_1).bind fun t325 => (some t325)) else (if a0_0=3 then (if 1 + a0_2.size≤9223372036854775807 then (if ((⟨#[39]⟩ : ByteArray) ++ a0_2).size + 1≤9223372036854775807 then (some (((⟨#[39]⟩ : ByteArray) ++ a0_2) ++ (⟨#[39]⟩ : ByteArray))) else (none)) else (none)) else (if a0_0=4 then ((F8.f k a0_0 a0_1 a0_2).bind fun bt326 => (F2.l0 k y321 bt326.1 (bt326.1.length : Int) 0)) else ((F5.f k a0_0 a0_1 a0_2).bind fun bt337 => (F2.l1 k y321 bt337.1 (bt337.1.length : Int) 0)))))))=some r:=by first|(rw [hy321];with_reducible exact H)|(have H2_:=(Option.bind_some _ _).symm.trans H;rw [hy321];with_reducible exact H2_)|(have H2_:=(Option.bind_some _ _).symm.trans H;with_reducible exact H2_)|with_reducible exact H|(rw [hy321];exact H)|exact H
 have Ny321:=zh hy321;clear hy321
 by_cases c2 : a0_0=0
 ·
  rw [if_pos c2] at H
  have c2b0 : (a0_0 == 0)=true:=ya.mpr c2;have c2b1 : (a0_0 != 0)=false:=zX.mpr c2;clear c2;obtain rfl:=zU H
  go_enter Tryd.func11,Tryd.ntmps11
  go_wp2_with (first|((with_reducible refine zK (N:=1) rfl ?_);refine zI ?hg (N:=1) ?hd (cs:=#[.int .i64 a0_0,.int .i64 a0_1,.string a0_2]) (t:=27) ?hr ?_;(case hd|hg => rfl);(case hr => go_simp <;> rfl);intro gb320 hg w3 hbox hb;have BK320:=zh (hbox);have hH_:=cH (by repeat (with_reducible first|exact HB.out|apply za|apply zb|apply zc)) hb hg;have GW320:=zh hH_.1;have GE320:=GW320;replace HB:=zh hH_.2;clear hb hbox hg hH_)|((with_reducible refine zK (N:=12) rfl ?_);refine Kd.R_lit Kd.string _ 9 ?hg (N:=12) ?hd (xs:=([] : List ByteArray)) (inner:=[]) (ok:=fun _ => True) (okp:=fun _ => True) ?hr ?hp (fun _ hk => hk) trivial (Below.refl _ _) (ye _) (by simp) ?_;(case hd|hg => rfl);(case hr => go_simp <;> rfl);(case hp => exact (Reps.none _ _));intro v322 w4 ho5 hb hg_ hnew_;clear hg_ hnew_;(first|rw [← Ny321.out] at ho5|(simp only [Int.reduceToNat] at ho5;rw [← Ny321.out] at ho5));have HO323:=zh (yy ho5 (zB (by repeat (with_reducible first|exact HB.out|apply za|apply zb|apply zc|refine zd ?_ GE320.out))));replace BK320:=zh (cD BK320.out (by (with_reducible repeat first|apply ze|apply zf|apply zg);exact BK320.out) hb);replace HB:=zh (zC (by repeat (with_reducible first|exact HB.out|apply za|apply zb|apply zc|refine zd ?_ GE320.out)) hb);clear hb ho5;obtain ⟨hcz6_0,hcz6_1,hcz6_2,hfz6_0,hfz6_1,hfz6_2⟩:=cB3 BK320.out))
  go_ret
  exact ⟨by first|rfl|(simp [yt,yu] <;> rfl)|(simp [*,yt,yu] <;> rfl),by repeat (with_reducible first|exact HB.out|apply za|apply zb|apply zc|refine zd ?_ GE320.out)⟩
 rw [if_neg c2] at H;have c2b0 : (a0_0 == 0)=false:=zY.mpr c2;have c2b1 : (a0_0 != 0)=true:=zZ.mpr c2
 by_cases c7 : a0_0=1
 ·
  rw [if_pos c7] at H
  have c7b0 : (a0_0 == 1)=true:=ya.mpr c7;have c7b1 : (a0_0 != 1)=false:=zX.mpr c7;clear c7;replace H:=zT.mp H;obtain ⟨t324,A80,H⟩:=H;replace H : (some t324)=some r:=H;have A8:=zh A80;clear A80;obtain rfl:=zU H
  go_enter Tryd.func11,Tryd.ntmps11
  go_wp2_with (first|((with_reducible refine zK (N:=1) rfl ?_);refine zI ?hg (N:=1) ?hd (cs:=#[.int .i64 a0_0,.int .i64 a0_1,.string a0_2]) (t:=27) ?hr ?_;(case hd|hg => rfl);(case hr => go_simp <;> rfl);intro gb320 hg w9 hbox hb;have BK320:=zh (hbox);have hH_:=cH (by repeat (with_reducible first|exact HB.out|apply za|apply zb|apply zc)) hb hg;have GW320:=zh hH_.1;have GE320:=GW320;replace HB:=zh hH_.2;clear hb hbox hg hH_)|((with_reducible refine zK (N:=12) rfl ?_);refine Kd.R_lit Kd.string _ 9 ?hg (N:=12) ?hd (xs:=([] : List ByteArray)) (inner:=[]) (ok:=fun _ => True) (okp:=fun _ => True) ?hr ?hp (fun _ hk => hk) trivial (Below.refl _ _) (ye _) (by simp) ?_;(case hd|hg => rfl);(case hr => go_simp <;> rfl);(case hp => exact (Reps.none _ _));intro v322 w10 ho11 hb hg_ hnew_;clear hg_ hnew_;(first|rw [← Ny321.out] at ho11|(simp only [Int.reduceToNat] at ho11;rw [← Ny321.out] at ho11));have HO323:=zh (yy ho11 (zB (by repeat (with_reducible first|exact HB.out|apply za|apply zb|apply zc|refine zd ?_ GE320.out))));replace BK320:=zh (cD BK320.out (by (with_reducible repeat first|apply ze|apply zf|apply zg);exact BK320.out) hb);replace HB:=zh (zC (by repeat (with_reducible first|exact HB.out|apply za|apply zb|apply zc|refine zd ?_ GE320.out)) hb);clear hb ho11;obtain ⟨hcz12_0,hcz12_1,hcz12_2,hfz12_0,hfz12_1,hfz12_2⟩:=cB3 BK320.out)|((with_reducible refine zJ (f:=18) rfl ?_);refine yj (some 22) rfl rfl Tryd.func18 (by kernel_rfl) rfl #[.bool (a0_1 == 1)] rfl (by (try simp only [zt,zu,zv]);first|done|rfl|(simp only [zw,zx];rfl)|(simp only [yr,ys,zV,zW];rfl)) ?_;(with_reducible refine (strconv_FormatBool_18.calls  (a0_1 == 1) t324 _ A8.out).mono ?_);rintro e w' ⟨rfl,⟨nd,rfl⟩⟩;refine ⟨_,rfl,?_⟩))
  go_ret
  exact ⟨by first|rfl|(simp [yt,yu] <;> rfl)|(simp [*,yt,yu] <;> rfl),by repeat (with_reducible first|exact HB.out|apply za|apply zb|apply zc|refine zd ?_ GE320.out)⟩
 rw [if_neg c7] at H;have c7b0 : (a0_0 == 1)=false:=zY.mpr c7;have c7b1 : (a0_0 != 1)=true:=zZ.mpr c7
 by_cases c13 : a0_0=2
 ·
  rw [if_pos c13] at H
  have c13b0 : (a0_0 == 2)=true:=ya.mpr c13;have c13b1 : (a0_0 != 2)=false:=zX.mpr c13;clear c13;replace H:=zT.mp H;obtain ⟨t325,A140,H⟩:=H;replace H : (some t325)=some r:=H;have A14:=zh A140;clear A140;obtain rfl:=zU H
  go_enter Tryd.func11,Tryd.ntmps11
  go_wp2_with (first|((with_reducible refine zK (N:=1) rfl ?_);refine zI ?hg (N:=1) ?hd (cs:=#[.int .i64 a0_0,.int .i64 a0_1,.string a0_2]) (t:=27) ?hr ?_;(case hd|hg => rfl);(case hr => go_simp <;> rfl);intro gb320 hg w15 hbox hb;have BK320:=zh (hbox);have hH_:=cH (by repeat (with_reducible first|exact HB.out|apply za|apply zb|apply zc)) hb hg;have GW320:=zh hH_.1;have GE320:=GW320;replace HB:=zh hH_.2;clear hb hbox hg hH_)|((with_reducible refine zK (N:=12) rfl ?_);refine Kd.R_lit Kd.string _ 9 ?hg (N:=12) ?hd (xs:=([] : List ByteArray)) (inner:=[]) (ok:=fun _ => True) (okp:=fun _ => True) ?hr ?hp (fun _ hk => hk) trivial (Below.refl _ _) (ye _) (by simp) ?_;(case hd|hg => rfl);(case hr => go_simp <;> rfl);(case hp => exact (Reps.none _ _));intro v322 w16 ho17 hb hg_ hnew_;clear hg_ hnew_;(first|rw [← Ny321.out] at ho17|(simp only [Int.reduceToNat] at ho17;rw [← Ny321.out] at ho17));have HO323:=zh (yy ho17 (zB (by repeat (with_reducible first|exact HB.out|apply za|apply zb|apply zc|refine zd ?_ GE320.out))));replace BK320:=zh (cD BK320.out (by (with_reducible repeat first|apply ze|apply zf|apply zg);exact BK320.out) hb);replace HB:=zh (zC (by repeat (with_reducible first|exact HB.out|apply za|apply zb|apply zc|refine zd ?_ GE320.out)) hb);clear hb ho17;obtain ⟨hcz18_0,hcz18_1,hcz18_2,hfz18_0,hfz18_1,hfz18_2⟩:=cB3 BK320.out)|((with_reducible refine zJ (f:=19) rfl ?_);refine yj (some 27) rfl rfl Tryd.func19 (by kernel_rfl) rfl #[.int .i64 a0_1] rfl (by (try simp only [zt,zu,zv]);first|done|rfl|(simp only [zw,zx];rfl)|(simp only [yr,ys,zV,zW];rfl)) ?_;(with_reducible refine (strconv_Itoa_19.calls  a0_1 t325 _ A14.out (htab_.out.below (by repeat (with_reducible first|exact HB.out|apply za|apply zb|apply zc|refine zd ?_ GE320.out|refine zd ?_ GE331.out|refine zd ?_ GE342.out)))).mono ?_);rintro e w19 ⟨rfl,hb⟩;refine ⟨_,rfl,?_⟩;replace HO323:=zh (yg (by (with_reducible repeat (first|apply zm|apply zn|apply zo));exact HO323.out) hb);replace BK320:=zh (cD BK320.out (by (with_reducible repeat first|apply ze|apply zf|apply zg);exact BK320.out) hb);replace HB:=zh (zC (by repeat (with_reducible first|exact HB.out|apply za|apply zb|apply zc|refine zd ?_ GE320.out)) hb);(try clear hb);(try clear hb2);(try clear hk);(try clear hi)))
  go_ret
  exact ⟨by first|rfl|(simp [yt,yu] <;> rfl)|(simp [*,yt,yu] <;> rfl),by repeat (with_reducible first|exact HB.out|apply za|apply zb|apply zc|refine zd ?_ GE320.out)⟩
 rw [if_neg c13] at H;have c13b0 : (a0_0 == 2)=false:=zY.mpr c13;have c13b1 : (a0_0 != 2)=true:=zZ.mpr c13
 by_cases c20 : a0_0=3
 ·
  rw [if_pos c20] at H
  have c20b0 : (a0_0 == 3)=true:=ya.mpr c20;have c20b1 : (a0_0 != 3)=false:=zX.mpr c20;clear c20
  by_cases c21 : 1 + a0_2.size≤9223372036854775807
  ·
   rw [if_pos c21] at H
   have c21b0:=eq_true c21;have c21b1 : decide (1 + a0_2.size≤9223372036854775807)=true:=decide_eq_true c21
   try have c21b2 : (9223372036854775807<1 + a0_2.size)=False:=eq_false (Nat.not_lt.2 c21)
   by_cases c22 : ((⟨#[39]⟩ : ByteArray) ++ a0_2).size + 1≤9223372036854775807
   ·
    rw [if_pos c22] at H
    have c22b0:=eq_true c22;have c22b1 : decide (((⟨#[39]⟩ : ByteArray) ++ a0_2).size + 1≤9223372036854775807)=true:=decide_eq_true c22
    try have c22b2 : (9223372036854775807<((⟨#[39]⟩ : ByteArray) ++ a0_2).size + 1)=False:=eq_false (Nat.not_lt.2 c22)
    (try have c22b4:=c22b2;simp only [ByteArray.size_append,show (⟨#[39]⟩ : ByteArray).size=1 from rfl] at c22b4);obtain rfl:=zU H
    go_enter Tryd.func11,Tryd.ntmps11
    go_wp2_with (first|((with_reducible refine zK (N:=1) rfl ?_);refine zI ?hg (N:=1) ?hd (cs:=#[.int .i64 a0_0,.int .i64 a0_1,.string a0_2]) (t:=27) ?hr ?_;(case hd|hg => rfl);(case hr => go_simp <;> rfl);intro gb320 hg w23 hbox hb;have BK320:=zh (hbox);have hH_:=cH (by repeat (with_reducible first|exact HB.out|apply za|apply zb|apply zc)) hb hg;have GW320:=zh hH_.1;have GE320:=GW320;replace HB:=zh hH_.2;clear hb hbox hg hH_)|((with_reducible refine zK (N:=12) rfl ?_);refine Kd.R_lit Kd.string _ 9 ?hg (N:=12) ?hd (xs:=([] : List ByteArray)) (inner:=[]) (ok:=fun _ => True) (okp:=fun _ => True) ?hr ?hp (fun _ hk => hk) trivial (Below.refl _ _) (ye _) (by simp) ?_;(case hd|hg => rfl);(case hr => go_simp <;> rfl);(case hp => exact (Reps.none _ _));intro v322 w24 ho25 hb hg_ hnew_;clear hg_ hnew_;(first|rw [← Ny321.out] at ho25|(simp only [Int.reduceToNat] at ho25;rw [← Ny321.out] at ho25));have HO323:=zh (yy ho25 (zB (by repeat (with_reducible first|exact HB.out|apply za|apply zb|apply zc|refine zd ?_ GE320.out))));replace BK320:=zh (cD BK320.out (by (with_reducible repeat first|apply ze|apply zf|apply zg);exact BK320.out) hb);replace HB:=zh (zC (by repeat (with_reducible first|exact HB.out|apply za|apply zb|apply zc|refine zd ?_ GE320.out)) hb);clear hb ho25;obtain ⟨hcz26_0,hcz26_1,hcz26_2,hfz26_0,hfz26_1,hfz26_2⟩:=cB3 BK320.out))
    go_ret
    exact ⟨by first|rfl|(simp [yt,yu] <;> rfl)|(simp [*,yt,yu] <;> rfl),by repeat (with_reducible first|exact HB.out|apply za|apply zb|apply zc|refine zd ?_ GE320.out)⟩
   rw [if_neg c22] at H;exact absurd H (by simp)
  rw [if_neg c21] at H;exact absurd H (by simp)
 rw [if_neg c20] at H;have c20b0 : (a0_0 == 3)=false:=zY.mpr c20;have c20b1 : (a0_0 != 3)=true:=zZ.mpr c20
 by_cases c27 : a0_0=4
 ·
  rw [if_pos c27] at H
  have c27b0 : (a0_0 == 4)=true:=ya.mpr c27;have c27b1 : (a0_0 != 4)=false:=zX.mpr c27;clear c27;replace H:=zT.mp H;obtain ⟨⟨t326,t329⟩,A280,H⟩:=H;replace H : (F2.l0 k y321 t326 (t326.length : Int) 0)=some r:=H;have A28:=zh A280;clear A280;have H':=zh H;clear H
  go_enter Tryd.func11,Tryd.ntmps11
  go_wp2_with (first|((with_reducible refine zK (N:=1) rfl ?_);refine zI ?hg (N:=1) ?hd (cs:=#[.int .i64 a0_0,.int .i64 a0_1,.string a0_2]) (t:=27) ?hr ?_;(case hd|hg => rfl);(case hr => go_simp <;> rfl);intro gb320 hg w29 hbox hb;have BK320:=zh (hbox);have hH_:=cH (by repeat (with_reducible first|exact HB.out|apply za|apply zb|apply zc)) hb hg;have GW320:=zh hH_.1;have GE320:=GW320;replace HB:=zh hH_.2;clear hb hbox hg hH_)|((with_reducible refine zK (N:=12) rfl ?_);refine Kd.R_lit Kd.string _ 9 ?hg (N:=12) ?hd (xs:=([] : List ByteArray)) (inner:=[]) (ok:=fun _ => True) (okp:=fun _ => True) ?hr ?hp (fun _ hk => hk) trivial (Below.refl _ _) (ye _) (by simp) ?_;(case hd|hg => rfl);(case hr => go_simp <;> rfl);(case hp => exact (Reps.none _ _));intro v322 w30 ho31 hb hg_ hnew_;clear hg_ hnew_;(first|rw [← Ny321.out] at ho31|(simp only [Int.reduceToNat] at ho31;rw [← Ny321.out] at ho31));have HO323:=zh (yy ho31 (zB (by repeat (with_reducible first|exact HB.out|apply za|apply zb|apply zc|refine zd ?_ GE320.out))));replace BK320:=zh (cD BK320.out (by (with_reducible repeat first|apply ze|apply zf|apply zg);exact BK320.out) hb);replace HB:=zh (zC (by repeat (with_reducible first|exact HB.out|apply za|apply zb|apply zc|refine zd ?_ GE320.out)) hb);clear hb ho31;obtain ⟨hcz32_0,hcz32_1,hcz32_2,hfz32_0,hfz32_1,hfz32_2⟩:=cB3 BK320.out)|((with_reducible refine zJ (f:=20) rfl ?_);refine yj (some 38) rfl rfl Tryd.func20 (by kernel_rfl) rfl #[.agg #[.int .i64 a0_0,.int .i64 a0_1,.string a0_2]] rfl (by (try simp only [zt,zu,zv]);first|done|rfl|(simp only [zw,zx];rfl)|(simp only [yr,ys,zV,zW];rfl)) ?_;(with_reducible refine (F8.calls k  a0_0 a0_1 a0_2 t326 t329 _ A28.out).mono ?_);rintro e w33 ⟨v327,rfl,ho0,hb⟩;refine ⟨_,rfl,?_⟩;replace HO323:=zh (yg (by (with_reducible repeat (first|apply zm|apply zn|apply zo));exact HO323.out) hb);have HO328:=zh (yy (Kd.R_newB ho0 (g:=gb320) (o:=.cells #[.int .i64 a0_0,.int .i64 a0_1,.string a0_2] 27 (0,0)) (by (with_reducible repeat first|apply ze|apply zf|apply zg);exact BK320.out)) (zB (by repeat (with_reducible first|exact HB.out|apply za|apply zb|apply zc|refine zd ?_ GE320.out))));replace BK320:=zh (cD BK320.out (by (with_reducible repeat first|apply ze|apply zf|apply zg);exact BK320.out) hb);replace HB:=zh (zC (by repeat (with_reducible first|exact HB.out|apply za|apply zb|apply zc|refine zd ?_ GE320.out)) hb);(try clear hb);(try clear hb2);(try clear hk);(try clear hi);(try clear ho0);obtain ⟨Ao34,co34,eo34⟩:=yk HO328.out;subst eo34))
  go_loopg [3,43] k (fun kq v3 v43 w' => ∃ (x3_1 : List ByteArray) (x43_1 : Int),v43 = .int .i64 x43_1∧Aside0 (F2.l0 kq x3_1 t326 (t326.length : Int) x43_1=some r)∧Aside0 (kq≤k)∧Aside0 (Kd.R Kd.string 9 w' w.heap.size (fun _ => True) v3 x3_1)∧Aside0 (Kd.R k27 27 w' w.heap.size (fun k_ => k_≠gb320) (.slice Ao34 t326.length co34) t326)∧Aside0 (w'.heap[gb320]? = some (.cells #[.int .i64 a0_0,.int .i64 a0_1,.string a0_2] 27 (0,0)))∧Aside0 (Below w.heap.size w w'))
  case atStart => exact ⟨(y321),(0),(by first|rfl|(simp;done)|(simp [*];done)),H',⟨ye _⟩,⟨by (with_reducible repeat (first|apply zm|apply zn|apply zo));exact HO323.out⟩,⟨by (with_reducible repeat (first|apply zm|apply zn|apply zo));exact zM HO328.out (fun _ hk => hk.2)⟩,⟨by (with_reducible repeat first|apply ze|apply zf|apply zg);exact BK320.out⟩,⟨by repeat (with_reducible first|exact HB.out|apply za|apply zb|apply zc|refine zd ?_ GE320.out)⟩⟩
  case round =>
   clear H'
   try clear c1 c2 c2b0 c2b1
   try clear p2
   try clear c7 c7b0 c7b1 c11 c13 c13b0 c13b1 c18 c19 c20 c20b0 c20b1 c21 c21b0 c21b1 c21b2 c22 c22b0 c22b1 c22b2 c27 c27b0 c27b1
   try clear hcz12_0 hcz12_1 hcz12_2
   try clear hcz18_0 hcz18_1 hcz18_2
   try clear hcz26_0 hcz26_1 hcz26_2
   try clear hcz32_0 hcz32_1 hcz32_2
   try clear hcz6_0 hcz6_1 hcz6_2
   try clear hfz12_0 hfz12_1 hfz12_2
   try clear hfz18_0 hfz18_1 hfz18_2
   try clear hfz26_0 hfz26_1 hfz26_2
   try clear hfz32_0 hfz32_1 hfz32_2
   try clear hfz6_0 hfz6_1 hfz6_2
   obtain ⟨x3_1,x43_1,rfl,HA,HK1,HO_3,HO_41,BK320,HB⟩:=hrel
   cases gk with
   | zero => exact absurd HA.out (by simp [F2.l0])
   | succ k1 =>
    have H:=HA.out;clear HA;simp only [F2.l0] at H
    by_cases c35 : x43_1<(t326.length : Int)
    ·
     rw [if_pos c35] at H
     have c35b0 : decide (x43_1<(t326.length : Int))=true:=decide_eq_true c35;clear c35
     by_cases c36 : 0≤x43_1
     ·
      rw [if_pos c36] at H
      have c36b0 : decide (0≤x43_1)=true:=decide_eq_true c36;clear c36
      by_cases c37 : x43_1<(t326.length : Int)
      ·
       rw [if_pos c37] at H
       have c37b0 : decide (x43_1<(t326.length : Int))=true:=decide_eq_true c37;clear c37;replace H:=zT.mp H;obtain ⟨t332,A380,H⟩:=H;replace H : (if x3_1.length<8796093022208 then (F2.l0 k1 (x3_1 ++ [t332]) t326 (t326.length : Int) (wrap64 (x43_1 + 1))) else (none))=some r:=H;have A38:=zh A380;clear A380
       by_cases c39 : x3_1.length<8796093022208
       ·
        rw [if_pos c39] at H
        have LMc39:=zh c39;clear c39;obtain ⟨y333,hy333⟩ : ∃ y_ : List ByteArray,y_=(x3_1 ++ [t332]):=⟨_,rfl⟩;replace H : (F2.l0 k1 y333 t326 (t326.length : Int) (wrap64 (x43_1 + 1)))=some r:=by first|(rw [hy333];with_reducible exact H)|(have H2_:=(Option.bind_some _ _).symm.trans H;rw [hy333];with_reducible exact H2_)|(have H2_:=(Option.bind_some _ _).symm.trans H;with_reducible exact H2_)|with_reducible exact H|(rw [hy333];exact H)|exact H
        have Ny333:=zh hy333;clear hy333;have H':=zh H;clear H;have p330 : 0≤(x43_1 : Int):=zy (by first|(with_reducible assumption)|assumption);have q330 : x43_1<(t326.length : Int):=zy (by first|(with_reducible assumption)|assumption);obtain ⟨ad330,e330,hx330_0,hx330_1,hx330_2⟩:=at_T27 (yh HO_41.out).2.2 x43_1 p330 q330
        cases e330
        replace p330:=eq_true p330;replace q330:=eq_true q330
        go_wp2_with (first|((with_reducible refine zK (N:=7) rfl ?_);refine zI ?hg (N:=7) ?hd (cs:=#[.int .i64 0,.int .i64 0,.string (⟨#[]⟩ : ByteArray)]) (t:=27) ?hr ?_;(case hd|hg => rfl);(case hr => go_simp <;> rfl);intro gb331 hg w40 hbox hb;replace HO_3:=zh (yg (by (with_reducible repeat (first|apply zm|apply zn|apply zo));exact HO_3.out) hb);replace HO_41:=zh (yg (Kd.R_elderB (by (with_reducible repeat (first|apply zm|apply zn|apply zo));exact HO_41.out) gb331 (Nat.le_of_eq hg.symm)) hb);have BK331:=zh (hbox);have hH_:=cH (by repeat (with_reducible first|exact HB.out|apply za|apply zb|apply zc|refine zd ?_ GE320.out)) hb hg;have GW331:=zh hH_.1;have GE331:=GW331;replace HB:=zh hH_.2;have NB320_331:=zh ((by rw [hg];exact yc (yi (g:=gb320) (o:=.cells #[.int .i64 a0_0,.int .i64 a0_1,.string a0_2] 27 (0,0)) (by (with_reducible repeat first|apply ze|apply zf|apply zg);exact BK320.out)) : gb320≠gb331));have NB331_320:=zh NB320_331.out.symm;replace BK320:=zh (cD BK320.out (by (with_reducible repeat first|apply ze|apply zf|apply zg);exact BK320.out) hb);clear hb hbox hg hH_;have hnb41:=NB331_320.out;have hnc41:=NB320_331.out;obtain ⟨hcz42_0,hcz42_1,hcz42_2,hfz42_0,hfz42_1,hfz42_2⟩:=cB3 BK331.out)|((with_reducible refine zJ (f:=11) rfl ?_);refine yj (some 49) rfl rfl Tryd.func11 (by kernel_rfl) rfl #[.agg #[.int .i64 ((rd_T27 t326 x43_1).f0),.int .i64 ((rd_T27 t326 x43_1).f1),.string ((rd_T27 t326 x43_1).f2)]] rfl (by (try simp only [zt,zu,zv]);first|done|rfl|(simp only [zw,zx];rfl)|(simp only [yr,ys,zV,zW];rfl)) ?_;(with_reducible refine (ih k1 (by have:=HK1.out;omega)  ((rd_T27 t326 x43_1).f0) ((rd_T27 t326 x43_1).f1) ((rd_T27 t326 x43_1).f2) t332 _ A38.out (htab_.out.below (by repeat (with_reducible first|exact HB.out|apply za|apply zb|apply zc|refine zd ?_ GE320.out|refine zd ?_ GE331.out|refine zd ?_ GE342.out)))).mono ?_);rintro e w43 ⟨rfl,hb⟩;refine ⟨_,rfl,?_⟩;replace HO_3:=zh (yg (by (with_reducible repeat (first|apply zm|apply zn|apply zo));exact (zM (zE (p:=⟨gb331,2,none⟩) (zE (p:=⟨gb331,1,none⟩) (zE (p:=⟨gb331,0,none⟩) (yf HO_3.out BK331.out (by decide)) (fun _ hk => hk.2) (.int .i64 ((rd_T27 t326 x43_1).f0))) (fun _ hk => hk.2) (.int .i64 ((rd_T27 t326 x43_1).f1))) (fun _ hk => hk.2) (.string ((rd_T27 t326 x43_1).f2))) (fun _ h_ => h_.1))) hb);replace HO_41:=zh (yg (by (with_reducible repeat (first|apply zm|apply zn|apply zo));exact (zM (zE (p:=⟨gb331,2,none⟩) (zE (p:=⟨gb331,1,none⟩) (zE (p:=⟨gb331,0,none⟩) (zM HO_41.out (fun k_ hk => (⟨hk,hk.2⟩ : _∧k_≠gb331))) (fun _ hk => hk.2) (.int .i64 ((rd_T27 t326 x43_1).f0))) (fun _ hk => hk.2) (.int .i64 ((rd_T27 t326 x43_1).f1))) (fun _ hk => hk.2) (.string ((rd_T27 t326 x43_1).f2))) (fun _ h_ => h_.1))) hb);replace BK320:=zh (cD BK320.out (by (with_reducible repeat first|apply ze|apply zf|apply zg);refine cS3 ?_ NB320_331.out;(with_reducible repeat first|apply ze|apply zf|apply zg);exact BK320.out) hb);replace BK331:=zh (zD (g:=gb331) (o:=.cells #[.int .i64 ((rd_T27 t326 x43_1).f0),.int .i64 ((rd_T27 t326 x43_1).f1),.string ((rd_T27 t326 x43_1).f2)] 27 (0,0)) (by (with_reducible repeat first|apply ze|apply zf|apply zg);refine zL (cs:=#[.int .i64 ((rd_T27 t326 x43_1).f0),.int .i64 ((rd_T27 t326 x43_1).f1),.string (⟨#[]⟩ : ByteArray)]) ?_ 2 _ rfl;(with_reducible repeat first|apply ze|apply zf|apply zg);refine zL (cs:=#[.int .i64 ((rd_T27 t326 x43_1).f0),.int .i64 0,.string (⟨#[]⟩ : ByteArray)]) ?_ 1 _ rfl;(with_reducible repeat first|apply ze|apply zf|apply zg);refine zL (cs:=#[.int .i64 0,.int .i64 0,.string (⟨#[]⟩ : ByteArray)]) ?_ 0 _ rfl;(with_reducible repeat first|apply ze|apply zf|apply zg);exact BK331.out) hb);replace HB:=zh (zC (by repeat (with_reducible first|exact HB.out|apply za|apply zb|apply zc|refine zd ?_ GE320.out|refine zd ?_ GE331.out)) hb);(try clear hb);(try clear hb2);(try clear hk);(try clear hi))|((with_reducible refine yB (b:=.append) (xs:=#[.tmp 47,.tmp 50]) rfl ?_);at_builtin;refine Kd.R_append Kd.string (w0:=w) w.heap.size rfl (.tmp 47) (.tmp 50) 33 9 (.string ⟨#[]⟩) 16 rfl Tryd.underlying33 info9 rfl (by decide) (by omega) u3 x3_1 t332 [.string t332] (fun _ => True) (fun _ => False) rfl rfl ?aP (fun _ hk => hk.elim) ?aF ?aO ?aB ?aS ?aL ?_;(case aP => exact rfl);(case aB => exact (by repeat (with_reducible first|exact HB.out|apply za|apply zb|apply zc|refine zd ?_ GE320.out|refine zd ?_ GE331.out)));(case aF => exact (fun _ _ => trivial));(case aO => exact (by (with_reducible repeat (first|apply zm|apply zn|apply zo));exact HO_3.out));(case aS => exact (zB (by repeat (with_reducible first|exact HB.out|apply za|apply zb|apply zc|refine zd ?_ GE320.out|refine zd ?_ GE331.out))));(case aL => have:=LMc39.out;omega);intro v334 w44 ho hb hg hat;rw [← Ny333.out] at ho;replace HO_41:=zh (Kd.R_over' (by (with_reducible repeat (first|apply zm|apply zn|apply zo));exact HO_41.out) (Kd.R_typed (by (with_reducible repeat (first|apply zm|apply zn|apply zo));exact HO_3.out)) (by decide) hg);replace BK320:=zh (yw (g:=gb320) (o:=.cells #[.int .i64 a0_0,.int .i64 a0_1,.string a0_2] 27 (0,0)) (by (with_reducible repeat first|apply ze|apply zf|apply zg);exact BK320.out) hg (Kd.R_ne HO_3.out BK320.out (by decide)));replace BK331:=zh (yw (g:=gb331) (o:=.cells #[.int .i64 ((rd_T27 t326 x43_1).f0),.int .i64 ((rd_T27 t326 x43_1).f1),.string ((rd_T27 t326 x43_1).f2)] 27 (0,0)) (by (with_reducible repeat first|apply ze|apply zf|apply zg);exact BK331.out) hg (Kd.R_ne HO_3.out BK331.out (by decide)));replace HB:=zh (hb);have HO335:=zh (ho);clear HO_3 ho hb hg hat))
        go_roundg k1
        case measure => have:=HK1.out;omega
        case rel => exact ⟨(y333),(wrap64 (x43_1 + 1)),(by first|rfl|(simp;done)|(simp [*];done)),H',⟨by have:=HK1.out;omega⟩,⟨by (with_reducible repeat (first|apply zm|apply zn|apply zo));exact HO335.out⟩,⟨by (with_reducible repeat (first|apply zm|apply zn|apply zo));exact zM HO_41.out (fun _ hk => hk.1)⟩,⟨by (with_reducible repeat first|apply ze|apply zf|apply zg);exact BK320.out⟩,⟨by repeat (with_reducible first|exact HB.out|apply za|apply zb|apply zc|refine zd ?_ GE320.out|refine zd ?_ GE331.out)⟩⟩
       rw [if_neg c39] at H;exact absurd H (by simp)
      rw [if_neg c37] at H;exact absurd H (by simp)
     rw [if_neg c36] at H;exact absurd H (by simp)
    rw [if_neg c35] at H;have c35b0 : decide (x43_1<(t326.length : Int))=false:=decide_eq_false c35;clear c35;replace H:=zT.mp H;obtain ⟨t336,A450,H⟩:=H;replace H : (if 1 + t336.size≤9223372036854775807 then (if ((⟨#[91]⟩ : ByteArray) ++ t336).size + 1≤9223372036854775807 then (some (((⟨#[91]⟩ : ByteArray) ++ t336) ++ (⟨#[93]⟩ : ByteArray))) else (none)) else (none))=some r:=H;have A45:=zh A450;clear A450
    by_cases c46 : 1 + t336.size≤9223372036854775807
    ·
     rw [if_pos c46] at H
     have c46b0:=eq_true c46;have c46b1 : decide (1 + t336.size≤9223372036854775807)=true:=decide_eq_true c46
     try have c46b2 : (9223372036854775807<1 + t336.size)=False:=eq_false (Nat.not_lt.2 c46)
     by_cases c47 : ((⟨#[91]⟩ : ByteArray) ++ t336).size + 1≤9223372036854775807
     ·
      rw [if_pos c47] at H
      have c47b0:=eq_true c47;have c47b1 : decide (((⟨#[91]⟩ : ByteArray) ++ t336).size + 1≤9223372036854775807)=true:=decide_eq_true c47
      try have c47b2 : (9223372036854775807<((⟨#[91]⟩ : ByteArray) ++ t336).size + 1)=False:=eq_false (Nat.not_lt.2 c47)
      (try have c47b4:=c47b2;simp only [ByteArray.size_append,show (⟨#[91]⟩ : ByteArray).size=1 from rfl] at c47b4);obtain rfl:=zU H;obtain ⟨Ao48,co48,eo48⟩:=yk HO_3.out;subst eo48
      go_wp2_with (first|((with_reducible refine zJ (f:=21) rfl ?_);refine yj (some 54) rfl rfl Tryd.func21 (by kernel_rfl) rfl #[.slice Ao48 x3_1.length co48,.string (⟨#[44]⟩ : ByteArray)] rfl (by (try simp only [zt,zu,zv]);first|done|rfl|(simp only [zw,zx];rfl)|(simp only [yr,ys,zV,zW];rfl)) ?_;(with_reducible refine (strings_Join.calls  _ _ x3_1 (⟨#[44]⟩ : ByteArray) t336 _ ?side1 ?side2 A45.out).mono ?_);(case side1 => repeat (first|exact (yh HO_3.out).2.2|(with_reducible refine Kd.C_alloc ?_ _)|(with_reducible refine Kd.C_drewN ?_ _)|(with_reducible refine Kd.C_drew ?_)));(case side2 => exact (yh HO_3.out).2.1);rintro e w49 ⟨rfl,hb⟩;refine ⟨_,rfl,?_⟩;replace HO_3:=zh (yg (by (with_reducible repeat (first|apply zm|apply zn|apply zo));exact HO_3.out) hb);replace HO_41:=zh (yg (by (with_reducible repeat (first|apply zm|apply zn|apply zo));exact HO_41.out) hb);replace BK320:=zh (cD BK320.out (by (with_reducible repeat first|apply ze|apply zf|apply zg);exact BK320.out) hb);replace HB:=zh (zC (by repeat (with_reducible first|exact HB.out|apply za|apply zb|apply zc|refine zd ?_ GE320.out)) hb);(try clear hb);(try clear hb2);(try clear hk);(try clear hi)))
      go_ret
      exact ⟨by first|rfl|(simp [yt,yu] <;> rfl)|(simp [*,yt,yu] <;> rfl),by repeat (with_reducible first|exact HB.out|apply za|apply zb|apply zc|refine zd ?_ GE320.out)⟩
     rw [if_neg c47] at H;exact absurd H (by simp)
    rw [if_neg c46] at H;exact absurd H (by simp)
 rw [if_neg c27] at H;have c27b0 : (a0_0 == 4)=false:=zY.mpr c27;have c27b1 : (a0_0 != 4)=true:=zZ.mpr c27;replace H:=zT.mp H;obtain ⟨⟨t337,t340⟩,A500,H⟩:=H;replace H : (F2.l1 k y321 t337 (t337.length : Int) 0)=some r:=H;have A50:=zh A500;clear A500;have H':=zh H;clear H
 go_enter Tryd.func11,Tryd.ntmps11
 go_wp2_with (first|((with_reducible refine zK (N:=1) rfl ?_);refine zI ?hg (N:=1) ?hd (cs:=#[.int .i64 a0_0,.int .i64 a0_1,.string a0_2]) (t:=27) ?hr ?_;(case hd|hg => rfl);(case hr => go_simp <;> rfl);intro gb320 hg w51 hbox hb;have BK320:=zh (hbox);have hH_:=cH (by repeat (with_reducible first|exact HB.out|apply za|apply zb|apply zc)) hb hg;have GW320:=zh hH_.1;have GE320:=GW320;replace HB:=zh hH_.2;clear hb hbox hg hH_)|((with_reducible refine zK (N:=12) rfl ?_);refine Kd.R_lit Kd.string _ 9 ?hg (N:=12) ?hd (xs:=([] : List ByteArray)) (inner:=[]) (ok:=fun _ => True) (okp:=fun _ => True) ?hr ?hp (fun _ hk => hk) trivial (Below.refl _ _) (ye _) (by simp) ?_;(case hd|hg => rfl);(case hr => go_simp <;> rfl);(case hp => exact (Reps.none _ _));intro v322 w52 ho53 hb hg_ hnew_;clear hg_ hnew_;(first|rw [← Ny321.out] at ho53|(simp only [Int.reduceToNat] at ho53;rw [← Ny321.out] at ho53));have HO323:=zh (yy ho53 (zB (by repeat (with_reducible first|exact HB.out|apply za|apply zb|apply zc|refine zd ?_ GE320.out))));replace BK320:=zh (cD BK320.out (by (with_reducible repeat first|apply ze|apply zf|apply zg);exact BK320.out) hb);replace HB:=zh (zC (by repeat (with_reducible first|exact HB.out|apply za|apply zb|apply zc|refine zd ?_ GE320.out)) hb);clear hb ho53;obtain ⟨hcz54_0,hcz54_1,hcz54_2,hfz54_0,hfz54_1,hfz54_2⟩:=cB3 BK320.out)|((with_reducible refine zJ (f:=22) rfl ?_);refine yj (some 59) rfl rfl Tryd.func22 (by kernel_rfl) rfl #[.agg #[.int .i64 a0_0,.int .i64 a0_1,.string a0_2]] rfl (by (try simp only [zt,zu,zv]);first|done|rfl|(simp only [zw,zx];rfl)|(simp only [yr,ys,zV,zW];rfl)) ?_;(with_reducible refine (F5.calls k  a0_0 a0_1 a0_2 t337 t340 _ A50.out).mono ?_);rintro e w55 ⟨v338,rfl,ho0,hb⟩;refine ⟨_,rfl,?_⟩;replace HO323:=zh (yg (by (with_reducible repeat (first|apply zm|apply zn|apply zo));exact HO323.out) hb);have HO339:=zh (yy ho0 (zB (by repeat (with_reducible first|exact HB.out|apply za|apply zb|apply zc|refine zd ?_ GE320.out))));replace BK320:=zh (cD BK320.out (by (with_reducible repeat first|apply ze|apply zf|apply zg);exact BK320.out) hb);replace HB:=zh (zC (by repeat (with_reducible first|exact HB.out|apply za|apply zb|apply zc|refine zd ?_ GE320.out)) hb);(try clear hb);(try clear hb2);(try clear hk);(try clear hi);(try clear ho0);obtain ⟨Ao56,co56,eo56⟩:=yk HO339.out;subst eo56))
 go_loopg [3,64] k (fun kq v3 v64 w' => ∃ (x3_1 : List ByteArray) (x64_1 : Int),v64 = .int .i64 x64_1∧Aside0 (F2.l1 kq x3_1 t337 (t337.length : Int) x64_1=some r)∧Aside0 (kq≤k)∧Aside0 (Kd.R Kd.string 9 w' w.heap.size (fun _ => True) v3 x3_1)∧Aside0 (Kd.R k43 43 w' w.heap.size (fun _ => True) (.slice Ao56 t337.length co56) t337)∧Aside0 (w'.heap[gb320]? = some (.cells #[.int .i64 a0_0,.int .i64 a0_1,.string a0_2] 27 (0,0)))∧Aside0 (Below w.heap.size w w'))
 case atStart => exact ⟨(y321),(0),(by first|rfl|(simp;done)|(simp [*];done)),H',⟨ye _⟩,⟨by (with_reducible repeat (first|apply zm|apply zn|apply zo));exact HO323.out⟩,⟨by (with_reducible repeat (first|apply zm|apply zn|apply zo));exact HO339.out⟩,⟨by (with_reducible repeat first|apply ze|apply zf|apply zg);exact BK320.out⟩,⟨by repeat (with_reducible first|exact HB.out|apply za|apply zb|apply zc|refine zd ?_ GE320.out)⟩⟩
 case round =>
  clear H'
  try clear c1 c2 c2b0 c2b1
  try clear p2
  try clear c3
  try clear p3
  try clear q3
  try clear hx3
  try clear c4
  try clear p6
  try clear c7 c7b0 c7b1 c11 c13 c13b0 c13b1 c18 c19 c20 c20b0 c20b1 c21 c21b0 c21b1 c21b2 c22 c22b0 c22b1 c22b2 c27 c27b0 c27b1
  try clear p33
  try clear q33
  try clear hx33
  try clear c35 c35b0 c36 c36b0 c37 c37b0 c39 c41 c46 c46b0 c46b1 c46b2 c47 c47b0 c47b1 c47b2
  try clear hcz12_0 hcz12_1 hcz12_2
  try clear hcz18_0 hcz18_1 hcz18_2
  try clear hcz26_0 hcz26_1 hcz26_2
  try clear hcz32_0 hcz32_1 hcz32_2
  try clear hcz42_0 hcz42_1 hcz42_2
  try clear hcz54_0 hcz54_1 hcz54_2
  try clear hcz6_0 hcz6_1 hcz6_2
  try clear hfz12_0 hfz12_1 hfz12_2
  try clear hfz18_0 hfz18_1 hfz18_2
  try clear hfz26_0 hfz26_1 hfz26_2
  try clear hfz32_0 hfz32_1 hfz32_2
  try clear hfz42_0 hfz42_1 hfz42_2
  try clear hfz54_0 hfz54_1 hfz54_2
  try clear hfz6_0 hfz6_1 hfz6_2
  try clear hx330_0
  try clear hx330_1
  try clear hx330_2
  try clear p2
  try clear p330
  try clear q330
  obtain ⟨x3_1,x64_1,rfl,HA,HK1,HO_3,HO_62,BK320,HB⟩:=hrel
  cases gk with
  | zero => exact absurd HA.out (by simp [F2.l1])
  | succ k1 =>
   have H:=HA.out;clear HA;simp only [F2.l1] at H
   by_cases c57 : x64_1<(t337.length : Int)
   ·
    rw [if_pos c57] at H
    have c57b0 : decide (x64_1<(t337.length : Int))=true:=decide_eq_true c57;clear c57
    by_cases c58 : 0≤x64_1
    ·
     rw [if_pos c58] at H
     have c58b0 : decide (0≤x64_1)=true:=decide_eq_true c58;clear c58
     by_cases c59 : x64_1<(t337.length : Int)
     ·
      rw [if_pos c59] at H
      have c59b0 : decide (x64_1<(t337.length : Int))=true:=decide_eq_true c59;clear c59
      by_cases c60 : ((rd_T43 t337 x64_1).f0).size + 1≤9223372036854775807
      ·
       rw [if_pos c60] at H
       have c60b0:=eq_true c60;have c60b1 : decide (((rd_T43 t337 x64_1).f0).size + 1≤9223372036854775807)=true:=decide_eq_true c60
       try have c60b2 : (9223372036854775807<((rd_T43 t337 x64_1).f0).size + 1)=False:=eq_false (Nat.not_lt.2 c60)
       replace H:=zT.mp H;obtain ⟨t343,A610,H⟩:=H;replace H : (if (((rd_T43 t337 x64_1).f0) ++ (⟨#[58]⟩ : ByteArray)).size + t343.size≤9223372036854775807 then (if x3_1.length<8796093022208 then (F2.l1 k1 (x3_1 ++ [(((rd_T43 t337 x64_1).f0) ++ (⟨#[58]⟩ : ByteArray)) ++ t343]) t337 (t337.length : Int) (wrap64 (x64_1 + 1))) else (none)) else (none))=some r:=H;have A61:=zh A610;clear A610
       by_cases c62 : (((rd_T43 t337 x64_1).f0) ++ (⟨#[58]⟩ : ByteArray)).size + t343.size≤9223372036854775807
       ·
        rw [if_pos c62] at H
        have c62b0:=eq_true c62;have c62b1 : decide ((((rd_T43 t337 x64_1).f0) ++ (⟨#[58]⟩ : ByteArray)).size + t343.size≤9223372036854775807)=true:=decide_eq_true c62
        try have c62b2 : (9223372036854775807<(((rd_T43 t337 x64_1).f0) ++ (⟨#[58]⟩ : ByteArray)).size + t343.size)=False:=eq_false (Nat.not_lt.2 c62)
        (try have c62b4:=c62b2;simp only [ByteArray.size_append,show (⟨#[58]⟩ : ByteArray).size=1 from rfl] at c62b4)
        by_cases c63 : x3_1.length<8796093022208
        ·
         rw [if_pos c63] at H
         have LMc63:=zh c63;clear c63;obtain ⟨y344,hy344⟩ : ∃ y_ : List ByteArray,y_=(x3_1 ++ [(((rd_T43 t337 x64_1).f0) ++ (⟨#[58]⟩ : ByteArray)) ++ t343]):=⟨_,rfl⟩;replace H : (F2.l1 k1 y344 t337 (t337.length : Int) (wrap64 (x64_1 + 1)))=some r:=by first|(rw [hy344];with_reducible exact H)|(have H2_:=(Option.bind_some _ _).symm.trans H;rw [hy344];with_reducible exact H2_)|(have H2_:=(Option.bind_some _ _).symm.trans H;with_reducible exact H2_)|with_reducible exact H|(rw [hy344];exact H)|exact H
         have Ny344:=zh hy344;clear hy344;have H':=zh H;clear H;have p341 : 0≤(x64_1 : Int):=zy (by first|(with_reducible assumption)|assumption);have q341 : x64_1<(t337.length : Int):=zy (by first|(with_reducible assumption)|assumption);obtain ⟨ad341,e341,hx341_0,hx341_1,hx341_2,hx341_3⟩:=at_T43 (yh HO_62.out).2.2 x64_1 p341 q341
         cases e341
         replace p341:=eq_true p341;replace q341:=eq_true q341
         try go_wp2_with (first|((with_reducible refine zK (N:=11) rfl ?_);refine zI ?hg (N:=11) ?hd (cs:=#[.string (⟨#[]⟩ : ByteArray),.int .i64 0,.int .i64 0,.string (⟨#[]⟩ : ByteArray)]) (t:=43) ?hr ?_;(case hd|hg => rfl);(case hr => go_simp <;> rfl);intro gb342 hg w64 hbox hb;replace HO_3:=zh (yg (by (with_reducible repeat (first|apply zm|apply zn|apply zo));exact HO_3.out) hb);replace HO_62:=zh (yg (Kd.R_elderB (by (with_reducible repeat (first|apply zm|apply zn|apply zo));exact HO_62.out) gb342 (Nat.le_of_eq hg.symm)) hb);have BK342:=zh (hbox);have hH_:=cH (by repeat (with_reducible first|exact HB.out|apply za|apply zb|apply zc|refine zd ?_ GE320.out)) hb hg;have GW342:=zh hH_.1;have GE342:=GW342;replace HB:=zh hH_.2;have NB320_342:=zh ((by rw [hg];exact yc (yi (g:=gb320) (o:=.cells #[.int .i64 a0_0,.int .i64 a0_1,.string a0_2] 27 (0,0)) (by (with_reducible repeat first|apply ze|apply zf|apply zg);exact BK320.out)) : gb320≠gb342));have NB342_320:=zh NB320_342.out.symm;replace BK320:=zh (cD BK320.out (by (with_reducible repeat first|apply ze|apply zf|apply zg);exact BK320.out) hb);clear hb hbox hg hH_;have hnb65:=NB342_320.out;have hnc65:=NB320_342.out;obtain ⟨hcz66_0,hcz66_1,hcz66_2,hcz66_3,hfz66_0,hfz66_1,hfz66_2,hfz66_3⟩:=cB4 BK342.out))
         have n0_ : Aside0 (Kd.R Kd.string 9 ((((w64.setCell ⟨gb342,0,none⟩ (.string ((rd_T43 t337 x64_1).f0))).setCell ⟨gb342,1,none⟩ (.int .i64 ((rd_T43 t337 x64_1).f1.f0))).setCell ⟨gb342,2,none⟩ (.int .i64 ((rd_T43 t337 x64_1).f1.f1))).setCell ⟨gb342,3,none⟩ (.string ((rd_T43 t337 x64_1).f1.f2))) w.heap.size (fun _ => True) u3 x3_1):=⟨by (with_reducible repeat (first|apply zm|apply zn|apply zo));exact zM (zE (p:=⟨gb342,3,none⟩) (zE (p:=⟨gb342,2,none⟩) (zE (p:=⟨gb342,1,none⟩) (zE (p:=⟨gb342,0,none⟩) (yf HO_3.out BK342.out (by decide)) (fun _ hk => hk.2) (.string ((rd_T43 t337 x64_1).f0))) (fun _ hk => hk.2) (.int .i64 ((rd_T43 t337 x64_1).f1.f0))) (fun _ hk => hk.2) (.int .i64 ((rd_T43 t337 x64_1).f1.f1))) (fun _ hk => hk.2) (.string ((rd_T43 t337 x64_1).f1.f2))) (fun _ hk => trivial)⟩;have n1_ : Aside0 (Kd.R k43 43 ((((w64.setCell ⟨gb342,0,none⟩ (.string ((rd_T43 t337 x64_1).f0))).setCell ⟨gb342,1,none⟩ (.int .i64 ((rd_T43 t337 x64_1).f1.f0))).setCell ⟨gb342,2,none⟩ (.int .i64 ((rd_T43 t337 x64_1).f1.f1))).setCell ⟨gb342,3,none⟩ (.string ((rd_T43 t337 x64_1).f1.f2))) w.heap.size (fun k_ => k_≠gb342) (.slice (some ad341) t337.length co56) t337):=⟨by (with_reducible repeat (first|apply zm|apply zn|apply zo));exact zM (zE (p:=⟨gb342,3,none⟩) (zE (p:=⟨gb342,2,none⟩) (zE (p:=⟨gb342,1,none⟩) (zE (p:=⟨gb342,0,none⟩) (zM HO_62.out (fun k_ hk => (⟨hk,hk.2⟩ : _∧k_≠gb342))) (fun _ hk => hk.2) (.string ((rd_T43 t337 x64_1).f0))) (fun _ hk => hk.2) (.int .i64 ((rd_T43 t337 x64_1).f1.f0))) (fun _ hk => hk.2) (.int .i64 ((rd_T43 t337 x64_1).f1.f1))) (fun _ hk => hk.2) (.string ((rd_T43 t337 x64_1).f1.f2))) (fun _ hk => hk.1.2)⟩;have n2_ : Aside0 (((((w64.setCell ⟨gb342,0,none⟩ (.string ((rd_T43 t337 x64_1).f0))).setCell ⟨gb342,1,none⟩ (.int .i64 ((rd_T43 t337 x64_1).f1.f0))).setCell ⟨gb342,2,none⟩ (.int .i64 ((rd_T43 t337 x64_1).f1.f1))).setCell ⟨gb342,3,none⟩ (.string ((rd_T43 t337 x64_1).f1.f2))).heap[gb320]? = some (.cells #[.int .i64 a0_0,.int .i64 a0_1,.string a0_2] 27 (0,0))):=⟨by (with_reducible repeat first|apply ze|apply zf|apply zg);refine cS4 ?_ NB320_342.out;(with_reducible repeat first|apply ze|apply zf|apply zg);exact BK320.out⟩;have n3_ : Aside0 (((((w64.setCell ⟨gb342,0,none⟩ (.string ((rd_T43 t337 x64_1).f0))).setCell ⟨gb342,1,none⟩ (.int .i64 ((rd_T43 t337 x64_1).f1.f0))).setCell ⟨gb342,2,none⟩ (.int .i64 ((rd_T43 t337 x64_1).f1.f1))).setCell ⟨gb342,3,none⟩ (.string ((rd_T43 t337 x64_1).f1.f2))).heap[gb342]? = some (.cells #[.string ((rd_T43 t337 x64_1).f0),.int .i64 ((rd_T43 t337 x64_1).f1.f0),.int .i64 ((rd_T43 t337 x64_1).f1.f1),.string ((rd_T43 t337 x64_1).f1.f2)] 43 (0,0))):=⟨by (with_reducible repeat first|apply ze|apply zf|apply zg);refine zL (cs:=#[.string ((rd_T43 t337 x64_1).f0),.int .i64 ((rd_T43 t337 x64_1).f1.f0),.int .i64 ((rd_T43 t337 x64_1).f1.f1),.string (⟨#[]⟩ : ByteArray)]) ?_ 3 _ rfl;(with_reducible repeat first|apply ze|apply zf|apply zg);refine zL (cs:=#[.string ((rd_T43 t337 x64_1).f0),.int .i64 ((rd_T43 t337 x64_1).f1.f0),.int .i64 0,.string (⟨#[]⟩ : ByteArray)]) ?_ 2 _ rfl;(with_reducible repeat first|apply ze|apply zf|apply zg);refine zL (cs:=#[.string ((rd_T43 t337 x64_1).f0),.int .i64 0,.int .i64 0,.string (⟨#[]⟩ : ByteArray)]) ?_ 1 _ rfl;(with_reducible repeat first|apply ze|apply zf|apply zg);refine zL (cs:=#[.string (⟨#[]⟩ : ByteArray),.int .i64 0,.int .i64 0,.string (⟨#[]⟩ : ByteArray)]) ?_ 0 _ rfl;(with_reducible repeat first|apply ze|apply zf|apply zg);exact BK342.out⟩;have n4_ : Aside0 (Below w.heap.size w ((((w64.setCell ⟨gb342,0,none⟩ (.string ((rd_T43 t337 x64_1).f0))).setCell ⟨gb342,1,none⟩ (.int .i64 ((rd_T43 t337 x64_1).f1.f0))).setCell ⟨gb342,2,none⟩ (.int .i64 ((rd_T43 t337 x64_1).f1.f1))).setCell ⟨gb342,3,none⟩ (.string ((rd_T43 t337 x64_1).f1.f2)))):=⟨by repeat (with_reducible first|exact HB.out|apply za|apply zb|apply zc|refine zd ?_ GE320.out|refine zd ?_ GE342.out)⟩;(try clear HO_3);(try clear HO_62);(try clear BK320);(try clear BK342);(try clear HB);generalize ((((w64.setCell ⟨gb342,0,none⟩ (.string ((rd_T43 t337 x64_1).f0))).setCell ⟨gb342,1,none⟩ (.int .i64 ((rd_T43 t337 x64_1).f1.f0))).setCell ⟨gb342,2,none⟩ (.int .i64 ((rd_T43 t337 x64_1).f1.f1))).setCell ⟨gb342,3,none⟩ (.string ((rd_T43 t337 x64_1).f1.f2)))=w67 at n0_ n1_ n2_ n3_ n4_ ⊢;have HO_3:=n0_;have HO_62:=n1_;have BK320:=n2_;have BK342:=n3_;have HB:=n4_;clear n0_ n1_ n2_ n3_ n4_;replace HO_3:=zh (zo HO_3.out);replace HO_62:=zh (zo HO_62.out);replace BK320:=zh (zf BK320.out);replace BK342:=zh (zf BK342.out);replace HB:=zh (zc HB.out);refine start_ (n:=11) (S:=fun w' => w'.cell? ⟨gb342,0,none⟩=some (.string ((rd_T43 t337 x64_1).f0))∧w'.cell? ⟨gb342,1,none⟩=some (.int .i64 ((rd_T43 t337 x64_1).f1.f0))∧w'.cell? ⟨gb342,2,none⟩=some (.int .i64 ((rd_T43 t337 x64_1).f1.f1))∧w'.cell? ⟨gb342,3,none⟩=some (.string ((rd_T43 t337 x64_1).f1.f2))) (ds:=[]) (bm_ 0 11) (by kernel_rfl) rfl rfl ⟨(zz BK342.out 0).trans rfl,(zz BK342.out 1).trans rfl,(zz BK342.out 2).trans rfl,(zz BK342.out 3).trans rfl⟩ (fun hHeld => ?_);refine with_tabW F2.tab23 F2.bits23 (fun HT_ HW_ => ?_);generalize w67.drew=w68 at HO_3 HO_62 BK320 BK342 HB hHeld ⊢;refine pure_ (i:=0) (N:=some 68) (v:=?_) (a':=?_) (bm_ 1 11) rfl rfl (any_of HT_.out (by kernel_rfl)) (fun _ _ _ h => h) (Or.inl ⟨by rfl,?_⟩) ?_ ?_;rotate_left
         ·
          intro w'
          go_simp
          with_reducible rfl
         rotate_left
         ·
          simp only [Act.put,zi,zj,zk,zG,zH]
          rfl
         refine pure_ (i:=1) (N:=some 69) (v:=?_) (a':=?_) (bm_ 2 11) rfl rfl (any_of HT_.out (by kernel_rfl)) (fun _ _ _ h => h) (Or.inl ⟨by rfl,?_⟩) ?_ ?_;rotate_left
         ·
          intro w'
          go_simp
          with_reducible rfl
         rotate_left
         ·
          simp only [Act.put,zi,zj,zk,zG,zH]
          rfl
         refine pure_ (i:=4) (N:=some 72) (v:=?_) (a':=?_) #[true,true,false,false,true,false,false,false,false,false,false] rfl rfl (any_of HT_.out (by kernel_rfl)) (fun _ _ _ h => h) (Or.inl ⟨by rfl,?_⟩) ?_ ?_;rotate_left
         ·
          intro w'
          go_simp
          with_reducible rfl
         rotate_left
         ·
          simp only [Act.put,zi,zj,zk,zG,zH]
          rfl
         refine take_ (i:=2) (N:=some 70) (v:=?_) (a':=?_) #[true,true,true,false,true,false,false,false,false,false,false] rfl rfl (yo HT_.out HW_.out (by kernel_rfl)) (fun _ _ _ h => h) (Or.inl ⟨by rfl,?_⟩) hHeld ?_ ?_;rotate_left
         ·
          rintro w' ⟨s0,s1,s2,s3⟩
          go_simp
          with_reducible rfl
         rotate_left
         ·
          simp only [Act.put,zi,zj,zk,zG,zH]
          rfl
         refine pure_ (i:=3) (N:=some 71) (v:=?_) (a':=?_) (bm_ 5 11) rfl rfl (any_of HT_.out (by kernel_rfl)) (fun _ _ _ h => h) (Or.inl ⟨by rfl,?_⟩) ?_ ?_;rotate_left
         ·
          intro w'
          go_simp
          with_reducible rfl
         rotate_left
         ·
          simp only [Act.put,zi,zj,zk,zG,zH]
          rfl
         refine take_ (i:=5) (N:=some 73) (v:=?_) (a':=?_) (bm_ 6 11) rfl rfl (yo HT_.out HW_.out (by kernel_rfl)) (fun _ _ _ h => h) (Or.inl ⟨by rfl,?_⟩) hHeld ?_ ?_;rotate_left
         ·
          rintro w' ⟨s0,s1,s2,s3⟩
          go_simp
          with_reducible rfl
         rotate_left
         ·
          simp only [Act.put,zi,zj,zk,zG,zH]
          rfl
         refine one_ (i:=6) (N:=some 74) (bm_ 7 11) rfl rfl (one_of HT_.out (by kernel_rfl)) (by decide) (fun K hK => ?_);refine goes_ Tryd.func11 (by kernel_rfl) rfl #[.agg #[.int .i64 ((rd_T43 t337 x64_1).f1.f0),.int .i64 ((rd_T43 t337 x64_1).f1.f1),.string ((rd_T43 t337 x64_1).f1.f2)]] (by rfl) rfl rfl (by (try simp only [zt,zu,zv]);first|done|rfl|(simp only [zw,zx];rfl)|(simp only [yr,ys,zV,zW];rfl)) ?_
         with_reducible refine (ih k1 (by have:=HK1.out;omega)  ((rd_T43 t337 x64_1).f1.f0) ((rd_T43 t337 x64_1).f1.f1) ((rd_T43 t337 x64_1).f1.f2) t343 _ A61.out (htab_.out.below (by repeat (with_reducible first|exact HB.out|apply za|apply zb|apply zc|refine zd ?_ GE320.out|refine zd ?_ GE331.out|refine zd ?_ GE342.out)))).mono ?_
         rintro e w69 ⟨rfl,hb⟩;refine ⟨_,rfl,?_⟩;replace HO_3:=zh (yg (by (with_reducible repeat (first|apply zm|apply zn|apply zo));exact HO_3.out) hb);replace HO_62:=zh (yg (by (with_reducible repeat (first|apply zm|apply zn|apply zo));exact HO_62.out) hb);replace BK320:=zh (cD BK320.out (by (with_reducible repeat first|apply ze|apply zf|apply zg);exact BK320.out) hb);replace BK342:=zh (cD BK342.out (by (with_reducible repeat first|apply ze|apply zf|apply zg);exact BK342.out) hb);replace HB:=zh (zC (by repeat (with_reducible first|exact HB.out|apply za|apply zb|apply zc|refine zd ?_ GE320.out|refine zd ?_ GE342.out)) hb);(try clear hb);(try clear hb2);(try clear hk);(try clear hi);refine hK.out _ _ ⟨(zz BK342.out 0).trans rfl,(zz BK342.out 1).trans rfl,(zz BK342.out 2).trans rfl,(zz BK342.out 3).trans rfl⟩ (fun hHeld => ?_);clear hK K;refine norm_ (a':=?_) ?_ ?_;rotate_left
         ·
          show Act.put _ (some 74) _=_
          simp only [Act.put,zi,zj,zk,zG,zH]
          rfl
         refine pure_ (i:=7) (N:=some 75) (v:=?_) (a':=?_) (bm_ 8 11) rfl rfl (any_of HT_.out (by kernel_rfl)) (fun _ _ _ h => h) (Or.inl ⟨by rfl,?_⟩) ?_ ?_;rotate_left
         ·
          intro w'
          go_simp
          with_reducible rfl
         rotate_left
         ·
          simp only [Act.put,zi,zj,zk,zG,zH]
          rfl
         refine one_ (i:=8) (N:=some 76) (bm_ 9 11) rfl rfl (one_of HT_.out (by kernel_rfl)) (by decide) (fun K hK => ?_);refine value_ (w1:=?_) (v:=?_) (by rfl) rfl ?_ ?_;rotate_left 2
         ·
          go_simp
          constructor
          ·
           rfl
          rfl
         refine hK.out _ _ ⟨(zz (zg BK342.out _) 0).trans rfl,(zz (zg BK342.out _) 1).trans rfl,(zz (zg BK342.out _) 2).trans rfl,(zz (zg BK342.out _) 3).trans rfl⟩ (fun hHeld => ?_);clear hK K;refine norm_ (a':=?_) ?_ ?_;rotate_left
         ·
          show Act.put _ (some 76) _=_
          simp only [Act.put,zi,zj,zk,zG,zH]
          rfl
         refine one_ (i:=9) (N:=some 77) (bm_ 10 11) rfl rfl (one_of HT_.out (by kernel_rfl)) (by decide) (fun K hK => ?_);refine Kd.R_append_step Kd.string (w0:=w) w.heap.size (by rfl) (.tmp 68) (.tmp 76) 33 9 (.string ⟨#[]⟩) 16 rfl Tryd.underlying33 info9 rfl (by decide) (by omega) u3 x3_1 ((((rd_T43 t337 x64_1).f0) ++ (⟨#[58]⟩ : ByteArray)) ++ t343) [.string ((((rd_T43 t337 x64_1).f0) ++ (⟨#[58]⟩ : ByteArray)) ++ t343)] (fun _ => True) (fun _ => False) rfl rfl ?aP (fun _ hk => hk.elim) ?aF ?aO ?aB ?aS ?aL ?_;(case aP => exact rfl)
         (case aB => exact (by repeat (with_reducible first|exact HB.out|apply za|apply zb|apply zc|refine zd ?_ GE320.out|refine zd ?_ GE342.out)))
         (case aF => exact (fun _ _ => trivial))
         (case aO => exact (by (with_reducible repeat (first|apply zm|apply zn|apply zo));exact HO_3.out))
         (case aS => exact (zB (by repeat (with_reducible first|exact HB.out|apply za|apply zb|apply zc|refine zd ?_ GE320.out|refine zd ?_ GE342.out))))
         (case aL => have:=LMc63.out;omega)
         intro v345 w70 ho hb hg hat;rw [← Ny344.out] at ho;replace HO_62:=zh (Kd.R_over' (by (with_reducible repeat (first|apply zm|apply zn|apply zo));exact HO_62.out) (Kd.R_typed (by (with_reducible repeat (first|apply zm|apply zn|apply zo));exact HO_3.out)) (by decide) hg);replace BK320:=zh (yw (g:=gb320) (o:=.cells #[.int .i64 a0_0,.int .i64 a0_1,.string a0_2] 27 (0,0)) (by (with_reducible repeat first|apply ze|apply zf|apply zg);exact BK320.out) hg (Kd.R_ne HO_3.out BK320.out (by decide)));replace BK342:=zh (yw (g:=gb342) (o:=.cells #[.string ((rd_T43 t337 x64_1).f0),.int .i64 ((rd_T43 t337 x64_1).f1.f0),.int .i64 ((rd_T43 t337 x64_1).f1.f1),.string ((rd_T43 t337 x64_1).f1.f2)] 43 (0,0)) (by (with_reducible repeat first|apply ze|apply zf|apply zg);exact BK342.out) hg (Kd.R_ne HO_3.out BK342.out (by decide)));replace HB:=zh (hb);have HO346:=zh (ho);clear HO_3 ho hb hg hat;refine hK.out _ _ ⟨(zz BK342.out 0).trans rfl,(zz BK342.out 1).trans rfl,(zz BK342.out 2).trans rfl,(zz BK342.out 3).trans rfl⟩ (fun hHeld => ?_);clear hK K;refine norm_ (a':=?_) ?_ ?_;rotate_left
         ·
          show Act.put _ (some 77) _=_
          simp only [Act.put,zi,zj,zk,zG,zH]
          rfl
         refine pure_ (i:=10) (N:=some 3) (v:=?_) (a':=?_) (bm_ 11 11) rfl rfl (any_of HT_.out (by kernel_rfl)) (fun _ _ _ h => h) (Or.inl ⟨by rfl,?_⟩) ?_ ?_;rotate_left
         ·
          intro w'
          go_simp
          with_reducible rfl
         rotate_left
         ·
          simp only [Act.put,zi,zj,zk,zG,zH]
          rfl
         refine done_ (done_of HT_.out (by kernel_rfl)) ?_
         try go_wp2
         go_roundg k1
         case measure => have:=HK1.out;omega
         case rel => exact ⟨(y344),(wrap64 (x64_1 + 1)),(by first|rfl|(simp;done)|(simp [*];done)),H',⟨by have:=HK1.out;omega⟩,⟨by (with_reducible repeat (first|apply zm|apply zn|apply zo));exact HO346.out⟩,⟨by (with_reducible repeat (first|apply zm|apply zn|apply zo));exact zM HO_62.out (fun _ hk => trivial)⟩,⟨by (with_reducible repeat first|apply ze|apply zf|apply zg);exact BK320.out⟩,⟨by repeat (with_reducible first|exact HB.out|apply za|apply zb|apply zc|refine zd ?_ GE320.out|refine zd ?_ GE342.out)⟩⟩
        rw [if_neg c63] at H;exact absurd H (by simp)
       rw [if_neg c62] at H;exact absurd H (by simp)
      rw [if_neg c60] at H;exact absurd H (by simp)
     rw [if_neg c59] at H;exact absurd H (by simp)
    rw [if_neg c58] at H;exact absurd H (by simp)
   rw [if_neg c57] at H;have c57b0 : decide (x64_1<(t337.length : Int))=false:=decide_eq_false c57;clear c57;replace H:=zT.mp H;obtain ⟨t347,A710,H⟩:=H;replace H : (if 1 + t347.size≤9223372036854775807 then (if ((⟨#[123]⟩ : ByteArray) ++ t347).size + 1≤9223372036854775807 then (some (((⟨#[123]⟩ : ByteArray) ++ t347) ++ (⟨#[125]⟩ : ByteArray))) else (none)) else (none))=some r:=H;have A71:=zh A710;clear A710
   by_cases c72 : 1 + t347.size≤9223372036854775807
   ·
    rw [if_pos c72] at H
    have c72b0:=eq_true c72;have c72b1 : decide (1 + t347.size≤9223372036854775807)=true:=decide_eq_true c72
    try have c72b2 : (9223372036854775807<1 + t347.size)=False:=eq_false (Nat.not_lt.2 c72)
    by_cases c73 : ((⟨#[123]⟩ : ByteArray) ++ t347).size + 1≤9223372036854775807
    ·
     rw [if_pos c73] at H
     have c73b0:=eq_true c73;have c73b1 : decide (((⟨#[123]⟩ : ByteArray) ++ t347).size + 1≤9223372036854775807)=true:=decide_eq_true c73
     try have c73b2 : (9223372036854775807<((⟨#[123]⟩ : ByteArray) ++ t347).size + 1)=False:=eq_false (Nat.not_lt.2 c73)
     (try have c73b4:=c73b2;simp only [ByteArray.size_append,show (⟨#[123]⟩ : ByteArray).size=1 from rfl] at c73b4);obtain rfl:=zU H;obtain ⟨Ao74,co74,eo74⟩:=yk HO_3.out;subst eo74
     go_wp2_with (first|((with_reducible refine zJ (f:=21) rfl ?_);refine yj (some 80) rfl rfl Tryd.func21 (by kernel_rfl) rfl #[.slice Ao74 x3_1.length co74,.string (⟨#[44]⟩ : ByteArray)] rfl (by (try simp only [zt,zu,zv]);first|done|rfl|(simp only [zw,zx];rfl)|(simp only [yr,ys,zV,zW];rfl)) ?_;(with_reducible refine (strings_Join.calls  _ _ x3_1 (⟨#[44]⟩ : ByteArray) t347 _ ?side1 ?side2 A71.out).mono ?_);(case side1 => repeat (first|exact (yh HO_3.out).2.2|(with_reducible refine Kd.C_alloc ?_ _)|(with_reducible refine Kd.C_drewN ?_ _)|(with_reducible refine Kd.C_drew ?_)));(case side2 => exact (yh HO_3.out).2.1);rintro e w75 ⟨rfl,hb⟩;refine ⟨_,rfl,?_⟩;replace HO_3:=zh (yg (by (with_reducible repeat (first|apply zm|apply zn|apply zo));exact HO_3.out) hb);replace HO_62:=zh (yg (by (with_reducible repeat (first|apply zm|apply zn|apply zo));exact HO_62.out) hb);replace BK320:=zh (cD BK320.out (by (with_reducible repeat first|apply ze|apply zf|apply zg);exact BK320.out) hb);replace HB:=zh (zC (by repeat (with_reducible first|exact HB.out|apply za|apply zb|apply zc|refine zd ?_ GE320.out)) hb);(try clear hb);(try clear hb2);(try clear hk);(try clear hi)))
     go_ret
     exact ⟨by first|rfl|(simp [yt,yu] <;> rfl)|(simp [*,yt,yu] <;> rfl),by repeat (with_reducible first|exact HB.out|apply za|apply zb|apply zc|refine zd ?_ GE320.out)⟩
    rw [if_neg c73] at H;exact absurd H (by simp)
   rw [if_neg c72] at H;exact absurd H (by simp)

end Go.Proofs.YtjaknpeeopkojaaDoor.Q
end
section
namespace Go.Proofs.YtjaknpeeopkojaaDoor.Q
open Go.RowKit Go.Proofs.YtjaknpeeopkojaaDoorW.PrintWords Go.Proofs.YtjaknpeeopkojaaDoorW.PrintLast Go.Proofs.YtjaknpeeopkojaaDoorW.PrintMore
attribute [local go_sem] max2_int min2_int max_two min_two max_three min_three max_four min_four max2_str min2_str str_geq str_gtr str_leq
set_option linter.unusedVariables false
set_option linter.unusedSimpArgs false

def Fn.f (k : Nat) (a0_0 : Int) (a0_1 : Int) (a0_2 : ByteArray) : Option (ByteArray×Int):=(Fr.f k a0_0 a0_1 a0_2).bind fun t349 => (if t349=true then ((F2.f k a0_0 a0_1 a0_2).bind fun t350 => (some (t350,0))) else (some ((⟨#[]⟩ : ByteArray),1)))
theorem Fn.mono : ∀ a0 a1 a2 k,LeO (Fn.f k a0 a1 a2) (Fn.f (k + 1) a0 a1 a2):=by
 intro a0 a1 a2 k;unfold Fn.f
 repeat' first|(with_reducible first|exact Fr.mono _ _ _ _|exact F2.mono _ _ _ _|exact zQ _|exact zN _|refine zP ?_ ?_|refine zO ?_ (fun _ => ?_))|refine zP ?_ ?_|refine zO ?_ (fun _ => ?_)
set_option maxHeartbeats 8000000 in
set_option maxRecDepth 100000 in
theorem Fn.calls (k : Nat) (a0_0 : Int) (a0_1 : Int) (a0_2 : ByteArray) (r1 : ByteArray) (r2 : Int) (w : World) (h : Fn.f k a0_0 a0_1 a0_2=some (r1,r2)) (htab0_ : Pow10 w) :
  Calls Tryd.prog 7 #[.agg #[.int .i64 a0_0,.int .i64 a0_1,.string a0_2]] w fun e w' => e = .returned (.tuple #[.string r1,.int .i64 r2])∧Below w.heap.size w w':=by
 have hu27:=Tryd.underlying27;have htab_:=zh htab0_;clear htab0_;have HB:=zh (Below.refl w.heap.size w);have H : ((Fr.f k a0_0 a0_1 a0_2).bind fun t349 => (if t349=true then ((F2.f k a0_0 a0_1 a0_2).bind fun t350 => (some (t350,0))) else (some ((⟨#[]⟩ : ByteArray),1))))=some (r1,r2):=h;clear h;replace H:=zT.mp H;obtain ⟨t349,A20,H⟩:=H;replace H : (if t349=true then ((F2.f k a0_0 a0_1 a0_2).bind fun t350 => (some (t350,0))) else (some ((⟨#[]⟩ : ByteArray),1)))=some (r1,r2):=H;have A2:=zh A20;clear A20
 by_cases c3 : t349=true
 ·
  subst c3
  have H1 : ((F2.f k a0_0 a0_1 a0_2).bind fun t350 => (some (t350,0)))=some (r1,r2):=by rw [if_pos rfl] at H;exact H
  clear H;have H:=H1;clear H1;replace H:=zT.mp H;obtain ⟨t350,A40,H⟩:=H;replace H : (some (t350,0))=some (r1,r2):=H;have A4:=zh A40;clear A40;simp only [Option.some.injEq,Prod.mk.injEq] at H;obtain ⟨rfl,rfl⟩:=H
  go_enter Tryd.func7,Tryd.ntmps7
  go_wp2_with (first|((with_reducible refine zK (N:=1) rfl ?_);refine zI ?hg (N:=1) ?hd (cs:=#[.int .i64 a0_0,.int .i64 a0_1,.string a0_2]) (t:=27) ?hr ?_;(case hd|hg => rfl);(case hr => go_simp <;> rfl);intro gb348 hg w5 hbox hb;have BK348:=zh (hbox);have hH_:=cH (by repeat (with_reducible first|exact HB.out|apply za|apply zb|apply zc)) hb hg;have GW348:=zh hH_.1;have GE348:=GW348;replace HB:=zh hH_.2;clear hb hbox hg hH_;obtain ⟨hcz6_0,hcz6_1,hcz6_2,hfz6_0,hfz6_1,hfz6_2⟩:=cB3 BK348.out)|((with_reducible refine zJ (f:=10) rfl ?_);refine yj (some 5) rfl rfl Tryd.func10 (by kernel_rfl) rfl #[.agg #[.int .i64 a0_0,.int .i64 a0_1,.string a0_2]] rfl (by (try simp only [zt,zu,zv]);first|done|rfl|(simp only [zw,zx];rfl)|(simp only [yr,ys,zV,zW];rfl)) ?_;(with_reducible refine (Fr.calls k  a0_0 a0_1 a0_2 true _ A2.out).mono ?_);rintro e w7 ⟨rfl,hb⟩;refine ⟨_,rfl,?_⟩;replace BK348:=zh (cD BK348.out (by (with_reducible repeat first|apply ze|apply zf|apply zg);exact BK348.out) hb);replace HB:=zh (zC (by repeat (with_reducible first|exact HB.out|apply za|apply zb|apply zc|refine zd ?_ GE348.out)) hb);(try clear hb);(try clear hb2);(try clear hk);(try clear hi);obtain ⟨hcz8_0,hcz8_1,hcz8_2,hfz8_0,hfz8_1,hfz8_2⟩:=cB3 BK348.out)|((with_reducible refine zJ (f:=11) rfl ?_);refine yj (some 8) rfl rfl Tryd.func11 (by kernel_rfl) rfl #[.agg #[.int .i64 a0_0,.int .i64 a0_1,.string a0_2]] rfl (by (try simp only [zt,zu,zv]);first|done|rfl|(simp only [zw,zx];rfl)|(simp only [yr,ys,zV,zW];rfl)) ?_;(with_reducible refine (F2.calls k  a0_0 a0_1 a0_2 t350 _ A4.out (htab_.out.below (by repeat (with_reducible first|exact HB.out|apply za|apply zb|apply zc|refine zd ?_ GE348.out)))).mono ?_);rintro e w9 ⟨rfl,hb⟩;refine ⟨_,rfl,?_⟩;replace BK348:=zh (cD BK348.out (by (with_reducible repeat first|apply ze|apply zf|apply zg);exact BK348.out) hb);replace HB:=zh (zC (by repeat (with_reducible first|exact HB.out|apply za|apply zb|apply zc|refine zd ?_ GE348.out)) hb);(try clear hb);(try clear hb2);(try clear hk);(try clear hi)))
  go_ret2
  exact ⟨by first|rfl|(simp [yt,yu] <;> rfl)|(simp [*,yt,yu] <;> rfl),by repeat (with_reducible first|exact HB.out|apply za|apply zb|apply zc|refine zd ?_ GE348.out)⟩
 replace c3:=yb.mpr c3;subst c3;have H1 : (some ((⟨#[]⟩ : ByteArray),1))=some (r1,r2):=by rw [if_neg (show ¬ (false=true) by decide)] at H;exact H
 clear H;have H:=H1;clear H1;simp only [Option.some.injEq,Prod.mk.injEq] at H;obtain ⟨rfl,rfl⟩:=H
 go_enter Tryd.func7,Tryd.ntmps7
 go_wp2_with (first|((with_reducible refine zK (N:=1) rfl ?_);refine zI ?hg (N:=1) ?hd (cs:=#[.int .i64 a0_0,.int .i64 a0_1,.string a0_2]) (t:=27) ?hr ?_;(case hd|hg => rfl);(case hr => go_simp <;> rfl);intro gb348 hg w10 hbox hb;have BK348:=zh (hbox);have hH_:=cH (by repeat (with_reducible first|exact HB.out|apply za|apply zb|apply zc)) hb hg;have GW348:=zh hH_.1;have GE348:=GW348;replace HB:=zh hH_.2;clear hb hbox hg hH_;obtain ⟨hcz11_0,hcz11_1,hcz11_2,hfz11_0,hfz11_1,hfz11_2⟩:=cB3 BK348.out)|((with_reducible refine zJ (f:=10) rfl ?_);refine yj (some 5) rfl rfl Tryd.func10 (by kernel_rfl) rfl #[.agg #[.int .i64 a0_0,.int .i64 a0_1,.string a0_2]] rfl (by (try simp only [zt,zu,zv]);first|done|rfl|(simp only [zw,zx];rfl)|(simp only [yr,ys,zV,zW];rfl)) ?_;(with_reducible refine (Fr.calls k  a0_0 a0_1 a0_2 false _ A2.out).mono ?_);rintro e w12 ⟨rfl,hb⟩;refine ⟨_,rfl,?_⟩;replace BK348:=zh (cD BK348.out (by (with_reducible repeat first|apply ze|apply zf|apply zg);exact BK348.out) hb);replace HB:=zh (zC (by repeat (with_reducible first|exact HB.out|apply za|apply zb|apply zc|refine zd ?_ GE348.out)) hb);(try clear hb);(try clear hb2);(try clear hk);(try clear hi)))
 go_ret2
 exact ⟨by first|rfl|(simp [yt,yu] <;> rfl)|(simp [*,yt,yu] <;> rfl),by repeat (with_reducible first|exact HB.out|apply za|apply zb|apply zc|refine zd ?_ GE348.out)⟩


def Fv.f (k : Nat) (a0_0 : Int) (a0_1 : Int) (a0_2 : ByteArray) : Option (Bool):=(F00.f a0_0 a0_1 a0_2 1048576).bind fun t352 => (if t352<0 then (some true) else ((Fp.f a0_0 a0_1 a0_2).bind fun bt353 => ((Fq.f k bt353.1 bt353.2.1 bt353.2.2).bind fun bt356 => ((Fp.f a0_0 a0_1 a0_2).bind fun bt358 => ((Fn.f k bt358.1 bt358.2.1 bt358.2.2).bind fun bt361 => (if bt361.1.toList=bt356.1.toList then (if bt361.2=bt356.2 then (some true) else (some false)) else (some false)))))))
theorem Fv.mono : ∀ a0 a1 a2 k,LeO (Fv.f k a0 a1 a2) (Fv.f (k + 1) a0 a1 a2):=by
 intro a0 a1 a2 k;unfold Fv.f
 repeat' first|(with_reducible first|exact Fq.mono _ _ _ _|exact Fn.mono _ _ _ _|exact zQ _|exact zN _|refine zP ?_ ?_|refine zO ?_ (fun _ => ?_))|refine zP ?_ ?_|refine zO ?_ (fun _ => ?_)
set_option maxHeartbeats 8000000 in
set_option maxRecDepth 100000 in
theorem Fv.calls (k : Nat) (a0_0 : Int) (a0_1 : Int) (a0_2 : ByteArray) (r : Bool) (w : World) (h : Fv.f k a0_0 a0_1 a0_2=some r) (htab0_ : Pow10 w) :
  Calls Tryd.prog 3 #[.agg #[.int .i64 a0_0,.int .i64 a0_1,.string a0_2]] w fun e w' => e = .returned (.bool r)∧Below w.heap.size w w':=by
 have hu23:=Tryd.underlying23;have htab_:=zh htab0_;clear htab0_;have HB:=zh (Below.refl w.heap.size w);have H : ((F00.f a0_0 a0_1 a0_2 1048576).bind fun t352 => (if t352<0 then (some true) else ((Fp.f a0_0 a0_1 a0_2).bind fun bt353 => ((Fq.f k bt353.1 bt353.2.1 bt353.2.2).bind fun bt356 => ((Fp.f a0_0 a0_1 a0_2).bind fun bt358 => ((Fn.f k bt358.1 bt358.2.1 bt358.2.2).bind fun bt361 => (if bt361.1.toList=bt356.1.toList then (if bt361.2=bt356.2 then (some true) else (some false)) else (some false))))))))=some r:=h;clear h;replace H:=zT.mp H;obtain ⟨t352,A20,H⟩:=H;replace H : (if t352<0 then (some true) else ((Fp.f a0_0 a0_1 a0_2).bind fun bt353 => ((Fq.f k bt353.1 bt353.2.1 bt353.2.2).bind fun bt356 => ((Fp.f a0_0 a0_1 a0_2).bind fun bt358 => ((Fn.f k bt358.1 bt358.2.1 bt358.2.2).bind fun bt361 => (if bt361.1.toList=bt356.1.toList then (if bt361.2=bt356.2 then (some true) else (some false)) else (some false)))))))=some r:=H;have A2:=zh A20;clear A20
 by_cases c3 : t352<0
 ·
  rw [if_pos c3] at H
  have c3b0 : decide (t352<0)=true:=decide_eq_true c3;clear c3;obtain rfl:=zU H
  go_enter Tryd.func3,Tryd.ntmps3
  go_wp2_with (first|((with_reducible refine zK (N:=1) rfl ?_);refine zI ?hg (N:=1) ?hd (cs:=#[.int .i64 a0_0,.int .i64 a0_1,.string a0_2]) (t:=23) ?hr ?_;(case hd|hg => rfl);(case hr => go_simp <;> rfl);intro gb351 hg w4 hbox hb;have BK351:=zh (hbox);have hH_:=cH (by repeat (with_reducible first|exact HB.out|apply za|apply zb|apply zc)) hb hg;have GW351:=zh hH_.1;have GE351:=GW351;replace HB:=zh hH_.2;clear hb hbox hg hH_;obtain ⟨hcz5_0,hcz5_1,hcz5_2,hfz5_0,hfz5_1,hfz5_2⟩:=cB3 BK351.out)|((with_reducible refine zJ (f:=4) rfl ?_);refine yj (some 10) rfl rfl Tryd.func4 (by kernel_rfl) rfl #[.agg #[.int .i64 a0_0,.int .i64 a0_1,.string a0_2],.int .i64 1048576] rfl (by (try simp only [zt,zu,zv]);first|done|rfl|(simp only [zw,zx];rfl)|(simp only [yr,ys,zV,zW];rfl)) ?_;(with_reducible refine (F00.calls  a0_0 a0_1 a0_2 1048576 t352 _ A2.out).mono ?_);rintro e w6 ⟨rfl,hb⟩;refine ⟨_,rfl,?_⟩;replace BK351:=zh (cD BK351.out (by (with_reducible repeat first|apply ze|apply zf|apply zg);exact BK351.out) hb);replace HB:=zh (zC (by repeat (with_reducible first|exact HB.out|apply za|apply zb|apply zc|refine zd ?_ GE351.out)) hb);(try clear hb);(try clear hb2);(try clear hk);(try clear hi)))
  go_ret
  exact ⟨by first|rfl|(simp [yt,yu] <;> rfl)|(simp [*,yt,yu] <;> rfl),by repeat (with_reducible first|exact HB.out|apply za|apply zb|apply zc|refine zd ?_ GE351.out)⟩
 rw [if_neg c3] at H;have c3b0 : decide (t352<0)=false:=decide_eq_false c3;clear c3;replace H:=zT.mp H;obtain ⟨⟨t353,t354,t355⟩,A70,H⟩:=H;replace H : ((Fq.f k t353 t354 t355).bind fun bt356 => ((Fp.f a0_0 a0_1 a0_2).bind fun bt358 => ((Fn.f k bt358.1 bt358.2.1 bt358.2.2).bind fun bt361 => (if bt361.1.toList=bt356.1.toList then (if bt361.2=bt356.2 then (some true) else (some false)) else (some false)))))=some r:=H;have A7:=zh A70;clear A70;replace H:=zT.mp H;obtain ⟨⟨t356,t357⟩,A80,H⟩:=H;replace H : ((Fp.f a0_0 a0_1 a0_2).bind fun bt358 => ((Fn.f k bt358.1 bt358.2.1 bt358.2.2).bind fun bt361 => (if bt361.1.toList=t356.toList then (if bt361.2=t357 then (some true) else (some false)) else (some false))))=some r:=H;have A8:=zh A80;clear A80;replace H:=zT.mp H;obtain ⟨⟨t358,t359,t360⟩,A90,H⟩:=H;replace H : ((Fn.f k t358 t359 t360).bind fun bt361 => (if bt361.1.toList=t356.toList then (if bt361.2=t357 then (some true) else (some false)) else (some false)))=some r:=H;have A9:=zh A90;clear A90;replace H:=zT.mp H;obtain ⟨⟨t361,t362⟩,A100,H⟩:=H;replace H : (if t361.toList=t356.toList then (if t362=t357 then (some true) else (some false)) else (some false))=some r:=H;have A10:=zh A100;clear A100
 by_cases c11 : t361.toList=t356.toList
 ·
  rw [if_pos c11] at H
  have c11b0 : (t361.toList == t356.toList)=true:=ya.mpr c11;have c11b1 : (t361.toList != t356.toList)=false:=zX.mpr c11;clear c11
  by_cases c12 : t362=t357
  ·
   rw [if_pos c12] at H
   have c12b0 : (t362 == t357)=true:=ya.mpr c12;have c12b1 : (t362 != t357)=false:=zX.mpr c12;clear c12;obtain rfl:=zU H
   go_enter Tryd.func3,Tryd.ntmps3
   go_wp2_with (first|((with_reducible refine zK (N:=1) rfl ?_);refine zI ?hg (N:=1) ?hd (cs:=#[.int .i64 a0_0,.int .i64 a0_1,.string a0_2]) (t:=23) ?hr ?_;(case hd|hg => rfl);(case hr => go_simp <;> rfl);intro gb351 hg w13 hbox hb;have BK351:=zh (hbox);have hH_:=cH (by repeat (with_reducible first|exact HB.out|apply za|apply zb|apply zc)) hb hg;have GW351:=zh hH_.1;have GE351:=GW351;replace HB:=zh hH_.2;clear hb hbox hg hH_;obtain ⟨hcz14_0,hcz14_1,hcz14_2,hfz14_0,hfz14_1,hfz14_2⟩:=cB3 BK351.out)|((with_reducible refine zJ (f:=4) rfl ?_);refine yj (some 10) rfl rfl Tryd.func4 (by kernel_rfl) rfl #[.agg #[.int .i64 a0_0,.int .i64 a0_1,.string a0_2],.int .i64 1048576] rfl (by (try simp only [zt,zu,zv]);first|done|rfl|(simp only [zw,zx];rfl)|(simp only [yr,ys,zV,zW];rfl)) ?_;(with_reducible refine (F00.calls  a0_0 a0_1 a0_2 1048576 t352 _ A2.out).mono ?_);rintro e w15 ⟨rfl,hb⟩;refine ⟨_,rfl,?_⟩;replace BK351:=zh (cD BK351.out (by (with_reducible repeat first|apply ze|apply zf|apply zg);exact BK351.out) hb);replace HB:=zh (zC (by repeat (with_reducible first|exact HB.out|apply za|apply zb|apply zc|refine zd ?_ GE351.out)) hb);(try clear hb);(try clear hb2);(try clear hk);(try clear hi);obtain ⟨hcz16_0,hcz16_1,hcz16_2,hfz16_0,hfz16_1,hfz16_2⟩:=cB3 BK351.out)|((with_reducible refine zJ (f:=6) rfl ?_);refine yj (some 15) rfl rfl Tryd.func6 (by kernel_rfl) rfl #[.agg #[.int .i64 a0_0,.int .i64 a0_1,.string a0_2]] rfl (by (try simp only [zt,zu,zv]);first|done|rfl|(simp only [zw,zx];rfl)|(simp only [yr,ys,zV,zW];rfl)) ?_;(with_reducible refine (Fp.calls  a0_0 a0_1 a0_2 t353 t354 t355 _ A7.out).mono ?_);rintro e w17 ⟨rfl,hb⟩;refine ⟨_,rfl,?_⟩;replace BK351:=zh (cD BK351.out (by (with_reducible repeat first|apply ze|apply zf|apply zg);exact BK351.out) hb);replace HB:=zh (zC (by repeat (with_reducible first|exact HB.out|apply za|apply zb|apply zc|refine zd ?_ GE351.out)) hb);(try clear hb);(try clear hb2);(try clear hk);(try clear hi))|((with_reducible refine zJ (f:=5) rfl ?_);refine yj (some 16) rfl rfl Tryd.func5 (by kernel_rfl) rfl #[.agg #[.int .i64 t353,.int .i64 t354,.string t355]] rfl (by (try simp only [zt,zu,zv]);first|done|rfl|(simp only [zw,zx];rfl)|(simp only [yr,ys,zV,zW];rfl)) ?_;(with_reducible refine (Fq.calls k  t353 t354 t355 t356 t357 _ A8.out).mono ?_);rintro e w18 ⟨rfl,hb⟩;refine ⟨_,rfl,?_⟩;replace BK351:=zh (cD BK351.out (by (with_reducible repeat first|apply ze|apply zf|apply zg);exact BK351.out) hb);replace HB:=zh (zC (by repeat (with_reducible first|exact HB.out|apply za|apply zb|apply zc|refine zd ?_ GE351.out)) hb);(try clear hb);(try clear hb2);(try clear hk);(try clear hi);obtain ⟨hcz19_0,hcz19_1,hcz19_2,hfz19_0,hfz19_1,hfz19_2⟩:=cB3 BK351.out)|((with_reducible refine zJ (f:=6) rfl ?_);refine yj (some 21) rfl rfl Tryd.func6 (by kernel_rfl) rfl #[.agg #[.int .i64 a0_0,.int .i64 a0_1,.string a0_2]] rfl (by (try simp only [zt,zu,zv]);first|done|rfl|(simp only [zw,zx];rfl)|(simp only [yr,ys,zV,zW];rfl)) ?_;(with_reducible refine (Fp.calls  a0_0 a0_1 a0_2 t358 t359 t360 _ A9.out).mono ?_);rintro e w20 ⟨rfl,hb⟩;refine ⟨_,rfl,?_⟩;replace BK351:=zh (cD BK351.out (by (with_reducible repeat first|apply ze|apply zf|apply zg);exact BK351.out) hb);replace HB:=zh (zC (by repeat (with_reducible first|exact HB.out|apply za|apply zb|apply zc|refine zd ?_ GE351.out)) hb);(try clear hb);(try clear hb2);(try clear hk);(try clear hi))|((with_reducible refine zJ (f:=7) rfl ?_);refine yj (some 22) rfl rfl Tryd.func7 (by kernel_rfl) rfl #[.agg #[.int .i64 t358,.int .i64 t359,.string t360]] rfl (by (try simp only [zt,zu,zv]);first|done|rfl|(simp only [zw,zx];rfl)|(simp only [yr,ys,zV,zW];rfl)) ?_;(with_reducible refine (Fn.calls k  t358 t359 t360 t361 t362 _ A10.out (htab_.out.below (by repeat (with_reducible first|exact HB.out|apply za|apply zb|apply zc|refine zd ?_ GE351.out)))).mono ?_);rintro e w21 ⟨rfl,hb⟩;refine ⟨_,rfl,?_⟩;replace BK351:=zh (cD BK351.out (by (with_reducible repeat first|apply ze|apply zf|apply zg);exact BK351.out) hb);replace HB:=zh (zC (by repeat (with_reducible first|exact HB.out|apply za|apply zb|apply zc|refine zd ?_ GE351.out)) hb);(try clear hb);(try clear hb2);(try clear hk);(try clear hi)))
   go_ret
   exact ⟨by first|rfl|(simp [yt,yu] <;> rfl)|(simp [*,yt,yu] <;> rfl),by repeat (with_reducible first|exact HB.out|apply za|apply zb|apply zc|refine zd ?_ GE351.out)⟩
  rw [if_neg c12] at H;have c12b0 : (t362 == t357)=false:=zY.mpr c12;have c12b1 : (t362 != t357)=true:=zZ.mpr c12;obtain rfl:=zU H
  go_enter Tryd.func3,Tryd.ntmps3
  go_wp2_with (first|((with_reducible refine zK (N:=1) rfl ?_);refine zI ?hg (N:=1) ?hd (cs:=#[.int .i64 a0_0,.int .i64 a0_1,.string a0_2]) (t:=23) ?hr ?_;(case hd|hg => rfl);(case hr => go_simp <;> rfl);intro gb351 hg w22 hbox hb;have BK351:=zh (hbox);have hH_:=cH (by repeat (with_reducible first|exact HB.out|apply za|apply zb|apply zc)) hb hg;have GW351:=zh hH_.1;have GE351:=GW351;replace HB:=zh hH_.2;clear hb hbox hg hH_;obtain ⟨hcz23_0,hcz23_1,hcz23_2,hfz23_0,hfz23_1,hfz23_2⟩:=cB3 BK351.out)|((with_reducible refine zJ (f:=4) rfl ?_);refine yj (some 10) rfl rfl Tryd.func4 (by kernel_rfl) rfl #[.agg #[.int .i64 a0_0,.int .i64 a0_1,.string a0_2],.int .i64 1048576] rfl (by (try simp only [zt,zu,zv]);first|done|rfl|(simp only [zw,zx];rfl)|(simp only [yr,ys,zV,zW];rfl)) ?_;(with_reducible refine (F00.calls  a0_0 a0_1 a0_2 1048576 t352 _ A2.out).mono ?_);rintro e w24 ⟨rfl,hb⟩;refine ⟨_,rfl,?_⟩;replace BK351:=zh (cD BK351.out (by (with_reducible repeat first|apply ze|apply zf|apply zg);exact BK351.out) hb);replace HB:=zh (zC (by repeat (with_reducible first|exact HB.out|apply za|apply zb|apply zc|refine zd ?_ GE351.out)) hb);(try clear hb);(try clear hb2);(try clear hk);(try clear hi);obtain ⟨hcz25_0,hcz25_1,hcz25_2,hfz25_0,hfz25_1,hfz25_2⟩:=cB3 BK351.out)|((with_reducible refine zJ (f:=6) rfl ?_);refine yj (some 15) rfl rfl Tryd.func6 (by kernel_rfl) rfl #[.agg #[.int .i64 a0_0,.int .i64 a0_1,.string a0_2]] rfl (by (try simp only [zt,zu,zv]);first|done|rfl|(simp only [zw,zx];rfl)|(simp only [yr,ys,zV,zW];rfl)) ?_;(with_reducible refine (Fp.calls  a0_0 a0_1 a0_2 t353 t354 t355 _ A7.out).mono ?_);rintro e w26 ⟨rfl,hb⟩;refine ⟨_,rfl,?_⟩;replace BK351:=zh (cD BK351.out (by (with_reducible repeat first|apply ze|apply zf|apply zg);exact BK351.out) hb);replace HB:=zh (zC (by repeat (with_reducible first|exact HB.out|apply za|apply zb|apply zc|refine zd ?_ GE351.out)) hb);(try clear hb);(try clear hb2);(try clear hk);(try clear hi))|((with_reducible refine zJ (f:=5) rfl ?_);refine yj (some 16) rfl rfl Tryd.func5 (by kernel_rfl) rfl #[.agg #[.int .i64 t353,.int .i64 t354,.string t355]] rfl (by (try simp only [zt,zu,zv]);first|done|rfl|(simp only [zw,zx];rfl)|(simp only [yr,ys,zV,zW];rfl)) ?_;(with_reducible refine (Fq.calls k  t353 t354 t355 t356 t357 _ A8.out).mono ?_);rintro e w27 ⟨rfl,hb⟩;refine ⟨_,rfl,?_⟩;replace BK351:=zh (cD BK351.out (by (with_reducible repeat first|apply ze|apply zf|apply zg);exact BK351.out) hb);replace HB:=zh (zC (by repeat (with_reducible first|exact HB.out|apply za|apply zb|apply zc|refine zd ?_ GE351.out)) hb);(try clear hb);(try clear hb2);(try clear hk);(try clear hi);obtain ⟨hcz28_0,hcz28_1,hcz28_2,hfz28_0,hfz28_1,hfz28_2⟩:=cB3 BK351.out)|((with_reducible refine zJ (f:=6) rfl ?_);refine yj (some 21) rfl rfl Tryd.func6 (by kernel_rfl) rfl #[.agg #[.int .i64 a0_0,.int .i64 a0_1,.string a0_2]] rfl (by (try simp only [zt,zu,zv]);first|done|rfl|(simp only [zw,zx];rfl)|(simp only [yr,ys,zV,zW];rfl)) ?_;(with_reducible refine (Fp.calls  a0_0 a0_1 a0_2 t358 t359 t360 _ A9.out).mono ?_);rintro e w29 ⟨rfl,hb⟩;refine ⟨_,rfl,?_⟩;replace BK351:=zh (cD BK351.out (by (with_reducible repeat first|apply ze|apply zf|apply zg);exact BK351.out) hb);replace HB:=zh (zC (by repeat (with_reducible first|exact HB.out|apply za|apply zb|apply zc|refine zd ?_ GE351.out)) hb);(try clear hb);(try clear hb2);(try clear hk);(try clear hi))|((with_reducible refine zJ (f:=7) rfl ?_);refine yj (some 22) rfl rfl Tryd.func7 (by kernel_rfl) rfl #[.agg #[.int .i64 t358,.int .i64 t359,.string t360]] rfl (by (try simp only [zt,zu,zv]);first|done|rfl|(simp only [zw,zx];rfl)|(simp only [yr,ys,zV,zW];rfl)) ?_;(with_reducible refine (Fn.calls k  t358 t359 t360 t361 t362 _ A10.out (htab_.out.below (by repeat (with_reducible first|exact HB.out|apply za|apply zb|apply zc|refine zd ?_ GE351.out)))).mono ?_);rintro e w30 ⟨rfl,hb⟩;refine ⟨_,rfl,?_⟩;replace BK351:=zh (cD BK351.out (by (with_reducible repeat first|apply ze|apply zf|apply zg);exact BK351.out) hb);replace HB:=zh (zC (by repeat (with_reducible first|exact HB.out|apply za|apply zb|apply zc|refine zd ?_ GE351.out)) hb);(try clear hb);(try clear hb2);(try clear hk);(try clear hi)))
  go_ret
  exact ⟨by first|rfl|(simp [yt,yu] <;> rfl)|(simp [*,yt,yu] <;> rfl),by repeat (with_reducible first|exact HB.out|apply za|apply zb|apply zc|refine zd ?_ GE351.out)⟩
 rw [if_neg c11] at H;have c11b0 : (t361.toList == t356.toList)=false:=zY.mpr c11;have c11b1 : (t361.toList != t356.toList)=true:=zZ.mpr c11;obtain rfl:=zU H
 go_enter Tryd.func3,Tryd.ntmps3
 go_wp2_with (first|((with_reducible refine zK (N:=1) rfl ?_);refine zI ?hg (N:=1) ?hd (cs:=#[.int .i64 a0_0,.int .i64 a0_1,.string a0_2]) (t:=23) ?hr ?_;(case hd|hg => rfl);(case hr => go_simp <;> rfl);intro gb351 hg w31 hbox hb;have BK351:=zh (hbox);have hH_:=cH (by repeat (with_reducible first|exact HB.out|apply za|apply zb|apply zc)) hb hg;have GW351:=zh hH_.1;have GE351:=GW351;replace HB:=zh hH_.2;clear hb hbox hg hH_;obtain ⟨hcz32_0,hcz32_1,hcz32_2,hfz32_0,hfz32_1,hfz32_2⟩:=cB3 BK351.out)|((with_reducible refine zJ (f:=4) rfl ?_);refine yj (some 10) rfl rfl Tryd.func4 (by kernel_rfl) rfl #[.agg #[.int .i64 a0_0,.int .i64 a0_1,.string a0_2],.int .i64 1048576] rfl (by (try simp only [zt,zu,zv]);first|done|rfl|(simp only [zw,zx];rfl)|(simp only [yr,ys,zV,zW];rfl)) ?_;(with_reducible refine (F00.calls  a0_0 a0_1 a0_2 1048576 t352 _ A2.out).mono ?_);rintro e w33 ⟨rfl,hb⟩;refine ⟨_,rfl,?_⟩;replace BK351:=zh (cD BK351.out (by (with_reducible repeat first|apply ze|apply zf|apply zg);exact BK351.out) hb);replace HB:=zh (zC (by repeat (with_reducible first|exact HB.out|apply za|apply zb|apply zc|refine zd ?_ GE351.out)) hb);(try clear hb);(try clear hb2);(try clear hk);(try clear hi);obtain ⟨hcz34_0,hcz34_1,hcz34_2,hfz34_0,hfz34_1,hfz34_2⟩:=cB3 BK351.out)|((with_reducible refine zJ (f:=6) rfl ?_);refine yj (some 15) rfl rfl Tryd.func6 (by kernel_rfl) rfl #[.agg #[.int .i64 a0_0,.int .i64 a0_1,.string a0_2]] rfl (by (try simp only [zt,zu,zv]);first|done|rfl|(simp only [zw,zx];rfl)|(simp only [yr,ys,zV,zW];rfl)) ?_;(with_reducible refine (Fp.calls  a0_0 a0_1 a0_2 t353 t354 t355 _ A7.out).mono ?_);rintro e w35 ⟨rfl,hb⟩;refine ⟨_,rfl,?_⟩;replace BK351:=zh (cD BK351.out (by (with_reducible repeat first|apply ze|apply zf|apply zg);exact BK351.out) hb);replace HB:=zh (zC (by repeat (with_reducible first|exact HB.out|apply za|apply zb|apply zc|refine zd ?_ GE351.out)) hb);(try clear hb);(try clear hb2);(try clear hk);(try clear hi))|((with_reducible refine zJ (f:=5) rfl ?_);refine yj (some 16) rfl rfl Tryd.func5 (by kernel_rfl) rfl #[.agg #[.int .i64 t353,.int .i64 t354,.string t355]] rfl (by (try simp only [zt,zu,zv]);first|done|rfl|(simp only [zw,zx];rfl)|(simp only [yr,ys,zV,zW];rfl)) ?_;(with_reducible refine (Fq.calls k  t353 t354 t355 t356 t357 _ A8.out).mono ?_);rintro e w36 ⟨rfl,hb⟩;refine ⟨_,rfl,?_⟩;replace BK351:=zh (cD BK351.out (by (with_reducible repeat first|apply ze|apply zf|apply zg);exact BK351.out) hb);replace HB:=zh (zC (by repeat (with_reducible first|exact HB.out|apply za|apply zb|apply zc|refine zd ?_ GE351.out)) hb);(try clear hb);(try clear hb2);(try clear hk);(try clear hi);obtain ⟨hcz37_0,hcz37_1,hcz37_2,hfz37_0,hfz37_1,hfz37_2⟩:=cB3 BK351.out)|((with_reducible refine zJ (f:=6) rfl ?_);refine yj (some 21) rfl rfl Tryd.func6 (by kernel_rfl) rfl #[.agg #[.int .i64 a0_0,.int .i64 a0_1,.string a0_2]] rfl (by (try simp only [zt,zu,zv]);first|done|rfl|(simp only [zw,zx];rfl)|(simp only [yr,ys,zV,zW];rfl)) ?_;(with_reducible refine (Fp.calls  a0_0 a0_1 a0_2 t358 t359 t360 _ A9.out).mono ?_);rintro e w38 ⟨rfl,hb⟩;refine ⟨_,rfl,?_⟩;replace BK351:=zh (cD BK351.out (by (with_reducible repeat first|apply ze|apply zf|apply zg);exact BK351.out) hb);replace HB:=zh (zC (by repeat (with_reducible first|exact HB.out|apply za|apply zb|apply zc|refine zd ?_ GE351.out)) hb);(try clear hb);(try clear hb2);(try clear hk);(try clear hi))|((with_reducible refine zJ (f:=7) rfl ?_);refine yj (some 22) rfl rfl Tryd.func7 (by kernel_rfl) rfl #[.agg #[.int .i64 t358,.int .i64 t359,.string t360]] rfl (by (try simp only [zt,zu,zv]);first|done|rfl|(simp only [zw,zx];rfl)|(simp only [yr,ys,zV,zW];rfl)) ?_;(with_reducible refine (Fn.calls k  t358 t359 t360 t361 t362 _ A10.out (htab_.out.below (by repeat (with_reducible first|exact HB.out|apply za|apply zb|apply zc|refine zd ?_ GE351.out)))).mono ?_);rintro e w39 ⟨rfl,hb⟩;refine ⟨_,rfl,?_⟩;replace BK351:=zh (cD BK351.out (by (with_reducible repeat first|apply ze|apply zf|apply zg);exact BK351.out) hb);replace HB:=zh (zC (by repeat (with_reducible first|exact HB.out|apply za|apply zb|apply zc|refine zd ?_ GE351.out)) hb);(try clear hb);(try clear hb2);(try clear hk);(try clear hi)))
 go_ret
 exact ⟨by first|rfl|(simp [yt,yu] <;> rfl)|(simp [*,yt,yu] <;> rfl),by repeat (with_reducible first|exact HB.out|apply za|apply zb|apply zc|refine zd ?_ GE351.out)⟩

end Go.Proofs.YtjaknpeeopkojaaDoor.Q
end
section
namespace Go.Proofs.YtjaknpeeopkojaaDoorW.PrintOpen
open Go.RowKit Go.ChangeShapes Go.WideShapes Go.ChangeAt Go.Proofs.YtjaknpeeopkojaaDoorW.PrintWords
def Opens {α : Type} (P : Program) (d : Kd α) (t : TypeId) (good : α→Prop) : Prop :=
 ∀ (H : Type) (enc : TypeId×Value→H) (w : World) (base : Nat) (spare : Nat→Bool) (held : Bool) (fuel : Nat) (cs : List Value) (x : DataW H×List MemPlace),
  DataW.trod enc P w base spare held fuel t cs=some x → ∃ a,d.K w a cs∧good a
variable {P : Program}
theorem opens_int {t : TypeId} {k : IntKind} (ht : P.underlying t=some (.int k)) : Opens P (Kd.int k) t (fun n => (Lit.int k n).wf=true):=by
 intro H enc w base spare held fuel cs x h;obtain ⟨n,hcs,_,hw⟩:=DataW.trod_int ht h;exact ⟨n,hcs,hw⟩
theorem opens_string {t : TypeId} (ht : P.underlying t=some .string) : Opens P Kd.string t (fun s => s.size≤9223372036854775807):=by
 intro H enc w base spare held fuel cs x h;obtain ⟨s,hcs,_,hs⟩:=DataW.trod_string ht h;exact ⟨s,hcs,by unfold maxLen at hs;exact hs⟩
def OpensF {α : Type} (P : Program) (d : Kd α) (fs : List Field) (off : Nat) (good : α→Prop) : Prop :=
 ∀ (H : Type) (enc : TypeId×Value→H) (w : World) (base : Nat) (spare : Nat→Bool) (held : Bool) (fuel : Nat) (cs : List Value),off + d.sz≤cs.length →
  (∀ f ∈ fs,∃ x,DataW.trod enc P w base spare held fuel f.type ((cs.drop f.offset).take (P.cellsOf f.type))=some x) → ∃ a,d.K w a ((cs.drop off).take d.sz)∧good a
theorem opensF_one {α : Type} {d : Kd α} {f : Field} {off : Nat} {g : α→Prop} (ho : f.offset=off) (hc : P.cellsOf f.type=d.sz) (h : Opens P d f.type g) : OpensF P d [f] off g:=by
 intro H enc w base spare held fuel cs _ hf;obtain ⟨x,hx⟩:=hf f (by simp);obtain ⟨a,hk,hg⟩:=h H enc w base spare held fuel _ x hx;rw [ho,hc] at hk;exact ⟨a,hk,hg⟩
theorem opensF_cons {α β : Type} {d : Kd α} {d' : Kd β} {f : Field} {fs : List Field} {off : Nat} {g : α→Prop} {g' : β→Prop} (ho : f.offset=off) (hc : P.cellsOf f.type=d.sz) (h : Opens P d f.type g) (h' : OpensF P d' fs (off + d.sz) g') :
  OpensF P (Kd.pair d d') (f :: fs) off (fun x => g x.1∧g' x.2):=by
 intro H enc w base spare held fuel cs hl hf;obtain ⟨x,hx⟩:=hf f (by simp);obtain ⟨a,hk,hg⟩:=h H enc w base spare held fuel _ x hx;have hl2 : off + (d.sz + d'.sz)≤cs.length:=hl;obtain ⟨b,hk',hg'⟩:=h' H enc w base spare held fuel cs (by omega) (fun f' hf' => hf f' (by simp [hf']));rw [ho,hc] at hk;refine ⟨(a,b),⟨_,_,?_,hk,hk'⟩,hg,hg'⟩;show (cs.drop off).take (d.sz + d'.sz)=_;rw [List.take_add,List.drop_drop]
theorem opens_struct {α β : Type} {t : TypeId} {fs : Array Field} {d : Kd α} {g : α→Prop} {f : β→α} (f' : α→β) (hf : ∀ a,f (f' a)=a) (ht : P.underlying t=some (.struct fs)) (hc : P.cellsOf t=d.sz) (h : OpensF P d fs.toList 0 g) :
  Opens P (Kd.iso d f) t (fun b => g (f b)):=by
 intro H enc w base spare held fuel cs x hx;obtain ⟨xs,n,_,_,hl,hlen,hxs⟩:=DataW.trod_struct ht hx
 obtain ⟨a,hk,hg⟩:=h H enc w base spare held n cs (by omega) (fun y hy => by
  obtain ⟨i,hi⟩:=List.mem_iff_getElem?.1 hy;have:=hxs i y (by simpa using hi)
  have hlt : i<xs.length:=by
   have:=(List.getElem?_eq_some_iff.1 hi).1;rw [hlen]
   simpa using this
  rw [List.getElem?_eq_getElem hlt] at this
  exact ⟨_,this⟩)
 rw [List.drop_zero,show d.sz=cs.length by omega,List.take_length] at hk;exact ⟨f' a,by show d.K w (f (f' a)) cs;rw [hf];exact hk,by show g (f (f' a));rw [hf];exact hg⟩
theorem arg_struct {α : Type} {d : Kd α} {t : TypeId} {fs : Array Field} {g : α→Prop} {H : Type} {enc : TypeId×Value→H} {w : World} {base b0 : Nat} {spare : Nat→Bool} {held : Bool} {r : Reach} {v : Value} {dd : DataW H} {p : List MemPlace}
  (ht : P.underlying t=some (.struct fs)) (h : Opens P d t g) (hv : Value.okWide P w r b0 t v) (hd : DataW.Trod enc P w base spare held t v dd p) : ∃ (a : α) (cs : List Value),v = .agg ⟨cs⟩∧d.K w a cs∧g a:=by
 obtain ⟨cs,rfl,_⟩:=okWide_struct ht hv;obtain ⟨fuel,hf⟩:=hd;obtain ⟨a,hk,hg⟩:=h H enc w base spare held fuel _ _ hf;exact ⟨a,cs.toList,rfl,hk,hg⟩
end Go.Proofs.YtjaknpeeopkojaaDoorW.PrintOpen
end
section
namespace Go.Proofs.YtjaknpeeopkojaaDoor.Q
open Go.RowKit Go.Proofs.YtjaknpeeopkojaaDoorW.PrintWords Go.Proofs.YtjaknpeeopkojaaDoorW.PrintLast Go.Proofs.YtjaknpeeopkojaaDoorW.PrintMore Go.Proofs.YtjaknpeeopkojaaDoorW.PrintOpen
def good23 (x_ : S23) : Prop:=((Lit.int .i64 x_.f0).wf=true)∧(((Lit.int .i64 x_.f1).wf=true)∧((x_.f2.size≤9223372036854775807)))
theorem opens23 : Opens Tryd.prog k23 23 good23 :=
 opens_struct (f:=(fun x : S23 => (x.f0,x.f1,x.f2))) (fun ⟨x0,x1,x2⟩ => ⟨x0,x1,x2⟩) (fun _ => rfl) Tryd.underlying23 (by kernel_rfl) (opensF_cons rfl (by kernel_rfl) (opens_int Tryd.underlying3) (opensF_cons rfl (by kernel_rfl) (opens_int Tryd.underlying3) (opensF_one rfl (by kernel_rfl) (opens_string Tryd.underlying9))))
end Go.Proofs.YtjaknpeeopkojaaDoor.Q
end
section
namespace Go.Proofs.YtjaknpeeopkojaaDoor.Q
def Fv.Pure : Prop:=∀ (x0 : S23),(good23 x0) → ∃ k,Fv.f k x0.f0 x0.f1 x0.f2=some true
end Go.Proofs.YtjaknpeeopkojaaDoor.Q
end
section
namespace Go.Proofs.YtjaknpeeopkojaaDoorW.Pl
open Go Go.RowKit Go.Proofs.YtjaknpeeopkojaaDoorW.PrintWords Go.Proofs.YtjaknpeeopkojaaDoorW.PrintMore
theorem w64 {i : Int} (h0 : -9223372036854775808≤i) (h1 : i≤9223372036854775807) : wrap64 i=i:=by unfold wrap64;omega
theorem fuel {k d : Nat} (h : d<k) : ∃ m,k=m + 1∧d≤m:=⟨k - 1,by omega,by omega⟩
theorem rdOf_at {α : Type} (d : α) (xs : List α) (i : Nat) (h : i<xs.length) : rdOf d xs (i : Int)=xs[i]:=by
 unfold rdOf;simp [List.getD,h]
theorem rd_at (xs : List Int) (i : Nat) (h : i<xs.length) : rd xs (i : Int)=xs[i]:=by
 unfold rd;simp [List.getD,h]
theorem getD_at {α : Type} (d : α) (xs : List α) (i : Nat) (h : i<xs.length) : xs.getD (i : Int).toNat d=xs[i]:=by
 simp [List.getD,h]
theorem drop_at {α : Type} (xs : List α) (i : Nat) (h : i<xs.length) : xs.drop i=xs[i] :: xs.drop (i + 1):=List.drop_eq_getElem_cons h
theorem ba_toList (a : ByteArray) : a.toList=a.data.toList:=ByteArray.toList_eq a
theorem ba_ext {a b : ByteArray} (h : a.toList=b.toList) : a=b:=by
 rw [ba_toList,ba_toList] at h
 cases a;cases b
 simp at h;rw [h]
def all2 {α β : Type} (e : α→β→Bool) : List α→List β→Bool
 | [],_ => true
 | _ :: _,[] => true
 | x :: xs,y :: ys => e x y && all2 e xs ys
def first {α : Type} (p : α→Bool) : List α→Nat→Int
 | [],_ => -1
 | x :: xs,i => if p x=true then i else first p xs (i + 1)
theorem first_any {α : Type} (p : α→Bool) : ∀ (xs : List α) (i : Nat),decide (first p xs i ≥ 0)=xs.any p
 | [],i => rfl
 | x :: xs,i => by
  by_cases h : p x=true
  ·
   simp [first,h]
  simp only [first,if_neg h,List.any_cons,first_any p xs (i + 1)];simp [h]
theorem first_loop {α : Type} (g : Nat→Int→Option Int) (xs : List α) (p : α→Bool)
  (hstep : ∀ (k i : Nat) (h : i<xs.length),g (k + 1) (i : Int)=if p xs[i]=true then some (i : Int) else g k ((i + 1 : Nat) : Int))
  (hend : ∀ k,g (k + 1) (xs.length : Int)=some (-1)) : ∀ (d k i : Nat),i + d=xs.length→d<k→g k (i : Int)=some (first p (xs.drop i) i):=by
 intro d
 induction d with
 | zero =>
  intro k i hi hk;obtain ⟨k,rfl,_⟩:=fuel hk;obtain rfl : i=xs.length:=by omega
  rw [hend,List.drop_length];rfl
 | succ d ih =>
  intro k i hi hk;obtain ⟨k,rfl,_⟩:=fuel hk;have hlt : i<xs.length:=by omega
  rw [hstep k i hlt,drop_at xs i hlt]
  by_cases h : p xs[i]=true
  ·
   rw [if_pos h]
   simp [first,h]
  rw [if_neg h,ih k (i + 1) (by omega) (by omega)];simp [first,h]
def total {α : Type} (s : α→Nat) : List α→Nat
 | [] => 0
 | x :: xs => s x + total s xs
def less {α : Type} (s : α→Nat) : List α→Int→Int
 | [],l => l
 | x :: xs,l => if l - s x<0 then -1 else less s xs (l - s x)
def Eve {α : Type} (g : Nat→Option α) (v : α) : Prop:=∃ K,∀ k,K≤k→g k=some v
theorem Eve.one {α : Type} {v : α} : Eve (fun _ => some v) v:=⟨0,fun _ _ => rfl⟩
theorem Eve.all {α : Type} {g : Nat→Option α} {v : α} (h : ∀ k,g k=some v) : Eve g v:=⟨0,fun k _ => h k⟩
theorem Eve.of {α : Type} {g : Nat→Option α} {v : α} {n : Nat} (h : ∀ k,n<k→g k=some v) : Eve g v:=⟨n + 1,fun k hk => h k (by omega)⟩
theorem Eve.succ {α : Type} {g : Nat→Option α} {v : α} (h : Eve (fun k => g (k + 1)) v) : Eve g v:=by
 obtain ⟨K,h⟩:=h;refine ⟨K + 1,fun k hk => ?_⟩;obtain ⟨k,rfl⟩ : ∃ m,k=m + 1:=⟨k - 1,by omega⟩;exact h k (by omega)
theorem Eve.bind {α β : Type} {g : Nat→Option α} {f : Nat→α→Option β} {v : α} {u : β} (h : Eve g v) (h2 : Eve (fun k => f k v) u) : Eve (fun k => (g k).bind (f k)) u:=by
 obtain ⟨K,h⟩:=h;obtain ⟨K2,h2⟩:=h2;refine ⟨max K K2,fun k hk => ?_⟩;show (g k).bind (f k)=some u;rw [h k (by omega),Option.bind_some];exact h2 k (by omega)
theorem Eve.ite {α : Type} {c : Prop} [Decidable c] {a b : Nat→Option α} {v : α} (h1 : c→Eve a v) (h2 : ¬ c→Eve b v) : Eve (fun k => if c then a k else b k) v:=by
 by_cases h : c
 ·
  simp only [if_pos h];exact h1 h
 simp only [if_neg h];exact h2 h
theorem Eve.get {α : Type} {g : Nat→Option α} {v : α} (h : Eve g v) : ∃ k,g k=some v:=by
 obtain ⟨K,h⟩:=h;exact ⟨K,h K (by omega)⟩
theorem Eve.eq {α : Type} {g : Nat→Option α} {v u : α} (h : Eve g v) (e : v=u) : Eve g u:=e ▸ h
theorem Eve.congr {α : Type} {g f : Nat→Option α} {v : α} (h : Eve g v) (e : ∀ k,f k=g k) : Eve f v:=by
 obtain ⟨K,h⟩:=h;exact ⟨K,fun k hk => by rw [e,h k hk]⟩
theorem ev_loop {σ α β : Type} (xs : List α) (g : Nat→σ→Int→Option β) (R : Nat→σ→List α→β) (I : Nat→σ→Prop)
  (hend : ∀ s,I xs.length s→Eve (fun k => g (k + 1) s (xs.length : Int)) (R xs.length s []))
  (hstep : ∀ (i : Nat) (h : i<xs.length) (s : σ),I i s→(∀ s',I (i + 1) s' → Eve (fun k => g k s' ((i + 1 : Nat) : Int)) (R (i + 1) s' (xs.drop (i + 1)))) →
   Eve (fun k => g (k + 1) s (i : Int)) (R i s (xs[i] :: xs.drop (i + 1)))) :
  ∀ (d i : Nat) (s : σ),i + d=xs.length→I i s→Eve (fun k => g k s (i : Int)) (R i s (xs.drop i)):=by
 intro d
 induction d with
 | zero =>
  intro i s hi hI;obtain rfl : i=xs.length:=by omega
  rw [List.drop_length];exact Eve.succ (hend s hI)
 | succ d ih =>
  intro i s hi hI;have hlt : i<xs.length:=by omega
  rw [drop_at xs i hlt];exact Eve.succ (hstep i hlt s hI (fun s' h' => ih (i + 1) s' (by omega) h'))
theorem ev_loop0 {σ α β : Type} (xs : List α) (g : Nat→σ→Int→Option β) (R : Nat→σ→List α→β) (I : Nat→σ→Prop)
  (hend : ∀ s,I xs.length s→Eve (fun k => g (k + 1) s (xs.length : Int)) (R xs.length s []))
  (hstep : ∀ (i : Nat) (h : i<xs.length) (s : σ),I i s→(∀ s',I (i + 1) s' → Eve (fun k => g k s' ((i + 1 : Nat) : Int)) (R (i + 1) s' (xs.drop (i + 1)))) →
   Eve (fun k => g (k + 1) s (i : Int)) (R i s (xs[i] :: xs.drop (i + 1)))) (s : σ) (h0 : I 0 s) : Eve (fun k => g k s 0) (R 0 s xs):=by
 have:=ev_loop xs g R I hend hstep xs.length 0 s (by omega) h0
 simpa using this
end Go.Proofs.YtjaknpeeopkojaaDoorW.Pl
end
section
namespace Go.Proofs.YtjaknpeeopkojaaDoor.Pure
open Go Go.RowKit Go.Proofs.YtjaknpeeopkojaaDoor.Q Go.Proofs.YtjaknpeeopkojaaDoorW.PrintWords Go.Proofs.YtjaknpeeopkojaaDoorW.PrintLast Go.Proofs.YtjaknpeeopkojaaDoorW.PrintMore Go.Proofs.YtjaknpeeopkojaaDoorW.Pl
theorem wi {i : Nat} (h : i≤9223372036854775806) : wrap64 ((i : Int) + 1)=((i + 1 : Nat) : Int):=w64 (by omega) (by omega)
theorem w64m (y : Int) : wrap64 y=(y + 9223372036854775808) % 18446744073709551616 - 9223372036854775808:=by unfold wrap64;omega
def stp (x b : Int) : Int:=wrap64 (wrap64 (x * 256) + wrap64 b)
theorem or_byte (x b : Int) (h0 : 0≤b) (h1 : b≤255) : Go.bits .or .i64 (wrap64 (x * 256)) (wrap64 b)=stp x b:=by
 have e1 : (BitVec.ofInt 64 (wrap64 (x * 256))).toNat=2 ^ 8 * (x % 72057594037927936).toNat:=by
  rw [BitVec.toNat_ofInt,w64m];omega
 have e2 : (BitVec.ofInt 64 (wrap64 b)).toNat=b.toNat:=by
  rw [BitVec.toNat_ofInt,w64m];omega
 have e3 : (BitVec.ofInt 64 (wrap64 (x * 256)) ||| BitVec.ofInt 64 (wrap64 b)).toNat=2 ^ 8 * (x % 72057594037927936).toNat + b.toNat:=by
  rw [BitVec.toNat_or,e1,e2,Nat.two_pow_add_eq_or_of_lt (by omega)]
 show IntKind.wrap .i64 ((BitVec.ofInt 64 (wrap64 (x * 256)) ||| BitVec.ofInt 64 (wrap64 b)).toNat : Int)=_;rw [e3,i64_w];unfold stp;rw [w64m,w64m,w64m,w64m]
 omega
def bigV (l : List Int) : Int:=l.foldl stp 0
theorem bytes_in (a : ByteArray) : ∀ b ∈ bytesOf a,0≤b∧b≤255:=by
 intro b hb;obtain ⟨c,_,rfl⟩:=List.mem_map.1 hb;have:=c.toNat_lt
 omega
theorem bt_get (a : ByteArray) (i : Nat) (h : i<(bytesOf a).length) : bt a (i : Int)=(bytesOf a)[i]:=by
 rw [← rd_bytesOf,rd_at _ _ h]
theorem big_tells (l : List Int) (hl : l.length≤1048576) (hb : ∀ b ∈ l,0≤b∧b≤255) : Eve (fun k => Fj.f k l) (bigV l):=by
 simp only [Fj.f];refine ev_loop0 l (fun k (s : Int) i => Fj.l0 k s l (l.length : Int) i) (fun _ s r => r.foldl stp s) (fun _ _ => True) (fun s _ => ?_) (fun i hi s _ ih => ?_) 0 trivial
 ·
  simp only [Fj.l0]
  exact Eve.ite (fun h => absurd h (by omega)) (fun _ => Eve.one)
 have hx:=hb l[i] (List.getElem_mem hi);simp only [Fj.l0];refine Eve.ite (fun _ => ?_) (fun h => absurd (by omega) h);refine Eve.ite (fun _ => ?_) (fun h => absurd (by omega) h);refine Eve.ite (fun _ => ?_) (fun h => absurd (by omega) h);simp only [rd_at _ _ hi,or_byte _ _ hx.1 hx.2,wi (show i≤9223372036854775806 by omega)];exact ih _ trivial
theorem of_tells (a : ByteArray) (hl : a.size≤1048576) : Eve (fun k => Fh.f k a) (bigV (bytesOf a)):=by
 have hn : (bytesOf a).length=a.size:=bytesOf_length a;simp only [Fh.f];refine ev_loop0 (bytesOf a) (fun k (s : Int) i => Fh.l0 k a s i) (fun _ s r => r.foldl stp s) (fun _ _ => True) (fun s _ => ?_) (fun i hi s _ ih => ?_) 0 trivial
 ·
  simp only [Fh.l0]
  exact Eve.ite (fun h => absurd h (by omega)) (fun _ => Eve.one)
 simp only [Fh.l0];refine Eve.ite (fun _ => ?_) (fun h => absurd (by omega) h);refine Eve.ite (fun _ => ?_) (fun h => absurd (by omega) h);simp only [bt_get a i hi,wi (show i≤9223372036854775806 by omega)];exact ih _ trivial
def zer (n : Nat) : ByteArray:=⟨(Lib.repeatL [0] n).toArray⟩
def takV (a : ByteArray) (f : Bool) (n : Nat) : ByteArray×ByteArray×Bool:=if a.size<n then (zer n,a,true) else (a.extract 0 n,a.extract n a.size,f)
def numV (a : ByteArray) (f : Bool) (n : Nat) : Int×ByteArray×Bool:=if a.size<n then (0,a,true) else (bigV (bytesOf (a.extract 0 n)),a.extract n a.size,f)
theorem take_tells (a : ByteArray) (f : Bool) (n : Nat) (hn : n≤65535) : Fo.f a f (n : Int)=some (takV a f n):=by
 unfold Fo.f takV
 by_cases h : a.size<n
 ·
  rw [if_pos (by omega),if_pos h]
  unfold strings_Repeat.f;rw [if_pos (by omega),if_pos (by rw [show (⟨#[0]⟩ : ByteArray).size=1 from rfl];omega),if_pos (by omega)]
  rfl
 rw [if_neg (by omega),if_pos (by omega),if_pos (by omega),if_neg h]
 rfl
theorem zer_size (n : Nat) : (zer n).size=n:=by
 show (Lib.repeatL [0] n).toArray.size=n;rw [List.size_toArray,Lib.repeatL_length];simp
theorem fold_zero : ∀ n : Nat,((Lib.repeatL [0] n).map fun b : UInt8 => (b.toNat : Int)).foldl stp 0=0
 | 0 => rfl
 | n + 1 => by
  have e : stp 0 0=0:=by unfold stp;rw [w64m,w64m,w64m];omega
  simp only [Lib.repeatL,List.cons_append,List.nil_append,List.map_cons,List.foldl_cons];rw [show ((0 : UInt8).toNat : Int)=0 from rfl,e];exact fold_zero n
theorem big_zer (n : Nat) : bigV (bytesOf (zer n))=0:=by
 unfold bigV bytesOf zer;exact fold_zero n
theorem num_tells (a : ByteArray) (f : Bool) (n : Nat) (hn : n≤65535) : Eve (fun k => Fg.f k a f (n : Int)) (numV a f n):=by
 simp only [Fg.f,take_tells a f n hn,Option.bind_some];unfold takV numV
 by_cases h : a.size<n
 ·
  simp only [if_pos h]
  have hz:=zer_size n;refine Eve.ite (fun _ => ?_) (fun h => absurd (by omega) h);refine Eve.bind (big_tells _ (by rw [bytesOf_length,hz];omega) (bytes_in _)) ?_;rw [big_zer];exact Eve.one
 simp only [if_neg h];have hz : (a.extract 0 n).size≤n:=by rw [ByteArray.size_extract];omega
 refine Eve.ite (fun _ => ?_) (fun h => absurd (by omega) h);exact Eve.bind (big_tells _ (by rw [bytesOf_length];omega) (bytes_in _)) Eve.one
theorem big1 (x : Int) (h : 0≤x∧x≤255) : bigV [x]=x:=by
 simp only [bigV,List.foldl_cons,List.foldl_nil,stp];rw [w64m,w64m,w64m];omega
theorem big2 (x y : Int) (h : 0≤x∧x≤255) (h2 : 0≤y∧y≤255) : 0≤bigV [x,y]∧bigV [x,y]≤65535:=by
 simp only [bigV,List.foldl_cons,List.foldl_nil,stp];simp only [w64m];omega
theorem len1 {l : List Int} (h : l.length=1) : ∃ x,l=[x]:=by
 match l,h with
 | [x],_ => exact ⟨x,rfl⟩
theorem len2 {l : List Int} (h : l.length=2) : ∃ x y,l=[x,y]:=by
 match l,h with
 | [x,y],_ => exact ⟨x,y,rfl⟩
theorem bytes_ext1 (a : ByteArray) (i : Nat) (h : i<a.size) : bigV (bytesOf (a.extract i (i + 1)))=bt a (i : Int):=by
 have hl : (bytesOf (a.extract i (i + 1))).length=1:=by rw [bytesOf_length,ByteArray.size_extract];omega
 obtain ⟨x,hx⟩:=len1 hl;have h2:=bytes_in (a.extract i (i + 1)) x (by rw [hx];simp);have h3:=bt_get (a.extract i (i + 1)) 0 (by omega);rw [hx,big1 x h2];simp only [hx,List.getElem_cons_zero] at h3;rw [← h3];unfold bt;have e0 : (((0 : Nat) : Int)).toNat=0:=rfl;have e1 : ((i : Int)).toNat=i:=Int.toNat_natCast i;simp only [e0,e1];rw [dif_pos (by rw [ByteArray.size_extract];omega),dif_pos h]
 congr 2
 rw [ByteArray.getElem_extract];simp
theorem bytes_ext2 (a : ByteArray) (i : Nat) (h : i + 2≤a.size) : 0≤bigV (bytesOf (a.extract i (i + 2)))∧bigV (bytesOf (a.extract i (i + 2)))≤65535:=by
 have hl : (bytesOf (a.extract i (i + 2))).length=2:=by rw [bytesOf_length,ByteArray.size_extract];omega
 obtain ⟨x,y,hx⟩:=len2 hl;have hb:=bytes_in (a.extract i (i + 2));rw [hx] at hb ⊢;exact big2 x y (hb x (by simp)) (hb y (by simp))
abbrev IVal:=S27
abbrev eB : ByteArray:=⟨#[]⟩
abbrev Rd:=Int×Int×ByteArray×ByteArray×Bool
def valV (a : ByteArray) (f : Bool) : Rd :=
  let q:=numV a f 1
  if q.1=1 then (q.1,(numV q.2.1 q.2.2 1).1,eB,(numV q.2.1 q.2.2 1).2.1,(numV q.2.1 q.2.2 1).2.2)
  else if q.1=2 then (q.1,wrap64 ((numV q.2.1 q.2.2 8).1 - 4611686018427387904),eB,(numV q.2.1 q.2.2 8).2.1,(numV q.2.1 q.2.2 8).2.2)
  else if q.1=3∨q.1=4∨q.1=5 then
    let r:=numV q.2.1 q.2.2 2
    (q.1,0,(takV r.2.1 r.2.2 r.1.toNat).1,(takV r.2.1 r.2.2 r.1.toNat).2.1,(takV r.2.1 r.2.2 r.1.toNat).2.2)
  else (q.1,0,eB,q.2.1,q.2.2)
theorem num2_in (a : ByteArray) (f : Bool) : 0≤(numV a f 2).1∧(numV a f 2).1≤65535:=by
  unfold numV
  by_cases h : a.size<2
  · rw [if_pos h];simp
  rw [if_neg h];exact bytes_ext2 a 0 (by omega)
theorem j0_tells (q x1 : Int) (t : ByteArray) (a : ByteArray) (f : Bool) : Eve (fun k => Fb.j0 k true a f q x1 t) (q,x1,(takV (numV a f 2).2.1 (numV a f 2).2.2 (numV a f 2).1.toNat).1,(takV (numV a f 2).2.1 (numV a f 2).2.2 (numV a f 2).1.toNat).2.1,(takV (numV a f 2).2.1 (numV a f 2).2.2 (numV a f 2).1.toNat).2.2):=by
  refine Eve.succ ?_;simp only [Fb.j0,if_true];refine Eve.bind (num_tells a f 2 (by omega)) ?_;have hb:=num2_in a f;have ht:=take_tells (numV a f 2).2.1 (numV a f 2).2.2 (numV a f 2).1.toNat (by omega);rw [show (((numV a f 2).1.toNat : Nat) : Int)=(numV a f 2).1 from Int.toNat_of_nonneg hb.1] at ht;simp only [ht,Option.bind_some];exact Eve.one
theorem value_tells (a : ByteArray) (f : Bool) : Eve (fun k => Fb.f k a f) (valV a f):=by
  simp only [Fb.f];refine Eve.bind (num_tells a f 1 (by omega)) ?_;unfold valV;generalize numV a f 1=q;simp only;refine Eve.ite (fun h => ?_) (fun h => ?_)
  · rw [if_pos h]
    exact Eve.bind (num_tells q.2.1 q.2.2 1 (by omega)) Eve.one
  rw [if_neg h];refine Eve.ite (fun h2 => ?_) (fun h2 => ?_)
  · rw [if_pos h2]
    exact Eve.bind (num_tells q.2.1 q.2.2 8 (by omega)) Eve.one
  rw [if_neg h2];refine Eve.ite (fun h3 => ?_) (fun h3 => ?_)
  · rw [if_pos (.inl h3)]
    simp only [h3,beq_self_eq_true];exact j0_tells _ _ _ _ _
  refine Eve.ite (fun h4 => ?_) (fun h4 => ?_)
  · rw [if_pos (.inr (.inl h4))]
    simp only [h4,beq_self_eq_true];exact j0_tells _ _ _ _ _
  by_cases h5 : q.1=5
  · rw [if_pos (.inr (.inr h5))]
    simp only [h5,beq_self_eq_true];exact j0_tells _ _ _ _ _
  rw [if_neg (by omega)];have : (q.1 == 5)=false:=by simpa using h5
  simp only [this];refine Eve.succ ?_;simp only [Fb.j0,Bool.false_eq_true,if_false];exact Eve.one
def nxtV (a : ByteArray) : Option (IVal×ByteArray) :=
  if a.size=0 then none
  else if bt a 0=0 then some (⟨0,0,eB⟩,a.extract 1 a.size)
  else if bt a 0=1 then (if a.size<2 then none else some (⟨1,bt a 1,eB⟩,a.extract 2 a.size))
  else if bt a 0=2 then (if a.size<9 then none else if bt a 1 > 127 then none else some (⟨2,wrap64 (bigV (bytesOf (a.extract 1 9)) - 4611686018427387904),eB⟩,a.extract 9 a.size))
  else if bt a 0=3∨bt a 0=4∨bt a 0=5 then
    (if a.size<3 then none else if (a.size : Int)<3 + bigV (bytesOf (a.extract 1 3)) then none
     else some (⟨bt a 0,0,a.extract 3 (3 + bigV (bytesOf (a.extract 1 3))).toNat⟩,a.extract (3 + bigV (bytesOf (a.extract 1 3))).toNat a.size))
  else none
def told (o : Option (IVal×ByteArray)) : Rd:=match o with|some (v,r) => (v.f0,v.f1,v.f2,r,true)|none => (0,0,eB,eB,false)
theorem wbt (a : ByteArray) (i : Int) : wrap64 (bt a i)=bt a i:=w64 (by have:=bt_range a i;omega) (by have:=bt_range a i;omega)
theorem n0_tells (a : ByteArray) (q : Int) (hs : a.size≤1048576) : Eve (fun k => F1.j0 k a true q 0 eB)
    (told (if a.size<3 then none else if (a.size : Int)<3 + bigV (bytesOf (a.extract 1 3)) then none
     else some (⟨q,0,a.extract 3 (3 + bigV (bytesOf (a.extract 1 3))).toNat⟩,a.extract (3 + bigV (bytesOf (a.extract 1 3))).toNat a.size))):=by
  refine Eve.succ ?_;simp only [F1.j0,if_true];refine Eve.ite (fun h => ?_) (fun h => ?_)
  · rw [if_pos (by omega)];exact Eve.one
  rw [if_neg (by omega)];refine Eve.ite (fun _ => ?_) (fun h => absurd (by omega) h);refine Eve.ite (fun _ => ?_) (fun h => absurd (by omega) h);refine Eve.bind (of_tells (a.extract 1 3) (by rw [ByteArray.size_extract];omega)) ?_;have hb:=bytes_ext2 a 1 (by omega);simp only [show 1 + 2=3 from rfl] at hb;have hw : wrap64 (3 + bigV (bytesOf (a.extract 1 3)))=3 + bigV (bytesOf (a.extract 1 3)):=w64 (by omega) (by omega);simp only [hw];refine Eve.ite (fun h2 => ?_) (fun h2 => ?_)
  · rw [if_pos h2];exact Eve.one
  rw [if_neg h2];refine Eve.ite (fun _ => ?_) (fun h => absurd (by omega) h);refine Eve.ite (fun _ => ?_) (fun h => absurd (by omega) h);exact Eve.ite (fun _ => Eve.one) (fun h => absurd (by omega) h)
theorem next_tells (a : ByteArray) (hs : a.size≤1048576) : Eve (fun k => F1.f k a) (told (nxtV a)):=by
  unfold nxtV;simp only [F1.f,wbt];refine Eve.ite (fun h => ?_) (fun h => ?_)
  · have hz : a.size=0:=by omega
    rw [if_pos hz];exact Eve.one
  have hz : ¬ a.size=0:=by omega
  rw [if_neg hz];refine Eve.ite (fun _ => ?_) (fun h => absurd (by omega) h);refine Eve.ite (fun h0 => ?_) (fun h0 => ?_)
  · rw [if_pos h0]
    refine Eve.ite (fun _ => ?_) (fun h => absurd (by omega) h);exact Eve.one.eq (by rw [h0];rfl)
  rw [if_neg h0];refine Eve.ite (fun h1 => ?_) (fun h1 => ?_)
  · rw [if_pos h1]
    refine Eve.succ ?_;simp only [F1.j1,wbt,h1];have hw : wrap64 (1 + 1)=2:=w64 (by omega) (by omega);simp only [hw,if_true];refine Eve.ite (fun h => ?_) (fun h => ?_)
    · have hy : a.size<2:=by omega
      rw [if_pos hy];exact Eve.one
    have hy : ¬ a.size<2:=by omega
    rw [if_neg hy];refine Eve.ite (fun _ => ?_) (fun h => absurd (by omega) h);refine Eve.ite (fun _ => ?_) (fun h => absurd (by omega) h);exact Eve.ite (fun _ => Eve.one) (fun h => absurd (by omega) h)
  rw [if_neg h1];refine Eve.ite (fun h2 => ?_) (fun h2 => ?_)
  · rw [if_pos h2]
    refine Eve.succ ?_;simp only [F1.j1,h2];have hw : wrap64 (1 + 8)=9:=w64 (by omega) (by omega);simp only [hw];refine Eve.ite (fun h => ?_) (fun h => ?_)
    · have hy : a.size<9:=by omega
      rw [if_pos hy];exact Eve.one
    have hy : ¬ a.size<9:=by omega
    rw [if_neg hy];refine Eve.ite (fun h => absurd h (by omega)) (fun _ => ?_);refine Eve.ite (fun _ => ?_) (fun h => absurd (by omega) h);refine Eve.ite (fun h => ?_) (fun h => ?_)
    · rw [if_pos h];exact Eve.one
    rw [if_neg h];refine Eve.ite (fun _ => ?_) (fun h => absurd (by omega) h);refine Eve.ite (fun _ => ?_) (fun h => absurd (by omega) h);refine Eve.bind (of_tells (a.extract 1 9) (by rw [ByteArray.size_extract];omega)) ?_;refine Eve.ite (fun _ => ?_) (fun h => absurd (by omega) h);exact Eve.ite (fun _ => Eve.one) (fun h => absurd (by omega) h)
  rw [if_neg h2];refine Eve.ite (fun h3 => ?_) (fun h3 => ?_)
  · rw [if_pos (show bt a 0=3∨bt a 0=4∨bt a 0=5 from .inl h3)]
    simp only [h3,beq_self_eq_true];exact n0_tells a 3 hs
  refine Eve.ite (fun h4 => ?_) (fun h4 => ?_)
  · rw [if_pos (show bt a 0=3∨bt a 0=4∨bt a 0=5 from .inr (.inl h4))]
    simp only [h4,beq_self_eq_true];exact n0_tells a 4 hs
  by_cases h5 : bt a 0=5
  · rw [if_pos (show bt a 0=3∨bt a 0=4∨bt a 0=5 from .inr (.inr h5))]
    simp only [h5,beq_self_eq_true];exact n0_tells a 5 hs
  have hy : ¬ (bt a 0=3∨bt a 0=4∨bt a 0=5):=by omega
  rw [if_neg hy];have : (bt a 0 == 5)=false:=by simpa using h5
  simp only [this];refine Eve.succ ?_;simp only [F1.j0,Bool.false_eq_true,if_false];exact Eve.one
def Bad (v : IVal) : Prop:=v.f0<0∨v.f0 > 5∨(v.f0=2∧(v.f1 < -1000000000000∨v.f1 > 1000000000000))
def rdv (r : Rd) : IVal:=⟨r.1,r.2.1,r.2.2.1⟩
theorem num_one (a : ByteArray) (f : Bool) (h : 0<a.size) : numV a f 1=(bt a 0,a.extract 1 a.size,f):=by
  unfold numV;rw [if_neg (by omega)];have:=bytes_ext1 a 0 h;simp only [Nat.zero_add] at this;rw [this];rfl
theorem num_none (a : ByteArray) (f : Bool) (n : Nat) (h : a.size<n) : numV a f n=(0,a,true):=by unfold numV;rw [if_pos h]
theorem num_some (a : ByteArray) (f : Bool) (n : Nat) (h : n≤a.size) : numV a f n=(bigV (bytesOf (a.extract 0 n)),a.extract n a.size,f):=by unfold numV;rw [if_neg (by omega)]
theorem tail_size (a : ByteArray) (n : Nat) : (a.extract n a.size).size=a.size - n:=by rw [ByteArray.size_extract];omega
theorem ext_ext (a : ByteArray) (n i j : Nat) (h : n + j≤a.size) : (a.extract n a.size).extract i j=a.extract (n + i) (n + j):=by
  rw [ByteArray.extract_extract,Nat.min_eq_left h]
theorem ext_tail (a : ByteArray) (n i : Nat) (h : n≤a.size) : (a.extract n a.size).extract i (a.extract n a.size).size=a.extract (n + i) a.size:=by
  rw [tail_size,ByteArray.extract_extract]
  congr 1
  omega
theorem big8 (l : List Int) (x : Int) (r : List Int) (hl : l=x :: r) (hr : r.length=7) (hb : ∀ b ∈ l,0≤b∧b≤255) (hx : x > 127) : wrap64 (bigV l - 4611686018427387904) < -1000000000000∨wrap64 (bigV l - 4611686018427387904) > 1000000000000:=by
  subst hl
  match r,hr with
  | [b1,b2,b3,b4,b5,b6,b7],_ =>
    have h0:=hb x (by simp);have h1:=hb b1 (by simp);have h2:=hb b2 (by simp);have h3:=hb b3 (by simp);have h4:=hb b4 (by simp);have h5:=hb b5 (by simp);have h6:=hb b6 (by simp);have h7:=hb b7 (by simp)
    have e : bigV [x,b1,b2,b3,b4,b5,b6,b7]=x * 72057594037927936 + b1 * 281474976710656 + b2 * 1099511627776 + b3 * 4294967296 + b4 * 16777216 + b5 * 65536 + b6 * 256 + b7 - 18446744073709551616:=by
      simp only [bigV,List.foldl_cons,List.foldl_nil];have s0 : stp 0 x=x:=by unfold stp;simp only [w64m];omega
      have s1 : stp x b1=x * 256 + b1:=by unfold stp;simp only [w64m];omega
      have s2 : stp (x * 256 + b1) b2=x * 65536 + b1 * 256 + b2:=by unfold stp;simp only [w64m];omega
      have s3 : stp (x * 65536 + b1 * 256 + b2) b3=x * 16777216 + b1 * 65536 + b2 * 256 + b3:=by unfold stp;simp only [w64m];omega
      have s4 : stp (x * 16777216 + b1 * 65536 + b2 * 256 + b3) b4=x * 4294967296 + b1 * 16777216 + b2 * 65536 + b3 * 256 + b4:=by unfold stp;simp only [w64m];omega
      have s5 : stp (x * 4294967296 + b1 * 16777216 + b2 * 65536 + b3 * 256 + b4) b5=x * 1099511627776 + b1 * 4294967296 + b2 * 16777216 + b3 * 65536 + b4 * 256 + b5:=by unfold stp;simp only [w64m];omega
      have s6 : stp (x * 1099511627776 + b1 * 4294967296 + b2 * 16777216 + b3 * 65536 + b4 * 256 + b5) b6=x * 281474976710656 + b1 * 1099511627776 + b2 * 4294967296 + b3 * 16777216 + b4 * 65536 + b5 * 256 + b6:=by unfold stp;simp only [w64m];omega
      rw [s0,s1,s2,s3,s4,s5,s6];unfold stp;simp only [w64m];omega
    rw [e,w64m]
    omega
theorem nxt_some (a : ByteArray) (v : IVal) (r : ByteArray) (h : nxtV a=some (v,r)) : valV a false=(v.f0,v.f1,v.f2,r,false)∧r.size<a.size:=by
  unfold nxtV at h
  by_cases hz : a.size=0
  · rw [if_pos hz] at h;simp at h
  rw [if_neg hz] at h;unfold valV;rw [num_one a false (by omega)];simp only;have ht:=tail_size a 1
  by_cases h0 : bt a 0=0
  · rw [if_pos h0] at h
    obtain ⟨rfl,rfl⟩ : _∧_:=by simpa using h
    rw [if_neg (by omega),if_neg (by omega),if_neg (by omega),h0];exact ⟨rfl,by omega⟩
  rw [if_neg h0] at h
  by_cases h1 : bt a 0=1
  · rw [if_pos h1] at h
    by_cases h2 : a.size<2
    · rw [if_pos h2] at h;simp at h
    rw [if_neg h2] at h;obtain ⟨rfl,rfl⟩ : _∧_:=by simpa using h
    rw [if_pos h1,num_some _ _ _ (by omega),ext_ext _ _ _ _ (by omega),ext_tail _ _ _ (by omega),h1];have:=bytes_ext1 a 1 (by omega);refine ⟨?_,by rw [tail_size];omega⟩;show (1,bigV (bytesOf (a.extract 1 (1 + 1))),eB,a.extract 2 a.size,false)=_;rw [this];rfl
  rw [if_neg h1] at h
  by_cases h2 : bt a 0=2
  · rw [if_pos h2] at h
    by_cases h3 : a.size<9
    · rw [if_pos h3] at h;simp at h
    rw [if_neg h3] at h
    by_cases h4 : bt a 1 > 127
    · rw [if_pos h4] at h;simp at h
    rw [if_neg h4] at h;obtain ⟨rfl,rfl⟩ : _∧_:=by simpa using h
    rw [if_neg h1,if_pos h2,num_some _ _ _ (by omega),ext_ext _ _ _ _ (by omega),ext_tail _ _ _ (by omega),h2];exact ⟨rfl,by rw [tail_size];omega⟩
  rw [if_neg h2] at h
  by_cases h3 : bt a 0=3∨bt a 0=4∨bt a 0=5
  · rw [if_pos h3] at h
    by_cases h4 : a.size<3
    · rw [if_pos h4] at h;simp at h
    rw [if_neg h4] at h;have hb:=bytes_ext2 a 1 (by omega);simp only [show 1 + 2=3 from rfl] at hb
    by_cases h5 : (a.size : Int)<3 + bigV (bytesOf (a.extract 1 3))
    · rw [if_pos h5] at h;simp at h
    rw [if_neg h5] at h;obtain ⟨rfl,rfl⟩ : _∧_:=by simpa using h
    rw [if_neg h1,if_neg h2,if_pos h3,num_some _ _ _ (by omega),ext_ext _ _ _ _ (by omega),ext_tail _ _ _ (by omega)];simp only [show 1 + 0=1 from rfl,show 1 + 2=3 from rfl];generalize bigV (bytesOf (a.extract 1 3))=n at hb h5 ⊢;obtain ⟨n,rfl⟩ : ∃ m : Nat,n=(m : Int):=⟨n.toNat,by omega⟩;have e1 : ((n : Int)).toNat=n:=Int.toNat_natCast n;have e2 : (3 + (n : Int)).toNat=3 + n:=by omega
    have ht3:=tail_size a 3;unfold takV;simp only [e1,e2];rw [if_neg (by omega),ext_ext _ _ _ _ (by omega),ext_tail _ _ _ (by omega)];exact ⟨rfl,by rw [tail_size];omega⟩
  rw [if_neg h3] at h;simp at h
theorem nxt_none (a : ByteArray) (h : nxtV a=none) : (valV a false).2.2.2.2=true∨Bad (rdv (valV a false)):=by
  by_cases hz : a.size=0
  · left
    unfold valV;rw [num_none a false 1 (by omega)];simp
  unfold nxtV at h;rw [if_neg hz] at h;unfold valV;rw [num_one a false (by omega)];simp only;have ht:=tail_size a 1
  by_cases h0 : bt a 0=0
  · rw [if_pos h0] at h;simp at h
  rw [if_neg h0] at h
  by_cases h1 : bt a 0=1
  · rw [if_pos h1] at h ⊢
    by_cases h2 : a.size<2
    · left;rw [num_none _ _ _ (by omega)]
    rw [if_neg h2] at h;simp at h
  rw [if_neg h1] at h ⊢
  by_cases h2 : bt a 0=2
  · rw [if_pos h2] at h ⊢
    by_cases h3 : a.size<9
    · left;rw [num_none _ _ _ (by omega)]
    rw [if_neg h3] at h
    by_cases h4 : bt a 1 > 127
    · right;right;right
      refine ⟨h2,?_⟩;rw [num_some _ _ _ (by omega),ext_ext _ _ _ _ (by omega)];simp only [show 1 + 0=1 from rfl,show 1 + 8=9 from rfl,rdv];have hl : (bytesOf (a.extract 1 9)).length=8:=by rw [bytesOf_length,ByteArray.size_extract];omega
      have hg:=bt_get (a.extract 1 9) 0 (by omega)
      have he : bt (a.extract 1 9) ((0 : Nat) : Int)=bt a 1:=by
        unfold bt;have e0 : (((0 : Nat) : Int)).toNat=0:=rfl;have e1 : ((1 : Int)).toNat=1:=rfl;simp only [e0,e1];rw [dif_pos (by rw [ByteArray.size_extract];omega),dif_pos (by omega)]
        congr 2
        rw [ByteArray.getElem_extract]
      cases hc : bytesOf (a.extract 1 9) with
      | nil => rw [hc] at hl;simp at hl
      | cons x r =>
        have hb:=bytes_in (a.extract 1 9);rw [he] at hg;simp only [hc,List.getElem_cons_zero] at hg;rw [hc] at hl hb;exact big8 _ x r rfl (by simpa using hl) hb (by omega)
    rw [if_neg h4] at h;simp at h
  rw [if_neg h2] at h ⊢
  by_cases h3 : bt a 0=3∨bt a 0=4∨bt a 0=5
  · rw [if_pos h3] at h ⊢
    left
    by_cases h4 : a.size<3
    · rw [num_none _ _ 2 (by omega)]
      unfold takV;simp
    rw [if_neg h4] at h;have hb:=bytes_ext2 a 1 (by omega);simp only [show 1 + 2=3 from rfl] at hb
    by_cases h5 : (a.size : Int)<3 + bigV (bytesOf (a.extract 1 3))
    · rw [num_some _ _ 2 (by omega),ext_ext _ _ _ _ (by omega),ext_tail _ _ _ (by omega)]
      simp only [show 1 + 0=1 from rfl,show 1 + 2=3 from rfl];unfold takV;rw [if_pos (by rw [tail_size];omega)]
    rw [if_neg h5] at h;simp at h
  rw [if_neg h3]
  right
  have:=bt_range a 0
  right;left
  show bt a 0 > 5
  omega
theorem num_mono (a : ByteArray) (f : Bool) (n : Nat) : (numV a f n).2.1.size≤a.size∧(f=true→(numV a f n).2.2=true):=by
  unfold numV
  by_cases h : a.size<n
  · rw [if_pos h];exact ⟨Nat.le_refl _,fun _ => rfl⟩
  rw [if_neg h];exact ⟨by simp only [tail_size];omega,fun h => h⟩
theorem tak_mono (a : ByteArray) (f : Bool) (n : Nat) : (takV a f n).2.1.size≤a.size∧(f=true→(takV a f n).2.2=true):=by
  unfold takV
  by_cases h : a.size<n
  · rw [if_pos h];exact ⟨Nat.le_refl _,fun _ => rfl⟩
  rw [if_neg h];exact ⟨by simp only [tail_size];omega,fun h => h⟩
theorem val_mono (a : ByteArray) (f : Bool) : (valV a f).2.2.2.1.size≤(numV a f 1).2.1.size∧(f=true→(valV a f).2.2.2.2=true):=by
  have hq:=num_mono a f 1;unfold valV;generalize numV a f 1=q at hq;simp only
  by_cases h1 : q.1=1
  · rw [if_pos h1]
    have:=num_mono q.2.1 q.2.2 1;exact ⟨this.1,fun h => this.2 (hq.2 h)⟩
  rw [if_neg h1]
  by_cases h2 : q.1=2
  · rw [if_pos h2]
    have:=num_mono q.2.1 q.2.2 8;exact ⟨this.1,fun h => this.2 (hq.2 h)⟩
  rw [if_neg h2]
  by_cases h3 : q.1=3∨q.1=4∨q.1=5
  · rw [if_pos h3]
    have hr:=num_mono q.2.1 q.2.2 2;have ht:=tak_mono (numV q.2.1 q.2.2 2).2.1 (numV q.2.1 q.2.2 2).2.2 (numV q.2.1 q.2.2 2).1.toNat;exact ⟨Nat.le_trans ht.1 hr.1,fun h => ht.2 (hr.2 (hq.2 h))⟩
  rw [if_neg h3];exact ⟨Nat.le_refl _,hq.2⟩
theorem val_less (a : ByteArray) (f : Bool) (h : 0<a.size) : (valV a f).2.2.2.1.size<a.size:=by
  have h1:=(val_mono a f).1;rw [num_one a f h] at h1;have:=tail_size a 1;simp only at h1
  omega
abbrev IFld:=S43
theorem emp (a : ByteArray) : a.toList=([] : List UInt8)↔a.size=0:=by
 rw [ba_toList,← data_length,List.length_eq_zero_iff]
def itS : Nat→ByteArray→Option (List IVal)
 | 0,a => if a.size=0 then some [] else none
 | m + 1,a => if a.size=0 then some [] else match nxtV a with
  | none => none
  | some (v,r) => (itS m r).map (v :: ·)
def toldL (acc : List IVal) (o : Option (List IVal)) : List IVal×Bool:=match o with|some l => (acc ++ l,true)|none => ([],false)
theorem items_spec : ∀ (m : Nat) (a : ByteArray) (acc : List IVal),a.size≤m→a.size≤1048576→acc.length + a.size≤1048576→Eve (fun k => Fd.l0 k a acc) (toldL acc (itS m a)):=by
 intro m
 induction m with
 | zero =>
  intro a acc h1 h2 h3;refine Eve.succ ?_;simp only [Fd.l0,itS];have hz : a.size=0:=by omega
  rw [if_pos hz];exact Eve.ite (fun h => absurd h (by omega)) (fun _ => Eve.one.eq (by simp [toldL]))
 | succ m ih =>
  intro a acc h1 h2 h3;refine Eve.succ ?_;simp only [Fd.l0,itS]
  by_cases hz : a.size=0
  ·
   rw [if_pos hz]
   exact Eve.ite (fun h => absurd h (by omega)) (fun _ => Eve.one.eq (by simp [toldL]))
  rw [if_neg hz];refine Eve.ite (fun _ => ?_) (fun h => absurd (by omega) h);refine Eve.bind (next_tells a h2) ?_
  cases hn : nxtV a with
  | none => simp only [told,Bool.false_eq_true,if_false];exact Eve.one
  | some p =>
   obtain ⟨v,r⟩:=p;have hs:=nxt_some a v r hn;simp only [told,if_true];refine Eve.ite (fun _ => ?_) (fun h => absurd (by omega) h);refine (ih r (acc ++ [⟨v.f0,v.f1,v.f2⟩]) (by omega) (by omega) (by simp;omega)).eq ?_
   cases itS m r with
   | none => rfl
   | some l => simp [toldL]
theorem tak_size (a : ByteArray) (f : Bool) (n : Nat) (_h : a.size≤1048576) (hn : n≤65535) : (takV a f n).1.size≤1048576:=by
 unfold takV
 by_cases h2 : a.size<n
 ·
  rw [if_pos h2];simp only [zer_size];omega
 rw [if_neg h2];simp only [ByteArray.size_extract];omega
theorem val_size (a : ByteArray) (f : Bool) (h : a.size≤1048576) : (rdv (valV a f)).f2.size≤1048576:=by
 have hq:=num_mono a f 1;unfold valV;generalize numV a f 1=q at hq;simp only [rdv]
 by_cases h1 : q.1=1
 ·
  rw [if_pos h1];exact Nat.zero_le _
 rw [if_neg h1]
 by_cases h2 : q.1=2
 ·
  rw [if_pos h2];exact Nat.zero_le _
 rw [if_neg h2]
 by_cases h3 : q.1=3∨q.1=4∨q.1=5
 ·
  rw [if_pos h3]
  have hr:=num_mono q.2.1 q.2.2 2;have hn:=num2_in q.2.1 q.2.2;exact tak_size _ _ _ (by omega) (by omega)
 rw [if_neg h3];exact Nat.zero_le _
theorem items_stop (acc : List IVal) (a : ByteArray) : Eve (fun k => F8.l0 k acc a true) (acc,false):=by
 refine Eve.succ ?_;simp only [F8.l0,if_true,Bool.not_true];exact Eve.ite (fun _ => Eve.one) (fun _ => Eve.one)
theorem items_end (acc : List IVal) (a : ByteArray) (h : a.size=0) : Eve (fun k => F8.l0 k acc a false) (acc,true):=by
 refine Eve.succ ?_;simp only [F8.l0,Bool.not_false];exact Eve.ite (fun _ => Eve.one) (fun h2 => absurd ((emp a).2 h) h2)
theorem items_step (acc : List IVal) (a : ByteArray) (h : 0<a.size) (hl : acc.length≤1048576) {x : List IVal×Bool}
  (hx : Eve (fun k => F8.l0 k (acc ++ [rdv (valV a false)]) (valV a false).2.2.2.1 (valV a false).2.2.2.2) x) : Eve (fun k => F8.l0 k acc a false) x:=by
 refine Eve.succ ?_;simp only [F8.l0,Bool.false_eq_true,if_false];refine Eve.ite (fun h2 => absurd ((emp a).1 h2) (by omega)) (fun _ => ?_);refine Eve.bind (value_tells a false) ?_;exact Eve.ite (fun _ => hx) (fun h2 => absurd (by omega) h2)
theorem items_some : ∀ (m : Nat) (a : ByteArray) (acc l : List IVal),itS m a=some l→acc.length + a.size≤1048576→Eve (fun k => F8.l0 k acc a false) (acc ++ l,true):=by
 intro m
 induction m with
 | zero =>
  intro a acc l h h2;simp only [itS] at h
  by_cases hz : a.size=0
  ·
   rw [if_pos hz] at h
   obtain rfl : []=l:=by simpa using h
   exact (items_end acc a hz).eq (by simp)
  rw [if_neg hz] at h;simp at h
 | succ m ih =>
  intro a acc l h h2;simp only [itS] at h
  by_cases hz : a.size=0
  ·
   rw [if_pos hz] at h
   obtain rfl : []=l:=by simpa using h
   exact (items_end acc a hz).eq (by simp)
  rw [if_neg hz] at h
  cases hn : nxtV a with
  | none => rw [hn] at h;simp at h
  | some p =>
   obtain ⟨v,r⟩:=p;rw [hn] at h;simp only [Option.map_eq_some_iff] at h;obtain ⟨l',h',rfl⟩:=h;obtain ⟨hs,hlt⟩:=nxt_some a v r hn;refine items_step acc a (by omega) (by omega) ?_;rw [hs];refine (ih r (acc ++ [rdv (v.f0,v.f1,v.f2,r,false)]) l' h' (by simp;omega)).eq ?_;simp [rdv]
theorem items_some_end : ∀ (m : Nat) (a : ByteArray) (acc : List IVal),a.size≤m→acc.length + a.size≤1048576 → ∃ l ok,Eve (fun k => F8.l0 k acc a false) (acc ++ l,ok)∧(l.length≤a.size ∧ ∀ x ∈ l,x.f2.size≤1048576):=by
 intro m
 induction m with
 | zero => intro a acc h1 h2;exact ⟨[],true,(items_end acc a (by omega)).eq (by simp),by simp,by simp⟩
 | succ m ih =>
  intro a acc h1 h2
  by_cases hz : a.size=0
  ·
   exact ⟨[],true,(items_end acc a hz).eq (by simp),by simp,by simp⟩
  have hlt:=val_less a false (by omega);have hvs:=val_size a false (by omega)
  cases hf : (valV a false).2.2.2.2 with
  | true =>
   refine ⟨[rdv (valV a false)],false,items_step acc a (by omega) (by omega) ?_,by simp;omega,by simpa using hvs⟩;rw [hf];exact items_stop _ _
  | false =>
   obtain ⟨l,ok,hl,hl1,hl2⟩:=ih (valV a false).2.2.2.1 (acc ++ [rdv (valV a false)]) (by omega) (by simp;omega);refine ⟨rdv (valV a false) :: l,ok,items_step acc a (by omega) (by omega) ?_,by simp;omega,by simpa using ⟨hvs,hl2⟩⟩;rw [hf];exact hl.eq (by simp)
theorem items_none : ∀ (m : Nat) (a : ByteArray) (acc : List IVal),a.size≤m→itS m a=none→acc.length + a.size≤1048576 → ∃ l ok,Eve (fun k => F8.l0 k acc a false) (acc ++ l,ok)∧(ok=false ∨ ∃ v ∈ l,Bad v)∧(l.length≤a.size ∧ ∀ x ∈ l,x.f2.size≤1048576):=by
 intro m
 induction m with
 | zero =>
  intro a acc h1 h h2;simp only [itS] at h;rw [if_pos (show a.size=0 by omega)] at h;simp at h
 | succ m ih =>
  intro a acc h1 h h2;simp only [itS] at h
  by_cases hz : a.size=0
  ·
   rw [if_pos hz] at h;simp at h
  rw [if_neg hz] at h;have hlt:=val_less a false (by omega);have hvs:=val_size a false (by omega)
  cases hn : nxtV a with
  | some p =>
   obtain ⟨v,r⟩:=p;rw [hn] at h;simp only [Option.map_eq_none_iff] at h;obtain ⟨hs,hlt⟩:=nxt_some a v r hn;rw [hs] at hvs;obtain ⟨l,ok,hl,hb,hl1,hl2⟩:=ih r (acc ++ [rdv (v.f0,v.f1,v.f2,r,false)]) (by omega) h (by simp;omega);refine ⟨rdv (v.f0,v.f1,v.f2,r,false) :: l,ok,?_,?_,by simp;omega,by simpa using ⟨hvs,hl2⟩⟩
   ·
    refine items_step acc a (by omega) (by omega) ?_
    rw [hs];exact hl.eq (by simp)
   rcases hb with hb|⟨x,hx,hb⟩
   ·
    exact .inl hb
   exact .inr ⟨x,by simp [hx],hb⟩
  | none =>
   have hv:=nxt_none a hn
   cases hf : (valV a false).2.2.2.2 with
   | true =>
    refine ⟨[rdv (valV a false)],false,items_step acc a (by omega) (by omega) ?_,.inl rfl,by simp;omega,by simpa using hvs⟩;rw [hf];exact items_stop _ _
   | false =>
    rw [hf] at hv;obtain ⟨l,ok,hl,hl1,hl2⟩:=items_some_end m (valV a false).2.2.2.1 (acc ++ [rdv (valV a false)]) (by omega) (by simp;omega);refine ⟨rdv (valV a false) :: l,ok,items_step acc a (by omega) (by omega) ?_,.inr ⟨_,by simp,hv.resolve_left (by simp)⟩,by simp;omega,by simpa using ⟨hvs,hl2⟩⟩;rw [hf];exact hl.eq (by simp)
def fdS : Nat→ByteArray→Option (List IFld)
 | 0,a => if a.size=0 then some [] else none
 | m + 1,a => if a.size=0 then some [] else if (a.size : Int)<1 + bt a 0 then none else match nxtV (a.extract (1 + bt a 0).toNat a.size) with
  | none => none
  | some (v,r) => (fdS m r).map ((⟨a.extract 1 (1 + bt a 0).toNat,v⟩ : IFld) :: ·)
def toldF (acc : List IFld) (o : Option (List IFld)) : List IFld×Bool:=match o with|some l => (acc ++ l,true)|none => ([],false)
theorem wb1 (a : ByteArray) : wrap64 (1 + bt a 0)=1 + bt a 0:=w64 (by have:=bt_range a 0;omega) (by have:=bt_range a 0;omega)
theorem fields_spec : ∀ (m : Nat) (a : ByteArray) (acc : List IFld),a.size≤m→a.size≤1048576→acc.length + a.size≤1048576→Eve (fun k => Fc.l0 k a acc) (toldF acc (fdS m a)):=by
 intro m
 induction m with
 | zero =>
  intro a acc h1 h2 h3;refine Eve.succ ?_;simp only [Fc.l0,fdS];have hz : a.size=0:=by omega
  rw [if_pos hz];exact Eve.ite (fun h => absurd h (by omega)) (fun _ => Eve.one.eq (by simp [toldF]))
 | succ m ih =>
  intro a acc h1 h2 h3;refine Eve.succ ?_;simp only [Fc.l0,fdS,wbt,wb1]
  by_cases hz : a.size=0
  ·
   rw [if_pos hz]
   exact Eve.ite (fun h => absurd h (by omega)) (fun _ => Eve.one.eq (by simp [toldF]))
  rw [if_neg hz];have hb:=bt_range a 0;refine Eve.ite (fun _ => ?_) (fun h => absurd (by omega) h);refine Eve.ite (fun _ => ?_) (fun h => absurd (by omega) h);refine Eve.ite (fun h => ?_) (fun h => ?_)
  ·
   rw [if_pos h];exact Eve.one
  rw [if_neg h];refine Eve.ite (fun _ => ?_) (fun h => absurd (by omega) h);refine Eve.ite (fun _ => ?_) (fun h => absurd (by omega) h);refine Eve.ite (fun _ => ?_) (fun h => absurd (by omega) h);have ht:=tail_size a (1 + bt a 0).toNat;refine Eve.bind (next_tells _ (by omega)) ?_
  cases hn : nxtV (a.extract (1 + bt a 0).toNat a.size) with
  | none => simp only [told,Bool.false_eq_true,if_false];exact Eve.one
  | some p =>
   obtain ⟨v,r⟩:=p;have hs:=nxt_some _ v r hn;simp only [told,if_true];refine Eve.ite (fun _ => ?_) (fun h => absurd (by omega) h);refine (ih r (acc ++ [⟨a.extract 1 (1 + bt a 0).toNat,⟨v.f0,v.f1,v.f2⟩⟩]) (by omega) (by omega) (by simp;omega)).eq ?_
   cases fdS m r with
   | none => rfl
   | some l => simp [toldF]
def fdV (a : ByteArray) : ByteArray×Rd :=
 let q:=numV a false 1
 let t:=takV q.2.1 q.2.2 q.1.toNat
 (t.1,valV t.2.1 t.2.2)
def fdv (x : ByteArray×Rd) : IFld:=⟨x.1,rdv x.2⟩
theorem fields_stop (acc : List IFld) (a : ByteArray) : Eve (fun k => F5.l0 k acc a true) (acc,false):=by
 have hj : Eve (fun k => F5.j1 k acc false a true) (acc,false):=Eve.succ (by simp only [F5.j1,Bool.false_eq_true,if_false,Bool.not_true];exact Eve.one);refine Eve.succ ?_;simp only [F5.l0,Bool.not_true];exact Eve.ite (fun _ => hj) (fun _ => hj)
theorem fields_end (acc : List IFld) (a : ByteArray) (h : a.size=0) : Eve (fun k => F5.l0 k acc a false) (acc,true):=by
 refine Eve.succ ?_;simp only [F5.l0];refine Eve.ite (fun _ => Eve.succ ?_) (fun h2 => absurd ((emp a).2 h) h2);simp only [F5.j1,Bool.false_eq_true,if_false,Bool.not_false];exact Eve.one
theorem fields_step (acc : List IFld) (a : ByteArray) (h : 0<a.size) (hl : acc.length≤1048576) {x : List IFld×Bool}
  (hx : Eve (fun k => F5.l0 k (acc ++ [fdv (fdV a)]) (fdV a).2.2.2.2.1 (fdV a).2.2.2.2.2) x) : Eve (fun k => F5.l0 k acc a false) x:=by
 refine Eve.succ ?_;simp only [F5.l0,Bool.not_false];refine Eve.ite (fun h2 => absurd ((emp a).1 h2) (by omega)) (fun _ => Eve.succ ?_);simp only [F5.j1,if_true];refine Eve.bind (num_tells a false 1 (by omega)) ?_
 have hb : 0≤(numV a false 1).1∧(numV a false 1).1≤65535:=by
  rw [num_one a false h];have:=bt_range a 0;simp only;omega
 have ht:=take_tells (numV a false 1).2.1 (numV a false 1).2.2 (numV a false 1).1.toNat (by omega);rw [show (((numV a false 1).1.toNat : Nat) : Int)=(numV a false 1).1 from Int.toNat_of_nonneg hb.1] at ht;simp only [ht,Option.bind_some];refine Eve.bind (value_tells _ _) ?_;exact Eve.ite (fun _ => hx) (fun h2 => absurd (by omega) h2)
theorem fdV_less (a : ByteArray) (h : 0<a.size) : (fdV a).2.2.2.2.1.size<a.size:=by
 unfold fdV;rw [num_one a false h];simp only;have h1:=tail_size a 1;have h2:=(tak_mono (a.extract 1 a.size) false (bt a 0).toNat).1;have h3:=(val_mono (takV (a.extract 1 a.size) false (bt a 0).toNat).2.1 (takV (a.extract 1 a.size) false (bt a 0).toNat).2.2).1;have h4:=(num_mono (takV (a.extract 1 a.size) false (bt a 0).toNat).2.1 (takV (a.extract 1 a.size) false (bt a 0).toNat).2.2 1).1
 omega
theorem fdV_ok (a : ByteArray) (h : 0<a.size) (h2 : ¬ (a.size : Int)<1 + bt a 0) : fdV a=(a.extract 1 (1 + bt a 0).toNat,valV (a.extract (1 + bt a 0).toNat a.size) false):=by
 unfold fdV;rw [num_one a false h];simp only;have hb:=bt_range a 0;have ht:=tail_size a 1;have e : (1 + bt a 0).toNat=1 + (bt a 0).toNat:=by omega
 unfold takV;rw [if_neg (by omega),e];simp only;rw [ext_ext _ _ _ _ (by omega),ext_tail _ _ _ (by omega)]
theorem fdV_bad (a : ByteArray) (h : 0<a.size) (h2 : (a.size : Int)<1 + bt a 0) : (fdV a).2.2.2.2.2=true:=by
 unfold fdV;rw [num_one a false h];simp only;have hb:=bt_range a 0;have ht:=tail_size a 1;refine (val_mono _ _).2 ?_;unfold takV;rw [if_pos (by omega)]
theorem fields_some : ∀ (m : Nat) (a : ByteArray) (acc l : List IFld),fdS m a=some l→acc.length + a.size≤1048576→Eve (fun k => F5.l0 k acc a false) (acc ++ l,true):=by
 intro m
 induction m with
 | zero =>
  intro a acc l h h2;simp only [fdS] at h
  by_cases hz : a.size=0
  ·
   rw [if_pos hz] at h
   obtain rfl : []=l:=by simpa using h
   exact (fields_end acc a hz).eq (by simp)
  rw [if_neg hz] at h;simp at h
 | succ m ih =>
  intro a acc l h h2;simp only [fdS] at h
  by_cases hz : a.size=0
  ·
   rw [if_pos hz] at h
   obtain rfl : []=l:=by simpa using h
   exact (fields_end acc a hz).eq (by simp)
  rw [if_neg hz] at h
  by_cases hy : (a.size : Int)<1 + bt a 0
  ·
   rw [if_pos hy] at h;simp at h
  rw [if_neg hy] at h
  cases hn : nxtV (a.extract (1 + bt a 0).toNat a.size) with
  | none => rw [hn] at h;simp at h
  | some p =>
   obtain ⟨v,r⟩:=p;rw [hn] at h;simp only [Option.map_eq_some_iff] at h;obtain ⟨l',h',rfl⟩:=h;obtain ⟨hs,hlt⟩:=nxt_some _ v r hn;have ht:=tail_size a (1 + bt a 0).toNat;have hb:=bt_range a 0;refine fields_step acc a (by omega) (by omega) ?_;rw [fdV_ok a (by omega) hy,hs];refine (ih r (acc ++ [fdv (a.extract 1 (1 + bt a 0).toNat,(v.f0,v.f1,v.f2,r,false))]) l' h' (by simp;omega)).eq ?_;simp [fdv,rdv]
theorem fdV_size (a : ByteArray) (h : 0<a.size) (h2 : a.size≤1048576) : (fdv (fdV a)).f0.size≤1048576∧(fdv (fdV a)).f1.f2.size≤1048576:=by
 unfold fdV fdv;rw [num_one a false h];have hb:=bt_range a 0;have ht:=tail_size a 1;have hm:=(tak_mono (a.extract 1 a.size) false (bt a 0).toNat).1;exact ⟨tak_size (a.extract 1 a.size) false (bt a 0).toNat (by omega) (by omega),val_size (takV (a.extract 1 a.size) false (bt a 0).toNat).2.1 (takV (a.extract 1 a.size) false (bt a 0).toNat).2.2 (by omega)⟩
theorem fields_some_end : ∀ (m : Nat) (a : ByteArray) (acc : List IFld),a.size≤m→acc.length + a.size≤1048576 → ∃ l ok,Eve (fun k => F5.l0 k acc a false) (acc ++ l,ok)∧(l.length≤a.size ∧ ∀ x ∈ l,x.f0.size≤1048576∧x.f1.f2.size≤1048576):=by
 intro m
 induction m with
 | zero => intro a acc h1 h2;exact ⟨[],true,(fields_end acc a (by omega)).eq (by simp),by simp,by simp⟩
 | succ m ih =>
  intro a acc h1 h2
  by_cases hz : a.size=0
  ·
   exact ⟨[],true,(fields_end acc a hz).eq (by simp),by simp,by simp⟩
  have hlt:=fdV_less a (by omega);have hvs:=fdV_size a (by omega) (by omega)
  cases hf : (fdV a).2.2.2.2.2 with
  | true =>
   refine ⟨[fdv (fdV a)],false,fields_step acc a (by omega) (by omega) ?_,by simp;omega,by simpa using hvs⟩;rw [hf];exact fields_stop _ _
  | false =>
   obtain ⟨l,ok,hl,hl1,hl2⟩:=ih (fdV a).2.2.2.2.1 (acc ++ [fdv (fdV a)]) (by omega) (by simp;omega);refine ⟨fdv (fdV a) :: l,ok,fields_step acc a (by omega) (by omega) ?_,by simp;omega,by simpa using ⟨hvs,hl2⟩⟩;rw [hf];exact hl.eq (by simp)
theorem fields_none : ∀ (m : Nat) (a : ByteArray) (acc : List IFld),a.size≤m→fdS m a=none→acc.length + a.size≤1048576 → ∃ l ok,Eve (fun k => F5.l0 k acc a false) (acc ++ l,ok)∧(ok=false ∨ ∃ v ∈ l,Bad v.f1)∧(l.length≤a.size ∧ ∀ x ∈ l,x.f0.size≤1048576∧x.f1.f2.size≤1048576):=by
 intro m
 induction m with
 | zero =>
  intro a acc h1 h h2;simp only [fdS] at h;rw [if_pos (show a.size=0 by omega)] at h;simp at h
 | succ m ih =>
  intro a acc h1 h h2;simp only [fdS] at h
  by_cases hz : a.size=0
  ·
   rw [if_pos hz] at h;simp at h
  rw [if_neg hz] at h;have hlt:=fdV_less a (by omega);have hvs:=fdV_size a (by omega) (by omega)
  by_cases hy : (a.size : Int)<1 + bt a 0
  ·
   refine ⟨[fdv (fdV a)],false,fields_step acc a (by omega) (by omega) ?_,.inl rfl,by simp;omega,by simpa using hvs⟩
   rw [fdV_bad a (by omega) hy];exact fields_stop _ _
  rw [if_neg hy] at h;have ht:=tail_size a (1 + bt a 0).toNat;have hb0:=bt_range a 0;have hok:=fdV_ok a (by omega) hy
  cases hn : nxtV (a.extract (1 + bt a 0).toNat a.size) with
  | some p =>
   obtain ⟨v,r⟩:=p;rw [hn] at h;simp only [Option.map_eq_none_iff] at h;obtain ⟨hs,hlt⟩:=nxt_some _ v r hn;rw [hok,hs] at hvs;obtain ⟨l,ok,hl,hb,hl1,hl2⟩:=ih r (acc ++ [fdv (a.extract 1 (1 + bt a 0).toNat,(v.f0,v.f1,v.f2,r,false))]) (by omega) h (by simp;omega);refine ⟨fdv (a.extract 1 (1 + bt a 0).toNat,(v.f0,v.f1,v.f2,r,false)) :: l,ok,?_,?_,by simp;omega,by simpa using ⟨hvs,hl2⟩⟩
   ·
    refine fields_step acc a (by omega) (by omega) ?_
    rw [hok,hs];exact hl.eq (by simp)
   rcases hb with hb|⟨x,hx,hb⟩
   ·
    exact .inl hb
   exact .inr ⟨x,by simp [hx],hb⟩
  | none =>
   have hv:=nxt_none _ hn
   cases hf : (fdV a).2.2.2.2.2 with
   | true =>
    refine ⟨[fdv (fdV a)],false,fields_step acc a (by omega) (by omega) ?_,.inl rfl,by simp;omega,by simpa using hvs⟩;rw [hf];exact fields_stop _ _
   | false =>
    obtain ⟨l,ok,hl,hl1,hl2⟩:=fields_some_end m (fdV a).2.2.2.2.1 (acc ++ [fdv (fdV a)]) (by omega) (by simp;omega);refine ⟨fdv (fdV a) :: l,ok,fields_step acc a (by omega) (by omega) ?_,.inr ⟨fdv (fdV a),by simp,?_⟩,by simp;omega,by simpa using ⟨hvs,hl2⟩⟩
    ·
     rw [hf]
     exact hl.eq (by simp)
    have e1 : (fdV a).2=valV (a.extract (1 + bt a 0).toNat a.size) false:=by rw [hok]
    have e2 : (fdv (fdV a)).f1=rdv (fdV a).2:=rfl;rw [e2,e1];rw [e1] at hf;rcases hv with hv|hv
    ·
     rw [hf] at hv;cases hv
    exact hv
def isL (c : Int) : Bool:=(decide (97≤c) && decide (c≤122)) || (decide (65≤c) && decide (c≤90)) || (c == 95)
def isD (c : Int) : Bool:=decide (48≤c) && decide (c≤57)
theorem specL (c : Int) : Fy.f c=some (isL c):=by
 unfold Fy.f isL
 split <;> split <;> (try split) <;> (try split) <;> simp <;> omega
theorem implL (c : Int) : F01.f c=some (isL c):=by
 unfold F01.f isL
 split <;> split <;> (try split) <;> (try split) <;> simp <;> omega
theorem specD (c : Int) : F9.f c=some (isD c):=by
 unfold F9.f isD
 split <;> simp <;> omega
theorem implD (c : Int) : Fz.f c=some (isD c):=by
 unfold Fz.f isD
 split <;> simp <;> omega
def wgo (first : Bool) : List Int→Bool
 | [] => true
 | c :: cs => (isL c || (isD c && !first)) && wgo false cs
def word (s : ByteArray) : Bool:=wgo true (bytesOf s) && (decide (1≤(s.size : Int)) && decide ((s.size : Int)≤40))
theorem word_spec (s : ByteArray) (hs : s.size≤1048576) : Eve (fun k => F7.f k s) (word s):=by
 have hn : (bytesOf s).length=s.size:=bytesOf_length s;have hj : Eve (fun k => F7.j0 k s true) false:=Eve.succ (by simp only [F7.j0,if_true];exact Eve.one);simp only [F7.f];refine Eve.ite (fun h => hj.eq ?_) (fun h => ?_)
 ·
  have : decide (1≤(s.size : Int))=false:=by simp;omega
  simp [word,this]
 refine Eve.ite (fun h2 => hj.eq ?_) (fun h2 => ?_)
 ·
  have : decide ((s.size : Int)≤40)=false:=by simp;omega
  simp [word,this]
 refine Eve.ite (fun _ => ?_) (fun h => absurd (by omega) h)
 have hw : word s=wgo true (bytesOf s):=by
  have a1 : decide (1≤(s.size : Int))=true:=by simp;omega
  have a2 : decide ((s.size : Int)≤40)=true:=by simp;omega
  simp [word,a1,a2]
 have hb:=bt_get s 0 (by omega);simp only [show ((0 : Nat) : Int)=0 from rfl] at hb;have hc : bytesOf s=bt s 0 :: (bytesOf s).drop 1:=by rw [hb];exact drop_at (bytesOf s) 0 (by omega)
 simp only [specL,Option.bind_some]
 cases hl : isL (bt s 0) with
 | false =>
  refine hj.eq ?_;rw [hw,hc];simp [wgo,hl]
 | true =>
  refine Eve.succ ?_;simp only [F7.j0,Bool.not_true,Bool.false_eq_true,if_false]
  have:=ev_loop (bytesOf s) (fun k (_ : Unit) i => F7.l0 k s i) (fun _ _ r => wgo false r) (fun i _ => 1≤i) (fun _ _ => by
   simp only [F7.l0]
   exact Eve.ite (fun h => absurd h (by omega)) (fun _ => Eve.one)) (fun i hi _ hI ih => by
   have hnx:=ih () (by omega);simp only [F7.l0,specL,specD,Option.bind_some,wi (show i≤9223372036854775806 by omega),bt_get s i hi];refine Eve.ite (fun _ => ?_) (fun h => absurd (by omega) h);refine Eve.ite (fun _ => ?_) (fun h => absurd (by omega) h);refine Eve.ite (fun h1 => hnx.eq (by simp [wgo,h1])) (fun h1 => ?_)
   exact Eve.ite (fun h2 => hnx.eq (by simp [wgo,h2])) (fun h2 => Eve.one.eq (by simp [wgo,h1,h2]))) ((bytesOf s).length - 1) 1 () (by omega) (by omega)
  refine this.eq ?_;rw [hw]
  conv => rhs;rw [hc]
  simp [wgo,hl]
theorem word_impl (s : ByteArray) (hs : s.size≤1048576) : Eve (fun k => Ff.f k s) (word s):=by
 have hn : (bytesOf s).length=s.size:=bytesOf_length s;simp only [Ff.f];refine ev_loop0 (bytesOf s) (fun k (_ : Unit) i => Ff.l0 k s (s.size : Int) i) (fun i _ r => wgo (decide (i=0)) r && (decide (1≤(s.size : Int)) && decide ((s.size : Int)≤40))) (fun _ _ => True) (fun _ _ => ?_) (fun i hi _ _ ih => ?_) () trivial
 ·
  simp only [Ff.l0]
  refine Eve.ite (fun h => absurd h (by omega)) (fun _ => Eve.all fun k => ?_);unfold Fs.f
  by_cases h : 1≤(s.size : Int)
  ·
   rw [if_pos h];simp [wgo,h]
  rw [if_neg h];simp [wgo,h]
 have hnx:=ih () trivial;simp only [Nat.add_one_ne_zero,decide_false] at hnx;simp only [Ff.l0,implL,implD,Option.bind_some,wi (show i≤9223372036854775806 by omega),bt_get s i hi];refine Eve.ite (fun _ => ?_) (fun h => absurd (by omega) h);refine Eve.ite (fun _ => ?_) (fun h => absurd (by omega) h);refine Eve.ite (fun _ => ?_) (fun h => absurd (by omega) h);refine Eve.ite (fun h1 => hnx.eq (by simp [wgo,h1])) (fun h1 => ?_);refine Eve.ite (fun h2 => ?_) (fun h2 => Eve.one.eq (by simp [wgo,h1,h2]));refine Eve.ite (fun h3 => Eve.one.eq ?_) (fun h3 => hnx.eq ?_)
 ·
  obtain rfl : i=0:=by omega
  simp [wgo,h1]
 have : ¬ i=0:=by omega
 simp [wgo,h2,this]
def nam (s : ByteArray) : Bool:=word s && decide ((s.size : Int)≤12)
theorem nam_spec (s : ByteArray) (hs : s.size≤1048576) : Eve (fun k => Fm.f k s) (nam s):=by
 simp only [Fm.f,Fw.f];refine Eve.bind (v:=word s) (Eve.bind (word_spec s hs) Eve.one) ?_;refine Eve.ite (fun h => Eve.one.eq (by simp [nam,h])) (fun h => Eve.one.eq (by simp [nam,h]))
theorem nam_impl (s : ByteArray) (hs : s.size≤1048576) : Eve (fun k => Fl.f k s) (nam s):=by
 simp only [Fl.f];refine Eve.ite (fun h => (Eve.bind (word_impl s hs) Eve.one).eq (by simp [nam,h])) (fun h => Eve.one.eq (by simp [nam,h]))
def nms : Option ByteArray→List IFld→Bool
 | _,[] => true
 | p,f :: fs => nam f.f0 && ((match p with|none => true|some q => Op.bytesLess q.toList f.f0.toList) && nms (some f.f0) fs)
def inr (a b c : Int) : Bool:=decide (b≤a) && decide (a≤c)
theorem in_spec (a b c : Int) : Fx.f a b c=some (inr a b c):=by
 unfold Fx.f inr
 by_cases h : b≤a
 ·
  rw [if_pos h];simp [h]
 rw [if_neg h];simp [h]
theorem in_impl (a b c : Int) : Fs.f a b c=some (inr a b c):=in_spec a b c
abbrev emB (a : ByteArray) : Bool:=a.toList == ([] : List UInt8)
def flat (v : IVal) : Bool :=
 if v.f0=0 then decide (v.f1=0) && emB v.f2
 else if v.f0=1 then inr v.f1 0 1 && emB v.f2
 else if v.f0=2 then inr v.f1 (-1000000000000) 1000000000000 && emB v.f2
 else if v.f0=3 then decide (v.f1=0) && decide ((v.f2.size : Int)≤300)
 else false
def rightV : Nat→IVal→Bool
 | 0,v => flat v
 | d + 1,v =>
  if v.f0=4 then decide (v.f1=0) && (decide ((v.f2.size : Int)≤300) && (match itS v.f2.size v.f2 with|some l => l.all (rightV d)|none => false))
  else if v.f0=5 then decide (v.f1=0) && (decide ((v.f2.size : Int)≤300) && (match fdS v.f2.size v.f2 with|some l => nms none l && l.all (fun f => rightV d f.f1)|none => false))
  else flat v
theorem bad_right (v : IVal) (h : Bad v) : ∀ d,rightV d v=false:=by
 have hf : flat v=false:=by
  unfold flat;rcases h with h|h|⟨h,h2⟩
  ·
   rw [if_neg (by omega),if_neg (by omega),if_neg (by omega),if_neg (by omega)]
  ·
   rw [if_neg (by omega),if_neg (by omega),if_neg (by omega),if_neg (by omega)]
  rw [if_neg (by omega),if_neg (by omega),if_pos h];have : inr v.f1 (-1000000000000) 1000000000000=false:=by unfold inr;simp;omega
  rw [this];rfl
 intro d
 cases d with
 | zero => exact hf
 | succ d =>
  unfold rightV;rcases h with h|h|⟨h,h2⟩
  ·
   rw [if_neg (by omega),if_neg (by omega)];exact hf
  ·
   rw [if_neg (by omega),if_neg (by omega)];exact hf
  rw [if_neg (by omega),if_neg (by omega)];exact hf
theorem rdV (l : List IVal) (i : Nat) (h : i<l.length) : rd_T27 l (i : Int)=l[i]:=getD_at _ l i h
theorem rdF (l : List IFld) (i : Nat) (h : i<l.length) : rd_T43 l (i : Int)=l[i]:=getD_at _ l i h
theorem its_size : ∀ (m : Nat) (a : ByteArray) (l : List IVal),itS m a=some l→a.size≤1048576→l.length≤a.size ∧ ∀ x ∈ l,x.f2.size≤1048576:=by
 intro m
 induction m with
 | zero =>
  intro a l h h2;simp only [itS] at h
  by_cases hz : a.size=0
  ·
   rw [if_pos hz] at h
   obtain rfl : []=l:=by simpa using h
   simp
  rw [if_neg hz] at h;simp at h
 | succ m ih =>
  intro a l h h2;simp only [itS] at h
  by_cases hz : a.size=0
  ·
   rw [if_pos hz] at h
   obtain rfl : []=l:=by simpa using h
   simp
  rw [if_neg hz] at h
  cases hn : nxtV a with
  | none => rw [hn] at h;simp at h
  | some p =>
   obtain ⟨v,r⟩:=p;rw [hn] at h;simp only [Option.map_eq_some_iff] at h;obtain ⟨l',h',rfl⟩:=h;obtain ⟨hs,hlt⟩:=nxt_some a v r hn;have hv:=val_size a false h2;rw [hs] at hv;obtain ⟨i1,i2⟩:=ih r l' h' (by omega);refine ⟨by simp;omega,fun x hx => ?_⟩;rcases List.mem_cons.1 hx with rfl|hx
   ·
    exact hv
   exact i2 x hx
theorem fds_size : ∀ (m : Nat) (a : ByteArray) (l : List IFld),fdS m a=some l→a.size≤1048576→l.length≤a.size ∧ ∀ x ∈ l,x.f0.size≤1048576∧x.f1.f2.size≤1048576:=by
 intro m
 induction m with
 | zero =>
  intro a l h h2;simp only [fdS] at h
  by_cases hz : a.size=0
  ·
   rw [if_pos hz] at h
   obtain rfl : []=l:=by simpa using h
   simp
  rw [if_neg hz] at h;simp at h
 | succ m ih =>
  intro a l h h2;simp only [fdS] at h
  by_cases hz : a.size=0
  ·
   rw [if_pos hz] at h
   obtain rfl : []=l:=by simpa using h
   simp
  rw [if_neg hz] at h
  by_cases hy : (a.size : Int)<1 + bt a 0
  ·
   rw [if_pos hy] at h;simp at h
  rw [if_neg hy] at h;have ht:=tail_size a (1 + bt a 0).toNat;have hb:=bt_range a 0
  cases hn : nxtV (a.extract (1 + bt a 0).toNat a.size) with
  | none => rw [hn] at h;simp at h
  | some p =>
   obtain ⟨v,r⟩:=p;rw [hn] at h;simp only [Option.map_eq_some_iff] at h;obtain ⟨l',h',rfl⟩:=h;obtain ⟨hs,hlt⟩:=nxt_some _ v r hn;have hv:=val_size (a.extract (1 + bt a 0).toNat a.size) false (by omega);rw [hs] at hv;obtain ⟨i1,i2⟩:=ih r l' h' (by omega);refine ⟨by simp;omega,fun x hx => ?_⟩;rcases List.mem_cons.1 hx with rfl|hx
   ·
    exact ⟨by simp only [ByteArray.size_extract];omega,hv⟩
   exact i2 x hx
theorem dn (d : Nat) (h : d≤1000) : wrap64 (((d + 1 : Nat) : Int) - 1)=(d : Int):=by rw [w64 (by omega) (by omega)];omega
theorem spec_flat (v : IVal) (e : Int) (h4 : v.f0≠4) (h5 : v.f0≠5) : Eve (fun k => F0.f k v.f0 v.f1 v.f2 e) (flat v):=by
 refine Eve.succ ?_;simp only [F0.f,in_spec,Option.bind_some];unfold flat;refine Eve.ite (fun h => ?_) (fun h => ?_)
 ·
  rw [if_pos h]
  exact Eve.ite (fun h => Eve.one.eq (by simp [h])) (fun h => Eve.one.eq (by simp [h]))
 rw [if_neg h];refine Eve.ite (fun h => ?_) (fun h => ?_)
 ·
  rw [if_pos h]
  exact Eve.ite (fun h => Eve.one.eq (by simp [h])) (fun h => Eve.one.eq (by simp [h]))
 rw [if_neg h];refine Eve.ite (fun h => ?_) (fun h => ?_)
 ·
  rw [if_pos h]
  exact Eve.ite (fun h => Eve.one.eq (by simp [h])) (fun h => Eve.one.eq (by simp [h]))
 rw [if_neg h];refine Eve.ite (fun h => ?_) (fun h => ?_)
 ·
  rw [if_pos h]
  exact Eve.ite (fun h => Eve.one.eq (by simp [h])) (fun h => Eve.one.eq (by simp [h]))
 rw [if_neg h];refine Eve.ite (fun h => absurd h h4) (fun _ => ?_);exact Eve.ite (fun h => absurd h h5) (fun _ => Eve.one)
theorem impl_flat (v : IVal) (e : Int) (h4 : v.f0≠4) (h5 : v.f0≠5) : Eve (fun k => F4.f k v.f0 v.f1 v.f2 e) (flat v):=by
 refine Eve.succ ?_;simp only [F4.f,F02.f,in_impl,Option.bind_some];unfold flat;refine Eve.ite (fun h => ?_) (fun h => ?_)
 ·
  rw [if_pos h]
  exact Eve.one.eq (by rw [h];by_cases h1 : v.f1=0 <;> simp [h1])
 rw [if_neg h];refine Eve.ite (fun h => ?_) (fun h => ?_)
 ·
  rw [if_pos h]
  exact Eve.ite (fun h => Eve.one.eq (by simp [h])) (fun h => Eve.one.eq (by simp [h]))
 rw [if_neg h];refine Eve.ite (fun h => ?_) (fun h => ?_)
 ·
  rw [if_pos h]
  exact Eve.ite (fun h => Eve.one.eq (by simp [h])) (fun h => Eve.one.eq (by simp [h]))
 rw [if_neg h];refine Eve.ite (fun h => ?_) (fun h => ?_)
 ·
  rw [if_pos h]
  exact Eve.ite (fun h => Eve.one.eq (by simp [h])) (fun h => Eve.one.eq (by simp [h]))
 rw [if_neg h];refine Eve.ite (fun h => absurd h h4) (fun _ => ?_);have : (v.f0 == 5)=false:=by simpa using h5
 simp only [this];refine Eve.succ ?_;simp only [F4.j0,Bool.false_eq_true,if_false];exact Eve.one
theorem spec_j0_true (e : Int) (l : List IVal) : Eve (fun k => F0.j0 k e l true) false:=Eve.succ (by simp only [F0.j0,if_true];exact Eve.one)
theorem spec_j2_true (e : Int) (l : List IFld) : Eve (fun k => F0.j2 k e l true) false:=Eve.succ (by simp only [F0.j2,if_true];exact Eve.one)
theorem right_spec : ∀ (d : Nat) (v : IVal),d≤1000→v.f2.size≤1048576→Eve (fun k => F0.f k v.f0 v.f1 v.f2 (d : Int)) (rightV d v):=by
 intro d
 induction d with
 | zero =>
  intro v hd hs
  by_cases h4 : v.f0=4
  ·
   have hf : flat v=false:=by unfold flat;rw [if_neg (by omega),if_neg (by omega),if_neg (by omega),if_neg (by omega)]
   show Eve _ (flat v);rw [hf];refine Eve.succ ?_;simp only [F0.f,h4];simp only [show ¬ (4 : Int)=0 by omega,show ¬ (4 : Int)=1 by omega,show ¬ (4 : Int)=2 by omega,show ¬ (4 : Int)=3 by omega,if_false,if_true];simp only [Fd.f];refine Eve.bind (items_spec _ v.f2 [] (Nat.le_refl _) hs (by simp;omega)) ?_;have hj:=spec_j0_true ((0 : Nat) : Int) (toldL [] (itS v.f2.size v.f2)).1;refine Eve.ite (fun _ => ?_) (fun _ => hj);refine Eve.ite (fun _ => ?_) (fun _ => hj);exact Eve.ite (fun _ => hj) (fun _ => hj)
  by_cases h5 : v.f0=5
  ·
   have hf : flat v=false:=by unfold flat;rw [if_neg (by omega),if_neg (by omega),if_neg (by omega),if_neg (by omega)]
   show Eve _ (flat v);rw [hf];refine Eve.succ ?_;simp only [F0.f,h5];simp only [show ¬ (5 : Int)=0 by omega,show ¬ (5 : Int)=1 by omega,show ¬ (5 : Int)=2 by omega,show ¬ (5 : Int)=3 by omega,show ¬ (5 : Int)=4 by omega,if_false,if_true];simp only [Fc.f];refine Eve.bind (fields_spec _ v.f2 [] (Nat.le_refl _) hs (by simp;omega)) ?_;have hj:=spec_j2_true ((0 : Nat) : Int) (toldF [] (fdS v.f2.size v.f2)).1;refine Eve.ite (fun _ => ?_) (fun _ => hj);refine Eve.ite (fun _ => ?_) (fun _ => hj);exact Eve.ite (fun _ => hj) (fun _ => hj)
  exact spec_flat v _ h4 h5
 | succ d ih =>
  intro v hd hs;have he : (((d + 1 : Nat) : Int) == 0)=false:=by simp;omega
  by_cases h4 : v.f0=4
  ·
   unfold rightV
   rw [if_pos h4];refine Eve.succ ?_;simp only [F0.f,h4];simp only [show ¬ (4 : Int)=0 by omega,show ¬ (4 : Int)=1 by omega,show ¬ (4 : Int)=2 by omega,show ¬ (4 : Int)=3 by omega,if_false,if_true];simp only [Fd.f];refine Eve.bind (items_spec _ v.f2 [] (Nat.le_refl _) hs (by simp;omega)) ?_;have hj:=spec_j0_true ((d + 1 : Nat) : Int) (toldL [] (itS v.f2.size v.f2)).1;refine Eve.ite (fun h1 => ?_) (fun h1 => hj.eq (by simp [h1]))
   cases hi : itS v.f2.size v.f2 with
   | none =>
    rw [hi] at hj;simp only [toldL,Bool.false_eq_true,if_false];exact hj.eq (by simp)
   | some l =>
    rw [hi] at hj;simp only [toldL,if_true,List.nil_append] at hj ⊢;refine Eve.ite (fun h2 => hj.eq ?_) (fun h2 => ?_)
    ·
     have : decide ((v.f2.size : Int)≤300)=false:=by simp;omega
     simp [this]
    obtain ⟨hl1,hl2⟩:=its_size _ _ l hi hs;have hsz : decide ((v.f2.size : Int)≤300)=true:=by simp;omega
    simp only [he];refine Eve.succ ?_;simp only [F0.j0,Bool.false_eq_true,if_false]
    have:=ev_loop0 l (fun k (_ : Unit) i => F0.l0 k ((d + 1 : Nat) : Int) l i) (fun _ _ r => r.all (rightV d)) (fun _ _ => True) (fun _ _ => by
     simp only [F0.l0]
     exact Eve.ite (fun h => absurd h (by omega)) (fun _ => Eve.one)) (fun i hi _ _ ih2 => by
     simp only [F0.l0];refine Eve.ite (fun _ => ?_) (fun h => absurd (by omega) h);refine Eve.ite (fun _ => ?_) (fun h => absurd (by omega) h);simp only [rdV l i hi,dn d (by omega),wi (show i≤9223372036854775806 by omega)];refine Eve.bind (ih l[i] (by omega) (hl2 _ (List.getElem_mem hi))) ?_
     exact Eve.ite (fun h => (ih2 () trivial).eq (by rw [List.all_cons,h,Bool.true_and])) (fun h => Eve.one.eq (by rw [List.all_cons,Bool.eq_false_iff.mpr h,Bool.false_and]))) () trivial
    exact this.eq (by simp [h1,hsz])
  by_cases h5 : v.f0=5
  ·
   unfold rightV
   rw [if_neg h4,if_pos h5];refine Eve.succ ?_;simp only [F0.f,h5];simp only [show ¬ (5 : Int)=0 by omega,show ¬ (5 : Int)=1 by omega,show ¬ (5 : Int)=2 by omega,show ¬ (5 : Int)=3 by omega,show ¬ (5 : Int)=4 by omega,if_false,if_true];simp only [Fc.f];refine Eve.bind (fields_spec _ v.f2 [] (Nat.le_refl _) hs (by simp;omega)) ?_;have hj:=spec_j2_true ((d + 1 : Nat) : Int) (toldF [] (fdS v.f2.size v.f2)).1;refine Eve.ite (fun h1 => ?_) (fun h1 => hj.eq (by simp [h1]))
   cases hi : fdS v.f2.size v.f2 with
   | none =>
    rw [hi] at hj;simp only [toldF,Bool.false_eq_true,if_false];exact hj.eq (by simp)
   | some l =>
    rw [hi] at hj;simp only [toldF,if_true,List.nil_append] at hj ⊢;refine Eve.ite (fun h2 => hj.eq ?_) (fun h2 => ?_)
    ·
     have : decide ((v.f2.size : Int)≤300)=false:=by simp;omega
     simp [this]
    obtain ⟨hl1,hl2⟩:=fds_size _ _ l hi hs;have hsz : decide ((v.f2.size : Int)≤300)=true:=by simp;omega
    simp only [he];refine Eve.succ ?_;simp only [F0.j2,Bool.false_eq_true,if_false]
    have:=ev_loop0 l (fun k (_ : Unit) i => F0.l1 k ((d + 1 : Nat) : Int) l i) (fun i _ r => nms (if i=0 then none else some (l.getD (i - 1) z43).f0) r && r.all (fun f => rightV d f.f1)) (fun _ _ => True) (fun _ _ => by
     simp only [F0.l1]
     exact Eve.ite (fun h => absurd h (by omega)) (fun _ => Eve.one.eq (by simp [nms]))) (fun i hi _ _ ih2 => by
     have hnx:=ih2 () trivial;simp only [Nat.add_one_ne_zero,if_false,Nat.add_sub_cancel,List.getD_eq_getElem?_getD,List.getElem?_eq_getElem hi,Option.getD_some] at hnx;simp only [F0.l1];refine Eve.ite (fun _ => ?_) (fun h => absurd (by omega) h);refine Eve.ite (fun _ => ?_) (fun h => absurd (by omega) h);have hm:=hl2 _ (List.getElem_mem hi);simp only [rdF l i hi,dn d (by omega),wi (show i≤9223372036854775806 by omega)];refine Eve.bind (nam_spec _ hm.1) ?_;refine Eve.ite (fun hn => ?_) (fun hn => Eve.one.eq (by simp [nms,hn]));refine Eve.ite (fun h3 => ?_) (fun h3 => ?_)
     ·
      have hw : wrap64 ((i : Int) - 1)=((i - 1 : Nat) : Int):=by rw [w64 (by omega) (by omega)];omega
      simp only [hw];refine Eve.ite (fun _ => ?_) (fun h => absurd (by omega) h);refine Eve.ite (fun _ => ?_) (fun h => absurd (by omega) h);rw [if_neg (by omega),List.getD_eq_getElem?_getD,List.getElem?_eq_getElem (show i - 1<l.length by omega),Option.getD_some];simp only [rdF l (i - 1) (show i - 1<l.length by omega)];refine Eve.ite (fun h6 => ?_) (fun h6 => Eve.one.eq (by simp [nms,h6]));refine Eve.bind (ih l[i].f1 (by omega) hm.2) ?_;exact Eve.ite (fun h => hnx.eq (by simp only [nms,hn,h6,List.all_cons,h,Bool.true_and])) (fun h => Eve.one.eq (by rw [List.all_cons,Bool.eq_false_iff.mpr h,Bool.false_and,Bool.and_false]))
     obtain rfl : i=0:=by omega
     rw [if_pos rfl];refine Eve.bind (ih l[0].f1 (by omega) hm.2) ?_
     exact Eve.ite (fun h => hnx.eq (by simp [nms,hn,h])) (fun h => Eve.one.eq (by simp [h]))) () trivial
    rw [if_pos rfl] at this;exact this.eq (by simp [h1,hsz])
  unfold rightV;rw [if_neg h4,if_neg h5];exact spec_flat v _ h4 h5
theorem nxt_cases (a : ByteArray) (v : IVal) (r : ByteArray) (h : nxtV a=some (v,r)) : ∃ n,n≤a.size∧0<n∧r=a.extract n a.size∧v.f0=bt a 0 ∧
  ((v.f0=0∧n=1)∨(v.f0=1∧n=2∧v.f1=bt a 1)∨(v.f0=2∧n=9∧bt a 1≤127∧v.f1=wrap64 (bigV (bytesOf (a.extract 1 9)) - 4611686018427387904)) ∨
   (3≤v.f0∧v.f0≤5∧n=3 + v.f2.size∧bigV (bytesOf (a.extract 1 3))=v.f2.size∧v.f2=a.extract 3 n)):=by
 unfold nxtV at h
 by_cases hs : a.size=0
 ·
  rw [if_pos hs] at h;cases h
 rw [if_neg hs] at h
 by_cases h0 : bt a 0=0
 ·
  rw [if_pos h0,Option.some.injEq,Prod.mk.injEq] at h
  obtain ⟨rfl,rfl⟩:=h;exact ⟨1,by omega,by omega,rfl,h0.symm,.inl ⟨rfl,rfl⟩⟩
 rw [if_neg h0] at h
 by_cases h1 : bt a 0=1
 ·
  rw [if_pos h1] at h
  by_cases h2 : a.size<2
  ·
   rw [if_pos h2] at h;cases h
  rw [if_neg h2,Option.some.injEq,Prod.mk.injEq] at h;obtain ⟨rfl,rfl⟩:=h;exact ⟨2,by omega,by omega,rfl,h1.symm,.inr (.inl ⟨rfl,rfl,rfl⟩)⟩
 rw [if_neg h1] at h
 by_cases h2 : bt a 0=2
 ·
  rw [if_pos h2] at h
  by_cases h3 : a.size<9
  ·
   rw [if_pos h3] at h;cases h
  rw [if_neg h3] at h
  by_cases h4 : bt a 1 > 127
  ·
   rw [if_pos h4] at h;cases h
  rw [if_neg h4,Option.some.injEq,Prod.mk.injEq] at h;obtain ⟨rfl,rfl⟩:=h;exact ⟨9,by omega,by omega,rfl,h2.symm,.inr (.inr (.inl ⟨rfl,rfl,by omega,rfl⟩))⟩
 rw [if_neg h2] at h
 by_cases h3 : bt a 0=3∨bt a 0=4∨bt a 0=5
 ·
  rw [if_pos h3] at h
  by_cases h4 : a.size<3
  ·
   rw [if_pos h4] at h;cases h
  rw [if_neg h4] at h
  by_cases h5 : (a.size : Int)<3 + bigV (bytesOf (a.extract 1 3))
  ·
   rw [if_pos h5] at h;cases h
  rw [if_neg h5,Option.some.injEq,Prod.mk.injEq] at h;obtain ⟨rfl,rfl⟩:=h;have hb : 0≤bigV (bytesOf (a.extract 1 3)):=(bytes_ext2 a 1 (by omega)).1
  have hz : (a.extract 3 (3 + bigV (bytesOf (a.extract 1 3))).toNat).size=(bigV (bytesOf (a.extract 1 3))).toNat:=by
   rw [ByteArray.size_extract];omega
  refine ⟨(3 + bigV (bytesOf (a.extract 1 3))).toNat,by omega,by omega,rfl,rfl,.inr (.inr (.inr ⟨?_,?_,?_,?_,rfl⟩))⟩
  ·
   show 3≤bt a 0;omega
  ·
   show bt a 0≤5;omega
  ·
   show _=3 + (a.extract 3 (3 + bigV (bytesOf (a.extract 1 3))).toNat).size
   rw [hz];omega
  show _=(((a.extract 3 (3 + bigV (bytesOf (a.extract 1 3))).toNat).size : Nat) : Int);rw [hz];omega
 rw [if_neg h3] at h;cases h
abbrev Byts (l : List Int) : Prop:=∀ b ∈ l,0≤b∧b≤255
theorem right_four {d : Nat} {v : IVal} (h : rightV d v=true) (h4 : v.f0=4) : ∃ e l,d=e + 1∧itS v.f2.size v.f2=some l∧l.all (rightV e)=true:=by
 cases d with
 | zero =>
  have : flat v=true:=h;unfold flat at this;rw [if_neg (by omega),if_neg (by omega),if_neg (by omega),if_neg (by omega)] at this
  cases this
 | succ e =>
  unfold rightV at h;rw [if_pos h4] at h
  cases hi : itS v.f2.size v.f2 with
  | none => rw [hi] at h;simp at h
  | some l =>
   rw [hi] at h;simp only [Bool.and_eq_true] at h;exact ⟨e,l,rfl,rfl,h.2.2⟩
theorem right_five {d : Nat} {v : IVal} (h : rightV d v=true) (h5 : v.f0=5) : ∃ e l,d=e + 1∧fdS v.f2.size v.f2=some l∧nms none l=true∧l.all (fun f => rightV e f.f1)=true:=by
 have h4 : ¬ v.f0=4:=by omega
 cases d with
 | zero =>
  have : flat v=true:=h;unfold flat at this;rw [if_neg (by omega),if_neg (by omega),if_neg (by omega),if_neg (by omega)] at this
  cases this
 | succ e =>
  unfold rightV at h;rw [if_neg h4,if_pos h5] at h
  cases hi : fdS v.f2.size v.f2 with
  | none => rw [hi] at h;simp at h
  | some l =>
   rw [hi] at h;simp only [Bool.and_eq_true] at h;exact ⟨e,l,rfl,rfl,h.2.2.1,h.2.2.2⟩
theorem Eve.list {α β : Type} (g : Nat→α→Option β) (q : α→β) : ∀ l : List α,(∀ x ∈ l,Eve (fun k => g k x) (q x)) → ∃ K,∀ k,K≤k → ∀ x ∈ l,g k x=some (q x)
 | [],_ => ⟨0,fun _ _ x hx => by simp at hx⟩
 | y :: l,h => by
  obtain ⟨K,hK⟩:=Eve.list g q l (fun x hx => h x (by simp [hx]));obtain ⟨K2,hK2⟩:=h y (by simp);refine ⟨max K K2,fun k hk x hx => ?_⟩;rcases List.mem_cons.1 hx with rfl|hx
  ·
   exact hK2 k (by omega)
  exact hK k (by omega) x hx
theorem cf_tells (l : List IVal) (q : IVal→Bool) (e : Int) (hl : l.length≤4194304) (h : ∀ x ∈ l,Eve (fun k => F4.f k x.f0 x.f1 x.f2 (wrap64 (e - 1))) (q x)) :
  Eve (fun k => Fa.f k (F4.f k) l e) (l.any (fun x => !q x)):=by
 obtain ⟨K,hK⟩:=Eve.list (fun k (x : IVal) => F4.f k x.f0 x.f1 x.f2 (wrap64 (e - 1))) q l h;refine ⟨max K (l.length + 1),fun k hk => ?_⟩;have hG : ∀ x ∈ l,F4.f k x.f0 x.f1 x.f2 (wrap64 (e - 1))=some (q x):=hK k (by omega);show Fa.f k (F4.f k) l e=_;generalize F4.f k=G at hG;unfold Fa.f Fk.f
 have:=first_loop (fun k i => Fk.l0 G k l (l.length : Int) i e) l (fun x => !q x) (fun k i hi => by
  have hx:=hG l[i] (List.getElem_mem hi);simp only [Fk.l0];rw [if_pos (by omega),if_pos (by omega),if_pos (by omega),rdV l i hi,wi (show i≤9223372036854775806 by omega)];unfold Fu.f;rw [hx]
  rfl) (fun k => by simp only [Fk.l0];rw [if_neg (by omega)]) l.length k 0 (by omega) (by omega)
 rw [show ((0 : Nat) : Int)=0 from rfl,List.drop_zero] at this;rw [this];simp only [Option.bind_some,first_any]
theorem any_not (l : List IVal) (q : IVal→Bool) : (!(l.any (fun x => !q x)))=l.all q:=by
 induction l with
 | nil => rfl
 | cons x l ih => simp only [List.any_cons,List.all_cons,← ih];cases q x <;> simp
theorem inner_loop (l : List IFld) (hl : l.length≤1048576) (hn : ∀ f ∈ l,f.f0.size≤1048576) (ok : Bool) : Eve (fun k => F6.l0 k l ok [] l (l.length : Int) 0) (l.map (·.f1),ok && nms none l):=by
 have:=ev_loop0 l (fun k (s : Bool×List IVal) i => F6.l0 k l s.1 s.2 l (l.length : Int) i) (fun i s r => (s.2 ++ r.map (·.f1),s.1 && nms (if i=0 then none else some (l.getD (i - 1) z43).f0) r)) (fun i s => s.2.length=i) (fun s _ => by
  simp only [F6.l0]
  exact Eve.ite (fun h => absurd h (by omega)) (fun _ => Eve.one.eq (by simp [nms]))) (fun i hi s hI ih => by
  obtain ⟨b,out⟩:=s;simp only at hI;have hf:=hn l[i] (List.getElem_mem hi);have hnx:=fun b' => ih (b',out ++ [⟨l[i].f1.f0,l[i].f1.f1,l[i].f1.f2⟩]) (by simp;omega);simp only [Nat.add_one_ne_zero,if_false,Nat.add_sub_cancel,List.getD_eq_getElem?_getD,List.getElem?_eq_getElem hi,Option.getD_some] at hnx;have hout : ∀ r : List IFld,out ++ [(⟨l[i].f1.f0,l[i].f1.f1,l[i].f1.f2⟩ : IVal)] ++ r.map (·.f1)=out ++ (l[i] :: r).map (·.f1):=by intro r;simp
  simp only [F6.l0];refine Eve.ite (fun _ => ?_) (fun h => absurd (by omega) h);refine Eve.ite (fun _ => ?_) (fun h => absurd (by omega) h);refine Eve.ite (fun _ => ?_) (fun h => absurd (by omega) h);simp only [rdF l i hi,wi (show i≤9223372036854775806 by omega)];refine Eve.ite (fun hb => ?_) (fun hb => ?_)
  ·
   refine Eve.bind (nam_impl _ hf) ?_
   refine Eve.ite (fun h1 => ?_) (fun h1 => ?_)
   ·
    refine Eve.ite (fun h2 => ?_) (fun h2 => ?_)
    ·
     obtain rfl : i=0:=by omega
     refine Eve.ite (fun _ => (hnx true).eq ?_) (fun h => absurd (by omega) h);rw [hout,if_pos rfl];simp only [nms,h1,hb,Bool.true_and]
    have hw : wrap64 ((i : Int) - 1)=((i - 1 : Nat) : Int):=by rw [w64 (by omega) (by omega)];omega
    simp only [hw];refine Eve.ite (fun _ => ?_) (fun h => absurd (by omega) h);refine Eve.ite (fun _ => ?_) (fun h => absurd (by omega) h);refine Eve.ite (fun _ => ?_) (fun h => absurd (by omega) h);have hi1 : i - 1<l.length:=by omega
    have hz : ¬ i=0:=by omega
    simp only [rdF l (i - 1) hi1];refine (hnx _).eq ?_;rw [hout,if_neg hz,List.getD_eq_getElem?_getD,List.getElem?_eq_getElem hi1,Option.getD_some];simp only [nms,h1,hb,Bool.true_and]
   refine Eve.ite (fun _ => (hnx false).eq ?_) (fun h => absurd (by omega) h);rw [hout];simp only [nms,Bool.eq_false_iff.mpr h1,Bool.false_and,Bool.and_false]
  refine Eve.ite (fun _ => (hnx false).eq ?_) (fun h => absurd (by omega) h);rw [hout]
  simp only [Bool.eq_false_iff.mpr hb,Bool.false_and]) (ok,[]) rfl
 exact this.eq (by simp)
theorem inner_four (v : IVal) (h4 : v.f0=4) (hs : v.f2.size≤1048576) : ∃ l ok,Eve (fun k => F6.f k v.f0 v.f1 v.f2) (l,ok)∧l.length≤1048576∧(∀ x ∈ l,x.f2.size≤1048576) ∧
  ((itS v.f2.size v.f2=some l∧ok=true)∨(itS v.f2.size v.f2=none∧(ok=false ∨ ∃ x ∈ l,Bad x))):=by
 simp only [F6.f,F8.f,if_pos h4]
 cases hi : itS v.f2.size v.f2 with
 | some l =>
  obtain ⟨h1,h2⟩:=its_size _ _ l hi hs;exact ⟨l,true,(Eve.bind (items_some _ v.f2 [] l hi (by simp;omega)) Eve.one),by omega,h2,.inl ⟨rfl,rfl⟩⟩
 | none =>
  obtain ⟨l,ok,hl,hb,h1,h2⟩:=items_none _ v.f2 [] (Nat.le_refl _) hi (by simp;omega);exact ⟨l,ok,(Eve.bind hl Eve.one),by omega,h2,.inr ⟨rfl,hb⟩⟩
theorem inner_five (v : IVal) (h5 : v.f0=5) (hs : v.f2.size≤1048576) : ∃ l ok,Eve (fun k => F6.f k v.f0 v.f1 v.f2) (l,ok)∧l.length≤1048576∧(∀ x ∈ l,x.f2.size≤1048576) ∧
  ((∃ fs,fdS v.f2.size v.f2=some fs∧l=fs.map (·.f1)∧ok=nms none fs)∨(fdS v.f2.size v.f2=none∧(ok=false ∨ ∃ x ∈ l,Bad x))):=by
 have h4 : ¬ v.f0=4:=by omega
 simp only [F6.f,F5.f,if_neg h4]
 cases hi : fdS v.f2.size v.f2 with
 | some fs =>
  obtain ⟨h1,h2⟩:=fds_size _ _ fs hi hs;refine ⟨fs.map (·.f1),nms none fs,?_,by simp;omega,?_,.inl ⟨fs,rfl,rfl,rfl⟩⟩
  ·
   refine Eve.bind (fields_some _ v.f2 [] fs hi (by simp;omega)) ?_
   exact (inner_loop fs (by omega) (fun f hf => (h2 f hf).1) true).eq (by simp)
  intro x hx;obtain ⟨f,hf,rfl⟩:=List.mem_map.1 hx;exact (h2 f hf).2
 | none =>
  obtain ⟨fs,ok,hl,hb,h1,h2⟩:=fields_none _ v.f2 [] (Nat.le_refl _) hi (by simp;omega);refine ⟨fs.map (·.f1),ok && nms none fs,?_,by simp;omega,?_,.inr ⟨rfl,?_⟩⟩
  ·
   refine Eve.bind hl ?_
   exact inner_loop fs (by omega) (fun f hf => (h2 f hf).1) ok
  ·
   intro x hx
   obtain ⟨f,hf,rfl⟩:=List.mem_map.1 hx;exact (h2 f hf).2
  rcases hb with hb|⟨f,hf,hb⟩
  ·
   left;rw [hb];rfl
  right;exact ⟨f.f1,List.mem_map.2 ⟨f,hf,rfl⟩,hb⟩
theorem all_bad (l : List IVal) (q : IVal→Bool) (x : IVal) (hx : x ∈ l) (h : q x=false) : l.all q=false:=by
 rw [List.all_eq_false];exact ⟨x,hx,by simp [h]⟩
theorem nest_tells (v : IVal) (d : Nat) (l : List IVal) (ok : Bool) (hd : d≤1000) (h45 : v.f0=4∨v.f0=5) (hin : Eve (fun k => F6.f k v.f0 v.f1 v.f2) (l,ok)) (hl : l.length≤1048576)
  (hq : ∀ x ∈ l,Eve (fun k => F4.f k x.f0 x.f1 x.f2 (d : Int)) (rightV d x)) :
  Eve (fun k => F4.f k v.f0 v.f1 v.f2 ((d + 1 : Nat) : Int)) (decide (v.f1=0) && (decide ((v.f2.size : Int)≤300) && (ok && l.all (rightV d)))):=by
 have hj : Eve (fun k => F4.j0 k true v.f0 v.f1 v.f2 ((d + 1 : Nat) : Int)) (decide (v.f1=0) && (decide ((v.f2.size : Int)≤300) && (ok && l.all (rightV d)))):=by
  refine Eve.succ ?_;simp only [F4.j0,if_true];refine Eve.bind hin ?_;refine Eve.ite (fun h1 => ?_) (fun h1 => Eve.one.eq (by simp [h1]));refine Eve.ite (fun h2 => ?_) (fun h2 => Eve.one.eq (by simp [h2]));refine Eve.ite (fun _ => ?_) (fun h => absurd (by omega) h);refine Eve.ite (fun h3 => ?_) (fun h3 => Eve.one.eq (by rw [show ok=false from Bool.eq_false_iff.mpr h3];simp));have hc:=cf_tells l (rightV d) ((d + 1 : Nat) : Int) (by omega) (fun x hx => by rw [dn d hd];exact hq x hx);refine Eve.bind hc (Eve.one.eq ?_);rw [any_not,show ok=true from h3];simp [h1,h2]
 refine Eve.succ ?_;simp only [F4.f];rcases h45 with h|h
 ·
  simp only [h] at hj ⊢
  simp only [show ¬ (4 : Int)=0 by omega,show ¬ (4 : Int)=1 by omega,show ¬ (4 : Int)=2 by omega,show ¬ (4 : Int)=3 by omega,if_false,if_true,beq_self_eq_true];exact hj
 simp only [h] at hj ⊢;simp only [show ¬ (5 : Int)=0 by omega,show ¬ (5 : Int)=1 by omega,show ¬ (5 : Int)=2 by omega,show ¬ (5 : Int)=3 by omega,show ¬ (5 : Int)=4 by omega,if_false,beq_self_eq_true];exact hj
theorem nest_zero (v : IVal) (l : List IVal) (ok : Bool) (h45 : v.f0=4∨v.f0=5) (hin : Eve (fun k => F6.f k v.f0 v.f1 v.f2) (l,ok)) : Eve (fun k => F4.f k v.f0 v.f1 v.f2 ((0 : Nat) : Int)) false:=by
 have hj : Eve (fun k => F4.j0 k true v.f0 v.f1 v.f2 ((0 : Nat) : Int)) false:=by
  refine Eve.succ ?_;simp only [F4.j0,if_true];refine Eve.bind hin ?_;refine Eve.ite (fun _ => ?_) (fun _ => Eve.one);refine Eve.ite (fun _ => ?_) (fun _ => Eve.one);exact Eve.ite (fun h => absurd h (by omega)) (fun _ => Eve.one)
 refine Eve.succ ?_;simp only [F4.f];rcases h45 with h|h
 ·
  simp only [h] at hj ⊢
  simp only [show ¬ (4 : Int)=0 by omega,show ¬ (4 : Int)=1 by omega,show ¬ (4 : Int)=2 by omega,show ¬ (4 : Int)=3 by omega,if_false,if_true,beq_self_eq_true];exact hj
 simp only [h] at hj ⊢;simp only [show ¬ (5 : Int)=0 by omega,show ¬ (5 : Int)=1 by omega,show ¬ (5 : Int)=2 by omega,show ¬ (5 : Int)=3 by omega,show ¬ (5 : Int)=4 by omega,if_false,beq_self_eq_true];exact hj
theorem right_impl : ∀ (d : Nat) (v : IVal),d≤1000→v.f2.size≤1048576→Eve (fun k => F4.f k v.f0 v.f1 v.f2 (d : Int)) (rightV d v):=by
 intro d
 induction d with
 | zero =>
  intro v hd hs
  by_cases h4 : v.f0=4
  ·
   obtain ⟨l,ok,hin,_⟩:=inner_four v h4 hs
   refine (nest_zero v l ok (.inl h4) hin).eq ?_;show false=flat v;unfold flat;rw [if_neg (by omega),if_neg (by omega),if_neg (by omega),if_neg (by omega)]
  by_cases h5 : v.f0=5
  ·
   obtain ⟨l,ok,hin,_⟩:=inner_five v h5 hs
   refine (nest_zero v l ok (.inr h5) hin).eq ?_;show false=flat v;unfold flat;rw [if_neg (by omega),if_neg (by omega),if_neg (by omega),if_neg (by omega)]
  exact impl_flat v _ h4 h5
 | succ d ih =>
  intro v hd hs
  by_cases h4 : v.f0=4
  ·
   obtain ⟨l,ok,hin,hl,hsz,hc⟩:=inner_four v h4 hs
   refine (nest_tells v d l ok (by omega) (.inl h4) hin hl (fun x hx => ih x (by omega) (hsz x hx))).eq ?_;unfold rightV;rw [if_pos h4];rcases hc with ⟨hi,rfl⟩|⟨hi,hb⟩
   ·
    rw [hi];simp
   rw [hi];rcases hb with rfl|⟨x,hx,hb⟩
   ·
    simp
   rw [all_bad l (rightV d) x hx (bad_right x hb d)];simp
  by_cases h5 : v.f0=5
  ·
   obtain ⟨l,ok,hin,hl,hsz,hc⟩:=inner_five v h5 hs
   refine (nest_tells v d l ok (by omega) (.inr h5) hin hl (fun x hx => ih x (by omega) (hsz x hx))).eq ?_;unfold rightV;rw [if_neg h4,if_pos h5];rcases hc with ⟨fs,hi,rfl,rfl⟩|⟨hi,hb⟩
   ·
    rw [hi,List.all_map];rfl
   rw [hi];rcases hb with rfl|⟨x,hx,hb⟩
   ·
    simp
   rw [all_bad l (rightV d) x hx (bad_right x hb d)];simp
  unfold rightV;rw [if_neg h4,if_neg h5];exact impl_flat v _ h4 h5
theorem right_small (d : Nat) (v : IVal) (h : 300<v.f2.size) : rightV d v=false:=by
 have he : emB v.f2=false:=by
  have : ¬ v.f2.toList=([] : List UInt8):=fun e => by have:=(emp _).1 e;omega
  simpa [emB] using this
 have hz : decide ((v.f2.size : Int)≤300)=false:=by simp;omega
 have hf : flat v=false:=by
  unfold flat;rw [he,hz]
  repeat' split
  all_goals simp
 cases d with
 | zero => exact hf
 | succ d =>
  unfold rightV;rw [hz,hf]
  repeat' split
  all_goals simp
theorem ok_impl (v : IVal) (hs : v.f2.size≤1048576) : Eve (fun k => Fr.f k v.f0 v.f1 v.f2) (rightV 5 v):=by
 simp only [Fr.f];exact Eve.bind (right_impl 5 v (by omega) hs) Eve.one
theorem ok_spec (v : IVal) (hs : v.f2.size≤1048576) : Eve (fun k => Ft.f k v.f0 v.f1 v.f2) (rightV 5 v):=by
 simp only [Ft.f];refine Eve.ite (fun _ => Eve.bind (right_spec 5 v (by omega) hs) Eve.one) (fun h => Eve.one.eq ?_);rw [right_small 5 v (by omega)]
abbrev LVal:=S23

def iv (v : LVal) : IVal:=⟨v.f0,v.f1,v.f2⟩
theorem szValue_tells (v : LVal) (h : v.f2.size≤9223372036854775807) {left : Int} (h0 : 0≤left) (h1 : left≤1048576) :
  F00.f v.f0 v.f1 v.f2 left=some (if left - v.f2.size<0 then -1 else left - v.f2.size):=by
 unfold F00.f;rw [w64 (by omega) (by omega)]
 split <;> rfl
theorem toValue_tells (v : LVal) : Fp.f v.f0 v.f1 v.f2=some (v.f0,v.f1,v.f2):=rfl
def Shape (v : IVal) : Prop :=
 (v.f0=0∧v.f1=0∧v.f2=eB)∨(v.f0=1∧(0≤v.f1∧v.f1≤1)∧v.f2=eB)∨(v.f0=2∧(-1000000000000≤v.f1∧v.f1≤1000000000000)∧v.f2=eB)∨((3≤v.f0∧v.f0≤5)∧v.f1=0∧v.f2.size≤300)
theorem em_is {a : ByteArray} (h : emB a=true) : a=eB:=ba_ext (by rw [show a.toList=([] : List UInt8) from eq_of_beq h,ba_toList])
theorem flat_shape {v : IVal} (h : flat v=true) : Shape v:=by
 unfold flat at h;unfold Shape
 by_cases q0 : v.f0=0
 ·
  rw [if_pos q0,Bool.and_eq_true,decide_eq_true_eq] at h
  exact .inl ⟨q0,h.1,em_is h.2⟩
 rw [if_neg q0] at h
 by_cases q1 : v.f0=1
 ·
  rw [if_pos q1,Bool.and_eq_true] at h
  have h1:=h.1;unfold inr at h1;rw [Bool.and_eq_true,decide_eq_true_eq,decide_eq_true_eq] at h1;exact .inr (.inl ⟨q1,h1,em_is h.2⟩)
 rw [if_neg q1] at h
 by_cases q2 : v.f0=2
 ·
  rw [if_pos q2,Bool.and_eq_true] at h
  have h1:=h.1;unfold inr at h1;rw [Bool.and_eq_true,decide_eq_true_eq,decide_eq_true_eq] at h1;exact .inr (.inr (.inl ⟨q2,h1,em_is h.2⟩))
 rw [if_neg q2] at h
 by_cases q3 : v.f0=3
 ·
  rw [if_pos q3,Bool.and_eq_true,decide_eq_true_eq,decide_eq_true_eq] at h
  exact .inr (.inr (.inr ⟨by omega,h.1,by omega⟩))
 rw [if_neg q3] at h;cases h
theorem right_shape : ∀ (d : Nat) (v : IVal),rightV d v=true→Shape v:=by
 intro d v h
 cases d with
 | zero => exact flat_shape h
 | succ d =>
  unfold rightV at h
  by_cases h4 : v.f0=4
  ·
   rw [if_pos h4,Bool.and_eq_true,Bool.and_eq_true,decide_eq_true_eq,decide_eq_true_eq] at h
   exact .inr (.inr (.inr ⟨by omega,h.1,by omega⟩))
  rw [if_neg h4] at h
  by_cases h5 : v.f0=5
  ·
   rw [if_pos h5,Bool.and_eq_true,Bool.and_eq_true,decide_eq_true_eq,decide_eq_true_eq] at h
   exact .inr (.inr (.inr ⟨by omega,h.1,by omega⟩))
  rw [if_neg h5] at h;exact flat_shape h
def esz (v : IVal) : Nat:=if v.f0=0 then 1 else if v.f0=1 then 2 else if v.f0=2 then 9 else 3 + v.f2.size
theorem nxt_esz (a : ByteArray) (v : IVal) (r : ByteArray) (h : nxtV a=some (v,r)) : esz v + r.size=a.size:=by
 obtain ⟨n,h1,h2,rfl,_,hc⟩:=nxt_cases a v r h;rw [ByteArray.size_extract];unfold esz;rcases hc with ⟨q,rfl⟩|⟨q,rfl,_⟩|⟨q,rfl,_⟩|⟨q,q2,hn,_⟩
 ·
  rw [if_pos q];omega
 ·
  rw [if_neg (by omega),if_pos q];omega
 ·
  rw [if_neg (by omega),if_neg (by omega),if_pos q];omega
 rw [if_neg (by omega),if_neg (by omega),if_neg (by omega)];omega
theorem its_esz : ∀ (m : Nat) (a : ByteArray) (l : List IVal),itS m a=some l→total esz l=a.size:=by
 intro m
 induction m with
 | zero =>
  intro a l h;simp only [itS] at h
  by_cases hz : a.size=0
  ·
   rw [if_pos hz] at h
   obtain rfl : []=l:=by simpa using h
   exact hz.symm
  rw [if_neg hz] at h;simp at h
 | succ m ih =>
  intro a l h;simp only [itS] at h
  by_cases hz : a.size=0
  ·
   rw [if_pos hz] at h
   obtain rfl : []=l:=by simpa using h
   exact hz.symm
  rw [if_neg hz] at h
  cases hn : nxtV a with
  | none => rw [hn] at h;simp at h
  | some p =>
   obtain ⟨v,r⟩:=p;rw [hn] at h;simp only [Option.map_eq_some_iff] at h;obtain ⟨l',h',rfl⟩:=h;have h1:=nxt_esz a v r hn;have h2:=ih r l' h';show esz v + total esz l' = a.size
   omega
def fsz (f : IFld) : Nat:=1 + f.f0.size + esz f.f1
theorem fds_esz : ∀ (m : Nat) (a : ByteArray) (l : List IFld),fdS m a=some l→total fsz l=a.size:=by
 intro m
 induction m with
 | zero =>
  intro a l h;simp only [fdS] at h
  by_cases hz : a.size=0
  ·
   rw [if_pos hz] at h
   obtain rfl : []=l:=by simpa using h
   exact hz.symm
  rw [if_neg hz] at h;simp at h
 | succ m ih =>
  intro a l h;simp only [fdS] at h
  by_cases hz : a.size=0
  ·
   rw [if_pos hz] at h
   obtain rfl : []=l:=by simpa using h
   exact hz.symm
  rw [if_neg hz] at h
  by_cases hy : (a.size : Int)<1 + bt a 0
  ·
   rw [if_pos hy] at h;simp at h
  rw [if_neg hy] at h;have hb:=bt_range a 0
  cases hn : nxtV (a.extract (1 + bt a 0).toNat a.size) with
  | none => rw [hn] at h;simp at h
  | some p =>
   obtain ⟨v,r⟩:=p;rw [hn] at h;simp only [Option.map_eq_some_iff] at h;obtain ⟨l',h',rfl⟩:=h;have h1:=nxt_esz _ v r hn;have h2:=ih r l' h';rw [ByteArray.size_extract] at h1;show 1 + (a.extract 1 (1 + bt a 0).toNat).size + esz v + total fsz l' = a.size;rw [ByteArray.size_extract]
   omega
theorem right_300 {d : Nat} {v : IVal} (h : rightV d v=true) : v.f2.size≤300:=by
 rcases right_shape d v h with ⟨_,_,h⟩|⟨_,_,h⟩|⟨_,_,h⟩|⟨_,_,h⟩
 ·
  rw [h];decide
 ·
  rw [h];decide
 ·
  rw [h];decide
 exact h
def bl (l : List UInt8) : ByteArray:=⟨l.toArray⟩
theorem bl_data (l : List UInt8) : (bl l).data.toList=l:=rfl
theorem bl_size (l : List UInt8) : (bl l).size=l.length:=by show l.toArray.size=_;simp
theorem bl_app (a b : List UInt8) : bl (a ++ b)=bl a ++ bl b:=by
 apply ba_ext;rw [ba_toList,ba_toList,ByteArray.data_append,Array.toList_append,bl_data,bl_data,bl_data]
theorem bl_of (s : ByteArray) : bl s.data.toList=s:=by
 apply ba_ext;rw [ba_toList,ba_toList,bl_data]
theorem ba_len (s : ByteArray) : s.data.toList.length=s.size:=by rw [Array.length_toList];rfl
def textL : Nat→IVal→List UInt8
 | d,v => if v.f0=0 then [110,117,108,108] else if v.f0=1 then (if v.f1=1 then [116,114,117,101] else [102,97,108,115,101]) else if v.f0=2 then Lib.itoa v.f1
  else if v.f0=3 then 39 :: (v.f2.data.toList ++ [39])
  else match d with
   | 0 => []
   | d + 1 => if v.f0=4 then 91 :: (Lib.join (((itS v.f2.size v.f2).getD []).map (textL d)) [44] ++ [93])
    else 123 :: (Lib.join (((fdS v.f2.size v.f2).getD []).map (fun f => f.f0.data.toList ++ 58 :: textL d f.f1)) [44] ++ [125])
theorem join_le (xs : List (List UInt8)) : (Lib.join xs [44]).length≤Lib.lens xs + xs.length:=by
 cases xs with
 | nil => simp [Lib.join_nil]
 | cons x r => rw [Lib.join_length];simp;omega
theorem lens_map {α : Type} (g : α→List UInt8) (s : α→Nat) : ∀ l : List α,(∀ x ∈ l,(g x).length + 1≤s x)→Lib.lens (l.map g) + l.length≤total s l
 | [],_ => by simp [Lib.lens,total]
 | x :: l,h => by
  have h1:=h x (by simp);have h2:=lens_map g s l (fun y hy => h y (by simp [hy]));have e1 : Lib.lens ((x :: l).map g)=(g x).length + Lib.lens (l.map g):=by simp [Lib.lens]
  have e2 : total s (x :: l)=s x + total s l:=rfl;rw [e1,e2,List.length_cons]
  omega
theorem total_mul {α : Type} (s : α→Nat) (c : Nat) : ∀ l : List α,total (fun x => c * s x) l=c * total s l
 | [] => by simp [total]
 | x :: l => by
  have h2:=total_mul s c l;have e1 : total (fun x => c * s x) (x :: l)=c * s x + total (fun x => c * s x) l:=rfl;have e2 : total s (x :: l)=s x + total s l:=rfl;rw [e1,e2,h2,Nat.mul_add]
theorem text_len : ∀ (d : Nat) (v : IVal),rightV d v=true→(textL d v).length + 1≤5 * esz v:=by
 intro d
 induction d with
 | zero =>
  intro v h;have hs:=right_shape 0 v h;unfold textL esz
  by_cases q0 : v.f0=0
  ·
   simp [q0]
  by_cases q1 : v.f0=1
  ·
   simp [q1];split <;> simp
  by_cases q2 : v.f0=2
  ·
   have hv : -1000000000000≤v.f1∧v.f1≤1000000000000:=by unfold Shape at hs;omega
   have:=Lib.itoa_length_le v.f1 (by omega) (by omega);simp [q2];omega
  rw [if_neg q0,if_neg q1,if_neg q2,if_neg q0,if_neg q1,if_neg q2]
  by_cases q3 : v.f0=3
  ·
   rw [if_pos q3]
   simp only [List.length_cons,List.length_append,List.length_nil,ba_len]
   omega
  rw [if_neg q3];simp;omega
 | succ d ih =>
  intro v h;have hs:=right_shape _ v h;have h3:=right_300 h
  by_cases q0 : v.f0=0
  ·
   unfold textL esz;simp [q0]
  by_cases q1 : v.f0=1
  ·
   unfold textL esz;simp [q1];split <;> simp
  by_cases q2 : v.f0=2
  ·
   have hv : -1000000000000≤v.f1∧v.f1≤1000000000000:=by unfold Shape at hs;omega
   have:=Lib.itoa_length_le v.f1 (by omega) (by omega);unfold textL esz;simp [q2];omega
  have hez : esz v=3 + v.f2.size:=by unfold esz;rw [if_neg q0,if_neg q1,if_neg q2]
  rw [hez];unfold textL;rw [if_neg q0,if_neg q1,if_neg q2]
  by_cases q3 : v.f0=3
  ·
   rw [if_pos q3]
   simp only [List.length_cons,List.length_append,List.length_nil,ba_len]
   omega
  rw [if_neg q3]
  by_cases q4 : v.f0=4
  ·
   obtain ⟨e,l,he2,hi,hl⟩:=right_four h q4
   obtain rfl : d=e:=by omega
   have htot:=its_esz _ _ l hi;simp only [q4,if_true,hi,Option.getD_some,List.length_cons,List.length_append,List.length_nil];have j1:=join_le (l.map (textL d));have j2:=lens_map (textL d) (fun x => 5 * esz x) l (fun x hx => ih x (List.all_eq_true.1 hl x hx));rw [total_mul] at j2;rw [List.length_map] at j1
   omega
  have q5 : v.f0=5:=by unfold Shape at hs;omega
  obtain ⟨e,l,he2,hi,hn,hl⟩:=right_five h q5;obtain rfl : d=e:=by omega
  have htot:=fds_esz _ _ l hi;simp only [if_neg q4,hi,Option.getD_some,List.length_cons,List.length_append,List.length_nil];have j1:=join_le (l.map (fun f => f.f0.data.toList ++ 58 :: textL d f.f1))
  have j2:=lens_map (fun f : IFld => f.f0.data.toList ++ 58 :: textL d f.f1) (fun f => 5 * fsz f) l (fun f hf => by
   have:=ih f.f1 (List.all_eq_true.1 hl f hf);show (f.f0.data.toList ++ 58 :: textL d f.f1).length + 1≤5 * (1 + f.f0.size + esz f.f1);rw [List.length_append,List.length_cons,ba_len]
   omega)
  rw [total_mul] at j2;rw [List.length_map] at j1
  omega
theorem one_digit (u : Nat) (h : u<10) : strOfNums [(48 + (u : Int)) % 256]=bl [UInt8.ofNat (48 + u)]:=by
 apply ba_ext;rw [ba_toList,ba_toList,strOfNums_data,bl_data];have e : (48 + (u : Int)) % 256=((48 + u : Nat) : Int):=by omega
 rw [e];show [UInt8.ofNat ((48 + u : Nat) : Int).toNat]=_;rw [Int.toNat_natCast]
theorem take_map {α β : Type} (g : α→β) (l : List α) (i : Nat) (hi : i<l.length) : (l.take (i + 1)).map g=(l.take i).map g ++ [g l[i]]:=by
 rw [List.take_add_one,List.getElem?_eq_getElem hi,List.map_append];rfl
theorem digits_nat (u : Nat) : u≤1000000000000→Eve (fun k => Fe.f k (u : Int)) (bl (Lib.decDigits u)):=by
 induction u using Nat.strongRecOn with
 | _ u ih =>
 intro hu;refine Eve.succ ?_;simp only [Fe.f];refine Eve.ite (fun h => absurd h (by omega)) (fun _ => ?_);refine Eve.ite (fun h => absurd h (by omega)) (fun _ => ?_);refine Eve.ite (fun h => Eve.one.eq ?_) (fun h => ?_)
 ·
  rw [w64 (by omega) (by omega),one_digit u (by omega),Lib.decDigits_one (by omega)]
 have e1 : Int.tdiv (u : Int) 10=((u / 10 : Nat) : Int):=by rw [Int.tdiv_eq_ediv_of_nonneg (by omega)];omega
 have e2 : Int.tmod (u : Int) 10=((u % 10 : Nat) : Int):=by rw [Int.tmod_eq_emod_of_nonneg (by omega)];omega
 rw [e1,e2,w64 (i:=((u / 10 : Nat) : Int)) (by omega) (by omega),w64 (i:=48 + ((u % 10 : Nat) : Int)) (by omega) (by omega)];refine Eve.bind (ih (u / 10) (by omega) (by omega)) ?_;simp only [Option.bind_some];rw [one_digit (u % 10) (by omega)]
 have hl : (Lib.decDigits (u / 10)).length≤21:=by
  have:=Lib.itoa_length_le ((u / 10 : Nat) : Int) (by omega) (by omega)
  rwa [Lib.itoa_nonneg] at this
 refine Eve.ite (fun _ => Eve.one.eq ?_) (fun h => absurd (by rw [bl_size,bl_size];simp;omega) h);rw [← bl_app]
 congr 1
 conv => rhs;rw [Lib.decDigits,dif_neg (by omega)]
theorem digits_tells (n : Int) (h0 : -1000000000000≤n) (h1 : n≤1000000000000) : Eve (fun k => Fe.f k n) (bl (Lib.itoa n)):=by
 by_cases hn : 0≤n
 ·
  obtain ⟨u,rfl⟩ : ∃ u : Nat,n=(u : Int):=⟨n.toNat,by omega⟩
  rw [Lib.itoa_nonneg];exact digits_nat u (by omega)
 obtain ⟨u,rfl⟩ : ∃ u : Nat,n = -(u : Int):=⟨n.natAbs,by omega⟩;rw [Lib.itoa_neg u (by omega)];refine Eve.succ ?_;simp only [Fe.f];refine Eve.ite (fun h => absurd h (by omega)) (fun _ => ?_);refine Eve.ite (fun _ => ?_) (fun h => absurd (by omega) h);rw [Int.neg_neg,w64 (by omega) (by omega)];refine Eve.bind (digits_nat u (by omega)) ?_
 have hl : (Lib.decDigits u).length≤21:=by
  have:=Lib.itoa_length_le (u : Int) (by omega) (by omega)
  rwa [Lib.itoa_nonneg] at this
 refine Eve.ite (fun _ => Eve.one.eq ?_) (fun h => absurd (by rw [bl_size];omega) h);show bl [45] ++ bl _=_;rw [← bl_app];rfl
theorem join_snoc (a : List (List UInt8)) (y : List UInt8) : Lib.join (a ++ [y]) [44]=if a=[] then y else Lib.join a [44] ++ 44 :: y:=by
 cases a with
 | nil => simp [Lib.join_one]
 | cons x r =>
  rw [if_neg (by simp),List.cons_append,Lib.join_cons,Lib.join_cons];simp [Lib.joinTail]
theorem lens_take (l : List (List UInt8)) (i : Nat) : Lib.lens (l.take i)≤Lib.lens l:=by
 have h : Lib.lens l=Lib.lens (l.take i) + Lib.lens (l.drop i):=by
  unfold Lib.lens;rw [← List.sum_append,← List.map_append,List.take_append_drop]
 omega
theorem join_spec (l : List ByteArray) (h : Lib.lens (l.map (·.data.toList)) + l.length≤1000000) : Eve (fun k => Fi.f k l (⟨#[44]⟩ : ByteArray)) (bl (Lib.join (l.map (·.data.toList)) [44])):=by
 simp only [Fi.f]
 have hpre : ∀ i,i≤l.length→(Lib.join ((l.take i).map (·.data.toList)) [44]).length≤1000000:=fun i hi => by
  have h1:=join_le ((l.take i).map (·.data.toList));have h2:=lens_take (l.map (·.data.toList)) i;rw [← List.map_take] at h2;rw [List.length_map,List.length_take] at h1
  omega
 refine ev_loop0 l (fun k (x : ByteArray) i => Fi.l0 k l (⟨#[44]⟩ : ByteArray) x i) (fun _ _ _ => bl (Lib.join (l.map (·.data.toList)) [44])) (fun i x => x=bl (Lib.join ((l.take i).map (·.data.toList)) [44])) (fun x hx => ?_) (fun i hi x hx ih => ?_) (⟨#[]⟩ : ByteArray) (by rfl)
 ·
  simp only [Fi.l0]
  refine Eve.ite (fun h => absurd h (by omega)) (fun _ => Eve.one.eq ?_);rw [hx,List.take_length]
 have hsz : l[i].size≤1000000:=by
  have h1 : (l[i].data.toList).length≤Lib.lens (l.map (·.data.toList)):=by
   have h2:=Lib.lens_take_succ (l.map (·.data.toList)) i (l[i].data.toList) (by simp [hi]);have h3:=lens_take (l.map (·.data.toList)) (i + 1)
   omega
  rw [ba_len] at h1
  omega
 have hx2:=hpre i (by omega);have e : (l.take (i + 1)).map (·.data.toList)=(l.take i).map (·.data.toList) ++ [l[i].data.toList]:=take_map _ l i hi;have er : rdOf ByteArray.empty l (i : Int)=l[i]:=rdOf_at _ l i hi;simp only [Fi.l0,er,wi (show i≤9223372036854775806 by omega)];have h44 : (⟨#[44]⟩ : ByteArray)=bl [44]:=rfl;rw [h44];refine Eve.ite (fun _ => ?_) (fun h => absurd (by omega) h);refine Eve.ite (fun hp => ?_) (fun hp => ?_)
 ·
  refine Eve.ite (fun _ => ?_) (fun h => absurd (by rw [hx,bl_size,bl_size];simp only [List.length_cons,List.length_nil];omega) h)
  refine Eve.ite (fun _ => ?_) (fun h => absurd (by omega) h);refine Eve.ite (fun _ => ?_) (fun h => absurd (by rw [hx,ByteArray.size_append,bl_size,bl_size];simp only [List.length_cons,List.length_nil];omega) h);refine ih _ ?_;rw [e,join_snoc,if_neg (by intro h0;have:=congrArg List.length h0;rw [List.length_map,List.length_take,List.length_nil] at this;omega),hx];rw [show (44 :: l[i].data.toList)=[44] ++ l[i].data.toList from rfl,← List.append_assoc,bl_app,bl_app,bl_of]
 obtain rfl : i=0:=by omega
 refine Eve.ite (fun _ => ?_) (fun h => absurd (by omega) h);refine Eve.ite (fun _ => ?_) (fun h => absurd (by rw [hx,bl_size];omega) h);refine ih _ ?_;rw [e,hx];simp only [List.take_zero,List.map_nil,List.nil_append,Lib.join_one,Lib.join_nil];rw [bl_of];show bl [] ++ _=_;rw [← bl_of l[0],← bl_app];rfl
theorem join_impl (l : List ByteArray) (h : Lib.lens (l.map (·.data.toList)) + l.length≤1000000) : strings_Join.f l (⟨#[44]⟩ : ByteArray)=some (bl (Lib.join (l.map (·.data.toList)) [44])):=by
 have h1:=join_le (l.map (·.data.toList));rw [List.length_map] at h1;unfold strings_Join.f;rw [if_pos (by omega),if_pos (by show (Lib.join _ [44]).length≤_;omega)]
 rfl
theorem map_bl {α : Type} (g : α→List UInt8) (l : List α) : (l.map (fun x => bl (g x))).map (·.data.toList)=l.map g:=by
 rw [List.map_map];rfl
theorem text_at (d : Nat) (v : IVal) (l : List UInt8) (h : l=(if v.f0=0 then [110,117,108,108] else if v.f0=1 then (if v.f1=1 then [116,114,117,101] else [102,97,108,115,101]) else if v.f0=2 then Lib.itoa v.f1
  else if v.f0=3 then 39 :: (v.f2.data.toList ++ [39])
  else match d with
   | 0 => []
   | d + 1 => if v.f0=4 then 91 :: (Lib.join (((itS v.f2.size v.f2).getD []).map (textL d)) [44] ++ [93])
    else 123 :: (Lib.join (((fdS v.f2.size v.f2).getD []).map (fun f => f.f0.data.toList ++ 58 :: textL d f.f1)) [44] ++ [125]))) : textL d v=l:=by
 subst h;cases d <;> rfl
theorem wrap_list (a b : UInt8) (l : List UInt8) : ((⟨#[a]⟩ : ByteArray) ++ bl l) ++ (⟨#[b]⟩ : ByteArray)=bl (a :: (l ++ [b])):=by
 show bl [a] ++ bl l ++ bl [b]=_;rw [← bl_app,← bl_app];rfl
theorem quoted (s : ByteArray) : ((⟨#[39]⟩ : ByteArray) ++ s) ++ (⟨#[39]⟩ : ByteArray)=bl (39 :: (s.data.toList ++ [39])):=by
 have:=wrap_list 39 39 s.data.toList
 rwa [bl_of] at this
theorem word_of (s : ByteArray) (l : List UInt8) : (s ++ (⟨#[58]⟩ : ByteArray)) ++ bl l=bl (s.data.toList ++ 58 :: l):=by
 have e : s=bl s.data.toList:=(bl_of s).symm
 conv => lhs;rw [e]
 show bl _ ++ bl [58] ++ bl l=_;rw [← bl_app,← bl_app];simp
theorem lens_text {d : Nat} {l : List IVal} (hl : l.all (rightV d)=true) : Lib.lens (l.map (textL d)) + l.length≤5 * total esz l:=by
 have j2:=lens_map (textL d) (fun x => 5 * esz x) l (fun x hx => text_len d x (List.all_eq_true.1 hl x hx))
 rwa [total_mul] at j2
theorem lens_word {d : Nat} {l : List IFld} (hl : l.all (fun f => rightV d f.f1)=true) : Lib.lens (l.map (fun f => f.f0.data.toList ++ 58 :: textL d f.f1)) + l.length≤5 * total fsz l:=by
 have j2:=lens_map (fun f : IFld => f.f0.data.toList ++ 58 :: textL d f.f1) (fun f => 5 * fsz f) l (fun f hf => by
  have:=text_len d f.f1 (List.all_eq_true.1 hl f hf);show (f.f0.data.toList ++ 58 :: textL d f.f1).length + 1≤5 * (1 + f.f0.size + esz f.f1);rw [List.length_append,List.length_cons,ba_len]
  omega)
 rwa [total_mul] at j2
theorem size_22 (l : List UInt8) (a : UInt8) : ((⟨#[a]⟩ : ByteArray) ++ bl l).size=1 + l.length:=by
 show (bl [a] ++ bl l).size=_;rw [ByteArray.size_append,bl_size,bl_size];simp
theorem val_impl : ∀ (d : Nat) (v : IVal),rightV d v=true→Eve (fun k => F2.f k v.f0 v.f1 v.f2) (bl (textL d v)):=by
 intro d
 induction d with
 | zero =>
  intro v h;have hs:=right_shape 0 v h;have h3:=right_300 h;refine Eve.succ ?_;simp only [F2.f,Option.bind_some];refine Eve.ite (fun h0 => Eve.one.eq (by rw [text_at 0 v _ (by rw [if_pos h0])];rfl)) (fun h0 => ?_);refine Eve.ite (fun h1 => ?_) (fun h1 => ?_)
  ·
   rw [text_at 0 v _ (by rw [if_neg h0,if_pos h1])]
   unfold strconv_FormatBool_18.f strconv_FormatBool_31.f
   by_cases hb : v.f1=1
   ·
    simp only [hb,beq_self_eq_true,if_true,Option.bind_some];exact Eve.one
   have hb2 : (v.f1 == 1)=false:=beq_eq_false_iff_ne.mpr hb;simp only [hb2,Bool.false_eq_true,if_false,if_neg hb,Option.bind_some];exact Eve.one
  refine Eve.ite (fun h2 => ?_) (fun h2 => ?_)
  ·
   have hv : -1000000000000≤v.f1∧v.f1≤1000000000000:=by unfold Shape at hs;omega
   rw [text_at 0 v _ (by rw [if_neg h0,if_neg h1,if_pos h2])];unfold strconv_Itoa_19.f;rw [if_pos (by omega),if_pos (by omega)];simp only [Option.bind_some];exact Eve.one
  refine Eve.ite (fun h4 => ?_) (fun h4 => ?_)
  ·
   rw [text_at 0 v _ (by rw [if_neg h0,if_neg h1,if_neg h2,if_pos h4])]
   refine Eve.ite (fun _ => ?_) (fun h => absurd (by omega) h);refine Eve.ite (fun _ => Eve.one.eq (quoted v.f2)) (fun h => absurd (by rw [ByteArray.size_append];show 1 + v.f2.size + 1≤_;omega) h)
  have h9 : flat v=true:=h;unfold flat at h9;rw [if_neg h0,if_neg h1,if_neg h2,if_neg h4] at h9
  cases h9
 | succ d ih =>
  intro v h;have hs:=right_shape _ v h;have h3:=right_300 h;refine Eve.succ ?_;simp only [F2.f,Option.bind_some];refine Eve.ite (fun h0 => Eve.one.eq (by rw [text_at _ v _ (by rw [if_pos h0])];rfl)) (fun h0 => ?_);refine Eve.ite (fun h1 => ?_) (fun h1 => ?_)
  ·
   rw [text_at _ v _ (by rw [if_neg h0,if_pos h1])]
   unfold strconv_FormatBool_18.f strconv_FormatBool_31.f
   by_cases hb : v.f1=1
   ·
    simp only [hb,beq_self_eq_true,if_true,Option.bind_some];exact Eve.one
   have hb2 : (v.f1 == 1)=false:=beq_eq_false_iff_ne.mpr hb;simp only [hb2,Bool.false_eq_true,if_false,if_neg hb,Option.bind_some];exact Eve.one
  refine Eve.ite (fun h2 => ?_) (fun h2 => ?_)
  ·
   have hv : -1000000000000≤v.f1∧v.f1≤1000000000000:=by unfold Shape at hs;omega
   rw [text_at _ v _ (by rw [if_neg h0,if_neg h1,if_pos h2])];unfold strconv_Itoa_19.f;rw [if_pos (by omega),if_pos (by omega)];simp only [Option.bind_some];exact Eve.one
  refine Eve.ite (fun h4 => ?_) (fun h4 => ?_)
  ·
   rw [text_at _ v _ (by rw [if_neg h0,if_neg h1,if_neg h2,if_pos h4])]
   refine Eve.ite (fun _ => ?_) (fun h => absurd (by omega) h);refine Eve.ite (fun _ => Eve.one.eq (quoted v.f2)) (fun h => absurd (by rw [ByteArray.size_append];show 1 + v.f2.size + 1≤_;omega) h)
  refine Eve.ite (fun h5 => ?_) (fun h5 => ?_)
  ·
   obtain ⟨e,l,he2,hi,hl⟩:=right_four h h5
   obtain rfl : d=e:=by omega
   have hit:=items_some _ v.f2 [] l hi (by simp;omega);have hll:=(its_size _ _ l hi (by omega)).1;have htot:=its_esz _ _ l hi;have hlens:=lens_text hl;simp only [F8.f];refine Eve.bind hit ?_;simp only [List.nil_append];have hm:=map_bl (textL d) l;have hle : Lib.lens (l.map (textL d)) + l.length≤1000000:=by omega
   have hj:=join_le (l.map (textL d));rw [List.length_map] at hj;refine (ev_loop0 l (fun k (x : List ByteArray) i => F2.l0 k x l (l.length : Int) i) (fun _ _ _ => bl (91 :: (Lib.join (l.map (textL d)) [44] ++ [93]))) (fun i x => x=(l.take i).map (fun y => bl (textL d y))) (fun x hx => ?_) (fun i hi x hx ih2 => ?_) [] (by rfl)).eq ?_
   ·
    rw [List.take_length] at hx
    subst hx;simp only [F2.l0];refine Eve.ite (fun h => absurd h (by omega)) (fun _ => ?_);rw [join_impl _ (by rw [hm];simpa using hle)];simp only [Option.bind_some];rw [hm];refine Eve.ite (fun _ => ?_) (fun h => absurd (by rw [bl_size];omega) h);refine Eve.ite (fun _ => Eve.one.eq (wrap_list _ _ _)) (fun h => absurd (by rw [size_22];omega) h)
   ·
    have hr:=List.all_eq_true.1 hl _ (List.getElem_mem hi)
    have hxl : x.length≤300:=by rw [hx,List.length_map,List.length_take];omega
    simp only [F2.l0,rdV l i hi,wi (show i≤9223372036854775806 by omega)];refine Eve.ite (fun _ => ?_) (fun h => absurd (by omega) h);refine Eve.ite (fun _ => ?_) (fun h => absurd (by omega) h);refine Eve.ite (fun _ => ?_) (fun h => absurd (by omega) h);refine Eve.bind (ih l[i] hr) ?_;refine Eve.ite (fun _ => ?_) (fun h => absurd (by omega) h);refine ih2 _ ?_;rw [hx,take_map _ l i hi]
   rw [text_at (d + 1) v _ (by rw [if_neg h0,if_neg h1,if_neg h2,if_neg h4])];simp only [h5,if_true,hi,Option.getD_some]
  have h6 : v.f0=5:=by unfold Shape at hs;omega
  obtain ⟨e,l,he2,hi,hn,hl⟩:=right_five h h6;obtain rfl : d=e:=by omega
  have hit:=fields_some _ v.f2 [] l hi (by simp;omega);have hll:=fds_size _ _ l hi (by omega);have htot:=fds_esz _ _ l hi;have hlens:=lens_word hl;simp only [F5.f];refine Eve.bind hit ?_;simp only [List.nil_append];have hm:=map_bl (fun f : IFld => f.f0.data.toList ++ 58 :: textL d f.f1) l;have hle : Lib.lens (l.map (fun f => f.f0.data.toList ++ 58 :: textL d f.f1)) + l.length≤1000000:=by omega
  have hj:=join_le (l.map (fun f => f.f0.data.toList ++ 58 :: textL d f.f1));rw [List.length_map] at hj;refine (ev_loop0 l (fun k (x : List ByteArray) i => F2.l1 k x l (l.length : Int) i) (fun _ _ _ => bl (123 :: (Lib.join (l.map (fun f => f.f0.data.toList ++ 58 :: textL d f.f1)) [44] ++ [125]))) (fun i x => x=(l.take i).map (fun f => bl (f.f0.data.toList ++ 58 :: textL d f.f1))) (fun x hx => ?_) (fun i hi x hx ih2 => ?_) [] (by rfl)).eq ?_
  ·
   rw [List.take_length] at hx
   subst hx;simp only [F2.l1];refine Eve.ite (fun h => absurd h (by omega)) (fun _ => ?_);rw [join_impl _ (by rw [hm];simpa using hle)];simp only [Option.bind_some];rw [hm];refine Eve.ite (fun _ => ?_) (fun h => absurd (by rw [bl_size];omega) h);refine Eve.ite (fun _ => Eve.one.eq (wrap_list _ _ _)) (fun h => absurd (by rw [size_22];omega) h)
  ·
   have hr:=List.all_eq_true.1 hl _ (List.getElem_mem hi)
   have hxl : x.length≤300:=by rw [hx,List.length_map,List.length_take];omega
   have hsz:=(hll.2 _ (List.getElem_mem hi)).1;have htl:=text_len d l[i].f1 hr
   have h33 : (textL d l[i].f1).length≤1000000:=by
    have:=right_300 hr;have : esz l[i].f1≤303:=by unfold esz;split;omega;split;omega;split;omega;omega
    omega
   simp only [F2.l1,rdF l i hi,wi (show i≤9223372036854775806 by omega)];refine Eve.ite (fun _ => ?_) (fun h => absurd (by omega) h);refine Eve.ite (fun _ => ?_) (fun h => absurd (by omega) h);refine Eve.ite (fun _ => ?_) (fun h => absurd (by omega) h);refine Eve.ite (fun _ => ?_) (fun h => absurd (by omega) h);refine Eve.bind (ih l[i].f1 hr) ?_;refine Eve.ite (fun _ => ?_) (fun h => absurd (by rw [ByteArray.size_append,bl_size];show l[i].f0.size + 1 + _≤_;omega) h);refine Eve.ite (fun _ => ?_) (fun h => absurd (by omega) h);refine ih2 _ ?_;rw [hx,word_of,take_map _ l i hi]
  rw [text_at (d + 1) v _ (by rw [if_neg h0,if_neg h1,if_neg h2,if_neg h4])];simp only [if_neg h5,hi,Option.getD_some]
theorem val_spec : ∀ (d : Nat) (v : IVal),rightV d v=true→Eve (fun k => F3.f k v.f0 v.f1 v.f2) (bl (textL d v)):=by
 intro d
 induction d with
 | zero =>
  intro v h;have hs:=right_shape 0 v h;have h3:=right_300 h;refine Eve.succ ?_;simp only [F3.f,Option.bind_some];refine Eve.ite (fun h0 => Eve.one.eq (by rw [text_at 0 v _ (by rw [if_pos h0])];rfl)) (fun h0 => ?_);refine Eve.ite (fun h1 => ?_) (fun h1 => ?_)
  ·
   rw [text_at 0 v _ (by rw [if_neg h0,if_pos h1])]
   refine Eve.ite (fun hb => Eve.one.eq (by rw [if_pos hb];rfl)) (fun hb => Eve.one.eq (by rw [if_neg hb];rfl))
  refine Eve.ite (fun h2 => ?_) (fun h2 => ?_)
  ·
   have hv : -1000000000000≤v.f1∧v.f1≤1000000000000:=by unfold Shape at hs;omega
   rw [text_at 0 v _ (by rw [if_neg h0,if_neg h1,if_pos h2])];exact Eve.bind (digits_tells v.f1 hv.1 hv.2) Eve.one
  refine Eve.ite (fun h4 => ?_) (fun h4 => ?_)
  ·
   rw [text_at 0 v _ (by rw [if_neg h0,if_neg h1,if_neg h2,if_pos h4])]
   refine Eve.ite (fun _ => ?_) (fun h => absurd (by omega) h);refine Eve.ite (fun _ => Eve.one.eq (quoted v.f2)) (fun h => absurd (by rw [ByteArray.size_append];show 1 + v.f2.size + 1≤_;omega) h)
  have h9 : flat v=true:=h;unfold flat at h9;rw [if_neg h0,if_neg h1,if_neg h2,if_neg h4] at h9
  cases h9
 | succ d ih =>
  intro v h;have hs:=right_shape _ v h;have h3:=right_300 h;refine Eve.succ ?_;simp only [F3.f,Option.bind_some];refine Eve.ite (fun h0 => Eve.one.eq (by rw [text_at _ v _ (by rw [if_pos h0])];rfl)) (fun h0 => ?_);refine Eve.ite (fun h1 => ?_) (fun h1 => ?_)
  ·
   rw [text_at _ v _ (by rw [if_neg h0,if_pos h1])]
   refine Eve.ite (fun hb => Eve.one.eq (by rw [if_pos hb];rfl)) (fun hb => Eve.one.eq (by rw [if_neg hb];rfl))
  refine Eve.ite (fun h2 => ?_) (fun h2 => ?_)
  ·
   have hv : -1000000000000≤v.f1∧v.f1≤1000000000000:=by unfold Shape at hs;omega
   rw [text_at _ v _ (by rw [if_neg h0,if_neg h1,if_pos h2])];exact Eve.bind (digits_tells v.f1 hv.1 hv.2) Eve.one
  refine Eve.ite (fun h4 => ?_) (fun h4 => ?_)
  ·
   rw [text_at _ v _ (by rw [if_neg h0,if_neg h1,if_neg h2,if_pos h4])]
   refine Eve.ite (fun _ => ?_) (fun h => absurd (by omega) h);refine Eve.ite (fun _ => Eve.one.eq (quoted v.f2)) (fun h => absurd (by rw [ByteArray.size_append];show 1 + v.f2.size + 1≤_;omega) h)
  refine Eve.ite (fun h5 => ?_) (fun h5 => ?_)
  ·
   obtain ⟨e,l,he2,hi,hl⟩:=right_four h h5
   obtain rfl : d=e:=by omega
   have hit:=items_spec _ v.f2 [] (Nat.le_refl _) (by omega) (by simp;omega);have hll:=(its_size _ _ l hi (by omega)).1;have htot:=its_esz _ _ l hi;have hlens:=lens_text hl;rw [hi] at hit;simp only [Fd.f];refine Eve.bind hit ?_;simp only [toldL,List.nil_append];have hm:=map_bl (textL d) l;have hle : Lib.lens (l.map (textL d)) + l.length≤1000000:=by omega
   have hj:=join_le (l.map (textL d));rw [List.length_map] at hj;refine (ev_loop0 l (fun k (x : List ByteArray) i => F3.l0 k x l i) (fun _ _ _ => bl (91 :: (Lib.join (l.map (textL d)) [44] ++ [93]))) (fun i x => x=(l.take i).map (fun y => bl (textL d y))) (fun x hx => ?_) (fun i hi x hx ih2 => ?_) [] (by rfl)).eq ?_
   ·
    rw [List.take_length] at hx
    subst hx;simp only [F3.l0];refine Eve.ite (fun h => absurd h (by omega)) (fun _ => ?_);refine Eve.bind (join_spec _ (by rw [hm];simpa using hle)) ?_;rw [hm];refine Eve.ite (fun _ => ?_) (fun h => absurd (by rw [bl_size];omega) h);refine Eve.ite (fun _ => Eve.one.eq (wrap_list _ _ _)) (fun h => absurd (by rw [size_22];omega) h)
   ·
    have hr:=List.all_eq_true.1 hl _ (List.getElem_mem hi)
    have hxl : x.length≤300:=by rw [hx,List.length_map,List.length_take];omega
    simp only [F3.l0,rdV l i hi,wi (show i≤9223372036854775806 by omega)];refine Eve.ite (fun _ => ?_) (fun h => absurd (by omega) h);refine Eve.ite (fun _ => ?_) (fun h => absurd (by omega) h);refine Eve.bind (ih l[i] hr) ?_;refine Eve.ite (fun _ => ?_) (fun h => absurd (by omega) h);refine ih2 _ ?_;rw [hx,take_map _ l i hi]
   rw [text_at (d + 1) v _ (by rw [if_neg h0,if_neg h1,if_neg h2,if_neg h4])];simp only [h5,if_true,hi,Option.getD_some]
  have h6 : v.f0=5:=by unfold Shape at hs;omega
  obtain ⟨e,l,he2,hi,hn,hl⟩:=right_five h h6;obtain rfl : d=e:=by omega
  have hit:=fields_spec _ v.f2 [] (Nat.le_refl _) (by omega) (by simp;omega);have hll:=fds_size _ _ l hi (by omega);have htot:=fds_esz _ _ l hi;have hlens:=lens_word hl;rw [hi] at hit;simp only [Fc.f];refine Eve.bind hit ?_;simp only [toldF,List.nil_append];have hm:=map_bl (fun f : IFld => f.f0.data.toList ++ 58 :: textL d f.f1) l;have hle : Lib.lens (l.map (fun f => f.f0.data.toList ++ 58 :: textL d f.f1)) + l.length≤1000000:=by omega
  have hj:=join_le (l.map (fun f => f.f0.data.toList ++ 58 :: textL d f.f1));rw [List.length_map] at hj;refine (ev_loop0 l (fun k (x : List ByteArray) i => F3.l1 k x l i) (fun _ _ _ => bl (123 :: (Lib.join (l.map (fun f => f.f0.data.toList ++ 58 :: textL d f.f1)) [44] ++ [125]))) (fun i x => x=(l.take i).map (fun f => bl (f.f0.data.toList ++ 58 :: textL d f.f1))) (fun x hx => ?_) (fun i hi x hx ih2 => ?_) [] (by rfl)).eq ?_
  ·
   rw [List.take_length] at hx
   subst hx;simp only [F3.l1];refine Eve.ite (fun h => absurd h (by omega)) (fun _ => ?_);refine Eve.bind (join_spec _ (by rw [hm];simpa using hle)) ?_;rw [hm];refine Eve.ite (fun _ => ?_) (fun h => absurd (by rw [bl_size];omega) h);refine Eve.ite (fun _ => Eve.one.eq (wrap_list _ _ _)) (fun h => absurd (by rw [size_22];omega) h)
  ·
   have hr:=List.all_eq_true.1 hl _ (List.getElem_mem hi)
   have hxl : x.length≤300:=by rw [hx,List.length_map,List.length_take];omega
   have hsz:=(hll.2 _ (List.getElem_mem hi)).1;have htl:=text_len d l[i].f1 hr
   have h33 : (textL d l[i].f1).length≤1000000:=by
    have:=right_300 hr;have : esz l[i].f1≤303:=by unfold esz;split;omega;split;omega;split;omega;omega
    omega
   simp only [F3.l1,rdF l i hi,wi (show i≤9223372036854775806 by omega)];refine Eve.ite (fun _ => ?_) (fun h => absurd (by omega) h);refine Eve.ite (fun _ => ?_) (fun h => absurd (by omega) h);refine Eve.ite (fun _ => ?_) (fun h => absurd (by omega) h);refine Eve.bind (ih l[i].f1 hr) ?_;refine Eve.ite (fun _ => ?_) (fun h => absurd (by rw [ByteArray.size_append,bl_size];show l[i].f0.size + 1 + _≤_;omega) h);refine Eve.ite (fun _ => ?_) (fun h => absurd (by omega) h);refine ih2 _ ?_;rw [hx,word_of,take_map _ l i hi]
  rw [text_at (d + 1) v _ (by rw [if_neg h0,if_neg h1,if_neg h2,if_neg h4])];simp only [if_neg h5,hi,Option.getD_some]
theorem FnExactValueText : Fv.Pure:=by
 rintro x ⟨_,_,hv⟩;refine Eve.get (g:=fun k => Fv.f k x.f0 x.f1 x.f2) ?_;simp only [Fv.f];rw [szValue_tells x hv (by omega) (by omega)];simp only [Option.bind_some]
 by_cases h : (1048576 : Int) - x.f2.size<0
 ·
  rw [if_pos h];exact Eve.ite (fun _ => Eve.one) (fun h => absurd (by omega) h)
 rw [if_neg h];refine Eve.ite (fun _ => Eve.one) (fun _ => ?_);simp only [toValue_tells,Option.bind_some];have t1:=ok_spec (iv x) (by show x.f2.size≤_;omega);have t2:=ok_impl (iv x) (by show x.f2.size≤_;omega)
 cases hr : rightV 5 (iv x) with
 | false =>
  rw [hr] at t1 t2;refine Eve.bind (v:=((⟨#[]⟩ : ByteArray),(1 : Int))) ?_ (Eve.bind (v:=((⟨#[]⟩ : ByteArray),(1 : Int))) ?_ ?_)
  ·
   simp only [Fq.f]
   refine Eve.bind t1 ?_;simp only [Bool.false_eq_true,if_false];exact Eve.one
  ·
   simp only [Fn.f]
   refine Eve.bind t2 ?_;simp only [Bool.false_eq_true,if_false];exact Eve.one
  simp only [if_true];exact Eve.one
 | true =>
  rw [hr] at t1 t2;have a1:=val_spec 5 (iv x) hr;have a2:=val_impl 5 (iv x) hr;refine Eve.bind (v:=(bl (textL 5 (iv x)),(0 : Int))) ?_ (Eve.bind (v:=(bl (textL 5 (iv x)),(0 : Int))) ?_ ?_)
  ·
   simp only [Fq.f]
   refine Eve.bind t1 ?_;simp only [if_true];exact Eve.bind a1 Eve.one
  ·
   simp only [Fn.f]
   refine Eve.bind t2 ?_;simp only [if_true];exact Eve.bind a2 Eve.one
  simp only [if_true];exact Eve.one
end Go.Proofs.YtjaknpeeopkojaaDoor.Pure
end
section
namespace Go.Proofs.YtjaknpeeopkojaaDoor.fnExactValueText
open Go.Proofs.YtjaknpeeopkojaaDoorW.PrintMore Go.ChangeShapes Go.WideShapes Go.ChangeAt Go.RowKit Go.Proofs.YtjaknpeeopkojaaDoorW.PrintWords Go.Proofs.YtjaknpeeopkojaaDoorW.PrintOpen Go.Proofs.YtjaknpeeopkojaaDoor.Q
open Go.ChangeMaps (open_string shut_string)
set_option linter.unusedVariables false
abbrev laid1 : List (String × DataW Unit) := [("math/bits.deBruijn32tab", Rows.laid_math_bits_deBruijn32tab), ("math/bits.deBruijn64tab", Rows.laid_math_bits_deBruijn64tab), ("internal/strconv.uint64pow10", Rows.laid_internal_strconv_uint64pow10)]
theorem door_met (os : Os) (args : Array Value) : laidMetH Tryd.prog laid1 ((World.doorLaid Tryd.prog 24 os).forCall (fun _ _ => 0) ⟨#[],args,[]⟩).memory :=
 laidMetH_of_parts3 (fuel:=8) (laidMet_of_run' 8 (by kernel_rfl) (by kernel_rfl)) (by kernel_rfl) (by kernel_rfl)
theorem own : ownKnob Tryd.prog.godebug=none:=by kernel_rfl
theorem laidOut : laidOutB Tryd.prog=true:=by kernel_rfl
set_option maxRecDepth 100000 in
theorem lifted (os : Os) (started : os.Started) (H : Type) (enc : TypeId×Value→H) :
  ReturnsInHanded {} Tryd.checked os 3 .any (fun w args => (Rows.fnExactValueTextSpec.pre enc Tryd.prog Tryd.f3 [] false w args∧laidMetH Tryd.prog laid1 w)∧sizedMet enc Tryd.prog Tryd.f3 (OpenSpec.ofChange Rows.fnExactValueTextSpec) false w args)
   (Rows.fnExactValueTextSpec.post enc Tryd.prog Tryd.f3 false true false false):=by
 refine returnsInHanded_of_change_and (C:=Tryd.checked) (X:=fun w _ => laidMetH Tryd.prog laid1 w) (fun _ _ _ hh h => h.of_heap hh) own started (by kernel_rfl) Tryd.func3
  (ChangeSpec.witness_shaped (enc:=enc) (C:=Tryd.checked) (os:=os) (X:=fun w _ => laidMetH Tryd.prog laid1 w) false (World.doorLaid Tryd.prog 24 os) #[.agg #[.int .i64 0,.int .i64 0,.string ByteArray.empty]] 8 rfl (World.shaped_of_RefB (by kernel_rfl) (by kernel_rfl)) (by kernel_rfl) (by kernel_rfl) (by kernel_rfl) (door_met os _)) ?_
 intro W base args ds gs before hval0 hW hcnd hsz0 hL _
 have hval : ∀ (j : Nat) t v,Tryd.f3.params[j]? = some t→args[j]? = some v→Value.okWide Tryd.prog W .any base t v:=hval0
 have hW':=hW
 obtain ⟨p,q,hA0,hV,rfl,hfz,hnd⟩:=hW
 have hA : DataW.TrodAll enc Tryd.prog W 0 (fun _ => true) true Tryd.f3.params.toList args.toList ds p:=hA0
 rw [Tryd.params3] at hA hval
 obtain ⟨v0,vs0,d0,ds0,p0,q0,hargs,rfl,rfl,h0,r0⟩:=trodAll_cons hA
 obtain ⟨rfl,rfl,rfl⟩:=trodAll_nil r0
 obtain rfl : args = #[v0]:=by cases args;simp_all
 obtain ⟨rfl,rfl⟩:=trodVars_none hV
 have t0:=h0
 have lt0 : ∀ x ∈ p0,x.block<W.heap.size:=by obtain ⟨m,hm⟩:=t0;exact DataW.trod_lt m _ _ _ hm
 obtain ⟨x0,cs0,rfl,K0,g0⟩:=arg_struct Tryd.underlying23 opens23 (hval 0 23 v0 rfl rfl) h0
 obtain rfl:=k23_open K0
 clear hA0 hval0 hsz0
 obtain ⟨k,hp⟩:=Pure.FnExactValueText x0 g0
 have hL2 : laidMet Tryd.prog laid1 W:=by rw [MakeChecks.laidMetH_plain _ _ _ (by kernel_rfl)] at hL;exact hL
 have htab : Pow10 W := Lib.tabIs_of_head (name := "internal/strconv.uint64pow10") (k := .u64) (zs := Lib.pow10Tab) (rest := []) (t := 90) (e := 75) (n := 20) powVar (by kernel_rfl) (by kernel_rfl) (by kernel_rfl) (by kernel_rfl) (by kernel_rfl) (laidMet.tail (laidMet.tail hL2))
 refine (Fv.calls k x0.f0 x0.f1 x0.f2 true W  hp htab).mono fun e W' ⟨he,bel0⟩ => ?_
 have bel : Below W.heap.size W W':=bel0
 subst he
 exact ⟨_,rfl,_,_,_,[],_,[],hW',trodAll_mk1 (shut_bool Tryd.underlying4 _),(trodAll_cons_mk (Below.trod laidOut (by kernel_rfl) (of_decide_eq_true (by kernel_rfl)) t0 bel lt0) trodAll_mk0),rfl,bel.frame _,fun h => by cases h⟩
theorem over : Rows.fnExactValueTextRow.holds Tryd.pinned (OpenSpec.ofChange Rows.fnExactValueTextSpec) :=
 OpenClaim.holds_of_wide 3 Tryd.f3 rfl rfl rfl rfl rfl rfl rfl ⟨rfl,rfl,rfl,rfl,rfl⟩ rfl rfl rfl rfl rfl (by kernel_rfl) Tryd.func3 (by kernel_rfl)
  (of_decide_eq_true (by kernel_rfl)) (by unfold Func.isWrapper;first|(rw [if_pos (by decide +kernel)];kernel_rfl)|(rw [if_neg (by decide +kernel)];exact ⟨rfl,rfl⟩))
  (fun os started H enc _ => lifted os started H enc)
theorem card : Rows.FnExactValueTextCardSaid :=
 Claim7.holds_tied_plain_at .later [] _ true _ false
  over (fun _ h => by cases h) (by kernel_rfl) (fun _ h => by cases h) fnExactValueText_row_tie rfl ⟨rfl,rfl⟩ (by kernel_rfl) rfl
  (fun f fn hf hfn => by
   obtain rfl : f = 3 := Option.some.inj ((show Tryd.prog.funcNamed "loop.example/g00380/laws.FnExactValueText" = some 3 by kernel_rfl).symm.trans hf) |>.symm
   obtain rfl : fn=Tryd.f3:=(Option.some.inj (Tryd.func3.symm.trans hfn)).symm
   exact ⟨by kernel_rfl,fun j t ht => by
    rw [Tryd.params3] at ht
    have hm : t ∈ [23]:=by simpa using Array.mem_of_getElem? ht
    have hall : ([23].all fun u => !Tryd.prog.wantsStandIn u)=true:=by kernel_rfl
    exact (show Tryd.prog.wantsStandIn t=false by simpa using List.all_eq_true.1 hall t hm)⟩)
  (by kernel_rfl)
#print axioms card
end Go.Proofs.YtjaknpeeopkojaaDoor.fnExactValueText
namespace Go.Proofs.YtjaknpeeopkojaaDoor
theorem fnExactValueText_holds : Rows.FnExactValueTextCardSaid:=fnExactValueText.card
end Go.Proofs.YtjaknpeeopkojaaDoor
end
